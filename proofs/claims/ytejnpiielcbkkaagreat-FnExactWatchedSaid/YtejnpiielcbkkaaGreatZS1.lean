/- A part of what stands under the laws of this seat: an abstract evaluator that is proved sound, and contracts of functions by it. No condition beside those that stand in each statement. -/
import Derived.Test.YtejnpiielcbkkaaGreatZK14
set_option linter.unusedVariables false
set_option linter.unusedSimpArgs false
set_option maxRecDepth 100000
set_option maxHeartbeats 4000000
namespace Go.Proofs.YtejnpiielcbkkaaGreat.E
theorem inB_of {n lo hi : Int} (h1 : lo ≤ n) (h2 : n ≤ hi) : inB n lo hi = true := inB_iff.2 ⟨h1, h2⟩
theorem cores_self {xs : List Core} {k : Nat} (h : k < xs.length) : xs.set k ⟨(xs.getD k coreZ).regs, (xs.getD k coreZ).pc, (xs.getD k coreZ).process⟩ = xs := by
  apply List.ext_getElem?
  intro i
  by_cases hi : k = i
  · subst hi; simp [h]
  · rw [List.getElem?_set_ne hi]
theorem gates_self {xs : List Gate} {k : Nat} (h : k < xs.length) : xs.set k ⟨(xs.getD k gateZ).owner, (xs.getD k gateZ).waits, (xs.getD k gateZ).queues⟩ = xs := by
  apply List.ext_getElem?
  intro i
  by_cases hi : k = i
  · subst hi; simp [h]
  · rw [List.getElem?_set_ne hi]
/-! ### The reference: what is told, unlocked -/
def tellS (m : Machine) (p k n : Int) : Machine := ⟨m.image, m.mem, m.cores, m.kernel, m.input, m.events ++ [⟨p, k, n⟩], m.stopped⟩
theorem tellM_8 {m : Machine} {p n : Int} : tellM m p 8 n = ⟨m.image, m.mem, m.cores, m.kernel, m.input, m.events ++ [⟨p, 8, n⟩], true⟩ := by
  unfold tellM
  cases m.stopped <;> rfl
theorem sTell_ok (m : Machine) (p k n : Int) (hm : m.events.length ≤ 137438953472) : CallOk Tryz.prog 194 [.one (.box (machineT m)), .one (iV p), .one (iV k), .one (iV n)] (.tup []) [some (.box (machineT (tellS m p k n))), none, none, none] := by
  refine callOk_of_hcall 40 (hcall_of_body Tryz.func194 rfl (by kernel_rfl) ?_)
  simp (disch := omega) only [go_sem, Tryz.ntmps194, Tryz.results194]
  have x1 := @tellS.eq_1
  exact wk
theorem sFault_ok (m : Machine) (p n : Int) (hm : m.events.length ≤ 137438953472) : CallOk Tryz.prog 132 [.one (.box (machineT m)), .one (iV p), .one (iV n)] (.tup []) [some (.box (machineT (tellM m p 8 n))), none, none] := by
  have e := tellM_8 (m := m) (p := p) (n := n)
  refine callOk_of_hcall 40 (hcall_of_body Tryz.func132 rfl (by kernel_rfl) ?_)
  simp (disch := omega) only [go_sem, Tryz.ntmps132, Tryz.results132]
  have x1 := @tellS.eq_1
  have x2 := sTell_ok m p 8 n hm
  exact wk
theorem sUnlock_ok (m : Machine) (nx : Int) (hm : mdMachine m) : CallOk Tryz.prog 239 [.one (.box (machineT m)), .one (iV nx)] (.tup []) [some (.box (machineT (unlockM m nx))), none] := by
  obtain ⟨hi, hme, ⟨hc, hcs⟩, ⟨⟨hg1, hg2⟩, hkr, ⟨hks, hks2⟩, hko⟩, hin, hev, hevs⟩ := hm
  cases hmm : decide ((0 : Int) < (m.mem.length : Int)) <;> cases h1 : inB nx 0 ((m.kernel.saved.length : Int) - 1) <;> cases h2 : hasI m.kernel.ready nx
  all_goals have hmm1 := hmm
  all_goals (first | replace hmm1 := set_none hmm1 | have hmz := of_decide_eq_true hmm)
  all_goals
   refine callOk_of_hcallF 40 ?_
   simp (disch := omega) only [go_sem]
   refine hcall_names (names_at 0 0 (machineT m) rfl (by with_reducible rfl) (by simp (disch := omega) only [go_sem])) ?_
   simp (disch := omega) only [go_sem]
   refine hcall_of_body Tryz.func239 rfl (by kernel_rfl) ?_
   simp (disch := omega) only [go_sem, Tryz.ntmps239, Tryz.results239]
   repeat' (first | (with_reducible first | refine i_seq ?_) | ((first | (with_reducible first | refine i_block ?_ | refine i_regionQ (fun Q' hQ => ?_) | (refine Imp.go hQ ?_; clear hQ) | refine aL_run ?_) | ((with_reducible refine i_condT ?_ ?_); (focus (simp only [go_sem, *]; done))) | ((with_reducible refine i_condF ?_ ?_); (focus (simp only [go_sem, *]; done))) | ((with_reducible first | refine resOk_g (fun h => ?_) (fun h => ?_) | refine i_cond (by simp only [go_sem, *] <;> rfl) (fun h => ?_) (fun h => ?_)) <;> (try simp only [Bool.not_eq_eq_eq_not, Bool.not_true, Bool.not_false, reduceCtorEq] at h) <;> (try have h' := of_decide_eq_true h) <;> (try (have hz : (_ : Int) = (_ : Int) := h'; clear hz h')) <;> (try have h' := of_decide_eq_false h) <;> (try have h' := inB_t h) <;> (try (exfalso; omega))) | (((with_reducible first | refine hcall_of_callOk 40 true (specInB_ok nx 0 ((m.kernel.saved.length : Int) - 1)) ?_ ?_ ?_ ?_ ?_ | refine hcall_of_callOk 40 true (specIn_ok m.kernel.ready nx (by omega)) ?_ ?_ ?_ ?_ ?_); iterate 4 (focus (simp (disch := omega) only [go_sem, unlockM, wake, hmm, hmm1, h1, h2, reduceCtorEq, natLe_ok]; done))); simp only [go_sem, unlockM, wake, hmm, hmm1, h1, h2, reduceCtorEq]; refine aL_run ?_)) <;> (try simp (disch := omega) only [go_sem, unlockM, wake, hmm, hmm1, h1, h2, reduceCtorEq, *])) | (refine hcall_of_body (f := 268) Tryz.func268 rfl (by kernel_rfl) ?_; simp (disch := omega) only [go_sem, Tryz.ntmps268, Tryz.results268, unlockM, wake, hmm, hmm1, h1, h2, reduceCtorEq]) | ((first | apply hcall_folds | apply endF_folds); (focus ((first | refine folds_setc 4 rfl (by with_reducible rfl) ?_ ?_ | refine folds_setc 5 rfl (by with_reducible rfl) ?_ ?_ | refine folds_setc 7 rfl (by with_reducible rfl) ?_ ?_); (focus (simp (disch := omega) only [go_sem]; done)); (focus (first | omega | (simp (disch := omega) only [go_sem]; omega))))); (try simp (disch := omega) only [go_sem, unlockM, wake, hmm, hmm1, h1, h2, reduceCtorEq, *])))
   all_goals (try (with_reducible refine endF_k ?_))
   all_goals (try simp (disch := omega) only [EndK, go_sem, unlockM, wake, hmm, hmm1, h1, h2, reduceCtorEq, natLe_ok, *])
end Go.Proofs.YtejnpiielcbkkaaGreat.E
