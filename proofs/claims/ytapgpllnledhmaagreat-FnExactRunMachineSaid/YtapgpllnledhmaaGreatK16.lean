/- A part of what stands under the laws of this seat: an abstract evaluator that is proved sound, and contracts of functions by it. No condition beside those that stand in each statement. -/
import Derived.Test.YtapgpllnledhmaaGreatK14
set_option linter.unusedVariables false
set_option linter.unusedSimpArgs false
section
set_option maxRecDepth 100000
set_option maxHeartbeats 4000000
namespace Go.Proofs.YtapgpllnledhmaaGreat.E
theorem iGate_out2 (m : Machine) (i k n : Int) (hm : mdMachine m) (h0 : 0 ≤ i) (h1 : i < m.cores.length) (hk : k = 3 ∨ k = 4) (hn : 0 ≤ n) (hn2 : n ≤ 4194303) (hg : (m.kernel.gates.length : Int) ≤ n.tdiv 2) :
    CallOk Tryz.prog 97 [.one (.box (machineT m)), .one (iV i), .one (iV k), .one (iV n)] (.tup []) [some (.box (machineT (tellM m (procM m i) 8 4))), none, none, none] := by
  have ed := Int.tdiv_eq_ediv_of_nonneg (b := 2) hn
  have hd0 : 0 ≤ n.tdiv 2 := by omega
  have hd1 : n.tdiv 2 ≤ n := by omega
  clear ed
  obtain ⟨hi, hme, ⟨hc, hcs⟩, hk, hin, hev, hevs⟩ := hm
  obtain ⟨⟨hg1, hg2⟩, hk1⟩ := hk
  have hil : i.toNat < m.cores.length := by omega
  rcases ‹k = 3 ∨ k = 4› with rfl | rfl
  all_goals
    refine callOk_of_hcallF 40 ?_
    simp (disch := omega) only [go_sem]
    refine hcall_names (names_at 0 0 (machineT m) rfl (by with_reducible rfl) (by simp (disch := omega) only [go_sem])) ?_
    simp (disch := omega) only [go_sem]
    refine hcall_of_body Tryz.func97 rfl (by kernel_rfl) ?_
    simp (disch := omega) only [go_sem, Tryz.ntmps97, Tryz.results97]
    repeat' (first | (with_reducible first | refine i_seq ?_) | ((first | (with_reducible first | refine i_block ?_ | refine i_regionQ (fun Q' hQ => ?_) | (refine Imp.go hQ ?_; clear hQ)) | ((with_reducible refine i_condT ?_ ?_); (focus (simp only [go_sem, *]; done))) | ((with_reducible refine i_condF ?_ ?_); (focus (simp only [go_sem, *]; done))) | ((with_reducible first | refine resOk_g (fun h => ?_) (fun h => ?_) | refine i_cond (by simp only [go_sem, *] <;> rfl) (fun h => ?_) (fun h => ?_)) <;> (try simp only [Bool.not_eq_eq_eq_not, Bool.not_true, Bool.not_false, reduceCtorEq] at h) <;> (try have h' := of_decide_eq_true h) <;> (try (have hz : (_ : Int) = (_ : Int) := h'; clear hz h')) <;> (try have h' := of_decide_eq_false h) <;> (try have h' := inB_t h) <;> (try (exfalso; omega))) | (((with_reducible first | refine hcall_of_callOk 40 true (iTell_ok m (m.cores.getD i.toNat coreZ).process 8 4 (by omega)) ?_ ?_ ?_ ?_ ?_); iterate 4 (focus (simp (disch := omega) only [go_sem, procM, Int.reduceBEq, Int.reduceBNe, Int.reduceNeg, Int.reduceLE, Int.reduceLT, Int.reduceEq, natLe_ok]; done))); simp only [go_sem, procM, Int.reduceBEq, Int.reduceBNe, Int.reduceNeg, Int.reduceLE, Int.reduceLT, Int.reduceEq]; refine aL_run ?_)) <;> (try simp (disch := omega) only [go_sem, procM, Int.reduceBEq, Int.reduceBNe, Int.reduceNeg, Int.reduceLE, Int.reduceLT, Int.reduceEq, *])) | ((first | apply hcall_folds | apply endF_folds); (focus ((first | refine folds_setc 4 rfl (by with_reducible rfl) ?_ ?_ | refine folds_setc 5 rfl (by with_reducible rfl) ?_ ?_ | refine folds_setc 7 rfl (by with_reducible rfl) ?_ ?_); (focus (simp (disch := omega) only [go_sem]; done)); (focus (first | omega | (simp (disch := omega) only [go_sem]; omega))))); (try simp (disch := omega) only [go_sem, procM, Int.reduceBEq, Int.reduceBNe, Int.reduceNeg, Int.reduceLE, Int.reduceLT, Int.reduceEq, *])))
    all_goals (try (with_reducible refine endF_k ?_))
    all_goals (try simp (disch := omega) only [EndK, go_sem, procM, Int.reduceBEq, Int.reduceBNe, Int.reduceNeg, Int.reduceLE, Int.reduceLT, Int.reduceEq, natLe_ok, *])
end Go.Proofs.YtapgpllnledhmaaGreat.E
end
section
set_option maxRecDepth 100000
set_option maxHeartbeats 4000000
namespace Go.Proofs.YtapgpllnledhmaaGreat.E
/-! ### Picks -/
def badPick (n : Int) : Bool := decide (n < 0)
theorem badPick_ok (n : Int) : CallOk Tryz.prog 77 [.one (iV n)] (.s (.one (bV (badPick n)))) [none] := by
  refine callOk_of_hcall 40 (hcall_of_body Tryz.func77 rfl (by kernel_rfl) ?_)
  simp (disch := omega) only [go_sem, Tryz.ntmps77, Tryz.results77]
  repeat' (first | (with_reducible first | refine i_seq ?_) | ((first | (with_reducible first | refine i_block ?_ | refine i_regionQ (fun Q' hQ => ?_) | (refine Imp.go hQ ?_; clear hQ)) | ((with_reducible refine i_condT ?_ ?_); (focus (simp only [go_sem, *]; done))) | ((with_reducible refine i_condF ?_ ?_); (focus (simp only [go_sem, *]; done))) | ((with_reducible first | refine resOk_g (fun h => ?_) (fun h => ?_) | refine i_cond (by simp only [go_sem, *] <;> rfl) (fun h => ?_) (fun h => ?_)) <;> (try simp only [Bool.not_eq_eq_eq_not, Bool.not_true, Bool.not_false, reduceCtorEq] at h) <;> (try have h' := of_decide_eq_true h) <;> (try (have hz : (_ : Int) = (_ : Int) := h'; clear hz h')) <;> (try have h' := of_decide_eq_false h) <;> (try have h' := inB_t h) <;> (try (exfalso; omega)))) <;> (try simp (disch := omega) only [go_sem, badPick, *])))
  all_goals (try simp (disch := omega) only [EndK, go_sem, badPick, natLe_ok, *])
def picksOk (xs : List Int) (most : Int) : Bool := if decide ((xs.length : Int) ≤ most) = true then !xs.any badPick else false
theorem iPicksOk_ok (xs : List Int) (most : Int) (hs : xs.length ≤ 1099511627776) : CallOk Tryz.prog 44 [.one (.ro 1 (intsD xs)), .one (iV most)] (.s (.one (bV (picksOk xs most)))) [none, none] := by
  cases h1 : decide ((xs.length : Int) ≤ most) <;> cases h2 : xs.any badPick
  all_goals
    refine callOk_of_hcall 40 (hcall_of_body Tryz.func44 rfl (by kernel_rfl) ?_)
    simp (disch := omega) only [go_sem, Tryz.ntmps44, Tryz.results44]
    repeat' (first | (with_reducible first | refine i_seq ?_) | ((first | (with_reducible first | refine i_block ?_ | refine i_regionQ (fun Q' hQ => ?_) | (refine Imp.go hQ ?_; clear hQ)) | ((with_reducible refine i_condT ?_ ?_); (focus (simp only [go_sem, *]; done))) | ((with_reducible refine i_condF ?_ ?_); (focus (simp only [go_sem, *]; done))) | ((with_reducible first | refine resOk_g (fun h => ?_) (fun h => ?_) | refine i_cond (by simp only [go_sem, *] <;> rfl) (fun h => ?_) (fun h => ?_)) <;> (try simp only [Bool.not_eq_eq_eq_not, Bool.not_true, Bool.not_false, reduceCtorEq] at h) <;> (try have h' := of_decide_eq_true h) <;> (try (have hz : (_ : Int) = (_ : Int) := h'; clear hz h')) <;> (try have h' := of_decide_eq_false h) <;> (try have h' := inB_t h) <;> (try (exfalso; omega))) | (((with_reducible first | refine hcall_of_callOk 40 true (hasF_ok 77 badPick badPick_ok xs hs) ?_ ?_ ?_ ?_ ?_); iterate 4 (focus (simp (disch := omega) only [go_sem, picksOk, h1, h2, natLe_ok]; done))); simp only [go_sem, picksOk, h1, h2]; refine aL_run ?_)) <;> (try simp (disch := omega) only [go_sem, picksOk, h1, h2, *])))
    all_goals (try simp (disch := omega) only [EndK, go_sem, picksOk, h1, h2, natLe_ok, *])
end Go.Proofs.YtapgpllnledhmaaGreat.E
end
