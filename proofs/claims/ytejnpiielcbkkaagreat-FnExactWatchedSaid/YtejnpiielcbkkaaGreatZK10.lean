/- A part of what stands under the laws of this seat: an abstract evaluator that is proved sound, and contracts of functions by it. No condition beside those that stand in each statement. -/
import Derived.Test.YtejnpiielcbkkaaGreatZK9
import Derived.Test.YtejnpiielcbkkaaGreatZK5
import Derived.Test.YtejnpiielcbkkaaGreatZE2
set_option linter.unusedVariables false
set_option linter.unusedSimpArgs false
section
set_option maxRecDepth 100000
set_option maxHeartbeats 4000000
namespace Go.Proofs.YtejnpiielcbkkaaGreat.E
theorem iStepCore_ok (c : Core) (text mem : List Int) (hc : mdCore c) (ht : text.length ≤ 1099511627776) (hm : mem.length ≤ 1099511627776) :
    CallOk Tryz.prog 148 [.agg (coreR c), .one (.ro 1 (intsD text)), .one (.ro 1 (intsD mem))] (.tup [.agg (coreT (stepCore c text mem).1), .one (.own 1 (intsT (stepCore c text mem).2.1)), .one (iV (stepCore c text mem).2.2)]) [none, none, none] := by
  cases hb : stepBad c text mem
  · rcases hw : wordAt text c.pc with ⟨x, ok⟩
    cases ok
    · exfalso
      unfold stepBad at hb
      rw [hw, if_pos (.inr rfl)] at hb
      cases hb
    · obtain ⟨hco, hg⟩ := stepGood hw hb
      have e : stepCore c text mem = stepOp c mem x := by rw [stepCore, hb, if_neg (by simp), hw]
      rw [e]
      have hop := (insOk_bd (wordAt_ins hw).1).1
      obtain ⟨op, a, b, d⟩ := x
      have ho : op = 1 ∨ op = 2 ∨ op = 3 ∨ op = 4 ∨ op = 5 ∨ op = 6 ∨ op = 7 ∨ op = 8 ∨ op = 9 ∨ op = 10 := by dsimp only at hop; omega
      rcases ho with rfl | rfl | rfl | rfl | rfl | rfl | rfl | rfl | rfl | rfl
      · exact iStepCore_1 c text mem a b d hc ht hm hw hco
      · exact iStepCore_2 c text mem a b d hc ht hm hw hco (hg rfl).1 ((hg rfl).2 rfl)
      · exact iStepCore_3 c text mem a b d hc ht hm hw hco (hg rfl).1
      · exact iStepCore_4 c text mem a b d hc ht hm hw hco
      · exact iStepCore_5 c text mem a b d hc ht hm hw hco
      · exact iStepCore_6 c text mem a b d hc ht hm hw hco
      · exact iStepCore_7 c text mem a b d hc ht hm hw hco
      · exact iStepCore_8 c text mem a b d hc ht hm hw hco
      · exact iStepCore_9 c text mem a b d hc ht hm hw hco (hg rfl).1 ((hg rfl).2 rfl)
      · exact iStepCore_10 c text mem a b d hc ht hm hw hco
  · have e : stepCore c text mem = (c, mem, 4) := by rw [stepCore, hb, if_pos rfl]
    rw [e]
    exact iStepCore_bad c text mem hc ht hm hb
/-! ### A kernel: who is picked, held, woken -/
def pickK (k : Kernel) : Kernel × Core × Bool :=
  if ((k.ready.length : Int) == 0) = true then (k, newCore, false)
  else if inB (k.ready.getD 0 0) 0 ((k.saved.length : Int) - 1) = false then (k, newCore, false)
  else (⟨k.gates, k.ready.drop 1, k.saved, k.over⟩, k.saved.getD (k.ready.getD 0 0).toNat coreZ, true)
def hold (k : Kernel) (c : Core) : Kernel := if inB c.process 0 ((k.saved.length : Int) - 1) = true then ⟨k.gates, k.ready, k.saved.set c.process.toNat c, k.over⟩ else k
def wake (k : Kernel) (p : Int) : Kernel := if inB p 0 ((k.saved.length : Int) - 1) = true ∧ hasI k.ready p = false then ⟨k.gates, k.ready ++ [p], k.saved, k.over⟩ else k
theorem iWake_ok (k : Kernel) (p : Int) (hk : mdKernel k) : CallOk Tryz.prog 252 [.agg (kernelR k), .one (iV p)] (.s (.agg (kernelT (wake k p)))) [none, none] := by
  have hr : k.ready.length ≤ 1099511627776 := hk.2.1
  have hs : k.saved.length ≤ 68719476736 := hk.2.2.1.1
  cases h1 : inB p 0 ((k.saved.length : Int) - 1) <;> cases h2 : hasI k.ready p
  all_goals
    refine callOk_of_hcall 40 (hcall_of_body Tryz.func252 rfl (by kernel_rfl) ?_)
    simp (disch := omega) only [go_sem, Tryz.ntmps252, Tryz.results252]
    have x1 := @wake.eq_1
    have x2 := copyKernel_ok k hk
    have x3 := within_ok p 0 ((k.saved.length : Int) - 1)
    have x4 := iHas_ok k.ready p (by omega)
    exact wk
theorem iHold_ok (k : Kernel) (c : Core) (hk : mdKernel k) (hc : mdCore c) : CallOk Tryz.prog 271 [.agg (kernelR k), .agg (coreR c)] (.s (.agg (kernelT (hold k c)))) [none, none] := by
  have hs : k.saved.length ≤ 68719476736 := hk.2.2.1.1
  cases h1 : inB c.process 0 ((k.saved.length : Int) - 1)
  ·
    refine callOk_of_hcallF 40 (hcall_of_body Tryz.func271 rfl (by kernel_rfl) ?_)
    simp (disch := omega) only [go_sem, Tryz.ntmps271, Tryz.results271]
    repeat' (first | (with_reducible first | refine i_seq ?_ | exact th_none | refine i_th (id := 3) (.ho [0, 1, 2, 3, 4] (opm 5 [3, 1] [false, true, true] (.ho [6] (opm 7 [] [false, false, false] (.stop))))) mixedT (by kernel_rfl) (fun Q' hQ => ?_)) | ((first | (with_reducible first | refine i_block ?_ | refine i_regionQ (fun Q' hQ => ?_) | (refine Imp.go hQ ?_; clear hQ) | refine th_ho ?_ | refine th_stop ?_ ?_ | refine th_opm ?_ (by kernel_rfl) (aL_run ?_) | refine th_altm ?_ (by kernel_rfl) (aL_run ?_) ?_) | ((with_reducible refine i_condT ?_ ?_); (focus (simp only [go_sem, *]; done))) | ((with_reducible refine i_condF ?_ ?_); (focus (simp only [go_sem, *]; done))) | ((with_reducible first | refine resOk_g (fun h => ?_) (fun h => ?_) | refine i_cond (by simp only [go_sem, *] <;> rfl) (fun h => ?_) (fun h => ?_)) <;> (try simp only [Bool.not_eq_eq_eq_not, Bool.not_true, Bool.not_false, reduceCtorEq] at h) <;> (try have h' := of_decide_eq_true h) <;> (try (have hz : (_ : Int) = (_ : Int) := h'; clear hz h')) <;> (try have h' := of_decide_eq_false h) <;> (try have h' := inB_t h) <;> (try (exfalso; omega))) | (((with_reducible first | refine hcall_of_callOk 40 true (copyKernel_ok k hk) ?_ ?_ ?_ ?_ ?_ | refine hcall_of_callOk 40 true (within_ok c.process 0 ((k.saved.length : Int) - 1)) ?_ ?_ ?_ ?_ ?_ | refine hcall_of_callOk 40 true (copyCore_ok c hc) ?_ ?_ ?_ ?_ ?_); iterate 4 (focus (simp (disch := omega) only [go_sem, hold, h1, reduceCtorEq, natLe_ok]; done))); simp only [go_sem, hold, h1, reduceCtorEq]; refine aL_run ?_)) <;> (try simp (disch := omega) only [go_sem, hold, h1, reduceCtorEq, *])) | ((first | apply hcall_folds | apply endF_folds); (focus ((first | refine folds_setc 1 rfl (by with_reducible rfl) ?_ ?_ | refine folds_setc 2 rfl (by with_reducible rfl) ?_ ?_ | refine folds_setc 3 rfl (by with_reducible rfl) ?_ ?_ | refine folds_setc 4 rfl (by with_reducible rfl) ?_ ?_ | refine folds_setc 5 rfl (by with_reducible rfl) ?_ ?_ | refine folds_setc 6 rfl (by with_reducible rfl) ?_ ?_ | refine folds_setc 7 rfl (by with_reducible rfl) ?_ ?_ | refine folds_setc 8 rfl (by with_reducible rfl) ?_ ?_); (focus (simp (disch := omega) only [go_sem]; done)); (focus (first | omega | (simp (disch := omega) only [go_sem]; omega))))); (try simp (disch := omega) only [go_sem, hold, h1, reduceCtorEq, *])))
    all_goals (try (with_reducible refine endF_k ?_))
    all_goals (try simp (disch := omega) only [EndK, go_sem, hold, h1, reduceCtorEq, natLe_ok, *])
  · obtain ⟨p0, p1⟩ := inB_t h1
    refine callOk_of_hcallF 40 (hcall_of_body Tryz.func271 rfl (by kernel_rfl) ?_)
    simp (disch := omega) only [go_sem, Tryz.ntmps271, Tryz.results271]
    repeat' (first | (with_reducible first | refine i_seq ?_ | exact th_none | refine i_th (id := 3) (.ho [0, 1, 2, 3, 4] (opm 5 [3, 1] [false, true, true] (.ho [6] (opm 7 [] [false, false, false] (.stop))))) mixedT (by kernel_rfl) (fun Q' hQ => ?_)) | ((first | (with_reducible first | refine i_block ?_ | refine i_regionQ (fun Q' hQ => ?_) | (refine Imp.go hQ ?_; clear hQ) | refine th_ho ?_ | refine th_stop ?_ ?_ | refine th_opm ?_ (by kernel_rfl) (aL_run ?_) | refine th_altm ?_ (by kernel_rfl) (aL_run ?_) ?_) | ((with_reducible refine i_condT ?_ ?_); (focus (simp only [go_sem, *]; done))) | ((with_reducible refine i_condF ?_ ?_); (focus (simp only [go_sem, *]; done))) | ((with_reducible first | refine resOk_g (fun h => ?_) (fun h => ?_) | refine i_cond (by simp only [go_sem, *] <;> rfl) (fun h => ?_) (fun h => ?_)) <;> (try simp only [Bool.not_eq_eq_eq_not, Bool.not_true, Bool.not_false, reduceCtorEq] at h) <;> (try have h' := of_decide_eq_true h) <;> (try (have hz : (_ : Int) = (_ : Int) := h'; clear hz h')) <;> (try have h' := of_decide_eq_false h) <;> (try have h' := inB_t h) <;> (try (exfalso; omega))) | (((with_reducible first | refine hcall_of_callOk 40 true (copyKernel_ok k hk) ?_ ?_ ?_ ?_ ?_ | refine hcall_of_callOk 40 true (within_ok c.process 0 ((k.saved.length : Int) - 1)) ?_ ?_ ?_ ?_ ?_ | refine hcall_of_callOk 40 true (copyCore_ok c hc) ?_ ?_ ?_ ?_ ?_); iterate 4 (focus (simp (disch := omega) only [go_sem, hold, h1, reduceCtorEq, natLe_ok]; done))); simp only [go_sem, hold, h1, reduceCtorEq]; refine aL_run ?_)) <;> (try simp (disch := omega) only [go_sem, hold, h1, reduceCtorEq, *])) | ((first | apply hcall_folds | apply endF_folds); (focus ((first | refine folds_setc 1 rfl (by with_reducible rfl) ?_ ?_ | refine folds_setc 2 rfl (by with_reducible rfl) ?_ ?_ | refine folds_setc 3 rfl (by with_reducible rfl) ?_ ?_ | refine folds_setc 4 rfl (by with_reducible rfl) ?_ ?_ | refine folds_setc 5 rfl (by with_reducible rfl) ?_ ?_ | refine folds_setc 6 rfl (by with_reducible rfl) ?_ ?_ | refine folds_setc 7 rfl (by with_reducible rfl) ?_ ?_ | refine folds_setc 8 rfl (by with_reducible rfl) ?_ ?_); (focus (simp (disch := omega) only [go_sem]; done)); (focus (first | omega | (simp (disch := omega) only [go_sem]; omega))))); (try simp (disch := omega) only [go_sem, hold, h1, reduceCtorEq, *])))
    all_goals (try (with_reducible refine endF_k ?_))
    all_goals (try simp (disch := omega) only [EndK, go_sem, hold, h1, reduceCtorEq, natLe_ok, *])
theorem iPick_ok (k : Kernel) (hk : mdKernel k) : CallOk Tryz.prog 147 [.agg (kernelR k)] (.tup [.agg (kernelT (pickK k).1), .agg (coreT (pickK k).2.1), .one (bV (pickK k).2.2)]) [none] := by
  have hr : k.ready.length ≤ 1099511627776 := hk.2.1
  have hs : k.saved.length ≤ 68719476736 := hk.2.2.1.1
  cases h1 : ((k.ready.length : Int) == 0)
  · have h1' : 1 ≤ k.ready.length := by simp only [beq_eq_false_iff_ne, ne_eq] at h1; omega
    cases h2 : inB (k.ready.getD 0 0) 0 ((k.saved.length : Int) - 1)
    ·
      refine callOk_of_hcall 40 (hcall_of_body Tryz.func147 rfl (by kernel_rfl) ?_)
      simp (disch := omega) only [go_sem, Tryz.ntmps147, Tryz.results147]
      have x1 := @pickK.eq_1
      have x2 : HT 2 (.fr [0, 1, 2, 3, 4, 5, 6, 7, 8, 9, 10, 11, 12] (.op [13] (.fr [14, 15] (.stop)))) := ⟨⟩
      have x3 : HH 3 (.ho [0] (opm 1 [0] [true] (opm 2 [] [false] (opm 3 [] [] (.ho [4] (.stop)))))) := ⟨⟩
      have x4 : HT 5 (.fr [1, 2, 3, 4, 5, 6, 7, 8] (altp 0 (.op [9, 10, 11] (.fr [12] (.stop))) (altg 9 (.fr [0] (.op [10, 11] (.fr [12] (.stop)))) (.stop)))) := ⟨⟩
      have x5 := copyKernel_ok k hk
      have x6 := within_ok (k.ready.getD 0 0) 0 ((k.saved.length : Int) - 1)
      have x7 := iCoreNew_ok
      exact wk
    · obtain ⟨p0, p1⟩ := inB_t h2
      have hcc := md_core hk.2.2.1.2 (k.ready.getD 0 0).toNat
      refine callOk_of_hcall 40 (hcall_of_body Tryz.func147 rfl (by kernel_rfl) ?_)
      simp (disch := omega) only [go_sem, Tryz.ntmps147, Tryz.results147]
      have x1 := @pickK.eq_1
      have x2 : HT 2 (.fr [0, 1, 2, 3, 4, 5, 6, 7, 8, 9, 10, 11, 12] (.op [13] (.fr [14, 15] (.stop)))) := ⟨⟩
      have x3 : HH 3 (.ho [0] (opm 1 [0] [true] (opm 2 [] [false] (opm 3 [] [] (.ho [4] (.stop)))))) := ⟨⟩
      have x4 : HT 5 (.fr [1, 2, 3, 4, 5, 6, 7, 8] (altp 0 (.op [9, 10, 11] (.fr [12] (.stop))) (altg 9 (.fr [0] (.op [10, 11] (.fr [12] (.stop)))) (.stop)))) := ⟨⟩
      have x5 := copyKernel_ok k hk
      have x6 := within_ok (k.ready.getD 0 0) 0 ((k.saved.length : Int) - 1)
      have x7 := copyCore_ok (k.saved.getD (k.ready.getD 0 0).toNat coreZ) hcc
      exact wk
  ·
    refine callOk_of_hcall 40 (hcall_of_body Tryz.func147 rfl (by kernel_rfl) ?_)
    simp (disch := omega) only [go_sem, Tryz.ntmps147, Tryz.results147]
    have x1 := @pickK.eq_1
    have x2 : HT 2 (.fr [0, 1, 2, 3, 4, 5, 6, 7, 8, 9, 10, 11, 12] (.op [13] (.fr [14, 15] (.stop)))) := ⟨⟩
    have x3 : HH 3 (.ho [0] (opm 1 [0] [true] (opm 2 [] [false] (opm 3 [] [] (.ho [4] (.stop)))))) := ⟨⟩
    have x4 : HT 5 (.fr [1, 2, 3, 4, 5, 6, 7, 8] (altp 0 (.op [9, 10, 11] (.fr [12] (.stop))) (altg 9 (.fr [0] (.op [10, 11] (.fr [12] (.stop)))) (.stop)))) := ⟨⟩
    have x5 := copyKernel_ok k hk
    have x6 := iCoreNew_ok
    exact wk
end Go.Proofs.YtejnpiielcbkkaaGreat.E
end
section
set_option maxRecDepth 100000
set_option maxHeartbeats 4000000
namespace Go.Proofs.YtejnpiielcbkkaaGreat.E
theorem ti107 : ti Tryz.prog 107 = some ⟨.ptr, 1, 8, false, [.pointer none]⟩ := by kernel_rfl
theorem ni107 : notInt Tryz.prog 107 = true := by kernel_rfl
attribute [go_sem] ti107 ni107
theorem coresT_set_get {xs : List Core} {k : Nat} {r : List T} (h : k < xs.length) : ((coresT xs).set k r)[k]? = some r := by simp [coresT, h]
theorem gatesT_set_get {xs : List Gate} {k : Nat} {r : List T} (h : k < xs.length) : ((gatesT xs).set k r)[k]? = some r := by simp [gatesT, h]
attribute [go_sem] coresT_set_get gatesT_set_get
/-! ### A machine: what is told, what is held -/
def tellM (m : Machine) (p k n : Int) : Machine := ⟨m.image, m.mem, m.cores, m.kernel, m.input, m.events ++ [⟨p, k, n⟩], m.stopped || (k == 8)⟩
theorem iTell_ok (m : Machine) (p k n : Int) (hm : m.events.length ≤ 137438953472) : CallOk Tryz.prog 150 [.one (.box (machineT m)), .one (iV p), .one (iV k), .one (iV n)] (.tup []) [some (.box (machineT (tellM m p k n))), none, none, none] := by
  cases h1 : m.stopped
  all_goals
    refine callOk_of_hcall 40 (hcall_of_body Tryz.func150 rfl (by kernel_rfl) ?_)
    simp (disch := omega) only [go_sem, Tryz.ntmps150, Tryz.results150]
    have x1 := @tellM.eq_1
    have x2 := @Bool.false_or
    have x3 := @Bool.true_or
    exact wk
def holdM (m : Machine) (i : Int) : Machine := ⟨m.image, m.mem, m.cores.set i.toNat newCore, hold m.kernel (m.cores.getD i.toNat coreZ), m.input, m.events, m.stopped⟩
theorem iHoldCore_ok (m : Machine) (i : Int) (hm : mdMachine m) (h0 : 0 ≤ i) (h1 : i < m.cores.length) : CallOk Tryz.prog 248 [.one (.box (machineT m)), .one (iV i)] (.tup []) [some (.box (machineT (holdM m i))), none] := by
  obtain ⟨hi, hme, ⟨hc, hcs⟩, hk, hin, hev⟩ := hm
  have hci := md_core hcs i.toNat
  have hil : i.toNat < m.cores.length := by omega
  refine callOk_of_hcallF 40 ?_
  simp (disch := omega) only [go_sem]
  refine hcall_names (names_at 0 0 (machineT m) rfl (by with_reducible rfl) (by simp (disch := omega) only [go_sem])) ?_
  simp (disch := omega) only [go_sem]
  refine hcall_names (names_at 4 i.toNat (coreT (m.cores.getD i.toNat coreZ)) rfl (by with_reducible rfl) (by simp (disch := omega) only [go_sem])) ?_
  simp (disch := omega) only [go_sem]
  refine hcall_of_body Tryz.func248 rfl (by kernel_rfl) ?_
  simp (disch := omega) only [go_sem, Tryz.ntmps248, Tryz.results248]
  repeat' (first | (with_reducible first | refine i_seq ?_ | exact th_none | exact tr_none | refine tr_stop ?_ | refine i_treeQ (id := 0) (.fr [0, 1, 2, 3, 4, 5, 6, 7, 8, 9, 10, 11] (.op [12] (.fr [13, 14] (.op [15] (.stop))))) mixedT (by kernel_rfl) (fun Q' hQ => ?_) | refine i_th (id := 1) (.ho [0, 1, 2, 3, 4] (opm 5 [3] [true] (.ho [6] (opm 7 [] [false, false] (.stop))))) mixedT (by kernel_rfl) (fun Q' hQ => ?_)) | ((first | (with_reducible first | refine i_block ?_ | refine i_regionQ (fun Q' hQ => ?_) | (refine Imp.go hQ ?_; clear hQ) | refine tr_fr ?_ | refine tr_op (aL_run ?_) | refine tr_alt (by kernel_rfl) (aL_run ?_) ?_ | refine tr_altp ?_ ?_ | refine th_ho ?_ | refine th_stop ?_ ?_ | refine th_opm ?_ (by kernel_rfl) (aL_run ?_) | refine th_altm ?_ (by kernel_rfl) (aL_run ?_) ?_) | ((with_reducible refine i_condT ?_ ?_); (focus (simp only [go_sem, *]; done))) | ((with_reducible refine i_condF ?_ ?_); (focus (simp only [go_sem, *]; done))) | ((with_reducible first | refine resOk_g (fun h => ?_) (fun h => ?_) | refine pG_split (fun h => ?_) (fun h => ?_) | refine i_cond (by simp only [go_sem, *] <;> rfl) (fun h => ?_) (fun h => ?_)) <;> (try simp only [Bool.not_eq_eq_eq_not, Bool.not_true, Bool.not_false, reduceCtorEq] at h) <;> (try have h' := of_decide_eq_true h) <;> (try (have hz : (_ : Int) = (_ : Int) := h'; clear hz h')) <;> (try have h' := of_decide_eq_false h) <;> (try have h' := inB_t h) <;> (try (exfalso; omega))) | (((with_reducible first | refine hcall_of_callOk 40 true (iHold_ok m.kernel (m.cores.getD i.toNat coreZ) hk hci) ?_ ?_ ?_ ?_ ?_ | refine hcall_of_callOk 40 true (iCoreNew_ok) ?_ ?_ ?_ ?_ ?_); iterate 4 (focus (simp (disch := omega) only [go_sem, holdM, List.set_set, natLe_ok]; done))); simp only [go_sem, holdM, List.set_set]; refine aL_run ?_)) <;> (try simp (disch := omega) only [go_sem, holdM, List.set_set, *])) | ((first | apply hcall_folds | apply endF_folds); (focus ((first | refine folds_setc 1 rfl (by with_reducible rfl) ?_ ?_ | refine folds_setc 2 rfl (by with_reducible rfl) ?_ ?_ | refine folds_setc 3 rfl (by with_reducible rfl) ?_ ?_ | refine folds_setc 4 rfl (by with_reducible rfl) ?_ ?_ | refine folds_setc 5 rfl (by with_reducible rfl) ?_ ?_ | refine folds_setc 6 rfl (by with_reducible rfl) ?_ ?_ | refine folds_setc 7 rfl (by with_reducible rfl) ?_ ?_ | refine folds_setc 8 rfl (by with_reducible rfl) ?_ ?_ | refine folds_setc 9 rfl (by with_reducible rfl) ?_ ?_ | refine folds_setc 10 rfl (by with_reducible rfl) ?_ ?_); (focus (simp (disch := omega) only [go_sem]; done)); (focus (first | omega | (simp (disch := omega) only [go_sem]; omega))))); (try simp (disch := omega) only [go_sem, holdM, List.set_set, *])))
  all_goals (try (with_reducible refine endF_k ?_))
  all_goals (try simp (disch := omega) only [EndK, go_sem, holdM, List.set_set, natLe_ok, *])
end Go.Proofs.YtejnpiielcbkkaaGreat.E
end
