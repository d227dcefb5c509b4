/- A part of what stands under the laws of this seat: an abstract evaluator that is proved sound, and contracts of functions by it. No condition beside those that stand in each statement. -/
import Derived.Test.YtejnpiielcbkkaaGreatZK16
import Derived.Test.YtejnpiielcbkkaaGreatZS1
set_option linter.unusedVariables false
set_option linter.unusedSimpArgs false
set_option maxRecDepth 100000
set_option maxHeartbeats 4000000
namespace Go.Proofs.YtejnpiielcbkkaaGreat.E
/-! ### A call of the kernel -/
theorem tl_nil {xs : List Int} (h : decide ((0 : Int) < (xs.length : Int)) = false) : xs = [] := by
  have := of_decide_eq_false h
  exact List.eq_nil_of_length_eq_zero (by omega)
theorem iCall_gate (m m2 : Machine) (i o k b n : Int) (hm : mdMachine m) (h0 : 0 ≤ i) (h1 : i < m.cores.length) (hk : k = 1 ∨ k = 2 ∨ k = 3 ∨ k = 4)
    (hg : CallOk Tryz.prog 211 [.one (.box (machineT m)), .one (iV i), .one (iV k), .one (iV n)] (.tup []) [some (.box (machineT m2)), none, none, none]) :
    CallOk Tryz.prog 149 [.one (.box (machineT m)), .one (iV i), .agg (insT ⟨o, k, b, n⟩)] (.tup []) [some (.box (machineT m2)), none, none] := by
  obtain ⟨hi, hme, ⟨hc, hcs⟩, hk, hin, hev, hevs⟩ := hm
  have hil : i.toNat < m.cores.length := by omega
  have hcself := cores_self hil
  rcases ‹k = 1 ∨ k = 2 ∨ k = 3 ∨ k = 4› with rfl | rfl | rfl | rfl
  all_goals
    refine callOk_of_hcallF 40 ?_
    simp (disch := omega) only [go_sem]
    refine hcall_names (names_at 0 0 (machineT m) rfl (by with_reducible rfl) (by simp (disch := omega) only [go_sem])) ?_
    simp (disch := omega) only [go_sem]
    refine hcall_of_body Tryz.func149 rfl (by kernel_rfl) ?_
    simp (disch := omega) only [go_sem, Tryz.ntmps149, Tryz.results149]
    have x1 := @List.set_set.{0}
    have x2 : HT 13 (.fr [0, 1, 2, 3, 4, 5, 6, 7, 8, 9, 10, 11, 12, 13, 14] (.op [15] (.stop))) := ⟨⟩
    have x3 : HF 0 4 := ⟨⟩
    have x4 : HF 1 5 := ⟨⟩
    have x5 : HF 2 7 := ⟨⟩
    exact wkfi
abbrev coreM (m : Machine) (i : Int) : Core := m.cores.getD i.toNat coreZ
theorem iCall_print (m : Machine) (i o b n : Int) (hm : mdMachine m) (h0 : 0 ≤ i) (h1 : i < m.cores.length) (hr : 1 ≤ (m.cores.getD i.toNat coreZ).regs.length) :
    CallOk Tryz.prog 149 [.one (.box (machineT m)), .one (iV i), .agg (insT ⟨o, 5, b, n⟩)] (.tup []) [some (.box (machineT (tellM m (m.cores.getD i.toNat coreZ).process 5 ((m.cores.getD i.toNat coreZ).regs.getD 0 0)))), none, none] := by
  obtain ⟨hi, hme, ⟨hc, hcs⟩, hk, hin, hev, hevs⟩ := hm
  have hil : i.toNat < m.cores.length := by omega
  have hcself := cores_self hil
  refine callOk_of_hcallF 40 ?_
  simp (disch := omega) only [go_sem]
  refine hcall_names (names_at 0 0 (machineT m) rfl (by with_reducible rfl) (by simp (disch := omega) only [go_sem])) ?_
  simp (disch := omega) only [go_sem]
  refine hcall_names (names_at 4 i.toNat (coreT (m.cores.getD i.toNat coreZ)) rfl (by with_reducible rfl) (by simp (disch := omega) only [go_sem])) ?_
  simp (disch := omega) only [go_sem]
  refine hcall_of_body Tryz.func149 rfl (by kernel_rfl) ?_
  simp (disch := omega) only [go_sem, Tryz.ntmps149, Tryz.results149]
  have x1 := @List.set_set.{0}
  have x2 := @tellM.eq_1
  have x3 : HT 13 (.fr [0, 1, 2, 3, 4, 5, 6, 7, 8, 9, 10, 11, 12, 13, 14] (.op [15] (.stop))) := ⟨⟩
  have x4 : HF 0 4 := ⟨⟩
  have x5 : HF 1 5 := ⟨⟩
  have x6 : HF 2 7 := ⟨⟩
  have x7 := iTell_ok m (m.cores.getD i.toNat coreZ).process 5 ((m.cores.getD i.toNat coreZ).regs.getD 0 0) (by omega)
  exact wkfi
def readM (m : Machine) (i : Int) : Machine := ⟨m.image, m.mem, m.cores.set i.toNat ⟨(m.cores.getD i.toNat coreZ).regs.set 0 (m.input.getD 0 0), (m.cores.getD i.toNat coreZ).pc, (m.cores.getD i.toNat coreZ).process⟩, m.kernel, m.input.drop 1, m.events, m.stopped⟩
theorem iCall_read (m : Machine) (i o b n : Int) (hm : mdMachine m) (h0 : 0 ≤ i) (h1 : i < m.cores.length) (hr : 1 ≤ (m.cores.getD i.toNat coreZ).regs.length) :
    CallOk Tryz.prog 149 [.one (.box (machineT m)), .one (iV i), .agg (insT ⟨o, 6, b, n⟩)] (.tup []) [some (.box (machineT (tellM (readM m i) (m.cores.getD i.toNat coreZ).process 6 (m.input.getD 0 0)))), none, none] := by
  obtain ⟨hi, hme, ⟨hc, hcs⟩, hk, hin, hev, hevs⟩ := hm
  have hil : i.toNat < m.cores.length := by omega
  have hcself := cores_self hil
  have hev2 : (readM m i).events.length ≤ 137438953472 := by show m.events.length ≤ _; omega
  cases hz : decide ((0 : Int) < (m.input.length : Int))
  · have hz2 := tl_nil hz
    have hz3 : m.input.getD 0 0 = 0 := by rw [hz2]; rfl
    have hz4 : m.input.drop 1 = m.input := by rw [hz2]; rfl
    clear hz2
    refine callOk_of_hcallF 40 ?_
    simp (disch := omega) only [go_sem]
    refine hcall_names (names_at 0 0 (machineT m) rfl (by with_reducible rfl) (by simp (disch := omega) only [go_sem])) ?_
    simp (disch := omega) only [go_sem]
    refine hcall_names (names_at 4 i.toNat (coreT (m.cores.getD i.toNat coreZ)) rfl (by with_reducible rfl) (by simp (disch := omega) only [go_sem])) ?_
    simp (disch := omega) only [go_sem]
    refine hcall_of_body Tryz.func149 rfl (by kernel_rfl) ?_
    simp (disch := omega) only [go_sem, Tryz.ntmps149, Tryz.results149]
    have x1 := @List.set_set.{0}
    have x2 := @readM.eq_1
    have x3 := @tellM.eq_1
    have x4 : HT 13 (.fr [0, 1, 2, 3, 4, 5, 6, 7, 8, 9, 10, 11, 12, 13, 14] (.op [15] (.stop))) := ⟨⟩
    have x5 : HF 0 4 := ⟨⟩
    have x6 : HF 1 5 := ⟨⟩
    have x7 : HF 2 7 := ⟨⟩
    have x8 := iTell_ok (readM m i) (m.cores.getD i.toNat coreZ).process 6 0 hev2
    exact wkfi
  · have hz2 := of_decide_eq_true hz
    refine callOk_of_hcallF 40 ?_
    simp (disch := omega) only [go_sem]
    refine hcall_names (names_at 0 0 (machineT m) rfl (by with_reducible rfl) (by simp (disch := omega) only [go_sem])) ?_
    simp (disch := omega) only [go_sem]
    refine hcall_names (names_at 4 i.toNat (coreT (m.cores.getD i.toNat coreZ)) rfl (by with_reducible rfl) (by simp (disch := omega) only [go_sem])) ?_
    simp (disch := omega) only [go_sem]
    refine hcall_of_body Tryz.func149 rfl (by kernel_rfl) ?_
    simp (disch := omega) only [go_sem, Tryz.ntmps149, Tryz.results149]
    have x1 := @List.set_set.{0}
    have x2 := @readM.eq_1
    have x3 := @tellM.eq_1
    have x4 : HT 13 (.fr [0, 1, 2, 3, 4, 5, 6, 7, 8, 9, 10, 11, 12, 13, 14] (.op [15] (.stop))) := ⟨⟩
    have x5 : HF 0 4 := ⟨⟩
    have x6 : HF 1 5 := ⟨⟩
    have x7 : HF 2 7 := ⟨⟩
    have x8 := iTell_ok (readM m i) (m.cores.getD i.toNat coreZ).process 6 (m.input.getD 0 0) hev2
    exact wkfi
def doneM (m : Machine) (i : Int) : Machine := ⟨m.image, m.mem, m.cores.set i.toNat newCore, ⟨m.kernel.gates, m.kernel.ready, m.kernel.saved, m.kernel.over.set (m.cores.getD i.toNat coreZ).process.toNat true⟩, m.input, m.events, m.stopped⟩
theorem iCall_done (m : Machine) (i o k b n : Int) (hm : mdMachine m) (h0 : 0 ≤ i) (h1 : i < m.cores.length) (hk : k = 0 ∨ k = 7) (hr : 0 ≤ (m.cores.getD i.toNat coreZ).process) :
    CallOk Tryz.prog 149 [.one (.box (machineT m)), .one (iV i), .agg (insT ⟨o, k, b, n⟩)] (.tup []) [some (.box (machineT (doneM (tellM m (m.cores.getD i.toNat coreZ).process 7 0) i))), none, none] := by
  obtain ⟨hi, hme, ⟨hc, hcs⟩, ⟨-, -, -, hov⟩, hin, hev, hevs⟩ := hm
  have hil : i.toNat < m.cores.length := by omega
  have hcself := cores_self hil
  cases hz : decide ((m.cores.getD i.toNat coreZ).process < (m.kernel.over.length : Int)) <;> rcases hk with rfl | rfl <;> cases hst : m.stopped
  all_goals first | have hz2 := of_decide_eq_true hz | have hz2 := of_decide_eq_false hz
  all_goals first | have hz3 : m.kernel.over.set (m.cores.getD i.toNat coreZ).process.toNat true = m.kernel.over := List.set_eq_of_length_le (by omega) | have hz3 : True := trivial
  all_goals
    refine callOk_of_hcallF 40 ?_
    simp (disch := omega) only [go_sem]
    refine hcall_names (names_at 0 0 (machineT m) rfl (by with_reducible rfl) (by simp (disch := omega) only [go_sem])) ?_
    simp (disch := omega) only [go_sem]
    refine hcall_names (names_at 4 i.toNat (coreT (m.cores.getD i.toNat coreZ)) rfl (by with_reducible rfl) (by simp (disch := omega) only [go_sem])) ?_
    simp (disch := omega) only [go_sem]
    refine hcall_of_body Tryz.func149 rfl (by kernel_rfl) ?_
    simp (disch := omega) only [go_sem, Tryz.ntmps149, Tryz.results149]
    repeat' (first | (with_reducible first | refine i_seq ?_ | exact tr_none | refine tr_stop ?_ | refine i_treeQ (id := 13) (.fr [0, 1, 2, 3, 4, 5, 6, 7, 8, 9, 10, 11, 12, 13, 14] (.op [15] (.stop))) mixedT (by kernel_rfl) (fun Q' hQ => ?_)) | ((first | (with_reducible first | refine i_block ?_ | refine i_regionQ (fun Q' hQ => ?_) | (refine Imp.go hQ ?_; clear hQ) | refine aL_run ?_ | refine tr_fr ?_ | refine tr_op (aL_run ?_) | refine tr_alt (by kernel_rfl) (aL_run ?_) ?_ | refine tr_altp ?_ ?_) | ((with_reducible refine i_condT ?_ ?_); (focus (simp only [go_sem, *]; done))) | ((with_reducible refine i_condF ?_ ?_); (focus (simp only [go_sem, *]; done))) | ((with_reducible first | refine resOk_g (fun h => ?_) (fun h => ?_) | refine pG_split (fun h => ?_) (fun h => ?_) | refine i_cond (by simp only [go_sem, *] <;> rfl) (fun h => ?_) (fun h => ?_)) <;> (try simp only [Bool.not_eq_eq_eq_not, Bool.not_true, Bool.not_false, reduceCtorEq] at h) <;> (try have h' := of_decide_eq_true h) <;> (try (have hz : (_ : Int) = (_ : Int) := h'; clear hz h')) <;> (try have h' := of_decide_eq_false h) <;> (try have h' := inB_t h) <;> (try (exfalso; omega))) | (((with_reducible first | refine hcall_of_callOk 40 true (iCoreNew_ok) ?_ ?_ ?_ ?_ ?_); iterate 4 (focus (simp (disch := omega) only [go_sem, hcself, List.set_set, doneM, tellM, hst, hz3, Bool.false_or, Bool.true_or, Int.reduceBEq, Int.reduceBNe, Int.reduceNeg, Int.reduceLE, Int.reduceLT, Int.reduceEq, natLe_ok]; done))); simp only [go_sem, hcself, List.set_set, doneM, tellM, hst, hz3, Bool.false_or, Bool.true_or, Int.reduceBEq, Int.reduceBNe, Int.reduceNeg, Int.reduceLE, Int.reduceLT, Int.reduceEq]; refine aL_run ?_)) <;> (try simp (disch := omega) only [go_sem, hcself, List.set_set, doneM, tellM, hst, hz3, Bool.false_or, Bool.true_or, Int.reduceBEq, Int.reduceBNe, Int.reduceNeg, Int.reduceLE, Int.reduceLT, Int.reduceEq, *])) | (refine hcall_of_body (f := 150) Tryz.func150 rfl (by kernel_rfl) ?_; simp (disch := omega) only [go_sem, Tryz.ntmps150, Tryz.results150, hcself, List.set_set, doneM, tellM, hst, hz3, Bool.false_or, Bool.true_or, Int.reduceBEq, Int.reduceBNe, Int.reduceNeg, Int.reduceLE, Int.reduceLT, Int.reduceEq]) | ((first | apply hcall_folds | apply endF_folds); (focus ((first | refine folds_setc 4 rfl (by with_reducible rfl) ?_ ?_ | refine folds_setc 5 rfl (by with_reducible rfl) ?_ ?_ | refine folds_setc 7 rfl (by with_reducible rfl) ?_ ?_); (focus (simp (disch := omega) only [go_sem]; done)); (focus (first | omega | (simp (disch := omega) only [go_sem]; omega))))); (try simp (disch := omega) only [go_sem, hcself, List.set_set, doneM, tellM, hst, hz3, Bool.false_or, Bool.true_or, Int.reduceBEq, Int.reduceBNe, Int.reduceNeg, Int.reduceLE, Int.reduceLT, Int.reduceEq, *])))
    all_goals (try (with_reducible refine endF_k ?_))
    all_goals (try simp (disch := omega) only [EndK, go_sem, hcself, List.set_set, doneM, tellM, hst, hz3, Bool.false_or, Bool.true_or, Int.reduceBEq, Int.reduceBNe, Int.reduceNeg, Int.reduceLE, Int.reduceLT, Int.reduceEq, natLe_ok, *])
end Go.Proofs.YtejnpiielcbkkaaGreat.E
