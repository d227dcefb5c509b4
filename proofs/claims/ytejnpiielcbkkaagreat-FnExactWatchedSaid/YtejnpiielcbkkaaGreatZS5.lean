/- A part of what stands under the laws of this seat: an abstract evaluator that is proved sound, and contracts of functions by it. No condition beside those that stand in each statement. -/
import Derived.Test.YtejnpiielcbkkaaGreatZS1
import Derived.Test.YtejnpiielcbkkaaGreatZK18
set_option linter.unusedVariables false
set_option linter.unusedSimpArgs false
set_option maxRecDepth 100000
set_option maxHeartbeats 4000000
namespace Go.Proofs.YtejnpiielcbkkaaGreat.E
theorem sSys_gate12 (m m2 : Machine) (i o k b n : Int) (hm : mdMachine m) (h0 : 0 ≤ i) (h1 : i < m.cores.length) (hk : k = 1 ∨ k = 2)
    (hg : CallOk Tryz.prog 193 [.one (.box (machineT m)), .one (iV i), .one (iV k), .one (iV n), .one (iV 0)] (.tup []) [some (.box (machineT m2)), none, none, none, none]) :
    CallOk Tryz.prog 131 [.one (.box (machineT m)), .one (iV i), .agg (insT ⟨o, k, b, n⟩)] (.tup []) [some (.box (machineT m2)), none, none] := by
  obtain ⟨hi, hme, ⟨hc, hcs⟩, -, hin, hev, hevs⟩ := hm
  have hil : i.toNat < m.cores.length := by omega
  have hcself := cores_self hil
  rcases hk with rfl | rfl
  all_goals
    refine callOk_of_hcallF 40 ?_
    simp (disch := omega) only [go_sem]
    refine hcall_names (names_at 0 0 (machineT m) rfl (by with_reducible rfl) (by simp (disch := omega) only [go_sem])) ?_
    simp (disch := omega) only [go_sem]
    refine hcall_of_body Tryz.func131 rfl (by kernel_rfl) ?_
    simp (disch := omega) only [go_sem, Tryz.ntmps131, Tryz.results131]
    have x1 : HH 6 (.ho [0, 1, 2, 3, 4] (opm 5 [3] [true] (.ho [6] (opm 7 [] [false, false] (.stop))))) := ⟨⟩
    have x2 : HF 0 4 := ⟨⟩
    have x3 : HF 1 5 := ⟨⟩
    have x4 : HF 2 7 := ⟨⟩
    exact wkfi
theorem sSys_gate34 (m m2 : Machine) (i o k b n : Int) (hm : mdMachine m) (h0 : 0 ≤ i) (h1 : i < m.cores.length) (hn : 0 ≤ n) (hn2 : n ≤ 4194303) (hk : k = 3 ∨ k = 4)
    (hg : CallOk Tryz.prog 193 [.one (.box (machineT m)), .one (iV i), .one (iV k), .one (iV (n.tdiv 2)), .one (iV (n.tmod 2))] (.tup []) [some (.box (machineT m2)), none, none, none, none]) :
    CallOk Tryz.prog 131 [.one (.box (machineT m)), .one (iV i), .agg (insT ⟨o, k, b, n⟩)] (.tup []) [some (.box (machineT m2)), none, none] := by
  obtain ⟨hi, hme, ⟨hc, hcs⟩, -, hin, hev, hevs⟩ := hm
  have hil : i.toNat < m.cores.length := by omega
  have ed := Int.tdiv_eq_ediv_of_nonneg (b := 2) hn
  have hd0 : 0 ≤ n.tdiv 2 := by omega
  have hd1 : n.tdiv 2 ≤ n := by omega
  clear ed
  have hcself := cores_self hil
  rcases hk with rfl | rfl
  all_goals
    refine callOk_of_hcallF 40 ?_
    simp (disch := omega) only [go_sem]
    refine hcall_names (names_at 0 0 (machineT m) rfl (by with_reducible rfl) (by simp (disch := omega) only [go_sem])) ?_
    simp (disch := omega) only [go_sem]
    refine hcall_of_body Tryz.func131 rfl (by kernel_rfl) ?_
    simp (disch := omega) only [go_sem, Tryz.ntmps131, Tryz.results131]
    have x1 : HH 6 (.ho [0, 1, 2, 3, 4] (opm 5 [3] [true] (.ho [6] (opm 7 [] [false, false] (.stop))))) := ⟨⟩
    have x2 : HF 0 4 := ⟨⟩
    have x3 : HF 1 5 := ⟨⟩
    have x4 : HF 2 7 := ⟨⟩
    exact wkfi
theorem sSys_print (m : Machine) (i o b n : Int) (hm : mdMachine m) (h0 : 0 ≤ i) (h1 : i < m.cores.length) (hr : 1 ≤ (m.cores.getD i.toNat coreZ).regs.length) :
    CallOk Tryz.prog 131 [.one (.box (machineT m)), .one (iV i), .agg (insT ⟨o, 5, b, n⟩)] (.tup []) [some (.box (machineT (tellM m (m.cores.getD i.toNat coreZ).process 5 ((m.cores.getD i.toNat coreZ).regs.getD 0 0)))), none, none] := by
  obtain ⟨hi, hme, ⟨hc, hcs⟩, -, hin, hev, hevs⟩ := hm
  have hil : i.toNat < m.cores.length := by omega
  have hcself := cores_self hil
  have hor : (m.stopped || ((5 : Int) == 8)) = m.stopped := by simp
  have ht := sTell_ok m (m.cores.getD i.toNat coreZ).process 5 ((m.cores.getD i.toNat coreZ).regs.getD 0 0) (by omega)
  refine callOk_of_hcallF 40 ?_
  simp (disch := omega) only [go_sem]
  refine hcall_names (names_at 0 0 (machineT m) rfl (by with_reducible rfl) (by simp (disch := omega) only [go_sem])) ?_
  simp (disch := omega) only [go_sem]
  refine hcall_names (names_at 4 i.toNat (coreT (m.cores.getD i.toNat coreZ)) rfl (by with_reducible rfl) (by simp (disch := omega) only [go_sem])) ?_
  simp (disch := omega) only [go_sem]
  refine hcall_of_body Tryz.func131 rfl (by kernel_rfl) ?_
  simp (disch := omega) only [go_sem, Tryz.ntmps131, Tryz.results131]
  have x1 := @List.set_set.{0}
  have x2 := @tellM.eq_1
  have x3 := @tellS.eq_1
  have x4 : HH 6 (.ho [0, 1, 2, 3, 4] (opm 5 [3] [true] (.ho [6] (opm 7 [] [false, false] (.stop))))) := ⟨⟩
  have x5 : HF 0 4 := ⟨⟩
  have x6 : HF 1 5 := ⟨⟩
  have x7 : HF 2 7 := ⟨⟩
  exact wkfi
theorem sSys_read (m : Machine) (i o b n : Int) (hm : mdMachine m) (h0 : 0 ≤ i) (h1 : i < m.cores.length) (hr : 1 ≤ (m.cores.getD i.toNat coreZ).regs.length) :
    CallOk Tryz.prog 131 [.one (.box (machineT m)), .one (iV i), .agg (insT ⟨o, 6, b, n⟩)] (.tup []) [some (.box (machineT (tellM (readM m i) (m.cores.getD i.toNat coreZ).process 6 (m.input.getD 0 0)))), none, none] := by
  obtain ⟨hi, hme, ⟨hc, hcs⟩, -, hin, hev, hevs⟩ := hm
  have hil : i.toNat < m.cores.length := by omega
  have hcself := cores_self hil
  have hev2 : (readM m i).events.length ≤ 137438953472 := by show m.events.length ≤ _; omega
  have hor : (m.stopped || ((6 : Int) == 8)) = m.stopped := by simp
  have ht := sTell_ok (readM m i) (m.cores.getD i.toNat coreZ).process 6 (m.input.getD 0 0) hev2
  cases hz : decide ((0 : Int) < (m.input.length : Int))
  · have hz2 := tl_nil hz
    have hz3 : m.input.getD 0 0 = 0 := by rw [hz2]; rfl
    have hz4 : m.input.drop 1 = m.input := by rw [hz2]; rfl
    rw [hz3] at ht
    clear hz2
    refine callOk_of_hcallF 40 ?_
    simp (disch := omega) only [go_sem]
    refine hcall_names (names_at 0 0 (machineT m) rfl (by with_reducible rfl) (by simp (disch := omega) only [go_sem])) ?_
    simp (disch := omega) only [go_sem]
    refine hcall_names (names_at 4 i.toNat (coreT (m.cores.getD i.toNat coreZ)) rfl (by with_reducible rfl) (by simp (disch := omega) only [go_sem])) ?_
    simp (disch := omega) only [go_sem]
    refine hcall_of_body Tryz.func131 rfl (by kernel_rfl) ?_
    simp (disch := omega) only [go_sem, Tryz.ntmps131, Tryz.results131]
    have x1 := @List.set_set.{0}
    have x2 := @readM.eq_1
    have x3 := @tellM.eq_1
    have x4 := @tellS.eq_1
    have x5 : HH 6 (.ho [0, 1, 2, 3, 4] (opm 5 [3] [true] (.ho [6] (opm 7 [] [false, false] (.stop))))) := ⟨⟩
    have x6 : HF 0 4 := ⟨⟩
    have x7 : HF 1 5 := ⟨⟩
    have x8 : HF 2 7 := ⟨⟩
    exact wkfi
  · have hz2 := of_decide_eq_true hz
    refine callOk_of_hcallF 40 ?_
    simp (disch := omega) only [go_sem]
    refine hcall_names (names_at 0 0 (machineT m) rfl (by with_reducible rfl) (by simp (disch := omega) only [go_sem])) ?_
    simp (disch := omega) only [go_sem]
    refine hcall_names (names_at 4 i.toNat (coreT (m.cores.getD i.toNat coreZ)) rfl (by with_reducible rfl) (by simp (disch := omega) only [go_sem])) ?_
    simp (disch := omega) only [go_sem]
    refine hcall_of_body Tryz.func131 rfl (by kernel_rfl) ?_
    simp (disch := omega) only [go_sem, Tryz.ntmps131, Tryz.results131]
    have x1 := @List.set_set.{0}
    have x2 := @readM.eq_1
    have x3 := @tellM.eq_1
    have x4 := @tellS.eq_1
    have x5 : HH 6 (.ho [0, 1, 2, 3, 4] (opm 5 [3] [true] (.ho [6] (opm 7 [] [false, false] (.stop))))) := ⟨⟩
    have x6 : HF 0 4 := ⟨⟩
    have x7 : HF 1 5 := ⟨⟩
    have x8 : HF 2 7 := ⟨⟩
    exact wkfi
theorem sSys_done (m : Machine) (i o k b n : Int) (hm : mdMachine m) (h0 : 0 ≤ i) (h1 : i < m.cores.length) (hk : k = 0 ∨ k = 7) (hr : 0 ≤ (m.cores.getD i.toNat coreZ).process) :
    CallOk Tryz.prog 131 [.one (.box (machineT m)), .one (iV i), .agg (insT ⟨o, k, b, n⟩)] (.tup []) [some (.box (machineT (doneM (tellM m (m.cores.getD i.toNat coreZ).process 7 0) i))), none, none] := by
  obtain ⟨hi, hme, ⟨hc, hcs⟩, ⟨-, -, -, hov⟩, hin, hev, hevs⟩ := hm
  have hil : i.toNat < m.cores.length := by omega
  have hcself := cores_self hil
  have hor : (m.stopped || ((7 : Int) == 8)) = m.stopped := by simp
  cases hz : inB (m.cores.getD i.toNat coreZ).process 0 ((m.kernel.over.length : Int) - 1) <;> rcases hk with rfl | rfl
  all_goals (first | have hz2 := inB_t hz | skip)
  all_goals first | have hz3 : m.kernel.over.set (m.cores.getD i.toNat coreZ).process.toNat true = m.kernel.over := List.set_eq_of_length_le (by by_cases hq : (m.cores.getD i.toNat coreZ).process ≤ (m.kernel.over.length : Int) - 1; (have := inB_of hr hq; rw [this] at hz; cases hz); omega) | have hz3 : True := trivial
  all_goals
    refine callOk_of_hcallF 40 ?_
    simp (disch := omega) only [go_sem]
    refine hcall_names (names_at 0 0 (machineT m) rfl (by with_reducible rfl) (by simp (disch := omega) only [go_sem])) ?_
    simp (disch := omega) only [go_sem]
    refine hcall_names (names_at 4 i.toNat (coreT (m.cores.getD i.toNat coreZ)) rfl (by with_reducible rfl) (by simp (disch := omega) only [go_sem])) ?_
    simp (disch := omega) only [go_sem]
    refine hcall_of_body Tryz.func131 rfl (by kernel_rfl) ?_
    simp (disch := omega) only [go_sem, Tryz.ntmps131, Tryz.results131]
    repeat' (first | (with_reducible first | refine i_seq ?_ | exact th_none | refine i_th (id := 6) (.ho [0, 1, 2, 3, 4] (opm 5 [3] [true] (.ho [6] (opm 7 [] [false, false] (.stop))))) mixedT (by kernel_rfl) (fun Q' hQ => ?_)) | ((first | (with_reducible first | refine i_block ?_ | refine i_regionQ (fun Q' hQ => ?_) | (refine Imp.go hQ ?_; clear hQ) | refine aL_run ?_ | refine th_ho ?_ | refine th_stop ?_ ?_ | refine th_opm ?_ (by kernel_rfl) (aL_run ?_) | refine th_altm ?_ (by kernel_rfl) (aL_run ?_) ?_) | ((with_reducible refine i_condT ?_ ?_); (focus (simp only [go_sem, *]; done))) | ((with_reducible refine i_condF ?_ ?_); (focus (simp only [go_sem, *]; done))) | ((with_reducible first | refine resOk_g (fun h => ?_) (fun h => ?_) | refine i_cond (by simp only [go_sem, *] <;> rfl) (fun h => ?_) (fun h => ?_)) <;> (try simp only [Bool.not_eq_eq_eq_not, Bool.not_true, Bool.not_false, reduceCtorEq] at h) <;> (try have h' := of_decide_eq_true h) <;> (try (have hz : (_ : Int) = (_ : Int) := h'; clear hz h')) <;> (try have h' := of_decide_eq_false h) <;> (try have h' := inB_t h) <;> (try (exfalso; omega))) | (((with_reducible first | refine hcall_of_callOk 40 true (specInB_ok (m.cores.getD i.toNat coreZ).process 0 ((m.kernel.over.length : Int) - 1)) ?_ ?_ ?_ ?_ ?_ | refine hcall_of_callOk 40 true (sCoreNew_ok) ?_ ?_ ?_ ?_ ?_); iterate 4 (focus (simp (disch := omega) only [go_sem, hcself, List.set_set, doneM, hor, tellM, hz, hz3, Int.reduceBEq, Int.reduceBNe, Int.reduceNeg, Int.reduceLE, Int.reduceLT, Int.reduceEq, natLe_ok]; done))); simp only [go_sem, hcself, List.set_set, doneM, hor, tellM, hz, hz3, Int.reduceBEq, Int.reduceBNe, Int.reduceNeg, Int.reduceLE, Int.reduceLT, Int.reduceEq]; refine aL_run ?_)) <;> (try simp (disch := omega) only [go_sem, hcself, List.set_set, doneM, hor, tellM, hz, hz3, Int.reduceBEq, Int.reduceBNe, Int.reduceNeg, Int.reduceLE, Int.reduceLT, Int.reduceEq, *])) | (refine hcall_of_body (f := 194) Tryz.func194 rfl (by kernel_rfl) ?_; simp (disch := omega) only [go_sem, Tryz.ntmps194, Tryz.results194, hcself, List.set_set, doneM, hor, tellM, hz, hz3, Int.reduceBEq, Int.reduceBNe, Int.reduceNeg, Int.reduceLE, Int.reduceLT, Int.reduceEq]) | ((first | apply hcall_folds | apply endF_folds); (focus ((first | refine folds_setc 4 rfl (by with_reducible rfl) ?_ ?_ | refine folds_setc 5 rfl (by with_reducible rfl) ?_ ?_ | refine folds_setc 7 rfl (by with_reducible rfl) ?_ ?_); (focus (simp (disch := omega) only [go_sem]; done)); (focus (first | omega | (simp (disch := omega) only [go_sem]; omega))))); (try simp (disch := omega) only [go_sem, hcself, List.set_set, doneM, hor, tellM, hz, hz3, Int.reduceBEq, Int.reduceBNe, Int.reduceNeg, Int.reduceLE, Int.reduceLT, Int.reduceEq, *])))
    all_goals (try (with_reducible refine endF_k ?_))
    all_goals (try simp (disch := omega) only [EndK, go_sem, hcself, List.set_set, doneM, hor, tellM, hz, hz3, Int.reduceBEq, Int.reduceBNe, Int.reduceNeg, Int.reduceLE, Int.reduceLT, Int.reduceEq, natLe_ok, *])
end Go.Proofs.YtejnpiielcbkkaaGreat.E
