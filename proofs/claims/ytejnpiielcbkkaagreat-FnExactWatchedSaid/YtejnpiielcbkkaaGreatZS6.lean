/- A part of what stands under the laws of this seat: an abstract evaluator that is proved sound, and contracts of functions by it. No condition beside those that stand in each statement. -/
import Derived.Test.YtejnpiielcbkkaaGreatZS1
import Derived.Test.YtejnpiielcbkkaaGreatZK21
set_option linter.unusedVariables false
set_option linter.unusedSimpArgs false
set_option maxRecDepth 100000
set_option maxHeartbeats 4000000
namespace Go.Proofs.YtejnpiielcbkkaaGreat.E
theorem sStep_no (m : Machine) (i : Int) (hm : mdMachine m) (h : m.stopped = true ∨ inB i 0 ((m.cores.length : Int) - 1) = false) :
    CallOk Tryz.prog 55 [.one (.box (machineT m)), .one (iV i)] (.s (.one (bV false))) [some (.box (machineT m)), none] := by
  have hcs : m.cores.length ≤ 68719476736 := hm.2.2.1.1
  cases h1 : m.stopped <;> cases h2 : inB i 0 ((m.cores.length : Int) - 1)
  case false.true => rw [h1, h2] at h; simp at h
  all_goals
    refine callOk_of_hcallF 40 ?_
    simp (disch := omega) only [go_sem]
    refine hcall_names (names_at 0 0 (machineT m) rfl (by with_reducible rfl) (by simp (disch := omega) only [go_sem])) ?_
    simp (disch := omega) only [go_sem]
    refine hcall_of_body Tryz.func55 rfl (by kernel_rfl) ?_
    simp (disch := omega) only [go_sem, Tryz.ntmps55, Tryz.results55]
    have x1 : HT 6 (.fr [0, 1, 2, 3, 4, 5, 6] (.op [7] (.stop))) := ⟨⟩
    have x2 : HT 10 (.fr [0, 1, 2, 3, 4, 5, 6, 7, 8, 9, 10, 11, 12, 13, 14] (.op [15] (.fr [16] (.stop)))) := ⟨⟩
    have x3 : HF 0 4 := ⟨⟩
    have x4 : HF 1 5 := ⟨⟩
    have x5 : HF 2 7 := ⟨⟩
    have x6 := specInB_ok i 0 ((m.cores.length : Int) - 1)
    exact wkf
theorem sStep_pick (m : Machine) (i : Int) (hm : mdMachine m) (hst : m.stopped = false) (hib : inB i 0 ((m.cores.length : Int) - 1) = true) (hp : decide ((m.cores.getD i.toNat coreZ).process < 0) = true) :
    CallOk Tryz.prog 55 [.one (.box (machineT m)), .one (iV i)] (.s (.one (bV (pickK m.kernel).2.2))) [some (.box (machineT (if (pickK m.kernel).2.2 = true then pickedM m i else m))), none] := by
  have hcs : m.cores.length ≤ 68719476736 := hm.2.2.1.1
  obtain ⟨⟨hg1, hg2⟩, hkr, ⟨hks, hks2⟩, hko⟩ := hm.2.2.2.1
  obtain ⟨hi0, hi1⟩ := inB_of3 hib
  have hil : i.toNat < m.cores.length := by omega
  have hcself := cores_self hil
  cases hz : ((m.kernel.ready.length : Int) == 0)
  · have hz' : 1 ≤ m.kernel.ready.length := by simp only [beq_eq_false_iff_ne, ne_eq] at hz; omega
    cases h2 : inB (m.kernel.ready.getD 0 0) 0 ((m.kernel.saved.length : Int) - 1)
    · have e : pickK m.kernel = (m.kernel, newCore, false) := by unfold pickK; rw [hz, if_neg (by simp), h2, if_pos rfl]
      rw [e]
      refine callOk_of_hcallF 40 ?_
      simp (disch := omega) only [go_sem]
      refine hcall_names (names_at 0 0 (machineT m) rfl (by with_reducible rfl) (by simp (disch := omega) only [go_sem])) ?_
      simp (disch := omega) only [go_sem]
      refine hcall_names (names_at 4 i.toNat (coreT (m.cores.getD i.toNat coreZ)) rfl (by with_reducible rfl) (by simp (disch := omega) only [go_sem])) ?_
      simp (disch := omega) only [go_sem]
      refine hcall_of_body Tryz.func55 rfl (by kernel_rfl) ?_
      simp (disch := omega) only [go_sem, Tryz.ntmps55, Tryz.results55]
      repeat' (first | (with_reducible first | refine i_seq ?_ | exact th_none | exact tr_none | refine tr_stop ?_ | refine i_treeQ (id := 6) (.fr [0, 1, 2, 3, 4, 5, 6] (.op [7] (.stop))) mixedT (by kernel_rfl) (fun Q' hQ => ?_) | refine i_treeQ (id := 10) (.fr [0, 1, 2, 3, 4, 5, 6, 7, 8, 9, 10, 11, 12, 13, 14] (.op [15] (.fr [16] (.stop)))) mixedT (by kernel_rfl) (fun Q' hQ => ?_) | refine i_treeQ (id := 1) (.fr [0, 1, 2, 3, 4, 5, 6, 7, 8, 9, 10, 11, 12, 13, 14, 15, 16, 17, 18] (.op [19] (.fr [20, 21] (.stop)))) mixedT (by kernel_rfl) (fun Q' hQ => ?_) | refine i_th (id := 3) (.ho [0, 1, 2, 3, 4, 5, 6, 7, 8, 9, 10, 11] (altm 12 [10, 9, 8, 7, 3] [false, true, true, true, true, true] (opm 13 [10, 9, 8, 7, 3] [true, true, true, true, true] (opm 14 [] [false, false, false, false, false] (.stop))) (altm 13 [11, 10, 9, 8, 7, 3] [true, true, true, true, true, true] (opm 12 [10, 9, 8, 7, 3] [false, true, true, true, true, true] (opm 14 [] [false, false, false, false, false] (.stop))) (.stop)))) mixedT (by kernel_rfl) (fun Q' hQ => ?_)) | ((first | (with_reducible first | refine i_block ?_ | refine i_regionQ (fun Q' hQ => ?_) | (refine Imp.go hQ ?_; clear hQ) | refine aL_run ?_ | refine tr_fr ?_ | refine tr_op (aL_run ?_) | refine tr_alt (by kernel_rfl) (aL_run ?_) ?_ | refine tr_altp ?_ ?_ | refine th_ho ?_ | refine th_stop ?_ ?_ | refine th_opm ?_ (by kernel_rfl) (aL_run ?_) | refine th_altm ?_ (by kernel_rfl) (aL_run ?_) ?_) | ((with_reducible refine i_condT ?_ ?_); (focus (simp only [go_sem, *]; done))) | ((with_reducible refine i_condF ?_ ?_); (focus (simp only [go_sem, *]; done))) | ((with_reducible first | refine resOk_g (fun h => ?_) (fun h => ?_) | refine pG_split (fun h => ?_) (fun h => ?_) | refine i_cond (by simp only [go_sem, *] <;> rfl) (fun h => ?_) (fun h => ?_)) <;> (try simp only [Bool.not_eq_eq_eq_not, Bool.not_true, Bool.not_false, reduceCtorEq] at h) <;> (try have h' := of_decide_eq_true h) <;> (try (have hz : (_ : Int) = (_ : Int) := h'; clear hz h')) <;> (try have h' := of_decide_eq_false h) <;> (try have h' := inB_t h) <;> (try (exfalso; omega))) | ((first | ((with_reducible first | refine hcall_of_callOk 40 true (sCoreNew_ok) ?_ ?_ ?_ ?_ ?_); iterate 4 (focus (simp (disch := omega) only [go_sem, hst, hib, hp, hz, h2, hcself, reduceCtorEq, natLe_ok]; done))) | ((with_reducible refine hcall_of_callOk 40 true (specInB_ok i 0 ((m.cores.length : Int) - 1)) ?_ ?_ ?_ ?_ ?_); iterate 4 (focus (simp (disch := omega) only [go_sem, hst, hib, hp, hz, h2, hcself, reduceCtorEq, natLe_ok]; done))) | ((with_reducible refine hcall_of_callOk 40 true (specInB_ok (m.kernel.ready.getD 0 0) 0 ((m.kernel.saved.length : Int) - 1)) ?_ ?_ ?_ ?_ ?_); iterate 4 (focus (simp (disch := omega) only [go_sem, hst, hib, hp, hz, h2, hcself, reduceCtorEq, natLe_ok]; done)))); simp only [go_sem, hst, hib, hp, hz, h2, hcself, reduceCtorEq]; refine aL_run ?_)) <;> (try simp (disch := omega) only [go_sem, hst, hib, hp, hz, h2, hcself, reduceCtorEq, *])) | (refine hcall_of_body (f := 129) Tryz.func129 rfl (by kernel_rfl) ?_; simp (disch := omega) only [go_sem, Tryz.ntmps129, Tryz.results129, hst, hib, hp, hz, h2, hcself, reduceCtorEq]) | ((first | apply hcall_folds | apply endF_folds); (focus ((first | refine folds_setc 4 rfl (by with_reducible rfl) ?_ ?_ | refine folds_setc 5 rfl (by with_reducible rfl) ?_ ?_ | refine folds_setc 7 rfl (by with_reducible rfl) ?_ ?_); (focus (simp (disch := omega) only [go_sem]; done)); (focus (first | omega | (simp (disch := omega) only [go_sem]; omega))))); (try simp (disch := omega) only [go_sem, hst, hib, hp, hz, h2, hcself, reduceCtorEq, *])))
      all_goals (try (with_reducible refine endF_k ?_))
      all_goals (try simp (disch := omega) only [EndK, go_sem, hst, hib, hp, hz, h2, hcself, reduceCtorEq, natLe_ok, *])
    · obtain ⟨p0, p1⟩ := inB_of3 h2
      have e : pickK m.kernel = (⟨m.kernel.gates, m.kernel.ready.drop 1, m.kernel.saved, m.kernel.over⟩, m.kernel.saved.getD (m.kernel.ready.getD 0 0).toNat coreZ, true) := by unfold pickK; rw [hz, if_neg (by simp), h2, if_neg (by simp)]
      have hsl : (m.kernel.ready.getD 0 0).toNat < m.kernel.saved.length := by omega
      have hsself := cores_self hsl
      have hcc := md_core hks2 (m.kernel.ready.getD 0 0).toNat
      have e2 : (if (pickK m.kernel).2.2 = true then pickedM m i else m) = ⟨m.image, m.mem, m.cores.set i.toNat ⟨(m.kernel.saved.getD (m.kernel.ready.getD 0 0).toNat coreZ).regs, (m.kernel.saved.getD (m.kernel.ready.getD 0 0).toNat coreZ).pc, (m.kernel.saved.getD (m.kernel.ready.getD 0 0).toNat coreZ).process⟩, ⟨m.kernel.gates, m.kernel.ready.drop 1, m.kernel.saved, m.kernel.over⟩, m.input, m.events, m.stopped⟩ := by
        unfold pickedM; rw [e]; rfl
      rw [e2, e]
      clear e2 e
      refine callOk_of_hcallF 40 ?_
      simp (disch := omega) only [go_sem]
      refine hcall_names (names_at 0 0 (machineT m) rfl (by with_reducible rfl) (by simp (disch := omega) only [go_sem])) ?_
      simp (disch := omega) only [go_sem]
      refine hcall_names (names_at 4 i.toNat (coreT (m.cores.getD i.toNat coreZ)) rfl (by with_reducible rfl) (by simp (disch := omega) only [go_sem])) ?_
      simp (disch := omega) only [go_sem]
      refine hcall_names (names_at 7 ((m.kernel.ready.getD 0 0).toNat) (coreT (m.kernel.saved.getD (m.kernel.ready.getD 0 0).toNat coreZ)) rfl (by with_reducible rfl) (by simp (disch := omega) only [go_sem])) ?_
      simp (disch := omega) only [go_sem]
      refine hcall_of_body Tryz.func55 rfl (by kernel_rfl) ?_
      simp (disch := omega) only [go_sem, Tryz.ntmps55, Tryz.results55]
      repeat' (first | (with_reducible first | refine i_seq ?_ | exact th_none | exact tr_none | refine tr_stop ?_ | refine i_treeQ (id := 6) (.fr [0, 1, 2, 3, 4, 5, 6] (.op [7] (.stop))) mixedT (by kernel_rfl) (fun Q' hQ => ?_) | refine i_treeQ (id := 10) (.fr [0, 1, 2, 3, 4, 5, 6, 7, 8, 9, 10, 11, 12, 13, 14] (.op [15] (.fr [16] (.stop)))) mixedT (by kernel_rfl) (fun Q' hQ => ?_) | refine i_treeQ (id := 1) (.fr [0, 1, 2, 3, 4, 5, 6, 7, 8, 9, 10, 11, 12, 13, 14, 15, 16, 17, 18] (.op [19] (.fr [20, 21] (.stop)))) mixedT (by kernel_rfl) (fun Q' hQ => ?_) | refine i_th (id := 3) (.ho [0, 1, 2, 3, 4, 5, 6, 7, 8, 9, 10, 11] (altm 12 [10, 9, 8, 7, 3] [false, true, true, true, true, true] (opm 13 [10, 9, 8, 7, 3] [true, true, true, true, true] (opm 14 [] [false, false, false, false, false] (.stop))) (altm 13 [11, 10, 9, 8, 7, 3] [true, true, true, true, true, true] (opm 12 [10, 9, 8, 7, 3] [false, true, true, true, true, true] (opm 14 [] [false, false, false, false, false] (.stop))) (.stop)))) mixedT (by kernel_rfl) (fun Q' hQ => ?_)) | ((first | (with_reducible first | refine i_block ?_ | refine i_regionQ (fun Q' hQ => ?_) | (refine Imp.go hQ ?_; clear hQ) | refine aL_run ?_ | refine tr_fr ?_ | refine tr_op (aL_run ?_) | refine tr_alt (by kernel_rfl) (aL_run ?_) ?_ | refine tr_altp ?_ ?_ | refine th_ho ?_ | refine th_stop ?_ ?_ | refine th_opm ?_ (by kernel_rfl) (aL_run ?_) | refine th_altm ?_ (by kernel_rfl) (aL_run ?_) ?_) | ((with_reducible refine i_condT ?_ ?_); (focus (simp only [go_sem, *]; done))) | ((with_reducible refine i_condF ?_ ?_); (focus (simp only [go_sem, *]; done))) | ((with_reducible first | refine resOk_g (fun h => ?_) (fun h => ?_) | refine pG_split (fun h => ?_) (fun h => ?_) | refine i_cond (by simp only [go_sem, *] <;> rfl) (fun h => ?_) (fun h => ?_)) <;> (try simp only [Bool.not_eq_eq_eq_not, Bool.not_true, Bool.not_false, reduceCtorEq] at h) <;> (try have h' := of_decide_eq_true h) <;> (try (have hz : (_ : Int) = (_ : Int) := h'; clear hz h')) <;> (try have h' := of_decide_eq_false h) <;> (try have h' := inB_t h) <;> (try (exfalso; omega))) | ((first | ((with_reducible first | refine hcall_of_callOk 40 true (l15Copy_ok (m.kernel.saved.getD (m.kernel.ready.getD 0 0).toNat coreZ) hcc) ?_ ?_ ?_ ?_ ?_); iterate 4 (focus (simp (disch := omega) only [go_sem, hst, hib, hp, hz, h2, hcself, hsself, List.set_set, reduceCtorEq, natLe_ok]; done))) | ((with_reducible refine hcall_of_callOk 40 true (specInB_ok i 0 ((m.cores.length : Int) - 1)) ?_ ?_ ?_ ?_ ?_); iterate 4 (focus (simp (disch := omega) only [go_sem, hst, hib, hp, hz, h2, hcself, hsself, List.set_set, reduceCtorEq, natLe_ok]; done))) | ((with_reducible refine hcall_of_callOk 40 true (specInB_ok (m.kernel.ready.getD 0 0) 0 ((m.kernel.saved.length : Int) - 1)) ?_ ?_ ?_ ?_ ?_); iterate 4 (focus (simp (disch := omega) only [go_sem, hst, hib, hp, hz, h2, hcself, hsself, List.set_set, reduceCtorEq, natLe_ok]; done)))); simp only [go_sem, hst, hib, hp, hz, h2, hcself, hsself, List.set_set, reduceCtorEq]; refine aL_run ?_)) <;> (try simp (disch := omega) only [go_sem, hst, hib, hp, hz, h2, hcself, hsself, List.set_set, reduceCtorEq, *])) | (refine hcall_of_body (f := 129) Tryz.func129 rfl (by kernel_rfl) ?_; simp (disch := omega) only [go_sem, Tryz.ntmps129, Tryz.results129, hst, hib, hp, hz, h2, hcself, hsself, List.set_set, reduceCtorEq]) | ((first | apply hcall_folds | apply endF_folds); (focus ((first | refine folds_setc 4 rfl (by with_reducible rfl) ?_ ?_ | refine folds_setc 5 rfl (by with_reducible rfl) ?_ ?_ | refine folds_setc 7 rfl (by with_reducible rfl) ?_ ?_); (focus (simp (disch := omega) only [go_sem]; done)); (focus (first | omega | (simp (disch := omega) only [go_sem]; omega))))); (try simp (disch := omega) only [go_sem, hst, hib, hp, hz, h2, hcself, hsself, List.set_set, reduceCtorEq, *])))
      all_goals (try (with_reducible refine endF_k ?_))
      all_goals (try simp (disch := omega) only [EndK, go_sem, hst, hib, hp, hz, h2, hcself, hsself, List.set_set, reduceCtorEq, natLe_ok, *])
  · have e : pickK m.kernel = (m.kernel, newCore, false) := by unfold pickK; rw [hz, if_pos rfl]
    rw [e]
    refine callOk_of_hcallF 40 ?_
    simp (disch := omega) only [go_sem]
    refine hcall_names (names_at 0 0 (machineT m) rfl (by with_reducible rfl) (by simp (disch := omega) only [go_sem])) ?_
    simp (disch := omega) only [go_sem]
    refine hcall_names (names_at 4 i.toNat (coreT (m.cores.getD i.toNat coreZ)) rfl (by with_reducible rfl) (by simp (disch := omega) only [go_sem])) ?_
    simp (disch := omega) only [go_sem]
    refine hcall_of_body Tryz.func55 rfl (by kernel_rfl) ?_
    simp (disch := omega) only [go_sem, Tryz.ntmps55, Tryz.results55]
    repeat' (first | (with_reducible first | refine i_seq ?_ | exact th_none | exact tr_none | refine tr_stop ?_ | refine i_treeQ (id := 6) (.fr [0, 1, 2, 3, 4, 5, 6] (.op [7] (.stop))) mixedT (by kernel_rfl) (fun Q' hQ => ?_) | refine i_treeQ (id := 10) (.fr [0, 1, 2, 3, 4, 5, 6, 7, 8, 9, 10, 11, 12, 13, 14] (.op [15] (.fr [16] (.stop)))) mixedT (by kernel_rfl) (fun Q' hQ => ?_) | refine i_treeQ (id := 1) (.fr [0, 1, 2, 3, 4, 5, 6, 7, 8, 9, 10, 11, 12, 13, 14, 15, 16, 17, 18] (.op [19] (.fr [20, 21] (.stop)))) mixedT (by kernel_rfl) (fun Q' hQ => ?_) | refine i_th (id := 3) (.ho [0, 1, 2, 3, 4, 5, 6, 7, 8, 9, 10, 11] (altm 12 [10, 9, 8, 7, 3] [false, true, true, true, true, true] (opm 13 [10, 9, 8, 7, 3] [true, true, true, true, true] (opm 14 [] [false, false, false, false, false] (.stop))) (altm 13 [11, 10, 9, 8, 7, 3] [true, true, true, true, true, true] (opm 12 [10, 9, 8, 7, 3] [false, true, true, true, true, true] (opm 14 [] [false, false, false, false, false] (.stop))) (.stop)))) mixedT (by kernel_rfl) (fun Q' hQ => ?_)) | ((first | (with_reducible first | refine i_block ?_ | refine i_regionQ (fun Q' hQ => ?_) | (refine Imp.go hQ ?_; clear hQ) | refine aL_run ?_ | refine tr_fr ?_ | refine tr_op (aL_run ?_) | refine tr_alt (by kernel_rfl) (aL_run ?_) ?_ | refine tr_altp ?_ ?_ | refine th_ho ?_ | refine th_stop ?_ ?_ | refine th_opm ?_ (by kernel_rfl) (aL_run ?_) | refine th_altm ?_ (by kernel_rfl) (aL_run ?_) ?_) | ((with_reducible refine i_condT ?_ ?_); (focus (simp only [go_sem, *]; done))) | ((with_reducible refine i_condF ?_ ?_); (focus (simp only [go_sem, *]; done))) | ((with_reducible first | refine resOk_g (fun h => ?_) (fun h => ?_) | refine pG_split (fun h => ?_) (fun h => ?_) | refine i_cond (by simp only [go_sem, *] <;> rfl) (fun h => ?_) (fun h => ?_)) <;> (try simp only [Bool.not_eq_eq_eq_not, Bool.not_true, Bool.not_false, reduceCtorEq] at h) <;> (try have h' := of_decide_eq_true h) <;> (try (have hz : (_ : Int) = (_ : Int) := h'; clear hz h')) <;> (try have h' := of_decide_eq_false h) <;> (try have h' := inB_t h) <;> (try (exfalso; omega))) | (((with_reducible first | refine hcall_of_callOk 40 true (specInB_ok i 0 ((m.cores.length : Int) - 1)) ?_ ?_ ?_ ?_ ?_ | refine hcall_of_callOk 40 true (sCoreNew_ok) ?_ ?_ ?_ ?_ ?_); iterate 4 (focus (simp (disch := omega) only [go_sem, hst, hib, hp, hz, hcself, reduceCtorEq, natLe_ok]; done))); simp only [go_sem, hst, hib, hp, hz, hcself, reduceCtorEq]; refine aL_run ?_)) <;> (try simp (disch := omega) only [go_sem, hst, hib, hp, hz, hcself, reduceCtorEq, *])) | (refine hcall_of_body (f := 129) Tryz.func129 rfl (by kernel_rfl) ?_; simp (disch := omega) only [go_sem, Tryz.ntmps129, Tryz.results129, hst, hib, hp, hz, hcself, reduceCtorEq]) | ((first | apply hcall_folds | apply endF_folds); (focus ((first | refine folds_setc 4 rfl (by with_reducible rfl) ?_ ?_ | refine folds_setc 5 rfl (by with_reducible rfl) ?_ ?_ | refine folds_setc 7 rfl (by with_reducible rfl) ?_ ?_); (focus (simp (disch := omega) only [go_sem]; done)); (focus (first | omega | (simp (disch := omega) only [go_sem]; omega))))); (try simp (disch := omega) only [go_sem, hst, hib, hp, hz, hcself, reduceCtorEq, *])))
    all_goals (try (with_reducible refine endF_k ?_))
    all_goals (try simp (disch := omega) only [EndK, go_sem, hst, hib, hp, hz, hcself, reduceCtorEq, natLe_ok, *])
end Go.Proofs.YtejnpiielcbkkaaGreat.E
