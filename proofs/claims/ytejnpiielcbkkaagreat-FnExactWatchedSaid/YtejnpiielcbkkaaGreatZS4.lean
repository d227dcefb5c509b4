/- A part of what stands under the laws of this seat: an abstract evaluator that is proved sound, and contracts of functions by it. No condition beside those that stand in each statement. -/
import Derived.Test.YtejnpiielcbkkaaGreatZS1
set_option linter.unusedVariables false
set_option linter.unusedSimpArgs false
set_option maxRecDepth 100000
set_option maxHeartbeats 4000000
namespace Go.Proofs.YtejnpiielcbkkaaGreat.E
theorem sGate_delay (m : Machine) (i n q : Int) (hm : mdMachine m) (hm2 : mdMachine (holdM (tellM (setG m n (delayIn (m.kernel.gates.getD n.toNat gateZ) q).1) (m.cores.getD i.toNat coreZ).process 3 n) i)) (h0 : 0 ≤ i) (h1 : i < m.cores.length) (hn : 0 ≤ n) (hn2 : n ≤ 4194303) (hg : n < (m.kernel.gates.length : Int)) :
    CallOk Tryz.prog 193 [.one (.box (machineT m)), .one (iV i), .one (iV 3), .one (iV n), .one (iV q)] (.tup []) [some (.box (machineT (if (delayIn (m.kernel.gates.getD n.toNat gateZ) q).2.2 = true then unlockM (holdM (tellM (setG m n (delayIn (m.kernel.gates.getD n.toNat gateZ) q).1) (m.cores.getD i.toNat coreZ).process 3 n) i) (delayIn (m.kernel.gates.getD n.toNat gateZ) q).2.1 else tellM m (m.cores.getD i.toNat coreZ).process 8 3))), none, none, none, none] := by
  have u2 := sUnlock_ok (holdM (tellM (setG m n (delayIn (m.kernel.gates.getD n.toNat gateZ) q).1) (m.cores.getD i.toNat coreZ).process 3 n) i) (delayIn (m.kernel.gates.getD n.toNat gateZ) q).2.1 hm2
  clear hm2
  obtain ⟨hi, hme, ⟨hc, hcs⟩, hk, hin, hev, hevs⟩ := hm
  obtain ⟨⟨hg1, hg2⟩, hkr, ⟨hks, hks2⟩, hko⟩ := hk
  have hgm : mdGate (gateAt m n) := md_gate hg2 n.toNat
  have hcm : mdCore (m.cores.getD i.toNat coreZ) := md_core hcs i.toNat
  have hgl : n.toNat < m.kernel.gates.length := by omega
  have hil : i.toNat < m.cores.length := by omega
  have hcself := cores_self hil
  have hgself := gates_self hgl
  have hgb : inB n 0 ((m.kernel.gates.length : Int) - 1) = true := inB_of (by omega) (by omega)
  have u3 := sFault_ok m (m.cores.getD i.toNat coreZ).process 3 (by omega)
  cases hnx : (delayIn (m.kernel.gates.getD n.toNat gateZ) q).2.2
  ·
   refine callOk_of_hcallF 40 ?_
   simp (disch := omega) only [go_sem]
   refine hcall_names (names_at 0 0 (machineT m) rfl (by with_reducible rfl) (by simp (disch := omega) only [go_sem])) ?_
   simp (disch := omega) only [go_sem]
   refine hcall_names (names_at 4 i.toNat (coreT (m.cores.getD i.toNat coreZ)) rfl (by with_reducible rfl) (by simp (disch := omega) only [go_sem])) ?_
   simp (disch := omega) only [go_sem]
   refine hcall_names (names_at 5 n.toNat (gateT (m.kernel.gates.getD n.toNat gateZ)) rfl (by with_reducible rfl) (by simp (disch := omega) only [go_sem])) ?_
   simp (disch := omega) only [go_sem]
   refine hcall_of_body Tryz.func193 rfl (by kernel_rfl) ?_
   simp (disch := omega) only [go_sem, Tryz.ntmps193, Tryz.results193]
   have x1 := @procM.eq_1
   have x2 := @gateAt.eq_1
   have x3 := @setG.eq_1
   have x4 := @List.set_set.{0}
   have x5 : HT 11 (.fr [0, 1, 2, 3, 4, 5, 6, 7] (.op [8] (.stop))) := ⟨⟩
   have x6 : HT 14 (.fr [0, 1, 2, 3] (.op [4] (.stop))) := ⟨⟩
   have x7 : HH 15 (.ho [0, 1, 2, 3, 4] (opm 5 [3] [true] (.ho [6] (opm 7 [] [false, false] (.stop))))) := ⟨⟩
   have x8 : HH 17 (.ho [0, 1, 2, 3, 4, 5, 6] (opm 7 [4] [false, true] (.ho [8, 9, 10, 11] (opm 12 [] [false, false] (.ho [13] (.stop)))))) := ⟨⟩
   have x9 : HT 23 (.fr [0, 1, 2, 3, 4, 5, 6, 7] (.op [8] (.stop))) := ⟨⟩
   have x10 : HT 26 (.fr [0, 1, 2, 3] (.op [4] (.stop))) := ⟨⟩
   have x11 : HH 27 (.ho [0, 1, 2, 3, 4] (opm 5 [3] [true] (.ho [6] (opm 7 [] [false, false] (.stop))))) := ⟨⟩
   have x12 : HH 7 (.ho [0, 1, 2, 3, 4, 5, 6, 7] (opm 8 [4] [false, true] (.ho [9, 10, 11, 12] (opm 13 [] [false, false] (.ho [14] (.stop)))))) := ⟨⟩
   have x13 : HF 0 4 := ⟨⟩
   have x14 : HF 1 5 := ⟨⟩
   have x15 : HF 2 7 := ⟨⟩
   have x16 := sDelayIn_ok (m.kernel.gates.getD n.toNat gateZ) q hgm
   have x17 := specInB_ok n 0 ((m.kernel.gates.length : Int) - 1)
   exact wkfi
  ·
   cases hsv : inB (m.cores.getD i.toNat coreZ).process 0 ((m.kernel.saved.length : Int) - 1)
   all_goals (first | have hsv1 := inB_t hsv | skip)
   all_goals
    refine callOk_of_hcallF 40 ?_
    simp (disch := omega) only [go_sem]
    refine hcall_names (names_at 0 0 (machineT m) rfl (by with_reducible rfl) (by simp (disch := omega) only [go_sem])) ?_
    simp (disch := omega) only [go_sem]
    refine hcall_names (names_at 4 i.toNat (coreT (m.cores.getD i.toNat coreZ)) rfl (by with_reducible rfl) (by simp (disch := omega) only [go_sem])) ?_
    simp (disch := omega) only [go_sem]
    refine hcall_names (names_at 5 n.toNat (gateT (m.kernel.gates.getD n.toNat gateZ)) rfl (by with_reducible rfl) (by simp (disch := omega) only [go_sem])) ?_
    simp (disch := omega) only [go_sem]
    refine hcall_of_body Tryz.func193 rfl (by kernel_rfl) ?_
    simp (disch := omega) only [go_sem, Tryz.ntmps193, Tryz.results193]
    repeat' (first | (with_reducible first | refine i_seq ?_ | exact th_none | exact tr_none | refine tr_stop ?_ | refine i_treeQ (id := 11) (.fr [0, 1, 2, 3, 4, 5, 6, 7] (.op [8] (.stop))) mixedT (by kernel_rfl) (fun Q' hQ => ?_) | refine i_treeQ (id := 14) (.fr [0, 1, 2, 3] (.op [4] (.stop))) mixedT (by kernel_rfl) (fun Q' hQ => ?_) | refine i_th (id := 15) (.ho [0, 1, 2, 3, 4] (opm 5 [3] [true] (.ho [6] (opm 7 [] [false, false] (.stop))))) mixedT (by kernel_rfl) (fun Q' hQ => ?_) | refine i_th (id := 17) (.ho [0, 1, 2, 3, 4, 5, 6] (opm 7 [4] [false, true] (.ho [8, 9, 10, 11] (opm 12 [] [false, false] (.ho [13] (.stop)))))) mixedT (by kernel_rfl) (fun Q' hQ => ?_) | refine i_treeQ (id := 23) (.fr [0, 1, 2, 3, 4, 5, 6, 7] (.op [8] (.stop))) mixedT (by kernel_rfl) (fun Q' hQ => ?_) | refine i_treeQ (id := 26) (.fr [0, 1, 2, 3] (.op [4] (.stop))) mixedT (by kernel_rfl) (fun Q' hQ => ?_) | refine i_th (id := 27) (.ho [0, 1, 2, 3, 4] (opm 5 [3] [true] (.ho [6] (opm 7 [] [false, false] (.stop))))) mixedT (by kernel_rfl) (fun Q' hQ => ?_) | refine i_th (id := 7) (.ho [0, 1, 2, 3, 4, 5, 6, 7] (opm 8 [4] [false, true] (.ho [9, 10, 11, 12] (opm 13 [] [false, false] (.ho [14] (.stop)))))) mixedT (by kernel_rfl) (fun Q' hQ => ?_) | refine i_treeQ (id := 1) (.fr [0, 1, 2, 3, 4, 5, 6, 7] (.op [8] (.stop))) mixedT (by kernel_rfl) (fun Q' hQ => ?_) | refine i_th (id := 2) (.ho [0, 1, 2, 3, 4, 5, 6] (opm 7 [5, 3] [false, true, true] (.ho [8] (opm 9 [] [false, false, false] (.stop))))) mixedT (by kernel_rfl) (fun Q' hQ => ?_)) | ((first | (with_reducible first | refine i_block ?_ | refine i_regionQ (fun Q' hQ => ?_) | (refine Imp.go hQ ?_; clear hQ) | refine aL_run ?_ | refine tr_fr ?_ | refine tr_op (aL_run ?_) | refine tr_alt (by kernel_rfl) (aL_run ?_) ?_ | refine tr_altp ?_ ?_ | refine th_ho ?_ | refine th_stop ?_ ?_ | refine th_opm ?_ (by kernel_rfl) (aL_run ?_) | refine th_altm ?_ (by kernel_rfl) (aL_run ?_) ?_) | ((with_reducible refine i_condT ?_ ?_); (focus (simp only [go_sem, *]; done))) | ((with_reducible refine i_condF ?_ ?_); (focus (simp only [go_sem, *]; done))) | ((with_reducible first | refine resOk_g (fun h => ?_) (fun h => ?_) | refine pG_split (fun h => ?_) (fun h => ?_) | refine i_cond (by simp only [go_sem, *] <;> rfl) (fun h => ?_) (fun h => ?_)) <;> (try simp only [Bool.not_eq_eq_eq_not, Bool.not_true, Bool.not_false, reduceCtorEq] at h) <;> (try have h' := of_decide_eq_true h) <;> (try (have hz : (_ : Int) = (_ : Int) := h'; clear hz h')) <;> (try have h' := of_decide_eq_false h) <;> (try have h' := inB_t h) <;> (try (exfalso; omega))) | ((first | ((with_reducible first | refine hcall_of_callOk 40 true (sDelayIn_ok (m.kernel.gates.getD n.toNat gateZ) q hgm) ?_ ?_ ?_ ?_ ?_ | refine hcall_of_callOk 40 true (l15Copy_ok (m.cores.getD i.toNat coreZ) hcm) ?_ ?_ ?_ ?_ ?_ | refine hcall_of_callOk 40 true (sCoreNew_ok) ?_ ?_ ?_ ?_ ?_ | refine hcall_of_callOk 40 true (u2) ?_ ?_ ?_ ?_ ?_); iterate 4 (focus (simp (disch := omega) only [go_sem, procM, gateAt, setG, tellM, holdM, hold, hnx, hsv, hcself, hgself, Int.reduceBEq, Int.reduceBNe, Int.reduceNeg, Int.reduceLE, Int.reduceLT, Int.reduceEq, reduceCtorEq, List.set_set, natLe_ok]; done))) | ((with_reducible refine hcall_of_callOk 40 true (specInB_ok n 0 ((m.kernel.gates.length : Int) - 1)) ?_ ?_ ?_ ?_ ?_); iterate 4 (focus (simp (disch := omega) only [go_sem, procM, gateAt, setG, tellM, holdM, hold, hnx, hsv, hcself, hgself, Int.reduceBEq, Int.reduceBNe, Int.reduceNeg, Int.reduceLE, Int.reduceLT, Int.reduceEq, reduceCtorEq, List.set_set, natLe_ok]; done))) | ((with_reducible refine hcall_of_callOk 40 true (specInB_ok (m.cores.getD i.toNat coreZ).process 0 ((m.kernel.saved.length : Int) - 1)) ?_ ?_ ?_ ?_ ?_); iterate 4 (focus (simp (disch := omega) only [go_sem, procM, gateAt, setG, tellM, holdM, hold, hnx, hsv, hcself, hgself, Int.reduceBEq, Int.reduceBNe, Int.reduceNeg, Int.reduceLE, Int.reduceLT, Int.reduceEq, reduceCtorEq, List.set_set, natLe_ok]; done)))); simp only [go_sem, procM, gateAt, setG, tellM, holdM, hold, hnx, hsv, hcself, hgself, Int.reduceBEq, Int.reduceBNe, Int.reduceNeg, Int.reduceLE, Int.reduceLT, Int.reduceEq, reduceCtorEq, List.set_set]; refine aL_run ?_)) <;> (try simp (disch := omega) only [go_sem, procM, gateAt, setG, tellM, holdM, hold, hnx, hsv, hcself, hgself, Int.reduceBEq, Int.reduceBNe, Int.reduceNeg, Int.reduceLE, Int.reduceLT, Int.reduceEq, reduceCtorEq, List.set_set, *])) | (refine hcall_of_body (f := 194) Tryz.func194 rfl (by kernel_rfl) ?_; simp (disch := omega) only [go_sem, Tryz.ntmps194, Tryz.results194, procM, gateAt, setG, tellM, holdM, hold, hnx, hsv, hcself, hgself, Int.reduceBEq, Int.reduceBNe, Int.reduceNeg, Int.reduceLE, Int.reduceLT, Int.reduceEq, reduceCtorEq, List.set_set]) | (refine hcall_of_body (f := 235) Tryz.func235 rfl (by kernel_rfl) ?_; simp (disch := omega) only [go_sem, Tryz.ntmps235, Tryz.results235, procM, gateAt, setG, tellM, holdM, hold, hnx, hsv, hcself, hgself, Int.reduceBEq, Int.reduceBNe, Int.reduceNeg, Int.reduceLE, Int.reduceLT, Int.reduceEq, reduceCtorEq, List.set_set]) | ((first | apply hcall_folds | apply endF_folds); (focus ((first | refine folds_setc 4 rfl (by with_reducible rfl) ?_ ?_ | refine folds_setc 5 rfl (by with_reducible rfl) ?_ ?_ | refine folds_setc 7 rfl (by with_reducible rfl) ?_ ?_); (focus (simp (disch := omega) only [go_sem]; done)); (focus (first | omega | (simp (disch := omega) only [go_sem]; omega))))); (try simp (disch := omega) only [go_sem, procM, gateAt, setG, tellM, holdM, hold, hnx, hsv, hcself, hgself, Int.reduceBEq, Int.reduceBNe, Int.reduceNeg, Int.reduceLE, Int.reduceLT, Int.reduceEq, reduceCtorEq, List.set_set, *])))
    all_goals (try (with_reducible refine endF_k ?_))
    all_goals (try simp (disch := omega) only [EndK, go_sem, procM, gateAt, setG, tellM, holdM, hold, hnx, hsv, hcself, hgself, Int.reduceBEq, Int.reduceBNe, Int.reduceNeg, Int.reduceLE, Int.reduceLT, Int.reduceEq, reduceCtorEq, List.set_set, natLe_ok, *])
theorem sGate_out (m : Machine) (i k n q : Int) (hm : mdMachine m) (h0 : 0 ≤ i) (h1 : i < m.cores.length) (hn : 0 ≤ n) (hn2 : n ≤ 4194303) (hg : (m.kernel.gates.length : Int) ≤ n) :
    CallOk Tryz.prog 193 [.one (.box (machineT m)), .one (iV i), .one (iV k), .one (iV n), .one (iV q)] (.tup []) [some (.box (machineT (tellM m (m.cores.getD i.toNat coreZ).process 8 4))), none, none, none, none] := by
  obtain ⟨hi, hme, ⟨hc, hcs⟩, hk, hin, hev, hevs⟩ := hm
  obtain ⟨⟨hg1, hg2⟩, hkr, ⟨hks, hks2⟩, hko⟩ := hk
  have hil : i.toNat < m.cores.length := by omega
  have hcself := cores_self hil
  have u3 := sFault_ok m (m.cores.getD i.toNat coreZ).process 4 (by omega)
  have hgb : inB n 0 ((m.kernel.gates.length : Int) - 1) = false := by
    cases hz : inB n 0 ((m.kernel.gates.length : Int) - 1)
    · rfl
    · have := inB_t hz; omega
  refine callOk_of_hcallF 40 ?_
  simp (disch := omega) only [go_sem]
  refine hcall_names (names_at 0 0 (machineT m) rfl (by with_reducible rfl) (by simp (disch := omega) only [go_sem])) ?_
  simp (disch := omega) only [go_sem]
  refine hcall_names (names_at 4 i.toNat (coreT (m.cores.getD i.toNat coreZ)) rfl (by with_reducible rfl) (by simp (disch := omega) only [go_sem])) ?_
  simp (disch := omega) only [go_sem]
  refine hcall_of_body Tryz.func193 rfl (by kernel_rfl) ?_
  simp (disch := omega) only [go_sem, Tryz.ntmps193, Tryz.results193]
  have x1 := @procM.eq_1
  have x2 := @List.set_set.{0}
  have x3 : HT 11 (.fr [0, 1, 2, 3, 4, 5, 6, 7] (.op [8] (.stop))) := ⟨⟩
  have x4 : HT 14 (.fr [0, 1, 2, 3] (.op [4] (.stop))) := ⟨⟩
  have x5 : HH 15 (.ho [0, 1, 2, 3, 4] (opm 5 [3] [true] (.ho [6] (opm 7 [] [false, false] (.stop))))) := ⟨⟩
  have x6 : HH 17 (.ho [0, 1, 2, 3, 4, 5, 6] (opm 7 [4] [false, true] (.ho [8, 9, 10, 11] (opm 12 [] [false, false] (.ho [13] (.stop)))))) := ⟨⟩
  have x7 : HT 23 (.fr [0, 1, 2, 3, 4, 5, 6, 7] (.op [8] (.stop))) := ⟨⟩
  have x8 : HT 26 (.fr [0, 1, 2, 3] (.op [4] (.stop))) := ⟨⟩
  have x9 : HH 27 (.ho [0, 1, 2, 3, 4] (opm 5 [3] [true] (.ho [6] (opm 7 [] [false, false] (.stop))))) := ⟨⟩
  have x10 : HH 7 (.ho [0, 1, 2, 3, 4, 5, 6, 7] (opm 8 [4] [false, true] (.ho [9, 10, 11, 12] (opm 13 [] [false, false] (.ho [14] (.stop)))))) := ⟨⟩
  have x11 : HF 0 4 := ⟨⟩
  have x12 : HF 1 5 := ⟨⟩
  have x13 : HF 2 7 := ⟨⟩
  have x14 := specInB_ok n 0 ((m.kernel.gates.length : Int) - 1)
  exact wkfi
end Go.Proofs.YtejnpiielcbkkaaGreat.E
