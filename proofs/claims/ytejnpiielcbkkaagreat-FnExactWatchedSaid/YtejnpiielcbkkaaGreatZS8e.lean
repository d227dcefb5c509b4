/- A part of what stands under the laws of this seat: an abstract evaluator that is proved sound, and contracts of functions by it. No condition beside those that stand in each statement. -/
import Derived.Test.YtejnpiielcbkkaaGreatZS7
import Derived.Test.YtejnpiielcbkkaaGreatZK21
import Derived.Test.YtejnpiielcbkkaaGreatZS8a
set_option linter.unusedVariables false
set_option linter.unusedSimpArgs false
set_option maxRecDepth 100000
set_option maxHeartbeats 4000000
namespace Go.Proofs.YtejnpiielcbkkaaGreat.E
theorem sStep_op6 (m : Machine) (i a b d : Int) (hm : mdMachine m) (hst : m.stopped = false) (hib : inB i 0 ((m.cores.length : Int) - 1) = true) (hp : decide ((m.cores.getD i.toNat coreZ).process < 0) = false) (hco : coreOk (m.cores.getD i.toNat coreZ) = true) (hpc : inB (m.cores.getD i.toNat coreZ).pc 0 ((m.image.text.length : Int) - 1) = true) (hd : decode (m.image.text.getD (m.cores.getD i.toNat coreZ).pc.toNat 0) = (⟨6, a, b, d⟩, true)) : CallOk Tryz.prog 55 [.one (.box (machineT m)), .one (iV i)] (.s (.one (bV true))) [some (.box (machineT (if (negated ((m.cores.getD i.toNat coreZ).regs.getD a.toNat 0)).2 = 0 then opM m i ⟨6, a, b, d⟩ else tellM m (m.cores.getD i.toNat coreZ).process 8 (negated ((m.cores.getD i.toNat coreZ).regs.getD a.toNat 0)).2))), none] := by
  have hcs : m.cores.length ≤ 68719476736 := hm.2.2.1.1
  have hcm : mdCore (m.cores.getD i.toNat coreZ) := md_core hm.2.2.1.2 i.toNat
  have hev : m.events.length ≤ 137438953472 := Nat.le_trans hm.2.2.2.2.2.1 (by omega)
  obtain ⟨⟨htx, hsx⟩, hme, -⟩ := hm
  obtain ⟨hi0, hi1⟩ := inB_of3 hib
  have hil : i.toNat < m.cores.length := by omega
  have hcself := cores_self hil
  have hdc := decode_is hd
  obtain ⟨p0, p1⟩ := inB_of3 hpc
  obtain ⟨-, ⟨a1, a2⟩, ⟨b1, b2⟩, c1, c2⟩ := insOk_bd (decode_ok hd)
  obtain ⟨h8, -, -, -⟩ := coreOk_bd hco
  have h8a : 8 ≤ (m.cores.getD i.toNat coreZ).regs.length := by omega
  have h8b : (m.cores.getD i.toNat coreZ).regs.length ≤ 8 := by omega
  clear h8
  dsimp only at a1 a2 b1 b2 c1 c2
  have hsame := set_getD_self (m.cores.getD i.toNat coreZ).regs a.toNat (by omega)
  have hcode : (negated ((m.cores.getD i.toNat coreZ).regs.getD a.toNat 0)).2 ≤ 2 ∧ 0 ≤ (negated ((m.cores.getD i.toNat coreZ).regs.getD a.toNat 0)).2 := negated_code _
  have hft := sFault_ok m (m.cores.getD i.toNat coreZ).process (negated ((m.cores.getD i.toNat coreZ).regs.getD a.toNat 0)).2 hev
  cases hf : decide ((negated ((m.cores.getD i.toNat coreZ).regs.getD a.toNat 0)).2 = 0)
  all_goals
    have hf1 : ((negated ((m.cores.getD i.toNat coreZ).regs.getD a.toNat 0)).2 == 0) = decide ((negated ((m.cores.getD i.toNat coreZ).regs.getD a.toNat 0)).2 = 0) := rfl
    have hf2 : ((negated ((m.cores.getD i.toNat coreZ).regs.getD a.toNat 0)).2 != 0) = !decide ((negated ((m.cores.getD i.toNat coreZ).regs.getD a.toNat 0)).2 = 0) := rfl
    have hf4 : ((negated ((m.cores.getD i.toNat coreZ).regs.getD a.toNat 0)).2 == 10) = false := beq_eq_false_iff_ne.2 (by omega)
    rw [hf] at hf1 hf2
    simp only [Bool.not_true, Bool.not_false] at hf2
    have hf3 := hf
    simp only [decide_eq_true_eq, decide_eq_false_iff_not] at hf3
    refine callOk_of_hcallF 40 ?_
    simp (disch := omega) only [go_sem]
    refine hcall_names (names_at 0 0 (machineT m) rfl (by with_reducible rfl) (by simp (disch := omega) only [go_sem])) ?_
    simp (disch := omega) only [go_sem]
    refine hcall_names (names_at 4 i.toNat (coreT (m.cores.getD i.toNat coreZ)) rfl (by with_reducible rfl) (by simp (disch := omega) only [go_sem])) ?_
    simp (disch := omega) only [go_sem]
    refine hcall_of_body Tryz.func55 rfl (by kernel_rfl) ?_
    simp (disch := omega) only [go_sem, Tryz.ntmps55, Tryz.results55]
    repeat' (first | (with_reducible first | refine i_seq ?_ | exact tr_none | refine tr_stop ?_ | refine i_treeQ (id := 6) (.fr [0, 1, 2, 3, 4, 5, 6] (.op [7] (.stop))) mixedT (by kernel_rfl) (fun Q' hQ => ?_) | refine i_treeQ (id := 10) (.fr [0, 1, 2, 3, 4, 5, 6, 7, 8, 9, 10, 11, 12, 13, 14] (.op [15] (.fr [16] (.stop)))) mixedT (by kernel_rfl) (fun Q' hQ => ?_) | refine i_treeQ (id := 12) (.fr [0, 1, 2, 3, 4, 5, 6, 7, 8] (.stop)) mixedT (by kernel_rfl) (fun Q' hQ => ?_) | refine i_treeQ (id := 1) (.fr [0, 1, 2, 3, 4, 5, 6, 7, 8] (.stop)) mixedT (by kernel_rfl) (fun Q' hQ => ?_) | refine i_treeQ (id := 7) (.fr [0, 1, 2, 3, 4, 5, 6, 7, 8, 9, 10, 11, 12, 13, 14, 15, 16, 17] (.op [18] (.fr [19, 20, 21, 22, 23] (.stop)))) mixedT (by kernel_rfl) (fun Q' hQ => ?_) | refine i_treeQ (id := 14) (.fr [0, 1, 2, 3, 4, 5, 6, 7] (.op [8] (.stop))) mixedT (by kernel_rfl) (fun Q' hQ => ?_)) | ((first | (with_reducible first | refine i_block ?_ | refine i_regionQ (fun Q' hQ => ?_) | (refine Imp.go hQ ?_; clear hQ) | refine aL_run ?_ | refine tr_fr ?_ | refine tr_op (aL_run ?_) | refine tr_alt (by kernel_rfl) (aL_run ?_) ?_ | refine tr_altp ?_ ?_) | ((with_reducible refine i_condT ?_ ?_); (focus (simp only [go_sem, *]; done))) | ((with_reducible refine i_condF ?_ ?_); (focus (simp only [go_sem, *]; done))) | ((with_reducible first | refine resOk_g (fun h => ?_) (fun h => ?_) | refine pG_split (fun h => ?_) (fun h => ?_) | refine i_cond (by simp only [go_sem, *] <;> rfl) (fun h => ?_) (fun h => ?_)) <;> (try simp only [Bool.not_eq_eq_eq_not, Bool.not_true, Bool.not_false, reduceCtorEq] at h) <;> (try have h' := of_decide_eq_true h) <;> (try (have hz : (_ : Int) = (_ : Int) := h'; clear hz h')) <;> (try have h' := of_decide_eq_false h) <;> (try have h' := inB_t h) <;> (try (exfalso; omega))) | ((first | ((with_reducible first | refine hcall_of_callOk 40 true (sCoreOk_ok (m.cores.getD i.toNat coreZ) hcm) ?_ ?_ ?_ ?_ ?_ | refine hcall_of_callOk 40 true (hdc) ?_ ?_ ?_ ?_ ?_ | refine hcall_of_callOk 40 true (sNegated_ok ((m.cores.getD i.toNat coreZ).regs.getD a.toNat 0)) ?_ ?_ ?_ ?_ ?_ | refine hcall_of_callOk 40 true (hft) ?_ ?_ ?_ ?_ ?_); iterate 4 (focus (simp (disch := omega) only [go_sem, hf, hf1, hf2, hf3, hf4, hst, hib, hp, hco, hpc, hcself, hsame, stepOp, putReg, regAt, Int.reduceBEq, Int.reduceBNe, Int.reduceNeg, Int.reduceLE, Int.reduceLT, Int.reduceEq, reduceCtorEq, List.set_set, natLe_ok]; done))) | ((with_reducible refine hcall_of_callOk 40 true (specInB_ok i 0 ((m.cores.length : Int) - 1)) ?_ ?_ ?_ ?_ ?_); iterate 4 (focus (simp (disch := omega) only [go_sem, hf, hf1, hf2, hf3, hf4, hst, hib, hp, hco, hpc, hcself, hsame, stepOp, putReg, regAt, Int.reduceBEq, Int.reduceBNe, Int.reduceNeg, Int.reduceLE, Int.reduceLT, Int.reduceEq, reduceCtorEq, List.set_set, natLe_ok]; done))) | ((with_reducible refine hcall_of_callOk 40 true (specInB_ok (m.cores.getD i.toNat coreZ).pc 0 ((m.image.text.length : Int) - 1)) ?_ ?_ ?_ ?_ ?_); iterate 4 (focus (simp (disch := omega) only [go_sem, hf, hf1, hf2, hf3, hf4, hst, hib, hp, hco, hpc, hcself, hsame, stepOp, putReg, regAt, Int.reduceBEq, Int.reduceBNe, Int.reduceNeg, Int.reduceLE, Int.reduceLT, Int.reduceEq, reduceCtorEq, List.set_set, natLe_ok]; done)))); simp only [go_sem, hf, hf1, hf2, hf3, hf4, hst, hib, hp, hco, hpc, hcself, hsame, stepOp, putReg, regAt, Int.reduceBEq, Int.reduceBNe, Int.reduceNeg, Int.reduceLE, Int.reduceLT, Int.reduceEq, reduceCtorEq, List.set_set]; refine aL_run ?_)) <;> (try simp (disch := omega) only [go_sem, hf, hf1, hf2, hf3, hf4, hst, hib, hp, hco, hpc, hcself, hsame, stepOp, putReg, regAt, Int.reduceBEq, Int.reduceBNe, Int.reduceNeg, Int.reduceLE, Int.reduceLT, Int.reduceEq, reduceCtorEq, List.set_set, *])) | (refine hcall_of_body (f := 130) Tryz.func130 rfl (by kernel_rfl) ?_; simp (disch := omega) only [go_sem, Tryz.ntmps130, Tryz.results130, hf, hf1, hf2, hf3, hf4, hst, hib, hp, hco, hpc, hcself, hsame, stepOp, putReg, regAt, Int.reduceBEq, Int.reduceBNe, Int.reduceNeg, Int.reduceLE, Int.reduceLT, Int.reduceEq, reduceCtorEq, List.set_set]) | (refine hcall_of_body (f := 192) Tryz.func192 rfl (by kernel_rfl) ?_; simp (disch := omega) only [go_sem, Tryz.ntmps192, Tryz.results192, hf, hf1, hf2, hf3, hf4, hst, hib, hp, hco, hpc, hcself, hsame, stepOp, putReg, regAt, Int.reduceBEq, Int.reduceBNe, Int.reduceNeg, Int.reduceLE, Int.reduceLT, Int.reduceEq, reduceCtorEq, List.set_set]) | ((first | apply hcall_folds | apply endF_folds); (focus ((first | refine folds_setc 4 rfl (by with_reducible rfl) ?_ ?_ | refine folds_setc 5 rfl (by with_reducible rfl) ?_ ?_ | refine folds_setc 7 rfl (by with_reducible rfl) ?_ ?_); (focus (simp (disch := omega) only [go_sem]; done)); (focus (first | omega | (simp (disch := omega) only [go_sem]; omega))))); (try simp (disch := omega) only [go_sem, hf, hf1, hf2, hf3, hf4, hst, hib, hp, hco, hpc, hcself, hsame, stepOp, putReg, regAt, Int.reduceBEq, Int.reduceBNe, Int.reduceNeg, Int.reduceLE, Int.reduceLT, Int.reduceEq, reduceCtorEq, List.set_set, *])))
    all_goals (try (with_reducible refine endF_k ?_))
    all_goals (try simp (disch := omega) only [EndK, go_sem, hf, hf1, hf2, hf3, hf4, hst, hib, hp, hco, hpc, hcself, hsame, stepOp, putReg, regAt, Int.reduceBEq, Int.reduceBNe, Int.reduceNeg, Int.reduceLE, Int.reduceLT, Int.reduceEq, reduceCtorEq, List.set_set, natLe_ok, *])
end Go.Proofs.YtejnpiielcbkkaaGreat.E
