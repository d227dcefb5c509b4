/- A part of what stands under the laws of this seat: an abstract evaluator that is proved sound, and contracts of functions by it. No condition beside those that stand in each statement. -/
import Derived.Test.YtejnpiielcbkkaaGreatZR6
set_option linter.unusedVariables false
set_option linter.unusedSimpArgs false
set_option maxRecDepth 100000
set_option maxHeartbeats 4000000
namespace Go.Proofs.YtejnpiielcbkkaaGreat.E
theorem notAsg {z : ByteArray} {k : Nat} (hk : k < z.size) (h : asgAt z k = false) : (bt z k == 58) = false ∨ ((bt z k == 58) = true ∧ decide ((k : Int) + 1 < (z.size : Int)) = false) ∨ ((bt z k == 58) = true ∧ decide ((k : Int) + 1 < (z.size : Int)) = true ∧ (bt z (k + 1) == 61) = false ∧ (k : Int) + 1 < (z.size : Int)) := by
 rw [asg_is hk] at h
 cases h1 : (bt z k == 58)
 ·exact .inl rfl
 ·rw [h1] at h
  cases h2 : decide ((k : Int) + 1 < (z.size : Int))
  ·exact .inr (.inl ⟨rfl, rfl⟩)
  ·rw [h2] at h
   exact .inr (.inr ⟨rfl, rfl, by simpa using h, of_decide_eq_true h2⟩)
theorem sOne_none (z : ByteArray) (k : Nat) (acc : List Sign) (hz : z.size ≤ 1048576) (hk : k < z.size) (ha : acc.length ≤ 1048576) (h1 : letterB (bt z k) = false) (h3 : figureB (bt z k) = false) (h5 : asgAt z k = false) (h6 : markB (bt z k) = false) : CallOk Tryz.prog 80 [.one (.box (scanT z k acc))] (.s (.one (bV false))) [none] := by
 have hb := bt_bd z k
 obtain ⟨hb0, hb1⟩ := hb
 have nl : ¬ (97 ≤ bt z k ∧ bt z k ≤ 122) := fun hh => by have := inB_iff.2 hh; rw [show letterB (bt z k) = inB (bt z k) 97 122 from rfl, this] at h1; cases h1
 have nf : ¬ (48 ≤ bt z k ∧ bt z k ≤ 57) := fun hh => by have := inB_iff.2 hh; rw [show figureB (bt z k) = inB (bt z k) 48 57 from rfl, this] at h3; cases h3
 have hmk := sMark_ok (bt z k) hb0 hb1
 have ek1 : ((k : Int) + 1).toNat = k + 1 := by omega
 rw [h6] at hmk
 rcases notAsg hk h5 with g1 | ⟨g1, g2⟩ | ⟨g1, g2, g3, g4⟩
 all_goals
  clear h1 h3 h5 h6
  refine callOk_of_hcallF 40 ?_
  simp (disch := omega) only [go_sem]
  refine hcall_names (names_at 0 0 (scanT z k acc) rfl (by with_reducible rfl) (by simp (disch := omega) only [go_sem])) ?_
  simp (disch := omega) only [go_sem]
  refine hBd Tryz.func80 rfl (by kernel_rfl) ?_
  simp (disch := omega) only [go_sem, Tryz.ntmps80, Tryz.results80]
  have x1 : HT 2 (.fr [0, 1, 2, 3, 4, 5, 6, 7] (.op [8] (.fr [9] (.stop)))) := ⟨⟩
  have x2 : HH 17 (.ho [0, 1, 2, 3, 4, 5] (opm 6 [1] [false, true] (.ho [7, 8, 9, 10] (opm 11 [] [false, false] (.stop))))) := ⟨⟩
  have x3 : HT 18 (.fr [0, 1, 2, 3, 4, 5, 6, 7, 8, 9, 10, 11, 12, 13, 14, 15, 16, 17, 18, 19, 20, 21, 22, 23, 24] (.op [25] (.fr [26, 27, 28] (.stop)))) := ⟨⟩
  have x4 : HT 24 (.fr [0, 1, 2, 3, 4, 5, 6, 7, 8, 9, 10, 11, 12, 13, 14] (.op [15] (.stop))) := ⟨⟩
  have x5 : HH 28 (.ho [0, 1, 2, 3, 4, 5] (opm 6 [4] [false, true] (opm 7 [] [false] (.ho [8, 9] (opm 10 [] [] (.stop)))))) := ⟨⟩
  have x6 : HF 0 99 := ⟨⟩
  exact wksf
theorem sOne_mark (z : ByteArray) (k : Nat) (acc : List Sign) (hz : z.size ≤ 1048576) (hk : k < z.size) (ha : acc.length ≤ 1048576) (h1 : letterB (bt z k) = false) (h3 : figureB (bt z k) = false) (h5 : asgAt z k = false) (h6 : markB (bt z k) = true) : CallOk Tryz.prog 80 [.one (.box (scanT z k acc))] (.s (.one (bV (!decide ((500 : Int) ≤ (acc.length : Int)))))) [if decide ((500 : Int) ≤ (acc.length : Int)) = true then none else some (.box (scanT z ((k + 1 : Nat) : Int) (acc ++ [⟨3, z.extract k (k + 1), 0, k⟩])))] := by
 have hb := bt_bd z k
 obtain ⟨hb0, hb1⟩ := hb
 have nl : ¬ (97 ≤ bt z k ∧ bt z k ≤ 122) := fun hh => by have := inB_iff.2 hh; rw [show letterB (bt z k) = inB (bt z k) 97 122 from rfl, this] at h1; cases h1
 have nf : ¬ (48 ≤ bt z k ∧ bt z k ≤ 57) := fun hh => by have := inB_iff.2 hh; rw [show figureB (bt z k) = inB (bt z k) 48 57 from rfl, this] at h3; cases h3
 have hmk := sMark_ok (bt z k) hb0 hb1
 have ek1 : ((k : Int) + 1).toNat = k + 1 := by omega
 rw [h6] at hmk
 rcases notAsg hk h5 with g1 | ⟨g1, g2⟩ | ⟨g1, g2, g3, g4⟩
 all_goals
  clear h1 h3 h5 h6
  cases hai : decide ((500 : Int) ≤ (acc.length : Int))
  all_goals
   simp only [reduceCtorEq, if_false, if_true, Bool.false_eq_true, Bool.not_true, Bool.not_false]
   refine callOk_of_hcallF 40 ?_
   simp (disch := omega) only [go_sem]
   refine hcall_names (names_at 0 0 (scanT z k acc) rfl (by with_reducible rfl) (by simp (disch := omega) only [go_sem])) ?_
   simp (disch := omega) only [go_sem]
   refine hBd Tryz.func80 rfl (by kernel_rfl) ?_
   simp (disch := omega) only [go_sem, Tryz.ntmps80, Tryz.results80]
   repeat' (first | (with_reducible first | refine i_seq ?_ | exact th_none | exact tr_none | refine tr_stop ?_ | refine i_treeQ (id := 2) (.fr [0, 1, 2, 3, 4, 5, 6, 7] (.op [8] (.fr [9] (.stop)))) mixedT (by kernel_rfl) (fun Q' hQ => ?_) | refine i_th (id := 17) (.ho [0, 1, 2, 3, 4, 5] (opm 6 [1] [false, true] (.ho [7, 8, 9, 10] (opm 11 [] [false, false] (.stop))))) mixedT (by kernel_rfl) (fun Q' hQ => ?_) | refine i_treeQ (id := 18) (.fr [0, 1, 2, 3, 4, 5, 6, 7, 8, 9, 10, 11, 12, 13, 14, 15, 16, 17, 18, 19, 20, 21, 22, 23, 24] (.op [25] (.fr [26, 27, 28] (.stop)))) mixedT (by kernel_rfl) (fun Q' hQ => ?_) | refine i_treeQ (id := 24) (.fr [0, 1, 2, 3, 4, 5, 6, 7, 8, 9, 10, 11, 12, 13, 14] (.op [15] (.stop))) mixedT (by kernel_rfl) (fun Q' hQ => ?_) | refine i_th (id := 28) (.ho [0, 1, 2, 3, 4, 5] (opm 6 [4] [false, true] (opm 7 [] [false] (.ho [8, 9] (opm 10 [] [] (.stop)))))) mixedT (by kernel_rfl) (fun Q' hQ => ?_)) | ((first | (with_reducible first | refine iBk ?_ | refine iRQ (fun Q' hQ => ?_) | (refine Imp.go hQ ?_; clear hQ) | refine tr_fr ?_ | refine tr_op (aLr ?_) | refine tr_alt (by kernel_rfl) (aLr ?_) ?_ | refine tr_altp ?_ ?_ | refine th_ho ?_ | refine th_stop ?_ ?_ | refine th_opm ?_ (by kernel_rfl) (aLr ?_) | refine th_altm ?_ (by kernel_rfl) (aLr ?_) ?_) | ((with_reducible refine i_condT ?_ ?_); (focus (simp only [go_sem, *]; done))) | ((with_reducible refine i_condF ?_ ?_); (focus (simp only [go_sem, *]; done))) | ((with_reducible first | refine rOg (fun h => ?_) (fun h => ?_) | refine pG_split (fun h => ?_) (fun h => ?_) | refine i_cond (by simp only [go_sem, *] <;> rfl) (fun h => ?_) (fun h => ?_)) <;> (try simp only [nqA, nqB, nqC, reduceCtorEq] at h) <;> (try have h' := odT h) <;> (try (have hz : (_ : Int) = (_ : Int) := h'; clear hz h')) <;> (try have h' := odF h) <;> (try have h' := inB_t h) <;> (try (exfalso; omega))) | (((with_reducible first | refine hcO 40 true (hmk) ?_ ?_ ?_ ?_ ?_); iterate 4 (focus (simp (disch := omega) only [go_sem, ek1, hai, signsT_app1', List.length_append, List.length_singleton, reduceCtorEq, nLo]; done))); simp only [go_sem, ek1, hai, signsT_app1', List.length_append, List.length_singleton, reduceCtorEq]; refine aLr ?_)) <;> (try simp (disch := first | omega | (simp only [sAp, size_mk, List.size_toArray, List.length_cons, List.length_nil]; omega)) only [go_sem, ek1, hai, signsT_app1', List.length_append, List.length_singleton, reduceCtorEq, *])) | ((first | apply hFo | apply endF_folds); (focus ((first | refine folds_setc 99 rfl (by with_reducible rfl) ?_ ?_); (focus (simp (disch := omega) only [go_sem]; done)); (focus (first | omega | (simp (disch := omega) only [go_sem]; omega))))); (try simp (disch := first | omega | (simp only [sAp, size_mk, List.size_toArray, List.length_cons, List.length_nil]; omega)) only [go_sem, ek1, hai, signsT_app1', List.length_append, List.length_singleton, reduceCtorEq, *])))
   all_goals (try (with_reducible refine endF_k ?_))
   all_goals (try simp (disch := omega) only [EndK, go_sem, ek1, hai, signsT_app1', List.length_append, List.length_singleton, reduceCtorEq, nLo, *])
end Go.Proofs.YtejnpiielcbkkaaGreat.E
