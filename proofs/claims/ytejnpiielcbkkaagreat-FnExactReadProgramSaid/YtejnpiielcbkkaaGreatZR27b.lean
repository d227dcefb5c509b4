/- A part of what stands under the laws of this seat: an abstract evaluator that is proved sound, and contracts of functions by it. No condition beside those that stand in each statement. -/
import Derived.Test.YtejnpiielcbkkaaGreatZR27
set_option linter.unusedVariables false
set_option linter.unusedSimpArgs false
set_option maxRecDepth 100000
set_option maxHeartbeats 4000000
namespace Go.Proofs.YtejnpiielcbkkaaGreat.E
theorem rProcess_ok (r : Rd) (h : RdOk r) (hp : pot r + 2 ≤ 1000000) (hN : (procOf r).1.prog.processes.length ≤ 1000000) : CallOk Tryz.prog 31 [.one (.box (rdT r))] (.tup []) [some (.box (rdT (addProc (procOf r).1 (procOf r).2)))] := by
 have k1 := kp_name h
 have k2 := k1.tr0 (kp_uses k1.1)
 have k3 := k2.tr0 (kp_want (s := bSemi) (by decide) k2.1)
 have k4 := k3.tr0 (kp_opt (w := k_var) (by decide) k3.1)
 have k5 := k4.trans (blockV_kp k4.1)
 have c0 := rName_ok r h
 have c1 := rTake_ok (nameR r).1 k_uses (by decide) k1.1
 have c2 := fun (hi : isR (nameR r).1 k_uses = true) => rNames_ok _ (is_adv (by decide) k1.1 hi).ok
 have c3 := rWant_ok _ [bSemi] (one_ne (by decide)) (by decide) k2.1
 have c4 := rTake_ok _ k_var (by decide) k3.1
 have c5 := fun (hi : isR (wantL (usesR (nameR r).1).1 [bSemi]) k_var = true) => rNames_ok _ (is_adv (by decide) k3.1 hi).ok
 have c6 := fun (hi : isR (wantL (usesR (nameR r).1).1 [bSemi]) k_var = true) => rWant_ok _ [bSemi] (one_ne (by decide)) (by decide) (kp_names (is_adv (by decide) k3.1 hi).ok).1
 have c7 := blockV_does k4.1 (by have := k4.2.2.2.1; omega)
 have c8 := rWant_ok _ [bSemi] (one_ne (by decide)) (by decide) k5.1
 have l1 := uses_len k1.1
 have l2 := opt_len (w := k_var) (by decide) k3.1
 have hpo : procOf r = (wantL (blockV (optR k_var (wantL (usesR (nameR r).1).1 [bSemi])).1).1 [bSemi], ⟨(nameR r).2, (usesR (nameR r).1).2, (optR k_var (wantL (usesR (nameR r).1).1 [bSemi])).2, (blockV (optR k_var (wantL (usesR (nameR r).1).1 [bSemi])).1).2⟩) := rfl
 rw [hpo] at hN ⊢
 clear hpo k1 k2 k3 k4 k5
 obtain ⟨⟨A, nm⟩, hA⟩ : ∃ x, nameR r = x := ⟨_, rfl⟩
 rw [hA] at c0 c1 c2 c3 c4 c5 c6 c7 c8 l1 l2 hN ⊢
 dsimp only at c0 c1 c2 c3 c4 c5 c6 c7 c8 l1 l2 hN ⊢
 have hu : usesR A = if isR A k_uses = true then namesR (advR A) else (A, []) := rfl
 obtain ⟨⟨B, us⟩, hB⟩ : ∃ x, usesR A = x := ⟨_, rfl⟩
 rw [hB] at c3 c4 c5 c6 c7 c8 l1 l2 hN hu ⊢
 dsimp only at c3 c4 c5 c6 c7 c8 l1 l2 hN ⊢
 obtain ⟨C, hC⟩ : ∃ x, wantL B [bSemi] = x := ⟨_, rfl⟩
 rw [hC] at c3 c4 c5 c6 c7 c8 l2 hN ⊢
 have hv : optR k_var C = if isR C k_var = true then (wantL (namesR (advR C)).1 [bSemi], (namesR (advR C)).2) else (C, []) := rfl
 obtain ⟨⟨D, vs⟩, hD⟩ : ∃ x, optR k_var C = x := ⟨_, rfl⟩
 rw [hD] at c7 c8 l2 hN hv ⊢
 dsimp only at c7 c8 l2 hN ⊢
 obtain ⟨⟨E, b⟩, hE⟩ : ∃ x, blockV D = x := ⟨_, rfl⟩
 rw [hE] at c7 c8 hN ⊢
 dsimp only at c7 c8 hN ⊢
 obtain ⟨⟨list, size, cur, place, ⟨nodes, monitors, processes⟩⟩, hG⟩ : ∃ x, wantL E [bSemi] = x := ⟨_, rfl⟩
 rw [hG] at c8 hN ⊢
 dsimp only at hN
 clear hA hB hC hD hE hG
 have s0 : strsT [] = [] := rfl
 refine callOk_of_hcallF 40 (hcall_of_bodyS Tryz.func31 rfl (by kernel_rfl) ?_)
 simp (disch := omega) only [go_sem, Tryz.ntmps31, Tryz.results31]
 refine s_cut ⟨mkEnv 40 [(0, .one (.ptr 0 0 0)), (2, .one (.ptr 1 0 0))], [.live 7 [rdT A], .live 4 [[sV nm, .ref 2 0 0, .ref 3 0 0, iV 0]], .live 1 [], .live 1 []]⟩ ?_ ?_
 ·
  repeat' (first | (with_reducible first | refine i_seq ?_ | exact th_none | refine i_th (id := 9) (.ho [0, 1, 2, 3, 4, 5, 6] (opm 7 [5] [false, true] (opm 8 [] [false] (.ho [9, 10, 11] (opm 12 [] [] (.stop)))))) mixedT (by kernel_rfl) (fun Q' hQ => ?_)) | ((first | (with_reducible first | refine iBk ?_ | refine iRQ (fun Q' hQ => ?_) | (refine Imp.go hQ ?_; clear hQ) | refine th_ho ?_ | refine th_stop ?_ ?_ | refine th_opm ?_ (by kernel_rfl) (aLr ?_) | refine th_altm ?_ (by kernel_rfl) (aLr ?_) ?_) | ((with_reducible refine i_condT ?_ ?_); (focus (simp only [go_sem, *]; done))) | ((with_reducible refine i_condF ?_ ?_); (focus (simp only [go_sem, *]; done))) | ((with_reducible first | refine rOg (fun h => ?_) (fun h => ?_) | refine i_cond (by simp only [go_sem, *] <;> rfl) (fun h => ?_) (fun h => ?_)) <;> (try simp only [nqA, nqB, nqC, reduceCtorEq] at h) <;> (try have h' := odT h) <;> (try (have hz : (_ : Int) = (_ : Int) := h'; clear hz h')) <;> (try have h' := odF h) <;> (try have h' := inB_t h) <;> (try (exfalso; omega))) | (((with_reducible first | refine hcO 40 true (c0) ?_ ?_ ?_ ?_ ?_); iterate 4 (focus (simp (disch := omega) only [go_sem, reduceCtorEq, nLo]; done))); simp only [go_sem, reduceCtorEq]; refine aLr ?_)) <;> (try simp (disch := omega) only [go_sem, reduceCtorEq, *])))
  all_goals (try simp (disch := omega) only [EndK, go_sem, reduceCtorEq, nLo, *])
  all_goals
   refine weak_names (names_nil 1 4 [sV nm, .v (.slice none 0 0), .v (.slice none 0 0), iV 0] [sV nm, .own 1 [], .own 1 [], iV 0] rfl (by with_reducible rfl) (by simp [go_sem, isNil]) (by simp [go_sem])) ?_
   simp (disch := omega) only [go_sem]
   first | exact wc [0, 2] [1, 2, 3]
 refine s_cut ⟨mkEnv 40 [(0, .one (.ptr 0 0 0)), (2, .one (.ptr 1 0 0))], [.live 7 [rdT B], .live 4 [[sV nm, .ref 2 0 us.length, .ref 3 0 0, iV 0]], .live 1 (strsT us), .live 1 []]⟩ ?_ ?_
 ·clear c0 c3 c4 c5 c6 c7 c8 hv
  cases q : isR A k_uses
  ·rw [take_no q, q] at c1
   rw [q, if_neg (by simp)] at hu
   obtain ⟨rfl, rfl⟩ := Prod.mk.inj hu
   clear c2
   simp (disch := omega) only [go_sem]
   repeat' (first | (with_reducible first | refine i_seq ?_ | exact th_none | refine i_th (id := 9) (.ho [0, 1, 2, 3, 4, 5, 6] (opm 7 [5] [false, true] (opm 8 [] [false] (.ho [9, 10, 11] (opm 12 [] [] (.stop)))))) mixedT (by kernel_rfl) (fun Q' hQ => ?_)) | ((first | (with_reducible first | refine iBk ?_ | refine iRQ (fun Q' hQ => ?_) | (refine Imp.go hQ ?_; clear hQ) | refine th_ho ?_ | refine th_stop ?_ ?_ | refine th_opm ?_ (by kernel_rfl) (aLr ?_) | refine th_altm ?_ (by kernel_rfl) (aLr ?_) ?_) | ((with_reducible refine i_condT ?_ ?_); (focus (simp only [go_sem, *]; done))) | ((with_reducible refine i_condF ?_ ?_); (focus (simp only [go_sem, *]; done))) | ((with_reducible first | refine rOg (fun h => ?_) (fun h => ?_) | refine i_cond (by simp only [go_sem, *] <;> rfl) (fun h => ?_) (fun h => ?_)) <;> (try simp only [nqA, nqB, nqC, reduceCtorEq] at h) <;> (try have h' := odT h) <;> (try (have hz : (_ : Int) = (_ : Int) := h'; clear hz h')) <;> (try have h' := odF h) <;> (try have h' := inB_t h) <;> (try (exfalso; omega))) | (((with_reducible first | refine hcO 40 true (c1) ?_ ?_ ?_ ?_ ?_); iterate 4 (focus (simp (disch := omega) only [go_sem, reduceCtorEq, nLo]; done))); simp only [go_sem, reduceCtorEq]; refine aLr ?_)) <;> (try simp (disch := omega) only [go_sem, reduceCtorEq, *])))
   all_goals (try simp (disch := omega) only [EndK, go_sem, reduceCtorEq, nLo, *])
   all_goals
    first | (refine wCn [0, 2] [1, 2, 3] ?_ ?_ ?_ <;> (simp (disch := omega) only [go_sem, s0, List.length_nil]; done))
  ·rw [take_yes q, q] at c1
   rw [q, if_pos rfl] at hu
   replace c2 := c2 q
   rw [← hu] at c2
   have hadv : advR A = ⟨A.list, A.size, A.cur + 1, A.place, A.prog⟩ := rfl
   rw [hadv] at c1 c2
   clear hu hadv
   simp (disch := omega) only [go_sem]
   repeat' (first | (with_reducible first | refine i_seq ?_ | exact th_none | refine i_th (id := 9) (.ho [0, 1, 2, 3, 4, 5, 6] (opm 7 [5] [false, true] (opm 8 [] [false] (.ho [9, 10, 11] (opm 12 [] [] (.stop)))))) mixedT (by kernel_rfl) (fun Q' hQ => ?_)) | ((first | (with_reducible first | refine iBk ?_ | refine iRQ (fun Q' hQ => ?_) | (refine Imp.go hQ ?_; clear hQ) | refine th_ho ?_ | refine th_stop ?_ ?_ | refine th_opm ?_ (by kernel_rfl) (aLr ?_) | refine th_altm ?_ (by kernel_rfl) (aLr ?_) ?_) | ((with_reducible refine i_condT ?_ ?_); (focus (simp only [go_sem, *]; done))) | ((with_reducible refine i_condF ?_ ?_); (focus (simp only [go_sem, *]; done))) | ((with_reducible first | refine rOg (fun h => ?_) (fun h => ?_) | refine i_cond (by simp only [go_sem, *] <;> rfl) (fun h => ?_) (fun h => ?_)) <;> (try simp only [nqA, nqB, nqC, reduceCtorEq] at h) <;> (try have h' := odT h) <;> (try (have hz : (_ : Int) = (_ : Int) := h'; clear hz h')) <;> (try have h' := odF h) <;> (try have h' := inB_t h) <;> (try (exfalso; omega))) | ((first | ((with_reducible first | refine hcO 40 true (c1) ?_ ?_ ?_ ?_ ?_); iterate 4 (focus (simp (disch := omega) only [go_sem, reduceCtorEq, nLo]; done))) | ((with_reducible refine hcO 40 true (c2) ?_ ?_ ?_ ?_ ?_); iterate 4 (focus (simp (disch := omega) only [go_sem, reduceCtorEq, nLo]; done)))); simp only [go_sem, reduceCtorEq]; refine aLr ?_)) <;> (try simp (disch := omega) only [go_sem, reduceCtorEq, *])))
   all_goals (try simp (disch := omega) only [EndK, go_sem, reduceCtorEq, nLo, *])
   all_goals
    first | exact wc [0, 2] [1, 4, 3]
 refine s_cut ⟨mkEnv 40 [(0, .one (.ptr 0 0 0)), (2, .one (.ptr 1 0 0))], [.live 7 [rdT C], .live 4 [[sV nm, .ref 2 0 us.length, .ref 3 0 0, iV 0]], .live 1 (strsT us), .live 1 []]⟩ ?_ ?_
 ·clear c0 c1 c2 c4 c5 c6 c7 c8 hv hu
  simp (disch := omega) only [go_sem]
  repeat' (first | (with_reducible first | refine i_seq ?_ | exact th_none | refine i_th (id := 9) (.ho [0, 1, 2, 3, 4, 5, 6] (opm 7 [5] [false, true] (opm 8 [] [false] (.ho [9, 10, 11] (opm 12 [] [] (.stop)))))) mixedT (by kernel_rfl) (fun Q' hQ => ?_)) | ((first | (with_reducible first | refine iBk ?_ | refine iRQ (fun Q' hQ => ?_) | (refine Imp.go hQ ?_; clear hQ) | refine th_ho ?_ | refine th_stop ?_ ?_ | refine th_opm ?_ (by kernel_rfl) (aLr ?_) | refine th_altm ?_ (by kernel_rfl) (aLr ?_) ?_) | ((with_reducible refine i_condT ?_ ?_); (focus (simp only [go_sem, *]; done))) | ((with_reducible refine i_condF ?_ ?_); (focus (simp only [go_sem, *]; done))) | ((with_reducible first | refine rOg (fun h => ?_) (fun h => ?_) | refine i_cond (by simp only [go_sem, *] <;> rfl) (fun h => ?_) (fun h => ?_)) <;> (try simp only [nqA, nqB, nqC, reduceCtorEq] at h) <;> (try have h' := odT h) <;> (try (have hz : (_ : Int) = (_ : Int) := h'; clear hz h')) <;> (try have h' := odF h) <;> (try have h' := inB_t h) <;> (try (exfalso; omega))) | (((with_reducible first | refine hcO 40 true (c3) ?_ ?_ ?_ ?_ ?_); iterate 4 (focus (simp (disch := omega) only [go_sem, semi_rows, tSi, List.length_singleton, reduceCtorEq, nLo]; done))); simp only [go_sem, semi_rows, tSi, List.length_singleton, reduceCtorEq]; refine aLr ?_)) <;> (try simp (disch := omega) only [go_sem, semi_rows, tSi, List.length_singleton, reduceCtorEq, *])))
  all_goals (try simp (disch := omega) only [EndK, go_sem, semi_rows, tSi, List.length_singleton, reduceCtorEq, nLo, *])
  all_goals
   first | exact wc [0, 2] [1, 2, 3]
 refine s_cut ⟨mkEnv 40 [(0, .one (.ptr 0 0 0)), (2, .one (.ptr 1 0 0))], [.live 7 [rdT D], .live 4 [[sV nm, .ref 2 0 us.length, .ref 3 0 vs.length, iV 0]], .live 1 (strsT us), .live 1 (strsT vs)]⟩ ?_ ?_
 ·clear c0 c1 c2 c3 c7 c8 hu
  cases q : isR C k_var
  ·rw [take_no q, q] at c4
   rw [q, if_neg (by simp)] at hv
   obtain ⟨rfl, rfl⟩ := Prod.mk.inj hv
   clear c5 c6
   simp (disch := omega) only [go_sem]
   repeat' (first | (with_reducible first | refine i_seq ?_ | exact th_none | refine i_th (id := 9) (.ho [0, 1, 2, 3, 4, 5, 6] (opm 7 [5] [false, true] (opm 8 [] [false] (.ho [9, 10, 11] (opm 12 [] [] (.stop)))))) mixedT (by kernel_rfl) (fun Q' hQ => ?_)) | ((first | (with_reducible first | refine iBk ?_ | refine iRQ (fun Q' hQ => ?_) | (refine Imp.go hQ ?_; clear hQ) | refine th_ho ?_ | refine th_stop ?_ ?_ | refine th_opm ?_ (by kernel_rfl) (aLr ?_) | refine th_altm ?_ (by kernel_rfl) (aLr ?_) ?_) | ((with_reducible refine i_condT ?_ ?_); (focus (simp only [go_sem, *]; done))) | ((with_reducible refine i_condF ?_ ?_); (focus (simp only [go_sem, *]; done))) | ((with_reducible first | refine rOg (fun h => ?_) (fun h => ?_) | refine i_cond (by simp only [go_sem, *] <;> rfl) (fun h => ?_) (fun h => ?_)) <;> (try simp only [nqA, nqB, nqC, reduceCtorEq] at h) <;> (try have h' := odT h) <;> (try (have hz : (_ : Int) = (_ : Int) := h'; clear hz h')) <;> (try have h' := odF h) <;> (try have h' := inB_t h) <;> (try (exfalso; omega))) | (((with_reducible first | refine hcO 40 true (c4) ?_ ?_ ?_ ?_ ?_); iterate 4 (focus (simp (disch := omega) only [go_sem, reduceCtorEq, nLo]; done))); simp only [go_sem, reduceCtorEq]; refine aLr ?_)) <;> (try simp (disch := omega) only [go_sem, reduceCtorEq, *])))
   all_goals (try simp (disch := omega) only [EndK, go_sem, reduceCtorEq, nLo, *])
   all_goals
    first | (refine wCn [0, 2] [1, 2, 3] ?_ ?_ ?_ <;> (simp (disch := omega) only [go_sem, s0, List.length_nil]; done))
  ·rw [take_yes q, q] at c4
   rw [q, if_pos rfl] at hv
   replace c5 := c5 q
   replace c6 := c6 q
   obtain ⟨rfl, rfl⟩ := Prod.mk.inj hv
   have hadv : advR C = ⟨C.list, C.size, C.cur + 1, C.place, C.prog⟩ := rfl
   obtain ⟨⟨G, g⟩, hG⟩ : ∃ x, namesR (advR C) = x := ⟨_, rfl⟩
   rw [hG] at c5 c6 l2 ⊢
   dsimp only at c5 c6 l2 ⊢
   obtain ⟨D, hD⟩ : ∃ x, wantL G [bSemi] = x := ⟨_, rfl⟩
   rw [hD] at c6 ⊢
   rw [hadv] at c4 c5
   clear hadv hG hD
   simp (disch := omega) only [go_sem]
   repeat' (first | (with_reducible first | refine i_seq ?_ | exact th_none | refine i_th (id := 9) (.ho [0, 1, 2, 3, 4, 5, 6] (opm 7 [5] [false, true] (opm 8 [] [false] (.ho [9, 10, 11] (opm 12 [] [] (.stop)))))) mixedT (by kernel_rfl) (fun Q' hQ => ?_)) | ((first | (with_reducible first | refine iBk ?_ | refine iRQ (fun Q' hQ => ?_) | (refine Imp.go hQ ?_; clear hQ) | refine th_ho ?_ | refine th_stop ?_ ?_ | refine th_opm ?_ (by kernel_rfl) (aLr ?_) | refine th_altm ?_ (by kernel_rfl) (aLr ?_) ?_) | ((with_reducible refine i_condT ?_ ?_); (focus (simp only [go_sem, *]; done))) | ((with_reducible refine i_condF ?_ ?_); (focus (simp only [go_sem, *]; done))) | ((with_reducible first | refine rOg (fun h => ?_) (fun h => ?_) | refine i_cond (by simp only [go_sem, *] <;> rfl) (fun h => ?_) (fun h => ?_)) <;> (try simp only [nqA, nqB, nqC, reduceCtorEq] at h) <;> (try have h' := odT h) <;> (try (have hz : (_ : Int) = (_ : Int) := h'; clear hz h')) <;> (try have h' := odF h) <;> (try have h' := inB_t h) <;> (try (exfalso; omega))) | ((first | ((with_reducible first | refine hcO 40 true (c4) ?_ ?_ ?_ ?_ ?_); iterate 4 (focus (simp (disch := omega) only [go_sem, semi_rows, tSi, List.length_singleton, reduceCtorEq, nLo]; done))) | ((with_reducible refine hcO 40 true (c5) ?_ ?_ ?_ ?_ ?_); iterate 4 (focus (simp (disch := omega) only [go_sem, semi_rows, tSi, List.length_singleton, reduceCtorEq, nLo]; done))) | ((with_reducible refine hcO 40 true (c6) ?_ ?_ ?_ ?_ ?_); iterate 4 (focus (simp (disch := omega) only [go_sem, semi_rows, tSi, List.length_singleton, reduceCtorEq, nLo]; done)))); simp only [go_sem, semi_rows, tSi, List.length_singleton, reduceCtorEq]; refine aLr ?_)) <;> (try simp (disch := omega) only [go_sem, semi_rows, tSi, List.length_singleton, reduceCtorEq, *])))
   all_goals (try simp (disch := omega) only [EndK, go_sem, semi_rows, tSi, List.length_singleton, reduceCtorEq, nLo, *])
   all_goals
    first | exact wc [0, 2] [1, 2, 4] | exact wc [0, 2] [1, 2, 5]
 clear c0 c1 c2 c3 c4 c5 c6 hu hv
 simp (disch := omega) only [go_sem]
 repeat' (first | (with_reducible first | refine i_seq ?_ | refine s_seqU ?_ | refine s_seqC ?_ | refine s_retS ?_) | ((first | (with_reducible first | refine iBk ?_ | refine iRQ (fun Q' hQ => ?_) | (refine Imp.go hQ ?_; clear hQ)) | ((with_reducible refine i_condT ?_ ?_); (focus (simp only [go_sem, *]; done))) | ((with_reducible refine i_condF ?_ ?_); (focus (simp only [go_sem, *]; done))) | ((with_reducible first | refine rOg (fun h => ?_) (fun h => ?_) | refine i_cond (by simp only [go_sem, *] <;> rfl) (fun h => ?_) (fun h => ?_)) <;> (try simp only [nqA, nqB, nqC, reduceCtorEq] at h) <;> (try have h' := odT h) <;> (try (have hz : (_ : Int) = (_ : Int) := h'; clear hz h')) <;> (try have h' := odF h) <;> (try have h' := inB_t h) <;> (try (exfalso; omega))) | (((with_reducible first | refine hcO 40 true (c7) ?_ ?_ ?_ ?_ ?_ | refine hcO 40 true (c8) ?_ ?_ ?_ ?_ ?_); iterate 4 (focus (simp (disch := omega) only [go_sem, semi_rows, tSi, List.length_singleton, reduceCtorEq, nLo]; done))); simp only [go_sem, semi_rows, tSi, List.length_singleton, reduceCtorEq]; refine aLr ?_)) <;> (try simp (disch := omega) only [go_sem, semi_rows, tSi, List.length_singleton, reduceCtorEq, *])))
 all_goals (try simp (disch := omega) only [EndK, go_sem, semi_rows, tSi, List.length_singleton, reduceCtorEq, nLo, *])
 refine s_names (names_at 0 0 (rdT ⟨list, size, cur, place, ⟨nodes, monitors, processes⟩⟩) rfl (by with_reducible rfl) (by simp (disch := omega) only [go_sem])) ?_
 simp (disch := omega) only [go_sem]
 refine s_of_a ?_
 repeat' (first | (with_reducible first | refine i_seq ?_ | exact th_none | refine i_th (id := 9) (.ho [0, 1, 2, 3, 4, 5, 6] (opm 7 [5] [false, true] (opm 8 [] [false] (.ho [9, 10, 11] (opm 12 [] [] (.stop)))))) mixedT (by kernel_rfl) (fun Q' hQ => ?_)) | ((first | (with_reducible first | refine iBk ?_ | refine iRQ (fun Q' hQ => ?_) | (refine Imp.go hQ ?_; clear hQ) | refine th_ho ?_ | refine th_stop ?_ ?_ | refine th_opm ?_ (by kernel_rfl) (aLr ?_) | refine th_altm ?_ (by kernel_rfl) (aLr ?_) ?_) | ((with_reducible refine i_condT ?_ ?_); (focus (simp only [go_sem, *]; done))) | ((with_reducible refine i_condF ?_ ?_); (focus (simp only [go_sem, *]; done))) | ((with_reducible first | refine rOg (fun h => ?_) (fun h => ?_) | refine i_cond (by simp only [go_sem, *] <;> rfl) (fun h => ?_) (fun h => ?_)) <;> (try simp only [nqA, nqB, nqC, reduceCtorEq] at h) <;> (try have h' := odT h) <;> (try (have hz : (_ : Int) = (_ : Int) := h'; clear hz h')) <;> (try have h' := odF h) <;> (try have h' := inB_t h) <;> (try (exfalso; omega)))) <;> (try simp (disch := omega) only [go_sem, addProc, processsT_app1, List.length_singleton, List.length_append, reduceCtorEq, *])) | ((first | apply hFo | apply endF_folds); (focus (refine folds_appc 8 rfl (by with_reducible rfl) ?_; (focus (simp (disch := omega) only [go_sem]; done)))); (try simp (disch := omega) only [go_sem, addProc, processsT_app1, List.length_singleton, List.length_append, reduceCtorEq, *])) | ((first | apply hFo | apply endF_folds); (focus (refine folds_appc 9 rfl (by with_reducible rfl) ?_; (focus (simp (disch := omega) only [go_sem]; done)))); (try simp (disch := omega) only [go_sem, addProc, processsT_app1, List.length_singleton, List.length_append, reduceCtorEq, *])) | ((first | apply hFo | apply endF_folds); (focus (refine folds_appc 10 rfl (by with_reducible rfl) ?_; (focus (simp (disch := omega) only [go_sem]; done)))); (try simp (disch := omega) only [go_sem, addProc, processsT_app1, List.length_singleton, List.length_append, reduceCtorEq, *])) | ((first | apply hFo | apply endF_folds); (focus (refine folds_appc 11 rfl (by with_reducible rfl) ?_; (focus (simp (disch := omega) only [go_sem]; done)))); (try simp (disch := omega) only [go_sem, addProc, processsT_app1, List.length_singleton, List.length_append, reduceCtorEq, *])) | ((first | apply hFo | apply endF_folds); (focus (refine folds_appc 12 rfl (by with_reducible rfl) ?_; (focus (simp (disch := omega) only [go_sem]; done)))); (try simp (disch := omega) only [go_sem, addProc, processsT_app1, List.length_singleton, List.length_append, reduceCtorEq, *])) | ((first | apply hFo | apply endF_folds); (focus (refine folds_appc 13 rfl (by with_reducible rfl) ?_; (focus (simp (disch := omega) only [go_sem]; done)))); (try simp (disch := omega) only [go_sem, addProc, processsT_app1, List.length_singleton, List.length_append, reduceCtorEq, *])) | ((first | apply hFo | apply endF_folds); (focus ((first | refine folds_setc 99 rfl (by with_reducible rfl) ?_ ?_); (focus (simp (disch := omega) only [go_sem]; done)); (focus (first | omega | (simp (disch := omega) only [go_sem]; omega))))); (try simp (disch := omega) only [go_sem, addProc, processsT_app1, List.length_singleton, List.length_append, reduceCtorEq, *])))
 all_goals (try (with_reducible refine endF_k ?_))
 all_goals (try simp (disch := omega) only [EndK, go_sem, addProc, processsT_app1, List.length_singleton, List.length_append, reduceCtorEq, nLo, *])
end Go.Proofs.YtejnpiielcbkkaaGreat.E
