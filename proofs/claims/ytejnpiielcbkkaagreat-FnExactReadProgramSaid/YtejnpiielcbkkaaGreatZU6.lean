/- A part of what stands under the laws of this seat: an abstract evaluator that is proved sound, and contracts of functions by it. No condition beside those that stand in each statement. -/
import Derived.Test.YtejnpiielcbkkaaGreatZU4
set_option linter.unusedVariables false
set_option linter.unusedSimpArgs false
set_option maxRecDepth 100000
set_option maxHeartbeats 4000000
namespace Go.Proofs.YtejnpiielcbkkaaGreat.E
theorem value_doesS {n : Nat} {F : Rs → Rs × Int} (hF : PartS n F) (h : DoesR 277 n F) : DoesR 214 n (valueS F) := by
 have p1 : PartS n (chainS F lMul 3) := chainS_part hF
 have p2 : PartS n (chainS (chainS F lMul 3) lAdd 1) := chainS_part p1
 exact sValueR_ok _ n (onceS_part p2) (sPartR_ok _ n p2 (sSumR_ok _ n p1 (sTermR_ok F n hF h)))
theorem factor_doesS {n : Nat} {V F : Rs → Rs × Int} (hV : PartS n V) (hF : PartS n F) (dV : DoesR 214 n V) (dF : DoesR 277 n F) : DoesR 277 (n + 1) (facS V F) := by
 intro s h hn hp
 have hpn := nodesS_le (s := s)
 obtain ⟨list, cur, bad, nodes⟩ := s
 have i0 : intsT [] = [] := rfl
 have hl5 := h.len
 dsimp only at hl5 hn hpn
 have hfac : facS V F ⟨list, cur, bad, nodes⟩ = if bad = true then (⟨list, cur, true, nodes⟩, 0)
  else if decide ((list.length : Int) ≤ (cur : Int)) = true then (⟨list, cur, true, nodes⟩, 0)
  else if ((list.getD cur signZ).kind == 2) = true then putS ⟨list, cur + 1, bad, nodes⟩ ⟨1, (list.getD cur signZ).num, noB, noB, noB, []⟩
  else if isS ⟨list, cur, bad, nodes⟩ bOpen = true then (mustS (V (advS ⟨list, cur, bad, nodes⟩)).1 bShut, (V (advS ⟨list, cur, bad, nodes⟩)).2)
  else if isS ⟨list, cur, bad, nodes⟩ bNot = true then putS (F (advS ⟨list, cur, bad, nodes⟩)).1 ⟨4, 0, noB, noB, noB, [(F (advS ⟨list, cur, bad, nodes⟩)).2]⟩
  else if isS ⟨list, cur, bad, nodes⟩ bNeg = true then putS (F (advS ⟨list, cur, bad, nodes⟩)).1 ⟨5, 0, noB, noB, noB, [(F (advS ⟨list, cur, bad, nodes⟩)).2]⟩
  else putS (nameS ⟨list, cur, bad, nodes⟩).1 ⟨2, 0, (nameS ⟨list, cur, bad, nodes⟩).2, noB, noB, []⟩ := rfl
 rw [hfac]
 clear hfac
 have k1 := sMay_ok _ bOpen h
 have k2 := sMay_ok _ bNot h
 have k3 := sMay_ok _ bNeg h
 have hname := sName_ok _ h
 have hnk := name_keepS h
 have hadv : advS ⟨list, cur, bad, nodes⟩ = ⟨list, cur + 1, bad, nodes⟩ := rfl
 cases bad
 ·rw [if_neg (by simp)]
  cases hd : decide ((list.length : Int) ≤ (cur : Int))
  ·have hd' := of_decide_eq_false hd
   rw [if_neg (by simp)]
   have hc : cur < list.length := by omega
   have a1 : RsOk (advS ⟨list, cur, false, nodes⟩) := advS_ok h hc
   have a2 : (advS ⟨list, cur, false, nodes⟩).list.length - (advS ⟨list, cur, false, nodes⟩).cur < n := by show list.length - (cur + 1) < n; omega
   have a3 : potS (advS ⟨list, cur, false, nodes⟩) + 4 = potS ⟨list, cur, false, nodes⟩ := potS_adv hc
   obtain ⟨S, hS⟩ : ∃ S, list.getD cur signZ = S := ⟨_, rfl⟩
   rw [hS]
   cases h2 : (S.kind == 2)
   ·rw [if_neg (by simp)]
    cases q1 : isS ⟨list, cur, false, nodes⟩ bOpen
    ·rw [if_neg (by simp)]
     rw [mayS_no q1, q1] at k1
     cases q2 : isS ⟨list, cur, false, nodes⟩ bNot
     ·rw [if_neg (by simp)]
      rw [mayS_no q2, q2] at k2
      cases q3 : isS ⟨list, cur, false, nodes⟩ bNeg
      ·rw [if_neg (by simp)]
       rw [mayS_no q3, q3] at k3
       obtain ⟨⟨X, nm⟩, hX⟩ : ∃ x, nameS ⟨list, cur, false, nodes⟩ = x := ⟨_, rfl⟩
       rw [hX] at hname hnk ⊢
       dsimp only at hname hnk ⊢
       have hxn : X.nodes.length ≤ 1000000 := Nat.le_trans (Nat.le_trans nodesS_le hnk.2.2.2) hp
       have hput := sPut_ok X ⟨2, 0, nm, noB, noB, []⟩ (by omega) (by simp)
       obtain ⟨⟨Z, z⟩, hZ⟩ : ∃ x, putS X ⟨2, 0, nm, noB, noB, []⟩ = x := ⟨_, rfl⟩
       rw [hZ] at hput ⊢
       dsimp only at hput ⊢
       clear hX hZ hnk dV dF hV hF a1 a2 a3 hxn
       refine cOh 40 (hBd Tryz.func277 rfl (by kernel_rfl) ?_)
       simp (disch := omega) only [go_sem, Tryz.ntmps277, Tryz.results277]
       have x1 := @aNl
       have x2 : HT 1 (.fr [0, 1, 2, 3, 4, 5, 6, 7, 8, 9, 10, 11, 12, 13, 14, 15] (.stop)) := ⟨⟩
       have x3 : HH 4 (.ho [0, 1, 2, 3, 4, 5, 6, 7, 8, 9] (opm 10 [9, 8, 7, 3] [true, true, true, true] (opm 11 [] [false, false, false, false] (.stop)))) := ⟨⟩
       have x4 : HF 0 99 := ⟨⟩
       have x5 : HB 0 _ := ⟨k1⟩
       have x6 : HB 1 _ := ⟨k2⟩
       have x7 : HB 2 _ := ⟨k3⟩
       have x8 : HB 0 _ := ⟨hname⟩
       have x9 : HB 0 _ := ⟨hput⟩
       exact wksf
      ·rw [if_pos rfl]
       rw [mayS_yes q3, q3] at k3
       have hd1 := dF _ a1 a2 (by omega)
       have p4 := (hF _ a1 a2).2.2.2
       obtain ⟨⟨X, o⟩, hX⟩ : ∃ x, F (advS ⟨list, cur, false, nodes⟩) = x := ⟨_, rfl⟩
       rw [hX] at hd1 p4 ⊢
       dsimp only at hd1 p4 ⊢
       have hxn : X.nodes.length ≤ 1000000 := Nat.le_trans (Nat.le_trans nodesS_le p4) (by omega)
       have hput := sPut_ok X ⟨5, 0, noB, noB, noB, [o]⟩ (by omega) (by simp)
       obtain ⟨⟨Z, z⟩, hZ⟩ : ∃ x, putS X ⟨5, 0, noB, noB, noB, [o]⟩ = x := ⟨_, rfl⟩
       rw [hZ] at hput ⊢
       dsimp only at hput ⊢
       have i1 : intsT [o] = [[T.v (.int .i64 o)]] := rfl
       rw [hadv] at k3 hd1
       clear hX hZ hnk dV dF hV hF a1 a2 a3 hxn hadv hname
       refine cOh 40 (hBd Tryz.func277 rfl (by kernel_rfl) ?_)
       simp (disch := omega) only [go_sem, Tryz.ntmps277, Tryz.results277]
       repeat' (first | (with_reducible first | refine i_seq ?_ | exact th_none | exact tr_none | refine tr_stop ?_ | refine i_treeQ (id := 1) (.fr [0, 1, 2, 3, 4, 5, 6, 7, 8, 9, 10, 11, 12, 13, 14, 15] (.stop)) mixedT (by kernel_rfl) (fun Q' hQ => ?_) | refine i_th (id := 4) (.ho [0, 1, 2, 3, 4, 5, 6, 7, 8, 9] (opm 10 [9, 8, 7, 3] [true, true, true, true] (opm 11 [] [false, false, false, false] (.stop)))) mixedT (by kernel_rfl) (fun Q' hQ => ?_)) | ((first | (with_reducible first | refine iBk ?_ | refine iRQ (fun Q' hQ => ?_) | (refine Imp.go hQ ?_; clear hQ) | refine tr_fr ?_ | refine tr_op (aLr ?_) | refine tr_alt (by kernel_rfl) (aLr ?_) ?_ | refine tr_altp ?_ ?_ | refine th_ho ?_ | refine th_stop ?_ ?_ | refine th_opm ?_ (by kernel_rfl) (aLr ?_) | refine th_altm ?_ (by kernel_rfl) (aLr ?_) ?_) | ((with_reducible refine i_condT ?_ ?_); (focus (simp only [go_sem, *]; done))) | ((with_reducible refine i_condF ?_ ?_); (focus (simp only [go_sem, *]; done))) | ((with_reducible first | refine rOg (fun h => ?_) (fun h => ?_) | refine pG_split (fun h => ?_) (fun h => ?_) | refine i_cond (by simp only [go_sem, *] <;> rfl) (fun h => ?_) (fun h => ?_)) <;> (try simp only [nqA, nqB, nqC, reduceCtorEq] at h) <;> (try have h' := odT h) <;> (try (have hz : (_ : Int) = (_ : Int) := h'; clear hz h')) <;> (try have h' := odF h) <;> (try have h' := inB_t h) <;> (try (exfalso; omega))) | ((first | ((with_reducible refine hcO 40 false (k1) ?_ ?_ ?_ ?_ ?_); iterate 4 (focus (simp (disch := omega) only [go_sem, hd, hS, h2, aNl, i1, reduceCtorEq, nLo]; done))) | ((with_reducible refine hcO 40 false (k2) ?_ ?_ ?_ ?_ ?_); iterate 4 (focus (simp (disch := omega) only [go_sem, hd, hS, h2, aNl, i1, reduceCtorEq, nLo]; done))) | ((with_reducible refine hcO 40 false (k3) ?_ ?_ ?_ ?_ ?_); iterate 4 (focus (simp (disch := omega) only [go_sem, hd, hS, h2, aNl, i1, reduceCtorEq, nLo]; done))) | ((with_reducible refine hcO 40 false (hd1) ?_ ?_ ?_ ?_ ?_); iterate 4 (focus (simp (disch := omega) only [go_sem, hd, hS, h2, aNl, i1, reduceCtorEq, nLo]; done))) | ((with_reducible refine hcO 40 false (hput) ?_ ?_ ?_ ?_ ?_); iterate 4 (focus (simp (disch := omega) only [go_sem, hd, hS, h2, aNl, i1, reduceCtorEq, nLo]; done)))); simp only [go_sem, hd, hS, h2, aNl, i1, reduceCtorEq]; refine aLr ?_)) <;> (try simp (disch := first | omega | (simp only [sAp, size_mk, List.size_toArray, List.length_cons, List.length_nil]; omega)) only [go_sem, hd, hS, h2, aNl, i1, reduceCtorEq, *])) | ((first | apply hFo | apply endF_folds); (focus ((first | refine folds_setc 99 rfl (by with_reducible rfl) ?_ ?_); (focus (simp (disch := omega) only [go_sem]; done)); (focus (first | omega | (simp (disch := omega) only [go_sem]; omega))))); (try simp (disch := first | omega | (simp only [sAp, size_mk, List.size_toArray, List.length_cons, List.length_nil]; omega)) only [go_sem, hd, hS, h2, aNl, i1, reduceCtorEq, *])))
       all_goals (try (with_reducible refine endF_k ?_))
       all_goals (try simp (disch := omega) only [EndK, go_sem, hd, hS, h2, aNl, i1, reduceCtorEq, nLo, *])
     ·rw [if_pos rfl]
      rw [mayS_yes q2, q2] at k2
      have hd1 := dF _ a1 a2 (by omega)
      have p4 := (hF _ a1 a2).2.2.2
      obtain ⟨⟨X, o⟩, hX⟩ : ∃ x, F (advS ⟨list, cur, false, nodes⟩) = x := ⟨_, rfl⟩
      rw [hX] at hd1 p4 ⊢
      dsimp only at hd1 p4 ⊢
      have hxn : X.nodes.length ≤ 1000000 := Nat.le_trans (Nat.le_trans nodesS_le p4) (by omega)
      have hput := sPut_ok X ⟨4, 0, noB, noB, noB, [o]⟩ (by omega) (by simp)
      obtain ⟨⟨Z, z⟩, hZ⟩ : ∃ x, putS X ⟨4, 0, noB, noB, noB, [o]⟩ = x := ⟨_, rfl⟩
      rw [hZ] at hput ⊢
      dsimp only at hput ⊢
      have i1 : intsT [o] = [[T.v (.int .i64 o)]] := rfl
      rw [hadv] at k2 hd1
      clear hX hZ hnk dV dF hV hF a1 a2 a3 hxn hadv hname k3
      refine cOh 40 (hBd Tryz.func277 rfl (by kernel_rfl) ?_)
      simp (disch := omega) only [go_sem, Tryz.ntmps277, Tryz.results277]
      repeat' (first | (with_reducible first | refine i_seq ?_ | exact th_none | exact tr_none | refine tr_stop ?_ | refine i_treeQ (id := 1) (.fr [0, 1, 2, 3, 4, 5, 6, 7, 8, 9, 10, 11, 12, 13, 14, 15] (.stop)) mixedT (by kernel_rfl) (fun Q' hQ => ?_) | refine i_th (id := 4) (.ho [0, 1, 2, 3, 4, 5, 6, 7, 8, 9] (opm 10 [9, 8, 7, 3] [true, true, true, true] (opm 11 [] [false, false, false, false] (.stop)))) mixedT (by kernel_rfl) (fun Q' hQ => ?_)) | ((first | (with_reducible first | refine iBk ?_ | refine iRQ (fun Q' hQ => ?_) | (refine Imp.go hQ ?_; clear hQ) | refine tr_fr ?_ | refine tr_op (aLr ?_) | refine tr_alt (by kernel_rfl) (aLr ?_) ?_ | refine tr_altp ?_ ?_ | refine th_ho ?_ | refine th_stop ?_ ?_ | refine th_opm ?_ (by kernel_rfl) (aLr ?_) | refine th_altm ?_ (by kernel_rfl) (aLr ?_) ?_) | ((with_reducible refine i_condT ?_ ?_); (focus (simp only [go_sem, *]; done))) | ((with_reducible refine i_condF ?_ ?_); (focus (simp only [go_sem, *]; done))) | ((with_reducible first | refine rOg (fun h => ?_) (fun h => ?_) | refine pG_split (fun h => ?_) (fun h => ?_) | refine i_cond (by simp only [go_sem, *] <;> rfl) (fun h => ?_) (fun h => ?_)) <;> (try simp only [nqA, nqB, nqC, reduceCtorEq] at h) <;> (try have h' := odT h) <;> (try (have hz : (_ : Int) = (_ : Int) := h'; clear hz h')) <;> (try have h' := odF h) <;> (try have h' := inB_t h) <;> (try (exfalso; omega))) | ((first | ((with_reducible refine hcO 40 false (k1) ?_ ?_ ?_ ?_ ?_); iterate 4 (focus (simp (disch := omega) only [go_sem, hd, hS, h2, aNl, i1, reduceCtorEq, nLo]; done))) | ((with_reducible refine hcO 40 false (k2) ?_ ?_ ?_ ?_ ?_); iterate 4 (focus (simp (disch := omega) only [go_sem, hd, hS, h2, aNl, i1, reduceCtorEq, nLo]; done))) | ((with_reducible refine hcO 40 false (hd1) ?_ ?_ ?_ ?_ ?_); iterate 4 (focus (simp (disch := omega) only [go_sem, hd, hS, h2, aNl, i1, reduceCtorEq, nLo]; done))) | ((with_reducible refine hcO 40 false (hput) ?_ ?_ ?_ ?_ ?_); iterate 4 (focus (simp (disch := omega) only [go_sem, hd, hS, h2, aNl, i1, reduceCtorEq, nLo]; done)))); simp only [go_sem, hd, hS, h2, aNl, i1, reduceCtorEq]; refine aLr ?_)) <;> (try simp (disch := first | omega | (simp only [sAp, size_mk, List.size_toArray, List.length_cons, List.length_nil]; omega)) only [go_sem, hd, hS, h2, aNl, i1, reduceCtorEq, *])) | ((first | apply hFo | apply endF_folds); (focus ((first | refine folds_setc 99 rfl (by with_reducible rfl) ?_ ?_); (focus (simp (disch := omega) only [go_sem]; done)); (focus (first | omega | (simp (disch := omega) only [go_sem]; omega))))); (try simp (disch := first | omega | (simp only [sAp, size_mk, List.size_toArray, List.length_cons, List.length_nil]; omega)) only [go_sem, hd, hS, h2, aNl, i1, reduceCtorEq, *])))
      all_goals (try (with_reducible refine endF_k ?_))
      all_goals (try simp (disch := omega) only [EndK, go_sem, hd, hS, h2, aNl, i1, reduceCtorEq, nLo, *])
    ·rw [if_pos rfl]
     rw [mayS_yes q1, q1] at k1
     have hd1 := dV _ a1 a2 (by omega)
     have p1 := (hV _ a1 a2).1
     obtain ⟨⟨X, o⟩, hX⟩ : ∃ x, V (advS ⟨list, cur, false, nodes⟩) = x := ⟨_, rfl⟩
     rw [hX] at hd1 p1 ⊢
     dsimp only at hd1 p1 ⊢
     have hw := sMust_ok X bShut p1
     obtain ⟨Y, hY⟩ : ∃ Y, mustS X bShut = Y := ⟨_, rfl⟩
     rw [hY] at hw ⊢
     rw [hadv] at k1 hd1
     clear hX hY hnk dV dF hV hF a1 a2 a3 hadv hname k2 k3
     refine cOh 40 (hBd Tryz.func277 rfl (by kernel_rfl) ?_)
     simp (disch := omega) only [go_sem, Tryz.ntmps277, Tryz.results277]
     repeat' (first | (with_reducible first | refine i_seq ?_ | exact th_none | exact tr_none | refine tr_stop ?_ | refine i_treeQ (id := 1) (.fr [0, 1, 2, 3, 4, 5, 6, 7, 8, 9, 10, 11, 12, 13, 14, 15] (.stop)) mixedT (by kernel_rfl) (fun Q' hQ => ?_) | refine i_th (id := 4) (.ho [0, 1, 2, 3, 4, 5, 6, 7, 8, 9] (opm 10 [9, 8, 7, 3] [true, true, true, true] (opm 11 [] [false, false, false, false] (.stop)))) mixedT (by kernel_rfl) (fun Q' hQ => ?_)) | ((first | (with_reducible first | refine iBk ?_ | refine iRQ (fun Q' hQ => ?_) | (refine Imp.go hQ ?_; clear hQ) | refine tr_fr ?_ | refine tr_op (aLr ?_) | refine tr_alt (by kernel_rfl) (aLr ?_) ?_ | refine tr_altp ?_ ?_ | refine th_ho ?_ | refine th_stop ?_ ?_ | refine th_opm ?_ (by kernel_rfl) (aLr ?_) | refine th_altm ?_ (by kernel_rfl) (aLr ?_) ?_) | ((with_reducible refine i_condT ?_ ?_); (focus (simp only [go_sem, *]; done))) | ((with_reducible refine i_condF ?_ ?_); (focus (simp only [go_sem, *]; done))) | ((with_reducible first | refine rOg (fun h => ?_) (fun h => ?_) | refine pG_split (fun h => ?_) (fun h => ?_) | refine i_cond (by simp only [go_sem, *] <;> rfl) (fun h => ?_) (fun h => ?_)) <;> (try simp only [nqA, nqB, nqC, reduceCtorEq] at h) <;> (try have h' := odT h) <;> (try (have hz : (_ : Int) = (_ : Int) := h'; clear hz h')) <;> (try have h' := odF h) <;> (try have h' := inB_t h) <;> (try (exfalso; omega))) | ((first | ((with_reducible refine hcO 40 false (k1) ?_ ?_ ?_ ?_ ?_); iterate 4 (focus (simp (disch := omega) only [go_sem, hd, hS, h2, reduceCtorEq, nLo]; done))) | ((with_reducible refine hcO 40 false (hd1) ?_ ?_ ?_ ?_ ?_); iterate 4 (focus (simp (disch := omega) only [go_sem, hd, hS, h2, reduceCtorEq, nLo]; done))) | ((with_reducible refine hcO 40 false (hw) ?_ ?_ ?_ ?_ ?_); iterate 4 (focus (simp (disch := omega) only [go_sem, hd, hS, h2, reduceCtorEq, nLo]; done)))); simp only [go_sem, hd, hS, h2, reduceCtorEq]; refine aLr ?_)) <;> (try simp (disch := first | omega | (simp only [sAp, size_mk, List.size_toArray, List.length_cons, List.length_nil]; omega)) only [go_sem, hd, hS, h2, reduceCtorEq, *])) | ((first | apply hFo | apply endF_folds); (focus ((first | refine folds_setc 99 rfl (by with_reducible rfl) ?_ ?_); (focus (simp (disch := omega) only [go_sem]; done)); (focus (first | omega | (simp (disch := omega) only [go_sem]; omega))))); (try simp (disch := first | omega | (simp only [sAp, size_mk, List.size_toArray, List.length_cons, List.length_nil]; omega)) only [go_sem, hd, hS, h2, reduceCtorEq, *])))
     all_goals (try (with_reducible refine endF_k ?_))
     all_goals (try simp (disch := omega) only [EndK, go_sem, hd, hS, h2, reduceCtorEq, nLo, *])
   ·rw [if_pos rfl]
    have hput := sPut_ok ⟨list, cur + 1, false, nodes⟩ ⟨1, S.num, noB, noB, noB, []⟩ (by show nodes.length ≤ _; omega) (by simp)
    obtain ⟨⟨Z, z⟩, hZ⟩ : ∃ x, putS ⟨list, cur + 1, false, nodes⟩ ⟨1, S.num, noB, noB, noB, []⟩ = x := ⟨_, rfl⟩
    rw [hZ] at hput ⊢
    dsimp only at hput ⊢
    clear hZ hnk dV dF hV hF a1 a2 a3 hadv hname k1 k2 k3
    refine cOh 40 (hBd Tryz.func277 rfl (by kernel_rfl) ?_)
    simp (disch := omega) only [go_sem, Tryz.ntmps277, Tryz.results277]
    have x1 := @aNl
    have x2 : HT 1 (.fr [0, 1, 2, 3, 4, 5, 6, 7, 8, 9, 10, 11, 12, 13, 14, 15] (.stop)) := ⟨⟩
    have x3 : HH 4 (.ho [0, 1, 2, 3, 4, 5, 6, 7, 8, 9] (opm 10 [9, 8, 7, 3] [true, true, true, true] (opm 11 [] [false, false, false, false] (.stop)))) := ⟨⟩
    have x4 : HF 0 99 := ⟨⟩
    have x5 : HB 0 _ := ⟨hput⟩
    exact wksf
  ·rw [if_pos rfl]
   dsimp only
   clear k1 k2 k3 hname hnk dV dF
   refine cOh 40 (hBd Tryz.func277 rfl (by kernel_rfl) ?_)
   simp (disch := omega) only [go_sem, Tryz.ntmps277, Tryz.results277]
   have x1 : HT 1 (.fr [0, 1, 2, 3, 4, 5, 6, 7, 8, 9, 10, 11, 12, 13, 14, 15] (.stop)) := ⟨⟩
   have x2 : HH 4 (.ho [0, 1, 2, 3, 4, 5, 6, 7, 8, 9] (opm 10 [9, 8, 7, 3] [true, true, true, true] (opm 11 [] [false, false, false, false] (.stop)))) := ⟨⟩
   have x3 : HF 0 99 := ⟨⟩
   exact wksf
 ·rw [if_pos rfl]
  dsimp only
  clear k1 k2 k3 hname hnk dV dF
  refine cOh 40 (hBd Tryz.func277 rfl (by kernel_rfl) ?_)
  simp (disch := omega) only [go_sem, Tryz.ntmps277, Tryz.results277]
  have x1 : HT 1 (.fr [0, 1, 2, 3, 4, 5, 6, 7, 8, 9, 10, 11, 12, 13, 14, 15] (.stop)) := ⟨⟩
  have x2 : HH 4 (.ho [0, 1, 2, 3, 4, 5, 6, 7, 8, 9] (opm 10 [9, 8, 7, 3] [true, true, true, true] (opm 11 [] [false, false, false, false] (.stop)))) := ⟨⟩
  have x3 : HF 0 99 := ⟨⟩
  exact wksf
theorem factor_allS : ∀ n, DoesR 277 n (facNS n)
 | 0 => fun s _ h => absurd h (Nat.not_lt_zero _)
 | n + 1 => factor_doesS (valueS_part (facNS_part n)) (facNS_part n) (value_doesS (facNS_part n) (factor_allS n)) (factor_allS n)
theorem value_allS (n : Nat) : DoesR 214 n (valueS (facNS n)) := value_doesS (facNS_part n) (factor_allS n)
end Go.Proofs.YtejnpiielcbkkaaGreat.E
