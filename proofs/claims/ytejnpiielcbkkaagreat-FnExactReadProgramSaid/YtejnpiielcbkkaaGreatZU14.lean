/- A part of what stands under the laws of this seat: an abstract evaluator that is proved sound, and contracts of functions by it. No condition beside those that stand in each statement. -/
import Derived.Test.YtejnpiielcbkkaaGreatZR8
import Derived.Test.YtejnpiielcbkkaaGreatZU11
import Derived.Test.YtejnpiielcbkkaaGreatZU12
import Derived.Test.YtejnpiielcbkkaaGreatZR29
set_option linter.unusedVariables false
set_option linter.unusedSimpArgs false
set_option maxRecDepth 100000
set_option maxHeartbeats 4000000
namespace Go.Proofs.YtejnpiielcbkkaaGreat.E
/-! ### The reference's ReadProgram -/
def readS (pk : Prgm → Bool) (z : ByteArray) : Prgm × Int := if ((signsOf z).2 != 0) = true then (programZ, (signsOf z).2) else outS pk (signsOf z).1 z
theorem sReadProgram_ok (z : ByteArray) (hz : z.size ≤ 1048576) : CallOk Tryz.prog 5 [.one (sV z)] (.tup [.agg (programT (readS progS z).1), .one (iV (readS progS z).2)]) [none] := by
 have c0 := sSignsOf_ok z hz
 have sg := signsOf_sg z
 obtain ⟨⟨L, ft⟩, hL⟩ : ∃ x, signsOf z = x := ⟨_, rfl⟩
 have hr : readS progS z = if (ft != 0) = true then (programZ, ft) else outS progS L z := by unfold readS; rw [hL]
 rw [hL] at c0 sg
 dsimp only at c0 sg
 rw [hr]
 clear hr hL
 have ezn : nodesT [] = [] := rfl
 have ezm : monitorsT [] = [] := rfl
 have ezp : processsT [] = [] := rfl
 cases q0 : (ft != 0)
 rotate_left
 ·rw [if_pos rfl]
  dsimp only
  refine cOh 40 (hBd Tryz.func5 rfl (by kernel_rfl) ?_)
  simp (disch := omega) only [go_sem, Tryz.ntmps5, Tryz.results5]
  have x1 := @programZ.eq_1
  have x2 : HH 7 (.ho [0, 1, 2] (opm 3 [1] [true] (opm 4 [1] [true] (opm 5 [] [false] (.ho [6] (opm 7 [] [] (.stop))))))) := ⟨⟩
  have x3 : HH 9 (.ho [0, 1, 2] (opm 3 [1] [true] (opm 4 [1] [true] (opm 5 [] [false] (.ho [6] (opm 7 [] [] (.stop))))))) := ⟨⟩
  have x4 : HH 13 (.ho [1, 2, 3, 4, 5, 6, 7, 8, 9] (opm 0 [8, 6, 5] [true, true, true] (opm 10 [8, 6, 5] [true, true, true] (.ho [11] (.stop))))) := ⟨⟩
  exact wk
 rw [if_neg (by simp)]
 have hl5 := sg.1
 have ok0 := startS_ok hz sg
 have pt0 : potS (startS L) ≤ 5000 := by show 0 + 4 * (L.length - 0) ≤ 5000; omega
 have lf0 : (startS L).list.length - (startS L).cur < L.length + 1 := by show L.length - 0 < _; omega
 obtain ⟨k1, g1, -⟩ := kpS_monsF (L.length + 1) (startS L) [] ok0 (fun y hy => absurd hy (by simp))
 obtain ⟨k2, g2, -⟩ := kpS_procsF (L.length + 1) (monsS L).1 [] k1.1.1 (fun y hy => absurd hy (by simp))
 have hsm := smP_out (L := L) hz sg
 have hos : outS progS L z = if ((dotS L).bad || decide (((dotS L).cur : Int) < (L.length : Int))) = true then
  (if decide (((dotS L).cur : Int) < (L.length : Int)) = true then (programZ, (L.getD (dotS L).cur signZ).pos + 1) else (programZ, (z.size : Int) + 1))
 else if progS ⟨(dotS L).nodes, (monsS L).2, (procsS L).2⟩ = false then (programZ, 1) else (⟨(dotS L).nodes, (monsS L).2, (procsS L).2⟩, 0) := rfl
 rw [hos]
 clear hos
 have hX1 : monsFS (L.length + 1) (startS L) [] = monsS L := rfl
 have hX2 : procsFS (L.length + 1) (monsS L).1 [] = procsS L := rfl
 have hX3 : mustS (procsS L).1 bDot = dotS L := rfl
 have p1 : potS (monsS L).1 ≤ 5000 := Nat.le_trans k1.1.2.2.2 pt0
 have l1 : (monsS L).1.list.length - (monsS L).1.cur < L.length + 1 := by
  have e1 := k1.1.2.1
  have e2 : (startS L).list = L := rfl
  have e3 : (monsS L).1.list = L := e1.trans e2
  rw [e3]; omega
 have o1 := k1.1.1
 have o2 := k2.1.1
 have sp : ∀ k, k < L.length → 0 ≤ (L.getD k signZ).pos ∧ (L.getD k signZ).pos ≤ 1048576 := fun k hk => by
  have := sg.2 _ (getD_mem (z := signZ) hk)
  exact ⟨this.pos0, by have := this.pos1; omega⟩
 have zx : (z.size : Int) ≤ 1048576 := by omega
 rw [List.length_nil] at g1 g2
 have ml : (monsS L).2.length ≤ 600 := Nat.le_trans g1 (by omega)
 have pl : (procsS L).2.length ≤ 600 := Nat.le_trans g2 (by omega)
 change RsOk (monsS L).1 at o1
 change RsOk (procsS L).1 at o2
 clear k1 k2 g1 g2 sg
 obtain ⟨⟨X1, MS⟩, hY1⟩ : ∃ x, monsS L = x := ⟨_, rfl⟩
 rw [hY1] at hX1 hX2 p1 l1 o1 hsm ml ⊢
 dsimp only at hX2 p1 l1 o1 hsm ml ⊢
 obtain ⟨⟨X2, PS⟩, hY2⟩ : ∃ x, procsS L = x := ⟨_, rfl⟩
 rw [hY2] at hX2 hX3 hsm o2 pl ⊢
 dsimp only at hX3 hsm o2 pl ⊢
 have cw := sMust_ok X2 bDot o2
 rw [hX3] at cw
 have od : RsOk (dotS L) := by rw [← hX3]; exact mustS_ok o2
 obtain ⟨X3, hY3⟩ : ∃ x, dotS L = x := ⟨_, rfl⟩
 rw [hY3] at cw hsm od ⊢
 clear hX3 hY1 hY2 hY3
 refine cOh 40 (hcall_of_bodyS Tryz.func5 rfl (by kernel_rfl) ?_)
 simp (disch := omega) only [go_sem, Tryz.ntmps5, Tryz.results5]
 refine s_cut ⟨mkEnv 85 [(0, .one (sV z)), (2, .one (.ptr 0 0 0))], [.live 3 [[.v nilV, .v nilV, .v nilV]]]⟩ ?_ ?_
 ·clear c0 cw hX1 hX2
  have x1 : HH 7 (.ho [0, 1, 2] (opm 3 [1] [true] (opm 4 [1] [true] (opm 5 [] [false] (.ho [6] (opm 7 [] [] (.stop))))))) := ⟨⟩
  have x2 : HH 9 (.ho [0, 1, 2] (opm 3 [1] [true] (opm 4 [1] [true] (opm 5 [] [false] (.ho [6] (opm 7 [] [] (.stop))))))) := ⟨⟩
  have x3 : HH 13 (.ho [1, 2, 3, 4, 5, 6, 7, 8, 9] (opm 0 [8, 6, 5] [true, true, true] (opm 10 [8, 6, 5] [true, true, true] (.ho [11] (.stop))))) := ⟨⟩
  have x4 : HW 0 [0, 2] [0] := ⟨⟩
  exact wkz
 refine s_cut ⟨mkEnv 85 [(0, .one (sV z)), (2, .one (.ptr 0 0 0)), (4, .one (.ref 1 0 L.length)), (5, .one (iV ft))], [.live 3 [[.v nilV, .v nilV, .v nilV]], .live 4 (signsT L)]⟩ ?_ ?_
 ·clear cw hX1 hX2
  simp (disch := omega) only [go_sem]
  have x1 : HH 7 (.ho [0, 1, 2] (opm 3 [1] [true] (opm 4 [1] [true] (opm 5 [] [false] (.ho [6] (opm 7 [] [] (.stop))))))) := ⟨⟩
  have x2 : HH 9 (.ho [0, 1, 2] (opm 3 [1] [true] (opm 4 [1] [true] (opm 5 [] [false] (.ho [6] (opm 7 [] [] (.stop))))))) := ⟨⟩
  have x3 : HH 13 (.ho [1, 2, 3, 4, 5, 6, 7, 8, 9] (opm 0 [8, 6, 5] [true, true, true] (opm 10 [8, 6, 5] [true, true, true] (.ho [11] (.stop))))) := ⟨⟩
  have x4 : HW 0 [0, 2, 4, 5] [0, 1] := ⟨⟩
  exact wkz
 refine s_cut ⟨mkEnv 85 [(0, .one (sV z)), (2, .one (.ptr 0 0 0)), (4, .one (.ro 4 (signsD L)))], [.live 3 [[.v nilV, .v nilV, .v nilV]]]⟩ ?_ ?_
 ·clear c0 cw hX1 hX2
  simp (disch := omega) only [go_sem]
  repeat' (first | (with_reducible first | refine i_seq ?_ | exact th_none | refine i_th (id := 7) (.ho [0, 1, 2] (opm 3 [1] [true] (opm 4 [1] [true] (opm 5 [] [false] (.ho [6] (opm 7 [] [] (.stop))))))) mixedT (by kernel_rfl) (fun Q' hQ => ?_) | refine i_th (id := 9) (.ho [0, 1, 2] (opm 3 [1] [true] (opm 4 [1] [true] (opm 5 [] [false] (.ho [6] (opm 7 [] [] (.stop))))))) mixedT (by kernel_rfl) (fun Q' hQ => ?_) | refine i_th (id := 13) (.ho [1, 2, 3, 4, 5, 6, 7, 8, 9] (opm 0 [8, 6, 5] [true, true, true] (opm 10 [8, 6, 5] [true, true, true] (.ho [11] (.stop))))) mixedT (by kernel_rfl) (fun Q' hQ => ?_)) | ((first | (with_reducible first | refine iBk ?_ | refine iRQ (fun Q' hQ => ?_) | (refine Imp.go hQ ?_; clear hQ) | refine th_ho ?_ | refine th_stop ?_ ?_ | refine th_opm ?_ (by kernel_rfl) (aLr ?_) | refine th_altm ?_ (by kernel_rfl) (aLr ?_) ?_) | ((with_reducible refine i_condT ?_ ?_); (focus (simp only [go_sem, *]; done))) | ((with_reducible refine i_condF ?_ ?_); (focus (simp only [go_sem, *]; done))) | ((with_reducible first | refine rOg (fun h => ?_) (fun h => ?_) | refine i_cond (by simp only [go_sem, *] <;> rfl) (fun h => ?_) (fun h => ?_)) <;> (try simp only [nqA, nqB, nqC, reduceCtorEq] at h) <;> (try have h' := odT h) <;> (try (have hz : (_ : Int) = (_ : Int) := h'; clear hz h')) <;> (try have h' := odF h) <;> (try have h' := inB_t h) <;> (try (exfalso; omega)))) <;> (try simp (disch := omega) only [go_sem, q0, reduceCtorEq, *])))
  all_goals (try simp (disch := omega) only [EndK, go_sem, q0, reduceCtorEq, nLo, *])
  all_goals
   refine weak_freeze 4 1 4 (signsD L) (by simp (disch := omega) only [go_sem]) (by rw [signsD_ofD]; rfl) ?_
   simp (disch := omega) only [go_sem]
   first | exact wc [0, 2, 4] [0]
 clear c0 q0
 refine s_cut ⟨mkEnv 85 [(0, .one (sV z)), (2, .one (.ptr 0 0 0)), (4, .one (.ro 4 (signsD L))), (6, .one (.ptr 1 0 0))], [.live 3 [[.v nilV, .v nilV, .v nilV]], .live 4 [rsT (startS L)]]⟩ ?_ ?_
 ·clear cw hX1 hX2
  simp (disch := omega) only [go_sem]
  repeat' (first | (with_reducible first | refine i_seq ?_ | exact th_none | refine i_th (id := 7) (.ho [0, 1, 2] (opm 3 [1] [true] (opm 4 [1] [true] (opm 5 [] [false] (.ho [6] (opm 7 [] [] (.stop))))))) mixedT (by kernel_rfl) (fun Q' hQ => ?_) | refine i_th (id := 9) (.ho [0, 1, 2] (opm 3 [1] [true] (opm 4 [1] [true] (opm 5 [] [false] (.ho [6] (opm 7 [] [] (.stop))))))) mixedT (by kernel_rfl) (fun Q' hQ => ?_) | refine i_th (id := 13) (.ho [1, 2, 3, 4, 5, 6, 7, 8, 9] (opm 0 [8, 6, 5] [true, true, true] (opm 10 [8, 6, 5] [true, true, true] (.ho [11] (.stop))))) mixedT (by kernel_rfl) (fun Q' hQ => ?_)) | ((first | (with_reducible first | refine iBk ?_ | refine iRQ (fun Q' hQ => ?_) | (refine Imp.go hQ ?_; clear hQ) | refine th_ho ?_ | refine th_stop ?_ ?_ | refine th_opm ?_ (by kernel_rfl) (aLr ?_) | refine th_altm ?_ (by kernel_rfl) (aLr ?_) ?_) | ((with_reducible refine i_condT ?_ ?_); (focus (simp only [go_sem, *]; done))) | ((with_reducible refine i_condF ?_ ?_); (focus (simp only [go_sem, *]; done))) | ((with_reducible first | refine rOg (fun h => ?_) (fun h => ?_) | refine i_cond (by simp only [go_sem, *] <;> rfl) (fun h => ?_) (fun h => ?_)) <;> (try simp only [nqA, nqB, nqC, reduceCtorEq] at h) <;> (try have h' := odT h) <;> (try (have hz : (_ : Int) = (_ : Int) := h'; clear hz h')) <;> (try have h' := odF h) <;> (try have h' := inB_t h) <;> (try (exfalso; omega)))) <;> (try simp (disch := omega) only [go_sem, reduceCtorEq, *])))
  all_goals (try simp (disch := omega) only [EndK, go_sem, reduceCtorEq, nLo, *])
  all_goals
   refine weak_fit2 9 1 0 4 [[.ro 4 (signsD L), iV 0, bV false, .v (.slice none 0 0)]] [.ro 4 (signsD L), iV 0, bV false, .v (.slice none 0 0)] (rsT (startS L)) rfl rfl ?_ rfl ?_
   ·simp (disch := omega) [go_sem, startS, ezn, isNil]
   ·simp (disch := omega) only [go_sem, startS, ezn, isNil]
    first | (refine wCn [0, 2, 4, 6] [0, 1] ?_ ?_ ?_ <;> (simp (disch := omega) only [go_sem, startS, ezn]; done))
 refine s_cut ⟨mkEnv 85 [(0, .one (sV z)), (2, .one (.ptr 0 0 0)), (4, .one (.ro 4 (signsD L))), (6, .one (.ptr 1 0 0)), (7, .one (.ptr 2 0 0))], [.live 3 [[.v nilV, .v nilV, .v nilV]], .live 4 [rsT (startS L)], .live 3 [[.ref 3 0 0, .ref 4 0 0, .ref 5 0 0]], .live 6 [], .live 4 [], .live 4 []]⟩ ?_ ?_
 ·clear cw hX1 hX2
  simp (disch := omega) only [go_sem]
  repeat' (first | (with_reducible first | refine i_seq ?_ | exact th_none | refine i_th (id := 7) (.ho [0, 1, 2] (opm 3 [1] [true] (opm 4 [1] [true] (opm 5 [] [false] (.ho [6] (opm 7 [] [] (.stop))))))) mixedT (by kernel_rfl) (fun Q' hQ => ?_) | refine i_th (id := 9) (.ho [0, 1, 2] (opm 3 [1] [true] (opm 4 [1] [true] (opm 5 [] [false] (.ho [6] (opm 7 [] [] (.stop))))))) mixedT (by kernel_rfl) (fun Q' hQ => ?_) | refine i_th (id := 13) (.ho [1, 2, 3, 4, 5, 6, 7, 8, 9] (opm 0 [8, 6, 5] [true, true, true] (opm 10 [8, 6, 5] [true, true, true] (.ho [11] (.stop))))) mixedT (by kernel_rfl) (fun Q' hQ => ?_)) | ((first | (with_reducible first | refine iBk ?_ | refine iRQ (fun Q' hQ => ?_) | (refine Imp.go hQ ?_; clear hQ) | refine th_ho ?_ | refine th_stop ?_ ?_ | refine th_opm ?_ (by kernel_rfl) (aLr ?_) | refine th_altm ?_ (by kernel_rfl) (aLr ?_) ?_) | ((with_reducible refine i_condT ?_ ?_); (focus (simp only [go_sem, *]; done))) | ((with_reducible refine i_condF ?_ ?_); (focus (simp only [go_sem, *]; done))) | ((with_reducible first | refine rOg (fun h => ?_) (fun h => ?_) | refine i_cond (by simp only [go_sem, *] <;> rfl) (fun h => ?_) (fun h => ?_)) <;> (try simp only [nqA, nqB, nqC, reduceCtorEq] at h) <;> (try have h' := odT h) <;> (try (have hz : (_ : Int) = (_ : Int) := h'; clear hz h')) <;> (try have h' := odF h) <;> (try have h' := inB_t h) <;> (try (exfalso; omega)))) <;> (try simp (disch := omega) only [go_sem, reduceCtorEq, *])))
  all_goals (try simp (disch := omega) only [EndK, go_sem, reduceCtorEq, nLo, *])
  all_goals
   refine weak_names (names_nil 2 3 [.v (.slice none 0 0), .v (.slice none 0 0), .v (.slice none 0 0)] [.own 6 [], .own 4 [], .own 4 []] rfl (by with_reducible rfl) (by simp [go_sem, isNil]) (by simp [go_sem])) ?_
   simp (disch := omega) only [go_sem]
   first | exact wc [0, 2, 4, 6, 7] [0, 1, 2, 3, 4, 5]
 refine s_cut ⟨mkEnv 85 [(0, .one (sV z)), (2, .one (.ptr 0 0 0)), (4, .one (.ro 4 (signsD L))), (6, .one (.ptr 1 0 0)), (7, .one (.ptr 2 0 0))], [.live 3 [[.v nilV, .v nilV, .v nilV]], .live 4 [rsT X1], .live 3 [[.ref 3 0 0, .ref 4 0 MS.length, .ref 5 0 0]], .live 6 [], .live 4 (monitorsT MS), .live 4 []]⟩ ?_ ?_
 ·clear cw hX2 hsm sp
  simp (disch := omega) only [go_sem]
  have x1 : HH 7 (.ho [0, 1, 2] (opm 3 [1] [true] (opm 4 [1] [true] (opm 5 [] [false] (.ho [6] (opm 7 [] [] (.stop))))))) := ⟨⟩
  have x2 : HH 9 (.ho [0, 1, 2] (opm 3 [1] [true] (opm 4 [1] [true] (opm 5 [] [false] (.ho [6] (opm 7 [] [] (.stop))))))) := ⟨⟩
  have x3 : HH 13 (.ho [1, 2, 3, 4, 5, 6, 7, 8, 9] (opm 0 [8, 6, 5] [true, true, true] (opm 10 [8, 6, 5] [true, true, true] (.ho [11] (.stop))))) := ⟨⟩
  refine wkc ?_
  refine i_loop (α := {x : Nat × Rs × List Monitor // RsOk x.2.1 ∧ potS x.2.1 ≤ 5000 ∧ x.2.1.list.length - x.2.1.cur < x.1 ∧ x.2.2.length + x.1 ≤ 600 ∧ monsFS x.1 x.2.1 x.2.2 = (X1, MS)}) (fun x => ⟨mkEnv 85 [(0, .one (sV z)), (2, .one (.ptr 0 0 0)), (4, .one (.ro 4 (signsD L))), (6, .one (.ptr 1 0 0)), (7, .one (.ptr 2 0 0))], [.live 3 [[.v nilV, .v nilV, .v nilV]], .live 4 [rsT x.1.2.1], .live 3 [[.ref 3 0 0, .ref 4 0 x.1.2.2.length, .ref 5 0 0]], .live 6 [], .live 4 (monitorsT x.1.2.2), .live 4 []]⟩) (fun x => x.1.1) ⟨(L.length + 1, startS L, []), ok0, pt0, lf0, by simp only [List.length_nil]; omega, hX1⟩ ?_ ?_
  ·first | (refine wCn [0, 2, 4, 6, 7] [0, 1, 2, 3, 4, 5] ?_ ?_ ?_ <;> (simp (disch := omega) only [go_sem, ezm, ezp, List.length_nil]; done))
  rintro ⟨⟨m, Y, ys⟩, t1, t2, t3, t4, he⟩
  dsimp only at t1 t2 t3 t4 he ⊢
  obtain ⟨m, rfl⟩ : ∃ m', m = m' + 1 := ⟨m - 1, by omega⟩
  have ct := sMay_ok Y k_monitor t1
  cases q : isS Y k_monitor
  ·rw [mayS_no q, q] at ct
   unfold monsFS at he
   rw [q, if_neg (by simp)] at he
   obtain ⟨rfl, rfl⟩ := Prod.mk.inj he
   simp (disch := omega) only [go_sem]
   have x1 : HH 7 (.ho [0, 1, 2] (opm 3 [1] [true] (opm 4 [1] [true] (opm 5 [] [false] (.ho [6] (opm 7 [] [] (.stop))))))) := ⟨⟩
   have x2 : HH 9 (.ho [0, 1, 2] (opm 3 [1] [true] (opm 4 [1] [true] (opm 5 [] [false] (.ho [6] (opm 7 [] [] (.stop))))))) := ⟨⟩
   have x3 : HH 13 (.ho [1, 2, 3, 4, 5, 6, 7, 8, 9] (opm 0 [8, 6, 5] [true, true, true] (opm 10 [8, 6, 5] [true, true, true] (.ho [11] (.stop))))) := ⟨⟩
   have x4 : HW 0 [0, 2, 4, 6, 7] [0, 1, 2, 3, 4, 5] := ⟨⟩
   have x5 : HB 0 _ := ⟨ct⟩
   exact wkz
  ·rw [mayS_yes q, q] at ct
   unfold monsFS at he
   rw [q, if_pos rfl] at he
   have a := is_advS t1 q
   have ap := a.pot
   have cm := sMonitor_ok _ a.ok (by omega)
   obtain ⟨kk1, kk2, kk3, kk4⟩ := (kpS_mon a.ok).1.1
   have hsmm := (kpS_mon a.ok).2
   have hxc := isS_in q
   have hadv : advS Y = ⟨Y.list, Y.cur + 1, Y.bad, Y.nodes⟩ := rfl
   have hac : (advS Y).cur = Y.cur + 1 := rfl
   have hal : (advS Y).list = Y.list := rfl
   rw [hal] at kk2
   rw [hac] at kk3
   obtain ⟨⟨Y2, y⟩, hY2⟩ : ∃ x, monS (advS Y) = x := ⟨_, rfl⟩
   rw [hY2] at cm he kk1 kk2 kk3 kk4 hsmm
   dsimp only at cm he kk1 kk2 kk3 kk4 hsmm
   have kk5 : Y2.list.length ≤ Y.list.length := by rw [kk2]; exact Nat.le_refl _
   rw [hadv] at ct cm
   have pz : potS Y2 ≤ 5000 := by omega
   obtain ⟨b0, b1, b2, b3, -⟩ := hsmm; obtain ⟨b1, -⟩ := b1; obtain ⟨b2, -⟩ := b2; obtain ⟨nm, vs, qs, es⟩ := y; dsimp only at b1 b2 b3
   clear hadv hac hal hY2 kk2 a q kk4 ap t1
   simp (disch := omega) only [go_sem]
   have x1 : HH 7 (.ho [0, 1, 2] (opm 3 [1] [true] (opm 4 [1] [true] (opm 5 [] [false] (.ho [6] (opm 7 [] [] (.stop))))))) := ⟨⟩
   have x2 : HH 9 (.ho [0, 1, 2] (opm 3 [1] [true] (opm 4 [1] [true] (opm 5 [] [false] (.ho [6] (opm 7 [] [] (.stop))))))) := ⟨⟩
   have x3 : HH 13 (.ho [1, 2, 3, 4, 5, 6, 7, 8, 9] (opm 0 [8, 6, 5] [true, true, true] (opm 10 [8, 6, 5] [true, true, true] (.ho [11] (.stop))))) := ⟨⟩
   have x4 : HB 0 _ := ⟨ct⟩
   have x5 : HB 0 _ := ⟨cm⟩
   refine wkzr ?_
   intros
   all_goals refine ⟨⟨(m, Y2, ys ++ [⟨nm, vs, qs, es⟩]), kk1, pz, by dsimp only; omega, by simp only [List.length_append, List.length_singleton]; omega, he⟩, ?_, by simp only; omega⟩
   all_goals
    refine weak_folds (folds_appc 10 rfl (by with_reducible rfl) (by simp (disch := omega) only [go_sem])) ?_
    simp (disch := omega) only [go_sem]
    first | (refine wCn [0, 2, 4, 6, 7] [0, 1, 2, 3, 10, 5] ?_ ?_ ?_ <;> (simp (disch := omega) only [go_sem, monitorsT_one, List.length_append, List.length_singleton]; done))
 refine s_cut ⟨mkEnv 85 [(0, .one (sV z)), (2, .one (.ptr 0 0 0)), (4, .one (.ro 4 (signsD L))), (6, .one (.ptr 1 0 0)), (7, .one (.ptr 2 0 0))], [.live 3 [[.v nilV, .v nilV, .v nilV]], .live 4 [rsT X2], .live 3 [[.ref 3 0 0, .ref 4 0 MS.length, .ref 5 0 PS.length]], .live 6 [], .live 4 (monitorsT MS), .live 4 (processsT PS)]⟩ ?_ ?_
 ·clear cw hX1 hsm sp
  simp (disch := omega) only [go_sem]
  have x1 : HH 7 (.ho [0, 1, 2] (opm 3 [1] [true] (opm 4 [1] [true] (opm 5 [] [false] (.ho [6] (opm 7 [] [] (.stop))))))) := ⟨⟩
  have x2 : HH 9 (.ho [0, 1, 2] (opm 3 [1] [true] (opm 4 [1] [true] (opm 5 [] [false] (.ho [6] (opm 7 [] [] (.stop))))))) := ⟨⟩
  have x3 : HH 13 (.ho [1, 2, 3, 4, 5, 6, 7, 8, 9] (opm 0 [8, 6, 5] [true, true, true] (opm 10 [8, 6, 5] [true, true, true] (.ho [11] (.stop))))) := ⟨⟩
  refine wkc ?_
  refine i_loop (α := {x : Nat × Rs × List Process // RsOk x.2.1 ∧ potS x.2.1 ≤ 5000 ∧ x.2.1.list.length - x.2.1.cur < x.1 ∧ x.2.2.length + x.1 ≤ 600 ∧ procsFS x.1 x.2.1 x.2.2 = (X2, PS)}) (fun x => ⟨mkEnv 85 [(0, .one (sV z)), (2, .one (.ptr 0 0 0)), (4, .one (.ro 4 (signsD L))), (6, .one (.ptr 1 0 0)), (7, .one (.ptr 2 0 0))], [.live 3 [[.v nilV, .v nilV, .v nilV]], .live 4 [rsT x.1.2.1], .live 3 [[.ref 3 0 0, .ref 4 0 MS.length, .ref 5 0 x.1.2.2.length]], .live 6 [], .live 4 (monitorsT MS), .live 4 (processsT x.1.2.2)]⟩) (fun x => x.1.1) ⟨(L.length + 1, X1, []), o1, p1, l1, by simp only [List.length_nil]; omega, hX2⟩ ?_ ?_
  ·first | (refine wCn [0, 2, 4, 6, 7] [0, 1, 2, 3, 4, 5] ?_ ?_ ?_ <;> (simp (disch := omega) only [go_sem, ezm, ezp, List.length_nil]; done))
  rintro ⟨⟨m, Y, ys⟩, t1, t2, t3, t4, he⟩
  dsimp only at t1 t2 t3 t4 he ⊢
  obtain ⟨m, rfl⟩ : ∃ m', m = m' + 1 := ⟨m - 1, by omega⟩
  have ct := sMay_ok Y k_process t1
  cases q : isS Y k_process
  ·rw [mayS_no q, q] at ct
   unfold procsFS at he
   rw [q, if_neg (by simp)] at he
   obtain ⟨rfl, rfl⟩ := Prod.mk.inj he
   simp (disch := omega) only [go_sem]
   have x1 : HH 7 (.ho [0, 1, 2] (opm 3 [1] [true] (opm 4 [1] [true] (opm 5 [] [false] (.ho [6] (opm 7 [] [] (.stop))))))) := ⟨⟩
   have x2 : HH 9 (.ho [0, 1, 2] (opm 3 [1] [true] (opm 4 [1] [true] (opm 5 [] [false] (.ho [6] (opm 7 [] [] (.stop))))))) := ⟨⟩
   have x3 : HH 13 (.ho [1, 2, 3, 4, 5, 6, 7, 8, 9] (opm 0 [8, 6, 5] [true, true, true] (opm 10 [8, 6, 5] [true, true, true] (.ho [11] (.stop))))) := ⟨⟩
   have x4 : HW 0 [0, 2, 4, 6, 7] [0, 1, 2, 3, 4, 5] := ⟨⟩
   have x5 : HB 0 _ := ⟨ct⟩
   exact wkz
  ·rw [mayS_yes q, q] at ct
   unfold procsFS at he
   rw [q, if_pos rfl] at he
   have a := is_advS t1 q
   have ap := a.pot
   have cm := sProcess_ok _ a.ok (by omega)
   obtain ⟨kk1, kk2, kk3, kk4⟩ := (kpS_proc a.ok).1.1
   have hsmm := (kpS_proc a.ok).2
   have hxc := isS_in q
   have hadv : advS Y = ⟨Y.list, Y.cur + 1, Y.bad, Y.nodes⟩ := rfl
   have hac : (advS Y).cur = Y.cur + 1 := rfl
   have hal : (advS Y).list = Y.list := rfl
   rw [hal] at kk2
   rw [hac] at kk3
   obtain ⟨⟨Y2, y⟩, hY2⟩ : ∃ x, procS (advS Y) = x := ⟨_, rfl⟩
   rw [hY2] at cm he kk1 kk2 kk3 kk4 hsmm
   dsimp only at cm he kk1 kk2 kk3 kk4 hsmm
   have kk5 : Y2.list.length ≤ Y.list.length := by rw [kk2]; exact Nat.le_refl _
   rw [hadv] at ct cm
   have pz : potS Y2 ≤ 5000 := by omega
   obtain ⟨b0, b1, b2⟩ := hsmm; obtain ⟨b1, -⟩ := b1; obtain ⟨b2, -⟩ := b2; obtain ⟨nm, us, vs, bd⟩ := y; dsimp only at b1 b2
   clear hadv hac hal hY2 kk2 a q kk4 ap t1
   simp (disch := omega) only [go_sem]
   have x1 : HH 7 (.ho [0, 1, 2] (opm 3 [1] [true] (opm 4 [1] [true] (opm 5 [] [false] (.ho [6] (opm 7 [] [] (.stop))))))) := ⟨⟩
   have x2 : HH 9 (.ho [0, 1, 2] (opm 3 [1] [true] (opm 4 [1] [true] (opm 5 [] [false] (.ho [6] (opm 7 [] [] (.stop))))))) := ⟨⟩
   have x3 : HH 13 (.ho [1, 2, 3, 4, 5, 6, 7, 8, 9] (opm 0 [8, 6, 5] [true, true, true] (opm 10 [8, 6, 5] [true, true, true] (.ho [11] (.stop))))) := ⟨⟩
   have x4 : HB 0 _ := ⟨ct⟩
   have x5 : HB 0 _ := ⟨cm⟩
   refine wkzr ?_
   intros
   all_goals refine ⟨⟨(m, Y2, ys ++ [⟨nm, us, vs, bd⟩]), kk1, pz, by dsimp only; omega, by simp only [List.length_append, List.length_singleton]; omega, he⟩, ?_, by simp only; omega⟩
   all_goals
    refine weak_folds (folds_appc 9 rfl (by with_reducible rfl) (by simp (disch := omega) only [go_sem])) ?_
    simp (disch := omega) only [go_sem]
    first | (refine wCn [0, 2, 4, 6, 7] [0, 1, 2, 3, 4, 9] ?_ ?_ ?_ <;> (simp (disch := omega) only [go_sem, processsT_app1, List.length_append, List.length_singleton]; done))
 clear hX1 hX2
 refine s_cut ⟨mkEnv 85 [(0, .one (sV z)), (2, .one (.ptr 0 0 0)), (4, .one (.ro 4 (signsD L))), (6, .one (.ptr 1 0 0)), (7, .one (.ptr 2 0 0))], [.live 3 [[.v nilV, .v nilV, .v nilV]], .live 4 [rsT X3], .live 3 [[.ref 3 0 0, .ref 4 0 MS.length, .ref 5 0 PS.length]], .live 6 [], .live 4 (monitorsT MS), .live 4 (processsT PS)]⟩ ?_ ?_
 ·clear hsm sp
  simp (disch := omega) only [go_sem]
  have x1 : HH 7 (.ho [0, 1, 2] (opm 3 [1] [true] (opm 4 [1] [true] (opm 5 [] [false] (.ho [6] (opm 7 [] [] (.stop))))))) := ⟨⟩
  have x2 : HH 9 (.ho [0, 1, 2] (opm 3 [1] [true] (opm 4 [1] [true] (opm 5 [] [false] (.ho [6] (opm 7 [] [] (.stop))))))) := ⟨⟩
  have x3 : HH 13 (.ho [1, 2, 3, 4, 5, 6, 7, 8, 9] (opm 0 [8, 6, 5] [true, true, true] (opm 10 [8, 6, 5] [true, true, true] (.ho [11] (.stop))))) := ⟨⟩
  have x4 : HW 0 [0, 2, 4, 6, 7] [0, 1, 2, 3, 4, 5] := ⟨⟩
  have x5 : HB 0 _ := ⟨cw⟩
  exact wkz
 clear cw
 obtain ⟨list, cur, bad, nodes⟩ := X3
 dsimp only at hsm ⊢
 cases q1 : decide ((cur : Int) < (L.length : Int))
 rotate_left
 ·have hq := of_decide_eq_true q1
  obtain ⟨e1, e2⟩ := sp cur (by omega)
  rw [Bool.or_true, if_pos rfl, if_pos rfl]
  dsimp only
  clear hsm sp
  refine s_of_a ?_
  cases bad
  all_goals
   simp (disch := omega) only [go_sem]
   have x1 := @programZ.eq_1
   have x2 : HH 7 (.ho [0, 1, 2] (opm 3 [1] [true] (opm 4 [1] [true] (opm 5 [] [false] (.ho [6] (opm 7 [] [] (.stop))))))) := ⟨⟩
   have x3 : HH 9 (.ho [0, 1, 2] (opm 3 [1] [true] (opm 4 [1] [true] (opm 5 [] [false] (.ho [6] (opm 7 [] [] (.stop))))))) := ⟨⟩
   have x4 : HH 13 (.ho [1, 2, 3, 4, 5, 6, 7, 8, 9] (opm 0 [8, 6, 5] [true, true, true] (opm 10 [8, 6, 5] [true, true, true] (.ho [11] (.stop))))) := ⟨⟩
   exact wk
 cases bad
 rotate_left
 ·rw [Bool.true_or, if_pos rfl, if_neg (by simp)]
  dsimp only
  clear hsm sp
  refine s_of_a ?_
  simp (disch := omega) only [go_sem]
  have x1 := @programZ.eq_1
  have x2 : HH 7 (.ho [0, 1, 2] (opm 3 [1] [true] (opm 4 [1] [true] (opm 5 [] [false] (.ho [6] (opm 7 [] [] (.stop))))))) := ⟨⟩
  have x3 : HH 9 (.ho [0, 1, 2] (opm 3 [1] [true] (opm 4 [1] [true] (opm 5 [] [false] (.ho [6] (opm 7 [] [] (.stop))))))) := ⟨⟩
  have x4 : HH 13 (.ho [1, 2, 3, 4, 5, 6, 7, 8, 9] (opm 0 [8, 6, 5] [true, true, true] (opm 10 [8, 6, 5] [true, true, true] (.ho [11] (.stop))))) := ⟨⟩
  exact wk
 rw [Bool.false_or, if_neg (by simp)]
 have cp := sProgram_ok _ (smP_tst hsm).sz (smP_nm hsm) hsm.nodes.2 (kidsIn_all _)
 have b1 := hsm.nodes.1
 dsimp only at b1
 clear hsm sp
 refine s_names (names_at 1 0 (rsT ⟨list, cur, false, nodes⟩) rfl (by with_reducible rfl) (by simp (disch := omega) only [go_sem])) ?_
 simp (disch := omega) only [go_sem]
 refine s_of_a ?_
 cases q2 : progS ⟨nodes, MS, PS⟩
 ·rw [q2] at cp
  rw [if_pos rfl]
  dsimp only
  try simp (disch := omega) only [go_sem]
  have x1 := @programZ.eq_1
  have x2 : HH 7 (.ho [0, 1, 2] (opm 3 [1] [true] (opm 4 [1] [true] (opm 5 [] [false] (.ho [6] (opm 7 [] [] (.stop))))))) := ⟨⟩
  have x3 : HH 9 (.ho [0, 1, 2] (opm 3 [1] [true] (opm 4 [1] [true] (opm 5 [] [false] (.ho [6] (opm 7 [] [] (.stop))))))) := ⟨⟩
  have x4 : HH 13 (.ho [1, 2, 3, 4, 5, 6, 7, 8, 9] (opm 0 [8, 6, 5] [true, true, true] (opm 10 [8, 6, 5] [true, true, true] (.ho [11] (.stop))))) := ⟨⟩
  exact wk
 ·rw [q2] at cp
  rw [if_neg (by simp)]
  dsimp only
  try simp (disch := omega) only [go_sem]
  have x1 : HH 7 (.ho [0, 1, 2] (opm 3 [1] [true] (opm 4 [1] [true] (opm 5 [] [false] (.ho [6] (opm 7 [] [] (.stop))))))) := ⟨⟩
  have x2 : HH 9 (.ho [0, 1, 2] (opm 3 [1] [true] (opm 4 [1] [true] (opm 5 [] [false] (.ho [6] (opm 7 [] [] (.stop))))))) := ⟨⟩
  have x3 : HH 13 (.ho [1, 2, 3, 4, 5, 6, 7, 8, 9] (opm 0 [8, 6, 5] [true, true, true] (opm 10 [8, 6, 5] [true, true, true] (.ho [11] (.stop))))) := ⟨⟩
  exact wk
theorem read_both (z : ByteArray) (hz : z.size ≤ 1048576) : readR progB z = readS progS z := by
 unfold readR readS
 split
 ·rfl
 ·rw [read_same progB hz (signsOf_sg z)]
  unfold outS
  simp only [prog_same]
end Go.Proofs.YtejnpiielcbkkaaGreat.E
