/- A part of what stands under the laws of this seat: an abstract evaluator that is proved sound, and contracts of functions by it. No condition beside those that stand in each statement. -/
import Derived.Test.YtejnpiielcbkkaaGreatZR24
set_option linter.unusedVariables false
set_option linter.unusedSimpArgs false
section
set_option maxRecDepth 100000
set_option maxHeartbeats 4000000
namespace Go.Proofs.YtejnpiielcbkkaaGreat.E
theorem ti73 : ti Tryz.prog 73 = some ⟨.st [(0, 1, false), (1, 1, false), (2, 1, false), (3, 1, false)], 4, 64, true, [.slice none 0 0, .int .i64 0, .bool false, .slice none 0 0]⟩ := by kernel_rfl
theorem ni73 : notInt Tryz.prog 73 = true := by kernel_rfl
attribute [go_sem] ti73 ni73
/-! ### The reference's reader -/
structure Rs where
  list : List Sign
  cur : Nat
  bad : Bool
  nodes : List Node
def rsT (s : Rs) : List T := [.ro 4 (signsD s.list), iV s.cur, bV s.bad, .own 6 (nodesT s.nodes)]
attribute [go_sem] rsT
structure RsOk (s : Rs) : Prop where
  len : s.list.length ≤ 500
  cur : s.cur ≤ s.list.length
  txt : ∀ y ∈ s.list, y.text.size ≤ 1048576
  nd : ∀ y ∈ s.nodes, smNode y
def curS (s : Rs) : Sign := s.list.getD s.cur signZ
def isS (s : Rs) (w : ByteArray) : Bool :=
 if s.bad = true then false
 else if decide ((s.cur : Int) < (s.list.length : Int)) = false then false
 else if seq (curS s).text w = false then false
 else ((curS s).kind != 2)
def advS (s : Rs) : Rs := ⟨s.list, s.cur + 1, s.bad, s.nodes⟩
def badS (s : Rs) : Rs := ⟨s.list, s.cur, true, s.nodes⟩
def mayS (s : Rs) (w : ByteArray) : Rs := if isS s w = true then advS s else s
def mustS (s : Rs) (w : ByteArray) : Rs := if isS s w = true then advS s else badS s
theorem isS_in {s : Rs} {w : ByteArray} (h : isS s w = true) : s.cur < s.list.length := by
 unfold isS at h
 split at h
 ·cases h
 ·split at h
  ·cases h
  ·rename_i hc
   have := of_decide_eq_true (by simpa using hc : decide ((s.cur : Int) < (s.list.length : Int)) = true)
   omega
theorem isS_good {s : Rs} {w : ByteArray} (h : isS s w = true) : s.bad = false := by
 unfold isS at h
 split at h
 ·cases h
 ·rename_i hb; simpa using hb
theorem isS_bad {s : Rs} {w : ByteArray} (h : s.bad = true) : isS s w = false := by unfold isS; rw [if_pos h]
theorem advS_ok {s : Rs} (h : RsOk s) (hc : s.cur < s.list.length) : RsOk (advS s) := ⟨h.len, hc, h.txt, h.nd⟩
theorem badS_ok {s : Rs} (h : RsOk s) : RsOk (badS s) := ⟨h.len, h.cur, h.txt, h.nd⟩
theorem mayS_yes {s : Rs} {w : ByteArray} (h : isS s w = true) : mayS s w = advS s := by unfold mayS; rw [if_pos h]
theorem mayS_no {s : Rs} {w : ByteArray} (h : isS s w = false) : mayS s w = s := by unfold mayS; rw [if_neg (by rw [h]; simp)]
theorem mustS_ok {s : Rs} {w : ByteArray} (h : RsOk s) : RsOk (mustS s w) := by
 unfold mustS
 split
 ·rename_i hi; exact advS_ok h (isS_in hi)
 ·exact badS_ok h
theorem sIs_ok (s : Rs) (w : ByteArray) (h : RsOk s) : CallOk Tryz.prog 81 [.one (.box (rsT s)), .one (sV w)] (.s (.one (bV (isS s w)))) [some (.box (rsT s)), none] := by
 obtain ⟨list, cur, bad, nodes⟩ := s
 obtain ⟨h1, h2, -, -⟩ := h
 dsimp only at h1 h2
 have hi : isS ⟨list, cur, bad, nodes⟩ w = if bad = true then false else if decide ((cur : Int) < (list.length : Int)) = false then false else if seq (list.getD cur signZ).text w = false then false else ((list.getD cur signZ).kind != 2) := rfl
 rw [hi]
 clear hi
 cases bad
 ·cases hc : decide ((cur : Int) < (list.length : Int))
  ·rw [if_neg (by simp), if_pos rfl]
   refine cOh 40 (hBd Tryz.func81 rfl (by kernel_rfl) ?_)
   simp (disch := omega) only [go_sem, Tryz.ntmps81, Tryz.results81]
   have x1 : HT 1 (.fr [0, 1, 2, 3, 4, 5, 6, 7, 8, 9, 10, 11, 12, 13, 14, 15, 16, 17, 18, 19, 20, 21, 22, 23, 24, 25, 26, 27, 28, 29, 30, 31, 32, 33, 34, 35, 36, 37, 38, 39, 40, 41, 42, 43, 44, 45, 46] (.stop)) := ⟨⟩
   have x2 : HF 0 99 := ⟨⟩
   exact wksf
  ·have hc' := of_decide_eq_true hc
   rw [if_neg (by simp), if_neg (by simp)]
   cases hs : seq (list.getD cur signZ).text w
   ·rw [if_pos rfl]
    refine cOh 40 (hBd Tryz.func81 rfl (by kernel_rfl) ?_)
    simp (disch := omega) only [go_sem, Tryz.ntmps81, Tryz.results81]
    have x1 : HT 1 (.fr [0, 1, 2, 3, 4, 5, 6, 7, 8, 9, 10, 11, 12, 13, 14, 15, 16, 17, 18, 19, 20, 21, 22, 23, 24, 25, 26, 27, 28, 29, 30, 31, 32, 33, 34, 35, 36, 37, 38, 39, 40, 41, 42, 43, 44, 45, 46] (.stop)) := ⟨⟩
    have x2 : HF 0 99 := ⟨⟩
    exact wksf
   ·rw [if_neg (by simp)]
    refine cOh 40 (hBd Tryz.func81 rfl (by kernel_rfl) ?_)
    simp (disch := omega) only [go_sem, Tryz.ntmps81, Tryz.results81]
    have x1 : HT 1 (.fr [0, 1, 2, 3, 4, 5, 6, 7, 8, 9, 10, 11, 12, 13, 14, 15, 16, 17, 18, 19, 20, 21, 22, 23, 24, 25, 26, 27, 28, 29, 30, 31, 32, 33, 34, 35, 36, 37, 38, 39, 40, 41, 42, 43, 44, 45, 46] (.stop)) := ⟨⟩
    have x2 : HF 0 99 := ⟨⟩
    exact wksf
 ·rw [if_pos rfl]
  refine cOh 40 (hBd Tryz.func81 rfl (by kernel_rfl) ?_)
  simp (disch := omega) only [go_sem, Tryz.ntmps81, Tryz.results81]
  have x1 : HT 1 (.fr [0, 1, 2, 3, 4, 5, 6, 7, 8, 9, 10, 11, 12, 13, 14, 15, 16, 17, 18, 19, 20, 21, 22, 23, 24, 25, 26, 27, 28, 29, 30, 31, 32, 33, 34, 35, 36, 37, 38, 39, 40, 41, 42, 43, 44, 45, 46] (.stop)) := ⟨⟩
  have x2 : HF 0 99 := ⟨⟩
  exact wksf
theorem sMay_ok (s : Rs) (w : ByteArray) (h : RsOk s) : CallOk Tryz.prog 23 [.one (.box (rsT s)), .one (sV w)] (.s (.one (bV (isS s w)))) [some (.box (rsT (mayS s w))), none] := by
 have hi := sIs_ok s w h
 have hin := isS_in (s := s) (w := w)
 have hl := h.len
 have ht : mayS s w = if isS s w = true then advS s else s := rfl
 cases hq : isS s w
 all_goals
  rw [hq] at hi ht hin
  simp only [Bool.false_eq_true, if_false, if_true] at ht
  rw [ht]
  clear ht
  first | replace hin := hin rfl | clear hin
  refine cOh 40 (hBd Tryz.func23 rfl (by kernel_rfl) ?_)
  simp (disch := omega) only [go_sem, Tryz.ntmps23, Tryz.results23]
  have x1 := @advS.eq_1
  have x2 : HF 0 99 := ⟨⟩
  have x3 : HB 0 _ := ⟨hi⟩
  exact wksf
theorem sMust_ok (s : Rs) (w : ByteArray) (h : RsOk s) : CallOk Tryz.prog 26 [.one (.box (rsT s)), .one (sV w)] (.tup []) [some (.box (rsT (mustS s w))), none] := by
 have hi := sMay_ok s w h
 have ht : mustS s w = if isS s w = true then advS s else badS s := rfl
 cases hq : isS s w
 ·rw [mayS_no hq, hq] at hi
  rw [ht, hq, if_neg (by simp)]
  clear ht
  refine cOh 40 (hBd Tryz.func26 rfl (by kernel_rfl) ?_)
  simp (disch := omega) only [go_sem, Tryz.ntmps26, Tryz.results26]
  have x1 := @badS.eq_1
  have x2 : HF 0 99 := ⟨⟩
  have x3 : HB 0 _ := ⟨hi⟩
  exact wksf
 ·rw [mayS_yes hq, hq] at hi
  rw [ht, hq, if_pos rfl]
  clear ht
  refine cOh 40 (hBd Tryz.func26 rfl (by kernel_rfl) ?_)
  simp (disch := omega) only [go_sem, Tryz.ntmps26, Tryz.results26]
  have x1 : HF 0 99 := ⟨⟩
  have x2 : HB 0 _ := ⟨hi⟩
  exact wksf
end Go.Proofs.YtejnpiielcbkkaaGreat.E
end
section
set_option maxRecDepth 100000
set_option maxHeartbeats 4000000
namespace Go.Proofs.YtejnpiielcbkkaaGreat.E
/-! A name, a node. -/
def nameS (s : Rs) : Rs × ByteArray :=
 if s.bad = true then (badS s, noB)
 else if decide ((s.list.length : Int) ≤ (s.cur : Int)) = true then (badS s, noB)
 else if ((curS s).kind != 1) = true then (badS s, noB)
 else if nameOk (curS s).text = false then (badS s, noB)
 else (advS s, (curS s).text)
def putS (s : Rs) (n : Node) : Rs × Int := if s.bad = true then (s, 0) else (⟨s.list, s.cur, s.bad, s.nodes ++ [n]⟩, (s.nodes.length : Int))
theorem sName_ok (s : Rs) (h : RsOk s) : CallOk Tryz.prog 82 [.one (.box (rsT s))] (.s (.one (sV (nameS s).2))) [some (.box (rsT (nameS s).1))] := by
 obtain ⟨list, cur, bad, nodes⟩ := s
 obtain ⟨h1, h2, h3, -⟩ := h
 dsimp only at h1 h2 h3
 have hi : nameS ⟨list, cur, bad, nodes⟩ = if bad = true then (⟨list, cur, true, nodes⟩, noB) else if decide ((list.length : Int) ≤ (cur : Int)) = true then (⟨list, cur, true, nodes⟩, noB) else if ((list.getD cur signZ).kind != 1) = true then (⟨list, cur, true, nodes⟩, noB) else if nameOk (list.getD cur signZ).text = false then (⟨list, cur, true, nodes⟩, noB) else (⟨list, cur + 1, bad, nodes⟩, (list.getD cur signZ).text) := rfl
 rw [hi]
 clear hi
 cases bad
 ·rw [if_neg (by simp)]
  cases hc : decide ((list.length : Int) ≤ (cur : Int))
  ·have hc' := of_decide_eq_false hc
   have hm : list.getD cur signZ ∈ list := by rw [List.getD_eq_getElem?_getD, List.getElem?_eq_getElem (by omega)]; exact List.getElem_mem (by omega)
   have hts := h3 _ hm
   have hno := sNameOk_ok (list.getD cur signZ).text hts
   have e1 : (cur : Int) + 1 - 1 = (cur : Int) := by omega
   clear h3 hm
   rw [if_neg (by simp)]
   cases hk : ((list.getD cur signZ).kind != 1)
   ·rw [if_neg (by simp)]
    cases hn : nameOk (list.getD cur signZ).text
    ·rw [hn] at hno
     rw [if_pos rfl]
     dsimp only
     refine cOh 40 (hBd Tryz.func82 rfl (by kernel_rfl) ?_)
     simp (disch := omega) only [go_sem, Tryz.ntmps82, Tryz.results82]
     have x1 : HT 1 (.fr [0, 1, 2, 3, 4, 5, 6, 7, 8, 9, 10, 11, 12, 13, 14, 15, 16, 17, 18, 19, 20, 21, 22, 23, 24, 25, 26, 27, 28, 29, 30, 31, 32, 33, 34, 35, 36, 37, 38, 39, 40, 41] (.op [42] (.fr [43, 44] (.stop)))) := ⟨⟩
     have x2 : HT 5 (.fr [0, 1, 2, 3, 4, 5, 6, 7, 8, 9, 10, 11, 12] (.stop)) := ⟨⟩
     have x3 : HF 0 99 := ⟨⟩
     exact wksf
    ·rw [hn] at hno
     rw [if_neg (by simp)]
     dsimp only
     refine cOh 40 (hBd Tryz.func82 rfl (by kernel_rfl) ?_)
     simp (disch := omega) only [go_sem, Tryz.ntmps82, Tryz.results82]
     have x1 : HT 1 (.fr [0, 1, 2, 3, 4, 5, 6, 7, 8, 9, 10, 11, 12, 13, 14, 15, 16, 17, 18, 19, 20, 21, 22, 23, 24, 25, 26, 27, 28, 29, 30, 31, 32, 33, 34, 35, 36, 37, 38, 39, 40, 41] (.op [42] (.fr [43, 44] (.stop)))) := ⟨⟩
     have x2 : HT 5 (.fr [0, 1, 2, 3, 4, 5, 6, 7, 8, 9, 10, 11, 12] (.stop)) := ⟨⟩
     have x3 : HF 0 99 := ⟨⟩
     exact wksf
   ·rw [if_pos rfl]
    dsimp only
    refine cOh 40 (hBd Tryz.func82 rfl (by kernel_rfl) ?_)
    simp (disch := omega) only [go_sem, Tryz.ntmps82, Tryz.results82]
    have x1 : HT 1 (.fr [0, 1, 2, 3, 4, 5, 6, 7, 8, 9, 10, 11, 12, 13, 14, 15, 16, 17, 18, 19, 20, 21, 22, 23, 24, 25, 26, 27, 28, 29, 30, 31, 32, 33, 34, 35, 36, 37, 38, 39, 40, 41] (.op [42] (.fr [43, 44] (.stop)))) := ⟨⟩
    have x2 : HT 5 (.fr [0, 1, 2, 3, 4, 5, 6, 7, 8, 9, 10, 11, 12] (.stop)) := ⟨⟩
    have x3 : HF 0 99 := ⟨⟩
    exact wksf
  ·rw [if_pos rfl]
   dsimp only
   refine cOh 40 (hBd Tryz.func82 rfl (by kernel_rfl) ?_)
   simp (disch := omega) only [go_sem, Tryz.ntmps82, Tryz.results82]
   have x1 : HT 1 (.fr [0, 1, 2, 3, 4, 5, 6, 7, 8, 9, 10, 11, 12, 13, 14, 15, 16, 17, 18, 19, 20, 21, 22, 23, 24, 25, 26, 27, 28, 29, 30, 31, 32, 33, 34, 35, 36, 37, 38, 39, 40, 41] (.op [42] (.fr [43, 44] (.stop)))) := ⟨⟩
   have x2 : HT 5 (.fr [0, 1, 2, 3, 4, 5, 6, 7, 8, 9, 10, 11, 12] (.stop)) := ⟨⟩
   have x3 : HF 0 99 := ⟨⟩
   exact wksf
 ·rw [if_pos rfl]
  dsimp only
  refine cOh 40 (hBd Tryz.func82 rfl (by kernel_rfl) ?_)
  simp (disch := omega) only [go_sem, Tryz.ntmps82, Tryz.results82]
  have x1 : HT 1 (.fr [0, 1, 2, 3, 4, 5, 6, 7, 8, 9, 10, 11, 12, 13, 14, 15, 16, 17, 18, 19, 20, 21, 22, 23, 24, 25, 26, 27, 28, 29, 30, 31, 32, 33, 34, 35, 36, 37, 38, 39, 40, 41] (.op [42] (.fr [43, 44] (.stop)))) := ⟨⟩
  have x2 : HT 5 (.fr [0, 1, 2, 3, 4, 5, 6, 7, 8, 9, 10, 11, 12] (.stop)) := ⟨⟩
  have x3 : HF 0 99 := ⟨⟩
  exact wksf
theorem sPut_ok (s : Rs) (n : Node) (hN : s.nodes.length ≤ 1073741824) (hk : n.kids.length ≤ 1048576) : CallOk Tryz.prog 163 [.one (.box (rsT s)), .agg (nodeT n)] (.s (.one (iV (putS s n).2))) [some (.box (rsT (putS s n).1)), none] := by
 obtain ⟨list, cur, bad, nodes⟩ := s
 obtain ⟨kind, num, name, more, to, kids⟩ := n
 dsimp only at hN hk
 have hp : putS ⟨list, cur, bad, nodes⟩ ⟨kind, num, name, more, to, kids⟩ = if bad = true then (⟨list, cur, bad, nodes⟩, 0) else (⟨list, cur, bad, nodes ++ [⟨kind, num, name, more, to, kids⟩]⟩, (nodes.length : Int)) := rfl
 rw [hp]
 clear hp
 have e1 : (nodes.length : Int) + 1 - 1 = (nodes.length : Int) := by omega
 cases bad
 ·rw [if_neg (by simp)]
  dsimp only
  refine callOk_of_hcallF 40 ?_
  simp (disch := omega) only [go_sem]
  refine hcall_names (names_at 0 0 (rsT ⟨list, cur, false, nodes⟩) rfl (by with_reducible rfl) (by simp (disch := omega) only [go_sem])) ?_
  simp (disch := omega) only [go_sem]
  refine hBd Tryz.func163 rfl (by kernel_rfl) ?_
  simp (disch := omega) only [go_sem, Tryz.ntmps163, Tryz.results163]
  repeat' (first | (with_reducible first | refine i_seq ?_ | exact th_none | refine i_th (id := 3) (.ho [0, 1, 2, 3, 4, 5] (opm 6 [4] [false, true] (opm 7 [] [false] (.ho [8, 9] (opm 10 [] [] (.stop)))))) mixedT (by kernel_rfl) (fun Q' hQ => ?_)) | ((first | (with_reducible first | refine iBk ?_ | refine iRQ (fun Q' hQ => ?_) | (refine Imp.go hQ ?_; clear hQ) | refine th_ho ?_ | refine th_stop ?_ ?_ | refine th_opm ?_ (by kernel_rfl) (aLr ?_) | refine th_altm ?_ (by kernel_rfl) (aLr ?_) ?_) | ((with_reducible refine i_condT ?_ ?_); (focus (simp only [go_sem, *]; done))) | ((with_reducible refine i_condF ?_ ?_); (focus (simp only [go_sem, *]; done))) | ((with_reducible first | refine rOg (fun h => ?_) (fun h => ?_) | refine i_cond (by simp only [go_sem, *] <;> rfl) (fun h => ?_) (fun h => ?_)) <;> (try simp only [nqA, nqB, nqC, reduceCtorEq] at h) <;> (try have h' := odT h) <;> (try (have hz : (_ : Int) = (_ : Int) := h'; clear hz h')) <;> (try have h' := odF h) <;> (try have h' := inB_t h) <;> (try (exfalso; omega)))) <;> (try simp (disch := first | omega | (simp only [sAp, size_mk, List.size_toArray, List.length_cons, List.length_nil]; omega)) only [go_sem, nodesT_app1, e1, List.length_append, List.length_singleton, reduceCtorEq, *])) | ((first | apply hFo | apply endF_folds); (focus (refine folds_appc 5 rfl (by with_reducible rfl) ?_; (focus (simp (disch := omega) only [go_sem]; done)))); (try simp (disch := first | omega | (simp only [sAp, size_mk, List.size_toArray, List.length_cons, List.length_nil]; omega)) only [go_sem, nodesT_app1, e1, List.length_append, List.length_singleton, reduceCtorEq, *])) | ((first | apply hFo | apply endF_folds); (focus ((first | refine folds_setc 99 rfl (by with_reducible rfl) ?_ ?_); (focus (simp (disch := omega) only [go_sem]; done)); (focus (first | omega | (simp (disch := omega) only [go_sem]; omega))))); (try simp (disch := first | omega | (simp only [sAp, size_mk, List.size_toArray, List.length_cons, List.length_nil]; omega)) only [go_sem, nodesT_app1, e1, List.length_append, List.length_singleton, reduceCtorEq, *])))
  all_goals (try (with_reducible refine endF_k ?_))
  all_goals (try simp (disch := omega) only [EndK, go_sem, nodesT_app1, e1, List.length_append, List.length_singleton, reduceCtorEq, nLo, *])
 ·rw [if_pos rfl]
  dsimp only
  refine callOk_of_hcallF 40 ?_
  simp (disch := omega) only [go_sem]
  refine hcall_names (names_at 0 0 (rsT ⟨list, cur, true, nodes⟩) rfl (by with_reducible rfl) (by simp (disch := omega) only [go_sem])) ?_
  simp (disch := omega) only [go_sem]
  refine hBd Tryz.func163 rfl (by kernel_rfl) ?_
  simp (disch := omega) only [go_sem, Tryz.ntmps163, Tryz.results163]
  repeat' (first | (with_reducible first | refine i_seq ?_ | exact th_none | refine i_th (id := 3) (.ho [0, 1, 2, 3, 4, 5] (opm 6 [4] [false, true] (opm 7 [] [false] (.ho [8, 9] (opm 10 [] [] (.stop)))))) mixedT (by kernel_rfl) (fun Q' hQ => ?_)) | ((first | (with_reducible first | refine iBk ?_ | refine iRQ (fun Q' hQ => ?_) | (refine Imp.go hQ ?_; clear hQ) | refine th_ho ?_ | refine th_stop ?_ ?_ | refine th_opm ?_ (by kernel_rfl) (aLr ?_) | refine th_altm ?_ (by kernel_rfl) (aLr ?_) ?_) | ((with_reducible refine i_condT ?_ ?_); (focus (simp only [go_sem, *]; done))) | ((with_reducible refine i_condF ?_ ?_); (focus (simp only [go_sem, *]; done))) | ((with_reducible first | refine rOg (fun h => ?_) (fun h => ?_) | refine i_cond (by simp only [go_sem, *] <;> rfl) (fun h => ?_) (fun h => ?_)) <;> (try simp only [nqA, nqB, nqC, reduceCtorEq] at h) <;> (try have h' := odT h) <;> (try (have hz : (_ : Int) = (_ : Int) := h'; clear hz h')) <;> (try have h' := odF h) <;> (try have h' := inB_t h) <;> (try (exfalso; omega)))) <;> (try simp (disch := first | omega | (simp only [sAp, size_mk, List.size_toArray, List.length_cons, List.length_nil]; omega)) only [go_sem, reduceCtorEq, *])) | ((first | apply hFo | apply endF_folds); (focus (refine folds_appc 5 rfl (by with_reducible rfl) ?_; (focus (simp (disch := omega) only [go_sem]; done)))); (try simp (disch := first | omega | (simp only [sAp, size_mk, List.size_toArray, List.length_cons, List.length_nil]; omega)) only [go_sem, reduceCtorEq, *])) | ((first | apply hFo | apply endF_folds); (focus ((first | refine folds_setc 99 rfl (by with_reducible rfl) ?_ ?_); (focus (simp (disch := omega) only [go_sem]; done)); (focus (first | omega | (simp (disch := omega) only [go_sem]; omega))))); (try simp (disch := first | omega | (simp only [sAp, size_mk, List.size_toArray, List.length_cons, List.length_nil]; omega)) only [go_sem, reduceCtorEq, *])))
  all_goals (try (with_reducible refine endF_k ?_))
  all_goals (try simp (disch := omega) only [EndK, go_sem, reduceCtorEq, nLo, *])
end Go.Proofs.YtejnpiielcbkkaaGreat.E
end
section
set_option maxRecDepth 100000
set_option maxHeartbeats 4000000
namespace Go.Proofs.YtejnpiielcbkkaaGreat.E
/-! One of some operations. -/
def opN : List ByteArray → Rs → Int → Rs × Int
 | [], s, _ => (s, 0)
 | x :: xs, s, f => if isS s x = true then (advS s, f) else opN xs s (f + 1)
theorem opN_drop {L : List ByteArray} {s : Rs} {f : Int} {k : Nat} (h : k < L.length) : opN (L.drop k) s f = if isS s (L.getD k ByteArray.empty) = true then (advS s, f) else opN (L.drop (k + 1)) s (f + 1) := by
 rw [List.drop_eq_getElem_cons h]
 show (if isS s L[k] = true then (advS s, f) else opN (L.drop (k + 1)) s (f + 1)) = _
 rw [List.getD_eq_getElem?_getD, List.getElem?_eq_getElem h]
 rfl
def potS (s : Rs) : Nat := s.nodes.length + 4 * (s.list.length - s.cur)
def KeepS (s s' : Rs) : Prop := RsOk s' ∧ s'.list = s.list ∧ s.cur ≤ s'.cur ∧ potS s' ≤ potS s
theorem KeepS.refl {s : Rs} (h : RsOk s) : KeepS s s := ⟨h, rfl, Nat.le_refl _, Nat.le_refl _⟩
theorem KeepS.trans {a b c : Rs} (h : KeepS a b) (g : KeepS b c) : KeepS a c := ⟨g.1, g.2.1.trans h.2.1, Nat.le_trans h.2.2.1 g.2.2.1, Nat.le_trans g.2.2.2 h.2.2.2⟩
theorem KeepS.left {n : Nat} {a b : Rs} (h : KeepS a b) (hn : a.list.length - a.cur < n) : b.list.length - b.cur < n := by
 have h1 := h.2.1
 have h2 := h.2.2.1
 rw [h1]; omega
theorem potS_adv {s : Rs} (h : s.cur < s.list.length) : potS (advS s) + 4 = potS s := by
 show s.nodes.length + 4 * (s.list.length - (s.cur + 1)) + 4 = s.nodes.length + 4 * (s.list.length - s.cur)
 omega
theorem bad_keepS {s : Rs} (h : RsOk s) : KeepS s (badS s) := ⟨badS_ok h, rfl, Nat.le_refl _, Nat.le_refl _⟩
theorem adv_keepS {s : Rs} (h : RsOk s) (hc : s.cur < s.list.length) : KeepS s (advS s) := ⟨advS_ok h hc, rfl, Nat.le_succ _, by have := potS_adv hc; omega⟩
theorem must_keepS {s : Rs} {w : ByteArray} (h : RsOk s) : KeepS s (mustS s w) := by
 unfold mustS
 split
 ·rename_i hi; exact adv_keepS h (isS_in hi)
 ·exact bad_keepS h
theorem name_keepS {s : Rs} (h : RsOk s) : KeepS s (nameS s).1 := by
 unfold nameS
 split
 ·exact bad_keepS h
 ·split
  ·exact bad_keepS h
  ·rename_i hc
   split
   ·exact bad_keepS h
   ·split
    ·exact bad_keepS h
    ·refine adv_keepS h ?_
     have := of_decide_eq_false (by simpa using hc : decide ((s.list.length : Int) ≤ (s.cur : Int)) = false)
     omega
/-- A name is bad, or takes a sign. -/
theorem name_rightS {s : Rs} (h : RsOk s) : (nameS s).1.bad = true ∨ potS (nameS s).1 + 4 = potS s := by
 unfold nameS
 split
 ·exact .inl rfl
 ·split
  ·exact .inl rfl
  ·rename_i hc
   split
   ·exact .inl rfl
   ·split
    ·exact .inl rfl
    ·refine .inr (potS_adv ?_)
     have := of_decide_eq_false (by simpa using hc : decide ((s.list.length : Int) ≤ (s.cur : Int)) = false)
     omega
theorem name_smS {s : Rs} (h : RsOk s) : (nameS s).2.size ≤ 1048576 := by
 have hz : (noB : ByteArray).size ≤ 1048576 := Nat.zero_le _
 unfold nameS
 split
 ·exact hz
 ·split
  ·exact hz
  ·rename_i hc
   split
   ·exact hz
   ·split
    ·exact hz
    ·have hl : s.cur < s.list.length := by
      have := of_decide_eq_false (by simpa using hc : decide ((s.list.length : Int) ≤ (s.cur : Int)) = false)
      omega
     refine h.txt _ ?_
     show s.list.getD s.cur signZ ∈ s.list
     rw [List.getD_eq_getElem?_getD, List.getElem?_eq_getElem hl]
     exact List.getElem_mem hl
theorem smN {k num : Int} {ks : List Int} (h : ks.length ≤ 1048576) : smNode ⟨k, num, noB, noB, noB, ks⟩ := ⟨Nat.zero_le _, Nat.zero_le _, Nat.zero_le _, h⟩
theorem smN1 {k num : Int} {b : ByteArray} {ks : List Int} (hb : b.size ≤ 1048576) (h : ks.length ≤ 1048576) : smNode ⟨k, num, b, noB, noB, ks⟩ := ⟨hb, Nat.zero_le _, Nat.zero_le _, h⟩
theorem putS_ok {s : Rs} {n : Node} (hs : smNode n) (h : RsOk s) : RsOk (putS s n).1 := by
 unfold putS
 split
 ·exact h
 ·refine ⟨h.len, h.cur, h.txt, fun y hy => ?_⟩
  rcases List.mem_append.1 hy with hy | hy
  ·exact h.nd y hy
  ·rw [List.mem_singleton] at hy; rw [hy]; exact hs
theorem put_keepS {a b : Rs} {n : Node} (hs : smNode n) (h : RsOk b) (hl : b.list = a.list) (hc : a.cur ≤ b.cur) (hp : b.bad = true ∨ potS b + 1 ≤ potS a) (hp2 : potS b ≤ potS a) : KeepS a (putS b n).1 := by
 refine ⟨putS_ok hs h, ?_, ?_, ?_⟩
 ·unfold putS; split <;> exact hl
 ·unfold putS; split <;> exact hc
 ·unfold putS
  split
  ·exact hp2
  ·rename_i hb
   rcases hp with hp | hp
   ·exact absurd hp hb
   ·show (b.nodes ++ [n]).length + 4 * (b.list.length - b.cur) ≤ _
    rw [List.length_append, List.length_singleton]
    unfold potS at hp ⊢
    omega
theorem op_keepS {L : List ByteArray} : ∀ {s : Rs} {f : Int}, RsOk s → KeepS s (opN L s f).1 ∧ ((opN L s f).2 ≠ 0 → s.cur < s.list.length ∧ (opN L s f).1 = advS s) := by
 induction L with
 | nil => intro s f h; exact ⟨KeepS.refl h, fun h0 => absurd rfl h0⟩
 | cons x xs ih =>
  intro s f h
  unfold opN
  split
  ·rename_i hi; exact ⟨adv_keepS h (isS_in hi), fun _ => ⟨isS_in hi, rfl⟩⟩
  ·exact ih h
theorem opN_bd {L : List ByteArray} : ∀ {s : Rs} {f : Int}, 0 ≤ f → 0 ≤ (opN L s f).2 ∧ (opN L s f).2 ≤ f + L.length := by
 induction L with
 | nil => intro s f h; exact ⟨Int.le_refl _, by show (0 : Int) ≤ f + 0; omega⟩
 | cons x xs ih =>
  intro s f h
  unfold opN
  have := ih (s := s) (f := f + 1) (by omega)
  have e : ((x :: xs).length : Int) = (xs.length : Int) + 1 := by simp
  split
  ·refine ⟨h, ?_⟩; dsimp only; omega
  ·omega
theorem sOp_ok (s : Rs) (L : List ByteArray) (from_ : Int) (h : RsOk s) (hL : L.length ≤ 1000) (hf : 0 ≤ from_ ∧ from_ ≤ 1000) : CallOk Tryz.prog 255 [.one (.box (rsT s)), .one (.own 1 (strsT L)), .one (iV from_)] (.s (.one (iV (opN L s from_).2))) [some (.box (rsT (opN L s from_).1)), none, none] := by
 obtain ⟨⟨RR, RK⟩, hRES⟩ : ∃ x, opN L s from_ = x := ⟨_, rfl⟩
 rw [hRES]
 dsimp only
 refine cOh 40 (hBd Tryz.func255 rfl (by kernel_rfl) ?_)
 simp (disch := omega) only [go_sem, Tryz.ntmps255, Tryz.results255]
 repeat' (first | (with_reducible first | refine i_seq ?_) | ((first | (with_reducible first | refine iBk ?_ | refine iRQ (fun Q' hQ => ?_) | (refine Imp.go hQ ?_; clear hQ)) | ((with_reducible refine i_condT ?_ ?_); (focus (simp only [go_sem, *]; done))) | ((with_reducible refine i_condF ?_ ?_); (focus (simp only [go_sem, *]; done))) | ((with_reducible first | refine rOg (fun h => ?_) (fun h => ?_) | refine i_cond (by simp only [go_sem, *] <;> rfl) (fun h => ?_) (fun h => ?_)) <;> (try simp only [nqA, nqB, nqC, reduceCtorEq] at h) <;> (try have h' := odT h) <;> (try (have hz : (_ : Int) = (_ : Int) := h'; clear hz h')) <;> (try have h' := odF h) <;> (try have h' := inB_t h) <;> (try (exfalso; omega)))) <;> (try simp (disch := first | omega | (simp only [sAp, size_mk, List.size_toArray, List.length_cons, List.length_nil]; omega)) only [go_sem, reduceCtorEq, *])) | ((first | apply hFo | apply endF_folds); (focus ((first | refine folds_setc 99 rfl (by with_reducible rfl) ?_ ?_); (focus (simp (disch := omega) only [go_sem]; done)); (focus (first | omega | (simp (disch := omega) only [go_sem]; omega))))); (try simp (disch := first | omega | (simp only [sAp, size_mk, List.size_toArray, List.length_cons, List.length_nil]; omega)) only [go_sem, reduceCtorEq, *])))
 all_goals (try (with_reducible refine endF_k ?_))
 all_goals (try simp (disch := omega) only [EndK, go_sem, reduceCtorEq, nLo, *])
 refine i_loop (α := {k : Nat // k ≤ L.length ∧ opN (L.drop k) s (from_ + k) = (RR, RK)}) (fun k => ⟨mkEnv 23 [(0, .one (.ptr 0 0 0)), (1, .one (.ref 1 0 L.length)), (2, .one (iV from_)), (7, .one (iV k.1))], [.live 4 [rsT s], .live 1 (strsT L)]⟩) (fun k => L.length - k.1) ⟨0, by omega, by simpa using hRES⟩ ?_ ?_
 ·first | exact wc [0, 1, 2, 7] []
 rintro ⟨k, hk, he⟩
 dsimp only at hk he ⊢
 clear hRES
 by_cases hkl : k < L.length
 ·have d1 : decide ((k : Int) < (L.length : Int)) = true := decide_eq_true (by omega)
  have hm := sMay_ok s (L.getD k ByteArray.empty) h
  rw [opN_drop hkl] at he
  cases hq : isS s (L.getD k ByteArray.empty)
  ·rw [mayS_no hq, hq] at hm
   rw [hq, if_neg (by simp)] at he
   simp (disch := omega) only [go_sem]
   repeat' (first | (with_reducible first | refine i_seq ?_) | ((first | (with_reducible first | refine iBk ?_ | refine iRQ (fun Q' hQ => ?_) | (refine Imp.go hQ ?_; clear hQ)) | ((with_reducible refine i_condT ?_ ?_); (focus (simp only [go_sem, *]; done))) | ((with_reducible refine i_condF ?_ ?_); (focus (simp only [go_sem, *]; done))) | ((with_reducible first | refine rOg (fun h => ?_) (fun h => ?_) | refine i_cond (by simp only [go_sem, *] <;> rfl) (fun h => ?_) (fun h => ?_)) <;> (try simp only [nqA, nqB, nqC, reduceCtorEq] at h) <;> (try have h' := odT h) <;> (try (have hz : (_ : Int) = (_ : Int) := h'; clear hz h')) <;> (try have h' := odF h) <;> (try have h' := inB_t h) <;> (try (exfalso; omega))) | (((with_reducible refine hcO 40 false (hm) ?_ ?_ ?_ ?_ ?_); iterate 4 (focus (simp (disch := omega) only [go_sem, d1, reduceCtorEq, nLo]; done))); simp only [go_sem, d1, reduceCtorEq]; refine aLr ?_)) <;> (try simp (disch := first | omega | (simp only [sAp, size_mk, List.size_toArray, List.length_cons, List.length_nil]; omega)) only [go_sem, d1, reduceCtorEq, *])) | ((first | apply hFo | apply endF_folds); (focus ((first | refine folds_setc 99 rfl (by with_reducible rfl) ?_ ?_); (focus (simp (disch := omega) only [go_sem]; done)); (focus (first | omega | (simp (disch := omega) only [go_sem]; omega))))); (try simp (disch := first | omega | (simp only [sAp, size_mk, List.size_toArray, List.length_cons, List.length_nil]; omega)) only [go_sem, d1, reduceCtorEq, *])))
   all_goals (try (with_reducible refine endF_k ?_))
   all_goals (try simp (disch := omega) only [EndK, go_sem, d1, reduceCtorEq, nLo, *])
   all_goals refine ⟨⟨k + 1, by omega, by rw [← he]; congr 1; omega⟩, ?_, by simp only; omega⟩
   all_goals first | exact wc [0, 1, 2, 7] []
  ·rw [mayS_yes hq, hq] at hm
   rw [hq, if_pos rfl] at he
   obtain ⟨rfl, rfl⟩ := Prod.mk.inj he
   simp (disch := omega) only [go_sem]
   have x1 : HF 0 99 := ⟨⟩
   have x2 : HB 0 _ := ⟨hm⟩
   exact wksf
 ·have d1 : decide ((k : Int) < (L.length : Int)) = false := decide_eq_false (by omega)
  have ek : L.drop k = [] := List.drop_eq_nil_of_le (by omega)
  rw [ek] at he
  obtain ⟨rfl, rfl⟩ := Prod.mk.inj (show (s, (0 : Int)) = (RR, RK) from he)
  simp (disch := omega) only [go_sem]
  have x1 : HF 0 99 := ⟨⟩
  exact wksf
end Go.Proofs.YtejnpiielcbkkaaGreat.E
end
section
set_option maxRecDepth 100000
set_option maxHeartbeats 4000000
namespace Go.Proofs.YtejnpiielcbkkaaGreat.E
/-! Parts with operations between, of the reference. -/
def calcS (P : Rs → Rs × Int) (o : Rs × Int) (k : Int) : Rs × Int := putS (P o.1).1 ⟨3, o.2, noB, noB, noB, [k, (P o.1).2]⟩
def chS (P : Rs → Rs × Int) (L : List ByteArray) (f : Int) : Nat → Rs → Int → Rs × Int
 | 0, s, k => (s, k)
 | n + 1, s, k =>
  if s.bad = true then (s, k)
  else if ((opN L s f).2 == 0) = true then ((opN L s f).1, k)
  else chS P L f n (calcS P (opN L s f) k).1 (calcS P (opN L s f) k).2
def chainS (P : Rs → Rs × Int) (L : List ByteArray) (f : Int) (s : Rs) : Rs × Int := chS P L f (s.list.length + 1) (P s).1 (P s).2
def onceS (P : Rs → Rs × Int) (L : List ByteArray) (f : Int) (s : Rs) : Rs × Int :=
 if ((opN L (P s).1 f).2 == 0) = true then ((opN L (P s).1 f).1, (P s).2) else calcS P (opN L (P s).1 f) (P s).2
def PartS (n : Nat) (P : Rs → Rs × Int) : Prop := ∀ s, RsOk s → s.list.length - s.cur < n → KeepS s (P s).1
theorem calcS_keep {n : Nat} {P : Rs → Rs × Int} (hP : PartS n P) {L : List ByteArray} {f k : Int} {s : Rs} (h : RsOk s) (hn : s.list.length - s.cur < n + 1) (ho : (opN L s f).2 ≠ 0) : KeepS s (calcS P (opN L s f) k).1 ∧ s.cur < (calcS P (opN L s f) k).1.cur := by
 obtain ⟨hc, he⟩ := (op_keepS (L := L) (f := f) h).2 ho
 unfold calcS
 rw [he]
 have ha := adv_keepS h hc
 have hl : (advS s).list.length - (advS s).cur < n := by show s.list.length - (s.cur + 1) < n; omega
 obtain ⟨p1, p2, p3, p4⟩ := hP _ ha.1 hl
 have e := potS_adv hc
 have e2 : (advS s).cur = s.cur + 1 := rfl
 refine ⟨put_keepS (smN (by simp)) p1 p2 (by omega) (.inr (by omega)) (by omega), ?_⟩
 unfold putS
 split <;> dsimp only <;> omega
theorem chS_keep {n : Nat} {P : Rs → Rs × Int} (hP : PartS n P) {L : List ByteArray} {f : Int} : ∀ (m : Nat) (s : Rs) (k : Int), RsOk s → s.list.length - s.cur < n + 1 → KeepS s (chS P L f m s k).1 := by
 intro m
 induction m with
 | zero => intro s k h _; exact KeepS.refl h
 | succ m ih =>
  intro s k h hn
  unfold chS
  split
  ·exact KeepS.refl h
  ·split
   ·exact (op_keepS h).1
   ·rename_i ho
    obtain ⟨g, -⟩ := calcS_keep (k := k) hP (L := L) (f := f) h hn (by simpa using ho)
    exact g.trans (ih _ _ g.1 (g.left hn))
theorem chainS_part {n : Nat} {P : Rs → Rs × Int} {L : List ByteArray} {f : Int} (hP : PartS n P) : PartS n (chainS P L f) := fun s h hn => by
 have k := hP s h hn
 exact k.trans (chS_keep hP _ _ _ k.1 (by have := k.left hn; omega))
theorem onceS_part {n : Nat} {P : Rs → Rs × Int} {L : List ByteArray} {f : Int} (hP : PartS n P) : PartS n (onceS P L f) := fun s h hn => by
 have k := hP s h hn
 unfold onceS
 split
 ·exact k.trans (op_keepS k.1).1
 ·rename_i ho
  exact k.trans (calcS_keep hP k.1 (by have := k.left hn; omega) (by simpa using ho)).1
/-! Factors and values. -/
def facS (V F : Rs → Rs × Int) (s : Rs) : Rs × Int :=
 if s.bad = true then (badS s, 0)
 else if decide ((s.list.length : Int) ≤ (s.cur : Int)) = true then (badS s, 0)
 else if ((curS s).kind == 2) = true then putS (advS s) ⟨1, (curS s).num, noB, noB, noB, []⟩
 else if isS s bOpen = true then (mustS (V (advS s)).1 bShut, (V (advS s)).2)
 else if isS s bNot = true then putS (F (advS s)).1 ⟨4, 0, noB, noB, noB, [(F (advS s)).2]⟩
 else if isS s bNeg = true then putS (F (advS s)).1 ⟨5, 0, noB, noB, noB, [(F (advS s)).2]⟩
 else putS (nameS s).1 ⟨2, 0, (nameS s).2, noB, noB, []⟩
def valueS (F : Rs → Rs × Int) : Rs → Rs × Int := chainS (onceS (chainS (chainS F lMul 3) lAdd 1) lLess 6) lAnd 8
def facNS : Nat → Rs → Rs × Int
 | 0 => fun s => (s, 0)
 | n + 1 => facS (valueS (facNS n)) (facNS n)
theorem facS_part {n : Nat} {V F : Rs → Rs × Int} (hV : PartS n V) (hF : PartS n F) : PartS (n + 1) (facS V F) := by
 intro s h hn
 have adv : s.cur < s.list.length → RsOk (advS s) ∧ (advS s).list.length - (advS s).cur < n ∧ potS (advS s) + 4 = potS s := fun hc => ⟨advS_ok h hc, by show s.list.length - (s.cur + 1) < n; omega, potS_adv hc⟩
 have hput : ∀ (hc : s.cur < s.list.length) (nd : Int → Node) (hsm : ∀ k, smNode (nd k)), KeepS s (putS (F (advS s)).1 (nd (F (advS s)).2)).1 := fun hc nd hsm => by
  obtain ⟨a1, a2, a3⟩ := adv hc
  obtain ⟨k1, k2, k3, k4⟩ := hF _ a1 a2
  exact put_keepS (hsm _) k1 k2 (Nat.le_trans (Nat.le_succ _) k3) (.inr (by omega)) (by omega)
 unfold facS
 split
 ·exact bad_keepS h
 ·split
  ·exact bad_keepS h
  ·rename_i hd
   have hc : s.cur < s.list.length := by
    have := of_decide_eq_false (by simpa using hd : decide ((s.list.length : Int) ≤ (s.cur : Int)) = false)
    omega
   obtain ⟨a1, a2, a3⟩ := adv hc
   split
   ·exact put_keepS (smN (by simp)) a1 rfl (Nat.le_succ _) (.inr (by omega)) (by omega)
   ·split
    ·have k := hV _ a1 a2
     exact (adv_keepS h hc).trans (k.trans (must_keepS k.1))
    ·split
     ·exact hput hc (fun k => ⟨4, 0, noB, noB, noB, [k]⟩) (fun k => smN (by simp))
     ·split
      ·exact hput hc (fun k => ⟨5, 0, noB, noB, noB, [k]⟩) (fun k => smN (by simp))
      ·obtain ⟨k1, k2, k3, k4⟩ := name_keepS h
       exact put_keepS (smN1 (name_smS h) (by simp)) k1 k2 k3 (by rcases name_rightS h with g | g; exact .inl g; exact .inr (by omega)) k4
theorem valueS_part {n : Nat} {F : Rs → Rs × Int} (hF : PartS n F) : PartS n (valueS F) := chainS_part (onceS_part (chainS_part (chainS_part hF)))
theorem facNS_part : ∀ n, PartS n (facNS n)
 | 0 => fun s _ h => by omega
 | n + 1 => facS_part (valueS_part (facNS_part n)) (facNS_part n)
end Go.Proofs.YtejnpiielcbkkaaGreat.E
end
