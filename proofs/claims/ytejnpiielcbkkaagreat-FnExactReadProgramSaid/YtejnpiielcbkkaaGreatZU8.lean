/- A part of what stands under the laws of this seat: an abstract evaluator that is proved sound, and contracts of functions by it. No condition beside those that stand in each statement. -/
import Derived.Test.YtejnpiielcbkkaaGreatZU5
set_option linter.unusedVariables false
set_option linter.unusedSimpArgs false
section
set_option maxRecDepth 100000
set_option maxHeartbeats 4000000
namespace Go.Proofs.YtejnpiielcbkkaaGreat.E
theorem sStmt_print (s X : Rs) (k : Int) (h : RsOk s) (q0 : isS s k_if = false) (q1 : isS s k_while = false) (q2 : isS s k_call = false) (q3 : isS s k_print = true) (hd : CallOk Tryz.prog 214 [.one (.box (rsT (advS s)))] (.s (.one (iV k))) [some (.box (rsT X))]) (hN : X.nodes.length ≤ 1000000) :
  CallOk Tryz.prog 162 [.one (.box (rsT s))] (.s (.one (iV (putS X ⟨15, 0, noB, noB, noB, [k]⟩).2))) [some (.box (rsT (putS X ⟨15, 0, noB, noB, noB, [k]⟩).1))] := by
 have t0 := sMay_ok s k_if h
 rw [mayS_no q0, q0] at t0
 have t1 := sMay_ok s k_while h
 rw [mayS_no q1, q1] at t1
 have t2 := sMay_ok s k_call h
 rw [mayS_no q2, q2] at t2
 have t3 := sMay_ok s k_print h
 rw [mayS_yes q3, q3] at t3
 have hadv : advS s = ⟨s.list, s.cur + 1, s.bad, s.nodes⟩ := rfl
 have hput := sPut_ok X ⟨15, 0, noB, noB, noB, [k]⟩ (by omega) (by simp)
 obtain ⟨⟨Z, z⟩, hZ⟩ : ∃ x, putS X ⟨15, 0, noB, noB, noB, [k]⟩ = x := ⟨_, rfl⟩
 rw [hZ] at hput ⊢
 dsimp only at hput ⊢
 clear hZ
 have i1 : intsT [k] = [[T.v (.int .i64 k)]] := rfl
 rw [hadv] at t3 hd
 clear hadv
 refine cOh 40 (hBd Tryz.func162 rfl (by kernel_rfl) ?_)
 simp (disch := omega) only [go_sem, Tryz.ntmps162, Tryz.results162]
 have x1 := @aNl
 have x2 : HB 0 _ := ⟨t0⟩
 have x3 : HB 1 _ := ⟨t1⟩
 have x4 : HB 2 _ := ⟨t2⟩
 have x5 : HB 3 _ := ⟨t3⟩
 have x6 : HB 0 _ := ⟨hd⟩
 have x7 : HB 0 _ := ⟨hput⟩
 exact wks
theorem sStmt_read (s X : Rs) (nm : ByteArray) (h : RsOk s) (q0 : isS s k_if = false) (q1 : isS s k_while = false) (q2 : isS s k_call = false) (q3 : isS s k_print = false) (q4 : isS s k_read = true) (hn : CallOk Tryz.prog 82 [.one (.box (rsT (advS s)))] (.s (.one (sV nm))) [some (.box (rsT X))]) (hN : X.nodes.length ≤ 1000000) :
  CallOk Tryz.prog 162 [.one (.box (rsT s))] (.s (.one (iV (putS X ⟨16, 0, nm, noB, noB, []⟩).2))) [some (.box (rsT (putS X ⟨16, 0, nm, noB, noB, []⟩).1))] := by
 have t0 := sMay_ok s k_if h
 rw [mayS_no q0, q0] at t0
 have t1 := sMay_ok s k_while h
 rw [mayS_no q1, q1] at t1
 have t2 := sMay_ok s k_call h
 rw [mayS_no q2, q2] at t2
 have t3 := sMay_ok s k_print h
 rw [mayS_no q3, q3] at t3
 have t4 := sMay_ok s k_read h
 rw [mayS_yes q4, q4] at t4
 have hadv : advS s = ⟨s.list, s.cur + 1, s.bad, s.nodes⟩ := rfl
 have hput := sPut_ok X ⟨16, 0, nm, noB, noB, []⟩ (by omega) (by simp)
 obtain ⟨⟨Z, z⟩, hZ⟩ : ∃ x, putS X ⟨16, 0, nm, noB, noB, []⟩ = x := ⟨_, rfl⟩
 rw [hZ] at hput ⊢
 dsimp only at hput ⊢
 clear hZ
 have i0 : intsT [] = [] := rfl
 rw [hadv] at t4 hn
 clear hadv
 refine cOh 40 (hBd Tryz.func162 rfl (by kernel_rfl) ?_)
 simp (disch := omega) only [go_sem, Tryz.ntmps162, Tryz.results162]
 repeat' (first | (with_reducible first | refine i_seq ?_) | ((first | (with_reducible first | refine iBk ?_ | refine iRQ (fun Q' hQ => ?_) | (refine Imp.go hQ ?_; clear hQ)) | ((with_reducible refine i_condT ?_ ?_); (focus (simp only [go_sem, *]; done))) | ((with_reducible refine i_condF ?_ ?_); (focus (simp only [go_sem, *]; done))) | ((with_reducible first | refine rOg (fun h => ?_) (fun h => ?_) | refine i_cond (by simp only [go_sem, *] <;> rfl) (fun h => ?_) (fun h => ?_)) <;> (try simp only [nqA, nqB, nqC, reduceCtorEq] at h) <;> (try have h' := odT h) <;> (try (have hz : (_ : Int) = (_ : Int) := h'; clear hz h')) <;> (try have h' := odF h) <;> (try have h' := inB_t h) <;> (try (exfalso; omega))) | ((first | ((with_reducible refine hcO 40 false (t0) ?_ ?_ ?_ ?_ ?_); iterate 4 (focus (simp (disch := omega) only [go_sem, aNl, i0, reduceCtorEq, nLo]; done))) | ((with_reducible refine hcO 40 false (t1) ?_ ?_ ?_ ?_ ?_); iterate 4 (focus (simp (disch := omega) only [go_sem, aNl, i0, reduceCtorEq, nLo]; done))) | ((with_reducible refine hcO 40 false (t2) ?_ ?_ ?_ ?_ ?_); iterate 4 (focus (simp (disch := omega) only [go_sem, aNl, i0, reduceCtorEq, nLo]; done))) | ((with_reducible refine hcO 40 false (t3) ?_ ?_ ?_ ?_ ?_); iterate 4 (focus (simp (disch := omega) only [go_sem, aNl, i0, reduceCtorEq, nLo]; done))) | ((with_reducible refine hcO 40 false (t4) ?_ ?_ ?_ ?_ ?_); iterate 4 (focus (simp (disch := omega) only [go_sem, aNl, i0, reduceCtorEq, nLo]; done))) | ((with_reducible refine hcO 40 false (hn) ?_ ?_ ?_ ?_ ?_); iterate 4 (focus (simp (disch := omega) only [go_sem, aNl, i0, reduceCtorEq, nLo]; done))) | ((with_reducible refine hcO 40 false (hput) ?_ ?_ ?_ ?_ ?_); iterate 4 (focus (simp (disch := omega) only [go_sem, aNl, i0, reduceCtorEq, nLo]; done)))); simp only [go_sem, aNl, i0, reduceCtorEq]; refine aLr ?_)) <;> (try simp (disch := first | omega | (simp only [sAp, size_mk, List.size_toArray, List.length_cons, List.length_nil]; omega)) only [go_sem, aNl, i0, reduceCtorEq, *])))
 all_goals (try simp (disch := omega) only [EndK, go_sem, aNl, i0, reduceCtorEq, nLo, *])
theorem sStmt_delay (s X : Rs) (nm : ByteArray) (h : RsOk s) (q0 : isS s k_if = false) (q1 : isS s k_while = false) (q2 : isS s k_call = false) (q3 : isS s k_print = false) (q4 : isS s k_read = false) (q5 : isS s k_delay = true) (hn : CallOk Tryz.prog 82 [.one (.box (rsT (advS s)))] (.s (.one (sV nm))) [some (.box (rsT X))]) (hN : X.nodes.length ≤ 1000000) :
  CallOk Tryz.prog 162 [.one (.box (rsT s))] (.s (.one (iV (putS X ⟨17, 0, nm, noB, noB, []⟩).2))) [some (.box (rsT (putS X ⟨17, 0, nm, noB, noB, []⟩).1))] := by
 have t0 := sMay_ok s k_if h
 rw [mayS_no q0, q0] at t0
 have t1 := sMay_ok s k_while h
 rw [mayS_no q1, q1] at t1
 have t2 := sMay_ok s k_call h
 rw [mayS_no q2, q2] at t2
 have t3 := sMay_ok s k_print h
 rw [mayS_no q3, q3] at t3
 have t4 := sMay_ok s k_read h
 rw [mayS_no q4, q4] at t4
 have t5 := sMay_ok s k_delay h
 rw [mayS_yes q5, q5] at t5
 have hadv : advS s = ⟨s.list, s.cur + 1, s.bad, s.nodes⟩ := rfl
 have hput := sPut_ok X ⟨17, 0, nm, noB, noB, []⟩ (by omega) (by simp)
 obtain ⟨⟨Z, z⟩, hZ⟩ : ∃ x, putS X ⟨17, 0, nm, noB, noB, []⟩ = x := ⟨_, rfl⟩
 rw [hZ] at hput ⊢
 dsimp only at hput ⊢
 clear hZ
 have i0 : intsT [] = [] := rfl
 rw [hadv] at t5 hn
 clear hadv
 refine cOh 40 (hBd Tryz.func162 rfl (by kernel_rfl) ?_)
 simp (disch := omega) only [go_sem, Tryz.ntmps162, Tryz.results162]
 repeat' (first | (with_reducible first | refine i_seq ?_) | ((first | (with_reducible first | refine iBk ?_ | refine iRQ (fun Q' hQ => ?_) | (refine Imp.go hQ ?_; clear hQ)) | ((with_reducible refine i_condT ?_ ?_); (focus (simp only [go_sem, *]; done))) | ((with_reducible refine i_condF ?_ ?_); (focus (simp only [go_sem, *]; done))) | ((with_reducible first | refine rOg (fun h => ?_) (fun h => ?_) | refine i_cond (by simp only [go_sem, *] <;> rfl) (fun h => ?_) (fun h => ?_)) <;> (try simp only [nqA, nqB, nqC, reduceCtorEq] at h) <;> (try have h' := odT h) <;> (try (have hz : (_ : Int) = (_ : Int) := h'; clear hz h')) <;> (try have h' := odF h) <;> (try have h' := inB_t h) <;> (try (exfalso; omega))) | ((first | ((with_reducible refine hcO 40 false (t0) ?_ ?_ ?_ ?_ ?_); iterate 4 (focus (simp (disch := omega) only [go_sem, aNl, i0, reduceCtorEq, nLo]; done))) | ((with_reducible refine hcO 40 false (t1) ?_ ?_ ?_ ?_ ?_); iterate 4 (focus (simp (disch := omega) only [go_sem, aNl, i0, reduceCtorEq, nLo]; done))) | ((with_reducible refine hcO 40 false (t2) ?_ ?_ ?_ ?_ ?_); iterate 4 (focus (simp (disch := omega) only [go_sem, aNl, i0, reduceCtorEq, nLo]; done))) | ((with_reducible refine hcO 40 false (t3) ?_ ?_ ?_ ?_ ?_); iterate 4 (focus (simp (disch := omega) only [go_sem, aNl, i0, reduceCtorEq, nLo]; done))) | ((with_reducible refine hcO 40 false (t4) ?_ ?_ ?_ ?_ ?_); iterate 4 (focus (simp (disch := omega) only [go_sem, aNl, i0, reduceCtorEq, nLo]; done))) | ((with_reducible refine hcO 40 false (t5) ?_ ?_ ?_ ?_ ?_); iterate 4 (focus (simp (disch := omega) only [go_sem, aNl, i0, reduceCtorEq, nLo]; done))) | ((with_reducible refine hcO 40 false (hn) ?_ ?_ ?_ ?_ ?_); iterate 4 (focus (simp (disch := omega) only [go_sem, aNl, i0, reduceCtorEq, nLo]; done))) | ((with_reducible refine hcO 40 false (hput) ?_ ?_ ?_ ?_ ?_); iterate 4 (focus (simp (disch := omega) only [go_sem, aNl, i0, reduceCtorEq, nLo]; done)))); simp only [go_sem, aNl, i0, reduceCtorEq]; refine aLr ?_)) <;> (try simp (disch := first | omega | (simp only [sAp, size_mk, List.size_toArray, List.length_cons, List.length_nil]; omega)) only [go_sem, aNl, i0, reduceCtorEq, *])))
 all_goals (try simp (disch := omega) only [EndK, go_sem, aNl, i0, reduceCtorEq, nLo, *])
theorem sStmt_continue (s X : Rs) (nm : ByteArray) (h : RsOk s) (q0 : isS s k_if = false) (q1 : isS s k_while = false) (q2 : isS s k_call = false) (q3 : isS s k_print = false) (q4 : isS s k_read = false) (q5 : isS s k_delay = false) (q6 : isS s k_continue = true) (hn : CallOk Tryz.prog 82 [.one (.box (rsT (advS s)))] (.s (.one (sV nm))) [some (.box (rsT X))]) (hN : X.nodes.length ≤ 1000000) :
  CallOk Tryz.prog 162 [.one (.box (rsT s))] (.s (.one (iV (putS X ⟨18, 0, nm, noB, noB, []⟩).2))) [some (.box (rsT (putS X ⟨18, 0, nm, noB, noB, []⟩).1))] := by
 have t0 := sMay_ok s k_if h
 rw [mayS_no q0, q0] at t0
 have t1 := sMay_ok s k_while h
 rw [mayS_no q1, q1] at t1
 have t2 := sMay_ok s k_call h
 rw [mayS_no q2, q2] at t2
 have t3 := sMay_ok s k_print h
 rw [mayS_no q3, q3] at t3
 have t4 := sMay_ok s k_read h
 rw [mayS_no q4, q4] at t4
 have t5 := sMay_ok s k_delay h
 rw [mayS_no q5, q5] at t5
 have t6 := sMay_ok s k_continue h
 rw [mayS_yes q6, q6] at t6
 have hadv : advS s = ⟨s.list, s.cur + 1, s.bad, s.nodes⟩ := rfl
 have hput := sPut_ok X ⟨18, 0, nm, noB, noB, []⟩ (by omega) (by simp)
 obtain ⟨⟨Z, z⟩, hZ⟩ : ∃ x, putS X ⟨18, 0, nm, noB, noB, []⟩ = x := ⟨_, rfl⟩
 rw [hZ] at hput ⊢
 dsimp only at hput ⊢
 clear hZ
 have i0 : intsT [] = [] := rfl
 rw [hadv] at t6 hn
 clear hadv
 refine cOh 40 (hBd Tryz.func162 rfl (by kernel_rfl) ?_)
 simp (disch := omega) only [go_sem, Tryz.ntmps162, Tryz.results162]
 repeat' (first | (with_reducible first | refine i_seq ?_) | ((first | (with_reducible first | refine iBk ?_ | refine iRQ (fun Q' hQ => ?_) | (refine Imp.go hQ ?_; clear hQ)) | ((with_reducible refine i_condT ?_ ?_); (focus (simp only [go_sem, *]; done))) | ((with_reducible refine i_condF ?_ ?_); (focus (simp only [go_sem, *]; done))) | ((with_reducible first | refine rOg (fun h => ?_) (fun h => ?_) | refine i_cond (by simp only [go_sem, *] <;> rfl) (fun h => ?_) (fun h => ?_)) <;> (try simp only [nqA, nqB, nqC, reduceCtorEq] at h) <;> (try have h' := odT h) <;> (try (have hz : (_ : Int) = (_ : Int) := h'; clear hz h')) <;> (try have h' := odF h) <;> (try have h' := inB_t h) <;> (try (exfalso; omega))) | ((first | ((with_reducible refine hcO 40 false (t0) ?_ ?_ ?_ ?_ ?_); iterate 4 (focus (simp (disch := omega) only [go_sem, aNl, i0, reduceCtorEq, nLo]; done))) | ((with_reducible refine hcO 40 false (t1) ?_ ?_ ?_ ?_ ?_); iterate 4 (focus (simp (disch := omega) only [go_sem, aNl, i0, reduceCtorEq, nLo]; done))) | ((with_reducible refine hcO 40 false (t2) ?_ ?_ ?_ ?_ ?_); iterate 4 (focus (simp (disch := omega) only [go_sem, aNl, i0, reduceCtorEq, nLo]; done))) | ((with_reducible refine hcO 40 false (t3) ?_ ?_ ?_ ?_ ?_); iterate 4 (focus (simp (disch := omega) only [go_sem, aNl, i0, reduceCtorEq, nLo]; done))) | ((with_reducible refine hcO 40 false (t4) ?_ ?_ ?_ ?_ ?_); iterate 4 (focus (simp (disch := omega) only [go_sem, aNl, i0, reduceCtorEq, nLo]; done))) | ((with_reducible refine hcO 40 false (t5) ?_ ?_ ?_ ?_ ?_); iterate 4 (focus (simp (disch := omega) only [go_sem, aNl, i0, reduceCtorEq, nLo]; done))) | ((with_reducible refine hcO 40 false (t6) ?_ ?_ ?_ ?_ ?_); iterate 4 (focus (simp (disch := omega) only [go_sem, aNl, i0, reduceCtorEq, nLo]; done))) | ((with_reducible refine hcO 40 false (hn) ?_ ?_ ?_ ?_ ?_); iterate 4 (focus (simp (disch := omega) only [go_sem, aNl, i0, reduceCtorEq, nLo]; done))) | ((with_reducible refine hcO 40 false (hput) ?_ ?_ ?_ ?_ ?_); iterate 4 (focus (simp (disch := omega) only [go_sem, aNl, i0, reduceCtorEq, nLo]; done)))); simp only [go_sem, aNl, i0, reduceCtorEq]; refine aLr ?_)) <;> (try simp (disch := first | omega | (simp only [sAp, size_mk, List.size_toArray, List.length_cons, List.length_nil]; omega)) only [go_sem, aNl, i0, reduceCtorEq, *])))
 all_goals (try simp (disch := omega) only [EndK, go_sem, aNl, i0, reduceCtorEq, nLo, *])
theorem sStmt_skip (s : Rs) (h : RsOk s) (q0 : isS s k_if = false) (q1 : isS s k_while = false) (q2 : isS s k_call = false) (q3 : isS s k_print = false) (q4 : isS s k_read = false) (q5 : isS s k_delay = false) (q6 : isS s k_continue = false) (q7 : isS s k_skip = true) (hN : s.nodes.length ≤ 1000000) :
  CallOk Tryz.prog 162 [.one (.box (rsT s))] (.s (.one (iV (putS (advS s) ⟨19, 0, noB, noB, noB, []⟩).2))) [some (.box (rsT (putS (advS s) ⟨19, 0, noB, noB, noB, []⟩).1))] := by
 have t0 := sMay_ok s k_if h
 rw [mayS_no q0, q0] at t0
 have t1 := sMay_ok s k_while h
 rw [mayS_no q1, q1] at t1
 have t2 := sMay_ok s k_call h
 rw [mayS_no q2, q2] at t2
 have t3 := sMay_ok s k_print h
 rw [mayS_no q3, q3] at t3
 have t4 := sMay_ok s k_read h
 rw [mayS_no q4, q4] at t4
 have t5 := sMay_ok s k_delay h
 rw [mayS_no q5, q5] at t5
 have t6 := sMay_ok s k_continue h
 rw [mayS_no q6, q6] at t6
 have t7 := sMay_ok s k_skip h
 rw [mayS_yes q7, q7] at t7
 have hadv : advS s = ⟨s.list, s.cur + 1, s.bad, s.nodes⟩ := rfl
 have hN' : (advS s).nodes.length ≤ 1000000 := hN
 have hput := sPut_ok (advS s) ⟨19, 0, noB, noB, noB, []⟩ (by omega) (by simp)
 obtain ⟨⟨Z, z⟩, hZ⟩ : ∃ x, putS (advS s) ⟨19, 0, noB, noB, noB, []⟩ = x := ⟨_, rfl⟩
 rw [hZ] at hput ⊢
 dsimp only at hput ⊢
 clear hZ
 have i0 : intsT [] = [] := rfl
 rw [hadv] at t7 hput
 clear hadv
 refine cOh 40 (hBd Tryz.func162 rfl (by kernel_rfl) ?_)
 simp (disch := omega) only [go_sem, Tryz.ntmps162, Tryz.results162]
 repeat' (first | (with_reducible first | refine i_seq ?_) | ((first | (with_reducible first | refine iBk ?_ | refine iRQ (fun Q' hQ => ?_) | (refine Imp.go hQ ?_; clear hQ)) | ((with_reducible refine i_condT ?_ ?_); (focus (simp only [go_sem, *]; done))) | ((with_reducible refine i_condF ?_ ?_); (focus (simp only [go_sem, *]; done))) | ((with_reducible first | refine rOg (fun h => ?_) (fun h => ?_) | refine i_cond (by simp only [go_sem, *] <;> rfl) (fun h => ?_) (fun h => ?_)) <;> (try simp only [nqA, nqB, nqC, reduceCtorEq] at h) <;> (try have h' := odT h) <;> (try (have hz : (_ : Int) = (_ : Int) := h'; clear hz h')) <;> (try have h' := odF h) <;> (try have h' := inB_t h) <;> (try (exfalso; omega))) | ((first | ((with_reducible refine hcO 40 false (t0) ?_ ?_ ?_ ?_ ?_); iterate 4 (focus (simp (disch := omega) only [go_sem, aNl, i0, reduceCtorEq, nLo]; done))) | ((with_reducible refine hcO 40 false (t1) ?_ ?_ ?_ ?_ ?_); iterate 4 (focus (simp (disch := omega) only [go_sem, aNl, i0, reduceCtorEq, nLo]; done))) | ((with_reducible refine hcO 40 false (t2) ?_ ?_ ?_ ?_ ?_); iterate 4 (focus (simp (disch := omega) only [go_sem, aNl, i0, reduceCtorEq, nLo]; done))) | ((with_reducible refine hcO 40 false (t3) ?_ ?_ ?_ ?_ ?_); iterate 4 (focus (simp (disch := omega) only [go_sem, aNl, i0, reduceCtorEq, nLo]; done))) | ((with_reducible refine hcO 40 false (t4) ?_ ?_ ?_ ?_ ?_); iterate 4 (focus (simp (disch := omega) only [go_sem, aNl, i0, reduceCtorEq, nLo]; done))) | ((with_reducible refine hcO 40 false (t5) ?_ ?_ ?_ ?_ ?_); iterate 4 (focus (simp (disch := omega) only [go_sem, aNl, i0, reduceCtorEq, nLo]; done))) | ((with_reducible refine hcO 40 false (t6) ?_ ?_ ?_ ?_ ?_); iterate 4 (focus (simp (disch := omega) only [go_sem, aNl, i0, reduceCtorEq, nLo]; done))) | ((with_reducible refine hcO 40 false (t7) ?_ ?_ ?_ ?_ ?_); iterate 4 (focus (simp (disch := omega) only [go_sem, aNl, i0, reduceCtorEq, nLo]; done))) | ((with_reducible refine hcO 40 false (hput) ?_ ?_ ?_ ?_ ?_); iterate 4 (focus (simp (disch := omega) only [go_sem, aNl, i0, reduceCtorEq, nLo]; done)))); simp only [go_sem, aNl, i0, reduceCtorEq]; refine aLr ?_)) <;> (try simp (disch := first | omega | (simp only [sAp, size_mk, List.size_toArray, List.length_cons, List.length_nil]; omega)) only [go_sem, aNl, i0, reduceCtorEq, *])))
 all_goals (try simp (disch := omega) only [EndK, go_sem, aNl, i0, reduceCtorEq, nLo, *])
theorem sStmt_set (s A A2 X : Rs) (a : ByteArray) (k : Int) (h : RsOk s) (q0 : isS s k_if = false) (q1 : isS s k_while = false) (q2 : isS s k_call = false) (q3 : isS s k_print = false) (q4 : isS s k_read = false) (q5 : isS s k_delay = false) (q6 : isS s k_continue = false) (q7 : isS s k_skip = false) (hn : CallOk Tryz.prog 82 [.one (.box (rsT s))] (.s (.one (sV a))) [some (.box (rsT A))]) (hw : CallOk Tryz.prog 26 [.one (.box (rsT A)), .one (sV k_asg)] (.tup []) [some (.box (rsT A2)), none]) (hd : CallOk Tryz.prog 214 [.one (.box (rsT A2))] (.s (.one (iV k))) [some (.box (rsT X))]) (hN : X.nodes.length ≤ 1000000) :
  CallOk Tryz.prog 162 [.one (.box (rsT s))] (.s (.one (iV (putS X ⟨11, 0, a, noB, noB, [k]⟩).2))) [some (.box (rsT (putS X ⟨11, 0, a, noB, noB, [k]⟩).1))] := by
 have t0 := sMay_ok s k_if h
 rw [mayS_no q0, q0] at t0
 have t1 := sMay_ok s k_while h
 rw [mayS_no q1, q1] at t1
 have t2 := sMay_ok s k_call h
 rw [mayS_no q2, q2] at t2
 have t3 := sMay_ok s k_print h
 rw [mayS_no q3, q3] at t3
 have t4 := sMay_ok s k_read h
 rw [mayS_no q4, q4] at t4
 have t5 := sMay_ok s k_delay h
 rw [mayS_no q5, q5] at t5
 have t6 := sMay_ok s k_continue h
 rw [mayS_no q6, q6] at t6
 have t7 := sMay_ok s k_skip h
 rw [mayS_no q7, q7] at t7
 have hput := sPut_ok X ⟨11, 0, a, noB, noB, [k]⟩ (by omega) (by simp)
 obtain ⟨⟨Z, z⟩, hZ⟩ : ∃ x, putS X ⟨11, 0, a, noB, noB, [k]⟩ = x := ⟨_, rfl⟩
 rw [hZ] at hput ⊢
 dsimp only at hput ⊢
 clear hZ
 have i1 : intsT [k] = [[T.v (.int .i64 k)]] := rfl
 refine cOh 40 (hBd Tryz.func162 rfl (by kernel_rfl) ?_)
 simp (disch := omega) only [go_sem, Tryz.ntmps162, Tryz.results162]
 repeat' (first | (with_reducible first | refine i_seq ?_) | ((first | (with_reducible first | refine iBk ?_ | refine iRQ (fun Q' hQ => ?_) | (refine Imp.go hQ ?_; clear hQ)) | ((with_reducible refine i_condT ?_ ?_); (focus (simp only [go_sem, *]; done))) | ((with_reducible refine i_condF ?_ ?_); (focus (simp only [go_sem, *]; done))) | ((with_reducible first | refine rOg (fun h => ?_) (fun h => ?_) | refine i_cond (by simp only [go_sem, *] <;> rfl) (fun h => ?_) (fun h => ?_)) <;> (try simp only [nqA, nqB, nqC, reduceCtorEq] at h) <;> (try have h' := odT h) <;> (try (have hz : (_ : Int) = (_ : Int) := h'; clear hz h')) <;> (try have h' := odF h) <;> (try have h' := inB_t h) <;> (try (exfalso; omega))) | ((first | ((with_reducible refine hcO 40 false (t0) ?_ ?_ ?_ ?_ ?_); iterate 4 (focus (simp (disch := omega) only [go_sem, aNl, i1, reduceCtorEq, nLo]; done))) | ((with_reducible refine hcO 40 false (t1) ?_ ?_ ?_ ?_ ?_); iterate 4 (focus (simp (disch := omega) only [go_sem, aNl, i1, reduceCtorEq, nLo]; done))) | ((with_reducible refine hcO 40 false (t2) ?_ ?_ ?_ ?_ ?_); iterate 4 (focus (simp (disch := omega) only [go_sem, aNl, i1, reduceCtorEq, nLo]; done))) | ((with_reducible refine hcO 40 false (t3) ?_ ?_ ?_ ?_ ?_); iterate 4 (focus (simp (disch := omega) only [go_sem, aNl, i1, reduceCtorEq, nLo]; done))) | ((with_reducible refine hcO 40 false (t4) ?_ ?_ ?_ ?_ ?_); iterate 4 (focus (simp (disch := omega) only [go_sem, aNl, i1, reduceCtorEq, nLo]; done))) | ((with_reducible refine hcO 40 false (t5) ?_ ?_ ?_ ?_ ?_); iterate 4 (focus (simp (disch := omega) only [go_sem, aNl, i1, reduceCtorEq, nLo]; done))) | ((with_reducible refine hcO 40 false (t6) ?_ ?_ ?_ ?_ ?_); iterate 4 (focus (simp (disch := omega) only [go_sem, aNl, i1, reduceCtorEq, nLo]; done))) | ((with_reducible refine hcO 40 false (t7) ?_ ?_ ?_ ?_ ?_); iterate 4 (focus (simp (disch := omega) only [go_sem, aNl, i1, reduceCtorEq, nLo]; done))) | ((with_reducible refine hcO 40 false (hn) ?_ ?_ ?_ ?_ ?_); iterate 4 (focus (simp (disch := omega) only [go_sem, aNl, i1, reduceCtorEq, nLo]; done))) | ((with_reducible refine hcO 40 false (hw) ?_ ?_ ?_ ?_ ?_); iterate 4 (focus (simp (disch := omega) only [go_sem, aNl, i1, reduceCtorEq, nLo]; done))) | ((with_reducible refine hcO 40 false (hd) ?_ ?_ ?_ ?_ ?_); iterate 4 (focus (simp (disch := omega) only [go_sem, aNl, i1, reduceCtorEq, nLo]; done))) | ((with_reducible refine hcO 40 false (hput) ?_ ?_ ?_ ?_ ?_); iterate 4 (focus (simp (disch := omega) only [go_sem, aNl, i1, reduceCtorEq, nLo]; done)))); simp only [go_sem, aNl, i1, reduceCtorEq]; refine aLr ?_)) <;> (try simp (disch := first | omega | (simp only [sAp, size_mk, List.size_toArray, List.length_cons, List.length_nil]; omega)) only [go_sem, aNl, i1, reduceCtorEq, *])))
 all_goals (try simp (disch := omega) only [EndK, go_sem, aNl, i1, reduceCtorEq, nLo, *])
theorem sStmt_call (s X : Rs) (z : Int) (h : RsOk s) (q0 : isS s k_if = false) (q1 : isS s k_while = false) (q2 : isS s k_call = true) (hd : CallOk Tryz.prog 215 [.one (.box (rsT (advS s)))] (.s (.one (iV z))) [some (.box (rsT X))]) :
  CallOk Tryz.prog 162 [.one (.box (rsT s))] (.s (.one (iV z))) [some (.box (rsT X))] := by
 have t0 := sMay_ok s k_if h
 rw [mayS_no q0, q0] at t0
 have t1 := sMay_ok s k_while h
 rw [mayS_no q1, q1] at t1
 have t2 := sMay_ok s k_call h
 rw [mayS_yes q2, q2] at t2
 have hadv : advS s = ⟨s.list, s.cur + 1, s.bad, s.nodes⟩ := rfl
 rw [hadv] at t2 hd
 clear hadv
 refine cOh 40 (hBd Tryz.func162 rfl (by kernel_rfl) ?_)
 simp (disch := omega) only [go_sem, Tryz.ntmps162, Tryz.results162]
 have x1 : HB 0 _ := ⟨t0⟩
 have x2 : HB 1 _ := ⟨t1⟩
 have x3 : HB 2 _ := ⟨t2⟩
 have x4 : HB 0 _ := ⟨hd⟩
 exact wks
end Go.Proofs.YtejnpiielcbkkaaGreat.E
end
section
set_option maxRecDepth 100000
set_option maxHeartbeats 4000000
namespace Go.Proofs.YtejnpiielcbkkaaGreat.E
theorem sStmt_while (s A A2 X : Rs) (k b : Int) (h : RsOk s) (q0 : isS s k_if = false) (q1 : isS s k_while = true) (hd : CallOk Tryz.prog 214 [.one (.box (rsT (advS s)))] (.s (.one (iV k))) [some (.box (rsT A))]) (hw : CallOk Tryz.prog 26 [.one (.box (rsT A)), .one (sV k_do)] (.tup []) [some (.box (rsT A2)), none]) (hb : CallOk Tryz.prog 84 [.one (.box (rsT A2))] (.s (.one (iV b))) [some (.box (rsT X))]) (hN : X.nodes.length ≤ 1000000) :
  CallOk Tryz.prog 162 [.one (.box (rsT s))] (.s (.one (iV (putS X ⟨13, 0, noB, noB, noB, [k, b]⟩).2))) [some (.box (rsT (putS X ⟨13, 0, noB, noB, noB, [k, b]⟩).1))] := by
 have t0 := sMay_ok s k_if h
 rw [mayS_no q0, q0] at t0
 have t1 := sMay_ok s k_while h
 rw [mayS_yes q1, q1] at t1
 have hadv : advS s = ⟨s.list, s.cur + 1, s.bad, s.nodes⟩ := rfl
 have hput := sPut_ok X ⟨13, 0, noB, noB, noB, [k, b]⟩ (by omega) (by simp)
 obtain ⟨⟨Z, z⟩, hZ⟩ : ∃ x, putS X ⟨13, 0, noB, noB, noB, [k, b]⟩ = x := ⟨_, rfl⟩
 rw [hZ] at hput ⊢
 dsimp only at hput ⊢
 clear hZ
 have i2 : intsT [k, b] = [[T.v (.int .i64 k)], [T.v (.int .i64 b)]] := rfl
 rw [hadv] at t1 hd
 clear hadv
 refine cOh 40 (hBd Tryz.func162 rfl (by kernel_rfl) ?_)
 simp (disch := omega) only [go_sem, Tryz.ntmps162, Tryz.results162]
 have x1 := @aNl
 have x2 : HB 0 _ := ⟨t0⟩
 have x3 : HB 1 _ := ⟨t1⟩
 have x4 : HB 0 _ := ⟨hd⟩
 have x5 : HB 0 _ := ⟨hw⟩
 have x6 : HB 0 _ := ⟨hb⟩
 have x7 : HB 0 _ := ⟨hput⟩
 exact wks
theorem sStmt_if (s A A2 X : Rs) (k b : Int) (h : RsOk s)  (q0 : isS s k_if = true) (hd : CallOk Tryz.prog 214 [.one (.box (rsT (advS s)))] (.s (.one (iV k))) [some (.box (rsT A))]) (hw : CallOk Tryz.prog 26 [.one (.box (rsT A)), .one (sV k_then)] (.tup []) [some (.box (rsT A2)), none]) (hb : CallOk Tryz.prog 84 [.one (.box (rsT A2))] (.s (.one (iV b))) [some (.box (rsT X))]) (hX : RsOk X) (qe : isS X k_else = false) (hN : X.nodes.length ≤ 1000000) :
  CallOk Tryz.prog 162 [.one (.box (rsT s))] (.s (.one (iV (putS X ⟨12, 0, noB, noB, noB, [k, b]⟩).2))) [some (.box (rsT (putS X ⟨12, 0, noB, noB, noB, [k, b]⟩).1))] := by
 have t0 := sMay_ok s k_if h
 rw [mayS_yes q0, q0] at t0
 have hadv : advS s = ⟨s.list, s.cur + 1, s.bad, s.nodes⟩ := rfl
 have hput := sPut_ok X ⟨12, 0, noB, noB, noB, [k, b]⟩ (by omega) (by simp)
 obtain ⟨⟨Z, z⟩, hZ⟩ : ∃ x, putS X ⟨12, 0, noB, noB, noB, [k, b]⟩ = x := ⟨_, rfl⟩
 rw [hZ] at hput ⊢
 dsimp only at hput ⊢
 clear hZ
 have te := sMay_ok X k_else hX
 rw [mayS_no qe, qe] at te
 have i1 : ([[T.v (.int .i64 k)]] : List (List T)) = intsT [k] := rfl
 have i2 : intsT [k] ++ [[T.v (.int .i64 b)]] = intsT [k, b] := rfl
 rw [hadv] at t0 hd
 clear hadv
 refine cOh 40 (hBd Tryz.func162 rfl (by kernel_rfl) ?_)
 simp (disch := omega) only [go_sem, Tryz.ntmps162, Tryz.results162]
 have x1 := @aNl
 have x2 := @List.length_singleton.{0}
 have x3 : HB 0 _ := ⟨t0⟩
 have x4 : HB 0 _ := ⟨hd⟩
 have x5 : HB 0 _ := ⟨hw⟩
 have x6 : HB 0 _ := ⟨hb⟩
 have x7 : HB 1 _ := ⟨te⟩
 have x8 : HB 0 _ := ⟨hput⟩
 exact wks
theorem sStmt_else (s A A2 X Y : Rs) (k b c : Int) (h : RsOk s)  (q0 : isS s k_if = true) (hd : CallOk Tryz.prog 214 [.one (.box (rsT (advS s)))] (.s (.one (iV k))) [some (.box (rsT A))]) (hw : CallOk Tryz.prog 26 [.one (.box (rsT A)), .one (sV k_then)] (.tup []) [some (.box (rsT A2)), none]) (hb : CallOk Tryz.prog 84 [.one (.box (rsT A2))] (.s (.one (iV b))) [some (.box (rsT X))]) (hX : RsOk X) (qe : isS X k_else = true) (hc : CallOk Tryz.prog 84 [.one (.box (rsT (advS X)))] (.s (.one (iV c))) [some (.box (rsT Y))]) (hN : Y.nodes.length ≤ 1000000) :
  CallOk Tryz.prog 162 [.one (.box (rsT s))] (.s (.one (iV (putS Y ⟨12, 0, noB, noB, noB, [k, b, c]⟩).2))) [some (.box (rsT (putS Y ⟨12, 0, noB, noB, noB, [k, b, c]⟩).1))] := by
 have t0 := sMay_ok s k_if h
 rw [mayS_yes q0, q0] at t0
 have hadv : advS s = ⟨s.list, s.cur + 1, s.bad, s.nodes⟩ := rfl
 have hput := sPut_ok Y ⟨12, 0, noB, noB, noB, [k, b, c]⟩ (by omega) (by simp)
 obtain ⟨⟨Z, z⟩, hZ⟩ : ∃ x, putS Y ⟨12, 0, noB, noB, noB, [k, b, c]⟩ = x := ⟨_, rfl⟩
 rw [hZ] at hput ⊢
 dsimp only at hput ⊢
 clear hZ
 have te := sMay_ok X k_else hX
 rw [mayS_yes qe, qe] at te
 have hadvX : advS X = ⟨X.list, X.cur + 1, X.bad, X.nodes⟩ := rfl
 rw [hadvX] at te hc
 clear hadvX
 have i1 : ([[T.v (.int .i64 k)]] : List (List T)) = intsT [k] := rfl
 have i2 : intsT [k] ++ [[T.v (.int .i64 b)]] = intsT [k, b] := rfl
 have i3 : intsT [k, b] ++ [[T.v (.int .i64 c)]] = intsT [k, b, c] := rfl
 rw [hadv] at t0 hd
 clear hadv
 refine cOh 40 (hBd Tryz.func162 rfl (by kernel_rfl) ?_)
 simp (disch := omega) only [go_sem, Tryz.ntmps162, Tryz.results162]
 have x1 := @aNl
 have x2 := @List.length_singleton.{0}
 have x3 : HB 0 _ := ⟨t0⟩
 have x4 : HB 0 _ := ⟨hd⟩
 have x5 : HB 0 _ := ⟨hw⟩
 have x6 : HB 0 _ := ⟨hb⟩
 have x7 : HB 1 _ := ⟨te⟩
 have x8 : HB 1 _ := ⟨hc⟩
 have x9 : HB 0 _ := ⟨hput⟩
 exact wks
end Go.Proofs.YtejnpiielcbkkaaGreat.E
end
section
set_option maxRecDepth 100000
set_option maxHeartbeats 4000000
namespace Go.Proofs.YtejnpiielcbkkaaGreat.E
theorem sBlock_ok (S : Rs → Rs × Int) (C I : Rs → Prop) (dS : ∀ x, RsOk x → C x → CallOk Tryz.prog 162 [.one (.box (rsT x))] (.s (.one (iV (S x).2))) [some (.box (rsT (S x).1))])
  (hI : ∀ x, I x → RsOk x ∧ x.list.length ≤ 500 ∧ x.nodes.length ≤ 1000000) (hS : ∀ x, I x → isS x bSemi = true → C (advS x) ∧ I (S (advS x)).1 ∧ x.cur < (S (advS x)).1.cur ∧ (S (advS x)).1.list.length ≤ x.list.length)
  (s : Rs) (h : RsOk s) (hC : C (mustS s bBegin)) (h0 : I (S (mustS s bBegin)).1) (hl : (S (mustS s bBegin)).1.list.length ≤ s.list.length) :
  CallOk Tryz.prog 84 [.one (.box (rsT s))] (.s (.one (iV (blockOfS S s).2))) [some (.box (rsT (blockOfS S s).1))] := by
 have w1 := sMust_ok s bBegin h
 have k1 := (kpS_must (w := bBegin) h).1.1
 have s1 := dS _ k1 hC
 have hl5 := h.len
 have hbo : blockOfS S s = blockEndS (blockFS S (s.list.length + 1) (S (mustS s bBegin)).1 [(S (mustS s bBegin)).2]) := rfl
 rw [hbo]
 clear hbo k1 hC
 obtain ⟨A, hA⟩ : ∃ x, mustS s bBegin = x := ⟨_, rfl⟩
 rw [hA] at w1 s1 h0 hl ⊢
 obtain ⟨⟨R0, k0⟩, hR⟩ : ∃ x, S A = x := ⟨_, rfl⟩
 rw [hR] at s1 h0 hl ⊢
 dsimp only at s1 h0 hl ⊢
 clear hA hR
 obtain ⟨⟨RR, RL⟩, hRES⟩ : ∃ x, blockFS S (s.list.length + 1) R0 [k0] = x := ⟨_, rfl⟩
 rw [hRES]
 have i1 : ([[T.v (.int .i64 k0)]] : List (List T)) = intsT [k0] := rfl
 refine cOh 40 (hBd Tryz.func84 rfl (by kernel_rfl) ?_)
 simp (disch := omega) only [go_sem, Tryz.ntmps84, Tryz.results84]
 repeat' (first | (with_reducible first | refine i_seq ?_) | ((first | (with_reducible first | refine iBk ?_ | refine iRQ (fun Q' hQ => ?_) | (refine Imp.go hQ ?_; clear hQ)) | ((with_reducible refine i_condT ?_ ?_); (focus (simp only [go_sem, *]; done))) | ((with_reducible refine i_condF ?_ ?_); (focus (simp only [go_sem, *]; done))) | ((with_reducible first | refine rOg (fun h => ?_) (fun h => ?_) | refine i_cond (by simp only [go_sem, *] <;> rfl) (fun h => ?_) (fun h => ?_)) <;> (try simp only [nqA, nqB, nqC, reduceCtorEq] at h) <;> (try have h' := odT h) <;> (try (have hz : (_ : Int) = (_ : Int) := h'; clear hz h')) <;> (try have h' := odF h) <;> (try have h' := inB_t h) <;> (try (exfalso; omega))) | ((first | ((with_reducible refine hcO 40 false (w1) ?_ ?_ ?_ ?_ ?_); iterate 4 (focus (simp (disch := omega) only [go_sem, i1, List.length_singleton, reduceCtorEq, nLo]; done))) | ((with_reducible refine hcO 40 false (s1) ?_ ?_ ?_ ?_ ?_); iterate 4 (focus (simp (disch := omega) only [go_sem, i1, List.length_singleton, reduceCtorEq, nLo]; done)))); simp only [go_sem, i1, List.length_singleton, reduceCtorEq]; refine aLr ?_)) <;> (try simp (disch := first | omega | (simp only [sAp, size_mk, List.size_toArray, List.length_cons, List.length_nil]; omega)) only [go_sem, i1, List.length_singleton, reduceCtorEq, *])))
 all_goals (try simp (disch := omega) only [EndK, go_sem, i1, List.length_singleton, reduceCtorEq, nLo, *])
 clear w1 s1
 refine i_loop (α := {x : Nat × Rs × List Int // I x.2.1 ∧ x.2.1.list.length - x.2.1.cur < x.1 ∧ x.2.2.length + x.1 ≤ 600 ∧ blockFS S x.1 x.2.1 x.2.2 = (RR, RL)}) (fun x => ⟨mkEnv 22 [(0, .one (.ptr 0 0 0)), (3, .one (.ref 1 0 x.1.2.2.length))], [.live 4 [rsT x.1.2.1], .live 1 (intsT x.1.2.2)]⟩) (fun x => x.1.1) ⟨(s.list.length + 1, R0, [k0]), h0, by dsimp only; omega, by simp only [List.length_singleton]; omega, hRES⟩ ?_ ?_
 ·first | (refine wCn [0, 3] [1] ?_ ?_ ?_ <;> (simp (disch := omega) only [go_sem, i1, List.length_singleton]; done))
 rintro ⟨⟨m, X, ks⟩, g1, g2, g3, he⟩
 dsimp only at g1 g2 g3 he ⊢
 clear h0 hRES i1 h hl5 hl
 obtain ⟨m, rfl⟩ : ∃ m', m = m' + 1 := ⟨m - 1, by omega⟩
 obtain ⟨x1, x2, x3⟩ := hI X g1
 have htk := sMay_ok X bSemi x1
 have hnext := hS X g1
 cases h1 : isS X bSemi
 ·rw [mayS_no h1, h1] at htk
  unfold blockFS at he
  rw [h1, if_neg (by simp)] at he
  obtain ⟨rfl, rfl⟩ := Prod.mk.inj he
  have hw := sMust_ok X bEnd x1
  have hbe : blockEndS (X, ks) = putS (mustS X bEnd) ⟨20, 0, noB, noB, noB, ks⟩ := rfl
  rw [hbe]
  clear hbe
  have hwn : (mustS X bEnd).nodes = X.nodes := by unfold mustS; split <;> rfl
  obtain ⟨D, hD⟩ : ∃ D, mustS X bEnd = D := ⟨_, rfl⟩
  rw [hD] at hw hwn ⊢
  have hdn : D.nodes.length ≤ 1000000 := by rw [hwn]; exact x3
  have hput := sPut_ok D ⟨20, 0, noB, noB, noB, ks⟩ (by omega) (by show ks.length ≤ 1048576; omega)
  obtain ⟨⟨Z, z⟩, hZ⟩ : ∃ x, putS D ⟨20, 0, noB, noB, noB, ks⟩ = x := ⟨_, rfl⟩
  rw [hZ] at hput ⊢
  dsimp only at hput ⊢
  clear hnext hwn hD hI hS dS hZ
  simp (disch := omega) only [go_sem]
  have x1 := @aNl
  have x2 : HB 0 _ := ⟨htk⟩
  have x3 : HB 0 _ := ⟨hw⟩
  have x4 : HB 0 _ := ⟨hput⟩
  exact wks
 ·rw [mayS_yes h1, h1] at htk
  unfold blockFS at he
  rw [h1, if_pos rfl] at he
  have hc := isS_in h1
  have ha := advS_ok x1 hc
  obtain ⟨c1, c2, c3, c4⟩ := hnext h1
  have hst := dS _ ha c1
  obtain ⟨⟨Y, o⟩, hY⟩ : ∃ x, S (advS X) = x := ⟨_, rfl⟩
  rw [hY] at hst c2 c3 c4 he
  dsimp only at hst c2 c3 c4 he
  have hadv : advS X = ⟨X.list, X.cur + 1, X.bad, X.nodes⟩ := rfl
  rw [hadv] at htk hst
  clear hY hadv ha hnext c1 hI hS dS
  simp (disch := omega) only [go_sem]
  repeat' (first | (with_reducible first | refine i_seq ?_) | ((first | (with_reducible first | refine iBk ?_ | refine iRQ (fun Q' hQ => ?_) | (refine Imp.go hQ ?_; clear hQ)) | ((with_reducible refine i_condT ?_ ?_); (focus (simp only [go_sem, *]; done))) | ((with_reducible refine i_condF ?_ ?_); (focus (simp only [go_sem, *]; done))) | ((with_reducible first | refine rOg (fun h => ?_) (fun h => ?_) | refine i_cond (by simp only [go_sem, *] <;> rfl) (fun h => ?_) (fun h => ?_)) <;> (try simp only [nqA, nqB, nqC, reduceCtorEq] at h) <;> (try have h' := odT h) <;> (try (have hz : (_ : Int) = (_ : Int) := h'; clear hz h')) <;> (try have h' := odF h) <;> (try have h' := inB_t h) <;> (try (exfalso; omega))) | ((first | ((with_reducible refine hcO 40 false (htk) ?_ ?_ ?_ ?_ ?_); iterate 4 (focus (simp (disch := omega) only [go_sem, reduceCtorEq, nLo]; done))) | ((with_reducible refine hcO 40 false (hst) ?_ ?_ ?_ ?_ ?_); iterate 4 (focus (simp (disch := omega) only [go_sem, reduceCtorEq, nLo]; done)))); simp only [go_sem, reduceCtorEq]; refine aLr ?_)) <;> (try simp (disch := first | omega | (simp only [sAp, size_mk, List.size_toArray, List.length_cons, List.length_nil]; omega)) only [go_sem, reduceCtorEq, *])))
  all_goals (try simp (disch := omega) only [EndK, go_sem, reduceCtorEq, nLo, *])
  all_goals refine ⟨⟨(m, Y, ks ++ [o]), c2, by dsimp only; omega, by simp only [List.length_append, List.length_singleton]; omega, he⟩, ?_, by simp only; omega⟩
  all_goals
   have ea : intsT ks ++ [[T.v (.int .i64 o)]] = intsT (ks ++ [o]) := by simp [intsT]
   first | (refine wCn [0, 3] [3] ?_ ?_ ?_ <;> (simp (disch := omega) only [go_sem, ea, List.length_append, List.length_singleton]; done))
end Go.Proofs.YtejnpiielcbkkaaGreat.E
end
