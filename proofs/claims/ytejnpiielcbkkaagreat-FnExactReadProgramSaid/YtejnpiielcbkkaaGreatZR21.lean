/- A part of what stands under the laws of this seat: an abstract evaluator that is proved sound, and contracts of functions by it. No condition beside those that stand in each statement. -/
import Derived.Test.YtejnpiielcbkkaaGreatZR20
set_option linter.unusedVariables false
set_option linter.unusedSimpArgs false
set_option maxRecDepth 100000
set_option maxHeartbeats 4000000
namespace Go.Proofs.YtejnpiielcbkkaaGreat.E
abbrev k_if : ByteArray := ⟨#[105, 102]⟩
abbrev k_while : ByteArray := ⟨#[119, 104, 105, 108, 101]⟩
abbrev k_call : ByteArray := ⟨#[99, 97, 108, 108]⟩
abbrev k_print : ByteArray := ⟨#[112, 114, 105, 110, 116]⟩
abbrev k_read : ByteArray := ⟨#[114, 101, 97, 100]⟩
abbrev k_delay : ByteArray := ⟨#[100, 101, 108, 97, 121]⟩
abbrev k_continue : ByteArray := ⟨#[99, 111, 110, 116, 105, 110, 117, 101]⟩
abbrev k_skip : ByteArray := ⟨#[115, 107, 105, 112]⟩
abbrev k_then : ByteArray := ⟨#[116, 104, 101, 110]⟩
abbrev k_else : ByteArray := ⟨#[101, 108, 115, 101]⟩
abbrev k_do : ByteArray := ⟨#[100, 111]⟩
abbrev k_asg : ByteArray := ⟨#[58, 61]⟩
theorem asg_rows : ([[T.v (.string ⟨#[58, 61]⟩)]] : List (List T)) = strsT [k_asg] := rfl
theorem rStmt_print (r X : Rd) (k : Int) (h : RdOk r) (q0 : isR r k_if = false) (q1 : isR r k_while = false) (q2 : isR r k_call = false) (q3 : isR r k_print = true) (hd : CallOk Tryz.prog 221 [.one (.box (rdT (advR r)))] (.s (.one (iV k))) [some (.box (rdT X))]) (hN : X.prog.nodes.length ≤ 1000000) :
  CallOk Tryz.prog 170 [.one (.box (rdT r))] (.s (.one (iV X.prog.nodes.length))) [some (.box (rdT (putR X ⟨15, 0, noB, noB, noB, [k]⟩)))] := by
 have t0 := rTake_ok r k_if (by decide) h
 rw [take_no q0, q0] at t0
 have t1 := rTake_ok r k_while (by decide) h
 rw [take_no q1, q1] at t1
 have t2 := rTake_ok r k_call (by decide) h
 rw [take_no q2, q2] at t2
 have t3 := rTake_ok r k_print (by decide) h
 rw [take_yes q3, q3] at t3
 have hadv : advR r = ⟨r.list, r.size, r.cur + 1, r.place, r.prog⟩ := rfl
 have hput := rPut_ok X ⟨15, 0, noB, noB, noB, [k]⟩ (by omega) (by simp)
 have i1 : intsT [k] = [[T.v (.int .i64 k)]] := rfl
 rw [hadv] at t3 hd
 clear hadv
 refine cOh 40 (hBd Tryz.func170 rfl (by kernel_rfl) ?_)
 simp (disch := omega) only [go_sem, Tryz.ntmps170, Tryz.results170]
 have x1 := @aNl
 have x2 : HH 8 (.ho [0, 1, 2] (opm 3 [1] [true] (opm 4 [1] [true] (opm 5 [] [false] (.ho [6] (opm 7 [] [] (.stop))))))) := ⟨⟩
 have x3 : HH 10 (.ho [0, 1, 2] (opm 3 [1] [true] (opm 4 [1] [true] (opm 5 [] [false] (.ho [6] (opm 7 [] [] (.stop))))))) := ⟨⟩
 have x4 : HH 14 (.ho [0, 1, 2] (opm 3 [1] [true] (opm 4 [1] [true] (opm 5 [] [false] (.ho [6] (opm 7 [] [] (.stop))))))) := ⟨⟩
 have x5 : HC 1 _ := ⟨t0⟩
 have x6 : HC 2 _ := ⟨t1⟩
 have x7 : HC 3 _ := ⟨t2⟩
 have x8 : HC 4 _ := ⟨t3⟩
 exact wks
theorem rStmt_read (r : Rd) (h : RdOk r) (q0 : isR r k_if = false) (q1 : isR r k_while = false) (q2 : isR r k_call = false) (q3 : isR r k_print = false) (q4 : isR r k_read = true) (hN : r.prog.nodes.length ≤ 1000000) (hc : RdOk (advR r)) (hK : (nameR (advR r)).1.prog.nodes.length ≤ 1000000) :
  CallOk Tryz.prog 170 [.one (.box (rdT r))] (.s (.one (iV (nameR (advR r)).1.prog.nodes.length))) [some (.box (rdT (putR (nameR (advR r)).1 ⟨16, 0, (nameR (advR r)).2, noB, noB, []⟩)))] := by
 have t0 := rTake_ok r k_if (by decide) h
 rw [take_no q0, q0] at t0
 have t1 := rTake_ok r k_while (by decide) h
 rw [take_no q1, q1] at t1
 have t2 := rTake_ok r k_call (by decide) h
 rw [take_no q2, q2] at t2
 have t3 := rTake_ok r k_print (by decide) h
 rw [take_no q3, q3] at t3
 have t4 := rTake_ok r k_read (by decide) h
 rw [take_yes q4, q4] at t4
 have hadv : advR r = ⟨r.list, r.size, r.cur + 1, r.place, r.prog⟩ := rfl
 have hn := rName_ok (advR r) hc
 obtain ⟨⟨X, nm⟩, hX⟩ : ∃ x, nameR (advR r) = x := ⟨_, rfl⟩
 rw [hX] at hn hK ⊢
 dsimp only at hn hK ⊢
 have hput := rPut_ok X ⟨16, 0, nm, noB, noB, []⟩ (by omega) (by simp)
 have i0 : intsT [] = [] := rfl
 rw [hadv] at t4 hn
 clear hadv hX
 refine cOh 40 (hBd Tryz.func170 rfl (by kernel_rfl) ?_)
 simp (disch := omega) only [go_sem, Tryz.ntmps170, Tryz.results170]
 have x1 := @aNl
 have x2 : HH 8 (.ho [0, 1, 2] (opm 3 [1] [true] (opm 4 [1] [true] (opm 5 [] [false] (.ho [6] (opm 7 [] [] (.stop))))))) := ⟨⟩
 have x3 : HH 10 (.ho [0, 1, 2] (opm 3 [1] [true] (opm 4 [1] [true] (opm 5 [] [false] (.ho [6] (opm 7 [] [] (.stop))))))) := ⟨⟩
 have x4 : HH 14 (.ho [0, 1, 2] (opm 3 [1] [true] (opm 4 [1] [true] (opm 5 [] [false] (.ho [6] (opm 7 [] [] (.stop))))))) := ⟨⟩
 have x5 : HC 1 _ := ⟨t0⟩
 have x6 : HC 2 _ := ⟨t1⟩
 have x7 : HC 3 _ := ⟨t2⟩
 have x8 : HC 4 _ := ⟨t3⟩
 have x9 : HC 5 _ := ⟨t4⟩
 exact wks
theorem rStmt_delay (r : Rd) (h : RdOk r) (q0 : isR r k_if = false) (q1 : isR r k_while = false) (q2 : isR r k_call = false) (q3 : isR r k_print = false) (q4 : isR r k_read = false) (q5 : isR r k_delay = true) (hN : r.prog.nodes.length ≤ 1000000) (hc : RdOk (advR r)) (hK : (nameR (advR r)).1.prog.nodes.length ≤ 1000000) :
  CallOk Tryz.prog 170 [.one (.box (rdT r))] (.s (.one (iV (nameR (advR r)).1.prog.nodes.length))) [some (.box (rdT (putR (nameR (advR r)).1 ⟨17, 0, (nameR (advR r)).2, noB, noB, []⟩)))] := by
 have t0 := rTake_ok r k_if (by decide) h
 rw [take_no q0, q0] at t0
 have t1 := rTake_ok r k_while (by decide) h
 rw [take_no q1, q1] at t1
 have t2 := rTake_ok r k_call (by decide) h
 rw [take_no q2, q2] at t2
 have t3 := rTake_ok r k_print (by decide) h
 rw [take_no q3, q3] at t3
 have t4 := rTake_ok r k_read (by decide) h
 rw [take_no q4, q4] at t4
 have t5 := rTake_ok r k_delay (by decide) h
 rw [take_yes q5, q5] at t5
 have hadv : advR r = ⟨r.list, r.size, r.cur + 1, r.place, r.prog⟩ := rfl
 have hn := rName_ok (advR r) hc
 obtain ⟨⟨X, nm⟩, hX⟩ : ∃ x, nameR (advR r) = x := ⟨_, rfl⟩
 rw [hX] at hn hK ⊢
 dsimp only at hn hK ⊢
 have hput := rPut_ok X ⟨17, 0, nm, noB, noB, []⟩ (by omega) (by simp)
 have i0 : intsT [] = [] := rfl
 rw [hadv] at t5 hn
 clear hadv hX
 refine cOh 40 (hBd Tryz.func170 rfl (by kernel_rfl) ?_)
 simp (disch := omega) only [go_sem, Tryz.ntmps170, Tryz.results170]
 have x1 := @aNl
 have x2 : HH 8 (.ho [0, 1, 2] (opm 3 [1] [true] (opm 4 [1] [true] (opm 5 [] [false] (.ho [6] (opm 7 [] [] (.stop))))))) := ⟨⟩
 have x3 : HH 10 (.ho [0, 1, 2] (opm 3 [1] [true] (opm 4 [1] [true] (opm 5 [] [false] (.ho [6] (opm 7 [] [] (.stop))))))) := ⟨⟩
 have x4 : HH 14 (.ho [0, 1, 2] (opm 3 [1] [true] (opm 4 [1] [true] (opm 5 [] [false] (.ho [6] (opm 7 [] [] (.stop))))))) := ⟨⟩
 have x5 : HC 1 _ := ⟨t0⟩
 have x6 : HC 2 _ := ⟨t1⟩
 have x7 : HC 3 _ := ⟨t2⟩
 have x8 : HC 4 _ := ⟨t3⟩
 have x9 : HC 5 _ := ⟨t4⟩
 have x10 : HC 6 _ := ⟨t5⟩
 exact wks
theorem rStmt_continue (r : Rd) (h : RdOk r) (q0 : isR r k_if = false) (q1 : isR r k_while = false) (q2 : isR r k_call = false) (q3 : isR r k_print = false) (q4 : isR r k_read = false) (q5 : isR r k_delay = false) (q6 : isR r k_continue = true) (hN : r.prog.nodes.length ≤ 1000000) (hc : RdOk (advR r)) (hK : (nameR (advR r)).1.prog.nodes.length ≤ 1000000) :
  CallOk Tryz.prog 170 [.one (.box (rdT r))] (.s (.one (iV (nameR (advR r)).1.prog.nodes.length))) [some (.box (rdT (putR (nameR (advR r)).1 ⟨18, 0, (nameR (advR r)).2, noB, noB, []⟩)))] := by
 have t0 := rTake_ok r k_if (by decide) h
 rw [take_no q0, q0] at t0
 have t1 := rTake_ok r k_while (by decide) h
 rw [take_no q1, q1] at t1
 have t2 := rTake_ok r k_call (by decide) h
 rw [take_no q2, q2] at t2
 have t3 := rTake_ok r k_print (by decide) h
 rw [take_no q3, q3] at t3
 have t4 := rTake_ok r k_read (by decide) h
 rw [take_no q4, q4] at t4
 have t5 := rTake_ok r k_delay (by decide) h
 rw [take_no q5, q5] at t5
 have t6 := rTake_ok r k_continue (by decide) h
 rw [take_yes q6, q6] at t6
 have hadv : advR r = ⟨r.list, r.size, r.cur + 1, r.place, r.prog⟩ := rfl
 have hn := rName_ok (advR r) hc
 obtain ⟨⟨X, nm⟩, hX⟩ : ∃ x, nameR (advR r) = x := ⟨_, rfl⟩
 rw [hX] at hn hK ⊢
 dsimp only at hn hK ⊢
 have hput := rPut_ok X ⟨18, 0, nm, noB, noB, []⟩ (by omega) (by simp)
 have i0 : intsT [] = [] := rfl
 rw [hadv] at t6 hn
 clear hadv hX
 refine cOh 40 (hBd Tryz.func170 rfl (by kernel_rfl) ?_)
 simp (disch := omega) only [go_sem, Tryz.ntmps170, Tryz.results170]
 have x1 := @aNl
 have x2 : HH 8 (.ho [0, 1, 2] (opm 3 [1] [true] (opm 4 [1] [true] (opm 5 [] [false] (.ho [6] (opm 7 [] [] (.stop))))))) := ⟨⟩
 have x3 : HH 10 (.ho [0, 1, 2] (opm 3 [1] [true] (opm 4 [1] [true] (opm 5 [] [false] (.ho [6] (opm 7 [] [] (.stop))))))) := ⟨⟩
 have x4 : HH 14 (.ho [0, 1, 2] (opm 3 [1] [true] (opm 4 [1] [true] (opm 5 [] [false] (.ho [6] (opm 7 [] [] (.stop))))))) := ⟨⟩
 have x5 : HC 1 _ := ⟨t0⟩
 have x6 : HC 2 _ := ⟨t1⟩
 have x7 : HC 3 _ := ⟨t2⟩
 have x8 : HC 4 _ := ⟨t3⟩
 have x9 : HC 5 _ := ⟨t4⟩
 have x10 : HC 6 _ := ⟨t5⟩
 have x11 : HC 7 _ := ⟨t6⟩
 exact wks
theorem rStmt_skip (r : Rd) (h : RdOk r) (q0 : isR r k_if = false) (q1 : isR r k_while = false) (q2 : isR r k_call = false) (q3 : isR r k_print = false) (q4 : isR r k_read = false) (q5 : isR r k_delay = false) (q6 : isR r k_continue = false) (q7 : isR r k_skip = true) (hN : r.prog.nodes.length ≤ 1000000) :
  CallOk Tryz.prog 170 [.one (.box (rdT r))] (.s (.one (iV r.prog.nodes.length))) [some (.box (rdT (putR (advR r) ⟨19, 0, noB, noB, noB, []⟩)))] := by
 have t0 := rTake_ok r k_if (by decide) h
 rw [take_no q0, q0] at t0
 have t1 := rTake_ok r k_while (by decide) h
 rw [take_no q1, q1] at t1
 have t2 := rTake_ok r k_call (by decide) h
 rw [take_no q2, q2] at t2
 have t3 := rTake_ok r k_print (by decide) h
 rw [take_no q3, q3] at t3
 have t4 := rTake_ok r k_read (by decide) h
 rw [take_no q4, q4] at t4
 have t5 := rTake_ok r k_delay (by decide) h
 rw [take_no q5, q5] at t5
 have t6 := rTake_ok r k_continue (by decide) h
 rw [take_no q6, q6] at t6
 have t7 := rTake_ok r k_skip (by decide) h
 rw [take_yes q7, q7] at t7
 have hadv : advR r = ⟨r.list, r.size, r.cur + 1, r.place, r.prog⟩ := rfl
 have hput := rPut_ok (advR r) ⟨19, 0, noB, noB, noB, []⟩ (by show r.prog.nodes.length ≤ _; omega) (by simp)
 have i0 : intsT [] = [] := rfl
 rw [hadv] at t7 hput ⊢
 dsimp only at hput ⊢
 clear hadv
 refine cOh 40 (hBd Tryz.func170 rfl (by kernel_rfl) ?_)
 simp (disch := omega) only [go_sem, Tryz.ntmps170, Tryz.results170]
 repeat' (first | (with_reducible first | refine i_seq ?_ | exact th_none | refine i_th (id := 8) (.ho [0, 1, 2] (opm 3 [1] [true] (opm 4 [1] [true] (opm 5 [] [false] (.ho [6] (opm 7 [] [] (.stop))))))) mixedT (by kernel_rfl) (fun Q' hQ => ?_) | refine i_th (id := 10) (.ho [0, 1, 2] (opm 3 [1] [true] (opm 4 [1] [true] (opm 5 [] [false] (.ho [6] (opm 7 [] [] (.stop))))))) mixedT (by kernel_rfl) (fun Q' hQ => ?_) | refine i_th (id := 14) (.ho [0, 1, 2] (opm 3 [1] [true] (opm 4 [1] [true] (opm 5 [] [false] (.ho [6] (opm 7 [] [] (.stop))))))) mixedT (by kernel_rfl) (fun Q' hQ => ?_)) | ((first | (with_reducible first | refine iBk ?_ | refine iRQ (fun Q' hQ => ?_) | (refine Imp.go hQ ?_; clear hQ) | refine th_ho ?_ | refine th_stop ?_ ?_ | refine th_opm ?_ (by kernel_rfl) (aLr ?_) | refine th_altm ?_ (by kernel_rfl) (aLr ?_) ?_) | ((with_reducible refine i_condT ?_ ?_); (focus (simp only [go_sem, *]; done))) | ((with_reducible refine i_condF ?_ ?_); (focus (simp only [go_sem, *]; done))) | ((with_reducible first | refine rOg (fun h => ?_) (fun h => ?_) | refine i_cond (by simp only [go_sem, *] <;> rfl) (fun h => ?_) (fun h => ?_)) <;> (try simp only [nqA, nqB, nqC, reduceCtorEq] at h) <;> (try have h' := odT h) <;> (try (have hz : (_ : Int) = (_ : Int) := h'; clear hz h')) <;> (try have h' := odF h) <;> (try have h' := inB_t h) <;> (try (exfalso; omega))) | ((first | ((with_reducible first | refine hcO 40 true (hput) ?_ ?_ ?_ ?_ ?_); iterate 4 (focus (simp (disch := omega) only [go_sem, aNl, i0, reduceCtorEq, nLo]; done))) | ((with_reducible refine hcO 40 true (t0) ?_ ?_ ?_ ?_ ?_); iterate 4 (focus (simp (disch := omega) only [go_sem, aNl, i0, reduceCtorEq, nLo]; done))) | ((with_reducible refine hcO 40 true (t1) ?_ ?_ ?_ ?_ ?_); iterate 4 (focus (simp (disch := omega) only [go_sem, aNl, i0, reduceCtorEq, nLo]; done))) | ((with_reducible refine hcO 40 true (t2) ?_ ?_ ?_ ?_ ?_); iterate 4 (focus (simp (disch := omega) only [go_sem, aNl, i0, reduceCtorEq, nLo]; done))) | ((with_reducible refine hcO 40 true (t3) ?_ ?_ ?_ ?_ ?_); iterate 4 (focus (simp (disch := omega) only [go_sem, aNl, i0, reduceCtorEq, nLo]; done))) | ((with_reducible refine hcO 40 true (t4) ?_ ?_ ?_ ?_ ?_); iterate 4 (focus (simp (disch := omega) only [go_sem, aNl, i0, reduceCtorEq, nLo]; done))) | ((with_reducible refine hcO 40 true (t5) ?_ ?_ ?_ ?_ ?_); iterate 4 (focus (simp (disch := omega) only [go_sem, aNl, i0, reduceCtorEq, nLo]; done))) | ((with_reducible refine hcO 40 true (t6) ?_ ?_ ?_ ?_ ?_); iterate 4 (focus (simp (disch := omega) only [go_sem, aNl, i0, reduceCtorEq, nLo]; done))) | ((with_reducible refine hcO 40 true (t7) ?_ ?_ ?_ ?_ ?_); iterate 4 (focus (simp (disch := omega) only [go_sem, aNl, i0, reduceCtorEq, nLo]; done)))); simp only [go_sem, aNl, i0, reduceCtorEq]; refine aLr ?_)) <;> (try simp (disch := first | omega | (simp only [sAp, size_mk, List.size_toArray, List.length_cons, List.length_nil]; omega)) only [go_sem, aNl, i0, reduceCtorEq, *])))
 all_goals (try simp (disch := omega) only [EndK, go_sem, aNl, i0, reduceCtorEq, nLo, *])
end Go.Proofs.YtejnpiielcbkkaaGreat.E
