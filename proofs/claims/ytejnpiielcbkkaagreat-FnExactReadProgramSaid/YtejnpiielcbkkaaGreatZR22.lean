/- A part of what stands under the laws of this seat: an abstract evaluator that is proved sound, and contracts of functions by it. No condition beside those that stand in each statement. -/
import Derived.Test.YtejnpiielcbkkaaGreatZR21
set_option linter.unusedVariables false
set_option linter.unusedSimpArgs false
set_option maxRecDepth 100000
set_option maxHeartbeats 4000000
namespace Go.Proofs.YtejnpiielcbkkaaGreat.E
theorem then_rows : ([[T.v (.string ⟨#[116, 104, 101, 110]⟩)]] : List (List T)) = strsT [k_then] := rfl
theorem do_rows : ([[T.v (.string ⟨#[100, 111]⟩)]] : List (List T)) = strsT [k_do] := rfl
theorem rStmt_set (r X : Rd) (k : Int) (h : RdOk r) (q0 : isR r k_if = false) (q1 : isR r k_while = false) (q2 : isR r k_call = false) (q3 : isR r k_print = false) (q4 : isR r k_read = false) (q5 : isR r k_delay = false) (q6 : isR r k_continue = false) (q7 : isR r k_skip = false) (hd : CallOk Tryz.prog 221 [.one (.box (rdT (wantL (nameR r).1 [k_asg])))] (.s (.one (iV k))) [some (.box (rdT X))]) (hN : X.prog.nodes.length ≤ 1000000) :
  CallOk Tryz.prog 170 [.one (.box (rdT r))] (.s (.one (iV X.prog.nodes.length))) [some (.box (rdT (putR X ⟨11, 0, (nameR r).2, noB, noB, [k]⟩)))] := by
 have t0 := rTake_ok r k_if (by decide) h
 rw [take_no q0, q0] at t0
 have t1 := rTake_ok r k_while (by decide) h
 rw [take_no q1, q1] at t1
 have t2 := rTake_ok r k_call (by decide) h
 rw [take_no q2, q2] at t2
 have t3 := rTake_ok r k_print (by decide) h
 rw [take_no q3, q3] at t3
 have t4 := rTake_ok r k_read (by decide) h
 rw [take_no q4, q4] at t4
 have t5 := rTake_ok r k_delay (by decide) h
 rw [take_no q5, q5] at t5
 have t6 := rTake_ok r k_continue (by decide) h
 rw [take_no q6, q6] at t6
 have t7 := rTake_ok r k_skip (by decide) h
 rw [take_no q7, q7] at t7
 have hn := rName_ok r h
 have hw := rWant_ok (nameR r).1 [k_asg] (one_ne (by decide)) (by decide) (name_keep h).1
 obtain ⟨⟨A, a⟩, hA⟩ : ∃ x, nameR r = x := ⟨_, rfl⟩
 rw [hA] at hn hw hd ⊢
 dsimp only at hn hw hd ⊢
 obtain ⟨A2, hA2⟩ : ∃ x, wantL A [k_asg] = x := ⟨_, rfl⟩
 rw [hA2] at hw hd
 have hput := rPut_ok X ⟨11, 0, a, noB, noB, [k]⟩ (by omega) (by simp)
 have i1 : intsT [k] = [[T.v (.int .i64 k)]] := rfl
 clear hA hA2
 refine cOh 40 (hBd Tryz.func170 rfl (by kernel_rfl) ?_)
 simp (disch := omega) only [go_sem, Tryz.ntmps170, Tryz.results170]
 repeat' (first | (with_reducible first | refine i_seq ?_ | exact th_none | refine i_th (id := 8) (.ho [0, 1, 2] (opm 3 [1] [true] (opm 4 [1] [true] (opm 5 [] [false] (.ho [6] (opm 7 [] [] (.stop))))))) mixedT (by kernel_rfl) (fun Q' hQ => ?_) | refine i_th (id := 10) (.ho [0, 1, 2] (opm 3 [1] [true] (opm 4 [1] [true] (opm 5 [] [false] (.ho [6] (opm 7 [] [] (.stop))))))) mixedT (by kernel_rfl) (fun Q' hQ => ?_) | refine i_th (id := 14) (.ho [0, 1, 2] (opm 3 [1] [true] (opm 4 [1] [true] (opm 5 [] [false] (.ho [6] (opm 7 [] [] (.stop))))))) mixedT (by kernel_rfl) (fun Q' hQ => ?_)) | ((first | (with_reducible first | refine iBk ?_ | refine iRQ (fun Q' hQ => ?_) | (refine Imp.go hQ ?_; clear hQ) | refine th_ho ?_ | refine th_stop ?_ ?_ | refine th_opm ?_ (by kernel_rfl) (aLr ?_) | refine th_altm ?_ (by kernel_rfl) (aLr ?_) ?_) | ((with_reducible refine i_condT ?_ ?_); (focus (simp only [go_sem, *]; done))) | ((with_reducible refine i_condF ?_ ?_); (focus (simp only [go_sem, *]; done))) | ((with_reducible first | refine rOg (fun h => ?_) (fun h => ?_) | refine i_cond (by simp only [go_sem, *] <;> rfl) (fun h => ?_) (fun h => ?_)) <;> (try simp only [nqA, nqB, nqC, reduceCtorEq] at h) <;> (try have h' := odT h) <;> (try (have hz : (_ : Int) = (_ : Int) := h'; clear hz h')) <;> (try have h' := odF h) <;> (try have h' := inB_t h) <;> (try (exfalso; omega))) | ((first | ((with_reducible first | refine hcO 40 true (hn) ?_ ?_ ?_ ?_ ?_ | refine hcO 40 true (hw) ?_ ?_ ?_ ?_ ?_ | refine hcO 40 true (hd) ?_ ?_ ?_ ?_ ?_ | refine hcO 40 true (hput) ?_ ?_ ?_ ?_ ?_); iterate 4 (focus (simp (disch := omega) only [go_sem, asg_rows, tSi, List.length_singleton, aNl, i1, reduceCtorEq, nLo]; done))) | ((with_reducible refine hcO 40 true (t0) ?_ ?_ ?_ ?_ ?_); iterate 4 (focus (simp (disch := omega) only [go_sem, asg_rows, tSi, List.length_singleton, aNl, i1, reduceCtorEq, nLo]; done))) | ((with_reducible refine hcO 40 true (t1) ?_ ?_ ?_ ?_ ?_); iterate 4 (focus (simp (disch := omega) only [go_sem, asg_rows, tSi, List.length_singleton, aNl, i1, reduceCtorEq, nLo]; done))) | ((with_reducible refine hcO 40 true (t2) ?_ ?_ ?_ ?_ ?_); iterate 4 (focus (simp (disch := omega) only [go_sem, asg_rows, tSi, List.length_singleton, aNl, i1, reduceCtorEq, nLo]; done))) | ((with_reducible refine hcO 40 true (t3) ?_ ?_ ?_ ?_ ?_); iterate 4 (focus (simp (disch := omega) only [go_sem, asg_rows, tSi, List.length_singleton, aNl, i1, reduceCtorEq, nLo]; done))) | ((with_reducible refine hcO 40 true (t4) ?_ ?_ ?_ ?_ ?_); iterate 4 (focus (simp (disch := omega) only [go_sem, asg_rows, tSi, List.length_singleton, aNl, i1, reduceCtorEq, nLo]; done))) | ((with_reducible refine hcO 40 true (t5) ?_ ?_ ?_ ?_ ?_); iterate 4 (focus (simp (disch := omega) only [go_sem, asg_rows, tSi, List.length_singleton, aNl, i1, reduceCtorEq, nLo]; done))) | ((with_reducible refine hcO 40 true (t6) ?_ ?_ ?_ ?_ ?_); iterate 4 (focus (simp (disch := omega) only [go_sem, asg_rows, tSi, List.length_singleton, aNl, i1, reduceCtorEq, nLo]; done))) | ((with_reducible refine hcO 40 true (t7) ?_ ?_ ?_ ?_ ?_); iterate 4 (focus (simp (disch := omega) only [go_sem, asg_rows, tSi, List.length_singleton, aNl, i1, reduceCtorEq, nLo]; done)))); simp only [go_sem, asg_rows, tSi, List.length_singleton, aNl, i1, reduceCtorEq]; refine aLr ?_)) <;> (try simp (disch := first | omega | (simp only [sAp, size_mk, List.size_toArray, List.length_cons, List.length_nil]; omega)) only [go_sem, asg_rows, tSi, List.length_singleton, aNl, i1, reduceCtorEq, *])))
 all_goals (try simp (disch := omega) only [EndK, go_sem, asg_rows, tSi, List.length_singleton, aNl, i1, reduceCtorEq, nLo, *])
theorem rStmt_call (r X : Rd) (nd : Node) (h : RdOk r) (q0 : isR r k_if = false) (q1 : isR r k_while = false) (q2 : isR r k_call = true) (hd : CallOk Tryz.prog 222 [.one (.box (rdT (advR r)))] (.s (.agg (nodeT nd))) [some (.box (rdT X))]) (hk : nd.kids.length ≤ 1048576) (hN : X.prog.nodes.length ≤ 1000000) :
  CallOk Tryz.prog 170 [.one (.box (rdT r))] (.s (.one (iV X.prog.nodes.length))) [some (.box (rdT (putR X nd)))] := by
 have t0 := rTake_ok r k_if (by decide) h
 rw [take_no q0, q0] at t0
 have t1 := rTake_ok r k_while (by decide) h
 rw [take_no q1, q1] at t1
 have t2 := rTake_ok r k_call (by decide) h
 rw [take_yes q2, q2] at t2
 have hadv : advR r = ⟨r.list, r.size, r.cur + 1, r.place, r.prog⟩ := rfl
 have hput := rPut_ok X nd (by omega) hk
 rw [hadv] at t2 hd
 clear hadv
 refine cOh 40 (hBd Tryz.func170 rfl (by kernel_rfl) ?_)
 simp (disch := omega) only [go_sem, Tryz.ntmps170, Tryz.results170]
 have x1 : HH 8 (.ho [0, 1, 2] (opm 3 [1] [true] (opm 4 [1] [true] (opm 5 [] [false] (.ho [6] (opm 7 [] [] (.stop))))))) := ⟨⟩
 have x2 : HH 10 (.ho [0, 1, 2] (opm 3 [1] [true] (opm 4 [1] [true] (opm 5 [] [false] (.ho [6] (opm 7 [] [] (.stop))))))) := ⟨⟩
 have x3 : HH 14 (.ho [0, 1, 2] (opm 3 [1] [true] (opm 4 [1] [true] (opm 5 [] [false] (.ho [6] (opm 7 [] [] (.stop))))))) := ⟨⟩
 have x4 : HC 1 _ := ⟨t0⟩
 have x5 : HC 2 _ := ⟨t1⟩
 have x6 : HC 3 _ := ⟨t2⟩
 exact wks
theorem rStmt_while (r A X : Rd) (k b : Int) (h : RdOk r) (q0 : isR r k_if = false) (q1 : isR r k_while = true) (hA : RdOk A) (hd : CallOk Tryz.prog 221 [.one (.box (rdT (advR r)))] (.s (.one (iV k))) [some (.box (rdT A))]) (hb : CallOk Tryz.prog 97 [.one (.box (rdT (wantL A [k_do])))] (.s (.one (iV b))) [some (.box (rdT X))]) (hN : X.prog.nodes.length ≤ 1000000) :
  CallOk Tryz.prog 170 [.one (.box (rdT r))] (.s (.one (iV X.prog.nodes.length))) [some (.box (rdT (putR X ⟨13, 0, noB, noB, noB, [k, b]⟩)))] := by
 have t0 := rTake_ok r k_if (by decide) h
 rw [take_no q0, q0] at t0
 have t1 := rTake_ok r k_while (by decide) h
 rw [take_yes q1, q1] at t1
 have hadv : advR r = ⟨r.list, r.size, r.cur + 1, r.place, r.prog⟩ := rfl
 have hw := rWant_ok A [k_do] (one_ne (by decide)) (by decide) hA
 obtain ⟨A2, hA2⟩ : ∃ x, wantL A [k_do] = x := ⟨_, rfl⟩
 rw [hA2] at hw hb
 have i1 : ([[T.v (.int .i64 k)]] : List (List T)) = intsT [k] := rfl
 have i2 : intsT [k] ++ [[T.v (.int .i64 b)]] = intsT [k, b] := rfl
 rw [hadv] at t1 hd
 clear hadv hA2
 have hput := rPut_ok X ⟨13, 0, noB, noB, noB, [k, b]⟩ (by omega) (by simp)
 refine cOh 40 (hBd Tryz.func170 rfl (by kernel_rfl) ?_)
 simp (disch := omega) only [go_sem, Tryz.ntmps170, Tryz.results170]
 have x1 := @do_rows
 have x2 := @tSi
 have x3 := @List.length_singleton.{0}
 have x4 := @aNl
 have x5 : HH 8 (.ho [0, 1, 2] (opm 3 [1] [true] (opm 4 [1] [true] (opm 5 [] [false] (.ho [6] (opm 7 [] [] (.stop))))))) := ⟨⟩
 have x6 : HH 10 (.ho [0, 1, 2] (opm 3 [1] [true] (opm 4 [1] [true] (opm 5 [] [false] (.ho [6] (opm 7 [] [] (.stop))))))) := ⟨⟩
 have x7 : HH 14 (.ho [0, 1, 2] (opm 3 [1] [true] (opm 4 [1] [true] (opm 5 [] [false] (.ho [6] (opm 7 [] [] (.stop))))))) := ⟨⟩
 have x8 : HC 1 _ := ⟨t0⟩
 have x9 : HC 2 _ := ⟨t1⟩
 exact wks
theorem rStmt_if (r A X : Rd) (k b : Int) (h : RdOk r)  (q0 : isR r k_if = true) (hA : RdOk A) (hd : CallOk Tryz.prog 221 [.one (.box (rdT (advR r)))] (.s (.one (iV k))) [some (.box (rdT A))]) (hb : CallOk Tryz.prog 97 [.one (.box (rdT (wantL A [k_then])))] (.s (.one (iV b))) [some (.box (rdT X))]) (hN : X.prog.nodes.length ≤ 1000000) (hX : RdOk X) (qe : isR X k_else = false) :
  CallOk Tryz.prog 170 [.one (.box (rdT r))] (.s (.one (iV X.prog.nodes.length))) [some (.box (rdT (putR X ⟨12, 0, noB, noB, noB, [k, b]⟩)))] := by
 have t0 := rTake_ok r k_if (by decide) h
 rw [take_yes q0, q0] at t0
 have hadv : advR r = ⟨r.list, r.size, r.cur + 1, r.place, r.prog⟩ := rfl
 have hw := rWant_ok A [k_then] (one_ne (by decide)) (by decide) hA
 obtain ⟨A2, hA2⟩ : ∃ x, wantL A [k_then] = x := ⟨_, rfl⟩
 rw [hA2] at hw hb
 have i1 : ([[T.v (.int .i64 k)]] : List (List T)) = intsT [k] := rfl
 have i2 : intsT [k] ++ [[T.v (.int .i64 b)]] = intsT [k, b] := rfl
 rw [hadv] at t0 hd
 clear hadv hA2
 have te := rTake_ok X k_else (by decide) hX
 rw [take_no qe, qe] at te
 have hput := rPut_ok X ⟨12, 0, noB, noB, noB, [k, b]⟩ (by omega) (by simp)
 refine cOh 40 (hBd Tryz.func170 rfl (by kernel_rfl) ?_)
 simp (disch := omega) only [go_sem, Tryz.ntmps170, Tryz.results170]
 have x1 := @then_rows
 have x2 := @tSi
 have x3 := @List.length_singleton.{0}
 have x4 := @aNl
 have x5 : HH 8 (.ho [0, 1, 2] (opm 3 [1] [true] (opm 4 [1] [true] (opm 5 [] [false] (.ho [6] (opm 7 [] [] (.stop))))))) := ⟨⟩
 have x6 : HH 10 (.ho [0, 1, 2] (opm 3 [1] [true] (opm 4 [1] [true] (opm 5 [] [false] (.ho [6] (opm 7 [] [] (.stop))))))) := ⟨⟩
 have x7 : HH 14 (.ho [0, 1, 2] (opm 3 [1] [true] (opm 4 [1] [true] (opm 5 [] [false] (.ho [6] (opm 7 [] [] (.stop))))))) := ⟨⟩
 have x8 : HC 1 _ := ⟨t0⟩
 have x9 : HC 2 _ := ⟨te⟩
 exact wks
theorem rStmt_else (r A X : Rd) (k b : Int) (h : RdOk r)  (q0 : isR r k_if = true) (hA : RdOk A) (hd : CallOk Tryz.prog 221 [.one (.box (rdT (advR r)))] (.s (.one (iV k))) [some (.box (rdT A))]) (hb : CallOk Tryz.prog 97 [.one (.box (rdT (wantL A [k_then])))] (.s (.one (iV b))) [some (.box (rdT X))]) (hN : X.prog.nodes.length ≤ 1000000) (Y : Rd) (c : Int) (hX : RdOk X) (qe : isR X k_else = true) (hc : CallOk Tryz.prog 97 [.one (.box (rdT (advR X)))] (.s (.one (iV c))) [some (.box (rdT Y))]) (hNY : Y.prog.nodes.length ≤ 1000000) :
  CallOk Tryz.prog 170 [.one (.box (rdT r))] (.s (.one (iV Y.prog.nodes.length))) [some (.box (rdT (putR Y ⟨12, 0, noB, noB, noB, [k, b, c]⟩)))] := by
 have t0 := rTake_ok r k_if (by decide) h
 rw [take_yes q0, q0] at t0
 have hadv : advR r = ⟨r.list, r.size, r.cur + 1, r.place, r.prog⟩ := rfl
 have hw := rWant_ok A [k_then] (one_ne (by decide)) (by decide) hA
 obtain ⟨A2, hA2⟩ : ∃ x, wantL A [k_then] = x := ⟨_, rfl⟩
 rw [hA2] at hw hb
 have i1 : ([[T.v (.int .i64 k)]] : List (List T)) = intsT [k] := rfl
 have i2 : intsT [k] ++ [[T.v (.int .i64 b)]] = intsT [k, b] := rfl
 rw [hadv] at t0 hd
 clear hadv hA2
 have te := rTake_ok X k_else (by decide) hX
 rw [take_yes qe, qe] at te
 have hadvX : advR X = ⟨X.list, X.size, X.cur + 1, X.place, X.prog⟩ := rfl
 rw [hadvX] at te hc
 clear hadvX
 have i3 : intsT [k, b] ++ [[T.v (.int .i64 c)]] = intsT [k, b, c] := rfl
 have hput := rPut_ok Y ⟨12, 0, noB, noB, noB, [k, b, c]⟩ (by omega) (by simp)
 refine cOh 40 (hBd Tryz.func170 rfl (by kernel_rfl) ?_)
 simp (disch := omega) only [go_sem, Tryz.ntmps170, Tryz.results170]
 have x1 := @then_rows
 have x2 := @tSi
 have x3 := @List.length_singleton.{0}
 have x4 := @aNl
 have x5 : HH 8 (.ho [0, 1, 2] (opm 3 [1] [true] (opm 4 [1] [true] (opm 5 [] [false] (.ho [6] (opm 7 [] [] (.stop))))))) := ⟨⟩
 have x6 : HH 10 (.ho [0, 1, 2] (opm 3 [1] [true] (opm 4 [1] [true] (opm 5 [] [false] (.ho [6] (opm 7 [] [] (.stop))))))) := ⟨⟩
 have x7 : HH 14 (.ho [0, 1, 2] (opm 3 [1] [true] (opm 4 [1] [true] (opm 5 [] [false] (.ho [6] (opm 7 [] [] (.stop))))))) := ⟨⟩
 have x8 : HC 1 _ := ⟨t0⟩
 have x9 : HC 1 _ := ⟨hb⟩
 have x10 : HC 2 _ := ⟨te⟩
 have x11 : HC 2 _ := ⟨hc⟩
 exact wks
end Go.Proofs.YtejnpiielcbkkaaGreat.E
