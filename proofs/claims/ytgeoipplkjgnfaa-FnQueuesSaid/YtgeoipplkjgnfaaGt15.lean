import Derived.Test.YtgeoipplkjgnfaaGt14
import Derived.Test.YtgeoipplkjgnfaaGt14p
import Derived.Test.YtgeoipplkjgnfaaEng27
set_option linter.unusedVariables false
set_option linter.unusedSimpArgs false
set_option maxRecDepth 100000
set_option maxHeartbeats 4000000
namespace Go.Proofs.Ytgeoipplkjgnfaa.E
def goodGate (g : Gate) : Prop := gateOk g = true ∧ 2 ≤ g.queues.length ∧ g.queues.length ≤ 2
def dgInv (p : Nat × Gate × Cur) : Prop := p.1 ≤ 12 ∧ goodGate p.2.1 ∧ p.2.1.waits.length ≤ p.1 ∧ okCur p.2.2
theorem dg_arrive {k : Nat} {g : Gate} {c c' : Cur} {p : Int} (h : dgInv (k, g, c)) (hk : k + 1 ≤ 12) (hc : okCur c') : dgInv (k + 1, (arrive g p).1, c') := by
  obtain ⟨h1, ⟨h2, h3, h4⟩, h5, h6⟩ := h
  obtain ⟨a1, a2⟩ := arrive_len g p
  simp only at h1 h2 h3 h4 h5
  exact ⟨hk, ⟨arrive_good h2, by rw [a2]; exact h3, by rw [a2]; exact h4⟩, by simp only; omega, hc⟩
theorem dg_leave {k : Nat} {g : Gate} {c c' : Cur} (h : dgInv (k, g, c)) (hk : k + 1 ≤ 12) (hc : okCur c') : dgInv (k + 1, (leave g).1, c') := by
  obtain ⟨h1, ⟨h2, h3, h4⟩, h5, h6⟩ := h
  have a1 := leave_len g
  simp only at h1 h2 h3 h4 h5
  exact ⟨hk, ⟨leave_good h2, by rw [leave_q]; exact h3, by rw [leave_q]; exact h4⟩, by simp only; omega, hc⟩
theorem dg_delay {k : Nat} {g : Gate} {c c' : Cur} {p : Int} (h : dgInv (k, g, c)) (hk : k + 1 ≤ 12) (hc : okCur c') : dgInv (k + 1, (delayIn g p).1, c') := by
  obtain ⟨h1, ⟨h2, h3, h4⟩, h5, h6⟩ := h
  obtain ⟨a1, a2⟩ := delayIn_len g p
  simp only at h1 h2 h3 h4 h5
  exact ⟨hk, ⟨delayIn_good h2, by rw [a2]; exact h3, by rw [a2]; exact h4⟩, by simp only; omega, hc⟩
theorem dg_cont {k : Nat} {g : Gate} {c c' : Cur} {p : Int} (h : dgInv (k, g, c)) (hk : k + 1 ≤ 12) (hc : okCur c') : dgInv (k + 1, (continueAt g p).1, c') := by
  obtain ⟨h1, ⟨h2, h3, h4⟩, h5, h6⟩ := h
  obtain ⟨a1, a2⟩ := continueAt_len g p
  simp only at h1 h2 h3 h4 h5
  exact ⟨hk, ⟨continueAt_good h2, by rw [a2]; exact h3, by rw [a2]; exact h4⟩, by simp only; omega, hc⟩
theorem drawGate_e (c : Cur) (hc : okCur c) : CallE Try.prog 66 [.one (.box (curT c))] (fun x : Gate × Cur => .s (.agg (gateT x.1))) (fun x => [some (.box (curT x.2))]) (fun x => goodGate x.1 ∧ x.1.waits.length ≤ 12 ∧ okCur x.2) := by
  refine callE_of_hcall 40 (hcall_of_body Try.func66 rfl (by kernel_rfl) ?_)
  simp (disch := omega) only [go_sem, Try.ntmps66, Try.results66]
  repeat' (first
    | (with_reducible refine i_seq ?_)
    | ((with_reducible refine i_block ?_); (try simp (disch := omega) only [go_sem, *]))
    | ((with_reducible refine i_regionQ (fun Q' hQ => ?_)); (try simp (disch := omega) only [go_sem, *]))
    | ((with_reducible refine Imp.go hQ ?_); clear hQ; (try simp (disch := omega) only [go_sem, *]))
    | ((with_reducible refine resOk_g (fun h => ?_) (fun h => ?_)) <;> (try simp only [Bool.not_eq_eq_eq_not, Bool.not_true, Bool.not_false, reduceCtorEq] at h) <;> (try have h' := of_decide_eq_true h) <;> (try (have hz : (_ : Int) = (_ : Int) := h'; clear hz h')) <;> (try have h' := of_decide_eq_false h) <;> (try have h' := inB_t h) <;> (try (exfalso; omega)) <;> (try simp (disch := omega) only [go_sem, *]))
    | (((with_reducible refine i_condT ?_ ?_); (focus (simp only [go_sem, *]; done))) <;> (try simp (disch := omega) only [go_sem, *]))
    | (((with_reducible refine i_condF ?_ ?_); (focus (simp only [go_sem, *]; done))) <;> (try simp (disch := omega) only [go_sem, *]))
    | ((with_reducible refine i_cond (by simp only [go_sem, *] <;> rfl) (fun h => ?_) (fun h => ?_)) <;> (try simp only [Bool.not_eq_eq_eq_not, Bool.not_true, Bool.not_false, reduceCtorEq] at h) <;> (try have h' := of_decide_eq_true h) <;> (try (have hz : (_ : Int) = (_ : Int) := h'; clear hz h')) <;> (try have h' := of_decide_eq_false h) <;> (try have h' := inB_t h) <;> (try (exfalso; omega)) <;> (try simp (disch := omega) only [go_sem, *]))
    | (with_reducible refine i_th (id := 10) (.ho [0, 1] (opm 2 [0] [true] (opm 3 [] [false] (.ho [4, 5, 6] (opm 7 [] [] (.stop)))))) mixedT (by kernel_rfl) (fun Q' hQ => ?_))
    | (with_reducible refine i_th (id := 14) (.ho [0, 1] (opm 2 [0] [true] (opm 3 [] [false] (.ho [4, 5, 6, 7] (opm 8 [] [] (.stop)))))) mixedT (by kernel_rfl) (fun Q' hQ => ?_))
    | (with_reducible refine i_th (id := 6) (.ho [0, 1] (opm 2 [0] [true] (opm 3 [] [false] (.ho [4, 5, 6] (opm 7 [] [] (.stop)))))) mixedT (by kernel_rfl) (fun Q' hQ => ?_))
    | (with_reducible exact th_none)
    | ((with_reducible refine th_stop ?_ ?_) <;> (try simp (disch := omega) only [go_sem, *]))
    | ((with_reducible refine th_ho ?_); (try simp (disch := omega) only [go_sem, *]))
    | ((with_reducible refine th_opm ?_ (by kernel_rfl) (aL_run ?_)) <;> (try simp (disch := omega) only [go_sem, *]))
    | ((with_reducible refine th_altm ?_ (by kernel_rfl) (aL_run ?_) ?_) <;> (try simp (disch := omega) only [go_sem, *]))
    | ((with_reducible refine hcall_of_callOk 40 false (sGateNew_ok 2) ?_ ?_ ?_ ?_ ?_); (focus (simp (disch := omega) only [go_sem, natLe_ok]; done)); (focus (simp (disch := omega) only [go_sem, natLe_ok]; done)); (focus (simp (disch := omega) only [go_sem, natLe_ok]; done)); (focus (simp (disch := omega) only [go_sem, natLe_ok]; done)); simp only [go_sem]; refine aL_run ?_; (try simp (disch := omega) only [go_sem, *])))
  all_goals (try simp (disch := omega) only [EndK, go_sem, natLe_ok, *])
  refine i_loop (α := {p : Nat × Gate × Cur // dgInv p}) (fun p => ⟨mkEnv 50 [(0, .one (.ptr 0 0 0)), (2, .one (.ptr 1 0 0)), (3, .one (.ptr 2 0 0)), (4, .one (iV p.1.1))], [.live 3 [curT p.1.2.2], .live 3 [[iV 0, .v nilV, .v nilV]], .live 3 [[iV p.1.2.1.owner, .ref 3 0 p.1.2.1.waits.length, .ref 4 0 p.1.2.1.queues.length]], .live 1 (intsT p.1.2.1.waits), .live 1 (intsT p.1.2.1.queues)]⟩) (fun p => 12 - p.1.1) ⟨(0, gateNew 2, c), by omega, ⟨rfl, Nat.le_refl _, Nat.le_refl _⟩, by simp [gateNew], hc⟩ ?_ ?_
  · have e1 : intsT (gateNew 2).waits = [] := rfl
    have e2 : (gateNew 2).waits.length = 0 := rfl
    (refine weak_canon [0, 2, 3, 4] [1, 4, 2, 3] ?_ ?_ ?_ <;> (simp (disch := omega) only [go_sem, e1, e2]; done))
  rintro ⟨⟨k, g, c1⟩, hd⟩
  obtain ⟨hk, ⟨hg, hqa, hqb⟩, hw, hc1⟩ := id hd
  simp only at hk hg hqa hqb hw hc1
  have hsm : smGate g := ⟨by omega, by omega⟩
  have hc2 := belN_ok 12 hc1
  have hc3 := belN_ok 6 hc2
  have hc4 := belN_ok 4 hc3
  have hc5 := belN_ok 2 hc3
  have hb12 := bel_le c1 12 (by omega)
  simp (disch := omega) only [go_sem]
  repeat' (first
    | (with_reducible refine i_seq ?_)
    | ((with_reducible refine i_block ?_); (try simp (disch := omega) only [go_sem, *]))
    | ((with_reducible refine i_regionQ (fun Q' hQ => ?_)); (try simp (disch := omega) only [go_sem, *]))
    | ((with_reducible refine Imp.go hQ ?_); clear hQ; (try simp (disch := omega) only [go_sem, *]))
    | ((with_reducible refine resOk_g (fun h => ?_) (fun h => ?_)) <;> (try simp only [Bool.not_eq_eq_eq_not, Bool.not_true, Bool.not_false, reduceCtorEq] at h) <;> (try have h' := of_decide_eq_true h) <;> (try (have hz : (_ : Int) = (_ : Int) := h'; clear hz h')) <;> (try have h' := of_decide_eq_false h) <;> (try have h' := inB_t h) <;> (try (exfalso; omega)) <;> (try simp (disch := omega) only [go_sem, *]))
    | (((with_reducible refine i_condT ?_ ?_); (focus (simp only [go_sem, *]; done))) <;> (try simp (disch := omega) only [go_sem, *]))
    | (((with_reducible refine i_condF ?_ ?_); (focus (simp only [go_sem, *]; done))) <;> (try simp (disch := omega) only [go_sem, *]))
    | ((with_reducible refine i_cond (by simp only [go_sem, *] <;> rfl) (fun h => ?_) (fun h => ?_)) <;> (try simp only [Bool.not_eq_eq_eq_not, Bool.not_true, Bool.not_false, reduceCtorEq] at h) <;> (try have h' := of_decide_eq_true h) <;> (try (have hz : (_ : Int) = (_ : Int) := h'; clear hz h')) <;> (try have h' := of_decide_eq_false h) <;> (try have h' := inB_t h) <;> (try (exfalso; omega)) <;> (try simp (disch := omega) only [go_sem, *]))
    | (with_reducible refine i_th (id := 10) (.ho [0, 1] (opm 2 [0] [true] (opm 3 [] [false] (.ho [4, 5, 6] (opm 7 [] [] (.stop)))))) mixedT (by kernel_rfl) (fun Q' hQ => ?_))
    | (with_reducible refine i_th (id := 14) (.ho [0, 1] (opm 2 [0] [true] (opm 3 [] [false] (.ho [4, 5, 6, 7] (opm 8 [] [] (.stop)))))) mixedT (by kernel_rfl) (fun Q' hQ => ?_))
    | (with_reducible refine i_th (id := 6) (.ho [0, 1] (opm 2 [0] [true] (opm 3 [] [false] (.ho [4, 5, 6] (opm 7 [] [] (.stop)))))) mixedT (by kernel_rfl) (fun Q' hQ => ?_))
    | (with_reducible exact th_none)
    | ((with_reducible refine th_stop ?_ ?_) <;> (try simp (disch := omega) only [go_sem, *]))
    | ((with_reducible refine th_ho ?_); (try simp (disch := omega) only [go_sem, *]))
    | ((with_reducible refine th_opm ?_ (by kernel_rfl) (aL_run ?_)) <;> (try simp (disch := omega) only [go_sem, *]))
    | ((with_reducible refine th_altm ?_ (by kernel_rfl) (aL_run ?_) ?_) <;> (try simp (disch := omega) only [go_sem, *]))
    | ((with_reducible refine hcall_of_callOk 40 false (sBelow_ok c1 12 hc1) ?_ ?_ ?_ ?_ ?_); (focus (simp (disch := omega) only [go_sem, natLe_ok]; done)); (focus (simp (disch := omega) only [go_sem, natLe_ok]; done)); (focus (simp (disch := omega) only [go_sem, natLe_ok]; done)); (focus (simp (disch := omega) only [go_sem, natLe_ok]; done)); simp only [go_sem]; refine aL_run ?_; (try simp (disch := omega) only [go_sem, *]))
    | ((with_reducible refine hcall_of_callOk 40 false (sBelow_ok (belN c1 12) 6 hc2) ?_ ?_ ?_ ?_ ?_); (focus (simp (disch := omega) only [go_sem, natLe_ok]; done)); (focus (simp (disch := omega) only [go_sem, natLe_ok]; done)); (focus (simp (disch := omega) only [go_sem, natLe_ok]; done)); (focus (simp (disch := omega) only [go_sem, natLe_ok]; done)); simp only [go_sem]; refine aL_run ?_; (try simp (disch := omega) only [go_sem, *]))
    | ((with_reducible refine hcall_of_callOk 40 false (sBelow_ok (belN (belN c1 12) 6) 4 hc3) ?_ ?_ ?_ ?_ ?_); (focus (simp (disch := omega) only [go_sem, natLe_ok]; done)); (focus (simp (disch := omega) only [go_sem, natLe_ok]; done)); (focus (simp (disch := omega) only [go_sem, natLe_ok]; done)); (focus (simp (disch := omega) only [go_sem, natLe_ok]; done)); simp only [go_sem]; refine aL_run ?_; (try simp (disch := omega) only [go_sem, *]))
    | ((with_reducible refine hcall_of_callOk 40 false (sBelow_ok (belN (belN c1 12) 6) 2 hc3) ?_ ?_ ?_ ?_ ?_); (focus (simp (disch := omega) only [go_sem, natLe_ok]; done)); (focus (simp (disch := omega) only [go_sem, natLe_ok]; done)); (focus (simp (disch := omega) only [go_sem, natLe_ok]; done)); (focus (simp (disch := omega) only [go_sem, natLe_ok]; done)); simp only [go_sem]; refine aL_run ?_; (try simp (disch := omega) only [go_sem, *]))
    | ((with_reducible refine hcall_of_callOk 40 true (sArrive_ok g (bel (belN (belN c1 12) 6) 4) hsm) ?_ ?_ ?_ ?_ ?_); (focus (simp (disch := omega) only [go_sem, natLe_ok]; done)); (focus (simp (disch := omega) only [go_sem, natLe_ok]; done)); (focus (simp (disch := omega) only [go_sem, natLe_ok]; done)); (focus (simp (disch := omega) only [go_sem, natLe_ok]; done)); simp only [go_sem]; refine aL_run ?_; (try simp (disch := omega) only [go_sem, *]))
    | ((with_reducible refine hcall_of_callOk 40 true (sLeave_ok g hsm) ?_ ?_ ?_ ?_ ?_); (focus (simp (disch := omega) only [go_sem, natLe_ok]; done)); (focus (simp (disch := omega) only [go_sem, natLe_ok]; done)); (focus (simp (disch := omega) only [go_sem, natLe_ok]; done)); (focus (simp (disch := omega) only [go_sem, natLe_ok]; done)); simp only [go_sem]; refine aL_run ?_; (try simp (disch := omega) only [go_sem, *]))
    | ((with_reducible refine hcall_of_callOk 40 true (sDelayIn_ok g (bel (belN (belN c1 12) 6) 2) hsm) ?_ ?_ ?_ ?_ ?_); (focus (simp (disch := omega) only [go_sem, natLe_ok]; done)); (focus (simp (disch := omega) only [go_sem, natLe_ok]; done)); (focus (simp (disch := omega) only [go_sem, natLe_ok]; done)); (focus (simp (disch := omega) only [go_sem, natLe_ok]; done)); simp only [go_sem]; refine aL_run ?_; (try simp (disch := omega) only [go_sem, *]))
    | ((with_reducible refine hcall_of_callOk 40 true (sContinueAt_ok g (bel (belN (belN c1 12) 6) 2) hsm) ?_ ?_ ?_ ?_ ?_); (focus (simp (disch := omega) only [go_sem, natLe_ok]; done)); (focus (simp (disch := omega) only [go_sem, natLe_ok]; done)); (focus (simp (disch := omega) only [go_sem, natLe_ok]; done)); (focus (simp (disch := omega) only [go_sem, natLe_ok]; done)); simp only [go_sem]; refine aL_run ?_; (try simp (disch := omega) only [go_sem, *])))
  all_goals (try simp (disch := omega) only [EndK, go_sem, natLe_ok, *])
  all_goals by_cases hz : k + 1 ≤ 12
  all_goals (try (exfalso; omega))
  all_goals first
    | (refine ⟨⟨_, dg_arrive (p := bel (belN (belN c1 12) 6) 4) hd hz hc4⟩, ?_, ?_⟩ <;> first | (simp only; omega) | (refine weak_canon [0, 2, 3, 4] [1, 2, 5, 6] ?_ ?_ ?_ <;> (simp (disch := omega) only [go_sem]; done)))
    | (refine ⟨⟨_, dg_leave hd hz hc3⟩, ?_, ?_⟩ <;> first | (simp only; omega) | (refine weak_canon [0, 2, 3, 4] [1, 2, 5, 6] ?_ ?_ ?_ <;> (simp (disch := omega) only [go_sem]; done)))
    | (refine ⟨⟨_, dg_delay (p := bel (belN (belN c1 12) 6) 2) hd hz hc5⟩, ?_, ?_⟩ <;> first | (simp only; omega) | (refine weak_canon [0, 2, 3, 4] [1, 2, 5, 6] ?_ ?_ ?_ <;> (simp (disch := omega) only [go_sem]; done)))
    | (refine ⟨⟨_, dg_cont (p := bel (belN (belN c1 12) 6) 2) hd hz hc5⟩, ?_, ?_⟩ <;> first | (simp only; omega) | (refine weak_canon [0, 2, 3, 4] [1, 2, 5, 6] ?_ ?_ ?_ <;> (simp (disch := omega) only [go_sem]; done)))
    | exact ⟨(g, belN c1 12), ⟨⟨hg, hqa, hqb⟩, Nat.le_trans hw hk, hc2⟩, ⟨rfl, rfl, rfl⟩, rfl, rfl, rfl⟩
    | trace_state
end Go.Proofs.Ytgeoipplkjgnfaa.E
