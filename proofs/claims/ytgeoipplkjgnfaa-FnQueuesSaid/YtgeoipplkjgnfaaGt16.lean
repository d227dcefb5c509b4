import Derived.Test.YtgeoipplkjgnfaaGt15
set_option linter.unusedVariables false
set_option linter.unusedSimpArgs false
set_option maxRecDepth 100000
set_option maxHeartbeats 4000000
namespace Go.Proofs.Ytgeoipplkjgnfaa.E
theorem smGate_mk {g : Gate} (h1 : g.waits.length ≤ 1099511627776) (h2 : g.queues.length ≤ 1099511627776) : smGate g := ⟨h1, h2⟩
theorem tmod_in {x : Int} (n : Int) (h : 0 ≤ x) (hn : 0 < n) : 0 ≤ x.tmod n ∧ x.tmod n < n := ⟨Int.tmod_nonneg _ h, Int.tmod_lt_of_pos _ hn⟩
def anyGate (x : Gate × Cur) : Prop := x.1.waits.length ≤ 20 ∧ x.1.queues.length ≤ 20 ∧ okCur x.2
theorem anyGate_e (c : Cur) (hc : okCur c) : CallE Try.prog 75 [.one (.box (curT c))] (fun x : Gate × Cur => .s (.agg (gateT x.1))) (fun x => [some (.box (curT x.2))]) anyGate := by
  have hc1 := belN_ok 12 hc
  have hc2 := belN_ok 60 hc1
  have hb := bel_le (belN c 12) 60 (by omega)
  have t2 := tmod_in 2 hb.1 (by omega)
  have t6 := tmod_in 6 hb.1 (by omega)
  have t7 := tmod_in 7 hb.1 (by omega)
  refine callE_of_hcall 40 (hcall_of_body Try.func75 rfl (by kernel_rfl) ?_)
  simp (disch := omega) only [go_sem, Try.ntmps75, Try.results75]
  repeat' (first
    | (with_reducible refine i_seq ?_)
    | ((with_reducible refine i_block ?_); (try simp (disch := omega) only [go_sem, *]))
    | ((with_reducible refine i_regionQ (fun Q' hQ => ?_)); (try simp (disch := omega) only [go_sem, *]))
    | ((with_reducible refine Imp.go hQ ?_); clear hQ; (try simp (disch := omega) only [go_sem, *]))
    | ((with_reducible refine resOk_g (fun h => ?_) (fun h => ?_)) <;> (try simp only [Bool.not_eq_eq_eq_not, Bool.not_true, Bool.not_false, reduceCtorEq] at h) <;> (try have h' := of_decide_eq_true h) <;> (try (have hz : (_ : Int) = (_ : Int) := h'; clear hz h')) <;> (try have h' := of_decide_eq_false h) <;> (try have h' := inB_t h) <;> (try (exfalso; omega)) <;> (try simp (disch := omega) only [go_sem, *]))
    | (((with_reducible refine i_condT ?_ ?_); (focus (simp only [go_sem, *]; done))) <;> (try simp (disch := omega) only [go_sem, *]))
    | (((with_reducible refine i_condF ?_ ?_); (focus (simp only [go_sem, *]; done))) <;> (try simp (disch := omega) only [go_sem, *]))
    | ((with_reducible refine i_cond (by simp only [go_sem, *] <;> rfl) (fun h => ?_) (fun h => ?_)) <;> (try simp only [Bool.not_eq_eq_eq_not, Bool.not_true, Bool.not_false, reduceCtorEq] at h) <;> (try have h' := of_decide_eq_true h) <;> (try (have hz : (_ : Int) = (_ : Int) := h'; clear hz h')) <;> (try have h' := of_decide_eq_false h) <;> (try have h' := inB_t h) <;> (try (exfalso; omega)) <;> (try simp (disch := omega) only [go_sem, *]))
    | ((with_reducible refine hcall_of_callOk 40 false (sBelow_ok c 12 hc) ?_ ?_ ?_ ?_ ?_); (focus (simp (disch := omega) only [go_sem, natLe_ok]; done)); (focus (simp (disch := omega) only [go_sem, natLe_ok]; done)); (focus (simp (disch := omega) only [go_sem, natLe_ok]; done)); (focus (simp (disch := omega) only [go_sem, natLe_ok]; done)); simp only [go_sem]; refine aL_run ?_; (try simp (disch := omega) only [go_sem, *]))
    | ((with_reducible refine hcall_of_callOk 40 false (sBelow_ok (belN c 12) 60 hc1) ?_ ?_ ?_ ?_ ?_); (focus (simp (disch := omega) only [go_sem, natLe_ok]; done)); (focus (simp (disch := omega) only [go_sem, natLe_ok]; done)); (focus (simp (disch := omega) only [go_sem, natLe_ok]; done)); (focus (simp (disch := omega) only [go_sem, natLe_ok]; done)); simp only [go_sem]; refine aL_run ?_; (try simp (disch := omega) only [go_sem, *]))
    | ((with_reducible refine hcall_of_callE 40 false (drawGate_e (belN (belN c 12) 60) hc2) ?_ ?_ ?_ ?_ ?_); (focus (simp (disch := omega) only [go_sem, natLe_ok]; done)); (focus (simp (disch := omega) only [go_sem, natLe_ok]; done)); (focus (rintro ⟨g, c2⟩ ⟨⟨hg, hqa, hqb⟩, hw, hc3⟩; (try dsimp only at hg); (try dsimp only at hqa); (try dsimp only at hqb); (try dsimp only at hw); (try dsimp only at hc3); (try simp (disch := omega) only [go_sem, natLe_ok]); done)); (focus (rintro ⟨g, c2⟩ ⟨⟨hg, hqa, hqb⟩, hw, hc3⟩; (try dsimp only at hg); (try dsimp only at hqa); (try dsimp only at hqb); (try dsimp only at hw); (try dsimp only at hc3); (try simp (disch := omega) only [go_sem, natLe_ok]); done)); rintro ⟨g, c2⟩ ⟨⟨hg, hqa, hqb⟩, hw, hc3⟩; (try dsimp only at hg); (try dsimp only at hqa); (try dsimp only at hqb); (try dsimp only at hw); (try dsimp only at hc3); simp only [go_sem]; refine aL_run ?_; (try simp (disch := omega) only [go_sem, *]))
    | ((with_reducible refine hcall_of_callOk 40 true (specCopy_ok g (smGate_mk (by omega) (by omega))) ?_ ?_ ?_ ?_ ?_); (focus (simp (disch := omega) only [go_sem, natLe_ok]; done)); (focus (simp (disch := omega) only [go_sem, natLe_ok]; done)); (focus (simp (disch := omega) only [go_sem, natLe_ok]; done)); (focus (simp (disch := omega) only [go_sem, natLe_ok]; done)); simp only [go_sem]; refine aL_run ?_; (try simp (disch := omega) only [go_sem, *])))
  all_goals (try simp (disch := omega) only [EndK, go_sem, natLe_ok, *])
  all_goals simp only [anyGate]
  · exact ⟨(⟨_, g.waits, g.queues⟩, c2), ⟨by simp only; omega, by simp only; omega, hc3⟩, ⟨rfl, rfl, rfl⟩, rfl, rfl, rfl⟩
  · exact ⟨(⟨g.owner, g.waits ++ [_], g.queues⟩, c2), ⟨by simp; omega, by simp only; omega, hc3⟩, ⟨rfl, rfl, rfl⟩, rfl, rfl, rfl⟩
  · exact ⟨(⟨g.owner, g.waits, g.queues.set _ _⟩, c2), ⟨by simp only; omega, by simp; omega, hc3⟩, ⟨rfl, rfl, rfl⟩, rfl, rfl, rfl⟩
  · exact ⟨(⟨g.owner, g.waits, g.queues ++ [_]⟩, c2), ⟨by simp only; omega, by simp; omega, hc3⟩, ⟨rfl, rfl, rfl⟩, rfl, rfl, rfl⟩
  · exact ⟨(g, c2), ⟨by simp only; omega, by simp only; omega, hc3⟩, ⟨rfl, rfl, rfl⟩, rfl, rfl, rfl⟩
/-! ### The draws of the laws -/
theorem dGate_e (b : List Int) (hb : b.length ≤ 1099511627776) : CallE Try.prog 23 [.one (.ro 1 (bytesD b))] (fun g : Gate => .s (.agg (gateT g))) (fun _ => [none]) (fun g => goodGate g ∧ g.waits.length ≤ 12) := by
  have hc := curNew_ok hb
  refine callE_of_hcall 40 (hcall_of_body Try.func23 rfl (by kernel_rfl) ?_)
  simp (disch := omega) only [go_sem, Try.ntmps23, Try.results23]
  repeat' (first
    | (with_reducible refine i_seq ?_)
    | ((with_reducible refine i_block ?_); (try simp (disch := omega) only [go_sem, *]))
    | ((with_reducible refine i_regionQ (fun Q' hQ => ?_)); (try simp (disch := omega) only [go_sem, *]))
    | ((with_reducible refine Imp.go hQ ?_); clear hQ; (try simp (disch := omega) only [go_sem, *]))
    | ((with_reducible refine resOk_g (fun h => ?_) (fun h => ?_)) <;> (try simp only [Bool.not_eq_eq_eq_not, Bool.not_true, Bool.not_false, reduceCtorEq] at h) <;> (try have h' := of_decide_eq_true h) <;> (try (have hz : (_ : Int) = (_ : Int) := h'; clear hz h')) <;> (try have h' := of_decide_eq_false h) <;> (try have h' := inB_t h) <;> (try (exfalso; omega)) <;> (try simp (disch := omega) only [go_sem, *]))
    | (((with_reducible refine i_condT ?_ ?_); (focus (simp only [go_sem, *]; done))) <;> (try simp (disch := omega) only [go_sem, *]))
    | (((with_reducible refine i_condF ?_ ?_); (focus (simp only [go_sem, *]; done))) <;> (try simp (disch := omega) only [go_sem, *]))
    | ((with_reducible refine i_cond (by simp only [go_sem, *] <;> rfl) (fun h => ?_) (fun h => ?_)) <;> (try simp only [Bool.not_eq_eq_eq_not, Bool.not_true, Bool.not_false, reduceCtorEq] at h) <;> (try have h' := of_decide_eq_true h) <;> (try (have hz : (_ : Int) = (_ : Int) := h'; clear hz h')) <;> (try have h' := of_decide_eq_false h) <;> (try have h' := inB_t h) <;> (try (exfalso; omega)) <;> (try simp (disch := omega) only [go_sem, *]))
    | ((with_reducible refine hcall_of_callOk 40 false (sNew_ok b hb) ?_ ?_ ?_ ?_ ?_); (focus (simp (disch := omega) only [go_sem, natLe_ok]; done)); (focus (simp (disch := omega) only [go_sem, natLe_ok]; done)); (focus (simp (disch := omega) only [go_sem, natLe_ok]; done)); (focus (simp (disch := omega) only [go_sem, natLe_ok]; done)); simp only [go_sem]; refine aL_run ?_; (try simp (disch := omega) only [go_sem, *]))
    | ((with_reducible refine hcall_of_callE 40 false (drawGate_e (curNew b) hc) ?_ ?_ ?_ ?_ ?_); (focus (simp (disch := omega) only [go_sem, natLe_ok]; done)); (focus (simp (disch := omega) only [go_sem, natLe_ok]; done)); (focus (rintro ⟨g, c2⟩ ⟨⟨hg, hqa, hqb⟩, hw, hc3⟩; (try dsimp only at hg); (try dsimp only at hqa); (try dsimp only at hqb); (try dsimp only at hw); (try dsimp only at hc3); (try simp (disch := omega) only [go_sem, natLe_ok]); done)); (focus (rintro ⟨g, c2⟩ ⟨⟨hg, hqa, hqb⟩, hw, hc3⟩; (try dsimp only at hg); (try dsimp only at hqa); (try dsimp only at hqb); (try dsimp only at hw); (try dsimp only at hc3); (try simp (disch := omega) only [go_sem, natLe_ok]); done)); rintro ⟨g, c2⟩ ⟨⟨hg, hqa, hqb⟩, hw, hc3⟩; (try dsimp only at hg); (try dsimp only at hqa); (try dsimp only at hqb); (try dsimp only at hw); (try dsimp only at hc3); simp only [go_sem]; refine aL_run ?_; (try simp (disch := omega) only [go_sem, *])))
  all_goals (try simp (disch := omega) only [EndK, go_sem, natLe_ok, *])
  · exact ⟨g, ⟨⟨hg, hqa, hqb⟩, hw⟩, rfl, rfl, rfl⟩
theorem dArrive_e (b : List Int) (hb : b.length ≤ 1099511627776) : CallE Try.prog 31 [.one (.ro 1 (bytesD b))] (fun x : Gate × Int => .tup [.agg (gateT x.1), .one (iV x.2)]) (fun _ => [none]) (fun x => x.1.waits.length ≤ 20 ∧ x.1.queues.length ≤ 20) := by
  have hc := curNew_ok hb
  have hc1 := placeN_ok 3 hc
  refine callE_of_hcall 40 (hcall_of_body Try.func31 rfl (by kernel_rfl) ?_)
  simp (disch := omega) only [go_sem, Try.ntmps31, Try.results31]
  repeat' (first
    | (with_reducible refine i_seq ?_)
    | ((with_reducible refine i_block ?_); (try simp (disch := omega) only [go_sem, *]))
    | ((with_reducible refine i_regionQ (fun Q' hQ => ?_)); (try simp (disch := omega) only [go_sem, *]))
    | ((with_reducible refine Imp.go hQ ?_); clear hQ; (try simp (disch := omega) only [go_sem, *]))
    | ((with_reducible refine resOk_g (fun h => ?_) (fun h => ?_)) <;> (try simp only [Bool.not_eq_eq_eq_not, Bool.not_true, Bool.not_false, reduceCtorEq] at h) <;> (try have h' := of_decide_eq_true h) <;> (try (have hz : (_ : Int) = (_ : Int) := h'; clear hz h')) <;> (try have h' := of_decide_eq_false h) <;> (try have h' := inB_t h) <;> (try (exfalso; omega)) <;> (try simp (disch := omega) only [go_sem, *]))
    | (((with_reducible refine i_condT ?_ ?_); (focus (simp only [go_sem, *]; done))) <;> (try simp (disch := omega) only [go_sem, *]))
    | (((with_reducible refine i_condF ?_ ?_); (focus (simp only [go_sem, *]; done))) <;> (try simp (disch := omega) only [go_sem, *]))
    | ((with_reducible refine i_cond (by simp only [go_sem, *] <;> rfl) (fun h => ?_) (fun h => ?_)) <;> (try simp only [Bool.not_eq_eq_eq_not, Bool.not_true, Bool.not_false, reduceCtorEq] at h) <;> (try have h' := of_decide_eq_true h) <;> (try (have hz : (_ : Int) = (_ : Int) := h'; clear hz h')) <;> (try have h' := of_decide_eq_false h) <;> (try have h' := inB_t h) <;> (try (exfalso; omega)) <;> (try simp (disch := omega) only [go_sem, *]))
    | ((with_reducible refine hcall_of_callOk 40 false (sNew_ok b hb) ?_ ?_ ?_ ?_ ?_); (focus (simp (disch := omega) only [go_sem, natLe_ok]; done)); (focus (simp (disch := omega) only [go_sem, natLe_ok]; done)); (focus (simp (disch := omega) only [go_sem, natLe_ok]; done)); (focus (simp (disch := omega) only [go_sem, natLe_ok]; done)); simp only [go_sem]; refine aL_run ?_; (try simp (disch := omega) only [go_sem, *]))
    | ((with_reducible refine hcall_of_callOk 40 false (sPlace_ok (curNew b) 3 hc) ?_ ?_ ?_ ?_ ?_); (focus (simp (disch := omega) only [go_sem, natLe_ok]; done)); (focus (simp (disch := omega) only [go_sem, natLe_ok]; done)); (focus (simp (disch := omega) only [go_sem, natLe_ok]; done)); (focus (simp (disch := omega) only [go_sem, natLe_ok]; done)); simp only [go_sem]; refine aL_run ?_; (try simp (disch := omega) only [go_sem, *]))
    | ((with_reducible refine hcall_of_callE 40 false (anyGate_e (placeN (curNew b) 3) hc1) ?_ ?_ ?_ ?_ ?_); (focus (simp (disch := omega) only [go_sem, natLe_ok]; done)); (focus (simp (disch := omega) only [go_sem, natLe_ok]; done)); (focus (rintro ⟨g, c2⟩ ⟨hw, hq, hc3⟩; (try dsimp only at hw); (try dsimp only at hq); (try dsimp only at hc3); (try simp (disch := omega) only [go_sem, natLe_ok]); done)); (focus (rintro ⟨g, c2⟩ ⟨hw, hq, hc3⟩; (try dsimp only at hw); (try dsimp only at hq); (try dsimp only at hc3); (try simp (disch := omega) only [go_sem, natLe_ok]); done)); rintro ⟨g, c2⟩ ⟨hw, hq, hc3⟩; (try dsimp only at hw); (try dsimp only at hq); (try dsimp only at hc3); simp only [go_sem]; refine aL_run ?_; (try simp (disch := omega) only [go_sem, *])))
  all_goals (try simp (disch := omega) only [EndK, go_sem, natLe_ok, *])
  · exact ⟨(g, _), ⟨hw, hq⟩, ⟨rfl, rfl, rfl⟩, rfl⟩
theorem sPick6_ok (c : Cur) (x1 x2 x3 x4 x5 x6 : Int) (hc : okCur c) : CallOk Try.prog 126 [.one (.box (curT c)), .one (.own 1 [[iV x1], [iV x2], [iV x3], [iV x4], [iV x5], [iV x6]])] (.s (.one (iV ([x1, x2, x3, x4, x5, x6].getD (bel c 6).toNat 0)))) [some (.box (curT (belN c 6))), none] :=
  sPickInt_ok c [x1, x2, x3, x4, x5, x6] hc (by simp) (by simp)
theorem pair_e (b : List Int) (hb : b.length ≤ 1099511627776) : CallE Try.prog 79 [.one (.ro 1 (bytesD b))] (fun x : Gate × Int => .tup [.agg (gateT x.1), .one (iV x.2)]) (fun _ => [none]) (fun x => x.1.waits.length ≤ 20 ∧ x.1.queues.length ≤ 20) := by
  have hc := curNew_ok hb
  have hc1 := belN_ok 6 hc
  refine callE_of_hcall 40 (hcall_of_body Try.func79 rfl (by kernel_rfl) ?_)
  simp (disch := omega) only [go_sem, Try.ntmps79, Try.results79]
  repeat' (first
    | (with_reducible refine i_seq ?_)
    | ((with_reducible refine i_block ?_); (try simp (disch := omega) only [go_sem, *]))
    | ((with_reducible refine i_regionQ (fun Q' hQ => ?_)); (try simp (disch := omega) only [go_sem, *]))
    | ((with_reducible refine Imp.go hQ ?_); clear hQ; (try simp (disch := omega) only [go_sem, *]))
    | ((with_reducible refine resOk_g (fun h => ?_) (fun h => ?_)) <;> (try simp only [Bool.not_eq_eq_eq_not, Bool.not_true, Bool.not_false, reduceCtorEq] at h) <;> (try have h' := of_decide_eq_true h) <;> (try (have hz : (_ : Int) = (_ : Int) := h'; clear hz h')) <;> (try have h' := of_decide_eq_false h) <;> (try have h' := inB_t h) <;> (try (exfalso; omega)) <;> (try simp (disch := omega) only [go_sem, *]))
    | (((with_reducible refine i_condT ?_ ?_); (focus (simp only [go_sem, *]; done))) <;> (try simp (disch := omega) only [go_sem, *]))
    | (((with_reducible refine i_condF ?_ ?_); (focus (simp only [go_sem, *]; done))) <;> (try simp (disch := omega) only [go_sem, *]))
    | ((with_reducible refine i_cond (by simp only [go_sem, *] <;> rfl) (fun h => ?_) (fun h => ?_)) <;> (try simp only [Bool.not_eq_eq_eq_not, Bool.not_true, Bool.not_false, reduceCtorEq] at h) <;> (try have h' := of_decide_eq_true h) <;> (try (have hz : (_ : Int) = (_ : Int) := h'; clear hz h')) <;> (try have h' := of_decide_eq_false h) <;> (try have h' := inB_t h) <;> (try (exfalso; omega)) <;> (try simp (disch := omega) only [go_sem, *]))
    | ((with_reducible refine hcall_of_callOk 40 false (sNew_ok b hb) ?_ ?_ ?_ ?_ ?_); (focus (simp (disch := omega) only [go_sem, natLe_ok]; done)); (focus (simp (disch := omega) only [go_sem, natLe_ok]; done)); (focus (simp (disch := omega) only [go_sem, natLe_ok]; done)); (focus (simp (disch := omega) only [go_sem, natLe_ok]; done)); simp only [go_sem]; refine aL_run ?_; (try simp (disch := omega) only [go_sem, *]))
    | ((with_reducible refine hcall_of_callOk 40 false (sPick6_ok (curNew b) 0 1 0 1 2 (-1) hc) ?_ ?_ ?_ ?_ ?_); (focus (simp (disch := omega) only [go_sem, natLe_ok]; done)); (focus (simp (disch := omega) only [go_sem, natLe_ok]; done)); (focus (simp (disch := omega) only [go_sem, natLe_ok]; done)); (focus (simp (disch := omega) only [go_sem, natLe_ok]; done)); simp only [go_sem]; refine aL_run ?_; (try simp (disch := omega) only [go_sem, *]))
    | ((with_reducible refine hcall_of_callE 40 false (anyGate_e (belN (curNew b) 6) hc1) ?_ ?_ ?_ ?_ ?_); (focus (simp (disch := omega) only [go_sem, natLe_ok]; done)); (focus (simp (disch := omega) only [go_sem, natLe_ok]; done)); (focus (rintro ⟨g, c2⟩ ⟨hw, hq, hc3⟩; (try dsimp only at hw); (try dsimp only at hq); (try dsimp only at hc3); (try simp (disch := omega) only [go_sem, natLe_ok]); done)); (focus (rintro ⟨g, c2⟩ ⟨hw, hq, hc3⟩; (try dsimp only at hw); (try dsimp only at hq); (try dsimp only at hc3); (try simp (disch := omega) only [go_sem, natLe_ok]); done)); rintro ⟨g, c2⟩ ⟨hw, hq, hc3⟩; (try dsimp only at hw); (try dsimp only at hq); (try dsimp only at hc3); simp only [go_sem]; refine aL_run ?_; (try simp (disch := omega) only [go_sem, *])))
  all_goals (try simp (disch := omega) only [EndK, go_sem, natLe_ok, *])
  · exact ⟨(g, _), ⟨hw, hq⟩, ⟨rfl, rfl, rfl⟩, rfl⟩
theorem dDelay_e (b : List Int) (hb : b.length ≤ 1099511627776) : CallE Try.prog 34 [.one (.ro 1 (bytesD b))] (fun x : Gate × Int => .tup [.agg (gateT x.1), .one (iV x.2)]) (fun _ => [none]) (fun x => x.1.waits.length ≤ 20 ∧ x.1.queues.length ≤ 20) := by
  refine callE_of_hcall 40 (hcall_of_body Try.func34 rfl (by kernel_rfl) ?_)
  simp (disch := omega) only [go_sem, Try.ntmps34, Try.results34]
  repeat' (first
    | (with_reducible refine i_seq ?_)
    | ((with_reducible refine i_block ?_); (try simp (disch := omega) only [go_sem, *]))
    | ((with_reducible refine i_regionQ (fun Q' hQ => ?_)); (try simp (disch := omega) only [go_sem, *]))
    | ((with_reducible refine Imp.go hQ ?_); clear hQ; (try simp (disch := omega) only [go_sem, *]))
    | ((with_reducible refine resOk_g (fun h => ?_) (fun h => ?_)) <;> (try simp only [Bool.not_eq_eq_eq_not, Bool.not_true, Bool.not_false, reduceCtorEq] at h) <;> (try have h' := of_decide_eq_true h) <;> (try (have hz : (_ : Int) = (_ : Int) := h'; clear hz h')) <;> (try have h' := of_decide_eq_false h) <;> (try have h' := inB_t h) <;> (try (exfalso; omega)) <;> (try simp (disch := omega) only [go_sem, *]))
    | (((with_reducible refine i_condT ?_ ?_); (focus (simp only [go_sem, *]; done))) <;> (try simp (disch := omega) only [go_sem, *]))
    | (((with_reducible refine i_condF ?_ ?_); (focus (simp only [go_sem, *]; done))) <;> (try simp (disch := omega) only [go_sem, *]))
    | ((with_reducible refine i_cond (by simp only [go_sem, *] <;> rfl) (fun h => ?_) (fun h => ?_)) <;> (try simp only [Bool.not_eq_eq_eq_not, Bool.not_true, Bool.not_false, reduceCtorEq] at h) <;> (try have h' := of_decide_eq_true h) <;> (try (have hz : (_ : Int) = (_ : Int) := h'; clear hz h')) <;> (try have h' := of_decide_eq_false h) <;> (try have h' := inB_t h) <;> (try (exfalso; omega)) <;> (try simp (disch := omega) only [go_sem, *]))
    | ((with_reducible refine hcall_of_callE 40 false (pair_e b hb) ?_ ?_ ?_ ?_ ?_); (focus (simp (disch := omega) only [go_sem, natLe_ok]; done)); (focus (simp (disch := omega) only [go_sem, natLe_ok]; done)); (focus (rintro ⟨g, q⟩ ⟨hw, hq⟩; (try dsimp only at hw); (try dsimp only at hq); (try simp (disch := omega) only [go_sem, natLe_ok]); done)); (focus (rintro ⟨g, q⟩ ⟨hw, hq⟩; (try dsimp only at hw); (try dsimp only at hq); (try simp (disch := omega) only [go_sem, natLe_ok]); done)); rintro ⟨g, q⟩ ⟨hw, hq⟩; (try dsimp only at hw); (try dsimp only at hq); simp only [go_sem]; refine aL_run ?_; (try simp (disch := omega) only [go_sem, *])))
  all_goals (try simp (disch := omega) only [EndK, go_sem, natLe_ok, *])
  · exact ⟨(g, _), ⟨hw, hq⟩, ⟨rfl, rfl, rfl⟩, rfl⟩
theorem dPlaces_e (b : List Int) (hb : b.length ≤ 1099511627776) : CallE Try.prog 27 [.one (.ro 1 (bytesD b))] (fun xs : List Int => .s (.one (.own 1 (intsT xs)))) (fun _ => [none]) (fun xs => 12 ≤ xs.length ∧ xs.length ≤ 12 ∧ ∀ x ∈ xs, 0 ≤ x) := by
  have hc := curNew_ok hb
  have hc1 := cNext_ok hc
  refine callE_of_hcall 40 (hcall_of_body Try.func27 rfl (by kernel_rfl) ?_)
  simp (disch := omega) only [go_sem, Try.ntmps27, Try.results27]
  repeat' (first
    | (with_reducible refine i_seq ?_)
    | ((with_reducible refine i_block ?_); (try simp (disch := omega) only [go_sem, *]))
    | ((with_reducible refine i_regionQ (fun Q' hQ => ?_)); (try simp (disch := omega) only [go_sem, *]))
    | ((with_reducible refine Imp.go hQ ?_); clear hQ; (try simp (disch := omega) only [go_sem, *]))
    | ((with_reducible refine resOk_g (fun h => ?_) (fun h => ?_)) <;> (try simp only [Bool.not_eq_eq_eq_not, Bool.not_true, Bool.not_false, reduceCtorEq] at h) <;> (try have h' := of_decide_eq_true h) <;> (try (have hz : (_ : Int) = (_ : Int) := h'; clear hz h')) <;> (try have h' := of_decide_eq_false h) <;> (try have h' := inB_t h) <;> (try (exfalso; omega)) <;> (try simp (disch := omega) only [go_sem, *]))
    | (((with_reducible refine i_condT ?_ ?_); (focus (simp only [go_sem, *]; done))) <;> (try simp (disch := omega) only [go_sem, *]))
    | (((with_reducible refine i_condF ?_ ?_); (focus (simp only [go_sem, *]; done))) <;> (try simp (disch := omega) only [go_sem, *]))
    | ((with_reducible refine i_cond (by simp only [go_sem, *] <;> rfl) (fun h => ?_) (fun h => ?_)) <;> (try simp only [Bool.not_eq_eq_eq_not, Bool.not_true, Bool.not_false, reduceCtorEq] at h) <;> (try have h' := of_decide_eq_true h) <;> (try (have hz : (_ : Int) = (_ : Int) := h'; clear hz h')) <;> (try have h' := of_decide_eq_false h) <;> (try have h' := inB_t h) <;> (try (exfalso; omega)) <;> (try simp (disch := omega) only [go_sem, *]))
    | ((with_reducible refine hcall_of_callOk 40 false (sNew_ok b hb) ?_ ?_ ?_ ?_ ?_); (focus (simp (disch := omega) only [go_sem, natLe_ok]; done)); (focus (simp (disch := omega) only [go_sem, natLe_ok]; done)); (focus (simp (disch := omega) only [go_sem, natLe_ok]; done)); (focus (simp (disch := omega) only [go_sem, natLe_ok]; done)); simp only [go_sem]; refine aL_run ?_; (try simp (disch := omega) only [go_sem, *]))
    | ((with_reducible refine hcall_of_callOk 40 false (sByte_ok (curNew b) hc) ?_ ?_ ?_ ?_ ?_); (focus (simp (disch := omega) only [go_sem, natLe_ok]; done)); (focus (simp (disch := omega) only [go_sem, natLe_ok]; done)); (focus (simp (disch := omega) only [go_sem, natLe_ok]; done)); (focus (simp (disch := omega) only [go_sem, natLe_ok]; done)); simp only [go_sem]; refine aL_run ?_; (try simp (disch := omega) only [go_sem, *])))
  all_goals (try simp (disch := omega) only [EndK, go_sem, natLe_ok, *])
  refine i_loop (α := {p : List Int × Cur // p.1.length ≤ 12 ∧ (∀ x ∈ p.1, 0 ≤ x) ∧ okCur p.2}) (fun p => ⟨mkEnv 21 [(0, .one (.ro 1 (bytesD b))), (3, .one (.ptr 0 0 0)), (4, .one (.ref 1 0 p.1.1.length)), (5, .one (iV p.1.1.length))], [.live 3 [curT p.1.2], .live 1 (intsT p.1.1)]⟩) (fun p => 12 - p.1.1.length) ⟨([], cNext (curNew b)), by simp, by simp, hc1⟩ ?_ ?_
  · (refine weak_canon [0, 3, 4, 5] [0, 1] ?_ ?_ ?_ <;> (simp (disch := omega) only [go_sem, List.length_nil]; done))
  rintro ⟨⟨xs, c⟩, hl, hp, hc2⟩
  simp only at hl hp hc2
  have hb := bel_le c 10000 (by omega)
  have hc3 := belN_ok 10000 hc2
  simp (disch := omega) only [go_sem]
  repeat' (first
    | (with_reducible refine i_seq ?_)
    | ((with_reducible refine i_block ?_); (try simp (disch := omega) only [go_sem, *]))
    | ((with_reducible refine i_regionQ (fun Q' hQ => ?_)); (try simp (disch := omega) only [go_sem, *]))
    | ((with_reducible refine Imp.go hQ ?_); clear hQ; (try simp (disch := omega) only [go_sem, *]))
    | ((with_reducible refine resOk_g (fun h => ?_) (fun h => ?_)) <;> (try simp only [Bool.not_eq_eq_eq_not, Bool.not_true, Bool.not_false, reduceCtorEq] at h) <;> (try have h' := of_decide_eq_true h) <;> (try (have hz : (_ : Int) = (_ : Int) := h'; clear hz h')) <;> (try have h' := of_decide_eq_false h) <;> (try have h' := inB_t h) <;> (try (exfalso; omega)) <;> (try simp (disch := omega) only [go_sem, *]))
    | (((with_reducible refine i_condT ?_ ?_); (focus (simp only [go_sem, *]; done))) <;> (try simp (disch := omega) only [go_sem, *]))
    | (((with_reducible refine i_condF ?_ ?_); (focus (simp only [go_sem, *]; done))) <;> (try simp (disch := omega) only [go_sem, *]))
    | ((with_reducible refine i_cond (by simp only [go_sem, *] <;> rfl) (fun h => ?_) (fun h => ?_)) <;> (try simp only [Bool.not_eq_eq_eq_not, Bool.not_true, Bool.not_false, reduceCtorEq] at h) <;> (try have h' := of_decide_eq_true h) <;> (try (have hz : (_ : Int) = (_ : Int) := h'; clear hz h')) <;> (try have h' := of_decide_eq_false h) <;> (try have h' := inB_t h) <;> (try (exfalso; omega)) <;> (try simp (disch := omega) only [go_sem, *]))
    | ((with_reducible refine hcall_of_callOk 40 false (sBelow_ok c 10000 hc2) ?_ ?_ ?_ ?_ ?_); (focus (simp (disch := omega) only [go_sem, natLe_ok]; done)); (focus (simp (disch := omega) only [go_sem, natLe_ok]; done)); (focus (simp (disch := omega) only [go_sem, natLe_ok]; done)); (focus (simp (disch := omega) only [go_sem, natLe_ok]; done)); simp only [go_sem]; refine aL_run ?_; (try simp (disch := omega) only [go_sem, *])))
  all_goals (try simp (disch := omega) only [EndK, go_sem, natLe_ok, *])
  all_goals by_cases hz : xs.length < 12
  all_goals (try (exfalso; omega))
  · refine ⟨⟨(xs ++ [bel c 10000], belN c 10000), by simp; omega, ?_, hc3⟩, ?_, by simp; omega⟩
    · intro x hx
      rcases List.mem_append.1 hx with hx | hx
      · exact hp x hx
      · rw [List.mem_singleton.1 hx]; exact hb.1
    · (refine weak_canon [0, 3, 4, 5] [0, 3] ?_ ?_ ?_ <;> (simp (disch := omega) only [go_sem, List.length_append, List.length_singleton]; done))
  all_goals exact ⟨xs, ⟨by omega, hl, hp⟩, rfl⟩
/-! ### What the laws compare -/
theorem big_ok (b : List Int) (hb : b.length ≤ 1099511627776) : CallOk Try.prog 22 [.one (.ro 1 (bytesD b))] (.s (.one (bV (decide ((1048576 : Int) < (b.length : Int)))))) [none] := by
  refine callOk_of_hcall 40 (hcall_of_body Try.func22 rfl (by kernel_rfl) ?_)
  simp (disch := omega) only [go_sem, Try.ntmps22, Try.results22]
  repeat' (first
    | (with_reducible refine i_seq ?_)
    | ((with_reducible refine i_block ?_); (try simp (disch := omega) only [go_sem, *]))
    | ((with_reducible refine i_regionQ (fun Q' hQ => ?_)); (try simp (disch := omega) only [go_sem, *]))
    | ((with_reducible refine Imp.go hQ ?_); clear hQ; (try simp (disch := omega) only [go_sem, *]))
    | ((with_reducible refine resOk_g (fun h => ?_) (fun h => ?_)) <;> (try simp only [Bool.not_eq_eq_eq_not, Bool.not_true, Bool.not_false, reduceCtorEq] at h) <;> (try have h' := of_decide_eq_true h) <;> (try (have hz : (_ : Int) = (_ : Int) := h'; clear hz h')) <;> (try have h' := of_decide_eq_false h) <;> (try have h' := inB_t h) <;> (try (exfalso; omega)) <;> (try simp (disch := omega) only [go_sem, *]))
    | (((with_reducible refine i_condT ?_ ?_); (focus (simp only [go_sem, *]; done))) <;> (try simp (disch := omega) only [go_sem, *]))
    | (((with_reducible refine i_condF ?_ ?_); (focus (simp only [go_sem, *]; done))) <;> (try simp (disch := omega) only [go_sem, *]))
    | ((with_reducible refine i_cond (by simp only [go_sem, *] <;> rfl) (fun h => ?_) (fun h => ?_)) <;> (try simp only [Bool.not_eq_eq_eq_not, Bool.not_true, Bool.not_false, reduceCtorEq] at h) <;> (try have h' := of_decide_eq_true h) <;> (try (have hz : (_ : Int) = (_ : Int) := h'; clear hz h')) <;> (try have h' := of_decide_eq_false h) <;> (try have h' := inB_t h) <;> (try (exfalso; omega)) <;> (try simp (disch := omega) only [go_sem, *])))
  all_goals (try simp (disch := omega) only [EndK, go_sem, natLe_ok, *])
end Go.Proofs.Ytgeoipplkjgnfaa.E
