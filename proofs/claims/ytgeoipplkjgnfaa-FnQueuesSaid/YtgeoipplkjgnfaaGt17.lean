import Derived.Test.YtgeoipplkjgnfaaGt16
set_option linter.unusedVariables false
set_option linter.unusedSimpArgs false
set_option maxRecDepth 100000
set_option maxHeartbeats 4000000
namespace Go.Proofs.Ytgeoipplkjgnfaa.E
theorem sameInts_ok (xs : List Int) (hs : xs.length ≤ 1099511627776) : CallOk Try.prog 29 [.one (.ro 1 (intsD xs)), .one (.ro 1 (intsD xs))] (.s (.one (bV true))) [none, none] := by
  refine callOk_of_hcall 40 (hcall_of_body Try.func29 rfl (by kernel_rfl) ?_)
  simp (disch := omega) only [go_sem, Try.ntmps29, Try.results29]
  repeat' (first
    | (with_reducible refine i_seq ?_)
    | ((with_reducible refine i_block ?_); (try simp (disch := omega) only [go_sem, bne_self_eq_false, *]))
    | ((with_reducible refine i_regionQ (fun Q' hQ => ?_)); (try simp (disch := omega) only [go_sem, bne_self_eq_false, *]))
    | ((with_reducible refine Imp.go hQ ?_); clear hQ; (try simp (disch := omega) only [go_sem, bne_self_eq_false, *]))
    | ((with_reducible refine resOk_g (fun h => ?_) (fun h => ?_)) <;> (try simp only [Bool.not_eq_eq_eq_not, Bool.not_true, Bool.not_false, reduceCtorEq] at h) <;> (try have h' := of_decide_eq_true h) <;> (try (have hz : (_ : Int) = (_ : Int) := h'; clear hz h')) <;> (try have h' := of_decide_eq_false h) <;> (try have h' := inB_t h) <;> (try (exfalso; omega)) <;> (try simp (disch := omega) only [go_sem, bne_self_eq_false, *]))
    | (((with_reducible refine i_condT ?_ ?_); (focus (simp only [go_sem, *]; done))) <;> (try simp (disch := omega) only [go_sem, bne_self_eq_false, *]))
    | (((with_reducible refine i_condF ?_ ?_); (focus (simp only [go_sem, *]; done))) <;> (try simp (disch := omega) only [go_sem, bne_self_eq_false, *]))
    | ((with_reducible refine i_cond (by simp only [go_sem, *] <;> rfl) (fun h => ?_) (fun h => ?_)) <;> (try simp only [Bool.not_eq_eq_eq_not, Bool.not_true, Bool.not_false, reduceCtorEq] at h) <;> (try have h' := of_decide_eq_true h) <;> (try (have hz : (_ : Int) = (_ : Int) := h'; clear hz h')) <;> (try have h' := of_decide_eq_false h) <;> (try have h' := inB_t h) <;> (try (exfalso; omega)) <;> (try simp (disch := omega) only [go_sem, bne_self_eq_false, *]))
    | (with_reducible refine i_treeQ (id := 6) (.fr [0, 1, 2, 3, 4, 5, 6, 7, 8] (.stop)) mixedT (by kernel_rfl) (fun Q' hQ => ?_))
    | (with_reducible exact tr_none)
    | (with_reducible refine tr_stop ?_)
    | ((with_reducible refine tr_fr ?_); (try simp (disch := omega) only [go_sem, bne_self_eq_false, *]))
    | ((with_reducible refine tr_op (aL_run ?_)); (try simp (disch := omega) only [go_sem, bne_self_eq_false, *]))
    | ((with_reducible refine tr_alt (by kernel_rfl) (aL_run ?_) ?_) <;> (try simp (disch := omega) only [go_sem, bne_self_eq_false, *]))
    | ((with_reducible refine tr_altp ?_ ?_) <;> (try simp (disch := omega) only [go_sem, bne_self_eq_false, *]))
    | ((with_reducible refine pG_split (fun h => ?_) (fun h => ?_)) <;> (try simp only [Bool.not_eq_eq_eq_not, Bool.not_true, Bool.not_false, reduceCtorEq] at h) <;> (try have h' := of_decide_eq_true h) <;> (try (have hz : (_ : Int) = (_ : Int) := h'; clear hz h')) <;> (try have h' := of_decide_eq_false h) <;> (try have h' := inB_t h) <;> (try (exfalso; omega)) <;> (try simp (disch := omega) only [go_sem, bne_self_eq_false, *])))
  all_goals (try simp (disch := omega) only [EndK, go_sem, bne_self_eq_false, natLe_ok, *])
  refine i_loop (α := {k : Nat // k ≤ xs.length}) (fun k => ⟨mkEnv 26 [(0, .one (.ro 1 (intsD xs))), (1, .one (.ro 1 (intsD xs))), (5, .one (iV k.1))], []⟩) (fun k => xs.length - k.1) ⟨0, by omega⟩ ?_ ?_
  · (refine weak_canon [0, 1, 5] [] ?_ ?_ ?_ <;> (simp (disch := omega) only [go_sem]; done))
  rintro ⟨k, hk⟩
  simp (disch := omega) only [go_sem]
  repeat' (first
    | (with_reducible refine i_seq ?_)
    | ((with_reducible refine i_block ?_); (try simp (disch := omega) only [go_sem, bne_self_eq_false, *]))
    | ((with_reducible refine i_regionQ (fun Q' hQ => ?_)); (try simp (disch := omega) only [go_sem, bne_self_eq_false, *]))
    | ((with_reducible refine Imp.go hQ ?_); clear hQ; (try simp (disch := omega) only [go_sem, bne_self_eq_false, *]))
    | ((with_reducible refine resOk_g (fun h => ?_) (fun h => ?_)) <;> (try simp only [Bool.not_eq_eq_eq_not, Bool.not_true, Bool.not_false, reduceCtorEq] at h) <;> (try have h' := of_decide_eq_true h) <;> (try (have hz : (_ : Int) = (_ : Int) := h'; clear hz h')) <;> (try have h' := of_decide_eq_false h) <;> (try have h' := inB_t h) <;> (try (exfalso; omega)) <;> (try simp (disch := omega) only [go_sem, bne_self_eq_false, *]))
    | (((with_reducible refine i_condT ?_ ?_); (focus (simp only [go_sem, *]; done))) <;> (try simp (disch := omega) only [go_sem, bne_self_eq_false, *]))
    | (((with_reducible refine i_condF ?_ ?_); (focus (simp only [go_sem, *]; done))) <;> (try simp (disch := omega) only [go_sem, bne_self_eq_false, *]))
    | ((with_reducible refine i_cond (by simp only [go_sem, *] <;> rfl) (fun h => ?_) (fun h => ?_)) <;> (try simp only [Bool.not_eq_eq_eq_not, Bool.not_true, Bool.not_false, reduceCtorEq] at h) <;> (try have h' := of_decide_eq_true h) <;> (try (have hz : (_ : Int) = (_ : Int) := h'; clear hz h')) <;> (try have h' := of_decide_eq_false h) <;> (try have h' := inB_t h) <;> (try (exfalso; omega)) <;> (try simp (disch := omega) only [go_sem, bne_self_eq_false, *]))
    | (with_reducible refine i_treeQ (id := 6) (.fr [0, 1, 2, 3, 4, 5, 6, 7, 8] (.stop)) mixedT (by kernel_rfl) (fun Q' hQ => ?_))
    | (with_reducible exact tr_none)
    | (with_reducible refine tr_stop ?_)
    | ((with_reducible refine tr_fr ?_); (try simp (disch := omega) only [go_sem, bne_self_eq_false, *]))
    | ((with_reducible refine tr_op (aL_run ?_)); (try simp (disch := omega) only [go_sem, bne_self_eq_false, *]))
    | ((with_reducible refine tr_alt (by kernel_rfl) (aL_run ?_) ?_) <;> (try simp (disch := omega) only [go_sem, bne_self_eq_false, *]))
    | ((with_reducible refine tr_altp ?_ ?_) <;> (try simp (disch := omega) only [go_sem, bne_self_eq_false, *]))
    | ((with_reducible refine pG_split (fun h => ?_) (fun h => ?_)) <;> (try simp only [Bool.not_eq_eq_eq_not, Bool.not_true, Bool.not_false, reduceCtorEq] at h) <;> (try have h' := of_decide_eq_true h) <;> (try (have hz : (_ : Int) = (_ : Int) := h'; clear hz h')) <;> (try have h' := of_decide_eq_false h) <;> (try have h' := inB_t h) <;> (try (exfalso; omega)) <;> (try simp (disch := omega) only [go_sem, bne_self_eq_false, *])))
  all_goals (try simp (disch := omega) only [EndK, go_sem, bne_self_eq_false, natLe_ok, *])
  refine ⟨⟨k + 1, by omega⟩, ?_, by simp only; omega⟩
  (refine weak_canon [0, 1, 5] [] ?_ ?_ ?_ <;> (simp (disch := omega) only [go_sem]; done))
theorem sameGate_ok (g : Gate) (hg : smGate g) : CallOk Try.prog 26 [.agg (gateR g), .agg (gateR g)] (.s (.one (bV true))) [none, none] := by
  obtain ⟨h1, h2⟩ := hg
  refine callOk_of_hcall 40 (hcall_of_body Try.func26 rfl (by kernel_rfl) ?_)
  simp (disch := omega) only [go_sem, Try.ntmps26, Try.results26]
  repeat' (first
    | (with_reducible refine i_seq ?_)
    | ((with_reducible refine i_block ?_); (try simp (disch := omega) only [go_sem, beq_self_eq_true, *]))
    | ((with_reducible refine i_regionQ (fun Q' hQ => ?_)); (try simp (disch := omega) only [go_sem, beq_self_eq_true, *]))
    | ((with_reducible refine Imp.go hQ ?_); clear hQ; (try simp (disch := omega) only [go_sem, beq_self_eq_true, *]))
    | ((with_reducible refine resOk_g (fun h => ?_) (fun h => ?_)) <;> (try simp only [Bool.not_eq_eq_eq_not, Bool.not_true, Bool.not_false, reduceCtorEq] at h) <;> (try have h' := of_decide_eq_true h) <;> (try (have hz : (_ : Int) = (_ : Int) := h'; clear hz h')) <;> (try have h' := of_decide_eq_false h) <;> (try have h' := inB_t h) <;> (try (exfalso; omega)) <;> (try simp (disch := omega) only [go_sem, beq_self_eq_true, *]))
    | (((with_reducible refine i_condT ?_ ?_); (focus (simp only [go_sem, *]; done))) <;> (try simp (disch := omega) only [go_sem, beq_self_eq_true, *]))
    | (((with_reducible refine i_condF ?_ ?_); (focus (simp only [go_sem, *]; done))) <;> (try simp (disch := omega) only [go_sem, beq_self_eq_true, *]))
    | ((with_reducible refine i_cond (by simp only [go_sem, *] <;> rfl) (fun h => ?_) (fun h => ?_)) <;> (try simp only [Bool.not_eq_eq_eq_not, Bool.not_true, Bool.not_false, reduceCtorEq] at h) <;> (try have h' := of_decide_eq_true h) <;> (try (have hz : (_ : Int) = (_ : Int) := h'; clear hz h')) <;> (try have h' := of_decide_eq_false h) <;> (try have h' := inB_t h) <;> (try (exfalso; omega)) <;> (try simp (disch := omega) only [go_sem, beq_self_eq_true, *]))
    | ((with_reducible refine hcall_of_callOk 40 true (sameInts_ok g.waits h1) ?_ ?_ ?_ ?_ ?_); (focus (simp (disch := omega) only [go_sem, beq_self_eq_true, natLe_ok]; done)); (focus (simp (disch := omega) only [go_sem, beq_self_eq_true, natLe_ok]; done)); (focus (simp (disch := omega) only [go_sem, beq_self_eq_true, natLe_ok]; done)); (focus (simp (disch := omega) only [go_sem, beq_self_eq_true, natLe_ok]; done)); simp only [go_sem, beq_self_eq_true]; refine aL_run ?_; (try simp (disch := omega) only [go_sem, beq_self_eq_true, *]))
    | ((with_reducible refine hcall_of_callOk 40 true (sameInts_ok g.queues h2) ?_ ?_ ?_ ?_ ?_); (focus (simp (disch := omega) only [go_sem, beq_self_eq_true, natLe_ok]; done)); (focus (simp (disch := omega) only [go_sem, beq_self_eq_true, natLe_ok]; done)); (focus (simp (disch := omega) only [go_sem, beq_self_eq_true, natLe_ok]; done)); (focus (simp (disch := omega) only [go_sem, beq_self_eq_true, natLe_ok]; done)); simp only [go_sem, beq_self_eq_true]; refine aL_run ?_; (try simp (disch := omega) only [go_sem, beq_self_eq_true, *])))
  all_goals (try simp (disch := omega) only [EndK, go_sem, beq_self_eq_true, natLe_ok, *])
theorem iGateNew_ok (n : Int) : CallOk Try.prog 39 [.one (iV n)] (.s (.agg (gateT (gateNew n)))) [none] := by
  have h2 := gq_le n
  refine callOk_of_hcall 40 (hcall_of_body Try.func39 rfl (by kernel_rfl) ?_)
  simp (disch := omega) only [go_sem, Try.ntmps39, Try.results39]
  repeat' (first
    | (with_reducible refine i_seq ?_)
    | ((with_reducible refine i_block ?_); (try simp (disch := omega) only [go_sem, *]))
    | ((with_reducible refine i_regionQ (fun Q' hQ => ?_)); (try simp (disch := omega) only [go_sem, *]))
    | ((with_reducible refine Imp.go hQ ?_); clear hQ; (try simp (disch := omega) only [go_sem, *]))
    | ((with_reducible refine resOk_g (fun h => ?_) (fun h => ?_)) <;> (try simp only [Bool.not_eq_eq_eq_not, Bool.not_true, Bool.not_false, reduceCtorEq] at h) <;> (try have h' := of_decide_eq_true h) <;> (try (have hz : (_ : Int) = (_ : Int) := h'; clear hz h')) <;> (try have h' := of_decide_eq_false h) <;> (try have h' := inB_t h) <;> (try (exfalso; omega)) <;> (try simp (disch := omega) only [go_sem, *]))
    | (((with_reducible refine i_condT ?_ ?_); (focus (simp only [go_sem, *]; done))) <;> (try simp (disch := omega) only [go_sem, *]))
    | (((with_reducible refine i_condF ?_ ?_); (focus (simp only [go_sem, *]; done))) <;> (try simp (disch := omega) only [go_sem, *]))
    | ((with_reducible refine i_cond (by simp only [go_sem, *] <;> rfl) (fun h => ?_) (fun h => ?_)) <;> (try simp only [Bool.not_eq_eq_eq_not, Bool.not_true, Bool.not_false, reduceCtorEq] at h) <;> (try have h' := of_decide_eq_true h) <;> (try (have hz : (_ : Int) = (_ : Int) := h'; clear hz h')) <;> (try have h' := of_decide_eq_false h) <;> (try have h' := inB_t h) <;> (try (exfalso; omega)) <;> (try simp (disch := omega) only [go_sem, *])))
  all_goals (try simp (disch := omega) only [EndK, go_sem, natLe_ok, *])
  refine i_loop (α := {k : Nat // k ≤ gq n}) (fun k => ⟨mkEnv 18 [(0, .one (iV n)), (2, .one (.ptr 0 0 0)), (3, .one (.ptr 1 0 0)), (4, .one (iV k.1))], gnH k.1⟩) (fun k => 2 - k.1) ⟨0, by omega⟩ ?_ ?_
  · first | (refine weak_canon [0, 2, 3, 4] [0, 1] ?_ ?_ ?_ <;> (simp (disch := omega) only [go_sem, gnH0]; done)) | trace_state
  rintro ⟨k, hk⟩
  cases k with
  | zero =>
    simp (disch := omega) only [go_sem, gnH0]
    repeat' (first
      | (with_reducible refine i_seq ?_)
      | ((with_reducible refine i_block ?_); (try simp (disch := omega) only [go_sem, *]))
      | ((with_reducible refine i_regionQ (fun Q' hQ => ?_)); (try simp (disch := omega) only [go_sem, *]))
      | ((with_reducible refine Imp.go hQ ?_); clear hQ; (try simp (disch := omega) only [go_sem, *]))
      | ((with_reducible refine resOk_g (fun h => ?_) (fun h => ?_)) <;> (try simp only [Bool.not_eq_eq_eq_not, Bool.not_true, Bool.not_false, reduceCtorEq] at h) <;> (try have h' := of_decide_eq_true h) <;> (try (have hz : (_ : Int) = (_ : Int) := h'; clear hz h')) <;> (try have h' := of_decide_eq_false h) <;> (try have h' := inB_t h) <;> (try (exfalso; omega)) <;> (try simp (disch := omega) only [go_sem, *]))
      | (((with_reducible refine i_condT ?_ ?_); (focus (simp only [go_sem, *]; done))) <;> (try simp (disch := omega) only [go_sem, *]))
      | (((with_reducible refine i_condF ?_ ?_); (focus (simp only [go_sem, *]; done))) <;> (try simp (disch := omega) only [go_sem, *]))
      | ((with_reducible refine i_cond (by simp only [go_sem, *] <;> rfl) (fun h => ?_) (fun h => ?_)) <;> (try simp only [Bool.not_eq_eq_eq_not, Bool.not_true, Bool.not_false, reduceCtorEq] at h) <;> (try have h' := of_decide_eq_true h) <;> (try (have hz : (_ : Int) = (_ : Int) := h'; clear hz h')) <;> (try have h' := of_decide_eq_false h) <;> (try have h' := inB_t h) <;> (try (exfalso; omega)) <;> (try simp (disch := omega) only [go_sem, *])))
    all_goals (try simp (disch := omega) only [EndK, go_sem, natLe_ok, *])
    all_goals by_cases hz : 0 < gq n
    all_goals (try (exfalso; unfold gq at hz; omega))
    · refine ⟨⟨1, by omega⟩, ?_, by simp only; omega⟩
      first | (refine weak_canon [0, 2, 3, 4] [0, 1, 3] ?_ ?_ ?_ <;> (simp (disch := omega) only [go_sem, gnH1, Int.zero_add, Int.natCast_one]; done)) | trace_state
    · have e : gq n = 0 := by omega
      simp only [gateNew, e]
      exact ⟨trivial, rfl, rfl⟩
  | succ k =>
    have hs := negs_succ (k + 1)
    simp (disch := omega) only [go_sem, gnHs]
    repeat' (first
      | (with_reducible refine i_seq ?_)
      | ((with_reducible refine i_block ?_); (try simp (disch := omega) only [go_sem, *]))
      | ((with_reducible refine i_regionQ (fun Q' hQ => ?_)); (try simp (disch := omega) only [go_sem, *]))
      | ((with_reducible refine Imp.go hQ ?_); clear hQ; (try simp (disch := omega) only [go_sem, *]))
      | ((with_reducible refine resOk_g (fun h => ?_) (fun h => ?_)) <;> (try simp only [Bool.not_eq_eq_eq_not, Bool.not_true, Bool.not_false, reduceCtorEq] at h) <;> (try have h' := of_decide_eq_true h) <;> (try (have hz : (_ : Int) = (_ : Int) := h'; clear hz h')) <;> (try have h' := of_decide_eq_false h) <;> (try have h' := inB_t h) <;> (try (exfalso; omega)) <;> (try simp (disch := omega) only [go_sem, *]))
      | (((with_reducible refine i_condT ?_ ?_); (focus (simp only [go_sem, *]; done))) <;> (try simp (disch := omega) only [go_sem, *]))
      | (((with_reducible refine i_condF ?_ ?_); (focus (simp only [go_sem, *]; done))) <;> (try simp (disch := omega) only [go_sem, *]))
      | ((with_reducible refine i_cond (by simp only [go_sem, *] <;> rfl) (fun h => ?_) (fun h => ?_)) <;> (try simp only [Bool.not_eq_eq_eq_not, Bool.not_true, Bool.not_false, reduceCtorEq] at h) <;> (try have h' := of_decide_eq_true h) <;> (try (have hz : (_ : Int) = (_ : Int) := h'; clear hz h')) <;> (try have h' := of_decide_eq_false h) <;> (try have h' := inB_t h) <;> (try (exfalso; omega)) <;> (try simp (disch := omega) only [go_sem, *])))
    all_goals (try simp (disch := omega) only [EndK, go_sem, natLe_ok, *])
    all_goals by_cases hz : k + 1 < gq n
    all_goals (try (exfalso; unfold gq at hz; omega))
    · refine ⟨⟨k + 1 + 1, by omega⟩, ?_, by simp only; omega⟩
      first | (refine weak_canon [0, 2, 3, 4] [0, 1, 4] ?_ ?_ ?_ <;> (simp (disch := omega) only [go_sem, gnHs, hs]; done)) | trace_state
    all_goals
      have e : gq n = k + 1 := by omega
      simp only [gateNew, e]
      exact ⟨trivial, rfl, trivial⟩
end Go.Proofs.Ytgeoipplkjgnfaa.E
