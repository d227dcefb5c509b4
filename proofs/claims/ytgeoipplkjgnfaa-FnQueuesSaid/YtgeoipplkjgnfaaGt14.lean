import Derived.Test.YtgeoipplkjgnfaaGt13
set_option linter.unusedVariables false
set_option linter.unusedSimpArgs false
set_option maxRecDepth 100000
set_option maxHeartbeats 4000000
namespace Go.Proofs.Ytgeoipplkjgnfaa.E
def newH (b : List Int) : Nat → Int
  | 0 => 76401 + b.length
  | k + 1 => IntKind.i64.wrap ((BitVec.ofInt IntKind.i64.bits (IntKind.i64.wrap (IntKind.i64.wrap (IntKind.i64.wrap (newH b k * 131) + IntKind.i64.wrap (b.getD k 0)) + 7)) &&& BitVec.ofInt IntKind.i64.bits 1073741823).toNat : Nat)
def curNew (b : List Int) : Cur := ⟨b, 0, newH b (min b.length 4000)⟩
theorem curNew_ok {b : List Int} (h : b.length ≤ 1099511627776) : okCur (curNew b) := ⟨by simp [curNew], by simp [curNew], h⟩
theorem sNew_ok (b : List Int) (hb : b.length ≤ 1099511627776) : CallOk Try.prog 67 [.one (.ro 1 (bytesD b))] (.s (.one (.box (curT (curNew b))))) [none] := by
  refine callOk_of_hcall 40 (hcall_of_body Try.func67 rfl (by kernel_rfl) ?_)
  simp (disch := omega) only [go_sem, Try.ntmps67, Try.results67]
  repeat' (first
    | (with_reducible refine i_seq ?_)
    | ((with_reducible refine i_block ?_); (try simp (disch := omega) only [go_sem, *]))
    | ((with_reducible refine i_regionQ (fun Q' hQ => ?_)); (try simp (disch := omega) only [go_sem, *]))
    | ((with_reducible refine Imp.go hQ ?_); clear hQ; (try simp (disch := omega) only [go_sem, *]))
    | ((with_reducible refine resOk_g (fun h => ?_) (fun h => ?_)) <;> (try simp only [Bool.not_eq_eq_eq_not, Bool.not_true, Bool.not_false, reduceCtorEq] at h) <;> (try have h' := of_decide_eq_true h) <;> (try (have hz : (_ : Int) = (_ : Int) := h'; clear hz h')) <;> (try have h' := of_decide_eq_false h) <;> (try have h' := inB_t h) <;> (try (exfalso; omega)) <;> (try simp (disch := omega) only [go_sem, *]))
    | (((with_reducible refine i_condT ?_ ?_); (focus (simp only [go_sem, *]; done))) <;> (try simp (disch := omega) only [go_sem, *]))
    | (((with_reducible refine i_condF ?_ ?_); (focus (simp only [go_sem, *]; done))) <;> (try simp (disch := omega) only [go_sem, *]))
    | ((with_reducible refine i_cond (by simp only [go_sem, *] <;> rfl) (fun h => ?_) (fun h => ?_)) <;> (try simp only [Bool.not_eq_eq_eq_not, Bool.not_true, Bool.not_false, reduceCtorEq] at h) <;> (try have h' := of_decide_eq_true h) <;> (try (have hz : (_ : Int) = (_ : Int) := h'; clear hz h')) <;> (try have h' := of_decide_eq_false h) <;> (try have h' := inB_t h) <;> (try (exfalso; omega)) <;> (try simp (disch := omega) only [go_sem, *])))
  all_goals (try simp (disch := omega) only [EndK, go_sem, natLe_ok, *])
  refine i_loop (α := {k : Nat // k ≤ b.length ∧ k ≤ 4000}) (fun k => ⟨mkEnv 32 [(0, .one (.ro 1 (bytesD b))), (3, .one (iV (newH b k.1))), (4, .one (iV k.1))], []⟩) (fun k => b.length - k.1) ⟨0, by omega, by omega⟩ ?_ ?_
  · first | (refine weak_canon [0, 3, 4] [] ?_ ?_ ?_ <;> (simp (disch := omega) only [go_sem, newH]; done)) | trace_state
  rintro ⟨k, hk, hk2⟩
  simp (disch := omega) only [go_sem]
  repeat' (first
    | (with_reducible refine i_seq ?_)
    | ((with_reducible refine i_block ?_); (try simp (disch := omega) only [go_sem, *]))
    | ((with_reducible refine i_regionQ (fun Q' hQ => ?_)); (try simp (disch := omega) only [go_sem, *]))
    | ((with_reducible refine Imp.go hQ ?_); clear hQ; (try simp (disch := omega) only [go_sem, *]))
    | ((with_reducible refine resOk_g (fun h => ?_) (fun h => ?_)) <;> (try simp only [Bool.not_eq_eq_eq_not, Bool.not_true, Bool.not_false, reduceCtorEq] at h) <;> (try have h' := of_decide_eq_true h) <;> (try (have hz : (_ : Int) = (_ : Int) := h'; clear hz h')) <;> (try have h' := of_decide_eq_false h) <;> (try have h' := inB_t h) <;> (try (exfalso; omega)) <;> (try simp (disch := omega) only [go_sem, *]))
    | (((with_reducible refine i_condT ?_ ?_); (focus (simp only [go_sem, *]; done))) <;> (try simp (disch := omega) only [go_sem, *]))
    | (((with_reducible refine i_condF ?_ ?_); (focus (simp only [go_sem, *]; done))) <;> (try simp (disch := omega) only [go_sem, *]))
    | ((with_reducible refine i_cond (by simp only [go_sem, *] <;> rfl) (fun h => ?_) (fun h => ?_)) <;> (try simp only [Bool.not_eq_eq_eq_not, Bool.not_true, Bool.not_false, reduceCtorEq] at h) <;> (try have h' := of_decide_eq_true h) <;> (try (have hz : (_ : Int) = (_ : Int) := h'; clear hz h')) <;> (try have h' := of_decide_eq_false h) <;> (try have h' := inB_t h) <;> (try (exfalso; omega)) <;> (try simp (disch := omega) only [go_sem, *])))
  all_goals (try simp (disch := omega) only [EndK, go_sem, natLe_ok, *])
  all_goals by_cases hz : k < min b.length 4000
  all_goals (try (exfalso; omega))
  · refine ⟨⟨k + 1, by omega, by omega⟩, ?_, by simp only; omega⟩
    (refine weak_canon [0, 3, 4] [] ?_ ?_ ?_ <;> (simp (disch := omega) only [go_sem, newH]; done))
  all_goals
    have e : min b.length 4000 = k := by omega
    simp only [curNew, e]
    exact ⟨trivial, trivial, trivial⟩
/-! ### Gates -/
def gq (n : Int) : Nat := (min n 2).toNat
theorem gq_le (n : Int) : gq n ≤ 2 := by unfold gq; omega
def negs (k : Nat) : List Int := List.replicate k (-1)
theorem negs_len (k : Nat) : (negs k).length = k := by simp [negs]
theorem negs_succ (k : Nat) : negs (k + 1) = negs k ++ [-1] := by rw [negs, List.replicate_succ', negs]
theorem negs_take (k : Nat) : (negs k).take k = negs k := List.take_of_length_le (by rw [negs_len]; omega)
attribute [go_sem] negs_len negs_take
def gateNew (n : Int) : Gate := ⟨-1, [], negs (gq n)⟩
def gnH : Nat → List AObj
  | 0 => [.live 3 [[iV 0, .v nilV, .v nilV]], .live 3 [[iV (-1), .v nilV, .v nilV]]]
  | k + 1 => [.live 3 [[iV 0, .v nilV, .v nilV]], .live 3 [[iV (-1), .v nilV, .ref 2 0 (k + 1)]], .live 1 (intsT (negs (k + 1)))]
theorem gnH0 : gnH 0 = [.live 3 [[iV 0, .v nilV, .v nilV]], .live 3 [[iV (-1), .v nilV, .v nilV]]] := rfl
theorem gnH1 : gnH 1 = [.live 3 [[iV 0, .v nilV, .v nilV]], .live 3 [[iV (-1), .v nilV, .ref 2 0 1]], .live 1 [[iV (-1)]]] := rfl
theorem gnHs (k : Nat) : gnH (k + 1) = [.live 3 [[iV 0, .v nilV, .v nilV]], .live 3 [[iV (-1), .v nilV, .ref 2 0 (k + 1)]], .live 1 (intsT (negs (k + 1)))] := rfl
theorem sGateNew_ok (n : Int) : CallOk Try.prog 123 [.one (iV n)] (.s (.agg (gateT (gateNew n)))) [none] := by
  have h2 := gq_le n
  refine callOk_of_hcall 40 (hcall_of_body Try.func123 rfl (by kernel_rfl) ?_)
  simp (disch := omega) only [go_sem, Try.ntmps123, Try.results123]
  repeat' (first
    | (with_reducible refine i_seq ?_)
    | ((with_reducible refine i_block ?_); (try simp (disch := omega) only [go_sem, *]))
    | ((with_reducible refine i_regionQ (fun Q' hQ => ?_)); (try simp (disch := omega) only [go_sem, *]))
    | ((with_reducible refine Imp.go hQ ?_); clear hQ; (try simp (disch := omega) only [go_sem, *]))
    | ((with_reducible refine resOk_g (fun h => ?_) (fun h => ?_)) <;> (try simp only [Bool.not_eq_eq_eq_not, Bool.not_true, Bool.not_false, reduceCtorEq] at h) <;> (try have h' := of_decide_eq_true h) <;> (try (have hz : (_ : Int) = (_ : Int) := h'; clear hz h')) <;> (try have h' := of_decide_eq_false h) <;> (try have h' := inB_t h) <;> (try (exfalso; omega)) <;> (try simp (disch := omega) only [go_sem, *]))
    | (((with_reducible refine i_condT ?_ ?_); (focus (simp only [go_sem, *]; done))) <;> (try simp (disch := omega) only [go_sem, *]))
    | (((with_reducible refine i_condF ?_ ?_); (focus (simp only [go_sem, *]; done))) <;> (try simp (disch := omega) only [go_sem, *]))
    | ((with_reducible refine i_cond (by simp only [go_sem, *] <;> rfl) (fun h => ?_) (fun h => ?_)) <;> (try simp only [Bool.not_eq_eq_eq_not, Bool.not_true, Bool.not_false, reduceCtorEq] at h) <;> (try have h' := of_decide_eq_true h) <;> (try (have hz : (_ : Int) = (_ : Int) := h'; clear hz h')) <;> (try have h' := of_decide_eq_false h) <;> (try have h' := inB_t h) <;> (try (exfalso; omega)) <;> (try simp (disch := omega) only [go_sem, *])))
  all_goals (try simp (disch := omega) only [EndK, go_sem, natLe_ok, *])
  refine i_loop (α := {k : Nat // k ≤ gq n}) (fun k => ⟨mkEnv 21 [(0, .one (iV n)), (2, .one (.ptr 0 0 0)), (3, .one (.ptr 1 0 0)), (4, .one (iV k.1))], gnH k.1⟩) (fun k => 2 - k.1) ⟨0, by omega⟩ ?_ ?_
  · first | (refine weak_canon [0, 2, 3, 4] [0, 1] ?_ ?_ ?_ <;> (simp (disch := omega) only [go_sem, gnH0]; done)) | trace_state
  rintro ⟨k, hk⟩
  cases k with
  | zero =>
    simp (disch := omega) only [go_sem, gnH0]
    repeat' (first
      | (with_reducible refine i_seq ?_)
      | ((with_reducible refine i_block ?_); (try simp (disch := omega) only [go_sem, *]))
      | ((with_reducible refine i_regionQ (fun Q' hQ => ?_)); (try simp (disch := omega) only [go_sem, *]))
      | ((with_reducible refine Imp.go hQ ?_); clear hQ; (try simp (disch := omega) only [go_sem, *]))
      | ((with_reducible refine resOk_g (fun h => ?_) (fun h => ?_)) <;> (try simp only [Bool.not_eq_eq_eq_not, Bool.not_true, Bool.not_false, reduceCtorEq] at h) <;> (try have h' := of_decide_eq_true h) <;> (try (have hz : (_ : Int) = (_ : Int) := h'; clear hz h')) <;> (try have h' := of_decide_eq_false h) <;> (try have h' := inB_t h) <;> (try (exfalso; omega)) <;> (try simp (disch := omega) only [go_sem, *]))
      | (((with_reducible refine i_condT ?_ ?_); (focus (simp only [go_sem, *]; done))) <;> (try simp (disch := omega) only [go_sem, *]))
      | (((with_reducible refine i_condF ?_ ?_); (focus (simp only [go_sem, *]; done))) <;> (try simp (disch := omega) only [go_sem, *]))
      | ((with_reducible refine i_cond (by simp only [go_sem, *] <;> rfl) (fun h => ?_) (fun h => ?_)) <;> (try simp only [Bool.not_eq_eq_eq_not, Bool.not_true, Bool.not_false, reduceCtorEq] at h) <;> (try have h' := of_decide_eq_true h) <;> (try (have hz : (_ : Int) = (_ : Int) := h'; clear hz h')) <;> (try have h' := of_decide_eq_false h) <;> (try have h' := inB_t h) <;> (try (exfalso; omega)) <;> (try simp (disch := omega) only [go_sem, *])))
    all_goals (try simp (disch := omega) only [EndK, go_sem, natLe_ok, *])
    all_goals by_cases hz : 0 < gq n
    all_goals (try (exfalso; unfold gq at hz; omega))
    · refine ⟨⟨1, by omega⟩, ?_, by simp only; omega⟩
      first | (refine weak_canon [0, 2, 3, 4] [0, 1, 3] ?_ ?_ ?_ <;> (simp (disch := omega) only [go_sem, gnH1, Int.zero_add, Int.natCast_one]; done)) | trace_state
    · have e : gq n = 0 := by omega
      simp only [gateNew, e]
      exact ⟨trivial, rfl, rfl⟩
  | succ k =>
    have hs := negs_succ (k + 1)
    simp (disch := omega) only [go_sem, gnHs]
    repeat' (first
      | (with_reducible refine i_seq ?_)
      | ((with_reducible refine i_block ?_); (try simp (disch := omega) only [go_sem, *]))
      | ((with_reducible refine i_regionQ (fun Q' hQ => ?_)); (try simp (disch := omega) only [go_sem, *]))
      | ((with_reducible refine Imp.go hQ ?_); clear hQ; (try simp (disch := omega) only [go_sem, *]))
      | ((with_reducible refine resOk_g (fun h => ?_) (fun h => ?_)) <;> (try simp only [Bool.not_eq_eq_eq_not, Bool.not_true, Bool.not_false, reduceCtorEq] at h) <;> (try have h' := of_decide_eq_true h) <;> (try (have hz : (_ : Int) = (_ : Int) := h'; clear hz h')) <;> (try have h' := of_decide_eq_false h) <;> (try have h' := inB_t h) <;> (try (exfalso; omega)) <;> (try simp (disch := omega) only [go_sem, *]))
      | (((with_reducible refine i_condT ?_ ?_); (focus (simp only [go_sem, *]; done))) <;> (try simp (disch := omega) only [go_sem, *]))
      | (((with_reducible refine i_condF ?_ ?_); (focus (simp only [go_sem, *]; done))) <;> (try simp (disch := omega) only [go_sem, *]))
      | ((with_reducible refine i_cond (by simp only [go_sem, *] <;> rfl) (fun h => ?_) (fun h => ?_)) <;> (try simp only [Bool.not_eq_eq_eq_not, Bool.not_true, Bool.not_false, reduceCtorEq] at h) <;> (try have h' := of_decide_eq_true h) <;> (try (have hz : (_ : Int) = (_ : Int) := h'; clear hz h')) <;> (try have h' := of_decide_eq_false h) <;> (try have h' := inB_t h) <;> (try (exfalso; omega)) <;> (try simp (disch := omega) only [go_sem, *])))
    all_goals (try simp (disch := omega) only [EndK, go_sem, natLe_ok, *])
    all_goals by_cases hz : k + 1 < gq n
    all_goals (try (exfalso; unfold gq at hz; omega))
    · refine ⟨⟨k + 1 + 1, by omega⟩, ?_, by simp only; omega⟩
      first | (refine weak_canon [0, 2, 3, 4] [0, 1, 4] ?_ ?_ ?_ <;> (simp (disch := omega) only [go_sem, gnHs, hs]; done)) | trace_state
    all_goals
      have e : gq n = k + 1 := by omega
      simp only [gateNew, e]
      exact ⟨trivial, rfl, trivial⟩
end Go.Proofs.Ytgeoipplkjgnfaa.E
