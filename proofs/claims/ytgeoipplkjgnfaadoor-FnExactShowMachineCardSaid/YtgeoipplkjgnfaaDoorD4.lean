import Derived.Test.YtgeoipplkjgnfaaDoorD3
set_option linter.unusedVariables false
set_option linter.unusedSimpArgs false
set_option maxRecDepth 100000
set_option maxHeartbeats 8000000
namespace Go.Proofs.YtgeoipplkjgnfaaDoor.E
def inB (n lo hi : Int) : Bool := decide (n ≥ lo) && decide (n ≤ hi)
theorem inB_t {a b c : Int} (h : inB a b c = true) : b ≤ a ∧ a ≤ c := by simpa [inB] using h
theorem inB_iff {a b c : Int} : inB a b c = true ↔ b ≤ a ∧ a ≤ c := by simp [inB]
theorem sIn_ok (n lo hi : Int) : CallOk Tryd.prog 19 [.one (iV n), .one (iV lo), .one (iV hi)] (.s (.one (bV (inB n lo hi)))) [none, none, none] := by
  refine callOk_of_hcall 40 (hcall_of_body Tryd.func19 rfl (by kernel_rfl) ?_)
  simp (disch := omega) only [go_sem, Tryd.ntmps19, Tryd.results19]
  repeat' (first
    | (with_reducible refine i_seq ?_)
    | ((with_reducible refine i_block ?_); (try simp (disch := first | omega | (simp only [size_app, size_mk, List.size_toArray, List.length_cons, List.length_nil]; omega)) only [go_sem, inB, *]))
    | ((with_reducible refine i_regionQ (fun Q' hQ => ?_)); (try simp (disch := first | omega | (simp only [size_app, size_mk, List.size_toArray, List.length_cons, List.length_nil]; omega)) only [go_sem, inB, *]))
    | ((with_reducible refine Imp.go hQ ?_); clear hQ; (try simp (disch := first | omega | (simp only [size_app, size_mk, List.size_toArray, List.length_cons, List.length_nil]; omega)) only [go_sem, inB, *]))
    | ((with_reducible refine resOk_g (fun h => ?_) (fun h => ?_)) <;> (try simp only [Bool.not_eq_eq_eq_not, Bool.not_true, Bool.not_false, reduceCtorEq] at h) <;> (try have h' := of_decide_eq_true h) <;> (try (have hz : (_ : Int) = (_ : Int) := h'; clear hz h')) <;> (try have h' := of_decide_eq_false h) <;> (try have h' := inB_t h) <;> (try (exfalso; omega)) <;> (try simp (disch := first | omega | (simp only [size_app, size_mk, List.size_toArray, List.length_cons, List.length_nil]; omega)) only [go_sem, inB, *]))
    | (((with_reducible refine i_condT ?_ ?_); (focus (simp only [go_sem, *]; done))) <;> (try simp (disch := first | omega | (simp only [size_app, size_mk, List.size_toArray, List.length_cons, List.length_nil]; omega)) only [go_sem, inB, *]))
    | (((with_reducible refine i_condF ?_ ?_); (focus (simp only [go_sem, *]; done))) <;> (try simp (disch := first | omega | (simp only [size_app, size_mk, List.size_toArray, List.length_cons, List.length_nil]; omega)) only [go_sem, inB, *]))
    | ((with_reducible refine i_cond (by simp only [go_sem, *] <;> rfl) (fun h => ?_) (fun h => ?_)) <;> (try simp only [Bool.not_eq_eq_eq_not, Bool.not_true, Bool.not_false, reduceCtorEq] at h) <;> (try have h' := of_decide_eq_true h) <;> (try (have hz : (_ : Int) = (_ : Int) := h'; clear hz h')) <;> (try have h' := of_decide_eq_false h) <;> (try have h' := inB_t h) <;> (try (exfalso; omega)) <;> (try simp (disch := first | omega | (simp only [size_app, size_mk, List.size_toArray, List.length_cons, List.length_nil]; omega)) only [go_sem, inB, *])))
  all_goals (try simp (disch := omega) only [EndK, go_sem, inB, natLe_ok, *])
theorem within_ok (n lo hi : Int) : CallOk Tryd.prog 22 [.one (iV n), .one (iV lo), .one (iV hi)] (.s (.one (bV (inB n lo hi)))) [none, none, none] := by
  refine callOk_of_hcall 40 (hcall_of_body Tryd.func22 rfl (by kernel_rfl) ?_)
  simp (disch := omega) only [go_sem, Tryd.ntmps22, Tryd.results22]
  repeat' (first
    | (with_reducible refine i_seq ?_)
    | ((with_reducible refine i_block ?_); (try simp (disch := first | omega | (simp only [size_app, size_mk, List.size_toArray, List.length_cons, List.length_nil]; omega)) only [go_sem, inB, *]))
    | ((with_reducible refine i_regionQ (fun Q' hQ => ?_)); (try simp (disch := first | omega | (simp only [size_app, size_mk, List.size_toArray, List.length_cons, List.length_nil]; omega)) only [go_sem, inB, *]))
    | ((with_reducible refine Imp.go hQ ?_); clear hQ; (try simp (disch := first | omega | (simp only [size_app, size_mk, List.size_toArray, List.length_cons, List.length_nil]; omega)) only [go_sem, inB, *]))
    | ((with_reducible refine resOk_g (fun h => ?_) (fun h => ?_)) <;> (try simp only [Bool.not_eq_eq_eq_not, Bool.not_true, Bool.not_false, reduceCtorEq] at h) <;> (try have h' := of_decide_eq_true h) <;> (try (have hz : (_ : Int) = (_ : Int) := h'; clear hz h')) <;> (try have h' := of_decide_eq_false h) <;> (try have h' := inB_t h) <;> (try (exfalso; omega)) <;> (try simp (disch := first | omega | (simp only [size_app, size_mk, List.size_toArray, List.length_cons, List.length_nil]; omega)) only [go_sem, inB, *]))
    | (((with_reducible refine i_condT ?_ ?_); (focus (simp only [go_sem, *]; done))) <;> (try simp (disch := first | omega | (simp only [size_app, size_mk, List.size_toArray, List.length_cons, List.length_nil]; omega)) only [go_sem, inB, *]))
    | (((with_reducible refine i_condF ?_ ?_); (focus (simp only [go_sem, *]; done))) <;> (try simp (disch := first | omega | (simp only [size_app, size_mk, List.size_toArray, List.length_cons, List.length_nil]; omega)) only [go_sem, inB, *]))
    | ((with_reducible refine i_cond (by simp only [go_sem, *] <;> rfl) (fun h => ?_) (fun h => ?_)) <;> (try simp only [Bool.not_eq_eq_eq_not, Bool.not_true, Bool.not_false, reduceCtorEq] at h) <;> (try have h' := of_decide_eq_true h) <;> (try (have hz : (_ : Int) = (_ : Int) := h'; clear hz h')) <;> (try have h' := of_decide_eq_false h) <;> (try have h' := inB_t h) <;> (try (exfalso; omega)) <;> (try simp (disch := first | omega | (simp only [size_app, size_mk, List.size_toArray, List.length_cons, List.length_nil]; omega)) only [go_sem, inB, *])))
  all_goals (try simp (disch := omega) only [EndK, go_sem, inB, natLe_ok, *])
/-! ### A shown number -/
def lowB (n : Int) : ByteArray := itoaB (max n 0)
def numB (n : Int) : ByteArray := itoaB (max n (-1000000000))
def i64 (n : Int) : Prop := -9223372036854775808 ≤ n ∧ n ≤ 9223372036854775807
theorem lowB_len {n : Int} (h : i64 n) : (lowB n).size ≤ 20 := itoaLen (by omega) (by have := h.2; omega)
theorem numB_len {n : Int} (h : i64 n) : (numB n).size ≤ 20 := itoaLen (by omega) (by have := h.2; omega)
theorem sDecimal_i (n : Int) (h0 : 0 ≤ n) (h : n ≤ 9223372036854775807) : CallOk Tryd.prog 32 [.one (iV n)] (.s (.one (sV (decB n.toNat)))) [none] := by
  have := sDecimal_ok n.toNat (by omega)
  rwa [show ((n.toNat : Nat) : Int) = n by omega] at this
theorem sLow_ok (n : Int) (h : i64 n) : CallOk Tryd.prog 20 [.one (iV n)] (.s (.one (sV (lowB n)))) [none] := by
  obtain ⟨h1, h2⟩ := h
  by_cases hn : n < 0
  · have e : lowB n = ⟨#[48]⟩ := by rw [lowB, Int.max_eq_right (by omega), itoaB_pos (by omega)]; exact decB_zero
    have ed : decide (n < 0) = true := decide_eq_true hn
    rw [e]
    refine callOk_of_hcall 40 (hcall_of_body Tryd.func20 rfl (by kernel_rfl) ?_)
    simp (disch := omega) only [go_sem, Tryd.ntmps20, Tryd.results20]
    repeat' (first
      | (with_reducible refine i_seq ?_)
      | ((with_reducible refine i_block ?_); (try simp (disch := first | omega | (simp only [size_app, size_mk, List.size_toArray, List.length_cons, List.length_nil]; omega)) only [go_sem, *]))
      | ((with_reducible refine i_regionQ (fun Q' hQ => ?_)); (try simp (disch := first | omega | (simp only [size_app, size_mk, List.size_toArray, List.length_cons, List.length_nil]; omega)) only [go_sem, *]))
      | ((with_reducible refine Imp.go hQ ?_); clear hQ; (try simp (disch := first | omega | (simp only [size_app, size_mk, List.size_toArray, List.length_cons, List.length_nil]; omega)) only [go_sem, *]))
      | ((with_reducible refine resOk_g (fun h => ?_) (fun h => ?_)) <;> (try simp only [Bool.not_eq_eq_eq_not, Bool.not_true, Bool.not_false, reduceCtorEq] at h) <;> (try have h' := of_decide_eq_true h) <;> (try (have hz : (_ : Int) = (_ : Int) := h'; clear hz h')) <;> (try have h' := of_decide_eq_false h) <;> (try have h' := inB_t h) <;> (try (exfalso; omega)) <;> (try simp (disch := first | omega | (simp only [size_app, size_mk, List.size_toArray, List.length_cons, List.length_nil]; omega)) only [go_sem, *]))
      | (((with_reducible refine i_condT ?_ ?_); (focus (simp only [go_sem, *]; done))) <;> (try simp (disch := first | omega | (simp only [size_app, size_mk, List.size_toArray, List.length_cons, List.length_nil]; omega)) only [go_sem, *]))
      | (((with_reducible refine i_condF ?_ ?_); (focus (simp only [go_sem, *]; done))) <;> (try simp (disch := first | omega | (simp only [size_app, size_mk, List.size_toArray, List.length_cons, List.length_nil]; omega)) only [go_sem, *]))
      | ((with_reducible refine i_cond (by simp only [go_sem, *] <;> rfl) (fun h => ?_) (fun h => ?_)) <;> (try simp only [Bool.not_eq_eq_eq_not, Bool.not_true, Bool.not_false, reduceCtorEq] at h) <;> (try have h' := of_decide_eq_true h) <;> (try (have hz : (_ : Int) = (_ : Int) := h'; clear hz h')) <;> (try have h' := of_decide_eq_false h) <;> (try have h' := inB_t h) <;> (try (exfalso; omega)) <;> (try simp (disch := first | omega | (simp only [size_app, size_mk, List.size_toArray, List.length_cons, List.length_nil]; omega)) only [go_sem, *])))
    all_goals (try simp (disch := omega) only [EndK, go_sem, natLe_ok, *])
  · have e : lowB n = decB n.toNat := by rw [lowB, Int.max_eq_left (by omega), itoaB_pos (by omega)]
    have ed : decide (n < 0) = false := decide_eq_false hn
    rw [e]
    refine callOk_of_hcall 40 (hcall_of_body Tryd.func20 rfl (by kernel_rfl) ?_)
    simp (disch := omega) only [go_sem, Tryd.ntmps20, Tryd.results20]
    repeat' (first
      | (with_reducible refine i_seq ?_)
      | ((with_reducible refine i_block ?_); (try simp (disch := first | omega | (simp only [size_app, size_mk, List.size_toArray, List.length_cons, List.length_nil]; omega)) only [go_sem, *]))
      | ((with_reducible refine i_regionQ (fun Q' hQ => ?_)); (try simp (disch := first | omega | (simp only [size_app, size_mk, List.size_toArray, List.length_cons, List.length_nil]; omega)) only [go_sem, *]))
      | ((with_reducible refine Imp.go hQ ?_); clear hQ; (try simp (disch := first | omega | (simp only [size_app, size_mk, List.size_toArray, List.length_cons, List.length_nil]; omega)) only [go_sem, *]))
      | ((with_reducible refine resOk_g (fun h => ?_) (fun h => ?_)) <;> (try simp only [Bool.not_eq_eq_eq_not, Bool.not_true, Bool.not_false, reduceCtorEq] at h) <;> (try have h' := of_decide_eq_true h) <;> (try (have hz : (_ : Int) = (_ : Int) := h'; clear hz h')) <;> (try have h' := of_decide_eq_false h) <;> (try have h' := inB_t h) <;> (try (exfalso; omega)) <;> (try simp (disch := first | omega | (simp only [size_app, size_mk, List.size_toArray, List.length_cons, List.length_nil]; omega)) only [go_sem, *]))
      | (((with_reducible refine i_condT ?_ ?_); (focus (simp only [go_sem, *]; done))) <;> (try simp (disch := first | omega | (simp only [size_app, size_mk, List.size_toArray, List.length_cons, List.length_nil]; omega)) only [go_sem, *]))
      | (((with_reducible refine i_condF ?_ ?_); (focus (simp only [go_sem, *]; done))) <;> (try simp (disch := first | omega | (simp only [size_app, size_mk, List.size_toArray, List.length_cons, List.length_nil]; omega)) only [go_sem, *]))
      | ((with_reducible refine i_cond (by simp only [go_sem, *] <;> rfl) (fun h => ?_) (fun h => ?_)) <;> (try simp only [Bool.not_eq_eq_eq_not, Bool.not_true, Bool.not_false, reduceCtorEq] at h) <;> (try have h' := of_decide_eq_true h) <;> (try (have hz : (_ : Int) = (_ : Int) := h'; clear hz h')) <;> (try have h' := of_decide_eq_false h) <;> (try have h' := inB_t h) <;> (try (exfalso; omega)) <;> (try simp (disch := first | omega | (simp only [size_app, size_mk, List.size_toArray, List.length_cons, List.length_nil]; omega)) only [go_sem, *]))
      | ((with_reducible refine hcall_of_callOk 40 true (sDecimal_i n (by omega) h2) ?_ ?_ ?_ ?_ ?_); (focus (simp (disch := omega) only [go_sem, natLe_ok]; done)); (focus (simp (disch := omega) only [go_sem, natLe_ok]; done)); (focus (simp (disch := omega) only [go_sem, natLe_ok]; done)); (focus (simp (disch := omega) only [go_sem, natLe_ok]; done)); simp only [go_sem]; refine aL_run ?_; (try simp (disch := first | omega | (simp only [size_app, size_mk, List.size_toArray, List.length_cons, List.length_nil]; omega)) only [go_sem, *])))
    all_goals (try simp (disch := omega) only [EndK, go_sem, natLe_ok, *])
theorem sNum_ok (n : Int) (h : i64 n) : CallOk Tryd.prog 21 [.one (iV n)] (.s (.one (sV (numB n)))) [none] := by
  obtain ⟨h1, h2⟩ := h
  by_cases hn : n < 0
  · have ed : decide (n < 0) = true := decide_eq_true hn
    by_cases hm : n < -1000000000
    · have e : numB n = ⟨#[45]⟩ ++ decB (Int.toNat 1000000000) := by rw [numB, Int.max_eq_right (by omega), itoaB_neg (by omega)]; rfl
      have em : decide (n < -1000000000) = true := decide_eq_true hm
      have hl := decB_len (n := Int.toNat 1000000000) (by omega)
      have hd := sDecimal_i 1000000000 (by omega) (by omega)
      rw [e]
      generalize decB (Int.toNat 1000000000) = z at *
      refine callOk_of_hcall 40 (hcall_of_body Tryd.func21 rfl (by kernel_rfl) ?_)
      simp (disch := omega) only [go_sem, Tryd.ntmps21, Tryd.results21]
      repeat' (first
        | (with_reducible refine i_seq ?_)
        | ((with_reducible refine i_block ?_); (try simp (disch := first | omega | (simp only [size_app, size_mk, List.size_toArray, List.length_cons, List.length_nil]; omega)) only [go_sem, Int.zero_sub, Int.neg_neg, *]))
        | ((with_reducible refine i_regionQ (fun Q' hQ => ?_)); (try simp (disch := first | omega | (simp only [size_app, size_mk, List.size_toArray, List.length_cons, List.length_nil]; omega)) only [go_sem, Int.zero_sub, Int.neg_neg, *]))
        | ((with_reducible refine Imp.go hQ ?_); clear hQ; (try simp (disch := first | omega | (simp only [size_app, size_mk, List.size_toArray, List.length_cons, List.length_nil]; omega)) only [go_sem, Int.zero_sub, Int.neg_neg, *]))
        | ((with_reducible refine resOk_g (fun h => ?_) (fun h => ?_)) <;> (try simp only [Bool.not_eq_eq_eq_not, Bool.not_true, Bool.not_false, reduceCtorEq] at h) <;> (try have h' := of_decide_eq_true h) <;> (try (have hz : (_ : Int) = (_ : Int) := h'; clear hz h')) <;> (try have h' := of_decide_eq_false h) <;> (try have h' := inB_t h) <;> (try (exfalso; omega)) <;> (try simp (disch := first | omega | (simp only [size_app, size_mk, List.size_toArray, List.length_cons, List.length_nil]; omega)) only [go_sem, Int.zero_sub, Int.neg_neg, *]))
        | (((with_reducible refine i_condT ?_ ?_); (focus (simp only [go_sem, *]; done))) <;> (try simp (disch := first | omega | (simp only [size_app, size_mk, List.size_toArray, List.length_cons, List.length_nil]; omega)) only [go_sem, Int.zero_sub, Int.neg_neg, *]))
        | (((with_reducible refine i_condF ?_ ?_); (focus (simp only [go_sem, *]; done))) <;> (try simp (disch := first | omega | (simp only [size_app, size_mk, List.size_toArray, List.length_cons, List.length_nil]; omega)) only [go_sem, Int.zero_sub, Int.neg_neg, *]))
        | ((with_reducible refine i_cond (by simp only [go_sem, *] <;> rfl) (fun h => ?_) (fun h => ?_)) <;> (try simp only [Bool.not_eq_eq_eq_not, Bool.not_true, Bool.not_false, reduceCtorEq] at h) <;> (try have h' := of_decide_eq_true h) <;> (try (have hz : (_ : Int) = (_ : Int) := h'; clear hz h')) <;> (try have h' := of_decide_eq_false h) <;> (try have h' := inB_t h) <;> (try (exfalso; omega)) <;> (try simp (disch := first | omega | (simp only [size_app, size_mk, List.size_toArray, List.length_cons, List.length_nil]; omega)) only [go_sem, Int.zero_sub, Int.neg_neg, *]))
        | ((with_reducible refine hcall_of_callOk 40 true (hd) ?_ ?_ ?_ ?_ ?_); (focus (simp (disch := omega) only [go_sem, Int.zero_sub, Int.neg_neg, natLe_ok]; done)); (focus (simp (disch := omega) only [go_sem, Int.zero_sub, Int.neg_neg, natLe_ok]; done)); (focus (simp (disch := omega) only [go_sem, Int.zero_sub, Int.neg_neg, natLe_ok]; done)); (focus (simp (disch := omega) only [go_sem, Int.zero_sub, Int.neg_neg, natLe_ok]; done)); simp only [go_sem, Int.zero_sub, Int.neg_neg]; refine aL_run ?_; (try simp (disch := first | omega | (simp only [size_app, size_mk, List.size_toArray, List.length_cons, List.length_nil]; omega)) only [go_sem, Int.zero_sub, Int.neg_neg, *])))
      all_goals (try simp (disch := omega) only [EndK, go_sem, Int.zero_sub, Int.neg_neg, natLe_ok, *])
    · have e : numB n = ⟨#[45]⟩ ++ decB (-n).toNat := by rw [numB, Int.max_eq_left (by omega), itoaB_neg hn]
      have em : decide (n < -1000000000) = false := decide_eq_false hm
      have hl := decB_len (n := (-n).toNat) (by omega)
      have hd := sDecimal_i (0 - n) (by omega) (by omega)
      have ez : (0 - n).toNat = (-n).toNat := by congr 1; omega
      rw [ez] at hd
      rw [e]
      refine callOk_of_hcall 40 (hcall_of_body Tryd.func21 rfl (by kernel_rfl) ?_)
      simp (disch := omega) only [go_sem, Tryd.ntmps21, Tryd.results21]
      repeat' (first
        | (with_reducible refine i_seq ?_)
        | ((with_reducible refine i_block ?_); (try simp (disch := first | omega | (simp only [size_app, size_mk, List.size_toArray, List.length_cons, List.length_nil]; omega)) only [go_sem, *]))
        | ((with_reducible refine i_regionQ (fun Q' hQ => ?_)); (try simp (disch := first | omega | (simp only [size_app, size_mk, List.size_toArray, List.length_cons, List.length_nil]; omega)) only [go_sem, *]))
        | ((with_reducible refine Imp.go hQ ?_); clear hQ; (try simp (disch := first | omega | (simp only [size_app, size_mk, List.size_toArray, List.length_cons, List.length_nil]; omega)) only [go_sem, *]))
        | ((with_reducible refine resOk_g (fun h => ?_) (fun h => ?_)) <;> (try simp only [Bool.not_eq_eq_eq_not, Bool.not_true, Bool.not_false, reduceCtorEq] at h) <;> (try have h' := of_decide_eq_true h) <;> (try (have hz : (_ : Int) = (_ : Int) := h'; clear hz h')) <;> (try have h' := of_decide_eq_false h) <;> (try have h' := inB_t h) <;> (try (exfalso; omega)) <;> (try simp (disch := first | omega | (simp only [size_app, size_mk, List.size_toArray, List.length_cons, List.length_nil]; omega)) only [go_sem, *]))
        | (((with_reducible refine i_condT ?_ ?_); (focus (simp only [go_sem, *]; done))) <;> (try simp (disch := first | omega | (simp only [size_app, size_mk, List.size_toArray, List.length_cons, List.length_nil]; omega)) only [go_sem, *]))
        | (((with_reducible refine i_condF ?_ ?_); (focus (simp only [go_sem, *]; done))) <;> (try simp (disch := first | omega | (simp only [size_app, size_mk, List.size_toArray, List.length_cons, List.length_nil]; omega)) only [go_sem, *]))
        | ((with_reducible refine i_cond (by simp only [go_sem, *] <;> rfl) (fun h => ?_) (fun h => ?_)) <;> (try simp only [Bool.not_eq_eq_eq_not, Bool.not_true, Bool.not_false, reduceCtorEq] at h) <;> (try have h' := of_decide_eq_true h) <;> (try (have hz : (_ : Int) = (_ : Int) := h'; clear hz h')) <;> (try have h' := of_decide_eq_false h) <;> (try have h' := inB_t h) <;> (try (exfalso; omega)) <;> (try simp (disch := first | omega | (simp only [size_app, size_mk, List.size_toArray, List.length_cons, List.length_nil]; omega)) only [go_sem, *]))
        | ((with_reducible refine hcall_of_callOk 40 true (hd) ?_ ?_ ?_ ?_ ?_); (focus (simp (disch := omega) only [go_sem, natLe_ok]; done)); (focus (simp (disch := omega) only [go_sem, natLe_ok]; done)); (focus (simp (disch := omega) only [go_sem, natLe_ok]; done)); (focus (simp (disch := omega) only [go_sem, natLe_ok]; done)); simp only [go_sem]; refine aL_run ?_; (try simp (disch := first | omega | (simp only [size_app, size_mk, List.size_toArray, List.length_cons, List.length_nil]; omega)) only [go_sem, *])))
      all_goals (try simp (disch := omega) only [EndK, go_sem, natLe_ok, *])
  · have e : numB n = decB n.toNat := by rw [numB, Int.max_eq_left (by omega), itoaB_pos (by omega)]
    have ed : decide (n < 0) = false := decide_eq_false hn
    rw [e]
    refine callOk_of_hcall 40 (hcall_of_body Tryd.func21 rfl (by kernel_rfl) ?_)
    simp (disch := omega) only [go_sem, Tryd.ntmps21, Tryd.results21]
    repeat' (first
      | (with_reducible refine i_seq ?_)
      | ((with_reducible refine i_block ?_); (try simp (disch := first | omega | (simp only [size_app, size_mk, List.size_toArray, List.length_cons, List.length_nil]; omega)) only [go_sem, *]))
      | ((with_reducible refine i_regionQ (fun Q' hQ => ?_)); (try simp (disch := first | omega | (simp only [size_app, size_mk, List.size_toArray, List.length_cons, List.length_nil]; omega)) only [go_sem, *]))
      | ((with_reducible refine Imp.go hQ ?_); clear hQ; (try simp (disch := first | omega | (simp only [size_app, size_mk, List.size_toArray, List.length_cons, List.length_nil]; omega)) only [go_sem, *]))
      | ((with_reducible refine resOk_g (fun h => ?_) (fun h => ?_)) <;> (try simp only [Bool.not_eq_eq_eq_not, Bool.not_true, Bool.not_false, reduceCtorEq] at h) <;> (try have h' := of_decide_eq_true h) <;> (try (have hz : (_ : Int) = (_ : Int) := h'; clear hz h')) <;> (try have h' := of_decide_eq_false h) <;> (try have h' := inB_t h) <;> (try (exfalso; omega)) <;> (try simp (disch := first | omega | (simp only [size_app, size_mk, List.size_toArray, List.length_cons, List.length_nil]; omega)) only [go_sem, *]))
      | (((with_reducible refine i_condT ?_ ?_); (focus (simp only [go_sem, *]; done))) <;> (try simp (disch := first | omega | (simp only [size_app, size_mk, List.size_toArray, List.length_cons, List.length_nil]; omega)) only [go_sem, *]))
      | (((with_reducible refine i_condF ?_ ?_); (focus (simp only [go_sem, *]; done))) <;> (try simp (disch := first | omega | (simp only [size_app, size_mk, List.size_toArray, List.length_cons, List.length_nil]; omega)) only [go_sem, *]))
      | ((with_reducible refine i_cond (by simp only [go_sem, *] <;> rfl) (fun h => ?_) (fun h => ?_)) <;> (try simp only [Bool.not_eq_eq_eq_not, Bool.not_true, Bool.not_false, reduceCtorEq] at h) <;> (try have h' := of_decide_eq_true h) <;> (try (have hz : (_ : Int) = (_ : Int) := h'; clear hz h')) <;> (try have h' := of_decide_eq_false h) <;> (try have h' := inB_t h) <;> (try (exfalso; omega)) <;> (try simp (disch := first | omega | (simp only [size_app, size_mk, List.size_toArray, List.length_cons, List.length_nil]; omega)) only [go_sem, *]))
      | ((with_reducible refine hcall_of_callOk 40 true (sDecimal_i n (by omega) h2) ?_ ?_ ?_ ?_ ?_); (focus (simp (disch := omega) only [go_sem, natLe_ok]; done)); (focus (simp (disch := omega) only [go_sem, natLe_ok]; done)); (focus (simp (disch := omega) only [go_sem, natLe_ok]; done)); (focus (simp (disch := omega) only [go_sem, natLe_ok]; done)); simp only [go_sem]; refine aL_run ?_; (try simp (disch := first | omega | (simp only [size_app, size_mk, List.size_toArray, List.length_cons, List.length_nil]; omega)) only [go_sem, *])))
    all_goals (try simp (disch := omega) only [EndK, go_sem, natLe_ok, *])
theorem if_max (n m : Int) : (if m > n then m else n) = max n m := by
  by_cases h : m > n
  · rw [if_pos h, Int.max_eq_right (by omega)]
  · rw [if_neg h, Int.max_eq_left (by omega)]
theorem shown_ok (n : Int) (h : i64 n) : CallOk Tryd.prog 24 [.one (iV n)] (.s (.one (sV (numB n)))) [none] := by
  obtain ⟨h1, h2⟩ := h
  have hd := iDecimal_ok (max n (-1000000000)) (by omega) (by omega)
  refine callOk_of_hcall 40 (hcall_of_body Tryd.func24 rfl (by kernel_rfl) ?_)
  simp (disch := omega) only [go_sem, Tryd.ntmps24, Tryd.results24]
  repeat' (first
    | (with_reducible refine i_seq ?_)
    | ((with_reducible refine i_block ?_); (try simp (disch := omega) only [go_sem, numB, if_max, *]))
    | ((with_reducible refine i_regionQ (fun Q' hQ => ?_)); (try simp (disch := omega) only [go_sem, numB, if_max, *]))
    | ((with_reducible refine Imp.go hQ ?_); clear hQ; (try simp (disch := omega) only [go_sem, numB, if_max, *]))
    | ((with_reducible refine resOk_g (fun h => ?_) (fun h => ?_)) <;> (try simp only [Bool.not_eq_eq_eq_not, Bool.not_true, Bool.not_false, reduceCtorEq] at h) <;> (try have h' := of_decide_eq_true h) <;> (try (have hz : (_ : Int) = (_ : Int) := h'; clear hz h')) <;> (try have h' := of_decide_eq_false h) <;> (try have h' := inB_t h) <;> (try (exfalso; omega)) <;> (try simp (disch := omega) only [go_sem, numB, if_max, *]))
    | (((with_reducible refine i_condT ?_ ?_); (focus (simp only [go_sem, *]; done))) <;> (try simp (disch := omega) only [go_sem, numB, if_max, *]))
    | (((with_reducible refine i_condF ?_ ?_); (focus (simp only [go_sem, *]; done))) <;> (try simp (disch := omega) only [go_sem, numB, if_max, *]))
    | ((with_reducible refine i_cond (by simp only [go_sem, *] <;> rfl) (fun h => ?_) (fun h => ?_)) <;> (try simp only [Bool.not_eq_eq_eq_not, Bool.not_true, Bool.not_false, reduceCtorEq] at h) <;> (try have h' := of_decide_eq_true h) <;> (try (have hz : (_ : Int) = (_ : Int) := h'; clear hz h')) <;> (try have h' := of_decide_eq_false h) <;> (try have h' := inB_t h) <;> (try (exfalso; omega)) <;> (try simp (disch := omega) only [go_sem, numB, if_max, *]))
    | ((with_reducible refine hcall_of_callOk 40 true (hd) ?_ ?_ ?_ ?_ ?_); (focus (simp (disch := omega) only [go_sem, numB, if_max, natLe_ok]; done)); (focus (simp (disch := omega) only [go_sem, numB, if_max, natLe_ok]; done)); (focus (simp (disch := omega) only [go_sem, numB, if_max, natLe_ok]; done)); (focus (simp (disch := omega) only [go_sem, numB, if_max, natLe_ok]; done)); simp only [go_sem, numB, if_max]; refine aL_run ?_; (try simp (disch := omega) only [go_sem, numB, if_max, *])))
  all_goals (try simp (disch := omega) only [EndK, go_sem, numB, if_max, natLe_ok, *])
/-! ### A shown event -/
structure Event where
  process : Int
  kind : Int
  num : Int
def evRow (e : Event) : List T := [iV e.process, iV e.kind, iV e.num]
attribute [go_sem] evRow
def evOk (e : Event) : Prop := i64 e.process ∧ i64 e.kind ∧ i64 e.num
def evWord (k : Int) : ByteArray :=
  if k = 1 then ⟨#[101, 110, 116, 101, 114]⟩ else if k = 2 then ⟨#[108, 101, 97, 118, 101]⟩ else if k = 3 then ⟨#[100, 101, 108, 97, 121]⟩
  else if k = 4 then ⟨#[99, 111, 110, 116]⟩ else if k = 5 then ⟨#[112, 114, 105, 110, 116]⟩ else if k = 6 then ⟨#[114, 101, 97, 100]⟩
  else if k = 7 then ⟨#[100, 111, 110, 101]⟩ else ⟨#[102, 97, 117, 108, 116]⟩
def showB (e : Event) : ByteArray := if inB e.kind 1 8 = true then ⟨#[112]⟩ ++ lowB e.process ++ ⟨#[32]⟩ ++ evWord e.kind ++ ⟨#[32]⟩ ++ numB e.num ++ ⟨#[10]⟩ else ⟨#[]⟩
theorem evWord_len (k : Int) : (evWord k).size ≤ 5 := by
  unfold evWord; repeat' split
  all_goals decide
theorem showB_len {e : Event} (h : evOk e) : (showB e).size ≤ 60 := by
  unfold showB
  have h1 := lowB_len h.1
  have h2 := numB_len h.2.2
  have h3 := evWord_len e.kind
  split
  · simp only [size_app, size_mk, List.size_toArray, List.length_cons, List.length_nil]; omega
  · simp [size_mk]
theorem sShowEvent_ok (e : Event) (he : evOk e) : CallOk Tryd.prog 6 [.agg (evRow e)] (.s (.one (sV (showB e)))) [none] := by
  obtain ⟨p, k, n⟩ := e
  obtain ⟨h1, h2, h3⟩ := he
  simp only at h1 h2 h3
  have l1 := lowB_len h1
  have l2 := numB_len h3
  cases hb : inB k 1 8
  · have e : showB ⟨p, k, n⟩ = ⟨#[]⟩ := by simp only [showB, hb]; rfl
    rw [e]
    refine callOk_of_hcall 40 (hcall_of_body Tryd.func6 rfl (by kernel_rfl) ?_)
    simp (disch := omega) only [go_sem, Tryd.ntmps6, Tryd.results6]
    repeat' (first
      | (with_reducible refine i_seq ?_)
      | ((with_reducible refine i_block ?_); (try simp (disch := first | omega | (simp only [size_app, size_mk, List.size_toArray, List.length_cons, List.length_nil]; omega)) only [go_sem, *]))
      | ((with_reducible refine i_regionQ (fun Q' hQ => ?_)); (try simp (disch := first | omega | (simp only [size_app, size_mk, List.size_toArray, List.length_cons, List.length_nil]; omega)) only [go_sem, *]))
      | ((with_reducible refine Imp.go hQ ?_); clear hQ; (try simp (disch := first | omega | (simp only [size_app, size_mk, List.size_toArray, List.length_cons, List.length_nil]; omega)) only [go_sem, *]))
      | ((with_reducible refine resOk_g (fun h => ?_) (fun h => ?_)) <;> (try simp only [Bool.not_eq_eq_eq_not, Bool.not_true, Bool.not_false, reduceCtorEq] at h) <;> (try have h' := of_decide_eq_true h) <;> (try (have hz : (_ : Int) = (_ : Int) := h'; clear hz h')) <;> (try have h' := of_decide_eq_false h) <;> (try have h' := inB_t h) <;> (try (exfalso; omega)) <;> (try simp (disch := first | omega | (simp only [size_app, size_mk, List.size_toArray, List.length_cons, List.length_nil]; omega)) only [go_sem, *]))
      | (((with_reducible refine i_condT ?_ ?_); (focus (simp only [go_sem, *]; done))) <;> (try simp (disch := first | omega | (simp only [size_app, size_mk, List.size_toArray, List.length_cons, List.length_nil]; omega)) only [go_sem, *]))
      | (((with_reducible refine i_condF ?_ ?_); (focus (simp only [go_sem, *]; done))) <;> (try simp (disch := first | omega | (simp only [size_app, size_mk, List.size_toArray, List.length_cons, List.length_nil]; omega)) only [go_sem, *]))
      | ((with_reducible refine i_cond (by simp only [go_sem, *] <;> rfl) (fun h => ?_) (fun h => ?_)) <;> (try simp only [Bool.not_eq_eq_eq_not, Bool.not_true, Bool.not_false, reduceCtorEq] at h) <;> (try have h' := of_decide_eq_true h) <;> (try (have hz : (_ : Int) = (_ : Int) := h'; clear hz h')) <;> (try have h' := of_decide_eq_false h) <;> (try have h' := inB_t h) <;> (try (exfalso; omega)) <;> (try simp (disch := first | omega | (simp only [size_app, size_mk, List.size_toArray, List.length_cons, List.length_nil]; omega)) only [go_sem, *]))
      | (with_reducible refine i_th (id := 4) (.ho [0, 1, 5, 6, 7, 8, 9, 12, 13] (opm 2 [13, 9, 8, 7] [true, true, true, true, false] (.ho [3, 4, 10, 11] (opm 14 [9, 8, 7] [false, true, true, true] (.ho [15, 16, 17] (.stop)))))) mixedT (by kernel_rfl) (fun Q' hQ => ?_))
      | (with_reducible exact th_none)
      | ((with_reducible refine th_stop ?_ ?_) <;> (try simp (disch := first | omega | (simp only [size_app, size_mk, List.size_toArray, List.length_cons, List.length_nil]; omega)) only [go_sem, *]))
      | ((with_reducible refine th_ho ?_); (try simp (disch := first | omega | (simp only [size_app, size_mk, List.size_toArray, List.length_cons, List.length_nil]; omega)) only [go_sem, *]))
      | ((with_reducible refine th_opm ?_ (by kernel_rfl) (aL_run ?_)) <;> (try simp (disch := first | omega | (simp only [size_app, size_mk, List.size_toArray, List.length_cons, List.length_nil]; omega)) only [go_sem, *]))
      | ((with_reducible refine th_altm ?_ (by kernel_rfl) (aL_run ?_) ?_) <;> (try simp (disch := first | omega | (simp only [size_app, size_mk, List.size_toArray, List.length_cons, List.length_nil]; omega)) only [go_sem, *]))
      | ((with_reducible refine hcall_of_callOk 40 true (sIn_ok k 1 8) ?_ ?_ ?_ ?_ ?_); (focus (simp (disch := omega) only [go_sem, natLe_ok]; done)); (focus (simp (disch := omega) only [go_sem, natLe_ok]; done)); (focus (simp (disch := omega) only [go_sem, natLe_ok]; done)); (focus (simp (disch := omega) only [go_sem, natLe_ok]; done)); simp only [go_sem]; refine aL_run ?_; (try simp (disch := first | omega | (simp only [size_app, size_mk, List.size_toArray, List.length_cons, List.length_nil]; omega)) only [go_sem, *])))
    all_goals (try simp (disch := omega) only [EndK, go_sem, natLe_ok, *])
  · have hk := inB_t hb
    have e : showB ⟨p, k, n⟩ = ⟨#[112]⟩ ++ lowB p ++ ⟨#[32]⟩ ++ evWord k ++ ⟨#[32]⟩ ++ numB n ++ ⟨#[10]⟩ := by simp only [showB, hb, if_true]
    rw [e]
    obtain rfl | rfl | rfl | rfl | rfl | rfl | rfl | rfl : k = 1 ∨ k = 2 ∨ k = 3 ∨ k = 4 ∨ k = 5 ∨ k = 6 ∨ k = 7 ∨ k = 8 := by omega
    · have ew : evWord 1 = ⟨#[101, 110, 116, 101, 114]⟩ := rfl
      rw [ew]
      refine callOk_of_hcall 40 (hcall_of_body Tryd.func6 rfl (by kernel_rfl) ?_)
      simp (disch := omega) only [go_sem, Tryd.ntmps6, Tryd.results6]
      repeat' (first
        | (with_reducible refine i_seq ?_)
        | ((with_reducible refine i_block ?_); (try simp (disch := first | omega | (simp only [size_app, size_mk, List.size_toArray, List.length_cons, List.length_nil]; omega)) only [go_sem, *]))
        | ((with_reducible refine i_regionQ (fun Q' hQ => ?_)); (try simp (disch := first | omega | (simp only [size_app, size_mk, List.size_toArray, List.length_cons, List.length_nil]; omega)) only [go_sem, *]))
        | ((with_reducible refine Imp.go hQ ?_); clear hQ; (try simp (disch := first | omega | (simp only [size_app, size_mk, List.size_toArray, List.length_cons, List.length_nil]; omega)) only [go_sem, *]))
        | ((with_reducible refine resOk_g (fun h => ?_) (fun h => ?_)) <;> (try simp only [Bool.not_eq_eq_eq_not, Bool.not_true, Bool.not_false, reduceCtorEq] at h) <;> (try have h' := of_decide_eq_true h) <;> (try (have hz : (_ : Int) = (_ : Int) := h'; clear hz h')) <;> (try have h' := of_decide_eq_false h) <;> (try have h' := inB_t h) <;> (try (exfalso; omega)) <;> (try simp (disch := first | omega | (simp only [size_app, size_mk, List.size_toArray, List.length_cons, List.length_nil]; omega)) only [go_sem, *]))
        | (((with_reducible refine i_condT ?_ ?_); (focus (simp only [go_sem, *]; done))) <;> (try simp (disch := first | omega | (simp only [size_app, size_mk, List.size_toArray, List.length_cons, List.length_nil]; omega)) only [go_sem, *]))
        | (((with_reducible refine i_condF ?_ ?_); (focus (simp only [go_sem, *]; done))) <;> (try simp (disch := first | omega | (simp only [size_app, size_mk, List.size_toArray, List.length_cons, List.length_nil]; omega)) only [go_sem, *]))
        | ((with_reducible refine i_cond (by simp only [go_sem, *] <;> rfl) (fun h => ?_) (fun h => ?_)) <;> (try simp only [Bool.not_eq_eq_eq_not, Bool.not_true, Bool.not_false, reduceCtorEq] at h) <;> (try have h' := of_decide_eq_true h) <;> (try (have hz : (_ : Int) = (_ : Int) := h'; clear hz h')) <;> (try have h' := of_decide_eq_false h) <;> (try have h' := inB_t h) <;> (try (exfalso; omega)) <;> (try simp (disch := first | omega | (simp only [size_app, size_mk, List.size_toArray, List.length_cons, List.length_nil]; omega)) only [go_sem, *]))
        | (with_reducible refine i_th (id := 4) (.ho [0, 1, 5, 6, 7, 8, 9, 12, 13] (opm 2 [13, 9, 8, 7] [true, true, true, true, false] (.ho [3, 4, 10, 11] (opm 14 [9, 8, 7] [false, true, true, true] (.ho [15, 16, 17] (.stop)))))) mixedT (by kernel_rfl) (fun Q' hQ => ?_))
        | (with_reducible exact th_none)
        | ((with_reducible refine th_stop ?_ ?_) <;> (try simp (disch := first | omega | (simp only [size_app, size_mk, List.size_toArray, List.length_cons, List.length_nil]; omega)) only [go_sem, *]))
        | ((with_reducible refine th_ho ?_); (try simp (disch := first | omega | (simp only [size_app, size_mk, List.size_toArray, List.length_cons, List.length_nil]; omega)) only [go_sem, *]))
        | ((with_reducible refine th_opm ?_ (by kernel_rfl) (aL_run ?_)) <;> (try simp (disch := first | omega | (simp only [size_app, size_mk, List.size_toArray, List.length_cons, List.length_nil]; omega)) only [go_sem, *]))
        | ((with_reducible refine th_altm ?_ (by kernel_rfl) (aL_run ?_) ?_) <;> (try simp (disch := first | omega | (simp only [size_app, size_mk, List.size_toArray, List.length_cons, List.length_nil]; omega)) only [go_sem, *]))
        | ((with_reducible refine hcall_of_callOk 40 true (sIn_ok 1 1 8) ?_ ?_ ?_ ?_ ?_); (focus (simp (disch := omega) only [go_sem, natLe_ok]; done)); (focus (simp (disch := omega) only [go_sem, natLe_ok]; done)); (focus (simp (disch := omega) only [go_sem, natLe_ok]; done)); (focus (simp (disch := omega) only [go_sem, natLe_ok]; done)); simp only [go_sem]; refine aL_run ?_; (try simp (disch := first | omega | (simp only [size_app, size_mk, List.size_toArray, List.length_cons, List.length_nil]; omega)) only [go_sem, *]))
        | ((with_reducible refine hcall_of_callOk 40 true (sLow_ok p h1) ?_ ?_ ?_ ?_ ?_); (focus (simp (disch := omega) only [go_sem, natLe_ok]; done)); (focus (simp (disch := omega) only [go_sem, natLe_ok]; done)); (focus (simp (disch := omega) only [go_sem, natLe_ok]; done)); (focus (simp (disch := omega) only [go_sem, natLe_ok]; done)); simp only [go_sem]; refine aL_run ?_; (try simp (disch := first | omega | (simp only [size_app, size_mk, List.size_toArray, List.length_cons, List.length_nil]; omega)) only [go_sem, *]))
        | ((with_reducible refine hcall_of_callOk 40 true (sNum_ok n h3) ?_ ?_ ?_ ?_ ?_); (focus (simp (disch := omega) only [go_sem, natLe_ok]; done)); (focus (simp (disch := omega) only [go_sem, natLe_ok]; done)); (focus (simp (disch := omega) only [go_sem, natLe_ok]; done)); (focus (simp (disch := omega) only [go_sem, natLe_ok]; done)); simp only [go_sem]; refine aL_run ?_; (try simp (disch := first | omega | (simp only [size_app, size_mk, List.size_toArray, List.length_cons, List.length_nil]; omega)) only [go_sem, *])))
      all_goals (try simp (disch := omega) only [EndK, go_sem, natLe_ok, *])
    · have ew : evWord 2 = ⟨#[108, 101, 97, 118, 101]⟩ := rfl
      rw [ew]
      refine callOk_of_hcall 40 (hcall_of_body Tryd.func6 rfl (by kernel_rfl) ?_)
      simp (disch := omega) only [go_sem, Tryd.ntmps6, Tryd.results6]
      repeat' (first
        | (with_reducible refine i_seq ?_)
        | ((with_reducible refine i_block ?_); (try simp (disch := first | omega | (simp only [size_app, size_mk, List.size_toArray, List.length_cons, List.length_nil]; omega)) only [go_sem, *]))
        | ((with_reducible refine i_regionQ (fun Q' hQ => ?_)); (try simp (disch := first | omega | (simp only [size_app, size_mk, List.size_toArray, List.length_cons, List.length_nil]; omega)) only [go_sem, *]))
        | ((with_reducible refine Imp.go hQ ?_); clear hQ; (try simp (disch := first | omega | (simp only [size_app, size_mk, List.size_toArray, List.length_cons, List.length_nil]; omega)) only [go_sem, *]))
        | ((with_reducible refine resOk_g (fun h => ?_) (fun h => ?_)) <;> (try simp only [Bool.not_eq_eq_eq_not, Bool.not_true, Bool.not_false, reduceCtorEq] at h) <;> (try have h' := of_decide_eq_true h) <;> (try (have hz : (_ : Int) = (_ : Int) := h'; clear hz h')) <;> (try have h' := of_decide_eq_false h) <;> (try have h' := inB_t h) <;> (try (exfalso; omega)) <;> (try simp (disch := first | omega | (simp only [size_app, size_mk, List.size_toArray, List.length_cons, List.length_nil]; omega)) only [go_sem, *]))
        | (((with_reducible refine i_condT ?_ ?_); (focus (simp only [go_sem, *]; done))) <;> (try simp (disch := first | omega | (simp only [size_app, size_mk, List.size_toArray, List.length_cons, List.length_nil]; omega)) only [go_sem, *]))
        | (((with_reducible refine i_condF ?_ ?_); (focus (simp only [go_sem, *]; done))) <;> (try simp (disch := first | omega | (simp only [size_app, size_mk, List.size_toArray, List.length_cons, List.length_nil]; omega)) only [go_sem, *]))
        | ((with_reducible refine i_cond (by simp only [go_sem, *] <;> rfl) (fun h => ?_) (fun h => ?_)) <;> (try simp only [Bool.not_eq_eq_eq_not, Bool.not_true, Bool.not_false, reduceCtorEq] at h) <;> (try have h' := of_decide_eq_true h) <;> (try (have hz : (_ : Int) = (_ : Int) := h'; clear hz h')) <;> (try have h' := of_decide_eq_false h) <;> (try have h' := inB_t h) <;> (try (exfalso; omega)) <;> (try simp (disch := first | omega | (simp only [size_app, size_mk, List.size_toArray, List.length_cons, List.length_nil]; omega)) only [go_sem, *]))
        | (with_reducible refine i_th (id := 4) (.ho [0, 1, 5, 6, 7, 8, 9, 12, 13] (opm 2 [13, 9, 8, 7] [true, true, true, true, false] (.ho [3, 4, 10, 11] (opm 14 [9, 8, 7] [false, true, true, true] (.ho [15, 16, 17] (.stop)))))) mixedT (by kernel_rfl) (fun Q' hQ => ?_))
        | (with_reducible exact th_none)
        | ((with_reducible refine th_stop ?_ ?_) <;> (try simp (disch := first | omega | (simp only [size_app, size_mk, List.size_toArray, List.length_cons, List.length_nil]; omega)) only [go_sem, *]))
        | ((with_reducible refine th_ho ?_); (try simp (disch := first | omega | (simp only [size_app, size_mk, List.size_toArray, List.length_cons, List.length_nil]; omega)) only [go_sem, *]))
        | ((with_reducible refine th_opm ?_ (by kernel_rfl) (aL_run ?_)) <;> (try simp (disch := first | omega | (simp only [size_app, size_mk, List.size_toArray, List.length_cons, List.length_nil]; omega)) only [go_sem, *]))
        | ((with_reducible refine th_altm ?_ (by kernel_rfl) (aL_run ?_) ?_) <;> (try simp (disch := first | omega | (simp only [size_app, size_mk, List.size_toArray, List.length_cons, List.length_nil]; omega)) only [go_sem, *]))
        | ((with_reducible refine hcall_of_callOk 40 true (sIn_ok 2 1 8) ?_ ?_ ?_ ?_ ?_); (focus (simp (disch := omega) only [go_sem, natLe_ok]; done)); (focus (simp (disch := omega) only [go_sem, natLe_ok]; done)); (focus (simp (disch := omega) only [go_sem, natLe_ok]; done)); (focus (simp (disch := omega) only [go_sem, natLe_ok]; done)); simp only [go_sem]; refine aL_run ?_; (try simp (disch := first | omega | (simp only [size_app, size_mk, List.size_toArray, List.length_cons, List.length_nil]; omega)) only [go_sem, *]))
        | ((with_reducible refine hcall_of_callOk 40 true (sLow_ok p h1) ?_ ?_ ?_ ?_ ?_); (focus (simp (disch := omega) only [go_sem, natLe_ok]; done)); (focus (simp (disch := omega) only [go_sem, natLe_ok]; done)); (focus (simp (disch := omega) only [go_sem, natLe_ok]; done)); (focus (simp (disch := omega) only [go_sem, natLe_ok]; done)); simp only [go_sem]; refine aL_run ?_; (try simp (disch := first | omega | (simp only [size_app, size_mk, List.size_toArray, List.length_cons, List.length_nil]; omega)) only [go_sem, *]))
        | ((with_reducible refine hcall_of_callOk 40 true (sNum_ok n h3) ?_ ?_ ?_ ?_ ?_); (focus (simp (disch := omega) only [go_sem, natLe_ok]; done)); (focus (simp (disch := omega) only [go_sem, natLe_ok]; done)); (focus (simp (disch := omega) only [go_sem, natLe_ok]; done)); (focus (simp (disch := omega) only [go_sem, natLe_ok]; done)); simp only [go_sem]; refine aL_run ?_; (try simp (disch := first | omega | (simp only [size_app, size_mk, List.size_toArray, List.length_cons, List.length_nil]; omega)) only [go_sem, *])))
      all_goals (try simp (disch := omega) only [EndK, go_sem, natLe_ok, *])
    · have ew : evWord 3 = ⟨#[100, 101, 108, 97, 121]⟩ := rfl
      rw [ew]
      refine callOk_of_hcall 40 (hcall_of_body Tryd.func6 rfl (by kernel_rfl) ?_)
      simp (disch := omega) only [go_sem, Tryd.ntmps6, Tryd.results6]
      repeat' (first
        | (with_reducible refine i_seq ?_)
        | ((with_reducible refine i_block ?_); (try simp (disch := first | omega | (simp only [size_app, size_mk, List.size_toArray, List.length_cons, List.length_nil]; omega)) only [go_sem, *]))
        | ((with_reducible refine i_regionQ (fun Q' hQ => ?_)); (try simp (disch := first | omega | (simp only [size_app, size_mk, List.size_toArray, List.length_cons, List.length_nil]; omega)) only [go_sem, *]))
        | ((with_reducible refine Imp.go hQ ?_); clear hQ; (try simp (disch := first | omega | (simp only [size_app, size_mk, List.size_toArray, List.length_cons, List.length_nil]; omega)) only [go_sem, *]))
        | ((with_reducible refine resOk_g (fun h => ?_) (fun h => ?_)) <;> (try simp only [Bool.not_eq_eq_eq_not, Bool.not_true, Bool.not_false, reduceCtorEq] at h) <;> (try have h' := of_decide_eq_true h) <;> (try (have hz : (_ : Int) = (_ : Int) := h'; clear hz h')) <;> (try have h' := of_decide_eq_false h) <;> (try have h' := inB_t h) <;> (try (exfalso; omega)) <;> (try simp (disch := first | omega | (simp only [size_app, size_mk, List.size_toArray, List.length_cons, List.length_nil]; omega)) only [go_sem, *]))
        | (((with_reducible refine i_condT ?_ ?_); (focus (simp only [go_sem, *]; done))) <;> (try simp (disch := first | omega | (simp only [size_app, size_mk, List.size_toArray, List.length_cons, List.length_nil]; omega)) only [go_sem, *]))
        | (((with_reducible refine i_condF ?_ ?_); (focus (simp only [go_sem, *]; done))) <;> (try simp (disch := first | omega | (simp only [size_app, size_mk, List.size_toArray, List.length_cons, List.length_nil]; omega)) only [go_sem, *]))
        | ((with_reducible refine i_cond (by simp only [go_sem, *] <;> rfl) (fun h => ?_) (fun h => ?_)) <;> (try simp only [Bool.not_eq_eq_eq_not, Bool.not_true, Bool.not_false, reduceCtorEq] at h) <;> (try have h' := of_decide_eq_true h) <;> (try (have hz : (_ : Int) = (_ : Int) := h'; clear hz h')) <;> (try have h' := of_decide_eq_false h) <;> (try have h' := inB_t h) <;> (try (exfalso; omega)) <;> (try simp (disch := first | omega | (simp only [size_app, size_mk, List.size_toArray, List.length_cons, List.length_nil]; omega)) only [go_sem, *]))
        | (with_reducible refine i_th (id := 4) (.ho [0, 1, 5, 6, 7, 8, 9, 12, 13] (opm 2 [13, 9, 8, 7] [true, true, true, true, false] (.ho [3, 4, 10, 11] (opm 14 [9, 8, 7] [false, true, true, true] (.ho [15, 16, 17] (.stop)))))) mixedT (by kernel_rfl) (fun Q' hQ => ?_))
        | (with_reducible exact th_none)
        | ((with_reducible refine th_stop ?_ ?_) <;> (try simp (disch := first | omega | (simp only [size_app, size_mk, List.size_toArray, List.length_cons, List.length_nil]; omega)) only [go_sem, *]))
        | ((with_reducible refine th_ho ?_); (try simp (disch := first | omega | (simp only [size_app, size_mk, List.size_toArray, List.length_cons, List.length_nil]; omega)) only [go_sem, *]))
        | ((with_reducible refine th_opm ?_ (by kernel_rfl) (aL_run ?_)) <;> (try simp (disch := first | omega | (simp only [size_app, size_mk, List.size_toArray, List.length_cons, List.length_nil]; omega)) only [go_sem, *]))
        | ((with_reducible refine th_altm ?_ (by kernel_rfl) (aL_run ?_) ?_) <;> (try simp (disch := first | omega | (simp only [size_app, size_mk, List.size_toArray, List.length_cons, List.length_nil]; omega)) only [go_sem, *]))
        | ((with_reducible refine hcall_of_callOk 40 true (sIn_ok 3 1 8) ?_ ?_ ?_ ?_ ?_); (focus (simp (disch := omega) only [go_sem, natLe_ok]; done)); (focus (simp (disch := omega) only [go_sem, natLe_ok]; done)); (focus (simp (disch := omega) only [go_sem, natLe_ok]; done)); (focus (simp (disch := omega) only [go_sem, natLe_ok]; done)); simp only [go_sem]; refine aL_run ?_; (try simp (disch := first | omega | (simp only [size_app, size_mk, List.size_toArray, List.length_cons, List.length_nil]; omega)) only [go_sem, *]))
        | ((with_reducible refine hcall_of_callOk 40 true (sLow_ok p h1) ?_ ?_ ?_ ?_ ?_); (focus (simp (disch := omega) only [go_sem, natLe_ok]; done)); (focus (simp (disch := omega) only [go_sem, natLe_ok]; done)); (focus (simp (disch := omega) only [go_sem, natLe_ok]; done)); (focus (simp (disch := omega) only [go_sem, natLe_ok]; done)); simp only [go_sem]; refine aL_run ?_; (try simp (disch := first | omega | (simp only [size_app, size_mk, List.size_toArray, List.length_cons, List.length_nil]; omega)) only [go_sem, *]))
        | ((with_reducible refine hcall_of_callOk 40 true (sNum_ok n h3) ?_ ?_ ?_ ?_ ?_); (focus (simp (disch := omega) only [go_sem, natLe_ok]; done)); (focus (simp (disch := omega) only [go_sem, natLe_ok]; done)); (focus (simp (disch := omega) only [go_sem, natLe_ok]; done)); (focus (simp (disch := omega) only [go_sem, natLe_ok]; done)); simp only [go_sem]; refine aL_run ?_; (try simp (disch := first | omega | (simp only [size_app, size_mk, List.size_toArray, List.length_cons, List.length_nil]; omega)) only [go_sem, *])))
      all_goals (try simp (disch := omega) only [EndK, go_sem, natLe_ok, *])
    · have ew : evWord 4 = ⟨#[99, 111, 110, 116]⟩ := rfl
      rw [ew]
      refine callOk_of_hcall 40 (hcall_of_body Tryd.func6 rfl (by kernel_rfl) ?_)
      simp (disch := omega) only [go_sem, Tryd.ntmps6, Tryd.results6]
      repeat' (first
        | (with_reducible refine i_seq ?_)
        | ((with_reducible refine i_block ?_); (try simp (disch := first | omega | (simp only [size_app, size_mk, List.size_toArray, List.length_cons, List.length_nil]; omega)) only [go_sem, *]))
        | ((with_reducible refine i_regionQ (fun Q' hQ => ?_)); (try simp (disch := first | omega | (simp only [size_app, size_mk, List.size_toArray, List.length_cons, List.length_nil]; omega)) only [go_sem, *]))
        | ((with_reducible refine Imp.go hQ ?_); clear hQ; (try simp (disch := first | omega | (simp only [size_app, size_mk, List.size_toArray, List.length_cons, List.length_nil]; omega)) only [go_sem, *]))
        | ((with_reducible refine resOk_g (fun h => ?_) (fun h => ?_)) <;> (try simp only [Bool.not_eq_eq_eq_not, Bool.not_true, Bool.not_false, reduceCtorEq] at h) <;> (try have h' := of_decide_eq_true h) <;> (try (have hz : (_ : Int) = (_ : Int) := h'; clear hz h')) <;> (try have h' := of_decide_eq_false h) <;> (try have h' := inB_t h) <;> (try (exfalso; omega)) <;> (try simp (disch := first | omega | (simp only [size_app, size_mk, List.size_toArray, List.length_cons, List.length_nil]; omega)) only [go_sem, *]))
        | (((with_reducible refine i_condT ?_ ?_); (focus (simp only [go_sem, *]; done))) <;> (try simp (disch := first | omega | (simp only [size_app, size_mk, List.size_toArray, List.length_cons, List.length_nil]; omega)) only [go_sem, *]))
        | (((with_reducible refine i_condF ?_ ?_); (focus (simp only [go_sem, *]; done))) <;> (try simp (disch := first | omega | (simp only [size_app, size_mk, List.size_toArray, List.length_cons, List.length_nil]; omega)) only [go_sem, *]))
        | ((with_reducible refine i_cond (by simp only [go_sem, *] <;> rfl) (fun h => ?_) (fun h => ?_)) <;> (try simp only [Bool.not_eq_eq_eq_not, Bool.not_true, Bool.not_false, reduceCtorEq] at h) <;> (try have h' := of_decide_eq_true h) <;> (try (have hz : (_ : Int) = (_ : Int) := h'; clear hz h')) <;> (try have h' := of_decide_eq_false h) <;> (try have h' := inB_t h) <;> (try (exfalso; omega)) <;> (try simp (disch := first | omega | (simp only [size_app, size_mk, List.size_toArray, List.length_cons, List.length_nil]; omega)) only [go_sem, *]))
        | (with_reducible refine i_th (id := 4) (.ho [0, 1, 5, 6, 7, 8, 9, 12, 13] (opm 2 [13, 9, 8, 7] [true, true, true, true, false] (.ho [3, 4, 10, 11] (opm 14 [9, 8, 7] [false, true, true, true] (.ho [15, 16, 17] (.stop)))))) mixedT (by kernel_rfl) (fun Q' hQ => ?_))
        | (with_reducible exact th_none)
        | ((with_reducible refine th_stop ?_ ?_) <;> (try simp (disch := first | omega | (simp only [size_app, size_mk, List.size_toArray, List.length_cons, List.length_nil]; omega)) only [go_sem, *]))
        | ((with_reducible refine th_ho ?_); (try simp (disch := first | omega | (simp only [size_app, size_mk, List.size_toArray, List.length_cons, List.length_nil]; omega)) only [go_sem, *]))
        | ((with_reducible refine th_opm ?_ (by kernel_rfl) (aL_run ?_)) <;> (try simp (disch := first | omega | (simp only [size_app, size_mk, List.size_toArray, List.length_cons, List.length_nil]; omega)) only [go_sem, *]))
        | ((with_reducible refine th_altm ?_ (by kernel_rfl) (aL_run ?_) ?_) <;> (try simp (disch := first | omega | (simp only [size_app, size_mk, List.size_toArray, List.length_cons, List.length_nil]; omega)) only [go_sem, *]))
        | ((with_reducible refine hcall_of_callOk 40 true (sIn_ok 4 1 8) ?_ ?_ ?_ ?_ ?_); (focus (simp (disch := omega) only [go_sem, natLe_ok]; done)); (focus (simp (disch := omega) only [go_sem, natLe_ok]; done)); (focus (simp (disch := omega) only [go_sem, natLe_ok]; done)); (focus (simp (disch := omega) only [go_sem, natLe_ok]; done)); simp only [go_sem]; refine aL_run ?_; (try simp (disch := first | omega | (simp only [size_app, size_mk, List.size_toArray, List.length_cons, List.length_nil]; omega)) only [go_sem, *]))
        | ((with_reducible refine hcall_of_callOk 40 true (sLow_ok p h1) ?_ ?_ ?_ ?_ ?_); (focus (simp (disch := omega) only [go_sem, natLe_ok]; done)); (focus (simp (disch := omega) only [go_sem, natLe_ok]; done)); (focus (simp (disch := omega) only [go_sem, natLe_ok]; done)); (focus (simp (disch := omega) only [go_sem, natLe_ok]; done)); simp only [go_sem]; refine aL_run ?_; (try simp (disch := first | omega | (simp only [size_app, size_mk, List.size_toArray, List.length_cons, List.length_nil]; omega)) only [go_sem, *]))
        | ((with_reducible refine hcall_of_callOk 40 true (sNum_ok n h3) ?_ ?_ ?_ ?_ ?_); (focus (simp (disch := omega) only [go_sem, natLe_ok]; done)); (focus (simp (disch := omega) only [go_sem, natLe_ok]; done)); (focus (simp (disch := omega) only [go_sem, natLe_ok]; done)); (focus (simp (disch := omega) only [go_sem, natLe_ok]; done)); simp only [go_sem]; refine aL_run ?_; (try simp (disch := first | omega | (simp only [size_app, size_mk, List.size_toArray, List.length_cons, List.length_nil]; omega)) only [go_sem, *])))
      all_goals (try simp (disch := omega) only [EndK, go_sem, natLe_ok, *])
    · have ew : evWord 5 = ⟨#[112, 114, 105, 110, 116]⟩ := rfl
      rw [ew]
      refine callOk_of_hcall 40 (hcall_of_body Tryd.func6 rfl (by kernel_rfl) ?_)
      simp (disch := omega) only [go_sem, Tryd.ntmps6, Tryd.results6]
      repeat' (first
        | (with_reducible refine i_seq ?_)
        | ((with_reducible refine i_block ?_); (try simp (disch := first | omega | (simp only [size_app, size_mk, List.size_toArray, List.length_cons, List.length_nil]; omega)) only [go_sem, *]))
        | ((with_reducible refine i_regionQ (fun Q' hQ => ?_)); (try simp (disch := first | omega | (simp only [size_app, size_mk, List.size_toArray, List.length_cons, List.length_nil]; omega)) only [go_sem, *]))
        | ((with_reducible refine Imp.go hQ ?_); clear hQ; (try simp (disch := first | omega | (simp only [size_app, size_mk, List.size_toArray, List.length_cons, List.length_nil]; omega)) only [go_sem, *]))
        | ((with_reducible refine resOk_g (fun h => ?_) (fun h => ?_)) <;> (try simp only [Bool.not_eq_eq_eq_not, Bool.not_true, Bool.not_false, reduceCtorEq] at h) <;> (try have h' := of_decide_eq_true h) <;> (try (have hz : (_ : Int) = (_ : Int) := h'; clear hz h')) <;> (try have h' := of_decide_eq_false h) <;> (try have h' := inB_t h) <;> (try (exfalso; omega)) <;> (try simp (disch := first | omega | (simp only [size_app, size_mk, List.size_toArray, List.length_cons, List.length_nil]; omega)) only [go_sem, *]))
        | (((with_reducible refine i_condT ?_ ?_); (focus (simp only [go_sem, *]; done))) <;> (try simp (disch := first | omega | (simp only [size_app, size_mk, List.size_toArray, List.length_cons, List.length_nil]; omega)) only [go_sem, *]))
        | (((with_reducible refine i_condF ?_ ?_); (focus (simp only [go_sem, *]; done))) <;> (try simp (disch := first | omega | (simp only [size_app, size_mk, List.size_toArray, List.length_cons, List.length_nil]; omega)) only [go_sem, *]))
        | ((with_reducible refine i_cond (by simp only [go_sem, *] <;> rfl) (fun h => ?_) (fun h => ?_)) <;> (try simp only [Bool.not_eq_eq_eq_not, Bool.not_true, Bool.not_false, reduceCtorEq] at h) <;> (try have h' := of_decide_eq_true h) <;> (try (have hz : (_ : Int) = (_ : Int) := h'; clear hz h')) <;> (try have h' := of_decide_eq_false h) <;> (try have h' := inB_t h) <;> (try (exfalso; omega)) <;> (try simp (disch := first | omega | (simp only [size_app, size_mk, List.size_toArray, List.length_cons, List.length_nil]; omega)) only [go_sem, *]))
        | (with_reducible refine i_th (id := 4) (.ho [0, 1, 5, 6, 7, 8, 9, 12, 13] (opm 2 [13, 9, 8, 7] [true, true, true, true, false] (.ho [3, 4, 10, 11] (opm 14 [9, 8, 7] [false, true, true, true] (.ho [15, 16, 17] (.stop)))))) mixedT (by kernel_rfl) (fun Q' hQ => ?_))
        | (with_reducible exact th_none)
        | ((with_reducible refine th_stop ?_ ?_) <;> (try simp (disch := first | omega | (simp only [size_app, size_mk, List.size_toArray, List.length_cons, List.length_nil]; omega)) only [go_sem, *]))
        | ((with_reducible refine th_ho ?_); (try simp (disch := first | omega | (simp only [size_app, size_mk, List.size_toArray, List.length_cons, List.length_nil]; omega)) only [go_sem, *]))
        | ((with_reducible refine th_opm ?_ (by kernel_rfl) (aL_run ?_)) <;> (try simp (disch := first | omega | (simp only [size_app, size_mk, List.size_toArray, List.length_cons, List.length_nil]; omega)) only [go_sem, *]))
        | ((with_reducible refine th_altm ?_ (by kernel_rfl) (aL_run ?_) ?_) <;> (try simp (disch := first | omega | (simp only [size_app, size_mk, List.size_toArray, List.length_cons, List.length_nil]; omega)) only [go_sem, *]))
        | ((with_reducible refine hcall_of_callOk 40 true (sIn_ok 5 1 8) ?_ ?_ ?_ ?_ ?_); (focus (simp (disch := omega) only [go_sem, natLe_ok]; done)); (focus (simp (disch := omega) only [go_sem, natLe_ok]; done)); (focus (simp (disch := omega) only [go_sem, natLe_ok]; done)); (focus (simp (disch := omega) only [go_sem, natLe_ok]; done)); simp only [go_sem]; refine aL_run ?_; (try simp (disch := first | omega | (simp only [size_app, size_mk, List.size_toArray, List.length_cons, List.length_nil]; omega)) only [go_sem, *]))
        | ((with_reducible refine hcall_of_callOk 40 true (sLow_ok p h1) ?_ ?_ ?_ ?_ ?_); (focus (simp (disch := omega) only [go_sem, natLe_ok]; done)); (focus (simp (disch := omega) only [go_sem, natLe_ok]; done)); (focus (simp (disch := omega) only [go_sem, natLe_ok]; done)); (focus (simp (disch := omega) only [go_sem, natLe_ok]; done)); simp only [go_sem]; refine aL_run ?_; (try simp (disch := first | omega | (simp only [size_app, size_mk, List.size_toArray, List.length_cons, List.length_nil]; omega)) only [go_sem, *]))
        | ((with_reducible refine hcall_of_callOk 40 true (sNum_ok n h3) ?_ ?_ ?_ ?_ ?_); (focus (simp (disch := omega) only [go_sem, natLe_ok]; done)); (focus (simp (disch := omega) only [go_sem, natLe_ok]; done)); (focus (simp (disch := omega) only [go_sem, natLe_ok]; done)); (focus (simp (disch := omega) only [go_sem, natLe_ok]; done)); simp only [go_sem]; refine aL_run ?_; (try simp (disch := first | omega | (simp only [size_app, size_mk, List.size_toArray, List.length_cons, List.length_nil]; omega)) only [go_sem, *])))
      all_goals (try simp (disch := omega) only [EndK, go_sem, natLe_ok, *])
    · have ew : evWord 6 = ⟨#[114, 101, 97, 100]⟩ := rfl
      rw [ew]
      refine callOk_of_hcall 40 (hcall_of_body Tryd.func6 rfl (by kernel_rfl) ?_)
      simp (disch := omega) only [go_sem, Tryd.ntmps6, Tryd.results6]
      repeat' (first
        | (with_reducible refine i_seq ?_)
        | ((with_reducible refine i_block ?_); (try simp (disch := first | omega | (simp only [size_app, size_mk, List.size_toArray, List.length_cons, List.length_nil]; omega)) only [go_sem, *]))
        | ((with_reducible refine i_regionQ (fun Q' hQ => ?_)); (try simp (disch := first | omega | (simp only [size_app, size_mk, List.size_toArray, List.length_cons, List.length_nil]; omega)) only [go_sem, *]))
        | ((with_reducible refine Imp.go hQ ?_); clear hQ; (try simp (disch := first | omega | (simp only [size_app, size_mk, List.size_toArray, List.length_cons, List.length_nil]; omega)) only [go_sem, *]))
        | ((with_reducible refine resOk_g (fun h => ?_) (fun h => ?_)) <;> (try simp only [Bool.not_eq_eq_eq_not, Bool.not_true, Bool.not_false, reduceCtorEq] at h) <;> (try have h' := of_decide_eq_true h) <;> (try (have hz : (_ : Int) = (_ : Int) := h'; clear hz h')) <;> (try have h' := of_decide_eq_false h) <;> (try have h' := inB_t h) <;> (try (exfalso; omega)) <;> (try simp (disch := first | omega | (simp only [size_app, size_mk, List.size_toArray, List.length_cons, List.length_nil]; omega)) only [go_sem, *]))
        | (((with_reducible refine i_condT ?_ ?_); (focus (simp only [go_sem, *]; done))) <;> (try simp (disch := first | omega | (simp only [size_app, size_mk, List.size_toArray, List.length_cons, List.length_nil]; omega)) only [go_sem, *]))
        | (((with_reducible refine i_condF ?_ ?_); (focus (simp only [go_sem, *]; done))) <;> (try simp (disch := first | omega | (simp only [size_app, size_mk, List.size_toArray, List.length_cons, List.length_nil]; omega)) only [go_sem, *]))
        | ((with_reducible refine i_cond (by simp only [go_sem, *] <;> rfl) (fun h => ?_) (fun h => ?_)) <;> (try simp only [Bool.not_eq_eq_eq_not, Bool.not_true, Bool.not_false, reduceCtorEq] at h) <;> (try have h' := of_decide_eq_true h) <;> (try (have hz : (_ : Int) = (_ : Int) := h'; clear hz h')) <;> (try have h' := of_decide_eq_false h) <;> (try have h' := inB_t h) <;> (try (exfalso; omega)) <;> (try simp (disch := first | omega | (simp only [size_app, size_mk, List.size_toArray, List.length_cons, List.length_nil]; omega)) only [go_sem, *]))
        | (with_reducible refine i_th (id := 4) (.ho [0, 1, 5, 6, 7, 8, 9, 12, 13] (opm 2 [13, 9, 8, 7] [true, true, true, true, false] (.ho [3, 4, 10, 11] (opm 14 [9, 8, 7] [false, true, true, true] (.ho [15, 16, 17] (.stop)))))) mixedT (by kernel_rfl) (fun Q' hQ => ?_))
        | (with_reducible exact th_none)
        | ((with_reducible refine th_stop ?_ ?_) <;> (try simp (disch := first | omega | (simp only [size_app, size_mk, List.size_toArray, List.length_cons, List.length_nil]; omega)) only [go_sem, *]))
        | ((with_reducible refine th_ho ?_); (try simp (disch := first | omega | (simp only [size_app, size_mk, List.size_toArray, List.length_cons, List.length_nil]; omega)) only [go_sem, *]))
        | ((with_reducible refine th_opm ?_ (by kernel_rfl) (aL_run ?_)) <;> (try simp (disch := first | omega | (simp only [size_app, size_mk, List.size_toArray, List.length_cons, List.length_nil]; omega)) only [go_sem, *]))
        | ((with_reducible refine th_altm ?_ (by kernel_rfl) (aL_run ?_) ?_) <;> (try simp (disch := first | omega | (simp only [size_app, size_mk, List.size_toArray, List.length_cons, List.length_nil]; omega)) only [go_sem, *]))
        | ((with_reducible refine hcall_of_callOk 40 true (sIn_ok 6 1 8) ?_ ?_ ?_ ?_ ?_); (focus (simp (disch := omega) only [go_sem, natLe_ok]; done)); (focus (simp (disch := omega) only [go_sem, natLe_ok]; done)); (focus (simp (disch := omega) only [go_sem, natLe_ok]; done)); (focus (simp (disch := omega) only [go_sem, natLe_ok]; done)); simp only [go_sem]; refine aL_run ?_; (try simp (disch := first | omega | (simp only [size_app, size_mk, List.size_toArray, List.length_cons, List.length_nil]; omega)) only [go_sem, *]))
        | ((with_reducible refine hcall_of_callOk 40 true (sLow_ok p h1) ?_ ?_ ?_ ?_ ?_); (focus (simp (disch := omega) only [go_sem, natLe_ok]; done)); (focus (simp (disch := omega) only [go_sem, natLe_ok]; done)); (focus (simp (disch := omega) only [go_sem, natLe_ok]; done)); (focus (simp (disch := omega) only [go_sem, natLe_ok]; done)); simp only [go_sem]; refine aL_run ?_; (try simp (disch := first | omega | (simp only [size_app, size_mk, List.size_toArray, List.length_cons, List.length_nil]; omega)) only [go_sem, *]))
        | ((with_reducible refine hcall_of_callOk 40 true (sNum_ok n h3) ?_ ?_ ?_ ?_ ?_); (focus (simp (disch := omega) only [go_sem, natLe_ok]; done)); (focus (simp (disch := omega) only [go_sem, natLe_ok]; done)); (focus (simp (disch := omega) only [go_sem, natLe_ok]; done)); (focus (simp (disch := omega) only [go_sem, natLe_ok]; done)); simp only [go_sem]; refine aL_run ?_; (try simp (disch := first | omega | (simp only [size_app, size_mk, List.size_toArray, List.length_cons, List.length_nil]; omega)) only [go_sem, *])))
      all_goals (try simp (disch := omega) only [EndK, go_sem, natLe_ok, *])
    · have ew : evWord 7 = ⟨#[100, 111, 110, 101]⟩ := rfl
      rw [ew]
      refine callOk_of_hcall 40 (hcall_of_body Tryd.func6 rfl (by kernel_rfl) ?_)
      simp (disch := omega) only [go_sem, Tryd.ntmps6, Tryd.results6]
      repeat' (first
        | (with_reducible refine i_seq ?_)
        | ((with_reducible refine i_block ?_); (try simp (disch := first | omega | (simp only [size_app, size_mk, List.size_toArray, List.length_cons, List.length_nil]; omega)) only [go_sem, *]))
        | ((with_reducible refine i_regionQ (fun Q' hQ => ?_)); (try simp (disch := first | omega | (simp only [size_app, size_mk, List.size_toArray, List.length_cons, List.length_nil]; omega)) only [go_sem, *]))
        | ((with_reducible refine Imp.go hQ ?_); clear hQ; (try simp (disch := first | omega | (simp only [size_app, size_mk, List.size_toArray, List.length_cons, List.length_nil]; omega)) only [go_sem, *]))
        | ((with_reducible refine resOk_g (fun h => ?_) (fun h => ?_)) <;> (try simp only [Bool.not_eq_eq_eq_not, Bool.not_true, Bool.not_false, reduceCtorEq] at h) <;> (try have h' := of_decide_eq_true h) <;> (try (have hz : (_ : Int) = (_ : Int) := h'; clear hz h')) <;> (try have h' := of_decide_eq_false h) <;> (try have h' := inB_t h) <;> (try (exfalso; omega)) <;> (try simp (disch := first | omega | (simp only [size_app, size_mk, List.size_toArray, List.length_cons, List.length_nil]; omega)) only [go_sem, *]))
        | (((with_reducible refine i_condT ?_ ?_); (focus (simp only [go_sem, *]; done))) <;> (try simp (disch := first | omega | (simp only [size_app, size_mk, List.size_toArray, List.length_cons, List.length_nil]; omega)) only [go_sem, *]))
        | (((with_reducible refine i_condF ?_ ?_); (focus (simp only [go_sem, *]; done))) <;> (try simp (disch := first | omega | (simp only [size_app, size_mk, List.size_toArray, List.length_cons, List.length_nil]; omega)) only [go_sem, *]))
        | ((with_reducible refine i_cond (by simp only [go_sem, *] <;> rfl) (fun h => ?_) (fun h => ?_)) <;> (try simp only [Bool.not_eq_eq_eq_not, Bool.not_true, Bool.not_false, reduceCtorEq] at h) <;> (try have h' := of_decide_eq_true h) <;> (try (have hz : (_ : Int) = (_ : Int) := h'; clear hz h')) <;> (try have h' := of_decide_eq_false h) <;> (try have h' := inB_t h) <;> (try (exfalso; omega)) <;> (try simp (disch := first | omega | (simp only [size_app, size_mk, List.size_toArray, List.length_cons, List.length_nil]; omega)) only [go_sem, *]))
        | (with_reducible refine i_th (id := 4) (.ho [0, 1, 5, 6, 7, 8, 9, 12, 13] (opm 2 [13, 9, 8, 7] [true, true, true, true, false] (.ho [3, 4, 10, 11] (opm 14 [9, 8, 7] [false, true, true, true] (.ho [15, 16, 17] (.stop)))))) mixedT (by kernel_rfl) (fun Q' hQ => ?_))
        | (with_reducible exact th_none)
        | ((with_reducible refine th_stop ?_ ?_) <;> (try simp (disch := first | omega | (simp only [size_app, size_mk, List.size_toArray, List.length_cons, List.length_nil]; omega)) only [go_sem, *]))
        | ((with_reducible refine th_ho ?_); (try simp (disch := first | omega | (simp only [size_app, size_mk, List.size_toArray, List.length_cons, List.length_nil]; omega)) only [go_sem, *]))
        | ((with_reducible refine th_opm ?_ (by kernel_rfl) (aL_run ?_)) <;> (try simp (disch := first | omega | (simp only [size_app, size_mk, List.size_toArray, List.length_cons, List.length_nil]; omega)) only [go_sem, *]))
        | ((with_reducible refine th_altm ?_ (by kernel_rfl) (aL_run ?_) ?_) <;> (try simp (disch := first | omega | (simp only [size_app, size_mk, List.size_toArray, List.length_cons, List.length_nil]; omega)) only [go_sem, *]))
        | ((with_reducible refine hcall_of_callOk 40 true (sIn_ok 7 1 8) ?_ ?_ ?_ ?_ ?_); (focus (simp (disch := omega) only [go_sem, natLe_ok]; done)); (focus (simp (disch := omega) only [go_sem, natLe_ok]; done)); (focus (simp (disch := omega) only [go_sem, natLe_ok]; done)); (focus (simp (disch := omega) only [go_sem, natLe_ok]; done)); simp only [go_sem]; refine aL_run ?_; (try simp (disch := first | omega | (simp only [size_app, size_mk, List.size_toArray, List.length_cons, List.length_nil]; omega)) only [go_sem, *]))
        | ((with_reducible refine hcall_of_callOk 40 true (sLow_ok p h1) ?_ ?_ ?_ ?_ ?_); (focus (simp (disch := omega) only [go_sem, natLe_ok]; done)); (focus (simp (disch := omega) only [go_sem, natLe_ok]; done)); (focus (simp (disch := omega) only [go_sem, natLe_ok]; done)); (focus (simp (disch := omega) only [go_sem, natLe_ok]; done)); simp only [go_sem]; refine aL_run ?_; (try simp (disch := first | omega | (simp only [size_app, size_mk, List.size_toArray, List.length_cons, List.length_nil]; omega)) only [go_sem, *]))
        | ((with_reducible refine hcall_of_callOk 40 true (sNum_ok n h3) ?_ ?_ ?_ ?_ ?_); (focus (simp (disch := omega) only [go_sem, natLe_ok]; done)); (focus (simp (disch := omega) only [go_sem, natLe_ok]; done)); (focus (simp (disch := omega) only [go_sem, natLe_ok]; done)); (focus (simp (disch := omega) only [go_sem, natLe_ok]; done)); simp only [go_sem]; refine aL_run ?_; (try simp (disch := first | omega | (simp only [size_app, size_mk, List.size_toArray, List.length_cons, List.length_nil]; omega)) only [go_sem, *])))
      all_goals (try simp (disch := omega) only [EndK, go_sem, natLe_ok, *])
    · have ew : evWord 8 = ⟨#[102, 97, 117, 108, 116]⟩ := rfl
      rw [ew]
      refine callOk_of_hcall 40 (hcall_of_body Tryd.func6 rfl (by kernel_rfl) ?_)
      simp (disch := omega) only [go_sem, Tryd.ntmps6, Tryd.results6]
      repeat' (first
        | (with_reducible refine i_seq ?_)
        | ((with_reducible refine i_block ?_); (try simp (disch := first | omega | (simp only [size_app, size_mk, List.size_toArray, List.length_cons, List.length_nil]; omega)) only [go_sem, *]))
        | ((with_reducible refine i_regionQ (fun Q' hQ => ?_)); (try simp (disch := first | omega | (simp only [size_app, size_mk, List.size_toArray, List.length_cons, List.length_nil]; omega)) only [go_sem, *]))
        | ((with_reducible refine Imp.go hQ ?_); clear hQ; (try simp (disch := first | omega | (simp only [size_app, size_mk, List.size_toArray, List.length_cons, List.length_nil]; omega)) only [go_sem, *]))
        | ((with_reducible refine resOk_g (fun h => ?_) (fun h => ?_)) <;> (try simp only [Bool.not_eq_eq_eq_not, Bool.not_true, Bool.not_false, reduceCtorEq] at h) <;> (try have h' := of_decide_eq_true h) <;> (try (have hz : (_ : Int) = (_ : Int) := h'; clear hz h')) <;> (try have h' := of_decide_eq_false h) <;> (try have h' := inB_t h) <;> (try (exfalso; omega)) <;> (try simp (disch := first | omega | (simp only [size_app, size_mk, List.size_toArray, List.length_cons, List.length_nil]; omega)) only [go_sem, *]))
        | (((with_reducible refine i_condT ?_ ?_); (focus (simp only [go_sem, *]; done))) <;> (try simp (disch := first | omega | (simp only [size_app, size_mk, List.size_toArray, List.length_cons, List.length_nil]; omega)) only [go_sem, *]))
        | (((with_reducible refine i_condF ?_ ?_); (focus (simp only [go_sem, *]; done))) <;> (try simp (disch := first | omega | (simp only [size_app, size_mk, List.size_toArray, List.length_cons, List.length_nil]; omega)) only [go_sem, *]))
        | ((with_reducible refine i_cond (by simp only [go_sem, *] <;> rfl) (fun h => ?_) (fun h => ?_)) <;> (try simp only [Bool.not_eq_eq_eq_not, Bool.not_true, Bool.not_false, reduceCtorEq] at h) <;> (try have h' := of_decide_eq_true h) <;> (try (have hz : (_ : Int) = (_ : Int) := h'; clear hz h')) <;> (try have h' := of_decide_eq_false h) <;> (try have h' := inB_t h) <;> (try (exfalso; omega)) <;> (try simp (disch := first | omega | (simp only [size_app, size_mk, List.size_toArray, List.length_cons, List.length_nil]; omega)) only [go_sem, *]))
        | (with_reducible refine i_th (id := 4) (.ho [0, 1, 5, 6, 7, 8, 9, 12, 13] (opm 2 [13, 9, 8, 7] [true, true, true, true, false] (.ho [3, 4, 10, 11] (opm 14 [9, 8, 7] [false, true, true, true] (.ho [15, 16, 17] (.stop)))))) mixedT (by kernel_rfl) (fun Q' hQ => ?_))
        | (with_reducible exact th_none)
        | ((with_reducible refine th_stop ?_ ?_) <;> (try simp (disch := first | omega | (simp only [size_app, size_mk, List.size_toArray, List.length_cons, List.length_nil]; omega)) only [go_sem, *]))
        | ((with_reducible refine th_ho ?_); (try simp (disch := first | omega | (simp only [size_app, size_mk, List.size_toArray, List.length_cons, List.length_nil]; omega)) only [go_sem, *]))
        | ((with_reducible refine th_opm ?_ (by kernel_rfl) (aL_run ?_)) <;> (try simp (disch := first | omega | (simp only [size_app, size_mk, List.size_toArray, List.length_cons, List.length_nil]; omega)) only [go_sem, *]))
        | ((with_reducible refine th_altm ?_ (by kernel_rfl) (aL_run ?_) ?_) <;> (try simp (disch := first | omega | (simp only [size_app, size_mk, List.size_toArray, List.length_cons, List.length_nil]; omega)) only [go_sem, *]))
        | ((with_reducible refine hcall_of_callOk 40 true (sIn_ok 8 1 8) ?_ ?_ ?_ ?_ ?_); (focus (simp (disch := omega) only [go_sem, natLe_ok]; done)); (focus (simp (disch := omega) only [go_sem, natLe_ok]; done)); (focus (simp (disch := omega) only [go_sem, natLe_ok]; done)); (focus (simp (disch := omega) only [go_sem, natLe_ok]; done)); simp only [go_sem]; refine aL_run ?_; (try simp (disch := first | omega | (simp only [size_app, size_mk, List.size_toArray, List.length_cons, List.length_nil]; omega)) only [go_sem, *]))
        | ((with_reducible refine hcall_of_callOk 40 true (sLow_ok p h1) ?_ ?_ ?_ ?_ ?_); (focus (simp (disch := omega) only [go_sem, natLe_ok]; done)); (focus (simp (disch := omega) only [go_sem, natLe_ok]; done)); (focus (simp (disch := omega) only [go_sem, natLe_ok]; done)); (focus (simp (disch := omega) only [go_sem, natLe_ok]; done)); simp only [go_sem]; refine aL_run ?_; (try simp (disch := first | omega | (simp only [size_app, size_mk, List.size_toArray, List.length_cons, List.length_nil]; omega)) only [go_sem, *]))
        | ((with_reducible refine hcall_of_callOk 40 true (sNum_ok n h3) ?_ ?_ ?_ ?_ ?_); (focus (simp (disch := omega) only [go_sem, natLe_ok]; done)); (focus (simp (disch := omega) only [go_sem, natLe_ok]; done)); (focus (simp (disch := omega) only [go_sem, natLe_ok]; done)); (focus (simp (disch := omega) only [go_sem, natLe_ok]; done)); simp only [go_sem]; refine aL_run ?_; (try simp (disch := first | omega | (simp only [size_app, size_mk, List.size_toArray, List.length_cons, List.length_nil]; omega)) only [go_sem, *])))
      all_goals (try simp (disch := omega) only [EndK, go_sem, natLe_ok, *])
end Go.Proofs.YtgeoipplkjgnfaaDoor.E
