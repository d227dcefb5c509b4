import Derived.Test.YtgeoipplkjgnfaaDoorD2
set_option linter.unusedVariables false
set_option linter.unusedSimpArgs false
set_option maxRecDepth 100000
set_option maxHeartbeats 2000000
namespace Go.Proofs.YtgeoipplkjgnfaaDoor.E
theorem tn2 : Int.toNat 2 = 2 := rfl
theorem tn3 : Int.toNat 3 = 3 := rfl
theorem tn4 : Int.toNat 4 = 4 := rfl
theorem tn5 : Int.toNat 5 = 5 := rfl
theorem tn6 : Int.toNat 6 = 6 := rfl
theorem tn7 : Int.toNat 7 = 7 := rfl
theorem tn8 : Int.toNat 8 = 8 := rfl
theorem tn9 : Int.toNat 9 = 9 := rfl
attribute [go_sem] tn2 tn3 tn4 tn5 tn6 tn7 tn8 tn9
/-! ### How long numbers are -/
theorem decLen (d : Nat) : ∀ k : Nat, k < 10 ^ (d + 1) → (Lib.decDigits k).length ≤ d + 1 := by
  induction d with
  | zero =>
    intro k hk
    rw [Lib.decDigits, dif_pos (by simpa using hk)]
    simp
  | succ d ih =>
    intro k hk
    rw [Lib.decDigits]
    by_cases h1 : k < 10
    · rw [dif_pos h1]
      simp
    · rw [dif_neg h1]
      have h2 := ih (k / 10) (by rw [Nat.pow_succ] at hk; omega)
      simp
      omega
theorem itoaLen {n : Int} (h0 : -9223372036854775808 ≤ n) (h1 : n ≤ 9223372036854775807) : (itoaB n).size ≤ 20 := by
  show (Lib.itoa n).toArray.size ≤ 20
  rw [List.size_toArray]
  unfold Lib.itoa
  split
  · have := decLen 18 n.natAbs (by omega)
    simp
    omega
  · have := decLen 18 n.toNat (by omega)
    omega
def decB (n : Nat) : ByteArray := ⟨(Lib.decDigits n).toArray⟩
theorem itoaB_pos {n : Int} (h : 0 ≤ n) : itoaB n = decB n.toNat := by
  unfold itoaB decB Lib.itoa
  rw [if_neg (by omega)]
theorem itoaB_neg {n : Int} (h : n < 0) : itoaB n = ⟨#[45]⟩ ++ decB (-n).toNat := by
  unfold itoaB decB Lib.itoa
  rw [if_pos h, show (-n).toNat = n.natAbs by omega]
  apply ByteArray.ext
  simp
theorem decB_zero : decB 0 = ⟨#[48]⟩ := by
  unfold decB
  rw [Lib.decDigits, dif_pos (by omega)]
  rfl
theorem decB_len {n : Nat} (h : n ≤ 9223372036854775807) : (decB n).size ≤ 20 := by
  have := decLen 18 n (by omega)
  show (Lib.decDigits n).toArray.size ≤ 20
  rw [List.size_toArray]; omega
/-! ### The document's Decimal -/
theorem figure_ok (d : Int) (h0 : 0 ≤ d) (h : d < 10) : CallOk Tryd.prog 47 [.one (iV d)] (.s (.one (.v (.int .u8 (48 + d))))) [none] := by
  have hd : decide (d < 10) = true := decide_eq_true h
  have hw : IntKind.u8.wrap (48 + d) = 48 + d := by rw [IntKind.wrap_u8]; omega
  refine callOk_of_hcall 40 (hcall_of_body Tryd.func47 rfl (by kernel_rfl) ?_)
  simp (disch := omega) only [go_sem, Tryd.ntmps47, Tryd.results47]
  repeat' (first
    | (with_reducible refine i_seq ?_)
    | ((with_reducible refine i_block ?_); (try simp (disch := omega) only [go_sem, *]))
    | ((with_reducible refine i_regionQ (fun Q' hQ => ?_)); (try simp (disch := omega) only [go_sem, *]))
    | ((with_reducible refine Imp.go hQ ?_); clear hQ; (try simp (disch := omega) only [go_sem, *]))
    | ((with_reducible refine resOk_g (fun h => ?_) (fun h => ?_)) <;> (try simp only [Bool.not_eq_eq_eq_not, Bool.not_true, Bool.not_false, reduceCtorEq] at h) <;> (try have h' := of_decide_eq_true h) <;> (try (have hz : (_ : Int) = (_ : Int) := h'; clear hz h')) <;> (try have h' := of_decide_eq_false h) <;> (try have h' := inB_t h) <;> (try (exfalso; omega)) <;> (try simp (disch := omega) only [go_sem, *]))
    | (((with_reducible refine i_condT ?_ ?_); (focus (simp only [go_sem, *]; done))) <;> (try simp (disch := omega) only [go_sem, *]))
    | (((with_reducible refine i_condF ?_ ?_); (focus (simp only [go_sem, *]; done))) <;> (try simp (disch := omega) only [go_sem, *]))
    | ((with_reducible refine i_cond (by simp only [go_sem, *] <;> rfl) (fun h => ?_) (fun h => ?_)) <;> (try simp only [Bool.not_eq_eq_eq_not, Bool.not_true, Bool.not_false, reduceCtorEq] at h) <;> (try have h' := of_decide_eq_true h) <;> (try (have hz : (_ : Int) = (_ : Int) := h'; clear hz h')) <;> (try have h' := of_decide_eq_false h) <;> (try have h' := inB_t h) <;> (try (exfalso; omega)) <;> (try simp (disch := omega) only [go_sem, *])))
  all_goals (try simp (disch := omega) only [EndK, go_sem, natLe_ok, *])
def decSt (n : Nat) (p : Nat × ByteArray) : Prop := if p.1 = 0 then p.2.data.toList = Lib.decDigits n else Lib.decDigits n = Lib.decDigits p.1 ++ p.2.data.toList
theorem dec_step {k n : Nat} {b : ByteArray} (hk : ¬ k = 0) (h : decSt n (k, b)) : decSt n (k / 10, (⟨#[UInt8.ofNat (48 + k % 10)]⟩ : ByteArray) ++ b) := by
  unfold decSt at *
  simp only at h ⊢
  rw [if_neg hk] at h
  generalize Lib.decDigits n = N at *
  rw [Lib.decDigits] at h
  by_cases h1 : k < 10
  · rw [dif_pos h1] at h
    rw [if_pos (by omega), h]
    rw [show k % 10 = k by omega]
    simp
  · rw [dif_neg h1] at h
    rw [if_neg (by omega), h]
    simp
theorem decSt_len {n : Nat} {p : Nat × ByteArray} (hn : n ≤ 9223372036854775807) (h : decSt n p) : p.2.size ≤ 20 := by
  have hl := decLen 18 n (by omega)
  have e : p.2.size = p.2.data.toList.length := by simp
  unfold decSt at h
  split at h
  · rw [e, h]; omega
  · have := congrArg List.length h
    rw [List.length_append] at this
    rw [e]; omega
theorem size_app (x y : ByteArray) : (x ++ y).size = x.size + y.size := ByteArray.size_append
theorem size_mk (x : Array UInt8) : (ByteArray.mk x).size = x.size := rfl
theorem sDecimal_ok (n : Nat) (h : n ≤ 9223372036854775807) : CallOk Tryd.prog 32 [.one (iV n)] (.s (.one (sV (decB n)))) [none] := by
  by_cases h0 : n = 0
  · subst h0
    rw [decB_zero]
    have e : (((0 : Nat) : Int) == 0) = true := rfl
    refine callOk_of_hcall 40 (hcall_of_body Tryd.func32 rfl (by kernel_rfl) ?_)
    simp (disch := omega) only [go_sem, Tryd.ntmps32, Tryd.results32]
    repeat' (first
      | (with_reducible refine i_seq ?_)
      | ((with_reducible refine i_block ?_); (try simp (disch := first | omega | (simp only [size_app, size_mk, List.size_toArray, List.length_cons, List.length_nil]; omega)) only [go_sem, *]))
      | ((with_reducible refine i_regionQ (fun Q' hQ => ?_)); (try simp (disch := first | omega | (simp only [size_app, size_mk, List.size_toArray, List.length_cons, List.length_nil]; omega)) only [go_sem, *]))
      | ((with_reducible refine Imp.go hQ ?_); clear hQ; (try simp (disch := first | omega | (simp only [size_app, size_mk, List.size_toArray, List.length_cons, List.length_nil]; omega)) only [go_sem, *]))
      | ((with_reducible refine resOk_g (fun h => ?_) (fun h => ?_)) <;> (try simp only [Bool.not_eq_eq_eq_not, Bool.not_true, Bool.not_false, reduceCtorEq] at h) <;> (try have h' := of_decide_eq_true h) <;> (try (have hz : (_ : Int) = (_ : Int) := h'; clear hz h')) <;> (try have h' := of_decide_eq_false h) <;> (try have h' := inB_t h) <;> (try (exfalso; omega)) <;> (try simp (disch := first | omega | (simp only [size_app, size_mk, List.size_toArray, List.length_cons, List.length_nil]; omega)) only [go_sem, *]))
      | (((with_reducible refine i_condT ?_ ?_); (focus (simp only [go_sem, *]; done))) <;> (try simp (disch := first | omega | (simp only [size_app, size_mk, List.size_toArray, List.length_cons, List.length_nil]; omega)) only [go_sem, *]))
      | (((with_reducible refine i_condF ?_ ?_); (focus (simp only [go_sem, *]; done))) <;> (try simp (disch := first | omega | (simp only [size_app, size_mk, List.size_toArray, List.length_cons, List.length_nil]; omega)) only [go_sem, *]))
      | ((with_reducible refine i_cond (by simp only [go_sem, *] <;> rfl) (fun h => ?_) (fun h => ?_)) <;> (try simp only [Bool.not_eq_eq_eq_not, Bool.not_true, Bool.not_false, reduceCtorEq] at h) <;> (try have h' := of_decide_eq_true h) <;> (try (have hz : (_ : Int) = (_ : Int) := h'; clear hz h')) <;> (try have h' := of_decide_eq_false h) <;> (try have h' := inB_t h) <;> (try (exfalso; omega)) <;> (try simp (disch := first | omega | (simp only [size_app, size_mk, List.size_toArray, List.length_cons, List.length_nil]; omega)) only [go_sem, *])))
    all_goals (try simp (disch := omega) only [EndK, go_sem, natLe_ok, *])
  · have e : ((n : Int) == 0) = false := by simpa using h0
    have e2 : decide ((n : Int) < 0) = false := decide_eq_false (by omega)
    refine callOk_of_hcall 40 (hcall_of_body Tryd.func32 rfl (by kernel_rfl) ?_)
    simp (disch := omega) only [go_sem, Tryd.ntmps32, Tryd.results32]
    repeat' (first
      | (with_reducible refine i_seq ?_)
      | ((with_reducible refine i_block ?_); (try simp (disch := first | omega | (simp only [size_app, size_mk, List.size_toArray, List.length_cons, List.length_nil]; omega)) only [go_sem, *]))
      | ((with_reducible refine i_regionQ (fun Q' hQ => ?_)); (try simp (disch := first | omega | (simp only [size_app, size_mk, List.size_toArray, List.length_cons, List.length_nil]; omega)) only [go_sem, *]))
      | ((with_reducible refine Imp.go hQ ?_); clear hQ; (try simp (disch := first | omega | (simp only [size_app, size_mk, List.size_toArray, List.length_cons, List.length_nil]; omega)) only [go_sem, *]))
      | ((with_reducible refine resOk_g (fun h => ?_) (fun h => ?_)) <;> (try simp only [Bool.not_eq_eq_eq_not, Bool.not_true, Bool.not_false, reduceCtorEq] at h) <;> (try have h' := of_decide_eq_true h) <;> (try (have hz : (_ : Int) = (_ : Int) := h'; clear hz h')) <;> (try have h' := of_decide_eq_false h) <;> (try have h' := inB_t h) <;> (try (exfalso; omega)) <;> (try simp (disch := first | omega | (simp only [size_app, size_mk, List.size_toArray, List.length_cons, List.length_nil]; omega)) only [go_sem, *]))
      | (((with_reducible refine i_condT ?_ ?_); (focus (simp only [go_sem, *]; done))) <;> (try simp (disch := first | omega | (simp only [size_app, size_mk, List.size_toArray, List.length_cons, List.length_nil]; omega)) only [go_sem, *]))
      | (((with_reducible refine i_condF ?_ ?_); (focus (simp only [go_sem, *]; done))) <;> (try simp (disch := first | omega | (simp only [size_app, size_mk, List.size_toArray, List.length_cons, List.length_nil]; omega)) only [go_sem, *]))
      | ((with_reducible refine i_cond (by simp only [go_sem, *] <;> rfl) (fun h => ?_) (fun h => ?_)) <;> (try simp only [Bool.not_eq_eq_eq_not, Bool.not_true, Bool.not_false, reduceCtorEq] at h) <;> (try have h' := of_decide_eq_true h) <;> (try (have hz : (_ : Int) = (_ : Int) := h'; clear hz h')) <;> (try have h' := of_decide_eq_false h) <;> (try have h' := inB_t h) <;> (try (exfalso; omega)) <;> (try simp (disch := first | omega | (simp only [size_app, size_mk, List.size_toArray, List.length_cons, List.length_nil]; omega)) only [go_sem, *])))
    all_goals (try simp (disch := omega) only [EndK, go_sem, natLe_ok, *])
    refine i_loop (α := {p : Nat × ByteArray // decSt n p ∧ p.1 ≤ n}) (fun p => ⟨mkEnv 30 [(0, .one (iV p.1.1)), (3, .one (bV false)), (4, .one (sV p.1.2))], []⟩) (fun p => p.1.1) ⟨(n, ⟨#[]⟩), by unfold decSt; rw [if_neg h0]; simp, Nat.le_refl _⟩ ?_ ?_
    · first | (refine weak_canon [0, 3, 4] [] ?_ ?_ ?_ <;> (simp (disch := omega) only [go_sem]; done)) | (refine weak_canon [0, 3, 4] [] ?_ ?_ ?_ <;> (try (simp (disch := omega) only [go_sem])) <;> trace_state)
    rintro ⟨⟨k, b⟩, hp, hk⟩
    have hl := decSt_len h hp
    simp only at hp hk hl
    simp (disch := omega) only [go_sem]
    by_cases hk0 : k = 0
    · have e3 : ((k : Int) != 0) = false := by simp [hk0]
      have e4 : b = decB n := by
        unfold decSt at hp
        rw [if_pos hk0] at hp
        apply ByteArray.ext
        unfold decB
        simp only at hp ⊢
        rw [← hp]
      subst e4
      repeat' (first
        | (with_reducible refine i_seq ?_)
        | ((with_reducible refine i_block ?_); (try simp (disch := first | omega | (simp only [size_app, size_mk, List.size_toArray, List.length_cons, List.length_nil]; omega)) only [go_sem, *]))
        | ((with_reducible refine i_regionQ (fun Q' hQ => ?_)); (try simp (disch := first | omega | (simp only [size_app, size_mk, List.size_toArray, List.length_cons, List.length_nil]; omega)) only [go_sem, *]))
        | ((with_reducible refine Imp.go hQ ?_); clear hQ; (try simp (disch := first | omega | (simp only [size_app, size_mk, List.size_toArray, List.length_cons, List.length_nil]; omega)) only [go_sem, *]))
        | ((with_reducible refine resOk_g (fun h => ?_) (fun h => ?_)) <;> (try simp only [Bool.not_eq_eq_eq_not, Bool.not_true, Bool.not_false, reduceCtorEq] at h) <;> (try have h' := of_decide_eq_true h) <;> (try (have hz : (_ : Int) = (_ : Int) := h'; clear hz h')) <;> (try have h' := of_decide_eq_false h) <;> (try have h' := inB_t h) <;> (try (exfalso; omega)) <;> (try simp (disch := first | omega | (simp only [size_app, size_mk, List.size_toArray, List.length_cons, List.length_nil]; omega)) only [go_sem, *]))
        | (((with_reducible refine i_condT ?_ ?_); (focus (simp only [go_sem, *]; done))) <;> (try simp (disch := first | omega | (simp only [size_app, size_mk, List.size_toArray, List.length_cons, List.length_nil]; omega)) only [go_sem, *]))
        | (((with_reducible refine i_condF ?_ ?_); (focus (simp only [go_sem, *]; done))) <;> (try simp (disch := first | omega | (simp only [size_app, size_mk, List.size_toArray, List.length_cons, List.length_nil]; omega)) only [go_sem, *]))
        | ((with_reducible refine i_cond (by simp only [go_sem, *] <;> rfl) (fun h => ?_) (fun h => ?_)) <;> (try simp only [Bool.not_eq_eq_eq_not, Bool.not_true, Bool.not_false, reduceCtorEq] at h) <;> (try have h' := of_decide_eq_true h) <;> (try (have hz : (_ : Int) = (_ : Int) := h'; clear hz h')) <;> (try have h' := of_decide_eq_false h) <;> (try have h' := inB_t h) <;> (try (exfalso; omega)) <;> (try simp (disch := first | omega | (simp only [size_app, size_mk, List.size_toArray, List.length_cons, List.length_nil]; omega)) only [go_sem, *])))
      all_goals (try simp (disch := omega) only [EndK, go_sem, natLe_ok, *])
    · have e3 : ((k : Int) != 0) = true := by simp [hk0]
      have em : (k : Int).tmod 10 = ((k % 10 : Nat) : Int) := by rw [Int.tmod_eq_emod_of_nonneg (by omega)]; omega
      have eq' : IntKind.i64.wrap ((k : Int).tdiv 10) = ((k / 10 : Nat) : Int) := by rw [Int.tdiv_eq_ediv_of_nonneg (by omega), wrap64 (by omega) (by omega)]; omega
      have ez : decide (((k % 10 : Nat) : Int) < 0) = false := decide_eq_false (by omega)
      repeat' (first
        | (with_reducible refine i_seq ?_)
        | ((with_reducible refine i_block ?_); (try simp (disch := first | omega | (simp only [size_app, size_mk, List.size_toArray, List.length_cons, List.length_nil]; omega)) only [go_sem, em, eq', ez, Tryd.underlying5, *]))
        | ((with_reducible refine i_regionQ (fun Q' hQ => ?_)); (try simp (disch := first | omega | (simp only [size_app, size_mk, List.size_toArray, List.length_cons, List.length_nil]; omega)) only [go_sem, em, eq', ez, Tryd.underlying5, *]))
        | ((with_reducible refine Imp.go hQ ?_); clear hQ; (try simp (disch := first | omega | (simp only [size_app, size_mk, List.size_toArray, List.length_cons, List.length_nil]; omega)) only [go_sem, em, eq', ez, Tryd.underlying5, *]))
        | ((with_reducible refine resOk_g (fun h => ?_) (fun h => ?_)) <;> (try simp only [Bool.not_eq_eq_eq_not, Bool.not_true, Bool.not_false, reduceCtorEq] at h) <;> (try have h' := of_decide_eq_true h) <;> (try (have hz : (_ : Int) = (_ : Int) := h'; clear hz h')) <;> (try have h' := of_decide_eq_false h) <;> (try have h' := inB_t h) <;> (try (exfalso; omega)) <;> (try simp (disch := first | omega | (simp only [size_app, size_mk, List.size_toArray, List.length_cons, List.length_nil]; omega)) only [go_sem, em, eq', ez, Tryd.underlying5, *]))
        | (((with_reducible refine i_condT ?_ ?_); (focus (simp only [go_sem, *]; done))) <;> (try simp (disch := first | omega | (simp only [size_app, size_mk, List.size_toArray, List.length_cons, List.length_nil]; omega)) only [go_sem, em, eq', ez, Tryd.underlying5, *]))
        | (((with_reducible refine i_condF ?_ ?_); (focus (simp only [go_sem, *]; done))) <;> (try simp (disch := first | omega | (simp only [size_app, size_mk, List.size_toArray, List.length_cons, List.length_nil]; omega)) only [go_sem, em, eq', ez, Tryd.underlying5, *]))
        | ((with_reducible refine i_cond (by simp only [go_sem, *] <;> rfl) (fun h => ?_) (fun h => ?_)) <;> (try simp only [Bool.not_eq_eq_eq_not, Bool.not_true, Bool.not_false, reduceCtorEq] at h) <;> (try have h' := of_decide_eq_true h) <;> (try (have hz : (_ : Int) = (_ : Int) := h'; clear hz h')) <;> (try have h' := of_decide_eq_false h) <;> (try have h' := inB_t h) <;> (try (exfalso; omega)) <;> (try simp (disch := first | omega | (simp only [size_app, size_mk, List.size_toArray, List.length_cons, List.length_nil]; omega)) only [go_sem, em, eq', ez, Tryd.underlying5, *]))
        | ((with_reducible refine hcall_of_callOk 40 true (figure_ok ((k % 10 : Nat) : Int) (by omega) (by omega)) ?_ ?_ ?_ ?_ ?_); (focus (simp (disch := omega) only [go_sem, em, eq', ez, Tryd.underlying5, natLe_ok]; done)); (focus (simp (disch := omega) only [go_sem, em, eq', ez, Tryd.underlying5, natLe_ok]; done)); (focus (simp (disch := omega) only [go_sem, em, eq', ez, Tryd.underlying5, natLe_ok]; done)); (focus (simp (disch := omega) only [go_sem, em, eq', ez, Tryd.underlying5, natLe_ok]; done)); simp only [go_sem, em, eq', ez, Tryd.underlying5]; refine aL_run ?_; (try simp (disch := first | omega | (simp only [size_app, size_mk, List.size_toArray, List.length_cons, List.length_nil]; omega)) only [go_sem, em, eq', ez, Tryd.underlying5, *])))
      all_goals (try simp (disch := omega) only [EndK, go_sem, em, eq', ez, Tryd.underlying5, natLe_ok, *])
      refine ⟨⟨(k / 10, _), dec_step hk0 hp, by simp only; omega⟩, ?_, by simp only; omega⟩
      have ec : UInt8.ofNat (48 + ((k % 10 : Nat) : Int)).toNat = UInt8.ofNat (48 + k % 10) := by congr 1
      first | (refine weak_canon [0, 3, 4] [] ?_ ?_ ?_ <;> (simp (disch := omega) only [go_sem, ec]; done)) | trace_state
end Go.Proofs.YtgeoipplkjgnfaaDoor.E
