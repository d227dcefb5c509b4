import Derived.Test.YtgeoipplkjgnfaaGt12
set_option linter.unusedVariables false
set_option linter.unusedSimpArgs false
set_option maxRecDepth 100000
namespace Go.Proofs.Ytgeoipplkjgnfaa.E
theorem ti5 : ti Try.prog 5 = some ⟨.int .u8, 1, 1, false, [.int .u8 0]⟩ := by kernel_rfl
theorem ni5 : notInt Try.prog 5 = false := by kernel_rfl
theorem ti37 : ti Try.prog 37 = some ⟨.sl 5, 1, 24, false, [.slice none 0 0]⟩ := by kernel_rfl
theorem ni37 : notInt Try.prog 37 = true := by kernel_rfl
theorem ti116 : ti Try.prog 116 = some ⟨.ptr, 1, 8, false, [.pointer none]⟩ := by kernel_rfl
theorem ni116 : notInt Try.prog 116 = true := by kernel_rfl
theorem ti174 : ti Try.prog 174 = some ⟨.st [(0, 1, false), (1, 1, false), (2, 1, false)], 3, 40, true, [.slice none 0 0, .int .i64 0, .int .i64 0]⟩ := by kernel_rfl
theorem ni174 : notInt Try.prog 174 = true := by kernel_rfl
theorem ti175 : ti Try.prog 175 = some ⟨.int .u64, 1, 8, false, [.int .u64 0]⟩ := by kernel_rfl
theorem ni175 : notInt Try.prog 175 = false := by kernel_rfl
attribute [go_sem] ti5 ni5 ti37 ni37 ti116 ni116 ti174 ni174 ti175 ni175
/-- Bytes. -/
def bytesD (xs : List Int) : List (List D) := xs.map fun n => [D.v (.int .u8 n)]
theorem bytesD_len (xs : List Int) : (bytesD xs).length = xs.length := by simp [bytesD]
theorem bytesD_get {xs : List Int} {k : Nat} (h : k < xs.length) : (bytesD xs)[k]? = some [D.v (.int .u8 (xs.getD k 0))] := by simp [bytesD, h]
attribute [go_sem] bytesD_len bytesD_get
/-- A cursor. -/
structure Cur where
  b : List Int
  i : Int
  h : Int
def curT (c : Cur) : List T := [.ro 1 (bytesD c.b), iV c.i, iV c.h]
def okCur (c : Cur) : Prop := 0 ≤ c.i ∧ c.i ≤ c.b.length ∧ c.b.length ≤ 1099511627776
attribute [go_sem] curT
def stepH (h : Int) : Int := IntKind.i64.wrap (IntKind.i64.wrap (h * 6364136223846793005) + 1442695040888963407)
def and255 (x : Int) : Int := IntKind.i64.wrap ↑(BitVec.ofInt 64 x &&& BitVec.ofInt 64 255).toNat
def mixH (h : Int) : Int := and255 (IntKind.i64.wrap ↑(BitVec.ofInt 64 (h.fdiv (2 ^ min (Int.toNat 33) 64)) ^^^ BitVec.ofInt 64 (h.fdiv (2 ^ min (Int.toNat 45) 64))).toNat)
def cByte (c : Cur) : Int := if decide (c.i < (c.b.length : Int)) = true then and255 (IntKind.i64.wrap (mixH (stepH c.h) + IntKind.i64.wrap (c.b.getD c.i.toNat 0))) else mixH (stepH c.h)
def cNext (c : Cur) : Cur := if decide (c.i < (c.b.length : Int)) = true then ⟨c.b, c.i + 1, stepH c.h⟩ else ⟨c.b, c.i, stepH c.h⟩
theorem and255_le (x : Int) : 0 ≤ and255 x ∧ and255 x ≤ 255 := by
  have h : (BitVec.ofInt 64 x &&& BitVec.ofInt 64 255).toNat ≤ 255 := by
    rw [BitVec.toNat_and]
    exact Nat.le_trans Nat.and_le_right (by decide)
  unfold and255
  rw [wrap64 (by omega) (by omega)]
  omega
theorem cByte_le (c : Cur) : 0 ≤ cByte c ∧ cByte c ≤ 255 := by
  unfold cByte
  split
  · exact and255_le _
  · exact and255_le _
theorem cNext_ok {c : Cur} (h : okCur c) : okCur (cNext c) := by
  obtain ⟨h1, h2, h3⟩ := h
  unfold cNext
  split
  · rename_i hd
    have := of_decide_eq_true hd
    exact ⟨by simp only; omega, by simp only; omega, h3⟩
  · exact ⟨h1, h2, h3⟩
theorem sByte_ok (c : Cur) (hc : okCur c) : CallOk Try.prog 70 [.one (.box (curT c))] (.s (.one (iV (cByte c)))) [some (.box (curT (cNext c)))] := by
  obtain ⟨h1, h2, h3⟩ := id hc
  refine callOk_of_hcall 40 (hcall_of_body Try.func70 rfl (by kernel_rfl) ?_)
  simp (disch := omega) only [go_sem, Try.ntmps70, Try.results70]
  repeat' (first
    | (with_reducible refine i_seq ?_)
    | ((with_reducible refine i_block ?_); (try simp (disch := omega) only [go_sem, cByte, cNext, stepH, and255, mixH, *]))
    | ((with_reducible refine i_regionQ (fun Q' hQ => ?_)); (try simp (disch := omega) only [go_sem, cByte, cNext, stepH, and255, mixH, *]))
    | ((with_reducible refine Imp.go hQ ?_); clear hQ; (try simp (disch := omega) only [go_sem, cByte, cNext, stepH, and255, mixH, *]))
    | ((with_reducible refine resOk_g (fun h => ?_) (fun h => ?_)) <;> (try simp only [Bool.not_eq_eq_eq_not, Bool.not_true, Bool.not_false, reduceCtorEq] at h) <;> (try have h' := of_decide_eq_true h) <;> (try (have hz : (_ : Int) = (_ : Int) := h'; clear hz h')) <;> (try have h' := of_decide_eq_false h) <;> (try have h' := inB_t h) <;> (try (exfalso; omega)) <;> (try simp (disch := omega) only [go_sem, cByte, cNext, stepH, and255, mixH, *]))
    | (((with_reducible refine i_condT ?_ ?_); (focus (simp only [go_sem, *]; done))) <;> (try simp (disch := omega) only [go_sem, cByte, cNext, stepH, and255, mixH, *]))
    | (((with_reducible refine i_condF ?_ ?_); (focus (simp only [go_sem, *]; done))) <;> (try simp (disch := omega) only [go_sem, cByte, cNext, stepH, and255, mixH, *]))
    | ((with_reducible refine i_cond (by simp only [go_sem, *] <;> rfl) (fun h => ?_) (fun h => ?_)) <;> (try simp only [Bool.not_eq_eq_eq_not, Bool.not_true, Bool.not_false, reduceCtorEq] at h) <;> (try have h' := of_decide_eq_true h) <;> (try (have hz : (_ : Int) = (_ : Int) := h'; clear hz h')) <;> (try have h' := of_decide_eq_false h) <;> (try have h' := inB_t h) <;> (try (exfalso; omega)) <;> (try simp (disch := omega) only [go_sem, cByte, cNext, stepH, and255, mixH, *]))
    | (with_reducible refine i_treeQ (id := 2) (.fr [0, 1, 2, 3, 4, 5, 6, 7, 8, 9, 10, 11, 12] (.stop)) mixedT (by kernel_rfl) (fun Q' hQ => ?_))
    | (with_reducible refine i_treeQ (id := 3) (.fr [0, 1, 2, 3, 4, 5, 6, 7, 8, 9] (.stop)) mixedT (by kernel_rfl) (fun Q' hQ => ?_))
    | (with_reducible refine i_treeQ (id := 4) (.fr [0, 1, 2, 3, 4, 5, 6, 7, 8, 9, 10, 11, 12, 13, 14] (.stop)) mixedT (by kernel_rfl) (fun Q' hQ => ?_))
    | (with_reducible exact tr_none)
    | (with_reducible refine tr_stop ?_)
    | ((with_reducible refine tr_fr ?_); (try simp (disch := omega) only [go_sem, cByte, cNext, stepH, and255, mixH, *]))
    | ((with_reducible refine tr_op (aL_run ?_)); (try simp (disch := omega) only [go_sem, cByte, cNext, stepH, and255, mixH, *]))
    | ((with_reducible refine tr_alt (by kernel_rfl) (aL_run ?_) ?_) <;> (try simp (disch := omega) only [go_sem, cByte, cNext, stepH, and255, mixH, *]))
    | ((with_reducible refine tr_altp ?_ ?_) <;> (try simp (disch := omega) only [go_sem, cByte, cNext, stepH, and255, mixH, *]))
    | ((with_reducible refine pG_split (fun h => ?_) (fun h => ?_)) <;> (try simp only [Bool.not_eq_eq_eq_not, Bool.not_true, Bool.not_false, reduceCtorEq] at h) <;> (try have h' := of_decide_eq_true h) <;> (try (have hz : (_ : Int) = (_ : Int) := h'; clear hz h')) <;> (try have h' := of_decide_eq_false h) <;> (try have h' := inB_t h) <;> (try (exfalso; omega)) <;> (try simp (disch := omega) only [go_sem, cByte, cNext, stepH, and255, mixH, *])))
  all_goals (try simp (disch := omega) only [EndK, go_sem, cByte, cNext, stepH, and255, mixH, natLe_ok, *])
  all_goals rfl
/-- Below a number. -/
def bel (c : Cur) (n : Int) : Int := if decide (n ≤ 0) = true then 0 else if decide (n ≤ 256) = true then (cByte c).tmod n else
  (cByte c * 16777216 + cByte (cNext c) * 65536 + cByte (cNext (cNext c)) * 256 + cByte (cNext (cNext (cNext c)))).tmod n
def belN (c : Cur) (n : Int) : Cur := if decide (n ≤ 0) = true then c else if decide (n ≤ 256) = true then cNext c else cNext (cNext (cNext (cNext c)))
theorem belN_ok {c : Cur} (n : Int) (h : okCur c) : okCur (belN c n) := by
  unfold belN
  split
  · exact h
  · split
    · exact cNext_ok h
    · exact cNext_ok (cNext_ok (cNext_ok (cNext_ok h)))
theorem bel_le (c : Cur) (n : Int) (h : 0 < n) : 0 ≤ bel c n ∧ bel c n < n := by
  have h0 : decide (n ≤ 0) = false := by simpa using h
  have b1 := cByte_le c
  have b2 := cByte_le (cNext c)
  have b3 := cByte_le (cNext (cNext c))
  have b4 := cByte_le (cNext (cNext (cNext c)))
  unfold bel
  rw [if_neg (by rw [h0]; simp)]
  split
  · exact ⟨Int.tmod_nonneg _ b1.1, Int.tmod_lt_of_pos _ h⟩
  · exact ⟨Int.tmod_nonneg _ (by omega), Int.tmod_lt_of_pos _ h⟩
theorem sBelow_ok (c : Cur) (n : Int) (hc : okCur c) : CallOk Try.prog 71 [.one (.box (curT c)), .one (iV n)] (.s (.one (iV (bel c n)))) [some (.box (curT (belN c n))), none] := by
  have o1 := cNext_ok hc
  have o2 := cNext_ok o1
  have o3 := cNext_ok o2
  have b1 := cByte_le c
  have b2 := cByte_le (cNext c)
  have b3 := cByte_le (cNext (cNext c))
  have b4 := cByte_le (cNext (cNext (cNext c)))
  refine callOk_of_hcall 40 (hcall_of_body Try.func71 rfl (by kernel_rfl) ?_)
  simp (disch := omega) only [go_sem, Try.ntmps71, Try.results71]
  repeat' (first
    | (with_reducible refine i_seq ?_)
    | ((with_reducible refine i_block ?_); (try simp (disch := omega) only [go_sem, bel, belN, *]))
    | ((with_reducible refine i_regionQ (fun Q' hQ => ?_)); (try simp (disch := omega) only [go_sem, bel, belN, *]))
    | ((with_reducible refine Imp.go hQ ?_); clear hQ; (try simp (disch := omega) only [go_sem, bel, belN, *]))
    | ((with_reducible refine resOk_g (fun h => ?_) (fun h => ?_)) <;> (try simp only [Bool.not_eq_eq_eq_not, Bool.not_true, Bool.not_false, reduceCtorEq] at h) <;> (try have h' := of_decide_eq_true h) <;> (try (have hz : (_ : Int) = (_ : Int) := h'; clear hz h')) <;> (try have h' := of_decide_eq_false h) <;> (try have h' := inB_t h) <;> (try (exfalso; omega)) <;> (try simp (disch := omega) only [go_sem, bel, belN, *]))
    | (((with_reducible refine i_condT ?_ ?_); (focus (simp only [go_sem, *]; done))) <;> (try simp (disch := omega) only [go_sem, bel, belN, *]))
    | (((with_reducible refine i_condF ?_ ?_); (focus (simp only [go_sem, *]; done))) <;> (try simp (disch := omega) only [go_sem, bel, belN, *]))
    | ((with_reducible refine i_cond (by simp only [go_sem, *] <;> rfl) (fun h => ?_) (fun h => ?_)) <;> (try simp only [Bool.not_eq_eq_eq_not, Bool.not_true, Bool.not_false, reduceCtorEq] at h) <;> (try have h' := of_decide_eq_true h) <;> (try (have hz : (_ : Int) = (_ : Int) := h'; clear hz h')) <;> (try have h' := of_decide_eq_false h) <;> (try have h' := inB_t h) <;> (try (exfalso; omega)) <;> (try simp (disch := omega) only [go_sem, bel, belN, *]))
    | ((with_reducible refine hcall_of_callOk 40 false (sByte_ok c hc) ?_ ?_ ?_ ?_ ?_); (focus (simp (disch := omega) only [go_sem, bel, belN, natLe_ok]; done)); (focus (simp (disch := omega) only [go_sem, bel, belN, natLe_ok]; done)); (focus (simp (disch := omega) only [go_sem, bel, belN, natLe_ok]; done)); (focus (simp (disch := omega) only [go_sem, bel, belN, natLe_ok]; done)); simp only [go_sem, bel, belN]; refine aL_run ?_; (try simp (disch := omega) only [go_sem, bel, belN, *]))
    | ((with_reducible refine hcall_of_callOk 40 false (sByte_ok (cNext c) o1) ?_ ?_ ?_ ?_ ?_); (focus (simp (disch := omega) only [go_sem, bel, belN, natLe_ok]; done)); (focus (simp (disch := omega) only [go_sem, bel, belN, natLe_ok]; done)); (focus (simp (disch := omega) only [go_sem, bel, belN, natLe_ok]; done)); (focus (simp (disch := omega) only [go_sem, bel, belN, natLe_ok]; done)); simp only [go_sem, bel, belN]; refine aL_run ?_; (try simp (disch := omega) only [go_sem, bel, belN, *]))
    | ((with_reducible refine hcall_of_callOk 40 false (sByte_ok (cNext (cNext c)) o2) ?_ ?_ ?_ ?_ ?_); (focus (simp (disch := omega) only [go_sem, bel, belN, natLe_ok]; done)); (focus (simp (disch := omega) only [go_sem, bel, belN, natLe_ok]; done)); (focus (simp (disch := omega) only [go_sem, bel, belN, natLe_ok]; done)); (focus (simp (disch := omega) only [go_sem, bel, belN, natLe_ok]; done)); simp only [go_sem, bel, belN]; refine aL_run ?_; (try simp (disch := omega) only [go_sem, bel, belN, *]))
    | ((with_reducible refine hcall_of_callOk 40 false (sByte_ok (cNext (cNext (cNext c))) o3) ?_ ?_ ?_ ?_ ?_); (focus (simp (disch := omega) only [go_sem, bel, belN, natLe_ok]; done)); (focus (simp (disch := omega) only [go_sem, bel, belN, natLe_ok]; done)); (focus (simp (disch := omega) only [go_sem, bel, belN, natLe_ok]; done)); (focus (simp (disch := omega) only [go_sem, bel, belN, natLe_ok]; done)); simp only [go_sem, bel, belN]; refine aL_run ?_; (try simp (disch := omega) only [go_sem, bel, belN, *])))
  all_goals (try simp (disch := omega) only [EndK, go_sem, bel, belN, natLe_ok, *])
theorem sOnce_ok (c : Cur) (n : Int) (hc : okCur c) : CallOk Try.prog 125 [.one (.box (curT c)), .one (iV n)] (.s (.one (bV (bel c n == 0)))) [some (.box (curT (belN c n))), none] := by
  refine callOk_of_hcall 40 (hcall_of_body Try.func125 rfl (by kernel_rfl) ?_)
  simp (disch := omega) only [go_sem, Try.ntmps125, Try.results125]
  repeat' (first
    | (with_reducible refine i_seq ?_)
    | ((with_reducible refine i_block ?_); (try simp (disch := omega) only [go_sem, *]))
    | ((with_reducible refine i_regionQ (fun Q' hQ => ?_)); (try simp (disch := omega) only [go_sem, *]))
    | ((with_reducible refine Imp.go hQ ?_); clear hQ; (try simp (disch := omega) only [go_sem, *]))
    | ((with_reducible refine resOk_g (fun h => ?_) (fun h => ?_)) <;> (try simp only [Bool.not_eq_eq_eq_not, Bool.not_true, Bool.not_false, reduceCtorEq] at h) <;> (try have h' := of_decide_eq_true h) <;> (try (have hz : (_ : Int) = (_ : Int) := h'; clear hz h')) <;> (try have h' := of_decide_eq_false h) <;> (try have h' := inB_t h) <;> (try (exfalso; omega)) <;> (try simp (disch := omega) only [go_sem, *]))
    | (((with_reducible refine i_condT ?_ ?_); (focus (simp only [go_sem, *]; done))) <;> (try simp (disch := omega) only [go_sem, *]))
    | (((with_reducible refine i_condF ?_ ?_); (focus (simp only [go_sem, *]; done))) <;> (try simp (disch := omega) only [go_sem, *]))
    | ((with_reducible refine i_cond (by simp only [go_sem, *] <;> rfl) (fun h => ?_) (fun h => ?_)) <;> (try simp only [Bool.not_eq_eq_eq_not, Bool.not_true, Bool.not_false, reduceCtorEq] at h) <;> (try have h' := of_decide_eq_true h) <;> (try (have hz : (_ : Int) = (_ : Int) := h'; clear hz h')) <;> (try have h' := of_decide_eq_false h) <;> (try have h' := inB_t h) <;> (try (exfalso; omega)) <;> (try simp (disch := omega) only [go_sem, *]))
    | ((with_reducible refine hcall_of_callOk 40 false (sBelow_ok c n hc) ?_ ?_ ?_ ?_ ?_); (focus (simp (disch := omega) only [go_sem, natLe_ok]; done)); (focus (simp (disch := omega) only [go_sem, natLe_ok]; done)); (focus (simp (disch := omega) only [go_sem, natLe_ok]; done)); (focus (simp (disch := omega) only [go_sem, natLe_ok]; done)); simp only [go_sem]; refine aL_run ?_; (try simp (disch := omega) only [go_sem, *])))
  all_goals (try simp (disch := omega) only [EndK, go_sem, natLe_ok, *])
theorem getD_bound {xs : List Int} {i : Int} (h : 0 ≤ i ∧ i < xs.length) : i.toNat < xs.length := by omega
theorem sPickInt_ok (c : Cur) (xs : List Int) (hc : okCur c) (h0 : 0 < xs.length) (h1 : xs.length ≤ 1099511627776) : CallOk Try.prog 126 [.one (.box (curT c)), .one (.own 1 (intsT xs))] (.s (.one (iV (xs.getD (bel c xs.length).toNat 0)))) [some (.box (curT (belN c xs.length))), none] := by
  have hb := bel_le c xs.length (by omega)
  refine callOk_of_hcall 40 (hcall_of_body Try.func126 rfl (by kernel_rfl) ?_)
  simp (disch := omega) only [go_sem, Try.ntmps126, Try.results126]
  repeat' (first
    | (with_reducible refine i_seq ?_)
    | ((with_reducible refine i_block ?_); (try simp (disch := omega) only [go_sem, *]))
    | ((with_reducible refine i_regionQ (fun Q' hQ => ?_)); (try simp (disch := omega) only [go_sem, *]))
    | ((with_reducible refine Imp.go hQ ?_); clear hQ; (try simp (disch := omega) only [go_sem, *]))
    | ((with_reducible refine resOk_g (fun h => ?_) (fun h => ?_)) <;> (try simp only [Bool.not_eq_eq_eq_not, Bool.not_true, Bool.not_false, reduceCtorEq] at h) <;> (try have h' := of_decide_eq_true h) <;> (try (have hz : (_ : Int) = (_ : Int) := h'; clear hz h')) <;> (try have h' := of_decide_eq_false h) <;> (try have h' := inB_t h) <;> (try (exfalso; omega)) <;> (try simp (disch := omega) only [go_sem, *]))
    | (((with_reducible refine i_condT ?_ ?_); (focus (simp only [go_sem, *]; done))) <;> (try simp (disch := omega) only [go_sem, *]))
    | (((with_reducible refine i_condF ?_ ?_); (focus (simp only [go_sem, *]; done))) <;> (try simp (disch := omega) only [go_sem, *]))
    | ((with_reducible refine i_cond (by simp only [go_sem, *] <;> rfl) (fun h => ?_) (fun h => ?_)) <;> (try simp only [Bool.not_eq_eq_eq_not, Bool.not_true, Bool.not_false, reduceCtorEq] at h) <;> (try have h' := of_decide_eq_true h) <;> (try (have hz : (_ : Int) = (_ : Int) := h'; clear hz h')) <;> (try have h' := of_decide_eq_false h) <;> (try have h' := inB_t h) <;> (try (exfalso; omega)) <;> (try simp (disch := omega) only [go_sem, *]))
    | ((with_reducible refine hcall_of_callOk 40 false (sBelow_ok c xs.length hc) ?_ ?_ ?_ ?_ ?_); (focus (simp (disch := omega) only [go_sem, natLe_ok]; done)); (focus (simp (disch := omega) only [go_sem, natLe_ok]; done)); (focus (simp (disch := omega) only [go_sem, natLe_ok]; done)); (focus (simp (disch := omega) only [go_sem, natLe_ok]; done)); simp only [go_sem]; refine aL_run ?_; (try simp (disch := omega) only [go_sem, *])))
  all_goals (try simp (disch := omega) only [EndK, go_sem, natLe_ok, *])
theorem sPick5_ok (c : Cur) (x1 x2 x3 x4 x5 : Int) (hc : okCur c) : CallOk Try.prog 126 [.one (.box (curT c)), .one (.own 1 [[iV x1], [iV x2], [iV x3], [iV x4], [iV x5]])] (.s (.one (iV ([x1, x2, x3, x4, x5].getD (bel c 5).toNat 0)))) [some (.box (curT (belN c 5))), none] :=
  sPickInt_ok c [x1, x2, x3, x4, x5] hc (by simp) (by simp)
def place (c : Cur) (k : Int) : Int := if (bel c 15 == 0) = true then [-1, k, IntKind.i64.wrap (k + 1), 9223372036854775807, -9223372036854775808].getD (bel (belN c 15) 5).toNat 0 else bel (belN c 15) k
def placeN (c : Cur) (k : Int) : Cur := if (bel c 15 == 0) = true then belN (belN c 15) 5 else belN (belN c 15) k
theorem placeN_ok {c : Cur} (k : Int) (h : okCur c) : okCur (placeN c k) := by
  unfold placeN
  split
  · exact belN_ok _ (belN_ok _ h)
  · exact belN_ok _ (belN_ok _ h)
theorem sPlace_ok (c : Cur) (k : Int) (hc : okCur c) : CallOk Try.prog 74 [.one (.box (curT c)), .one (iV k)] (.s (.one (iV (place c k)))) [some (.box (curT (placeN c k))), none] := by
  have o1 := belN_ok 15 hc
  refine callOk_of_hcall 40 (hcall_of_body Try.func74 rfl (by kernel_rfl) ?_)
  simp (disch := omega) only [go_sem, Try.ntmps74, Try.results74]
  repeat' (first
    | (with_reducible refine i_seq ?_)
    | ((with_reducible refine i_block ?_); (try simp (disch := omega) only [go_sem, place, placeN, *]))
    | ((with_reducible refine i_regionQ (fun Q' hQ => ?_)); (try simp (disch := omega) only [go_sem, place, placeN, *]))
    | ((with_reducible refine Imp.go hQ ?_); clear hQ; (try simp (disch := omega) only [go_sem, place, placeN, *]))
    | ((with_reducible refine resOk_g (fun h => ?_) (fun h => ?_)) <;> (try simp only [Bool.not_eq_eq_eq_not, Bool.not_true, Bool.not_false, reduceCtorEq] at h) <;> (try have h' := of_decide_eq_true h) <;> (try (have hz : (_ : Int) = (_ : Int) := h'; clear hz h')) <;> (try have h' := of_decide_eq_false h) <;> (try have h' := inB_t h) <;> (try (exfalso; omega)) <;> (try simp (disch := omega) only [go_sem, place, placeN, *]))
    | (((with_reducible refine i_condT ?_ ?_); (focus (simp only [go_sem, *]; done))) <;> (try simp (disch := omega) only [go_sem, place, placeN, *]))
    | (((with_reducible refine i_condF ?_ ?_); (focus (simp only [go_sem, *]; done))) <;> (try simp (disch := omega) only [go_sem, place, placeN, *]))
    | ((with_reducible refine i_cond (by simp only [go_sem, *] <;> rfl) (fun h => ?_) (fun h => ?_)) <;> (try simp only [Bool.not_eq_eq_eq_not, Bool.not_true, Bool.not_false, reduceCtorEq] at h) <;> (try have h' := of_decide_eq_true h) <;> (try (have hz : (_ : Int) = (_ : Int) := h'; clear hz h')) <;> (try have h' := of_decide_eq_false h) <;> (try have h' := inB_t h) <;> (try (exfalso; omega)) <;> (try simp (disch := omega) only [go_sem, place, placeN, *]))
    | ((with_reducible refine hcall_of_callOk 40 false (sOnce_ok c 15 hc) ?_ ?_ ?_ ?_ ?_); (focus (simp (disch := omega) only [go_sem, place, placeN, natLe_ok]; done)); (focus (simp (disch := omega) only [go_sem, place, placeN, natLe_ok]; done)); (focus (simp (disch := omega) only [go_sem, place, placeN, natLe_ok]; done)); (focus (simp (disch := omega) only [go_sem, place, placeN, natLe_ok]; done)); simp only [go_sem, place, placeN]; refine aL_run ?_; (try simp (disch := omega) only [go_sem, place, placeN, *]))
    | ((with_reducible refine hcall_of_callOk 40 false (sPick5_ok (belN c 15) (-1) k (IntKind.i64.wrap (k + 1)) 9223372036854775807 (-9223372036854775808) o1) ?_ ?_ ?_ ?_ ?_); (focus (simp (disch := omega) only [go_sem, place, placeN, natLe_ok]; done)); (focus (simp (disch := omega) only [go_sem, place, placeN, natLe_ok]; done)); (focus (simp (disch := omega) only [go_sem, place, placeN, natLe_ok]; done)); (focus (simp (disch := omega) only [go_sem, place, placeN, natLe_ok]; done)); simp only [go_sem, place, placeN]; refine aL_run ?_; (try simp (disch := omega) only [go_sem, place, placeN, *]))
    | ((with_reducible refine hcall_of_callOk 40 false (sBelow_ok (belN c 15) k o1) ?_ ?_ ?_ ?_ ?_); (focus (simp (disch := omega) only [go_sem, place, placeN, natLe_ok]; done)); (focus (simp (disch := omega) only [go_sem, place, placeN, natLe_ok]; done)); (focus (simp (disch := omega) only [go_sem, place, placeN, natLe_ok]; done)); (focus (simp (disch := omega) only [go_sem, place, placeN, natLe_ok]; done)); simp only [go_sem, place, placeN]; refine aL_run ?_; (try simp (disch := omega) only [go_sem, place, placeN, *])))
  all_goals (try simp (disch := omega) only [EndK, go_sem, place, placeN, natLe_ok, *])
  all_goals trace_state
end Go.Proofs.Ytgeoipplkjgnfaa.E
