import Derived.Test.YtgeoipplkjgnfaaDoorD7
set_option linter.unusedVariables false
set_option linter.unusedSimpArgs false
set_option maxRecDepth 100000
set_option maxHeartbeats 4000000
namespace Go.Proofs.YtgeoipplkjgnfaaDoor.E
theorem ti30 : ti Tryd.prog 30 = some ⟨.st [(0, 1, false), (1, 1, false), (2, 1, false), (3, 1, false), (4, 1, false)], 5, 56, true, [.int .i64 0, .int .i64 0, .int .i64 0, .slice none 0 0, .int .i64 0]⟩ := by kernel_rfl
theorem ni30 : notInt Tryd.prog 30 = true := by kernel_rfl
theorem ti33 : ti Tryd.prog 33 = some ⟨.st [(0, 1, false), (1, 1, false), (2, 1, false), (3, 1, false), (4, 1, false)], 5, 56, true, [.int .i64 0, .int .i64 0, .int .i64 0, .slice none 0 0, .int .i64 0]⟩ := by kernel_rfl
theorem ni33 : notInt Tryd.prog 33 = true := by kernel_rfl
theorem ti28 : ti Tryd.prog 28 = some ⟨.sl 3, 1, 24, false, [.slice none 0 0]⟩ := by kernel_rfl
theorem ni28 : notInt Tryd.prog 28 = true := by kernel_rfl
attribute [go_sem] ti30 ni30 ti33 ni33 ti28 ni28
def MX : Nat := 1048576
/-! ### Lists of whole numbers: how long, made anew, alike -/
theorem intsT_nil : intsT [] = [] := rfl
theorem intsT_cons (x : Int) (xs : List Int) : intsT (x :: xs) = [T.v (.int .i64 x)] :: intsT xs := rfl
attribute [go_sem] intsT_nil
theorem szIntS_ok (xs : List Int) (left : Int) (h : 0 ≤ left ∧ left ≤ 1048576) (hs : xs.length ≤ 9223372036854775807) : CallE Tryd.prog 25 [.one (.ro 1 (intsD xs)), .one (iV left)] (fun r : Int => .s (.one (iV r))) (fun _ => [none, none]) (fun r => -1 ≤ r ∧ r ≤ left ∧ (0 ≤ r → xs.length ≤ 1048576)) := by
  obtain ⟨h1, h2⟩ := h
  refine callE_of_hcall 40 (hcall_of_body Tryd.func25 rfl (by kernel_rfl) ?_)
  simp (disch := omega) only [go_sem, Tryd.ntmps25, Tryd.results25]
  repeat' (first
    | (with_reducible refine i_seq ?_)
    | ((with_reducible refine i_block ?_); (try simp (disch := omega) only [go_sem, *]))
    | ((with_reducible refine i_regionQ (fun Q' hQ => ?_)); (try simp (disch := omega) only [go_sem, *]))
    | ((with_reducible refine Imp.go hQ ?_); clear hQ; (try simp (disch := omega) only [go_sem, *]))
    | ((with_reducible refine resOk_g (fun h => ?_) (fun h => ?_)) <;> (try simp only [Bool.not_eq_eq_eq_not, Bool.not_true, Bool.not_false, reduceCtorEq] at h) <;> (try have h' := of_decide_eq_true h) <;> (try (have hz : (_ : Int) = (_ : Int) := h'; clear hz h')) <;> (try have h' := of_decide_eq_false h) <;> (try have h' := inB_t h) <;> (try (exfalso; omega)) <;> (try simp (disch := omega) only [go_sem, *]))
    | (((with_reducible refine i_condT ?_ ?_); (focus (simp only [go_sem, *]; done))) <;> (try simp (disch := omega) only [go_sem, *]))
    | (((with_reducible refine i_condF ?_ ?_); (focus (simp only [go_sem, *]; done))) <;> (try simp (disch := omega) only [go_sem, *]))
    | ((with_reducible refine i_cond (by simp only [go_sem, *] <;> rfl) (fun h => ?_) (fun h => ?_)) <;> (try simp only [Bool.not_eq_eq_eq_not, Bool.not_true, Bool.not_false, reduceCtorEq] at h) <;> (try have h' := of_decide_eq_true h) <;> (try (have hz : (_ : Int) = (_ : Int) := h'; clear hz h')) <;> (try have h' := of_decide_eq_false h) <;> (try have h' := inB_t h) <;> (try (exfalso; omega)) <;> (try simp (disch := omega) only [go_sem, *])))
  all_goals (try simp (disch := omega) only [EndK, go_sem, natLe_ok, *])
  · exact ⟨-1, ⟨by omega, by omega, fun h => by first | trivial | omega⟩, rfl⟩
  · exact ⟨left - xs.length, ⟨by omega, by omega, fun _ => by first | trivial | omega⟩, rfl⟩
def mixI (xs : List Int) (k : Nat) : List Int := xs.take k ++ List.replicate (xs.length - k) 0
theorem mixI_len {xs : List Int} {k : Nat} (hk : k ≤ xs.length) : (mixI xs k).length = xs.length := by
  simp only [mixI, List.length_append, List.length_take, List.length_replicate]; omega
theorem mixI_zero (xs : List Int) : mixI xs 0 = List.replicate xs.length 0 := by simp [mixI]
theorem mixI_end {xs : List Int} {k : Nat} (h : xs.length ≤ k) : mixI xs k = xs := by
  rw [mixI, List.take_of_length_le h, show xs.length - k = 0 by omega]; simp
theorem mixI_set {xs : List Int} {k : Nat} (hk : k < xs.length) : (mixI xs k).set k (xs.getD k 0) = mixI xs (k + 1) := by
  have h1 : (xs.take k).length = k := by rw [List.length_take]; omega
  have h2 : xs.length - k = (xs.length - (k + 1)) + 1 := by omega
  unfold mixI
  rw [h2, List.replicate_succ, List.set_append_right _ _ (by omega), h1, Nat.sub_self, List.set_cons_zero, List.take_succ_eq_append_getElem hk, List.append_assoc]
  simp [hk]
theorem repl_intsT (n : Nat) : List.replicate n [T.v (.int .i64 0)] = intsT (List.replicate n 0) := by simp [intsT]
theorem toIntS_ok (xs : List Int) (hs : xs.length ≤ 1048576) : CallOk Tryd.prog 26 [.one (.ro 1 (intsD xs))] (.s (.one (.own 1 (intsT xs)))) [none] := by
  have hz := mixI_zero xs
  refine callOk_of_hcall 40 (hcall_of_body Tryd.func26 rfl (by kernel_rfl) ?_)
  simp (disch := omega) only [go_sem, Tryd.ntmps26, Tryd.results26]
  repeat' (first
    | (with_reducible refine i_seq ?_)
    | ((with_reducible refine i_block ?_); (try simp (disch := omega) only [go_sem, *]))
    | ((with_reducible refine i_regionQ (fun Q' hQ => ?_)); (try simp (disch := omega) only [go_sem, *]))
    | ((with_reducible refine Imp.go hQ ?_); clear hQ; (try simp (disch := omega) only [go_sem, *]))
    | ((with_reducible refine resOk_g (fun h => ?_) (fun h => ?_)) <;> (try simp only [Bool.not_eq_eq_eq_not, Bool.not_true, Bool.not_false, reduceCtorEq] at h) <;> (try have h' := of_decide_eq_true h) <;> (try (have hz : (_ : Int) = (_ : Int) := h'; clear hz h')) <;> (try have h' := of_decide_eq_false h) <;> (try have h' := inB_t h) <;> (try (exfalso; omega)) <;> (try simp (disch := omega) only [go_sem, *]))
    | (((with_reducible refine i_condT ?_ ?_); (focus (simp only [go_sem, *]; done))) <;> (try simp (disch := omega) only [go_sem, *]))
    | (((with_reducible refine i_condF ?_ ?_); (focus (simp only [go_sem, *]; done))) <;> (try simp (disch := omega) only [go_sem, *]))
    | ((with_reducible refine i_cond (by simp only [go_sem, *] <;> rfl) (fun h => ?_) (fun h => ?_)) <;> (try simp only [Bool.not_eq_eq_eq_not, Bool.not_true, Bool.not_false, reduceCtorEq] at h) <;> (try have h' := of_decide_eq_true h) <;> (try (have hz : (_ : Int) = (_ : Int) := h'; clear hz h')) <;> (try have h' := of_decide_eq_false h) <;> (try have h' := inB_t h) <;> (try (exfalso; omega)) <;> (try simp (disch := omega) only [go_sem, *])))
  all_goals (try simp (disch := omega) only [EndK, go_sem, natLe_ok, *])
  refine i_loop (α := {k : Nat // k ≤ xs.length}) (fun k => ⟨mkEnv 22 [(0, .one (.ro 1 (intsD xs))), (3, .one (.ref 0 0 xs.length)), (4, .one (iV k.1))], [.live 1 (intsT (mixI xs k.1))]⟩) (fun k => xs.length - k.1) ⟨0, by omega⟩ ?_ ?_
  · first | (refine weak_canon [0, 3, 4] [0] ?_ ?_ ?_ <;> (simp (disch := omega) only [go_sem, hz, repl_intsT]; done)) | (refine weak_canon [0, 3, 4] [0] ?_ ?_ ?_ <;> (try (simp (disch := omega) only [go_sem, hz, repl_intsT])) <;> trace_state)
  rintro ⟨k, hk⟩
  have hml := mixI_len hk
  simp (disch := omega) only [go_sem]
  repeat' (first
    | (with_reducible refine i_seq ?_)
    | ((with_reducible refine i_block ?_); (try simp (disch := omega) only [go_sem, *]))
    | ((with_reducible refine i_regionQ (fun Q' hQ => ?_)); (try simp (disch := omega) only [go_sem, *]))
    | ((with_reducible refine Imp.go hQ ?_); clear hQ; (try simp (disch := omega) only [go_sem, *]))
    | ((with_reducible refine resOk_g (fun h => ?_) (fun h => ?_)) <;> (try simp only [Bool.not_eq_eq_eq_not, Bool.not_true, Bool.not_false, reduceCtorEq] at h) <;> (try have h' := of_decide_eq_true h) <;> (try (have hz : (_ : Int) = (_ : Int) := h'; clear hz h')) <;> (try have h' := of_decide_eq_false h) <;> (try have h' := inB_t h) <;> (try (exfalso; omega)) <;> (try simp (disch := omega) only [go_sem, *]))
    | (((with_reducible refine i_condT ?_ ?_); (focus (simp only [go_sem, *]; done))) <;> (try simp (disch := omega) only [go_sem, *]))
    | (((with_reducible refine i_condF ?_ ?_); (focus (simp only [go_sem, *]; done))) <;> (try simp (disch := omega) only [go_sem, *]))
    | ((with_reducible refine i_cond (by simp only [go_sem, *] <;> rfl) (fun h => ?_) (fun h => ?_)) <;> (try simp only [Bool.not_eq_eq_eq_not, Bool.not_true, Bool.not_false, reduceCtorEq] at h) <;> (try have h' := of_decide_eq_true h) <;> (try (have hz : (_ : Int) = (_ : Int) := h'; clear hz h')) <;> (try have h' := of_decide_eq_false h) <;> (try have h' := inB_t h) <;> (try (exfalso; omega)) <;> (try simp (disch := omega) only [go_sem, *])))
  all_goals (try simp (disch := omega) only [EndK, go_sem, natLe_ok, *])
  all_goals by_cases hkl : k < xs.length
  all_goals (try (exfalso; omega))
  · have e := mixI_set hkl
    refine ⟨⟨k + 1, by omega⟩, ?_, by simp only; omega⟩
    first | (refine weak_canon [0, 3, 4] [0] ?_ ?_ ?_ <;> (simp (disch := omega) only [go_sem, e]; done)) | trace_state
  all_goals rw [mixI_end (by omega), List.take_length]
theorem eqIntS_ok (xs : List Int) (hs : xs.length ≤ 1048576) : CallOk Tryd.prog 27 [.one (.ro 1 (intsD xs)), .one (.ro 1 (intsD xs))] (.s (.one (bV true))) [none, none] := by
  refine callOk_of_hcall 40 (hcall_of_body Tryd.func27 rfl (by kernel_rfl) ?_)
  simp (disch := omega) only [go_sem, Tryd.ntmps27, Tryd.results27]
  repeat' (first
    | (with_reducible refine i_seq ?_)
    | ((with_reducible refine i_block ?_); (try simp (disch := omega) only [go_sem, bne_self_eq_false, *]))
    | ((with_reducible refine i_regionQ (fun Q' hQ => ?_)); (try simp (disch := omega) only [go_sem, bne_self_eq_false, *]))
    | ((with_reducible refine Imp.go hQ ?_); clear hQ; (try simp (disch := omega) only [go_sem, bne_self_eq_false, *]))
    | ((with_reducible refine resOk_g (fun h => ?_) (fun h => ?_)) <;> (try simp only [Bool.not_eq_eq_eq_not, Bool.not_true, Bool.not_false, reduceCtorEq] at h) <;> (try have h' := of_decide_eq_true h) <;> (try (have hz : (_ : Int) = (_ : Int) := h'; clear hz h')) <;> (try have h' := of_decide_eq_false h) <;> (try have h' := inB_t h) <;> (try (exfalso; omega)) <;> (try simp (disch := omega) only [go_sem, bne_self_eq_false, *]))
    | (((with_reducible refine i_condT ?_ ?_); (focus (simp only [go_sem, *]; done))) <;> (try simp (disch := omega) only [go_sem, bne_self_eq_false, *]))
    | (((with_reducible refine i_condF ?_ ?_); (focus (simp only [go_sem, *]; done))) <;> (try simp (disch := omega) only [go_sem, bne_self_eq_false, *]))
    | ((with_reducible refine i_cond (by simp only [go_sem, *] <;> rfl) (fun h => ?_) (fun h => ?_)) <;> (try simp only [Bool.not_eq_eq_eq_not, Bool.not_true, Bool.not_false, reduceCtorEq] at h) <;> (try have h' := of_decide_eq_true h) <;> (try (have hz : (_ : Int) = (_ : Int) := h'; clear hz h')) <;> (try have h' := of_decide_eq_false h) <;> (try have h' := inB_t h) <;> (try (exfalso; omega)) <;> (try simp (disch := omega) only [go_sem, bne_self_eq_false, *]))
    | (with_reducible refine i_treeQ (id := 6) (.fr [0, 1, 2, 3, 4, 5, 6, 7, 8] (.stop)) mixedT (by kernel_rfl) (fun Q' hQ => ?_))
    | (with_reducible exact tr_none)
    | (with_reducible refine tr_stop ?_)
    | ((with_reducible refine tr_fr ?_); (try simp (disch := omega) only [go_sem, bne_self_eq_false, *]))
    | ((with_reducible refine tr_op (aL_run ?_)); (try simp (disch := omega) only [go_sem, bne_self_eq_false, *]))
    | ((with_reducible refine tr_alt (by kernel_rfl) (aL_run ?_) ?_) <;> (try simp (disch := omega) only [go_sem, bne_self_eq_false, *]))
    | ((with_reducible refine tr_altp ?_ ?_) <;> (try simp (disch := omega) only [go_sem, bne_self_eq_false, *]))
    | ((with_reducible refine pG_split (fun h => ?_) (fun h => ?_)) <;> (try simp only [Bool.not_eq_eq_eq_not, Bool.not_true, Bool.not_false, reduceCtorEq] at h) <;> (try have h' := of_decide_eq_true h) <;> (try (have hz : (_ : Int) = (_ : Int) := h'; clear hz h')) <;> (try have h' := of_decide_eq_false h) <;> (try have h' := inB_t h) <;> (try (exfalso; omega)) <;> (try simp (disch := omega) only [go_sem, bne_self_eq_false, *])))
  all_goals (try simp (disch := omega) only [EndK, go_sem, bne_self_eq_false, natLe_ok, *])
  refine i_loop (α := {k : Nat // k ≤ xs.length}) (fun k => ⟨mkEnv 26 [(0, .one (.ro 1 (intsD xs))), (1, .one (.ro 1 (intsD xs))), (5, .one (iV k.1))], []⟩) (fun k => xs.length - k.1) ⟨0, by omega⟩ ?_ ?_
  · (refine weak_canon [0, 1, 5] [] ?_ ?_ ?_ <;> (simp (disch := omega) only [go_sem]; done))
  rintro ⟨k, hk⟩
  simp (disch := omega) only [go_sem]
  repeat' (first
    | (with_reducible refine i_seq ?_)
    | ((with_reducible refine i_block ?_); (try simp (disch := omega) only [go_sem, bne_self_eq_false, *]))
    | ((with_reducible refine i_regionQ (fun Q' hQ => ?_)); (try simp (disch := omega) only [go_sem, bne_self_eq_false, *]))
    | ((with_reducible refine Imp.go hQ ?_); clear hQ; (try simp (disch := omega) only [go_sem, bne_self_eq_false, *]))
    | ((with_reducible refine resOk_g (fun h => ?_) (fun h => ?_)) <;> (try simp only [Bool.not_eq_eq_eq_not, Bool.not_true, Bool.not_false, reduceCtorEq] at h) <;> (try have h' := of_decide_eq_true h) <;> (try (have hz : (_ : Int) = (_ : Int) := h'; clear hz h')) <;> (try have h' := of_decide_eq_false h) <;> (try have h' := inB_t h) <;> (try (exfalso; omega)) <;> (try simp (disch := omega) only [go_sem, bne_self_eq_false, *]))
    | (((with_reducible refine i_condT ?_ ?_); (focus (simp only [go_sem, *]; done))) <;> (try simp (disch := omega) only [go_sem, bne_self_eq_false, *]))
    | (((with_reducible refine i_condF ?_ ?_); (focus (simp only [go_sem, *]; done))) <;> (try simp (disch := omega) only [go_sem, bne_self_eq_false, *]))
    | ((with_reducible refine i_cond (by simp only [go_sem, *] <;> rfl) (fun h => ?_) (fun h => ?_)) <;> (try simp only [Bool.not_eq_eq_eq_not, Bool.not_true, Bool.not_false, reduceCtorEq] at h) <;> (try have h' := of_decide_eq_true h) <;> (try (have hz : (_ : Int) = (_ : Int) := h'; clear hz h')) <;> (try have h' := of_decide_eq_false h) <;> (try have h' := inB_t h) <;> (try (exfalso; omega)) <;> (try simp (disch := omega) only [go_sem, bne_self_eq_false, *]))
    | (with_reducible refine i_treeQ (id := 6) (.fr [0, 1, 2, 3, 4, 5, 6, 7, 8] (.stop)) mixedT (by kernel_rfl) (fun Q' hQ => ?_))
    | (with_reducible exact tr_none)
    | (with_reducible refine tr_stop ?_)
    | ((with_reducible refine tr_fr ?_); (try simp (disch := omega) only [go_sem, bne_self_eq_false, *]))
    | ((with_reducible refine tr_op (aL_run ?_)); (try simp (disch := omega) only [go_sem, bne_self_eq_false, *]))
    | ((with_reducible refine tr_alt (by kernel_rfl) (aL_run ?_) ?_) <;> (try simp (disch := omega) only [go_sem, bne_self_eq_false, *]))
    | ((with_reducible refine tr_altp ?_ ?_) <;> (try simp (disch := omega) only [go_sem, bne_self_eq_false, *]))
    | ((with_reducible refine pG_split (fun h => ?_) (fun h => ?_)) <;> (try simp only [Bool.not_eq_eq_eq_not, Bool.not_true, Bool.not_false, reduceCtorEq] at h) <;> (try have h' := of_decide_eq_true h) <;> (try (have hz : (_ : Int) = (_ : Int) := h'; clear hz h')) <;> (try have h' := of_decide_eq_false h) <;> (try have h' := inB_t h) <;> (try (exfalso; omega)) <;> (try simp (disch := omega) only [go_sem, bne_self_eq_false, *])))
  all_goals (try simp (disch := omega) only [EndK, go_sem, bne_self_eq_false, natLe_ok, *])
  refine ⟨⟨k + 1, by omega⟩, ?_, by simp only; omega⟩
  (refine weak_canon [0, 1, 5] [] ?_ ?_ ?_ <;> (simp (disch := omega) only [go_sem]; done))
/-! ### What a run tells -/
structure Outcome where
  fault : Int
  code : Int
  verdict : Int
  prints : List Int
  events : Int
def outT (x : Outcome) : List T := [iV x.fault, iV x.code, iV x.verdict, .own 1 (intsT x.prints), iV x.events]
def outR (x : Outcome) : List T := [iV x.fault, iV x.code, iV x.verdict, .ro 1 (intsD x.prints), iV x.events]
attribute [go_sem] outT outR
theorem szOutcome_ok (x : Outcome) (left : Int) (h : 0 ≤ left ∧ left ≤ 1048576) (hs : x.prints.length ≤ 9223372036854775807) : CallE Tryd.prog 9 [.agg (outR x), .one (iV left)] (fun r : Int => .s (.one (iV r))) (fun _ => [none, none]) (fun r => -1 ≤ r ∧ r ≤ left ∧ (0 ≤ r → x.prints.length ≤ 1048576)) := by
  refine callE_of_hcall 40 (hcall_of_body Tryd.func9 rfl (by kernel_rfl) ?_)
  simp (disch := omega) only [go_sem, Tryd.ntmps9, Tryd.results9]
  repeat' (first
    | (with_reducible refine i_seq ?_)
    | ((with_reducible refine i_block ?_); (try simp (disch := omega) only [go_sem, *]))
    | ((with_reducible refine i_regionQ (fun Q' hQ => ?_)); (try simp (disch := omega) only [go_sem, *]))
    | ((with_reducible refine Imp.go hQ ?_); clear hQ; (try simp (disch := omega) only [go_sem, *]))
    | ((with_reducible refine resOk_g (fun h => ?_) (fun h => ?_)) <;> (try simp only [Bool.not_eq_eq_eq_not, Bool.not_true, Bool.not_false, reduceCtorEq] at h) <;> (try have h' := of_decide_eq_true h) <;> (try (have hz : (_ : Int) = (_ : Int) := h'; clear hz h')) <;> (try have h' := of_decide_eq_false h) <;> (try have h' := inB_t h) <;> (try (exfalso; omega)) <;> (try simp (disch := omega) only [go_sem, *]))
    | (((with_reducible refine i_condT ?_ ?_); (focus (simp only [go_sem, *]; done))) <;> (try simp (disch := omega) only [go_sem, *]))
    | (((with_reducible refine i_condF ?_ ?_); (focus (simp only [go_sem, *]; done))) <;> (try simp (disch := omega) only [go_sem, *]))
    | ((with_reducible refine i_cond (by simp only [go_sem, *] <;> rfl) (fun h => ?_) (fun h => ?_)) <;> (try simp only [Bool.not_eq_eq_eq_not, Bool.not_true, Bool.not_false, reduceCtorEq] at h) <;> (try have h' := of_decide_eq_true h) <;> (try (have hz : (_ : Int) = (_ : Int) := h'; clear hz h')) <;> (try have h' := of_decide_eq_false h) <;> (try have h' := inB_t h) <;> (try (exfalso; omega)) <;> (try simp (disch := omega) only [go_sem, *]))
    | ((with_reducible refine hcall_of_callE 40 true (szIntS_ok x.prints left h hs) ?_ ?_ ?_ ?_ ?_); (focus (simp (disch := omega) only [go_sem, natLe_ok]; done)); (focus (simp (disch := omega) only [go_sem, natLe_ok]; done)); (focus (rintro r ⟨hr1, hr2, hr3⟩; (try dsimp only at hr1); (try dsimp only at hr2); (try dsimp only at hr3); (try simp (disch := omega) only [go_sem, natLe_ok]); done)); (focus (rintro r ⟨hr1, hr2, hr3⟩; (try dsimp only at hr1); (try dsimp only at hr2); (try dsimp only at hr3); (try simp (disch := omega) only [go_sem, natLe_ok]); done)); rintro r ⟨hr1, hr2, hr3⟩; (try dsimp only at hr1); (try dsimp only at hr2); (try dsimp only at hr3); simp only [go_sem]; refine aL_run ?_; (try simp (disch := omega) only [go_sem, *])))
  all_goals (try simp (disch := omega) only [EndK, go_sem, natLe_ok, *])
  · exact ⟨-1, ⟨by omega, by omega, fun h => by first | trivial | omega⟩, rfl⟩
  · exact ⟨r, ⟨hr1, hr2, fun h => by first | trivial | exact hr3 h⟩, rfl⟩
theorem toOutcome_ok (x : Outcome) (hs : x.prints.length ≤ 1048576) : CallOk Tryd.prog 11 [.agg (outR x)] (.s (.agg (outT x))) [none] := by
  refine callOk_of_hcall 40 (hcall_of_body Tryd.func11 rfl (by kernel_rfl) ?_)
  simp (disch := omega) only [go_sem, Tryd.ntmps11, Tryd.results11]
  repeat' (first
    | (with_reducible refine i_seq ?_)
    | ((with_reducible refine i_block ?_); (try simp (disch := omega) only [go_sem, *]))
    | ((with_reducible refine i_regionQ (fun Q' hQ => ?_)); (try simp (disch := omega) only [go_sem, *]))
    | ((with_reducible refine Imp.go hQ ?_); clear hQ; (try simp (disch := omega) only [go_sem, *]))
    | ((with_reducible refine resOk_g (fun h => ?_) (fun h => ?_)) <;> (try simp only [Bool.not_eq_eq_eq_not, Bool.not_true, Bool.not_false, reduceCtorEq] at h) <;> (try have h' := of_decide_eq_true h) <;> (try (have hz : (_ : Int) = (_ : Int) := h'; clear hz h')) <;> (try have h' := of_decide_eq_false h) <;> (try have h' := inB_t h) <;> (try (exfalso; omega)) <;> (try simp (disch := omega) only [go_sem, *]))
    | (((with_reducible refine i_condT ?_ ?_); (focus (simp only [go_sem, *]; done))) <;> (try simp (disch := omega) only [go_sem, *]))
    | (((with_reducible refine i_condF ?_ ?_); (focus (simp only [go_sem, *]; done))) <;> (try simp (disch := omega) only [go_sem, *]))
    | ((with_reducible refine i_cond (by simp only [go_sem, *] <;> rfl) (fun h => ?_) (fun h => ?_)) <;> (try simp only [Bool.not_eq_eq_eq_not, Bool.not_true, Bool.not_false, reduceCtorEq] at h) <;> (try have h' := of_decide_eq_true h) <;> (try (have hz : (_ : Int) = (_ : Int) := h'; clear hz h')) <;> (try have h' := of_decide_eq_false h) <;> (try have h' := inB_t h) <;> (try (exfalso; omega)) <;> (try simp (disch := omega) only [go_sem, *]))
    | ((with_reducible refine hcall_of_callOk 40 true (toIntS_ok x.prints hs) ?_ ?_ ?_ ?_ ?_); (focus (simp (disch := omega) only [go_sem, natLe_ok]; done)); (focus (simp (disch := omega) only [go_sem, natLe_ok]; done)); (focus (simp (disch := omega) only [go_sem, natLe_ok]; done)); (focus (simp (disch := omega) only [go_sem, natLe_ok]; done)); simp only [go_sem]; refine aL_run ?_; (try simp (disch := omega) only [go_sem, *])))
  all_goals (try simp (disch := omega) only [EndK, go_sem, natLe_ok, *])
theorem eqOutcome_ok (x : Outcome) (hs : x.prints.length ≤ 1048576) : CallOk Tryd.prog 13 [.agg (outR x), .agg (outR x)] (.s (.one (bV true))) [none, none] := by
  refine callOk_of_hcall 40 (hcall_of_body Tryd.func13 rfl (by kernel_rfl) ?_)
  simp (disch := omega) only [go_sem, Tryd.ntmps13, Tryd.results13]
  repeat' (first
    | (with_reducible refine i_seq ?_)
    | ((with_reducible refine i_block ?_); (try simp (disch := omega) only [go_sem, bne_self_eq_false, *]))
    | ((with_reducible refine i_regionQ (fun Q' hQ => ?_)); (try simp (disch := omega) only [go_sem, bne_self_eq_false, *]))
    | ((with_reducible refine Imp.go hQ ?_); clear hQ; (try simp (disch := omega) only [go_sem, bne_self_eq_false, *]))
    | ((with_reducible refine resOk_g (fun h => ?_) (fun h => ?_)) <;> (try simp only [Bool.not_eq_eq_eq_not, Bool.not_true, Bool.not_false, reduceCtorEq] at h) <;> (try have h' := of_decide_eq_true h) <;> (try (have hz : (_ : Int) = (_ : Int) := h'; clear hz h')) <;> (try have h' := of_decide_eq_false h) <;> (try have h' := inB_t h) <;> (try (exfalso; omega)) <;> (try simp (disch := omega) only [go_sem, bne_self_eq_false, *]))
    | (((with_reducible refine i_condT ?_ ?_); (focus (simp only [go_sem, *]; done))) <;> (try simp (disch := omega) only [go_sem, bne_self_eq_false, *]))
    | (((with_reducible refine i_condF ?_ ?_); (focus (simp only [go_sem, *]; done))) <;> (try simp (disch := omega) only [go_sem, bne_self_eq_false, *]))
    | ((with_reducible refine i_cond (by simp only [go_sem, *] <;> rfl) (fun h => ?_) (fun h => ?_)) <;> (try simp only [Bool.not_eq_eq_eq_not, Bool.not_true, Bool.not_false, reduceCtorEq] at h) <;> (try have h' := of_decide_eq_true h) <;> (try (have hz : (_ : Int) = (_ : Int) := h'; clear hz h')) <;> (try have h' := of_decide_eq_false h) <;> (try have h' := inB_t h) <;> (try (exfalso; omega)) <;> (try simp (disch := omega) only [go_sem, bne_self_eq_false, *]))
    | ((with_reducible refine hcall_of_callOk 40 true (eqIntS_ok x.prints hs) ?_ ?_ ?_ ?_ ?_); (focus (simp (disch := omega) only [go_sem, bne_self_eq_false, natLe_ok]; done)); (focus (simp (disch := omega) only [go_sem, bne_self_eq_false, natLe_ok]; done)); (focus (simp (disch := omega) only [go_sem, bne_self_eq_false, natLe_ok]; done)); (focus (simp (disch := omega) only [go_sem, bne_self_eq_false, natLe_ok]; done)); simp only [go_sem, bne_self_eq_false]; refine aL_run ?_; (try simp (disch := omega) only [go_sem, bne_self_eq_false, *])))
  all_goals (try simp (disch := omega) only [EndK, go_sem, bne_self_eq_false, natLe_ok, *])
/-! ### An outcome shown -/
def sumB : List Int → ByteArray
  | [] => ⟨#[]⟩
  | x :: xs => ((⟨#[32]⟩ : ByteArray) ++ numB x) ++ sumB xs
theorem bnil (x : ByteArray) : x ++ (⟨#[]⟩ : ByteArray) = x := by
  apply ByteArray.ext; simp
theorem sumB_app (xs ys : List Int) : sumB (xs ++ ys) = sumB xs ++ sumB ys := by
  induction xs with
  | nil => apply ByteArray.ext; simp [sumB]
  | cons x xs ih => simp only [List.cons_append, sumB, ih, ByteArray.append_assoc]
theorem sumB_one (x : Int) : sumB [x] = (⟨#[32]⟩ : ByteArray) ++ numB x := by simp only [sumB, bnil]
theorem sumB_len {xs : List Int} (h : ∀ x ∈ xs, i64 x) : (sumB xs).size ≤ 21 * xs.length := by
  induction xs with
  | nil => simp [sumB, size_mk]
  | cons x xs ih =>
    have h1 := numB_len (h x (by simp))
    have h2 := ih fun y hy => h y (by simp [hy])
    simp only [sumB, size_app, size_mk, List.size_toArray, List.length_cons, List.length_nil]
    omega
def preB (x : Outcome) : ByteArray := numB x.fault ++ ⟨#[32]⟩ ++ numB x.code ++ ⟨#[32]⟩ ++ numB x.verdict ++ ⟨#[32]⟩ ++ numB x.events
def outB (x : Outcome) : ByteArray := preB x ++ sumB x.prints ++ ⟨#[10]⟩
def outOk (x : Outcome) : Prop := i64 x.fault ∧ i64 x.code ∧ i64 x.verdict ∧ (∀ y ∈ x.prints, i64 y) ∧ i64 x.events
theorem take_one {xs : List Int} {k : Nat} (hk : k < xs.length) : xs.take (k + 1) = xs.take k ++ [xs.getD k 0] := by
  rw [List.take_succ_eq_append_getElem hk]; simp [hk]
theorem outB_step {x : Outcome} {k : Nat} (hk : k < x.prints.length) : preB x ++ sumB (x.prints.take (k + 1)) = preB x ++ sumB (x.prints.take k) ++ ((⟨#[32]⟩ : ByteArray) ++ numB (x.prints.getD k 0)) := by
  rw [take_one hk, sumB_app, sumB_one, ByteArray.append_assoc]
theorem mem_getD {xs : List Int} {k : Nat} (hk : k < xs.length) : xs.getD k 0 ∈ xs := by simp [hk]
theorem sShowOutcome_ok (x : Outcome) (hx : outOk x) (hs : x.prints.length ≤ 1048576) : CallOk Tryd.prog 10 [.agg (outR x)] (.s (.one (sV (outB x)))) [none] := by
  obtain ⟨h1, h2, h3, h4, h5⟩ := hx
  have l1 := numB_len h1
  have l2 := numB_len h2
  have l3 := numB_len h3
  have l5 := numB_len h5
  have lp : (preB x).size ≤ 84 := by simp only [preB, size_app, size_mk, List.size_toArray, List.length_cons, List.length_nil]; omega
  have ls : ∀ k, (sumB (x.prints.take k)).size ≤ 21 * 1048576 := fun k => by
    have := sumB_len (xs := x.prints.take k) fun y hy => h4 y (List.mem_of_mem_take hy)
    rw [List.length_take] at this; omega
  refine callOk_of_hcall 40 (hcall_of_body Tryd.func10 rfl (by kernel_rfl) ?_)
  simp (disch := omega) only [go_sem, Tryd.ntmps10, Tryd.results10]
  repeat' (first
    | (with_reducible refine i_seq ?_)
    | ((with_reducible refine i_block ?_); (try simp (disch := first | omega | (simp only [size_app, size_mk, List.size_toArray, List.length_cons, List.length_nil]; omega)) only [go_sem, *]))
    | ((with_reducible refine i_regionQ (fun Q' hQ => ?_)); (try simp (disch := first | omega | (simp only [size_app, size_mk, List.size_toArray, List.length_cons, List.length_nil]; omega)) only [go_sem, *]))
    | ((with_reducible refine Imp.go hQ ?_); clear hQ; (try simp (disch := first | omega | (simp only [size_app, size_mk, List.size_toArray, List.length_cons, List.length_nil]; omega)) only [go_sem, *]))
    | ((with_reducible refine resOk_g (fun h => ?_) (fun h => ?_)) <;> (try simp only [Bool.not_eq_eq_eq_not, Bool.not_true, Bool.not_false, reduceCtorEq] at h) <;> (try have h' := of_decide_eq_true h) <;> (try (have hz : (_ : Int) = (_ : Int) := h'; clear hz h')) <;> (try have h' := of_decide_eq_false h) <;> (try have h' := inB_t h) <;> (try (exfalso; omega)) <;> (try simp (disch := first | omega | (simp only [size_app, size_mk, List.size_toArray, List.length_cons, List.length_nil]; omega)) only [go_sem, *]))
    | (((with_reducible refine i_condT ?_ ?_); (focus (simp only [go_sem, *]; done))) <;> (try simp (disch := first | omega | (simp only [size_app, size_mk, List.size_toArray, List.length_cons, List.length_nil]; omega)) only [go_sem, *]))
    | (((with_reducible refine i_condF ?_ ?_); (focus (simp only [go_sem, *]; done))) <;> (try simp (disch := first | omega | (simp only [size_app, size_mk, List.size_toArray, List.length_cons, List.length_nil]; omega)) only [go_sem, *]))
    | ((with_reducible refine i_cond (by simp only [go_sem, *] <;> rfl) (fun h => ?_) (fun h => ?_)) <;> (try simp only [Bool.not_eq_eq_eq_not, Bool.not_true, Bool.not_false, reduceCtorEq] at h) <;> (try have h' := of_decide_eq_true h) <;> (try (have hz : (_ : Int) = (_ : Int) := h'; clear hz h')) <;> (try have h' := of_decide_eq_false h) <;> (try have h' := inB_t h) <;> (try (exfalso; omega)) <;> (try simp (disch := first | omega | (simp only [size_app, size_mk, List.size_toArray, List.length_cons, List.length_nil]; omega)) only [go_sem, *]))
    | (with_reducible refine i_th (id := 1) (.ho [0, 1, 4, 5, 9, 10, 14, 15] (opm 2 [15, 10, 5] [true, true, true, false] (.ho [3] (opm 6 [15, 10] [true, true, false] (.ho [7, 8] (opm 11 [15] [true, false] (.ho [12, 13] (opm 16 [] [false] (.ho [17, 18] (.stop)))))))))) mixedT (by kernel_rfl) (fun Q' hQ => ?_))
    | (with_reducible exact th_none)
    | ((with_reducible refine th_stop ?_ ?_) <;> (try simp (disch := first | omega | (simp only [size_app, size_mk, List.size_toArray, List.length_cons, List.length_nil]; omega)) only [go_sem, *]))
    | ((with_reducible refine th_ho ?_); (try simp (disch := first | omega | (simp only [size_app, size_mk, List.size_toArray, List.length_cons, List.length_nil]; omega)) only [go_sem, *]))
    | ((with_reducible refine th_opm ?_ (by kernel_rfl) (aL_run ?_)) <;> (try simp (disch := first | omega | (simp only [size_app, size_mk, List.size_toArray, List.length_cons, List.length_nil]; omega)) only [go_sem, *]))
    | ((with_reducible refine th_altm ?_ (by kernel_rfl) (aL_run ?_) ?_) <;> (try simp (disch := first | omega | (simp only [size_app, size_mk, List.size_toArray, List.length_cons, List.length_nil]; omega)) only [go_sem, *]))
    | ((with_reducible refine hcall_of_callOk 40 true (sNum_ok x.fault h1) ?_ ?_ ?_ ?_ ?_); (focus (simp (disch := omega) only [go_sem, natLe_ok]; done)); (focus (simp (disch := omega) only [go_sem, natLe_ok]; done)); (focus (simp (disch := omega) only [go_sem, natLe_ok]; done)); (focus (simp (disch := omega) only [go_sem, natLe_ok]; done)); simp only [go_sem]; refine aL_run ?_; (try simp (disch := first | omega | (simp only [size_app, size_mk, List.size_toArray, List.length_cons, List.length_nil]; omega)) only [go_sem, *]))
    | ((with_reducible refine hcall_of_callOk 40 true (sNum_ok x.code h2) ?_ ?_ ?_ ?_ ?_); (focus (simp (disch := omega) only [go_sem, natLe_ok]; done)); (focus (simp (disch := omega) only [go_sem, natLe_ok]; done)); (focus (simp (disch := omega) only [go_sem, natLe_ok]; done)); (focus (simp (disch := omega) only [go_sem, natLe_ok]; done)); simp only [go_sem]; refine aL_run ?_; (try simp (disch := first | omega | (simp only [size_app, size_mk, List.size_toArray, List.length_cons, List.length_nil]; omega)) only [go_sem, *]))
    | ((with_reducible refine hcall_of_callOk 40 true (sNum_ok x.verdict h3) ?_ ?_ ?_ ?_ ?_); (focus (simp (disch := omega) only [go_sem, natLe_ok]; done)); (focus (simp (disch := omega) only [go_sem, natLe_ok]; done)); (focus (simp (disch := omega) only [go_sem, natLe_ok]; done)); (focus (simp (disch := omega) only [go_sem, natLe_ok]; done)); simp only [go_sem]; refine aL_run ?_; (try simp (disch := first | omega | (simp only [size_app, size_mk, List.size_toArray, List.length_cons, List.length_nil]; omega)) only [go_sem, *]))
    | ((with_reducible refine hcall_of_callOk 40 true (sNum_ok x.events h5) ?_ ?_ ?_ ?_ ?_); (focus (simp (disch := omega) only [go_sem, natLe_ok]; done)); (focus (simp (disch := omega) only [go_sem, natLe_ok]; done)); (focus (simp (disch := omega) only [go_sem, natLe_ok]; done)); (focus (simp (disch := omega) only [go_sem, natLe_ok]; done)); simp only [go_sem]; refine aL_run ?_; (try simp (disch := first | omega | (simp only [size_app, size_mk, List.size_toArray, List.length_cons, List.length_nil]; omega)) only [go_sem, *])))
  all_goals (try simp (disch := omega) only [EndK, go_sem, natLe_ok, *])
  refine i_loop (α := {k : Nat // k ≤ x.prints.length}) (fun k => ⟨mkEnv 41 [(1, .one (.ptr 0 0 0)), (3, .one (sV (preB x ++ sumB (x.prints.take k.1)))), (4, .one (iV k.1))], [.live 5 [outR x]]⟩) (fun k => x.prints.length - k.1) ⟨0, by omega⟩ ?_ ?_
  · first | (refine weak_canon [1, 3, 4] [0] ?_ ?_ ?_ <;> (simp (disch := omega) only [go_sem, preB, List.take_zero, sumB, bnil]; done)) | trace_state
  rintro ⟨k, hk⟩
  have lk := ls k
  clear ls
  simp (disch := omega) only [go_sem]
  by_cases hkl : k < x.prints.length
  · have hn := h4 _ (mem_getD hkl)
    have ln := numB_len hn
    have e := outB_step hkl
    have ea : ∀ a b c : ByteArray, a ++ b ++ c = a ++ (b ++ c) := fun a b c => ByteArray.append_assoc
    generalize hp : preB x = p at *
    generalize hq : sumB (x.prints.take k) = q at *
    repeat' (first
      | (with_reducible refine i_seq ?_)
      | ((with_reducible refine i_block ?_); (try simp (disch := first | omega | (simp only [size_app, size_mk, List.size_toArray, List.length_cons, List.length_nil]; omega)) only [go_sem, *]))
      | ((with_reducible refine i_regionQ (fun Q' hQ => ?_)); (try simp (disch := first | omega | (simp only [size_app, size_mk, List.size_toArray, List.length_cons, List.length_nil]; omega)) only [go_sem, *]))
      | ((with_reducible refine Imp.go hQ ?_); clear hQ; (try simp (disch := first | omega | (simp only [size_app, size_mk, List.size_toArray, List.length_cons, List.length_nil]; omega)) only [go_sem, *]))
      | ((with_reducible refine resOk_g (fun h => ?_) (fun h => ?_)) <;> (try simp only [Bool.not_eq_eq_eq_not, Bool.not_true, Bool.not_false, reduceCtorEq] at h) <;> (try have h' := of_decide_eq_true h) <;> (try (have hz : (_ : Int) = (_ : Int) := h'; clear hz h')) <;> (try have h' := of_decide_eq_false h) <;> (try have h' := inB_t h) <;> (try (exfalso; omega)) <;> (try simp (disch := first | omega | (simp only [size_app, size_mk, List.size_toArray, List.length_cons, List.length_nil]; omega)) only [go_sem, *]))
      | (((with_reducible refine i_condT ?_ ?_); (focus (simp only [go_sem, *]; done))) <;> (try simp (disch := first | omega | (simp only [size_app, size_mk, List.size_toArray, List.length_cons, List.length_nil]; omega)) only [go_sem, *]))
      | (((with_reducible refine i_condF ?_ ?_); (focus (simp only [go_sem, *]; done))) <;> (try simp (disch := first | omega | (simp only [size_app, size_mk, List.size_toArray, List.length_cons, List.length_nil]; omega)) only [go_sem, *]))
      | ((with_reducible refine i_cond (by simp only [go_sem, *] <;> rfl) (fun h => ?_) (fun h => ?_)) <;> (try simp only [Bool.not_eq_eq_eq_not, Bool.not_true, Bool.not_false, reduceCtorEq] at h) <;> (try have h' := of_decide_eq_true h) <;> (try (have hz : (_ : Int) = (_ : Int) := h'; clear hz h')) <;> (try have h' := of_decide_eq_false h) <;> (try have h' := inB_t h) <;> (try (exfalso; omega)) <;> (try simp (disch := first | omega | (simp only [size_app, size_mk, List.size_toArray, List.length_cons, List.length_nil]; omega)) only [go_sem, *]))
      | (with_reducible refine i_th (id := 1) (.ho [0, 1, 4, 5, 9, 10, 14, 15] (opm 2 [15, 10, 5] [true, true, true, false] (.ho [3] (opm 6 [15, 10] [true, true, false] (.ho [7, 8] (opm 11 [15] [true, false] (.ho [12, 13] (opm 16 [] [false] (.ho [17, 18] (.stop)))))))))) mixedT (by kernel_rfl) (fun Q' hQ => ?_))
      | (with_reducible exact th_none)
      | ((with_reducible refine th_stop ?_ ?_) <;> (try simp (disch := first | omega | (simp only [size_app, size_mk, List.size_toArray, List.length_cons, List.length_nil]; omega)) only [go_sem, *]))
      | ((with_reducible refine th_ho ?_); (try simp (disch := first | omega | (simp only [size_app, size_mk, List.size_toArray, List.length_cons, List.length_nil]; omega)) only [go_sem, *]))
      | ((with_reducible refine th_opm ?_ (by kernel_rfl) (aL_run ?_)) <;> (try simp (disch := first | omega | (simp only [size_app, size_mk, List.size_toArray, List.length_cons, List.length_nil]; omega)) only [go_sem, *]))
      | ((with_reducible refine th_altm ?_ (by kernel_rfl) (aL_run ?_) ?_) <;> (try simp (disch := first | omega | (simp only [size_app, size_mk, List.size_toArray, List.length_cons, List.length_nil]; omega)) only [go_sem, *]))
      | ((with_reducible refine hcall_of_callOk 40 true (sNum_ok (x.prints.getD k 0) hn) ?_ ?_ ?_ ?_ ?_); (focus (simp (disch := omega) only [go_sem, natLe_ok]; done)); (focus (simp (disch := omega) only [go_sem, natLe_ok]; done)); (focus (simp (disch := omega) only [go_sem, natLe_ok]; done)); (focus (simp (disch := omega) only [go_sem, natLe_ok]; done)); simp only [go_sem]; refine aL_run ?_; (try simp (disch := first | omega | (simp only [size_app, size_mk, List.size_toArray, List.length_cons, List.length_nil]; omega)) only [go_sem, *])))
    all_goals (try simp (disch := omega) only [EndK, go_sem, natLe_ok, *])
    refine ⟨⟨k + 1, by omega⟩, ?_, by simp only; omega⟩
    (refine weak_canon [1, 3, 4] [0] ?_ ?_ ?_ <;> (simp (disch := omega) only [go_sem, e, ea]; done))
  · have e1 : x.prints.take k = x.prints := List.take_of_length_le (by omega)
    rw [e1] at lk ⊢
    have eo : outB x = preB x ++ sumB x.prints ++ ⟨#[10]⟩ := rfl
    generalize preB x = p at *
    generalize sumB x.prints = q at *
    repeat' (first
      | (with_reducible refine i_seq ?_)
      | ((with_reducible refine i_block ?_); (try simp (disch := first | omega | (simp only [size_app, size_mk, List.size_toArray, List.length_cons, List.length_nil]; omega)) only [go_sem, *]))
      | ((with_reducible refine i_regionQ (fun Q' hQ => ?_)); (try simp (disch := first | omega | (simp only [size_app, size_mk, List.size_toArray, List.length_cons, List.length_nil]; omega)) only [go_sem, *]))
      | ((with_reducible refine Imp.go hQ ?_); clear hQ; (try simp (disch := first | omega | (simp only [size_app, size_mk, List.size_toArray, List.length_cons, List.length_nil]; omega)) only [go_sem, *]))
      | ((with_reducible refine resOk_g (fun h => ?_) (fun h => ?_)) <;> (try simp only [Bool.not_eq_eq_eq_not, Bool.not_true, Bool.not_false, reduceCtorEq] at h) <;> (try have h' := of_decide_eq_true h) <;> (try (have hz : (_ : Int) = (_ : Int) := h'; clear hz h')) <;> (try have h' := of_decide_eq_false h) <;> (try have h' := inB_t h) <;> (try (exfalso; omega)) <;> (try simp (disch := first | omega | (simp only [size_app, size_mk, List.size_toArray, List.length_cons, List.length_nil]; omega)) only [go_sem, *]))
      | (((with_reducible refine i_condT ?_ ?_); (focus (simp only [go_sem, *]; done))) <;> (try simp (disch := first | omega | (simp only [size_app, size_mk, List.size_toArray, List.length_cons, List.length_nil]; omega)) only [go_sem, *]))
      | (((with_reducible refine i_condF ?_ ?_); (focus (simp only [go_sem, *]; done))) <;> (try simp (disch := first | omega | (simp only [size_app, size_mk, List.size_toArray, List.length_cons, List.length_nil]; omega)) only [go_sem, *]))
      | ((with_reducible refine i_cond (by simp only [go_sem, *] <;> rfl) (fun h => ?_) (fun h => ?_)) <;> (try simp only [Bool.not_eq_eq_eq_not, Bool.not_true, Bool.not_false, reduceCtorEq] at h) <;> (try have h' := of_decide_eq_true h) <;> (try (have hz : (_ : Int) = (_ : Int) := h'; clear hz h')) <;> (try have h' := of_decide_eq_false h) <;> (try have h' := inB_t h) <;> (try (exfalso; omega)) <;> (try simp (disch := first | omega | (simp only [size_app, size_mk, List.size_toArray, List.length_cons, List.length_nil]; omega)) only [go_sem, *]))
      | (with_reducible refine i_th (id := 1) (.ho [0, 1, 4, 5, 9, 10, 14, 15] (opm 2 [15, 10, 5] [true, true, true, false] (.ho [3] (opm 6 [15, 10] [true, true, false] (.ho [7, 8] (opm 11 [15] [true, false] (.ho [12, 13] (opm 16 [] [false] (.ho [17, 18] (.stop)))))))))) mixedT (by kernel_rfl) (fun Q' hQ => ?_))
      | (with_reducible exact th_none)
      | ((with_reducible refine th_stop ?_ ?_) <;> (try simp (disch := first | omega | (simp only [size_app, size_mk, List.size_toArray, List.length_cons, List.length_nil]; omega)) only [go_sem, *]))
      | ((with_reducible refine th_ho ?_); (try simp (disch := first | omega | (simp only [size_app, size_mk, List.size_toArray, List.length_cons, List.length_nil]; omega)) only [go_sem, *]))
      | ((with_reducible refine th_opm ?_ (by kernel_rfl) (aL_run ?_)) <;> (try simp (disch := first | omega | (simp only [size_app, size_mk, List.size_toArray, List.length_cons, List.length_nil]; omega)) only [go_sem, *]))
      | ((with_reducible refine th_altm ?_ (by kernel_rfl) (aL_run ?_) ?_) <;> (try simp (disch := first | omega | (simp only [size_app, size_mk, List.size_toArray, List.length_cons, List.length_nil]; omega)) only [go_sem, *])))
    all_goals (try simp (disch := omega) only [EndK, go_sem, natLe_ok, *])
theorem iShowOutcome_ok (x : Outcome) (hx : outOk x) (hs : x.prints.length ≤ 1048576) : CallOk Tryd.prog 12 [.agg (outR x)] (.s (.one (sV (outB x)))) [none] := by
  obtain ⟨h1, h2, h3, h4, h5⟩ := hx
  have l1 := numB_len h1
  have l2 := numB_len h2
  have l3 := numB_len h3
  have l5 := numB_len h5
  have lp : (preB x).size ≤ 84 := by simp only [preB, size_app, size_mk, List.size_toArray, List.length_cons, List.length_nil]; omega
  have ls : ∀ k, (sumB (x.prints.take k)).size ≤ 21 * 1048576 := fun k => by
    have := sumB_len (xs := x.prints.take k) fun y hy => h4 y (List.mem_of_mem_take hy)
    rw [List.length_take] at this; omega
  refine callOk_of_hcall 40 (hcall_of_body Tryd.func12 rfl (by kernel_rfl) ?_)
  simp (disch := omega) only [go_sem, Tryd.ntmps12, Tryd.results12]
  repeat' (first
    | (with_reducible refine i_seq ?_)
    | ((with_reducible refine i_block ?_); (try simp (disch := first | omega | (simp only [size_app, size_mk, List.size_toArray, List.length_cons, List.length_nil]; omega)) only [go_sem, *]))
    | ((with_reducible refine i_regionQ (fun Q' hQ => ?_)); (try simp (disch := first | omega | (simp only [size_app, size_mk, List.size_toArray, List.length_cons, List.length_nil]; omega)) only [go_sem, *]))
    | ((with_reducible refine Imp.go hQ ?_); clear hQ; (try simp (disch := first | omega | (simp only [size_app, size_mk, List.size_toArray, List.length_cons, List.length_nil]; omega)) only [go_sem, *]))
    | ((with_reducible refine resOk_g (fun h => ?_) (fun h => ?_)) <;> (try simp only [Bool.not_eq_eq_eq_not, Bool.not_true, Bool.not_false, reduceCtorEq] at h) <;> (try have h' := of_decide_eq_true h) <;> (try (have hz : (_ : Int) = (_ : Int) := h'; clear hz h')) <;> (try have h' := of_decide_eq_false h) <;> (try have h' := inB_t h) <;> (try (exfalso; omega)) <;> (try simp (disch := first | omega | (simp only [size_app, size_mk, List.size_toArray, List.length_cons, List.length_nil]; omega)) only [go_sem, *]))
    | (((with_reducible refine i_condT ?_ ?_); (focus (simp only [go_sem, *]; done))) <;> (try simp (disch := first | omega | (simp only [size_app, size_mk, List.size_toArray, List.length_cons, List.length_nil]; omega)) only [go_sem, *]))
    | (((with_reducible refine i_condF ?_ ?_); (focus (simp only [go_sem, *]; done))) <;> (try simp (disch := first | omega | (simp only [size_app, size_mk, List.size_toArray, List.length_cons, List.length_nil]; omega)) only [go_sem, *]))
    | ((with_reducible refine i_cond (by simp only [go_sem, *] <;> rfl) (fun h => ?_) (fun h => ?_)) <;> (try simp only [Bool.not_eq_eq_eq_not, Bool.not_true, Bool.not_false, reduceCtorEq] at h) <;> (try have h' := of_decide_eq_true h) <;> (try (have hz : (_ : Int) = (_ : Int) := h'; clear hz h')) <;> (try have h' := of_decide_eq_false h) <;> (try have h' := inB_t h) <;> (try (exfalso; omega)) <;> (try simp (disch := first | omega | (simp only [size_app, size_mk, List.size_toArray, List.length_cons, List.length_nil]; omega)) only [go_sem, *]))
    | (with_reducible refine i_th (id := 1) (.ho [0, 1, 4, 5, 9, 10, 14, 15] (opm 2 [15, 10, 5] [true, true, true, false] (.ho [3] (opm 6 [15, 10] [true, true, false] (.ho [7, 8] (opm 11 [15] [true, false] (.ho [12, 13] (opm 16 [] [false] (.ho [17, 18] (.stop)))))))))) mixedT (by kernel_rfl) (fun Q' hQ => ?_))
    | (with_reducible exact th_none)
    | ((with_reducible refine th_stop ?_ ?_) <;> (try simp (disch := first | omega | (simp only [size_app, size_mk, List.size_toArray, List.length_cons, List.length_nil]; omega)) only [go_sem, *]))
    | ((with_reducible refine th_ho ?_); (try simp (disch := first | omega | (simp only [size_app, size_mk, List.size_toArray, List.length_cons, List.length_nil]; omega)) only [go_sem, *]))
    | ((with_reducible refine th_opm ?_ (by kernel_rfl) (aL_run ?_)) <;> (try simp (disch := first | omega | (simp only [size_app, size_mk, List.size_toArray, List.length_cons, List.length_nil]; omega)) only [go_sem, *]))
    | ((with_reducible refine th_altm ?_ (by kernel_rfl) (aL_run ?_) ?_) <;> (try simp (disch := first | omega | (simp only [size_app, size_mk, List.size_toArray, List.length_cons, List.length_nil]; omega)) only [go_sem, *]))
    | ((with_reducible refine hcall_of_callOk 40 true (shown_ok x.fault h1) ?_ ?_ ?_ ?_ ?_); (focus (simp (disch := omega) only [go_sem, natLe_ok]; done)); (focus (simp (disch := omega) only [go_sem, natLe_ok]; done)); (focus (simp (disch := omega) only [go_sem, natLe_ok]; done)); (focus (simp (disch := omega) only [go_sem, natLe_ok]; done)); simp only [go_sem]; refine aL_run ?_; (try simp (disch := first | omega | (simp only [size_app, size_mk, List.size_toArray, List.length_cons, List.length_nil]; omega)) only [go_sem, *]))
    | ((with_reducible refine hcall_of_callOk 40 true (shown_ok x.code h2) ?_ ?_ ?_ ?_ ?_); (focus (simp (disch := omega) only [go_sem, natLe_ok]; done)); (focus (simp (disch := omega) only [go_sem, natLe_ok]; done)); (focus (simp (disch := omega) only [go_sem, natLe_ok]; done)); (focus (simp (disch := omega) only [go_sem, natLe_ok]; done)); simp only [go_sem]; refine aL_run ?_; (try simp (disch := first | omega | (simp only [size_app, size_mk, List.size_toArray, List.length_cons, List.length_nil]; omega)) only [go_sem, *]))
    | ((with_reducible refine hcall_of_callOk 40 true (shown_ok x.verdict h3) ?_ ?_ ?_ ?_ ?_); (focus (simp (disch := omega) only [go_sem, natLe_ok]; done)); (focus (simp (disch := omega) only [go_sem, natLe_ok]; done)); (focus (simp (disch := omega) only [go_sem, natLe_ok]; done)); (focus (simp (disch := omega) only [go_sem, natLe_ok]; done)); simp only [go_sem]; refine aL_run ?_; (try simp (disch := first | omega | (simp only [size_app, size_mk, List.size_toArray, List.length_cons, List.length_nil]; omega)) only [go_sem, *]))
    | ((with_reducible refine hcall_of_callOk 40 true (shown_ok x.events h5) ?_ ?_ ?_ ?_ ?_); (focus (simp (disch := omega) only [go_sem, natLe_ok]; done)); (focus (simp (disch := omega) only [go_sem, natLe_ok]; done)); (focus (simp (disch := omega) only [go_sem, natLe_ok]; done)); (focus (simp (disch := omega) only [go_sem, natLe_ok]; done)); simp only [go_sem]; refine aL_run ?_; (try simp (disch := first | omega | (simp only [size_app, size_mk, List.size_toArray, List.length_cons, List.length_nil]; omega)) only [go_sem, *])))
  all_goals (try simp (disch := omega) only [EndK, go_sem, natLe_ok, *])
  refine i_loop (α := {k : Nat // k ≤ x.prints.length}) (fun k => ⟨mkEnv 39 [(1, .one (.ptr 0 0 0)), (3, .one (sV (preB x ++ sumB (x.prints.take k.1)))), (25, .one (.ro 1 (intsD x.prints))), (26, .one (iV x.prints.length)), (27, .one (iV k.1))], [.live 5 [outR x]]⟩) (fun k => x.prints.length - k.1) ⟨0, by omega⟩ ?_ ?_
  · first | (refine weak_canon [1, 3, 25, 26, 27] [0] ?_ ?_ ?_ <;> (simp (disch := omega) only [go_sem, preB, List.take_zero, sumB, bnil]; done)) | trace_state
  rintro ⟨k, hk⟩
  have lk := ls k
  clear ls
  simp (disch := omega) only [go_sem]
  by_cases hkl : k < x.prints.length
  · have hn := h4 _ (mem_getD hkl)
    have ln := numB_len hn
    have e := outB_step hkl
    have ea : ∀ a b c : ByteArray, a ++ b ++ c = a ++ (b ++ c) := fun a b c => ByteArray.append_assoc
    generalize hp : preB x = p at *
    generalize hq : sumB (x.prints.take k) = q at *
    repeat' (first
      | (with_reducible refine i_seq ?_)
      | ((with_reducible refine i_block ?_); (try simp (disch := first | omega | (simp only [size_app, size_mk, List.size_toArray, List.length_cons, List.length_nil]; omega)) only [go_sem, *]))
      | ((with_reducible refine i_regionQ (fun Q' hQ => ?_)); (try simp (disch := first | omega | (simp only [size_app, size_mk, List.size_toArray, List.length_cons, List.length_nil]; omega)) only [go_sem, *]))
      | ((with_reducible refine Imp.go hQ ?_); clear hQ; (try simp (disch := first | omega | (simp only [size_app, size_mk, List.size_toArray, List.length_cons, List.length_nil]; omega)) only [go_sem, *]))
      | ((with_reducible refine resOk_g (fun h => ?_) (fun h => ?_)) <;> (try simp only [Bool.not_eq_eq_eq_not, Bool.not_true, Bool.not_false, reduceCtorEq] at h) <;> (try have h' := of_decide_eq_true h) <;> (try (have hz : (_ : Int) = (_ : Int) := h'; clear hz h')) <;> (try have h' := of_decide_eq_false h) <;> (try have h' := inB_t h) <;> (try (exfalso; omega)) <;> (try simp (disch := first | omega | (simp only [size_app, size_mk, List.size_toArray, List.length_cons, List.length_nil]; omega)) only [go_sem, *]))
      | (((with_reducible refine i_condT ?_ ?_); (focus (simp only [go_sem, *]; done))) <;> (try simp (disch := first | omega | (simp only [size_app, size_mk, List.size_toArray, List.length_cons, List.length_nil]; omega)) only [go_sem, *]))
      | (((with_reducible refine i_condF ?_ ?_); (focus (simp only [go_sem, *]; done))) <;> (try simp (disch := first | omega | (simp only [size_app, size_mk, List.size_toArray, List.length_cons, List.length_nil]; omega)) only [go_sem, *]))
      | ((with_reducible refine i_cond (by simp only [go_sem, *] <;> rfl) (fun h => ?_) (fun h => ?_)) <;> (try simp only [Bool.not_eq_eq_eq_not, Bool.not_true, Bool.not_false, reduceCtorEq] at h) <;> (try have h' := of_decide_eq_true h) <;> (try (have hz : (_ : Int) = (_ : Int) := h'; clear hz h')) <;> (try have h' := of_decide_eq_false h) <;> (try have h' := inB_t h) <;> (try (exfalso; omega)) <;> (try simp (disch := first | omega | (simp only [size_app, size_mk, List.size_toArray, List.length_cons, List.length_nil]; omega)) only [go_sem, *]))
      | (with_reducible refine i_th (id := 1) (.ho [0, 1, 4, 5, 9, 10, 14, 15] (opm 2 [15, 10, 5] [true, true, true, false] (.ho [3] (opm 6 [15, 10] [true, true, false] (.ho [7, 8] (opm 11 [15] [true, false] (.ho [12, 13] (opm 16 [] [false] (.ho [17, 18] (.stop)))))))))) mixedT (by kernel_rfl) (fun Q' hQ => ?_))
      | (with_reducible exact th_none)
      | ((with_reducible refine th_stop ?_ ?_) <;> (try simp (disch := first | omega | (simp only [size_app, size_mk, List.size_toArray, List.length_cons, List.length_nil]; omega)) only [go_sem, *]))
      | ((with_reducible refine th_ho ?_); (try simp (disch := first | omega | (simp only [size_app, size_mk, List.size_toArray, List.length_cons, List.length_nil]; omega)) only [go_sem, *]))
      | ((with_reducible refine th_opm ?_ (by kernel_rfl) (aL_run ?_)) <;> (try simp (disch := first | omega | (simp only [size_app, size_mk, List.size_toArray, List.length_cons, List.length_nil]; omega)) only [go_sem, *]))
      | ((with_reducible refine th_altm ?_ (by kernel_rfl) (aL_run ?_) ?_) <;> (try simp (disch := first | omega | (simp only [size_app, size_mk, List.size_toArray, List.length_cons, List.length_nil]; omega)) only [go_sem, *]))
      | ((with_reducible refine hcall_of_callOk 40 true (shown_ok (x.prints.getD k 0) hn) ?_ ?_ ?_ ?_ ?_); (focus (simp (disch := omega) only [go_sem, natLe_ok]; done)); (focus (simp (disch := omega) only [go_sem, natLe_ok]; done)); (focus (simp (disch := omega) only [go_sem, natLe_ok]; done)); (focus (simp (disch := omega) only [go_sem, natLe_ok]; done)); simp only [go_sem]; refine aL_run ?_; (try simp (disch := first | omega | (simp only [size_app, size_mk, List.size_toArray, List.length_cons, List.length_nil]; omega)) only [go_sem, *])))
    all_goals (try simp (disch := omega) only [EndK, go_sem, natLe_ok, *])
    refine ⟨⟨k + 1, by omega⟩, ?_, by simp only; omega⟩
    (refine weak_canon [1, 3, 25, 26, 27] [0] ?_ ?_ ?_ <;> (simp (disch := omega) only [go_sem, e, ea]; done))
  · have e1 : x.prints.take k = x.prints := List.take_of_length_le (by omega)
    rw [e1] at lk ⊢
    have eo : outB x = preB x ++ sumB x.prints ++ ⟨#[10]⟩ := rfl
    generalize preB x = p at *
    generalize sumB x.prints = q at *
    repeat' (first
      | (with_reducible refine i_seq ?_)
      | ((with_reducible refine i_block ?_); (try simp (disch := first | omega | (simp only [size_app, size_mk, List.size_toArray, List.length_cons, List.length_nil]; omega)) only [go_sem, *]))
      | ((with_reducible refine i_regionQ (fun Q' hQ => ?_)); (try simp (disch := first | omega | (simp only [size_app, size_mk, List.size_toArray, List.length_cons, List.length_nil]; omega)) only [go_sem, *]))
      | ((with_reducible refine Imp.go hQ ?_); clear hQ; (try simp (disch := first | omega | (simp only [size_app, size_mk, List.size_toArray, List.length_cons, List.length_nil]; omega)) only [go_sem, *]))
      | ((with_reducible refine resOk_g (fun h => ?_) (fun h => ?_)) <;> (try simp only [Bool.not_eq_eq_eq_not, Bool.not_true, Bool.not_false, reduceCtorEq] at h) <;> (try have h' := of_decide_eq_true h) <;> (try (have hz : (_ : Int) = (_ : Int) := h'; clear hz h')) <;> (try have h' := of_decide_eq_false h) <;> (try have h' := inB_t h) <;> (try (exfalso; omega)) <;> (try simp (disch := first | omega | (simp only [size_app, size_mk, List.size_toArray, List.length_cons, List.length_nil]; omega)) only [go_sem, *]))
      | (((with_reducible refine i_condT ?_ ?_); (focus (simp only [go_sem, *]; done))) <;> (try simp (disch := first | omega | (simp only [size_app, size_mk, List.size_toArray, List.length_cons, List.length_nil]; omega)) only [go_sem, *]))
      | (((with_reducible refine i_condF ?_ ?_); (focus (simp only [go_sem, *]; done))) <;> (try simp (disch := first | omega | (simp only [size_app, size_mk, List.size_toArray, List.length_cons, List.length_nil]; omega)) only [go_sem, *]))
      | ((with_reducible refine i_cond (by simp only [go_sem, *] <;> rfl) (fun h => ?_) (fun h => ?_)) <;> (try simp only [Bool.not_eq_eq_eq_not, Bool.not_true, Bool.not_false, reduceCtorEq] at h) <;> (try have h' := of_decide_eq_true h) <;> (try (have hz : (_ : Int) = (_ : Int) := h'; clear hz h')) <;> (try have h' := of_decide_eq_false h) <;> (try have h' := inB_t h) <;> (try (exfalso; omega)) <;> (try simp (disch := first | omega | (simp only [size_app, size_mk, List.size_toArray, List.length_cons, List.length_nil]; omega)) only [go_sem, *]))
      | (with_reducible refine i_th (id := 1) (.ho [0, 1, 4, 5, 9, 10, 14, 15] (opm 2 [15, 10, 5] [true, true, true, false] (.ho [3] (opm 6 [15, 10] [true, true, false] (.ho [7, 8] (opm 11 [15] [true, false] (.ho [12, 13] (opm 16 [] [false] (.ho [17, 18] (.stop)))))))))) mixedT (by kernel_rfl) (fun Q' hQ => ?_))
      | (with_reducible exact th_none)
      | ((with_reducible refine th_stop ?_ ?_) <;> (try simp (disch := first | omega | (simp only [size_app, size_mk, List.size_toArray, List.length_cons, List.length_nil]; omega)) only [go_sem, *]))
      | ((with_reducible refine th_ho ?_); (try simp (disch := first | omega | (simp only [size_app, size_mk, List.size_toArray, List.length_cons, List.length_nil]; omega)) only [go_sem, *]))
      | ((with_reducible refine th_opm ?_ (by kernel_rfl) (aL_run ?_)) <;> (try simp (disch := first | omega | (simp only [size_app, size_mk, List.size_toArray, List.length_cons, List.length_nil]; omega)) only [go_sem, *]))
      | ((with_reducible refine th_altm ?_ (by kernel_rfl) (aL_run ?_) ?_) <;> (try simp (disch := first | omega | (simp only [size_app, size_mk, List.size_toArray, List.length_cons, List.length_nil]; omega)) only [go_sem, *])))
    all_goals (try simp (disch := omega) only [EndK, go_sem, natLe_ok, *])
theorem lawShowOutcome_ok (x : Outcome) (hx : outOk x ∧ x.prints.length ≤ 9223372036854775807) : CallOk Tryd.prog 4 [.agg (outR x)] (.s (.one (bV true))) [none] := by
  obtain ⟨hx, hs0⟩ := hx
  refine callOk_of_hcall 40 (hcall_of_body Tryd.func4 rfl (by kernel_rfl) ?_)
  simp (disch := omega) only [go_sem, Tryd.ntmps4, Tryd.results4]
  repeat' (first
    | (with_reducible refine i_seq ?_)
    | ((with_reducible refine i_block ?_); (try simp (disch := omega) only [go_sem, *]))
    | ((with_reducible refine i_regionQ (fun Q' hQ => ?_)); (try simp (disch := omega) only [go_sem, *]))
    | ((with_reducible refine Imp.go hQ ?_); clear hQ; (try simp (disch := omega) only [go_sem, *]))
    | ((with_reducible refine resOk_g (fun h => ?_) (fun h => ?_)) <;> (try simp only [Bool.not_eq_eq_eq_not, Bool.not_true, Bool.not_false, reduceCtorEq] at h) <;> (try have h' := of_decide_eq_true h) <;> (try (have hz : (_ : Int) = (_ : Int) := h'; clear hz h')) <;> (try have h' := of_decide_eq_false h) <;> (try have h' := inB_t h) <;> (try (exfalso; omega)) <;> (try simp (disch := omega) only [go_sem, *]))
    | (((with_reducible refine i_condT ?_ ?_); (focus (simp only [go_sem, *]; done))) <;> (try simp (disch := omega) only [go_sem, *]))
    | (((with_reducible refine i_condF ?_ ?_); (focus (simp only [go_sem, *]; done))) <;> (try simp (disch := omega) only [go_sem, *]))
    | ((with_reducible refine i_cond (by simp only [go_sem, *] <;> rfl) (fun h => ?_) (fun h => ?_)) <;> (try simp only [Bool.not_eq_eq_eq_not, Bool.not_true, Bool.not_false, reduceCtorEq] at h) <;> (try have h' := of_decide_eq_true h) <;> (try (have hz : (_ : Int) = (_ : Int) := h'; clear hz h')) <;> (try have h' := of_decide_eq_false h) <;> (try have h' := inB_t h) <;> (try (exfalso; omega)) <;> (try simp (disch := omega) only [go_sem, *]))
    | (with_reducible refine i_th (id := 10) (.ho [0, 1] (opm 2 [0] [false, true] (opm 3 [] [false] (.ho [4] (.stop))))) mixedT (by kernel_rfl) (fun Q' hQ => ?_))
    | (with_reducible exact th_none)
    | ((with_reducible refine th_stop ?_ ?_) <;> (try simp (disch := omega) only [go_sem, *]))
    | ((with_reducible refine th_ho ?_); (try simp (disch := omega) only [go_sem, *]))
    | ((with_reducible refine th_opm ?_ (by kernel_rfl) (aL_run ?_)) <;> (try simp (disch := omega) only [go_sem, *]))
    | ((with_reducible refine th_altm ?_ (by kernel_rfl) (aL_run ?_) ?_) <;> (try simp (disch := omega) only [go_sem, *]))
    | ((with_reducible refine hcall_of_callE 40 true (szOutcome_ok x 1048576 (by omega) hs0) ?_ ?_ ?_ ?_ ?_); (focus (simp (disch := omega) only [go_sem, natLe_ok]; done)); (focus (simp (disch := omega) only [go_sem, natLe_ok]; done)); (focus (rintro r ⟨hr1, hr2, hr3⟩; (try dsimp only at hr1); (try dsimp only at hr2); (try dsimp only at hr3); (try simp (disch := omega) only [go_sem, natLe_ok]); done)); (focus (rintro r ⟨hr1, hr2, hr3⟩; (try dsimp only at hr1); (try dsimp only at hr2); (try dsimp only at hr3); (try simp (disch := omega) only [go_sem, natLe_ok]); done)); rintro r ⟨hr1, hr2, hr3⟩; (try dsimp only at hr1); (try dsimp only at hr2); (try dsimp only at hr3); simp only [go_sem]; refine aL_run ?_; (try simp (disch := omega) only [go_sem, *])))
  all_goals (try simp (disch := omega) only [EndK, go_sem, natLe_ok, *])
  have hs : x.prints.length ≤ 1048576 := hr3 (by omega)
  clear hr3
  repeat' (first
    | (with_reducible refine i_seq ?_)
    | ((with_reducible refine i_block ?_); (try simp (disch := omega) only [go_sem, seq_self, *]))
    | ((with_reducible refine i_regionQ (fun Q' hQ => ?_)); (try simp (disch := omega) only [go_sem, seq_self, *]))
    | ((with_reducible refine Imp.go hQ ?_); clear hQ; (try simp (disch := omega) only [go_sem, seq_self, *]))
    | ((with_reducible refine resOk_g (fun h => ?_) (fun h => ?_)) <;> (try simp only [Bool.not_eq_eq_eq_not, Bool.not_true, Bool.not_false, reduceCtorEq] at h) <;> (try have h' := of_decide_eq_true h) <;> (try (have hz : (_ : Int) = (_ : Int) := h'; clear hz h')) <;> (try have h' := of_decide_eq_false h) <;> (try have h' := inB_t h) <;> (try (exfalso; omega)) <;> (try simp (disch := omega) only [go_sem, seq_self, *]))
    | (((with_reducible refine i_condT ?_ ?_); (focus (simp only [go_sem, *]; done))) <;> (try simp (disch := omega) only [go_sem, seq_self, *]))
    | (((with_reducible refine i_condF ?_ ?_); (focus (simp only [go_sem, *]; done))) <;> (try simp (disch := omega) only [go_sem, seq_self, *]))
    | ((with_reducible refine i_cond (by simp only [go_sem, *] <;> rfl) (fun h => ?_) (fun h => ?_)) <;> (try simp only [Bool.not_eq_eq_eq_not, Bool.not_true, Bool.not_false, reduceCtorEq] at h) <;> (try have h' := of_decide_eq_true h) <;> (try (have hz : (_ : Int) = (_ : Int) := h'; clear hz h')) <;> (try have h' := of_decide_eq_false h) <;> (try have h' := inB_t h) <;> (try (exfalso; omega)) <;> (try simp (disch := omega) only [go_sem, seq_self, *]))
    | (with_reducible refine i_th (id := 10) (.ho [0, 1] (opm 2 [0] [false, true] (opm 3 [] [false] (.ho [4] (.stop))))) mixedT (by kernel_rfl) (fun Q' hQ => ?_))
    | (with_reducible exact th_none)
    | ((with_reducible refine th_stop ?_ ?_) <;> (try simp (disch := omega) only [go_sem, seq_self, *]))
    | ((with_reducible refine th_ho ?_); (try simp (disch := omega) only [go_sem, seq_self, *]))
    | ((with_reducible refine th_opm ?_ (by kernel_rfl) (aL_run ?_)) <;> (try simp (disch := omega) only [go_sem, seq_self, *]))
    | ((with_reducible refine th_altm ?_ (by kernel_rfl) (aL_run ?_) ?_) <;> (try simp (disch := omega) only [go_sem, seq_self, *]))
    | ((with_reducible refine hcall_of_callOk 40 true (toOutcome_ok x hs) ?_ ?_ ?_ ?_ ?_); (focus (simp (disch := omega) only [go_sem, seq_self, natLe_ok]; done)); (focus (simp (disch := omega) only [go_sem, seq_self, natLe_ok]; done)); (focus (simp (disch := omega) only [go_sem, seq_self, natLe_ok]; done)); (focus (simp (disch := omega) only [go_sem, seq_self, natLe_ok]; done)); simp only [go_sem, seq_self]; refine aL_run ?_; (try simp (disch := omega) only [go_sem, seq_self, *]))
    | ((with_reducible refine hcall_of_callOk 40 true (sShowOutcome_ok x hx hs) ?_ ?_ ?_ ?_ ?_); (focus (simp (disch := omega) only [go_sem, seq_self, natLe_ok]; done)); (focus (simp (disch := omega) only [go_sem, seq_self, natLe_ok]; done)); (focus (simp (disch := omega) only [go_sem, seq_self, natLe_ok]; done)); (focus (simp (disch := omega) only [go_sem, seq_self, natLe_ok]; done)); simp only [go_sem, seq_self]; refine aL_run ?_; (try simp (disch := omega) only [go_sem, seq_self, *]))
    | ((with_reducible refine hcall_of_callOk 40 true (iShowOutcome_ok x hx hs) ?_ ?_ ?_ ?_ ?_); (focus (simp (disch := omega) only [go_sem, seq_self, natLe_ok]; done)); (focus (simp (disch := omega) only [go_sem, seq_self, natLe_ok]; done)); (focus (simp (disch := omega) only [go_sem, seq_self, natLe_ok]; done)); (focus (simp (disch := omega) only [go_sem, seq_self, natLe_ok]; done)); simp only [go_sem, seq_self]; refine aL_run ?_; (try simp (disch := omega) only [go_sem, seq_self, *]))
    | ((with_reducible refine hcall_of_callOk 40 true (eqOutcome_ok x hs) ?_ ?_ ?_ ?_ ?_); (focus (simp (disch := omega) only [go_sem, seq_self, natLe_ok]; done)); (focus (simp (disch := omega) only [go_sem, seq_self, natLe_ok]; done)); (focus (simp (disch := omega) only [go_sem, seq_self, natLe_ok]; done)); (focus (simp (disch := omega) only [go_sem, seq_self, natLe_ok]; done)); simp only [go_sem, seq_self]; refine aL_run ?_; (try simp (disch := omega) only [go_sem, seq_self, *])))
  all_goals (try simp (disch := omega) only [EndK, go_sem, seq_self, natLe_ok, *])
  all_goals trace_state
theorem wfAll {xs : List Int} (h : ∀ x ∈ xs, (Lit.int .i64 x).wf = true) : ∀ x ∈ xs, i64 x := fun x hx => wf64 (h x hx)
def outD (x : Outcome) : List D := [.v (.int .i64 x.fault), .v (.int .i64 x.code), .v (.int .i64 x.verdict), .l 1 (intsD x.prints), .v (.int .i64 x.events)]
theorem oInts : OpD Tryd.prog 28 (fun xs : List Int => [D.l 1 (intsD xs)]) (fun xs => xs.length ≤ maxLen ∧ ∀ x ∈ xs, (Lit.int .i64 x).wf = true) :=
  OpD.slice 1 Tryd.underlying28 (by kernel_rfl) (Nat.le_refl _) (OpD.int Tryd.underlying3) (fun _ => rfl)
theorem oOutcome : OpD Tryd.prog 30 outD (fun x => outOk x ∧ x.prints.length ≤ 9223372036854775807) := by
  refine OpD.struct (fun y : Int × Int × Int × List Int × Int => ⟨y.1, y.2.1, y.2.2.1, y.2.2.2.1, y.2.2.2.2⟩) Tryd.underlying30
    (f2 := fun y => [.v (.int .i64 y.1)] ++ ([.v (.int .i64 y.2.1)] ++ ([.v (.int .i64 y.2.2.1)] ++ ([D.l 1 (intsD y.2.2.2.1)] ++ [.v (.int .i64 y.2.2.2.2)]))))
    (Q2 := fun y => (Lit.int .i64 y.1).wf = true ∧ (Lit.int .i64 y.2.1).wf = true ∧ (Lit.int .i64 y.2.2.1).wf = true ∧ (y.2.2.2.1.length ≤ maxLen ∧ ∀ x ∈ y.2.2.2.1, (Lit.int .i64 x).wf = true) ∧ (Lit.int .i64 y.2.2.2.2).wf = true) (fun y => rfl) (fun y => by kernel_rfl) ?_
    (fun y h => ⟨⟨wf64 h.1, wf64 h.2.1, wf64 h.2.2.1, wfAll h.2.2.2.1.2, wf64 h.2.2.2.2⟩, Nat.le_trans h.2.2.2.1.1 (by unfold maxLen; omega)⟩)
  exact OpDs.consT 1 (OpD.int Tryd.underlying3) (fun y => rfl) (Nat.le_refl _) (OpDs.consT 1 (OpD.int Tryd.underlying3) (fun y => rfl) (Nat.le_refl _) (OpDs.consT 1 (OpD.int Tryd.underlying3) (fun y => rfl) (Nat.le_refl _) (OpDs.consT 1 oInts (fun y => rfl) (Nat.le_refl _) (OpDs.oneT (OpD.int Tryd.underlying3) (fun y => Nat.le_refl _) rfl rfl) rfl rfl) rfl rfl) rfl rfl) rfl rfl
end Go.Proofs.YtgeoipplkjgnfaaDoor.E
