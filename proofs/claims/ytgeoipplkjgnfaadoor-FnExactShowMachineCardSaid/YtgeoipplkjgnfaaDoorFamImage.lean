import Derived.Test.YtgeoipplkjgnfaaDoorD8
import Derived.Test.YtgeoipplkjgnfaaDoorEng31
set_option linter.unusedVariables false
set_option linter.unusedSimpArgs false
set_option maxRecDepth 100000
set_option maxHeartbeats 4000000
namespace Go.Proofs.YtgeoipplkjgnfaaDoor.E
theorem ti38 : ti Tryd.prog 38 = some ⟨.st [(0, 1, false), (1, 1, false), (2, 1, false)], 3, 56, true, [.slice none 0 0, .slice none 0 0, .int .i64 0]⟩ := by kernel_rfl
theorem ni38 : notInt Tryd.prog 38 = true := by kernel_rfl
theorem ti49 : ti Tryd.prog 49 = some ⟨.st [(0, 1, false), (1, 1, false), (2, 1, false)], 3, 56, true, [.slice none 0 0, .slice none 0 0, .int .i64 0]⟩ := by kernel_rfl
theorem ni49 : notInt Tryd.prog 49 = true := by kernel_rfl
attribute [go_sem] ti38 ni38 ti49 ni49
structure Image where
  text : List Int
  starts : List Int
  size : Int
def imageT (x : Image) : List T := [.own 1 (intsT x.text), .own 1 (intsT x.starts), iV x.size]
def imageR (x : Image) : List T := [.ro 1 (intsD x.text), .ro 1 (intsD x.starts), iV x.size]
attribute [go_sem] imageT imageR
def imageD (x : Image) : List D := [.l 1 (intsD x.text), .l 1 (intsD x.starts), D.v (.int .i64 x.size)]
attribute [go_sem] imageD
def imageZ : Image := ⟨[], [], 0⟩
def smImage (x : Image) : Prop := x.text.length ≤ 1048576 ∧ x.starts.length ≤ 1048576
def bgImage (x : Image) : Prop := x.text.length ≤ 9223372036854775807 ∧ x.starts.length ≤ 9223372036854775807
theorem szImage_ok (x : Image) (left : Int) (h : 0 ≤ left ∧ left ≤ 1048576) (hb : bgImage x) : CallE Tryd.prog 28 [.agg (imageR x), .one (iV left)] (fun r : Int => .s (.one (iV r))) (fun _ => [none, none]) (fun r => -1 ≤ r ∧ r ≤ left ∧ (0 ≤ r → smImage x)) := by
  obtain ⟨hb0, hb1⟩ := hb
  refine callE_of_hcall 40 (hcall_of_body Tryd.func28 rfl (by kernel_rfl) ?_)
  simp (disch := omega) only [go_sem, Tryd.ntmps28, Tryd.results28]
  repeat' (first
    | (with_reducible refine i_seq ?_)
    | ((with_reducible refine i_block ?_); (try simp (disch := omega) only [go_sem, *]))
    | ((with_reducible refine i_regionQ (fun Q' hQ => ?_)); (try simp (disch := omega) only [go_sem, *]))
    | ((with_reducible refine Imp.go hQ ?_); clear hQ; (try simp (disch := omega) only [go_sem, *]))
    | ((with_reducible refine resOk_g (fun h => ?_) (fun h => ?_)) <;> (try simp only [Bool.not_eq_eq_eq_not, Bool.not_true, Bool.not_false, reduceCtorEq] at h) <;> (try have h' := of_decide_eq_true h) <;> (try (have hz : (_ : Int) = (_ : Int) := h'; clear hz h')) <;> (try have h' := of_decide_eq_false h) <;> (try have h' := inB_t h) <;> (try (exfalso; omega)) <;> (try simp (disch := omega) only [go_sem, *]))
    | (((with_reducible refine i_condT ?_ ?_); (focus (simp only [go_sem, *]; done))) <;> (try simp (disch := omega) only [go_sem, *]))
    | (((with_reducible refine i_condF ?_ ?_); (focus (simp only [go_sem, *]; done))) <;> (try simp (disch := omega) only [go_sem, *]))
    | ((with_reducible refine i_cond (by simp only [go_sem, *] <;> rfl) (fun h => ?_) (fun h => ?_)) <;> (try simp only [Bool.not_eq_eq_eq_not, Bool.not_true, Bool.not_false, reduceCtorEq] at h) <;> (try have h' := of_decide_eq_true h) <;> (try (have hz : (_ : Int) = (_ : Int) := h'; clear hz h')) <;> (try have h' := of_decide_eq_false h) <;> (try have h' := inB_t h) <;> (try (exfalso; omega)) <;> (try simp (disch := omega) only [go_sem, *]))
    | ((with_reducible refine hcall_of_callE 40 true (szIntS_ok x.text left (by omega) hb0) ?_ ?_ ?_ ?_ ?_); (focus (simp (disch := omega) only [go_sem, natLe_ok]; done)); (focus (simp (disch := omega) only [go_sem, natLe_ok]; done)); (focus (rintro r0 ⟨ha0, hc0, hd0⟩; (try dsimp only at ha0); (try dsimp only at hc0); (try dsimp only at hd0); (try simp (disch := omega) only [go_sem, natLe_ok]); done)); (focus (rintro r0 ⟨ha0, hc0, hd0⟩; (try dsimp only at ha0); (try dsimp only at hc0); (try dsimp only at hd0); (try simp (disch := omega) only [go_sem, natLe_ok]); done)); rintro r0 ⟨ha0, hc0, hd0⟩; (try dsimp only at ha0); (try dsimp only at hc0); (try dsimp only at hd0); simp only [go_sem]; refine aL_run ?_; (try simp (disch := omega) only [go_sem, *]))
    | ((with_reducible refine hcall_of_callE 40 true (szIntS_ok x.starts r0 (by omega) hb1) ?_ ?_ ?_ ?_ ?_); (focus (simp (disch := omega) only [go_sem, natLe_ok]; done)); (focus (simp (disch := omega) only [go_sem, natLe_ok]; done)); (focus (rintro r1 ⟨ha1, hc1, hd1⟩; (try dsimp only at ha1); (try dsimp only at hc1); (try dsimp only at hd1); (try simp (disch := omega) only [go_sem, natLe_ok]); done)); (focus (rintro r1 ⟨ha1, hc1, hd1⟩; (try dsimp only at ha1); (try dsimp only at hc1); (try dsimp only at hd1); (try simp (disch := omega) only [go_sem, natLe_ok]); done)); rintro r1 ⟨ha1, hc1, hd1⟩; (try dsimp only at ha1); (try dsimp only at hc1); (try dsimp only at hd1); simp only [go_sem]; refine aL_run ?_; (try simp (disch := omega) only [go_sem, *])))
  all_goals (try simp (disch := omega) only [EndK, go_sem, natLe_ok, *])
  all_goals first
    | exact ⟨-1, ⟨by omega, by omega, fun h => by first | trivial | (exfalso; omega)⟩, rfl⟩
    | exact ⟨r1, ⟨by omega, by omega, fun h => by first | trivial | exact ⟨hd0 (by omega), hd1 (by omega)⟩⟩, rfl⟩
theorem toImage_ok (x : Image) (hs : smImage x) : CallOk Tryd.prog 34 [.agg (imageR x)] (.s (.agg (imageT x))) [none] := by
  obtain ⟨hs0, hs1⟩ := hs
  refine callOk_of_hcall 40 (hcall_of_body Tryd.func34 rfl (by kernel_rfl) ?_)
  simp (disch := omega) only [go_sem, Tryd.ntmps34, Tryd.results34]
  repeat' (first
    | (with_reducible refine i_seq ?_)
    | ((with_reducible refine i_block ?_); (try simp (disch := omega) only [go_sem, *]))
    | ((with_reducible refine i_regionQ (fun Q' hQ => ?_)); (try simp (disch := omega) only [go_sem, *]))
    | ((with_reducible refine Imp.go hQ ?_); clear hQ; (try simp (disch := omega) only [go_sem, *]))
    | ((with_reducible refine resOk_g (fun h => ?_) (fun h => ?_)) <;> (try simp only [Bool.not_eq_eq_eq_not, Bool.not_true, Bool.not_false, reduceCtorEq] at h) <;> (try have h' := of_decide_eq_true h) <;> (try (have hz : (_ : Int) = (_ : Int) := h'; clear hz h')) <;> (try have h' := of_decide_eq_false h) <;> (try have h' := inB_t h) <;> (try (exfalso; omega)) <;> (try simp (disch := omega) only [go_sem, *]))
    | (((with_reducible refine i_condT ?_ ?_); (focus (simp only [go_sem, *]; done))) <;> (try simp (disch := omega) only [go_sem, *]))
    | (((with_reducible refine i_condF ?_ ?_); (focus (simp only [go_sem, *]; done))) <;> (try simp (disch := omega) only [go_sem, *]))
    | ((with_reducible refine i_cond (by simp only [go_sem, *] <;> rfl) (fun h => ?_) (fun h => ?_)) <;> (try simp only [Bool.not_eq_eq_eq_not, Bool.not_true, Bool.not_false, reduceCtorEq] at h) <;> (try have h' := of_decide_eq_true h) <;> (try (have hz : (_ : Int) = (_ : Int) := h'; clear hz h')) <;> (try have h' := of_decide_eq_false h) <;> (try have h' := inB_t h) <;> (try (exfalso; omega)) <;> (try simp (disch := omega) only [go_sem, *]))
    | ((with_reducible refine hcall_of_callOk 40 true (toIntS_ok x.text hs0) ?_ ?_ ?_ ?_ ?_); (focus (simp (disch := omega) only [go_sem, natLe_ok]; done)); (focus (simp (disch := omega) only [go_sem, natLe_ok]; done)); (focus (simp (disch := omega) only [go_sem, natLe_ok]; done)); (focus (simp (disch := omega) only [go_sem, natLe_ok]; done)); simp only [go_sem]; refine aL_run ?_; (try simp (disch := omega) only [go_sem, *]))
    | ((with_reducible refine hcall_of_callOk 40 true (toIntS_ok x.starts hs1) ?_ ?_ ?_ ?_ ?_); (focus (simp (disch := omega) only [go_sem, natLe_ok]; done)); (focus (simp (disch := omega) only [go_sem, natLe_ok]; done)); (focus (simp (disch := omega) only [go_sem, natLe_ok]; done)); (focus (simp (disch := omega) only [go_sem, natLe_ok]; done)); simp only [go_sem]; refine aL_run ?_; (try simp (disch := omega) only [go_sem, *])))
  all_goals (try simp (disch := omega) only [EndK, go_sem, natLe_ok, *])
theorem eqImage_ok (x : Image) (hs : smImage x) : CallOk Tryd.prog 39 [.agg (imageR x), .agg (imageR x)] (.s (.one (bV true))) [none, none] := by
  obtain ⟨hs0, hs1⟩ := hs
  refine callOk_of_hcall 40 (hcall_of_body Tryd.func39 rfl (by kernel_rfl) ?_)
  simp (disch := omega) only [go_sem, Tryd.ntmps39, Tryd.results39]
  repeat' (first
    | (with_reducible refine i_seq ?_)
    | ((with_reducible refine i_block ?_); (try simp (disch := omega) only [go_sem, bne_self_eq_false, *]))
    | ((with_reducible refine i_regionQ (fun Q' hQ => ?_)); (try simp (disch := omega) only [go_sem, bne_self_eq_false, *]))
    | ((with_reducible refine Imp.go hQ ?_); clear hQ; (try simp (disch := omega) only [go_sem, bne_self_eq_false, *]))
    | ((with_reducible refine resOk_g (fun h => ?_) (fun h => ?_)) <;> (try simp only [Bool.not_eq_eq_eq_not, Bool.not_true, Bool.not_false, reduceCtorEq] at h) <;> (try have h' := of_decide_eq_true h) <;> (try (have hz : (_ : Int) = (_ : Int) := h'; clear hz h')) <;> (try have h' := of_decide_eq_false h) <;> (try have h' := inB_t h) <;> (try (exfalso; omega)) <;> (try simp (disch := omega) only [go_sem, bne_self_eq_false, *]))
    | (((with_reducible refine i_condT ?_ ?_); (focus (simp only [go_sem, *]; done))) <;> (try simp (disch := omega) only [go_sem, bne_self_eq_false, *]))
    | (((with_reducible refine i_condF ?_ ?_); (focus (simp only [go_sem, *]; done))) <;> (try simp (disch := omega) only [go_sem, bne_self_eq_false, *]))
    | ((with_reducible refine i_cond (by simp only [go_sem, *] <;> rfl) (fun h => ?_) (fun h => ?_)) <;> (try simp only [Bool.not_eq_eq_eq_not, Bool.not_true, Bool.not_false, reduceCtorEq] at h) <;> (try have h' := of_decide_eq_true h) <;> (try (have hz : (_ : Int) = (_ : Int) := h'; clear hz h')) <;> (try have h' := of_decide_eq_false h) <;> (try have h' := inB_t h) <;> (try (exfalso; omega)) <;> (try simp (disch := omega) only [go_sem, bne_self_eq_false, *]))
    | ((with_reducible refine hcall_of_callOk 40 true (eqIntS_ok x.text hs0) ?_ ?_ ?_ ?_ ?_); (focus (simp (disch := omega) only [go_sem, bne_self_eq_false, natLe_ok]; done)); (focus (simp (disch := omega) only [go_sem, bne_self_eq_false, natLe_ok]; done)); (focus (simp (disch := omega) only [go_sem, bne_self_eq_false, natLe_ok]; done)); (focus (simp (disch := omega) only [go_sem, bne_self_eq_false, natLe_ok]; done)); simp only [go_sem, bne_self_eq_false]; refine aL_run ?_; (try simp (disch := omega) only [go_sem, bne_self_eq_false, *]))
    | ((with_reducible refine hcall_of_callOk 40 true (eqIntS_ok x.starts hs1) ?_ ?_ ?_ ?_ ?_); (focus (simp (disch := omega) only [go_sem, bne_self_eq_false, natLe_ok]; done)); (focus (simp (disch := omega) only [go_sem, bne_self_eq_false, natLe_ok]; done)); (focus (simp (disch := omega) only [go_sem, bne_self_eq_false, natLe_ok]; done)); (focus (simp (disch := omega) only [go_sem, bne_self_eq_false, natLe_ok]; done)); simp only [go_sem, bne_self_eq_false]; refine aL_run ?_; (try simp (disch := omega) only [go_sem, bne_self_eq_false, *])))
  all_goals (try simp (disch := omega) only [EndK, go_sem, bne_self_eq_false, natLe_ok, *])
end Go.Proofs.YtgeoipplkjgnfaaDoor.E
