import Derived.Test.YtgeoipplkjgnfaaDoorFamB
import Derived.Test.YtgeoipplkjgnfaaDoorFamCore
import Derived.Test.YtgeoipplkjgnfaaDoorFamGate
set_option linter.unusedVariables false
set_option linter.unusedSimpArgs false
set_option maxRecDepth 100000
set_option maxHeartbeats 4000000
namespace Go.Proofs.YtgeoipplkjgnfaaDoor.E
theorem ti43 : ti Tryd.prog 43 = some ⟨.st [(0, 1, false), (1, 1, false), (2, 1, false), (3, 1, false)], 4, 96, true, [.slice none 0 0, .slice none 0 0, .slice none 0 0, .slice none 0 0]⟩ := by kernel_rfl
theorem ni43 : notInt Tryd.prog 43 = true := by kernel_rfl
theorem ti53 : ti Tryd.prog 53 = some ⟨.st [(0, 1, false), (1, 1, false), (2, 1, false), (3, 1, false)], 4, 96, true, [.slice none 0 0, .slice none 0 0, .slice none 0 0, .slice none 0 0]⟩ := by kernel_rfl
theorem ni53 : notInt Tryd.prog 53 = true := by kernel_rfl
attribute [go_sem] ti43 ni43 ti53 ni53
structure Kernel where
  gates : List Gate
  ready : List Int
  saved : List Core
  over : List Bool
def kernelT (x : Kernel) : List T := [.own 3 (gatesT x.gates), .own 1 (intsT x.ready), .own 3 (coresT x.saved), .own 1 (boolsT x.over)]
def kernelR (x : Kernel) : List T := [.ro 3 (gatesD x.gates), .ro 1 (intsD x.ready), .ro 3 (coresD x.saved), .ro 1 (boolsD x.over)]
attribute [go_sem] kernelT kernelR
def kernelD (x : Kernel) : List D := [.l 3 (gatesD x.gates), .l 1 (intsD x.ready), .l 3 (coresD x.saved), .l 1 (boolsD x.over)]
attribute [go_sem] kernelD
def kernelZ : Kernel := ⟨[], [], [], []⟩
def smKernel (x : Kernel) : Prop := (x.gates.length ≤ 1048576 ∧ ∀ y ∈ x.gates, smGate y) ∧ x.ready.length ≤ 1048576 ∧ (x.saved.length ≤ 1048576 ∧ ∀ y ∈ x.saved, smCore y) ∧ x.over.length ≤ 1048576
def bgKernel (x : Kernel) : Prop := (x.gates.length ≤ 9223372036854775807 ∧ ∀ y ∈ x.gates, bgGate y) ∧ x.ready.length ≤ 9223372036854775807 ∧ (x.saved.length ≤ 9223372036854775807 ∧ ∀ y ∈ x.saved, bgCore y) ∧ x.over.length ≤ 9223372036854775807
theorem szKernel_ok (x : Kernel) (left : Int) (h : 0 ≤ left ∧ left ≤ 1048576) (hb : bgKernel x) : CallE Tryd.prog 30 [.agg (kernelR x), .one (iV left)] (fun r : Int => .s (.one (iV r))) (fun _ => [none, none]) (fun r => -1 ≤ r ∧ r ≤ left ∧ (0 ≤ r → smKernel x)) := by
  obtain ⟨hb0, hb1, hb2, hb3⟩ := hb
  refine callE_of_hcall 40 (hcall_of_body Tryd.func30 rfl (by kernel_rfl) ?_)
  simp (disch := omega) only [go_sem, Tryd.ntmps30, Tryd.results30]
  repeat' (first
    | (with_reducible refine i_seq ?_)
    | ((with_reducible refine i_block ?_); (try simp (disch := omega) only [go_sem, *]))
    | ((with_reducible refine i_regionQ (fun Q' hQ => ?_)); (try simp (disch := omega) only [go_sem, *]))
    | ((with_reducible refine Imp.go hQ ?_); clear hQ; (try simp (disch := omega) only [go_sem, *]))
    | ((with_reducible refine resOk_g (fun h => ?_) (fun h => ?_)) <;> (try simp only [Bool.not_eq_eq_eq_not, Bool.not_true, Bool.not_false, reduceCtorEq] at h) <;> (try have h' := of_decide_eq_true h) <;> (try (have hz : (_ : Int) = (_ : Int) := h'; clear hz h')) <;> (try have h' := of_decide_eq_false h) <;> (try have h' := inB_t h) <;> (try (exfalso; omega)) <;> (try simp (disch := omega) only [go_sem, *]))
    | (((with_reducible refine i_condT ?_ ?_); (focus (simp only [go_sem, *]; done))) <;> (try simp (disch := omega) only [go_sem, *]))
    | (((with_reducible refine i_condF ?_ ?_); (focus (simp only [go_sem, *]; done))) <;> (try simp (disch := omega) only [go_sem, *]))
    | ((with_reducible refine i_cond (by simp only [go_sem, *] <;> rfl) (fun h => ?_) (fun h => ?_)) <;> (try simp only [Bool.not_eq_eq_eq_not, Bool.not_true, Bool.not_false, reduceCtorEq] at h) <;> (try have h' := of_decide_eq_true h) <;> (try (have hz : (_ : Int) = (_ : Int) := h'; clear hz h')) <;> (try have h' := of_decide_eq_false h) <;> (try have h' := inB_t h) <;> (try (exfalso; omega)) <;> (try simp (disch := omega) only [go_sem, *]))
    | ((with_reducible refine hcall_of_callE 40 true (szGateS_ok x.gates left (by omega) hb0) ?_ ?_ ?_ ?_ ?_); (focus (simp (disch := omega) only [go_sem, natLe_ok]; done)); (focus (simp (disch := omega) only [go_sem, natLe_ok]; done)); (focus (rintro r0 ⟨ha0, hc0, hd0⟩; (try dsimp only at ha0); (try dsimp only at hc0); (try dsimp only at hd0); (try simp (disch := omega) only [go_sem, natLe_ok]); done)); (focus (rintro r0 ⟨ha0, hc0, hd0⟩; (try dsimp only at ha0); (try dsimp only at hc0); (try dsimp only at hd0); (try simp (disch := omega) only [go_sem, natLe_ok]); done)); rintro r0 ⟨ha0, hc0, hd0⟩; (try dsimp only at ha0); (try dsimp only at hc0); (try dsimp only at hd0); simp only [go_sem]; refine aL_run ?_; (try simp (disch := omega) only [go_sem, *]))
    | ((with_reducible refine hcall_of_callE 40 true (szIntS_ok x.ready r0 (by omega) hb1) ?_ ?_ ?_ ?_ ?_); (focus (simp (disch := omega) only [go_sem, natLe_ok]; done)); (focus (simp (disch := omega) only [go_sem, natLe_ok]; done)); (focus (rintro r1 ⟨ha1, hc1, hd1⟩; (try dsimp only at ha1); (try dsimp only at hc1); (try dsimp only at hd1); (try simp (disch := omega) only [go_sem, natLe_ok]); done)); (focus (rintro r1 ⟨ha1, hc1, hd1⟩; (try dsimp only at ha1); (try dsimp only at hc1); (try dsimp only at hd1); (try simp (disch := omega) only [go_sem, natLe_ok]); done)); rintro r1 ⟨ha1, hc1, hd1⟩; (try dsimp only at ha1); (try dsimp only at hc1); (try dsimp only at hd1); simp only [go_sem]; refine aL_run ?_; (try simp (disch := omega) only [go_sem, *]))
    | ((with_reducible refine hcall_of_callE 40 true (szCoreS_ok x.saved r1 (by omega) hb2) ?_ ?_ ?_ ?_ ?_); (focus (simp (disch := omega) only [go_sem, natLe_ok]; done)); (focus (simp (disch := omega) only [go_sem, natLe_ok]; done)); (focus (rintro r2 ⟨ha2, hc2, hd2⟩; (try dsimp only at ha2); (try dsimp only at hc2); (try dsimp only at hd2); (try simp (disch := omega) only [go_sem, natLe_ok]); done)); (focus (rintro r2 ⟨ha2, hc2, hd2⟩; (try dsimp only at ha2); (try dsimp only at hc2); (try dsimp only at hd2); (try simp (disch := omega) only [go_sem, natLe_ok]); done)); rintro r2 ⟨ha2, hc2, hd2⟩; (try dsimp only at ha2); (try dsimp only at hc2); (try dsimp only at hd2); simp only [go_sem]; refine aL_run ?_; (try simp (disch := omega) only [go_sem, *]))
    | ((with_reducible refine hcall_of_callE 40 true (szBoolS_ok x.over r2 (by omega) hb3) ?_ ?_ ?_ ?_ ?_); (focus (simp (disch := omega) only [go_sem, natLe_ok]; done)); (focus (simp (disch := omega) only [go_sem, natLe_ok]; done)); (focus (rintro r3 ⟨ha3, hc3, hd3⟩; (try dsimp only at ha3); (try dsimp only at hc3); (try dsimp only at hd3); (try simp (disch := omega) only [go_sem, natLe_ok]); done)); (focus (rintro r3 ⟨ha3, hc3, hd3⟩; (try dsimp only at ha3); (try dsimp only at hc3); (try dsimp only at hd3); (try simp (disch := omega) only [go_sem, natLe_ok]); done)); rintro r3 ⟨ha3, hc3, hd3⟩; (try dsimp only at ha3); (try dsimp only at hc3); (try dsimp only at hd3); simp only [go_sem]; refine aL_run ?_; (try simp (disch := omega) only [go_sem, *])))
  all_goals (try simp (disch := omega) only [EndK, go_sem, natLe_ok, *])
  all_goals first
    | exact ⟨-1, ⟨by omega, by omega, fun h => by first | trivial | (exfalso; omega)⟩, rfl⟩
    | exact ⟨r3, ⟨by omega, by omega, fun h => by first | trivial | exact ⟨hd0 (by omega), hd1 (by omega), hd2 (by omega), hd3 (by omega)⟩⟩, rfl⟩
theorem toKernel_ok (x : Kernel) (hs : smKernel x) : CallOk Tryd.prog 36 [.agg (kernelR x)] (.s (.agg (kernelT x))) [none] := by
  obtain ⟨hs0, hs1, hs2, hs3⟩ := hs
  refine callOk_of_hcall 40 (hcall_of_body Tryd.func36 rfl (by kernel_rfl) ?_)
  simp (disch := omega) only [go_sem, Tryd.ntmps36, Tryd.results36]
  repeat' (first
    | (with_reducible refine i_seq ?_)
    | ((with_reducible refine i_block ?_); (try simp (disch := omega) only [go_sem, *]))
    | ((with_reducible refine i_regionQ (fun Q' hQ => ?_)); (try simp (disch := omega) only [go_sem, *]))
    | ((with_reducible refine Imp.go hQ ?_); clear hQ; (try simp (disch := omega) only [go_sem, *]))
    | ((with_reducible refine resOk_g (fun h => ?_) (fun h => ?_)) <;> (try simp only [Bool.not_eq_eq_eq_not, Bool.not_true, Bool.not_false, reduceCtorEq] at h) <;> (try have h' := of_decide_eq_true h) <;> (try (have hz : (_ : Int) = (_ : Int) := h'; clear hz h')) <;> (try have h' := of_decide_eq_false h) <;> (try have h' := inB_t h) <;> (try (exfalso; omega)) <;> (try simp (disch := omega) only [go_sem, *]))
    | (((with_reducible refine i_condT ?_ ?_); (focus (simp only [go_sem, *]; done))) <;> (try simp (disch := omega) only [go_sem, *]))
    | (((with_reducible refine i_condF ?_ ?_); (focus (simp only [go_sem, *]; done))) <;> (try simp (disch := omega) only [go_sem, *]))
    | ((with_reducible refine i_cond (by simp only [go_sem, *] <;> rfl) (fun h => ?_) (fun h => ?_)) <;> (try simp only [Bool.not_eq_eq_eq_not, Bool.not_true, Bool.not_false, reduceCtorEq] at h) <;> (try have h' := of_decide_eq_true h) <;> (try (have hz : (_ : Int) = (_ : Int) := h'; clear hz h')) <;> (try have h' := of_decide_eq_false h) <;> (try have h' := inB_t h) <;> (try (exfalso; omega)) <;> (try simp (disch := omega) only [go_sem, *]))
    | ((with_reducible refine hcall_of_callOk 40 true (toGateS_ok x.gates hs0) ?_ ?_ ?_ ?_ ?_); (focus (simp (disch := omega) only [go_sem, natLe_ok]; done)); (focus (simp (disch := omega) only [go_sem, natLe_ok]; done)); (focus (simp (disch := omega) only [go_sem, natLe_ok]; done)); (focus (simp (disch := omega) only [go_sem, natLe_ok]; done)); simp only [go_sem]; refine aL_run ?_; (try simp (disch := omega) only [go_sem, *]))
    | ((with_reducible refine hcall_of_callOk 40 true (toIntS_ok x.ready hs1) ?_ ?_ ?_ ?_ ?_); (focus (simp (disch := omega) only [go_sem, natLe_ok]; done)); (focus (simp (disch := omega) only [go_sem, natLe_ok]; done)); (focus (simp (disch := omega) only [go_sem, natLe_ok]; done)); (focus (simp (disch := omega) only [go_sem, natLe_ok]; done)); simp only [go_sem]; refine aL_run ?_; (try simp (disch := omega) only [go_sem, *]))
    | ((with_reducible refine hcall_of_callOk 40 true (toCoreS_ok x.saved hs2) ?_ ?_ ?_ ?_ ?_); (focus (simp (disch := omega) only [go_sem, natLe_ok]; done)); (focus (simp (disch := omega) only [go_sem, natLe_ok]; done)); (focus (simp (disch := omega) only [go_sem, natLe_ok]; done)); (focus (simp (disch := omega) only [go_sem, natLe_ok]; done)); simp only [go_sem]; refine aL_run ?_; (try simp (disch := omega) only [go_sem, *]))
    | ((with_reducible refine hcall_of_callOk 40 true (toBoolS_ok x.over hs3) ?_ ?_ ?_ ?_ ?_); (focus (simp (disch := omega) only [go_sem, natLe_ok]; done)); (focus (simp (disch := omega) only [go_sem, natLe_ok]; done)); (focus (simp (disch := omega) only [go_sem, natLe_ok]; done)); (focus (simp (disch := omega) only [go_sem, natLe_ok]; done)); simp only [go_sem]; refine aL_run ?_; (try simp (disch := omega) only [go_sem, *])))
  all_goals (try simp (disch := omega) only [EndK, go_sem, natLe_ok, *])
theorem eqKernel_ok (x : Kernel) (hs : smKernel x) : CallOk Tryd.prog 41 [.agg (kernelR x), .agg (kernelR x)] (.s (.one (bV true))) [none, none] := by
  obtain ⟨hs0, hs1, hs2, hs3⟩ := hs
  refine callOk_of_hcall 40 (hcall_of_body Tryd.func41 rfl (by kernel_rfl) ?_)
  simp (disch := omega) only [go_sem, Tryd.ntmps41, Tryd.results41]
  repeat' (first
    | (with_reducible refine i_seq ?_)
    | ((with_reducible refine i_block ?_); (try simp (disch := omega) only [go_sem, bne_self_eq_false, *]))
    | ((with_reducible refine i_regionQ (fun Q' hQ => ?_)); (try simp (disch := omega) only [go_sem, bne_self_eq_false, *]))
    | ((with_reducible refine Imp.go hQ ?_); clear hQ; (try simp (disch := omega) only [go_sem, bne_self_eq_false, *]))
    | ((with_reducible refine resOk_g (fun h => ?_) (fun h => ?_)) <;> (try simp only [Bool.not_eq_eq_eq_not, Bool.not_true, Bool.not_false, reduceCtorEq] at h) <;> (try have h' := of_decide_eq_true h) <;> (try (have hz : (_ : Int) = (_ : Int) := h'; clear hz h')) <;> (try have h' := of_decide_eq_false h) <;> (try have h' := inB_t h) <;> (try (exfalso; omega)) <;> (try simp (disch := omega) only [go_sem, bne_self_eq_false, *]))
    | (((with_reducible refine i_condT ?_ ?_); (focus (simp only [go_sem, *]; done))) <;> (try simp (disch := omega) only [go_sem, bne_self_eq_false, *]))
    | (((with_reducible refine i_condF ?_ ?_); (focus (simp only [go_sem, *]; done))) <;> (try simp (disch := omega) only [go_sem, bne_self_eq_false, *]))
    | ((with_reducible refine i_cond (by simp only [go_sem, *] <;> rfl) (fun h => ?_) (fun h => ?_)) <;> (try simp only [Bool.not_eq_eq_eq_not, Bool.not_true, Bool.not_false, reduceCtorEq] at h) <;> (try have h' := of_decide_eq_true h) <;> (try (have hz : (_ : Int) = (_ : Int) := h'; clear hz h')) <;> (try have h' := of_decide_eq_false h) <;> (try have h' := inB_t h) <;> (try (exfalso; omega)) <;> (try simp (disch := omega) only [go_sem, bne_self_eq_false, *]))
    | ((with_reducible refine hcall_of_callOk 40 true (eqGateS_ok x.gates hs0) ?_ ?_ ?_ ?_ ?_); (focus (simp (disch := omega) only [go_sem, bne_self_eq_false, natLe_ok]; done)); (focus (simp (disch := omega) only [go_sem, bne_self_eq_false, natLe_ok]; done)); (focus (simp (disch := omega) only [go_sem, bne_self_eq_false, natLe_ok]; done)); (focus (simp (disch := omega) only [go_sem, bne_self_eq_false, natLe_ok]; done)); simp only [go_sem, bne_self_eq_false]; refine aL_run ?_; (try simp (disch := omega) only [go_sem, bne_self_eq_false, *]))
    | ((with_reducible refine hcall_of_callOk 40 true (eqIntS_ok x.ready hs1) ?_ ?_ ?_ ?_ ?_); (focus (simp (disch := omega) only [go_sem, bne_self_eq_false, natLe_ok]; done)); (focus (simp (disch := omega) only [go_sem, bne_self_eq_false, natLe_ok]; done)); (focus (simp (disch := omega) only [go_sem, bne_self_eq_false, natLe_ok]; done)); (focus (simp (disch := omega) only [go_sem, bne_self_eq_false, natLe_ok]; done)); simp only [go_sem, bne_self_eq_false]; refine aL_run ?_; (try simp (disch := omega) only [go_sem, bne_self_eq_false, *]))
    | ((with_reducible refine hcall_of_callOk 40 true (eqCoreS_ok x.saved hs2) ?_ ?_ ?_ ?_ ?_); (focus (simp (disch := omega) only [go_sem, bne_self_eq_false, natLe_ok]; done)); (focus (simp (disch := omega) only [go_sem, bne_self_eq_false, natLe_ok]; done)); (focus (simp (disch := omega) only [go_sem, bne_self_eq_false, natLe_ok]; done)); (focus (simp (disch := omega) only [go_sem, bne_self_eq_false, natLe_ok]; done)); simp only [go_sem, bne_self_eq_false]; refine aL_run ?_; (try simp (disch := omega) only [go_sem, bne_self_eq_false, *]))
    | ((with_reducible refine hcall_of_callOk 40 true (eqBoolS_ok x.over hs3) ?_ ?_ ?_ ?_ ?_); (focus (simp (disch := omega) only [go_sem, bne_self_eq_false, natLe_ok]; done)); (focus (simp (disch := omega) only [go_sem, bne_self_eq_false, natLe_ok]; done)); (focus (simp (disch := omega) only [go_sem, bne_self_eq_false, natLe_ok]; done)); (focus (simp (disch := omega) only [go_sem, bne_self_eq_false, natLe_ok]; done)); simp only [go_sem, bne_self_eq_false]; refine aL_run ?_; (try simp (disch := omega) only [go_sem, bne_self_eq_false, *])))
  all_goals (try simp (disch := omega) only [EndK, go_sem, bne_self_eq_false, natLe_ok, *])
end Go.Proofs.YtgeoipplkjgnfaaDoor.E
