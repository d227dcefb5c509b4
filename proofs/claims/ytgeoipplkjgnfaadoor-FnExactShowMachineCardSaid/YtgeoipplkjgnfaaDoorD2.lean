import Derived.Test.YtgeoipplkjgnfaaDoorD1
import Derived.Lib.SmallJoins
set_option linter.unusedVariables false
set_option linter.unusedSimpArgs false
set_option maxRecDepth 100000
set_option maxHeartbeats 2000000
namespace Go.Proofs.YtgeoipplkjgnfaaDoor.E
open Go.RowKit
/-- A function of the library over one number, which answers a text. -/
theorem callOk_of_lib {P : Program} {f : FuncId} {n : Int} {s : ByteArray} (hc : callable P f = true) (h : ∀ w, Base w → Calls P f #[.int .i64 n] w fun e w' => e = .returned (.string s) ∧ Below w.heap.size w w') : CallOk P f [.one (iV n)] (.s (.one (sV s))) [none] := by
  refine ⟨hc, fun R w us F ha hg => ?_⟩
  obtain ⟨u, rfl, hu⟩ : ∃ u, us = [u] ∧ u = .int .i64 n := by
    match us, ha with
    | [u], ⟨F1, F2, h1, h2, h3⟩ => exact ⟨u, rfl, h1.1⟩
    | [], h => exact h.elim
    | _ :: _ :: _, ⟨F1, F2, h1, h2, h3⟩ => exact h2.elim
  subst hu
  refine (h w hg.inv.here).mono ?_
  rintro e w' ⟨rfl, hb⟩
  refine ⟨_, R, fz, fz, rfl, ⟨rfl, rfl, rfl⟩, ⟨fz, fz, rfl, rfl, rfl⟩, ⟨fun b => by simp [fa, fz], fun b hb => by simp [fa, fz] at hb, fun b hb' => Nat.lt_of_lt_of_le (hg.ro b hb') hb.size, hg.inv.mono (fun _ h => h) hb.size fun b hb' => hb.block b (hg.ro b hb')⟩, ⟨hb.os, hb.tape, hb.output, hb.size, fun b hb' _ => hb.block b hb', fun _ h => h, fun b hb => by simp [fa, fz] at hb, fun b hb => .inl hb, fun b c e q hx => ⟨c, (hb.block b (Array.getElem?_eq_some_iff.1 hx).1).trans hx, rfl⟩⟩⟩
def itoaB (n : Int) : ByteArray := ⟨(Lib.itoa n).toArray⟩
theorem itoa_ok (n : Int) (h0 : -9223372036854775808 ≤ n) (h1 : n ≤ 9223372036854775807) : CallOk Tryd.prog 43 [.one (iV n)] (.s (.one (sV (itoaB n)))) [none] :=
  callOk_of_lib (by kernel_rfl) fun w ht => (Tryd.strconv_Itoa n h0 h1 w ht).mono fun e w' ⟨he, k, os, hw⟩ => ⟨he, by subst hw; exact Lib.below_grow _ _ (Nat.le_refl _) _ _⟩
theorem iDecimal_ok (n : Int) (h0 : -9223372036854775808 ≤ n) (h1 : n ≤ 9223372036854775807) : CallOk Tryd.prog 23 [.one (iV n)] (.s (.one (sV (itoaB n)))) [none] := by
  refine callOk_of_hcall 40 (hcall_of_body Tryd.func23 rfl (by kernel_rfl) ?_)
  simp (disch := omega) only [go_sem, Tryd.ntmps23, Tryd.results23]
  repeat' (first
    | (with_reducible refine i_seq ?_)
    | ((with_reducible refine i_block ?_); (try simp (disch := omega) only [go_sem, *]))
    | ((with_reducible refine i_regionQ (fun Q' hQ => ?_)); (try simp (disch := omega) only [go_sem, *]))
    | ((with_reducible refine Imp.go hQ ?_); clear hQ; (try simp (disch := omega) only [go_sem, *]))
    | ((with_reducible refine resOk_g (fun h => ?_) (fun h => ?_)) <;> (try simp only [Bool.not_eq_eq_eq_not, Bool.not_true, Bool.not_false, reduceCtorEq] at h) <;> (try have h' := of_decide_eq_true h) <;> (try (have hz : (_ : Int) = (_ : Int) := h'; clear hz h')) <;> (try have h' := of_decide_eq_false h) <;> (try have h' := inB_t h) <;> (try (exfalso; omega)) <;> (try simp (disch := omega) only [go_sem, *]))
    | (((with_reducible refine i_condT ?_ ?_); (focus (simp only [go_sem, *]; done))) <;> (try simp (disch := omega) only [go_sem, *]))
    | (((with_reducible refine i_condF ?_ ?_); (focus (simp only [go_sem, *]; done))) <;> (try simp (disch := omega) only [go_sem, *]))
    | ((with_reducible refine i_cond (by simp only [go_sem, *] <;> rfl) (fun h => ?_) (fun h => ?_)) <;> (try simp only [Bool.not_eq_eq_eq_not, Bool.not_true, Bool.not_false, reduceCtorEq] at h) <;> (try have h' := of_decide_eq_true h) <;> (try (have hz : (_ : Int) = (_ : Int) := h'; clear hz h')) <;> (try have h' := of_decide_eq_false h) <;> (try have h' := inB_t h) <;> (try (exfalso; omega)) <;> (try simp (disch := omega) only [go_sem, *]))
    | ((with_reducible refine hcall_of_callOk 40 true (itoa_ok n h0 h1) ?_ ?_ ?_ ?_ ?_); (focus (simp (disch := omega) only [go_sem, natLe_ok]; done)); (focus (simp (disch := omega) only [go_sem, natLe_ok]; done)); (focus (simp (disch := omega) only [go_sem, natLe_ok]; done)); (focus (simp (disch := omega) only [go_sem, natLe_ok]; done)); simp only [go_sem]; refine aL_run ?_; (try simp (disch := omega) only [go_sem, *])))
  all_goals (try simp (disch := omega) only [EndK, go_sem, natLe_ok, *])
  all_goals trace_state
end Go.Proofs.YtgeoipplkjgnfaaDoor.E
