import Derived.Test.YtgeoipplkjgnfaaDoorD5
import Derived.Test.YtgeoipplkjgnfaaDoorEng30
set_option linter.unusedVariables false
set_option linter.unusedSimpArgs false
set_option maxRecDepth 100000
set_option maxHeartbeats 2000000
namespace Go.Proofs.YtgeoipplkjgnfaaDoor.E
theorem seq_self (x : ByteArray) : seq x x = true := by simp [seq]
theorem toEvent_ok (e : Event) : CallOk Tryd.prog 7 [.agg (evRow e)] (.s (.agg (evRow e))) [none] := by
  refine callOk_of_hcall 40 (hcall_of_body Tryd.func7 rfl (by kernel_rfl) ?_)
  simp (disch := omega) only [go_sem, Tryd.ntmps7, Tryd.results7]
  repeat' (first
    | (with_reducible refine i_seq ?_)
    | ((with_reducible refine i_block ?_); (try simp (disch := omega) only [go_sem, *]))
    | ((with_reducible refine i_regionQ (fun Q' hQ => ?_)); (try simp (disch := omega) only [go_sem, *]))
    | ((with_reducible refine Imp.go hQ ?_); clear hQ; (try simp (disch := omega) only [go_sem, *]))
    | ((with_reducible refine resOk_g (fun h => ?_) (fun h => ?_)) <;> (try simp only [Bool.not_eq_eq_eq_not, Bool.not_true, Bool.not_false, reduceCtorEq] at h) <;> (try have h' := of_decide_eq_true h) <;> (try (have hz : (_ : Int) = (_ : Int) := h'; clear hz h')) <;> (try have h' := of_decide_eq_false h) <;> (try have h' := inB_t h) <;> (try (exfalso; omega)) <;> (try simp (disch := omega) only [go_sem, *]))
    | (((with_reducible refine i_condT ?_ ?_); (focus (simp only [go_sem, *]; done))) <;> (try simp (disch := omega) only [go_sem, *]))
    | (((with_reducible refine i_condF ?_ ?_); (focus (simp only [go_sem, *]; done))) <;> (try simp (disch := omega) only [go_sem, *]))
    | ((with_reducible refine i_cond (by simp only [go_sem, *] <;> rfl) (fun h => ?_) (fun h => ?_)) <;> (try simp only [Bool.not_eq_eq_eq_not, Bool.not_true, Bool.not_false, reduceCtorEq] at h) <;> (try have h' := of_decide_eq_true h) <;> (try (have hz : (_ : Int) = (_ : Int) := h'; clear hz h')) <;> (try have h' := of_decide_eq_false h) <;> (try have h' := inB_t h) <;> (try (exfalso; omega)) <;> (try simp (disch := omega) only [go_sem, *])))
  all_goals (try simp (disch := omega) only [EndK, go_sem, natLe_ok, *])
theorem lawShowEvent_ok (e : Event) (he : evOk e) : CallOk Tryd.prog 3 [.agg (evRow e)] (.s (.one (bV true))) [none] := by
  refine callOk_of_hcall 40 (hcall_of_body Tryd.func3 rfl (by kernel_rfl) ?_)
  simp (disch := omega) only [go_sem, Tryd.ntmps3, Tryd.results3]
  repeat' (first
    | (with_reducible refine i_seq ?_)
    | ((with_reducible refine i_block ?_); (try simp (disch := omega) only [go_sem, seq_self, *]))
    | ((with_reducible refine i_regionQ (fun Q' hQ => ?_)); (try simp (disch := omega) only [go_sem, seq_self, *]))
    | ((with_reducible refine Imp.go hQ ?_); clear hQ; (try simp (disch := omega) only [go_sem, seq_self, *]))
    | ((with_reducible refine resOk_g (fun h => ?_) (fun h => ?_)) <;> (try simp only [Bool.not_eq_eq_eq_not, Bool.not_true, Bool.not_false, reduceCtorEq] at h) <;> (try have h' := of_decide_eq_true h) <;> (try (have hz : (_ : Int) = (_ : Int) := h'; clear hz h')) <;> (try have h' := of_decide_eq_false h) <;> (try have h' := inB_t h) <;> (try (exfalso; omega)) <;> (try simp (disch := omega) only [go_sem, seq_self, *]))
    | (((with_reducible refine i_condT ?_ ?_); (focus (simp only [go_sem, *]; done))) <;> (try simp (disch := omega) only [go_sem, seq_self, *]))
    | (((with_reducible refine i_condF ?_ ?_); (focus (simp only [go_sem, *]; done))) <;> (try simp (disch := omega) only [go_sem, seq_self, *]))
    | ((with_reducible refine i_cond (by simp only [go_sem, *] <;> rfl) (fun h => ?_) (fun h => ?_)) <;> (try simp only [Bool.not_eq_eq_eq_not, Bool.not_true, Bool.not_false, reduceCtorEq] at h) <;> (try have h' := of_decide_eq_true h) <;> (try (have hz : (_ : Int) = (_ : Int) := h'; clear hz h')) <;> (try have h' := of_decide_eq_false h) <;> (try have h' := inB_t h) <;> (try (exfalso; omega)) <;> (try simp (disch := omega) only [go_sem, seq_self, *]))
    | ((with_reducible refine hcall_of_callOk 40 true (toEvent_ok e) ?_ ?_ ?_ ?_ ?_); (focus (simp (disch := omega) only [go_sem, seq_self, natLe_ok]; done)); (focus (simp (disch := omega) only [go_sem, seq_self, natLe_ok]; done)); (focus (simp (disch := omega) only [go_sem, seq_self, natLe_ok]; done)); (focus (simp (disch := omega) only [go_sem, seq_self, natLe_ok]; done)); simp only [go_sem, seq_self]; refine aL_run ?_; (try simp (disch := omega) only [go_sem, seq_self, *]))
    | ((with_reducible refine hcall_of_callOk 40 true (sShowEvent_ok e he) ?_ ?_ ?_ ?_ ?_); (focus (simp (disch := omega) only [go_sem, seq_self, natLe_ok]; done)); (focus (simp (disch := omega) only [go_sem, seq_self, natLe_ok]; done)); (focus (simp (disch := omega) only [go_sem, seq_self, natLe_ok]; done)); (focus (simp (disch := omega) only [go_sem, seq_self, natLe_ok]; done)); simp only [go_sem, seq_self]; refine aL_run ?_; (try simp (disch := omega) only [go_sem, seq_self, *]))
    | ((with_reducible refine hcall_of_callOk 40 true (iShowEvent_ok e he) ?_ ?_ ?_ ?_ ?_); (focus (simp (disch := omega) only [go_sem, seq_self, natLe_ok]; done)); (focus (simp (disch := omega) only [go_sem, seq_self, natLe_ok]; done)); (focus (simp (disch := omega) only [go_sem, seq_self, natLe_ok]; done)); (focus (simp (disch := omega) only [go_sem, seq_self, natLe_ok]; done)); simp only [go_sem, seq_self]; refine aL_run ?_; (try simp (disch := omega) only [go_sem, seq_self, *])))
  all_goals (try simp (disch := omega) only [EndK, go_sem, seq_self, natLe_ok, *])
theorem wf64 {n : Int} (h : (Lit.int .i64 n).wf = true) : i64 n := by
  have h' : (decide (IntKind.i64.min ≤ n) && decide (n ≤ IntKind.i64.max)) = true := h
  rw [show IntKind.i64.min = -9223372036854775808 by decide, show IntKind.i64.max = 9223372036854775807 by decide] at h'
  simpa [i64] using h'
def evD (e : Event) : List D := [.v (.int .i64 e.process), .v (.int .i64 e.kind), .v (.int .i64 e.num)]
theorem oEvent : OpD Tryd.prog 23 evD evOk := by
  refine OpD.struct (fun y : Int × Int × Int => ⟨y.1, y.2.1, y.2.2⟩) Tryd.underlying23 (f2 := fun y => [.v (.int .i64 y.1)] ++ ([.v (.int .i64 y.2.1)] ++ [.v (.int .i64 y.2.2)])) (Q2 := fun y => (Lit.int .i64 y.1).wf = true ∧ (Lit.int .i64 y.2.1).wf = true ∧ (Lit.int .i64 y.2.2).wf = true) (fun y => rfl) (fun y => by kernel_rfl) ?_ (fun y h => ⟨wf64 h.1, wf64 h.2.1, wf64 h.2.2⟩)
  exact OpDs.consT 1 (OpD.int Tryd.underlying3) (fun y => rfl) (Nat.le_refl _) (OpDs.consT 1 (OpD.int Tryd.underlying3) (fun y => rfl) (Nat.le_refl _) (OpDs.oneT (OpD.int Tryd.underlying3) (fun y => Nat.le_refl _) rfl rfl) rfl rfl) rfl rfl
end Go.Proofs.YtgeoipplkjgnfaaDoor.E
