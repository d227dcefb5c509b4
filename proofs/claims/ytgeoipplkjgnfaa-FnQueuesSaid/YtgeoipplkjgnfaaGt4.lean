import Derived.Test.YtgeoipplkjgnfaaGt3
set_option linter.unusedVariables false
set_option linter.unusedSimpArgs false
set_option maxRecDepth 100000
namespace Go.Proofs.Ytgeoipplkjgnfaa.E
theorem leave_sm (g : Gate) (hg : smGate g) : smGate (leave g).1 := by
  obtain ⟨h1, h2⟩ := hg
  unfold leave smGate
  split
  · exact ⟨h1, h2⟩
  · split
    · simp; omega
    · exact ⟨h1, h2⟩
theorem take_set_all {α : Type} (xs : List α) (i : Nat) (x : α) : (xs.set i x).take xs.length = xs.set i x := List.take_of_length_le (by simp)
attribute [go_sem] take_set_all
def continueAt (g : Gate) (i : Int) : Gate × Int :=
  if gateOk g = false ∨ (g.owner == -1) = true ∨ inB i 0 (g.queues.length - 1) = false then (g, -1)
  else if (g.queues.getD i.toNat 0 == -1) = true then leave g
  else (⟨g.queues.getD i.toNat 0, g.waits, g.queues.set i.toNat (-1)⟩, g.queues.getD i.toNat 0)
theorem iContinueAt_ok (g : Gate) (i : Int) (hg : smGate g) : CallOk Try.prog 28 [.agg (gateR g), .one (iV i)] (.tup [.agg (gateT (continueAt g i).1), .one (iV (continueAt g i).2)]) [none, none] := by
  obtain ⟨h1, h2⟩ := id hg
  refine callOk_of_hcall 40 (hcall_of_body Try.func28 rfl (by kernel_rfl) ?_)
  simp (disch := omega) only [go_sem, Try.ntmps28, Try.results28]
  repeat' (first
    | (with_reducible refine i_seq ?_)
    | ((with_reducible refine i_block ?_); (try simp (disch := omega) only [go_sem, continueAt, *]))
    | ((with_reducible refine i_regionQ (fun Q' hQ => ?_)); (try simp (disch := omega) only [go_sem, continueAt, *]))
    | ((with_reducible refine Imp.go hQ ?_); clear hQ; (try simp (disch := omega) only [go_sem, continueAt, *]))
    | ((with_reducible refine resOk_g (fun h => ?_) (fun h => ?_)) <;> (try simp only [Bool.not_eq_eq_eq_not, Bool.not_true, Bool.not_false, reduceCtorEq] at h) <;> (try have h' := of_decide_eq_true h) <;> (try (have hz : (_ : Int) = (_ : Int) := h'; clear hz h')) <;> (try have h' := of_decide_eq_false h) <;> (try have h' := inB_t h) <;> (try (exfalso; omega)) <;> (try simp (disch := omega) only [go_sem, continueAt, *]))
    | (((with_reducible refine i_condT ?_ ?_); (focus (simp only [go_sem, *]; done))) <;> (try simp (disch := omega) only [go_sem, continueAt, *]))
    | (((with_reducible refine i_condF ?_ ?_); (focus (simp only [go_sem, *]; done))) <;> (try simp (disch := omega) only [go_sem, continueAt, *]))
    | ((with_reducible refine i_cond (by simp only [go_sem, *] <;> rfl) (fun h => ?_) (fun h => ?_)) <;> (try simp only [Bool.not_eq_eq_eq_not, Bool.not_true, Bool.not_false, reduceCtorEq] at h) <;> (try have h' := of_decide_eq_true h) <;> (try (have hz : (_ : Int) = (_ : Int) := h'; clear hz h')) <;> (try have h' := of_decide_eq_false h) <;> (try have h' := inB_t h) <;> (try (exfalso; omega)) <;> (try simp (disch := omega) only [go_sem, continueAt, *]))
    | (with_reducible refine i_treeQ (id := 6) (.fr [0, 1, 2, 3, 4, 5, 6, 7, 8] (.op [9] (.fr [10] (.op [11] (.stop))))) mixedT (by kernel_rfl) (fun Q' hQ => ?_))
    | (with_reducible refine i_treeQ (id := 7) (.fr [0, 1] (altp 2 (.op [3] (.fr [4] (.stop))) (altg 3 (.fr [2, 4] (.stop)) (.stop)))) mixedT (by kernel_rfl) (fun Q' hQ => ?_))
    | (with_reducible exact tr_none)
    | (with_reducible refine tr_stop ?_)
    | ((with_reducible refine tr_fr ?_); (try simp (disch := omega) only [go_sem, continueAt, *]))
    | ((with_reducible refine tr_op (aL_run ?_)); (try simp (disch := omega) only [go_sem, continueAt, *]))
    | ((with_reducible refine tr_alt (by kernel_rfl) (aL_run ?_) ?_) <;> (try simp (disch := omega) only [go_sem, continueAt, *]))
    | ((with_reducible refine tr_altp ?_ ?_) <;> (try simp (disch := omega) only [go_sem, continueAt, *]))
    | ((with_reducible refine pG_split (fun h => ?_) (fun h => ?_)) <;> (try simp only [Bool.not_eq_eq_eq_not, Bool.not_true, Bool.not_false, reduceCtorEq] at h) <;> (try have h' := of_decide_eq_true h) <;> (try (have hz : (_ : Int) = (_ : Int) := h'; clear hz h')) <;> (try have h' := of_decide_eq_false h) <;> (try have h' := inB_t h) <;> (try (exfalso; omega)) <;> (try simp (disch := omega) only [go_sem, continueAt, *]))
    | ((with_reducible refine hcall_of_callOk 40 true (copyGate_ok g hg) ?_ ?_ ?_ ?_ ?_); (focus (simp (disch := omega) only [go_sem, continueAt, natLe_ok]; done)); (focus (simp (disch := omega) only [go_sem, continueAt, natLe_ok]; done)); (focus (simp (disch := omega) only [go_sem, continueAt, natLe_ok]; done)); (focus (simp (disch := omega) only [go_sem, continueAt, natLe_ok]; done)); simp only [go_sem, continueAt]; refine aL_run ?_; (try simp (disch := omega) only [go_sem, continueAt, *]))
    | ((with_reducible refine hcall_of_callOk 40 true (iGateOk_ok g hg) ?_ ?_ ?_ ?_ ?_); (focus (simp (disch := omega) only [go_sem, continueAt, natLe_ok]; done)); (focus (simp (disch := omega) only [go_sem, continueAt, natLe_ok]; done)); (focus (simp (disch := omega) only [go_sem, continueAt, natLe_ok]; done)); (focus (simp (disch := omega) only [go_sem, continueAt, natLe_ok]; done)); simp only [go_sem, continueAt]; refine aL_run ?_; (try simp (disch := omega) only [go_sem, continueAt, *]))
    | ((with_reducible refine hcall_of_callOk 40 true (within_ok i 0 (g.queues.length - 1)) ?_ ?_ ?_ ?_ ?_); (focus (simp (disch := omega) only [go_sem, continueAt, natLe_ok]; done)); (focus (simp (disch := omega) only [go_sem, continueAt, natLe_ok]; done)); (focus (simp (disch := omega) only [go_sem, continueAt, natLe_ok]; done)); (focus (simp (disch := omega) only [go_sem, continueAt, natLe_ok]; done)); simp only [go_sem, continueAt]; refine aL_run ?_; (try simp (disch := omega) only [go_sem, continueAt, *]))
    | ((with_reducible refine hcall_of_callOk 40 true (iLeave_ok g hg) ?_ ?_ ?_ ?_ ?_); (focus (simp (disch := omega) only [go_sem, continueAt, natLe_ok]; done)); (focus (simp (disch := omega) only [go_sem, continueAt, natLe_ok]; done)); (focus (simp (disch := omega) only [go_sem, continueAt, natLe_ok]; done)); (focus (simp (disch := omega) only [go_sem, continueAt, natLe_ok]; done)); simp only [go_sem, continueAt]; refine aL_run ?_; (try simp (disch := omega) only [go_sem, continueAt, *])))
  all_goals (try simp (disch := omega) only [EndK, go_sem, continueAt, natLe_ok, *])
theorem specInB_ok (n lo hi : Int) : CallOk Try.prog 77 [.one (iV n), .one (iV lo), .one (iV hi)] (.s (.one (bV (inB n lo hi)))) [none, none, none] := by
  refine callOk_of_hcall 40 (hcall_of_body Try.func77 rfl (by kernel_rfl) ?_)
  simp (disch := omega) only [go_sem, Try.ntmps77, Try.results77]
  repeat' (first
    | (with_reducible refine i_seq ?_)
    | ((with_reducible refine i_block ?_); (try simp (disch := omega) only [go_sem, inB, *]))
    | ((with_reducible refine i_regionQ (fun Q' hQ => ?_)); (try simp (disch := omega) only [go_sem, inB, *]))
    | ((with_reducible refine Imp.go hQ ?_); clear hQ; (try simp (disch := omega) only [go_sem, inB, *]))
    | ((with_reducible refine resOk_g (fun h => ?_) (fun h => ?_)) <;> (try simp only [Bool.not_eq_eq_eq_not, Bool.not_true, Bool.not_false, reduceCtorEq] at h) <;> (try have h' := of_decide_eq_true h) <;> (try (have hz : (_ : Int) = (_ : Int) := h'; clear hz h')) <;> (try have h' := of_decide_eq_false h) <;> (try have h' := inB_t h) <;> (try (exfalso; omega)) <;> (try simp (disch := omega) only [go_sem, inB, *]))
    | (((with_reducible refine i_condT ?_ ?_); (focus (simp only [go_sem, *]; done))) <;> (try simp (disch := omega) only [go_sem, inB, *]))
    | (((with_reducible refine i_condF ?_ ?_); (focus (simp only [go_sem, *]; done))) <;> (try simp (disch := omega) only [go_sem, inB, *]))
    | ((with_reducible refine i_cond (by simp only [go_sem, *] <;> rfl) (fun h => ?_) (fun h => ?_)) <;> (try simp only [Bool.not_eq_eq_eq_not, Bool.not_true, Bool.not_false, reduceCtorEq] at h) <;> (try have h' := of_decide_eq_true h) <;> (try (have hz : (_ : Int) = (_ : Int) := h'; clear hz h')) <;> (try have h' := of_decide_eq_false h) <;> (try have h' := inB_t h) <;> (try (exfalso; omega)) <;> (try simp (disch := omega) only [go_sem, inB, *])))
  all_goals (try simp (disch := omega) only [EndK, go_sem, inB, natLe_ok, *])
def delayIn (g : Gate) (i : Int) : Gate × Int × Bool :=
  if gateOk g = false ∨ (g.owner == -1) = true ∨ inB i 0 (g.queues.length - 1) = false ∨ (g.queues.getD i.toNat 0 != -1) = true then (g, -1, false)
  else (⟨(leave g).1.owner, (leave g).1.waits, (leave g).1.queues.set i.toNat g.owner⟩, (leave g).2, true)
theorem leave_q (g : Gate) : (leave g).1.queues = g.queues := by unfold leave; split <;> (try split) <;> rfl
theorem iDelayIn_ok (g : Gate) (i : Int) (hg : smGate g) : CallOk Try.prog 25 [.agg (gateR g), .one (iV i)] (.tup [.agg (gateT (delayIn g i).1), .one (iV (delayIn g i).2.1), .one (bV (delayIn g i).2.2)]) [none, none] := by
  obtain ⟨h1, h2⟩ := id hg
  have hq := leave_q g
  refine callOk_of_hcall 40 (hcall_of_body Try.func25 rfl (by kernel_rfl) ?_)
  simp (disch := omega) only [go_sem, Try.ntmps25, Try.results25]
  repeat' (first
    | (with_reducible refine i_seq ?_)
    | ((with_reducible refine i_block ?_); (try simp (disch := omega) only [go_sem, delayIn, leave_q, *]))
    | ((with_reducible refine i_regionQ (fun Q' hQ => ?_)); (try simp (disch := omega) only [go_sem, delayIn, leave_q, *]))
    | ((with_reducible refine Imp.go hQ ?_); clear hQ; (try simp (disch := omega) only [go_sem, delayIn, leave_q, *]))
    | ((with_reducible refine resOk_g (fun h => ?_) (fun h => ?_)) <;> (try simp only [Bool.not_eq_eq_eq_not, Bool.not_true, Bool.not_false, reduceCtorEq] at h) <;> (try have h' := of_decide_eq_true h) <;> (try (have hz : (_ : Int) = (_ : Int) := h'; clear hz h')) <;> (try have h' := of_decide_eq_false h) <;> (try have h' := inB_t h) <;> (try (exfalso; omega)) <;> (try simp (disch := omega) only [go_sem, delayIn, leave_q, *]))
    | (((with_reducible refine i_condT ?_ ?_); (focus (simp only [go_sem, *]; done))) <;> (try simp (disch := omega) only [go_sem, delayIn, leave_q, *]))
    | (((with_reducible refine i_condF ?_ ?_); (focus (simp only [go_sem, *]; done))) <;> (try simp (disch := omega) only [go_sem, delayIn, leave_q, *]))
    | ((with_reducible refine i_cond (by simp only [go_sem, *] <;> rfl) (fun h => ?_) (fun h => ?_)) <;> (try simp only [Bool.not_eq_eq_eq_not, Bool.not_true, Bool.not_false, reduceCtorEq] at h) <;> (try have h' := of_decide_eq_true h) <;> (try (have hz : (_ : Int) = (_ : Int) := h'; clear hz h')) <;> (try have h' := of_decide_eq_false h) <;> (try have h' := inB_t h) <;> (try (exfalso; omega)) <;> (try simp (disch := omega) only [go_sem, delayIn, leave_q, *]))
    | ((with_reducible refine hcall_of_callOk 40 true (copyGate_ok g hg) ?_ ?_ ?_ ?_ ?_); (focus (simp (disch := omega) only [go_sem, delayIn, leave_q, natLe_ok]; done)); (focus (simp (disch := omega) only [go_sem, delayIn, leave_q, natLe_ok]; done)); (focus (simp (disch := omega) only [go_sem, delayIn, leave_q, natLe_ok]; done)); (focus (simp (disch := omega) only [go_sem, delayIn, leave_q, natLe_ok]; done)); simp only [go_sem, delayIn, leave_q]; refine aL_run ?_; (try simp (disch := omega) only [go_sem, delayIn, leave_q, *]))
    | ((with_reducible refine hcall_of_callOk 40 true (iGateOk_ok g hg) ?_ ?_ ?_ ?_ ?_); (focus (simp (disch := omega) only [go_sem, delayIn, leave_q, natLe_ok]; done)); (focus (simp (disch := omega) only [go_sem, delayIn, leave_q, natLe_ok]; done)); (focus (simp (disch := omega) only [go_sem, delayIn, leave_q, natLe_ok]; done)); (focus (simp (disch := omega) only [go_sem, delayIn, leave_q, natLe_ok]; done)); simp only [go_sem, delayIn, leave_q]; refine aL_run ?_; (try simp (disch := omega) only [go_sem, delayIn, leave_q, *]))
    | ((with_reducible refine hcall_of_callOk 40 true (within_ok i 0 (g.queues.length - 1)) ?_ ?_ ?_ ?_ ?_); (focus (simp (disch := omega) only [go_sem, delayIn, leave_q, natLe_ok]; done)); (focus (simp (disch := omega) only [go_sem, delayIn, leave_q, natLe_ok]; done)); (focus (simp (disch := omega) only [go_sem, delayIn, leave_q, natLe_ok]; done)); (focus (simp (disch := omega) only [go_sem, delayIn, leave_q, natLe_ok]; done)); simp only [go_sem, delayIn, leave_q]; refine aL_run ?_; (try simp (disch := omega) only [go_sem, delayIn, leave_q, *]))
    | ((with_reducible refine hcall_of_callOk 40 true (iLeave_ok g hg) ?_ ?_ ?_ ?_ ?_); (focus (simp (disch := omega) only [go_sem, delayIn, leave_q, natLe_ok]; done)); (focus (simp (disch := omega) only [go_sem, delayIn, leave_q, natLe_ok]; done)); (focus (simp (disch := omega) only [go_sem, delayIn, leave_q, natLe_ok]; done)); (focus (simp (disch := omega) only [go_sem, delayIn, leave_q, natLe_ok]; done)); simp only [go_sem, delayIn, leave_q]; refine aL_run ?_; (try simp (disch := omega) only [go_sem, delayIn, leave_q, *])))
  all_goals (try simp (disch := omega) only [EndK, go_sem, delayIn, leave_q, natLe_ok, *])
end Go.Proofs.Ytgeoipplkjgnfaa.E
