import Derived.Test.YtgeoipplkjgnfaaGt11
set_option linter.unusedVariables false
set_option linter.unusedSimpArgs false
set_option maxRecDepth 100000
namespace Go.Proofs.Ytgeoipplkjgnfaa.E
theorem sDelayIn_ok (g : Gate) (i : Int) (hg : smGate g) : CallOk Try.prog 35 [.agg (gateR g), .one (iV i)] (.tup [.agg (gateT (delayIn g i).1), .one (iV (delayIn g i).2.1), .one (bV (delayIn g i).2.2)]) [none, none] := by
  obtain ⟨h1, h2⟩ := id hg
  cases hk : gateOk g
  · have e : delayIn g i = (g, -1, false) := by simp [delayIn, hk]
    rw [e]
    refine callOk_of_hcall 40 (hcall_of_body Try.func35 rfl (by kernel_rfl) ?_)
    simp (disch := omega) only [go_sem, Try.ntmps35, Try.results35]
    repeat' (first
      | (with_reducible refine i_seq ?_)
      | ((with_reducible refine i_block ?_); (try simp (disch := omega) only [go_sem, *]))
      | ((with_reducible refine i_regionQ (fun Q' hQ => ?_)); (try simp (disch := omega) only [go_sem, *]))
      | ((with_reducible refine Imp.go hQ ?_); clear hQ; (try simp (disch := omega) only [go_sem, *]))
      | ((with_reducible refine resOk_g (fun h => ?_) (fun h => ?_)) <;> (try simp only [Bool.not_eq_eq_eq_not, Bool.not_true, Bool.not_false, reduceCtorEq] at h) <;> (try have h' := of_decide_eq_true h) <;> (try (have hz : (_ : Int) = (_ : Int) := h'; clear hz h')) <;> (try have h' := of_decide_eq_false h) <;> (try have h' := inB_t h) <;> (try (exfalso; omega)) <;> (try simp (disch := omega) only [go_sem, *]))
      | (((with_reducible refine i_condT ?_ ?_); (focus (simp only [go_sem, *]; done))) <;> (try simp (disch := omega) only [go_sem, *]))
      | (((with_reducible refine i_condF ?_ ?_); (focus (simp only [go_sem, *]; done))) <;> (try simp (disch := omega) only [go_sem, *]))
      | ((with_reducible refine i_cond (by simp only [go_sem, *] <;> rfl) (fun h => ?_) (fun h => ?_)) <;> (try simp only [Bool.not_eq_eq_eq_not, Bool.not_true, Bool.not_false, reduceCtorEq] at h) <;> (try have h' := of_decide_eq_true h) <;> (try (have hz : (_ : Int) = (_ : Int) := h'; clear hz h')) <;> (try have h' := of_decide_eq_false h) <;> (try have h' := inB_t h) <;> (try (exfalso; omega)) <;> (try simp (disch := omega) only [go_sem, *]))
      | ((with_reducible refine hcall_of_callOk 40 true (specCopy_ok g hg) ?_ ?_ ?_ ?_ ?_); (focus (simp (disch := omega) only [go_sem, natLe_ok]; done)); (focus (simp (disch := omega) only [go_sem, natLe_ok]; done)); (focus (simp (disch := omega) only [go_sem, natLe_ok]; done)); (focus (simp (disch := omega) only [go_sem, natLe_ok]; done)); simp only [go_sem]; refine aL_run ?_; (try simp (disch := omega) only [go_sem, *]))
      | ((with_reducible refine hcall_of_callOk 40 true (sGateOk_ok g hg) ?_ ?_ ?_ ?_ ?_); (focus (simp (disch := omega) only [go_sem, natLe_ok]; done)); (focus (simp (disch := omega) only [go_sem, natLe_ok]; done)); (focus (simp (disch := omega) only [go_sem, natLe_ok]; done)); (focus (simp (disch := omega) only [go_sem, natLe_ok]; done)); simp only [go_sem]; refine aL_run ?_; (try simp (disch := omega) only [go_sem, *]))
      | ((with_reducible refine hcall_of_callOk 40 true (specInB_ok i 0 (g.queues.length - 1)) ?_ ?_ ?_ ?_ ?_); (focus (simp (disch := omega) only [go_sem, natLe_ok]; done)); (focus (simp (disch := omega) only [go_sem, natLe_ok]; done)); (focus (simp (disch := omega) only [go_sem, natLe_ok]; done)); (focus (simp (disch := omega) only [go_sem, natLe_ok]; done)); simp only [go_sem]; refine aL_run ?_; (try simp (disch := omega) only [go_sem, *])))
    all_goals (try simp (disch := omega) only [EndK, go_sem, natLe_ok, *])
  · cases hb : inB i 0 (g.queues.length - 1)
    · have e : delayIn g i = (g, -1, false) := by simp [delayIn, hb]
      rw [e]
      refine callOk_of_hcall 40 (hcall_of_body Try.func35 rfl (by kernel_rfl) ?_)
      simp (disch := omega) only [go_sem, Try.ntmps35, Try.results35]
      repeat' (first
        | (with_reducible refine i_seq ?_)
        | ((with_reducible refine i_block ?_); (try simp (disch := omega) only [go_sem, *]))
        | ((with_reducible refine i_regionQ (fun Q' hQ => ?_)); (try simp (disch := omega) only [go_sem, *]))
        | ((with_reducible refine Imp.go hQ ?_); clear hQ; (try simp (disch := omega) only [go_sem, *]))
        | ((with_reducible refine resOk_g (fun h => ?_) (fun h => ?_)) <;> (try simp only [Bool.not_eq_eq_eq_not, Bool.not_true, Bool.not_false, reduceCtorEq] at h) <;> (try have h' := of_decide_eq_true h) <;> (try (have hz : (_ : Int) = (_ : Int) := h'; clear hz h')) <;> (try have h' := of_decide_eq_false h) <;> (try have h' := inB_t h) <;> (try (exfalso; omega)) <;> (try simp (disch := omega) only [go_sem, *]))
        | (((with_reducible refine i_condT ?_ ?_); (focus (simp only [go_sem, *]; done))) <;> (try simp (disch := omega) only [go_sem, *]))
        | (((with_reducible refine i_condF ?_ ?_); (focus (simp only [go_sem, *]; done))) <;> (try simp (disch := omega) only [go_sem, *]))
        | ((with_reducible refine i_cond (by simp only [go_sem, *] <;> rfl) (fun h => ?_) (fun h => ?_)) <;> (try simp only [Bool.not_eq_eq_eq_not, Bool.not_true, Bool.not_false, reduceCtorEq] at h) <;> (try have h' := of_decide_eq_true h) <;> (try (have hz : (_ : Int) = (_ : Int) := h'; clear hz h')) <;> (try have h' := of_decide_eq_false h) <;> (try have h' := inB_t h) <;> (try (exfalso; omega)) <;> (try simp (disch := omega) only [go_sem, *]))
        | ((with_reducible refine hcall_of_callOk 40 true (specCopy_ok g hg) ?_ ?_ ?_ ?_ ?_); (focus (simp (disch := omega) only [go_sem, natLe_ok]; done)); (focus (simp (disch := omega) only [go_sem, natLe_ok]; done)); (focus (simp (disch := omega) only [go_sem, natLe_ok]; done)); (focus (simp (disch := omega) only [go_sem, natLe_ok]; done)); simp only [go_sem]; refine aL_run ?_; (try simp (disch := omega) only [go_sem, *]))
        | ((with_reducible refine hcall_of_callOk 40 true (sGateOk_ok g hg) ?_ ?_ ?_ ?_ ?_); (focus (simp (disch := omega) only [go_sem, natLe_ok]; done)); (focus (simp (disch := omega) only [go_sem, natLe_ok]; done)); (focus (simp (disch := omega) only [go_sem, natLe_ok]; done)); (focus (simp (disch := omega) only [go_sem, natLe_ok]; done)); simp only [go_sem]; refine aL_run ?_; (try simp (disch := omega) only [go_sem, *]))
        | ((with_reducible refine hcall_of_callOk 40 true (specInB_ok i 0 (g.queues.length - 1)) ?_ ?_ ?_ ?_ ?_); (focus (simp (disch := omega) only [go_sem, natLe_ok]; done)); (focus (simp (disch := omega) only [go_sem, natLe_ok]; done)); (focus (simp (disch := omega) only [go_sem, natLe_ok]; done)); (focus (simp (disch := omega) only [go_sem, natLe_ok]; done)); simp only [go_sem]; refine aL_run ?_; (try simp (disch := omega) only [go_sem, *])))
      all_goals (try simp (disch := omega) only [EndK, go_sem, natLe_ok, *])
    · have hi := inB_t hb
      have hs : smGate ⟨g.owner, g.waits, g.queues.set i.toNat g.owner⟩ := ⟨h1, by simpa using h2⟩
      have hn := specNext_ok ⟨g.owner, g.waits, g.queues.set i.toNat g.owner⟩ hs
      have e : delayIn g i = if decide (g.owner < 0) = true then (g, -1, false) else if decide (0 ≤ g.queues.getD i.toNat 0) = true then (g, -1, false) else (nextG ⟨g.owner, g.waits, g.queues.set i.toNat g.owner⟩, (nextG ⟨g.owner, g.waits, g.queues.set i.toNat g.owner⟩).owner, true) := by
        have hq := gateOk_q hk (k := i.toNat) (by omega)
        have hz : decide (0 ≤ g.queues.getD i.toNat 0) = (g.queues.getD i.toNat 0 != -1) := by
          have hn : (0 ≤ g.queues.getD i.toNat 0) ↔ ¬ (g.queues.getD i.toNat 0 < 0) := by omega
          simp only [bne, ← hq, hn, decide_not]
        rw [hz]
        by_cases ho : decide (g.owner < 0) = true
        · simp only [delayIn, ← gateOk_owner hk, ho, hk, hb, true_or, or_true, if_true]
        · have ho' : (g.owner == -1) = false := by rw [← gateOk_owner hk]; simpa using ho
          simp only [delayIn, leave_eq hk, ho, ho', hk, hb, reduceCtorEq, false_or, if_false]
          split
          · rfl
          · unfold nextG; split <;> rfl
      rw [e]
      refine callOk_of_hcall 40 (hcall_of_body Try.func35 rfl (by kernel_rfl) ?_)
      simp (disch := omega) only [go_sem, Try.ntmps35, Try.results35]
      repeat' (first
        | (with_reducible refine i_seq ?_)
        | ((with_reducible refine i_block ?_); (try simp (disch := omega) only [go_sem, *]))
        | ((with_reducible refine i_regionQ (fun Q' hQ => ?_)); (try simp (disch := omega) only [go_sem, *]))
        | ((with_reducible refine Imp.go hQ ?_); clear hQ; (try simp (disch := omega) only [go_sem, *]))
        | ((with_reducible refine resOk_g (fun h => ?_) (fun h => ?_)) <;> (try simp only [Bool.not_eq_eq_eq_not, Bool.not_true, Bool.not_false, reduceCtorEq] at h) <;> (try have h' := of_decide_eq_true h) <;> (try (have hz : (_ : Int) = (_ : Int) := h'; clear hz h')) <;> (try have h' := of_decide_eq_false h) <;> (try have h' := inB_t h) <;> (try (exfalso; omega)) <;> (try simp (disch := omega) only [go_sem, *]))
        | (((with_reducible refine i_condT ?_ ?_); (focus (simp only [go_sem, *]; done))) <;> (try simp (disch := omega) only [go_sem, *]))
        | (((with_reducible refine i_condF ?_ ?_); (focus (simp only [go_sem, *]; done))) <;> (try simp (disch := omega) only [go_sem, *]))
        | ((with_reducible refine i_cond (by simp only [go_sem, *] <;> rfl) (fun h => ?_) (fun h => ?_)) <;> (try simp only [Bool.not_eq_eq_eq_not, Bool.not_true, Bool.not_false, reduceCtorEq] at h) <;> (try have h' := of_decide_eq_true h) <;> (try (have hz : (_ : Int) = (_ : Int) := h'; clear hz h')) <;> (try have h' := of_decide_eq_false h) <;> (try have h' := inB_t h) <;> (try (exfalso; omega)) <;> (try simp (disch := omega) only [go_sem, *]))
        | ((with_reducible refine hcall_of_callOk 40 true (specCopy_ok g hg) ?_ ?_ ?_ ?_ ?_); (focus (simp (disch := omega) only [go_sem, natLe_ok]; done)); (focus (simp (disch := omega) only [go_sem, natLe_ok]; done)); (focus (simp (disch := omega) only [go_sem, natLe_ok]; done)); (focus (simp (disch := omega) only [go_sem, natLe_ok]; done)); simp only [go_sem]; refine aL_run ?_; (try simp (disch := omega) only [go_sem, *]))
        | ((with_reducible refine hcall_of_callOk 40 true (sGateOk_ok g hg) ?_ ?_ ?_ ?_ ?_); (focus (simp (disch := omega) only [go_sem, natLe_ok]; done)); (focus (simp (disch := omega) only [go_sem, natLe_ok]; done)); (focus (simp (disch := omega) only [go_sem, natLe_ok]; done)); (focus (simp (disch := omega) only [go_sem, natLe_ok]; done)); simp only [go_sem]; refine aL_run ?_; (try simp (disch := omega) only [go_sem, *]))
        | ((with_reducible refine hcall_of_callOk 40 true (specInB_ok i 0 (g.queues.length - 1)) ?_ ?_ ?_ ?_ ?_); (focus (simp (disch := omega) only [go_sem, natLe_ok]; done)); (focus (simp (disch := omega) only [go_sem, natLe_ok]; done)); (focus (simp (disch := omega) only [go_sem, natLe_ok]; done)); (focus (simp (disch := omega) only [go_sem, natLe_ok]; done)); simp only [go_sem]; refine aL_run ?_; (try simp (disch := omega) only [go_sem, *]))
        | ((with_reducible refine hcall_of_callOk 40 true (hn) ?_ ?_ ?_ ?_ ?_); (focus (simp (disch := omega) only [go_sem, natLe_ok]; done)); (focus (simp (disch := omega) only [go_sem, natLe_ok]; done)); (focus (simp (disch := omega) only [go_sem, natLe_ok]; done)); (focus (simp (disch := omega) only [go_sem, natLe_ok]; done)); simp only [go_sem]; refine aL_run ?_; (try simp (disch := omega) only [go_sem, *])))
      all_goals (try simp (disch := omega) only [EndK, go_sem, natLe_ok, *])
end Go.Proofs.Ytgeoipplkjgnfaa.E
