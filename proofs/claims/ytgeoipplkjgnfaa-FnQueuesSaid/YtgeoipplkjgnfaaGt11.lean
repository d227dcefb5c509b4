import Derived.Test.YtgeoipplkjgnfaaGt9
set_option linter.unusedVariables false
set_option linter.unusedSimpArgs false
set_option maxRecDepth 100000
namespace Go.Proofs.Ytgeoipplkjgnfaa.E
theorem allGood_mem {xs : List Int} (h : allGood xs xs.length = true) {x : Int} (hx : x ∈ xs) : inB x 0 3 = true := by
  obtain ⟨k, hk, e⟩ := List.getElem_of_mem hx
  simp only [allGood, List.all_eq_true] at h
  have := h k (by simpa using hk)
  simp only [goodAt, Bool.and_eq_true] at this
  simpa [hk, e] using this.1
theorem gateOk_q {g : Gate} (h : gateOk g = true) {k : Nat} (hk : k < g.queues.length) : decide (g.queues.getD k 0 < 0) = (g.queues.getD k 0 == -1) := by
  by_cases ho : g.queues.getD k 0 = -1
  · rw [ho]; rfl
  · have hm : g.queues.getD k 0 ∈ inGate g := by
      unfold inGate
      refine List.mem_append_right _ (List.mem_filter.2 ⟨?_, by simpa using ho⟩)
      simp [hk]
    simp only [gateOk, Bool.and_eq_true] at h
    have := inB_t (allGood_mem h.1 hm)
    have h1 : (g.queues.getD k 0 == -1) = false := by simpa using ho
    rw [h1]; simp only [decide_eq_false_iff_not]; omega
theorem sContinueAt_ok (g : Gate) (i : Int) (hg : smGate g) : CallOk Try.prog 36 [.agg (gateR g), .one (iV i)] (.tup [.agg (gateT (continueAt g i).1), .one (iV (continueAt g i).2)]) [none, none] := by
  obtain ⟨h1, h2⟩ := id hg
  cases hk : gateOk g
  · have e : continueAt g i = (g, -1) := by simp [continueAt, hk]
    rw [e]
    refine callOk_of_hcall 40 (hcall_of_body Try.func36 rfl (by kernel_rfl) ?_)
    simp (disch := omega) only [go_sem, Try.ntmps36, Try.results36]
    repeat' (first
      | (with_reducible refine i_seq ?_)
      | ((with_reducible refine i_block ?_); (try simp (disch := omega) only [go_sem, *]))
      | ((with_reducible refine i_regionQ (fun Q' hQ => ?_)); (try simp (disch := omega) only [go_sem, *]))
      | ((with_reducible refine Imp.go hQ ?_); clear hQ; (try simp (disch := omega) only [go_sem, *]))
      | ((with_reducible refine resOk_g (fun h => ?_) (fun h => ?_)) <;> (try simp only [Bool.not_eq_eq_eq_not, Bool.not_true, Bool.not_false, reduceCtorEq] at h) <;> (try have h' := of_decide_eq_true h) <;> (try (have hz : (_ : Int) = (_ : Int) := h'; clear hz h')) <;> (try have h' := of_decide_eq_false h) <;> (try have h' := inB_t h) <;> (try (exfalso; omega)) <;> (try simp (disch := omega) only [go_sem, *]))
      | (((with_reducible refine i_condT ?_ ?_); (focus (simp only [go_sem, *]; done))) <;> (try simp (disch := omega) only [go_sem, *]))
      | (((with_reducible refine i_condF ?_ ?_); (focus (simp only [go_sem, *]; done))) <;> (try simp (disch := omega) only [go_sem, *]))
      | ((with_reducible refine i_cond (by simp only [go_sem, *] <;> rfl) (fun h => ?_) (fun h => ?_)) <;> (try simp only [Bool.not_eq_eq_eq_not, Bool.not_true, Bool.not_false, reduceCtorEq] at h) <;> (try have h' := of_decide_eq_true h) <;> (try (have hz : (_ : Int) = (_ : Int) := h'; clear hz h')) <;> (try have h' := of_decide_eq_false h) <;> (try have h' := inB_t h) <;> (try (exfalso; omega)) <;> (try simp (disch := omega) only [go_sem, *]))
      | (with_reducible refine i_treeQ (id := 9) (.fr [0, 1] (altp 2 (.op [3] (.fr [4] (.stop))) (altg 3 (.fr [2, 4] (.stop)) (.stop)))) mixedT (by kernel_rfl) (fun Q' hQ => ?_))
      | (with_reducible exact tr_none)
      | (with_reducible refine tr_stop ?_)
      | ((with_reducible refine tr_fr ?_); (try simp (disch := omega) only [go_sem, *]))
      | ((with_reducible refine tr_op (aL_run ?_)); (try simp (disch := omega) only [go_sem, *]))
      | ((with_reducible refine tr_alt (by kernel_rfl) (aL_run ?_) ?_) <;> (try simp (disch := omega) only [go_sem, *]))
      | ((with_reducible refine tr_altp ?_ ?_) <;> (try simp (disch := omega) only [go_sem, *]))
      | ((with_reducible refine pG_split (fun h => ?_) (fun h => ?_)) <;> (try simp only [Bool.not_eq_eq_eq_not, Bool.not_true, Bool.not_false, reduceCtorEq] at h) <;> (try have h' := of_decide_eq_true h) <;> (try (have hz : (_ : Int) = (_ : Int) := h'; clear hz h')) <;> (try have h' := of_decide_eq_false h) <;> (try have h' := inB_t h) <;> (try (exfalso; omega)) <;> (try simp (disch := omega) only [go_sem, *]))
      | ((with_reducible refine hcall_of_callOk 40 true (specCopy_ok g hg) ?_ ?_ ?_ ?_ ?_); (focus (simp (disch := omega) only [go_sem, natLe_ok]; done)); (focus (simp (disch := omega) only [go_sem, natLe_ok]; done)); (focus (simp (disch := omega) only [go_sem, natLe_ok]; done)); (focus (simp (disch := omega) only [go_sem, natLe_ok]; done)); simp only [go_sem]; refine aL_run ?_; (try simp (disch := omega) only [go_sem, *]))
      | ((with_reducible refine hcall_of_callOk 40 true (sGateOk_ok g hg) ?_ ?_ ?_ ?_ ?_); (focus (simp (disch := omega) only [go_sem, natLe_ok]; done)); (focus (simp (disch := omega) only [go_sem, natLe_ok]; done)); (focus (simp (disch := omega) only [go_sem, natLe_ok]; done)); (focus (simp (disch := omega) only [go_sem, natLe_ok]; done)); simp only [go_sem]; refine aL_run ?_; (try simp (disch := omega) only [go_sem, *]))
      | ((with_reducible refine hcall_of_callOk 40 true (specInB_ok i 0 (g.queues.length - 1)) ?_ ?_ ?_ ?_ ?_); (focus (simp (disch := omega) only [go_sem, natLe_ok]; done)); (focus (simp (disch := omega) only [go_sem, natLe_ok]; done)); (focus (simp (disch := omega) only [go_sem, natLe_ok]; done)); (focus (simp (disch := omega) only [go_sem, natLe_ok]; done)); simp only [go_sem]; refine aL_run ?_; (try simp (disch := omega) only [go_sem, *]))
      | ((with_reducible refine hcall_of_callOk 40 true (specNext_ok g hg) ?_ ?_ ?_ ?_ ?_); (focus (simp (disch := omega) only [go_sem, natLe_ok]; done)); (focus (simp (disch := omega) only [go_sem, natLe_ok]; done)); (focus (simp (disch := omega) only [go_sem, natLe_ok]; done)); (focus (simp (disch := omega) only [go_sem, natLe_ok]; done)); simp only [go_sem]; refine aL_run ?_; (try simp (disch := omega) only [go_sem, *])))
    all_goals (try simp (disch := omega) only [EndK, go_sem, natLe_ok, *])
  · cases hb : inB i 0 (g.queues.length - 1)
    · have e : continueAt g i = (g, -1) := by simp [continueAt, hb]
      rw [e]
      refine callOk_of_hcall 40 (hcall_of_body Try.func36 rfl (by kernel_rfl) ?_)
      simp (disch := omega) only [go_sem, Try.ntmps36, Try.results36]
      repeat' (first
        | (with_reducible refine i_seq ?_)
        | ((with_reducible refine i_block ?_); (try simp (disch := omega) only [go_sem, *]))
        | ((with_reducible refine i_regionQ (fun Q' hQ => ?_)); (try simp (disch := omega) only [go_sem, *]))
        | ((with_reducible refine Imp.go hQ ?_); clear hQ; (try simp (disch := omega) only [go_sem, *]))
        | ((with_reducible refine resOk_g (fun h => ?_) (fun h => ?_)) <;> (try simp only [Bool.not_eq_eq_eq_not, Bool.not_true, Bool.not_false, reduceCtorEq] at h) <;> (try have h' := of_decide_eq_true h) <;> (try (have hz : (_ : Int) = (_ : Int) := h'; clear hz h')) <;> (try have h' := of_decide_eq_false h) <;> (try have h' := inB_t h) <;> (try (exfalso; omega)) <;> (try simp (disch := omega) only [go_sem, *]))
        | (((with_reducible refine i_condT ?_ ?_); (focus (simp only [go_sem, *]; done))) <;> (try simp (disch := omega) only [go_sem, *]))
        | (((with_reducible refine i_condF ?_ ?_); (focus (simp only [go_sem, *]; done))) <;> (try simp (disch := omega) only [go_sem, *]))
        | ((with_reducible refine i_cond (by simp only [go_sem, *] <;> rfl) (fun h => ?_) (fun h => ?_)) <;> (try simp only [Bool.not_eq_eq_eq_not, Bool.not_true, Bool.not_false, reduceCtorEq] at h) <;> (try have h' := of_decide_eq_true h) <;> (try (have hz : (_ : Int) = (_ : Int) := h'; clear hz h')) <;> (try have h' := of_decide_eq_false h) <;> (try have h' := inB_t h) <;> (try (exfalso; omega)) <;> (try simp (disch := omega) only [go_sem, *]))
        | (with_reducible refine i_treeQ (id := 9) (.fr [0, 1] (altp 2 (.op [3] (.fr [4] (.stop))) (altg 3 (.fr [2, 4] (.stop)) (.stop)))) mixedT (by kernel_rfl) (fun Q' hQ => ?_))
        | (with_reducible exact tr_none)
        | (with_reducible refine tr_stop ?_)
        | ((with_reducible refine tr_fr ?_); (try simp (disch := omega) only [go_sem, *]))
        | ((with_reducible refine tr_op (aL_run ?_)); (try simp (disch := omega) only [go_sem, *]))
        | ((with_reducible refine tr_alt (by kernel_rfl) (aL_run ?_) ?_) <;> (try simp (disch := omega) only [go_sem, *]))
        | ((with_reducible refine tr_altp ?_ ?_) <;> (try simp (disch := omega) only [go_sem, *]))
        | ((with_reducible refine pG_split (fun h => ?_) (fun h => ?_)) <;> (try simp only [Bool.not_eq_eq_eq_not, Bool.not_true, Bool.not_false, reduceCtorEq] at h) <;> (try have h' := of_decide_eq_true h) <;> (try (have hz : (_ : Int) = (_ : Int) := h'; clear hz h')) <;> (try have h' := of_decide_eq_false h) <;> (try have h' := inB_t h) <;> (try (exfalso; omega)) <;> (try simp (disch := omega) only [go_sem, *]))
        | ((with_reducible refine hcall_of_callOk 40 true (specCopy_ok g hg) ?_ ?_ ?_ ?_ ?_); (focus (simp (disch := omega) only [go_sem, natLe_ok]; done)); (focus (simp (disch := omega) only [go_sem, natLe_ok]; done)); (focus (simp (disch := omega) only [go_sem, natLe_ok]; done)); (focus (simp (disch := omega) only [go_sem, natLe_ok]; done)); simp only [go_sem]; refine aL_run ?_; (try simp (disch := omega) only [go_sem, *]))
        | ((with_reducible refine hcall_of_callOk 40 true (sGateOk_ok g hg) ?_ ?_ ?_ ?_ ?_); (focus (simp (disch := omega) only [go_sem, natLe_ok]; done)); (focus (simp (disch := omega) only [go_sem, natLe_ok]; done)); (focus (simp (disch := omega) only [go_sem, natLe_ok]; done)); (focus (simp (disch := omega) only [go_sem, natLe_ok]; done)); simp only [go_sem]; refine aL_run ?_; (try simp (disch := omega) only [go_sem, *]))
        | ((with_reducible refine hcall_of_callOk 40 true (specInB_ok i 0 (g.queues.length - 1)) ?_ ?_ ?_ ?_ ?_); (focus (simp (disch := omega) only [go_sem, natLe_ok]; done)); (focus (simp (disch := omega) only [go_sem, natLe_ok]; done)); (focus (simp (disch := omega) only [go_sem, natLe_ok]; done)); (focus (simp (disch := omega) only [go_sem, natLe_ok]; done)); simp only [go_sem]; refine aL_run ?_; (try simp (disch := omega) only [go_sem, *]))
        | ((with_reducible refine hcall_of_callOk 40 true (specNext_ok g hg) ?_ ?_ ?_ ?_ ?_); (focus (simp (disch := omega) only [go_sem, natLe_ok]; done)); (focus (simp (disch := omega) only [go_sem, natLe_ok]; done)); (focus (simp (disch := omega) only [go_sem, natLe_ok]; done)); (focus (simp (disch := omega) only [go_sem, natLe_ok]; done)); simp only [go_sem]; refine aL_run ?_; (try simp (disch := omega) only [go_sem, *])))
      all_goals (try simp (disch := omega) only [EndK, go_sem, natLe_ok, *])
    · have hi := inB_t hb
      have e : continueAt g i = if decide (g.owner < 0) = true then (g, -1) else if decide (g.queues.getD i.toNat 0 < 0) = true then (nextG g, (nextG g).owner) else (⟨g.queues.getD i.toNat 0, g.waits, g.queues.set i.toNat (-1)⟩, g.queues.getD i.toNat 0) := by
        rw [gateOk_owner hk, gateOk_q hk (by omega)]
        simp only [continueAt, leave_eq hk, gateOk_owner hk, hk, hb, reduceCtorEq, false_or, or_false]
        split <;> simp_all
      rw [e]
      refine callOk_of_hcall 40 (hcall_of_body Try.func36 rfl (by kernel_rfl) ?_)
      simp (disch := omega) only [go_sem, Try.ntmps36, Try.results36]
      repeat' (first
        | (with_reducible refine i_seq ?_)
        | ((with_reducible refine i_block ?_); (try simp (disch := omega) only [go_sem, *]))
        | ((with_reducible refine i_regionQ (fun Q' hQ => ?_)); (try simp (disch := omega) only [go_sem, *]))
        | ((with_reducible refine Imp.go hQ ?_); clear hQ; (try simp (disch := omega) only [go_sem, *]))
        | ((with_reducible refine resOk_g (fun h => ?_) (fun h => ?_)) <;> (try simp only [Bool.not_eq_eq_eq_not, Bool.not_true, Bool.not_false, reduceCtorEq] at h) <;> (try have h' := of_decide_eq_true h) <;> (try (have hz : (_ : Int) = (_ : Int) := h'; clear hz h')) <;> (try have h' := of_decide_eq_false h) <;> (try have h' := inB_t h) <;> (try (exfalso; omega)) <;> (try simp (disch := omega) only [go_sem, *]))
        | (((with_reducible refine i_condT ?_ ?_); (focus (simp only [go_sem, *]; done))) <;> (try simp (disch := omega) only [go_sem, *]))
        | (((with_reducible refine i_condF ?_ ?_); (focus (simp only [go_sem, *]; done))) <;> (try simp (disch := omega) only [go_sem, *]))
        | ((with_reducible refine i_cond (by simp only [go_sem, *] <;> rfl) (fun h => ?_) (fun h => ?_)) <;> (try simp only [Bool.not_eq_eq_eq_not, Bool.not_true, Bool.not_false, reduceCtorEq] at h) <;> (try have h' := of_decide_eq_true h) <;> (try (have hz : (_ : Int) = (_ : Int) := h'; clear hz h')) <;> (try have h' := of_decide_eq_false h) <;> (try have h' := inB_t h) <;> (try (exfalso; omega)) <;> (try simp (disch := omega) only [go_sem, *]))
        | (with_reducible refine i_treeQ (id := 9) (.fr [0, 1] (altp 2 (.op [3] (.fr [4] (.stop))) (altg 3 (.fr [2, 4] (.stop)) (.stop)))) mixedT (by kernel_rfl) (fun Q' hQ => ?_))
        | (with_reducible exact tr_none)
        | (with_reducible refine tr_stop ?_)
        | ((with_reducible refine tr_fr ?_); (try simp (disch := omega) only [go_sem, *]))
        | ((with_reducible refine tr_op (aL_run ?_)); (try simp (disch := omega) only [go_sem, *]))
        | ((with_reducible refine tr_alt (by kernel_rfl) (aL_run ?_) ?_) <;> (try simp (disch := omega) only [go_sem, *]))
        | ((with_reducible refine tr_altp ?_ ?_) <;> (try simp (disch := omega) only [go_sem, *]))
        | ((with_reducible refine pG_split (fun h => ?_) (fun h => ?_)) <;> (try simp only [Bool.not_eq_eq_eq_not, Bool.not_true, Bool.not_false, reduceCtorEq] at h) <;> (try have h' := of_decide_eq_true h) <;> (try (have hz : (_ : Int) = (_ : Int) := h'; clear hz h')) <;> (try have h' := of_decide_eq_false h) <;> (try have h' := inB_t h) <;> (try (exfalso; omega)) <;> (try simp (disch := omega) only [go_sem, *]))
        | ((with_reducible refine hcall_of_callOk 40 true (specCopy_ok g hg) ?_ ?_ ?_ ?_ ?_); (focus (simp (disch := omega) only [go_sem, natLe_ok]; done)); (focus (simp (disch := omega) only [go_sem, natLe_ok]; done)); (focus (simp (disch := omega) only [go_sem, natLe_ok]; done)); (focus (simp (disch := omega) only [go_sem, natLe_ok]; done)); simp only [go_sem]; refine aL_run ?_; (try simp (disch := omega) only [go_sem, *]))
        | ((with_reducible refine hcall_of_callOk 40 true (sGateOk_ok g hg) ?_ ?_ ?_ ?_ ?_); (focus (simp (disch := omega) only [go_sem, natLe_ok]; done)); (focus (simp (disch := omega) only [go_sem, natLe_ok]; done)); (focus (simp (disch := omega) only [go_sem, natLe_ok]; done)); (focus (simp (disch := omega) only [go_sem, natLe_ok]; done)); simp only [go_sem]; refine aL_run ?_; (try simp (disch := omega) only [go_sem, *]))
        | ((with_reducible refine hcall_of_callOk 40 true (specInB_ok i 0 (g.queues.length - 1)) ?_ ?_ ?_ ?_ ?_); (focus (simp (disch := omega) only [go_sem, natLe_ok]; done)); (focus (simp (disch := omega) only [go_sem, natLe_ok]; done)); (focus (simp (disch := omega) only [go_sem, natLe_ok]; done)); (focus (simp (disch := omega) only [go_sem, natLe_ok]; done)); simp only [go_sem]; refine aL_run ?_; (try simp (disch := omega) only [go_sem, *]))
        | ((with_reducible refine hcall_of_callOk 40 true (specNext_ok g hg) ?_ ?_ ?_ ?_ ?_); (focus (simp (disch := omega) only [go_sem, natLe_ok]; done)); (focus (simp (disch := omega) only [go_sem, natLe_ok]; done)); (focus (simp (disch := omega) only [go_sem, natLe_ok]; done)); (focus (simp (disch := omega) only [go_sem, natLe_ok]; done)); simp only [go_sem]; refine aL_run ?_; (try simp (disch := omega) only [go_sem, *])))
      all_goals (try simp (disch := omega) only [EndK, go_sem, natLe_ok, *])
end Go.Proofs.Ytgeoipplkjgnfaa.E
