import Derived.Test.YtgeoipplkjgnfaaGt18
set_option linter.unusedVariables false
set_option linter.unusedSimpArgs false
set_option maxRecDepth 100000
set_option maxHeartbeats 4000000
namespace Go.Proofs.Ytgeoipplkjgnfaa.E
theorem set_getD {xs : List Int} {i : Nat} (hi : i < xs.length) (x : Int) : (xs.set i x).getD i 0 = x := by simp [hi]
theorem queue_in {g : Gate} (hg : gateOk g = true) (ho : g.owner ≠ -1) (hw : g.waits.length ≤ 12) (h2 : g.queues.length ≤ 2) {q : Int} (h0 : 0 ≤ q) (h1 : q < g.queues.length) (hq : g.queues.getD q.toNat 0 = -1) :
    ∃ a nx b wk, delayIn g q = (a, nx, true) ∧ continueAt g q = (b, wk) ∧ a.queues.getD q.toNat 0 = g.owner ∧ a.owner = nx ∧ gateOk a = true ∧ gateOk b = true ∧ q < a.queues.length ∧ smGate a ∧ smGate b := by
  have hb : inB q 0 (g.queues.length - 1) = true := by rw [inB_iff]; omega
  have hi : q.toNat < g.queues.length := by omega
  have d1 := delayIn_good (i := q) hg
  have d2 := continueAt_good (i := q) hg
  have l1 := delayIn_len g q
  have l2 := continueAt_len g q
  obtain ⟨-, -, lp, -⟩ := leave_parts hg ho
  have e : delayIn g q = (⟨(leave g).1.owner, (leave g).1.waits, (leave g).1.queues.set q.toNat g.owner⟩, (leave g).2, true) := by
    have ho' : (g.owner == -1) = false := by simpa using ho
    simp only [delayIn, hg, ho', hb, hq, bne_self_eq_false, reduceCtorEq, or_self, if_false]
  rw [e] at d1 l1
  refine ⟨⟨(leave g).1.owner, (leave g).1.waits, (leave g).1.queues.set q.toNat g.owner⟩, (leave g).2, (continueAt g q).1, (continueAt g q).2, e, rfl, ?_, lp, d1, d2, ?_, ⟨?_, ?_⟩, ⟨?_, ?_⟩⟩
  · simp only [leave_q]; exact set_getD hi _
  · simp only [leave_q, List.length_set]; exact h1
  · exact Nat.le_trans l1.1 (by omega)
  · exact Nat.le_trans (Nat.le_of_eq l1.2) (by omega)
  · exact Nat.le_trans l2.1 (by omega)
  · exact Nat.le_trans (Nat.le_of_eq l2.2) (by omega)
theorem queue_out {g : Gate} (hg : gateOk g = true) (ho : g.owner ≠ -1) (hw : g.waits.length ≤ 12) (h2 : g.queues.length ≤ 2) {q : Int} (h0 : 0 ≤ q) (h1 : q < g.queues.length) (hq : g.queues.getD q.toNat 0 ≠ -1) :
    delayIn g q = (g, -1, false) ∧ continueAt g q = (⟨g.queues.getD q.toNat 0, g.waits, g.queues.set q.toNat (-1)⟩, g.queues.getD q.toNat 0) ∧ 0 ≤ g.queues.getD q.toNat 0 := by
  have hb : inB q 0 (g.queues.length - 1) = true := by rw [inB_iff]; omega
  have ho' : (g.owner == -1) = false := by simpa using ho
  have hq' : (g.queues.getD q.toNat 0 == -1) = false := by simpa using hq
  have hq2 : (g.queues.getD q.toNat 0 != -1) = true := by simpa using hq
  refine ⟨by rw [delayIn, if_pos (.inr (.inr (.inr hq2)))], by simp only [continueAt, hg, ho', hb, hq', reduceCtorEq, or_self, if_false, Bool.false_eq_true], ?_⟩
  have hi : q.toNat < g.queues.length := by omega
  have hm : g.queues.getD q.toNat 0 ∈ inGate g := by
    unfold inGate
    refine List.mem_append_right _ (List.mem_filter.2 ⟨?_, hq2⟩)
    simp [hi]
  exact ((gateOk_iff.1 hg).1 _ hm).1
theorem owner_ge {g : Gate} (hg : gateOk g = true) : -1 ≤ g.owner := by
  by_cases ho : g.owner = -1
  · omega
  · have := (gateOk_iff.1 hg).1 g.owner (by rw [inGate_own ho]; simp)
    omega
theorem getD_mem0 {xs : List Int} (h : 12 ≤ xs.length) (hp : ∀ x ∈ xs, 0 ≤ x) : 0 ≤ xs.getD 0 0 := by
  cases xs with
  | nil => simp at h
  | cons x xs => exact hp x (by simp)
theorem queues_ok (b : List Int) : CallOk Try.prog 5 [.one (.ro 1 (bytesD b))] (.s (.one (bV true))) [none] := by
  by_cases hb : b.length ≤ 1048576
  ·
    refine callOk_of_hcall 40 (hcall_of_body Try.func5 rfl (by kernel_rfl) ?_)
    simp (disch := omega) only [go_sem, Try.ntmps5, Try.results5]
    repeat' (first
      | (with_reducible refine i_seq ?_)
      | ((with_reducible refine i_block ?_); (try simp (disch := omega) only [go_sem, *]))
      | ((with_reducible refine i_regionQ (fun Q' hQ => ?_)); (try simp (disch := omega) only [go_sem, *]))
      | ((with_reducible refine Imp.go hQ ?_); clear hQ; (try simp (disch := omega) only [go_sem, *]))
      | ((with_reducible refine resOk_g (fun h => ?_) (fun h => ?_)) <;> (try simp only [Bool.not_eq_eq_eq_not, Bool.not_true, Bool.not_false, reduceCtorEq] at h) <;> (try have h' := of_decide_eq_true h) <;> (try (have hz : (_ : Int) = (_ : Int) := h'; clear hz h')) <;> (try have h' := of_decide_eq_false h) <;> (try have h' := inB_t h) <;> (try (exfalso; omega)) <;> (try simp (disch := omega) only [go_sem, *]))
      | (((with_reducible refine i_condT ?_ ?_); (focus (simp only [go_sem, *]; done))) <;> (try simp (disch := omega) only [go_sem, *]))
      | (((with_reducible refine i_condF ?_ ?_); (focus (simp only [go_sem, *]; done))) <;> (try simp (disch := omega) only [go_sem, *]))
      | ((with_reducible refine i_cond (by simp only [go_sem, *] <;> rfl) (fun h => ?_) (fun h => ?_)) <;> (try simp only [Bool.not_eq_eq_eq_not, Bool.not_true, Bool.not_false, reduceCtorEq] at h) <;> (try have h' := of_decide_eq_true h) <;> (try (have hz : (_ : Int) = (_ : Int) := h'; clear hz h')) <;> (try have h' := of_decide_eq_false h) <;> (try have h' := inB_t h) <;> (try (exfalso; omega)) <;> (try simp (disch := omega) only [go_sem, *]))
      | (with_reducible refine i_treeQ (id := 15) (.fr [0, 1, 2, 3, 4, 5, 6, 7, 8, 9, 10, 11, 12, 13, 14, 15] (.op [16] (.fr [17, 18, 19] (.op [20] (.fr [21, 22] (.stop)))))) mixedT (by kernel_rfl) (fun Q' hQ => ?_))
      | (with_reducible exact tr_none)
      | (with_reducible refine tr_stop ?_)
      | ((with_reducible refine tr_fr ?_); (try simp (disch := omega) only [go_sem, *]))
      | ((with_reducible refine tr_op (aL_run ?_)); (try simp (disch := omega) only [go_sem, *]))
      | ((with_reducible refine tr_alt (by kernel_rfl) (aL_run ?_) ?_) <;> (try simp (disch := omega) only [go_sem, *]))
      | ((with_reducible refine tr_altp ?_ ?_) <;> (try simp (disch := omega) only [go_sem, *]))
      | ((with_reducible refine pG_split (fun h => ?_) (fun h => ?_)) <;> (try simp only [Bool.not_eq_eq_eq_not, Bool.not_true, Bool.not_false, reduceCtorEq] at h) <;> (try have h' := of_decide_eq_true h) <;> (try (have hz : (_ : Int) = (_ : Int) := h'; clear hz h')) <;> (try have h' := of_decide_eq_false h) <;> (try have h' := inB_t h) <;> (try (exfalso; omega)) <;> (try simp (disch := omega) only [go_sem, *]))
      | ((with_reducible refine hcall_of_callOk 40 true (big_ok' b) ?_ ?_ ?_ ?_ ?_); (focus (simp (disch := omega) only [go_sem, natLe_ok]; done)); (focus (simp (disch := omega) only [go_sem, natLe_ok]; done)); (focus (simp (disch := omega) only [go_sem, natLe_ok]; done)); (focus (simp (disch := omega) only [go_sem, natLe_ok]; done)); simp only [go_sem]; refine aL_run ?_; (try simp (disch := omega) only [go_sem, *]))
      | ((with_reducible refine hcall_of_callE 40 true (dGate_e b (by omega)) ?_ ?_ ?_ ?_ ?_); (focus (simp (disch := omega) only [go_sem, natLe_ok]; done)); (focus (simp (disch := omega) only [go_sem, natLe_ok]; done)); (focus (rintro g ⟨⟨hg, hqa, hqb⟩, hw⟩; (try dsimp only at hg); (try dsimp only at hqa); (try dsimp only at hqb); (try dsimp only at hw); (try simp (disch := omega) only [go_sem, natLe_ok]); done)); (focus (rintro g ⟨⟨hg, hqa, hqb⟩, hw⟩; (try dsimp only at hg); (try dsimp only at hqa); (try dsimp only at hqb); (try dsimp only at hw); (try simp (disch := omega) only [go_sem, natLe_ok]); done)); rintro g ⟨⟨hg, hqa, hqb⟩, hw⟩; (try dsimp only at hg); (try dsimp only at hqa); (try dsimp only at hqb); (try dsimp only at hw); simp only [go_sem]; refine aL_run ?_; (try simp (disch := omega) only [go_sem, *])))
    all_goals (try simp (disch := omega) only [EndK, go_sem, natLe_ok, *])
    all_goals have hog := owner_ge hg
    all_goals by_cases ho : g.owner = -1
    all_goals (try (exfalso; omega))
    · have e1 : leave g = (g, -1) := by simp [leave, ho]
      have e2 : delayIn g 0 = (g, -1, false) := by simp [delayIn, ho]
      have hsm : smGate g := smGate_mk (by omega) (by omega)
      clear ho
      repeat' (first
        | (with_reducible refine i_seq ?_)
        | ((with_reducible refine i_block ?_); (try simp (disch := omega) only [go_sem, e1, e2, beq_self_eq_true, bne_self_eq_false, *]))
        | ((with_reducible refine i_regionQ (fun Q' hQ => ?_)); (try simp (disch := omega) only [go_sem, e1, e2, beq_self_eq_true, bne_self_eq_false, *]))
        | ((with_reducible refine Imp.go hQ ?_); clear hQ; (try simp (disch := omega) only [go_sem, e1, e2, beq_self_eq_true, bne_self_eq_false, *]))
        | ((with_reducible refine resOk_g (fun h => ?_) (fun h => ?_)) <;> (try simp only [Bool.not_eq_eq_eq_not, Bool.not_true, Bool.not_false, reduceCtorEq] at h) <;> (try have h' := of_decide_eq_true h) <;> (try (have hz : (_ : Int) = (_ : Int) := h'; clear hz h')) <;> (try have h' := of_decide_eq_false h) <;> (try have h' := inB_t h) <;> (try (exfalso; omega)) <;> (try simp (disch := omega) only [go_sem, e1, e2, beq_self_eq_true, bne_self_eq_false, *]))
        | (((with_reducible refine i_condT ?_ ?_); (focus (simp only [go_sem, *]; done))) <;> (try simp (disch := omega) only [go_sem, e1, e2, beq_self_eq_true, bne_self_eq_false, *]))
        | (((with_reducible refine i_condF ?_ ?_); (focus (simp only [go_sem, *]; done))) <;> (try simp (disch := omega) only [go_sem, e1, e2, beq_self_eq_true, bne_self_eq_false, *]))
        | ((with_reducible refine i_cond (by simp only [go_sem, *] <;> rfl) (fun h => ?_) (fun h => ?_)) <;> (try simp only [Bool.not_eq_eq_eq_not, Bool.not_true, Bool.not_false, reduceCtorEq] at h) <;> (try have h' := of_decide_eq_true h) <;> (try (have hz : (_ : Int) = (_ : Int) := h'; clear hz h')) <;> (try have h' := of_decide_eq_false h) <;> (try have h' := inB_t h) <;> (try (exfalso; omega)) <;> (try simp (disch := omega) only [go_sem, e1, e2, beq_self_eq_true, bne_self_eq_false, *]))
        | (with_reducible refine i_treeQ (id := 15) (.fr [0, 1, 2, 3, 4, 5, 6, 7, 8, 9, 10, 11, 12, 13, 14, 15] (.op [16] (.fr [17, 18, 19] (.op [20] (.fr [21, 22] (.stop)))))) mixedT (by kernel_rfl) (fun Q' hQ => ?_))
        | (with_reducible exact tr_none)
        | (with_reducible refine tr_stop ?_)
        | ((with_reducible refine tr_fr ?_); (try simp (disch := omega) only [go_sem, e1, e2, beq_self_eq_true, bne_self_eq_false, *]))
        | ((with_reducible refine tr_op (aL_run ?_)); (try simp (disch := omega) only [go_sem, e1, e2, beq_self_eq_true, bne_self_eq_false, *]))
        | ((with_reducible refine tr_alt (by kernel_rfl) (aL_run ?_) ?_) <;> (try simp (disch := omega) only [go_sem, e1, e2, beq_self_eq_true, bne_self_eq_false, *]))
        | ((with_reducible refine tr_altp ?_ ?_) <;> (try simp (disch := omega) only [go_sem, e1, e2, beq_self_eq_true, bne_self_eq_false, *]))
        | ((with_reducible refine pG_split (fun h => ?_) (fun h => ?_)) <;> (try simp only [Bool.not_eq_eq_eq_not, Bool.not_true, Bool.not_false, reduceCtorEq] at h) <;> (try have h' := of_decide_eq_true h) <;> (try (have hz : (_ : Int) = (_ : Int) := h'; clear hz h')) <;> (try have h' := of_decide_eq_false h) <;> (try have h' := inB_t h) <;> (try (exfalso; omega)) <;> (try simp (disch := omega) only [go_sem, e1, e2, beq_self_eq_true, bne_self_eq_false, *]))
        | ((with_reducible refine hcall_of_callOk 40 true (iLeave_ok g hsm) ?_ ?_ ?_ ?_ ?_); (focus (simp (disch := omega) only [go_sem, e1, e2, beq_self_eq_true, bne_self_eq_false, natLe_ok]; done)); (focus (simp (disch := omega) only [go_sem, e1, e2, beq_self_eq_true, bne_self_eq_false, natLe_ok]; done)); (focus (simp (disch := omega) only [go_sem, e1, e2, beq_self_eq_true, bne_self_eq_false, natLe_ok]; done)); (focus (simp (disch := omega) only [go_sem, e1, e2, beq_self_eq_true, bne_self_eq_false, natLe_ok]; done)); simp only [go_sem, e1, e2, beq_self_eq_true, bne_self_eq_false]; refine aL_run ?_; (try simp (disch := omega) only [go_sem, e1, e2, beq_self_eq_true, bne_self_eq_false, *]))
        | ((with_reducible refine hcall_of_callOk 40 true (iDelayIn_ok g 0 hsm) ?_ ?_ ?_ ?_ ?_); (focus (simp (disch := omega) only [go_sem, e1, e2, beq_self_eq_true, bne_self_eq_false, natLe_ok]; done)); (focus (simp (disch := omega) only [go_sem, e1, e2, beq_self_eq_true, bne_self_eq_false, natLe_ok]; done)); (focus (simp (disch := omega) only [go_sem, e1, e2, beq_self_eq_true, bne_self_eq_false, natLe_ok]; done)); (focus (simp (disch := omega) only [go_sem, e1, e2, beq_self_eq_true, bne_self_eq_false, natLe_ok]; done)); simp only [go_sem, e1, e2, beq_self_eq_true, bne_self_eq_false]; refine aL_run ?_; (try simp (disch := omega) only [go_sem, e1, e2, beq_self_eq_true, bne_self_eq_false, *]))
        | ((with_reducible refine hcall_of_callOk 40 true (sameGate_ok g hsm) ?_ ?_ ?_ ?_ ?_); (focus (simp (disch := omega) only [go_sem, e1, e2, beq_self_eq_true, bne_self_eq_false, natLe_ok]; done)); (focus (simp (disch := omega) only [go_sem, e1, e2, beq_self_eq_true, bne_self_eq_false, natLe_ok]; done)); (focus (simp (disch := omega) only [go_sem, e1, e2, beq_self_eq_true, bne_self_eq_false, natLe_ok]; done)); (focus (simp (disch := omega) only [go_sem, e1, e2, beq_self_eq_true, bne_self_eq_false, natLe_ok]; done)); simp only [go_sem, e1, e2, beq_self_eq_true, bne_self_eq_false]; refine aL_run ?_; (try simp (disch := omega) only [go_sem, e1, e2, beq_self_eq_true, bne_self_eq_false, *])))
      all_goals (try simp (disch := omega) only [EndK, go_sem, e1, e2, beq_self_eq_true, bne_self_eq_false, natLe_ok, *])
    · have hsm : smGate g := smGate_mk (by omega) (by omega)
      repeat' (first
        | (with_reducible refine i_seq ?_)
        | ((with_reducible refine i_block ?_); (try simp (disch := omega) only [go_sem, *]))
        | ((with_reducible refine i_regionQ (fun Q' hQ => ?_)); (try simp (disch := omega) only [go_sem, *]))
        | ((with_reducible refine Imp.go hQ ?_); clear hQ; (try simp (disch := omega) only [go_sem, *]))
        | ((with_reducible refine resOk_g (fun h => ?_) (fun h => ?_)) <;> (try simp only [Bool.not_eq_eq_eq_not, Bool.not_true, Bool.not_false, reduceCtorEq] at h) <;> (try have h' := of_decide_eq_true h) <;> (try (have hz : (_ : Int) = (_ : Int) := h'; clear hz h')) <;> (try have h' := of_decide_eq_false h) <;> (try have h' := inB_t h) <;> (try (exfalso; omega)) <;> (try simp (disch := omega) only [go_sem, *]))
        | (((with_reducible refine i_condT ?_ ?_); (focus (simp only [go_sem, *]; done))) <;> (try simp (disch := omega) only [go_sem, *]))
        | (((with_reducible refine i_condF ?_ ?_); (focus (simp only [go_sem, *]; done))) <;> (try simp (disch := omega) only [go_sem, *]))
        | ((with_reducible refine i_cond (by simp only [go_sem, *] <;> rfl) (fun h => ?_) (fun h => ?_)) <;> (try simp only [Bool.not_eq_eq_eq_not, Bool.not_true, Bool.not_false, reduceCtorEq] at h) <;> (try have h' := of_decide_eq_true h) <;> (try (have hz : (_ : Int) = (_ : Int) := h'; clear hz h')) <;> (try have h' := of_decide_eq_false h) <;> (try have h' := inB_t h) <;> (try (exfalso; omega)) <;> (try simp (disch := omega) only [go_sem, *]))
        | (with_reducible refine i_treeQ (id := 15) (.fr [0, 1, 2, 3, 4, 5, 6, 7, 8, 9, 10, 11, 12, 13, 14, 15] (.op [16] (.fr [17, 18, 19] (.op [20] (.fr [21, 22] (.stop)))))) mixedT (by kernel_rfl) (fun Q' hQ => ?_))
        | (with_reducible exact tr_none)
        | (with_reducible refine tr_stop ?_)
        | ((with_reducible refine tr_fr ?_); (try simp (disch := omega) only [go_sem, *]))
        | ((with_reducible refine tr_op (aL_run ?_)); (try simp (disch := omega) only [go_sem, *]))
        | ((with_reducible refine tr_alt (by kernel_rfl) (aL_run ?_) ?_) <;> (try simp (disch := omega) only [go_sem, *]))
        | ((with_reducible refine tr_altp ?_ ?_) <;> (try simp (disch := omega) only [go_sem, *]))
        | ((with_reducible refine pG_split (fun h => ?_) (fun h => ?_)) <;> (try simp only [Bool.not_eq_eq_eq_not, Bool.not_true, Bool.not_false, reduceCtorEq] at h) <;> (try have h' := of_decide_eq_true h) <;> (try (have hz : (_ : Int) = (_ : Int) := h'; clear hz h')) <;> (try have h' := of_decide_eq_false h) <;> (try have h' := inB_t h) <;> (try (exfalso; omega)) <;> (try simp (disch := omega) only [go_sem, *]))
        | ((with_reducible refine hcall_of_callE 40 true (dPlaces_e b (by omega)) ?_ ?_ ?_ ?_ ?_); (focus (simp (disch := omega) only [go_sem, natLe_ok]; done)); (focus (simp (disch := omega) only [go_sem, natLe_ok]; done)); (focus (rintro xs ⟨hxa, hxb, hxs⟩; (try dsimp only at hxa); (try dsimp only at hxb); (try dsimp only at hxs); (try simp (disch := omega) only [go_sem, natLe_ok]); done)); (focus (rintro xs ⟨hxa, hxb, hxs⟩; (try dsimp only at hxa); (try dsimp only at hxb); (try dsimp only at hxs); (try simp (disch := omega) only [go_sem, natLe_ok]); done)); rintro xs ⟨hxa, hxb, hxs⟩; (try dsimp only at hxa); (try dsimp only at hxb); (try dsimp only at hxs); simp only [go_sem]; refine aL_run ?_; (try simp (disch := omega) only [go_sem, *])))
      all_goals (try simp (disch := omega) only [EndK, go_sem, natLe_ok, *])
      have hx0 := getD_mem0 hxa hxs
      clear hxs
      have hq := tmod_in 2 hx0 (by omega)
      generalize hqe : (xs.getD 0 0).tmod 2 = q at *
      clear hqe hx0 hxa hxb
      have hql : q < g.queues.length := by omega
      have hw12 : g.waits.length ≤ 12 := hw
      by_cases hqv : g.queues.getD q.toNat 0 = -1
      · obtain ⟨a, nx, bb, wk, hD, hC, ha1, ha2, hga, hgb, hqa2, hsa, hsb⟩ := queue_in hg ho hw12 hqb hq.1 hql hqv
        have hdn : decide (g.queues.getD q.toNat 0 < 0) = true := by rw [hqv]; rfl
        clear hqv ho
        subst ha2
        repeat' (first
          | (with_reducible refine i_seq ?_)
          | ((with_reducible refine i_block ?_); (try simp (disch := omega) only [go_sem, hD, hC, beq_self_eq_true, bne_self_eq_false, *]))
          | ((with_reducible refine i_regionQ (fun Q' hQ => ?_)); (try simp (disch := omega) only [go_sem, hD, hC, beq_self_eq_true, bne_self_eq_false, *]))
          | ((with_reducible refine Imp.go hQ ?_); clear hQ; (try simp (disch := omega) only [go_sem, hD, hC, beq_self_eq_true, bne_self_eq_false, *]))
          | ((with_reducible refine resOk_g (fun h => ?_) (fun h => ?_)) <;> (try simp only [Bool.not_eq_eq_eq_not, Bool.not_true, Bool.not_false, reduceCtorEq] at h) <;> (try have h' := of_decide_eq_true h) <;> (try (have hz : (_ : Int) = (_ : Int) := h'; clear hz h')) <;> (try have h' := of_decide_eq_false h) <;> (try have h' := inB_t h) <;> (try (exfalso; omega)) <;> (try simp (disch := omega) only [go_sem, hD, hC, beq_self_eq_true, bne_self_eq_false, *]))
          | (((with_reducible refine i_condT ?_ ?_); (focus (simp only [go_sem, *]; done))) <;> (try simp (disch := omega) only [go_sem, hD, hC, beq_self_eq_true, bne_self_eq_false, *]))
          | (((with_reducible refine i_condF ?_ ?_); (focus (simp only [go_sem, *]; done))) <;> (try simp (disch := omega) only [go_sem, hD, hC, beq_self_eq_true, bne_self_eq_false, *]))
          | ((with_reducible refine i_cond (by simp only [go_sem, *] <;> rfl) (fun h => ?_) (fun h => ?_)) <;> (try simp only [Bool.not_eq_eq_eq_not, Bool.not_true, Bool.not_false, reduceCtorEq] at h) <;> (try have h' := of_decide_eq_true h) <;> (try (have hz : (_ : Int) = (_ : Int) := h'; clear hz h')) <;> (try have h' := of_decide_eq_false h) <;> (try have h' := inB_t h) <;> (try (exfalso; omega)) <;> (try simp (disch := omega) only [go_sem, hD, hC, beq_self_eq_true, bne_self_eq_false, *]))
          | (with_reducible refine i_treeQ (id := 15) (.fr [0, 1, 2, 3, 4, 5, 6, 7, 8, 9, 10, 11, 12, 13, 14, 15] (.op [16] (.fr [17, 18, 19] (.op [20] (.fr [21, 22] (.stop)))))) mixedT (by kernel_rfl) (fun Q' hQ => ?_))
          | (with_reducible exact tr_none)
          | (with_reducible refine tr_stop ?_)
          | ((with_reducible refine tr_fr ?_); (try simp (disch := omega) only [go_sem, hD, hC, beq_self_eq_true, bne_self_eq_false, *]))
          | ((with_reducible refine tr_op (aL_run ?_)); (try simp (disch := omega) only [go_sem, hD, hC, beq_self_eq_true, bne_self_eq_false, *]))
          | ((with_reducible refine tr_alt (by kernel_rfl) (aL_run ?_) ?_) <;> (try simp (disch := omega) only [go_sem, hD, hC, beq_self_eq_true, bne_self_eq_false, *]))
          | ((with_reducible refine tr_altp ?_ ?_) <;> (try simp (disch := omega) only [go_sem, hD, hC, beq_self_eq_true, bne_self_eq_false, *]))
          | ((with_reducible refine pG_split (fun h => ?_) (fun h => ?_)) <;> (try simp only [Bool.not_eq_eq_eq_not, Bool.not_true, Bool.not_false, reduceCtorEq] at h) <;> (try have h' := of_decide_eq_true h) <;> (try (have hz : (_ : Int) = (_ : Int) := h'; clear hz h')) <;> (try have h' := of_decide_eq_false h) <;> (try have h' := inB_t h) <;> (try (exfalso; omega)) <;> (try simp (disch := omega) only [go_sem, hD, hC, beq_self_eq_true, bne_self_eq_false, *]))
          | ((with_reducible refine hcall_of_callOk 40 true (iDelayIn_ok g q hsm) ?_ ?_ ?_ ?_ ?_); (focus (simp (disch := omega) only [go_sem, hD, hC, beq_self_eq_true, bne_self_eq_false, natLe_ok]; done)); (focus (simp (disch := omega) only [go_sem, hD, hC, beq_self_eq_true, bne_self_eq_false, natLe_ok]; done)); (focus (simp (disch := omega) only [go_sem, hD, hC, beq_self_eq_true, bne_self_eq_false, natLe_ok]; done)); (focus (simp (disch := omega) only [go_sem, hD, hC, beq_self_eq_true, bne_self_eq_false, natLe_ok]; done)); simp only [go_sem, hD, hC, beq_self_eq_true, bne_self_eq_false]; refine aL_run ?_; (try simp (disch := omega) only [go_sem, hD, hC, beq_self_eq_true, bne_self_eq_false, *]))
          | ((with_reducible refine hcall_of_callOk 40 true (iContinueAt_ok g q hsm) ?_ ?_ ?_ ?_ ?_); (focus (simp (disch := omega) only [go_sem, hD, hC, beq_self_eq_true, bne_self_eq_false, natLe_ok]; done)); (focus (simp (disch := omega) only [go_sem, hD, hC, beq_self_eq_true, bne_self_eq_false, natLe_ok]; done)); (focus (simp (disch := omega) only [go_sem, hD, hC, beq_self_eq_true, bne_self_eq_false, natLe_ok]; done)); (focus (simp (disch := omega) only [go_sem, hD, hC, beq_self_eq_true, bne_self_eq_false, natLe_ok]; done)); simp only [go_sem, hD, hC, beq_self_eq_true, bne_self_eq_false]; refine aL_run ?_; (try simp (disch := omega) only [go_sem, hD, hC, beq_self_eq_true, bne_self_eq_false, *]))
          | ((with_reducible refine hcall_of_callOk 40 true (iGateOk_ok a hsa) ?_ ?_ ?_ ?_ ?_); (focus (simp (disch := omega) only [go_sem, hD, hC, beq_self_eq_true, bne_self_eq_false, natLe_ok]; done)); (focus (simp (disch := omega) only [go_sem, hD, hC, beq_self_eq_true, bne_self_eq_false, natLe_ok]; done)); (focus (simp (disch := omega) only [go_sem, hD, hC, beq_self_eq_true, bne_self_eq_false, natLe_ok]; done)); (focus (simp (disch := omega) only [go_sem, hD, hC, beq_self_eq_true, bne_self_eq_false, natLe_ok]; done)); simp only [go_sem, hD, hC, beq_self_eq_true, bne_self_eq_false]; refine aL_run ?_; (try simp (disch := omega) only [go_sem, hD, hC, beq_self_eq_true, bne_self_eq_false, *]))
          | ((with_reducible refine hcall_of_callOk 40 true (iGateOk_ok bb hsb) ?_ ?_ ?_ ?_ ?_); (focus (simp (disch := omega) only [go_sem, hD, hC, beq_self_eq_true, bne_self_eq_false, natLe_ok]; done)); (focus (simp (disch := omega) only [go_sem, hD, hC, beq_self_eq_true, bne_self_eq_false, natLe_ok]; done)); (focus (simp (disch := omega) only [go_sem, hD, hC, beq_self_eq_true, bne_self_eq_false, natLe_ok]; done)); (focus (simp (disch := omega) only [go_sem, hD, hC, beq_self_eq_true, bne_self_eq_false, natLe_ok]; done)); simp only [go_sem, hD, hC, beq_self_eq_true, bne_self_eq_false]; refine aL_run ?_; (try simp (disch := omega) only [go_sem, hD, hC, beq_self_eq_true, bne_self_eq_false, *])))
        all_goals (try simp (disch := omega) only [EndK, go_sem, hD, hC, beq_self_eq_true, bne_self_eq_false, natLe_ok, *])
        all_goals trace_state
      · obtain ⟨hD, hC, hv⟩ := queue_out hg ho hw12 hqb hq.1 hql hqv
        have hdn : decide (g.queues.getD q.toNat 0 < 0) = false := decide_eq_false (by omega)
        have hst : (g.queues.set q.toNat (-1)).getD q.toNat 0 = -1 := set_getD (by omega) _
        have hQl : q < (g.queues.set q.toNat (-1)).length := by rw [List.length_set]; exact hql
        have hQs : (g.queues.set q.toNat (-1)).length ≤ 2 := by rw [List.length_set]; exact hqb
        clear hqv ho
        generalize g.queues.set q.toNat (-1) = Q at *
        repeat' (first
          | (with_reducible refine i_seq ?_)
          | ((with_reducible refine i_block ?_); (try simp (disch := omega) only [go_sem, hD, hC, beq_self_eq_true, bne_self_eq_false, *]))
          | ((with_reducible refine i_regionQ (fun Q' hQ => ?_)); (try simp (disch := omega) only [go_sem, hD, hC, beq_self_eq_true, bne_self_eq_false, *]))
          | ((with_reducible refine Imp.go hQ ?_); clear hQ; (try simp (disch := omega) only [go_sem, hD, hC, beq_self_eq_true, bne_self_eq_false, *]))
          | ((with_reducible refine resOk_g (fun h => ?_) (fun h => ?_)) <;> (try simp only [Bool.not_eq_eq_eq_not, Bool.not_true, Bool.not_false, reduceCtorEq] at h) <;> (try have h' := of_decide_eq_true h) <;> (try (have hz : (_ : Int) = (_ : Int) := h'; clear hz h')) <;> (try have h' := of_decide_eq_false h) <;> (try have h' := inB_t h) <;> (try (exfalso; omega)) <;> (try simp (disch := omega) only [go_sem, hD, hC, beq_self_eq_true, bne_self_eq_false, *]))
          | (((with_reducible refine i_condT ?_ ?_); (focus (simp only [go_sem, *]; done))) <;> (try simp (disch := omega) only [go_sem, hD, hC, beq_self_eq_true, bne_self_eq_false, *]))
          | (((with_reducible refine i_condF ?_ ?_); (focus (simp only [go_sem, *]; done))) <;> (try simp (disch := omega) only [go_sem, hD, hC, beq_self_eq_true, bne_self_eq_false, *]))
          | ((with_reducible refine i_cond (by simp only [go_sem, *] <;> rfl) (fun h => ?_) (fun h => ?_)) <;> (try simp only [Bool.not_eq_eq_eq_not, Bool.not_true, Bool.not_false, reduceCtorEq] at h) <;> (try have h' := of_decide_eq_true h) <;> (try (have hz : (_ : Int) = (_ : Int) := h'; clear hz h')) <;> (try have h' := of_decide_eq_false h) <;> (try have h' := inB_t h) <;> (try (exfalso; omega)) <;> (try simp (disch := omega) only [go_sem, hD, hC, beq_self_eq_true, bne_self_eq_false, *]))
          | (with_reducible refine i_treeQ (id := 15) (.fr [0, 1, 2, 3, 4, 5, 6, 7, 8, 9, 10, 11, 12, 13, 14, 15] (.op [16] (.fr [17, 18, 19] (.op [20] (.fr [21, 22] (.stop)))))) mixedT (by kernel_rfl) (fun Q' hQ => ?_))
          | (with_reducible exact tr_none)
          | (with_reducible refine tr_stop ?_)
          | ((with_reducible refine tr_fr ?_); (try simp (disch := omega) only [go_sem, hD, hC, beq_self_eq_true, bne_self_eq_false, *]))
          | ((with_reducible refine tr_op (aL_run ?_)); (try simp (disch := omega) only [go_sem, hD, hC, beq_self_eq_true, bne_self_eq_false, *]))
          | ((with_reducible refine tr_alt (by kernel_rfl) (aL_run ?_) ?_) <;> (try simp (disch := omega) only [go_sem, hD, hC, beq_self_eq_true, bne_self_eq_false, *]))
          | ((with_reducible refine tr_altp ?_ ?_) <;> (try simp (disch := omega) only [go_sem, hD, hC, beq_self_eq_true, bne_self_eq_false, *]))
          | ((with_reducible refine pG_split (fun h => ?_) (fun h => ?_)) <;> (try simp only [Bool.not_eq_eq_eq_not, Bool.not_true, Bool.not_false, reduceCtorEq] at h) <;> (try have h' := of_decide_eq_true h) <;> (try (have hz : (_ : Int) = (_ : Int) := h'; clear hz h')) <;> (try have h' := of_decide_eq_false h) <;> (try have h' := inB_t h) <;> (try (exfalso; omega)) <;> (try simp (disch := omega) only [go_sem, hD, hC, beq_self_eq_true, bne_self_eq_false, *]))
          | ((with_reducible refine hcall_of_callOk 40 true (iDelayIn_ok g q hsm) ?_ ?_ ?_ ?_ ?_); (focus (simp (disch := omega) only [go_sem, hD, hC, beq_self_eq_true, bne_self_eq_false, natLe_ok]; done)); (focus (simp (disch := omega) only [go_sem, hD, hC, beq_self_eq_true, bne_self_eq_false, natLe_ok]; done)); (focus (simp (disch := omega) only [go_sem, hD, hC, beq_self_eq_true, bne_self_eq_false, natLe_ok]; done)); (focus (simp (disch := omega) only [go_sem, hD, hC, beq_self_eq_true, bne_self_eq_false, natLe_ok]; done)); simp only [go_sem, hD, hC, beq_self_eq_true, bne_self_eq_false]; refine aL_run ?_; (try simp (disch := omega) only [go_sem, hD, hC, beq_self_eq_true, bne_self_eq_false, *]))
          | ((with_reducible refine hcall_of_callOk 40 true (iContinueAt_ok g q hsm) ?_ ?_ ?_ ?_ ?_); (focus (simp (disch := omega) only [go_sem, hD, hC, beq_self_eq_true, bne_self_eq_false, natLe_ok]; done)); (focus (simp (disch := omega) only [go_sem, hD, hC, beq_self_eq_true, bne_self_eq_false, natLe_ok]; done)); (focus (simp (disch := omega) only [go_sem, hD, hC, beq_self_eq_true, bne_self_eq_false, natLe_ok]; done)); (focus (simp (disch := omega) only [go_sem, hD, hC, beq_self_eq_true, bne_self_eq_false, natLe_ok]; done)); simp only [go_sem, hD, hC, beq_self_eq_true, bne_self_eq_false]; refine aL_run ?_; (try simp (disch := omega) only [go_sem, hD, hC, beq_self_eq_true, bne_self_eq_false, *]))
          | ((with_reducible refine hcall_of_callOk 40 true (sameInts_ok g.waits (by omega)) ?_ ?_ ?_ ?_ ?_); (focus (simp (disch := omega) only [go_sem, hD, hC, beq_self_eq_true, bne_self_eq_false, natLe_ok]; done)); (focus (simp (disch := omega) only [go_sem, hD, hC, beq_self_eq_true, bne_self_eq_false, natLe_ok]; done)); (focus (simp (disch := omega) only [go_sem, hD, hC, beq_self_eq_true, bne_self_eq_false, natLe_ok]; done)); (focus (simp (disch := omega) only [go_sem, hD, hC, beq_self_eq_true, bne_self_eq_false, natLe_ok]; done)); simp only [go_sem, hD, hC, beq_self_eq_true, bne_self_eq_false]; refine aL_run ?_; (try simp (disch := omega) only [go_sem, hD, hC, beq_self_eq_true, bne_self_eq_false, *])))
        all_goals (try simp (disch := omega) only [EndK, go_sem, hD, hC, beq_self_eq_true, bne_self_eq_false, natLe_ok, *])
        all_goals trace_state
  ·
    refine callOk_of_hcall 40 (hcall_of_body Try.func5 rfl (by kernel_rfl) ?_)
    simp (disch := omega) only [go_sem, Try.ntmps5, Try.results5]
    repeat' (first
      | (with_reducible refine i_seq ?_)
      | ((with_reducible refine i_block ?_); (try simp (disch := omega) only [go_sem, *]))
      | ((with_reducible refine i_regionQ (fun Q' hQ => ?_)); (try simp (disch := omega) only [go_sem, *]))
      | ((with_reducible refine Imp.go hQ ?_); clear hQ; (try simp (disch := omega) only [go_sem, *]))
      | ((with_reducible refine resOk_g (fun h => ?_) (fun h => ?_)) <;> (try simp only [Bool.not_eq_eq_eq_not, Bool.not_true, Bool.not_false, reduceCtorEq] at h) <;> (try have h' := of_decide_eq_true h) <;> (try (have hz : (_ : Int) = (_ : Int) := h'; clear hz h')) <;> (try have h' := of_decide_eq_false h) <;> (try have h' := inB_t h) <;> (try (exfalso; omega)) <;> (try simp (disch := omega) only [go_sem, *]))
      | (((with_reducible refine i_condT ?_ ?_); (focus (simp only [go_sem, *]; done))) <;> (try simp (disch := omega) only [go_sem, *]))
      | (((with_reducible refine i_condF ?_ ?_); (focus (simp only [go_sem, *]; done))) <;> (try simp (disch := omega) only [go_sem, *]))
      | ((with_reducible refine i_cond (by simp only [go_sem, *] <;> rfl) (fun h => ?_) (fun h => ?_)) <;> (try simp only [Bool.not_eq_eq_eq_not, Bool.not_true, Bool.not_false, reduceCtorEq] at h) <;> (try have h' := of_decide_eq_true h) <;> (try (have hz : (_ : Int) = (_ : Int) := h'; clear hz h')) <;> (try have h' := of_decide_eq_false h) <;> (try have h' := inB_t h) <;> (try (exfalso; omega)) <;> (try simp (disch := omega) only [go_sem, *]))
      | (with_reducible refine i_treeQ (id := 15) (.fr [0, 1, 2, 3, 4, 5, 6, 7, 8, 9, 10, 11, 12, 13, 14, 15] (.op [16] (.fr [17, 18, 19] (.op [20] (.fr [21, 22] (.stop)))))) mixedT (by kernel_rfl) (fun Q' hQ => ?_))
      | (with_reducible exact tr_none)
      | (with_reducible refine tr_stop ?_)
      | ((with_reducible refine tr_fr ?_); (try simp (disch := omega) only [go_sem, *]))
      | ((with_reducible refine tr_op (aL_run ?_)); (try simp (disch := omega) only [go_sem, *]))
      | ((with_reducible refine tr_alt (by kernel_rfl) (aL_run ?_) ?_) <;> (try simp (disch := omega) only [go_sem, *]))
      | ((with_reducible refine tr_altp ?_ ?_) <;> (try simp (disch := omega) only [go_sem, *]))
      | ((with_reducible refine pG_split (fun h => ?_) (fun h => ?_)) <;> (try simp only [Bool.not_eq_eq_eq_not, Bool.not_true, Bool.not_false, reduceCtorEq] at h) <;> (try have h' := of_decide_eq_true h) <;> (try (have hz : (_ : Int) = (_ : Int) := h'; clear hz h')) <;> (try have h' := of_decide_eq_false h) <;> (try have h' := inB_t h) <;> (try (exfalso; omega)) <;> (try simp (disch := omega) only [go_sem, *]))
      | ((with_reducible refine hcall_of_callOk 40 true (big_ok' b) ?_ ?_ ?_ ?_ ?_); (focus (simp (disch := omega) only [go_sem, natLe_ok]; done)); (focus (simp (disch := omega) only [go_sem, natLe_ok]; done)); (focus (simp (disch := omega) only [go_sem, natLe_ok]; done)); (focus (simp (disch := omega) only [go_sem, natLe_ok]; done)); simp only [go_sem]; refine aL_run ?_; (try simp (disch := omega) only [go_sem, *])))
    all_goals (try simp (disch := omega) only [EndK, go_sem, natLe_ok, *])
    all_goals (exfalso; omega)
end Go.Proofs.Ytgeoipplkjgnfaa.E
