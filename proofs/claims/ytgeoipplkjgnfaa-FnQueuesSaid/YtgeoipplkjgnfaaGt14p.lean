import Derived.Test.YtgeoipplkjgnfaaGt12
set_option linter.unusedVariables false
set_option linter.unusedSimpArgs false
namespace Go.Proofs.Ytgeoipplkjgnfaa.E
/-! What becomes of a right gate is a right gate. -/
theorem hasI_mem {xs : List Int} {x : Int} : hasI xs x = true ↔ x ∈ xs := by
  simp only [hasI, List.any_eq_true, beq_iff_eq]
  constructor
  · rintro ⟨y, hy, rfl⟩; exact hy
  · intro h; exact ⟨x, h, rfl⟩
theorem inB_iff {a b c : Int} : inB a b c = true ↔ b ≤ a ∧ a ≤ c := by simp [inB]
theorem goodL_iff {acc xs : List Int} : goodL acc xs = true ↔ (∀ x ∈ xs, 0 ≤ x ∧ x ≤ 3) ∧ xs.Nodup ∧ ∀ x ∈ xs, x ∉ acc := by
  induction xs generalizing acc with
  | nil => simp [goodL]
  | cons x xs ih =>
    simp only [goodL, Bool.and_eq_true, Bool.not_eq_true', inB_iff, ih, List.mem_cons, forall_eq_or_imp, List.nodup_cons, List.mem_append, List.not_mem_nil, or_false, not_or]
    have hh : hasI acc x = false ↔ x ∉ acc := by rw [← hasI_mem]; simp
    rw [hh]
    constructor
    · rintro ⟨⟨h1, h2⟩, h3, h4, h5⟩
      exact ⟨⟨h1, h3⟩, ⟨fun hx => (h5 x hx).2 rfl, h4⟩, h2, fun y hy => (h5 y hy).1⟩
    · rintro ⟨⟨h1, h3⟩, ⟨h6, h4⟩, h2, h5⟩
      exact ⟨⟨h1, h2⟩, h3, h4, fun y hy => ⟨h5 y hy, fun e => h6 (e ▸ hy)⟩⟩
theorem gateOk_iff {g : Gate} : gateOk g = true ↔ (∀ x ∈ inGate g, 0 ≤ x ∧ x ≤ 3) ∧ (inGate g).Nodup ∧ g.queues.length ≤ 2 ∧ (g.owner ≠ -1 ∨ g.waits = []) := by
  simp only [gateOk, allGood_L, Bool.and_eq_true, goodL_iff, decide_eq_true_eq, Bool.or_eq_true, bne_iff_ne, beq_iff_eq, Int.natCast_eq_zero, List.length_eq_zero_iff, List.not_mem_nil, not_false_iff, implies_true, and_true]
  constructor
  · rintro ⟨⟨h1, h2⟩, h3, h4⟩; exact ⟨h1, h2, by omega, h4⟩
  · rintro ⟨h1, h2, h3, h4⟩; exact ⟨⟨h1, h2⟩, by omega, h4⟩
def fq (g : Gate) : List Int := g.queues.filter fun q => q != -1
theorem inGate_own {g : Gate} (h : g.owner ≠ -1) : inGate g = g.owner :: (g.waits ++ fq g) := by
  have : (g.owner != -1) = true := by simpa using h
  simp [inGate, fq, this]
theorem inGate_no {g : Gate} (h : g.owner = -1) : inGate g = g.waits ++ fq g := by
  have : (g.owner != -1) = false := by simpa using h
  simp [inGate, fq, this]
/-- A gate whose parts are some of these is right. -/
theorem gateOk_sub {g g' : Gate} (h : gateOk g = true) (hp : ∃ l, (inGate g).Perm (l ++ inGate g')) (hq : g'.queues.length = g.queues.length) (ho : g'.owner ≠ -1 ∨ g'.waits = []) : gateOk g' = true := by
  obtain ⟨l, hp⟩ := hp
  rw [gateOk_iff] at h ⊢
  obtain ⟨h1, h2, h3, h4⟩ := h
  refine ⟨fun x hx => h1 x (hp.mem_iff.2 (List.mem_append_right _ hx)), ?_, by omega, ho⟩
  exact (List.nodup_append.1 (hp.nodup_iff.1 h2)).2.1
theorem set_split {α : Type} {xs : List α} {i : Nat} (hi : i < xs.length) (x : α) : xs = xs.take i ++ xs[i] :: xs.drop (i + 1) ∧ xs.set i x = xs.take i ++ x :: xs.drop (i + 1) := by
  refine ⟨by simp, ?_⟩
  rw [List.set_eq_take_append_cons_drop, if_pos hi]
theorem fq_in {xs : List Int} {i : Nat} {p : Int} (hi : i < xs.length) (h : xs[i] = -1) (hp : p ≠ -1) : ((xs.set i p).filter fun q => q != -1).Perm (p :: xs.filter fun q => q != -1) := by
  obtain ⟨h1, h2⟩ := set_split hi p
  have hp' : (p != -1) = true := by simpa using hp
  rw [h2]
  conv => rhs; rw [h1]
  rw [List.filter_append, List.filter_append, List.filter_cons, List.filter_cons, if_pos hp', h]
  simp only [bne_self_eq_false, Bool.false_eq_true, if_false]
  exact List.perm_middle
theorem fq_out {xs : List Int} {i : Nat} (hi : i < xs.length) (h : xs[i] ≠ -1) : (xs.filter fun q => q != -1).Perm (xs[i] :: (xs.set i (-1)).filter fun q => q != -1) := by
  obtain ⟨h1, h2⟩ := set_split hi (-1)
  have hp' : (xs[i] != -1) = true := by simpa using h
  rw [h2]
  conv => lhs; rw [h1]
  rw [List.filter_append, List.filter_append, List.filter_cons, List.filter_cons, if_pos hp']
  simp only [bne_self_eq_false, Bool.false_eq_true, if_false]
  exact List.perm_middle
theorem leave_parts {g : Gate} (h : gateOk g = true) (ho : g.owner ≠ -1) : inGate (leave g).1 = g.waits ++ fq g ∧ ((leave g).1.owner ≠ -1 ∨ (leave g).1.waits = []) ∧ (leave g).1.owner = (leave g).2 ∧ (∀ Q, inGate ⟨(leave g).1.owner, (leave g).1.waits, Q⟩ = g.waits ++ Q.filter fun q => q != -1) := by
  have hb : (g.owner == -1) = false := by simpa using ho
  have e : leave g = if decide ((0 : Int) < (g.waits.length : Int)) = true then (⟨g.waits.getD 0 0, g.waits.drop 1, g.queues⟩, g.waits.getD 0 0) else ({ g with owner := -1 }, -1) := by
    simp [leave, h, hb]
  rw [e]
  cases hw : g.waits with
  | nil =>
    simp only [List.length_nil, Int.natCast_zero, Int.lt_irrefl, decide_false, Bool.false_eq_true, if_false]
    refine ⟨?_, .inr trivial, trivial, fun Q => ?_⟩
    · rw [inGate_no rfl]; simp [hw, fq]
    · rw [inGate_no rfl]; simp [hw, fq]
  | cons y ys =>
    have hy : y ≠ -1 := by
      have := (gateOk_iff.1 h).1 y (by rw [inGate_own ho, hw]; simp)
      omega
    have hd : decide ((0 : Int) < ((y :: ys).length : Int)) = true := by simp
    simp only [hd, if_true]
    refine ⟨?_, .inl (by simpa using hy), trivial, fun Q => ?_⟩
    · rw [inGate_own (by simpa using hy)]; simp [fq]
    · rw [inGate_own (by simpa using hy)]; simp [fq]
theorem arrive_good {g : Gate} {p : Int} (h : gateOk g = true) : gateOk (arrive g p).1 = true := by
  unfold arrive
  split
  · exact h
  · rename_i hn
    simp only [not_or, Bool.not_eq_true, Bool.not_eq_false] at hn
    obtain ⟨-, hb, hi⟩ := hn
    have hb' := inB_iff.1 hb
    have hni : p ∉ inGate g := fun hm => by rw [hasI_mem.2 hm] at hi; cases hi
    have h' := gateOk_iff.1 h
    obtain ⟨h1, h2, h3, h4⟩ := h'
    split
    · rename_i ho
      have ho' : g.owner = -1 := by simpa using ho
      have hw : g.waits = [] := h4.resolve_left (fun hh => hh ho')
      have e : inGate { g with owner := p } = p :: inGate g := by
        rw [inGate_own (by simp only; omega), inGate_no ho']; rfl
      refine gateOk_iff.2 ⟨fun x hx => ?_, ?_, h3, .inl (by simp only; omega)⟩
      · rw [e] at hx
        rcases List.mem_cons.1 hx with rfl | hx
        · exact hb'
        · exact h1 x hx
      · rw [e, List.nodup_cons]; exact ⟨hni, h2⟩
    · rename_i ho
      have ho' : g.owner ≠ -1 := by simpa using ho
      have e : (inGate { g with waits := g.waits ++ [p] }).Perm (p :: inGate g) := by
        rw [inGate_own (by exact ho'), inGate_own ho']
        simp only [List.append_assoc]
        have : (g.waits ++ ([p] ++ fq g)).Perm (p :: (g.waits ++ fq g)) := List.perm_middle
        exact (this.cons g.owner).trans (List.Perm.swap _ _ _)
      refine gateOk_iff.2 ⟨fun x hx => ?_, ?_, h3, .inl ho'⟩
      · rcases List.mem_cons.1 (e.mem_iff.1 hx) with rfl | hx
        · exact hb'
        · exact h1 x hx
      · rw [e.nodup_iff, List.nodup_cons]; exact ⟨hni, h2⟩
theorem leave_good {g : Gate} (h : gateOk g = true) : gateOk (leave g).1 = true := by
  by_cases ho : g.owner = -1
  · have : leave g = (g, -1) := by simp [leave, ho]
    rw [this]; exact h
  · obtain ⟨h1, h2, -, -⟩ := leave_parts h ho
    refine gateOk_sub h ⟨[g.owner], ?_⟩ (by rw [leave_q]) h2
    rw [h1, inGate_own ho]; exact List.Perm.refl _
theorem getD_at {xs : List Int} {i : Nat} (hi : i < xs.length) : xs.getD i 0 = xs[i] := by simp [hi]
theorem delayIn_good {g : Gate} {i : Int} (h : gateOk g = true) : gateOk (delayIn g i).1 = true := by
  unfold delayIn
  split
  · exact h
  · rename_i hn
    simp only [not_or, Bool.not_eq_true, Bool.not_eq_false, beq_eq_false_iff_ne, bne_eq_false_iff_eq] at hn
    obtain ⟨-, ho, hb, hq⟩ := hn
    have hb' := inB_iff.1 hb
    have hi : i.toNat < g.queues.length := by omega
    rw [getD_at hi] at hq
    obtain ⟨h1, h2, -, h5⟩ := leave_parts h ho
    refine gateOk_sub h ⟨[], ?_⟩ (by simp [leave_q]) h2
    rw [List.nil_append, inGate_own ho]
    simp only [leave_q]
    rw [h5]
    have := fq_in (p := g.owner) hi hq ho
    exact (List.perm_middle.symm.trans (List.Perm.append_left g.waits this.symm))
theorem continueAt_good {g : Gate} {i : Int} (h : gateOk g = true) : gateOk (continueAt g i).1 = true := by
  unfold continueAt
  split
  · exact h
  · rename_i hn
    simp only [not_or, Bool.not_eq_true, Bool.not_eq_false, beq_eq_false_iff_ne] at hn
    obtain ⟨-, ho, hb⟩ := hn
    have hb' := inB_iff.1 hb
    have hi : i.toNat < g.queues.length := by omega
    split
    · exact leave_good h
    · rename_i hq
      have hq' : g.queues.getD i.toNat 0 ≠ -1 := by simpa using hq
      rw [getD_at hi] at hq' ⊢
      refine gateOk_sub h ⟨[g.owner], ?_⟩ (by simp) (.inl hq')
      rw [inGate_own ho, inGate_own (by exact hq')]
      have := fq_out hi hq'
      refine List.Perm.cons _ ?_
      exact (List.Perm.append_left g.waits this).trans List.perm_middle
theorem arrive_len (g : Gate) (p : Int) : (arrive g p).1.waits.length ≤ g.waits.length + 1 ∧ (arrive g p).1.queues = g.queues := by
  unfold arrive
  split
  · exact ⟨by simp, rfl⟩
  · split
    · exact ⟨by simp, rfl⟩
    · exact ⟨by simp, rfl⟩
theorem leave_len (g : Gate) : (leave g).1.waits.length ≤ g.waits.length := by
  unfold leave
  split
  · simp
  · split <;> simp
theorem delayIn_len (g : Gate) (i : Int) : (delayIn g i).1.waits.length ≤ g.waits.length ∧ (delayIn g i).1.queues.length = g.queues.length := by
  unfold delayIn
  have := leave_len g
  split
  · exact ⟨by simp, rfl⟩
  · exact ⟨this, by simp [leave_q]⟩
theorem continueAt_len (g : Gate) (i : Int) : (continueAt g i).1.waits.length ≤ g.waits.length ∧ (continueAt g i).1.queues.length = g.queues.length := by
  unfold continueAt
  have := leave_len g
  split
  · exact ⟨by simp, rfl⟩
  · split
    · exact ⟨this, by rw [leave_q]⟩
    · exact ⟨by simp, by simp⟩
end Go.Proofs.Ytgeoipplkjgnfaa.E
