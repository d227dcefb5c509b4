import Derived.Test.YtgeoipplkjgnfaaGt5
set_option linter.unusedVariables false
set_option linter.unusedSimpArgs false
set_option maxRecDepth 100000
namespace Go.Proofs.Ytgeoipplkjgnfaa.E
theorem gateOk_owner {g : Gate} (h : gateOk g = true) : decide (g.owner < 0) = (g.owner == -1) := by
  by_cases ho : g.owner = -1
  · simp [ho]
  · have hi : inGate g = g.owner :: (g.waits ++ g.queues.filter fun q => q != -1) := by
      have : (g.owner != -1) = true := by simp [ho]
      simp [inGate, this]
    simp only [gateOk, Bool.and_eq_true] at h
    have h0 : goodAt (inGate g) 0 = true := by
      have := h.1
      simp only [allGood, List.all_eq_true] at this
      exact this 0 (by simp [hi])
    have hb : inB g.owner 0 3 = true := by
      simp only [goodAt, hi, Bool.and_eq_true] at h0
      simpa using h0.1
    have := inB_t hb
    have h1 : (g.owner == -1) = false := by simp [ho]
    rw [h1]; simp; omega
theorem leave_eq {g : Gate} (h : gateOk g = true) : leave g = if decide (g.owner < 0) = true then (g, -1) else (nextG g, (nextG g).owner) := by
  rw [gateOk_owner h]
  unfold leave nextG
  simp only [h, reduceCtorEq, false_or]
  split
  · rfl
  · split <;> rfl
theorem leave_no {g : Gate} (h : gateOk g = false) : leave g = (g, -1) := by simp [leave, h]
end Go.Proofs.Ytgeoipplkjgnfaa.E
