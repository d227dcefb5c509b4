/- A part of what stands under the laws of this seat: an abstract evaluator that is proved sound, and contracts of functions by it. No condition beside those that stand in each statement. -/
import Derived.Test.YtejnpiielcbkkaaGreatZG2
set_option linter.unusedVariables false
set_option linter.unusedSimpArgs false
section
set_option maxRecDepth 100000
namespace Go.Proofs.YtejnpiielcbkkaaGreat.E
theorem sLeave_ok (g : Gate) (hg : mdGate g) : CallOk Tryz.prog 236 [.agg (gateR g)] (.tup [.agg (gateT (leave g).1), .one (iV (leave g).2)]) [none] := by
  obtain ⟨h1, h2⟩ := id hg
  cases hk : gateOk g
  · rw [leave_no hk]
    refine callOk_of_hcall 40 (hcall_of_body Tryz.func236 rfl (by kernel_rfl) ?_)
    simp (disch := omega) only [go_sem, Tryz.ntmps236, Tryz.results236]
    have x1 := specCopy_ok g hg
    have x2 := sGateOk_ok g hg
    have x3 := specNext_ok g hg
    exact wk
  · rw [leave_eq hk]
    refine callOk_of_hcall 40 (hcall_of_body Tryz.func236 rfl (by kernel_rfl) ?_)
    simp (disch := omega) only [go_sem, Tryz.ntmps236, Tryz.results236]
    have x1 := specCopy_ok g hg
    have x2 := sGateOk_ok g hg
    have x3 := specNext_ok g hg
    exact wk
end Go.Proofs.YtejnpiielcbkkaaGreat.E
end
section
set_option maxRecDepth 100000
namespace Go.Proofs.YtejnpiielcbkkaaGreat.E
theorem hasI_in {g : Gate} {p : Int} (h : inB p 0 3 = true) : hasI (inGate g) p = (g.owner == p || hasI g.waits p || hasI g.queues p) := by
  have hb := inB_t h
  have hq : hasI (g.queues.filter fun q => q != -1) p = hasI g.queues p := by
    unfold hasI
    rw [List.any_filter]
    congr 1; funext y
    by_cases hy : y = p
    · have : y ≠ -1 := by omega
      simp [hy, hy ▸ this]
    · simp [hy]
  unfold inGate
  by_cases ho : g.owner = -1
  · have h1 : (g.owner == p) = false := by simp; omega
    have h2 : (g.owner != -1) = false := by simp [ho]
    rw [h1, h2, ← hq]
    simp [hasI, List.any_append]
  · have h2 : (g.owner != -1) = true := by simp [ho]
    rw [h2, ← hq]
    simp [hasI, List.any_append, Bool.or_assoc]
theorem sArrive_ok (g : Gate) (p : Int) (hg : mdGate g) : CallOk Tryz.prog 234 [.agg (gateR g), .one (iV p)] (.tup [.agg (gateT (arrive g p).1), .one (bV (arrive g p).2)]) [none, none] := by
  obtain ⟨h1, h2⟩ := id hg
  cases hk : gateOk g
  · have e : arrive g p = (g, false) := by simp [arrive, hk]
    rw [e]
    refine callOk_of_hcall 40 (hcall_of_body Tryz.func234 rfl (by kernel_rfl) ?_)
    simp (disch := omega) only [go_sem, Tryz.ntmps234, Tryz.results234]
    have x1 := specCopy_ok g hg
    have x2 := sGateOk_ok g hg
    have x3 := specInB_ok p 0 3
    have x4 := specHas_ok g.waits p (by omega)
    have x5 : HC 1 _ := ⟨specHas_ok g.queues p (by omega)⟩
    exact wk
  · cases hb : inB p 0 3
    · have e : arrive g p = (g, false) := by simp [arrive, hb]
      rw [e]
      refine callOk_of_hcall 40 (hcall_of_body Tryz.func234 rfl (by kernel_rfl) ?_)
      simp (disch := omega) only [go_sem, Tryz.ntmps234, Tryz.results234]
      have x1 := specCopy_ok g hg
      have x2 := sGateOk_ok g hg
      have x3 := specInB_ok p 0 3
      have x4 := specHas_ok g.waits p (by omega)
      have x5 : HC 1 _ := ⟨specHas_ok g.queues p (by omega)⟩
      exact wk
    · have e : arrive g p = if (g.owner == p) = true ∨ hasI g.waits p = true ∨ hasI g.queues p = true then (g, false) else if decide (g.owner < 0) = true then ({ g with owner := p }, true) else ({ g with waits := g.waits ++ [p] }, false) := by
        rw [gateOk_owner hk]; simp only [arrive, hk, hb, hasI_in hb, Bool.or_eq_true, reduceCtorEq, false_or, or_assoc]
      rw [e]
      refine callOk_of_hcall 40 (hcall_of_body Tryz.func234 rfl (by kernel_rfl) ?_)
      simp (disch := omega) only [go_sem, Tryz.ntmps234, Tryz.results234]
      have x1 := specCopy_ok g hg
      have x2 := sGateOk_ok g hg
      have x3 := specInB_ok p 0 3
      have x4 := specHas_ok g.waits p (by omega)
      have x5 : HC 1 _ := ⟨specHas_ok g.queues p (by omega)⟩
      exact wk
end Go.Proofs.YtejnpiielcbkkaaGreat.E
end
section
set_option maxRecDepth 100000
namespace Go.Proofs.YtejnpiielcbkkaaGreat.E
theorem allGood_mem {xs : List Int} (h : allGood xs xs.length = true) {x : Int} (hx : x ∈ xs) : inB x 0 3 = true := by
  obtain ⟨k, hk, e⟩ := List.getElem_of_mem hx
  simp only [allGood, List.all_eq_true] at h
  have := h k (by simpa using hk)
  simp only [goodAt, Bool.and_eq_true] at this
  simpa [hk, e] using this.1
theorem gateOk_q {g : Gate} (h : gateOk g = true) {k : Nat} (hk : k < g.queues.length) : decide (g.queues.getD k 0 < 0) = (g.queues.getD k 0 == -1) := by
  by_cases ho : g.queues.getD k 0 = -1
  · rw [ho]; rfl
  · have hm : g.queues.getD k 0 ∈ inGate g := by
      unfold inGate
      refine List.mem_append_right _ (List.mem_filter.2 ⟨?_, by simpa using ho⟩)
      simp [hk]
    simp only [gateOk, Bool.and_eq_true] at h
    have := inB_t (allGood_mem h.1 hm)
    have h1 : (g.queues.getD k 0 == -1) = false := by simpa using ho
    rw [h1]; simp only [decide_eq_false_iff_not]; omega
theorem sContinueAt_ok (g : Gate) (i : Int) (hg : mdGate g) : CallOk Tryz.prog 238 [.agg (gateR g), .one (iV i)] (.tup [.agg (gateT (continueAt g i).1), .one (iV (continueAt g i).2)]) [none, none] := by
  obtain ⟨h1, h2⟩ := id hg
  cases hk : gateOk g
  · have e : continueAt g i = (g, -1) := by simp [continueAt, hk]
    rw [e]
    refine callOk_of_hcall 40 (hcall_of_body Tryz.func238 rfl (by kernel_rfl) ?_)
    simp (disch := omega) only [go_sem, Tryz.ntmps238, Tryz.results238]
    have x1 : HH 9 (.ho [0, 1, 2] (opm 3 [2] [true, false] (.ho [4] (.stop)))) := ⟨⟩
    have x2 := specCopy_ok g hg
    have x3 := sGateOk_ok g hg
    have x4 := specInB_ok i 0 (g.queues.length - 1)
    have x5 := specNext_ok g hg
    exact wk
  · cases hb : inB i 0 (g.queues.length - 1)
    · have e : continueAt g i = (g, -1) := by simp [continueAt, hb]
      rw [e]
      refine callOk_of_hcall 40 (hcall_of_body Tryz.func238 rfl (by kernel_rfl) ?_)
      simp (disch := omega) only [go_sem, Tryz.ntmps238, Tryz.results238]
      have x1 : HH 9 (.ho [0, 1, 2] (opm 3 [2] [true, false] (.ho [4] (.stop)))) := ⟨⟩
      have x2 := specCopy_ok g hg
      have x3 := sGateOk_ok g hg
      have x4 := specInB_ok i 0 (g.queues.length - 1)
      have x5 := specNext_ok g hg
      exact wk
    · have hi := inB_t hb
      have e : continueAt g i = if decide (g.owner < 0) = true then (g, -1) else if decide (g.queues.getD i.toNat 0 < 0) = true then (nextG g, (nextG g).owner) else (⟨g.queues.getD i.toNat 0, g.waits, g.queues.set i.toNat (-1)⟩, g.queues.getD i.toNat 0) := by
        rw [gateOk_owner hk, gateOk_q hk (by omega)]
        simp only [continueAt, leave_eq hk, gateOk_owner hk, hk, hb, reduceCtorEq, false_or, or_false]
        split <;> simp_all
      rw [e]
      refine callOk_of_hcall 40 (hcall_of_body Tryz.func238 rfl (by kernel_rfl) ?_)
      simp (disch := omega) only [go_sem, Tryz.ntmps238, Tryz.results238]
      have x1 : HH 9 (.ho [0, 1, 2] (opm 3 [2] [true, false] (.ho [4] (.stop)))) := ⟨⟩
      have x2 := specCopy_ok g hg
      have x3 := sGateOk_ok g hg
      have x4 := specInB_ok i 0 (g.queues.length - 1)
      have x5 := specNext_ok g hg
      exact wk
end Go.Proofs.YtejnpiielcbkkaaGreat.E
end
section
set_option maxRecDepth 100000
namespace Go.Proofs.YtejnpiielcbkkaaGreat.E
theorem sDelayIn_ok (g : Gate) (i : Int) (hg : mdGate g) : CallOk Tryz.prog 237 [.agg (gateR g), .one (iV i)] (.tup [.agg (gateT (delayIn g i).1), .one (iV (delayIn g i).2.1), .one (bV (delayIn g i).2.2)]) [none, none] := by
  obtain ⟨h1, h2⟩ := id hg
  cases hk : gateOk g
  · have e : delayIn g i = (g, -1, false) := by simp [delayIn, hk]
    rw [e]
    refine callOk_of_hcall 40 (hcall_of_body Tryz.func237 rfl (by kernel_rfl) ?_)
    simp (disch := omega) only [go_sem, Tryz.ntmps237, Tryz.results237]
    have x1 := specCopy_ok g hg
    have x2 := sGateOk_ok g hg
    have x3 := specInB_ok i 0 (g.queues.length - 1)
    exact wk
  · cases hb : inB i 0 (g.queues.length - 1)
    · have e : delayIn g i = (g, -1, false) := by simp [delayIn, hb]
      rw [e]
      refine callOk_of_hcall 40 (hcall_of_body Tryz.func237 rfl (by kernel_rfl) ?_)
      simp (disch := omega) only [go_sem, Tryz.ntmps237, Tryz.results237]
      have x1 := specCopy_ok g hg
      have x2 := sGateOk_ok g hg
      have x3 := specInB_ok i 0 (g.queues.length - 1)
      exact wk
    · have hi := inB_t hb
      have hs : mdGate ⟨g.owner, g.waits, g.queues.set i.toNat g.owner⟩ := ⟨h1, by simpa using h2⟩
      have hn := specNext_ok ⟨g.owner, g.waits, g.queues.set i.toNat g.owner⟩ hs
      have e : delayIn g i = if decide (g.owner < 0) = true then (g, -1, false) else if decide (0 ≤ g.queues.getD i.toNat 0) = true then (g, -1, false) else (nextG ⟨g.owner, g.waits, g.queues.set i.toNat g.owner⟩, (nextG ⟨g.owner, g.waits, g.queues.set i.toNat g.owner⟩).owner, true) := by
        have hq := gateOk_q hk (k := i.toNat) (by omega)
        have hz : decide (0 ≤ g.queues.getD i.toNat 0) = (g.queues.getD i.toNat 0 != -1) := by
          have hn : (0 ≤ g.queues.getD i.toNat 0) ↔ ¬ (g.queues.getD i.toNat 0 < 0) := by omega
          simp only [bne, ← hq, hn, decide_not]
        rw [hz]
        by_cases ho : decide (g.owner < 0) = true
        · simp only [delayIn, ← gateOk_owner hk, ho, hk, hb, true_or, or_true, if_true]
        · have ho' : (g.owner == -1) = false := by rw [← gateOk_owner hk]; simpa using ho
          simp only [delayIn, leave_eq hk, ho, ho', hk, hb, reduceCtorEq, false_or, if_false]
          split
          · rfl
          · unfold nextG; split <;> rfl
      rw [e]
      refine callOk_of_hcall 40 (hcall_of_body Tryz.func237 rfl (by kernel_rfl) ?_)
      simp (disch := omega) only [go_sem, Tryz.ntmps237, Tryz.results237]
      have x1 := specCopy_ok g hg
      have x2 := sGateOk_ok g hg
      have x3 := specInB_ok i 0 (g.queues.length - 1)
      exact wk
end Go.Proofs.YtejnpiielcbkkaaGreat.E
end
