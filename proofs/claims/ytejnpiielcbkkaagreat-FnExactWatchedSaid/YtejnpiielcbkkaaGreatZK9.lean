/- A part of what stands under the laws of this seat: an abstract evaluator that is proved sound, and contracts of functions by it. No condition beside those that stand in each statement. -/
import Derived.Test.YtejnpiielcbkkaaGreatZK2
import Derived.Test.YtejnpiielcbkkaaGreatZK4
set_option linter.unusedVariables false
set_option linter.unusedSimpArgs false
set_option maxRecDepth 100000
set_option maxHeartbeats 4000000
namespace Go.Proofs.YtejnpiielcbkkaaGreat.E
/-! ### One step of a core, plainly -/
def regAt (c : Core) (a : Int) : Int := c.regs.getD a.toNat 0
def putReg (c : Core) (a n : Int) : Core := ⟨c.regs.set a.toNat n, c.pc + 1, c.process⟩
def stepBad (c : Core) (text mem : List Int) : Bool :=
  if coreOk c = false ∨ (wordAt text c.pc).2 = false then true
  else if usesMem (wordAt text c.pc).1 = false then false
  else if decide ((mem.length : Int) ≤ (wordAt text c.pc).1.c) = true then true
  else if ((wordAt text c.pc).1.op == 3) = true then false
  else !valOk (mem.getD (wordAt text c.pc).1.c.toNat 0)
def stepOp (c : Core) (mem : List Int) (x : Ins) : Core × List Int × Int :=
  if x.op = 1 then (putReg c x.a x.c, mem, 0)
  else if x.op = 2 then (putReg c x.a (mem.getD x.c.toNat 0), mem, 0)
  else if x.op = 3 then (⟨c.regs, c.pc + 1, c.process⟩, mem.set x.c.toNat (regAt c x.a), 0)
  else if x.op = 4 then (if (calcV x.c (regAt c x.a) (regAt c x.b)).2 = 0 then (putReg c x.a (calcV x.c (regAt c x.a) (regAt c x.b)).1, mem, 0) else (c, mem, (calcV x.c (regAt c x.a) (regAt c x.b)).2))
  else if x.op = 5 then (putReg c x.a (bit (regAt c x.a == 0)), mem, 0)
  else if x.op = 6 then (if (negated (regAt c x.a)).2 = 0 then (putReg c x.a (negated (regAt c x.a)).1, mem, 0) else (c, mem, (negated (regAt c x.a)).2))
  else if x.op = 7 then (⟨c.regs, if (regAt c x.a == 0) = true then x.c else c.pc + 1, c.process⟩, mem, 0)
  else if x.op = 8 then (⟨c.regs, x.c, c.process⟩, mem, 0)
  else if x.op = 9 then (putReg c x.a (mem.getD x.c.toNat 0), mem.set x.c.toNat 1, 0)
  else (⟨c.regs, c.pc + 1, c.process⟩, mem, 10)
def stepCore (c : Core) (text mem : List Int) : Core × List Int × Int := if stepBad c text mem = true then (c, mem, 4) else stepOp c mem (wordAt text c.pc).1
theorem set_getD_self (xs : List Int) (k : Nat) (h : k < xs.length) : xs.set k (xs.getD k 0) = xs := by
  apply List.ext_getElem?
  intro i
  by_cases hi : k = i
  · subst hi; simp [h]
  · rw [List.getElem?_set_ne hi]
theorem insOk_bd {x : Ins} (h : insOk x = true) : (1 ≤ x.op ∧ x.op ≤ 10) ∧ (0 ≤ x.a ∧ x.a ≤ 7) ∧ (0 ≤ x.b ∧ x.b ≤ 7) ∧ 0 ≤ x.c ∧ x.c ≤ 4194303 := by
  unfold insOk at h
  split at h
  · cases h
  · rename_i hh
    simp only [not_or, Bool.not_eq_false] at hh
    exact ⟨inB_t hh.1, inB_t hh.2.1, inB_t hh.2.2.1, inB_t hh.2.2.2⟩
theorem decode_ok {w : Int} {x : Ins} (h : decode w = (x, true)) : insOk x = true := by
  unfold decode at h
  split at h
  · cases h
  · split at h
    · rename_i hh; cases h; exact hh
    · cases h
theorem wordAt_ins {text : List Int} {pc : Int} {x : Ins} (h : wordAt text pc = (x, true)) : insOk x = true ∧ 0 ≤ pc ∧ pc < text.length := by
  unfold wordAt at h
  split at h
  · rename_i hh
    have := inB_t hh
    exact ⟨decode_ok h, by omega⟩
  · cases h
theorem coreOk_bd {c : Core} (h : coreOk c = true) : c.regs.length = 8 ∧ (∀ k, valOk (c.regs.getD k 0) = true) ∧ 0 ≤ c.pc ∧ (-1 ≤ c.process ∧ c.process ≤ 3) := by
  unfold coreOk at h
  split at h
  · cases h
  · rename_i hh
    simp only [not_or, Bool.not_eq_false, Bool.not_eq_true, beq_iff_eq, decide_eq_true_eq] at hh
    obtain ⟨h1, h2, h3, h4⟩ := hh
    refine ⟨by omega, fun k => ?_, h3, inB_t h4⟩
    by_cases hk : k < c.regs.length
    · simp only [List.any_eq_false] at h2
      have := h2 (c.regs[k]) (List.getElem_mem hk)
      simp only [badVal, Bool.not_eq_true', Bool.not_eq_false] at this
      simpa [hk] using this
    · simp only [List.getD_eq_getElem?_getD, List.getElem?_eq_none (Nat.le_of_not_lt hk), Option.getD_none]; rfl
theorem wordAt_is {text : List Int} {pc : Int} {x : Ins} {ok : Bool} (ht : text.length ≤ 1099511627776) (h : wordAt text pc = (x, ok)) : CallOk Tryz.prog 145 [.one (.ro 1 (intsD text)), .one (iV pc)] (.tup [.agg (insT x), .one (bV ok)]) [none, none] := by
  have := wordAt_ok text pc ht
  rw [h] at this
  exact this
theorem iStepCore_bad (c : Core) (text mem : List Int) (hc : mdCore c) (ht : text.length ≤ 1099511627776) (hm : mem.length ≤ 1099511627776) (hb : stepBad c text mem = true) :
    CallOk Tryz.prog 148 [.agg (coreR c), .one (.ro 1 (intsD text)), .one (.ro 1 (intsD mem))] (.tup [.agg (coreT c), .one (.own 1 (intsT mem)), .one (iV 4)]) [none, none, none] := by
  rcases hw : wordAt text c.pc with ⟨x, ok⟩
  have hwo := wordAt_is ht hw
  have hs : c.regs.length ≤ 1099511627776 := hc
  cases ok
  · cases h1 : coreOk c
    all_goals
      refine callOk_of_hcall 40 (hcall_of_body Tryz.func148 rfl (by kernel_rfl) ?_)
      simp (disch := omega) only [go_sem, Tryz.ntmps148, Tryz.results148]
      have x1 : HT 15 (.fr [0, 1, 2, 3, 4, 5, 6, 7, 8] (.op [9] (.stop))) := ⟨⟩
      have x2 : HT 17 (.fr [0, 1, 2, 3, 4, 5, 6, 7, 8, 9, 10, 11] (.op [12] (.fr [13, 14, 15, 16, 17] (.stop)))) := ⟨⟩
      have x3 := copyCore_ok c hc
      have x4 := iCoreOk_ok c hc
      exact wk
  · obtain ⟨⟨o1, o2⟩, ⟨a1, a2⟩, ⟨b1, b2⟩, c1, c2⟩ := insOk_bd (wordAt_ins hw).1
    cases h1 : coreOk c
    ·
      refine callOk_of_hcall 40 (hcall_of_body Tryz.func148 rfl (by kernel_rfl) ?_)
      simp (disch := omega) only [go_sem, Tryz.ntmps148, Tryz.results148]
      have x1 : HT 15 (.fr [0, 1, 2, 3, 4, 5, 6, 7, 8] (.op [9] (.stop))) := ⟨⟩
      have x2 : HT 17 (.fr [0, 1, 2, 3, 4, 5, 6, 7, 8, 9, 10, 11] (.op [12] (.fr [13, 14, 15, 16, 17] (.stop)))) := ⟨⟩
      have x3 := copyCore_ok c hc
      have x4 := iCoreOk_ok c hc
      exact wk
    · have hu : usesMem x = true := by
        cases hu : usesMem x
        · unfold stepBad at hb; simp [h1, hw, hu] at hb
        · rfl
      cases h2 : decide ((mem.length : Int) ≤ x.c)
      · have h2' := of_decide_eq_false h2
        have h3 : (x.op == 3) = false ∧ valOk (mem.getD x.c.toNat 0) = false := by
          unfold stepBad at hb
          simp only [h1, hw, hu, h2, reduceCtorEq, or_self, if_false, Bool.false_eq_true] at hb
          cases h3 : (x.op == 3)
          · rw [h3] at hb
            simp only [Bool.false_eq_true, if_false, Bool.not_eq_true'] at hb
            exact ⟨rfl, hb⟩
          · rw [h3] at hb
            simp only [if_true, Bool.false_eq_true] at hb
        obtain ⟨h3, h4⟩ := h3
        have h3' : (x.op != 3) = true := by rw [bne, h3]; rfl
        refine callOk_of_hcall 40 (hcall_of_body Tryz.func148 rfl (by kernel_rfl) ?_)
        simp (disch := omega) only [go_sem, Tryz.ntmps148, Tryz.results148]
        have x1 : HT 15 (.fr [0, 1, 2, 3, 4, 5, 6, 7, 8] (.op [9] (.stop))) := ⟨⟩
        have x2 : HT 17 (.fr [0, 1, 2, 3, 4, 5, 6, 7, 8, 9, 10, 11] (.op [12] (.fr [13, 14, 15, 16, 17] (.stop)))) := ⟨⟩
        have x3 := copyCore_ok c hc
        have x4 := iCoreOk_ok c hc
        have x5 := usesMem_ok x
        have x6 := iValOk_ok (mem.getD x.c.toNat 0)
        exact wk
      · have h2' := of_decide_eq_true h2
        refine callOk_of_hcall 40 (hcall_of_body Tryz.func148 rfl (by kernel_rfl) ?_)
        simp (disch := omega) only [go_sem, Tryz.ntmps148, Tryz.results148]
        have x1 : HT 15 (.fr [0, 1, 2, 3, 4, 5, 6, 7, 8] (.op [9] (.stop))) := ⟨⟩
        have x2 : HT 17 (.fr [0, 1, 2, 3, 4, 5, 6, 7, 8, 9, 10, 11] (.op [12] (.fr [13, 14, 15, 16, 17] (.stop)))) := ⟨⟩
        have x3 := copyCore_ok c hc
        have x4 := iCoreOk_ok c hc
        have x5 := usesMem_ok x
        have x6 := iValOk_ok (mem.getD x.c.toNat 0)
        exact wk
theorem stepGood {c : Core} {text mem : List Int} {x : Ins} (hw : wordAt text c.pc = (x, true)) (hb : stepBad c text mem = false) : coreOk c = true ∧ (usesMem x = true → x.c < mem.length ∧ ((x.op == 3) = false → valOk (mem.getD x.c.toNat 0) = true)) := by
  unfold stepBad at hb
  rw [hw] at hb
  dsimp only at hb
  cases h1 : coreOk c
  · rw [h1, if_pos (.inl rfl)] at hb; cases hb
  · rw [h1, if_neg (by simp)] at hb
    refine ⟨rfl, fun hu => ?_⟩
    rw [hu, if_neg (by simp)] at hb
    cases h2 : decide ((mem.length : Int) ≤ x.c)
    · rw [h2, if_neg (by simp)] at hb
      refine ⟨by have := of_decide_eq_false h2; omega, fun h3 => ?_⟩
      rw [h3, if_neg (by simp)] at hb
      simpa only [Bool.not_eq_false'] using hb
    · rw [h2, if_pos rfl] at hb; cases hb
theorem iStepCore_1 (c : Core) (text mem : List Int) (a b d : Int) (hc : mdCore c) (ht : text.length ≤ 1099511627776) (hm : mem.length ≤ 1099511627776) (hw : wordAt text c.pc = (⟨1, a, b, d⟩, true)) (h1 : coreOk c = true) :
    CallOk Tryz.prog 148 [.agg (coreR c), .one (.ro 1 (intsD text)), .one (.ro 1 (intsD mem))] (.tup [.agg (coreT (stepOp c mem ⟨1, a, b, d⟩).1), .one (.own 1 (intsT (stepOp c mem ⟨1, a, b, d⟩).2.1)), .one (iV (stepOp c mem ⟨1, a, b, d⟩).2.2)]) [none, none, none] := by
  have hwo := wordAt_is ht hw
  have hus := usesMem_ok ⟨1, a, b, d⟩
  have hu : usesMem ⟨1, a, b, d⟩ = false := rfl
  obtain ⟨hi, p0, p1⟩ := wordAt_ins hw
  obtain ⟨-, ⟨a1, a2⟩, ⟨b1, b2⟩, c1, c2⟩ := insOk_bd hi
  obtain ⟨h8, -, -, -⟩ := coreOk_bd h1
  have h8a : 8 ≤ c.regs.length := by omega
  have h8b : c.regs.length ≤ 8 := by omega
  clear hi h8
  dsimp only at a1 a2 b1 b2 c1 c2
  have hsame := set_getD_self c.regs a.toNat (by omega)
  refine callOk_of_hcall 40 (hcall_of_body Tryz.func148 rfl (by kernel_rfl) ?_)
  simp (disch := omega) only [go_sem, Tryz.ntmps148, Tryz.results148]
  have x1 := @stepOp.eq_1
  have x2 := @putReg.eq_1
  have x3 := @regAt.eq_1
  have x4 : HT 15 (.fr [0, 1, 2, 3, 4, 5, 6, 7, 8] (.op [9] (.stop))) := ⟨⟩
  have x5 : HT 17 (.fr [0, 1, 2, 3, 4, 5, 6, 7, 8, 9, 10, 11] (.op [12] (.fr [13, 14, 15, 16, 17] (.stop)))) := ⟨⟩
  have x6 := copyCore_ok c hc
  have x7 := iCoreOk_ok c hc
  have x8 := iValOk_ok (mem.getD d.toNat 0)
  exact wki
theorem iStepCore_2 (c : Core) (text mem : List Int) (a b d : Int) (hc : mdCore c) (ht : text.length ≤ 1099511627776) (hm : mem.length ≤ 1099511627776) (hw : wordAt text c.pc = (⟨2, a, b, d⟩, true)) (h1 : coreOk c = true) (hd : d < mem.length) (hv : valOk (mem.getD d.toNat 0) = true) :
    CallOk Tryz.prog 148 [.agg (coreR c), .one (.ro 1 (intsD text)), .one (.ro 1 (intsD mem))] (.tup [.agg (coreT (stepOp c mem ⟨2, a, b, d⟩).1), .one (.own 1 (intsT (stepOp c mem ⟨2, a, b, d⟩).2.1)), .one (iV (stepOp c mem ⟨2, a, b, d⟩).2.2)]) [none, none, none] := by
  have hwo := wordAt_is ht hw
  have hus := usesMem_ok ⟨2, a, b, d⟩
  have hu : usesMem ⟨2, a, b, d⟩ = true := rfl
  obtain ⟨hi, p0, p1⟩ := wordAt_ins hw
  obtain ⟨-, ⟨a1, a2⟩, ⟨b1, b2⟩, c1, c2⟩ := insOk_bd hi
  obtain ⟨h8, -, -, -⟩ := coreOk_bd h1
  have h8a : 8 ≤ c.regs.length := by omega
  have h8b : c.regs.length ≤ 8 := by omega
  clear hi h8
  dsimp only at a1 a2 b1 b2 c1 c2
  have hsame := set_getD_self c.regs a.toNat (by omega)
  refine callOk_of_hcall 40 (hcall_of_body Tryz.func148 rfl (by kernel_rfl) ?_)
  simp (disch := omega) only [go_sem, Tryz.ntmps148, Tryz.results148]
  have x1 := @stepOp.eq_1
  have x2 := @putReg.eq_1
  have x3 := @regAt.eq_1
  have x4 : HT 15 (.fr [0, 1, 2, 3, 4, 5, 6, 7, 8] (.op [9] (.stop))) := ⟨⟩
  have x5 : HT 17 (.fr [0, 1, 2, 3, 4, 5, 6, 7, 8, 9, 10, 11] (.op [12] (.fr [13, 14, 15, 16, 17] (.stop)))) := ⟨⟩
  have x6 := copyCore_ok c hc
  have x7 := iCoreOk_ok c hc
  have x8 := iValOk_ok (mem.getD d.toNat 0)
  exact wki
theorem iStepCore_3 (c : Core) (text mem : List Int) (a b d : Int) (hc : mdCore c) (ht : text.length ≤ 1099511627776) (hm : mem.length ≤ 1099511627776) (hw : wordAt text c.pc = (⟨3, a, b, d⟩, true)) (h1 : coreOk c = true) (hd : d < mem.length) :
    CallOk Tryz.prog 148 [.agg (coreR c), .one (.ro 1 (intsD text)), .one (.ro 1 (intsD mem))] (.tup [.agg (coreT (stepOp c mem ⟨3, a, b, d⟩).1), .one (.own 1 (intsT (stepOp c mem ⟨3, a, b, d⟩).2.1)), .one (iV (stepOp c mem ⟨3, a, b, d⟩).2.2)]) [none, none, none] := by
  have hwo := wordAt_is ht hw
  have hus := usesMem_ok ⟨3, a, b, d⟩
  have hu : usesMem ⟨3, a, b, d⟩ = true := rfl
  obtain ⟨hi, p0, p1⟩ := wordAt_ins hw
  obtain ⟨-, ⟨a1, a2⟩, ⟨b1, b2⟩, c1, c2⟩ := insOk_bd hi
  obtain ⟨h8, -, -, -⟩ := coreOk_bd h1
  have h8a : 8 ≤ c.regs.length := by omega
  have h8b : c.regs.length ≤ 8 := by omega
  clear hi h8
  dsimp only at a1 a2 b1 b2 c1 c2
  have hsame := set_getD_self c.regs a.toNat (by omega)
  refine callOk_of_hcall 40 (hcall_of_body Tryz.func148 rfl (by kernel_rfl) ?_)
  simp (disch := omega) only [go_sem, Tryz.ntmps148, Tryz.results148]
  have x1 := @stepOp.eq_1
  have x2 := @putReg.eq_1
  have x3 := @regAt.eq_1
  have x4 : HT 15 (.fr [0, 1, 2, 3, 4, 5, 6, 7, 8] (.op [9] (.stop))) := ⟨⟩
  have x5 : HT 17 (.fr [0, 1, 2, 3, 4, 5, 6, 7, 8, 9, 10, 11] (.op [12] (.fr [13, 14, 15, 16, 17] (.stop)))) := ⟨⟩
  have x6 := copyCore_ok c hc
  have x7 := iCoreOk_ok c hc
  have x8 := iValOk_ok (mem.getD d.toNat 0)
  exact wki
theorem iStepCore_4 (c : Core) (text mem : List Int) (a b d : Int) (hc : mdCore c) (ht : text.length ≤ 1099511627776) (hm : mem.length ≤ 1099511627776) (hw : wordAt text c.pc = (⟨4, a, b, d⟩, true)) (h1 : coreOk c = true) :
    CallOk Tryz.prog 148 [.agg (coreR c), .one (.ro 1 (intsD text)), .one (.ro 1 (intsD mem))] (.tup [.agg (coreT (stepOp c mem ⟨4, a, b, d⟩).1), .one (.own 1 (intsT (stepOp c mem ⟨4, a, b, d⟩).2.1)), .one (iV (stepOp c mem ⟨4, a, b, d⟩).2.2)]) [none, none, none] := by
  have hwo := wordAt_is ht hw
  have hus := usesMem_ok ⟨4, a, b, d⟩
  have hu : usesMem ⟨4, a, b, d⟩ = false := rfl
  obtain ⟨hi, p0, p1⟩ := wordAt_ins hw
  obtain ⟨-, ⟨a1, a2⟩, ⟨b1, b2⟩, c1, c2⟩ := insOk_bd hi
  obtain ⟨h8, -, -, -⟩ := coreOk_bd h1
  have h8a : 8 ≤ c.regs.length := by omega
  have h8b : c.regs.length ≤ 8 := by omega
  clear hi h8
  dsimp only at a1 a2 b1 b2 c1 c2
  have hsame := set_getD_self c.regs a.toNat (by omega)
  cases hf : decide ((calcV d (c.regs.getD a.toNat 0) (c.regs.getD b.toNat 0)).2 = 0)
  all_goals
    have hf1 : ((calcV d (c.regs.getD a.toNat 0) (c.regs.getD b.toNat 0)).2 == 0) = decide ((calcV d (c.regs.getD a.toNat 0) (c.regs.getD b.toNat 0)).2 = 0) := rfl
    have hf2 : ((calcV d (c.regs.getD a.toNat 0) (c.regs.getD b.toNat 0)).2 != 0) = !decide ((calcV d (c.regs.getD a.toNat 0) (c.regs.getD b.toNat 0)).2 = 0) := rfl
    rw [hf] at hf1 hf2
    simp only [Bool.not_true, Bool.not_false] at hf2
    have hf3 := hf
    simp only [decide_eq_true_eq, decide_eq_false_iff_not] at hf3
    refine callOk_of_hcall 40 (hcall_of_body Tryz.func148 rfl (by kernel_rfl) ?_)
    simp (disch := omega) only [go_sem, Tryz.ntmps148, Tryz.results148]
    have x1 := @stepOp.eq_1
    have x2 := @putReg.eq_1
    have x3 := @regAt.eq_1
    have x4 : HT 15 (.fr [0, 1, 2, 3, 4, 5, 6, 7, 8] (.op [9] (.stop))) := ⟨⟩
    have x5 : HT 17 (.fr [0, 1, 2, 3, 4, 5, 6, 7, 8, 9, 10, 11] (.op [12] (.fr [13, 14, 15, 16, 17] (.stop)))) := ⟨⟩
    have x6 := copyCore_ok c hc
    have x7 := iCoreOk_ok c hc
    have x8 := iValOk_ok (mem.getD d.toNat 0)
    have x9 := iCalc_ok d (c.regs.getD a.toNat 0) (c.regs.getD b.toNat 0)
    exact wki
theorem iStepCore_5 (c : Core) (text mem : List Int) (a b d : Int) (hc : mdCore c) (ht : text.length ≤ 1099511627776) (hm : mem.length ≤ 1099511627776) (hw : wordAt text c.pc = (⟨5, a, b, d⟩, true)) (h1 : coreOk c = true) :
    CallOk Tryz.prog 148 [.agg (coreR c), .one (.ro 1 (intsD text)), .one (.ro 1 (intsD mem))] (.tup [.agg (coreT (stepOp c mem ⟨5, a, b, d⟩).1), .one (.own 1 (intsT (stepOp c mem ⟨5, a, b, d⟩).2.1)), .one (iV (stepOp c mem ⟨5, a, b, d⟩).2.2)]) [none, none, none] := by
  have hwo := wordAt_is ht hw
  have hus := usesMem_ok ⟨5, a, b, d⟩
  have hu : usesMem ⟨5, a, b, d⟩ = false := rfl
  obtain ⟨hi, p0, p1⟩ := wordAt_ins hw
  obtain ⟨-, ⟨a1, a2⟩, ⟨b1, b2⟩, c1, c2⟩ := insOk_bd hi
  obtain ⟨h8, -, -, -⟩ := coreOk_bd h1
  have h8a : 8 ≤ c.regs.length := by omega
  have h8b : c.regs.length ≤ 8 := by omega
  clear hi h8
  dsimp only at a1 a2 b1 b2 c1 c2
  have hsame := set_getD_self c.regs a.toNat (by omega)
  refine callOk_of_hcall 40 (hcall_of_body Tryz.func148 rfl (by kernel_rfl) ?_)
  simp (disch := omega) only [go_sem, Tryz.ntmps148, Tryz.results148]
  have x1 := @stepOp.eq_1
  have x2 := @putReg.eq_1
  have x3 := @regAt.eq_1
  have x4 : HT 15 (.fr [0, 1, 2, 3, 4, 5, 6, 7, 8] (.op [9] (.stop))) := ⟨⟩
  have x5 : HT 17 (.fr [0, 1, 2, 3, 4, 5, 6, 7, 8, 9, 10, 11] (.op [12] (.fr [13, 14, 15, 16, 17] (.stop)))) := ⟨⟩
  have x6 := copyCore_ok c hc
  have x7 := iCoreOk_ok c hc
  have x8 := iValOk_ok (mem.getD d.toNat 0)
  have x9 := iDenied_ok (c.regs.getD a.toNat 0)
  exact wki
theorem iStepCore_6 (c : Core) (text mem : List Int) (a b d : Int) (hc : mdCore c) (ht : text.length ≤ 1099511627776) (hm : mem.length ≤ 1099511627776) (hw : wordAt text c.pc = (⟨6, a, b, d⟩, true)) (h1 : coreOk c = true) :
    CallOk Tryz.prog 148 [.agg (coreR c), .one (.ro 1 (intsD text)), .one (.ro 1 (intsD mem))] (.tup [.agg (coreT (stepOp c mem ⟨6, a, b, d⟩).1), .one (.own 1 (intsT (stepOp c mem ⟨6, a, b, d⟩).2.1)), .one (iV (stepOp c mem ⟨6, a, b, d⟩).2.2)]) [none, none, none] := by
  have hwo := wordAt_is ht hw
  have hus := usesMem_ok ⟨6, a, b, d⟩
  have hu : usesMem ⟨6, a, b, d⟩ = false := rfl
  obtain ⟨hi, p0, p1⟩ := wordAt_ins hw
  obtain ⟨-, ⟨a1, a2⟩, ⟨b1, b2⟩, c1, c2⟩ := insOk_bd hi
  obtain ⟨h8, -, -, -⟩ := coreOk_bd h1
  have h8a : 8 ≤ c.regs.length := by omega
  have h8b : c.regs.length ≤ 8 := by omega
  clear hi h8
  dsimp only at a1 a2 b1 b2 c1 c2
  have hsame := set_getD_self c.regs a.toNat (by omega)
  cases hf : decide ((negated (c.regs.getD a.toNat 0)).2 = 0)
  all_goals
    have hf1 : ((negated (c.regs.getD a.toNat 0)).2 == 0) = decide ((negated (c.regs.getD a.toNat 0)).2 = 0) := rfl
    have hf2 : ((negated (c.regs.getD a.toNat 0)).2 != 0) = !decide ((negated (c.regs.getD a.toNat 0)).2 = 0) := rfl
    rw [hf] at hf1 hf2
    simp only [Bool.not_true, Bool.not_false] at hf2
    have hf3 := hf
    simp only [decide_eq_true_eq, decide_eq_false_iff_not] at hf3
    refine callOk_of_hcall 40 (hcall_of_body Tryz.func148 rfl (by kernel_rfl) ?_)
    simp (disch := omega) only [go_sem, Tryz.ntmps148, Tryz.results148]
    have x1 := @stepOp.eq_1
    have x2 := @putReg.eq_1
    have x3 := @regAt.eq_1
    have x4 : HT 15 (.fr [0, 1, 2, 3, 4, 5, 6, 7, 8] (.op [9] (.stop))) := ⟨⟩
    have x5 : HT 17 (.fr [0, 1, 2, 3, 4, 5, 6, 7, 8, 9, 10, 11] (.op [12] (.fr [13, 14, 15, 16, 17] (.stop)))) := ⟨⟩
    have x6 := copyCore_ok c hc
    have x7 := iCoreOk_ok c hc
    have x8 := iValOk_ok (mem.getD d.toNat 0)
    have x9 := iNegated_ok (c.regs.getD a.toNat 0)
    exact wki
theorem iStepCore_7 (c : Core) (text mem : List Int) (a b d : Int) (hc : mdCore c) (ht : text.length ≤ 1099511627776) (hm : mem.length ≤ 1099511627776) (hw : wordAt text c.pc = (⟨7, a, b, d⟩, true)) (h1 : coreOk c = true) :
    CallOk Tryz.prog 148 [.agg (coreR c), .one (.ro 1 (intsD text)), .one (.ro 1 (intsD mem))] (.tup [.agg (coreT (stepOp c mem ⟨7, a, b, d⟩).1), .one (.own 1 (intsT (stepOp c mem ⟨7, a, b, d⟩).2.1)), .one (iV (stepOp c mem ⟨7, a, b, d⟩).2.2)]) [none, none, none] := by
  have hwo := wordAt_is ht hw
  have hus := usesMem_ok ⟨7, a, b, d⟩
  have hu : usesMem ⟨7, a, b, d⟩ = false := rfl
  obtain ⟨hi, p0, p1⟩ := wordAt_ins hw
  obtain ⟨-, ⟨a1, a2⟩, ⟨b1, b2⟩, c1, c2⟩ := insOk_bd hi
  obtain ⟨h8, -, -, -⟩ := coreOk_bd h1
  have h8a : 8 ≤ c.regs.length := by omega
  have h8b : c.regs.length ≤ 8 := by omega
  clear hi h8
  dsimp only at a1 a2 b1 b2 c1 c2
  have hsame := set_getD_self c.regs a.toNat (by omega)
  cases hf : (c.regs.getD a.toNat 0 == 0)
  all_goals
    refine callOk_of_hcall 40 (hcall_of_body Tryz.func148 rfl (by kernel_rfl) ?_)
    simp (disch := omega) only [go_sem, Tryz.ntmps148, Tryz.results148]
    have x1 := @stepOp.eq_1
    have x2 := @putReg.eq_1
    have x3 := @regAt.eq_1
    have x4 : HT 15 (.fr [0, 1, 2, 3, 4, 5, 6, 7, 8] (.op [9] (.stop))) := ⟨⟩
    have x5 : HT 17 (.fr [0, 1, 2, 3, 4, 5, 6, 7, 8, 9, 10, 11] (.op [12] (.fr [13, 14, 15, 16, 17] (.stop)))) := ⟨⟩
    have x6 := copyCore_ok c hc
    have x7 := iCoreOk_ok c hc
    have x8 := iValOk_ok (mem.getD d.toNat 0)
    exact wki
theorem iStepCore_8 (c : Core) (text mem : List Int) (a b d : Int) (hc : mdCore c) (ht : text.length ≤ 1099511627776) (hm : mem.length ≤ 1099511627776) (hw : wordAt text c.pc = (⟨8, a, b, d⟩, true)) (h1 : coreOk c = true) :
    CallOk Tryz.prog 148 [.agg (coreR c), .one (.ro 1 (intsD text)), .one (.ro 1 (intsD mem))] (.tup [.agg (coreT (stepOp c mem ⟨8, a, b, d⟩).1), .one (.own 1 (intsT (stepOp c mem ⟨8, a, b, d⟩).2.1)), .one (iV (stepOp c mem ⟨8, a, b, d⟩).2.2)]) [none, none, none] := by
  have hwo := wordAt_is ht hw
  have hus := usesMem_ok ⟨8, a, b, d⟩
  have hu : usesMem ⟨8, a, b, d⟩ = false := rfl
  obtain ⟨hi, p0, p1⟩ := wordAt_ins hw
  obtain ⟨-, ⟨a1, a2⟩, ⟨b1, b2⟩, c1, c2⟩ := insOk_bd hi
  obtain ⟨h8, -, -, -⟩ := coreOk_bd h1
  have h8a : 8 ≤ c.regs.length := by omega
  have h8b : c.regs.length ≤ 8 := by omega
  clear hi h8
  dsimp only at a1 a2 b1 b2 c1 c2
  have hsame := set_getD_self c.regs a.toNat (by omega)
  refine callOk_of_hcall 40 (hcall_of_body Tryz.func148 rfl (by kernel_rfl) ?_)
  simp (disch := omega) only [go_sem, Tryz.ntmps148, Tryz.results148]
  have x1 := @stepOp.eq_1
  have x2 := @putReg.eq_1
  have x3 := @regAt.eq_1
  have x4 : HT 15 (.fr [0, 1, 2, 3, 4, 5, 6, 7, 8] (.op [9] (.stop))) := ⟨⟩
  have x5 : HT 17 (.fr [0, 1, 2, 3, 4, 5, 6, 7, 8, 9, 10, 11] (.op [12] (.fr [13, 14, 15, 16, 17] (.stop)))) := ⟨⟩
  have x6 := copyCore_ok c hc
  have x7 := iCoreOk_ok c hc
  have x8 := iValOk_ok (mem.getD d.toNat 0)
  exact wki
theorem iStepCore_9 (c : Core) (text mem : List Int) (a b d : Int) (hc : mdCore c) (ht : text.length ≤ 1099511627776) (hm : mem.length ≤ 1099511627776) (hw : wordAt text c.pc = (⟨9, a, b, d⟩, true)) (h1 : coreOk c = true) (hd : d < mem.length) (hv : valOk (mem.getD d.toNat 0) = true) :
    CallOk Tryz.prog 148 [.agg (coreR c), .one (.ro 1 (intsD text)), .one (.ro 1 (intsD mem))] (.tup [.agg (coreT (stepOp c mem ⟨9, a, b, d⟩).1), .one (.own 1 (intsT (stepOp c mem ⟨9, a, b, d⟩).2.1)), .one (iV (stepOp c mem ⟨9, a, b, d⟩).2.2)]) [none, none, none] := by
  have hwo := wordAt_is ht hw
  have hus := usesMem_ok ⟨9, a, b, d⟩
  have hu : usesMem ⟨9, a, b, d⟩ = true := rfl
  obtain ⟨hi, p0, p1⟩ := wordAt_ins hw
  obtain ⟨-, ⟨a1, a2⟩, ⟨b1, b2⟩, c1, c2⟩ := insOk_bd hi
  obtain ⟨h8, -, -, -⟩ := coreOk_bd h1
  have h8a : 8 ≤ c.regs.length := by omega
  have h8b : c.regs.length ≤ 8 := by omega
  clear hi h8
  dsimp only at a1 a2 b1 b2 c1 c2
  have hsame := set_getD_self c.regs a.toNat (by omega)
  refine callOk_of_hcall 40 (hcall_of_body Tryz.func148 rfl (by kernel_rfl) ?_)
  simp (disch := omega) only [go_sem, Tryz.ntmps148, Tryz.results148]
  have x1 := @stepOp.eq_1
  have x2 := @putReg.eq_1
  have x3 := @regAt.eq_1
  have x4 : HT 15 (.fr [0, 1, 2, 3, 4, 5, 6, 7, 8] (.op [9] (.stop))) := ⟨⟩
  have x5 : HT 17 (.fr [0, 1, 2, 3, 4, 5, 6, 7, 8, 9, 10, 11] (.op [12] (.fr [13, 14, 15, 16, 17] (.stop)))) := ⟨⟩
  have x6 := copyCore_ok c hc
  have x7 := iCoreOk_ok c hc
  have x8 := iValOk_ok (mem.getD d.toNat 0)
  exact wki
theorem iStepCore_10 (c : Core) (text mem : List Int) (a b d : Int) (hc : mdCore c) (ht : text.length ≤ 1099511627776) (hm : mem.length ≤ 1099511627776) (hw : wordAt text c.pc = (⟨10, a, b, d⟩, true)) (h1 : coreOk c = true) :
    CallOk Tryz.prog 148 [.agg (coreR c), .one (.ro 1 (intsD text)), .one (.ro 1 (intsD mem))] (.tup [.agg (coreT (stepOp c mem ⟨10, a, b, d⟩).1), .one (.own 1 (intsT (stepOp c mem ⟨10, a, b, d⟩).2.1)), .one (iV (stepOp c mem ⟨10, a, b, d⟩).2.2)]) [none, none, none] := by
  have hwo := wordAt_is ht hw
  have hus := usesMem_ok ⟨10, a, b, d⟩
  have hu : usesMem ⟨10, a, b, d⟩ = false := rfl
  obtain ⟨hi, p0, p1⟩ := wordAt_ins hw
  obtain ⟨-, ⟨a1, a2⟩, ⟨b1, b2⟩, c1, c2⟩ := insOk_bd hi
  obtain ⟨h8, -, -, -⟩ := coreOk_bd h1
  have h8a : 8 ≤ c.regs.length := by omega
  have h8b : c.regs.length ≤ 8 := by omega
  clear hi h8
  dsimp only at a1 a2 b1 b2 c1 c2
  have hsame := set_getD_self c.regs a.toNat (by omega)
  refine callOk_of_hcall 40 (hcall_of_body Tryz.func148 rfl (by kernel_rfl) ?_)
  simp (disch := omega) only [go_sem, Tryz.ntmps148, Tryz.results148]
  have x1 := @stepOp.eq_1
  have x2 := @putReg.eq_1
  have x3 := @regAt.eq_1
  have x4 : HT 15 (.fr [0, 1, 2, 3, 4, 5, 6, 7, 8] (.op [9] (.stop))) := ⟨⟩
  have x5 : HT 17 (.fr [0, 1, 2, 3, 4, 5, 6, 7, 8, 9, 10, 11] (.op [12] (.fr [13, 14, 15, 16, 17] (.stop)))) := ⟨⟩
  have x6 := copyCore_ok c hc
  have x7 := iCoreOk_ok c hc
  have x8 := iValOk_ok (mem.getD d.toNat 0)
  exact wki
end Go.Proofs.YtejnpiielcbkkaaGreat.E
