/- A part of what stands under the laws of this seat: an abstract evaluator that is proved sound, and contracts of functions by it. No condition beside those that stand in each statement. -/
import Derived.Test.YtejnpiielcbkkaaGreatZK8
import Derived.Test.YtejnpiielcbkkaaGreatZS2
import Derived.Test.YtejnpiielcbkkaaGreatZS3
import Derived.Test.YtejnpiielcbkkaaGreatZS4
import Derived.Test.YtejnpiielcbkkaaGreatZS5
import Derived.Test.YtejnpiielcbkkaaGreatZS6
import Derived.Test.YtejnpiielcbkkaaGreatZS7
import Derived.Test.YtejnpiielcbkkaaGreatZS8a
import Derived.Test.YtejnpiielcbkkaaGreatZS8b
import Derived.Test.YtejnpiielcbkkaaGreatZS8c
import Derived.Test.YtejnpiielcbkkaaGreatZS8d
import Derived.Test.YtejnpiielcbkkaaGreatZS8e
import Derived.Test.YtejnpiielcbkkaaGreatZS8f
import Derived.Test.YtejnpiielcbkkaaGreatZK22
set_option linter.unusedVariables false
set_option linter.unusedSimpArgs false
set_option maxRecDepth 100000
set_option maxHeartbeats 4000000
namespace Go.Proofs.YtejnpiielcbkkaaGreat.E
theorem setG_self {m : Machine} {n : Int} (h : n.toNat < m.kernel.gates.length) : setG m n (gateAt m n) = m := by
  have e : m.kernel.gates.set n.toNat (gateAt m n) = m.kernel.gates := gates_self h
  unfold setG
  rw [e]
theorem sGate12_ok (m : Machine) (i k n : Int) (b : Nat) (hb : 8 ≤ b) (hb2 : b ≤ 34359738368) (hm : bdM b m) (h0 : 0 ≤ i) (h1 : i < m.cores.length) (hk : k = 1 ∨ k = 2) (hn : 0 ≤ n) (hn2 : n ≤ 4194303) :
    CallOk Tryz.prog 193 [.one (.box (machineT m)), .one (iV i), .one (iV k), .one (iV n), .one (iV 0)] (.tup []) [some (.box (machineT (gateM m i k n))), none, none, none, none] := by
  have hmm : mdMachine m := bdM_md (by omega) hm
  have hgb := bd_gate hm.2.2.2.1.1.2
  rcases hk with rfl | rfl
  · by_cases hg : (m.kernel.gates.length : Int) ≤ n
    · rw [gateM, if_neg (by omega), if_pos hg]; exact sGate_out m i 1 n 0 hmm h0 h1 hn hn2 hg
    · rw [gateM, if_neg (by omega), if_neg hg, if_pos rfl]
      have h2 := tellM_bd (p := procM m i) (k := 1) (n := n) (setG_bd (n := n) (bdM_le (Nat.le_succ b) hm) (arrive_bd (p := procM m i) (hgb n.toNat)))
      exact sGate_enter m i n 0 hmm (bdM_md (b := b + 2) (by omega) h2) (bdM_md (b := b + 2) (by omega) (holdM_bd (by omega) h2)) h0 h1 hn hn2 (by omega)
  · by_cases hg : (m.kernel.gates.length : Int) ≤ n
    · rw [gateM, if_neg (by omega), if_pos hg]; exact sGate_out m i 2 n 0 hmm h0 h1 hn hn2 hg
    · rw [gateM, if_neg (by omega), if_neg hg, if_neg (by omega)]
      exact sGate_leave m i n 0 hmm (bdM_md (b := b + 1) (by omega) (tellM_bd (setG_bd hm (leave_bd (hgb _))))) h0 h1 hn hn2 (by omega)
theorem sGate34_ok (m : Machine) (i k n : Int) (b : Nat) (hb : 8 ≤ b) (hb2 : b ≤ 34359738368) (hm : bdM b m) (h0 : 0 ≤ i) (h1 : i < m.cores.length) (hk : k = 3 ∨ k = 4) (hn : 0 ≤ n) (hn2 : n ≤ 4194303) :
    CallOk Tryz.prog 193 [.one (.box (machineT m)), .one (iV i), .one (iV k), .one (iV (n.tdiv 2)), .one (iV (n.tmod 2))] (.tup []) [some (.box (machineT (gateM m i k n))), none, none, none, none] := by
  have hmm : mdMachine m := bdM_md (by omega) hm
  have hgb := bd_gate hm.2.2.2.1.1.2
  have ed := Int.tdiv_eq_ediv_of_nonneg (b := 2) hn
  have hd0 : 0 ≤ n.tdiv 2 := by omega
  have hd1 : n.tdiv 2 ≤ n := by omega
  rcases hk with rfl | rfl
  · by_cases hg : (m.kernel.gates.length : Int) ≤ n.tdiv 2
    · rw [gateM, if_pos (by omega), if_pos hg]; exact sGate_out m i 3 (n.tdiv 2) (n.tmod 2) hmm h0 h1 hd0 (by omega) hg
    · rw [gateM, if_pos (by omega), if_neg hg, if_pos rfl]
      have h2 := tellM_bd (p := procM m i) (k := 3) (n := n.tdiv 2) (setG_bd (n := n.tdiv 2) hm (delayIn_bd (i := n.tmod 2) (hgb (n.tdiv 2).toNat)))
      have h3 := sGate_delay m i (n.tdiv 2) (n.tmod 2) hmm (bdM_md (b := b + 1) (by omega) (holdM_bd (by omega) h2)) h0 h1 hd0 (by omega) (by omega)
      have e : (if (delayIn (m.kernel.gates.getD (n.tdiv 2).toNat gateZ) (n.tmod 2)).2.2 = true then unlockM (holdM (tellM (setG m (n.tdiv 2) (delayIn (m.kernel.gates.getD (n.tdiv 2).toNat gateZ) (n.tmod 2)).1) (m.cores.getD i.toNat coreZ).process 3 (n.tdiv 2)) i) (delayIn (m.kernel.gates.getD (n.tdiv 2).toNat gateZ) (n.tmod 2)).2.1 else tellM m (m.cores.getD i.toNat coreZ).process 8 3) = delayM m i n := by
        unfold delayM
        cases hd : (delayIn (gateAt m (n.tdiv 2)) (n.tmod 2)).2.2
        · rw [if_neg (by simp), if_neg (by simp), delayIn_no hd, setG_self (by omega)]
        · rw [if_pos rfl, if_pos rfl]
      rw [e] at h3
      exact h3
  · by_cases hg : (m.kernel.gates.length : Int) ≤ n.tdiv 2
    · rw [gateM, if_pos (by omega), if_pos hg]; exact sGate_out m i 4 (n.tdiv 2) (n.tmod 2) hmm h0 h1 hd0 (by omega) hg
    · rw [gateM, if_pos (by omega), if_neg hg, if_neg (by omega)]
      exact sGate_cont m i (n.tdiv 2) (n.tmod 2) hmm (bdM_md (b := b + 1) (by omega) (tellM_bd (setG_bd hm (continueAt_bd (hgb _))))) h0 h1 hd0 (by omega) (by omega)
theorem sSys_ok (m : Machine) (i : Int) (x : Ins) (b : Nat) (hb : 8 ≤ b) (hb2 : b ≤ 34359738368) (hm : bdM b m) (h0 : 0 ≤ i) (h1 : i < m.cores.length) (hr : 1 ≤ (m.cores.getD i.toNat coreZ).regs.length) (hp : 0 ≤ (m.cores.getD i.toNat coreZ).process) (hx : insOk x = true) :
    CallOk Tryz.prog 131 [.one (.box (machineT m)), .one (iV i), .agg (insT x)] (.tup []) [some (.box (machineT (callM m i x))), none, none] := by
  have hmm : mdMachine m := bdM_md (by omega) hm
  obtain ⟨-, ⟨a0, a1⟩, -, c0, c1⟩ := insOk_bd hx
  obtain ⟨o, a, b', c⟩ := x
  dsimp only at a0 a1 c0 c1
  have ha : a = 5 ∨ a = 6 ∨ (a = 0 ∨ a = 7) ∨ (a = 1 ∨ a = 2) ∨ (a = 3 ∨ a = 4) := by omega
  rcases ha with rfl | rfl | ha | ha | ha
  · exact sSys_print m i o b' c hmm h0 h1 hr
  · exact sSys_read m i o b' c hmm h0 h1 hr
  · have e : callM m i ⟨o, a, b', c⟩ = doneM (tellM m (procM m i) 7 0) i := by
      rw [callM, if_neg (by show ¬ a = 5; omega), if_neg (by show ¬ a = 6; omega), if_pos (by show a = 0 ∨ a = 7; omega)]
    rw [e]
    exact sSys_done m i o a b' c hmm h0 h1 ha hp
  · have e : callM m i ⟨o, a, b', c⟩ = gateM m i a c := by
      rw [callM, if_neg (by show ¬ a = 5; omega), if_neg (by show ¬ a = 6; omega), if_neg (by show ¬ (a = 0 ∨ a = 7); omega)]
    rw [e]
    exact sSys_gate12 m _ i o a b' c hmm h0 h1 ha (sGate12_ok m i a c b hb hb2 hm h0 h1 ha c0 c1)
  · have e : callM m i ⟨o, a, b', c⟩ = gateM m i a c := by
      rw [callM, if_neg (by show ¬ a = 5; omega), if_neg (by show ¬ a = 6; omega), if_neg (by show ¬ (a = 0 ∨ a = 7); omega)]
    rw [e]
    exact sSys_gate34 m _ i o a b' c hmm h0 h1 c0 c1 ha (sGate34_ok m i a c b hb hb2 hm h0 h1 ha c0 c1)
/-! One step. -/
theorem bad_uses {c : Core} {text mem : List Int} {x : Ins} (hco : coreOk c = true) (hw : wordAt text c.pc = (x, true)) (hb : stepBad c text mem = true) : usesMem x = true := by
  cases hu : usesMem x
  · unfold stepBad at hb; simp [hco, hw, hu] at hb
  · rfl
theorem bad_val {c : Core} {text mem : List Int} {x : Ins} (h1 : coreOk c = true) (hw : wordAt text c.pc = (x, true)) (hb : stepBad c text mem = true) (hu : usesMem x = true) (h2 : decide ((mem.length : Int) ≤ x.c) = false) : (x.op == 3) = false ∧ valOk (mem.getD x.c.toNat 0) = false := by
  unfold stepBad at hb
  simp only [h1, hw, hu, h2, reduceCtorEq, or_self, if_false, Bool.false_eq_true] at hb
  cases h3 : (x.op == 3)
  · rw [h3] at hb
    simp only [Bool.false_eq_true, if_false, Bool.not_eq_true'] at hb
    exact ⟨rfl, hb⟩
  · rw [h3] at hb
    simp only [if_true, Bool.false_eq_true] at hb
theorem opM_stepped {m : Machine} {i : Int} {x : Ins} (h : stepC m i = stepOp (coreAt m i) m.mem x) : steppedM m i = opM m i x := by
  unfold steppedM
  rw [h]
theorem sStep_ok (m : Machine) (i : Int) (b : Nat) (hb : 8 ≤ b) (hb2 : b ≤ 34359738368) (hm : bdM b m) :
    CallOk Tryz.prog 55 [.one (.box (machineT m)), .one (iV i)] (.s (.one (bV (stepM m i).2))) [some (.box (machineT (stepM m i).1)), none] := by
  have hmm : mdMachine m := bdM_md (by omega) hm
  cases h1 : m.stopped
  · cases h2 : inB i 0 ((m.cores.length : Int) - 1)
    · have e : stepM m i = (m, false) := by unfold stepM; simp [h1, h2]
      rw [e]; exact sStep_no m i hmm (.inr h2)
    · obtain ⟨hi0, hi1⟩ := inB_of3 h2
      have hil : i.toNat < m.cores.length := by omega
      cases h3 : decide ((coreAt m i).process < 0)
      · have ego : (stepC m i).2.2 = 0 → stepM m i = (steppedM m i, true) := fun h4 => by unfold stepM; rw [h1, h2, h3, if_neg (by simp), if_neg (by simp), if_neg (by simp), if_pos h4]
        have eft : (stepC m i).2.2 ≠ 0 → (stepC m i).2.2 ≠ 10 → stepM m i = (tellM (steppedM m i) (coreAt m i).process 8 (stepC m i).2.2, true) := fun h4 h5 => by unfold stepM; rw [h1, h2, h3, if_neg (by simp), if_neg (by simp), if_neg (by simp), if_neg h4, if_neg h5]
        have esy : (stepC m i).2.2 = 10 → stepM m i = (callM (steppedM m i) i (wordAt m.image.text (coreAt m i).pc).1, true) := fun h5 => by unfold stepM; rw [h1, h2, h3, if_neg (by simp), if_neg (by simp), if_neg (by simp), if_neg (by omega), if_pos h5]
        cases hbd : stepBad (coreAt m i) m.image.text m.mem
        · rcases hw : wordAt m.image.text (coreAt m i).pc with ⟨x, ok⟩
          cases ok
          · exfalso
            unfold stepBad at hbd
            rw [hw, if_pos (.inr rfl)] at hbd
            cases hbd
          obtain ⟨hco, hg⟩ := stepGood hw hbd
          obtain ⟨hxi, p0, p1⟩ := wordAt_ins hw
          have hpc : inB (coreAt m i).pc 0 ((m.image.text.length : Int) - 1) = true := inB_of p0 (by omega)
          have hd : decode (m.image.text.getD (coreAt m i).pc.toNat 0) = (x, true) := by rw [wordAt, if_pos hpc] at hw; exact hw
          have hsc : stepC m i = stepOp (coreAt m i) m.mem x := by show stepCore _ _ _ = _; rw [stepCore, hbd, if_neg (by simp), hw]
          have hst := opM_stepped hsc
          have hop := (insOk_bd hxi).1
          have hxc := (insOk_bd hxi).2.2.2
          obtain ⟨op, a, b', d⟩ := x
          have ho : op = 1 ∨ op = 2 ∨ op = 3 ∨ op = 4 ∨ op = 5 ∨ op = 6 ∨ op = 7 ∨ op = 8 ∨ op = 9 ∨ op = 10 := by dsimp only at hop; omega
          dsimp only at hxc
          rcases ho with rfl | rfl | rfl | rfl | rfl | rfl | rfl | rfl | rfl | rfl
          · rw [ego (by rw [hsc]; rfl), hst]; exact sStep_op1 m i a b' d hmm h1 h2 h3 hco hpc hd
          · rw [ego (by rw [hsc]; rfl), hst]; exact sStep_op2 m i a b' d hmm h1 h2 h3 hco hpc hd (inB_of hxc.1 (by have := (hg rfl).1; dsimp only at this; omega)) ((hg rfl).2 rfl)
          · rw [ego (by rw [hsc]; rfl), hst]; exact sStep_op3 m i a b' d hmm h1 h2 h3 hco hpc hd (inB_of hxc.1 (by have := (hg rfl).1; dsimp only at this; omega))
          · have h4 := sStep_op4 m i a b' d hmm h1 h2 h3 hco hpc hd
            have e0 : stepC m i = if (calcV d ((m.cores.getD i.toNat coreZ).regs.getD a.toNat 0) ((m.cores.getD i.toNat coreZ).regs.getD b'.toNat 0)).2 = 0 then (putReg (coreAt m i) a (calcV d ((m.cores.getD i.toNat coreZ).regs.getD a.toNat 0) ((m.cores.getD i.toNat coreZ).regs.getD b'.toNat 0)).1, m.mem, 0) else (coreAt m i, m.mem, (calcV d ((m.cores.getD i.toNat coreZ).regs.getD a.toNat 0) ((m.cores.getD i.toNat coreZ).regs.getD b'.toNat 0)).2) := by rw [hsc]; rfl
            by_cases hf : (calcV d ((m.cores.getD i.toNat coreZ).regs.getD a.toNat 0) ((m.cores.getD i.toNat coreZ).regs.getD b'.toNat 0)).2 = 0
            · have e1 : (stepC m i).2.2 = 0 := by rw [e0, if_pos hf]
              rw [ego e1, hst]; rw [if_pos hf] at h4; exact h4
            · have e1 : stepC m i = (coreAt m i, m.mem, (calcV d ((m.cores.getD i.toNat coreZ).regs.getD a.toNat 0) ((m.cores.getD i.toNat coreZ).regs.getD b'.toNat 0)).2) := by rw [e0, if_neg hf]
              have hcd : (calcV d ((m.cores.getD i.toNat coreZ).regs.getD a.toNat 0) ((m.cores.getD i.toNat coreZ).regs.getD b'.toNat 0)).2 ≤ 2 ∧ 0 ≤ (calcV d ((m.cores.getD i.toNat coreZ).regs.getD a.toNat 0) ((m.cores.getD i.toNat coreZ).regs.getD b'.toNat 0)).2 := calcV_code _ _ _
              have e2 : steppedM m i = m := by
                have e3 : m.cores.set i.toNat (coreAt m i) = m.cores := cores_self hil
                unfold steppedM; rw [e1, e3]
              rw [eft (by rw [e1]; exact hf) (by rw [e1]; dsimp only; omega), e2, e1]; rw [if_neg hf] at h4; exact h4
          · rw [ego (by rw [hsc]; rfl), hst]; exact sStep_op5 m i a b' d hmm h1 h2 h3 hco hpc hd
          · have h4 := sStep_op6 m i a b' d hmm h1 h2 h3 hco hpc hd
            have e0 : stepC m i = if (negated ((m.cores.getD i.toNat coreZ).regs.getD a.toNat 0)).2 = 0 then (putReg (coreAt m i) a (negated ((m.cores.getD i.toNat coreZ).regs.getD a.toNat 0)).1, m.mem, 0) else (coreAt m i, m.mem, (negated ((m.cores.getD i.toNat coreZ).regs.getD a.toNat 0)).2) := by rw [hsc]; rfl
            by_cases hf : (negated ((m.cores.getD i.toNat coreZ).regs.getD a.toNat 0)).2 = 0
            · have e1 : (stepC m i).2.2 = 0 := by rw [e0, if_pos hf]
              rw [ego e1, hst]; rw [if_pos hf] at h4; exact h4
            · have e1 : stepC m i = (coreAt m i, m.mem, (negated ((m.cores.getD i.toNat coreZ).regs.getD a.toNat 0)).2) := by rw [e0, if_neg hf]
              have hcd : (negated ((m.cores.getD i.toNat coreZ).regs.getD a.toNat 0)).2 ≤ 2 ∧ 0 ≤ (negated ((m.cores.getD i.toNat coreZ).regs.getD a.toNat 0)).2 := negated_code _
              have e2 : steppedM m i = m := by
                have e3 : m.cores.set i.toNat (coreAt m i) = m.cores := cores_self hil
                unfold steppedM; rw [e1, e3]
              rw [eft (by rw [e1]; exact hf) (by rw [e1]; dsimp only; omega), e2, e1]; rw [if_neg hf] at h4; exact h4
          · rw [ego (by rw [hsc]; rfl), hst]; exact sStep_op7 m i a b' d hmm h1 h2 h3 hco hpc hd
          · rw [ego (by rw [hsc]; rfl), hst]; exact sStep_op8 m i a b' d hmm h1 h2 h3 hco hpc hd
          · rw [ego (by rw [hsc]; rfl), hst]; exact sStep_op9 m i a b' d hmm h1 h2 h3 hco hpc hd (inB_of hxc.1 (by have := (hg rfl).1; dsimp only at this; omega)) ((hg rfl).2 rfl)
          · have h5 : (stepC m i).2.2 = 10 := by rw [hsc]; rfl
            rw [esy h5, hw]
            have hp := of_decide_eq_false h3
            have hr := (coreOk_bd hco).1
            have hc := stepped_core hil
            have q3 : (stepC m i).1 = ⟨(coreAt m i).regs, (coreAt m i).pc + 1, (coreAt m i).process⟩ := by rw [hsc]; rfl
            refine sStep_op10 m _ i a b' d hmm h1 h2 h3 hco hpc hd ?_
            rw [← hst]
            refine sSys_ok (steppedM m i) i _ b hb hb2 (steppedM_bd hm) hi0 (by simpa [steppedM] using hi1) ?_ ?_ hxi
            · rw [hc, q3]; show 1 ≤ (coreAt m i).regs.length; omega
            · rw [hc, q3]; show 0 ≤ (coreAt m i).process; omega
        · have e1 : stepC m i = (coreAt m i, m.mem, 4) := by show stepCore _ _ _ = _; rw [stepCore, hbd, if_pos rfl]
          have e2 : steppedM m i = m := by
            have e3 : m.cores.set i.toNat (coreAt m i) = m.cores := cores_self hil
            unfold steppedM; rw [e1, e3]
          rw [eft (by rw [e1]; show (4 : Int) ≠ 0; decide) (by rw [e1]; show (4 : Int) ≠ 10; decide), e2, e1]
          cases hco : coreOk (coreAt m i)
          · exact sStep_bad1 m i hmm h1 h2 h3 hco
          cases hpc : inB (coreAt m i).pc 0 ((m.image.text.length : Int) - 1)
          · exact sStep_bad2 m i hmm h1 h2 h3 hco hpc
          rcases hd : decode (m.image.text.getD (coreAt m i).pc.toNat 0) with ⟨x, ok⟩
          have hw : wordAt m.image.text (coreAt m i).pc = (x, ok) := by rw [wordAt, if_pos hpc, hd]
          cases ok
          · exact sStep_bad3 m i x hmm h1 h2 h3 hco hpc hd
          have hxc := (insOk_bd (decode_ok hd)).2.2.2
          have hu : usesMem x = true := bad_uses hco hw hbd
          have ho : x.op = 2 ∨ x.op = 3 ∨ x.op = 9 := by
            unfold usesMem at hu
            simpa only [Bool.or_eq_true, beq_iff_eq] using hu
          obtain ⟨o, a, b', d⟩ := x
          dsimp only at ho hxc
          cases hdm : inB d 0 ((m.mem.length : Int) - 1)
          · exact sStep_bad4 m i o a b' d hmm h1 h2 h3 hco hpc hd ho hdm
          have hdm2 : decide ((m.mem.length : Int) ≤ d) = false := by
            have := inB_t hdm
            exact decide_eq_false (by omega)
          have h34 : (o == 3) = false ∧ valOk (m.mem.getD d.toNat 0) = false := bad_val hco hw hbd hu hdm2
          have ho2 : o = 2 ∨ o = 9 := by
            have := h34.1
            simp only [beq_eq_false_iff_ne, ne_eq] at this
            omega
          exact sStep_bad5 m i o a b' d hmm h1 h2 h3 hco hpc hd ho2 hdm h34.2
      · have e : stepM m i = ((if (pickK m.kernel).2.2 = true then pickedM m i else m), (pickK m.kernel).2.2) := by
          unfold stepM
          rw [h1, h2, h3, if_neg (by simp), if_neg (by simp), if_pos rfl]
          cases (pickK m.kernel).2.2 <;> rfl
        rw [e]
        exact sStep_pick m i hmm h1 h2 h3
  · have e : stepM m i = (m, false) := by unfold stepM; simp [h1]
    rw [e]; exact sStep_no m i hmm (.inl h1)
end Go.Proofs.YtejnpiielcbkkaaGreat.E
