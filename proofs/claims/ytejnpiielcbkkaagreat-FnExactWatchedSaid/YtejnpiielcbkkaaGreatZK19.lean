/- A part of what stands under the laws of this seat: an abstract evaluator that is proved sound, and contracts of functions by it. No condition beside those that stand in each statement. -/
import Derived.Test.YtejnpiielcbkkaaGreatZK18
import Derived.Test.YtejnpiielcbkkaaGreatZK13
import Derived.Test.YtejnpiielcbkkaaGreatZK15
import Derived.Test.YtejnpiielcbkkaaGreatZK7
set_option linter.unusedVariables false
set_option linter.unusedSimpArgs false
section
set_option maxRecDepth 100000
set_option maxHeartbeats 4000000
namespace Go.Proofs.YtejnpiielcbkkaaGreat.E
/-! ### Sizes of a machine, one bound on all of them -/
def bdG (b : Nat) (g : Gate) : Prop := g.waits.length ≤ b ∧ g.queues.length ≤ b
def bdC (b : Nat) (c : Core) : Prop := c.regs.length ≤ b
def bdK (b : Nat) (k : Kernel) : Prop := (k.gates.length ≤ 1048576 ∧ ∀ y ∈ k.gates, bdG b y) ∧ k.ready.length ≤ b ∧ (k.saved.length ≤ 1048576 ∧ ∀ y ∈ k.saved, bdC b y) ∧ k.over.length ≤ b
def bdM (b : Nat) (m : Machine) : Prop := (m.image.text.length ≤ b ∧ m.image.starts.length ≤ b) ∧ m.mem.length ≤ b ∧ (m.cores.length ≤ 1048576 ∧ ∀ y ∈ m.cores, bdC b y) ∧ bdK b m.kernel ∧ m.input.length ≤ b ∧ m.events.length ≤ b
theorem bdG_le {b b' : Nat} {g : Gate} (h : b ≤ b') (hg : bdG b g) : bdG b' g := ⟨Nat.le_trans hg.1 h, Nat.le_trans hg.2 h⟩
theorem bdC_le {b b' : Nat} {c : Core} (h : b ≤ b') (hc : bdC b c) : bdC b' c := Nat.le_trans hc h
theorem bdK_le {b b' : Nat} {k : Kernel} (h : b ≤ b') (hk : bdK b k) : bdK b' k :=
  ⟨⟨hk.1.1, fun y hy => bdG_le h (hk.1.2 y hy)⟩, Nat.le_trans hk.2.1 h, ⟨hk.2.2.1.1, fun y hy => bdC_le h (hk.2.2.1.2 y hy)⟩, Nat.le_trans hk.2.2.2 h⟩
theorem bdM_le {b b' : Nat} {m : Machine} (h : b ≤ b') (hm : bdM b m) : bdM b' m :=
  ⟨⟨Nat.le_trans hm.1.1 h, Nat.le_trans hm.1.2 h⟩, Nat.le_trans hm.2.1 h, ⟨hm.2.2.1.1, fun y hy => bdC_le h (hm.2.2.1.2 y hy)⟩, bdK_le h hm.2.2.2.1, Nat.le_trans hm.2.2.2.2.1 h, Nat.le_trans hm.2.2.2.2.2 h⟩
theorem bdK_md {b : Nat} {k : Kernel} (h : b ≤ 68719476736) (hk : bdK b k) : mdKernel k :=
  ⟨⟨Nat.le_trans hk.1.1 (by omega), fun y hy => ⟨Nat.le_trans (hk.1.2 y hy).1 (by omega), Nat.le_trans (hk.1.2 y hy).2 (by omega)⟩⟩, Nat.le_trans hk.2.1 (by omega), ⟨Nat.le_trans hk.2.2.1.1 (by omega), fun y hy => Nat.le_trans (hk.2.2.1.2 y hy) (by omega)⟩, Nat.le_trans hk.2.2.2 (by omega)⟩
theorem bdM_md {b : Nat} {m : Machine} (h : b ≤ 68719476736) (hm : bdM b m) : mdMachine m :=
  ⟨⟨Nat.le_trans hm.1.1 (by omega), Nat.le_trans hm.1.2 (by omega)⟩, Nat.le_trans hm.2.1 (by omega), ⟨Nat.le_trans hm.2.2.1.1 (by omega), fun y hy => Nat.le_trans (hm.2.2.1.2 y hy) (by omega)⟩, bdK_md h hm.2.2.2.1, Nat.le_trans hm.2.2.2.2.1 (by omega), ⟨Nat.le_trans hm.2.2.2.2.2 h, fun y hy => trivial⟩⟩
theorem sm_bdM {m : Machine} (h : smMachine m) : bdM 1048576 m :=
  ⟨⟨h.1.1, h.1.2⟩, h.2.1, ⟨h.2.2.1.1, fun y hy => h.2.2.1.2 y hy⟩, ⟨⟨h.2.2.2.1.1.1, fun y hy => ⟨(h.2.2.2.1.1.2 y hy).1, (h.2.2.2.1.1.2 y hy).2⟩⟩, h.2.2.2.1.2.1, ⟨h.2.2.2.1.2.2.1.1, fun y hy => h.2.2.2.1.2.2.1.2 y hy⟩, h.2.2.2.1.2.2.2⟩, h.2.2.2.2.1, h.2.2.2.2.2.1⟩
theorem bd_gate {b : Nat} {xs : List Gate} (h : ∀ y ∈ xs, bdG b y) (k : Nat) : bdG b (xs.getD k gateZ) := by
  by_cases hk : k < xs.length
  · have e : xs.getD k gateZ = xs[k] := by simp [hk]
    rw [e]; exact h _ (List.getElem_mem hk)
  · have e : xs.getD k gateZ = gateZ := by simp [List.getElem?_eq_none (Nat.le_of_not_lt hk)]
    rw [e]; exact ⟨Nat.zero_le _, Nat.zero_le _⟩
theorem bd_core {b : Nat} {xs : List Core} (h : ∀ y ∈ xs, bdC b y) (k : Nat) : bdC b (xs.getD k coreZ) := by
  by_cases hk : k < xs.length
  · have e : xs.getD k coreZ = xs[k] := by simp [hk]
    rw [e]; exact h _ (List.getElem_mem hk)
  · have e : xs.getD k coreZ = coreZ := by simp [List.getElem?_eq_none (Nat.le_of_not_lt hk)]
    rw [e]; exact Nat.zero_le _
theorem bd_setl {α : Type} {p : α → Prop} {xs : List α} {k : Nat} {x : α} (h : ∀ y ∈ xs, p y) (hx : p x) : ∀ y ∈ xs.set k x, p y := fun y hy => by
  rcases List.mem_or_eq_of_mem_set hy with h1 | rfl
  · exact h y h1
  · exact hx
theorem arrive_bd {b : Nat} {g : Gate} {p : Int} (h : bdG b g) : bdG (b + 1) (arrive g p).1 := by
  have h' := bdG_le (Nat.le_succ b) h
  unfold arrive
  split
  · exact h'
  · split
    · exact h'
    · refine ⟨?_, h'.2⟩
      simp only [List.length_append, List.length_cons, List.length_nil]
      have := h.1
      omega
theorem leave_bd {b : Nat} {g : Gate} (h : bdG b g) : bdG b (leave g).1 := by
  unfold leave
  split
  · exact h
  · split
    · refine ⟨?_, h.2⟩
      simp only [List.length_drop]
      have := h.1
      omega
    · exact h
theorem continueAt_bd {b : Nat} {g : Gate} {i : Int} (h : bdG b g) : bdG b (continueAt g i).1 := by
  unfold continueAt
  split
  · exact h
  · split
    · exact leave_bd h
    · refine ⟨h.1, ?_⟩
      simp only [List.length_set]
      exact h.2
theorem delayIn_bd {b : Nat} {g : Gate} {i : Int} (h : bdG b g) : bdG b (delayIn g i).1 := by
  unfold delayIn
  split
  · exact h
  · refine ⟨(leave_bd h).1, ?_⟩
    simp only [List.length_set]
    exact (leave_bd h).2
theorem delayIn_no {g : Gate} {i : Int} (h : (delayIn g i).2.2 = false) : (delayIn g i).1 = g := by
  unfold delayIn at h ⊢
  split
  · rfl
  · rename_i hh
    rw [if_neg hh] at h
    cases h
theorem setG_bd {b : Nat} {m : Machine} {n : Int} {g : Gate} (h : bdM b m) (hg : bdG b g) : bdM b (setG m n g) := by
  obtain ⟨h1, h2, h3, ⟨⟨k1, k2⟩, k3⟩, h5⟩ := h
  refine ⟨h1, h2, h3, ⟨⟨?_, bd_setl k2 hg⟩, k3⟩, h5⟩
  simpa [setG] using k1
theorem tellM_bd {b : Nat} {m : Machine} {p k n : Int} (h : bdM b m) : bdM (b + 1) (tellM m p k n) := by
  obtain ⟨h1, h2, h3, h4, h5, h6⟩ := bdM_le (Nat.le_succ b) h
  refine ⟨h1, h2, h3, h4, h5, ?_⟩
  have := h.2.2.2.2.2
  simp only [tellM, List.length_append, List.length_cons, List.length_nil]
  omega
theorem wake_bd {b : Nat} {k : Kernel} {p : Int} (h : bdK b k) : bdK (b + 1) (wake k p) := by
  obtain ⟨h1, h2, h3⟩ := bdK_le (Nat.le_succ b) h
  unfold wake
  split
  · refine ⟨h1, ?_, h3⟩
    have := h.2.1
    simp only [List.length_append, List.length_cons, List.length_nil]
    omega
  · exact ⟨h1, h2, h3⟩
theorem newCore_bd : bdC 8 newCore := Nat.le_refl _
theorem hold_bd {b : Nat} {k : Kernel} {c : Core} (h : bdK b k) (hc : bdC b c) : bdK b (hold k c) := by
  obtain ⟨h1, h2, ⟨h3, h4⟩, h5⟩ := h
  unfold hold
  split
  · exact ⟨h1, h2, ⟨by simpa using h3, bd_setl h4 hc⟩, h5⟩
  · exact ⟨h1, h2, ⟨h3, h4⟩, h5⟩
theorem holdM_bd {b : Nat} {m : Machine} {i : Int} (hb : 8 ≤ b) (h : bdM b m) : bdM b (holdM m i) := by
  obtain ⟨h1, h2, ⟨h3, h4⟩, h5, h6⟩ := h
  refine ⟨h1, h2, ⟨?_, bd_setl h4 (bdC_le hb newCore_bd)⟩, hold_bd h5 (bd_core h4 _), h6⟩
  simpa [holdM] using h3
theorem unlockM_bd {b : Nat} {m : Machine} {nx : Int} (h : bdM b m) : bdM (b + 1) (unlockM m nx) := by
  obtain ⟨h1, h2, h3, h4, h5⟩ := bdM_le (Nat.le_succ b) h
  refine ⟨h1, ?_, h3, wake_bd h.2.2.2.1, h5⟩
  simpa [unlockM] using h2
/-! ### A call of the kernel, plainly -/
def gateM (m : Machine) (i k n : Int) : Machine :=
  if k = 3 ∨ k = 4 then
    if (m.kernel.gates.length : Int) ≤ n.tdiv 2 then tellM m (procM m i) 8 4
    else if k = 3 then delayM m i n else contM m i n
  else if (m.kernel.gates.length : Int) ≤ n then tellM m (procM m i) 8 4
  else if k = 1 then enterM m i n else leaveM m i n
def callM (m : Machine) (i : Int) (x : Ins) : Machine :=
  if x.a = 5 then tellM m (procM m i) 5 ((m.cores.getD i.toNat coreZ).regs.getD 0 0)
  else if x.a = 6 then tellM (readM m i) (procM m i) 6 (m.input.getD 0 0)
  else if x.a = 0 ∨ x.a = 7 then doneM (tellM m (procM m i) 7 0) i
  else gateM m i x.a x.c
theorem enterM_bd {b : Nat} {m : Machine} {i n : Int} (hb : 8 ≤ b) (h : bdM b m) : bdM (b + 3) (enterM m i n) := by
  have h1 := tellM_bd (p := procM m i) (k := 1) (n := n) (setG_bd (n := n) (bdM_le (Nat.le_succ b) h) (arrive_bd (p := procM m i) (bd_gate h.2.2.2.1.1.2 n.toNat)))
  unfold enterM
  split
  · exact unlockM_bd h1
  · exact unlockM_bd (holdM_bd (by omega) h1)
theorem leaveM_bd {b : Nat} {m : Machine} {i n : Int} (h : bdM b m) : bdM (b + 2) (leaveM m i n) :=
  unlockM_bd (tellM_bd (setG_bd h (leave_bd (bd_gate h.2.2.2.1.1.2 n.toNat))))
theorem contM_bd {b : Nat} {m : Machine} {i n : Int} (h : bdM b m) : bdM (b + 2) (contM m i n) :=
  unlockM_bd (tellM_bd (setG_bd h (continueAt_bd (bd_gate h.2.2.2.1.1.2 (n.tdiv 2).toNat))))
theorem delayM_bd {b : Nat} {m : Machine} {i n : Int} (hb : 8 ≤ b) (h : bdM b m) : bdM (b + 2) (delayM m i n) := by
  have h1 := setG_bd (n := n.tdiv 2) h (delayIn_bd (i := n.tmod 2) (bd_gate h.2.2.2.1.1.2 (n.tdiv 2).toNat))
  unfold delayM
  split
  · exact unlockM_bd (holdM_bd (by omega) (tellM_bd h1))
  · exact bdM_le (by omega) (tellM_bd h1)
theorem gateM_bd {b : Nat} {m : Machine} {i k n : Int} (hb : 8 ≤ b) (h : bdM b m) : bdM (b + 3) (gateM m i k n) := by
  unfold gateM
  split
  · split
    · exact bdM_le (by omega) (tellM_bd h)
    · split
      · exact bdM_le (by omega) (delayM_bd hb h)
      · exact bdM_le (by omega) (contM_bd h)
  · split
    · exact bdM_le (by omega) (tellM_bd h)
    · split
      · exact enterM_bd hb h
      · exact bdM_le (by omega) (leaveM_bd h)
theorem readM_bd {b : Nat} {m : Machine} {i : Int} (h : bdM b m) : bdM b (readM m i) := by
  obtain ⟨h1, h2, ⟨h3, h4⟩, h5, h6, h7⟩ := h
  refine ⟨h1, h2, ⟨?_, bd_setl h4 ?_⟩, h5, ?_, h7⟩
  · simpa [readM] using h3
  · have := bd_core h4 i.toNat
    simpa [bdC] using this
  · simp only [readM, List.length_drop]; omega
theorem doneM_bd {b : Nat} {m : Machine} {i : Int} (hb : 8 ≤ b) (h : bdM b m) : bdM b (doneM m i) := by
  obtain ⟨h1, h2, ⟨h3, h4⟩, ⟨h5, h6, h7, h8⟩, h9⟩ := h
  refine ⟨h1, h2, ⟨?_, bd_setl h4 (bdC_le hb newCore_bd)⟩, ⟨h5, h6, h7, ?_⟩, h9⟩
  · simpa [doneM] using h3
  · simpa [doneM] using h8
theorem callM_bd {b : Nat} {m : Machine} {i : Int} {x : Ins} (hb : 8 ≤ b) (h : bdM b m) : bdM (b + 3) (callM m i x) := by
  unfold callM
  split
  · exact bdM_le (by omega) (tellM_bd h)
  · split
    · exact bdM_le (by omega) (tellM_bd (readM_bd h))
    · split
      · exact bdM_le (by omega) (doneM_bd (by omega) (tellM_bd h))
      · exact gateM_bd hb h
theorem iGate_ok (m : Machine) (i k n : Int) (b : Nat) (hb : 8 ≤ b) (hb2 : b ≤ 34359738368) (hm : bdM b m) (h0 : 0 ≤ i) (h1 : i < m.cores.length) (hk : k = 1 ∨ k = 2 ∨ k = 3 ∨ k = 4) (hn : 0 ≤ n) (hn2 : n ≤ 4194303) :
    CallOk Tryz.prog 211 [.one (.box (machineT m)), .one (iV i), .one (iV k), .one (iV n)] (.tup []) [some (.box (machineT (gateM m i k n))), none, none, none] := by
  have hmm : mdMachine m := bdM_md (by omega) hm
  have hgb := bd_gate hm.2.2.2.1.1.2
  rcases hk with rfl | rfl | rfl | rfl
  · by_cases hg : (m.kernel.gates.length : Int) ≤ n
    · rw [gateM, if_neg (by omega), if_pos hg]; exact iGate_out m i 1 n hmm h0 h1 (by omega) hn hn2 hg
    · rw [gateM, if_neg (by omega), if_neg hg, if_pos rfl]
      exact iGate_enter m i n hmm (bdM_md (b := b + 2) (by omega) (tellM_bd (setG_bd (bdM_le (Nat.le_succ b) hm) (arrive_bd (hgb _))))) h0 h1 hn hn2 (by omega)
  · by_cases hg : (m.kernel.gates.length : Int) ≤ n
    · rw [gateM, if_neg (by omega), if_pos hg]; exact iGate_out m i 2 n hmm h0 h1 (by omega) hn hn2 hg
    · rw [gateM, if_neg (by omega), if_neg hg, if_neg (by omega)]
      exact iGate_leave m i n hmm (bdM_md (b := b + 1) (by omega) (tellM_bd (setG_bd hm (leave_bd (hgb _))))) h0 h1 hn hn2 (by omega)
  · by_cases hg : (m.kernel.gates.length : Int) ≤ n.tdiv 2
    · rw [gateM, if_pos (by omega), if_pos hg]; exact iGate_out2 m i 3 n hmm h0 h1 (by omega) hn hn2 hg
    · rw [gateM, if_pos (by omega), if_neg hg, if_pos rfl]
      have h2 := tellM_bd (p := procM m i) (k := 3) (n := n.tdiv 2) (setG_bd (n := n.tdiv 2) hm (delayIn_bd (i := n.tmod 2) (hgb (n.tdiv 2).toNat)))
      exact iGate_delay m i n hmm (bdM_md (b := b + 1) (by omega) h2) (bdM_md (b := b + 1) (by omega) (holdM_bd (by omega) h2)).2.2.2.1 h0 h1 hn hn2 (by omega)
  · by_cases hg : (m.kernel.gates.length : Int) ≤ n.tdiv 2
    · rw [gateM, if_pos (by omega), if_pos hg]; exact iGate_out2 m i 4 n hmm h0 h1 (by omega) hn hn2 hg
    · rw [gateM, if_pos (by omega), if_neg hg, if_neg (by omega)]
      exact iGate_cont m i n hmm (bdM_md (b := b + 1) (by omega) (tellM_bd (setG_bd hm (continueAt_bd (hgb _))))) h0 h1 hn hn2 (by omega)
theorem iCall_ok (m : Machine) (i : Int) (x : Ins) (b : Nat) (hb : 8 ≤ b) (hb2 : b ≤ 34359738368) (hm : bdM b m) (h0 : 0 ≤ i) (h1 : i < m.cores.length) (hr : 1 ≤ (m.cores.getD i.toNat coreZ).regs.length) (hp : 0 ≤ (m.cores.getD i.toNat coreZ).process) (hx : insOk x = true) :
    CallOk Tryz.prog 149 [.one (.box (machineT m)), .one (iV i), .agg (insT x)] (.tup []) [some (.box (machineT (callM m i x))), none, none] := by
  have hmm : mdMachine m := bdM_md (by omega) hm
  obtain ⟨-, ⟨a0, a1⟩, -, c0, c1⟩ := insOk_bd hx
  obtain ⟨o, a, b', c⟩ := x
  dsimp only at a0 a1 c0 c1
  have ha : a = 5 ∨ a = 6 ∨ (a = 0 ∨ a = 7) ∨ (a = 1 ∨ a = 2 ∨ a = 3 ∨ a = 4) := by omega
  rcases ha with rfl | rfl | ha | ha
  · exact iCall_print m i o b' c hmm h0 h1 hr
  · exact iCall_read m i o b' c hmm h0 h1 hr
  · have e : callM m i ⟨o, a, b', c⟩ = doneM (tellM m (procM m i) 7 0) i := by
      rw [callM, if_neg (by show ¬ a = 5; omega), if_neg (by show ¬ a = 6; omega), if_pos (by show a = 0 ∨ a = 7; omega)]
    rw [e]
    exact iCall_done m i o a b' c hmm h0 h1 ha hp
  · have e : callM m i ⟨o, a, b', c⟩ = gateM m i a c := by
      rw [callM, if_neg (by show ¬ a = 5; omega), if_neg (by show ¬ a = 6; omega), if_neg (by show ¬ (a = 0 ∨ a = 7); omega)]
    rw [e]
    exact iCall_gate m _ i o a b' c hmm h0 h1 ha (iGate_ok m i a c b hb hb2 hm h0 h1 ha c0 c1)
end Go.Proofs.YtejnpiielcbkkaaGreat.E
end
section
set_option maxRecDepth 100000
set_option maxHeartbeats 4000000
namespace Go.Proofs.YtejnpiielcbkkaaGreat.E
/-! ### One step of a machine, plainly -/
abbrev coreAt (m : Machine) (i : Int) : Core := m.cores.getD i.toNat coreZ
abbrev stepC (m : Machine) (i : Int) : Core × List Int × Int := stepCore (coreAt m i) m.image.text m.mem
def pickedM (m : Machine) (i : Int) : Machine := ⟨m.image, m.mem, m.cores.set i.toNat (pickK m.kernel).2.1, (pickK m.kernel).1, m.input, m.events, m.stopped⟩
def steppedM (m : Machine) (i : Int) : Machine := ⟨m.image, (stepC m i).2.1, m.cores.set i.toNat (stepC m i).1, m.kernel, m.input, m.events, m.stopped⟩
def stepM (m : Machine) (i : Int) : Machine × Bool :=
  if m.stopped = true then (m, false)
  else if inB i 0 ((m.cores.length : Int) - 1) = false then (m, false)
  else if decide ((coreAt m i).process < 0) = true then (if (pickK m.kernel).2.2 = true then (pickedM m i, true) else (m, false))
  else if (stepC m i).2.2 = 0 then (steppedM m i, true)
  else if (stepC m i).2.2 = 10 then (callM (steppedM m i) i (wordAt m.image.text (coreAt m i).pc).1, true)
  else (tellM (steppedM m i) (coreAt m i).process 8 (stepC m i).2.2, true)
theorem pick_no {k : Kernel} (h : (pickK k).2.2 = false) : (pickK k).1 = k := by
  unfold pickK at h ⊢
  split
  · rfl
  · rename_i h1
    rw [if_neg h1] at h
    split
    · rfl
    · rename_i h2
      rw [if_neg h2] at h
      cases h
theorem calcV_code (op a b : Int) : (calcV op a b).2 ≤ 2 ∧ 0 ≤ (calcV op a b).2 := by
  unfold calcV
  repeat' split
  all_goals (refine ⟨?_, ?_⟩ <;> dsimp only <;> omega)
theorem negated_code (a : Int) : (negated a).2 ≤ 2 ∧ 0 ≤ (negated a).2 := by
  unfold negated
  repeat' split
  all_goals (refine ⟨?_, ?_⟩ <;> dsimp only <;> omega)
theorem stepOp_code {c : Core} {mem : List Int} {x : Ins} (h : (stepOp c mem x).2.2 = 10) : (stepOp c mem x).1 = ⟨c.regs, c.pc + 1, c.process⟩ ∧ (stepOp c mem x).2.1 = mem := by
  have h1 := calcV_code x.c (regAt c x.a) (regAt c x.b)
  have h2 := negated_code (regAt c x.a)
  unfold stepOp at h ⊢
  repeat' split
  all_goals first
    | exact ⟨rfl, rfl⟩
    | (exfalso; simp_all; done)
    | (exfalso; simp_all; omega)
theorem stepC_sys {c : Core} {text mem : List Int} (h : (stepCore c text mem).2.2 = 10) : coreOk c = true ∧ insOk (wordAt text c.pc).1 = true ∧ (stepCore c text mem).1 = ⟨c.regs, c.pc + 1, c.process⟩ ∧ (stepCore c text mem).2.1 = mem ∧ (wordAt text c.pc).2 = true := by
  unfold stepCore at h ⊢
  split
  · rename_i hb
    rw [if_pos hb] at h
    cases h
  · rename_i hb
    rw [if_neg hb] at h
    have hb' : stepBad c text mem = false := by simpa using hb
    rcases hw : wordAt text c.pc with ⟨x, ok⟩
    rw [hw] at h
    cases ok
    · exfalso
      unfold stepBad at hb'
      rw [hw, if_pos (.inr rfl)] at hb'
      cases hb'
    · obtain ⟨hco, -⟩ := stepGood hw hb'
      obtain ⟨e1, e2⟩ := stepOp_code h
      exact ⟨hco, (wordAt_ins hw).1, e1, e2, rfl⟩
theorem stepCore_bd {b : Nat} {c : Core} {text mem : List Int} (hc : bdC b c) (hm : mem.length ≤ b) : bdC b (stepCore c text mem).1 ∧ (stepCore c text mem).2.1.length ≤ b := by
  unfold bdC at hc ⊢
  unfold stepCore
  split
  · exact ⟨hc, hm⟩
  · unfold stepOp putReg
    repeat' split
    all_goals (refine ⟨?_, ?_⟩ <;> simp only [List.length_set] <;> assumption)
theorem steppedM_bd {b : Nat} {m : Machine} {i : Int} (h : bdM b m) : bdM b (steppedM m i) := by
  obtain ⟨h1, h2, ⟨h3, h4⟩, h5⟩ := h
  obtain ⟨e1, e2⟩ := stepCore_bd (text := m.image.text) (bd_core h4 i.toNat) h2
  exact ⟨h1, e2, ⟨by simpa [steppedM] using h3, bd_setl h4 e1⟩, h5⟩
theorem pickK_bd {b : Nat} {k : Kernel} (hb : 8 ≤ b) (h : bdK b k) : bdK b (pickK k).1 ∧ bdC b (pickK k).2.1 := by
  unfold pickK
  split
  · exact ⟨h, bdC_le hb newCore_bd⟩
  · split
    · exact ⟨h, bdC_le hb newCore_bd⟩
    · obtain ⟨h1, h2, ⟨h3, h4⟩, h5⟩ := h
      refine ⟨⟨h1, ?_, ⟨h3, h4⟩, h5⟩, bd_core h4 _⟩
      simp only [List.length_drop]; omega
theorem pickedM_bd {b : Nat} {m : Machine} {i : Int} (hb : 8 ≤ b) (h : bdM b m) : bdM b (pickedM m i) := by
  obtain ⟨h1, h2, ⟨h3, h4⟩, h5, h6⟩ := h
  obtain ⟨e1, e2⟩ := pickK_bd hb h5
  exact ⟨h1, h2, ⟨by simpa [pickedM] using h3, bd_setl h4 e2⟩, e1, h6⟩
theorem stepM_bd {b : Nat} {m : Machine} {i : Int} (hb : 8 ≤ b) (h : bdM b m) : bdM (b + 3) (stepM m i).1 := by
  have h' := bdM_le (Nat.le_add_right b 3) h
  unfold stepM
  split
  · exact h'
  · split
    · exact h'
    · split
      · split
        · exact bdM_le (by omega) (pickedM_bd hb h)
        · exact h'
      · split
        · exact bdM_le (by omega) (steppedM_bd h)
        · split
          · exact callM_bd hb (steppedM_bd h)
          · exact bdM_le (by omega) (tellM_bd (steppedM_bd h))
/-! Its cores are as_ many as_ before. -/
theorem callM_cores (m : Machine) (i : Int) (x : Ins) : (callM m i x).cores.length = m.cores.length := by
  unfold callM gateM delayM contM enterM leaveM doneM readM unlockM tellM setG holdM
  repeat' split
  all_goals simp only [List.length_set]
theorem stepM_cores (m : Machine) (i : Int) : (stepM m i).1.cores.length = m.cores.length := by
  unfold stepM
  split
  · rfl
  · split
    · rfl
    · split
      · split
        · simp only [pickedM, List.length_set]
        · rfl
      · split
        · simp only [steppedM, List.length_set]
        · split
          · simp only [callM_cores, steppedM, List.length_set]
          · simp only [tellM, steppedM, List.length_set]
end Go.Proofs.YtejnpiielcbkkaaGreat.E
end
