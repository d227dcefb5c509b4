/- Walks of MayTouch, of the reference and of the program, and what they come to. Condition: what they are given is read from memory, and no list in the program is longer than the statement's bound. -/
import Derived.Test.YtgeoipplkjgnfaaArgAt
import Derived.Test.YtgeoipplkjgnfaaFamM
set_option linter.unusedSimpArgs false
set_option linter.unusedVariables false
namespace Go.Proofs.Ytgeoipplkjgnfaa
open Go.RowKit Go.Proofs.YtgeoipplkjgnfaaW.PrintWords Go.Proofs.Ytgeoipplkjgnfaa.Lib

def touchIn (p : TProgram) (x : TMachine) (pid a : Int) (i : Nat) : Bool :=
  decide (i < x.Kernel.Gates.length) && ((x.Kernel.Gates.getD i default).Owner == pid) && (List.range (p.Monitors.getD i default).Vars.length).any fun k => sharedAt p i k == a
def touchMon (p : TProgram) (x : TMachine) (pid a : Int) : Bool := (List.range p.Monitors.length).any (touchIn p x pid a)
def mayTouch (p : TProgram) (x : TMachine) (pid a : Int) : Bool :=
  if a = 0 then true
  else if inB pid 0 ((p.Processes.length : Int) - 1) = false then false
  else if inB a (varAt p pid 0) (varAt p pid 0 + ((procAt p pid).Vars.length : Int) + 1) = true then true
  else touchMon p x pid a
theorem sharedPos (p : TProgram) (i k : Nat) (hi : i < p.Monitors.length) (hk : k < p.Monitors[i].Vars.length) : sharedAt p i k = 1 + sumVars (p.Monitors.take i) + k := by
  unfold sharedAt
  have hmon : monAt p (i : Int) = p.Monitors[i] := by simp [monAt, List.getD, hi]
  rw [hmon, if_pos ⟨inB_iff.2 ⟨by omega, by omega⟩, inB_iff.2 ⟨by omega, by omega⟩⟩]
  simp
theorem sumVars_step (ms : List TMonitor) (i : Nat) (hi : i < ms.length) : sumVars (ms.take (i + 1)) = sumVars (ms.take i) + ms[i].Vars.length := by
  rw [List.take_succ_eq_append_getElem hi, sumVars_snoc]
theorem sumVars_mono (ms : List TMonitor) (i d : Nat) : sumVars (ms.take i) ≤ sumVars (ms.take (i + d)) := by
  induction d with
  | zero => exact Nat.le_refl _
  | succ d ih =>
    by_cases h : i + d < ms.length
    · have := sumVars_step ms (i + d) h
      rw [← Nat.add_assoc, this]
      omega
    · rw [List.take_of_length_le (by omega : ms.length ≤ i + d)] at ih
      rw [List.take_of_length_le (by omega : ms.length ≤ i + (d + 1))]
      exact ih
theorem shared_lt (p : TProgram) {i k i' : Nat} (hi : i < p.Monitors.length) (hk : k < p.Monitors[i].Vars.length) (h : i < i') : sumVars (p.Monitors.take i) + k < sumVars (p.Monitors.take i') := by
  have h1 := sumVars_step p.Monitors i hi
  have h2 := sumVars_mono p.Monitors (i + 1) (i' - (i + 1))
  rw [show i + 1 + (i' - (i + 1)) = i' by omega] at h2
  omega
theorem shared_inj (p : TProgram) {i k i' k' : Nat} (hi : i < p.Monitors.length) (hk : k < p.Monitors[i].Vars.length) (hi' : i' < p.Monitors.length) (hk' : k' < p.Monitors[i'].Vars.length) (h : sharedAt p i k = sharedAt p i' k') : i = i' := by
  rw [sharedPos p i k hi hk, sharedPos p i' k' hi' hk'] at h
  rcases Nat.lt_trichotomy i i' with h1 | h1 | h1
  · have := shared_lt p hi hk h1
    omega
  · exact h1
  · have := shared_lt p hi' hk' h1
    omega
theorem touchIn_true {p : TProgram} {x : TMachine} {pid a : Int} {i k : Nat} (h1 : i < x.Kernel.Gates.length) (h3 : i < p.Monitors.length) (ho : x.Kernel.Gates[i].Owner = pid) (hk : k < p.Monitors[i].Vars.length) (h : sharedAt p i k = a) : touchIn p x pid a i = true := by
  unfold touchIn
  have hm : p.Monitors.getD i default = p.Monitors[i] := by simp [List.getD, h3]
  have hg : x.Kernel.Gates.getD i default = x.Kernel.Gates[i] := by simp [List.getD, h1]
  have ha : ((List.range p.Monitors[i].Vars.length).any fun k => sharedAt p i k == a) = true := by
    rw [List.any_eq_true]
    exact ⟨k, by simpa using hk, by simp [h]⟩
  rw [hm, hg, ha]
  simp [h1, ho]
theorem touchIn_none {p : TProgram} {x : TMachine} {pid a : Int} {i : Nat} (h3 : i < p.Monitors.length) (h : ∀ k, k < p.Monitors[i].Vars.length → sharedAt p i k ≠ a) : touchIn p x pid a i = false := by
  unfold touchIn
  have hm : p.Monitors.getD i default = p.Monitors[i] := by simp [List.getD, h3]
  have ha : ((List.range p.Monitors[i].Vars.length).any fun k => sharedAt p i k == a) = false := by
    rw [List.any_eq_false]
    exact fun k hk => by simpa using h k (by simpa using hk)
  rw [hm, ha]
  simp
theorem touchIn_far {p : TProgram} {x : TMachine} {pid a : Int} {i : Nat} (h : ¬ i < x.Kernel.Gates.length) : touchIn p x pid a i = false := by
  unfold touchIn
  simp [h]
theorem touchIn_other {p : TProgram} {x : TMachine} {pid a : Int} {i : Nat} (h1 : i < x.Kernel.Gates.length) (h : ¬ x.Kernel.Gates[i].Owner = pid) : touchIn p x pid a i = false := by
  unfold touchIn
  have hg : x.Kernel.Gates.getD i default = x.Kernel.Gates[i] := by simp [List.getD, h1]
  rw [hg]
  simp [h]
theorem touchMon_yes {p : TProgram} {x : TMachine} {pid a : Int} {i : Nat} (h3 : i < p.Monitors.length) (h : touchIn p x pid a i = true) : touchMon p x pid a = true := by
  unfold touchMon
  rw [List.any_eq_true]
  exact ⟨i, by simpa using h3, h⟩
theorem touchMon_no {p : TProgram} {x : TMachine} {pid a : Int} (h : ∀ i, i < p.Monitors.length → touchIn p x pid a i = false) : touchMon p x pid a = false := by
  unfold touchMon
  rw [List.any_eq_false]
  exact fun i hi => by simp [h i (by simpa using hi)]
theorem touchMon_none {p : TProgram} {x : TMachine} {pid a : Int} {n : Nat} (hn : n = p.Monitors.length ∨ ¬ n < x.Kernel.Gates.length) (h : ∀ i, i < n → touchIn p x pid a i = false) : touchMon p x pid a = false := by
  refine touchMon_no fun i hi => ?_
  by_cases hin : i < n
  · exact h i hin
  · rcases hn with hn | hn
    · omega
    · exact touchIn_far (by omega)
theorem touchMon_hit {p : TProgram} {x : TMachine} {pid a : Int} {i k : Nat} (h1 : i < x.Kernel.Gates.length) (h3 : i < p.Monitors.length) (hk : k < p.Monitors[i].Vars.length) (h : sharedAt p i k = a) : touchMon p x pid a = (x.Kernel.Gates[i].Owner == pid) := by
  by_cases ho : x.Kernel.Gates[i].Owner = pid
  · rw [touchMon_yes h3 (touchIn_true h1 h3 ho hk h)]
    simp [ho]
  · rw [touchMon_no fun i' hi' => ?_]
    · simp [ho]
    · by_cases e : i' = i
      · subst e
        exact touchIn_other h1 ho
      · exact touchIn_none hi' fun k' hk' h' => e (shared_inj p hi' hk' h3 hk (h'.trans h.symm))
theorem mayTouch_zero {p : TProgram} {x : TMachine} {pid : Int} : mayTouch p x pid 0 = true := by simp [mayTouch]
theorem mayTouch_out {p : TProgram} {x : TMachine} {pid a : Int} (h0 : ¬ a = 0) (h1 : inB pid 0 ((p.Processes.length : Int) - 1) = false) : mayTouch p x pid a = false := by simp [mayTouch, h0, h1]
theorem mayTouch_in {p : TProgram} {x : TMachine} {k0 : Nat} {v a : Int} (h0 : ¬ a = 0) (hk : k0 < p.Processes.length) (hv : varAt p (k0 : Int) 0 = v) (h : inB a v (v + (p.Processes[k0].Vars.length : Int) + 1) = true) : mayTouch p x (k0 : Int) a = true := by
  unfold mayTouch
  have hmon : procAt p (k0 : Int) = p.Processes[k0] := by simp [procAt, List.getD, hk]
  rw [if_neg h0, hmon, hv, if_neg (by rw [inB_yes (by omega) (by omega)]; simp), if_pos h]
theorem mayTouch_mon {p : TProgram} {x : TMachine} {k0 : Nat} {v a : Int} (h0 : ¬ a = 0) (hk : k0 < p.Processes.length) (hv : varAt p (k0 : Int) 0 = v) (h : inB a v (v + (p.Processes[k0].Vars.length : Int) + 1) = false) : mayTouch p x (k0 : Int) a = touchMon p x (k0 : Int) a := by
  unfold mayTouch
  have hmon : procAt p (k0 : Int) = p.Processes[k0] := by simp [procAt, List.getD, hk]
  rw [if_neg h0, hmon, hv, if_neg (by rw [inB_yes (by omega) (by omega)]; simp), if_neg (by rw [h]; simp)]
theorem varAt_pos {p : TProgram} {k0 : Nat} (hk : k0 < p.Processes.length) (j : Nat) (hj : j ≤ p.Processes[k0].Vars.length) : varAt p (k0 : Int) j = 1 + sumVars p.Monitors + sumProc (p.Processes.take k0) + j := by
  unfold varAt
  have hmon : procAt p (k0 : Int) = p.Processes[k0] := by simp [procAt, List.getD, hk]
  rw [hmon, if_pos ⟨inB_yes (by omega) (by omega), inB_yes (by omega) (by omega)⟩]
  simp
theorem resAt_pos {p : TProgram} {k0 : Nat} (hk : k0 < p.Processes.length) : resAt p (k0 : Int) = varAt p (k0 : Int) 0 + (p.Processes[k0].Vars.length : Int) + 1 := by
  have hmon : procAt p (k0 : Int) = p.Processes[k0] := by simp [procAt, List.getD, hk]
  have h1 : argAt p (k0 : Int) = varAt p (k0 : Int) p.Processes[k0].Vars.length := by
    unfold argAt
    rw [if_pos (inB_yes (by omega) (by omega)), hmon]
  have h2 := varAt_pos hk p.Processes[k0].Vars.length (Nat.le_refl _)
  have h3 := varAt_pos hk 0 (by omega)
  have h4 : varAt p (k0 : Int) 0 = varAt p (k0 : Int) ((0 : Nat) : Int) := rfl
  unfold resAt
  rw [h1, if_neg (by omega), h2, h4, h3]
  omega
end Go.Proofs.Ytgeoipplkjgnfaa
