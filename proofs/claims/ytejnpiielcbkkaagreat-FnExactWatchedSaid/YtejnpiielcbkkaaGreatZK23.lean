/- A part of what stands under the laws of this seat: an abstract evaluator that is proved sound, and contracts of functions by it. No condition beside those that stand in each statement. -/
import Derived.Test.YtejnpiielcbkkaaGreatZK22
import Derived.Test.YtejnpiielcbkkaaGreatZS9
set_option linter.unusedVariables false
set_option linter.unusedSimpArgs false
section
set_option maxRecDepth 100000
set_option maxHeartbeats 4000000
namespace Go.Proofs.YtejnpiielcbkkaaGreat.E
/-! ### A run, plainly -/
def runP (n : Int) (m : Machine) (xs : List Int) : Machine := xs.foldl (fun m x => (stepM m (x.tmod n)).1) m
theorem runP_one {n : Int} {m : Machine} {xs : List Int} {k : Nat} (h : k < xs.length) : (stepM (runP n m (xs.take k)) ((xs.getD k 0).tmod n)).1 = runP n m (xs.take (k + 1)) := by
  unfold runP
  rw [List.take_succ_eq_append_getElem h, List.foldl_append]
  simp [h]
theorem runP_bd {b : Nat} {n : Int} {m : Machine} (hb : 8 ≤ b) (h : bdM b m) : ∀ xs : List Int, bdM (b + 3 * xs.length) (runP n m xs) := by
  intro xs
  induction xs generalizing b m with
  | nil => exact h
  | cons x xs ih =>
    have := ih (b := b + 3) (by omega) (stepM_bd (i := x.tmod n) hb h)
    exact bdM_le (by simp only [List.length_cons]; omega) this
theorem runP_cores (n : Int) (m : Machine) : ∀ xs : List Int, (runP n m xs).cores.length = m.cores.length := by
  intro xs
  induction xs generalizing m with
  | nil => rfl
  | cons x xs ih => exact (ih _).trans (stepM_cores m _)
def runMachine (m : Machine) (picks : List Int) : Machine × Bool :=
  if picksOk picks 600 = false then (machineZ, false) else if ((m.cores.length : Int) == 0) = true then (machineZ, false) else (runP (m.cores.length : Int) m picks, true)
/-! A machine by its names. -/
def machineN (l : Nat) (x : Machine) : List T := [.ref l 0 x.image.text.length, .ref (l + 1) 0 x.image.starts.length, iV x.image.size, .ref (l + 2) 0 x.mem.length, .ref (l + 3) 0 x.cores.length, .ref (l + 4) 0 x.kernel.gates.length, .ref (l + 5) 0 x.kernel.ready.length, .ref (l + 6) 0 x.kernel.saved.length, .ref (l + 7) 0 x.kernel.over.length, .ref (l + 8) 0 x.input.length, .ref (l + 9) 0 x.events.length, bV x.stopped]
attribute [go_sem] machineN
def machineH (x : Machine) : List AObj := [.live 1 (intsT x.image.text), .live 1 (intsT x.image.starts), .live 1 (intsT x.mem), .live 3 (coresT x.cores), .live 3 (gatesT x.kernel.gates), .live 1 (intsT x.kernel.ready), .live 3 (coresT x.kernel.saved), .live 1 (boolsT x.kernel.over), .live 1 (intsT x.input), .live 3 (eventsT x.events)]
def zeroN : List T := [.v (.slice none 0 0), .v (.slice none 0 0), .v (.int .i64 0), .v (.slice none 0 0), .v (.slice none 0 0), .v (.slice none 0 0), .v (.slice none 0 0), .v (.slice none 0 0), .v (.slice none 0 0), .v (.slice none 0 0), .v (.slice none 0 0), .v (.bool false)]
end Go.Proofs.YtejnpiielcbkkaaGreat.E
end
section
set_option maxRecDepth 100000
set_option maxHeartbeats 4000000
namespace Go.Proofs.YtejnpiielcbkkaaGreat.E
def sPicks (m : Machine) (xs : List Int) : Bool := if xs.any badPick = true then false else if decide ((xs.length : Int) ≤ 600) = true then decide (0 < (m.cores.length : Int)) else false
theorem any_one {xs : List Int} {k : Nat} (h : k < xs.length) : (xs.take (k + 1)).any badPick = ((xs.take k).any badPick || decide (xs.getD k 0 < 0)) := by
  rw [List.take_succ_eq_append_getElem h, List.any_append]
  simp [h, badPick]
theorem anyb_take {xs : List Int} {k : Nat} (h : (xs.take k).any badPick = true) : xs.any badPick = true := by
  rw [← List.take_append_drop k xs, List.any_append, h]; rfl
theorem sPicks_ok (m : Machine) (picks : List Int) (hm : mdMachine m) (hs : picks.length ≤ 1099511627776) : CallOk Tryz.prog 53 [.agg (machineR m), .one (.ro 1 (intsD picks))] (.s (.one (bV (sPicks m picks)))) [none, none] := by
  have hcs : m.cores.length ≤ 68719476736 := hm.2.2.1.1
  refine callOk_of_hcall 40 (hcall_of_body Tryz.func53 rfl (by kernel_rfl) ?_)
  simp (disch := omega) only [go_sem, Tryz.ntmps53, Tryz.results53]
  refine wkc ?_
  refine i_loop (α := {k : Nat // k ≤ picks.length ∧ (picks.take k).any badPick = false}) (fun k => ⟨mkEnv 26 [(1, .one (.ro 1 (intsD picks))), (2, .one (.ptr 0 0 0)), (5, .one (iV k.1))], [.live 12 [machineR m]]⟩) (fun k => picks.length - k.1) ⟨0, by omega, rfl⟩ ?_ ?_
  · (refine weak_canon [1, 2, 5] [0] ?_ ?_ ?_ <;> (simp (disch := omega) only [go_sem, machineR]; done))
  rintro ⟨k, hk, hp⟩
  by_cases hkl : k < picks.length
  · have hb := any_one hkl
    rw [hp, Bool.false_or] at hb
    cases hq : decide (picks.getD k 0 < 0)
    · rw [hq] at hb
      simp (disch := omega) only [go_sem]
      refine wkc ?_
      all_goals refine ⟨⟨k + 1, by omega, hb⟩, ?_, by simp only; omega⟩
      all_goals (refine weak_canon [1, 2, 5] [0] ?_ ?_ ?_ <;> (simp (disch := omega) only [go_sem, machineR]; done))
    · rw [hq] at hb
      have hb2 := anyb_take hb
      have hres : sPicks m picks = false := by unfold sPicks; rw [if_pos hb2]
      clear hb hb2
      simp (disch := omega) only [go_sem]
      exact wk
  · have hb : picks.any badPick = false := by rw [List.take_of_length_le (by omega)] at hp; exact hp
    cases h1 : decide ((picks.length : Int) ≤ 600)
    all_goals
      simp (disch := omega) only [go_sem]
      have x1 := @sPicks.eq_1
      exact wk
theorem sPicks_is (m : Machine) (picks : List Int) : sPicks m picks = (runMachine m picks).2 := by
  unfold sPicks runMachine picksOk
  have h4 : decide (0 < (m.cores.length : Int)) = !((m.cores.length : Int) == 0) := by
    by_cases h : (m.cores.length : Int) = 0
    · rw [h]; rfl
    · have h5 : 0 < (m.cores.length : Int) := by omega
      rw [decide_eq_true h5, beq_eq_false_iff_ne.2 h]; rfl
  rw [h4]
  cases picks.any badPick <;> cases decide ((picks.length : Int) ≤ 600) <;> cases ((m.cores.length : Int) == 0) <;> rfl
end Go.Proofs.YtejnpiielcbkkaaGreat.E
end
