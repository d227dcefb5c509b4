/- The walk of FnExactLockHeld: the call returns true. Condition: the machine is read from memory. -/
import Derived.Test.YtgeoipplkjgnfaaFamM
set_option linter.unusedSimpArgs false
set_option linter.unusedVariables false
namespace Go.Proofs.Ytgeoipplkjgnfaa
open Go.RowKit Go.Proofs.YtgeoipplkjgnfaaW.PrintWords Go.Proofs.Ytgeoipplkjgnfaa.Lib

def lockB : List Int → Bool
  | [] => false
  | a :: _ => a != 0
set_option maxHeartbeats 1000000 in
theorem specLockHeld.calls (w : World) (x : TMachine) (cs : List Value) (h : kMachine.K w x cs) :
    Calls Try.prog 41 #[.agg cs.toArray] w fun e w' => e = .returned (.bool (lockB x.Mem)) ∧ Below w.heap.size w w' := by
  obtain ⟨A0, c0, A1, c1, A2, c2, A3, c3, A4, c4, A5, c5, A6, c6, A7, c7, A8, c8, A9, c9, rfl, _, h1, _⟩ := kMachine_open h
  obtain ⟨A, c, e, _, hC⟩ := h1
  simp only [Value.slice.injEq, true_and] at e
  obtain ⟨rfl, rfl⟩ := e
  clear h
  have hn := hC.2.1
  generalize x.Mem = l at *
  cases l with
  | nil =>
    clear hC
    go_enter Try.func41, Try.ntmps41
    go_wp2
    go_ret
    exact ⟨rfl, below_alloc (Below.refl _ _) _⟩
  | cons a t =>
    obtain ⟨ad, cs, rfl, _, hK, hcell⟩ := Kd.C_get hC 0 0 (by omega) (by simp)
    obtain rfl : cs = [.int .i64 a] := hK
    have hc := hcell 0 _ rfl
    simp only [Int.toNat_zero, Nat.zero_mul, Nat.add_zero] at hc
    rw [show ad.add 0 = ad by simp [Addr.add]] at hc
    have hal : ∀ o : Obj, (w.alloc o).cell? ad = some (.int .i64 a) := fun o => (World.cell?_alloc_lt w o ad (World.block_lt_of_cell? w _ hc)).trans hc
    clear hcell hC
    have hl : (0 : Int) < ((a :: t).length : Nat) := by simp
    by_cases ha : a = 0
    all_goals
      first
        | (have hb : lockB (a :: t) = false := by simp [lockB, ha])
        | (have hb : lockB (a :: t) = true := by simp [lockB, ha])
      have HB := Aside0.mk hb
      clear hb
      generalize (a :: t).length = n at *
      go_enter Try.func41, Try.ntmps41
      go_wp2
      go_ret
      exact ⟨by rw [HB.out]; simp [ha], below_alloc (Below.refl _ _) _⟩
set_option maxHeartbeats 1000000 in
theorem implLockHeld.calls (w : World) (x : TMachine) (cs : List Value) (h : kMachine.K w x cs) :
    Calls Try.prog 43 #[.agg cs.toArray] w fun e w' => e = .returned (.bool (lockB x.Mem)) ∧ Below w.heap.size w w' := by
  obtain ⟨A0, c0, A1, c1, A2, c2, A3, c3, A4, c4, A5, c5, A6, c6, A7, c7, A8, c8, A9, c9, rfl, _, h1, _⟩ := kMachine_open h
  obtain ⟨A, c, e, _, hC⟩ := h1
  simp only [Value.slice.injEq, true_and] at e
  obtain ⟨rfl, rfl⟩ := e
  clear h
  have hn := hC.2.1
  generalize x.Mem = l at *
  cases l with
  | nil =>
    clear hC
    go_enter Try.func43, Try.ntmps43
    go_wp2
    go_ret
    exact ⟨rfl, below_alloc (Below.refl _ _) _⟩
  | cons a t =>
    obtain ⟨ad, cs, rfl, _, hK, hcell⟩ := Kd.C_get hC 0 0 (by omega) (by simp)
    obtain rfl : cs = [.int .i64 a] := hK
    have hc := hcell 0 _ rfl
    simp only [Int.toNat_zero, Nat.zero_mul, Nat.add_zero] at hc
    rw [show ad.add 0 = ad by simp [Addr.add]] at hc
    have hal : ∀ o : Obj, (w.alloc o).cell? ad = some (.int .i64 a) := fun o => (World.cell?_alloc_lt w o ad (World.block_lt_of_cell? w _ hc)).trans hc
    clear hcell hC
    have hl : (0 : Int) < ((a :: t).length : Nat) := by simp
    by_cases ha : a = 0
    all_goals
      first
        | (have hb : lockB (a :: t) = false := by simp [lockB, ha])
        | (have hb : lockB (a :: t) = true := by simp [lockB, ha])
      have HB := Aside0.mk hb
      clear hb
      generalize (a :: t).length = n at *
      go_enter Try.func43, Try.ntmps43
      go_wp2
      go_ret
      exact ⟨by rw [HB.out]; simp [ha], below_alloc (Below.refl _ _) _⟩
end Go.Proofs.Ytgeoipplkjgnfaa
