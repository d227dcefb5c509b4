/- Walks of the functions that tell where a program's variables lie, of the reference and of the program, and what they come to. Condition: the program is read from memory, and no list in it is longer than the statement's bound. -/
import Derived.Test.YtgeoipplkjgnfaaFamP
set_option linter.unusedSimpArgs false
set_option linter.unusedVariables false
namespace Go.Proofs.Ytgeoipplkjgnfaa
open Go.RowKit Go.Proofs.YtgeoipplkjgnfaaW.PrintWords Go.Proofs.Ytgeoipplkjgnfaa.Lib

/-! ### Plain: how many variables -/
def sumVars (ms : List TMonitor) : Nat := (ms.map fun m => m.Vars.length).sum
def sumProc (ps : List TProcess) : Nat := (ps.map fun x => x.Vars.length + 2).sum
theorem sumVars_snoc (ms : List TMonitor) (m : TMonitor) : sumVars (ms ++ [m]) = sumVars ms + m.Vars.length := by simp [sumVars]
theorem sumProc_snoc (ms : List TProcess) (m : TProcess) : sumProc (ms ++ [m]) = sumProc ms + (m.Vars.length + 2) := by simp [sumProc]
theorem sumVars_le (ms : List TMonitor) (h : ∀ m ∈ ms, smMonitor m) : sumVars ms ≤ ms.length * 1048576 := by
  induction ms with
  | nil => simp [sumVars]
  | cons m ms ih =>
    have h1 := ih fun x hx => h x (by simp [hx])
    have h2 : m.Vars.length ≤ 1048576 := (h m (by simp)).2.1.1
    have h3 : sumVars (m :: ms) = m.Vars.length + sumVars ms := by simp [sumVars]
    rw [h3, List.length_cons]
    omega
theorem sumProc_le (ms : List TProcess) (h : ∀ m ∈ ms, smProcess m) : sumProc ms ≤ ms.length * 1048578 := by
  induction ms with
  | nil => simp [sumProc]
  | cons m ms ih =>
    have h1 := ih fun x hx => h x (by simp [hx])
    have h2 : m.Vars.length ≤ 1048576 := (h m (by simp)).2.2.1
    have h3 : sumProc (m :: ms) = (m.Vars.length + 2) + sumProc ms := by simp [sumProc]
    rw [h3, List.length_cons]
    omega
def inB (x lo hi : Int) : Bool := decide (lo ≤ x) && decide (x ≤ hi)
theorem inB_yes {x lo hi : Int} (h : lo ≤ x) (h' : x ≤ hi) : inB x lo hi = true := by simp [inB, h, h']
theorem inB_no {x lo hi : Int} (h : ¬ (lo ≤ x ∧ x ≤ hi)) : inB x lo hi = false := by
  unfold inB
  by_cases h1 : lo ≤ x
  · have h2 : ¬ x ≤ hi := fun h2 => h ⟨h1, h2⟩
    simp [h2]
  · simp [h1]

/-! ### Is a number within -/
theorem specIn.calls (w : World) (x lo hi : Int) : Calls Try.prog 77 #[.int .i64 x, .int .i64 lo, .int .i64 hi] w fun e w' => e = .returned (.bool (inB x lo hi)) ∧ w = w' := by
  by_cases h1 : lo ≤ x
  · by_cases h2 : x ≤ hi
    all_goals
      first
        | have h := Aside0.mk (inB_yes h1 h2)
        | have h := Aside0.mk (inB_no (x := x) (lo := lo) (hi := hi) fun h => h2 h.2)
      go_enter Try.func77, Try.ntmps77
      go_wp2
      go_ret
      exact ⟨by rw [h.out]; rfl, rfl⟩
  · have h := Aside0.mk (inB_no (x := x) (lo := lo) (hi := hi) fun h => h1 h.1)
    go_enter Try.func77, Try.ntmps77
    go_wp2
    go_ret
    exact ⟨by rw [h.out]; rfl, rfl⟩
theorem implIn.calls (w : World) (x lo hi : Int) : Calls Try.prog 69 #[.int .i64 x, .int .i64 lo, .int .i64 hi] w fun e w' => e = .returned (.bool (inB x lo hi)) ∧ w = w' := by
  by_cases h1 : lo ≤ x
  · by_cases h2 : x ≤ hi
    all_goals
      first
        | have h := Aside0.mk (inB_yes h1 h2)
        | have h := Aside0.mk (inB_no (x := x) (lo := lo) (hi := hi) fun h => h2 h.2)
      go_enter Try.func69, Try.ntmps69
      go_wp2
      go_ret
      exact ⟨by rw [h.out]; rfl, rfl⟩
  · have h := Aside0.mk (inB_no (x := x) (lo := lo) (hi := hi) fun h => h1 h.1)
    go_enter Try.func69, Try.ntmps69
    go_wp2
    go_ret
    exact ⟨by rw [h.out]; rfl, rfl⟩

/-! ### All variables of all monitors -/
set_option maxHeartbeats 1000000 in
theorem specVars.calls (w : World) (p : TProgram) (cs : List Value) (h : kProgram.K w p cs) (hs : smProgram p) :
    Calls Try.prog 136 #[.agg cs.toArray] w fun e w' => e = .returned (.int .i64 (sumVars p.Monitors)) ∧ Below w.heap.size w w' := by
  obtain ⟨A0, c0, A1, c1, A2, c2, rfl, HKf0_, HKf1_, HKf2_⟩ := kProgram_open h
  have HK0 := Aside0.mk HKf0_
  have HK1 := Aside0.mk HKf1_
  have HK2 := Aside0.mk HKf2_
  clear HKf0_ HKf1_ HKf2_
  have hml : p.Monitors.length ≤ 1048576 := hs.2.1.1
  have HSM := Aside0.mk hs.2.1.2
  clear hs h
  obtain ⟨A, c, e, _, hC⟩ := HK1.out
  cases e
  have HK := Aside0.mk hC
  clear hC HK0 HK1 HK2
  obtain ⟨W0, hW0⟩ : ∃ W0, W0 = (w).alloc (.cells #[.slice A0 p.Nodes.length c0, .slice A1 p.Monitors.length c1, .slice A2 p.Processes.length c2] 87 (0, 0)) := ⟨_, rfl⟩
  have HA := Aside0.mk (show Below w.heap.size w W0 by rw [hW0]; with_reducible repeat (first | apply below_alloc | exact Below.refl _ _))
  have BA0 : W0.heap[w.heap.size]? = some (.cells #[.slice A0 p.Nodes.length c0, .slice A1 p.Monitors.length c1, .slice A2 p.Processes.length c2] 87 (0, 0)) := by rw [hW0]; exact blk_new _ _
  have hBA0 : ∀ i, W0.cell? ⟨w.heap.size, i, none⟩ = (#[.slice A0 p.Nodes.length c0, .slice A1 p.Monitors.length c1, .slice A2 p.Processes.length c2] : Array Value)[i]? := fun i => blk_cell BA0 i
  have HBA0 := Aside0.mk BA0
  clear BA0
  have hs0 : w.heap.size + 1 ≤ W0.heap.size := by rw [hW0]; simp
  have hs0_0 : w.heap.size < W0.heap.size := by omega
  clear hs0
  go_enter Try.func136, Try.ntmps136
  go_wp2
  simp only [← hW0]
  clear hW0
  go_loopw [3, 4] (fun n i wr => ∃ k : Nat, n = .int .i64 (sumVars (p.Monitors.take k)) ∧ i = .int .i64 k ∧ k ≤ p.Monitors.length ∧ wr = W0) (fun _ i _ => p.Monitors.length - (intOf i).toNat)
  case atStart => exact ⟨0, rfl, rfl, by omega, rfl⟩
  case round =>
    obtain ⟨k, rfl, rfl, hk, rfl⟩ := hrel
    by_cases hlthc : k < p.Monitors.length
    · skip
      obtain ⟨ad, cshc, e, _, hKehc, hcellhc⟩ := Kd.C_get (Kd.C_below HK.out HA.out) (⟨ByteArray.empty, [], [], []⟩ : TMonitor) (k : Int) (by omega) (by omega)
      rw [show (p.Monitors).getD ((k : Int)).toNat (⟨ByteArray.empty, [], [], []⟩ : TMonitor) = (p.Monitors)[k] by simp [List.getD, hlthc]] at hKehc
      have HEhc := Aside0.mk hKehc
      obtain ⟨B0, d0, B1, d1, B2, d2, rfl, _⟩ := kMonitor_open hKehc
      cases e
      have hc0 := hcellhc 0 _ rfl
      have hc1 := hcellhc 1 _ rfl
      have hc2 := hcellhc 2 _ rfl
      have hc3 := hcellhc 3 _ rfl
      simp only [Int.toNat_natCast, show kMonitor.sz = 4 from rfl, add_field _ _ 1 (by omega), add_field _ _ 2 (by omega), add_field _ _ 3 (by omega), Nat.mul_one, Nat.add_zero] at hc0 hc1 hc2 hc3
      clear hcellhc hKehc
      have hb := sumVars_le (p.Monitors.take k) (fun m hm => HSM.out m (List.mem_of_mem_take hm))
      have hb2 : (p.Monitors.take k).length ≤ 1048576 := by rw [List.length_take]; omega
      have hb3 : sumVars (p.Monitors.take k) ≤ 1099511627776 := by omega
      have hb4 : p.Monitors[k].Vars.length ≤ 1048576 := (HSM.out _ (List.getElem_mem hlthc)).2.1.1
      have hb5 : sumVars (p.Monitors.take (k + 1)) = sumVars (p.Monitors.take k) + p.Monitors[k].Vars.length := by rw [List.take_succ_eq_append_getElem hlthc, sumVars_snoc]
      have HB5 := Aside0.mk hb5
      clear hb hb2 hb5
      go_wp2
      go_roundw
      case rel => exact ⟨k + 1, by rw [HB5.out]; go_num, by go_num, by omega, by first | rfl | trivial⟩
      case measure => simp [intOf]; omega
    · have e : k = p.Monitors.length := by omega
      subst e
      go_wp2
      go_ret
      exact ⟨by rw [List.take_length]; rfl, HA.out⟩
end Go.Proofs.Ytgeoipplkjgnfaa
