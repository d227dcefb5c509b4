/- Walks of the program's own isMonitor, isProcess, sharedSize and SharedAt. Condition: the program is read from memory, and no list in it is longer than the statement's bound. -/
import Derived.Test.YtgeoipplkjgnfaaPlaces2
set_option linter.unusedSimpArgs false
set_option linter.unusedVariables false
namespace Go.Proofs.Ytgeoipplkjgnfaa
open Go.RowKit Go.Proofs.YtgeoipplkjgnfaaW.PrintWords Go.Proofs.Ytgeoipplkjgnfaa.Lib

set_option maxHeartbeats 1000000 in
theorem isMonitor.calls (w : World) (p : TProgram) (cs : List Value) (h : kProgram.K w p cs) (m : Int) (hml : p.Monitors.length ≤ 1048576) :
    Calls Try.prog 142 #[.agg cs.toArray, .int .i64 m] w fun e w' => e = .returned (.bool (inB m 0 ((p.Monitors.length : Int) - 1))) ∧ Below w.heap.size w w' := by
  obtain ⟨A0, c0, A1, c1, A2, c2, rfl, HKf0_, HKf1_, HKf2_⟩ := kProgram_open h
  have HK0 := Aside0.mk HKf0_
  have HK1 := Aside0.mk HKf1_
  have HK2 := Aside0.mk HKf2_
  clear HKf0_ HKf1_ HKf2_
  clear h
  go_enter Try.func142, Try.ntmps142
  go_wp2_with (go_at_call 69; (with_reducible refine (implIn.calls _ _ _ _).mono ?_); rintro e w1 ⟨rfl, rfl⟩)
  go_ret
  exact ⟨rfl, below_alloc (Below.refl _ _) _⟩
set_option maxHeartbeats 1000000 in
theorem isProcess.calls (w : World) (p : TProgram) (cs : List Value) (h : kProgram.K w p cs) (m : Int) (hml : p.Processes.length ≤ 1048576) :
    Calls Try.prog 98 #[.agg cs.toArray, .int .i64 m] w fun e w' => e = .returned (.bool (inB m 0 ((p.Processes.length : Int) - 1))) ∧ Below w.heap.size w w' := by
  obtain ⟨A0, c0, A1, c1, A2, c2, rfl, HKf0_, HKf1_, HKf2_⟩ := kProgram_open h
  have HK0 := Aside0.mk HKf0_
  have HK1 := Aside0.mk HKf1_
  have HK2 := Aside0.mk HKf2_
  clear HKf0_ HKf1_ HKf2_
  clear h
  go_enter Try.func98, Try.ntmps98
  go_wp2_with (go_at_call 69; (with_reducible refine (implIn.calls _ _ _ _).mono ?_); rintro e w1 ⟨rfl, rfl⟩)
  go_ret
  exact ⟨rfl, below_alloc (Below.refl _ _) _⟩

set_option maxHeartbeats 1000000 in
theorem sharedSize.calls (w : World) (xs : List TMonitor) (v : Value) (h : SK kMonitor w xs v) (hml : xs.length ≤ 1048576) (hs : ∀ m ∈ xs, smMonitor m) :
    Calls Try.prog 140 #[v] w fun e w' => e = .returned (.int .i64 (sumVars xs)) ∧ Below w.heap.size w w' := by
  obtain ⟨A, c, rfl, _, hC⟩ := h
  have HK := Aside0.mk hC
  have HSM := Aside0.mk hs
  clear hC hs
  go_enter Try.func140, Try.ntmps140
  go_wp2
  go_loopw [3, 8] (fun n i wr => ∃ k : Nat, n = .int .i64 (sumVars (xs.take k)) ∧ i = .int .i64 k ∧ k ≤ xs.length ∧ Aside0 (Below w.heap.size w wr)) (fun _ i _ => xs.length - (intOf i).toNat)
  case atStart => exact ⟨0, rfl, rfl, by omega, ⟨Below.refl _ _⟩⟩
  case round =>
    obtain ⟨k, rfl, rfl, hk, HB⟩ := hrel
    by_cases hlthc : k < xs.length
    · skip
      obtain ⟨ad, cshc, e, _, hKehc, hcellhc⟩ := Kd.C_get (Kd.C_below HK.out HB.out) (⟨ByteArray.empty, [], [], []⟩ : TMonitor) (k : Int) (by omega) (by omega)
      rw [show (xs).getD ((k : Int)).toNat (⟨ByteArray.empty, [], [], []⟩ : TMonitor) = (xs)[k] by simp [List.getD, hlthc]] at hKehc
      have HEhc := Aside0.mk hKehc
      obtain ⟨B0, d0, B1, d1, B2, d2, rfl, _⟩ := kMonitor_open hKehc
      cases e
      have hc0 := hcellhc 0 _ rfl
      have hc1 := hcellhc 1 _ rfl
      have hc2 := hcellhc 2 _ rfl
      have hc3 := hcellhc 3 _ rfl
      simp only [Int.toNat_natCast, show kMonitor.sz = 4 from rfl, add_field _ _ 1 (by omega), add_field _ _ 2 (by omega), add_field _ _ 3 (by omega), Nat.mul_one, Nat.add_zero] at hc0 hc1 hc2 hc3
      clear hcellhc hKehc
      have hb := sumVars_le (xs.take k) (fun m hm => HSM.out m (List.mem_of_mem_take hm))
      have hb2 : (xs.take k).length ≤ 1048576 := by rw [List.length_take]; omega
      have hb3 : sumVars (xs.take k) ≤ 1099511627776 := by omega
      have hb4 : xs[k].Vars.length ≤ 1048576 := (HSM.out _ (List.getElem_mem hlthc)).2.1.1
      have hb5 : sumVars (xs.take (k + 1)) = sumVars (xs.take k) + xs[k].Vars.length := by rw [List.take_succ_eq_append_getElem hlthc, sumVars_snoc]
      have HB5 := Aside0.mk hb5
      clear hb hb2 hb5
      go_wp2
      go_roundw
      case rel => exact ⟨k + 1, by rw [HB5.out]; go_num, by go_num, by omega, ⟨below_alloc HB.out _⟩⟩
      case measure => simp [intOf]; omega
    · have e : k = xs.length := by omega
      subst e
      go_wp2
      go_ret
      exact ⟨by rw [List.take_length]; rfl, HB.out⟩

set_option maxHeartbeats 1000000 in
theorem implSharedAt.calls (w : World) (p : TProgram) (cs : List Value) (h : kProgram.K w p cs) (m j : Int) (hs : smProgram p) :
    Calls Try.prog 101 #[.agg cs.toArray, .int .i64 m, .int .i64 j] w fun e w' => e = .returned (.int .i64 (sharedAt p m j)) ∧ Below w.heap.size w w' := by
  have HP := Aside0.mk h
  obtain ⟨A0, c0, A1, c1, A2, c2, rfl, HKf0_, HKf1_, HKf2_⟩ := kProgram_open h
  have HK0 := Aside0.mk HKf0_
  have HK1 := Aside0.mk HKf1_
  have HK2 := Aside0.mk HKf2_
  clear HKf0_ HKf1_ HKf2_
  have hml : p.Monitors.length ≤ 1048576 := hs.2.1.1
  have HSM := Aside0.mk hs.2.1.2
  clear hs h
  obtain ⟨A, c, e, _, hC⟩ := HK1.out
  cases e
  have HK := Aside0.mk hC
  clear hC HK0 HK2
  obtain ⟨W0, hW0⟩ : ∃ W0, W0 = (w).alloc (.cells #[.slice A0 p.Nodes.length c0, .slice A1 p.Monitors.length c1, .slice A2 p.Processes.length c2] 87 (0, 0)) := ⟨_, rfl⟩
  have HA := Aside0.mk (show Below w.heap.size w W0 by rw [hW0]; with_reducible repeat (first | apply below_alloc | exact Below.refl _ _))
  have BA0 : W0.heap[w.heap.size]? = some (.cells #[.slice A0 p.Nodes.length c0, .slice A1 p.Monitors.length c1, .slice A2 p.Processes.length c2] 87 (0, 0)) := by rw [hW0]; exact blk_new _ _
  have hBA0 : ∀ i, W0.cell? ⟨w.heap.size, i, none⟩ = (#[.slice A0 p.Nodes.length c0, .slice A1 p.Monitors.length c1, .slice A2 p.Processes.length c2] : Array Value)[i]? := fun i => blk_cell BA0 i
  have HBA0 := Aside0.mk BA0
  clear BA0
  have hs0 : w.heap.size + 1 ≤ W0.heap.size := by rw [hW0]; simp
  have hs0_0 : w.heap.size < W0.heap.size := by omega
  clear hs0
  by_cases h1 : inB m 0 ((p.Monitors.length : Int) - 1) = true
  · obtain ⟨k0, rfl, hlthc⟩ := inB_nat h1
    have hmon : monAt p (k0 : Int) = p.Monitors[k0] := by simp [monAt, List.getD, hlthc]
    have hv : p.Monitors[k0].Vars.length ≤ 1048576 := (HSM.out _ (List.getElem_mem hlthc)).2.1.1
    by_cases h2 : inB j 0 ((p.Monitors[k0].Vars.length : Int) - 1) = true
    all_goals
      have hres : sharedAt p (k0 : Int) j = if inB j 0 ((p.Monitors[k0].Vars.length : Int) - 1) = true then 1 + sumVars (p.Monitors.take k0) + j else -1 := by
        unfold sharedAt
        rw [hmon]
        by_cases h3 : inB j 0 ((p.Monitors[k0].Vars.length : Int) - 1) = true
        · rw [if_pos ⟨h1, h3⟩, if_pos h3]
          simp
        · rw [if_neg (fun h => h3 h.2), if_neg h3]
      first
        | rw [if_pos h2] at hres
        | rw [if_neg h2] at hres
      have HR := Aside0.mk hres
      have hb := sumVars_le (p.Monitors.take k0) (fun m hm => HSM.out m (List.mem_of_mem_take hm))
      have hb2 : (p.Monitors.take k0).length ≤ 1048576 := by rw [List.length_take]; omega
      have hb3 : sumVars (p.Monitors.take k0) ≤ 1099511627776 := by omega
      first
        | have hj := inB_iff.1 h2
          have hj0 := hj.1
          have hj1 := hj.2
          clear hj
        | have h2' : inB j 0 ((p.Monitors[k0].Vars.length : Int) - 1) = false := by simpa using h2
          clear h2
      clear hmon hres hb hb2
      go_enter Try.func101, Try.ntmps101
      go_wp2_with fail
      simp only [← hW0]
      clear hW0
      (with_reducible refine (isMonitor.calls _ p _ (kProgram.K_below HA.out HP.out) _ hml).mono ?_)
      rintro e w1 ⟨rfl, hb⟩
      have HB := Aside0.mk hb
      obtain ⟨hc1, hf1⟩ := bcell hb
      have hz1 : w.heap.size < w1.heap.size := by have := hb.size; omega
      clear hb
      obtain ⟨ad, cshc, e, _, hKehc, hcellhc⟩ := Kd.C_get (Kd.C_below HK.out (bstep HA.out HB.out)) (⟨ByteArray.empty, [], [], []⟩ : TMonitor) (k0 : Int) (by omega) (by omega)
      rw [show (p.Monitors).getD ((k0 : Int)).toNat (⟨ByteArray.empty, [], [], []⟩ : TMonitor) = (p.Monitors)[k0] by simp [List.getD, hlthc]] at hKehc
      have HEhc := Aside0.mk hKehc
      obtain ⟨B0, d0, B1, d1, B2, d2, rfl, _⟩ := kMonitor_open hKehc
      cases e
      have hc0 := hcellhc 0 _ rfl
      have hc1 := hcellhc 1 _ rfl
      have hc2 := hcellhc 2 _ rfl
      have hc3 := hcellhc 3 _ rfl
      simp only [Int.toNat_natCast, show kMonitor.sz = 4 from rfl, add_field _ _ 1 (by omega), add_field _ _ 2 (by omega), add_field _ _ 3 (by omega), Nat.mul_one, Nat.add_zero] at hc0 hc1 hc2 hc3
      clear hcellhc hKehc
      go_wp2_with (first
        | (go_at_call 69; (with_reducible refine (implIn.calls _ _ _ _).mono ?_); rintro e w2 ⟨rfl, rfl⟩)
        | (go_at_call 140; (with_reducible refine (sharedSize.calls _ (p.Monitors.take k0) _ (SKtake (HK1.out.below (bstep HA.out HB.out)) k0 (by omega)) (by rw [List.length_take]; omega) (fun m hm => HSM.out m (List.mem_of_mem_take hm))).mono ?_); rintro e w2 ⟨rfl, hb⟩; have HB2 := Aside0.mk hb; clear hb))
      go_ret
      first
        | exact ⟨by rw [HR.out]; rfl, bstep HA.out (bstep HB.out HB2.out)⟩
        | exact ⟨by rw [HR.out]; rfl, bstep HA.out HB.out⟩
  · have hres : sharedAt p m j = -1 := by
      unfold sharedAt
      rw [if_neg (fun h => h1 h.1)]
    have HR := Aside0.mk hres
    have h1' : inB m 0 ((p.Monitors.length : Int) - 1) = false := by simpa using h1
    clear hres h1
    go_enter Try.func101, Try.ntmps101
    go_wp2_with fail
    simp only [← hW0]
    clear hW0
    go_wp2_with (go_at_call 142; (with_reducible refine (isMonitor.calls _ p _ (kProgram.K_below HA.out HP.out) _ hml).mono ?_); rintro e w1 ⟨rfl, hb⟩; have HB := Aside0.mk hb; clear hb)
    go_ret
    exact ⟨by rw [HR.out]; rfl, bstep HA.out HB.out⟩
end Go.Proofs.Ytgeoipplkjgnfaa
