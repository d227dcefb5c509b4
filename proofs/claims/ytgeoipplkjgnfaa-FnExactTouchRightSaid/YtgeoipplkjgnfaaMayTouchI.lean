/- Walk of MayTouch of the program. Condition: what it is given is read from memory, and no list in the program is longer than the statement's bound. -/
import Derived.Test.YtgeoipplkjgnfaaMayTouchS
set_option linter.unusedSimpArgs false
set_option linter.unusedVariables false
namespace Go.Proofs.Ytgeoipplkjgnfaa
open Go.RowKit Go.Proofs.YtgeoipplkjgnfaaW.PrintWords Go.Proofs.Ytgeoipplkjgnfaa.Lib

set_option maxHeartbeats 8000000 in
set_option maxRecDepth 100000 in
theorem implMayTouch.calls (w : World) (p : TProgram) (cs : List Value) (h : kProgram.K w p cs) (x : TMachine) (es : List Value) (h'' : kMachine.K w x es) (pid a : Int) (hs : smProgram p) :
    Calls Try.prog 48 #[.agg cs.toArray, .agg es.toArray, .int .i64 pid, .int .i64 a] w fun e w' => e = .returned (.bool (mayTouch p x pid a)) ∧ Below w.heap.size w w' := by
  have HP := Aside0.mk h
  obtain ⟨A0, c0, A1, c1, A2, c2, rfl, HKf0_, HKf1_, HKf2_⟩ := kProgram_open h
  have HK0 := Aside0.mk HKf0_
  have HK1 := Aside0.mk HKf1_
  have HK2 := Aside0.mk HKf2_
  clear HKf0_ HKf1_ HKf2_
  obtain ⟨D0, e0, D1, e1, D2, e2, D3, e3, D4, e4, D5, e5, D6, e6, D7, e7, D8, e8, D9, e9, rfl, HXf0_, HXf1_, HXf2_, HXf3_, HXf4_, HXf5_⟩ := kMachine_open h''
  have HX0 := Aside0.mk HXf0_
  have HX1 := Aside0.mk HXf1_
  have HX2 := Aside0.mk HXf2_
  have HX3 := Aside0.mk HXf3_
  have HX4 := Aside0.mk HXf4_
  have HX5 := Aside0.mk HXf5_
  clear HXf0_ HXf1_ HXf2_ HXf3_ HXf4_ HXf5_
  have hml : p.Monitors.length ≤ 1048576 := hs.2.1.1
  have hpl : p.Processes.length ≤ 1048576 := hs.2.2.1
  have HSM := Aside0.mk hs.2.1.2
  have HSP := Aside0.mk hs.2.2.2
  have HS := Aside0.mk hs
  clear hs h h''
  obtain ⟨A_, c_, e_, _, hC⟩ := HK1.out
  cases e_
  have HK := Aside0.mk hC
  clear hC
  obtain ⟨A_, c_, e_, _, hC⟩ := HK2.out
  cases e_
  have HKP := Aside0.mk hC
  clear hC
  obtain ⟨_, _, _, _, _, _, _, _, e_, hg, _⟩ := kKernel_open HX3.out
  simp only [List.cons.injEq, Value.slice.injEq, true_and, and_true] at e_
  obtain ⟨⟨rfl, rfl⟩, ⟨rfl, rfl⟩, ⟨rfl, rfl⟩, rfl, rfl⟩ := e_
  obtain ⟨A_, c_, e_, _, hC⟩ := hg
  cases e_
  have HG := Aside0.mk hC
  have hgl : x.Kernel.Gates.length ≤ 9223372036854775807 := hC.2.1
  clear hC
  clear HK0 HK1 HK2 HX0 HX1 HX2 HX3 HX4 HX5
  obtain ⟨W0, hW0⟩ : ∃ W0, W0 = ((w).alloc (.cells #[.slice A0 p.Nodes.length c0, .slice A1 p.Monitors.length c1, .slice A2 p.Processes.length c2] 87 (0, 0))).alloc (.cells #[.slice D0 x.Image.Text.length e0, .slice D1 x.Image.Starts.length e1, .int .i64 x.Image.Size, .slice D2 x.Mem.length e2, .slice D3 x.Cores.length e3, .slice D4 x.Kernel.Gates.length e4, .slice D5 x.Kernel.Ready.length e5, .slice D6 x.Kernel.Saved.length e6, .slice D7 x.Kernel.Over.length e7, .slice D8 x.Input.length e8, .slice D9 x.Events.length e9, .bool x.Stopped] 72 (0, 0)) := ⟨_, rfl⟩
  have HA := Aside0.mk (show Below w.heap.size w W0 by rw [hW0]; with_reducible repeat (first | apply below_alloc | exact Below.refl _ _))
  have BA0 : W0.heap[w.heap.size]? = some (.cells #[.slice A0 p.Nodes.length c0, .slice A1 p.Monitors.length c1, .slice A2 p.Processes.length c2] 87 (0, 0)) := by rw [hW0]; exact blk_alloc (blk_new _ _) _
  have hBA0 : ∀ i, W0.cell? ⟨w.heap.size, i, none⟩ = (#[.slice A0 p.Nodes.length c0, .slice A1 p.Monitors.length c1, .slice A2 p.Processes.length c2] : Array Value)[i]? := fun i => blk_cell BA0 i
  have HBA0 := Aside0.mk BA0
  clear BA0
  have BA1 : W0.heap[w.heap.size + 1]? = some (.cells #[.slice D0 x.Image.Text.length e0, .slice D1 x.Image.Starts.length e1, .int .i64 x.Image.Size, .slice D2 x.Mem.length e2, .slice D3 x.Cores.length e3, .slice D4 x.Kernel.Gates.length e4, .slice D5 x.Kernel.Ready.length e5, .slice D6 x.Kernel.Saved.length e6, .slice D7 x.Kernel.Over.length e7, .slice D8 x.Input.length e8, .slice D9 x.Events.length e9, .bool x.Stopped] 72 (0, 0)) := by rw [hW0]; have h_ : ((w).alloc (.cells #[.slice A0 p.Nodes.length c0, .slice A1 p.Monitors.length c1, .slice A2 p.Processes.length c2] 87 (0, 0))).heap.size = w.heap.size + 1 := (by simp); rw [← h_]; exact blk_new _ _
  have hBA1 : ∀ i, W0.cell? ⟨w.heap.size + 1, i, none⟩ = (#[.slice D0 x.Image.Text.length e0, .slice D1 x.Image.Starts.length e1, .int .i64 x.Image.Size, .slice D2 x.Mem.length e2, .slice D3 x.Cores.length e3, .slice D4 x.Kernel.Gates.length e4, .slice D5 x.Kernel.Ready.length e5, .slice D6 x.Kernel.Saved.length e6, .slice D7 x.Kernel.Over.length e7, .slice D8 x.Input.length e8, .slice D9 x.Events.length e9, .bool x.Stopped] : Array Value)[i]? := fun i => blk_cell BA1 i
  have HBA1 := Aside0.mk BA1
  clear BA1
  have hs0 : w.heap.size + 2 ≤ W0.heap.size := by rw [hW0]; simp
  have hs0_0 : w.heap.size < W0.heap.size := by omega
  have hs0_1 : w.heap.size + 1 < W0.heap.size := by omega
  clear hs0
  by_cases h0 : a = 0
  · subst h0
    have HR := Aside0.mk (mayTouch_zero (p := p) (x := x) (pid := pid))
    go_enter Try.func48, Try.ntmps48
    go_wp2
    go_ret
    exact ⟨by rw [HR.out]; rfl, by rw [← hW0]; exact HA.out⟩
  · have h0b : (a == 0) = false := by simp [h0]
    have H0 := Aside0.mk h0
    by_cases h1 : inB pid 0 ((p.Processes.length : Int) - 1) = true
    · obtain ⟨k0, rfl, hltpc⟩ := inB_nat h1
      have hv : p.Processes[k0].Vars.length ≤ 1048576 := (HSP.out _ (List.getElem_mem hltpc)).2.2.1
      go_enter Try.func48, Try.ntmps48
      go_wp2_with fail
      simp only [← hW0]
      clear hW0
      (with_reducible refine (isProcess.calls _ p _ (kProgram.K_below HA.out HP.out) _ hpl).mono ?_)
      rintro e w1 ⟨rfl, hb⟩
      have HB := Aside0.mk hb
      obtain ⟨hcr, hfr⟩ := bcell hb
      clear hb
      have hsr0 := Nat.lt_of_lt_of_le hs0_0 HB.out.size
      have hsr1 := Nat.lt_of_lt_of_le hs0_1 HB.out.size
      have hrr := resAt_pos hltpc
      obtain ⟨hv1, hv2⟩ := varAt_bound HS.out (k0 : Int) 0
      generalize hvv : varAt p (k0 : Int) 0 = v at *
      have HVV := Aside0.mk hvv
      have HRR := Aside0.mk hrr
      clear hvv hrr
      have HBd := Aside0.mk (below_drew1 (Below.refl w1.heap.size w1))
      have HSS := Aside0.mk (show ∀ w', Below w1.heap.size w1 w' → w'.cell? ⟨w.heap.size, 0, none⟩ = some (.slice A0 p.Nodes.length c0) ∧ w'.cell? ⟨w.heap.size, 1, none⟩ = some (.slice A1 p.Monitors.length c1) ∧ w'.cell? ⟨w.heap.size, 2, none⟩ = some (.slice A2 p.Processes.length c2) from fun w' hb => ⟨pw_cell_below hb (by rw [hcr _ _ hs0_0]; exact hBA0 0), pw_cell_below hb (by rw [hcr _ _ hs0_0]; exact hBA0 1), pw_cell_below hb (by rw [hcr _ _ hs0_0]; exact hBA0 2)⟩)
      by_cases h3 : inB a v (v + (p.Processes[k0].Vars.length : Int) + 1) = true
      · have HR := Aside0.mk (mayTouch_in (x := x) H0.out hltpc HVV.out h3)
        clear hcr hfr
        go_wp2
        go_region_held3 (fun w' => w'.cell? ⟨w.heap.size, 0, none⟩ = some (.slice A0 p.Nodes.length c0) ∧ w'.cell? ⟨w.heap.size, 1, none⟩ = some (.slice A1 p.Monitors.length c1) ∧ w'.cell? ⟨w.heap.size, 2, none⟩ = some (.slice A2 p.Processes.length c2)) (first | exact HSS.out _ HBd.out | exact HSS.out _ (Aside0.out (by assumption))) (first
          | (go_at_call 99; (with_reducible refine (implVarAt.calls _ p _ (kProgram.K_below (bstep HA.out (bstep HB.out (Aside0.out (by assumption : Aside0 (Below w1.heap.size w1 _))))) HP.out) _ _ HS.out).mono ?_); rw [HVV.out]; rintro e_ wq ⟨rfl, hb⟩; have HQ := Aside0.mk (bstep (Aside0.out (by assumption : Aside0 (Below w1.heap.size w1 _))) hb))
          | (go_at_call 100; (with_reducible refine (resAt.calls _ p _ (kProgram.K_below (bstep HA.out (bstep HB.out (Aside0.out (by assumption : Aside0 (Below w1.heap.size w1 _))))) HP.out) _ HS.out).mono ?_); rw [HRR.out]; rintro e_ wq ⟨rfl, hb⟩; have HQ := Aside0.mk (bstep (Aside0.out (by assumption : Aside0 (Below w1.heap.size w1 _))) hb))
          | (go_at_call 69; (with_reducible refine (implIn.calls _ _ _ _).mono ?_); rintro e_ wq ⟨rfl, rfl⟩))
        have HQ2 : Aside0 (Below w1.heap.size w1 _) := (by assumption)
        go_wp2
        go_ret
        exact ⟨by rw [HR.out]; rfl, bstep HA.out (bstep HB.out HQ2.out)⟩
      · have h3b : inB a v (v + (p.Processes[k0].Vars.length : Int) + 1) = false := by simpa using h3
        have HR := Aside0.mk (mayTouch_mon (x := x) H0.out hltpc HVV.out h3b)
        clear h3 hcr hfr
        go_wp2
        go_region_held3 (fun w' => w'.cell? ⟨w.heap.size, 0, none⟩ = some (.slice A0 p.Nodes.length c0) ∧ w'.cell? ⟨w.heap.size, 1, none⟩ = some (.slice A1 p.Monitors.length c1) ∧ w'.cell? ⟨w.heap.size, 2, none⟩ = some (.slice A2 p.Processes.length c2)) (first | exact HSS.out _ HBd.out | exact HSS.out _ (Aside0.out (by assumption))) (first
          | (go_at_call 99; (with_reducible refine (implVarAt.calls _ p _ (kProgram.K_below (bstep HA.out (bstep HB.out (Aside0.out (by assumption : Aside0 (Below w1.heap.size w1 _))))) HP.out) _ _ HS.out).mono ?_); rw [HVV.out]; rintro e_ wq ⟨rfl, hb⟩; have HQ := Aside0.mk (bstep (Aside0.out (by assumption : Aside0 (Below w1.heap.size w1 _))) hb))
          | (go_at_call 100; (with_reducible refine (resAt.calls _ p _ (kProgram.K_below (bstep HA.out (bstep HB.out (Aside0.out (by assumption : Aside0 (Below w1.heap.size w1 _))))) HP.out) _ HS.out).mono ?_); rw [HRR.out]; rintro e_ wq ⟨rfl, hb⟩; have HQ := Aside0.mk (bstep (Aside0.out (by assumption : Aside0 (Below w1.heap.size w1 _))) hb))
          | (go_at_call 69; (with_reducible refine (implIn.calls _ _ _ _).mono ?_); rintro e_ wq ⟨rfl, rfl⟩))
        have HQ2 : Aside0 (Below w1.heap.size w1 _) := (by assumption)
        have HB4 := Aside0.mk (bstep HB.out HQ2.out)
        clear hsr0 hsr1
        obtain ⟨hcr, hfr⟩ := bcell HB4.out
        have hsr0 := Nat.lt_of_lt_of_le hs0_0 HB4.out.size
        have hsr1 := Nat.lt_of_lt_of_le hs0_1 HB4.out.size
        go_wp2
        clear hcr hfr
        go_loopw [29] (fun i wr => ∃ k : Nat, i = .int .i64 k ∧ k ≤ p.Monitors.length ∧ Aside0 (∀ j, j < k → touchIn p x (k0 : Int) a j = false) ∧ Aside0 (Below W0.heap.size W0 wr)) (fun i _ => p.Monitors.length - (intOf i).toNat)
        case atStart => exact ⟨0, rfl, by omega, ⟨fun j h => absurd h (by omega)⟩, HB4⟩
        case round =>
          clear hsr0 hsr1
          obtain ⟨i, rfl, hi, HALL, HB⟩ := hrel
          obtain ⟨hcr, hfr⟩ := bcell HB.out
          have hsr0 := Nat.lt_of_lt_of_le hs0_0 HB.out.size
          have hsr1 := Nat.lt_of_lt_of_le hs0_1 HB.out.size
          by_cases hlthc : i < p.Monitors.length
          · skip
            obtain ⟨ad, cshc, e, _, hKehc, hcellhc⟩ := Kd.C_get (Kd.C_below HK.out (bstep HA.out HB.out)) (⟨ByteArray.empty, [], [], []⟩ : TMonitor) (i : Int) (by omega) (by omega)
            rw [show (p.Monitors).getD ((i : Int)).toNat (⟨ByteArray.empty, [], [], []⟩ : TMonitor) = (p.Monitors)[i] by simp [List.getD, hlthc]] at hKehc
            have HEhc := Aside0.mk hKehc
            obtain ⟨E0, g0, E1, g1, E2, g2, rfl, _⟩ := kMonitor_open hKehc
            cases e
            have hc0 := hcellhc 0 _ rfl
            have hc1 := hcellhc 1 _ rfl
            have hc2 := hcellhc 2 _ rfl
            have hc3 := hcellhc 3 _ rfl
            simp only [Int.toNat_natCast, show kMonitor.sz = 4 from rfl, add_field _ _ 1 (by omega), add_field _ _ 2 (by omega), add_field _ _ 3 (by omega), Nat.mul_one, Nat.add_zero] at hc0 hc1 hc2 hc3
            clear hcellhc hKehc
            have hvarsl : p.Monitors[i].Vars.length ≤ 1048576 := (HSM.out _ (List.getElem_mem hlthc)).2.1.1
            by_cases hltgc : i < x.Kernel.Gates.length
            · skip
              obtain ⟨adg, csgc, eg, _, hKegc, hcellgc⟩ := Kd.C_get (Kd.C_below HG.out (bstep HA.out HB.out)) (⟨0, [], []⟩ : TGate) (i : Int) (by omega) (by omega)
              rw [show (x.Kernel.Gates).getD ((i : Int)).toNat (⟨0, [], []⟩ : TGate) = (x.Kernel.Gates)[i] by simp [List.getD, hltgc]] at hKegc
              have HEgc := Aside0.mk hKegc
              obtain ⟨G0, q0, G1, q1, rfl, _⟩ := kGate_open hKegc
              cases eg
              have gc0 := hcellgc 0 _ rfl
              have gc1 := hcellgc 1 _ rfl
              have gc2 := hcellgc 2 _ rfl
              simp only [Int.toNat_natCast, show kGate.sz = 3 from rfl, add_field _ _ 1 (by omega), add_field _ _ 2 (by omega), Nat.mul_one, Nat.add_zero] at gc0 gc1 gc2
              clear hcellgc hKegc
              have gcA0 := fun o => pw_cell_below (below_alloc (Below.refl wr.heap.size wr) o) gc0
              by_cases ho : x.Kernel.Gates[i].Owner = (k0 : Int)
              · have hob : (x.Kernel.Gates[i].Owner != (k0 : Int)) = false := by simp [ho]
                have HO := Aside0.mk ho
                have dg1 : decide (x.Kernel.Gates.length ≤ i) = false := by simp; omega
                clear ho
                go_wp2
                go_loopw [54] (fun j wr2 => ∃ k : Nat, j = .int .i64 k ∧ k ≤ p.Monitors[i].Vars.length ∧ Aside0 (∀ j, j < k → sharedAt p i j ≠ a) ∧ Aside0 (Below W0.heap.size W0 wr2)) (fun j _ => p.Monitors[i].Vars.length - (intOf j).toNat)
                case atStart => exact ⟨0, rfl, by omega, ⟨fun j h => absurd h (by omega)⟩, ⟨below_alloc HB.out _⟩⟩
                case round =>
                  clear hc0 hc1 hc2 hc3 gc0 gc1 gc2 gcA0 HEgc HEhc hcr hfr HB hsr0 hsr1
                  obtain ⟨k, rfl, hk, HALK, HB⟩ := hrel
                  obtain ⟨hcr, hfr⟩ := bcell HB.out
                  have hsr0 := Nat.lt_of_lt_of_le hs0_0 HB.out.size
                  have hsr1 := Nat.lt_of_lt_of_le hs0_1 HB.out.size
                  by_cases hltsc : k < p.Monitors[i].Vars.length
                  · go_wp2_with fail
                    generalize ha : sharedAt p (i : Int) (k : Int) = s
                    have HAT := Aside0.mk ha
                    (with_reducible refine (implSharedAt.calls _ p _ (kProgram.K_below (bstep HA.out HB.out) HP.out) _ _ HS.out).mono ?_)
                    rw [ha]
                    clear ha
                    rintro e_ w3 ⟨rfl, hb⟩
                    have HB3 := Aside0.mk (bstep HB.out hb)
                    clear hb hcr hfr HB hsr0 hsr1
                    by_cases hx : s = a
                    · subst hx
                      have HR2 := Aside0.mk (HR.out.trans (touchMon_yes hlthc (touchIn_true hltgc hlthc HO.out hltsc HAT.out)))
                      clear HALL HALK HAT H0 HVV HR h0b
                      go_wp2
                      go_ret
                      exact ⟨by rw [HR2.out]; rfl, bstep HA.out HB3.out⟩
                    · have hxb : (a == s) = false := by
                        have h_ : ¬ a = s := fun h => hx h.symm
                        simp [h_]
                      have HX := Aside0.mk hx
                      clear hx
                      go_wp2
                      go_roundw
                      case rel => exact ⟨k + 1, by go_num, by omega, ⟨fun j h => by rcases Nat.lt_succ_iff_lt_or_eq.1 h with h | rfl; exact HALK.out j h; rw [HAT.out]; exact HX.out⟩, HB3⟩
                      case measure => simp [intOf]; omega
                  · have e : k = p.Monitors[i].Vars.length := by omega
                    subst e
                    have HM := Aside0.mk (touchIn_none (x := x) (pid := (k0 : Int)) hlthc HALK.out)
                    go_wp2
                    go_roundw
                    case rel => exact ⟨i + 1, by go_num, by omega, ⟨fun j h => by rcases Nat.lt_succ_iff_lt_or_eq.1 h with h | rfl; exact HALL.out j h; exact HM.out⟩, HB⟩
                    case measure => simp [intOf]; omega
              · have hob : (x.Kernel.Gates[i].Owner != (k0 : Int)) = true := by simp [ho]
                have HM := Aside0.mk (touchIn_other (p := p) (a := a) hltgc ho)
                clear ho
                go_wp2
                go_roundw
                case rel => exact ⟨i + 1, by go_num, by omega, ⟨fun j h => by rcases Nat.lt_succ_iff_lt_or_eq.1 h with h | rfl; exact HALL.out j h; exact HM.out⟩, ⟨below_alloc HB.out _⟩⟩
                case measure => simp [intOf]; omega
            · have HM := Aside0.mk (touchIn_far (p := p) (pid := (k0 : Int)) (a := a) hltgc)
              go_wp2
              go_roundw
              case rel => exact ⟨i + 1, by go_num, by omega, ⟨fun j h => by rcases Nat.lt_succ_iff_lt_or_eq.1 h with h | rfl; exact HALL.out j h; exact HM.out⟩, ⟨below_alloc HB.out _⟩⟩
              case measure => simp [intOf]; omega
          · have e : i = p.Monitors.length := by omega
            subst e
            have HN := Aside0.mk (HR.out.trans (touchMon_none (.inl rfl) HALL.out))
            go_wp2
            go_ret
            exact ⟨by rw [HN.out]; rfl, bstep HA.out HB.out⟩
    · have h1' : inB pid 0 ((p.Processes.length : Int) - 1) = false := by simpa using h1
      have HR := Aside0.mk (mayTouch_out (x := x) h0 h1')
      clear h1
      go_enter Try.func48, Try.ntmps48
      go_wp2_with fail
      simp only [← hW0]
      clear hW0
      go_wp2_with (go_at_call 98; (with_reducible refine (isProcess.calls _ p _ (kProgram.K_below HA.out HP.out) _ hpl).mono ?_); rintro e w1 ⟨rfl, hb⟩; have HB := Aside0.mk hb; clear hb)
      go_ret
      exact ⟨by rw [HR.out]; rfl, bstep HA.out HB.out⟩
end Go.Proofs.Ytgeoipplkjgnfaa
