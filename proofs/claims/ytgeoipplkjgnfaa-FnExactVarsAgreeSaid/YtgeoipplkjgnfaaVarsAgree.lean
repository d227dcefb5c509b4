/- Walks of VarsAgree, of the reference and of the program. Condition: what they are given is read from memory, and no list in the program is longer than the statement's bound. -/
import Derived.Test.YtgeoipplkjgnfaaPlaces3
import Derived.Test.YtgeoipplkjgnfaaGetIn
set_option linter.unusedSimpArgs false
set_option linter.unusedVariables false
namespace Go.Proofs.Ytgeoipplkjgnfaa
open Go.RowKit Go.Proofs.YtgeoipplkjgnfaaW.PrintWords Go.Proofs.Ytgeoipplkjgnfaa.Lib

def varOk (p : TProgram) (m : TModel) (x : TMachine) (i k : Nat) : Bool :=
  if (x.Mem.length : Int) ≤ sharedAt p i k then false
  else x.Mem.getD (sharedAt p i k).toNat 0 == getIn (m.Vars.getD i default).Names (m.Vars.getD i default).Vals ((p.Monitors.getD i default).Vars.getD k ByteArray.empty)
def monOk (p : TProgram) (m : TModel) (x : TMachine) (i : Nat) : Bool :=
  decide (i < x.Kernel.Gates.length) && decide (i < m.Vars.length) && (decide (0 ≤ (x.Kernel.Gates.getD i default).Owner) || (List.range (p.Monitors.getD i default).Vars.length).all (varOk p m x i))
def varsAgree (p : TProgram) (m : TModel) (x : TMachine) : Bool := (List.range p.Monitors.length).all (monOk p m x)
theorem varsAgree_no {p : TProgram} {m : TModel} {x : TMachine} (i : Nat) (h : i < p.Monitors.length) (hm : monOk p m x i = false) : varsAgree p m x = false := by
  unfold varsAgree
  rw [List.all_eq_false]
  exact ⟨i, by simpa using h, by simp [hm]⟩
theorem varsAgree_yes {p : TProgram} {m : TModel} {x : TMachine} (h : ∀ i, i < p.Monitors.length → monOk p m x i = true) : varsAgree p m x = true := by
  unfold varsAgree
  rw [List.all_eq_true]
  exact fun i hi => h i (by simpa using hi)
theorem sharedAt_pos (p : TProgram) (i k : Nat) (hi : i < p.Monitors.length) (hk : k < p.Monitors[i].Vars.length) : sharedAt p i k = 1 + sumVars (p.Monitors.take i) + k := by
  unfold sharedAt
  have hmon : monAt p (i : Int) = p.Monitors[i] := by simp [monAt, List.getD, hi]
  rw [hmon, if_pos ⟨inB_iff.2 ⟨by omega, by omega⟩, inB_iff.2 ⟨by omega, by omega⟩⟩]
  simp

theorem kMonitor_vars {w : World} {x : TMonitor} {a v q e : Value} (h : kMonitor.K w x [a, v, q, e]) : SK Kd.string w x.Vars v := by
  obtain ⟨_, _, _, _, _, _, e, h1, _⟩ := kMonitor_open h
  simp only [List.cons.injEq] at e
  rw [e.2.1]
  exact h1
theorem monOk_yes {p : TProgram} {m : TModel} {x : TMachine} {i : Nat} (h1 : i < x.Kernel.Gates.length) (h2 : i < m.Vars.length) (h3 : i < p.Monitors.length) (h : ∀ j, j < p.Monitors[i].Vars.length → varOk p m x i j = true) : monOk p m x i = true := by
  unfold monOk
  have hm : p.Monitors.getD i default = p.Monitors[i] := by simp [List.getD, h3]
  have ha : (List.range p.Monitors[i].Vars.length).all (varOk p m x i) = true := by
    rw [List.all_eq_true]
    exact fun j hj => h j (by simpa using hj)
  rw [hm, ha]
  simp [h1, h2]
theorem monOk_no {p : TProgram} {m : TModel} {x : TMachine} {i : Nat} (h1 : i < x.Kernel.Gates.length) (h2 : i < m.Vars.length) (h3 : i < p.Monitors.length) (ho : ¬ 0 ≤ x.Kernel.Gates[i].Owner) (k : Nat) (hk : k < p.Monitors[i].Vars.length) (h : varOk p m x i k = false) : monOk p m x i = false := by
  unfold monOk
  have hm : p.Monitors.getD i default = p.Monitors[i] := by simp [List.getD, h3]
  have hg : x.Kernel.Gates.getD i default = x.Kernel.Gates[i] := by simp [List.getD, h1]
  have ha : (List.range p.Monitors[i].Vars.length).all (varOk p m x i) = false := by
    rw [List.all_eq_false]
    exact ⟨k, by simpa using hk, by simp [h]⟩
  rw [hm, hg, ha]
  simp [h1, h2]
  omega

set_option maxHeartbeats 8000000 in
set_option maxRecDepth 100000 in
theorem specVarsAgree.calls (w : World) (p : TProgram) (cs : List Value) (h : kProgram.K w p cs) (m : TModel) (ds : List Value) (h' : kModel.K w m ds) (x : TMachine) (es : List Value) (h'' : kMachine.K w x es) (hs : smProgram p) :
    Calls Try.prog 57 #[.agg cs.toArray, .agg ds.toArray, .agg es.toArray] w fun e w' => e = .returned (.bool (varsAgree p m x)) ∧ Below w.heap.size w w' := by
  have HP := Aside0.mk h
  obtain ⟨A0, c0, A1, c1, A2, c2, rfl, HKf0_, HKf1_, HKf2_⟩ := kProgram_open h
  have HK0 := Aside0.mk HKf0_
  have HK1 := Aside0.mk HKf1_
  have HK2 := Aside0.mk HKf2_
  clear HKf0_ HKf1_ HKf2_
  obtain ⟨B0, d0, B1, d1, B2, d2, B3, d3, B4, d4, B5, d5, B6, d6, B7, d7, rfl, HMf0_, HMf1_, HMf2_, HMf3_, HMf4_, HMf5_⟩ := kModel_open h'
  have HM0 := Aside0.mk HMf0_
  have HM1 := Aside0.mk HMf1_
  have HM2 := Aside0.mk HMf2_
  have HM3 := Aside0.mk HMf3_
  have HM4 := Aside0.mk HMf4_
  have HM5 := Aside0.mk HMf5_
  clear HMf0_ HMf1_ HMf2_ HMf3_ HMf4_ HMf5_
  obtain ⟨D0, e0, D1, e1, D2, e2, D3, e3, D4, e4, D5, e5, D6, e6, D7, e7, D8, e8, D9, e9, rfl, HXf0_, HXf1_, HXf2_, HXf3_, HXf4_, HXf5_⟩ := kMachine_open h''
  have HX0 := Aside0.mk HXf0_
  have HX1 := Aside0.mk HXf1_
  have HX2 := Aside0.mk HXf2_
  have HX3 := Aside0.mk HXf3_
  have HX4 := Aside0.mk HXf4_
  have HX5 := Aside0.mk HXf5_
  clear HXf0_ HXf1_ HXf2_ HXf3_ HXf4_ HXf5_
  have hml : p.Monitors.length ≤ 1048576 := hs.2.1.1
  have HSM := Aside0.mk hs.2.1.2
  have HS := Aside0.mk hs
  clear hs h h' h''
  obtain ⟨A_, c_, e_, _, hC⟩ := HK1.out
  cases e_
  have HK := Aside0.mk hC
  clear hC
  obtain ⟨A_, c_, e_, _, hC⟩ := HM3.out
  cases e_
  have HV := Aside0.mk hC
  have hvl : m.Vars.length ≤ 9223372036854775807 := hC.2.1
  clear hC
  obtain ⟨A_, c_, e_, _, hC⟩ := HX1.out
  cases e_
  have HME := Aside0.mk hC
  have hmel : x.Mem.length ≤ 9223372036854775807 := hC.2.1
  clear hC
  obtain ⟨_, _, _, _, _, _, _, _, e_, hg, _⟩ := kKernel_open HX3.out
  simp only [List.cons.injEq, Value.slice.injEq, true_and, and_true] at e_
  obtain ⟨⟨rfl, rfl⟩, ⟨rfl, rfl⟩, ⟨rfl, rfl⟩, rfl, rfl⟩ := e_
  obtain ⟨A_, c_, e_, _, hC⟩ := hg
  cases e_
  have HG := Aside0.mk hC
  have hgl : x.Kernel.Gates.length ≤ 9223372036854775807 := hC.2.1
  clear hC
  clear HK0 HK1 HK2 HM0 HM1 HM2 HM3 HM4 HM5 HX0 HX1 HX2 HX3 HX4 HX5
  obtain ⟨W0, hW0⟩ : ∃ W0, W0 = (((w).alloc (.cells #[.slice A0 p.Nodes.length c0, .slice A1 p.Monitors.length c1, .slice A2 p.Processes.length c2] 87 (0, 0))).alloc (.cells #[.slice B0 m.Program.Nodes.length d0, .slice B1 m.Program.Monitors.length d1, .slice B2 m.Program.Processes.length d2, .slice B3 m.Actors.length d3, .slice B4 m.Gates.length d4, .slice B5 m.Vars.length d5, .slice B6 m.Input.length d6, .slice B7 m.Events.length d7, .bool m.Stopped] 102 (0, 0))).alloc (.cells #[.slice D0 x.Image.Text.length e0, .slice D1 x.Image.Starts.length e1, .int .i64 x.Image.Size, .slice D2 x.Mem.length e2, .slice D3 x.Cores.length e3, .slice D4 x.Kernel.Gates.length e4, .slice D5 x.Kernel.Ready.length e5, .slice D6 x.Kernel.Saved.length e6, .slice D7 x.Kernel.Over.length e7, .slice D8 x.Input.length e8, .slice D9 x.Events.length e9, .bool x.Stopped] 72 (0, 0)) := ⟨_, rfl⟩
  have HA := Aside0.mk (show Below w.heap.size w W0 by rw [hW0]; with_reducible repeat (first | apply below_alloc | exact Below.refl _ _))
  have BA0 : W0.heap[w.heap.size]? = some (.cells #[.slice A0 p.Nodes.length c0, .slice A1 p.Monitors.length c1, .slice A2 p.Processes.length c2] 87 (0, 0)) := by rw [hW0]; exact blk_alloc (blk_alloc (blk_new _ _) _) _
  have hBA0 : ∀ i, W0.cell? ⟨w.heap.size, i, none⟩ = (#[.slice A0 p.Nodes.length c0, .slice A1 p.Monitors.length c1, .slice A2 p.Processes.length c2] : Array Value)[i]? := fun i => blk_cell BA0 i
  have HBA0 := Aside0.mk BA0
  clear BA0
  have BA1 : W0.heap[w.heap.size + 1]? = some (.cells #[.slice B0 m.Program.Nodes.length d0, .slice B1 m.Program.Monitors.length d1, .slice B2 m.Program.Processes.length d2, .slice B3 m.Actors.length d3, .slice B4 m.Gates.length d4, .slice B5 m.Vars.length d5, .slice B6 m.Input.length d6, .slice B7 m.Events.length d7, .bool m.Stopped] 102 (0, 0)) := by rw [hW0]; have h_ : ((w).alloc (.cells #[.slice A0 p.Nodes.length c0, .slice A1 p.Monitors.length c1, .slice A2 p.Processes.length c2] 87 (0, 0))).heap.size = w.heap.size + 1 := (by simp); rw [← h_]; exact blk_alloc (blk_new _ _) _
  have hBA1 : ∀ i, W0.cell? ⟨w.heap.size + 1, i, none⟩ = (#[.slice B0 m.Program.Nodes.length d0, .slice B1 m.Program.Monitors.length d1, .slice B2 m.Program.Processes.length d2, .slice B3 m.Actors.length d3, .slice B4 m.Gates.length d4, .slice B5 m.Vars.length d5, .slice B6 m.Input.length d6, .slice B7 m.Events.length d7, .bool m.Stopped] : Array Value)[i]? := fun i => blk_cell BA1 i
  have HBA1 := Aside0.mk BA1
  clear BA1
  have BA2 : W0.heap[w.heap.size + 2]? = some (.cells #[.slice D0 x.Image.Text.length e0, .slice D1 x.Image.Starts.length e1, .int .i64 x.Image.Size, .slice D2 x.Mem.length e2, .slice D3 x.Cores.length e3, .slice D4 x.Kernel.Gates.length e4, .slice D5 x.Kernel.Ready.length e5, .slice D6 x.Kernel.Saved.length e6, .slice D7 x.Kernel.Over.length e7, .slice D8 x.Input.length e8, .slice D9 x.Events.length e9, .bool x.Stopped] 72 (0, 0)) := by rw [hW0]; have h_ : (((w).alloc (.cells #[.slice A0 p.Nodes.length c0, .slice A1 p.Monitors.length c1, .slice A2 p.Processes.length c2] 87 (0, 0))).alloc (.cells #[.slice B0 m.Program.Nodes.length d0, .slice B1 m.Program.Monitors.length d1, .slice B2 m.Program.Processes.length d2, .slice B3 m.Actors.length d3, .slice B4 m.Gates.length d4, .slice B5 m.Vars.length d5, .slice B6 m.Input.length d6, .slice B7 m.Events.length d7, .bool m.Stopped] 102 (0, 0))).heap.size = w.heap.size + 2 := (by simp); rw [← h_]; exact blk_new _ _
  have hBA2 : ∀ i, W0.cell? ⟨w.heap.size + 2, i, none⟩ = (#[.slice D0 x.Image.Text.length e0, .slice D1 x.Image.Starts.length e1, .int .i64 x.Image.Size, .slice D2 x.Mem.length e2, .slice D3 x.Cores.length e3, .slice D4 x.Kernel.Gates.length e4, .slice D5 x.Kernel.Ready.length e5, .slice D6 x.Kernel.Saved.length e6, .slice D7 x.Kernel.Over.length e7, .slice D8 x.Input.length e8, .slice D9 x.Events.length e9, .bool x.Stopped] : Array Value)[i]? := fun i => blk_cell BA2 i
  have HBA2 := Aside0.mk BA2
  clear BA2
  have hs0 : w.heap.size + 3 ≤ W0.heap.size := by rw [hW0]; simp
  have hs0_0 : w.heap.size < W0.heap.size := by omega
  have hs0_1 : w.heap.size + 1 < W0.heap.size := by omega
  have hs0_2 : w.heap.size + 2 < W0.heap.size := by omega
  clear hs0
  go_enter Try.func57, Try.ntmps57
  go_wp2
  simp only [← hW0]
  clear hW0
  go_loopw [7] (fun i wr => ∃ k : Nat, i = .int .i64 k ∧ k ≤ p.Monitors.length ∧ Aside0 (∀ j, j < k → monOk p m x j = true) ∧ Aside0 (Below W0.heap.size W0 wr)) (fun i _ => p.Monitors.length - (intOf i).toNat)
  case atStart => exact ⟨0, rfl, by omega, ⟨fun j h => absurd h (by omega)⟩, ⟨Below.refl _ _⟩⟩
  case round =>
    obtain ⟨i, rfl, hi, HALL, HB⟩ := hrel
    obtain ⟨hcr, hfr⟩ := bcell HB.out
    by_cases hlthc : i < p.Monitors.length
    · skip
      obtain ⟨ad, cshc, e, _, hKehc, hcellhc⟩ := Kd.C_get (Kd.C_below HK.out (bstep HA.out HB.out)) (⟨ByteArray.empty, [], [], []⟩ : TMonitor) (i : Int) (by omega) (by omega)
      rw [show (p.Monitors).getD ((i : Int)).toNat (⟨ByteArray.empty, [], [], []⟩ : TMonitor) = (p.Monitors)[i] by simp [List.getD, hlthc]] at hKehc
      have HEhc := Aside0.mk hKehc
      obtain ⟨E0, g0, E1, g1, E2, g2, rfl, _⟩ := kMonitor_open hKehc
      cases e
      have hc0 := hcellhc 0 _ rfl
      have hc1 := hcellhc 1 _ rfl
      have hc2 := hcellhc 2 _ rfl
      have hc3 := hcellhc 3 _ rfl
      simp only [Int.toNat_natCast, show kMonitor.sz = 4 from rfl, add_field _ _ 1 (by omega), add_field _ _ 2 (by omega), add_field _ _ 3 (by omega), Nat.mul_one, Nat.add_zero] at hc0 hc1 hc2 hc3
      clear hcellhc hKehc
      by_cases hltgc : i < x.Kernel.Gates.length
      · by_cases hltvc : i < m.Vars.length
        · skip
          obtain ⟨adg, csgc, eg, _, hKegc, hcellgc⟩ := Kd.C_get (Kd.C_below HG.out (bstep HA.out HB.out)) (⟨0, [], []⟩ : TGate) (i : Int) (by omega) (by omega)
          rw [show (x.Kernel.Gates).getD ((i : Int)).toNat (⟨0, [], []⟩ : TGate) = (x.Kernel.Gates)[i] by simp [List.getD, hltgc]] at hKegc
          have HEgc := Aside0.mk hKegc
          obtain ⟨G0, q0, G1, q1, rfl, _⟩ := kGate_open hKegc
          cases eg
          have gc0 := hcellgc 0 _ rfl
          have gc1 := hcellgc 1 _ rfl
          have gc2 := hcellgc 2 _ rfl
          simp only [Int.toNat_natCast, show kGate.sz = 3 from rfl, add_field _ _ 1 (by omega), add_field _ _ 2 (by omega), Nat.mul_one, Nat.add_zero] at gc0 gc1 gc2
          clear hcellgc hKegc
          by_cases ho : 0 ≤ x.Kernel.Gates[i].Owner
          · have hm : monOk p m x i = true := by simp [monOk, hltgc, hltvc, List.getD, ho]
            have HM := Aside0.mk hm
            clear hm
            go_wp2
            go_roundw
            case rel => exact ⟨i + 1, by go_num, by omega, ⟨fun j h => by rcases Nat.lt_succ_iff_lt_or_eq.1 h with h | rfl; exact HALL.out j h; exact HM.out⟩, HB⟩
            case measure => simp [intOf]; omega
          · go_wp2
            go_loopw [8] (fun j wr2 => ∃ k : Nat, j = .int .i64 k ∧ k ≤ p.Monitors[i].Vars.length ∧ Aside0 (∀ j, j < k → varOk p m x i j = true) ∧ Aside0 (Below W0.heap.size W0 wr2)) (fun j _ => p.Monitors[i].Vars.length - (intOf j).toNat)
            case atStart => exact ⟨0, rfl, by omega, ⟨fun j h => absurd h (by omega)⟩, HB⟩
            case round =>
              clear hc0 hc1 hc2 hc3 gc0 gc1 gc2 HEhc HEgc hcr hfr HB
              obtain ⟨k, rfl, hk, HALK, HB⟩ := hrel
              obtain ⟨hcr, hfr⟩ := bcell HB.out
              have hsr0 := Nat.lt_of_lt_of_le hs0_0 HB.out.size
              have hsr1 := Nat.lt_of_lt_of_le hs0_1 HB.out.size
              have hsr2 := Nat.lt_of_lt_of_le hs0_2 HB.out.size
              obtain ⟨ad, cshc, e, _, hKehc, hcellhc⟩ := Kd.C_get (Kd.C_below HK.out (bstep HA.out HB.out)) (⟨ByteArray.empty, [], [], []⟩ : TMonitor) (i : Int) (by omega) (by omega)
              rw [show (p.Monitors).getD ((i : Int)).toNat (⟨ByteArray.empty, [], [], []⟩ : TMonitor) = (p.Monitors)[i] by simp [List.getD, hlthc]] at hKehc
              have HEhc := Aside0.mk hKehc
              obtain ⟨E0, g0, E1, g1, E2, g2, rfl, _⟩ := kMonitor_open hKehc
              cases e
              have hc0 := hcellhc 0 _ rfl
              have hc1 := hcellhc 1 _ rfl
              have hc2 := hcellhc 2 _ rfl
              have hc3 := hcellhc 3 _ rfl
              simp only [Int.toNat_natCast, show kMonitor.sz = 4 from rfl, add_field _ _ 1 (by omega), add_field _ _ 2 (by omega), add_field _ _ 3 (by omega), Nat.mul_one, Nat.add_zero] at hc0 hc1 hc2 hc3
              clear hcellhc hKehc
              have hvarsl : p.Monitors[i].Vars.length ≤ 1048576 := (HSM.out _ (List.getElem_mem hlthc)).2.1.1
              by_cases hltsc : k < p.Monitors[i].Vars.length
              · go_wp2_with fail
                clear hc0 hc1 hc2 hc3 HEhc
                obtain ⟨a, ha⟩ : ∃ a : Nat, sharedAt p (i : Int) (k : Int) = a := ⟨1 + sumVars (p.Monitors.take i) + k, by rw [sharedAt_pos p i k hlthc hltsc]; omega⟩
                have HAT := Aside0.mk ha
                (with_reducible refine (specSharedAt.calls _ p _ (kProgram.K_below (bstep HA.out HB.out) HP.out) _ _ HS.out).mono ?_)
                rw [ha]
                clear ha
                rintro e_ w3 ⟨rfl, hb⟩
                have HB3 := Aside0.mk (bstep HB.out hb)
                clear hb hcr hfr HB
                obtain ⟨hcr, hfr⟩ := bcell HB3.out
                have hsr0 := Nat.lt_of_lt_of_le hs0_0 HB3.out.size
                have hsr1 := Nat.lt_of_lt_of_le hs0_1 HB3.out.size
                have hsr2 := Nat.lt_of_lt_of_le hs0_2 HB3.out.size
                by_cases hltmc : a < x.Mem.length
                · skip
                  obtain ⟨ad, cshc, e, _, hKehc, hcellhc⟩ := Kd.C_get (Kd.C_below HK.out (bstep HA.out HB3.out)) (⟨ByteArray.empty, [], [], []⟩ : TMonitor) (i : Int) (by omega) (by omega)
                  rw [show (p.Monitors).getD ((i : Int)).toNat (⟨ByteArray.empty, [], [], []⟩ : TMonitor) = (p.Monitors)[i] by simp [List.getD, hlthc]] at hKehc
                  have HEhc := Aside0.mk hKehc
                  obtain ⟨E0, g0, E1, g1, E2, g2, rfl, _⟩ := kMonitor_open hKehc
                  cases e
                  have hc0 := hcellhc 0 _ rfl
                  have hc1 := hcellhc 1 _ rfl
                  have hc2 := hcellhc 2 _ rfl
                  have hc3 := hcellhc 3 _ rfl
                  simp only [Int.toNat_natCast, show kMonitor.sz = 4 from rfl, add_field _ _ 1 (by omega), add_field _ _ 2 (by omega), add_field _ _ 3 (by omega), Nat.mul_one, Nat.add_zero] at hc0 hc1 hc2 hc3
                  clear hcellhc hKehc
                  obtain ⟨_, _, e_, _, hCv⟩ := kMonitor_vars HEhc.out
                  cases e_
                  have HVS := Aside0.mk hCv
                  clear hCv
                  have HRF := Aside0.mk (Below.refl w3.heap.size w3)
                  obtain ⟨ads, cssc, e, _, hKesc, hcellsc⟩ := Kd.C_get (Kd.C_below HVS.out HRF.out) (ByteArray.empty : ByteArray) (k : Int) (by omega) (by omega)
                  rw [show (p.Monitors[i].Vars).getD ((k : Int)).toNat (ByteArray.empty : ByteArray) = (p.Monitors[i].Vars)[k] by simp [List.getD, hltsc]] at hKesc
                  obtain rfl : cssc = [.string (p.Monitors[i].Vars)[k]] := hKesc
                  cases e
                  have sc0 := hcellsc 0 _ rfl
                  simp only [Int.toNat_natCast, show Kd.string.sz = 1 from rfl, Nat.mul_one, Nat.add_zero] at sc0
                  clear hcellsc
                  obtain ⟨adm, csmc, e, _, hKemc, hcellmc⟩ := Kd.C_get (Kd.C_below HME.out (bstep HA.out HB3.out)) (0 : Int) (a : Int) (by omega) (by omega)
                  rw [show (x.Mem).getD ((a : Int)).toNat (0 : Int) = (x.Mem)[a] by simp [List.getD, hltmc]] at hKemc
                  obtain rfl : csmc = [.int .i64 (x.Mem)[a]] := hKemc
                  cases e
                  have mc0 := hcellmc 0 _ rfl
                  simp only [Int.toNat_natCast, show (Kd.int .i64).sz = 1 from rfl, Nat.mul_one, Nat.add_zero] at mc0
                  clear hcellmc
                  obtain ⟨adv, csvc, e, _, hKevc, hcellvc⟩ := Kd.C_get (Kd.C_below HV.out (bstep HA.out HB3.out)) (⟨[], []⟩ : TEnv) (i : Int) (by omega) (by omega)
                  rw [show (m.Vars).getD ((i : Int)).toNat (⟨[], []⟩ : TEnv) = (m.Vars)[i] by simp [List.getD, hltvc]] at hKevc
                  have HEvc := Aside0.mk hKevc
                  obtain ⟨V0, vg0, V1, vg1, rfl, _⟩ := kEnv_open hKevc
                  cases e
                  have vc0 := hcellvc 0 _ rfl
                  have vc1 := hcellvc 1 _ rfl
                  simp only [Int.toNat_natCast, show kEnv.sz = 2 from rfl, add_field _ _ 1 (by omega), Nat.mul_one, Nat.add_zero] at vc0 vc1
                  clear hcellvc hKevc
                  have hvo : varOk p m x i k = (x.Mem[a] == getIn m.Vars[i].Names m.Vars[i].Vals p.Monitors[i].Vars[k]) := by
                    unfold varOk
                    rw [HAT.out, if_neg (by omega)]
                    simp [List.getD, hltmc, hltvc, hlthc, hltsc]
                  have HBd := Aside0.mk (below_drew1 (Below.refl w3.heap.size w3))
                  have HSS := Aside0.mk (show ∀ w', Below w3.heap.size w3 w' → w'.cell? ⟨w.heap.size + 2, 3, none⟩ = some (.slice (some adm) x.Mem.length e2) ∧ w'.cell? (adm.add a) = some (.int .i64 x.Mem[a]) ∧ w'.cell? ⟨w.heap.size + 1, 5, none⟩ = some (.slice (some adv) m.Vars.length d5) ∧ w'.cell? (adv.add (i * 2)) = some (.slice V0 m.Vars[i].Names.length vg0) ∧ w'.cell? ⟨(adv.add (i * 2)).block, (adv.add (i * 2)).off + 1, none⟩ = some (.slice V1 m.Vars[i].Vals.length vg1) ∧ w'.cell? ⟨w.heap.size, 1, none⟩ = some (.slice (some ad) p.Monitors.length c1) ∧ w'.cell? ⟨(ad.add (i * 4)).block, (ad.add (i * 4)).off + 1, none⟩ = some (.slice (some ads) p.Monitors[i].Vars.length g0) ∧ w'.cell? (ads.add k) = some (.string p.Monitors[i].Vars[k]) from fun w' hb => ⟨pw_cell_below hb (by rw [hcr _ _ hs0_2]; exact hBA2 3), pw_cell_below hb mc0, pw_cell_below hb (by rw [hcr _ _ hs0_1]; exact hBA1 5), pw_cell_below hb vc0, pw_cell_below hb vc1, pw_cell_below hb (by rw [hcr _ _ hs0_0]; exact hBA0 1), pw_cell_below hb hc1, pw_cell_below hb sc0⟩)
                  have HV2 := HEvc
                  have dm1 : decide ((x.Mem.length : Int) ≤ (a : Int)) = false := by simp; omega
                  have dm2 : decide (x.Mem.length ≤ a) = false := by simp; omega
                  have dm3 : ¬ x.Mem.length ≤ a := by omega
                  generalize hgv : getIn m.Vars[i].Names m.Vars[i].Vals p.Monitors[i].Vars[k] = gv at *
                  have HGV := Aside0.mk hgv
                  have HVO := Aside0.mk hvo
                  clear hgv hvo
                  by_cases hx : x.Mem[a] = gv
                  all_goals
                    first
                      | have e1 : (x.Mem[a] != gv) = false := by simp [hx]
                      | have e1 : (x.Mem[a] != gv) = true := by simp [hx]
                    first
                      | have hv1 : varOk p m x i k = true := by rw [HVO.out]; simp [hx]
                      | have hv1 : varOk p m x i k = false := by rw [HVO.out]; simp [hx]
                    have HV1 := Aside0.mk hv1
                    clear hv1 hx
                    go_wp2
                    go_region_held3 (fun w' => w'.cell? ⟨w.heap.size + 2, 3, none⟩ = some (.slice (some adm) x.Mem.length e2) ∧ w'.cell? (adm.add a) = some (.int .i64 x.Mem[a]) ∧ w'.cell? ⟨w.heap.size + 1, 5, none⟩ = some (.slice (some adv) m.Vars.length d5) ∧ w'.cell? (adv.add (i * 2)) = some (.slice V0 m.Vars[i].Names.length vg0) ∧ w'.cell? ⟨(adv.add (i * 2)).block, (adv.add (i * 2)).off + 1, none⟩ = some (.slice V1 m.Vars[i].Vals.length vg1) ∧ w'.cell? ⟨w.heap.size, 1, none⟩ = some (.slice (some ad) p.Monitors.length c1) ∧ w'.cell? ⟨(ad.add (i * 4)).block, (ad.add (i * 4)).off + 1, none⟩ = some (.slice (some ads) p.Monitors[i].Vars.length g0) ∧ w'.cell? (ads.add k) = some (.string p.Monitors[i].Vars[k])) (first | exact HSS.out _ HBd.out | exact HSS.out _ (Aside0.out (by assumption))) (first
                      | (go_at_call 121; (with_reducible refine (specGetIn.calls _ m.Vars[i] _ (kEnv.K_below HBd.out HEvc.out) _).mono ?_); rw [HGV.out]; rintro e_ wq ⟨rfl, hb⟩; have HQ := Aside0.mk (bstep HBd.out hb)))
                    have HQ2 : Aside0 (Below w3.heap.size w3 _) := (by assumption)
                    have HB4 := Aside0.mk (bstep HB3.out HQ2.out)
                    go_wp2
                  · go_roundw
                    case rel => exact ⟨k + 1, by go_num, by omega, ⟨fun j h => by rcases Nat.lt_succ_iff_lt_or_eq.1 h with h | rfl; exact HALK.out j h; exact HV1.out⟩, HB4⟩
                    case measure => simp [intOf]; omega
                  · go_ret
                    exact ⟨by rw [varsAgree_no i hlthc (monOk_no hltgc hltvc hlthc (by omega) k hltsc HV1.out)]; rfl, bstep HA.out HB4.out⟩
                · have hvo : varOk p m x i k = false := by
                    unfold varOk
                    rw [HAT.out, if_pos (by omega)]
                  have HN := Aside0.mk (varsAgree_no i hlthc (monOk_no hltgc hltvc hlthc (by omega) k hltsc hvo))
                  have hge : (x.Mem.length : Int) ≤ (a : Int) := by omega
                  clear hvo
                  have dm1 : decide ((x.Mem.length : Int) ≤ (a : Int)) = true := by simp; omega
                  have dm2 : decide (x.Mem.length ≤ a) = true := by simp; omega
                  have dm3 : x.Mem.length ≤ a := by omega
                  go_wp2
                  go_quiet (fail)
                  go_wp2
                  go_ret
                  exact ⟨by rw [HN.out]; rfl, bstep HA.out (pw_below_drewN HB3.out _)⟩
              · have e : k = p.Monitors[i].Vars.length := by omega
                subst e
                have HM := Aside0.mk (monOk_yes hltgc hltvc hlthc HALK.out)
                go_wp2
                go_roundw
                case rel => exact ⟨i + 1, by go_num, by omega, ⟨fun j h => by rcases Nat.lt_succ_iff_lt_or_eq.1 h with h | rfl; exact HALL.out j h; exact HM.out⟩, HB⟩
                case measure => simp [intOf]; omega
        · have hm : monOk p m x i = false := by simp [monOk, hltvc]
          have HN := Aside0.mk (varsAgree_no i hlthc hm)
          clear hm
          go_wp2
          go_ret
          exact ⟨by rw [HN.out]; rfl, bstep HA.out HB.out⟩
      · have hm : monOk p m x i = false := by simp [monOk, hltgc]
        have HN := Aside0.mk (varsAgree_no i hlthc hm)
        clear hm
        go_wp2
        go_ret
        exact ⟨by rw [HN.out]; rfl, bstep HA.out HB.out⟩
    · have e : i = p.Monitors.length := by omega
      subst e
      have HN := Aside0.mk (varsAgree_yes HALL.out)
      go_wp2
      go_ret
      exact ⟨by rw [HN.out]; rfl, bstep HA.out HB.out⟩
end Go.Proofs.Ytgeoipplkjgnfaa
