/- Walks of GatesAgree, of the reference and of the program: true if and only if the gates are the same. Condition: what they are given is read from memory. -/
import Derived.Test.YtgeoipplkjgnfaaGatesAgree
set_option linter.unusedSimpArgs false
set_option linter.unusedVariables false
namespace Go.Proofs.Ytgeoipplkjgnfaa
open Go.RowKit Go.Proofs.YtgeoipplkjgnfaaW.PrintWords Go.Proofs.Ytgeoipplkjgnfaa.Lib

set_option maxHeartbeats 8000000 in
set_option maxRecDepth 100000 in
theorem specGatesAgree.calls (w : World) (m : TModel) (ds : List Value) (h' : kModel.K w m ds) (x : TMachine) (es : List Value) (h'' : kMachine.K w x es) :
    Calls Try.prog 53 #[.agg ds.toArray, .agg es.toArray] w fun e w' => e = .returned (.bool (gatesB m.Gates x.Kernel.Gates)) ∧ Below w.heap.size w w' := by
  obtain ⟨B0, d0, B1, d1, B2, d2, B3, d3, B4, d4, B5, d5, B6, d6, B7, d7, rfl, HMf0_, HMf1_, HMf2_, HMf3_, HMf4_, HMf5_⟩ := kModel_open h'
  have HM0 := Aside0.mk HMf0_
  have HM1 := Aside0.mk HMf1_
  have HM2 := Aside0.mk HMf2_
  have HM3 := Aside0.mk HMf3_
  have HM4 := Aside0.mk HMf4_
  have HM5 := Aside0.mk HMf5_
  clear HMf0_ HMf1_ HMf2_ HMf3_ HMf4_ HMf5_
  obtain ⟨D0, e0, D1, e1, D2, e2, D3, e3, D4, e4, D5, e5, D6, e6, D7, e7, D8, e8, D9, e9, rfl, HXf0_, HXf1_, HXf2_, HXf3_, HXf4_, HXf5_⟩ := kMachine_open h''
  have HX0 := Aside0.mk HXf0_
  have HX1 := Aside0.mk HXf1_
  have HX2 := Aside0.mk HXf2_
  have HX3 := Aside0.mk HXf3_
  have HX4 := Aside0.mk HXf4_
  have HX5 := Aside0.mk HXf5_
  clear HXf0_ HXf1_ HXf2_ HXf3_ HXf4_ HXf5_
  clear h' h''
  obtain ⟨A_, c_, e_, _, hC⟩ := HM2.out
  cases e_
  have HK := Aside0.mk hC
  have hn : m.Gates.length ≤ 9223372036854775807 := hC.2.1
  clear hC
  obtain ⟨_, _, _, _, _, _, _, _, e_, hg, _⟩ := kKernel_open HX3.out
  simp only [List.cons.injEq, Value.slice.injEq, true_and, and_true] at e_
  obtain ⟨⟨rfl, rfl⟩, ⟨rfl, rfl⟩, ⟨rfl, rfl⟩, rfl, rfl⟩ := e_
  obtain ⟨A_, c_, e_, _, hC⟩ := hg
  cases e_
  have HG := Aside0.mk hC
  clear hC
  clear HM0 HM1 HM2 HM3 HM4 HM5 HX0 HX1 HX2 HX3 HX4 HX5
  obtain ⟨W0, hW0⟩ : ∃ W0, W0 = ((w).alloc (.cells #[.slice B0 m.Program.Nodes.length d0, .slice B1 m.Program.Monitors.length d1, .slice B2 m.Program.Processes.length d2, .slice B3 m.Actors.length d3, .slice B4 m.Gates.length d4, .slice B5 m.Vars.length d5, .slice B6 m.Input.length d6, .slice B7 m.Events.length d7, .bool m.Stopped] 102 (0, 0))).alloc (.cells #[.slice D0 x.Image.Text.length e0, .slice D1 x.Image.Starts.length e1, .int .i64 x.Image.Size, .slice D2 x.Mem.length e2, .slice D3 x.Cores.length e3, .slice D4 x.Kernel.Gates.length e4, .slice D5 x.Kernel.Ready.length e5, .slice D6 x.Kernel.Saved.length e6, .slice D7 x.Kernel.Over.length e7, .slice D8 x.Input.length e8, .slice D9 x.Events.length e9, .bool x.Stopped] 72 (0, 0)) := ⟨_, rfl⟩
  have HA := Aside0.mk (show Below w.heap.size w W0 by rw [hW0]; with_reducible repeat (first | apply below_alloc | exact Below.refl _ _))
  have BA0 : W0.heap[w.heap.size]? = some (.cells #[.slice B0 m.Program.Nodes.length d0, .slice B1 m.Program.Monitors.length d1, .slice B2 m.Program.Processes.length d2, .slice B3 m.Actors.length d3, .slice B4 m.Gates.length d4, .slice B5 m.Vars.length d5, .slice B6 m.Input.length d6, .slice B7 m.Events.length d7, .bool m.Stopped] 102 (0, 0)) := by rw [hW0]; exact blk_alloc (blk_new _ _) _
  have hBA0 : ∀ i, W0.cell? ⟨w.heap.size, i, none⟩ = (#[.slice B0 m.Program.Nodes.length d0, .slice B1 m.Program.Monitors.length d1, .slice B2 m.Program.Processes.length d2, .slice B3 m.Actors.length d3, .slice B4 m.Gates.length d4, .slice B5 m.Vars.length d5, .slice B6 m.Input.length d6, .slice B7 m.Events.length d7, .bool m.Stopped] : Array Value)[i]? := fun i => blk_cell BA0 i
  have HBA0 := Aside0.mk BA0
  clear BA0
  have BA1 : W0.heap[w.heap.size + 1]? = some (.cells #[.slice D0 x.Image.Text.length e0, .slice D1 x.Image.Starts.length e1, .int .i64 x.Image.Size, .slice D2 x.Mem.length e2, .slice D3 x.Cores.length e3, .slice D4 x.Kernel.Gates.length e4, .slice D5 x.Kernel.Ready.length e5, .slice D6 x.Kernel.Saved.length e6, .slice D7 x.Kernel.Over.length e7, .slice D8 x.Input.length e8, .slice D9 x.Events.length e9, .bool x.Stopped] 72 (0, 0)) := by rw [hW0]; have h_ : ((w).alloc (.cells #[.slice B0 m.Program.Nodes.length d0, .slice B1 m.Program.Monitors.length d1, .slice B2 m.Program.Processes.length d2, .slice B3 m.Actors.length d3, .slice B4 m.Gates.length d4, .slice B5 m.Vars.length d5, .slice B6 m.Input.length d6, .slice B7 m.Events.length d7, .bool m.Stopped] 102 (0, 0))).heap.size = w.heap.size + 1 := (by simp); rw [← h_]; exact blk_new _ _
  have hBA1 : ∀ i, W0.cell? ⟨w.heap.size + 1, i, none⟩ = (#[.slice D0 x.Image.Text.length e0, .slice D1 x.Image.Starts.length e1, .int .i64 x.Image.Size, .slice D2 x.Mem.length e2, .slice D3 x.Cores.length e3, .slice D4 x.Kernel.Gates.length e4, .slice D5 x.Kernel.Ready.length e5, .slice D6 x.Kernel.Saved.length e6, .slice D7 x.Kernel.Over.length e7, .slice D8 x.Input.length e8, .slice D9 x.Events.length e9, .bool x.Stopped] : Array Value)[i]? := fun i => blk_cell BA1 i
  have HBA1 := Aside0.mk BA1
  clear BA1
  have hs0 : w.heap.size + 2 ≤ W0.heap.size := by rw [hW0]; simp
  have hs0_0 : w.heap.size < W0.heap.size := by omega
  have hs0_1 : w.heap.size + 1 < W0.heap.size := by omega
  clear hs0
  by_cases hl : m.Gates.length = x.Kernel.Gates.length
  · have HL := Aside0.mk hl
    have e1_ : ((m.Gates.length : Int) != (x.Kernel.Gates.length : Int)) = false := by rw [hl]; simp
    have e2_ : (m.Gates.length == x.Kernel.Gates.length) = true := by rw [hl]; simp
    clear hl
    go_enter Try.func53, Try.ntmps53
    go_wp2
    simp only [← hW0]
    clear hW0
    go_loopw [5] (fun i wr => ∃ k : Nat, i = .int .i64 k ∧ k ≤ m.Gates.length ∧ Aside0 (∀ j (h1 : j < m.Gates.length) (h2 : j < x.Kernel.Gates.length), j < k → gateB m.Gates[j] x.Kernel.Gates[j] = true) ∧ Aside0 (Below W0.heap.size W0 wr)) (fun i _ => m.Gates.length - (intOf i).toNat)
    case atStart => exact ⟨0, rfl, by omega, ⟨fun j _ _ h => absurd h (by omega)⟩, ⟨Below.refl _ _⟩⟩
    case round =>
      obtain ⟨k, rfl, hk, HE, HB⟩ := hrel
      obtain ⟨hcr, hfr⟩ := bcell HB.out
      have hsr0 := Nat.lt_of_lt_of_le hs0_0 HB.out.size
      have hsr1 := Nat.lt_of_lt_of_le hs0_1 HB.out.size
      by_cases hlthc : k < m.Gates.length
      · have hltgc : k < x.Kernel.Gates.length := by have := HL.out; omega
        obtain ⟨ad, cshc, eg, _, hKehc, hcellhc⟩ := Kd.C_get (Kd.C_below HK.out (bstep HA.out HB.out)) (⟨0, [], []⟩ : TGate) (k : Int) (by omega) (by omega)
        rw [show (m.Gates).getD ((k : Int)).toNat (⟨0, [], []⟩ : TGate) = (m.Gates)[k] by simp [List.getD, hlthc]] at hKehc
        have HEhc := Aside0.mk hKehc
        obtain ⟨E0, g0, E1, g1, rfl, _⟩ := kGate_open hKehc
        cases eg
        have hc0 := hcellhc 0 _ rfl
        have hc1 := hcellhc 1 _ rfl
        have hc2 := hcellhc 2 _ rfl
        simp only [Int.toNat_natCast, show kGate.sz = 3 from rfl, add_field _ _ 1 (by omega), add_field _ _ 2 (by omega), Nat.mul_one, Nat.add_zero] at hc0 hc1 hc2
        clear hcellhc hKehc
        obtain ⟨adg, csgc, eg, _, hKegc, hcellgc⟩ := Kd.C_get (Kd.C_below HG.out (bstep HA.out HB.out)) (⟨0, [], []⟩ : TGate) (k : Int) (by omega) (by omega)
        rw [show (x.Kernel.Gates).getD ((k : Int)).toNat (⟨0, [], []⟩ : TGate) = (x.Kernel.Gates)[k] by simp [List.getD, hltgc]] at hKegc
        have HEgc := Aside0.mk hKegc
        obtain ⟨G0, q0, G1, q1, rfl, _⟩ := kGate_open hKegc
        cases eg
        have gc0 := hcellgc 0 _ rfl
        have gc1 := hcellgc 1 _ rfl
        have gc2 := hcellgc 2 _ rfl
        simp only [Int.toNat_natCast, show kGate.sz = 3 from rfl, add_field _ _ 1 (by omega), add_field _ _ 2 (by omega), Nat.mul_one, Nat.add_zero] at gc0 gc1 gc2
        clear hcellgc hKegc
        have HBd := Aside0.mk (below_drew1 (Below.refl wr.heap.size wr))
        have HSS := Aside0.mk (show ∀ w', Below wr.heap.size wr w' → w'.cell? ⟨w.heap.size, 4, none⟩ = some (.slice (some ad) m.Gates.length d4) ∧ w'.cell? ⟨w.heap.size + 1, 5, none⟩ = some (.slice (some adg) x.Kernel.Gates.length e4) ∧ w'.cell? (ad.add (k * 3)) = some (.int .i64 m.Gates[k].Owner) ∧ w'.cell? ⟨(ad.add (k * 3)).block, (ad.add (k * 3)).off + 1, none⟩ = some (.slice E0 m.Gates[k].Waits.length g0) ∧ w'.cell? ⟨(ad.add (k * 3)).block, (ad.add (k * 3)).off + 2, none⟩ = some (.slice E1 m.Gates[k].Queues.length g1) ∧ w'.cell? (adg.add (k * 3)) = some (.int .i64 x.Kernel.Gates[k].Owner) ∧ w'.cell? ⟨(adg.add (k * 3)).block, (adg.add (k * 3)).off + 1, none⟩ = some (.slice G0 x.Kernel.Gates[k].Waits.length q0) ∧ w'.cell? ⟨(adg.add (k * 3)).block, (adg.add (k * 3)).off + 2, none⟩ = some (.slice G1 x.Kernel.Gates[k].Queues.length q1) from fun w' hb => ⟨pw_cell_below hb (by rw [hcr _ _ hs0_0]; exact hBA0 4), pw_cell_below hb (by rw [hcr _ _ hs0_1]; exact hBA1 5), pw_cell_below hb hc0, pw_cell_below hb hc1, pw_cell_below hb hc2, pw_cell_below hb gc0, pw_cell_below hb gc1, pw_cell_below hb gc2⟩)
        generalize hgb : gateB m.Gates[k] x.Kernel.Gates[k] = gb at *
        have HGB := Aside0.mk hgb
        clear hgb
        go_wp2
        go_region_held3 (fun w' => w'.cell? ⟨w.heap.size, 4, none⟩ = some (.slice (some ad) m.Gates.length d4) ∧ w'.cell? ⟨w.heap.size + 1, 5, none⟩ = some (.slice (some adg) x.Kernel.Gates.length e4) ∧ w'.cell? (ad.add (k * 3)) = some (.int .i64 m.Gates[k].Owner) ∧ w'.cell? ⟨(ad.add (k * 3)).block, (ad.add (k * 3)).off + 1, none⟩ = some (.slice E0 m.Gates[k].Waits.length g0) ∧ w'.cell? ⟨(ad.add (k * 3)).block, (ad.add (k * 3)).off + 2, none⟩ = some (.slice E1 m.Gates[k].Queues.length g1) ∧ w'.cell? (adg.add (k * 3)) = some (.int .i64 x.Kernel.Gates[k].Owner) ∧ w'.cell? ⟨(adg.add (k * 3)).block, (adg.add (k * 3)).off + 1, none⟩ = some (.slice G0 x.Kernel.Gates[k].Waits.length q0) ∧ w'.cell? ⟨(adg.add (k * 3)).block, (adg.add (k * 3)).off + 2, none⟩ = some (.slice G1 x.Kernel.Gates[k].Queues.length q1)) (first | exact HSS.out _ HBd.out | exact HSS.out _ (Aside0.out (by assumption))) (first
          | (go_at_call 112; (with_reducible refine (specGate.calls _ m.Gates[k] _ (kGate.K_below HBd.out HEhc.out) x.Kernel.Gates[k] _ (kGate.K_below HBd.out HEgc.out)).mono ?_); rw [HGB.out]; rintro e_ wq ⟨rfl, hb⟩; have HQ := Aside0.mk (bstep HBd.out hb)))
        have HQ2 : Aside0 (Below wr.heap.size wr _) := (by assumption)
        have HB4 := Aside0.mk (bstep HB.out HQ2.out)
        cases gb
        · have HN := Aside0.mk (gatesB_at k hlthc hltgc HGB.out)
          go_wp2
          go_ret
          exact ⟨by rw [HN.out]; rfl, bstep HA.out HB4.out⟩
        · go_wp2
          go_roundw
          case rel => exact ⟨k + 1, by go_num, by omega, ⟨fun j h1 h2 h => by rcases Nat.lt_succ_iff_lt_or_eq.1 h with h | rfl; exact HE.out j h1 h2 h; exact HGB.out⟩, HB4⟩
          case measure => simp [intOf]; omega
      · have e : k = m.Gates.length := by omega
        subst e
        have HN := Aside0.mk (gatesB_all HL.out fun j h1 h2 => HE.out j h1 h2 h1)
        go_wp2
        go_ret
        exact ⟨by rw [HN.out]; rfl, bstep HA.out HB.out⟩
  · have HN := Aside0.mk (gatesB_len hl)
    have e1_ : ((m.Gates.length : Int) != (x.Kernel.Gates.length : Int)) = true := by
      have h_ : ¬ (m.Gates.length : Int) = (x.Kernel.Gates.length : Int) := by omega
      simp [h_]
    have e2_ : (m.Gates.length == x.Kernel.Gates.length) = false := by simp [hl]
    go_enter Try.func53, Try.ntmps53
    go_wp2
    go_ret
    exact ⟨by rw [HN.out]; rfl, by rw [← hW0]; exact HA.out⟩
end Go.Proofs.Ytgeoipplkjgnfaa
