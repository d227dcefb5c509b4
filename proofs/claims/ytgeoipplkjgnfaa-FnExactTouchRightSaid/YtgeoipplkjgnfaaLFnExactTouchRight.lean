/- The walk of FnExactTouchRight: the call returns true. Condition: the arguments are read from memory. Printed by law.py, this session's own program. -/
import Derived.Test.YtgeoipplkjgnfaaFamP
import Derived.Test.YtgeoipplkjgnfaaFamM
import Derived.Test.YtgeoipplkjgnfaaTouchRightI
set_option linter.unusedSimpArgs false
set_option linter.unusedVariables false
namespace Go.Proofs.Ytgeoipplkjgnfaa
open Go.RowKit Go.Proofs.YtgeoipplkjgnfaaW.PrintWords Go.Proofs.Ytgeoipplkjgnfaa.Lib
set_option maxHeartbeats 8000000 in
set_option maxRecDepth 100000 in
theorem FnExactTouchRightW.calls (w : World) (x0 : TProgram) (cs0 : List Value) (h0 : kProgram.K w x0 cs0) (q0 : wfProgram x0) (x1 : TMachine) (cs1 : List Value) (h1 : kMachine.K w x1 cs1) (q1 : wfMachine x1) (x2 : Int) (w2 : (Lit.int .i64 x2).wf = true) :
    Calls Try.prog 9 #[.agg cs0.toArray, .agg cs1.toArray, .int .i64 x2] w fun e w' => e = .returned (.bool true) ∧ Below w.heap.size w w' := by
  have HK0 := Aside0.mk h0
  obtain ⟨A0_0, c0_0, A0_1, c0_1, A0_2, c0_2, rfl, _⟩ := kProgram_open h0
  clear h0
  have HK1 := Aside0.mk h1
  obtain ⟨A1_0, c1_0, A1_1, c1_1, A1_2, c1_2, A1_3, c1_3, A1_4, c1_4, A1_5, c1_5, A1_6, c1_6, A1_7, c1_7, A1_8, c1_8, A1_9, c1_9, rfl, _⟩ := kMachine_open h1
  clear h1
  obtain ⟨W0, hW0⟩ : ∃ W0, W0 = (w.alloc (.cells #[.slice A0_0 x0.Nodes.length c0_0, .slice A0_1 x0.Monitors.length c0_1, .slice A0_2 x0.Processes.length c0_2] 80 (0, 0))).alloc (.cells #[.slice A1_0 x1.Image.Text.length c1_0, .slice A1_1 x1.Image.Starts.length c1_1, .int .i64 x1.Image.Size, .slice A1_2 x1.Mem.length c1_2, .slice A1_3 x1.Cores.length c1_3, .slice A1_4 x1.Kernel.Gates.length c1_4, .slice A1_5 x1.Kernel.Ready.length c1_5, .slice A1_6 x1.Kernel.Saved.length c1_6, .slice A1_7 x1.Kernel.Over.length c1_7, .slice A1_8 x1.Input.length c1_8, .slice A1_9 x1.Events.length c1_9, .bool x1.Stopped] 63 (0, 0)) := ⟨_, rfl⟩
  have HA := Aside0.mk (show Below w.heap.size w W0 by rw [hW0]; with_reducible repeat (first | apply below_alloc | exact Below.refl _ _))
  have BA0 : W0.heap[w.heap.size]? = some (.cells #[.slice A0_0 x0.Nodes.length c0_0, .slice A0_1 x0.Monitors.length c0_1, .slice A0_2 x0.Processes.length c0_2] 80 (0, 0)) := by rw [hW0]; exact blk_alloc (blk_new _ _) _
  have BA1 : W0.heap[w.heap.size + 1]? = some (.cells #[.slice A1_0 x1.Image.Text.length c1_0, .slice A1_1 x1.Image.Starts.length c1_1, .int .i64 x1.Image.Size, .slice A1_2 x1.Mem.length c1_2, .slice A1_3 x1.Cores.length c1_3, .slice A1_4 x1.Kernel.Gates.length c1_4, .slice A1_5 x1.Kernel.Ready.length c1_5, .slice A1_6 x1.Kernel.Saved.length c1_6, .slice A1_7 x1.Kernel.Over.length c1_7, .slice A1_8 x1.Input.length c1_8, .slice A1_9 x1.Events.length c1_9, .bool x1.Stopped] 63 (0, 0)) := by rw [hW0]; have h_ : ((w).alloc (.cells #[.slice A0_0 x0.Nodes.length c0_0, .slice A0_1 x0.Monitors.length c0_1, .slice A0_2 x0.Processes.length c0_2] 80 (0, 0))).heap.size = w.heap.size + 1 := (by simp); rw [← h_]; exact blk_new _ _
  have hs0 : w.heap.size + 2 ≤ W0.heap.size := by rw [hW0]; simp
  have hBA0 : ∀ i, W0.cell? ⟨w.heap.size, i, none⟩ = (#[.slice A0_0 x0.Nodes.length c0_0, .slice A0_1 x0.Monitors.length c0_1, .slice A0_2 x0.Processes.length c0_2] : Array Value)[i]? := fun i => blk_cell BA0 i
  have hBA1 : ∀ i, W0.cell? ⟨w.heap.size + 1, i, none⟩ = (#[.slice A1_0 x1.Image.Text.length c1_0, .slice A1_1 x1.Image.Starts.length c1_1, .int .i64 x1.Image.Size, .slice A1_2 x1.Mem.length c1_2, .slice A1_3 x1.Cores.length c1_3, .slice A1_4 x1.Kernel.Gates.length c1_4, .slice A1_5 x1.Kernel.Ready.length c1_5, .slice A1_6 x1.Kernel.Saved.length c1_6, .slice A1_7 x1.Kernel.Over.length c1_7, .slice A1_8 x1.Input.length c1_8, .slice A1_9 x1.Events.length c1_9, .bool x1.Stopped] : Array Value)[i]? := fun i => blk_cell BA1 i
  have HBA := Aside0.mk (And.intro hs0 trivial)
  have HBA0 := Aside0.mk BA0
  clear BA0
  have HBA1 := Aside0.mk BA1
  clear BA1
  have hs0_0 : w.heap.size < W0.heap.size := by omega
  have hs0_1 : w.heap.size + 1 < W0.heap.size := by omega
  clear hs0
  go_enter Try.func9, Try.ntmps9
  go_wp2_with fail
  simp only [← hW0]
  clear hW0
  (with_reducible refine (szProgram.calls _ _ _ _ (kProgram.K_below (bstep HA.out (Below.refl W0.heap.size W0)) HK0.out) q0 (by omega) (by omega)).mono ?_)
  rintro e w1 ⟨r1, rfl, ⟨g1, f1, s1⟩, hb⟩
  have HS0 := Aside0.mk s1
  have HB1 := Aside0.mk (bstep (Below.refl W0.heap.size W0) hb)
  obtain ⟨hc1, hf1⟩ := bcell HB1.out
  have hl1 : W0.heap.size ≤ w1.heap.size := HB1.out.size
  have hz1_0 : w.heap.size < w1.heap.size := by omega
  have hz1_1 : w.heap.size + 1 < w1.heap.size := by omega
  clear hb s1
  go_wp2_with fail
  · go_ret
    exact ⟨rfl, bstep HA.out HB1.out⟩
  go_wp2_with fail
  (with_reducible refine (szMachine.calls _ _ _ _ (kMachine.K_below (bstep HA.out HB1.out) HK1.out) (by omega) (by omega)).mono ?_)
  rintro e w2 ⟨r2, rfl, ⟨g2, f2, s2⟩, hb⟩
  have HS1 := Aside0.mk s2
  have HB2 := Aside0.mk (bstep HB1.out hb)
  obtain ⟨hc2, hf2⟩ := bcell HB2.out
  have hl2 : W0.heap.size ≤ w2.heap.size := HB2.out.size
  have hz2_0 : w.heap.size < w2.heap.size := by omega
  have hz2_1 : w.heap.size + 1 < w2.heap.size := by omega
  clear hb s2
  go_wp2_with fail
  · go_ret
    exact ⟨rfl, bstep HA.out HB2.out⟩
  have HSS := Aside0.mk (show ∀ w', Below W0.heap.size W0 w' → w'.cell? ⟨w.heap.size, 0, none⟩ = some (.slice A0_0 x0.Nodes.length c0_0) ∧ w'.cell? ⟨w.heap.size, 1, none⟩ = some (.slice A0_1 x0.Monitors.length c0_1) ∧ w'.cell? ⟨w.heap.size, 2, none⟩ = some (.slice A0_2 x0.Processes.length c0_2) ∧ w'.cell? ⟨w.heap.size + 1, 0, none⟩ = some (.slice A1_0 x1.Image.Text.length c1_0) ∧ w'.cell? ⟨w.heap.size + 1, 1, none⟩ = some (.slice A1_1 x1.Image.Starts.length c1_1) ∧ w'.cell? ⟨w.heap.size + 1, 2, none⟩ = some (.int .i64 x1.Image.Size) ∧ w'.cell? ⟨w.heap.size + 1, 3, none⟩ = some (.slice A1_2 x1.Mem.length c1_2) ∧ w'.cell? ⟨w.heap.size + 1, 4, none⟩ = some (.slice A1_3 x1.Cores.length c1_3) ∧ w'.cell? ⟨w.heap.size + 1, 5, none⟩ = some (.slice A1_4 x1.Kernel.Gates.length c1_4) ∧ w'.cell? ⟨w.heap.size + 1, 6, none⟩ = some (.slice A1_5 x1.Kernel.Ready.length c1_5) ∧ w'.cell? ⟨w.heap.size + 1, 7, none⟩ = some (.slice A1_6 x1.Kernel.Saved.length c1_6) ∧ w'.cell? ⟨w.heap.size + 1, 8, none⟩ = some (.slice A1_7 x1.Kernel.Over.length c1_7) ∧ w'.cell? ⟨w.heap.size + 1, 9, none⟩ = some (.slice A1_8 x1.Input.length c1_8) ∧ w'.cell? ⟨w.heap.size + 1, 10, none⟩ = some (.slice A1_9 x1.Events.length c1_9) ∧ w'.cell? ⟨w.heap.size + 1, 11, none⟩ = some (.bool x1.Stopped) from fun w' hb => ⟨blk_cell (blk_below HBA0.out hb) 0, blk_cell (blk_below HBA0.out hb) 1, blk_cell (blk_below HBA0.out hb) 2, blk_cell (blk_below HBA1.out hb) 0, blk_cell (blk_below HBA1.out hb) 1, blk_cell (blk_below HBA1.out hb) 2, blk_cell (blk_below HBA1.out hb) 3, blk_cell (blk_below HBA1.out hb) 4, blk_cell (blk_below HBA1.out hb) 5, blk_cell (blk_below HBA1.out hb) 6, blk_cell (blk_below HBA1.out hb) 7, blk_cell (blk_below HBA1.out hb) 8, blk_cell (blk_below HBA1.out hb) 9, blk_cell (blk_below HBA1.out hb) 10, blk_cell (blk_below HBA1.out hb) 11⟩)
  have HBd := Aside0.mk (below_drew1 HB2.out)
  go_region_held3 (fun w' => w'.cell? ⟨w.heap.size, 0, none⟩ = some (.slice A0_0 x0.Nodes.length c0_0) ∧ w'.cell? ⟨w.heap.size, 1, none⟩ = some (.slice A0_1 x0.Monitors.length c0_1) ∧ w'.cell? ⟨w.heap.size, 2, none⟩ = some (.slice A0_2 x0.Processes.length c0_2) ∧ w'.cell? ⟨w.heap.size + 1, 0, none⟩ = some (.slice A1_0 x1.Image.Text.length c1_0) ∧ w'.cell? ⟨w.heap.size + 1, 1, none⟩ = some (.slice A1_1 x1.Image.Starts.length c1_1) ∧ w'.cell? ⟨w.heap.size + 1, 2, none⟩ = some (.int .i64 x1.Image.Size) ∧ w'.cell? ⟨w.heap.size + 1, 3, none⟩ = some (.slice A1_2 x1.Mem.length c1_2) ∧ w'.cell? ⟨w.heap.size + 1, 4, none⟩ = some (.slice A1_3 x1.Cores.length c1_3) ∧ w'.cell? ⟨w.heap.size + 1, 5, none⟩ = some (.slice A1_4 x1.Kernel.Gates.length c1_4) ∧ w'.cell? ⟨w.heap.size + 1, 6, none⟩ = some (.slice A1_5 x1.Kernel.Ready.length c1_5) ∧ w'.cell? ⟨w.heap.size + 1, 7, none⟩ = some (.slice A1_6 x1.Kernel.Saved.length c1_6) ∧ w'.cell? ⟨w.heap.size + 1, 8, none⟩ = some (.slice A1_7 x1.Kernel.Over.length c1_7) ∧ w'.cell? ⟨w.heap.size + 1, 9, none⟩ = some (.slice A1_8 x1.Input.length c1_8) ∧ w'.cell? ⟨w.heap.size + 1, 10, none⟩ = some (.slice A1_9 x1.Events.length c1_9) ∧ w'.cell? ⟨w.heap.size + 1, 11, none⟩ = some (.bool x1.Stopped)) (first | exact HSS.out _ HBd.out | exact HSS.out _ (Aside0.out (by assumption))) (first
    | (go_at_call 47; have hB := HBd.out; (with_reducible refine (toProgram.calls _ x0 _ (kProgram.K_below (bstep HA.out hB) HK0.out) (HS0.out (by omega))).mono ?_); rintro e wq ⟨ds, rfl, hM, hb⟩; obtain ⟨B0_0, d0_0, B0_1, d0_1, B0_2, d0_2, rfl, _⟩ := kProgram_open (kProgram.K_of_M hM); have HN := Aside0.mk (⟨kProgram.K_of_M hM, bstep hB hb⟩ : kProgram.K _ x0 _ ∧ Below W0.heap.size W0 _); have HQ := Aside0.mk (bstep hB hb); clear hM)
    | (go_at_call 42; obtain ⟨⟨n0, hB⟩⟩ : Aside0 (kProgram.K _ x0 _ ∧ Below W0.heap.size W0 _) := (by assumption); (with_reducible refine (toMachine.calls _ x1 _ (kMachine.K_below (bstep HA.out hB) HK1.out) (HS1.out (by omega))).mono ?_); rintro e wq ⟨ds, rfl, hM, hb⟩; obtain ⟨B1_0, d1_0, B1_1, d1_1, B1_2, d1_2, B1_3, d1_3, B1_4, d1_4, B1_5, d1_5, B1_6, d1_6, B1_7, d1_7, B1_8, d1_8, B1_9, d1_9, rfl, _⟩ := kMachine_open (kMachine.K_of_M hM); have HN := Aside0.mk (⟨kProgram.K_below hb n0, kMachine.K_of_M hM, bstep hB hb⟩ : kProgram.K _ x0 _ ∧ kMachine.K _ x1 _ ∧ Below W0.heap.size W0 _); have HQ := Aside0.mk (bstep hB hb); clear hM)
    | (go_at_call 50; obtain ⟨⟨n0, n1, hB⟩⟩ : Aside0 (kProgram.K _ x0 _ ∧ kMachine.K _ x1 _ ∧ Below W0.heap.size W0 _) := (by assumption); (with_reducible refine (specTouchRight.calls _ x0 _ (n0) x1 _ (n1) x2 (HS0.out (by omega))).mono ?_); rintro e wq ⟨rfl, hb⟩; have HQ := Aside0.mk (bstep hB hb)))
  have HBs : Aside0 (Below W0.heap.size W0 _) := (by assumption)
  obtain ⟨hcs, hfs⟩ := bcell HBs.out
  have hls : W0.heap.size ≤ _ := HBs.out.size
  have hzs_0 := Nat.lt_of_lt_of_le hs0_0 hls
  have hzs_1 := Nat.lt_of_lt_of_le hs0_1 hls
  go_wp2_with fail
  (with_reducible refine (toProgram.calls _ x0 _ (kProgram.K_below (bstep HA.out HBs.out) HK0.out) (HS0.out (by omega))).mono ?_)
  rintro e w3 ⟨ds, rfl, hM, hb⟩
  obtain ⟨D0_0, e0_0, D0_1, e0_1, D0_2, e0_2, rfl, _⟩ := kProgram_open (kProgram.K_of_M hM)
  have HX0 := Aside0.mk (kProgram.K_of_M hM)
  have HB3 := Aside0.mk (bstep HBs.out hb)
  obtain ⟨hc3, hf3⟩ := bcell HB3.out
  have hl3 : W0.heap.size ≤ w3.heap.size := HB3.out.size
  have hz3_0 : w.heap.size < w3.heap.size := by omega
  have hz3_1 : w.heap.size + 1 < w3.heap.size := by omega
  clear hb hM
  go_wp2_with fail
  (with_reducible refine (toMachine.calls _ x1 _ (kMachine.K_below (bstep HA.out (bstep HB3.out (below_alloc (Below.refl _ _) _))) HK1.out) (HS1.out (by omega))).mono ?_)
  rintro e w4 ⟨ds, rfl, hM, hb⟩
  obtain ⟨D1_0, e1_0, D1_1, e1_1, D1_2, e1_2, D1_3, e1_3, D1_4, e1_4, D1_5, e1_5, D1_6, e1_6, D1_7, e1_7, D1_8, e1_8, D1_9, e1_9, rfl, _⟩ := kMachine_open (kMachine.K_of_M hM)
  have HX1 := Aside0.mk (kMachine.K_of_M hM)
  have HB4 := Aside0.mk (bstep (bstep HB3.out (below_alloc (Below.refl _ _) _)) hb)
  obtain ⟨hc4, hf4⟩ := bcell HB4.out
  have hl4 : W0.heap.size ≤ w4.heap.size := HB4.out.size
  have hz4_0 : w.heap.size < w4.heap.size := by omega
  have hz4_1 : w.heap.size + 1 < w4.heap.size := by omega
  have HX0' := Aside0.mk (kProgram.K_below (bstep (below_alloc (Below.refl _ _) _) hb) HX0.out)
  clear HX0
  have HX0 := HX0'
  clear HX0'
  have BX0 := Aside0.mk (blk_below (blk_new _ _) hb)
  obtain ⟨hcx1, hfx1⟩ := bcell hb
  have hzx1_0 : w3.heap.size < w4.heap.size := (by have := hb.size; (try simp at this); omega)
  clear hb hM
  go_wp2_with fail
  (with_reducible refine (implTouchRight.calls _ x0 _ (kProgram.K_below (below_alloc (Below.refl _ _) _) HX0.out) x1 _ (kMachine.K_below (below_alloc (Below.refl _ _) _) HX1.out) x2 (HS0.out (by omega))).mono ?_)
  rintro e w5 ⟨rfl, hb⟩
  have HB5 := Aside0.mk (bstep (bstep HB4.out (below_alloc (Below.refl _ _) _)) hb)
  obtain ⟨hc5, hf5⟩ := bcell HB5.out
  have hl5 : W0.heap.size ≤ w5.heap.size := HB5.out.size
  have hz5_0 : w.heap.size < w5.heap.size := by omega
  have hz5_1 : w.heap.size + 1 < w5.heap.size := by omega
  have HX0' := Aside0.mk (kProgram.K_below (bstep (below_alloc (Below.refl _ _) _) hb) HX0.out)
  clear HX0
  have HX0 := HX0'
  clear HX0'
  have BX0' := Aside0.mk (blk_below (blk_alloc BX0.out _) hb)
  clear BX0
  have BX0 := BX0'
  clear BX0'
  have HX1' := Aside0.mk (kMachine.K_below (bstep (below_alloc (Below.refl _ _) _) hb) HX1.out)
  clear HX1
  have HX1 := HX1'
  clear HX1'
  have BX1 := Aside0.mk (blk_below (blk_new _ _) hb)
  clear hb
  go_wp2_with fail
  have HSS0 := Aside0.mk (show ∀ w', Below w5.heap.size w5 w' → w'.cell? ⟨w.heap.size, 0, none⟩ = some (.slice A0_0 x0.Nodes.length c0_0) ∧ w'.cell? ⟨w.heap.size, 1, none⟩ = some (.slice A0_1 x0.Monitors.length c0_1) ∧ w'.cell? ⟨w.heap.size, 2, none⟩ = some (.slice A0_2 x0.Processes.length c0_2) ∧ w'.cell? ⟨w3.heap.size, 0, none⟩ = some (.slice D0_0 x0.Nodes.length e0_0) ∧ w'.cell? ⟨w3.heap.size, 1, none⟩ = some (.slice D0_1 x0.Monitors.length e0_1) ∧ w'.cell? ⟨w3.heap.size, 2, none⟩ = some (.slice D0_2 x0.Processes.length e0_2) from fun w' hb => ⟨blk_cell (blk_below HBA0.out (bstep HB5.out hb)) 0, blk_cell (blk_below HBA0.out (bstep HB5.out hb)) 1, blk_cell (blk_below HBA0.out (bstep HB5.out hb)) 2, blk_cell (blk_below BX0.out hb) 0, blk_cell (blk_below BX0.out hb) 1, blk_cell (blk_below BX0.out hb) 2⟩)
  have HBd0 := Aside0.mk (below_drew1 (Below.refl w5.heap.size w5))
  go_region_held3 (fun w' => w'.cell? ⟨w.heap.size, 0, none⟩ = some (.slice A0_0 x0.Nodes.length c0_0) ∧ w'.cell? ⟨w.heap.size, 1, none⟩ = some (.slice A0_1 x0.Monitors.length c0_1) ∧ w'.cell? ⟨w.heap.size, 2, none⟩ = some (.slice A0_2 x0.Processes.length c0_2) ∧ w'.cell? ⟨w3.heap.size, 0, none⟩ = some (.slice D0_0 x0.Nodes.length e0_0) ∧ w'.cell? ⟨w3.heap.size, 1, none⟩ = some (.slice D0_1 x0.Monitors.length e0_1) ∧ w'.cell? ⟨w3.heap.size, 2, none⟩ = some (.slice D0_2 x0.Processes.length e0_2)) (first | exact HSS0.out _ HBd0.out | exact HSS0.out _ (Aside0.out (by assumption))) (first
    | (go_at_call 47; (with_reducible refine (toProgram.calls _ x0 _ (kProgram.K_below (bstep HA.out (bstep HB5.out HBd0.out)) HK0.out) (HS0.out (by omega))).mono ?_); rintro e wq ⟨ds, rfl, hM, hb⟩; obtain ⟨B0_0, d0_0, B0_1, d0_1, B0_2, d0_2, rfl, _⟩ := kProgram_open (kProgram.K_of_M hM); have HN := Aside0.mk (⟨kProgram.K_below (bstep HBd0.out hb) HX0.out, kProgram.K_of_M hM, bstep HBd0.out hb⟩ : kProgram.K _ x0 _ ∧ kProgram.K _ x0 _ ∧ Below w5.heap.size w5 _); have HQ := Aside0.mk (bstep HBd0.out hb); clear hM)
    | (go_at_call 49; obtain ⟨⟨n1, n2, hB⟩⟩ : Aside0 (kProgram.K _ x0 _ ∧ kProgram.K _ x0 _ ∧ Below w5.heap.size w5 _) := (by assumption); (with_reducible refine (eqProgram.calls _ x0 _ _ n1 n2).mono ?_); rintro e wq ⟨rfl, hb⟩; have HQ := Aside0.mk (bstep hB hb)))
  have HI0 : Aside0 (Below w5.heap.size w5 _) := (by assumption)
  go_wp2_with fail
  have HSS1 := Aside0.mk (show ∀ w', Below w5.heap.size w5 w' → w'.cell? ⟨w.heap.size + 1, 0, none⟩ = some (.slice A1_0 x1.Image.Text.length c1_0) ∧ w'.cell? ⟨w.heap.size + 1, 1, none⟩ = some (.slice A1_1 x1.Image.Starts.length c1_1) ∧ w'.cell? ⟨w.heap.size + 1, 2, none⟩ = some (.int .i64 x1.Image.Size) ∧ w'.cell? ⟨w.heap.size + 1, 3, none⟩ = some (.slice A1_2 x1.Mem.length c1_2) ∧ w'.cell? ⟨w.heap.size + 1, 4, none⟩ = some (.slice A1_3 x1.Cores.length c1_3) ∧ w'.cell? ⟨w.heap.size + 1, 5, none⟩ = some (.slice A1_4 x1.Kernel.Gates.length c1_4) ∧ w'.cell? ⟨w.heap.size + 1, 6, none⟩ = some (.slice A1_5 x1.Kernel.Ready.length c1_5) ∧ w'.cell? ⟨w.heap.size + 1, 7, none⟩ = some (.slice A1_6 x1.Kernel.Saved.length c1_6) ∧ w'.cell? ⟨w.heap.size + 1, 8, none⟩ = some (.slice A1_7 x1.Kernel.Over.length c1_7) ∧ w'.cell? ⟨w.heap.size + 1, 9, none⟩ = some (.slice A1_8 x1.Input.length c1_8) ∧ w'.cell? ⟨w.heap.size + 1, 10, none⟩ = some (.slice A1_9 x1.Events.length c1_9) ∧ w'.cell? ⟨w.heap.size + 1, 11, none⟩ = some (.bool x1.Stopped) ∧ w'.cell? ⟨w4.heap.size, 0, none⟩ = some (.slice D1_0 x1.Image.Text.length e1_0) ∧ w'.cell? ⟨w4.heap.size, 1, none⟩ = some (.slice D1_1 x1.Image.Starts.length e1_1) ∧ w'.cell? ⟨w4.heap.size, 2, none⟩ = some (.int .i64 x1.Image.Size) ∧ w'.cell? ⟨w4.heap.size, 3, none⟩ = some (.slice D1_2 x1.Mem.length e1_2) ∧ w'.cell? ⟨w4.heap.size, 4, none⟩ = some (.slice D1_3 x1.Cores.length e1_3) ∧ w'.cell? ⟨w4.heap.size, 5, none⟩ = some (.slice D1_4 x1.Kernel.Gates.length e1_4) ∧ w'.cell? ⟨w4.heap.size, 6, none⟩ = some (.slice D1_5 x1.Kernel.Ready.length e1_5) ∧ w'.cell? ⟨w4.heap.size, 7, none⟩ = some (.slice D1_6 x1.Kernel.Saved.length e1_6) ∧ w'.cell? ⟨w4.heap.size, 8, none⟩ = some (.slice D1_7 x1.Kernel.Over.length e1_7) ∧ w'.cell? ⟨w4.heap.size, 9, none⟩ = some (.slice D1_8 x1.Input.length e1_8) ∧ w'.cell? ⟨w4.heap.size, 10, none⟩ = some (.slice D1_9 x1.Events.length e1_9) ∧ w'.cell? ⟨w4.heap.size, 11, none⟩ = some (.bool x1.Stopped) from fun w' hb => ⟨blk_cell (blk_below HBA1.out (bstep HB5.out hb)) 0, blk_cell (blk_below HBA1.out (bstep HB5.out hb)) 1, blk_cell (blk_below HBA1.out (bstep HB5.out hb)) 2, blk_cell (blk_below HBA1.out (bstep HB5.out hb)) 3, blk_cell (blk_below HBA1.out (bstep HB5.out hb)) 4, blk_cell (blk_below HBA1.out (bstep HB5.out hb)) 5, blk_cell (blk_below HBA1.out (bstep HB5.out hb)) 6, blk_cell (blk_below HBA1.out (bstep HB5.out hb)) 7, blk_cell (blk_below HBA1.out (bstep HB5.out hb)) 8, blk_cell (blk_below HBA1.out (bstep HB5.out hb)) 9, blk_cell (blk_below HBA1.out (bstep HB5.out hb)) 10, blk_cell (blk_below HBA1.out (bstep HB5.out hb)) 11, blk_cell (blk_below BX1.out hb) 0, blk_cell (blk_below BX1.out hb) 1, blk_cell (blk_below BX1.out hb) 2, blk_cell (blk_below BX1.out hb) 3, blk_cell (blk_below BX1.out hb) 4, blk_cell (blk_below BX1.out hb) 5, blk_cell (blk_below BX1.out hb) 6, blk_cell (blk_below BX1.out hb) 7, blk_cell (blk_below BX1.out hb) 8, blk_cell (blk_below BX1.out hb) 9, blk_cell (blk_below BX1.out hb) 10, blk_cell (blk_below BX1.out hb) 11⟩)
  have HBd1 := Aside0.mk (below_drew1 HI0.out)
  go_region_held3 (fun w' => w'.cell? ⟨w.heap.size + 1, 0, none⟩ = some (.slice A1_0 x1.Image.Text.length c1_0) ∧ w'.cell? ⟨w.heap.size + 1, 1, none⟩ = some (.slice A1_1 x1.Image.Starts.length c1_1) ∧ w'.cell? ⟨w.heap.size + 1, 2, none⟩ = some (.int .i64 x1.Image.Size) ∧ w'.cell? ⟨w.heap.size + 1, 3, none⟩ = some (.slice A1_2 x1.Mem.length c1_2) ∧ w'.cell? ⟨w.heap.size + 1, 4, none⟩ = some (.slice A1_3 x1.Cores.length c1_3) ∧ w'.cell? ⟨w.heap.size + 1, 5, none⟩ = some (.slice A1_4 x1.Kernel.Gates.length c1_4) ∧ w'.cell? ⟨w.heap.size + 1, 6, none⟩ = some (.slice A1_5 x1.Kernel.Ready.length c1_5) ∧ w'.cell? ⟨w.heap.size + 1, 7, none⟩ = some (.slice A1_6 x1.Kernel.Saved.length c1_6) ∧ w'.cell? ⟨w.heap.size + 1, 8, none⟩ = some (.slice A1_7 x1.Kernel.Over.length c1_7) ∧ w'.cell? ⟨w.heap.size + 1, 9, none⟩ = some (.slice A1_8 x1.Input.length c1_8) ∧ w'.cell? ⟨w.heap.size + 1, 10, none⟩ = some (.slice A1_9 x1.Events.length c1_9) ∧ w'.cell? ⟨w.heap.size + 1, 11, none⟩ = some (.bool x1.Stopped) ∧ w'.cell? ⟨w4.heap.size, 0, none⟩ = some (.slice D1_0 x1.Image.Text.length e1_0) ∧ w'.cell? ⟨w4.heap.size, 1, none⟩ = some (.slice D1_1 x1.Image.Starts.length e1_1) ∧ w'.cell? ⟨w4.heap.size, 2, none⟩ = some (.int .i64 x1.Image.Size) ∧ w'.cell? ⟨w4.heap.size, 3, none⟩ = some (.slice D1_2 x1.Mem.length e1_2) ∧ w'.cell? ⟨w4.heap.size, 4, none⟩ = some (.slice D1_3 x1.Cores.length e1_3) ∧ w'.cell? ⟨w4.heap.size, 5, none⟩ = some (.slice D1_4 x1.Kernel.Gates.length e1_4) ∧ w'.cell? ⟨w4.heap.size, 6, none⟩ = some (.slice D1_5 x1.Kernel.Ready.length e1_5) ∧ w'.cell? ⟨w4.heap.size, 7, none⟩ = some (.slice D1_6 x1.Kernel.Saved.length e1_6) ∧ w'.cell? ⟨w4.heap.size, 8, none⟩ = some (.slice D1_7 x1.Kernel.Over.length e1_7) ∧ w'.cell? ⟨w4.heap.size, 9, none⟩ = some (.slice D1_8 x1.Input.length e1_8) ∧ w'.cell? ⟨w4.heap.size, 10, none⟩ = some (.slice D1_9 x1.Events.length e1_9) ∧ w'.cell? ⟨w4.heap.size, 11, none⟩ = some (.bool x1.Stopped)) (first | exact HSS1.out _ HBd1.out | exact HSS1.out _ (Aside0.out (by assumption))) (first
    | (go_at_call 42; (with_reducible refine (toMachine.calls _ x1 _ (kMachine.K_below (bstep HA.out (bstep HB5.out HBd1.out)) HK1.out) (HS1.out (by omega))).mono ?_); rintro e wq ⟨ds, rfl, hM, hb⟩; obtain ⟨B1_0, d1_0, B1_1, d1_1, B1_2, d1_2, B1_3, d1_3, B1_4, d1_4, B1_5, d1_5, B1_6, d1_6, B1_7, d1_7, B1_8, d1_8, B1_9, d1_9, rfl, _⟩ := kMachine_open (kMachine.K_of_M hM); have HN := Aside0.mk (⟨kMachine.K_below (bstep HBd1.out hb) HX1.out, kMachine.K_of_M hM, bstep HBd1.out hb⟩ : kMachine.K _ x1 _ ∧ kMachine.K _ x1 _ ∧ Below w5.heap.size w5 _); have HQ := Aside0.mk (bstep HBd1.out hb); clear hM)
    | (go_at_call 44; obtain ⟨⟨n1, n2, hB⟩⟩ : Aside0 (kMachine.K _ x1 _ ∧ kMachine.K _ x1 _ ∧ Below w5.heap.size w5 _) := (by assumption); (with_reducible refine (eqMachine.calls _ x1 _ _ n1 n2).mono ?_); rintro e wq ⟨rfl, hb⟩; have HQ := Aside0.mk (bstep hB hb)))
  have HI1 : Aside0 (Below w5.heap.size w5 _) := (by assumption)
  go_wp2
  go_ret
  exact ⟨rfl, bstep HA.out (bstep HB5.out HI1.out)⟩
theorem FnExactTouchRightW.walk (W : World) (cs0 : Array Value) (x0 : TProgram) (h0 : kProgram.K W x0 cs0.toList) (q0 : wfProgram x0) (cs1 : Array Value) (x1 : TMachine) (h1 : kMachine.K W x1 cs1.toList) (q1 : wfMachine x1) (x2 : Int) (w2 : (Lit.int .i64 x2).wf = true) :
    Calls Try.prog 9 #[.agg cs0, .agg cs1, .int .i64 x2] W fun e w' => e = .returned (.bool true) ∧ Below W.heap.size W w' := by
  have h := FnExactTouchRightW.calls W x0 _ h0 q0 x1 _ h1 q1 x2 w2
  simp only [Array.toArray_toList] at h
  exact h
end Go.Proofs.Ytgeoipplkjgnfaa
