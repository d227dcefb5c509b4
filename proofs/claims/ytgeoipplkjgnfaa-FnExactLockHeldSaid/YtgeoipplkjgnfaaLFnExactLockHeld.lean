/- The walk of FnExactLockHeld: the call returns true. Condition: the arguments are read from memory. Printed by law.py, this session's own program. -/
import Derived.Test.YtgeoipplkjgnfaaLockHeld
set_option linter.unusedSimpArgs false
set_option linter.unusedVariables false
namespace Go.Proofs.Ytgeoipplkjgnfaa
open Go.RowKit Go.Proofs.YtgeoipplkjgnfaaW.PrintWords Go.Proofs.Ytgeoipplkjgnfaa.Lib
set_option maxHeartbeats 8000000 in
set_option maxRecDepth 100000 in
theorem FnExactLockHeldW.calls (w : World) (x0 : TMachine) (cs0 : List Value) (h0 : kMachine.K w x0 cs0) (q0 : wfMachine x0) :
    Calls Try.prog 7 #[.agg cs0.toArray] w fun e w' => e = .returned (.bool true) ∧ Below w.heap.size w w' := by
  have HK0 := Aside0.mk h0
  obtain ⟨A0_0, c0_0, A0_1, c0_1, A0_2, c0_2, A0_3, c0_3, A0_4, c0_4, A0_5, c0_5, A0_6, c0_6, A0_7, c0_7, A0_8, c0_8, A0_9, c0_9, rfl, _⟩ := kMachine_open h0
  clear h0
  obtain ⟨W0, hW0⟩ : ∃ W0, W0 = w.alloc (.cells #[.slice A0_0 x0.Image.Text.length c0_0, .slice A0_1 x0.Image.Starts.length c0_1, .int .i64 x0.Image.Size, .slice A0_2 x0.Mem.length c0_2, .slice A0_3 x0.Cores.length c0_3, .slice A0_4 x0.Kernel.Gates.length c0_4, .slice A0_5 x0.Kernel.Ready.length c0_5, .slice A0_6 x0.Kernel.Saved.length c0_6, .slice A0_7 x0.Kernel.Over.length c0_7, .slice A0_8 x0.Input.length c0_8, .slice A0_9 x0.Events.length c0_9, .bool x0.Stopped] 63 (0, 0)) := ⟨_, rfl⟩
  have HA := Aside0.mk (show Below w.heap.size w W0 by rw [hW0]; with_reducible repeat (first | apply below_alloc | exact Below.refl _ _))
  have BA0 : W0.heap[w.heap.size]? = some (.cells #[.slice A0_0 x0.Image.Text.length c0_0, .slice A0_1 x0.Image.Starts.length c0_1, .int .i64 x0.Image.Size, .slice A0_2 x0.Mem.length c0_2, .slice A0_3 x0.Cores.length c0_3, .slice A0_4 x0.Kernel.Gates.length c0_4, .slice A0_5 x0.Kernel.Ready.length c0_5, .slice A0_6 x0.Kernel.Saved.length c0_6, .slice A0_7 x0.Kernel.Over.length c0_7, .slice A0_8 x0.Input.length c0_8, .slice A0_9 x0.Events.length c0_9, .bool x0.Stopped] 63 (0, 0)) := by rw [hW0]; exact blk_new _ _
  have hs0 : w.heap.size + 1 ≤ W0.heap.size := by rw [hW0]; simp
  have hBA0 : ∀ i, W0.cell? ⟨w.heap.size, i, none⟩ = (#[.slice A0_0 x0.Image.Text.length c0_0, .slice A0_1 x0.Image.Starts.length c0_1, .int .i64 x0.Image.Size, .slice A0_2 x0.Mem.length c0_2, .slice A0_3 x0.Cores.length c0_3, .slice A0_4 x0.Kernel.Gates.length c0_4, .slice A0_5 x0.Kernel.Ready.length c0_5, .slice A0_6 x0.Kernel.Saved.length c0_6, .slice A0_7 x0.Kernel.Over.length c0_7, .slice A0_8 x0.Input.length c0_8, .slice A0_9 x0.Events.length c0_9, .bool x0.Stopped] : Array Value)[i]? := fun i => blk_cell BA0 i
  have HBA := Aside0.mk (And.intro hs0 trivial)
  have HBA0 := Aside0.mk BA0
  clear BA0
  have hs0_0 : w.heap.size < W0.heap.size := by omega
  clear hs0
  go_enter Try.func7, Try.ntmps7
  go_wp2_with fail
  simp only [← hW0]
  clear hW0
  (with_reducible refine (szMachine.calls _ _ _ _ (kMachine.K_below (bstep HA.out (Below.refl W0.heap.size W0)) HK0.out) (by omega) (by omega)).mono ?_)
  rintro e w1 ⟨r1, rfl, ⟨g1, f1, s1⟩, hb⟩
  have HS0 := Aside0.mk s1
  have HB1 := Aside0.mk (bstep (Below.refl W0.heap.size W0) hb)
  obtain ⟨hc1, hf1⟩ := bcell HB1.out
  have hl1 : W0.heap.size ≤ w1.heap.size := HB1.out.size
  clear hb s1
  go_wp2_with fail
  · go_ret
    exact ⟨rfl, bstep HA.out HB1.out⟩
  (with_reducible refine (toMachine.calls _ x0 _ (kMachine.K_below (bstep HA.out HB1.out) HK0.out) (HS0.out (by omega))).mono ?_)
  rintro e w2 ⟨ds, rfl, hM, hb⟩
  obtain ⟨B0_0, d0_0, B0_1, d0_1, B0_2, d0_2, B0_3, d0_3, B0_4, d0_4, B0_5, d0_5, B0_6, d0_6, B0_7, d0_7, B0_8, d0_8, B0_9, d0_9, rfl, _⟩ := kMachine_open (kMachine.K_of_M hM)
  have HN := Aside0.mk (kMachine.K_of_M hM)
  have HB2 := Aside0.mk (bstep HB1.out hb)
  obtain ⟨hc2, hf2⟩ := bcell HB2.out
  have hl2 : W0.heap.size ≤ w2.heap.size := HB2.out.size
  clear hb hM
  go_wp2_with fail
  (with_reducible refine (specLockHeld.calls _ x0 _ (HN.out)).mono ?_)
  rintro e w3 ⟨rfl, hb⟩
  have HB3 := Aside0.mk (bstep HB2.out hb)
  obtain ⟨hc3, hf3⟩ := bcell HB3.out
  have hl3 : W0.heap.size ≤ w3.heap.size := HB3.out.size
  clear hb HN
  go_wp2_with fail
  (with_reducible refine (toMachine.calls _ x0 _ (kMachine.K_below (bstep HA.out HB3.out) HK0.out) (HS0.out (by omega))).mono ?_)
  rintro e w4 ⟨ds, rfl, hM, hb⟩
  obtain ⟨D0_0, e0_0, D0_1, e0_1, D0_2, e0_2, D0_3, e0_3, D0_4, e0_4, D0_5, e0_5, D0_6, e0_6, D0_7, e0_7, D0_8, e0_8, D0_9, e0_9, rfl, _⟩ := kMachine_open (kMachine.K_of_M hM)
  have HX0 := Aside0.mk (kMachine.K_of_M hM)
  have HB4 := Aside0.mk (bstep HB3.out hb)
  obtain ⟨hc4, hf4⟩ := bcell HB4.out
  have hl4 : W0.heap.size ≤ w4.heap.size := HB4.out.size
  clear hb hM
  go_wp2_with fail
  (with_reducible refine (implLockHeld.calls _ x0 _ (kMachine.K_below (below_alloc (Below.refl _ _) _) HX0.out)).mono ?_)
  rintro e w5 ⟨rfl, hb⟩
  have HB5 := Aside0.mk (bstep (bstep HB4.out (below_alloc (Below.refl _ _) _)) hb)
  obtain ⟨hc5, hf5⟩ := bcell HB5.out
  have hl5 : W0.heap.size ≤ w5.heap.size := HB5.out.size
  have HX0' := Aside0.mk (kMachine.K_below (bstep (below_alloc (Below.refl _ _) _) hb) HX0.out)
  clear HX0
  have HX0 := HX0'
  clear HX0'
  have BX0 := Aside0.mk (blk_below (blk_new _ _) hb)
  clear hb
  go_wp2_with fail
  have HSS0 := Aside0.mk (show ∀ w', Below w5.heap.size w5 w' → w'.cell? ⟨w.heap.size, 0, none⟩ = some (.slice A0_0 x0.Image.Text.length c0_0) ∧ w'.cell? ⟨w.heap.size, 1, none⟩ = some (.slice A0_1 x0.Image.Starts.length c0_1) ∧ w'.cell? ⟨w.heap.size, 2, none⟩ = some (.int .i64 x0.Image.Size) ∧ w'.cell? ⟨w.heap.size, 3, none⟩ = some (.slice A0_2 x0.Mem.length c0_2) ∧ w'.cell? ⟨w.heap.size, 4, none⟩ = some (.slice A0_3 x0.Cores.length c0_3) ∧ w'.cell? ⟨w.heap.size, 5, none⟩ = some (.slice A0_4 x0.Kernel.Gates.length c0_4) ∧ w'.cell? ⟨w.heap.size, 6, none⟩ = some (.slice A0_5 x0.Kernel.Ready.length c0_5) ∧ w'.cell? ⟨w.heap.size, 7, none⟩ = some (.slice A0_6 x0.Kernel.Saved.length c0_6) ∧ w'.cell? ⟨w.heap.size, 8, none⟩ = some (.slice A0_7 x0.Kernel.Over.length c0_7) ∧ w'.cell? ⟨w.heap.size, 9, none⟩ = some (.slice A0_8 x0.Input.length c0_8) ∧ w'.cell? ⟨w.heap.size, 10, none⟩ = some (.slice A0_9 x0.Events.length c0_9) ∧ w'.cell? ⟨w.heap.size, 11, none⟩ = some (.bool x0.Stopped) ∧ w'.cell? ⟨w4.heap.size, 0, none⟩ = some (.slice D0_0 x0.Image.Text.length e0_0) ∧ w'.cell? ⟨w4.heap.size, 1, none⟩ = some (.slice D0_1 x0.Image.Starts.length e0_1) ∧ w'.cell? ⟨w4.heap.size, 2, none⟩ = some (.int .i64 x0.Image.Size) ∧ w'.cell? ⟨w4.heap.size, 3, none⟩ = some (.slice D0_2 x0.Mem.length e0_2) ∧ w'.cell? ⟨w4.heap.size, 4, none⟩ = some (.slice D0_3 x0.Cores.length e0_3) ∧ w'.cell? ⟨w4.heap.size, 5, none⟩ = some (.slice D0_4 x0.Kernel.Gates.length e0_4) ∧ w'.cell? ⟨w4.heap.size, 6, none⟩ = some (.slice D0_5 x0.Kernel.Ready.length e0_5) ∧ w'.cell? ⟨w4.heap.size, 7, none⟩ = some (.slice D0_6 x0.Kernel.Saved.length e0_6) ∧ w'.cell? ⟨w4.heap.size, 8, none⟩ = some (.slice D0_7 x0.Kernel.Over.length e0_7) ∧ w'.cell? ⟨w4.heap.size, 9, none⟩ = some (.slice D0_8 x0.Input.length e0_8) ∧ w'.cell? ⟨w4.heap.size, 10, none⟩ = some (.slice D0_9 x0.Events.length e0_9) ∧ w'.cell? ⟨w4.heap.size, 11, none⟩ = some (.bool x0.Stopped) from fun w' hb => ⟨blk_cell (blk_below HBA0.out (bstep HB5.out hb)) 0, blk_cell (blk_below HBA0.out (bstep HB5.out hb)) 1, blk_cell (blk_below HBA0.out (bstep HB5.out hb)) 2, blk_cell (blk_below HBA0.out (bstep HB5.out hb)) 3, blk_cell (blk_below HBA0.out (bstep HB5.out hb)) 4, blk_cell (blk_below HBA0.out (bstep HB5.out hb)) 5, blk_cell (blk_below HBA0.out (bstep HB5.out hb)) 6, blk_cell (blk_below HBA0.out (bstep HB5.out hb)) 7, blk_cell (blk_below HBA0.out (bstep HB5.out hb)) 8, blk_cell (blk_below HBA0.out (bstep HB5.out hb)) 9, blk_cell (blk_below HBA0.out (bstep HB5.out hb)) 10, blk_cell (blk_below HBA0.out (bstep HB5.out hb)) 11, blk_cell (blk_below BX0.out hb) 0, blk_cell (blk_below BX0.out hb) 1, blk_cell (blk_below BX0.out hb) 2, blk_cell (blk_below BX0.out hb) 3, blk_cell (blk_below BX0.out hb) 4, blk_cell (blk_below BX0.out hb) 5, blk_cell (blk_below BX0.out hb) 6, blk_cell (blk_below BX0.out hb) 7, blk_cell (blk_below BX0.out hb) 8, blk_cell (blk_below BX0.out hb) 9, blk_cell (blk_below BX0.out hb) 10, blk_cell (blk_below BX0.out hb) 11⟩)
  have HBd0 := Aside0.mk (below_drew1 (Below.refl w5.heap.size w5))
  go_region_held3 (fun w' => w'.cell? ⟨w.heap.size, 0, none⟩ = some (.slice A0_0 x0.Image.Text.length c0_0) ∧ w'.cell? ⟨w.heap.size, 1, none⟩ = some (.slice A0_1 x0.Image.Starts.length c0_1) ∧ w'.cell? ⟨w.heap.size, 2, none⟩ = some (.int .i64 x0.Image.Size) ∧ w'.cell? ⟨w.heap.size, 3, none⟩ = some (.slice A0_2 x0.Mem.length c0_2) ∧ w'.cell? ⟨w.heap.size, 4, none⟩ = some (.slice A0_3 x0.Cores.length c0_3) ∧ w'.cell? ⟨w.heap.size, 5, none⟩ = some (.slice A0_4 x0.Kernel.Gates.length c0_4) ∧ w'.cell? ⟨w.heap.size, 6, none⟩ = some (.slice A0_5 x0.Kernel.Ready.length c0_5) ∧ w'.cell? ⟨w.heap.size, 7, none⟩ = some (.slice A0_6 x0.Kernel.Saved.length c0_6) ∧ w'.cell? ⟨w.heap.size, 8, none⟩ = some (.slice A0_7 x0.Kernel.Over.length c0_7) ∧ w'.cell? ⟨w.heap.size, 9, none⟩ = some (.slice A0_8 x0.Input.length c0_8) ∧ w'.cell? ⟨w.heap.size, 10, none⟩ = some (.slice A0_9 x0.Events.length c0_9) ∧ w'.cell? ⟨w.heap.size, 11, none⟩ = some (.bool x0.Stopped) ∧ w'.cell? ⟨w4.heap.size, 0, none⟩ = some (.slice D0_0 x0.Image.Text.length e0_0) ∧ w'.cell? ⟨w4.heap.size, 1, none⟩ = some (.slice D0_1 x0.Image.Starts.length e0_1) ∧ w'.cell? ⟨w4.heap.size, 2, none⟩ = some (.int .i64 x0.Image.Size) ∧ w'.cell? ⟨w4.heap.size, 3, none⟩ = some (.slice D0_2 x0.Mem.length e0_2) ∧ w'.cell? ⟨w4.heap.size, 4, none⟩ = some (.slice D0_3 x0.Cores.length e0_3) ∧ w'.cell? ⟨w4.heap.size, 5, none⟩ = some (.slice D0_4 x0.Kernel.Gates.length e0_4) ∧ w'.cell? ⟨w4.heap.size, 6, none⟩ = some (.slice D0_5 x0.Kernel.Ready.length e0_5) ∧ w'.cell? ⟨w4.heap.size, 7, none⟩ = some (.slice D0_6 x0.Kernel.Saved.length e0_6) ∧ w'.cell? ⟨w4.heap.size, 8, none⟩ = some (.slice D0_7 x0.Kernel.Over.length e0_7) ∧ w'.cell? ⟨w4.heap.size, 9, none⟩ = some (.slice D0_8 x0.Input.length e0_8) ∧ w'.cell? ⟨w4.heap.size, 10, none⟩ = some (.slice D0_9 x0.Events.length e0_9) ∧ w'.cell? ⟨w4.heap.size, 11, none⟩ = some (.bool x0.Stopped)) (first | exact HSS0.out _ HBd0.out | exact HSS0.out _ (Aside0.out (by assumption))) (first
    | (go_at_call 42; (with_reducible refine (toMachine.calls _ x0 _ (kMachine.K_below (bstep HA.out (bstep HB5.out HBd0.out)) HK0.out) (HS0.out (by omega))).mono ?_); rintro e wq ⟨ds, rfl, hM, hb⟩; obtain ⟨B0_0, d0_0, B0_1, d0_1, B0_2, d0_2, B0_3, d0_3, B0_4, d0_4, B0_5, d0_5, B0_6, d0_6, B0_7, d0_7, B0_8, d0_8, B0_9, d0_9, rfl, _⟩ := kMachine_open (kMachine.K_of_M hM); have HN := Aside0.mk (⟨kMachine.K_below (bstep HBd0.out hb) HX0.out, kMachine.K_of_M hM, bstep HBd0.out hb⟩ : kMachine.K _ x0 _ ∧ kMachine.K _ x0 _ ∧ Below w5.heap.size w5 _); have HQ := Aside0.mk (bstep HBd0.out hb); clear hM)
    | (go_at_call 44; obtain ⟨⟨n1, n2, hB⟩⟩ : Aside0 (kMachine.K _ x0 _ ∧ kMachine.K _ x0 _ ∧ Below w5.heap.size w5 _) := (by assumption); (with_reducible refine (eqMachine.calls _ x0 _ _ n1 n2).mono ?_); rintro e wq ⟨rfl, hb⟩; have HQ := Aside0.mk (bstep hB hb)))
  have HI0 : Aside0 (Below w5.heap.size w5 _) := (by assumption)
  go_wp2
  go_ret
  exact ⟨rfl, bstep HA.out (bstep HB5.out HI0.out)⟩
theorem FnExactLockHeldW.walk (W : World) (cs0 : Array Value) (x0 : TMachine) (h0 : kMachine.K W x0 cs0.toList) (q0 : wfMachine x0) :
    Calls Try.prog 7 #[.agg cs0] W fun e w' => e = .returned (.bool true) ∧ Below W.heap.size W w' := by
  have h := FnExactLockHeldW.calls W x0 _ h0 q0
  simp only [Array.toArray_toList] at h
  exact h
end Go.Proofs.Ytgeoipplkjgnfaa
