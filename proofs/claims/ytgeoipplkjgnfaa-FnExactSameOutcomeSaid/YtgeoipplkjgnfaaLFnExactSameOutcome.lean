/- The walk of FnExactSameOutcome: the call returns true. Condition: the arguments are read from memory. Printed by law.py, this session's own program. -/
import Derived.Test.YtgeoipplkjgnfaaSameOutcome
set_option linter.unusedSimpArgs false
set_option linter.unusedVariables false
namespace Go.Proofs.Ytgeoipplkjgnfaa
open Go.RowKit Go.Proofs.YtgeoipplkjgnfaaW.PrintWords Go.Proofs.Ytgeoipplkjgnfaa.Lib
set_option maxHeartbeats 8000000 in
set_option maxRecDepth 100000 in
theorem FnExactSameOutcomeW.calls (w : World) (x0 : TOutcome) (cs0 : List Value) (h0 : kOutcome.K w x0 cs0) (q0 : wfOutcome x0) (x1 : TOutcome) (cs1 : List Value) (h1 : kOutcome.K w x1 cs1) (q1 : wfOutcome x1) :
    Calls Try.prog 4 #[.agg cs0.toArray, .agg cs1.toArray] w fun e w' => e = .returned (.bool true) ∧ Below w.heap.size w w' := by
  have HK0 := Aside0.mk h0
  obtain ⟨A0_0, c0_0, rfl, _⟩ := kOutcome_open h0
  clear h0
  have HK1 := Aside0.mk h1
  obtain ⟨A1_0, c1_0, rfl, _⟩ := kOutcome_open h1
  clear h1
  obtain ⟨W0, hW0⟩ : ∃ W0, W0 = (w.alloc (.cells #[.int .i64 x0.Fault, .int .i64 x0.Code, .int .i64 x0.Verdict, .slice A0_0 x0.Prints.length c0_0, .int .i64 x0.Events] 31 (0, 0))).alloc (.cells #[.int .i64 x1.Fault, .int .i64 x1.Code, .int .i64 x1.Verdict, .slice A1_0 x1.Prints.length c1_0, .int .i64 x1.Events] 31 (0, 0)) := ⟨_, rfl⟩
  have HA := Aside0.mk (show Below w.heap.size w W0 by rw [hW0]; with_reducible repeat (first | apply below_alloc | exact Below.refl _ _))
  have BA0 : W0.heap[w.heap.size]? = some (.cells #[.int .i64 x0.Fault, .int .i64 x0.Code, .int .i64 x0.Verdict, .slice A0_0 x0.Prints.length c0_0, .int .i64 x0.Events] 31 (0, 0)) := by rw [hW0]; exact blk_alloc (blk_new _ _) _
  have BA1 : W0.heap[w.heap.size + 1]? = some (.cells #[.int .i64 x1.Fault, .int .i64 x1.Code, .int .i64 x1.Verdict, .slice A1_0 x1.Prints.length c1_0, .int .i64 x1.Events] 31 (0, 0)) := by rw [hW0]; have h_ : ((w).alloc (.cells #[.int .i64 x0.Fault, .int .i64 x0.Code, .int .i64 x0.Verdict, .slice A0_0 x0.Prints.length c0_0, .int .i64 x0.Events] 31 (0, 0))).heap.size = w.heap.size + 1 := (by simp); rw [← h_]; exact blk_new _ _
  have hs0 : w.heap.size + 2 ≤ W0.heap.size := by rw [hW0]; simp
  have hBA0 : ∀ i, W0.cell? ⟨w.heap.size, i, none⟩ = (#[.int .i64 x0.Fault, .int .i64 x0.Code, .int .i64 x0.Verdict, .slice A0_0 x0.Prints.length c0_0, .int .i64 x0.Events] : Array Value)[i]? := fun i => blk_cell BA0 i
  have hBA1 : ∀ i, W0.cell? ⟨w.heap.size + 1, i, none⟩ = (#[.int .i64 x1.Fault, .int .i64 x1.Code, .int .i64 x1.Verdict, .slice A1_0 x1.Prints.length c1_0, .int .i64 x1.Events] : Array Value)[i]? := fun i => blk_cell BA1 i
  have HBA := Aside0.mk (And.intro hs0 trivial)
  have HBA0 := Aside0.mk BA0
  clear BA0
  have HBA1 := Aside0.mk BA1
  clear BA1
  have hs0_0 : w.heap.size < W0.heap.size := by omega
  have hs0_1 : w.heap.size + 1 < W0.heap.size := by omega
  clear hs0
  go_enter Try.func4, Try.ntmps4
  go_wp2_with fail
  simp only [← hW0]
  clear hW0
  (with_reducible refine (szOutcome.calls _ _ _ _ (kOutcome.K_below (bstep HA.out (Below.refl W0.heap.size W0)) HK0.out) (by omega) (by omega)).mono ?_)
  rintro e w1 ⟨r1, rfl, ⟨g1, f1, s1⟩, hb⟩
  have HS0 := Aside0.mk s1
  have HB1 := Aside0.mk (bstep (Below.refl W0.heap.size W0) hb)
  obtain ⟨hc1, hf1⟩ := bcell HB1.out
  have hl1 : W0.heap.size ≤ w1.heap.size := HB1.out.size
  have hz1_0 : w.heap.size < w1.heap.size := by omega
  have hz1_1 : w.heap.size + 1 < w1.heap.size := by omega
  clear hb s1
  go_wp2_with fail
  · go_ret
    exact ⟨rfl, bstep HA.out HB1.out⟩
  go_wp2_with fail
  (with_reducible refine (szOutcome.calls _ _ _ _ (kOutcome.K_below (bstep HA.out HB1.out) HK1.out) (by omega) (by omega)).mono ?_)
  rintro e w2 ⟨r2, rfl, ⟨g2, f2, s2⟩, hb⟩
  have HS1 := Aside0.mk s2
  have HB2 := Aside0.mk (bstep HB1.out hb)
  obtain ⟨hc2, hf2⟩ := bcell HB2.out
  have hl2 : W0.heap.size ≤ w2.heap.size := HB2.out.size
  have hz2_0 : w.heap.size < w2.heap.size := by omega
  have hz2_1 : w.heap.size + 1 < w2.heap.size := by omega
  clear hb s2
  go_wp2_with fail
  · go_ret
    exact ⟨rfl, bstep HA.out HB2.out⟩
  have HSS := Aside0.mk (show ∀ w', Below W0.heap.size W0 w' → w'.cell? ⟨w.heap.size, 0, none⟩ = some (.int .i64 x0.Fault) ∧ w'.cell? ⟨w.heap.size, 1, none⟩ = some (.int .i64 x0.Code) ∧ w'.cell? ⟨w.heap.size, 2, none⟩ = some (.int .i64 x0.Verdict) ∧ w'.cell? ⟨w.heap.size, 3, none⟩ = some (.slice A0_0 x0.Prints.length c0_0) ∧ w'.cell? ⟨w.heap.size, 4, none⟩ = some (.int .i64 x0.Events) ∧ w'.cell? ⟨w.heap.size + 1, 0, none⟩ = some (.int .i64 x1.Fault) ∧ w'.cell? ⟨w.heap.size + 1, 1, none⟩ = some (.int .i64 x1.Code) ∧ w'.cell? ⟨w.heap.size + 1, 2, none⟩ = some (.int .i64 x1.Verdict) ∧ w'.cell? ⟨w.heap.size + 1, 3, none⟩ = some (.slice A1_0 x1.Prints.length c1_0) ∧ w'.cell? ⟨w.heap.size + 1, 4, none⟩ = some (.int .i64 x1.Events) from fun w' hb => ⟨blk_cell (blk_below HBA0.out hb) 0, blk_cell (blk_below HBA0.out hb) 1, blk_cell (blk_below HBA0.out hb) 2, blk_cell (blk_below HBA0.out hb) 3, blk_cell (blk_below HBA0.out hb) 4, blk_cell (blk_below HBA1.out hb) 0, blk_cell (blk_below HBA1.out hb) 1, blk_cell (blk_below HBA1.out hb) 2, blk_cell (blk_below HBA1.out hb) 3, blk_cell (blk_below HBA1.out hb) 4⟩)
  have HBd := Aside0.mk (below_drew1 HB2.out)
  go_region_held3 (fun w' => w'.cell? ⟨w.heap.size, 0, none⟩ = some (.int .i64 x0.Fault) ∧ w'.cell? ⟨w.heap.size, 1, none⟩ = some (.int .i64 x0.Code) ∧ w'.cell? ⟨w.heap.size, 2, none⟩ = some (.int .i64 x0.Verdict) ∧ w'.cell? ⟨w.heap.size, 3, none⟩ = some (.slice A0_0 x0.Prints.length c0_0) ∧ w'.cell? ⟨w.heap.size, 4, none⟩ = some (.int .i64 x0.Events) ∧ w'.cell? ⟨w.heap.size + 1, 0, none⟩ = some (.int .i64 x1.Fault) ∧ w'.cell? ⟨w.heap.size + 1, 1, none⟩ = some (.int .i64 x1.Code) ∧ w'.cell? ⟨w.heap.size + 1, 2, none⟩ = some (.int .i64 x1.Verdict) ∧ w'.cell? ⟨w.heap.size + 1, 3, none⟩ = some (.slice A1_0 x1.Prints.length c1_0) ∧ w'.cell? ⟨w.heap.size + 1, 4, none⟩ = some (.int .i64 x1.Events)) (first | exact HSS.out _ HBd.out | exact HSS.out _ (Aside0.out (by assumption))) (first
    | (go_at_call 19; have hB := HBd.out; (with_reducible refine (toOutcome.calls _ x0 _ (kOutcome.K_below (bstep HA.out hB) HK0.out) (HS0.out (by omega))).mono ?_); rintro e wq ⟨ds, rfl, hM, hb⟩; obtain ⟨B0_0, d0_0, rfl, _⟩ := kOutcome_open (kOutcome.K_of_M hM); have HN := Aside0.mk (⟨kOutcome.K_of_M hM, bstep hB hb⟩ : kOutcome.K _ x0 _ ∧ Below W0.heap.size W0 _); have HQ := Aside0.mk (bstep hB hb); clear hM)
    | (go_at_call 19; obtain ⟨⟨n0, hB⟩⟩ : Aside0 (kOutcome.K _ x0 _ ∧ Below W0.heap.size W0 _) := (by assumption); (with_reducible refine (toOutcome.calls _ x1 _ (kOutcome.K_below (bstep HA.out hB) HK1.out) (HS1.out (by omega))).mono ?_); rintro e wq ⟨ds, rfl, hM, hb⟩; obtain ⟨B1_0, d1_0, rfl, _⟩ := kOutcome_open (kOutcome.K_of_M hM); have HN := Aside0.mk (⟨kOutcome.K_below hb n0, kOutcome.K_of_M hM, bstep hB hb⟩ : kOutcome.K _ x0 _ ∧ kOutcome.K _ x1 _ ∧ Below W0.heap.size W0 _); have HQ := Aside0.mk (bstep hB hb); clear hM)
    | (go_at_call 18; obtain ⟨⟨n0, n1, hB⟩⟩ : Aside0 (kOutcome.K _ x0 _ ∧ kOutcome.K _ x1 _ ∧ Below W0.heap.size W0 _) := (by assumption); (with_reducible refine (specSameOutcome.calls _ x0 _ (n0) x1 _ (n1)).mono ?_); rintro e wq ⟨rfl, hb⟩; have HQ := Aside0.mk (bstep hB hb)))
  have HBs : Aside0 (Below W0.heap.size W0 _) := (by assumption)
  obtain ⟨hcs, hfs⟩ := bcell HBs.out
  have hls : W0.heap.size ≤ _ := HBs.out.size
  have hzs_0 := Nat.lt_of_lt_of_le hs0_0 hls
  have hzs_1 := Nat.lt_of_lt_of_le hs0_1 hls
  go_wp2_with fail
  (with_reducible refine (toOutcome.calls _ x0 _ (kOutcome.K_below (bstep HA.out HBs.out) HK0.out) (HS0.out (by omega))).mono ?_)
  rintro e w3 ⟨ds, rfl, hM, hb⟩
  obtain ⟨D0_0, e0_0, rfl, _⟩ := kOutcome_open (kOutcome.K_of_M hM)
  have HX0 := Aside0.mk (kOutcome.K_of_M hM)
  have HB3 := Aside0.mk (bstep HBs.out hb)
  obtain ⟨hc3, hf3⟩ := bcell HB3.out
  have hl3 : W0.heap.size ≤ w3.heap.size := HB3.out.size
  have hz3_0 : w.heap.size < w3.heap.size := by omega
  have hz3_1 : w.heap.size + 1 < w3.heap.size := by omega
  clear hb hM
  go_wp2_with fail
  (with_reducible refine (toOutcome.calls _ x1 _ (kOutcome.K_below (bstep HA.out (bstep HB3.out (below_alloc (Below.refl _ _) _))) HK1.out) (HS1.out (by omega))).mono ?_)
  rintro e w4 ⟨ds, rfl, hM, hb⟩
  obtain ⟨D1_0, e1_0, rfl, _⟩ := kOutcome_open (kOutcome.K_of_M hM)
  have HX1 := Aside0.mk (kOutcome.K_of_M hM)
  have HB4 := Aside0.mk (bstep (bstep HB3.out (below_alloc (Below.refl _ _) _)) hb)
  obtain ⟨hc4, hf4⟩ := bcell HB4.out
  have hl4 : W0.heap.size ≤ w4.heap.size := HB4.out.size
  have hz4_0 : w.heap.size < w4.heap.size := by omega
  have hz4_1 : w.heap.size + 1 < w4.heap.size := by omega
  have HX0' := Aside0.mk (kOutcome.K_below (bstep (below_alloc (Below.refl _ _) _) hb) HX0.out)
  clear HX0
  have HX0 := HX0'
  clear HX0'
  have BX0 := Aside0.mk (blk_below (blk_new _ _) hb)
  obtain ⟨hcx1, hfx1⟩ := bcell hb
  have hzx1_0 : w3.heap.size < w4.heap.size := (by have := hb.size; (try simp at this); omega)
  clear hb hM
  go_wp2_with fail
  (with_reducible refine (implSameOutcome.calls _ x0 _ (kOutcome.K_below (below_alloc (Below.refl _ _) _) HX0.out) x1 _ (kOutcome.K_below (below_alloc (Below.refl _ _) _) HX1.out)).mono ?_)
  rintro e w5 ⟨rfl, hb⟩
  have HB5 := Aside0.mk (bstep (bstep HB4.out (below_alloc (Below.refl _ _) _)) hb)
  obtain ⟨hc5, hf5⟩ := bcell HB5.out
  have hl5 : W0.heap.size ≤ w5.heap.size := HB5.out.size
  have hz5_0 : w.heap.size < w5.heap.size := by omega
  have hz5_1 : w.heap.size + 1 < w5.heap.size := by omega
  have HX0' := Aside0.mk (kOutcome.K_below (bstep (below_alloc (Below.refl _ _) _) hb) HX0.out)
  clear HX0
  have HX0 := HX0'
  clear HX0'
  have BX0' := Aside0.mk (blk_below (blk_alloc BX0.out _) hb)
  clear BX0
  have BX0 := BX0'
  clear BX0'
  have HX1' := Aside0.mk (kOutcome.K_below (bstep (below_alloc (Below.refl _ _) _) hb) HX1.out)
  clear HX1
  have HX1 := HX1'
  clear HX1'
  have BX1 := Aside0.mk (blk_below (blk_new _ _) hb)
  clear hb
  go_wp2_with fail
  have HSS0 := Aside0.mk (show ∀ w', Below w5.heap.size w5 w' → w'.cell? ⟨w.heap.size, 0, none⟩ = some (.int .i64 x0.Fault) ∧ w'.cell? ⟨w.heap.size, 1, none⟩ = some (.int .i64 x0.Code) ∧ w'.cell? ⟨w.heap.size, 2, none⟩ = some (.int .i64 x0.Verdict) ∧ w'.cell? ⟨w.heap.size, 3, none⟩ = some (.slice A0_0 x0.Prints.length c0_0) ∧ w'.cell? ⟨w.heap.size, 4, none⟩ = some (.int .i64 x0.Events) ∧ w'.cell? ⟨w3.heap.size, 0, none⟩ = some (.int .i64 x0.Fault) ∧ w'.cell? ⟨w3.heap.size, 1, none⟩ = some (.int .i64 x0.Code) ∧ w'.cell? ⟨w3.heap.size, 2, none⟩ = some (.int .i64 x0.Verdict) ∧ w'.cell? ⟨w3.heap.size, 3, none⟩ = some (.slice D0_0 x0.Prints.length e0_0) ∧ w'.cell? ⟨w3.heap.size, 4, none⟩ = some (.int .i64 x0.Events) from fun w' hb => ⟨blk_cell (blk_below HBA0.out (bstep HB5.out hb)) 0, blk_cell (blk_below HBA0.out (bstep HB5.out hb)) 1, blk_cell (blk_below HBA0.out (bstep HB5.out hb)) 2, blk_cell (blk_below HBA0.out (bstep HB5.out hb)) 3, blk_cell (blk_below HBA0.out (bstep HB5.out hb)) 4, blk_cell (blk_below BX0.out hb) 0, blk_cell (blk_below BX0.out hb) 1, blk_cell (blk_below BX0.out hb) 2, blk_cell (blk_below BX0.out hb) 3, blk_cell (blk_below BX0.out hb) 4⟩)
  have HBd0 := Aside0.mk (below_drew1 (Below.refl w5.heap.size w5))
  go_region_held3 (fun w' => w'.cell? ⟨w.heap.size, 0, none⟩ = some (.int .i64 x0.Fault) ∧ w'.cell? ⟨w.heap.size, 1, none⟩ = some (.int .i64 x0.Code) ∧ w'.cell? ⟨w.heap.size, 2, none⟩ = some (.int .i64 x0.Verdict) ∧ w'.cell? ⟨w.heap.size, 3, none⟩ = some (.slice A0_0 x0.Prints.length c0_0) ∧ w'.cell? ⟨w.heap.size, 4, none⟩ = some (.int .i64 x0.Events) ∧ w'.cell? ⟨w3.heap.size, 0, none⟩ = some (.int .i64 x0.Fault) ∧ w'.cell? ⟨w3.heap.size, 1, none⟩ = some (.int .i64 x0.Code) ∧ w'.cell? ⟨w3.heap.size, 2, none⟩ = some (.int .i64 x0.Verdict) ∧ w'.cell? ⟨w3.heap.size, 3, none⟩ = some (.slice D0_0 x0.Prints.length e0_0) ∧ w'.cell? ⟨w3.heap.size, 4, none⟩ = some (.int .i64 x0.Events)) (first | exact HSS0.out _ HBd0.out | exact HSS0.out _ (Aside0.out (by assumption))) (first
    | (go_at_call 19; (with_reducible refine (toOutcome.calls _ x0 _ (kOutcome.K_below (bstep HA.out (bstep HB5.out HBd0.out)) HK0.out) (HS0.out (by omega))).mono ?_); rintro e wq ⟨ds, rfl, hM, hb⟩; obtain ⟨B0_0, d0_0, rfl, _⟩ := kOutcome_open (kOutcome.K_of_M hM); have HN := Aside0.mk (⟨kOutcome.K_below (bstep HBd0.out hb) HX0.out, kOutcome.K_of_M hM, bstep HBd0.out hb⟩ : kOutcome.K _ x0 _ ∧ kOutcome.K _ x0 _ ∧ Below w5.heap.size w5 _); have HQ := Aside0.mk (bstep HBd0.out hb); clear hM)
    | (go_at_call 21; obtain ⟨⟨n1, n2, hB⟩⟩ : Aside0 (kOutcome.K _ x0 _ ∧ kOutcome.K _ x0 _ ∧ Below w5.heap.size w5 _) := (by assumption); (with_reducible refine (eqOutcome.calls _ x0 _ _ n1 n2).mono ?_); rintro e wq ⟨rfl, hb⟩; have HQ := Aside0.mk (bstep hB hb)))
  have HI0 : Aside0 (Below w5.heap.size w5 _) := (by assumption)
  go_wp2_with fail
  have HSS1 := Aside0.mk (show ∀ w', Below w5.heap.size w5 w' → w'.cell? ⟨w.heap.size + 1, 0, none⟩ = some (.int .i64 x1.Fault) ∧ w'.cell? ⟨w.heap.size + 1, 1, none⟩ = some (.int .i64 x1.Code) ∧ w'.cell? ⟨w.heap.size + 1, 2, none⟩ = some (.int .i64 x1.Verdict) ∧ w'.cell? ⟨w.heap.size + 1, 3, none⟩ = some (.slice A1_0 x1.Prints.length c1_0) ∧ w'.cell? ⟨w.heap.size + 1, 4, none⟩ = some (.int .i64 x1.Events) ∧ w'.cell? ⟨w4.heap.size, 0, none⟩ = some (.int .i64 x1.Fault) ∧ w'.cell? ⟨w4.heap.size, 1, none⟩ = some (.int .i64 x1.Code) ∧ w'.cell? ⟨w4.heap.size, 2, none⟩ = some (.int .i64 x1.Verdict) ∧ w'.cell? ⟨w4.heap.size, 3, none⟩ = some (.slice D1_0 x1.Prints.length e1_0) ∧ w'.cell? ⟨w4.heap.size, 4, none⟩ = some (.int .i64 x1.Events) from fun w' hb => ⟨blk_cell (blk_below HBA1.out (bstep HB5.out hb)) 0, blk_cell (blk_below HBA1.out (bstep HB5.out hb)) 1, blk_cell (blk_below HBA1.out (bstep HB5.out hb)) 2, blk_cell (blk_below HBA1.out (bstep HB5.out hb)) 3, blk_cell (blk_below HBA1.out (bstep HB5.out hb)) 4, blk_cell (blk_below BX1.out hb) 0, blk_cell (blk_below BX1.out hb) 1, blk_cell (blk_below BX1.out hb) 2, blk_cell (blk_below BX1.out hb) 3, blk_cell (blk_below BX1.out hb) 4⟩)
  have HBd1 := Aside0.mk (below_drew1 HI0.out)
  go_region_held3 (fun w' => w'.cell? ⟨w.heap.size + 1, 0, none⟩ = some (.int .i64 x1.Fault) ∧ w'.cell? ⟨w.heap.size + 1, 1, none⟩ = some (.int .i64 x1.Code) ∧ w'.cell? ⟨w.heap.size + 1, 2, none⟩ = some (.int .i64 x1.Verdict) ∧ w'.cell? ⟨w.heap.size + 1, 3, none⟩ = some (.slice A1_0 x1.Prints.length c1_0) ∧ w'.cell? ⟨w.heap.size + 1, 4, none⟩ = some (.int .i64 x1.Events) ∧ w'.cell? ⟨w4.heap.size, 0, none⟩ = some (.int .i64 x1.Fault) ∧ w'.cell? ⟨w4.heap.size, 1, none⟩ = some (.int .i64 x1.Code) ∧ w'.cell? ⟨w4.heap.size, 2, none⟩ = some (.int .i64 x1.Verdict) ∧ w'.cell? ⟨w4.heap.size, 3, none⟩ = some (.slice D1_0 x1.Prints.length e1_0) ∧ w'.cell? ⟨w4.heap.size, 4, none⟩ = some (.int .i64 x1.Events)) (first | exact HSS1.out _ HBd1.out | exact HSS1.out _ (Aside0.out (by assumption))) (first
    | (go_at_call 19; (with_reducible refine (toOutcome.calls _ x1 _ (kOutcome.K_below (bstep HA.out (bstep HB5.out HBd1.out)) HK1.out) (HS1.out (by omega))).mono ?_); rintro e wq ⟨ds, rfl, hM, hb⟩; obtain ⟨B1_0, d1_0, rfl, _⟩ := kOutcome_open (kOutcome.K_of_M hM); have HN := Aside0.mk (⟨kOutcome.K_below (bstep HBd1.out hb) HX1.out, kOutcome.K_of_M hM, bstep HBd1.out hb⟩ : kOutcome.K _ x1 _ ∧ kOutcome.K _ x1 _ ∧ Below w5.heap.size w5 _); have HQ := Aside0.mk (bstep HBd1.out hb); clear hM)
    | (go_at_call 21; obtain ⟨⟨n1, n2, hB⟩⟩ : Aside0 (kOutcome.K _ x1 _ ∧ kOutcome.K _ x1 _ ∧ Below w5.heap.size w5 _) := (by assumption); (with_reducible refine (eqOutcome.calls _ x1 _ _ n1 n2).mono ?_); rintro e wq ⟨rfl, hb⟩; have HQ := Aside0.mk (bstep hB hb)))
  have HI1 : Aside0 (Below w5.heap.size w5 _) := (by assumption)
  go_wp2
  go_ret
  exact ⟨rfl, bstep HA.out (bstep HB5.out HI1.out)⟩
theorem FnExactSameOutcomeW.walk (W : World) (cs0 : Array Value) (x0 : TOutcome) (h0 : kOutcome.K W x0 cs0.toList) (q0 : wfOutcome x0) (cs1 : Array Value) (x1 : TOutcome) (h1 : kOutcome.K W x1 cs1.toList) (q1 : wfOutcome x1) :
    Calls Try.prog 4 #[.agg cs0, .agg cs1] W fun e w' => e = .returned (.bool true) ∧ Below W.heap.size W w' := by
  have h := FnExactSameOutcomeW.calls W x0 _ h0 q0 x1 _ h1 q1
  simp only [Array.toArray_toList] at h
  exact h
end Go.Proofs.Ytgeoipplkjgnfaa
