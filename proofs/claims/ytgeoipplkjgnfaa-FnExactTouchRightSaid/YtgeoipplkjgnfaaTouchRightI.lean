/- Walk of TouchRight of the program. Condition: what it is given is read from memory, and no list in the program is longer than the statement's bound. -/
import Derived.Test.YtgeoipplkjgnfaaTouchRight
import Derived.Test.YtgeoipplkjgnfaaMayTouchI
set_option linter.unusedSimpArgs false
set_option linter.unusedVariables false
namespace Go.Proofs.Ytgeoipplkjgnfaa
open Go.RowKit Go.Proofs.YtgeoipplkjgnfaaW.PrintWords Go.Proofs.Ytgeoipplkjgnfaa.Lib

set_option maxHeartbeats 8000000 in
set_option maxRecDepth 100000 in
theorem implTouchRight.calls (w : World) (p : TProgram) (cs : List Value) (h : kProgram.K w p cs) (x : TMachine) (es : List Value) (h'' : kMachine.K w x es) (i : Int) (hs : smProgram p) :
    Calls Try.prog 51 #[.agg cs.toArray, .agg es.toArray, .int .i64 i] w fun e w' => e = .returned (.bool (touchRight p x i)) ∧ Below w.heap.size w w' := by
  have HP := Aside0.mk h
  have HXM := Aside0.mk h''
  obtain ⟨A0, c0, A1, c1, A2, c2, rfl, HKf0_, HKf1_, HKf2_⟩ := kProgram_open h
  have HK0 := Aside0.mk HKf0_
  have HK1 := Aside0.mk HKf1_
  have HK2 := Aside0.mk HKf2_
  clear HKf0_ HKf1_ HKf2_
  obtain ⟨D0, e0, D1, e1, D2, e2, D3, e3, D4, e4, D5, e5, D6, e6, D7, e7, D8, e8, D9, e9, rfl, HXf0_, HXf1_, HXf2_, HXf3_, HXf4_, HXf5_⟩ := kMachine_open h''
  have HX0 := Aside0.mk HXf0_
  have HX1 := Aside0.mk HXf1_
  have HX2 := Aside0.mk HXf2_
  have HX3 := Aside0.mk HXf3_
  have HX4 := Aside0.mk HXf4_
  have HX5 := Aside0.mk HXf5_
  clear HXf0_ HXf1_ HXf2_ HXf3_ HXf4_ HXf5_
  have HS := Aside0.mk hs
  clear hs h h''
  obtain ⟨_, _, _, _, e_, ht, _⟩ := kImage_open HX0.out
  simp only [List.cons.injEq, Value.slice.injEq, true_and, and_true] at e_
  obtain ⟨⟨rfl, rfl⟩, rfl, rfl⟩ := e_
  have HXT := Aside0.mk ht
  clear ht
  obtain ⟨A_, c_, e_, _, hC⟩ := HX2.out
  cases e_
  have HC := Aside0.mk hC
  have hcl : x.Cores.length ≤ 9223372036854775807 := hC.2.1
  clear hC
  clear HK0 HK1 HK2 HX0 HX1 HX2 HX3 HX4 HX5
  obtain ⟨W0, hW0⟩ : ∃ W0, W0 = ((w).alloc (.cells #[.slice A0 p.Nodes.length c0, .slice A1 p.Monitors.length c1, .slice A2 p.Processes.length c2] 87 (0, 0))).alloc (.cells #[.slice D0 x.Image.Text.length e0, .slice D1 x.Image.Starts.length e1, .int .i64 x.Image.Size, .slice D2 x.Mem.length e2, .slice D3 x.Cores.length e3, .slice D4 x.Kernel.Gates.length e4, .slice D5 x.Kernel.Ready.length e5, .slice D6 x.Kernel.Saved.length e6, .slice D7 x.Kernel.Over.length e7, .slice D8 x.Input.length e8, .slice D9 x.Events.length e9, .bool x.Stopped] 72 (0, 0)) := ⟨_, rfl⟩
  have HA := Aside0.mk (show Below w.heap.size w W0 by rw [hW0]; with_reducible repeat (first | apply below_alloc | exact Below.refl _ _))
  have BA0 : W0.heap[w.heap.size]? = some (.cells #[.slice A0 p.Nodes.length c0, .slice A1 p.Monitors.length c1, .slice A2 p.Processes.length c2] 87 (0, 0)) := by rw [hW0]; exact blk_alloc (blk_new _ _) _
  have hBA0 : ∀ i, W0.cell? ⟨w.heap.size, i, none⟩ = (#[.slice A0 p.Nodes.length c0, .slice A1 p.Monitors.length c1, .slice A2 p.Processes.length c2] : Array Value)[i]? := fun i => blk_cell BA0 i
  have HBA0 := Aside0.mk BA0
  clear BA0
  have BA1 : W0.heap[w.heap.size + 1]? = some (.cells #[.slice D0 x.Image.Text.length e0, .slice D1 x.Image.Starts.length e1, .int .i64 x.Image.Size, .slice D2 x.Mem.length e2, .slice D3 x.Cores.length e3, .slice D4 x.Kernel.Gates.length e4, .slice D5 x.Kernel.Ready.length e5, .slice D6 x.Kernel.Saved.length e6, .slice D7 x.Kernel.Over.length e7, .slice D8 x.Input.length e8, .slice D9 x.Events.length e9, .bool x.Stopped] 72 (0, 0)) := by rw [hW0]; have h_ : ((w).alloc (.cells #[.slice A0 p.Nodes.length c0, .slice A1 p.Monitors.length c1, .slice A2 p.Processes.length c2] 87 (0, 0))).heap.size = w.heap.size + 1 := (by simp); rw [← h_]; exact blk_new _ _
  have hBA1 : ∀ i, W0.cell? ⟨w.heap.size + 1, i, none⟩ = (#[.slice D0 x.Image.Text.length e0, .slice D1 x.Image.Starts.length e1, .int .i64 x.Image.Size, .slice D2 x.Mem.length e2, .slice D3 x.Cores.length e3, .slice D4 x.Kernel.Gates.length e4, .slice D5 x.Kernel.Ready.length e5, .slice D6 x.Kernel.Saved.length e6, .slice D7 x.Kernel.Over.length e7, .slice D8 x.Input.length e8, .slice D9 x.Events.length e9, .bool x.Stopped] : Array Value)[i]? := fun i => blk_cell BA1 i
  have HBA1 := Aside0.mk BA1
  clear BA1
  have hs0 : w.heap.size + 2 ≤ W0.heap.size := by rw [hW0]; simp
  have hs0_0 : w.heap.size < W0.heap.size := by omega
  have hs0_1 : w.heap.size + 1 < W0.heap.size := by omega
  clear hs0
  by_cases h1 : inB i 0 ((x.Cores.length : Int) - 1) = true
  · obtain ⟨k, rfl, hltqc⟩ := inB_nat h1
    have HR := Aside0.mk (touchRight_in (p := p) hltqc)
    obtain ⟨adq, csqc, eq, _, hKeqc, hcellqc⟩ := Kd.C_get (Kd.C_below HC.out HA.out) (⟨[], 0, 0⟩ : TCore) (k : Int) (by omega) (by omega)
    rw [show (x.Cores).getD ((k : Int)).toNat (⟨[], 0, 0⟩ : TCore) = (x.Cores)[k] by simp [List.getD, hltqc]] at hKeqc
    have HEqc := Aside0.mk hKeqc
    obtain ⟨Q0, q0, rfl, _⟩ := kCore_open hKeqc
    cases eq
    have qc0 := hcellqc 0 _ rfl
    have qc1 := hcellqc 1 _ rfl
    have qc2 := hcellqc 2 _ rfl
    simp only [Int.toNat_natCast, show kCore.sz = 3 from rfl, add_field _ _ 1 (by omega), add_field _ _ 2 (by omega), Nat.mul_one, Nat.add_zero] at qc0 qc1 qc2
    clear hcellqc hKeqc
    by_cases h2 : x.Cores[k].Process < 0
    · have HR2 := Aside0.mk (HR.out.trans (if_pos h2))
      go_enter Try.func51, Try.ntmps51
      go_wp2_with fail
      simp only [← hW0]
      clear hW0
      go_wp2_with (go_at_call 69; (with_reducible refine (implIn.calls _ _ _ _).mono ?_); rintro e w1 ⟨rfl, rfl⟩)
      go_ret
      exact ⟨by rw [HR2.out]; rfl, HA.out⟩
    · have HR2 := Aside0.mk (HR.out.trans (if_neg h2))
      clear HR
      go_enter Try.func51, Try.ntmps51
      go_wp2_with fail
      simp only [← hW0]
      clear hW0
      go_wp2_with (go_at_call 69; (with_reducible refine (implIn.calls _ _ _ _).mono ?_); rintro e w1 ⟨rfl, rfl⟩)
      generalize ht : touchOf x.Image.Text x.Cores[k].Pc = t at *
      have HT := Aside0.mk ht
      clear ht
      (with_reducible refine (implTouchOf.calls _ x.Image.Text _ (HXT.out.below (bstep HA.out (below_alloc (Below.refl _ _) _))) _).mono ?_)
      rw [HT.out]
      rintro e_ w2 ⟨rfl, hb⟩
      have HB2 := Aside0.mk (bstep (below_alloc (Below.refl W0.heap.size W0) _) hb)
      obtain ⟨hcw1, hfw1⟩ := bcell hb
      have hq0 := (hcw1 W0.heap.size 0 (by first | (simp; done) | (simp; omega))).trans (blk_cell (blk_new _ _) 0)
      have hq1 := (hcw1 W0.heap.size 1 (by first | (simp; done) | (simp; omega))).trans (blk_cell (blk_new _ _) 1)
      have hq2 := (hcw1 W0.heap.size 2 (by first | (simp; done) | (simp; omega))).trans (blk_cell (blk_new _ _) 2)
      have hz2 : W0.heap.size < w2.heap.size := (by have := hb.size; (try simp at this); omega)
      clear hb hcw1 hfw1
      obtain ⟨hcr, hfr⟩ := bcell HB2.out
      have hsr0 := Nat.lt_of_lt_of_le hs0_0 HB2.out.size
      have hsr1 := Nat.lt_of_lt_of_le hs0_1 HB2.out.size
      by_cases h3 : t < 0
      · have HR3 := Aside0.mk (HR2.out.trans (if_pos h3))
        go_wp2
        go_ret
        exact ⟨by rw [HR3.out]; rfl, bstep HA.out HB2.out⟩
      · have HR3 := Aside0.mk (HR2.out.trans (if_neg h3))
        obtain ⟨n, hpc, hlttc, hw, hd⟩ := touchOf_at (by rw [HT.out]; exact h3)
        have HW := Aside0.mk hw
        have HV := Aside0.mk (wordV_yes hw)
        clear hd hw hlttc hpc
        go_wp2_with fail
        (with_reducible refine (wordAt.calls _ x.Image.Text _ (HXT.out.below (bstep HA.out HB2.out)) _).mono ?_)
        rw [HV.out, HW.out]
        rintro e_ w3 ⟨rfl, hb⟩
        have HB3 := Aside0.mk (bstep HB2.out hb)
        have hq1_ := pw_cell_below hb hq1
        have hq2_ := pw_cell_below hb hq2
        have hz3 : W0.heap.size < w3.heap.size := (by have := hb.size; (try simp at this); omega)
        clear hb hq0 hq1 hq2 hcr hfr hsr0 hsr1
        obtain ⟨hcr, hfr⟩ := bcell HB3.out
        have hsr0 := Nat.lt_of_lt_of_le hs0_0 HB3.out.size
        have hsr1 := Nat.lt_of_lt_of_le hs0_1 HB3.out.size
        by_cases h4 : t = 0
        · have HR4 := Aside0.mk (HR3.out.trans (if_pos h4))
          subst h4
          go_wp2_with fail
          (with_reducible refine (implMayTouch.calls _ p _ (kProgram.K_below (bstep HA.out (below_alloc HB3.out _)) HP.out) x _ (kMachine.K_below (bstep HA.out (below_alloc HB3.out _)) HXM.out) _ _ HS.out).mono ?_)
          rw [mayTouch_zero]
          rintro e_ w4 ⟨rfl, hb⟩
          have HB4 := Aside0.mk (bstep (below_alloc HB3.out _) hb)
          obtain ⟨hcw1, hfw1⟩ := bcell hb
          have hy0 := (hcw1 w3.heap.size 0 (by first | (simp; done) | (simp; omega))).trans (blk_cell (blk_new _ _) 0)
          have hz4 : w3.heap.size < w4.heap.size := (by have := hb.size; (try simp at this); omega)
          clear hb hcw1 hfw1
          go_wp2
          go_ret
          exact ⟨by rw [HR4.out]; rfl, bstep HA.out HB4.out⟩
        · have HR4 := Aside0.mk (HR3.out.trans (if_neg h4))
          have h4b : (t == 0) = false := by simp [h4]
          have h4c : (t != 0) = true := by simp [h4]
          cases hm : mayTouch p x x.Cores[k].Process t
          all_goals
            have HM := Aside0.mk hm
            clear hm
            go_wp2_with fail
            (with_reducible refine (implMayTouch.calls _ p _ (kProgram.K_below (bstep HA.out (below_alloc HB3.out _)) HP.out) x _ (kMachine.K_below (bstep HA.out (below_alloc HB3.out _)) HXM.out) _ _ HS.out).mono ?_)
            rw [HM.out]
            rintro e_ w4 ⟨rfl, hb⟩
            have HB4 := Aside0.mk (bstep (below_alloc HB3.out _) hb)
            obtain ⟨hcw1, hfw1⟩ := bcell hb
            have hy0 := (hcw1 w3.heap.size 0 (by first | (simp; done) | (simp; omega))).trans (blk_cell (blk_new _ _) 0)
            have hz4 : w3.heap.size < w4.heap.size := (by have := hb.size; (try simp at this); omega)
            clear hb hcw1 hfw1
            go_wp2
            go_ret
            exact ⟨by rw [HR4.out, HM.out]; rfl, bstep HA.out HB4.out⟩
  · have h1' : inB i 0 ((x.Cores.length : Int) - 1) = false := by simpa using h1
    have HR := Aside0.mk (touchRight_out (p := p) h1')
    clear h1
    go_enter Try.func51, Try.ntmps51
    go_wp2_with fail
    simp only [← hW0]
    clear hW0
    go_wp2_with (go_at_call 69; (with_reducible refine (implIn.calls _ _ _ _).mono ?_); rintro e w1 ⟨rfl, rfl⟩)
    go_ret
    exact ⟨by rw [HR.out]; rfl, HA.out⟩
end Go.Proofs.Ytgeoipplkjgnfaa
