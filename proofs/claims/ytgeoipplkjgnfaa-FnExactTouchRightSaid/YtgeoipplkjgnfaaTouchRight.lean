/- Walk of TouchRight of the reference, and what it comes to. Condition: what it is given is read from memory, and no list in the program is longer than the statement's bound. -/
import Derived.Test.YtgeoipplkjgnfaaTouchOf
import Derived.Test.YtgeoipplkjgnfaaMayTouchS
set_option linter.unusedSimpArgs false
set_option linter.unusedVariables false
namespace Go.Proofs.Ytgeoipplkjgnfaa
open Go.RowKit Go.Proofs.YtgeoipplkjgnfaaW.PrintWords Go.Proofs.Ytgeoipplkjgnfaa.Lib

def touchRight (p : TProgram) (x : TMachine) (i : Int) : Bool :=
  if inB i 0 ((x.Cores.length : Int) - 1) = false then true
  else if (x.Cores.getD i.toNat default).Process < 0 then true
  else if touchOf x.Image.Text (x.Cores.getD i.toNat default).Pc < 0 then true
  else if touchOf x.Image.Text (x.Cores.getD i.toNat default).Pc = 0 then (dOp (x.Image.Text.getD (x.Cores.getD i.toNat default).Pc.toNat 0) == 9)
  else mayTouch p x (x.Cores.getD i.toNat default).Process (touchOf x.Image.Text (x.Cores.getD i.toNat default).Pc)
theorem touchRight_out {p : TProgram} {x : TMachine} {i : Int} (h : inB i 0 ((x.Cores.length : Int) - 1) = false) : touchRight p x i = true := by simp [touchRight, h]
theorem touchRight_in {p : TProgram} {x : TMachine} {k : Nat} (h : k < x.Cores.length) : touchRight p x k = if x.Cores[k].Process < 0 then true else if touchOf x.Image.Text x.Cores[k].Pc < 0 then true else if touchOf x.Image.Text x.Cores[k].Pc = 0 then (dOp (x.Image.Text.getD x.Cores[k].Pc.toNat 0) == 9) else mayTouch p x x.Cores[k].Process (touchOf x.Image.Text x.Cores[k].Pc) := by
  unfold touchRight
  have hg : x.Cores.getD ((k : Nat) : Int).toNat default = x.Cores[k] := by simp [List.getD, h]
  rw [hg, if_neg (by rw [inB_yes (by omega) (by omega)]; simp)]
theorem touchOf_at {xs : List Int} {i : Int} (h : ¬ touchOf xs i < 0) : ∃ n : Nat, i = n ∧ n < xs.length ∧ wordOk xs i = true ∧ decOk (xs.getD n 0) = true := by
  cases hw : wordOk xs i
  · rw [touchOf_no hw] at h
    omega
  · obtain ⟨h1, h2⟩ := wordOk_yes hw
    obtain ⟨n, rfl, hn⟩ := inB_nat h1
    exact ⟨n, rfl, hn, rfl, by simpa using h2⟩

set_option maxHeartbeats 8000000 in
set_option maxRecDepth 100000 in
theorem specTouchRight.calls (w : World) (p : TProgram) (cs : List Value) (h : kProgram.K w p cs) (x : TMachine) (es : List Value) (h'' : kMachine.K w x es) (i : Int) (hs : smProgram p) :
    Calls Try.prog 50 #[.agg cs.toArray, .agg es.toArray, .int .i64 i] w fun e w' => e = .returned (.bool (touchRight p x i)) ∧ Below w.heap.size w w' := by
  have HP := Aside0.mk h
  have HXM := Aside0.mk h''
  obtain ⟨A0, c0, A1, c1, A2, c2, rfl, HKf0_, HKf1_, HKf2_⟩ := kProgram_open h
  have HK0 := Aside0.mk HKf0_
  have HK1 := Aside0.mk HKf1_
  have HK2 := Aside0.mk HKf2_
  clear HKf0_ HKf1_ HKf2_
  obtain ⟨D0, e0, D1, e1, D2, e2, D3, e3, D4, e4, D5, e5, D6, e6, D7, e7, D8, e8, D9, e9, rfl, HXf0_, HXf1_, HXf2_, HXf3_, HXf4_, HXf5_⟩ := kMachine_open h''
  have HX0 := Aside0.mk HXf0_
  have HX1 := Aside0.mk HXf1_
  have HX2 := Aside0.mk HXf2_
  have HX3 := Aside0.mk HXf3_
  have HX4 := Aside0.mk HXf4_
  have HX5 := Aside0.mk HXf5_
  clear HXf0_ HXf1_ HXf2_ HXf3_ HXf4_ HXf5_
  have HS := Aside0.mk hs
  clear hs h h''
  obtain ⟨_, _, _, _, e_, ht, _⟩ := kImage_open HX0.out
  simp only [List.cons.injEq, Value.slice.injEq, true_and, and_true] at e_
  obtain ⟨⟨rfl, rfl⟩, rfl, rfl⟩ := e_
  have HXT := Aside0.mk ht
  clear ht
  obtain ⟨A_, c_, e_, _, hC⟩ := HX2.out
  cases e_
  have HC := Aside0.mk hC
  have hcl : x.Cores.length ≤ 9223372036854775807 := hC.2.1
  clear hC
  clear HK0 HK1 HK2 HX0 HX1 HX2 HX3 HX4 HX5
  obtain ⟨W0, hW0⟩ : ∃ W0, W0 = ((w).alloc (.cells #[.slice A0 p.Nodes.length c0, .slice A1 p.Monitors.length c1, .slice A2 p.Processes.length c2] 87 (0, 0))).alloc (.cells #[.slice D0 x.Image.Text.length e0, .slice D1 x.Image.Starts.length e1, .int .i64 x.Image.Size, .slice D2 x.Mem.length e2, .slice D3 x.Cores.length e3, .slice D4 x.Kernel.Gates.length e4, .slice D5 x.Kernel.Ready.length e5, .slice D6 x.Kernel.Saved.length e6, .slice D7 x.Kernel.Over.length e7, .slice D8 x.Input.length e8, .slice D9 x.Events.length e9, .bool x.Stopped] 72 (0, 0)) := ⟨_, rfl⟩
  have HA := Aside0.mk (show Below w.heap.size w W0 by rw [hW0]; with_reducible repeat (first | apply below_alloc | exact Below.refl _ _))
  have BA0 : W0.heap[w.heap.size]? = some (.cells #[.slice A0 p.Nodes.length c0, .slice A1 p.Monitors.length c1, .slice A2 p.Processes.length c2] 87 (0, 0)) := by rw [hW0]; exact blk_alloc (blk_new _ _) _
  have hBA0 : ∀ i, W0.cell? ⟨w.heap.size, i, none⟩ = (#[.slice A0 p.Nodes.length c0, .slice A1 p.Monitors.length c1, .slice A2 p.Processes.length c2] : Array Value)[i]? := fun i => blk_cell BA0 i
  have HBA0 := Aside0.mk BA0
  clear BA0
  have BA1 : W0.heap[w.heap.size + 1]? = some (.cells #[.slice D0 x.Image.Text.length e0, .slice D1 x.Image.Starts.length e1, .int .i64 x.Image.Size, .slice D2 x.Mem.length e2, .slice D3 x.Cores.length e3, .slice D4 x.Kernel.Gates.length e4, .slice D5 x.Kernel.Ready.length e5, .slice D6 x.Kernel.Saved.length e6, .slice D7 x.Kernel.Over.length e7, .slice D8 x.Input.length e8, .slice D9 x.Events.length e9, .bool x.Stopped] 72 (0, 0)) := by rw [hW0]; have h_ : ((w).alloc (.cells #[.slice A0 p.Nodes.length c0, .slice A1 p.Monitors.length c1, .slice A2 p.Processes.length c2] 87 (0, 0))).heap.size = w.heap.size + 1 := (by simp); rw [← h_]; exact blk_new _ _
  have hBA1 : ∀ i, W0.cell? ⟨w.heap.size + 1, i, none⟩ = (#[.slice D0 x.Image.Text.length e0, .slice D1 x.Image.Starts.length e1, .int .i64 x.Image.Size, .slice D2 x.Mem.length e2, .slice D3 x.Cores.length e3, .slice D4 x.Kernel.Gates.length e4, .slice D5 x.Kernel.Ready.length e5, .slice D6 x.Kernel.Saved.length e6, .slice D7 x.Kernel.Over.length e7, .slice D8 x.Input.length e8, .slice D9 x.Events.length e9, .bool x.Stopped] : Array Value)[i]? := fun i => blk_cell BA1 i
  have HBA1 := Aside0.mk BA1
  clear BA1
  have hs0 : w.heap.size + 2 ≤ W0.heap.size := by rw [hW0]; simp
  have hs0_0 : w.heap.size < W0.heap.size := by omega
  have hs0_1 : w.heap.size + 1 < W0.heap.size := by omega
  clear hs0
  by_cases h1 : inB i 0 ((x.Cores.length : Int) - 1) = true
  · obtain ⟨k, rfl, hltqc⟩ := inB_nat h1
    have HR := Aside0.mk (touchRight_in (p := p) hltqc)
    obtain ⟨adq, csqc, eq, _, hKeqc, hcellqc⟩ := Kd.C_get (Kd.C_below HC.out HA.out) (⟨[], 0, 0⟩ : TCore) (k : Int) (by omega) (by omega)
    rw [show (x.Cores).getD ((k : Int)).toNat (⟨[], 0, 0⟩ : TCore) = (x.Cores)[k] by simp [List.getD, hltqc]] at hKeqc
    have HEqc := Aside0.mk hKeqc
    obtain ⟨Q0, q0, rfl, _⟩ := kCore_open hKeqc
    cases eq
    have qc0 := hcellqc 0 _ rfl
    have qc1 := hcellqc 1 _ rfl
    have qc2 := hcellqc 2 _ rfl
    simp only [Int.toNat_natCast, show kCore.sz = 3 from rfl, add_field _ _ 1 (by omega), add_field _ _ 2 (by omega), Nat.mul_one, Nat.add_zero] at qc0 qc1 qc2
    clear hcellqc hKeqc
    by_cases h2 : x.Cores[k].Process < 0
    · have HR2 := Aside0.mk (HR.out.trans (if_pos h2))
      go_enter Try.func50, Try.ntmps50
      go_wp2_with fail
      simp only [← hW0]
      clear hW0
      go_wp2_with (go_at_call 77; (with_reducible refine (specIn.calls _ _ _ _).mono ?_); rintro e w1 ⟨rfl, rfl⟩)
      go_ret
      exact ⟨by rw [HR2.out]; rfl, HA.out⟩
    · have HR2 := Aside0.mk (HR.out.trans (if_neg h2))
      have hcrR : ∀ b o : Nat, b < W0.heap.size → W0.cell? ⟨b, o, none⟩ = W0.cell? ⟨b, o, none⟩ := fun _ _ _ => rfl
      have HBd := Aside0.mk (below_drew1 (Below.refl W0.heap.size W0))
      have HSS := Aside0.mk (show ∀ w', Below W0.heap.size W0 w' → w'.cell? ⟨w.heap.size + 1, 0, none⟩ = some (.slice D0 x.Image.Text.length e0) ∧ w'.cell? ⟨w.heap.size + 1, 4, none⟩ = some (.slice (some adq) x.Cores.length e3) ∧ w'.cell? ⟨(adq.add (k * 3)).block, (adq.add (k * 3)).off + 1, none⟩ = some (.int .i64 x.Cores[k].Pc) from fun w' hb => ⟨pw_cell_below hb (by skip; exact hBA1 0), pw_cell_below hb (by skip; exact hBA1 4), pw_cell_below hb qc1⟩)
      clear HR hcrR
      go_enter Try.func50, Try.ntmps50
      go_wp2_with fail
      simp only [← hW0]
      clear hW0
      go_wp2_with (go_at_call 77; (with_reducible refine (specIn.calls _ _ _ _).mono ?_); rintro e w1 ⟨rfl, rfl⟩)
      generalize ht : touchOf x.Image.Text x.Cores[k].Pc = t at *
      have HT := Aside0.mk ht
      clear ht
      go_region_held3 (fun w' => w'.cell? ⟨w.heap.size + 1, 0, none⟩ = some (.slice D0 x.Image.Text.length e0) ∧ w'.cell? ⟨w.heap.size + 1, 4, none⟩ = some (.slice (some adq) x.Cores.length e3) ∧ w'.cell? ⟨(adq.add (k * 3)).block, (adq.add (k * 3)).off + 1, none⟩ = some (.int .i64 x.Cores[k].Pc)) (first | exact HSS.out _ HBd.out | exact HSS.out _ (Aside0.out (by assumption))) (first
        | (go_at_call 105; (with_reducible refine (specTouchOf.calls _ x.Image.Text _ (HXT.out.below (bstep HA.out HBd.out)) _).mono ?_); rw [HT.out]; rintro e_ wq ⟨rfl, hb⟩; have HQ := Aside0.mk (bstep HBd.out hb)))
      have HQ2 : Aside0 (Below W0.heap.size W0 _) := (by assumption)
      obtain ⟨hcr, hfr⟩ := bcell HQ2.out
      have hsr0 := Nat.lt_of_lt_of_le hs0_0 HQ2.out.size
      have hsr1 := Nat.lt_of_lt_of_le hs0_1 HQ2.out.size
      have HBd2 := Aside0.mk (below_drew1 HQ2.out)
      have hz2 := HQ2.out.size
      by_cases h3 : t < 0
      · have HR3 := Aside0.mk (HR2.out.trans (if_pos h3))
        go_wp2
        go_ret
        exact ⟨by rw [HR3.out]; rfl, bstep HA.out HQ2.out⟩
      · have HR3 := Aside0.mk (HR2.out.trans (if_neg h3))
        by_cases h4 : t = 0
        · have HR4 := Aside0.mk (HR3.out.trans (if_pos h4))
          subst h4
          obtain ⟨n, hpc, hlttc, hw, hd⟩ := touchOf_at (by rw [HT.out]; exact h3)
          have hgt : x.Image.Text.getD n 0 = x.Image.Text[n] := by simp [List.getD, hlttc]
          rw [hgt] at hd
          have hr5 := HR4.out
          rw [hpc, show ((n : Int)).toNat = n by simp, hgt] at hr5
          have HR5 := Aside0.mk hr5
          have HD := Aside0.mk hd
          have HI := Aside0.mk (insV_yes hd)
          clear hr5 hd hw hgt
          obtain ⟨A_, c_, e_, _, hCt⟩ := HXT.out
          cases e_
          have HTC := Aside0.mk hCt
          clear hCt
          obtain ⟨adt, cstc, et, _, hKetc, hcelltc⟩ := Kd.C_get (Kd.C_below HTC.out HA.out) (0 : Int) (n : Int) (by omega) (by omega)
          rw [show (x.Image.Text).getD ((n : Int)).toNat (0 : Int) = (x.Image.Text)[n] by simp [List.getD, hlttc]] at hKetc
          obtain rfl : cstc = [.int .i64 (x.Image.Text)[n]] := hKetc
          cases et
          have tc0 := hcelltc 0 _ rfl
          simp only [Int.toNat_natCast, show (Kd.int .i64).sz = 1 from rfl, Nat.mul_one, Nat.add_zero] at tc0
          clear hcelltc
          have qc1' := qc1
          rw [hpc] at qc1'
          have HSS2 := Aside0.mk (show ∀ w', Below W0.heap.size W0 w' → w'.cell? ⟨w.heap.size + 1, 0, none⟩ = some (.slice (some adt) x.Image.Text.length e0) ∧ w'.cell? ⟨w.heap.size + 1, 4, none⟩ = some (.slice (some adq) x.Cores.length e3) ∧ w'.cell? ⟨(adq.add (k * 3)).block, (adq.add (k * 3)).off + 1, none⟩ = some (.int .i64 (n : Int)) ∧ w'.cell? (adt.add n) = some (.int .i64 x.Image.Text[n]) from fun w' hb => ⟨pw_cell_below hb (hBA1 0), pw_cell_below hb (hBA1 4), pw_cell_below hb qc1', pw_cell_below hb tc0⟩)
          clear hcr hfr qc0 qc1 qc2 qc1' tc0 hBA0 hBA1
          go_wp2
          go_region_held3 (fun w' => w'.cell? ⟨w.heap.size + 1, 0, none⟩ = some (.slice (some adt) x.Image.Text.length e0) ∧ w'.cell? ⟨w.heap.size + 1, 4, none⟩ = some (.slice (some adq) x.Cores.length e3) ∧ w'.cell? ⟨(adq.add (k * 3)).block, (adq.add (k * 3)).off + 1, none⟩ = some (.int .i64 (n : Int)) ∧ w'.cell? (adt.add n) = some (.int .i64 x.Image.Text[n])) (first | exact HSS2.out _ HBd2.out | exact HSS2.out _ (Aside0.out (by assumption)) | exact HSS2.out _ (below_alloc HBd2.out _) | exact HSS2.out _ (below_alloc (Aside0.out (by assumption)) _) | exact HSS2.out _ (by with_reducible repeat (first | refine below_set ?_ (by omega) | apply below_alloc | exact HBd2.out | exact (Aside0.out (by assumption))))) (first
            | (go_at_call 106; (with_reducible refine (specDecode.calls _ _).mono ?_); rw [HI.out, HD.out]; rintro e_ wq ⟨rfl, hb⟩; have HQ := Aside0.mk (bstep (by first | exact HBd2.out | exact below_alloc HBd2.out _) hb); obtain ⟨hcw1, hfw1⟩ := bcell hb; have hzw := hb.size; (try simp at hzw)))
          all_goals
            have HQ3 : Aside0 (Below W0.heap.size W0 _) := (by assumption)
            go_wp2
            go_ret
            exact ⟨by rw [HR5.out]; rfl, by with_reducible repeat (first | refine below_set ?_ (by omega) | apply below_alloc | exact (bstep HA.out (Aside0.out (by assumption))))⟩
        · have HR4 := Aside0.mk (HR3.out.trans (if_neg h4))
          have h4b : (t == 0) = false := by simp [h4]
          clear HSS
          have HSS := Aside0.mk (show ∀ w', Below W0.heap.size W0 w' → w'.cell? ⟨w.heap.size, 0, none⟩ = some (.slice A0 p.Nodes.length c0) ∧ w'.cell? ⟨w.heap.size, 1, none⟩ = some (.slice A1 p.Monitors.length c1) ∧ w'.cell? ⟨w.heap.size, 2, none⟩ = some (.slice A2 p.Processes.length c2) ∧ w'.cell? ⟨w.heap.size + 1, 0, none⟩ = some (.slice D0 x.Image.Text.length e0) ∧ w'.cell? ⟨w.heap.size + 1, 1, none⟩ = some (.slice D1 x.Image.Starts.length e1) ∧ w'.cell? ⟨w.heap.size + 1, 2, none⟩ = some (.int .i64 x.Image.Size) ∧ w'.cell? ⟨w.heap.size + 1, 3, none⟩ = some (.slice D2 x.Mem.length e2) ∧ w'.cell? ⟨w.heap.size + 1, 4, none⟩ = some (.slice (some adq) x.Cores.length e3) ∧ w'.cell? ⟨w.heap.size + 1, 5, none⟩ = some (.slice D4 x.Kernel.Gates.length e4) ∧ w'.cell? ⟨w.heap.size + 1, 6, none⟩ = some (.slice D5 x.Kernel.Ready.length e5) ∧ w'.cell? ⟨w.heap.size + 1, 7, none⟩ = some (.slice D6 x.Kernel.Saved.length e6) ∧ w'.cell? ⟨w.heap.size + 1, 8, none⟩ = some (.slice D7 x.Kernel.Over.length e7) ∧ w'.cell? ⟨w.heap.size + 1, 9, none⟩ = some (.slice D8 x.Input.length e8) ∧ w'.cell? ⟨w.heap.size + 1, 10, none⟩ = some (.slice D9 x.Events.length e9) ∧ w'.cell? ⟨w.heap.size + 1, 11, none⟩ = some (.bool x.Stopped) ∧ w'.cell? ⟨(adq.add (k * 3)).block, (adq.add (k * 3)).off + 2, none⟩ = some (.int .i64 x.Cores[k].Process) from fun w' hb => ⟨pw_cell_below hb (hBA0 0), pw_cell_below hb (hBA0 1), pw_cell_below hb (hBA0 2), pw_cell_below hb (hBA1 0), pw_cell_below hb (hBA1 1), pw_cell_below hb (hBA1 2), pw_cell_below hb (hBA1 3), pw_cell_below hb (hBA1 4), pw_cell_below hb (hBA1 5), pw_cell_below hb (hBA1 6), pw_cell_below hb (hBA1 7), pw_cell_below hb (hBA1 8), pw_cell_below hb (hBA1 9), pw_cell_below hb (hBA1 10), pw_cell_below hb (hBA1 11), pw_cell_below hb qc2⟩)
          clear hcr hfr qc0 qc1 qc2 hBA0 hBA1
          go_wp2
          go_region_held3 (fun w' => w'.cell? ⟨w.heap.size, 0, none⟩ = some (.slice A0 p.Nodes.length c0) ∧ w'.cell? ⟨w.heap.size, 1, none⟩ = some (.slice A1 p.Monitors.length c1) ∧ w'.cell? ⟨w.heap.size, 2, none⟩ = some (.slice A2 p.Processes.length c2) ∧ w'.cell? ⟨w.heap.size + 1, 0, none⟩ = some (.slice D0 x.Image.Text.length e0) ∧ w'.cell? ⟨w.heap.size + 1, 1, none⟩ = some (.slice D1 x.Image.Starts.length e1) ∧ w'.cell? ⟨w.heap.size + 1, 2, none⟩ = some (.int .i64 x.Image.Size) ∧ w'.cell? ⟨w.heap.size + 1, 3, none⟩ = some (.slice D2 x.Mem.length e2) ∧ w'.cell? ⟨w.heap.size + 1, 4, none⟩ = some (.slice (some adq) x.Cores.length e3) ∧ w'.cell? ⟨w.heap.size + 1, 5, none⟩ = some (.slice D4 x.Kernel.Gates.length e4) ∧ w'.cell? ⟨w.heap.size + 1, 6, none⟩ = some (.slice D5 x.Kernel.Ready.length e5) ∧ w'.cell? ⟨w.heap.size + 1, 7, none⟩ = some (.slice D6 x.Kernel.Saved.length e6) ∧ w'.cell? ⟨w.heap.size + 1, 8, none⟩ = some (.slice D7 x.Kernel.Over.length e7) ∧ w'.cell? ⟨w.heap.size + 1, 9, none⟩ = some (.slice D8 x.Input.length e8) ∧ w'.cell? ⟨w.heap.size + 1, 10, none⟩ = some (.slice D9 x.Events.length e9) ∧ w'.cell? ⟨w.heap.size + 1, 11, none⟩ = some (.bool x.Stopped) ∧ w'.cell? ⟨(adq.add (k * 3)).block, (adq.add (k * 3)).off + 2, none⟩ = some (.int .i64 x.Cores[k].Process)) (first | exact HSS.out _ HBd2.out | exact HSS.out _ (Aside0.out (by assumption))) (first
            | (go_at_call 46; (with_reducible refine (specMayTouch.calls _ p _ (kProgram.K_below (bstep HA.out HBd2.out) HP.out) x _ (kMachine.K_below (bstep HA.out HBd2.out) HXM.out) _ _ HS.out).mono ?_); rw [← HR4.out]; rintro e_ wq ⟨rfl, hb⟩; have HQ := Aside0.mk (bstep HBd2.out hb)))
          have HQ3 : Aside0 (Below W0.heap.size W0 _) := (by assumption)
          go_wp2
          go_ret
          exact ⟨rfl, bstep HA.out HQ3.out⟩
  · have h1' : inB i 0 ((x.Cores.length : Int) - 1) = false := by simpa using h1
    have HR := Aside0.mk (touchRight_out (p := p) h1')
    clear h1
    go_enter Try.func50, Try.ntmps50
    go_wp2_with fail
    simp only [← hW0]
    clear hW0
    go_wp2_with (go_at_call 77; (with_reducible refine (specIn.calls _ _ _ _).mono ?_); rintro e w1 ⟨rfl, rfl⟩)
    go_ret
    exact ⟨by rw [HR.out]; rfl, HA.out⟩
end Go.Proofs.Ytgeoipplkjgnfaa
