/- Walks of ArgAt and ResultAt: where a process's argument and its result lie. Condition: the program is read from memory, and no list in it is longer than the statement's bound. -/
import Derived.Test.YtgeoipplkjgnfaaVarAt
set_option linter.unusedSimpArgs false
set_option linter.unusedVariables false
namespace Go.Proofs.Ytgeoipplkjgnfaa
open Go.RowKit Go.Proofs.YtgeoipplkjgnfaaW.PrintWords Go.Proofs.Ytgeoipplkjgnfaa.Lib

def argAt (p : TProgram) (i : Int) : Int := if inB i 0 ((p.Processes.length : Int) - 1) = true then varAt p i (procAt p i).Vars.length else -1
def resAt (p : TProgram) (i : Int) : Int := if argAt p i < 0 then -1 else argAt p i + 1
theorem varAt_bound {p : TProgram} (hs : smProgram p) (i j : Int) : -1 ≤ varAt p i j ∧ varAt p i j ≤ 4398046511104 := by
  unfold varAt
  split
  · rename_i h
    obtain ⟨h1, h2⟩ := h
    have hv := sumVars_bound hs
    have hp := sumProc_bound hs i.toNat
    have h3 := inB_iff.1 h2
    have h4 : (procAt p i).Vars.length ≤ 1048576 := by
      obtain ⟨k, rfl, hk⟩ := inB_nat h1
      have hmon : procAt p (k : Int) = p.Processes[k] := by simp [procAt, List.getD, hk]
      rw [hmon]
      exact (hs.2.2.2 _ (List.getElem_mem hk)).2.2.1
    omega
  · omega
theorem argAt_bound {p : TProgram} (hs : smProgram p) (i : Int) : -1 ≤ argAt p i ∧ argAt p i ≤ 4398046511104 := by
  unfold argAt
  split
  · exact varAt_bound hs _ _
  · omega

set_option maxHeartbeats 2000000 in
theorem argAt.calls (w : World) (p : TProgram) (cs : List Value) (h : kProgram.K w p cs) (m : Int) (hs : smProgram p) :
    Calls Try.prog 141 #[.agg cs.toArray, .int .i64 m] w fun e w' => e = .returned (.int .i64 (argAt p m)) ∧ Below w.heap.size w w' := by
  have HP := Aside0.mk h
  obtain ⟨A0, c0, A1, c1, A2, c2, rfl, HKf0_, HKf1_, HKf2_⟩ := kProgram_open h
  have HK0 := Aside0.mk HKf0_
  have HK1 := Aside0.mk HKf1_
  have HK2 := Aside0.mk HKf2_
  clear HKf0_ HKf1_ HKf2_
  have hml : p.Processes.length ≤ 1048576 := hs.2.2.1
  have HSM := Aside0.mk hs.2.2.2
  have HS := Aside0.mk hs
  clear hs h
  obtain ⟨A, c, e, _, hC⟩ := HK2.out
  cases e
  have HK := Aside0.mk hC
  clear hC HK0 HK1 HK2
  obtain ⟨W0, hW0⟩ : ∃ W0, W0 = (w).alloc (.cells #[.slice A0 p.Nodes.length c0, .slice A1 p.Monitors.length c1, .slice A2 p.Processes.length c2] 87 (0, 0)) := ⟨_, rfl⟩
  have HA := Aside0.mk (show Below w.heap.size w W0 by rw [hW0]; with_reducible repeat (first | apply below_alloc | exact Below.refl _ _))
  have BA0 : W0.heap[w.heap.size]? = some (.cells #[.slice A0 p.Nodes.length c0, .slice A1 p.Monitors.length c1, .slice A2 p.Processes.length c2] 87 (0, 0)) := by rw [hW0]; exact blk_new _ _
  have hBA0 : ∀ i, W0.cell? ⟨w.heap.size, i, none⟩ = (#[.slice A0 p.Nodes.length c0, .slice A1 p.Monitors.length c1, .slice A2 p.Processes.length c2] : Array Value)[i]? := fun i => blk_cell BA0 i
  have HBA0 := Aside0.mk BA0
  clear BA0
  have hs0 : w.heap.size + 1 ≤ W0.heap.size := by rw [hW0]; simp
  have hs0_0 : w.heap.size < W0.heap.size := by omega
  clear hs0
  by_cases h1 : inB m 0 ((p.Processes.length : Int) - 1) = true
  · obtain ⟨k0, rfl, hlthc⟩ := inB_nat h1
    have hmon : procAt p (k0 : Int) = p.Processes[k0] := by simp [procAt, List.getD, hlthc]
    have hv : p.Processes[k0].Vars.length ≤ 1048576 := (HSM.out _ (List.getElem_mem hlthc)).2.2.1
    have HR := Aside0.mk (show argAt p (k0 : Int) = varAt p (k0 : Int) p.Processes[k0].Vars.length by unfold argAt; rw [if_pos h1, hmon])
    clear hmon
    go_enter Try.func141, Try.ntmps141
    go_wp2_with fail
    simp only [← hW0]
    clear hW0
    (with_reducible refine (isProcess.calls _ p _ (kProgram.K_below HA.out HP.out) _ hml).mono ?_)
    rintro e w1 ⟨rfl, hb⟩
    have HB := Aside0.mk hb
    obtain ⟨hcr, hfr⟩ := bcell hb
    have hz1 := Nat.lt_of_lt_of_le hs0_0 HB.out.size
    clear hb
    have HBd := Aside0.mk (below_drew1 (Below.refl w1.heap.size w1))
    obtain ⟨ad, cshc, e, _, hKehc, hcellhc⟩ := Kd.C_get (Kd.C_below HK.out (bstep HA.out HB.out)) (⟨ByteArray.empty, [], [], 0⟩ : TProcess) (k0 : Int) (by omega) (by omega)
    rw [show (p.Processes).getD ((k0 : Int)).toNat (⟨ByteArray.empty, [], [], 0⟩ : TProcess) = (p.Processes)[k0] by simp [List.getD, hlthc]] at hKehc
    have HEhc := Aside0.mk hKehc
    obtain ⟨B0, d0, B1, d1, rfl, _⟩ := kProcess_open hKehc
    cases e
    have hc0 := hcellhc 0 _ rfl
    have hc1 := hcellhc 1 _ rfl
    have hc2 := hcellhc 2 _ rfl
    have hc3 := hcellhc 3 _ rfl
    simp only [Int.toNat_natCast, show kProcess.sz = 4 from rfl, add_field _ _ 1 (by omega), add_field _ _ 2 (by omega), add_field _ _ 3 (by omega), Nat.mul_one, Nat.add_zero] at hc0 hc1 hc2 hc3
    clear hcellhc hKehc
    have HSS := Aside0.mk (show ∀ w', Below w1.heap.size w1 w' → w'.cell? ⟨w.heap.size, 0, none⟩ = some (.slice A0 p.Nodes.length c0) ∧ w'.cell? ⟨w.heap.size, 1, none⟩ = some (.slice A1 p.Monitors.length c1) ∧ w'.cell? ⟨w.heap.size, 2, none⟩ = some (.slice (some ad) p.Processes.length c2) ∧ w'.cell? ⟨(ad.add (k0 * 4)).block, (ad.add (k0 * 4)).off + 2, none⟩ = some (.slice B1 p.Processes[k0].Vars.length d1) from fun w' hb => ⟨pw_cell_below hb (by rw [hcr _ _ hs0_0]; exact hBA0 0), pw_cell_below hb (by rw [hcr _ _ hs0_0]; exact hBA0 1), pw_cell_below hb (by rw [hcr _ _ hs0_0]; exact hBA0 2), pw_cell_below hb hc2⟩)
    go_wp2
    go_region_held3 (fun w' => w'.cell? ⟨w.heap.size, 0, none⟩ = some (.slice A0 p.Nodes.length c0) ∧ w'.cell? ⟨w.heap.size, 1, none⟩ = some (.slice A1 p.Monitors.length c1) ∧ w'.cell? ⟨w.heap.size, 2, none⟩ = some (.slice (some ad) p.Processes.length c2) ∧ w'.cell? ⟨(ad.add (k0 * 4)).block, (ad.add (k0 * 4)).off + 2, none⟩ = some (.slice B1 p.Processes[k0].Vars.length d1)) (first | exact HSS.out _ HBd.out | exact HSS.out _ (Aside0.out (by assumption))) (first
      | (go_at_call 99; (with_reducible refine (implVarAt.calls _ p _ (kProgram.K_below (bstep HA.out (bstep HB.out HBd.out)) HP.out) _ _ HS.out).mono ?_); rw [← HR.out]; rintro e_ wq ⟨rfl, hb⟩; have HQ := Aside0.mk (bstep HBd.out hb)))
    have HQ2 : Aside0 (Below w1.heap.size w1 _) := (by assumption)
    go_wp2
    go_ret
    exact ⟨rfl, bstep HA.out (bstep HB.out HQ2.out)⟩
  · have HR := Aside0.mk (show argAt p m = -1 by unfold argAt; rw [if_neg h1])
    have h1' : inB m 0 ((p.Processes.length : Int) - 1) = false := by simpa using h1
    clear h1
    go_enter Try.func141, Try.ntmps141
    go_wp2_with fail
    simp only [← hW0]
    clear hW0
    go_wp2_with (go_at_call 98; (with_reducible refine (isProcess.calls _ p _ (kProgram.K_below HA.out HP.out) _ hml).mono ?_); rintro e w1 ⟨rfl, hb⟩; have HB := Aside0.mk hb; clear hb)
    go_ret
    exact ⟨by rw [HR.out]; rfl, bstep HA.out HB.out⟩

set_option maxHeartbeats 1000000 in
theorem resAt.calls (w : World) (p : TProgram) (cs : List Value) (h : kProgram.K w p cs) (m : Int) (hs : smProgram p) :
    Calls Try.prog 100 #[.agg cs.toArray, .int .i64 m] w fun e w' => e = .returned (.int .i64 (resAt p m)) ∧ Below w.heap.size w w' := by
  have HP := Aside0.mk h
  obtain ⟨A0, c0, A1, c1, A2, c2, rfl, HKf0_, HKf1_, HKf2_⟩ := kProgram_open h
  have HK0 := Aside0.mk HKf0_
  have HK1 := Aside0.mk HKf1_
  have HK2 := Aside0.mk HKf2_
  clear HKf0_ HKf1_ HKf2_
  have HS := Aside0.mk hs
  obtain ⟨hb1, hb2⟩ := argAt_bound hs m
  clear hs h HK0 HK1 HK2
  obtain ⟨W0, hW0⟩ : ∃ W0, W0 = (w).alloc (.cells #[.slice A0 p.Nodes.length c0, .slice A1 p.Monitors.length c1, .slice A2 p.Processes.length c2] 87 (0, 0)) := ⟨_, rfl⟩
  have HA := Aside0.mk (show Below w.heap.size w W0 by rw [hW0]; with_reducible repeat (first | apply below_alloc | exact Below.refl _ _))
  have BA0 : W0.heap[w.heap.size]? = some (.cells #[.slice A0 p.Nodes.length c0, .slice A1 p.Monitors.length c1, .slice A2 p.Processes.length c2] 87 (0, 0)) := by rw [hW0]; exact blk_new _ _
  have hBA0 : ∀ i, W0.cell? ⟨w.heap.size, i, none⟩ = (#[.slice A0 p.Nodes.length c0, .slice A1 p.Monitors.length c1, .slice A2 p.Processes.length c2] : Array Value)[i]? := fun i => blk_cell BA0 i
  have HBA0 := Aside0.mk BA0
  clear BA0
  have hs0 : w.heap.size + 1 ≤ W0.heap.size := by rw [hW0]; simp
  have hs0_0 : w.heap.size < W0.heap.size := by omega
  clear hs0
  have HR := Aside0.mk (show resAt p m = if argAt p m < 0 then -1 else argAt p m + 1 from rfl)
  go_enter Try.func100, Try.ntmps100
  go_wp2_with fail
  simp only [← hW0]
  clear hW0
  (with_reducible refine (argAt.calls _ p _ (kProgram.K_below HA.out HP.out) _ HS.out).mono ?_)
  rintro e w1 ⟨rfl, hb⟩
  have HB := Aside0.mk hb
  clear hb
  generalize argAt p m = a at *
  by_cases h0 : a < 0
  · have HR2 := HR.out
    rw [if_pos h0] at HR2
    have HR3 := Aside0.mk HR2
    clear HR2 HR
    go_wp2
    go_ret
    exact ⟨by rw [HR3.out]; rfl, bstep HA.out HB.out⟩
  · have HR2 := HR.out
    rw [if_neg h0] at HR2
    have HR3 := Aside0.mk HR2
    clear HR2 HR
    go_wp2
    go_ret
    exact ⟨by rw [HR3.out]; rfl, bstep HA.out HB.out⟩
end Go.Proofs.Ytgeoipplkjgnfaa
