/- Walks of VarAt, of the reference and of the program, and of ArgAt and ResultAt: where a process's variable, its argument and its result lie. Condition: the program is read from memory, and no list in it is longer than the statement's bound. -/
import Derived.Test.YtgeoipplkjgnfaaPlaces3
set_option linter.unusedSimpArgs false
set_option linter.unusedVariables false
namespace Go.Proofs.Ytgeoipplkjgnfaa
open Go.RowKit Go.Proofs.YtgeoipplkjgnfaaW.PrintWords Go.Proofs.Ytgeoipplkjgnfaa.Lib

theorem sumVars_bound {p : TProgram} (hs : smProgram p) : sumVars p.Monitors ≤ 1099511627776 := by
  have h1 := sumVars_le p.Monitors hs.2.1.2
  have h2 := hs.2.1.1
  omega
theorem sumProc_bound {p : TProgram} (hs : smProgram p) (k : Nat) : sumProc (p.Processes.take k) ≤ 1099513724928 := by
  have h1 := sumProc_le (p.Processes.take k) (fun m hm => hs.2.2.2 m (List.mem_of_mem_take hm))
  have h2 := hs.2.2.1
  have h3 : (p.Processes.take k).length ≤ 1048576 := by rw [List.length_take]; omega
  omega

set_option maxHeartbeats 2000000 in
theorem specVarAt.calls (w : World) (p : TProgram) (cs : List Value) (h : kProgram.K w p cs) (m j : Int) (hs : smProgram p) :
    Calls Try.prog 93 #[.agg cs.toArray, .int .i64 m, .int .i64 j] w fun e w' => e = .returned (.int .i64 (varAt p m j)) ∧ Below w.heap.size w w' := by
  have HP := Aside0.mk h
  obtain ⟨A0, c0, A1, c1, A2, c2, rfl, HKf0_, HKf1_, HKf2_⟩ := kProgram_open h
  have HK0 := Aside0.mk HKf0_
  have HK1 := Aside0.mk HKf1_
  have HK2 := Aside0.mk HKf2_
  clear HKf0_ HKf1_ HKf2_
  have hml : p.Processes.length ≤ 1048576 := hs.2.2.1
  have HSM := Aside0.mk hs.2.2.2
  have HS := Aside0.mk hs
  clear hs h
  obtain ⟨A, c, e, _, hC⟩ := HK2.out
  cases e
  have HK := Aside0.mk hC
  clear hC HK0 HK1 HK2
  obtain ⟨W0, hW0⟩ : ∃ W0, W0 = (w).alloc (.cells #[.slice A0 p.Nodes.length c0, .slice A1 p.Monitors.length c1, .slice A2 p.Processes.length c2] 87 (0, 0)) := ⟨_, rfl⟩
  have HA := Aside0.mk (show Below w.heap.size w W0 by rw [hW0]; with_reducible repeat (first | apply below_alloc | exact Below.refl _ _))
  have BA0 : W0.heap[w.heap.size]? = some (.cells #[.slice A0 p.Nodes.length c0, .slice A1 p.Monitors.length c1, .slice A2 p.Processes.length c2] 87 (0, 0)) := by rw [hW0]; exact blk_new _ _
  have hBA0 : ∀ i, W0.cell? ⟨w.heap.size, i, none⟩ = (#[.slice A0 p.Nodes.length c0, .slice A1 p.Monitors.length c1, .slice A2 p.Processes.length c2] : Array Value)[i]? := fun i => blk_cell BA0 i
  have HBA0 := Aside0.mk BA0
  clear BA0
  have hs0 : w.heap.size + 1 ≤ W0.heap.size := by rw [hW0]; simp
  have hs0_0 : w.heap.size < W0.heap.size := by omega
  clear hs0
  by_cases h1 : inB m 0 ((p.Processes.length : Int) - 1) = true
  · obtain ⟨k0, rfl, hlthc⟩ := inB_nat h1
    obtain ⟨ad, cshc, e, _, hKehc, hcellhc⟩ := Kd.C_get (Kd.C_below HK.out HA.out) (⟨ByteArray.empty, [], [], 0⟩ : TProcess) (k0 : Int) (by omega) (by omega)
    rw [show (p.Processes).getD ((k0 : Int)).toNat (⟨ByteArray.empty, [], [], 0⟩ : TProcess) = (p.Processes)[k0] by simp [List.getD, hlthc]] at hKehc
    have HEhc := Aside0.mk hKehc
    obtain ⟨B0, d0, B1, d1, rfl, _⟩ := kProcess_open hKehc
    cases e
    have hc0 := hcellhc 0 _ rfl
    have hc1 := hcellhc 1 _ rfl
    have hc2 := hcellhc 2 _ rfl
    have hc3 := hcellhc 3 _ rfl
    simp only [Int.toNat_natCast, show kProcess.sz = 4 from rfl, add_field _ _ 1 (by omega), add_field _ _ 2 (by omega), add_field _ _ 3 (by omega), Nat.mul_one, Nat.add_zero] at hc0 hc1 hc2 hc3
    clear hcellhc hKehc
    have hmon : procAt p (k0 : Int) = p.Processes[k0] := by simp [procAt, List.getD, hlthc]
    have hv : p.Processes[k0].Vars.length ≤ 1048576 := (HSM.out _ (List.getElem_mem hlthc)).2.2.1
    by_cases h2 : inB j 0 (p.Processes[k0].Vars.length : Int) = true
    · have hres : varAt p (k0 : Int) j = 1 + sumVars p.Monitors + sumProc (p.Processes.take k0) + j := by
        unfold varAt
        rw [hmon, if_pos ⟨h1, h2⟩]
        simp
      have HR := Aside0.mk hres
      have hj := inB_iff.1 h2
      have hj0 := hj.1
      have hj1 := hj.2
      have hsv := sumVars_bound HS.out
      clear hmon hres hj
      go_enter Try.func93, Try.ntmps93
      go_wp2_with fail
      simp only [← hW0]
      clear hW0
      go_wp2_with (first
        | (go_at_call 77; (with_reducible refine (specIn.calls _ _ _ _).mono ?_); rintro e w1 ⟨rfl, rfl⟩)
        | (go_at_call 136; (with_reducible refine (specVars.calls _ p _ (kProgram.K_below HA.out HP.out) HS.out).mono ?_); rintro e w1 ⟨rfl, hb⟩; have HB := Aside0.mk hb; clear hb))
      obtain ⟨hcr, hfr⟩ := bcell HB.out
      have hsr0 := Nat.lt_of_lt_of_le hs0_0 HB.out.size
      go_loopw [7, 8] (fun n i wr => ∃ k : Nat, n = .int .i64 (1 + sumVars p.Monitors + sumProc (p.Processes.take k)) ∧ i = .int .i64 k ∧ k ≤ k0 ∧ wr = w1) (fun _ i _ => k0 - (intOf i).toNat)
      case atStart => exact ⟨0, by simp [sumProc], rfl, by omega, rfl⟩
      case round =>
        obtain ⟨k, rfl, rfl, hk, rfl⟩ := hrel
        have hb3 := sumProc_bound HS.out k
        by_cases hk0 : k < k0
        · have hltec : k < p.Processes.length := by omega
          obtain ⟨ad', csec, e', _, hKeec, hcellec⟩ := Kd.C_get (Kd.C_below HK.out (bstep HA.out HB.out)) (⟨ByteArray.empty, [], [], 0⟩ : TProcess) (k : Int) (by omega) (by omega)
          rw [show (p.Processes).getD ((k : Int)).toNat (⟨ByteArray.empty, [], [], 0⟩ : TProcess) = (p.Processes)[k] by simp [List.getD, hltec]] at hKeec
          have HEec := Aside0.mk hKeec
          obtain ⟨E0, g0, E1, g1, rfl, _⟩ := kProcess_open hKeec
          cases e'
          have ec0 := hcellec 0 _ rfl
          have ec1 := hcellec 1 _ rfl
          have ec2 := hcellec 2 _ rfl
          have ec3 := hcellec 3 _ rfl
          simp only [Int.toNat_natCast, show kProcess.sz = 4 from rfl, add_field _ _ 1 (by omega), add_field _ _ 2 (by omega), add_field _ _ 3 (by omega), Nat.mul_one, Nat.add_zero] at ec0 ec1 ec2 ec3
          clear hcellec hKeec
          have hb4 : p.Processes[k].Vars.length ≤ 1048576 := (HSM.out _ (List.getElem_mem hltec)).2.2.1
          have hb5 : sumProc (p.Processes.take (k + 1)) = sumProc (p.Processes.take k) + (p.Processes[k].Vars.length + 2) := by rw [List.take_succ_eq_append_getElem hltec, sumProc_snoc]
          have HB5 := Aside0.mk hb5
          clear hb5
          go_wp2
          go_roundw
          case rel => exact ⟨k + 1, by rw [HB5.out]; go_num, by go_num, by omega, by first | rfl | trivial⟩
          case measure => simp [intOf]; omega
        · have e : k = k0 := by omega
          subst e
          go_wp2
          go_ret
          exact ⟨by rw [HR.out]; rfl, bstep HA.out HB.out⟩
    · have hres : varAt p (k0 : Int) j = -1 := by
        unfold varAt
        rw [hmon, if_neg (fun h => h2 h.2)]
      have HR := Aside0.mk hres
      have h2' : inB j 0 (p.Processes[k0].Vars.length : Int) = false := by simpa using h2
      clear hmon hres h2
      go_enter Try.func93, Try.ntmps93
      go_wp2_with fail
      simp only [← hW0]
      clear hW0
      go_wp2_with (go_at_call 77; (with_reducible refine (specIn.calls _ _ _ _).mono ?_); rintro e w1 ⟨rfl, rfl⟩)
      go_ret
      exact ⟨by rw [HR.out]; rfl, HA.out⟩
  · have hres : varAt p m j = -1 := by
      unfold varAt
      rw [if_neg (fun h => h1 h.1)]
    have HR := Aside0.mk hres
    have h1' : inB m 0 ((p.Processes.length : Int) - 1) = false := by simpa using h1
    clear hres h1
    go_enter Try.func93, Try.ntmps93
    go_wp2_with fail
    simp only [← hW0]
    clear hW0
    go_wp2_with (go_at_call 77; (with_reducible refine (specIn.calls _ _ _ _).mono ?_); rintro e w1 ⟨rfl, rfl⟩)
    go_ret
    exact ⟨by rw [HR.out]; rfl, HA.out⟩

set_option maxHeartbeats 2000000 in
theorem implVarAt.calls (w : World) (p : TProgram) (cs : List Value) (h : kProgram.K w p cs) (m j : Int) (hs : smProgram p) :
    Calls Try.prog 99 #[.agg cs.toArray, .int .i64 m, .int .i64 j] w fun e w' => e = .returned (.int .i64 (varAt p m j)) ∧ Below w.heap.size w w' := by
  have HP := Aside0.mk h
  obtain ⟨A0, c0, A1, c1, A2, c2, rfl, HKf0_, HKf1_, HKf2_⟩ := kProgram_open h
  have HK0 := Aside0.mk HKf0_
  have HK1 := Aside0.mk HKf1_
  have HK2 := Aside0.mk HKf2_
  clear HKf0_ HKf1_ HKf2_
  have hml : p.Processes.length ≤ 1048576 := hs.2.2.1
  have hmml : p.Monitors.length ≤ 1048576 := hs.2.1.1
  have HMS := Aside0.mk hs.2.1.2
  have HSM := Aside0.mk hs.2.2.2
  have HS := Aside0.mk hs
  clear hs h
  obtain ⟨A, c, e, _, hC⟩ := HK2.out
  cases e
  have HK := Aside0.mk hC
  have hcap := hC.1
  clear hC HK0
  obtain ⟨W0, hW0⟩ : ∃ W0, W0 = (w).alloc (.cells #[.slice A0 p.Nodes.length c0, .slice A1 p.Monitors.length c1, .slice A2 p.Processes.length c2] 87 (0, 0)) := ⟨_, rfl⟩
  have HA := Aside0.mk (show Below w.heap.size w W0 by rw [hW0]; with_reducible repeat (first | apply below_alloc | exact Below.refl _ _))
  have BA0 : W0.heap[w.heap.size]? = some (.cells #[.slice A0 p.Nodes.length c0, .slice A1 p.Monitors.length c1, .slice A2 p.Processes.length c2] 87 (0, 0)) := by rw [hW0]; exact blk_new _ _
  have hBA0 : ∀ i, W0.cell? ⟨w.heap.size, i, none⟩ = (#[.slice A0 p.Nodes.length c0, .slice A1 p.Monitors.length c1, .slice A2 p.Processes.length c2] : Array Value)[i]? := fun i => blk_cell BA0 i
  have HBA0 := Aside0.mk BA0
  clear BA0
  have hs0 : w.heap.size + 1 ≤ W0.heap.size := by rw [hW0]; simp
  have hs0_0 : w.heap.size < W0.heap.size := by omega
  clear hs0
  by_cases h1 : inB m 0 ((p.Processes.length : Int) - 1) = true
  · obtain ⟨k0, rfl, hlthc⟩ := inB_nat h1
    have hmon : procAt p (k0 : Int) = p.Processes[k0] := by simp [procAt, List.getD, hlthc]
    have hv : p.Processes[k0].Vars.length ≤ 1048576 := (HSM.out _ (List.getElem_mem hlthc)).2.2.1
    by_cases h2 : inB j 0 (p.Processes[k0].Vars.length : Int) = true
    · have hres : varAt p (k0 : Int) j = 1 + sumVars p.Monitors + sumProc (p.Processes.take k0) + j := by
        unfold varAt
        rw [hmon, if_pos ⟨h1, h2⟩]
        simp
      have HR := Aside0.mk hres
      have hj := inB_iff.1 h2
      have hj0 := hj.1
      have hj1 := hj.2
      have hsv := sumVars_bound HS.out
      clear hmon hres hj
      go_enter Try.func99, Try.ntmps99
      go_wp2_with fail
      simp only [← hW0]
      clear hW0
      (with_reducible refine (isProcess.calls _ p _ (kProgram.K_below HA.out HP.out) _ hml).mono ?_)
      rintro e w1 ⟨rfl, hb⟩
      have HB := Aside0.mk hb
      obtain ⟨hc1, hf1⟩ := bcell hb
      have hz1 := Nat.lt_of_lt_of_le hs0_0 HB.out.size
      clear hb
      obtain ⟨ad, cshc, e, _, hKehc, hcellhc⟩ := Kd.C_get (Kd.C_below HK.out (bstep HA.out HB.out)) (⟨ByteArray.empty, [], [], 0⟩ : TProcess) (k0 : Int) (by omega) (by omega)
      rw [show (p.Processes).getD ((k0 : Int)).toNat (⟨ByteArray.empty, [], [], 0⟩ : TProcess) = (p.Processes)[k0] by simp [List.getD, hlthc]] at hKehc
      have HEhc := Aside0.mk hKehc
      obtain ⟨B0, d0, B1, d1, rfl, _⟩ := kProcess_open hKehc
      cases e
      have hc0 := hcellhc 0 _ rfl
      have hc1 := hcellhc 1 _ rfl
      have hc2 := hcellhc 2 _ rfl
      have hc3 := hcellhc 3 _ rfl
      simp only [Int.toNat_natCast, show kProcess.sz = 4 from rfl, add_field _ _ 1 (by omega), add_field _ _ 2 (by omega), add_field _ _ 3 (by omega), Nat.mul_one, Nat.add_zero] at hc0 hc1 hc2 hc3
      clear hcellhc hKehc
      go_wp2_with (first
        | (go_at_call 69; (with_reducible refine (implIn.calls _ _ _ _).mono ?_); rintro e w2 ⟨rfl, rfl⟩)
        | fail)
      (with_reducible refine (sharedSize.calls _ p.Monitors _ (HK1.out.below (bstep HA.out HB.out)) hmml HMS.out).mono ?_)
      rintro e w2 ⟨rfl, hb⟩
      have HB2 := Aside0.mk (bstep HB.out hb)
      clear hb hf1 hz1
      obtain ⟨hcr, hfr⟩ := bcell HB2.out
      have hsr0 := Nat.lt_of_lt_of_le hs0_0 HB2.out.size
      go_wp2
      go_loopw [7, 37] (fun n i wr => ∃ k : Nat, n = .int .i64 (1 + sumVars p.Monitors + j + sumProc (p.Processes.take k)) ∧ i = .int .i64 k ∧ k ≤ k0 ∧ Aside0 (Below W0.heap.size W0 wr)) (fun _ i _ => k0 - (intOf i).toNat)
      case atStart => exact ⟨0, by simp [sumProc], rfl, by omega, HB2⟩
      case round =>
        obtain ⟨k, rfl, rfl, hk, HBL⟩ := hrel
        have hb3 := sumProc_bound HS.out k
        by_cases hk0 : k < k0
        · have hltec : k < p.Processes.length := by omega
          obtain ⟨ad', csec, e', _, hKeec, hcellec⟩ := Kd.C_get (Kd.C_below HK.out (bstep HA.out HBL.out)) (⟨ByteArray.empty, [], [], 0⟩ : TProcess) (k : Int) (by omega) (by omega)
          rw [show (p.Processes).getD ((k : Int)).toNat (⟨ByteArray.empty, [], [], 0⟩ : TProcess) = (p.Processes)[k] by simp [List.getD, hltec]] at hKeec
          have HEec := Aside0.mk hKeec
          obtain ⟨E0, g0, E1, g1, rfl, _⟩ := kProcess_open hKeec
          cases e'
          have ec0 := hcellec 0 _ rfl
          have ec1 := hcellec 1 _ rfl
          have ec2 := hcellec 2 _ rfl
          have ec3 := hcellec 3 _ rfl
          simp only [Int.toNat_natCast, show kProcess.sz = 4 from rfl, add_field _ _ 1 (by omega), add_field _ _ 2 (by omega), add_field _ _ 3 (by omega), Nat.mul_one, Nat.add_zero] at ec0 ec1 ec2 ec3
          clear hcellec hKeec
          have hb4 : p.Processes[k].Vars.length ≤ 1048576 := (HSM.out _ (List.getElem_mem hltec)).2.2.1
          have hb5 : sumProc (p.Processes.take (k + 1)) = sumProc (p.Processes.take k) + (p.Processes[k].Vars.length + 2) := by rw [List.take_succ_eq_append_getElem hltec, sumProc_snoc]
          have HB5 := Aside0.mk hb5
          clear hb5
          go_wp2
          go_roundw
          case rel => exact ⟨k + 1, by rw [HB5.out]; go_num, by go_num, by omega, ⟨below_alloc HBL.out _⟩⟩
          case measure => simp [intOf]; omega
        · have e : k = k0 := by omega
          subst e
          have HR2 : varAt p (k : Int) j = 1 + sumVars p.Monitors + j + sumProc (p.Processes.take k) := by rw [HR.out]; omega
          have HR3 := Aside0.mk HR2
          clear HR2
          go_wp2
          go_ret
          exact ⟨by rw [HR3.out]; rfl, bstep HA.out HBL.out⟩
    · have hres : varAt p (k0 : Int) j = -1 := by
        unfold varAt
        rw [hmon, if_neg (fun h => h2 h.2)]
      have HR := Aside0.mk hres
      have h2' : inB j 0 (p.Processes[k0].Vars.length : Int) = false := by simpa using h2
      clear hmon hres h2
      go_enter Try.func99, Try.ntmps99
      go_wp2_with fail
      simp only [← hW0]
      clear hW0
      (with_reducible refine (isProcess.calls _ p _ (kProgram.K_below HA.out HP.out) _ hml).mono ?_)
      rintro e w1 ⟨rfl, hb⟩
      have HB := Aside0.mk hb
      obtain ⟨hc1, hf1⟩ := bcell hb
      have hz1 := Nat.lt_of_lt_of_le hs0_0 HB.out.size
      clear hb
      obtain ⟨ad, cshc, e, _, hKehc, hcellhc⟩ := Kd.C_get (Kd.C_below HK.out (bstep HA.out HB.out)) (⟨ByteArray.empty, [], [], 0⟩ : TProcess) (k0 : Int) (by omega) (by omega)
      rw [show (p.Processes).getD ((k0 : Int)).toNat (⟨ByteArray.empty, [], [], 0⟩ : TProcess) = (p.Processes)[k0] by simp [List.getD, hlthc]] at hKehc
      have HEhc := Aside0.mk hKehc
      obtain ⟨B0, d0, B1, d1, rfl, _⟩ := kProcess_open hKehc
      cases e
      have hc0 := hcellhc 0 _ rfl
      have hc1 := hcellhc 1 _ rfl
      have hc2 := hcellhc 2 _ rfl
      have hc3 := hcellhc 3 _ rfl
      simp only [Int.toNat_natCast, show kProcess.sz = 4 from rfl, add_field _ _ 1 (by omega), add_field _ _ 2 (by omega), add_field _ _ 3 (by omega), Nat.mul_one, Nat.add_zero] at hc0 hc1 hc2 hc3
      clear hcellhc hKehc
      go_wp2_with (go_at_call 69; (with_reducible refine (implIn.calls _ _ _ _).mono ?_); rintro e w2 ⟨rfl, rfl⟩)
      go_ret
      exact ⟨by rw [HR.out]; rfl, bstep HA.out HB.out⟩
  · have hres : varAt p m j = -1 := by
      unfold varAt
      rw [if_neg (fun h => h1 h.1)]
    have HR := Aside0.mk hres
    have h1' : inB m 0 ((p.Processes.length : Int) - 1) = false := by simpa using h1
    clear hres h1
    go_enter Try.func99, Try.ntmps99
    go_wp2_with fail
    simp only [← hW0]
    clear hW0
    go_wp2_with (go_at_call 98; (with_reducible refine (isProcess.calls _ p _ (kProgram.K_below HA.out HP.out) _ hml).mono ?_); rintro e w1 ⟨rfl, hb⟩; have HB := Aside0.mk hb; clear hb)
    go_ret
    exact ⟨by rw [HR.out]; rfl, bstep HA.out HB.out⟩
end Go.Proofs.Ytgeoipplkjgnfaa
