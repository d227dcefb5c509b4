/- Walks of VarAt and SharedAt, of the reference and of the program: where a program's variables lie. Condition: the program is read from memory, and no list in it is longer than the statement's bound. -/
import Derived.Test.YtgeoipplkjgnfaaPlaces
set_option linter.unusedSimpArgs false
set_option linter.unusedVariables false
namespace Go.Proofs.Ytgeoipplkjgnfaa
open Go.RowKit Go.Proofs.YtgeoipplkjgnfaaW.PrintWords Go.Proofs.Ytgeoipplkjgnfaa.Lib

theorem SKtake {α : Type} {d : Kd α} {w : World} {xs : List α} {A : Option Addr} {c : Nat} (h : SK d w xs (.slice A xs.length c)) (m : Nat) (hm : m ≤ xs.length) : SK d w (xs.take m) (.slice A m c) := by
  obtain ⟨A', c', e, hl, h1, h2, h3⟩ := h
  cases e
  have hn : (xs.take m).length = m := by rw [List.length_take]; omega
  refine ⟨A, c, by rw [hn], by omega, by rw [hn], by rw [hn]; omega, ?_⟩
  rw [hn]
  intro h0
  obtain ⟨ad, e, hc⟩ := h3 (by omega)
  refine ⟨ad, e, fun j p hj => hc j p ?_⟩
  rw [List.getElem?_take] at hj
  split at hj
  · exact hj
  · cases hj

def monAt (p : TProgram) (m : Int) : TMonitor := p.Monitors.getD m.toNat default
def procAt (p : TProgram) (i : Int) : TProcess := p.Processes.getD i.toNat default
/-- Where a monitor's variable lies; where a process's variable lies. -/
def sharedAt (p : TProgram) (m j : Int) : Int :=
  if inB m 0 ((p.Monitors.length : Int) - 1) = true ∧ inB j 0 (((monAt p m).Vars.length : Int) - 1) = true then 1 + sumVars (p.Monitors.take m.toNat) + j else -1
def varAt (p : TProgram) (i j : Int) : Int :=
  if inB i 0 ((p.Processes.length : Int) - 1) = true ∧ inB j 0 ((procAt p i).Vars.length : Int) = true then 1 + sumVars p.Monitors + sumProc (p.Processes.take i.toNat) + j else -1
theorem inB_iff {x lo hi : Int} : inB x lo hi = true ↔ lo ≤ x ∧ x ≤ hi := by simp [inB]
theorem inB_nat {x : Int} {n : Nat} (h : inB x 0 ((n : Int) - 1) = true) : ∃ k : Nat, x = k ∧ k < n := by
  rw [inB_iff] at h
  exact ⟨x.toNat, by omega, by omega⟩

set_option maxHeartbeats 1000000 in
theorem specSharedAt.calls (w : World) (p : TProgram) (cs : List Value) (h : kProgram.K w p cs) (m j : Int) (hs : smProgram p) :
    Calls Try.prog 94 #[.agg cs.toArray, .int .i64 m, .int .i64 j] w fun e w' => e = .returned (.int .i64 (sharedAt p m j)) ∧ Below w.heap.size w w' := by
  obtain ⟨A0, c0, A1, c1, A2, c2, rfl, HKf0_, HKf1_, HKf2_⟩ := kProgram_open h
  have HK0 := Aside0.mk HKf0_
  have HK1 := Aside0.mk HKf1_
  have HK2 := Aside0.mk HKf2_
  clear HKf0_ HKf1_ HKf2_
  have hml : p.Monitors.length ≤ 1048576 := hs.2.1.1
  have HSM := Aside0.mk hs.2.1.2
  clear hs h
  obtain ⟨A, c, e, _, hC⟩ := HK1.out
  cases e
  have HK := Aside0.mk hC
  clear hC HK0 HK1 HK2
  obtain ⟨W0, hW0⟩ : ∃ W0, W0 = (w).alloc (.cells #[.slice A0 p.Nodes.length c0, .slice A1 p.Monitors.length c1, .slice A2 p.Processes.length c2] 87 (0, 0)) := ⟨_, rfl⟩
  have HA := Aside0.mk (show Below w.heap.size w W0 by rw [hW0]; with_reducible repeat (first | apply below_alloc | exact Below.refl _ _))
  have BA0 : W0.heap[w.heap.size]? = some (.cells #[.slice A0 p.Nodes.length c0, .slice A1 p.Monitors.length c1, .slice A2 p.Processes.length c2] 87 (0, 0)) := by rw [hW0]; exact blk_new _ _
  have hBA0 : ∀ i, W0.cell? ⟨w.heap.size, i, none⟩ = (#[.slice A0 p.Nodes.length c0, .slice A1 p.Monitors.length c1, .slice A2 p.Processes.length c2] : Array Value)[i]? := fun i => blk_cell BA0 i
  have HBA0 := Aside0.mk BA0
  clear BA0
  have hs0 : w.heap.size + 1 ≤ W0.heap.size := by rw [hW0]; simp
  have hs0_0 : w.heap.size < W0.heap.size := by omega
  clear hs0
  by_cases h1 : inB m 0 ((p.Monitors.length : Int) - 1) = true
  · obtain ⟨k0, rfl, hlthc⟩ := inB_nat h1
    obtain ⟨ad, cshc, e, _, hKehc, hcellhc⟩ := Kd.C_get (Kd.C_below HK.out HA.out) (⟨ByteArray.empty, [], [], []⟩ : TMonitor) (k0 : Int) (by omega) (by omega)
    rw [show (p.Monitors).getD ((k0 : Int)).toNat (⟨ByteArray.empty, [], [], []⟩ : TMonitor) = (p.Monitors)[k0] by simp [List.getD, hlthc]] at hKehc
    have HEhc := Aside0.mk hKehc
    obtain ⟨B0, d0, B1, d1, B2, d2, rfl, _⟩ := kMonitor_open hKehc
    cases e
    have hc0 := hcellhc 0 _ rfl
    have hc1 := hcellhc 1 _ rfl
    have hc2 := hcellhc 2 _ rfl
    have hc3 := hcellhc 3 _ rfl
    simp only [Int.toNat_natCast, show kMonitor.sz = 4 from rfl, add_field _ _ 1 (by omega), add_field _ _ 2 (by omega), add_field _ _ 3 (by omega), Nat.mul_one, Nat.add_zero] at hc0 hc1 hc2 hc3
    clear hcellhc hKehc
    have hmon : monAt p (k0 : Int) = p.Monitors[k0] := by simp [monAt, List.getD, hlthc]
    have hv : p.Monitors[k0].Vars.length ≤ 1048576 := (HSM.out _ (List.getElem_mem hlthc)).2.1.1
    by_cases h2 : inB j 0 ((p.Monitors[k0].Vars.length : Int) - 1) = true
    · have hres : sharedAt p (k0 : Int) j = 1 + sumVars (p.Monitors.take k0) + j := by
        unfold sharedAt
        rw [hmon, if_pos ⟨h1, h2⟩]
        simp
      have HR := Aside0.mk hres
      have hj := inB_iff.1 h2
      have hj0 := hj.1
      have hj1 := hj.2
      clear hmon hres hj
      go_enter Try.func94, Try.ntmps94
      go_wp2_with fail
      simp only [← hW0]
      clear hW0
      go_wp2_with (go_at_call 77; (with_reducible refine (specIn.calls _ _ _ _).mono ?_); rintro e w1 ⟨rfl, rfl⟩)
      go_loopw [7, 8] (fun n i wr => ∃ k : Nat, n = .int .i64 (1 + sumVars (p.Monitors.take k)) ∧ i = .int .i64 k ∧ k ≤ k0 ∧ wr = W0) (fun _ i _ => k0 - (intOf i).toNat)
      case atStart => exact ⟨0, rfl, rfl, by omega, rfl⟩
      case round =>
        obtain ⟨k, rfl, rfl, hk, rfl⟩ := hrel
        have hb := sumVars_le (p.Monitors.take k) (fun m hm => HSM.out m (List.mem_of_mem_take hm))
        have hb2 : (p.Monitors.take k).length ≤ 1048576 := by rw [List.length_take]; omega
        have hb3 : sumVars (p.Monitors.take k) ≤ 1099511627776 := by omega
        clear hb hb2
        by_cases hk0 : k < k0
        · have hltec : k < p.Monitors.length := by omega
          obtain ⟨ad', csec, e', _, hKeec, hcellec⟩ := Kd.C_get (Kd.C_below HK.out HA.out) (⟨ByteArray.empty, [], [], []⟩ : TMonitor) (k : Int) (by omega) (by omega)
          rw [show (p.Monitors).getD ((k : Int)).toNat (⟨ByteArray.empty, [], [], []⟩ : TMonitor) = (p.Monitors)[k] by simp [List.getD, hltec]] at hKeec
          have HEec := Aside0.mk hKeec
          obtain ⟨E0, g0, E1, g1, E2, g2, rfl, _⟩ := kMonitor_open hKeec
          cases e'
          have ec0 := hcellec 0 _ rfl
          have ec1 := hcellec 1 _ rfl
          have ec2 := hcellec 2 _ rfl
          have ec3 := hcellec 3 _ rfl
          simp only [Int.toNat_natCast, show kMonitor.sz = 4 from rfl, add_field _ _ 1 (by omega), add_field _ _ 2 (by omega), add_field _ _ 3 (by omega), Nat.mul_one, Nat.add_zero] at ec0 ec1 ec2 ec3
          clear hcellec hKeec
          have hb4 : p.Monitors[k].Vars.length ≤ 1048576 := (HSM.out _ (List.getElem_mem hltec)).2.1.1
          have hb5 : sumVars (p.Monitors.take (k + 1)) = sumVars (p.Monitors.take k) + p.Monitors[k].Vars.length := by rw [List.take_succ_eq_append_getElem hltec, sumVars_snoc]
          have HB5 := Aside0.mk hb5
          clear hb5
          go_wp2
          go_roundw
          case rel => exact ⟨k + 1, by rw [HB5.out]; go_num, by go_num, by omega, by first | rfl | trivial⟩
          case measure => simp [intOf]; omega
        · have e : k = k0 := by omega
          subst e
          go_wp2
          go_ret
          exact ⟨by rw [HR.out]; rfl, HA.out⟩
    · have hres : sharedAt p (k0 : Int) j = -1 := by
        unfold sharedAt
        rw [hmon, if_neg (fun h => h2 h.2)]
      have HR := Aside0.mk hres
      have h2' : inB j 0 ((p.Monitors[k0].Vars.length : Int) - 1) = false := by simpa using h2
      clear hmon hres h2
      go_enter Try.func94, Try.ntmps94
      go_wp2_with fail
      simp only [← hW0]
      clear hW0
      go_wp2_with (go_at_call 77; (with_reducible refine (specIn.calls _ _ _ _).mono ?_); rintro e w1 ⟨rfl, rfl⟩)
      go_ret
      exact ⟨by rw [HR.out]; rfl, HA.out⟩
  · have hres : sharedAt p m j = -1 := by
      unfold sharedAt
      rw [if_neg (fun h => h1 h.1)]
    have HR := Aside0.mk hres
    have h1' : inB m 0 ((p.Monitors.length : Int) - 1) = false := by simpa using h1
    clear hres h1
    go_enter Try.func94, Try.ntmps94
    go_wp2_with fail
    simp only [← hW0]
    clear hW0
    go_wp2_with (go_at_call 77; (with_reducible refine (specIn.calls _ _ _ _).mono ?_); rintro e w1 ⟨rfl, rfl⟩)
    go_ret
    exact ⟨by rw [HR.out]; rfl, HA.out⟩
end Go.Proofs.Ytgeoipplkjgnfaa
