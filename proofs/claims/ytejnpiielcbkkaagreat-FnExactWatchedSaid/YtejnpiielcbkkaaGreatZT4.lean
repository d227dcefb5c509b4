/- A part of what stands under the laws of this seat: an abstract evaluator that is proved sound, and contracts of functions by it. No condition beside those that stand in each statement. -/
import Derived.Test.YtejnpiielcbkkaaGreatZT1
set_option linter.unusedVariables false
set_option linter.unusedSimpArgs false
section
set_option maxRecDepth 100000
set_option maxHeartbeats 4000000
namespace Go.Proofs.YtejnpiielcbkkaaGreat.E
theorem sVarAt_ok (p : Prgm) (q i : Int) (hs : p.processes.length ≤ 1048576) (hm : p.monitors.length ≤ 1048576) (hmv : ∀ y ∈ p.monitors, y.vars.length ≤ 1048576) (hpv : ∀ y ∈ p.processes, y.vars.length ≤ 1048576) :
    CallOk Tryz.prog 187 [.agg (programR p), .one (iV q), .one (iV i)] (.s (.one (iV (varAt p q i)))) [none, none, none] := by
  have hb := varsN_bd hmv
  have hb2 := Nat.mul_le_mul_right 1048576 hm
  have hpb := procsN_bd hpv
  have hpb2 := Nat.mul_le_mul_right (1048576 + 2) hs
  cases h1 : inB q 0 ((p.processes.length : Int) - 1)
  ·
    refine callOk_of_hcall 40 (hcall_of_body Tryz.func187 rfl (by kernel_rfl) ?_)
    simp (disch := omega) only [go_sem, Tryz.ntmps187, Tryz.results187]
    have x1 := @varAt.eq_1
    have x2 := specInB_ok q 0 ((p.processes.length : Int) - 1)
    exact wk
  · obtain ⟨q0, q1⟩ := inB_t h1
    have hql : q.toNat < p.processes.length := by omega
    have hv := hpv (p.processes.getD q.toNat processZ) (by simp [hql])
    cases h2 : inB i 0 (((p.processes.getD q.toNat processZ).vars.length : Int))
    ·
      refine callOk_of_hcall 40 (hcall_of_body Tryz.func187 rfl (by kernel_rfl) ?_)
      simp (disch := omega) only [go_sem, Tryz.ntmps187, Tryz.results187]
      have x1 := @varAt.eq_1
      have x2 := specInB_ok q 0 ((p.processes.length : Int) - 1)
      have x3 : HC 1 _ := ⟨specInB_ok i 0 (((p.processes.getD q.toNat processZ).vars.length : Int))⟩
      exact wk
    · obtain ⟨i0, i1⟩ := inB_t h2
      have hres : varAt p q i = (1 + (varsN p.monitors : Int)) + (procsN (p.processes.take q.toNat) : Int) + i := by unfold varAt; rw [h1, if_neg (by simp), h2, if_neg (by simp)] <;> omega
      have hq : ((q.toNat : Nat) : Int) = q := Int.toNat_of_nonneg q0
      have hbT := procsN_take_le p.processes q.toNat
      rw [hres]
      clear hres
      have hvs := specVars_ok p hm hmv
      refine callOk_of_hcall 40 (hcall_of_body Tryz.func187 rfl (by kernel_rfl) ?_)
      simp (disch := omega) only [go_sem, Tryz.ntmps187, Tryz.results187]
      have x1 := specInB_ok q 0 ((p.processes.length : Int) - 1)
      have x2 : HC 1 _ := ⟨specInB_ok i 0 (((p.processes.getD q.toNat processZ).vars.length : Int))⟩
      refine wkc ?_
      refine i_loop (α := {k : Nat // k ≤ q.toNat}) (fun k => ⟨mkEnv 49 [(1, .one (iV q)), (2, .one (iV i)), (3, .one (.ptr 0 0 0)), (7, .one (iV ((1 + (varsN p.monitors : Int)) + (procsN (p.processes.take k.1) : Int)))), (8, .one (iV k.1))], [.live 3 [programR p]]⟩) (fun k => q.toNat - k.1) ⟨0, by omega⟩ ?_ ?_
      · have h0 : procsN [] = 0 := rfl
        first | (refine weak_canon [1, 2, 3, 7, 8] [0] ?_ ?_ ?_ <;> (simp (disch := omega) only [go_sem, List.take_zero, h0, Int.natCast_zero, Int.add_zero, Int.cast_ofNat_Int, programR]; done)) | trace_state
      rintro ⟨k, hk⟩
      by_cases hkl : k < q.toNat
      · have hkp : k < p.processes.length := by omega
        have e : (1 + (varsN p.monitors : Int)) + (procsN (p.processes.take k) : Int) + (((p.processes.getD k processZ).vars.length : Int) + 2) = (1 + (varsN p.monitors : Int)) + ((procsN (p.processes.take (k + 1)) : Nat) : Int) := by rw [procsN_one hkp]; omega
        have g1 := procsN_take_le p.processes (k + 1)
        have g2 := procsN_take_le p.processes k
        have g3 := hpv (p.processes.getD k processZ) (by simp [hkp])
        clear hq
        simp (disch := omega) only [go_sem]
        have x1 := @Int.add_assoc
        refine wkc ?_
        all_goals refine ⟨⟨k + 1, by omega⟩, ?_, by simp only; omega⟩
        all_goals simp only [Int.add_assoc] at e
        all_goals first | (refine weak_canon [1, 2, 3, 7, 8] [0] ?_ ?_ ?_ <;> (simp (disch := omega) only [go_sem, e, Int.add_assoc, Int.reduceAdd, programR]; done)) | trace_state
      · have ek : k = q.toNat := by omega
        subst ek
        clear hq
        simp (disch := omega) only [go_sem]
        exact wk
theorem sSharedAt_ok (p : Prgm) (q i : Int) (hs : p.processes.length ≤ 1048576) (hm : p.monitors.length ≤ 1048576) (hmv : ∀ y ∈ p.monitors, y.vars.length ≤ 1048576) (hpv : ∀ y ∈ p.processes, y.vars.length ≤ 1048576) :
    CallOk Tryz.prog 188 [.agg (programR p), .one (iV q), .one (iV i)] (.s (.one (iV (sharedAt p q i)))) [none, none, none] := by
  have hb := varsN_bd hmv
  have hb2 := Nat.mul_le_mul_right 1048576 hm
  have hpb := procsN_bd hpv
  have hpb2 := Nat.mul_le_mul_right (1048576 + 2) hs
  cases h1 : inB q 0 ((p.monitors.length : Int) - 1)
  ·
    refine callOk_of_hcall 40 (hcall_of_body Tryz.func188 rfl (by kernel_rfl) ?_)
    simp (disch := omega) only [go_sem, Tryz.ntmps188, Tryz.results188]
    have x1 := @sharedAt.eq_1
    have x2 := specInB_ok q 0 ((p.monitors.length : Int) - 1)
    exact wk
  · obtain ⟨q0, q1⟩ := inB_t h1
    have hql : q.toNat < p.monitors.length := by omega
    have hv := hmv (p.monitors.getD q.toNat monitorZ) (by simp [hql])
    cases h2 : inB i 0 (((p.monitors.getD q.toNat monitorZ).vars.length : Int) - 1)
    ·
      refine callOk_of_hcall 40 (hcall_of_body Tryz.func188 rfl (by kernel_rfl) ?_)
      simp (disch := omega) only [go_sem, Tryz.ntmps188, Tryz.results188]
      have x1 := @sharedAt.eq_1
      have x2 := specInB_ok q 0 ((p.monitors.length : Int) - 1)
      have x3 : HC 1 _ := ⟨specInB_ok i 0 (((p.monitors.getD q.toNat monitorZ).vars.length : Int) - 1)⟩
      exact wk
    · obtain ⟨i0, i1⟩ := inB_t h2
      have hres : sharedAt p q i = (1 : Int) + (varsN (p.monitors.take q.toNat) : Int) + i := by unfold sharedAt; rw [h1, if_neg (by simp), h2, if_neg (by simp)] <;> omega
      have hq : ((q.toNat : Nat) : Int) = q := Int.toNat_of_nonneg q0
      have hbT := varsN_take_le p.monitors q.toNat
      rw [hres]
      clear hres
      have hvs := specVars_ok p hm hmv
      refine callOk_of_hcall 40 (hcall_of_body Tryz.func188 rfl (by kernel_rfl) ?_)
      simp (disch := omega) only [go_sem, Tryz.ntmps188, Tryz.results188]
      have x1 := specInB_ok q 0 ((p.monitors.length : Int) - 1)
      have x2 : HC 1 _ := ⟨specInB_ok i 0 (((p.monitors.getD q.toNat monitorZ).vars.length : Int) - 1)⟩
      refine wkc ?_
      refine i_loop (α := {k : Nat // k ≤ q.toNat}) (fun k => ⟨mkEnv 46 [(1, .one (iV q)), (2, .one (iV i)), (3, .one (.ptr 0 0 0)), (7, .one (iV ((1 : Int) + (varsN (p.monitors.take k.1) : Int)))), (8, .one (iV k.1))], [.live 3 [programR p]]⟩) (fun k => q.toNat - k.1) ⟨0, by omega⟩ ?_ ?_
      · have h0 : varsN [] = 0 := rfl
        first | (refine weak_canon [1, 2, 3, 7, 8] [0] ?_ ?_ ?_ <;> (simp (disch := omega) only [go_sem, List.take_zero, h0, Int.natCast_zero, Int.add_zero, Int.cast_ofNat_Int, programR]; done)) | trace_state
      rintro ⟨k, hk⟩
      by_cases hkl : k < q.toNat
      · have hkp : k < p.monitors.length := by omega
        have e : (1 : Int) + (varsN (p.monitors.take k) : Int) + ((p.monitors.getD k monitorZ).vars.length : Int) = (1 : Int) + ((varsN (p.monitors.take (k + 1)) : Nat) : Int) := by rw [varsN_one hkp]; omega
        have g1 := varsN_take_le p.monitors (k + 1)
        have g2 := varsN_take_le p.monitors k
        have g3 := hmv (p.monitors.getD k monitorZ) (by simp [hkp])
        clear hq
        simp (disch := omega) only [go_sem]
        have x1 := @Int.add_assoc
        refine wkc ?_
        all_goals refine ⟨⟨k + 1, by omega⟩, ?_, by simp only; omega⟩
        all_goals simp only [Int.add_assoc] at e
        all_goals first | (refine weak_canon [1, 2, 3, 7, 8] [0] ?_ ?_ ?_ <;> (simp (disch := omega) only [go_sem, e, Int.add_assoc, Int.reduceAdd, programR]; done)) | trace_state
      · have ek : k = q.toNat := by omega
        subst ek
        clear hq
        simp (disch := omega) only [go_sem]
        exact wk
end Go.Proofs.YtejnpiielcbkkaaGreat.E
end
section
set_option maxRecDepth 100000
set_option maxHeartbeats 4000000
namespace Go.Proofs.YtejnpiielcbkkaaGreat.E
def argAt (p : Prgm) (q : Int) : Int := if inB q 0 ((p.processes.length : Int) - 1) = false then -1 else varAt p q ((p.processes.getD q.toNat processZ).vars.length : Int)
def resultAt (p : Prgm) (q : Int) : Int := if decide (argAt p q < 0) = true then -1 else argAt p q + 1
theorem iArgAt_ok (p : Prgm) (q : Int) (hs : p.processes.length ≤ 1048576) (hm : p.monitors.length ≤ 1048576) (hmv : ∀ y ∈ p.monitors, y.vars.length ≤ 1048576) (hpv : ∀ y ∈ p.processes, y.vars.length ≤ 1048576) :
    CallOk Tryz.prog 243 [.agg (programR p), .one (iV q)] (.s (.one (iV (argAt p q)))) [none, none] := by
  cases h1 : inB q 0 ((p.processes.length : Int) - 1)
  ·
    refine callOk_of_hcall 40 (hcall_of_body Tryz.func243 rfl (by kernel_rfl) ?_)
    simp (disch := omega) only [go_sem, Tryz.ntmps243, Tryz.results243]
    have x1 := @argAt.eq_1
    have x2 : HT 3 (.fr [0, 1, 2, 3, 4, 5, 6, 7, 8] (.op [9] (.fr [10] (.stop)))) := ⟨⟩
    have x3 := isProcess_ok p q hs
    exact wk
  · obtain ⟨q0, q1⟩ := inB_t h1
    have hql : q.toNat < p.processes.length := by omega
    have hva := iVarAt_ok p q ((p.processes.getD q.toNat processZ).vars.length : Int) hs hm hmv hpv
    have hv := hpv (p.processes.getD q.toNat processZ) (by simp [hql])
    refine callOk_of_hcall 40 (hcall_of_body Tryz.func243 rfl (by kernel_rfl) ?_)
    simp (disch := omega) only [go_sem, Tryz.ntmps243, Tryz.results243]
    have x1 := @argAt.eq_1
    have x2 : HT 3 (.fr [0, 1, 2, 3, 4, 5, 6, 7, 8] (.op [9] (.fr [10] (.stop)))) := ⟨⟩
    have x3 := isProcess_ok p q hs
    exact wk
theorem argAt_bd (p : Prgm) (q : Int) (hs : p.processes.length ≤ 1048576) (hm : p.monitors.length ≤ 1048576) (hmv : ∀ y ∈ p.monitors, y.vars.length ≤ 1048576) (hpv : ∀ y ∈ p.processes, y.vars.length ≤ 1048576) : -1 ≤ argAt p q ∧ argAt p q ≤ 4611686018427387904 := by
  have hb := varsN_bd hmv
  have hb2 := Nat.mul_le_mul_right 1048576 hm
  have hpb := procsN_bd hpv
  have hpb2 := Nat.mul_le_mul_right (1048576 + 2) hs
  have hbT := procsN_take_le p.processes q.toNat
  unfold argAt
  split
  · omega
  · rename_i h1
    have h1' : inB q 0 ((p.processes.length : Int) - 1) = true := by simpa using h1
    have hql : q.toNat < p.processes.length := by have := inB_t h1'; omega
    have hv := hpv (p.processes.getD q.toNat processZ) (by simp [hql])
    unfold varAt
    split
    · omega
    · split
      · omega
      · omega
theorem iResultAt_ok (p : Prgm) (q : Int) (hs : p.processes.length ≤ 1048576) (hm : p.monitors.length ≤ 1048576) (hmv : ∀ y ∈ p.monitors, y.vars.length ≤ 1048576) (hpv : ∀ y ∈ p.processes, y.vars.length ≤ 1048576) :
    CallOk Tryz.prog 203 [.agg (programR p), .one (iV q)] (.s (.one (iV (resultAt p q)))) [none, none] := by
  have hbd := argAt_bd p q hs hm hmv hpv
  have hra : resultAt p q = if decide (argAt p q < 0) = true then -1 else argAt p q + 1 := rfl
  have hia := iArgAt_ok p q hs hm hmv hpv
  obtain ⟨a, ha⟩ : ∃ a, argAt p q = a := ⟨_, rfl⟩
  rw [ha] at hra hia hbd
  cases h1 : decide (a < 0)
  all_goals
    rw [h1] at hra
    simp only [Bool.false_eq_true, if_false, if_true] at hra
    rw [hra]
    clear hra ha
    refine callOk_of_hcall 40 (hcall_of_body Tryz.func203 rfl (by kernel_rfl) ?_)
    simp (disch := omega) only [go_sem, Tryz.ntmps203, Tryz.results203]
    exact wk
end Go.Proofs.YtejnpiielcbkkaaGreat.E
end
section
namespace Go.Proofs.YtejnpiielcbkkaaGreat.E
/-! ### The places of shared variables are all unlike -/
theorem varsN_mono (ms : List Monitor) {k k' : Nat} (h : k ≤ k') : varsN (ms.take k) ≤ varsN (ms.take k') := by
  have := varsN_take_le (ms.take k') k
  rwa [List.take_take, Nat.min_eq_left h] at this
theorem place_lt {ms : List Monitor} {k k' : Nat} {j : Nat} (h : k < k') (hk : k < ms.length) (hj : j < (ms.getD k monitorZ).vars.length) : varsN (ms.take k) + j < varsN (ms.take k') := by
  have h1 := varsN_one hk
  have h2 := varsN_mono ms (k := k + 1) (k' := k') h
  omega
theorem place_inj {ms : List Monitor} {k k' j j' : Nat} (hk : k < ms.length) (hk' : k' < ms.length) (hj : j < (ms.getD k monitorZ).vars.length) (hj' : j' < (ms.getD k' monitorZ).vars.length) (h : varsN (ms.take k) + j = varsN (ms.take k') + j') : k = k' ∧ j = j' := by
  rcases Nat.lt_trichotomy k k' with h1 | h1 | h1
  · have := place_lt h1 hk hj
    omega
  · subst h1
    exact ⟨rfl, by omega⟩
  · have := place_lt h1 hk' hj'
    omega
theorem sharedAt_in {p : Prgm} {k j : Nat} (hk : k < p.monitors.length) (hj : j < (p.monitors.getD k monitorZ).vars.length) : sharedAt p (k : Int) (j : Int) = 1 + ((varsN (p.monitors.take k) + j : Nat) : Int) := by
  have h1 : inB (k : Int) 0 ((p.monitors.length : Int) - 1) = true := inB_iff.2 ⟨by omega, by omega⟩
  have h2 : inB (j : Int) 0 (((p.monitors.getD k monitorZ).vars.length : Int) - 1) = true := inB_iff.2 ⟨by omega, by omega⟩
  unfold sharedAt
  rw [h1, if_neg (by simp), Int.toNat_natCast, h2, if_neg (by simp)]
  omega
theorem sharedAt_inj {p : Prgm} {k k' j j' : Nat} (hk : k < p.monitors.length) (hk' : k' < p.monitors.length) (hj : j < (p.monitors.getD k monitorZ).vars.length) (hj' : j' < (p.monitors.getD k' monitorZ).vars.length) (h : sharedAt p (k : Int) (j : Int) = sharedAt p (k' : Int) (j' : Int)) : k = k' ∧ j = j' := by
  rw [sharedAt_in hk hj, sharedAt_in hk' hj'] at h
  exact place_inj hk hk' hj hj' (by omega)
end Go.Proofs.YtejnpiielcbkkaaGreat.E
end
