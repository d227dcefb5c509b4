/- A part of what stands under the laws of this seat: an abstract evaluator that is proved sound, and contracts of functions by it. No condition beside those that stand in each statement. -/
import Derived.Test.YtejnpiielcbkkaaGreatZF2
import Derived.Test.YtejnpiielcbkkaaGreatZA1
set_option linter.unusedVariables false
set_option linter.unusedSimpArgs false
section
set_option maxRecDepth 100000
set_option maxHeartbeats 4000000
namespace Go.Proofs.YtejnpiielcbkkaaGreat.E
/-! ### Places of variables -/
def varsN (ms : List Monitor) : Nat := (ms.map fun m => m.vars.length).sum
def procsN (ps : List Process) : Nat := (ps.map fun x => x.vars.length + 2).sum
theorem varsN_one {ms : List Monitor} {k : Nat} (h : k < ms.length) : varsN (ms.take (k + 1)) = varsN (ms.take k) + (ms.getD k monitorZ).vars.length := by
  unfold varsN
  rw [List.take_succ_eq_append_getElem h, List.map_append, List.sum_append]; simp [h]
theorem procsN_one {ps : List Process} {k : Nat} (h : k < ps.length) : procsN (ps.take (k + 1)) = procsN (ps.take k) + ((ps.getD k processZ).vars.length + 2) := by
  unfold procsN
  rw [List.take_succ_eq_append_getElem h, List.map_append, List.sum_append]; simp [h]
theorem varsN_bd {ms : List Monitor} {b : Nat} (h : ∀ y ∈ ms, y.vars.length ≤ b) : varsN ms ≤ ms.length * b := by
  unfold varsN
  induction ms with
  | nil => simp
  | cons x xs ih =>
    have h1 := h x (List.mem_cons_self ..)
    have h2 := ih (fun y hy => h y (List.mem_cons_of_mem _ hy))
    simp only [List.map_cons, List.sum_cons, List.length_cons, Nat.add_mul, Nat.one_mul]
    omega
theorem procsN_bd {ms : List Process} {b : Nat} (h : ∀ y ∈ ms, y.vars.length ≤ b) : procsN ms ≤ ms.length * (b + 2) := by
  unfold procsN
  induction ms with
  | nil => simp
  | cons x xs ih =>
    have h1 := h x (List.mem_cons_self ..)
    have h2 := ih (fun y hy => h y (List.mem_cons_of_mem _ hy))
    simp only [List.map_cons, List.sum_cons, List.length_cons, Nat.add_mul, Nat.one_mul]
    omega
theorem varsN_take_le (ms : List Monitor) (k : Nat) : varsN (ms.take k) ≤ varsN ms := by
  unfold varsN
  conv => rhs; rw [← List.take_append_drop k ms, List.map_append, List.sum_append]
  omega
theorem procsN_take_le (ms : List Process) (k : Nat) : procsN (ms.take k) ≤ procsN ms := by
  unfold procsN
  conv => rhs; rw [← List.take_append_drop k ms, List.map_append, List.sum_append]
  omega
theorem sharedSize_ok (ms : List Monitor) (hs : ms.length ≤ 1048576) (hv : ∀ y ∈ ms, y.vars.length ≤ 1048576) : CallOk Tryz.prog 242 [.one (.ro 4 (monitorsD ms))] (.s (.one (iV (varsN ms)))) [none] := by
  have hb := varsN_bd hv
  have hb2 := Nat.mul_le_mul_right 1048576 hs
  refine callOk_of_hcall 40 (hcall_of_body Tryz.func242 rfl (by kernel_rfl) ?_)
  simp (disch := omega) only [go_sem, Tryz.ntmps242, Tryz.results242]
  refine wkc ?_
  refine i_loop (α := {k : Nat // k ≤ ms.length}) (fun k => ⟨mkEnv 19 [(3, .one (iV (varsN (ms.take k.1)))), (6, .one (.ro 4 (monitorsD ms))), (7, .one (iV ms.length)), (8, .one (iV k.1))], []⟩) (fun k => ms.length - k.1) ⟨0, by omega⟩ ?_ ?_
  · have h0 : varsN [] = 0 := rfl
    first | (refine weak_canon [3, 6, 7, 8] [] ?_ ?_ ?_ <;> (simp (disch := omega) only [go_sem, List.take_zero, h0, Int.natCast_zero, Int.ofNat_zero, Int.cast_ofNat_Int]; done)) | trace_state
  rintro ⟨k, hk⟩
  by_cases hkl : k < ms.length
  · have e : ((varsN (ms.take k) : Nat) : Int) + ((ms.getD k monitorZ).vars.length : Int) = ((varsN (ms.take (k + 1)) : Nat) : Int) := by rw [varsN_one hkl]; omega
    have h1 := varsN_take_le ms (k + 1)
    have h2 := varsN_take_le ms k
    have h3 := hv (ms.getD k monitorZ) (by simp [hkl])
    simp (disch := omega) only [go_sem]
    refine wkc ?_
    all_goals refine ⟨⟨k + 1, by omega⟩, ?_, by simp only; omega⟩
    all_goals first | (refine weak_canon [3, 6, 7, 8] [] ?_ ?_ ?_ <;> (simp (disch := omega) only [go_sem, e]; done)) | trace_state
  · have ek : ms.take k = ms := List.take_of_length_le (by omega)
    simp (disch := omega) only [go_sem]
    exact wk
end Go.Proofs.YtejnpiielcbkkaaGreat.E
end
section
set_option maxRecDepth 100000
set_option maxHeartbeats 4000000
namespace Go.Proofs.YtejnpiielcbkkaaGreat.E
def varAt (p : Prgm) (q i : Int) : Int :=
  if inB q 0 ((p.processes.length : Int) - 1) = false then -1
  else if inB i 0 ((p.processes.getD q.toNat processZ).vars.length : Int) = false then -1
  else 1 + (varsN p.monitors : Int) + i + (procsN (p.processes.take q.toNat) : Int)
theorem isProcess_ok (p : Prgm) (q : Int) (hs : p.processes.length ≤ 1048576) : CallOk Tryz.prog 201 [.agg (programR p), .one (iV q)] (.s (.one (bV (inB q 0 ((p.processes.length : Int) - 1))))) [none, none] := by
  refine callOk_of_hcall 40 (hcall_of_body Tryz.func201 rfl (by kernel_rfl) ?_)
  simp (disch := omega) only [go_sem, Tryz.ntmps201, Tryz.results201]
  have x1 := within_ok q 0 ((p.processes.length : Int) - 1)
  exact wk
theorem iVarAt_ok (p : Prgm) (q i : Int) (hs : p.processes.length ≤ 1048576) (hm : p.monitors.length ≤ 1048576) (hmv : ∀ y ∈ p.monitors, y.vars.length ≤ 1048576) (hpv : ∀ y ∈ p.processes, y.vars.length ≤ 1048576) :
    CallOk Tryz.prog 202 [.agg (programR p), .one (iV q), .one (iV i)] (.s (.one (iV (varAt p q i)))) [none, none, none] := by
  have hb := varsN_bd hmv
  have hb2 := Nat.mul_le_mul_right 1048576 hm
  have hpb := procsN_bd hpv
  have hpb2 := Nat.mul_le_mul_right (1048576 + 2) hs
  cases h1 : inB q 0 ((p.processes.length : Int) - 1)
  ·
    refine callOk_of_hcall 40 (hcall_of_body Tryz.func202 rfl (by kernel_rfl) ?_)
    simp (disch := omega) only [go_sem, Tryz.ntmps202, Tryz.results202]
    have x1 := @varAt.eq_1
    have x2 := isProcess_ok p q hs
    exact wk
  · obtain ⟨q0, q1⟩ := inB_t h1
    have hql : q.toNat < p.processes.length := by omega
    have hv := hpv (p.processes.getD q.toNat processZ) (by simp [hql])
    cases h2 : inB i 0 ((p.processes.getD q.toNat processZ).vars.length : Int)
    ·
      refine callOk_of_hcall 40 (hcall_of_body Tryz.func202 rfl (by kernel_rfl) ?_)
      simp (disch := omega) only [go_sem, Tryz.ntmps202, Tryz.results202]
      have x1 := @varAt.eq_1
      have x2 := isProcess_ok p q hs
      have x3 := within_ok i 0 ((p.processes.getD q.toNat processZ).vars.length : Int)
      exact wk
    · obtain ⟨i0, i1⟩ := inB_t h2
      have hsz := sharedSize_ok p.monitors hm hmv
      have hres : varAt p q i = 1 + (varsN p.monitors : Int) + i + (procsN (p.processes.take q.toNat) : Int) := by unfold varAt; rw [h1, if_neg (by simp), h2, if_neg (by simp)]
      rw [hres]
      clear hres
      refine callOk_of_hcall 40 (hcall_of_body Tryz.func202 rfl (by kernel_rfl) ?_)
      simp (disch := omega) only [go_sem, Tryz.ntmps202, Tryz.results202]
      repeat' (first | (with_reducible first | refine i_seq ?_) | ((first | (with_reducible first | refine i_block ?_ | refine i_regionQ (fun Q' hQ => ?_) | (refine Imp.go hQ ?_; clear hQ)) | ((with_reducible refine i_condT ?_ ?_); (focus (simp only [go_sem, *]; done))) | ((with_reducible refine i_condF ?_ ?_); (focus (simp only [go_sem, *]; done))) | ((with_reducible first | refine resOk_g (fun h => ?_) (fun h => ?_) | refine i_cond (by simp only [go_sem, *] <;> rfl) (fun h => ?_) (fun h => ?_)) <;> (try simp only [Bool.not_eq_eq_eq_not, Bool.not_true, Bool.not_false, reduceCtorEq] at h) <;> (try have h' := of_decide_eq_true h) <;> (try (have hz : (_ : Int) = (_ : Int) := h'; clear hz h')) <;> (try have h' := of_decide_eq_false h) <;> (try have h' := inB_t h) <;> (try (exfalso; omega))) | (((with_reducible first | refine hcall_of_callOk 40 true (isProcess_ok p q hs) ?_ ?_ ?_ ?_ ?_ | refine hcall_of_callOk 40 true (within_ok i 0 ((p.processes.getD q.toNat processZ).vars.length : Int)) ?_ ?_ ?_ ?_ ?_ | refine hcall_of_callOk 40 true (hsz) ?_ ?_ ?_ ?_ ?_); iterate 4 (focus (simp (disch := omega) only [go_sem, h1, h2, reduceCtorEq, natLe_ok]; done))); simp only [go_sem, h1, h2, reduceCtorEq]; refine aL_run ?_)) <;> (try simp (disch := omega) only [go_sem, h1, h2, reduceCtorEq, *])))
      all_goals (try simp (disch := omega) only [EndK, go_sem, h1, h2, reduceCtorEq, natLe_ok, *])
      obtain ⟨ps, hps⟩ : ∃ ps, p.processes.take q.toNat = ps := ⟨_, rfl⟩
      have hp1 : procsN ps ≤ procsN p.processes := by rw [← hps]; exact procsN_take_le _ _
      have hp2 : ps.length ≤ 1048576 := by rw [← hps, List.length_take]; omega
      have hp3 : ∀ y ∈ ps, y.vars.length ≤ 1048576 := fun y hy => hpv y (List.mem_of_mem_take (by rw [hps]; exact hy))
      simp only [hps]
      refine i_loop (α := {k : Nat // k ≤ ps.length}) (fun k => ⟨mkEnv 49 [(7, .one (iV (1 + (varsN p.monitors : Int) + i + (procsN (ps.take k.1) : Int)))), (35, .one (.ro 4 (processsD ps))), (36, .one (iV ps.length)), (37, .one (iV k.1))], []⟩) (fun k => ps.length - k.1) ⟨0, by omega⟩ ?_ ?_
      · have h0 : procsN [] = 0 := rfl
        first | (refine weak_canon [7, 35, 36, 37] [] ?_ ?_ ?_ <;> (simp (disch := omega) only [go_sem, List.take_zero, h0, Int.natCast_zero, Int.add_zero, Int.cast_ofNat_Int]; done)) | trace_state
      rintro ⟨k, hk⟩
      by_cases hkl : k < ps.length
      · have e : 1 + (varsN p.monitors : Int) + i + (procsN (ps.take k) : Int) + ((ps.getD k processZ).vars.length + 2 : Int) = 1 + (varsN p.monitors : Int) + i + ((procsN (ps.take (k + 1)) : Nat) : Int) := by rw [procsN_one hkl]; omega
        have g1 := procsN_take_le ps (k + 1)
        have g2 := procsN_take_le ps k
        have g3 := hp3 (ps.getD k processZ) (by simp [hkl])
        simp (disch := omega) only [go_sem]
        refine wkc ?_
        all_goals refine ⟨⟨k + 1, by omega⟩, ?_, by simp only; omega⟩
        all_goals first | (refine weak_canon [7, 35, 36, 37] [] ?_ ?_ ?_ <;> (simp (disch := omega) only [go_sem, e]; done)) | trace_state
      · have ek : ps.take k = ps := List.take_of_length_le (by omega)
        simp (disch := omega) only [go_sem]
        exact wk
end Go.Proofs.YtejnpiielcbkkaaGreat.E
end
section
set_option maxRecDepth 100000
set_option maxHeartbeats 4000000
namespace Go.Proofs.YtejnpiielcbkkaaGreat.E
def sharedAt (p : Prgm) (m i : Int) : Int :=
  if inB m 0 ((p.monitors.length : Int) - 1) = false then -1
  else if inB i 0 (((p.monitors.getD m.toNat monitorZ).vars.length : Int) - 1) = false then -1
  else 1 + (varsN (p.monitors.take m.toNat) : Int) + i
theorem isMonitor_ok (p : Prgm) (q : Int) (hs : p.monitors.length ≤ 1048576) : CallOk Tryz.prog 244 [.agg (programR p), .one (iV q)] (.s (.one (bV (inB q 0 ((p.monitors.length : Int) - 1))))) [none, none] := by
  refine callOk_of_hcall 40 (hcall_of_body Tryz.func244 rfl (by kernel_rfl) ?_)
  simp (disch := omega) only [go_sem, Tryz.ntmps244, Tryz.results244]
  have x1 := within_ok q 0 ((p.monitors.length : Int) - 1)
  exact wk
theorem iSharedAt_ok (p : Prgm) (q i : Int) (hm : p.monitors.length ≤ 1048576) (hmv : ∀ y ∈ p.monitors, y.vars.length ≤ 1048576) :
    CallOk Tryz.prog 204 [.agg (programR p), .one (iV q), .one (iV i)] (.s (.one (iV (sharedAt p q i)))) [none, none, none] := by
  have hb := varsN_bd hmv
  have hb2 := Nat.mul_le_mul_right 1048576 hm
  have hb3 := varsN_take_le p.monitors q.toNat
  cases h1 : inB q 0 ((p.monitors.length : Int) - 1)
  ·
    refine callOk_of_hcall 40 (hcall_of_body Tryz.func204 rfl (by kernel_rfl) ?_)
    simp (disch := omega) only [go_sem, Tryz.ntmps204, Tryz.results204]
    have x1 := @sharedAt.eq_1
    have x2 := isMonitor_ok p q hm
    exact wk
  · obtain ⟨q0, q1⟩ := inB_t h1
    have hql : q.toNat < p.monitors.length := by omega
    have hv := hmv (p.monitors.getD q.toNat monitorZ) (by simp [hql])
    have hsz := sharedSize_ok (p.monitors.take q.toNat) (by rw [List.length_take]; omega) (fun y hy => hmv y (List.mem_of_mem_take hy))
    cases h2 : inB i 0 (((p.monitors.getD q.toNat monitorZ).vars.length : Int) - 1)
    ·
      refine callOk_of_hcall 40 (hcall_of_body Tryz.func204 rfl (by kernel_rfl) ?_)
      simp (disch := omega) only [go_sem, Tryz.ntmps204, Tryz.results204]
      have x1 := @sharedAt.eq_1
      have x2 := isMonitor_ok p q hm
      have x3 := within_ok i 0 (((p.monitors.getD q.toNat monitorZ).vars.length : Int) - 1)
      exact wk
    · obtain ⟨i0, i1⟩ := inB_t h2
      refine callOk_of_hcall 40 (hcall_of_body Tryz.func204 rfl (by kernel_rfl) ?_)
      simp (disch := omega) only [go_sem, Tryz.ntmps204, Tryz.results204]
      have x1 := @sharedAt.eq_1
      have x2 := isMonitor_ok p q hm
      have x3 := within_ok i 0 (((p.monitors.getD q.toNat monitorZ).vars.length : Int) - 1)
      exact wk
theorem specVars_ok (p : Prgm) (hm : p.monitors.length ≤ 1048576) (hmv : ∀ y ∈ p.monitors, y.vars.length ≤ 1048576) : CallOk Tryz.prog 229 [.agg (programR p)] (.s (.one (iV (varsN p.monitors)))) [none] := by
  have hb := varsN_bd hmv
  have hb2 := Nat.mul_le_mul_right 1048576 hm
  refine callOk_of_hcall 40 (hcall_of_body Tryz.func229 rfl (by kernel_rfl) ?_)
  simp (disch := omega) only [go_sem, Tryz.ntmps229, Tryz.results229]
  refine wkc ?_
  refine i_loop (α := {k : Nat // k ≤ p.monitors.length}) (fun k => ⟨mkEnv 22 [(1, .one (.ptr 0 0 0)), (3, .one (iV (varsN (p.monitors.take k.1)))), (4, .one (iV k.1))], [.live 3 [programR p]]⟩) (fun k => p.monitors.length - k.1) ⟨0, by omega⟩ ?_ ?_
  · have h0 : varsN [] = 0 := rfl
    first | (refine weak_canon [1, 3, 4] [0] ?_ ?_ ?_ <;> (simp (disch := omega) only [go_sem, List.take_zero, h0, Int.natCast_zero, Int.cast_ofNat_Int, programR]; done)) | trace_state
  rintro ⟨k, hk⟩
  by_cases hkl : k < p.monitors.length
  · have e : ((varsN (p.monitors.take k) : Nat) : Int) + ((p.monitors.getD k monitorZ).vars.length : Int) = ((varsN (p.monitors.take (k + 1)) : Nat) : Int) := by rw [varsN_one hkl]; omega
    have h1 := varsN_take_le p.monitors (k + 1)
    have h2 := varsN_take_le p.monitors k
    have h3 := hmv (p.monitors.getD k monitorZ) (by simp [hkl])
    simp (disch := omega) only [go_sem]
    refine wkc ?_
    all_goals refine ⟨⟨k + 1, by omega⟩, ?_, by simp only; omega⟩
    all_goals first | (refine weak_canon [1, 3, 4] [0] ?_ ?_ ?_ <;> (simp (disch := omega) only [go_sem, e, programR]; done)) | trace_state
  · have ek : p.monitors.take k = p.monitors := List.take_of_length_le (by omega)
    simp (disch := omega) only [go_sem]
    exact wk
end Go.Proofs.YtejnpiielcbkkaaGreat.E
end
