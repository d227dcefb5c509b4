/- A part of what stands under the laws of this seat: an abstract evaluator that is proved sound, and contracts of functions by it. No condition beside those that stand in each statement. -/
import Derived.Test.YtejnpiielcbkkaaGreatZT7
import Derived.Test.YtejnpiielcbkkaaGreatZK23
set_option linter.unusedVariables false
set_option linter.unusedSimpArgs false
section
set_option maxRecDepth 100000
set_option maxHeartbeats 4000000
namespace Go.Proofs.YtejnpiielcbkkaaGreat.E
theorem sMayTouch_ok (p : Prgm) (m : Machine) (q a : Int) (hs : p.processes.length ≤ 1048576) (hm : p.monitors.length ≤ 1048576) (hmv : ∀ y ∈ p.monitors, y.vars.length ≤ 1048576) (hpv : ∀ y ∈ p.processes, y.vars.length ≤ 1048576) (hg : m.kernel.gates.length ≤ 68719476736) :
    CallOk Tryz.prog 128 [.agg (programR p), .agg (machineR m), .one (iV q), .one (iV a)] (.s (.one (bV (mayTouch p m.kernel.gates q a)))) [none, none, none, none] := by
  have hv := sVarAt_ok p q 0 hs hm hmv hpv
  have hvb := varAt_bd p q 0 hs hm hmv hpv
  cases h0 : (a == 0)
  · cases h1 : inB q 0 ((p.processes.length : Int) - 1)
    ·
      refine callOk_of_hcall 40 (hcall_of_body Tryz.func128 rfl (by kernel_rfl) ?_)
      simp (disch := omega) only [go_sem, Tryz.ntmps128, Tryz.results128]
      have x1 := @mayTouch.eq_1
      have x2 := specInB_ok q 0 ((p.processes.length : Int) - 1)
      exact wk
    · obtain ⟨q0, q1⟩ := inB_t h1
      have hql : q.toNat < p.processes.length := by omega
      have hpl := hpv (p.processes.getD q.toNat processZ) (by simp [hql])
      have hri := result_is h1
      cases h2 : inB a (varAt p q 0) (resultAt p q)
      · have hres : mayTouch p m.kernel.gates q a = mayAny p m.kernel.gates q a := by unfold mayTouch; rw [h0, if_neg (by simp), h1, if_neg (by simp), h2, if_neg (by simp)]
        rw [hres]
        clear hres
        rw [hri] at h2
        clear hri
        obtain ⟨v, hvv⟩ : ∃ v, varAt p q 0 = v := ⟨_, rfl⟩
        rw [hvv] at h2 hv hvb
        clear hvv
        refine callOk_of_hcall 40 (hcall_of_body Tryz.func128 rfl (by kernel_rfl) ?_)
        simp (disch := omega) only [go_sem, Tryz.ntmps128, Tryz.results128]
        repeat' (first | (with_reducible first | refine i_seq ?_) | ((first | (with_reducible first | refine i_block ?_ | refine i_regionQ (fun Q' hQ => ?_) | (refine Imp.go hQ ?_; clear hQ)) | ((with_reducible refine i_condT ?_ ?_); (focus (simp only [go_sem, *]; done))) | ((with_reducible refine i_condF ?_ ?_); (focus (simp only [go_sem, *]; done))) | ((with_reducible first | refine resOk_g (fun h => ?_) (fun h => ?_) | refine i_cond (by simp only [go_sem, *] <;> rfl) (fun h => ?_) (fun h => ?_)) <;> (try simp only [Bool.not_eq_eq_eq_not, Bool.not_true, Bool.not_false, reduceCtorEq] at h) <;> (try have h' := of_decide_eq_true h) <;> (try (have hz : (_ : Int) = (_ : Int) := h'; clear hz h')) <;> (try have h' := of_decide_eq_false h) <;> (try have h' := inB_t h) <;> (try (exfalso; omega))) | ((first | ((with_reducible first | refine hcall_of_callOk 40 true (hv) ?_ ?_ ?_ ?_ ?_); iterate 4 (focus (simp (disch := omega) only [go_sem, h0, h1, h2, reduceCtorEq, natLe_ok]; done))) | ((with_reducible refine hcall_of_callOk 40 true (specInB_ok q 0 ((p.processes.length : Int) - 1)) ?_ ?_ ?_ ?_ ?_); iterate 4 (focus (simp (disch := omega) only [go_sem, h0, h1, h2, reduceCtorEq, natLe_ok]; done))) | ((with_reducible refine hcall_of_callOk 40 true (specInB_ok a v (v + ((p.processes.getD q.toNat processZ).vars.length : Int) + 1)) ?_ ?_ ?_ ?_ ?_); iterate 4 (focus (simp (disch := omega) only [go_sem, h0, h1, h2, reduceCtorEq, natLe_ok]; done)))); simp only [go_sem, h0, h1, h2, reduceCtorEq]; refine aL_run ?_)) <;> (try simp (disch := omega) only [go_sem, h0, h1, h2, reduceCtorEq, *])))
        all_goals (try simp (disch := omega) only [EndK, go_sem, h0, h1, h2, reduceCtorEq, natLe_ok, *])
        clear hv hvb h0 h1 h2 hpl hql q0 q1
        refine i_loop (α := {k : Nat // k ≤ p.monitors.length ∧ (List.range k).any (fitIn p a) = false}) (fun k => ⟨mkEnv 78 [(2, .one (iV q)), (3, .one (iV a)), (4, .one (.ptr 0 0 0)), (5, .one (.ptr 1 0 0)), (10, .one (iV k.1))], [.live 3 [programR p], .live 12 [machineR m]]⟩) (fun k => p.monitors.length - k.1) ⟨0, by omega, rfl⟩ ?_ ?_
        · first | (refine weak_canon [2, 3, 4, 5, 10] [0, 1] ?_ ?_ ?_ <;> (simp (disch := omega) only [go_sem, programR, machineR]; done)) | trace_state
        rintro ⟨k, hk, hp⟩
        by_cases hkl : k < p.monitors.length
        · by_cases hkg : k < m.kernel.gates.length
          · have hyv := hmv (p.monitors.getD k monitorZ) (by simp [hkl])
            have hone := any_rng (f := fitIn p a) k
            rw [hp, Bool.false_or] at hone
            have d1 : decide ((k : Int) < (p.monitors.length : Int)) = true := decide_eq_true (by omega)
            have d2 : decide ((k : Int) < (m.kernel.gates.length : Int)) = true := decide_eq_true (by omega)
            simp (disch := omega) only [go_sem]
            refine wkc ?_
            refine i_hide fun Q hE => ?_
            refine i_loop (α := {j : Nat // j ≤ (p.monitors.getD k monitorZ).vars.length ∧ (List.range j).any (fun j => a == sharedAt p k j) = false}) (fun j => ⟨mkEnv 78 [(2, .one (iV q)), (3, .one (iV a)), (4, .one (.ptr 0 0 0)), (5, .one (.ptr 1 0 0)), (10, .one (iV k)), (11, .one (iV j.1))], [.live 3 [programR p], .live 12 [machineR m]]⟩) (fun j => (p.monitors.getD k monitorZ).vars.length - j.1) ⟨0, by omega, rfl⟩ ?_ ?_
            · first | (refine weak_canon [2, 3, 4, 5, 10, 11] [0, 1] ?_ ?_ ?_ <;> (simp (disch := omega) only [go_sem, programR, machineR]; done)) | trace_state
            rintro ⟨j, hj, hpj⟩
            by_cases hjl : j < (p.monitors.getD k monitorZ).vars.length
            · have honej := any_rng (f := fun j => a == sharedAt p k j) j
              rw [hpj, Bool.false_or] at honej
              have hsa := sSharedAt_ok p k j hs hm hmv hpv
              have d3 : decide ((j : Int) < ((p.monitors.getD k monitorZ).vars.length : Int)) = true := decide_eq_true (by omega)
              cases g3 : (a == sharedAt p k j)
              · rw [g3] at honej
                have g4 : (sharedAt p k j == a) = false := by rw [BEq.comm]; exact g3
                simp (disch := omega) only [go_sem]
                refine wkc ?_
                all_goals refine ⟨⟨j + 1, by omega, honej⟩, ?_, by simp only; omega⟩
                all_goals first | (refine weak_canon [2, 3, 4, 5, 10, 11] [0, 1] ?_ ?_ ?_ <;> (simp (disch := omega) only [go_sem, programR, machineR]; done)) | trace_state
              · have g4 : (sharedAt p k j == a) = true := by rw [BEq.comm]; exact g3
                have hres : mayAny p m.kernel.gates q a = ((m.kernel.gates.getD k gateZ).owner == q) := mayAny_at hkl hkg (any_rng_true hjl g3)
                clear honej hone
                simp (disch := omega) only [go_sem]
                exact wk
            · have hf : fitIn p a k = false := by
                have : j = nVars p k := by unfold nVars; omega
                unfold fitIn; rw [← this]; exact hpj
              have d3 : decide ((j : Int) < ((p.monitors.getD k monitorZ).vars.length : Int)) = false := decide_eq_false (by omega)
              rw [hf] at hone
              simp (disch := omega) only [go_sem]
              refine wkc ?_
              all_goals refine ⟨⟨k + 1, by omega, hone⟩, ?_, by simp only; omega⟩
              all_goals first | (refine weak_canon [2, 3, 4, 5, 10] [0, 1] ?_ ?_ ?_ <;> (simp (disch := omega) only [go_sem, programR, machineR]; done)) | trace_state
          · have hres : mayAny p m.kernel.gates q a = false := mayAny_none hp (by omega)
            have d1 : decide ((k : Int) < (p.monitors.length : Int)) = true := decide_eq_true (by omega)
            have d2 : decide ((k : Int) < (m.kernel.gates.length : Int)) = false := decide_eq_false (by omega)
            simp (disch := omega) only [go_sem]
            exact wk
        · have hres : mayAny p m.kernel.gates q a = false := mayAny_none hp (by omega)
          have d1 : decide ((k : Int) < (p.monitors.length : Int)) = false := decide_eq_false (by omega)
          simp (disch := omega) only [go_sem]
          exact wk
      · rw [hri] at h2
        have hmt : mayTouch p m.kernel.gates q a = true := by unfold mayTouch; rw [h0, if_neg (by simp), h1, if_neg (by simp), hri, h2, if_pos rfl]
        clear hri
        obtain ⟨v, hvv⟩ : ∃ v, varAt p q 0 = v := ⟨_, rfl⟩
        rw [hvv] at h2 hv hvb
        rw [hmt]
        clear hvv hmt
        refine callOk_of_hcall 40 (hcall_of_body Tryz.func128 rfl (by kernel_rfl) ?_)
        simp (disch := omega) only [go_sem, Tryz.ntmps128, Tryz.results128]
        have x1 := specInB_ok q 0 ((p.processes.length : Int) - 1)
        have x2 : HC 1 _ := ⟨specInB_ok a v (v + ((p.processes.getD q.toNat processZ).vars.length : Int) + 1)⟩
        exact wk
  ·
    refine callOk_of_hcall 40 (hcall_of_body Tryz.func128 rfl (by kernel_rfl) ?_)
    simp (disch := omega) only [go_sem, Tryz.ntmps128, Tryz.results128]
    have x1 := @mayTouch.eq_1
    exact wk
end Go.Proofs.YtejnpiielcbkkaaGreat.E
end
section
set_option maxRecDepth 100000
set_option maxHeartbeats 4000000
namespace Go.Proofs.YtejnpiielcbkkaaGreat.E
/-! ### Whether a core touches what it may, plainly; a run that is watched -/
def atOf (m : Machine) (i : Int) : Int := touchOf m.image.text (coreAt m i).pc
def touchRight (p : Prgm) (m : Machine) (i : Int) : Bool :=
  if inB i 0 ((m.cores.length : Int) - 1) = false then true
  else if decide ((coreAt m i).process < 0) = true then true
  else if decide (atOf m i < 0) = true then true
  else if mayTouch p m.kernel.gates (coreAt m i).process (atOf m i) = false then false
  else if (atOf m i != 0) = true then true
  else ((wordAt m.image.text (coreAt m i).pc).1.op == 9)
def wN (p : Prgm) (n : Int) (m : Machine) (picks : List Int) (k : Nat) : Nat := ((List.range k).filter (fun j => !touchRight p (runP n m (picks.take j)) ((picks.getD j 0).tmod n))).length
theorem wN_zero (p : Prgm) (n : Int) (m : Machine) (picks : List Int) : wN p n m picks 0 = 0 := rfl
theorem wN_le (p : Prgm) (n : Int) (m : Machine) (picks : List Int) (k : Nat) : wN p n m picks k ≤ k := by
  have := List.length_filter_le (fun j => !touchRight p (runP n m (picks.take j)) ((picks.getD j 0).tmod n)) (List.range k)
  rw [List.length_range] at this
  exact this
theorem wN_yes {p : Prgm} {n : Int} {m : Machine} {picks : List Int} {k : Nat} (h : touchRight p (runP n m (picks.take k)) ((picks.getD k 0).tmod n) = true) : wN p n m picks (k + 1) = wN p n m picks k := by
  unfold wN
  rw [List.range_succ, List.filter_append, List.length_append, List.filter_cons_of_neg (by rw [h]; decide), List.filter_nil]
  rfl
theorem wN_no {p : Prgm} {n : Int} {m : Machine} {picks : List Int} {k : Nat} (h : touchRight p (runP n m (picks.take k)) ((picks.getD k 0).tmod n) = false) : wN p n m picks (k + 1) = wN p n m picks k + 1 := by
  unfold wN
  rw [List.range_succ, List.filter_append, List.length_append, List.filter_cons_of_pos (by rw [h]; decide), List.filter_nil]
  rfl
theorem touchOf_pos {text : List Int} {pc : Int} (h : decide (touchOf text pc < 0) = false) : (wordAt text pc).2 = true ∧ usesMem (wordAt text pc).1 = true ∧ touchOf text pc = (wordAt text pc).1.c ∧ 0 ≤ pc ∧ pc < text.length := by
  have h' := of_decide_eq_false h
  unfold touchOf at h' ⊢
  cases h1 : (wordAt text pc).2
  · rw [h1, if_pos rfl] at h'; omega
  · cases h2 : usesMem (wordAt text pc).1
    · rw [h1, if_neg (by simp), h2, if_pos rfl] at h'; omega
    · refine ⟨rfl, rfl, by rw [if_neg (by simp), if_neg (by simp)], ?_⟩
      unfold wordAt at h1
      split at h1
      · rename_i hb; have := inB_t hb; omega
      · cases h1
end Go.Proofs.YtejnpiielcbkkaaGreat.E
end
section
set_option maxRecDepth 100000
set_option maxHeartbeats 4000000
namespace Go.Proofs.YtejnpiielcbkkaaGreat.E
theorem touchRight_is {p : Prgm} {m : Machine} {i : Int} {c : Core} {a : Int} {x : Ins} {ok : Bool} (hc : m.cores.getD i.toNat coreZ = c) (ha : touchOf m.image.text c.pc = a) (hw : wordAt m.image.text c.pc = (x, ok)) :
    touchRight p m i = if inB i 0 ((m.cores.length : Int) - 1) = false then true else if decide (c.process < 0) = true then true else if decide (a < 0) = true then true else if mayTouch p m.kernel.gates c.process a = false then false else if (a != 0) = true then true else (x.op == 9) := by
  unfold touchRight atOf coreAt
  rw [hc, ha, hw]
theorem iTouchRight_ok (p : Prgm) (m : Machine) (i : Int) (hsp : smProgram p) (hmm : mdMachine m) :
    CallOk Tryz.prog 65 [.agg (programR p), .agg (machineR m), .one (iV i)] (.s (.one (bV (touchRight p m i)))) [none, none, none] := by
  have hcs : m.cores.length ≤ 68719476736 := hmm.2.2.1.1
  have htx : m.image.text.length ≤ 1099511627776 := hmm.1.1
  have hgs : m.kernel.gates.length ≤ 68719476736 := hmm.2.2.2.1.1.1
  obtain ⟨c, hc⟩ : ∃ c, m.cores.getD i.toNat coreZ = c := ⟨_, rfl⟩
  obtain ⟨a, ha⟩ : ∃ a, touchOf m.image.text c.pc = a := ⟨_, rfl⟩
  obtain ⟨⟨x, ok⟩, hw⟩ : ∃ y, wordAt m.image.text c.pc = y := ⟨_, rfl⟩
  have hmt := iMayTouch_ok p m c.process a hsp.2.2.1 hsp.2.1.1 (fun y hy => (hsp.2.1.2 y hy).2.1.1) (fun y hy => (hsp.2.2.2 y hy).2.2.1) hgs
  have hto := iTouchOf_ok m.image.text c.pc htx
  have hwo := wordAt_ok m.image.text c.pc htx
  have hr := touchRight_is (p := p) (i := i) hc ha hw
  rw [ha] at hto
  rw [hw] at hwo
  clear ha hw
  clear hsp hmm
  cases h1 : inB i 0 ((m.cores.length : Int) - 1)
  · rw [h1, if_pos rfl] at hr
    rw [hr]
    clear hr hmt hto hwo
    refine callOk_of_hcall 40 (hcall_of_body Tryz.func65 rfl (by kernel_rfl) ?_)
    simp (disch := omega) only [go_sem, Tryz.ntmps65, Tryz.results65]
    have x1 := within_ok i 0 ((m.cores.length : Int) - 1)
    exact wk
  · obtain ⟨i0, i1⟩ := inB_t h1
    rw [h1, if_neg (by simp)] at hr
    cases h2 : decide (c.process < 0)
    · rw [h2, if_neg (by simp)] at hr
      cases h3 : decide (a < 0)
      · rw [h3, if_neg (by simp)] at hr
        cases h4 : mayTouch p m.kernel.gates c.process a
        · rw [h4] at hr hmt
          rw [if_pos rfl] at hr
          rw [hr]
          clear hr
          refine callOk_of_hcall 40 (hcall_of_body Tryz.func65 rfl (by kernel_rfl) ?_)
          simp (disch := omega) only [go_sem, Tryz.ntmps65, Tryz.results65]
          have x1 := within_ok i 0 ((m.cores.length : Int) - 1)
          exact wk
        · rw [h4] at hr hmt
          rw [if_neg (by simp)] at hr
          cases h5 : (a != 0)
          · rw [h5, if_neg (by simp)] at hr
            rw [hr]
            clear hr
            refine callOk_of_hcall 40 (hcall_of_body Tryz.func65 rfl (by kernel_rfl) ?_)
            simp (disch := omega) only [go_sem, Tryz.ntmps65, Tryz.results65]
            have x1 := within_ok i 0 ((m.cores.length : Int) - 1)
            exact wk
          · rw [h5, if_pos rfl] at hr
            rw [hr]
            clear hr
            refine callOk_of_hcall 40 (hcall_of_body Tryz.func65 rfl (by kernel_rfl) ?_)
            simp (disch := omega) only [go_sem, Tryz.ntmps65, Tryz.results65]
            have x1 := within_ok i 0 ((m.cores.length : Int) - 1)
            exact wk
      · rw [h3, if_pos rfl] at hr
        rw [hr]
        clear hr hmt
        refine callOk_of_hcall 40 (hcall_of_body Tryz.func65 rfl (by kernel_rfl) ?_)
        simp (disch := omega) only [go_sem, Tryz.ntmps65, Tryz.results65]
        have x1 := within_ok i 0 ((m.cores.length : Int) - 1)
        exact wk
    · rw [h2, if_pos rfl] at hr
      rw [hr]
      clear hr hmt hto hwo
      refine callOk_of_hcall 40 (hcall_of_body Tryz.func65 rfl (by kernel_rfl) ?_)
      simp (disch := omega) only [go_sem, Tryz.ntmps65, Tryz.results65]
      have x1 := within_ok i 0 ((m.cores.length : Int) - 1)
      exact wk
theorem sTouchRight_ok (p : Prgm) (m : Machine) (i : Int) (hsp : smProgram p) (hmm : mdMachine m) :
    CallOk Tryz.prog 54 [.agg (programR p), .agg (machineR m), .one (iV i)] (.s (.one (bV (touchRight p m i)))) [none, none, none] := by
  have hcs : m.cores.length ≤ 68719476736 := hmm.2.2.1.1
  have htx : m.image.text.length ≤ 1099511627776 := hmm.1.1
  have hgs : m.kernel.gates.length ≤ 68719476736 := hmm.2.2.2.1.1.1
  obtain ⟨c, hc⟩ : ∃ c, m.cores.getD i.toNat coreZ = c := ⟨_, rfl⟩
  obtain ⟨a, ha⟩ : ∃ a, touchOf m.image.text c.pc = a := ⟨_, rfl⟩
  obtain ⟨⟨x, ok⟩, hw⟩ : ∃ y, wordAt m.image.text c.pc = y := ⟨_, rfl⟩
  have hmt := sMayTouch_ok p m c.process a hsp.2.2.1 hsp.2.1.1 (fun y hy => (hsp.2.1.2 y hy).2.1.1) (fun y hy => (hsp.2.2.2 y hy).2.2.1) hgs
  have hto := sTouchOf_ok m.image.text c.pc htx
  have hr := touchRight_is (p := p) (i := i) hc ha hw
  have hpos := touchOf_pos (text := m.image.text) (pc := c.pc)
  rw [ha] at hto hpos
  rw [hw] at hpos
  have hwd : 0 ≤ c.pc ∧ c.pc < m.image.text.length → decode (m.image.text.getD c.pc.toNat 0) = (x, ok) := fun h => by
    rw [← hw]; unfold wordAt; rw [if_pos (inB_iff.2 ⟨by omega, by omega⟩)]
  clear ha hw hsp hmm
  cases h1 : inB i 0 ((m.cores.length : Int) - 1)
  · rw [h1, if_pos rfl] at hr
    rw [hr]
    clear hr hmt hto hpos hwd
    refine callOk_of_hcall 40 (hcall_of_body Tryz.func54 rfl (by kernel_rfl) ?_)
    simp (disch := omega) only [go_sem, Tryz.ntmps54, Tryz.results54]
    have x1 : HT 3 (.fr [0, 1, 2, 3, 4, 5, 6, 7, 8] (.op [9] (.fr [10] (.stop)))) := ⟨⟩
    have x2 : HH 7 (.ho [0, 1, 2, 3, 4, 5, 6, 7, 8, 9, 10] (altm 11 [9, 8, 6, 4, 2] [false, true, true, true, true, true] (.ho [12, 13, 14] (opm 15 [9, 8, 6, 4, 2] [true, true, true, true, true] (opm 16 [] [false, false, false, false, false] (.ho [17] (.stop))))) (altm 15 [10, 9, 8, 6, 4, 2] [true, true, true, true, true, true] (opm 11 [9, 8, 6, 4, 2] [false, true, true, true, true, true] (.ho [12, 13, 14] (opm 16 [] [false, false, false, false, false] (.ho [17] (.stop))))) (.stop)))) := ⟨⟩
    have x3 : HT 9 (.fr [0, 1, 2, 3, 4, 5, 6, 7, 8] (.op [9] (.fr [10] (.stop)))) := ⟨⟩
    have x4 := specInB_ok i 0 ((m.cores.length : Int) - 1)
    exact wk
  · obtain ⟨i0, i1⟩ := inB_t h1
    rw [h1, if_neg (by simp)] at hr
    cases h2 : decide (c.process < 0)
    · rw [h2, if_neg (by simp)] at hr
      cases h3 : decide (a < 0)
      · rw [h3, if_neg (by simp)] at hr
        obtain ⟨-, -, -, hp0, hp1⟩ := hpos h3
        have hde := sDecode_ok (m.image.text.getD c.pc.toNat 0)
        rw [hwd ⟨hp0, hp1⟩] at hde
        clear hwd hpos
        cases h5 : (a == 0)
        · have h6 : (a != 0) = true := by unfold bne; rw [h5]; rfl
          have hr2 : touchRight p m i = mayTouch p m.kernel.gates c.process a := by
            rw [hr]
            cases mayTouch p m.kernel.gates c.process a
            · rw [if_pos rfl]
            · rw [if_neg (by simp), if_pos h6]
          rw [hr2]
          clear hr hr2 h6
          refine callOk_of_hcall 40 (hcall_of_body Tryz.func54 rfl (by kernel_rfl) ?_)
          simp (disch := omega) only [go_sem, Tryz.ntmps54, Tryz.results54]
          have x1 : HT 3 (.fr [0, 1, 2, 3, 4, 5, 6, 7, 8] (.op [9] (.fr [10] (.stop)))) := ⟨⟩
          have x2 : HH 7 (.ho [0, 1, 2, 3, 4, 5, 6, 7, 8, 9, 10] (altm 11 [9, 8, 6, 4, 2] [false, true, true, true, true, true] (.ho [12, 13, 14] (opm 15 [9, 8, 6, 4, 2] [true, true, true, true, true] (opm 16 [] [false, false, false, false, false] (.ho [17] (.stop))))) (altm 15 [10, 9, 8, 6, 4, 2] [true, true, true, true, true, true] (opm 11 [9, 8, 6, 4, 2] [false, true, true, true, true, true] (.ho [12, 13, 14] (opm 16 [] [false, false, false, false, false] (.ho [17] (.stop))))) (.stop)))) := ⟨⟩
          have x3 : HT 9 (.fr [0, 1, 2, 3, 4, 5, 6, 7, 8] (.op [9] (.fr [10] (.stop)))) := ⟨⟩
          have x4 := specInB_ok i 0 ((m.cores.length : Int) - 1)
          exact wk
        · have h6 : (a != 0) = false := by unfold bne; rw [h5]; rfl
          have h7 : mayTouch p m.kernel.gates c.process a = true := by unfold mayTouch; rw [if_pos h5]
          rw [h7, if_neg (by simp), h6, if_neg (by simp)] at hr
          rw [hr]
          clear hr h6 h7 hmt
          refine callOk_of_hcall 40 (hcall_of_body Tryz.func54 rfl (by kernel_rfl) ?_)
          simp (disch := omega) only [go_sem, Tryz.ntmps54, Tryz.results54]
          have x1 : HT 3 (.fr [0, 1, 2, 3, 4, 5, 6, 7, 8] (.op [9] (.fr [10] (.stop)))) := ⟨⟩
          have x2 : HH 7 (.ho [0, 1, 2, 3, 4, 5, 6, 7, 8, 9, 10] (altm 11 [9, 8, 6, 4, 2] [false, true, true, true, true, true] (.ho [12, 13, 14] (opm 15 [9, 8, 6, 4, 2] [true, true, true, true, true] (opm 16 [] [false, false, false, false, false] (.ho [17] (.stop))))) (altm 15 [10, 9, 8, 6, 4, 2] [true, true, true, true, true, true] (opm 11 [9, 8, 6, 4, 2] [false, true, true, true, true, true] (.ho [12, 13, 14] (opm 16 [] [false, false, false, false, false] (.ho [17] (.stop))))) (.stop)))) := ⟨⟩
          have x3 : HT 9 (.fr [0, 1, 2, 3, 4, 5, 6, 7, 8] (.op [9] (.fr [10] (.stop)))) := ⟨⟩
          have x4 := specInB_ok i 0 ((m.cores.length : Int) - 1)
          exact wk
      · rw [h3, if_pos rfl] at hr
        rw [hr]
        clear hr hmt hpos hwd
        refine callOk_of_hcall 40 (hcall_of_body Tryz.func54 rfl (by kernel_rfl) ?_)
        simp (disch := omega) only [go_sem, Tryz.ntmps54, Tryz.results54]
        have x1 : HT 3 (.fr [0, 1, 2, 3, 4, 5, 6, 7, 8] (.op [9] (.fr [10] (.stop)))) := ⟨⟩
        have x2 : HH 7 (.ho [0, 1, 2, 3, 4, 5, 6, 7, 8, 9, 10] (altm 11 [9, 8, 6, 4, 2] [false, true, true, true, true, true] (.ho [12, 13, 14] (opm 15 [9, 8, 6, 4, 2] [true, true, true, true, true] (opm 16 [] [false, false, false, false, false] (.ho [17] (.stop))))) (altm 15 [10, 9, 8, 6, 4, 2] [true, true, true, true, true, true] (opm 11 [9, 8, 6, 4, 2] [false, true, true, true, true, true] (.ho [12, 13, 14] (opm 16 [] [false, false, false, false, false] (.ho [17] (.stop))))) (.stop)))) := ⟨⟩
        have x3 : HT 9 (.fr [0, 1, 2, 3, 4, 5, 6, 7, 8] (.op [9] (.fr [10] (.stop)))) := ⟨⟩
        have x4 := specInB_ok i 0 ((m.cores.length : Int) - 1)
        exact wk
    · rw [h2, if_pos rfl] at hr
      rw [hr]
      clear hr hmt hto hpos hwd
      refine callOk_of_hcall 40 (hcall_of_body Tryz.func54 rfl (by kernel_rfl) ?_)
      simp (disch := omega) only [go_sem, Tryz.ntmps54, Tryz.results54]
      have x1 : HT 3 (.fr [0, 1, 2, 3, 4, 5, 6, 7, 8] (.op [9] (.fr [10] (.stop)))) := ⟨⟩
      have x2 : HH 7 (.ho [0, 1, 2, 3, 4, 5, 6, 7, 8, 9, 10] (altm 11 [9, 8, 6, 4, 2] [false, true, true, true, true, true] (.ho [12, 13, 14] (opm 15 [9, 8, 6, 4, 2] [true, true, true, true, true] (opm 16 [] [false, false, false, false, false] (.ho [17] (.stop))))) (altm 15 [10, 9, 8, 6, 4, 2] [true, true, true, true, true, true] (opm 11 [9, 8, 6, 4, 2] [false, true, true, true, true, true] (.ho [12, 13, 14] (opm 16 [] [false, false, false, false, false] (.ho [17] (.stop))))) (.stop)))) := ⟨⟩
      have x3 : HT 9 (.fr [0, 1, 2, 3, 4, 5, 6, 7, 8] (.op [9] (.fr [10] (.stop)))) := ⟨⟩
      have x4 := specInB_ok i 0 ((m.cores.length : Int) - 1)
      exact wk
end Go.Proofs.YtejnpiielcbkkaaGreat.E
end
