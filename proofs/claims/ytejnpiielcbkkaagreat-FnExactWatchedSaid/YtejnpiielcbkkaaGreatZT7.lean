/- A part of what stands under the laws of this seat: an abstract evaluator that is proved sound, and contracts of functions by it. No condition beside those that stand in each statement. -/
import Derived.Test.YtejnpiielcbkkaaGreatZT4
import Derived.Test.YtejnpiielcbkkaaGreatZA2
import Derived.Test.YtejnpiielcbkkaaGreatZK2
import Derived.Test.YtejnpiielcbkkaaGreatZA1
set_option linter.unusedVariables false
set_option linter.unusedSimpArgs false
section
set_option maxRecDepth 100000
set_option maxHeartbeats 4000000
namespace Go.Proofs.YtejnpiielcbkkaaGreat.E
/-! ### Whose memory: plainly -/
theorem any_rng {f : Nat → Bool} (k : Nat) : (List.range (k + 1)).any f = ((List.range k).any f || f k) := by rw [List.range_succ, List.any_append]; simp
theorem any_rng_true {f : Nat → Bool} {k n : Nat} (hk : k < n) (h : f k = true) : (List.range n).any f = true := List.any_eq_true.2 ⟨k, List.mem_range.2 hk, h⟩
theorem any_rng_false {f : Nat → Bool} {n : Nat} (h : ∀ i, i < n → f i = false) : (List.range n).any f = false := by
  rw [List.any_eq_false]; intro i hi; rw [h i (List.mem_range.1 hi)]; simp
theorem any_rng_at {f : Nat → Bool} {i n : Nat} (h : (List.range n).any f = false) (hi : i < n) : f i = false := by
  rw [List.any_eq_false] at h
  have := h i (List.mem_range.2 hi)
  simpa using this
def nVars (p : Prgm) (i : Nat) : Nat := (p.monitors.getD i monitorZ).vars.length
def fitIn (p : Prgm) (a : Int) (i : Nat) : Bool := (List.range (nVars p i)).any (fun j => a == sharedAt p i j)
def hitAt (p : Prgm) (gs : List Gate) (q a : Int) (i : Nat) : Bool := if decide ((gs.length : Int) ≤ i) = true then false else if ((gs.getD i gateZ).owner != q) = true then false else fitIn p a i
def mayAny (p : Prgm) (gs : List Gate) (q a : Int) : Bool := (List.range p.monitors.length).any (hitAt p gs q a)
def mayTouch (p : Prgm) (gs : List Gate) (q a : Int) : Bool :=
  if (a == 0) = true then true
  else if inB q 0 ((p.processes.length : Int) - 1) = false then false
  else if inB a (varAt p q 0) (resultAt p q) = true then true
  else mayAny p gs q a
theorem fit_unique {p : Prgm} {a : Int} {k i : Nat} (hk : k < p.monitors.length) (hi : i < p.monitors.length) (h1 : fitIn p a k = true) (h2 : fitIn p a i = true) : k = i := by
  obtain ⟨j, hj, e⟩ := List.any_eq_true.1 h1
  obtain ⟨j', hj', e'⟩ := List.any_eq_true.1 h2
  rw [List.mem_range] at hj hj'
  have e1 := beq_iff_eq.1 e
  have e2 := beq_iff_eq.1 e'
  exact (sharedAt_inj hk hi hj hj' (e1.symm.trans e2)).1
theorem hit_no {p : Prgm} {gs : List Gate} {q a : Int} {i : Nat} (h : fitIn p a i = false) : hitAt p gs q a i = false := by
  unfold hitAt; rw [h]; split
  · rfl
  · split <;> rfl
theorem mayAny_at {p : Prgm} {gs : List Gate} {q a : Int} {k : Nat} (hk : k < p.monitors.length) (hg : k < gs.length) (h : fitIn p a k = true) : mayAny p gs q a = ((gs.getD k gateZ).owner == q) := by
  unfold mayAny
  have hh : hitAt p gs q a k = ((gs.getD k gateZ).owner == q) := by
    unfold hitAt
    rw [if_neg (by rw [decide_eq_true_iff]; omega), h]
    cases hq : ((gs.getD k gateZ).owner == q)
    · rw [if_pos (by unfold bne; rw [hq]; rfl)]
    · rw [if_neg (by unfold bne; rw [hq]; simp)]
  cases hq : ((gs.getD k gateZ).owner == q)
  · rw [hq] at hh
    refine any_rng_false fun i hi => ?_
    by_cases hik : i = k
    · rw [hik]; exact hh
    · refine hit_no ?_
      cases hf : fitIn p a i
      · rfl
      · exact absurd (fit_unique hi hk hf h) hik
  · rw [hq] at hh
    exact any_rng_true hk hh
theorem mayAny_none {p : Prgm} {gs : List Gate} {q a : Int} {k : Nat} (h : (List.range k).any (fitIn p a) = false) (hk : p.monitors.length ≤ k ∨ gs.length ≤ k) : mayAny p gs q a = false := by
  refine any_rng_false fun i hi => ?_
  by_cases hik : i < k
  · exact hit_no (any_rng_at h hik)
  · unfold hitAt
    rw [if_pos (by rw [decide_eq_true_iff]; omega)]
theorem varAt_bd (p : Prgm) (q i : Int) (hs : p.processes.length ≤ 1048576) (hm : p.monitors.length ≤ 1048576) (hmv : ∀ y ∈ p.monitors, y.vars.length ≤ 1048576) (hpv : ∀ y ∈ p.processes, y.vars.length ≤ 1048576) : -1 ≤ varAt p q i ∧ varAt p q i ≤ 4611686018427387904 := by
  have hb := varsN_bd hmv
  have hb2 := Nat.mul_le_mul_right 1048576 hm
  have hpb := procsN_bd hpv
  have hpb2 := Nat.mul_le_mul_right (1048576 + 2) hs
  have hbT := procsN_take_le p.processes q.toNat
  unfold varAt
  split
  · omega
  · rename_i h1
    have h1' : inB q 0 ((p.processes.length : Int) - 1) = true := by simpa using h1
    have hql : q.toNat < p.processes.length := by have := inB_t h1'; omega
    have hv := hpv (p.processes.getD q.toNat processZ) (by simp [hql])
    split
    · omega
    · rename_i h2
      have h2' : inB i 0 ((p.processes.getD q.toNat processZ).vars.length : Int) = true := by simpa using h2
      have := inB_t h2'
      omega
/-- Where a process's places end, as_ the reference tells it. -/
theorem result_is {p : Prgm} {q : Int} (h : inB q 0 ((p.processes.length : Int) - 1) = true) : resultAt p q = varAt p q 0 + ((p.processes.getD q.toNat processZ).vars.length : Int) + 1 := by
  have e1 : inB ((p.processes.getD q.toNat processZ).vars.length : Int) 0 ((p.processes.getD q.toNat processZ).vars.length : Int) = true := inB_iff.2 ⟨by omega, by omega⟩
  have e0 : inB 0 0 ((p.processes.getD q.toNat processZ).vars.length : Int) = true := inB_iff.2 ⟨by omega, by omega⟩
  have ha : argAt p q = 1 + (varsN p.monitors : Int) + ((p.processes.getD q.toNat processZ).vars.length : Int) + (procsN (p.processes.take q.toNat) : Int) := by
    unfold argAt; rw [h, if_neg (by simp)]; unfold varAt; rw [h, if_neg (by simp), e1, if_neg (by simp)]
  have hv : varAt p q 0 = 1 + (varsN p.monitors : Int) + 0 + (procsN (p.processes.take q.toNat) : Int) := by
    unfold varAt; rw [h, if_neg (by simp), e0, if_neg (by simp)]
  unfold resultAt
  rw [ha, if_neg (by rw [decide_eq_true_iff]; omega), hv]
  omega
def touchOf (text : List Int) (pc : Int) : Int := if (wordAt text pc).2 = false then -1 else if usesMem (wordAt text pc).1 = false then -1 else (wordAt text pc).1.c
end Go.Proofs.YtejnpiielcbkkaaGreat.E
end
section
set_option maxRecDepth 100000
set_option maxHeartbeats 4000000
namespace Go.Proofs.YtejnpiielcbkkaaGreat.E
theorem iTouchOf_ok (text : List Int) (pc : Int) (ht : text.length ≤ 1099511627776) : CallOk Tryz.prog 144 [.one (.ro 1 (intsD text)), .one (iV pc)] (.s (.one (iV (touchOf text pc)))) [none, none] := by
  obtain ⟨⟨x, ok⟩, hw⟩ : ∃ y, wordAt text pc = y := ⟨_, rfl⟩
  have h := wordAt_ok text pc ht
  have hr : touchOf text pc = if ok = false then -1 else if usesMem x = false then -1 else x.c := by unfold touchOf; rw [hw]
  rw [hw] at h
  rw [hr]
  clear hr hw
  cases ok <;> cases hu : usesMem x
  all_goals
    refine callOk_of_hcall 40 (hcall_of_body Tryz.func144 rfl (by kernel_rfl) ?_)
    simp (disch := omega) only [go_sem, Tryz.ntmps144, Tryz.results144]
    have x1 := usesMem_ok x
    exact wk
theorem sTouchOf_ok (text : List Int) (pc : Int) (ht : text.length ≤ 1099511627776) : CallOk Tryz.prog 126 [.one (.ro 1 (intsD text)), .one (iV pc)] (.s (.one (iV (touchOf text pc)))) [none, none] := by
  cases h0 : inB pc 0 ((text.length : Int) - 1)
  · have hr : touchOf text pc = -1 := by unfold touchOf wordAt; rw [h0]; rfl
    rw [hr]
    refine callOk_of_hcall 40 (hcall_of_body Tryz.func126 rfl (by kernel_rfl) ?_)
    simp (disch := omega) only [go_sem, Tryz.ntmps126, Tryz.results126]
    have x1 := specInB_ok pc 0 ((text.length : Int) - 1)
    exact wk
  · obtain ⟨b0, b1⟩ := inB_t h0
    obtain ⟨⟨x, ok⟩, hw⟩ : ∃ y, decode (text.getD pc.toNat 0) = y := ⟨_, rfl⟩
    have h := sDecode_ok (text.getD pc.toNat 0)
    have hu : usesMem x = !((x.op != 2) && ((x.op != 3) && (x.op != 9))) := by unfold usesMem bne; cases (x.op == 2) <;> cases (x.op == 3) <;> cases (x.op == 9) <;> rfl
    have hr : touchOf text pc = if ok = false then -1 else if (!((x.op != 2) && ((x.op != 3) && (x.op != 9)))) = false then -1 else x.c := by unfold touchOf wordAt; rw [h0, if_pos rfl, hw, hu]
    rw [hw] at h
    rw [hr]
    clear hr hw hu
    cases ok <;> cases e1 : (x.op != 2) <;> cases e2 : (x.op != 3) <;> cases e3 : (x.op != 9)
    all_goals
      refine callOk_of_hcall 40 (hcall_of_body Tryz.func126 rfl (by kernel_rfl) ?_)
      simp (disch := omega) only [go_sem, Tryz.ntmps126, Tryz.results126]
      have x1 := @Bool.not_true
      have x2 := @Bool.not_false
      have x3 := @Bool.and_true
      have x4 := @Bool.and_false
      have x5 := @Bool.false_and
      have x6 := @Bool.true_and
      have x7 := specInB_ok pc 0 ((text.length : Int) - 1)
      exact wk
end Go.Proofs.YtejnpiielcbkkaaGreat.E
end
section
set_option maxRecDepth 100000
set_option maxHeartbeats 4000000
namespace Go.Proofs.YtejnpiielcbkkaaGreat.E
theorem iMayTouch_ok (p : Prgm) (m : Machine) (q a : Int) (hs : p.processes.length ≤ 1048576) (hm : p.monitors.length ≤ 1048576) (hmv : ∀ y ∈ p.monitors, y.vars.length ≤ 1048576) (hpv : ∀ y ∈ p.processes, y.vars.length ≤ 1048576) (hg : m.kernel.gates.length ≤ 68719476736) :
    CallOk Tryz.prog 146 [.agg (programR p), .agg (machineR m), .one (iV q), .one (iV a)] (.s (.one (bV (mayTouch p m.kernel.gates q a)))) [none, none, none, none] := by
  have hv := iVarAt_ok p q 0 hs hm hmv hpv
  have hr := iResultAt_ok p q hs hm hmv hpv
  cases h0 : (a == 0)
  · cases h1 : inB q 0 ((p.processes.length : Int) - 1)
    ·
      refine callOk_of_hcall 40 (hcall_of_body Tryz.func146 rfl (by kernel_rfl) ?_)
      simp (disch := omega) only [go_sem, Tryz.ntmps146, Tryz.results146]
      have x1 := @mayTouch.eq_1
      have x2 : HH 5 (.ho [0, 1, 2, 4, 5] (opm 3 [4] [true, false] (opm 6 [] [false] (opm 7 [] [] (.stop))))) := ⟨⟩
      have x3 := isProcess_ok p q hs
      exact wk
    · cases h2 : inB a (varAt p q 0) (resultAt p q)
      · have hres : mayTouch p m.kernel.gates q a = mayAny p m.kernel.gates q a := by unfold mayTouch; rw [h0, if_neg (by simp), h1, if_neg (by simp), h2, if_neg (by simp)]
        rw [hres]
        clear hres
        refine callOk_of_hcall 40 (hcall_of_body Tryz.func146 rfl (by kernel_rfl) ?_)
        simp (disch := omega) only [go_sem, Tryz.ntmps146, Tryz.results146]
        repeat' (first | (with_reducible first | refine i_seq ?_ | exact th_none | refine i_th (id := 5) (.ho [0, 1, 2, 4, 5] (opm 3 [4] [true, false] (opm 6 [] [false] (opm 7 [] [] (.stop))))) mixedT (by kernel_rfl) (fun Q' hQ => ?_)) | ((first | (with_reducible first | refine i_block ?_ | refine i_regionQ (fun Q' hQ => ?_) | (refine Imp.go hQ ?_; clear hQ) | refine th_ho ?_ | refine th_stop ?_ ?_ | refine th_opm ?_ (by kernel_rfl) (aL_run ?_) | refine th_altm ?_ (by kernel_rfl) (aL_run ?_) ?_) | ((with_reducible refine i_condT ?_ ?_); (focus (simp only [go_sem, *]; done))) | ((with_reducible refine i_condF ?_ ?_); (focus (simp only [go_sem, *]; done))) | ((with_reducible first | refine resOk_g (fun h => ?_) (fun h => ?_) | refine i_cond (by simp only [go_sem, *] <;> rfl) (fun h => ?_) (fun h => ?_)) <;> (try simp only [Bool.not_eq_eq_eq_not, Bool.not_true, Bool.not_false, reduceCtorEq] at h) <;> (try have h' := of_decide_eq_true h) <;> (try (have hz : (_ : Int) = (_ : Int) := h'; clear hz h')) <;> (try have h' := of_decide_eq_false h) <;> (try have h' := inB_t h) <;> (try (exfalso; omega))) | (((with_reducible first | refine hcall_of_callOk 40 true (isProcess_ok p q hs) ?_ ?_ ?_ ?_ ?_ | refine hcall_of_callOk 40 true (hv) ?_ ?_ ?_ ?_ ?_ | refine hcall_of_callOk 40 true (hr) ?_ ?_ ?_ ?_ ?_ | refine hcall_of_callOk 40 true (within_ok a (varAt p q 0) (resultAt p q)) ?_ ?_ ?_ ?_ ?_); iterate 4 (focus (simp (disch := omega) only [go_sem, h0, h1, h2, reduceCtorEq, natLe_ok]; done))); simp only [go_sem, h0, h1, h2, reduceCtorEq]; refine aL_run ?_)) <;> (try simp (disch := omega) only [go_sem, h0, h1, h2, reduceCtorEq, *])))
        all_goals (try simp (disch := omega) only [EndK, go_sem, h0, h1, h2, reduceCtorEq, natLe_ok, *])
        clear hv hr h0 h1 h2
        refine i_loop (α := {k : Nat // k ≤ p.monitors.length ∧ (List.range k).any (hitAt p m.kernel.gates q a) = false}) (fun k => ⟨mkEnv 65 [(2, .one (iV q)), (3, .one (iV a)), (4, .one (.ptr 0 0 0)), (5, .one (.ptr 1 0 0)), (27, .one (.ro 4 (monitorsD p.monitors))), (28, .one (iV p.monitors.length)), (29, .one (iV k.1))], [.live 3 [programR p], .live 12 [machineR m]]⟩) (fun k => p.monitors.length - k.1) ⟨0, by omega, rfl⟩ ?_ ?_
        · first | (refine weak_canon [2, 3, 4, 5, 27, 28, 29] [0, 1] ?_ ?_ ?_ <;> (simp (disch := omega) only [go_sem, programR, machineR]; done)) | trace_state
        rintro ⟨k, hk, hp⟩
        by_cases hkl : k < p.monitors.length
        · have hyv := hmv (p.monitors.getD k monitorZ) (by simp [hkl])
          have hone := any_rng (f := hitAt p m.kernel.gates q a) k
          rw [hp, Bool.false_or] at hone
          cases g1 : decide ((m.kernel.gates.length : Int) ≤ (k : Int))
          · have g1' := of_decide_eq_false g1
            have hkg : k < m.kernel.gates.length := by omega
            cases g2 : ((m.kernel.gates.getD k gateZ).owner != q)
            · have hh : hitAt p m.kernel.gates q a k = fitIn p a k := by unfold hitAt; rw [g1, if_neg (by simp), g2, if_neg (by simp)]
              rw [hh] at hone
              simp (disch := omega) only [go_sem]
              have x1 : HH 5 (.ho [0, 1, 2, 4, 5] (opm 3 [4] [true, false] (opm 6 [] [false] (opm 7 [] [] (.stop))))) := ⟨⟩
              refine wkc ?_
              refine i_hide fun Q hE => ?_
              refine i_loop (α := {j : Nat // j ≤ (p.monitors.getD k monitorZ).vars.length ∧ (List.range j).any (fun j => a == sharedAt p k j) = false}) (fun j => ⟨mkEnv 65 [(2, .one (iV q)), (3, .one (iV a)), (4, .one (.ptr 0 0 0)), (5, .one (.ptr 1 0 0)), (9, .one (iV k)), (27, .one (.ro 4 (monitorsD p.monitors))), (28, .one (iV p.monitors.length)), (29, .one (iV k)), (53, .one (iV (p.monitors.getD k monitorZ).vars.length)), (54, .one (iV j.1))], [.live 3 [programR p], .live 12 [machineR m]]⟩) (fun j => (p.monitors.getD k monitorZ).vars.length - j.1) ⟨0, by omega, rfl⟩ ?_ ?_
              · first | (refine weak_canon [2, 3, 4, 5, 9, 27, 28, 29, 53, 54] [0, 1] ?_ ?_ ?_ <;> (simp (disch := omega) only [go_sem, programR, machineR]; done)) | trace_state
              rintro ⟨j, hj, hpj⟩
              by_cases hjl : j < (p.monitors.getD k monitorZ).vars.length
              · have honej := any_rng (f := fun j => a == sharedAt p k j) j
                rw [hpj, Bool.false_or] at honej
                have hsa := iSharedAt_ok p k j hm hmv
                cases g3 : (a == sharedAt p k j)
                · rw [g3] at honej
                  simp (disch := omega) only [go_sem]
                  have x1 : HH 5 (.ho [0, 1, 2, 4, 5] (opm 3 [4] [true, false] (opm 6 [] [false] (opm 7 [] [] (.stop))))) := ⟨⟩
                  refine wkc ?_
                  all_goals refine ⟨⟨j + 1, by omega, honej⟩, ?_, by simp only; omega⟩
                  all_goals first | (refine weak_canon [2, 3, 4, 5, 9, 27, 28, 29, 53, 54] [0, 1] ?_ ?_ ?_ <;> (simp (disch := omega) only [go_sem, programR, machineR]; done)) | trace_state
                · have hres : mayAny p m.kernel.gates q a = true := any_rng_true hkl (by rw [hh]; exact any_rng_true hjl g3)
                  clear honej hh hone
                  simp (disch := omega) only [go_sem]
                  have x1 : HH 5 (.ho [0, 1, 2, 4, 5] (opm 3 [4] [true, false] (opm 6 [] [false] (opm 7 [] [] (.stop))))) := ⟨⟩
                  exact wk
              · have hf : fitIn p a k = false := by
                  have : j = nVars p k := by unfold nVars; omega
                  unfold fitIn; rw [← this]; exact hpj
                rw [hf] at hone
                clear hh
                simp (disch := omega) only [go_sem]
                have x1 : HH 5 (.ho [0, 1, 2, 4, 5] (opm 3 [4] [true, false] (opm 6 [] [false] (opm 7 [] [] (.stop))))) := ⟨⟩
                refine wkc ?_
                all_goals refine ⟨⟨k + 1, by omega, hone⟩, ?_, by simp only; omega⟩
                all_goals first | (refine weak_canon [2, 3, 4, 5, 27, 28, 29] [0, 1] ?_ ?_ ?_ <;> (simp (disch := omega) only [go_sem, programR, machineR]; done)) | trace_state
            · have hh : hitAt p m.kernel.gates q a k = false := by unfold hitAt; rw [g1, if_neg (by simp), g2, if_pos rfl]
              rw [hh] at hone
              simp (disch := omega) only [go_sem]
              have x1 : HH 5 (.ho [0, 1, 2, 4, 5] (opm 3 [4] [true, false] (opm 6 [] [false] (opm 7 [] [] (.stop))))) := ⟨⟩
              refine wkc ?_
              all_goals refine ⟨⟨k + 1, by omega, hone⟩, ?_, by simp only; omega⟩
              all_goals first | (refine weak_canon [2, 3, 4, 5, 27, 28, 29] [0, 1] ?_ ?_ ?_ <;> (simp (disch := omega) only [go_sem, programR, machineR]; done)) | trace_state
          · have hh : hitAt p m.kernel.gates q a k = false := by unfold hitAt; rw [g1, if_pos rfl]
            rw [hh] at hone
            simp (disch := omega) only [go_sem]
            have x1 : HH 5 (.ho [0, 1, 2, 4, 5] (opm 3 [4] [true, false] (opm 6 [] [false] (opm 7 [] [] (.stop))))) := ⟨⟩
            refine wkc ?_
            all_goals refine ⟨⟨k + 1, by omega, hone⟩, ?_, by simp only; omega⟩
            all_goals first | (refine weak_canon [2, 3, 4, 5, 27, 28, 29] [0, 1] ?_ ?_ ?_ <;> (simp (disch := omega) only [go_sem, programR, machineR]; done)) | trace_state
        · have hres : mayAny p m.kernel.gates q a = false := by
            have : k = p.monitors.length := by omega
            unfold mayAny; rw [← this]; exact hp
          simp (disch := omega) only [go_sem]
          have x1 : HH 5 (.ho [0, 1, 2, 4, 5] (opm 3 [4] [true, false] (opm 6 [] [false] (opm 7 [] [] (.stop))))) := ⟨⟩
          exact wk
      ·
        refine callOk_of_hcall 40 (hcall_of_body Tryz.func146 rfl (by kernel_rfl) ?_)
        simp (disch := omega) only [go_sem, Tryz.ntmps146, Tryz.results146]
        have x1 := @mayTouch.eq_1
        have x2 : HH 5 (.ho [0, 1, 2, 4, 5] (opm 3 [4] [true, false] (opm 6 [] [false] (opm 7 [] [] (.stop))))) := ⟨⟩
        have x3 := isProcess_ok p q hs
        have x4 := within_ok a (varAt p q 0) (resultAt p q)
        exact wk
  ·
    refine callOk_of_hcall 40 (hcall_of_body Tryz.func146 rfl (by kernel_rfl) ?_)
    simp (disch := omega) only [go_sem, Tryz.ntmps146, Tryz.results146]
    have x1 := @mayTouch.eq_1
    have x2 : HH 5 (.ho [0, 1, 2, 4, 5] (opm 3 [4] [true, false] (opm 6 [] [false] (opm 7 [] [] (.stop))))) := ⟨⟩
    exact wk
end Go.Proofs.YtejnpiielcbkkaaGreat.E
end
