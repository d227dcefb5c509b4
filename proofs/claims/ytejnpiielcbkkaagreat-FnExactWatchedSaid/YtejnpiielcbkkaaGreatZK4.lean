/- A part of what stands under the laws of this seat: an abstract evaluator that is proved sound, and contracts of functions by it. No condition beside those that stand in each statement. -/
import Derived.Test.YtejnpiielcbkkaaGreatZK1
set_option linter.unusedVariables false
set_option linter.unusedSimpArgs false
set_option maxRecDepth 100000
set_option maxHeartbeats 4000000
namespace Go.Proofs.YtejnpiielcbkkaaGreat.E
section
variable (f : Nat) (p : Int → Bool) (hp : ∀ x, CallOk Tryz.prog f [.one (iV x)] (.s (.one (bV (p x)))) [none])
theorem any_take {p : Int → Bool} {xs : List Int} {k : Nat} (hk : k < xs.length) : (xs.take (k + 1)).any p = ((xs.take k).any p || p (xs.getD k 0)) := by
  rw [List.take_succ_eq_append_getElem hk, List.any_append]
  simp [hk]
theorem any_of {p : Int → Bool} {xs : List Int} {k : Nat} (hk : k < xs.length) (h : p (xs.getD k 0) = true) : xs.any p = true := by
  simp only [List.any_eq_true]
  exact ⟨xs[k], List.getElem_mem hk, by simpa [hk] using h⟩
include hp
theorem idxF_ok (xs : List Int) (hs : xs.length ≤ 1099511627776) : CallE Tryz.prog 179 [.one (.ro 1 (intsD xs)), .one (.fn f [])] (fun r : Int => .s (.one (iV r))) (fun _ => [none, none]) (fun r => decide (0 ≤ r) = xs.any p) := by
  refine callE_of_hcall 40 (hcall_of_body Tryz.func179 rfl (by kernel_rfl) ?_)
  simp (disch := omega) only [go_sem, Tryz.ntmps179, Tryz.results179]
  refine wkc ?_
  refine i_loop (α := {k : Nat // k ≤ xs.length ∧ (xs.take k).any p = false}) (fun k => ⟨mkEnv 19 [(0, .one (.ro 1 (intsD xs))), (1, .one (.fn f [])), (7, .one (iV xs.length)), (8, .one (iV k.1))], []⟩) (fun k => xs.length - k.1) ⟨0, by omega, by simp⟩ ?_ ?_
  · (refine weak_canon [0, 1, 7, 8] [] ?_ ?_ ?_ <;> (simp (disch := omega) only [go_sem]; done))
  rintro ⟨k, hk, hq⟩
  simp (disch := omega) only [go_sem]
  by_cases hkl : k < xs.length
  · have ht := any_take (p := p) hkl
    cases hb : p (xs.getD k 0)
    ·
      repeat' (first | (with_reducible first | refine i_seq ?_) | ((first | (with_reducible first | refine i_block ?_ | refine i_regionQ (fun Q' hQ => ?_) | (refine Imp.go hQ ?_; clear hQ)) | ((with_reducible refine i_condT ?_ ?_); (focus (simp only [go_sem, *]; done))) | ((with_reducible refine i_condF ?_ ?_); (focus (simp only [go_sem, *]; done))) | ((with_reducible first | refine resOk_g (fun h => ?_) (fun h => ?_) | refine i_cond (by simp only [go_sem, *] <;> rfl) (fun h => ?_) (fun h => ?_)) <;> (try simp only [Bool.not_eq_eq_eq_not, Bool.not_true, Bool.not_false, reduceCtorEq] at h) <;> (try have h' := of_decide_eq_true h) <;> (try (have hz : (_ : Int) = (_ : Int) := h'; clear hz h')) <;> (try have h' := of_decide_eq_false h) <;> (try have h' := inB_t h) <;> (try (exfalso; omega))) | (((with_reducible refine hcall_of_callOk 40 true (hp (xs.getD k 0)) ?_ ?_ ?_ ?_ ?_); iterate 4 (focus (simp (disch := omega) only [go_sem, natLe_ok]; done))); simp only [go_sem]; refine aL_run ?_)) <;> (try simp (disch := omega) only [go_sem, *])))
      all_goals (try simp (disch := omega) only [EndK, go_sem, natLe_ok, *])
      all_goals (refine ⟨⟨k + 1, by omega, by rw [ht, hq, hb]; rfl⟩, ?_, by simp only; omega⟩; (refine weak_canon [0, 1, 7, 8] [] ?_ ?_ ?_ <;> (simp (disch := omega) only [go_sem]; done)))
    · have hh := any_of (p := p) hkl hb
      repeat' (first | (with_reducible first | refine i_seq ?_) | ((first | (with_reducible first | refine i_block ?_ | refine i_regionQ (fun Q' hQ => ?_) | (refine Imp.go hQ ?_; clear hQ)) | ((with_reducible refine i_condT ?_ ?_); (focus (simp only [go_sem, *]; done))) | ((with_reducible refine i_condF ?_ ?_); (focus (simp only [go_sem, *]; done))) | ((with_reducible first | refine resOk_g (fun h => ?_) (fun h => ?_) | refine i_cond (by simp only [go_sem, *] <;> rfl) (fun h => ?_) (fun h => ?_)) <;> (try simp only [Bool.not_eq_eq_eq_not, Bool.not_true, Bool.not_false, reduceCtorEq] at h) <;> (try have h' := of_decide_eq_true h) <;> (try (have hz : (_ : Int) = (_ : Int) := h'; clear hz h')) <;> (try have h' := of_decide_eq_false h) <;> (try have h' := inB_t h) <;> (try (exfalso; omega))) | (((with_reducible refine hcall_of_callOk 40 true (hp (xs.getD k 0)) ?_ ?_ ?_ ?_ ?_); iterate 4 (focus (simp (disch := omega) only [go_sem, natLe_ok]; done))); simp only [go_sem]; refine aL_run ?_)) <;> (try simp (disch := omega) only [go_sem, *])))
      all_goals (try simp (disch := omega) only [EndK, go_sem, natLe_ok, *])
      all_goals exact ⟨(k : Int), by simp, rfl⟩
  · have hx : xs.any p = false := by rw [← hq, List.take_of_length_le (by omega)]
    repeat' (first | (with_reducible first | refine i_seq ?_) | ((first | (with_reducible first | refine i_block ?_ | refine i_regionQ (fun Q' hQ => ?_) | (refine Imp.go hQ ?_; clear hQ)) | ((with_reducible refine i_condT ?_ ?_); (focus (simp only [go_sem, *]; done))) | ((with_reducible refine i_condF ?_ ?_); (focus (simp only [go_sem, *]; done))) | ((with_reducible first | refine resOk_g (fun h => ?_) (fun h => ?_) | refine i_cond (by simp only [go_sem, *] <;> rfl) (fun h => ?_) (fun h => ?_)) <;> (try simp only [Bool.not_eq_eq_eq_not, Bool.not_true, Bool.not_false, reduceCtorEq] at h) <;> (try have h' := of_decide_eq_true h) <;> (try (have hz : (_ : Int) = (_ : Int) := h'; clear hz h')) <;> (try have h' := of_decide_eq_false h) <;> (try have h' := inB_t h) <;> (try (exfalso; omega)))) <;> (try simp (disch := omega) only [go_sem, *])))
    all_goals (try simp (disch := omega) only [EndK, go_sem, natLe_ok, *])
    all_goals exact ⟨-1, by rfl, rfl⟩
theorem hasF_ok (xs : List Int) (hs : xs.length ≤ 1099511627776) : CallOk Tryz.prog 108 [.one (.ro 1 (intsD xs)), .one (.fn f [])] (.s (.one (bV (xs.any p)))) [none, none] := by
  refine callOk_of_hcall 40 (hcall_of_body Tryz.func108 rfl (by kernel_rfl) ?_)
  simp (disch := omega) only [go_sem, Tryz.ntmps108, Tryz.results108]
  repeat' (first | (with_reducible first | refine i_seq ?_) | ((first | (with_reducible first | refine i_block ?_ | refine i_regionQ (fun Q' hQ => ?_) | (refine Imp.go hQ ?_; clear hQ)) | ((with_reducible refine i_condT ?_ ?_); (focus (simp only [go_sem, *]; done))) | ((with_reducible refine i_condF ?_ ?_); (focus (simp only [go_sem, *]; done))) | ((with_reducible first | refine resOk_g (fun h => ?_) (fun h => ?_) | refine i_cond (by simp only [go_sem, *] <;> rfl) (fun h => ?_) (fun h => ?_)) <;> (try simp only [Bool.not_eq_eq_eq_not, Bool.not_true, Bool.not_false, reduceCtorEq] at h) <;> (try have h' := of_decide_eq_true h) <;> (try (have hz : (_ : Int) = (_ : Int) := h'; clear hz h')) <;> (try have h' := of_decide_eq_false h) <;> (try have h' := inB_t h) <;> (try (exfalso; omega))) | ((with_reducible refine hcall_of_callE 40 true (idxF_ok f p hp xs hs) ?_ ?_ ?_ ?_ ?_); (focus (simp (disch := omega) only [go_sem, natLe_ok]; done)); (focus (simp (disch := omega) only [go_sem, natLe_ok]; done)); (focus (rintro r hr; (try dsimp only at hr); (try simp (disch := omega) only [go_sem, natLe_ok]); done)); (focus (rintro r hr; (try dsimp only at hr); (try simp (disch := omega) only [go_sem, natLe_ok]); done)); rintro r hr; (try dsimp only at hr); simp only [go_sem]; refine aL_run ?_)) <;> (try simp (disch := omega) only [go_sem, *])))
  all_goals (try simp (disch := omega) only [EndK, go_sem, natLe_ok, *])
end
def badVal (n : Int) : Bool := !valOk n
theorem badVal_ok (n : Int) : CallOk Tryz.prog 245 [.one (iV n)] (.s (.one (bV (badVal n)))) [none] := by
  refine callOk_of_hcall 40 (hcall_of_body Tryz.func245 rfl (by kernel_rfl) ?_)
  simp (disch := omega) only [go_sem, Tryz.ntmps245, Tryz.results245]
  have x1 := @badVal.eq_1
  have x2 := iValOk_ok n
  exact wk
def coreOk (c : Core) : Bool := if ((c.regs.length : Int) == 8) = false ∨ c.regs.any badVal = true ∨ decide (0 ≤ c.pc) = false ∨ inB c.process (-1) 3 = false then false else true
theorem iCoreOk_ok (c : Core) (hc : mdCore c) : CallOk Tryz.prog 206 [.agg (coreR c)] (.s (.one (bV (coreOk c)))) [none] := by
  have hs : c.regs.length ≤ 1099511627776 := hc
  clear hc
  cases h1 : ((c.regs.length : Int) == 8) <;> cases h2 : c.regs.any badVal <;> cases h3 : decide (0 ≤ c.pc) <;> cases h4 : inB c.process (-1) 3
  all_goals
    have hge : decide (c.pc ≥ 0) = decide (0 ≤ c.pc) := rfl
    refine callOk_of_hcall 40 (hcall_of_body Tryz.func206 rfl (by kernel_rfl) ?_)
    simp (disch := omega) only [go_sem, Tryz.ntmps206, Tryz.results206]
    have x1 := @coreOk.eq_1
    have x2 := hasF_ok 245 badVal badVal_ok c.regs hs
    have x3 := within_ok c.process (-1) 3
    exact wk
theorem sCoreOk_ok (c : Core) (hc : mdCore c) : CallOk Tryz.prog 190 [.agg (coreR c)] (.s (.one (bV (coreOk c)))) [none] := by
  have hs : c.regs.length ≤ 1099511627776 := hc
  clear hc
  refine callOk_of_hcall 40 (hcall_of_body Tryz.func190 rfl (by kernel_rfl) ?_)
  simp (disch := omega) only [go_sem, Tryz.ntmps190, Tryz.results190]
  refine wkc ?_
  refine i_loop (α := {k : Nat // k ≤ c.regs.length ∧ (c.regs.take k).any badVal = false}) (fun k => ⟨mkEnv 32 [(0, .agg (coreR c)), (1, .one (.ptr 0 0 0)), (3, .one (iV k.1))], [.live 3 [coreR c]]⟩) (fun k => c.regs.length - k.1) ⟨0, by omega, by simp⟩ ?_ ?_
  · (refine weak_canon [0, 1, 3] [0] ?_ ?_ ?_ <;> (simp (disch := omega) only [go_sem, coreR]; done))
  rintro ⟨k, hk, hq⟩
  simp (disch := omega) only [go_sem]
  by_cases hkl : k < c.regs.length
  · have ht := any_take (p := badVal) hkl
    have hvb : badVal (c.regs.getD k 0) = !valOk (c.regs.getD k 0) := rfl
    cases hb : valOk (c.regs.getD k 0)
    · have hh := any_of (p := badVal) hkl (by rw [hvb, hb]; rfl)
      have hco : coreOk c = false := by rw [coreOk, if_pos (.inr (.inl hh))]
      clear hvb ht
      have x1 := sValOk_ok (c.regs.getD k 0)
      exact wk
    ·
      have x1 := sValOk_ok (c.regs.getD k 0)
      refine wkc ?_
      all_goals (refine ⟨⟨k + 1, by omega, by rw [ht, hq, hvb, hb]; rfl⟩, ?_, by simp only; omega⟩; (refine weak_canon [0, 1, 3] [0] ?_ ?_ ?_ <;> (simp (disch := omega) only [go_sem, coreR]; done)))
  · have h2 : c.regs.any badVal = false := by rw [← hq, List.take_of_length_le (by omega)]
    cases h1 : ((c.regs.length : Int) == 8) <;> cases h3 : decide (0 ≤ c.pc) <;> cases h4 : inB c.process (-1) 3
    all_goals
      have hge : decide (c.pc ≥ 0) = decide (0 ≤ c.pc) := rfl
      have x1 := @coreOk.eq_1
      have x2 := specInB_ok c.process (-1) 3
      exact wk
/-! A new core, and a copy. -/
def newCore : Core := ⟨List.replicate 8 0, 0, -1⟩
theorem iCoreNew_ok : CallOk Tryz.prog 205 [] (.s (.agg (coreT newCore))) [] := by
  refine callOk_of_hcall 40 (hcall_of_body Tryz.func205 rfl (by kernel_rfl) ?_)
  simp (disch := omega) only [go_sem, Tryz.ntmps205, Tryz.results205]
  have x1 := @newCore.eq_1
  have x2 := @intsT_cons
  exact wk
theorem sCoreNew_ok : CallOk Tryz.prog 189 [] (.s (.agg (coreT newCore))) [] := by
  refine callOk_of_hcall 40 (hcall_of_body Tryz.func189 rfl (by kernel_rfl) ?_)
  simp (disch := omega) only [go_sem, Tryz.ntmps189, Tryz.results189]
  have x1 := @newCore.eq_1
  have x2 := @intsT_cons
  exact wk
theorem copyCore_ok (c : Core) (hc : mdCore c) : CallOk Tryz.prog 141 [.agg (coreR c)] (.s (.agg (coreT c))) [none] := by
  have hs : c.regs.length ≤ 1099511627776 := hc
  refine callOk_of_hcall 40 (hcall_of_body Tryz.func141 rfl (by kernel_rfl) ?_)
  simp (disch := omega) only [go_sem, Tryz.ntmps141, Tryz.results141]
  exact wk
theorem l15Copy_ok (c : Core) (hc : mdCore c) : CallOk Tryz.prog 124 [.agg (coreR c)] (.s (.agg (coreT c))) [none] := by
  have hs : c.regs.length ≤ 1099511627776 := hc
  refine callOk_of_hcall 40 (hcall_of_body Tryz.func124 rfl (by kernel_rfl) ?_)
  simp (disch := omega) only [go_sem, Tryz.ntmps124, Tryz.results124]
  have x1 : HH 1 (.ho [1, 2, 4, 5, 6, 7] (opm 0 [7, 5, 2] [true, true, true] (opm 3 [7, 5] [true, true, false] (opm 8 [] [false, false] (opm 9 [] [] (.stop)))))) := ⟨⟩
  exact wk
end Go.Proofs.YtejnpiielcbkkaaGreat.E
