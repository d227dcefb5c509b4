/- A part of what stands under the laws of this seat: an abstract evaluator that is proved sound, and contracts of functions by it. No condition beside those that stand in each statement. -/
import Derived.Test.YtapgpllnledhmaaGreatK1
set_option linter.unusedVariables false
set_option linter.unusedSimpArgs false
set_option maxRecDepth 100000
set_option maxHeartbeats 4000000
namespace Go.Proofs.YtapgpllnledhmaaGreat.E
section
variable (f : Nat) (p : Int → Bool) (hp : ∀ x, CallOk Tryz.prog f [.one (iV x)] (.s (.one (bV (p x)))) [none])
theorem any_take {p : Int → Bool} {xs : List Int} {k : Nat} (hk : k < xs.length) : (xs.take (k + 1)).any p = ((xs.take k).any p || p (xs.getD k 0)) := by
  rw [List.take_succ_eq_append_getElem hk, List.any_append]
  simp [hk]
theorem any_of {p : Int → Bool} {xs : List Int} {k : Nat} (hk : k < xs.length) (h : p (xs.getD k 0) = true) : xs.any p = true := by
  simp only [List.any_eq_true]
  exact ⟨xs[k], List.getElem_mem hk, by simpa [hk] using h⟩
include hp
theorem idxF_ok (xs : List Int) (hs : xs.length ≤ 1099511627776) : CallE Tryz.prog 99 [.one (.ro 1 (intsD xs)), .one (.fn f [])] (fun r : Int => .s (.one (iV r))) (fun _ => [none, none]) (fun r => decide (0 ≤ r) = xs.any p) := by
  refine callE_of_hcall 40 (hcall_of_body Tryz.func99 rfl (by kernel_rfl) ?_)
  simp (disch := omega) only [go_sem, Tryz.ntmps99, Tryz.results99]
  repeat' (first | (with_reducible first | refine i_seq ?_) | ((first | (with_reducible first | refine i_block ?_ | refine i_regionQ (fun Q' hQ => ?_) | (refine Imp.go hQ ?_; clear hQ)) | ((with_reducible refine i_condT ?_ ?_); (focus (simp only [go_sem, *]; done))) | ((with_reducible refine i_condF ?_ ?_); (focus (simp only [go_sem, *]; done))) | ((with_reducible first | refine resOk_g (fun h => ?_) (fun h => ?_) | refine i_cond (by simp only [go_sem, *] <;> rfl) (fun h => ?_) (fun h => ?_)) <;> (try simp only [Bool.not_eq_eq_eq_not, Bool.not_true, Bool.not_false, reduceCtorEq] at h) <;> (try have h' := of_decide_eq_true h) <;> (try (have hz : (_ : Int) = (_ : Int) := h'; clear hz h')) <;> (try have h' := of_decide_eq_false h) <;> (try have h' := inB_t h) <;> (try (exfalso; omega)))) <;> (try simp (disch := omega) only [go_sem, *])))
  all_goals (try simp (disch := omega) only [EndK, go_sem, natLe_ok, *])
  refine i_loop (α := {k : Nat // k ≤ xs.length ∧ (xs.take k).any p = false}) (fun k => ⟨mkEnv 19 [(0, .one (.ro 1 (intsD xs))), (1, .one (.fn f [])), (7, .one (iV xs.length)), (8, .one (iV k.1))], []⟩) (fun k => xs.length - k.1) ⟨0, by omega, by simp⟩ ?_ ?_
  · (refine weak_canon [0, 1, 7, 8] [] ?_ ?_ ?_ <;> (simp (disch := omega) only [go_sem]; done))
  rintro ⟨k, hk, hq⟩
  simp (disch := omega) only [go_sem]
  by_cases hkl : k < xs.length
  · have ht := any_take (p := p) hkl
    cases hb : p (xs.getD k 0)
    ·
      repeat' (first | (with_reducible first | refine i_seq ?_) | ((first | (with_reducible first | refine i_block ?_ | refine i_regionQ (fun Q' hQ => ?_) | (refine Imp.go hQ ?_; clear hQ)) | ((with_reducible refine i_condT ?_ ?_); (focus (simp only [go_sem, *]; done))) | ((with_reducible refine i_condF ?_ ?_); (focus (simp only [go_sem, *]; done))) | ((with_reducible first | refine resOk_g (fun h => ?_) (fun h => ?_) | refine i_cond (by simp only [go_sem, *] <;> rfl) (fun h => ?_) (fun h => ?_)) <;> (try simp only [Bool.not_eq_eq_eq_not, Bool.not_true, Bool.not_false, reduceCtorEq] at h) <;> (try have h' := of_decide_eq_true h) <;> (try (have hz : (_ : Int) = (_ : Int) := h'; clear hz h')) <;> (try have h' := of_decide_eq_false h) <;> (try have h' := inB_t h) <;> (try (exfalso; omega))) | (((with_reducible refine hcall_of_callOk 40 true (hp (xs.getD k 0)) ?_ ?_ ?_ ?_ ?_); iterate 4 (focus (simp (disch := omega) only [go_sem, natLe_ok]; done))); simp only [go_sem]; refine aL_run ?_)) <;> (try simp (disch := omega) only [go_sem, *])))
      all_goals (try simp (disch := omega) only [EndK, go_sem, natLe_ok, *])
      all_goals (refine ⟨⟨k + 1, by omega, by rw [ht, hq, hb]; rfl⟩, ?_, by simp only; omega⟩; (refine weak_canon [0, 1, 7, 8] [] ?_ ?_ ?_ <;> (simp (disch := omega) only [go_sem]; done)))
    · have hh := any_of (p := p) hkl hb
      repeat' (first | (with_reducible first | refine i_seq ?_) | ((first | (with_reducible first | refine i_block ?_ | refine i_regionQ (fun Q' hQ => ?_) | (refine Imp.go hQ ?_; clear hQ)) | ((with_reducible refine i_condT ?_ ?_); (focus (simp only [go_sem, *]; done))) | ((with_reducible refine i_condF ?_ ?_); (focus (simp only [go_sem, *]; done))) | ((with_reducible first | refine resOk_g (fun h => ?_) (fun h => ?_) | refine i_cond (by simp only [go_sem, *] <;> rfl) (fun h => ?_) (fun h => ?_)) <;> (try simp only [Bool.not_eq_eq_eq_not, Bool.not_true, Bool.not_false, reduceCtorEq] at h) <;> (try have h' := of_decide_eq_true h) <;> (try (have hz : (_ : Int) = (_ : Int) := h'; clear hz h')) <;> (try have h' := of_decide_eq_false h) <;> (try have h' := inB_t h) <;> (try (exfalso; omega))) | (((with_reducible refine hcall_of_callOk 40 true (hp (xs.getD k 0)) ?_ ?_ ?_ ?_ ?_); iterate 4 (focus (simp (disch := omega) only [go_sem, natLe_ok]; done))); simp only [go_sem]; refine aL_run ?_)) <;> (try simp (disch := omega) only [go_sem, *])))
      all_goals (try simp (disch := omega) only [EndK, go_sem, natLe_ok, *])
      all_goals exact ⟨(k : Int), by simp, rfl⟩
  · have hx : xs.any p = false := by rw [← hq, List.take_of_length_le (by omega)]
    repeat' (first | (with_reducible first | refine i_seq ?_) | ((first | (with_reducible first | refine i_block ?_ | refine i_regionQ (fun Q' hQ => ?_) | (refine Imp.go hQ ?_; clear hQ)) | ((with_reducible refine i_condT ?_ ?_); (focus (simp only [go_sem, *]; done))) | ((with_reducible refine i_condF ?_ ?_); (focus (simp only [go_sem, *]; done))) | ((with_reducible first | refine resOk_g (fun h => ?_) (fun h => ?_) | refine i_cond (by simp only [go_sem, *] <;> rfl) (fun h => ?_) (fun h => ?_)) <;> (try simp only [Bool.not_eq_eq_eq_not, Bool.not_true, Bool.not_false, reduceCtorEq] at h) <;> (try have h' := of_decide_eq_true h) <;> (try (have hz : (_ : Int) = (_ : Int) := h'; clear hz h')) <;> (try have h' := of_decide_eq_false h) <;> (try have h' := inB_t h) <;> (try (exfalso; omega)))) <;> (try simp (disch := omega) only [go_sem, *])))
    all_goals (try simp (disch := omega) only [EndK, go_sem, natLe_ok, *])
    all_goals exact ⟨-1, by rfl, rfl⟩
theorem hasF_ok (xs : List Int) (hs : xs.length ≤ 1099511627776) : CallOk Tryz.prog 76 [.one (.ro 1 (intsD xs)), .one (.fn f [])] (.s (.one (bV (xs.any p)))) [none, none] := by
  refine callOk_of_hcall 40 (hcall_of_body Tryz.func76 rfl (by kernel_rfl) ?_)
  simp (disch := omega) only [go_sem, Tryz.ntmps76, Tryz.results76]
  repeat' (first | (with_reducible first | refine i_seq ?_) | ((first | (with_reducible first | refine i_block ?_ | refine i_regionQ (fun Q' hQ => ?_) | (refine Imp.go hQ ?_; clear hQ)) | ((with_reducible refine i_condT ?_ ?_); (focus (simp only [go_sem, *]; done))) | ((with_reducible refine i_condF ?_ ?_); (focus (simp only [go_sem, *]; done))) | ((with_reducible first | refine resOk_g (fun h => ?_) (fun h => ?_) | refine i_cond (by simp only [go_sem, *] <;> rfl) (fun h => ?_) (fun h => ?_)) <;> (try simp only [Bool.not_eq_eq_eq_not, Bool.not_true, Bool.not_false, reduceCtorEq] at h) <;> (try have h' := of_decide_eq_true h) <;> (try (have hz : (_ : Int) = (_ : Int) := h'; clear hz h')) <;> (try have h' := of_decide_eq_false h) <;> (try have h' := inB_t h) <;> (try (exfalso; omega))) | ((with_reducible refine hcall_of_callE 40 true (idxF_ok f p hp xs hs) ?_ ?_ ?_ ?_ ?_); (focus (simp (disch := omega) only [go_sem, natLe_ok]; done)); (focus (simp (disch := omega) only [go_sem, natLe_ok]; done)); (focus (rintro r hr; (try dsimp only at hr); (try simp (disch := omega) only [go_sem, natLe_ok]); done)); (focus (rintro r hr; (try dsimp only at hr); (try simp (disch := omega) only [go_sem, natLe_ok]); done)); rintro r hr; (try dsimp only at hr); simp only [go_sem]; refine aL_run ?_)) <;> (try simp (disch := omega) only [go_sem, *])))
  all_goals (try simp (disch := omega) only [EndK, go_sem, natLe_ok, *])
end
def badVal (n : Int) : Bool := !valOk n
theorem badVal_ok (n : Int) : CallOk Tryz.prog 110 [.one (iV n)] (.s (.one (bV (badVal n)))) [none] := by
  refine callOk_of_hcall 40 (hcall_of_body Tryz.func110 rfl (by kernel_rfl) ?_)
  simp (disch := omega) only [go_sem, Tryz.ntmps110, Tryz.results110]
  repeat' (first | (with_reducible first | refine i_seq ?_) | ((first | (with_reducible first | refine i_block ?_ | refine i_regionQ (fun Q' hQ => ?_) | (refine Imp.go hQ ?_; clear hQ)) | ((with_reducible refine i_condT ?_ ?_); (focus (simp only [go_sem, *]; done))) | ((with_reducible refine i_condF ?_ ?_); (focus (simp only [go_sem, *]; done))) | ((with_reducible first | refine resOk_g (fun h => ?_) (fun h => ?_) | refine i_cond (by simp only [go_sem, *] <;> rfl) (fun h => ?_) (fun h => ?_)) <;> (try simp only [Bool.not_eq_eq_eq_not, Bool.not_true, Bool.not_false, reduceCtorEq] at h) <;> (try have h' := of_decide_eq_true h) <;> (try (have hz : (_ : Int) = (_ : Int) := h'; clear hz h')) <;> (try have h' := of_decide_eq_false h) <;> (try have h' := inB_t h) <;> (try (exfalso; omega))) | (((with_reducible first | refine hcall_of_callOk 40 true (iValOk_ok n) ?_ ?_ ?_ ?_ ?_); iterate 4 (focus (simp (disch := omega) only [go_sem, badVal, natLe_ok]; done))); simp only [go_sem, badVal]; refine aL_run ?_)) <;> (try simp (disch := omega) only [go_sem, badVal, *])))
  all_goals (try simp (disch := omega) only [EndK, go_sem, badVal, natLe_ok, *])
def coreOk (c : Core) : Bool := if ((c.regs.length : Int) == 8) = false ∨ c.regs.any badVal = true ∨ decide (0 ≤ c.pc) = false ∨ inB c.process (-1) 3 = false then false else true
theorem iCoreOk_ok (c : Core) (hc : mdCore c) : CallOk Tryz.prog 90 [.agg (coreR c)] (.s (.one (bV (coreOk c)))) [none] := by
  have hs : c.regs.length ≤ 1099511627776 := hc
  clear hc
  cases h1 : ((c.regs.length : Int) == 8) <;> cases h2 : c.regs.any badVal <;> cases h3 : decide (0 ≤ c.pc) <;> cases h4 : inB c.process (-1) 3
  all_goals
    have hge : decide (c.pc ≥ 0) = decide (0 ≤ c.pc) := rfl
    refine callOk_of_hcall 40 (hcall_of_body Tryz.func90 rfl (by kernel_rfl) ?_)
    simp (disch := omega) only [go_sem, Tryz.ntmps90, Tryz.results90]
    repeat' (first | (with_reducible first | refine i_seq ?_) | ((first | (with_reducible first | refine i_block ?_ | refine i_regionQ (fun Q' hQ => ?_) | (refine Imp.go hQ ?_; clear hQ)) | ((with_reducible refine i_condT ?_ ?_); (focus (simp only [go_sem, *]; done))) | ((with_reducible refine i_condF ?_ ?_); (focus (simp only [go_sem, *]; done))) | ((with_reducible first | refine resOk_g (fun h => ?_) (fun h => ?_) | refine i_cond (by simp only [go_sem, *] <;> rfl) (fun h => ?_) (fun h => ?_)) <;> (try simp only [Bool.not_eq_eq_eq_not, Bool.not_true, Bool.not_false, reduceCtorEq] at h) <;> (try have h' := of_decide_eq_true h) <;> (try (have hz : (_ : Int) = (_ : Int) := h'; clear hz h')) <;> (try have h' := of_decide_eq_false h) <;> (try have h' := inB_t h) <;> (try (exfalso; omega))) | (((with_reducible first | refine hcall_of_callOk 40 true (hasF_ok 110 badVal badVal_ok c.regs hs) ?_ ?_ ?_ ?_ ?_ | refine hcall_of_callOk 40 true (within_ok c.process (-1) 3) ?_ ?_ ?_ ?_ ?_); iterate 4 (focus (simp (disch := omega) only [go_sem, coreOk, h1, h2, h3, h4, hge, reduceCtorEq, or_true, true_or, or_self, or_false, natLe_ok]; done))); simp only [go_sem, coreOk, h1, h2, h3, h4, hge, reduceCtorEq, or_true, true_or, or_self, or_false]; refine aL_run ?_)) <;> (try simp (disch := omega) only [go_sem, coreOk, h1, h2, h3, h4, hge, reduceCtorEq, or_true, true_or, or_self, or_false, *])))
    all_goals (try simp (disch := omega) only [EndK, go_sem, coreOk, h1, h2, h3, h4, hge, reduceCtorEq, or_true, true_or, or_self, or_false, natLe_ok, *])
theorem sCoreOk_ok (c : Core) (hc : mdCore c) : CallOk Tryz.prog 81 [.agg (coreR c)] (.s (.one (bV (coreOk c)))) [none] := by
  have hs : c.regs.length ≤ 1099511627776 := hc
  clear hc
  refine callOk_of_hcall 40 (hcall_of_body Tryz.func81 rfl (by kernel_rfl) ?_)
  simp (disch := omega) only [go_sem, Tryz.ntmps81, Tryz.results81]
  repeat' (first | (with_reducible first | refine i_seq ?_) | ((first | (with_reducible first | refine i_block ?_ | refine i_regionQ (fun Q' hQ => ?_) | (refine Imp.go hQ ?_; clear hQ)) | ((with_reducible refine i_condT ?_ ?_); (focus (simp only [go_sem, *]; done))) | ((with_reducible refine i_condF ?_ ?_); (focus (simp only [go_sem, *]; done))) | ((with_reducible first | refine resOk_g (fun h => ?_) (fun h => ?_) | refine i_cond (by simp only [go_sem, *] <;> rfl) (fun h => ?_) (fun h => ?_)) <;> (try simp only [Bool.not_eq_eq_eq_not, Bool.not_true, Bool.not_false, reduceCtorEq] at h) <;> (try have h' := of_decide_eq_true h) <;> (try (have hz : (_ : Int) = (_ : Int) := h'; clear hz h')) <;> (try have h' := of_decide_eq_false h) <;> (try have h' := inB_t h) <;> (try (exfalso; omega)))) <;> (try simp (disch := omega) only [go_sem, *])))
  all_goals (try simp (disch := omega) only [EndK, go_sem, natLe_ok, *])
  refine i_loop (α := {k : Nat // k ≤ c.regs.length ∧ (c.regs.take k).any badVal = false}) (fun k => ⟨mkEnv 32 [(0, .agg (coreR c)), (1, .one (.ptr 0 0 0)), (3, .one (iV k.1))], [.live 3 [coreR c]]⟩) (fun k => c.regs.length - k.1) ⟨0, by omega, by simp⟩ ?_ ?_
  · (refine weak_canon [0, 1, 3] [0] ?_ ?_ ?_ <;> (simp (disch := omega) only [go_sem, coreR]; done))
  rintro ⟨k, hk, hq⟩
  simp (disch := omega) only [go_sem]
  by_cases hkl : k < c.regs.length
  · have ht := any_take (p := badVal) hkl
    have hvb : badVal (c.regs.getD k 0) = !valOk (c.regs.getD k 0) := rfl
    cases hb : valOk (c.regs.getD k 0)
    · have hh := any_of (p := badVal) hkl (by rw [hvb, hb]; rfl)
      have hco : coreOk c = false := by rw [coreOk, if_pos (.inr (.inl hh))]
      clear hvb ht
      repeat' (first | (with_reducible first | refine i_seq ?_) | ((first | (with_reducible first | refine i_block ?_ | refine i_regionQ (fun Q' hQ => ?_) | (refine Imp.go hQ ?_; clear hQ)) | ((with_reducible refine i_condT ?_ ?_); (focus (simp only [go_sem, *]; done))) | ((with_reducible refine i_condF ?_ ?_); (focus (simp only [go_sem, *]; done))) | ((with_reducible first | refine resOk_g (fun h => ?_) (fun h => ?_) | refine i_cond (by simp only [go_sem, *] <;> rfl) (fun h => ?_) (fun h => ?_)) <;> (try simp only [Bool.not_eq_eq_eq_not, Bool.not_true, Bool.not_false, reduceCtorEq] at h) <;> (try have h' := of_decide_eq_true h) <;> (try (have hz : (_ : Int) = (_ : Int) := h'; clear hz h')) <;> (try have h' := of_decide_eq_false h) <;> (try have h' := inB_t h) <;> (try (exfalso; omega))) | (((with_reducible first | refine hcall_of_callOk 40 true (sValOk_ok (c.regs.getD k 0)) ?_ ?_ ?_ ?_ ?_); iterate 4 (focus (simp (disch := omega) only [go_sem, hb, hco, natLe_ok]; done))); simp only [go_sem, hb, hco]; refine aL_run ?_)) <;> (try simp (disch := omega) only [go_sem, hb, hco, *])))
      all_goals (try simp (disch := omega) only [EndK, go_sem, hb, hco, natLe_ok, *])
    ·
      repeat' (first | (with_reducible first | refine i_seq ?_) | ((first | (with_reducible first | refine i_block ?_ | refine i_regionQ (fun Q' hQ => ?_) | (refine Imp.go hQ ?_; clear hQ)) | ((with_reducible refine i_condT ?_ ?_); (focus (simp only [go_sem, *]; done))) | ((with_reducible refine i_condF ?_ ?_); (focus (simp only [go_sem, *]; done))) | ((with_reducible first | refine resOk_g (fun h => ?_) (fun h => ?_) | refine i_cond (by simp only [go_sem, *] <;> rfl) (fun h => ?_) (fun h => ?_)) <;> (try simp only [Bool.not_eq_eq_eq_not, Bool.not_true, Bool.not_false, reduceCtorEq] at h) <;> (try have h' := of_decide_eq_true h) <;> (try (have hz : (_ : Int) = (_ : Int) := h'; clear hz h')) <;> (try have h' := of_decide_eq_false h) <;> (try have h' := inB_t h) <;> (try (exfalso; omega))) | (((with_reducible first | refine hcall_of_callOk 40 true (sValOk_ok (c.regs.getD k 0)) ?_ ?_ ?_ ?_ ?_); iterate 4 (focus (simp (disch := omega) only [go_sem, hb, natLe_ok]; done))); simp only [go_sem, hb]; refine aL_run ?_)) <;> (try simp (disch := omega) only [go_sem, hb, *])))
      all_goals (try simp (disch := omega) only [EndK, go_sem, hb, natLe_ok, *])
      all_goals (refine ⟨⟨k + 1, by omega, by rw [ht, hq, hvb, hb]; rfl⟩, ?_, by simp only; omega⟩; (refine weak_canon [0, 1, 3] [0] ?_ ?_ ?_ <;> (simp (disch := omega) only [go_sem, coreR]; done)))
  · have h2 : c.regs.any badVal = false := by rw [← hq, List.take_of_length_le (by omega)]
    cases h1 : ((c.regs.length : Int) == 8) <;> cases h3 : decide (0 ≤ c.pc) <;> cases h4 : inB c.process (-1) 3
    all_goals
      have hge : decide (c.pc ≥ 0) = decide (0 ≤ c.pc) := rfl
      repeat' (first | (with_reducible first | refine i_seq ?_) | ((first | (with_reducible first | refine i_block ?_ | refine i_regionQ (fun Q' hQ => ?_) | (refine Imp.go hQ ?_; clear hQ)) | ((with_reducible refine i_condT ?_ ?_); (focus (simp only [go_sem, *]; done))) | ((with_reducible refine i_condF ?_ ?_); (focus (simp only [go_sem, *]; done))) | ((with_reducible first | refine resOk_g (fun h => ?_) (fun h => ?_) | refine i_cond (by simp only [go_sem, *] <;> rfl) (fun h => ?_) (fun h => ?_)) <;> (try simp only [Bool.not_eq_eq_eq_not, Bool.not_true, Bool.not_false, reduceCtorEq] at h) <;> (try have h' := of_decide_eq_true h) <;> (try (have hz : (_ : Int) = (_ : Int) := h'; clear hz h')) <;> (try have h' := of_decide_eq_false h) <;> (try have h' := inB_t h) <;> (try (exfalso; omega))) | (((with_reducible first | refine hcall_of_callOk 40 true (specInB_ok c.process (-1) 3) ?_ ?_ ?_ ?_ ?_); iterate 4 (focus (simp (disch := omega) only [go_sem, coreOk, h1, h2, h3, h4, hge, reduceCtorEq, or_true, true_or, or_self, or_false, natLe_ok]; done))); simp only [go_sem, coreOk, h1, h2, h3, h4, hge, reduceCtorEq, or_true, true_or, or_self, or_false]; refine aL_run ?_)) <;> (try simp (disch := omega) only [go_sem, coreOk, h1, h2, h3, h4, hge, reduceCtorEq, or_true, true_or, or_self, or_false, *])))
      all_goals (try simp (disch := omega) only [EndK, go_sem, coreOk, h1, h2, h3, h4, hge, reduceCtorEq, or_true, true_or, or_self, or_false, natLe_ok, *])
/-! A new core, and a copy. -/
def newCore : Core := ⟨List.replicate 8 0, 0, -1⟩
theorem iCoreNew_ok : CallOk Tryz.prog 89 [] (.s (.agg (coreT newCore))) [] := by
  refine callOk_of_hcall 40 (hcall_of_body Tryz.func89 rfl (by kernel_rfl) ?_)
  simp (disch := omega) only [go_sem, Tryz.ntmps89, Tryz.results89]
  repeat' (first | (with_reducible first | refine i_seq ?_) | ((first | (with_reducible first | refine i_block ?_ | refine i_regionQ (fun Q' hQ => ?_) | (refine Imp.go hQ ?_; clear hQ)) | ((with_reducible refine i_condT ?_ ?_); (focus (simp only [go_sem, *]; done))) | ((with_reducible refine i_condF ?_ ?_); (focus (simp only [go_sem, *]; done))) | ((with_reducible first | refine resOk_g (fun h => ?_) (fun h => ?_) | refine i_cond (by simp only [go_sem, *] <;> rfl) (fun h => ?_) (fun h => ?_)) <;> (try simp only [Bool.not_eq_eq_eq_not, Bool.not_true, Bool.not_false, reduceCtorEq] at h) <;> (try have h' := of_decide_eq_true h) <;> (try (have hz : (_ : Int) = (_ : Int) := h'; clear hz h')) <;> (try have h' := of_decide_eq_false h) <;> (try have h' := inB_t h) <;> (try (exfalso; omega)))) <;> (try simp (disch := omega) only [go_sem, newCore, intsT_cons, *])))
  all_goals (try simp (disch := omega) only [EndK, go_sem, newCore, intsT_cons, natLe_ok, *])
theorem sCoreNew_ok : CallOk Tryz.prog 80 [] (.s (.agg (coreT newCore))) [] := by
  refine callOk_of_hcall 40 (hcall_of_body Tryz.func80 rfl (by kernel_rfl) ?_)
  simp (disch := omega) only [go_sem, Tryz.ntmps80, Tryz.results80]
  repeat' (first | (with_reducible first | refine i_seq ?_) | ((first | (with_reducible first | refine i_block ?_ | refine i_regionQ (fun Q' hQ => ?_) | (refine Imp.go hQ ?_; clear hQ)) | ((with_reducible refine i_condT ?_ ?_); (focus (simp only [go_sem, *]; done))) | ((with_reducible refine i_condF ?_ ?_); (focus (simp only [go_sem, *]; done))) | ((with_reducible first | refine resOk_g (fun h => ?_) (fun h => ?_) | refine i_cond (by simp only [go_sem, *] <;> rfl) (fun h => ?_) (fun h => ?_)) <;> (try simp only [Bool.not_eq_eq_eq_not, Bool.not_true, Bool.not_false, reduceCtorEq] at h) <;> (try have h' := of_decide_eq_true h) <;> (try (have hz : (_ : Int) = (_ : Int) := h'; clear hz h')) <;> (try have h' := of_decide_eq_false h) <;> (try have h' := inB_t h) <;> (try (exfalso; omega)))) <;> (try simp (disch := omega) only [go_sem, newCore, intsT_cons, *])))
  all_goals (try simp (disch := omega) only [EndK, go_sem, newCore, intsT_cons, natLe_ok, *])
theorem copyCore_ok (c : Core) (hc : mdCore c) : CallOk Tryz.prog 61 [.agg (coreR c)] (.s (.agg (coreT c))) [none] := by
  have hs : c.regs.length ≤ 1099511627776 := hc
  refine callOk_of_hcall 40 (hcall_of_body Tryz.func61 rfl (by kernel_rfl) ?_)
  simp (disch := omega) only [go_sem, Tryz.ntmps61, Tryz.results61]
  repeat' (first | (with_reducible first | refine i_seq ?_) | ((first | (with_reducible first | refine i_block ?_ | refine i_regionQ (fun Q' hQ => ?_) | (refine Imp.go hQ ?_; clear hQ)) | ((with_reducible refine i_condT ?_ ?_); (focus (simp only [go_sem, *]; done))) | ((with_reducible refine i_condF ?_ ?_); (focus (simp only [go_sem, *]; done))) | ((with_reducible first | refine resOk_g (fun h => ?_) (fun h => ?_) | refine i_cond (by simp only [go_sem, *] <;> rfl) (fun h => ?_) (fun h => ?_)) <;> (try simp only [Bool.not_eq_eq_eq_not, Bool.not_true, Bool.not_false, reduceCtorEq] at h) <;> (try have h' := of_decide_eq_true h) <;> (try (have hz : (_ : Int) = (_ : Int) := h'; clear hz h')) <;> (try have h' := of_decide_eq_false h) <;> (try have h' := inB_t h) <;> (try (exfalso; omega)))) <;> (try simp (disch := omega) only [go_sem, *])))
  all_goals (try simp (disch := omega) only [EndK, go_sem, natLe_ok, *])
theorem l15Copy_ok (c : Core) (hc : mdCore c) : CallOk Tryz.prog 48 [.agg (coreR c)] (.s (.agg (coreT c))) [none] := by
  have hs : c.regs.length ≤ 1099511627776 := hc
  refine callOk_of_hcall 40 (hcall_of_body Tryz.func48 rfl (by kernel_rfl) ?_)
  simp (disch := omega) only [go_sem, Tryz.ntmps48, Tryz.results48]
  repeat' (first | (with_reducible first | refine i_seq ?_ | exact th_none | refine i_th (id := 1) (.ho [1, 2, 4, 5, 6, 7] (opm 0 [7, 5, 2] [true, true, true] (opm 3 [7, 5] [true, true, false] (opm 8 [] [false, false] (opm 9 [] [] (.stop)))))) mixedT (by kernel_rfl) (fun Q' hQ => ?_)) | ((first | (with_reducible first | refine i_block ?_ | refine i_regionQ (fun Q' hQ => ?_) | (refine Imp.go hQ ?_; clear hQ) | refine th_ho ?_ | refine th_stop ?_ ?_ | refine th_opm ?_ (by kernel_rfl) (aL_run ?_) | refine th_altm ?_ (by kernel_rfl) (aL_run ?_) ?_) | ((with_reducible refine i_condT ?_ ?_); (focus (simp only [go_sem, *]; done))) | ((with_reducible refine i_condF ?_ ?_); (focus (simp only [go_sem, *]; done))) | ((with_reducible first | refine resOk_g (fun h => ?_) (fun h => ?_) | refine i_cond (by simp only [go_sem, *] <;> rfl) (fun h => ?_) (fun h => ?_)) <;> (try simp only [Bool.not_eq_eq_eq_not, Bool.not_true, Bool.not_false, reduceCtorEq] at h) <;> (try have h' := of_decide_eq_true h) <;> (try (have hz : (_ : Int) = (_ : Int) := h'; clear hz h')) <;> (try have h' := of_decide_eq_false h) <;> (try have h' := inB_t h) <;> (try (exfalso; omega)))) <;> (try simp (disch := omega) only [go_sem, *])))
  all_goals (try simp (disch := omega) only [EndK, go_sem, natLe_ok, *])
end Go.Proofs.YtapgpllnledhmaaGreat.E
