import Derived.Test.YtgeoipplkjgnfaaGt2
set_option linter.unusedVariables false
set_option linter.unusedSimpArgs false
set_option maxRecDepth 100000
namespace Go.Proofs.Ytgeoipplkjgnfaa.E
theorem inB_t {a b c : Int} (h : inB a b c = true) : b ≤ a ∧ a ≤ c := by
  simpa [inB] using h
theorem iHas_in (g : Gate) (hg : smGate g) (x : Int) : CallOk Try.prog 73 [.one (.ro 1 (intsD (inGate g))), .one (iV x)] (.s (.one (bV (hasI (inGate g) x)))) [none, none] := iHas_ok _ _ (by have := inGate_sm g hg; omega)
def arrive (g : Gate) (p : Int) : Gate × Bool :=
  if gateOk g = false ∨ inB p 0 3 = false ∨ hasI (inGate g) p = true then (g, false)
  else if (g.owner == -1) = true then ({ g with owner := p }, true) else ({ g with waits := g.waits ++ [p] }, false)
theorem iArrive_ok (g : Gate) (p : Int) (hg : smGate g) : CallOk Try.prog 32 [.agg (gateR g), .one (iV p)] (.tup [.agg (gateT (arrive g p).1), .one (bV (arrive g p).2)]) [none, none] := by
  obtain ⟨h1, h2⟩ := id hg
  have hz := inGate_sm g hg
  refine callOk_of_hcall 40 (hcall_of_body Try.func32 rfl (by kernel_rfl) ?_)
  simp (disch := omega) only [go_sem, Try.ntmps32, Try.results32]
  repeat' (first
    | (with_reducible refine i_seq ?_)
    | ((with_reducible refine i_block ?_); (try simp (disch := omega) only [go_sem, arrive, *]))
    | ((with_reducible refine i_regionQ (fun Q' hQ => ?_)); (try simp (disch := omega) only [go_sem, arrive, *]))
    | ((with_reducible refine Imp.go hQ ?_); clear hQ; (try simp (disch := omega) only [go_sem, arrive, *]))
    | ((with_reducible refine resOk_g (fun h => ?_) (fun h => ?_)) <;> (try simp only [Bool.not_eq_eq_eq_not, Bool.not_true, Bool.not_false, reduceCtorEq] at h) <;> (try have h' := of_decide_eq_true h) <;> (try (have hz : (_ : Int) = (_ : Int) := h'; clear hz h')) <;> (try have h' := of_decide_eq_false h) <;> (try have h' := inB_t h) <;> (try (exfalso; omega)) <;> (try simp (disch := omega) only [go_sem, arrive, *]))
    | (((with_reducible refine i_condT ?_ ?_); (focus (simp only [go_sem, *]; done))) <;> (try simp (disch := omega) only [go_sem, arrive, *]))
    | (((with_reducible refine i_condF ?_ ?_); (focus (simp only [go_sem, *]; done))) <;> (try simp (disch := omega) only [go_sem, arrive, *]))
    | ((with_reducible refine i_cond (by simp only [go_sem, *] <;> rfl) (fun h => ?_) (fun h => ?_)) <;> (try simp only [Bool.not_eq_eq_eq_not, Bool.not_true, Bool.not_false, reduceCtorEq] at h) <;> (try have h' := of_decide_eq_true h) <;> (try (have hz : (_ : Int) = (_ : Int) := h'; clear hz h')) <;> (try have h' := of_decide_eq_false h) <;> (try have h' := inB_t h) <;> (try (exfalso; omega)) <;> (try simp (disch := omega) only [go_sem, arrive, *]))
    | ((with_reducible refine hcall_of_callOk 40 true (copyGate_ok g hg) ?_ ?_ ?_ ?_ ?_); (focus (simp (disch := omega) only [go_sem, arrive, natLe_ok]; done)); (focus (simp (disch := omega) only [go_sem, arrive, natLe_ok]; done)); (focus (simp (disch := omega) only [go_sem, arrive, natLe_ok]; done)); (focus (simp (disch := omega) only [go_sem, arrive, natLe_ok]; done)); simp only [go_sem, arrive]; refine aL_run ?_; (try simp (disch := omega) only [go_sem, arrive, *]))
    | ((with_reducible refine hcall_of_callOk 40 true (iGateOk_ok g hg) ?_ ?_ ?_ ?_ ?_); (focus (simp (disch := omega) only [go_sem, arrive, natLe_ok]; done)); (focus (simp (disch := omega) only [go_sem, arrive, natLe_ok]; done)); (focus (simp (disch := omega) only [go_sem, arrive, natLe_ok]; done)); (focus (simp (disch := omega) only [go_sem, arrive, natLe_ok]; done)); simp only [go_sem, arrive]; refine aL_run ?_; (try simp (disch := omega) only [go_sem, arrive, *]))
    | ((with_reducible refine hcall_of_callOk 40 true (iInGate_ok g hg) ?_ ?_ ?_ ?_ ?_); (focus (simp (disch := omega) only [go_sem, arrive, natLe_ok]; done)); (focus (simp (disch := omega) only [go_sem, arrive, natLe_ok]; done)); (focus (simp (disch := omega) only [go_sem, arrive, natLe_ok]; done)); (focus (simp (disch := omega) only [go_sem, arrive, natLe_ok]; done)); simp only [go_sem, arrive]; refine aL_run ?_; (try simp (disch := omega) only [go_sem, arrive, *]))
    | ((with_reducible refine hcall_of_callOk 40 true (iHas_in g hg p) ?_ ?_ ?_ ?_ ?_); (focus (simp (disch := omega) only [go_sem, arrive, natLe_ok]; done)); (focus (simp (disch := omega) only [go_sem, arrive, natLe_ok]; done)); (focus (simp (disch := omega) only [go_sem, arrive, natLe_ok]; done)); (focus (simp (disch := omega) only [go_sem, arrive, natLe_ok]; done)); simp only [go_sem, arrive]; refine aL_run ?_; (try simp (disch := omega) only [go_sem, arrive, *]))
    | ((with_reducible refine hcall_of_callOk 40 true (within_ok p 0 3) ?_ ?_ ?_ ?_ ?_); (focus (simp (disch := omega) only [go_sem, arrive, natLe_ok]; done)); (focus (simp (disch := omega) only [go_sem, arrive, natLe_ok]; done)); (focus (simp (disch := omega) only [go_sem, arrive, natLe_ok]; done)); (focus (simp (disch := omega) only [go_sem, arrive, natLe_ok]; done)); simp only [go_sem, arrive]; refine aL_run ?_; (try simp (disch := omega) only [go_sem, arrive, *])))
  all_goals (try simp (disch := omega) only [EndK, go_sem, arrive, natLe_ok, *])
def leave (g : Gate) : Gate × Int :=
  if gateOk g = false ∨ (g.owner == -1) = true then (g, -1)
  else if decide ((0 : Int) < (g.waits.length : Int)) = true then (⟨g.waits.getD 0 0, g.waits.drop 1, g.queues⟩, g.waits.getD 0 0) else ({ g with owner := -1 }, -1)
theorem iLeave_ok (g : Gate) (hg : smGate g) : CallOk Try.prog 24 [.agg (gateR g)] (.tup [.agg (gateT (leave g).1), .one (iV (leave g).2)]) [none] := by
  obtain ⟨h1, h2⟩ := id hg
  refine callOk_of_hcall 40 (hcall_of_body Try.func24 rfl (by kernel_rfl) ?_)
  simp (disch := omega) only [go_sem, Try.ntmps24, Try.results24]
  repeat' (first
    | (with_reducible refine i_seq ?_)
    | ((with_reducible refine i_block ?_); (try simp (disch := omega) only [go_sem, leave, *]))
    | ((with_reducible refine i_regionQ (fun Q' hQ => ?_)); (try simp (disch := omega) only [go_sem, leave, *]))
    | ((with_reducible refine Imp.go hQ ?_); clear hQ; (try simp (disch := omega) only [go_sem, leave, *]))
    | ((with_reducible refine resOk_g (fun h => ?_) (fun h => ?_)) <;> (try simp only [Bool.not_eq_eq_eq_not, Bool.not_true, Bool.not_false, reduceCtorEq] at h) <;> (try have h' := of_decide_eq_true h) <;> (try (have hz : (_ : Int) = (_ : Int) := h'; clear hz h')) <;> (try have h' := of_decide_eq_false h) <;> (try have h' := inB_t h) <;> (try (exfalso; omega)) <;> (try simp (disch := omega) only [go_sem, leave, *]))
    | (((with_reducible refine i_condT ?_ ?_); (focus (simp only [go_sem, *]; done))) <;> (try simp (disch := omega) only [go_sem, leave, *]))
    | (((with_reducible refine i_condF ?_ ?_); (focus (simp only [go_sem, *]; done))) <;> (try simp (disch := omega) only [go_sem, leave, *]))
    | ((with_reducible refine i_cond (by simp only [go_sem, *] <;> rfl) (fun h => ?_) (fun h => ?_)) <;> (try simp only [Bool.not_eq_eq_eq_not, Bool.not_true, Bool.not_false, reduceCtorEq] at h) <;> (try have h' := of_decide_eq_true h) <;> (try (have hz : (_ : Int) = (_ : Int) := h'; clear hz h')) <;> (try have h' := of_decide_eq_false h) <;> (try have h' := inB_t h) <;> (try (exfalso; omega)) <;> (try simp (disch := omega) only [go_sem, leave, *]))
    | (with_reducible refine i_treeQ (id := 6) (.fr [0, 1, 2, 3, 4, 5, 7] (altp 6 (.op [8] (.fr [9] (.op [10] (.stop)))) (altg 8 (.fr [6, 9] (.op [10] (.stop))) (.stop)))) mixedT (by kernel_rfl) (fun Q' hQ => ?_))
    | (with_reducible refine i_treeQ (id := 7) (.fr [0, 1] (altp 2 (.op [3] (.fr [4] (.stop))) (altg 3 (.fr [2, 4] (.stop)) (.stop)))) mixedT (by kernel_rfl) (fun Q' hQ => ?_))
    | (with_reducible exact tr_none)
    | (with_reducible refine tr_stop ?_)
    | ((with_reducible refine tr_fr ?_); (try simp (disch := omega) only [go_sem, leave, *]))
    | ((with_reducible refine tr_op (aL_run ?_)); (try simp (disch := omega) only [go_sem, leave, *]))
    | ((with_reducible refine tr_alt (by kernel_rfl) (aL_run ?_) ?_) <;> (try simp (disch := omega) only [go_sem, leave, *]))
    | ((with_reducible refine tr_altp ?_ ?_) <;> (try simp (disch := omega) only [go_sem, leave, *]))
    | ((with_reducible refine pG_split (fun h => ?_) (fun h => ?_)) <;> (try simp only [Bool.not_eq_eq_eq_not, Bool.not_true, Bool.not_false, reduceCtorEq] at h) <;> (try have h' := of_decide_eq_true h) <;> (try (have hz : (_ : Int) = (_ : Int) := h'; clear hz h')) <;> (try have h' := of_decide_eq_false h) <;> (try have h' := inB_t h) <;> (try (exfalso; omega)) <;> (try simp (disch := omega) only [go_sem, leave, *]))
    | ((with_reducible refine hcall_of_callOk 40 true (copyGate_ok g hg) ?_ ?_ ?_ ?_ ?_); (focus (simp (disch := omega) only [go_sem, leave, natLe_ok]; done)); (focus (simp (disch := omega) only [go_sem, leave, natLe_ok]; done)); (focus (simp (disch := omega) only [go_sem, leave, natLe_ok]; done)); (focus (simp (disch := omega) only [go_sem, leave, natLe_ok]; done)); simp only [go_sem, leave]; refine aL_run ?_; (try simp (disch := omega) only [go_sem, leave, *]))
    | ((with_reducible refine hcall_of_callOk 40 true (iGateOk_ok g hg) ?_ ?_ ?_ ?_ ?_); (focus (simp (disch := omega) only [go_sem, leave, natLe_ok]; done)); (focus (simp (disch := omega) only [go_sem, leave, natLe_ok]; done)); (focus (simp (disch := omega) only [go_sem, leave, natLe_ok]; done)); (focus (simp (disch := omega) only [go_sem, leave, natLe_ok]; done)); simp only [go_sem, leave]; refine aL_run ?_; (try simp (disch := omega) only [go_sem, leave, *])))
  all_goals (try simp (disch := omega) only [EndK, go_sem, leave, natLe_ok, *])
end Go.Proofs.Ytgeoipplkjgnfaa.E
