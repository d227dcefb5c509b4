import Derived.Test.YtgeoipplkjgnfaaGt1
set_option linter.unusedVariables false
set_option linter.unusedSimpArgs false
set_option maxRecDepth 100000
namespace Go.Proofs.Ytgeoipplkjgnfaa.E
def goodAt (xs : List Int) (j : Nat) : Bool := inB (xs.getD j 0) 0 3 && !hasI (xs.take j) (xs.getD j 0)
def allGood (xs : List Int) (k : Nat) : Bool := (List.range k).all (goodAt xs)
theorem allGood_succ (xs : List Int) (k : Nat) : allGood xs (k + 1) = (allGood xs k && goodAt xs k) := by
  simp [allGood, List.range_succ, List.all_append]
theorem allGood_bad {xs : List Int} {k : Nat} (hk : k < xs.length) (h : goodAt xs k = false) : allGood xs xs.length = false := by
  simp only [allGood, List.all_eq_false]
  exact ⟨k, by simpa using hk, by simp [h]⟩
def gateOk (g : Gate) : Bool := allGood (inGate g) (inGate g).length && (decide ((g.queues.length : Int) ≤ 2) && ((g.owner != -1) || ((g.waits.length : Int) == 0)))
theorem inGate_sm (g : Gate) (hg : smGate g) : (inGate g).length ≤ 2199023255553 := by
  rw [← inAcc_end (Nat.le_refl _)]; exact inAcc_len hg _
theorem iHas_ok' (xs : List Int) (k : Nat) (x : Int) (hs : xs.length ≤ 2199023255553) (hk : k ≤ xs.length) : CallOk Try.prog 73 [.one (.ro 1 (intsD (xs.take k))), .one (iV x)] (.s (.one (bV (hasI (xs.take k) x)))) [none, none] := iHas_ok _ _ (by simp; omega)
theorem iGateOk_ok (g : Gate) (hg : smGate g) : CallOk Try.prog 30 [.agg (gateR g)] (.s (.one (bV (gateOk g)))) [none] := by
  obtain ⟨h1, h2⟩ := id hg
  have hl := inGate_sm g hg
  refine callOk_of_hcall 40 (hcall_of_body Try.func30 rfl (by kernel_rfl) ?_)
  simp (disch := omega) only [go_sem, Try.ntmps30, Try.results30]
  repeat' (first
    | (with_reducible refine i_seq ?_)
    | ((with_reducible refine i_block ?_); (try simp (disch := omega) only [go_sem, *]))
    | ((with_reducible refine i_regionQ (fun Q' hQ => ?_)); (try simp (disch := omega) only [go_sem, *]))
    | ((with_reducible refine Imp.go hQ ?_); clear hQ; (try simp (disch := omega) only [go_sem, *]))
    | ((with_reducible refine resOk_g (fun h => ?_) (fun h => ?_)) <;> (try simp only [Bool.not_eq_eq_eq_not, Bool.not_true, Bool.not_false, reduceCtorEq] at h) <;> (try have h' := of_decide_eq_true h) <;> (try (have hz : (_ : Int) = (_ : Int) := h'; clear hz h')) <;> (try have h' := of_decide_eq_false h) <;> (try have h' := inB_t h) <;> (try (exfalso; omega)) <;> (try simp (disch := omega) only [go_sem, *]))
    | (((with_reducible refine i_condT ?_ ?_); (focus (simp only [go_sem, *]; done))) <;> (try simp (disch := omega) only [go_sem, *]))
    | (((with_reducible refine i_condF ?_ ?_); (focus (simp only [go_sem, *]; done))) <;> (try simp (disch := omega) only [go_sem, *]))
    | ((with_reducible refine i_cond (by simp only [go_sem, *] <;> rfl) (fun h => ?_) (fun h => ?_)) <;> (try simp only [Bool.not_eq_eq_eq_not, Bool.not_true, Bool.not_false, reduceCtorEq] at h) <;> (try have h' := of_decide_eq_true h) <;> (try (have hz : (_ : Int) = (_ : Int) := h'; clear hz h')) <;> (try have h' := of_decide_eq_false h) <;> (try have h' := inB_t h) <;> (try (exfalso; omega)) <;> (try simp (disch := omega) only [go_sem, *]))
    | ((with_reducible refine hcall_of_callOk 40 true (iInGate_ok g hg) ?_ ?_ ?_ ?_ ?_); (focus (simp (disch := omega) only [go_sem, natLe_ok]; done)); (focus (simp (disch := omega) only [go_sem, natLe_ok]; done)); (focus (simp (disch := omega) only [go_sem, natLe_ok]; done)); (focus (simp (disch := omega) only [go_sem, natLe_ok]; done)); simp only [go_sem]; refine aL_run ?_; (try simp (disch := omega) only [go_sem, *])))
  all_goals (try simp (disch := omega) only [EndK, go_sem, natLe_ok, *])
  refine i_loop (α := {k : Nat // k ≤ (inGate g).length ∧ allGood (inGate g) k = true}) (fun k => ⟨mkEnv 41 [(0, .agg (gateR g)), (1, .one (.ptr 0 0 0)), (3, .one (.ref 1 0 (inGate g).length)), (8, .one (.ref 1 0 (inGate g).length)), (9, .one (iV (inGate g).length)), (10, .one (iV k.1))], [.live 3 [gateR g], .live 1 (intsT (inGate g))]⟩) (fun k => (inGate g).length - k.1) ⟨0, by omega, by simp [allGood]⟩ ?_ ?_
  · (refine weak_canon [0, 1, 3, 8, 9, 10] [0, 1] ?_ ?_ ?_ <;> (simp (disch := omega) only [go_sem, *]; done))
  rintro ⟨k, hk, hp⟩
  simp (disch := omega) only [go_sem]
  repeat' (first
    | (with_reducible refine i_seq ?_)
    | ((with_reducible refine i_block ?_); (try simp (disch := omega) only [go_sem, *]))
    | ((with_reducible refine i_regionQ (fun Q' hQ => ?_)); (try simp (disch := omega) only [go_sem, *]))
    | ((with_reducible refine Imp.go hQ ?_); clear hQ; (try simp (disch := omega) only [go_sem, *]))
    | ((with_reducible refine resOk_g (fun h => ?_) (fun h => ?_)) <;> (try simp only [Bool.not_eq_eq_eq_not, Bool.not_true, Bool.not_false, reduceCtorEq] at h) <;> (try have h' := of_decide_eq_true h) <;> (try (have hz : (_ : Int) = (_ : Int) := h'; clear hz h')) <;> (try have h' := of_decide_eq_false h) <;> (try have h' := inB_t h) <;> (try (exfalso; omega)) <;> (try simp (disch := omega) only [go_sem, *]))
    | (((with_reducible refine i_condT ?_ ?_); (focus (simp only [go_sem, *]; done))) <;> (try simp (disch := omega) only [go_sem, *]))
    | (((with_reducible refine i_condF ?_ ?_); (focus (simp only [go_sem, *]; done))) <;> (try simp (disch := omega) only [go_sem, *]))
    | ((with_reducible refine i_cond (by simp only [go_sem, *] <;> rfl) (fun h => ?_) (fun h => ?_)) <;> (try simp only [Bool.not_eq_eq_eq_not, Bool.not_true, Bool.not_false, reduceCtorEq] at h) <;> (try have h' := of_decide_eq_true h) <;> (try (have hz : (_ : Int) = (_ : Int) := h'; clear hz h')) <;> (try have h' := of_decide_eq_false h) <;> (try have h' := inB_t h) <;> (try (exfalso; omega)) <;> (try simp (disch := omega) only [go_sem, *]))
    | ((with_reducible refine hcall_of_callOk 40 true (within_ok ((inGate g).getD k 0) 0 3) ?_ ?_ ?_ ?_ ?_); (focus (simp (disch := omega) only [go_sem, natLe_ok]; done)); (focus (simp (disch := omega) only [go_sem, natLe_ok]; done)); (focus (simp (disch := omega) only [go_sem, natLe_ok]; done)); (focus (simp (disch := omega) only [go_sem, natLe_ok]; done)); simp only [go_sem]; refine aL_run ?_; (try simp (disch := omega) only [go_sem, *]))
    | ((with_reducible refine hcall_of_callOk 40 true (iHas_ok' (inGate g) k ((inGate g).getD k 0) hl hk) ?_ ?_ ?_ ?_ ?_); (focus (simp (disch := omega) only [go_sem, natLe_ok]; done)); (focus (simp (disch := omega) only [go_sem, natLe_ok]; done)); (focus (simp (disch := omega) only [go_sem, natLe_ok]; done)); (focus (simp (disch := omega) only [go_sem, natLe_ok]; done)); simp only [go_sem]; refine aL_run ?_; (try simp (disch := omega) only [go_sem, *])))
  all_goals (try simp (disch := omega) only [EndK, go_sem, natLe_ok, *])
  · have hb : goodAt (inGate g) k = false := by simp only [goodAt, *]; rfl
    simp only [gateOk, allGood_bad (by omega) hb, Bool.false_and]
  · have hb : goodAt (inGate g) k = true := by simp only [goodAt, *]; rfl
    refine ⟨⟨k + 1, by omega, by rw [allGood_succ, hp, hb]; rfl⟩, ?_, by simp only; omega⟩
    (refine weak_canon [0, 1, 3, 8, 9, 10] [0, 1] ?_ ?_ ?_ <;> (simp (disch := omega) only [go_sem, *]; done))
  · have hb : goodAt (inGate g) k = false := by simp only [goodAt, *]; rfl
    simp only [gateOk, allGood_bad (by omega) hb, Bool.false_and]
  all_goals have hq : allGood (inGate g) (inGate g).length = true := by rw [← hp]; congr 1; omega
  all_goals (try simp only [gateOk, hq, Bool.true_and, *])
  all_goals rfl
end Go.Proofs.Ytgeoipplkjgnfaa.E
