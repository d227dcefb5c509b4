import Derived.Test.YtgeoipplkjgnfaaGt7
set_option linter.unusedVariables false
set_option linter.unusedSimpArgs false
set_option maxRecDepth 100000
set_option maxHeartbeats 4000000
namespace Go.Proofs.Ytgeoipplkjgnfaa.E
theorem intsT_nil : intsT [] = [] := rfl
attribute [go_sem] intsT_nil
theorem specHas_ok (xs : List Int) (x : Int) (hs : xs.length ≤ 4398046511104) : CallOk Try.prog 78 [.one (.ro 1 (intsD xs)), .one (iV x)] (.s (.one (bV (hasI xs x)))) [none, none] := specIn_ok xs x (by omega)
theorem all_range_snoc (n : Nat) (f : Nat → Bool) : (List.range (n + 1)).all f = ((List.range n).all f && f n) := by
  simp [List.range_succ, List.all_append]
theorem all_range_bad {n k : Nat} {f : Nat → Bool} (hk : k < n) (h : f k = false) : (List.range n).all f = false := by
  simp only [List.all_eq_false]
  exact ⟨k, by simpa using hk, by simp [h]⟩
theorem sOwn_len (g : Gate) : (sOwn g).length ≤ 1 := by unfold sOwn; split <;> simp
theorem take_getD (xs : List Int) (k : Nat) (hk : k < xs.length) : xs.take (k + 1) = xs.take k ++ [xs.getD k 0] := by
  rw [List.take_succ_eq_append_getElem hk]; simp [hk]
def accW (g : Gate) (k : Nat) : List Int := sOwn g ++ g.waits.take k
def accQ (g : Gate) (k : Nat) : List Int := sOwn g ++ g.waits ++ g.queues.take k
theorem accW_len {g : Gate} {k : Nat} (hg : smGate g) : (accW g k).length ≤ 2199023255553 := by
  have := sOwn_len g
  obtain ⟨h1, h2⟩ := hg
  simp only [accW, List.length_append, List.length_take]; omega
theorem accQ_len {g : Gate} {k : Nat} (hg : smGate g) : (accQ g k).length ≤ 2199023255553 := by
  have := sOwn_len g
  obtain ⟨h1, h2⟩ := hg
  simp only [accQ, List.length_append, List.length_take]; omega
theorem accW_succ {g : Gate} {k : Nat} (hk : k < g.waits.length) : accW g (k + 1) = accW g k ++ [g.waits.getD k 0] := by
  simp only [accW, take_getD _ _ hk, List.append_assoc]
theorem accQ_succ {g : Gate} {k : Nat} (hk : k < g.queues.length) : accQ g (k + 1) = accQ g k ++ [g.queues.getD k 0] := by
  simp only [accQ, take_getD _ _ hk, List.append_assoc]
theorem accQ_zero {g : Gate} {k : Nat} (hk : g.waits.length ≤ k) : accW g k = accQ g 0 := by
  simp only [accW, accQ, List.take_of_length_le hk, List.take_zero, List.append_nil]
theorem sGateOk_ok (g : Gate) (hg : smGate g) : CallOk Try.prog 38 [.agg (gateR g)] (.s (.one (bV (gateOk g)))) [none] := by
  obtain ⟨h1, h2⟩ := id hg
  rw [gateOk_spec]
  have hol := sOwn_len g
  refine callOk_of_hcall 40 (hcall_of_body Try.func38 rfl (by kernel_rfl) ?_)
  simp (disch := omega) only [go_sem, Try.ntmps38, Try.results38]
  repeat' (first
    | (with_reducible refine i_seq ?_)
    | ((with_reducible refine i_block ?_); (try simp (disch := omega) only [go_sem, sHead, *]))
    | ((with_reducible refine i_regionQ (fun Q' hQ => ?_)); (try simp (disch := omega) only [go_sem, sHead, *]))
    | ((with_reducible refine Imp.go hQ ?_); clear hQ; (try simp (disch := omega) only [go_sem, sHead, *]))
    | ((with_reducible refine resOk_g (fun h => ?_) (fun h => ?_)) <;> (try simp only [Bool.not_eq_eq_eq_not, Bool.not_true, Bool.not_false, reduceCtorEq] at h) <;> (try have h' := of_decide_eq_true h) <;> (try (have hz : (_ : Int) = (_ : Int) := h'; clear hz h')) <;> (try have h' := of_decide_eq_false h) <;> (try have h' := inB_t h) <;> (try (exfalso; omega)) <;> (try simp (disch := omega) only [go_sem, sHead, *]))
    | (((with_reducible refine i_condT ?_ ?_); (focus (simp only [go_sem, *]; done))) <;> (try simp (disch := omega) only [go_sem, sHead, *]))
    | (((with_reducible refine i_condF ?_ ?_); (focus (simp only [go_sem, *]; done))) <;> (try simp (disch := omega) only [go_sem, sHead, *]))
    | ((with_reducible refine i_cond (by simp only [go_sem, *] <;> rfl) (fun h => ?_) (fun h => ?_)) <;> (try simp only [Bool.not_eq_eq_eq_not, Bool.not_true, Bool.not_false, reduceCtorEq] at h) <;> (try have h' := of_decide_eq_true h) <;> (try (have hz : (_ : Int) = (_ : Int) := h'; clear hz h')) <;> (try have h' := of_decide_eq_false h) <;> (try have h' := inB_t h) <;> (try (exfalso; omega)) <;> (try simp (disch := omega) only [go_sem, sHead, *]))
    | ((with_reducible refine hcall_of_callOk 40 true (specInB_ok g.owner (-1) 3) ?_ ?_ ?_ ?_ ?_); (focus (simp (disch := omega) only [go_sem, sHead, natLe_ok]; done)); (focus (simp (disch := omega) only [go_sem, sHead, natLe_ok]; done)); (focus (simp (disch := omega) only [go_sem, sHead, natLe_ok]; done)); (focus (simp (disch := omega) only [go_sem, sHead, natLe_ok]; done)); simp only [go_sem, sHead]; refine aL_run ?_; (try simp (disch := omega) only [go_sem, sHead, *])))
  all_goals (try simp (disch := omega) only [EndK, go_sem, sHead, natLe_ok, *])
  all_goals (try (exfalso; omega))
  all_goals
    have e0 : accW g 0 = if decide (0 ≤ g.owner) = true then [g.owner] else [] := by simp [accW, sOwn]
    refine i_loop (α := {k : Nat // k ≤ g.waits.length ∧ (List.range k).all (wAt g) = true}) (fun k => ⟨mkEnv 106 [(0, .agg (gateR g)), (1, .one (.ptr 0 0 0)), (3, .one (.ref 1 0 (accW g k.1).length)), (4, .one (iV k.1))], [.live 3 [gateR g], .live 1 (intsT (accW g k.1))]⟩) (fun k => g.waits.length - k.1) ⟨0, by omega, rfl⟩ ?_ ?_
    · first | (refine weak_canon [0, 1, 3, 4] [0, 1] ?_ ?_ ?_ <;> (simp (disch := omega) only [go_sem, e0, intsT_cons, *]; done)) | (refine weak_canon [0, 1, 3, 4] [0, 3] ?_ ?_ ?_ <;> (simp (disch := omega) only [go_sem, e0, intsT_cons, *]; done)) | trace_state
    rintro ⟨k, hk, hp⟩
    have hl := accW_len (k := k) hg
    have ew : wAt g k = (inB (g.waits.getD k 0) 0 3 && !hasI (accW g k) (g.waits.getD k 0)) := rfl
    simp (disch := omega) only [go_sem]
    repeat' (first
      | (with_reducible refine i_seq ?_)
      | ((with_reducible refine i_block ?_); (try simp (disch := omega) only [go_sem, *]))
      | ((with_reducible refine i_regionQ (fun Q' hQ => ?_)); (try simp (disch := omega) only [go_sem, *]))
      | ((with_reducible refine Imp.go hQ ?_); clear hQ; (try simp (disch := omega) only [go_sem, *]))
      | ((with_reducible refine resOk_g (fun h => ?_) (fun h => ?_)) <;> (try simp only [Bool.not_eq_eq_eq_not, Bool.not_true, Bool.not_false, reduceCtorEq] at h) <;> (try have h' := of_decide_eq_true h) <;> (try (have hz : (_ : Int) = (_ : Int) := h'; clear hz h')) <;> (try have h' := of_decide_eq_false h) <;> (try have h' := inB_t h) <;> (try (exfalso; omega)) <;> (try simp (disch := omega) only [go_sem, *]))
      | (((with_reducible refine i_condT ?_ ?_); (focus (simp only [go_sem, *]; done))) <;> (try simp (disch := omega) only [go_sem, *]))
      | (((with_reducible refine i_condF ?_ ?_); (focus (simp only [go_sem, *]; done))) <;> (try simp (disch := omega) only [go_sem, *]))
      | ((with_reducible refine i_cond (by simp only [go_sem, *] <;> rfl) (fun h => ?_) (fun h => ?_)) <;> (try simp only [Bool.not_eq_eq_eq_not, Bool.not_true, Bool.not_false, reduceCtorEq] at h) <;> (try have h' := of_decide_eq_true h) <;> (try (have hz : (_ : Int) = (_ : Int) := h'; clear hz h')) <;> (try have h' := of_decide_eq_false h) <;> (try have h' := inB_t h) <;> (try (exfalso; omega)) <;> (try simp (disch := omega) only [go_sem, *]))
      | ((with_reducible refine hcall_of_callOk 40 true (specInB_ok (g.waits.getD k 0) 0 3) ?_ ?_ ?_ ?_ ?_); (focus (simp (disch := omega) only [go_sem, natLe_ok]; done)); (focus (simp (disch := omega) only [go_sem, natLe_ok]; done)); (focus (simp (disch := omega) only [go_sem, natLe_ok]; done)); (focus (simp (disch := omega) only [go_sem, natLe_ok]; done)); simp only [go_sem]; refine aL_run ?_; (try simp (disch := omega) only [go_sem, *]))
      | ((with_reducible refine hcall_of_callOk 40 true (specHas_ok (accW g k) (g.waits.getD k 0) (by omega)) ?_ ?_ ?_ ?_ ?_); (focus (simp (disch := omega) only [go_sem, natLe_ok]; done)); (focus (simp (disch := omega) only [go_sem, natLe_ok]; done)); (focus (simp (disch := omega) only [go_sem, natLe_ok]; done)); (focus (simp (disch := omega) only [go_sem, natLe_ok]; done)); simp only [go_sem]; refine aL_run ?_; (try simp (disch := omega) only [go_sem, *])))
    all_goals (try simp (disch := omega) only [EndK, go_sem, natLe_ok, *])
    all_goals by_cases hz : k < g.waits.length
    all_goals (try (exfalso; omega))
    all_goals (try (
      have hz2 := ‹k < g.waits.length›
      cases hw : wAt g k
      all_goals have hw' := hw
      all_goals rw [ew] at hw
      all_goals (try (simp only [*, Bool.and_true, Bool.and_false, Bool.true_and, Bool.false_and, Bool.not_true, Bool.not_false, decide_true, decide_false, reduceCtorEq] at hw; done))))
    all_goals (try (simp only [all_range_bad hz ‹wAt g k = false›, Bool.false_and, Bool.and_false]; done))
    all_goals (try (
      refine ⟨⟨k + 1, by omega, by rw [all_range_snoc, hp, ‹wAt g k = true›]; rfl⟩, ?_, by simp only; omega⟩
      have e := accW_succ (g := g) (k := k) hz
      first | (refine weak_canon [0, 1, 3, 4] [0, 3] ?_ ?_ ?_ <;> (simp (disch := omega) only [go_sem, e]; done)) | (refine weak_canon [0, 1, 3, 4] [0, 2] ?_ ?_ ?_ <;> (simp (disch := omega) only [go_sem, e]; done)) | trace_state))
    all_goals
      have hW : (List.range g.waits.length).all (wAt g) = true := by rw [← hp]; congr 1; congr 1; omega
      have e1 : accW g k = accQ g 0 := accQ_zero (by omega)
      rw [hW]
      clear ew hp
      refine i_loop (α := {j : Nat // j ≤ g.queues.length ∧ (List.range j).all (qAt g) = true}) (fun j => ⟨mkEnv 106 [(0, .agg (gateR g)), (1, .one (.ptr 0 0 0)), (3, .one (.ref 1 0 (accQ g j.1).length)), (5, .one (iV j.1))], [.live 3 [gateR g], .live 1 (intsT (accQ g j.1))]⟩) (fun j => g.queues.length - j.1) ⟨0, by omega, rfl⟩ ?_ ?_
      · first | (refine weak_canon [0, 1, 3, 5] [0, 1] ?_ ?_ ?_ <;> (simp (disch := omega) only [go_sem, e1]; done)) | trace_state
      rintro ⟨j, hj, hp⟩
      have hlq := accQ_len (k := j) hg
      have eq' : qAt g j = (inB (g.queues.getD j 0) (-1) 3 && !(decide (0 ≤ g.queues.getD j 0) && hasI (accQ g j) (g.queues.getD j 0))) := rfl
      simp (disch := omega) only [go_sem]
      repeat' (first
        | (with_reducible refine i_seq ?_)
        | ((with_reducible refine i_block ?_); (try simp (disch := omega) only [go_sem, *]))
        | ((with_reducible refine i_regionQ (fun Q' hQ => ?_)); (try simp (disch := omega) only [go_sem, *]))
        | ((with_reducible refine Imp.go hQ ?_); clear hQ; (try simp (disch := omega) only [go_sem, *]))
        | ((with_reducible refine resOk_g (fun h => ?_) (fun h => ?_)) <;> (try simp only [Bool.not_eq_eq_eq_not, Bool.not_true, Bool.not_false, reduceCtorEq] at h) <;> (try have h' := of_decide_eq_true h) <;> (try (have hz : (_ : Int) = (_ : Int) := h'; clear hz h')) <;> (try have h' := of_decide_eq_false h) <;> (try have h' := inB_t h) <;> (try (exfalso; omega)) <;> (try simp (disch := omega) only [go_sem, *]))
        | (((with_reducible refine i_condT ?_ ?_); (focus (simp only [go_sem, *]; done))) <;> (try simp (disch := omega) only [go_sem, *]))
        | (((with_reducible refine i_condF ?_ ?_); (focus (simp only [go_sem, *]; done))) <;> (try simp (disch := omega) only [go_sem, *]))
        | ((with_reducible refine i_cond (by simp only [go_sem, *] <;> rfl) (fun h => ?_) (fun h => ?_)) <;> (try simp only [Bool.not_eq_eq_eq_not, Bool.not_true, Bool.not_false, reduceCtorEq] at h) <;> (try have h' := of_decide_eq_true h) <;> (try (have hz : (_ : Int) = (_ : Int) := h'; clear hz h')) <;> (try have h' := of_decide_eq_false h) <;> (try have h' := inB_t h) <;> (try (exfalso; omega)) <;> (try simp (disch := omega) only [go_sem, *]))
        | ((with_reducible refine hcall_of_callOk 40 true (specInB_ok (g.queues.getD j 0) (-1) 3) ?_ ?_ ?_ ?_ ?_); (focus (simp (disch := omega) only [go_sem, natLe_ok]; done)); (focus (simp (disch := omega) only [go_sem, natLe_ok]; done)); (focus (simp (disch := omega) only [go_sem, natLe_ok]; done)); (focus (simp (disch := omega) only [go_sem, natLe_ok]; done)); simp only [go_sem]; refine aL_run ?_; (try simp (disch := omega) only [go_sem, *]))
        | ((with_reducible refine hcall_of_callOk 40 true (specHas_ok (accQ g j) (g.queues.getD j 0) (by omega)) ?_ ?_ ?_ ?_ ?_); (focus (simp (disch := omega) only [go_sem, natLe_ok]; done)); (focus (simp (disch := omega) only [go_sem, natLe_ok]; done)); (focus (simp (disch := omega) only [go_sem, natLe_ok]; done)); (focus (simp (disch := omega) only [go_sem, natLe_ok]; done)); simp only [go_sem]; refine aL_run ?_; (try simp (disch := omega) only [go_sem, *])))
      all_goals (try simp (disch := omega) only [EndK, go_sem, natLe_ok, *])
    all_goals by_cases hz3 : j < g.queues.length
    all_goals (try (exfalso; omega))
    all_goals (try (
      have hz2 := ‹j < g.queues.length›
      cases hw : qAt g j
      all_goals have hw' := hw
      all_goals rw [eq'] at hw
      all_goals (try (simp only [*, Bool.and_true, Bool.and_false, Bool.true_and, Bool.false_and, Bool.not_true, Bool.not_false, decide_true, decide_false, reduceCtorEq] at hw; done))))
    all_goals (try (simp only [all_range_bad hz3 ‹qAt g j = false›, Bool.false_and, Bool.and_false]; done))
    all_goals (try (
      refine ⟨⟨j + 1, by omega, by rw [all_range_snoc, hp, ‹qAt g j = true›]; rfl⟩, ?_, by simp only; omega⟩
      have e := accQ_succ (g := g) (k := j) hz3
      first | (refine weak_canon [0, 1, 3, 5] [0, 3] ?_ ?_ ?_ <;> (simp (disch := omega) only [go_sem, e]; done)) | (refine weak_canon [0, 1, 3, 5] [0, 2] ?_ ?_ ?_ <;> (simp (disch := omega) only [go_sem, e]; done)) | trace_state))
    all_goals
      have hQ' : (List.range g.queues.length).all (qAt g) = true := by rw [← hp]; congr 1; congr 1; omega
      rw [hQ']
end Go.Proofs.Ytgeoipplkjgnfaa.E
