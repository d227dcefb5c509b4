import Derived.Test.YtgeoipplkjgnfaaTs4
import Derived.Test.YtgeoipplkjgnfaaEng25
set_option linter.unusedVariables false
set_option linter.unusedSimpArgs false
set_option maxRecDepth 100000
namespace Go.Proofs.Ytgeoipplkjgnfaa.E
theorem ti4 : ti Try.prog 4 = some ⟨.bool, 1, 1, false, [.bool false]⟩ := by kernel_rfl
theorem ni4 : notInt Try.prog 4 = true := by kernel_rfl
attribute [go_sem] ti4 ni4
theorem mixedT : Try.prog.follows .mixedOrders = true := by kernel_rfl
theorem hasI_swap (xs : List Int) (x : Int) : hasI xs x = xs.any fun y => x == y := by
  unfold hasI; congr 1; funext y; exact Bool.beq_comm
def idxI (xs : List Int) (x : Int) : Int := if hasI xs x = true then ((xs.takeWhile fun y => y != x).length : Int) else -1
theorem idxI_ge (xs : List Int) (x : Int) : decide (0 ≤ idxI xs x) = hasI xs x := by
  unfold idxI; cases hasI xs x <;> simp
theorem takeWhile_at {xs : List Int} {x : Int} : ∀ {k : Nat}, k < xs.length → hasI (xs.take k) x = false → (x == xs.getD k 0) = true → (xs.takeWhile fun y => y != x).length = k := by
  induction xs with
  | nil => intro k hk; simp at hk
  | cons y ys ih =>
    intro k hk hp hx
    cases k with
    | zero =>
      have : x = y := by simpa using hx
      simp [this]
    | succ k =>
      simp only [List.take_succ_cons, hasI, List.any_cons, Bool.or_eq_false_iff] at hp
      have hne : (y != x) = true := by simp [bne, hp.1]
      rw [List.takeWhile_cons, if_pos hne, List.length_cons]
      congr 1
      exact ih (by simpa using hk) (by simpa [hasI] using hp.2) (by simpa using hx)
theorem idxI_at {xs : List Int} {x : Int} {k : Nat} (hk : k < xs.length) (hp : hasI (xs.take k) x = false) (hx : (x == xs.getD k 0) = true) : idxI xs x = k := by
  have hh : hasI xs x = true := hasI_of hk (by rw [Bool.beq_comm]; exact hx)
  rw [idxI, if_pos hh, takeWhile_at hk hp hx]
theorem iIndex_ok (xs : List Int) (x : Int) (hs : xs.length ≤ 4398046511104) : CallOk Try.prog 124 [.one (.ro 1 (intsD xs)), .one (iV x)] (.s (.one (iV (idxI xs x)))) [none, none] := by
  refine callOk_of_hcall 40 (hcall_of_body Try.func124 rfl (by kernel_rfl) ?_)
  simp (disch := omega) only [go_sem, Try.ntmps124, Try.results124]
  repeat' (first
    | (with_reducible refine i_seq ?_)
    | ((with_reducible refine i_block ?_); (try simp (disch := omega) only [go_sem, *]))
    | ((with_reducible refine i_regionQ (fun Q' hQ => ?_)); (try simp (disch := omega) only [go_sem, *]))
    | ((with_reducible refine Imp.go hQ ?_); clear hQ; (try simp (disch := omega) only [go_sem, *]))
    | ((with_reducible refine resOk_g (fun h => ?_) (fun h => ?_)) <;> (try simp only [Bool.not_eq_eq_eq_not, Bool.not_true, Bool.not_false, reduceCtorEq] at h) <;> (try have h' := of_decide_eq_true h) <;> (try (have hz : (_ : Int) = (_ : Int) := h'; clear hz h')) <;> (try have h' := of_decide_eq_false h) <;> (try have h' := inB_t h) <;> (try (exfalso; omega)) <;> (try simp (disch := omega) only [go_sem, *]))
    | (((with_reducible refine i_condT ?_ ?_); (focus (simp only [go_sem, *]; done))) <;> (try simp (disch := omega) only [go_sem, *]))
    | (((with_reducible refine i_condF ?_ ?_); (focus (simp only [go_sem, *]; done))) <;> (try simp (disch := omega) only [go_sem, *]))
    | ((with_reducible refine i_cond (by simp only [go_sem, *] <;> rfl) (fun h => ?_) (fun h => ?_)) <;> (try simp only [Bool.not_eq_eq_eq_not, Bool.not_true, Bool.not_false, reduceCtorEq] at h) <;> (try have h' := of_decide_eq_true h) <;> (try (have hz : (_ : Int) = (_ : Int) := h'; clear hz h')) <;> (try have h' := of_decide_eq_false h) <;> (try have h' := inB_t h) <;> (try (exfalso; omega)) <;> (try simp (disch := omega) only [go_sem, *])))
  all_goals (try simp (disch := omega) only [EndK, go_sem, natLe_ok, *])
  refine i_loop (α := {k : Nat // k ≤ xs.length ∧ hasI (xs.take k) x = false}) (fun k => ⟨mkEnv 19 [(0, .one (.ro 1 (intsD xs))), (1, .one (iV x)), (7, .one (iV xs.length)), (8, .one (iV k.1))], []⟩) (fun k => xs.length - k.1) ⟨0, by omega, by simp [hasI]⟩ ?_ ?_
  · exact weak_canon [0, 1, 7, 8] [] (by simp (disch := omega) only [go_sem]) (by simp (disch := omega) only [go_sem]) (by simp (disch := omega) only [go_sem])
  rintro ⟨k, hk, hp⟩
  simp (disch := omega) only [go_sem]
  repeat' (first
    | (with_reducible refine i_seq ?_)
    | ((with_reducible refine i_block ?_); (try simp (disch := omega) only [go_sem, *]))
    | ((with_reducible refine i_regionQ (fun Q' hQ => ?_)); (try simp (disch := omega) only [go_sem, *]))
    | ((with_reducible refine Imp.go hQ ?_); clear hQ; (try simp (disch := omega) only [go_sem, *]))
    | ((with_reducible refine resOk_g (fun h => ?_) (fun h => ?_)) <;> (try simp only [Bool.not_eq_eq_eq_not, Bool.not_true, Bool.not_false, reduceCtorEq] at h) <;> (try have h' := of_decide_eq_true h) <;> (try (have hz : (_ : Int) = (_ : Int) := h'; clear hz h')) <;> (try have h' := of_decide_eq_false h) <;> (try have h' := inB_t h) <;> (try (exfalso; omega)) <;> (try simp (disch := omega) only [go_sem, *]))
    | (((with_reducible refine i_condT ?_ ?_); (focus (simp only [go_sem, *]; done))) <;> (try simp (disch := omega) only [go_sem, *]))
    | (((with_reducible refine i_condF ?_ ?_); (focus (simp only [go_sem, *]; done))) <;> (try simp (disch := omega) only [go_sem, *]))
    | ((with_reducible refine i_cond (by simp only [go_sem, *] <;> rfl) (fun h => ?_) (fun h => ?_)) <;> (try simp only [Bool.not_eq_eq_eq_not, Bool.not_true, Bool.not_false, reduceCtorEq] at h) <;> (try have h' := of_decide_eq_true h) <;> (try (have hz : (_ : Int) = (_ : Int) := h'; clear hz h')) <;> (try have h' := of_decide_eq_false h) <;> (try have h' := inB_t h) <;> (try (exfalso; omega)) <;> (try simp (disch := omega) only [go_sem, *])))
  all_goals (try simp (disch := omega) only [EndK, go_sem, natLe_ok, *])
  · have h1 := idxI_at (xs := xs) (x := x) (k := k) (by omega) hp ‹_›
    simp_all
  · refine ⟨⟨k + 1, by omega, ?_⟩, weak_canon [0, 1, 7, 8] [] (by simp (disch := omega) only [go_sem]) (by simp (disch := omega) only [go_sem]) (by simp (disch := omega) only [go_sem]), by simp only; omega⟩
    rw [hasI_take (by omega), hp, Bool.beq_comm]; simpa using ‹(x == xs.getD k 0) = false›
  · have hx : hasI xs x = false := by rw [← hp, List.take_of_length_le (by omega)]
    rw [idxI, hx]; rfl
theorem iHas_ok (xs : List Int) (x : Int) (hs : xs.length ≤ 4398046511104) : CallOk Try.prog 73 [.one (.ro 1 (intsD xs)), .one (iV x)] (.s (.one (bV (hasI xs x)))) [none, none] := by
  have hi := idxI_ge xs x
  refine callOk_of_hcall 40 (hcall_of_body Try.func73 rfl (by kernel_rfl) ?_)
  simp (disch := omega) only [go_sem, Try.ntmps73, Try.results73]
  repeat' (first
    | (with_reducible refine i_seq ?_)
    | ((with_reducible refine i_block ?_); (try simp (disch := omega) only [go_sem, *]))
    | ((with_reducible refine i_regionQ (fun Q' hQ => ?_)); (try simp (disch := omega) only [go_sem, *]))
    | ((with_reducible refine Imp.go hQ ?_); clear hQ; (try simp (disch := omega) only [go_sem, *]))
    | ((with_reducible refine resOk_g (fun h => ?_) (fun h => ?_)) <;> (try simp only [Bool.not_eq_eq_eq_not, Bool.not_true, Bool.not_false, reduceCtorEq] at h) <;> (try have h' := of_decide_eq_true h) <;> (try (have hz : (_ : Int) = (_ : Int) := h'; clear hz h')) <;> (try have h' := of_decide_eq_false h) <;> (try have h' := inB_t h) <;> (try (exfalso; omega)) <;> (try simp (disch := omega) only [go_sem, *]))
    | (((with_reducible refine i_condT ?_ ?_); (focus (simp only [go_sem, *]; done))) <;> (try simp (disch := omega) only [go_sem, *]))
    | (((with_reducible refine i_condF ?_ ?_); (focus (simp only [go_sem, *]; done))) <;> (try simp (disch := omega) only [go_sem, *]))
    | ((with_reducible refine i_cond (by simp only [go_sem, *] <;> rfl) (fun h => ?_) (fun h => ?_)) <;> (try simp only [Bool.not_eq_eq_eq_not, Bool.not_true, Bool.not_false, reduceCtorEq] at h) <;> (try have h' := of_decide_eq_true h) <;> (try (have hz : (_ : Int) = (_ : Int) := h'; clear hz h')) <;> (try have h' := of_decide_eq_false h) <;> (try have h' := inB_t h) <;> (try (exfalso; omega)) <;> (try simp (disch := omega) only [go_sem, *]))
    | ((with_reducible refine hcall_of_callOk 40 true (iIndex_ok xs x hs) ?_ ?_ ?_ ?_ ?_); (focus (simp (disch := omega) only [go_sem, natLe_ok]; done)); (focus (simp (disch := omega) only [go_sem, natLe_ok]; done)); (focus (simp (disch := omega) only [go_sem, natLe_ok]; done)); (focus (simp (disch := omega) only [go_sem, natLe_ok]; done)); simp only [go_sem]; refine aL_run ?_; (try simp (disch := omega) only [go_sem, *])))
  all_goals (try simp (disch := omega) only [EndK, go_sem, natLe_ok, *])
/-- A gate's parts. -/
def inGate (g : Gate) : List Int := ((if (g.owner != -1) = true then [g.owner] else []) ++ g.waits) ++ g.queues.filter fun q => q != -1
def inAcc (g : Gate) (k : Nat) : List Int := ((if (g.owner != -1) = true then [g.owner] else []) ++ g.waits) ++ (g.queues.take k).filter fun q => q != -1
theorem inAcc_no {g : Gate} {k : Nat} (hk : k < g.queues.length) (h : (g.queues.getD k 0 != -1) = false) : inAcc g (k + 1) = inAcc g k := by
  unfold inAcc
  rw [List.take_succ_eq_append_getElem hk, List.filter_append]
  have : (g.queues[k] != -1) = false := by simpa [hk] using h
  simp [List.filter, this]
theorem inAcc_yes {g : Gate} {k : Nat} (hk : k < g.queues.length) (h : (g.queues.getD k 0 != -1) = true) : inAcc g (k + 1) = inAcc g k ++ [g.queues.getD k 0] := by
  unfold inAcc
  rw [List.take_succ_eq_append_getElem hk, List.filter_append]
  have h2 : (g.queues[k] != -1) = true := by simpa [hk] using h
  have h3 : g.queues.getD k 0 = g.queues[k] := by simp [hk]
  rw [h3]
  simp only [List.filter, h2, List.append_assoc]
theorem inAcc_end {g : Gate} {k : Nat} (hk : g.queues.length ≤ k) : inAcc g k = inGate g := by
  unfold inAcc inGate; rw [List.take_of_length_le hk]
theorem inAcc_len {g : Gate} (hg : smGate g) (k : Nat) : (inAcc g k).length ≤ 2199023255553 := by
  obtain ⟨h1, h2⟩ := hg
  have := List.length_filter_le (fun q => q != -1) (g.queues.take k)
  have h3 : (g.queues.take k).length ≤ g.queues.length := by simp; omega
  simp only [inAcc, List.length_append]
  split <;> simp <;> omega
theorem intsT_cons (x : Int) (xs : List Int) : intsT (x :: xs) = [T.v (.int .i64 x)] :: intsT xs := rfl
theorem iInGate_ok (g : Gate) (hg : smGate g) : CallOk Try.prog 72 [.agg (gateR g)] (.s (.one (.own 1 (intsT (inGate g))))) [none] := by
  obtain ⟨h1, h2⟩ := id hg
  refine callOk_of_hcall 40 (hcall_of_body Try.func72 rfl (by kernel_rfl) ?_)
  simp (disch := omega) only [go_sem, Try.ntmps72, Try.results72]
  repeat' (first
    | (with_reducible refine i_seq ?_)
    | ((with_reducible refine i_block ?_); (try simp (disch := omega) only [go_sem, *]))
    | ((with_reducible refine i_regionQ (fun Q' hQ => ?_)); (try simp (disch := omega) only [go_sem, *]))
    | ((with_reducible refine Imp.go hQ ?_); clear hQ; (try simp (disch := omega) only [go_sem, *]))
    | ((with_reducible refine resOk_g (fun h => ?_) (fun h => ?_)) <;> (try simp only [Bool.not_eq_eq_eq_not, Bool.not_true, Bool.not_false, reduceCtorEq] at h) <;> (try have h' := of_decide_eq_true h) <;> (try (have hz : (_ : Int) = (_ : Int) := h'; clear hz h')) <;> (try have h' := of_decide_eq_false h) <;> (try have h' := inB_t h) <;> (try (exfalso; omega)) <;> (try simp (disch := omega) only [go_sem, *]))
    | (((with_reducible refine i_condT ?_ ?_); (focus (simp only [go_sem, *]; done))) <;> (try simp (disch := omega) only [go_sem, *]))
    | (((with_reducible refine i_condF ?_ ?_); (focus (simp only [go_sem, *]; done))) <;> (try simp (disch := omega) only [go_sem, *]))
    | ((with_reducible refine i_cond (by simp only [go_sem, *] <;> rfl) (fun h => ?_) (fun h => ?_)) <;> (try simp only [Bool.not_eq_eq_eq_not, Bool.not_true, Bool.not_false, reduceCtorEq] at h) <;> (try have h' := of_decide_eq_true h) <;> (try (have hz : (_ : Int) = (_ : Int) := h'; clear hz h')) <;> (try have h' := of_decide_eq_false h) <;> (try have h' := inB_t h) <;> (try (exfalso; omega)) <;> (try simp (disch := omega) only [go_sem, *])))
  all_goals (try simp (disch := omega) only [EndK, go_sem, natLe_ok, *])
  all_goals
    refine i_loop (α := {k : Nat // k ≤ g.queues.length}) (fun k => ⟨mkEnv 33 [(3, .one (.ref 0 0 (inAcc g k.1).length)), (19, .one (.ro 1 (intsD g.queues))), (20, .one (iV g.queues.length)), (21, .one (iV k.1))], [.live 1 (intsT (inAcc g k.1))]⟩) (fun k => g.queues.length - k.1) ⟨0, by omega⟩ ?_ ?_
    · have e : inAcc g 0 = (if (g.owner != -1) = true then [g.owner] else []) ++ g.waits := by simp [inAcc]
      first | (refine weak_canon [3, 19, 20, 21] [3] ?_ ?_ ?_ <;> (simp (disch := omega) only [go_sem, e, intsT_cons, Nat.add_comm 1, *]; done)) | (refine weak_canon [3, 19, 20, 21] [1] ?_ ?_ ?_ <;> (simp (disch := omega) only [go_sem, e, intsT_cons, Nat.add_comm 1, *]; done))
    rintro ⟨k, hk⟩
    have hl := inAcc_len hg k
    simp (disch := omega) only [go_sem]
    repeat' (first
      | (with_reducible refine i_seq ?_)
      | ((with_reducible refine i_block ?_); (try simp (disch := omega) only [go_sem, *]))
      | ((with_reducible refine i_regionQ (fun Q' hQ => ?_)); (try simp (disch := omega) only [go_sem, *]))
      | ((with_reducible refine Imp.go hQ ?_); clear hQ; (try simp (disch := omega) only [go_sem, *]))
      | ((with_reducible refine resOk_g (fun h => ?_) (fun h => ?_)) <;> (try simp only [Bool.not_eq_eq_eq_not, Bool.not_true, Bool.not_false, reduceCtorEq] at h) <;> (try have h' := of_decide_eq_true h) <;> (try (have hz : (_ : Int) = (_ : Int) := h'; clear hz h')) <;> (try have h' := of_decide_eq_false h) <;> (try have h' := inB_t h) <;> (try (exfalso; omega)) <;> (try simp (disch := omega) only [go_sem, *]))
      | (((with_reducible refine i_condT ?_ ?_); (focus (simp only [go_sem, *]; done))) <;> (try simp (disch := omega) only [go_sem, *]))
      | (((with_reducible refine i_condF ?_ ?_); (focus (simp only [go_sem, *]; done))) <;> (try simp (disch := omega) only [go_sem, *]))
      | ((with_reducible refine i_cond (by simp only [go_sem, *] <;> rfl) (fun h => ?_) (fun h => ?_)) <;> (try simp only [Bool.not_eq_eq_eq_not, Bool.not_true, Bool.not_false, reduceCtorEq] at h) <;> (try have h' := of_decide_eq_true h) <;> (try (have hz : (_ : Int) = (_ : Int) := h'; clear hz h')) <;> (try have h' := of_decide_eq_false h) <;> (try have h' := inB_t h) <;> (try (exfalso; omega)) <;> (try simp (disch := omega) only [go_sem, *])))
    all_goals (try simp (disch := omega) only [EndK, go_sem, natLe_ok, *])
    · have e := inAcc_yes (g := g) (k := k) (by omega) ‹_›
      refine ⟨⟨k + 1, by omega⟩, ?_, by simp only; omega⟩
      (refine weak_canon [3, 19, 20, 21] [2] ?_ ?_ ?_ <;> (simp (disch := omega) only [go_sem, e]; done))
    · have e := inAcc_no (g := g) (k := k) (by omega) ‹_›
      refine ⟨⟨k + 1, by omega⟩, ?_, by simp only; omega⟩
      (refine weak_canon [3, 19, 20, 21] [0] ?_ ?_ ?_ <;> (simp (disch := omega) only [go_sem, e]; done))
    · rw [inAcc_end (by omega)]
end Go.Proofs.Ytgeoipplkjgnfaa.E
