/- A part of what stands under the laws of this seat: an abstract evaluator that is proved sound, and contracts of functions by it. No condition beside those that stand in each statement. -/
import Derived.Test.YtejnpiielcbkkaaGreatZA2
set_option linter.unusedVariables false
set_option linter.unusedSimpArgs false
section
set_option maxRecDepth 100000
namespace Go.Proofs.YtejnpiielcbkkaaGreat.E
theorem copyGate_ok (g : Gate) (hg : mdGate g) : CallOk Tryz.prog 198 [.agg (gateR g)] (.s (.agg (gateT g))) [none] := by
  obtain ⟨h1, h2⟩ := hg
  refine callOk_of_hcall 40 (hcall_of_body Tryz.func198 rfl (by kernel_rfl) ?_)
  simp (disch := omega) only [go_sem, Tryz.ntmps198, Tryz.results198]
  exact wk
theorem hasI_swap (xs : List Int) (x : Int) : hasI xs x = xs.any fun y => x == y := by
  unfold hasI; congr 1; funext y; exact Bool.beq_comm
def idxI (xs : List Int) (x : Int) : Int := if hasI xs x = true then ((xs.takeWhile fun y => y != x).length : Int) else -1
theorem idxI_ge (xs : List Int) (x : Int) : decide (0 ≤ idxI xs x) = hasI xs x := by
  unfold idxI; cases hasI xs x <;> simp
theorem takeWhile_at {xs : List Int} {x : Int} : ∀ {k : Nat}, k < xs.length → hasI (xs.take k) x = false → (x == xs.getD k 0) = true → (xs.takeWhile fun y => y != x).length = k := by
  induction xs with
  | nil => intro k hk; simp at hk
  | cons y ys ih =>
    intro k hk hp hx
    cases k with
    | zero =>
      have : x = y := by simpa using hx
      simp [this]
    | succ k =>
      simp only [List.take_succ_cons, hasI, List.any_cons, Bool.or_eq_false_iff] at hp
      have hne : (y != x) = true := by simp [bne, hp.1]
      rw [List.takeWhile_cons, if_pos hne, List.length_cons]
      congr 1
      exact ih (by simpa using hk) (by simpa [hasI] using hp.2) (by simpa using hx)
theorem idxI_at {xs : List Int} {x : Int} {k : Nat} (hk : k < xs.length) (hp : hasI (xs.take k) x = false) (hx : (x == xs.getD k 0) = true) : idxI xs x = k := by
  have hh : hasI xs x = true := hasI_of hk (by rw [Bool.beq_comm]; exact hx)
  rw [idxI, if_pos hh, takeWhile_at hk hp hx]
theorem iIndex_ok (xs : List Int) (x : Int) (hs : xs.length ≤ 4398046511104) : CallOk Tryz.prog 224 [.one (.ro 1 (intsD xs)), .one (iV x)] (.s (.one (iV (idxI xs x)))) [none, none] := by
  refine callOk_of_hcall 40 (hcall_of_body Tryz.func224 rfl (by kernel_rfl) ?_)
  simp (disch := omega) only [go_sem, Tryz.ntmps224, Tryz.results224]
  refine wkc ?_
  refine i_loop (α := {k : Nat // k ≤ xs.length ∧ hasI (xs.take k) x = false}) (fun k => ⟨mkEnv 19 [(0, .one (.ro 1 (intsD xs))), (1, .one (iV x)), (7, .one (iV xs.length)), (8, .one (iV k.1))], []⟩) (fun k => xs.length - k.1) ⟨0, by omega, by simp [hasI]⟩ ?_ ?_
  · exact weak_canon [0, 1, 7, 8] [] (by simp (disch := omega) only [go_sem]) (by simp (disch := omega) only [go_sem]) (by simp (disch := omega) only [go_sem])
  rintro ⟨k, hk, hp⟩
  simp (disch := omega) only [go_sem]
  repeat' (first | (with_reducible first | refine i_seq ?_) | ((first | (with_reducible first | refine i_block ?_ | refine i_regionQ (fun Q' hQ => ?_) | (refine Imp.go hQ ?_; clear hQ)) | ((with_reducible refine i_condT ?_ ?_); (focus (simp only [go_sem, *]; done))) | ((with_reducible refine i_condF ?_ ?_); (focus (simp only [go_sem, *]; done))) | ((with_reducible first | refine resOk_g (fun h => ?_) (fun h => ?_) | refine i_cond (by simp only [go_sem, *] <;> rfl) (fun h => ?_) (fun h => ?_)) <;> (try simp only [Bool.not_eq_eq_eq_not, Bool.not_true, Bool.not_false, reduceCtorEq] at h) <;> (try have h' := of_decide_eq_true h) <;> (try (have hz : (_ : Int) = (_ : Int) := h'; clear hz h')) <;> (try have h' := of_decide_eq_false h) <;> (try have h' := inB_t h) <;> (try (exfalso; omega)))) <;> (try simp (disch := omega) only [go_sem, *])))
  all_goals (try simp (disch := omega) only [EndK, go_sem, natLe_ok, *])
  · have h1 := idxI_at (xs := xs) (x := x) (k := k) (by omega) hp ‹_›
    simp_all
  · refine ⟨⟨k + 1, by omega, ?_⟩, weak_canon [0, 1, 7, 8] [] (by simp (disch := omega) only [go_sem]) (by simp (disch := omega) only [go_sem]) (by simp (disch := omega) only [go_sem]), by simp only; omega⟩
    rw [hasI_take (by omega), hp, Bool.beq_comm]; simpa using ‹(x == xs.getD k 0) = false›
  · have hx : hasI xs x = false := by rw [← hp, List.take_of_length_le (by omega)]
    rw [idxI, hx]; rfl
theorem iHas_ok (xs : List Int) (x : Int) (hs : xs.length ≤ 4398046511104) : CallOk Tryz.prog 175 [.one (.ro 1 (intsD xs)), .one (iV x)] (.s (.one (bV (hasI xs x)))) [none, none] := by
  have hi := idxI_ge xs x
  refine callOk_of_hcall 40 (hcall_of_body Tryz.func175 rfl (by kernel_rfl) ?_)
  simp (disch := omega) only [go_sem, Tryz.ntmps175, Tryz.results175]
  have x1 := iIndex_ok xs x hs
  exact wk
/-- A gate's parts. -/
def inGate (g : Gate) : List Int := ((if (g.owner != -1) = true then [g.owner] else []) ++ g.waits) ++ g.queues.filter fun q => q != -1
def inAcc (g : Gate) (k : Nat) : List Int := ((if (g.owner != -1) = true then [g.owner] else []) ++ g.waits) ++ (g.queues.take k).filter fun q => q != -1
theorem inAcc_no {g : Gate} {k : Nat} (hk : k < g.queues.length) (h : (g.queues.getD k 0 != -1) = false) : inAcc g (k + 1) = inAcc g k := by
  unfold inAcc
  rw [List.take_succ_eq_append_getElem hk, List.filter_append]
  have : (g.queues[k] != -1) = false := by simpa [hk] using h
  simp [List.filter, this]
theorem inAcc_yes {g : Gate} {k : Nat} (hk : k < g.queues.length) (h : (g.queues.getD k 0 != -1) = true) : inAcc g (k + 1) = inAcc g k ++ [g.queues.getD k 0] := by
  unfold inAcc
  rw [List.take_succ_eq_append_getElem hk, List.filter_append]
  have h2 : (g.queues[k] != -1) = true := by simpa [hk] using h
  have h3 : g.queues.getD k 0 = g.queues[k] := by simp [hk]
  rw [h3]
  simp only [List.filter, h2, List.append_assoc]
theorem inAcc_end {g : Gate} {k : Nat} (hk : g.queues.length ≤ k) : inAcc g k = inGate g := by
  unfold inAcc inGate; rw [List.take_of_length_le hk]
theorem inAcc_len {g : Gate} (hg : mdGate g) (k : Nat) : (inAcc g k).length ≤ 2199023255553 := by
  obtain ⟨h1, h2⟩ := hg
  have := List.length_filter_le (fun q => q != -1) (g.queues.take k)
  have h3 : (g.queues.take k).length ≤ g.queues.length := by simp; omega
  simp only [inAcc, List.length_append]
  split <;> simp <;> omega
theorem iInGate_ok (g : Gate) (hg : mdGate g) : CallOk Tryz.prog 270 [.agg (gateR g)] (.s (.one (.own 1 (intsT (inGate g))))) [none] := by
  obtain ⟨h1, h2⟩ := id hg
  refine callOk_of_hcall 40 (hcall_of_body Tryz.func270 rfl (by kernel_rfl) ?_)
  simp (disch := omega) only [go_sem, Tryz.ntmps270, Tryz.results270]
  repeat' (first | (with_reducible first | refine i_seq ?_) | ((first | (with_reducible first | refine i_block ?_ | refine i_regionQ (fun Q' hQ => ?_) | (refine Imp.go hQ ?_; clear hQ)) | ((with_reducible refine i_condT ?_ ?_); (focus (simp only [go_sem, *]; done))) | ((with_reducible refine i_condF ?_ ?_); (focus (simp only [go_sem, *]; done))) | ((with_reducible first | refine resOk_g (fun h => ?_) (fun h => ?_) | refine i_cond (by simp only [go_sem, *] <;> rfl) (fun h => ?_) (fun h => ?_)) <;> (try simp only [Bool.not_eq_eq_eq_not, Bool.not_true, Bool.not_false, reduceCtorEq] at h) <;> (try have h' := of_decide_eq_true h) <;> (try (have hz : (_ : Int) = (_ : Int) := h'; clear hz h')) <;> (try have h' := of_decide_eq_false h) <;> (try have h' := inB_t h) <;> (try (exfalso; omega)))) <;> (try simp (disch := omega) only [go_sem, *])))
  all_goals (try simp (disch := omega) only [EndK, go_sem, natLe_ok, *])
  all_goals
    refine i_loop (α := {k : Nat // k ≤ g.queues.length}) (fun k => ⟨mkEnv 33 [(3, .one (.ref 0 0 (inAcc g k.1).length)), (19, .one (.ro 1 (intsD g.queues))), (20, .one (iV g.queues.length)), (21, .one (iV k.1))], [.live 1 (intsT (inAcc g k.1))]⟩) (fun k => g.queues.length - k.1) ⟨0, by omega⟩ ?_ ?_
    · have e : inAcc g 0 = (if (g.owner != -1) = true then [g.owner] else []) ++ g.waits := by simp [inAcc]
      first | (refine weak_canon [3, 19, 20, 21] [3] ?_ ?_ ?_ <;> (simp (disch := omega) only [go_sem, e, intsT_cons, Nat.add_comm 1, *]; done)) | (refine weak_canon [3, 19, 20, 21] [1] ?_ ?_ ?_ <;> (simp (disch := omega) only [go_sem, e, intsT_cons, Nat.add_comm 1, *]; done))
    rintro ⟨k, hk⟩
    have hl := inAcc_len hg k
    simp (disch := omega) only [go_sem]
    repeat' (first | (with_reducible first | refine i_seq ?_) | ((first | (with_reducible first | refine i_block ?_ | refine i_regionQ (fun Q' hQ => ?_) | (refine Imp.go hQ ?_; clear hQ)) | ((with_reducible refine i_condT ?_ ?_); (focus (simp only [go_sem, *]; done))) | ((with_reducible refine i_condF ?_ ?_); (focus (simp only [go_sem, *]; done))) | ((with_reducible first | refine resOk_g (fun h => ?_) (fun h => ?_) | refine i_cond (by simp only [go_sem, *] <;> rfl) (fun h => ?_) (fun h => ?_)) <;> (try simp only [Bool.not_eq_eq_eq_not, Bool.not_true, Bool.not_false, reduceCtorEq] at h) <;> (try have h' := of_decide_eq_true h) <;> (try (have hz : (_ : Int) = (_ : Int) := h'; clear hz h')) <;> (try have h' := of_decide_eq_false h) <;> (try have h' := inB_t h) <;> (try (exfalso; omega)))) <;> (try simp (disch := omega) only [go_sem, *])))
    all_goals (try simp (disch := omega) only [EndK, go_sem, natLe_ok, *])
    · have e := inAcc_yes (g := g) (k := k) (by omega) ‹_›
      refine ⟨⟨k + 1, by omega⟩, ?_, by simp only; omega⟩
      (refine weak_canon [3, 19, 20, 21] [2] ?_ ?_ ?_ <;> (simp (disch := omega) only [go_sem, e]; done))
    · have e := inAcc_no (g := g) (k := k) (by omega) ‹_›
      refine ⟨⟨k + 1, by omega⟩, ?_, by simp only; omega⟩
      (refine weak_canon [3, 19, 20, 21] [0] ?_ ?_ ?_ <;> (simp (disch := omega) only [go_sem, e]; done))
    · rw [inAcc_end (by omega)]
end Go.Proofs.YtejnpiielcbkkaaGreat.E
end
section
set_option maxRecDepth 100000
namespace Go.Proofs.YtejnpiielcbkkaaGreat.E
def goodAt (xs : List Int) (j : Nat) : Bool := inB (xs.getD j 0) 0 3 && !hasI (xs.take j) (xs.getD j 0)
def allGood (xs : List Int) (k : Nat) : Bool := (List.range k).all (goodAt xs)
theorem allGood_succ (xs : List Int) (k : Nat) : allGood xs (k + 1) = (allGood xs k && goodAt xs k) := by
  simp [allGood, List.range_succ, List.all_append]
theorem allGood_bad {xs : List Int} {k : Nat} (hk : k < xs.length) (h : goodAt xs k = false) : allGood xs xs.length = false := by
  simp only [allGood, List.all_eq_false]
  exact ⟨k, by simpa using hk, by simp [h]⟩
def gateOk (g : Gate) : Bool := allGood (inGate g) (inGate g).length && (decide ((g.queues.length : Int) ≤ 2) && ((g.owner != -1) || ((g.waits.length : Int) == 0)))
theorem inGate_sm (g : Gate) (hg : mdGate g) : (inGate g).length ≤ 2199023255553 := by
  rw [← inAcc_end (Nat.le_refl _)]; exact inAcc_len hg _
theorem iHas_ok' (xs : List Int) (k : Nat) (x : Int) (hs : xs.length ≤ 2199023255553) (hk : k ≤ xs.length) : CallOk Tryz.prog 175 [.one (.ro 1 (intsD (xs.take k))), .one (iV x)] (.s (.one (bV (hasI (xs.take k) x)))) [none, none] := iHas_ok _ _ (by simp; omega)
theorem iGateOk_ok (g : Gate) (hg : mdGate g) : CallOk Tryz.prog 269 [.agg (gateR g)] (.s (.one (bV (gateOk g)))) [none] := by
  obtain ⟨h1, h2⟩ := id hg
  have hl := inGate_sm g hg
  refine callOk_of_hcall 40 (hcall_of_body Tryz.func269 rfl (by kernel_rfl) ?_)
  simp (disch := omega) only [go_sem, Tryz.ntmps269, Tryz.results269]
  have x1 := iInGate_ok g hg
  refine wkc ?_
  refine i_loop (α := {k : Nat // k ≤ (inGate g).length ∧ allGood (inGate g) k = true}) (fun k => ⟨mkEnv 41 [(0, .agg (gateR g)), (1, .one (.ptr 0 0 0)), (3, .one (.ref 1 0 (inGate g).length)), (8, .one (.ref 1 0 (inGate g).length)), (9, .one (iV (inGate g).length)), (10, .one (iV k.1))], [.live 3 [gateR g], .live 1 (intsT (inGate g))]⟩) (fun k => (inGate g).length - k.1) ⟨0, by omega, by simp [allGood]⟩ ?_ ?_
  · (refine weak_canon [0, 1, 3, 8, 9, 10] [0, 1] ?_ ?_ ?_ <;> (simp (disch := omega) only [go_sem, *]; done))
  rintro ⟨k, hk, hp⟩
  simp (disch := omega) only [go_sem]
  repeat' (first | (with_reducible first | refine i_seq ?_) | ((first | (with_reducible first | refine i_block ?_ | refine i_regionQ (fun Q' hQ => ?_) | (refine Imp.go hQ ?_; clear hQ)) | ((with_reducible refine i_condT ?_ ?_); (focus (simp only [go_sem, *]; done))) | ((with_reducible refine i_condF ?_ ?_); (focus (simp only [go_sem, *]; done))) | ((with_reducible first | refine resOk_g (fun h => ?_) (fun h => ?_) | refine i_cond (by simp only [go_sem, *] <;> rfl) (fun h => ?_) (fun h => ?_)) <;> (try simp only [Bool.not_eq_eq_eq_not, Bool.not_true, Bool.not_false, reduceCtorEq] at h) <;> (try have h' := of_decide_eq_true h) <;> (try (have hz : (_ : Int) = (_ : Int) := h'; clear hz h')) <;> (try have h' := of_decide_eq_false h) <;> (try have h' := inB_t h) <;> (try (exfalso; omega))) | (((with_reducible first | refine hcall_of_callOk 40 true (within_ok ((inGate g).getD k 0) 0 3) ?_ ?_ ?_ ?_ ?_ | refine hcall_of_callOk 40 true (iHas_ok' (inGate g) k ((inGate g).getD k 0) hl hk) ?_ ?_ ?_ ?_ ?_); iterate 4 (focus (simp (disch := omega) only [go_sem, natLe_ok]; done))); simp only [go_sem]; refine aL_run ?_)) <;> (try simp (disch := omega) only [go_sem, *])))
  all_goals (try simp (disch := omega) only [EndK, go_sem, natLe_ok, *])
  · have hb : goodAt (inGate g) k = false := by simp only [goodAt, *]; rfl
    simp only [gateOk, allGood_bad (by omega) hb, Bool.false_and]
  · have hb : goodAt (inGate g) k = true := by simp only [goodAt, *]; rfl
    refine ⟨⟨k + 1, by omega, by rw [allGood_succ, hp, hb]; rfl⟩, ?_, by simp only; omega⟩
    (refine weak_canon [0, 1, 3, 8, 9, 10] [0, 1] ?_ ?_ ?_ <;> (simp (disch := omega) only [go_sem, *]; done))
  · have hb : goodAt (inGate g) k = false := by simp only [goodAt, *]; rfl
    simp only [gateOk, allGood_bad (by omega) hb, Bool.false_and]
  all_goals have hq : allGood (inGate g) (inGate g).length = true := by rw [← hp]; congr 1; omega
  all_goals (try simp only [gateOk, hq, Bool.true_and, *])
  all_goals rfl
end Go.Proofs.YtejnpiielcbkkaaGreat.E
end
section
set_option maxRecDepth 100000
namespace Go.Proofs.YtejnpiielcbkkaaGreat.E
theorem iHas_in (g : Gate) (hg : mdGate g) (x : Int) : CallOk Tryz.prog 175 [.one (.ro 1 (intsD (inGate g))), .one (iV x)] (.s (.one (bV (hasI (inGate g) x)))) [none, none] := iHas_ok _ _ (by have := inGate_sm g hg; omega)
def arrive (g : Gate) (p : Int) : Gate × Bool :=
  if gateOk g = false ∨ inB p 0 3 = false ∨ hasI (inGate g) p = true then (g, false)
  else if (g.owner == -1) = true then ({ g with owner := p }, true) else ({ g with waits := g.waits ++ [p] }, false)
theorem iArrive_ok (g : Gate) (p : Int) (hg : mdGate g) : CallOk Tryz.prog 247 [.agg (gateR g), .one (iV p)] (.tup [.agg (gateT (arrive g p).1), .one (bV (arrive g p).2)]) [none, none] := by
  obtain ⟨h1, h2⟩ := id hg
  have hz := inGate_sm g hg
  refine callOk_of_hcall 40 (hcall_of_body Tryz.func247 rfl (by kernel_rfl) ?_)
  simp (disch := omega) only [go_sem, Tryz.ntmps247, Tryz.results247]
  have x1 := @arrive.eq_1
  have x2 := copyGate_ok g hg
  have x3 := iGateOk_ok g hg
  have x4 := iInGate_ok g hg
  have x5 := iHas_in g hg p
  have x6 := within_ok p 0 3
  exact wk
def leave (g : Gate) : Gate × Int :=
  if gateOk g = false ∨ (g.owner == -1) = true then (g, -1)
  else if decide ((0 : Int) < (g.waits.length : Int)) = true then (⟨g.waits.getD 0 0, g.waits.drop 1, g.queues⟩, g.waits.getD 0 0) else ({ g with owner := -1 }, -1)
theorem iLeave_ok (g : Gate) (hg : mdGate g) : CallOk Tryz.prog 249 [.agg (gateR g)] (.tup [.agg (gateT (leave g).1), .one (iV (leave g).2)]) [none] := by
  obtain ⟨h1, h2⟩ := id hg
  refine callOk_of_hcall 40 (hcall_of_body Tryz.func249 rfl (by kernel_rfl) ?_)
  simp (disch := omega) only [go_sem, Tryz.ntmps249, Tryz.results249]
  have x1 := @leave.eq_1
  have x2 : HH 6 (.ho [0, 1, 2, 3, 4, 5, 6, 7] (opm 8 [6] [true, false, false, false, false] (.ho [9] (opm 10 [] [false] (.stop))))) := ⟨⟩
  have x3 : HH 7 (.ho [0, 1, 2] (opm 3 [2] [true, false] (.ho [4] (.stop)))) := ⟨⟩
  have x4 := copyGate_ok g hg
  have x5 := iGateOk_ok g hg
  exact wk
end Go.Proofs.YtejnpiielcbkkaaGreat.E
end
section
set_option maxRecDepth 100000
namespace Go.Proofs.YtejnpiielcbkkaaGreat.E
theorem leave_sm (g : Gate) (hg : mdGate g) : mdGate (leave g).1 := by
  obtain ⟨h1, h2⟩ := hg
  unfold leave mdGate
  split
  · exact ⟨h1, h2⟩
  · split
    · simp; omega
    · exact ⟨h1, h2⟩
theorem take_set_all {α : Type} (xs : List α) (i : Nat) (x : α) : (xs.set i x).take xs.length = xs.set i x := List.take_of_length_le (by simp)
attribute [go_sem] take_set_all
def continueAt (g : Gate) (i : Int) : Gate × Int :=
  if gateOk g = false ∨ (g.owner == -1) = true ∨ inB i 0 (g.queues.length - 1) = false then (g, -1)
  else if (g.queues.getD i.toNat 0 == -1) = true then leave g
  else (⟨g.queues.getD i.toNat 0, g.waits, g.queues.set i.toNat (-1)⟩, g.queues.getD i.toNat 0)
theorem iContinueAt_ok (g : Gate) (i : Int) (hg : mdGate g) : CallOk Tryz.prog 250 [.agg (gateR g), .one (iV i)] (.tup [.agg (gateT (continueAt g i).1), .one (iV (continueAt g i).2)]) [none, none] := by
  obtain ⟨h1, h2⟩ := id hg
  refine callOk_of_hcall 40 (hcall_of_body Tryz.func250 rfl (by kernel_rfl) ?_)
  simp (disch := omega) only [go_sem, Tryz.ntmps250, Tryz.results250]
  have x1 := @continueAt.eq_1
  have x2 : HT 6 (.fr [0, 1, 2, 3, 4, 5, 6, 7, 8] (.op [9] (.fr [10] (.op [11] (.stop))))) := ⟨⟩
  have x3 : HH 7 (.ho [0, 1, 2] (opm 3 [2] [true, false] (.ho [4] (.stop)))) := ⟨⟩
  have x4 := copyGate_ok g hg
  have x5 := iGateOk_ok g hg
  have x6 := within_ok i 0 (g.queues.length - 1)
  have x7 := iLeave_ok g hg
  exact wk
def delayIn (g : Gate) (i : Int) : Gate × Int × Bool :=
  if gateOk g = false ∨ (g.owner == -1) = true ∨ inB i 0 (g.queues.length - 1) = false ∨ (g.queues.getD i.toNat 0 != -1) = true then (g, -1, false)
  else (⟨(leave g).1.owner, (leave g).1.waits, (leave g).1.queues.set i.toNat g.owner⟩, (leave g).2, true)
theorem leave_q (g : Gate) : (leave g).1.queues = g.queues := by unfold leave; split <;> (try split) <;> rfl
theorem iDelayIn_ok (g : Gate) (i : Int) (hg : mdGate g) : CallOk Tryz.prog 251 [.agg (gateR g), .one (iV i)] (.tup [.agg (gateT (delayIn g i).1), .one (iV (delayIn g i).2.1), .one (bV (delayIn g i).2.2)]) [none, none] := by
  obtain ⟨h1, h2⟩ := id hg
  have hq := leave_q g
  refine callOk_of_hcall 40 (hcall_of_body Tryz.func251 rfl (by kernel_rfl) ?_)
  simp (disch := omega) only [go_sem, Tryz.ntmps251, Tryz.results251]
  have x1 := @delayIn.eq_1
  have x2 := @leave_q
  have x3 := copyGate_ok g hg
  have x4 := iGateOk_ok g hg
  have x5 := within_ok i 0 (g.queues.length - 1)
  have x6 := iLeave_ok g hg
  exact wk
end Go.Proofs.YtejnpiielcbkkaaGreat.E
end
section
set_option maxRecDepth 100000
namespace Go.Proofs.YtejnpiielcbkkaaGreat.E
theorem ti260 : ti Tryz.prog 260 = some ⟨.ptr, 1, 8, false, [.pointer none]⟩ := by kernel_rfl
theorem ni260 : notInt Tryz.prog 260 = true := by kernel_rfl
attribute [go_sem] ti260 ni260
attribute [go_sem] List.length_drop
def nextG (g : Gate) : Gate :=
  if decide ((0 : Int) < (g.waits.length : Int)) = true then ⟨g.waits.getD 0 0, g.waits.drop 1, g.queues⟩ else ⟨-1, g.waits, g.queues⟩
theorem specNext_ok (g : Gate) (hg : mdGate g) : CallOk Tryz.prog 267 [.one (.box (gateT g))] (.s (.one (iV (nextG g).owner))) [some (.box (gateT (nextG g)))] := by
  obtain ⟨h1, h2⟩ := id hg
  refine callOk_of_hcall 40 (hcall_of_body Tryz.func267 rfl (by kernel_rfl) ?_)
  simp (disch := omega) only [go_sem, Tryz.ntmps267, Tryz.results267]
  have x1 := @nextG.eq_1
  exact wk
end Go.Proofs.YtejnpiielcbkkaaGreat.E
end
section
set_option maxRecDepth 100000
namespace Go.Proofs.YtejnpiielcbkkaaGreat.E
theorem gateOk_owner {g : Gate} (h : gateOk g = true) : decide (g.owner < 0) = (g.owner == -1) := by
  by_cases ho : g.owner = -1
  · simp [ho]
  · have hi : inGate g = g.owner :: (g.waits ++ g.queues.filter fun q => q != -1) := by
      have : (g.owner != -1) = true := by simp [ho]
      simp [inGate, this]
    simp only [gateOk, Bool.and_eq_true] at h
    have h0 : goodAt (inGate g) 0 = true := by
      have := h.1
      simp only [allGood, List.all_eq_true] at this
      exact this 0 (by simp [hi])
    have hb : inB g.owner 0 3 = true := by
      simp only [goodAt, hi, Bool.and_eq_true] at h0
      simpa using h0.1
    have := inB_t hb
    have h1 : (g.owner == -1) = false := by simp [ho]
    rw [h1]; simp; omega
theorem leave_eq {g : Gate} (h : gateOk g = true) : leave g = if decide (g.owner < 0) = true then (g, -1) else (nextG g, (nextG g).owner) := by
  rw [gateOk_owner h]
  unfold leave nextG
  simp only [h, reduceCtorEq, false_or]
  split
  · rfl
  · split <;> rfl
theorem leave_no {g : Gate} (h : gateOk g = false) : leave g = (g, -1) := by simp [leave, h]
end Go.Proofs.YtejnpiielcbkkaaGreat.E
end
