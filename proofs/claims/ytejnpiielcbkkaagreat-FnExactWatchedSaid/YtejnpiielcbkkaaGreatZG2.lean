/- A part of what stands under the laws of this seat: an abstract evaluator that is proved sound, and contracts of functions by it. No condition beside those that stand in each statement. -/
import Derived.Test.YtejnpiielcbkkaaGreatZG1
import Derived.Test.YtejnpiielcbkkaaGreatZE2
set_option linter.unusedVariables false
set_option linter.unusedSimpArgs false
section
set_option maxRecDepth 100000
namespace Go.Proofs.YtejnpiielcbkkaaGreat.E
/-! The document's test of a gate says the same. -/
def goodL (acc : List Int) : List Int → Bool
  | [] => true
  | x :: xs => inB x 0 3 && !hasI acc x && goodL (acc ++ [x]) xs
theorem all_range_succ (n : Nat) (f : Nat → Bool) : (List.range (n + 1)).all f = (f 0 && (List.range n).all fun k => f (k + 1)) := by
  rw [List.range_succ_eq_map, List.all_cons, List.all_map]; rfl
theorem goodL_range (acc xs : List Int) : (List.range xs.length).all (fun j => inB (xs.getD j 0) 0 3 && !hasI (acc ++ xs.take j) (xs.getD j 0)) = goodL acc xs := by
  induction xs generalizing acc with
  | nil => rfl
  | cons x xs ih =>
    rw [List.length_cons, all_range_succ, goodL, ← ih (acc ++ [x])]
    simp
theorem allGood_L (xs : List Int) : allGood xs xs.length = goodL [] xs := by
  rw [← goodL_range]; rfl
theorem goodL_app (acc xs ys : List Int) : goodL acc (xs ++ ys) = (goodL acc xs && goodL (acc ++ xs) ys) := by
  induction xs generalizing acc with
  | nil => simp [goodL]
  | cons x xs ih => simp [goodL, ih, Bool.and_assoc]
theorem goodL_congr {a b : List Int} (xs : List Int) (h : ∀ x, 0 ≤ x → hasI a x = hasI b x) : goodL a xs = goodL b xs := by
  induction xs generalizing a b with
  | nil => rfl
  | cons x xs ih =>
    simp only [goodL]
    by_cases hx : 0 ≤ x
    · rw [h x hx, ih (a := a ++ [x]) (b := b ++ [x]) fun y hy => by
        have := h y hy
        simp only [hasI, List.any_append] at this ⊢
        rw [this]]
    · have : inB x 0 3 = false := by
        cases hb : inB x 0 3
        · rfl
        · have := inB_t hb; omega
      rw [this]; rfl
def sOwn (g : Gate) : List Int := if decide (0 ≤ g.owner) = true then [g.owner] else []
def wAt (g : Gate) (k : Nat) : Bool := inB (g.waits.getD k 0) 0 3 && !hasI (sOwn g ++ g.waits.take k) (g.waits.getD k 0)
def qAt (g : Gate) (k : Nat) : Bool := inB (g.queues.getD k 0) (-1) 3 && !(decide (0 ≤ g.queues.getD k 0) && hasI (sOwn g ++ g.waits ++ g.queues.take k) (g.queues.getD k 0))
def qL (acc : List Int) : List Int → Bool
  | [] => true
  | x :: xs => (inB x (-1) 3 && !(decide (0 ≤ x) && hasI acc x)) && qL (acc ++ [x]) xs
theorem qL_range (acc xs : List Int) : (List.range xs.length).all (fun j => inB (xs.getD j 0) (-1) 3 && !(decide (0 ≤ xs.getD j 0) && hasI (acc ++ xs.take j) (xs.getD j 0))) = qL acc xs := by
  induction xs generalizing acc with
  | nil => rfl
  | cons x xs ih =>
    rw [List.length_cons, all_range_succ, qL, ← ih (acc ++ [x])]
    simp
theorem qL_good (acc xs : List Int) : qL acc xs = goodL acc (xs.filter fun q => q != -1) := by
  induction xs generalizing acc with
  | nil => rfl
  | cons x xs ih =>
    rw [qL, ih]
    by_cases hx : x = -1
    · subst hx
      have e : goodL (acc ++ [-1]) (xs.filter fun q => q != -1) = goodL acc (xs.filter fun q => q != -1) := goodL_congr _ fun y hy => by
        have : ((-1 : Int) == y) = false := by simp; omega
        simp [hasI, this]
      rw [e]
      simp [inB]
    · have hne : (x != -1) = true := by simpa using hx
      rw [List.filter_cons, if_pos hne, goodL]
      congr 1
      by_cases h0 : 0 ≤ x
      · have : inB x (-1) 3 = inB x 0 3 := by
          simp only [inB]
          have h1 : (-1 : Int) ≤ x := by omega
          simp [h0, h1]
        rw [this]; simp [h0]
      · have h1 : inB x (-1) 3 = false := by
          cases hb : inB x (-1) 3
          · rfl
          · have := inB_t hb; omega
        have h2 : inB x 0 3 = false := by
          cases hb : inB x 0 3
          · rfl
          · have := inB_t hb; omega
        rw [h1, h2]; rfl
def sHead (g : Gate) : Bool := inB g.owner (-1) 3 && (!decide ((2 : Int) < (g.queues.length : Int)) && !(decide (g.owner < 0) && decide ((0 : Int) < (g.waits.length : Int))))
theorem gateOk_spec (g : Gate) : gateOk g = (sHead g && ((List.range g.waits.length).all (wAt g) && (List.range g.queues.length).all (qAt g))) := by
  have hw : (List.range g.waits.length).all (wAt g) = goodL (sOwn g) g.waits := goodL_range _ _
  have hq : (List.range g.queues.length).all (qAt g) = goodL (sOwn g ++ g.waits) (g.queues.filter fun q => q != -1) := by rw [← qL_good]; exact qL_range _ _
  have h2 : decide ((g.queues.length : Int) ≤ 2) = !decide ((2 : Int) < (g.queues.length : Int)) := by
    by_cases h : (g.queues.length : Int) ≤ 2
    · have : ¬ (2 : Int) < (g.queues.length : Int) := by omega
      simp only [h, this, decide_true, decide_false, Bool.not_false]
    · have : (2 : Int) < (g.queues.length : Int) := by omega
      simp only [h, this, decide_true, decide_false, Bool.not_true]
  rw [hw, hq, gateOk, allGood_L, inGate, List.append_assoc, goodL_app, goodL_app, h2]
  unfold sHead
  by_cases ho : g.owner = -1
  · have e1 : sOwn g = [] := by simp [sOwn, ho]
    have e2 : ((g.waits.length : Int) == 0) = !decide ((0 : Int) < (g.waits.length : Int)) := by
      cases g.waits <;> simp
      omega
    have e3 : decide (g.owner < 0) = true := by rw [ho]; rfl
    have e4 : inB g.owner (-1) 3 = true := by rw [ho]; rfl
    rw [e1, e2, e3, e4]
    simp only [ho, bne_self_eq_false, Bool.false_eq_true, if_false, goodL, List.nil_append, Bool.true_and, Bool.false_or]
    generalize goodL [] g.waits = a
    generalize goodL g.waits (g.queues.filter fun q => q != -1) = b
    cases a <;> cases b <;> simp
  · have hne : (g.owner != -1) = true := by simpa using ho
    simp only [hne, if_true, goodL, Bool.true_or, Bool.and_true, List.nil_append]
    by_cases hn : g.owner < 0
    · have h1 : inB g.owner (-1) 3 = false := by
        cases hb : inB g.owner (-1) 3
        · rfl
        · have := inB_t hb; omega
      have h2 : inB g.owner 0 3 = false := by
        cases hb : inB g.owner 0 3
        · rfl
        · have := inB_t hb; omega
      rw [h1, h2]; simp
    · have e1 : sOwn g = [g.owner] := by simp [sOwn]; omega
      have e3 : decide (g.owner < 0) = false := by simpa using hn
      have e4 : inB g.owner (-1) 3 = inB g.owner 0 3 := by
        have h0 : 0 ≤ g.owner := by omega
        have h1 : (-1 : Int) ≤ g.owner := by omega
        simp [inB, h0, h1]
      have e5 : hasI [] g.owner = false := rfl
      rw [e1, e3, e4, e5]
      simp only [Bool.false_and, Bool.not_false, Bool.and_true]
      generalize goodL [g.owner] g.waits = a
      generalize goodL ([g.owner] ++ g.waits) (g.queues.filter fun q => q != -1) = b
      generalize inB g.owner 0 3 = c
      generalize decide ((2 : Int) < (g.queues.length : Int)) = d
      cases a <;> cases b <;> cases c <;> cases d <;> rfl
end Go.Proofs.YtejnpiielcbkkaaGreat.E
end
section
set_option maxRecDepth 100000
set_option maxHeartbeats 4000000
namespace Go.Proofs.YtejnpiielcbkkaaGreat.E
theorem specCopy_ok (g : Gate) (hg : mdGate g) : CallOk Tryz.prog 185 [.agg (gateR g)] (.s (.agg (gateT g))) [none] := by
  obtain ⟨h1, h2⟩ := id hg
  refine callOk_of_hcall 40 (hcall_of_body Tryz.func185 rfl (by kernel_rfl) ?_)
  simp (disch := omega) only [go_sem, Tryz.ntmps185, Tryz.results185]
  have x1 : HH 1 (.ho [0, 1, 3, 4, 7, 8] (altm 2 [8, 4, 1] [true, true, true] (altm 5 [8, 1] [true, false, true] (opm 6 [8, 1] [true, true] (opm 9 [1] [false, true] (opm 10 [] [false] (opm 11 [] [] (.stop))))) (altm 6 [8, 4, 1] [true, true, true] (opm 5 [8, 1] [true, false, true] (opm 9 [1] [false, true] (opm 10 [] [false] (opm 11 [] [] (.stop))))) (.stop))) (altm 6 [8, 4, 1] [true, true, true] (opm 2 [8, 4, 1] [true, true, true] (opm 5 [8, 1] [true, false, true] (opm 9 [1] [false, true] (opm 10 [] [false] (opm 11 [] [] (.stop)))))) (.stop)))) := ⟨⟩
  exact wk
end Go.Proofs.YtejnpiielcbkkaaGreat.E
end
section
set_option maxRecDepth 100000
set_option maxHeartbeats 4000000
namespace Go.Proofs.YtejnpiielcbkkaaGreat.E
theorem specHas_ok (xs : List Int) (x : Int) (hs : xs.length ≤ 4398046511104) : CallOk Tryz.prog 266 [.one (.ro 1 (intsD xs)), .one (iV x)] (.s (.one (bV (hasI xs x)))) [none, none] := specIn_ok xs x (by omega)
theorem all_range_snoc (n : Nat) (f : Nat → Bool) : (List.range (n + 1)).all f = ((List.range n).all f && f n) := by
  simp [List.range_succ, List.all_append]
theorem all_range_bad {n k : Nat} {f : Nat → Bool} (hk : k < n) (h : f k = false) : (List.range n).all f = false := by
  simp only [List.all_eq_false]
  exact ⟨k, by simpa using hk, by simp [h]⟩
theorem sOwn_len (g : Gate) : (sOwn g).length ≤ 1 := by unfold sOwn; split <;> simp
theorem take_getD (xs : List Int) (k : Nat) (hk : k < xs.length) : xs.take (k + 1) = xs.take k ++ [xs.getD k 0] := by
  rw [List.take_succ_eq_append_getElem hk]; simp [hk]
def accW (g : Gate) (k : Nat) : List Int := sOwn g ++ g.waits.take k
def accQ (g : Gate) (k : Nat) : List Int := sOwn g ++ g.waits ++ g.queues.take k
theorem accW_len {g : Gate} {k : Nat} (hg : mdGate g) : (accW g k).length ≤ 2199023255553 := by
  have := sOwn_len g
  obtain ⟨h1, h2⟩ := hg
  simp only [accW, List.length_append, List.length_take]; omega
theorem accQ_len {g : Gate} {k : Nat} (hg : mdGate g) : (accQ g k).length ≤ 2199023255553 := by
  have := sOwn_len g
  obtain ⟨h1, h2⟩ := hg
  simp only [accQ, List.length_append, List.length_take]; omega
theorem accW_succ {g : Gate} {k : Nat} (hk : k < g.waits.length) : accW g (k + 1) = accW g k ++ [g.waits.getD k 0] := by
  simp only [accW, take_getD _ _ hk, List.append_assoc]
theorem accQ_succ {g : Gate} {k : Nat} (hk : k < g.queues.length) : accQ g (k + 1) = accQ g k ++ [g.queues.getD k 0] := by
  simp only [accQ, take_getD _ _ hk, List.append_assoc]
theorem accQ_zero {g : Gate} {k : Nat} (hk : g.waits.length ≤ k) : accW g k = accQ g 0 := by
  simp only [accW, accQ, List.take_of_length_le hk, List.take_zero, List.append_nil]
theorem sGateOk_ok (g : Gate) (hg : mdGate g) : CallOk Tryz.prog 265 [.agg (gateR g)] (.s (.one (bV (gateOk g)))) [none] := by
  obtain ⟨h1, h2⟩ := id hg
  rw [gateOk_spec]
  have hol := sOwn_len g
  refine callOk_of_hcall 40 (hcall_of_body Tryz.func265 rfl (by kernel_rfl) ?_)
  simp (disch := omega) only [go_sem, Tryz.ntmps265, Tryz.results265]
  repeat' (first | (with_reducible first | refine i_seq ?_) | ((first | (with_reducible first | refine i_block ?_ | refine i_regionQ (fun Q' hQ => ?_) | (refine Imp.go hQ ?_; clear hQ)) | ((with_reducible refine i_condT ?_ ?_); (focus (simp only [go_sem, *]; done))) | ((with_reducible refine i_condF ?_ ?_); (focus (simp only [go_sem, *]; done))) | ((with_reducible first | refine resOk_g (fun h => ?_) (fun h => ?_) | refine i_cond (by simp only [go_sem, *] <;> rfl) (fun h => ?_) (fun h => ?_)) <;> (try simp only [Bool.not_eq_eq_eq_not, Bool.not_true, Bool.not_false, reduceCtorEq] at h) <;> (try have h' := of_decide_eq_true h) <;> (try (have hz : (_ : Int) = (_ : Int) := h'; clear hz h')) <;> (try have h' := of_decide_eq_false h) <;> (try have h' := inB_t h) <;> (try (exfalso; omega))) | (((with_reducible first | refine hcall_of_callOk 40 true (specInB_ok g.owner (-1) 3) ?_ ?_ ?_ ?_ ?_); iterate 4 (focus (simp (disch := omega) only [go_sem, sHead, natLe_ok]; done))); simp only [go_sem, sHead]; refine aL_run ?_)) <;> (try simp (disch := omega) only [go_sem, sHead, *])))
  all_goals (try simp (disch := omega) only [EndK, go_sem, sHead, natLe_ok, *])
  all_goals (try (exfalso; omega))
  all_goals
    have e0 : accW g 0 = if decide (0 ≤ g.owner) = true then [g.owner] else [] := by simp [accW, sOwn]
    refine i_loop (α := {k : Nat // k ≤ g.waits.length ∧ (List.range k).all (wAt g) = true}) (fun k => ⟨mkEnv 106 [(0, .agg (gateR g)), (1, .one (.ptr 0 0 0)), (3, .one (.ref 1 0 (accW g k.1).length)), (4, .one (iV k.1))], [.live 3 [gateR g], .live 1 (intsT (accW g k.1))]⟩) (fun k => g.waits.length - k.1) ⟨0, by omega, rfl⟩ ?_ ?_
    · first | (refine weak_canon [0, 1, 3, 4] [0, 1] ?_ ?_ ?_ <;> (simp (disch := omega) only [go_sem, e0, intsT_cons, *]; done)) | (refine weak_canon [0, 1, 3, 4] [0, 3] ?_ ?_ ?_ <;> (simp (disch := omega) only [go_sem, e0, intsT_cons, *]; done)) | trace_state
    rintro ⟨k, hk, hp⟩
    have hl := accW_len (k := k) hg
    have ew : wAt g k = (inB (g.waits.getD k 0) 0 3 && !hasI (accW g k) (g.waits.getD k 0)) := rfl
    simp (disch := omega) only [go_sem]
    repeat' (first | (with_reducible first | refine i_seq ?_) | ((first | (with_reducible first | refine i_block ?_ | refine i_regionQ (fun Q' hQ => ?_) | (refine Imp.go hQ ?_; clear hQ)) | ((with_reducible refine i_condT ?_ ?_); (focus (simp only [go_sem, *]; done))) | ((with_reducible refine i_condF ?_ ?_); (focus (simp only [go_sem, *]; done))) | ((with_reducible first | refine resOk_g (fun h => ?_) (fun h => ?_) | refine i_cond (by simp only [go_sem, *] <;> rfl) (fun h => ?_) (fun h => ?_)) <;> (try simp only [Bool.not_eq_eq_eq_not, Bool.not_true, Bool.not_false, reduceCtorEq] at h) <;> (try have h' := of_decide_eq_true h) <;> (try (have hz : (_ : Int) = (_ : Int) := h'; clear hz h')) <;> (try have h' := of_decide_eq_false h) <;> (try have h' := inB_t h) <;> (try (exfalso; omega))) | (((with_reducible first | refine hcall_of_callOk 40 true (specInB_ok (g.waits.getD k 0) 0 3) ?_ ?_ ?_ ?_ ?_ | refine hcall_of_callOk 40 true (specHas_ok (accW g k) (g.waits.getD k 0) (by omega)) ?_ ?_ ?_ ?_ ?_); iterate 4 (focus (simp (disch := omega) only [go_sem, natLe_ok]; done))); simp only [go_sem]; refine aL_run ?_)) <;> (try simp (disch := omega) only [go_sem, *])))
    all_goals (try simp (disch := omega) only [EndK, go_sem, natLe_ok, *])
    all_goals by_cases hz : k < g.waits.length
    all_goals (try (exfalso; omega))
    all_goals (try (
      have hz2 := ‹k < g.waits.length›
      cases hw : wAt g k
      all_goals have hw' := hw
      all_goals rw [ew] at hw
      all_goals (try (simp only [*, Bool.and_true, Bool.and_false, Bool.true_and, Bool.false_and, Bool.not_true, Bool.not_false, decide_true, decide_false, reduceCtorEq] at hw; done))))
    all_goals (try (simp only [all_range_bad hz ‹wAt g k = false›, Bool.false_and, Bool.and_false]; done))
    all_goals (try (
      refine ⟨⟨k + 1, by omega, by rw [all_range_snoc, hp, ‹wAt g k = true›]; rfl⟩, ?_, by simp only; omega⟩
      have e := accW_succ (g := g) (k := k) hz
      first | (refine weak_canon [0, 1, 3, 4] [0, 3] ?_ ?_ ?_ <;> (simp (disch := omega) only [go_sem, e]; done)) | (refine weak_canon [0, 1, 3, 4] [0, 2] ?_ ?_ ?_ <;> (simp (disch := omega) only [go_sem, e]; done)) | trace_state))
    all_goals
      have hW : (List.range g.waits.length).all (wAt g) = true := by rw [← hp]; congr 1; congr 1; omega
      have e1 : accW g k = accQ g 0 := accQ_zero (by omega)
      rw [hW]
      clear ew hp
      refine i_loop (α := {j : Nat // j ≤ g.queues.length ∧ (List.range j).all (qAt g) = true}) (fun j => ⟨mkEnv 106 [(0, .agg (gateR g)), (1, .one (.ptr 0 0 0)), (3, .one (.ref 1 0 (accQ g j.1).length)), (5, .one (iV j.1))], [.live 3 [gateR g], .live 1 (intsT (accQ g j.1))]⟩) (fun j => g.queues.length - j.1) ⟨0, by omega, rfl⟩ ?_ ?_
      · first | (refine weak_canon [0, 1, 3, 5] [0, 1] ?_ ?_ ?_ <;> (simp (disch := omega) only [go_sem, e1]; done)) | trace_state
      rintro ⟨j, hj, hp⟩
      have hlq := accQ_len (k := j) hg
      have eq' : qAt g j = (inB (g.queues.getD j 0) (-1) 3 && !(decide (0 ≤ g.queues.getD j 0) && hasI (accQ g j) (g.queues.getD j 0))) := rfl
      simp (disch := omega) only [go_sem]
      repeat' (first | (with_reducible first | refine i_seq ?_) | ((first | (with_reducible first | refine i_block ?_ | refine i_regionQ (fun Q' hQ => ?_) | (refine Imp.go hQ ?_; clear hQ)) | ((with_reducible refine i_condT ?_ ?_); (focus (simp only [go_sem, *]; done))) | ((with_reducible refine i_condF ?_ ?_); (focus (simp only [go_sem, *]; done))) | ((with_reducible first | refine resOk_g (fun h => ?_) (fun h => ?_) | refine i_cond (by simp only [go_sem, *] <;> rfl) (fun h => ?_) (fun h => ?_)) <;> (try simp only [Bool.not_eq_eq_eq_not, Bool.not_true, Bool.not_false, reduceCtorEq] at h) <;> (try have h' := of_decide_eq_true h) <;> (try (have hz : (_ : Int) = (_ : Int) := h'; clear hz h')) <;> (try have h' := of_decide_eq_false h) <;> (try have h' := inB_t h) <;> (try (exfalso; omega))) | (((with_reducible first | refine hcall_of_callOk 40 true (specInB_ok (g.queues.getD j 0) (-1) 3) ?_ ?_ ?_ ?_ ?_ | refine hcall_of_callOk 40 true (specHas_ok (accQ g j) (g.queues.getD j 0) (by omega)) ?_ ?_ ?_ ?_ ?_); iterate 4 (focus (simp (disch := omega) only [go_sem, natLe_ok]; done))); simp only [go_sem]; refine aL_run ?_)) <;> (try simp (disch := omega) only [go_sem, *])))
      all_goals (try simp (disch := omega) only [EndK, go_sem, natLe_ok, *])
    all_goals by_cases hz3 : j < g.queues.length
    all_goals (try (exfalso; omega))
    all_goals (try (
      have hz2 := ‹j < g.queues.length›
      cases hw : qAt g j
      all_goals have hw' := hw
      all_goals rw [eq'] at hw
      all_goals (try (simp only [*, Bool.and_true, Bool.and_false, Bool.true_and, Bool.false_and, Bool.not_true, Bool.not_false, decide_true, decide_false, reduceCtorEq] at hw; done))))
    all_goals (try (simp only [all_range_bad hz3 ‹qAt g j = false›, Bool.false_and, Bool.and_false]; done))
    all_goals (try (
      refine ⟨⟨j + 1, by omega, by rw [all_range_snoc, hp, ‹qAt g j = true›]; rfl⟩, ?_, by simp only; omega⟩
      have e := accQ_succ (g := g) (k := j) hz3
      first | (refine weak_canon [0, 1, 3, 5] [0, 3] ?_ ?_ ?_ <;> (simp (disch := omega) only [go_sem, e]; done)) | (refine weak_canon [0, 1, 3, 5] [0, 2] ?_ ?_ ?_ <;> (simp (disch := omega) only [go_sem, e]; done)) | trace_state))
    all_goals
      have hQ' : (List.range g.queues.length).all (qAt g) = true := by rw [← hp]; congr 1; congr 1; omega
      rw [hQ']
end Go.Proofs.YtejnpiielcbkkaaGreat.E
end
