import Derived.Test.YtgeoipplkjgnfaaGt6
set_option linter.unusedVariables false
set_option linter.unusedSimpArgs false
set_option maxRecDepth 100000
namespace Go.Proofs.Ytgeoipplkjgnfaa.E
/-! The document's test of a gate says the same. -/
def goodL (acc : List Int) : List Int → Bool
  | [] => true
  | x :: xs => inB x 0 3 && !hasI acc x && goodL (acc ++ [x]) xs
theorem all_range_succ (n : Nat) (f : Nat → Bool) : (List.range (n + 1)).all f = (f 0 && (List.range n).all fun k => f (k + 1)) := by
  rw [List.range_succ_eq_map, List.all_cons, List.all_map]; rfl
theorem goodL_range (acc xs : List Int) : (List.range xs.length).all (fun j => inB (xs.getD j 0) 0 3 && !hasI (acc ++ xs.take j) (xs.getD j 0)) = goodL acc xs := by
  induction xs generalizing acc with
  | nil => rfl
  | cons x xs ih =>
    rw [List.length_cons, all_range_succ, goodL, ← ih (acc ++ [x])]
    simp
theorem allGood_L (xs : List Int) : allGood xs xs.length = goodL [] xs := by
  rw [← goodL_range]; rfl
theorem goodL_app (acc xs ys : List Int) : goodL acc (xs ++ ys) = (goodL acc xs && goodL (acc ++ xs) ys) := by
  induction xs generalizing acc with
  | nil => simp [goodL]
  | cons x xs ih => simp [goodL, ih, Bool.and_assoc]
theorem goodL_congr {a b : List Int} (xs : List Int) (h : ∀ x, 0 ≤ x → hasI a x = hasI b x) : goodL a xs = goodL b xs := by
  induction xs generalizing a b with
  | nil => rfl
  | cons x xs ih =>
    simp only [goodL]
    by_cases hx : 0 ≤ x
    · rw [h x hx, ih (a := a ++ [x]) (b := b ++ [x]) fun y hy => by
        have := h y hy
        simp only [hasI, List.any_append] at this ⊢
        rw [this]]
    · have : inB x 0 3 = false := by
        cases hb : inB x 0 3
        · rfl
        · have := inB_t hb; omega
      rw [this]; rfl
def sOwn (g : Gate) : List Int := if decide (0 ≤ g.owner) = true then [g.owner] else []
def wAt (g : Gate) (k : Nat) : Bool := inB (g.waits.getD k 0) 0 3 && !hasI (sOwn g ++ g.waits.take k) (g.waits.getD k 0)
def qAt (g : Gate) (k : Nat) : Bool := inB (g.queues.getD k 0) (-1) 3 && !(decide (0 ≤ g.queues.getD k 0) && hasI (sOwn g ++ g.waits ++ g.queues.take k) (g.queues.getD k 0))
def qL (acc : List Int) : List Int → Bool
  | [] => true
  | x :: xs => (inB x (-1) 3 && !(decide (0 ≤ x) && hasI acc x)) && qL (acc ++ [x]) xs
theorem qL_range (acc xs : List Int) : (List.range xs.length).all (fun j => inB (xs.getD j 0) (-1) 3 && !(decide (0 ≤ xs.getD j 0) && hasI (acc ++ xs.take j) (xs.getD j 0))) = qL acc xs := by
  induction xs generalizing acc with
  | nil => rfl
  | cons x xs ih =>
    rw [List.length_cons, all_range_succ, qL, ← ih (acc ++ [x])]
    simp
theorem qL_good (acc xs : List Int) : qL acc xs = goodL acc (xs.filter fun q => q != -1) := by
  induction xs generalizing acc with
  | nil => rfl
  | cons x xs ih =>
    rw [qL, ih]
    by_cases hx : x = -1
    · subst hx
      have e : goodL (acc ++ [-1]) (xs.filter fun q => q != -1) = goodL acc (xs.filter fun q => q != -1) := goodL_congr _ fun y hy => by
        have : ((-1 : Int) == y) = false := by simp; omega
        simp [hasI, this]
      rw [e]
      simp [inB]
    · have hne : (x != -1) = true := by simpa using hx
      rw [List.filter_cons, if_pos hne, goodL]
      congr 1
      by_cases h0 : 0 ≤ x
      · have : inB x (-1) 3 = inB x 0 3 := by
          simp only [inB]
          have h1 : (-1 : Int) ≤ x := by omega
          simp [h0, h1]
        rw [this]; simp [h0]
      · have h1 : inB x (-1) 3 = false := by
          cases hb : inB x (-1) 3
          · rfl
          · have := inB_t hb; omega
        have h2 : inB x 0 3 = false := by
          cases hb : inB x 0 3
          · rfl
          · have := inB_t hb; omega
        rw [h1, h2]; rfl
def sHead (g : Gate) : Bool := inB g.owner (-1) 3 && (!decide ((2 : Int) < (g.queues.length : Int)) && !(decide (g.owner < 0) && decide ((0 : Int) < (g.waits.length : Int))))
theorem gateOk_spec (g : Gate) : gateOk g = (sHead g && ((List.range g.waits.length).all (wAt g) && (List.range g.queues.length).all (qAt g))) := by
  have hw : (List.range g.waits.length).all (wAt g) = goodL (sOwn g) g.waits := goodL_range _ _
  have hq : (List.range g.queues.length).all (qAt g) = goodL (sOwn g ++ g.waits) (g.queues.filter fun q => q != -1) := by rw [← qL_good]; exact qL_range _ _
  have h2 : decide ((g.queues.length : Int) ≤ 2) = !decide ((2 : Int) < (g.queues.length : Int)) := by
    by_cases h : (g.queues.length : Int) ≤ 2
    · have : ¬ (2 : Int) < (g.queues.length : Int) := by omega
      simp only [h, this, decide_true, decide_false, Bool.not_false]
    · have : (2 : Int) < (g.queues.length : Int) := by omega
      simp only [h, this, decide_true, decide_false, Bool.not_true]
  rw [hw, hq, gateOk, allGood_L, inGate, List.append_assoc, goodL_app, goodL_app, h2]
  unfold sHead
  by_cases ho : g.owner = -1
  · have e1 : sOwn g = [] := by simp [sOwn, ho]
    have e2 : ((g.waits.length : Int) == 0) = !decide ((0 : Int) < (g.waits.length : Int)) := by
      cases g.waits <;> simp
      omega
    have e3 : decide (g.owner < 0) = true := by rw [ho]; rfl
    have e4 : inB g.owner (-1) 3 = true := by rw [ho]; rfl
    rw [e1, e2, e3, e4]
    simp only [ho, bne_self_eq_false, Bool.false_eq_true, if_false, goodL, List.nil_append, Bool.true_and, Bool.false_or]
    generalize goodL [] g.waits = a
    generalize goodL g.waits (g.queues.filter fun q => q != -1) = b
    cases a <;> cases b <;> simp
  · have hne : (g.owner != -1) = true := by simpa using ho
    simp only [hne, if_true, goodL, Bool.true_or, Bool.and_true, List.nil_append]
    by_cases hn : g.owner < 0
    · have h1 : inB g.owner (-1) 3 = false := by
        cases hb : inB g.owner (-1) 3
        · rfl
        · have := inB_t hb; omega
      have h2 : inB g.owner 0 3 = false := by
        cases hb : inB g.owner 0 3
        · rfl
        · have := inB_t hb; omega
      rw [h1, h2]; simp
    · have e1 : sOwn g = [g.owner] := by simp [sOwn]; omega
      have e3 : decide (g.owner < 0) = false := by simpa using hn
      have e4 : inB g.owner (-1) 3 = inB g.owner 0 3 := by
        have h0 : 0 ≤ g.owner := by omega
        have h1 : (-1 : Int) ≤ g.owner := by omega
        simp [inB, h0, h1]
      have e5 : hasI [] g.owner = false := rfl
      rw [e1, e3, e4, e5]
      simp only [Bool.false_and, Bool.not_false, Bool.and_true]
      generalize goodL [g.owner] g.waits = a
      generalize goodL ([g.owner] ++ g.waits) (g.queues.filter fun q => q != -1) = b
      generalize inB g.owner 0 3 = c
      generalize decide ((2 : Int) < (g.queues.length : Int)) = d
      cases a <;> cases b <;> cases c <;> cases d <;> rfl
end Go.Proofs.Ytgeoipplkjgnfaa.E
