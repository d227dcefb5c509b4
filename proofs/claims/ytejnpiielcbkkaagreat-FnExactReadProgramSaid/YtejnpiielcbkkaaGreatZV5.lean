/- A part of what stands under the laws of this seat: an abstract evaluator that is proved sound, and contracts of functions by it. No condition beside those that stand in each statement. -/
import Derived.Test.YtejnpiielcbkkaaGreatZQ3
import Derived.Test.YtejnpiielcbkkaaGreatZQ5
import Derived.Test.YtejnpiielcbkkaaGreatZQ4
import Derived.Test.YtejnpiielcbkkaaGreatZQ6
set_option linter.unusedVariables false
set_option linter.unusedSimpArgs false
section
set_option maxRecDepth 100000
set_option maxHeartbeats 4000000
namespace Go.Proofs.YtejnpiielcbkkaaGreat.E
/-! ### A right node is the same for both -/
theorem valsF_iff {p : Prgm} {k : Nat} : ∀ (n i : Nat), valsF p k n i = true ↔ ∀ j, i ≤ j → j < i + n → inB (kidK p k j) 1 5 = true
 | 0, i => ⟨fun _ j h1 h2 => by omega, fun _ => rfl⟩
 | n + 1, i => by
  unfold valsF
  have ih := valsF_iff (p := p) (k := k) n (i + 1)
  cases q : inB (kidK p k i) 1 5
  ·rw [if_pos rfl]
   exact ⟨fun h => absurd h (by simp), fun h => absurd (h i (Nat.le_refl _) (by omega)) (by rw [q]; simp)⟩
  ·rw [if_neg (by simp), ih]
   refine ⟨fun h j h1 h2 => ?_, fun h j h1 h2 => h j (by omega) (by omega)⟩
   by_cases hj : j = i
   ·rw [hj]; exact q
   ·exact h j (by omega) (by omega)
theorem blksF_iff {p : Prgm} {k : Nat} : ∀ (n i : Nat), blksF p k n i = true ↔ ∀ j, i ≤ j → j < i + n → kidK p k j = 20
 | 0, i => ⟨fun _ j h1 h2 => by omega, fun _ => rfl⟩
 | n + 1, i => by
  unfold blksF
  have ih := blksF_iff (p := p) (k := k) n (i + 1)
  cases q : (kidK p k i != 20)
  ·rw [if_neg (by simp), ih]
   have q2 : kidK p k i = 20 := by simpa using q
   refine ⟨fun h j h1 h2 => ?_, fun h j h1 h2 => h j (by omega) (by omega)⟩
   by_cases hj : j = i
   ·rw [hj]; exact q2
   ·exact h j (by omega) (by omega)
  ·rw [if_pos rfl]
   have q2 : ¬ kidK p k i = 20 := by simpa using q
   exact ⟨fun h => absurd h (by simp), fun h => absurd (h i (Nat.le_refl _) (by omega)) q2⟩
theorem stsF_iff {p : Prgm} {k : Nat} : ∀ (n i : Nat), stsF p k n i = true ↔ ∀ j, i ≤ j → j < i + n → inB (kidK p k j) 11 19 = true
 | 0, i => ⟨fun _ j h1 h2 => by omega, fun _ => rfl⟩
 | n + 1, i => by
  unfold stsF
  have ih := stsF_iff (p := p) (k := k) n (i + 1)
  cases q : inB (kidK p k i) 11 19
  ·rw [if_pos rfl]
   exact ⟨fun h => absurd h (by simp), fun h => absurd (h i (Nat.le_refl _) (by omega)) (by rw [q]; simp)⟩
  ·rw [if_neg (by simp), ih]
   refine ⟨fun h j h1 h2 => ?_, fun h j h1 h2 => h j (by omega) (by omega)⟩
   by_cases hj : j = i
   ·rw [hj]; exact q
   ·exact h j (by omega) (by omega)
theorem kidsL_iff {p : Prgm} {v : Int} : ∀ (ks : List Int) (i : Int), kidsL p v ks i = true ↔ ∀ j, j < ks.length → (i + j < v → isValB p (ks.getD j 0) = true) ∧ (v ≤ i + j → isBlkB p (ks.getD j 0) = true)
 | [], i => ⟨fun _ j h => by simp at h, fun _ => rfl⟩
 | x :: xs, i => by
  unfold kidsL
  have ih := kidsL_iff (p := p) (v := v) xs (i + 1)
  have step : (∀ j, j < (x :: xs).length → (i + j < v → isValB p ((x :: xs).getD j 0) = true) ∧ (v ≤ i + j → isBlkB p ((x :: xs).getD j 0) = true)) ↔ ((i < v → isValB p x = true) ∧ (v ≤ i → isBlkB p x = true)) ∧ (∀ j, j < xs.length → (i + 1 + j < v → isValB p (xs.getD j 0) = true) ∧ (v ≤ i + 1 + j → isBlkB p (xs.getD j 0) = true)) := by
   constructor
   ·intro h
    refine ⟨?_, fun j hj => ?_⟩
    ·have h0 := h 0 (by simp)
     exact ⟨fun a => h0.1 (by simpa using a), fun a => h0.2 (by simpa using a)⟩
    ·have h1 := h (j + 1) (by simpa using hj)
     exact ⟨fun a => h1.1 (by push_cast; omega), fun a => h1.2 (by push_cast; omega)⟩
   ·rintro ⟨h0, h1⟩ j hj
    cases j with
    | zero => exact ⟨fun a => h0.1 (by simpa using a), fun a => h0.2 (by simpa using a)⟩
    | succ j =>
     have h2 := h1 j (by simpa using hj)
     exact ⟨fun a => h2.1 (by push_cast at a; omega), fun a => h2.2 (by push_cast at a; omega)⟩
  rw [step]
  by_cases hv : i < v
  ·rw [if_pos (decide_eq_true hv)]
   cases q : isValB p x
   ·rw [if_pos rfl]
    exact ⟨fun h => absurd h (by simp), fun h => absurd (h.1.1 hv) (by simp)⟩
   ·rw [if_neg (by simp), ih]
    exact ⟨fun h => ⟨⟨fun _ => rfl, fun a => by omega⟩, h⟩, fun h => h.2⟩
  ·rw [if_neg (by simpa using hv)]
   cases q : isBlkB p x
   ·rw [if_pos rfl]
    exact ⟨fun h => absurd h (by simp), fun h => absurd (h.1.2 (by omega)) (by simp)⟩
   ·rw [if_neg (by simp), ih]
    exact ⟨fun h => ⟨⟨fun a => by omega, fun _ => rfl⟩, h⟩, fun h => h.2⟩
theorem stL_iff {p : Prgm} : ∀ (ks : List Int), stL p ks = true ↔ ∀ j, j < ks.length → isStB p (ks.getD j 0) = true
 | [] => ⟨fun _ j h => by simp at h, fun _ => rfl⟩
 | x :: xs => by
  unfold stL
  have ih := stL_iff (p := p) xs
  cases q : isStB p x
  ·rw [if_pos rfl]
   exact ⟨fun h => absurd h (by simp), fun h => absurd (h 0 (by simp)) (by simp [q])⟩
  ·rw [if_neg (by simp), ih]
   refine ⟨fun h j hj => ?_, fun h j hj => h (j + 1) (by simpa using hj)⟩
   cases j with
   | zero => exact q
   | succ j => exact h j (by simpa using hj)
/-- All kids stand ahead. -/
def InR (p : Prgm) (k : Nat) : Prop := ∀ i, i < (p.nodes.getD k nodeZ).kids.length → inB ((p.nodes.getD k nodeZ).kids.getD i 0) 0 ((k : Int) - 1) = true
theorem kidK_in {p : Prgm} {k i : Nat} (h : inB ((p.nodes.getD k nodeZ).kids.getD i 0) 0 ((k : Int) - 1) = true) : kidK p k i = (ndAt p ((p.nodes.getD k nodeZ).kids.getD i 0)).kind := by
 unfold kidK kidX ndAt
 rw [if_pos h]
theorem kidK_ne {p : Prgm} {k i : Nat} (h : kidK p k i ≠ 0) : inB ((p.nodes.getD k nodeZ).kids.getD i 0) 0 ((k : Int) - 1) = true := by
 unfold kidK kidX at h
 cases q : inB ((p.nodes.getD k nodeZ).kids.getD i 0) 0 ((k : Int) - 1)
 ·rw [q, if_neg (by simp)] at h; exact absurd rfl h
 ·rfl
theorem isNode_of {p : Prgm} {k : Nat} {x : Int} (hk : k < p.nodes.length) (h : inB x 0 ((k : Int) - 1) = true) : isNodeB p x = true := by
 obtain ⟨h0, h1⟩ := inB_t h
 simp [isNodeB, inB]
 omega
theorem val_iff {p : Prgm} {k i : Nat} (hk : k < p.nodes.length) (h : inB ((p.nodes.getD k nodeZ).kids.getD i 0) 0 ((k : Int) - 1) = true) : isValB p ((p.nodes.getD k nodeZ).kids.getD i 0) = inB (kidK p k i) 1 5 := by
 unfold isValB; rw [isNode_of hk h, if_pos rfl, kidK_in h]
theorem st_iff {p : Prgm} {k i : Nat} (hk : k < p.nodes.length) (h : inB ((p.nodes.getD k nodeZ).kids.getD i 0) 0 ((k : Int) - 1) = true) : isStB p ((p.nodes.getD k nodeZ).kids.getD i 0) = inB (kidK p k i) 11 19 := by
 unfold isStB; rw [isNode_of hk h, if_pos rfl, kidK_in h]
theorem blk_iff {p : Prgm} {k i : Nat} (hk : k < p.nodes.length) (h : inB ((p.nodes.getD k nodeZ).kids.getD i 0) 0 ((k : Int) - 1) = true) : isBlkB p ((p.nodes.getD k nodeZ).kids.getD i 0) = true ↔ kidK p k i = 20 := by
 unfold isBlkB; rw [isNode_of hk h, if_pos rfl, kidK_in h, beq_iff_eq]
theorem in_ne {c a b : Int} (h : inB c a b = true) (ha : 0 < a) : c ≠ 0 := by
 have := inB_t h; omega
/-- What is asked of the kids, by how many are values. -/
theorem fin_iff {p : Prgm} {k : Nat} (hk : k < p.nodes.length) (hR : InR p k) (v : Nat) (b : Int) : finB p (p.nodes.getD k nodeZ).kids v b = true ↔ ((p.nodes.getD k nodeZ).kids.length : Int) = v + b ∧ (∀ j, j < (p.nodes.getD k nodeZ).kids.length → (j < v → inB (kidK p k j) 1 5 = true) ∧ (v ≤ j → kidK p k j = 20)) := by
 unfold finB
 cases q : (((p.nodes.getD k nodeZ).kids.length : Int) != v + b)
 ·rw [if_neg (by simp), kidsL_iff]
  have q2 : ((p.nodes.getD k nodeZ).kids.length : Int) = v + b := by simpa using q
  refine ⟨fun h => ⟨q2, fun j hj => ?_⟩, fun h j hj => ?_⟩
  ·obtain ⟨h1, h2⟩ := h j hj
   exact ⟨fun a => by rw [← val_iff hk (hR j hj)]; exact h1 (by omega), fun a => (blk_iff hk (hR j hj)).1 (h2 (by omega))⟩
  ·obtain ⟨h1, h2⟩ := h.2 j hj
   exact ⟨fun a => by rw [val_iff hk (hR j hj)]; exact h1 (by omega), fun a => (blk_iff hk (hR j hj)).2 (h2 (by omega))⟩
 ·rw [if_pos rfl]
  have q2 : ¬ ((p.nodes.getD k nodeZ).kids.length : Int) = v + b := by simpa using q
  exact ⟨fun h => absurd h (by simp), fun h => absurd h.1 q2⟩
end Go.Proofs.YtejnpiielcbkkaaGreat.E
end
section
set_option maxRecDepth 100000
set_option maxHeartbeats 4000000
namespace Go.Proofs.YtejnpiielcbkkaaGreat.E
theorem bool_iff {a b : Bool} (h : a = true ↔ b = true) : a = b := by
 cases a <;> cases b <;> simp_all
theorem inB_of {a b c : Int} (h1 : b ≤ a) (h2 : a ≤ c) : inB a b c = true := by simp [inB]; omega
theorem nf {b : Bool} (h : ¬ b = false) : b = true := by cases b; exact absurd rfl h; rfl
/-- The reference asks for kids ahead. -/
theorem kidsS_in {p : Prgm} {k : Nat} (h : kidsS p k = true) : InR p k := by
 intro i hi
 have vals : ∀ n, valsF p k n 0 = true → i < n → inB ((p.nodes.getD k nodeZ).kids.getD i 0) 0 ((k : Int) - 1) = true := fun n hv hn =>
  kidK_ne (in_ne ((valsF_iff n 0).1 hv i (Nat.zero_le _) (by omega)) (by omega))
 have blks : blksF p k ((p.nodes.getD k nodeZ).kids.length - 1) 1 = true → 1 ≤ i → inB ((p.nodes.getD k nodeZ).kids.getD i 0) 0 ((k : Int) - 1) = true := fun hb h1 =>
  kidK_ne (by rw [(blksF_iff _ 1).1 hb i h1 (by omega)]; omega)
 unfold kidsS at h
 split at h
 ·have := beq_iff_eq.1 h; omega
 ·split at h
  ·split at h
   ·cases h
   ·rename_i hq; have := beq_iff_eq.1 (nf hq); exact vals 2 h (by omega)
  ·split at h
   ·split at h
    ·cases h
    ·rename_i hq; have := beq_iff_eq.1 (nf hq); exact vals 1 h (by omega)
   ·split at h
    ·split at h
     ·cases h
     ·split at h
      ·cases h
      ·rename_i hv
       by_cases h1 : i < 1
       ·exact vals 1 (nf hv) h1
       ·exact blks h (by omega)
    ·split at h
     ·split at h
      ·cases h
      ·split at h
       ·cases h
       ·rename_i hv
        by_cases h1 : i < 1
        ·exact vals 1 (nf hv) h1
        ·exact blks h (by omega)
     ·split at h
      ·cases h
      ·rename_i hv
       exact kidK_ne (in_ne ((stsF_iff _ 0).1 (nf hv) i (Nat.zero_le _) (by omega)) (by omega))
theorem kids_same {p : Prgm} {k : Nat} (hk : k < p.nodes.length) (hR : InR p k) (hkd : kindB (p.nodes.getD k nodeZ).kind = true) : kidsB p (p.nodes.getD k nodeZ) = kidsS p k := by
 obtain ⟨kd, hkk⟩ : ∃ x, (p.nodes.getD k nodeZ).kind = x := ⟨_, rfl⟩
 have hfin := fin_iff hk hR
 have hB : kidsB p (p.nodes.getD k nodeZ) = if kd = 12 ∧ inB (((p.nodes.getD k nodeZ).kids.length : Int) - 1) 1 2 = false then false else if kd = 20 then (if stL p (p.nodes.getD k nodeZ).kids = false then false else inB (p.nodes.getD k nodeZ).kids.length 1 12) else finB p (p.nodes.getD k nodeZ).kids (valsK kd) (blksK kd (p.nodes.getD k nodeZ).kids.length) := by unfold kidsB; rw [hkk]
 have hSs : kidsS p k = if kd = 1 ∨ kd = 2 ∨ kd = 16 ∨ kd = 17 ∨ kd = 18 ∨ kd = 19 then (((p.nodes.getD k nodeZ).kids.length : Int) == 0)
  else if kd = 3 then (if (((p.nodes.getD k nodeZ).kids.length : Int) == 2) = false then false else valsF p k 2 0)
  else if kd = 4 ∨ kd = 5 ∨ kd = 11 ∨ kd = 14 ∨ kd = 15 then (if (((p.nodes.getD k nodeZ).kids.length : Int) == 1) = false then false else valsF p k 1 0)
  else if kd = 12 then (if (((p.nodes.getD k nodeZ).kids.length : Int) == 2) = false ∧ (((p.nodes.getD k nodeZ).kids.length : Int) == 3) = false then false else if valsF p k 1 0 = false then false else blksF p k ((p.nodes.getD k nodeZ).kids.length - 1) 1)
  else if kd = 13 then (if (((p.nodes.getD k nodeZ).kids.length : Int) == 2) = false then false else if valsF p k 1 0 = false then false else blksF p k ((p.nodes.getD k nodeZ).kids.length - 1) 1)
  else if stsF p k (p.nodes.getD k nodeZ).kids.length 0 = false then false else inB (p.nodes.getD k nodeZ).kids.length 1 12 := by unfold kidsS; rw [hkk]
 rw [hkk] at hkd
 rw [hB]
 clear hB
 have hkd2 : (1 ≤ kd ∧ kd ≤ 5) ∨ (11 ≤ kd ∧ kd ≤ 20) := by
  unfold kindB at hkd
  split at hkd
  ·rename_i h1; exact .inl (inB_t h1)
  ·exact .inr (inB_t hkd)
 by_cases h12 : kd = 12
 ·subst h12
  rw [if_neg (by omega), if_neg (by omega), if_neg (by omega), if_pos rfl] at hSs
  rw [hSs]
  have e1 : valsK 12 = ((1 : Nat) : Int) := rfl
  have e2 : ∀ n : Nat, blksK 12 n = (n : Int) - 1 := fun n => rfl
  cases q : inB (((p.nodes.getD k nodeZ).kids.length : Int) - 1) 1 2
  ·rw [if_pos ⟨rfl, rfl⟩]
   have hn : ¬ ((p.nodes.getD k nodeZ).kids.length = 2 ∨ (p.nodes.getD k nodeZ).kids.length = 3) := by
    intro hh
    have : inB (((p.nodes.getD k nodeZ).kids.length : Int) - 1) 1 2 = true := inB_of (by omega) (by omega)
    rw [this] at q; cases q
   rw [if_pos ⟨beq_eq_false_iff_ne.2 (by omega), beq_eq_false_iff_ne.2 (by omega)⟩]
  ·rw [if_neg (by simp), if_neg (by omega)]
   obtain ⟨q0, q1⟩ := inB_t q
   rw [if_neg (by
    intro hh
    have a1 := beq_eq_false_iff_ne.1 hh.1
    have a2 := beq_eq_false_iff_ne.1 hh.2
    omega)]
   refine bool_iff ?_
   rw [e1, e2, hfin]
   have hV := valsF_iff (p := p) (k := k) 1 0
   have hB := blksF_iff (p := p) (k := k) ((p.nodes.getD k nodeZ).kids.length - 1) 1
   cases v : valsF p k 1 0
   ·rw [if_pos rfl]
    refine ⟨fun h => ?_, fun h => absurd h (by simp)⟩
    exact absurd (hV.2 fun j h1 h2 => (h.2 j (by omega)).1 (by omega)) (by rw [v]; simp)
   ·rw [if_neg (by simp), hB]
    refine ⟨fun h j h1 h2 => (h.2 j (by omega)).2 h1, fun h => ⟨by omega, fun j hj => ⟨fun h1 => hV.1 v j (Nat.zero_le _) (by omega), fun h1 => h j h1 (by omega)⟩⟩⟩
 ·rw [if_neg (by intro hh; exact h12 hh.1)]
  by_cases h20 : kd = 20
  ·subst h20
   rw [if_neg (by omega), if_neg (by omega), if_neg (by omega), if_neg (by omega), if_neg (by omega)] at hSs
   rw [if_pos rfl, hSs]
   have hs : stL p (p.nodes.getD k nodeZ).kids = stsF p k (p.nodes.getD k nodeZ).kids.length 0 := by
    refine bool_iff ?_
    rw [stL_iff, stsF_iff]
    exact ⟨fun h j _ hj => by rw [← st_iff hk (hR j (by omega))]; exact h j (by omega), fun h j hj => by rw [st_iff hk (hR j hj)]; exact h j (Nat.zero_le _) (by omega)⟩
   rw [hs]
  ·rw [if_neg h20]
   by_cases h13 : kd = 13
   ·subst h13
    rw [if_neg (by omega), if_neg (by omega), if_neg (by omega), if_neg (by omega), if_pos rfl] at hSs
    rw [hSs]
    have e1 : valsK 13 = ((1 : Nat) : Int) := rfl
    have e2 : ∀ n : Nat, blksK 13 n = 1 := fun n => rfl
    refine bool_iff ?_
    rw [e1, e2, hfin]
    have hV := valsF_iff (p := p) (k := k) 1 0
    have hB := blksF_iff (p := p) (k := k) ((p.nodes.getD k nodeZ).kids.length - 1) 1
    cases q : (((p.nodes.getD k nodeZ).kids.length : Int) == 2)
    ·rw [if_pos rfl]
     have := beq_eq_false_iff_ne.1 q
     exact ⟨fun h => by have := h.1; omega, fun h => absurd h (by simp)⟩
    ·rw [if_neg (by simp)]
     have := beq_iff_eq.1 q
     cases v : valsF p k 1 0
     ·rw [if_pos rfl]
      refine ⟨fun h => ?_, fun h => absurd h (by simp)⟩
      exact absurd (hV.2 fun j h1 h2 => (h.2 j (by omega)).1 (by omega)) (by rw [v]; simp)
     ·rw [if_neg (by simp), hB]
      refine ⟨fun h j h1 h2 => (h.2 j (by omega)).2 h1, fun h => ⟨by omega, fun j hj => ⟨fun h1 => hV.1 v j (Nat.zero_le _) (by omega), fun h1 => h j h1 (by omega)⟩⟩⟩
   ·have e2 : ∀ n : Nat, blksK kd n = 0 := fun n => by unfold blksK; rw [if_neg h12, if_neg h13]
    have all : ∀ n : Nat, valsK kd = ((n : Nat) : Int) → (finB p (p.nodes.getD k nodeZ).kids (valsK kd) (blksK kd (p.nodes.getD k nodeZ).kids.length) = true ↔ ((p.nodes.getD k nodeZ).kids.length : Int) = n ∧ valsF p k n 0 = true) := fun n hn => by
     rw [hn, e2, hfin, valsF_iff]
     refine ⟨fun h => ⟨by have := h.1; omega, fun j _ h2 => (h.2 j (by have := h.1; omega)).1 (by omega)⟩, fun h => ⟨by omega, fun j hj => ⟨fun h1 => h.2 j (Nat.zero_le _) (by omega), fun h1 => by omega⟩⟩⟩
    refine bool_iff ?_
    by_cases hl : kd = 1 ∨ kd = 2 ∨ kd = 16 ∨ kd = 17 ∨ kd = 18 ∨ kd = 19
    ·rw [if_pos hl] at hSs
     rw [hSs, all 0 (by unfold valsK; rw [if_neg (by omega), if_neg (by omega)]; rfl), beq_iff_eq]
     exact ⟨fun h => by simpa using h.1, fun h => ⟨by simpa using h, rfl⟩⟩
    ·rw [if_neg hl] at hSs
     by_cases h3 : kd = 3
     ·rw [if_pos h3] at hSs
      rw [hSs, all 2 (by unfold valsK; rw [if_pos h3]; rfl)]
      cases q : (((p.nodes.getD k nodeZ).kids.length : Int) == 2)
      ·rw [if_pos rfl]
       have := beq_eq_false_iff_ne.1 q
       exact ⟨fun h => absurd h.1 (by simpa using this), fun h => absurd h (by simp)⟩
      ·rw [if_neg (by simp)]
       have := beq_iff_eq.1 q
       exact ⟨fun h => h.2, fun h => ⟨by simpa using this, h⟩⟩
     ·rw [if_neg h3, if_pos (by omega)] at hSs
      rw [hSs, all 1 (by unfold valsK; rw [if_neg h3, if_pos (by omega)]; rfl)]
      cases q : (((p.nodes.getD k nodeZ).kids.length : Int) == 1)
      ·rw [if_pos rfl]
       have := beq_eq_false_iff_ne.1 q
       exact ⟨fun h => absurd h.1 (by simpa using this), fun h => absurd h (by simp)⟩
      ·rw [if_neg (by simp)]
       have := beq_iff_eq.1 q
       exact ⟨fun h => h.2, fun h => ⟨by simpa using this, h⟩⟩
theorem distF_iff {kids : List Int} {k : Int} : ∀ (n i : Nat), distF kids k n i = true ↔ (∀ j, i ≤ j → j < i + n → inB (kids.getD j 0) 0 (k - 1) = true) ∧ dupF kids n i = false
 | 0, i => ⟨fun _ => ⟨fun j h1 h2 => by omega, rfl⟩, fun _ => rfl⟩
 | n + 1, i => by
  unfold distF dupF
  have ih := distF_iff (kids := kids) (k := k) n (i + 1)
  cases q : inB (kids.getD i 0) 0 (k - 1)
  ·rw [if_pos rfl]
   exact ⟨fun h => absurd h (by simp), fun h => absurd (h.1 i (Nat.le_refl _) (by omega)) (by rw [q]; simp)⟩
  ·rw [if_neg (by simp)]
   cases q2 : hasI (kids.take i) (kids.getD i 0)
   ·rw [if_neg (by simp), if_neg (by simp), ih]
    refine ⟨fun h => ⟨fun j h1 h2 => ?_, h.2⟩, fun h => ⟨fun j h1 h2 => h.1 j (by omega) (by omega), h.2⟩⟩
    by_cases hj : j = i
    ·rw [hj]; exact q
    ·exact h.1 j (by omega) (by omega)
   ·rw [if_pos rfl, if_pos rfl]
    exact ⟨fun h => absurd h (by simp), fun h => absurd h.2 (by simp)⟩
theorem kind_same (c : Int) : kindS c = kindB c := by
 refine bool_iff ?_
 unfold kindS kindB
 cases q1 : inB c 1 5
 ·simp only [Bool.false_eq_true, if_false]
  cases q2 : inB c 11 19
  ·simp only [Bool.false_eq_true, if_false]
   rw [beq_iff_eq]
   refine ⟨fun h => by simp [inB]; omega, fun h => ?_⟩
   obtain ⟨h1, h2⟩ := inB_t h
   by_cases h3 : c = 20
   ·exact h3
   ·have : inB c 11 19 = true := by simp [inB]; omega
    rw [this] at q2; cases q2
  ·simp only [if_true, true_iff]
   obtain ⟨h1, h2⟩ := inB_t q2
   simp [inB]; omega
 ·simp only [if_true]
theorem tail_same (n : Node) : tailB n = namesB n := by
 unfold tailB namesB moreB
 cases numB n <;> cases toB n <;> cases oneB (namedK n.kind) n.name <;> cases oneB (n.kind == 14) n.more <;> rfl
/-- A node is right for the reference when it is for the program. -/
theorem node_same {p : Prgm} {k : Nat} (hk : k < p.nodes.length) : nodeS p k = nodeB p k := by
 have hin : isNodeB p (k : Int) = true := by simp [isNodeB, inB]; omega
 have hB : nodeB p (k : Int) = if kindB (p.nodes.getD k nodeZ).kind = false then false else if distF (p.nodes.getD k nodeZ).kids (k : Int) (p.nodes.getD k nodeZ).kids.length 0 = false then false else if kidsB p (p.nodes.getD k nodeZ) = false then false else namesB (p.nodes.getD k nodeZ) := by
  unfold nodeB
  rw [hin, if_neg (by simp)]
  rfl
 have hSe : nodeS p k = if dupF (p.nodes.getD k nodeZ).kids (p.nodes.getD k nodeZ).kids.length 0 = true then false else if kindB (p.nodes.getD k nodeZ).kind = false then false else if kidsS p k = false then false else namesB (p.nodes.getD k nodeZ) := by
  unfold nodeS
  rw [kind_same, tail_same]
 have hd := distF_iff (kids := (p.nodes.getD k nodeZ).kids) (k := (k : Int)) (p.nodes.getD k nodeZ).kids.length 0
 have hks := fun hR hkd => kids_same (p := p) (k := k) hk hR hkd
 have hsi := kidsS_in (p := p) (k := k)
 rw [hB, hSe]
 clear hB hSe hin
 cases hkd : kindB (p.nodes.getD k nodeZ).kind
 ·simp only [if_true]
  split <;> rfl
 ·simp only [Bool.true_eq_false, if_false]
  cases q : distF (p.nodes.getD k nodeZ).kids (k : Int) (p.nodes.getD k nodeZ).kids.length 0
  ·simp only [if_true]
   cases q2 : dupF (p.nodes.getD k nodeZ).kids (p.nodes.getD k nodeZ).kids.length 0
   ·simp only [Bool.false_eq_true, if_false]
    cases q3 : kidsS p k
    ·simp only [if_true]
    ·have hR := hsi q3
     exact absurd (hd.2 ⟨fun j _ hj => hR j (by omega), q2⟩) (by rw [q]; simp)
   ·simp only [if_true]
  ·simp only [Bool.true_eq_false, if_false]
   obtain ⟨h1, h2⟩ := hd.1 q
   rw [h2, hks (fun i hi => h1 i (Nat.zero_le _) (by omega)) hkd]
   simp only [Bool.false_eq_true, if_false]
theorem kidsIn_all (p : Prgm) : KidsIn p := by
 intro k hk hn i hi
 rw [node_same hk] at hn
 have := inB_t (nodeB_kid hn i hi)
 have e : ndAt p (k : Int) = p.nodes.getD k nodeZ := rfl
 rw [e] at this
 omega
end Go.Proofs.YtejnpiielcbkkaaGreat.E
end
section
set_option maxRecDepth 100000
set_option maxHeartbeats 4000000
namespace Go.Proofs.YtejnpiielcbkkaaGreat.E
/-! ### A right program is the same for both -/
theorem fold_bump (ys : List Int) : ∀ (o : List Int) (x : Int), ys.foldl bump (bump o x) = bump (ys.foldl bump o) x := by
 have comm : ∀ (o : List Int) (x y : Int), bump (bump o x) y = bump (bump o y) x := by
  intro o x y
  refine List.ext_getElem? fun j => ?_
  unfold bump
  simp only [List.getD_eq_getElem?_getD, List.getElem?_set, List.length_set]
  by_cases hx : x.toNat = j
  ·by_cases hy : y.toNat = j
   ·have : x.toNat = y.toNat := by omega
    simp only [hx, hy, this]
   ·have : ¬ y.toNat = x.toNat := by omega
    simp only [hx, hy, this, if_true, if_false]
    try simp [hx, hy]
  ·by_cases hy : y.toNat = j
   ·have : ¬ x.toNat = y.toNat := by omega
    simp only [hx, hy, this, if_true, if_false]
    try simp [hx, hy]
   ·simp only [hx, hy, if_false]
 induction ys with
 | nil => intro o x; rfl
 | cons y ys ih => intro o x; rw [List.foldl_cons, comm, ih, List.foldl_cons]
theorem fold_swap (xs : List Int) : ∀ (ys o : List Int), ys.foldl bump (xs.foldl bump o) = xs.foldl bump (ys.foldl bump o) := by
 induction xs with
 | nil => intro ys o; rfl
 | cons x xs ih => intro ys o; rw [List.foldl_cons, ih, fold_bump, List.foldl_cons]
theorem owners_same (p : Prgm) : owners p = usedS p := fold_swap _ _ _
theorem any_all (xs : List Int) : (!(xs.any fun x => x != 1)) = xs.all fun x => x == 1 := by
 induction xs with
 | nil => rfl
 | cons x xs ih =>
  rw [List.any_cons, List.all_cons, ← ih, Bool.not_or]
  unfold bne
  rw [Bool.not_not]
/-! How many there are, and names. -/
theorem namesC_iff {xs : List ByteArray} {m : Int} : namesC xs m = true ↔ (∀ s ∈ xs, nameOk s = true) ∧ (xs.length : Int) ≤ m := by
 unfold namesC
 cases q : xs.all nameOk
 ·rw [if_pos rfl]
  exact ⟨fun h => absurd h (by simp), fun h => absurd (List.all_eq_true.2 h.1) (by rw [q]; simp)⟩
 ·rw [if_neg (by simp), decide_eq_true_eq]
  exact ⟨fun h => ⟨List.all_eq_true.1 q, h⟩, fun h => h.2⟩
theorem monC_iff {m : Monitor} : monC m = true ↔ (m.vars.length : Int) ≤ 3 ∧ (m.queues.length : Int) ≤ 2 ∧ inB m.entries.length 1 3 = true := by
 unfold monC
 by_cases h1 : (3 : Int) < (m.vars.length : Int)
 ·rw [if_pos (decide_eq_true h1)]; exact ⟨fun h => absurd h (by simp), fun h => by omega⟩
 ·rw [if_neg (by simpa using h1)]
  by_cases h2 : (2 : Int) < (m.queues.length : Int)
  ·rw [if_pos (decide_eq_true h2)]; exact ⟨fun h => absurd h (by simp), fun h => by omega⟩
  ·rw [if_neg (by simpa using h2)]
   exact ⟨fun h => ⟨by omega, by omega, h⟩, fun h => h.2.2⟩
theorem procC_iff {x : Process} : procC x = true ↔ (x.uses.length : Int) ≤ 3 ∧ (x.vars.length : Int) ≤ 3 := by
 unfold procC
 by_cases h1 : (3 : Int) < (x.uses.length : Int)
 ·rw [if_pos (decide_eq_true h1)]; exact ⟨fun h => absurd h (by simp), fun h => by omega⟩
 ·rw [if_neg (by simpa using h1)]
  simp only [Bool.not_eq_true', decide_eq_false_iff_not]
  exact ⟨fun h => ⟨by omega, by omega⟩, fun h => by omega⟩
theorem entC_iff {e : Entry} : entC e = true ↔ nameOk e.name = true ∧ nameOk e.param = true := by
 unfold entC
 cases nameOk e.name <;> simp
theorem monSB_iff {m : Monitor} : monSB m = true ↔ monC m = true ∧ ∀ s ∈ monNames m, nameOk s = true := by
 have hn : (∀ s ∈ monNames m, nameOk s = true) ↔ nameOk m.name = true ∧ (∀ s ∈ m.vars, nameOk s = true) ∧ (∀ s ∈ m.queues, nameOk s = true) ∧ (∀ e ∈ m.entries, nameOk e.name = true ∧ nameOk e.param = true) := by
  unfold monNames
  constructor
  ·intro h
   refine ⟨h _ (by simp), fun s hs => h s (by simp [hs]), fun s hs => h s (by simp [hs]), fun e he => ⟨h _ ?_, h _ ?_⟩⟩
   ·exact List.mem_append_right _ (List.mem_flatMap.2 ⟨e, he, by simp [entNames]⟩)
   ·exact List.mem_append_right _ (List.mem_flatMap.2 ⟨e, he, by simp [entNames]⟩)
  ·rintro ⟨h1, h2, h3, h4⟩ s hs
   rcases List.mem_append.1 hs with hs | hs
   ·rcases List.mem_append.1 hs with hs | hs
    ·rcases List.mem_cons.1 hs with hs | hs
     ·rw [hs]; exact h1
     ·exact h2 s hs
    ·exact h3 s hs
   ·obtain ⟨e, he, hse⟩ := List.mem_flatMap.1 hs
    unfold entNames at hse
    simp only [List.mem_cons, List.not_mem_nil, or_false] at hse
    rcases hse with hse | hse <;> rw [hse]
    ·exact (h4 e he).1
    ·exact (h4 e he).2
 rw [hn, monC_iff]
 have h1 : monS1 m = true ↔ nameOk m.name = true ∧ namesC m.vars 3 = true ∧ namesC m.queues 2 = true ∧ inB m.entries.length 1 3 = true := by
  unfold monS1
  cases nameOk m.name <;> cases namesC m.vars 3 <;> cases namesC m.queues 2 <;> simp
 have h2 : monSB m = true ↔ monS1 m = true ∧ m.entries.all entC = true := by
  unfold monSB
  cases monS1 m <;> simp
 rw [h2, h1, namesC_iff, namesC_iff, List.all_eq_true]
 constructor
 ·rintro ⟨⟨a, ⟨b1, b2⟩, ⟨c1, c2⟩, d⟩, e⟩
  exact ⟨⟨b2, c2, d⟩, a, b1, c1, fun x hx => entC_iff.1 (e x hx)⟩
 ·rintro ⟨⟨b2, c2, d⟩, a, b1, c1, e⟩
  exact ⟨⟨a, ⟨b1, b2⟩, ⟨c1, c2⟩, d⟩, fun x hx => entC_iff.2 (e x hx)⟩
theorem procSB_iff {x : Process} : procSB x = true ↔ procC x = true ∧ ∀ s ∈ procNames x, nameOk s = true := by
 have hn : (∀ s ∈ procNames x, nameOk s = true) ↔ nameOk x.name = true ∧ (∀ s ∈ x.uses, nameOk s = true) ∧ (∀ s ∈ x.vars, nameOk s = true) := by
  unfold procNames
  constructor
  ·intro h
   exact ⟨h _ (by simp), fun s hs => h s (by simp [hs]), fun s hs => h s (by simp [hs])⟩
  ·rintro ⟨h1, h2, h3⟩ s hs
   rcases List.mem_append.1 hs with hs | hs
   ·rcases List.mem_cons.1 hs with hs | hs
    ·rw [hs]; exact h1
    ·exact h2 s hs
   ·exact h3 s hs
 rw [hn, procC_iff]
 have h1 : procSB x = true ↔ nameOk x.name = true ∧ namesC x.uses 3 = true ∧ namesC x.vars 3 = true := by
  unfold procSB
  cases nameOk x.name <;> cases namesC x.uses 3 <;> simp
 rw [h1, namesC_iff, namesC_iff]
 constructor
 ·rintro ⟨a, ⟨b1, b2⟩, ⟨c1, c2⟩⟩
  exact ⟨⟨b2, c2⟩, a, b1, c1⟩
 ·rintro ⟨⟨b2, c2⟩, a, b1, c1⟩
  exact ⟨a, ⟨b1, b2⟩, ⟨c1, c2⟩⟩
def countsP (p : Prgm) : Prop := (p.nodes.length : Int) ≤ 160 ∧ (p.monitors.length : Int) ≤ 3 ∧ inB p.processes.length 1 4 = true ∧ (∀ m ∈ p.monitors, monC m = true ∧ ∀ s ∈ monNames m, nameOk s = true) ∧ (∀ x ∈ p.processes, procC x = true ∧ ∀ s ∈ procNames x, nameOk s = true)
theorem ends_iff {a b : Prop} [Decidable a] [Decidable b] {c : Bool} : (if decide a = false then false else if decide b = false then false else c) = true ↔ a ∧ b ∧ c = true := by
 by_cases ha : a <;> by_cases hb : b <;> simp [ha, hb]
theorem counts_i {p : Prgm} : (countsB p = true ∧ (namesL p).any (fun s => !nameOk s) = false) ↔ countsP p := by
 have h1 : countsB p = true ↔ p.monitors.all monC = true ∧ p.processes.all procC = true ∧ endC p = true := by
  unfold countsB
  cases p.monitors.all monC <;> cases p.processes.all procC <;> simp
 have h2 : endC p = true ↔ (p.nodes.length : Int) ≤ 160 ∧ (p.monitors.length : Int) ≤ 3 ∧ inB p.processes.length 1 4 = true := ends_iff
 have h3 : (namesL p).any (fun s => !nameOk s) = false ↔ ∀ s ∈ namesL p, nameOk s = true := by
  rw [List.any_eq_false]
  exact ⟨fun h s hs => by have := h s hs; simpa using this, fun h s hs => by rw [h s hs]; simp⟩
 have h4 : (∀ s ∈ namesL p, nameOk s = true) ↔ (∀ m ∈ p.monitors, ∀ s ∈ monNames m, nameOk s = true) ∧ (∀ x ∈ p.processes, ∀ s ∈ procNames x, nameOk s = true) := by
  unfold namesL
  constructor
  ·intro h
   exact ⟨fun m hm s hs => h s (List.mem_append_left _ (List.mem_flatMap.2 ⟨m, hm, hs⟩)), fun x hx s hs => h s (List.mem_append_right _ (List.mem_flatMap.2 ⟨x, hx, hs⟩))⟩
  ·rintro ⟨ha, hb⟩ s hs
   rcases List.mem_append.1 hs with hs | hs
   ·obtain ⟨m, hm, h⟩ := List.mem_flatMap.1 hs; exact ha m hm s h
   ·obtain ⟨x, hx, h⟩ := List.mem_flatMap.1 hs; exact hb x hx s h
 rw [h1, h2, h3, h4, List.all_eq_true, List.all_eq_true]
 constructor
 ·rintro ⟨⟨a, b, c, d, e⟩, f, g⟩
  exact ⟨c, d, e, fun m hm => ⟨a m hm, f m hm⟩, fun x hx => ⟨b x hx, g x hx⟩⟩
 ·rintro ⟨c, d, e, f, g⟩
  exact ⟨⟨fun m hm => (f m hm).1, fun x hx => (g x hx).1, c, d, e⟩, fun m hm => (f m hm).2, fun x hx => (g x hx).2⟩
theorem counts_s {p : Prgm} : (decide (160 < (p.nodes.length : Int)) = false ∧ listsB p = true) ↔ countsP p := by
 have h1 : listsB p = true ↔ p.monitors.all monSB = true ∧ p.processes.all procSB = true ∧ listsE p = true := by
  unfold listsB
  cases p.monitors.all monSB <;> cases p.processes.all procSB <;> simp
 have h2 : listsE p = true ↔ (p.monitors.length : Int) ≤ 3 ∧ inB p.processes.length 1 4 = true := by
  unfold listsE
  by_cases h : (p.monitors.length : Int) ≤ 3 <;> simp [h]
 rw [h1, h2, List.all_eq_true, List.all_eq_true, decide_eq_false_iff_not]
 constructor
 ·rintro ⟨a, b, c, d, e⟩
  exact ⟨by omega, d, e, fun m hm => monSB_iff.1 (b m hm), fun x hx => procSB_iff.1 (c x hx)⟩
 ·rintro ⟨a, d, e, b, c⟩
  exact ⟨by omega, fun m hm => monSB_iff.2 (b m hm), fun x hx => procSB_iff.2 (c x hx), d, e⟩
/-! Nodes, and how deep they are. -/
def nodesP (p : Prgm) : Prop := ∀ k, k < p.nodes.length → nodeB p k = true ∧ dp p k ≤ 10
theorem nodesF_iff {p : Prgm} : ∀ (n k : Nat), nodesF p n k = true ↔ ∀ j, k ≤ j → j < k + n → nodeB p j = true ∧ dp p j ≤ 10
 | 0, k => ⟨fun _ j h1 h2 => by omega, fun _ => rfl⟩
 | n + 1, k => by
  unfold nodesF
  have ih := nodesF_iff (p := p) n (k + 1)
  cases q : nodeB p k
  ·rw [if_pos rfl]
   exact ⟨fun h => absurd h (by simp), fun h => absurd (h k (Nat.le_refl _) (by omega)).1 (by rw [q]; simp)⟩
  ·rw [if_neg (by simp)]
   by_cases hd : 10 < dp p k
   ·rw [if_pos (decide_eq_true hd)]
    exact ⟨fun h => absurd h (by simp), fun h => by have := (h k (Nat.le_refl _) (by omega)).2; omega⟩
   ·rw [if_neg (by simpa using hd), ih]
    refine ⟨fun h j h1 h2 => ?_, fun h j h1 h2 => h j (by omega) (by omega)⟩
    by_cases hj : j = k
    ·rw [hj]; exact ⟨q, by omega⟩
    ·exact h j (by omega) (by omega)
theorem nodes_i {p : Prgm} : nodesB p = true ↔ nodesP p := by
 unfold nodesB
 rw [nodesF_iff]
 exact ⟨fun h k hk => h k (Nat.zero_le _) (by omega), fun h j _ hj => h j (by omega)⟩
theorem take_dl {p : Prgm} : ∀ k, k ≤ p.nodes.length → (∀ j, j < k → (deepsS p).getD j 0 = dp p j) → (deepsS p).take k = dl p k := by
 intro k hk h
 refine List.ext_getElem? fun j => ?_
 rw [List.getElem?_take]
 by_cases hj : j < k
 ·rw [if_pos hj]
  have e1 := h j hj
  have e2 := dl_get p hj
  have l1 := deepsS_len p
  have l2 := dl_len p k
  rw [List.getD_eq_getElem?_getD] at e1 e2
  rw [List.getElem?_eq_getElem (by omega)] at e1 ⊢
  rw [List.getElem?_eq_getElem (by omega)] at e2 ⊢
  rw [Option.getD_some] at e1 e2
  rw [e1, e2]
 ·rw [if_neg hj, List.getElem?_eq_none (by rw [dl_len]; omega)]
theorem lastB_dl {p : Prgm} {k : Nat} : lastB (dl p k) = false := by
 unfold lastB
 rw [dl_len]
 by_cases hk : (0 : Int) < (k : Int)
 ·rw [if_neg (by rw [decide_eq_true hk]; simp), dl_get p (by omega)]
  have := dp_ge p (k - 1)
  exact beq_eq_false_iff_ne.2 (by omega)
 ·rw [if_pos (decide_eq_false hk)]
theorem deep_step {p : Prgm} {k : Nat} (hk : k < p.nodes.length) (h : ∀ j, j < k → (deepsS p).getD j 0 = dp p j) : (deepsS p).getD k 0 = if nodeB p k = true then (if decide (10 < dp p k) = true then 0 else dp p k) else 0 := by
 rw [deepsS_at hk, take_dl k (by omega) h]
 unfold deepS
 rw [node_same hk, lastB_dl]
 simp only [Bool.false_eq_true, if_false]
 rfl
theorem nodes_s {p : Prgm} : (deepsS p).all (fun d => inB d 1 10) = true ↔ nodesP p := by
 rw [List.all_eq_true]
 constructor
 ·intro h
  have hk1 : ∀ k, k < p.nodes.length → 1 ≤ (deepsS p).getD k 0 := fun k hk => (inB_t (h _ (getD_mem (by rw [deepsS_len]; exact hk)))).1
  have key : ∀ k, k < p.nodes.length → (nodeB p k = true ∧ dp p k ≤ 10) ∧ (deepsS p).getD k 0 = dp p k := by
   intro k
   induction k using Nat.strongRecOn with
   | ind k ih =>
    intro hk
    have e := deep_step hk (fun j hj => (ih j hj (by omega)).2)
    have h1 := hk1 k hk
    cases q : nodeB p k
    ·rw [q, if_neg (by simp)] at e; omega
    ·rw [q, if_pos rfl] at e
     by_cases hd : 10 < dp p k
     ·rw [if_pos (decide_eq_true hd)] at e; omega
     ·rw [if_neg (by simpa using hd)] at e
      exact ⟨⟨rfl, by omega⟩, e⟩
  exact fun k hk => (key k hk).1
 ·intro h d hd
  have key : ∀ k, k < p.nodes.length → (deepsS p).getD k 0 = dp p k := by
   intro k
   induction k using Nat.strongRecOn with
   | ind k ih =>
    intro hk
    have e := deep_step hk (fun j hj => ih j hj (by omega))
    obtain ⟨h1, h2⟩ := h k hk
    rw [h1, if_pos rfl, if_neg (by simpa using h2)] at e
    exact e
  obtain ⟨k, hk, he⟩ := List.getElem_of_mem hd
  have hk2 : k < p.nodes.length := by rw [deepsS_len] at hk; exact hk
  have e := key k hk2
  rw [List.getD_eq_getElem?_getD, List.getElem?_eq_getElem hk, Option.getD_some, he] at e
  rw [e]
  exact inB_of (dp_ge p k) (h k hk2).2
/-- Both tell the same of each program. -/
theorem prog_same (p : Prgm) : progB p = progS p := by
 refine bool_iff ?_
 have hB : progB p = true ↔ (countsB p = true ∧ (namesL p).any (fun s => !nameOk s) = false) ∧ nodesB p = true ∧ restB p = true := by
  unfold progB
  cases countsB p <;> cases (namesL p).any (fun s => !nameOk s) <;> cases nodesB p <;> simp
 have hS : progS p = true ↔ (decide (160 < (p.nodes.length : Int)) = false ∧ listsB p = true) ∧ (deepsS p).all (fun d => inB d 1 10) = true ∧ restB p = true := by
  have hr : restB p = if (bodiesL p).all (isBlkB p) = false then false else (usedS p).all (fun x => x == 1) := by
   unfold restB
   rw [any_all, owners_same]
  rw [hr]
  unfold progS
  cases decide (160 < (p.nodes.length : Int)) <;> cases listsB p <;> cases (deepsS p).all (fun d => inB d 1 10) <;> simp
 rw [hB, hS, counts_i, counts_s, nodes_i, nodes_s]
end Go.Proofs.YtejnpiielcbkkaaGreat.E
end
