/- A part of what stands under the laws of this seat: an abstract evaluator that is proved sound, and contracts of functions by it. No condition beside those that stand in each statement. -/
import Derived.Test.YtejnpiielcbkkaaGreatZP4
set_option linter.unusedVariables false
set_option linter.unusedSimpArgs false
set_option maxRecDepth 100000
set_option maxHeartbeats 4000000
namespace Go.Proofs.YtejnpiielcbkkaaGreat.E
/-! How deep nodes are. -/
def kidMax (out : List Int) : List Int → Int → Int
 | [], d => d
 | x :: xs, d => kidMax out xs (if d < out.getD x.toNat 0 + 1 then out.getD x.toNat 0 + 1 else d)
def dl (p : Prgm) : Nat → List Int
 | 0 => []
 | n + 1 => dl p n ++ [kidMax (dl p n) (p.nodes.getD n nodeZ).kids 1]
def dp (p : Prgm) (n : Nat) : Int := kidMax (dl p n) (p.nodes.getD n nodeZ).kids 1
theorem dl_len (p : Prgm) : ∀ n, (dl p n).length = n
 | 0 => rfl
 | n + 1 => by show (dl p n ++ [_]).length = n + 1; rw [List.length_append, dl_len p n]; rfl
theorem dl_get (p : Prgm) : ∀ {n j : Nat}, j < n → (dl p n).getD j 0 = dp p j
 | 0, j, h => by omega
 | n + 1, j, h => by
  show (dl p n ++ [_]).getD j 0 = _
  by_cases hj : j < n
  ·have e := dl_get p hj
   rw [List.getD_eq_getElem?_getD] at e ⊢
   rw [List.getElem?_append_left (by rw [dl_len]; exact hj)]
   exact e
  ·have : j = n := by omega
   subst this
   rw [List.getD_eq_getElem?_getD, List.getElem?_append_right (by rw [dl_len]; exact Nat.le_refl _), dl_len, Nat.sub_self]
   rfl
theorem kidMax_drop {out ks : List Int} {j : Nat} {d : Int} (h : j < ks.length) : kidMax out (ks.drop j) d = kidMax out (ks.drop (j + 1)) (if d < out.getD (ks.getD j 0).toNat 0 + 1 then out.getD (ks.getD j 0).toNat 0 + 1 else d) := by
 rw [List.drop_eq_getElem_cons h, List.getD_eq_getElem?_getD (i := j), List.getElem?_eq_getElem h]
 rfl
theorem kidMax_ge {out : List Int} : ∀ (ks : List Int) (d : Int), d ≤ kidMax out ks d
 | [], d => Int.le_refl _
 | x :: xs, d => by
  unfold kidMax
  have := kidMax_ge (out := out) xs (if d < out.getD x.toNat 0 + 1 then out.getD x.toNat 0 + 1 else d)
  split at this <;> split <;> omega
theorem dp_ge (p : Prgm) (n : Nat) : 1 ≤ dp p n := kidMax_ge _ _
theorem distF_in {kids : List Int} {k : Int} : ∀ (n j : Nat), distF kids k n j = true → ∀ i, j ≤ i → i < j + n → inB (kids.getD i 0) 0 (k - 1) = true
 | 0, j, h, i, h1, h2 => by omega
 | n + 1, j, h, i, h1, h2 => by
  unfold distF at h
  split at h
  ·cases h
  ·rename_i hq
   split at h
   ·cases h
   ·by_cases hij : i = j
    ·subst hij; simpa using hq
    ·exact distF_in n (j + 1) h i (by omega) (by omega)
theorem nodeB_kid {p : Prgm} {k : Int} (h : nodeB p k = true) : ∀ i, i < (ndAt p k).kids.length → inB ((ndAt p k).kids.getD i 0) 0 (k - 1) = true := by
 intro i hi
 unfold nodeB at h
 split at h
 ·cases h
 ·split at h
  ·cases h
  ·split at h
   ·cases h
   ·rename_i hd
    exact distF_in _ 0 (by unfold distB at hd; simpa using hd) i (Nat.zero_le _) (by omega)
theorem nodeB_node {p : Prgm} {k : Int} (h : nodeB p k = true) : isNodeB p k = true := by
 unfold nodeB at h
 split at h
 ·cases h
 ·rename_i hd; simpa using hd
def cut10 (d : Int) : Int := if decide (10 < d) = true then 0 else d
/-- What deeps tells of nodes up to one, when all are right and those ahead are not too deep. -/
def deepsX (p : Prgm) (k : Nat) : List Int := dl p k ++ [cut10 (dp p k)]
theorem deepsX_len (p : Prgm) (k : Nat) : (deepsX p k).length = k + 1 := by unfold deepsX; rw [List.length_append, dl_len]; rfl
theorem deepsX_lo (p : Prgm) {k j : Nat} (h : j < k) : (deepsX p k).getD j 0 = dp p j := by
 unfold deepsX
 rw [← dl_get p h, List.getD_eq_getElem?_getD, List.getElem?_append_left (by rw [dl_len]; exact h), List.getD_eq_getElem?_getD]
theorem deepsX_at (p : Prgm) (k : Nat) : (deepsX p k).getD k 0 = cut10 (dp p k) := by
 unfold deepsX
 rw [List.getD_eq_getElem?_getD, List.getElem?_append_right (by rw [dl_len]; exact Nat.le_refl _), dl_len, Nat.sub_self]
 rfl
theorem mix_get {X : List Int} {i j : Nat} (h : j < i) (hi : i ≤ X.length) : (mixI X i).getD j 0 = X.getD j 0 := by
 unfold mixI
 rw [List.getD_eq_getElem?_getD, List.getElem?_append_left (by rw [List.length_take]; omega), List.getElem?_take, if_pos h, List.getD_eq_getElem?_getD]
theorem mix_cut {p : Prgm} {k : Nat} (h : decide (10 < dp p k) = true) : mixI (deepsX p k) k = deepsX p k := by
 unfold mixI
 rw [deepsX_len]
 unfold deepsX cut10
 rw [h, if_pos rfl, List.take_left' (dl_len p k), show k + 1 - k = 1 by omega]
 rfl
theorem iDeeps_ok (p : Prgm) (k : Nat) (hN : p.nodes.length ≤ 1048576) (hS : ∀ y ∈ p.nodes, smNode y) (hk : k < p.nodes.length) (hok : ∀ j, j ≤ k → nodeB p j = true) (hd : ∀ j, j < k → dp p j ≤ 10) : CallOk Tryz.prog 178 [.agg (programR p), .one (iV k)] (.s (.one (.own 1 (intsT (deepsX p k))))) [none, none] := by
 have hz := mixI_zero (deepsX p k)
 rw [deepsX_len] at hz
 have hX := deepsX_len p k
 have etn : ((k : Int) + 1).toNat = k + 1 := by omega
 refine cOh 40 (hBd Tryz.func178 rfl (by kernel_rfl) ?_)
 simp (disch := omega) only [go_sem, Tryz.ntmps178, Tryz.results178]
 have x1 := @repl_intsT
 refine wkc ?_
 refine i_loop (α := {i : Nat // i ≤ k + 1}) (fun i => ⟨mkEnv 61 [(1, .one (iV k)), (2, .one (.ptr 0 0 0)), (5, .one (.ref 1 0 (k + 1))), (14, .one (iV ((k : Int) + 1))), (15, .one (iV i.1))], [.live 3 [programR p], .live 1 (intsT (mixI (deepsX p k) i.1))]⟩) (fun i => k + 1 - i.1) ⟨0, by omega⟩ ?_ ?_
 ·first | (refine wCn [1, 2, 5, 14, 15] [0, 1] ?_ ?_ ?_ <;> (simp (disch := omega) only [go_sem, hz, repl_intsT]; done))
 rintro ⟨i, hi⟩
 dsimp only
 by_cases hik : i < k + 1
 ·have d1 : decide ((i : Int) < (k : Int) + 1) = true := decide_eq_true (by omega)
  have c0 := iNode_ok p i hN hS (by omega)
  rw [hok i (by omega)] at c0
  have hkid := nodeB_kid (hok i (by omega))
  have hnd : ndAt p (i : Int) = (p.nodes.getD i nodeZ) := rfl
  rw [hnd] at hkid
  have hmi := mixI_len (xs := deepsX p k) (k := i) (by omega)
  have hm : (p.nodes.getD i nodeZ) ∈ p.nodes := by rw [List.getD_eq_getElem?_getD, List.getElem?_eq_getElem (by omega)]; exact List.getElem_mem (by omega)
  have s4 := (hS _ hm).2.2.2
  clear hnd hm hz etn
  simp (disch := omega) only [go_sem]
  refine wkc ?_
  refine i_hide fun Q hE => ?_
  refine i_loop (α := {x : Nat × Int // x.1 ≤ (p.nodes.getD i nodeZ).kids.length ∧ 1 ≤ x.2 ∧ x.2 ≤ 11 ∧ kidMax (dl p i) ((p.nodes.getD i nodeZ).kids.drop x.1) x.2 = dp p i}) (fun x => ⟨mkEnv 61 [(1, .one (iV k)), (2, .one (.ptr 0 0 0)), (5, .one (.ref 1 0 (k + 1))), (6, .one (iV i)), (7, .one (iV x.1.2)), (14, .one (iV ((k : Int) + 1))), (15, .one (iV i)), (27, .one (.ro 1 (intsD (p.nodes.getD i nodeZ).kids))), (28, .one (iV (p.nodes.getD i nodeZ).kids.length)), (29, .one (iV x.1.1))], [.live 3 [programR p], .live 1 (intsT (mixI (deepsX p k) i))]⟩) (fun x => (p.nodes.getD i nodeZ).kids.length - x.1.1) ⟨(0, 1), by omega, by omega, by omega, rfl⟩ ?_ ?_
  ·first | exact wc [1, 2, 5, 6, 7, 14, 15, 27, 28, 29] [0, 1]
  rintro ⟨⟨j, d⟩, hj, hd1, hd2, he⟩
  dsimp only at hj hd1 hd2 he ⊢
  by_cases hjl : j < (p.nodes.getD i nodeZ).kids.length
  ·have d2 : decide ((j : Int) < ((p.nodes.getD i nodeZ).kids.length : Int)) = true := decide_eq_true (by omega)
   have hkj := hkid j hjl
   obtain ⟨q0, q1⟩ := inB_t hkj
   have c1 := within_ok ((p.nodes.getD i nodeZ).kids.getD j 0) 0 ((i : Int) - 1)
   rw [hkj] at c1
   rw [kidMax_drop hjl] at he
   obtain ⟨x, hx⟩ : ∃ x, (p.nodes.getD i nodeZ).kids.getD j 0 = x := ⟨_, rfl⟩
   rw [hx] at q0 q1 c1 he
   have hxi : x.toNat < i := by omega
   have hg : (mixI (deepsX p k) i).getD x.toNat 0 = dp p x.toNat := by rw [mix_get hxi (by omega), deepsX_lo p (by omega)]
   have hg2 : (dl p i).getD x.toNat 0 = dp p x.toNat := dl_get p hxi
   have y1 := dp_ge p x.toNat
   have y2 := hd x.toNat (by omega)
   rw [hg2] at he
   obtain ⟨y, hy⟩ : ∃ y, dp p x.toNat = y := ⟨_, rfl⟩
   rw [hy] at hg he y1 y2
   have hy0 : (y == 0) = false := beq_eq_false_iff_ne.2 (by omega)
   clear hkj hg2 hy hkid hok hd hS c0
   by_cases hlt : d < y + 1
   ·rw [if_pos hlt] at he
    have d3 : decide (d < y + 1) = true := decide_eq_true hlt
    simp (disch := omega) only [go_sem]
    refine wkc ?_
    all_goals refine ⟨⟨(j + 1, y + 1), by omega, by omega, by omega, he⟩, ?_, by simp only; omega⟩
    all_goals first | exact wc [1, 2, 5, 6, 7, 14, 15, 27, 28, 29] [0, 1]
   ·rw [if_neg hlt] at he
    have d3 : decide (d < y + 1) = false := decide_eq_false hlt
    simp (disch := omega) only [go_sem]
    refine wkc ?_
    all_goals refine ⟨⟨(j + 1, d), by omega, by omega, by omega, he⟩, ?_, by simp only; omega⟩
    all_goals first | exact wc [1, 2, 5, 6, 7, 14, 15, 27, 28, 29] [0, 1]
  ·have d2 : decide ((j : Int) < ((p.nodes.getD i nodeZ).kids.length : Int)) = false := decide_eq_false (by omega)
   have ek : (p.nodes.getD i nodeZ).kids.drop j = [] := List.drop_eq_nil_of_le (by omega)
   rw [ek] at he
   have he2 : d = dp p i := he
   clear he ek hkid hok hS c0
   cases d3 : decide (10 < d)
   ·have hv : (deepsX p k).getD i 0 = d := by
     by_cases hik2 : i < k
     ·rw [deepsX_lo p hik2, he2]
     ·have : i = k := by omega
      subst this
      rw [deepsX_at, ← he2]
      unfold cut10
      rw [d3, if_neg (by simp)]
    have hset := mixI_set (xs := deepsX p k) (k := i) (by omega)
    rw [hv] at hset
    clear he2 hd hv
    simp (disch := omega) only [go_sem]
    refine wkc ?_
    all_goals refine ⟨⟨i + 1, by omega⟩, ?_, by simp only; omega⟩
    all_goals first | (refine wCn [1, 2, 5, 14, 15] [0, 1] ?_ ?_ ?_ <;> (simp (disch := omega) only [go_sem, hset]; done))
   ·have hik2 : i = k := by
     by_cases hlt : i < k
     ·have := hd i hlt
      have := of_decide_eq_true d3
      omega
     ·omega
    subst hik2
    rw [he2] at d3
    have e := mix_cut d3
    have etk : (deepsX p i).take (i + 1) = deepsX p i := List.take_of_length_le (by omega)
    subst he2
    clear hd
    simp (disch := omega) only [go_sem]
    exact wk
 ·have d1 : decide ((i : Int) < (k : Int) + 1) = false := decide_eq_false (by omega)
  have e : mixI (deepsX p k) i = deepsX p k := mixI_end (by omega)
  have etk : (deepsX p k).take (k + 1) = deepsX p k := List.take_of_length_le (by omega)
  clear hz etn hok hd hS
  simp (disch := omega) only [go_sem]
  exact wk
theorem iDeepOf_ok (p : Prgm) (k : Nat) (hN : p.nodes.length ≤ 1048576) (hS : ∀ y ∈ p.nodes, smNode y) (hk : k < p.nodes.length) (hok : ∀ j, j ≤ k → nodeB p j = true) (hd : ∀ j, j < k → dp p j ≤ 10) : CallOk Tryz.prog 105 [.agg (programR p), .one (iV k)] (.s (.one (iV (cut10 (dp p k))))) [none, none] := by
 have c0 := isNode_ok p k hN
 rw [nodeB_node (hok k (Nat.le_refl _))] at c0
 have c1 := iDeeps_ok p k hN hS hk hok hd
 have hX := deepsX_len p k
 have hg := deepsX_at p k
 clear hok hd hS
 refine cOh 40 (hBd Tryz.func105 rfl (by kernel_rfl) ?_)
 simp (disch := omega) only [go_sem, Tryz.ntmps105, Tryz.results105]
 exact wk
end Go.Proofs.YtejnpiielcbkkaaGreat.E
