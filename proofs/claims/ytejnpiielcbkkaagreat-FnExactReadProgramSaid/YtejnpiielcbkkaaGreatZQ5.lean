/- A part of what stands under the laws of this seat: an abstract evaluator that is proved sound, and contracts of functions by it. No condition beside those that stand in each statement. -/
import Derived.Test.YtejnpiielcbkkaaGreatZQ3
import Derived.Test.YtejnpiielcbkkaaGreatZP5
set_option linter.unusedVariables false
set_option linter.unusedSimpArgs false
set_option maxRecDepth 100000
set_option maxHeartbeats 4000000
namespace Go.Proofs.YtejnpiielcbkkaaGreat.E
/-! How deep nodes are, by the reference. -/
def lastB (out : List Int) : Bool := if decide (0 < (out.length : Int)) = false then false else (out.getD (out.length - 1) 0 == 0)
def deepS (p : Prgm) (out : List Int) (k : Nat) : Int :=
 if nodeS p k = true then (if decide (10 < kidMax out (p.nodes.getD k nodeZ).kids 1) = true then 0 else if lastB out = true then 0 else kidMax out (p.nodes.getD k nodeZ).kids 1) else 0
def deepsF (p : Prgm) : Nat → List Int → List Int
 | 0, out => out
 | n + 1, out => deepsF p n (out ++ [deepS p out out.length])
def deepsS (p : Prgm) : List Int := deepsF p p.nodes.length []
/-- What the kids of a right node are. -/
def KidsIn (p : Prgm) : Prop := ∀ k, k < p.nodes.length → nodeS p k = true → ∀ i, i < (p.nodes.getD k nodeZ).kids.length → 0 ≤ (p.nodes.getD k nodeZ).kids.getD i 0 ∧ (p.nodes.getD k nodeZ).kids.getD i 0 < k
theorem deepS_bd {p : Prgm} {out : List Int} {k : Nat} (h : ∀ j, 0 ≤ out.getD j 0 ∧ out.getD j 0 ≤ 10) : 0 ≤ deepS p out k ∧ deepS p out k ≤ 10 := by
 have := kidMax_ge (out := out) (p.nodes.getD k nodeZ).kids 1
 unfold deepS
 split
 ·split
  ·omega
  ·rename_i h1
   have : ¬ 10 < kidMax out (p.nodes.getD k nodeZ).kids 1 := by simpa using h1
   split <;> omega
 ·omega
theorem sDeeps_ok (p : Prgm) (hN : p.nodes.length ≤ 1048576) (hS : ∀ y ∈ p.nodes, smNode y) (hK : KidsIn p) : CallOk Tryz.prog 87 [.agg (programR p)] (.s (.one (.own 1 (intsT (deepsS p))))) [none] := by
 obtain ⟨RES, hRES⟩ : ∃ x, deepsS p = x := ⟨_, rfl⟩
 rw [hRES]
 have h0 : deepsF p p.nodes.length [] = RES := hRES
 have e0 : intsT [] = [] := rfl
 refine cOh 40 (hBd Tryz.func87 rfl (by kernel_rfl) ?_)
 simp (disch := omega) only [go_sem, Tryz.ntmps87, Tryz.results87]
 refine wkc ?_
 refine i_hide fun Q hE => ?_
 refine i_loop (α := {x : List Int // x.length ≤ p.nodes.length ∧ (∀ j, 0 ≤ x.getD j 0 ∧ x.getD j 0 ≤ 10) ∧ deepsF p (p.nodes.length - x.length) x = RES}) (fun x => ⟨mkEnv 76 [(1, .one (.ptr 0 0 0)), (3, .one (.ref 1 0 x.1.length)), (4, .one (iV x.1.length))], [.live 3 [programR p], .live 1 (intsT x.1)]⟩) (fun x => p.nodes.length - x.1.length) ⟨[], Nat.zero_le _, fun j => by simp, h0⟩ ?_ ?_
 ·first | (refine wCn [1, 3, 4] [0, 1] ?_ ?_ ?_ <;> (simp (disch := omega) only [go_sem, e0, List.length_nil, Int.natCast_zero, Int.cast_ofNat_Int]; done))
 rintro ⟨out, hl, hbd, he⟩
 dsimp only at hl hbd he ⊢
 clear h0 hRES e0
 by_cases hol : out.length < p.nodes.length
 ·have d1 : decide ((out.length : Int) < (p.nodes.length : Int)) = true := decide_eq_true (by omega)
  have c0 := sNode_ok p out.length hN hol hS
  have hst : p.nodes.length - out.length = (p.nodes.length - (out.length + 1)) + 1 := by omega
  rw [hst, deepsF] at he
  clear hst
  have hki := hK out.length hol
  have s4 := (hS _ (getD_mem (z := nodeZ) hol)).2.2.2
  have hds : deepS p out out.length = if nodeS p out.length = true then (if decide (10 < kidMax out (p.nodes.getD out.length nodeZ).kids 1) = true then 0 else if lastB out = true then 0 else kidMax out (p.nodes.getD out.length nodeZ).kids 1) else 0 := rfl
  have hlb : lastB out = if decide (0 < (out.length : Int)) = false then false else (out.getD (out.length - 1) 0 == 0) := rfl
  have hbd2 : ∀ j, 0 ≤ (out ++ [deepS p out out.length]).getD j 0 ∧ (out ++ [deepS p out out.length]).getD j 0 ≤ 10 := fun j => by
   rw [List.getD_eq_getElem?_getD]
   by_cases hj : j < out.length
   ·rw [List.getElem?_append_left hj, ← List.getD_eq_getElem?_getD]; exact hbd j
   ·by_cases hj2 : j = out.length
    ·subst hj2
     rw [List.getElem?_append_right (Nat.le_refl _), Nat.sub_self]
     exact deepS_bd hbd
    ·rw [List.getElem?_eq_none (by rw [List.length_append, List.length_singleton]; omega)]
     simp
  obtain ⟨dv, hdv⟩ : ∃ x, deepS p out out.length = x := ⟨_, rfl⟩
  rw [hdv] at hds he hbd2
  clear hdv hK hS
  cases q0 : nodeS p out.length
  ·rw [q0] at c0 hds
   rw [if_neg (by simp)] at hds
   subst hds
   clear hki
   cases q1 : decide (0 < (out.length : Int))
   ·rw [q1, if_pos rfl] at hlb
    simp (disch := omega) only [go_sem]
    refine wkc ?_
    all_goals refine ⟨⟨out ++ [0], by rw [List.length_append, List.length_singleton]; omega, hbd2, by rw [List.length_append, List.length_singleton]; exact he⟩, ?_, by simp only [List.length_append, List.length_singleton]; omega⟩
    all_goals first | (refine wCn [1, 3, 4] [0, 3] ?_ ?_ ?_ <;> (simp (disch := omega) only [go_sem, ints_one, List.length_append, List.length_singleton]; done))
   ·have hq := of_decide_eq_true q1
    have etn : ((out.length : Int) - 1).toNat = out.length - 1 := by omega
    rw [q1, if_neg (by simp)] at hlb
    cases q2 : (out.getD (out.length - 1) 0 == 0)
    ·rw [q2] at hlb
     simp (disch := omega) only [go_sem]
     refine wkc ?_
     all_goals refine ⟨⟨out ++ [0], by rw [List.length_append, List.length_singleton]; omega, hbd2, by rw [List.length_append, List.length_singleton]; exact he⟩, ?_, by simp only [List.length_append, List.length_singleton]; omega⟩
     all_goals first | (refine wCn [1, 3, 4] [0, 3] ?_ ?_ ?_ <;> (simp (disch := omega) only [go_sem, ints_one, List.length_append, List.length_singleton]; done))
    ·rw [q2] at hlb
     simp (disch := omega) only [go_sem]
     refine wkc ?_
     all_goals refine ⟨⟨out ++ [0], by rw [List.length_append, List.length_singleton]; omega, hbd2, by rw [List.length_append, List.length_singleton]; exact he⟩, ?_, by simp only [List.length_append, List.length_singleton]; omega⟩
     all_goals first | (refine wCn [1, 3, 4] [0, 3] ?_ ?_ ?_ <;> (simp (disch := omega) only [go_sem, ints_one, List.length_append, List.length_singleton]; done))
  rw [q0] at c0 hds
  rw [if_pos rfl] at hds
  replace hki := hki q0
  obtain ⟨KM, hKM⟩ : ∃ x, kidMax out (p.nodes.getD out.length nodeZ).kids 1 = x := ⟨_, rfl⟩
  rw [hKM] at hds
  simp (disch := omega) only [go_sem]
  repeat' (first | (with_reducible first | refine i_seq ?_) | ((first | (with_reducible first | refine iBk ?_ | refine iRQ (fun Q' hQ => ?_) | (refine Imp.go hQ ?_; clear hQ) | (refine ImpE.go hE ?_; clear hE)) | ((with_reducible refine i_condT ?_ ?_); (focus (simp only [go_sem, *]; done))) | ((with_reducible refine i_condF ?_ ?_); (focus (simp only [go_sem, *]; done))) | ((with_reducible first | refine rOg (fun h => ?_) (fun h => ?_) | refine i_cond (by simp only [go_sem, *] <;> rfl) (fun h => ?_) (fun h => ?_)) <;> (try simp only [nqA, nqB, nqC, reduceCtorEq] at h) <;> (try have h' := odT h) <;> (try (have hz : (_ : Int) = (_ : Int) := h'; clear hz h')) <;> (try have h' := odF h) <;> (try have h' := inB_t h) <;> (try (exfalso; omega))) | (((with_reducible first | refine hcO 40 true (c0) ?_ ?_ ?_ ?_ ?_); iterate 4 (focus (simp (disch := omega) only [go_sem, d1, reduceCtorEq, nLo]; done))); simp only [go_sem, d1, reduceCtorEq]; refine aLr ?_)) <;> (try simp (disch := omega) only [go_sem, d1, reduceCtorEq, *])))
  all_goals (try simp (disch := omega) only [EndK, go_sem, d1, reduceCtorEq, nLo, *])
  clear c0 q0
  refine i_hide fun Q2 hE => ?_
  refine i_loop (α := {x : Nat × Int // x.1 ≤ (p.nodes.getD out.length nodeZ).kids.length ∧ 1 ≤ x.2 ∧ x.2 ≤ 11 ∧ kidMax out ((p.nodes.getD out.length nodeZ).kids.drop x.1) x.2 = KM}) (fun x => ⟨mkEnv 76 [(1, .one (.ptr 0 0 0)), (3, .one (.ref 1 0 out.length)), (4, .one (iV out.length)), (5, .one (iV x.1.2)), (6, .one (iV x.1.1))], [.live 3 [programR p], .live 1 (intsT out)]⟩) (fun x => (p.nodes.getD out.length nodeZ).kids.length - x.1.1) ⟨(0, 1), by omega, by omega, by omega, hKM⟩ ?_ ?_
  ·first | exact wc [1, 3, 4, 5, 6] [0, 1]
  rintro ⟨⟨j, d⟩, hj, hd1, hd2, hke⟩
  dsimp only at hj hd1 hd2 hke ⊢
  clear hKM
  by_cases hjl : j < (p.nodes.getD out.length nodeZ).kids.length
  ·have d2 : decide ((j : Int) < ((p.nodes.getD out.length nodeZ).kids.length : Int)) = true := decide_eq_true (by omega)
   obtain ⟨x0, x1⟩ := hki j hjl
   rw [kidMax_drop hjl] at hke
   obtain ⟨x, hx⟩ : ∃ x, (p.nodes.getD out.length nodeZ).kids.getD j 0 = x := ⟨_, rfl⟩
   rw [hx] at x0 x1 hke
   obtain ⟨y0, y1⟩ := hbd x.toNat
   obtain ⟨y, hy⟩ : ∃ y, out.getD x.toNat 0 = y := ⟨_, rfl⟩
   rw [hy] at y0 y1 hke
   clear hbd hki hds hlb hbd2 he
   by_cases hlt : d < y + 1
   ·rw [if_pos hlt] at hke
    have d3 : decide (d < y + 1) = true := decide_eq_true hlt
    simp (disch := omega) only [go_sem]
    refine wkc ?_
    all_goals refine ⟨⟨(j + 1, y + 1), by omega, by omega, by omega, hke⟩, ?_, by simp only; omega⟩
    all_goals first | exact wc [1, 3, 4, 5, 6] [0, 1]
   ·rw [if_neg hlt] at hke
    have d3 : decide (d < y + 1) = false := decide_eq_false hlt
    simp (disch := omega) only [go_sem]
    refine wkc ?_
    all_goals refine ⟨⟨(j + 1, d), by omega, by omega, by omega, hke⟩, ?_, by simp only; omega⟩
    all_goals first | exact wc [1, 3, 4, 5, 6] [0, 1]
  ·have d2 : decide ((j : Int) < ((p.nodes.getD out.length nodeZ).kids.length : Int)) = false := decide_eq_false (by omega)
   have ek : (p.nodes.getD out.length nodeZ).kids.drop j = [] := List.drop_eq_nil_of_le (by omega)
   rw [ek] at hke
   have he2 : d = KM := hke
   subst he2
   clear ek hke hki hbd
   cases q3 : decide (10 < d)
   ·rw [q3, if_neg (by simp)] at hds
    cases q1 : decide (0 < (out.length : Int))
    ·rw [q1, if_pos rfl] at hlb
     rw [hlb, if_neg (by simp)] at hds
     subst hds
     clear hlb
     simp (disch := omega) only [go_sem]
     refine wkc ?_
     all_goals refine ⟨⟨out ++ [dv], by rw [List.length_append, List.length_singleton]; omega, hbd2, by rw [List.length_append, List.length_singleton]; exact he⟩, ?_, by simp only [List.length_append, List.length_singleton]; omega⟩
     all_goals first | (refine wCn [1, 3, 4] [0, 3] ?_ ?_ ?_ <;> (simp (disch := omega) only [go_sem, ints_one, List.length_append, List.length_singleton]; done))
    ·have hq := of_decide_eq_true q1
     have etn : ((out.length : Int) - 1).toNat = out.length - 1 := by omega
     rw [q1, if_neg (by simp)] at hlb
     cases q2 : (out.getD (out.length - 1) 0 == 0)
     ·rw [q2] at hlb
      rw [hlb, if_neg (by simp)] at hds
      subst hds
      clear hlb
      simp (disch := omega) only [go_sem]
      refine wkc ?_
      all_goals refine ⟨⟨out ++ [dv], by rw [List.length_append, List.length_singleton]; omega, hbd2, by rw [List.length_append, List.length_singleton]; exact he⟩, ?_, by simp only [List.length_append, List.length_singleton]; omega⟩
      all_goals first | (refine wCn [1, 3, 4] [0, 3] ?_ ?_ ?_ <;> (simp (disch := omega) only [go_sem, ints_one, List.length_append, List.length_singleton]; done))
     ·rw [q2] at hlb
      rw [hlb, if_pos rfl] at hds
      subst hds
      clear hlb
      simp (disch := omega) only [go_sem]
      refine wkc ?_
      all_goals refine ⟨⟨out ++ [0], by rw [List.length_append, List.length_singleton]; omega, hbd2, by rw [List.length_append, List.length_singleton]; exact he⟩, ?_, by simp only [List.length_append, List.length_singleton]; omega⟩
      all_goals first | (refine wCn [1, 3, 4] [0, 3] ?_ ?_ ?_ <;> (simp (disch := omega) only [go_sem, ints_one, List.length_append, List.length_singleton]; done))
   ·rw [q3, if_pos rfl] at hds
    subst hds
    clear hlb
    simp (disch := omega) only [go_sem]
    refine wkc ?_
    all_goals refine ⟨⟨out ++ [0], by rw [List.length_append, List.length_singleton]; omega, hbd2, by rw [List.length_append, List.length_singleton]; exact he⟩, ?_, by simp only [List.length_append, List.length_singleton]; omega⟩
    all_goals first | (refine wCn [1, 3, 4] [0, 3] ?_ ?_ ?_ <;> (simp (disch := omega) only [go_sem, ints_one, List.length_append, List.length_singleton]; done))
 ·have d1 : decide ((out.length : Int) < (p.nodes.length : Int)) = false := decide_eq_false (by omega)
  have hst : p.nodes.length - out.length = 0 := by omega
  rw [hst] at he
  have he2 : out = RES := he
  subst he2
  clear he hst
  simp (disch := omega) only [go_sem]
  exact wk
end Go.Proofs.YtejnpiielcbkkaaGreat.E
