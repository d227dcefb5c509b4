/- A part of what stands under the laws of this seat: an abstract evaluator that is proved sound, and contracts of functions by it. No condition beside those that stand in each statement. -/
import Derived.Test.YtejnpiielcbkkaaGreatZP5
import Derived.Test.YtejnpiielcbkkaaGreatZP8
set_option linter.unusedVariables false
set_option linter.unusedSimpArgs false
set_option maxRecDepth 100000
set_option maxHeartbeats 4000000
namespace Go.Proofs.YtejnpiielcbkkaaGreat.E
/-! ### A right program -/
def bump (ow : List Int) (x : Int) : List Int := ow.set x.toNat (ow.getD x.toNat 0 + 1)
structure OwOk (n c : Nat) (ow : List Int) : Prop where
  len : ow.length = n
  bd : ∀ j, 0 ≤ ow.getD j 0 ∧ ow.getD j 0 ≤ c
theorem bump_ok {n c : Nat} {ow : List Int} {x : Int} (h : OwOk n c ow) : OwOk n (c + 1) (bump ow x) := by
 refine ⟨by unfold bump; rw [List.length_set]; exact h.len, fun j => ?_⟩
 unfold bump
 have h1 := h.bd x.toNat
 have h2 := h.bd j
 rw [List.getD_eq_getElem?_getD] at h2 ⊢
 by_cases hj : x.toNat = j
 ·rw [List.getElem?_set, if_pos hj]
  split
  ·rw [Option.getD_some]; omega
  ·rw [Option.getD_none]; omega
 ·rw [List.getElem?_set_ne hj]; omega
theorem OwOk.mono {n c d : Nat} {ow : List Int} (h : OwOk n c ow) (hd : c ≤ d) : OwOk n d ow := ⟨h.len, fun j => by have := h.bd j; omega⟩
theorem owZero (n : Nat) : OwOk n 0 (List.replicate n 0) := by
 refine ⟨List.length_replicate, fun j => ?_⟩
 rw [List.getD_eq_getElem?_getD, List.getElem?_replicate]
 split <;> simp
def nodesF (p : Prgm) : Nat → Nat → Bool
 | 0, _ => true
 | n + 1, k => if nodeB p k = false then false else if decide (10 < dp p k) = true then false else nodesF p n (k + 1)
def nodesB (p : Prgm) : Bool := nodesF p p.nodes.length 0
def kidsAll (p : Prgm) : List Int := p.nodes.flatMap (·.kids)
def owners (p : Prgm) : List Int := (bodiesL p).foldl bump ((kidsAll p).foldl bump (List.replicate p.nodes.length 0))
def restB (p : Prgm) : Bool := if (bodiesL p).all (isBlkB p) = false then false else !((owners p).any fun x => x != 1)
def progB (p : Prgm) : Bool :=
 if countsB p = false then false
 else if (namesL p).any (fun s => !nameOk s) = true then false
 else if nodesB p = false then false
 else restB p
theorem cut10_zero {d : Int} (h : 1 ≤ d) : (cut10 d == 0) = decide (10 < d) := by
 unfold cut10
 cases hq : decide (10 < d)
 ·rw [if_neg (by simp)]; exact beq_eq_false_iff_ne.2 (by omega)
 ·rw [if_pos rfl]; rfl
theorem fold_drop {α : Type} {f : List Int → α → List Int} {z : α} {xs : List α} {o : List Int} {j : Nat} (h : j < xs.length) : (xs.drop j).foldl f o = (xs.drop (j + 1)).foldl f (f o (xs.getD j z)) := by
 rw [List.drop_eq_getElem_cons h, List.getD_eq_getElem?_getD, List.getElem?_eq_getElem h]
 rfl
/-- What is known of a program that is tested. -/
structure TstP (p : Prgm) : Prop where
  sz : SzP p
  nd : ∀ y ∈ p.nodes, smNode y
  nm : ∀ s ∈ namesL p, s.size ≤ 1048576
theorem iProgram_ok (p : Prgm) (hp : TstP p) : CallOk Tryz.prog 34 [.agg (programR p)] (.s (.one (bV (progB p)))) [none] := by
 obtain ⟨hz, hS, hnm⟩ := hp
 have hN := hz.nodes
 have c0 := iCounts_ok p (by omega) (by have := hz.monitors; omega) (by have := hz.processes; omega) (fun y hy => by obtain ⟨h1, h2, h3⟩ := hz.mon y hy; omega) (fun y hy => by obtain ⟨h1, h2⟩ := hz.pro y hy; omega)
 have c1 := iNamesIn_ok p hz
 have hnl : (namesL p).length ≤ 1048576 * 3 := by
  have := monN_le hz
  have := proN_le hz
  unfold namesL
  rw [List.length_append]
  omega
 have c2 := hasFuncS_ok (fun s => !nameOk s) 102 (namesL p) (by omega) (fun x hx => notName_ok x (hnm x hx))
 clear hnm hnl
 obtain ⟨res, hres⟩ : ∃ res, progB p = res := ⟨_, rfl⟩
 rw [hres]
 have hpb : progB p = if countsB p = false then false else if (namesL p).any (fun s => !nameOk s) = true then false else if nodesB p = false then false else restB p := rfl
 rw [hpb] at hres
 clear hpb
 cases q0 : countsB p
 ·rw [q0] at c0 hres
  rw [if_pos rfl] at hres
  subst hres
  clear c1 c2 hS hz
  refine cOh 40 (hBd Tryz.func34 rfl (by kernel_rfl) ?_)
  simp (disch := omega) only [go_sem, Tryz.ntmps34, Tryz.results34]
  exact wk
 rw [q0] at c0 hres
 rw [if_neg (by simp)] at hres
 obtain ⟨nb, hnb⟩ : ∃ b, (namesL p).any (fun s => !nameOk s) = b := ⟨_, rfl⟩
 rw [hnb] at c2 hres
 obtain ⟨NL, hNL⟩ : ∃ x, namesL p = x := ⟨_, rfl⟩
 rw [hNL] at c1 c2
 clear hnb hNL q0
 cases nb
 rotate_left
 ·rw [if_pos rfl] at hres
  subst hres
  clear hS hz
  refine cOh 40 (hBd Tryz.func34 rfl (by kernel_rfl) ?_)
  simp (disch := omega) only [go_sem, Tryz.ntmps34, Tryz.results34]
  exact wk
 rw [if_neg (by simp)] at hres
 have bB := monB_le hz
 have bB2 := hz.processes
 have hbl : (bodiesL p).length ≤ 400000 := by unfold bodiesL; rw [List.length_append, List.length_map]; omega
 have c3 := iBodies_ok p hz
 have hzr := repl_intsT p.nodes.length
 obtain ⟨OW1, hOW1⟩ : ∃ x, (kidsAll p).foldl bump (List.replicate p.nodes.length 0) = x := ⟨_, rfl⟩
 have how : owners p = (bodiesL p).foldl bump OW1 := by unfold owners; rw [hOW1]
 unfold kidsAll at hOW1
 have hnb : nodesF p p.nodes.length 0 = nodesB p := rfl
 clear hz
 refine cOh 40 (hBd Tryz.func34 rfl (by kernel_rfl) ?_)
 simp (disch := omega) only [go_sem, Tryz.ntmps34, Tryz.results34]
 repeat' (first | (with_reducible first | refine i_seq ?_) | ((first | (with_reducible first | refine iBk ?_ | refine iRQ (fun Q' hQ => ?_) | (refine Imp.go hQ ?_; clear hQ)) | ((with_reducible refine i_condT ?_ ?_); (focus (simp only [go_sem, *]; done))) | ((with_reducible refine i_condF ?_ ?_); (focus (simp only [go_sem, *]; done))) | ((with_reducible first | refine rOg (fun h => ?_) (fun h => ?_) | refine i_cond (by simp only [go_sem, *] <;> rfl) (fun h => ?_) (fun h => ?_)) <;> (try simp only [nqA, nqB, nqC, reduceCtorEq] at h) <;> (try have h' := odT h) <;> (try (have hz : (_ : Int) = (_ : Int) := h'; clear hz h')) <;> (try have h' := odF h) <;> (try have h' := inB_t h) <;> (try (exfalso; omega))) | (((with_reducible first | refine hcO 40 true (c0) ?_ ?_ ?_ ?_ ?_ | refine hcO 40 true (c1) ?_ ?_ ?_ ?_ ?_ | refine hcO 40 true (c2) ?_ ?_ ?_ ?_ ?_); iterate 4 (focus (simp (disch := omega) only [go_sem, hzr, reduceCtorEq, nLo]; done))); simp only [go_sem, hzr, reduceCtorEq]; refine aLr ?_)) <;> (try simp (disch := omega) only [go_sem, hzr, reduceCtorEq, *])))
 all_goals (try simp (disch := omega) only [EndK, go_sem, hzr, reduceCtorEq, nLo, *])
 clear c0 c1 c2
 refine i_hide fun Q hE => ?_
 refine i_loop (α := {x : Nat × List Int × Nat // x.1 ≤ p.nodes.length ∧ OwOk p.nodes.length x.2.2 x.2.1 ∧ x.2.2 ≤ x.1 * 1048576 ∧ (∀ j, j < x.1 → nodeB p j = true ∧ dp p j ≤ 10) ∧ nodesF p (p.nodes.length - x.1) x.1 = nodesB p ∧ ((p.nodes.drop x.1).flatMap (·.kids)).foldl bump x.2.1 = OW1}) (fun x => ⟨mkEnv 76 [(1, .one (.ptr 0 0 0)), (3, .one (.ref 1 0 p.nodes.length)), (23, .one (.ro 6 (nodesD p.nodes))), (24, .one (iV p.nodes.length)), (25, .one (iV x.1.1))], [.live 3 [programR p], .live 1 (intsT x.1.2.1)]⟩) (fun x => p.nodes.length - x.1.1) ⟨(0, List.replicate p.nodes.length 0, 0), by omega, owZero _, Nat.zero_le _, fun j hj => absurd hj (Nat.not_lt_zero _), hnb, hOW1⟩ ?_ ?_
 ·first | exact wc [1, 3, 23, 24, 25] [0, 2]
 rintro ⟨⟨k, ow, c⟩, hk, ho, hc, hok, hnf, hfo⟩
 dsimp only at hk ho hc hok hnf hfo ⊢
 clear hOW1 hnb hzr
 by_cases hkl : k < p.nodes.length
 ·have d1 : decide ((k : Int) < (p.nodes.length : Int)) = true := decide_eq_true (by omega)
  have hm : (p.nodes.getD k nodeZ) ∈ p.nodes := getD_mem hkl
  have s4 := (hS _ hm).2.2.2
  have a0 := iNode_ok p k (by omega) hS (by omega)
  have hst : p.nodes.length - k = (p.nodes.length - (k + 1)) + 1 := by omega
  rw [hst, nodesF] at hnf
  clear hst hm
  cases q0 : nodeB p k
  ·rw [q0] at a0 hnf
   rw [if_pos rfl] at hnf
   rw [← hnf, if_pos rfl] at hres
   subst hres
   clear hnf hok hS c3 hfo how
   simp (disch := omega) only [go_sem]
   exact wk
  have a1 := iDeepOf_ok p k (by omega) hS hkl (fun j hj => by
   by_cases hjk : j < k
   ·exact (hok j hjk).1
   ·have : j = k := by omega
    rw [this]; exact q0) (fun j hj => (hok j hj).2)
  rw [q0] at a0 hnf
  rw [if_neg (by simp)] at hnf
  have hcz := cut10_zero (dp_ge p k)
  obtain ⟨dv, hdv⟩ : ∃ x, cut10 (dp p k) = x := ⟨_, rfl⟩
  rw [hdv] at a1 hcz
  clear hdv
  cases q1 : decide (10 < dp p k)
  rotate_left
  ·rw [q1] at hcz hnf
   rw [if_pos rfl] at hnf
   rw [← hnf, if_pos rfl] at hres
   subst hres
   clear hnf hok hS c3 hfo how
   simp (disch := omega) only [go_sem]
   have x1 := a1
   exact wk
  rw [q1] at hcz hnf
  rw [if_neg (by simp)] at hnf
  have hok2 : ∀ j, j < k + 1 → nodeB p j = true ∧ dp p j ≤ 10 := fun j hj => by
   by_cases hjk : j < k
   ·exact hok j hjk
   ·have : j = k := by omega
    rw [this]; exact ⟨q0, by have := of_decide_eq_false q1; omega⟩
  have hkid := nodeB_kid q0
  have hnd : ndAt p (k : Int) = (p.nodes.getD k nodeZ) := rfl
  rw [hnd] at hkid
  rw [flat_drop (z := nodeZ) hkl, List.foldl_append] at hfo
  obtain ⟨OW2, hOW2⟩ : ∃ x, (p.nodes.getD k nodeZ).kids.foldl bump ow = x := ⟨_, rfl⟩
  rw [hOW2] at hfo
  clear hok hS hnd q0 q1
  simp (disch := omega) only [go_sem]
  repeat' (first | (with_reducible first | refine i_seq ?_) | ((first | (with_reducible first | refine iBk ?_ | refine iRQ (fun Q' hQ => ?_) | (refine Imp.go hQ ?_; clear hQ) | (refine ImpE.go hE ?_; clear hE)) | ((with_reducible refine i_condT ?_ ?_); (focus (simp only [go_sem, *]; done))) | ((with_reducible refine i_condF ?_ ?_); (focus (simp only [go_sem, *]; done))) | ((with_reducible first | refine rOg (fun h => ?_) (fun h => ?_) | refine i_cond (by simp only [go_sem, *] <;> rfl) (fun h => ?_) (fun h => ?_)) <;> (try simp only [nqA, nqB, nqC, reduceCtorEq] at h) <;> (try have h' := odT h) <;> (try (have hz : (_ : Int) = (_ : Int) := h'; clear hz h')) <;> (try have h' := odF h) <;> (try have h' := inB_t h) <;> (try (exfalso; omega))) | (((with_reducible first | refine hcO 40 true (a0) ?_ ?_ ?_ ?_ ?_ | refine hcO 40 true (a1) ?_ ?_ ?_ ?_ ?_); iterate 4 (focus (simp (disch := omega) only [go_sem, d1, hcz, reduceCtorEq, nLo]; done))); simp only [go_sem, d1, hcz, reduceCtorEq]; refine aLr ?_)) <;> (try simp (disch := omega) only [go_sem, d1, hcz, reduceCtorEq, *])))
  all_goals (try simp (disch := omega) only [EndK, go_sem, d1, hcz, reduceCtorEq, nLo, *])
  clear a0 a1 hcz
  refine i_hide fun Q2 hE => ?_
  refine i_loop (α := {x : Nat × List Int // x.1 ≤ (p.nodes.getD k nodeZ).kids.length ∧ OwOk p.nodes.length (c + x.1) x.2 ∧ ((p.nodes.getD k nodeZ).kids.drop x.1).foldl bump x.2 = OW2}) (fun x => ⟨mkEnv 76 [(1, .one (.ptr 0 0 0)), (3, .one (.ref 1 0 p.nodes.length)), (23, .one (.ro 6 (nodesD p.nodes))), (24, .one (iV p.nodes.length)), (25, .one (iV k)), (41, .one (.ro 1 (intsD (p.nodes.getD k nodeZ).kids))), (42, .one (iV (p.nodes.getD k nodeZ).kids.length)), (43, .one (iV x.1.1))], [.live 3 [programR p], .live 1 (intsT x.1.2)]⟩) (fun x => (p.nodes.getD k nodeZ).kids.length - x.1.1) ⟨(0, ow), by omega, ho, hOW2⟩ ?_ ?_
  ·first | exact wc [1, 3, 23, 24, 25, 41, 42, 43] [0, 1]
  rintro ⟨⟨i, o⟩, hi, hoo, hof⟩
  dsimp only at hi hoo hof ⊢
  clear hOW2
  by_cases hil : i < (p.nodes.getD k nodeZ).kids.length
  ·have d2 : decide ((i : Int) < ((p.nodes.getD k nodeZ).kids.length : Int)) = true := decide_eq_true (by omega)
   obtain ⟨b0, b1⟩ := inB_t (hkid i hil)
   rw [fold_drop (z := (0 : Int)) hil] at hof
   have hbo := bump_ok (x := (p.nodes.getD k nodeZ).kids.getD i 0) hoo
   have hle := hoo.len
   obtain ⟨x, hx⟩ : ∃ x, (p.nodes.getD k nodeZ).kids.getD i 0 = x := ⟨_, rfl⟩
   rw [hx] at b0 b1 hof hbo
   obtain ⟨y0, y1⟩ := hoo.bd x.toNat
   have hbu : bump o x = o.set x.toNat (o.getD x.toNat 0 + 1) := rfl
   obtain ⟨y, hy⟩ : ∃ y, o.getD x.toNat 0 = y := ⟨_, rfl⟩
   rw [hy] at y0 y1 hbu
   obtain ⟨O2, hO2⟩ : ∃ z, bump o x = z := ⟨_, rfl⟩
   rw [hO2] at hbu hof hbo
   have hbu2 := hbu.symm
   have hxl : x.toNat < o.length := by omega
   have c1m : k * 1048576 ≤ 3000 * 1048576 := Nat.mul_le_mul_right _ (by omega)
   clear hbu hO2 hkid hE hfo hnf hok2 hres c3 how hoo
   simp (disch := omega) only [go_sem]
   refine wkc ?_
   all_goals refine ⟨⟨(i + 1, O2), by omega, hbo, hof⟩, ?_, by simp only; omega⟩
   all_goals first | exact wc [1, 3, 23, 24, 25, 41, 42, 43] [0, 1]
  ·have d2 : decide ((i : Int) < ((p.nodes.getD k nodeZ).kids.length : Int)) = false := decide_eq_false (by omega)
   have ek : (p.nodes.getD k nodeZ).kids.drop i = [] := List.drop_eq_nil_of_le (by omega)
   rw [ek] at hof
   have he2 : o = OW2 := hof
   subst he2
   have hoo2 := hoo.mono (d := c + 1048576) (by omega)
   clear hof ek hkid hres c3 how hoo
   simp (disch := omega) only [go_sem]
   refine wkc ?_
   all_goals refine ⟨⟨(k + 1, o, c + 1048576), by omega, hoo2, by dsimp only; omega, hok2, hnf, hfo⟩, ?_, by simp only; omega⟩
   all_goals first | exact wc [1, 3, 23, 24, 25] [0, 1]
 ·have d1 : decide ((k : Int) < (p.nodes.length : Int)) = false := decide_eq_false (by omega)
  have ek : p.nodes.drop k = [] := List.drop_eq_nil_of_le (by omega)
  rw [ek] at hfo
  have he2 : ow = OW1 := hfo
  subst he2
  have hst : p.nodes.length - k = 0 := by omega
  rw [hst] at hnf
  rw [← hnf, show nodesF p 0 k = true from rfl, if_neg (by simp)] at hres
  clear hfo ek hst hnf hok hS
  have hrb : restB p = if (bodiesL p).all (isBlkB p) = false then false else !((owners p).any fun x => x != 1) := rfl
  rw [hrb, how] at hres
  have c1m : k * 1048576 ≤ 3000 * 1048576 := Nat.mul_le_mul_right _ (by omega)
  clear hrb how
  simp (disch := omega) only [go_sem]
  repeat' (first | (with_reducible first | refine i_seq ?_) | ((first | (with_reducible first | refine iBk ?_ | refine iRQ (fun Q' hQ => ?_) | (refine Imp.go hQ ?_; clear hQ) | (refine ImpE.go hE ?_; clear hE)) | ((with_reducible refine i_condT ?_ ?_); (focus (simp only [go_sem, *]; done))) | ((with_reducible refine i_condF ?_ ?_); (focus (simp only [go_sem, *]; done))) | ((with_reducible first | refine rOg (fun h => ?_) (fun h => ?_) | refine i_cond (by simp only [go_sem, *] <;> rfl) (fun h => ?_) (fun h => ?_)) <;> (try simp only [nqA, nqB, nqC, reduceCtorEq] at h) <;> (try have h' := odT h) <;> (try (have hz : (_ : Int) = (_ : Int) := h'; clear hz h')) <;> (try have h' := odF h) <;> (try have h' := inB_t h) <;> (try (exfalso; omega))) | (((with_reducible first | refine hcO 40 true (c3) ?_ ?_ ?_ ?_ ?_); iterate 4 (focus (simp (disch := omega) only [go_sem, d1, reduceCtorEq, nLo]; done))); simp only [go_sem, d1, reduceCtorEq]; refine aLr ?_)) <;> (try simp (disch := omega) only [go_sem, d1, reduceCtorEq, *])))
  all_goals (try simp (disch := omega) only [EndK, go_sem, d1, reduceCtorEq, nLo, *])
  clear d1 c3
  refine i_hide fun Q2 hE => ?_
  refine i_loop (α := {x : Nat × List Int // x.1 ≤ (bodiesL p).length ∧ OwOk p.nodes.length (c + x.1) x.2 ∧ ((bodiesL p).drop x.1).all (isBlkB p) = (bodiesL p).all (isBlkB p) ∧ ((bodiesL p).drop x.1).foldl bump x.2 = (bodiesL p).foldl bump ow}) (fun x => ⟨mkEnv 76 [(1, .one (.ptr 0 0 0)), (3, .one (.ref 1 0 p.nodes.length)), (56, .one (.ref 2 0 (bodiesL p).length)), (57, .one (iV (bodiesL p).length)), (58, .one (iV x.1.1))], [.live 3 [programR p], .live 1 (intsT x.1.2), .live 1 (intsT (bodiesL p))]⟩) (fun x => (bodiesL p).length - x.1.1) ⟨(0, ow), by omega, ho, rfl, rfl⟩ ?_ ?_
  ·first | exact wc [1, 3, 56, 57, 58] [0, 1, 2]
  rintro ⟨⟨i, o⟩, hi, hoo, hal, hof⟩
  dsimp only at hi hoo hal hof ⊢
  clear ho
  by_cases hil : i < (bodiesL p).length
  ·have d2 : decide ((i : Int) < ((bodiesL p).length : Int)) = true := decide_eq_true (by omega)
   have a0 := isBlk_ok p ((bodiesL p).getD i 0) (by omega)
   rw [all_drop (z := (0 : Int)) hil] at hal
   cases q : isBlkB p ((bodiesL p).getD i 0)
   ·rw [q] at a0 hal
    rw [Bool.false_and] at hal
    rw [← hal, if_pos rfl] at hres
    subst hres
    clear hal hof q
    simp (disch := omega) only [go_sem]
    exact wk
   have hin : isNodeB p ((bodiesL p).getD i 0) = true := by
    cases hq : isNodeB p ((bodiesL p).getD i 0)
    ·unfold isBlkB at q; rw [hq, if_neg (by simp)] at q; cases q
    ·rfl
   obtain ⟨b0, b1⟩ := isNodeB_in hin
   rw [q] at a0 hal
   rw [Bool.true_and] at hal
   rw [fold_drop (z := (0 : Int)) hil] at hof
   have hbo := bump_ok (x := (bodiesL p).getD i 0) hoo
   have hle := hoo.len
   clear hin q
   obtain ⟨x, hx⟩ : ∃ x, (bodiesL p).getD i 0 = x := ⟨_, rfl⟩
   rw [hx] at b0 b1 hof hbo a0
   obtain ⟨y0, y1⟩ := hoo.bd x.toNat
   have hbu : bump o x = o.set x.toNat (o.getD x.toNat 0 + 1) := rfl
   obtain ⟨y, hy⟩ : ∃ y, o.getD x.toNat 0 = y := ⟨_, rfl⟩
   rw [hy] at y0 y1 hbu
   obtain ⟨O2, hO2⟩ : ∃ z, bump o x = z := ⟨_, rfl⟩
   rw [hO2] at hbu hof hbo
   have hbu2 := hbu.symm
   have hxl : x.toNat < o.length := by omega
   clear hbu hO2 hres hoo
   simp (disch := omega) only [go_sem]
   refine wkc ?_
   all_goals refine ⟨⟨(i + 1, O2), by omega, hbo, hal, hof⟩, ?_, by simp only; omega⟩
   all_goals first | exact wc [1, 3, 56, 57, 58] [0, 1, 2]
  ·have d2 : decide ((i : Int) < ((bodiesL p).length : Int)) = false := decide_eq_false (by omega)
   have ek : (bodiesL p).drop i = [] := List.drop_eq_nil_of_le (by omega)
   rw [ek] at hal hof
   have he2 : o = (bodiesL p).foldl bump ow := hof
   rw [← hal, show ([] : List Int).all (isBlkB p) = true from rfl, if_neg (by simp), ← he2] at hres
   have hle := hoo.len
   have a0 := hasFuncI_ok (fun x => x != 1) 109 o (by omega) (fun x _ => notOne_ok x)
   obtain ⟨ab, hab⟩ : ∃ b, (o.any fun x => x != 1) = b := ⟨_, rfl⟩
   rw [hab] at a0 hres
   have etk : o.take p.nodes.length = o := List.take_of_length_le (by omega)
   clear hal hof ek he2 hab hoo
   simp (disch := omega) only [go_sem]
   exact wk
end Go.Proofs.YtejnpiielcbkkaaGreat.E
