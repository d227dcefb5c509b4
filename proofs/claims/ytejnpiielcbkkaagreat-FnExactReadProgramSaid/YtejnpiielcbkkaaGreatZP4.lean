/- A part of what stands under the laws of this seat: an abstract evaluator that is proved sound, and contracts of functions by it. No condition beside those that stand in each statement. -/
import Derived.Test.YtejnpiielcbkkaaGreatZP1
import Derived.Test.YtejnpiielcbkkaaGreatZP3
set_option linter.unusedVariables false
set_option linter.unusedSimpArgs false
set_option maxRecDepth 100000
set_option maxHeartbeats 4000000
namespace Go.Proofs.YtejnpiielcbkkaaGreat.E
def idxI (xs : List Int) (x : Int) : Int := if hasI xs x = true then ((xs.takeWhile fun y => y != x).length : Int) else -1
theorem idxI_ge (xs : List Int) (x : Int) : decide (0 ≤ idxI xs x) = hasI xs x := by
 unfold idxI; cases hasI xs x <;> simp
theorem takeWhile_at {xs : List Int} {x : Int} : ∀ {k : Nat}, k < xs.length → hasI (xs.take k) x = false → (x == xs.getD k 0) = true → (xs.takeWhile fun y => y != x).length = k := by
 induction xs with
 | nil => intro k hk; simp at hk
 | cons y ys ih =>
  intro k hk hp hx
  cases k with
  | zero =>
   have : x = y := by simpa using hx
   simp [this]
  | succ k =>
   simp only [List.take_succ_cons, hasI, List.any_cons, Bool.or_eq_false_iff] at hp
   have hne : (y != x) = true := by simp [bne, hp.1]
   rw [List.takeWhile_cons, if_pos hne, List.length_cons]
   congr 1
   exact ih (by simpa using hk) (by simpa [hasI] using hp.2) (by simpa using hx)
theorem idxI_at {xs : List Int} {x : Int} {k : Nat} (hk : k < xs.length) (hp : hasI (xs.take k) x = false) (hx : (x == xs.getD k 0) = true) : idxI xs x = k := by
 have hh : hasI xs x = true := hasI_of hk (by rw [Bool.beq_comm]; exact hx)
 rw [idxI, if_pos hh, takeWhile_at hk hp hx]
theorem iIndex_ok (xs : List Int) (x : Int) (hs : xs.length ≤ 4398046511104) : CallOk Tryz.prog 224 [.one (.ro 1 (intsD xs)), .one (iV x)] (.s (.one (iV (idxI xs x)))) [none, none] := by
 refine cOh 40 (hBd Tryz.func224 rfl (by kernel_rfl) ?_)
 simp (disch := omega) only [go_sem, Tryz.ntmps224, Tryz.results224]
 refine wkc ?_
 refine i_loop (α := {k : Nat // k ≤ xs.length ∧ hasI (xs.take k) x = false}) (fun k => ⟨mkEnv 19 [(0, .one (.ro 1 (intsD xs))), (1, .one (iV x)), (7, .one (iV xs.length)), (8, .one (iV k.1))], []⟩) (fun k => xs.length - k.1) ⟨0, by omega, by simp [hasI]⟩ ?_ ?_
 ·exact wc [0, 1, 7, 8] []
 rintro ⟨k, hk, hp⟩
 simp (disch := omega) only [go_sem]
 repeat' (first | (with_reducible first | refine i_seq ?_) | ((first | (with_reducible first | refine iBk ?_ | refine iRQ (fun Q' hQ => ?_) | (refine Imp.go hQ ?_; clear hQ)) | ((with_reducible refine i_condT ?_ ?_); (focus (simp only [go_sem, *]; done))) | ((with_reducible refine i_condF ?_ ?_); (focus (simp only [go_sem, *]; done))) | ((with_reducible first | refine rOg (fun h => ?_) (fun h => ?_) | refine i_cond (by simp only [go_sem, *] <;> rfl) (fun h => ?_) (fun h => ?_)) <;> (try simp only [nqA, nqB, nqC, reduceCtorEq] at h) <;> (try have h' := odT h) <;> (try (have hz : (_ : Int) = (_ : Int) := h'; clear hz h')) <;> (try have h' := odF h) <;> (try have h' := inB_t h) <;> (try (exfalso; omega)))) <;> (try simp (disch := omega) only [go_sem, *])))
 all_goals (try simp (disch := omega) only [EndK, go_sem, nLo, *])
 ·have h1 := idxI_at (xs := xs) (x := x) (k := k) (by omega) hp ‹_›
  simp_all
 ·refine ⟨⟨k + 1, by omega, ?_⟩, wc [0, 1, 7, 8] [], by simp only; omega⟩
  rw [hasI_take (by omega), hp, Bool.beq_comm]; simpa using ‹(x == xs.getD k 0) = false›
 ·have hx : hasI xs x = false := by rw [← hp, List.take_of_length_le (by omega)]
  rw [idxI, hx]; rfl
theorem iHas_ok (xs : List Int) (x : Int) (hs : xs.length ≤ 4398046511104) : CallOk Tryz.prog 175 [.one (.ro 1 (intsD xs)), .one (iV x)] (.s (.one (bV (hasI xs x)))) [none, none] := by
 have hi := idxI_ge xs x
 refine cOh 40 (hBd Tryz.func175 rfl (by kernel_rfl) ?_)
 simp (disch := omega) only [go_sem, Tryz.ntmps175, Tryz.results175]
 have x1 := iIndex_ok xs x hs
 exact wk
/-! A node. -/
def kindB (c : Int) : Bool := if inB c 1 5 = true then true else inB c 11 20
def distF (kids : List Int) (k : Int) : Nat → Nat → Bool
 | 0, _ => true
 | n + 1, j => if inB (kids.getD j 0) 0 (k - 1) = false then false else if hasI (kids.take j) (kids.getD j 0) = true then false else distF kids k n (j + 1)
def distB (kids : List Int) (k : Int) : Bool := distF kids k kids.length 0
def nodeB (p : Prgm) (k : Int) : Bool :=
 if isNodeB p k = false then false
 else if kindB (ndAt p k).kind = false then false
 else if distB (ndAt p k).kids k = false then false
 else if kidsB p (ndAt p k) = false then false
 else namesB (ndAt p k)
theorem iNode_ok (p : Prgm) (k : Int) (hN : p.nodes.length ≤ 1048576) (hS : ∀ y ∈ p.nodes, smNode y) (hk : -1048576 ≤ k ∧ k ≤ 1048576) : CallOk Tryz.prog 104 [.agg (programR p), .one (iV k)] (.s (.one (bV (nodeB p k)))) [none, none] := by
 have c0 := isNode_ok p k hN
 cases h0 : isNodeB p k
 ·have hB : nodeB p k = false := by unfold nodeB; rw [h0, if_pos rfl]
  rw [hB]
  rw [h0] at c0
  refine cOh 40 (hBd Tryz.func104 rfl (by kernel_rfl) ?_)
  simp (disch := omega) only [go_sem, Tryz.ntmps104, Tryz.results104]
  exact wk
 obtain ⟨k0, k1⟩ := isNodeB_in h0
 have hB : nodeB p k = if kindB (p.nodes.getD k.toNat nodeZ).kind = false then false else if distB (p.nodes.getD k.toNat nodeZ).kids k = false then false else if kidsB p (p.nodes.getD k.toNat nodeZ) = false then false else namesB (p.nodes.getD k.toNat nodeZ) := by unfold nodeB ndAt; rw [h0, if_neg (by simp)]
 rw [hB]
 clear hB
 rw [h0] at c0
 have hm : p.nodes.getD k.toNat nodeZ ∈ p.nodes := by rw [List.getD_eq_getElem?_getD, List.getElem?_eq_getElem k1]; exact List.getElem_mem k1
 obtain ⟨s1, s2, s3, s4⟩ := hS _ hm
 clear hS hm
 have c1 := within_ok (p.nodes.getD k.toNat nodeZ).kind 1 5
 have c2 := within_ok (p.nodes.getD k.toNat nodeZ).kind 11 20
 have c3 := iKids_ok p (p.nodes.getD k.toNat nodeZ) hN s4
 have c4 := iNames_ok (p.nodes.getD k.toNat nodeZ) s1 s2 s3
 cases h1 : inB (p.nodes.getD k.toNat nodeZ).kind 1 5 <;> cases h2 : inB (p.nodes.getD k.toNat nodeZ).kind 11 20
 ·have hq : kindB (p.nodes.getD k.toNat nodeZ).kind = false := by unfold kindB; rw [h1, h2]; rfl
  rw [hq, if_pos rfl]
  rw [h1] at c1
  rw [h2] at c2
  clear c3 c4
  refine cOh 40 (hBd Tryz.func104 rfl (by kernel_rfl) ?_)
  simp (disch := omega) only [go_sem, Tryz.ntmps104, Tryz.results104]
  have x1 : HC 1 _ := ⟨c1⟩
  have x2 : HC 2 _ := ⟨c2⟩
  exact wk
 all_goals
  have hq : kindB (p.nodes.getD k.toNat nodeZ).kind = true := by unfold kindB; rw [h1, h2]; rfl
  rw [hq, if_neg (by simp)]
  rw [h1] at c1
  rw [h2] at c2
  clear h1 h2 hq
  obtain ⟨res, hres⟩ : ∃ res, (if distB (p.nodes.getD k.toNat nodeZ).kids k = false then false else if kidsB p (p.nodes.getD k.toNat nodeZ) = false then false else namesB (p.nodes.getD k.toNat nodeZ)) = res := ⟨_, rfl⟩
  rw [hres]
  have hdb : distB (p.nodes.getD k.toNat nodeZ).kids k = distF (p.nodes.getD k.toNat nodeZ).kids k (p.nodes.getD k.toNat nodeZ).kids.length 0 := rfl
  refine cOh 40 (hBd Tryz.func104 rfl (by kernel_rfl) ?_)
  simp (disch := omega) only [go_sem, Tryz.ntmps104, Tryz.results104]
  have x1 : HC 1 _ := ⟨c1⟩
  have x2 : HC 2 _ := ⟨c2⟩
  refine wkc ?_
  refine i_loop (α := {j : Nat // j ≤ (p.nodes.getD k.toNat nodeZ).kids.length ∧ distF (p.nodes.getD k.toNat nodeZ).kids k ((p.nodes.getD k.toNat nodeZ).kids.length - j) j = distB (p.nodes.getD k.toNat nodeZ).kids k}) (fun j => ⟨mkEnv 56 [(1, .one (iV k)), (2, .one (.ptr 0 0 0)), (5, .one (.ptr 1 0 0)), (28, .one (.ro 1 (intsD (p.nodes.getD k.toNat nodeZ).kids))), (29, .one (iV (p.nodes.getD k.toNat nodeZ).kids.length)), (30, .one (iV j.1))], [.live 3 [programR p], .live 6 [nodeR (p.nodes.getD k.toNat nodeZ)]]⟩) (fun j => (p.nodes.getD k.toNat nodeZ).kids.length - j.1) ⟨0, by omega, hdb.symm⟩ ?_ ?_
  ·first | exact wc [1, 2, 5, 28, 29, 30] [0, 1]
  clear c0 c1 c2 hdb
  rintro ⟨j, hj, he⟩
  dsimp only at hj he ⊢
  by_cases hjl : j < (p.nodes.getD k.toNat nodeZ).kids.length
  ·have d1 : decide ((j : Int) < ((p.nodes.getD k.toNat nodeZ).kids.length : Int)) = true := decide_eq_true (by omega)
   have c5 := within_ok ((p.nodes.getD k.toNat nodeZ).kids.getD j 0) 0 (k - 1)
   have c6 := iHas_ok ((p.nodes.getD k.toNat nodeZ).kids.take j) ((p.nodes.getD k.toNat nodeZ).kids.getD j 0) (by rw [List.length_take]; omega)
   have hst : (p.nodes.getD k.toNat nodeZ).kids.length - j = ((p.nodes.getD k.toNat nodeZ).kids.length - (j + 1)) + 1 := by omega
   rw [hst, distF] at he
   clear hst c3 c4
   cases q1 : inB ((p.nodes.getD k.toNat nodeZ).kids.getD j 0) 0 (k - 1)
   ·rw [q1] at c5 he
    rw [if_pos rfl] at he
    rw [← he, if_pos rfl] at hres
    subst hres
    clear he c6 q1
    simp (disch := omega) only [go_sem]
    exact wk
   ·rw [q1] at c5 he
    rw [if_neg (by simp)] at he
    cases q2 : hasI ((p.nodes.getD k.toNat nodeZ).kids.take j) ((p.nodes.getD k.toNat nodeZ).kids.getD j 0)
    ·rw [q2] at c6 he
     rw [if_neg (by simp)] at he
     clear hres q1 q2
     simp (disch := omega) only [go_sem]
     refine wkc ?_
     all_goals refine ⟨⟨j + 1, by omega, he⟩, ?_, by simp only; omega⟩
     all_goals first | exact wc [1, 2, 5, 28, 29, 30] [0, 1]
    ·rw [q2] at c6 he
     rw [if_pos rfl] at he
     rw [← he, if_pos rfl] at hres
     subst hres
     clear he q1 q2
     simp (disch := omega) only [go_sem]
     exact wk
  ·have d1 : decide ((j : Int) < ((p.nodes.getD k.toNat nodeZ).kids.length : Int)) = false := decide_eq_false (by omega)
   have hst : (p.nodes.getD k.toNat nodeZ).kids.length - j = 0 := by omega
   rw [hst] at he
   rw [← he, show distF (p.nodes.getD k.toNat nodeZ).kids k 0 j = true from rfl, if_neg (by simp)] at hres
   clear he hst
   cases q3 : kidsB p (p.nodes.getD k.toNat nodeZ)
   ·rw [q3] at c3 hres
    rw [if_pos rfl] at hres
    subst hres
    clear c4 q3
    simp (disch := omega) only [go_sem]
    exact wk
   ·rw [q3] at c3 hres
    rw [if_neg (by simp)] at hres
    rw [hres] at c4
    clear hres q3
    simp (disch := omega) only [go_sem]
    exact wk
end Go.Proofs.YtejnpiielcbkkaaGreat.E
