/- A part of what stands under the laws of this seat: an abstract evaluator that is proved sound, and contracts of functions by it. No condition beside those that stand in each statement. -/
import Derived.Test.YtejnpiielcbkkaaGreatZP1
import Derived.Test.YtejnpiielcbkkaaGreatZR24
set_option linter.unusedVariables false
set_option linter.unusedSimpArgs false
set_option maxRecDepth 100000
set_option maxHeartbeats 4000000
namespace Go.Proofs.YtejnpiielcbkkaaGreat.E
/-! Kids of a node. -/
def kidsL (p : Prgm) (v : Int) : List Int → Int → Bool
 | [], _ => true
 | k :: ks, i => if decide (i < v) = true then (if isValB p k = false then false else kidsL p v ks (i + 1)) else (if isBlkB p k = false then false else kidsL p v ks (i + 1))
def stL (p : Prgm) : List Int → Bool
 | [] => true
 | k :: ks => if isStB p k = false then false else stL p ks
def finB (p : Prgm) (kids : List Int) (v b : Int) : Bool := if ((kids.length : Int) != v + b) = true then false else kidsL p v kids 0
def valsK (k : Int) : Int := if k = 3 then 2 else if k = 4 ∨ k = 5 ∨ k = 11 ∨ k = 14 ∨ k = 15 ∨ k = 12 ∨ k = 13 then 1 else 0
def blksK (k : Int) (len : Nat) : Int := if k = 12 then (len : Int) - 1 else if k = 13 then 1 else 0
def kidsB (p : Prgm) (n : Node) : Bool :=
 if n.kind = 12 ∧ inB ((n.kids.length : Int) - 1) 1 2 = false then false
 else if n.kind = 20 then (if stL p n.kids = false then false else inB n.kids.length 1 12)
 else finB p n.kids (valsK n.kind) (blksK n.kind n.kids.length)
theorem kidsL_drop {p : Prgm} {v : Int} {ks : List Int} {j : Nat} {i : Int} (h : j < ks.length) : kidsL p v (ks.drop j) i = if decide (i < v) = true then (if isValB p (ks.getD j 0) = false then false else kidsL p v (ks.drop (j + 1)) (i + 1)) else (if isBlkB p (ks.getD j 0) = false then false else kidsL p v (ks.drop (j + 1)) (i + 1)) := by
 rw [List.drop_eq_getElem_cons h, List.getD_eq_getElem?_getD, List.getElem?_eq_getElem h]
 rfl
theorem stL_drop {p : Prgm} {ks : List Int} {j : Nat} (h : j < ks.length) : stL p (ks.drop j) = if isStB p (ks.getD j 0) = false then false else stL p (ks.drop (j + 1)) := by
 rw [List.drop_eq_getElem_cons h, List.getD_eq_getElem?_getD, List.getElem?_eq_getElem h]
 rfl
theorem iKids_ok (p : Prgm) (n : Node) (hN : p.nodes.length ≤ 1048576) (hK : n.kids.length ≤ 1048576) : CallOk Tryz.prog 176 [.agg (programR p), .agg (nodeR n)] (.s (.one (bV (kidsB p n)))) [none, none] := by
 obtain ⟨kind, num, name, more, to, kids⟩ := n
 dsimp only at hK
 have hB : kidsB p ⟨kind, num, name, more, to, kids⟩ = if kind = 12 ∧ inB ((kids.length : Int) - 1) 1 2 = false then false else if kind = 20 then (if stL p kids = false then false else inB kids.length 1 12) else finB p kids (valsK kind) (blksK kind kids.length) := rfl
 rw [hB]
 clear hB
 by_cases k20 : kind = 20
 ·subst k20
  rw [if_neg (by simp), if_pos rfl]
  have hw := within_ok (kids.length : Int) 1 12
  obtain ⟨res, hres⟩ : ∃ res, (if stL p kids = false then false else inB (kids.length : Int) 1 12) = res := ⟨_, rfl⟩
  rw [hres]
  refine cOh 40 (hBd Tryz.func176 rfl (by kernel_rfl) ?_)
  simp (disch := omega) only [go_sem, Tryz.ntmps176, Tryz.results176]
  have x1 : HT 12 (.fr [0, 1, 2, 3, 4, 5] (.stop)) := ⟨⟩
  refine wkci ?_
  refine i_hide fun Q hE => ?_
  refine i_loop (α := {j : Nat // j ≤ kids.length ∧ stL p (kids.drop j) = stL p kids}) (fun j => ⟨mkEnv 86 [(2, .one (.ptr 0 0 0)), (3, .one (.ptr 1 0 0)), (35, .one (.ro 1 (intsD kids))), (36, .one (iV kids.length)), (37, .one (iV j.1))], [.live 3 [programR p], .live 6 [nodeR ⟨(20 : Int), num, name, more, to, kids⟩]]⟩) (fun j => kids.length - j.1) ⟨0, by omega, rfl⟩ ?_ ?_
  ·first | exact wc [2, 3, 35, 36, 37] [0, 1]
  rintro ⟨j, hj, he⟩
  dsimp only at hj he ⊢
  by_cases hjl : j < kids.length
  ·have d1 : decide ((j : Int) < (kids.length : Int)) = true := decide_eq_true (by omega)
   have hs := isSt_ok p (kids.getD j 0) hN
   rw [stL_drop hjl] at he
   cases q : isStB p (kids.getD j 0)
   ·rw [q] at hs he
    rw [if_pos rfl] at he
    rw [← he, if_pos rfl] at hres
    subst hres
    clear hw he
    simp (disch := omega) only [go_sem]
    have x1 : HT 12 (.fr [0, 1, 2, 3, 4, 5] (.stop)) := ⟨⟩
    exact wk
   ·rw [q] at hs he
    rw [if_neg (by simp)] at he
    clear hw hres
    simp (disch := omega) only [go_sem]
    have x1 : HT 12 (.fr [0, 1, 2, 3, 4, 5] (.stop)) := ⟨⟩
    refine wkc ?_
    all_goals refine ⟨⟨j + 1, by omega, he⟩, ?_, by simp only; omega⟩
    all_goals first | exact wc [2, 3, 35, 36, 37] [0, 1]
  ·have d1 : decide ((j : Int) < (kids.length : Int)) = false := decide_eq_false (by omega)
   have ek : kids.drop j = [] := List.drop_eq_nil_of_le (by omega)
   rw [ek] at he
   rw [← he, if_neg (by simp [stL])] at hres
   rw [hres] at hw
   clear he hres
   simp (disch := omega) only [go_sem]
   have x1 : HT 12 (.fr [0, 1, 2, 3, 4, 5] (.stop)) := ⟨⟩
   exact wk
 by_cases k12b : kind = 12 ∧ inB ((kids.length : Int) - 1) 1 2 = false
 ·rw [if_pos k12b]
  obtain ⟨k12, q⟩ := k12b
  subst k12
  have hw := within_ok ((kids.length : Int) - 1) 1 2
  rw [q] at hw
  clear k20 q
  refine cOh 40 (hBd Tryz.func176 rfl (by kernel_rfl) ?_)
  simp (disch := omega) only [go_sem, Tryz.ntmps176, Tryz.results176]
  have x1 : HT 12 (.fr [0, 1, 2, 3, 4, 5] (.stop)) := ⟨⟩
  exact wki
 rw [if_neg k12b, if_neg k20]
 refine cOh 40 (hcall_of_bodyS Tryz.func176 rfl (by kernel_rfl) ?_)
 simp (disch := omega) only [go_sem, Tryz.ntmps176, Tryz.results176]
 refine s_cut ⟨mkEnv 86 [(2, .one (.ptr 0 0 0)), (3, .one (.ptr 1 0 0))], [.live 3 [programR p], .live 6 [nodeR ⟨kind, num, name, more, to, kids⟩]]⟩ ?_ ?_
 ·
  have x1 : HT 12 (.fr [0, 1, 2, 3, 4, 5] (.stop)) := ⟨⟩
  have x2 : HW 0 [2, 3] [0, 1] := ⟨⟩
  exact wkz
 refine s_cut ⟨mkEnv 86 [(2, .one (.ptr 0 0 0)), (3, .one (.ptr 1 0 0)), (5, .one (iV 0)), (6, .one (iV 0))], [.live 3 [programR p], .live 6 [nodeR ⟨kind, num, name, more, to, kids⟩]]⟩ ?_ ?_
 ·simp (disch := omega) only [go_sem]
  have x1 : HT 12 (.fr [0, 1, 2, 3, 4, 5] (.stop)) := ⟨⟩
  have x2 : HW 0 [2, 3, 5, 6] [0, 1] := ⟨⟩
  exact wkz
 refine s_cut ⟨mkEnv 86 [(2, .one (.ptr 0 0 0)), (3, .one (.ptr 1 0 0)), (5, .one (iV (valsK kind))), (6, .one (iV (blksK kind kids.length)))], [.live 3 [programR p], .live 6 [nodeR ⟨kind, num, name, more, to, kids⟩]]⟩ ?_ ?_
 ·by_cases k3 : kind = 3
  ·subst k3
   have e1 : valsK 3 = 2 := rfl
   have e2 : blksK 3 kids.length = 0 := rfl
   simp (disch := omega) only [go_sem]
   have x1 : HT 12 (.fr [0, 1, 2, 3, 4, 5] (.stop)) := ⟨⟩
   have x2 : HW 0 [2, 3, 5, 6] [0, 1] := ⟨⟩
   exact wkz
  by_cases k4 : kind = 4
  ·subst k4
   have e1 : valsK 4 = 1 := rfl
   have e2 : blksK 4 kids.length = 0 := rfl
   simp (disch := omega) only [go_sem]
   repeat' (first | (with_reducible first | refine i_seq ?_ | exact tr_none | refine tr_stop ?_ | refine i_treeQ (id := 12) (.fr [0, 1, 2, 3, 4, 5] (.stop)) mixedT (by kernel_rfl) (fun Q' hQ => ?_)) | ((first | (with_reducible first | refine iBk ?_ | refine iRQ (fun Q' hQ => ?_) | (refine Imp.go hQ ?_; clear hQ) | (refine ImpE.go hE ?_; clear hE) | refine tr_fr ?_ | refine tr_op (aLr ?_) | refine tr_alt (by kernel_rfl) (aLr ?_) ?_ | refine tr_altp ?_ ?_) | ((with_reducible refine i_condT ?_ ?_); (focus (simp only [go_sem, *]; done))) | ((with_reducible refine i_condF ?_ ?_); (focus (simp only [go_sem, *]; done))) | ((with_reducible first | refine rOg (fun h => ?_) (fun h => ?_) | refine pG_split (fun h => ?_) (fun h => ?_) | refine i_cond (by simp only [go_sem, *] <;> rfl) (fun h => ?_) (fun h => ?_)) <;> (try simp only [nqA, nqB, nqC, reduceCtorEq] at h) <;> (try have h' := odT h) <;> (try (have hz : (_ : Int) = (_ : Int) := h'; clear hz h')) <;> (try have h' := odF h) <;> (try have h' := inB_t h) <;> (try (exfalso; omega)))) <;> (try simp (disch := omega) only [go_sem, Int.reduceBEq, reduceCtorEq, *])))
   all_goals (try simp (disch := omega) only [EndK, go_sem, Int.reduceBEq, reduceCtorEq, nLo, *])
   all_goals first | (refine wCn [2, 3, 5, 6] [0, 1] ?_ ?_ ?_ <;> (simp (disch := omega) only [go_sem, e1, e2]; done))
  by_cases k5 : kind = 5
  ·subst k5
   have e1 : valsK 5 = 1 := rfl
   have e2 : blksK 5 kids.length = 0 := rfl
   simp (disch := omega) only [go_sem]
   repeat' (first | (with_reducible first | refine i_seq ?_ | exact tr_none | refine tr_stop ?_ | refine i_treeQ (id := 12) (.fr [0, 1, 2, 3, 4, 5] (.stop)) mixedT (by kernel_rfl) (fun Q' hQ => ?_)) | ((first | (with_reducible first | refine iBk ?_ | refine iRQ (fun Q' hQ => ?_) | (refine Imp.go hQ ?_; clear hQ) | (refine ImpE.go hE ?_; clear hE) | refine tr_fr ?_ | refine tr_op (aLr ?_) | refine tr_alt (by kernel_rfl) (aLr ?_) ?_ | refine tr_altp ?_ ?_) | ((with_reducible refine i_condT ?_ ?_); (focus (simp only [go_sem, *]; done))) | ((with_reducible refine i_condF ?_ ?_); (focus (simp only [go_sem, *]; done))) | ((with_reducible first | refine rOg (fun h => ?_) (fun h => ?_) | refine pG_split (fun h => ?_) (fun h => ?_) | refine i_cond (by simp only [go_sem, *] <;> rfl) (fun h => ?_) (fun h => ?_)) <;> (try simp only [nqA, nqB, nqC, reduceCtorEq] at h) <;> (try have h' := odT h) <;> (try (have hz : (_ : Int) = (_ : Int) := h'; clear hz h')) <;> (try have h' := odF h) <;> (try have h' := inB_t h) <;> (try (exfalso; omega)))) <;> (try simp (disch := omega) only [go_sem, Int.reduceBEq, reduceCtorEq, *])))
   all_goals (try simp (disch := omega) only [EndK, go_sem, Int.reduceBEq, reduceCtorEq, nLo, *])
   all_goals first | (refine wCn [2, 3, 5, 6] [0, 1] ?_ ?_ ?_ <;> (simp (disch := omega) only [go_sem, e1, e2]; done))
  by_cases k11 : kind = 11
  ·subst k11
   have e1 : valsK 11 = 1 := rfl
   have e2 : blksK 11 kids.length = 0 := rfl
   simp (disch := omega) only [go_sem]
   repeat' (first | (with_reducible first | refine i_seq ?_ | exact tr_none | refine tr_stop ?_ | refine i_treeQ (id := 12) (.fr [0, 1, 2, 3, 4, 5] (.stop)) mixedT (by kernel_rfl) (fun Q' hQ => ?_)) | ((first | (with_reducible first | refine iBk ?_ | refine iRQ (fun Q' hQ => ?_) | (refine Imp.go hQ ?_; clear hQ) | (refine ImpE.go hE ?_; clear hE) | refine tr_fr ?_ | refine tr_op (aLr ?_) | refine tr_alt (by kernel_rfl) (aLr ?_) ?_ | refine tr_altp ?_ ?_) | ((with_reducible refine i_condT ?_ ?_); (focus (simp only [go_sem, *]; done))) | ((with_reducible refine i_condF ?_ ?_); (focus (simp only [go_sem, *]; done))) | ((with_reducible first | refine rOg (fun h => ?_) (fun h => ?_) | refine pG_split (fun h => ?_) (fun h => ?_) | refine i_cond (by simp only [go_sem, *] <;> rfl) (fun h => ?_) (fun h => ?_)) <;> (try simp only [nqA, nqB, nqC, reduceCtorEq] at h) <;> (try have h' := odT h) <;> (try (have hz : (_ : Int) = (_ : Int) := h'; clear hz h')) <;> (try have h' := odF h) <;> (try have h' := inB_t h) <;> (try (exfalso; omega)))) <;> (try simp (disch := omega) only [go_sem, Int.reduceBEq, reduceCtorEq, *])))
   all_goals (try simp (disch := omega) only [EndK, go_sem, Int.reduceBEq, reduceCtorEq, nLo, *])
   all_goals first | (refine wCn [2, 3, 5, 6] [0, 1] ?_ ?_ ?_ <;> (simp (disch := omega) only [go_sem, e1, e2]; done))
  by_cases k14 : kind = 14
  ·subst k14
   have e1 : valsK 14 = 1 := rfl
   have e2 : blksK 14 kids.length = 0 := rfl
   simp (disch := omega) only [go_sem]
   repeat' (first | (with_reducible first | refine i_seq ?_ | exact tr_none | refine tr_stop ?_ | refine i_treeQ (id := 12) (.fr [0, 1, 2, 3, 4, 5] (.stop)) mixedT (by kernel_rfl) (fun Q' hQ => ?_)) | ((first | (with_reducible first | refine iBk ?_ | refine iRQ (fun Q' hQ => ?_) | (refine Imp.go hQ ?_; clear hQ) | (refine ImpE.go hE ?_; clear hE) | refine tr_fr ?_ | refine tr_op (aLr ?_) | refine tr_alt (by kernel_rfl) (aLr ?_) ?_ | refine tr_altp ?_ ?_) | ((with_reducible refine i_condT ?_ ?_); (focus (simp only [go_sem, *]; done))) | ((with_reducible refine i_condF ?_ ?_); (focus (simp only [go_sem, *]; done))) | ((with_reducible first | refine rOg (fun h => ?_) (fun h => ?_) | refine pG_split (fun h => ?_) (fun h => ?_) | refine i_cond (by simp only [go_sem, *] <;> rfl) (fun h => ?_) (fun h => ?_)) <;> (try simp only [nqA, nqB, nqC, reduceCtorEq] at h) <;> (try have h' := odT h) <;> (try (have hz : (_ : Int) = (_ : Int) := h'; clear hz h')) <;> (try have h' := odF h) <;> (try have h' := inB_t h) <;> (try (exfalso; omega)))) <;> (try simp (disch := omega) only [go_sem, Int.reduceBEq, reduceCtorEq, *])))
   all_goals (try simp (disch := omega) only [EndK, go_sem, Int.reduceBEq, reduceCtorEq, nLo, *])
   all_goals first | (refine wCn [2, 3, 5, 6] [0, 1] ?_ ?_ ?_ <;> (simp (disch := omega) only [go_sem, e1, e2]; done))
  by_cases k15 : kind = 15
  ·subst k15
   have e1 : valsK 15 = 1 := rfl
   have e2 : blksK 15 kids.length = 0 := rfl
   simp (disch := omega) only [go_sem]
   repeat' (first | (with_reducible first | refine i_seq ?_ | exact tr_none | refine tr_stop ?_ | refine i_treeQ (id := 12) (.fr [0, 1, 2, 3, 4, 5] (.stop)) mixedT (by kernel_rfl) (fun Q' hQ => ?_)) | ((first | (with_reducible first | refine iBk ?_ | refine iRQ (fun Q' hQ => ?_) | (refine Imp.go hQ ?_; clear hQ) | (refine ImpE.go hE ?_; clear hE) | refine tr_fr ?_ | refine tr_op (aLr ?_) | refine tr_alt (by kernel_rfl) (aLr ?_) ?_ | refine tr_altp ?_ ?_) | ((with_reducible refine i_condT ?_ ?_); (focus (simp only [go_sem, *]; done))) | ((with_reducible refine i_condF ?_ ?_); (focus (simp only [go_sem, *]; done))) | ((with_reducible first | refine rOg (fun h => ?_) (fun h => ?_) | refine pG_split (fun h => ?_) (fun h => ?_) | refine i_cond (by simp only [go_sem, *] <;> rfl) (fun h => ?_) (fun h => ?_)) <;> (try simp only [nqA, nqB, nqC, reduceCtorEq] at h) <;> (try have h' := odT h) <;> (try (have hz : (_ : Int) = (_ : Int) := h'; clear hz h')) <;> (try have h' := odF h) <;> (try have h' := inB_t h) <;> (try (exfalso; omega)))) <;> (try simp (disch := omega) only [go_sem, Int.reduceBEq, reduceCtorEq, *])))
   all_goals (try simp (disch := omega) only [EndK, go_sem, Int.reduceBEq, reduceCtorEq, nLo, *])
   all_goals first | (refine wCn [2, 3, 5, 6] [0, 1] ?_ ?_ ?_ <;> (simp (disch := omega) only [go_sem, e1, e2]; done))
  by_cases k12 : kind = 12
  ·subst k12
   have q : inB ((kids.length : Int) - 1) 1 2 = true := by cases q : inB ((kids.length : Int) - 1) 1 2; exact absurd ⟨rfl, q⟩ k12b; rfl
   have hw := within_ok ((kids.length : Int) - 1) 1 2
   rw [q] at hw
   clear k12b q
   have e1 : valsK 12 = 1 := rfl
   have e2 : blksK 12 kids.length = (kids.length : Int) - 1 := rfl
   simp (disch := omega) only [go_sem]
   repeat' (first | (with_reducible first | refine i_seq ?_ | exact tr_none | refine tr_stop ?_ | refine i_treeQ (id := 12) (.fr [0, 1, 2, 3, 4, 5] (.stop)) mixedT (by kernel_rfl) (fun Q' hQ => ?_)) | ((first | (with_reducible first | refine iBk ?_ | refine iRQ (fun Q' hQ => ?_) | (refine Imp.go hQ ?_; clear hQ) | (refine ImpE.go hE ?_; clear hE) | refine tr_fr ?_ | refine tr_op (aLr ?_) | refine tr_alt (by kernel_rfl) (aLr ?_) ?_ | refine tr_altp ?_ ?_) | ((with_reducible refine i_condT ?_ ?_); (focus (simp only [go_sem, *]; done))) | ((with_reducible refine i_condF ?_ ?_); (focus (simp only [go_sem, *]; done))) | ((with_reducible first | refine rOg (fun h => ?_) (fun h => ?_) | refine pG_split (fun h => ?_) (fun h => ?_) | refine i_cond (by simp only [go_sem, *] <;> rfl) (fun h => ?_) (fun h => ?_)) <;> (try simp only [nqA, nqB, nqC, reduceCtorEq] at h) <;> (try have h' := odT h) <;> (try (have hz : (_ : Int) = (_ : Int) := h'; clear hz h')) <;> (try have h' := odF h) <;> (try have h' := inB_t h) <;> (try (exfalso; omega))) | (((with_reducible first | refine hcO 40 true (hw) ?_ ?_ ?_ ?_ ?_); iterate 4 (focus (simp (disch := omega) only [go_sem, Int.reduceBEq, reduceCtorEq, nLo]; done))); simp only [go_sem, Int.reduceBEq, reduceCtorEq]; refine aLr ?_)) <;> (try simp (disch := omega) only [go_sem, Int.reduceBEq, reduceCtorEq, *])))
   all_goals (try simp (disch := omega) only [EndK, go_sem, Int.reduceBEq, reduceCtorEq, nLo, *])
   all_goals first | (refine wCn [2, 3, 5, 6] [0, 1] ?_ ?_ ?_ <;> (simp (disch := omega) only [go_sem, e1, e2]; done))
  by_cases k13 : kind = 13
  ·subst k13
   have e1 : valsK 13 = 1 := rfl
   have e2 : blksK 13 kids.length = 1 := rfl
   simp (disch := omega) only [go_sem]
   repeat' (first | (with_reducible first | refine i_seq ?_ | exact tr_none | refine tr_stop ?_ | refine i_treeQ (id := 12) (.fr [0, 1, 2, 3, 4, 5] (.stop)) mixedT (by kernel_rfl) (fun Q' hQ => ?_)) | ((first | (with_reducible first | refine iBk ?_ | refine iRQ (fun Q' hQ => ?_) | (refine Imp.go hQ ?_; clear hQ) | (refine ImpE.go hE ?_; clear hE) | refine tr_fr ?_ | refine tr_op (aLr ?_) | refine tr_alt (by kernel_rfl) (aLr ?_) ?_ | refine tr_altp ?_ ?_) | ((with_reducible refine i_condT ?_ ?_); (focus (simp only [go_sem, *]; done))) | ((with_reducible refine i_condF ?_ ?_); (focus (simp only [go_sem, *]; done))) | ((with_reducible first | refine rOg (fun h => ?_) (fun h => ?_) | refine pG_split (fun h => ?_) (fun h => ?_) | refine i_cond (by simp only [go_sem, *] <;> rfl) (fun h => ?_) (fun h => ?_)) <;> (try simp only [nqA, nqB, nqC, reduceCtorEq] at h) <;> (try have h' := odT h) <;> (try (have hz : (_ : Int) = (_ : Int) := h'; clear hz h')) <;> (try have h' := odF h) <;> (try have h' := inB_t h) <;> (try (exfalso; omega)))) <;> (try simp (disch := omega) only [go_sem, Int.reduceBEq, reduceCtorEq, *])))
   all_goals (try simp (disch := omega) only [EndK, go_sem, Int.reduceBEq, reduceCtorEq, nLo, *])
   all_goals first | (refine wCn [2, 3, 5, 6] [0, 1] ?_ ?_ ?_ <;> (simp (disch := omega) only [go_sem, e1, e2]; done))
  have b3 : (kind == 3) = false := beq_eq_false_iff_ne.2 k3
  have b4 : (kind == 4) = false := beq_eq_false_iff_ne.2 k4
  have b5 : (kind == 5) = false := beq_eq_false_iff_ne.2 k5
  have b11 : (kind == 11) = false := beq_eq_false_iff_ne.2 k11
  have b14 : (kind == 14) = false := beq_eq_false_iff_ne.2 k14
  have b15 : (kind == 15) = false := beq_eq_false_iff_ne.2 k15
  have b12 : (kind == 12) = false := beq_eq_false_iff_ne.2 k12
  have b13 : (kind == 13) = false := beq_eq_false_iff_ne.2 k13
  have b20 : (kind == 20) = false := beq_eq_false_iff_ne.2 k20
  have e1 : valsK kind = 0 := by unfold valsK; rw [if_neg k3, if_neg (by omega)]
  have e2 : blksK kind kids.length = 0 := by unfold blksK; rw [if_neg k12, if_neg k13]
  clear k12b
  simp (disch := omega) only [go_sem]
  have x1 : HT 12 (.fr [0, 1, 2, 3, 4, 5] (.stop)) := ⟨⟩
  have x2 : HW 0 [2, 3, 5, 6] [0, 1] := ⟨⟩
  exact wkz
 obtain ⟨v, hv⟩ : ∃ v, valsK kind = v := ⟨_, rfl⟩
 obtain ⟨b, hb⟩ : ∃ b, blksK kind kids.length = b := ⟨_, rfl⟩
 have v1 : 0 ≤ v ∧ v ≤ 2 := by rw [← hv]; unfold valsK; split; omega; split <;> omega
 have b1 : -1 ≤ b ∧ b ≤ 1048576 := by rw [← hb]; unfold blksK; split; omega; split <;> omega
 rw [hv, hb]
 clear hv hb k12b k20
 have hf : finB p kids v b = if ((kids.length : Int) != v + b) = true then false else kidsL p v kids 0 := rfl
 rw [hf]
 clear hf
 cases q0 : ((kids.length : Int) != v + b)
 ·rw [if_neg (by simp)]
  refine s_of_a ?_
  simp (disch := omega) only [go_sem]
  have x1 : HT 12 (.fr [0, 1, 2, 3, 4, 5] (.stop)) := ⟨⟩
  refine wkc ?_
  refine i_loop (α := {j : Nat // j ≤ kids.length ∧ kidsL p v (kids.drop j) j = kidsL p v kids 0}) (fun j => ⟨mkEnv 86 [(2, .one (.ptr 0 0 0)), (3, .one (.ptr 1 0 0)), (5, .one (iV v)), (6, .one (iV b)), (58, .one (.ro 1 (intsD kids))), (59, .one (iV kids.length)), (60, .one (iV j.1))], [.live 3 [programR p], .live 6 [nodeR ⟨kind, num, name, more, to, kids⟩]]⟩) (fun j => kids.length - j.1) ⟨0, by omega, rfl⟩ ?_ ?_
  ·first | exact wc [2, 3, 5, 6, 58, 59, 60] [0, 1]
  rintro ⟨j, hj, he⟩
  dsimp only at hj he ⊢
  clear q0
  by_cases hjl : j < kids.length
  ·have d1 : decide ((j : Int) < (kids.length : Int)) = true := decide_eq_true (by omega)
   rw [kidsL_drop hjl] at he
   have ej : ((j : Int) + 1) = ((j + 1 : Nat) : Int) := rfl
   rw [ej] at he
   clear ej
   cases d2 : decide ((j : Int) < v)
   ·have d3 : decide (v ≤ (j : Int)) = true := by have := of_decide_eq_false d2; exact decide_eq_true (by omega)
    have hs := isBlk_ok p (kids.getD j 0) hN
    rw [d2, if_neg (by simp)] at he
    cases q : isBlkB p (kids.getD j 0)
    ·rw [q] at hs he
     rw [if_pos rfl] at he
     rw [← he]
     clear he
     simp (disch := omega) only [go_sem]
     have x1 : HT 12 (.fr [0, 1, 2, 3, 4, 5] (.stop)) := ⟨⟩
     exact wk
    ·rw [q] at hs he
     rw [if_neg (by simp)] at he
     simp (disch := omega) only [go_sem]
     have x1 : HT 12 (.fr [0, 1, 2, 3, 4, 5] (.stop)) := ⟨⟩
     refine wkc ?_
     all_goals refine ⟨⟨j + 1, by omega, he⟩, ?_, by simp only; omega⟩
     all_goals first | exact wc [2, 3, 5, 6, 58, 59, 60] [0, 1]
   ·have d3 : decide (v ≤ (j : Int)) = false := by have := of_decide_eq_true d2; exact decide_eq_false (by omega)
    have hs := isVal_ok p (kids.getD j 0) hN
    rw [d2, if_pos rfl] at he
    cases q : isValB p (kids.getD j 0)
    ·rw [q] at hs he
     rw [if_pos rfl] at he
     rw [← he]
     clear he
     simp (disch := omega) only [go_sem]
     have x1 : HT 12 (.fr [0, 1, 2, 3, 4, 5] (.stop)) := ⟨⟩
     exact wk
    ·rw [q] at hs he
     rw [if_neg (by simp)] at he
     simp (disch := omega) only [go_sem]
     have x1 : HT 12 (.fr [0, 1, 2, 3, 4, 5] (.stop)) := ⟨⟩
     refine wkc ?_
     all_goals refine ⟨⟨j + 1, by omega, he⟩, ?_, by simp only; omega⟩
     all_goals first | exact wc [2, 3, 5, 6, 58, 59, 60] [0, 1]
  ·have d1 : decide ((j : Int) < (kids.length : Int)) = false := decide_eq_false (by omega)
   have ek : kids.drop j = [] := List.drop_eq_nil_of_le (by omega)
   rw [ek] at he
   rw [← he, show kidsL p v [] (j : Int) = true from rfl]
   clear he
   simp (disch := omega) only [go_sem]
   have x1 : HT 12 (.fr [0, 1, 2, 3, 4, 5] (.stop)) := ⟨⟩
   exact wk
 ·rw [if_pos rfl]
  refine s_of_a ?_
  simp (disch := omega) only [go_sem]
  have x1 : HT 12 (.fr [0, 1, 2, 3, 4, 5] (.stop)) := ⟨⟩
  exact wk
end Go.Proofs.YtejnpiielcbkkaaGreat.E
