/- A part of what stands under the laws of this seat: an abstract evaluator that is proved sound, and contracts of functions by it. No condition beside those that stand in each statement. -/
import Derived.Test.YtejnpiielcbkkaaGreatZQ2
import Derived.Test.YtejnpiielcbkkaaGreatZP4
set_option linter.unusedVariables false
set_option linter.unusedSimpArgs false
set_option maxRecDepth 100000
set_option maxHeartbeats 4000000
namespace Go.Proofs.YtejnpiielcbkkaaGreat.E
/-! A node, by the reference. -/
def dupF (kids : List Int) : Nat → Nat → Bool
 | 0, _ => false
 | n + 1, i => if hasI (kids.take i) (kids.getD i 0) = true then true else dupF kids n (i + 1)
theorem has_take {kids : List Int} {i j : Nat} {x : Int} (hji : j < i) (hi : i ≤ kids.length) (h : (kids.getD j 0 == x) = true) : hasI (kids.take i) x = true := by
 refine hasI_of (k := j) (by rw [List.length_take]; omega) ?_
 rw [List.getD_eq_getElem?_getD] at h ⊢
 rw [List.getElem?_take, if_pos hji]
 exact h
def kindS (c : Int) : Bool := if inB c 1 5 = true then true else if inB c 11 19 = true then true else (c == 20)
def moreB (n : Node) : Bool := if oneB (n.kind == 14) n.more = false then false else toB n
def tailB (n : Node) : Bool := if oneB (namedK n.kind) n.name = false then false else if moreB n = false then false else numB n
def nodeS (p : Prgm) (k : Nat) : Bool :=
 if dupF (p.nodes.getD k nodeZ).kids (p.nodes.getD k nodeZ).kids.length 0 = true then false
 else if kindS (p.nodes.getD k nodeZ).kind = false then false
 else if kidsS p k = false then false
 else tailB (p.nodes.getD k nodeZ)
theorem sNode_ok (p : Prgm) (k : Nat) (hN : p.nodes.length ≤ 1048576) (hk : k < p.nodes.length) (hS : ∀ y ∈ p.nodes, smNode y) : CallOk Tryz.prog 165 [.agg (programR p), .one (iV k)] (.s (.one (bV (nodeS p k)))) [none, none] := by
 have hm : (p.nodes.getD k nodeZ) ∈ p.nodes := getD_mem hk
 obtain ⟨s1, s2, s3, s4⟩ := hS _ hm
 clear hS hm
 have a0 := specInB_ok (k : Int) 0 ((p.nodes.length : Int) - 1)
 have h0 : inB (k : Int) 0 ((p.nodes.length : Int) - 1) = true := by simp [inB]; omega
 rw [h0] at a0
 have a1 := sKids_ok' p k hN hk s4
 have hB : nodeS p k = if dupF (p.nodes.getD k nodeZ).kids (p.nodes.getD k nodeZ).kids.length 0 = true then false else if kindS (p.nodes.getD k nodeZ).kind = false then false else if kidsS p k = false then false else tailB (p.nodes.getD k nodeZ) := rfl
 rw [hB]
 clear hB h0
 obtain ⟨ks, hks⟩ : ∃ x, kidsS p k = x := ⟨_, rfl⟩
 rw [hks] at a1 ⊢
 clear hks
 obtain ⟨⟨kind, num, name, more, to, kids⟩, hnd⟩ : ∃ x, (p.nodes.getD k nodeZ) = x := ⟨_, rfl⟩
 rw [hnd] at s1 s2 s3 s4 ⊢
 dsimp only at s1 s2 s3 s4 ⊢
 have v1 := sValue_ok kind
 have v2 := sStatement_ok kind
 have n1 := sNameOk_ok name s1
 have n2 := sNameOk_ok more s2
 have n3 := sNameOk_ok to s3
 have w1 := specInB_ok num 0 1000000
 have w3 := specInB_ok num 1 9
 refine cOh 40 (hcall_of_bodyS Tryz.func165 rfl (by kernel_rfl) ?_)
 simp (disch := omega) only [go_sem, Tryz.ntmps165, Tryz.results165]
 refine s_cut ⟨mkEnv 150 [(1, .one (iV k)), (2, .one (.ptr 0 0 0))], [.live 3 [programR p]]⟩ ?_ ?_
 ·clear a0 a1 v1 v2 n1 n2 n3 w1 w3
  have x1 : HT 10 (.fr [0, 1, 2, 3, 4, 5, 6, 7, 8, 9, 10] (.stop)) := ⟨⟩
  have x2 : HW 0 [1, 2] [0] := ⟨⟩
  exact wkz
 refine s_cut ⟨mkEnv 150 [(1, .one (iV k)), (2, .one (.ptr 0 0 0))], [.live 3 [programR p]]⟩ ?_ ?_
 ·clear a1 v1 v2 n1 n2 n3 w1 w3
  simp (disch := omega) only [go_sem]
  have x1 : HT 10 (.fr [0, 1, 2, 3, 4, 5, 6, 7, 8, 9, 10] (.stop)) := ⟨⟩
  have x2 : HW 0 [1, 2] [0] := ⟨⟩
  exact wkz
 clear a0
 refine s_cut ⟨mkEnv 150 [(1, .one (iV k)), (2, .one (.ptr 0 0 0)), (5, .one (.ptr 1 0 0))], [.live 3 [programR p], .live 6 [nodeR ⟨kind, num, name, more, to, kids⟩]]⟩ ?_ ?_
 ·clear a1 v1 v2 n1 n2 n3 w1 w3
  simp (disch := omega) only [go_sem]
  have x1 : HT 10 (.fr [0, 1, 2, 3, 4, 5, 6, 7, 8, 9, 10] (.stop)) := ⟨⟩
  have x2 : HW 0 [1, 2, 5] [0, 1] := ⟨⟩
  exact wkz
 clear hnd
 cases hdup : dupF kids kids.length 0
 rotate_left
 ·rw [if_pos rfl]
  clear a1 v1 v2 n1 n2 n3 w1 w3
  refine s_seqC ?_
  simp (disch := omega) only [go_sem]
  have x1 : HT 10 (.fr [0, 1, 2, 3, 4, 5, 6, 7, 8, 9, 10] (.stop)) := ⟨⟩
  refine wkc ?_
  refine i_loop (α := {i : Nat // i ≤ kids.length ∧ dupF kids (kids.length - i) i = true}) (fun i => ⟨mkEnv 150 [(1, .one (iV k)), (2, .one (.ptr 0 0 0)), (5, .one (.ptr 1 0 0)), (6, .one (iV i.1))], [.live 3 [programR p], .live 6 [nodeR ⟨kind, num, name, more, to, kids⟩]]⟩) (fun i => kids.length - i.1) ⟨0, by omega, hdup⟩ ?_ ?_
  ·first | exact wc [1, 2, 5, 6] [0, 1]
  rintro ⟨i, hi, he⟩
  dsimp only at hi he ⊢
  clear hdup
  by_cases hil : i < kids.length
  ·have d1 : decide ((i : Int) < (kids.length : Int)) = true := decide_eq_true (by omega)
   have hst : kids.length - i = (kids.length - (i + 1)) + 1 := by omega
   rw [hst, dupF] at he
   clear hst
   simp (disch := omega) only [go_sem]
   have x1 : HT 10 (.fr [0, 1, 2, 3, 4, 5, 6, 7, 8, 9, 10] (.stop)) := ⟨⟩
   refine wkc ?_
   refine i_hide fun Q hE => ?_
   refine i_loop (α := {j : Nat // j ≤ i ∧ hasI (kids.take j) (kids.getD i 0) = false}) (fun j => ⟨mkEnv 150 [(1, .one (iV k)), (2, .one (.ptr 0 0 0)), (5, .one (.ptr 1 0 0)), (6, .one (iV i)), (7, .one (iV j.1))], [.live 3 [programR p], .live 6 [nodeR ⟨kind, num, name, more, to, kids⟩]]⟩) (fun j => i - j.1) ⟨0, by omega, by simp [hasI]⟩ ?_ ?_
   ·first | exact wc [1, 2, 5, 6, 7] [0, 1]
   rintro ⟨j, hj, hh⟩
   dsimp only at hj hh ⊢
   by_cases hjl : j < i
   ·have d2 : decide ((j : Int) < (i : Int)) = true := decide_eq_true (by omega)
    have hht := hasI_take (xs := kids) (x := kids.getD i 0) (k := j) (by omega)
    rw [hh, Bool.false_or] at hht
    cases q : (kids.getD i 0 == kids.getD j 0)
    ·have q2 : (kids.getD j 0 == kids.getD i 0) = false := by rw [Bool.beq_comm]; exact q
     rw [q2] at hht
     clear he hh q2
     simp (disch := omega) only [go_sem]
     have x1 : HT 10 (.fr [0, 1, 2, 3, 4, 5, 6, 7, 8, 9, 10] (.stop)) := ⟨⟩
     refine wkc ?_
     all_goals refine ⟨⟨j + 1, by omega, hht⟩, ?_, by simp only; omega⟩
     all_goals first | exact wc [1, 2, 5, 6, 7] [0, 1]
    ·have q2 : (kids.getD j 0 == kids.getD i 0) = true := by rw [Bool.beq_comm]; exact q
     rw [has_take hjl (by omega) q2, if_pos rfl] at he
     clear he hh hht q2
     simp (disch := omega) only [go_sem]
     have x1 : HT 10 (.fr [0, 1, 2, 3, 4, 5, 6, 7, 8, 9, 10] (.stop)) := ⟨⟩
     exact wk
   ·have d2 : decide ((j : Int) < (i : Int)) = false := decide_eq_false (by omega)
    have hji : j = i := by omega
    subst hji
    rw [hh, if_neg (by simp)] at he
    clear hh
    simp (disch := omega) only [go_sem]
    have x1 : HT 10 (.fr [0, 1, 2, 3, 4, 5, 6, 7, 8, 9, 10] (.stop)) := ⟨⟩
    refine wkc ?_
    all_goals refine ⟨⟨j + 1, by omega, he⟩, ?_, by simp only; omega⟩
    all_goals first | exact wc [1, 2, 5, 6] [0, 1]
  ·have d1 : decide ((i : Int) < (kids.length : Int)) = false := decide_eq_false (by omega)
   have hst : kids.length - i = 0 := by omega
   rw [hst] at he
   cases he
 rw [if_neg (by simp)]
 refine s_cut ⟨mkEnv 150 [(1, .one (iV k)), (2, .one (.ptr 0 0 0)), (5, .one (.ptr 1 0 0))], [.live 3 [programR p], .live 6 [nodeR ⟨kind, num, name, more, to, kids⟩]]⟩ ?_ ?_
 ·clear a1 v1 v2 n1 n2 n3 w1 w3
  simp (disch := omega) only [go_sem]
  have x1 : HT 10 (.fr [0, 1, 2, 3, 4, 5, 6, 7, 8, 9, 10] (.stop)) := ⟨⟩
  refine wkc ?_
  refine i_loop (α := {i : Nat // i ≤ kids.length ∧ dupF kids (kids.length - i) i = false}) (fun i => ⟨mkEnv 150 [(1, .one (iV k)), (2, .one (.ptr 0 0 0)), (5, .one (.ptr 1 0 0)), (6, .one (iV i.1))], [.live 3 [programR p], .live 6 [nodeR ⟨kind, num, name, more, to, kids⟩]]⟩) (fun i => kids.length - i.1) ⟨0, by omega, hdup⟩ ?_ ?_
  ·first | exact wc [1, 2, 5, 6] [0, 1]
  rintro ⟨i, hi, he⟩
  dsimp only at hi he ⊢
  clear hdup
  by_cases hil : i < kids.length
  ·have d1 : decide ((i : Int) < (kids.length : Int)) = true := decide_eq_true (by omega)
   have hst : kids.length - i = (kids.length - (i + 1)) + 1 := by omega
   rw [hst, dupF] at he
   clear hst
   simp (disch := omega) only [go_sem]
   have x1 : HT 10 (.fr [0, 1, 2, 3, 4, 5, 6, 7, 8, 9, 10] (.stop)) := ⟨⟩
   refine wkc ?_
   refine i_hide fun Q hE => ?_
   refine i_loop (α := {j : Nat // j ≤ i ∧ hasI (kids.take j) (kids.getD i 0) = false}) (fun j => ⟨mkEnv 150 [(1, .one (iV k)), (2, .one (.ptr 0 0 0)), (5, .one (.ptr 1 0 0)), (6, .one (iV i)), (7, .one (iV j.1))], [.live 3 [programR p], .live 6 [nodeR ⟨kind, num, name, more, to, kids⟩]]⟩) (fun j => i - j.1) ⟨0, by omega, by simp [hasI]⟩ ?_ ?_
   ·first | exact wc [1, 2, 5, 6, 7] [0, 1]
   rintro ⟨j, hj, hh⟩
   dsimp only at hj hh ⊢
   by_cases hjl : j < i
   ·have d2 : decide ((j : Int) < (i : Int)) = true := decide_eq_true (by omega)
    have hht := hasI_take (xs := kids) (x := kids.getD i 0) (k := j) (by omega)
    rw [hh, Bool.false_or] at hht
    cases q : (kids.getD i 0 == kids.getD j 0)
    ·have q2 : (kids.getD j 0 == kids.getD i 0) = false := by rw [Bool.beq_comm]; exact q
     rw [q2] at hht
     clear he hh q2
     simp (disch := omega) only [go_sem]
     have x1 : HT 10 (.fr [0, 1, 2, 3, 4, 5, 6, 7, 8, 9, 10] (.stop)) := ⟨⟩
     refine wkc ?_
     all_goals refine ⟨⟨j + 1, by omega, hht⟩, ?_, by simp only; omega⟩
     all_goals first | exact wc [1, 2, 5, 6, 7] [0, 1]
    ·have q2 : (kids.getD j 0 == kids.getD i 0) = true := by rw [Bool.beq_comm]; exact q
     rw [has_take hjl (by omega) q2, if_pos rfl] at he
     cases he
   ·have d2 : decide ((j : Int) < (i : Int)) = false := decide_eq_false (by omega)
    have hji : j = i := by omega
    subst hji
    rw [hh, if_neg (by simp)] at he
    clear hh
    simp (disch := omega) only [go_sem]
    have x1 : HT 10 (.fr [0, 1, 2, 3, 4, 5, 6, 7, 8, 9, 10] (.stop)) := ⟨⟩
    refine wkc ?_
    all_goals refine ⟨⟨j + 1, by omega, he⟩, ?_, by simp only; omega⟩
    all_goals first | exact wc [1, 2, 5, 6] [0, 1]
  ·have d1 : decide ((i : Int) < (kids.length : Int)) = false := decide_eq_false (by omega)
   have hst : kids.length - i = 0 := by omega
   rw [hst] at he
   clear he hst
   simp (disch := omega) only [go_sem]
   have x1 : HT 10 (.fr [0, 1, 2, 3, 4, 5, 6, 7, 8, 9, 10] (.stop)) := ⟨⟩
   have x2 : HW 0 [1, 2, 5] [0, 1] := ⟨⟩
   exact wkz
 clear hdup
 cases hK : kindS kind
 ·rw [if_pos rfl]
  have q1 : inB kind 1 5 = false := by cases q : inB kind 1 5; rfl; unfold kindS at hK; rw [q, if_pos rfl] at hK; cases hK
  have q2 : inB kind 11 19 = false := by cases q : inB kind 11 19; rfl; unfold kindS at hK; rw [q1, q, if_neg (by simp), if_pos rfl] at hK; cases hK
  have q3 : (kind == 20) = false := by unfold kindS at hK; rw [q1, q2, if_neg (by simp), if_neg (by simp)] at hK; exact hK
  rw [q1] at v1
  rw [q2] at v2
  clear n1 n2 n3 w1 w3 a1 hK
  have q3b : (kind != 20) = true := by unfold bne; rw [q3]; rfl
  refine s_seqC ?_
  simp (disch := omega) only [go_sem]
  have x1 : HT 10 (.fr [0, 1, 2, 3, 4, 5, 6, 7, 8, 9, 10] (.stop)) := ⟨⟩
  exact wk
 rw [if_neg (by simp)]
 cases ks
 ·rw [if_pos rfl]
  clear n1 n2 n3 w1 w3
  cases q1 : inB kind 1 5
  ·rw [q1] at v1
   cases q2 : inB kind 11 19
   ·rw [q2] at v2
    have q3 : (kind == 20) = true := by unfold kindS at hK; rw [q1, q2] at hK; simpa using hK
    have q3b : (kind != 20) = false := by unfold bne; rw [q3]; rfl
    refine s_seqC ?_
    simp (disch := omega) only [go_sem]
    have x1 : HT 10 (.fr [0, 1, 2, 3, 4, 5, 6, 7, 8, 9, 10] (.stop)) := ⟨⟩
    have x2 := a1
    exact wk
   ·rw [q2] at v2
    refine s_seqC ?_
    simp (disch := omega) only [go_sem]
    have x1 : HT 10 (.fr [0, 1, 2, 3, 4, 5, 6, 7, 8, 9, 10] (.stop)) := ⟨⟩
    have x2 := a1
    exact wk
  ·rw [q1] at v1
   clear v2
   refine s_seqC ?_
   simp (disch := omega) only [go_sem]
   have x1 : HT 10 (.fr [0, 1, 2, 3, 4, 5, 6, 7, 8, 9, 10] (.stop)) := ⟨⟩
   have x2 := a1
   exact wk
 rw [if_neg (by simp)]
 refine s_cut ⟨mkEnv 150 [(1, .one (iV k)), (2, .one (.ptr 0 0 0)), (5, .one (.ptr 1 0 0))], [.live 3 [programR p], .live 6 [nodeR ⟨kind, num, name, more, to, kids⟩]]⟩ ?_ ?_
 ·clear n1 n2 n3 w1 w3
  cases q1 : inB kind 1 5
  ·rw [q1] at v1
   cases q2 : inB kind 11 19
   ·rw [q2] at v2
    have q3 : (kind == 20) = true := by unfold kindS at hK; rw [q1, q2] at hK; simpa using hK
    have q3b : (kind != 20) = false := by unfold bne; rw [q3]; rfl
    simp (disch := omega) only [go_sem]
    have x1 : HT 10 (.fr [0, 1, 2, 3, 4, 5, 6, 7, 8, 9, 10] (.stop)) := ⟨⟩
    have x2 : HW 0 [1, 2, 5] [0, 1] := ⟨⟩
    have x3 := a1
    exact wkz
   ·rw [q2] at v2
    simp (disch := omega) only [go_sem]
    have x1 : HT 10 (.fr [0, 1, 2, 3, 4, 5, 6, 7, 8, 9, 10] (.stop)) := ⟨⟩
    have x2 : HW 0 [1, 2, 5] [0, 1] := ⟨⟩
    have x3 := a1
    exact wkz
  ·rw [q1] at v1
   clear v2
   simp (disch := omega) only [go_sem]
   have x1 : HT 10 (.fr [0, 1, 2, 3, 4, 5, 6, 7, 8, 9, 10] (.stop)) := ⟨⟩
   have x2 : HW 0 [1, 2, 5] [0, 1] := ⟨⟩
   have x3 := a1
   exact wkz
 clear a1 v1 v2 hK
 have hT : tailB ⟨kind, num, name, more, to, kids⟩ = if oneB (namedK kind) name = false then false else if moreB ⟨kind, num, name, more, to, kids⟩ = false then false else numB ⟨kind, num, name, more, to, kids⟩ := rfl
 rw [hT]
 clear hT
 refine s_cut ⟨mkEnv 150 [(1, .one (iV k)), (2, .one (.ptr 0 0 0)), (5, .one (.ptr 1 0 0)), (8, .one (bV (namedK kind)))], [.live 3 [programR p], .live 6 [nodeR ⟨kind, num, name, more, to, kids⟩]]⟩ ?_ ?_
 ·clear n1 n2 n3 w1 w3
  by_cases k2 : kind = 2
  ·have e1 : namedK kind = true := by rw [k2]; rfl
   have b2 : (kind == 2) = true := beq_iff_eq.2 k2
   clear k2
   simp (disch := omega) only [go_sem]
   have x1 : HT 10 (.fr [0, 1, 2, 3, 4, 5, 6, 7, 8, 9, 10] (.stop)) := ⟨⟩
   have x2 : HW 0 [1, 2, 5, 8] [0, 1] := ⟨⟩
   exact wkz
  by_cases k11 : kind = 11
  ·have e1 : namedK kind = true := by rw [k11]; rfl
   have b11 : (kind == 11) = true := beq_iff_eq.2 k11
   have b2 : (kind == 2) = false := beq_eq_false_iff_ne.2 k2
   clear k2 k11
   simp (disch := omega) only [go_sem]
   have x1 : HT 10 (.fr [0, 1, 2, 3, 4, 5, 6, 7, 8, 9, 10] (.stop)) := ⟨⟩
   have x2 : HW 0 [1, 2, 5, 8] [0, 1] := ⟨⟩
   exact wkz
  by_cases k16 : kind = 16
  ·have e1 : namedK kind = true := by rw [k16]; rfl
   have b16 : (kind == 16) = true := beq_iff_eq.2 k16
   have b2 : (kind == 2) = false := beq_eq_false_iff_ne.2 k2
   have b11 : (kind == 11) = false := beq_eq_false_iff_ne.2 k11
   clear k2 k11 k16
   simp (disch := omega) only [go_sem]
   have x1 : HT 10 (.fr [0, 1, 2, 3, 4, 5, 6, 7, 8, 9, 10] (.stop)) := ⟨⟩
   have x2 : HW 0 [1, 2, 5, 8] [0, 1] := ⟨⟩
   exact wkz
  by_cases k17 : kind = 17
  ·have e1 : namedK kind = true := by rw [k17]; rfl
   have b17 : (kind == 17) = true := beq_iff_eq.2 k17
   have b2 : (kind == 2) = false := beq_eq_false_iff_ne.2 k2
   have b11 : (kind == 11) = false := beq_eq_false_iff_ne.2 k11
   have b16 : (kind == 16) = false := beq_eq_false_iff_ne.2 k16
   clear k2 k11 k16 k17
   simp (disch := omega) only [go_sem]
   have x1 : HT 10 (.fr [0, 1, 2, 3, 4, 5, 6, 7, 8, 9, 10] (.stop)) := ⟨⟩
   have x2 : HW 0 [1, 2, 5, 8] [0, 1] := ⟨⟩
   exact wkz
  by_cases k18 : kind = 18
  ·have e1 : namedK kind = true := by rw [k18]; rfl
   have b18 : (kind == 18) = true := beq_iff_eq.2 k18
   have b2 : (kind == 2) = false := beq_eq_false_iff_ne.2 k2
   have b11 : (kind == 11) = false := beq_eq_false_iff_ne.2 k11
   have b16 : (kind == 16) = false := beq_eq_false_iff_ne.2 k16
   have b17 : (kind == 17) = false := beq_eq_false_iff_ne.2 k17
   clear k2 k11 k16 k17 k18
   simp (disch := omega) only [go_sem]
   have x1 : HT 10 (.fr [0, 1, 2, 3, 4, 5, 6, 7, 8, 9, 10] (.stop)) := ⟨⟩
   have x2 : HW 0 [1, 2, 5, 8] [0, 1] := ⟨⟩
   exact wkz
  by_cases k14 : kind = 14
  ·have e1 : namedK kind = true := by rw [k14]; rfl
   have b14 : (kind == 14) = true := beq_iff_eq.2 k14
   have b2 : (kind == 2) = false := beq_eq_false_iff_ne.2 k2
   have b11 : (kind == 11) = false := beq_eq_false_iff_ne.2 k11
   have b16 : (kind == 16) = false := beq_eq_false_iff_ne.2 k16
   have b17 : (kind == 17) = false := beq_eq_false_iff_ne.2 k17
   have b18 : (kind == 18) = false := beq_eq_false_iff_ne.2 k18
   clear k2 k11 k16 k17 k18 k14
   simp (disch := omega) only [go_sem]
   have x1 : HT 10 (.fr [0, 1, 2, 3, 4, 5, 6, 7, 8, 9, 10] (.stop)) := ⟨⟩
   have x2 : HW 0 [1, 2, 5, 8] [0, 1] := ⟨⟩
   exact wkz
  have b2 : (kind == 2) = false := beq_eq_false_iff_ne.2 k2
  have b11 : (kind == 11) = false := beq_eq_false_iff_ne.2 k11
  have b16 : (kind == 16) = false := beq_eq_false_iff_ne.2 k16
  have b17 : (kind == 17) = false := beq_eq_false_iff_ne.2 k17
  have b18 : (kind == 18) = false := beq_eq_false_iff_ne.2 k18
  have b14 : (kind == 14) = false := beq_eq_false_iff_ne.2 k14
  have e1 : namedK kind = false := by unfold namedK; simp only [b2, b11, b16, b17, b18, b14, Bool.or_false]
  clear k2 k11 k16 k17 k18 k14
  simp (disch := omega) only [go_sem]
  have x1 : HT 10 (.fr [0, 1, 2, 3, 4, 5, 6, 7, 8, 9, 10] (.stop)) := ⟨⟩
  have x2 : HW 0 [1, 2, 5, 8] [0, 1] := ⟨⟩
  exact wkz
 obtain ⟨nb, hnb⟩ : ∃ x, namedK kind = x := ⟨_, rfl⟩
 rw [hnb]
 clear hnb
 cases hO : oneB nb name
 ·rw [if_pos rfl]
  clear n2 n3 w1 w3
  cases nb
  ·have q : emptyS name = false := hO
   clear hO n1
   refine s_seqC ?_
   simp (disch := omega) only [go_sem]
   have x1 := @seq_nil
   have x2 : HT 10 (.fr [0, 1, 2, 3, 4, 5, 6, 7, 8, 9, 10] (.stop)) := ⟨⟩
   exact wk
  ·have q : nameOk name = false := hO
   rw [q] at n1
   clear hO q
   refine s_seqC ?_
   simp (disch := omega) only [go_sem]
   have x1 : HT 10 (.fr [0, 1, 2, 3, 4, 5, 6, 7, 8, 9, 10] (.stop)) := ⟨⟩
   exact wk
 rw [if_neg (by simp)]
 refine s_cut ⟨mkEnv 150 [(1, .one (iV k)), (2, .one (.ptr 0 0 0)), (5, .one (.ptr 1 0 0))], [.live 3 [programR p], .live 6 [nodeR ⟨kind, num, name, more, to, kids⟩]]⟩ ?_ ?_
 ·clear n2 n3 w1 w3
  cases nb
  ·have q : emptyS name = true := hO
   clear hO n1
   simp (disch := omega) only [go_sem]
   have x1 := @seq_nil
   have x2 : HT 10 (.fr [0, 1, 2, 3, 4, 5, 6, 7, 8, 9, 10] (.stop)) := ⟨⟩
   have x3 : HW 0 [1, 2, 5] [0, 1] := ⟨⟩
   exact wkz
  ·have q : nameOk name = true := hO
   rw [q] at n1
   clear hO q
   simp (disch := omega) only [go_sem]
   have x1 : HT 10 (.fr [0, 1, 2, 3, 4, 5, 6, 7, 8, 9, 10] (.stop)) := ⟨⟩
   have x2 : HW 0 [1, 2, 5] [0, 1] := ⟨⟩
   exact wkz
 clear n1 hO
 cases hM : moreB ⟨kind, num, name, more, to, kids⟩
 ·rw [if_pos rfl]
  clear w1 w3
  by_cases k14 : kind = 14
  ·subst k14
   have hM2 : (if nameOk more = false then false else if emptyS to = true then true else nameOk to) = false := hM
   clear hM
   cases q1 : nameOk more
   ·rw [q1] at n2
    clear n3 hM2
    refine s_seqC ?_
    simp (disch := omega) only [go_sem]
    have x1 : HT 10 (.fr [0, 1, 2, 3, 4, 5, 6, 7, 8, 9, 10] (.stop)) := ⟨⟩
    exact wki
   ·rw [q1] at n2 hM2
    rw [if_neg (by simp)] at hM2
    cases q2 : emptyS to
    ·rw [q2, if_neg (by simp)] at hM2
     rw [hM2] at n3
     clear hM2
     refine s_seqC ?_
     simp (disch := omega) only [go_sem]
     have x1 := @seq_nil
     have x2 : HT 10 (.fr [0, 1, 2, 3, 4, 5, 6, 7, 8, 9, 10] (.stop)) := ⟨⟩
     have x3 : HC 1 _ := ⟨n2⟩
     have x4 : HC 2 _ := ⟨n3⟩
     exact wki
    ·rw [q2, if_pos rfl] at hM2
     cases hM2
  ·have b14 : (kind == 14) = false := beq_eq_false_iff_ne.2 k14
   have hM2 : (if emptyS more = false then false else emptyS to) = false := by
    unfold moreB at hM
    dsimp only at hM
    rw [b14, toB_ne b14] at hM
    exact hM
   clear hM n2 n3 k14
   cases q1 : emptyS more
   ·clear hM2
    refine s_seqC ?_
    simp (disch := omega) only [go_sem]
    have x1 := @seq_nil
    have x2 : HT 10 (.fr [0, 1, 2, 3, 4, 5, 6, 7, 8, 9, 10] (.stop)) := ⟨⟩
    exact wk
   ·rw [q1, if_neg (by simp)] at hM2
    refine s_seqC ?_
    simp (disch := omega) only [go_sem]
    have x1 := @seq_nil
    have x2 : HT 10 (.fr [0, 1, 2, 3, 4, 5, 6, 7, 8, 9, 10] (.stop)) := ⟨⟩
    exact wk
 rw [if_neg (by simp)]
 refine s_cut ⟨mkEnv 150 [(1, .one (iV k)), (2, .one (.ptr 0 0 0)), (5, .one (.ptr 1 0 0))], [.live 3 [programR p], .live 6 [nodeR ⟨kind, num, name, more, to, kids⟩]]⟩ ?_ ?_
 ·clear w1 w3
  by_cases k14 : kind = 14
  ·subst k14
   have hM2 : (if nameOk more = false then false else if emptyS to = true then true else nameOk to) = true := hM
   clear hM
   have q1 : nameOk more = true := by cases q : nameOk more; rw [q, if_pos rfl] at hM2; cases hM2; rfl
   rw [q1] at n2 hM2
   rw [if_neg (by simp)] at hM2
   cases q2 : emptyS to
   ·rw [q2, if_neg (by simp)] at hM2
    rw [hM2] at n3
    clear hM2 q1
    simp (disch := omega) only [go_sem]
    have x1 := @seq_nil
    have x2 : HT 10 (.fr [0, 1, 2, 3, 4, 5, 6, 7, 8, 9, 10] (.stop)) := ⟨⟩
    have x3 : HW 0 [1, 2, 5] [0, 1] := ⟨⟩
    have x4 : HC 1 _ := ⟨n2⟩
    have x5 : HC 2 _ := ⟨n3⟩
    exact wkz
   ·clear hM2 n3 q1
    simp (disch := omega) only [go_sem]
    have x1 := @seq_nil
    have x2 : HT 10 (.fr [0, 1, 2, 3, 4, 5, 6, 7, 8, 9, 10] (.stop)) := ⟨⟩
    have x3 : HW 0 [1, 2, 5] [0, 1] := ⟨⟩
    exact wkz
  ·have b14 : (kind == 14) = false := beq_eq_false_iff_ne.2 k14
   have hM2 : (if emptyS more = false then false else emptyS to) = true := by
    unfold moreB at hM
    dsimp only at hM
    rw [b14, toB_ne b14] at hM
    exact hM
   clear hM n2 n3 k14
   have q1 : emptyS more = true := by cases q : emptyS more; rw [q, if_pos rfl] at hM2; cases hM2; rfl
   rw [q1, if_neg (by simp)] at hM2
   simp (disch := omega) only [go_sem]
   have x1 := @seq_nil
   have x2 : HT 10 (.fr [0, 1, 2, 3, 4, 5, 6, 7, 8, 9, 10] (.stop)) := ⟨⟩
   have x3 : HW 0 [1, 2, 5] [0, 1] := ⟨⟩
   exact wkz
 clear n2 n3 hM
 by_cases k1 : kind = 1
 ·subst k1
  have e : numB ⟨1, num, name, more, to, kids⟩ = inB num 0 1000000 := rfl
  rw [e]
  clear w3
  simp (disch := omega) only [go_sem]
  refine s_of_a ?_
  have x1 : HT 10 (.fr [0, 1, 2, 3, 4, 5, 6, 7, 8, 9, 10] (.stop)) := ⟨⟩
  exact wki
 by_cases k3 : kind = 3
 ·subst k3
  have e : numB ⟨3, num, name, more, to, kids⟩ = inB num 1 9 := rfl
  rw [e]
  clear w1
  simp (disch := omega) only [go_sem]
  refine s_of_a ?_
  have x1 : HT 10 (.fr [0, 1, 2, 3, 4, 5, 6, 7, 8, 9, 10] (.stop)) := ⟨⟩
  exact wki
 have b1 : (kind == 1) = false := beq_eq_false_iff_ne.2 k1
 have b3 : (kind == 3) = false := beq_eq_false_iff_ne.2 k3
 have e : numB ⟨kind, num, name, more, to, kids⟩ = (num == 0) := by
  show (if (kind == 1) = true then _ else if (kind == 3) = true then _ else _) = _
  rw [b1, b3, if_neg (by simp), if_neg (by simp)]
 rw [e]
 clear w1 w3 k1 k3
 simp (disch := omega) only [go_sem]
 refine s_of_a ?_
 have x1 : HT 10 (.fr [0, 1, 2, 3, 4, 5, 6, 7, 8, 9, 10] (.stop)) := ⟨⟩
 exact wk
end Go.Proofs.YtejnpiielcbkkaaGreat.E
