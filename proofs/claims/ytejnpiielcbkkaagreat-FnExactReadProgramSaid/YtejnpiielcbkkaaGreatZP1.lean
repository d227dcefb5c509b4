/- A part of what stands under the laws of this seat: an abstract evaluator that is proved sound, and contracts of functions by it. No condition beside those that stand in each statement. -/
import Derived.Test.YtejnpiielcbkkaaGreatZR10
import Derived.Test.YtejnpiielcbkkaaGreatZF1
import Derived.Test.YtejnpiielcbkkaaGreatZA1
set_option linter.unusedVariables false
set_option linter.unusedSimpArgs false
section
set_option maxRecDepth 100000
set_option maxHeartbeats 4000000
namespace Go.Proofs.YtejnpiielcbkkaaGreat.E
/-! ### What a right program is: the program's tests -/
def isNodeB (p : Prgm) (k : Int) : Bool := inB k 0 ((p.nodes.length : Int) - 1)
def ndAt (p : Prgm) (k : Int) : Node := p.nodes.getD k.toNat nodeZ
def isValB (p : Prgm) (k : Int) : Bool := if isNodeB p k = true then inB (ndAt p k).kind 1 5 else false
def isStB (p : Prgm) (k : Int) : Bool := if isNodeB p k = true then inB (ndAt p k).kind 11 19 else false
def isBlkB (p : Prgm) (k : Int) : Bool := if isNodeB p k = true then ((ndAt p k).kind == 20) else false
theorem isNodeB_in {p : Prgm} {k : Int} (h : isNodeB p k = true) : 0 ≤ k ∧ k.toNat < p.nodes.length := by
 have := inB_t h
 omega
theorem isNode_ok (p : Prgm) (k : Int) (hN : p.nodes.length ≤ 1048576) : CallOk Tryz.prog 174 [.agg (programR p), .one (iV k)] (.s (.one (bV (isNodeB p k)))) [none, none] := by
 refine cOh 40 (hBd Tryz.func174 rfl (by kernel_rfl) ?_)
 simp (disch := omega) only [go_sem, Tryz.ntmps174, Tryz.results174]
 have x1 := @isNodeB.eq_1
 have x2 := within_ok k 0 ((p.nodes.length : Int) - 1)
 exact wk
theorem isVal_ok (p : Prgm) (k : Int) (hN : p.nodes.length ≤ 1048576) : CallOk Tryz.prog 226 [.agg (programR p), .one (iV k)] (.s (.one (bV (isValB p k)))) [none, none] := by
 have hn := isNode_ok p k hN
 cases h1 : isNodeB p k
 ·rw [h1] at hn
  refine cOh 40 (hBd Tryz.func226 rfl (by kernel_rfl) ?_)
  simp (disch := omega) only [go_sem, Tryz.ntmps226, Tryz.results226]
  have x1 := @isValB.eq_1
  exact wk
 ·obtain ⟨k0, k1⟩ := isNodeB_in h1
  rw [h1] at hn
  refine cOh 40 (hBd Tryz.func226 rfl (by kernel_rfl) ?_)
  simp (disch := omega) only [go_sem, Tryz.ntmps226, Tryz.results226]
  have x1 := @isValB.eq_1
  have x2 := @ndAt.eq_1
  have x3 := within_ok (p.nodes.getD k.toNat nodeZ).kind 1 5
  exact wk
theorem isSt_ok (p : Prgm) (k : Int) (hN : p.nodes.length ≤ 1048576) : CallOk Tryz.prog 225 [.agg (programR p), .one (iV k)] (.s (.one (bV (isStB p k)))) [none, none] := by
 have hn := isNode_ok p k hN
 cases h1 : isNodeB p k
 ·rw [h1] at hn
  refine cOh 40 (hBd Tryz.func225 rfl (by kernel_rfl) ?_)
  simp (disch := omega) only [go_sem, Tryz.ntmps225, Tryz.results225]
  have x1 := @isStB.eq_1
  exact wk
 ·obtain ⟨k0, k1⟩ := isNodeB_in h1
  rw [h1] at hn
  refine cOh 40 (hBd Tryz.func225 rfl (by kernel_rfl) ?_)
  simp (disch := omega) only [go_sem, Tryz.ntmps225, Tryz.results225]
  have x1 := @isStB.eq_1
  have x2 := @ndAt.eq_1
  have x3 := within_ok (p.nodes.getD k.toNat nodeZ).kind 11 19
  exact wk
theorem isBlk_ok (p : Prgm) (k : Int) (hN : p.nodes.length ≤ 1048576) : CallOk Tryz.prog 107 [.agg (programR p), .one (iV k)] (.s (.one (bV (isBlkB p k)))) [none, none] := by
 have hn := isNode_ok p k hN
 cases h1 : isNodeB p k
 ·rw [h1] at hn
  refine cOh 40 (hBd Tryz.func107 rfl (by kernel_rfl) ?_)
  simp (disch := omega) only [go_sem, Tryz.ntmps107, Tryz.results107]
  have x1 := @isBlkB.eq_1
  exact wk
 ·obtain ⟨k0, k1⟩ := isNodeB_in h1
  rw [h1] at hn
  refine cOh 40 (hBd Tryz.func107 rfl (by kernel_rfl) ?_)
  simp (disch := omega) only [go_sem, Tryz.ntmps107, Tryz.results107]
  have x1 := @isBlkB.eq_1
  have x2 := @ndAt.eq_1
  exact wk
end Go.Proofs.YtejnpiielcbkkaaGreat.E
end
section
set_option maxRecDepth 100000
set_option maxHeartbeats 4000000
namespace Go.Proofs.YtejnpiielcbkkaaGreat.E
/-! Names of a node. -/
def emptyS (b : ByteArray) : Bool := seq b noB
def namedK (k : Int) : Bool := k == 2 || k == 11 || k == 16 || k == 17 || k == 18 || k == 14
def numB (n : Node) : Bool := if (n.kind == 1) = true then inB n.num 0 1000000 else if (n.kind == 3) = true then inB n.num 1 9 else (n.num == 0)
def toB (n : Node) : Bool := if emptyS n.to = true then true else if (n.kind == 14) = true then nameOk n.to else false
def oneB (named : Bool) (b : ByteArray) : Bool := if named = true then nameOk b else emptyS b
def namesB (n : Node) : Bool := if numB n = false then false else if toB n = false then false else if oneB (namedK n.kind) n.name = false then false else oneB (n.kind == 14) n.more
theorem toB_ne {n : Node} (h : (n.kind == 14) = false) : toB n = emptyS n.to := by
 unfold toB
 rw [h]
 cases emptyS n.to <;> rfl
theorem seq_nil (b : ByteArray) : seq b ⟨{ toList := [] }⟩ = emptyS b := rfl
theorem seq_nil' (b : ByteArray) : seq b ⟨#[]⟩ = emptyS b := rfl
theorem iNames_ok (n : Node) (h1 : n.name.size ≤ 1048576) (h2 : n.more.size ≤ 1048576) (h3 : n.to.size ≤ 1048576) : CallOk Tryz.prog 177 [.agg (nodeR n)] (.s (.one (bV (namesB n)))) [none] := by
 have c1 := iNameOk_ok n.name h1
 have c2 := iNameOk_ok n.more h2
 have c3 := iNameOk_ok n.to h3
 obtain ⟨kind, num, name, more, to, kids⟩ := n
 have hB : namesB ⟨kind, num, name, more, to, kids⟩ = if numB ⟨kind, num, name, more, to, kids⟩ = false then false else if toB ⟨kind, num, name, more, to, kids⟩ = false then false else if oneB (namedK kind) name = false then false else oneB (kind == 14) more := rfl
 rw [hB]
 clear hB
 dsimp only at c1 c2 c3 h1 h2 h3
 refine cOh 40 (hcall_of_bodyS Tryz.func177 rfl (by kernel_rfl) ?_)
 simp (disch := omega) only [go_sem, Tryz.ntmps177, Tryz.results177]
 refine s_cut ⟨mkEnv 77 [(1, .one (.ptr 0 0 0))], [.live 6 [nodeR ⟨kind, num, name, more, to, kids⟩]]⟩ ?_ ?_
 ·clear c1 c2 c3
  have x1 : HT 1 (.fr [0, 1, 2, 3, 4, 5] (.stop)) := ⟨⟩
  have x2 : HW 0 [1] [0] := ⟨⟩
  exact wkz
 refine s_cut ⟨mkEnv 77 [(1, .one (.ptr 0 0 0)), (3, .one (bV (false))), (4, .one (bV (false))), (5, .one (bV (emptyS to)))], [.live 6 [nodeR ⟨kind, num, name, more, to, kids⟩]]⟩ ?_ ?_
 ·clear c1 c2 c3
  simp (disch := omega) only [go_sem]
  have x1 := @seq_nil
  have x2 : HT 1 (.fr [0, 1, 2, 3, 4, 5] (.stop)) := ⟨⟩
  have x3 : HW 0 [1, 3, 4, 5] [0] := ⟨⟩
  exact wkz
 refine s_cut ⟨mkEnv 77 [(1, .one (.ptr 0 0 0)), (3, .one (bV (false))), (4, .one (bV (false))), (5, .one (bV (emptyS to))), (6, .one (bV (num == 0)))], [.live 6 [nodeR ⟨kind, num, name, more, to, kids⟩]]⟩ ?_ ?_
 ·clear c1 c2 c3
  simp (disch := omega) only [go_sem]
  have x1 : HT 1 (.fr [0, 1, 2, 3, 4, 5] (.stop)) := ⟨⟩
  have x2 : HW 0 [1, 3, 4, 5, 6] [0] := ⟨⟩
  exact wkz
 refine s_cut ⟨mkEnv 77 [(1, .one (.ptr 0 0 0)), (3, .one (bV (namedK kind))), (4, .one (bV (kind == 14))), (5, .one (bV (toB ⟨kind, num, name, more, to, kids⟩))), (6, .one (bV (numB ⟨kind, num, name, more, to, kids⟩)))], [.live 6 [nodeR ⟨kind, num, name, more, to, kids⟩]]⟩ ?_ ?_
 ·clear c1 c2
  by_cases k2 : kind = 2
  ·subst k2
   have e1 : namedK 2 = true := rfl
   have e2 : ((2 : Int) == 14) = false := rfl
   have e4 : numB ⟨(2 : Int), num, name, more, to, kids⟩ = (num == 0) := rfl
   have e3 : toB ⟨(2 : Int), num, name, more, to, kids⟩ = emptyS to := toB_ne rfl
   clear c3
   simp (disch := omega) only [go_sem]
   have x1 := @seq_nil
   have x2 : HT 1 (.fr [0, 1, 2, 3, 4, 5] (.stop)) := ⟨⟩
   have x3 : HW 0 [1, 3, 4, 5, 6] [0] := ⟨⟩
   exact wkz
  by_cases k11 : kind = 11
  ·subst k11
   have e1 : namedK 11 = true := rfl
   have e2 : ((11 : Int) == 14) = false := rfl
   have e4 : numB ⟨(11 : Int), num, name, more, to, kids⟩ = (num == 0) := rfl
   have e3 : toB ⟨(11 : Int), num, name, more, to, kids⟩ = emptyS to := toB_ne rfl
   clear c3
   simp (disch := omega) only [go_sem]
   have x1 := @seq_nil
   have x2 : HT 1 (.fr [0, 1, 2, 3, 4, 5] (.stop)) := ⟨⟩
   have x3 : HW 0 [1, 3, 4, 5, 6] [0] := ⟨⟩
   exact wkz
  by_cases k16 : kind = 16
  ·subst k16
   have e1 : namedK 16 = true := rfl
   have e2 : ((16 : Int) == 14) = false := rfl
   have e4 : numB ⟨(16 : Int), num, name, more, to, kids⟩ = (num == 0) := rfl
   have e3 : toB ⟨(16 : Int), num, name, more, to, kids⟩ = emptyS to := toB_ne rfl
   clear c3
   simp (disch := omega) only [go_sem]
   have x1 := @seq_nil
   have x2 : HT 1 (.fr [0, 1, 2, 3, 4, 5] (.stop)) := ⟨⟩
   have x3 : HW 0 [1, 3, 4, 5, 6] [0] := ⟨⟩
   exact wkz
  by_cases k17 : kind = 17
  ·subst k17
   have e1 : namedK 17 = true := rfl
   have e2 : ((17 : Int) == 14) = false := rfl
   have e4 : numB ⟨(17 : Int), num, name, more, to, kids⟩ = (num == 0) := rfl
   have e3 : toB ⟨(17 : Int), num, name, more, to, kids⟩ = emptyS to := toB_ne rfl
   clear c3
   simp (disch := omega) only [go_sem]
   have x1 := @seq_nil
   have x2 : HT 1 (.fr [0, 1, 2, 3, 4, 5] (.stop)) := ⟨⟩
   have x3 : HW 0 [1, 3, 4, 5, 6] [0] := ⟨⟩
   exact wkz
  by_cases k18 : kind = 18
  ·subst k18
   have e1 : namedK 18 = true := rfl
   have e2 : ((18 : Int) == 14) = false := rfl
   have e4 : numB ⟨(18 : Int), num, name, more, to, kids⟩ = (num == 0) := rfl
   have e3 : toB ⟨(18 : Int), num, name, more, to, kids⟩ = emptyS to := toB_ne rfl
   clear c3
   simp (disch := omega) only [go_sem]
   have x1 := @seq_nil
   have x2 : HT 1 (.fr [0, 1, 2, 3, 4, 5] (.stop)) := ⟨⟩
   have x3 : HW 0 [1, 3, 4, 5, 6] [0] := ⟨⟩
   exact wkz
  by_cases k14 : kind = 14
  ·subst k14
   have e1 : namedK 14 = true := rfl
   have e2 : ((14 : Int) == 14) = true := rfl
   have e4 : numB ⟨(14 : Int), num, name, more, to, kids⟩ = (num == 0) := rfl
   cases q : emptyS to
   ·have e3 : toB ⟨(14 : Int), num, name, more, to, kids⟩ = nameOk to := by
     show (if emptyS to = true then true else nameOk to) = _
     rw [q]
     rfl
    simp (disch := omega) only [go_sem]
    repeat' (first | (with_reducible first | refine i_seq ?_ | exact tr_none | refine tr_stop ?_ | refine i_treeQ (id := 1) (.fr [0, 1, 2, 3, 4, 5] (.stop)) mixedT (by kernel_rfl) (fun Q' hQ => ?_)) | ((first | (with_reducible first | refine iBk ?_ | refine iRQ (fun Q' hQ => ?_) | (refine Imp.go hQ ?_; clear hQ) | refine tr_fr ?_ | refine tr_op (aLr ?_) | refine tr_alt (by kernel_rfl) (aLr ?_) ?_ | refine tr_altp ?_ ?_) | ((with_reducible refine i_condT ?_ ?_); (focus (simp only [go_sem, *]; done))) | ((with_reducible refine i_condF ?_ ?_); (focus (simp only [go_sem, *]; done))) | ((with_reducible first | refine rOg (fun h => ?_) (fun h => ?_) | refine pG_split (fun h => ?_) (fun h => ?_) | refine i_cond (by simp only [go_sem, *] <;> rfl) (fun h => ?_) (fun h => ?_)) <;> (try simp only [nqA, nqB, nqC, reduceCtorEq] at h) <;> (try have h' := odT h) <;> (try (have hz : (_ : Int) = (_ : Int) := h'; clear hz h')) <;> (try have h' := odF h) <;> (try have h' := inB_t h) <;> (try (exfalso; omega))) | (((with_reducible first | refine hcO 40 true (c3) ?_ ?_ ?_ ?_ ?_); iterate 4 (focus (simp (disch := omega) only [go_sem, q, Int.reduceBEq, reduceCtorEq, nLo]; done))); simp only [go_sem, q, Int.reduceBEq, reduceCtorEq]; refine aLr ?_)) <;> (try simp (disch := omega) only [go_sem, q, Int.reduceBEq, reduceCtorEq, *])))
    all_goals (try simp (disch := omega) only [EndK, go_sem, q, Int.reduceBEq, reduceCtorEq, nLo, *])
    all_goals first | (refine wCn [1, 3, 4, 5, 6] [0] ?_ ?_ ?_ <;> (simp (disch := omega) only [go_sem, e1, e2, e3, e4, seq_nil, seq_nil']; done))
   ·have e3 : toB ⟨(14 : Int), num, name, more, to, kids⟩ = true := by
     show (if emptyS to = true then true else nameOk to) = _
     rw [q]
     rfl
    simp (disch := omega) only [go_sem]
    repeat' (first | (with_reducible first | refine i_seq ?_ | exact tr_none | refine tr_stop ?_ | refine i_treeQ (id := 1) (.fr [0, 1, 2, 3, 4, 5] (.stop)) mixedT (by kernel_rfl) (fun Q' hQ => ?_)) | ((first | (with_reducible first | refine iBk ?_ | refine iRQ (fun Q' hQ => ?_) | (refine Imp.go hQ ?_; clear hQ) | refine tr_fr ?_ | refine tr_op (aLr ?_) | refine tr_alt (by kernel_rfl) (aLr ?_) ?_ | refine tr_altp ?_ ?_) | ((with_reducible refine i_condT ?_ ?_); (focus (simp only [go_sem, *]; done))) | ((with_reducible refine i_condF ?_ ?_); (focus (simp only [go_sem, *]; done))) | ((with_reducible first | refine rOg (fun h => ?_) (fun h => ?_) | refine pG_split (fun h => ?_) (fun h => ?_) | refine i_cond (by simp only [go_sem, *] <;> rfl) (fun h => ?_) (fun h => ?_)) <;> (try simp only [nqA, nqB, nqC, reduceCtorEq] at h) <;> (try have h' := odT h) <;> (try (have hz : (_ : Int) = (_ : Int) := h'; clear hz h')) <;> (try have h' := odF h) <;> (try have h' := inB_t h) <;> (try (exfalso; omega)))) <;> (try simp (disch := omega) only [go_sem, q, Int.reduceBEq, reduceCtorEq, *])))
    all_goals (try simp (disch := omega) only [EndK, go_sem, q, Int.reduceBEq, reduceCtorEq, nLo, *])
    all_goals first | (refine wCn [1, 3, 4, 5, 6] [0] ?_ ?_ ?_ <;> (simp (disch := omega) only [go_sem, e1, e2, e3, e4, seq_nil, seq_nil']; done))
  by_cases k1 : kind = 1
  ·subst k1
   have e1 : namedK 1 = false := rfl
   have e2 : ((1 : Int) == 14) = false := rfl
   have e4 : numB ⟨(1 : Int), num, name, more, to, kids⟩ = (inB num 0 1000000) := rfl
   have e3 : toB ⟨(1 : Int), num, name, more, to, kids⟩ = emptyS to := toB_ne rfl
   clear c3
   simp (disch := omega) only [go_sem]
   repeat' (first | (with_reducible first | refine i_seq ?_ | exact tr_none | refine tr_stop ?_ | refine i_treeQ (id := 1) (.fr [0, 1, 2, 3, 4, 5] (.stop)) mixedT (by kernel_rfl) (fun Q' hQ => ?_)) | ((first | (with_reducible first | refine iBk ?_ | refine iRQ (fun Q' hQ => ?_) | (refine Imp.go hQ ?_; clear hQ) | refine tr_fr ?_ | refine tr_op (aLr ?_) | refine tr_alt (by kernel_rfl) (aLr ?_) ?_ | refine tr_altp ?_ ?_) | ((with_reducible refine i_condT ?_ ?_); (focus (simp only [go_sem, *]; done))) | ((with_reducible refine i_condF ?_ ?_); (focus (simp only [go_sem, *]; done))) | ((with_reducible first | refine rOg (fun h => ?_) (fun h => ?_) | refine pG_split (fun h => ?_) (fun h => ?_) | refine i_cond (by simp only [go_sem, *] <;> rfl) (fun h => ?_) (fun h => ?_)) <;> (try simp only [nqA, nqB, nqC, reduceCtorEq] at h) <;> (try have h' := odT h) <;> (try (have hz : (_ : Int) = (_ : Int) := h'; clear hz h')) <;> (try have h' := odF h) <;> (try have h' := inB_t h) <;> (try (exfalso; omega))) | (((with_reducible first | refine hcO 40 true (within_ok num 0 1000000) ?_ ?_ ?_ ?_ ?_); iterate 4 (focus (simp (disch := omega) only [go_sem, Int.reduceBEq, reduceCtorEq, nLo]; done))); simp only [go_sem, Int.reduceBEq, reduceCtorEq]; refine aLr ?_)) <;> (try simp (disch := omega) only [go_sem, Int.reduceBEq, reduceCtorEq, *])))
   all_goals (try simp (disch := omega) only [EndK, go_sem, Int.reduceBEq, reduceCtorEq, nLo, *])
   all_goals first | (refine wCn [1, 3, 4, 5, 6] [0] ?_ ?_ ?_ <;> (simp (disch := omega) only [go_sem, e1, e2, e3, e4, seq_nil, seq_nil']; done))
  by_cases k3 : kind = 3
  ·subst k3
   have e1 : namedK 3 = false := rfl
   have e2 : ((3 : Int) == 14) = false := rfl
   have e4 : numB ⟨(3 : Int), num, name, more, to, kids⟩ = (inB num 1 9) := rfl
   have e3 : toB ⟨(3 : Int), num, name, more, to, kids⟩ = emptyS to := toB_ne rfl
   clear c3
   simp (disch := omega) only [go_sem]
   repeat' (first | (with_reducible first | refine i_seq ?_ | exact tr_none | refine tr_stop ?_ | refine i_treeQ (id := 1) (.fr [0, 1, 2, 3, 4, 5] (.stop)) mixedT (by kernel_rfl) (fun Q' hQ => ?_)) | ((first | (with_reducible first | refine iBk ?_ | refine iRQ (fun Q' hQ => ?_) | (refine Imp.go hQ ?_; clear hQ) | refine tr_fr ?_ | refine tr_op (aLr ?_) | refine tr_alt (by kernel_rfl) (aLr ?_) ?_ | refine tr_altp ?_ ?_) | ((with_reducible refine i_condT ?_ ?_); (focus (simp only [go_sem, *]; done))) | ((with_reducible refine i_condF ?_ ?_); (focus (simp only [go_sem, *]; done))) | ((with_reducible first | refine rOg (fun h => ?_) (fun h => ?_) | refine pG_split (fun h => ?_) (fun h => ?_) | refine i_cond (by simp only [go_sem, *] <;> rfl) (fun h => ?_) (fun h => ?_)) <;> (try simp only [nqA, nqB, nqC, reduceCtorEq] at h) <;> (try have h' := odT h) <;> (try (have hz : (_ : Int) = (_ : Int) := h'; clear hz h')) <;> (try have h' := odF h) <;> (try have h' := inB_t h) <;> (try (exfalso; omega))) | (((with_reducible first | refine hcO 40 true (within_ok num 1 9) ?_ ?_ ?_ ?_ ?_); iterate 4 (focus (simp (disch := omega) only [go_sem, Int.reduceBEq, reduceCtorEq, nLo]; done))); simp only [go_sem, Int.reduceBEq, reduceCtorEq]; refine aLr ?_)) <;> (try simp (disch := omega) only [go_sem, Int.reduceBEq, reduceCtorEq, *])))
   all_goals (try simp (disch := omega) only [EndK, go_sem, Int.reduceBEq, reduceCtorEq, nLo, *])
   all_goals first | (refine wCn [1, 3, 4, 5, 6] [0] ?_ ?_ ?_ <;> (simp (disch := omega) only [go_sem, e1, e2, e3, e4, seq_nil, seq_nil']; done))
  have b2 : (kind == 2) = false := beq_eq_false_iff_ne.2 k2
  have b11 : (kind == 11) = false := beq_eq_false_iff_ne.2 k11
  have b16 : (kind == 16) = false := beq_eq_false_iff_ne.2 k16
  have b17 : (kind == 17) = false := beq_eq_false_iff_ne.2 k17
  have b18 : (kind == 18) = false := beq_eq_false_iff_ne.2 k18
  have b14 : (kind == 14) = false := beq_eq_false_iff_ne.2 k14
  have b1 : (kind == 1) = false := beq_eq_false_iff_ne.2 k1
  have b3 : (kind == 3) = false := beq_eq_false_iff_ne.2 k3
  have e1 : namedK kind = false := by unfold namedK; simp only [b2, b11, b16, b17, b18, b14, b1, b3, Bool.or_false]
  have e4 : numB ⟨kind, num, name, more, to, kids⟩ = (num == 0) := by
   show (if (kind == 1) = true then _ else if (kind == 3) = true then _ else _) = _
   rw [b1, b3, if_neg (by simp), if_neg (by simp)]
  have e3 : toB ⟨kind, num, name, more, to, kids⟩ = emptyS to := toB_ne b14
  clear c3
  simp (disch := omega) only [go_sem]
  have x1 := @seq_nil
  have x2 : HT 1 (.fr [0, 1, 2, 3, 4, 5] (.stop)) := ⟨⟩
  have x3 : HW 0 [1, 3, 4, 5, 6] [0] := ⟨⟩
  exact wkz
 clear c3
 obtain ⟨nb, hnb⟩ : ∃ x, namedK kind = x := ⟨_, rfl⟩
 obtain ⟨mb, hmb⟩ : ∃ x, (kind == 14) = x := ⟨_, rfl⟩
 obtain ⟨tb, htb⟩ : ∃ x, toB ⟨kind, num, name, more, to, kids⟩ = x := ⟨_, rfl⟩
 obtain ⟨nu, hnu⟩ : ∃ x, numB ⟨kind, num, name, more, to, kids⟩ = x := ⟨_, rfl⟩
 rw [hnb, hmb, htb, hnu]
 clear hnb hmb htb hnu
 simp (disch := omega) only [go_sem]
 refine s_of_a ?_
 cases nu
 ·simp (disch := omega) only [go_sem]
  have x1 : HT 1 (.fr [0, 1, 2, 3, 4, 5] (.stop)) := ⟨⟩
  exact wk
 cases tb
 ·simp (disch := omega) only [go_sem]
  have x1 : HT 1 (.fr [0, 1, 2, 3, 4, 5] (.stop)) := ⟨⟩
  exact wk
 rcases nb with _ | _
 ·have o1 : oneB false name = emptyS name := rfl
  rw [o1]
  cases q1 : emptyS name
  ·simp (disch := omega) only [go_sem]
   have x1 := @seq_nil
   have x2 : HT 1 (.fr [0, 1, 2, 3, 4, 5] (.stop)) := ⟨⟩
   exact wk
  ·cases mb
   ·have o2 : oneB false more = emptyS more := rfl
    rw [o2]
    cases q2 : emptyS more
    ·clear c2
     simp (disch := omega) only [go_sem]
     have x1 := @seq_nil
     have x2 : HT 1 (.fr [0, 1, 2, 3, 4, 5] (.stop)) := ⟨⟩
     exact wk
    ·clear c2
     simp (disch := omega) only [go_sem]
     have x1 := @seq_nil
     have x2 : HT 1 (.fr [0, 1, 2, 3, 4, 5] (.stop)) := ⟨⟩
     exact wk
   ·have o2 : oneB true more = nameOk more := rfl
    rw [o2]
    cases q2 : nameOk more
    ·rw [q2] at c2
     simp (disch := omega) only [go_sem]
     have x1 := @seq_nil
     have x2 : HT 1 (.fr [0, 1, 2, 3, 4, 5] (.stop)) := ⟨⟩
     exact wk
    ·rw [q2] at c2
     simp (disch := omega) only [go_sem]
     have x1 := @seq_nil
     have x2 : HT 1 (.fr [0, 1, 2, 3, 4, 5] (.stop)) := ⟨⟩
     exact wk
 skip
 ·have o1 : oneB true name = nameOk name := rfl
  rw [o1]
  cases q1 : nameOk name
  ·rw [q1] at c1
   clear c2
   simp (disch := omega) only [go_sem]
   have x1 := @seq_nil
   have x2 : HT 1 (.fr [0, 1, 2, 3, 4, 5] (.stop)) := ⟨⟩
   exact wk
  ·rw [q1] at c1
   cases mb
   ·have o2 : oneB false more = emptyS more := rfl
    rw [o2]
    cases q2 : emptyS more
    ·clear c2
     simp (disch := omega) only [go_sem]
     have x1 := @seq_nil
     have x2 : HT 1 (.fr [0, 1, 2, 3, 4, 5] (.stop)) := ⟨⟩
     exact wk
    ·clear c2
     simp (disch := omega) only [go_sem]
     have x1 := @seq_nil
     have x2 : HT 1 (.fr [0, 1, 2, 3, 4, 5] (.stop)) := ⟨⟩
     exact wk
   ·have o2 : oneB true more = nameOk more := rfl
    rw [o2]
    cases q2 : nameOk more
    ·rw [q2] at c2
     simp (disch := omega) only [go_sem]
     have x1 := @seq_nil
     have x2 : HT 1 (.fr [0, 1, 2, 3, 4, 5] (.stop)) := ⟨⟩
     have x3 : HC 1 _ := ⟨c1⟩
     have x4 : HC 2 _ := ⟨c2⟩
     exact wk
    ·rw [q2] at c2
     simp (disch := omega) only [go_sem]
     have x1 := @seq_nil
     have x2 : HT 1 (.fr [0, 1, 2, 3, 4, 5] (.stop)) := ⟨⟩
     have x3 : HC 1 _ := ⟨c1⟩
     have x4 : HC 2 _ := ⟨c2⟩
     exact wk
end Go.Proofs.YtejnpiielcbkkaaGreat.E
end
