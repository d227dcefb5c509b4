/- A part of what stands under the laws of this seat: an abstract evaluator that is proved sound, and contracts of functions by it. No condition beside those that stand in each statement. -/
import Derived.Test.YtejnpiielcbkkaaGreatZP8
import Derived.Test.YtejnpiielcbkkaaGreatZR24
set_option linter.unusedVariables false
set_option linter.unusedSimpArgs false
set_option maxRecDepth 100000
set_option maxHeartbeats 4000000
namespace Go.Proofs.YtejnpiielcbkkaaGreat.E
def kidsS (p : Prgm) (k : Nat) : Bool :=
 if (p.nodes.getD k nodeZ).kind = 1 ∨ (p.nodes.getD k nodeZ).kind = 2 ∨ (p.nodes.getD k nodeZ).kind = 16 ∨ (p.nodes.getD k nodeZ).kind = 17 ∨ (p.nodes.getD k nodeZ).kind = 18 ∨ (p.nodes.getD k nodeZ).kind = 19 then (((p.nodes.getD k nodeZ).kids.length : Int) == 0)
 else if (p.nodes.getD k nodeZ).kind = 3 then (if (((p.nodes.getD k nodeZ).kids.length : Int) == 2) = false then false else valsF p k 2 0)
 else if (p.nodes.getD k nodeZ).kind = 4 ∨ (p.nodes.getD k nodeZ).kind = 5 ∨ (p.nodes.getD k nodeZ).kind = 11 ∨ (p.nodes.getD k nodeZ).kind = 14 ∨ (p.nodes.getD k nodeZ).kind = 15 then (if (((p.nodes.getD k nodeZ).kids.length : Int) == 1) = false then false else valsF p k 1 0)
 else if (p.nodes.getD k nodeZ).kind = 12 then (if (((p.nodes.getD k nodeZ).kids.length : Int) == 2) = false ∧ (((p.nodes.getD k nodeZ).kids.length : Int) == 3) = false then false else if valsF p k 1 0 = false then false else blksF p k ((p.nodes.getD k nodeZ).kids.length - 1) 1)
 else if (p.nodes.getD k nodeZ).kind = 13 then (if (((p.nodes.getD k nodeZ).kids.length : Int) == 2) = false then false else if valsF p k 1 0 = false then false else blksF p k ((p.nodes.getD k nodeZ).kids.length - 1) 1)
 else if stsF p k (p.nodes.getD k nodeZ).kids.length 0 = false then false else inB (p.nodes.getD k nodeZ).kids.length 1 12
theorem sKids_ok' (p : Prgm) (k : Nat) (hN : p.nodes.length ≤ 1048576) (hk : k < p.nodes.length) (hK : (p.nodes.getD k nodeZ).kids.length ≤ 1048576) : CallOk Tryz.prog 218 [.agg (programR p), .one (iV k)] (.s (.one (bV (kidsS p k)))) [none, none] := by
 unfold kidsS
 obtain ⟨kd, hkd⟩ : ∃ x, (p.nodes.getD k nodeZ).kind = x := ⟨_, rfl⟩
 rw [hkd]
 have cV := fun m hm => sValues_ok p k hN hk hK m hm
 have cB := fun h1 => sBlocks_ok p k hN hk hK h1
 by_cases k1 : kd = 1
 ·subst k1
  rw [if_pos (by omega)]
  clear cV cB
  refine cOh 40 (hBd Tryz.func218 rfl (by kernel_rfl) ?_)
  simp (disch := omega) only [go_sem, Tryz.ntmps218, Tryz.results218]
  exact wki
 by_cases k2 : kd = 2
 ·subst k2
  rw [if_pos (by omega)]
  clear cV cB
  refine cOh 40 (hBd Tryz.func218 rfl (by kernel_rfl) ?_)
  simp (disch := omega) only [go_sem, Tryz.ntmps218, Tryz.results218]
  exact wki
 by_cases k16 : kd = 16
 ·subst k16
  rw [if_pos (by omega)]
  clear cV cB
  refine cOh 40 (hBd Tryz.func218 rfl (by kernel_rfl) ?_)
  simp (disch := omega) only [go_sem, Tryz.ntmps218, Tryz.results218]
  exact wki
 by_cases k17 : kd = 17
 ·subst k17
  rw [if_pos (by omega)]
  clear cV cB
  refine cOh 40 (hBd Tryz.func218 rfl (by kernel_rfl) ?_)
  simp (disch := omega) only [go_sem, Tryz.ntmps218, Tryz.results218]
  exact wki
 by_cases k18 : kd = 18
 ·subst k18
  rw [if_pos (by omega)]
  clear cV cB
  refine cOh 40 (hBd Tryz.func218 rfl (by kernel_rfl) ?_)
  simp (disch := omega) only [go_sem, Tryz.ntmps218, Tryz.results218]
  exact wki
 by_cases k19 : kd = 19
 ·subst k19
  rw [if_pos (by omega)]
  clear cV cB
  refine cOh 40 (hBd Tryz.func218 rfl (by kernel_rfl) ?_)
  simp (disch := omega) only [go_sem, Tryz.ntmps218, Tryz.results218]
  exact wki
 rw [if_neg (by omega)]
 by_cases k3 : kd = 3
 ·subst k3
  rw [if_pos rfl]
  cases q : (((p.nodes.getD k nodeZ).kids.length : Int) == 2)
  ·rw [if_pos rfl]
   clear cV cB
   refine cOh 40 (hBd Tryz.func218 rfl (by kernel_rfl) ?_)
   simp (disch := omega) only [go_sem, Tryz.ntmps218, Tryz.results218]
   exact wki
  ·rw [if_neg (by simp)]
   have hl : (p.nodes.getD k nodeZ).kids.length = 2 := by have := beq_iff_eq.1 q; omega
   have c0 := cV 2 (by omega)
   clear cV cB hl
   refine cOh 40 (hBd Tryz.func218 rfl (by kernel_rfl) ?_)
   simp (disch := omega) only [go_sem, Tryz.ntmps218, Tryz.results218]
   repeat' (first | (with_reducible first | refine i_seq ?_) | ((first | (with_reducible first | refine iBk ?_ | refine iRQ (fun Q' hQ => ?_) | (refine Imp.go hQ ?_; clear hQ)) | ((with_reducible refine i_condT ?_ ?_); (focus (simp only [go_sem, *]; done))) | ((with_reducible refine i_condF ?_ ?_); (focus (simp only [go_sem, *]; done))) | ((with_reducible first | refine rOg (fun h => ?_) (fun h => ?_) | refine i_cond (by simp only [go_sem, *] <;> rfl) (fun h => ?_) (fun h => ?_)) <;> (try simp only [nqA, nqB, nqC, reduceCtorEq] at h) <;> (try have h' := odT h) <;> (try (have hz : (_ : Int) = (_ : Int) := h'; clear hz h')) <;> (try have h' := odF h) <;> (try have h' := inB_t h) <;> (try (exfalso; omega))) | (((with_reducible refine hcO 40 true (c0) ?_ ?_ ?_ ?_ ?_); iterate 4 (focus (simp (disch := omega) only [go_sem, hkd, q, Int.reduceBEq, reduceCtorEq, nLo]; done))); simp only [go_sem, hkd, q, Int.reduceBEq, reduceCtorEq]; refine aLr ?_)) <;> (try simp (disch := omega) only [go_sem, hkd, q, Int.reduceBEq, reduceCtorEq, *])))
   all_goals (try simp (disch := omega) only [EndK, go_sem, hkd, q, Int.reduceBEq, reduceCtorEq, nLo, *])
 rw [if_neg k3]
 by_cases k4 : kd = 4
 ·subst k4
  rw [if_pos (by omega)]
  cases q : (((p.nodes.getD k nodeZ).kids.length : Int) == 1)
  ·rw [if_pos rfl]
   clear cV cB
   refine cOh 40 (hBd Tryz.func218 rfl (by kernel_rfl) ?_)
   simp (disch := omega) only [go_sem, Tryz.ntmps218, Tryz.results218]
   exact wki
  ·rw [if_neg (by simp)]
   have hl : (p.nodes.getD k nodeZ).kids.length = 1 := by have := beq_iff_eq.1 q; omega
   have c0 := cV 1 (by omega)
   clear cV cB hl
   refine cOh 40 (hBd Tryz.func218 rfl (by kernel_rfl) ?_)
   simp (disch := omega) only [go_sem, Tryz.ntmps218, Tryz.results218]
   repeat' (first | (with_reducible first | refine i_seq ?_) | ((first | (with_reducible first | refine iBk ?_ | refine iRQ (fun Q' hQ => ?_) | (refine Imp.go hQ ?_; clear hQ)) | ((with_reducible refine i_condT ?_ ?_); (focus (simp only [go_sem, *]; done))) | ((with_reducible refine i_condF ?_ ?_); (focus (simp only [go_sem, *]; done))) | ((with_reducible first | refine rOg (fun h => ?_) (fun h => ?_) | refine i_cond (by simp only [go_sem, *] <;> rfl) (fun h => ?_) (fun h => ?_)) <;> (try simp only [nqA, nqB, nqC, reduceCtorEq] at h) <;> (try have h' := odT h) <;> (try (have hz : (_ : Int) = (_ : Int) := h'; clear hz h')) <;> (try have h' := odF h) <;> (try have h' := inB_t h) <;> (try (exfalso; omega))) | (((with_reducible refine hcO 40 true (c0) ?_ ?_ ?_ ?_ ?_); iterate 4 (focus (simp (disch := omega) only [go_sem, hkd, q, Int.reduceBEq, reduceCtorEq, nLo]; done))); simp only [go_sem, hkd, q, Int.reduceBEq, reduceCtorEq]; refine aLr ?_)) <;> (try simp (disch := omega) only [go_sem, hkd, q, Int.reduceBEq, reduceCtorEq, *])))
   all_goals (try simp (disch := omega) only [EndK, go_sem, hkd, q, Int.reduceBEq, reduceCtorEq, nLo, *])
 by_cases k5 : kd = 5
 ·subst k5
  rw [if_pos (by omega)]
  cases q : (((p.nodes.getD k nodeZ).kids.length : Int) == 1)
  ·rw [if_pos rfl]
   clear cV cB
   refine cOh 40 (hBd Tryz.func218 rfl (by kernel_rfl) ?_)
   simp (disch := omega) only [go_sem, Tryz.ntmps218, Tryz.results218]
   exact wki
  ·rw [if_neg (by simp)]
   have hl : (p.nodes.getD k nodeZ).kids.length = 1 := by have := beq_iff_eq.1 q; omega
   have c0 := cV 1 (by omega)
   clear cV cB hl
   refine cOh 40 (hBd Tryz.func218 rfl (by kernel_rfl) ?_)
   simp (disch := omega) only [go_sem, Tryz.ntmps218, Tryz.results218]
   repeat' (first | (with_reducible first | refine i_seq ?_) | ((first | (with_reducible first | refine iBk ?_ | refine iRQ (fun Q' hQ => ?_) | (refine Imp.go hQ ?_; clear hQ)) | ((with_reducible refine i_condT ?_ ?_); (focus (simp only [go_sem, *]; done))) | ((with_reducible refine i_condF ?_ ?_); (focus (simp only [go_sem, *]; done))) | ((with_reducible first | refine rOg (fun h => ?_) (fun h => ?_) | refine i_cond (by simp only [go_sem, *] <;> rfl) (fun h => ?_) (fun h => ?_)) <;> (try simp only [nqA, nqB, nqC, reduceCtorEq] at h) <;> (try have h' := odT h) <;> (try (have hz : (_ : Int) = (_ : Int) := h'; clear hz h')) <;> (try have h' := odF h) <;> (try have h' := inB_t h) <;> (try (exfalso; omega))) | (((with_reducible refine hcO 40 true (c0) ?_ ?_ ?_ ?_ ?_); iterate 4 (focus (simp (disch := omega) only [go_sem, hkd, q, Int.reduceBEq, reduceCtorEq, nLo]; done))); simp only [go_sem, hkd, q, Int.reduceBEq, reduceCtorEq]; refine aLr ?_)) <;> (try simp (disch := omega) only [go_sem, hkd, q, Int.reduceBEq, reduceCtorEq, *])))
   all_goals (try simp (disch := omega) only [EndK, go_sem, hkd, q, Int.reduceBEq, reduceCtorEq, nLo, *])
 by_cases k11 : kd = 11
 ·subst k11
  rw [if_pos (by omega)]
  cases q : (((p.nodes.getD k nodeZ).kids.length : Int) == 1)
  ·rw [if_pos rfl]
   clear cV cB
   refine cOh 40 (hBd Tryz.func218 rfl (by kernel_rfl) ?_)
   simp (disch := omega) only [go_sem, Tryz.ntmps218, Tryz.results218]
   exact wki
  ·rw [if_neg (by simp)]
   have hl : (p.nodes.getD k nodeZ).kids.length = 1 := by have := beq_iff_eq.1 q; omega
   have c0 := cV 1 (by omega)
   clear cV cB hl
   refine cOh 40 (hBd Tryz.func218 rfl (by kernel_rfl) ?_)
   simp (disch := omega) only [go_sem, Tryz.ntmps218, Tryz.results218]
   repeat' (first | (with_reducible first | refine i_seq ?_) | ((first | (with_reducible first | refine iBk ?_ | refine iRQ (fun Q' hQ => ?_) | (refine Imp.go hQ ?_; clear hQ)) | ((with_reducible refine i_condT ?_ ?_); (focus (simp only [go_sem, *]; done))) | ((with_reducible refine i_condF ?_ ?_); (focus (simp only [go_sem, *]; done))) | ((with_reducible first | refine rOg (fun h => ?_) (fun h => ?_) | refine i_cond (by simp only [go_sem, *] <;> rfl) (fun h => ?_) (fun h => ?_)) <;> (try simp only [nqA, nqB, nqC, reduceCtorEq] at h) <;> (try have h' := odT h) <;> (try (have hz : (_ : Int) = (_ : Int) := h'; clear hz h')) <;> (try have h' := odF h) <;> (try have h' := inB_t h) <;> (try (exfalso; omega))) | (((with_reducible refine hcO 40 true (c0) ?_ ?_ ?_ ?_ ?_); iterate 4 (focus (simp (disch := omega) only [go_sem, hkd, q, Int.reduceBEq, reduceCtorEq, nLo]; done))); simp only [go_sem, hkd, q, Int.reduceBEq, reduceCtorEq]; refine aLr ?_)) <;> (try simp (disch := omega) only [go_sem, hkd, q, Int.reduceBEq, reduceCtorEq, *])))
   all_goals (try simp (disch := omega) only [EndK, go_sem, hkd, q, Int.reduceBEq, reduceCtorEq, nLo, *])
 by_cases k14 : kd = 14
 ·subst k14
  rw [if_pos (by omega)]
  cases q : (((p.nodes.getD k nodeZ).kids.length : Int) == 1)
  ·rw [if_pos rfl]
   clear cV cB
   refine cOh 40 (hBd Tryz.func218 rfl (by kernel_rfl) ?_)
   simp (disch := omega) only [go_sem, Tryz.ntmps218, Tryz.results218]
   exact wki
  ·rw [if_neg (by simp)]
   have hl : (p.nodes.getD k nodeZ).kids.length = 1 := by have := beq_iff_eq.1 q; omega
   have c0 := cV 1 (by omega)
   clear cV cB hl
   refine cOh 40 (hBd Tryz.func218 rfl (by kernel_rfl) ?_)
   simp (disch := omega) only [go_sem, Tryz.ntmps218, Tryz.results218]
   repeat' (first | (with_reducible first | refine i_seq ?_) | ((first | (with_reducible first | refine iBk ?_ | refine iRQ (fun Q' hQ => ?_) | (refine Imp.go hQ ?_; clear hQ)) | ((with_reducible refine i_condT ?_ ?_); (focus (simp only [go_sem, *]; done))) | ((with_reducible refine i_condF ?_ ?_); (focus (simp only [go_sem, *]; done))) | ((with_reducible first | refine rOg (fun h => ?_) (fun h => ?_) | refine i_cond (by simp only [go_sem, *] <;> rfl) (fun h => ?_) (fun h => ?_)) <;> (try simp only [nqA, nqB, nqC, reduceCtorEq] at h) <;> (try have h' := odT h) <;> (try (have hz : (_ : Int) = (_ : Int) := h'; clear hz h')) <;> (try have h' := odF h) <;> (try have h' := inB_t h) <;> (try (exfalso; omega))) | (((with_reducible refine hcO 40 true (c0) ?_ ?_ ?_ ?_ ?_); iterate 4 (focus (simp (disch := omega) only [go_sem, hkd, q, Int.reduceBEq, reduceCtorEq, nLo]; done))); simp only [go_sem, hkd, q, Int.reduceBEq, reduceCtorEq]; refine aLr ?_)) <;> (try simp (disch := omega) only [go_sem, hkd, q, Int.reduceBEq, reduceCtorEq, *])))
   all_goals (try simp (disch := omega) only [EndK, go_sem, hkd, q, Int.reduceBEq, reduceCtorEq, nLo, *])
 by_cases k15 : kd = 15
 ·subst k15
  rw [if_pos (by omega)]
  cases q : (((p.nodes.getD k nodeZ).kids.length : Int) == 1)
  ·rw [if_pos rfl]
   clear cV cB
   refine cOh 40 (hBd Tryz.func218 rfl (by kernel_rfl) ?_)
   simp (disch := omega) only [go_sem, Tryz.ntmps218, Tryz.results218]
   exact wki
  ·rw [if_neg (by simp)]
   have hl : (p.nodes.getD k nodeZ).kids.length = 1 := by have := beq_iff_eq.1 q; omega
   have c0 := cV 1 (by omega)
   clear cV cB hl
   refine cOh 40 (hBd Tryz.func218 rfl (by kernel_rfl) ?_)
   simp (disch := omega) only [go_sem, Tryz.ntmps218, Tryz.results218]
   repeat' (first | (with_reducible first | refine i_seq ?_) | ((first | (with_reducible first | refine iBk ?_ | refine iRQ (fun Q' hQ => ?_) | (refine Imp.go hQ ?_; clear hQ)) | ((with_reducible refine i_condT ?_ ?_); (focus (simp only [go_sem, *]; done))) | ((with_reducible refine i_condF ?_ ?_); (focus (simp only [go_sem, *]; done))) | ((with_reducible first | refine rOg (fun h => ?_) (fun h => ?_) | refine i_cond (by simp only [go_sem, *] <;> rfl) (fun h => ?_) (fun h => ?_)) <;> (try simp only [nqA, nqB, nqC, reduceCtorEq] at h) <;> (try have h' := odT h) <;> (try (have hz : (_ : Int) = (_ : Int) := h'; clear hz h')) <;> (try have h' := odF h) <;> (try have h' := inB_t h) <;> (try (exfalso; omega))) | (((with_reducible refine hcO 40 true (c0) ?_ ?_ ?_ ?_ ?_); iterate 4 (focus (simp (disch := omega) only [go_sem, hkd, q, Int.reduceBEq, reduceCtorEq, nLo]; done))); simp only [go_sem, hkd, q, Int.reduceBEq, reduceCtorEq]; refine aLr ?_)) <;> (try simp (disch := omega) only [go_sem, hkd, q, Int.reduceBEq, reduceCtorEq, *])))
   all_goals (try simp (disch := omega) only [EndK, go_sem, hkd, q, Int.reduceBEq, reduceCtorEq, nLo, *])
 rw [if_neg (by omega)]
 by_cases k12 : kd = 12
 ·subst k12
  rw [if_pos rfl]
  cases q : (((p.nodes.getD k nodeZ).kids.length : Int) == 2)
  ·cases q2 : (((p.nodes.getD k nodeZ).kids.length : Int) == 3)
   ·rw [if_pos ⟨rfl, rfl⟩]
    clear cV cB
    refine cOh 40 (hBd Tryz.func218 rfl (by kernel_rfl) ?_)
    simp (disch := omega) only [go_sem, Tryz.ntmps218, Tryz.results218]
    exact wki
   ·rw [if_neg (by simp)]
    have hl : (p.nodes.getD k nodeZ).kids.length = 3 := by have := beq_iff_eq.1 q2; omega
    have c0 := cV 1 (by omega)
    have c1 := cB (by omega)
    clear cV cB hl
    cases q3 : valsF p k 1 0
    ·rw [q3] at c0
     rw [if_pos rfl]
     refine cOh 40 (hBd Tryz.func218 rfl (by kernel_rfl) ?_)
     simp (disch := omega) only [go_sem, Tryz.ntmps218, Tryz.results218]
     repeat' (first | (with_reducible first | refine i_seq ?_) | ((first | (with_reducible first | refine iBk ?_ | refine iRQ (fun Q' hQ => ?_) | (refine Imp.go hQ ?_; clear hQ)) | ((with_reducible refine i_condT ?_ ?_); (focus (simp only [go_sem, *]; done))) | ((with_reducible refine i_condF ?_ ?_); (focus (simp only [go_sem, *]; done))) | ((with_reducible first | refine rOg (fun h => ?_) (fun h => ?_) | refine i_cond (by simp only [go_sem, *] <;> rfl) (fun h => ?_) (fun h => ?_)) <;> (try simp only [nqA, nqB, nqC, reduceCtorEq] at h) <;> (try have h' := odT h) <;> (try (have hz : (_ : Int) = (_ : Int) := h'; clear hz h')) <;> (try have h' := odF h) <;> (try have h' := inB_t h) <;> (try (exfalso; omega))) | (((with_reducible refine hcO 40 true (c0) ?_ ?_ ?_ ?_ ?_); iterate 4 (focus (simp (disch := omega) only [go_sem, hkd, q, q2, Int.reduceBEq, reduceCtorEq, nLo]; done))); simp only [go_sem, hkd, q, q2, Int.reduceBEq, reduceCtorEq]; refine aLr ?_)) <;> (try simp (disch := omega) only [go_sem, hkd, q, q2, Int.reduceBEq, reduceCtorEq, *])))
     all_goals (try simp (disch := omega) only [EndK, go_sem, hkd, q, q2, Int.reduceBEq, reduceCtorEq, nLo, *])
    ·rw [q3] at c0
     rw [if_neg (by simp)]
     refine cOh 40 (hBd Tryz.func218 rfl (by kernel_rfl) ?_)
     simp (disch := omega) only [go_sem, Tryz.ntmps218, Tryz.results218]
     repeat' (first | (with_reducible first | refine i_seq ?_) | ((first | (with_reducible first | refine iBk ?_ | refine iRQ (fun Q' hQ => ?_) | (refine Imp.go hQ ?_; clear hQ)) | ((with_reducible refine i_condT ?_ ?_); (focus (simp only [go_sem, *]; done))) | ((with_reducible refine i_condF ?_ ?_); (focus (simp only [go_sem, *]; done))) | ((with_reducible first | refine rOg (fun h => ?_) (fun h => ?_) | refine i_cond (by simp only [go_sem, *] <;> rfl) (fun h => ?_) (fun h => ?_)) <;> (try simp only [nqA, nqB, nqC, reduceCtorEq] at h) <;> (try have h' := odT h) <;> (try (have hz : (_ : Int) = (_ : Int) := h'; clear hz h')) <;> (try have h' := odF h) <;> (try have h' := inB_t h) <;> (try (exfalso; omega))) | ((first | ((with_reducible refine hcO 40 true (c0) ?_ ?_ ?_ ?_ ?_); iterate 4 (focus (simp (disch := omega) only [go_sem, hkd, q, q2, Int.reduceBEq, reduceCtorEq, nLo]; done))) | ((with_reducible refine hcO 40 true (c1) ?_ ?_ ?_ ?_ ?_); iterate 4 (focus (simp (disch := omega) only [go_sem, hkd, q, q2, Int.reduceBEq, reduceCtorEq, nLo]; done)))); simp only [go_sem, hkd, q, q2, Int.reduceBEq, reduceCtorEq]; refine aLr ?_)) <;> (try simp (disch := omega) only [go_sem, hkd, q, q2, Int.reduceBEq, reduceCtorEq, *])))
     all_goals (try simp (disch := omega) only [EndK, go_sem, hkd, q, q2, Int.reduceBEq, reduceCtorEq, nLo, *])
  ·rw [if_neg (by simp)]
   have hl : (p.nodes.getD k nodeZ).kids.length = 2 := by have := beq_iff_eq.1 q; omega
   have c0 := cV 1 (by omega)
   have c1 := cB (by omega)
   clear cV cB hl
   cases q3 : valsF p k 1 0
   ·rw [q3] at c0
    rw [if_pos rfl]
    refine cOh 40 (hBd Tryz.func218 rfl (by kernel_rfl) ?_)
    simp (disch := omega) only [go_sem, Tryz.ntmps218, Tryz.results218]
    repeat' (first | (with_reducible first | refine i_seq ?_) | ((first | (with_reducible first | refine iBk ?_ | refine iRQ (fun Q' hQ => ?_) | (refine Imp.go hQ ?_; clear hQ)) | ((with_reducible refine i_condT ?_ ?_); (focus (simp only [go_sem, *]; done))) | ((with_reducible refine i_condF ?_ ?_); (focus (simp only [go_sem, *]; done))) | ((with_reducible first | refine rOg (fun h => ?_) (fun h => ?_) | refine i_cond (by simp only [go_sem, *] <;> rfl) (fun h => ?_) (fun h => ?_)) <;> (try simp only [nqA, nqB, nqC, reduceCtorEq] at h) <;> (try have h' := odT h) <;> (try (have hz : (_ : Int) = (_ : Int) := h'; clear hz h')) <;> (try have h' := odF h) <;> (try have h' := inB_t h) <;> (try (exfalso; omega))) | (((with_reducible refine hcO 40 true (c0) ?_ ?_ ?_ ?_ ?_); iterate 4 (focus (simp (disch := omega) only [go_sem, hkd, q, Int.reduceBEq, reduceCtorEq, nLo]; done))); simp only [go_sem, hkd, q, Int.reduceBEq, reduceCtorEq]; refine aLr ?_)) <;> (try simp (disch := omega) only [go_sem, hkd, q, Int.reduceBEq, reduceCtorEq, *])))
    all_goals (try simp (disch := omega) only [EndK, go_sem, hkd, q, Int.reduceBEq, reduceCtorEq, nLo, *])
   ·rw [q3] at c0
    rw [if_neg (by simp)]
    refine cOh 40 (hBd Tryz.func218 rfl (by kernel_rfl) ?_)
    simp (disch := omega) only [go_sem, Tryz.ntmps218, Tryz.results218]
    repeat' (first | (with_reducible first | refine i_seq ?_) | ((first | (with_reducible first | refine iBk ?_ | refine iRQ (fun Q' hQ => ?_) | (refine Imp.go hQ ?_; clear hQ)) | ((with_reducible refine i_condT ?_ ?_); (focus (simp only [go_sem, *]; done))) | ((with_reducible refine i_condF ?_ ?_); (focus (simp only [go_sem, *]; done))) | ((with_reducible first | refine rOg (fun h => ?_) (fun h => ?_) | refine i_cond (by simp only [go_sem, *] <;> rfl) (fun h => ?_) (fun h => ?_)) <;> (try simp only [nqA, nqB, nqC, reduceCtorEq] at h) <;> (try have h' := odT h) <;> (try (have hz : (_ : Int) = (_ : Int) := h'; clear hz h')) <;> (try have h' := odF h) <;> (try have h' := inB_t h) <;> (try (exfalso; omega))) | ((first | ((with_reducible refine hcO 40 true (c0) ?_ ?_ ?_ ?_ ?_); iterate 4 (focus (simp (disch := omega) only [go_sem, hkd, q, Int.reduceBEq, reduceCtorEq, nLo]; done))) | ((with_reducible refine hcO 40 true (c1) ?_ ?_ ?_ ?_ ?_); iterate 4 (focus (simp (disch := omega) only [go_sem, hkd, q, Int.reduceBEq, reduceCtorEq, nLo]; done)))); simp only [go_sem, hkd, q, Int.reduceBEq, reduceCtorEq]; refine aLr ?_)) <;> (try simp (disch := omega) only [go_sem, hkd, q, Int.reduceBEq, reduceCtorEq, *])))
    all_goals (try simp (disch := omega) only [EndK, go_sem, hkd, q, Int.reduceBEq, reduceCtorEq, nLo, *])
 rw [if_neg k12]
 by_cases k13 : kd = 13
 ·subst k13
  rw [if_pos rfl]
  cases q : (((p.nodes.getD k nodeZ).kids.length : Int) == 2)
  ·rw [if_pos rfl]
   clear cV cB
   refine cOh 40 (hBd Tryz.func218 rfl (by kernel_rfl) ?_)
   simp (disch := omega) only [go_sem, Tryz.ntmps218, Tryz.results218]
   exact wki
  ·rw [if_neg (by simp)]
   have hl : (p.nodes.getD k nodeZ).kids.length = 2 := by have := beq_iff_eq.1 q; omega
   have c0 := cV 1 (by omega)
   have c1 := cB (by omega)
   clear cV cB hl
   cases q3 : valsF p k 1 0
   ·rw [q3] at c0
    rw [if_pos rfl]
    refine cOh 40 (hBd Tryz.func218 rfl (by kernel_rfl) ?_)
    simp (disch := omega) only [go_sem, Tryz.ntmps218, Tryz.results218]
    repeat' (first | (with_reducible first | refine i_seq ?_) | ((first | (with_reducible first | refine iBk ?_ | refine iRQ (fun Q' hQ => ?_) | (refine Imp.go hQ ?_; clear hQ)) | ((with_reducible refine i_condT ?_ ?_); (focus (simp only [go_sem, *]; done))) | ((with_reducible refine i_condF ?_ ?_); (focus (simp only [go_sem, *]; done))) | ((with_reducible first | refine rOg (fun h => ?_) (fun h => ?_) | refine i_cond (by simp only [go_sem, *] <;> rfl) (fun h => ?_) (fun h => ?_)) <;> (try simp only [nqA, nqB, nqC, reduceCtorEq] at h) <;> (try have h' := odT h) <;> (try (have hz : (_ : Int) = (_ : Int) := h'; clear hz h')) <;> (try have h' := odF h) <;> (try have h' := inB_t h) <;> (try (exfalso; omega))) | (((with_reducible refine hcO 40 true (c0) ?_ ?_ ?_ ?_ ?_); iterate 4 (focus (simp (disch := omega) only [go_sem, hkd, q, Int.reduceBEq, reduceCtorEq, nLo]; done))); simp only [go_sem, hkd, q, Int.reduceBEq, reduceCtorEq]; refine aLr ?_)) <;> (try simp (disch := omega) only [go_sem, hkd, q, Int.reduceBEq, reduceCtorEq, *])))
    all_goals (try simp (disch := omega) only [EndK, go_sem, hkd, q, Int.reduceBEq, reduceCtorEq, nLo, *])
   ·rw [q3] at c0
    rw [if_neg (by simp)]
    refine cOh 40 (hBd Tryz.func218 rfl (by kernel_rfl) ?_)
    simp (disch := omega) only [go_sem, Tryz.ntmps218, Tryz.results218]
    repeat' (first | (with_reducible first | refine i_seq ?_) | ((first | (with_reducible first | refine iBk ?_ | refine iRQ (fun Q' hQ => ?_) | (refine Imp.go hQ ?_; clear hQ)) | ((with_reducible refine i_condT ?_ ?_); (focus (simp only [go_sem, *]; done))) | ((with_reducible refine i_condF ?_ ?_); (focus (simp only [go_sem, *]; done))) | ((with_reducible first | refine rOg (fun h => ?_) (fun h => ?_) | refine i_cond (by simp only [go_sem, *] <;> rfl) (fun h => ?_) (fun h => ?_)) <;> (try simp only [nqA, nqB, nqC, reduceCtorEq] at h) <;> (try have h' := odT h) <;> (try (have hz : (_ : Int) = (_ : Int) := h'; clear hz h')) <;> (try have h' := odF h) <;> (try have h' := inB_t h) <;> (try (exfalso; omega))) | ((first | ((with_reducible refine hcO 40 true (c0) ?_ ?_ ?_ ?_ ?_); iterate 4 (focus (simp (disch := omega) only [go_sem, hkd, q, Int.reduceBEq, reduceCtorEq, nLo]; done))) | ((with_reducible refine hcO 40 true (c1) ?_ ?_ ?_ ?_ ?_); iterate 4 (focus (simp (disch := omega) only [go_sem, hkd, q, Int.reduceBEq, reduceCtorEq, nLo]; done)))); simp only [go_sem, hkd, q, Int.reduceBEq, reduceCtorEq]; refine aLr ?_)) <;> (try simp (disch := omega) only [go_sem, hkd, q, Int.reduceBEq, reduceCtorEq, *])))
    all_goals (try simp (disch := omega) only [EndK, go_sem, hkd, q, Int.reduceBEq, reduceCtorEq, nLo, *])
 rw [if_neg k13]
 clear cV cB
 have hw := specInB_ok ((p.nodes.getD k nodeZ).kids.length : Int) 1 12
 obtain ⟨res, hres⟩ : ∃ r, (if stsF p k (p.nodes.getD k nodeZ).kids.length 0 = false then false else inB ((p.nodes.getD k nodeZ).kids.length : Int) 1 12) = r := ⟨_, rfl⟩
 rw [hres]
 have b1 : (kd == 1) = false := beq_eq_false_iff_ne.2 k1
 have b2 : (kd == 2) = false := beq_eq_false_iff_ne.2 k2
 have b16 : (kd == 16) = false := beq_eq_false_iff_ne.2 k16
 have b17 : (kd == 17) = false := beq_eq_false_iff_ne.2 k17
 have b18 : (kd == 18) = false := beq_eq_false_iff_ne.2 k18
 have b19 : (kd == 19) = false := beq_eq_false_iff_ne.2 k19
 have b3 : (kd == 3) = false := beq_eq_false_iff_ne.2 k3
 have b4 : (kd == 4) = false := beq_eq_false_iff_ne.2 k4
 have b5 : (kd == 5) = false := beq_eq_false_iff_ne.2 k5
 have b11 : (kd == 11) = false := beq_eq_false_iff_ne.2 k11
 have b14 : (kd == 14) = false := beq_eq_false_iff_ne.2 k14
 have b15 : (kd == 15) = false := beq_eq_false_iff_ne.2 k15
 have b12 : (kd == 12) = false := beq_eq_false_iff_ne.2 k12
 have b13 : (kd == 13) = false := beq_eq_false_iff_ne.2 k13
 clear k1 k2 k16 k17 k18 k19 k3 k4 k5 k11 k14 k15 k12 k13
 refine cOh 40 (hBd Tryz.func218 rfl (by kernel_rfl) ?_)
 simp (disch := omega) only [go_sem, Tryz.ntmps218, Tryz.results218]
 repeat' (first | (with_reducible first | refine i_seq ?_) | ((first | (with_reducible first | refine iBk ?_ | refine iRQ (fun Q' hQ => ?_) | (refine Imp.go hQ ?_; clear hQ)) | ((with_reducible refine i_condT ?_ ?_); (focus (simp only [go_sem, *]; done))) | ((with_reducible refine i_condF ?_ ?_); (focus (simp only [go_sem, *]; done))) | ((with_reducible first | refine rOg (fun h => ?_) (fun h => ?_) | refine i_cond (by simp only [go_sem, *] <;> rfl) (fun h => ?_) (fun h => ?_)) <;> (try simp only [nqA, nqB, nqC, reduceCtorEq] at h) <;> (try have h' := odT h) <;> (try (have hz : (_ : Int) = (_ : Int) := h'; clear hz h')) <;> (try have h' := odF h) <;> (try have h' := inB_t h) <;> (try (exfalso; omega)))) <;> (try simp (disch := omega) only [go_sem, hkd, b1, b2, b16, b17, b18, b19, b3, b4, b5, b11, b14, b15, b12, b13, reduceCtorEq, *])))
 all_goals (try simp (disch := omega) only [EndK, go_sem, hkd, b1, b2, b16, b17, b18, b19, b3, b4, b5, b11, b14, b15, b12, b13, reduceCtorEq, nLo, *])
 clear b1 b2 b16 b17 b18 b19 b3 b4 b5 b11 b14 b15 b12 b13
 refine i_loop (α := {j : Nat // j ≤ (p.nodes.getD k nodeZ).kids.length ∧ stsF p k ((p.nodes.getD k nodeZ).kids.length - j) j = stsF p k (p.nodes.getD k nodeZ).kids.length 0}) (fun j => ⟨mkEnv 96 [(1, .one (iV k)), (2, .one (.ptr 0 0 0)), (5, .one (iV (p.nodes.getD k nodeZ).kids.length)), (6, .one (iV j.1))], [.live 3 [programR p]]⟩) (fun j => (p.nodes.getD k nodeZ).kids.length - j.1) ⟨0, by omega, rfl⟩ ?_ ?_
 ·first | exact wc [1, 2, 5, 6] [0]
 rintro ⟨j, hj, he⟩
 dsimp only at hj he ⊢
 by_cases hjl : j < (p.nodes.getD k nodeZ).kids.length
 ·have d1 : decide ((j : Int) < ((p.nodes.getD k nodeZ).kids.length : Int)) = true := decide_eq_true (by omega)
  have c0 := sKid_ok p k j hN hk hK (by omega)
  have c1 := sStatement_ok (kidK p k j)
  have hst : (p.nodes.getD k nodeZ).kids.length - j = ((p.nodes.getD k nodeZ).kids.length - (j + 1)) + 1 := by omega
  rw [hst, stsF] at he
  clear hst hw
  cases q : inB (kidK p k j) 11 19
  ·rw [q] at he c1
   rw [if_pos rfl] at he
   rw [← he, if_pos rfl] at hres
   subst hres
   clear he q
   simp (disch := omega) only [go_sem]
   exact wk
  ·rw [q] at he c1
   rw [if_neg (by simp)] at he
   clear hres q
   simp (disch := omega) only [go_sem]
   refine wkc ?_
   all_goals refine ⟨⟨j + 1, by omega, he⟩, ?_, by simp only; omega⟩
   all_goals first | exact wc [1, 2, 5, 6] [0]
 ·have d1 : decide ((j : Int) < ((p.nodes.getD k nodeZ).kids.length : Int)) = false := decide_eq_false (by omega)
  have hst : (p.nodes.getD k nodeZ).kids.length - j = 0 := by omega
  rw [hst] at he
  rw [← he, show stsF p k 0 j = true from rfl, if_neg (by simp)] at hres
  rw [hres] at hw
  clear he hst hres
  simp (disch := omega) only [go_sem]
  exact wk
end Go.Proofs.YtejnpiielcbkkaaGreat.E
