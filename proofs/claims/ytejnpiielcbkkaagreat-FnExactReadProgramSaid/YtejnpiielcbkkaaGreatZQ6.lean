/- A part of what stands under the laws of this seat: an abstract evaluator that is proved sound, and contracts of functions by it. No condition beside those that stand in each statement. -/
import Derived.Test.YtejnpiielcbkkaaGreatZP8
import Derived.Test.YtejnpiielcbkkaaGreatZP10
import Derived.Test.YtejnpiielcbkkaaGreatZQ4
import Derived.Test.YtejnpiielcbkkaaGreatZQ5
set_option linter.unusedVariables false
set_option linter.unusedSimpArgs false
section
set_option maxRecDepth 100000
set_option maxHeartbeats 4000000
namespace Go.Proofs.YtejnpiielcbkkaaGreat.E
theorem sBodies_ok (p : Prgm) (hz : SzP p) : CallOk Tryz.prog 89 [.agg (programR p)] (.s (.one (.own 1 (intsT (bodiesL p))))) [none] := by
 have ht : bodiesL p = p.monitors.flatMap monBodies ++ p.processes.map (·.body) := rfl
 have bm := monB_le hz
 have z1 := hz.monitors
 have z2 := hz.processes
 have bp : (p.processes.map (·.body)).length ≤ 800000 := by rw [List.length_map]; omega
 rw [ht]
 clear ht
 obtain ⟨MB, hMB⟩ : ∃ x, p.monitors.flatMap monBodies = x := ⟨_, rfl⟩
 rw [hMB] at bm ⊢
 obtain ⟨RES, hRES⟩ : ∃ x, MB ++ p.processes.map (·.body) = x := ⟨_, rfl⟩
 rw [hRES]
 have bR : RES.length ≤ 2300000 := by rw [← hRES, List.length_append]; omega
 have e0 : intsT [] = [] := rfl
 refine cOh 40 (hBd Tryz.func89 rfl (by kernel_rfl) ?_)
 simp (disch := omega) only [go_sem, Tryz.ntmps89, Tryz.results89]
 refine wkc ?_
 refine i_hide fun Q hE => ?_
 refine i_loop (α := {x : Nat × List Int // x.1 ≤ p.monitors.length ∧ x.2 ++ (p.monitors.drop x.1).flatMap monBodies = MB}) (fun x => ⟨mkEnv 56 [(1, .one (.ptr 0 0 0)), (3, .one (.ref 1 0 x.1.2.length)), (4, .one (iV x.1.1))], [.live 3 [programR p], .live 1 (intsT x.1.2)]⟩) (fun x => p.monitors.length - x.1.1) ⟨(0, []), by omega, hMB⟩ ?_ ?_
 ·first | (refine wCn [1, 3, 4] [0, 1] ?_ ?_ ?_ <;> (simp (disch := omega) only [go_sem, e0, List.length_nil]; done))
 rintro ⟨⟨j, acc⟩, hj, he⟩
 dsimp only at hj he ⊢
 have ba : acc.length ≤ MB.length := by rw [← he, List.length_append]; omega
 by_cases hjl : j < p.monitors.length
 ·have d1 : decide ((j : Int) < (p.monitors.length : Int)) = true := decide_eq_true (by omega)
  obtain ⟨g1, g2, g3⟩ := hz.mon (p.monitors.getD j moZ) (getD_mem hjl)
  rw [flat_drop (z := moZ) hjl, ← List.append_assoc] at he
  have hmb : monBodies (p.monitors.getD j moZ) = (p.monitors.getD j moZ).entries.map (·.body) := rfl
  rw [hmb] at he
  have ba2 : (acc ++ (p.monitors.getD j moZ).entries.map (·.body)).length ≤ MB.length := by rw [← he]; simp only [List.length_append]; omega
  clear hmb hMB hRES hz e0
  simp (disch := omega) only [go_sem]
  refine wkc ?_
  refine i_hide fun Q2 hE => ?_
  refine i_loop (α := {x : Nat × List Int // x.1 ≤ (p.monitors.getD j moZ).entries.length ∧ x.2 ++ ((p.monitors.getD j moZ).entries.drop x.1).map (·.body) = acc ++ (p.monitors.getD j moZ).entries.map (·.body)}) (fun x => ⟨mkEnv 56 [(1, .one (.ptr 0 0 0)), (3, .one (.ref 1 0 x.1.2.length)), (4, .one (iV j)), (5, .one (iV x.1.1))], [.live 3 [programR p], .live 1 (intsT x.1.2)]⟩) (fun x => (p.monitors.getD j moZ).entries.length - x.1.1) ⟨(0, acc), by omega, rfl⟩ ?_ ?_
  ·first | exact wc [1, 3, 4, 5] [0, 1]
  rintro ⟨⟨i, ac⟩, hi, hie⟩
  dsimp only at hi hie ⊢
  have bc : ac.length ≤ MB.length := Nat.le_trans (by rw [← hie, List.length_append]; omega) ba2
  by_cases hil : i < (p.monitors.getD j moZ).entries.length
  ·have d2 : decide ((i : Int) < ((p.monitors.getD j moZ).entries.length : Int)) = true := decide_eq_true (by omega)
   rw [map_drop1 (f := fun e : Entry => e.body) (z := entryZ) hil, ← List.append_assoc] at hie
   clear he
   simp (disch := omega) only [go_sem]
   refine wkc ?_
   all_goals refine ⟨⟨(i + 1, ac ++ [((p.monitors.getD j moZ).entries.getD i entryZ).body]), by omega, hie⟩, ?_, by simp only; omega⟩
   all_goals first | (refine wCn [1, 3, 4, 5] [0, 3] ?_ ?_ ?_ <;> (simp (disch := omega) only [go_sem, ints_one, List.length_append, List.length_cons, List.length_nil]; done))
  ·have d2 : decide ((i : Int) < ((p.monitors.getD j moZ).entries.length : Int)) = false := decide_eq_false (by omega)
   have ek : (p.monitors.getD j moZ).entries.drop i = [] := List.drop_eq_nil_of_le (by omega)
   rw [ek] at hie
   have hac : ac = acc ++ (p.monitors.getD j moZ).entries.map (·.body) := by rw [← hie]; simp
   rw [← hac] at he
   clear hie hac ek
   simp (disch := omega) only [go_sem]
   refine wkc ?_
   all_goals refine ⟨⟨(j + 1, ac), by omega, he⟩, ?_, by simp only; omega⟩
   all_goals first | exact wc [1, 3, 4] [0, 1]
 ·have d1 : decide ((j : Int) < (p.monitors.length : Int)) = false := decide_eq_false (by omega)
  have ek : p.monitors.drop j = [] := List.drop_eq_nil_of_le (by omega)
  rw [ek, List.flatMap_nil, List.append_nil] at he
  subst he
  clear ek hMB e0
  simp (disch := omega) only [go_sem]
  repeat' (first | (with_reducible first | refine i_seq ?_) | ((first | (with_reducible first | refine iBk ?_ | refine iRQ (fun Q' hQ => ?_) | (refine Imp.go hQ ?_; clear hQ) | (refine ImpE.go hE ?_; clear hE)) | ((with_reducible refine i_condT ?_ ?_); (focus (simp only [go_sem, *]; done))) | ((with_reducible refine i_condF ?_ ?_); (focus (simp only [go_sem, *]; done))) | ((with_reducible first | refine rOg (fun h => ?_) (fun h => ?_) | refine i_cond (by simp only [go_sem, *] <;> rfl) (fun h => ?_) (fun h => ?_)) <;> (try simp only [nqA, nqB, nqC, reduceCtorEq] at h) <;> (try have h' := odT h) <;> (try (have hz : (_ : Int) = (_ : Int) := h'; clear hz h')) <;> (try have h' := odF h) <;> (try have h' := inB_t h) <;> (try (exfalso; omega)))) <;> (try simp (disch := omega) only [go_sem, d1, reduceCtorEq, *])))
  all_goals (try simp (disch := omega) only [EndK, go_sem, d1, reduceCtorEq, nLo, *])
  clear d1 hj hjl
  refine i_hide fun Q2 hE => ?_
  refine i_loop (α := {x : Nat × List Int // x.1 ≤ p.processes.length ∧ x.2 ++ (p.processes.drop x.1).map (·.body) = RES}) (fun x => ⟨mkEnv 56 [(1, .one (.ptr 0 0 0)), (3, .one (.ref 1 0 x.1.2.length)), (6, .one (iV x.1.1))], [.live 3 [programR p], .live 1 (intsT x.1.2)]⟩) (fun x => p.processes.length - x.1.1) ⟨(0, acc), by omega, hRES⟩ ?_ ?_
  ·first | exact wc [1, 3, 6] [0, 1]
  rintro ⟨⟨j, ac⟩, hj, he⟩
  dsimp only at hj he ⊢
  have bc : ac.length ≤ RES.length := by rw [← he, List.length_append]; omega
  by_cases hjl : j < p.processes.length
  ·have d1 : decide ((j : Int) < (p.processes.length : Int)) = true := decide_eq_true (by omega)
   rw [map_drop1 (f := fun e : Process => e.body) (z := prZ) hjl, ← List.append_assoc] at he
   clear hRES hz
   simp (disch := omega) only [go_sem]
   refine wkc ?_
   all_goals refine ⟨⟨(j + 1, ac ++ [(p.processes.getD j prZ).body]), by omega, he⟩, ?_, by simp only; omega⟩
   all_goals first | (refine wCn [1, 3, 6] [0, 3] ?_ ?_ ?_ <;> (simp (disch := omega) only [go_sem, ints_one, List.length_append, List.length_cons, List.length_nil]; done))
  ·have d1 : decide ((j : Int) < (p.processes.length : Int)) = false := decide_eq_false (by omega)
   have ek : p.processes.drop j = [] := List.drop_eq_nil_of_le (by omega)
   rw [ek] at he
   have he2 : ac = RES := by rw [← he]; simp
   subst he2
   clear he ek hRES
   simp (disch := omega) only [go_sem]
   have x1 := @List.take_length.{0}
   exact wk
end Go.Proofs.YtejnpiielcbkkaaGreat.E
end
section
set_option maxRecDepth 100000
set_option maxHeartbeats 4000000
namespace Go.Proofs.YtejnpiielcbkkaaGreat.E
def usedS (p : Prgm) : List Int := (kidsAll p).foldl bump ((bodiesL p).foldl bump (List.replicate p.nodes.length 0))
theorem sUsed_ok (p : Prgm) (hz : SzP p) (hS : ∀ y ∈ p.nodes, smNode y) (hB : ∀ b ∈ bodiesL p, inB b 0 ((p.nodes.length : Int) - 1) = true) (hK : ∀ k, k < p.nodes.length → ∀ i, i < (p.nodes.getD k nodeZ).kids.length → 0 ≤ (p.nodes.getD k nodeZ).kids.getD i 0 ∧ (p.nodes.getD k nodeZ).kids.getD i 0 < k) : CallOk Tryz.prog 90 [.agg (programR p)] (.s (.one (.own 1 (intsT (usedS p))))) [none] := by
 have hN := hz.nodes
 have bB := monB_le hz
 have bB2 := hz.processes
 have hbl : (bodiesL p).length ≤ 400000 := by unfold bodiesL; rw [List.length_append, List.length_map]; omega
 have c0 := sBodies_ok p hz
 have hzr := repl_intsT p.nodes.length
 have hud : usedS p = (kidsAll p).foldl bump ((bodiesL p).foldl bump (List.replicate p.nodes.length 0)) := rfl
 rw [hud]
 clear hud hz
 unfold kidsAll
 obtain ⟨BL, hBL⟩ : ∃ x, bodiesL p = x := ⟨_, rfl⟩
 rw [hBL] at hB hbl c0 ⊢
 clear hBL
 obtain ⟨OW1, hOW1⟩ : ∃ x, BL.foldl bump (List.replicate p.nodes.length 0) = x := ⟨_, rfl⟩
 rw [hOW1]
 obtain ⟨RES, hRES⟩ : ∃ x, (p.nodes.flatMap (·.kids)).foldl bump OW1 = x := ⟨_, rfl⟩
 rw [hRES]
 refine cOh 40 (hBd Tryz.func90 rfl (by kernel_rfl) ?_)
 simp (disch := omega) only [go_sem, Tryz.ntmps90, Tryz.results90]
 repeat' (first | (with_reducible first | refine i_seq ?_ | exact tr_none | refine tr_stop ?_ | refine i_treeQ (id := 6) (.fr [0, 1, 2, 3, 4, 5, 6, 7] (.op [8] (.stop))) mixedT (by kernel_rfl) (fun Q' hQ => ?_)) | ((first | (with_reducible first | refine iBk ?_ | refine iRQ (fun Q' hQ => ?_) | (refine Imp.go hQ ?_; clear hQ) | refine tr_fr ?_ | refine tr_op (aLr ?_) | refine tr_alt (by kernel_rfl) (aLr ?_) ?_ | refine tr_altp ?_ ?_) | ((with_reducible refine i_condT ?_ ?_); (focus (simp only [go_sem, *]; done))) | ((with_reducible refine i_condF ?_ ?_); (focus (simp only [go_sem, *]; done))) | ((with_reducible first | refine rOg (fun h => ?_) (fun h => ?_) | refine pG_split (fun h => ?_) (fun h => ?_) | refine i_cond (by simp only [go_sem, *] <;> rfl) (fun h => ?_) (fun h => ?_)) <;> (try simp only [nqA, nqB, nqC, reduceCtorEq] at h) <;> (try have h' := odT h) <;> (try (have hz : (_ : Int) = (_ : Int) := h'; clear hz h')) <;> (try have h' := odF h) <;> (try have h' := inB_t h) <;> (try (exfalso; omega))) | (((with_reducible first | refine hcO 40 true (c0) ?_ ?_ ?_ ?_ ?_); iterate 4 (focus (simp (disch := omega) only [go_sem, hzr, reduceCtorEq, nLo]; done))); simp only [go_sem, hzr, reduceCtorEq]; refine aLr ?_)) <;> (try simp (disch := omega) only [go_sem, hzr, reduceCtorEq, *])))
 all_goals (try simp (disch := omega) only [EndK, go_sem, hzr, reduceCtorEq, nLo, *])
 clear c0
 refine i_hide fun Q hE => ?_
 refine i_loop (α := {x : Nat × List Int // x.1 ≤ BL.length ∧ OwOk p.nodes.length x.1 x.2 ∧ (BL.drop x.1).foldl bump x.2 = OW1}) (fun x => ⟨mkEnv 71 [(1, .one (.ptr 0 0 0)), (3, .one (.ref 1 0 p.nodes.length)), (4, .one (.ref 2 0 BL.length)), (5, .one (iV x.1.1))], [.live 3 [programR p], .live 1 (intsT x.1.2), .live 1 (intsT BL)]⟩) (fun x => BL.length - x.1.1) ⟨(0, List.replicate p.nodes.length 0), by omega, owZero _, hOW1⟩ ?_ ?_
 ·first | exact wc [1, 3, 4, 5] [0, 1, 2]
 rintro ⟨⟨j, o⟩, hj, hoo, hof⟩
 dsimp only at hj hoo hof ⊢
 clear hOW1 hzr
 by_cases hjl : j < BL.length
 ·have d1 : decide ((j : Int) < (BL.length : Int)) = true := decide_eq_true (by omega)
  have hin := hB (BL.getD j 0) (getD_mem hjl)
  have a0 := specInB_ok (BL.getD j 0) 0 ((p.nodes.length : Int) - 1)
  rw [hin] at a0
  obtain ⟨b0, b1⟩ := inB_t hin
  rw [fold_drop (z := (0 : Int)) hjl] at hof
  clear hin hB hK hS
  have hbo := bump_ok (x := BL.getD j 0) hoo
  have hle := hoo.len
  obtain ⟨x, hx⟩ : ∃ x, BL.getD j 0 = x := ⟨_, rfl⟩
  rw [hx] at b0 b1 hof hbo
  obtain ⟨y0, y1⟩ := hoo.bd x.toNat
  have hbu : bump o x = o.set x.toNat (o.getD x.toNat 0 + 1) := rfl
  obtain ⟨y, hy⟩ : ∃ y, o.getD x.toNat 0 = y := ⟨_, rfl⟩
  rw [hy] at y0 y1 hbu
  obtain ⟨O2, hO2⟩ : ∃ z, bump o x = z := ⟨_, rfl⟩
  rw [hO2] at hbu hof hbo
  have hbu2 := hbu.symm
  have hxl : x.toNat < o.length := by omega
  rw [hx] at a0
  clear hbu hO2 hoo hRES
  simp (disch := omega) only [go_sem]
  have x1 : HT 6 (.fr [0, 1, 2, 3, 4, 5, 6, 7] (.op [8] (.stop))) := ⟨⟩
  refine wkc ?_
  all_goals refine ⟨⟨(j + 1, O2), by omega, hbo, hof⟩, ?_, by simp only; omega⟩
  all_goals first | exact wc [1, 3, 4, 5] [0, 1, 2]
 ·have d1 : decide ((j : Int) < (BL.length : Int)) = false := decide_eq_false (by omega)
  have ek : BL.drop j = [] := List.drop_eq_nil_of_le (by omega)
  rw [ek] at hof
  have he2 : o = OW1 := hof
  subst he2
  clear hof ek hB
  simp (disch := omega) only [go_sem]
  repeat' (first | (with_reducible first | refine i_seq ?_ | exact tr_none | refine tr_stop ?_ | refine i_treeQ (id := 6) (.fr [0, 1, 2, 3, 4, 5, 6, 7] (.op [8] (.stop))) mixedT (by kernel_rfl) (fun Q' hQ => ?_)) | ((first | (with_reducible first | refine iBk ?_ | refine iRQ (fun Q' hQ => ?_) | (refine Imp.go hQ ?_; clear hQ) | (refine ImpE.go hE ?_; clear hE) | refine tr_fr ?_ | refine tr_op (aLr ?_) | refine tr_alt (by kernel_rfl) (aLr ?_) ?_ | refine tr_altp ?_ ?_) | ((with_reducible refine i_condT ?_ ?_); (focus (simp only [go_sem, *]; done))) | ((with_reducible refine i_condF ?_ ?_); (focus (simp only [go_sem, *]; done))) | ((with_reducible first | refine rOg (fun h => ?_) (fun h => ?_) | refine pG_split (fun h => ?_) (fun h => ?_) | refine i_cond (by simp only [go_sem, *] <;> rfl) (fun h => ?_) (fun h => ?_)) <;> (try simp only [nqA, nqB, nqC, reduceCtorEq] at h) <;> (try have h' := odT h) <;> (try (have hz : (_ : Int) = (_ : Int) := h'; clear hz h')) <;> (try have h' := odF h) <;> (try have h' := inB_t h) <;> (try (exfalso; omega)))) <;> (try simp (disch := omega) only [go_sem, d1, reduceCtorEq, *])))
  all_goals (try simp (disch := omega) only [EndK, go_sem, d1, reduceCtorEq, nLo, *])
  clear d1
  refine i_hide fun Q2 hE => ?_
  refine i_loop (α := {x : Nat × List Int × Nat // x.1 ≤ p.nodes.length ∧ OwOk p.nodes.length x.2.2 x.2.1 ∧ x.2.2 ≤ 400000 + x.1 * 1048576 ∧ ((p.nodes.drop x.1).flatMap (·.kids)).foldl bump x.2.1 = RES}) (fun x => ⟨mkEnv 71 [(1, .one (.ptr 0 0 0)), (3, .one (.ref 1 0 p.nodes.length)), (6, .one (iV x.1.1))], [.live 3 [programR p], .live 1 (intsT x.1.2.1)]⟩) (fun x => p.nodes.length - x.1.1) ⟨(0, o, j), by omega, hoo, by dsimp only; omega, hRES⟩ ?_ ?_
  ·first | exact wc [1, 3, 6] [0, 1]
  rintro ⟨⟨k, ow, c⟩, hk, ho, hc, hfo⟩
  dsimp only at hk ho hc hfo ⊢
  clear hoo hRES
  by_cases hkl : k < p.nodes.length
  ·have d1 : decide ((k : Int) < (p.nodes.length : Int)) = true := decide_eq_true (by omega)
   have s4 := (hS _ (getD_mem (z := nodeZ) hkl)).2.2.2
   have hkid := hK k hkl
   rw [flat_drop (z := nodeZ) hkl, List.foldl_append] at hfo
   obtain ⟨OW2, hOW2⟩ : ∃ x, (p.nodes.getD k nodeZ).kids.foldl bump ow = x := ⟨_, rfl⟩
   rw [hOW2] at hfo
   clear hK hS
   simp (disch := omega) only [go_sem]
   have x1 : HT 6 (.fr [0, 1, 2, 3, 4, 5, 6, 7] (.op [8] (.stop))) := ⟨⟩
   refine wkc ?_
   refine i_hide fun Q3 hE => ?_
   refine i_loop (α := {x : Nat × List Int // x.1 ≤ (p.nodes.getD k nodeZ).kids.length ∧ OwOk p.nodes.length (c + x.1) x.2 ∧ ((p.nodes.getD k nodeZ).kids.drop x.1).foldl bump x.2 = OW2}) (fun x => ⟨mkEnv 71 [(1, .one (.ptr 0 0 0)), (3, .one (.ref 1 0 p.nodes.length)), (6, .one (iV k)), (7, .one (iV x.1.1))], [.live 3 [programR p], .live 1 (intsT x.1.2)]⟩) (fun x => (p.nodes.getD k nodeZ).kids.length - x.1.1) ⟨(0, ow), by omega, ho, hOW2⟩ ?_ ?_
   ·first | exact wc [1, 3, 6, 7] [0, 1]
   rintro ⟨⟨i, o2⟩, hi, ho2, hof2⟩
   dsimp only at hi ho2 hof2 ⊢
   clear hOW2
   by_cases hil : i < (p.nodes.getD k nodeZ).kids.length
   ·have d2 : decide ((i : Int) < ((p.nodes.getD k nodeZ).kids.length : Int)) = true := decide_eq_true (by omega)
    obtain ⟨b0, b1⟩ := hkid i hil
    rw [fold_drop (z := (0 : Int)) hil] at hof2
    have c1m : k * 1048576 ≤ 3000 * 1048576 := Nat.mul_le_mul_right _ (by omega)
    clear hkid hfo
    have hbo := bump_ok (x := (p.nodes.getD k nodeZ).kids.getD i 0) ho2
    have hle := ho2.len
    obtain ⟨x, hx⟩ : ∃ x, (p.nodes.getD k nodeZ).kids.getD i 0 = x := ⟨_, rfl⟩
    rw [hx] at b0 b1 hof2 hbo
    obtain ⟨y0, y1⟩ := ho2.bd x.toNat
    have hbu : bump o2 x = o2.set x.toNat (o2.getD x.toNat 0 + 1) := rfl
    obtain ⟨y, hy⟩ : ∃ y, o2.getD x.toNat 0 = y := ⟨_, rfl⟩
    rw [hy] at y0 y1 hbu
    obtain ⟨O2, hO2⟩ : ∃ z, bump o2 x = z := ⟨_, rfl⟩
    rw [hO2] at hbu hof2 hbo
    have hbu2 := hbu.symm
    have hxl : x.toNat < o2.length := by omega
    clear hbu hO2 ho2
    simp (disch := omega) only [go_sem]
    have x1 : HT 6 (.fr [0, 1, 2, 3, 4, 5, 6, 7] (.op [8] (.stop))) := ⟨⟩
    refine wkc ?_
    all_goals refine ⟨⟨(i + 1, O2), by omega, hbo, hof2⟩, ?_, by simp only; omega⟩
    all_goals first | exact wc [1, 3, 6, 7] [0, 1]
   ·have d2 : decide ((i : Int) < ((p.nodes.getD k nodeZ).kids.length : Int)) = false := decide_eq_false (by omega)
    have ek : (p.nodes.getD k nodeZ).kids.drop i = [] := List.drop_eq_nil_of_le (by omega)
    rw [ek] at hof2
    have he2 : o2 = OW2 := hof2
    subst he2
    have hoo2 := ho2.mono (d := c + 1048576) (by omega)
    clear hof2 ek hkid ho2
    simp (disch := omega) only [go_sem]
    have x1 : HT 6 (.fr [0, 1, 2, 3, 4, 5, 6, 7] (.op [8] (.stop))) := ⟨⟩
    refine wkc ?_
    all_goals refine ⟨⟨(k + 1, o2, c + 1048576), by omega, hoo2, by dsimp only; omega, hfo⟩, ?_, by simp only; omega⟩
    all_goals first | exact wc [1, 3, 6] [0, 1]
  ·have d1 : decide ((k : Int) < (p.nodes.length : Int)) = false := decide_eq_false (by omega)
   have ek : p.nodes.drop k = [] := List.drop_eq_nil_of_le (by omega)
   rw [ek] at hfo
   have he2 : ow = RES := hfo
   subst he2
   have hle := ho.len
   have etk : ow.take p.nodes.length = ow := List.take_of_length_le (by omega)
   clear hfo ek ho hS hK
   simp (disch := omega) only [go_sem]
   have x1 : HT 6 (.fr [0, 1, 2, 3, 4, 5, 6, 7] (.op [8] (.stop))) := ⟨⟩
   exact wk
end Go.Proofs.YtejnpiielcbkkaaGreat.E
end
section
set_option maxRecDepth 100000
set_option maxHeartbeats 4000000
namespace Go.Proofs.YtejnpiielcbkkaaGreat.E
/-! ### A right program, by the reference -/
def progS (p : Prgm) : Bool :=
 if decide (160 < (p.nodes.length : Int)) = true then false
 else if listsB p = false then false
 else if (deepsS p).all (fun d => inB d 1 10) = false then false
 else if (bodiesL p).all (isBlkB p) = false then false
 else (usedS p).all (fun x => x == 1)
theorem deepsF_len (p : Prgm) : ∀ (n : Nat) (out : List Int), (deepsF p n out).length = out.length + n
 | 0, out => rfl
 | n + 1, out => by
  show (deepsF p n (out ++ [deepS p out out.length])).length = _
  rw [deepsF_len p n, List.length_append, List.length_singleton]; omega
theorem deepsF_pre (p : Prgm) : ∀ (n : Nat) (out : List Int) (j : Nat), j < out.length → (deepsF p n out).getD j 0 = out.getD j 0
 | 0, out, j, h => rfl
 | n + 1, out, j, h => by
  show (deepsF p n (out ++ [deepS p out out.length])).getD j 0 = _
  rw [deepsF_pre p n _ j (by rw [List.length_append]; omega), List.getD_eq_getElem?_getD, List.getElem?_append_left h, List.getD_eq_getElem?_getD]
/-- What is told of a node stands on what is told of those ahead. -/
theorem deepsF_at (p : Prgm) : ∀ (n : Nat) (out : List Int) (k : Nat), out.length ≤ k → k < out.length + n → (deepsF p n out).getD k 0 = deepS p ((deepsF p n out).take k) k
 | 0, out, k, h1, h2 => by omega
 | n + 1, out, k, h1, h2 => by
  show (deepsF p n (out ++ [deepS p out out.length])).getD k 0 = deepS p ((deepsF p n (out ++ [deepS p out out.length])).take k) k
  by_cases hk : k = out.length
  ·subst hk
   have hpre : (deepsF p n (out ++ [deepS p out out.length])).take out.length = out := by
    refine List.ext_getElem? fun j => ?_
    rw [List.getElem?_take]
    split
    ·rename_i hj
     have e := deepsF_pre p n (out ++ [deepS p out out.length]) j (by rw [List.length_append]; omega)
     have hl := deepsF_len p n (out ++ [deepS p out out.length])
     rw [List.length_append, List.length_singleton] at hl
     rw [List.getD_eq_getElem?_getD, List.getD_eq_getElem?_getD, List.getElem?_append_left hj] at e
     rw [List.getElem?_eq_getElem (by omega), List.getElem?_eq_getElem hj] at e ⊢
     exact congrArg some e
    ·rename_i hj
     exact (List.getElem?_eq_none (by omega)).symm
   rw [hpre, deepsF_pre p n _ _ (by rw [List.length_append, List.length_singleton]; omega), List.getD_eq_getElem?_getD, List.getElem?_append_right (Nat.le_refl _), Nat.sub_self]
   rfl
  ·exact deepsF_at p n _ k (by rw [List.length_append, List.length_singleton]; omega) (by rw [List.length_append, List.length_singleton]; omega)
theorem deepsS_len (p : Prgm) : (deepsS p).length = p.nodes.length := by unfold deepsS; rw [deepsF_len]; simp
theorem deepsS_at {p : Prgm} {k : Nat} (h : k < p.nodes.length) : (deepsS p).getD k 0 = deepS p ((deepsS p).take k) k := deepsF_at p _ _ k (Nat.zero_le _) (by simpa using h)
theorem deeps_node {p : Prgm} (h : (deepsS p).all (fun d => inB d 1 10) = true) {k : Nat} (hk : k < p.nodes.length) : nodeS p k = true := by
 have hm : (deepsS p).getD k 0 ∈ deepsS p := getD_mem (by rw [deepsS_len]; exact hk)
 have := inB_t (List.all_eq_true.1 h _ hm)
 rw [deepsS_at hk] at this
 cases q : nodeS p k
 ·unfold deepS at this
  rw [q, if_neg (by simp)] at this
  omega
 ·rfl
theorem isBlkB_in {p : Prgm} {b : Int} (h : isBlkB p b = true) : inB b 0 ((p.nodes.length : Int) - 1) = true := by
 unfold isBlkB at h
 split at h
 ·rename_i hq; exact hq
 ·cases h
theorem sProgram_ok (p : Prgm) (hz : SzP p) (hn : NmP p) (hS : ∀ y ∈ p.nodes, smNode y) (hK : KidsIn p) : CallOk Tryz.prog 27 [.agg (programR p)] (.s (.one (bV (progS p)))) [none] := by
 have hN := hz.nodes
 have c0 := sLists_ok p hz hn
 obtain ⟨res, hres⟩ : ∃ r, progS p = r := ⟨_, rfl⟩
 have hd : progS p = if decide (160 < (p.nodes.length : Int)) = true then false else if listsB p = false then false else if (deepsS p).all (fun d => inB d 1 10) = false then false else if (bodiesL p).all (isBlkB p) = false then false else (usedS p).all (fun x => x == 1) := rfl
 rw [hres]
 rw [hd] at hres
 clear hd hn
 cases q0 : decide (160 < (p.nodes.length : Int))
 rotate_left
 ·rw [q0, if_pos rfl] at hres
  subst hres
  clear c0
  refine cOh 40 (hBd Tryz.func27 rfl (by kernel_rfl) ?_)
  simp (disch := omega) only [go_sem, Tryz.ntmps27, Tryz.results27]
  have x1 : HT 13 (.fr [0, 1, 2, 3, 4, 5, 6, 7] (.op [8] (.fr [9, 10, 11, 12, 13, 14, 15, 16, 17, 18, 19, 20, 21] (.stop)))) := ⟨⟩
  exact wk
 rw [q0, if_neg (by simp)] at hres
 cases q1 : listsB p
 ·rw [q1] at c0 hres
  rw [if_pos rfl] at hres
  subst hres
  clear q1
  refine cOh 40 (hBd Tryz.func27 rfl (by kernel_rfl) ?_)
  simp (disch := omega) only [go_sem, Tryz.ntmps27, Tryz.results27]
  have x1 : HT 13 (.fr [0, 1, 2, 3, 4, 5, 6, 7] (.op [8] (.fr [9, 10, 11, 12, 13, 14, 15, 16, 17, 18, 19, 20, 21] (.stop)))) := ⟨⟩
  exact wk
 rw [q1] at c0 hres
 rw [if_neg (by simp)] at hres
 clear q1
 have c1 := sDeeps_ok p (by omega) hS hK
 have c2 := sBodies_ok p hz
 have c3 := fun hB hK2 => sUsed_ok p hz hS hB hK2
 have hnodes : (deepsS p).all (fun d => inB d 1 10) = true → ∀ k, k < p.nodes.length → nodeS p k = true := fun h k hk => deeps_node h hk
 have bB := monB_le hz
 have bB2 := hz.processes
 have hbl : (bodiesL p).length ≤ 400000 := by unfold bodiesL; rw [List.length_append, List.length_map]; omega
 have hdl := deepsS_len p
 obtain ⟨DS, hDS⟩ : ∃ x, deepsS p = x := ⟨_, rfl⟩
 rw [hDS] at c1 hres hnodes hdl
 replace hdl : DS.length ≤ 3000 := by omega
 clear hDS hz hS bB bB2
 refine cOh 40 (hBd Tryz.func27 rfl (by kernel_rfl) ?_)
 simp (disch := omega) only [go_sem, Tryz.ntmps27, Tryz.results27]
 repeat' (first | (with_reducible first | refine i_seq ?_ | exact tr_none | refine tr_stop ?_ | refine i_treeQ (id := 13) (.fr [0, 1, 2, 3, 4, 5, 6, 7] (.op [8] (.fr [9, 10, 11, 12, 13, 14, 15, 16, 17, 18, 19, 20, 21] (.stop)))) mixedT (by kernel_rfl) (fun Q' hQ => ?_)) | ((first | (with_reducible first | refine iBk ?_ | refine iRQ (fun Q' hQ => ?_) | (refine Imp.go hQ ?_; clear hQ) | refine tr_fr ?_ | refine tr_op (aLr ?_) | refine tr_alt (by kernel_rfl) (aLr ?_) ?_ | refine tr_altp ?_ ?_) | ((with_reducible refine i_condT ?_ ?_); (focus (simp only [go_sem, *]; done))) | ((with_reducible refine i_condF ?_ ?_); (focus (simp only [go_sem, *]; done))) | ((with_reducible first | refine rOg (fun h => ?_) (fun h => ?_) | refine pG_split (fun h => ?_) (fun h => ?_) | refine i_cond (by simp only [go_sem, *] <;> rfl) (fun h => ?_) (fun h => ?_)) <;> (try simp only [nqA, nqB, nqC, reduceCtorEq] at h) <;> (try have h' := odT h) <;> (try (have hz : (_ : Int) = (_ : Int) := h'; clear hz h')) <;> (try have h' := odF h) <;> (try have h' := inB_t h) <;> (try (exfalso; omega))) | (((with_reducible first | refine hcO 40 true (c0) ?_ ?_ ?_ ?_ ?_ | refine hcO 40 true (c1) ?_ ?_ ?_ ?_ ?_); iterate 4 (focus (simp (disch := omega) only [go_sem, q0, reduceCtorEq, nLo]; done))); simp only [go_sem, q0, reduceCtorEq]; refine aLr ?_)) <;> (try simp (disch := omega) only [go_sem, q0, reduceCtorEq, *])))
 all_goals (try simp (disch := omega) only [EndK, go_sem, q0, reduceCtorEq, nLo, *])
 clear c0 c1 q0
 refine i_hide fun Q hE => ?_
 refine i_loop (α := {j : Nat // j ≤ DS.length ∧ (DS.drop j).all (fun d => inB d 1 10) = DS.all (fun d => inB d 1 10)}) (fun j => ⟨mkEnv 75 [(1, .one (.ptr 0 0 0)), (3, .one (.ref 1 0 DS.length)), (4, .one (iV j.1))], [.live 3 [programR p], .live 1 (intsT DS)]⟩) (fun j => DS.length - j.1) ⟨0, by omega, rfl⟩ ?_ ?_
 ·first | exact wc [1, 3, 4] [0, 1]
 rintro ⟨j, hj, he⟩
 dsimp only at hj he ⊢
 by_cases hjl : j < DS.length
 ·have d1 : decide ((j : Int) < (DS.length : Int)) = true := decide_eq_true (by omega)
  have a0 := specInB_ok (DS.getD j 0) 1 10
  rw [all_drop (z := (0 : Int)) hjl] at he
  clear c2 c3 hnodes hK
  cases q : inB (DS.getD j 0) 1 10
  ·rw [q] at a0 he
   rw [Bool.false_and] at he
   rw [← he, if_pos rfl] at hres
   subst hres
   clear he q
   simp (disch := omega) only [go_sem]
   have x1 : HT 13 (.fr [0, 1, 2, 3, 4, 5, 6, 7] (.op [8] (.fr [9, 10, 11, 12, 13, 14, 15, 16, 17, 18, 19, 20, 21] (.stop)))) := ⟨⟩
   exact wk
  ·rw [q] at a0 he
   rw [Bool.true_and] at he
   clear hres q
   simp (disch := omega) only [go_sem]
   have x1 : HT 13 (.fr [0, 1, 2, 3, 4, 5, 6, 7] (.op [8] (.fr [9, 10, 11, 12, 13, 14, 15, 16, 17, 18, 19, 20, 21] (.stop)))) := ⟨⟩
   refine wkc ?_
   all_goals refine ⟨⟨j + 1, by omega, he⟩, ?_, by simp only; omega⟩
   all_goals first | exact wc [1, 3, 4] [0, 1]
 have d1 : decide ((j : Int) < (DS.length : Int)) = false := decide_eq_false (by omega)
 have ek : DS.drop j = [] := List.drop_eq_nil_of_le (by omega)
 rw [ek] at he
 have hall : DS.all (fun d => inB d 1 10) = true := he.symm
 rw [hall, if_neg (by simp)] at hres
 replace hnodes := hnodes hall
 have hK2 := fun k hk i hi => hK k hk (hnodes k hk) i hi
 clear he ek hall hnodes hK
 simp (disch := omega) only [go_sem]
 repeat' (first | (with_reducible first | refine i_seq ?_ | exact tr_none | refine tr_stop ?_ | refine i_treeQ (id := 13) (.fr [0, 1, 2, 3, 4, 5, 6, 7] (.op [8] (.fr [9, 10, 11, 12, 13, 14, 15, 16, 17, 18, 19, 20, 21] (.stop)))) mixedT (by kernel_rfl) (fun Q' hQ => ?_)) | ((first | (with_reducible first | refine iBk ?_ | refine iRQ (fun Q' hQ => ?_) | (refine Imp.go hQ ?_; clear hQ) | (refine ImpE.go hE ?_; clear hE) | refine tr_fr ?_ | refine tr_op (aLr ?_) | refine tr_alt (by kernel_rfl) (aLr ?_) ?_ | refine tr_altp ?_ ?_) | ((with_reducible refine i_condT ?_ ?_); (focus (simp only [go_sem, *]; done))) | ((with_reducible refine i_condF ?_ ?_); (focus (simp only [go_sem, *]; done))) | ((with_reducible first | refine rOg (fun h => ?_) (fun h => ?_) | refine pG_split (fun h => ?_) (fun h => ?_) | refine i_cond (by simp only [go_sem, *] <;> rfl) (fun h => ?_) (fun h => ?_)) <;> (try simp only [nqA, nqB, nqC, reduceCtorEq] at h) <;> (try have h' := odT h) <;> (try (have hz : (_ : Int) = (_ : Int) := h'; clear hz h')) <;> (try have h' := odF h) <;> (try have h' := inB_t h) <;> (try (exfalso; omega))) | (((with_reducible first | refine hcO 40 true (c2) ?_ ?_ ?_ ?_ ?_); iterate 4 (focus (simp (disch := omega) only [go_sem, d1, reduceCtorEq, nLo]; done))); simp only [go_sem, d1, reduceCtorEq]; refine aLr ?_)) <;> (try simp (disch := omega) only [go_sem, d1, reduceCtorEq, *])))
 all_goals (try simp (disch := omega) only [EndK, go_sem, d1, reduceCtorEq, nLo, *])
 clear c2 d1 hj hjl
 refine i_hide fun Q2 hE => ?_
 refine i_loop (α := {j : Nat // j ≤ (bodiesL p).length ∧ ((bodiesL p).drop j).all (isBlkB p) = (bodiesL p).all (isBlkB p)}) (fun j => ⟨mkEnv 75 [(1, .one (.ptr 0 0 0)), (5, .one (.ref 1 0 (bodiesL p).length)), (6, .one (iV j.1))], [.live 3 [programR p], .live 1 (intsT (bodiesL p))]⟩) (fun j => (bodiesL p).length - j.1) ⟨0, by omega, rfl⟩ ?_ ?_
 ·first | exact wc [1, 5, 6] [0, 2]
 rintro ⟨j, hj, he⟩
 dsimp only at hj he ⊢
 by_cases hjl : j < (bodiesL p).length
 ·have d1 : decide ((j : Int) < ((bodiesL p).length : Int)) = true := decide_eq_true (by omega)
  have a0 := specInB_ok ((bodiesL p).getD j 0) 0 ((p.nodes.length : Int) - 1)
  rw [all_drop (z := (0 : Int)) hjl] at he
  have hib : isBlkB p ((bodiesL p).getD j 0) = if inB ((bodiesL p).getD j 0) 0 ((p.nodes.length : Int) - 1) = true then ((p.nodes.getD ((bodiesL p).getD j 0).toNat nodeZ).kind == 20) else false := rfl
  obtain ⟨b, hb⟩ : ∃ x, (bodiesL p).getD j 0 = x := ⟨_, rfl⟩
  rw [hb] at a0 he hib
  clear c3 hK2
  cases q : inB b 0 ((p.nodes.length : Int) - 1)
  ·rw [q] at a0 hib
   rw [if_neg (by simp)] at hib
   rw [hib, Bool.false_and] at he
   rw [← he, if_pos rfl] at hres
   subst hres
   clear he q hib
   simp (disch := omega) only [go_sem]
   have x1 : HT 13 (.fr [0, 1, 2, 3, 4, 5, 6, 7] (.op [8] (.fr [9, 10, 11, 12, 13, 14, 15, 16, 17, 18, 19, 20, 21] (.stop)))) := ⟨⟩
   exact wk
  ·obtain ⟨b0, b1⟩ := inB_t q
   rw [q] at a0 hib
   rw [if_pos rfl] at hib
   cases q2 : ((p.nodes.getD b.toNat nodeZ).kind == 20)
   ·have q2b : ((p.nodes.getD b.toNat nodeZ).kind != 20) = true := by unfold bne; rw [q2]; rfl
    rw [q2] at hib
    rw [hib, Bool.false_and] at he
    rw [← he, if_pos rfl] at hres
    subst hres
    clear he q hib q2
    simp (disch := omega) only [go_sem]
    have x1 : HT 13 (.fr [0, 1, 2, 3, 4, 5, 6, 7] (.op [8] (.fr [9, 10, 11, 12, 13, 14, 15, 16, 17, 18, 19, 20, 21] (.stop)))) := ⟨⟩
    exact wk
   ·have q2b : ((p.nodes.getD b.toNat nodeZ).kind != 20) = false := by unfold bne; rw [q2]; rfl
    rw [q2] at hib
    rw [hib, Bool.true_and] at he
    clear hres q hib q2
    simp (disch := omega) only [go_sem]
    have x1 : HT 13 (.fr [0, 1, 2, 3, 4, 5, 6, 7] (.op [8] (.fr [9, 10, 11, 12, 13, 14, 15, 16, 17, 18, 19, 20, 21] (.stop)))) := ⟨⟩
    refine wkc ?_
    all_goals refine ⟨⟨j + 1, by omega, he⟩, ?_, by simp only; omega⟩
    all_goals first | exact wc [1, 5, 6] [0, 1]
 have d1 : decide ((j : Int) < ((bodiesL p).length : Int)) = false := decide_eq_false (by omega)
 have ek : (bodiesL p).drop j = [] := List.drop_eq_nil_of_le (by omega)
 rw [ek] at he
 have hall : (bodiesL p).all (isBlkB p) = true := he.symm
 rw [hall, if_neg (by simp)] at hres
 replace c3 := c3 (fun b hb => isBlkB_in (List.all_eq_true.1 hall b hb)) hK2
 clear he ek hall hK2
 have hul : (usedS p).length = p.nodes.length := by
  have key : ∀ (xs o : List Int), (xs.foldl bump o).length = o.length := fun xs => by
   induction xs with
   | nil => intro o; rfl
   | cons x xs ih => intro o; rw [List.foldl_cons, ih]; unfold bump; rw [List.length_set]
  unfold usedS
  rw [key, key, List.length_replicate]
 obtain ⟨US, hUS⟩ : ∃ x, usedS p = x := ⟨_, rfl⟩
 rw [hUS] at c3 hres hul
 replace hul : US.length ≤ 3000 := by omega
 clear hUS
 simp (disch := omega) only [go_sem]
 repeat' (first | (with_reducible first | refine i_seq ?_ | exact tr_none | refine tr_stop ?_ | refine i_treeQ (id := 13) (.fr [0, 1, 2, 3, 4, 5, 6, 7] (.op [8] (.fr [9, 10, 11, 12, 13, 14, 15, 16, 17, 18, 19, 20, 21] (.stop)))) mixedT (by kernel_rfl) (fun Q' hQ => ?_)) | ((first | (with_reducible first | refine iBk ?_ | refine iRQ (fun Q' hQ => ?_) | (refine Imp.go hQ ?_; clear hQ) | (refine ImpE.go hE ?_; clear hE) | refine tr_fr ?_ | refine tr_op (aLr ?_) | refine tr_alt (by kernel_rfl) (aLr ?_) ?_ | refine tr_altp ?_ ?_) | ((with_reducible refine i_condT ?_ ?_); (focus (simp only [go_sem, *]; done))) | ((with_reducible refine i_condF ?_ ?_); (focus (simp only [go_sem, *]; done))) | ((with_reducible first | refine rOg (fun h => ?_) (fun h => ?_) | refine pG_split (fun h => ?_) (fun h => ?_) | refine i_cond (by simp only [go_sem, *] <;> rfl) (fun h => ?_) (fun h => ?_)) <;> (try simp only [nqA, nqB, nqC, reduceCtorEq] at h) <;> (try have h' := odT h) <;> (try (have hz : (_ : Int) = (_ : Int) := h'; clear hz h')) <;> (try have h' := odF h) <;> (try have h' := inB_t h) <;> (try (exfalso; omega))) | (((with_reducible refine hcO 40 true (c3) ?_ ?_ ?_ ?_ ?_); iterate 4 (focus (simp (disch := omega) only [go_sem, d1, reduceCtorEq, nLo]; done))); simp only [go_sem, d1, reduceCtorEq]; refine aLr ?_)) <;> (try simp (disch := omega) only [go_sem, d1, reduceCtorEq, *])))
 all_goals (try simp (disch := omega) only [EndK, go_sem, d1, reduceCtorEq, nLo, *])
 clear c3 d1 hj hjl
 refine i_hide fun Q3 hE => ?_
 refine i_loop (α := {j : Nat // j ≤ US.length ∧ (US.drop j).all (fun x => x == 1) = US.all (fun x => x == 1)}) (fun j => ⟨mkEnv 75 [(1, .one (.ptr 0 0 0)), (7, .one (.ref 1 0 US.length)), (8, .one (iV j.1))], [.live 3 [programR p], .live 1 (intsT US)]⟩) (fun j => US.length - j.1) ⟨0, by omega, rfl⟩ ?_ ?_
 ·first | exact wc [1, 7, 8] [0, 2]
 rintro ⟨j, hj, he⟩
 dsimp only at hj he ⊢
 by_cases hjl : j < US.length
 ·have d1 : decide ((j : Int) < (US.length : Int)) = true := decide_eq_true (by omega)
  rw [all_drop (z := (0 : Int)) hjl] at he
  cases q : (US.getD j 0 == 1)
  ·have q2 : (US.getD j 0 != 1) = true := by unfold bne; rw [q]; rfl
   rw [q, Bool.false_and] at he
   rw [← he] at hres
   subst hres
   clear he q
   simp (disch := omega) only [go_sem]
   have x1 : HT 13 (.fr [0, 1, 2, 3, 4, 5, 6, 7] (.op [8] (.fr [9, 10, 11, 12, 13, 14, 15, 16, 17, 18, 19, 20, 21] (.stop)))) := ⟨⟩
   exact wk
  ·have q2 : (US.getD j 0 != 1) = false := by unfold bne; rw [q]; rfl
   rw [q, Bool.true_and] at he
   clear hres q
   simp (disch := omega) only [go_sem]
   have x1 : HT 13 (.fr [0, 1, 2, 3, 4, 5, 6, 7] (.op [8] (.fr [9, 10, 11, 12, 13, 14, 15, 16, 17, 18, 19, 20, 21] (.stop)))) := ⟨⟩
   refine wkc ?_
   all_goals refine ⟨⟨j + 1, by omega, he⟩, ?_, by simp only; omega⟩
   all_goals first | exact wc [1, 7, 8] [0, 1]
 ·have d1 : decide ((j : Int) < (US.length : Int)) = false := decide_eq_false (by omega)
  have ek : US.drop j = [] := List.drop_eq_nil_of_le (by omega)
  rw [ek] at he
  rw [← he] at hres
  have hr2 : res = true := hres.symm
  subst hr2
  clear he ek hres
  simp (disch := omega) only [go_sem]
  have x1 : HT 13 (.fr [0, 1, 2, 3, 4, 5, 6, 7] (.op [8] (.fr [9, 10, 11, 12, 13, 14, 15, 16, 17, 18, 19, 20, 21] (.stop)))) := ⟨⟩
  exact wk
end Go.Proofs.YtejnpiielcbkkaaGreat.E
end
