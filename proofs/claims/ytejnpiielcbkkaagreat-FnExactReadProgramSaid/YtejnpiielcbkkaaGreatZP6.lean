/- A part of what stands under the laws of this seat: an abstract evaluator that is proved sound, and contracts of functions by it. No condition beside those that stand in each statement. -/
import Derived.Test.YtejnpiielcbkkaaGreatZP1
set_option linter.unusedVariables false
set_option linter.unusedSimpArgs false
section
set_option maxRecDepth 100000
set_option maxHeartbeats 4000000
namespace Go.Proofs.YtejnpiielcbkkaaGreat.E
/-! Is there one of this kind? -/
theorem any_drop {α : Type} {f : α → Bool} {z : α} {xs : List α} {j : Nat} (h : j < xs.length) : (xs.drop j).any f = (f (xs.getD j z) || (xs.drop (j + 1)).any f) := by
 rw [List.drop_eq_getElem_cons h, List.getD_eq_getElem?_getD, List.getElem?_eq_getElem h]
 rfl
theorem all_drop {α : Type} {f : α → Bool} {z : α} {xs : List α} {j : Nat} (h : j < xs.length) : (xs.drop j).all f = (f (xs.getD j z) && (xs.drop (j + 1)).all f) := by
 rw [List.drop_eq_getElem_cons h, List.getD_eq_getElem?_getD, List.getElem?_eq_getElem h]
 rfl
theorem idxFuncS_ok (f : ByteArray → Bool) (g : FuncId) (xs : List ByteArray) (hs : xs.length ≤ 1099511627776) (hg : ∀ x ∈ xs, CallOk Tryz.prog g [.one (sV x)] (.s (.one (bV (f x)))) [none]) : CallE Tryz.prog 172 [.one (.ro 1 (strsD xs)), .one (.fn false g [])] (fun r : Int => .s (.one (iV r))) (fun _ => [none, none]) (fun r => decide (0 ≤ r) = xs.any f) := by
 refine callE_of_hcall 40 (hBd Tryz.func172 rfl (by kernel_rfl) ?_)
 simp (disch := omega) only [go_sem, Tryz.ntmps172, Tryz.results172]
 refine wkc ?_
 refine i_loop (α := {j : Nat // j ≤ xs.length ∧ (xs.drop j).any f = xs.any f}) (fun j => ⟨mkEnv 19 [(0, .one (.ro 1 (strsD xs))), (1, .one (.fn false g [])), (7, .one (iV xs.length)), (8, .one (iV j.1))], []⟩) (fun j => xs.length - j.1) ⟨0, by omega, rfl⟩ ?_ ?_
 ·first | exact wc [0, 1, 7, 8] []
 rintro ⟨j, hj, he⟩
 dsimp only at hj he ⊢
 by_cases hjl : j < xs.length
 ·have d1 : decide ((j : Int) < (xs.length : Int)) = true := decide_eq_true (by omega)
  have hx := hg (xs.getD j ByteArray.empty) (by rw [List.getD_eq_getElem?_getD, List.getElem?_eq_getElem hjl]; exact List.getElem_mem hjl)
  rw [any_drop (z := ByteArray.empty) hjl] at he
  cases q : f (xs.getD j ByteArray.empty)
  ·rw [q] at hx he
   rw [Bool.false_or] at he
   clear hg q
   simp (disch := omega) only [go_sem]
   repeat' (first | (with_reducible first | refine i_seq ?_) | ((first | (with_reducible first | refine iBk ?_ | refine iRQ (fun Q' hQ => ?_) | (refine Imp.go hQ ?_; clear hQ)) | ((with_reducible refine i_condT ?_ ?_); (focus (simp only [go_sem, *]; done))) | ((with_reducible refine i_condF ?_ ?_); (focus (simp only [go_sem, *]; done))) | ((with_reducible first | refine rOg (fun h => ?_) (fun h => ?_) | refine i_cond (by simp only [go_sem, *] <;> rfl) (fun h => ?_) (fun h => ?_)) <;> (try simp only [nqA, nqB, nqC, reduceCtorEq] at h) <;> (try have h' := odT h) <;> (try (have hz : (_ : Int) = (_ : Int) := h'; clear hz h')) <;> (try have h' := odF h) <;> (try have h' := inB_t h) <;> (try (exfalso; omega))) | (((with_reducible refine hcO 40 true (hx) ?_ ?_ ?_ ?_ ?_); iterate 4 (focus (simp (disch := omega) only [go_sem, d1, reduceCtorEq, nLo]; done))); simp only [go_sem, d1, reduceCtorEq]; refine aLr ?_)) <;> (try simp (disch := omega) only [go_sem, d1, reduceCtorEq, *])))
   all_goals (try simp (disch := omega) only [EndK, go_sem, d1, reduceCtorEq, nLo, *])
   all_goals refine ⟨⟨j + 1, by omega, he⟩, ?_, by simp only; omega⟩
   all_goals first | exact wc [0, 1, 7, 8] []
  ·rw [q] at hx he
   rw [Bool.true_or] at he
   replace he := he.symm
   clear hg q
   simp (disch := omega) only [go_sem]
   repeat' (first | (with_reducible first | refine i_seq ?_) | ((first | (with_reducible first | refine iBk ?_ | refine iRQ (fun Q' hQ => ?_) | (refine Imp.go hQ ?_; clear hQ)) | ((with_reducible refine i_condT ?_ ?_); (focus (simp only [go_sem, *]; done))) | ((with_reducible refine i_condF ?_ ?_); (focus (simp only [go_sem, *]; done))) | ((with_reducible first | refine rOg (fun h => ?_) (fun h => ?_) | refine i_cond (by simp only [go_sem, *] <;> rfl) (fun h => ?_) (fun h => ?_)) <;> (try simp only [nqA, nqB, nqC, reduceCtorEq] at h) <;> (try have h' := odT h) <;> (try (have hz : (_ : Int) = (_ : Int) := h'; clear hz h')) <;> (try have h' := odF h) <;> (try have h' := inB_t h) <;> (try (exfalso; omega))) | (((with_reducible refine hcO 40 true (hx) ?_ ?_ ?_ ?_ ?_); iterate 4 (focus (simp (disch := omega) only [go_sem, d1, reduceCtorEq, nLo]; done))); simp only [go_sem, d1, reduceCtorEq]; refine aLr ?_)) <;> (try simp (disch := omega) only [go_sem, d1, reduceCtorEq, *])))
   all_goals (try simp (disch := omega) only [EndK, go_sem, d1, reduceCtorEq, nLo, *])
   all_goals exact ⟨(j : Int), decide_eq_true (by omega), rfl⟩
 ·have d1 : decide ((j : Int) < (xs.length : Int)) = false := decide_eq_false (by omega)
  have ek : xs.drop j = [] := List.drop_eq_nil_of_le (by omega)
  rw [ek] at he
  clear hg ek
  simp (disch := omega) only [go_sem]
  refine wkzr ?_
  intros
  all_goals exact ⟨-1, by rw [← he]; rfl, rfl⟩
theorem hasFuncS_ok (f : ByteArray → Bool) (g : FuncId) (xs : List ByteArray) (hs : xs.length ≤ 1099511627776) (hg : ∀ x ∈ xs, CallOk Tryz.prog g [.one (sV x)] (.s (.one (bV (f x)))) [none]) : CallOk Tryz.prog 100 [.one (.ro 1 (strsD xs)), .one (.fn false g [])] (.s (.one (bV (xs.any f)))) [none, none] := by
 have hi := idxFuncS_ok f g xs hs hg
 clear hg
 refine cOh 40 (hBd Tryz.func100 rfl (by kernel_rfl) ?_)
 simp (disch := omega) only [go_sem, Tryz.ntmps100, Tryz.results100]
 repeat' (first | (with_reducible first | refine i_seq ?_) | ((first | (with_reducible first | refine iBk ?_ | refine iRQ (fun Q' hQ => ?_) | (refine Imp.go hQ ?_; clear hQ)) | ((with_reducible refine i_condT ?_ ?_); (focus (simp only [go_sem, *]; done))) | ((with_reducible refine i_condF ?_ ?_); (focus (simp only [go_sem, *]; done))) | ((with_reducible first | refine rOg (fun h => ?_) (fun h => ?_) | refine i_cond (by simp only [go_sem, *] <;> rfl) (fun h => ?_) (fun h => ?_)) <;> (try simp only [nqA, nqB, nqC, reduceCtorEq] at h) <;> (try have h' := odT h) <;> (try (have hz : (_ : Int) = (_ : Int) := h'; clear hz h')) <;> (try have h' := odF h) <;> (try have h' := inB_t h) <;> (try (exfalso; omega))) | ((with_reducible refine hcall_of_callE 40 true (hi) ?_ ?_ ?_ ?_ ?_); (focus (simp (disch := omega) only [go_sem, reduceCtorEq, nLo]; done)); (focus (simp (disch := omega) only [go_sem, reduceCtorEq, nLo]; done)); (focus (rintro r hr; (try dsimp only at hr); (try simp (disch := omega) only [go_sem, reduceCtorEq, nLo]); done)); (focus (rintro r hr; (try dsimp only at hr); (try simp (disch := omega) only [go_sem, reduceCtorEq, nLo]); done)); rintro r hr; (try dsimp only at hr); simp only [go_sem, reduceCtorEq]; refine aLr ?_)) <;> (try simp (disch := omega) only [go_sem, reduceCtorEq, *])))
 all_goals (try simp (disch := omega) only [EndK, go_sem, reduceCtorEq, nLo, *])
theorem idxFuncI_ok (f : Int → Bool) (g : FuncId) (xs : List Int) (hs : xs.length ≤ 1099511627776) (hg : ∀ x ∈ xs, CallOk Tryz.prog g [.one (iV x)] (.s (.one (bV (f x)))) [none]) : CallE Tryz.prog 179 [.one (.ro 1 (intsD xs)), .one (.fn false g [])] (fun r : Int => .s (.one (iV r))) (fun _ => [none, none]) (fun r => decide (0 ≤ r) = xs.any f) := by
 refine callE_of_hcall 40 (hBd Tryz.func179 rfl (by kernel_rfl) ?_)
 simp (disch := omega) only [go_sem, Tryz.ntmps179, Tryz.results179]
 refine wkc ?_
 refine i_loop (α := {j : Nat // j ≤ xs.length ∧ (xs.drop j).any f = xs.any f}) (fun j => ⟨mkEnv 19 [(0, .one (.ro 1 (intsD xs))), (1, .one (.fn false g [])), (7, .one (iV xs.length)), (8, .one (iV j.1))], []⟩) (fun j => xs.length - j.1) ⟨0, by omega, rfl⟩ ?_ ?_
 ·first | exact wc [0, 1, 7, 8] []
 rintro ⟨j, hj, he⟩
 dsimp only at hj he ⊢
 by_cases hjl : j < xs.length
 ·have d1 : decide ((j : Int) < (xs.length : Int)) = true := decide_eq_true (by omega)
  have hx := hg (xs.getD j 0) (by rw [List.getD_eq_getElem?_getD, List.getElem?_eq_getElem hjl]; exact List.getElem_mem hjl)
  rw [any_drop (z := 0) hjl] at he
  cases q : f (xs.getD j 0)
  ·rw [q] at hx he
   rw [Bool.false_or] at he
   clear hg q
   simp (disch := omega) only [go_sem]
   repeat' (first | (with_reducible first | refine i_seq ?_) | ((first | (with_reducible first | refine iBk ?_ | refine iRQ (fun Q' hQ => ?_) | (refine Imp.go hQ ?_; clear hQ)) | ((with_reducible refine i_condT ?_ ?_); (focus (simp only [go_sem, *]; done))) | ((with_reducible refine i_condF ?_ ?_); (focus (simp only [go_sem, *]; done))) | ((with_reducible first | refine rOg (fun h => ?_) (fun h => ?_) | refine i_cond (by simp only [go_sem, *] <;> rfl) (fun h => ?_) (fun h => ?_)) <;> (try simp only [nqA, nqB, nqC, reduceCtorEq] at h) <;> (try have h' := odT h) <;> (try (have hz : (_ : Int) = (_ : Int) := h'; clear hz h')) <;> (try have h' := odF h) <;> (try have h' := inB_t h) <;> (try (exfalso; omega))) | (((with_reducible refine hcO 40 true (hx) ?_ ?_ ?_ ?_ ?_); iterate 4 (focus (simp (disch := omega) only [go_sem, d1, reduceCtorEq, nLo]; done))); simp only [go_sem, d1, reduceCtorEq]; refine aLr ?_)) <;> (try simp (disch := omega) only [go_sem, d1, reduceCtorEq, *])))
   all_goals (try simp (disch := omega) only [EndK, go_sem, d1, reduceCtorEq, nLo, *])
   all_goals refine ⟨⟨j + 1, by omega, he⟩, ?_, by simp only; omega⟩
   all_goals first | exact wc [0, 1, 7, 8] []
  ·rw [q] at hx he
   rw [Bool.true_or] at he
   replace he := he.symm
   clear hg q
   simp (disch := omega) only [go_sem]
   repeat' (first | (with_reducible first | refine i_seq ?_) | ((first | (with_reducible first | refine iBk ?_ | refine iRQ (fun Q' hQ => ?_) | (refine Imp.go hQ ?_; clear hQ)) | ((with_reducible refine i_condT ?_ ?_); (focus (simp only [go_sem, *]; done))) | ((with_reducible refine i_condF ?_ ?_); (focus (simp only [go_sem, *]; done))) | ((with_reducible first | refine rOg (fun h => ?_) (fun h => ?_) | refine i_cond (by simp only [go_sem, *] <;> rfl) (fun h => ?_) (fun h => ?_)) <;> (try simp only [nqA, nqB, nqC, reduceCtorEq] at h) <;> (try have h' := odT h) <;> (try (have hz : (_ : Int) = (_ : Int) := h'; clear hz h')) <;> (try have h' := odF h) <;> (try have h' := inB_t h) <;> (try (exfalso; omega))) | (((with_reducible refine hcO 40 true (hx) ?_ ?_ ?_ ?_ ?_); iterate 4 (focus (simp (disch := omega) only [go_sem, d1, reduceCtorEq, nLo]; done))); simp only [go_sem, d1, reduceCtorEq]; refine aLr ?_)) <;> (try simp (disch := omega) only [go_sem, d1, reduceCtorEq, *])))
   all_goals (try simp (disch := omega) only [EndK, go_sem, d1, reduceCtorEq, nLo, *])
   all_goals exact ⟨(j : Int), decide_eq_true (by omega), rfl⟩
 ·have d1 : decide ((j : Int) < (xs.length : Int)) = false := decide_eq_false (by omega)
  have ek : xs.drop j = [] := List.drop_eq_nil_of_le (by omega)
  rw [ek] at he
  clear hg ek
  simp (disch := omega) only [go_sem]
  refine wkzr ?_
  intros
  all_goals exact ⟨-1, by rw [← he]; rfl, rfl⟩
theorem hasFuncI_ok (f : Int → Bool) (g : FuncId) (xs : List Int) (hs : xs.length ≤ 1099511627776) (hg : ∀ x ∈ xs, CallOk Tryz.prog g [.one (iV x)] (.s (.one (bV (f x)))) [none]) : CallOk Tryz.prog 108 [.one (.ro 1 (intsD xs)), .one (.fn false g [])] (.s (.one (bV (xs.any f)))) [none, none] := by
 have hi := idxFuncI_ok f g xs hs hg
 clear hg
 refine cOh 40 (hBd Tryz.func108 rfl (by kernel_rfl) ?_)
 simp (disch := omega) only [go_sem, Tryz.ntmps108, Tryz.results108]
 repeat' (first | (with_reducible first | refine i_seq ?_) | ((first | (with_reducible first | refine iBk ?_ | refine iRQ (fun Q' hQ => ?_) | (refine Imp.go hQ ?_; clear hQ)) | ((with_reducible refine i_condT ?_ ?_); (focus (simp only [go_sem, *]; done))) | ((with_reducible refine i_condF ?_ ?_); (focus (simp only [go_sem, *]; done))) | ((with_reducible first | refine rOg (fun h => ?_) (fun h => ?_) | refine i_cond (by simp only [go_sem, *] <;> rfl) (fun h => ?_) (fun h => ?_)) <;> (try simp only [nqA, nqB, nqC, reduceCtorEq] at h) <;> (try have h' := odT h) <;> (try (have hz : (_ : Int) = (_ : Int) := h'; clear hz h')) <;> (try have h' := odF h) <;> (try have h' := inB_t h) <;> (try (exfalso; omega))) | ((with_reducible refine hcall_of_callE 40 true (hi) ?_ ?_ ?_ ?_ ?_); (focus (simp (disch := omega) only [go_sem, reduceCtorEq, nLo]; done)); (focus (simp (disch := omega) only [go_sem, reduceCtorEq, nLo]; done)); (focus (rintro r hr; (try dsimp only at hr); (try simp (disch := omega) only [go_sem, reduceCtorEq, nLo]); done)); (focus (rintro r hr; (try dsimp only at hr); (try simp (disch := omega) only [go_sem, reduceCtorEq, nLo]); done)); rintro r hr; (try dsimp only at hr); simp only [go_sem, reduceCtorEq]; refine aLr ?_)) <;> (try simp (disch := omega) only [go_sem, reduceCtorEq, *])))
 all_goals (try simp (disch := omega) only [EndK, go_sem, reduceCtorEq, nLo, *])
theorem notName_ok (s : ByteArray) (hs : s.size ≤ 1048576) : CallOk Tryz.prog 102 [.one (sV s)] (.s (.one (bV (!nameOk s)))) [none] := by
 have h := iNameOk_ok s hs
 refine cOh 40 (hBd Tryz.func102 rfl (by kernel_rfl) ?_)
 simp (disch := omega) only [go_sem, Tryz.ntmps102, Tryz.results102]
 exact wk
theorem notOne_ok (x : Int) : CallOk Tryz.prog 109 [.one (iV x)] (.s (.one (bV (x != 1)))) [none] := by
 refine cOh 40 (hBd Tryz.func109 rfl (by kernel_rfl) ?_)
 simp (disch := omega) only [go_sem, Tryz.ntmps109, Tryz.results109]
 exact wk
end Go.Proofs.YtejnpiielcbkkaaGreat.E
end
section
set_option maxRecDepth 100000
set_option maxHeartbeats 4000000
namespace Go.Proofs.YtejnpiielcbkkaaGreat.E
/-! How many there are. -/
def monC (m : Monitor) : Bool := if decide ((3 : Int) < (m.vars.length : Int)) = true then false else if decide ((2 : Int) < (m.queues.length : Int)) = true then false else inB m.entries.length 1 3
def procC (x : Process) : Bool := if decide ((3 : Int) < (x.uses.length : Int)) = true then false else !decide ((3 : Int) < (x.vars.length : Int))
def endC (p : Prgm) : Bool := if decide ((p.nodes.length : Int) ≤ 160) = false then false else if decide ((p.monitors.length : Int) ≤ 3) = false then false else inB p.processes.length 1 4
def countsB (p : Prgm) : Bool := if p.monitors.all monC = false then false else if p.processes.all procC = false then false else endC p
theorem iCounts_ok (p : Prgm) (hN : p.nodes.length ≤ 1048576) (hM : p.monitors.length ≤ 1048576) (hP : p.processes.length ≤ 1048576) (hm : ∀ y ∈ p.monitors, y.vars.length ≤ 1048576 ∧ y.queues.length ≤ 1048576 ∧ y.entries.length ≤ 1048576) (hp : ∀ y ∈ p.processes, y.uses.length ≤ 1048576 ∧ y.vars.length ≤ 1048576) : CallOk Tryz.prog 99 [.agg (programR p)] (.s (.one (bV (countsB p)))) [none] := by
 obtain ⟨res, hres⟩ : ∃ res, countsB p = res := ⟨_, rfl⟩
 have hcb : countsB p = if p.monitors.all monC = false then false else if p.processes.all procC = false then false else endC p := rfl
 rw [hcb] at hres
 rw [hcb, hres]
 clear hcb
 refine cOh 40 (hBd Tryz.func99 rfl (by kernel_rfl) ?_)
 simp (disch := omega) only [go_sem, Tryz.ntmps99, Tryz.results99]
 refine wkc ?_
 refine i_hide fun Q hE => ?_
 refine i_loop (α := {j : Nat // j ≤ p.monitors.length ∧ (p.monitors.drop j).all monC = p.monitors.all monC}) (fun j => ⟨mkEnv 66 [(1, .one (.ptr 0 0 0)), (8, .one (.ro 4 (monitorsD p.monitors))), (9, .one (iV p.monitors.length)), (10, .one (iV j.1))], [.live 3 [programR p]]⟩) (fun j => p.monitors.length - j.1) ⟨0, by omega, rfl⟩ ?_ ?_
 ·first | exact wc [1, 8, 9, 10] [0]
 rintro ⟨j, hj, he⟩
 dsimp only at hj he ⊢
 by_cases hjl : j < p.monitors.length
 ·have d1 : decide ((j : Int) < (p.monitors.length : Int)) = true := decide_eq_true (by omega)
  obtain ⟨b1, b2, b3⟩ := hm (p.monitors.getD j moZ) (by rw [List.getD_eq_getElem?_getD, List.getElem?_eq_getElem hjl]; exact List.getElem_mem hjl)
  rw [all_drop (z := moZ) hjl] at he
  have hmc : monC (p.monitors.getD j moZ) = if decide ((3 : Int) < ((p.monitors.getD j moZ).vars.length : Int)) = true then false else if decide ((2 : Int) < ((p.monitors.getD j moZ).queues.length : Int)) = true then false else inB (p.monitors.getD j moZ).entries.length 1 3 := rfl
  have c1 := within_ok ((p.monitors.getD j moZ).entries.length : Int) 1 3
  clear hm hp
  cases q1 : decide ((3 : Int) < ((p.monitors.getD j moZ).vars.length : Int))
  ·cases q2 : decide ((2 : Int) < ((p.monitors.getD j moZ).queues.length : Int))
   ·cases q3 : inB ((p.monitors.getD j moZ).entries.length : Int) 1 3
    ·rw [q1, q2, q3] at hmc
     rw [hmc] at he
     simp only [Bool.false_eq_true, if_false, if_true, Bool.false_and, Bool.not_true] at he
     rw [← he, if_pos rfl] at hres
     subst hres
     rw [q3] at c1
     clear he hmc
     simp (disch := omega) only [go_sem]
     exact wk
    ·rw [q1, q2, q3] at hmc
     rw [hmc] at he
     rw [q3] at c1
     clear hres hmc
     simp (disch := omega) only [go_sem]
     refine wkc ?_
     all_goals refine ⟨⟨j + 1, by omega, by simpa using he⟩, ?_, by simp only; omega⟩
     all_goals first | exact wc [1, 8, 9, 10] [0]
   ·rw [q1, q2] at hmc
    rw [hmc] at he
    simp only [Bool.false_eq_true, if_false, if_true, Bool.false_and, Bool.not_true] at he
    rw [← he, if_pos rfl] at hres
    subst hres
    clear he hmc c1
    simp (disch := omega) only [go_sem]
    exact wk
  ·rw [q1] at hmc
   rw [hmc] at he
   simp only [Bool.false_eq_true, if_false, if_true, Bool.false_and, Bool.not_true] at he
   rw [← he, if_pos rfl] at hres
   subst hres
   clear he hmc c1
   simp (disch := omega) only [go_sem]
   exact wk
 ·have d1 : decide ((j : Int) < (p.monitors.length : Int)) = false := decide_eq_false (by omega)
  have ek : p.monitors.drop j = [] := List.drop_eq_nil_of_le (by omega)
  rw [ek] at he
  rw [← he, show ([] : List Monitor).all monC = true from rfl, if_neg (by simp)] at hres
  clear he ek hm
  simp (disch := omega) only [go_sem]
  repeat' (first | (with_reducible first | refine i_seq ?_) | ((first | (with_reducible first | refine iBk ?_ | refine iRQ (fun Q' hQ => ?_) | (refine Imp.go hQ ?_; clear hQ) | (refine ImpE.go hE ?_; clear hE)) | ((with_reducible refine i_condT ?_ ?_); (focus (simp only [go_sem, *]; done))) | ((with_reducible refine i_condF ?_ ?_); (focus (simp only [go_sem, *]; done))) | ((with_reducible first | refine rOg (fun h => ?_) (fun h => ?_) | refine i_cond (by simp only [go_sem, *] <;> rfl) (fun h => ?_) (fun h => ?_)) <;> (try simp only [nqA, nqB, nqC, reduceCtorEq] at h) <;> (try have h' := odT h) <;> (try (have hz : (_ : Int) = (_ : Int) := h'; clear hz h')) <;> (try have h' := odF h) <;> (try have h' := inB_t h) <;> (try (exfalso; omega)))) <;> (try simp (disch := omega) only [go_sem, d1, reduceCtorEq, *])))
  all_goals (try simp (disch := omega) only [EndK, go_sem, d1, reduceCtorEq, nLo, *])
  clear d1 hj hjl
  refine i_hide fun Q2 hE => ?_
  refine i_loop (α := {j : Nat // j ≤ p.processes.length ∧ (p.processes.drop j).all procC = p.processes.all procC}) (fun j => ⟨mkEnv 66 [(1, .one (.ptr 0 0 0)), (33, .one (.ro 4 (processsD p.processes))), (34, .one (iV p.processes.length)), (35, .one (iV j.1))], [.live 3 [programR p]]⟩) (fun j => p.processes.length - j.1) ⟨0, by omega, rfl⟩ ?_ ?_
  ·first | exact wc [1, 33, 34, 35] [0]
  rintro ⟨j, hj, he⟩
  dsimp only at hj he ⊢
  by_cases hjl : j < p.processes.length
  ·have d1 : decide ((j : Int) < (p.processes.length : Int)) = true := decide_eq_true (by omega)
   obtain ⟨b1, b2⟩ := hp (p.processes.getD j prZ) (by rw [List.getD_eq_getElem?_getD, List.getElem?_eq_getElem hjl]; exact List.getElem_mem hjl)
   rw [all_drop (z := prZ) hjl] at he
   have hmc : procC (p.processes.getD j prZ) = if decide ((3 : Int) < ((p.processes.getD j prZ).uses.length : Int)) = true then false else !decide ((3 : Int) < ((p.processes.getD j prZ).vars.length : Int)) := rfl
   clear hp
   cases q1 : decide ((3 : Int) < ((p.processes.getD j prZ).uses.length : Int))
   ·cases q2 : decide ((3 : Int) < ((p.processes.getD j prZ).vars.length : Int))
    ·rw [q1, q2] at hmc
     rw [hmc] at he
     clear hres hmc
     simp (disch := omega) only [go_sem]
     refine wkc ?_
     all_goals refine ⟨⟨j + 1, by omega, by simpa using he⟩, ?_, by simp only; omega⟩
     all_goals first | exact wc [1, 33, 34, 35] [0]
    ·rw [q1, q2] at hmc
     rw [hmc] at he
     simp only [Bool.false_eq_true, if_false, if_true, Bool.false_and, Bool.not_true] at he
     rw [← he, if_pos rfl] at hres
     subst hres
     clear he hmc
     simp (disch := omega) only [go_sem]
     exact wk
   ·rw [q1] at hmc
    rw [hmc] at he
    simp only [Bool.false_eq_true, if_false, if_true, Bool.false_and, Bool.not_true] at he
    rw [← he, if_pos rfl] at hres
    subst hres
    clear he hmc
    simp (disch := omega) only [go_sem]
    exact wk
  ·have d1 : decide ((j : Int) < (p.processes.length : Int)) = false := decide_eq_false (by omega)
   have ek : p.processes.drop j = [] := List.drop_eq_nil_of_le (by omega)
   rw [ek] at he
   rw [← he, show ([] : List Process).all procC = true from rfl, if_neg (by simp)] at hres
   have hmc : endC p = if decide ((p.nodes.length : Int) ≤ 160) = false then false else if decide ((p.monitors.length : Int) ≤ 3) = false then false else inB p.processes.length 1 4 := rfl
   rw [hmc] at hres
   have c1 := within_ok (p.processes.length : Int) 1 4
   clear he ek hp hmc
   cases q1 : decide ((p.nodes.length : Int) ≤ 160)
   ·rw [q1, if_pos rfl] at hres
    subst hres
    clear c1
    simp (disch := omega) only [go_sem]
    exact wk
   ·rw [q1, if_neg (by simp)] at hres
    cases q2 : decide ((p.monitors.length : Int) ≤ 3)
    ·rw [q2, if_pos rfl] at hres
     subst hres
     clear c1
     simp (disch := omega) only [go_sem]
     exact wk
    ·rw [q2, if_neg (by simp)] at hres
     rw [hres] at c1
     clear hres
     simp (disch := omega) only [go_sem]
     exact wk
end Go.Proofs.YtejnpiielcbkkaaGreat.E
end
