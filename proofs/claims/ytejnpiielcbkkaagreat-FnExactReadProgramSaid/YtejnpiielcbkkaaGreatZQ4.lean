/- A part of what stands under the laws of this seat: an abstract evaluator that is proved sound, and contracts of functions by it. No condition beside those that stand in each statement. -/
import Derived.Test.YtejnpiielcbkkaaGreatZP6
import Derived.Test.YtejnpiielcbkkaaGreatZP8
set_option linter.unusedVariables false
set_option linter.unusedSimpArgs false
set_option maxRecDepth 100000
set_option maxHeartbeats 4000000
namespace Go.Proofs.YtejnpiielcbkkaaGreat.E
/-! Names and how many there are, by the reference. -/
def namesC (xs : List ByteArray) (m : Int) : Bool := if xs.all nameOk = false then false else decide ((xs.length : Int) ≤ m)
theorem sNamesC_ok (xs : List ByteArray) (m : Int) (hs : xs.length ≤ 1048576) (hx : ∀ y ∈ xs, y.size ≤ 1048576) : CallOk Tryz.prog 164 [.one (.ro 1 (strsD xs)), .one (iV m)] (.s (.one (bV (namesC xs m)))) [none, none] := by
 obtain ⟨res, hres⟩ : ∃ r, namesC xs m = r := ⟨_, rfl⟩
 have hd : namesC xs m = if xs.all nameOk = false then false else decide ((xs.length : Int) ≤ m) := rfl
 rw [hres]
 rw [hd] at hres
 clear hd
 refine cOh 40 (hBd Tryz.func164 rfl (by kernel_rfl) ?_)
 simp (disch := omega) only [go_sem, Tryz.ntmps164, Tryz.results164]
 refine wkc ?_
 refine i_loop (α := {j : Nat // j ≤ xs.length ∧ (xs.drop j).all nameOk = xs.all nameOk}) (fun j => ⟨mkEnv 22 [(0, .one (.ro 1 (strsD xs))), (1, .one (iV m)), (5, .one (iV j.1))], []⟩) (fun j => xs.length - j.1) ⟨0, by omega, rfl⟩ ?_ ?_
 ·first | exact wc [0, 1, 5] []
 rintro ⟨j, hj, he⟩
 dsimp only at hj he ⊢
 by_cases hjl : j < xs.length
 ·have d1 : decide ((j : Int) < (xs.length : Int)) = true := decide_eq_true (by omega)
  have c0 := sNameOk_ok (xs.getD j ByteArray.empty) (hx _ (getD_mem hjl))
  rw [all_drop (z := ByteArray.empty) hjl] at he
  clear hx
  cases q : nameOk (xs.getD j ByteArray.empty)
  ·rw [q] at c0 he
   rw [Bool.false_and] at he
   rw [← he, if_pos rfl] at hres
   subst hres
   clear he q
   simp (disch := omega) only [go_sem]
   exact wk
  ·rw [q] at c0 he
   rw [Bool.true_and] at he
   clear hres q
   simp (disch := omega) only [go_sem]
   refine wkc ?_
   all_goals refine ⟨⟨j + 1, by omega, he⟩, ?_, by simp only; omega⟩
   all_goals first | exact wc [0, 1, 5] []
 ·have d1 : decide ((j : Int) < (xs.length : Int)) = false := decide_eq_false (by omega)
  have ek : xs.drop j = [] := List.drop_eq_nil_of_le (by omega)
  rw [ek] at he
  rw [← he, show ([] : List ByteArray).all nameOk = true from rfl, if_neg (by simp)] at hres
  clear he ek hx
  simp (disch := omega) only [go_sem]
  exact wk
def entC (e : Entry) : Bool := if nameOk e.name = false then false else nameOk e.param
def monS1 (m : Monitor) : Bool := if nameOk m.name = false then false else if namesC m.vars 3 = false then false else if namesC m.queues 2 = false then false else inB m.entries.length 1 3
def monSB (m : Monitor) : Bool := if monS1 m = false then false else m.entries.all entC
def procSB (x : Process) : Bool := if nameOk x.name = false then false else if namesC x.uses 3 = false then false else namesC x.vars 3
def listsE (p : Prgm) : Bool := if decide ((p.monitors.length : Int) ≤ 3) = false then false else inB p.processes.length 1 4
def listsB (p : Prgm) : Bool := if p.monitors.all monSB = false then false else if p.processes.all procSB = false then false else listsE p
/-- What is known of names. -/
structure NmP (p : Prgm) : Prop where
  mon : ∀ y ∈ p.monitors, y.name.size ≤ 1048576 ∧ (∀ s ∈ y.vars, s.size ≤ 1048576) ∧ (∀ s ∈ y.queues, s.size ≤ 1048576) ∧ (∀ e ∈ y.entries, e.name.size ≤ 1048576 ∧ e.param.size ≤ 1048576)
  pro : ∀ y ∈ p.processes, y.name.size ≤ 1048576 ∧ (∀ s ∈ y.uses, s.size ≤ 1048576) ∧ (∀ s ∈ y.vars, s.size ≤ 1048576)
theorem sLists_ok (p : Prgm) (hz : SzP p) (hn : NmP p) : CallOk Tryz.prog 86 [.agg (programR p)] (.s (.one (bV (listsB p)))) [none] := by
 have z1 := hz.monitors
 have z2 := hz.processes
 obtain ⟨res, hres⟩ : ∃ r, listsB p = r := ⟨_, rfl⟩
 have hd : listsB p = if p.monitors.all monSB = false then false else if p.processes.all procSB = false then false else listsE p := rfl
 rw [hres]
 rw [hd] at hres
 clear hd
 refine cOh 40 (hBd Tryz.func86 rfl (by kernel_rfl) ?_)
 simp (disch := omega) only [go_sem, Tryz.ntmps86, Tryz.results86]
 refine wkc ?_
 refine i_hide fun Q hE => ?_
 refine i_loop (α := {j : Nat // j ≤ p.monitors.length ∧ (p.monitors.drop j).all monSB = p.monitors.all monSB}) (fun j => ⟨mkEnv 106 [(1, .one (.ptr 0 0 0)), (3, .one (iV j.1))], [.live 3 [programR p]]⟩) (fun j => p.monitors.length - j.1) ⟨0, by omega, rfl⟩ ?_ ?_
 ·first | exact wc [1, 3] [0]
 rintro ⟨j, hj, he⟩
 dsimp only at hj he ⊢
 by_cases hjl : j < p.monitors.length
 ·have d1 : decide ((j : Int) < (p.monitors.length : Int)) = true := decide_eq_true (by omega)
  obtain ⟨g1, g2, g3⟩ := hz.mon (p.monitors.getD j moZ) (getD_mem hjl)
  obtain ⟨m1, m2, m3, m4⟩ := hn.mon (p.monitors.getD j moZ) (getD_mem hjl)
  rw [all_drop (z := moZ) hjl] at he
  have c0 := sNameOk_ok (p.monitors.getD j moZ).name m1
  have c1 := sNamesC_ok (p.monitors.getD j moZ).vars 3 (by omega) m2
  have c2 := sNamesC_ok (p.monitors.getD j moZ).queues 2 (by omega) m3
  have c3 := specInB_ok ((p.monitors.getD j moZ).entries.length : Int) 1 3
  have hm1 : monS1 (p.monitors.getD j moZ) = if nameOk (p.monitors.getD j moZ).name = false then false else if namesC (p.monitors.getD j moZ).vars 3 = false then false else if namesC (p.monitors.getD j moZ).queues 2 = false then false else inB (p.monitors.getD j moZ).entries.length 1 3 := rfl
  have hmb : monSB (p.monitors.getD j moZ) = if monS1 (p.monitors.getD j moZ) = false then false else (p.monitors.getD j moZ).entries.all entC := rfl
  clear hz hn m1 m2 m3
  cases q0 : nameOk (p.monitors.getD j moZ).name
  ·have hm : monSB (p.monitors.getD j moZ) = false := by rw [hmb, hm1, q0]; rfl
   rw [q0] at c0
   clear c1 c2 c3 m4 hm1 hmb q0
   rw [hm] at he
   simp only [Bool.false_and] at he
   rw [← he, if_pos rfl] at hres
   subst hres
   clear he hm
   simp (disch := omega) only [go_sem]
   exact wk
  rw [q0] at c0 hm1
  cases q1 : namesC (p.monitors.getD j moZ).vars 3
  ·have hm : monSB (p.monitors.getD j moZ) = false := by rw [hmb, hm1, q1]; rfl
   rw [q1] at c1
   clear c2 c3 m4 hm1 hmb q1
   rw [hm] at he
   simp only [Bool.false_and] at he
   rw [← he, if_pos rfl] at hres
   subst hres
   clear he hm
   simp (disch := omega) only [go_sem]
   exact wk
  rw [q1] at c1 hm1
  cases q2 : namesC (p.monitors.getD j moZ).queues 2
  ·have hm : monSB (p.monitors.getD j moZ) = false := by rw [hmb, hm1, q2]; rfl
   rw [q2] at c2
   clear c3 m4 hm1 hmb q2
   rw [hm] at he
   simp only [Bool.false_and] at he
   rw [← he, if_pos rfl] at hres
   subst hres
   clear he hm
   simp (disch := omega) only [go_sem]
   have x1 : HC 1 _ := ⟨c1⟩
   have x2 : HC 2 _ := ⟨c2⟩
   exact wk
  rw [q2] at c2 hm1
  cases q3 : inB ((p.monitors.getD j moZ).entries.length : Int) 1 3
  ·have hm : monSB (p.monitors.getD j moZ) = false := by rw [hmb, hm1, q3]; rfl
   rw [q3] at c3
   clear m4 hm1 hmb q3
   rw [hm] at he
   simp only [Bool.false_and] at he
   rw [← he, if_pos rfl] at hres
   subst hres
   clear he hm
   simp (disch := omega) only [go_sem]
   have x1 : HC 1 _ := ⟨c1⟩
   have x2 : HC 2 _ := ⟨c2⟩
   exact wk
  rw [q3] at c3 hm1
  have hmb2 : monSB (p.monitors.getD j moZ) = (p.monitors.getD j moZ).entries.all entC := by rw [hmb, hm1]; rfl
  clear hmb hm1 q0 q1 q2 q3
  rw [hmb2] at he
  clear hmb2
  simp (disch := omega) only [go_sem]
  repeat' (first | (with_reducible first | refine i_seq ?_) | ((first | (with_reducible first | refine iBk ?_ | refine iRQ (fun Q' hQ => ?_) | (refine Imp.go hQ ?_; clear hQ) | (refine ImpE.go hE ?_; clear hE)) | ((with_reducible refine i_condT ?_ ?_); (focus (simp only [go_sem, *]; done))) | ((with_reducible refine i_condF ?_ ?_); (focus (simp only [go_sem, *]; done))) | ((with_reducible first | refine rOg (fun h => ?_) (fun h => ?_) | refine i_cond (by simp only [go_sem, *] <;> rfl) (fun h => ?_) (fun h => ?_)) <;> (try simp only [nqA, nqB, nqC, reduceCtorEq] at h) <;> (try have h' := odT h) <;> (try (have hz : (_ : Int) = (_ : Int) := h'; clear hz h')) <;> (try have h' := odF h) <;> (try have h' := inB_t h) <;> (try (exfalso; omega))) | ((first | ((with_reducible first | refine hcO 40 true (c0) ?_ ?_ ?_ ?_ ?_ | refine hcO 40 true (c3) ?_ ?_ ?_ ?_ ?_); iterate 4 (focus (simp (disch := omega) only [go_sem, d1, reduceCtorEq, nLo]; done))) | ((with_reducible refine hcO 40 true (c1) ?_ ?_ ?_ ?_ ?_); iterate 4 (focus (simp (disch := omega) only [go_sem, d1, reduceCtorEq, nLo]; done))) | ((with_reducible refine hcO 40 true (c2) ?_ ?_ ?_ ?_ ?_); iterate 4 (focus (simp (disch := omega) only [go_sem, d1, reduceCtorEq, nLo]; done)))); simp only [go_sem, d1, reduceCtorEq]; refine aLr ?_)) <;> (try simp (disch := omega) only [go_sem, d1, reduceCtorEq, *])))
  all_goals (try simp (disch := omega) only [EndK, go_sem, d1, reduceCtorEq, nLo, *])
  clear c0 c1 c2 c3
  refine i_loop (α := {i : Nat // i ≤ (p.monitors.getD j moZ).entries.length ∧ ((p.monitors.getD j moZ).entries.drop i).all entC = (p.monitors.getD j moZ).entries.all entC}) (fun i => ⟨mkEnv 106 [(1, .one (.ptr 0 0 0)), (3, .one (iV j)), (4, .one (.ptr 1 0 0)), (5, .one (iV i.1))], [.live 3 [programR p], .live 4 [monitorR (p.monitors.getD j moZ)]]⟩) (fun i => (p.monitors.getD j moZ).entries.length - i.1) ⟨0, by omega, rfl⟩ ?_ ?_
  ·first | exact wc [1, 3, 4, 5] [0, 1]
  rintro ⟨i, hi, hie⟩
  dsimp only at hi hie ⊢
  by_cases hil : i < (p.monitors.getD j moZ).entries.length
  ·have d2 : decide ((i : Int) < ((p.monitors.getD j moZ).entries.length : Int)) = true := decide_eq_true (by omega)
   obtain ⟨e1, e2⟩ := m4 _ (getD_mem (z := entryZ) hil)
   have c0 := sNameOk_ok ((p.monitors.getD j moZ).entries.getD i entryZ).name e1
   have c1 := sNameOk_ok ((p.monitors.getD j moZ).entries.getD i entryZ).param e2
   rw [all_drop (z := entryZ) hil] at hie
   have hec : entC ((p.monitors.getD j moZ).entries.getD i entryZ) = if nameOk ((p.monitors.getD j moZ).entries.getD i entryZ).name = false then false else nameOk ((p.monitors.getD j moZ).entries.getD i entryZ).param := rfl
   rw [hec] at hie
   clear hec m4
   cases q0 : nameOk ((p.monitors.getD j moZ).entries.getD i entryZ).name
   ·rw [q0] at c0 hie
    simp only [if_true, Bool.false_and] at hie
    rw [← hie, Bool.false_and] at he
    rw [← he, if_pos rfl] at hres
    subst hres
    clear he hie q0 c1
    simp (disch := omega) only [go_sem]
    exact wk
   ·rw [q0] at c0 hie
    simp only [Bool.true_eq_false, if_false] at hie
    cases q1 : nameOk ((p.monitors.getD j moZ).entries.getD i entryZ).param
    ·rw [q1] at c1 hie
     rw [Bool.false_and] at hie
     rw [← hie, Bool.false_and] at he
     rw [← he, if_pos rfl] at hres
     subst hres
     clear he hie q0 q1
     simp (disch := omega) only [go_sem]
     have x1 : HC 1 _ := ⟨c0⟩
     have x2 : HC 2 _ := ⟨c1⟩
     exact wk
    ·rw [q1] at c1 hie
     rw [Bool.true_and] at hie
     clear he q0 q1 hres
     simp (disch := omega) only [go_sem]
     have x1 : HC 1 _ := ⟨c0⟩
     have x2 : HC 2 _ := ⟨c1⟩
     refine wkc ?_
     all_goals refine ⟨⟨i + 1, by omega, hie⟩, ?_, by simp only; omega⟩
     all_goals first | exact wc [1, 3, 4, 5] [0, 1]
  ·have d2 : decide ((i : Int) < ((p.monitors.getD j moZ).entries.length : Int)) = false := decide_eq_false (by omega)
   have ek : (p.monitors.getD j moZ).entries.drop i = [] := List.drop_eq_nil_of_le (by omega)
   rw [ek] at hie
   rw [← hie, show ([] : List Entry).all entC = true from rfl, Bool.true_and] at he
   clear ek hie hres m4
   simp (disch := omega) only [go_sem]
   refine wkc ?_
   all_goals refine ⟨⟨j + 1, by omega, he⟩, ?_, by simp only; omega⟩
   all_goals first | exact wc [1, 3] [0]
 ·have d1 : decide ((j : Int) < (p.monitors.length : Int)) = false := decide_eq_false (by omega)
  have ek : p.monitors.drop j = [] := List.drop_eq_nil_of_le (by omega)
  rw [ek] at he
  rw [← he, show ([] : List Monitor).all monSB = true from rfl, if_neg (by simp)] at hres
  clear he ek
  simp (disch := omega) only [go_sem]
  repeat' (first | (with_reducible first | refine i_seq ?_) | ((first | (with_reducible first | refine iBk ?_ | refine iRQ (fun Q' hQ => ?_) | (refine Imp.go hQ ?_; clear hQ) | (refine ImpE.go hE ?_; clear hE)) | ((with_reducible refine i_condT ?_ ?_); (focus (simp only [go_sem, *]; done))) | ((with_reducible refine i_condF ?_ ?_); (focus (simp only [go_sem, *]; done))) | ((with_reducible first | refine rOg (fun h => ?_) (fun h => ?_) | refine i_cond (by simp only [go_sem, *] <;> rfl) (fun h => ?_) (fun h => ?_)) <;> (try simp only [nqA, nqB, nqC, reduceCtorEq] at h) <;> (try have h' := odT h) <;> (try (have hz : (_ : Int) = (_ : Int) := h'; clear hz h')) <;> (try have h' := odF h) <;> (try have h' := inB_t h) <;> (try (exfalso; omega)))) <;> (try simp (disch := omega) only [go_sem, d1, reduceCtorEq, *])))
  all_goals (try simp (disch := omega) only [EndK, go_sem, d1, reduceCtorEq, nLo, *])
  clear d1 hj hjl
  refine i_hide fun Q2 hE => ?_
  refine i_loop (α := {j : Nat // j ≤ p.processes.length ∧ (p.processes.drop j).all procSB = p.processes.all procSB}) (fun j => ⟨mkEnv 106 [(1, .one (.ptr 0 0 0)), (6, .one (iV j.1))], [.live 3 [programR p]]⟩) (fun j => p.processes.length - j.1) ⟨0, by omega, rfl⟩ ?_ ?_
  ·first | exact wc [1, 6] [0]
  rintro ⟨j, hj, he⟩
  dsimp only at hj he ⊢
  by_cases hjl : j < p.processes.length
  ·have d1 : decide ((j : Int) < (p.processes.length : Int)) = true := decide_eq_true (by omega)
   obtain ⟨g1, g2⟩ := hz.pro (p.processes.getD j prZ) (getD_mem hjl)
   obtain ⟨m1, m2, m3⟩ := hn.pro (p.processes.getD j prZ) (getD_mem hjl)
   rw [all_drop (z := prZ) hjl] at he
   have c0 := sNameOk_ok (p.processes.getD j prZ).name m1
   have c1 := sNamesC_ok (p.processes.getD j prZ).uses 3 (by omega) m2
   have c2 := sNamesC_ok (p.processes.getD j prZ).vars 3 (by omega) m3
   have hmb : procSB (p.processes.getD j prZ) = if nameOk (p.processes.getD j prZ).name = false then false else if namesC (p.processes.getD j prZ).uses 3 = false then false else namesC (p.processes.getD j prZ).vars 3 := rfl
   clear hz hn m1 m2 m3
   cases q0 : nameOk (p.processes.getD j prZ).name
   ·have hm : procSB (p.processes.getD j prZ) = false := by rw [hmb, q0]; rfl
    rw [q0] at c0
    clear c1 c2 hmb q0
    rw [hm] at he
    simp only [Bool.false_and] at he
    rw [← he, if_pos rfl] at hres
    subst hres
    clear he hm
    simp (disch := omega) only [go_sem]
    exact wk
   rw [q0] at c0 hmb
   cases q1 : namesC (p.processes.getD j prZ).uses 3
   ·have hm : procSB (p.processes.getD j prZ) = false := by rw [hmb, q1]; rfl
    rw [q1] at c1
    clear c2 hmb q1
    rw [hm] at he
    simp only [Bool.false_and] at he
    rw [← he, if_pos rfl] at hres
    subst hres
    clear he hm
    simp (disch := omega) only [go_sem]
    exact wk
   rw [q1] at c1 hmb
   cases q2 : namesC (p.processes.getD j prZ).vars 3
   ·have hm : procSB (p.processes.getD j prZ) = false := by rw [hmb, q2]; rfl
    rw [q2] at c2
    clear hmb q0 q1 q2
    rw [hm] at he
    simp only [Bool.false_and] at he
    rw [← he, if_pos rfl] at hres
    subst hres
    clear he hm
    simp (disch := omega) only [go_sem]
    have x1 : HC 1 _ := ⟨c1⟩
    have x2 : HC 2 _ := ⟨c2⟩
    exact wk
   rw [q2] at c2 hmb
   have hm : procSB (p.processes.getD j prZ) = true := by rw [hmb]; rfl
   rw [hm, Bool.true_and] at he
   clear hm hmb q0 q1 q2 hres
   simp (disch := omega) only [go_sem]
   have x1 : HC 1 _ := ⟨c1⟩
   have x2 : HC 2 _ := ⟨c2⟩
   refine wkc ?_
   all_goals refine ⟨⟨j + 1, by omega, he⟩, ?_, by simp only; omega⟩
   all_goals first | exact wc [1, 6] [0]
  ·have d1 : decide ((j : Int) < (p.processes.length : Int)) = false := decide_eq_false (by omega)
   have ek : p.processes.drop j = [] := List.drop_eq_nil_of_le (by omega)
   rw [ek] at he
   rw [← he, show ([] : List Process).all procSB = true from rfl, if_neg (by simp)] at hres
   have hmc : listsE p = if decide ((p.monitors.length : Int) ≤ 3) = false then false else inB p.processes.length 1 4 := rfl
   rw [hmc] at hres
   have c1 := specInB_ok (p.processes.length : Int) 1 4
   clear he ek hmc
   cases q2 : decide ((p.monitors.length : Int) ≤ 3)
   ·rw [q2, if_pos rfl] at hres
    subst hres
    clear c1
    simp (disch := omega) only [go_sem]
    exact wk
   ·rw [q2, if_neg (by simp)] at hres
    rw [hres] at c1
    clear hres
    simp (disch := omega) only [go_sem]
    exact wk
end Go.Proofs.YtejnpiielcbkkaaGreat.E
