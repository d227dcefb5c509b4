/- A part of what stands under the laws of this seat: an abstract evaluator that is proved sound, and contracts of functions by it. No condition beside those that stand in each statement. -/
import Derived.Test.YtejnpiielcbkkaaGreatZP6
set_option linter.unusedVariables false
set_option linter.unusedSimpArgs false
section
set_option maxRecDepth 100000
set_option maxHeartbeats 4000000
namespace Go.Proofs.YtejnpiielcbkkaaGreat.E
/-! A list that is nothing yet gets a name. -/
theorem weak_nilenv {k : Nat} {env : List AV} {H : List AObj} {s' : St} (i e : Nat) (hi : env[i]? = some (.s (.one (.v (.slice none 0 0))))) (h : Weak k ⟨env.set i (.s (.one (.ref H.length 0 0))), H ++ [.live e []]⟩ s') : Weak k ⟨env, H⟩ s' := by
 intro X a w hk hs
 obtain ⟨hd, R, M, F, hpre, henv, hH, hg, hfr⟩ := hs
 have hl := relHeap_len hH
 have hF : fa F fz = F := funext fun b => by simp [fa, fz]
 have h1 : relHeap R w (M ++ [⟨0, 0, e, 0⟩]) (H ++ [.live e []]) (M ++ [⟨0, 0, e, 0⟩]) (fa F fz) :=
  relHeap_app (relHeap_mono (fun _ h => h) (prefix_self M _) (fun _ _ => rfl) hH) ⟨fz, fz, ⟨rfl, .inl ⟨rfl, rfl, rfl⟩⟩, rfl, funext fun b => by simp [fa, fz]⟩
 rw [hF] at h1
 refine h X a w hk ⟨hd, R, M ++ [⟨0, 0, e, 0⟩], F, hpre.trans (prefix_self M _), ⟨by rw [List.length_set]; exact henv.1, fun j av hj => ?_⟩, h1, hg, hfr⟩
 have he := relEnv_mono (fun _ h => h) (prefix_self M [⟨0, 0, e, 0⟩]) (fun _ _ => rfl) henv
 by_cases hji : i = j
 ·subst hji
  have hlt : i < env.length := (List.getElem?_eq_some_iff.1 hi).1
  rw [List.getElem?_set_self hlt] at hj
  simp only [Option.some.injEq] at hj
  subst hj
  have hu := henv.2 i _ hi
  simp only [relAV, relA1, relT] at hu
  refine ⟨rfl, ⟨0, 0, e, 0⟩, none, 0, ?_, hu.1, Nat.le_refl _, rfl, .inl rfl⟩
  rw [hl, List.getElem?_append_right (Nat.le_refl _), Nat.sub_self]
  rfl
 ·rw [List.getElem?_set_ne hji] at hj
  exact he.2 j av hj
/-! Bodies, names. -/
def monBodies (m : Monitor) : List Int := m.entries.map (·.body)
def bodiesL (p : Prgm) : List Int := p.monitors.flatMap monBodies ++ p.processes.map (·.body)
def entNames (e : Entry) : List ByteArray := [e.name, e.param]
def monNames (m : Monitor) : List ByteArray := ((m.name :: m.vars) ++ m.queues) ++ m.entries.flatMap entNames
def procNames (x : Process) : List ByteArray := (x.name :: x.uses) ++ x.vars
def namesL (p : Prgm) : List ByteArray := p.monitors.flatMap monNames ++ p.processes.flatMap procNames
theorem flat_drop {α β : Type} {f : α → List β} {z : α} {xs : List α} {j : Nat} (h : j < xs.length) : (xs.drop j).flatMap f = f (xs.getD j z) ++ (xs.drop (j + 1)).flatMap f := by
 rw [List.drop_eq_getElem_cons h, List.getD_eq_getElem?_getD, List.getElem?_eq_getElem h, List.flatMap_cons]
 rfl
theorem map_drop1 {α β : Type} {f : α → β} {z : α} {xs : List α} {j : Nat} (h : j < xs.length) : (xs.drop j).map f = [f (xs.getD j z)] ++ (xs.drop (j + 1)).map f := by
 rw [List.drop_eq_getElem_cons h, List.getD_eq_getElem?_getD, List.getElem?_eq_getElem h, List.map_cons]
 rfl
theorem flat_le {α β : Type} {f : α → List β} {b : Nat} : ∀ (xs : List α), (∀ y ∈ xs, (f y).length ≤ b) → (xs.flatMap f).length ≤ xs.length * b
 | [], _ => by simp
 | x :: xs, h => by
  rw [List.flatMap_cons, List.length_append, List.length_cons, Nat.add_mul, Nat.one_mul]
  have := h x (List.mem_cons_self ..)
  have := flat_le xs (fun y hy => h y (List.mem_cons_of_mem _ hy))
  omega
/-- A program whose lists are short. -/
structure SzP (p : Prgm) : Prop where
  nodes : p.nodes.length ≤ 3000
  monitors : p.monitors.length ≤ 600
  processes : p.processes.length ≤ 600
  mon : ∀ y ∈ p.monitors, y.vars.length ≤ 600 ∧ y.queues.length ≤ 600 ∧ y.entries.length ≤ 600
  pro : ∀ y ∈ p.processes, y.uses.length ≤ 600 ∧ y.vars.length ≤ 600
theorem getD_mem {α : Type} {xs : List α} {j : Nat} {z : α} (h : j < xs.length) : xs.getD j z ∈ xs := by
 rw [List.getD_eq_getElem?_getD, List.getElem?_eq_getElem h]; exact List.getElem_mem h
theorem monB_le {p : Prgm} (h : SzP p) : (p.monitors.flatMap monBodies).length ≤ 360000 := by
 have := flat_le (f := monBodies) (b := 600) p.monitors (fun y hy => by unfold monBodies; rw [List.length_map]; exact (h.mon y hy).2.2)
 have := Nat.mul_le_mul_right 600 h.monitors
 omega
theorem monN_le {p : Prgm} (h : SzP p) : (p.monitors.flatMap monNames).length ≤ 1500000 := by
 have := flat_le (f := monNames) (b := 2401) p.monitors (fun y hy => by
  obtain ⟨h1, h2, h3⟩ := h.mon y hy
  have h4 := flat_le (f := entNames) (b := 2) y.entries (fun e _ => Nat.le_refl _)
  unfold monNames
  rw [List.length_append, List.length_append, List.length_cons]
  omega)
 have := Nat.mul_le_mul_right 2401 h.monitors
 omega
theorem proN_le {p : Prgm} (h : SzP p) : (p.processes.flatMap procNames).length ≤ 800000 := by
 have := flat_le (f := procNames) (b := 1201) p.processes (fun y hy => by
  obtain ⟨h1, h2⟩ := h.pro y hy
  unfold procNames
  rw [List.length_append, List.length_cons]
  omega)
 have := Nat.mul_le_mul_right 1201 h.processes
 omega
theorem ints_one (xs : List Int) (b : Int) : intsT xs ++ [[T.v (.int .i64 b)]] = intsT (xs ++ [b]) := by simp [intsT]
theorem strs_two (xs : List ByteArray) (a b : ByteArray) : strsT xs ++ [[T.v (.string a)], [T.v (.string b)]] = strsT (xs ++ [a, b]) := by simp [strsT]
theorem iBodies_ok (p : Prgm) (hz : SzP p) : CallOk Tryz.prog 106 [.agg (programR p)] (.s (.one (.own 1 (intsT (bodiesL p))))) [none] := by
 have ht : bodiesL p = (p.monitors.flatMap monBodies) ++ p.processes.map (·.body) := rfl
 have bm := monB_le hz
 have bp : (p.processes.map (·.body)).length ≤ 800000 := (by rw [List.length_map]; have := hz.processes; omega)
 have z1 := hz.monitors
 have z2 := hz.processes
 rw [ht]
 clear ht
 obtain ⟨MB, hMB⟩ : ∃ x, (p.monitors.flatMap monBodies) = x := ⟨_, rfl⟩
 obtain ⟨RES, hRES⟩ : ∃ x, (p.monitors.flatMap monBodies) ++ p.processes.map (·.body) = x := ⟨_, rfl⟩
 rw [hRES]
 rw [hMB] at hRES bm
 have bR : RES.length ≤ 2300000 := by rw [← hRES, List.length_append]; omega
 have e0 : intsT [] = [] := rfl
 refine cOh 40 (hBd Tryz.func106 rfl (by kernel_rfl) ?_)
 simp (disch := omega) only [go_sem, Tryz.ntmps106, Tryz.results106]
 refine wkc ?_
 refine i_hide fun Q hE => ?_
 refine i_loop (α := {x : Nat × List Int // x.1 ≤ p.monitors.length ∧ x.2 ++ (p.monitors.drop x.1).flatMap monBodies = MB}) (fun x => ⟨mkEnv 45 [(1, .one (.ptr 0 0 0)), (3, .one (.ref 1 0 x.1.2.length)), (11, .one (.ro 4 (monitorsD p.monitors))), (12, .one (iV p.monitors.length)), (13, .one (iV x.1.1))], [.live 3 [programR p], .live 1 (intsT x.1.2)]⟩) (fun x => p.monitors.length - x.1.1) ⟨(0, []), by omega, hMB⟩ ?_ ?_
 ·refine weak_nilenv 3 1 rfl ?_
  simp (disch := omega) only [go_sem]
  first | (refine wCn [1, 3, 11, 12, 13] [0, 1] ?_ ?_ ?_ <;> (simp (disch := omega) only [go_sem, e0, List.length_nil]; done))
 rintro ⟨⟨j, acc⟩, hj, he⟩
 dsimp only at hj he ⊢
 have ba : acc.length ≤ MB.length := by rw [← he, List.length_append]; omega
 by_cases hjl : j < p.monitors.length
 ·have d1 : decide ((j : Int) < (p.monitors.length : Int)) = true := decide_eq_true (by omega)
  obtain ⟨g1, g2, g3⟩ := hz.mon (p.monitors.getD j moZ) (getD_mem hjl)
  rw [flat_drop (z := moZ) hjl, ← List.append_assoc] at he
  have hmb : monBodies (p.monitors.getD j moZ) = (p.monitors.getD j moZ).entries.map (·.body) := rfl
  rw [hmb] at he
  have ba2 : ((acc) ++ (p.monitors.getD j moZ).entries.map (·.body)).length ≤ MB.length := by rw [← he]; simp only [List.length_append]; omega
  clear hmb hMB hRES hz e0
  simp (disch := omega) only [go_sem]
  refine wkc ?_
  refine i_hide fun Q2 hE => ?_
  obtain ⟨A0, hA0⟩ : ∃ x, acc = x := ⟨_, rfl⟩
  rw [hA0] at he ba2
  refine i_loop (α := {x : Nat × List Int // x.1 ≤ (p.monitors.getD j moZ).entries.length ∧ x.2 ++ ((p.monitors.getD j moZ).entries.drop x.1).map (·.body) = A0 ++ (p.monitors.getD j moZ).entries.map (·.body)}) (fun x => ⟨mkEnv 45 [(1, .one (.ptr 0 0 0)), (3, .one (.ref 1 0 x.1.2.length)), (11, .one (.ro 4 (monitorsD p.monitors))), (12, .one (iV p.monitors.length)), (13, .one (iV j)), (18, .one (.ro 3 (entrysD (p.monitors.getD j moZ).entries))), (19, .one (iV (p.monitors.getD j moZ).entries.length)), (20, .one (iV x.1.1))], [.live 3 [programR p], .live 1 (intsT x.1.2)]⟩) (fun x => (p.monitors.getD j moZ).entries.length - x.1.1) ⟨(0, A0), by omega, rfl⟩ ?_ ?_
  ·first | (refine wCn [1, 3, 11, 12, 13, 18, 19, 20] [0, 1] ?_ ?_ ?_ <;> (simp (disch := omega) only [go_sem, ← hA0]; done))
  rintro ⟨⟨i, ac⟩, hi, hie⟩
  dsimp only at hi hie ⊢
  have bc : ac.length ≤ MB.length := Nat.le_trans (by rw [← hie, List.length_append]; omega) ba2
  clear hA0
  by_cases hil : i < (p.monitors.getD j moZ).entries.length
  ·have d2 : decide ((i : Int) < ((p.monitors.getD j moZ).entries.length : Int)) = true := decide_eq_true (by omega)
   rw [map_drop1 (f := fun e : Entry => e.body) (z := entryZ) hil, ← List.append_assoc] at hie
   clear he
   simp (disch := omega) only [go_sem]
   refine wkc ?_
   all_goals refine ⟨⟨(i + 1, ac ++ [((p.monitors.getD j moZ).entries.getD i entryZ).body]), by omega, hie⟩, ?_, by simp only; omega⟩
   all_goals first | (refine wCn [1, 3, 11, 12, 13, 18, 19, 20] [0, 4] ?_ ?_ ?_ <;> (simp (disch := omega) only [go_sem, ints_one, strs_two, List.length_append, List.length_cons, List.length_nil]; done))
  ·have d2 : decide ((i : Int) < ((p.monitors.getD j moZ).entries.length : Int)) = false := decide_eq_false (by omega)
   have ek : (p.monitors.getD j moZ).entries.drop i = [] := List.drop_eq_nil_of_le (by omega)
   rw [ek] at hie
   have hac : ac = A0 ++ (p.monitors.getD j moZ).entries.map (·.body) := by rw [← hie]; simp
   rw [← hac] at he
   clear hie hac ek
   simp (disch := omega) only [go_sem]
   refine wkc ?_
   all_goals refine ⟨⟨(j + 1, ac), by omega, he⟩, ?_, by simp only; omega⟩
   all_goals first | exact wc [1, 3, 11, 12, 13] [0, 1]
 ·have d1 : decide ((j : Int) < (p.monitors.length : Int)) = false := decide_eq_false (by omega)
  have ek : p.monitors.drop j = [] := List.drop_eq_nil_of_le (by omega)
  rw [ek, List.flatMap_nil, List.append_nil] at he
  subst he
  clear ek hMB e0
  simp (disch := omega) only [go_sem]
  repeat' (first | (with_reducible first | refine i_seq ?_) | ((first | (with_reducible first | refine iBk ?_ | refine iRQ (fun Q' hQ => ?_) | (refine Imp.go hQ ?_; clear hQ) | (refine ImpE.go hE ?_; clear hE)) | ((with_reducible refine i_condT ?_ ?_); (focus (simp only [go_sem, *]; done))) | ((with_reducible refine i_condF ?_ ?_); (focus (simp only [go_sem, *]; done))) | ((with_reducible first | refine rOg (fun h => ?_) (fun h => ?_) | refine i_cond (by simp only [go_sem, *] <;> rfl) (fun h => ?_) (fun h => ?_)) <;> (try simp only [nqA, nqB, nqC, reduceCtorEq] at h) <;> (try have h' := odT h) <;> (try (have hz : (_ : Int) = (_ : Int) := h'; clear hz h')) <;> (try have h' := odF h) <;> (try have h' := inB_t h) <;> (try (exfalso; omega)))) <;> (try simp (disch := omega) only [go_sem, d1, reduceCtorEq, *])))
  all_goals (try simp (disch := omega) only [EndK, go_sem, d1, reduceCtorEq, nLo, *])
  clear d1 hj hjl
  refine i_hide fun Q2 hE => ?_
  refine i_loop (α := {x : Nat × List Int // x.1 ≤ p.processes.length ∧ x.2 ++ (p.processes.drop x.1).map (·.body) = RES}) (fun x => ⟨mkEnv 45 [(1, .one (.ptr 0 0 0)), (3, .one (.ref 1 0 x.1.2.length)), (32, .one (.ro 4 (processsD p.processes))), (33, .one (iV p.processes.length)), (34, .one (iV x.1.1))], [.live 3 [programR p], .live 1 (intsT x.1.2)]⟩) (fun x => p.processes.length - x.1.1) ⟨(0, acc), by omega, hRES⟩ ?_ ?_
  ·first | exact wc [1, 3, 32, 33, 34] [0, 1]
  rintro ⟨⟨j, ac⟩, hj, he⟩
  dsimp only at hj he ⊢
  have bc : ac.length ≤ RES.length := by rw [← he, List.length_append]; omega
  by_cases hjl : j < p.processes.length
  ·have d1 : decide ((j : Int) < (p.processes.length : Int)) = true := decide_eq_true (by omega)
   obtain ⟨g1, g2⟩ := hz.pro (p.processes.getD j prZ) (getD_mem hjl)
   rw [map_drop1 (f := fun e : Process => e.body) (z := prZ) hjl, ← List.append_assoc] at he
   clear hRES hz
   simp (disch := omega) only [go_sem]
   refine wkc ?_
   all_goals refine ⟨⟨(j + 1, ac ++ [(p.processes.getD j prZ).body]), by omega, he⟩, ?_, by simp only; omega⟩
   all_goals first | (refine wCn [1, 3, 32, 33, 34] [0, 4] ?_ ?_ ?_ <;> (simp (disch := omega) only [go_sem, ints_one, List.length_append, List.length_cons, List.length_nil]; done))
  ·have d1 : decide ((j : Int) < (p.processes.length : Int)) = false := decide_eq_false (by omega)
   have ek : p.processes.drop j = [] := List.drop_eq_nil_of_le (by omega)
   rw [ek] at he
   have he2 : ac = RES := by rw [← he]; simp
   subst he2
   clear he ek hRES
   simp (disch := omega) only [go_sem]
   have x1 := @List.take_length.{0}
   exact wk
end Go.Proofs.YtejnpiielcbkkaaGreat.E
end
section
set_option maxRecDepth 100000
set_option maxHeartbeats 4000000
namespace Go.Proofs.YtejnpiielcbkkaaGreat.E
theorem iNamesIn_ok (p : Prgm) (hz : SzP p) : CallOk Tryz.prog 101 [.agg (programR p)] (.s (.one (.own 1 (strsT (namesL p))))) [none] := by
 have ht : namesL p = (p.monitors.flatMap monNames) ++ p.processes.flatMap procNames := rfl
 have bm := monN_le hz
 have bp : (p.processes.flatMap procNames).length ≤ 800000 := (proN_le hz)
 have z1 := hz.monitors
 have z2 := hz.processes
 rw [ht]
 clear ht
 obtain ⟨MB, hMB⟩ : ∃ x, (p.monitors.flatMap monNames) = x := ⟨_, rfl⟩
 obtain ⟨RES, hRES⟩ : ∃ x, (p.monitors.flatMap monNames) ++ p.processes.flatMap procNames = x := ⟨_, rfl⟩
 rw [hRES]
 rw [hMB] at hRES bm
 have bR : RES.length ≤ 2300000 := by rw [← hRES, List.length_append]; omega
 have e0 : strsT [] = [] := rfl
 refine cOh 40 (hBd Tryz.func101 rfl (by kernel_rfl) ?_)
 simp (disch := omega) only [go_sem, Tryz.ntmps101, Tryz.results101]
 have x1 : HH 5 (.ho [0, 1, 2, 5, 6, 8, 9] (opm 3 [9, 6] [true, true, false] (opm 4 [9, 6] [true, true] (opm 7 [9] [true, false] (opm 10 [] [false] (.ho [11] (.stop))))))) := ⟨⟩
 have x2 : HH 15 (.ho [0, 1, 2, 5, 6, 8, 9] (opm 3 [9, 6] [true, true, false] (opm 4 [9, 6] [true, true] (opm 7 [9] [true, false] (opm 10 [] [false] (.ho [11] (.stop))))))) := ⟨⟩
 refine wkc ?_
 refine i_hide fun Q hE => ?_
 refine i_loop (α := {x : Nat × List ByteArray // x.1 ≤ p.monitors.length ∧ x.2 ++ (p.monitors.drop x.1).flatMap monNames = MB}) (fun x => ⟨mkEnv 64 [(1, .one (.ptr 0 0 0)), (3, .one (.ref 1 0 x.1.2.length)), (11, .one (.ro 4 (monitorsD p.monitors))), (12, .one (iV p.monitors.length)), (13, .one (iV x.1.1))], [.live 3 [programR p], .live 1 (strsT x.1.2)]⟩) (fun x => p.monitors.length - x.1.1) ⟨(0, []), by omega, hMB⟩ ?_ ?_
 ·refine weak_nilenv 3 1 rfl ?_
  simp (disch := omega) only [go_sem]
  first | (refine wCn [1, 3, 11, 12, 13] [0, 1] ?_ ?_ ?_ <;> (simp (disch := omega) only [go_sem, e0, List.length_nil]; done))
 rintro ⟨⟨j, acc⟩, hj, he⟩
 dsimp only at hj he ⊢
 have ba : acc.length ≤ MB.length := by rw [← he, List.length_append]; omega
 by_cases hjl : j < p.monitors.length
 ·have d1 : decide ((j : Int) < (p.monitors.length : Int)) = true := decide_eq_true (by omega)
  obtain ⟨g1, g2, g3⟩ := hz.mon (p.monitors.getD j moZ) (getD_mem hjl)
  rw [flat_drop (z := moZ) hjl, ← List.append_assoc] at he
  have hmb : monNames (p.monitors.getD j moZ) = ((((p.monitors.getD j moZ).name :: (p.monitors.getD j moZ).vars)) ++ (p.monitors.getD j moZ).queues) ++ (p.monitors.getD j moZ).entries.flatMap entNames := rfl
  rw [hmb, ← List.append_assoc] at he
  have ba2 : ((acc ++ (((((p.monitors.getD j moZ).name :: (p.monitors.getD j moZ).vars)) ++ (p.monitors.getD j moZ).queues))) ++ (p.monitors.getD j moZ).entries.flatMap entNames).length ≤ MB.length := by rw [← he]; simp only [List.length_append]; omega
  clear hmb hMB hRES hz e0
  have tk : List.take (acc.length + 1 + (p.monitors.getD j moZ).vars.length) (acc ++ [(p.monitors.getD j moZ).name] ++ (p.monitors.getD j moZ).vars) = acc ++ [(p.monitors.getD j moZ).name] ++ (p.monitors.getD j moZ).vars := List.take_of_length_le (by simp only [List.length_append, List.length_singleton]; omega)
  simp (disch := omega) only [go_sem]
  have x1 := @List.length_append.{0}
  have x2 := @List.length_singleton.{0}
  have x3 : HH 5 (.ho [0, 1, 2, 5, 6, 8, 9] (opm 3 [9, 6] [true, true, false] (opm 4 [9, 6] [true, true] (opm 7 [9] [true, false] (opm 10 [] [false] (.ho [11] (.stop))))))) := ⟨⟩
  have x4 : HH 15 (.ho [0, 1, 2, 5, 6, 8, 9] (opm 3 [9, 6] [true, true, false] (opm 4 [9, 6] [true, true] (opm 7 [9] [true, false] (opm 10 [] [false] (.ho [11] (.stop))))))) := ⟨⟩
  refine wkc ?_
  refine i_hide fun Q2 hE => ?_
  obtain ⟨A0, hA0⟩ : ∃ x, acc ++ (((((p.monitors.getD j moZ).name :: (p.monitors.getD j moZ).vars)) ++ (p.monitors.getD j moZ).queues)) = x := ⟨_, rfl⟩
  rw [hA0] at he ba2
  refine i_loop (α := {x : Nat × List ByteArray // x.1 ≤ (p.monitors.getD j moZ).entries.length ∧ x.2 ++ ((p.monitors.getD j moZ).entries.drop x.1).flatMap entNames = A0 ++ (p.monitors.getD j moZ).entries.flatMap entNames}) (fun x => ⟨mkEnv 64 [(1, .one (.ptr 0 0 0)), (3, .one (.ref 1 0 x.1.2.length)), (11, .one (.ro 4 (monitorsD p.monitors))), (12, .one (iV p.monitors.length)), (13, .one (iV j)), (29, .one (.ro 3 (entrysD (p.monitors.getD j moZ).entries))), (30, .one (iV (p.monitors.getD j moZ).entries.length)), (31, .one (iV x.1.1))], [.live 3 [programR p], .live 1 (strsT x.1.2)]⟩) (fun x => (p.monitors.getD j moZ).entries.length - x.1.1) ⟨(0, A0), by omega, rfl⟩ ?_ ?_
  ·have eA : acc ++ [(p.monitors.getD j moZ).name] ++ (p.monitors.getD j moZ).vars ++ (p.monitors.getD j moZ).queues = A0 := by rw [← hA0]; simp
   have eL : acc.length + 1 + (p.monitors.getD j moZ).vars.length + (p.monitors.getD j moZ).queues.length = A0.length := by rw [← hA0]; simp only [List.length_append, List.length_cons]; omega
   first | (refine wCn [1, 3, 11, 12, 13, 29, 30, 31] [0, 6] ?_ ?_ ?_ <;> (simp (disch := omega) only [go_sem, eA, eL]; done))
  rintro ⟨⟨i, ac⟩, hi, hie⟩
  dsimp only at hi hie ⊢
  have bc : ac.length ≤ MB.length := Nat.le_trans (by rw [← hie, List.length_append]; omega) ba2
  clear hA0
  by_cases hil : i < (p.monitors.getD j moZ).entries.length
  ·have d2 : decide ((i : Int) < ((p.monitors.getD j moZ).entries.length : Int)) = true := decide_eq_true (by omega)
   rw [flat_drop (f := entNames) (z := entryZ) hil, ← List.append_assoc] at hie
   clear he
   simp (disch := omega) only [go_sem]
   have x1 : HH 5 (.ho [0, 1, 2, 5, 6, 8, 9] (opm 3 [9, 6] [true, true, false] (opm 4 [9, 6] [true, true] (opm 7 [9] [true, false] (opm 10 [] [false] (.ho [11] (.stop))))))) := ⟨⟩
   have x2 : HH 15 (.ho [0, 1, 2, 5, 6, 8, 9] (opm 3 [9, 6] [true, true, false] (opm 4 [9, 6] [true, true] (opm 7 [9] [true, false] (opm 10 [] [false] (.ho [11] (.stop))))))) := ⟨⟩
   refine wkc ?_
   all_goals refine ⟨⟨(i + 1, ac ++ [((p.monitors.getD j moZ).entries.getD i entryZ).name, ((p.monitors.getD j moZ).entries.getD i entryZ).param]), by omega, hie⟩, ?_, by simp only; omega⟩
   all_goals first | (refine wCn [1, 3, 11, 12, 13, 29, 30, 31] [0, 4] ?_ ?_ ?_ <;> (simp (disch := omega) only [go_sem, ints_one, strs_two, List.length_append, List.length_cons, List.length_nil]; done))
  ·have d2 : decide ((i : Int) < ((p.monitors.getD j moZ).entries.length : Int)) = false := decide_eq_false (by omega)
   have ek : (p.monitors.getD j moZ).entries.drop i = [] := List.drop_eq_nil_of_le (by omega)
   rw [ek] at hie
   have hac : ac = A0 ++ (p.monitors.getD j moZ).entries.flatMap entNames := by rw [← hie]; simp
   rw [← hac] at he
   clear hie hac ek
   simp (disch := omega) only [go_sem]
   have x1 : HH 5 (.ho [0, 1, 2, 5, 6, 8, 9] (opm 3 [9, 6] [true, true, false] (opm 4 [9, 6] [true, true] (opm 7 [9] [true, false] (opm 10 [] [false] (.ho [11] (.stop))))))) := ⟨⟩
   have x2 : HH 15 (.ho [0, 1, 2, 5, 6, 8, 9] (opm 3 [9, 6] [true, true, false] (opm 4 [9, 6] [true, true] (opm 7 [9] [true, false] (opm 10 [] [false] (.ho [11] (.stop))))))) := ⟨⟩
   refine wkc ?_
   all_goals refine ⟨⟨(j + 1, ac), by omega, he⟩, ?_, by simp only; omega⟩
   all_goals first | exact wc [1, 3, 11, 12, 13] [0, 1]
 ·have d1 : decide ((j : Int) < (p.monitors.length : Int)) = false := decide_eq_false (by omega)
  have ek : p.monitors.drop j = [] := List.drop_eq_nil_of_le (by omega)
  rw [ek, List.flatMap_nil, List.append_nil] at he
  subst he
  clear ek hMB e0
  simp (disch := omega) only [go_sem]
  repeat' (first | (with_reducible first | refine i_seq ?_ | exact th_none | refine i_th (id := 5) (.ho [0, 1, 2, 5, 6, 8, 9] (opm 3 [9, 6] [true, true, false] (opm 4 [9, 6] [true, true] (opm 7 [9] [true, false] (opm 10 [] [false] (.ho [11] (.stop))))))) mixedT (by kernel_rfl) (fun Q' hQ => ?_) | refine i_th (id := 15) (.ho [0, 1, 2, 5, 6, 8, 9] (opm 3 [9, 6] [true, true, false] (opm 4 [9, 6] [true, true] (opm 7 [9] [true, false] (opm 10 [] [false] (.ho [11] (.stop))))))) mixedT (by kernel_rfl) (fun Q' hQ => ?_)) | ((first | (with_reducible first | refine iBk ?_ | refine iRQ (fun Q' hQ => ?_) | (refine Imp.go hQ ?_; clear hQ) | (refine ImpE.go hE ?_; clear hE) | refine th_ho ?_ | refine th_stop ?_ ?_ | refine th_opm ?_ (by kernel_rfl) (aLr ?_) | refine th_altm ?_ (by kernel_rfl) (aLr ?_) ?_) | ((with_reducible refine i_condT ?_ ?_); (focus (simp only [go_sem, *]; done))) | ((with_reducible refine i_condF ?_ ?_); (focus (simp only [go_sem, *]; done))) | ((with_reducible first | refine rOg (fun h => ?_) (fun h => ?_) | refine i_cond (by simp only [go_sem, *] <;> rfl) (fun h => ?_) (fun h => ?_)) <;> (try simp only [nqA, nqB, nqC, reduceCtorEq] at h) <;> (try have h' := odT h) <;> (try (have hz : (_ : Int) = (_ : Int) := h'; clear hz h')) <;> (try have h' := odF h) <;> (try have h' := inB_t h) <;> (try (exfalso; omega)))) <;> (try simp (disch := omega) only [go_sem, d1, reduceCtorEq, *])))
  all_goals (try simp (disch := omega) only [EndK, go_sem, d1, reduceCtorEq, nLo, *])
  clear d1 hj hjl
  refine i_hide fun Q2 hE => ?_
  refine i_loop (α := {x : Nat × List ByteArray // x.1 ≤ p.processes.length ∧ x.2 ++ (p.processes.drop x.1).flatMap procNames = RES}) (fun x => ⟨mkEnv 64 [(1, .one (.ptr 0 0 0)), (3, .one (.ref 1 0 x.1.2.length)), (45, .one (.ro 4 (processsD p.processes))), (46, .one (iV p.processes.length)), (47, .one (iV x.1.1))], [.live 3 [programR p], .live 1 (strsT x.1.2)]⟩) (fun x => p.processes.length - x.1.1) ⟨(0, acc), by omega, hRES⟩ ?_ ?_
  ·first | exact wc [1, 3, 45, 46, 47] [0, 1]
  rintro ⟨⟨j, ac⟩, hj, he⟩
  dsimp only at hj he ⊢
  have bc : ac.length ≤ RES.length := by rw [← he, List.length_append]; omega
  by_cases hjl : j < p.processes.length
  ·have d1 : decide ((j : Int) < (p.processes.length : Int)) = true := decide_eq_true (by omega)
   obtain ⟨g1, g2⟩ := hz.pro (p.processes.getD j prZ) (getD_mem hjl)
   rw [flat_drop (f := procNames) (z := prZ) hjl, ← List.append_assoc] at he
   clear hRES hz
   have tk : List.take (ac.length + 1 + (p.processes.getD j prZ).uses.length) (ac ++ [(p.processes.getD j prZ).name] ++ (p.processes.getD j prZ).uses) = ac ++ [(p.processes.getD j prZ).name] ++ (p.processes.getD j prZ).uses := List.take_of_length_le (by simp only [List.length_append, List.length_singleton]; omega)
   simp (disch := omega) only [go_sem]
   repeat' (first | (with_reducible first | refine i_seq ?_ | exact th_none | refine i_th (id := 5) (.ho [0, 1, 2, 5, 6, 8, 9] (opm 3 [9, 6] [true, true, false] (opm 4 [9, 6] [true, true] (opm 7 [9] [true, false] (opm 10 [] [false] (.ho [11] (.stop))))))) mixedT (by kernel_rfl) (fun Q' hQ => ?_) | refine i_th (id := 15) (.ho [0, 1, 2, 5, 6, 8, 9] (opm 3 [9, 6] [true, true, false] (opm 4 [9, 6] [true, true] (opm 7 [9] [true, false] (opm 10 [] [false] (.ho [11] (.stop))))))) mixedT (by kernel_rfl) (fun Q' hQ => ?_)) | ((first | (with_reducible first | refine iBk ?_ | refine iRQ (fun Q' hQ => ?_) | (refine Imp.go hQ ?_; clear hQ) | (refine ImpE.go hE ?_; clear hE) | refine th_ho ?_ | refine th_stop ?_ ?_ | refine th_opm ?_ (by kernel_rfl) (aLr ?_) | refine th_altm ?_ (by kernel_rfl) (aLr ?_) ?_) | ((with_reducible refine i_condT ?_ ?_); (focus (simp only [go_sem, *]; done))) | ((with_reducible refine i_condF ?_ ?_); (focus (simp only [go_sem, *]; done))) | ((with_reducible first | refine rOg (fun h => ?_) (fun h => ?_) | refine i_cond (by simp only [go_sem, *] <;> rfl) (fun h => ?_) (fun h => ?_)) <;> (try simp only [nqA, nqB, nqC, reduceCtorEq] at h) <;> (try have h' := odT h) <;> (try (have hz : (_ : Int) = (_ : Int) := h'; clear hz h')) <;> (try have h' := odF h) <;> (try have h' := inB_t h) <;> (try (exfalso; omega)))) <;> (try simp (disch := omega) only [go_sem, d1, tk, List.length_append, List.length_singleton, reduceCtorEq, *])))
   all_goals (try simp (disch := omega) only [EndK, go_sem, d1, tk, List.length_append, List.length_singleton, reduceCtorEq, nLo, *])
   all_goals
    have eA : ac ++ [(p.processes.getD j prZ).name] ++ (p.processes.getD j prZ).uses ++ (p.processes.getD j prZ).vars = ac ++ (((p.processes.getD j prZ).name :: (p.processes.getD j prZ).uses) ++ (p.processes.getD j prZ).vars) := by simp
    have eL : ac.length + 1 + (p.processes.getD j prZ).uses.length + (p.processes.getD j prZ).vars.length = (ac ++ (((p.processes.getD j prZ).name :: (p.processes.getD j prZ).uses) ++ (p.processes.getD j prZ).vars)).length := by simp only [List.length_append, List.length_cons]; omega
    obtain ⟨A1, hA1⟩ : ∃ x, ac ++ (((p.processes.getD j prZ).name :: (p.processes.getD j prZ).uses) ++ (p.processes.getD j prZ).vars) = x := ⟨_, rfl⟩
    have he2 : (ac ++ (((p.processes.getD j prZ).name :: (p.processes.getD j prZ).uses) ++ (p.processes.getD j prZ).vars)) ++ (p.processes.drop (j + 1)).flatMap procNames = RES := he
    rw [hA1] at he2 eA eL
    refine ⟨⟨(j + 1, A1), by omega, he2⟩, ?_, by simp only; omega⟩
    first | (refine wCn [1, 3, 45, 46, 47] [0, 6] ?_ ?_ ?_ <;> (simp (disch := omega) only [go_sem, eA, eL]; done))
  ·have d1 : decide ((j : Int) < (p.processes.length : Int)) = false := decide_eq_false (by omega)
   have ek : p.processes.drop j = [] := List.drop_eq_nil_of_le (by omega)
   rw [ek] at he
   have he2 : ac = RES := by rw [← he]; simp
   subst he2
   clear he ek hRES
   simp (disch := omega) only [go_sem]
   have x1 := @List.take_length.{0}
   have x2 : HH 5 (.ho [0, 1, 2, 5, 6, 8, 9] (opm 3 [9, 6] [true, true, false] (opm 4 [9, 6] [true, true] (opm 7 [9] [true, false] (opm 10 [] [false] (.ho [11] (.stop))))))) := ⟨⟩
   have x3 : HH 15 (.ho [0, 1, 2, 5, 6, 8, 9] (opm 3 [9, 6] [true, true, false] (opm 4 [9, 6] [true, true] (opm 7 [9] [true, false] (opm 10 [] [false] (.ho [11] (.stop))))))) := ⟨⟩
   exact wk
end Go.Proofs.YtejnpiielcbkkaaGreat.E
end
section
set_option maxRecDepth 100000
set_option maxHeartbeats 4000000
namespace Go.Proofs.YtejnpiielcbkkaaGreat.E
/-! ### What a right program is: the reference's tests -/
theorem sValue_ok (c : Int) : CallOk Tryz.prog 216 [.one (iV c)] (.s (.one (bV (inB c 1 5)))) [none] := by
 refine cOh 40 (hBd Tryz.func216 rfl (by kernel_rfl) ?_)
 simp (disch := omega) only [go_sem, Tryz.ntmps216, Tryz.results216]
 have x1 := specInB_ok c 1 5
 exact wk
theorem sStatement_ok (c : Int) : CallOk Tryz.prog 217 [.one (iV c)] (.s (.one (bV (inB c 11 19)))) [none] := by
 refine cOh 40 (hBd Tryz.func217 rfl (by kernel_rfl) ?_)
 simp (disch := omega) only [go_sem, Tryz.ntmps217, Tryz.results217]
 have x1 := specInB_ok c 11 19
 exact wk
def kidX (p : Prgm) (k : Nat) (x : Int) : Int := if inB x 0 ((k : Int) - 1) = true then (p.nodes.getD x.toNat nodeZ).kind else 0
def kidK (p : Prgm) (k i : Nat) : Int := kidX p k ((p.nodes.getD k nodeZ).kids.getD i 0)
def valsF (p : Prgm) (k : Nat) : Nat → Nat → Bool
 | 0, _ => true
 | n + 1, i => if inB (kidK p k i) 1 5 = false then false else valsF p k n (i + 1)
def blksF (p : Prgm) (k : Nat) : Nat → Nat → Bool
 | 0, _ => true
 | n + 1, i => if (kidK p k i != 20) = true then false else blksF p k n (i + 1)
def stsF (p : Prgm) (k : Nat) : Nat → Nat → Bool
 | 0, _ => true
 | n + 1, i => if inB (kidK p k i) 11 19 = false then false else stsF p k n (i + 1)
theorem sKid_ok (p : Prgm) (k i : Nat) (hN : p.nodes.length ≤ 1048576) (hk : k < p.nodes.length) (hK : (p.nodes.getD k nodeZ).kids.length ≤ 1048576) (hi : i < (p.nodes.getD k nodeZ).kids.length) : CallOk Tryz.prog 259 [.agg (programR p), .one (iV k), .one (iV i)] (.s (.one (iV (kidK p k i)))) [none, none, none] := by
 have hx : kidK p k i = kidX p k ((p.nodes.getD k nodeZ).kids.getD i 0) := rfl
 rw [hx]
 obtain ⟨x, hx2⟩ : ∃ x, (p.nodes.getD k nodeZ).kids.getD i 0 = x := ⟨_, rfl⟩
 rw [hx2]
 clear hx
 have c0 := specInB_ok x 0 ((k : Int) - 1)
 have hkx : kidX p k x = if inB x 0 ((k : Int) - 1) = true then (p.nodes.getD x.toNat nodeZ).kind else 0 := rfl
 rw [hkx]
 clear hkx
 cases q : inB x 0 ((k : Int) - 1)
 ·rw [q] at c0
  rw [if_neg (by simp)]
  refine cOh 40 (hBd Tryz.func259 rfl (by kernel_rfl) ?_)
  simp (disch := omega) only [go_sem, Tryz.ntmps259, Tryz.results259]
  exact wk
 ·rw [if_pos rfl]
  obtain ⟨x0, x1⟩ := inB_t q
  rw [q] at c0
  refine cOh 40 (hBd Tryz.func259 rfl (by kernel_rfl) ?_)
  simp (disch := omega) only [go_sem, Tryz.ntmps259, Tryz.results259]
  exact wk
theorem sValues_ok (p : Prgm) (k : Nat) (hN : p.nodes.length ≤ 1048576) (hk : k < p.nodes.length) (hK : (p.nodes.getD k nodeZ).kids.length ≤ 1048576) (m : Nat) (hm : m ≤ (p.nodes.getD k nodeZ).kids.length) : CallOk Tryz.prog 257 [.agg (programR p), .one (iV k), .one (iV (m : Int))] (.s (.one (bV (valsF p k m 0)))) [none, none, none] := by
 obtain ⟨res, hres⟩ : ∃ r, valsF p k m 0 = r := ⟨_, rfl⟩
 rw [hres]
 refine cOh 40 (hBd Tryz.func257 rfl (by kernel_rfl) ?_)
 simp (disch := omega) only [go_sem, Tryz.ntmps257, Tryz.results257]
 refine wkc ?_
 refine i_loop (α := {j : Nat // j ≤ m ∧ valsF p k (m - j) j = res}) (fun j => ⟨mkEnv 19 [(1, .one (iV k)), (2, .one (iV m)), (3, .one (.ptr 0 0 0)), (7, .one (iV j.1))], [.live 3 [programR p]]⟩) (fun j => m - j.1) ⟨0, by omega, hres⟩ ?_ ?_
 ·first | exact wc [1, 2, 3, 7] [0]
 rintro ⟨j, hj, he⟩
 dsimp only at hj he ⊢
 clear hres
 by_cases hjl : j < m
 ·have d1 : decide ((j : Int) < (m : Int)) = true := decide_eq_true (by omega)
  have c0 := sKid_ok p k j hN hk hK (by omega)
  have c1 := sValue_ok (kidK p k j)
  have hst : m - j = (m - (j + 1)) + 1 := by omega
  rw [hst, valsF] at he
  clear hst
  cases q : inB (kidK p k j) 1 5
  ·rw [q] at he c1
   rw [if_pos rfl] at he
   subst he
   simp (disch := omega) only [go_sem]
   exact wk
  ·rw [q] at he c1
   rw [if_neg (by simp)] at he
   simp (disch := omega) only [go_sem]
   refine wkc ?_
   all_goals refine ⟨⟨j + 1, by omega, he⟩, ?_, by simp only; omega⟩
   all_goals first | exact wc [1, 2, 3, 7] [0]
 ·have d1 : decide ((j : Int) < (m : Int)) = false := decide_eq_false (by omega)
  have hst : m - j = 0 := by omega
  rw [hst] at he
  have he2 : res = true := he.symm
  subst he2
  clear he hst
  simp (disch := omega) only [go_sem]
  exact wk
theorem sBlocks_ok (p : Prgm) (k : Nat) (hN : p.nodes.length ≤ 1048576) (hk : k < p.nodes.length) (hK : (p.nodes.getD k nodeZ).kids.length ≤ 1048576) (h1 : 1 ≤ (p.nodes.getD k nodeZ).kids.length) : CallOk Tryz.prog 258 [.agg (programR p), .one (iV k), .one (iV 1)] (.s (.one (bV (blksF p k ((p.nodes.getD k nodeZ).kids.length - 1) 1)))) [none, none, none] := by
 obtain ⟨res, hres⟩ : ∃ r, blksF p k ((p.nodes.getD k nodeZ).kids.length - 1) 1 = r := ⟨_, rfl⟩
 rw [hres]
 refine cOh 40 (hBd Tryz.func258 rfl (by kernel_rfl) ?_)
 simp (disch := omega) only [go_sem, Tryz.ntmps258, Tryz.results258]
 refine wkc ?_
 refine i_loop (α := {j : Nat // j ≤ (p.nodes.getD k nodeZ).kids.length ∧ blksF p k ((p.nodes.getD k nodeZ).kids.length - j) j = res}) (fun j => ⟨mkEnv 25 [(1, .one (iV k)), (3, .one (.ptr 0 0 0)), (7, .one (iV j.1))], [.live 3 [programR p]]⟩) (fun j => (p.nodes.getD k nodeZ).kids.length - j.1) ⟨1, by omega, hres⟩ ?_ ?_
 ·first | exact wc [1, 3, 7] [0]
 rintro ⟨j, hj, he⟩
 dsimp only at hj he ⊢
 clear hres
 by_cases hjl : j < (p.nodes.getD k nodeZ).kids.length
 ·have d1 : decide ((j : Int) < ((p.nodes.getD k nodeZ).kids.length : Int)) = true := decide_eq_true (by omega)
  have c0 := sKid_ok p k j hN hk hK (by omega)
  have c1 := trivial
  have hst : (p.nodes.getD k nodeZ).kids.length - j = ((p.nodes.getD k nodeZ).kids.length - (j + 1)) + 1 := by omega
  rw [hst, blksF] at he
  clear hst
  cases q : (kidK p k j != 20)
  ·rw [q] at he
   rw [if_neg (by simp)] at he
   simp (disch := omega) only [go_sem]
   refine wkc ?_
   all_goals refine ⟨⟨j + 1, by omega, he⟩, ?_, by simp only; omega⟩
   all_goals first | exact wc [1, 3, 7] [0]
  ·rw [q] at he
   rw [if_pos rfl] at he
   subst he
   simp (disch := omega) only [go_sem]
   exact wk
 ·have d1 : decide ((j : Int) < ((p.nodes.getD k nodeZ).kids.length : Int)) = false := decide_eq_false (by omega)
  have hst : (p.nodes.getD k nodeZ).kids.length - j = 0 := by omega
  rw [hst] at he
  have he2 : res = true := he.symm
  subst he2
  clear he hst
  simp (disch := omega) only [go_sem]
  exact wk
end Go.Proofs.YtejnpiielcbkkaaGreat.E
end
