/- A part of what stands under the laws of this seat: an abstract evaluator that is proved sound, and contracts of functions by it. No condition beside those that stand in each statement. -/
import Derived.Test.YtapgpllnledhmaaGreatK22
set_option linter.unusedVariables false
set_option linter.unusedSimpArgs false
section
set_option maxRecDepth 100000
set_option maxHeartbeats 4000000
namespace Go.Proofs.YtapgpllnledhmaaGreat.E
/-! ### A run, plainly -/
def runP (n : Int) (m : Machine) (xs : List Int) : Machine := xs.foldl (fun m x => (stepM m (x.tmod n)).1) m
theorem runP_one {n : Int} {m : Machine} {xs : List Int} {k : Nat} (h : k < xs.length) : (stepM (runP n m (xs.take k)) ((xs.getD k 0).tmod n)).1 = runP n m (xs.take (k + 1)) := by
  unfold runP
  rw [List.take_succ_eq_append_getElem h, List.foldl_append]
  simp [h]
theorem runP_bd {b : Nat} {n : Int} {m : Machine} (hb : 8 ≤ b) (h : bdM b m) : ∀ xs : List Int, bdM (b + 3 * xs.length) (runP n m xs) := by
  intro xs
  induction xs generalizing b m with
  | nil => exact h
  | cons x xs ih =>
    have := ih (b := b + 3) (by omega) (stepM_bd (i := x.tmod n) hb h)
    exact bdM_le (by simp only [List.length_cons]; omega) this
theorem runP_cores (n : Int) (m : Machine) : ∀ xs : List Int, (runP n m xs).cores.length = m.cores.length := by
  intro xs
  induction xs generalizing m with
  | nil => rfl
  | cons x xs ih => exact (ih _).trans (stepM_cores m _)
def runMachine (m : Machine) (picks : List Int) : Machine × Bool :=
  if picksOk picks 600 = false then (machineZ, false) else if ((m.cores.length : Int) == 0) = true then (machineZ, false) else (runP (m.cores.length : Int) m picks, true)
/-! A machine by its names. -/
def machineN (l : Nat) (x : Machine) : List T := [.ref l 0 x.image.text.length, .ref (l + 1) 0 x.image.starts.length, iV x.image.size, .ref (l + 2) 0 x.mem.length, .ref (l + 3) 0 x.cores.length, .ref (l + 4) 0 x.kernel.gates.length, .ref (l + 5) 0 x.kernel.ready.length, .ref (l + 6) 0 x.kernel.saved.length, .ref (l + 7) 0 x.kernel.over.length, .ref (l + 8) 0 x.input.length, .ref (l + 9) 0 x.events.length, bV x.stopped]
attribute [go_sem] machineN
def machineH (x : Machine) : List AObj := [.live 1 (intsT x.image.text), .live 1 (intsT x.image.starts), .live 1 (intsT x.mem), .live 3 (coresT x.cores), .live 3 (gatesT x.kernel.gates), .live 1 (intsT x.kernel.ready), .live 3 (coresT x.kernel.saved), .live 1 (boolsT x.kernel.over), .live 1 (intsT x.input), .live 3 (eventsT x.events)]
def zeroN : List T := [.v (.slice none 0 0), .v (.slice none 0 0), .v (.int .i64 0), .v (.slice none 0 0), .v (.slice none 0 0), .v (.slice none 0 0), .v (.slice none 0 0), .v (.slice none 0 0), .v (.slice none 0 0), .v (.slice none 0 0), .v (.slice none 0 0), .v (.bool false)]
theorem iRun_no (m : Machine) (picks : List Int) (hm : mdMachine m) (hs : picks.length ≤ 1099511627776) (h : picksOk picks 600 = false ∨ ((m.cores.length : Int) == 0) = true) :
    CallOk Tryz.prog 14 [.agg (machineR m), .one (.ro 1 (intsD picks))] (.tup [.agg (machineT machineZ), .one (bV false)]) [none, none] := by
  have hcs : m.cores.length ≤ 68719476736 := hm.2.2.1.1
  cases h1 : picksOk picks 600 <;> cases h2 : ((m.cores.length : Int) == 0)
  case true.false => rw [h1, h2] at h; simp at h
  all_goals
    refine callOk_of_hcall 40 (hcall_of_body Tryz.func14 rfl (by kernel_rfl) ?_)
    simp (disch := omega) only [go_sem, Tryz.ntmps14, Tryz.results14]
    repeat' (first | (with_reducible first | refine i_seq ?_ | exact tr_none | refine tr_stop ?_ | refine i_treeQ (id := 7) (.fr [0, 1, 2, 3, 4, 5] (.op [6] (.fr [7, 8, 9] (.op [10] (.stop))))) mixedT (by kernel_rfl) (fun Q' hQ => ?_)) | ((first | (with_reducible first | refine i_block ?_ | refine i_regionQ (fun Q' hQ => ?_) | (refine Imp.go hQ ?_; clear hQ) | refine tr_fr ?_ | refine tr_op (aL_run ?_) | refine tr_alt (by kernel_rfl) (aL_run ?_) ?_ | refine tr_altp ?_ ?_) | ((with_reducible refine i_condT ?_ ?_); (focus (simp only [go_sem, *]; done))) | ((with_reducible refine i_condF ?_ ?_); (focus (simp only [go_sem, *]; done))) | ((with_reducible first | refine resOk_g (fun h => ?_) (fun h => ?_) | refine pG_split (fun h => ?_) (fun h => ?_) | refine i_cond (by simp only [go_sem, *] <;> rfl) (fun h => ?_) (fun h => ?_)) <;> (try simp only [Bool.not_eq_eq_eq_not, Bool.not_true, Bool.not_false, reduceCtorEq] at h) <;> (try have h' := of_decide_eq_true h) <;> (try (have hz : (_ : Int) = (_ : Int) := h'; clear hz h')) <;> (try have h' := of_decide_eq_false h) <;> (try have h' := inB_t h) <;> (try (exfalso; omega))) | (((with_reducible first | refine hcall_of_callOk 40 true (iPicksOk_ok picks 600 hs) ?_ ?_ ?_ ?_ ?_); iterate 4 (focus (simp (disch := omega) only [go_sem, h1, h2, machineZ, reduceCtorEq, natLe_ok]; done))); simp only [go_sem, h1, h2, machineZ, reduceCtorEq]; refine aL_run ?_)) <;> (try simp (disch := omega) only [go_sem, h1, h2, machineZ, reduceCtorEq, *])))
    all_goals (try simp (disch := omega) only [EndK, go_sem, h1, h2, machineZ, reduceCtorEq, natLe_ok, *])
end Go.Proofs.YtapgpllnledhmaaGreat.E
end
section
set_option maxRecDepth 100000
set_option maxHeartbeats 4000000
namespace Go.Proofs.YtapgpllnledhmaaGreat.E
theorem iRun_yes (m : Machine) (picks : List Int) (b : Nat) (hb : 8 ≤ b) (hb2 : b ≤ 17179869184) (hm : bdM b m) (h1 : picksOk picks 600 = true) (h2 : ((m.cores.length : Int) == 0) = false) (hs : picks.length ≤ 1048576) :
    CallOk Tryz.prog 14 [.agg (machineR m), .one (.ro 1 (intsD picks))] (.tup [.agg (machineT (runP (m.cores.length : Int) m picks)), .one (bV true)]) [none, none] := by
  have hmm : mdMachine m := bdM_md (by omega) hm
  have hcs : m.cores.length ≤ 68719476736 := hmm.2.2.1.1
  have hcz : (m.cores.length : Int) ≠ 0 := by simpa using h2
  have hcp : 1 ≤ (m.cores.length : Int) := by omega
  have hr0 : runP (m.cores.length : Int) m [] = m := rfl
  refine callOk_of_hcall 40 (hcall_of_body Tryz.func14 rfl (by kernel_rfl) ?_)
  simp (disch := omega) only [go_sem, Tryz.ntmps14, Tryz.results14]
  repeat' (first | (with_reducible first | refine i_seq ?_ | exact tr_none | refine tr_stop ?_ | refine i_treeQ (id := 7) (.fr [0, 1, 2, 3, 4, 5] (.op [6] (.fr [7, 8, 9] (.op [10] (.stop))))) mixedT (by kernel_rfl) (fun Q' hQ => ?_)) | ((first | (with_reducible first | refine i_block ?_ | refine i_regionQ (fun Q' hQ => ?_) | (refine Imp.go hQ ?_; clear hQ) | refine tr_fr ?_ | refine tr_op (aL_run ?_) | refine tr_alt (by kernel_rfl) (aL_run ?_) ?_ | refine tr_altp ?_ ?_) | ((with_reducible refine i_condT ?_ ?_); (focus (simp only [go_sem, *]; done))) | ((with_reducible refine i_condF ?_ ?_); (focus (simp only [go_sem, *]; done))) | ((with_reducible first | refine resOk_g (fun h => ?_) (fun h => ?_) | refine pG_split (fun h => ?_) (fun h => ?_) | refine i_cond (by simp only [go_sem, *] <;> rfl) (fun h => ?_) (fun h => ?_)) <;> (try simp only [Bool.not_eq_eq_eq_not, Bool.not_true, Bool.not_false, reduceCtorEq] at h) <;> (try have h' := of_decide_eq_true h) <;> (try (have hz : (_ : Int) = (_ : Int) := h'; clear hz h')) <;> (try have h' := of_decide_eq_false h) <;> (try have h' := inB_t h) <;> (try (exfalso; omega))) | (((with_reducible first | refine hcall_of_callOk 40 true (iPicksOk_ok picks 600 (by omega)) ?_ ?_ ?_ ?_ ?_ | refine hcall_of_callOk 40 true (copyMachine_ok m hmm) ?_ ?_ ?_ ?_ ?_); iterate 4 (focus (simp (disch := omega) only [go_sem, h1, h2, reduceCtorEq, natLe_ok]; done))); simp only [go_sem, h1, h2, reduceCtorEq]; refine aL_run ?_)) <;> (try simp (disch := omega) only [go_sem, h1, h2, reduceCtorEq, *])))
  all_goals (try simp (disch := omega) only [EndK, go_sem, h1, h2, reduceCtorEq, natLe_ok, *])
  refine i_loop (α := {k : Nat // k ≤ picks.length}) (fun k => ⟨mkEnv 39 [(1, .one (.ro 1 (intsD picks))), (2, .one (.ptr 0 0 0)), (4, .one (.ptr 1 0 0)), (6, .one (.ptr 2 0 0)), (21, .one (.ro 1 (intsD picks))), (22, .one (iV picks.length)), (23, .one (iV k.1))], [.live 12 [machineR m], .live 12 [[.v (.slice none 0 0), .v (.slice none 0 0), .v (.int .i64 0), .v (.slice none 0 0), .v (.slice none 0 0), .v (.slice none 0 0), .v (.slice none 0 0), .v (.slice none 0 0), .v (.slice none 0 0), .v (.slice none 0 0), .v (.slice none 0 0), .v (.bool false)]], .live 12 [[.ref 3 0 (runP (m.cores.length : Int) m (picks.take k.1)).image.text.length, .ref 4 0 (runP (m.cores.length : Int) m (picks.take k.1)).image.starts.length, iV (runP (m.cores.length : Int) m (picks.take k.1)).image.size, .ref 5 0 (runP (m.cores.length : Int) m (picks.take k.1)).mem.length, .ref 6 0 (runP (m.cores.length : Int) m (picks.take k.1)).cores.length, .ref 7 0 (runP (m.cores.length : Int) m (picks.take k.1)).kernel.gates.length, .ref 8 0 (runP (m.cores.length : Int) m (picks.take k.1)).kernel.ready.length, .ref 9 0 (runP (m.cores.length : Int) m (picks.take k.1)).kernel.saved.length, .ref 10 0 (runP (m.cores.length : Int) m (picks.take k.1)).kernel.over.length, .ref 11 0 (runP (m.cores.length : Int) m (picks.take k.1)).input.length, .ref 12 0 (runP (m.cores.length : Int) m (picks.take k.1)).events.length, bV (runP (m.cores.length : Int) m (picks.take k.1)).stopped]], .live 1 (intsT (runP (m.cores.length : Int) m (picks.take k.1)).image.text), .live 1 (intsT (runP (m.cores.length : Int) m (picks.take k.1)).image.starts), .live 1 (intsT (runP (m.cores.length : Int) m (picks.take k.1)).mem), .live 3 (coresT (runP (m.cores.length : Int) m (picks.take k.1)).cores), .live 3 (gatesT (runP (m.cores.length : Int) m (picks.take k.1)).kernel.gates), .live 1 (intsT (runP (m.cores.length : Int) m (picks.take k.1)).kernel.ready), .live 3 (coresT (runP (m.cores.length : Int) m (picks.take k.1)).kernel.saved), .live 1 (boolsT (runP (m.cores.length : Int) m (picks.take k.1)).kernel.over), .live 1 (intsT (runP (m.cores.length : Int) m (picks.take k.1)).input), .live 3 (eventsT (runP (m.cores.length : Int) m (picks.take k.1)).events)]⟩) (fun k => picks.length - k.1) ⟨0, by omega⟩ ?_ ?_
  ·
    first | (refine weak_canon [1, 2, 4, 6, 21, 22, 23] [0, 1, 12, 2, 3, 4, 5, 6, 7, 8, 9, 10, 11] ?_ ?_ ?_ <;> (simp (disch := omega) only [go_sem, hr0, List.take_zero, machineR, machineT]; done)) | (refine weak_canon [1, 2, 4, 6, 21, 22, 23] [0, 1, 12, 2, 3, 4, 5, 6, 7, 8, 9, 10, 11] ?_ ?_ ?_ <;> (try (simp (disch := omega) only [go_sem, hr0, List.take_zero, machineR, machineT])) <;> trace_state)
  rintro ⟨k, hk⟩
  by_cases hkl : k < picks.length
  · have hbk := runP_bd (n := (m.cores.length : Int)) hb hm (picks.take k)
    have htk : (picks.take k).length ≤ 1048576 := by rw [List.length_take]; omega
    have hst := iStep_ok (runP (m.cores.length : Int) m (picks.take k)) ((picks.getD k 0).tmod (m.cores.length : Int)) _ (by omega) (by omega) hbk
    have e := runP_one (n := (m.cores.length : Int)) (m := m) hkl
    rw [e] at hst
    simp (disch := omega) only [go_sem]
    repeat' (first | (with_reducible first | refine i_seq ?_ | exact tr_none | refine tr_stop ?_ | refine i_treeQ (id := 7) (.fr [0, 1, 2, 3, 4, 5] (.op [6] (.fr [7, 8, 9] (.op [10] (.stop))))) mixedT (by kernel_rfl) (fun Q' hQ => ?_)) | ((first | (with_reducible first | refine i_block ?_ | refine i_regionQ (fun Q' hQ => ?_) | (refine Imp.go hQ ?_; clear hQ) | refine tr_fr ?_ | refine tr_op (aL_run ?_) | refine tr_alt (by kernel_rfl) (aL_run ?_) ?_ | refine tr_altp ?_ ?_) | ((with_reducible refine i_condT ?_ ?_); (focus (simp only [go_sem, *]; done))) | ((with_reducible refine i_condF ?_ ?_); (focus (simp only [go_sem, *]; done))) | ((with_reducible first | refine resOk_g (fun h => ?_) (fun h => ?_) | refine pG_split (fun h => ?_) (fun h => ?_) | refine i_cond (by simp only [go_sem, *] <;> rfl) (fun h => ?_) (fun h => ?_)) <;> (try simp only [Bool.not_eq_eq_eq_not, Bool.not_true, Bool.not_false, reduceCtorEq] at h) <;> (try have h' := of_decide_eq_true h) <;> (try (have hz : (_ : Int) = (_ : Int) := h'; clear hz h')) <;> (try have h' := of_decide_eq_false h) <;> (try have h' := inB_t h) <;> (try (exfalso; omega))) | (((with_reducible first | refine hcall_of_callOk 40 true (hst) ?_ ?_ ?_ ?_ ?_); iterate 4 (focus (simp (disch := omega) only [go_sem, natLe_ok]; done))); simp only [go_sem]; refine aL_run ?_)) <;> (try simp (disch := omega) only [go_sem, *])))
    all_goals (try simp (disch := omega) only [EndK, go_sem, natLe_ok, *])
    all_goals refine ⟨⟨k + 1, by omega⟩, ?_, by simp only; omega⟩
    all_goals
      first | (refine weak_canon [1, 2, 4, 6, 21, 22, 23] [0, 1, 2, 13, 14, 15, 16, 17, 18, 19, 20, 21, 22] ?_ ?_ ?_ <;> (simp (disch := omega) only [go_sem, machineR, machineT]; done)) | (refine weak_canon [1, 2, 4, 6, 21, 22, 23] [0, 1, 2, 13, 14, 15, 16, 17, 18, 19, 20, 21, 22] ?_ ?_ ?_ <;> (try (simp (disch := omega) only [go_sem, machineR, machineT])) <;> trace_state)
  · have ek : picks.take k = picks := List.take_of_length_le (by omega)
    simp (disch := omega) only [go_sem]
    repeat' (first | (with_reducible first | refine i_seq ?_ | exact tr_none | refine tr_stop ?_ | refine i_treeQ (id := 7) (.fr [0, 1, 2, 3, 4, 5] (.op [6] (.fr [7, 8, 9] (.op [10] (.stop))))) mixedT (by kernel_rfl) (fun Q' hQ => ?_)) | ((first | (with_reducible first | refine i_block ?_ | refine i_regionQ (fun Q' hQ => ?_) | (refine Imp.go hQ ?_; clear hQ) | refine tr_fr ?_ | refine tr_op (aL_run ?_) | refine tr_alt (by kernel_rfl) (aL_run ?_) ?_ | refine tr_altp ?_ ?_) | ((with_reducible refine i_condT ?_ ?_); (focus (simp only [go_sem, *]; done))) | ((with_reducible refine i_condF ?_ ?_); (focus (simp only [go_sem, *]; done))) | ((with_reducible first | refine resOk_g (fun h => ?_) (fun h => ?_) | refine pG_split (fun h => ?_) (fun h => ?_) | refine i_cond (by simp only [go_sem, *] <;> rfl) (fun h => ?_) (fun h => ?_)) <;> (try simp only [Bool.not_eq_eq_eq_not, Bool.not_true, Bool.not_false, reduceCtorEq] at h) <;> (try have h' := of_decide_eq_true h) <;> (try (have hz : (_ : Int) = (_ : Int) := h'; clear hz h')) <;> (try have h' := of_decide_eq_false h) <;> (try have h' := inB_t h) <;> (try (exfalso; omega)))) <;> (try simp (disch := omega) only [go_sem, ek, *])))
    all_goals (try simp (disch := omega) only [EndK, go_sem, ek, natLe_ok, *])
end Go.Proofs.YtapgpllnledhmaaGreat.E
end
