/- A part of what stands under the laws of this seat: an abstract evaluator that is proved sound, and contracts of functions by it. No condition beside those that stand in each statement. -/
import Derived.Test.YtapgpllnledhmaaGreatK23
import Derived.Test.YtapgpllnledhmaaGreatS9
set_option linter.unusedVariables false
set_option linter.unusedSimpArgs false
set_option maxRecDepth 100000
set_option maxHeartbeats 4000000
namespace Go.Proofs.YtapgpllnledhmaaGreat.E
def sPicks (m : Machine) (xs : List Int) : Bool := if xs.any badPick = true then false else if decide ((xs.length : Int) ≤ 600) = true then decide (0 < (m.cores.length : Int)) else false
theorem any_one {xs : List Int} {k : Nat} (h : k < xs.length) : (xs.take (k + 1)).any badPick = ((xs.take k).any badPick || decide (xs.getD k 0 < 0)) := by
  rw [List.take_succ_eq_append_getElem h, List.any_append]
  simp [h, badPick]
theorem anyb_take {xs : List Int} {k : Nat} (h : (xs.take k).any badPick = true) : xs.any badPick = true := by
  rw [← List.take_append_drop k xs, List.any_append, h]; rfl
theorem sPicks_ok (m : Machine) (picks : List Int) (hm : mdMachine m) (hs : picks.length ≤ 1099511627776) : CallOk Tryz.prog 43 [.agg (machineR m), .one (.ro 1 (intsD picks))] (.s (.one (bV (sPicks m picks)))) [none, none] := by
  have hcs : m.cores.length ≤ 68719476736 := hm.2.2.1.1
  refine callOk_of_hcall 40 (hcall_of_body Tryz.func43 rfl (by kernel_rfl) ?_)
  simp (disch := omega) only [go_sem, Tryz.ntmps43, Tryz.results43]
  repeat' (first | (with_reducible first | refine i_seq ?_) | ((first | (with_reducible first | refine i_block ?_ | refine i_regionQ (fun Q' hQ => ?_) | (refine Imp.go hQ ?_; clear hQ)) | ((with_reducible refine i_condT ?_ ?_); (focus (simp only [go_sem, *]; done))) | ((with_reducible refine i_condF ?_ ?_); (focus (simp only [go_sem, *]; done))) | ((with_reducible first | refine resOk_g (fun h => ?_) (fun h => ?_) | refine i_cond (by simp only [go_sem, *] <;> rfl) (fun h => ?_) (fun h => ?_)) <;> (try simp only [Bool.not_eq_eq_eq_not, Bool.not_true, Bool.not_false, reduceCtorEq] at h) <;> (try have h' := of_decide_eq_true h) <;> (try (have hz : (_ : Int) = (_ : Int) := h'; clear hz h')) <;> (try have h' := of_decide_eq_false h) <;> (try have h' := inB_t h) <;> (try (exfalso; omega)))) <;> (try simp (disch := omega) only [go_sem, *])))
  all_goals (try simp (disch := omega) only [EndK, go_sem, natLe_ok, *])
  refine i_loop (α := {k : Nat // k ≤ picks.length ∧ (picks.take k).any badPick = false}) (fun k => ⟨mkEnv 26 [(1, .one (.ro 1 (intsD picks))), (2, .one (.ptr 0 0 0)), (5, .one (iV k.1))], [.live 12 [machineR m]]⟩) (fun k => picks.length - k.1) ⟨0, by omega, rfl⟩ ?_ ?_
  · (refine weak_canon [1, 2, 5] [0] ?_ ?_ ?_ <;> (simp (disch := omega) only [go_sem, machineR]; done))
  rintro ⟨k, hk, hp⟩
  by_cases hkl : k < picks.length
  · have hb := any_one hkl
    rw [hp, Bool.false_or] at hb
    cases hq : decide (picks.getD k 0 < 0)
    · rw [hq] at hb
      simp (disch := omega) only [go_sem]
      repeat' (first | (with_reducible first | refine i_seq ?_) | ((first | (with_reducible first | refine i_block ?_ | refine i_regionQ (fun Q' hQ => ?_) | (refine Imp.go hQ ?_; clear hQ)) | ((with_reducible refine i_condT ?_ ?_); (focus (simp only [go_sem, *]; done))) | ((with_reducible refine i_condF ?_ ?_); (focus (simp only [go_sem, *]; done))) | ((with_reducible first | refine resOk_g (fun h => ?_) (fun h => ?_) | refine i_cond (by simp only [go_sem, *] <;> rfl) (fun h => ?_) (fun h => ?_)) <;> (try simp only [Bool.not_eq_eq_eq_not, Bool.not_true, Bool.not_false, reduceCtorEq] at h) <;> (try have h' := of_decide_eq_true h) <;> (try (have hz : (_ : Int) = (_ : Int) := h'; clear hz h')) <;> (try have h' := of_decide_eq_false h) <;> (try have h' := inB_t h) <;> (try (exfalso; omega)))) <;> (try simp (disch := omega) only [go_sem, hq, *])))
      all_goals (try simp (disch := omega) only [EndK, go_sem, hq, natLe_ok, *])
      all_goals refine ⟨⟨k + 1, by omega, hb⟩, ?_, by simp only; omega⟩
      all_goals (refine weak_canon [1, 2, 5] [0] ?_ ?_ ?_ <;> (simp (disch := omega) only [go_sem, machineR]; done))
    · rw [hq] at hb
      have hb2 := anyb_take hb
      have hres : sPicks m picks = false := by unfold sPicks; rw [if_pos hb2]
      clear hb hb2
      simp (disch := omega) only [go_sem]
      repeat' (first | (with_reducible first | refine i_seq ?_) | ((first | (with_reducible first | refine i_block ?_ | refine i_regionQ (fun Q' hQ => ?_) | (refine Imp.go hQ ?_; clear hQ)) | ((with_reducible refine i_condT ?_ ?_); (focus (simp only [go_sem, *]; done))) | ((with_reducible refine i_condF ?_ ?_); (focus (simp only [go_sem, *]; done))) | ((with_reducible first | refine resOk_g (fun h => ?_) (fun h => ?_) | refine i_cond (by simp only [go_sem, *] <;> rfl) (fun h => ?_) (fun h => ?_)) <;> (try simp only [Bool.not_eq_eq_eq_not, Bool.not_true, Bool.not_false, reduceCtorEq] at h) <;> (try have h' := of_decide_eq_true h) <;> (try (have hz : (_ : Int) = (_ : Int) := h'; clear hz h')) <;> (try have h' := of_decide_eq_false h) <;> (try have h' := inB_t h) <;> (try (exfalso; omega)))) <;> (try simp (disch := omega) only [go_sem, hq, hres, *])))
      all_goals (try simp (disch := omega) only [EndK, go_sem, hq, hres, natLe_ok, *])
  · have hb : picks.any badPick = false := by rw [List.take_of_length_le (by omega)] at hp; exact hp
    cases h1 : decide ((picks.length : Int) ≤ 600)
    all_goals
      simp (disch := omega) only [go_sem]
      repeat' (first | (with_reducible first | refine i_seq ?_) | ((first | (with_reducible first | refine i_block ?_ | refine i_regionQ (fun Q' hQ => ?_) | (refine Imp.go hQ ?_; clear hQ)) | ((with_reducible refine i_condT ?_ ?_); (focus (simp only [go_sem, *]; done))) | ((with_reducible refine i_condF ?_ ?_); (focus (simp only [go_sem, *]; done))) | ((with_reducible first | refine resOk_g (fun h => ?_) (fun h => ?_) | refine i_cond (by simp only [go_sem, *] <;> rfl) (fun h => ?_) (fun h => ?_)) <;> (try simp only [Bool.not_eq_eq_eq_not, Bool.not_true, Bool.not_false, reduceCtorEq] at h) <;> (try have h' := of_decide_eq_true h) <;> (try (have hz : (_ : Int) = (_ : Int) := h'; clear hz h')) <;> (try have h' := of_decide_eq_false h) <;> (try have h' := inB_t h) <;> (try (exfalso; omega)))) <;> (try simp (disch := omega) only [go_sem, sPicks, hb, h1, reduceCtorEq, *])))
      all_goals (try simp (disch := omega) only [EndK, go_sem, sPicks, hb, h1, reduceCtorEq, natLe_ok, *])
theorem sPicks_is (m : Machine) (picks : List Int) : sPicks m picks = (runMachine m picks).2 := by
  unfold sPicks runMachine picksOk
  have h4 : decide (0 < (m.cores.length : Int)) = !((m.cores.length : Int) == 0) := by
    by_cases h : (m.cores.length : Int) = 0
    · rw [h]; rfl
    · have h5 : 0 < (m.cores.length : Int) := by omega
      rw [decide_eq_true h5, beq_eq_false_iff_ne.2 h]; rfl
  rw [h4]
  cases picks.any badPick <;> cases decide ((picks.length : Int) ≤ 600) <;> cases ((m.cores.length : Int) == 0) <;> rfl
theorem sRun_no (m : Machine) (picks : List Int) (hm : mdMachine m) (hs : picks.length ≤ 1099511627776) (h : sPicks m picks = false) :
    CallOk Tryz.prog 12 [.agg (machineR m), .one (.ro 1 (intsD picks))] (.tup [.agg (machineT machineZ), .one (bV false)]) [none, none] := by
  have hp := sPicks_ok m picks hm hs
  rw [h] at hp
  refine callOk_of_hcall 40 (hcall_of_body Tryz.func12 rfl (by kernel_rfl) ?_)
  simp (disch := omega) only [go_sem, Tryz.ntmps12, Tryz.results12]
  repeat' (first | (with_reducible first | refine i_seq ?_ | exact tr_none | refine tr_stop ?_ | refine i_treeQ (id := 7) (.fr [0, 1, 2, 3, 4, 5, 6, 7] (.op [8] (.stop))) mixedT (by kernel_rfl) (fun Q' hQ => ?_)) | ((first | (with_reducible first | refine i_block ?_ | refine i_regionQ (fun Q' hQ => ?_) | (refine Imp.go hQ ?_; clear hQ) | refine tr_fr ?_ | refine tr_op (aL_run ?_) | refine tr_alt (by kernel_rfl) (aL_run ?_) ?_ | refine tr_altp ?_ ?_) | ((with_reducible refine i_condT ?_ ?_); (focus (simp only [go_sem, *]; done))) | ((with_reducible refine i_condF ?_ ?_); (focus (simp only [go_sem, *]; done))) | ((with_reducible first | refine resOk_g (fun h => ?_) (fun h => ?_) | refine pG_split (fun h => ?_) (fun h => ?_) | refine i_cond (by simp only [go_sem, *] <;> rfl) (fun h => ?_) (fun h => ?_)) <;> (try simp only [Bool.not_eq_eq_eq_not, Bool.not_true, Bool.not_false, reduceCtorEq] at h) <;> (try have h' := of_decide_eq_true h) <;> (try (have hz : (_ : Int) = (_ : Int) := h'; clear hz h')) <;> (try have h' := of_decide_eq_false h) <;> (try have h' := inB_t h) <;> (try (exfalso; omega))) | (((with_reducible first | refine hcall_of_callOk 40 true (hp) ?_ ?_ ?_ ?_ ?_); iterate 4 (focus (simp (disch := omega) only [go_sem, machineZ, reduceCtorEq, natLe_ok]; done))); simp only [go_sem, machineZ, reduceCtorEq]; refine aL_run ?_)) <;> (try simp (disch := omega) only [go_sem, machineZ, reduceCtorEq, *])))
  all_goals (try simp (disch := omega) only [EndK, go_sem, machineZ, reduceCtorEq, natLe_ok, *])
theorem sRun_yes (m : Machine) (picks : List Int) (b : Nat) (hb : 8 ≤ b) (hb2 : b ≤ 17179869184) (hm : bdM b m) (h : sPicks m picks = true) (hc0 : 0 < (m.cores.length : Int)) (hs : picks.length ≤ 1048576) :
    CallOk Tryz.prog 12 [.agg (machineR m), .one (.ro 1 (intsD picks))] (.tup [.agg (machineT (runP (m.cores.length : Int) m picks)), .one (bV true)]) [none, none] := by
  have hmm : mdMachine m := bdM_md (by omega) hm
  have hcs : m.cores.length ≤ 68719476736 := hmm.2.2.1.1
  have hr0 : runP (m.cores.length : Int) m [] = m := rfl
  have hp := sPicks_ok m picks hmm (by omega)
  rw [h] at hp
  refine callOk_of_hcall 40 (hcall_of_body Tryz.func12 rfl (by kernel_rfl) ?_)
  simp (disch := omega) only [go_sem, Tryz.ntmps12, Tryz.results12]
  repeat' (first | (with_reducible first | refine i_seq ?_ | exact tr_none | refine tr_stop ?_ | refine i_treeQ (id := 7) (.fr [0, 1, 2, 3, 4, 5, 6, 7] (.op [8] (.stop))) mixedT (by kernel_rfl) (fun Q' hQ => ?_)) | ((first | (with_reducible first | refine i_block ?_ | refine i_regionQ (fun Q' hQ => ?_) | (refine Imp.go hQ ?_; clear hQ) | refine tr_fr ?_ | refine tr_op (aL_run ?_) | refine tr_alt (by kernel_rfl) (aL_run ?_) ?_ | refine tr_altp ?_ ?_) | ((with_reducible refine i_condT ?_ ?_); (focus (simp only [go_sem, *]; done))) | ((with_reducible refine i_condF ?_ ?_); (focus (simp only [go_sem, *]; done))) | ((with_reducible first | refine resOk_g (fun h => ?_) (fun h => ?_) | refine pG_split (fun h => ?_) (fun h => ?_) | refine i_cond (by simp only [go_sem, *] <;> rfl) (fun h => ?_) (fun h => ?_)) <;> (try simp only [Bool.not_eq_eq_eq_not, Bool.not_true, Bool.not_false, reduceCtorEq] at h) <;> (try have h' := of_decide_eq_true h) <;> (try (have hz : (_ : Int) = (_ : Int) := h'; clear hz h')) <;> (try have h' := of_decide_eq_false h) <;> (try have h' := inB_t h) <;> (try (exfalso; omega))) | (((with_reducible first | refine hcall_of_callOk 40 true (hp) ?_ ?_ ?_ ?_ ?_ | refine hcall_of_callOk 40 true (l21Copy_ok m hmm) ?_ ?_ ?_ ?_ ?_); iterate 4 (focus (simp (disch := omega) only [go_sem, reduceCtorEq, natLe_ok]; done))); simp only [go_sem, reduceCtorEq]; refine aL_run ?_)) <;> (try simp (disch := omega) only [go_sem, reduceCtorEq, *])))
  all_goals (try simp (disch := omega) only [EndK, go_sem, reduceCtorEq, natLe_ok, *])
  refine i_loop (α := {k : Nat // k ≤ picks.length}) (fun k => ⟨mkEnv 31 [(1, .one (.ro 1 (intsD picks))), (2, .one (.ptr 0 0 0)), (4, .one (.ptr 1 0 0)), (6, .one (.ptr 2 0 0)), (7, .one (iV k.1))], [.live 12 [machineR m], .live 12 [[.v (.slice none 0 0), .v (.slice none 0 0), .v (.int .i64 0), .v (.slice none 0 0), .v (.slice none 0 0), .v (.slice none 0 0), .v (.slice none 0 0), .v (.slice none 0 0), .v (.slice none 0 0), .v (.slice none 0 0), .v (.slice none 0 0), .v (.bool false)]], .live 12 [[.ref 3 0 (runP (m.cores.length : Int) m (picks.take k.1)).image.text.length, .ref 4 0 (runP (m.cores.length : Int) m (picks.take k.1)).image.starts.length, iV (runP (m.cores.length : Int) m (picks.take k.1)).image.size, .ref 5 0 (runP (m.cores.length : Int) m (picks.take k.1)).mem.length, .ref 6 0 (runP (m.cores.length : Int) m (picks.take k.1)).cores.length, .ref 7 0 (runP (m.cores.length : Int) m (picks.take k.1)).kernel.gates.length, .ref 8 0 (runP (m.cores.length : Int) m (picks.take k.1)).kernel.ready.length, .ref 9 0 (runP (m.cores.length : Int) m (picks.take k.1)).kernel.saved.length, .ref 10 0 (runP (m.cores.length : Int) m (picks.take k.1)).kernel.over.length, .ref 11 0 (runP (m.cores.length : Int) m (picks.take k.1)).input.length, .ref 12 0 (runP (m.cores.length : Int) m (picks.take k.1)).events.length, bV (runP (m.cores.length : Int) m (picks.take k.1)).stopped]], .live 1 (intsT (runP (m.cores.length : Int) m (picks.take k.1)).image.text), .live 1 (intsT (runP (m.cores.length : Int) m (picks.take k.1)).image.starts), .live 1 (intsT (runP (m.cores.length : Int) m (picks.take k.1)).mem), .live 3 (coresT (runP (m.cores.length : Int) m (picks.take k.1)).cores), .live 3 (gatesT (runP (m.cores.length : Int) m (picks.take k.1)).kernel.gates), .live 1 (intsT (runP (m.cores.length : Int) m (picks.take k.1)).kernel.ready), .live 3 (coresT (runP (m.cores.length : Int) m (picks.take k.1)).kernel.saved), .live 1 (boolsT (runP (m.cores.length : Int) m (picks.take k.1)).kernel.over), .live 1 (intsT (runP (m.cores.length : Int) m (picks.take k.1)).input), .live 3 (eventsT (runP (m.cores.length : Int) m (picks.take k.1)).events)]⟩) (fun k => picks.length - k.1) ⟨0, by omega⟩ ?_ ?_
  ·
    first | (refine weak_canon [1, 2, 4, 6, 7] [0, 1, 12, 2, 3, 4, 5, 6, 7, 8, 9, 10, 11] ?_ ?_ ?_ <;> (simp (disch := omega) only [go_sem, hr0, List.take_zero, machineR, machineT]; done)) | (refine weak_canon [1, 2, 4, 6, 7] [0, 1, 12, 2, 3, 4, 5, 6, 7, 8, 9, 10, 11] ?_ ?_ ?_ <;> (try (simp (disch := omega) only [go_sem, hr0, List.take_zero, machineR, machineT])) <;> trace_state)
  rintro ⟨k, hk⟩
  by_cases hkl : k < picks.length
  · have hbk := runP_bd (n := (m.cores.length : Int)) hb hm (picks.take k)
    have htk : (picks.take k).length ≤ 1048576 := by rw [List.length_take]; omega
    have hst := sStep_ok (runP (m.cores.length : Int) m (picks.take k)) ((picks.getD k 0).tmod (m.cores.length : Int)) _ (by omega) (by omega) hbk
    have e := runP_one (n := (m.cores.length : Int)) (m := m) hkl
    have hcl := runP_cores (m.cores.length : Int) m (picks.take k)
    rw [e] at hst
    obtain ⟨M2, hM2⟩ : ∃ M2, runP (m.cores.length : Int) m (picks.take (k + 1)) = M2 := ⟨_, rfl⟩
    obtain ⟨B, hB⟩ : ∃ B, (stepM (runP (m.cores.length : Int) m (picks.take k)) ((picks.getD k 0).tmod (m.cores.length : Int))).2 = B := ⟨_, rfl⟩
    rw [hB, hM2] at hst
    clear e htk hbk hB
    obtain ⟨M, hM⟩ : ∃ M, runP (m.cores.length : Int) m (picks.take k) = M := ⟨_, rfl⟩
    rw [hM] at hst hcl
    rw [← hcl] at hst
    have hl1 : 0 < (M.cores.length : Int) := by omega
    have hl2 : M.cores.length ≤ 68719476736 := by omega
    have hl3 : (M.cores.length : Int) ≠ 0 := by omega
    clear hcl
    simp only [hM]
    simp (disch := omega) only [go_sem]
    clear hM
    repeat' (first | (with_reducible first | refine i_seq ?_ | exact tr_none | refine tr_stop ?_ | refine i_treeQ (id := 7) (.fr [0, 1, 2, 3, 4, 5, 6, 7] (.op [8] (.stop))) mixedT (by kernel_rfl) (fun Q' hQ => ?_)) | ((first | (with_reducible first | refine i_block ?_ | refine i_regionQ (fun Q' hQ => ?_) | (refine Imp.go hQ ?_; clear hQ) | refine tr_fr ?_ | refine tr_op (aL_run ?_) | refine tr_alt (by kernel_rfl) (aL_run ?_) ?_ | refine tr_altp ?_ ?_) | ((with_reducible refine i_condT ?_ ?_); (focus (simp only [go_sem, *]; done))) | ((with_reducible refine i_condF ?_ ?_); (focus (simp only [go_sem, *]; done))) | ((with_reducible first | refine resOk_g (fun h => ?_) (fun h => ?_) | refine pG_split (fun h => ?_) (fun h => ?_) | refine i_cond (by simp only [go_sem, *] <;> rfl) (fun h => ?_) (fun h => ?_)) <;> (try simp only [Bool.not_eq_eq_eq_not, Bool.not_true, Bool.not_false, reduceCtorEq] at h) <;> (try have h' := of_decide_eq_true h) <;> (try (have hz : (_ : Int) = (_ : Int) := h'; clear hz h')) <;> (try have h' := of_decide_eq_false h) <;> (try have h' := inB_t h) <;> (try (exfalso; omega))) | (((with_reducible first | refine hcall_of_callOk 40 true (hst) ?_ ?_ ?_ ?_ ?_); iterate 4 (focus (simp (disch := omega) only [go_sem, natLe_ok]; done))); simp only [go_sem]; refine aL_run ?_)) <;> (try simp (disch := omega) only [go_sem, *])))
    all_goals (try simp (disch := omega) only [EndK, go_sem, natLe_ok, *])
    all_goals refine ⟨⟨k + 1, by omega⟩, ?_, by simp only; omega⟩
    all_goals
      simp only [hM2]
      refine weak_names (names_at 2 0 (machineT M2) rfl (by with_reducible rfl) (by simp (disch := omega) only [go_sem])) ?_
      simp (disch := omega) only [go_sem]
      first | (refine weak_canon [1, 2, 4, 6, 7] [0, 1, 2, 13, 14, 15, 16, 17, 18, 19, 20, 21, 22] ?_ ?_ ?_ <;> (simp (disch := omega) only [go_sem, machineR, machineT]; done)) | (refine weak_canon [1, 2, 4, 6, 7] [0, 1, 2, 13, 14, 15, 16, 17, 18, 19, 20, 21, 22] ?_ ?_ ?_ <;> (try (simp (disch := omega) only [go_sem, machineR, machineT])) <;> trace_state)
  · have ek : picks.take k = picks := List.take_of_length_le (by omega)
    simp (disch := omega) only [go_sem]
    repeat' (first | (with_reducible first | refine i_seq ?_ | exact tr_none | refine tr_stop ?_ | refine i_treeQ (id := 7) (.fr [0, 1, 2, 3, 4, 5, 6, 7] (.op [8] (.stop))) mixedT (by kernel_rfl) (fun Q' hQ => ?_)) | ((first | (with_reducible first | refine i_block ?_ | refine i_regionQ (fun Q' hQ => ?_) | (refine Imp.go hQ ?_; clear hQ) | refine tr_fr ?_ | refine tr_op (aL_run ?_) | refine tr_alt (by kernel_rfl) (aL_run ?_) ?_ | refine tr_altp ?_ ?_) | ((with_reducible refine i_condT ?_ ?_); (focus (simp only [go_sem, *]; done))) | ((with_reducible refine i_condF ?_ ?_); (focus (simp only [go_sem, *]; done))) | ((with_reducible first | refine resOk_g (fun h => ?_) (fun h => ?_) | refine pG_split (fun h => ?_) (fun h => ?_) | refine i_cond (by simp only [go_sem, *] <;> rfl) (fun h => ?_) (fun h => ?_)) <;> (try simp only [Bool.not_eq_eq_eq_not, Bool.not_true, Bool.not_false, reduceCtorEq] at h) <;> (try have h' := of_decide_eq_true h) <;> (try (have hz : (_ : Int) = (_ : Int) := h'; clear hz h')) <;> (try have h' := of_decide_eq_false h) <;> (try have h' := inB_t h) <;> (try (exfalso; omega)))) <;> (try simp (disch := omega) only [go_sem, ek, *])))
    all_goals (try simp (disch := omega) only [EndK, go_sem, ek, natLe_ok, *])
end Go.Proofs.YtapgpllnledhmaaGreat.E
