/- A part of what stands under the laws of this seat: an abstract evaluator that is proved sound, and contracts of functions by it. No condition beside those that stand in each statement. -/
import Derived.Test.YtapgpllnledhmaaGreatK25
import Derived.Test.YtapgpllnledhmaaGreatS9
set_option linter.unusedVariables false
set_option linter.unusedSimpArgs false
set_option maxRecDepth 100000
set_option maxHeartbeats 4000000
namespace Go.Proofs.YtapgpllnledhmaaGreat.E
theorem sFair_ok (m : Machine) (rounds : Int) (b : Nat) (hb : 8 ≤ b) (hb2 : b ≤ 1048576) (hm : bdM b m) :
    CallOk Tryz.prog 6 [.agg (machineR m), .one (iV rounds)] (.s (.agg (machineT (fair m rounds)))) [none, none] := by
  have hmm : mdMachine m := bdM_md (by omega) hm
  have hcs : m.cores.length ≤ 1048576 := hm.2.2.1.1
  obtain ⟨L, hL⟩ : ∃ L : Int, (if (2000 : Int) < rounds then 2000 else rounds) = L := ⟨_, rfl⟩
  have hL0 : L ≤ 2000 ∧ L ≤ rounds ∧ (L = 2000 ∨ L = rounds) := by rw [← hL]; split <;> omega
  have hfair : fair m rounds = (fairP m m.cores.length L.toNat).1 := by rw [← hL]; rfl
  rw [hfair]
  clear hfair hL
  have hf0 : (fairP m m.cores.length 0).1 = m := rfl
  refine callOk_of_hcall 40 (hcall_of_body Tryz.func6 rfl (by kernel_rfl) ?_)
  simp (disch := omega) only [go_sem, Tryz.ntmps6, Tryz.results6]
  repeat' (first | (with_reducible first | refine i_seq ?_) | ((first | (with_reducible first | refine i_block ?_ | refine i_regionQ (fun Q' hQ => ?_) | (refine Imp.go hQ ?_; clear hQ) | (refine ImpE.go hE ?_; clear hE)) | ((with_reducible refine i_condT ?_ ?_); (focus (simp only [go_sem, *]; done))) | ((with_reducible refine i_condF ?_ ?_); (focus (simp only [go_sem, *]; done))) | ((with_reducible first | refine resOk_g (fun h => ?_) (fun h => ?_) | refine i_cond (by simp only [go_sem, *] <;> rfl) (fun h => ?_) (fun h => ?_)) <;> (try simp only [Bool.not_eq_eq_eq_not, Bool.not_true, Bool.not_false, reduceCtorEq] at h) <;> (try have h' := of_decide_eq_true h) <;> (try (have hz : (_ : Int) = (_ : Int) := h'; clear hz h')) <;> (try have h' := of_decide_eq_false h) <;> (try have h' := inB_t h) <;> (try (exfalso; omega))) | (((with_reducible first | refine hcall_of_callOk 40 true (l21Copy_ok m hmm) ?_ ?_ ?_ ?_ ?_); iterate 4 (focus (simp (disch := omega) only [go_sem, natLe_ok]; done))); simp only [go_sem]; refine aL_run ?_)) <;> (try simp (disch := omega) only [go_sem, *])))
  all_goals (try simp (disch := omega) only [EndK, go_sem, natLe_ok, *])
  refine i_loop (α := {k : Nat // k ≤ L.toNat ∧ (fairP m m.cores.length k).2 = true}) (fun k => ⟨mkEnv 38 [(1, .one (iV rounds)), (2, .one (.ptr 0 0 0)), (4, .one (.ptr 1 0 0)), (5, .one (.ptr 2 0 0)), (6, .one (iV k.1))], [.live 12 [machineR m], .live 12 [[.v (.slice none 0 0), .v (.slice none 0 0), .v (.int .i64 0), .v (.slice none 0 0), .v (.slice none 0 0), .v (.slice none 0 0), .v (.slice none 0 0), .v (.slice none 0 0), .v (.slice none 0 0), .v (.slice none 0 0), .v (.slice none 0 0), .v (.bool false)]], .live 12 [[.ref 3 0 (fairP m m.cores.length k.1).1.image.text.length, .ref 4 0 (fairP m m.cores.length k.1).1.image.starts.length, iV (fairP m m.cores.length k.1).1.image.size, .ref 5 0 (fairP m m.cores.length k.1).1.mem.length, .ref 6 0 (fairP m m.cores.length k.1).1.cores.length, .ref 7 0 (fairP m m.cores.length k.1).1.kernel.gates.length, .ref 8 0 (fairP m m.cores.length k.1).1.kernel.ready.length, .ref 9 0 (fairP m m.cores.length k.1).1.kernel.saved.length, .ref 10 0 (fairP m m.cores.length k.1).1.kernel.over.length, .ref 11 0 (fairP m m.cores.length k.1).1.input.length, .ref 12 0 (fairP m m.cores.length k.1).1.events.length, bV (fairP m m.cores.length k.1).1.stopped]], .live 1 (intsT (fairP m m.cores.length k.1).1.image.text), .live 1 (intsT (fairP m m.cores.length k.1).1.image.starts), .live 1 (intsT (fairP m m.cores.length k.1).1.mem), .live 3 (coresT (fairP m m.cores.length k.1).1.cores), .live 3 (gatesT (fairP m m.cores.length k.1).1.kernel.gates), .live 1 (intsT (fairP m m.cores.length k.1).1.kernel.ready), .live 3 (coresT (fairP m m.cores.length k.1).1.kernel.saved), .live 1 (boolsT (fairP m m.cores.length k.1).1.kernel.over), .live 1 (intsT (fairP m m.cores.length k.1).1.input), .live 3 (eventsT (fairP m m.cores.length k.1).1.events)]⟩) (fun k => L.toNat - k.1) ⟨0, by omega, rfl⟩ ?_ ?_
  ·
    first | (refine weak_canon [1, 2, 4, 5, 6] [0, 1, 12, 2, 3, 4, 5, 6, 7, 8, 9, 10, 11] ?_ ?_ ?_ <;> (simp (disch := omega) only [go_sem, hf0, machineR, machineT]; done)) | (refine weak_canon [1, 2, 4, 5, 6] [0, 1, 12, 2, 3, 4, 5, 6, 7, 8, 9, 10, 11] ?_ ?_ ?_ <;> (try (simp (disch := omega) only [go_sem, hf0, machineR, machineT])) <;> trace_state)
  rintro ⟨k, hk, hgo⟩
  have hkn : k * m.cores.length ≤ 2000 * 1048576 := Nat.mul_le_mul (by omega) hcs
  have hbf := fairP_bd (n := m.cores.length) hb hm k
  have hcf := fairP_cores m m.cores.length k
  obtain ⟨M, hM⟩ : ∃ M, (fairP m m.cores.length k).1 = M := ⟨_, rfl⟩
  rw [hM] at hbf hcf
  simp only [hM]
  by_cases hkl : (k : Int) < L
  · have hf1 : fairP m m.cores.length (k + 1) = passP M m.cores.length := by
      show (if (fairP m m.cores.length k).2 = true then _ else _) = _
      rw [if_pos hgo, hM]
    have hpc := fun c => (passP_cores M c).trans hcf
    clear hcf
    have hk1 : decide ((k : Int) < rounds) = true := decide_eq_true (by omega)
    have hk2 : decide ((k : Int) < 2000) = true := decide_eq_true (by omega)
    simp (disch := omega) only [go_sem]
    clear hM
    repeat' (first | (with_reducible first | refine i_seq ?_) | ((first | (with_reducible first | refine i_block ?_ | refine i_regionQ (fun Q' hQ => ?_) | (refine Imp.go hQ ?_; clear hQ) | (refine ImpE.go hE ?_; clear hE)) | ((with_reducible refine i_condT ?_ ?_); (focus (simp only [go_sem, *]; done))) | ((with_reducible refine i_condF ?_ ?_); (focus (simp only [go_sem, *]; done))) | ((with_reducible first | refine resOk_g (fun h => ?_) (fun h => ?_) | refine i_cond (by simp only [go_sem, *] <;> rfl) (fun h => ?_) (fun h => ?_)) <;> (try simp only [Bool.not_eq_eq_eq_not, Bool.not_true, Bool.not_false, reduceCtorEq] at h) <;> (try have h' := of_decide_eq_true h) <;> (try (have hz : (_ : Int) = (_ : Int) := h'; clear hz h')) <;> (try have h' := of_decide_eq_false h) <;> (try have h' := inB_t h) <;> (try (exfalso; omega)))) <;> (try simp (disch := omega) only [go_sem, hk1, hk2, *])))
    all_goals (try simp (disch := omega) only [EndK, go_sem, hk1, hk2, natLe_ok, *])
    refine i_hide fun Q hE => ?_
    refine i_loop (α := {c : Nat // c ≤ m.cores.length}) (fun c => ⟨mkEnv 38 [(1, .one (iV rounds)), (2, .one (.ptr 0 0 0)), (4, .one (.ptr 1 0 0)), (5, .one (.ptr 2 0 0)), (6, .one (iV k)), (7, .one (bV (passP M c.1).2)), (8, .one (iV c.1))], [.live 12 [machineR m], .live 12 [[.v (.slice none 0 0), .v (.slice none 0 0), .v (.int .i64 0), .v (.slice none 0 0), .v (.slice none 0 0), .v (.slice none 0 0), .v (.slice none 0 0), .v (.slice none 0 0), .v (.slice none 0 0), .v (.slice none 0 0), .v (.slice none 0 0), .v (.bool false)]], .live 12 [[.ref 3 0 (passP M c.1).1.image.text.length, .ref 4 0 (passP M c.1).1.image.starts.length, iV (passP M c.1).1.image.size, .ref 5 0 (passP M c.1).1.mem.length, .ref 6 0 (passP M c.1).1.cores.length, .ref 7 0 (passP M c.1).1.kernel.gates.length, .ref 8 0 (passP M c.1).1.kernel.ready.length, .ref 9 0 (passP M c.1).1.kernel.saved.length, .ref 10 0 (passP M c.1).1.kernel.over.length, .ref 11 0 (passP M c.1).1.input.length, .ref 12 0 (passP M c.1).1.events.length, bV (passP M c.1).1.stopped]], .live 1 (intsT (passP M c.1).1.image.text), .live 1 (intsT (passP M c.1).1.image.starts), .live 1 (intsT (passP M c.1).1.mem), .live 3 (coresT (passP M c.1).1.cores), .live 3 (gatesT (passP M c.1).1.kernel.gates), .live 1 (intsT (passP M c.1).1.kernel.ready), .live 3 (coresT (passP M c.1).1.kernel.saved), .live 1 (boolsT (passP M c.1).1.kernel.over), .live 1 (intsT (passP M c.1).1.input), .live 3 (eventsT (passP M c.1).1.events)]⟩) (fun c => m.cores.length - c.1) ⟨0, by omega⟩ ?_ ?_
    ·
      first | (refine weak_canon [1, 2, 4, 5, 6, 7, 8] [0, 1, 2, 3, 4, 5, 6, 7, 8, 9, 10, 11, 12] ?_ ?_ ?_ <;> (simp (disch := omega) only [go_sem, passP, machineR, machineT]; done)) | (refine weak_canon [1, 2, 4, 5, 6, 7, 8] [0, 1, 2, 3, 4, 5, 6, 7, 8, 9, 10, 11, 12] ?_ ?_ ?_ <;> (try (simp (disch := omega) only [go_sem, passP, machineR, machineT])) <;> trace_state)
    rintro ⟨c, hc⟩
    have hcl1 : (passP M c).1.cores.length ≤ m.cores.length := Nat.le_of_eq (hpc c)
    have hcl2 : m.cores.length ≤ (passP M c).1.cores.length := Nat.le_of_eq (hpc c).symm
    by_cases hcl : c < m.cores.length
    · have hbp := passP_bd (by omega) hbf c
      have e1 : (stepM (passP M c).1 (c : Int)).1 = (passP M (c + 1)).1 := rfl
      have e2 : (passP M (c + 1)).2 = ((passP M c).2 || (stepM (passP M c).1 (c : Int)).2) := rfl
      have hst := sStep_ok (passP M c).1 (c : Int) _ (by omega) (by omega) hbp
      rw [e1] at hst
      clear e1 hbp
      obtain ⟨M3, hM3⟩ : ∃ M3, (passP M (c + 1)).1 = M3 := ⟨_, rfl⟩
      rw [hM3] at hst
      obtain ⟨M2, hM2⟩ : ∃ M2, (passP M c).1 = M2 := ⟨_, rfl⟩
      rw [hM2] at hst e2 hcl1 hcl2
      simp only [hM2]
      have hdc : decide ((c : Int) < (M2.cores.length : Int)) = true := decide_eq_true (by omega)
      clear hpc
      cases hq : (passP M c).2
      all_goals
        rw [hq] at e2
        simp (disch := omega) only [go_sem]
        clear hM2
        repeat' (first | (with_reducible first | refine i_seq ?_) | ((first | (with_reducible first | refine i_block ?_ | refine i_regionQ (fun Q' hQ => ?_) | (refine Imp.go hQ ?_; clear hQ) | (refine ImpE.go hE ?_; clear hE)) | ((with_reducible refine i_condT ?_ ?_); (focus (simp only [go_sem, *]; done))) | ((with_reducible refine i_condF ?_ ?_); (focus (simp only [go_sem, *]; done))) | ((with_reducible first | refine resOk_g (fun h => ?_) (fun h => ?_) | refine i_cond (by simp only [go_sem, *] <;> rfl) (fun h => ?_) (fun h => ?_)) <;> (try simp only [Bool.not_eq_eq_eq_not, Bool.not_true, Bool.not_false, reduceCtorEq] at h) <;> (try have h' := of_decide_eq_true h) <;> (try (have hz : (_ : Int) = (_ : Int) := h'; clear hz h')) <;> (try have h' := of_decide_eq_false h) <;> (try have h' := inB_t h) <;> (try (exfalso; omega))) | (((with_reducible first | refine hcall_of_callOk 40 true (hst) ?_ ?_ ?_ ?_ ?_); iterate 4 (focus (simp (disch := omega) only [go_sem, hq, hdc, natLe_ok]; done))); simp only [go_sem, hq, hdc]; refine aL_run ?_)) <;> (try simp (disch := omega) only [go_sem, hq, hdc, *])))
        all_goals (try simp (disch := omega) only [EndK, go_sem, hq, hdc, natLe_ok, *])
        all_goals refine ⟨⟨c + 1, by omega⟩, ?_, by simp only; omega⟩
        all_goals
          simp only [hM3]
          refine weak_names (names_at 2 0 (machineT M3) rfl (by with_reducible rfl) (by simp (disch := omega) only [go_sem])) ?_
          simp (disch := omega) only [go_sem]
          first | (refine weak_canon [1, 2, 4, 5, 6, 7, 8] [0, 1, 2, 13, 14, 15, 16, 17, 18, 19, 20, 21, 22] ?_ ?_ ?_ <;> (simp (disch := omega) only [go_sem, e2, Bool.true_or, Bool.false_or, machineR, machineT]; done)) | (refine weak_canon [1, 2, 4, 5, 6, 7, 8] [0, 1, 2, 13, 14, 15, 16, 17, 18, 19, 20, 21, 22] ?_ ?_ ?_ <;> (try (simp (disch := omega) only [go_sem, e2, Bool.true_or, Bool.false_or, machineR, machineT])) <;> trace_state)
    · have ec : c = m.cores.length := by omega
      subst ec
      have hdc : decide ((m.cores.length : Int) < ((passP M m.cores.length).1.cores.length : Int)) = false := decide_eq_false (by omega)
      cases hq : (passP M m.cores.length).2
      · have hend : (fairP m m.cores.length L.toNat).1 = (passP M m.cores.length).1 := by
          have h5 := fairP_stop (m := m) (n := m.cores.length) (r := k + 1) (by rw [hf1, hq]) (L.toNat - (k + 1))
          rw [show k + 1 + (L.toNat - (k + 1)) = L.toNat by omega] at h5
          rw [h5, hf1]
        clear hpc
        simp (disch := omega) only [go_sem]
        repeat' (first | (with_reducible first | refine i_seq ?_) | ((first | (with_reducible first | refine i_block ?_ | refine i_regionQ (fun Q' hQ => ?_) | (refine Imp.go hQ ?_; clear hQ) | (refine ImpE.go hE ?_; clear hE)) | ((with_reducible refine i_condT ?_ ?_); (focus (simp only [go_sem, *]; done))) | ((with_reducible refine i_condF ?_ ?_); (focus (simp only [go_sem, *]; done))) | ((with_reducible first | refine resOk_g (fun h => ?_) (fun h => ?_) | refine i_cond (by simp only [go_sem, *] <;> rfl) (fun h => ?_) (fun h => ?_)) <;> (try simp only [Bool.not_eq_eq_eq_not, Bool.not_true, Bool.not_false, reduceCtorEq] at h) <;> (try have h' := of_decide_eq_true h) <;> (try (have hz : (_ : Int) = (_ : Int) := h'; clear hz h')) <;> (try have h' := of_decide_eq_false h) <;> (try have h' := inB_t h) <;> (try (exfalso; omega)))) <;> (try simp (disch := omega) only [go_sem, hq, hend, hdc, *])))
        all_goals (try simp (disch := omega) only [EndK, go_sem, hq, hend, hdc, natLe_ok, *])
      · clear hpc
        simp (disch := omega) only [go_sem]
        repeat' (first | (with_reducible first | refine i_seq ?_) | ((first | (with_reducible first | refine i_block ?_ | refine i_regionQ (fun Q' hQ => ?_) | (refine Imp.go hQ ?_; clear hQ) | (refine ImpE.go hE ?_; clear hE)) | ((with_reducible refine i_condT ?_ ?_); (focus (simp only [go_sem, *]; done))) | ((with_reducible refine i_condF ?_ ?_); (focus (simp only [go_sem, *]; done))) | ((with_reducible first | refine resOk_g (fun h => ?_) (fun h => ?_) | refine i_cond (by simp only [go_sem, *] <;> rfl) (fun h => ?_) (fun h => ?_)) <;> (try simp only [Bool.not_eq_eq_eq_not, Bool.not_true, Bool.not_false, reduceCtorEq] at h) <;> (try have h' := of_decide_eq_true h) <;> (try (have hz : (_ : Int) = (_ : Int) := h'; clear hz h')) <;> (try have h' := of_decide_eq_false h) <;> (try have h' := inB_t h) <;> (try (exfalso; omega)))) <;> (try simp (disch := omega) only [go_sem, hq, hdc, *])))
        all_goals (try simp (disch := omega) only [EndK, go_sem, hq, hdc, natLe_ok, *])
        all_goals refine ⟨⟨k + 1, by omega, by rw [hf1, hq]⟩, ?_, by simp only; omega⟩
        all_goals
          first | (refine weak_canon [1, 2, 4, 5, 6] [0, 1, 2, 3, 4, 5, 6, 7, 8, 9, 10, 11, 12] ?_ ?_ ?_ <;> (simp (disch := omega) only [go_sem, hf1, machineR, machineT]; done)) | (refine weak_canon [1, 2, 4, 5, 6] [0, 1, 2, 3, 4, 5, 6, 7, 8, 9, 10, 11, 12] ?_ ?_ ?_ <;> (try (simp (disch := omega) only [go_sem, hf1, machineR, machineT])) <;> trace_state)
  · have hend : (fairP m m.cores.length L.toNat).1 = M := by
      rw [show L.toNat = k by omega, hM]
    clear hcf
    simp (disch := omega) only [go_sem]
    repeat' (first | (with_reducible first | refine i_seq ?_) | ((first | (with_reducible first | refine i_block ?_ | refine i_regionQ (fun Q' hQ => ?_) | (refine Imp.go hQ ?_; clear hQ) | (refine ImpE.go hE ?_; clear hE)) | ((with_reducible refine i_condT ?_ ?_); (focus (simp only [go_sem, *]; done))) | ((with_reducible refine i_condF ?_ ?_); (focus (simp only [go_sem, *]; done))) | ((with_reducible first | refine resOk_g (fun h => ?_) (fun h => ?_) | refine i_cond (by simp only [go_sem, *] <;> rfl) (fun h => ?_) (fun h => ?_)) <;> (try simp only [Bool.not_eq_eq_eq_not, Bool.not_true, Bool.not_false, reduceCtorEq] at h) <;> (try have h' := of_decide_eq_true h) <;> (try (have hz : (_ : Int) = (_ : Int) := h'; clear hz h')) <;> (try have h' := of_decide_eq_false h) <;> (try have h' := inB_t h) <;> (try (exfalso; omega)))) <;> (try simp (disch := omega) only [go_sem, hend, *])))
    all_goals (try simp (disch := omega) only [EndK, go_sem, hend, natLe_ok, *])
end Go.Proofs.YtapgpllnledhmaaGreat.E
