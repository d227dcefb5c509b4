/- A part of what stands under the laws of this seat: an abstract evaluator that is proved sound, and contracts of functions by it. No condition beside those that stand in each statement. -/
import Derived.Test.YtapgpllnledhmaaGreatK22
import Derived.Test.YtapgpllnledhmaaGreatE2
set_option linter.unusedVariables false
set_option linter.unusedSimpArgs false
set_option maxRecDepth 100000
set_option maxHeartbeats 4000000
namespace Go.Proofs.YtapgpllnledhmaaGreat.E
/-! ### Rounds, plainly -/
def passP (m : Machine) : Nat → Machine × Bool
  | 0 => (m, false)
  | c + 1 => ((stepM (passP m c).1 (c : Int)).1, (passP m c).2 || (stepM (passP m c).1 (c : Int)).2)
def fairP (m : Machine) (n : Nat) : Nat → Machine × Bool
  | 0 => (m, true)
  | r + 1 => if (fairP m n r).2 = true then passP (fairP m n r).1 n else fairP m n r
theorem fairP_stop {m : Machine} {n r : Nat} (h : (fairP m n r).2 = false) : ∀ d, fairP m n (r + d) = fairP m n r := by
  intro d
  induction d with
  | zero => rfl
  | succ d ih =>
    show (if (fairP m n (r + d)).2 = true then _ else fairP m n (r + d)) = _
    rw [if_neg (by rw [ih, h]; simp), ih]
theorem passP_cores (m : Machine) : ∀ c, (passP m c).1.cores.length = m.cores.length
  | 0 => rfl
  | c + 1 => (stepM_cores _ _).trans (passP_cores m c)
theorem fairP_cores (m : Machine) (n : Nat) : ∀ r, (fairP m n r).1.cores.length = m.cores.length
  | 0 => rfl
  | r + 1 => by
    show (if (fairP m n r).2 = true then passP (fairP m n r).1 n else fairP m n r).1.cores.length = _
    split
    · exact (passP_cores _ _).trans (fairP_cores m n r)
    · exact fairP_cores m n r
theorem passP_bd {b : Nat} {m : Machine} (hb : 8 ≤ b) (h : bdM b m) : ∀ c, bdM (b + 3 * c) (passP m c).1
  | 0 => h
  | c + 1 => by
    have ih := passP_bd hb h c
    exact bdM_le (by omega) (stepM_bd (i := (c : Int)) (b := b + 3 * c) (by omega) ih)
theorem fairP_bd {b : Nat} {m : Machine} {n : Nat} (hb : 8 ≤ b) (h : bdM b m) : ∀ r, bdM (b + 3 * (r * n)) (fairP m n r).1
  | 0 => bdM_le (by omega) h
  | r + 1 => by
    have ih := fairP_bd (n := n) hb h r
    have e : (r + 1) * n = r * n + n := by rw [Nat.add_mul, Nat.one_mul]
    show bdM _ (if (fairP m n r).2 = true then passP (fairP m n r).1 n else fairP m n r).1
    split
    · exact bdM_le (by omega) (passP_bd (by omega) ih n)
    · exact bdM_le (by omega) ih
def limR (rounds : Int) : Nat := (if (2000 : Int) < rounds then 2000 else rounds).toNat
def fair (m : Machine) (rounds : Int) : Machine := (fairP m m.cores.length (limR rounds)).1
theorem iFair_ok (m : Machine) (rounds : Int) (b : Nat) (hb : 8 ≤ b) (hb2 : b ≤ 1048576) (hm : bdM b m) :
    CallOk Tryz.prog 8 [.agg (machineR m), .one (iV rounds)] (.s (.agg (machineT (fair m rounds)))) [none, none] := by
  have hmm : mdMachine m := bdM_md (by omega) hm
  have hcs : m.cores.length ≤ 1048576 := hm.2.2.1.1
  obtain ⟨L, hL⟩ : ∃ L : Int, (if (2000 : Int) < rounds then 2000 else rounds) = L := ⟨_, rfl⟩
  have hL0 : L ≤ 2000 := by rw [← hL]; split <;> omega
  have hfair : fair m rounds = (fairP m m.cores.length L.toNat).1 := by rw [← hL]; rfl
  rw [hfair]
  clear hfair
  have hf0 : (fairP m m.cores.length 0).1 = m := rfl
  refine callOk_of_hcall 40 (hcall_of_body Tryz.func8 rfl (by kernel_rfl) ?_)
  simp (disch := omega) only [go_sem, Tryz.ntmps8, Tryz.results8]
  repeat' (first | (with_reducible first | refine i_seq ?_) | ((first | (with_reducible first | refine i_block ?_ | refine i_regionQ (fun Q' hQ => ?_) | (refine Imp.go hQ ?_; clear hQ) | (refine ImpE.go hE ?_; clear hE)) | ((with_reducible refine i_condT ?_ ?_); (focus (simp only [go_sem, *]; done))) | ((with_reducible refine i_condF ?_ ?_); (focus (simp only [go_sem, *]; done))) | ((with_reducible first | refine resOk_g (fun h => ?_) (fun h => ?_) | refine i_cond (by simp only [go_sem, *] <;> rfl) (fun h => ?_) (fun h => ?_)) <;> (try simp only [Bool.not_eq_eq_eq_not, Bool.not_true, Bool.not_false, reduceCtorEq] at h) <;> (try have h' := of_decide_eq_true h) <;> (try (have hz : (_ : Int) = (_ : Int) := h'; clear hz h')) <;> (try have h' := of_decide_eq_false h) <;> (try have h' := inB_t h) <;> (try (exfalso; omega))) | (((with_reducible first | refine hcall_of_callOk 40 true (copyMachine_ok m hmm) ?_ ?_ ?_ ?_ ?_); iterate 4 (focus (simp (disch := omega) only [go_sem, natLe_ok]; done))); simp only [go_sem]; refine aL_run ?_)) <;> (try simp (disch := omega) only [go_sem, *])))
  all_goals (try simp (disch := omega) only [EndK, go_sem, natLe_ok, *])
  refine i_loop (α := {k : Nat // k ≤ L.toNat ∧ (fairP m m.cores.length k).2 = true}) (fun k => ⟨mkEnv 40 [(1, .one (iV rounds)), (2, .one (.ptr 0 0 0)), (4, .one (.ptr 1 0 0)), (5, .one (.ptr 2 0 0)), (6, .one (iV k.1))], [.live 12 [machineR m], .live 12 [[.v (.slice none 0 0), .v (.slice none 0 0), .v (.int .i64 0), .v (.slice none 0 0), .v (.slice none 0 0), .v (.slice none 0 0), .v (.slice none 0 0), .v (.slice none 0 0), .v (.slice none 0 0), .v (.slice none 0 0), .v (.slice none 0 0), .v (.bool false)]], .live 12 [[.ref 3 0 (fairP m m.cores.length k.1).1.image.text.length, .ref 4 0 (fairP m m.cores.length k.1).1.image.starts.length, iV (fairP m m.cores.length k.1).1.image.size, .ref 5 0 (fairP m m.cores.length k.1).1.mem.length, .ref 6 0 (fairP m m.cores.length k.1).1.cores.length, .ref 7 0 (fairP m m.cores.length k.1).1.kernel.gates.length, .ref 8 0 (fairP m m.cores.length k.1).1.kernel.ready.length, .ref 9 0 (fairP m m.cores.length k.1).1.kernel.saved.length, .ref 10 0 (fairP m m.cores.length k.1).1.kernel.over.length, .ref 11 0 (fairP m m.cores.length k.1).1.input.length, .ref 12 0 (fairP m m.cores.length k.1).1.events.length, bV (fairP m m.cores.length k.1).1.stopped]], .live 1 (intsT (fairP m m.cores.length k.1).1.image.text), .live 1 (intsT (fairP m m.cores.length k.1).1.image.starts), .live 1 (intsT (fairP m m.cores.length k.1).1.mem), .live 3 (coresT (fairP m m.cores.length k.1).1.cores), .live 3 (gatesT (fairP m m.cores.length k.1).1.kernel.gates), .live 1 (intsT (fairP m m.cores.length k.1).1.kernel.ready), .live 3 (coresT (fairP m m.cores.length k.1).1.kernel.saved), .live 1 (boolsT (fairP m m.cores.length k.1).1.kernel.over), .live 1 (intsT (fairP m m.cores.length k.1).1.input), .live 3 (eventsT (fairP m m.cores.length k.1).1.events)]⟩) (fun k => L.toNat - k.1) ⟨0, by omega, rfl⟩ ?_ ?_
  ·
    first | (refine weak_canon [1, 2, 4, 5, 6] [0, 1, 12, 2, 3, 4, 5, 6, 7, 8, 9, 10, 11] ?_ ?_ ?_ <;> (simp (disch := omega) only [go_sem, hf0, machineR, machineT]; done)) | (refine weak_canon [1, 2, 4, 5, 6] [0, 1, 12, 2, 3, 4, 5, 6, 7, 8, 9, 10, 11] ?_ ?_ ?_ <;> (try (simp (disch := omega) only [go_sem, hf0, machineR, machineT])) <;> trace_state)
  rintro ⟨k, hk, hgo⟩
  have hkn : k * m.cores.length ≤ 2000 * 1048576 := Nat.mul_le_mul (by omega) hcs
  have hbf := fairP_bd (n := m.cores.length) hb hm k
  obtain ⟨M, hM⟩ : ∃ M, (fairP m m.cores.length k).1 = M := ⟨_, rfl⟩
  rw [hM] at hbf
  simp only [hM]
  by_cases hkl : (k : Int) < L
  · have hf1 : fairP m m.cores.length (k + 1) = passP M m.cores.length := by
      show (if (fairP m m.cores.length k).2 = true then _ else _) = _
      rw [if_pos hgo, hM]
    simp (disch := omega) only [go_sem]
    repeat' (first | (with_reducible first | refine i_seq ?_) | ((first | (with_reducible first | refine i_block ?_ | refine i_regionQ (fun Q' hQ => ?_) | (refine Imp.go hQ ?_; clear hQ) | (refine ImpE.go hE ?_; clear hE)) | ((with_reducible refine i_condT ?_ ?_); (focus (simp only [go_sem, *]; done))) | ((with_reducible refine i_condF ?_ ?_); (focus (simp only [go_sem, *]; done))) | ((with_reducible first | refine resOk_g (fun h => ?_) (fun h => ?_) | refine i_cond (by simp only [go_sem, *] <;> rfl) (fun h => ?_) (fun h => ?_)) <;> (try simp only [Bool.not_eq_eq_eq_not, Bool.not_true, Bool.not_false, reduceCtorEq] at h) <;> (try have h' := of_decide_eq_true h) <;> (try (have hz : (_ : Int) = (_ : Int) := h'; clear hz h')) <;> (try have h' := of_decide_eq_false h) <;> (try have h' := inB_t h) <;> (try (exfalso; omega)))) <;> (try simp (disch := omega) only [go_sem, hL, *])))
    all_goals (try simp (disch := omega) only [EndK, go_sem, hL, natLe_ok, *])
    refine i_hide fun Q hE => ?_
    refine i_loop (α := {c : Nat // c ≤ m.cores.length}) (fun c => ⟨mkEnv 40 [(1, .one (iV rounds)), (2, .one (.ptr 0 0 0)), (4, .one (.ptr 1 0 0)), (5, .one (.ptr 2 0 0)), (6, .one (iV k)), (7, .one (bV (passP M c.1).2)), (21, .one (iV m.cores.length)), (22, .one (iV c.1))], [.live 12 [machineR m], .live 12 [[.v (.slice none 0 0), .v (.slice none 0 0), .v (.int .i64 0), .v (.slice none 0 0), .v (.slice none 0 0), .v (.slice none 0 0), .v (.slice none 0 0), .v (.slice none 0 0), .v (.slice none 0 0), .v (.slice none 0 0), .v (.slice none 0 0), .v (.bool false)]], .live 12 [[.ref 3 0 (passP M c.1).1.image.text.length, .ref 4 0 (passP M c.1).1.image.starts.length, iV (passP M c.1).1.image.size, .ref 5 0 (passP M c.1).1.mem.length, .ref 6 0 (passP M c.1).1.cores.length, .ref 7 0 (passP M c.1).1.kernel.gates.length, .ref 8 0 (passP M c.1).1.kernel.ready.length, .ref 9 0 (passP M c.1).1.kernel.saved.length, .ref 10 0 (passP M c.1).1.kernel.over.length, .ref 11 0 (passP M c.1).1.input.length, .ref 12 0 (passP M c.1).1.events.length, bV (passP M c.1).1.stopped]], .live 1 (intsT (passP M c.1).1.image.text), .live 1 (intsT (passP M c.1).1.image.starts), .live 1 (intsT (passP M c.1).1.mem), .live 3 (coresT (passP M c.1).1.cores), .live 3 (gatesT (passP M c.1).1.kernel.gates), .live 1 (intsT (passP M c.1).1.kernel.ready), .live 3 (coresT (passP M c.1).1.kernel.saved), .live 1 (boolsT (passP M c.1).1.kernel.over), .live 1 (intsT (passP M c.1).1.input), .live 3 (eventsT (passP M c.1).1.events)]⟩) (fun c => m.cores.length - c.1) ⟨0, by omega⟩ ?_ ?_
    ·
      first | (refine weak_canon [1, 2, 4, 5, 6, 7, 21, 22] [0, 1, 2, 3, 4, 5, 6, 7, 8, 9, 10, 11, 12] ?_ ?_ ?_ <;> (simp (disch := omega) only [go_sem, passP, machineR, machineT]; done)) | (refine weak_canon [1, 2, 4, 5, 6, 7, 21, 22] [0, 1, 2, 3, 4, 5, 6, 7, 8, 9, 10, 11, 12] ?_ ?_ ?_ <;> (try (simp (disch := omega) only [go_sem, passP, machineR, machineT])) <;> trace_state)
    rintro ⟨c, hc⟩
    by_cases hcl : c < m.cores.length
    · have hbp := passP_bd (by omega) hbf c
      have e1 : (stepM (passP M c).1 (c : Int)).1 = (passP M (c + 1)).1 := rfl
      have e2 : (passP M (c + 1)).2 = ((passP M c).2 || (stepM (passP M c).1 (c : Int)).2) := rfl
      have hst := iStep_ok (passP M c).1 (c : Int) _ (by omega) (by omega) hbp
      rw [e1] at hst
      clear e1
      obtain ⟨M2, hM2⟩ : ∃ M2, (passP M c).1 = M2 := ⟨_, rfl⟩
      rw [hM2] at hst e2
      simp only [hM2]
      cases hq : (passP M c).2
      all_goals
        rw [hq] at e2
        simp (disch := omega) only [go_sem]
        repeat' (first | (with_reducible first | refine i_seq ?_) | ((first | (with_reducible first | refine i_block ?_ | refine i_regionQ (fun Q' hQ => ?_) | (refine Imp.go hQ ?_; clear hQ) | (refine ImpE.go hE ?_; clear hE)) | ((with_reducible refine i_condT ?_ ?_); (focus (simp only [go_sem, *]; done))) | ((with_reducible refine i_condF ?_ ?_); (focus (simp only [go_sem, *]; done))) | ((with_reducible first | refine resOk_g (fun h => ?_) (fun h => ?_) | refine i_cond (by simp only [go_sem, *] <;> rfl) (fun h => ?_) (fun h => ?_)) <;> (try simp only [Bool.not_eq_eq_eq_not, Bool.not_true, Bool.not_false, reduceCtorEq] at h) <;> (try have h' := of_decide_eq_true h) <;> (try (have hz : (_ : Int) = (_ : Int) := h'; clear hz h')) <;> (try have h' := of_decide_eq_false h) <;> (try have h' := inB_t h) <;> (try (exfalso; omega))) | (((with_reducible first | refine hcall_of_callOk 40 true (hst) ?_ ?_ ?_ ?_ ?_); iterate 4 (focus (simp (disch := omega) only [go_sem, hq, natLe_ok]; done))); simp only [go_sem, hq]; refine aL_run ?_)) <;> (try simp (disch := omega) only [go_sem, hq, *])))
        all_goals (try simp (disch := omega) only [EndK, go_sem, hq, natLe_ok, *])
        all_goals refine ⟨⟨c + 1, by omega⟩, ?_, by simp only; omega⟩
        all_goals
          first | (refine weak_canon [1, 2, 4, 5, 6, 7, 21, 22] [0, 1, 2, 13, 14, 15, 16, 17, 18, 19, 20, 21, 22] ?_ ?_ ?_ <;> (simp (disch := omega) only [go_sem, e2, Bool.true_or, Bool.false_or, machineR, machineT]; done)) | (refine weak_canon [1, 2, 4, 5, 6, 7, 21, 22] [0, 1, 2, 13, 14, 15, 16, 17, 18, 19, 20, 21, 22] ?_ ?_ ?_ <;> (try (simp (disch := omega) only [go_sem, e2, Bool.true_or, Bool.false_or, machineR, machineT])) <;> trace_state)
    · have ec : c = m.cores.length := by omega
      subst ec
      cases hq : (passP M m.cores.length).2
      · have hend : (fairP m m.cores.length L.toNat).1 = (passP M m.cores.length).1 := by
          have h5 := fairP_stop (m := m) (n := m.cores.length) (r := k + 1) (by rw [hf1, hq]) (L.toNat - (k + 1))
          rw [show k + 1 + (L.toNat - (k + 1)) = L.toNat by omega] at h5
          rw [h5, hf1]
        simp (disch := omega) only [go_sem]
        repeat' (first | (with_reducible first | refine i_seq ?_) | ((first | (with_reducible first | refine i_block ?_ | refine i_regionQ (fun Q' hQ => ?_) | (refine Imp.go hQ ?_; clear hQ) | (refine ImpE.go hE ?_; clear hE)) | ((with_reducible refine i_condT ?_ ?_); (focus (simp only [go_sem, *]; done))) | ((with_reducible refine i_condF ?_ ?_); (focus (simp only [go_sem, *]; done))) | ((with_reducible first | refine resOk_g (fun h => ?_) (fun h => ?_) | refine i_cond (by simp only [go_sem, *] <;> rfl) (fun h => ?_) (fun h => ?_)) <;> (try simp only [Bool.not_eq_eq_eq_not, Bool.not_true, Bool.not_false, reduceCtorEq] at h) <;> (try have h' := of_decide_eq_true h) <;> (try (have hz : (_ : Int) = (_ : Int) := h'; clear hz h')) <;> (try have h' := of_decide_eq_false h) <;> (try have h' := inB_t h) <;> (try (exfalso; omega)))) <;> (try simp (disch := omega) only [go_sem, hq, hend, *])))
        all_goals (try simp (disch := omega) only [EndK, go_sem, hq, hend, natLe_ok, *])
      · simp (disch := omega) only [go_sem]
        repeat' (first | (with_reducible first | refine i_seq ?_) | ((first | (with_reducible first | refine i_block ?_ | refine i_regionQ (fun Q' hQ => ?_) | (refine Imp.go hQ ?_; clear hQ) | (refine ImpE.go hE ?_; clear hE)) | ((with_reducible refine i_condT ?_ ?_); (focus (simp only [go_sem, *]; done))) | ((with_reducible refine i_condF ?_ ?_); (focus (simp only [go_sem, *]; done))) | ((with_reducible first | refine resOk_g (fun h => ?_) (fun h => ?_) | refine i_cond (by simp only [go_sem, *] <;> rfl) (fun h => ?_) (fun h => ?_)) <;> (try simp only [Bool.not_eq_eq_eq_not, Bool.not_true, Bool.not_false, reduceCtorEq] at h) <;> (try have h' := of_decide_eq_true h) <;> (try (have hz : (_ : Int) = (_ : Int) := h'; clear hz h')) <;> (try have h' := of_decide_eq_false h) <;> (try have h' := inB_t h) <;> (try (exfalso; omega)))) <;> (try simp (disch := omega) only [go_sem, hq, *])))
        all_goals (try simp (disch := omega) only [EndK, go_sem, hq, natLe_ok, *])
        all_goals refine ⟨⟨k + 1, by omega, by rw [hf1, hq]⟩, ?_, by simp only; omega⟩
        all_goals
          first | (refine weak_canon [1, 2, 4, 5, 6] [0, 1, 2, 3, 4, 5, 6, 7, 8, 9, 10, 11, 12] ?_ ?_ ?_ <;> (simp (disch := omega) only [go_sem, hf1, machineR, machineT]; done)) | (refine weak_canon [1, 2, 4, 5, 6] [0, 1, 2, 3, 4, 5, 6, 7, 8, 9, 10, 11, 12] ?_ ?_ ?_ <;> (try (simp (disch := omega) only [go_sem, hf1, machineR, machineT])) <;> trace_state)
  · have hend : (fairP m m.cores.length L.toNat).1 = M := by
      rw [show L.toNat = k by omega, hM]
    simp (disch := omega) only [go_sem]
    repeat' (first | (with_reducible first | refine i_seq ?_) | ((first | (with_reducible first | refine i_block ?_ | refine i_regionQ (fun Q' hQ => ?_) | (refine Imp.go hQ ?_; clear hQ) | (refine ImpE.go hE ?_; clear hE)) | ((with_reducible refine i_condT ?_ ?_); (focus (simp only [go_sem, *]; done))) | ((with_reducible refine i_condF ?_ ?_); (focus (simp only [go_sem, *]; done))) | ((with_reducible first | refine resOk_g (fun h => ?_) (fun h => ?_) | refine i_cond (by simp only [go_sem, *] <;> rfl) (fun h => ?_) (fun h => ?_)) <;> (try simp only [Bool.not_eq_eq_eq_not, Bool.not_true, Bool.not_false, reduceCtorEq] at h) <;> (try have h' := of_decide_eq_true h) <;> (try (have hz : (_ : Int) = (_ : Int) := h'; clear hz h')) <;> (try have h' := of_decide_eq_false h) <;> (try have h' := inB_t h) <;> (try (exfalso; omega)))) <;> (try simp (disch := omega) only [go_sem, hL, hend, *])))
    all_goals (try simp (disch := omega) only [EndK, go_sem, hL, hend, natLe_ok, *])
end Go.Proofs.YtapgpllnledhmaaGreat.E
