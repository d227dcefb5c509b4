import Derived.Test.YtgeoipplkjgnfaaDoorD9
set_option linter.unusedVariables false
set_option linter.unusedSimpArgs false
set_option maxRecDepth 100000
set_option maxHeartbeats 4000000
namespace Go.Proofs.YtgeoipplkjgnfaaDoor.E
/-- A fact set aside. -/
structure Hid (p : Prop) : Prop where
  out : p
theorem sIdle_ok (m : Machine) (hm : smMachine m) : CallOk Tryd.prog 48 [.agg (machineR m)] (.s (.one (bV (idle m)))) [none] := by
  have hs := hm.2.2.1.1
  clear hm
  refine callOk_of_hcall 40 (hcall_of_body Tryd.func48 rfl (by kernel_rfl) ?_)
  simp (disch := omega) only [go_sem, Tryd.ntmps48, Tryd.results48]
  repeat' (first
    | (with_reducible refine i_seq ?_)
    | ((with_reducible refine i_block ?_); (try simp (disch := omega) only [go_sem, *]))
    | ((with_reducible refine i_regionQ (fun Q' hQ => ?_)); (try simp (disch := omega) only [go_sem, *]))
    | ((with_reducible refine Imp.go hQ ?_); clear hQ; (try simp (disch := omega) only [go_sem, *]))
    | ((with_reducible refine resOk_g (fun h => ?_) (fun h => ?_)) <;> (try simp only [Bool.not_eq_eq_eq_not, Bool.not_true, Bool.not_false, reduceCtorEq] at h) <;> (try have h' := of_decide_eq_true h) <;> (try (have hz : (_ : Int) = (_ : Int) := h'; clear hz h')) <;> (try have h' := of_decide_eq_false h) <;> (try have h' := inB_t h) <;> (try (exfalso; omega)) <;> (try simp (disch := omega) only [go_sem, *]))
    | (((with_reducible refine i_condT ?_ ?_); (focus (simp only [go_sem, *]; done))) <;> (try simp (disch := omega) only [go_sem, *]))
    | (((with_reducible refine i_condF ?_ ?_); (focus (simp only [go_sem, *]; done))) <;> (try simp (disch := omega) only [go_sem, *]))
    | ((with_reducible refine i_cond (by simp only [go_sem, *] <;> rfl) (fun h => ?_) (fun h => ?_)) <;> (try simp only [Bool.not_eq_eq_eq_not, Bool.not_true, Bool.not_false, reduceCtorEq] at h) <;> (try have h' := of_decide_eq_true h) <;> (try (have hz : (_ : Int) = (_ : Int) := h'; clear hz h')) <;> (try have h' := of_decide_eq_false h) <;> (try have h' := inB_t h) <;> (try (exfalso; omega)) <;> (try simp (disch := omega) only [go_sem, *])))
  all_goals (try simp (disch := omega) only [EndK, go_sem, natLe_ok, *])
  refine i_loop (α := {k : Nat // k ≤ m.cores.length ∧ (m.stopped = false → (m.cores.take k).any busy = false)}) (fun k => ⟨mkEnv 32 [(1, .one (.ptr 0 0 0)), (3, .one (iV k.1))], [.live 12 [machineR m]]⟩) (fun k => m.cores.length - k.1) ⟨0, by omega, by simp⟩ ?_ ?_
  · (refine weak_canon [1, 3] [0] ?_ ?_ ?_ <;> (simp (disch := omega) only [go_sem]; done))
  rintro ⟨k, hk, hp0⟩
  have hp := Hid.mk hp0
  simp (disch := omega) only [go_sem]
  clear hp0
  by_cases hkl : k < m.cores.length
  · have ht := Hid.mk (busy_take hkl)
    cases hb : busy (m.cores.getD k coreZ)
    · have hd : decide (0 ≤ (m.cores.getD k coreZ).process) = false := hb
      repeat' (first
        | (with_reducible refine i_seq ?_)
        | ((with_reducible refine i_block ?_); (try simp (disch := omega) only [go_sem, *]))
        | ((with_reducible refine i_regionQ (fun Q' hQ => ?_)); (try simp (disch := omega) only [go_sem, *]))
        | ((with_reducible refine Imp.go hQ ?_); clear hQ; (try simp (disch := omega) only [go_sem, *]))
        | ((with_reducible refine resOk_g (fun h => ?_) (fun h => ?_)) <;> (try simp only [Bool.not_eq_eq_eq_not, Bool.not_true, Bool.not_false, reduceCtorEq] at h) <;> (try have h' := of_decide_eq_true h) <;> (try (have hz : (_ : Int) = (_ : Int) := h'; clear hz h')) <;> (try have h' := of_decide_eq_false h) <;> (try have h' := inB_t h) <;> (try (exfalso; omega)) <;> (try simp (disch := omega) only [go_sem, *]))
        | (((with_reducible refine i_condT ?_ ?_); (focus (simp only [go_sem, *]; done))) <;> (try simp (disch := omega) only [go_sem, *]))
        | (((with_reducible refine i_condF ?_ ?_); (focus (simp only [go_sem, *]; done))) <;> (try simp (disch := omega) only [go_sem, *]))
        | ((with_reducible refine i_cond (by simp only [go_sem, *] <;> rfl) (fun h => ?_) (fun h => ?_)) <;> (try simp only [Bool.not_eq_eq_eq_not, Bool.not_true, Bool.not_false, reduceCtorEq] at h) <;> (try have h' := of_decide_eq_true h) <;> (try (have hz : (_ : Int) = (_ : Int) := h'; clear hz h')) <;> (try have h' := of_decide_eq_false h) <;> (try have h' := inB_t h) <;> (try (exfalso; omega)) <;> (try simp (disch := omega) only [go_sem, *])))
      all_goals (try simp (disch := omega) only [EndK, go_sem, natLe_ok, *])
      all_goals (refine ⟨⟨k + 1, by omega, fun h0 => by rw [ht.out, hp.out h0, hb]; rfl⟩, ?_, by simp only; omega⟩; (refine weak_canon [1, 3] [0] ?_ ?_ ?_ <;> (simp (disch := omega) only [go_sem]; done)))
    · have hd : decide (0 ≤ (m.cores.getD k coreZ).process) = true := hb
      have hh := busy_of hkl hb
      cases hst : m.stopped
      ·
        repeat' (first
          | (with_reducible refine i_seq ?_)
          | ((with_reducible refine i_block ?_); (try simp (disch := omega) only [go_sem, *]))
          | ((with_reducible refine i_regionQ (fun Q' hQ => ?_)); (try simp (disch := omega) only [go_sem, *]))
          | ((with_reducible refine Imp.go hQ ?_); clear hQ; (try simp (disch := omega) only [go_sem, *]))
          | ((with_reducible refine resOk_g (fun h => ?_) (fun h => ?_)) <;> (try simp only [Bool.not_eq_eq_eq_not, Bool.not_true, Bool.not_false, reduceCtorEq] at h) <;> (try have h' := of_decide_eq_true h) <;> (try (have hz : (_ : Int) = (_ : Int) := h'; clear hz h')) <;> (try have h' := of_decide_eq_false h) <;> (try have h' := inB_t h) <;> (try (exfalso; omega)) <;> (try simp (disch := omega) only [go_sem, *]))
          | (((with_reducible refine i_condT ?_ ?_); (focus (simp only [go_sem, *]; done))) <;> (try simp (disch := omega) only [go_sem, *]))
          | (((with_reducible refine i_condF ?_ ?_); (focus (simp only [go_sem, *]; done))) <;> (try simp (disch := omega) only [go_sem, *]))
          | ((with_reducible refine i_cond (by simp only [go_sem, *] <;> rfl) (fun h => ?_) (fun h => ?_)) <;> (try simp only [Bool.not_eq_eq_eq_not, Bool.not_true, Bool.not_false, reduceCtorEq] at h) <;> (try have h' := of_decide_eq_true h) <;> (try (have hz : (_ : Int) = (_ : Int) := h'; clear hz h')) <;> (try have h' := of_decide_eq_false h) <;> (try have h' := inB_t h) <;> (try (exfalso; omega)) <;> (try simp (disch := omega) only [go_sem, *])))
        all_goals (try simp (disch := omega) only [EndK, go_sem, natLe_ok, *])
        all_goals simp [idle, hst, hh]
      ·
        repeat' (first
          | (with_reducible refine i_seq ?_)
          | ((with_reducible refine i_block ?_); (try simp (disch := omega) only [go_sem, *]))
          | ((with_reducible refine i_regionQ (fun Q' hQ => ?_)); (try simp (disch := omega) only [go_sem, *]))
          | ((with_reducible refine Imp.go hQ ?_); clear hQ; (try simp (disch := omega) only [go_sem, *]))
          | ((with_reducible refine resOk_g (fun h => ?_) (fun h => ?_)) <;> (try simp only [Bool.not_eq_eq_eq_not, Bool.not_true, Bool.not_false, reduceCtorEq] at h) <;> (try have h' := of_decide_eq_true h) <;> (try (have hz : (_ : Int) = (_ : Int) := h'; clear hz h')) <;> (try have h' := of_decide_eq_false h) <;> (try have h' := inB_t h) <;> (try (exfalso; omega)) <;> (try simp (disch := omega) only [go_sem, *]))
          | (((with_reducible refine i_condT ?_ ?_); (focus (simp only [go_sem, *]; done))) <;> (try simp (disch := omega) only [go_sem, *]))
          | (((with_reducible refine i_condF ?_ ?_); (focus (simp only [go_sem, *]; done))) <;> (try simp (disch := omega) only [go_sem, *]))
          | ((with_reducible refine i_cond (by simp only [go_sem, *] <;> rfl) (fun h => ?_) (fun h => ?_)) <;> (try simp only [Bool.not_eq_eq_eq_not, Bool.not_true, Bool.not_false, reduceCtorEq] at h) <;> (try have h' := of_decide_eq_true h) <;> (try (have hz : (_ : Int) = (_ : Int) := h'; clear hz h')) <;> (try have h' := of_decide_eq_false h) <;> (try have h' := inB_t h) <;> (try (exfalso; omega)) <;> (try simp (disch := omega) only [go_sem, *])))
        all_goals (try simp (disch := omega) only [EndK, go_sem, natLe_ok, *])
        all_goals (refine ⟨⟨k + 1, by omega, fun h0 => by first | cases h0 | (rw [hst] at h0; cases h0)⟩, ?_, by simp only; omega⟩; (refine weak_canon [1, 3] [0] ?_ ?_ ?_ <;> (simp (disch := omega) only [go_sem, hst]; done)))
  · cases hst : m.stopped
    · have hx : m.cores.any busy = false := by rw [← hp.out hst, List.take_of_length_le (by omega)]
      cases h2 : ((m.kernel.ready.length : Int) == 0)
      ·
        repeat' (first
          | (with_reducible refine i_seq ?_)
          | ((with_reducible refine i_block ?_); (try simp (disch := omega) only [go_sem, *]))
          | ((with_reducible refine i_regionQ (fun Q' hQ => ?_)); (try simp (disch := omega) only [go_sem, *]))
          | ((with_reducible refine Imp.go hQ ?_); clear hQ; (try simp (disch := omega) only [go_sem, *]))
          | ((with_reducible refine resOk_g (fun h => ?_) (fun h => ?_)) <;> (try simp only [Bool.not_eq_eq_eq_not, Bool.not_true, Bool.not_false, reduceCtorEq] at h) <;> (try have h' := of_decide_eq_true h) <;> (try (have hz : (_ : Int) = (_ : Int) := h'; clear hz h')) <;> (try have h' := of_decide_eq_false h) <;> (try have h' := inB_t h) <;> (try (exfalso; omega)) <;> (try simp (disch := omega) only [go_sem, *]))
          | (((with_reducible refine i_condT ?_ ?_); (focus (simp only [go_sem, *]; done))) <;> (try simp (disch := omega) only [go_sem, *]))
          | (((with_reducible refine i_condF ?_ ?_); (focus (simp only [go_sem, *]; done))) <;> (try simp (disch := omega) only [go_sem, *]))
          | ((with_reducible refine i_cond (by simp only [go_sem, *] <;> rfl) (fun h => ?_) (fun h => ?_)) <;> (try simp only [Bool.not_eq_eq_eq_not, Bool.not_true, Bool.not_false, reduceCtorEq] at h) <;> (try have h' := of_decide_eq_true h) <;> (try (have hz : (_ : Int) = (_ : Int) := h'; clear hz h')) <;> (try have h' := of_decide_eq_false h) <;> (try have h' := inB_t h) <;> (try (exfalso; omega)) <;> (try simp (disch := omega) only [go_sem, *])))
        all_goals (try simp (disch := omega) only [EndK, go_sem, natLe_ok, *])
        all_goals simp only [idle, hst, h2, Bool.false_or, Bool.false_and]
      ·
        repeat' (first
          | (with_reducible refine i_seq ?_)
          | ((with_reducible refine i_block ?_); (try simp (disch := omega) only [go_sem, *]))
          | ((with_reducible refine i_regionQ (fun Q' hQ => ?_)); (try simp (disch := omega) only [go_sem, *]))
          | ((with_reducible refine Imp.go hQ ?_); clear hQ; (try simp (disch := omega) only [go_sem, *]))
          | ((with_reducible refine resOk_g (fun h => ?_) (fun h => ?_)) <;> (try simp only [Bool.not_eq_eq_eq_not, Bool.not_true, Bool.not_false, reduceCtorEq] at h) <;> (try have h' := of_decide_eq_true h) <;> (try (have hz : (_ : Int) = (_ : Int) := h'; clear hz h')) <;> (try have h' := of_decide_eq_false h) <;> (try have h' := inB_t h) <;> (try (exfalso; omega)) <;> (try simp (disch := omega) only [go_sem, *]))
          | (((with_reducible refine i_condT ?_ ?_); (focus (simp only [go_sem, *]; done))) <;> (try simp (disch := omega) only [go_sem, *]))
          | (((with_reducible refine i_condF ?_ ?_); (focus (simp only [go_sem, *]; done))) <;> (try simp (disch := omega) only [go_sem, *]))
          | ((with_reducible refine i_cond (by simp only [go_sem, *] <;> rfl) (fun h => ?_) (fun h => ?_)) <;> (try simp only [Bool.not_eq_eq_eq_not, Bool.not_true, Bool.not_false, reduceCtorEq] at h) <;> (try have h' := of_decide_eq_true h) <;> (try (have hz : (_ : Int) = (_ : Int) := h'; clear hz h')) <;> (try have h' := of_decide_eq_false h) <;> (try have h' := inB_t h) <;> (try (exfalso; omega)) <;> (try simp (disch := omega) only [go_sem, *])))
        all_goals (try simp (disch := omega) only [EndK, go_sem, natLe_ok, *])
        all_goals simp only [idle, hst, h2, hx, Bool.false_or, Bool.true_and, Bool.not_false]
    ·
      repeat' (first
        | (with_reducible refine i_seq ?_)
        | ((with_reducible refine i_block ?_); (try simp (disch := omega) only [go_sem, *]))
        | ((with_reducible refine i_regionQ (fun Q' hQ => ?_)); (try simp (disch := omega) only [go_sem, *]))
        | ((with_reducible refine Imp.go hQ ?_); clear hQ; (try simp (disch := omega) only [go_sem, *]))
        | ((with_reducible refine resOk_g (fun h => ?_) (fun h => ?_)) <;> (try simp only [Bool.not_eq_eq_eq_not, Bool.not_true, Bool.not_false, reduceCtorEq] at h) <;> (try have h' := of_decide_eq_true h) <;> (try (have hz : (_ : Int) = (_ : Int) := h'; clear hz h')) <;> (try have h' := of_decide_eq_false h) <;> (try have h' := inB_t h) <;> (try (exfalso; omega)) <;> (try simp (disch := omega) only [go_sem, *]))
        | (((with_reducible refine i_condT ?_ ?_); (focus (simp only [go_sem, *]; done))) <;> (try simp (disch := omega) only [go_sem, *]))
        | (((with_reducible refine i_condF ?_ ?_); (focus (simp only [go_sem, *]; done))) <;> (try simp (disch := omega) only [go_sem, *]))
        | ((with_reducible refine i_cond (by simp only [go_sem, *] <;> rfl) (fun h => ?_) (fun h => ?_)) <;> (try simp only [Bool.not_eq_eq_eq_not, Bool.not_true, Bool.not_false, reduceCtorEq] at h) <;> (try have h' := of_decide_eq_true h) <;> (try (have hz : (_ : Int) = (_ : Int) := h'; clear hz h')) <;> (try have h' := of_decide_eq_false h) <;> (try have h' := inB_t h) <;> (try (exfalso; omega)) <;> (try simp (disch := omega) only [go_sem, *])))
      all_goals (try simp (disch := omega) only [EndK, go_sem, natLe_ok, *])
      all_goals simp only [idle, hst, Bool.true_or]
def verdict (m : Machine) : Int := if m.stopped = true then 3 else if hasF m.kernel.over = false then 1 else if idle m = true then 2 else 0
theorem iVerdict_ok (m : Machine) (hm : smMachine m) : CallOk Tryd.prog 38 [.agg (machineR m)] (.s (.one (iV (verdict m)))) [none] := by
  have ho := hm.2.2.2.1.2.2.2
  have hm' := Hid.mk hm
  clear hm
  cases h1 : m.stopped
  ·
    refine callOk_of_hcall 40 (hcall_of_body Tryd.func38 rfl (by kernel_rfl) ?_)
    simp (disch := omega) only [go_sem, Tryd.ntmps38, Tryd.results38]
    repeat' (first
      | (with_reducible refine i_seq ?_)
      | ((with_reducible refine i_block ?_); (try simp (disch := omega) only [go_sem, verdict, h1, *]))
      | ((with_reducible refine i_regionQ (fun Q' hQ => ?_)); (try simp (disch := omega) only [go_sem, verdict, h1, *]))
      | ((with_reducible refine Imp.go hQ ?_); clear hQ; (try simp (disch := omega) only [go_sem, verdict, h1, *]))
      | ((with_reducible refine resOk_g (fun h => ?_) (fun h => ?_)) <;> (try simp only [Bool.not_eq_eq_eq_not, Bool.not_true, Bool.not_false, reduceCtorEq] at h) <;> (try have h' := of_decide_eq_true h) <;> (try (have hz : (_ : Int) = (_ : Int) := h'; clear hz h')) <;> (try have h' := of_decide_eq_false h) <;> (try have h' := inB_t h) <;> (try (exfalso; omega)) <;> (try simp (disch := omega) only [go_sem, verdict, h1, *]))
      | (((with_reducible refine i_condT ?_ ?_); (focus (simp only [go_sem, *]; done))) <;> (try simp (disch := omega) only [go_sem, verdict, h1, *]))
      | (((with_reducible refine i_condF ?_ ?_); (focus (simp only [go_sem, *]; done))) <;> (try simp (disch := omega) only [go_sem, verdict, h1, *]))
      | ((with_reducible refine i_cond (by simp only [go_sem, *] <;> rfl) (fun h => ?_) (fun h => ?_)) <;> (try simp only [Bool.not_eq_eq_eq_not, Bool.not_true, Bool.not_false, reduceCtorEq] at h) <;> (try have h' := of_decide_eq_true h) <;> (try (have hz : (_ : Int) = (_ : Int) := h'; clear hz h')) <;> (try have h' := of_decide_eq_false h) <;> (try have h' := inB_t h) <;> (try (exfalso; omega)) <;> (try simp (disch := omega) only [go_sem, verdict, h1, *]))
      | ((with_reducible refine hcall_of_callOk 40 true (iContainsB_ok m.kernel.over ho) ?_ ?_ ?_ ?_ ?_); (focus (simp (disch := omega) only [go_sem, verdict, h1, natLe_ok]; done)); (focus (simp (disch := omega) only [go_sem, verdict, h1, natLe_ok]; done)); (focus (simp (disch := omega) only [go_sem, verdict, h1, natLe_ok]; done)); (focus (simp (disch := omega) only [go_sem, verdict, h1, natLe_ok]; done)); simp only [go_sem, verdict, h1]; refine aL_run ?_; (try simp (disch := omega) only [go_sem, verdict, h1, *]))
      | ((with_reducible refine hcall_of_callOk 40 true (iIdle_ok m hm'.out) ?_ ?_ ?_ ?_ ?_); (focus (simp (disch := omega) only [go_sem, verdict, h1, natLe_ok]; done)); (focus (simp (disch := omega) only [go_sem, verdict, h1, natLe_ok]; done)); (focus (simp (disch := omega) only [go_sem, verdict, h1, natLe_ok]; done)); (focus (simp (disch := omega) only [go_sem, verdict, h1, natLe_ok]; done)); simp only [go_sem, verdict, h1]; refine aL_run ?_; (try simp (disch := omega) only [go_sem, verdict, h1, *])))
    all_goals (try simp (disch := omega) only [EndK, go_sem, verdict, h1, natLe_ok, *])
  ·
    refine callOk_of_hcall 40 (hcall_of_body Tryd.func38 rfl (by kernel_rfl) ?_)
    simp (disch := omega) only [go_sem, Tryd.ntmps38, Tryd.results38]
    repeat' (first
      | (with_reducible refine i_seq ?_)
      | ((with_reducible refine i_block ?_); (try simp (disch := omega) only [go_sem, verdict, h1, *]))
      | ((with_reducible refine i_regionQ (fun Q' hQ => ?_)); (try simp (disch := omega) only [go_sem, verdict, h1, *]))
      | ((with_reducible refine Imp.go hQ ?_); clear hQ; (try simp (disch := omega) only [go_sem, verdict, h1, *]))
      | ((with_reducible refine resOk_g (fun h => ?_) (fun h => ?_)) <;> (try simp only [Bool.not_eq_eq_eq_not, Bool.not_true, Bool.not_false, reduceCtorEq] at h) <;> (try have h' := of_decide_eq_true h) <;> (try (have hz : (_ : Int) = (_ : Int) := h'; clear hz h')) <;> (try have h' := of_decide_eq_false h) <;> (try have h' := inB_t h) <;> (try (exfalso; omega)) <;> (try simp (disch := omega) only [go_sem, verdict, h1, *]))
      | (((with_reducible refine i_condT ?_ ?_); (focus (simp only [go_sem, *]; done))) <;> (try simp (disch := omega) only [go_sem, verdict, h1, *]))
      | (((with_reducible refine i_condF ?_ ?_); (focus (simp only [go_sem, *]; done))) <;> (try simp (disch := omega) only [go_sem, verdict, h1, *]))
      | ((with_reducible refine i_cond (by simp only [go_sem, *] <;> rfl) (fun h => ?_) (fun h => ?_)) <;> (try simp only [Bool.not_eq_eq_eq_not, Bool.not_true, Bool.not_false, reduceCtorEq] at h) <;> (try have h' := of_decide_eq_true h) <;> (try (have hz : (_ : Int) = (_ : Int) := h'; clear hz h')) <;> (try have h' := of_decide_eq_false h) <;> (try have h' := inB_t h) <;> (try (exfalso; omega)) <;> (try simp (disch := omega) only [go_sem, verdict, h1, *])))
    all_goals (try simp (disch := omega) only [EndK, go_sem, verdict, h1, natLe_ok, *])
theorem hasF_nil : hasF [] = false := rfl
theorem sVerdict_ok (m : Machine) (hm : smMachine m) : CallOk Tryd.prog 33 [.agg (machineR m)] (.s (.one (iV (verdict m)))) [none] := by
  have ho := hm.2.2.2.1.2.2.2
  have hm' := Hid.mk hm
  clear hm
  cases h1 : m.stopped
  ·
    refine callOk_of_hcall 40 (hcall_of_body Tryd.func33 rfl (by kernel_rfl) ?_)
    simp (disch := omega) only [go_sem, Tryd.ntmps33, Tryd.results33]
    repeat' (first
      | (with_reducible refine i_seq ?_)
      | ((with_reducible refine i_block ?_); (try simp (disch := omega) only [go_sem, verdict, h1, *]))
      | ((with_reducible refine i_regionQ (fun Q' hQ => ?_)); (try simp (disch := omega) only [go_sem, verdict, h1, *]))
      | ((with_reducible refine Imp.go hQ ?_); clear hQ; (try simp (disch := omega) only [go_sem, verdict, h1, *]))
      | ((with_reducible refine resOk_g (fun h => ?_) (fun h => ?_)) <;> (try simp only [Bool.not_eq_eq_eq_not, Bool.not_true, Bool.not_false, reduceCtorEq] at h) <;> (try have h' := of_decide_eq_true h) <;> (try (have hz : (_ : Int) = (_ : Int) := h'; clear hz h')) <;> (try have h' := of_decide_eq_false h) <;> (try have h' := inB_t h) <;> (try (exfalso; omega)) <;> (try simp (disch := omega) only [go_sem, verdict, h1, *]))
      | (((with_reducible refine i_condT ?_ ?_); (focus (simp only [go_sem, *]; done))) <;> (try simp (disch := omega) only [go_sem, verdict, h1, *]))
      | (((with_reducible refine i_condF ?_ ?_); (focus (simp only [go_sem, *]; done))) <;> (try simp (disch := omega) only [go_sem, verdict, h1, *]))
      | ((with_reducible refine i_cond (by simp only [go_sem, *] <;> rfl) (fun h => ?_) (fun h => ?_)) <;> (try simp only [Bool.not_eq_eq_eq_not, Bool.not_true, Bool.not_false, reduceCtorEq] at h) <;> (try have h' := of_decide_eq_true h) <;> (try (have hz : (_ : Int) = (_ : Int) := h'; clear hz h')) <;> (try have h' := of_decide_eq_false h) <;> (try have h' := inB_t h) <;> (try (exfalso; omega)) <;> (try simp (disch := omega) only [go_sem, verdict, h1, *])))
    all_goals (try simp (disch := omega) only [EndK, go_sem, verdict, h1, natLe_ok, *])
    refine i_loop (α := {k : Nat // k ≤ m.kernel.over.length}) (fun k => ⟨mkEnv 27 [(1, .one (.ptr 0 0 0)), (3, .one (bV (!hasF (m.kernel.over.take k.1)))), (4, .one (iV k.1))], [.live 12 [machineR m]]⟩) (fun k => m.kernel.over.length - k.1) ⟨0, by omega⟩ ?_ ?_
    · (refine weak_canon [1, 3, 4] [0] ?_ ?_ ?_ <;> (simp (disch := omega) only [go_sem, hasF_nil, List.take_zero, h1, Bool.not_false]; done))
    rintro ⟨k, hk⟩
    simp (disch := omega) only [go_sem]
    by_cases hkl : k < m.kernel.over.length
    · have ht := hasF_take hkl
      generalize hq : hasF (m.kernel.over.take k) = q at *
      generalize hv : m.kernel.over.getD k false = v at *
      cases q
      · cases v
        ·
          repeat' (first
            | (with_reducible refine i_seq ?_)
            | ((with_reducible refine i_block ?_); (try simp (disch := omega) only [go_sem, verdict, h1, Bool.not_false, Bool.not_true, *]))
            | ((with_reducible refine i_regionQ (fun Q' hQ => ?_)); (try simp (disch := omega) only [go_sem, verdict, h1, Bool.not_false, Bool.not_true, *]))
            | ((with_reducible refine Imp.go hQ ?_); clear hQ; (try simp (disch := omega) only [go_sem, verdict, h1, Bool.not_false, Bool.not_true, *]))
            | ((with_reducible refine resOk_g (fun h => ?_) (fun h => ?_)) <;> (try simp only [Bool.not_eq_eq_eq_not, Bool.not_true, Bool.not_false, reduceCtorEq] at h) <;> (try have h' := of_decide_eq_true h) <;> (try (have hz : (_ : Int) = (_ : Int) := h'; clear hz h')) <;> (try have h' := of_decide_eq_false h) <;> (try have h' := inB_t h) <;> (try (exfalso; omega)) <;> (try simp (disch := omega) only [go_sem, verdict, h1, Bool.not_false, Bool.not_true, *]))
            | (((with_reducible refine i_condT ?_ ?_); (focus (simp only [go_sem, *]; done))) <;> (try simp (disch := omega) only [go_sem, verdict, h1, Bool.not_false, Bool.not_true, *]))
            | (((with_reducible refine i_condF ?_ ?_); (focus (simp only [go_sem, *]; done))) <;> (try simp (disch := omega) only [go_sem, verdict, h1, Bool.not_false, Bool.not_true, *]))
            | ((with_reducible refine i_cond (by simp only [go_sem, *] <;> rfl) (fun h => ?_) (fun h => ?_)) <;> (try simp only [Bool.not_eq_eq_eq_not, Bool.not_true, Bool.not_false, reduceCtorEq] at h) <;> (try have h' := of_decide_eq_true h) <;> (try (have hz : (_ : Int) = (_ : Int) := h'; clear hz h')) <;> (try have h' := of_decide_eq_false h) <;> (try have h' := inB_t h) <;> (try (exfalso; omega)) <;> (try simp (disch := omega) only [go_sem, verdict, h1, Bool.not_false, Bool.not_true, *])))
          all_goals (try simp (disch := omega) only [EndK, go_sem, verdict, h1, Bool.not_false, Bool.not_true, natLe_ok, *])
          all_goals (refine ⟨⟨k + 1, by omega⟩, ?_, by simp only; omega⟩; (refine weak_canon [1, 3, 4] [0] ?_ ?_ ?_ <;> (simp (disch := omega) only [go_sem, ht, h1, Bool.not_false, Bool.not_true, Bool.false_or, Bool.true_or]; done)))
        ·
          repeat' (first
            | (with_reducible refine i_seq ?_)
            | ((with_reducible refine i_block ?_); (try simp (disch := omega) only [go_sem, verdict, h1, Bool.not_false, Bool.not_true, *]))
            | ((with_reducible refine i_regionQ (fun Q' hQ => ?_)); (try simp (disch := omega) only [go_sem, verdict, h1, Bool.not_false, Bool.not_true, *]))
            | ((with_reducible refine Imp.go hQ ?_); clear hQ; (try simp (disch := omega) only [go_sem, verdict, h1, Bool.not_false, Bool.not_true, *]))
            | ((with_reducible refine resOk_g (fun h => ?_) (fun h => ?_)) <;> (try simp only [Bool.not_eq_eq_eq_not, Bool.not_true, Bool.not_false, reduceCtorEq] at h) <;> (try have h' := of_decide_eq_true h) <;> (try (have hz : (_ : Int) = (_ : Int) := h'; clear hz h')) <;> (try have h' := of_decide_eq_false h) <;> (try have h' := inB_t h) <;> (try (exfalso; omega)) <;> (try simp (disch := omega) only [go_sem, verdict, h1, Bool.not_false, Bool.not_true, *]))
            | (((with_reducible refine i_condT ?_ ?_); (focus (simp only [go_sem, *]; done))) <;> (try simp (disch := omega) only [go_sem, verdict, h1, Bool.not_false, Bool.not_true, *]))
            | (((with_reducible refine i_condF ?_ ?_); (focus (simp only [go_sem, *]; done))) <;> (try simp (disch := omega) only [go_sem, verdict, h1, Bool.not_false, Bool.not_true, *]))
            | ((with_reducible refine i_cond (by simp only [go_sem, *] <;> rfl) (fun h => ?_) (fun h => ?_)) <;> (try simp only [Bool.not_eq_eq_eq_not, Bool.not_true, Bool.not_false, reduceCtorEq] at h) <;> (try have h' := of_decide_eq_true h) <;> (try (have hz : (_ : Int) = (_ : Int) := h'; clear hz h')) <;> (try have h' := of_decide_eq_false h) <;> (try have h' := inB_t h) <;> (try (exfalso; omega)) <;> (try simp (disch := omega) only [go_sem, verdict, h1, Bool.not_false, Bool.not_true, *])))
          all_goals (try simp (disch := omega) only [EndK, go_sem, verdict, h1, Bool.not_false, Bool.not_true, natLe_ok, *])
          all_goals (refine ⟨⟨k + 1, by omega⟩, ?_, by simp only; omega⟩; (refine weak_canon [1, 3, 4] [0] ?_ ?_ ?_ <;> (simp (disch := omega) only [go_sem, ht, h1, Bool.not_false, Bool.not_true, Bool.false_or, Bool.true_or]; done)))
      ·
        repeat' (first
          | (with_reducible refine i_seq ?_)
          | ((with_reducible refine i_block ?_); (try simp (disch := omega) only [go_sem, verdict, h1, Bool.not_false, Bool.not_true, *]))
          | ((with_reducible refine i_regionQ (fun Q' hQ => ?_)); (try simp (disch := omega) only [go_sem, verdict, h1, Bool.not_false, Bool.not_true, *]))
          | ((with_reducible refine Imp.go hQ ?_); clear hQ; (try simp (disch := omega) only [go_sem, verdict, h1, Bool.not_false, Bool.not_true, *]))
          | ((with_reducible refine resOk_g (fun h => ?_) (fun h => ?_)) <;> (try simp only [Bool.not_eq_eq_eq_not, Bool.not_true, Bool.not_false, reduceCtorEq] at h) <;> (try have h' := of_decide_eq_true h) <;> (try (have hz : (_ : Int) = (_ : Int) := h'; clear hz h')) <;> (try have h' := of_decide_eq_false h) <;> (try have h' := inB_t h) <;> (try (exfalso; omega)) <;> (try simp (disch := omega) only [go_sem, verdict, h1, Bool.not_false, Bool.not_true, *]))
          | (((with_reducible refine i_condT ?_ ?_); (focus (simp only [go_sem, *]; done))) <;> (try simp (disch := omega) only [go_sem, verdict, h1, Bool.not_false, Bool.not_true, *]))
          | (((with_reducible refine i_condF ?_ ?_); (focus (simp only [go_sem, *]; done))) <;> (try simp (disch := omega) only [go_sem, verdict, h1, Bool.not_false, Bool.not_true, *]))
          | ((with_reducible refine i_cond (by simp only [go_sem, *] <;> rfl) (fun h => ?_) (fun h => ?_)) <;> (try simp only [Bool.not_eq_eq_eq_not, Bool.not_true, Bool.not_false, reduceCtorEq] at h) <;> (try have h' := of_decide_eq_true h) <;> (try (have hz : (_ : Int) = (_ : Int) := h'; clear hz h')) <;> (try have h' := of_decide_eq_false h) <;> (try have h' := inB_t h) <;> (try (exfalso; omega)) <;> (try simp (disch := omega) only [go_sem, verdict, h1, Bool.not_false, Bool.not_true, *])))
        all_goals (try simp (disch := omega) only [EndK, go_sem, verdict, h1, Bool.not_false, Bool.not_true, natLe_ok, *])
        all_goals (refine ⟨⟨k + 1, by omega⟩, ?_, by simp only; omega⟩; (refine weak_canon [1, 3, 4] [0] ?_ ?_ ?_ <;> (simp (disch := omega) only [go_sem, ht, h1, Bool.not_false, Bool.not_true, Bool.false_or, Bool.true_or]; done)))
    · have e : m.kernel.over.take k = m.kernel.over := List.take_of_length_le (by omega)
      rw [e]
      cases hf : hasF m.kernel.over
      ·
        repeat' (first
          | (with_reducible refine i_seq ?_)
          | ((with_reducible refine i_block ?_); (try simp (disch := omega) only [go_sem, verdict, h1, hf, Bool.not_false, Bool.not_true, *]))
          | ((with_reducible refine i_regionQ (fun Q' hQ => ?_)); (try simp (disch := omega) only [go_sem, verdict, h1, hf, Bool.not_false, Bool.not_true, *]))
          | ((with_reducible refine Imp.go hQ ?_); clear hQ; (try simp (disch := omega) only [go_sem, verdict, h1, hf, Bool.not_false, Bool.not_true, *]))
          | ((with_reducible refine resOk_g (fun h => ?_) (fun h => ?_)) <;> (try simp only [Bool.not_eq_eq_eq_not, Bool.not_true, Bool.not_false, reduceCtorEq] at h) <;> (try have h' := of_decide_eq_true h) <;> (try (have hz : (_ : Int) = (_ : Int) := h'; clear hz h')) <;> (try have h' := of_decide_eq_false h) <;> (try have h' := inB_t h) <;> (try (exfalso; omega)) <;> (try simp (disch := omega) only [go_sem, verdict, h1, hf, Bool.not_false, Bool.not_true, *]))
          | (((with_reducible refine i_condT ?_ ?_); (focus (simp only [go_sem, *]; done))) <;> (try simp (disch := omega) only [go_sem, verdict, h1, hf, Bool.not_false, Bool.not_true, *]))
          | (((with_reducible refine i_condF ?_ ?_); (focus (simp only [go_sem, *]; done))) <;> (try simp (disch := omega) only [go_sem, verdict, h1, hf, Bool.not_false, Bool.not_true, *]))
          | ((with_reducible refine i_cond (by simp only [go_sem, *] <;> rfl) (fun h => ?_) (fun h => ?_)) <;> (try simp only [Bool.not_eq_eq_eq_not, Bool.not_true, Bool.not_false, reduceCtorEq] at h) <;> (try have h' := of_decide_eq_true h) <;> (try (have hz : (_ : Int) = (_ : Int) := h'; clear hz h')) <;> (try have h' := of_decide_eq_false h) <;> (try have h' := inB_t h) <;> (try (exfalso; omega)) <;> (try simp (disch := omega) only [go_sem, verdict, h1, hf, Bool.not_false, Bool.not_true, *])))
        all_goals (try simp (disch := omega) only [EndK, go_sem, verdict, h1, hf, Bool.not_false, Bool.not_true, natLe_ok, *])
      ·
        repeat' (first
          | (with_reducible refine i_seq ?_)
          | ((with_reducible refine i_block ?_); (try simp (disch := omega) only [go_sem, verdict, h1, hf, Bool.not_false, Bool.not_true, *]))
          | ((with_reducible refine i_regionQ (fun Q' hQ => ?_)); (try simp (disch := omega) only [go_sem, verdict, h1, hf, Bool.not_false, Bool.not_true, *]))
          | ((with_reducible refine Imp.go hQ ?_); clear hQ; (try simp (disch := omega) only [go_sem, verdict, h1, hf, Bool.not_false, Bool.not_true, *]))
          | ((with_reducible refine resOk_g (fun h => ?_) (fun h => ?_)) <;> (try simp only [Bool.not_eq_eq_eq_not, Bool.not_true, Bool.not_false, reduceCtorEq] at h) <;> (try have h' := of_decide_eq_true h) <;> (try (have hz : (_ : Int) = (_ : Int) := h'; clear hz h')) <;> (try have h' := of_decide_eq_false h) <;> (try have h' := inB_t h) <;> (try (exfalso; omega)) <;> (try simp (disch := omega) only [go_sem, verdict, h1, hf, Bool.not_false, Bool.not_true, *]))
          | (((with_reducible refine i_condT ?_ ?_); (focus (simp only [go_sem, *]; done))) <;> (try simp (disch := omega) only [go_sem, verdict, h1, hf, Bool.not_false, Bool.not_true, *]))
          | (((with_reducible refine i_condF ?_ ?_); (focus (simp only [go_sem, *]; done))) <;> (try simp (disch := omega) only [go_sem, verdict, h1, hf, Bool.not_false, Bool.not_true, *]))
          | ((with_reducible refine i_cond (by simp only [go_sem, *] <;> rfl) (fun h => ?_) (fun h => ?_)) <;> (try simp only [Bool.not_eq_eq_eq_not, Bool.not_true, Bool.not_false, reduceCtorEq] at h) <;> (try have h' := of_decide_eq_true h) <;> (try (have hz : (_ : Int) = (_ : Int) := h'; clear hz h')) <;> (try have h' := of_decide_eq_false h) <;> (try have h' := inB_t h) <;> (try (exfalso; omega)) <;> (try simp (disch := omega) only [go_sem, verdict, h1, hf, Bool.not_false, Bool.not_true, *]))
          | ((with_reducible refine hcall_of_callOk 40 true (sIdle_ok m hm'.out) ?_ ?_ ?_ ?_ ?_); (focus (simp (disch := omega) only [go_sem, verdict, h1, hf, Bool.not_false, Bool.not_true, natLe_ok]; done)); (focus (simp (disch := omega) only [go_sem, verdict, h1, hf, Bool.not_false, Bool.not_true, natLe_ok]; done)); (focus (simp (disch := omega) only [go_sem, verdict, h1, hf, Bool.not_false, Bool.not_true, natLe_ok]; done)); (focus (simp (disch := omega) only [go_sem, verdict, h1, hf, Bool.not_false, Bool.not_true, natLe_ok]; done)); simp only [go_sem, verdict, h1, hf, Bool.not_false, Bool.not_true]; refine aL_run ?_; (try simp (disch := omega) only [go_sem, verdict, h1, hf, Bool.not_false, Bool.not_true, *])))
        all_goals (try simp (disch := omega) only [EndK, go_sem, verdict, h1, hf, Bool.not_false, Bool.not_true, natLe_ok, *])
  ·
    refine callOk_of_hcall 40 (hcall_of_body Tryd.func33 rfl (by kernel_rfl) ?_)
    simp (disch := omega) only [go_sem, Tryd.ntmps33, Tryd.results33]
    repeat' (first
      | (with_reducible refine i_seq ?_)
      | ((with_reducible refine i_block ?_); (try simp (disch := omega) only [go_sem, verdict, h1, *]))
      | ((with_reducible refine i_regionQ (fun Q' hQ => ?_)); (try simp (disch := omega) only [go_sem, verdict, h1, *]))
      | ((with_reducible refine Imp.go hQ ?_); clear hQ; (try simp (disch := omega) only [go_sem, verdict, h1, *]))
      | ((with_reducible refine resOk_g (fun h => ?_) (fun h => ?_)) <;> (try simp only [Bool.not_eq_eq_eq_not, Bool.not_true, Bool.not_false, reduceCtorEq] at h) <;> (try have h' := of_decide_eq_true h) <;> (try (have hz : (_ : Int) = (_ : Int) := h'; clear hz h')) <;> (try have h' := of_decide_eq_false h) <;> (try have h' := inB_t h) <;> (try (exfalso; omega)) <;> (try simp (disch := omega) only [go_sem, verdict, h1, *]))
      | (((with_reducible refine i_condT ?_ ?_); (focus (simp only [go_sem, *]; done))) <;> (try simp (disch := omega) only [go_sem, verdict, h1, *]))
      | (((with_reducible refine i_condF ?_ ?_); (focus (simp only [go_sem, *]; done))) <;> (try simp (disch := omega) only [go_sem, verdict, h1, *]))
      | ((with_reducible refine i_cond (by simp only [go_sem, *] <;> rfl) (fun h => ?_) (fun h => ?_)) <;> (try simp only [Bool.not_eq_eq_eq_not, Bool.not_true, Bool.not_false, reduceCtorEq] at h) <;> (try have h' := of_decide_eq_true h) <;> (try (have hz : (_ : Int) = (_ : Int) := h'; clear hz h')) <;> (try have h' := of_decide_eq_false h) <;> (try have h' := inB_t h) <;> (try (exfalso; omega)) <;> (try simp (disch := omega) only [go_sem, verdict, h1, *])))
    all_goals (try simp (disch := omega) only [EndK, go_sem, verdict, h1, natLe_ok, *])
  all_goals trace_state
end Go.Proofs.YtgeoipplkjgnfaaDoor.E
