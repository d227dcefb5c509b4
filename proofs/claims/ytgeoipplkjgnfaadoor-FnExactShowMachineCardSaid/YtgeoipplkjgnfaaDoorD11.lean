import Derived.Test.YtgeoipplkjgnfaaDoorD10
set_option linter.unusedVariables false
set_option linter.unusedSimpArgs false
set_option maxRecDepth 100000
set_option maxHeartbeats 4000000
namespace Go.Proofs.YtgeoipplkjgnfaaDoor.E
/-! ### A machine shown -/
def evsB : List Event → ByteArray
  | [] => ⟨#[]⟩
  | e :: es => showB e ++ evsB es
theorem evsB_app (xs ys : List Event) : evsB (xs ++ ys) = evsB xs ++ evsB ys := by
  induction xs with
  | nil => apply ByteArray.ext; simp [evsB]
  | cons x xs ih => simp only [List.cons_append, evsB, ih, ByteArray.append_assoc]
theorem evsB_one (x : Event) : evsB [x] = showB x := by simp only [evsB, bnil]
theorem evsB_len {xs : List Event} (h : ∀ x ∈ xs, evOk x) : (evsB xs).size ≤ 60 * xs.length := by
  induction xs with
  | nil => simp [evsB, size_mk]
  | cons x xs ih =>
    have h1 := showB_len (h x (by simp))
    have h2 := ih fun y hy => h y (by simp [hy])
    simp only [evsB, size_app, List.length_cons]
    omega
theorem evsB_step {xs : List Event} {k : Nat} (hk : k < xs.length) : evsB (xs.take (k + 1)) = evsB (xs.take k) ++ showB (xs.getD k eventZ) := by
  have e : xs.getD k eventZ = xs[k] := by simp [hk]
  rw [e, List.take_succ_eq_append_getElem hk, evsB_app, evsB_one]
def mB (m : Machine) : ByteArray := evsB m.events ++ ⟨#[118, 101, 114, 100, 105, 99, 116, 32]⟩ ++ decB (verdict m).toNat ++ ⟨#[10]⟩
theorem verdict_in (m : Machine) : 0 ≤ verdict m ∧ verdict m ≤ 3 := by unfold verdict; repeat' split
                                                                       all_goals omega
theorem sShowMachine_ok (m : Machine) (hm : smMachine m) (he : ∀ e ∈ m.events, evOk e) : CallOk Tryd.prog 15 [.agg (machineR m)] (.s (.one (sV (mB m)))) [none] := by
  have hs := hm.2.2.2.2.2.1
  have hm' := Hid.mk hm
  have he' := Hid.mk he
  have hv := verdict_in m
  have hdl := decB_len (n := (verdict m).toNat) (by omega)
  clear hm he
  have ls : ∀ k, (evsB (m.events.take k)).size ≤ 60 * 1048576 := fun k => by
    have := evsB_len (xs := m.events.take k) fun y hy => he'.out y (List.mem_of_mem_take hy)
    rw [List.length_take] at this; omega
  refine callOk_of_hcall 40 (hcall_of_body Tryd.func15 rfl (by kernel_rfl) ?_)
  simp (disch := omega) only [go_sem, Tryd.ntmps15, Tryd.results15]
  repeat' (first
    | (with_reducible refine i_seq ?_)
    | ((with_reducible refine i_block ?_); (try simp (disch := first | omega | (simp only [size_app, size_mk, List.size_toArray, List.length_cons, List.length_nil]; omega)) only [go_sem, *]))
    | ((with_reducible refine i_regionQ (fun Q' hQ => ?_)); (try simp (disch := first | omega | (simp only [size_app, size_mk, List.size_toArray, List.length_cons, List.length_nil]; omega)) only [go_sem, *]))
    | ((with_reducible refine Imp.go hQ ?_); clear hQ; (try simp (disch := first | omega | (simp only [size_app, size_mk, List.size_toArray, List.length_cons, List.length_nil]; omega)) only [go_sem, *]))
    | ((with_reducible refine resOk_g (fun h => ?_) (fun h => ?_)) <;> (try simp only [Bool.not_eq_eq_eq_not, Bool.not_true, Bool.not_false, reduceCtorEq] at h) <;> (try have h' := of_decide_eq_true h) <;> (try (have hz : (_ : Int) = (_ : Int) := h'; clear hz h')) <;> (try have h' := of_decide_eq_false h) <;> (try have h' := inB_t h) <;> (try (exfalso; omega)) <;> (try simp (disch := first | omega | (simp only [size_app, size_mk, List.size_toArray, List.length_cons, List.length_nil]; omega)) only [go_sem, *]))
    | (((with_reducible refine i_condT ?_ ?_); (focus (simp only [go_sem, *]; done))) <;> (try simp (disch := first | omega | (simp only [size_app, size_mk, List.size_toArray, List.length_cons, List.length_nil]; omega)) only [go_sem, *]))
    | (((with_reducible refine i_condF ?_ ?_); (focus (simp only [go_sem, *]; done))) <;> (try simp (disch := first | omega | (simp only [size_app, size_mk, List.size_toArray, List.length_cons, List.length_nil]; omega)) only [go_sem, *]))
    | ((with_reducible refine i_cond (by simp only [go_sem, *] <;> rfl) (fun h => ?_) (fun h => ?_)) <;> (try simp only [Bool.not_eq_eq_eq_not, Bool.not_true, Bool.not_false, reduceCtorEq] at h) <;> (try have h' := of_decide_eq_true h) <;> (try (have hz : (_ : Int) = (_ : Int) := h'; clear hz h')) <;> (try have h' := of_decide_eq_false h) <;> (try have h' := inB_t h) <;> (try (exfalso; omega)) <;> (try simp (disch := first | omega | (simp only [size_app, size_mk, List.size_toArray, List.length_cons, List.length_nil]; omega)) only [go_sem, *])))
  all_goals (try simp (disch := omega) only [EndK, go_sem, natLe_ok, *])
  refine i_loop (α := {k : Nat // k ≤ m.events.length}) (fun k => ⟨mkEnv 27 [(1, .one (.ptr 0 0 0)), (3, .one (sV (evsB (m.events.take k.1)))), (4, .one (iV k.1))], [.live 12 [machineR m]]⟩) (fun k => m.events.length - k.1) ⟨0, by omega⟩ ?_ ?_
  · (refine weak_canon [1, 3, 4] [0] ?_ ?_ ?_ <;> (simp (disch := omega) only [go_sem, evsB, List.take_zero]; done))
  rintro ⟨k, hk⟩
  have lk := ls k
  clear ls
  simp (disch := omega) only [go_sem]
  by_cases hkl : k < m.events.length
  · have hek := he'.out (m.events.getD k eventZ) (by simp [hkl])
    have l1 := showB_len hek
    have e := evsB_step hkl
    generalize evsB (m.events.take k) = q at *
    have hek' := Hid.mk hek
    clear hek
    repeat' (first
      | (with_reducible refine i_seq ?_)
      | ((with_reducible refine i_block ?_); (try simp (disch := first | omega | (simp only [size_app, size_mk, List.size_toArray, List.length_cons, List.length_nil]; omega)) only [go_sem, *]))
      | ((with_reducible refine i_regionQ (fun Q' hQ => ?_)); (try simp (disch := first | omega | (simp only [size_app, size_mk, List.size_toArray, List.length_cons, List.length_nil]; omega)) only [go_sem, *]))
      | ((with_reducible refine Imp.go hQ ?_); clear hQ; (try simp (disch := first | omega | (simp only [size_app, size_mk, List.size_toArray, List.length_cons, List.length_nil]; omega)) only [go_sem, *]))
      | ((with_reducible refine resOk_g (fun h => ?_) (fun h => ?_)) <;> (try simp only [Bool.not_eq_eq_eq_not, Bool.not_true, Bool.not_false, reduceCtorEq] at h) <;> (try have h' := of_decide_eq_true h) <;> (try (have hz : (_ : Int) = (_ : Int) := h'; clear hz h')) <;> (try have h' := of_decide_eq_false h) <;> (try have h' := inB_t h) <;> (try (exfalso; omega)) <;> (try simp (disch := first | omega | (simp only [size_app, size_mk, List.size_toArray, List.length_cons, List.length_nil]; omega)) only [go_sem, *]))
      | (((with_reducible refine i_condT ?_ ?_); (focus (simp only [go_sem, *]; done))) <;> (try simp (disch := first | omega | (simp only [size_app, size_mk, List.size_toArray, List.length_cons, List.length_nil]; omega)) only [go_sem, *]))
      | (((with_reducible refine i_condF ?_ ?_); (focus (simp only [go_sem, *]; done))) <;> (try simp (disch := first | omega | (simp only [size_app, size_mk, List.size_toArray, List.length_cons, List.length_nil]; omega)) only [go_sem, *]))
      | ((with_reducible refine i_cond (by simp only [go_sem, *] <;> rfl) (fun h => ?_) (fun h => ?_)) <;> (try simp only [Bool.not_eq_eq_eq_not, Bool.not_true, Bool.not_false, reduceCtorEq] at h) <;> (try have h' := of_decide_eq_true h) <;> (try (have hz : (_ : Int) = (_ : Int) := h'; clear hz h')) <;> (try have h' := of_decide_eq_false h) <;> (try have h' := inB_t h) <;> (try (exfalso; omega)) <;> (try simp (disch := first | omega | (simp only [size_app, size_mk, List.size_toArray, List.length_cons, List.length_nil]; omega)) only [go_sem, *]))
      | ((with_reducible refine hcall_of_callOk 40 true (sShowEvent_ok (m.events.getD k eventZ) hek'.out) ?_ ?_ ?_ ?_ ?_); (focus (simp (disch := omega) only [go_sem, natLe_ok]; done)); (focus (simp (disch := omega) only [go_sem, natLe_ok]; done)); (focus (simp (disch := omega) only [go_sem, natLe_ok]; done)); (focus (simp (disch := omega) only [go_sem, natLe_ok]; done)); simp only [go_sem]; refine aL_run ?_; (try simp (disch := first | omega | (simp only [size_app, size_mk, List.size_toArray, List.length_cons, List.length_nil]; omega)) only [go_sem, *])))
    all_goals (try simp (disch := omega) only [EndK, go_sem, natLe_ok, *])
    refine ⟨⟨k + 1, by omega⟩, ?_, by simp only; omega⟩
    (refine weak_canon [1, 3, 4] [0] ?_ ?_ ?_ <;> (simp (disch := omega) only [go_sem, e]; done))
  · have e1 : m.events.take k = m.events := List.take_of_length_le (by omega)
    rw [e1] at lk ⊢
    have eo : mB m = evsB m.events ++ ⟨#[118, 101, 114, 100, 105, 99, 116, 32]⟩ ++ decB (verdict m).toNat ++ ⟨#[10]⟩ := rfl
    generalize evsB m.events = q at *
    repeat' (first
      | (with_reducible refine i_seq ?_)
      | ((with_reducible refine i_block ?_); (try simp (disch := first | omega | (simp only [size_app, size_mk, List.size_toArray, List.length_cons, List.length_nil]; omega)) only [go_sem, *]))
      | ((with_reducible refine i_regionQ (fun Q' hQ => ?_)); (try simp (disch := first | omega | (simp only [size_app, size_mk, List.size_toArray, List.length_cons, List.length_nil]; omega)) only [go_sem, *]))
      | ((with_reducible refine Imp.go hQ ?_); clear hQ; (try simp (disch := first | omega | (simp only [size_app, size_mk, List.size_toArray, List.length_cons, List.length_nil]; omega)) only [go_sem, *]))
      | ((with_reducible refine resOk_g (fun h => ?_) (fun h => ?_)) <;> (try simp only [Bool.not_eq_eq_eq_not, Bool.not_true, Bool.not_false, reduceCtorEq] at h) <;> (try have h' := of_decide_eq_true h) <;> (try (have hz : (_ : Int) = (_ : Int) := h'; clear hz h')) <;> (try have h' := of_decide_eq_false h) <;> (try have h' := inB_t h) <;> (try (exfalso; omega)) <;> (try simp (disch := first | omega | (simp only [size_app, size_mk, List.size_toArray, List.length_cons, List.length_nil]; omega)) only [go_sem, *]))
      | (((with_reducible refine i_condT ?_ ?_); (focus (simp only [go_sem, *]; done))) <;> (try simp (disch := first | omega | (simp only [size_app, size_mk, List.size_toArray, List.length_cons, List.length_nil]; omega)) only [go_sem, *]))
      | (((with_reducible refine i_condF ?_ ?_); (focus (simp only [go_sem, *]; done))) <;> (try simp (disch := first | omega | (simp only [size_app, size_mk, List.size_toArray, List.length_cons, List.length_nil]; omega)) only [go_sem, *]))
      | ((with_reducible refine i_cond (by simp only [go_sem, *] <;> rfl) (fun h => ?_) (fun h => ?_)) <;> (try simp only [Bool.not_eq_eq_eq_not, Bool.not_true, Bool.not_false, reduceCtorEq] at h) <;> (try have h' := of_decide_eq_true h) <;> (try (have hz : (_ : Int) = (_ : Int) := h'; clear hz h')) <;> (try have h' := of_decide_eq_false h) <;> (try have h' := inB_t h) <;> (try (exfalso; omega)) <;> (try simp (disch := first | omega | (simp only [size_app, size_mk, List.size_toArray, List.length_cons, List.length_nil]; omega)) only [go_sem, *]))
      | ((with_reducible refine hcall_of_callOk 40 true (sVerdict_ok m hm'.out) ?_ ?_ ?_ ?_ ?_); (focus (simp (disch := omega) only [go_sem, natLe_ok]; done)); (focus (simp (disch := omega) only [go_sem, natLe_ok]; done)); (focus (simp (disch := omega) only [go_sem, natLe_ok]; done)); (focus (simp (disch := omega) only [go_sem, natLe_ok]; done)); simp only [go_sem]; refine aL_run ?_; (try simp (disch := first | omega | (simp only [size_app, size_mk, List.size_toArray, List.length_cons, List.length_nil]; omega)) only [go_sem, *]))
      | ((with_reducible refine hcall_of_callOk 40 true (sDecimal_i (verdict m) hv.1 (by omega)) ?_ ?_ ?_ ?_ ?_); (focus (simp (disch := omega) only [go_sem, natLe_ok]; done)); (focus (simp (disch := omega) only [go_sem, natLe_ok]; done)); (focus (simp (disch := omega) only [go_sem, natLe_ok]; done)); (focus (simp (disch := omega) only [go_sem, natLe_ok]; done)); simp only [go_sem]; refine aL_run ?_; (try simp (disch := first | omega | (simp only [size_app, size_mk, List.size_toArray, List.length_cons, List.length_nil]; omega)) only [go_sem, *])))
    all_goals (try simp (disch := omega) only [EndK, go_sem, natLe_ok, *])
    all_goals trace_state
end Go.Proofs.YtgeoipplkjgnfaaDoor.E
