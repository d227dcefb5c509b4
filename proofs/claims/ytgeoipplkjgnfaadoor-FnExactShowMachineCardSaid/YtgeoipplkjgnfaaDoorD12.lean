import Derived.Test.YtgeoipplkjgnfaaDoorD11
set_option linter.unusedVariables false
set_option linter.unusedSimpArgs false
set_option maxRecDepth 100000
set_option maxHeartbeats 4000000
namespace Go.Proofs.YtgeoipplkjgnfaaDoor.E
/-! Bytes that are written. -/
def bytesT (b : ByteArray) : List (List T) := b.data.toList.map fun x => [T.v (.int .u8 x.toNat)]
theorem rows_str (b : ByteArray) : (b.data.toList.map fun x => [T.v (.int .u8 x.toNat)]) = bytesT b := rfl
theorem bytesT_len (b : ByteArray) : (bytesT b).length = b.size := by simp [bytesT]
theorem bytesT_app (a b : ByteArray) : bytesT a ++ bytesT b = bytesT (a ++ b) := by simp [bytesT]
theorem bytesT_closed (b : ByteArray) : closedRows (bytesT b) = true := closed_map (fun _ => rfl) _
theorem bytesT_noRo (b : ByteArray) : noRoRows (bytesT b) = true := noRo_map (fun _ => rfl) _
theorem bytesT_flat (b : ByteArray) : flat (bytesT b) = true := flat_map (fun _ => rfl) _
theorem bytesT_take (b : ByteArray) : (bytesT b).take b.size = bytesT b := List.take_of_length_le (by rw [bytesT_len]; exact Nat.le_refl _)
theorem bytesOf_list : ∀ xs : List UInt8, bytesOf (xs.map fun x => [T.v (.int .u8 x.toNat)]) = some xs
  | [] => rfl
  | x :: xs => by
    rw [List.map_cons]
    simp only [bytesOf, byteOf, bytesOf_list xs]
    have : UInt8.ofNat ((x.toNat : Int)).toNat = x := by simp
    rw [this]
theorem bytesOf_T (b : ByteArray) : bytesOf (bytesT b) = some b.data.toList := bytesOf_list _
theorem back_mk (b : ByteArray) : ByteArray.mk b.data.toList.toArray = b := by cases b; rfl
attribute [go_sem] rows_str bytesT_len bytesT_app bytesT_closed bytesT_noRo bytesT_flat bytesT_take bytesOf_T back_mk
def smS (m : Machine) (q : ByteArray) : Nat → St
  | 0 => ⟨mkEnv 26 [(1, .one (.ptr 0 0 0)), (3, .one (.v nilV)), (7, .one (.ro 3 (eventsD m.events))), (8, .one (iV m.events.length)), (9, .one (iV 0))], [.live 12 [machineR m]]⟩
  | k + 1 => ⟨mkEnv 26 [(1, .one (.ptr 0 0 0)), (3, .one (.ref 1 0 q.size)), (7, .one (.ro 3 (eventsD m.events))), (8, .one (iV m.events.length)), (9, .one (iV ((k + 1 : Nat) : Int)))], [.live 12 [machineR m], .live 1 (bytesT q)]⟩
theorem smS0 (m : Machine) (q : ByteArray) : smS m q 0 = ⟨mkEnv 26 [(1, .one (.ptr 0 0 0)), (3, .one (.v nilV)), (7, .one (.ro 3 (eventsD m.events))), (8, .one (iV m.events.length)), (9, .one (iV 0))], [.live 12 [machineR m]]⟩ := rfl
theorem smSs (m : Machine) (q : ByteArray) (k : Nat) : smS m q (k + 1) = ⟨mkEnv 26 [(1, .one (.ptr 0 0 0)), (3, .one (.ref 1 0 q.size)), (7, .one (.ro 3 (eventsD m.events))), (8, .one (iV m.events.length)), (9, .one (iV ((k + 1 : Nat) : Int)))], [.live 12 [machineR m], .live 1 (bytesT q)]⟩ := rfl
theorem nil_app (b : ByteArray) : (⟨#[]⟩ : ByteArray) ++ b = b := by apply ByteArray.ext; simp
theorem iShowMachine_ok (m : Machine) (hm : smMachine m) (he : ∀ e ∈ m.events, evOk e) : CallOk Tryd.prog 17 [.agg (machineR m)] (.s (.one (sV (mB m)))) [none] := by
  have hs := hm.2.2.2.2.2.1
  have hm' := Hid.mk hm
  have he' := Hid.mk he
  have hv := verdict_in m
  have hdl := decB_len (n := (verdict m).toNat) (by omega)
  have hdd := iDecimal_ok (verdict m) (by omega) (by omega)
  rw [itoaB_pos hv.1] at hdd
  clear hm he
  have ls : ∀ k, (evsB (m.events.take k)).size ≤ 60 * 1048576 := fun k => by
    have := evsB_len (xs := m.events.take k) fun y hy => he'.out y (List.mem_of_mem_take hy)
    rw [List.length_take] at this; omega
  refine callOk_of_hcall 40 (hcall_of_body Tryd.func17 rfl (by kernel_rfl) ?_)
  simp (disch := omega) only [go_sem, Tryd.ntmps17, Tryd.results17]
  repeat' (first
    | (with_reducible refine i_seq ?_)
    | ((with_reducible refine i_block ?_); (try simp (disch := first | omega | (simp only [size_app, size_mk, List.size_toArray, List.length_cons, List.length_nil]; omega)) only [go_sem, *]))
    | ((with_reducible refine i_regionQ (fun Q' hQ => ?_)); (try simp (disch := first | omega | (simp only [size_app, size_mk, List.size_toArray, List.length_cons, List.length_nil]; omega)) only [go_sem, *]))
    | ((with_reducible refine Imp.go hQ ?_); clear hQ; (try simp (disch := first | omega | (simp only [size_app, size_mk, List.size_toArray, List.length_cons, List.length_nil]; omega)) only [go_sem, *]))
    | ((with_reducible refine resOk_g (fun h => ?_) (fun h => ?_)) <;> (try simp only [Bool.not_eq_eq_eq_not, Bool.not_true, Bool.not_false, reduceCtorEq] at h) <;> (try have h' := of_decide_eq_true h) <;> (try (have hz : (_ : Int) = (_ : Int) := h'; clear hz h')) <;> (try have h' := of_decide_eq_false h) <;> (try have h' := inB_t h) <;> (try (exfalso; omega)) <;> (try simp (disch := first | omega | (simp only [size_app, size_mk, List.size_toArray, List.length_cons, List.length_nil]; omega)) only [go_sem, *]))
    | (((with_reducible refine i_condT ?_ ?_); (focus (simp only [go_sem, *]; done))) <;> (try simp (disch := first | omega | (simp only [size_app, size_mk, List.size_toArray, List.length_cons, List.length_nil]; omega)) only [go_sem, *]))
    | (((with_reducible refine i_condF ?_ ?_); (focus (simp only [go_sem, *]; done))) <;> (try simp (disch := first | omega | (simp only [size_app, size_mk, List.size_toArray, List.length_cons, List.length_nil]; omega)) only [go_sem, *]))
    | ((with_reducible refine i_cond (by simp only [go_sem, *] <;> rfl) (fun h => ?_) (fun h => ?_)) <;> (try simp only [Bool.not_eq_eq_eq_not, Bool.not_true, Bool.not_false, reduceCtorEq] at h) <;> (try have h' := of_decide_eq_true h) <;> (try (have hz : (_ : Int) = (_ : Int) := h'; clear hz h')) <;> (try have h' := of_decide_eq_false h) <;> (try have h' := inB_t h) <;> (try (exfalso; omega)) <;> (try simp (disch := first | omega | (simp only [size_app, size_mk, List.size_toArray, List.length_cons, List.length_nil]; omega)) only [go_sem, *]))
    | (with_reducible refine i_th (id := 7) (.ho [0, 1, 2, 3] (opm 4 [1] [false, true] (opm 5 [1] [true] (.ho [6, 7, 8] (.stop))))) mixedT (by kernel_rfl) (fun Q' hQ => ?_))
    | (with_reducible exact th_none)
    | ((with_reducible refine th_stop ?_ ?_) <;> (try simp (disch := first | omega | (simp only [size_app, size_mk, List.size_toArray, List.length_cons, List.length_nil]; omega)) only [go_sem, *]))
    | ((with_reducible refine th_ho ?_); (try simp (disch := first | omega | (simp only [size_app, size_mk, List.size_toArray, List.length_cons, List.length_nil]; omega)) only [go_sem, *]))
    | ((with_reducible refine th_opm ?_ (by kernel_rfl) (aL_run ?_)) <;> (try simp (disch := first | omega | (simp only [size_app, size_mk, List.size_toArray, List.length_cons, List.length_nil]; omega)) only [go_sem, *]))
    | ((with_reducible refine th_altm ?_ (by kernel_rfl) (aL_run ?_) ?_) <;> (try simp (disch := first | omega | (simp only [size_app, size_mk, List.size_toArray, List.length_cons, List.length_nil]; omega)) only [go_sem, *])))
  all_goals (try simp (disch := omega) only [EndK, go_sem, natLe_ok, *])
  refine i_loop (α := {k : Nat // k ≤ m.events.length}) (fun k => smS m (evsB (m.events.take k.1)) k.1) (fun k => m.events.length - k.1) ⟨0, by omega⟩ ?_ ?_
  · rw [smS0]
    (refine weak_canon [1, 3, 7, 8, 9] [0] ?_ ?_ ?_ <;> (simp (disch := omega) only [go_sem]; done))
  rintro ⟨k, hk⟩
  have lk := ls k
  clear ls
  have eo : mB m = evsB m.events ++ ⟨#[118, 101, 114, 100, 105, 99, 116, 32]⟩ ++ decB (verdict m).toNat ++ ⟨#[10]⟩ := rfl
  by_cases hkl : k < m.events.length
  · have hek := he'.out (m.events.getD k eventZ) (by simp [hkl])
    have l1 := showB_len hek
    have e := evsB_step hkl
    have hek' := Hid.mk hek
    clear hek
    cases k with
    | zero =>
      have ez : evsB (m.events.take 0) = ⟨#[]⟩ := by simp [evsB]
      rw [ez, nil_app] at e
      clear ez lk
      simp (disch := omega) only [go_sem, smS0]
      repeat' (first
        | (with_reducible refine i_seq ?_)
        | ((with_reducible refine i_block ?_); (try simp (disch := first | omega | (simp only [size_app, size_mk, List.size_toArray, List.length_cons, List.length_nil]; omega)) only [go_sem, *]))
        | ((with_reducible refine i_regionQ (fun Q' hQ => ?_)); (try simp (disch := first | omega | (simp only [size_app, size_mk, List.size_toArray, List.length_cons, List.length_nil]; omega)) only [go_sem, *]))
        | ((with_reducible refine Imp.go hQ ?_); clear hQ; (try simp (disch := first | omega | (simp only [size_app, size_mk, List.size_toArray, List.length_cons, List.length_nil]; omega)) only [go_sem, *]))
        | ((with_reducible refine resOk_g (fun h => ?_) (fun h => ?_)) <;> (try simp only [Bool.not_eq_eq_eq_not, Bool.not_true, Bool.not_false, reduceCtorEq] at h) <;> (try have h' := of_decide_eq_true h) <;> (try (have hz : (_ : Int) = (_ : Int) := h'; clear hz h')) <;> (try have h' := of_decide_eq_false h) <;> (try have h' := inB_t h) <;> (try (exfalso; omega)) <;> (try simp (disch := first | omega | (simp only [size_app, size_mk, List.size_toArray, List.length_cons, List.length_nil]; omega)) only [go_sem, *]))
        | (((with_reducible refine i_condT ?_ ?_); (focus (simp only [go_sem, *]; done))) <;> (try simp (disch := first | omega | (simp only [size_app, size_mk, List.size_toArray, List.length_cons, List.length_nil]; omega)) only [go_sem, *]))
        | (((with_reducible refine i_condF ?_ ?_); (focus (simp only [go_sem, *]; done))) <;> (try simp (disch := first | omega | (simp only [size_app, size_mk, List.size_toArray, List.length_cons, List.length_nil]; omega)) only [go_sem, *]))
        | ((with_reducible refine i_cond (by simp only [go_sem, *] <;> rfl) (fun h => ?_) (fun h => ?_)) <;> (try simp only [Bool.not_eq_eq_eq_not, Bool.not_true, Bool.not_false, reduceCtorEq] at h) <;> (try have h' := of_decide_eq_true h) <;> (try (have hz : (_ : Int) = (_ : Int) := h'; clear hz h')) <;> (try have h' := of_decide_eq_false h) <;> (try have h' := inB_t h) <;> (try (exfalso; omega)) <;> (try simp (disch := first | omega | (simp only [size_app, size_mk, List.size_toArray, List.length_cons, List.length_nil]; omega)) only [go_sem, *]))
        | (with_reducible refine i_th (id := 7) (.ho [0, 1, 2, 3] (opm 4 [1] [false, true] (opm 5 [1] [true] (.ho [6, 7, 8] (.stop))))) mixedT (by kernel_rfl) (fun Q' hQ => ?_))
        | (with_reducible exact th_none)
        | ((with_reducible refine th_stop ?_ ?_) <;> (try simp (disch := first | omega | (simp only [size_app, size_mk, List.size_toArray, List.length_cons, List.length_nil]; omega)) only [go_sem, *]))
        | ((with_reducible refine th_ho ?_); (try simp (disch := first | omega | (simp only [size_app, size_mk, List.size_toArray, List.length_cons, List.length_nil]; omega)) only [go_sem, *]))
        | ((with_reducible refine th_opm ?_ (by kernel_rfl) (aL_run ?_)) <;> (try simp (disch := first | omega | (simp only [size_app, size_mk, List.size_toArray, List.length_cons, List.length_nil]; omega)) only [go_sem, *]))
        | ((with_reducible refine th_altm ?_ (by kernel_rfl) (aL_run ?_) ?_) <;> (try simp (disch := first | omega | (simp only [size_app, size_mk, List.size_toArray, List.length_cons, List.length_nil]; omega)) only [go_sem, *]))
        | ((with_reducible refine hcall_of_callOk 40 true (iShowEvent_ok (m.events.getD 0 eventZ) hek'.out) ?_ ?_ ?_ ?_ ?_); (focus (simp (disch := omega) only [go_sem, natLe_ok]; done)); (focus (simp (disch := omega) only [go_sem, natLe_ok]; done)); (focus (simp (disch := omega) only [go_sem, natLe_ok]; done)); (focus (simp (disch := omega) only [go_sem, natLe_ok]; done)); simp only [go_sem]; refine aL_run ?_; (try simp (disch := first | omega | (simp only [size_app, size_mk, List.size_toArray, List.length_cons, List.length_nil]; omega)) only [go_sem, *])))
      all_goals (try simp (disch := omega) only [EndK, go_sem, natLe_ok, *])
      refine ⟨⟨0 + 1, by omega⟩, ?_, by simp only; omega⟩
      rw [smSs]
      first | (refine weak_canon [1, 3, 7, 8, 9] [0, 2] ?_ ?_ ?_ <;> (simp (disch := omega) only [go_sem, e, Int.natCast_zero, Nat.zero_add, Int.zero_add]; done)) | trace_state
    | succ k =>
      simp (disch := omega) only [go_sem, smSs]
      generalize hq : evsB (m.events.take (k + 1)) = q at *
      have sz := size_app q (showB (m.events.getD (k + 1) eventZ))
      have et : ((k : Int) + 1).toNat = k + 1 := by omega
      repeat' (first
        | (with_reducible refine i_seq ?_)
        | ((with_reducible refine i_block ?_); (try simp (disch := first | omega | (simp only [size_app, size_mk, List.size_toArray, List.length_cons, List.length_nil]; omega)) only [go_sem, *]))
        | ((with_reducible refine i_regionQ (fun Q' hQ => ?_)); (try simp (disch := first | omega | (simp only [size_app, size_mk, List.size_toArray, List.length_cons, List.length_nil]; omega)) only [go_sem, *]))
        | ((with_reducible refine Imp.go hQ ?_); clear hQ; (try simp (disch := first | omega | (simp only [size_app, size_mk, List.size_toArray, List.length_cons, List.length_nil]; omega)) only [go_sem, *]))
        | ((with_reducible refine resOk_g (fun h => ?_) (fun h => ?_)) <;> (try simp only [Bool.not_eq_eq_eq_not, Bool.not_true, Bool.not_false, reduceCtorEq] at h) <;> (try have h' := of_decide_eq_true h) <;> (try (have hz : (_ : Int) = (_ : Int) := h'; clear hz h')) <;> (try have h' := of_decide_eq_false h) <;> (try have h' := inB_t h) <;> (try (exfalso; omega)) <;> (try simp (disch := first | omega | (simp only [size_app, size_mk, List.size_toArray, List.length_cons, List.length_nil]; omega)) only [go_sem, *]))
        | (((with_reducible refine i_condT ?_ ?_); (focus (simp only [go_sem, *]; done))) <;> (try simp (disch := first | omega | (simp only [size_app, size_mk, List.size_toArray, List.length_cons, List.length_nil]; omega)) only [go_sem, *]))
        | (((with_reducible refine i_condF ?_ ?_); (focus (simp only [go_sem, *]; done))) <;> (try simp (disch := first | omega | (simp only [size_app, size_mk, List.size_toArray, List.length_cons, List.length_nil]; omega)) only [go_sem, *]))
        | ((with_reducible refine i_cond (by simp only [go_sem, *] <;> rfl) (fun h => ?_) (fun h => ?_)) <;> (try simp only [Bool.not_eq_eq_eq_not, Bool.not_true, Bool.not_false, reduceCtorEq] at h) <;> (try have h' := of_decide_eq_true h) <;> (try (have hz : (_ : Int) = (_ : Int) := h'; clear hz h')) <;> (try have h' := of_decide_eq_false h) <;> (try have h' := inB_t h) <;> (try (exfalso; omega)) <;> (try simp (disch := first | omega | (simp only [size_app, size_mk, List.size_toArray, List.length_cons, List.length_nil]; omega)) only [go_sem, *]))
        | (with_reducible refine i_th (id := 7) (.ho [0, 1, 2, 3] (opm 4 [1] [false, true] (opm 5 [1] [true] (.ho [6, 7, 8] (.stop))))) mixedT (by kernel_rfl) (fun Q' hQ => ?_))
        | (with_reducible exact th_none)
        | ((with_reducible refine th_stop ?_ ?_) <;> (try simp (disch := first | omega | (simp only [size_app, size_mk, List.size_toArray, List.length_cons, List.length_nil]; omega)) only [go_sem, *]))
        | ((with_reducible refine th_ho ?_); (try simp (disch := first | omega | (simp only [size_app, size_mk, List.size_toArray, List.length_cons, List.length_nil]; omega)) only [go_sem, *]))
        | ((with_reducible refine th_opm ?_ (by kernel_rfl) (aL_run ?_)) <;> (try simp (disch := first | omega | (simp only [size_app, size_mk, List.size_toArray, List.length_cons, List.length_nil]; omega)) only [go_sem, *]))
        | ((with_reducible refine th_altm ?_ (by kernel_rfl) (aL_run ?_) ?_) <;> (try simp (disch := first | omega | (simp only [size_app, size_mk, List.size_toArray, List.length_cons, List.length_nil]; omega)) only [go_sem, *]))
        | ((with_reducible refine hcall_of_callOk 40 true (iShowEvent_ok (m.events.getD (k + 1) eventZ) hek'.out) ?_ ?_ ?_ ?_ ?_); (focus (simp (disch := omega) only [go_sem, natLe_ok]; done)); (focus (simp (disch := omega) only [go_sem, natLe_ok]; done)); (focus (simp (disch := omega) only [go_sem, natLe_ok]; done)); (focus (simp (disch := omega) only [go_sem, natLe_ok]; done)); simp only [go_sem]; refine aL_run ?_; (try simp (disch := first | omega | (simp only [size_app, size_mk, List.size_toArray, List.length_cons, List.length_nil]; omega)) only [go_sem, *])))
      all_goals (try simp (disch := omega) only [EndK, go_sem, natLe_ok, *])
      refine ⟨⟨k + 1 + 1, by omega⟩, ?_, by simp only; omega⟩
      rw [smSs]
      first | (refine weak_canon [1, 3, 7, 8, 9] [0, 3] ?_ ?_ ?_ <;> (simp (disch := omega) only [go_sem, e, sz]; done)) | trace_state
  · have e1 : m.events.take k = m.events := List.take_of_length_le (by omega)
    rw [e1] at lk ⊢
    cases k with
    | zero =>
      have en : m.events = [] := List.eq_nil_of_length_eq_zero (by omega)
      have eq' : evsB m.events = ⟨#[]⟩ := by rw [en]; rfl
      rw [eq', nil_app] at eo
      clear e1 en
      simp (disch := omega) only [go_sem, smS0]
      repeat' (first
        | (with_reducible refine i_seq ?_)
        | ((with_reducible refine i_block ?_); (try simp (disch := first | omega | (simp only [size_app, size_mk, List.size_toArray, List.length_cons, List.length_nil]; omega)) only [go_sem, nil_app, Tryd.underlying5, bytesOf, *]))
        | ((with_reducible refine i_regionQ (fun Q' hQ => ?_)); (try simp (disch := first | omega | (simp only [size_app, size_mk, List.size_toArray, List.length_cons, List.length_nil]; omega)) only [go_sem, nil_app, Tryd.underlying5, bytesOf, *]))
        | ((with_reducible refine Imp.go hQ ?_); clear hQ; (try simp (disch := first | omega | (simp only [size_app, size_mk, List.size_toArray, List.length_cons, List.length_nil]; omega)) only [go_sem, nil_app, Tryd.underlying5, bytesOf, *]))
        | ((with_reducible refine resOk_g (fun h => ?_) (fun h => ?_)) <;> (try simp only [Bool.not_eq_eq_eq_not, Bool.not_true, Bool.not_false, reduceCtorEq] at h) <;> (try have h' := of_decide_eq_true h) <;> (try (have hz : (_ : Int) = (_ : Int) := h'; clear hz h')) <;> (try have h' := of_decide_eq_false h) <;> (try have h' := inB_t h) <;> (try (exfalso; omega)) <;> (try simp (disch := first | omega | (simp only [size_app, size_mk, List.size_toArray, List.length_cons, List.length_nil]; omega)) only [go_sem, nil_app, Tryd.underlying5, bytesOf, *]))
        | (((with_reducible refine i_condT ?_ ?_); (focus (simp only [go_sem, *]; done))) <;> (try simp (disch := first | omega | (simp only [size_app, size_mk, List.size_toArray, List.length_cons, List.length_nil]; omega)) only [go_sem, nil_app, Tryd.underlying5, bytesOf, *]))
        | (((with_reducible refine i_condF ?_ ?_); (focus (simp only [go_sem, *]; done))) <;> (try simp (disch := first | omega | (simp only [size_app, size_mk, List.size_toArray, List.length_cons, List.length_nil]; omega)) only [go_sem, nil_app, Tryd.underlying5, bytesOf, *]))
        | ((with_reducible refine i_cond (by simp only [go_sem, *] <;> rfl) (fun h => ?_) (fun h => ?_)) <;> (try simp only [Bool.not_eq_eq_eq_not, Bool.not_true, Bool.not_false, reduceCtorEq] at h) <;> (try have h' := of_decide_eq_true h) <;> (try (have hz : (_ : Int) = (_ : Int) := h'; clear hz h')) <;> (try have h' := of_decide_eq_false h) <;> (try have h' := inB_t h) <;> (try (exfalso; omega)) <;> (try simp (disch := first | omega | (simp only [size_app, size_mk, List.size_toArray, List.length_cons, List.length_nil]; omega)) only [go_sem, nil_app, Tryd.underlying5, bytesOf, *]))
        | (with_reducible refine i_th (id := 7) (.ho [0, 1, 2, 3] (opm 4 [1] [false, true] (opm 5 [1] [true] (.ho [6, 7, 8] (.stop))))) mixedT (by kernel_rfl) (fun Q' hQ => ?_))
        | (with_reducible exact th_none)
        | ((with_reducible refine th_stop ?_ ?_) <;> (try simp (disch := first | omega | (simp only [size_app, size_mk, List.size_toArray, List.length_cons, List.length_nil]; omega)) only [go_sem, nil_app, Tryd.underlying5, bytesOf, *]))
        | ((with_reducible refine th_ho ?_); (try simp (disch := first | omega | (simp only [size_app, size_mk, List.size_toArray, List.length_cons, List.length_nil]; omega)) only [go_sem, nil_app, Tryd.underlying5, bytesOf, *]))
        | ((with_reducible refine th_opm ?_ (by kernel_rfl) (aL_run ?_)) <;> (try simp (disch := first | omega | (simp only [size_app, size_mk, List.size_toArray, List.length_cons, List.length_nil]; omega)) only [go_sem, nil_app, Tryd.underlying5, bytesOf, *]))
        | ((with_reducible refine th_altm ?_ (by kernel_rfl) (aL_run ?_) ?_) <;> (try simp (disch := first | omega | (simp only [size_app, size_mk, List.size_toArray, List.length_cons, List.length_nil]; omega)) only [go_sem, nil_app, Tryd.underlying5, bytesOf, *]))
        | ((with_reducible refine hcall_of_callOk 40 true (iVerdict_ok m hm'.out) ?_ ?_ ?_ ?_ ?_); (focus (simp (disch := omega) only [go_sem, nil_app, Tryd.underlying5, bytesOf, natLe_ok]; done)); (focus (simp (disch := omega) only [go_sem, nil_app, Tryd.underlying5, bytesOf, natLe_ok]; done)); (focus (simp (disch := omega) only [go_sem, nil_app, Tryd.underlying5, bytesOf, natLe_ok]; done)); (focus (simp (disch := omega) only [go_sem, nil_app, Tryd.underlying5, bytesOf, natLe_ok]; done)); simp only [go_sem, nil_app, Tryd.underlying5, bytesOf]; refine aL_run ?_; (try simp (disch := first | omega | (simp only [size_app, size_mk, List.size_toArray, List.length_cons, List.length_nil]; omega)) only [go_sem, nil_app, Tryd.underlying5, bytesOf, *]))
        | ((with_reducible refine hcall_of_callOk 40 true (hdd) ?_ ?_ ?_ ?_ ?_); (focus (simp (disch := omega) only [go_sem, nil_app, Tryd.underlying5, bytesOf, natLe_ok]; done)); (focus (simp (disch := omega) only [go_sem, nil_app, Tryd.underlying5, bytesOf, natLe_ok]; done)); (focus (simp (disch := omega) only [go_sem, nil_app, Tryd.underlying5, bytesOf, natLe_ok]; done)); (focus (simp (disch := omega) only [go_sem, nil_app, Tryd.underlying5, bytesOf, natLe_ok]; done)); simp only [go_sem, nil_app, Tryd.underlying5, bytesOf]; refine aL_run ?_; (try simp (disch := first | omega | (simp only [size_app, size_mk, List.size_toArray, List.length_cons, List.length_nil]; omega)) only [go_sem, nil_app, Tryd.underlying5, bytesOf, *])))
      all_goals (try simp (disch := omega) only [EndK, go_sem, nil_app, Tryd.underlying5, bytesOf, natLe_ok, *])
    | succ k =>
      clear e1
      simp (disch := omega) only [go_sem, smSs]
      generalize evsB m.events = q at *
      repeat' (first
        | (with_reducible refine i_seq ?_)
        | ((with_reducible refine i_block ?_); (try simp (disch := first | omega | (simp only [size_app, size_mk, List.size_toArray, List.length_cons, List.length_nil]; omega)) only [go_sem, Tryd.underlying5, *]))
        | ((with_reducible refine i_regionQ (fun Q' hQ => ?_)); (try simp (disch := first | omega | (simp only [size_app, size_mk, List.size_toArray, List.length_cons, List.length_nil]; omega)) only [go_sem, Tryd.underlying5, *]))
        | ((with_reducible refine Imp.go hQ ?_); clear hQ; (try simp (disch := first | omega | (simp only [size_app, size_mk, List.size_toArray, List.length_cons, List.length_nil]; omega)) only [go_sem, Tryd.underlying5, *]))
        | ((with_reducible refine resOk_g (fun h => ?_) (fun h => ?_)) <;> (try simp only [Bool.not_eq_eq_eq_not, Bool.not_true, Bool.not_false, reduceCtorEq] at h) <;> (try have h' := of_decide_eq_true h) <;> (try (have hz : (_ : Int) = (_ : Int) := h'; clear hz h')) <;> (try have h' := of_decide_eq_false h) <;> (try have h' := inB_t h) <;> (try (exfalso; omega)) <;> (try simp (disch := first | omega | (simp only [size_app, size_mk, List.size_toArray, List.length_cons, List.length_nil]; omega)) only [go_sem, Tryd.underlying5, *]))
        | (((with_reducible refine i_condT ?_ ?_); (focus (simp only [go_sem, *]; done))) <;> (try simp (disch := first | omega | (simp only [size_app, size_mk, List.size_toArray, List.length_cons, List.length_nil]; omega)) only [go_sem, Tryd.underlying5, *]))
        | (((with_reducible refine i_condF ?_ ?_); (focus (simp only [go_sem, *]; done))) <;> (try simp (disch := first | omega | (simp only [size_app, size_mk, List.size_toArray, List.length_cons, List.length_nil]; omega)) only [go_sem, Tryd.underlying5, *]))
        | ((with_reducible refine i_cond (by simp only [go_sem, *] <;> rfl) (fun h => ?_) (fun h => ?_)) <;> (try simp only [Bool.not_eq_eq_eq_not, Bool.not_true, Bool.not_false, reduceCtorEq] at h) <;> (try have h' := of_decide_eq_true h) <;> (try (have hz : (_ : Int) = (_ : Int) := h'; clear hz h')) <;> (try have h' := of_decide_eq_false h) <;> (try have h' := inB_t h) <;> (try (exfalso; omega)) <;> (try simp (disch := first | omega | (simp only [size_app, size_mk, List.size_toArray, List.length_cons, List.length_nil]; omega)) only [go_sem, Tryd.underlying5, *]))
        | (with_reducible refine i_th (id := 7) (.ho [0, 1, 2, 3] (opm 4 [1] [false, true] (opm 5 [1] [true] (.ho [6, 7, 8] (.stop))))) mixedT (by kernel_rfl) (fun Q' hQ => ?_))
        | (with_reducible exact th_none)
        | ((with_reducible refine th_stop ?_ ?_) <;> (try simp (disch := first | omega | (simp only [size_app, size_mk, List.size_toArray, List.length_cons, List.length_nil]; omega)) only [go_sem, Tryd.underlying5, *]))
        | ((with_reducible refine th_ho ?_); (try simp (disch := first | omega | (simp only [size_app, size_mk, List.size_toArray, List.length_cons, List.length_nil]; omega)) only [go_sem, Tryd.underlying5, *]))
        | ((with_reducible refine th_opm ?_ (by kernel_rfl) (aL_run ?_)) <;> (try simp (disch := first | omega | (simp only [size_app, size_mk, List.size_toArray, List.length_cons, List.length_nil]; omega)) only [go_sem, Tryd.underlying5, *]))
        | ((with_reducible refine th_altm ?_ (by kernel_rfl) (aL_run ?_) ?_) <;> (try simp (disch := first | omega | (simp only [size_app, size_mk, List.size_toArray, List.length_cons, List.length_nil]; omega)) only [go_sem, Tryd.underlying5, *]))
        | ((with_reducible refine hcall_of_callOk 40 true (iVerdict_ok m hm'.out) ?_ ?_ ?_ ?_ ?_); (focus (simp (disch := omega) only [go_sem, Tryd.underlying5, natLe_ok]; done)); (focus (simp (disch := omega) only [go_sem, Tryd.underlying5, natLe_ok]; done)); (focus (simp (disch := omega) only [go_sem, Tryd.underlying5, natLe_ok]; done)); (focus (simp (disch := omega) only [go_sem, Tryd.underlying5, natLe_ok]; done)); simp only [go_sem, Tryd.underlying5]; refine aL_run ?_; (try simp (disch := first | omega | (simp only [size_app, size_mk, List.size_toArray, List.length_cons, List.length_nil]; omega)) only [go_sem, Tryd.underlying5, *]))
        | ((with_reducible refine hcall_of_callOk 40 true (hdd) ?_ ?_ ?_ ?_ ?_); (focus (simp (disch := omega) only [go_sem, Tryd.underlying5, natLe_ok]; done)); (focus (simp (disch := omega) only [go_sem, Tryd.underlying5, natLe_ok]; done)); (focus (simp (disch := omega) only [go_sem, Tryd.underlying5, natLe_ok]; done)); (focus (simp (disch := omega) only [go_sem, Tryd.underlying5, natLe_ok]; done)); simp only [go_sem, Tryd.underlying5]; refine aL_run ?_; (try simp (disch := first | omega | (simp only [size_app, size_mk, List.size_toArray, List.length_cons, List.length_nil]; omega)) only [go_sem, Tryd.underlying5, *])))
      all_goals (try simp (disch := omega) only [EndK, go_sem, Tryd.underlying5, natLe_ok, *])
def okMachine (m : Machine) : Prop := bgMachine m ∧ ∀ e ∈ m.events, evOk e
theorem lawShowMachine_ok (m : Machine) (hx : okMachine m) : CallOk Tryd.prog 5 [.agg (machineR m)] (.s (.one (bV true))) [none] := by
  obtain ⟨hb, he⟩ := hx
  have hb' := Hid.mk hb
  have he' := Hid.mk he
  clear hb he
  refine callOk_of_hcall 40 (hcall_of_body Tryd.func5 rfl (by kernel_rfl) ?_)
  simp (disch := omega) only [go_sem, Tryd.ntmps5, Tryd.results5]
  repeat' (first
    | (with_reducible refine i_seq ?_)
    | ((with_reducible refine i_block ?_); (try simp (disch := omega) only [go_sem, *]))
    | ((with_reducible refine i_regionQ (fun Q' hQ => ?_)); (try simp (disch := omega) only [go_sem, *]))
    | ((with_reducible refine Imp.go hQ ?_); clear hQ; (try simp (disch := omega) only [go_sem, *]))
    | ((with_reducible refine resOk_g (fun h => ?_) (fun h => ?_)) <;> (try simp only [Bool.not_eq_eq_eq_not, Bool.not_true, Bool.not_false, reduceCtorEq] at h) <;> (try have h' := of_decide_eq_true h) <;> (try (have hz : (_ : Int) = (_ : Int) := h'; clear hz h')) <;> (try have h' := of_decide_eq_false h) <;> (try have h' := inB_t h) <;> (try (exfalso; omega)) <;> (try simp (disch := omega) only [go_sem, *]))
    | (((with_reducible refine i_condT ?_ ?_); (focus (simp only [go_sem, *]; done))) <;> (try simp (disch := omega) only [go_sem, *]))
    | (((with_reducible refine i_condF ?_ ?_); (focus (simp only [go_sem, *]; done))) <;> (try simp (disch := omega) only [go_sem, *]))
    | ((with_reducible refine i_cond (by simp only [go_sem, *] <;> rfl) (fun h => ?_) (fun h => ?_)) <;> (try simp only [Bool.not_eq_eq_eq_not, Bool.not_true, Bool.not_false, reduceCtorEq] at h) <;> (try have h' := of_decide_eq_true h) <;> (try (have hz : (_ : Int) = (_ : Int) := h'; clear hz h')) <;> (try have h' := of_decide_eq_false h) <;> (try have h' := inB_t h) <;> (try (exfalso; omega)) <;> (try simp (disch := omega) only [go_sem, *]))
    | (with_reducible refine i_th (id := 10) (.ho [0, 1] (opm 2 [0] [false, true] (opm 3 [] [false] (.ho [4] (.stop))))) mixedT (by kernel_rfl) (fun Q' hQ => ?_))
    | (with_reducible exact th_none)
    | ((with_reducible refine th_stop ?_ ?_) <;> (try simp (disch := omega) only [go_sem, *]))
    | ((with_reducible refine th_ho ?_); (try simp (disch := omega) only [go_sem, *]))
    | ((with_reducible refine th_opm ?_ (by kernel_rfl) (aL_run ?_)) <;> (try simp (disch := omega) only [go_sem, *]))
    | ((with_reducible refine th_altm ?_ (by kernel_rfl) (aL_run ?_) ?_) <;> (try simp (disch := omega) only [go_sem, *]))
    | ((with_reducible refine hcall_of_callE 40 true (szMachine_ok m 1048576 (by omega) hb'.out) ?_ ?_ ?_ ?_ ?_); (focus (simp (disch := omega) only [go_sem, natLe_ok]; done)); (focus (simp (disch := omega) only [go_sem, natLe_ok]; done)); (focus (rintro r ⟨hr1, hr2, hr3⟩; (try dsimp only at hr1); (try dsimp only at hr2); (try dsimp only at hr3); (try simp (disch := omega) only [go_sem, natLe_ok]); done)); (focus (rintro r ⟨hr1, hr2, hr3⟩; (try dsimp only at hr1); (try dsimp only at hr2); (try dsimp only at hr3); (try simp (disch := omega) only [go_sem, natLe_ok]); done)); rintro r ⟨hr1, hr2, hr3⟩; (try dsimp only at hr1); (try dsimp only at hr2); (try dsimp only at hr3); simp only [go_sem]; refine aL_run ?_; (try simp (disch := omega) only [go_sem, *])))
  all_goals (try simp (disch := omega) only [EndK, go_sem, natLe_ok, *])
  have hs := Hid.mk (hr3 (by omega))
  clear hr3
  repeat' (first
    | (with_reducible refine i_seq ?_)
    | ((with_reducible refine i_block ?_); (try simp (disch := omega) only [go_sem, seq_self, *]))
    | ((with_reducible refine i_regionQ (fun Q' hQ => ?_)); (try simp (disch := omega) only [go_sem, seq_self, *]))
    | ((with_reducible refine Imp.go hQ ?_); clear hQ; (try simp (disch := omega) only [go_sem, seq_self, *]))
    | ((with_reducible refine resOk_g (fun h => ?_) (fun h => ?_)) <;> (try simp only [Bool.not_eq_eq_eq_not, Bool.not_true, Bool.not_false, reduceCtorEq] at h) <;> (try have h' := of_decide_eq_true h) <;> (try (have hz : (_ : Int) = (_ : Int) := h'; clear hz h')) <;> (try have h' := of_decide_eq_false h) <;> (try have h' := inB_t h) <;> (try (exfalso; omega)) <;> (try simp (disch := omega) only [go_sem, seq_self, *]))
    | (((with_reducible refine i_condT ?_ ?_); (focus (simp only [go_sem, *]; done))) <;> (try simp (disch := omega) only [go_sem, seq_self, *]))
    | (((with_reducible refine i_condF ?_ ?_); (focus (simp only [go_sem, *]; done))) <;> (try simp (disch := omega) only [go_sem, seq_self, *]))
    | ((with_reducible refine i_cond (by simp only [go_sem, *] <;> rfl) (fun h => ?_) (fun h => ?_)) <;> (try simp only [Bool.not_eq_eq_eq_not, Bool.not_true, Bool.not_false, reduceCtorEq] at h) <;> (try have h' := of_decide_eq_true h) <;> (try (have hz : (_ : Int) = (_ : Int) := h'; clear hz h')) <;> (try have h' := of_decide_eq_false h) <;> (try have h' := inB_t h) <;> (try (exfalso; omega)) <;> (try simp (disch := omega) only [go_sem, seq_self, *]))
    | (with_reducible refine i_th (id := 10) (.ho [0, 1] (opm 2 [0] [false, true] (opm 3 [] [false] (.ho [4] (.stop))))) mixedT (by kernel_rfl) (fun Q' hQ => ?_))
    | (with_reducible exact th_none)
    | ((with_reducible refine th_stop ?_ ?_) <;> (try simp (disch := omega) only [go_sem, seq_self, *]))
    | ((with_reducible refine th_ho ?_); (try simp (disch := omega) only [go_sem, seq_self, *]))
    | ((with_reducible refine th_opm ?_ (by kernel_rfl) (aL_run ?_)) <;> (try simp (disch := omega) only [go_sem, seq_self, *]))
    | ((with_reducible refine th_altm ?_ (by kernel_rfl) (aL_run ?_) ?_) <;> (try simp (disch := omega) only [go_sem, seq_self, *]))
    | ((with_reducible refine hcall_of_callOk 40 true (toMachine_ok m hs.out) ?_ ?_ ?_ ?_ ?_); (focus (simp (disch := omega) only [go_sem, seq_self, natLe_ok]; done)); (focus (simp (disch := omega) only [go_sem, seq_self, natLe_ok]; done)); (focus (simp (disch := omega) only [go_sem, seq_self, natLe_ok]; done)); (focus (simp (disch := omega) only [go_sem, seq_self, natLe_ok]; done)); simp only [go_sem, seq_self]; refine aL_run ?_; (try simp (disch := omega) only [go_sem, seq_self, *]))
    | ((with_reducible refine hcall_of_callOk 40 true (sShowMachine_ok m hs.out he'.out) ?_ ?_ ?_ ?_ ?_); (focus (simp (disch := omega) only [go_sem, seq_self, natLe_ok]; done)); (focus (simp (disch := omega) only [go_sem, seq_self, natLe_ok]; done)); (focus (simp (disch := omega) only [go_sem, seq_self, natLe_ok]; done)); (focus (simp (disch := omega) only [go_sem, seq_self, natLe_ok]; done)); simp only [go_sem, seq_self]; refine aL_run ?_; (try simp (disch := omega) only [go_sem, seq_self, *]))
    | ((with_reducible refine hcall_of_callOk 40 true (iShowMachine_ok m hs.out he'.out) ?_ ?_ ?_ ?_ ?_); (focus (simp (disch := omega) only [go_sem, seq_self, natLe_ok]; done)); (focus (simp (disch := omega) only [go_sem, seq_self, natLe_ok]; done)); (focus (simp (disch := omega) only [go_sem, seq_self, natLe_ok]; done)); (focus (simp (disch := omega) only [go_sem, seq_self, natLe_ok]; done)); simp only [go_sem, seq_self]; refine aL_run ?_; (try simp (disch := omega) only [go_sem, seq_self, *]))
    | ((with_reducible refine hcall_of_callOk 40 true (eqMachine_ok m hs.out) ?_ ?_ ?_ ?_ ?_); (focus (simp (disch := omega) only [go_sem, seq_self, natLe_ok]; done)); (focus (simp (disch := omega) only [go_sem, seq_self, natLe_ok]; done)); (focus (simp (disch := omega) only [go_sem, seq_self, natLe_ok]; done)); (focus (simp (disch := omega) only [go_sem, seq_self, natLe_ok]; done)); simp only [go_sem, seq_self]; refine aL_run ?_; (try simp (disch := omega) only [go_sem, seq_self, *])))
  all_goals (try simp (disch := omega) only [EndK, go_sem, seq_self, natLe_ok, *])
  all_goals trace_state
end Go.Proofs.YtgeoipplkjgnfaaDoor.E
