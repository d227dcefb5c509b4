import Derived.Test.YtgeoipplkjgnfaaDoorD8
import Derived.Test.YtgeoipplkjgnfaaDoorEng31
set_option linter.unusedVariables false
set_option linter.unusedSimpArgs false
set_option maxRecDepth 100000
set_option maxHeartbeats 4000000
namespace Go.Proofs.YtgeoipplkjgnfaaDoor.E
theorem ti82 : ti Tryd.prog 82 = some ⟨.st [(0, 1, false), (1, 1, false), (2, 1, false)], 3, 40, true, [.slice none 0 0, .int .i64 0, .int .i64 0]⟩ := by kernel_rfl
theorem ni82 : notInt Tryd.prog 82 = true := by kernel_rfl
theorem ti87 : ti Tryd.prog 87 = some ⟨.st [(0, 1, false), (1, 1, false), (2, 1, false)], 3, 40, true, [.slice none 0 0, .int .i64 0, .int .i64 0]⟩ := by kernel_rfl
theorem ni87 : notInt Tryd.prog 87 = true := by kernel_rfl
theorem ti39 : ti Tryd.prog 39 = some ⟨.sl 82, 1, 24, false, [.slice none 0 0]⟩ := by kernel_rfl
theorem ni39 : notInt Tryd.prog 39 = true := by kernel_rfl
theorem ti50 : ti Tryd.prog 50 = some ⟨.sl 87, 1, 24, false, [.slice none 0 0]⟩ := by kernel_rfl
theorem ni50 : notInt Tryd.prog 50 = true := by kernel_rfl
attribute [go_sem] ti82 ni82 ti87 ni87 ti39 ni39 ti50 ni50
structure Core where
  regs : List Int
  pc : Int
  process : Int
def coreT (x : Core) : List T := [.own 1 (intsT x.regs), iV x.pc, iV x.process]
def coreR (x : Core) : List T := [.ro 1 (intsD x.regs), iV x.pc, iV x.process]
attribute [go_sem] coreT coreR
def coreD (x : Core) : List D := [.l 1 (intsD x.regs), D.v (.int .i64 x.pc), D.v (.int .i64 x.process)]
attribute [go_sem] coreD
def coreZ : Core := ⟨[], 0, 0⟩
def smCore (x : Core) : Prop := x.regs.length ≤ 1048576
def bgCore (x : Core) : Prop := x.regs.length ≤ 9223372036854775807
theorem szCore_ok (x : Core) (left : Int) (h : 0 ≤ left ∧ left ≤ 1048576) (hb : bgCore x) : CallE Tryd.prog 44 [.agg (coreR x), .one (iV left)] (fun r : Int => .s (.one (iV r))) (fun _ => [none, none]) (fun r => -1 ≤ r ∧ r ≤ left ∧ (0 ≤ r → smCore x)) := by
  have hb0 := id hb
  unfold bgCore at hb0
  refine callE_of_hcall 40 (hcall_of_body Tryd.func44 rfl (by kernel_rfl) ?_)
  simp (disch := omega) only [go_sem, Tryd.ntmps44, Tryd.results44]
  repeat' (first
    | (with_reducible refine i_seq ?_)
    | ((with_reducible refine i_block ?_); (try simp (disch := omega) only [go_sem, *]))
    | ((with_reducible refine i_regionQ (fun Q' hQ => ?_)); (try simp (disch := omega) only [go_sem, *]))
    | ((with_reducible refine Imp.go hQ ?_); clear hQ; (try simp (disch := omega) only [go_sem, *]))
    | ((with_reducible refine resOk_g (fun h => ?_) (fun h => ?_)) <;> (try simp only [Bool.not_eq_eq_eq_not, Bool.not_true, Bool.not_false, reduceCtorEq] at h) <;> (try have h' := of_decide_eq_true h) <;> (try (have hz : (_ : Int) = (_ : Int) := h'; clear hz h')) <;> (try have h' := of_decide_eq_false h) <;> (try have h' := inB_t h) <;> (try (exfalso; omega)) <;> (try simp (disch := omega) only [go_sem, *]))
    | (((with_reducible refine i_condT ?_ ?_); (focus (simp only [go_sem, *]; done))) <;> (try simp (disch := omega) only [go_sem, *]))
    | (((with_reducible refine i_condF ?_ ?_); (focus (simp only [go_sem, *]; done))) <;> (try simp (disch := omega) only [go_sem, *]))
    | ((with_reducible refine i_cond (by simp only [go_sem, *] <;> rfl) (fun h => ?_) (fun h => ?_)) <;> (try simp only [Bool.not_eq_eq_eq_not, Bool.not_true, Bool.not_false, reduceCtorEq] at h) <;> (try have h' := of_decide_eq_true h) <;> (try (have hz : (_ : Int) = (_ : Int) := h'; clear hz h')) <;> (try have h' := of_decide_eq_false h) <;> (try have h' := inB_t h) <;> (try (exfalso; omega)) <;> (try simp (disch := omega) only [go_sem, *]))
    | ((with_reducible refine hcall_of_callE 40 true (szIntS_ok x.regs left (by omega) hb0) ?_ ?_ ?_ ?_ ?_); (focus (simp (disch := omega) only [go_sem, natLe_ok]; done)); (focus (simp (disch := omega) only [go_sem, natLe_ok]; done)); (focus (rintro r0 ⟨ha0, hc0, hd0⟩; (try dsimp only at ha0); (try dsimp only at hc0); (try dsimp only at hd0); (try simp (disch := omega) only [go_sem, natLe_ok]); done)); (focus (rintro r0 ⟨ha0, hc0, hd0⟩; (try dsimp only at ha0); (try dsimp only at hc0); (try dsimp only at hd0); (try simp (disch := omega) only [go_sem, natLe_ok]); done)); rintro r0 ⟨ha0, hc0, hd0⟩; (try dsimp only at ha0); (try dsimp only at hc0); (try dsimp only at hd0); simp only [go_sem]; refine aL_run ?_; (try simp (disch := omega) only [go_sem, *])))
  all_goals (try simp (disch := omega) only [EndK, go_sem, natLe_ok, *])
  all_goals first
    | exact ⟨-1, ⟨by omega, by omega, fun h => by first | trivial | (exfalso; omega)⟩, rfl⟩
    | exact ⟨r0, ⟨by omega, by omega, fun h => by first | trivial | exact hd0 (by omega)⟩, rfl⟩
theorem toCore_ok (x : Core) (hs : smCore x) : CallOk Tryd.prog 49 [.agg (coreR x)] (.s (.agg (coreT x))) [none] := by
  have hs0 := id hs
  unfold smCore at hs0
  refine callOk_of_hcall 40 (hcall_of_body Tryd.func49 rfl (by kernel_rfl) ?_)
  simp (disch := omega) only [go_sem, Tryd.ntmps49, Tryd.results49]
  repeat' (first
    | (with_reducible refine i_seq ?_)
    | ((with_reducible refine i_block ?_); (try simp (disch := omega) only [go_sem, *]))
    | ((with_reducible refine i_regionQ (fun Q' hQ => ?_)); (try simp (disch := omega) only [go_sem, *]))
    | ((with_reducible refine Imp.go hQ ?_); clear hQ; (try simp (disch := omega) only [go_sem, *]))
    | ((with_reducible refine resOk_g (fun h => ?_) (fun h => ?_)) <;> (try simp only [Bool.not_eq_eq_eq_not, Bool.not_true, Bool.not_false, reduceCtorEq] at h) <;> (try have h' := of_decide_eq_true h) <;> (try (have hz : (_ : Int) = (_ : Int) := h'; clear hz h')) <;> (try have h' := of_decide_eq_false h) <;> (try have h' := inB_t h) <;> (try (exfalso; omega)) <;> (try simp (disch := omega) only [go_sem, *]))
    | (((with_reducible refine i_condT ?_ ?_); (focus (simp only [go_sem, *]; done))) <;> (try simp (disch := omega) only [go_sem, *]))
    | (((with_reducible refine i_condF ?_ ?_); (focus (simp only [go_sem, *]; done))) <;> (try simp (disch := omega) only [go_sem, *]))
    | ((with_reducible refine i_cond (by simp only [go_sem, *] <;> rfl) (fun h => ?_) (fun h => ?_)) <;> (try simp only [Bool.not_eq_eq_eq_not, Bool.not_true, Bool.not_false, reduceCtorEq] at h) <;> (try have h' := of_decide_eq_true h) <;> (try (have hz : (_ : Int) = (_ : Int) := h'; clear hz h')) <;> (try have h' := of_decide_eq_false h) <;> (try have h' := inB_t h) <;> (try (exfalso; omega)) <;> (try simp (disch := omega) only [go_sem, *]))
    | ((with_reducible refine hcall_of_callOk 40 true (toIntS_ok x.regs hs0) ?_ ?_ ?_ ?_ ?_); (focus (simp (disch := omega) only [go_sem, natLe_ok]; done)); (focus (simp (disch := omega) only [go_sem, natLe_ok]; done)); (focus (simp (disch := omega) only [go_sem, natLe_ok]; done)); (focus (simp (disch := omega) only [go_sem, natLe_ok]; done)); simp only [go_sem]; refine aL_run ?_; (try simp (disch := omega) only [go_sem, *])))
  all_goals (try simp (disch := omega) only [EndK, go_sem, natLe_ok, *])
theorem eqCore_ok (x : Core) (hs : smCore x) : CallOk Tryd.prog 54 [.agg (coreR x), .agg (coreR x)] (.s (.one (bV true))) [none, none] := by
  have hs0 := id hs
  unfold smCore at hs0
  refine callOk_of_hcall 40 (hcall_of_body Tryd.func54 rfl (by kernel_rfl) ?_)
  simp (disch := omega) only [go_sem, Tryd.ntmps54, Tryd.results54]
  repeat' (first
    | (with_reducible refine i_seq ?_)
    | ((with_reducible refine i_block ?_); (try simp (disch := omega) only [go_sem, bne_self_eq_false, *]))
    | ((with_reducible refine i_regionQ (fun Q' hQ => ?_)); (try simp (disch := omega) only [go_sem, bne_self_eq_false, *]))
    | ((with_reducible refine Imp.go hQ ?_); clear hQ; (try simp (disch := omega) only [go_sem, bne_self_eq_false, *]))
    | ((with_reducible refine resOk_g (fun h => ?_) (fun h => ?_)) <;> (try simp only [Bool.not_eq_eq_eq_not, Bool.not_true, Bool.not_false, reduceCtorEq] at h) <;> (try have h' := of_decide_eq_true h) <;> (try (have hz : (_ : Int) = (_ : Int) := h'; clear hz h')) <;> (try have h' := of_decide_eq_false h) <;> (try have h' := inB_t h) <;> (try (exfalso; omega)) <;> (try simp (disch := omega) only [go_sem, bne_self_eq_false, *]))
    | (((with_reducible refine i_condT ?_ ?_); (focus (simp only [go_sem, *]; done))) <;> (try simp (disch := omega) only [go_sem, bne_self_eq_false, *]))
    | (((with_reducible refine i_condF ?_ ?_); (focus (simp only [go_sem, *]; done))) <;> (try simp (disch := omega) only [go_sem, bne_self_eq_false, *]))
    | ((with_reducible refine i_cond (by simp only [go_sem, *] <;> rfl) (fun h => ?_) (fun h => ?_)) <;> (try simp only [Bool.not_eq_eq_eq_not, Bool.not_true, Bool.not_false, reduceCtorEq] at h) <;> (try have h' := of_decide_eq_true h) <;> (try (have hz : (_ : Int) = (_ : Int) := h'; clear hz h')) <;> (try have h' := of_decide_eq_false h) <;> (try have h' := inB_t h) <;> (try (exfalso; omega)) <;> (try simp (disch := omega) only [go_sem, bne_self_eq_false, *]))
    | ((with_reducible refine hcall_of_callOk 40 true (eqIntS_ok x.regs hs0) ?_ ?_ ?_ ?_ ?_); (focus (simp (disch := omega) only [go_sem, bne_self_eq_false, natLe_ok]; done)); (focus (simp (disch := omega) only [go_sem, bne_self_eq_false, natLe_ok]; done)); (focus (simp (disch := omega) only [go_sem, bne_self_eq_false, natLe_ok]; done)); (focus (simp (disch := omega) only [go_sem, bne_self_eq_false, natLe_ok]; done)); simp only [go_sem, bne_self_eq_false]; refine aL_run ?_; (try simp (disch := omega) only [go_sem, bne_self_eq_false, *])))
  all_goals (try simp (disch := omega) only [EndK, go_sem, bne_self_eq_false, natLe_ok, *])
/-! Lists of it. -/
instance : Inhabited Core := ⟨coreZ⟩
def coresT (xs : List Core) : List (List T) := xs.map coreT
def coresD (xs : List Core) : List (List D) := xs.map coreD
theorem coresT_nil : coresT [] = [] := rfl
theorem coresT_len (xs : List Core) : (coresT xs).length = xs.length := by simp [coresT]
theorem coresD_len (xs : List Core) : (coresD xs).length = xs.length := by simp [coresD]
theorem coresD_get {xs : List Core} {k : Nat} (h : k < xs.length) : (coresD xs)[k]? = some (coreD (xs.getD k coreZ)) := by simp [coresD, h]
theorem coresT_get {xs : List Core} {k : Nat} (h : k < xs.length) : (coresT xs)[k]? = some (coreT (xs.getD k coreZ)) := by simp [coresT, h]
theorem coresT_take (xs : List Core) (n : Nat) : (coresT xs).take n = coresT (xs.take n) := by simp [coresT, List.map_take]
theorem coresD_take (xs : List Core) (n : Nat) : (coresD xs).take n = coresD (xs.take n) := by simp [coresD, List.map_take]
theorem coresD_ofD (xs : List Core) : (coresD xs).map (·.map ofD) = xs.map coreR := by rw [coresD, List.map_map]; rfl
theorem coresT_closed (xs : List Core) : closedRows (coresT xs) = true := closed_map (fun x => by simp [coreT, closedRow, closedT, isNil, intsT_closed]) xs
theorem coresT_noRo (xs : List Core) : noRoRows (coresT xs) = true := noRo_map (fun x => by simp [coreT, noRoRow, noRo, isNil, intsT_noRo]) xs
theorem coresT_look {n : Nat} {H : List AObj} (xs : List Core) : lookRowsBy (lookD (n + 2) H) (coresT xs) (coresD xs) := lookRowsBy_map fun x _ => ⟨⟨rfl, intsT_look _⟩, ⟨rfl, ⟨rfl, trivial⟩⟩⟩
attribute [go_sem] coresT_nil coresT_len coresD_len coresD_get coresT_get coresT_take coresD_take coresT_closed coresT_noRo coresT_look
theorem szCoreS_ok (xs : List Core) (left : Int) (h : 0 ≤ left ∧ left ≤ 1048576) (hb : xs.length ≤ 9223372036854775807 ∧ ∀ y ∈ xs, bgCore y) : CallE Tryd.prog 29 [.one (.ro 3 (coresD xs)), .one (iV left)] (fun r : Int => .s (.one (iV r))) (fun _ => [none, none]) (fun r => -1 ≤ r ∧ r ≤ left ∧ (0 ≤ r → xs.length ≤ 1048576 ∧ ∀ y ∈ xs, smCore y)) := by
  obtain ⟨h1, h2⟩ := h
  obtain ⟨hb0, hb1⟩ := hb
  refine callE_of_hcall 40 (hcall_of_body Tryd.func29 rfl (by kernel_rfl) ?_)
  simp (disch := omega) only [go_sem, Tryd.ntmps29, Tryd.results29]
  repeat' (first
    | (with_reducible refine i_seq ?_)
    | ((with_reducible refine i_block ?_); (try simp (disch := omega) only [go_sem, *]))
    | ((with_reducible refine i_regionQ (fun Q' hQ => ?_)); (try simp (disch := omega) only [go_sem, *]))
    | ((with_reducible refine Imp.go hQ ?_); clear hQ; (try simp (disch := omega) only [go_sem, *]))
    | ((with_reducible refine resOk_g (fun h => ?_) (fun h => ?_)) <;> (try simp only [Bool.not_eq_eq_eq_not, Bool.not_true, Bool.not_false, reduceCtorEq] at h) <;> (try have h' := of_decide_eq_true h) <;> (try (have hz : (_ : Int) = (_ : Int) := h'; clear hz h')) <;> (try have h' := of_decide_eq_false h) <;> (try have h' := inB_t h) <;> (try (exfalso; omega)) <;> (try simp (disch := omega) only [go_sem, *]))
    | (((with_reducible refine i_condT ?_ ?_); (focus (simp only [go_sem, *]; done))) <;> (try simp (disch := omega) only [go_sem, *]))
    | (((with_reducible refine i_condF ?_ ?_); (focus (simp only [go_sem, *]; done))) <;> (try simp (disch := omega) only [go_sem, *]))
    | ((with_reducible refine i_cond (by simp only [go_sem, *] <;> rfl) (fun h => ?_) (fun h => ?_)) <;> (try simp only [Bool.not_eq_eq_eq_not, Bool.not_true, Bool.not_false, reduceCtorEq] at h) <;> (try have h' := of_decide_eq_true h) <;> (try (have hz : (_ : Int) = (_ : Int) := h'; clear hz h')) <;> (try have h' := of_decide_eq_false h) <;> (try have h' := inB_t h) <;> (try (exfalso; omega)) <;> (try simp (disch := omega) only [go_sem, *])))
  all_goals (try simp (disch := omega) only [EndK, go_sem, natLe_ok, *])
  · exact ⟨-1, ⟨by omega, by omega, fun h => by first | trivial | (exfalso; omega)⟩, rfl⟩
  refine i_loop (α := {p : Nat × Int // p.1 ≤ xs.length ∧ 0 ≤ p.2 ∧ p.2 ≤ left ∧ ∀ y ∈ xs.take p.1, smCore y}) (fun p => ⟨mkEnv 27 [(0, .one (.ro 3 (coresD xs))), (1, .one (iV p.1.2)), (5, .one (iV p.1.1))], []⟩) (fun p => xs.length - p.1.1) ⟨(0, left - xs.length), by simp, by simp only; omega, by simp only; omega, by simp⟩ ?_ ?_
  · (refine weak_canon [0, 1, 5] [] ?_ ?_ ?_ <;> (simp (disch := omega) only [go_sem]; done))
  rintro ⟨⟨k, lf⟩, hk, hl0, hl1, hp⟩
  simp only at hk hl0 hl1 hp
  simp (disch := omega) only [go_sem]
  by_cases hkl : k < xs.length
  · have hbk := hb1 (xs.getD k coreZ) (by simp [hkl])
    repeat' (first
      | (with_reducible refine i_seq ?_)
      | ((with_reducible refine i_block ?_); (try simp (disch := omega) only [go_sem, *]))
      | ((with_reducible refine i_regionQ (fun Q' hQ => ?_)); (try simp (disch := omega) only [go_sem, *]))
      | ((with_reducible refine Imp.go hQ ?_); clear hQ; (try simp (disch := omega) only [go_sem, *]))
      | ((with_reducible refine resOk_g (fun h => ?_) (fun h => ?_)) <;> (try simp only [Bool.not_eq_eq_eq_not, Bool.not_true, Bool.not_false, reduceCtorEq] at h) <;> (try have h' := of_decide_eq_true h) <;> (try (have hz : (_ : Int) = (_ : Int) := h'; clear hz h')) <;> (try have h' := of_decide_eq_false h) <;> (try have h' := inB_t h) <;> (try (exfalso; omega)) <;> (try simp (disch := omega) only [go_sem, *]))
      | (((with_reducible refine i_condT ?_ ?_); (focus (simp only [go_sem, *]; done))) <;> (try simp (disch := omega) only [go_sem, *]))
      | (((with_reducible refine i_condF ?_ ?_); (focus (simp only [go_sem, *]; done))) <;> (try simp (disch := omega) only [go_sem, *]))
      | ((with_reducible refine i_cond (by simp only [go_sem, *] <;> rfl) (fun h => ?_) (fun h => ?_)) <;> (try simp only [Bool.not_eq_eq_eq_not, Bool.not_true, Bool.not_false, reduceCtorEq] at h) <;> (try have h' := of_decide_eq_true h) <;> (try (have hz : (_ : Int) = (_ : Int) := h'; clear hz h')) <;> (try have h' := of_decide_eq_false h) <;> (try have h' := inB_t h) <;> (try (exfalso; omega)) <;> (try simp (disch := omega) only [go_sem, *]))
      | ((with_reducible refine hcall_of_callE 40 true (szCore_ok (xs.getD k coreZ) lf (by omega) hbk) ?_ ?_ ?_ ?_ ?_); (focus (simp (disch := omega) only [go_sem, natLe_ok]; done)); (focus (simp (disch := omega) only [go_sem, natLe_ok]; done)); (focus (rintro r ⟨hr1, hr2, hr3⟩; (try dsimp only at hr1); (try dsimp only at hr2); (try dsimp only at hr3); (try simp (disch := omega) only [go_sem, natLe_ok]); done)); (focus (rintro r ⟨hr1, hr2, hr3⟩; (try dsimp only at hr1); (try dsimp only at hr2); (try dsimp only at hr3); (try simp (disch := omega) only [go_sem, natLe_ok]); done)); rintro r ⟨hr1, hr2, hr3⟩; (try dsimp only at hr1); (try dsimp only at hr2); (try dsimp only at hr3); simp only [go_sem]; refine aL_run ?_; (try simp (disch := omega) only [go_sem, *])))
    all_goals (try simp (disch := omega) only [EndK, go_sem, natLe_ok, *])
    · exact ⟨-1, ⟨by omega, by omega, fun h => by first | trivial | (exfalso; omega)⟩, rfl⟩
    · refine ⟨⟨(k + 1, r), by simp only; omega, by simp only; omega, by simp only; omega, fun y hy => ?_⟩, ?_, by simp only; omega⟩
      · rw [List.take_succ_eq_append_getElem hkl] at hy
        rcases List.mem_append.1 hy with hy | hy
        · exact hp y hy
        · have e : y = xs.getD k coreZ := by simpa [hkl] using hy
          rw [e]; exact hr3 (by omega)
      · (refine weak_canon [0, 1, 5] [] ?_ ?_ ?_ <;> (simp (disch := omega) only [go_sem]; done))
  ·
    repeat' (first
      | (with_reducible refine i_seq ?_)
      | ((with_reducible refine i_block ?_); (try simp (disch := omega) only [go_sem, *]))
      | ((with_reducible refine i_regionQ (fun Q' hQ => ?_)); (try simp (disch := omega) only [go_sem, *]))
      | ((with_reducible refine Imp.go hQ ?_); clear hQ; (try simp (disch := omega) only [go_sem, *]))
      | ((with_reducible refine resOk_g (fun h => ?_) (fun h => ?_)) <;> (try simp only [Bool.not_eq_eq_eq_not, Bool.not_true, Bool.not_false, reduceCtorEq] at h) <;> (try have h' := of_decide_eq_true h) <;> (try (have hz : (_ : Int) = (_ : Int) := h'; clear hz h')) <;> (try have h' := of_decide_eq_false h) <;> (try have h' := inB_t h) <;> (try (exfalso; omega)) <;> (try simp (disch := omega) only [go_sem, *]))
      | (((with_reducible refine i_condT ?_ ?_); (focus (simp only [go_sem, *]; done))) <;> (try simp (disch := omega) only [go_sem, *]))
      | (((with_reducible refine i_condF ?_ ?_); (focus (simp only [go_sem, *]; done))) <;> (try simp (disch := omega) only [go_sem, *]))
      | ((with_reducible refine i_cond (by simp only [go_sem, *] <;> rfl) (fun h => ?_) (fun h => ?_)) <;> (try simp only [Bool.not_eq_eq_eq_not, Bool.not_true, Bool.not_false, reduceCtorEq] at h) <;> (try have h' := of_decide_eq_true h) <;> (try (have hz : (_ : Int) = (_ : Int) := h'; clear hz h')) <;> (try have h' := of_decide_eq_false h) <;> (try have h' := inB_t h) <;> (try (exfalso; omega)) <;> (try simp (disch := omega) only [go_sem, *])))
    all_goals (try simp (disch := omega) only [EndK, go_sem, natLe_ok, *])
    all_goals exact ⟨lf, ⟨by omega, by omega, fun h => by first | exact fun y hy => hp y (by rw [List.take_of_length_le (by omega)]; exact hy) | exact ⟨by omega, fun y hy => hp y (by rw [List.take_of_length_le (by omega)]; exact hy)⟩⟩, rfl⟩
def coreMix (xs : List Core) (k : Nat) : List (List T) := coresT (xs.take k) ++ List.replicate (xs.length - k) [.v nilV, iV 0, iV 0]
theorem coreMix_len {xs : List Core} {k : Nat} (hk : k ≤ xs.length) : (coreMix xs k).length = xs.length := by
  simp only [coreMix, List.length_append, coresT_len, List.length_take, List.length_replicate]; omega
theorem coreMix_zero (xs : List Core) : coreMix xs 0 = List.replicate xs.length [.v nilV, iV 0, iV 0] := by simp [coreMix, coresT]
theorem coreMix_end {xs : List Core} {k : Nat} (h : xs.length ≤ k) : coreMix xs k = coresT xs := by
  rw [coreMix, List.take_of_length_le h, show xs.length - k = 0 by omega]; simp
theorem coreMix_get {xs : List Core} {k : Nat} (hk : k < xs.length) : (coreMix xs k)[k]? = some [.v nilV, iV 0, iV 0] := by
  have h1 : (coresT (xs.take k)).length = k := by rw [coresT_len, List.length_take]; omega
  rw [coreMix, List.getElem?_append_right (by omega), h1, List.getElem?_replicate]
  simp; omega
theorem coreMix_set {xs : List Core} {k : Nat} (hk : k < xs.length) : (coreMix xs k).set k (coreT (xs.getD k coreZ)) = coreMix xs (k + 1) := by
  have h1 : (coresT (xs.take k)).length = k := by rw [coresT_len, List.length_take]; omega
  have h2 : xs.length - k = (xs.length - (k + 1)) + 1 := by omega
  have h3 : coresT (xs.take (k + 1)) = coresT (xs.take k) ++ [coreT (xs.getD k coreZ)] := by
    have e : xs.getD k coreZ = xs[k] := by simp [hk]
    rw [e, List.take_succ_eq_append_getElem hk]; simp only [coresT, List.map_append, List.map_cons, List.map_nil]
  unfold coreMix
  rw [h2, List.replicate_succ, List.set_append_right _ _ (by omega), h1, Nat.sub_self, List.set_cons_zero, h3, List.append_assoc]
  rfl
theorem coreMix_refs (xs : List Core) (k : Nat) : refsRows (coreMix xs k) = [] := by
  rw [coreMix, refsRows_app, closed_refsRows _ (coresT_closed _), refs_repl rfl]; rfl
theorem coreMix_ren (f : Nat → Nat) (xs : List Core) (k : Nat) : renRows f (coreMix xs k) = coreMix xs k := by
  rw [coreMix, renRows_app, closed_renRows f _ (coresT_closed _), ren_repl rfl]
attribute [go_sem] coreMix_refs coreMix_ren
theorem toCoreS_ok (xs : List Core) (hs : xs.length ≤ 1048576 ∧ ∀ y ∈ xs, smCore y) : CallOk Tryd.prog 35 [.one (.ro 3 (coresD xs))] (.s (.one (.own 3 (coresT xs)))) [none] := by
  obtain ⟨hs, hs1⟩ := hs
  have hz := coreMix_zero xs
  refine callOk_of_hcall 40 (hcall_of_body Tryd.func35 rfl (by kernel_rfl) ?_)
  simp (disch := omega) only [go_sem, Tryd.ntmps35, Tryd.results35]
  repeat' (first
    | (with_reducible refine i_seq ?_)
    | ((with_reducible refine i_block ?_); (try simp (disch := omega) only [go_sem, *]))
    | ((with_reducible refine i_regionQ (fun Q' hQ => ?_)); (try simp (disch := omega) only [go_sem, *]))
    | ((with_reducible refine Imp.go hQ ?_); clear hQ; (try simp (disch := omega) only [go_sem, *]))
    | ((with_reducible refine resOk_g (fun h => ?_) (fun h => ?_)) <;> (try simp only [Bool.not_eq_eq_eq_not, Bool.not_true, Bool.not_false, reduceCtorEq] at h) <;> (try have h' := of_decide_eq_true h) <;> (try (have hz : (_ : Int) = (_ : Int) := h'; clear hz h')) <;> (try have h' := of_decide_eq_false h) <;> (try have h' := inB_t h) <;> (try (exfalso; omega)) <;> (try simp (disch := omega) only [go_sem, *]))
    | (((with_reducible refine i_condT ?_ ?_); (focus (simp only [go_sem, *]; done))) <;> (try simp (disch := omega) only [go_sem, *]))
    | (((with_reducible refine i_condF ?_ ?_); (focus (simp only [go_sem, *]; done))) <;> (try simp (disch := omega) only [go_sem, *]))
    | ((with_reducible refine i_cond (by simp only [go_sem, *] <;> rfl) (fun h => ?_) (fun h => ?_)) <;> (try simp only [Bool.not_eq_eq_eq_not, Bool.not_true, Bool.not_false, reduceCtorEq] at h) <;> (try have h' := of_decide_eq_true h) <;> (try (have hz : (_ : Int) = (_ : Int) := h'; clear hz h')) <;> (try have h' := of_decide_eq_false h) <;> (try have h' := inB_t h) <;> (try (exfalso; omega)) <;> (try simp (disch := omega) only [go_sem, *])))
  all_goals (try simp (disch := omega) only [EndK, go_sem, natLe_ok, *])
  refine i_loop (α := {k : Nat // k ≤ xs.length}) (fun k => ⟨mkEnv 23 [(0, .one (.ro 3 (coresD xs))), (3, .one (.ref 0 0 xs.length)), (4, .one (iV k.1))], [.live 3 (coreMix xs k.1)]⟩) (fun k => xs.length - k.1) ⟨0, by omega⟩ ?_ ?_
  · (refine weak_canon [0, 3, 4] [0] ?_ ?_ ?_ <;> (simp (disch := omega) only [go_sem, ← hz]; done))
  rintro ⟨k, hk⟩
  have hml := coreMix_len hk
  simp (disch := omega) only [go_sem]
  by_cases hkl : k < xs.length
  · have hg := coreMix_get hkl
    have e := coreMix_set hkl
    have hsk := hs1 (xs.getD k coreZ) (by simp [hkl])
    repeat' (first
      | (with_reducible refine i_seq ?_)
      | ((with_reducible refine i_block ?_); (try simp (disch := omega) only [go_sem, *]))
      | ((with_reducible refine i_regionQ (fun Q' hQ => ?_)); (try simp (disch := omega) only [go_sem, *]))
      | ((with_reducible refine Imp.go hQ ?_); clear hQ; (try simp (disch := omega) only [go_sem, *]))
      | ((with_reducible refine resOk_g (fun h => ?_) (fun h => ?_)) <;> (try simp only [Bool.not_eq_eq_eq_not, Bool.not_true, Bool.not_false, reduceCtorEq] at h) <;> (try have h' := of_decide_eq_true h) <;> (try (have hz : (_ : Int) = (_ : Int) := h'; clear hz h')) <;> (try have h' := of_decide_eq_false h) <;> (try have h' := inB_t h) <;> (try (exfalso; omega)) <;> (try simp (disch := omega) only [go_sem, *]))
      | (((with_reducible refine i_condT ?_ ?_); (focus (simp only [go_sem, *]; done))) <;> (try simp (disch := omega) only [go_sem, *]))
      | (((with_reducible refine i_condF ?_ ?_); (focus (simp only [go_sem, *]; done))) <;> (try simp (disch := omega) only [go_sem, *]))
      | ((with_reducible refine i_cond (by simp only [go_sem, *] <;> rfl) (fun h => ?_) (fun h => ?_)) <;> (try simp only [Bool.not_eq_eq_eq_not, Bool.not_true, Bool.not_false, reduceCtorEq] at h) <;> (try have h' := of_decide_eq_true h) <;> (try (have hz : (_ : Int) = (_ : Int) := h'; clear hz h')) <;> (try have h' := of_decide_eq_false h) <;> (try have h' := inB_t h) <;> (try (exfalso; omega)) <;> (try simp (disch := omega) only [go_sem, *]))
      | ((with_reducible refine hcall_of_callOk 40 true (toCore_ok (xs.getD k coreZ) hsk) ?_ ?_ ?_ ?_ ?_); (focus (simp (disch := omega) only [go_sem, natLe_ok]; done)); (focus (simp (disch := omega) only [go_sem, natLe_ok]; done)); (focus (simp (disch := omega) only [go_sem, natLe_ok]; done)); (focus (simp (disch := omega) only [go_sem, natLe_ok]; done)); simp only [go_sem]; refine aL_run ?_; (try simp (disch := omega) only [go_sem, *])))
    all_goals (try simp (disch := omega) only [EndK, go_sem, natLe_ok, *])
    refine ⟨⟨k + 1, by omega⟩, weak_fit2 40 0 k 3 _ _ (coreT (xs.getD k coreZ)) rfl (List.getElem?_set_self (by rw [hml]; exact hkl)) ?_ rfl ?_, by simp only; omega⟩
    · simp (disch := omega) only [go_sem, natLe_ok]
    · have e2 : (coreMix xs k).set k [.own 1 (intsT (xs.getD k coreZ).regs), iV (xs.getD k coreZ).pc, iV (xs.getD k coreZ).process] = coreMix xs (k + 1) := e
      simp (disch := omega) only [go_sem, natLe_ok, List.set_set, e2]
      (refine weak_canon [0, 3, 4] [0] ?_ ?_ ?_ <;> (simp (disch := omega) only [go_sem, e2]; done))
  ·
    repeat' (first
      | (with_reducible refine i_seq ?_)
      | ((with_reducible refine i_block ?_); (try simp (disch := omega) only [go_sem, *]))
      | ((with_reducible refine i_regionQ (fun Q' hQ => ?_)); (try simp (disch := omega) only [go_sem, *]))
      | ((with_reducible refine Imp.go hQ ?_); clear hQ; (try simp (disch := omega) only [go_sem, *]))
      | ((with_reducible refine resOk_g (fun h => ?_) (fun h => ?_)) <;> (try simp only [Bool.not_eq_eq_eq_not, Bool.not_true, Bool.not_false, reduceCtorEq] at h) <;> (try have h' := of_decide_eq_true h) <;> (try (have hz : (_ : Int) = (_ : Int) := h'; clear hz h')) <;> (try have h' := of_decide_eq_false h) <;> (try have h' := inB_t h) <;> (try (exfalso; omega)) <;> (try simp (disch := omega) only [go_sem, *]))
      | (((with_reducible refine i_condT ?_ ?_); (focus (simp only [go_sem, *]; done))) <;> (try simp (disch := omega) only [go_sem, *]))
      | (((with_reducible refine i_condF ?_ ?_); (focus (simp only [go_sem, *]; done))) <;> (try simp (disch := omega) only [go_sem, *]))
      | ((with_reducible refine i_cond (by simp only [go_sem, *] <;> rfl) (fun h => ?_) (fun h => ?_)) <;> (try simp only [Bool.not_eq_eq_eq_not, Bool.not_true, Bool.not_false, reduceCtorEq] at h) <;> (try have h' := of_decide_eq_true h) <;> (try (have hz : (_ : Int) = (_ : Int) := h'; clear hz h')) <;> (try have h' := of_decide_eq_false h) <;> (try have h' := inB_t h) <;> (try (exfalso; omega)) <;> (try simp (disch := omega) only [go_sem, *])))
    all_goals (try simp (disch := omega) only [EndK, go_sem, natLe_ok, *])
    all_goals rw [coreMix_end (by omega)]
    all_goals (try simp (disch := omega) only [go_sem, natLe_ok])
theorem eqCoreS_ok (xs : List Core) (hs : xs.length ≤ 1048576 ∧ ∀ y ∈ xs, smCore y) : CallOk Tryd.prog 40 [.one (.ro 3 (coresD xs)), .one (.ro 3 (coresD xs))] (.s (.one (bV true))) [none, none] := by
  obtain ⟨hs, hs1⟩ := hs
  refine callOk_of_hcall 40 (hcall_of_body Tryd.func40 rfl (by kernel_rfl) ?_)
  simp (disch := omega) only [go_sem, Tryd.ntmps40, Tryd.results40]
  repeat' (first
    | (with_reducible refine i_seq ?_)
    | ((with_reducible refine i_block ?_); (try simp (disch := omega) only [go_sem, bne_self_eq_false, *]))
    | ((with_reducible refine i_regionQ (fun Q' hQ => ?_)); (try simp (disch := omega) only [go_sem, bne_self_eq_false, *]))
    | ((with_reducible refine Imp.go hQ ?_); clear hQ; (try simp (disch := omega) only [go_sem, bne_self_eq_false, *]))
    | ((with_reducible refine resOk_g (fun h => ?_) (fun h => ?_)) <;> (try simp only [Bool.not_eq_eq_eq_not, Bool.not_true, Bool.not_false, reduceCtorEq] at h) <;> (try have h' := of_decide_eq_true h) <;> (try (have hz : (_ : Int) = (_ : Int) := h'; clear hz h')) <;> (try have h' := of_decide_eq_false h) <;> (try have h' := inB_t h) <;> (try (exfalso; omega)) <;> (try simp (disch := omega) only [go_sem, bne_self_eq_false, *]))
    | (((with_reducible refine i_condT ?_ ?_); (focus (simp only [go_sem, *]; done))) <;> (try simp (disch := omega) only [go_sem, bne_self_eq_false, *]))
    | (((with_reducible refine i_condF ?_ ?_); (focus (simp only [go_sem, *]; done))) <;> (try simp (disch := omega) only [go_sem, bne_self_eq_false, *]))
    | ((with_reducible refine i_cond (by simp only [go_sem, *] <;> rfl) (fun h => ?_) (fun h => ?_)) <;> (try simp only [Bool.not_eq_eq_eq_not, Bool.not_true, Bool.not_false, reduceCtorEq] at h) <;> (try have h' := of_decide_eq_true h) <;> (try (have hz : (_ : Int) = (_ : Int) := h'; clear hz h')) <;> (try have h' := of_decide_eq_false h) <;> (try have h' := inB_t h) <;> (try (exfalso; omega)) <;> (try simp (disch := omega) only [go_sem, bne_self_eq_false, *]))
    | (with_reducible refine i_treeQ (id := 6) (.fr [0, 1, 2, 3, 4, 5, 6, 7] (.op [8] (.fr [9] (.stop)))) mixedT (by kernel_rfl) (fun Q' hQ => ?_))
    | (with_reducible exact tr_none)
    | (with_reducible refine tr_stop ?_)
    | ((with_reducible refine tr_fr ?_); (try simp (disch := omega) only [go_sem, bne_self_eq_false, *]))
    | ((with_reducible refine tr_op (aL_run ?_)); (try simp (disch := omega) only [go_sem, bne_self_eq_false, *]))
    | ((with_reducible refine tr_alt (by kernel_rfl) (aL_run ?_) ?_) <;> (try simp (disch := omega) only [go_sem, bne_self_eq_false, *]))
    | ((with_reducible refine tr_altp ?_ ?_) <;> (try simp (disch := omega) only [go_sem, bne_self_eq_false, *]))
    | ((with_reducible refine pG_split (fun h => ?_) (fun h => ?_)) <;> (try simp only [Bool.not_eq_eq_eq_not, Bool.not_true, Bool.not_false, reduceCtorEq] at h) <;> (try have h' := of_decide_eq_true h) <;> (try (have hz : (_ : Int) = (_ : Int) := h'; clear hz h')) <;> (try have h' := of_decide_eq_false h) <;> (try have h' := inB_t h) <;> (try (exfalso; omega)) <;> (try simp (disch := omega) only [go_sem, bne_self_eq_false, *])))
  all_goals (try simp (disch := omega) only [EndK, go_sem, bne_self_eq_false, natLe_ok, *])
  refine i_loop (α := {k : Nat // k ≤ xs.length}) (fun k => ⟨mkEnv 27 [(0, .one (.ro 3 (coresD xs))), (1, .one (.ro 3 (coresD xs))), (5, .one (iV k.1))], []⟩) (fun k => xs.length - k.1) ⟨0, by omega⟩ ?_ ?_
  · (refine weak_canon [0, 1, 5] [] ?_ ?_ ?_ <;> (simp (disch := omega) only [go_sem]; done))
  rintro ⟨k, hk⟩
  simp (disch := omega) only [go_sem]
  by_cases hkl : k < xs.length
  · have hsk := hs1 (xs.getD k coreZ) (by simp [hkl])
    repeat' (first
      | (with_reducible refine i_seq ?_)
      | ((with_reducible refine i_block ?_); (try simp (disch := omega) only [go_sem, *]))
      | ((with_reducible refine i_regionQ (fun Q' hQ => ?_)); (try simp (disch := omega) only [go_sem, *]))
      | ((with_reducible refine Imp.go hQ ?_); clear hQ; (try simp (disch := omega) only [go_sem, *]))
      | ((with_reducible refine resOk_g (fun h => ?_) (fun h => ?_)) <;> (try simp only [Bool.not_eq_eq_eq_not, Bool.not_true, Bool.not_false, reduceCtorEq] at h) <;> (try have h' := of_decide_eq_true h) <;> (try (have hz : (_ : Int) = (_ : Int) := h'; clear hz h')) <;> (try have h' := of_decide_eq_false h) <;> (try have h' := inB_t h) <;> (try (exfalso; omega)) <;> (try simp (disch := omega) only [go_sem, *]))
      | (((with_reducible refine i_condT ?_ ?_); (focus (simp only [go_sem, *]; done))) <;> (try simp (disch := omega) only [go_sem, *]))
      | (((with_reducible refine i_condF ?_ ?_); (focus (simp only [go_sem, *]; done))) <;> (try simp (disch := omega) only [go_sem, *]))
      | ((with_reducible refine i_cond (by simp only [go_sem, *] <;> rfl) (fun h => ?_) (fun h => ?_)) <;> (try simp only [Bool.not_eq_eq_eq_not, Bool.not_true, Bool.not_false, reduceCtorEq] at h) <;> (try have h' := of_decide_eq_true h) <;> (try (have hz : (_ : Int) = (_ : Int) := h'; clear hz h')) <;> (try have h' := of_decide_eq_false h) <;> (try have h' := inB_t h) <;> (try (exfalso; omega)) <;> (try simp (disch := omega) only [go_sem, *]))
      | (with_reducible refine i_treeQ (id := 6) (.fr [0, 1, 2, 3, 4, 5, 6, 7] (.op [8] (.fr [9] (.stop)))) mixedT (by kernel_rfl) (fun Q' hQ => ?_))
      | (with_reducible exact tr_none)
      | (with_reducible refine tr_stop ?_)
      | ((with_reducible refine tr_fr ?_); (try simp (disch := omega) only [go_sem, *]))
      | ((with_reducible refine tr_op (aL_run ?_)); (try simp (disch := omega) only [go_sem, *]))
      | ((with_reducible refine tr_alt (by kernel_rfl) (aL_run ?_) ?_) <;> (try simp (disch := omega) only [go_sem, *]))
      | ((with_reducible refine tr_altp ?_ ?_) <;> (try simp (disch := omega) only [go_sem, *]))
      | ((with_reducible refine pG_split (fun h => ?_) (fun h => ?_)) <;> (try simp only [Bool.not_eq_eq_eq_not, Bool.not_true, Bool.not_false, reduceCtorEq] at h) <;> (try have h' := of_decide_eq_true h) <;> (try (have hz : (_ : Int) = (_ : Int) := h'; clear hz h')) <;> (try have h' := of_decide_eq_false h) <;> (try have h' := inB_t h) <;> (try (exfalso; omega)) <;> (try simp (disch := omega) only [go_sem, *]))
      | ((with_reducible refine hcall_of_callOk 40 true (eqCore_ok (xs.getD k coreZ) hsk) ?_ ?_ ?_ ?_ ?_); (focus (simp (disch := omega) only [go_sem, natLe_ok]; done)); (focus (simp (disch := omega) only [go_sem, natLe_ok]; done)); (focus (simp (disch := omega) only [go_sem, natLe_ok]; done)); (focus (simp (disch := omega) only [go_sem, natLe_ok]; done)); simp only [go_sem]; refine aL_run ?_; (try simp (disch := omega) only [go_sem, *])))
    all_goals (try simp (disch := omega) only [EndK, go_sem, natLe_ok, *])
    refine ⟨⟨k + 1, by omega⟩, ?_, by simp only; omega⟩
    (refine weak_canon [0, 1, 5] [] ?_ ?_ ?_ <;> (simp (disch := omega) only [go_sem]; done))
  ·
    repeat' (first
      | (with_reducible refine i_seq ?_)
      | ((with_reducible refine i_block ?_); (try simp (disch := omega) only [go_sem, *]))
      | ((with_reducible refine i_regionQ (fun Q' hQ => ?_)); (try simp (disch := omega) only [go_sem, *]))
      | ((with_reducible refine Imp.go hQ ?_); clear hQ; (try simp (disch := omega) only [go_sem, *]))
      | ((with_reducible refine resOk_g (fun h => ?_) (fun h => ?_)) <;> (try simp only [Bool.not_eq_eq_eq_not, Bool.not_true, Bool.not_false, reduceCtorEq] at h) <;> (try have h' := of_decide_eq_true h) <;> (try (have hz : (_ : Int) = (_ : Int) := h'; clear hz h')) <;> (try have h' := of_decide_eq_false h) <;> (try have h' := inB_t h) <;> (try (exfalso; omega)) <;> (try simp (disch := omega) only [go_sem, *]))
      | (((with_reducible refine i_condT ?_ ?_); (focus (simp only [go_sem, *]; done))) <;> (try simp (disch := omega) only [go_sem, *]))
      | (((with_reducible refine i_condF ?_ ?_); (focus (simp only [go_sem, *]; done))) <;> (try simp (disch := omega) only [go_sem, *]))
      | ((with_reducible refine i_cond (by simp only [go_sem, *] <;> rfl) (fun h => ?_) (fun h => ?_)) <;> (try simp only [Bool.not_eq_eq_eq_not, Bool.not_true, Bool.not_false, reduceCtorEq] at h) <;> (try have h' := of_decide_eq_true h) <;> (try (have hz : (_ : Int) = (_ : Int) := h'; clear hz h')) <;> (try have h' := of_decide_eq_false h) <;> (try have h' := inB_t h) <;> (try (exfalso; omega)) <;> (try simp (disch := omega) only [go_sem, *]))
      | (with_reducible refine i_treeQ (id := 6) (.fr [0, 1, 2, 3, 4, 5, 6, 7] (.op [8] (.fr [9] (.stop)))) mixedT (by kernel_rfl) (fun Q' hQ => ?_))
      | (with_reducible exact tr_none)
      | (with_reducible refine tr_stop ?_)
      | ((with_reducible refine tr_fr ?_); (try simp (disch := omega) only [go_sem, *]))
      | ((with_reducible refine tr_op (aL_run ?_)); (try simp (disch := omega) only [go_sem, *]))
      | ((with_reducible refine tr_alt (by kernel_rfl) (aL_run ?_) ?_) <;> (try simp (disch := omega) only [go_sem, *]))
      | ((with_reducible refine tr_altp ?_ ?_) <;> (try simp (disch := omega) only [go_sem, *]))
      | ((with_reducible refine pG_split (fun h => ?_) (fun h => ?_)) <;> (try simp only [Bool.not_eq_eq_eq_not, Bool.not_true, Bool.not_false, reduceCtorEq] at h) <;> (try have h' := of_decide_eq_true h) <;> (try (have hz : (_ : Int) = (_ : Int) := h'; clear hz h')) <;> (try have h' := of_decide_eq_false h) <;> (try have h' := inB_t h) <;> (try (exfalso; omega)) <;> (try simp (disch := omega) only [go_sem, *])))
    all_goals (try simp (disch := omega) only [EndK, go_sem, natLe_ok, *])
end Go.Proofs.YtgeoipplkjgnfaaDoor.E
