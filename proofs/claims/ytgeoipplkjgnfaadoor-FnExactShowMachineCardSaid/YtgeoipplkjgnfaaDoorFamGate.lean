import Derived.Test.YtgeoipplkjgnfaaDoorD8
import Derived.Test.YtgeoipplkjgnfaaDoorEng31
set_option linter.unusedVariables false
set_option linter.unusedSimpArgs false
set_option maxRecDepth 100000
set_option maxHeartbeats 4000000
namespace Go.Proofs.YtgeoipplkjgnfaaDoor.E
theorem ti98 : ti Tryd.prog 98 = some ⟨.st [(0, 1, false), (1, 1, false), (2, 1, false)], 3, 56, true, [.int .i64 0, .slice none 0 0, .slice none 0 0]⟩ := by kernel_rfl
theorem ni98 : notInt Tryd.prog 98 = true := by kernel_rfl
theorem ti99 : ti Tryd.prog 99 = some ⟨.st [(0, 1, false), (1, 1, false), (2, 1, false)], 3, 56, true, [.int .i64 0, .slice none 0 0, .slice none 0 0]⟩ := by kernel_rfl
theorem ni99 : notInt Tryd.prog 99 = true := by kernel_rfl
theorem ti40 : ti Tryd.prog 40 = some ⟨.sl 98, 1, 24, false, [.slice none 0 0]⟩ := by kernel_rfl
theorem ni40 : notInt Tryd.prog 40 = true := by kernel_rfl
theorem ti51 : ti Tryd.prog 51 = some ⟨.sl 99, 1, 24, false, [.slice none 0 0]⟩ := by kernel_rfl
theorem ni51 : notInt Tryd.prog 51 = true := by kernel_rfl
attribute [go_sem] ti98 ni98 ti99 ni99 ti40 ni40 ti51 ni51
structure Gate where
  owner : Int
  waits : List Int
  queues : List Int
def gateT (x : Gate) : List T := [iV x.owner, .own 1 (intsT x.waits), .own 1 (intsT x.queues)]
def gateR (x : Gate) : List T := [iV x.owner, .ro 1 (intsD x.waits), .ro 1 (intsD x.queues)]
attribute [go_sem] gateT gateR
def gateD (x : Gate) : List D := [D.v (.int .i64 x.owner), .l 1 (intsD x.waits), .l 1 (intsD x.queues)]
attribute [go_sem] gateD
def gateZ : Gate := ⟨0, [], []⟩
def smGate (x : Gate) : Prop := x.waits.length ≤ 1048576 ∧ x.queues.length ≤ 1048576
def bgGate (x : Gate) : Prop := x.waits.length ≤ 9223372036854775807 ∧ x.queues.length ≤ 9223372036854775807
theorem szGate_ok (x : Gate) (left : Int) (h : 0 ≤ left ∧ left ≤ 1048576) (hb : bgGate x) : CallE Tryd.prog 59 [.agg (gateR x), .one (iV left)] (fun r : Int => .s (.one (iV r))) (fun _ => [none, none]) (fun r => -1 ≤ r ∧ r ≤ left ∧ (0 ≤ r → smGate x)) := by
  obtain ⟨hb0, hb1⟩ := hb
  refine callE_of_hcall 40 (hcall_of_body Tryd.func59 rfl (by kernel_rfl) ?_)
  simp (disch := omega) only [go_sem, Tryd.ntmps59, Tryd.results59]
  repeat' (first
    | (with_reducible refine i_seq ?_)
    | ((with_reducible refine i_block ?_); (try simp (disch := omega) only [go_sem, *]))
    | ((with_reducible refine i_regionQ (fun Q' hQ => ?_)); (try simp (disch := omega) only [go_sem, *]))
    | ((with_reducible refine Imp.go hQ ?_); clear hQ; (try simp (disch := omega) only [go_sem, *]))
    | ((with_reducible refine resOk_g (fun h => ?_) (fun h => ?_)) <;> (try simp only [Bool.not_eq_eq_eq_not, Bool.not_true, Bool.not_false, reduceCtorEq] at h) <;> (try have h' := of_decide_eq_true h) <;> (try (have hz : (_ : Int) = (_ : Int) := h'; clear hz h')) <;> (try have h' := of_decide_eq_false h) <;> (try have h' := inB_t h) <;> (try (exfalso; omega)) <;> (try simp (disch := omega) only [go_sem, *]))
    | (((with_reducible refine i_condT ?_ ?_); (focus (simp only [go_sem, *]; done))) <;> (try simp (disch := omega) only [go_sem, *]))
    | (((with_reducible refine i_condF ?_ ?_); (focus (simp only [go_sem, *]; done))) <;> (try simp (disch := omega) only [go_sem, *]))
    | ((with_reducible refine i_cond (by simp only [go_sem, *] <;> rfl) (fun h => ?_) (fun h => ?_)) <;> (try simp only [Bool.not_eq_eq_eq_not, Bool.not_true, Bool.not_false, reduceCtorEq] at h) <;> (try have h' := of_decide_eq_true h) <;> (try (have hz : (_ : Int) = (_ : Int) := h'; clear hz h')) <;> (try have h' := of_decide_eq_false h) <;> (try have h' := inB_t h) <;> (try (exfalso; omega)) <;> (try simp (disch := omega) only [go_sem, *]))
    | ((with_reducible refine hcall_of_callE 40 true (szIntS_ok x.waits left (by omega) hb0) ?_ ?_ ?_ ?_ ?_); (focus (simp (disch := omega) only [go_sem, natLe_ok]; done)); (focus (simp (disch := omega) only [go_sem, natLe_ok]; done)); (focus (rintro r0 ⟨ha0, hc0, hd0⟩; (try dsimp only at ha0); (try dsimp only at hc0); (try dsimp only at hd0); (try simp (disch := omega) only [go_sem, natLe_ok]); done)); (focus (rintro r0 ⟨ha0, hc0, hd0⟩; (try dsimp only at ha0); (try dsimp only at hc0); (try dsimp only at hd0); (try simp (disch := omega) only [go_sem, natLe_ok]); done)); rintro r0 ⟨ha0, hc0, hd0⟩; (try dsimp only at ha0); (try dsimp only at hc0); (try dsimp only at hd0); simp only [go_sem]; refine aL_run ?_; (try simp (disch := omega) only [go_sem, *]))
    | ((with_reducible refine hcall_of_callE 40 true (szIntS_ok x.queues r0 (by omega) hb1) ?_ ?_ ?_ ?_ ?_); (focus (simp (disch := omega) only [go_sem, natLe_ok]; done)); (focus (simp (disch := omega) only [go_sem, natLe_ok]; done)); (focus (rintro r1 ⟨ha1, hc1, hd1⟩; (try dsimp only at ha1); (try dsimp only at hc1); (try dsimp only at hd1); (try simp (disch := omega) only [go_sem, natLe_ok]); done)); (focus (rintro r1 ⟨ha1, hc1, hd1⟩; (try dsimp only at ha1); (try dsimp only at hc1); (try dsimp only at hd1); (try simp (disch := omega) only [go_sem, natLe_ok]); done)); rintro r1 ⟨ha1, hc1, hd1⟩; (try dsimp only at ha1); (try dsimp only at hc1); (try dsimp only at hd1); simp only [go_sem]; refine aL_run ?_; (try simp (disch := omega) only [go_sem, *])))
  all_goals (try simp (disch := omega) only [EndK, go_sem, natLe_ok, *])
  all_goals first
    | exact ⟨-1, ⟨by omega, by omega, fun h => by first | trivial | (exfalso; omega)⟩, rfl⟩
    | exact ⟨r1, ⟨by omega, by omega, fun h => by first | trivial | exact ⟨hd0 (by omega), hd1 (by omega)⟩⟩, rfl⟩
theorem toGate_ok (x : Gate) (hs : smGate x) : CallOk Tryd.prog 60 [.agg (gateR x)] (.s (.agg (gateT x))) [none] := by
  obtain ⟨hs0, hs1⟩ := hs
  refine callOk_of_hcall 40 (hcall_of_body Tryd.func60 rfl (by kernel_rfl) ?_)
  simp (disch := omega) only [go_sem, Tryd.ntmps60, Tryd.results60]
  repeat' (first
    | (with_reducible refine i_seq ?_)
    | ((with_reducible refine i_block ?_); (try simp (disch := omega) only [go_sem, *]))
    | ((with_reducible refine i_regionQ (fun Q' hQ => ?_)); (try simp (disch := omega) only [go_sem, *]))
    | ((with_reducible refine Imp.go hQ ?_); clear hQ; (try simp (disch := omega) only [go_sem, *]))
    | ((with_reducible refine resOk_g (fun h => ?_) (fun h => ?_)) <;> (try simp only [Bool.not_eq_eq_eq_not, Bool.not_true, Bool.not_false, reduceCtorEq] at h) <;> (try have h' := of_decide_eq_true h) <;> (try (have hz : (_ : Int) = (_ : Int) := h'; clear hz h')) <;> (try have h' := of_decide_eq_false h) <;> (try have h' := inB_t h) <;> (try (exfalso; omega)) <;> (try simp (disch := omega) only [go_sem, *]))
    | (((with_reducible refine i_condT ?_ ?_); (focus (simp only [go_sem, *]; done))) <;> (try simp (disch := omega) only [go_sem, *]))
    | (((with_reducible refine i_condF ?_ ?_); (focus (simp only [go_sem, *]; done))) <;> (try simp (disch := omega) only [go_sem, *]))
    | ((with_reducible refine i_cond (by simp only [go_sem, *] <;> rfl) (fun h => ?_) (fun h => ?_)) <;> (try simp only [Bool.not_eq_eq_eq_not, Bool.not_true, Bool.not_false, reduceCtorEq] at h) <;> (try have h' := of_decide_eq_true h) <;> (try (have hz : (_ : Int) = (_ : Int) := h'; clear hz h')) <;> (try have h' := of_decide_eq_false h) <;> (try have h' := inB_t h) <;> (try (exfalso; omega)) <;> (try simp (disch := omega) only [go_sem, *]))
    | ((with_reducible refine hcall_of_callOk 40 true (toIntS_ok x.waits hs0) ?_ ?_ ?_ ?_ ?_); (focus (simp (disch := omega) only [go_sem, natLe_ok]; done)); (focus (simp (disch := omega) only [go_sem, natLe_ok]; done)); (focus (simp (disch := omega) only [go_sem, natLe_ok]; done)); (focus (simp (disch := omega) only [go_sem, natLe_ok]; done)); simp only [go_sem]; refine aL_run ?_; (try simp (disch := omega) only [go_sem, *]))
    | ((with_reducible refine hcall_of_callOk 40 true (toIntS_ok x.queues hs1) ?_ ?_ ?_ ?_ ?_); (focus (simp (disch := omega) only [go_sem, natLe_ok]; done)); (focus (simp (disch := omega) only [go_sem, natLe_ok]; done)); (focus (simp (disch := omega) only [go_sem, natLe_ok]; done)); (focus (simp (disch := omega) only [go_sem, natLe_ok]; done)); simp only [go_sem]; refine aL_run ?_; (try simp (disch := omega) only [go_sem, *])))
  all_goals (try simp (disch := omega) only [EndK, go_sem, natLe_ok, *])
theorem eqGate_ok (x : Gate) (hs : smGate x) : CallOk Tryd.prog 64 [.agg (gateR x), .agg (gateR x)] (.s (.one (bV true))) [none, none] := by
  obtain ⟨hs0, hs1⟩ := hs
  refine callOk_of_hcall 40 (hcall_of_body Tryd.func64 rfl (by kernel_rfl) ?_)
  simp (disch := omega) only [go_sem, Tryd.ntmps64, Tryd.results64]
  repeat' (first
    | (with_reducible refine i_seq ?_)
    | ((with_reducible refine i_block ?_); (try simp (disch := omega) only [go_sem, bne_self_eq_false, *]))
    | ((with_reducible refine i_regionQ (fun Q' hQ => ?_)); (try simp (disch := omega) only [go_sem, bne_self_eq_false, *]))
    | ((with_reducible refine Imp.go hQ ?_); clear hQ; (try simp (disch := omega) only [go_sem, bne_self_eq_false, *]))
    | ((with_reducible refine resOk_g (fun h => ?_) (fun h => ?_)) <;> (try simp only [Bool.not_eq_eq_eq_not, Bool.not_true, Bool.not_false, reduceCtorEq] at h) <;> (try have h' := of_decide_eq_true h) <;> (try (have hz : (_ : Int) = (_ : Int) := h'; clear hz h')) <;> (try have h' := of_decide_eq_false h) <;> (try have h' := inB_t h) <;> (try (exfalso; omega)) <;> (try simp (disch := omega) only [go_sem, bne_self_eq_false, *]))
    | (((with_reducible refine i_condT ?_ ?_); (focus (simp only [go_sem, *]; done))) <;> (try simp (disch := omega) only [go_sem, bne_self_eq_false, *]))
    | (((with_reducible refine i_condF ?_ ?_); (focus (simp only [go_sem, *]; done))) <;> (try simp (disch := omega) only [go_sem, bne_self_eq_false, *]))
    | ((with_reducible refine i_cond (by simp only [go_sem, *] <;> rfl) (fun h => ?_) (fun h => ?_)) <;> (try simp only [Bool.not_eq_eq_eq_not, Bool.not_true, Bool.not_false, reduceCtorEq] at h) <;> (try have h' := of_decide_eq_true h) <;> (try (have hz : (_ : Int) = (_ : Int) := h'; clear hz h')) <;> (try have h' := of_decide_eq_false h) <;> (try have h' := inB_t h) <;> (try (exfalso; omega)) <;> (try simp (disch := omega) only [go_sem, bne_self_eq_false, *]))
    | ((with_reducible refine hcall_of_callOk 40 true (eqIntS_ok x.waits hs0) ?_ ?_ ?_ ?_ ?_); (focus (simp (disch := omega) only [go_sem, bne_self_eq_false, natLe_ok]; done)); (focus (simp (disch := omega) only [go_sem, bne_self_eq_false, natLe_ok]; done)); (focus (simp (disch := omega) only [go_sem, bne_self_eq_false, natLe_ok]; done)); (focus (simp (disch := omega) only [go_sem, bne_self_eq_false, natLe_ok]; done)); simp only [go_sem, bne_self_eq_false]; refine aL_run ?_; (try simp (disch := omega) only [go_sem, bne_self_eq_false, *]))
    | ((with_reducible refine hcall_of_callOk 40 true (eqIntS_ok x.queues hs1) ?_ ?_ ?_ ?_ ?_); (focus (simp (disch := omega) only [go_sem, bne_self_eq_false, natLe_ok]; done)); (focus (simp (disch := omega) only [go_sem, bne_self_eq_false, natLe_ok]; done)); (focus (simp (disch := omega) only [go_sem, bne_self_eq_false, natLe_ok]; done)); (focus (simp (disch := omega) only [go_sem, bne_self_eq_false, natLe_ok]; done)); simp only [go_sem, bne_self_eq_false]; refine aL_run ?_; (try simp (disch := omega) only [go_sem, bne_self_eq_false, *])))
  all_goals (try simp (disch := omega) only [EndK, go_sem, bne_self_eq_false, natLe_ok, *])
/-! Lists of it. -/
instance : Inhabited Gate := ⟨gateZ⟩
def gatesT (xs : List Gate) : List (List T) := xs.map gateT
def gatesD (xs : List Gate) : List (List D) := xs.map gateD
theorem gatesT_nil : gatesT [] = [] := rfl
theorem gatesT_len (xs : List Gate) : (gatesT xs).length = xs.length := by simp [gatesT]
theorem gatesD_len (xs : List Gate) : (gatesD xs).length = xs.length := by simp [gatesD]
theorem gatesD_get {xs : List Gate} {k : Nat} (h : k < xs.length) : (gatesD xs)[k]? = some (gateD (xs.getD k gateZ)) := by simp [gatesD, h]
theorem gatesT_get {xs : List Gate} {k : Nat} (h : k < xs.length) : (gatesT xs)[k]? = some (gateT (xs.getD k gateZ)) := by simp [gatesT, h]
theorem gatesT_take (xs : List Gate) (n : Nat) : (gatesT xs).take n = gatesT (xs.take n) := by simp [gatesT, List.map_take]
theorem gatesD_take (xs : List Gate) (n : Nat) : (gatesD xs).take n = gatesD (xs.take n) := by simp [gatesD, List.map_take]
theorem gatesD_ofD (xs : List Gate) : (gatesD xs).map (·.map ofD) = xs.map gateR := by rw [gatesD, List.map_map]; rfl
theorem gatesT_closed (xs : List Gate) : closedRows (gatesT xs) = true := closed_map (fun x => by simp [gateT, closedRow, closedT, isNil, intsT_closed]) xs
theorem gatesT_noRo (xs : List Gate) : noRoRows (gatesT xs) = true := noRo_map (fun x => by simp [gateT, noRoRow, noRo, isNil, intsT_noRo]) xs
theorem gatesT_look {n : Nat} {H : List AObj} (xs : List Gate) : lookRowsBy (lookD (n + 2) H) (gatesT xs) (gatesD xs) := lookRowsBy_map fun x _ => ⟨rfl, ⟨⟨rfl, intsT_look _⟩, ⟨⟨rfl, intsT_look _⟩, trivial⟩⟩⟩
attribute [go_sem] gatesT_nil gatesT_len gatesD_len gatesD_get gatesT_get gatesT_take gatesD_take gatesT_closed gatesT_noRo gatesT_look
theorem szGateS_ok (xs : List Gate) (left : Int) (h : 0 ≤ left ∧ left ≤ 1048576) (hb : xs.length ≤ 9223372036854775807 ∧ ∀ y ∈ xs, bgGate y) : CallE Tryd.prog 45 [.one (.ro 3 (gatesD xs)), .one (iV left)] (fun r : Int => .s (.one (iV r))) (fun _ => [none, none]) (fun r => -1 ≤ r ∧ r ≤ left ∧ (0 ≤ r → xs.length ≤ 1048576 ∧ ∀ y ∈ xs, smGate y)) := by
  obtain ⟨h1, h2⟩ := h
  obtain ⟨hb0, hb1⟩ := hb
  refine callE_of_hcall 40 (hcall_of_body Tryd.func45 rfl (by kernel_rfl) ?_)
  simp (disch := omega) only [go_sem, Tryd.ntmps45, Tryd.results45]
  repeat' (first
    | (with_reducible refine i_seq ?_)
    | ((with_reducible refine i_block ?_); (try simp (disch := omega) only [go_sem, *]))
    | ((with_reducible refine i_regionQ (fun Q' hQ => ?_)); (try simp (disch := omega) only [go_sem, *]))
    | ((with_reducible refine Imp.go hQ ?_); clear hQ; (try simp (disch := omega) only [go_sem, *]))
    | ((with_reducible refine resOk_g (fun h => ?_) (fun h => ?_)) <;> (try simp only [Bool.not_eq_eq_eq_not, Bool.not_true, Bool.not_false, reduceCtorEq] at h) <;> (try have h' := of_decide_eq_true h) <;> (try (have hz : (_ : Int) = (_ : Int) := h'; clear hz h')) <;> (try have h' := of_decide_eq_false h) <;> (try have h' := inB_t h) <;> (try (exfalso; omega)) <;> (try simp (disch := omega) only [go_sem, *]))
    | (((with_reducible refine i_condT ?_ ?_); (focus (simp only [go_sem, *]; done))) <;> (try simp (disch := omega) only [go_sem, *]))
    | (((with_reducible refine i_condF ?_ ?_); (focus (simp only [go_sem, *]; done))) <;> (try simp (disch := omega) only [go_sem, *]))
    | ((with_reducible refine i_cond (by simp only [go_sem, *] <;> rfl) (fun h => ?_) (fun h => ?_)) <;> (try simp only [Bool.not_eq_eq_eq_not, Bool.not_true, Bool.not_false, reduceCtorEq] at h) <;> (try have h' := of_decide_eq_true h) <;> (try (have hz : (_ : Int) = (_ : Int) := h'; clear hz h')) <;> (try have h' := of_decide_eq_false h) <;> (try have h' := inB_t h) <;> (try (exfalso; omega)) <;> (try simp (disch := omega) only [go_sem, *])))
  all_goals (try simp (disch := omega) only [EndK, go_sem, natLe_ok, *])
  · exact ⟨-1, ⟨by omega, by omega, fun h => by first | trivial | (exfalso; omega)⟩, rfl⟩
  refine i_loop (α := {p : Nat × Int // p.1 ≤ xs.length ∧ 0 ≤ p.2 ∧ p.2 ≤ left ∧ ∀ y ∈ xs.take p.1, smGate y}) (fun p => ⟨mkEnv 27 [(0, .one (.ro 3 (gatesD xs))), (1, .one (iV p.1.2)), (5, .one (iV p.1.1))], []⟩) (fun p => xs.length - p.1.1) ⟨(0, left - xs.length), by simp, by simp only; omega, by simp only; omega, by simp⟩ ?_ ?_
  · (refine weak_canon [0, 1, 5] [] ?_ ?_ ?_ <;> (simp (disch := omega) only [go_sem]; done))
  rintro ⟨⟨k, lf⟩, hk, hl0, hl1, hp⟩
  simp only at hk hl0 hl1 hp
  simp (disch := omega) only [go_sem]
  by_cases hkl : k < xs.length
  · have hbk := hb1 (xs.getD k gateZ) (by simp [hkl])
    repeat' (first
      | (with_reducible refine i_seq ?_)
      | ((with_reducible refine i_block ?_); (try simp (disch := omega) only [go_sem, *]))
      | ((with_reducible refine i_regionQ (fun Q' hQ => ?_)); (try simp (disch := omega) only [go_sem, *]))
      | ((with_reducible refine Imp.go hQ ?_); clear hQ; (try simp (disch := omega) only [go_sem, *]))
      | ((with_reducible refine resOk_g (fun h => ?_) (fun h => ?_)) <;> (try simp only [Bool.not_eq_eq_eq_not, Bool.not_true, Bool.not_false, reduceCtorEq] at h) <;> (try have h' := of_decide_eq_true h) <;> (try (have hz : (_ : Int) = (_ : Int) := h'; clear hz h')) <;> (try have h' := of_decide_eq_false h) <;> (try have h' := inB_t h) <;> (try (exfalso; omega)) <;> (try simp (disch := omega) only [go_sem, *]))
      | (((with_reducible refine i_condT ?_ ?_); (focus (simp only [go_sem, *]; done))) <;> (try simp (disch := omega) only [go_sem, *]))
      | (((with_reducible refine i_condF ?_ ?_); (focus (simp only [go_sem, *]; done))) <;> (try simp (disch := omega) only [go_sem, *]))
      | ((with_reducible refine i_cond (by simp only [go_sem, *] <;> rfl) (fun h => ?_) (fun h => ?_)) <;> (try simp only [Bool.not_eq_eq_eq_not, Bool.not_true, Bool.not_false, reduceCtorEq] at h) <;> (try have h' := of_decide_eq_true h) <;> (try (have hz : (_ : Int) = (_ : Int) := h'; clear hz h')) <;> (try have h' := of_decide_eq_false h) <;> (try have h' := inB_t h) <;> (try (exfalso; omega)) <;> (try simp (disch := omega) only [go_sem, *]))
      | ((with_reducible refine hcall_of_callE 40 true (szGate_ok (xs.getD k gateZ) lf (by omega) hbk) ?_ ?_ ?_ ?_ ?_); (focus (simp (disch := omega) only [go_sem, natLe_ok]; done)); (focus (simp (disch := omega) only [go_sem, natLe_ok]; done)); (focus (rintro r ⟨hr1, hr2, hr3⟩; (try dsimp only at hr1); (try dsimp only at hr2); (try dsimp only at hr3); (try simp (disch := omega) only [go_sem, natLe_ok]); done)); (focus (rintro r ⟨hr1, hr2, hr3⟩; (try dsimp only at hr1); (try dsimp only at hr2); (try dsimp only at hr3); (try simp (disch := omega) only [go_sem, natLe_ok]); done)); rintro r ⟨hr1, hr2, hr3⟩; (try dsimp only at hr1); (try dsimp only at hr2); (try dsimp only at hr3); simp only [go_sem]; refine aL_run ?_; (try simp (disch := omega) only [go_sem, *])))
    all_goals (try simp (disch := omega) only [EndK, go_sem, natLe_ok, *])
    · exact ⟨-1, ⟨by omega, by omega, fun h => by first | trivial | (exfalso; omega)⟩, rfl⟩
    · refine ⟨⟨(k + 1, r), by simp only; omega, by simp only; omega, by simp only; omega, fun y hy => ?_⟩, ?_, by simp only; omega⟩
      · rw [List.take_succ_eq_append_getElem hkl] at hy
        rcases List.mem_append.1 hy with hy | hy
        · exact hp y hy
        · have e : y = xs.getD k gateZ := by simpa [hkl] using hy
          rw [e]; exact hr3 (by omega)
      · (refine weak_canon [0, 1, 5] [] ?_ ?_ ?_ <;> (simp (disch := omega) only [go_sem]; done))
  ·
    repeat' (first
      | (with_reducible refine i_seq ?_)
      | ((with_reducible refine i_block ?_); (try simp (disch := omega) only [go_sem, *]))
      | ((with_reducible refine i_regionQ (fun Q' hQ => ?_)); (try simp (disch := omega) only [go_sem, *]))
      | ((with_reducible refine Imp.go hQ ?_); clear hQ; (try simp (disch := omega) only [go_sem, *]))
      | ((with_reducible refine resOk_g (fun h => ?_) (fun h => ?_)) <;> (try simp only [Bool.not_eq_eq_eq_not, Bool.not_true, Bool.not_false, reduceCtorEq] at h) <;> (try have h' := of_decide_eq_true h) <;> (try (have hz : (_ : Int) = (_ : Int) := h'; clear hz h')) <;> (try have h' := of_decide_eq_false h) <;> (try have h' := inB_t h) <;> (try (exfalso; omega)) <;> (try simp (disch := omega) only [go_sem, *]))
      | (((with_reducible refine i_condT ?_ ?_); (focus (simp only [go_sem, *]; done))) <;> (try simp (disch := omega) only [go_sem, *]))
      | (((with_reducible refine i_condF ?_ ?_); (focus (simp only [go_sem, *]; done))) <;> (try simp (disch := omega) only [go_sem, *]))
      | ((with_reducible refine i_cond (by simp only [go_sem, *] <;> rfl) (fun h => ?_) (fun h => ?_)) <;> (try simp only [Bool.not_eq_eq_eq_not, Bool.not_true, Bool.not_false, reduceCtorEq] at h) <;> (try have h' := of_decide_eq_true h) <;> (try (have hz : (_ : Int) = (_ : Int) := h'; clear hz h')) <;> (try have h' := of_decide_eq_false h) <;> (try have h' := inB_t h) <;> (try (exfalso; omega)) <;> (try simp (disch := omega) only [go_sem, *])))
    all_goals (try simp (disch := omega) only [EndK, go_sem, natLe_ok, *])
    all_goals exact ⟨lf, ⟨by omega, by omega, fun h => by first | exact fun y hy => hp y (by rw [List.take_of_length_le (by omega)]; exact hy) | exact ⟨by omega, fun y hy => hp y (by rw [List.take_of_length_le (by omega)]; exact hy)⟩⟩, rfl⟩
def gateMix (xs : List Gate) (k : Nat) : List (List T) := gatesT (xs.take k) ++ List.replicate (xs.length - k) [iV 0, .v nilV, .v nilV]
theorem gateMix_len {xs : List Gate} {k : Nat} (hk : k ≤ xs.length) : (gateMix xs k).length = xs.length := by
  simp only [gateMix, List.length_append, gatesT_len, List.length_take, List.length_replicate]; omega
theorem gateMix_zero (xs : List Gate) : gateMix xs 0 = List.replicate xs.length [iV 0, .v nilV, .v nilV] := by simp [gateMix, gatesT]
theorem gateMix_end {xs : List Gate} {k : Nat} (h : xs.length ≤ k) : gateMix xs k = gatesT xs := by
  rw [gateMix, List.take_of_length_le h, show xs.length - k = 0 by omega]; simp
theorem gateMix_get {xs : List Gate} {k : Nat} (hk : k < xs.length) : (gateMix xs k)[k]? = some [iV 0, .v nilV, .v nilV] := by
  have h1 : (gatesT (xs.take k)).length = k := by rw [gatesT_len, List.length_take]; omega
  rw [gateMix, List.getElem?_append_right (by omega), h1, List.getElem?_replicate]
  simp; omega
theorem gateMix_set {xs : List Gate} {k : Nat} (hk : k < xs.length) : (gateMix xs k).set k (gateT (xs.getD k gateZ)) = gateMix xs (k + 1) := by
  have h1 : (gatesT (xs.take k)).length = k := by rw [gatesT_len, List.length_take]; omega
  have h2 : xs.length - k = (xs.length - (k + 1)) + 1 := by omega
  have h3 : gatesT (xs.take (k + 1)) = gatesT (xs.take k) ++ [gateT (xs.getD k gateZ)] := by
    have e : xs.getD k gateZ = xs[k] := by simp [hk]
    rw [e, List.take_succ_eq_append_getElem hk]; simp only [gatesT, List.map_append, List.map_cons, List.map_nil]
  unfold gateMix
  rw [h2, List.replicate_succ, List.set_append_right _ _ (by omega), h1, Nat.sub_self, List.set_cons_zero, h3, List.append_assoc]
  rfl
theorem gateMix_refs (xs : List Gate) (k : Nat) : refsRows (gateMix xs k) = [] := by
  rw [gateMix, refsRows_app, closed_refsRows _ (gatesT_closed _), refs_repl rfl]; rfl
theorem gateMix_ren (f : Nat → Nat) (xs : List Gate) (k : Nat) : renRows f (gateMix xs k) = gateMix xs k := by
  rw [gateMix, renRows_app, closed_renRows f _ (gatesT_closed _), ren_repl rfl]
attribute [go_sem] gateMix_refs gateMix_ren
theorem toGateS_ok (xs : List Gate) (hs : xs.length ≤ 1048576 ∧ ∀ y ∈ xs, smGate y) : CallOk Tryd.prog 50 [.one (.ro 3 (gatesD xs))] (.s (.one (.own 3 (gatesT xs)))) [none] := by
  obtain ⟨hs, hs1⟩ := hs
  have hz := gateMix_zero xs
  refine callOk_of_hcall 40 (hcall_of_body Tryd.func50 rfl (by kernel_rfl) ?_)
  simp (disch := omega) only [go_sem, Tryd.ntmps50, Tryd.results50]
  repeat' (first
    | (with_reducible refine i_seq ?_)
    | ((with_reducible refine i_block ?_); (try simp (disch := omega) only [go_sem, *]))
    | ((with_reducible refine i_regionQ (fun Q' hQ => ?_)); (try simp (disch := omega) only [go_sem, *]))
    | ((with_reducible refine Imp.go hQ ?_); clear hQ; (try simp (disch := omega) only [go_sem, *]))
    | ((with_reducible refine resOk_g (fun h => ?_) (fun h => ?_)) <;> (try simp only [Bool.not_eq_eq_eq_not, Bool.not_true, Bool.not_false, reduceCtorEq] at h) <;> (try have h' := of_decide_eq_true h) <;> (try (have hz : (_ : Int) = (_ : Int) := h'; clear hz h')) <;> (try have h' := of_decide_eq_false h) <;> (try have h' := inB_t h) <;> (try (exfalso; omega)) <;> (try simp (disch := omega) only [go_sem, *]))
    | (((with_reducible refine i_condT ?_ ?_); (focus (simp only [go_sem, *]; done))) <;> (try simp (disch := omega) only [go_sem, *]))
    | (((with_reducible refine i_condF ?_ ?_); (focus (simp only [go_sem, *]; done))) <;> (try simp (disch := omega) only [go_sem, *]))
    | ((with_reducible refine i_cond (by simp only [go_sem, *] <;> rfl) (fun h => ?_) (fun h => ?_)) <;> (try simp only [Bool.not_eq_eq_eq_not, Bool.not_true, Bool.not_false, reduceCtorEq] at h) <;> (try have h' := of_decide_eq_true h) <;> (try (have hz : (_ : Int) = (_ : Int) := h'; clear hz h')) <;> (try have h' := of_decide_eq_false h) <;> (try have h' := inB_t h) <;> (try (exfalso; omega)) <;> (try simp (disch := omega) only [go_sem, *])))
  all_goals (try simp (disch := omega) only [EndK, go_sem, natLe_ok, *])
  refine i_loop (α := {k : Nat // k ≤ xs.length}) (fun k => ⟨mkEnv 23 [(0, .one (.ro 3 (gatesD xs))), (3, .one (.ref 0 0 xs.length)), (4, .one (iV k.1))], [.live 3 (gateMix xs k.1)]⟩) (fun k => xs.length - k.1) ⟨0, by omega⟩ ?_ ?_
  · (refine weak_canon [0, 3, 4] [0] ?_ ?_ ?_ <;> (simp (disch := omega) only [go_sem, ← hz]; done))
  rintro ⟨k, hk⟩
  have hml := gateMix_len hk
  simp (disch := omega) only [go_sem]
  by_cases hkl : k < xs.length
  · have hg := gateMix_get hkl
    have e := gateMix_set hkl
    have hsk := hs1 (xs.getD k gateZ) (by simp [hkl])
    repeat' (first
      | (with_reducible refine i_seq ?_)
      | ((with_reducible refine i_block ?_); (try simp (disch := omega) only [go_sem, *]))
      | ((with_reducible refine i_regionQ (fun Q' hQ => ?_)); (try simp (disch := omega) only [go_sem, *]))
      | ((with_reducible refine Imp.go hQ ?_); clear hQ; (try simp (disch := omega) only [go_sem, *]))
      | ((with_reducible refine resOk_g (fun h => ?_) (fun h => ?_)) <;> (try simp only [Bool.not_eq_eq_eq_not, Bool.not_true, Bool.not_false, reduceCtorEq] at h) <;> (try have h' := of_decide_eq_true h) <;> (try (have hz : (_ : Int) = (_ : Int) := h'; clear hz h')) <;> (try have h' := of_decide_eq_false h) <;> (try have h' := inB_t h) <;> (try (exfalso; omega)) <;> (try simp (disch := omega) only [go_sem, *]))
      | (((with_reducible refine i_condT ?_ ?_); (focus (simp only [go_sem, *]; done))) <;> (try simp (disch := omega) only [go_sem, *]))
      | (((with_reducible refine i_condF ?_ ?_); (focus (simp only [go_sem, *]; done))) <;> (try simp (disch := omega) only [go_sem, *]))
      | ((with_reducible refine i_cond (by simp only [go_sem, *] <;> rfl) (fun h => ?_) (fun h => ?_)) <;> (try simp only [Bool.not_eq_eq_eq_not, Bool.not_true, Bool.not_false, reduceCtorEq] at h) <;> (try have h' := of_decide_eq_true h) <;> (try (have hz : (_ : Int) = (_ : Int) := h'; clear hz h')) <;> (try have h' := of_decide_eq_false h) <;> (try have h' := inB_t h) <;> (try (exfalso; omega)) <;> (try simp (disch := omega) only [go_sem, *]))
      | ((with_reducible refine hcall_of_callOk 40 true (toGate_ok (xs.getD k gateZ) hsk) ?_ ?_ ?_ ?_ ?_); (focus (simp (disch := omega) only [go_sem, natLe_ok]; done)); (focus (simp (disch := omega) only [go_sem, natLe_ok]; done)); (focus (simp (disch := omega) only [go_sem, natLe_ok]; done)); (focus (simp (disch := omega) only [go_sem, natLe_ok]; done)); simp only [go_sem]; refine aL_run ?_; (try simp (disch := omega) only [go_sem, *])))
    all_goals (try simp (disch := omega) only [EndK, go_sem, natLe_ok, *])
    refine ⟨⟨k + 1, by omega⟩, weak_fit2 40 0 k 3 _ _ (gateT (xs.getD k gateZ)) rfl (List.getElem?_set_self (by rw [hml]; exact hkl)) ?_ rfl ?_, by simp only; omega⟩
    · simp (disch := omega) only [go_sem, natLe_ok]
    · have e2 : (gateMix xs k).set k [iV (xs.getD k gateZ).owner, .own 1 (intsT (xs.getD k gateZ).waits), .own 1 (intsT (xs.getD k gateZ).queues)] = gateMix xs (k + 1) := e
      simp (disch := omega) only [go_sem, natLe_ok, List.set_set, e2]
      (refine weak_canon [0, 3, 4] [0] ?_ ?_ ?_ <;> (simp (disch := omega) only [go_sem, e2]; done))
  ·
    repeat' (first
      | (with_reducible refine i_seq ?_)
      | ((with_reducible refine i_block ?_); (try simp (disch := omega) only [go_sem, *]))
      | ((with_reducible refine i_regionQ (fun Q' hQ => ?_)); (try simp (disch := omega) only [go_sem, *]))
      | ((with_reducible refine Imp.go hQ ?_); clear hQ; (try simp (disch := omega) only [go_sem, *]))
      | ((with_reducible refine resOk_g (fun h => ?_) (fun h => ?_)) <;> (try simp only [Bool.not_eq_eq_eq_not, Bool.not_true, Bool.not_false, reduceCtorEq] at h) <;> (try have h' := of_decide_eq_true h) <;> (try (have hz : (_ : Int) = (_ : Int) := h'; clear hz h')) <;> (try have h' := of_decide_eq_false h) <;> (try have h' := inB_t h) <;> (try (exfalso; omega)) <;> (try simp (disch := omega) only [go_sem, *]))
      | (((with_reducible refine i_condT ?_ ?_); (focus (simp only [go_sem, *]; done))) <;> (try simp (disch := omega) only [go_sem, *]))
      | (((with_reducible refine i_condF ?_ ?_); (focus (simp only [go_sem, *]; done))) <;> (try simp (disch := omega) only [go_sem, *]))
      | ((with_reducible refine i_cond (by simp only [go_sem, *] <;> rfl) (fun h => ?_) (fun h => ?_)) <;> (try simp only [Bool.not_eq_eq_eq_not, Bool.not_true, Bool.not_false, reduceCtorEq] at h) <;> (try have h' := of_decide_eq_true h) <;> (try (have hz : (_ : Int) = (_ : Int) := h'; clear hz h')) <;> (try have h' := of_decide_eq_false h) <;> (try have h' := inB_t h) <;> (try (exfalso; omega)) <;> (try simp (disch := omega) only [go_sem, *])))
    all_goals (try simp (disch := omega) only [EndK, go_sem, natLe_ok, *])
    all_goals rw [gateMix_end (by omega)]
    all_goals (try simp (disch := omega) only [go_sem, natLe_ok])
theorem eqGateS_ok (xs : List Gate) (hs : xs.length ≤ 1048576 ∧ ∀ y ∈ xs, smGate y) : CallOk Tryd.prog 55 [.one (.ro 3 (gatesD xs)), .one (.ro 3 (gatesD xs))] (.s (.one (bV true))) [none, none] := by
  obtain ⟨hs, hs1⟩ := hs
  refine callOk_of_hcall 40 (hcall_of_body Tryd.func55 rfl (by kernel_rfl) ?_)
  simp (disch := omega) only [go_sem, Tryd.ntmps55, Tryd.results55]
  repeat' (first
    | (with_reducible refine i_seq ?_)
    | ((with_reducible refine i_block ?_); (try simp (disch := omega) only [go_sem, bne_self_eq_false, *]))
    | ((with_reducible refine i_regionQ (fun Q' hQ => ?_)); (try simp (disch := omega) only [go_sem, bne_self_eq_false, *]))
    | ((with_reducible refine Imp.go hQ ?_); clear hQ; (try simp (disch := omega) only [go_sem, bne_self_eq_false, *]))
    | ((with_reducible refine resOk_g (fun h => ?_) (fun h => ?_)) <;> (try simp only [Bool.not_eq_eq_eq_not, Bool.not_true, Bool.not_false, reduceCtorEq] at h) <;> (try have h' := of_decide_eq_true h) <;> (try (have hz : (_ : Int) = (_ : Int) := h'; clear hz h')) <;> (try have h' := of_decide_eq_false h) <;> (try have h' := inB_t h) <;> (try (exfalso; omega)) <;> (try simp (disch := omega) only [go_sem, bne_self_eq_false, *]))
    | (((with_reducible refine i_condT ?_ ?_); (focus (simp only [go_sem, *]; done))) <;> (try simp (disch := omega) only [go_sem, bne_self_eq_false, *]))
    | (((with_reducible refine i_condF ?_ ?_); (focus (simp only [go_sem, *]; done))) <;> (try simp (disch := omega) only [go_sem, bne_self_eq_false, *]))
    | ((with_reducible refine i_cond (by simp only [go_sem, *] <;> rfl) (fun h => ?_) (fun h => ?_)) <;> (try simp only [Bool.not_eq_eq_eq_not, Bool.not_true, Bool.not_false, reduceCtorEq] at h) <;> (try have h' := of_decide_eq_true h) <;> (try (have hz : (_ : Int) = (_ : Int) := h'; clear hz h')) <;> (try have h' := of_decide_eq_false h) <;> (try have h' := inB_t h) <;> (try (exfalso; omega)) <;> (try simp (disch := omega) only [go_sem, bne_self_eq_false, *]))
    | (with_reducible refine i_treeQ (id := 6) (.fr [0, 1, 2, 3, 4, 5, 6, 7] (.op [8] (.fr [9] (.stop)))) mixedT (by kernel_rfl) (fun Q' hQ => ?_))
    | (with_reducible exact tr_none)
    | (with_reducible refine tr_stop ?_)
    | ((with_reducible refine tr_fr ?_); (try simp (disch := omega) only [go_sem, bne_self_eq_false, *]))
    | ((with_reducible refine tr_op (aL_run ?_)); (try simp (disch := omega) only [go_sem, bne_self_eq_false, *]))
    | ((with_reducible refine tr_alt (by kernel_rfl) (aL_run ?_) ?_) <;> (try simp (disch := omega) only [go_sem, bne_self_eq_false, *]))
    | ((with_reducible refine tr_altp ?_ ?_) <;> (try simp (disch := omega) only [go_sem, bne_self_eq_false, *]))
    | ((with_reducible refine pG_split (fun h => ?_) (fun h => ?_)) <;> (try simp only [Bool.not_eq_eq_eq_not, Bool.not_true, Bool.not_false, reduceCtorEq] at h) <;> (try have h' := of_decide_eq_true h) <;> (try (have hz : (_ : Int) = (_ : Int) := h'; clear hz h')) <;> (try have h' := of_decide_eq_false h) <;> (try have h' := inB_t h) <;> (try (exfalso; omega)) <;> (try simp (disch := omega) only [go_sem, bne_self_eq_false, *])))
  all_goals (try simp (disch := omega) only [EndK, go_sem, bne_self_eq_false, natLe_ok, *])
  refine i_loop (α := {k : Nat // k ≤ xs.length}) (fun k => ⟨mkEnv 27 [(0, .one (.ro 3 (gatesD xs))), (1, .one (.ro 3 (gatesD xs))), (5, .one (iV k.1))], []⟩) (fun k => xs.length - k.1) ⟨0, by omega⟩ ?_ ?_
  · (refine weak_canon [0, 1, 5] [] ?_ ?_ ?_ <;> (simp (disch := omega) only [go_sem]; done))
  rintro ⟨k, hk⟩
  simp (disch := omega) only [go_sem]
  by_cases hkl : k < xs.length
  · have hsk := hs1 (xs.getD k gateZ) (by simp [hkl])
    repeat' (first
      | (with_reducible refine i_seq ?_)
      | ((with_reducible refine i_block ?_); (try simp (disch := omega) only [go_sem, *]))
      | ((with_reducible refine i_regionQ (fun Q' hQ => ?_)); (try simp (disch := omega) only [go_sem, *]))
      | ((with_reducible refine Imp.go hQ ?_); clear hQ; (try simp (disch := omega) only [go_sem, *]))
      | ((with_reducible refine resOk_g (fun h => ?_) (fun h => ?_)) <;> (try simp only [Bool.not_eq_eq_eq_not, Bool.not_true, Bool.not_false, reduceCtorEq] at h) <;> (try have h' := of_decide_eq_true h) <;> (try (have hz : (_ : Int) = (_ : Int) := h'; clear hz h')) <;> (try have h' := of_decide_eq_false h) <;> (try have h' := inB_t h) <;> (try (exfalso; omega)) <;> (try simp (disch := omega) only [go_sem, *]))
      | (((with_reducible refine i_condT ?_ ?_); (focus (simp only [go_sem, *]; done))) <;> (try simp (disch := omega) only [go_sem, *]))
      | (((with_reducible refine i_condF ?_ ?_); (focus (simp only [go_sem, *]; done))) <;> (try simp (disch := omega) only [go_sem, *]))
      | ((with_reducible refine i_cond (by simp only [go_sem, *] <;> rfl) (fun h => ?_) (fun h => ?_)) <;> (try simp only [Bool.not_eq_eq_eq_not, Bool.not_true, Bool.not_false, reduceCtorEq] at h) <;> (try have h' := of_decide_eq_true h) <;> (try (have hz : (_ : Int) = (_ : Int) := h'; clear hz h')) <;> (try have h' := of_decide_eq_false h) <;> (try have h' := inB_t h) <;> (try (exfalso; omega)) <;> (try simp (disch := omega) only [go_sem, *]))
      | (with_reducible refine i_treeQ (id := 6) (.fr [0, 1, 2, 3, 4, 5, 6, 7] (.op [8] (.fr [9] (.stop)))) mixedT (by kernel_rfl) (fun Q' hQ => ?_))
      | (with_reducible exact tr_none)
      | (with_reducible refine tr_stop ?_)
      | ((with_reducible refine tr_fr ?_); (try simp (disch := omega) only [go_sem, *]))
      | ((with_reducible refine tr_op (aL_run ?_)); (try simp (disch := omega) only [go_sem, *]))
      | ((with_reducible refine tr_alt (by kernel_rfl) (aL_run ?_) ?_) <;> (try simp (disch := omega) only [go_sem, *]))
      | ((with_reducible refine tr_altp ?_ ?_) <;> (try simp (disch := omega) only [go_sem, *]))
      | ((with_reducible refine pG_split (fun h => ?_) (fun h => ?_)) <;> (try simp only [Bool.not_eq_eq_eq_not, Bool.not_true, Bool.not_false, reduceCtorEq] at h) <;> (try have h' := of_decide_eq_true h) <;> (try (have hz : (_ : Int) = (_ : Int) := h'; clear hz h')) <;> (try have h' := of_decide_eq_false h) <;> (try have h' := inB_t h) <;> (try (exfalso; omega)) <;> (try simp (disch := omega) only [go_sem, *]))
      | ((with_reducible refine hcall_of_callOk 40 true (eqGate_ok (xs.getD k gateZ) hsk) ?_ ?_ ?_ ?_ ?_); (focus (simp (disch := omega) only [go_sem, natLe_ok]; done)); (focus (simp (disch := omega) only [go_sem, natLe_ok]; done)); (focus (simp (disch := omega) only [go_sem, natLe_ok]; done)); (focus (simp (disch := omega) only [go_sem, natLe_ok]; done)); simp only [go_sem]; refine aL_run ?_; (try simp (disch := omega) only [go_sem, *])))
    all_goals (try simp (disch := omega) only [EndK, go_sem, natLe_ok, *])
    refine ⟨⟨k + 1, by omega⟩, ?_, by simp only; omega⟩
    (refine weak_canon [0, 1, 5] [] ?_ ?_ ?_ <;> (simp (disch := omega) only [go_sem]; done))
  ·
    repeat' (first
      | (with_reducible refine i_seq ?_)
      | ((with_reducible refine i_block ?_); (try simp (disch := omega) only [go_sem, *]))
      | ((with_reducible refine i_regionQ (fun Q' hQ => ?_)); (try simp (disch := omega) only [go_sem, *]))
      | ((with_reducible refine Imp.go hQ ?_); clear hQ; (try simp (disch := omega) only [go_sem, *]))
      | ((with_reducible refine resOk_g (fun h => ?_) (fun h => ?_)) <;> (try simp only [Bool.not_eq_eq_eq_not, Bool.not_true, Bool.not_false, reduceCtorEq] at h) <;> (try have h' := of_decide_eq_true h) <;> (try (have hz : (_ : Int) = (_ : Int) := h'; clear hz h')) <;> (try have h' := of_decide_eq_false h) <;> (try have h' := inB_t h) <;> (try (exfalso; omega)) <;> (try simp (disch := omega) only [go_sem, *]))
      | (((with_reducible refine i_condT ?_ ?_); (focus (simp only [go_sem, *]; done))) <;> (try simp (disch := omega) only [go_sem, *]))
      | (((with_reducible refine i_condF ?_ ?_); (focus (simp only [go_sem, *]; done))) <;> (try simp (disch := omega) only [go_sem, *]))
      | ((with_reducible refine i_cond (by simp only [go_sem, *] <;> rfl) (fun h => ?_) (fun h => ?_)) <;> (try simp only [Bool.not_eq_eq_eq_not, Bool.not_true, Bool.not_false, reduceCtorEq] at h) <;> (try have h' := of_decide_eq_true h) <;> (try (have hz : (_ : Int) = (_ : Int) := h'; clear hz h')) <;> (try have h' := of_decide_eq_false h) <;> (try have h' := inB_t h) <;> (try (exfalso; omega)) <;> (try simp (disch := omega) only [go_sem, *]))
      | (with_reducible refine i_treeQ (id := 6) (.fr [0, 1, 2, 3, 4, 5, 6, 7] (.op [8] (.fr [9] (.stop)))) mixedT (by kernel_rfl) (fun Q' hQ => ?_))
      | (with_reducible exact tr_none)
      | (with_reducible refine tr_stop ?_)
      | ((with_reducible refine tr_fr ?_); (try simp (disch := omega) only [go_sem, *]))
      | ((with_reducible refine tr_op (aL_run ?_)); (try simp (disch := omega) only [go_sem, *]))
      | ((with_reducible refine tr_alt (by kernel_rfl) (aL_run ?_) ?_) <;> (try simp (disch := omega) only [go_sem, *]))
      | ((with_reducible refine tr_altp ?_ ?_) <;> (try simp (disch := omega) only [go_sem, *]))
      | ((with_reducible refine pG_split (fun h => ?_) (fun h => ?_)) <;> (try simp only [Bool.not_eq_eq_eq_not, Bool.not_true, Bool.not_false, reduceCtorEq] at h) <;> (try have h' := of_decide_eq_true h) <;> (try (have hz : (_ : Int) = (_ : Int) := h'; clear hz h')) <;> (try have h' := of_decide_eq_false h) <;> (try have h' := inB_t h) <;> (try (exfalso; omega)) <;> (try simp (disch := omega) only [go_sem, *])))
    all_goals (try simp (disch := omega) only [EndK, go_sem, natLe_ok, *])
end Go.Proofs.YtgeoipplkjgnfaaDoor.E
