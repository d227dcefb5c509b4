/- A part of what stands under the laws of this seat: an abstract evaluator that is proved sound, and contracts of functions by it. No condition beside those that stand in each statement. -/
import Derived.Test.YtejnpiielcbkkaaGreatZA1
import Derived.Test.YtejnpiielcbkkaaGreatZE2
import Derived.Below
set_option linter.unusedVariables false
set_option linter.unusedSimpArgs false
section
set_option maxRecDepth 100000
set_option maxHeartbeats 4000000
namespace Go.Proofs.YtejnpiielcbkkaaGreat.E
theorem ti222 : ti Tryz.prog 222 = some ⟨.st [(0, 1, false), (1, 1, false), (2, 1, false)], 3, 56, true, [.int .i64 0, .slice none 0 0, .slice none 0 0]⟩ := by kernel_rfl
theorem ni222 : notInt Tryz.prog 222 = true := by kernel_rfl
theorem ti223 : ti Tryz.prog 223 = some ⟨.st [(0, 1, false), (1, 1, false), (2, 1, false)], 3, 56, true, [.int .i64 0, .slice none 0 0, .slice none 0 0]⟩ := by kernel_rfl
theorem ni223 : notInt Tryz.prog 223 = true := by kernel_rfl
theorem ti41 : ti Tryz.prog 41 = some ⟨.sl 222, 1, 24, false, [.slice none 0 0]⟩ := by kernel_rfl
theorem ni41 : notInt Tryz.prog 41 = true := by kernel_rfl
theorem ti52 : ti Tryz.prog 52 = some ⟨.sl 223, 1, 24, false, [.slice none 0 0]⟩ := by kernel_rfl
theorem ni52 : notInt Tryz.prog 52 = true := by kernel_rfl
attribute [go_sem] ti222 ni222 ti223 ni223 ti41 ni41 ti52 ni52
structure Gate where
  owner : Int
  waits : List Int
  queues : List Int
def gateT (x : Gate) : List T := [iV x.owner, .own 1 (intsT x.waits), .own 1 (intsT x.queues)]
def gateR (x : Gate) : List T := [iV x.owner, .ro 1 (intsD x.waits), .ro 1 (intsD x.queues)]
attribute [go_sem] gateT gateR
def gateD (x : Gate) : List D := [D.v (.int .i64 x.owner), .l 1 (intsD x.waits), .l 1 (intsD x.queues)]
attribute [go_sem] gateD
def gateZ : Gate := ⟨0, [], []⟩
def smGate (x : Gate) : Prop := x.waits.length ≤ 1048576 ∧ x.queues.length ≤ 1048576
def bgGate (x : Gate) : Prop := x.waits.length ≤ 9223372036854775807 ∧ x.queues.length ≤ 9223372036854775807
def mdGate (x : Gate) : Prop := x.waits.length ≤ 1099511627776 ∧ x.queues.length ≤ 1099511627776
theorem sm_mdGate {x : Gate} (h : smGate x) : mdGate x := ⟨Nat.le_trans h.1 (by omega), Nat.le_trans h.2 (by omega)⟩
theorem szGate_ok (x : Gate) (left : Int) (h : 0 ≤ left ∧ left ≤ 1048576) (hb : bgGate x) : CallE Tryz.prog 184 [.agg (gateR x), .one (iV left)] (fun r : Int => .s (.one (iV r))) (fun _ => [none, none]) (fun r => -1 ≤ r ∧ r ≤ left ∧ (0 ≤ r → smGate x)) := by
  obtain ⟨hb0, hb1⟩ := hb
  refine callE_of_hcall 40 (hcall_of_body Tryz.func184 rfl (by kernel_rfl) ?_)
  simp (disch := omega) only [go_sem, Tryz.ntmps184, Tryz.results184]
  repeat' (first | (with_reducible first | refine i_seq ?_) | ((first | (with_reducible first | refine i_block ?_ | refine i_regionQ (fun Q' hQ => ?_) | (refine Imp.go hQ ?_; clear hQ)) | ((with_reducible refine i_condT ?_ ?_); (focus (simp only [go_sem, *]; done))) | ((with_reducible refine i_condF ?_ ?_); (focus (simp only [go_sem, *]; done))) | ((with_reducible first | refine resOk_g (fun h => ?_) (fun h => ?_) | refine i_cond (by simp only [go_sem, *] <;> rfl) (fun h => ?_) (fun h => ?_)) <;> (try simp only [Bool.not_eq_eq_eq_not, Bool.not_true, Bool.not_false, reduceCtorEq] at h) <;> (try have h' := of_decide_eq_true h) <;> (try (have hz : (_ : Int) = (_ : Int) := h'; clear hz h')) <;> (try have h' := of_decide_eq_false h) <;> (try have h' := inB_t h) <;> (try (exfalso; omega))) | ((with_reducible refine hcall_of_callE 40 true (szIntS_ok x.waits left (by omega) hb0) ?_ ?_ ?_ ?_ ?_); (focus (simp (disch := omega) only [go_sem, natLe_ok]; done)); (focus (simp (disch := omega) only [go_sem, natLe_ok]; done)); (focus (rintro r0 ⟨ha0, hc0, hd0⟩; (try dsimp only at ha0); (try dsimp only at hc0); (try dsimp only at hd0); (try simp (disch := omega) only [go_sem, natLe_ok]); done)); (focus (rintro r0 ⟨ha0, hc0, hd0⟩; (try dsimp only at ha0); (try dsimp only at hc0); (try dsimp only at hd0); (try simp (disch := omega) only [go_sem, natLe_ok]); done)); rintro r0 ⟨ha0, hc0, hd0⟩; (try dsimp only at ha0); (try dsimp only at hc0); (try dsimp only at hd0); simp only [go_sem]; refine aL_run ?_) | ((with_reducible refine hcall_of_callE 40 true (szIntS_ok x.queues r0 (by omega) hb1) ?_ ?_ ?_ ?_ ?_); (focus (simp (disch := omega) only [go_sem, natLe_ok]; done)); (focus (simp (disch := omega) only [go_sem, natLe_ok]; done)); (focus (rintro r1 ⟨ha1, hc1, hd1⟩; (try dsimp only at ha1); (try dsimp only at hc1); (try dsimp only at hd1); (try simp (disch := omega) only [go_sem, natLe_ok]); done)); (focus (rintro r1 ⟨ha1, hc1, hd1⟩; (try dsimp only at ha1); (try dsimp only at hc1); (try dsimp only at hd1); (try simp (disch := omega) only [go_sem, natLe_ok]); done)); rintro r1 ⟨ha1, hc1, hd1⟩; (try dsimp only at ha1); (try dsimp only at hc1); (try dsimp only at hd1); simp only [go_sem]; refine aL_run ?_)) <;> (try simp (disch := omega) only [go_sem, *])))
  all_goals (try simp (disch := omega) only [EndK, go_sem, natLe_ok, *])
  all_goals first
    | exact ⟨-1, ⟨by omega, by omega, fun h => by first | trivial | (exfalso; omega)⟩, rfl⟩
    | exact ⟨r1, ⟨by omega, by omega, fun h => by first | trivial | exact ⟨hd0 (by omega), hd1 (by omega)⟩⟩, rfl⟩
theorem toGate_ok (x : Gate) (hs : smGate x) : CallOk Tryz.prog 197 [.agg (gateR x)] (.s (.agg (gateT x))) [none] := by
  obtain ⟨hs0, hs1⟩ := hs
  refine callOk_of_hcall 40 (hcall_of_body Tryz.func197 rfl (by kernel_rfl) ?_)
  simp (disch := omega) only [go_sem, Tryz.ntmps197, Tryz.results197]
  have x1 := toIntS_ok x.waits hs0
  have x2 : HC 1 _ := ⟨toIntS_ok x.queues hs1⟩
  exact wk
theorem eqGate_ok (x : Gate) (hs : mdGate x) : CallOk Tryz.prog 212 [.agg (gateR x), .agg (gateR x)] (.s (.one (bV true))) [none, none] := by
  obtain ⟨hs0, hs1⟩ := hs
  refine callOk_of_hcall 40 (hcall_of_body Tryz.func212 rfl (by kernel_rfl) ?_)
  simp (disch := omega) only [go_sem, Tryz.ntmps212, Tryz.results212]
  have x1 := eqIntS_ok x.waits hs0
  have x2 : HC 1 _ := ⟨eqIntS_ok x.queues hs1⟩
  exact wk
/-! Lists of it. -/
instance : Inhabited Gate := ⟨gateZ⟩
def gatesT (xs : List Gate) : List (List T) := xs.map gateT
def gatesD (xs : List Gate) : List (List D) := xs.map gateD
theorem gatesT_nil : gatesT [] = [] := rfl
theorem gatesT_len (xs : List Gate) : (gatesT xs).length = xs.length := by simp [gatesT]
theorem gatesD_len (xs : List Gate) : (gatesD xs).length = xs.length := by simp [gatesD]
theorem gatesD_get {xs : List Gate} {k : Nat} (h : k < xs.length) : (gatesD xs)[k]? = some (gateD (xs.getD k gateZ)) := by simp [gatesD, h]
theorem gatesT_get {xs : List Gate} {k : Nat} (h : k < xs.length) : (gatesT xs)[k]? = some (gateT (xs.getD k gateZ)) := by simp [gatesT, h]
theorem gatesT_take (xs : List Gate) (n : Nat) : (gatesT xs).take n = gatesT (xs.take n) := by simp [gatesT, List.map_take]
theorem gatesD_take (xs : List Gate) (n : Nat) : (gatesD xs).take n = gatesD (xs.take n) := by simp [gatesD, List.map_take]
theorem gatesD_ofD (xs : List Gate) : (gatesD xs).map (·.map ofD) = xs.map gateR := by rw [gatesD, List.map_map]; rfl
theorem gatesT_closed (xs : List Gate) : closedRows (gatesT xs) = true := closed_map (fun x => by simp [gateT, closedRow, closedT, isNil, intsT_closed]) xs
theorem gatesT_noRo (xs : List Gate) : noRoRows (gatesT xs) = true := noRo_map (fun x => by simp [gateT, noRoRow, noRo, isNil, intsT_noRo]) xs
theorem gatesT_look {n : Nat} {H : List AObj} (xs : List Gate) : lookRowsBy (lookD (n + 2) H) (gatesT xs) (gatesD xs) := lookRowsBy_map fun x _ => ⟨rfl, ⟨⟨rfl, intsT_look _⟩, ⟨⟨rfl, intsT_look _⟩, trivial⟩⟩⟩
attribute [go_sem] gatesT_nil gatesT_len gatesD_len gatesD_get gatesT_get gatesT_take gatesD_take gatesT_closed gatesT_noRo gatesT_look
theorem szGateS_ok (xs : List Gate) (left : Int) (h : 0 ≤ left ∧ left ≤ 1048576) (hb : xs.length ≤ 9223372036854775807 ∧ ∀ y ∈ xs, bgGate y) : CallE Tryz.prog 122 [.one (.ro 3 (gatesD xs)), .one (iV left)] (fun r : Int => .s (.one (iV r))) (fun _ => [none, none]) (fun r => -1 ≤ r ∧ r ≤ left ∧ (0 ≤ r → xs.length ≤ 1048576 ∧ ∀ y ∈ xs, smGate y)) := by
  obtain ⟨h1, h2⟩ := h
  obtain ⟨hb0, hb1⟩ := hb
  refine callE_of_hcall 40 (hcall_of_body Tryz.func122 rfl (by kernel_rfl) ?_)
  simp (disch := omega) only [go_sem, Tryz.ntmps122, Tryz.results122]
  repeat' (first | (with_reducible first | refine i_seq ?_) | ((first | (with_reducible first | refine i_block ?_ | refine i_regionQ (fun Q' hQ => ?_) | (refine Imp.go hQ ?_; clear hQ)) | ((with_reducible refine i_condT ?_ ?_); (focus (simp only [go_sem, *]; done))) | ((with_reducible refine i_condF ?_ ?_); (focus (simp only [go_sem, *]; done))) | ((with_reducible first | refine resOk_g (fun h => ?_) (fun h => ?_) | refine i_cond (by simp only [go_sem, *] <;> rfl) (fun h => ?_) (fun h => ?_)) <;> (try simp only [Bool.not_eq_eq_eq_not, Bool.not_true, Bool.not_false, reduceCtorEq] at h) <;> (try have h' := of_decide_eq_true h) <;> (try (have hz : (_ : Int) = (_ : Int) := h'; clear hz h')) <;> (try have h' := of_decide_eq_false h) <;> (try have h' := inB_t h) <;> (try (exfalso; omega)))) <;> (try simp (disch := omega) only [go_sem, *])))
  all_goals (try simp (disch := omega) only [EndK, go_sem, natLe_ok, *])
  · exact ⟨-1, ⟨by omega, by omega, fun h => by first | trivial | (exfalso; omega)⟩, rfl⟩
  refine i_loop (α := {p : Nat × Int // p.1 ≤ xs.length ∧ 0 ≤ p.2 ∧ p.2 ≤ left ∧ ∀ y ∈ xs.take p.1, smGate y}) (fun p => ⟨mkEnv 27 [(0, .one (.ro 3 (gatesD xs))), (1, .one (iV p.1.2)), (5, .one (iV p.1.1))], []⟩) (fun p => xs.length - p.1.1) ⟨(0, left - xs.length), by simp, by simp only; omega, by simp only; omega, by simp⟩ ?_ ?_
  · (refine weak_canon [0, 1, 5] [] ?_ ?_ ?_ <;> (simp (disch := omega) only [go_sem]; done))
  rintro ⟨⟨k, lf⟩, hk, hl0, hl1, hp⟩
  simp only at hk hl0 hl1 hp
  simp (disch := omega) only [go_sem]
  by_cases hkl : k < xs.length
  · have hbk := hb1 (xs.getD k gateZ) (by simp [hkl])
    repeat' (first | (with_reducible first | refine i_seq ?_) | ((first | (with_reducible first | refine i_block ?_ | refine i_regionQ (fun Q' hQ => ?_) | (refine Imp.go hQ ?_; clear hQ)) | ((with_reducible refine i_condT ?_ ?_); (focus (simp only [go_sem, *]; done))) | ((with_reducible refine i_condF ?_ ?_); (focus (simp only [go_sem, *]; done))) | ((with_reducible first | refine resOk_g (fun h => ?_) (fun h => ?_) | refine i_cond (by simp only [go_sem, *] <;> rfl) (fun h => ?_) (fun h => ?_)) <;> (try simp only [Bool.not_eq_eq_eq_not, Bool.not_true, Bool.not_false, reduceCtorEq] at h) <;> (try have h' := of_decide_eq_true h) <;> (try (have hz : (_ : Int) = (_ : Int) := h'; clear hz h')) <;> (try have h' := of_decide_eq_false h) <;> (try have h' := inB_t h) <;> (try (exfalso; omega))) | ((with_reducible refine hcall_of_callE 40 true (szGate_ok (xs.getD k gateZ) lf (by omega) hbk) ?_ ?_ ?_ ?_ ?_); (focus (simp (disch := omega) only [go_sem, natLe_ok]; done)); (focus (simp (disch := omega) only [go_sem, natLe_ok]; done)); (focus (rintro r ⟨hr1, hr2, hr3⟩; (try dsimp only at hr1); (try dsimp only at hr2); (try dsimp only at hr3); (try simp (disch := omega) only [go_sem, natLe_ok]); done)); (focus (rintro r ⟨hr1, hr2, hr3⟩; (try dsimp only at hr1); (try dsimp only at hr2); (try dsimp only at hr3); (try simp (disch := omega) only [go_sem, natLe_ok]); done)); rintro r ⟨hr1, hr2, hr3⟩; (try dsimp only at hr1); (try dsimp only at hr2); (try dsimp only at hr3); simp only [go_sem]; refine aL_run ?_)) <;> (try simp (disch := omega) only [go_sem, *])))
    all_goals (try simp (disch := omega) only [EndK, go_sem, natLe_ok, *])
    · exact ⟨-1, ⟨by omega, by omega, fun h => by first | trivial | (exfalso; omega)⟩, rfl⟩
    · refine ⟨⟨(k + 1, r), by simp only; omega, by simp only; omega, by simp only; omega, fun y hy => ?_⟩, ?_, by simp only; omega⟩
      · rw [List.take_succ_eq_append_getElem hkl] at hy
        rcases List.mem_append.1 hy with hy | hy
        · exact hp y hy
        · have e : y = xs.getD k gateZ := by simpa [hkl] using hy
          rw [e]; exact hr3 (by omega)
      · (refine weak_canon [0, 1, 5] [] ?_ ?_ ?_ <;> (simp (disch := omega) only [go_sem]; done))
  ·
    repeat' (first | (with_reducible first | refine i_seq ?_) | ((first | (with_reducible first | refine i_block ?_ | refine i_regionQ (fun Q' hQ => ?_) | (refine Imp.go hQ ?_; clear hQ)) | ((with_reducible refine i_condT ?_ ?_); (focus (simp only [go_sem, *]; done))) | ((with_reducible refine i_condF ?_ ?_); (focus (simp only [go_sem, *]; done))) | ((with_reducible first | refine resOk_g (fun h => ?_) (fun h => ?_) | refine i_cond (by simp only [go_sem, *] <;> rfl) (fun h => ?_) (fun h => ?_)) <;> (try simp only [Bool.not_eq_eq_eq_not, Bool.not_true, Bool.not_false, reduceCtorEq] at h) <;> (try have h' := of_decide_eq_true h) <;> (try (have hz : (_ : Int) = (_ : Int) := h'; clear hz h')) <;> (try have h' := of_decide_eq_false h) <;> (try have h' := inB_t h) <;> (try (exfalso; omega)))) <;> (try simp (disch := omega) only [go_sem, *])))
    all_goals (try simp (disch := omega) only [EndK, go_sem, natLe_ok, *])
    all_goals exact ⟨lf, ⟨by omega, by omega, fun h => by first | exact fun y hy => hp y (by rw [List.take_of_length_le (by omega)]; exact hy) | exact ⟨by omega, fun y hy => hp y (by rw [List.take_of_length_le (by omega)]; exact hy)⟩⟩, rfl⟩
def gateMix (xs : List Gate) (k : Nat) : List (List T) := gatesT (xs.take k) ++ List.replicate (xs.length - k) [iV 0, .v nilV, .v nilV]
theorem gateMix_len {xs : List Gate} {k : Nat} (hk : k ≤ xs.length) : (gateMix xs k).length = xs.length := by
  simp only [gateMix, List.length_append, gatesT_len, List.length_take, List.length_replicate]; omega
theorem gateMix_zero (xs : List Gate) : gateMix xs 0 = List.replicate xs.length [iV 0, .v nilV, .v nilV] := by simp [gateMix, gatesT]
theorem gateMix_end {xs : List Gate} {k : Nat} (h : xs.length ≤ k) : gateMix xs k = gatesT xs := by
  rw [gateMix, List.take_of_length_le h, show xs.length - k = 0 by omega]; simp
theorem gateMix_get {xs : List Gate} {k : Nat} (hk : k < xs.length) : (gateMix xs k)[k]? = some [iV 0, .v nilV, .v nilV] := by
  have h1 : (gatesT (xs.take k)).length = k := by rw [gatesT_len, List.length_take]; omega
  rw [gateMix, List.getElem?_append_right (by omega), h1, List.getElem?_replicate]
  simp; omega
theorem gateMix_set {xs : List Gate} {k : Nat} (hk : k < xs.length) : (gateMix xs k).set k (gateT (xs.getD k gateZ)) = gateMix xs (k + 1) := by
  have h1 : (gatesT (xs.take k)).length = k := by rw [gatesT_len, List.length_take]; omega
  have h2 : xs.length - k = (xs.length - (k + 1)) + 1 := by omega
  have h3 : gatesT (xs.take (k + 1)) = gatesT (xs.take k) ++ [gateT (xs.getD k gateZ)] := by
    have e : xs.getD k gateZ = xs[k] := by simp [hk]
    rw [e, List.take_succ_eq_append_getElem hk]; simp only [gatesT, List.map_append, List.map_cons, List.map_nil]
  unfold gateMix
  rw [h2, List.replicate_succ, List.set_append_right _ _ (by omega), h1, Nat.sub_self, List.set_cons_zero, h3, List.append_assoc]
  rfl
theorem gateMix_refs (xs : List Gate) (k : Nat) : refsRows (gateMix xs k) = [] := by
  rw [gateMix, refsRows_app, closed_refsRows _ (gatesT_closed _), refs_repl rfl]; rfl
theorem gateMix_ren (f : Nat → Nat) (xs : List Gate) (k : Nat) : renRows f (gateMix xs k) = gateMix xs k := by
  rw [gateMix, renRows_app, closed_renRows f _ (gatesT_closed _), ren_repl rfl]
attribute [go_sem] gateMix_refs gateMix_ren
theorem toGateS_ok (xs : List Gate) (hs : xs.length ≤ 1048576 ∧ ∀ y ∈ xs, smGate y) : CallOk Tryz.prog 137 [.one (.ro 3 (gatesD xs))] (.s (.one (.own 3 (gatesT xs)))) [none] := by
  obtain ⟨hs, hs1⟩ := hs
  have hz := gateMix_zero xs
  refine callOk_of_hcall 40 (hcall_of_body Tryz.func137 rfl (by kernel_rfl) ?_)
  simp (disch := omega) only [go_sem, Tryz.ntmps137, Tryz.results137]
  refine wkc ?_
  refine i_loop (α := {k : Nat // k ≤ xs.length}) (fun k => ⟨mkEnv 23 [(0, .one (.ro 3 (gatesD xs))), (3, .one (.ref 0 0 xs.length)), (4, .one (iV k.1))], [.live 3 (gateMix xs k.1)]⟩) (fun k => xs.length - k.1) ⟨0, by omega⟩ ?_ ?_
  · (refine weak_canon [0, 3, 4] [0] ?_ ?_ ?_ <;> (simp (disch := omega) only [go_sem, ← hz]; done))
  rintro ⟨k, hk⟩
  have hml := gateMix_len hk
  simp (disch := omega) only [go_sem]
  by_cases hkl : k < xs.length
  · have hg := gateMix_get hkl
    have e := gateMix_set hkl
    have hsk := hs1 (xs.getD k gateZ) (by simp [hkl])
    have x1 := toGate_ok (xs.getD k gateZ) hsk
    refine wkc ?_
    refine ⟨⟨k + 1, by omega⟩, weak_fit2 40 0 k 3 _ _ (gateT (xs.getD k gateZ)) rfl (List.getElem?_set_self (by rw [hml]; exact hkl)) ?_ rfl ?_, by simp only; omega⟩
    · simp (disch := omega) only [go_sem, natLe_ok]
    · have e2 : (gateMix xs k).set k [iV (xs.getD k gateZ).owner, .own 1 (intsT (xs.getD k gateZ).waits), .own 1 (intsT (xs.getD k gateZ).queues)] = gateMix xs (k + 1) := e
      simp (disch := omega) only [go_sem, natLe_ok, List.set_set, e2]
      (refine weak_canon [0, 3, 4] [0] ?_ ?_ ?_ <;> (simp (disch := omega) only [go_sem, e2]; done))
  ·
    repeat' (first | (with_reducible first | refine i_seq ?_) | ((first | (with_reducible first | refine i_block ?_ | refine i_regionQ (fun Q' hQ => ?_) | (refine Imp.go hQ ?_; clear hQ)) | ((with_reducible refine i_condT ?_ ?_); (focus (simp only [go_sem, *]; done))) | ((with_reducible refine i_condF ?_ ?_); (focus (simp only [go_sem, *]; done))) | ((with_reducible first | refine resOk_g (fun h => ?_) (fun h => ?_) | refine i_cond (by simp only [go_sem, *] <;> rfl) (fun h => ?_) (fun h => ?_)) <;> (try simp only [Bool.not_eq_eq_eq_not, Bool.not_true, Bool.not_false, reduceCtorEq] at h) <;> (try have h' := of_decide_eq_true h) <;> (try (have hz : (_ : Int) = (_ : Int) := h'; clear hz h')) <;> (try have h' := of_decide_eq_false h) <;> (try have h' := inB_t h) <;> (try (exfalso; omega)))) <;> (try simp (disch := omega) only [go_sem, *])))
    all_goals (try simp (disch := omega) only [EndK, go_sem, natLe_ok, *])
    all_goals rw [gateMix_end (by omega)]
    all_goals (try simp (disch := omega) only [go_sem, natLe_ok])
theorem eqGateS_ok (xs : List Gate) (hs : xs.length ≤ 68719476736 ∧ ∀ y ∈ xs, mdGate y) : CallOk Tryz.prog 152 [.one (.ro 3 (gatesD xs)), .one (.ro 3 (gatesD xs))] (.s (.one (bV true))) [none, none] := by
  obtain ⟨hs, hs1⟩ := hs
  refine callOk_of_hcall 40 (hcall_of_body Tryz.func152 rfl (by kernel_rfl) ?_)
  simp (disch := omega) only [go_sem, Tryz.ntmps152, Tryz.results152]
  have x1 : HT 6 (.fr [0, 1, 2, 3, 4, 5, 6, 7] (.op [8] (.fr [9] (.stop)))) := ⟨⟩
  refine wkc ?_
  refine i_loop (α := {k : Nat // k ≤ xs.length}) (fun k => ⟨mkEnv 27 [(0, .one (.ro 3 (gatesD xs))), (1, .one (.ro 3 (gatesD xs))), (5, .one (iV k.1))], []⟩) (fun k => xs.length - k.1) ⟨0, by omega⟩ ?_ ?_
  · (refine weak_canon [0, 1, 5] [] ?_ ?_ ?_ <;> (simp (disch := omega) only [go_sem]; done))
  rintro ⟨k, hk⟩
  simp (disch := omega) only [go_sem]
  by_cases hkl : k < xs.length
  · have hsk := hs1 (xs.getD k gateZ) (by simp [hkl])
    have x1 : HT 6 (.fr [0, 1, 2, 3, 4, 5, 6, 7] (.op [8] (.fr [9] (.stop)))) := ⟨⟩
    have x2 := eqGate_ok (xs.getD k gateZ) hsk
    refine wkc ?_
    refine ⟨⟨k + 1, by omega⟩, ?_, by simp only; omega⟩
    (refine weak_canon [0, 1, 5] [] ?_ ?_ ?_ <;> (simp (disch := omega) only [go_sem]; done))
  ·
    have x1 : HT 6 (.fr [0, 1, 2, 3, 4, 5, 6, 7] (.op [8] (.fr [9] (.stop)))) := ⟨⟩
    exact wk
end Go.Proofs.YtejnpiielcbkkaaGreat.E
end
section
set_option maxRecDepth 100000
set_option maxHeartbeats 4000000
namespace Go.Proofs.YtejnpiielcbkkaaGreat.E
theorem ti39 : ti Tryz.prog 39 = some ⟨.st [(0, 1, false), (1, 1, false), (2, 1, false)], 3, 56, true, [.slice none 0 0, .slice none 0 0, .int .i64 0]⟩ := by kernel_rfl
theorem ni39 : notInt Tryz.prog 39 = true := by kernel_rfl
theorem ti50 : ti Tryz.prog 50 = some ⟨.st [(0, 1, false), (1, 1, false), (2, 1, false)], 3, 56, true, [.slice none 0 0, .slice none 0 0, .int .i64 0]⟩ := by kernel_rfl
theorem ni50 : notInt Tryz.prog 50 = true := by kernel_rfl
attribute [go_sem] ti39 ni39 ti50 ni50
structure Image where
  text : List Int
  starts : List Int
  size : Int
def imageT (x : Image) : List T := [.own 1 (intsT x.text), .own 1 (intsT x.starts), iV x.size]
def imageR (x : Image) : List T := [.ro 1 (intsD x.text), .ro 1 (intsD x.starts), iV x.size]
attribute [go_sem] imageT imageR
def imageD (x : Image) : List D := [.l 1 (intsD x.text), .l 1 (intsD x.starts), D.v (.int .i64 x.size)]
attribute [go_sem] imageD
def imageZ : Image := ⟨[], [], 0⟩
def smImage (x : Image) : Prop := x.text.length ≤ 1048576 ∧ x.starts.length ≤ 1048576
def bgImage (x : Image) : Prop := x.text.length ≤ 9223372036854775807 ∧ x.starts.length ≤ 9223372036854775807
def mdImage (x : Image) : Prop := x.text.length ≤ 1099511627776 ∧ x.starts.length ≤ 1099511627776
theorem sm_mdImage {x : Image} (h : smImage x) : mdImage x := ⟨Nat.le_trans h.1 (by omega), Nat.le_trans h.2 (by omega)⟩
theorem szImage_ok (x : Image) (left : Int) (h : 0 ≤ left ∧ left ≤ 1048576) (hb : bgImage x) : CallE Tryz.prog 47 [.agg (imageR x), .one (iV left)] (fun r : Int => .s (.one (iV r))) (fun _ => [none, none]) (fun r => -1 ≤ r ∧ r ≤ left ∧ (0 ≤ r → smImage x)) := by
  obtain ⟨hb0, hb1⟩ := hb
  refine callE_of_hcall 40 (hcall_of_body Tryz.func47 rfl (by kernel_rfl) ?_)
  simp (disch := omega) only [go_sem, Tryz.ntmps47, Tryz.results47]
  repeat' (first | (with_reducible first | refine i_seq ?_) | ((first | (with_reducible first | refine i_block ?_ | refine i_regionQ (fun Q' hQ => ?_) | (refine Imp.go hQ ?_; clear hQ)) | ((with_reducible refine i_condT ?_ ?_); (focus (simp only [go_sem, *]; done))) | ((with_reducible refine i_condF ?_ ?_); (focus (simp only [go_sem, *]; done))) | ((with_reducible first | refine resOk_g (fun h => ?_) (fun h => ?_) | refine i_cond (by simp only [go_sem, *] <;> rfl) (fun h => ?_) (fun h => ?_)) <;> (try simp only [Bool.not_eq_eq_eq_not, Bool.not_true, Bool.not_false, reduceCtorEq] at h) <;> (try have h' := of_decide_eq_true h) <;> (try (have hz : (_ : Int) = (_ : Int) := h'; clear hz h')) <;> (try have h' := of_decide_eq_false h) <;> (try have h' := inB_t h) <;> (try (exfalso; omega))) | ((with_reducible refine hcall_of_callE 40 true (szIntS_ok x.text left (by omega) hb0) ?_ ?_ ?_ ?_ ?_); (focus (simp (disch := omega) only [go_sem, natLe_ok]; done)); (focus (simp (disch := omega) only [go_sem, natLe_ok]; done)); (focus (rintro r0 ⟨ha0, hc0, hd0⟩; (try dsimp only at ha0); (try dsimp only at hc0); (try dsimp only at hd0); (try simp (disch := omega) only [go_sem, natLe_ok]); done)); (focus (rintro r0 ⟨ha0, hc0, hd0⟩; (try dsimp only at ha0); (try dsimp only at hc0); (try dsimp only at hd0); (try simp (disch := omega) only [go_sem, natLe_ok]); done)); rintro r0 ⟨ha0, hc0, hd0⟩; (try dsimp only at ha0); (try dsimp only at hc0); (try dsimp only at hd0); simp only [go_sem]; refine aL_run ?_) | ((with_reducible refine hcall_of_callE 40 true (szIntS_ok x.starts r0 (by omega) hb1) ?_ ?_ ?_ ?_ ?_); (focus (simp (disch := omega) only [go_sem, natLe_ok]; done)); (focus (simp (disch := omega) only [go_sem, natLe_ok]; done)); (focus (rintro r1 ⟨ha1, hc1, hd1⟩; (try dsimp only at ha1); (try dsimp only at hc1); (try dsimp only at hd1); (try simp (disch := omega) only [go_sem, natLe_ok]); done)); (focus (rintro r1 ⟨ha1, hc1, hd1⟩; (try dsimp only at ha1); (try dsimp only at hc1); (try dsimp only at hd1); (try simp (disch := omega) only [go_sem, natLe_ok]); done)); rintro r1 ⟨ha1, hc1, hd1⟩; (try dsimp only at ha1); (try dsimp only at hc1); (try dsimp only at hd1); simp only [go_sem]; refine aL_run ?_)) <;> (try simp (disch := omega) only [go_sem, *])))
  all_goals (try simp (disch := omega) only [EndK, go_sem, natLe_ok, *])
  all_goals first
    | exact ⟨-1, ⟨by omega, by omega, fun h => by first | trivial | (exfalso; omega)⟩, rfl⟩
    | exact ⟨r1, ⟨by omega, by omega, fun h => by first | trivial | exact ⟨hd0 (by omega), hd1 (by omega)⟩⟩, rfl⟩
theorem toImage_ok (x : Image) (hs : smImage x) : CallOk Tryz.prog 59 [.agg (imageR x)] (.s (.agg (imageT x))) [none] := by
  obtain ⟨hs0, hs1⟩ := hs
  refine callOk_of_hcall 40 (hcall_of_body Tryz.func59 rfl (by kernel_rfl) ?_)
  simp (disch := omega) only [go_sem, Tryz.ntmps59, Tryz.results59]
  have x1 := toIntS_ok x.text hs0
  have x2 : HC 1 _ := ⟨toIntS_ok x.starts hs1⟩
  exact wk
theorem eqImage_ok (x : Image) (hs : mdImage x) : CallOk Tryz.prog 67 [.agg (imageR x), .agg (imageR x)] (.s (.one (bV true))) [none, none] := by
  obtain ⟨hs0, hs1⟩ := hs
  refine callOk_of_hcall 40 (hcall_of_body Tryz.func67 rfl (by kernel_rfl) ?_)
  simp (disch := omega) only [go_sem, Tryz.ntmps67, Tryz.results67]
  have x1 := eqIntS_ok x.text hs0
  have x2 : HC 1 _ := ⟨eqIntS_ok x.starts hs1⟩
  exact wk
end Go.Proofs.YtejnpiielcbkkaaGreat.E
end
section
set_option maxRecDepth 100000
set_option maxHeartbeats 4000000
namespace Go.Proofs.YtejnpiielcbkkaaGreat.E
theorem ti44 : ti Tryz.prog 44 = some ⟨.st [(0, 1, false), (1, 1, false), (2, 1, false), (3, 1, false)], 4, 96, true, [.slice none 0 0, .slice none 0 0, .slice none 0 0, .slice none 0 0]⟩ := by kernel_rfl
theorem ni44 : notInt Tryz.prog 44 = true := by kernel_rfl
theorem ti54 : ti Tryz.prog 54 = some ⟨.st [(0, 1, false), (1, 1, false), (2, 1, false), (3, 1, false)], 4, 96, true, [.slice none 0 0, .slice none 0 0, .slice none 0 0, .slice none 0 0]⟩ := by kernel_rfl
theorem ni54 : notInt Tryz.prog 54 = true := by kernel_rfl
attribute [go_sem] ti44 ni44 ti54 ni54
structure Kernel where
  gates : List Gate
  ready : List Int
  saved : List Core
  over : List Bool
def kernelT (x : Kernel) : List T := [.own 3 (gatesT x.gates), .own 1 (intsT x.ready), .own 3 (coresT x.saved), .own 1 (boolsT x.over)]
def kernelR (x : Kernel) : List T := [.ro 3 (gatesD x.gates), .ro 1 (intsD x.ready), .ro 3 (coresD x.saved), .ro 1 (boolsD x.over)]
attribute [go_sem] kernelT kernelR
def kernelD (x : Kernel) : List D := [.l 3 (gatesD x.gates), .l 1 (intsD x.ready), .l 3 (coresD x.saved), .l 1 (boolsD x.over)]
attribute [go_sem] kernelD
def kernelZ : Kernel := ⟨[], [], [], []⟩
def smKernel (x : Kernel) : Prop := (x.gates.length ≤ 1048576 ∧ ∀ y ∈ x.gates, smGate y) ∧ x.ready.length ≤ 1048576 ∧ (x.saved.length ≤ 1048576 ∧ ∀ y ∈ x.saved, smCore y) ∧ x.over.length ≤ 1048576
def bgKernel (x : Kernel) : Prop := (x.gates.length ≤ 9223372036854775807 ∧ ∀ y ∈ x.gates, bgGate y) ∧ x.ready.length ≤ 9223372036854775807 ∧ (x.saved.length ≤ 9223372036854775807 ∧ ∀ y ∈ x.saved, bgCore y) ∧ x.over.length ≤ 9223372036854775807
def mdKernel (x : Kernel) : Prop := (x.gates.length ≤ 68719476736 ∧ ∀ y ∈ x.gates, mdGate y) ∧ x.ready.length ≤ 1099511627776 ∧ (x.saved.length ≤ 68719476736 ∧ ∀ y ∈ x.saved, mdCore y) ∧ x.over.length ≤ 1099511627776
theorem sm_mdKernel {x : Kernel} (h : smKernel x) : mdKernel x := ⟨⟨Nat.le_trans h.1.1 (by omega), fun y hy => sm_mdGate (h.1.2 y hy)⟩, Nat.le_trans h.2.1 (by omega), ⟨Nat.le_trans h.2.2.1.1 (by omega), fun y hy => sm_mdCore (h.2.2.1.2 y hy)⟩, Nat.le_trans h.2.2.2 (by omega)⟩
theorem szKernel_ok (x : Kernel) (left : Int) (h : 0 ≤ left ∧ left ≤ 1048576) (hb : bgKernel x) : CallE Tryz.prog 50 [.agg (kernelR x), .one (iV left)] (fun r : Int => .s (.one (iV r))) (fun _ => [none, none]) (fun r => -1 ≤ r ∧ r ≤ left ∧ (0 ≤ r → smKernel x)) := by
  obtain ⟨hb0, hb1, hb2, hb3⟩ := hb
  refine callE_of_hcall 40 (hcall_of_body Tryz.func50 rfl (by kernel_rfl) ?_)
  simp (disch := omega) only [go_sem, Tryz.ntmps50, Tryz.results50]
  repeat' (first | (with_reducible first | refine i_seq ?_) | ((first | (with_reducible first | refine i_block ?_ | refine i_regionQ (fun Q' hQ => ?_) | (refine Imp.go hQ ?_; clear hQ)) | ((with_reducible refine i_condT ?_ ?_); (focus (simp only [go_sem, *]; done))) | ((with_reducible refine i_condF ?_ ?_); (focus (simp only [go_sem, *]; done))) | ((with_reducible first | refine resOk_g (fun h => ?_) (fun h => ?_) | refine i_cond (by simp only [go_sem, *] <;> rfl) (fun h => ?_) (fun h => ?_)) <;> (try simp only [Bool.not_eq_eq_eq_not, Bool.not_true, Bool.not_false, reduceCtorEq] at h) <;> (try have h' := of_decide_eq_true h) <;> (try (have hz : (_ : Int) = (_ : Int) := h'; clear hz h')) <;> (try have h' := of_decide_eq_false h) <;> (try have h' := inB_t h) <;> (try (exfalso; omega))) | ((with_reducible refine hcall_of_callE 40 true (szGateS_ok x.gates left (by omega) hb0) ?_ ?_ ?_ ?_ ?_); (focus (simp (disch := omega) only [go_sem, natLe_ok]; done)); (focus (simp (disch := omega) only [go_sem, natLe_ok]; done)); (focus (rintro r0 ⟨ha0, hc0, hd0⟩; (try dsimp only at ha0); (try dsimp only at hc0); (try dsimp only at hd0); (try simp (disch := omega) only [go_sem, natLe_ok]); done)); (focus (rintro r0 ⟨ha0, hc0, hd0⟩; (try dsimp only at ha0); (try dsimp only at hc0); (try dsimp only at hd0); (try simp (disch := omega) only [go_sem, natLe_ok]); done)); rintro r0 ⟨ha0, hc0, hd0⟩; (try dsimp only at ha0); (try dsimp only at hc0); (try dsimp only at hd0); simp only [go_sem]; refine aL_run ?_) | ((with_reducible refine hcall_of_callE 40 true (szIntS_ok x.ready r0 (by omega) hb1) ?_ ?_ ?_ ?_ ?_); (focus (simp (disch := omega) only [go_sem, natLe_ok]; done)); (focus (simp (disch := omega) only [go_sem, natLe_ok]; done)); (focus (rintro r1 ⟨ha1, hc1, hd1⟩; (try dsimp only at ha1); (try dsimp only at hc1); (try dsimp only at hd1); (try simp (disch := omega) only [go_sem, natLe_ok]); done)); (focus (rintro r1 ⟨ha1, hc1, hd1⟩; (try dsimp only at ha1); (try dsimp only at hc1); (try dsimp only at hd1); (try simp (disch := omega) only [go_sem, natLe_ok]); done)); rintro r1 ⟨ha1, hc1, hd1⟩; (try dsimp only at ha1); (try dsimp only at hc1); (try dsimp only at hd1); simp only [go_sem]; refine aL_run ?_) | ((with_reducible refine hcall_of_callE 40 true (szCoreS_ok x.saved r1 (by omega) hb2) ?_ ?_ ?_ ?_ ?_); (focus (simp (disch := omega) only [go_sem, natLe_ok]; done)); (focus (simp (disch := omega) only [go_sem, natLe_ok]; done)); (focus (rintro r2 ⟨ha2, hc2, hd2⟩; (try dsimp only at ha2); (try dsimp only at hc2); (try dsimp only at hd2); (try simp (disch := omega) only [go_sem, natLe_ok]); done)); (focus (rintro r2 ⟨ha2, hc2, hd2⟩; (try dsimp only at ha2); (try dsimp only at hc2); (try dsimp only at hd2); (try simp (disch := omega) only [go_sem, natLe_ok]); done)); rintro r2 ⟨ha2, hc2, hd2⟩; (try dsimp only at ha2); (try dsimp only at hc2); (try dsimp only at hd2); simp only [go_sem]; refine aL_run ?_) | ((with_reducible refine hcall_of_callE 40 true (szBoolS_ok x.over r2 (by omega) hb3) ?_ ?_ ?_ ?_ ?_); (focus (simp (disch := omega) only [go_sem, natLe_ok]; done)); (focus (simp (disch := omega) only [go_sem, natLe_ok]; done)); (focus (rintro r3 ⟨ha3, hc3, hd3⟩; (try dsimp only at ha3); (try dsimp only at hc3); (try dsimp only at hd3); (try simp (disch := omega) only [go_sem, natLe_ok]); done)); (focus (rintro r3 ⟨ha3, hc3, hd3⟩; (try dsimp only at ha3); (try dsimp only at hc3); (try dsimp only at hd3); (try simp (disch := omega) only [go_sem, natLe_ok]); done)); rintro r3 ⟨ha3, hc3, hd3⟩; (try dsimp only at ha3); (try dsimp only at hc3); (try dsimp only at hd3); simp only [go_sem]; refine aL_run ?_)) <;> (try simp (disch := omega) only [go_sem, *])))
  all_goals (try simp (disch := omega) only [EndK, go_sem, natLe_ok, *])
  all_goals first
    | exact ⟨-1, ⟨by omega, by omega, fun h => by first | trivial | (exfalso; omega)⟩, rfl⟩
    | exact ⟨r3, ⟨by omega, by omega, fun h => by first | trivial | exact ⟨hd0 (by omega), hd1 (by omega), hd2 (by omega), hd3 (by omega)⟩⟩, rfl⟩
theorem toKernel_ok (x : Kernel) (hs : smKernel x) : CallOk Tryz.prog 61 [.agg (kernelR x)] (.s (.agg (kernelT x))) [none] := by
  obtain ⟨hs0, hs1, hs2, hs3⟩ := hs
  refine callOk_of_hcall 40 (hcall_of_body Tryz.func61 rfl (by kernel_rfl) ?_)
  simp (disch := omega) only [go_sem, Tryz.ntmps61, Tryz.results61]
  have x1 := toGateS_ok x.gates hs0
  have x2 := toIntS_ok x.ready hs1
  have x3 := toCoreS_ok x.saved hs2
  have x4 := toBoolS_ok x.over hs3
  exact wk
theorem eqKernel_ok (x : Kernel) (hs : mdKernel x) : CallOk Tryz.prog 69 [.agg (kernelR x), .agg (kernelR x)] (.s (.one (bV true))) [none, none] := by
  obtain ⟨hs0, hs1, hs2, hs3⟩ := hs
  refine callOk_of_hcall 40 (hcall_of_body Tryz.func69 rfl (by kernel_rfl) ?_)
  simp (disch := omega) only [go_sem, Tryz.ntmps69, Tryz.results69]
  have x1 := eqGateS_ok x.gates hs0
  have x2 := eqIntS_ok x.ready hs1
  have x3 := eqCoreS_ok x.saved hs2
  have x4 := eqBoolS_ok x.over hs3
  exact wk
end Go.Proofs.YtejnpiielcbkkaaGreat.E
end
section
set_option maxRecDepth 100000
set_option maxHeartbeats 4000000
namespace Go.Proofs.YtejnpiielcbkkaaGreat.E
theorem ti47 : ti Tryz.prog 47 = some ⟨.st [(0, 3, true), (3, 1, false), (4, 1, false), (5, 4, true), (9, 1, false), (10, 1, false), (11, 1, false)], 12, 256, true, [.slice none 0 0, .slice none 0 0, .int .i64 0, .slice none 0 0, .slice none 0 0, .slice none 0 0, .slice none 0 0, .slice none 0 0, .slice none 0 0, .slice none 0 0, .slice none 0 0, .bool false]⟩ := by kernel_rfl
theorem ni47 : notInt Tryz.prog 47 = true := by kernel_rfl
theorem ti57 : ti Tryz.prog 57 = some ⟨.st [(0, 3, true), (3, 1, false), (4, 1, false), (5, 4, true), (9, 1, false), (10, 1, false), (11, 1, false)], 12, 256, true, [.slice none 0 0, .slice none 0 0, .int .i64 0, .slice none 0 0, .slice none 0 0, .slice none 0 0, .slice none 0 0, .slice none 0 0, .slice none 0 0, .slice none 0 0, .slice none 0 0, .bool false]⟩ := by kernel_rfl
theorem ni57 : notInt Tryz.prog 57 = true := by kernel_rfl
attribute [go_sem] ti47 ni47 ti57 ni57
structure Machine where
  image : Image
  mem : List Int
  cores : List Core
  kernel : Kernel
  input : List Int
  events : List Event
  stopped : Bool
def machineT (x : Machine) : List T := [.own 1 (intsT x.image.text), .own 1 (intsT x.image.starts), iV x.image.size, .own 1 (intsT x.mem), .own 3 (coresT x.cores), .own 3 (gatesT x.kernel.gates), .own 1 (intsT x.kernel.ready), .own 3 (coresT x.kernel.saved), .own 1 (boolsT x.kernel.over), .own 1 (intsT x.input), .own 3 (eventsT x.events), bV x.stopped]
def machineR (x : Machine) : List T := [.ro 1 (intsD x.image.text), .ro 1 (intsD x.image.starts), iV x.image.size, .ro 1 (intsD x.mem), .ro 3 (coresD x.cores), .ro 3 (gatesD x.kernel.gates), .ro 1 (intsD x.kernel.ready), .ro 3 (coresD x.kernel.saved), .ro 1 (boolsD x.kernel.over), .ro 1 (intsD x.input), .ro 3 (eventsD x.events), bV x.stopped]
attribute [go_sem] machineT machineR
def machineD (x : Machine) : List D := [.l 1 (intsD x.image.text), .l 1 (intsD x.image.starts), D.v (.int .i64 x.image.size), .l 1 (intsD x.mem), .l 3 (coresD x.cores), .l 3 (gatesD x.kernel.gates), .l 1 (intsD x.kernel.ready), .l 3 (coresD x.kernel.saved), .l 1 (boolsD x.kernel.over), .l 1 (intsD x.input), .l 3 (eventsD x.events), D.v (.bool x.stopped)]
attribute [go_sem] machineD
def machineZ : Machine := ⟨⟨[], [], 0⟩, [], [], ⟨[], [], [], []⟩, [], [], false⟩
def smMachine (x : Machine) : Prop := smImage x.image ∧ x.mem.length ≤ 1048576 ∧ (x.cores.length ≤ 1048576 ∧ ∀ y ∈ x.cores, smCore y) ∧ smKernel x.kernel ∧ x.input.length ≤ 1048576 ∧ (x.events.length ≤ 1048576 ∧ ∀ y ∈ x.events, smEvent y)
def bgMachine (x : Machine) : Prop := bgImage x.image ∧ x.mem.length ≤ 9223372036854775807 ∧ (x.cores.length ≤ 9223372036854775807 ∧ ∀ y ∈ x.cores, bgCore y) ∧ bgKernel x.kernel ∧ x.input.length ≤ 9223372036854775807 ∧ (x.events.length ≤ 9223372036854775807 ∧ ∀ y ∈ x.events, bgEvent y)
def mdMachine (x : Machine) : Prop := mdImage x.image ∧ x.mem.length ≤ 1099511627776 ∧ (x.cores.length ≤ 68719476736 ∧ ∀ y ∈ x.cores, mdCore y) ∧ mdKernel x.kernel ∧ x.input.length ≤ 1099511627776 ∧ (x.events.length ≤ 68719476736 ∧ ∀ y ∈ x.events, mdEvent y)
theorem sm_mdMachine {x : Machine} (h : smMachine x) : mdMachine x := ⟨sm_mdImage h.1, Nat.le_trans h.2.1 (by omega), ⟨Nat.le_trans h.2.2.1.1 (by omega), fun y hy => sm_mdCore (h.2.2.1.2 y hy)⟩, sm_mdKernel h.2.2.2.1, Nat.le_trans h.2.2.2.2.1 (by omega), ⟨Nat.le_trans h.2.2.2.2.2.1 (by omega), fun y hy => sm_mdEvent (h.2.2.2.2.2.2 y hy)⟩⟩
theorem szMachine_ok (x : Machine) (left : Int) (h : 0 ≤ left ∧ left ≤ 1048576) (hb : bgMachine x) : CallE Tryz.prog 11 [.agg (machineR x), .one (iV left)] (fun r : Int => .s (.one (iV r))) (fun _ => [none, none]) (fun r => -1 ≤ r ∧ r ≤ left ∧ (0 ≤ r → smMachine x)) := by
  obtain ⟨hb0, hb1, hb2, hb3, hb4, hb5⟩ := hb
  refine callE_of_hcall 40 (hcall_of_body Tryz.func11 rfl (by kernel_rfl) ?_)
  simp (disch := omega) only [go_sem, Tryz.ntmps11, Tryz.results11]
  repeat' (first | (with_reducible first | refine i_seq ?_) | ((first | (with_reducible first | refine i_block ?_ | refine i_regionQ (fun Q' hQ => ?_) | (refine Imp.go hQ ?_; clear hQ)) | ((with_reducible refine i_condT ?_ ?_); (focus (simp only [go_sem, *]; done))) | ((with_reducible refine i_condF ?_ ?_); (focus (simp only [go_sem, *]; done))) | ((with_reducible first | refine resOk_g (fun h => ?_) (fun h => ?_) | refine i_cond (by simp only [go_sem, *] <;> rfl) (fun h => ?_) (fun h => ?_)) <;> (try simp only [Bool.not_eq_eq_eq_not, Bool.not_true, Bool.not_false, reduceCtorEq] at h) <;> (try have h' := of_decide_eq_true h) <;> (try (have hz : (_ : Int) = (_ : Int) := h'; clear hz h')) <;> (try have h' := of_decide_eq_false h) <;> (try have h' := inB_t h) <;> (try (exfalso; omega))) | ((with_reducible refine hcall_of_callE 40 true (szImage_ok x.image left (by omega) hb0) ?_ ?_ ?_ ?_ ?_); (focus (simp (disch := omega) only [go_sem, natLe_ok]; done)); (focus (simp (disch := omega) only [go_sem, natLe_ok]; done)); (focus (rintro r0 ⟨ha0, hc0, hd0⟩; (try dsimp only at ha0); (try dsimp only at hc0); (try dsimp only at hd0); (try simp (disch := omega) only [go_sem, natLe_ok]); done)); (focus (rintro r0 ⟨ha0, hc0, hd0⟩; (try dsimp only at ha0); (try dsimp only at hc0); (try dsimp only at hd0); (try simp (disch := omega) only [go_sem, natLe_ok]); done)); rintro r0 ⟨ha0, hc0, hd0⟩; (try dsimp only at ha0); (try dsimp only at hc0); (try dsimp only at hd0); simp only [go_sem]; refine aL_run ?_) | ((with_reducible refine hcall_of_callE 40 true (szIntS_ok x.mem r0 (by omega) hb1) ?_ ?_ ?_ ?_ ?_); (focus (simp (disch := omega) only [go_sem, natLe_ok]; done)); (focus (simp (disch := omega) only [go_sem, natLe_ok]; done)); (focus (rintro r1 ⟨ha1, hc1, hd1⟩; (try dsimp only at ha1); (try dsimp only at hc1); (try dsimp only at hd1); (try simp (disch := omega) only [go_sem, natLe_ok]); done)); (focus (rintro r1 ⟨ha1, hc1, hd1⟩; (try dsimp only at ha1); (try dsimp only at hc1); (try dsimp only at hd1); (try simp (disch := omega) only [go_sem, natLe_ok]); done)); rintro r1 ⟨ha1, hc1, hd1⟩; (try dsimp only at ha1); (try dsimp only at hc1); (try dsimp only at hd1); simp only [go_sem]; refine aL_run ?_) | ((with_reducible refine hcall_of_callE 40 true (szCoreS_ok x.cores r1 (by omega) hb2) ?_ ?_ ?_ ?_ ?_); (focus (simp (disch := omega) only [go_sem, natLe_ok]; done)); (focus (simp (disch := omega) only [go_sem, natLe_ok]; done)); (focus (rintro r2 ⟨ha2, hc2, hd2⟩; (try dsimp only at ha2); (try dsimp only at hc2); (try dsimp only at hd2); (try simp (disch := omega) only [go_sem, natLe_ok]); done)); (focus (rintro r2 ⟨ha2, hc2, hd2⟩; (try dsimp only at ha2); (try dsimp only at hc2); (try dsimp only at hd2); (try simp (disch := omega) only [go_sem, natLe_ok]); done)); rintro r2 ⟨ha2, hc2, hd2⟩; (try dsimp only at ha2); (try dsimp only at hc2); (try dsimp only at hd2); simp only [go_sem]; refine aL_run ?_) | ((with_reducible refine hcall_of_callE 40 true (szKernel_ok x.kernel r2 (by omega) hb3) ?_ ?_ ?_ ?_ ?_); (focus (simp (disch := omega) only [go_sem, natLe_ok]; done)); (focus (simp (disch := omega) only [go_sem, natLe_ok]; done)); (focus (rintro r3 ⟨ha3, hc3, hd3⟩; (try dsimp only at ha3); (try dsimp only at hc3); (try dsimp only at hd3); (try simp (disch := omega) only [go_sem, natLe_ok]); done)); (focus (rintro r3 ⟨ha3, hc3, hd3⟩; (try dsimp only at ha3); (try dsimp only at hc3); (try dsimp only at hd3); (try simp (disch := omega) only [go_sem, natLe_ok]); done)); rintro r3 ⟨ha3, hc3, hd3⟩; (try dsimp only at ha3); (try dsimp only at hc3); (try dsimp only at hd3); simp only [go_sem]; refine aL_run ?_) | ((with_reducible refine hcall_of_callE 40 true (szIntS_ok x.input r3 (by omega) hb4) ?_ ?_ ?_ ?_ ?_); (focus (simp (disch := omega) only [go_sem, natLe_ok]; done)); (focus (simp (disch := omega) only [go_sem, natLe_ok]; done)); (focus (rintro r4 ⟨ha4, hc4, hd4⟩; (try dsimp only at ha4); (try dsimp only at hc4); (try dsimp only at hd4); (try simp (disch := omega) only [go_sem, natLe_ok]); done)); (focus (rintro r4 ⟨ha4, hc4, hd4⟩; (try dsimp only at ha4); (try dsimp only at hc4); (try dsimp only at hd4); (try simp (disch := omega) only [go_sem, natLe_ok]); done)); rintro r4 ⟨ha4, hc4, hd4⟩; (try dsimp only at ha4); (try dsimp only at hc4); (try dsimp only at hd4); simp only [go_sem]; refine aL_run ?_) | ((with_reducible refine hcall_of_callE 40 true (szEventS_ok x.events r4 (by omega) hb5) ?_ ?_ ?_ ?_ ?_); (focus (simp (disch := omega) only [go_sem, natLe_ok]; done)); (focus (simp (disch := omega) only [go_sem, natLe_ok]; done)); (focus (rintro r5 ⟨ha5, hc5, hd5⟩; (try dsimp only at ha5); (try dsimp only at hc5); (try dsimp only at hd5); (try simp (disch := omega) only [go_sem, natLe_ok]); done)); (focus (rintro r5 ⟨ha5, hc5, hd5⟩; (try dsimp only at ha5); (try dsimp only at hc5); (try dsimp only at hd5); (try simp (disch := omega) only [go_sem, natLe_ok]); done)); rintro r5 ⟨ha5, hc5, hd5⟩; (try dsimp only at ha5); (try dsimp only at hc5); (try dsimp only at hd5); simp only [go_sem]; refine aL_run ?_)) <;> (try simp (disch := omega) only [go_sem, *])))
  all_goals (try simp (disch := omega) only [EndK, go_sem, natLe_ok, *])
  all_goals first
    | exact ⟨-1, ⟨by omega, by omega, fun h => by first | trivial | (exfalso; omega)⟩, rfl⟩
    | exact ⟨r5, ⟨by omega, by omega, fun h => by first | trivial | exact ⟨hd0 (by omega), hd1 (by omega), hd2 (by omega), hd3 (by omega), hd4 (by omega), hd5 (by omega)⟩⟩, rfl⟩
theorem toMachine_ok (x : Machine) (hs : smMachine x) : CallOk Tryz.prog 14 [.agg (machineR x)] (.s (.agg (machineT x))) [none] := by
  obtain ⟨hs0, hs1, hs2, hs3, hs4, hs5⟩ := hs
  refine callOk_of_hcall 40 (hcall_of_body Tryz.func14 rfl (by kernel_rfl) ?_)
  simp (disch := omega) only [go_sem, Tryz.ntmps14, Tryz.results14]
  have x1 := toImage_ok x.image hs0
  have x2 := toIntS_ok x.mem hs1
  have x3 := toCoreS_ok x.cores hs2
  have x4 := toKernel_ok x.kernel hs3
  have x5 : HC 1 _ := ⟨toIntS_ok x.input hs4⟩
  have x6 := toEventS_ok x.events hs5
  exact wk
theorem eqMachine_ok (x : Machine) (hs : mdMachine x) : CallOk Tryz.prog 17 [.agg (machineR x), .agg (machineR x)] (.s (.one (bV true))) [none, none] := by
  obtain ⟨hs0, hs1, hs2, hs3, hs4, hs5⟩ := hs
  refine callOk_of_hcall 40 (hcall_of_body Tryz.func17 rfl (by kernel_rfl) ?_)
  simp (disch := omega) only [go_sem, Tryz.ntmps17, Tryz.results17]
  have x1 := eqImage_ok x.image hs0
  have x2 := eqIntS_ok x.mem hs1
  have x3 := eqCoreS_ok x.cores hs2
  have x4 := eqKernel_ok x.kernel hs3
  have x5 : HC 1 _ := ⟨eqIntS_ok x.input hs4⟩
  have x6 := eqEventS_ok x.events hs5
  exact wk
end Go.Proofs.YtejnpiielcbkkaaGreat.E
end
section
set_option maxRecDepth 100000
set_option maxHeartbeats 4000000
namespace Go.Proofs.YtejnpiielcbkkaaGreat.E
theorem oInts : OpD Tryz.prog 37 (fun xs : List Int => [D.l 1 (intsD xs)]) (fun xs => xs.length ≤ maxLen ∧ ∀ x ∈ xs, (Lit.int .i64 x).wf = true) :=
  OpD.slice 1 Tryz.underlying37 (by kernel_rfl) (Nat.le_refl _) (OpD.int Tryz.underlying3) (fun _ => rfl)
def evOk (x : Event) : Prop := (Lit.int .i64 x.process).wf = true ∧ (Lit.int .i64 x.kind).wf = true ∧ (Lit.int .i64 x.num).wf = true
theorem oEvent : OpD Tryz.prog 193 eventD evOk := by
  refine OpD.struct (fun y : Int × Int × Int => ⟨y.1, y.2.1, y.2.2⟩) Tryz.underlying193 (f2 := fun y => [.v (.int .i64 y.1)] ++ ([.v (.int .i64 y.2.1)] ++ ([.v (.int .i64 y.2.2)]))) (Q2 := fun y => (Lit.int .i64 y.1).wf = true ∧ (Lit.int .i64 y.2.1).wf = true ∧ (Lit.int .i64 y.2.2).wf = true) (fun y => rfl) (fun y => by kernel_rfl) ?_ ?_
  · exact OpDs.consT 1 (OpD.int Tryz.underlying3) (fun y => rfl) (by decide) (OpDs.consT 1 (OpD.int Tryz.underlying3) (fun y => rfl) (by decide) (OpDs.oneT (OpD.int Tryz.underlying3) (fun y => by first | exact Nat.le_refl _ | decide) rfl rfl) rfl rfl) rfl rfl
  · intro y h; exact h
theorem oBools : OpD Tryz.prog 42 (fun xs : List Bool => [D.l 1 (boolsD xs)]) (fun xs => xs.length ≤ maxLen ∧ ∀ x ∈ xs, True) :=
  OpD.slice 1 Tryz.underlying42 (by kernel_rfl) (Nat.le_refl _) (OpD.bool Tryz.underlying4) (fun _ => rfl)
theorem oEvents : OpD Tryz.prog 45 (fun xs : List Event => [D.l 3 (eventsD xs)]) (fun xs => xs.length ≤ maxLen ∧ ∀ x ∈ xs, evOk x) :=
  OpD.slice 3 Tryz.underlying45 (by kernel_rfl) (by decide) oEvent (fun _ => rfl)
def wfCore (x : Core) : Prop := (x.regs.length ≤ maxLen ∧ ∀ z ∈ x.regs, (Lit.int .i64 z).wf = true) ∧ (Lit.int .i64 x.pc).wf = true ∧ (Lit.int .i64 x.process).wf = true
theorem oCore : OpD Tryz.prog 166 coreD wfCore := by
  refine OpD.struct (fun y : (List Int) × Int × Int => ⟨y.1, y.2.1, y.2.2⟩) Tryz.underlying166 (f2 := fun y => [D.l 1 (intsD y.1)] ++ ([.v (.int .i64 y.2.1)] ++ ([.v (.int .i64 y.2.2)]))) (Q2 := fun y => (y.1.length ≤ maxLen ∧ ∀ z ∈ y.1, (Lit.int .i64 z).wf = true) ∧ (Lit.int .i64 y.2.1).wf = true ∧ (Lit.int .i64 y.2.2).wf = true) (fun y => rfl) (fun y => by kernel_rfl) ?_ ?_
  · exact OpDs.consT 1 oInts (fun y => rfl) (by decide) (OpDs.consT 1 (OpD.int Tryz.underlying3) (fun y => rfl) (by decide) (OpDs.oneT (OpD.int Tryz.underlying3) (fun y => by first | exact Nat.le_refl _ | decide) rfl rfl) rfl rfl) rfl rfl
  · intro y h; exact h
theorem oCores : OpD Tryz.prog 40 (fun xs : List Core => [D.l 3 (coresD xs)]) (fun xs => xs.length ≤ maxLen ∧ ∀ x ∈ xs, wfCore x) :=
  OpD.slice 3 Tryz.underlying40 (by kernel_rfl) (by decide) oCore (fun _ => rfl)
def wfGate (x : Gate) : Prop := (Lit.int .i64 x.owner).wf = true ∧ (x.waits.length ≤ maxLen ∧ ∀ z ∈ x.waits, (Lit.int .i64 z).wf = true) ∧ (x.queues.length ≤ maxLen ∧ ∀ z ∈ x.queues, (Lit.int .i64 z).wf = true)
theorem oGate : OpD Tryz.prog 222 gateD wfGate := by
  refine OpD.struct (fun y : Int × (List Int) × (List Int) => ⟨y.1, y.2.1, y.2.2⟩) Tryz.underlying222 (f2 := fun y => [.v (.int .i64 y.1)] ++ ([D.l 1 (intsD y.2.1)] ++ ([D.l 1 (intsD y.2.2)]))) (Q2 := fun y => (Lit.int .i64 y.1).wf = true ∧ (y.2.1.length ≤ maxLen ∧ ∀ z ∈ y.2.1, (Lit.int .i64 z).wf = true) ∧ (y.2.2.length ≤ maxLen ∧ ∀ z ∈ y.2.2, (Lit.int .i64 z).wf = true)) (fun y => rfl) (fun y => by kernel_rfl) ?_ ?_
  · exact OpDs.consT 1 (OpD.int Tryz.underlying3) (fun y => rfl) (by decide) (OpDs.consT 1 oInts (fun y => rfl) (by decide) (OpDs.oneT oInts (fun y => by first | exact Nat.le_refl _ | decide) rfl rfl) rfl rfl) rfl rfl
  · intro y h; exact h
theorem oGates : OpD Tryz.prog 41 (fun xs : List Gate => [D.l 3 (gatesD xs)]) (fun xs => xs.length ≤ maxLen ∧ ∀ x ∈ xs, wfGate x) :=
  OpD.slice 3 Tryz.underlying41 (by kernel_rfl) (by decide) oGate (fun _ => rfl)
def wfImage (x : Image) : Prop := (x.text.length ≤ maxLen ∧ ∀ z ∈ x.text, (Lit.int .i64 z).wf = true) ∧ (x.starts.length ≤ maxLen ∧ ∀ z ∈ x.starts, (Lit.int .i64 z).wf = true) ∧ (Lit.int .i64 x.size).wf = true
theorem oImage : OpD Tryz.prog 39 imageD wfImage := by
  refine OpD.struct (fun y : (List Int) × (List Int) × Int => ⟨y.1, y.2.1, y.2.2⟩) Tryz.underlying39 (f2 := fun y => [D.l 1 (intsD y.1)] ++ ([D.l 1 (intsD y.2.1)] ++ ([.v (.int .i64 y.2.2)]))) (Q2 := fun y => (y.1.length ≤ maxLen ∧ ∀ z ∈ y.1, (Lit.int .i64 z).wf = true) ∧ (y.2.1.length ≤ maxLen ∧ ∀ z ∈ y.2.1, (Lit.int .i64 z).wf = true) ∧ (Lit.int .i64 y.2.2).wf = true) (fun y => rfl) (fun y => by kernel_rfl) ?_ ?_
  · exact OpDs.consT 1 oInts (fun y => rfl) (by decide) (OpDs.consT 1 oInts (fun y => rfl) (by decide) (OpDs.oneT (OpD.int Tryz.underlying3) (fun y => by first | exact Nat.le_refl _ | decide) rfl rfl) rfl rfl) rfl rfl
  · intro y h; exact h
def wfKernel (x : Kernel) : Prop := (x.gates.length ≤ maxLen ∧ ∀ z ∈ x.gates, wfGate z) ∧ (x.ready.length ≤ maxLen ∧ ∀ z ∈ x.ready, (Lit.int .i64 z).wf = true) ∧ (x.saved.length ≤ maxLen ∧ ∀ z ∈ x.saved, wfCore z) ∧ (x.over.length ≤ maxLen ∧ ∀ z ∈ x.over, True)
theorem oKernel : OpD Tryz.prog 44 kernelD wfKernel := by
  refine OpD.struct (fun y : (List Gate) × (List Int) × (List Core) × (List Bool) => ⟨y.1, y.2.1, y.2.2.1, y.2.2.2⟩) Tryz.underlying44 (f2 := fun y => [D.l 3 (gatesD y.1)] ++ ([D.l 1 (intsD y.2.1)] ++ ([D.l 3 (coresD y.2.2.1)] ++ ([D.l 1 (boolsD y.2.2.2)])))) (Q2 := fun y => (y.1.length ≤ maxLen ∧ ∀ z ∈ y.1, wfGate z) ∧ (y.2.1.length ≤ maxLen ∧ ∀ z ∈ y.2.1, (Lit.int .i64 z).wf = true) ∧ (y.2.2.1.length ≤ maxLen ∧ ∀ z ∈ y.2.2.1, wfCore z) ∧ (y.2.2.2.length ≤ maxLen ∧ ∀ z ∈ y.2.2.2, True)) (fun y => rfl) (fun y => by kernel_rfl) ?_ ?_
  · exact OpDs.consT 1 oGates (fun y => rfl) (by decide) (OpDs.consT 1 oInts (fun y => rfl) (by decide) (OpDs.consT 1 oCores (fun y => rfl) (by decide) (OpDs.oneT oBools (fun y => by first | exact Nat.le_refl _ | decide) rfl rfl) rfl rfl) rfl rfl) rfl rfl
  · intro y h; exact h
def wfMachine (x : Machine) : Prop := wfImage x.image ∧ (x.mem.length ≤ maxLen ∧ ∀ z ∈ x.mem, (Lit.int .i64 z).wf = true) ∧ (x.cores.length ≤ maxLen ∧ ∀ z ∈ x.cores, wfCore z) ∧ wfKernel x.kernel ∧ (x.input.length ≤ maxLen ∧ ∀ z ∈ x.input, (Lit.int .i64 z).wf = true) ∧ (x.events.length ≤ maxLen ∧ ∀ z ∈ x.events, evOk z) ∧ True
theorem oMachine : OpD Tryz.prog 47 machineD wfMachine := by
  refine OpD.struct (fun y : Image × (List Int) × (List Core) × Kernel × (List Int) × (List Event) × Bool => ⟨y.1, y.2.1, y.2.2.1, y.2.2.2.1, y.2.2.2.2.1, y.2.2.2.2.2.1, y.2.2.2.2.2.2⟩) Tryz.underlying47 (f2 := fun y => imageD y.1 ++ ([D.l 1 (intsD y.2.1)] ++ ([D.l 3 (coresD y.2.2.1)] ++ (kernelD y.2.2.2.1 ++ ([D.l 1 (intsD y.2.2.2.2.1)] ++ ([D.l 3 (eventsD y.2.2.2.2.2.1)] ++ ([.v (.bool y.2.2.2.2.2.2)]))))))) (Q2 := fun y => wfImage y.1 ∧ (y.2.1.length ≤ maxLen ∧ ∀ z ∈ y.2.1, (Lit.int .i64 z).wf = true) ∧ (y.2.2.1.length ≤ maxLen ∧ ∀ z ∈ y.2.2.1, wfCore z) ∧ wfKernel y.2.2.2.1 ∧ (y.2.2.2.2.1.length ≤ maxLen ∧ ∀ z ∈ y.2.2.2.2.1, (Lit.int .i64 z).wf = true) ∧ (y.2.2.2.2.2.1.length ≤ maxLen ∧ ∀ z ∈ y.2.2.2.2.2.1, evOk z) ∧ True) (fun y => rfl) (fun y => by kernel_rfl) ?_ ?_
  · exact OpDs.consT 3 oImage (fun y => rfl) (by decide) (OpDs.consT 1 oInts (fun y => rfl) (by decide) (OpDs.consT 1 oCores (fun y => rfl) (by decide) (OpDs.consT 4 oKernel (fun y => rfl) (by decide) (OpDs.consT 1 oInts (fun y => rfl) (by decide) (OpDs.consT 1 oEvents (fun y => rfl) (by decide) (OpDs.oneT (OpD.bool Tryz.underlying4) (fun y => by first | exact Nat.le_refl _ | decide) rfl rfl) rfl rfl) rfl rfl) rfl rfl) rfl rfl) rfl rfl) rfl rfl
  · intro y h; exact h
theorem wfCore_bg {x : Core} (h : wfCore x) : bgCore x := h.1.1
theorem wfGate_bg {x : Gate} (h : wfGate x) : bgGate x := ⟨h.2.1.1, h.2.2.1⟩
theorem wfImage_bg {x : Image} (h : wfImage x) : bgImage x := ⟨h.1.1, h.2.1.1⟩
theorem wfKernel_bg {x : Kernel} (h : wfKernel x) : bgKernel x := ⟨⟨h.1.1, fun y hy => wfGate_bg (h.1.2 y hy)⟩, h.2.1.1, ⟨h.2.2.1.1, fun y hy => wfCore_bg (h.2.2.1.2 y hy)⟩, h.2.2.2.1⟩
theorem wfMachine_bg {x : Machine} (h : wfMachine x) : bgMachine x :=
  ⟨wfImage_bg h.1, h.2.1.1, ⟨h.2.2.1.1, fun y hy => wfCore_bg (h.2.2.1.2 y hy)⟩, wfKernel_bg h.2.2.2.1, h.2.2.2.2.1.1, h.2.2.2.2.2.1.1, fun _ _ => trivial⟩
end Go.Proofs.YtejnpiielcbkkaaGreat.E
end
section
namespace Go.Proofs.YtejnpiielcbkkaaGreat.E
open Go.RowKit
/-- What a contract of a law of two arguments promises, as_ the rows ask it. -/
theorem law_two {P : Program} {f : FuncId} {W : World} {u1 u2 : Value} {a1 a2 : A1} (hc : CallOk P f [a1, a2] (.s (.one (bV true))) [none, none]) (hv1 : relA1 (fun b => b < W.heap.size) W [] a1 u1 fz) (hv2 : relA1 (fun b => b < W.heap.size) W [] a2 u2 fz) :
    Calls P f #[u1, u2] W fun e W' => e = .returned (.bool true) ∧ Below W.heap.size W W' := by
  refine (hc.2 (fun b => b < W.heap.size) W [u1, u2] fz ⟨fz, fz, hv1, ⟨fz, fz, hv2, rfl, rfl⟩, rfl⟩ ⟨fun b => by simp [fz], fun b hb => by simp [fz] at hb, fun b hb => hb, inv_all _ _⟩).mono ?_
  rintro e W' ⟨u, R', F1, F2, rfl, g1, -, -, g4⟩
  obtain ⟨rfl, -⟩ : u = .bool true ∧ _ := g1
  exact ⟨rfl, g4.os, g4.tape, g4.output, g4.size, fun k hk => g4.same k hk rfl⟩
theorem OpD.list1 {P : Program} {t : TypeId} {α : Type} {g : α → List (List D)} {sz : Nat} {Q : α → Prop} (h : OpD P t (fun y => [D.l sz (g y)]) Q) {H : Type} {enc : TypeId × Value → H} {w : World} {base : Nat} {spare : Nat → Bool} {held : Bool} {fuel : Nat} {v : Value} {x : DataW H × List MemPlace}
    (hx : DataW.trod enc P w base spare held fuel t [v] = some x) : ∃ y, Q y ∧ relA1 (fun b => b < w.heap.size) w [] (.one (.ro sz (g y))) v fz := by
  obtain ⟨y, hq, hl, hr⟩ := h _ _ _ _ _ _ _ _ _ hx
  have := hr #[v] 0 (fun j hj => by
    have : j = 0 := by simpa using hj
    subst this; rfl)
  obtain ⟨⟨u, hu, h2⟩, -⟩ := this
  obtain rfl : v = u := by simpa using hu
  exact ⟨y, hq, relD_ofD (M := []) h2⟩
theorem int_rel1 {w : World} {n : Int} {R : Nat → Prop} (hn : (Lit.int .i64 n).wf = true) : relA1 R w [] (.one (iV n)) (.int .i64 n) fz := ⟨rfl, rfl, by trivial⟩
end Go.Proofs.YtejnpiielcbkkaaGreat.E
end
section
namespace Go.Proofs.YtejnpiielcbkkaaGreat.E
open Go.RowKit
/-- What a contract of a law of three arguments promises, as_ the rows ask it. -/
theorem law_three {P : Program} {f : FuncId} {W : World} {u1 u2 u3 : Value} {a1 a2 a3 : A1} (hc : CallOk P f [a1, a2, a3] (.s (.one (bV true))) [none, none, none]) (hv1 : relA1 (fun b => b < W.heap.size) W [] a1 u1 fz) (hv2 : relA1 (fun b => b < W.heap.size) W [] a2 u2 fz) (hv3 : relA1 (fun b => b < W.heap.size) W [] a3 u3 fz) :
    Calls P f #[u1, u2, u3] W fun e W' => e = .returned (.bool true) ∧ Below W.heap.size W W' := by
  refine (hc.2 (fun b => b < W.heap.size) W [u1, u2, u3] fz ⟨fz, fz, hv1, ⟨fz, fz, hv2, ⟨fz, fz, hv3, rfl, rfl⟩, rfl⟩, rfl⟩ ⟨fun b => by simp [fz], fun b hb => by simp [fz] at hb, fun b hb => hb, inv_all _ _⟩).mono ?_
  rintro e W' ⟨u, R', F1, F2, rfl, g1, -, -, g4⟩
  obtain ⟨rfl, -⟩ : u = .bool true ∧ _ := g1
  exact ⟨rfl, g4.os, g4.tape, g4.output, g4.size, fun k hk => g4.same k hk rfl⟩
end Go.Proofs.YtejnpiielcbkkaaGreat.E
end
