/- A part of what stands under the laws of this seat: an abstract evaluator that is proved sound, and contracts of functions by it. No condition beside those that stand in each statement. -/
import Derived.Test.YtejnpiielcbkkaaGreatZF1
import Derived.Test.YtejnpiielcbkkaaGreatZA2
set_option linter.unusedVariables false
set_option linter.unusedSimpArgs false
section
set_option maxRecDepth 100000
set_option maxHeartbeats 4000000
namespace Go.Proofs.YtejnpiielcbkkaaGreat.E
theorem ti161 : ti Tryz.prog 161 = some ⟨.st [(0, 1, false), (1, 1, false), (2, 1, false), (3, 1, false)], 4, 88, true, [.string { data := { toList := [] } }, .slice none 0 0, .slice none 0 0, .slice none 0 0]⟩ := by kernel_rfl
theorem ni161 : notInt Tryz.prog 161 = true := by kernel_rfl
theorem ti77 : ti Tryz.prog 77 = some ⟨.st [(0, 1, false), (1, 1, false), (2, 1, false), (3, 1, false)], 4, 88, true, [.string { data := { toList := [] } }, .slice none 0 0, .slice none 0 0, .slice none 0 0]⟩ := by kernel_rfl
theorem ni77 : notInt Tryz.prog 77 = true := by kernel_rfl
theorem ti33 : ti Tryz.prog 33 = some ⟨.sl 161, 1, 24, false, [.slice none 0 0]⟩ := by kernel_rfl
theorem ni33 : notInt Tryz.prog 33 = true := by kernel_rfl
theorem ti23 : ti Tryz.prog 23 = some ⟨.sl 77, 1, 24, false, [.slice none 0 0]⟩ := by kernel_rfl
theorem ni23 : notInt Tryz.prog 23 = true := by kernel_rfl
attribute [go_sem] ti161 ni161 ti77 ni77 ti33 ni33 ti23 ni23
structure Monitor where
  name : ByteArray
  vars : List ByteArray
  queues : List ByteArray
  entries : List Entry
def monitorT (x : Monitor) : List T := [sV x.name, .own 1 (strsT x.vars), .own 1 (strsT x.queues), .own 3 (entrysT x.entries)]
def monitorR (x : Monitor) : List T := [sV x.name, .ro 1 (strsD x.vars), .ro 1 (strsD x.queues), .ro 3 (entrysD x.entries)]
attribute [go_sem] monitorT monitorR
def monitorD (x : Monitor) : List D := [D.v (.string x.name), .l 1 (strsD x.vars), .l 1 (strsD x.queues), .l 3 (entrysD x.entries)]
attribute [go_sem] monitorD
def monitorZ : Monitor := ⟨ByteArray.empty, [], [], []⟩
def smMonitor (x : Monitor) : Prop := x.name.size ≤ 1048576 ∧ (x.vars.length ≤ 1048576 ∧ ∀ y ∈ x.vars, ByteArray.size y ≤ 1048576) ∧ (x.queues.length ≤ 1048576 ∧ ∀ y ∈ x.queues, ByteArray.size y ≤ 1048576) ∧ (x.entries.length ≤ 1048576 ∧ ∀ y ∈ x.entries, smEntry y)
def bgMonitor (x : Monitor) : Prop := x.name.size ≤ 9223372036854775807 ∧ (x.vars.length ≤ 9223372036854775807 ∧ ∀ y ∈ x.vars, ByteArray.size y ≤ 9223372036854775807) ∧ (x.queues.length ≤ 9223372036854775807 ∧ ∀ y ∈ x.queues, ByteArray.size y ≤ 9223372036854775807) ∧ (x.entries.length ≤ 9223372036854775807 ∧ ∀ y ∈ x.entries, bgEntry y)
def mdMonitor (x : Monitor) : Prop := x.name.size ≤ 1048576 ∧ (x.vars.length ≤ 1099511627776 ∧ ∀ y ∈ x.vars, ByteArray.size y ≤ 1048576) ∧ (x.queues.length ≤ 1099511627776 ∧ ∀ y ∈ x.queues, ByteArray.size y ≤ 1048576) ∧ (x.entries.length ≤ 68719476736 ∧ ∀ y ∈ x.entries, mdEntry y)
theorem sm_mdMonitor {x : Monitor} (h : smMonitor x) : mdMonitor x := ⟨h.1, ⟨Nat.le_trans h.2.1.1 (by omega), h.2.1.2⟩, ⟨Nat.le_trans h.2.2.1.1 (by omega), h.2.2.1.2⟩, ⟨Nat.le_trans h.2.2.2.1 (by omega), fun y hy => sm_mdEntry (h.2.2.2.2 y hy)⟩⟩
theorem szMonitor_ok (x : Monitor) (left : Int) (h : 0 ≤ left ∧ left ≤ 1048576) (hb : bgMonitor x) : CallE Tryz.prog 119 [.agg (monitorR x), .one (iV left)] (fun r : Int => .s (.one (iV r))) (fun _ => [none, none]) (fun r => -1 ≤ r ∧ r ≤ left ∧ (0 ≤ r → smMonitor x)) := by
  obtain ⟨hb0, hb1, hb2, hb3⟩ := hb
  refine callE_of_hcall 40 (hcall_of_body Tryz.func119 rfl (by kernel_rfl) ?_)
  simp (disch := omega) only [go_sem, Tryz.ntmps119, Tryz.results119]
  repeat' (first | (with_reducible first | refine i_seq ?_) | ((first | (with_reducible first | refine i_block ?_ | refine i_regionQ (fun Q' hQ => ?_) | (refine Imp.go hQ ?_; clear hQ)) | ((with_reducible refine i_condT ?_ ?_); (focus (simp only [go_sem, *]; done))) | ((with_reducible refine i_condF ?_ ?_); (focus (simp only [go_sem, *]; done))) | ((with_reducible first | refine resOk_g (fun h => ?_) (fun h => ?_) | refine i_cond (by simp only [go_sem, *] <;> rfl) (fun h => ?_) (fun h => ?_)) <;> (try simp only [Bool.not_eq_eq_eq_not, Bool.not_true, Bool.not_false, reduceCtorEq] at h) <;> (try have h' := of_decide_eq_true h) <;> (try (have hz : (_ : Int) = (_ : Int) := h'; clear hz h')) <;> (try have h' := of_decide_eq_false h) <;> (try have h' := inB_t h) <;> (try (exfalso; omega))) | ((with_reducible refine hcall_of_callE 40 true (szStringS_ok x.vars (left - (x.name.size : Int)) (by omega) hb1) ?_ ?_ ?_ ?_ ?_); (focus (simp (disch := omega) only [go_sem, natLe_ok]; done)); (focus (simp (disch := omega) only [go_sem, natLe_ok]; done)); (focus (rintro r1 ⟨ha1, hc1, hd1⟩; (try dsimp only at ha1); (try dsimp only at hc1); (try dsimp only at hd1); (try simp (disch := omega) only [go_sem, natLe_ok]); done)); (focus (rintro r1 ⟨ha1, hc1, hd1⟩; (try dsimp only at ha1); (try dsimp only at hc1); (try dsimp only at hd1); (try simp (disch := omega) only [go_sem, natLe_ok]); done)); rintro r1 ⟨ha1, hc1, hd1⟩; (try dsimp only at ha1); (try dsimp only at hc1); (try dsimp only at hd1); simp only [go_sem]; refine aL_run ?_) | ((with_reducible refine hcall_of_callE 40 true (szStringS_ok x.queues r1 (by omega) hb2) ?_ ?_ ?_ ?_ ?_); (focus (simp (disch := omega) only [go_sem, natLe_ok]; done)); (focus (simp (disch := omega) only [go_sem, natLe_ok]; done)); (focus (rintro r2 ⟨ha2, hc2, hd2⟩; (try dsimp only at ha2); (try dsimp only at hc2); (try dsimp only at hd2); (try simp (disch := omega) only [go_sem, natLe_ok]); done)); (focus (rintro r2 ⟨ha2, hc2, hd2⟩; (try dsimp only at ha2); (try dsimp only at hc2); (try dsimp only at hd2); (try simp (disch := omega) only [go_sem, natLe_ok]); done)); rintro r2 ⟨ha2, hc2, hd2⟩; (try dsimp only at ha2); (try dsimp only at hc2); (try dsimp only at hd2); simp only [go_sem]; refine aL_run ?_) | ((with_reducible refine hcall_of_callE 40 true (szEntryS_ok x.entries r2 (by omega) hb3) ?_ ?_ ?_ ?_ ?_); (focus (simp (disch := omega) only [go_sem, natLe_ok]; done)); (focus (simp (disch := omega) only [go_sem, natLe_ok]; done)); (focus (rintro r3 ⟨ha3, hc3, hd3⟩; (try dsimp only at ha3); (try dsimp only at hc3); (try dsimp only at hd3); (try simp (disch := omega) only [go_sem, natLe_ok]); done)); (focus (rintro r3 ⟨ha3, hc3, hd3⟩; (try dsimp only at ha3); (try dsimp only at hc3); (try dsimp only at hd3); (try simp (disch := omega) only [go_sem, natLe_ok]); done)); rintro r3 ⟨ha3, hc3, hd3⟩; (try dsimp only at ha3); (try dsimp only at hc3); (try dsimp only at hd3); simp only [go_sem]; refine aL_run ?_)) <;> (try simp (disch := omega) only [go_sem, *])))
  all_goals (try simp (disch := omega) only [EndK, go_sem, natLe_ok, *])
  all_goals first
    | exact ⟨-1, ⟨by omega, by omega, fun h => by first | trivial | (exfalso; omega)⟩, rfl⟩
    | exact ⟨r3, ⟨by omega, by omega, fun h => by first | trivial | exact ⟨by omega, hd1 (by omega), hd2 (by omega), hd3 (by omega)⟩⟩, rfl⟩
theorem toMonitor_ok (x : Monitor) (hs : smMonitor x) : CallOk Tryz.prog 134 [.agg (monitorR x)] (.s (.agg (monitorT x))) [none] := by
  obtain ⟨hs0, hs1, hs2, hs3⟩ := hs
  refine callOk_of_hcall 40 (hcall_of_body Tryz.func134 rfl (by kernel_rfl) ?_)
  simp (disch := omega) only [go_sem, Tryz.ntmps134, Tryz.results134]
  have x1 := toStringS_ok x.vars hs1
  have x2 : HC 1 _ := ⟨toStringS_ok x.queues hs2⟩
  have x3 := toEntryS_ok x.entries hs3
  exact wk
theorem eqMonitor_ok (x : Monitor) (hs : mdMonitor x) : CallOk Tryz.prog 111 [.agg (monitorR x), .agg (monitorR x)] (.s (.one (bV true))) [none, none] := by
  obtain ⟨hs0, hs1, hs2, hs3⟩ := hs
  refine callOk_of_hcall 40 (hcall_of_body Tryz.func111 rfl (by kernel_rfl) ?_)
  simp (disch := omega) only [go_sem, Tryz.ntmps111, Tryz.results111]
  have x1 := @seq_self
  have x2 := @Bool.not_true
  have x3 := eqStringS_ok x.vars hs1
  have x4 : HC 1 _ := ⟨eqStringS_ok x.queues hs2⟩
  have x5 := eqEntryS_ok x.entries hs3
  exact wk
/-! Lists of it. -/
instance : Inhabited Monitor := ⟨monitorZ⟩
def monitorsT (xs : List Monitor) : List (List T) := xs.map monitorT
def monitorsD (xs : List Monitor) : List (List D) := xs.map monitorD
theorem monitorsT_nil : monitorsT [] = [] := rfl
theorem monitorsT_len (xs : List Monitor) : (monitorsT xs).length = xs.length := by simp [monitorsT]
theorem monitorsD_len (xs : List Monitor) : (monitorsD xs).length = xs.length := by simp [monitorsD]
theorem monitorsD_get {xs : List Monitor} {k : Nat} (h : k < xs.length) : (monitorsD xs)[k]? = some (monitorD (xs.getD k monitorZ)) := by simp [monitorsD, h]
theorem monitorsT_get {xs : List Monitor} {k : Nat} (h : k < xs.length) : (monitorsT xs)[k]? = some (monitorT (xs.getD k monitorZ)) := by simp [monitorsT, h]
theorem monitorsT_take (xs : List Monitor) (n : Nat) : (monitorsT xs).take n = monitorsT (xs.take n) := by simp [monitorsT, List.map_take]
theorem monitorsD_take (xs : List Monitor) (n : Nat) : (monitorsD xs).take n = monitorsD (xs.take n) := by simp [monitorsD, List.map_take]
theorem monitorsD_ofD (xs : List Monitor) : (monitorsD xs).map (·.map ofD) = xs.map monitorR := by rw [monitorsD, List.map_map]; rfl
theorem monitorsT_closed (xs : List Monitor) : closedRows (monitorsT xs) = true := closed_map (fun x => by simp [monitorT, closedRow, closedT, isNil, strsT_closed, entrysT_closed]) xs
theorem monitorsT_noRo (xs : List Monitor) : noRoRows (monitorsT xs) = true := noRo_map (fun x => by simp [monitorT, noRoRow, noRo, isNil, strsT_noRo, entrysT_noRo]) xs
theorem monitorsT_look {n : Nat} {H : List AObj} (xs : List Monitor) : lookRowsBy (lookD (n + 2) H) (monitorsT xs) (monitorsD xs) := lookRowsBy_map fun x _ => ⟨rfl, ⟨⟨rfl, strsT_look _⟩, ⟨⟨rfl, strsT_look _⟩, ⟨⟨rfl, entrysT_look _⟩, trivial⟩⟩⟩⟩
attribute [go_sem] monitorsT_nil monitorsT_len monitorsD_len monitorsD_get monitorsT_get monitorsT_take monitorsD_take monitorsT_closed monitorsT_noRo monitorsT_look
theorem szMonitorS_ok (xs : List Monitor) (left : Int) (h : 0 ≤ left ∧ left ≤ 1048576) (hb : xs.length ≤ 9223372036854775807 ∧ ∀ y ∈ xs, bgMonitor y) : CallE Tryz.prog 45 [.one (.ro 4 (monitorsD xs)), .one (iV left)] (fun r : Int => .s (.one (iV r))) (fun _ => [none, none]) (fun r => -1 ≤ r ∧ r ≤ left ∧ (0 ≤ r → xs.length ≤ 1048576 ∧ ∀ y ∈ xs, smMonitor y)) := by
  obtain ⟨h1, h2⟩ := h
  obtain ⟨hb0, hb1⟩ := hb
  refine callE_of_hcall 40 (hcall_of_body Tryz.func45 rfl (by kernel_rfl) ?_)
  simp (disch := omega) only [go_sem, Tryz.ntmps45, Tryz.results45]
  repeat' (first | (with_reducible first | refine i_seq ?_) | ((first | (with_reducible first | refine i_block ?_ | refine i_regionQ (fun Q' hQ => ?_) | (refine Imp.go hQ ?_; clear hQ)) | ((with_reducible refine i_condT ?_ ?_); (focus (simp only [go_sem, *]; done))) | ((with_reducible refine i_condF ?_ ?_); (focus (simp only [go_sem, *]; done))) | ((with_reducible first | refine resOk_g (fun h => ?_) (fun h => ?_) | refine i_cond (by simp only [go_sem, *] <;> rfl) (fun h => ?_) (fun h => ?_)) <;> (try simp only [Bool.not_eq_eq_eq_not, Bool.not_true, Bool.not_false, reduceCtorEq] at h) <;> (try have h' := of_decide_eq_true h) <;> (try (have hz : (_ : Int) = (_ : Int) := h'; clear hz h')) <;> (try have h' := of_decide_eq_false h) <;> (try have h' := inB_t h) <;> (try (exfalso; omega)))) <;> (try simp (disch := omega) only [go_sem, *])))
  all_goals (try simp (disch := omega) only [EndK, go_sem, natLe_ok, *])
  · exact ⟨-1, ⟨by omega, by omega, fun h => by first | trivial | (exfalso; omega)⟩, rfl⟩
  refine i_loop (α := {p : Nat × Int // p.1 ≤ xs.length ∧ 0 ≤ p.2 ∧ p.2 ≤ left ∧ ∀ y ∈ xs.take p.1, smMonitor y}) (fun p => ⟨mkEnv 27 [(0, .one (.ro 4 (monitorsD xs))), (1, .one (iV p.1.2)), (5, .one (iV p.1.1))], []⟩) (fun p => xs.length - p.1.1) ⟨(0, left - xs.length), by simp, by simp only; omega, by simp only; omega, by simp⟩ ?_ ?_
  · (refine weak_canon [0, 1, 5] [] ?_ ?_ ?_ <;> (simp (disch := omega) only [go_sem]; done))
  rintro ⟨⟨k, lf⟩, hk, hl0, hl1, hp⟩
  simp only at hk hl0 hl1 hp
  simp (disch := omega) only [go_sem]
  by_cases hkl : k < xs.length
  · have hbk := hb1 (xs.getD k monitorZ) (by simp [hkl])
    repeat' (first | (with_reducible first | refine i_seq ?_) | ((first | (with_reducible first | refine i_block ?_ | refine i_regionQ (fun Q' hQ => ?_) | (refine Imp.go hQ ?_; clear hQ)) | ((with_reducible refine i_condT ?_ ?_); (focus (simp only [go_sem, *]; done))) | ((with_reducible refine i_condF ?_ ?_); (focus (simp only [go_sem, *]; done))) | ((with_reducible first | refine resOk_g (fun h => ?_) (fun h => ?_) | refine i_cond (by simp only [go_sem, *] <;> rfl) (fun h => ?_) (fun h => ?_)) <;> (try simp only [Bool.not_eq_eq_eq_not, Bool.not_true, Bool.not_false, reduceCtorEq] at h) <;> (try have h' := of_decide_eq_true h) <;> (try (have hz : (_ : Int) = (_ : Int) := h'; clear hz h')) <;> (try have h' := of_decide_eq_false h) <;> (try have h' := inB_t h) <;> (try (exfalso; omega))) | ((with_reducible refine hcall_of_callE 40 true (szMonitor_ok (xs.getD k monitorZ) lf (by omega) hbk) ?_ ?_ ?_ ?_ ?_); (focus (simp (disch := omega) only [go_sem, natLe_ok]; done)); (focus (simp (disch := omega) only [go_sem, natLe_ok]; done)); (focus (rintro r ⟨hr1, hr2, hr3⟩; (try dsimp only at hr1); (try dsimp only at hr2); (try dsimp only at hr3); (try simp (disch := omega) only [go_sem, natLe_ok]); done)); (focus (rintro r ⟨hr1, hr2, hr3⟩; (try dsimp only at hr1); (try dsimp only at hr2); (try dsimp only at hr3); (try simp (disch := omega) only [go_sem, natLe_ok]); done)); rintro r ⟨hr1, hr2, hr3⟩; (try dsimp only at hr1); (try dsimp only at hr2); (try dsimp only at hr3); simp only [go_sem]; refine aL_run ?_)) <;> (try simp (disch := omega) only [go_sem, *])))
    all_goals (try simp (disch := omega) only [EndK, go_sem, natLe_ok, *])
    · exact ⟨-1, ⟨by omega, by omega, fun h => by first | trivial | (exfalso; omega)⟩, rfl⟩
    · refine ⟨⟨(k + 1, r), by simp only; omega, by simp only; omega, by simp only; omega, fun y hy => ?_⟩, ?_, by simp only; omega⟩
      · rw [List.take_succ_eq_append_getElem hkl] at hy
        rcases List.mem_append.1 hy with hy | hy
        · exact hp y hy
        · have e : y = xs.getD k monitorZ := by simpa [hkl] using hy
          rw [e]; exact hr3 (by omega)
      · (refine weak_canon [0, 1, 5] [] ?_ ?_ ?_ <;> (simp (disch := omega) only [go_sem]; done))
  ·
    repeat' (first | (with_reducible first | refine i_seq ?_) | ((first | (with_reducible first | refine i_block ?_ | refine i_regionQ (fun Q' hQ => ?_) | (refine Imp.go hQ ?_; clear hQ)) | ((with_reducible refine i_condT ?_ ?_); (focus (simp only [go_sem, *]; done))) | ((with_reducible refine i_condF ?_ ?_); (focus (simp only [go_sem, *]; done))) | ((with_reducible first | refine resOk_g (fun h => ?_) (fun h => ?_) | refine i_cond (by simp only [go_sem, *] <;> rfl) (fun h => ?_) (fun h => ?_)) <;> (try simp only [Bool.not_eq_eq_eq_not, Bool.not_true, Bool.not_false, reduceCtorEq] at h) <;> (try have h' := of_decide_eq_true h) <;> (try (have hz : (_ : Int) = (_ : Int) := h'; clear hz h')) <;> (try have h' := of_decide_eq_false h) <;> (try have h' := inB_t h) <;> (try (exfalso; omega)))) <;> (try simp (disch := omega) only [go_sem, *])))
    all_goals (try simp (disch := omega) only [EndK, go_sem, natLe_ok, *])
    all_goals exact ⟨lf, ⟨by omega, by omega, fun h => by first | exact fun y hy => hp y (by rw [List.take_of_length_le (by omega)]; exact hy) | exact ⟨by omega, fun y hy => hp y (by rw [List.take_of_length_le (by omega)]; exact hy)⟩⟩, rfl⟩
def monitorMix (xs : List Monitor) (k : Nat) : List (List T) := monitorsT (xs.take k) ++ List.replicate (xs.length - k) [.v (.string { data := { toList := [] } }), .v nilV, .v nilV, .v nilV]
theorem monitorMix_len {xs : List Monitor} {k : Nat} (hk : k ≤ xs.length) : (monitorMix xs k).length = xs.length := by
  simp only [monitorMix, List.length_append, monitorsT_len, List.length_take, List.length_replicate]; omega
theorem monitorMix_zero (xs : List Monitor) : monitorMix xs 0 = List.replicate xs.length [.v (.string { data := { toList := [] } }), .v nilV, .v nilV, .v nilV] := by simp [monitorMix, monitorsT]
theorem monitorMix_end {xs : List Monitor} {k : Nat} (h : xs.length ≤ k) : monitorMix xs k = monitorsT xs := by
  rw [monitorMix, List.take_of_length_le h, show xs.length - k = 0 by omega]; simp
theorem monitorMix_get {xs : List Monitor} {k : Nat} (hk : k < xs.length) : (monitorMix xs k)[k]? = some [.v (.string { data := { toList := [] } }), .v nilV, .v nilV, .v nilV] := by
  have h1 : (monitorsT (xs.take k)).length = k := by rw [monitorsT_len, List.length_take]; omega
  rw [monitorMix, List.getElem?_append_right (by omega), h1, List.getElem?_replicate]
  simp; omega
theorem monitorMix_set {xs : List Monitor} {k : Nat} (hk : k < xs.length) : (monitorMix xs k).set k (monitorT (xs.getD k monitorZ)) = monitorMix xs (k + 1) := by
  have h1 : (monitorsT (xs.take k)).length = k := by rw [monitorsT_len, List.length_take]; omega
  have h2 : xs.length - k = (xs.length - (k + 1)) + 1 := by omega
  have h3 : monitorsT (xs.take (k + 1)) = monitorsT (xs.take k) ++ [monitorT (xs.getD k monitorZ)] := by
    have e : xs.getD k monitorZ = xs[k] := by simp [hk]
    rw [e, List.take_succ_eq_append_getElem hk]; simp only [monitorsT, List.map_append, List.map_cons, List.map_nil]
  unfold monitorMix
  rw [h2, List.replicate_succ, List.set_append_right _ _ (by omega), h1, Nat.sub_self, List.set_cons_zero, h3, List.append_assoc]
  rfl
theorem monitorMix_refs (xs : List Monitor) (k : Nat) : refsRows (monitorMix xs k) = [] := by
  rw [monitorMix, refsRows_app, closed_refsRows _ (monitorsT_closed _), refs_repl rfl]; rfl
theorem monitorMix_ren (f : Nat → Nat) (xs : List Monitor) (k : Nat) : renRows f (monitorMix xs k) = monitorMix xs k := by
  rw [monitorMix, renRows_app, closed_renRows f _ (monitorsT_closed _), ren_repl rfl]
attribute [go_sem] monitorMix_refs monitorMix_ren
theorem toMonitorS_ok (xs : List Monitor) (hs : xs.length ≤ 1048576 ∧ ∀ y ∈ xs, smMonitor y) : CallOk Tryz.prog 57 [.one (.ro 4 (monitorsD xs))] (.s (.one (.own 4 (monitorsT xs)))) [none] := by
  obtain ⟨hs, hs1⟩ := hs
  have hz := monitorMix_zero xs
  refine callOk_of_hcall 40 (hcall_of_body Tryz.func57 rfl (by kernel_rfl) ?_)
  simp (disch := omega) only [go_sem, Tryz.ntmps57, Tryz.results57]
  refine wkc ?_
  refine i_loop (α := {k : Nat // k ≤ xs.length}) (fun k => ⟨mkEnv 23 [(0, .one (.ro 4 (monitorsD xs))), (3, .one (.ref 0 0 xs.length)), (4, .one (iV k.1))], [.live 4 (monitorMix xs k.1)]⟩) (fun k => xs.length - k.1) ⟨0, by omega⟩ ?_ ?_
  · (refine weak_canon [0, 3, 4] [0] ?_ ?_ ?_ <;> (simp (disch := omega) only [go_sem, ← hz]; done))
  rintro ⟨k, hk⟩
  have hml := monitorMix_len hk
  simp (disch := omega) only [go_sem]
  by_cases hkl : k < xs.length
  · have hg := monitorMix_get hkl
    have e := monitorMix_set hkl
    have hsk := hs1 (xs.getD k monitorZ) (by simp [hkl])
    have x1 := toMonitor_ok (xs.getD k monitorZ) hsk
    refine wkc ?_
    refine ⟨⟨k + 1, by omega⟩, weak_fit2 40 0 k 4 _ _ (monitorT (xs.getD k monitorZ)) rfl (List.getElem?_set_self (by rw [hml]; exact hkl)) ?_ rfl ?_, by simp only; omega⟩
    · simp (disch := omega) only [go_sem, natLe_ok]
    · have e2 : (monitorMix xs k).set k [sV (xs.getD k monitorZ).name, .own 1 (strsT (xs.getD k monitorZ).vars), .own 1 (strsT (xs.getD k monitorZ).queues), .own 3 (entrysT (xs.getD k monitorZ).entries)] = monitorMix xs (k + 1) := e
      simp (disch := omega) only [go_sem, natLe_ok, List.set_set, e2]
      (refine weak_canon [0, 3, 4] [0] ?_ ?_ ?_ <;> (simp (disch := omega) only [go_sem, e2]; done))
  ·
    repeat' (first | (with_reducible first | refine i_seq ?_) | ((first | (with_reducible first | refine i_block ?_ | refine i_regionQ (fun Q' hQ => ?_) | (refine Imp.go hQ ?_; clear hQ)) | ((with_reducible refine i_condT ?_ ?_); (focus (simp only [go_sem, *]; done))) | ((with_reducible refine i_condF ?_ ?_); (focus (simp only [go_sem, *]; done))) | ((with_reducible first | refine resOk_g (fun h => ?_) (fun h => ?_) | refine i_cond (by simp only [go_sem, *] <;> rfl) (fun h => ?_) (fun h => ?_)) <;> (try simp only [Bool.not_eq_eq_eq_not, Bool.not_true, Bool.not_false, reduceCtorEq] at h) <;> (try have h' := of_decide_eq_true h) <;> (try (have hz : (_ : Int) = (_ : Int) := h'; clear hz h')) <;> (try have h' := of_decide_eq_false h) <;> (try have h' := inB_t h) <;> (try (exfalso; omega)))) <;> (try simp (disch := omega) only [go_sem, *])))
    all_goals (try simp (disch := omega) only [EndK, go_sem, natLe_ok, *])
    all_goals rw [monitorMix_end (by omega)]
    all_goals (try simp (disch := omega) only [go_sem, natLe_ok])
theorem eqMonitorS_ok (xs : List Monitor) (hs : xs.length ≤ 68719476736 ∧ ∀ y ∈ xs, mdMonitor y) : CallOk Tryz.prog 36 [.one (.ro 4 (monitorsD xs)), .one (.ro 4 (monitorsD xs))] (.s (.one (bV true))) [none, none] := by
  obtain ⟨hs, hs1⟩ := hs
  refine callOk_of_hcall 40 (hcall_of_body Tryz.func36 rfl (by kernel_rfl) ?_)
  simp (disch := omega) only [go_sem, Tryz.ntmps36, Tryz.results36]
  have x1 : HT 6 (.fr [0, 1, 2, 3, 4, 5, 6, 7] (.op [8] (.fr [9] (.stop)))) := ⟨⟩
  refine wkc ?_
  refine i_loop (α := {k : Nat // k ≤ xs.length}) (fun k => ⟨mkEnv 27 [(0, .one (.ro 4 (monitorsD xs))), (1, .one (.ro 4 (monitorsD xs))), (5, .one (iV k.1))], []⟩) (fun k => xs.length - k.1) ⟨0, by omega⟩ ?_ ?_
  · (refine weak_canon [0, 1, 5] [] ?_ ?_ ?_ <;> (simp (disch := omega) only [go_sem]; done))
  rintro ⟨k, hk⟩
  simp (disch := omega) only [go_sem]
  by_cases hkl : k < xs.length
  · have hsk := hs1 (xs.getD k monitorZ) (by simp [hkl])
    have x1 : HT 6 (.fr [0, 1, 2, 3, 4, 5, 6, 7] (.op [8] (.fr [9] (.stop)))) := ⟨⟩
    have x2 := eqMonitor_ok (xs.getD k monitorZ) hsk
    refine wkc ?_
    refine ⟨⟨k + 1, by omega⟩, ?_, by simp only; omega⟩
    (refine weak_canon [0, 1, 5] [] ?_ ?_ ?_ <;> (simp (disch := omega) only [go_sem]; done))
  ·
    have x1 : HT 6 (.fr [0, 1, 2, 3, 4, 5, 6, 7] (.op [8] (.fr [9] (.stop)))) := ⟨⟩
    exact wk
end Go.Proofs.YtejnpiielcbkkaaGreat.E
end
section
set_option maxRecDepth 100000
set_option maxHeartbeats 4000000
namespace Go.Proofs.YtejnpiielcbkkaaGreat.E
theorem ti163 : ti Tryz.prog 163 = some ⟨.st [(0, 1, false), (1, 1, false), (2, 1, false), (3, 1, false)], 4, 72, true, [.string { data := { toList := [] } }, .slice none 0 0, .slice none 0 0, .int .i64 0]⟩ := by kernel_rfl
theorem ni163 : notInt Tryz.prog 163 = true := by kernel_rfl
theorem ti80 : ti Tryz.prog 80 = some ⟨.st [(0, 1, false), (1, 1, false), (2, 1, false), (3, 1, false)], 4, 72, true, [.string { data := { toList := [] } }, .slice none 0 0, .slice none 0 0, .int .i64 0]⟩ := by kernel_rfl
theorem ni80 : notInt Tryz.prog 80 = true := by kernel_rfl
theorem ti34 : ti Tryz.prog 34 = some ⟨.sl 163, 1, 24, false, [.slice none 0 0]⟩ := by kernel_rfl
theorem ni34 : notInt Tryz.prog 34 = true := by kernel_rfl
theorem ti24 : ti Tryz.prog 24 = some ⟨.sl 80, 1, 24, false, [.slice none 0 0]⟩ := by kernel_rfl
theorem ni24 : notInt Tryz.prog 24 = true := by kernel_rfl
attribute [go_sem] ti163 ni163 ti80 ni80 ti34 ni34 ti24 ni24
structure Process where
  name : ByteArray
  uses : List ByteArray
  vars : List ByteArray
  body : Int
def processT (x : Process) : List T := [sV x.name, .own 1 (strsT x.uses), .own 1 (strsT x.vars), iV x.body]
def processR (x : Process) : List T := [sV x.name, .ro 1 (strsD x.uses), .ro 1 (strsD x.vars), iV x.body]
attribute [go_sem] processT processR
def processD (x : Process) : List D := [D.v (.string x.name), .l 1 (strsD x.uses), .l 1 (strsD x.vars), D.v (.int .i64 x.body)]
attribute [go_sem] processD
def processZ : Process := ⟨ByteArray.empty, [], [], 0⟩
def smProcess (x : Process) : Prop := x.name.size ≤ 1048576 ∧ (x.uses.length ≤ 1048576 ∧ ∀ y ∈ x.uses, ByteArray.size y ≤ 1048576) ∧ (x.vars.length ≤ 1048576 ∧ ∀ y ∈ x.vars, ByteArray.size y ≤ 1048576)
def bgProcess (x : Process) : Prop := x.name.size ≤ 9223372036854775807 ∧ (x.uses.length ≤ 9223372036854775807 ∧ ∀ y ∈ x.uses, ByteArray.size y ≤ 9223372036854775807) ∧ (x.vars.length ≤ 9223372036854775807 ∧ ∀ y ∈ x.vars, ByteArray.size y ≤ 9223372036854775807)
def mdProcess (x : Process) : Prop := x.name.size ≤ 1048576 ∧ (x.uses.length ≤ 1099511627776 ∧ ∀ y ∈ x.uses, ByteArray.size y ≤ 1048576) ∧ (x.vars.length ≤ 1099511627776 ∧ ∀ y ∈ x.vars, ByteArray.size y ≤ 1048576)
theorem sm_mdProcess {x : Process} (h : smProcess x) : mdProcess x := ⟨h.1, ⟨Nat.le_trans h.2.1.1 (by omega), h.2.1.2⟩, ⟨Nat.le_trans h.2.2.1 (by omega), h.2.2.2⟩⟩
theorem szProcess_ok (x : Process) (left : Int) (h : 0 ≤ left ∧ left ≤ 1048576) (hb : bgProcess x) : CallE Tryz.prog 120 [.agg (processR x), .one (iV left)] (fun r : Int => .s (.one (iV r))) (fun _ => [none, none]) (fun r => -1 ≤ r ∧ r ≤ left ∧ (0 ≤ r → smProcess x)) := by
  obtain ⟨hb0, hb1, hb2⟩ := hb
  refine callE_of_hcall 40 (hcall_of_body Tryz.func120 rfl (by kernel_rfl) ?_)
  simp (disch := omega) only [go_sem, Tryz.ntmps120, Tryz.results120]
  repeat' (first | (with_reducible first | refine i_seq ?_) | ((first | (with_reducible first | refine i_block ?_ | refine i_regionQ (fun Q' hQ => ?_) | (refine Imp.go hQ ?_; clear hQ)) | ((with_reducible refine i_condT ?_ ?_); (focus (simp only [go_sem, *]; done))) | ((with_reducible refine i_condF ?_ ?_); (focus (simp only [go_sem, *]; done))) | ((with_reducible first | refine resOk_g (fun h => ?_) (fun h => ?_) | refine i_cond (by simp only [go_sem, *] <;> rfl) (fun h => ?_) (fun h => ?_)) <;> (try simp only [Bool.not_eq_eq_eq_not, Bool.not_true, Bool.not_false, reduceCtorEq] at h) <;> (try have h' := of_decide_eq_true h) <;> (try (have hz : (_ : Int) = (_ : Int) := h'; clear hz h')) <;> (try have h' := of_decide_eq_false h) <;> (try have h' := inB_t h) <;> (try (exfalso; omega))) | ((with_reducible refine hcall_of_callE 40 true (szStringS_ok x.uses (left - (x.name.size : Int)) (by omega) hb1) ?_ ?_ ?_ ?_ ?_); (focus (simp (disch := omega) only [go_sem, natLe_ok]; done)); (focus (simp (disch := omega) only [go_sem, natLe_ok]; done)); (focus (rintro r1 ⟨ha1, hc1, hd1⟩; (try dsimp only at ha1); (try dsimp only at hc1); (try dsimp only at hd1); (try simp (disch := omega) only [go_sem, natLe_ok]); done)); (focus (rintro r1 ⟨ha1, hc1, hd1⟩; (try dsimp only at ha1); (try dsimp only at hc1); (try dsimp only at hd1); (try simp (disch := omega) only [go_sem, natLe_ok]); done)); rintro r1 ⟨ha1, hc1, hd1⟩; (try dsimp only at ha1); (try dsimp only at hc1); (try dsimp only at hd1); simp only [go_sem]; refine aL_run ?_) | ((with_reducible refine hcall_of_callE 40 true (szStringS_ok x.vars r1 (by omega) hb2) ?_ ?_ ?_ ?_ ?_); (focus (simp (disch := omega) only [go_sem, natLe_ok]; done)); (focus (simp (disch := omega) only [go_sem, natLe_ok]; done)); (focus (rintro r2 ⟨ha2, hc2, hd2⟩; (try dsimp only at ha2); (try dsimp only at hc2); (try dsimp only at hd2); (try simp (disch := omega) only [go_sem, natLe_ok]); done)); (focus (rintro r2 ⟨ha2, hc2, hd2⟩; (try dsimp only at ha2); (try dsimp only at hc2); (try dsimp only at hd2); (try simp (disch := omega) only [go_sem, natLe_ok]); done)); rintro r2 ⟨ha2, hc2, hd2⟩; (try dsimp only at ha2); (try dsimp only at hc2); (try dsimp only at hd2); simp only [go_sem]; refine aL_run ?_)) <;> (try simp (disch := omega) only [go_sem, *])))
  all_goals (try simp (disch := omega) only [EndK, go_sem, natLe_ok, *])
  all_goals first
    | exact ⟨-1, ⟨by omega, by omega, fun h => by first | trivial | (exfalso; omega)⟩, rfl⟩
    | exact ⟨r2, ⟨by omega, by omega, fun h => by first | trivial | exact ⟨by omega, hd1 (by omega), hd2 (by omega)⟩⟩, rfl⟩
theorem toProcess_ok (x : Process) (hs : smProcess x) : CallOk Tryz.prog 135 [.agg (processR x)] (.s (.agg (processT x))) [none] := by
  obtain ⟨hs0, hs1, hs2⟩ := hs
  refine callOk_of_hcall 40 (hcall_of_body Tryz.func135 rfl (by kernel_rfl) ?_)
  simp (disch := omega) only [go_sem, Tryz.ntmps135, Tryz.results135]
  have x1 := toStringS_ok x.uses hs1
  have x2 : HC 1 _ := ⟨toStringS_ok x.vars hs2⟩
  exact wk
theorem eqProcess_ok (x : Process) (hs : mdProcess x) : CallOk Tryz.prog 112 [.agg (processR x), .agg (processR x)] (.s (.one (bV true))) [none, none] := by
  obtain ⟨hs0, hs1, hs2⟩ := hs
  refine callOk_of_hcall 40 (hcall_of_body Tryz.func112 rfl (by kernel_rfl) ?_)
  simp (disch := omega) only [go_sem, Tryz.ntmps112, Tryz.results112]
  have x1 := @seq_self
  have x2 := @Bool.not_true
  have x3 := eqStringS_ok x.uses hs1
  have x4 : HC 1 _ := ⟨eqStringS_ok x.vars hs2⟩
  exact wk
/-! Lists of it. -/
instance : Inhabited Process := ⟨processZ⟩
def processsT (xs : List Process) : List (List T) := xs.map processT
def processsD (xs : List Process) : List (List D) := xs.map processD
theorem processsT_nil : processsT [] = [] := rfl
theorem processsT_len (xs : List Process) : (processsT xs).length = xs.length := by simp [processsT]
theorem processsD_len (xs : List Process) : (processsD xs).length = xs.length := by simp [processsD]
theorem processsD_get {xs : List Process} {k : Nat} (h : k < xs.length) : (processsD xs)[k]? = some (processD (xs.getD k processZ)) := by simp [processsD, h]
theorem processsT_get {xs : List Process} {k : Nat} (h : k < xs.length) : (processsT xs)[k]? = some (processT (xs.getD k processZ)) := by simp [processsT, h]
theorem processsT_take (xs : List Process) (n : Nat) : (processsT xs).take n = processsT (xs.take n) := by simp [processsT, List.map_take]
theorem processsD_take (xs : List Process) (n : Nat) : (processsD xs).take n = processsD (xs.take n) := by simp [processsD, List.map_take]
theorem processsD_ofD (xs : List Process) : (processsD xs).map (·.map ofD) = xs.map processR := by rw [processsD, List.map_map]; rfl
theorem processsT_closed (xs : List Process) : closedRows (processsT xs) = true := closed_map (fun x => by simp [processT, closedRow, closedT, isNil, strsT_closed]) xs
theorem processsT_noRo (xs : List Process) : noRoRows (processsT xs) = true := noRo_map (fun x => by simp [processT, noRoRow, noRo, isNil, strsT_noRo]) xs
theorem processsT_look {n : Nat} {H : List AObj} (xs : List Process) : lookRowsBy (lookD (n + 2) H) (processsT xs) (processsD xs) := lookRowsBy_map fun x _ => ⟨rfl, ⟨⟨rfl, strsT_look _⟩, ⟨⟨rfl, strsT_look _⟩, ⟨rfl, trivial⟩⟩⟩⟩
attribute [go_sem] processsT_nil processsT_len processsD_len processsD_get processsT_get processsT_take processsD_take processsT_closed processsT_noRo processsT_look
theorem szProcessS_ok (xs : List Process) (left : Int) (h : 0 ≤ left ∧ left ≤ 1048576) (hb : xs.length ≤ 9223372036854775807 ∧ ∀ y ∈ xs, bgProcess y) : CallE Tryz.prog 46 [.one (.ro 4 (processsD xs)), .one (iV left)] (fun r : Int => .s (.one (iV r))) (fun _ => [none, none]) (fun r => -1 ≤ r ∧ r ≤ left ∧ (0 ≤ r → xs.length ≤ 1048576 ∧ ∀ y ∈ xs, smProcess y)) := by
  obtain ⟨h1, h2⟩ := h
  obtain ⟨hb0, hb1⟩ := hb
  refine callE_of_hcall 40 (hcall_of_body Tryz.func46 rfl (by kernel_rfl) ?_)
  simp (disch := omega) only [go_sem, Tryz.ntmps46, Tryz.results46]
  repeat' (first | (with_reducible first | refine i_seq ?_) | ((first | (with_reducible first | refine i_block ?_ | refine i_regionQ (fun Q' hQ => ?_) | (refine Imp.go hQ ?_; clear hQ)) | ((with_reducible refine i_condT ?_ ?_); (focus (simp only [go_sem, *]; done))) | ((with_reducible refine i_condF ?_ ?_); (focus (simp only [go_sem, *]; done))) | ((with_reducible first | refine resOk_g (fun h => ?_) (fun h => ?_) | refine i_cond (by simp only [go_sem, *] <;> rfl) (fun h => ?_) (fun h => ?_)) <;> (try simp only [Bool.not_eq_eq_eq_not, Bool.not_true, Bool.not_false, reduceCtorEq] at h) <;> (try have h' := of_decide_eq_true h) <;> (try (have hz : (_ : Int) = (_ : Int) := h'; clear hz h')) <;> (try have h' := of_decide_eq_false h) <;> (try have h' := inB_t h) <;> (try (exfalso; omega)))) <;> (try simp (disch := omega) only [go_sem, *])))
  all_goals (try simp (disch := omega) only [EndK, go_sem, natLe_ok, *])
  · exact ⟨-1, ⟨by omega, by omega, fun h => by first | trivial | (exfalso; omega)⟩, rfl⟩
  refine i_loop (α := {p : Nat × Int // p.1 ≤ xs.length ∧ 0 ≤ p.2 ∧ p.2 ≤ left ∧ ∀ y ∈ xs.take p.1, smProcess y}) (fun p => ⟨mkEnv 27 [(0, .one (.ro 4 (processsD xs))), (1, .one (iV p.1.2)), (5, .one (iV p.1.1))], []⟩) (fun p => xs.length - p.1.1) ⟨(0, left - xs.length), by simp, by simp only; omega, by simp only; omega, by simp⟩ ?_ ?_
  · (refine weak_canon [0, 1, 5] [] ?_ ?_ ?_ <;> (simp (disch := omega) only [go_sem]; done))
  rintro ⟨⟨k, lf⟩, hk, hl0, hl1, hp⟩
  simp only at hk hl0 hl1 hp
  simp (disch := omega) only [go_sem]
  by_cases hkl : k < xs.length
  · have hbk := hb1 (xs.getD k processZ) (by simp [hkl])
    repeat' (first | (with_reducible first | refine i_seq ?_) | ((first | (with_reducible first | refine i_block ?_ | refine i_regionQ (fun Q' hQ => ?_) | (refine Imp.go hQ ?_; clear hQ)) | ((with_reducible refine i_condT ?_ ?_); (focus (simp only [go_sem, *]; done))) | ((with_reducible refine i_condF ?_ ?_); (focus (simp only [go_sem, *]; done))) | ((with_reducible first | refine resOk_g (fun h => ?_) (fun h => ?_) | refine i_cond (by simp only [go_sem, *] <;> rfl) (fun h => ?_) (fun h => ?_)) <;> (try simp only [Bool.not_eq_eq_eq_not, Bool.not_true, Bool.not_false, reduceCtorEq] at h) <;> (try have h' := of_decide_eq_true h) <;> (try (have hz : (_ : Int) = (_ : Int) := h'; clear hz h')) <;> (try have h' := of_decide_eq_false h) <;> (try have h' := inB_t h) <;> (try (exfalso; omega))) | ((with_reducible refine hcall_of_callE 40 true (szProcess_ok (xs.getD k processZ) lf (by omega) hbk) ?_ ?_ ?_ ?_ ?_); (focus (simp (disch := omega) only [go_sem, natLe_ok]; done)); (focus (simp (disch := omega) only [go_sem, natLe_ok]; done)); (focus (rintro r ⟨hr1, hr2, hr3⟩; (try dsimp only at hr1); (try dsimp only at hr2); (try dsimp only at hr3); (try simp (disch := omega) only [go_sem, natLe_ok]); done)); (focus (rintro r ⟨hr1, hr2, hr3⟩; (try dsimp only at hr1); (try dsimp only at hr2); (try dsimp only at hr3); (try simp (disch := omega) only [go_sem, natLe_ok]); done)); rintro r ⟨hr1, hr2, hr3⟩; (try dsimp only at hr1); (try dsimp only at hr2); (try dsimp only at hr3); simp only [go_sem]; refine aL_run ?_)) <;> (try simp (disch := omega) only [go_sem, *])))
    all_goals (try simp (disch := omega) only [EndK, go_sem, natLe_ok, *])
    · exact ⟨-1, ⟨by omega, by omega, fun h => by first | trivial | (exfalso; omega)⟩, rfl⟩
    · refine ⟨⟨(k + 1, r), by simp only; omega, by simp only; omega, by simp only; omega, fun y hy => ?_⟩, ?_, by simp only; omega⟩
      · rw [List.take_succ_eq_append_getElem hkl] at hy
        rcases List.mem_append.1 hy with hy | hy
        · exact hp y hy
        · have e : y = xs.getD k processZ := by simpa [hkl] using hy
          rw [e]; exact hr3 (by omega)
      · (refine weak_canon [0, 1, 5] [] ?_ ?_ ?_ <;> (simp (disch := omega) only [go_sem]; done))
  ·
    repeat' (first | (with_reducible first | refine i_seq ?_) | ((first | (with_reducible first | refine i_block ?_ | refine i_regionQ (fun Q' hQ => ?_) | (refine Imp.go hQ ?_; clear hQ)) | ((with_reducible refine i_condT ?_ ?_); (focus (simp only [go_sem, *]; done))) | ((with_reducible refine i_condF ?_ ?_); (focus (simp only [go_sem, *]; done))) | ((with_reducible first | refine resOk_g (fun h => ?_) (fun h => ?_) | refine i_cond (by simp only [go_sem, *] <;> rfl) (fun h => ?_) (fun h => ?_)) <;> (try simp only [Bool.not_eq_eq_eq_not, Bool.not_true, Bool.not_false, reduceCtorEq] at h) <;> (try have h' := of_decide_eq_true h) <;> (try (have hz : (_ : Int) = (_ : Int) := h'; clear hz h')) <;> (try have h' := of_decide_eq_false h) <;> (try have h' := inB_t h) <;> (try (exfalso; omega)))) <;> (try simp (disch := omega) only [go_sem, *])))
    all_goals (try simp (disch := omega) only [EndK, go_sem, natLe_ok, *])
    all_goals exact ⟨lf, ⟨by omega, by omega, fun h => by first | exact fun y hy => hp y (by rw [List.take_of_length_le (by omega)]; exact hy) | exact ⟨by omega, fun y hy => hp y (by rw [List.take_of_length_le (by omega)]; exact hy)⟩⟩, rfl⟩
def processMix (xs : List Process) (k : Nat) : List (List T) := processsT (xs.take k) ++ List.replicate (xs.length - k) [.v (.string { data := { toList := [] } }), .v nilV, .v nilV, iV 0]
theorem processMix_len {xs : List Process} {k : Nat} (hk : k ≤ xs.length) : (processMix xs k).length = xs.length := by
  simp only [processMix, List.length_append, processsT_len, List.length_take, List.length_replicate]; omega
theorem processMix_zero (xs : List Process) : processMix xs 0 = List.replicate xs.length [.v (.string { data := { toList := [] } }), .v nilV, .v nilV, iV 0] := by simp [processMix, processsT]
theorem processMix_end {xs : List Process} {k : Nat} (h : xs.length ≤ k) : processMix xs k = processsT xs := by
  rw [processMix, List.take_of_length_le h, show xs.length - k = 0 by omega]; simp
theorem processMix_get {xs : List Process} {k : Nat} (hk : k < xs.length) : (processMix xs k)[k]? = some [.v (.string { data := { toList := [] } }), .v nilV, .v nilV, iV 0] := by
  have h1 : (processsT (xs.take k)).length = k := by rw [processsT_len, List.length_take]; omega
  rw [processMix, List.getElem?_append_right (by omega), h1, List.getElem?_replicate]
  simp; omega
theorem processMix_set {xs : List Process} {k : Nat} (hk : k < xs.length) : (processMix xs k).set k (processT (xs.getD k processZ)) = processMix xs (k + 1) := by
  have h1 : (processsT (xs.take k)).length = k := by rw [processsT_len, List.length_take]; omega
  have h2 : xs.length - k = (xs.length - (k + 1)) + 1 := by omega
  have h3 : processsT (xs.take (k + 1)) = processsT (xs.take k) ++ [processT (xs.getD k processZ)] := by
    have e : xs.getD k processZ = xs[k] := by simp [hk]
    rw [e, List.take_succ_eq_append_getElem hk]; simp only [processsT, List.map_append, List.map_cons, List.map_nil]
  unfold processMix
  rw [h2, List.replicate_succ, List.set_append_right _ _ (by omega), h1, Nat.sub_self, List.set_cons_zero, h3, List.append_assoc]
  rfl
theorem processMix_refs (xs : List Process) (k : Nat) : refsRows (processMix xs k) = [] := by
  rw [processMix, refsRows_app, closed_refsRows _ (processsT_closed _), refs_repl rfl]; rfl
theorem processMix_ren (f : Nat → Nat) (xs : List Process) (k : Nat) : renRows f (processMix xs k) = processMix xs k := by
  rw [processMix, renRows_app, closed_renRows f _ (processsT_closed _), ren_repl rfl]
attribute [go_sem] processMix_refs processMix_ren
theorem toProcessS_ok (xs : List Process) (hs : xs.length ≤ 1048576 ∧ ∀ y ∈ xs, smProcess y) : CallOk Tryz.prog 58 [.one (.ro 4 (processsD xs))] (.s (.one (.own 4 (processsT xs)))) [none] := by
  obtain ⟨hs, hs1⟩ := hs
  have hz := processMix_zero xs
  refine callOk_of_hcall 40 (hcall_of_body Tryz.func58 rfl (by kernel_rfl) ?_)
  simp (disch := omega) only [go_sem, Tryz.ntmps58, Tryz.results58]
  refine wkc ?_
  refine i_loop (α := {k : Nat // k ≤ xs.length}) (fun k => ⟨mkEnv 23 [(0, .one (.ro 4 (processsD xs))), (3, .one (.ref 0 0 xs.length)), (4, .one (iV k.1))], [.live 4 (processMix xs k.1)]⟩) (fun k => xs.length - k.1) ⟨0, by omega⟩ ?_ ?_
  · (refine weak_canon [0, 3, 4] [0] ?_ ?_ ?_ <;> (simp (disch := omega) only [go_sem, ← hz]; done))
  rintro ⟨k, hk⟩
  have hml := processMix_len hk
  simp (disch := omega) only [go_sem]
  by_cases hkl : k < xs.length
  · have hg := processMix_get hkl
    have e := processMix_set hkl
    have hsk := hs1 (xs.getD k processZ) (by simp [hkl])
    have x1 := toProcess_ok (xs.getD k processZ) hsk
    refine wkc ?_
    refine ⟨⟨k + 1, by omega⟩, weak_fit2 40 0 k 4 _ _ (processT (xs.getD k processZ)) rfl (List.getElem?_set_self (by rw [hml]; exact hkl)) ?_ rfl ?_, by simp only; omega⟩
    · simp (disch := omega) only [go_sem, natLe_ok]
    · have e2 : (processMix xs k).set k [sV (xs.getD k processZ).name, .own 1 (strsT (xs.getD k processZ).uses), .own 1 (strsT (xs.getD k processZ).vars), iV (xs.getD k processZ).body] = processMix xs (k + 1) := e
      simp (disch := omega) only [go_sem, natLe_ok, List.set_set, e2]
      (refine weak_canon [0, 3, 4] [0] ?_ ?_ ?_ <;> (simp (disch := omega) only [go_sem, e2]; done))
  ·
    repeat' (first | (with_reducible first | refine i_seq ?_) | ((first | (with_reducible first | refine i_block ?_ | refine i_regionQ (fun Q' hQ => ?_) | (refine Imp.go hQ ?_; clear hQ)) | ((with_reducible refine i_condT ?_ ?_); (focus (simp only [go_sem, *]; done))) | ((with_reducible refine i_condF ?_ ?_); (focus (simp only [go_sem, *]; done))) | ((with_reducible first | refine resOk_g (fun h => ?_) (fun h => ?_) | refine i_cond (by simp only [go_sem, *] <;> rfl) (fun h => ?_) (fun h => ?_)) <;> (try simp only [Bool.not_eq_eq_eq_not, Bool.not_true, Bool.not_false, reduceCtorEq] at h) <;> (try have h' := of_decide_eq_true h) <;> (try (have hz : (_ : Int) = (_ : Int) := h'; clear hz h')) <;> (try have h' := of_decide_eq_false h) <;> (try have h' := inB_t h) <;> (try (exfalso; omega)))) <;> (try simp (disch := omega) only [go_sem, *])))
    all_goals (try simp (disch := omega) only [EndK, go_sem, natLe_ok, *])
    all_goals rw [processMix_end (by omega)]
    all_goals (try simp (disch := omega) only [go_sem, natLe_ok])
theorem eqProcessS_ok (xs : List Process) (hs : xs.length ≤ 68719476736 ∧ ∀ y ∈ xs, mdProcess y) : CallOk Tryz.prog 37 [.one (.ro 4 (processsD xs)), .one (.ro 4 (processsD xs))] (.s (.one (bV true))) [none, none] := by
  obtain ⟨hs, hs1⟩ := hs
  refine callOk_of_hcall 40 (hcall_of_body Tryz.func37 rfl (by kernel_rfl) ?_)
  simp (disch := omega) only [go_sem, Tryz.ntmps37, Tryz.results37]
  have x1 : HT 6 (.fr [0, 1, 2, 3, 4, 5, 6, 7] (.op [8] (.fr [9] (.stop)))) := ⟨⟩
  refine wkc ?_
  refine i_loop (α := {k : Nat // k ≤ xs.length}) (fun k => ⟨mkEnv 27 [(0, .one (.ro 4 (processsD xs))), (1, .one (.ro 4 (processsD xs))), (5, .one (iV k.1))], []⟩) (fun k => xs.length - k.1) ⟨0, by omega⟩ ?_ ?_
  · (refine weak_canon [0, 1, 5] [] ?_ ?_ ?_ <;> (simp (disch := omega) only [go_sem]; done))
  rintro ⟨k, hk⟩
  simp (disch := omega) only [go_sem]
  by_cases hkl : k < xs.length
  · have hsk := hs1 (xs.getD k processZ) (by simp [hkl])
    have x1 : HT 6 (.fr [0, 1, 2, 3, 4, 5, 6, 7] (.op [8] (.fr [9] (.stop)))) := ⟨⟩
    have x2 := eqProcess_ok (xs.getD k processZ) hsk
    refine wkc ?_
    refine ⟨⟨k + 1, by omega⟩, ?_, by simp only; omega⟩
    (refine weak_canon [0, 1, 5] [] ?_ ?_ ?_ <;> (simp (disch := omega) only [go_sem]; done))
  ·
    have x1 : HT 6 (.fr [0, 1, 2, 3, 4, 5, 6, 7] (.op [8] (.fr [9] (.stop)))) := ⟨⟩
    exact wk
end Go.Proofs.YtejnpiielcbkkaaGreat.E
end
section
set_option maxRecDepth 100000
set_option maxHeartbeats 4000000
namespace Go.Proofs.YtejnpiielcbkkaaGreat.E
theorem ti36 : ti Tryz.prog 36 = some ⟨.st [(0, 1, false), (1, 1, false), (2, 1, false)], 3, 72, true, [.slice none 0 0, .slice none 0 0, .slice none 0 0]⟩ := by kernel_rfl
theorem ni36 : notInt Tryz.prog 36 = true := by kernel_rfl
theorem ti26 : ti Tryz.prog 26 = some ⟨.st [(0, 1, false), (1, 1, false), (2, 1, false)], 3, 72, true, [.slice none 0 0, .slice none 0 0, .slice none 0 0]⟩ := by kernel_rfl
theorem ni26 : notInt Tryz.prog 26 = true := by kernel_rfl
attribute [go_sem] ti36 ni36 ti26 ni26
structure Prgm where
  nodes : List Node
  monitors : List Monitor
  processes : List Process
def programT (x : Prgm) : List T := [.own 6 (nodesT x.nodes), .own 4 (monitorsT x.monitors), .own 4 (processsT x.processes)]
def programR (x : Prgm) : List T := [.ro 6 (nodesD x.nodes), .ro 4 (monitorsD x.monitors), .ro 4 (processsD x.processes)]
attribute [go_sem] programT programR
def programD (x : Prgm) : List D := [.l 6 (nodesD x.nodes), .l 4 (monitorsD x.monitors), .l 4 (processsD x.processes)]
attribute [go_sem] programD
def programZ : Prgm := ⟨[], [], []⟩
def smProgram (x : Prgm) : Prop := (x.nodes.length ≤ 1048576 ∧ ∀ y ∈ x.nodes, smNode y) ∧ (x.monitors.length ≤ 1048576 ∧ ∀ y ∈ x.monitors, smMonitor y) ∧ (x.processes.length ≤ 1048576 ∧ ∀ y ∈ x.processes, smProcess y)
def bgProgram (x : Prgm) : Prop := (x.nodes.length ≤ 9223372036854775807 ∧ ∀ y ∈ x.nodes, bgNode y) ∧ (x.monitors.length ≤ 9223372036854775807 ∧ ∀ y ∈ x.monitors, bgMonitor y) ∧ (x.processes.length ≤ 9223372036854775807 ∧ ∀ y ∈ x.processes, bgProcess y)
def mdProgram (x : Prgm) : Prop := (x.nodes.length ≤ 68719476736 ∧ ∀ y ∈ x.nodes, mdNode y) ∧ (x.monitors.length ≤ 68719476736 ∧ ∀ y ∈ x.monitors, mdMonitor y) ∧ (x.processes.length ≤ 68719476736 ∧ ∀ y ∈ x.processes, mdProcess y)
theorem sm_mdProgram {x : Prgm} (h : smProgram x) : mdProgram x := ⟨⟨Nat.le_trans h.1.1 (by omega), fun y hy => sm_mdNode (h.1.2 y hy)⟩, ⟨Nat.le_trans h.2.1.1 (by omega), fun y hy => sm_mdMonitor (h.2.1.2 y hy)⟩, ⟨Nat.le_trans h.2.2.1 (by omega), fun y hy => sm_mdProcess (h.2.2.2 y hy)⟩⟩
theorem szProgram_ok (x : Prgm) (left : Int) (h : 0 ≤ left ∧ left ≤ 1048576) (hb : bgProgram x) : CallE Tryz.prog 10 [.agg (programR x), .one (iV left)] (fun r : Int => .s (.one (iV r))) (fun _ => [none, none]) (fun r => -1 ≤ r ∧ r ≤ left ∧ (0 ≤ r → smProgram x)) := by
  obtain ⟨hb0, hb1, hb2⟩ := hb
  refine callE_of_hcall 40 (hcall_of_body Tryz.func10 rfl (by kernel_rfl) ?_)
  simp (disch := omega) only [go_sem, Tryz.ntmps10, Tryz.results10]
  repeat' (first | (with_reducible first | refine i_seq ?_) | ((first | (with_reducible first | refine i_block ?_ | refine i_regionQ (fun Q' hQ => ?_) | (refine Imp.go hQ ?_; clear hQ)) | ((with_reducible refine i_condT ?_ ?_); (focus (simp only [go_sem, *]; done))) | ((with_reducible refine i_condF ?_ ?_); (focus (simp only [go_sem, *]; done))) | ((with_reducible first | refine resOk_g (fun h => ?_) (fun h => ?_) | refine i_cond (by simp only [go_sem, *] <;> rfl) (fun h => ?_) (fun h => ?_)) <;> (try simp only [Bool.not_eq_eq_eq_not, Bool.not_true, Bool.not_false, reduceCtorEq] at h) <;> (try have h' := of_decide_eq_true h) <;> (try (have hz : (_ : Int) = (_ : Int) := h'; clear hz h')) <;> (try have h' := of_decide_eq_false h) <;> (try have h' := inB_t h) <;> (try (exfalso; omega))) | ((with_reducible refine hcall_of_callE 40 true (szNodeS_ok x.nodes left (by omega) hb0) ?_ ?_ ?_ ?_ ?_); (focus (simp (disch := omega) only [go_sem, natLe_ok]; done)); (focus (simp (disch := omega) only [go_sem, natLe_ok]; done)); (focus (rintro r0 ⟨ha0, hc0, hd0⟩; (try dsimp only at ha0); (try dsimp only at hc0); (try dsimp only at hd0); (try simp (disch := omega) only [go_sem, natLe_ok]); done)); (focus (rintro r0 ⟨ha0, hc0, hd0⟩; (try dsimp only at ha0); (try dsimp only at hc0); (try dsimp only at hd0); (try simp (disch := omega) only [go_sem, natLe_ok]); done)); rintro r0 ⟨ha0, hc0, hd0⟩; (try dsimp only at ha0); (try dsimp only at hc0); (try dsimp only at hd0); simp only [go_sem]; refine aL_run ?_) | ((with_reducible refine hcall_of_callE 40 true (szMonitorS_ok x.monitors r0 (by omega) hb1) ?_ ?_ ?_ ?_ ?_); (focus (simp (disch := omega) only [go_sem, natLe_ok]; done)); (focus (simp (disch := omega) only [go_sem, natLe_ok]; done)); (focus (rintro r1 ⟨ha1, hc1, hd1⟩; (try dsimp only at ha1); (try dsimp only at hc1); (try dsimp only at hd1); (try simp (disch := omega) only [go_sem, natLe_ok]); done)); (focus (rintro r1 ⟨ha1, hc1, hd1⟩; (try dsimp only at ha1); (try dsimp only at hc1); (try dsimp only at hd1); (try simp (disch := omega) only [go_sem, natLe_ok]); done)); rintro r1 ⟨ha1, hc1, hd1⟩; (try dsimp only at ha1); (try dsimp only at hc1); (try dsimp only at hd1); simp only [go_sem]; refine aL_run ?_) | ((with_reducible refine hcall_of_callE 40 true (szProcessS_ok x.processes r1 (by omega) hb2) ?_ ?_ ?_ ?_ ?_); (focus (simp (disch := omega) only [go_sem, natLe_ok]; done)); (focus (simp (disch := omega) only [go_sem, natLe_ok]; done)); (focus (rintro r2 ⟨ha2, hc2, hd2⟩; (try dsimp only at ha2); (try dsimp only at hc2); (try dsimp only at hd2); (try simp (disch := omega) only [go_sem, natLe_ok]); done)); (focus (rintro r2 ⟨ha2, hc2, hd2⟩; (try dsimp only at ha2); (try dsimp only at hc2); (try dsimp only at hd2); (try simp (disch := omega) only [go_sem, natLe_ok]); done)); rintro r2 ⟨ha2, hc2, hd2⟩; (try dsimp only at ha2); (try dsimp only at hc2); (try dsimp only at hd2); simp only [go_sem]; refine aL_run ?_)) <;> (try simp (disch := omega) only [go_sem, *])))
  all_goals (try simp (disch := omega) only [EndK, go_sem, natLe_ok, *])
  all_goals first
    | exact ⟨-1, ⟨by omega, by omega, fun h => by first | trivial | (exfalso; omega)⟩, rfl⟩
    | exact ⟨r2, ⟨by omega, by omega, fun h => by first | trivial | exact ⟨hd0 (by omega), hd1 (by omega), hd2 (by omega)⟩⟩, rfl⟩
theorem toProgram_ok (x : Prgm) (hs : smProgram x) : CallOk Tryz.prog 13 [.agg (programR x)] (.s (.agg (programT x))) [none] := by
  obtain ⟨hs0, hs1, hs2⟩ := hs
  refine callOk_of_hcall 40 (hcall_of_body Tryz.func13 rfl (by kernel_rfl) ?_)
  simp (disch := omega) only [go_sem, Tryz.ntmps13, Tryz.results13]
  have x1 := toNodeS_ok x.nodes hs0
  have x2 := toMonitorS_ok x.monitors hs1
  have x3 := toProcessS_ok x.processes hs2
  exact wk
theorem eqProgram_ok (x : Prgm) (hs : mdProgram x) : CallOk Tryz.prog 7 [.agg (programR x), .agg (programR x)] (.s (.one (bV true))) [none, none] := by
  obtain ⟨hs0, hs1, hs2⟩ := hs
  refine callOk_of_hcall 40 (hcall_of_body Tryz.func7 rfl (by kernel_rfl) ?_)
  simp (disch := omega) only [go_sem, Tryz.ntmps7, Tryz.results7]
  have x1 := @seq_self
  have x2 := @Bool.not_true
  have x3 := eqNodeS_ok x.nodes hs0
  have x4 := eqMonitorS_ok x.monitors hs1
  have x5 := eqProcessS_ok x.processes hs2
  exact wk
end Go.Proofs.YtejnpiielcbkkaaGreat.E
end
section
set_option maxRecDepth 100000
set_option maxHeartbeats 4000000
namespace Go.Proofs.YtejnpiielcbkkaaGreat.E
theorem oStrs : OpD Tryz.prog 74 (fun xs : List ByteArray => [D.l 1 (strsD xs)]) (fun xs => xs.length ≤ maxLen ∧ ∀ x ∈ xs, x.size ≤ maxLen) :=
  OpD.slice 1 Tryz.underlying74 (by kernel_rfl) (Nat.le_refl _) (OpD.string Tryz.underlying9) (fun _ => rfl)
def wfNode (x : Node) : Prop := (Lit.int .i64 x.kind).wf = true ∧ (Lit.int .i64 x.num).wf = true ∧ x.name.size ≤ maxLen ∧ x.more.size ≤ maxLen ∧ x.to.size ≤ maxLen ∧ (x.kids.length ≤ maxLen ∧ ∀ z ∈ x.kids, (Lit.int .i64 z).wf = true)
theorem oNode : OpD Tryz.prog 157 nodeD wfNode := by
  refine OpD.struct (fun y : Int × Int × ByteArray × ByteArray × ByteArray × (List Int) => ⟨y.1, y.2.1, y.2.2.1, y.2.2.2.1, y.2.2.2.2.1, y.2.2.2.2.2⟩) Tryz.underlying157 (f2 := fun y => [.v (.int .i64 y.1)] ++ ([.v (.int .i64 y.2.1)] ++ ([.v (.string y.2.2.1)] ++ ([.v (.string y.2.2.2.1)] ++ ([.v (.string y.2.2.2.2.1)] ++ ([D.l 1 (intsD y.2.2.2.2.2)])))))) (Q2 := fun y => (Lit.int .i64 y.1).wf = true ∧ (Lit.int .i64 y.2.1).wf = true ∧ y.2.2.1.size ≤ maxLen ∧ y.2.2.2.1.size ≤ maxLen ∧ y.2.2.2.2.1.size ≤ maxLen ∧ (y.2.2.2.2.2.length ≤ maxLen ∧ ∀ z ∈ y.2.2.2.2.2, (Lit.int .i64 z).wf = true)) (fun y => rfl) (fun y => by kernel_rfl) ?_ ?_
  · exact OpDs.consT 1 (OpD.int Tryz.underlying3) (fun y => rfl) (by decide) (OpDs.consT 1 (OpD.int Tryz.underlying3) (fun y => rfl) (by decide) (OpDs.consT 1 (OpD.string Tryz.underlying9) (fun y => rfl) (by decide) (OpDs.consT 1 (OpD.string Tryz.underlying9) (fun y => rfl) (by decide) (OpDs.consT 1 (OpD.string Tryz.underlying9) (fun y => rfl) (by decide) (OpDs.oneT oInts (fun y => by first | exact Nat.le_refl _ | decide) rfl rfl) rfl rfl) rfl rfl) rfl rfl) rfl rfl) rfl rfl
  · intro y h; exact h
theorem oNodes : OpD Tryz.prog 32 (fun xs : List Node => [D.l 6 (nodesD xs)]) (fun xs => xs.length ≤ maxLen ∧ ∀ x ∈ xs, wfNode x) :=
  OpD.slice 6 Tryz.underlying32 (by kernel_rfl) (by decide) oNode (fun _ => rfl)
def wfEntry (x : Entry) : Prop := x.name.size ≤ maxLen ∧ x.param.size ≤ maxLen ∧ (Lit.int .i64 x.body).wf = true
theorem oEntry : OpD Tryz.prog 246 entryD wfEntry := by
  refine OpD.struct (fun y : ByteArray × ByteArray × Int => ⟨y.1, y.2.1, y.2.2⟩) Tryz.underlying246 (f2 := fun y => [.v (.string y.1)] ++ ([.v (.string y.2.1)] ++ ([.v (.int .i64 y.2.2)]))) (Q2 := fun y => y.1.size ≤ maxLen ∧ y.2.1.size ≤ maxLen ∧ (Lit.int .i64 y.2.2).wf = true) (fun y => rfl) (fun y => by kernel_rfl) ?_ ?_
  · exact OpDs.consT 1 (OpD.string Tryz.underlying9) (fun y => rfl) (by decide) (OpDs.consT 1 (OpD.string Tryz.underlying9) (fun y => rfl) (by decide) (OpDs.oneT (OpD.int Tryz.underlying3) (fun y => by first | exact Nat.le_refl _ | decide) rfl rfl) rfl rfl) rfl rfl
  · intro y h; exact h
theorem oEntrys : OpD Tryz.prog 159 (fun xs : List Entry => [D.l 3 (entrysD xs)]) (fun xs => xs.length ≤ maxLen ∧ ∀ x ∈ xs, wfEntry x) :=
  OpD.slice 3 Tryz.underlying159 (by kernel_rfl) (by decide) oEntry (fun _ => rfl)
def wfMonitor (x : Monitor) : Prop := x.name.size ≤ maxLen ∧ (x.vars.length ≤ maxLen ∧ ∀ z ∈ x.vars, z.size ≤ maxLen) ∧ (x.queues.length ≤ maxLen ∧ ∀ z ∈ x.queues, z.size ≤ maxLen) ∧ (x.entries.length ≤ maxLen ∧ ∀ z ∈ x.entries, wfEntry z)
theorem oMonitor : OpD Tryz.prog 161 monitorD wfMonitor := by
  refine OpD.struct (fun y : ByteArray × (List ByteArray) × (List ByteArray) × (List Entry) => ⟨y.1, y.2.1, y.2.2.1, y.2.2.2⟩) Tryz.underlying161 (f2 := fun y => [.v (.string y.1)] ++ ([D.l 1 (strsD y.2.1)] ++ ([D.l 1 (strsD y.2.2.1)] ++ ([D.l 3 (entrysD y.2.2.2)])))) (Q2 := fun y => y.1.size ≤ maxLen ∧ (y.2.1.length ≤ maxLen ∧ ∀ z ∈ y.2.1, z.size ≤ maxLen) ∧ (y.2.2.1.length ≤ maxLen ∧ ∀ z ∈ y.2.2.1, z.size ≤ maxLen) ∧ (y.2.2.2.length ≤ maxLen ∧ ∀ z ∈ y.2.2.2, wfEntry z)) (fun y => rfl) (fun y => by kernel_rfl) ?_ ?_
  · exact OpDs.consT 1 (OpD.string Tryz.underlying9) (fun y => rfl) (by decide) (OpDs.consT 1 oStrs (fun y => rfl) (by decide) (OpDs.consT 1 oStrs (fun y => rfl) (by decide) (OpDs.oneT oEntrys (fun y => by first | exact Nat.le_refl _ | decide) rfl rfl) rfl rfl) rfl rfl) rfl rfl
  · intro y h; exact h
theorem oMonitors : OpD Tryz.prog 33 (fun xs : List Monitor => [D.l 4 (monitorsD xs)]) (fun xs => xs.length ≤ maxLen ∧ ∀ x ∈ xs, wfMonitor x) :=
  OpD.slice 4 Tryz.underlying33 (by kernel_rfl) (by decide) oMonitor (fun _ => rfl)
def wfProcess (x : Process) : Prop := x.name.size ≤ maxLen ∧ (x.uses.length ≤ maxLen ∧ ∀ z ∈ x.uses, z.size ≤ maxLen) ∧ (x.vars.length ≤ maxLen ∧ ∀ z ∈ x.vars, z.size ≤ maxLen) ∧ (Lit.int .i64 x.body).wf = true
theorem oProcess : OpD Tryz.prog 163 processD wfProcess := by
  refine OpD.struct (fun y : ByteArray × (List ByteArray) × (List ByteArray) × Int => ⟨y.1, y.2.1, y.2.2.1, y.2.2.2⟩) Tryz.underlying163 (f2 := fun y => [.v (.string y.1)] ++ ([D.l 1 (strsD y.2.1)] ++ ([D.l 1 (strsD y.2.2.1)] ++ ([.v (.int .i64 y.2.2.2)])))) (Q2 := fun y => y.1.size ≤ maxLen ∧ (y.2.1.length ≤ maxLen ∧ ∀ z ∈ y.2.1, z.size ≤ maxLen) ∧ (y.2.2.1.length ≤ maxLen ∧ ∀ z ∈ y.2.2.1, z.size ≤ maxLen) ∧ (Lit.int .i64 y.2.2.2).wf = true) (fun y => rfl) (fun y => by kernel_rfl) ?_ ?_
  · exact OpDs.consT 1 (OpD.string Tryz.underlying9) (fun y => rfl) (by decide) (OpDs.consT 1 oStrs (fun y => rfl) (by decide) (OpDs.consT 1 oStrs (fun y => rfl) (by decide) (OpDs.oneT (OpD.int Tryz.underlying3) (fun y => by first | exact Nat.le_refl _ | decide) rfl rfl) rfl rfl) rfl rfl) rfl rfl
  · intro y h; exact h
theorem oProcesss : OpD Tryz.prog 34 (fun xs : List Process => [D.l 4 (processsD xs)]) (fun xs => xs.length ≤ maxLen ∧ ∀ x ∈ xs, wfProcess x) :=
  OpD.slice 4 Tryz.underlying34 (by kernel_rfl) (by decide) oProcess (fun _ => rfl)
def wfProgram (x : Prgm) : Prop := (x.nodes.length ≤ maxLen ∧ ∀ z ∈ x.nodes, wfNode z) ∧ (x.monitors.length ≤ maxLen ∧ ∀ z ∈ x.monitors, wfMonitor z) ∧ (x.processes.length ≤ maxLen ∧ ∀ z ∈ x.processes, wfProcess z)
theorem oProgram : OpD Tryz.prog 36 programD wfProgram := by
  refine OpD.struct (fun y : (List Node) × (List Monitor) × (List Process) => ⟨y.1, y.2.1, y.2.2⟩) Tryz.underlying36 (f2 := fun y => [D.l 6 (nodesD y.1)] ++ ([D.l 4 (monitorsD y.2.1)] ++ ([D.l 4 (processsD y.2.2)]))) (Q2 := fun y => (y.1.length ≤ maxLen ∧ ∀ z ∈ y.1, wfNode z) ∧ (y.2.1.length ≤ maxLen ∧ ∀ z ∈ y.2.1, wfMonitor z) ∧ (y.2.2.length ≤ maxLen ∧ ∀ z ∈ y.2.2, wfProcess z)) (fun y => rfl) (fun y => by kernel_rfl) ?_ ?_
  · exact OpDs.consT 1 oNodes (fun y => rfl) (by decide) (OpDs.consT 1 oMonitors (fun y => rfl) (by decide) (OpDs.oneT oProcesss (fun y => by first | exact Nat.le_refl _ | decide) rfl rfl) rfl rfl) rfl rfl
  · intro y h; exact h
theorem wfNode_bg {x : Node} (h : wfNode x) : bgNode x := ⟨h.2.2.1, h.2.2.2.1, h.2.2.2.2.1, h.2.2.2.2.2.1⟩
theorem wfEntry_bg {x : Entry} (h : wfEntry x) : bgEntry x := ⟨h.1, h.2.1⟩
theorem wfMonitor_bg {x : Monitor} (h : wfMonitor x) : bgMonitor x := ⟨h.1, h.2.1, h.2.2.1, ⟨h.2.2.2.1, fun y hy => wfEntry_bg (h.2.2.2.2 y hy)⟩⟩
theorem wfProcess_bg {x : Process} (h : wfProcess x) : bgProcess x := ⟨h.1, h.2.1, h.2.2.1⟩
theorem wfProgram_bg {x : Prgm} (h : wfProgram x) : bgProgram x := ⟨⟨h.1.1, fun y hy => wfNode_bg (h.1.2 y hy)⟩, ⟨h.2.1.1, fun y hy => wfMonitor_bg (h.2.1.2 y hy)⟩, ⟨h.2.2.1, fun y hy => wfProcess_bg (h.2.2.2 y hy)⟩⟩
end Go.Proofs.YtejnpiielcbkkaaGreat.E
end
