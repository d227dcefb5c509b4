/- A part of what stands under the laws of this seat: an abstract evaluator that is proved sound, and contracts of functions by it. No condition beside those that stand in each statement. -/
import Derived.Test.YtejnpiielcbkkaaGreatZA1
set_option linter.unusedVariables false
set_option linter.unusedSimpArgs false
section
set_option maxRecDepth 100000
set_option maxHeartbeats 4000000
namespace Go.Proofs.YtejnpiielcbkkaaGreat.E
theorem ti74 : ti Tryz.prog 74 = some ⟨.sl 9, 1, 24, false, [.slice none 0 0]⟩ := by kernel_rfl
theorem ni74 : notInt Tryz.prog 74 = true := by kernel_rfl
theorem ti9 : ti Tryz.prog 9 = some ⟨.str, 1, 16, false, [.string { data := { toList := [] } }]⟩ := by kernel_rfl
theorem ni9 : notInt Tryz.prog 9 = true := by kernel_rfl
attribute [go_sem] ti74 ni74 ti9 ni9
/-! ### Lists of texts -/
theorem seq_self (x : ByteArray) : seq x x = true := by simp [seq]
theorem size_app (a b : ByteArray) : (a ++ b).size = a.size + b.size := ByteArray.size_append
theorem size_mk (x : Array UInt8) : (ByteArray.mk x).size = x.size := rfl
instance : Inhabited ByteArray := ⟨ByteArray.empty⟩
theorem strsT_nil : strsT [] = [] := rfl
theorem strsT_len (xs : List ByteArray) : (strsT xs).length = xs.length := by simp [strsT]
theorem strsD_len (xs : List ByteArray) : (strsD xs).length = xs.length := by simp [strsD]
theorem strsD_ofD (xs : List ByteArray) : (strsD xs).map (·.map ofD) = strsT xs := by rw [strsD, List.map_map]; rfl
theorem strsT_take (xs : List ByteArray) (n : Nat) : (strsT xs).take n = strsT (xs.take n) := by simp [strsT, List.map_take]
theorem strsD_take (xs : List ByteArray) (n : Nat) : (strsD xs).take n = strsD (xs.take n) := by simp [strsD, List.map_take]
theorem strsT_get {xs : List ByteArray} {k : Nat} (h : k < xs.length) : (strsT xs)[k]? = some [T.v (.string (xs.getD k ByteArray.empty))] := by simp [strsT, h]
theorem strsD_get {xs : List ByteArray} {k : Nat} (h : k < xs.length) : (strsD xs)[k]? = some [D.v (.string (xs.getD k ByteArray.empty))] := by simp [strsD, h]
theorem strsT_set (xs : List ByteArray) (k : Nat) (b : ByteArray) : (strsT xs).set k [T.v (.string b)] = strsT (xs.set k b) := by simp [strsT, List.map_set]
theorem strsT_closed (xs : List ByteArray) : closedRows (strsT xs) = true := closed_map (fun _ => rfl) xs
theorem strsT_noRo (xs : List ByteArray) : noRoRows (strsT xs) = true := noRo_map (fun _ => rfl) xs
theorem strsT_flat (xs : List ByteArray) : flat (strsT xs) = true := flat_map (fun _ => rfl) xs
theorem strsT_look {n : Nat} {H : List AObj} (xs : List ByteArray) : lookRowsBy (lookD (n + 1) H) (strsT xs) (strsD xs) := lookRowsBy_map fun x _ => ⟨rfl, trivial⟩
theorem strsT_app (xs ys : List ByteArray) : strsT xs ++ strsT ys = strsT (xs ++ ys) := by simp [strsT]
theorem strsT_app1 (xs : List ByteArray) (b : ByteArray) : strsT xs ++ [[T.v (.string b)]] = strsT (xs ++ [b]) := by simp [strsT]
attribute [go_sem] strsT_nil strsT_len strsD_len strsD_ofD strsT_take strsD_take strsT_get strsD_get strsT_set strsT_closed strsT_noRo strsT_flat strsT_look strsT_app strsT_app1
theorem szStringS_ok (xs : List ByteArray) (left : Int) (h : 0 ≤ left ∧ left ≤ 1048576) (hb : xs.length ≤ 9223372036854775807 ∧ ∀ y ∈ xs, ByteArray.size y ≤ 9223372036854775807) : CallE Tryz.prog 182 [.one (.ro 1 (strsD xs)), .one (iV left)] (fun r : Int => .s (.one (iV r))) (fun _ => [none, none]) (fun r => -1 ≤ r ∧ r ≤ left ∧ (0 ≤ r → xs.length ≤ 1048576 ∧ ∀ y ∈ xs, ByteArray.size y ≤ 1048576)) := by
  obtain ⟨h1, h2⟩ := h
  obtain ⟨hb0, hb1⟩ := hb
  refine callE_of_hcall 40 (hcall_of_body Tryz.func182 rfl (by kernel_rfl) ?_)
  simp (disch := omega) only [go_sem, Tryz.ntmps182, Tryz.results182]
  repeat' (first | (with_reducible first | refine i_seq ?_) | ((first | (with_reducible first | refine i_block ?_ | refine i_regionQ (fun Q' hQ => ?_) | (refine Imp.go hQ ?_; clear hQ)) | ((with_reducible refine i_condT ?_ ?_); (focus (simp only [go_sem, *]; done))) | ((with_reducible refine i_condF ?_ ?_); (focus (simp only [go_sem, *]; done))) | ((with_reducible first | refine resOk_g (fun h => ?_) (fun h => ?_) | refine i_cond (by simp only [go_sem, *] <;> rfl) (fun h => ?_) (fun h => ?_)) <;> (try simp only [Bool.not_eq_eq_eq_not, Bool.not_true, Bool.not_false, reduceCtorEq] at h) <;> (try have h' := of_decide_eq_true h) <;> (try (have hz : (_ : Int) = (_ : Int) := h'; clear hz h')) <;> (try have h' := of_decide_eq_false h) <;> (try have h' := inB_t h) <;> (try (exfalso; omega)))) <;> (try simp (disch := omega) only [go_sem, *])))
  all_goals (try simp (disch := omega) only [EndK, go_sem, natLe_ok, *])
  · exact ⟨-1, ⟨by omega, by omega, fun h => by first | trivial | (exfalso; omega)⟩, rfl⟩
  refine i_loop (α := {p : Nat × Int // p.1 ≤ xs.length ∧ 0 ≤ p.2 ∧ p.2 ≤ left ∧ ∀ y ∈ xs.take p.1, ByteArray.size y ≤ 1048576}) (fun p => ⟨mkEnv 28 [(0, .one (.ro 1 (strsD xs))), (1, .one (iV p.1.2)), (5, .one (iV p.1.1))], []⟩) (fun p => xs.length - p.1.1) ⟨(0, left - xs.length), by simp, by simp only; omega, by simp only; omega, by simp⟩ ?_ ?_
  · first | (refine weak_canon [0, 1, 5] [] ?_ ?_ ?_ <;> (simp (disch := omega) only [go_sem]; done)) | trace_state
  rintro ⟨⟨k, lf⟩, hk, hl0, hl1, hp⟩
  simp only at hk hl0 hl1 hp
  simp (disch := omega) only [go_sem]
  by_cases hkl : k < xs.length
  · have hbk := hb1 (xs.getD k ByteArray.empty) (by simp [hkl])
    repeat' (first | (with_reducible first | refine i_seq ?_) | ((first | (with_reducible first | refine i_block ?_ | refine i_regionQ (fun Q' hQ => ?_) | (refine Imp.go hQ ?_; clear hQ)) | ((with_reducible refine i_condT ?_ ?_); (focus (simp only [go_sem, *]; done))) | ((with_reducible refine i_condF ?_ ?_); (focus (simp only [go_sem, *]; done))) | ((with_reducible first | refine resOk_g (fun h => ?_) (fun h => ?_) | refine i_cond (by simp only [go_sem, *] <;> rfl) (fun h => ?_) (fun h => ?_)) <;> (try simp only [Bool.not_eq_eq_eq_not, Bool.not_true, Bool.not_false, reduceCtorEq] at h) <;> (try have h' := of_decide_eq_true h) <;> (try (have hz : (_ : Int) = (_ : Int) := h'; clear hz h')) <;> (try have h' := of_decide_eq_false h) <;> (try have h' := inB_t h) <;> (try (exfalso; omega)))) <;> (try simp (disch := omega) only [go_sem, *])))
    all_goals (try simp (disch := omega) only [EndK, go_sem, natLe_ok, *])
    · exact ⟨-1, ⟨by omega, by omega, fun h => by first | trivial | (exfalso; omega)⟩, rfl⟩
    · refine ⟨⟨(k + 1, lf - ((xs.getD k ByteArray.empty).size : Int)), by simp only; omega, by simp only; omega, by simp only; omega, fun y hy => ?_⟩, ?_, by simp only; omega⟩
      · rw [List.take_succ_eq_append_getElem hkl] at hy
        rcases List.mem_append.1 hy with hy | hy
        · exact hp y hy
        · have e : y = xs.getD k ByteArray.empty := by simpa [hkl] using hy
          rw [e]; omega
      · first | (refine weak_canon [0, 1, 5] [] ?_ ?_ ?_ <;> (simp (disch := omega) only [go_sem]; done)) | trace_state
  ·
    repeat' (first | (with_reducible first | refine i_seq ?_) | ((first | (with_reducible first | refine i_block ?_ | refine i_regionQ (fun Q' hQ => ?_) | (refine Imp.go hQ ?_; clear hQ)) | ((with_reducible refine i_condT ?_ ?_); (focus (simp only [go_sem, *]; done))) | ((with_reducible refine i_condF ?_ ?_); (focus (simp only [go_sem, *]; done))) | ((with_reducible first | refine resOk_g (fun h => ?_) (fun h => ?_) | refine i_cond (by simp only [go_sem, *] <;> rfl) (fun h => ?_) (fun h => ?_)) <;> (try simp only [Bool.not_eq_eq_eq_not, Bool.not_true, Bool.not_false, reduceCtorEq] at h) <;> (try have h' := of_decide_eq_true h) <;> (try (have hz : (_ : Int) = (_ : Int) := h'; clear hz h')) <;> (try have h' := of_decide_eq_false h) <;> (try have h' := inB_t h) <;> (try (exfalso; omega)))) <;> (try simp (disch := omega) only [go_sem, *])))
    all_goals (try simp (disch := omega) only [EndK, go_sem, natLe_ok, *])
    all_goals exact ⟨lf, ⟨by omega, by omega, fun h => by first | exact fun y hy => hp y (by rw [List.take_of_length_le (by omega)]; exact hy) | exact ⟨by omega, fun y hy => hp y (by rw [List.take_of_length_le (by omega)]; exact hy)⟩⟩, rfl⟩
def mixS (xs : List ByteArray) (k : Nat) : List ByteArray := xs.take k ++ List.replicate (xs.length - k) ByteArray.empty
theorem mixS_len {xs : List ByteArray} {k : Nat} (hk : k ≤ xs.length) : (mixS xs k).length = xs.length := by
  simp only [mixS, List.length_append, List.length_take, List.length_replicate]; omega
theorem mixS_zero (xs : List ByteArray) : mixS xs 0 = List.replicate xs.length ByteArray.empty := by simp [mixS]
theorem mixS_end {xs : List ByteArray} {k : Nat} (h : xs.length ≤ k) : mixS xs k = xs := by
  rw [mixS, List.take_of_length_le h, show xs.length - k = 0 by omega]; simp
theorem mixS_set {xs : List ByteArray} {k : Nat} (hk : k < xs.length) : (mixS xs k).set k (xs.getD k ByteArray.empty) = mixS xs (k + 1) := by
  have h1 : (xs.take k).length = k := by rw [List.length_take]; omega
  have h2 : xs.length - k = (xs.length - (k + 1)) + 1 := by omega
  unfold mixS
  rw [h2, List.replicate_succ, List.set_append_right _ _ (by omega), h1, Nat.sub_self, List.set_cons_zero, List.take_succ_eq_append_getElem hk, List.append_assoc]
  simp [hk]
theorem repl_strsT (n : Nat) : List.replicate n [T.v (.string { data := { toList := [] } })] = strsT (List.replicate n ByteArray.empty) := by rw [strsT, List.map_replicate]; rfl
theorem toStringS_ok (xs : List ByteArray) (hs : xs.length ≤ 1048576 ∧ ∀ y ∈ xs, ByteArray.size y ≤ 1048576) : CallOk Tryz.prog 195 [.one (.ro 1 (strsD xs))] (.s (.one (.own 1 (strsT xs)))) [none] := by
  replace hs := hs.1
  have hz := mixS_zero xs
  refine callOk_of_hcall 40 (hcall_of_body Tryz.func195 rfl (by kernel_rfl) ?_)
  simp (disch := omega) only [go_sem, Tryz.ntmps195, Tryz.results195]
  refine wkc ?_
  refine i_loop (α := {k : Nat // k ≤ xs.length}) (fun k => ⟨mkEnv 22 [(0, .one (.ro 1 (strsD xs))), (3, .one (.ref 0 0 xs.length)), (4, .one (iV k.1))], [.live 1 (strsT (mixS xs k.1))]⟩) (fun k => xs.length - k.1) ⟨0, by omega⟩ ?_ ?_
  · (refine weak_canon [0, 3, 4] [0] ?_ ?_ ?_ <;> (simp (disch := omega) only [go_sem, hz, repl_strsT]; done))
  rintro ⟨k, hk⟩
  have hml := mixS_len hk
  simp (disch := omega) only [go_sem]
  repeat' (first | (with_reducible first | refine i_seq ?_) | ((first | (with_reducible first | refine i_block ?_ | refine i_regionQ (fun Q' hQ => ?_) | (refine Imp.go hQ ?_; clear hQ)) | ((with_reducible refine i_condT ?_ ?_); (focus (simp only [go_sem, *]; done))) | ((with_reducible refine i_condF ?_ ?_); (focus (simp only [go_sem, *]; done))) | ((with_reducible first | refine resOk_g (fun h => ?_) (fun h => ?_) | refine i_cond (by simp only [go_sem, *] <;> rfl) (fun h => ?_) (fun h => ?_)) <;> (try simp only [Bool.not_eq_eq_eq_not, Bool.not_true, Bool.not_false, reduceCtorEq] at h) <;> (try have h' := of_decide_eq_true h) <;> (try (have hz : (_ : Int) = (_ : Int) := h'; clear hz h')) <;> (try have h' := of_decide_eq_false h) <;> (try have h' := inB_t h) <;> (try (exfalso; omega)))) <;> (try simp (disch := omega) only [go_sem, *])))
  all_goals (try simp (disch := omega) only [EndK, go_sem, natLe_ok, *])
  all_goals by_cases hkl : k < xs.length
  all_goals (try (exfalso; omega))
  · have e := mixS_set hkl
    refine ⟨⟨k + 1, by omega⟩, ?_, by simp only; omega⟩
    (refine weak_canon [0, 3, 4] [0] ?_ ?_ ?_ <;> (simp (disch := omega) only [go_sem, e]; done))
  all_goals rw [mixS_end (by omega), List.take_length]
theorem eqStringS_ok (xs : List ByteArray) (hs : xs.length ≤ 1099511627776 ∧ ∀ y ∈ xs, ByteArray.size y ≤ 1048576) : CallOk Tryz.prog 180 [.one (.ro 1 (strsD xs)), .one (.ro 1 (strsD xs))] (.s (.one (bV true))) [none, none] := by
  replace hs := hs.1
  refine callOk_of_hcall 40 (hcall_of_body Tryz.func180 rfl (by kernel_rfl) ?_)
  simp (disch := omega) only [go_sem, Tryz.ntmps180, Tryz.results180]
  have x1 := @seq_self
  have x2 := @Bool.not_true
  have x3 : HT 6 (.fr [0, 1, 2, 3, 4, 5, 6, 7, 8] (.stop)) := ⟨⟩
  refine wkc ?_
  refine i_loop (α := {k : Nat // k ≤ xs.length}) (fun k => ⟨mkEnv 26 [(0, .one (.ro 1 (strsD xs))), (1, .one (.ro 1 (strsD xs))), (5, .one (iV k.1))], []⟩) (fun k => xs.length - k.1) ⟨0, by omega⟩ ?_ ?_
  · (refine weak_canon [0, 1, 5] [] ?_ ?_ ?_ <;> (simp (disch := omega) only [go_sem]; done))
  rintro ⟨k, hk⟩
  simp (disch := omega) only [go_sem]
  repeat' (first | (with_reducible first | refine i_seq ?_ | exact tr_none | refine tr_stop ?_ | refine i_treeQ (id := 6) (.fr [0, 1, 2, 3, 4, 5, 6, 7, 8] (.stop)) mixedT (by kernel_rfl) (fun Q' hQ => ?_)) | ((first | (with_reducible first | refine i_block ?_ | refine i_regionQ (fun Q' hQ => ?_) | (refine Imp.go hQ ?_; clear hQ) | refine tr_fr ?_ | refine tr_op (aL_run ?_) | refine tr_alt (by kernel_rfl) (aL_run ?_) ?_ | refine tr_altp ?_ ?_) | ((with_reducible refine i_condT ?_ ?_); (focus (simp only [go_sem, *]; done))) | ((with_reducible refine i_condF ?_ ?_); (focus (simp only [go_sem, *]; done))) | ((with_reducible first | refine resOk_g (fun h => ?_) (fun h => ?_) | refine pG_split (fun h => ?_) (fun h => ?_) | refine i_cond (by simp only [go_sem, *] <;> rfl) (fun h => ?_) (fun h => ?_)) <;> (try simp only [Bool.not_eq_eq_eq_not, Bool.not_true, Bool.not_false, reduceCtorEq] at h) <;> (try have h' := of_decide_eq_true h) <;> (try (have hz : (_ : Int) = (_ : Int) := h'; clear hz h')) <;> (try have h' := of_decide_eq_false h) <;> (try have h' := inB_t h) <;> (try (exfalso; omega)))) <;> (try simp (disch := omega) only [go_sem, bne_self_eq_false, seq_self, Bool.not_true, *])))
  all_goals (try simp (disch := omega) only [EndK, go_sem, bne_self_eq_false, seq_self, Bool.not_true, natLe_ok, *])
  refine ⟨⟨k + 1, by omega⟩, ?_, by simp only; omega⟩
  (refine weak_canon [0, 1, 5] [] ?_ ?_ ?_ <;> (simp (disch := omega) only [go_sem]; done))
end Go.Proofs.YtejnpiielcbkkaaGreat.E
end
section
set_option maxRecDepth 100000
set_option maxHeartbeats 4000000
namespace Go.Proofs.YtejnpiielcbkkaaGreat.E
theorem ti157 : ti Tryz.prog 157 = some ⟨.st [(0, 1, false), (1, 1, false), (2, 1, false), (3, 1, false), (4, 1, false), (5, 1, false)], 6, 88, true, [.int .i64 0, .int .i64 0, .string { data := { toList := [] } }, .string { data := { toList := [] } }, .string { data := { toList := [] } }, .slice none 0 0]⟩ := by kernel_rfl
theorem ni157 : notInt Tryz.prog 157 = true := by kernel_rfl
theorem ti139 : ti Tryz.prog 139 = some ⟨.st [(0, 1, false), (1, 1, false), (2, 1, false), (3, 1, false), (4, 1, false), (5, 1, false)], 6, 88, true, [.int .i64 0, .int .i64 0, .string { data := { toList := [] } }, .string { data := { toList := [] } }, .string { data := { toList := [] } }, .slice none 0 0]⟩ := by kernel_rfl
theorem ni139 : notInt Tryz.prog 139 = true := by kernel_rfl
theorem ti32 : ti Tryz.prog 32 = some ⟨.sl 157, 1, 24, false, [.slice none 0 0]⟩ := by kernel_rfl
theorem ni32 : notInt Tryz.prog 32 = true := by kernel_rfl
theorem ti22 : ti Tryz.prog 22 = some ⟨.sl 139, 1, 24, false, [.slice none 0 0]⟩ := by kernel_rfl
theorem ni22 : notInt Tryz.prog 22 = true := by kernel_rfl
attribute [go_sem] ti157 ni157 ti139 ni139 ti32 ni32 ti22 ni22
structure Node where
  kind : Int
  num : Int
  name : ByteArray
  more : ByteArray
  to : ByteArray
  kids : List Int
def nodeT (x : Node) : List T := [iV x.kind, iV x.num, sV x.name, sV x.more, sV x.to, .own 1 (intsT x.kids)]
def nodeR (x : Node) : List T := [iV x.kind, iV x.num, sV x.name, sV x.more, sV x.to, .ro 1 (intsD x.kids)]
attribute [go_sem] nodeT nodeR
def nodeD (x : Node) : List D := [D.v (.int .i64 x.kind), D.v (.int .i64 x.num), D.v (.string x.name), D.v (.string x.more), D.v (.string x.to), .l 1 (intsD x.kids)]
attribute [go_sem] nodeD
def nodeZ : Node := ⟨0, 0, ByteArray.empty, ByteArray.empty, ByteArray.empty, []⟩
def smNode (x : Node) : Prop := x.name.size ≤ 1048576 ∧ x.more.size ≤ 1048576 ∧ x.to.size ≤ 1048576 ∧ x.kids.length ≤ 1048576
def bgNode (x : Node) : Prop := x.name.size ≤ 9223372036854775807 ∧ x.more.size ≤ 9223372036854775807 ∧ x.to.size ≤ 9223372036854775807 ∧ x.kids.length ≤ 9223372036854775807
def mdNode (x : Node) : Prop := x.name.size ≤ 1048576 ∧ x.more.size ≤ 1048576 ∧ x.to.size ≤ 1048576 ∧ x.kids.length ≤ 1099511627776
theorem sm_mdNode {x : Node} (h : smNode x) : mdNode x := ⟨h.1, h.2.1, h.2.2.1, Nat.le_trans h.2.2.2 (by omega)⟩
theorem szNode_ok (x : Node) (left : Int) (h : 0 ≤ left ∧ left ≤ 1048576) (hb : bgNode x) : CallE Tryz.prog 118 [.agg (nodeR x), .one (iV left)] (fun r : Int => .s (.one (iV r))) (fun _ => [none, none]) (fun r => -1 ≤ r ∧ r ≤ left ∧ (0 ≤ r → smNode x)) := by
  obtain ⟨hb0, hb1, hb2, hb3⟩ := hb
  refine callE_of_hcall 40 (hcall_of_body Tryz.func118 rfl (by kernel_rfl) ?_)
  simp (disch := omega) only [go_sem, Tryz.ntmps118, Tryz.results118]
  repeat' (first | (with_reducible first | refine i_seq ?_) | ((first | (with_reducible first | refine i_block ?_ | refine i_regionQ (fun Q' hQ => ?_) | (refine Imp.go hQ ?_; clear hQ)) | ((with_reducible refine i_condT ?_ ?_); (focus (simp only [go_sem, *]; done))) | ((with_reducible refine i_condF ?_ ?_); (focus (simp only [go_sem, *]; done))) | ((with_reducible first | refine resOk_g (fun h => ?_) (fun h => ?_) | refine i_cond (by simp only [go_sem, *] <;> rfl) (fun h => ?_) (fun h => ?_)) <;> (try simp only [Bool.not_eq_eq_eq_not, Bool.not_true, Bool.not_false, reduceCtorEq] at h) <;> (try have h' := of_decide_eq_true h) <;> (try (have hz : (_ : Int) = (_ : Int) := h'; clear hz h')) <;> (try have h' := of_decide_eq_false h) <;> (try have h' := inB_t h) <;> (try (exfalso; omega))) | ((with_reducible refine hcall_of_callE 40 true (szIntS_ok x.kids (((left - (x.name.size : Int)) - (x.more.size : Int)) - (x.to.size : Int)) (by omega) hb3) ?_ ?_ ?_ ?_ ?_); (focus (simp (disch := omega) only [go_sem, natLe_ok]; done)); (focus (simp (disch := omega) only [go_sem, natLe_ok]; done)); (focus (rintro r3 ⟨ha3, hc3, hd3⟩; (try dsimp only at ha3); (try dsimp only at hc3); (try dsimp only at hd3); (try simp (disch := omega) only [go_sem, natLe_ok]); done)); (focus (rintro r3 ⟨ha3, hc3, hd3⟩; (try dsimp only at ha3); (try dsimp only at hc3); (try dsimp only at hd3); (try simp (disch := omega) only [go_sem, natLe_ok]); done)); rintro r3 ⟨ha3, hc3, hd3⟩; (try dsimp only at ha3); (try dsimp only at hc3); (try dsimp only at hd3); simp only [go_sem]; refine aL_run ?_)) <;> (try simp (disch := omega) only [go_sem, *])))
  all_goals (try simp (disch := omega) only [EndK, go_sem, natLe_ok, *])
  all_goals first
    | exact ⟨-1, ⟨by omega, by omega, fun h => by first | trivial | (exfalso; omega)⟩, rfl⟩
    | exact ⟨r3, ⟨by omega, by omega, fun h => by first | trivial | exact ⟨by omega, by omega, by omega, hd3 (by omega)⟩⟩, rfl⟩
theorem toNode_ok (x : Node) (hs : smNode x) : CallOk Tryz.prog 133 [.agg (nodeR x)] (.s (.agg (nodeT x))) [none] := by
  obtain ⟨hs0, hs1, hs2, hs3⟩ := hs
  refine callOk_of_hcall 40 (hcall_of_body Tryz.func133 rfl (by kernel_rfl) ?_)
  simp (disch := omega) only [go_sem, Tryz.ntmps133, Tryz.results133]
  have x1 := toIntS_ok x.kids hs3
  exact wk
theorem eqNode_ok (x : Node) (hs : mdNode x) : CallOk Tryz.prog 110 [.agg (nodeR x), .agg (nodeR x)] (.s (.one (bV true))) [none, none] := by
  obtain ⟨hs0, hs1, hs2, hs3⟩ := hs
  refine callOk_of_hcall 40 (hcall_of_body Tryz.func110 rfl (by kernel_rfl) ?_)
  simp (disch := omega) only [go_sem, Tryz.ntmps110, Tryz.results110]
  have x1 := @seq_self
  have x2 := @Bool.not_true
  have x3 := eqIntS_ok x.kids hs3
  exact wk
/-! Lists of it. -/
instance : Inhabited Node := ⟨nodeZ⟩
def nodesT (xs : List Node) : List (List T) := xs.map nodeT
def nodesD (xs : List Node) : List (List D) := xs.map nodeD
theorem nodesT_nil : nodesT [] = [] := rfl
theorem nodesT_len (xs : List Node) : (nodesT xs).length = xs.length := by simp [nodesT]
theorem nodesD_len (xs : List Node) : (nodesD xs).length = xs.length := by simp [nodesD]
theorem nodesD_get {xs : List Node} {k : Nat} (h : k < xs.length) : (nodesD xs)[k]? = some (nodeD (xs.getD k nodeZ)) := by simp [nodesD, h]
theorem nodesT_get {xs : List Node} {k : Nat} (h : k < xs.length) : (nodesT xs)[k]? = some (nodeT (xs.getD k nodeZ)) := by simp [nodesT, h]
theorem nodesT_take (xs : List Node) (n : Nat) : (nodesT xs).take n = nodesT (xs.take n) := by simp [nodesT, List.map_take]
theorem nodesD_take (xs : List Node) (n : Nat) : (nodesD xs).take n = nodesD (xs.take n) := by simp [nodesD, List.map_take]
theorem nodesD_ofD (xs : List Node) : (nodesD xs).map (·.map ofD) = xs.map nodeR := by rw [nodesD, List.map_map]; rfl
theorem nodesT_closed (xs : List Node) : closedRows (nodesT xs) = true := closed_map (fun x => by simp [nodeT, closedRow, closedT, isNil, intsT_closed]) xs
theorem nodesT_noRo (xs : List Node) : noRoRows (nodesT xs) = true := noRo_map (fun x => by simp [nodeT, noRoRow, noRo, isNil, intsT_noRo]) xs
theorem nodesT_look {n : Nat} {H : List AObj} (xs : List Node) : lookRowsBy (lookD (n + 2) H) (nodesT xs) (nodesD xs) := lookRowsBy_map fun x _ => ⟨rfl, ⟨rfl, ⟨rfl, ⟨rfl, ⟨rfl, ⟨⟨rfl, intsT_look _⟩, trivial⟩⟩⟩⟩⟩⟩
attribute [go_sem] nodesT_nil nodesT_len nodesD_len nodesD_get nodesT_get nodesT_take nodesD_take nodesT_closed nodesT_noRo nodesT_look
theorem szNodeS_ok (xs : List Node) (left : Int) (h : 0 ≤ left ∧ left ≤ 1048576) (hb : xs.length ≤ 9223372036854775807 ∧ ∀ y ∈ xs, bgNode y) : CallE Tryz.prog 44 [.one (.ro 6 (nodesD xs)), .one (iV left)] (fun r : Int => .s (.one (iV r))) (fun _ => [none, none]) (fun r => -1 ≤ r ∧ r ≤ left ∧ (0 ≤ r → xs.length ≤ 1048576 ∧ ∀ y ∈ xs, smNode y)) := by
  obtain ⟨h1, h2⟩ := h
  obtain ⟨hb0, hb1⟩ := hb
  refine callE_of_hcall 40 (hcall_of_body Tryz.func44 rfl (by kernel_rfl) ?_)
  simp (disch := omega) only [go_sem, Tryz.ntmps44, Tryz.results44]
  repeat' (first | (with_reducible first | refine i_seq ?_) | ((first | (with_reducible first | refine i_block ?_ | refine i_regionQ (fun Q' hQ => ?_) | (refine Imp.go hQ ?_; clear hQ)) | ((with_reducible refine i_condT ?_ ?_); (focus (simp only [go_sem, *]; done))) | ((with_reducible refine i_condF ?_ ?_); (focus (simp only [go_sem, *]; done))) | ((with_reducible first | refine resOk_g (fun h => ?_) (fun h => ?_) | refine i_cond (by simp only [go_sem, *] <;> rfl) (fun h => ?_) (fun h => ?_)) <;> (try simp only [Bool.not_eq_eq_eq_not, Bool.not_true, Bool.not_false, reduceCtorEq] at h) <;> (try have h' := of_decide_eq_true h) <;> (try (have hz : (_ : Int) = (_ : Int) := h'; clear hz h')) <;> (try have h' := of_decide_eq_false h) <;> (try have h' := inB_t h) <;> (try (exfalso; omega)))) <;> (try simp (disch := omega) only [go_sem, *])))
  all_goals (try simp (disch := omega) only [EndK, go_sem, natLe_ok, *])
  · exact ⟨-1, ⟨by omega, by omega, fun h => by first | trivial | (exfalso; omega)⟩, rfl⟩
  refine i_loop (α := {p : Nat × Int // p.1 ≤ xs.length ∧ 0 ≤ p.2 ∧ p.2 ≤ left ∧ ∀ y ∈ xs.take p.1, smNode y}) (fun p => ⟨mkEnv 27 [(0, .one (.ro 6 (nodesD xs))), (1, .one (iV p.1.2)), (5, .one (iV p.1.1))], []⟩) (fun p => xs.length - p.1.1) ⟨(0, left - xs.length), by simp, by simp only; omega, by simp only; omega, by simp⟩ ?_ ?_
  · (refine weak_canon [0, 1, 5] [] ?_ ?_ ?_ <;> (simp (disch := omega) only [go_sem]; done))
  rintro ⟨⟨k, lf⟩, hk, hl0, hl1, hp⟩
  simp only at hk hl0 hl1 hp
  simp (disch := omega) only [go_sem]
  by_cases hkl : k < xs.length
  · have hbk := hb1 (xs.getD k nodeZ) (by simp [hkl])
    repeat' (first | (with_reducible first | refine i_seq ?_) | ((first | (with_reducible first | refine i_block ?_ | refine i_regionQ (fun Q' hQ => ?_) | (refine Imp.go hQ ?_; clear hQ)) | ((with_reducible refine i_condT ?_ ?_); (focus (simp only [go_sem, *]; done))) | ((with_reducible refine i_condF ?_ ?_); (focus (simp only [go_sem, *]; done))) | ((with_reducible first | refine resOk_g (fun h => ?_) (fun h => ?_) | refine i_cond (by simp only [go_sem, *] <;> rfl) (fun h => ?_) (fun h => ?_)) <;> (try simp only [Bool.not_eq_eq_eq_not, Bool.not_true, Bool.not_false, reduceCtorEq] at h) <;> (try have h' := of_decide_eq_true h) <;> (try (have hz : (_ : Int) = (_ : Int) := h'; clear hz h')) <;> (try have h' := of_decide_eq_false h) <;> (try have h' := inB_t h) <;> (try (exfalso; omega))) | ((with_reducible refine hcall_of_callE 40 true (szNode_ok (xs.getD k nodeZ) lf (by omega) hbk) ?_ ?_ ?_ ?_ ?_); (focus (simp (disch := omega) only [go_sem, natLe_ok]; done)); (focus (simp (disch := omega) only [go_sem, natLe_ok]; done)); (focus (rintro r ⟨hr1, hr2, hr3⟩; (try dsimp only at hr1); (try dsimp only at hr2); (try dsimp only at hr3); (try simp (disch := omega) only [go_sem, natLe_ok]); done)); (focus (rintro r ⟨hr1, hr2, hr3⟩; (try dsimp only at hr1); (try dsimp only at hr2); (try dsimp only at hr3); (try simp (disch := omega) only [go_sem, natLe_ok]); done)); rintro r ⟨hr1, hr2, hr3⟩; (try dsimp only at hr1); (try dsimp only at hr2); (try dsimp only at hr3); simp only [go_sem]; refine aL_run ?_)) <;> (try simp (disch := omega) only [go_sem, *])))
    all_goals (try simp (disch := omega) only [EndK, go_sem, natLe_ok, *])
    · exact ⟨-1, ⟨by omega, by omega, fun h => by first | trivial | (exfalso; omega)⟩, rfl⟩
    · refine ⟨⟨(k + 1, r), by simp only; omega, by simp only; omega, by simp only; omega, fun y hy => ?_⟩, ?_, by simp only; omega⟩
      · rw [List.take_succ_eq_append_getElem hkl] at hy
        rcases List.mem_append.1 hy with hy | hy
        · exact hp y hy
        · have e : y = xs.getD k nodeZ := by simpa [hkl] using hy
          rw [e]; exact hr3 (by omega)
      · (refine weak_canon [0, 1, 5] [] ?_ ?_ ?_ <;> (simp (disch := omega) only [go_sem]; done))
  ·
    repeat' (first | (with_reducible first | refine i_seq ?_) | ((first | (with_reducible first | refine i_block ?_ | refine i_regionQ (fun Q' hQ => ?_) | (refine Imp.go hQ ?_; clear hQ)) | ((with_reducible refine i_condT ?_ ?_); (focus (simp only [go_sem, *]; done))) | ((with_reducible refine i_condF ?_ ?_); (focus (simp only [go_sem, *]; done))) | ((with_reducible first | refine resOk_g (fun h => ?_) (fun h => ?_) | refine i_cond (by simp only [go_sem, *] <;> rfl) (fun h => ?_) (fun h => ?_)) <;> (try simp only [Bool.not_eq_eq_eq_not, Bool.not_true, Bool.not_false, reduceCtorEq] at h) <;> (try have h' := of_decide_eq_true h) <;> (try (have hz : (_ : Int) = (_ : Int) := h'; clear hz h')) <;> (try have h' := of_decide_eq_false h) <;> (try have h' := inB_t h) <;> (try (exfalso; omega)))) <;> (try simp (disch := omega) only [go_sem, *])))
    all_goals (try simp (disch := omega) only [EndK, go_sem, natLe_ok, *])
    all_goals exact ⟨lf, ⟨by omega, by omega, fun h => by first | exact fun y hy => hp y (by rw [List.take_of_length_le (by omega)]; exact hy) | exact ⟨by omega, fun y hy => hp y (by rw [List.take_of_length_le (by omega)]; exact hy)⟩⟩, rfl⟩
def nodeMix (xs : List Node) (k : Nat) : List (List T) := nodesT (xs.take k) ++ List.replicate (xs.length - k) [iV 0, iV 0, .v (.string { data := { toList := [] } }), .v (.string { data := { toList := [] } }), .v (.string { data := { toList := [] } }), .v nilV]
theorem nodeMix_len {xs : List Node} {k : Nat} (hk : k ≤ xs.length) : (nodeMix xs k).length = xs.length := by
  simp only [nodeMix, List.length_append, nodesT_len, List.length_take, List.length_replicate]; omega
theorem nodeMix_zero (xs : List Node) : nodeMix xs 0 = List.replicate xs.length [iV 0, iV 0, .v (.string { data := { toList := [] } }), .v (.string { data := { toList := [] } }), .v (.string { data := { toList := [] } }), .v nilV] := by simp [nodeMix, nodesT]
theorem nodeMix_end {xs : List Node} {k : Nat} (h : xs.length ≤ k) : nodeMix xs k = nodesT xs := by
  rw [nodeMix, List.take_of_length_le h, show xs.length - k = 0 by omega]; simp
theorem nodeMix_get {xs : List Node} {k : Nat} (hk : k < xs.length) : (nodeMix xs k)[k]? = some [iV 0, iV 0, .v (.string { data := { toList := [] } }), .v (.string { data := { toList := [] } }), .v (.string { data := { toList := [] } }), .v nilV] := by
  have h1 : (nodesT (xs.take k)).length = k := by rw [nodesT_len, List.length_take]; omega
  rw [nodeMix, List.getElem?_append_right (by omega), h1, List.getElem?_replicate]
  simp; omega
theorem nodeMix_set {xs : List Node} {k : Nat} (hk : k < xs.length) : (nodeMix xs k).set k (nodeT (xs.getD k nodeZ)) = nodeMix xs (k + 1) := by
  have h1 : (nodesT (xs.take k)).length = k := by rw [nodesT_len, List.length_take]; omega
  have h2 : xs.length - k = (xs.length - (k + 1)) + 1 := by omega
  have h3 : nodesT (xs.take (k + 1)) = nodesT (xs.take k) ++ [nodeT (xs.getD k nodeZ)] := by
    have e : xs.getD k nodeZ = xs[k] := by simp [hk]
    rw [e, List.take_succ_eq_append_getElem hk]; simp only [nodesT, List.map_append, List.map_cons, List.map_nil]
  unfold nodeMix
  rw [h2, List.replicate_succ, List.set_append_right _ _ (by omega), h1, Nat.sub_self, List.set_cons_zero, h3, List.append_assoc]
  rfl
theorem nodeMix_refs (xs : List Node) (k : Nat) : refsRows (nodeMix xs k) = [] := by
  rw [nodeMix, refsRows_app, closed_refsRows _ (nodesT_closed _), refs_repl rfl]; rfl
theorem nodeMix_ren (f : Nat → Nat) (xs : List Node) (k : Nat) : renRows f (nodeMix xs k) = nodeMix xs k := by
  rw [nodeMix, renRows_app, closed_renRows f _ (nodesT_closed _), ren_repl rfl]
attribute [go_sem] nodeMix_refs nodeMix_ren
theorem toNodeS_ok (xs : List Node) (hs : xs.length ≤ 1048576 ∧ ∀ y ∈ xs, smNode y) : CallOk Tryz.prog 56 [.one (.ro 6 (nodesD xs))] (.s (.one (.own 6 (nodesT xs)))) [none] := by
  obtain ⟨hs, hs1⟩ := hs
  have hz := nodeMix_zero xs
  refine callOk_of_hcall 40 (hcall_of_body Tryz.func56 rfl (by kernel_rfl) ?_)
  simp (disch := omega) only [go_sem, Tryz.ntmps56, Tryz.results56]
  refine wkc ?_
  refine i_loop (α := {k : Nat // k ≤ xs.length}) (fun k => ⟨mkEnv 23 [(0, .one (.ro 6 (nodesD xs))), (3, .one (.ref 0 0 xs.length)), (4, .one (iV k.1))], [.live 6 (nodeMix xs k.1)]⟩) (fun k => xs.length - k.1) ⟨0, by omega⟩ ?_ ?_
  · (refine weak_canon [0, 3, 4] [0] ?_ ?_ ?_ <;> (simp (disch := omega) only [go_sem, ← hz]; done))
  rintro ⟨k, hk⟩
  have hml := nodeMix_len hk
  simp (disch := omega) only [go_sem]
  by_cases hkl : k < xs.length
  · have hg := nodeMix_get hkl
    have e := nodeMix_set hkl
    have hsk := hs1 (xs.getD k nodeZ) (by simp [hkl])
    have x1 := toNode_ok (xs.getD k nodeZ) hsk
    refine wkc ?_
    refine ⟨⟨k + 1, by omega⟩, weak_fit2 40 0 k 6 _ _ (nodeT (xs.getD k nodeZ)) rfl (List.getElem?_set_self (by rw [hml]; exact hkl)) ?_ rfl ?_, by simp only; omega⟩
    · simp (disch := omega) only [go_sem, natLe_ok]
    · have e2 : (nodeMix xs k).set k [iV (xs.getD k nodeZ).kind, iV (xs.getD k nodeZ).num, sV (xs.getD k nodeZ).name, sV (xs.getD k nodeZ).more, sV (xs.getD k nodeZ).to, .own 1 (intsT (xs.getD k nodeZ).kids)] = nodeMix xs (k + 1) := e
      simp (disch := omega) only [go_sem, natLe_ok, List.set_set, e2]
      (refine weak_canon [0, 3, 4] [0] ?_ ?_ ?_ <;> (simp (disch := omega) only [go_sem, e2]; done))
  ·
    repeat' (first | (with_reducible first | refine i_seq ?_) | ((first | (with_reducible first | refine i_block ?_ | refine i_regionQ (fun Q' hQ => ?_) | (refine Imp.go hQ ?_; clear hQ)) | ((with_reducible refine i_condT ?_ ?_); (focus (simp only [go_sem, *]; done))) | ((with_reducible refine i_condF ?_ ?_); (focus (simp only [go_sem, *]; done))) | ((with_reducible first | refine resOk_g (fun h => ?_) (fun h => ?_) | refine i_cond (by simp only [go_sem, *] <;> rfl) (fun h => ?_) (fun h => ?_)) <;> (try simp only [Bool.not_eq_eq_eq_not, Bool.not_true, Bool.not_false, reduceCtorEq] at h) <;> (try have h' := of_decide_eq_true h) <;> (try (have hz : (_ : Int) = (_ : Int) := h'; clear hz h')) <;> (try have h' := of_decide_eq_false h) <;> (try have h' := inB_t h) <;> (try (exfalso; omega)))) <;> (try simp (disch := omega) only [go_sem, *])))
    all_goals (try simp (disch := omega) only [EndK, go_sem, natLe_ok, *])
    all_goals rw [nodeMix_end (by omega)]
    all_goals (try simp (disch := omega) only [go_sem, natLe_ok])
theorem eqNodeS_ok (xs : List Node) (hs : xs.length ≤ 68719476736 ∧ ∀ y ∈ xs, mdNode y) : CallOk Tryz.prog 35 [.one (.ro 6 (nodesD xs)), .one (.ro 6 (nodesD xs))] (.s (.one (bV true))) [none, none] := by
  obtain ⟨hs, hs1⟩ := hs
  refine callOk_of_hcall 40 (hcall_of_body Tryz.func35 rfl (by kernel_rfl) ?_)
  simp (disch := omega) only [go_sem, Tryz.ntmps35, Tryz.results35]
  have x1 : HT 6 (.fr [0, 1, 2, 3, 4, 5, 6, 7] (.op [8] (.fr [9] (.stop)))) := ⟨⟩
  refine wkc ?_
  refine i_loop (α := {k : Nat // k ≤ xs.length}) (fun k => ⟨mkEnv 27 [(0, .one (.ro 6 (nodesD xs))), (1, .one (.ro 6 (nodesD xs))), (5, .one (iV k.1))], []⟩) (fun k => xs.length - k.1) ⟨0, by omega⟩ ?_ ?_
  · (refine weak_canon [0, 1, 5] [] ?_ ?_ ?_ <;> (simp (disch := omega) only [go_sem]; done))
  rintro ⟨k, hk⟩
  simp (disch := omega) only [go_sem]
  by_cases hkl : k < xs.length
  · have hsk := hs1 (xs.getD k nodeZ) (by simp [hkl])
    have x1 : HT 6 (.fr [0, 1, 2, 3, 4, 5, 6, 7] (.op [8] (.fr [9] (.stop)))) := ⟨⟩
    have x2 := eqNode_ok (xs.getD k nodeZ) hsk
    refine wkc ?_
    refine ⟨⟨k + 1, by omega⟩, ?_, by simp only; omega⟩
    (refine weak_canon [0, 1, 5] [] ?_ ?_ ?_ <;> (simp (disch := omega) only [go_sem]; done))
  ·
    have x1 : HT 6 (.fr [0, 1, 2, 3, 4, 5, 6, 7] (.op [8] (.fr [9] (.stop)))) := ⟨⟩
    exact wk
end Go.Proofs.YtejnpiielcbkkaaGreat.E
end
section
set_option maxRecDepth 100000
set_option maxHeartbeats 4000000
namespace Go.Proofs.YtejnpiielcbkkaaGreat.E
theorem ti246 : ti Tryz.prog 246 = some ⟨.st [(0, 1, false), (1, 1, false), (2, 1, false)], 3, 40, true, [.string { data := { toList := [] } }, .string { data := { toList := [] } }, .int .i64 0]⟩ := by kernel_rfl
theorem ni246 : notInt Tryz.prog 246 = true := by kernel_rfl
theorem ti133 : ti Tryz.prog 133 = some ⟨.st [(0, 1, false), (1, 1, false), (2, 1, false)], 3, 40, true, [.string { data := { toList := [] } }, .string { data := { toList := [] } }, .int .i64 0]⟩ := by kernel_rfl
theorem ni133 : notInt Tryz.prog 133 = true := by kernel_rfl
theorem ti159 : ti Tryz.prog 159 = some ⟨.sl 246, 1, 24, false, [.slice none 0 0]⟩ := by kernel_rfl
theorem ni159 : notInt Tryz.prog 159 = true := by kernel_rfl
theorem ti75 : ti Tryz.prog 75 = some ⟨.sl 133, 1, 24, false, [.slice none 0 0]⟩ := by kernel_rfl
theorem ni75 : notInt Tryz.prog 75 = true := by kernel_rfl
attribute [go_sem] ti246 ni246 ti133 ni133 ti159 ni159 ti75 ni75
structure Entry where
  name : ByteArray
  param : ByteArray
  body : Int
def entryT (x : Entry) : List T := [sV x.name, sV x.param, iV x.body]
def entryR (x : Entry) : List T := [sV x.name, sV x.param, iV x.body]
attribute [go_sem] entryT entryR
def entryD (x : Entry) : List D := [D.v (.string x.name), D.v (.string x.param), D.v (.int .i64 x.body)]
attribute [go_sem] entryD
def entryZ : Entry := ⟨ByteArray.empty, ByteArray.empty, 0⟩
def smEntry (x : Entry) : Prop := x.name.size ≤ 1048576 ∧ x.param.size ≤ 1048576
def bgEntry (x : Entry) : Prop := x.name.size ≤ 9223372036854775807 ∧ x.param.size ≤ 9223372036854775807
def mdEntry (x : Entry) : Prop := x.name.size ≤ 1048576 ∧ x.param.size ≤ 1048576
theorem sm_mdEntry {x : Entry} (h : smEntry x) : mdEntry x := ⟨h.1, h.2⟩
theorem szEntry_ok (x : Entry) (left : Int) (h : 0 ≤ left ∧ left ≤ 1048576) (hb : bgEntry x) : CallE Tryz.prog 228 [.agg (entryR x), .one (iV left)] (fun r : Int => .s (.one (iV r))) (fun _ => [none, none]) (fun r => -1 ≤ r ∧ r ≤ left ∧ (0 ≤ r → smEntry x)) := by
  obtain ⟨hb0, hb1⟩ := hb
  refine callE_of_hcall 40 (hcall_of_body Tryz.func228 rfl (by kernel_rfl) ?_)
  simp (disch := omega) only [go_sem, Tryz.ntmps228, Tryz.results228]
  repeat' (first | (with_reducible first | refine i_seq ?_) | ((first | (with_reducible first | refine i_block ?_ | refine i_regionQ (fun Q' hQ => ?_) | (refine Imp.go hQ ?_; clear hQ)) | ((with_reducible refine i_condT ?_ ?_); (focus (simp only [go_sem, *]; done))) | ((with_reducible refine i_condF ?_ ?_); (focus (simp only [go_sem, *]; done))) | ((with_reducible first | refine resOk_g (fun h => ?_) (fun h => ?_) | refine i_cond (by simp only [go_sem, *] <;> rfl) (fun h => ?_) (fun h => ?_)) <;> (try simp only [Bool.not_eq_eq_eq_not, Bool.not_true, Bool.not_false, reduceCtorEq] at h) <;> (try have h' := of_decide_eq_true h) <;> (try (have hz : (_ : Int) = (_ : Int) := h'; clear hz h')) <;> (try have h' := of_decide_eq_false h) <;> (try have h' := inB_t h) <;> (try (exfalso; omega)))) <;> (try simp (disch := omega) only [go_sem, *])))
  all_goals (try simp (disch := omega) only [EndK, go_sem, natLe_ok, *])
  all_goals first
    | exact ⟨-1, ⟨by omega, by omega, fun h => by first | trivial | (exfalso; omega)⟩, rfl⟩
    | exact ⟨((left - (x.name.size : Int)) - (x.param.size : Int)), ⟨by omega, by omega, fun h => by first | trivial | exact ⟨by omega, by omega⟩⟩, rfl⟩
theorem toEntry_ok (x : Entry) (hs : smEntry x) : CallOk Tryz.prog 240 [.agg (entryR x)] (.s (.agg (entryT x))) [none] := by
  obtain ⟨hs0, hs1⟩ := hs
  refine callOk_of_hcall 40 (hcall_of_body Tryz.func240 rfl (by kernel_rfl) ?_)
  simp (disch := omega) only [go_sem, Tryz.ntmps240, Tryz.results240]
  exact wk
theorem eqEntry_ok (x : Entry) (hs : mdEntry x) : CallOk Tryz.prog 227 [.agg (entryR x), .agg (entryR x)] (.s (.one (bV true))) [none, none] := by
  obtain ⟨hs0, hs1⟩ := hs
  refine callOk_of_hcall 40 (hcall_of_body Tryz.func227 rfl (by kernel_rfl) ?_)
  simp (disch := omega) only [go_sem, Tryz.ntmps227, Tryz.results227]
  have x1 := @seq_self
  have x2 := @Bool.not_true
  exact wk
/-! Lists of it. -/
instance : Inhabited Entry := ⟨entryZ⟩
def entrysT (xs : List Entry) : List (List T) := xs.map entryT
def entrysD (xs : List Entry) : List (List D) := xs.map entryD
theorem entrysT_nil : entrysT [] = [] := rfl
theorem entrysT_len (xs : List Entry) : (entrysT xs).length = xs.length := by simp [entrysT]
theorem entrysD_len (xs : List Entry) : (entrysD xs).length = xs.length := by simp [entrysD]
theorem entrysD_get {xs : List Entry} {k : Nat} (h : k < xs.length) : (entrysD xs)[k]? = some (entryD (xs.getD k entryZ)) := by simp [entrysD, h]
theorem entrysT_get {xs : List Entry} {k : Nat} (h : k < xs.length) : (entrysT xs)[k]? = some (entryT (xs.getD k entryZ)) := by simp [entrysT, h]
theorem entrysT_take (xs : List Entry) (n : Nat) : (entrysT xs).take n = entrysT (xs.take n) := by simp [entrysT, List.map_take]
theorem entrysD_take (xs : List Entry) (n : Nat) : (entrysD xs).take n = entrysD (xs.take n) := by simp [entrysD, List.map_take]
theorem entrysD_ofD (xs : List Entry) : (entrysD xs).map (·.map ofD) = entrysT xs := by rw [entrysD, List.map_map]; rfl
theorem entrysT_closed (xs : List Entry) : closedRows (entrysT xs) = true := closed_map (fun x => by simp [entryT, closedRow, closedT, isNil]) xs
theorem entrysT_noRo (xs : List Entry) : noRoRows (entrysT xs) = true := noRo_map (fun x => by simp [entryT, noRoRow, noRo, isNil]) xs
theorem entrysT_flat (xs : List Entry) : flat (entrysT xs) = true := flat_map (fun x => by simp [entryT, isOwn]) xs
attribute [go_sem] entrysT_flat
theorem entrysT_look {n : Nat} {H : List AObj} (xs : List Entry) : lookRowsBy (lookD (n + 1) H) (entrysT xs) (entrysD xs) := lookRowsBy_map fun x _ => ⟨rfl, ⟨rfl, ⟨rfl, trivial⟩⟩⟩
attribute [go_sem] entrysT_nil entrysT_len entrysD_len entrysD_get entrysT_get entrysT_take entrysD_take entrysT_closed entrysT_noRo entrysT_look
theorem szEntryS_ok (xs : List Entry) (left : Int) (h : 0 ≤ left ∧ left ≤ 1048576) (hb : xs.length ≤ 9223372036854775807 ∧ ∀ y ∈ xs, bgEntry y) : CallE Tryz.prog 183 [.one (.ro 3 (entrysD xs)), .one (iV left)] (fun r : Int => .s (.one (iV r))) (fun _ => [none, none]) (fun r => -1 ≤ r ∧ r ≤ left ∧ (0 ≤ r → xs.length ≤ 1048576 ∧ ∀ y ∈ xs, smEntry y)) := by
  obtain ⟨h1, h2⟩ := h
  obtain ⟨hb0, hb1⟩ := hb
  refine callE_of_hcall 40 (hcall_of_body Tryz.func183 rfl (by kernel_rfl) ?_)
  simp (disch := omega) only [go_sem, Tryz.ntmps183, Tryz.results183]
  repeat' (first | (with_reducible first | refine i_seq ?_) | ((first | (with_reducible first | refine i_block ?_ | refine i_regionQ (fun Q' hQ => ?_) | (refine Imp.go hQ ?_; clear hQ)) | ((with_reducible refine i_condT ?_ ?_); (focus (simp only [go_sem, *]; done))) | ((with_reducible refine i_condF ?_ ?_); (focus (simp only [go_sem, *]; done))) | ((with_reducible first | refine resOk_g (fun h => ?_) (fun h => ?_) | refine i_cond (by simp only [go_sem, *] <;> rfl) (fun h => ?_) (fun h => ?_)) <;> (try simp only [Bool.not_eq_eq_eq_not, Bool.not_true, Bool.not_false, reduceCtorEq] at h) <;> (try have h' := of_decide_eq_true h) <;> (try (have hz : (_ : Int) = (_ : Int) := h'; clear hz h')) <;> (try have h' := of_decide_eq_false h) <;> (try have h' := inB_t h) <;> (try (exfalso; omega)))) <;> (try simp (disch := omega) only [go_sem, *])))
  all_goals (try simp (disch := omega) only [EndK, go_sem, natLe_ok, *])
  · exact ⟨-1, ⟨by omega, by omega, fun h => by first | trivial | (exfalso; omega)⟩, rfl⟩
  refine i_loop (α := {p : Nat × Int // p.1 ≤ xs.length ∧ 0 ≤ p.2 ∧ p.2 ≤ left ∧ ∀ y ∈ xs.take p.1, smEntry y}) (fun p => ⟨mkEnv 27 [(0, .one (.ro 3 (entrysD xs))), (1, .one (iV p.1.2)), (5, .one (iV p.1.1))], []⟩) (fun p => xs.length - p.1.1) ⟨(0, left - xs.length), by simp, by simp only; omega, by simp only; omega, by simp⟩ ?_ ?_
  · (refine weak_canon [0, 1, 5] [] ?_ ?_ ?_ <;> (simp (disch := omega) only [go_sem]; done))
  rintro ⟨⟨k, lf⟩, hk, hl0, hl1, hp⟩
  simp only at hk hl0 hl1 hp
  simp (disch := omega) only [go_sem]
  by_cases hkl : k < xs.length
  · have hbk := hb1 (xs.getD k entryZ) (by simp [hkl])
    repeat' (first | (with_reducible first | refine i_seq ?_) | ((first | (with_reducible first | refine i_block ?_ | refine i_regionQ (fun Q' hQ => ?_) | (refine Imp.go hQ ?_; clear hQ)) | ((with_reducible refine i_condT ?_ ?_); (focus (simp only [go_sem, *]; done))) | ((with_reducible refine i_condF ?_ ?_); (focus (simp only [go_sem, *]; done))) | ((with_reducible first | refine resOk_g (fun h => ?_) (fun h => ?_) | refine i_cond (by simp only [go_sem, *] <;> rfl) (fun h => ?_) (fun h => ?_)) <;> (try simp only [Bool.not_eq_eq_eq_not, Bool.not_true, Bool.not_false, reduceCtorEq] at h) <;> (try have h' := of_decide_eq_true h) <;> (try (have hz : (_ : Int) = (_ : Int) := h'; clear hz h')) <;> (try have h' := of_decide_eq_false h) <;> (try have h' := inB_t h) <;> (try (exfalso; omega))) | ((with_reducible refine hcall_of_callE 40 true (szEntry_ok (xs.getD k entryZ) lf (by omega) hbk) ?_ ?_ ?_ ?_ ?_); (focus (simp (disch := omega) only [go_sem, natLe_ok]; done)); (focus (simp (disch := omega) only [go_sem, natLe_ok]; done)); (focus (rintro r ⟨hr1, hr2, hr3⟩; (try dsimp only at hr1); (try dsimp only at hr2); (try dsimp only at hr3); (try simp (disch := omega) only [go_sem, natLe_ok]); done)); (focus (rintro r ⟨hr1, hr2, hr3⟩; (try dsimp only at hr1); (try dsimp only at hr2); (try dsimp only at hr3); (try simp (disch := omega) only [go_sem, natLe_ok]); done)); rintro r ⟨hr1, hr2, hr3⟩; (try dsimp only at hr1); (try dsimp only at hr2); (try dsimp only at hr3); simp only [go_sem]; refine aL_run ?_)) <;> (try simp (disch := omega) only [go_sem, *])))
    all_goals (try simp (disch := omega) only [EndK, go_sem, natLe_ok, *])
    · exact ⟨-1, ⟨by omega, by omega, fun h => by first | trivial | (exfalso; omega)⟩, rfl⟩
    · refine ⟨⟨(k + 1, r), by simp only; omega, by simp only; omega, by simp only; omega, fun y hy => ?_⟩, ?_, by simp only; omega⟩
      · rw [List.take_succ_eq_append_getElem hkl] at hy
        rcases List.mem_append.1 hy with hy | hy
        · exact hp y hy
        · have e : y = xs.getD k entryZ := by simpa [hkl] using hy
          rw [e]; exact hr3 (by omega)
      · (refine weak_canon [0, 1, 5] [] ?_ ?_ ?_ <;> (simp (disch := omega) only [go_sem]; done))
  ·
    repeat' (first | (with_reducible first | refine i_seq ?_) | ((first | (with_reducible first | refine i_block ?_ | refine i_regionQ (fun Q' hQ => ?_) | (refine Imp.go hQ ?_; clear hQ)) | ((with_reducible refine i_condT ?_ ?_); (focus (simp only [go_sem, *]; done))) | ((with_reducible refine i_condF ?_ ?_); (focus (simp only [go_sem, *]; done))) | ((with_reducible first | refine resOk_g (fun h => ?_) (fun h => ?_) | refine i_cond (by simp only [go_sem, *] <;> rfl) (fun h => ?_) (fun h => ?_)) <;> (try simp only [Bool.not_eq_eq_eq_not, Bool.not_true, Bool.not_false, reduceCtorEq] at h) <;> (try have h' := of_decide_eq_true h) <;> (try (have hz : (_ : Int) = (_ : Int) := h'; clear hz h')) <;> (try have h' := of_decide_eq_false h) <;> (try have h' := inB_t h) <;> (try (exfalso; omega)))) <;> (try simp (disch := omega) only [go_sem, *])))
    all_goals (try simp (disch := omega) only [EndK, go_sem, natLe_ok, *])
    all_goals exact ⟨lf, ⟨by omega, by omega, fun h => by first | exact fun y hy => hp y (by rw [List.take_of_length_le (by omega)]; exact hy) | exact ⟨by omega, fun y hy => hp y (by rw [List.take_of_length_le (by omega)]; exact hy)⟩⟩, rfl⟩
def entryMix (xs : List Entry) (k : Nat) : List (List T) := entrysT (xs.take k) ++ List.replicate (xs.length - k) [.v (.string { data := { toList := [] } }), .v (.string { data := { toList := [] } }), iV 0]
theorem entryMix_len {xs : List Entry} {k : Nat} (hk : k ≤ xs.length) : (entryMix xs k).length = xs.length := by
  simp only [entryMix, List.length_append, entrysT_len, List.length_take, List.length_replicate]; omega
theorem entryMix_zero (xs : List Entry) : entryMix xs 0 = List.replicate xs.length [.v (.string { data := { toList := [] } }), .v (.string { data := { toList := [] } }), iV 0] := by simp [entryMix, entrysT]
theorem entryMix_end {xs : List Entry} {k : Nat} (h : xs.length ≤ k) : entryMix xs k = entrysT xs := by
  rw [entryMix, List.take_of_length_le h, show xs.length - k = 0 by omega]; simp
theorem entryMix_get {xs : List Entry} {k : Nat} (hk : k < xs.length) : (entryMix xs k)[k]? = some [.v (.string { data := { toList := [] } }), .v (.string { data := { toList := [] } }), iV 0] := by
  have h1 : (entrysT (xs.take k)).length = k := by rw [entrysT_len, List.length_take]; omega
  rw [entryMix, List.getElem?_append_right (by omega), h1, List.getElem?_replicate]
  simp; omega
theorem entryMix_set {xs : List Entry} {k : Nat} (hk : k < xs.length) : (entryMix xs k).set k (entryT (xs.getD k entryZ)) = entryMix xs (k + 1) := by
  have h1 : (entrysT (xs.take k)).length = k := by rw [entrysT_len, List.length_take]; omega
  have h2 : xs.length - k = (xs.length - (k + 1)) + 1 := by omega
  have h3 : entrysT (xs.take (k + 1)) = entrysT (xs.take k) ++ [entryT (xs.getD k entryZ)] := by
    have e : xs.getD k entryZ = xs[k] := by simp [hk]
    rw [e, List.take_succ_eq_append_getElem hk]; simp only [entrysT, List.map_append, List.map_cons, List.map_nil]
  unfold entryMix
  rw [h2, List.replicate_succ, List.set_append_right _ _ (by omega), h1, Nat.sub_self, List.set_cons_zero, h3, List.append_assoc]
  rfl
theorem entryMix_refs (xs : List Entry) (k : Nat) : refsRows (entryMix xs k) = [] := by
  rw [entryMix, refsRows_app, closed_refsRows _ (entrysT_closed _), refs_repl rfl]; rfl
theorem entryMix_ren (f : Nat → Nat) (xs : List Entry) (k : Nat) : renRows f (entryMix xs k) = entryMix xs k := by
  rw [entryMix, renRows_app, closed_renRows f _ (entrysT_closed _), ren_repl rfl]
attribute [go_sem] entryMix_refs entryMix_ren
theorem toEntryS_ok (xs : List Entry) (hs : xs.length ≤ 1048576 ∧ ∀ y ∈ xs, smEntry y) : CallOk Tryz.prog 196 [.one (.ro 3 (entrysD xs))] (.s (.one (.own 3 (entrysT xs)))) [none] := by
  obtain ⟨hs, hs1⟩ := hs
  have hz := entryMix_zero xs
  refine callOk_of_hcall 40 (hcall_of_body Tryz.func196 rfl (by kernel_rfl) ?_)
  simp (disch := omega) only [go_sem, Tryz.ntmps196, Tryz.results196]
  refine wkc ?_
  refine i_loop (α := {k : Nat // k ≤ xs.length}) (fun k => ⟨mkEnv 23 [(0, .one (.ro 3 (entrysD xs))), (3, .one (.ref 0 0 xs.length)), (4, .one (iV k.1))], [.live 3 (entryMix xs k.1)]⟩) (fun k => xs.length - k.1) ⟨0, by omega⟩ ?_ ?_
  · (refine weak_canon [0, 3, 4] [0] ?_ ?_ ?_ <;> (simp (disch := omega) only [go_sem, ← hz]; done))
  rintro ⟨k, hk⟩
  have hml := entryMix_len hk
  simp (disch := omega) only [go_sem]
  by_cases hkl : k < xs.length
  · have hg := entryMix_get hkl
    have e := entryMix_set hkl
    have hsk := hs1 (xs.getD k entryZ) (by simp [hkl])
    have x1 := toEntry_ok (xs.getD k entryZ) hsk
    refine wkc ?_
    refine ⟨⟨k + 1, by omega⟩, ?_, by simp only; omega⟩
    have e2 : (entryMix xs k).set k [sV (xs.getD k entryZ).name, sV (xs.getD k entryZ).param, iV (xs.getD k entryZ).body] = entryMix xs (k + 1) := e
    (refine weak_canon [0, 3, 4] [0] ?_ ?_ ?_ <;> (simp (disch := omega) only [go_sem, e2]; done))
  ·
    repeat' (first | (with_reducible first | refine i_seq ?_) | ((first | (with_reducible first | refine i_block ?_ | refine i_regionQ (fun Q' hQ => ?_) | (refine Imp.go hQ ?_; clear hQ)) | ((with_reducible refine i_condT ?_ ?_); (focus (simp only [go_sem, *]; done))) | ((with_reducible refine i_condF ?_ ?_); (focus (simp only [go_sem, *]; done))) | ((with_reducible first | refine resOk_g (fun h => ?_) (fun h => ?_) | refine i_cond (by simp only [go_sem, *] <;> rfl) (fun h => ?_) (fun h => ?_)) <;> (try simp only [Bool.not_eq_eq_eq_not, Bool.not_true, Bool.not_false, reduceCtorEq] at h) <;> (try have h' := of_decide_eq_true h) <;> (try (have hz : (_ : Int) = (_ : Int) := h'; clear hz h')) <;> (try have h' := of_decide_eq_false h) <;> (try have h' := inB_t h) <;> (try (exfalso; omega)))) <;> (try simp (disch := omega) only [go_sem, *])))
    all_goals (try simp (disch := omega) only [EndK, go_sem, natLe_ok, *])
    all_goals rw [entryMix_end (by omega)]
    all_goals (try simp (disch := omega) only [go_sem, natLe_ok])
theorem eqEntryS_ok (xs : List Entry) (hs : xs.length ≤ 68719476736 ∧ ∀ y ∈ xs, mdEntry y) : CallOk Tryz.prog 181 [.one (.ro 3 (entrysD xs)), .one (.ro 3 (entrysD xs))] (.s (.one (bV true))) [none, none] := by
  obtain ⟨hs, hs1⟩ := hs
  refine callOk_of_hcall 40 (hcall_of_body Tryz.func181 rfl (by kernel_rfl) ?_)
  simp (disch := omega) only [go_sem, Tryz.ntmps181, Tryz.results181]
  have x1 : HT 6 (.fr [0, 1, 2, 3, 4, 5, 6, 7] (.op [8] (.fr [9] (.stop)))) := ⟨⟩
  refine wkc ?_
  refine i_loop (α := {k : Nat // k ≤ xs.length}) (fun k => ⟨mkEnv 27 [(0, .one (.ro 3 (entrysD xs))), (1, .one (.ro 3 (entrysD xs))), (5, .one (iV k.1))], []⟩) (fun k => xs.length - k.1) ⟨0, by omega⟩ ?_ ?_
  · (refine weak_canon [0, 1, 5] [] ?_ ?_ ?_ <;> (simp (disch := omega) only [go_sem]; done))
  rintro ⟨k, hk⟩
  simp (disch := omega) only [go_sem]
  by_cases hkl : k < xs.length
  · have hsk := hs1 (xs.getD k entryZ) (by simp [hkl])
    have x1 : HT 6 (.fr [0, 1, 2, 3, 4, 5, 6, 7] (.op [8] (.fr [9] (.stop)))) := ⟨⟩
    have x2 := eqEntry_ok (xs.getD k entryZ) hsk
    refine wkc ?_
    refine ⟨⟨k + 1, by omega⟩, ?_, by simp only; omega⟩
    (refine weak_canon [0, 1, 5] [] ?_ ?_ ?_ <;> (simp (disch := omega) only [go_sem]; done))
  ·
    have x1 : HT 6 (.fr [0, 1, 2, 3, 4, 5, 6, 7] (.op [8] (.fr [9] (.stop)))) := ⟨⟩
    exact wk
end Go.Proofs.YtejnpiielcbkkaaGreat.E
end
