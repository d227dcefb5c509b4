/- A part of what stands under the laws of this seat: an abstract evaluator that is proved sound, and contracts of functions by it. No condition beside those that stand in each statement. -/
import Derived.Test.YtejnpiielcbkkaaGreatProg
import Derived.Test.YtejnpiielcbkkaaGreatZE2
set_option linter.unusedVariables false
set_option linter.unusedSimpArgs false
section
set_option maxRecDepth 100000
set_option maxHeartbeats 2000000
namespace Go.Proofs.YtejnpiielcbkkaaGreat.E
theorem ti3 : ti Tryz.prog 3 = some ⟨.int .i64, 1, 8, false, [.int .i64 0]⟩ := by kernel_rfl
theorem ni3 : notInt Tryz.prog 3 = false := by kernel_rfl
theorem ti4 : ti Tryz.prog 4 = some ⟨.bool, 1, 1, false, [.bool false]⟩ := by kernel_rfl
theorem ni4 : notInt Tryz.prog 4 = true := by kernel_rfl
theorem ti37 : ti Tryz.prog 37 = some ⟨.sl 3, 1, 24, false, [.slice none 0 0]⟩ := by kernel_rfl
theorem ni37 : notInt Tryz.prog 37 = true := by kernel_rfl
theorem ti42 : ti Tryz.prog 42 = some ⟨.sl 4, 1, 24, false, [.slice none 0 0]⟩ := by kernel_rfl
theorem ni42 : notInt Tryz.prog 42 = true := by kernel_rfl
attribute [go_sem] ti3 ni3 ti4 ni4 ti37 ni37 ti42 ni42
theorem mixedT : Tryz.prog.follows .mixedOrders = true := by kernel_rfl
/-- A fact set aside. -/
structure Hid (p : Prop) : Prop where
  out : p
theorem tn2 : Int.toNat 2 = 2 := rfl
theorem tn3 : Int.toNat 3 = 3 := rfl
theorem tn4 : Int.toNat 4 = 4 := rfl
theorem tn5 : Int.toNat 5 = 5 := rfl
theorem tn6 : Int.toNat 6 = 6 := rfl
theorem tn7 : Int.toNat 7 = 7 := rfl
theorem tn8 : Int.toNat 8 = 8 := rfl
theorem tn9 : Int.toNat 9 = 9 := rfl
attribute [go_sem] tn2 tn3 tn4 tn5 tn6 tn7 tn8 tn9
theorem intsT_nil : intsT [] = [] := rfl
theorem intsT_cons (x : Int) (xs : List Int) : intsT (x :: xs) = [T.v (.int .i64 x)] :: intsT xs := rfl
attribute [go_sem] intsT_nil
def inB (n lo hi : Int) : Bool := decide (n ≥ lo) && decide (n ≤ hi)
theorem inB_t {a b c : Int} (h : inB a b c = true) : b ≤ a ∧ a ≤ c := by simpa [inB] using h
theorem inB_iff {a b c : Int} : inB a b c = true ↔ b ≤ a ∧ a ≤ c := by simp [inB]
theorem specInB_ok (n lo hi : Int) : CallOk Tryz.prog 88 [.one (iV n), .one (iV lo), .one (iV hi)] (.s (.one (bV (inB n lo hi)))) [none, none, none] := by
  refine callOk_of_hcall 40 (hcall_of_body Tryz.func88 rfl (by kernel_rfl) ?_)
  simp (disch := omega) only [go_sem, Tryz.ntmps88, Tryz.results88]
  repeat' (first | (with_reducible first | refine i_seq ?_) | ((first | (with_reducible first | refine i_block ?_ | refine i_regionQ (fun Q' hQ => ?_) | (refine Imp.go hQ ?_; clear hQ)) | ((with_reducible refine i_condT ?_ ?_); (focus (simp only [go_sem, *]; done))) | ((with_reducible refine i_condF ?_ ?_); (focus (simp only [go_sem, *]; done))) | ((with_reducible first | refine resOk_g (fun h => ?_) (fun h => ?_) | refine i_cond (by simp only [go_sem, *] <;> rfl) (fun h => ?_) (fun h => ?_)) <;> (try simp only [Bool.not_eq_eq_eq_not, Bool.not_true, Bool.not_false, reduceCtorEq] at h) <;> (try have h' := of_decide_eq_true h) <;> (try (have hz : (_ : Int) = (_ : Int) := h'; clear hz h')) <;> (try have h' := of_decide_eq_false h) <;> (try have h' := inB_t h) <;> (try (exfalso; omega)))) <;> (try simp (disch := omega) only [go_sem, inB, *])))
  all_goals (try simp (disch := omega) only [EndK, go_sem, inB, natLe_ok, *])
theorem within_ok (n lo hi : Int) : CallOk Tryz.prog 143 [.one (iV n), .one (iV lo), .one (iV hi)] (.s (.one (bV (inB n lo hi)))) [none, none, none] := by
  refine callOk_of_hcall 40 (hcall_of_body Tryz.func143 rfl (by kernel_rfl) ?_)
  simp (disch := omega) only [go_sem, Tryz.ntmps143, Tryz.results143]
  repeat' (first | (with_reducible first | refine i_seq ?_) | ((first | (with_reducible first | refine i_block ?_ | refine i_regionQ (fun Q' hQ => ?_) | (refine Imp.go hQ ?_; clear hQ)) | ((with_reducible refine i_condT ?_ ?_); (focus (simp only [go_sem, *]; done))) | ((with_reducible refine i_condF ?_ ?_); (focus (simp only [go_sem, *]; done))) | ((with_reducible first | refine resOk_g (fun h => ?_) (fun h => ?_) | refine i_cond (by simp only [go_sem, *] <;> rfl) (fun h => ?_) (fun h => ?_)) <;> (try simp only [Bool.not_eq_eq_eq_not, Bool.not_true, Bool.not_false, reduceCtorEq] at h) <;> (try have h' := of_decide_eq_true h) <;> (try (have hz : (_ : Int) = (_ : Int) := h'; clear hz h')) <;> (try have h' := of_decide_eq_false h) <;> (try have h' := inB_t h) <;> (try (exfalso; omega)))) <;> (try simp (disch := omega) only [go_sem, inB, *])))
  all_goals (try simp (disch := omega) only [EndK, go_sem, inB, natLe_ok, *])
def hasI (xs : List Int) (x : Int) : Bool := xs.any fun y => y == x
theorem hasI_take {xs : List Int} {x : Int} {k : Nat} (hk : k < xs.length) : hasI (xs.take (k + 1)) x = (hasI (xs.take k) x || (xs.getD k 0 == x)) := by
  unfold hasI
  rw [List.take_succ_eq_append_getElem hk, List.any_append]
  simp [hk]
theorem hasI_of {xs : List Int} {x : Int} {k : Nat} (hk : k < xs.length) (h : (xs.getD k 0 == x) = true) : hasI xs x = true := by
  simp only [hasI, List.any_eq_true]
  exact ⟨xs[k], List.getElem_mem hk, by simpa [hk] using h⟩
theorem specIn_ok (xs : List Int) (x : Int) (hs : xs.length ≤ 4398046511104) : CallOk Tryz.prog 266 [.one (.ro 1 (intsD xs)), .one (iV x)] (.s (.one (bV (hasI xs x)))) [none, none] := by
  refine callOk_of_hcall 40 (hcall_of_body Tryz.func266 rfl (by kernel_rfl) ?_)
  simp (disch := omega) only [go_sem, Tryz.ntmps266, Tryz.results266]
  repeat' (first | (with_reducible first | refine i_seq ?_) | ((first | (with_reducible first | refine i_block ?_ | refine i_regionQ (fun Q' hQ => ?_) | (refine Imp.go hQ ?_; clear hQ)) | ((with_reducible refine i_condT ?_ ?_); (focus (simp only [go_sem, *]; done))) | ((with_reducible refine i_condF ?_ ?_); (focus (simp only [go_sem, *]; done))) | ((with_reducible first | refine resOk_g (fun h => ?_) (fun h => ?_) | refine i_cond (by simp only [go_sem, *] <;> rfl) (fun h => ?_) (fun h => ?_)) <;> (try simp only [Bool.not_eq_eq_eq_not, Bool.not_true, Bool.not_false, reduceCtorEq] at h) <;> (try have h' := of_decide_eq_true h) <;> (try (have hz : (_ : Int) = (_ : Int) := h'; clear hz h')) <;> (try have h' := of_decide_eq_false h) <;> (try have h' := inB_t h) <;> (try (exfalso; omega)))) <;> (try simp (disch := omega) only [go_sem, *])))
  all_goals (try simp (disch := omega) only [EndK, go_sem, natLe_ok, *])
  refine i_loop (α := {k : Nat // k ≤ xs.length ∧ hasI (xs.take k) x = false}) (fun k => ⟨mkEnv 18 [(0, .one (.ro 1 (intsD xs))), (1, .one (iV x)), (5, .one (iV k.1))], []⟩) (fun k => xs.length - k.1) ⟨0, by omega, by simp [hasI]⟩ ?_ ?_
  · (refine weak_canon [0, 1, 5] [] ?_ ?_ ?_ <;> (simp (disch := omega) only [go_sem]; done))
  rintro ⟨k, hk, hp⟩
  simp (disch := omega) only [go_sem]
  by_cases hkl : k < xs.length
  · have ht := hasI_take (x := x) hkl
    cases hb : (xs.getD k 0 == x)
    ·
      repeat' (first | (with_reducible first | refine i_seq ?_) | ((first | (with_reducible first | refine i_block ?_ | refine i_regionQ (fun Q' hQ => ?_) | (refine Imp.go hQ ?_; clear hQ)) | ((with_reducible refine i_condT ?_ ?_); (focus (simp only [go_sem, *]; done))) | ((with_reducible refine i_condF ?_ ?_); (focus (simp only [go_sem, *]; done))) | ((with_reducible first | refine resOk_g (fun h => ?_) (fun h => ?_) | refine i_cond (by simp only [go_sem, *] <;> rfl) (fun h => ?_) (fun h => ?_)) <;> (try simp only [Bool.not_eq_eq_eq_not, Bool.not_true, Bool.not_false, reduceCtorEq] at h) <;> (try have h' := of_decide_eq_true h) <;> (try (have hz : (_ : Int) = (_ : Int) := h'; clear hz h')) <;> (try have h' := of_decide_eq_false h) <;> (try have h' := inB_t h) <;> (try (exfalso; omega)))) <;> (try simp (disch := omega) only [go_sem, *])))
      all_goals (try simp (disch := omega) only [EndK, go_sem, natLe_ok, *])
      all_goals (refine ⟨⟨k + 1, by omega, by rw [ht, hp, hb]; rfl⟩, ?_, by simp only; omega⟩; (refine weak_canon [0, 1, 5] [] ?_ ?_ ?_ <;> (simp (disch := omega) only [go_sem]; done)))
    · have hh := hasI_of hkl hb
      repeat' (first | (with_reducible first | refine i_seq ?_) | ((first | (with_reducible first | refine i_block ?_ | refine i_regionQ (fun Q' hQ => ?_) | (refine Imp.go hQ ?_; clear hQ)) | ((with_reducible refine i_condT ?_ ?_); (focus (simp only [go_sem, *]; done))) | ((with_reducible refine i_condF ?_ ?_); (focus (simp only [go_sem, *]; done))) | ((with_reducible first | refine resOk_g (fun h => ?_) (fun h => ?_) | refine i_cond (by simp only [go_sem, *] <;> rfl) (fun h => ?_) (fun h => ?_)) <;> (try simp only [Bool.not_eq_eq_eq_not, Bool.not_true, Bool.not_false, reduceCtorEq] at h) <;> (try have h' := of_decide_eq_true h) <;> (try (have hz : (_ : Int) = (_ : Int) := h'; clear hz h')) <;> (try have h' := of_decide_eq_false h) <;> (try have h' := inB_t h) <;> (try (exfalso; omega)))) <;> (try simp (disch := omega) only [go_sem, *])))
      all_goals (try simp (disch := omega) only [EndK, go_sem, natLe_ok, *])
  · have hx : hasI xs x = false := by rw [← hp, List.take_of_length_le (by omega)]
    repeat' (first | (with_reducible first | refine i_seq ?_) | ((first | (with_reducible first | refine i_block ?_ | refine i_regionQ (fun Q' hQ => ?_) | (refine Imp.go hQ ?_; clear hQ)) | ((with_reducible refine i_condT ?_ ?_); (focus (simp only [go_sem, *]; done))) | ((with_reducible refine i_condF ?_ ?_); (focus (simp only [go_sem, *]; done))) | ((with_reducible first | refine resOk_g (fun h => ?_) (fun h => ?_) | refine i_cond (by simp only [go_sem, *] <;> rfl) (fun h => ?_) (fun h => ?_)) <;> (try simp only [Bool.not_eq_eq_eq_not, Bool.not_true, Bool.not_false, reduceCtorEq] at h) <;> (try have h' := of_decide_eq_true h) <;> (try (have hz : (_ : Int) = (_ : Int) := h'; clear hz h')) <;> (try have h' := of_decide_eq_false h) <;> (try have h' := inB_t h) <;> (try (exfalso; omega)))) <;> (try simp (disch := omega) only [go_sem, *])))
    all_goals (try simp (disch := omega) only [EndK, go_sem, natLe_ok, *])
end Go.Proofs.YtejnpiielcbkkaaGreat.E
end
section
namespace Go.Proofs.YtejnpiielcbkkaaGreat.E
/-- The order in which a drawn region's operations are looked at, kept as_ a fact for 'wk'. -/
structure HT (id : Nat) (t : Tr) : Prop
structure HH (id : Nat) (t : Th) : Prop
theorem i_treeH {k id : Nat} {Q : Ex → St → Prop} {s : St} {ops : Array Oper} {t : Tr} (ht : HT id t) (hL : chk ops t false ops.size (Array.replicate ops.size false) = true)
    (h : ∀ Q' : St → Prop, Imp (Q .normal) Q' → aTr Tryz.prog ops Q' t false s) : aCode Tryz.prog k (.region id ops true) Q s := i_treeQ t mixedT hL h
theorem i_thH {k id : Nat} {Q : Ex → St → Prop} {s : St} {ops : Array Oper} {t : Th} (ht : HH id t) (hL : chkT ops t false ops.size (Array.replicate ops.size false) [] = true)
    (h : ∀ Q' : St → Prop, Imp (Q .normal) Q' → aTh Tryz.prog ops Q' t false [] s) : aCode Tryz.prog k (.region id ops true) Q s := i_th t mixedT hL h
/-- One of several contracts of a function. -/
structure HC (n : Nat) (p : Prop) : Prop where
  out : p
/-- Which list takes back what it holds. -/
structure HF (n l : Nat) : Prop
theorem folds_setH {n : Nat} {H : List AObj} {o : AObj} {l k sz : Nat} {A : List (List T)} {row : List T} (hn : HF n l) (hl : H[l]? = some o) (ho : o = .live sz (A.set k row)) (hc : closedRow row = false) (hk : k < A.length) :
    Folds H ((foldRow (H.set l .dead) row).2.set l (.live sz (A.set k (foldRow (H.set l .dead) row).1))) := folds_setc l hl ho hc hk
/-- A way that ends: the contracts of what it calls are taken from the facts at hand. -/
theorem wk {G : Prop} (h : G := by
  repeat' (first | (with_reducible first | refine i_seq ?_ | exact th_none | exact tr_none | refine tr_stop ?_ | refine i_treeH (by assumption) (by kernel_rfl) (fun Q' hQ => ?_) | refine i_thH (by assumption) (by kernel_rfl) (fun Q' hQ => ?_)) | ((first | (with_reducible first | refine i_block ?_ | refine i_regionQ (fun Q' hQ => ?_) | (refine Imp.go hQ ?_; clear hQ) | (refine ImpE.go hE ?_; clear hE) | refine tr_fr ?_ | refine tr_op (aL_run ?_) | refine tr_alt (by kernel_rfl) (aL_run ?_) ?_ | refine tr_altp ?_ ?_ | refine th_ho ?_ | refine th_stop ?_ ?_ | refine th_opm ?_ (by kernel_rfl) (aL_run ?_) | refine th_altm ?_ (by kernel_rfl) (aL_run ?_) ?_) | ((with_reducible refine i_condT ?_ ?_); (focus (simp only [go_sem, *]; done))) | ((with_reducible refine i_condF ?_ ?_); (focus (simp only [go_sem, *]; done))) | ((with_reducible first | refine resOk_g (fun h => ?_) (fun h => ?_) | refine pG_split (fun h => ?_) (fun h => ?_) | refine i_cond (by simp only [go_sem, *] <;> rfl) (fun h => ?_) (fun h => ?_)) <;> (try simp only [Bool.not_eq_eq_eq_not, Bool.not_true, Bool.not_false, reduceCtorEq] at h) <;> (try have h' := of_decide_eq_true h) <;> (try (have hz : (_ : Int) = (_ : Int) := h'; clear hz h')) <;> (try have h' := of_decide_eq_false h) <;> (try have h' := inB_t h) <;> (try (exfalso; omega))) | ((first | ((with_reducible refine hcall_of_callOk 40 true (by assumption) ?_ ?_ ?_ ?_ ?_); iterate 4 (focus (simp (disch := omega) only [go_sem, natLe_ok, *]; done))) | ((with_reducible refine hcall_of_callOk 40 true (HC.out (n := 1) (by assumption)) ?_ ?_ ?_ ?_ ?_); iterate 4 (focus (simp (disch := omega) only [go_sem, natLe_ok, *]; done))) | ((with_reducible refine hcall_of_callOk 40 true (HC.out (n := 2) (by assumption)) ?_ ?_ ?_ ?_ ?_); iterate 4 (focus (simp (disch := omega) only [go_sem, natLe_ok, *]; done))) | ((with_reducible refine hcall_of_callOk 40 true (HC.out (n := 3) (by assumption)) ?_ ?_ ?_ ?_ ?_); iterate 4 (focus (simp (disch := omega) only [go_sem, natLe_ok, *]; done))) | ((with_reducible refine hcall_of_callOk 40 true (HC.out (n := 4) (by assumption)) ?_ ?_ ?_ ?_ ?_); iterate 4 (focus (simp (disch := omega) only [go_sem, natLe_ok, *]; done))) | ((with_reducible refine hcall_of_callOk 40 true (HC.out (n := 5) (by assumption)) ?_ ?_ ?_ ?_ ?_); iterate 4 (focus (simp (disch := omega) only [go_sem, natLe_ok, *]; done))) | ((with_reducible refine hcall_of_callOk 40 true (HC.out (n := 6) (by assumption)) ?_ ?_ ?_ ?_ ?_); iterate 4 (focus (simp (disch := omega) only [go_sem, natLe_ok, *]; done)))); simp only [go_sem, *]; refine aL_run ?_)) <;> (try simp (disch := omega) only [go_sem, reduceCtorEq, *])))
  all_goals (try simp (disch := omega) only [EndK, go_sem, natLe_ok, reduceCtorEq, *])) : G := h
/-- The same, for a way that leaves one thing to be shown. -/
theorem wkc {G Q : Prop} (q : Q) (h : Hid Q → G := by
  intro q
  repeat' (first | (with_reducible first | refine i_seq ?_ | exact th_none | exact tr_none | refine tr_stop ?_ | refine i_treeH (by assumption) (by kernel_rfl) (fun Q' hQ => ?_) | refine i_thH (by assumption) (by kernel_rfl) (fun Q' hQ => ?_)) | ((first | (with_reducible first | refine i_block ?_ | refine i_regionQ (fun Q' hQ => ?_) | (refine Imp.go hQ ?_; clear hQ) | refine ImpE.go hE ?_ | refine tr_fr ?_ | refine tr_op (aL_run ?_) | refine tr_alt (by kernel_rfl) (aL_run ?_) ?_ | refine tr_altp ?_ ?_ | refine th_ho ?_ | refine th_stop ?_ ?_ | refine th_opm ?_ (by kernel_rfl) (aL_run ?_) | refine th_altm ?_ (by kernel_rfl) (aL_run ?_) ?_) | ((with_reducible refine i_condT ?_ ?_); (focus (simp only [go_sem, *]; done))) | ((with_reducible refine i_condF ?_ ?_); (focus (simp only [go_sem, *]; done))) | ((with_reducible first | refine resOk_g (fun h => ?_) (fun h => ?_) | refine pG_split (fun h => ?_) (fun h => ?_) | refine i_cond (by simp only [go_sem, *] <;> rfl) (fun h => ?_) (fun h => ?_)) <;> (try simp only [Bool.not_eq_eq_eq_not, Bool.not_true, Bool.not_false, reduceCtorEq] at h) <;> (try have h' := of_decide_eq_true h) <;> (try (have hz : (_ : Int) = (_ : Int) := h'; clear hz h')) <;> (try have h' := of_decide_eq_false h) <;> (try have h' := inB_t h) <;> (try (exfalso; omega))) | ((first | ((with_reducible refine hcall_of_callOk 40 true (by assumption) ?_ ?_ ?_ ?_ ?_); iterate 4 (focus (simp (disch := omega) only [go_sem, natLe_ok, *]; done))) | ((with_reducible refine hcall_of_callOk 40 true (HC.out (n := 1) (by assumption)) ?_ ?_ ?_ ?_ ?_); iterate 4 (focus (simp (disch := omega) only [go_sem, natLe_ok, *]; done))) | ((with_reducible refine hcall_of_callOk 40 true (HC.out (n := 2) (by assumption)) ?_ ?_ ?_ ?_ ?_); iterate 4 (focus (simp (disch := omega) only [go_sem, natLe_ok, *]; done))) | ((with_reducible refine hcall_of_callOk 40 true (HC.out (n := 3) (by assumption)) ?_ ?_ ?_ ?_ ?_); iterate 4 (focus (simp (disch := omega) only [go_sem, natLe_ok, *]; done))) | ((with_reducible refine hcall_of_callOk 40 true (HC.out (n := 4) (by assumption)) ?_ ?_ ?_ ?_ ?_); iterate 4 (focus (simp (disch := omega) only [go_sem, natLe_ok, *]; done))) | ((with_reducible refine hcall_of_callOk 40 true (HC.out (n := 5) (by assumption)) ?_ ?_ ?_ ?_ ?_); iterate 4 (focus (simp (disch := omega) only [go_sem, natLe_ok, *]; done))) | ((with_reducible refine hcall_of_callOk 40 true (HC.out (n := 6) (by assumption)) ?_ ?_ ?_ ?_ ?_); iterate 4 (focus (simp (disch := omega) only [go_sem, natLe_ok, *]; done)))); simp only [go_sem, *]; refine aL_run ?_)) <;> (try simp (disch := omega) only [go_sem, reduceCtorEq, *])))
  all_goals (try simp (disch := omega) only [EndK, go_sem, natLe_ok, reduceCtorEq, *])
  all_goals (exact q.out)) : G := h ⟨q⟩
/-- The same as_ 'wk', for a way at whose end lists take back what they hold. -/
theorem wkf {G : Prop} (h : G := by
  repeat' (first | (with_reducible first | refine i_seq ?_ | exact th_none | exact tr_none | refine tr_stop ?_ | refine i_treeH (by assumption) (by kernel_rfl) (fun Q' hQ => ?_) | refine i_thH (by assumption) (by kernel_rfl) (fun Q' hQ => ?_)) | ((first | (with_reducible first | refine i_block ?_ | refine i_regionQ (fun Q' hQ => ?_) | (refine Imp.go hQ ?_; clear hQ) | (refine ImpE.go hE ?_; clear hE) | refine tr_fr ?_ | refine tr_op (aL_run ?_) | refine tr_alt (by kernel_rfl) (aL_run ?_) ?_ | refine tr_altp ?_ ?_ | refine th_ho ?_ | refine th_stop ?_ ?_ | refine th_opm ?_ (by kernel_rfl) (aL_run ?_) | refine th_altm ?_ (by kernel_rfl) (aL_run ?_) ?_) | ((with_reducible refine i_condT ?_ ?_); (focus (simp only [go_sem, *]; done))) | ((with_reducible refine i_condF ?_ ?_); (focus (simp only [go_sem, *]; done))) | ((with_reducible first | refine resOk_g (fun h => ?_) (fun h => ?_) | refine pG_split (fun h => ?_) (fun h => ?_) | refine i_cond (by simp only [go_sem, *] <;> rfl) (fun h => ?_) (fun h => ?_)) <;> (try simp only [Bool.not_eq_eq_eq_not, Bool.not_true, Bool.not_false, reduceCtorEq] at h) <;> (try have h' := of_decide_eq_true h) <;> (try (have hz : (_ : Int) = (_ : Int) := h'; clear hz h')) <;> (try have h' := of_decide_eq_false h) <;> (try have h' := inB_t h) <;> (try (exfalso; omega))) | ((first | ((with_reducible refine hcall_of_callOk 40 true (by assumption) ?_ ?_ ?_ ?_ ?_); iterate 4 (focus (simp (disch := omega) only [go_sem, natLe_ok, *]; done))) | ((with_reducible refine hcall_of_callOk 40 true (HC.out (n := 1) (by assumption)) ?_ ?_ ?_ ?_ ?_); iterate 4 (focus (simp (disch := omega) only [go_sem, natLe_ok, *]; done))) | ((with_reducible refine hcall_of_callOk 40 true (HC.out (n := 2) (by assumption)) ?_ ?_ ?_ ?_ ?_); iterate 4 (focus (simp (disch := omega) only [go_sem, natLe_ok, *]; done))) | ((with_reducible refine hcall_of_callOk 40 true (HC.out (n := 3) (by assumption)) ?_ ?_ ?_ ?_ ?_); iterate 4 (focus (simp (disch := omega) only [go_sem, natLe_ok, *]; done))) | ((with_reducible refine hcall_of_callOk 40 true (HC.out (n := 4) (by assumption)) ?_ ?_ ?_ ?_ ?_); iterate 4 (focus (simp (disch := omega) only [go_sem, natLe_ok, *]; done))) | ((with_reducible refine hcall_of_callOk 40 true (HC.out (n := 5) (by assumption)) ?_ ?_ ?_ ?_ ?_); iterate 4 (focus (simp (disch := omega) only [go_sem, natLe_ok, *]; done))) | ((with_reducible refine hcall_of_callOk 40 true (HC.out (n := 6) (by assumption)) ?_ ?_ ?_ ?_ ?_); iterate 4 (focus (simp (disch := omega) only [go_sem, natLe_ok, *]; done)))); simp only [go_sem, *]; refine aL_run ?_)) <;> (try simp (disch := omega) only [go_sem, reduceCtorEq, *])) | ((first | apply hcall_folds | apply endF_folds); (focus ((first | refine folds_setH (n := 0) (by assumption) (by rfl) (by with_reducible rfl) ?_ ?_ | refine folds_setH (n := 1) (by assumption) (by rfl) (by with_reducible rfl) ?_ ?_ | refine folds_setH (n := 2) (by assumption) (by rfl) (by with_reducible rfl) ?_ ?_ | refine folds_setH (n := 3) (by assumption) (by rfl) (by with_reducible rfl) ?_ ?_ | refine folds_setH (n := 4) (by assumption) (by rfl) (by with_reducible rfl) ?_ ?_); (focus (simp (disch := omega) only [go_sem]; done)); (focus (first | omega | (simp (disch := omega) only [go_sem]; omega))))); (try simp (disch := omega) only [go_sem, reduceCtorEq, *])))
  all_goals (try (with_reducible refine endF_k ?_))
  all_goals (try simp (disch := omega) only [EndK, go_sem, natLe_ok, reduceCtorEq, *])) : G := h
/-- A way that ends: the contracts of what it calls are taken from the facts at hand. -/
theorem wki {G : Prop} (h : G := by
  repeat' (first | (with_reducible first | refine i_seq ?_ | exact th_none | exact tr_none | refine tr_stop ?_ | refine i_treeH (by assumption) (by kernel_rfl) (fun Q' hQ => ?_) | refine i_thH (by assumption) (by kernel_rfl) (fun Q' hQ => ?_)) | ((first | (with_reducible first | refine i_block ?_ | refine i_regionQ (fun Q' hQ => ?_) | (refine Imp.go hQ ?_; clear hQ) | (refine ImpE.go hE ?_; clear hE) | refine tr_fr ?_ | refine tr_op (aL_run ?_) | refine tr_alt (by kernel_rfl) (aL_run ?_) ?_ | refine tr_altp ?_ ?_ | refine th_ho ?_ | refine th_stop ?_ ?_ | refine th_opm ?_ (by kernel_rfl) (aL_run ?_) | refine th_altm ?_ (by kernel_rfl) (aL_run ?_) ?_) | ((with_reducible refine i_condT ?_ ?_); (focus (simp only [go_sem, *]; done))) | ((with_reducible refine i_condF ?_ ?_); (focus (simp only [go_sem, *]; done))) | ((with_reducible first | refine resOk_g (fun h => ?_) (fun h => ?_) | refine pG_split (fun h => ?_) (fun h => ?_) | refine i_cond (by simp only [go_sem, *] <;> rfl) (fun h => ?_) (fun h => ?_)) <;> (try simp only [Bool.not_eq_eq_eq_not, Bool.not_true, Bool.not_false, reduceCtorEq] at h) <;> (try have h' := of_decide_eq_true h) <;> (try (have hz : (_ : Int) = (_ : Int) := h'; clear hz h')) <;> (try have h' := of_decide_eq_false h) <;> (try have h' := inB_t h) <;> (try (exfalso; omega))) | ((first | ((with_reducible refine hcall_of_callOk 40 true (by assumption) ?_ ?_ ?_ ?_ ?_); iterate 4 (focus (simp (disch := omega) only [go_sem, Int.reduceBEq, Int.reduceBNe, Int.reduceNeg, Int.reduceLE, Int.reduceLT, Int.reduceEq, natLe_ok, *]; done))) | ((with_reducible refine hcall_of_callOk 40 true (HC.out (n := 1) (by assumption)) ?_ ?_ ?_ ?_ ?_); iterate 4 (focus (simp (disch := omega) only [go_sem, Int.reduceBEq, Int.reduceBNe, Int.reduceNeg, Int.reduceLE, Int.reduceLT, Int.reduceEq, natLe_ok, *]; done))) | ((with_reducible refine hcall_of_callOk 40 true (HC.out (n := 2) (by assumption)) ?_ ?_ ?_ ?_ ?_); iterate 4 (focus (simp (disch := omega) only [go_sem, Int.reduceBEq, Int.reduceBNe, Int.reduceNeg, Int.reduceLE, Int.reduceLT, Int.reduceEq, natLe_ok, *]; done))) | ((with_reducible refine hcall_of_callOk 40 true (HC.out (n := 3) (by assumption)) ?_ ?_ ?_ ?_ ?_); iterate 4 (focus (simp (disch := omega) only [go_sem, Int.reduceBEq, Int.reduceBNe, Int.reduceNeg, Int.reduceLE, Int.reduceLT, Int.reduceEq, natLe_ok, *]; done))) | ((with_reducible refine hcall_of_callOk 40 true (HC.out (n := 4) (by assumption)) ?_ ?_ ?_ ?_ ?_); iterate 4 (focus (simp (disch := omega) only [go_sem, Int.reduceBEq, Int.reduceBNe, Int.reduceNeg, Int.reduceLE, Int.reduceLT, Int.reduceEq, natLe_ok, *]; done))) | ((with_reducible refine hcall_of_callOk 40 true (HC.out (n := 5) (by assumption)) ?_ ?_ ?_ ?_ ?_); iterate 4 (focus (simp (disch := omega) only [go_sem, Int.reduceBEq, Int.reduceBNe, Int.reduceNeg, Int.reduceLE, Int.reduceLT, Int.reduceEq, natLe_ok, *]; done))) | ((with_reducible refine hcall_of_callOk 40 true (HC.out (n := 6) (by assumption)) ?_ ?_ ?_ ?_ ?_); iterate 4 (focus (simp (disch := omega) only [go_sem, Int.reduceBEq, Int.reduceBNe, Int.reduceNeg, Int.reduceLE, Int.reduceLT, Int.reduceEq, natLe_ok, *]; done)))); simp only [go_sem, Int.reduceBEq, Int.reduceBNe, Int.reduceNeg, Int.reduceLE, Int.reduceLT, Int.reduceEq, *]; refine aL_run ?_)) <;> (try simp (disch := omega) only [go_sem, Int.reduceBEq, Int.reduceBNe, Int.reduceNeg, Int.reduceLE, Int.reduceLT, Int.reduceEq, reduceCtorEq, *])))
  all_goals (try simp (disch := omega) only [EndK, go_sem, Int.reduceBEq, Int.reduceBNe, Int.reduceNeg, Int.reduceLE, Int.reduceLT, Int.reduceEq, natLe_ok, reduceCtorEq, *])) : G := h
/-- The same, for a way that leaves one thing to be shown. -/
theorem wkci {G Q : Prop} (q : Q) (h : Hid Q → G := by
  intro q
  repeat' (first | (with_reducible first | refine i_seq ?_ | exact th_none | exact tr_none | refine tr_stop ?_ | refine i_treeH (by assumption) (by kernel_rfl) (fun Q' hQ => ?_) | refine i_thH (by assumption) (by kernel_rfl) (fun Q' hQ => ?_)) | ((first | (with_reducible first | refine i_block ?_ | refine i_regionQ (fun Q' hQ => ?_) | (refine Imp.go hQ ?_; clear hQ) | refine ImpE.go hE ?_ | refine tr_fr ?_ | refine tr_op (aL_run ?_) | refine tr_alt (by kernel_rfl) (aL_run ?_) ?_ | refine tr_altp ?_ ?_ | refine th_ho ?_ | refine th_stop ?_ ?_ | refine th_opm ?_ (by kernel_rfl) (aL_run ?_) | refine th_altm ?_ (by kernel_rfl) (aL_run ?_) ?_) | ((with_reducible refine i_condT ?_ ?_); (focus (simp only [go_sem, *]; done))) | ((with_reducible refine i_condF ?_ ?_); (focus (simp only [go_sem, *]; done))) | ((with_reducible first | refine resOk_g (fun h => ?_) (fun h => ?_) | refine pG_split (fun h => ?_) (fun h => ?_) | refine i_cond (by simp only [go_sem, *] <;> rfl) (fun h => ?_) (fun h => ?_)) <;> (try simp only [Bool.not_eq_eq_eq_not, Bool.not_true, Bool.not_false, reduceCtorEq] at h) <;> (try have h' := of_decide_eq_true h) <;> (try (have hz : (_ : Int) = (_ : Int) := h'; clear hz h')) <;> (try have h' := of_decide_eq_false h) <;> (try have h' := inB_t h) <;> (try (exfalso; omega))) | ((first | ((with_reducible refine hcall_of_callOk 40 true (by assumption) ?_ ?_ ?_ ?_ ?_); iterate 4 (focus (simp (disch := omega) only [go_sem, Int.reduceBEq, Int.reduceBNe, Int.reduceNeg, Int.reduceLE, Int.reduceLT, Int.reduceEq, natLe_ok, *]; done))) | ((with_reducible refine hcall_of_callOk 40 true (HC.out (n := 1) (by assumption)) ?_ ?_ ?_ ?_ ?_); iterate 4 (focus (simp (disch := omega) only [go_sem, Int.reduceBEq, Int.reduceBNe, Int.reduceNeg, Int.reduceLE, Int.reduceLT, Int.reduceEq, natLe_ok, *]; done))) | ((with_reducible refine hcall_of_callOk 40 true (HC.out (n := 2) (by assumption)) ?_ ?_ ?_ ?_ ?_); iterate 4 (focus (simp (disch := omega) only [go_sem, Int.reduceBEq, Int.reduceBNe, Int.reduceNeg, Int.reduceLE, Int.reduceLT, Int.reduceEq, natLe_ok, *]; done))) | ((with_reducible refine hcall_of_callOk 40 true (HC.out (n := 3) (by assumption)) ?_ ?_ ?_ ?_ ?_); iterate 4 (focus (simp (disch := omega) only [go_sem, Int.reduceBEq, Int.reduceBNe, Int.reduceNeg, Int.reduceLE, Int.reduceLT, Int.reduceEq, natLe_ok, *]; done))) | ((with_reducible refine hcall_of_callOk 40 true (HC.out (n := 4) (by assumption)) ?_ ?_ ?_ ?_ ?_); iterate 4 (focus (simp (disch := omega) only [go_sem, Int.reduceBEq, Int.reduceBNe, Int.reduceNeg, Int.reduceLE, Int.reduceLT, Int.reduceEq, natLe_ok, *]; done))) | ((with_reducible refine hcall_of_callOk 40 true (HC.out (n := 5) (by assumption)) ?_ ?_ ?_ ?_ ?_); iterate 4 (focus (simp (disch := omega) only [go_sem, Int.reduceBEq, Int.reduceBNe, Int.reduceNeg, Int.reduceLE, Int.reduceLT, Int.reduceEq, natLe_ok, *]; done))) | ((with_reducible refine hcall_of_callOk 40 true (HC.out (n := 6) (by assumption)) ?_ ?_ ?_ ?_ ?_); iterate 4 (focus (simp (disch := omega) only [go_sem, Int.reduceBEq, Int.reduceBNe, Int.reduceNeg, Int.reduceLE, Int.reduceLT, Int.reduceEq, natLe_ok, *]; done)))); simp only [go_sem, Int.reduceBEq, Int.reduceBNe, Int.reduceNeg, Int.reduceLE, Int.reduceLT, Int.reduceEq, *]; refine aL_run ?_)) <;> (try simp (disch := omega) only [go_sem, Int.reduceBEq, Int.reduceBNe, Int.reduceNeg, Int.reduceLE, Int.reduceLT, Int.reduceEq, reduceCtorEq, *])))
  all_goals (try simp (disch := omega) only [EndK, go_sem, Int.reduceBEq, Int.reduceBNe, Int.reduceNeg, Int.reduceLE, Int.reduceLT, Int.reduceEq, natLe_ok, reduceCtorEq, *])
  all_goals (exact q.out)) : G := h ⟨q⟩
/-- The same as_ 'wk', for a way at whose end lists take back what they hold. -/
theorem wkfi {G : Prop} (h : G := by
  repeat' (first | (with_reducible first | refine i_seq ?_ | exact th_none | exact tr_none | refine tr_stop ?_ | refine i_treeH (by assumption) (by kernel_rfl) (fun Q' hQ => ?_) | refine i_thH (by assumption) (by kernel_rfl) (fun Q' hQ => ?_)) | ((first | (with_reducible first | refine i_block ?_ | refine i_regionQ (fun Q' hQ => ?_) | (refine Imp.go hQ ?_; clear hQ) | (refine ImpE.go hE ?_; clear hE) | refine tr_fr ?_ | refine tr_op (aL_run ?_) | refine tr_alt (by kernel_rfl) (aL_run ?_) ?_ | refine tr_altp ?_ ?_ | refine th_ho ?_ | refine th_stop ?_ ?_ | refine th_opm ?_ (by kernel_rfl) (aL_run ?_) | refine th_altm ?_ (by kernel_rfl) (aL_run ?_) ?_) | ((with_reducible refine i_condT ?_ ?_); (focus (simp only [go_sem, *]; done))) | ((with_reducible refine i_condF ?_ ?_); (focus (simp only [go_sem, *]; done))) | ((with_reducible first | refine resOk_g (fun h => ?_) (fun h => ?_) | refine pG_split (fun h => ?_) (fun h => ?_) | refine i_cond (by simp only [go_sem, *] <;> rfl) (fun h => ?_) (fun h => ?_)) <;> (try simp only [Bool.not_eq_eq_eq_not, Bool.not_true, Bool.not_false, reduceCtorEq] at h) <;> (try have h' := of_decide_eq_true h) <;> (try (have hz : (_ : Int) = (_ : Int) := h'; clear hz h')) <;> (try have h' := of_decide_eq_false h) <;> (try have h' := inB_t h) <;> (try (exfalso; omega))) | ((first | ((with_reducible refine hcall_of_callOk 40 true (by assumption) ?_ ?_ ?_ ?_ ?_); iterate 4 (focus (simp (disch := omega) only [go_sem, Int.reduceBEq, Int.reduceBNe, Int.reduceNeg, Int.reduceLE, Int.reduceLT, Int.reduceEq, natLe_ok, *]; done))) | ((with_reducible refine hcall_of_callOk 40 true (HC.out (n := 1) (by assumption)) ?_ ?_ ?_ ?_ ?_); iterate 4 (focus (simp (disch := omega) only [go_sem, Int.reduceBEq, Int.reduceBNe, Int.reduceNeg, Int.reduceLE, Int.reduceLT, Int.reduceEq, natLe_ok, *]; done))) | ((with_reducible refine hcall_of_callOk 40 true (HC.out (n := 2) (by assumption)) ?_ ?_ ?_ ?_ ?_); iterate 4 (focus (simp (disch := omega) only [go_sem, Int.reduceBEq, Int.reduceBNe, Int.reduceNeg, Int.reduceLE, Int.reduceLT, Int.reduceEq, natLe_ok, *]; done))) | ((with_reducible refine hcall_of_callOk 40 true (HC.out (n := 3) (by assumption)) ?_ ?_ ?_ ?_ ?_); iterate 4 (focus (simp (disch := omega) only [go_sem, Int.reduceBEq, Int.reduceBNe, Int.reduceNeg, Int.reduceLE, Int.reduceLT, Int.reduceEq, natLe_ok, *]; done))) | ((with_reducible refine hcall_of_callOk 40 true (HC.out (n := 4) (by assumption)) ?_ ?_ ?_ ?_ ?_); iterate 4 (focus (simp (disch := omega) only [go_sem, Int.reduceBEq, Int.reduceBNe, Int.reduceNeg, Int.reduceLE, Int.reduceLT, Int.reduceEq, natLe_ok, *]; done))) | ((with_reducible refine hcall_of_callOk 40 true (HC.out (n := 5) (by assumption)) ?_ ?_ ?_ ?_ ?_); iterate 4 (focus (simp (disch := omega) only [go_sem, Int.reduceBEq, Int.reduceBNe, Int.reduceNeg, Int.reduceLE, Int.reduceLT, Int.reduceEq, natLe_ok, *]; done))) | ((with_reducible refine hcall_of_callOk 40 true (HC.out (n := 6) (by assumption)) ?_ ?_ ?_ ?_ ?_); iterate 4 (focus (simp (disch := omega) only [go_sem, Int.reduceBEq, Int.reduceBNe, Int.reduceNeg, Int.reduceLE, Int.reduceLT, Int.reduceEq, natLe_ok, *]; done)))); simp only [go_sem, Int.reduceBEq, Int.reduceBNe, Int.reduceNeg, Int.reduceLE, Int.reduceLT, Int.reduceEq, *]; refine aL_run ?_)) <;> (try simp (disch := omega) only [go_sem, Int.reduceBEq, Int.reduceBNe, Int.reduceNeg, Int.reduceLE, Int.reduceLT, Int.reduceEq, reduceCtorEq, *])) | ((first | apply hcall_folds | apply endF_folds); (focus ((first | refine folds_setH (n := 0) (by assumption) (by rfl) (by with_reducible rfl) ?_ ?_ | refine folds_setH (n := 1) (by assumption) (by rfl) (by with_reducible rfl) ?_ ?_ | refine folds_setH (n := 2) (by assumption) (by rfl) (by with_reducible rfl) ?_ ?_ | refine folds_setH (n := 3) (by assumption) (by rfl) (by with_reducible rfl) ?_ ?_ | refine folds_setH (n := 4) (by assumption) (by rfl) (by with_reducible rfl) ?_ ?_); (focus (simp (disch := omega) only [go_sem]; done)); (focus (first | omega | (simp (disch := omega) only [go_sem]; omega))))); (try simp (disch := omega) only [go_sem, Int.reduceBEq, Int.reduceBNe, Int.reduceNeg, Int.reduceLE, Int.reduceLT, Int.reduceEq, reduceCtorEq, *])))
  all_goals (try (with_reducible refine endF_k ?_))
  all_goals (try simp (disch := omega) only [EndK, go_sem, Int.reduceBEq, Int.reduceBNe, Int.reduceNeg, Int.reduceLE, Int.reduceLT, Int.reduceEq, natLe_ok, reduceCtorEq, *])) : G := h
end Go.Proofs.YtejnpiielcbkkaaGreat.E
end
section
set_option maxRecDepth 100000
set_option maxHeartbeats 4000000
namespace Go.Proofs.YtejnpiielcbkkaaGreat.E
/-! ### Lists of whole numbers: how long, made anew, alike -/
theorem szIntS_ok (xs : List Int) (left : Int) (h : 0 ≤ left ∧ left ≤ 1048576) (hs : xs.length ≤ 9223372036854775807) : CallE Tryz.prog 48 [.one (.ro 1 (intsD xs)), .one (iV left)] (fun r : Int => .s (.one (iV r))) (fun _ => [none, none]) (fun r => -1 ≤ r ∧ r ≤ left ∧ (0 ≤ r → xs.length ≤ 1048576)) := by
  obtain ⟨h1, h2⟩ := h
  refine callE_of_hcall 40 (hcall_of_body Tryz.func48 rfl (by kernel_rfl) ?_)
  simp (disch := omega) only [go_sem, Tryz.ntmps48, Tryz.results48]
  repeat' (first | (with_reducible first | refine i_seq ?_) | ((first | (with_reducible first | refine i_block ?_ | refine i_regionQ (fun Q' hQ => ?_) | (refine Imp.go hQ ?_; clear hQ)) | ((with_reducible refine i_condT ?_ ?_); (focus (simp only [go_sem, *]; done))) | ((with_reducible refine i_condF ?_ ?_); (focus (simp only [go_sem, *]; done))) | ((with_reducible first | refine resOk_g (fun h => ?_) (fun h => ?_) | refine i_cond (by simp only [go_sem, *] <;> rfl) (fun h => ?_) (fun h => ?_)) <;> (try simp only [Bool.not_eq_eq_eq_not, Bool.not_true, Bool.not_false, reduceCtorEq] at h) <;> (try have h' := of_decide_eq_true h) <;> (try (have hz : (_ : Int) = (_ : Int) := h'; clear hz h')) <;> (try have h' := of_decide_eq_false h) <;> (try have h' := inB_t h) <;> (try (exfalso; omega)))) <;> (try simp (disch := omega) only [go_sem, *])))
  all_goals (try simp (disch := omega) only [EndK, go_sem, natLe_ok, *])
  · exact ⟨-1, ⟨by omega, by omega, fun h => by first | trivial | omega⟩, rfl⟩
  · exact ⟨left - xs.length, ⟨by omega, by omega, fun _ => by first | trivial | omega⟩, rfl⟩
def mixI (xs : List Int) (k : Nat) : List Int := xs.take k ++ List.replicate (xs.length - k) 0
theorem mixI_len {xs : List Int} {k : Nat} (hk : k ≤ xs.length) : (mixI xs k).length = xs.length := by
  simp only [mixI, List.length_append, List.length_take, List.length_replicate]; omega
theorem mixI_zero (xs : List Int) : mixI xs 0 = List.replicate xs.length 0 := by simp [mixI]
theorem mixI_end {xs : List Int} {k : Nat} (h : xs.length ≤ k) : mixI xs k = xs := by
  rw [mixI, List.take_of_length_le h, show xs.length - k = 0 by omega]; simp
theorem mixI_set {xs : List Int} {k : Nat} (hk : k < xs.length) : (mixI xs k).set k (xs.getD k 0) = mixI xs (k + 1) := by
  have h1 : (xs.take k).length = k := by rw [List.length_take]; omega
  have h2 : xs.length - k = (xs.length - (k + 1)) + 1 := by omega
  unfold mixI
  rw [h2, List.replicate_succ, List.set_append_right _ _ (by omega), h1, Nat.sub_self, List.set_cons_zero, List.take_succ_eq_append_getElem hk, List.append_assoc]
  simp [hk]
theorem repl_intsT (n : Nat) : List.replicate n [T.v (.int .i64 0)] = intsT (List.replicate n 0) := by simp [intsT]
theorem toIntS_ok (xs : List Int) (hs : xs.length ≤ 1048576) : CallOk Tryz.prog 15 [.one (.ro 1 (intsD xs))] (.s (.one (.own 1 (intsT xs)))) [none] := by
  have hz := mixI_zero xs
  refine callOk_of_hcall 40 (hcall_of_body Tryz.func15 rfl (by kernel_rfl) ?_)
  simp (disch := omega) only [go_sem, Tryz.ntmps15, Tryz.results15]
  refine wkc ?_
  refine i_loop (α := {k : Nat // k ≤ xs.length}) (fun k => ⟨mkEnv 22 [(0, .one (.ro 1 (intsD xs))), (3, .one (.ref 0 0 xs.length)), (4, .one (iV k.1))], [.live 1 (intsT (mixI xs k.1))]⟩) (fun k => xs.length - k.1) ⟨0, by omega⟩ ?_ ?_
  · first | (refine weak_canon [0, 3, 4] [0] ?_ ?_ ?_ <;> (simp (disch := omega) only [go_sem, hz, repl_intsT]; done)) | (refine weak_canon [0, 3, 4] [0] ?_ ?_ ?_ <;> (try (simp (disch := omega) only [go_sem, hz, repl_intsT])) <;> trace_state)
  rintro ⟨k, hk⟩
  have hml := mixI_len hk
  simp (disch := omega) only [go_sem]
  repeat' (first | (with_reducible first | refine i_seq ?_) | ((first | (with_reducible first | refine i_block ?_ | refine i_regionQ (fun Q' hQ => ?_) | (refine Imp.go hQ ?_; clear hQ)) | ((with_reducible refine i_condT ?_ ?_); (focus (simp only [go_sem, *]; done))) | ((with_reducible refine i_condF ?_ ?_); (focus (simp only [go_sem, *]; done))) | ((with_reducible first | refine resOk_g (fun h => ?_) (fun h => ?_) | refine i_cond (by simp only [go_sem, *] <;> rfl) (fun h => ?_) (fun h => ?_)) <;> (try simp only [Bool.not_eq_eq_eq_not, Bool.not_true, Bool.not_false, reduceCtorEq] at h) <;> (try have h' := of_decide_eq_true h) <;> (try (have hz : (_ : Int) = (_ : Int) := h'; clear hz h')) <;> (try have h' := of_decide_eq_false h) <;> (try have h' := inB_t h) <;> (try (exfalso; omega)))) <;> (try simp (disch := omega) only [go_sem, *])))
  all_goals (try simp (disch := omega) only [EndK, go_sem, natLe_ok, *])
  all_goals by_cases hkl : k < xs.length
  all_goals (try (exfalso; omega))
  · have e := mixI_set hkl
    refine ⟨⟨k + 1, by omega⟩, ?_, by simp only; omega⟩
    first | (refine weak_canon [0, 3, 4] [0] ?_ ?_ ?_ <;> (simp (disch := omega) only [go_sem, e]; done)) | trace_state
  all_goals rw [mixI_end (by omega), List.take_length]
theorem eqIntS_ok (xs : List Int) (hs : xs.length ≤ 1099511627776) : CallOk Tryz.prog 18 [.one (.ro 1 (intsD xs)), .one (.ro 1 (intsD xs))] (.s (.one (bV true))) [none, none] := by
  refine callOk_of_hcall 40 (hcall_of_body Tryz.func18 rfl (by kernel_rfl) ?_)
  simp (disch := omega) only [go_sem, Tryz.ntmps18, Tryz.results18]
  have x1 : HT 6 (.fr [0, 1, 2, 3, 4, 5, 6, 7, 8] (.stop)) := ⟨⟩
  refine wkc ?_
  refine i_loop (α := {k : Nat // k ≤ xs.length}) (fun k => ⟨mkEnv 26 [(0, .one (.ro 1 (intsD xs))), (1, .one (.ro 1 (intsD xs))), (5, .one (iV k.1))], []⟩) (fun k => xs.length - k.1) ⟨0, by omega⟩ ?_ ?_
  · (refine weak_canon [0, 1, 5] [] ?_ ?_ ?_ <;> (simp (disch := omega) only [go_sem]; done))
  rintro ⟨k, hk⟩
  simp (disch := omega) only [go_sem]
  repeat' (first | (with_reducible first | refine i_seq ?_ | exact tr_none | refine tr_stop ?_ | refine i_treeQ (id := 6) (.fr [0, 1, 2, 3, 4, 5, 6, 7, 8] (.stop)) mixedT (by kernel_rfl) (fun Q' hQ => ?_)) | ((first | (with_reducible first | refine i_block ?_ | refine i_regionQ (fun Q' hQ => ?_) | (refine Imp.go hQ ?_; clear hQ) | refine tr_fr ?_ | refine tr_op (aL_run ?_) | refine tr_alt (by kernel_rfl) (aL_run ?_) ?_ | refine tr_altp ?_ ?_) | ((with_reducible refine i_condT ?_ ?_); (focus (simp only [go_sem, *]; done))) | ((with_reducible refine i_condF ?_ ?_); (focus (simp only [go_sem, *]; done))) | ((with_reducible first | refine resOk_g (fun h => ?_) (fun h => ?_) | refine pG_split (fun h => ?_) (fun h => ?_) | refine i_cond (by simp only [go_sem, *] <;> rfl) (fun h => ?_) (fun h => ?_)) <;> (try simp only [Bool.not_eq_eq_eq_not, Bool.not_true, Bool.not_false, reduceCtorEq] at h) <;> (try have h' := of_decide_eq_true h) <;> (try (have hz : (_ : Int) = (_ : Int) := h'; clear hz h')) <;> (try have h' := of_decide_eq_false h) <;> (try have h' := inB_t h) <;> (try (exfalso; omega)))) <;> (try simp (disch := omega) only [go_sem, bne_self_eq_false, *])))
  all_goals (try simp (disch := omega) only [EndK, go_sem, bne_self_eq_false, natLe_ok, *])
  refine ⟨⟨k + 1, by omega⟩, ?_, by simp only; omega⟩
  (refine weak_canon [0, 1, 5] [] ?_ ?_ ?_ <;> (simp (disch := omega) only [go_sem]; done))
/-! Lists of truths. -/
def boolsT (xs : List Bool) : List (List T) := xs.map fun b => [T.v (.bool b)]
def boolsD (xs : List Bool) : List (List D) := xs.map fun b => [D.v (.bool b)]
theorem boolsT_nil : boolsT [] = [] := rfl
theorem boolsT_len (xs : List Bool) : (boolsT xs).length = xs.length := by simp [boolsT]
theorem boolsD_len (xs : List Bool) : (boolsD xs).length = xs.length := by simp [boolsD]
theorem boolsD_ofD (xs : List Bool) : (boolsD xs).map (·.map ofD) = boolsT xs := by rw [boolsD, List.map_map]; rfl
theorem boolsT_take (xs : List Bool) (n : Nat) : (boolsT xs).take n = boolsT (xs.take n) := by simp [boolsT, List.map_take]
theorem boolsD_take (xs : List Bool) (n : Nat) : (boolsD xs).take n = boolsD (xs.take n) := by simp [boolsD, List.map_take]
theorem boolsT_get {xs : List Bool} {k : Nat} (h : k < xs.length) : (boolsT xs)[k]? = some [T.v (.bool (xs.getD k false))] := by simp [boolsT, h]
theorem boolsD_get {xs : List Bool} {k : Nat} (h : k < xs.length) : (boolsD xs)[k]? = some [D.v (.bool (xs.getD k false))] := by simp [boolsD, h]
theorem boolsT_set (xs : List Bool) (k : Nat) (b : Bool) : (boolsT xs).set k [T.v (.bool b)] = boolsT (xs.set k b) := by simp [boolsT, List.map_set]
theorem boolsT_closed (xs : List Bool) : closedRows (boolsT xs) = true := closed_map (fun _ => rfl) xs
theorem boolsT_noRo (xs : List Bool) : noRoRows (boolsT xs) = true := noRo_map (fun _ => rfl) xs
theorem boolsT_flat (xs : List Bool) : flat (boolsT xs) = true := flat_map (fun _ => rfl) xs
theorem boolsT_look {n : Nat} {H : List AObj} (xs : List Bool) : lookRowsBy (lookD (n + 1) H) (boolsT xs) (boolsD xs) := lookRowsBy_map fun x _ => ⟨rfl, trivial⟩
theorem boolsT_app (xs ys : List Bool) : boolsT xs ++ boolsT ys = boolsT (xs ++ ys) := by simp [boolsT]
theorem boolsT_app1 (xs : List Bool) (b : Bool) : boolsT xs ++ [[T.v (.bool b)]] = boolsT (xs ++ [b]) := by simp [boolsT]
attribute [go_sem] boolsT_nil boolsT_len boolsD_len boolsD_ofD boolsT_take boolsD_take boolsT_get boolsD_get boolsT_set boolsT_closed boolsT_noRo boolsT_flat boolsT_look boolsT_app boolsT_app1
theorem szBoolS_ok (xs : List Bool) (left : Int) (h : 0 ≤ left ∧ left ≤ 1048576) (hs : xs.length ≤ 9223372036854775807) : CallE Tryz.prog 123 [.one (.ro 1 (boolsD xs)), .one (iV left)] (fun r : Int => .s (.one (iV r))) (fun _ => [none, none]) (fun r => -1 ≤ r ∧ r ≤ left ∧ (0 ≤ r → xs.length ≤ 1048576)) := by
  obtain ⟨h1, h2⟩ := h
  refine callE_of_hcall 40 (hcall_of_body Tryz.func123 rfl (by kernel_rfl) ?_)
  simp (disch := omega) only [go_sem, Tryz.ntmps123, Tryz.results123]
  repeat' (first | (with_reducible first | refine i_seq ?_) | ((first | (with_reducible first | refine i_block ?_ | refine i_regionQ (fun Q' hQ => ?_) | (refine Imp.go hQ ?_; clear hQ)) | ((with_reducible refine i_condT ?_ ?_); (focus (simp only [go_sem, *]; done))) | ((with_reducible refine i_condF ?_ ?_); (focus (simp only [go_sem, *]; done))) | ((with_reducible first | refine resOk_g (fun h => ?_) (fun h => ?_) | refine i_cond (by simp only [go_sem, *] <;> rfl) (fun h => ?_) (fun h => ?_)) <;> (try simp only [Bool.not_eq_eq_eq_not, Bool.not_true, Bool.not_false, reduceCtorEq] at h) <;> (try have h' := of_decide_eq_true h) <;> (try (have hz : (_ : Int) = (_ : Int) := h'; clear hz h')) <;> (try have h' := of_decide_eq_false h) <;> (try have h' := inB_t h) <;> (try (exfalso; omega)))) <;> (try simp (disch := omega) only [go_sem, *])))
  all_goals (try simp (disch := omega) only [EndK, go_sem, natLe_ok, *])
  · exact ⟨-1, ⟨by omega, by omega, fun h => by first | trivial | omega⟩, rfl⟩
  · exact ⟨left - xs.length, ⟨by omega, by omega, fun _ => by first | trivial | omega⟩, rfl⟩
def mixB (xs : List Bool) (k : Nat) : List Bool := xs.take k ++ List.replicate (xs.length - k) false
theorem mixB_len {xs : List Bool} {k : Nat} (hk : k ≤ xs.length) : (mixB xs k).length = xs.length := by
  simp only [mixB, List.length_append, List.length_take, List.length_replicate]; omega
theorem mixB_zero (xs : List Bool) : mixB xs 0 = List.replicate xs.length false := by simp [mixB]
theorem mixB_end {xs : List Bool} {k : Nat} (h : xs.length ≤ k) : mixB xs k = xs := by
  rw [mixB, List.take_of_length_le h, show xs.length - k = 0 by omega]; simp
theorem mixB_set {xs : List Bool} {k : Nat} (hk : k < xs.length) : (mixB xs k).set k (xs.getD k false) = mixB xs (k + 1) := by
  have h1 : (xs.take k).length = k := by rw [List.length_take]; omega
  have h2 : xs.length - k = (xs.length - (k + 1)) + 1 := by omega
  unfold mixB
  rw [h2, List.replicate_succ, List.set_append_right _ _ (by omega), h1, Nat.sub_self, List.set_cons_zero, List.take_succ_eq_append_getElem hk, List.append_assoc]
  simp [hk]
theorem repl_boolsT (n : Nat) : List.replicate n [T.v (.bool false)] = boolsT (List.replicate n false) := by simp [boolsT]
theorem toBoolS_ok (xs : List Bool) (hs : xs.length ≤ 1048576) : CallOk Tryz.prog 138 [.one (.ro 1 (boolsD xs))] (.s (.one (.own 1 (boolsT xs)))) [none] := by
  have hz := mixB_zero xs
  refine callOk_of_hcall 40 (hcall_of_body Tryz.func138 rfl (by kernel_rfl) ?_)
  simp (disch := omega) only [go_sem, Tryz.ntmps138, Tryz.results138]
  refine wkc ?_
  refine i_loop (α := {k : Nat // k ≤ xs.length}) (fun k => ⟨mkEnv 22 [(0, .one (.ro 1 (boolsD xs))), (3, .one (.ref 0 0 xs.length)), (4, .one (iV k.1))], [.live 1 (boolsT (mixB xs k.1))]⟩) (fun k => xs.length - k.1) ⟨0, by omega⟩ ?_ ?_
  · (refine weak_canon [0, 3, 4] [0] ?_ ?_ ?_ <;> (simp (disch := omega) only [go_sem, hz, repl_boolsT]; done))
  rintro ⟨k, hk⟩
  have hml := mixB_len hk
  simp (disch := omega) only [go_sem]
  repeat' (first | (with_reducible first | refine i_seq ?_) | ((first | (with_reducible first | refine i_block ?_ | refine i_regionQ (fun Q' hQ => ?_) | (refine Imp.go hQ ?_; clear hQ)) | ((with_reducible refine i_condT ?_ ?_); (focus (simp only [go_sem, *]; done))) | ((with_reducible refine i_condF ?_ ?_); (focus (simp only [go_sem, *]; done))) | ((with_reducible first | refine resOk_g (fun h => ?_) (fun h => ?_) | refine i_cond (by simp only [go_sem, *] <;> rfl) (fun h => ?_) (fun h => ?_)) <;> (try simp only [Bool.not_eq_eq_eq_not, Bool.not_true, Bool.not_false, reduceCtorEq] at h) <;> (try have h' := of_decide_eq_true h) <;> (try (have hz : (_ : Int) = (_ : Int) := h'; clear hz h')) <;> (try have h' := of_decide_eq_false h) <;> (try have h' := inB_t h) <;> (try (exfalso; omega)))) <;> (try simp (disch := omega) only [go_sem, *])))
  all_goals (try simp (disch := omega) only [EndK, go_sem, natLe_ok, *])
  all_goals by_cases hkl : k < xs.length
  all_goals (try (exfalso; omega))
  · have e := mixB_set hkl
    refine ⟨⟨k + 1, by omega⟩, ?_, by simp only; omega⟩
    (refine weak_canon [0, 3, 4] [0] ?_ ?_ ?_ <;> (simp (disch := omega) only [go_sem, e]; done))
  all_goals rw [mixB_end (by omega), List.take_length]
theorem eqBoolS_ok (xs : List Bool) (hs : xs.length ≤ 1099511627776) : CallOk Tryz.prog 153 [.one (.ro 1 (boolsD xs)), .one (.ro 1 (boolsD xs))] (.s (.one (bV true))) [none, none] := by
  refine callOk_of_hcall 40 (hcall_of_body Tryz.func153 rfl (by kernel_rfl) ?_)
  simp (disch := omega) only [go_sem, Tryz.ntmps153, Tryz.results153]
  have x1 : HT 6 (.fr [0, 1, 2, 3, 4, 5, 6, 7, 8] (.stop)) := ⟨⟩
  refine wkc ?_
  refine i_loop (α := {k : Nat // k ≤ xs.length}) (fun k => ⟨mkEnv 26 [(0, .one (.ro 1 (boolsD xs))), (1, .one (.ro 1 (boolsD xs))), (5, .one (iV k.1))], []⟩) (fun k => xs.length - k.1) ⟨0, by omega⟩ ?_ ?_
  · (refine weak_canon [0, 1, 5] [] ?_ ?_ ?_ <;> (simp (disch := omega) only [go_sem]; done))
  rintro ⟨k, hk⟩
  simp (disch := omega) only [go_sem]
  repeat' (first | (with_reducible first | refine i_seq ?_ | exact tr_none | refine tr_stop ?_ | refine i_treeQ (id := 6) (.fr [0, 1, 2, 3, 4, 5, 6, 7, 8] (.stop)) mixedT (by kernel_rfl) (fun Q' hQ => ?_)) | ((first | (with_reducible first | refine i_block ?_ | refine i_regionQ (fun Q' hQ => ?_) | (refine Imp.go hQ ?_; clear hQ) | refine tr_fr ?_ | refine tr_op (aL_run ?_) | refine tr_alt (by kernel_rfl) (aL_run ?_) ?_ | refine tr_altp ?_ ?_) | ((with_reducible refine i_condT ?_ ?_); (focus (simp only [go_sem, *]; done))) | ((with_reducible refine i_condF ?_ ?_); (focus (simp only [go_sem, *]; done))) | ((with_reducible first | refine resOk_g (fun h => ?_) (fun h => ?_) | refine pG_split (fun h => ?_) (fun h => ?_) | refine i_cond (by simp only [go_sem, *] <;> rfl) (fun h => ?_) (fun h => ?_)) <;> (try simp only [Bool.not_eq_eq_eq_not, Bool.not_true, Bool.not_false, reduceCtorEq] at h) <;> (try have h' := of_decide_eq_true h) <;> (try (have hz : (_ : Int) = (_ : Int) := h'; clear hz h')) <;> (try have h' := of_decide_eq_false h) <;> (try have h' := inB_t h) <;> (try (exfalso; omega)))) <;> (try simp (disch := omega) only [go_sem, bne_self_eq_false, *])))
  all_goals (try simp (disch := omega) only [EndK, go_sem, bne_self_eq_false, natLe_ok, *])
  refine ⟨⟨k + 1, by omega⟩, ?_, by simp only; omega⟩
  (refine weak_canon [0, 1, 5] [] ?_ ?_ ?_ <;> (simp (disch := omega) only [go_sem]; done))
end Go.Proofs.YtejnpiielcbkkaaGreat.E
end
section
set_option maxRecDepth 100000
set_option maxHeartbeats 4000000
namespace Go.Proofs.YtejnpiielcbkkaaGreat.E
theorem ti193 : ti Tryz.prog 193 = some ⟨.st [(0, 1, false), (1, 1, false), (2, 1, false)], 3, 24, true, [.int .i64 0, .int .i64 0, .int .i64 0]⟩ := by kernel_rfl
theorem ni193 : notInt Tryz.prog 193 = true := by kernel_rfl
theorem ti191 : ti Tryz.prog 191 = some ⟨.st [(0, 1, false), (1, 1, false), (2, 1, false)], 3, 24, true, [.int .i64 0, .int .i64 0, .int .i64 0]⟩ := by kernel_rfl
theorem ni191 : notInt Tryz.prog 191 = true := by kernel_rfl
theorem ti45 : ti Tryz.prog 45 = some ⟨.sl 193, 1, 24, false, [.slice none 0 0]⟩ := by kernel_rfl
theorem ni45 : notInt Tryz.prog 45 = true := by kernel_rfl
theorem ti55 : ti Tryz.prog 55 = some ⟨.sl 191, 1, 24, false, [.slice none 0 0]⟩ := by kernel_rfl
theorem ni55 : notInt Tryz.prog 55 = true := by kernel_rfl
attribute [go_sem] ti193 ni193 ti191 ni191 ti45 ni45 ti55 ni55
structure Event where
  process : Int
  kind : Int
  num : Int
def eventT (x : Event) : List T := [iV x.process, iV x.kind, iV x.num]
def eventR (x : Event) : List T := [iV x.process, iV x.kind, iV x.num]
attribute [go_sem] eventT eventR
def eventD (x : Event) : List D := [D.v (.int .i64 x.process), D.v (.int .i64 x.kind), D.v (.int .i64 x.num)]
attribute [go_sem] eventD
def eventZ : Event := ⟨0, 0, 0⟩
def smEvent (x : Event) : Prop := True
def bgEvent (x : Event) : Prop := True
def mdEvent (x : Event) : Prop := True
theorem sm_mdEvent {x : Event} (h : smEvent x) : mdEvent x := trivial
theorem toEvent_ok (x : Event) (hs : smEvent x) : CallOk Tryz.prog 139 [.agg (eventT x)] (.s (.agg (eventT x))) [none] := by
  refine callOk_of_hcall 40 (hcall_of_body Tryz.func139 rfl (by kernel_rfl) ?_)
  simp (disch := omega) only [go_sem, Tryz.ntmps139, Tryz.results139]
  exact wk
theorem eqEvent_ok (x : Event) (hs : mdEvent x) : CallOk Tryz.prog 154 [.agg (eventT x), .agg (eventT x)] (.s (.one (bV true))) [none, none] := by
  refine callOk_of_hcall 40 (hcall_of_body Tryz.func154 rfl (by kernel_rfl) ?_)
  simp (disch := omega) only [go_sem, Tryz.ntmps154, Tryz.results154]
  exact wk
/-! Lists of it. -/
instance : Inhabited Event := ⟨eventZ⟩
def eventsT (xs : List Event) : List (List T) := xs.map eventT
def eventsD (xs : List Event) : List (List D) := xs.map eventD
theorem eventsT_nil : eventsT [] = [] := rfl
theorem eventsT_len (xs : List Event) : (eventsT xs).length = xs.length := by simp [eventsT]
theorem eventsD_len (xs : List Event) : (eventsD xs).length = xs.length := by simp [eventsD]
theorem eventsD_get {xs : List Event} {k : Nat} (h : k < xs.length) : (eventsD xs)[k]? = some (eventD (xs.getD k eventZ)) := by simp [eventsD, h]
theorem eventsT_get {xs : List Event} {k : Nat} (h : k < xs.length) : (eventsT xs)[k]? = some (eventT (xs.getD k eventZ)) := by simp [eventsT, h]
theorem eventsT_take (xs : List Event) (n : Nat) : (eventsT xs).take n = eventsT (xs.take n) := by simp [eventsT, List.map_take]
theorem eventsD_take (xs : List Event) (n : Nat) : (eventsD xs).take n = eventsD (xs.take n) := by simp [eventsD, List.map_take]
theorem eventsD_ofD (xs : List Event) : (eventsD xs).map (·.map ofD) = eventsT xs := by rw [eventsD, List.map_map]; rfl
theorem eventsT_closed (xs : List Event) : closedRows (eventsT xs) = true := closed_map (fun x => by simp [eventT, closedRow, closedT, isNil]) xs
theorem eventsT_noRo (xs : List Event) : noRoRows (eventsT xs) = true := noRo_map (fun x => by simp [eventT, noRoRow, noRo, isNil]) xs
theorem eventsT_flat (xs : List Event) : flat (eventsT xs) = true := flat_map (fun x => by simp [eventT, isOwn]) xs
attribute [go_sem] eventsT_flat
theorem eventsT_look {n : Nat} {H : List AObj} (xs : List Event) : lookRowsBy (lookD (n + 1) H) (eventsT xs) (eventsD xs) := lookRowsBy_map fun x _ => ⟨rfl, ⟨rfl, ⟨rfl, trivial⟩⟩⟩
attribute [go_sem] eventsT_nil eventsT_len eventsD_len eventsD_get eventsT_get eventsT_take eventsD_take eventsT_closed eventsT_noRo eventsT_look
theorem szEventS_ok (xs : List Event) (left : Int) (h : 0 ≤ left ∧ left ≤ 1048576) (hb : xs.length ≤ 9223372036854775807 ∧ ∀ y ∈ xs, bgEvent y) : CallE Tryz.prog 51 [.one (.ro 3 (eventsD xs)), .one (iV left)] (fun r : Int => .s (.one (iV r))) (fun _ => [none, none]) (fun r => -1 ≤ r ∧ r ≤ left ∧ (0 ≤ r → xs.length ≤ 1048576 ∧ ∀ y ∈ xs, smEvent y)) := by
  obtain ⟨h1, h2⟩ := h
  obtain ⟨hb0, hb1⟩ := hb
  refine callE_of_hcall 40 (hcall_of_body Tryz.func51 rfl (by kernel_rfl) ?_)
  simp (disch := omega) only [go_sem, Tryz.ntmps51, Tryz.results51]
  repeat' (first | (with_reducible first | refine i_seq ?_) | ((first | (with_reducible first | refine i_block ?_ | refine i_regionQ (fun Q' hQ => ?_) | (refine Imp.go hQ ?_; clear hQ)) | ((with_reducible refine i_condT ?_ ?_); (focus (simp only [go_sem, *]; done))) | ((with_reducible refine i_condF ?_ ?_); (focus (simp only [go_sem, *]; done))) | ((with_reducible first | refine resOk_g (fun h => ?_) (fun h => ?_) | refine i_cond (by simp only [go_sem, *] <;> rfl) (fun h => ?_) (fun h => ?_)) <;> (try simp only [Bool.not_eq_eq_eq_not, Bool.not_true, Bool.not_false, reduceCtorEq] at h) <;> (try have h' := of_decide_eq_true h) <;> (try (have hz : (_ : Int) = (_ : Int) := h'; clear hz h')) <;> (try have h' := of_decide_eq_false h) <;> (try have h' := inB_t h) <;> (try (exfalso; omega)))) <;> (try simp (disch := omega) only [go_sem, *])))
  all_goals (try simp (disch := omega) only [EndK, go_sem, natLe_ok, *])
  · exact ⟨-1, ⟨by omega, by omega, fun h => by first | trivial | (exfalso; omega)⟩, rfl⟩
  · exact ⟨left - xs.length, ⟨by omega, by omega, fun _ => by first | trivial | exact ⟨by omega, fun y _ => trivial⟩ | exact fun y _ => trivial⟩, rfl⟩
def eventMix (xs : List Event) (k : Nat) : List (List T) := eventsT (xs.take k) ++ List.replicate (xs.length - k) [iV 0, iV 0, iV 0]
theorem eventMix_len {xs : List Event} {k : Nat} (hk : k ≤ xs.length) : (eventMix xs k).length = xs.length := by
  simp only [eventMix, List.length_append, eventsT_len, List.length_take, List.length_replicate]; omega
theorem eventMix_zero (xs : List Event) : eventMix xs 0 = List.replicate xs.length [iV 0, iV 0, iV 0] := by simp [eventMix, eventsT]
theorem eventMix_end {xs : List Event} {k : Nat} (h : xs.length ≤ k) : eventMix xs k = eventsT xs := by
  rw [eventMix, List.take_of_length_le h, show xs.length - k = 0 by omega]; simp
theorem eventMix_get {xs : List Event} {k : Nat} (hk : k < xs.length) : (eventMix xs k)[k]? = some [iV 0, iV 0, iV 0] := by
  have h1 : (eventsT (xs.take k)).length = k := by rw [eventsT_len, List.length_take]; omega
  rw [eventMix, List.getElem?_append_right (by omega), h1, List.getElem?_replicate]
  simp; omega
theorem eventMix_set {xs : List Event} {k : Nat} (hk : k < xs.length) : (eventMix xs k).set k (eventT (xs.getD k eventZ)) = eventMix xs (k + 1) := by
  have h1 : (eventsT (xs.take k)).length = k := by rw [eventsT_len, List.length_take]; omega
  have h2 : xs.length - k = (xs.length - (k + 1)) + 1 := by omega
  have h3 : eventsT (xs.take (k + 1)) = eventsT (xs.take k) ++ [eventT (xs.getD k eventZ)] := by
    have e : xs.getD k eventZ = xs[k] := by simp [hk]
    rw [e, List.take_succ_eq_append_getElem hk]; simp only [eventsT, List.map_append, List.map_cons, List.map_nil]
  unfold eventMix
  rw [h2, List.replicate_succ, List.set_append_right _ _ (by omega), h1, Nat.sub_self, List.set_cons_zero, h3, List.append_assoc]
  rfl
theorem eventMix_refs (xs : List Event) (k : Nat) : refsRows (eventMix xs k) = [] := by
  rw [eventMix, refsRows_app, closed_refsRows _ (eventsT_closed _), refs_repl rfl]; rfl
theorem eventMix_ren (f : Nat → Nat) (xs : List Event) (k : Nat) : renRows f (eventMix xs k) = eventMix xs k := by
  rw [eventMix, renRows_app, closed_renRows f _ (eventsT_closed _), ren_repl rfl]
attribute [go_sem] eventMix_refs eventMix_ren
theorem toEventS_ok (xs : List Event) (hs : xs.length ≤ 1048576 ∧ ∀ y ∈ xs, smEvent y) : CallOk Tryz.prog 62 [.one (.ro 3 (eventsD xs))] (.s (.one (.own 3 (eventsT xs)))) [none] := by
  obtain ⟨hs, hs1⟩ := hs
  have hz := eventMix_zero xs
  refine callOk_of_hcall 40 (hcall_of_body Tryz.func62 rfl (by kernel_rfl) ?_)
  simp (disch := omega) only [go_sem, Tryz.ntmps62, Tryz.results62]
  refine wkc ?_
  refine i_loop (α := {k : Nat // k ≤ xs.length}) (fun k => ⟨mkEnv 23 [(0, .one (.ro 3 (eventsD xs))), (3, .one (.ref 0 0 xs.length)), (4, .one (iV k.1))], [.live 3 (eventMix xs k.1)]⟩) (fun k => xs.length - k.1) ⟨0, by omega⟩ ?_ ?_
  · (refine weak_canon [0, 3, 4] [0] ?_ ?_ ?_ <;> (simp (disch := omega) only [go_sem, ← hz]; done))
  rintro ⟨k, hk⟩
  have hml := eventMix_len hk
  simp (disch := omega) only [go_sem]
  by_cases hkl : k < xs.length
  · have hg := eventMix_get hkl
    have e := eventMix_set hkl
    have hsk := hs1 (xs.getD k eventZ) (by simp [hkl])
    have x1 := toEvent_ok (xs.getD k eventZ) hsk
    refine wkc ?_
    refine ⟨⟨k + 1, by omega⟩, ?_, by simp only; omega⟩
    have e2 : (eventMix xs k).set k [iV (xs.getD k eventZ).process, iV (xs.getD k eventZ).kind, iV (xs.getD k eventZ).num] = eventMix xs (k + 1) := e
    (refine weak_canon [0, 3, 4] [0] ?_ ?_ ?_ <;> (simp (disch := omega) only [go_sem, e2]; done))
  ·
    repeat' (first | (with_reducible first | refine i_seq ?_) | ((first | (with_reducible first | refine i_block ?_ | refine i_regionQ (fun Q' hQ => ?_) | (refine Imp.go hQ ?_; clear hQ)) | ((with_reducible refine i_condT ?_ ?_); (focus (simp only [go_sem, *]; done))) | ((with_reducible refine i_condF ?_ ?_); (focus (simp only [go_sem, *]; done))) | ((with_reducible first | refine resOk_g (fun h => ?_) (fun h => ?_) | refine i_cond (by simp only [go_sem, *] <;> rfl) (fun h => ?_) (fun h => ?_)) <;> (try simp only [Bool.not_eq_eq_eq_not, Bool.not_true, Bool.not_false, reduceCtorEq] at h) <;> (try have h' := of_decide_eq_true h) <;> (try (have hz : (_ : Int) = (_ : Int) := h'; clear hz h')) <;> (try have h' := of_decide_eq_false h) <;> (try have h' := inB_t h) <;> (try (exfalso; omega)))) <;> (try simp (disch := omega) only [go_sem, *])))
    all_goals (try simp (disch := omega) only [EndK, go_sem, natLe_ok, *])
    all_goals rw [eventMix_end (by omega)]
    all_goals (try simp (disch := omega) only [go_sem, natLe_ok])
theorem eqEventS_ok (xs : List Event) (hs : xs.length ≤ 68719476736 ∧ ∀ y ∈ xs, mdEvent y) : CallOk Tryz.prog 70 [.one (.ro 3 (eventsD xs)), .one (.ro 3 (eventsD xs))] (.s (.one (bV true))) [none, none] := by
  obtain ⟨hs, hs1⟩ := hs
  refine callOk_of_hcall 40 (hcall_of_body Tryz.func70 rfl (by kernel_rfl) ?_)
  simp (disch := omega) only [go_sem, Tryz.ntmps70, Tryz.results70]
  have x1 : HT 6 (.fr [0, 1, 2, 3, 4, 5, 6, 7] (.op [8] (.fr [9] (.stop)))) := ⟨⟩
  refine wkc ?_
  refine i_loop (α := {k : Nat // k ≤ xs.length}) (fun k => ⟨mkEnv 27 [(0, .one (.ro 3 (eventsD xs))), (1, .one (.ro 3 (eventsD xs))), (5, .one (iV k.1))], []⟩) (fun k => xs.length - k.1) ⟨0, by omega⟩ ?_ ?_
  · (refine weak_canon [0, 1, 5] [] ?_ ?_ ?_ <;> (simp (disch := omega) only [go_sem]; done))
  rintro ⟨k, hk⟩
  simp (disch := omega) only [go_sem]
  by_cases hkl : k < xs.length
  · have hsk := hs1 (xs.getD k eventZ) (by simp [hkl])
    have x1 : HT 6 (.fr [0, 1, 2, 3, 4, 5, 6, 7] (.op [8] (.fr [9] (.stop)))) := ⟨⟩
    have x2 := eqEvent_ok (xs.getD k eventZ) hsk
    refine wkc ?_
    refine ⟨⟨k + 1, by omega⟩, ?_, by simp only; omega⟩
    (refine weak_canon [0, 1, 5] [] ?_ ?_ ?_ <;> (simp (disch := omega) only [go_sem]; done))
  ·
    have x1 : HT 6 (.fr [0, 1, 2, 3, 4, 5, 6, 7] (.op [8] (.fr [9] (.stop)))) := ⟨⟩
    exact wk
end Go.Proofs.YtejnpiielcbkkaaGreat.E
end
section
set_option maxRecDepth 100000
set_option maxHeartbeats 4000000
namespace Go.Proofs.YtejnpiielcbkkaaGreat.E
theorem ti166 : ti Tryz.prog 166 = some ⟨.st [(0, 1, false), (1, 1, false), (2, 1, false)], 3, 40, true, [.slice none 0 0, .int .i64 0, .int .i64 0]⟩ := by kernel_rfl
theorem ni166 : notInt Tryz.prog 166 = true := by kernel_rfl
theorem ti169 : ti Tryz.prog 169 = some ⟨.st [(0, 1, false), (1, 1, false), (2, 1, false)], 3, 40, true, [.slice none 0 0, .int .i64 0, .int .i64 0]⟩ := by kernel_rfl
theorem ni169 : notInt Tryz.prog 169 = true := by kernel_rfl
theorem ti40 : ti Tryz.prog 40 = some ⟨.sl 166, 1, 24, false, [.slice none 0 0]⟩ := by kernel_rfl
theorem ni40 : notInt Tryz.prog 40 = true := by kernel_rfl
theorem ti51 : ti Tryz.prog 51 = some ⟨.sl 169, 1, 24, false, [.slice none 0 0]⟩ := by kernel_rfl
theorem ni51 : notInt Tryz.prog 51 = true := by kernel_rfl
attribute [go_sem] ti166 ni166 ti169 ni169 ti40 ni40 ti51 ni51
structure Core where
  regs : List Int
  pc : Int
  process : Int
def coreT (x : Core) : List T := [.own 1 (intsT x.regs), iV x.pc, iV x.process]
def coreR (x : Core) : List T := [.ro 1 (intsD x.regs), iV x.pc, iV x.process]
attribute [go_sem] coreT coreR
def coreD (x : Core) : List D := [.l 1 (intsD x.regs), D.v (.int .i64 x.pc), D.v (.int .i64 x.process)]
attribute [go_sem] coreD
def coreZ : Core := ⟨[], 0, 0⟩
def smCore (x : Core) : Prop := x.regs.length ≤ 1048576
def bgCore (x : Core) : Prop := x.regs.length ≤ 9223372036854775807
def mdCore (x : Core) : Prop := x.regs.length ≤ 1099511627776
theorem sm_mdCore {x : Core} (h : smCore x) : mdCore x := Nat.le_trans h (by omega)
theorem szCore_ok (x : Core) (left : Int) (h : 0 ≤ left ∧ left ≤ 1048576) (hb : bgCore x) : CallE Tryz.prog 121 [.agg (coreR x), .one (iV left)] (fun r : Int => .s (.one (iV r))) (fun _ => [none, none]) (fun r => -1 ≤ r ∧ r ≤ left ∧ (0 ≤ r → smCore x)) := by
  have hb0 := id hb
  unfold bgCore at hb0
  refine callE_of_hcall 40 (hcall_of_body Tryz.func121 rfl (by kernel_rfl) ?_)
  simp (disch := omega) only [go_sem, Tryz.ntmps121, Tryz.results121]
  repeat' (first | (with_reducible first | refine i_seq ?_) | ((first | (with_reducible first | refine i_block ?_ | refine i_regionQ (fun Q' hQ => ?_) | (refine Imp.go hQ ?_; clear hQ)) | ((with_reducible refine i_condT ?_ ?_); (focus (simp only [go_sem, *]; done))) | ((with_reducible refine i_condF ?_ ?_); (focus (simp only [go_sem, *]; done))) | ((with_reducible first | refine resOk_g (fun h => ?_) (fun h => ?_) | refine i_cond (by simp only [go_sem, *] <;> rfl) (fun h => ?_) (fun h => ?_)) <;> (try simp only [Bool.not_eq_eq_eq_not, Bool.not_true, Bool.not_false, reduceCtorEq] at h) <;> (try have h' := of_decide_eq_true h) <;> (try (have hz : (_ : Int) = (_ : Int) := h'; clear hz h')) <;> (try have h' := of_decide_eq_false h) <;> (try have h' := inB_t h) <;> (try (exfalso; omega))) | ((with_reducible refine hcall_of_callE 40 true (szIntS_ok x.regs left (by omega) hb0) ?_ ?_ ?_ ?_ ?_); (focus (simp (disch := omega) only [go_sem, natLe_ok]; done)); (focus (simp (disch := omega) only [go_sem, natLe_ok]; done)); (focus (rintro r0 ⟨ha0, hc0, hd0⟩; (try dsimp only at ha0); (try dsimp only at hc0); (try dsimp only at hd0); (try simp (disch := omega) only [go_sem, natLe_ok]); done)); (focus (rintro r0 ⟨ha0, hc0, hd0⟩; (try dsimp only at ha0); (try dsimp only at hc0); (try dsimp only at hd0); (try simp (disch := omega) only [go_sem, natLe_ok]); done)); rintro r0 ⟨ha0, hc0, hd0⟩; (try dsimp only at ha0); (try dsimp only at hc0); (try dsimp only at hd0); simp only [go_sem]; refine aL_run ?_)) <;> (try simp (disch := omega) only [go_sem, *])))
  all_goals (try simp (disch := omega) only [EndK, go_sem, natLe_ok, *])
  all_goals first
    | exact ⟨-1, ⟨by omega, by omega, fun h => by first | trivial | (exfalso; omega)⟩, rfl⟩
    | exact ⟨r0, ⟨by omega, by omega, fun h => by first | trivial | exact hd0 (by omega)⟩, rfl⟩
theorem toCore_ok (x : Core) (hs : smCore x) : CallOk Tryz.prog 136 [.agg (coreR x)] (.s (.agg (coreT x))) [none] := by
  have hs0 := id hs
  unfold smCore at hs0
  refine callOk_of_hcall 40 (hcall_of_body Tryz.func136 rfl (by kernel_rfl) ?_)
  simp (disch := omega) only [go_sem, Tryz.ntmps136, Tryz.results136]
  have x1 := toIntS_ok x.regs hs0
  exact wk
theorem eqCore_ok (x : Core) (hs : mdCore x) : CallOk Tryz.prog 151 [.agg (coreR x), .agg (coreR x)] (.s (.one (bV true))) [none, none] := by
  have hs0 := id hs
  unfold mdCore at hs0
  refine callOk_of_hcall 40 (hcall_of_body Tryz.func151 rfl (by kernel_rfl) ?_)
  simp (disch := omega) only [go_sem, Tryz.ntmps151, Tryz.results151]
  have x1 := eqIntS_ok x.regs hs0
  exact wk
/-! Lists of it. -/
instance : Inhabited Core := ⟨coreZ⟩
def coresT (xs : List Core) : List (List T) := xs.map coreT
def coresD (xs : List Core) : List (List D) := xs.map coreD
theorem coresT_nil : coresT [] = [] := rfl
theorem coresT_len (xs : List Core) : (coresT xs).length = xs.length := by simp [coresT]
theorem coresD_len (xs : List Core) : (coresD xs).length = xs.length := by simp [coresD]
theorem coresD_get {xs : List Core} {k : Nat} (h : k < xs.length) : (coresD xs)[k]? = some (coreD (xs.getD k coreZ)) := by simp [coresD, h]
theorem coresT_get {xs : List Core} {k : Nat} (h : k < xs.length) : (coresT xs)[k]? = some (coreT (xs.getD k coreZ)) := by simp [coresT, h]
theorem coresT_take (xs : List Core) (n : Nat) : (coresT xs).take n = coresT (xs.take n) := by simp [coresT, List.map_take]
theorem coresD_take (xs : List Core) (n : Nat) : (coresD xs).take n = coresD (xs.take n) := by simp [coresD, List.map_take]
theorem coresD_ofD (xs : List Core) : (coresD xs).map (·.map ofD) = xs.map coreR := by rw [coresD, List.map_map]; rfl
theorem coresT_closed (xs : List Core) : closedRows (coresT xs) = true := closed_map (fun x => by simp [coreT, closedRow, closedT, isNil, intsT_closed]) xs
theorem coresT_noRo (xs : List Core) : noRoRows (coresT xs) = true := noRo_map (fun x => by simp [coreT, noRoRow, noRo, isNil, intsT_noRo]) xs
theorem coresT_look {n : Nat} {H : List AObj} (xs : List Core) : lookRowsBy (lookD (n + 2) H) (coresT xs) (coresD xs) := lookRowsBy_map fun x _ => ⟨⟨rfl, intsT_look _⟩, ⟨rfl, ⟨rfl, trivial⟩⟩⟩
attribute [go_sem] coresT_nil coresT_len coresD_len coresD_get coresT_get coresT_take coresD_take coresT_closed coresT_noRo coresT_look
theorem szCoreS_ok (xs : List Core) (left : Int) (h : 0 ≤ left ∧ left ≤ 1048576) (hb : xs.length ≤ 9223372036854775807 ∧ ∀ y ∈ xs, bgCore y) : CallE Tryz.prog 49 [.one (.ro 3 (coresD xs)), .one (iV left)] (fun r : Int => .s (.one (iV r))) (fun _ => [none, none]) (fun r => -1 ≤ r ∧ r ≤ left ∧ (0 ≤ r → xs.length ≤ 1048576 ∧ ∀ y ∈ xs, smCore y)) := by
  obtain ⟨h1, h2⟩ := h
  obtain ⟨hb0, hb1⟩ := hb
  refine callE_of_hcall 40 (hcall_of_body Tryz.func49 rfl (by kernel_rfl) ?_)
  simp (disch := omega) only [go_sem, Tryz.ntmps49, Tryz.results49]
  repeat' (first | (with_reducible first | refine i_seq ?_) | ((first | (with_reducible first | refine i_block ?_ | refine i_regionQ (fun Q' hQ => ?_) | (refine Imp.go hQ ?_; clear hQ)) | ((with_reducible refine i_condT ?_ ?_); (focus (simp only [go_sem, *]; done))) | ((with_reducible refine i_condF ?_ ?_); (focus (simp only [go_sem, *]; done))) | ((with_reducible first | refine resOk_g (fun h => ?_) (fun h => ?_) | refine i_cond (by simp only [go_sem, *] <;> rfl) (fun h => ?_) (fun h => ?_)) <;> (try simp only [Bool.not_eq_eq_eq_not, Bool.not_true, Bool.not_false, reduceCtorEq] at h) <;> (try have h' := of_decide_eq_true h) <;> (try (have hz : (_ : Int) = (_ : Int) := h'; clear hz h')) <;> (try have h' := of_decide_eq_false h) <;> (try have h' := inB_t h) <;> (try (exfalso; omega)))) <;> (try simp (disch := omega) only [go_sem, *])))
  all_goals (try simp (disch := omega) only [EndK, go_sem, natLe_ok, *])
  · exact ⟨-1, ⟨by omega, by omega, fun h => by first | trivial | (exfalso; omega)⟩, rfl⟩
  refine i_loop (α := {p : Nat × Int // p.1 ≤ xs.length ∧ 0 ≤ p.2 ∧ p.2 ≤ left ∧ ∀ y ∈ xs.take p.1, smCore y}) (fun p => ⟨mkEnv 27 [(0, .one (.ro 3 (coresD xs))), (1, .one (iV p.1.2)), (5, .one (iV p.1.1))], []⟩) (fun p => xs.length - p.1.1) ⟨(0, left - xs.length), by simp, by simp only; omega, by simp only; omega, by simp⟩ ?_ ?_
  · (refine weak_canon [0, 1, 5] [] ?_ ?_ ?_ <;> (simp (disch := omega) only [go_sem]; done))
  rintro ⟨⟨k, lf⟩, hk, hl0, hl1, hp⟩
  simp only at hk hl0 hl1 hp
  simp (disch := omega) only [go_sem]
  by_cases hkl : k < xs.length
  · have hbk := hb1 (xs.getD k coreZ) (by simp [hkl])
    repeat' (first | (with_reducible first | refine i_seq ?_) | ((first | (with_reducible first | refine i_block ?_ | refine i_regionQ (fun Q' hQ => ?_) | (refine Imp.go hQ ?_; clear hQ)) | ((with_reducible refine i_condT ?_ ?_); (focus (simp only [go_sem, *]; done))) | ((with_reducible refine i_condF ?_ ?_); (focus (simp only [go_sem, *]; done))) | ((with_reducible first | refine resOk_g (fun h => ?_) (fun h => ?_) | refine i_cond (by simp only [go_sem, *] <;> rfl) (fun h => ?_) (fun h => ?_)) <;> (try simp only [Bool.not_eq_eq_eq_not, Bool.not_true, Bool.not_false, reduceCtorEq] at h) <;> (try have h' := of_decide_eq_true h) <;> (try (have hz : (_ : Int) = (_ : Int) := h'; clear hz h')) <;> (try have h' := of_decide_eq_false h) <;> (try have h' := inB_t h) <;> (try (exfalso; omega))) | ((with_reducible refine hcall_of_callE 40 true (szCore_ok (xs.getD k coreZ) lf (by omega) hbk) ?_ ?_ ?_ ?_ ?_); (focus (simp (disch := omega) only [go_sem, natLe_ok]; done)); (focus (simp (disch := omega) only [go_sem, natLe_ok]; done)); (focus (rintro r ⟨hr1, hr2, hr3⟩; (try dsimp only at hr1); (try dsimp only at hr2); (try dsimp only at hr3); (try simp (disch := omega) only [go_sem, natLe_ok]); done)); (focus (rintro r ⟨hr1, hr2, hr3⟩; (try dsimp only at hr1); (try dsimp only at hr2); (try dsimp only at hr3); (try simp (disch := omega) only [go_sem, natLe_ok]); done)); rintro r ⟨hr1, hr2, hr3⟩; (try dsimp only at hr1); (try dsimp only at hr2); (try dsimp only at hr3); simp only [go_sem]; refine aL_run ?_)) <;> (try simp (disch := omega) only [go_sem, *])))
    all_goals (try simp (disch := omega) only [EndK, go_sem, natLe_ok, *])
    · exact ⟨-1, ⟨by omega, by omega, fun h => by first | trivial | (exfalso; omega)⟩, rfl⟩
    · refine ⟨⟨(k + 1, r), by simp only; omega, by simp only; omega, by simp only; omega, fun y hy => ?_⟩, ?_, by simp only; omega⟩
      · rw [List.take_succ_eq_append_getElem hkl] at hy
        rcases List.mem_append.1 hy with hy | hy
        · exact hp y hy
        · have e : y = xs.getD k coreZ := by simpa [hkl] using hy
          rw [e]; exact hr3 (by omega)
      · (refine weak_canon [0, 1, 5] [] ?_ ?_ ?_ <;> (simp (disch := omega) only [go_sem]; done))
  ·
    repeat' (first | (with_reducible first | refine i_seq ?_) | ((first | (with_reducible first | refine i_block ?_ | refine i_regionQ (fun Q' hQ => ?_) | (refine Imp.go hQ ?_; clear hQ)) | ((with_reducible refine i_condT ?_ ?_); (focus (simp only [go_sem, *]; done))) | ((with_reducible refine i_condF ?_ ?_); (focus (simp only [go_sem, *]; done))) | ((with_reducible first | refine resOk_g (fun h => ?_) (fun h => ?_) | refine i_cond (by simp only [go_sem, *] <;> rfl) (fun h => ?_) (fun h => ?_)) <;> (try simp only [Bool.not_eq_eq_eq_not, Bool.not_true, Bool.not_false, reduceCtorEq] at h) <;> (try have h' := of_decide_eq_true h) <;> (try (have hz : (_ : Int) = (_ : Int) := h'; clear hz h')) <;> (try have h' := of_decide_eq_false h) <;> (try have h' := inB_t h) <;> (try (exfalso; omega)))) <;> (try simp (disch := omega) only [go_sem, *])))
    all_goals (try simp (disch := omega) only [EndK, go_sem, natLe_ok, *])
    all_goals exact ⟨lf, ⟨by omega, by omega, fun h => by first | exact fun y hy => hp y (by rw [List.take_of_length_le (by omega)]; exact hy) | exact ⟨by omega, fun y hy => hp y (by rw [List.take_of_length_le (by omega)]; exact hy)⟩⟩, rfl⟩
def coreMix (xs : List Core) (k : Nat) : List (List T) := coresT (xs.take k) ++ List.replicate (xs.length - k) [.v nilV, iV 0, iV 0]
theorem coreMix_len {xs : List Core} {k : Nat} (hk : k ≤ xs.length) : (coreMix xs k).length = xs.length := by
  simp only [coreMix, List.length_append, coresT_len, List.length_take, List.length_replicate]; omega
theorem coreMix_zero (xs : List Core) : coreMix xs 0 = List.replicate xs.length [.v nilV, iV 0, iV 0] := by simp [coreMix, coresT]
theorem coreMix_end {xs : List Core} {k : Nat} (h : xs.length ≤ k) : coreMix xs k = coresT xs := by
  rw [coreMix, List.take_of_length_le h, show xs.length - k = 0 by omega]; simp
theorem coreMix_get {xs : List Core} {k : Nat} (hk : k < xs.length) : (coreMix xs k)[k]? = some [.v nilV, iV 0, iV 0] := by
  have h1 : (coresT (xs.take k)).length = k := by rw [coresT_len, List.length_take]; omega
  rw [coreMix, List.getElem?_append_right (by omega), h1, List.getElem?_replicate]
  simp; omega
theorem coreMix_set {xs : List Core} {k : Nat} (hk : k < xs.length) : (coreMix xs k).set k (coreT (xs.getD k coreZ)) = coreMix xs (k + 1) := by
  have h1 : (coresT (xs.take k)).length = k := by rw [coresT_len, List.length_take]; omega
  have h2 : xs.length - k = (xs.length - (k + 1)) + 1 := by omega
  have h3 : coresT (xs.take (k + 1)) = coresT (xs.take k) ++ [coreT (xs.getD k coreZ)] := by
    have e : xs.getD k coreZ = xs[k] := by simp [hk]
    rw [e, List.take_succ_eq_append_getElem hk]; simp only [coresT, List.map_append, List.map_cons, List.map_nil]
  unfold coreMix
  rw [h2, List.replicate_succ, List.set_append_right _ _ (by omega), h1, Nat.sub_self, List.set_cons_zero, h3, List.append_assoc]
  rfl
theorem coreMix_refs (xs : List Core) (k : Nat) : refsRows (coreMix xs k) = [] := by
  rw [coreMix, refsRows_app, closed_refsRows _ (coresT_closed _), refs_repl rfl]; rfl
theorem coreMix_ren (f : Nat → Nat) (xs : List Core) (k : Nat) : renRows f (coreMix xs k) = coreMix xs k := by
  rw [coreMix, renRows_app, closed_renRows f _ (coresT_closed _), ren_repl rfl]
attribute [go_sem] coreMix_refs coreMix_ren
theorem toCoreS_ok (xs : List Core) (hs : xs.length ≤ 1048576 ∧ ∀ y ∈ xs, smCore y) : CallOk Tryz.prog 60 [.one (.ro 3 (coresD xs))] (.s (.one (.own 3 (coresT xs)))) [none] := by
  obtain ⟨hs, hs1⟩ := hs
  have hz := coreMix_zero xs
  refine callOk_of_hcall 40 (hcall_of_body Tryz.func60 rfl (by kernel_rfl) ?_)
  simp (disch := omega) only [go_sem, Tryz.ntmps60, Tryz.results60]
  refine wkc ?_
  refine i_loop (α := {k : Nat // k ≤ xs.length}) (fun k => ⟨mkEnv 23 [(0, .one (.ro 3 (coresD xs))), (3, .one (.ref 0 0 xs.length)), (4, .one (iV k.1))], [.live 3 (coreMix xs k.1)]⟩) (fun k => xs.length - k.1) ⟨0, by omega⟩ ?_ ?_
  · (refine weak_canon [0, 3, 4] [0] ?_ ?_ ?_ <;> (simp (disch := omega) only [go_sem, ← hz]; done))
  rintro ⟨k, hk⟩
  have hml := coreMix_len hk
  simp (disch := omega) only [go_sem]
  by_cases hkl : k < xs.length
  · have hg := coreMix_get hkl
    have e := coreMix_set hkl
    have hsk := hs1 (xs.getD k coreZ) (by simp [hkl])
    have x1 := toCore_ok (xs.getD k coreZ) hsk
    refine wkc ?_
    refine ⟨⟨k + 1, by omega⟩, weak_fit2 40 0 k 3 _ _ (coreT (xs.getD k coreZ)) rfl (List.getElem?_set_self (by rw [hml]; exact hkl)) ?_ rfl ?_, by simp only; omega⟩
    · simp (disch := omega) only [go_sem, natLe_ok]
    · have e2 : (coreMix xs k).set k [.own 1 (intsT (xs.getD k coreZ).regs), iV (xs.getD k coreZ).pc, iV (xs.getD k coreZ).process] = coreMix xs (k + 1) := e
      simp (disch := omega) only [go_sem, natLe_ok, List.set_set, e2]
      (refine weak_canon [0, 3, 4] [0] ?_ ?_ ?_ <;> (simp (disch := omega) only [go_sem, e2]; done))
  ·
    repeat' (first | (with_reducible first | refine i_seq ?_) | ((first | (with_reducible first | refine i_block ?_ | refine i_regionQ (fun Q' hQ => ?_) | (refine Imp.go hQ ?_; clear hQ)) | ((with_reducible refine i_condT ?_ ?_); (focus (simp only [go_sem, *]; done))) | ((with_reducible refine i_condF ?_ ?_); (focus (simp only [go_sem, *]; done))) | ((with_reducible first | refine resOk_g (fun h => ?_) (fun h => ?_) | refine i_cond (by simp only [go_sem, *] <;> rfl) (fun h => ?_) (fun h => ?_)) <;> (try simp only [Bool.not_eq_eq_eq_not, Bool.not_true, Bool.not_false, reduceCtorEq] at h) <;> (try have h' := of_decide_eq_true h) <;> (try (have hz : (_ : Int) = (_ : Int) := h'; clear hz h')) <;> (try have h' := of_decide_eq_false h) <;> (try have h' := inB_t h) <;> (try (exfalso; omega)))) <;> (try simp (disch := omega) only [go_sem, *])))
    all_goals (try simp (disch := omega) only [EndK, go_sem, natLe_ok, *])
    all_goals rw [coreMix_end (by omega)]
    all_goals (try simp (disch := omega) only [go_sem, natLe_ok])
theorem eqCoreS_ok (xs : List Core) (hs : xs.length ≤ 68719476736 ∧ ∀ y ∈ xs, mdCore y) : CallOk Tryz.prog 68 [.one (.ro 3 (coresD xs)), .one (.ro 3 (coresD xs))] (.s (.one (bV true))) [none, none] := by
  obtain ⟨hs, hs1⟩ := hs
  refine callOk_of_hcall 40 (hcall_of_body Tryz.func68 rfl (by kernel_rfl) ?_)
  simp (disch := omega) only [go_sem, Tryz.ntmps68, Tryz.results68]
  have x1 : HT 6 (.fr [0, 1, 2, 3, 4, 5, 6, 7] (.op [8] (.fr [9] (.stop)))) := ⟨⟩
  refine wkc ?_
  refine i_loop (α := {k : Nat // k ≤ xs.length}) (fun k => ⟨mkEnv 27 [(0, .one (.ro 3 (coresD xs))), (1, .one (.ro 3 (coresD xs))), (5, .one (iV k.1))], []⟩) (fun k => xs.length - k.1) ⟨0, by omega⟩ ?_ ?_
  · (refine weak_canon [0, 1, 5] [] ?_ ?_ ?_ <;> (simp (disch := omega) only [go_sem]; done))
  rintro ⟨k, hk⟩
  simp (disch := omega) only [go_sem]
  by_cases hkl : k < xs.length
  · have hsk := hs1 (xs.getD k coreZ) (by simp [hkl])
    have x1 : HT 6 (.fr [0, 1, 2, 3, 4, 5, 6, 7] (.op [8] (.fr [9] (.stop)))) := ⟨⟩
    have x2 := eqCore_ok (xs.getD k coreZ) hsk
    refine wkc ?_
    refine ⟨⟨k + 1, by omega⟩, ?_, by simp only; omega⟩
    (refine weak_canon [0, 1, 5] [] ?_ ?_ ?_ <;> (simp (disch := omega) only [go_sem]; done))
  ·
    have x1 : HT 6 (.fr [0, 1, 2, 3, 4, 5, 6, 7] (.op [8] (.fr [9] (.stop)))) := ⟨⟩
    exact wk
end Go.Proofs.YtejnpiielcbkkaaGreat.E
end
