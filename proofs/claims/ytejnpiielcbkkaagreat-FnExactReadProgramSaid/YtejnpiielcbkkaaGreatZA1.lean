/- A part of what stands under the laws of this seat: an abstract evaluator that is proved sound, and contracts of functions by it. No condition beside those that stand in each statement. -/
import Derived.Test.YtejnpiielcbkkaaGreatProg
import Derived.Test.YtejnpiielcbkkaaGreatZE2
set_option linter.unusedVariables false
set_option linter.unusedSimpArgs false
section
set_option maxRecDepth 100000
set_option maxHeartbeats 2000000
namespace Go.Proofs.YtejnpiielcbkkaaGreat.E
theorem ti3 : ti Tryz.prog 3 = some ⟨.int .i64, 1, 8, false, [.int .i64 0]⟩ := by kernel_rfl
theorem ni3 : notInt Tryz.prog 3 = false := by kernel_rfl
theorem ti4 : ti Tryz.prog 4 = some ⟨.bool, 1, 1, false, [.bool false]⟩ := by kernel_rfl
theorem ni4 : notInt Tryz.prog 4 = true := by kernel_rfl
theorem ti37 : ti Tryz.prog 37 = some ⟨.sl 3, 1, 24, false, [.slice none 0 0]⟩ := by kernel_rfl
theorem ni37 : notInt Tryz.prog 37 = true := by kernel_rfl
theorem ti42 : ti Tryz.prog 42 = some ⟨.sl 4, 1, 24, false, [.slice none 0 0]⟩ := by kernel_rfl
theorem ni42 : notInt Tryz.prog 42 = true := by kernel_rfl
attribute [go_sem] ti3 ni3 ti4 ni4 ti37 ni37 ti42 ni42
theorem mixedT : Tryz.prog.follows .mixedOrders = true := by kernel_rfl
/-- A fact set aside. -/
structure Hid (p : Prop) : Prop where
  out : p
theorem tn2 : Int.toNat 2 = 2 := rfl
theorem tn3 : Int.toNat 3 = 3 := rfl
theorem tn4 : Int.toNat 4 = 4 := rfl
theorem tn5 : Int.toNat 5 = 5 := rfl
theorem tn6 : Int.toNat 6 = 6 := rfl
theorem tn7 : Int.toNat 7 = 7 := rfl
theorem tn8 : Int.toNat 8 = 8 := rfl
theorem tn9 : Int.toNat 9 = 9 := rfl
attribute [go_sem] tn2 tn3 tn4 tn5 tn6 tn7 tn8 tn9
theorem intsT_nil : intsT [] = [] := rfl
attribute [go_sem] intsT_nil
def inB (n lo hi : Int) : Bool := decide (n ≥ lo) && decide (n ≤ hi)
theorem inB_t {a b c : Int} (h : inB a b c = true) : b ≤ a ∧ a ≤ c := by simpa [inB] using h
theorem inB_iff {a b c : Int} : inB a b c = true ↔ b ≤ a ∧ a ≤ c := by simp [inB]
theorem specInB_ok (n lo hi : Int) : CallOk Tryz.prog 88 [.one (iV n), .one (iV lo), .one (iV hi)] (.s (.one (bV (inB n lo hi)))) [none, none, none] := by
 refine cOh 40 (hBd Tryz.func88 rfl (by kernel_rfl) ?_)
 simp (disch := omega) only [go_sem, Tryz.ntmps88, Tryz.results88]
 repeat' (first | (with_reducible first | refine i_seq ?_) | ((first | (with_reducible first | refine iBk ?_ | refine iRQ (fun Q' hQ => ?_) | (refine Imp.go hQ ?_; clear hQ)) | ((with_reducible refine i_condT ?_ ?_); (focus (simp only [go_sem, *]; done))) | ((with_reducible refine i_condF ?_ ?_); (focus (simp only [go_sem, *]; done))) | ((with_reducible first | refine rOg (fun h => ?_) (fun h => ?_) | refine i_cond (by simp only [go_sem, *] <;> rfl) (fun h => ?_) (fun h => ?_)) <;> (try simp only [nqA, nqB, nqC, reduceCtorEq] at h) <;> (try have h' := odT h) <;> (try (have hz : (_ : Int) = (_ : Int) := h'; clear hz h')) <;> (try have h' := odF h) <;> (try have h' := inB_t h) <;> (try (exfalso; omega)))) <;> (try simp (disch := omega) only [go_sem, inB, *])))
 all_goals (try simp (disch := omega) only [EndK, go_sem, inB, nLo, *])
theorem within_ok (n lo hi : Int) : CallOk Tryz.prog 143 [.one (iV n), .one (iV lo), .one (iV hi)] (.s (.one (bV (inB n lo hi)))) [none, none, none] := by
 refine cOh 40 (hBd Tryz.func143 rfl (by kernel_rfl) ?_)
 simp (disch := omega) only [go_sem, Tryz.ntmps143, Tryz.results143]
 repeat' (first | (with_reducible first | refine i_seq ?_) | ((first | (with_reducible first | refine iBk ?_ | refine iRQ (fun Q' hQ => ?_) | (refine Imp.go hQ ?_; clear hQ)) | ((with_reducible refine i_condT ?_ ?_); (focus (simp only [go_sem, *]; done))) | ((with_reducible refine i_condF ?_ ?_); (focus (simp only [go_sem, *]; done))) | ((with_reducible first | refine rOg (fun h => ?_) (fun h => ?_) | refine i_cond (by simp only [go_sem, *] <;> rfl) (fun h => ?_) (fun h => ?_)) <;> (try simp only [nqA, nqB, nqC, reduceCtorEq] at h) <;> (try have h' := odT h) <;> (try (have hz : (_ : Int) = (_ : Int) := h'; clear hz h')) <;> (try have h' := odF h) <;> (try have h' := inB_t h) <;> (try (exfalso; omega)))) <;> (try simp (disch := omega) only [go_sem, inB, *])))
 all_goals (try simp (disch := omega) only [EndK, go_sem, inB, nLo, *])
def hasI (xs : List Int) (x : Int) : Bool := xs.any fun y => y == x
theorem hasI_take {xs : List Int} {x : Int} {k : Nat} (hk : k < xs.length) : hasI (xs.take (k + 1)) x = (hasI (xs.take k) x || (xs.getD k 0 == x)) := by
 unfold hasI
 rw [List.take_succ_eq_append_getElem hk, List.any_append]
 simp [hk]
theorem hasI_of {xs : List Int} {x : Int} {k : Nat} (hk : k < xs.length) (h : (xs.getD k 0 == x) = true) : hasI xs x = true := by
 simp only [hasI, List.any_eq_true]
 exact ⟨xs[k], List.getElem_mem hk, by simpa [hk] using h⟩
end Go.Proofs.YtejnpiielcbkkaaGreat.E
end
section
namespace Go.Proofs.YtejnpiielcbkkaaGreat.E
/-- The order in which a drawn region's operations are looked at, kept as_ a fact for 'wk'. -/
structure HT (id : Nat) (t : Tr) : Prop
structure HH (id : Nat) (t : Th) : Prop
theorem i_treeH {k id : Nat} {Q : Ex → St → Prop} {s : St} {ops : Array Oper} {t : Tr} (ht : HT id t) (hL : chk ops t false ops.size (Array.replicate ops.size false) = true)
  (h : ∀ Q' : St → Prop, Imp (Q .normal) Q' → aTr Tryz.prog ops Q' t false s) : aCode Tryz.prog k (.region id ops true) Q s := i_treeQ t mixedT hL h
theorem i_thH {k id : Nat} {Q : Ex → St → Prop} {s : St} {ops : Array Oper} {t : Th} (ht : HH id t) (hL : chkT ops t false ops.size (Array.replicate ops.size false) [] = true)
  (h : ∀ Q' : St → Prop, Imp (Q .normal) Q' → aTh Tryz.prog ops Q' t false [] s) : aCode Tryz.prog k (.region id ops true) Q s := i_th t mixedT hL h
/-- One of several contracts of a function. -/
structure HC (n : Nat) (p : Prop) : Prop where
  out : p
/-- Which list takes back what it holds. -/
structure HF (n l : Nat) : Prop
theorem folds_setH {n : Nat} {H : List AObj} {o : AObj} {l k sz : Nat} {A : List (List T)} {row : List T} (hn : HF n l) (hl : H[l]? = some o) (ho : o = .live sz (A.set k row)) (hc : closedRow row = false) (hk : k < A.length) :
  Folds H ((foldRow (H.set l .dead) row).2.set l (.live sz (A.set k (foldRow (H.set l .dead) row).1))) := folds_setc l hl ho hc hk
/-- A state said in fewer words: the three conditions are reckoned. -/
theorem wc {k : Nat} {s s' : St} (slots keep : List Nat) (hok : okKeep k keep slots s = true := by simp (disch := omega) only [go_sem]) (he : keepEnv (newName k keep) s.env 0 slots = s'.env := by simp (disch := omega) only [go_sem]) (hH : canonH k keep s.H = s'.H := by simp (disch := omega) only [go_sem]) : Weak k s s' := wCn slots keep hok he hH
/-- A way that ends: the contracts of what it calls are taken from the facts at hand. -/
theorem wk {G : Prop} (h : G := by
 repeat' (first | (with_reducible first | refine i_seq ?_ | exact th_none | exact tr_none | refine tr_stop ?_ | refine i_treeH (by assumption) (by kernel_rfl) (fun Q' hQ => ?_) | refine i_thH (by assumption) (by kernel_rfl) (fun Q' hQ => ?_)) | ((first | (with_reducible first | refine iBk ?_ | refine iRQ (fun Q' hQ => ?_) | (refine Imp.go hQ ?_; clear hQ) | (refine ImpE.go hE ?_; clear hE) | refine tr_fr ?_ | refine tr_op (aLr ?_) | refine tr_alt (by kernel_rfl) (aLr ?_) ?_ | refine tr_altp ?_ ?_ | refine th_ho ?_ | refine th_stop ?_ ?_ | refine th_opm ?_ (by kernel_rfl) (aLr ?_) | refine th_altm ?_ (by kernel_rfl) (aLr ?_) ?_) | ((with_reducible refine i_condT ?_ ?_); (focus (simp only [go_sem, *]; done))) | ((with_reducible refine i_condF ?_ ?_); (focus (simp only [go_sem, *]; done))) | ((with_reducible first | refine rOg (fun h => ?_) (fun h => ?_) | refine pG_split (fun h => ?_) (fun h => ?_) | refine i_cond (by simp only [go_sem, *] <;> rfl) (fun h => ?_) (fun h => ?_)) <;> (try simp only [nqA, nqB, nqC, reduceCtorEq] at h) <;> (try have h' := odT h) <;> (try (have hz : (_ : Int) = (_ : Int) := h'; clear hz h')) <;> (try have h' := odF h) <;> (try have h' := inB_t h) <;> (try (exfalso; omega))) | ((first | ((with_reducible refine hcO 40 true (by assumption) ?_ ?_ ?_ ?_ ?_); iterate 4 (focus (simp (disch := omega) only [go_sem, nLo, *]; done))) | ((with_reducible refine hcO 40 true (HC.out (n := 1) (by assumption)) ?_ ?_ ?_ ?_ ?_); iterate 4 (focus (simp (disch := omega) only [go_sem, nLo, *]; done))) | ((with_reducible refine hcO 40 true (HC.out (n := 2) (by assumption)) ?_ ?_ ?_ ?_ ?_); iterate 4 (focus (simp (disch := omega) only [go_sem, nLo, *]; done))) | ((with_reducible refine hcO 40 true (HC.out (n := 3) (by assumption)) ?_ ?_ ?_ ?_ ?_); iterate 4 (focus (simp (disch := omega) only [go_sem, nLo, *]; done))) | ((with_reducible refine hcO 40 true (HC.out (n := 4) (by assumption)) ?_ ?_ ?_ ?_ ?_); iterate 4 (focus (simp (disch := omega) only [go_sem, nLo, *]; done))) | ((with_reducible refine hcO 40 true (HC.out (n := 5) (by assumption)) ?_ ?_ ?_ ?_ ?_); iterate 4 (focus (simp (disch := omega) only [go_sem, nLo, *]; done))) | ((with_reducible refine hcO 40 true (HC.out (n := 6) (by assumption)) ?_ ?_ ?_ ?_ ?_); iterate 4 (focus (simp (disch := omega) only [go_sem, nLo, *]; done)))); simp only [go_sem, *]; refine aLr ?_)) <;> (try simp (disch := omega) only [go_sem, reduceCtorEq, *])))
 all_goals (try simp (disch := omega) only [EndK, go_sem, nLo, reduceCtorEq, *])) : G := h
/-- The same, for a way that leaves one thing to be shown. -/
theorem wkc {G Q : Prop} (q : Q) (h : Hid Q → G := by
 intro q
 repeat' (first | (with_reducible first | refine i_seq ?_ | exact th_none | exact tr_none | refine tr_stop ?_ | refine i_treeH (by assumption) (by kernel_rfl) (fun Q' hQ => ?_) | refine i_thH (by assumption) (by kernel_rfl) (fun Q' hQ => ?_)) | ((first | (with_reducible first | refine iBk ?_ | refine iRQ (fun Q' hQ => ?_) | (refine Imp.go hQ ?_; clear hQ) | refine ImpE.go hE ?_ | refine tr_fr ?_ | refine tr_op (aLr ?_) | refine tr_alt (by kernel_rfl) (aLr ?_) ?_ | refine tr_altp ?_ ?_ | refine th_ho ?_ | refine th_stop ?_ ?_ | refine th_opm ?_ (by kernel_rfl) (aLr ?_) | refine th_altm ?_ (by kernel_rfl) (aLr ?_) ?_) | ((with_reducible refine i_condT ?_ ?_); (focus (simp only [go_sem, *]; done))) | ((with_reducible refine i_condF ?_ ?_); (focus (simp only [go_sem, *]; done))) | ((with_reducible first | refine rOg (fun h => ?_) (fun h => ?_) | refine pG_split (fun h => ?_) (fun h => ?_) | refine i_cond (by simp only [go_sem, *] <;> rfl) (fun h => ?_) (fun h => ?_)) <;> (try simp only [nqA, nqB, nqC, reduceCtorEq] at h) <;> (try have h' := odT h) <;> (try (have hz : (_ : Int) = (_ : Int) := h'; clear hz h')) <;> (try have h' := odF h) <;> (try have h' := inB_t h) <;> (try (exfalso; omega))) | ((first | ((with_reducible refine hcO 40 true (by assumption) ?_ ?_ ?_ ?_ ?_); iterate 4 (focus (simp (disch := omega) only [go_sem, nLo, *]; done))) | ((with_reducible refine hcO 40 true (HC.out (n := 1) (by assumption)) ?_ ?_ ?_ ?_ ?_); iterate 4 (focus (simp (disch := omega) only [go_sem, nLo, *]; done))) | ((with_reducible refine hcO 40 true (HC.out (n := 2) (by assumption)) ?_ ?_ ?_ ?_ ?_); iterate 4 (focus (simp (disch := omega) only [go_sem, nLo, *]; done))) | ((with_reducible refine hcO 40 true (HC.out (n := 3) (by assumption)) ?_ ?_ ?_ ?_ ?_); iterate 4 (focus (simp (disch := omega) only [go_sem, nLo, *]; done))) | ((with_reducible refine hcO 40 true (HC.out (n := 4) (by assumption)) ?_ ?_ ?_ ?_ ?_); iterate 4 (focus (simp (disch := omega) only [go_sem, nLo, *]; done))) | ((with_reducible refine hcO 40 true (HC.out (n := 5) (by assumption)) ?_ ?_ ?_ ?_ ?_); iterate 4 (focus (simp (disch := omega) only [go_sem, nLo, *]; done))) | ((with_reducible refine hcO 40 true (HC.out (n := 6) (by assumption)) ?_ ?_ ?_ ?_ ?_); iterate 4 (focus (simp (disch := omega) only [go_sem, nLo, *]; done)))); simp only [go_sem, *]; refine aLr ?_)) <;> (try simp (disch := omega) only [go_sem, reduceCtorEq, *])))
 all_goals (try simp (disch := omega) only [EndK, go_sem, nLo, reduceCtorEq, *])
 all_goals (exact q.out)) : G := h ⟨q⟩
/-- A way that ends: the contracts of what it calls are taken from the facts at hand. -/
theorem wki {G : Prop} (h : G := by
 repeat' (first | (with_reducible first | refine i_seq ?_ | exact th_none | exact tr_none | refine tr_stop ?_ | refine i_treeH (by assumption) (by kernel_rfl) (fun Q' hQ => ?_) | refine i_thH (by assumption) (by kernel_rfl) (fun Q' hQ => ?_)) | ((first | (with_reducible first | refine iBk ?_ | refine iRQ (fun Q' hQ => ?_) | (refine Imp.go hQ ?_; clear hQ) | (refine ImpE.go hE ?_; clear hE) | refine tr_fr ?_ | refine tr_op (aLr ?_) | refine tr_alt (by kernel_rfl) (aLr ?_) ?_ | refine tr_altp ?_ ?_ | refine th_ho ?_ | refine th_stop ?_ ?_ | refine th_opm ?_ (by kernel_rfl) (aLr ?_) | refine th_altm ?_ (by kernel_rfl) (aLr ?_) ?_) | ((with_reducible refine i_condT ?_ ?_); (focus (simp only [go_sem, *]; done))) | ((with_reducible refine i_condF ?_ ?_); (focus (simp only [go_sem, *]; done))) | ((with_reducible first | refine rOg (fun h => ?_) (fun h => ?_) | refine pG_split (fun h => ?_) (fun h => ?_) | refine i_cond (by simp only [go_sem, *] <;> rfl) (fun h => ?_) (fun h => ?_)) <;> (try simp only [nqA, nqB, nqC, reduceCtorEq] at h) <;> (try have h' := odT h) <;> (try (have hz : (_ : Int) = (_ : Int) := h'; clear hz h')) <;> (try have h' := odF h) <;> (try have h' := inB_t h) <;> (try (exfalso; omega))) | ((first | ((with_reducible refine hcO 40 true (by assumption) ?_ ?_ ?_ ?_ ?_); iterate 4 (focus (simp (disch := omega) only [go_sem, Int.reduceBEq, Int.reduceBNe, Int.reduceNeg, Int.reduceLE, Int.reduceLT, Int.reduceEq, nLo, *]; done))) | ((with_reducible refine hcO 40 true (HC.out (n := 1) (by assumption)) ?_ ?_ ?_ ?_ ?_); iterate 4 (focus (simp (disch := omega) only [go_sem, Int.reduceBEq, Int.reduceBNe, Int.reduceNeg, Int.reduceLE, Int.reduceLT, Int.reduceEq, nLo, *]; done))) | ((with_reducible refine hcO 40 true (HC.out (n := 2) (by assumption)) ?_ ?_ ?_ ?_ ?_); iterate 4 (focus (simp (disch := omega) only [go_sem, Int.reduceBEq, Int.reduceBNe, Int.reduceNeg, Int.reduceLE, Int.reduceLT, Int.reduceEq, nLo, *]; done))) | ((with_reducible refine hcO 40 true (HC.out (n := 3) (by assumption)) ?_ ?_ ?_ ?_ ?_); iterate 4 (focus (simp (disch := omega) only [go_sem, Int.reduceBEq, Int.reduceBNe, Int.reduceNeg, Int.reduceLE, Int.reduceLT, Int.reduceEq, nLo, *]; done))) | ((with_reducible refine hcO 40 true (HC.out (n := 4) (by assumption)) ?_ ?_ ?_ ?_ ?_); iterate 4 (focus (simp (disch := omega) only [go_sem, Int.reduceBEq, Int.reduceBNe, Int.reduceNeg, Int.reduceLE, Int.reduceLT, Int.reduceEq, nLo, *]; done))) | ((with_reducible refine hcO 40 true (HC.out (n := 5) (by assumption)) ?_ ?_ ?_ ?_ ?_); iterate 4 (focus (simp (disch := omega) only [go_sem, Int.reduceBEq, Int.reduceBNe, Int.reduceNeg, Int.reduceLE, Int.reduceLT, Int.reduceEq, nLo, *]; done))) | ((with_reducible refine hcO 40 true (HC.out (n := 6) (by assumption)) ?_ ?_ ?_ ?_ ?_); iterate 4 (focus (simp (disch := omega) only [go_sem, Int.reduceBEq, Int.reduceBNe, Int.reduceNeg, Int.reduceLE, Int.reduceLT, Int.reduceEq, nLo, *]; done)))); simp only [go_sem, Int.reduceBEq, Int.reduceBNe, Int.reduceNeg, Int.reduceLE, Int.reduceLT, Int.reduceEq, *]; refine aLr ?_)) <;> (try simp (disch := omega) only [go_sem, Int.reduceBEq, Int.reduceBNe, Int.reduceNeg, Int.reduceLE, Int.reduceLT, Int.reduceEq, reduceCtorEq, *])))
 all_goals (try simp (disch := omega) only [EndK, go_sem, Int.reduceBEq, Int.reduceBNe, Int.reduceNeg, Int.reduceLE, Int.reduceLT, Int.reduceEq, nLo, reduceCtorEq, *])) : G := h
/-- The same, for a way that leaves one thing to be shown. -/
theorem wkci {G Q : Prop} (q : Q) (h : Hid Q → G := by
 intro q
 repeat' (first | (with_reducible first | refine i_seq ?_ | exact th_none | exact tr_none | refine tr_stop ?_ | refine i_treeH (by assumption) (by kernel_rfl) (fun Q' hQ => ?_) | refine i_thH (by assumption) (by kernel_rfl) (fun Q' hQ => ?_)) | ((first | (with_reducible first | refine iBk ?_ | refine iRQ (fun Q' hQ => ?_) | (refine Imp.go hQ ?_; clear hQ) | refine ImpE.go hE ?_ | refine tr_fr ?_ | refine tr_op (aLr ?_) | refine tr_alt (by kernel_rfl) (aLr ?_) ?_ | refine tr_altp ?_ ?_ | refine th_ho ?_ | refine th_stop ?_ ?_ | refine th_opm ?_ (by kernel_rfl) (aLr ?_) | refine th_altm ?_ (by kernel_rfl) (aLr ?_) ?_) | ((with_reducible refine i_condT ?_ ?_); (focus (simp only [go_sem, *]; done))) | ((with_reducible refine i_condF ?_ ?_); (focus (simp only [go_sem, *]; done))) | ((with_reducible first | refine rOg (fun h => ?_) (fun h => ?_) | refine pG_split (fun h => ?_) (fun h => ?_) | refine i_cond (by simp only [go_sem, *] <;> rfl) (fun h => ?_) (fun h => ?_)) <;> (try simp only [nqA, nqB, nqC, reduceCtorEq] at h) <;> (try have h' := odT h) <;> (try (have hz : (_ : Int) = (_ : Int) := h'; clear hz h')) <;> (try have h' := odF h) <;> (try have h' := inB_t h) <;> (try (exfalso; omega))) | ((first | ((with_reducible refine hcO 40 true (by assumption) ?_ ?_ ?_ ?_ ?_); iterate 4 (focus (simp (disch := omega) only [go_sem, Int.reduceBEq, Int.reduceBNe, Int.reduceNeg, Int.reduceLE, Int.reduceLT, Int.reduceEq, nLo, *]; done))) | ((with_reducible refine hcO 40 true (HC.out (n := 1) (by assumption)) ?_ ?_ ?_ ?_ ?_); iterate 4 (focus (simp (disch := omega) only [go_sem, Int.reduceBEq, Int.reduceBNe, Int.reduceNeg, Int.reduceLE, Int.reduceLT, Int.reduceEq, nLo, *]; done))) | ((with_reducible refine hcO 40 true (HC.out (n := 2) (by assumption)) ?_ ?_ ?_ ?_ ?_); iterate 4 (focus (simp (disch := omega) only [go_sem, Int.reduceBEq, Int.reduceBNe, Int.reduceNeg, Int.reduceLE, Int.reduceLT, Int.reduceEq, nLo, *]; done))) | ((with_reducible refine hcO 40 true (HC.out (n := 3) (by assumption)) ?_ ?_ ?_ ?_ ?_); iterate 4 (focus (simp (disch := omega) only [go_sem, Int.reduceBEq, Int.reduceBNe, Int.reduceNeg, Int.reduceLE, Int.reduceLT, Int.reduceEq, nLo, *]; done))) | ((with_reducible refine hcO 40 true (HC.out (n := 4) (by assumption)) ?_ ?_ ?_ ?_ ?_); iterate 4 (focus (simp (disch := omega) only [go_sem, Int.reduceBEq, Int.reduceBNe, Int.reduceNeg, Int.reduceLE, Int.reduceLT, Int.reduceEq, nLo, *]; done))) | ((with_reducible refine hcO 40 true (HC.out (n := 5) (by assumption)) ?_ ?_ ?_ ?_ ?_); iterate 4 (focus (simp (disch := omega) only [go_sem, Int.reduceBEq, Int.reduceBNe, Int.reduceNeg, Int.reduceLE, Int.reduceLT, Int.reduceEq, nLo, *]; done))) | ((with_reducible refine hcO 40 true (HC.out (n := 6) (by assumption)) ?_ ?_ ?_ ?_ ?_); iterate 4 (focus (simp (disch := omega) only [go_sem, Int.reduceBEq, Int.reduceBNe, Int.reduceNeg, Int.reduceLE, Int.reduceLT, Int.reduceEq, nLo, *]; done)))); simp only [go_sem, Int.reduceBEq, Int.reduceBNe, Int.reduceNeg, Int.reduceLE, Int.reduceLT, Int.reduceEq, *]; refine aLr ?_)) <;> (try simp (disch := omega) only [go_sem, Int.reduceBEq, Int.reduceBNe, Int.reduceNeg, Int.reduceLE, Int.reduceLT, Int.reduceEq, reduceCtorEq, *])))
 all_goals (try simp (disch := omega) only [EndK, go_sem, Int.reduceBEq, Int.reduceBNe, Int.reduceNeg, Int.reduceLE, Int.reduceLT, Int.reduceEq, nLo, reduceCtorEq, *])
 all_goals (exact q.out)) : G := h ⟨q⟩
/-- One of the contracts that are used with all that is named told. -/
structure HB (n : Nat) (p : Prop) : Prop where
  out : p
/-- Which slots and lists are kept. -/
structure HW (n : Nat) (slots keep : List Nat) : Prop
theorem weak_canonH {n k : Nat} {s s' : St} {slots keep : List Nat} (_hw : HW n slots keep) (hok : okKeep k keep slots s = true) (he : keepEnv (newName k keep) s.env 0 slots = s'.env) (hH' : canonH k keep s.H = s'.H) : Weak k s s' := wCn slots keep hok he hH'
/-- The same, with contracts of both kinds. -/
theorem wkz {G : Prop} (h : G := by
 repeat' (first | (with_reducible first | refine i_seq ?_ | exact th_none | exact tr_none | refine tr_stop ?_ | refine i_treeH (by assumption) (by kernel_rfl) (fun Q' hQ => ?_) | refine i_thH (by assumption) (by kernel_rfl) (fun Q' hQ => ?_)) | ((first | (with_reducible first | refine iBk ?_ | refine iRQ (fun Q' hQ => ?_) | (refine Imp.go hQ ?_; clear hQ) | (refine ImpE.go hE ?_; clear hE) | refine tr_fr ?_ | refine tr_op (aLr ?_) | refine tr_alt (by kernel_rfl) (aLr ?_) ?_ | refine tr_altp ?_ ?_ | refine th_ho ?_ | refine th_stop ?_ ?_ | refine th_opm ?_ (by kernel_rfl) (aLr ?_) | refine th_altm ?_ (by kernel_rfl) (aLr ?_) ?_) | ((with_reducible refine i_condT ?_ ?_); (focus (simp only [go_sem, *]; done))) | ((with_reducible refine i_condF ?_ ?_); (focus (simp only [go_sem, *]; done))) | ((with_reducible first | refine rOg (fun h => ?_) (fun h => ?_) | refine pG_split (fun h => ?_) (fun h => ?_) | refine i_cond (by simp only [go_sem, *] <;> rfl) (fun h => ?_) (fun h => ?_)) <;> (try simp only [nqA, nqB, nqC, reduceCtorEq] at h) <;> (try have h' := odT h) <;> (try (have hz : (_ : Int) = (_ : Int) := h'; clear hz h')) <;> (try have h' := odF h) <;> (try have h' := inB_t h) <;> (try (exfalso; omega))) | ((first | ((with_reducible refine hcO 40 false (HB.out (n := 0) (by assumption)) ?_ ?_ ?_ ?_ ?_); iterate 4 (focus (simp (disch := omega) only [go_sem, nLo, *]; done))) | ((with_reducible refine hcO 40 false (HB.out (n := 1) (by assumption)) ?_ ?_ ?_ ?_ ?_); iterate 4 (focus (simp (disch := omega) only [go_sem, nLo, *]; done))) | ((with_reducible refine hcO 40 false (HB.out (n := 2) (by assumption)) ?_ ?_ ?_ ?_ ?_); iterate 4 (focus (simp (disch := omega) only [go_sem, nLo, *]; done))) | ((with_reducible refine hcO 40 false (HB.out (n := 3) (by assumption)) ?_ ?_ ?_ ?_ ?_); iterate 4 (focus (simp (disch := omega) only [go_sem, nLo, *]; done))) | ((with_reducible refine hcO 40 true (by assumption) ?_ ?_ ?_ ?_ ?_); iterate 4 (focus (simp (disch := omega) only [go_sem, nLo, *]; done))) | ((with_reducible refine hcO 40 true (HC.out (n := 1) (by assumption)) ?_ ?_ ?_ ?_ ?_); iterate 4 (focus (simp (disch := omega) only [go_sem, nLo, *]; done))) | ((with_reducible refine hcO 40 true (HC.out (n := 2) (by assumption)) ?_ ?_ ?_ ?_ ?_); iterate 4 (focus (simp (disch := omega) only [go_sem, nLo, *]; done))) | ((with_reducible refine hcO 40 true (HC.out (n := 3) (by assumption)) ?_ ?_ ?_ ?_ ?_); iterate 4 (focus (simp (disch := omega) only [go_sem, nLo, *]; done))) | ((with_reducible refine hcO 40 true (HC.out (n := 4) (by assumption)) ?_ ?_ ?_ ?_ ?_); iterate 4 (focus (simp (disch := omega) only [go_sem, nLo, *]; done))) | ((with_reducible refine hcO 40 true (HC.out (n := 5) (by assumption)) ?_ ?_ ?_ ?_ ?_); iterate 4 (focus (simp (disch := omega) only [go_sem, nLo, *]; done))) | ((with_reducible refine hcO 40 true (HC.out (n := 6) (by assumption)) ?_ ?_ ?_ ?_ ?_); iterate 4 (focus (simp (disch := omega) only [go_sem, nLo, *]; done)))); simp only [go_sem, *]; refine aLr ?_)) <;> (try simp (disch := omega) only [go_sem, reduceCtorEq, *])))
 all_goals (try simp (disch := omega) only [EndK, go_sem, nLo, reduceCtorEq, *])
 all_goals (try (first | (refine weak_canonH (n := 0) (by assumption) ?_ ?_ ?_ <;> (first | (simp (disch := omega) only [go_sem]; done) | (simp (disch := omega) only [go_sem, *]; done))) | (refine weak_canonH (n := 1) (by assumption) ?_ ?_ ?_ <;> (first | (simp (disch := omega) only [go_sem]; done) | (simp (disch := omega) only [go_sem, *]; done)))))) : G := h
/-- The same, for a way that leaves one thing to be shown, with what was learned. -/
theorem wkzr {G Q : Prop} (q : Q) (h : Hid Q → G := by
 intro q
 repeat' (first | (with_reducible first | refine i_seq ?_ | exact th_none | exact tr_none | refine tr_stop ?_ | refine i_treeH (by assumption) (by kernel_rfl) (fun Q' hQ => ?_) | refine i_thH (by assumption) (by kernel_rfl) (fun Q' hQ => ?_)) | ((first | (with_reducible first | refine iBk ?_ | refine iRQ (fun Q' hQ => ?_) | (refine Imp.go hQ ?_; clear hQ) | refine ImpE.go hE ?_ | refine tr_fr ?_ | refine tr_op (aLr ?_) | refine tr_alt (by kernel_rfl) (aLr ?_) ?_ | refine tr_altp ?_ ?_ | refine th_ho ?_ | refine th_stop ?_ ?_ | refine th_opm ?_ (by kernel_rfl) (aLr ?_) | refine th_altm ?_ (by kernel_rfl) (aLr ?_) ?_) | ((with_reducible refine i_condT ?_ ?_); (focus (simp only [go_sem, *]; done))) | ((with_reducible refine i_condF ?_ ?_); (focus (simp only [go_sem, *]; done))) | ((with_reducible first | refine rOg (fun h => ?_) (fun h => ?_) | refine pG_split (fun h => ?_) (fun h => ?_) | refine i_cond (by simp only [go_sem, *] <;> rfl) (fun h => ?_) (fun h => ?_)) <;> (try simp only [nqA, nqB, nqC, reduceCtorEq] at h) <;> (try have h' := odT h) <;> (try (have hz : (_ : Int) = (_ : Int) := h'; clear hz h')) <;> (try have h' := odF h) <;> (try have h' := inB_t h) <;> (try (exfalso; omega))) | ((first | ((with_reducible refine hcO 40 false (HB.out (n := 0) (by assumption)) ?_ ?_ ?_ ?_ ?_); iterate 4 (focus (simp (disch := omega) only [go_sem, nLo, *]; done))) | ((with_reducible refine hcO 40 false (HB.out (n := 1) (by assumption)) ?_ ?_ ?_ ?_ ?_); iterate 4 (focus (simp (disch := omega) only [go_sem, nLo, *]; done))) | ((with_reducible refine hcO 40 false (HB.out (n := 2) (by assumption)) ?_ ?_ ?_ ?_ ?_); iterate 4 (focus (simp (disch := omega) only [go_sem, nLo, *]; done))) | ((with_reducible refine hcO 40 false (HB.out (n := 3) (by assumption)) ?_ ?_ ?_ ?_ ?_); iterate 4 (focus (simp (disch := omega) only [go_sem, nLo, *]; done))) | ((with_reducible refine hcO 40 true (by assumption) ?_ ?_ ?_ ?_ ?_); iterate 4 (focus (simp (disch := omega) only [go_sem, nLo, *]; done))) | ((with_reducible refine hcO 40 true (HC.out (n := 1) (by assumption)) ?_ ?_ ?_ ?_ ?_); iterate 4 (focus (simp (disch := omega) only [go_sem, nLo, *]; done))) | ((with_reducible refine hcO 40 true (HC.out (n := 2) (by assumption)) ?_ ?_ ?_ ?_ ?_); iterate 4 (focus (simp (disch := omega) only [go_sem, nLo, *]; done))) | ((with_reducible refine hcO 40 true (HC.out (n := 3) (by assumption)) ?_ ?_ ?_ ?_ ?_); iterate 4 (focus (simp (disch := omega) only [go_sem, nLo, *]; done))) | ((with_reducible refine hcO 40 true (HC.out (n := 4) (by assumption)) ?_ ?_ ?_ ?_ ?_); iterate 4 (focus (simp (disch := omega) only [go_sem, nLo, *]; done))) | ((with_reducible refine hcO 40 true (HC.out (n := 5) (by assumption)) ?_ ?_ ?_ ?_ ?_); iterate 4 (focus (simp (disch := omega) only [go_sem, nLo, *]; done))) | ((with_reducible refine hcO 40 true (HC.out (n := 6) (by assumption)) ?_ ?_ ?_ ?_ ?_); iterate 4 (focus (simp (disch := omega) only [go_sem, nLo, *]; done)))); simp only [go_sem, *]; refine aLr ?_)) <;> (try simp (disch := omega) only [go_sem, reduceCtorEq, *])))
 all_goals (try simp (disch := omega) only [EndK, go_sem, nLo, reduceCtorEq, *])
 all_goals (try (first | (refine weak_canonH (n := 0) (by assumption) ?_ ?_ ?_ <;> (first | (simp (disch := omega) only [go_sem]; done) | (simp (disch := omega) only [go_sem, *]; done))) | (refine weak_canonH (n := 1) (by assumption) ?_ ?_ ?_ <;> (first | (simp (disch := omega) only [go_sem]; done) | (simp (disch := omega) only [go_sem, *]; done)))))
 all_goals (repeat (first | revert h' | revert h))
 all_goals (exact q.out)) : G := h ⟨q⟩
/-- The same, with contracts of both kinds. -/
theorem wks {G : Prop} (h : G := by
 repeat' (first | (with_reducible first | refine i_seq ?_ | exact th_none | exact tr_none | refine tr_stop ?_ | refine i_treeH (by assumption) (by kernel_rfl) (fun Q' hQ => ?_) | refine i_thH (by assumption) (by kernel_rfl) (fun Q' hQ => ?_)) | ((first | (with_reducible first | refine iBk ?_ | refine iRQ (fun Q' hQ => ?_) | (refine Imp.go hQ ?_; clear hQ) | (refine ImpE.go hE ?_; clear hE) | refine tr_fr ?_ | refine tr_op (aLr ?_) | refine tr_alt (by kernel_rfl) (aLr ?_) ?_ | refine tr_altp ?_ ?_ | refine th_ho ?_ | refine th_stop ?_ ?_ | refine th_opm ?_ (by kernel_rfl) (aLr ?_) | refine th_altm ?_ (by kernel_rfl) (aLr ?_) ?_) | ((with_reducible refine i_condT ?_ ?_); (focus (simp only [go_sem, *]; done))) | ((with_reducible refine i_condF ?_ ?_); (focus (simp only [go_sem, *]; done))) | ((with_reducible first | refine rOg (fun h => ?_) (fun h => ?_) | refine pG_split (fun h => ?_) (fun h => ?_) | refine i_cond (by simp only [go_sem, *] <;> rfl) (fun h => ?_) (fun h => ?_)) <;> (try simp only [nqA, nqB, nqC, reduceCtorEq] at h) <;> (try have h' := odT h) <;> (try (have hz : (_ : Int) = (_ : Int) := h'; clear hz h')) <;> (try have h' := odF h) <;> (try have h' := inB_t h) <;> (try (exfalso; omega))) | ((first | ((with_reducible refine hcO 40 false (HB.out (n := 0) (by assumption)) ?_ ?_ ?_ ?_ ?_); iterate 4 (focus (simp (disch := omega) only [go_sem, nLo, *]; done))) | ((with_reducible refine hcO 40 false (HB.out (n := 1) (by assumption)) ?_ ?_ ?_ ?_ ?_); iterate 4 (focus (simp (disch := omega) only [go_sem, nLo, *]; done))) | ((with_reducible refine hcO 40 false (HB.out (n := 2) (by assumption)) ?_ ?_ ?_ ?_ ?_); iterate 4 (focus (simp (disch := omega) only [go_sem, nLo, *]; done))) | ((with_reducible refine hcO 40 false (HB.out (n := 3) (by assumption)) ?_ ?_ ?_ ?_ ?_); iterate 4 (focus (simp (disch := omega) only [go_sem, nLo, *]; done))) | ((with_reducible refine hcO 40 true (by assumption) ?_ ?_ ?_ ?_ ?_); iterate 4 (focus (simp (disch := omega) only [go_sem, nLo, *]; done))) | ((with_reducible refine hcO 40 true (HC.out (n := 1) (by assumption)) ?_ ?_ ?_ ?_ ?_); iterate 4 (focus (simp (disch := omega) only [go_sem, nLo, *]; done))) | ((with_reducible refine hcO 40 true (HC.out (n := 2) (by assumption)) ?_ ?_ ?_ ?_ ?_); iterate 4 (focus (simp (disch := omega) only [go_sem, nLo, *]; done))) | ((with_reducible refine hcO 40 true (HC.out (n := 3) (by assumption)) ?_ ?_ ?_ ?_ ?_); iterate 4 (focus (simp (disch := omega) only [go_sem, nLo, *]; done))) | ((with_reducible refine hcO 40 true (HC.out (n := 4) (by assumption)) ?_ ?_ ?_ ?_ ?_); iterate 4 (focus (simp (disch := omega) only [go_sem, nLo, *]; done))) | ((with_reducible refine hcO 40 true (HC.out (n := 5) (by assumption)) ?_ ?_ ?_ ?_ ?_); iterate 4 (focus (simp (disch := omega) only [go_sem, nLo, *]; done))) | ((with_reducible refine hcO 40 true (HC.out (n := 6) (by assumption)) ?_ ?_ ?_ ?_ ?_); iterate 4 (focus (simp (disch := omega) only [go_sem, nLo, *]; done)))); simp only [go_sem, *]; refine aLr ?_)) <;> (try simp (disch := first | omega | (simp only [sAp, size_mk, List.size_toArray, List.length_cons, List.length_nil]; omega)) only [go_sem, reduceCtorEq, *])))
 all_goals (try simp (disch := omega) only [EndK, go_sem, nLo, reduceCtorEq, *])
 all_goals (try (first | (refine weak_canonH (n := 0) (by assumption) ?_ ?_ ?_ <;> (first | (simp (disch := omega) only [go_sem]; done) | (simp (disch := omega) only [go_sem, *]; done))) | (refine weak_canonH (n := 1) (by assumption) ?_ ?_ ?_ <;> (first | (simp (disch := omega) only [go_sem]; done) | (simp (disch := omega) only [go_sem, *]; done)))))) : G := h
/-- The same, with contracts of both kinds. -/
theorem wksf {G : Prop} (h : G := by
 repeat' (first | (with_reducible first | refine i_seq ?_ | exact th_none | exact tr_none | refine tr_stop ?_ | refine i_treeH (by assumption) (by kernel_rfl) (fun Q' hQ => ?_) | refine i_thH (by assumption) (by kernel_rfl) (fun Q' hQ => ?_)) | ((first | (with_reducible first | refine iBk ?_ | refine iRQ (fun Q' hQ => ?_) | (refine Imp.go hQ ?_; clear hQ) | (refine ImpE.go hE ?_; clear hE) | refine tr_fr ?_ | refine tr_op (aLr ?_) | refine tr_alt (by kernel_rfl) (aLr ?_) ?_ | refine tr_altp ?_ ?_ | refine th_ho ?_ | refine th_stop ?_ ?_ | refine th_opm ?_ (by kernel_rfl) (aLr ?_) | refine th_altm ?_ (by kernel_rfl) (aLr ?_) ?_) | ((with_reducible refine i_condT ?_ ?_); (focus (simp only [go_sem, *]; done))) | ((with_reducible refine i_condF ?_ ?_); (focus (simp only [go_sem, *]; done))) | ((with_reducible first | refine rOg (fun h => ?_) (fun h => ?_) | refine pG_split (fun h => ?_) (fun h => ?_) | refine i_cond (by simp only [go_sem, *] <;> rfl) (fun h => ?_) (fun h => ?_)) <;> (try simp only [nqA, nqB, nqC, reduceCtorEq] at h) <;> (try have h' := odT h) <;> (try (have hz : (_ : Int) = (_ : Int) := h'; clear hz h')) <;> (try have h' := odF h) <;> (try have h' := inB_t h) <;> (try (exfalso; omega))) | ((first | ((with_reducible refine hcO 40 false (HB.out (n := 0) (by assumption)) ?_ ?_ ?_ ?_ ?_); iterate 4 (focus (simp (disch := omega) only [go_sem, nLo, *]; done))) | ((with_reducible refine hcO 40 false (HB.out (n := 1) (by assumption)) ?_ ?_ ?_ ?_ ?_); iterate 4 (focus (simp (disch := omega) only [go_sem, nLo, *]; done))) | ((with_reducible refine hcO 40 false (HB.out (n := 2) (by assumption)) ?_ ?_ ?_ ?_ ?_); iterate 4 (focus (simp (disch := omega) only [go_sem, nLo, *]; done))) | ((with_reducible refine hcO 40 false (HB.out (n := 3) (by assumption)) ?_ ?_ ?_ ?_ ?_); iterate 4 (focus (simp (disch := omega) only [go_sem, nLo, *]; done))) | ((with_reducible refine hcO 40 true (by assumption) ?_ ?_ ?_ ?_ ?_); iterate 4 (focus (simp (disch := omega) only [go_sem, nLo, *]; done))) | ((with_reducible refine hcO 40 true (HC.out (n := 1) (by assumption)) ?_ ?_ ?_ ?_ ?_); iterate 4 (focus (simp (disch := omega) only [go_sem, nLo, *]; done))) | ((with_reducible refine hcO 40 true (HC.out (n := 2) (by assumption)) ?_ ?_ ?_ ?_ ?_); iterate 4 (focus (simp (disch := omega) only [go_sem, nLo, *]; done))) | ((with_reducible refine hcO 40 true (HC.out (n := 3) (by assumption)) ?_ ?_ ?_ ?_ ?_); iterate 4 (focus (simp (disch := omega) only [go_sem, nLo, *]; done))) | ((with_reducible refine hcO 40 true (HC.out (n := 4) (by assumption)) ?_ ?_ ?_ ?_ ?_); iterate 4 (focus (simp (disch := omega) only [go_sem, nLo, *]; done))) | ((with_reducible refine hcO 40 true (HC.out (n := 5) (by assumption)) ?_ ?_ ?_ ?_ ?_); iterate 4 (focus (simp (disch := omega) only [go_sem, nLo, *]; done))) | ((with_reducible refine hcO 40 true (HC.out (n := 6) (by assumption)) ?_ ?_ ?_ ?_ ?_); iterate 4 (focus (simp (disch := omega) only [go_sem, nLo, *]; done)))); simp only [go_sem, *]; refine aLr ?_)) <;> (try simp (disch := first | omega | (simp only [sAp, size_mk, List.size_toArray, List.length_cons, List.length_nil]; omega)) only [go_sem, reduceCtorEq, *])) | ((first | apply hFo | apply endF_folds); (focus ((first | refine folds_setH (n := 0) (by assumption) (by rfl) (by with_reducible rfl) ?_ ?_ | refine folds_setH (n := 1) (by assumption) (by rfl) (by with_reducible rfl) ?_ ?_ | refine folds_setH (n := 2) (by assumption) (by rfl) (by with_reducible rfl) ?_ ?_ | refine folds_setH (n := 3) (by assumption) (by rfl) (by with_reducible rfl) ?_ ?_ | refine folds_setH (n := 4) (by assumption) (by rfl) (by with_reducible rfl) ?_ ?_); (focus (simp (disch := omega) only [go_sem]; done)); (focus (first | omega | (simp (disch := omega) only [go_sem]; omega))))); (try simp (disch := first | omega | (simp only [sAp, size_mk, List.size_toArray, List.length_cons, List.length_nil]; omega)) only [go_sem, reduceCtorEq, *])))
 all_goals (try (with_reducible refine endF_k ?_))
 all_goals (try simp (disch := omega) only [EndK, go_sem, nLo, reduceCtorEq, *])
 all_goals (try (first | (refine weak_canonH (n := 0) (by assumption) ?_ ?_ ?_ <;> (first | (simp (disch := omega) only [go_sem]; done) | (simp (disch := omega) only [go_sem, *]; done))) | (refine weak_canonH (n := 1) (by assumption) ?_ ?_ ?_ <;> (first | (simp (disch := omega) only [go_sem]; done) | (simp (disch := omega) only [go_sem, *]; done)))))) : G := h
/-- The same, for a way that leaves one thing to be shown, with what was learned. -/
theorem wksr {G Q : Prop} (q : Q) (h : Hid Q → G := by
 intro q
 repeat' (first | (with_reducible first | refine i_seq ?_ | exact th_none | exact tr_none | refine tr_stop ?_ | refine i_treeH (by assumption) (by kernel_rfl) (fun Q' hQ => ?_) | refine i_thH (by assumption) (by kernel_rfl) (fun Q' hQ => ?_)) | ((first | (with_reducible first | refine iBk ?_ | refine iRQ (fun Q' hQ => ?_) | (refine Imp.go hQ ?_; clear hQ) | refine ImpE.go hE ?_ | refine tr_fr ?_ | refine tr_op (aLr ?_) | refine tr_alt (by kernel_rfl) (aLr ?_) ?_ | refine tr_altp ?_ ?_ | refine th_ho ?_ | refine th_stop ?_ ?_ | refine th_opm ?_ (by kernel_rfl) (aLr ?_) | refine th_altm ?_ (by kernel_rfl) (aLr ?_) ?_) | ((with_reducible refine i_condT ?_ ?_); (focus (simp only [go_sem, *]; done))) | ((with_reducible refine i_condF ?_ ?_); (focus (simp only [go_sem, *]; done))) | ((with_reducible first | refine rOg (fun h => ?_) (fun h => ?_) | refine pG_split (fun h => ?_) (fun h => ?_) | refine i_cond (by simp only [go_sem, *] <;> rfl) (fun h => ?_) (fun h => ?_)) <;> (try simp only [nqA, nqB, nqC, reduceCtorEq] at h) <;> (try have h' := odT h) <;> (try (have hz : (_ : Int) = (_ : Int) := h'; clear hz h')) <;> (try have h' := odF h) <;> (try have h' := inB_t h) <;> (try (exfalso; omega))) | ((first | ((with_reducible refine hcO 40 false (HB.out (n := 0) (by assumption)) ?_ ?_ ?_ ?_ ?_); iterate 4 (focus (simp (disch := omega) only [go_sem, nLo, *]; done))) | ((with_reducible refine hcO 40 false (HB.out (n := 1) (by assumption)) ?_ ?_ ?_ ?_ ?_); iterate 4 (focus (simp (disch := omega) only [go_sem, nLo, *]; done))) | ((with_reducible refine hcO 40 false (HB.out (n := 2) (by assumption)) ?_ ?_ ?_ ?_ ?_); iterate 4 (focus (simp (disch := omega) only [go_sem, nLo, *]; done))) | ((with_reducible refine hcO 40 false (HB.out (n := 3) (by assumption)) ?_ ?_ ?_ ?_ ?_); iterate 4 (focus (simp (disch := omega) only [go_sem, nLo, *]; done))) | ((with_reducible refine hcO 40 true (by assumption) ?_ ?_ ?_ ?_ ?_); iterate 4 (focus (simp (disch := omega) only [go_sem, nLo, *]; done))) | ((with_reducible refine hcO 40 true (HC.out (n := 1) (by assumption)) ?_ ?_ ?_ ?_ ?_); iterate 4 (focus (simp (disch := omega) only [go_sem, nLo, *]; done))) | ((with_reducible refine hcO 40 true (HC.out (n := 2) (by assumption)) ?_ ?_ ?_ ?_ ?_); iterate 4 (focus (simp (disch := omega) only [go_sem, nLo, *]; done))) | ((with_reducible refine hcO 40 true (HC.out (n := 3) (by assumption)) ?_ ?_ ?_ ?_ ?_); iterate 4 (focus (simp (disch := omega) only [go_sem, nLo, *]; done))) | ((with_reducible refine hcO 40 true (HC.out (n := 4) (by assumption)) ?_ ?_ ?_ ?_ ?_); iterate 4 (focus (simp (disch := omega) only [go_sem, nLo, *]; done))) | ((with_reducible refine hcO 40 true (HC.out (n := 5) (by assumption)) ?_ ?_ ?_ ?_ ?_); iterate 4 (focus (simp (disch := omega) only [go_sem, nLo, *]; done))) | ((with_reducible refine hcO 40 true (HC.out (n := 6) (by assumption)) ?_ ?_ ?_ ?_ ?_); iterate 4 (focus (simp (disch := omega) only [go_sem, nLo, *]; done)))); simp only [go_sem, *]; refine aLr ?_)) <;> (try simp (disch := first | omega | (simp only [sAp, size_mk, List.size_toArray, List.length_cons, List.length_nil]; omega)) only [go_sem, reduceCtorEq, *])))
 all_goals (try simp (disch := omega) only [EndK, go_sem, nLo, reduceCtorEq, *])
 all_goals (try (first | (refine weak_canonH (n := 0) (by assumption) ?_ ?_ ?_ <;> (first | (simp (disch := omega) only [go_sem]; done) | (simp (disch := omega) only [go_sem, *]; done))) | (refine weak_canonH (n := 1) (by assumption) ?_ ?_ ?_ <;> (first | (simp (disch := omega) only [go_sem]; done) | (simp (disch := omega) only [go_sem, *]; done)))))
 all_goals (repeat (first | revert h' | revert h))
 all_goals (exact q.out)) : G := h ⟨q⟩
end Go.Proofs.YtejnpiielcbkkaaGreat.E
end
section
set_option maxRecDepth 100000
set_option maxHeartbeats 4000000
namespace Go.Proofs.YtejnpiielcbkkaaGreat.E
/-! ### Lists of whole numbers: how long, made anew, alike -/
def mixI (xs : List Int) (k : Nat) : List Int := xs.take k ++ List.replicate (xs.length - k) 0
theorem mixI_len {xs : List Int} {k : Nat} (hk : k ≤ xs.length) : (mixI xs k).length = xs.length := by
 simp only [mixI, List.length_append, List.length_take, List.length_replicate]; omega
theorem mixI_zero (xs : List Int) : mixI xs 0 = List.replicate xs.length 0 := by simp [mixI]
theorem mixI_end {xs : List Int} {k : Nat} (h : xs.length ≤ k) : mixI xs k = xs := by
 rw [mixI, List.take_of_length_le h, show xs.length - k = 0 by omega]; simp
theorem mixI_set {xs : List Int} {k : Nat} (hk : k < xs.length) : (mixI xs k).set k (xs.getD k 0) = mixI xs (k + 1) := by
 have h1 : (xs.take k).length = k := by rw [List.length_take]; omega
 have h2 : xs.length - k = (xs.length - (k + 1)) + 1 := by omega
 unfold mixI
 rw [h2, List.replicate_succ, List.set_append_right _ _ (by omega), h1, Nat.sub_self, List.set_cons_zero, List.take_succ_eq_append_getElem hk, List.append_assoc]
 simp [hk]
theorem repl_intsT (n : Nat) : List.replicate n [T.v (.int .i64 0)] = intsT (List.replicate n 0) := by simp [intsT]
theorem eqIntS_ok (xs : List Int) (hs : xs.length ≤ 1099511627776) : CallOk Tryz.prog 18 [.one (.ro 1 (intsD xs)), .one (.ro 1 (intsD xs))] (.s (.one (bV true))) [none, none] := by
 refine cOh 40 (hBd Tryz.func18 rfl (by kernel_rfl) ?_)
 simp (disch := omega) only [go_sem, Tryz.ntmps18, Tryz.results18]
 have x1 : HT 6 (.fr [0, 1, 2, 3, 4, 5, 6, 7, 8] (.stop)) := ⟨⟩
 refine wkc ?_
 refine i_loop (α := {k : Nat // k ≤ xs.length}) (fun k => ⟨mkEnv 26 [(0, .one (.ro 1 (intsD xs))), (1, .one (.ro 1 (intsD xs))), (5, .one (iV k.1))], []⟩) (fun k => xs.length - k.1) ⟨0, by omega⟩ ?_ ?_
 ·exact wc [0, 1, 5] []
 rintro ⟨k, hk⟩
 simp (disch := omega) only [go_sem]
 have x1 : HT 6 (.fr [0, 1, 2, 3, 4, 5, 6, 7, 8] (.stop)) := ⟨⟩
 refine wkzr ?_
 intros
 refine ⟨⟨k + 1, by omega⟩, ?_, by simp only; omega⟩
 exact wc [0, 1, 5] []
/-! Lists of truths. -/
def boolsT (xs : List Bool) : List (List T) := xs.map fun b => [T.v (.bool b)]
def boolsD (xs : List Bool) : List (List D) := xs.map fun b => [D.v (.bool b)]
theorem boolsT_nil : boolsT [] = [] := rfl
theorem boolsT_len (xs : List Bool) : (boolsT xs).length = xs.length := by simp [boolsT]
theorem boolsD_len (xs : List Bool) : (boolsD xs).length = xs.length := by simp [boolsD]
theorem boolsD_ofD (xs : List Bool) : (boolsD xs).map (·.map ofD) = boolsT xs := by rw [boolsD, List.map_map]; rfl
theorem boolsT_take (xs : List Bool) (n : Nat) : (boolsT xs).take n = boolsT (xs.take n) := by simp [boolsT, List.map_take]
theorem boolsD_take (xs : List Bool) (n : Nat) : (boolsD xs).take n = boolsD (xs.take n) := by simp [boolsD, List.map_take]
theorem boolsT_get {xs : List Bool} {k : Nat} (h : k < xs.length) : (boolsT xs)[k]? = some [T.v (.bool (xs.getD k false))] := by simp [boolsT, h]
theorem boolsD_get {xs : List Bool} {k : Nat} (h : k < xs.length) : (boolsD xs)[k]? = some [D.v (.bool (xs.getD k false))] := by simp [boolsD, h]
theorem boolsT_set (xs : List Bool) (k : Nat) (b : Bool) : (boolsT xs).set k [T.v (.bool b)] = boolsT (xs.set k b) := by simp [boolsT, List.map_set]
theorem boolsT_closed (xs : List Bool) : closedRows (boolsT xs) = true := closed_map (fun _ => rfl) xs
theorem boolsT_noRo (xs : List Bool) : noRoRows (boolsT xs) = true := noRo_map (fun _ => rfl) xs
theorem boolsT_flat (xs : List Bool) : flat (boolsT xs) = true := flat_map (fun _ => rfl) xs
theorem boolsT_look {n : Nat} {H : List AObj} (xs : List Bool) : lookRowsBy (lookD (n + 1) H) (boolsT xs) (boolsD xs) := lookRowsBy_map fun x _ => ⟨rfl, trivial⟩
theorem boolsT_app (xs ys : List Bool) : boolsT xs ++ boolsT ys = boolsT (xs ++ ys) := by simp [boolsT]
theorem boolsT_app1 (xs : List Bool) (b : Bool) : boolsT xs ++ [[T.v (.bool b)]] = boolsT (xs ++ [b]) := by simp [boolsT]
attribute [go_sem] boolsT_nil boolsT_len boolsD_len boolsD_ofD boolsT_take boolsD_take boolsT_get boolsD_get boolsT_set boolsT_closed boolsT_noRo boolsT_flat boolsT_look boolsT_app boolsT_app1
end Go.Proofs.YtejnpiielcbkkaaGreat.E
end
section
set_option maxRecDepth 100000
set_option maxHeartbeats 4000000
namespace Go.Proofs.YtejnpiielcbkkaaGreat.E
theorem ti74 : ti Tryz.prog 74 = some ⟨.sl 9, 1, 24, false, [.slice none 0 0]⟩ := by kernel_rfl
theorem ni74 : notInt Tryz.prog 74 = true := by kernel_rfl
theorem ti9 : ti Tryz.prog 9 = some ⟨.str, 1, 16, false, [.string { data := { toList := [] } }]⟩ := by kernel_rfl
theorem ni9 : notInt Tryz.prog 9 = true := by kernel_rfl
attribute [go_sem] ti74 ni74 ti9 ni9
/-! ### Lists of texts -/
theorem seq_self (x : ByteArray) : seq x x = true := by simp [seq]
theorem sAp (a b : ByteArray) : (a ++ b).size = a.size + b.size := ByteArray.size_append
theorem size_mk (x : Array UInt8) : (ByteArray.mk x).size = x.size := rfl
instance : Inhabited ByteArray := ⟨ByteArray.empty⟩
theorem strsT_nil : strsT [] = [] := rfl
theorem strsT_len (xs : List ByteArray) : (strsT xs).length = xs.length := by simp [strsT]
theorem strsD_len (xs : List ByteArray) : (strsD xs).length = xs.length := by simp [strsD]
theorem strsD_ofD (xs : List ByteArray) : (strsD xs).map (·.map ofD) = strsT xs := by rw [strsD, List.map_map]; rfl
theorem strsT_take (xs : List ByteArray) (n : Nat) : (strsT xs).take n = strsT (xs.take n) := by simp [strsT, List.map_take]
theorem strsD_take (xs : List ByteArray) (n : Nat) : (strsD xs).take n = strsD (xs.take n) := by simp [strsD, List.map_take]
theorem strsT_get {xs : List ByteArray} {k : Nat} (h : k < xs.length) : (strsT xs)[k]? = some [T.v (.string (xs.getD k ByteArray.empty))] := by simp [strsT, h]
theorem strsD_get {xs : List ByteArray} {k : Nat} (h : k < xs.length) : (strsD xs)[k]? = some [D.v (.string (xs.getD k ByteArray.empty))] := by simp [strsD, h]
theorem strsT_set (xs : List ByteArray) (k : Nat) (b : ByteArray) : (strsT xs).set k [T.v (.string b)] = strsT (xs.set k b) := by simp [strsT, List.map_set]
theorem strsT_closed (xs : List ByteArray) : closedRows (strsT xs) = true := closed_map (fun _ => rfl) xs
theorem strsT_noRo (xs : List ByteArray) : noRoRows (strsT xs) = true := noRo_map (fun _ => rfl) xs
theorem strsT_flat (xs : List ByteArray) : flat (strsT xs) = true := flat_map (fun _ => rfl) xs
theorem strsT_look {n : Nat} {H : List AObj} (xs : List ByteArray) : lookRowsBy (lookD (n + 1) H) (strsT xs) (strsD xs) := lookRowsBy_map fun x _ => ⟨rfl, trivial⟩
theorem strsT_app (xs ys : List ByteArray) : strsT xs ++ strsT ys = strsT (xs ++ ys) := by simp [strsT]
theorem strsT_app1 (xs : List ByteArray) (b : ByteArray) : strsT xs ++ [[T.v (.string b)]] = strsT (xs ++ [b]) := by simp [strsT]
attribute [go_sem] strsT_nil strsT_len strsD_len strsD_ofD strsT_take strsD_take strsT_get strsD_get strsT_set strsT_closed strsT_noRo strsT_flat strsT_look strsT_app strsT_app1
theorem eqStringS_ok (xs : List ByteArray) (hs : xs.length ≤ 1099511627776 ∧ ∀ y ∈ xs, ByteArray.size y ≤ 1048576) : CallOk Tryz.prog 180 [.one (.ro 1 (strsD xs)), .one (.ro 1 (strsD xs))] (.s (.one (bV true))) [none, none] := by
 replace hs := hs.1
 refine cOh 40 (hBd Tryz.func180 rfl (by kernel_rfl) ?_)
 simp (disch := omega) only [go_sem, Tryz.ntmps180, Tryz.results180]
 have x1 := @seq_self
 have x2 := @Bool.not_true
 have x3 : HT 6 (.fr [0, 1, 2, 3, 4, 5, 6, 7, 8] (.stop)) := ⟨⟩
 refine wkc ?_
 refine i_loop (α := {k : Nat // k ≤ xs.length}) (fun k => ⟨mkEnv 26 [(0, .one (.ro 1 (strsD xs))), (1, .one (.ro 1 (strsD xs))), (5, .one (iV k.1))], []⟩) (fun k => xs.length - k.1) ⟨0, by omega⟩ ?_ ?_
 ·exact wc [0, 1, 5] []
 rintro ⟨k, hk⟩
 simp (disch := omega) only [go_sem]
 have x1 := @seq_self
 have x2 := @Bool.not_true
 have x3 : HT 6 (.fr [0, 1, 2, 3, 4, 5, 6, 7, 8] (.stop)) := ⟨⟩
 refine wkzr ?_
 intros
 refine ⟨⟨k + 1, by omega⟩, ?_, by simp only; omega⟩
 exact wc [0, 1, 5] []
end Go.Proofs.YtejnpiielcbkkaaGreat.E
end
