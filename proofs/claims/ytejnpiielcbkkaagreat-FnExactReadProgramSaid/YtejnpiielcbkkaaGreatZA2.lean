/- A part of what stands under the laws of this seat: an abstract evaluator that is proved sound, and contracts of functions by it. No condition beside those that stand in each statement. -/
import Derived.Test.YtejnpiielcbkkaaGreatZA1
import Derived.Test.YtejnpiielcbkkaaGreatZE2
set_option linter.unusedVariables false
set_option linter.unusedSimpArgs false
section
set_option maxRecDepth 100000
set_option maxHeartbeats 4000000
namespace Go.Proofs.YtejnpiielcbkkaaGreat.E
/-! ### What mark writes: in turn, from a number on -/
section
variable {α : Type} (f : Int → α → α) (w : α → Nat)
def adv (k : Int) (xs : List α) : Int := k + (((xs.map w).sum : Nat) : Int)
def mkL : Int → List α → List α
 | _, [] => []
 | k, x :: xs => f k x :: mkL (k + (w x : Int)) xs
theorem adv_nil (k : Int) : adv w k [] = k := by simp [adv]
theorem adv_cons (k : Int) (x : α) (xs : List α) : adv w k (x :: xs) = adv w (k + (w x : Int)) xs := by simp [adv]; omega
theorem adv_app (k : Int) (xs ys : List α) : adv w k (xs ++ ys) = adv w (adv w k xs) ys := by simp [adv]; omega
theorem adv_le (k : Int) (xs : List α) : k ≤ adv w k xs := by unfold adv; omega
theorem adv_take_le (k : Int) (xs : List α) (j : Nat) : adv w k (xs.take j) ≤ adv w k xs := by
 have := adv_le w (adv w k (xs.take j)) (xs.drop j)
 rwa [← adv_app, List.take_append_drop] at this
theorem mkL_len : ∀ (xs : List α) (k : Int), (mkL f w k xs).length = xs.length
 | [], _ => rfl
 | x :: xs, k => by simp [mkL, mkL_len xs]
theorem mkL_app : ∀ (xs ys : List α) (k : Int), mkL f w k (xs ++ ys) = mkL f w k xs ++ mkL f w (adv w k xs) ys
 | [], ys, k => by simp [mkL, adv_nil]
 | x :: xs, ys, k => by simp [mkL, mkL_app xs ys, adv_cons]
theorem take_one {xs : List α} {j : Nat} (z : α) (h : j < xs.length) : xs.take (j + 1) = xs.take j ++ [xs.getD j z] := by
 rw [List.take_succ_eq_append_getElem h]; simp [h]
theorem adv_one {xs : List α} {j : Nat} (z : α) (k : Int) (h : j < xs.length) : adv w k (xs.take (j + 1)) = adv w k (xs.take j) + (w (xs.getD j z) : Int) := by
 rw [take_one z h, adv_app, adv_cons, adv_nil]
def mixL (k : Int) (xs : List α) (j : Nat) : List α := mkL f w k (xs.take j) ++ xs.drop j
theorem mixL_len {k : Int} {xs : List α} {j : Nat} : (mixL f w k xs j).length = xs.length := by
 simp only [mixL, List.length_append, mkL_len, List.length_take, List.length_drop]; omega
theorem mixL_zero (k : Int) (xs : List α) : mixL f w k xs 0 = xs := by simp [mixL, mkL]
theorem mixL_end {k : Int} {xs : List α} {j : Nat} (h : xs.length ≤ j) : mixL f w k xs j = mkL f w k xs := by
 rw [mixL, List.take_of_length_le h, List.drop_of_length_le h, List.append_nil]
theorem adv_end {k : Int} {xs : List α} {j : Nat} (h : xs.length ≤ j) : adv w k (xs.take j) = adv w k xs := by rw [List.take_of_length_le h]
theorem mixL_get {k : Int} {xs : List α} {j : Nat} (z : α) (h : j < xs.length) : (mixL f w k xs j).getD j z = xs.getD j z := by
 have h1 : (mkL f w k (xs.take j)).length = j := by rw [mkL_len, List.length_take]; omega
 simp only [mixL, List.getD_eq_getElem?_getD]
 rw [List.getElem?_append_right (by omega), h1, Nat.sub_self, List.getElem?_drop]; rfl
theorem mixL_set {k : Int} {xs : List α} {j : Nat} (z : α) (h : j < xs.length) : (mixL f w k xs j).set j (f (adv w k (xs.take j)) (xs.getD j z)) = mixL f w k xs (j + 1) := by
 have h1 : (mkL f w k (xs.take j)).length = j := by rw [mkL_len, List.length_take]; omega
 have h2 : xs.drop j = xs.getD j z :: xs.drop (j + 1) := by rw [List.drop_eq_getElem_cons h]; simp [h]
 unfold mixL
 rw [List.set_append_right _ _ (by omega), h1, Nat.sub_self, h2, List.set_cons_zero, take_one z h, mkL_app]
 simp [mkL]
theorem mkL_get {k : Int} {xs : List α} {j : Nat} (z : α) (h : j < xs.length) : (mkL f w k xs).getD j z = f (adv w k (xs.take j)) (xs.getD j z) := by
 have h1 : (mkL f w k (xs.take j)).length = j := by rw [mkL_len, List.length_take]; omega
 have h2 : xs = xs.take j ++ (xs.getD j z :: xs.drop (j + 1)) := by
  conv => lhs; rw [← List.take_append_drop j xs, List.drop_eq_getElem_cons h]
  simp [h]
 have e : mkL f w k xs = mkL f w k (xs.take j) ++ (f (adv w k (xs.take j)) (xs.getD j z) :: mkL f w (adv w k (xs.take j) + (w (xs.getD j z) : Int)) (xs.drop (j + 1))) := by
  conv => lhs; rw [h2]
  rw [mkL_app]; rfl
 rw [e, List.getD_eq_getElem?_getD, List.getElem?_append_right (by omega), h1, Nat.sub_self]; rfl
end
/-! Whole numbers. -/
abbrev fI : Int → Int → Int := fun k _ => k
abbrev wI : Int → Nat := fun _ => 1
theorem adv_int (k : Int) (xs : List Int) : adv wI k xs = k + xs.length := by
 have : ∀ xs : List Int, (xs.map wI).sum = xs.length := by
  intro xs; induction xs with
  | nil => rfl
  | cons x xs ih => simp only [List.map_cons, List.sum_cons, ih, List.length_cons, wI]; omega
 simp only [adv, this]
theorem markIntS_ok (xs : List Int) (k : Int) (hk : 0 ≤ k) (ha : adv wI k xs ≤ 4611686018427387904) : CallOk Tryz.prog 20 [.one (.own 1 (intsT xs)), .one (iV k)] (.s (.one (iV (adv wI k xs)))) [some (.own 1 (intsT (mkL fI wI k xs))), none] := by
 have hz := mixL_zero fI wI k xs
 have hz1 : adv wI k (xs.take 0) = k := by simp [adv_nil]
 have hs : xs.length ≤ 4611686018427387904 := by rw [adv_int] at ha; omega
 refine cOh 40 (hBd Tryz.func20 rfl (by kernel_rfl) ?_)
 simp (disch := omega) only [go_sem, Tryz.ntmps20, Tryz.results20]
 refine wkc ?_
 refine i_loop (α := {j : Nat // j ≤ xs.length}) (fun j => ⟨mkEnv 19 [(0, .one (.ref 0 0 xs.length)), (1, .one (iV (adv wI k (xs.take j.1)))), (5, .one (iV j.1))], [.live 1 (intsT (mixL fI wI k xs j.1))]⟩) (fun j => xs.length - j.1) ⟨0, by omega⟩ ?_ ?_
 ·first | (refine wCn [0, 1, 5] [] ?_ ?_ ?_ <;> (simp (disch := omega) only [go_sem, hz, hz1, adv_nil]; done))
 rintro ⟨j, hj⟩
 have hml := mixL_len fI wI (k := k) (xs := xs) (j := j)
 have ha1 := adv_take_le wI k xs j
 have ha2 := adv_le wI k (xs.take j)
 simp (disch := omega) only [go_sem]
 repeat' (first | (with_reducible first | refine i_seq ?_) | ((first | (with_reducible first | refine iBk ?_ | refine iRQ (fun Q' hQ => ?_) | (refine Imp.go hQ ?_; clear hQ)) | ((with_reducible refine i_condT ?_ ?_); (focus (simp only [go_sem, *]; done))) | ((with_reducible refine i_condF ?_ ?_); (focus (simp only [go_sem, *]; done))) | ((with_reducible first | refine rOg (fun h => ?_) (fun h => ?_) | refine i_cond (by simp only [go_sem, *] <;> rfl) (fun h => ?_) (fun h => ?_)) <;> (try simp only [nqA, nqB, nqC, reduceCtorEq] at h) <;> (try have h' := odT h) <;> (try (have hz : (_ : Int) = (_ : Int) := h'; clear hz h')) <;> (try have h' := odF h) <;> (try have h' := inB_t h) <;> (try (exfalso; omega)))) <;> (try simp (disch := omega) only [go_sem, *])))
 all_goals (try simp (disch := omega) only [EndK, go_sem, nLo, *])
 all_goals by_cases hjl : j < xs.length
 all_goals (try (exfalso; omega))
 ·have e : (mixL fI wI k xs j).set j (adv wI k (xs.take j)) = mixL fI wI k xs (j + 1) := mixL_set fI wI (k := k) (0 : Int) hjl
  have e2 := adv_one wI (0 : Int) k hjl
  have e3 : adv wI k (xs.take j) + 1 = adv wI k (xs.take (j + 1)) := e2.symm
  refine ⟨⟨j + 1, by omega⟩, ?_, by simp only; omega⟩
  first | (refine wCn [0, 1, 5] [] ?_ ?_ ?_ <;> (simp (disch := omega) only [go_sem, e, e3]; done))
 all_goals simp only [mixL_end fI wI (k := k) (xs := xs) (j := j) (by omega), adv_end wI (k := k) (xs := xs) (j := j) (by omega), ← mkL_len fI wI xs k, List.take_length]
 all_goals (first | exact ⟨trivial, trivial⟩ | exact ⟨trivial, rfl⟩)
theorem heldIntS_ok (xs : List Int) (k : Int) (hk : 0 ≤ k) (ha : adv wI k xs ≤ 4611686018427387904) : CallOk Tryz.prog 76 [.one (.ro 1 (intsD (mkL fI wI k xs))), .one (iV k)] (.s (.one (iV (adv wI k xs)))) [none, none] := by
 have hz1 : adv wI k (xs.take 0) = k := by simp [adv_nil]
 have hs : xs.length ≤ 4611686018427387904 := by rw [adv_int] at ha; omega
 have hl := mkL_len fI wI xs k
 refine cOh 40 (hBd Tryz.func76 rfl (by kernel_rfl) ?_)
 simp (disch := omega) only [go_sem, Tryz.ntmps76, Tryz.results76]
 refine wkc ?_
 refine i_loop (α := {j : Nat // j ≤ xs.length}) (fun j => ⟨mkEnv 21 [(0, .one (.ro 1 (intsD (mkL fI wI k xs)))), (1, .one (iV (adv wI k (xs.take j.1)))), (5, .one (iV j.1))], []⟩) (fun j => xs.length - j.1) ⟨0, by omega⟩ ?_ ?_
 ·first | (refine wCn [0, 1, 5] [] ?_ ?_ ?_ <;> (simp (disch := omega) only [go_sem, hz1, adv_nil]; done))
 rintro ⟨j, hj⟩
 have ha1 := adv_take_le wI k xs j
 have ha2 := adv_le wI k (xs.take j)
 by_cases hjl : j < xs.length
 ·have e3 : adv wI k (xs.take j) + 1 = adv wI k (xs.take (j + 1)) := (adv_one wI (0 : Int) k hjl).symm
  have e4 : (mkL fI wI k xs).getD j 0 = adv wI k (xs.take j) := mkL_get fI wI (k := k) (0 : Int) hjl
  simp (disch := omega) only [go_sem]
  refine wkc ?_
  refine ⟨⟨j + 1, by omega⟩, ?_, by simp only; omega⟩
  first | (refine wCn [0, 1, 5] [] ?_ ?_ ?_ <;> (simp (disch := omega) only [go_sem, e3]; done))
 ·have e5 := adv_end wI (k := k) (xs := xs) (j := j) (by omega)
  simp (disch := omega) only [go_sem]
  exact wk
theorem getD_set_self {α : Type} {xs : List α} {k : Nat} {x z : α} (h : k < xs.length) : (xs.set k x).getD k z = x := by simp [h]
theorem adv_len {α : Type} {w : α → Nat} {k : Int} {xs : List α} (hw : ∀ x, 1 ≤ w x) : k + xs.length ≤ adv w k xs := by
 have : ∀ xs : List α, xs.length ≤ (xs.map w).sum := by
  intro xs; induction xs with
  | nil => simp
  | cons x xs ih => simp only [List.map_cons, List.sum_cons, List.length_cons]; have := hw x; omega
 have := this xs
 unfold adv; omega
end Go.Proofs.YtejnpiielcbkkaaGreat.E
end
section
set_option maxRecDepth 100000
set_option maxHeartbeats 4000000
namespace Go.Proofs.YtejnpiielcbkkaaGreat.E
theorem ti209 : ti Tryz.prog 209 = some ⟨.sl 5, 1, 24, false, [.slice none 0 0]⟩ := by kernel_rfl
theorem ni209 : notInt Tryz.prog 209 = true := by kernel_rfl
theorem ti5 : ti Tryz.prog 5 = some ⟨.int .u8, 1, 1, false, [.int .u8 0]⟩ := by kernel_rfl
theorem ni5 : notInt Tryz.prog 5 = false := by kernel_rfl
attribute [go_sem] ti209 ni209 ti5 ni5
/-! ### The text of a number, as_ mark writes it -/
def mdig (k : Nat) : ByteArray := ⟨#[UInt8.ofNat (48 + k % 10)]⟩
def mtG (k : Nat) (out : ByteArray) : ByteArray := if h : k = 0 then out else mtG (k / 10) (mdig k ++ out)
termination_by k
decreasing_by omega
def mtB (k : Int) : ByteArray := if decide (k ≤ 0) = true then ⟨#[109, 48]⟩ else (⟨#[109]⟩ : ByteArray) ++ mtG k.toNat (⟨#[]⟩ : ByteArray)
theorem mtG_zero (out : ByteArray) : mtG 0 out = out := by rw [mtG, dif_pos rfl]
theorem mtG_step {k : Nat} (h : k ≠ 0) (out : ByteArray) : mtG (k / 10) (mdig k ++ out) = mtG k out := by
 conv => rhs; rw [mtG, dif_neg h]
theorem mdig_size (k : Nat) : (mdig k).size = 1 := rfl
theorem markText_ok (k : Int) (h0 : 0 ≤ k) (h1 : k ≤ 9223372036854775000) : CallOk Tryz.prog 113 [.one (iV k)] (.s (.one (sV (mtB k)))) [none] := by
 cases hz : decide (k ≤ 0)
 ·have hz' := of_decide_eq_false hz
  have he0 : ((⟨#[]⟩ : ByteArray)).size ≤ 0 := Nat.le_refl _
  refine cOh 40 (hBd Tryz.func113 rfl (by kernel_rfl) ?_)
  simp (disch := omega) only [go_sem, Tryz.ntmps113, Tryz.results113]
  have x1 := @mtB.eq_1
  refine wksr ?_
  intros
  refine i_loop (α := {p : Nat × ByteArray // p.2.size + p.1 ≤ k.toNat ∧ mtG p.1 p.2 = mtG k.toNat (⟨#[]⟩ : ByteArray)}) (fun p => ⟨mkEnv 20 [(0, .one (iV p.1.1)), (3, .one (sV p.1.2))], []⟩) (fun p => p.1.1) ⟨(k.toNat, (⟨#[]⟩ : ByteArray)), by simp only; omega, rfl⟩ ?_ ?_
  ·have hkk : ((k.toNat : Nat) : Int) = k := Int.toNat_of_nonneg h0
   first | (refine wCn [0, 3] [] ?_ ?_ ?_ <;> (simp (disch := omega) only [go_sem, hkk]; done))
  rintro ⟨⟨j, o⟩, hj, he⟩
  simp only at hj he
  by_cases hj0 : j = 0
  ·have he2 : mtG k.toNat (⟨#[]⟩ : ByteArray) = o := by rw [← he, hj0, mtG_zero]
   simp (disch := omega) only [go_sem]
   exact wks
  ·have hd : (mdig j ++ o).size = 1 + o.size := by rw [sAp, mdig_size]
   have em : (j : Int).tmod 10 = ((j % 10 : Nat) : Int) := by rw [Int.tmod_eq_emod_of_nonneg (by omega)]; omega
   have eq' : IntKind.i64.wrap ((j : Int).tdiv 10) = ((j / 10 : Nat) : Int) := by rw [Int.tdiv_eq_ediv_of_nonneg (by omega), wrap64 (by omega) (by omega)]; omega
   have hw : IntKind.u8.wrap (48 + ((j % 10 : Nat) : Int)) = 48 + ((j % 10 : Nat) : Int) := by rw [IntKind.wrap_u8]; omega
   have ec : UInt8.ofNat (48 + ((j % 10 : Nat) : Int)).toNat = UInt8.ofNat (48 + j % 10) := by congr 1
   have hj1 : decide (0 < (j : Int)) = true := decide_eq_true (by omega)
   simp (disch := omega) only [go_sem]
   have x1 := @bytesOf.eq_1
   have x2 := @byteOf.eq_1
   have x3 := @Tryz.underlying5
   refine wksr ?_
   intros
   all_goals refine ⟨⟨(j / 10, mdig j ++ o), by simp only; omega, by rw [mtG_step hj0]; exact he⟩, ?_, by simp only; omega⟩
   all_goals first | (refine wCn [0, 3] [] ?_ ?_ ?_ <;> (simp (disch := omega) only [go_sem, mdig, ec]; done))
 ·
  refine cOh 40 (hBd Tryz.func113 rfl (by kernel_rfl) ?_)
  simp (disch := omega) only [go_sem, Tryz.ntmps113, Tryz.results113]
  have x1 := @mtB.eq_1
  exact wks
abbrev fSt : Int → ByteArray → ByteArray := fun k _ => mtB k
abbrev wSt : ByteArray → Nat := fun _ => 1
theorem markStringS_ok (xs : List ByteArray) (k : Int) (hk : 0 ≤ k) (ha : adv wSt k xs ≤ 4611686018427387904) : CallOk Tryz.prog 114 [.one (.own 1 (strsT xs)), .one (iV k)] (.s (.one (iV (adv wSt k xs)))) [some (.own 1 (strsT (mkL fSt wSt k xs))), none] := by
 have hz := mixL_zero fSt wSt k xs
 have hs : xs.length ≤ 4611686018427387904 := by have := adv_len (w := wSt) (k := k) (xs := xs) (fun x => by simp only [wSt]; omega); omega
 refine cOh 40 (hBd Tryz.func114 rfl (by kernel_rfl) ?_)
 simp (disch := omega) only [go_sem, Tryz.ntmps114, Tryz.results114]
 refine wkc ?_
 refine i_loop (α := {j : Nat // j ≤ xs.length}) (fun j => ⟨mkEnv 20 [(0, .one (.ref 0 0 xs.length)), (1, .one (iV (adv wSt k (xs.take j.1)))), (5, .one (iV j.1))], [.live 1 (strsT (mixL fSt wSt k xs j.1))]⟩) (fun j => xs.length - j.1) ⟨0, by omega⟩ ?_ ?_
 ·first | (refine wCn [0, 1, 5] [] ?_ ?_ ?_ <;> (simp (disch := omega) only [go_sem, hz, adv_nil]; done))
 rintro ⟨j, hj⟩
 have hml := mixL_len fSt wSt (k := k) (xs := xs) (j := j)
 have ha1 := adv_take_le wSt k xs j
 have ha2 := adv_le wSt k (xs.take j)
 by_cases hjl : j < xs.length
 ·have e : (mixL fSt wSt k xs j).set j (mtB (adv wSt k (xs.take j))) = mixL fSt wSt k xs (j + 1) := mixL_set fSt wSt (k := k) ByteArray.empty hjl
  have e3 : adv wSt k (xs.take j) + 1 = adv wSt k (xs.take (j + 1)) := (adv_one wSt ByteArray.empty k hjl).symm
  simp (disch := omega) only [go_sem]
  have x1 := markText_ok (adv wSt k (xs.take j)) (by omega) (by omega)
  refine wkc ?_
  all_goals refine ⟨⟨j + 1, by omega⟩, ?_, by simp only; omega⟩
  all_goals first | (refine wCn [0, 1, 5] [] ?_ ?_ ?_ <;> (simp (disch := omega) only [go_sem, e, e3]; done))
 ·have e5 := adv_end wSt (k := k) (xs := xs) (j := j) (by omega)
  have e6 := mixL_end fSt wSt (k := k) (xs := xs) (j := j) (by omega)
  have e7 : (mkL fSt wSt k xs).take xs.length = mkL fSt wSt k xs := by rw [← mkL_len fSt wSt xs k, List.take_length]
  have e8 : xs.length ≤ (mkL fSt wSt k xs).length := by rw [mkL_len]; exact Nat.le_refl _
  simp (disch := omega) only [go_sem]
  exact wk
theorem heldStringS_ok (xs : List ByteArray) (k : Int) (hk : 0 ≤ k) (ha : adv wSt k xs ≤ 4611686018427387904) : CallOk Tryz.prog 116 [.one (.ro 1 (strsD (mkL fSt wSt k xs))), .one (iV k)] (.s (.one (iV (adv wSt k xs)))) [none, none] := by
 have hs : xs.length ≤ 4611686018427387904 := by have := adv_len (w := wSt) (k := k) (xs := xs) (fun x => by simp only [wSt]; omega); omega
 have hl := mkL_len fSt wSt xs k
 refine cOh 40 (hBd Tryz.func116 rfl (by kernel_rfl) ?_)
 simp (disch := omega) only [go_sem, Tryz.ntmps116, Tryz.results116]
 have x1 : HH 4 (.ho [0, 1, 2, 3, 4] (opm 5 [3, 2] [true, true] (.ho [6] (.stop)))) := ⟨⟩
 refine wkc ?_
 refine i_loop (α := {j : Nat // j ≤ xs.length}) (fun j => ⟨mkEnv 22 [(0, .one (.ro 1 (strsD (mkL fSt wSt k xs)))), (1, .one (iV (adv wSt k (xs.take j.1)))), (5, .one (iV j.1))], []⟩) (fun j => xs.length - j.1) ⟨0, by omega⟩ ?_ ?_
 ·first | (refine wCn [0, 1, 5] [] ?_ ?_ ?_ <;> (simp (disch := omega) only [go_sem, adv_nil]; done))
 rintro ⟨j, hj⟩
 have ha1 := adv_take_le wSt k xs j
 have ha2 := adv_le wSt k (xs.take j)
 by_cases hjl : j < xs.length
 ·have e3 : adv wSt k (xs.take j) + 1 = adv wSt k (xs.take (j + 1)) := (adv_one wSt ByteArray.empty k hjl).symm
  have e4 : (mkL fSt wSt k xs).getD j ByteArray.empty = mtB (adv wSt k (xs.take j)) := mkL_get fSt wSt (k := k) ByteArray.empty hjl
  simp (disch := omega) only [go_sem]
  have x1 := @seq_self
  have x2 := @Bool.not_true
  have x3 : HH 4 (.ho [0, 1, 2, 3, 4] (opm 5 [3, 2] [true, true] (.ho [6] (.stop)))) := ⟨⟩
  have x4 := markText_ok (adv wSt k (xs.take j)) (by omega) (by omega)
  refine wkc ?_
  all_goals refine ⟨⟨j + 1, by omega⟩, ?_, by simp only; omega⟩
  all_goals first | (refine wCn [0, 1, 5] [] ?_ ?_ ?_ <;> (simp (disch := omega) only [go_sem, e3]; done))
 ·have e5 := adv_end wSt (k := k) (xs := xs) (j := j) (by omega)
  simp (disch := omega) only [go_sem]
  have x1 : HH 4 (.ho [0, 1, 2, 3, 4] (opm 5 [3, 2] [true, true] (.ho [6] (.stop)))) := ⟨⟩
  exact wk
end Go.Proofs.YtejnpiielcbkkaaGreat.E
end
