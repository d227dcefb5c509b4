/- A part of what stands under the laws of this seat: an abstract evaluator that is proved sound, and contracts of functions by it. No condition beside those that stand in each statement. -/
import Derived.Test.YtejnpiielcbkkaaGreatZR5
set_option linter.unusedVariables false
set_option linter.unusedSimpArgs false
section
set_option maxRecDepth 100000
set_option maxHeartbeats 4000000
namespace Go.Proofs.YtejnpiielcbkkaaGreat.E
theorem ti128 : ti Tryz.prog 128 = some ⟨.st [(0, 1, false), (1, 1, false), (2, 1, false)], 3, 48, true, [.string { data := { toList := [] } }, .int .i64 0, .slice none 0 0]⟩ := by kernel_rfl
theorem ni128 : notInt Tryz.prog 128 = true := by kernel_rfl
attribute [go_sem] ti128 ni128
def scanT (z : ByteArray) (k : Int) (acc : List Sign) : List T := [sV z, iV k, .own 4 (signsT acc)]
attribute [go_sem] scanT
theorem sRun_ok (z : ByteArray) (k : Nat) (acc : List Sign) (lo hi : Int) (hz : z.size ≤ 1048576) (hk : k ≤ z.size) (ha : acc.length ≤ 1048576) :
  CallOk Tryz.prog 159 [.one (.box (scanT z k acc)), .one (uV lo), .one (uV hi)] (.s (.one (sV (z.extract k (runF (fun c => inB c lo hi) z k))))) [some (.box (scanT z (runF (fun c => inB c lo hi) z k) acc)), none, none] := by
 obtain ⟨e, he0⟩ : ∃ e, runF (fun c => inB c lo hi) z k = e := ⟨_, rfl⟩
 obtain ⟨b1, b2⟩ := runF_le (p := fun c => inB c lo hi) (z := z) _ k rfl hk
 rw [he0] at b1 b2
 rw [he0]
 refine cOh 40 (hBd Tryz.func159 rfl (by kernel_rfl) ?_)
 simp (disch := omega) only [go_sem, Tryz.ntmps159, Tryz.results159]
 have x1 : HT 2 (.fr [0, 1, 2, 3, 4, 5, 6, 7, 8, 9, 10, 11, 12, 13, 14, 15, 16, 17, 18, 20] (.op [19] (.fr [21, 22, 23, 24, 25, 26, 27, 28, 29, 30, 31, 33] (.op [32] (.fr [34, 35] (.stop)))))) := ⟨⟩
 have x2 : HT 4 (.fr [0, 1, 2, 3, 4, 5, 6, 7, 8, 9, 10] (.stop)) := ⟨⟩
 refine wkc ?_
 refine i_loop (α := {j : Nat // j ≤ z.size ∧ runF (fun c => inB c lo hi) z j = e}) (fun j => ⟨mkEnv 66 [(0, .one (.ptr 0 0 0)), (1, .one (uV lo)), (2, .one (uV hi)), (7, .one (iV k))], [.live 3 [scanT z j.1 acc]]⟩) (fun j => z.size - j.1) ⟨k, hk, he0⟩ ?_ ?_
 ·first | (refine wCn [0, 1, 2, 7] [] ?_ ?_ ?_ <;> (simp (disch := omega) only [go_sem, scanT]; done))
 rintro ⟨j, hj, he⟩
 by_cases hjl : j < z.size
 ·have d1 : decide ((j : Int) < (z.size : Int)) = true := decide_eq_true (by omega)
  cases h1 : decide (lo ≤ bt z j)
  ·have hb : (fun c => inB c lo hi) (bt z j) = false := by show inB (bt z j) lo hi = false; unfold inB; show (decide (lo ≤ bt z j) && _) = false; rw [h1]; rfl
   rw [runF_no hjl hb] at he
   subst he
   simp (disch := omega) only [go_sem]
   have x1 : HT 2 (.fr [0, 1, 2, 3, 4, 5, 6, 7, 8, 9, 10, 11, 12, 13, 14, 15, 16, 17, 18, 20] (.op [19] (.fr [21, 22, 23, 24, 25, 26, 27, 28, 29, 30, 31, 33] (.op [32] (.fr [34, 35] (.stop)))))) := ⟨⟩
   have x2 : HT 4 (.fr [0, 1, 2, 3, 4, 5, 6, 7, 8, 9, 10] (.stop)) := ⟨⟩
   exact wk
  ·cases h2 : decide (bt z j ≤ hi)
   ·have hb : (fun c => inB c lo hi) (bt z j) = false := by show inB (bt z j) lo hi = false; unfold inB; show (decide (lo ≤ bt z j) && decide (bt z j ≤ hi)) = false; rw [h1, h2]; rfl
    rw [runF_no hjl hb] at he
    subst he
    simp (disch := omega) only [go_sem]
    have x1 : HT 2 (.fr [0, 1, 2, 3, 4, 5, 6, 7, 8, 9, 10, 11, 12, 13, 14, 15, 16, 17, 18, 20] (.op [19] (.fr [21, 22, 23, 24, 25, 26, 27, 28, 29, 30, 31, 33] (.op [32] (.fr [34, 35] (.stop)))))) := ⟨⟩
    have x2 : HT 4 (.fr [0, 1, 2, 3, 4, 5, 6, 7, 8, 9, 10] (.stop)) := ⟨⟩
    exact wk
   ·have hb : (fun c => inB c lo hi) (bt z j) = true := by show inB (bt z j) lo hi = true; unfold inB; show (decide (lo ≤ bt z j) && decide (bt z j ≤ hi)) = true; rw [h1, h2]; rfl
    rw [runF_yes hjl hb] at he
    simp (disch := omega) only [go_sem]
    have x1 : HT 2 (.fr [0, 1, 2, 3, 4, 5, 6, 7, 8, 9, 10, 11, 12, 13, 14, 15, 16, 17, 18, 20] (.op [19] (.fr [21, 22, 23, 24, 25, 26, 27, 28, 29, 30, 31, 33] (.op [32] (.fr [34, 35] (.stop)))))) := ⟨⟩
    have x2 : HT 4 (.fr [0, 1, 2, 3, 4, 5, 6, 7, 8, 9, 10] (.stop)) := ⟨⟩
    refine wkzr ?_
    intros
    all_goals refine ⟨⟨j + 1, by omega, he⟩, ?_, by simp only; omega⟩
    all_goals first | (refine wCn [0, 1, 2, 7] [] ?_ ?_ ?_ <;> (simp (disch := omega) only [go_sem, scanT]; done))
 ·have d1 : decide ((j : Int) < (z.size : Int)) = false := decide_eq_false (by omega)
  rw [runF_end hjl] at he
  subst he
  simp (disch := omega) only [go_sem]
  have x1 : HT 2 (.fr [0, 1, 2, 3, 4, 5, 6, 7, 8, 9, 10, 11, 12, 13, 14, 15, 16, 17, 18, 20] (.op [19] (.fr [21, 22, 23, 24, 25, 26, 27, 28, 29, 30, 31, 33] (.op [32] (.fr [34, 35] (.stop)))))) := ⟨⟩
  have x2 : HT 4 (.fr [0, 1, 2, 3, 4, 5, 6, 7, 8, 9, 10] (.stop)) := ⟨⟩
  exact wk
theorem sMark_ok (c : Int) (h0 : 0 ≤ c) (h1 : c ≤ 255) : CallOk Tryz.prog 160 [.one (uV c)] (.s (.one (bV (markB c)))) [none] := by
 have hm : markB c = marksB.data.toList.contains c.toNat.toUInt8 := (Lib.contains_iff_indexByte _ _).symm
 have hms : marksB.size = 12 := rfl
 have hnx : ∀ j : Nat, j < 12 → ((bt marksB j == c) = true ↔ marksB.data.toList.getD j 0 = c.toNat.toUInt8) := by
  intro j hj
  unfold bt
  rw [beq_iff_eq]
  constructor
  ·intro h
   rw [← h, Int.toNat_natCast]
   simp
  ·intro h
   rw [h]
   have : (c.toNat.toUInt8).toNat = c.toNat := by
    rw [UInt8.toNat_ofNat']
    omega
   rw [this]
   omega
 rw [hm]
 obtain ⟨r, hr⟩ : ∃ r, marksB.data.toList.contains c.toNat.toUInt8 = r := ⟨_, rfl⟩
 rw [hr]
 refine cOh 40 (hBd Tryz.func160 rfl (by kernel_rfl) ?_)
 simp (disch := omega) only [go_sem, Tryz.ntmps160, Tryz.results160]
 refine wkc ?_
 refine i_loop (α := {j : Nat // j ≤ 12 ∧ ∀ i, i < j → (bt marksB i == c) = false}) (fun j => ⟨mkEnv 16 [(0, .one (uV c)), (3, .one (sV marksB)), (4, .one (iV j.1))], []⟩) (fun j => 12 - j.1) ⟨0, by omega, fun i hi => by omega⟩ ?_ ?_
 ·first | exact wc [0, 3, 4] []
 rintro ⟨j, hj, hq⟩
 by_cases hjl : j < 12
 ·have d1 : decide ((j : Int) < (marksB.size : Int)) = true := decide_eq_true (by rw [hms]; omega)
  have hjs : j < marksB.size := by rw [hms]; exact hjl
  cases h2 : (bt marksB j == c)
  ·have h2' : ((((([59, 44, 46, 40, 41, 43, 45, 42, 47, 37, 60, 61] : List UInt8).getD j 0).toNat : Nat) : Int) == c) = false := h2
   simp (disch := omega) only [go_sem]
   refine wkzr ?_
   intros
   all_goals refine ⟨⟨j + 1, by omega, fun i hi => by
    by_cases hij : i = j
    ·rw [hij]; exact h2
    ·exact hq i (by omega)⟩, ?_, by simp only; omega⟩
   all_goals first | exact wc [0, 3, 4] []
  ·have hrt : r = true := by
    rw [← hr]
    have := (hnx j hjl).1 h2
    rw [← this]
    have hmem : j < marksB.data.toList.length := hjs
    have hg : marksB.data.toList.getD j 0 = marksB.data.toList[j] := by rw [List.getD_eq_getElem?_getD, List.getElem?_eq_getElem hmem]; rfl
    rw [hg]
    exact List.contains_iff_mem.2 (List.getElem_mem hmem)
   subst hrt
   have h2' : ((((([59, 44, 46, 40, 41, 43, 45, 42, 47, 37, 60, 61] : List UInt8).getD j 0).toNat : Nat) : Int) == c) = true := h2
   simp (disch := omega) only [go_sem]
   exact wk
 ·have d1 : decide ((j : Int) < (marksB.size : Int)) = false := decide_eq_false (by rw [hms]; omega)
  have hrf : r = false := by
   rw [← hr]
   cases hc : marksB.data.toList.contains c.toNat.toUInt8
   ·rfl
   ·exfalso
    obtain ⟨i, hi, hie⟩ := List.mem_iff_getElem.1 (List.contains_iff_mem.1 hc)
    have hi' : i < 12 := hi
    have h3 := hq i (by omega)
    have h4 := (hnx i hi').2 (by rw [List.getD_eq_getElem?_getD, List.getElem?_eq_getElem hi]; exact hie)
    rw [h3] at h4; cases h4
  subst hrf
  simp (disch := omega) only [go_sem]
  exact wk
end Go.Proofs.YtejnpiielcbkkaaGreat.E
end
section
set_option maxRecDepth 100000
set_option maxHeartbeats 4000000
namespace Go.Proofs.YtejnpiielcbkkaaGreat.E
theorem seq_iff (x y : ByteArray) : seq x y = true ↔ x = y := by
 unfold seq
 rw [beq_iff_eq, ByteArray.toList_eq, ByteArray.toList_eq]
 constructor
 ·intro h
  obtain ⟨⟨l⟩⟩ := x
  obtain ⟨⟨l'⟩⟩ := y
  have h' : l = l' := h
  rw [h']
 ·intro h; rw [h]
theorem two_bytes {y : ByteArray} (h : y.size = 2) : (y = asgB) ↔ (bt y 0 = 58 ∧ bt y 1 = 61) := by
 obtain ⟨⟨l⟩⟩ := y
 have hl : l.length = 2 := h
 match l, hl with
 | [a, b], _ =>
  constructor
  ·intro he
   have h1 : (⟨⟨[a, b]⟩⟩ : ByteArray).data.toList = asgB.data.toList := by rw [he]
   have h2 : [a, b] = [58, 61] := h1
   simp only [List.cons.injEq, and_true] at h2
   obtain ⟨rfl, rfl⟩ := h2
   exact ⟨rfl, rfl⟩
  ·rintro ⟨h1, h2⟩
   have h1' : (a.toNat : Int) = 58 := h1
   have h2' : (b.toNat : Int) = 61 := h2
   have e1 : a = 58 := by apply UInt8.toNat_inj.1; show a.toNat = 58; omega
   have e2 : b = 61 := by apply UInt8.toNat_inj.1; show b.toNat = 61; omega
   rw [e1, e2]
theorem asg_is {z : ByteArray} {k : Nat} (hk : k < z.size) : asgAt z k = ((bt z k == 58) && (decide ((k : Int) + 1 < (z.size : Int)) && (bt z (k + 1) == 61))) := by
 have hx := ext_size z k z.size (Nat.le_refl _)
 have ha : asgB.size = 2 := rfl
 unfold asgAt startsB
 rw [hx, ha]
 by_cases hr : k + 1 < z.size
 ·have d1 : decide (((2 : Nat) : Int) ≤ ((z.size - k : Nat) : Int)) = true := decide_eq_true (by omega)
  have d2 : decide ((k : Int) + 1 < (z.size : Int)) = true := decide_eq_true (by omega)
  rw [d1, if_pos rfl, d2, Bool.true_and]
  have hs : ((z.extract k z.size).extract 0 2).size = 2 := by rw [ext_size _ _ _ (by rw [hx]; omega)]
  have b0 : bt ((z.extract k z.size).extract 0 2) 0 = bt z k := by rw [bt_ext (by omega) (by rw [hx]; omega), bt_ext (by omega) (Nat.le_refl _)]; rfl
  have b1 : bt ((z.extract k z.size).extract 0 2) 1 = bt z (k + 1) := by rw [bt_ext (by omega) (by rw [hx]; omega), bt_ext (by omega) (Nat.le_refl _)]
  have ht := two_bytes hs
  rw [b0, b1] at ht
  generalize (z.extract k z.size).extract 0 2 = y at ht
  have hq := seq_iff y asgB
  cases hy : seq y asgB
  ·cases h1 : (bt z k == 58)
   ·rfl
   ·cases h2 : (bt z (k + 1) == 61)
    ·rfl
    ·exfalso
     have := hq.2 (ht.2 ⟨beq_iff_eq.1 h1, beq_iff_eq.1 h2⟩)
     rw [hy] at this; cases this
  ·obtain ⟨h1, h2⟩ := ht.1 (hq.1 hy)
   rw [h1, h2]; rfl
 ·have d1 : decide (((2 : Nat) : Int) ≤ ((z.size - k : Nat) : Int)) = false := decide_eq_false (by omega)
  have d2 : decide ((k : Int) + 1 < (z.size : Int)) = false := decide_eq_false (by omega)
  rw [d1, if_neg (by simp), d2]
  simp
end Go.Proofs.YtejnpiielcbkkaaGreat.E
end
section
set_option maxRecDepth 100000
set_option maxHeartbeats 4000000
namespace Go.Proofs.YtejnpiielcbkkaaGreat.E
theorem sOne_letter_long (z : ByteArray) (k : Nat) (acc : List Sign) (hz : z.size ≤ 1048576) (hk : k < z.size) (ha : acc.length ≤ 1048576) (h1 : letterB (bt z k) = true) (h4 : decide ((8 : Int) < (runF letterB z k : Int) - (k : Int)) = true) : CallOk Tryz.prog 80 [.one (.box (scanT z k acc))] (.s (.one (bV false))) [none] := by
 obtain ⟨i0, i1⟩ := inB_t h1
 have hrun : CallOk Tryz.prog 159 [.one (.box (scanT z k acc)), .one (uV 97), .one (uV 122)] (.s (.one (sV (z.extract k (runF letterB z k))))) [some (.box (scanT z (runF letterB z k) acc)), none, none] := sRun_ok z k acc 97 122 hz (by omega) ha
 obtain ⟨e1, e2⟩ := runF_le (p := letterB) (z := z) _ k rfl (by omega)
 obtain ⟨e, he⟩ : ∃ e, runF letterB z k = e := ⟨_, rfl⟩
 rw [he] at hrun e1 e2 h4
 clear he h1
 have hes : ((z.extract k e).size : Int) = (e : Int) - (k : Int) := by rw [ext_size z k e e2]; omega
 refine callOk_of_hcallF 40 ?_
 simp (disch := omega) only [go_sem]
 refine hcall_names (names_at 0 0 (scanT z k acc) rfl (by with_reducible rfl) (by simp (disch := omega) only [go_sem])) ?_
 simp (disch := omega) only [go_sem]
 refine hBd Tryz.func80 rfl (by kernel_rfl) ?_
 simp (disch := omega) only [go_sem, Tryz.ntmps80, Tryz.results80]
 have x1 : HT 2 (.fr [0, 1, 2, 3, 4, 5, 6, 7] (.op [8] (.fr [9] (.stop)))) := ⟨⟩
 have x2 : HH 17 (.ho [0, 1, 2, 3, 4, 5] (opm 6 [1] [false, true] (.ho [7, 8, 9, 10] (opm 11 [] [false, false] (.stop))))) := ⟨⟩
 have x3 : HT 18 (.fr [0, 1, 2, 3, 4, 5, 6, 7, 8, 9, 10, 11, 12, 13, 14, 15, 16, 17, 18, 19, 20, 21, 22, 23, 24] (.op [25] (.fr [26, 27, 28] (.stop)))) := ⟨⟩
 have x4 : HT 24 (.fr [0, 1, 2, 3, 4, 5, 6, 7, 8, 9, 10, 11, 12, 13, 14] (.op [15] (.stop))) := ⟨⟩
 have x5 : HH 28 (.ho [0, 1, 2, 3, 4, 5] (opm 6 [4] [false, true] (opm 7 [] [false] (.ho [8, 9] (opm 10 [] [] (.stop)))))) := ⟨⟩
 have x6 : HF 0 99 := ⟨⟩
 exact wksf
theorem sOne_letter (z : ByteArray) (k : Nat) (acc : List Sign) (hz : z.size ≤ 1048576) (hk : k < z.size) (ha : acc.length ≤ 1048576) (h1 : letterB (bt z k) = true) (h4 : decide ((8 : Int) < (runF letterB z k : Int) - (k : Int)) = false) : CallOk Tryz.prog 80 [.one (.box (scanT z k acc))] (.s (.one (bV (!decide ((500 : Int) ≤ (acc.length : Int)))))) [if decide ((500 : Int) ≤ (acc.length : Int)) = true then none else some (.box (scanT z ((runF letterB z k : Nat) : Int) (acc ++ [⟨1, z.extract k (runF letterB z k), 0, k⟩])))] := by
 obtain ⟨i0, i1⟩ := inB_t h1
 have hrun : CallOk Tryz.prog 159 [.one (.box (scanT z k acc)), .one (uV 97), .one (uV 122)] (.s (.one (sV (z.extract k (runF letterB z k))))) [some (.box (scanT z (runF letterB z k) acc)), none, none] := sRun_ok z k acc 97 122 hz (by omega) ha
 obtain ⟨e1, e2⟩ := runF_le (p := letterB) (z := z) _ k rfl (by omega)
 obtain ⟨e, he⟩ : ∃ e, runF letterB z k = e := ⟨_, rfl⟩
 rw [he] at hrun e1 e2 h4
 rw [he]
 clear he h1
 have hes : ((z.extract k e).size : Int) = (e : Int) - (k : Int) := by rw [ext_size z k e e2]; omega
 cases hai : decide ((500 : Int) ≤ (acc.length : Int))
 all_goals
  simp only [reduceCtorEq, if_false, if_true, Bool.false_eq_true, Bool.not_true, Bool.not_false]
  refine callOk_of_hcallF 40 ?_
  simp (disch := omega) only [go_sem]
  refine hcall_names (names_at 0 0 (scanT z k acc) rfl (by with_reducible rfl) (by simp (disch := omega) only [go_sem])) ?_
  simp (disch := omega) only [go_sem]
  refine hBd Tryz.func80 rfl (by kernel_rfl) ?_
  simp (disch := omega) only [go_sem, Tryz.ntmps80, Tryz.results80]
  repeat' (first | (with_reducible first | refine i_seq ?_ | exact th_none | exact tr_none | refine tr_stop ?_ | refine i_treeQ (id := 2) (.fr [0, 1, 2, 3, 4, 5, 6, 7] (.op [8] (.fr [9] (.stop)))) mixedT (by kernel_rfl) (fun Q' hQ => ?_) | refine i_th (id := 17) (.ho [0, 1, 2, 3, 4, 5] (opm 6 [1] [false, true] (.ho [7, 8, 9, 10] (opm 11 [] [false, false] (.stop))))) mixedT (by kernel_rfl) (fun Q' hQ => ?_) | refine i_treeQ (id := 18) (.fr [0, 1, 2, 3, 4, 5, 6, 7, 8, 9, 10, 11, 12, 13, 14, 15, 16, 17, 18, 19, 20, 21, 22, 23, 24] (.op [25] (.fr [26, 27, 28] (.stop)))) mixedT (by kernel_rfl) (fun Q' hQ => ?_) | refine i_treeQ (id := 24) (.fr [0, 1, 2, 3, 4, 5, 6, 7, 8, 9, 10, 11, 12, 13, 14] (.op [15] (.stop))) mixedT (by kernel_rfl) (fun Q' hQ => ?_) | refine i_th (id := 28) (.ho [0, 1, 2, 3, 4, 5] (opm 6 [4] [false, true] (opm 7 [] [false] (.ho [8, 9] (opm 10 [] [] (.stop)))))) mixedT (by kernel_rfl) (fun Q' hQ => ?_)) | ((first | (with_reducible first | refine iBk ?_ | refine iRQ (fun Q' hQ => ?_) | (refine Imp.go hQ ?_; clear hQ) | refine tr_fr ?_ | refine tr_op (aLr ?_) | refine tr_alt (by kernel_rfl) (aLr ?_) ?_ | refine tr_altp ?_ ?_ | refine th_ho ?_ | refine th_stop ?_ ?_ | refine th_opm ?_ (by kernel_rfl) (aLr ?_) | refine th_altm ?_ (by kernel_rfl) (aLr ?_) ?_) | ((with_reducible refine i_condT ?_ ?_); (focus (simp only [go_sem, *]; done))) | ((with_reducible refine i_condF ?_ ?_); (focus (simp only [go_sem, *]; done))) | ((with_reducible first | refine rOg (fun h => ?_) (fun h => ?_) | refine pG_split (fun h => ?_) (fun h => ?_) | refine i_cond (by simp only [go_sem, *] <;> rfl) (fun h => ?_) (fun h => ?_)) <;> (try simp only [nqA, nqB, nqC, reduceCtorEq] at h) <;> (try have h' := odT h) <;> (try (have hz : (_ : Int) = (_ : Int) := h'; clear hz h')) <;> (try have h' := odF h) <;> (try have h' := inB_t h) <;> (try (exfalso; omega))) | (((with_reducible first | refine hcO 40 true (hrun) ?_ ?_ ?_ ?_ ?_); iterate 4 (focus (simp (disch := omega) only [go_sem, hes, h4, hai, signsT_app1', List.length_append, List.length_singleton, reduceCtorEq, nLo]; done))); simp only [go_sem, hes, h4, hai, signsT_app1', List.length_append, List.length_singleton, reduceCtorEq]; refine aLr ?_)) <;> (try simp (disch := first | omega | (simp only [sAp, size_mk, List.size_toArray, List.length_cons, List.length_nil]; omega)) only [go_sem, hes, h4, hai, signsT_app1', List.length_append, List.length_singleton, reduceCtorEq, *])) | ((first | apply hFo | apply endF_folds); (focus ((first | refine folds_setc 99 rfl (by with_reducible rfl) ?_ ?_); (focus (simp (disch := omega) only [go_sem]; done)); (focus (first | omega | (simp (disch := omega) only [go_sem]; omega))))); (try simp (disch := first | omega | (simp only [sAp, size_mk, List.size_toArray, List.length_cons, List.length_nil]; omega)) only [go_sem, hes, h4, hai, signsT_app1', List.length_append, List.length_singleton, reduceCtorEq, *])))
  all_goals (try (with_reducible refine endF_k ?_))
  all_goals (try simp (disch := omega) only [EndK, go_sem, hes, h4, hai, signsT_app1', List.length_append, List.length_singleton, reduceCtorEq, nLo, *])
end Go.Proofs.YtejnpiielcbkkaaGreat.E
end
section
set_option maxRecDepth 100000
set_option maxHeartbeats 4000000
namespace Go.Proofs.YtejnpiielcbkkaaGreat.E
theorem sOne_figure_long (z : ByteArray) (k : Nat) (acc : List Sign) (hz : z.size ≤ 1048576) (hk : k < z.size) (ha : acc.length ≤ 1048576) (h1 : letterB (bt z k) = false) (h3 : figureB (bt z k) = true) (h4 : decide ((6 : Int) < (runF figureB z k : Int) - (k : Int)) = true) : CallOk Tryz.prog 80 [.one (.box (scanT z k acc))] (.s (.one (bV false))) [none] := by
 obtain ⟨i0, i1⟩ := inB_t h3
 have hrun : CallOk Tryz.prog 159 [.one (.box (scanT z k acc)), .one (uV 48), .one (uV 57)] (.s (.one (sV (z.extract k (runF figureB z k))))) [some (.box (scanT z (runF figureB z k) acc)), none, none] := sRun_ok z k acc 48 57 hz (by omega) ha
 obtain ⟨e1, e2⟩ := runF_le (p := figureB) (z := z) _ k rfl (by omega)
 obtain ⟨e, he⟩ : ∃ e, runF figureB z k = e := ⟨_, rfl⟩
 rw [he] at hrun e1 e2 h4
 clear he h1 h3
 have hes : ((z.extract k e).size : Int) = (e : Int) - (k : Int) := by rw [ext_size z k e e2]; omega
 refine callOk_of_hcallF 40 ?_
 simp (disch := omega) only [go_sem]
 refine hcall_names (names_at 0 0 (scanT z k acc) rfl (by with_reducible rfl) (by simp (disch := omega) only [go_sem])) ?_
 simp (disch := omega) only [go_sem]
 refine hBd Tryz.func80 rfl (by kernel_rfl) ?_
 simp (disch := omega) only [go_sem, Tryz.ntmps80, Tryz.results80]
 have x1 : HT 2 (.fr [0, 1, 2, 3, 4, 5, 6, 7] (.op [8] (.fr [9] (.stop)))) := ⟨⟩
 have x2 : HH 17 (.ho [0, 1, 2, 3, 4, 5] (opm 6 [1] [false, true] (.ho [7, 8, 9, 10] (opm 11 [] [false, false] (.stop))))) := ⟨⟩
 have x3 : HT 18 (.fr [0, 1, 2, 3, 4, 5, 6, 7, 8, 9, 10, 11, 12, 13, 14, 15, 16, 17, 18, 19, 20, 21, 22, 23, 24] (.op [25] (.fr [26, 27, 28] (.stop)))) := ⟨⟩
 have x4 : HT 24 (.fr [0, 1, 2, 3, 4, 5, 6, 7, 8, 9, 10, 11, 12, 13, 14] (.op [15] (.stop))) := ⟨⟩
 have x5 : HH 28 (.ho [0, 1, 2, 3, 4, 5] (opm 6 [4] [false, true] (opm 7 [] [false] (.ho [8, 9] (opm 10 [] [] (.stop)))))) := ⟨⟩
 have x6 : HF 0 99 := ⟨⟩
 exact wksf
theorem sOne_figure (z : ByteArray) (k : Nat) (acc : List Sign) (hz : z.size ≤ 1048576) (hk : k < z.size) (ha : acc.length ≤ 1048576) (h1 : letterB (bt z k) = false) (h3 : figureB (bt z k) = true) (h4 : decide ((6 : Int) < (runF figureB z k : Int) - (k : Int)) = false) : CallOk Tryz.prog 80 [.one (.box (scanT z k acc))] (.s (.one (bV (!decide ((500 : Int) ≤ (acc.length : Int)))))) [if decide ((500 : Int) ≤ (acc.length : Int)) = true then none else some (.box (scanT z ((runF figureB z k : Nat) : Int) (acc ++ [⟨2, z.extract k (runF figureB z k), numT z k (runF figureB z k - k), k⟩])))] := by
 obtain ⟨i0, i1⟩ := inB_t h3
 have hrun : CallOk Tryz.prog 159 [.one (.box (scanT z k acc)), .one (uV 48), .one (uV 57)] (.s (.one (sV (z.extract k (runF figureB z k))))) [some (.box (scanT z (runF figureB z k) acc)), none, none] := sRun_ok z k acc 48 57 hz (by omega) ha
 obtain ⟨e1, e2⟩ := runF_le (p := figureB) (z := z) _ k rfl (by omega)
 have hat := runF_at (p := figureB) (z := z) _ k rfl (by omega)
 obtain ⟨e, he⟩ : ∃ e, runF figureB z k = e := ⟨_, rfl⟩
 rw [he] at hrun e1 e2 h4 hat
 rw [he]
 clear he h1 h3
 have h4' := of_decide_eq_false h4
 have hes : ((z.extract k e).size : Int) = (e : Int) - (k : Int) := by rw [ext_size z k e e2]; omega
 obtain ⟨N, hN⟩ : ∃ N, e - k = N := ⟨_, rfl⟩
 have hfig : ∀ j, j < N → 48 ≤ bt z (k + j) ∧ bt z (k + j) ≤ 57 := fun j hj => inB_t (hat (k + j) (by omega) (by omega))
 clear hat
 have hesN : (z.extract k e).size = N := by rw [ext_size z k e e2, hN]
 rw [hN]
 refine callOk_of_hcallF 40 ?_
 simp (disch := omega) only [go_sem]
 refine hcall_names (names_at 0 0 (scanT z k acc) rfl (by with_reducible rfl) (by simp (disch := omega) only [go_sem])) ?_
 simp (disch := omega) only [go_sem]
 refine hBd Tryz.func80 rfl (by kernel_rfl) ?_
 simp (disch := omega) only [go_sem, Tryz.ntmps80, Tryz.results80]
 repeat' (first | (with_reducible first | refine i_seq ?_ | exact th_none | exact tr_none | refine tr_stop ?_ | refine i_treeQ (id := 2) (.fr [0, 1, 2, 3, 4, 5, 6, 7] (.op [8] (.fr [9] (.stop)))) mixedT (by kernel_rfl) (fun Q' hQ => ?_) | refine i_th (id := 17) (.ho [0, 1, 2, 3, 4, 5] (opm 6 [1] [false, true] (.ho [7, 8, 9, 10] (opm 11 [] [false, false] (.stop))))) mixedT (by kernel_rfl) (fun Q' hQ => ?_) | refine i_treeQ (id := 18) (.fr [0, 1, 2, 3, 4, 5, 6, 7, 8, 9, 10, 11, 12, 13, 14, 15, 16, 17, 18, 19, 20, 21, 22, 23, 24] (.op [25] (.fr [26, 27, 28] (.stop)))) mixedT (by kernel_rfl) (fun Q' hQ => ?_) | refine i_treeQ (id := 24) (.fr [0, 1, 2, 3, 4, 5, 6, 7, 8, 9, 10, 11, 12, 13, 14] (.op [15] (.stop))) mixedT (by kernel_rfl) (fun Q' hQ => ?_) | refine i_th (id := 28) (.ho [0, 1, 2, 3, 4, 5] (opm 6 [4] [false, true] (opm 7 [] [false] (.ho [8, 9] (opm 10 [] [] (.stop)))))) mixedT (by kernel_rfl) (fun Q' hQ => ?_)) | ((first | (with_reducible first | refine iBk ?_ | refine iRQ (fun Q' hQ => ?_) | (refine Imp.go hQ ?_; clear hQ) | refine tr_fr ?_ | refine tr_op (aLr ?_) | refine tr_alt (by kernel_rfl) (aLr ?_) ?_ | refine tr_altp ?_ ?_ | refine th_ho ?_ | refine th_stop ?_ ?_ | refine th_opm ?_ (by kernel_rfl) (aLr ?_) | refine th_altm ?_ (by kernel_rfl) (aLr ?_) ?_) | ((with_reducible refine i_condT ?_ ?_); (focus (simp only [go_sem, *]; done))) | ((with_reducible refine i_condF ?_ ?_); (focus (simp only [go_sem, *]; done))) | ((with_reducible first | refine rOg (fun h => ?_) (fun h => ?_) | refine pG_split (fun h => ?_) (fun h => ?_) | refine i_cond (by simp only [go_sem, *] <;> rfl) (fun h => ?_) (fun h => ?_)) <;> (try simp only [nqA, nqB, nqC, reduceCtorEq] at h) <;> (try have h' := odT h) <;> (try (have hz : (_ : Int) = (_ : Int) := h'; clear hz h')) <;> (try have h' := odF h) <;> (try have h' := inB_t h) <;> (try (exfalso; omega))) | (((with_reducible first | refine hcO 40 true (hrun) ?_ ?_ ?_ ?_ ?_); iterate 4 (focus (simp (disch := omega) only [go_sem, hes, h4, reduceCtorEq, nLo]; done))); simp only [go_sem, hes, h4, reduceCtorEq]; refine aLr ?_)) <;> (try simp (disch := first | omega | (simp only [sAp, size_mk, List.size_toArray, List.length_cons, List.length_nil]; omega)) only [go_sem, hes, h4, reduceCtorEq, *])) | ((first | apply hFo | apply endF_folds); (focus ((first | refine folds_setc 99 rfl (by with_reducible rfl) ?_ ?_); (focus (simp (disch := omega) only [go_sem]; done)); (focus (first | omega | (simp (disch := omega) only [go_sem]; omega))))); (try simp (disch := first | omega | (simp only [sAp, size_mk, List.size_toArray, List.length_cons, List.length_nil]; omega)) only [go_sem, hes, h4, reduceCtorEq, *])))
 all_goals (try (with_reducible refine endF_k ?_))
 all_goals (try simp (disch := omega) only [EndK, go_sem, hes, h4, reduceCtorEq, nLo, *])
 refine i_loop (α := {j : Nat // j ≤ N}) (fun j => ⟨mkEnv 150 [(0, .one (.ptr 0 0 0)), (3, .one (.ptr 2 0 0)), (5, .one (iV j.1))], [.live 3 [[sV z, iV e, .own 4 (signsT acc)]], .dead, .live 4 [[iV 2, sV (z.extract k e), iV (numT z k j.1), iV k]]]⟩) (fun j => N - j.1) ⟨0, by omega⟩ ?_ ?_
 ·have h0 : numT z k 0 = 0 := rfl
  first | (refine wCn [0, 3, 5] [2] ?_ ?_ ?_ <;> (simp (disch := omega) only [go_sem, h0]; done))
 rintro ⟨j, hj⟩
 by_cases hjl : j < N
 ·have hb := bt_ext (z := z) (a := k) (e := e) (j := j) (by omega) e2
  have d1 : decide ((j : Int) < (N : Int)) = true := decide_eq_true (by omega)
  have hfj := hfig j hjl
  have hnb := numT_bd6 (z := z) (a := k) (k := j) (by omega) (fun i hi => hfig i (by omega))
  have e3 : 10 * numT z k j + bt z (k + j) - 48 = numT z k (j + 1) := by show _ = 10 * numT z k j + (bt z (k + j) - 48); omega
  obtain ⟨n0, n1⟩ := hnb
  obtain ⟨f0, f1⟩ := hfj
  clear hfig hes h4 hrun
  simp (disch := omega) only [go_sem]
  repeat' (first | (with_reducible first | refine i_seq ?_ | exact th_none | exact tr_none | refine tr_stop ?_ | refine i_treeQ (id := 2) (.fr [0, 1, 2, 3, 4, 5, 6, 7] (.op [8] (.fr [9] (.stop)))) mixedT (by kernel_rfl) (fun Q' hQ => ?_) | refine i_th (id := 17) (.ho [0, 1, 2, 3, 4, 5] (opm 6 [1] [false, true] (.ho [7, 8, 9, 10] (opm 11 [] [false, false] (.stop))))) mixedT (by kernel_rfl) (fun Q' hQ => ?_) | refine i_treeQ (id := 18) (.fr [0, 1, 2, 3, 4, 5, 6, 7, 8, 9, 10, 11, 12, 13, 14, 15, 16, 17, 18, 19, 20, 21, 22, 23, 24] (.op [25] (.fr [26, 27, 28] (.stop)))) mixedT (by kernel_rfl) (fun Q' hQ => ?_) | refine i_treeQ (id := 24) (.fr [0, 1, 2, 3, 4, 5, 6, 7, 8, 9, 10, 11, 12, 13, 14] (.op [15] (.stop))) mixedT (by kernel_rfl) (fun Q' hQ => ?_) | refine i_th (id := 28) (.ho [0, 1, 2, 3, 4, 5] (opm 6 [4] [false, true] (opm 7 [] [false] (.ho [8, 9] (opm 10 [] [] (.stop)))))) mixedT (by kernel_rfl) (fun Q' hQ => ?_)) | ((first | (with_reducible first | refine iBk ?_ | refine iRQ (fun Q' hQ => ?_) | (refine Imp.go hQ ?_; clear hQ) | refine tr_fr ?_ | refine tr_op (aLr ?_) | refine tr_alt (by kernel_rfl) (aLr ?_) ?_ | refine tr_altp ?_ ?_ | refine th_ho ?_ | refine th_stop ?_ ?_ | refine th_opm ?_ (by kernel_rfl) (aLr ?_) | refine th_altm ?_ (by kernel_rfl) (aLr ?_) ?_) | ((with_reducible refine i_condT ?_ ?_); (focus (simp only [go_sem, *]; done))) | ((with_reducible refine i_condF ?_ ?_); (focus (simp only [go_sem, *]; done))) | ((with_reducible first | refine rOg (fun h => ?_) (fun h => ?_) | refine pG_split (fun h => ?_) (fun h => ?_) | refine i_cond (by simp only [go_sem, *] <;> rfl) (fun h => ?_) (fun h => ?_)) <;> (try simp only [nqA, nqB, nqC, reduceCtorEq] at h) <;> (try have h' := odT h) <;> (try (have hz : (_ : Int) = (_ : Int) := h'; clear hz h')) <;> (try have h' := odF h) <;> (try have h' := inB_t h) <;> (try (exfalso; omega)))) <;> (try simp (disch := first | omega | (simp only [sAp, size_mk, List.size_toArray, List.length_cons, List.length_nil]; omega)) only [go_sem, hesN, d1, hb, *])) | ((first | apply hFo | apply endF_folds); (focus ((first | refine folds_setc 99 rfl (by with_reducible rfl) ?_ ?_); (focus (simp (disch := omega) only [go_sem]; done)); (focus (first | omega | (simp (disch := omega) only [go_sem]; omega))))); (try simp (disch := first | omega | (simp only [sAp, size_mk, List.size_toArray, List.length_cons, List.length_nil]; omega)) only [go_sem, hesN, d1, hb, *])))
  all_goals (try (with_reducible refine endF_k ?_))
  all_goals (try simp (disch := omega) only [EndK, go_sem, hesN, d1, hb, nLo, *])
  all_goals refine ⟨⟨j + 1, by omega⟩, ?_, by simp only; omega⟩
  all_goals first | (refine wCn [0, 3, 5] [2] ?_ ?_ ?_ <;> (simp (disch := omega) only [go_sem, e3]; done))
 ·have ej : j = N := by omega
  subst ej
  have d1 : decide ((j : Int) < (j : Int)) = false := decide_eq_false (by omega)
  clear hfig hes h4 hrun
  cases hai : decide ((500 : Int) ≤ (acc.length : Int))
  all_goals
   simp only [reduceCtorEq, if_false, if_true, Bool.false_eq_true, Bool.not_true, Bool.not_false]
   simp (disch := omega) only [go_sem]
   repeat' (first | (with_reducible first | refine i_seq ?_ | exact th_none | exact tr_none | refine tr_stop ?_ | refine i_treeQ (id := 2) (.fr [0, 1, 2, 3, 4, 5, 6, 7] (.op [8] (.fr [9] (.stop)))) mixedT (by kernel_rfl) (fun Q' hQ => ?_) | refine i_th (id := 17) (.ho [0, 1, 2, 3, 4, 5] (opm 6 [1] [false, true] (.ho [7, 8, 9, 10] (opm 11 [] [false, false] (.stop))))) mixedT (by kernel_rfl) (fun Q' hQ => ?_) | refine i_treeQ (id := 18) (.fr [0, 1, 2, 3, 4, 5, 6, 7, 8, 9, 10, 11, 12, 13, 14, 15, 16, 17, 18, 19, 20, 21, 22, 23, 24] (.op [25] (.fr [26, 27, 28] (.stop)))) mixedT (by kernel_rfl) (fun Q' hQ => ?_) | refine i_treeQ (id := 24) (.fr [0, 1, 2, 3, 4, 5, 6, 7, 8, 9, 10, 11, 12, 13, 14] (.op [15] (.stop))) mixedT (by kernel_rfl) (fun Q' hQ => ?_) | refine i_th (id := 28) (.ho [0, 1, 2, 3, 4, 5] (opm 6 [4] [false, true] (opm 7 [] [false] (.ho [8, 9] (opm 10 [] [] (.stop)))))) mixedT (by kernel_rfl) (fun Q' hQ => ?_)) | ((first | (with_reducible first | refine iBk ?_ | refine iRQ (fun Q' hQ => ?_) | (refine Imp.go hQ ?_; clear hQ) | refine tr_fr ?_ | refine tr_op (aLr ?_) | refine tr_alt (by kernel_rfl) (aLr ?_) ?_ | refine tr_altp ?_ ?_ | refine th_ho ?_ | refine th_stop ?_ ?_ | refine th_opm ?_ (by kernel_rfl) (aLr ?_) | refine th_altm ?_ (by kernel_rfl) (aLr ?_) ?_) | ((with_reducible refine i_condT ?_ ?_); (focus (simp only [go_sem, *]; done))) | ((with_reducible refine i_condF ?_ ?_); (focus (simp only [go_sem, *]; done))) | ((with_reducible first | refine rOg (fun h => ?_) (fun h => ?_) | refine pG_split (fun h => ?_) (fun h => ?_) | refine i_cond (by simp only [go_sem, *] <;> rfl) (fun h => ?_) (fun h => ?_)) <;> (try simp only [nqA, nqB, nqC, reduceCtorEq] at h) <;> (try have h' := odT h) <;> (try (have hz : (_ : Int) = (_ : Int) := h'; clear hz h')) <;> (try have h' := odF h) <;> (try have h' := inB_t h) <;> (try (exfalso; omega)))) <;> (try simp (disch := first | omega | (simp only [sAp, size_mk, List.size_toArray, List.length_cons, List.length_nil]; omega)) only [go_sem, hesN, d1, hai, signsT_app1', List.length_append, List.length_singleton, reduceCtorEq, *])) | ((first | apply hFo | apply endF_folds); (focus ((first | refine folds_setc 99 rfl (by with_reducible rfl) ?_ ?_); (focus (simp (disch := omega) only [go_sem]; done)); (focus (first | omega | (simp (disch := omega) only [go_sem]; omega))))); (try simp (disch := first | omega | (simp only [sAp, size_mk, List.size_toArray, List.length_cons, List.length_nil]; omega)) only [go_sem, hesN, d1, hai, signsT_app1', List.length_append, List.length_singleton, reduceCtorEq, *])))
   all_goals (try (with_reducible refine endF_k ?_))
   all_goals (try simp (disch := omega) only [EndK, go_sem, hesN, d1, hai, signsT_app1', List.length_append, List.length_singleton, reduceCtorEq, nLo, *])
end Go.Proofs.YtejnpiielcbkkaaGreat.E
end
