/- A part of what stands under the laws of this seat: an abstract evaluator that is proved sound, and contracts of functions by it. No condition beside those that stand in each statement. -/
import Derived.Test.YtejnpiielcbkkaaGreatZA2
import Derived.Test.YtejnpiielcbkkaaGreatZG3
import Derived.Test.YtejnpiielcbkkaaGreatZE2
set_option linter.unusedVariables false
set_option linter.unusedSimpArgs false
set_option maxRecDepth 100000
set_option maxHeartbeats 4000000
namespace Go.Proofs.YtejnpiielcbkkaaGreat.E
theorem ti225 : ti Tryz.prog 225 = some ⟨.int .u64, 1, 8, false, [.int .u64 0]⟩ := by kernel_rfl
theorem ni225 : notInt Tryz.prog 225 = false := by kernel_rfl
attribute [go_sem] ti225 ni225
/-! ### Values -/
def valOk (n : Int) : Bool := inB n (-1000000) 1000000
theorem sValOk_ok (n : Int) : CallOk Tryz.prog 230 [.one (iV n)] (.s (.one (bV (valOk n)))) [none] := by
  refine callOk_of_hcall 40 (hcall_of_body Tryz.func230 rfl (by kernel_rfl) ?_)
  simp (disch := omega) only [go_sem, Tryz.ntmps230, Tryz.results230]
  have x1 := @valOk.eq_1
  have x2 := specInB_ok n (-1000000) 1000000
  exact wk
theorem iValOk_ok (n : Int) : CallOk Tryz.prog 207 [.one (iV n)] (.s (.one (bV (valOk n)))) [none] := by
  refine callOk_of_hcall 40 (hcall_of_body Tryz.func207 rfl (by kernel_rfl) ?_)
  simp (disch := omega) only [go_sem, Tryz.ntmps207, Tryz.results207]
  have x1 := @valOk.eq_1
  have x2 := within_ok n (-1000000) 1000000
  exact wk
def bit (b : Bool) : Int := if b = true then 1 else 0
theorem sBit_ok (b : Bool) : CallOk Tryz.prog 264 [.one (bV b)] (.s (.one (iV (bit b)))) [none] := by
  cases b
  all_goals
    refine callOk_of_hcall 40 (hcall_of_body Tryz.func264 rfl (by kernel_rfl) ?_)
    simp (disch := omega) only [go_sem, Tryz.ntmps264, Tryz.results264]
    have x1 := @bit.eq_1
    exact wk
theorem iBit_ok (b : Bool) : CallOk Tryz.prog 246 [.one (bV b)] (.s (.one (iV (bit b)))) [none] := by
  cases b
  all_goals
    refine callOk_of_hcall 40 (hcall_of_body Tryz.func246 rfl (by kernel_rfl) ?_)
    simp (disch := omega) only [go_sem, Tryz.ntmps246, Tryz.results246]
    have x1 := @bit.eq_1
    exact wk
def negated (a : Int) : Int × Int := if valOk a = true then (0 - a, 0) else (0, 1)
theorem valOk_t {n : Int} (h : valOk n = true) : -1000000 ≤ n ∧ n ≤ 1000000 := inB_t h
theorem sNegated_ok (a : Int) : CallOk Tryz.prog 233 [.one (iV a)] (.tup [.one (iV (negated a).1), .one (iV (negated a).2)]) [none] := by
  by_cases h : valOk a = true
  all_goals
    have hv : valOk a = true → -1000000 ≤ a ∧ a ≤ 1000000 := valOk_t
    first | (have hv1 := hv h; clear hv) | clear hv
    refine callOk_of_hcall 40 (hcall_of_body Tryz.func233 rfl (by kernel_rfl) ?_)
    simp (disch := omega) only [go_sem, Tryz.ntmps233, Tryz.results233]
    have x1 := @negated.eq_1
    have x2 := sValOk_ok a
    exact wk
theorem iNegated_ok (a : Int) : CallOk Tryz.prog 210 [.one (iV a)] (.tup [.one (iV (negated a).1), .one (iV (negated a).2)]) [none] := by
  by_cases h : valOk a = true
  all_goals
    have hv : valOk a = true → -1000000 ≤ a ∧ a ≤ 1000000 := valOk_t
    first | (have hv1 := hv h; clear hv) | clear hv
    refine callOk_of_hcall 40 (hcall_of_body Tryz.func210 rfl (by kernel_rfl) ?_)
    simp (disch := omega) only [go_sem, Tryz.ntmps210, Tryz.results210]
    have x1 := @negated.eq_1
    have x2 := iValOk_ok a
    exact wk
theorem sDenied_ok (a : Int) : CallOk Tryz.prog 232 [.one (iV a)] (.s (.one (iV (bit (a == 0))))) [none] := by
  refine callOk_of_hcall 40 (hcall_of_body Tryz.func232 rfl (by kernel_rfl) ?_)
  simp (disch := omega) only [go_sem, Tryz.ntmps232, Tryz.results232]
  have x1 := sBit_ok (a == 0)
  exact wk
theorem iDenied_ok (a : Int) : CallOk Tryz.prog 209 [.one (iV a)] (.s (.one (iV (bit (a == 0))))) [none] := by
  refine callOk_of_hcall 40 (hcall_of_body Tryz.func209 rfl (by kernel_rfl) ?_)
  simp (disch := omega) only [go_sem, Tryz.ntmps209, Tryz.results209]
  have x1 := iBit_ok (a == 0)
  exact wk
def calcN (op a b : Int) : Int :=
  if op = 1 then a + b else if op = 2 then a - b else if op = 3 then a * b else if op = 4 then a.tdiv b else if op = 5 then a.tmod b
  else if op = 6 then bit (decide (a < b)) else if op = 7 then bit (a == b) else if op = 8 then bit (a != 0 && b != 0) else bit (a != 0 || b != 0)
def calcV (op a b : Int) : Int × Int :=
  if inB op 1 9 = false ∨ valOk a = false ∨ valOk b = false then (0, 1)
  else if (b == 0) = true ∧ (op = 4 ∨ op = 5) then (0, 2)
  else if valOk (calcN op a b) = true then (calcN op a b, 0) else (0, 1)
theorem calcV_bad {op a b : Int} (h : inB op 1 9 = false ∨ valOk a = false ∨ valOk b = false) : calcV op a b = (0, 1) := by rw [calcV, if_pos h]
theorem mul_bd {a b : Int} (ha : valOk a = true) (hb : valOk b = true) : -1000000000000 ≤ a * b ∧ a * b ≤ 1000000000000 := by
  obtain ⟨h1, h2⟩ := valOk_t ha
  obtain ⟨h3, h4⟩ := valOk_t hb
  have : (a * b).natAbs ≤ 1000000 * 1000000 := by
    rw [Int.natAbs_mul]
    exact Nat.mul_le_mul (by omega) (by omega)
  omega
theorem div_bd {a b : Int} (ha : valOk a = true) : -1000000 ≤ a.tdiv b ∧ a.tdiv b ≤ 1000000 := by
  obtain ⟨h1, h2⟩ := valOk_t ha
  have : (a.tdiv b).natAbs ≤ a.natAbs := by
    rw [Int.natAbs_tdiv]
    exact Nat.div_le_self _ _
  omega
theorem sCalc_ok_bad (op a b : Int) (h : inB op 1 9 = false ∨ valOk a = false ∨ valOk b = false) : CallOk Tryz.prog 231 [.one (iV op), .one (iV a), .one (iV b)] (.tup [.one (iV 0), .one (iV 1)]) [none, none, none] := by
  cases h1 : inB op 1 9 <;> cases h2 : valOk a <;> cases h3 : valOk b <;> simp only [h1, h2, h3, reduceCtorEq, or_false, or_true, false_or] at h <;> clear h
  all_goals
    refine callOk_of_hcall 40 (hcall_of_body Tryz.func231 rfl (by kernel_rfl) ?_)
    simp (disch := omega) only [go_sem, Tryz.ntmps231, Tryz.results231]
    have x1 := sValOk_ok a
    have x2 : HC 1 _ := ⟨sValOk_ok b⟩
    have x3 := specInB_ok op 1 9
    exact wk
theorem sCalc_ok_1 (a b : Int) (ha : valOk a = true) (hb : valOk b = true) : CallOk Tryz.prog 231 [.one (iV 1), .one (iV a), .one (iV b)] (.tup (if valOk (a + b) = true then [.one (iV (a + b)), .one (iV 0)] else [.one (iV 0), .one (iV 1)])) [none, none, none] := by
  have hin : inB 1 1 9 = true := rfl
  obtain ⟨a1, a2⟩ := valOk_t ha
  obtain ⟨b1, b2⟩ := valOk_t hb
  refine callOk_of_hcall 40 (hcall_of_body Tryz.func231 rfl (by kernel_rfl) ?_)
  simp (disch := omega) only [go_sem, Tryz.ntmps231, Tryz.results231]
  have x1 := sValOk_ok a
  have x2 : HC 1 _ := ⟨sValOk_ok b⟩
  have x3 := specInB_ok 1 1 9
  have x4 : HC 2 _ := ⟨sValOk_ok (a + b)⟩
  exact wki
theorem sCalc_ok_2 (a b : Int) (ha : valOk a = true) (hb : valOk b = true) : CallOk Tryz.prog 231 [.one (iV 2), .one (iV a), .one (iV b)] (.tup (if valOk (a - b) = true then [.one (iV (a - b)), .one (iV 0)] else [.one (iV 0), .one (iV 1)])) [none, none, none] := by
  have hin : inB 2 1 9 = true := rfl
  obtain ⟨a1, a2⟩ := valOk_t ha
  obtain ⟨b1, b2⟩ := valOk_t hb
  refine callOk_of_hcall 40 (hcall_of_body Tryz.func231 rfl (by kernel_rfl) ?_)
  simp (disch := omega) only [go_sem, Tryz.ntmps231, Tryz.results231]
  have x1 := sValOk_ok a
  have x2 : HC 1 _ := ⟨sValOk_ok b⟩
  have x3 := specInB_ok 2 1 9
  have x4 : HC 2 _ := ⟨sValOk_ok (a - b)⟩
  exact wki
theorem sCalc_ok_3 (a b : Int) (ha : valOk a = true) (hb : valOk b = true) : CallOk Tryz.prog 231 [.one (iV 3), .one (iV a), .one (iV b)] (.tup (if valOk (a * b) = true then [.one (iV (a * b)), .one (iV 0)] else [.one (iV 0), .one (iV 1)])) [none, none, none] := by
  have hin : inB 3 1 9 = true := rfl
  obtain ⟨a1, a2⟩ := valOk_t ha
  obtain ⟨b1, b2⟩ := valOk_t hb
  have hm := mul_bd ha hb
  refine callOk_of_hcall 40 (hcall_of_body Tryz.func231 rfl (by kernel_rfl) ?_)
  simp (disch := omega) only [go_sem, Tryz.ntmps231, Tryz.results231]
  have x1 := sValOk_ok a
  have x2 : HC 1 _ := ⟨sValOk_ok b⟩
  have x3 := specInB_ok 3 1 9
  have x4 : HC 2 _ := ⟨sValOk_ok (a * b)⟩
  exact wki
theorem sCalc_ok_4 (a b : Int) (ha : valOk a = true) (hb : valOk b = true) (hz : (b == 0) = false) : CallOk Tryz.prog 231 [.one (iV 4), .one (iV a), .one (iV b)] (.tup (if valOk (a.tdiv b) = true then [.one (iV (a.tdiv b)), .one (iV 0)] else [.one (iV 0), .one (iV 1)])) [none, none, none] := by
  have hin : inB 4 1 9 = true := rfl
  obtain ⟨a1, a2⟩ := valOk_t ha
  obtain ⟨b1, b2⟩ := valOk_t hb
  have hm := div_bd (b := b) ha
  have hb0 : b ≠ 0 := by simpa using hz
  refine callOk_of_hcall 40 (hcall_of_body Tryz.func231 rfl (by kernel_rfl) ?_)
  simp (disch := omega) only [go_sem, Tryz.ntmps231, Tryz.results231]
  have x1 := sValOk_ok a
  have x2 : HC 1 _ := ⟨sValOk_ok b⟩
  have x3 := specInB_ok 4 1 9
  have x4 : HC 2 _ := ⟨sValOk_ok (a.tdiv b)⟩
  exact wki
theorem sCalc_ok_5 (a b : Int) (ha : valOk a = true) (hb : valOk b = true) (hz : (b == 0) = false) : CallOk Tryz.prog 231 [.one (iV 5), .one (iV a), .one (iV b)] (.tup (if valOk (a.tmod b) = true then [.one (iV (a.tmod b)), .one (iV 0)] else [.one (iV 0), .one (iV 1)])) [none, none, none] := by
  have hin : inB 5 1 9 = true := rfl
  obtain ⟨a1, a2⟩ := valOk_t ha
  obtain ⟨b1, b2⟩ := valOk_t hb
  have hm := div_bd (b := b) ha
  have hb0 : b ≠ 0 := by simpa using hz
  refine callOk_of_hcall 40 (hcall_of_body Tryz.func231 rfl (by kernel_rfl) ?_)
  simp (disch := omega) only [go_sem, Tryz.ntmps231, Tryz.results231]
  have x1 := sValOk_ok a
  have x2 : HC 1 _ := ⟨sValOk_ok b⟩
  have x3 := specInB_ok 5 1 9
  have x4 : HC 2 _ := ⟨sValOk_ok (a.tmod b)⟩
  exact wki
theorem sCalc_ok_6 (a b : Int) (ha : valOk a = true) (hb : valOk b = true) : CallOk Tryz.prog 231 [.one (iV 6), .one (iV a), .one (iV b)] (.tup (if valOk (bit (decide (a < b))) = true then [.one (iV (bit (decide (a < b)))), .one (iV 0)] else [.one (iV 0), .one (iV 1)])) [none, none, none] := by
  have hin : inB 6 1 9 = true := rfl
  obtain ⟨a1, a2⟩ := valOk_t ha
  obtain ⟨b1, b2⟩ := valOk_t hb
  refine callOk_of_hcall 40 (hcall_of_body Tryz.func231 rfl (by kernel_rfl) ?_)
  simp (disch := omega) only [go_sem, Tryz.ntmps231, Tryz.results231]
  have x1 := sValOk_ok a
  have x2 : HC 1 _ := ⟨sValOk_ok b⟩
  have x3 := specInB_ok 6 1 9
  have x4 := sBit_ok (decide (a < b))
  have x5 : HC 2 _ := ⟨sValOk_ok (bit (decide (a < b)))⟩
  exact wki
theorem sCalc_ok_7 (a b : Int) (ha : valOk a = true) (hb : valOk b = true) : CallOk Tryz.prog 231 [.one (iV 7), .one (iV a), .one (iV b)] (.tup (if valOk (bit (a == b)) = true then [.one (iV (bit (a == b))), .one (iV 0)] else [.one (iV 0), .one (iV 1)])) [none, none, none] := by
  have hin : inB 7 1 9 = true := rfl
  obtain ⟨a1, a2⟩ := valOk_t ha
  obtain ⟨b1, b2⟩ := valOk_t hb
  refine callOk_of_hcall 40 (hcall_of_body Tryz.func231 rfl (by kernel_rfl) ?_)
  simp (disch := omega) only [go_sem, Tryz.ntmps231, Tryz.results231]
  have x1 := sValOk_ok a
  have x2 : HC 1 _ := ⟨sValOk_ok b⟩
  have x3 := specInB_ok 7 1 9
  have x4 := sBit_ok (a == b)
  have x5 : HC 2 _ := ⟨sValOk_ok (bit (a == b))⟩
  exact wki
theorem sCalc_ok_8 (a b : Int) (ha : valOk a = true) (hb : valOk b = true) : CallOk Tryz.prog 231 [.one (iV 8), .one (iV a), .one (iV b)] (.tup (if valOk (bit (a != 0 && b != 0)) = true then [.one (iV (bit (a != 0 && b != 0))), .one (iV 0)] else [.one (iV 0), .one (iV 1)])) [none, none, none] := by
  have hin : inB 8 1 9 = true := rfl
  obtain ⟨a1, a2⟩ := valOk_t ha
  obtain ⟨b1, b2⟩ := valOk_t hb
  cases e1 : a != 0 <;> cases e2 : b != 0
  all_goals
    refine callOk_of_hcall 40 (hcall_of_body Tryz.func231 rfl (by kernel_rfl) ?_)
    simp (disch := omega) only [go_sem, Tryz.ntmps231, Tryz.results231]
    have x1 := sValOk_ok a
    have x2 : HC 1 _ := ⟨sValOk_ok b⟩
    have x3 := specInB_ok 8 1 9
    have x4 := sBit_ok true
    have x5 : HC 1 _ := ⟨sBit_ok false⟩
    have x6 : HC 2 _ := ⟨sBit_ok (b != 0)⟩
    have x7 : HC 2 _ := ⟨sValOk_ok (bit (a != 0 && b != 0))⟩
    have x8 : HC 3 _ := ⟨sValOk_ok (bit true)⟩
    have x9 : HC 4 _ := ⟨sValOk_ok (bit false)⟩
    exact wki
theorem sCalc_ok_9 (a b : Int) (ha : valOk a = true) (hb : valOk b = true) : CallOk Tryz.prog 231 [.one (iV 9), .one (iV a), .one (iV b)] (.tup (if valOk (bit (a != 0 || b != 0)) = true then [.one (iV (bit (a != 0 || b != 0))), .one (iV 0)] else [.one (iV 0), .one (iV 1)])) [none, none, none] := by
  have hin : inB 9 1 9 = true := rfl
  obtain ⟨a1, a2⟩ := valOk_t ha
  obtain ⟨b1, b2⟩ := valOk_t hb
  cases e1 : a != 0 <;> cases e2 : b != 0
  all_goals
    refine callOk_of_hcall 40 (hcall_of_body Tryz.func231 rfl (by kernel_rfl) ?_)
    simp (disch := omega) only [go_sem, Tryz.ntmps231, Tryz.results231]
    have x1 := sValOk_ok a
    have x2 : HC 1 _ := ⟨sValOk_ok b⟩
    have x3 := specInB_ok 9 1 9
    have x4 := sBit_ok true
    have x5 : HC 1 _ := ⟨sBit_ok false⟩
    have x6 : HC 2 _ := ⟨sBit_ok (b != 0)⟩
    have x7 : HC 2 _ := ⟨sValOk_ok (bit (a != 0 || b != 0))⟩
    have x8 : HC 3 _ := ⟨sValOk_ok (bit true)⟩
    have x9 : HC 4 _ := ⟨sValOk_ok (bit false)⟩
    exact wki
theorem iCalc_ok_bad (op a b : Int) (h : inB op 1 9 = false ∨ valOk a = false ∨ valOk b = false) : CallOk Tryz.prog 208 [.one (iV op), .one (iV a), .one (iV b)] (.tup [.one (iV 0), .one (iV 1)]) [none, none, none] := by
  cases h1 : inB op 1 9 <;> cases h2 : valOk a <;> cases h3 : valOk b <;> simp only [h1, h2, h3, reduceCtorEq, or_false, or_true, false_or] at h <;> clear h
  all_goals
    refine callOk_of_hcall 40 (hcall_of_body Tryz.func208 rfl (by kernel_rfl) ?_)
    simp (disch := omega) only [go_sem, Tryz.ntmps208, Tryz.results208]
    have x1 := iValOk_ok a
    have x2 : HC 1 _ := ⟨iValOk_ok b⟩
    have x3 := within_ok op 1 9
    exact wk
theorem iCalc_ok_1 (a b : Int) (ha : valOk a = true) (hb : valOk b = true) : CallOk Tryz.prog 208 [.one (iV 1), .one (iV a), .one (iV b)] (.tup (if valOk (a + b) = true then [.one (iV (a + b)), .one (iV 0)] else [.one (iV 0), .one (iV 1)])) [none, none, none] := by
  have hin : inB 1 1 9 = true := rfl
  obtain ⟨a1, a2⟩ := valOk_t ha
  obtain ⟨b1, b2⟩ := valOk_t hb
  refine callOk_of_hcall 40 (hcall_of_body Tryz.func208 rfl (by kernel_rfl) ?_)
  simp (disch := omega) only [go_sem, Tryz.ntmps208, Tryz.results208]
  have x1 := iValOk_ok a
  have x2 : HC 1 _ := ⟨iValOk_ok b⟩
  have x3 := within_ok 1 1 9
  have x4 : HC 2 _ := ⟨iValOk_ok (a + b)⟩
  exact wki
theorem iCalc_ok_2 (a b : Int) (ha : valOk a = true) (hb : valOk b = true) : CallOk Tryz.prog 208 [.one (iV 2), .one (iV a), .one (iV b)] (.tup (if valOk (a - b) = true then [.one (iV (a - b)), .one (iV 0)] else [.one (iV 0), .one (iV 1)])) [none, none, none] := by
  have hin : inB 2 1 9 = true := rfl
  obtain ⟨a1, a2⟩ := valOk_t ha
  obtain ⟨b1, b2⟩ := valOk_t hb
  refine callOk_of_hcall 40 (hcall_of_body Tryz.func208 rfl (by kernel_rfl) ?_)
  simp (disch := omega) only [go_sem, Tryz.ntmps208, Tryz.results208]
  have x1 := iValOk_ok a
  have x2 : HC 1 _ := ⟨iValOk_ok b⟩
  have x3 := within_ok 2 1 9
  have x4 : HC 2 _ := ⟨iValOk_ok (a - b)⟩
  exact wki
theorem iCalc_ok_3 (a b : Int) (ha : valOk a = true) (hb : valOk b = true) : CallOk Tryz.prog 208 [.one (iV 3), .one (iV a), .one (iV b)] (.tup (if valOk (a * b) = true then [.one (iV (a * b)), .one (iV 0)] else [.one (iV 0), .one (iV 1)])) [none, none, none] := by
  have hin : inB 3 1 9 = true := rfl
  obtain ⟨a1, a2⟩ := valOk_t ha
  obtain ⟨b1, b2⟩ := valOk_t hb
  have hm := mul_bd ha hb
  refine callOk_of_hcall 40 (hcall_of_body Tryz.func208 rfl (by kernel_rfl) ?_)
  simp (disch := omega) only [go_sem, Tryz.ntmps208, Tryz.results208]
  have x1 := iValOk_ok a
  have x2 : HC 1 _ := ⟨iValOk_ok b⟩
  have x3 := within_ok 3 1 9
  have x4 : HC 2 _ := ⟨iValOk_ok (a * b)⟩
  exact wki
theorem iCalc_ok_4 (a b : Int) (ha : valOk a = true) (hb : valOk b = true) (hz : (b == 0) = false) : CallOk Tryz.prog 208 [.one (iV 4), .one (iV a), .one (iV b)] (.tup (if valOk (a.tdiv b) = true then [.one (iV (a.tdiv b)), .one (iV 0)] else [.one (iV 0), .one (iV 1)])) [none, none, none] := by
  have hin : inB 4 1 9 = true := rfl
  obtain ⟨a1, a2⟩ := valOk_t ha
  obtain ⟨b1, b2⟩ := valOk_t hb
  have hm := div_bd (b := b) ha
  have hb0 : b ≠ 0 := by simpa using hz
  refine callOk_of_hcall 40 (hcall_of_body Tryz.func208 rfl (by kernel_rfl) ?_)
  simp (disch := omega) only [go_sem, Tryz.ntmps208, Tryz.results208]
  have x1 := iValOk_ok a
  have x2 : HC 1 _ := ⟨iValOk_ok b⟩
  have x3 := within_ok 4 1 9
  have x4 : HC 2 _ := ⟨iValOk_ok (a.tdiv b)⟩
  exact wki
theorem iCalc_ok_5 (a b : Int) (ha : valOk a = true) (hb : valOk b = true) (hz : (b == 0) = false) : CallOk Tryz.prog 208 [.one (iV 5), .one (iV a), .one (iV b)] (.tup (if valOk (a.tmod b) = true then [.one (iV (a.tmod b)), .one (iV 0)] else [.one (iV 0), .one (iV 1)])) [none, none, none] := by
  have hin : inB 5 1 9 = true := rfl
  obtain ⟨a1, a2⟩ := valOk_t ha
  obtain ⟨b1, b2⟩ := valOk_t hb
  have hm := div_bd (b := b) ha
  have hb0 : b ≠ 0 := by simpa using hz
  refine callOk_of_hcall 40 (hcall_of_body Tryz.func208 rfl (by kernel_rfl) ?_)
  simp (disch := omega) only [go_sem, Tryz.ntmps208, Tryz.results208]
  have x1 := iValOk_ok a
  have x2 : HC 1 _ := ⟨iValOk_ok b⟩
  have x3 := within_ok 5 1 9
  have x4 : HC 2 _ := ⟨iValOk_ok (a.tmod b)⟩
  exact wki
theorem iCalc_ok_6 (a b : Int) (ha : valOk a = true) (hb : valOk b = true) : CallOk Tryz.prog 208 [.one (iV 6), .one (iV a), .one (iV b)] (.tup (if valOk (bit (decide (a < b))) = true then [.one (iV (bit (decide (a < b)))), .one (iV 0)] else [.one (iV 0), .one (iV 1)])) [none, none, none] := by
  have hin : inB 6 1 9 = true := rfl
  obtain ⟨a1, a2⟩ := valOk_t ha
  obtain ⟨b1, b2⟩ := valOk_t hb
  refine callOk_of_hcall 40 (hcall_of_body Tryz.func208 rfl (by kernel_rfl) ?_)
  simp (disch := omega) only [go_sem, Tryz.ntmps208, Tryz.results208]
  have x1 := iValOk_ok a
  have x2 : HC 1 _ := ⟨iValOk_ok b⟩
  have x3 := within_ok 6 1 9
  have x4 := iBit_ok (decide (a < b))
  have x5 : HC 2 _ := ⟨iValOk_ok (bit (decide (a < b)))⟩
  exact wki
theorem iCalc_ok_7 (a b : Int) (ha : valOk a = true) (hb : valOk b = true) : CallOk Tryz.prog 208 [.one (iV 7), .one (iV a), .one (iV b)] (.tup (if valOk (bit (a == b)) = true then [.one (iV (bit (a == b))), .one (iV 0)] else [.one (iV 0), .one (iV 1)])) [none, none, none] := by
  have hin : inB 7 1 9 = true := rfl
  obtain ⟨a1, a2⟩ := valOk_t ha
  obtain ⟨b1, b2⟩ := valOk_t hb
  refine callOk_of_hcall 40 (hcall_of_body Tryz.func208 rfl (by kernel_rfl) ?_)
  simp (disch := omega) only [go_sem, Tryz.ntmps208, Tryz.results208]
  have x1 := iValOk_ok a
  have x2 : HC 1 _ := ⟨iValOk_ok b⟩
  have x3 := within_ok 7 1 9
  have x4 := iBit_ok (a == b)
  have x5 : HC 2 _ := ⟨iValOk_ok (bit (a == b))⟩
  exact wki
theorem iCalc_ok_8 (a b : Int) (ha : valOk a = true) (hb : valOk b = true) : CallOk Tryz.prog 208 [.one (iV 8), .one (iV a), .one (iV b)] (.tup (if valOk (bit (a != 0 && b != 0)) = true then [.one (iV (bit (a != 0 && b != 0))), .one (iV 0)] else [.one (iV 0), .one (iV 1)])) [none, none, none] := by
  have hin : inB 8 1 9 = true := rfl
  obtain ⟨a1, a2⟩ := valOk_t ha
  obtain ⟨b1, b2⟩ := valOk_t hb
  cases e1 : a != 0 <;> cases e2 : b != 0
  all_goals
    refine callOk_of_hcall 40 (hcall_of_body Tryz.func208 rfl (by kernel_rfl) ?_)
    simp (disch := omega) only [go_sem, Tryz.ntmps208, Tryz.results208]
    have x1 := iValOk_ok a
    have x2 : HC 1 _ := ⟨iValOk_ok b⟩
    have x3 := within_ok 8 1 9
    have x4 := iBit_ok true
    have x5 : HC 1 _ := ⟨iBit_ok false⟩
    have x6 : HC 2 _ := ⟨iBit_ok (b != 0)⟩
    have x7 : HC 2 _ := ⟨iValOk_ok (bit (a != 0 && b != 0))⟩
    have x8 : HC 3 _ := ⟨iValOk_ok (bit true)⟩
    have x9 : HC 4 _ := ⟨iValOk_ok (bit false)⟩
    exact wki
theorem iCalc_ok_9 (a b : Int) (ha : valOk a = true) (hb : valOk b = true) : CallOk Tryz.prog 208 [.one (iV 9), .one (iV a), .one (iV b)] (.tup (if valOk (bit (a != 0 || b != 0)) = true then [.one (iV (bit (a != 0 || b != 0))), .one (iV 0)] else [.one (iV 0), .one (iV 1)])) [none, none, none] := by
  have hin : inB 9 1 9 = true := rfl
  obtain ⟨a1, a2⟩ := valOk_t ha
  obtain ⟨b1, b2⟩ := valOk_t hb
  cases e1 : a != 0 <;> cases e2 : b != 0
  all_goals
    refine callOk_of_hcall 40 (hcall_of_body Tryz.func208 rfl (by kernel_rfl) ?_)
    simp (disch := omega) only [go_sem, Tryz.ntmps208, Tryz.results208]
    have x1 := iValOk_ok a
    have x2 : HC 1 _ := ⟨iValOk_ok b⟩
    have x3 := within_ok 9 1 9
    have x4 := iBit_ok true
    have x5 : HC 1 _ := ⟨iBit_ok false⟩
    have x6 : HC 2 _ := ⟨iBit_ok (b != 0)⟩
    have x7 : HC 2 _ := ⟨iValOk_ok (bit (a != 0 || b != 0))⟩
    have x8 : HC 3 _ := ⟨iValOk_ok (bit true)⟩
    have x9 : HC 4 _ := ⟨iValOk_ok (bit false)⟩
    exact wki
end Go.Proofs.YtejnpiielcbkkaaGreat.E
