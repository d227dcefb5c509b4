/- A part of what stands under the laws of this seat: an abstract evaluator that is proved sound, and contracts of functions by it. No condition beside those that stand in each statement. -/
import Derived.Test.YtejnpiielcbkkaaGreatZK1
set_option linter.unusedVariables false
set_option linter.unusedSimpArgs false
section
set_option maxRecDepth 100000
set_option maxHeartbeats 4000000
namespace Go.Proofs.YtejnpiielcbkkaaGreat.E
theorem tup_if (c : Prop) [Decidable c] (x : Int) : (AV.tup [.one (iV (if c then (x, (0 : Int)) else (0, 1)).1), .one (iV (if c then (x, (0 : Int)) else (0, 1)).2)]) = .tup (if c then [.one (iV x), .one (iV 0)] else [.one (iV 0), .one (iV 1)]) := by split <;> rfl
theorem calcV_good {op a b : Int} (h1 : inB op 1 9 = true) (ha : valOk a = true) (hb : valOk b = true) (hz : ¬((b == 0) = true ∧ (op = 4 ∨ op = 5))) : calcV op a b = if valOk (calcN op a b) = true then (calcN op a b, 0) else (0, 1) := by
  rw [calcV, if_neg (by simp [h1, ha, hb]), if_neg hz]
theorem sCalc_ok_z4 (a b : Int) (ha : valOk a = true) (hb : valOk b = true) (hz : (b == 0) = true) : CallOk Tryz.prog 231 [.one (iV 4), .one (iV a), .one (iV b)] (.tup [.one (iV 0), .one (iV 2)]) [none, none, none] := by
  have hin : inB 4 1 9 = true := rfl
  refine callOk_of_hcall 40 (hcall_of_body Tryz.func231 rfl (by kernel_rfl) ?_)
  simp (disch := omega) only [go_sem, Tryz.ntmps231, Tryz.results231]
  have x1 := sValOk_ok a
  have x2 : HC 1 _ := ⟨sValOk_ok b⟩
  have x3 := specInB_ok 4 1 9
  exact wki
theorem sCalc_ok_z5 (a b : Int) (ha : valOk a = true) (hb : valOk b = true) (hz : (b == 0) = true) : CallOk Tryz.prog 231 [.one (iV 5), .one (iV a), .one (iV b)] (.tup [.one (iV 0), .one (iV 2)]) [none, none, none] := by
  have hin : inB 5 1 9 = true := rfl
  refine callOk_of_hcall 40 (hcall_of_body Tryz.func231 rfl (by kernel_rfl) ?_)
  simp (disch := omega) only [go_sem, Tryz.ntmps231, Tryz.results231]
  have x1 := sValOk_ok a
  have x2 : HC 1 _ := ⟨sValOk_ok b⟩
  have x3 := specInB_ok 5 1 9
  exact wki
theorem sCalc_ok (op a b : Int) : CallOk Tryz.prog 231 [.one (iV op), .one (iV a), .one (iV b)] (.tup [.one (iV (calcV op a b).1), .one (iV (calcV op a b).2)]) [none, none, none] := by
  by_cases hbad : inB op 1 9 = false ∨ valOk a = false ∨ valOk b = false
  · rw [calcV_bad hbad]; exact sCalc_ok_bad op a b hbad
  have h1 : inB op 1 9 = true := by cases h : inB op 1 9 <;> simp_all
  have ha : valOk a = true := by cases h : valOk a <;> simp_all
  have hb : valOk b = true := by cases h : valOk b <;> simp_all
  have ho : op = 1 ∨ op = 2 ∨ op = 3 ∨ op = 4 ∨ op = 5 ∨ op = 6 ∨ op = 7 ∨ op = 8 ∨ op = 9 := by have := inB_t h1; omega
  rcases ho with rfl | rfl | rfl | rfl | rfl | rfl | rfl | rfl | rfl
  · rw [calcV_good h1 ha hb (by simp), tup_if]; exact sCalc_ok_1 a b ha hb
  · rw [calcV_good h1 ha hb (by simp), tup_if]; exact sCalc_ok_2 a b ha hb
  · rw [calcV_good h1 ha hb (by simp), tup_if]; exact sCalc_ok_3 a b ha hb
  · cases hz : (b == 0)
    · rw [calcV_good h1 ha hb (by simp [hz]), tup_if]; exact sCalc_ok_4 a b ha hb hz
    · rw [calcV, if_neg hbad, if_pos ⟨hz, by simp⟩]; exact sCalc_ok_z4 a b ha hb hz
  · cases hz : (b == 0)
    · rw [calcV_good h1 ha hb (by simp [hz]), tup_if]; exact sCalc_ok_5 a b ha hb hz
    · rw [calcV, if_neg hbad, if_pos ⟨hz, by simp⟩]; exact sCalc_ok_z5 a b ha hb hz
  · rw [calcV_good h1 ha hb (by simp), tup_if]; exact sCalc_ok_6 a b ha hb
  · rw [calcV_good h1 ha hb (by simp), tup_if]; exact sCalc_ok_7 a b ha hb
  · rw [calcV_good h1 ha hb (by simp), tup_if]; exact sCalc_ok_8 a b ha hb
  · rw [calcV_good h1 ha hb (by simp), tup_if]; exact sCalc_ok_9 a b ha hb
theorem iCalc_ok_z4 (a b : Int) (ha : valOk a = true) (hb : valOk b = true) (hz : (b == 0) = true) : CallOk Tryz.prog 208 [.one (iV 4), .one (iV a), .one (iV b)] (.tup [.one (iV 0), .one (iV 2)]) [none, none, none] := by
  have hin : inB 4 1 9 = true := rfl
  refine callOk_of_hcall 40 (hcall_of_body Tryz.func208 rfl (by kernel_rfl) ?_)
  simp (disch := omega) only [go_sem, Tryz.ntmps208, Tryz.results208]
  have x1 := iValOk_ok a
  have x2 : HC 1 _ := ⟨iValOk_ok b⟩
  have x3 := within_ok 4 1 9
  exact wki
theorem iCalc_ok_z5 (a b : Int) (ha : valOk a = true) (hb : valOk b = true) (hz : (b == 0) = true) : CallOk Tryz.prog 208 [.one (iV 5), .one (iV a), .one (iV b)] (.tup [.one (iV 0), .one (iV 2)]) [none, none, none] := by
  have hin : inB 5 1 9 = true := rfl
  refine callOk_of_hcall 40 (hcall_of_body Tryz.func208 rfl (by kernel_rfl) ?_)
  simp (disch := omega) only [go_sem, Tryz.ntmps208, Tryz.results208]
  have x1 := iValOk_ok a
  have x2 : HC 1 _ := ⟨iValOk_ok b⟩
  have x3 := within_ok 5 1 9
  exact wki
theorem iCalc_ok (op a b : Int) : CallOk Tryz.prog 208 [.one (iV op), .one (iV a), .one (iV b)] (.tup [.one (iV (calcV op a b).1), .one (iV (calcV op a b).2)]) [none, none, none] := by
  by_cases hbad : inB op 1 9 = false ∨ valOk a = false ∨ valOk b = false
  · rw [calcV_bad hbad]; exact iCalc_ok_bad op a b hbad
  have h1 : inB op 1 9 = true := by cases h : inB op 1 9 <;> simp_all
  have ha : valOk a = true := by cases h : valOk a <;> simp_all
  have hb : valOk b = true := by cases h : valOk b <;> simp_all
  have ho : op = 1 ∨ op = 2 ∨ op = 3 ∨ op = 4 ∨ op = 5 ∨ op = 6 ∨ op = 7 ∨ op = 8 ∨ op = 9 := by have := inB_t h1; omega
  rcases ho with rfl | rfl | rfl | rfl | rfl | rfl | rfl | rfl | rfl
  · rw [calcV_good h1 ha hb (by simp), tup_if]; exact iCalc_ok_1 a b ha hb
  · rw [calcV_good h1 ha hb (by simp), tup_if]; exact iCalc_ok_2 a b ha hb
  · rw [calcV_good h1 ha hb (by simp), tup_if]; exact iCalc_ok_3 a b ha hb
  · cases hz : (b == 0)
    · rw [calcV_good h1 ha hb (by simp [hz]), tup_if]; exact iCalc_ok_4 a b ha hb hz
    · rw [calcV, if_neg hbad, if_pos ⟨hz, by simp⟩]; exact iCalc_ok_z4 a b ha hb hz
  · cases hz : (b == 0)
    · rw [calcV_good h1 ha hb (by simp [hz]), tup_if]; exact iCalc_ok_5 a b ha hb hz
    · rw [calcV, if_neg hbad, if_pos ⟨hz, by simp⟩]; exact iCalc_ok_z5 a b ha hb hz
  · rw [calcV_good h1 ha hb (by simp), tup_if]; exact iCalc_ok_6 a b ha hb
  · rw [calcV_good h1 ha hb (by simp), tup_if]; exact iCalc_ok_7 a b ha hb
  · rw [calcV_good h1 ha hb (by simp), tup_if]; exact iCalc_ok_8 a b ha hb
  · rw [calcV_good h1 ha hb (by simp), tup_if]; exact iCalc_ok_9 a b ha hb
/-! ### Words -/
structure Ins where
  op : Int
  a : Int
  b : Int
  c : Int
def insT (x : Ins) : List T := [iV x.op, iV x.a, iV x.b, iV x.c]
attribute [go_sem] insT
theorem ti173 : ti Tryz.prog 173 = some ⟨.st [(0, 1, false), (1, 1, false), (2, 1, false), (3, 1, false)], 4, 32, true, [.int .i64 0, .int .i64 0, .int .i64 0, .int .i64 0]⟩ := by kernel_rfl
theorem ni173 : notInt Tryz.prog 173 = true := by kernel_rfl
attribute [go_sem] ti173 ni173
def insOk (x : Ins) : Bool :=
  if inB x.op 1 10 = false ∨ inB x.a 0 7 = false ∨ inB x.b 0 7 = false ∨ inB x.c 0 4194303 = false then false
  else if (x.op == 4) = true then inB x.c 1 9
  else if (x.b == 0) = false then false
  else if (x.op == 1) = true then decide (x.c ≤ 1000000)
  else if (x.op == 5) = true ∨ (x.op == 6) = true then x.c == 0
  else if (x.op == 8) = true then x.a == 0
  else if (x.op == 10) = true then decide (1 ≤ x.a)
  else true
theorem sInsOk_ok (x : Ins) : CallOk Tryz.prog 186 [.agg (insT x)] (.s (.one (bV (insOk x)))) [none] := by
  obtain ⟨op, a, b, c⟩ := x
  cases e1 : inB op 1 10 <;> cases e2 : inB a 0 7 <;> cases e3 : inB b 0 7 <;> cases e4 : inB c 0 4194303
  case true.true.true.true =>
    have ho : op = 1 ∨ op = 2 ∨ op = 3 ∨ op = 4 ∨ op = 5 ∨ op = 6 ∨ op = 7 ∨ op = 8 ∨ op = 9 ∨ op = 10 := by have := inB_t e1; omega
    have h17 : inB a 1 7 = decide (1 ≤ a) := by
      have := inB_t e2
      by_cases h : 1 ≤ a
      · rw [decide_eq_true h, inB_iff]; omega
      · rw [decide_eq_false h]
        cases hh : inB a 1 7
        · rfl
        · have := inB_t hh; omega
    have hge : decide (a ≥ 1) = decide (1 ≤ a) := rfl
    have ho2 : (op = 1 ∨ op = 2 ∨ op = 3 ∨ op = 4 ∨ op = 5 ∨ op = 6 ∨ op = 7 ∨ op = 8 ∨ op = 9) ∨ op = 10 := by omega
    clear ho
    have hop := specInB_ok op 1 10
    rcases ho2 with ho | rfl
    · rcases ho with rfl | rfl | rfl | rfl | rfl | rfl | rfl | rfl | rfl
      all_goals cases eb : (b == 0)
      all_goals
        have eb' : (b != 0) = !(b == 0) := rfl
        rw [eb] at eb'
        simp only [Bool.not_true, Bool.not_false] at eb'
        refine callOk_of_hcall 40 (hcall_of_body Tryz.func186 rfl (by kernel_rfl) ?_)
        simp (disch := omega) only [go_sem, Tryz.ntmps186, Tryz.results186]
        have x1 := @insOk.eq_1
        have x2 : HC 1 _ := ⟨hop⟩
        have x3 : HC 2 _ := ⟨specInB_ok a 0 7⟩
        have x4 : HC 3 _ := ⟨specInB_ok b 0 7⟩
        have x5 : HC 4 _ := ⟨specInB_ok c 0 4194303⟩
        have x6 : HC 5 _ := ⟨specInB_ok c 1 9⟩
        have x7 : HC 6 _ := ⟨specInB_ok a 1 7⟩
        exact wki
    · cases eb : (b == 0)
      all_goals
        have eb' : (b != 0) = !(b == 0) := rfl
        rw [eb] at eb'
        simp only [Bool.not_true, Bool.not_false] at eb'
        cases e17 : decide (1 ≤ a)
        all_goals
          refine callOk_of_hcall 40 (hcall_of_body Tryz.func186 rfl (by kernel_rfl) ?_)
          simp (disch := omega) only [go_sem, Tryz.ntmps186, Tryz.results186]
          have x1 := @insOk.eq_1
          have x2 : HC 1 _ := ⟨hop⟩
          have x3 : HC 2 _ := ⟨specInB_ok a 0 7⟩
          have x4 : HC 3 _ := ⟨specInB_ok b 0 7⟩
          have x5 : HC 4 _ := ⟨specInB_ok c 0 4194303⟩
          have x6 : HC 5 _ := ⟨specInB_ok c 1 9⟩
          have x7 : HC 6 _ := ⟨specInB_ok a 1 7⟩
          exact wki
  all_goals
    refine callOk_of_hcall 40 (hcall_of_body Tryz.func186 rfl (by kernel_rfl) ?_)
    simp (disch := omega) only [go_sem, Tryz.ntmps186, Tryz.results186]
    have x1 := @insOk.eq_1
    have x2 := specInB_ok op 1 10
    have x3 : HC 1 _ := ⟨specInB_ok a 0 7⟩
    have x4 : HC 2 _ := ⟨specInB_ok b 0 7⟩
    have x5 : HC 3 _ := ⟨specInB_ok c 0 4194303⟩
    exact wk
theorem iInsOk_ok (x : Ins) : CallOk Tryz.prog 241 [.agg (insT x)] (.s (.one (bV (insOk x)))) [none] := by
  obtain ⟨op, a, b, c⟩ := x
  cases e1 : inB op 1 10 <;> cases e2 : inB a 0 7 <;> cases e3 : inB b 0 7 <;> cases e4 : inB c 0 4194303
  case true.true.true.true =>
    have ho : op = 1 ∨ op = 2 ∨ op = 3 ∨ op = 4 ∨ op = 5 ∨ op = 6 ∨ op = 7 ∨ op = 8 ∨ op = 9 ∨ op = 10 := by have := inB_t e1; omega
    have h17 : inB a 1 7 = decide (1 ≤ a) := by
      have := inB_t e2
      by_cases h : 1 ≤ a
      · rw [decide_eq_true h, inB_iff]; omega
      · rw [decide_eq_false h]
        cases hh : inB a 1 7
        · rfl
        · have := inB_t hh; omega
    have hge : decide (a ≥ 1) = decide (1 ≤ a) := rfl
    have ho2 : (op = 1 ∨ op = 2 ∨ op = 3 ∨ op = 4 ∨ op = 5 ∨ op = 6 ∨ op = 7 ∨ op = 8 ∨ op = 9) ∨ op = 10 := by omega
    clear ho
    have hop := within_ok op 1 10
    rcases ho2 with ho | rfl
    · rcases ho with rfl | rfl | rfl | rfl | rfl | rfl | rfl | rfl | rfl
      all_goals cases eb : (b == 0)
      all_goals
        have eb' : (b != 0) = !(b == 0) := rfl
        rw [eb] at eb'
        simp only [Bool.not_true, Bool.not_false] at eb'
        refine callOk_of_hcall 40 (hcall_of_body Tryz.func241 rfl (by kernel_rfl) ?_)
        simp (disch := omega) only [go_sem, Tryz.ntmps241, Tryz.results241]
        have x1 := @insOk.eq_1
        have x2 : HC 1 _ := ⟨hop⟩
        have x3 : HC 2 _ := ⟨within_ok a 0 7⟩
        have x4 : HC 3 _ := ⟨within_ok b 0 7⟩
        have x5 : HC 4 _ := ⟨within_ok c 0 4194303⟩
        have x6 : HC 5 _ := ⟨within_ok c 1 9⟩
        have x7 : HC 6 _ := ⟨within_ok a 1 7⟩
        exact wki
    · cases eb : (b == 0)
      all_goals
        have eb' : (b != 0) = !(b == 0) := rfl
        rw [eb] at eb'
        simp only [Bool.not_true, Bool.not_false] at eb'
        cases e17 : decide (1 ≤ a)
        all_goals
          refine callOk_of_hcall 40 (hcall_of_body Tryz.func241 rfl (by kernel_rfl) ?_)
          simp (disch := omega) only [go_sem, Tryz.ntmps241, Tryz.results241]
          have x1 := @insOk.eq_1
          have x2 : HC 1 _ := ⟨hop⟩
          have x3 : HC 2 _ := ⟨within_ok a 0 7⟩
          have x4 : HC 3 _ := ⟨within_ok b 0 7⟩
          have x5 : HC 4 _ := ⟨within_ok c 0 4194303⟩
          have x6 : HC 5 _ := ⟨within_ok c 1 9⟩
          have x7 : HC 6 _ := ⟨within_ok a 1 7⟩
          exact wki
  all_goals
    refine callOk_of_hcall 40 (hcall_of_body Tryz.func241 rfl (by kernel_rfl) ?_)
    simp (disch := omega) only [go_sem, Tryz.ntmps241, Tryz.results241]
    have x1 := @insOk.eq_1
    have x2 := within_ok op 1 10
    have x3 : HC 1 _ := ⟨within_ok a 0 7⟩
    have x4 : HC 2 _ := ⟨within_ok b 0 7⟩
    have x5 : HC 3 _ := ⟨within_ok c 0 4194303⟩
    exact wk
end Go.Proofs.YtejnpiielcbkkaaGreat.E
end
section
set_option maxRecDepth 100000
set_option maxHeartbeats 4000000
namespace Go.Proofs.YtejnpiielcbkkaaGreat.E
def and64 (a b : Int) : Int := IntKind.i64.wrap (BitVec.ofInt IntKind.i64.bits a &&& BitVec.ofInt IntKind.i64.bits b).toNat
def shr64 (a b : Int) : Int := a.fdiv (2 ^ (min b.toNat IntKind.i64.bits))
theorem ab_and' (a b : Int) : abin .and (.int .i64 a) (.int .i64 b) = some (.int .i64 (and64 a b)) := ab_and _ _ _
theorem ab_shr' (k' : IntKind) (a b : Int) (h : 0 ≤ b) : abin .shr (.int .i64 a) (.int k' b) = some (.int .i64 (shr64 a b)) := by rw [ab_shr _ _ _ _ h]; rfl
attribute [-go_sem] ab_and ab_shr
attribute [go_sem] ab_and' ab_shr'
def rawIns (w : Int) : Ins := ⟨shr64 w 28, and64 (shr64 w 25) 7, and64 (shr64 w 22) 7, and64 w 4194303⟩
def insZ : Ins := ⟨0, 0, 0, 0⟩
def decode (w : Int) : Ins × Bool := if decide (w < 0) = true then (insZ, false) else if insOk (rawIns w) = true then (rawIns w, true) else (insZ, false)
theorem raw_big {w : Int} (h : 8589934592 < w) : insOk (rawIns w) = false := by
  have h1 : inB (rawIns w).op 1 10 = false := by
    cases hh : inB (rawIns w).op 1 10
    · rfl
    · have := inB_t hh
      have e : (rawIns w).op = w / 268435456 := by
        show Int.fdiv w (2 ^ 28) = _
        rw [Int.fdiv_eq_ediv_of_nonneg w (by decide)]
        rfl
      rw [e] at this
      omega
  rw [insOk, if_pos (.inl h1)]
theorem iDecode_ok (w : Int) : CallOk Tryz.prog 200 [.one (iV w)] (.tup [.agg (insT (decode w).1), .one (bV (decode w).2)]) [none] := by
  cases h1 : decide (w < 0) <;> cases h2 : insOk (rawIns w)
  all_goals
    refine callOk_of_hcall 40 (hcall_of_body Tryz.func200 rfl (by kernel_rfl) ?_)
    simp (disch := omega) only [go_sem, Tryz.ntmps200, Tryz.results200]
    have x1 := @decode.eq_1
    have x2 := @insZ.eq_1
    have x3 := @rawIns.eq_1
    have x4 := iInsOk_ok (rawIns w)
    exact wk
theorem sDecode_ok (w : Int) : CallOk Tryz.prog 127 [.one (iV w)] (.tup [.agg (insT (decode w).1), .one (bV (decode w).2)]) [none] := by
  cases h0 : inB w 0 8589934592
  · cases h1 : decide (w < 0)
    · have hb : insOk (rawIns w) = false := raw_big (by
        have := of_decide_eq_false h1
        cases hh : decide (w ≤ 8589934592)
        · have := of_decide_eq_false hh; omega
        · have := of_decide_eq_true hh
          have : inB w 0 8589934592 = true := by rw [inB_iff]; omega
          rw [this] at h0; cases h0)
      refine callOk_of_hcall 40 (hcall_of_body Tryz.func127 rfl (by kernel_rfl) ?_)
      simp (disch := omega) only [go_sem, Tryz.ntmps127, Tryz.results127]
      have x1 := @decode.eq_1
      have x2 := @insZ.eq_1
      have x3 := specInB_ok w 0 8589934592
      have x4 := sInsOk_ok (rawIns w)
      exact wk
    ·
      refine callOk_of_hcall 40 (hcall_of_body Tryz.func127 rfl (by kernel_rfl) ?_)
      simp (disch := omega) only [go_sem, Tryz.ntmps127, Tryz.results127]
      have x1 := @decode.eq_1
      have x2 := @insZ.eq_1
      have x3 := specInB_ok w 0 8589934592
      have x4 := sInsOk_ok (rawIns w)
      exact wk
  · have h1 : decide (w < 0) = false := by have := inB_t h0; exact decide_eq_false (by omega)
    cases h2 : insOk (rawIns w)
    all_goals
      refine callOk_of_hcall 40 (hcall_of_body Tryz.func127 rfl (by kernel_rfl) ?_)
      simp (disch := omega) only [go_sem, Tryz.ntmps127, Tryz.results127]
      have x1 := @decode.eq_1
      have x2 := @insZ.eq_1
      have x3 := @rawIns.eq_1
      have x4 := specInB_ok w 0 8589934592
      have x5 := sInsOk_ok (rawIns w)
      exact wk
/-! A word of a text. -/
def wordAt (text : List Int) (pc : Int) : Ins × Bool := if inB pc 0 ((text.length : Int) - 1) = true then decode (text.getD pc.toNat 0) else (insZ, false)
theorem wordAt_ok (text : List Int) (pc : Int) (ht : text.length ≤ 1099511627776) : CallOk Tryz.prog 145 [.one (.ro 1 (intsD text)), .one (iV pc)] (.tup [.agg (insT (wordAt text pc).1), .one (bV (wordAt text pc).2)]) [none, none] := by
  cases h0 : inB pc 0 ((text.length : Int) - 1)
  all_goals
    have hp : inB pc 0 ((text.length : Int) - 1) = true → 0 ≤ pc ∧ pc < text.length := fun h => by have := inB_t h; omega
    first | have hp1 := hp h0 | skip
    clear hp
    refine callOk_of_hcall 40 (hcall_of_body Tryz.func145 rfl (by kernel_rfl) ?_)
    simp (disch := omega) only [go_sem, Tryz.ntmps145, Tryz.results145]
    have x1 := @wordAt.eq_1
    have x2 := @insZ.eq_1
    have x3 := within_ok pc 0 ((text.length : Int) - 1)
    have x4 := iDecode_ok (text.getD pc.toNat 0)
    exact wk
def usesMem (x : Ins) : Bool := (x.op == 2) || ((x.op == 3) || (x.op == 9))
theorem usesMem_ok (x : Ins) : CallOk Tryz.prog 199 [.agg (insT x)] (.s (.one (bV (usesMem x)))) [none] := by
  obtain ⟨op, a, b, c⟩ := x
  cases e1 : (op == 2) <;> cases e2 : (op == 3)
  all_goals
    refine callOk_of_hcall 40 (hcall_of_body Tryz.func199 rfl (by kernel_rfl) ?_)
    simp (disch := omega) only [go_sem, Tryz.ntmps199, Tryz.results199]
    have x1 := @usesMem.eq_1
    exact wk
end Go.Proofs.YtejnpiielcbkkaaGreat.E
end
