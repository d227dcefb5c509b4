/- Walks of wordAt and of TouchOf, of the reference and of the program. Condition: the text is read from memory. -/
import Derived.Test.YtgeoipplkjgnfaaDecode
set_option linter.unusedSimpArgs false
set_option linter.unusedVariables false
namespace Go.Proofs.Ytgeoipplkjgnfaa
open Go.RowKit Go.Proofs.YtgeoipplkjgnfaaW.PrintWords Go.Proofs.Ytgeoipplkjgnfaa.Lib

def wordV (xs : List Int) (i : Int) : Value := if inB i 0 ((xs.length : Int) - 1) = true then insV (xs.getD i.toNat 0) else .agg #[.int .i64 0, .int .i64 0, .int .i64 0, .int .i64 0]
def wordOk (xs : List Int) (i : Int) : Bool := inB i 0 ((xs.length : Int) - 1) && decOk (xs.getD i.toNat 0)
theorem wordV_no {xs : List Int} {i : Int} (h : wordOk xs i = false) : wordV xs i = .agg #[.int .i64 0, .int .i64 0, .int .i64 0, .int .i64 0] := by
  unfold wordV
  split
  · rename_i h1
    unfold wordOk at h
    rw [h1, Bool.true_and] at h
    exact insV_no h
  · rfl
theorem wordOk_yes {xs : List Int} {i : Int} (h : wordOk xs i = true) : inB i 0 ((xs.length : Int) - 1) = true ∧ decOk (xs.getD i.toNat 0) = true := by
  unfold wordOk at h
  rw [Bool.and_eq_true] at h
  exact h
theorem wordV_yes {xs : List Int} {i : Int} (h : wordOk xs i = true) : wordV xs i = .agg #[.int .i64 (dOp (xs.getD i.toNat 0)), .int .i64 (dA (xs.getD i.toNat 0)), .int .i64 (dB (xs.getD i.toNat 0)), .int .i64 (dN (xs.getD i.toNat 0))] := by
  obtain ⟨h1, h2⟩ := wordOk_yes h
  unfold wordV
  rw [if_pos h1]
  exact insV_yes h2
theorem touchOf_no {xs : List Int} {i : Int} (h : wordOk xs i = false) : touchOf xs i = -1 := by
  unfold touchOf
  rw [if_neg]
  rintro ⟨h1, h2, _⟩
  unfold wordOk at h
  rw [h1, h2] at h
  cases h
theorem touchOf_un {xs : List Int} {i : Int} (h : usesB (dOp (xs.getD i.toNat 0)) = false) : touchOf xs i = -1 := by
  unfold touchOf
  rw [if_neg]
  rintro ⟨_, _, h2⟩
  rw [h2] at h
  cases h
theorem touchOf_yes {xs : List Int} {i : Int} (h : wordOk xs i = true) (h' : usesB (dOp (xs.getD i.toNat 0)) = true) : touchOf xs i = dN (xs.getD i.toNat 0) := by
  obtain ⟨h1, h2⟩ := wordOk_yes h
  unfold touchOf
  rw [if_pos ⟨h1, h2, h'⟩]

set_option maxHeartbeats 4000000 in
theorem wordAt.calls (w : World) (xs : List Int) (v : Value) (h : SK (Kd.int .i64) w xs v) (i : Int) :
    Calls Try.prog 108 #[v, .int .i64 i] w fun e w' => e = .returned (.tuple #[wordV xs i, .bool (wordOk xs i)]) ∧ Below w.heap.size w w' := by
  obtain ⟨A, c, rfl, _, hC⟩ := h
  have hn : xs.length ≤ 9223372036854775807 := hC.2.1
  have HK := Aside0.mk hC
  clear hC
  by_cases h1 : inB i 0 ((xs.length : Int) - 1) = true
  · obtain ⟨k, rfl, hlthc⟩ := inB_nat h1
    have HR := Aside0.mk (Below.refl w.heap.size w)
    obtain ⟨ad, cshc, e, _, hKehc, hcellhc⟩ := Kd.C_get (Kd.C_below HK.out HR.out) (0 : Int) (k : Int) (by omega) (by omega)
    rw [show (xs).getD ((k : Int)).toNat (0 : Int) = (xs)[k] by simp [List.getD, hlthc]] at hKehc
    obtain rfl : cshc = [.int .i64 (xs)[k]] := hKehc
    cases e
    have hc0 := hcellhc 0 _ rfl
    simp only [Int.toNat_natCast, show (Kd.int .i64).sz = 1 from rfl, Nat.mul_one, Nat.add_zero] at hc0
    clear hcellhc
    have hcA0 := fun o => pw_cell_below (below_alloc (Below.refl w.heap.size w) o) hc0
    have hg : xs.getD ((k : Int)).toNat 0 = xs[k] := by simp [List.getD, hlthc]
    cases d : decOk xs[k]
    · have hw : wordOk xs (k : Int) = false := by unfold wordOk; rw [h1, hg, d]; rfl
      have HV := Aside0.mk (wordV_no hw)
      have HW := Aside0.mk hw
      have HD := Aside0.mk d
      have HI := Aside0.mk (insV_no d)
      clear hw d hg
      go_enter Try.func108, Try.ntmps108
      go_wp2_with (first | (go_at_call 69; (with_reducible refine (implIn.calls _ _ _ _).mono ?_); rintro e w1 ⟨rfl, rfl⟩) | (go_at_call 148; (with_reducible refine (implDecode.calls _ _).mono ?_); rw [HI.out, HD.out]; rintro e w2 ⟨rfl, hb⟩; obtain ⟨hcw1, hfw1⟩ := bcell hb; have hzw1_0 : w.heap.size < w2.heap.size := (by have := hb.size; (try simp at this); omega); have HB := Aside0.mk (bstep (w := w) (by with_reducible repeat (first | refine below_set ?_ (by omega) | apply below_alloc | exact Below.refl _ _)) hb); have hq0 := (hcw1 w.heap.size 0 (by first | (simp; done) | (simp; omega))).trans (blk_cell (blk_new _ _) 0); have hq1 := (hcw1 w.heap.size 1 (by first | (simp; done) | (simp; omega))).trans (blk_cell (blk_new _ _) 1); have hq2 := (hcw1 w.heap.size 2 (by first | (simp; done) | (simp; omega))).trans (blk_cell (blk_new _ _) 2); have hq3 := (hcw1 w.heap.size 3 (by first | (simp; done) | (simp; omega))).trans (blk_cell (blk_new _ _) 3); clear hb))
      refine bodyPost_ret (v := .tuple #[.agg #[.int .i64 0, .int .i64 0, .int .i64 0, .int .i64 0], .bool false]) (by simp [results, Try.results108, go_sem, hq0, hq1, hq2, hq3]) rfl ⟨by rw [HV.out, HW.out], ?_⟩
      with_reducible repeat (first | refine below_set ?_ (by omega) | apply below_alloc | exact HB.out)
    · have hw : wordOk xs (k : Int) = true := by unfold wordOk; rw [h1, hg, d]; rfl
      have hv := wordV_yes hw
      rw [hg] at hv
      have HV := Aside0.mk hv
      have HW := Aside0.mk hw
      have HD := Aside0.mk d
      have HI := Aside0.mk (insV_yes d)
      clear hw d hg hv
      go_enter Try.func108, Try.ntmps108
      go_wp2_with (first | (go_at_call 69; (with_reducible refine (implIn.calls _ _ _ _).mono ?_); rintro e w1 ⟨rfl, rfl⟩) | (go_at_call 148; (with_reducible refine (implDecode.calls _ _).mono ?_); rw [HI.out, HD.out]; rintro e w2 ⟨rfl, hb⟩; obtain ⟨hcw1, hfw1⟩ := bcell hb; have hzw1_0 : w.heap.size < w2.heap.size := (by have := hb.size; (try simp at this); omega); have HB := Aside0.mk (bstep (w := w) (by with_reducible repeat (first | refine below_set ?_ (by omega) | apply below_alloc | exact Below.refl _ _)) hb); have hq0 := (hcw1 w.heap.size 0 (by first | (simp; done) | (simp; omega))).trans (blk_cell (blk_new _ _) 0); have hq1 := (hcw1 w.heap.size 1 (by first | (simp; done) | (simp; omega))).trans (blk_cell (blk_new _ _) 1); have hq2 := (hcw1 w.heap.size 2 (by first | (simp; done) | (simp; omega))).trans (blk_cell (blk_new _ _) 2); have hq3 := (hcw1 w.heap.size 3 (by first | (simp; done) | (simp; omega))).trans (blk_cell (blk_new _ _) 3); clear hb))
      refine bodyPost_ret (v := .tuple #[.agg #[.int .i64 (dOp xs[k]), .int .i64 (dA xs[k]), .int .i64 (dB xs[k]), .int .i64 (dN xs[k])], .bool true]) (by simp [results, Try.results108, go_sem, hq0, hq1, hq2, hq3]) rfl ⟨by rw [HV.out, HW.out], ?_⟩
      with_reducible repeat (first | refine below_set ?_ (by omega) | apply below_alloc | exact HB.out)
  · have h1' : inB i 0 ((xs.length : Int) - 1) = false := by simpa using h1
    have hw : wordOk xs i = false := by unfold wordOk; rw [h1']; rfl
    have HV := Aside0.mk (wordV_no hw)
    have HW := Aside0.mk hw
    clear hw h1
    go_enter Try.func108, Try.ntmps108
    go_wp2_with (go_at_call 69; (with_reducible refine (implIn.calls _ _ _ _).mono ?_); rintro e w1 ⟨rfl, rfl⟩)
    refine bodyPost_ret (v := .tuple #[.agg #[.int .i64 0, .int .i64 0, .int .i64 0, .int .i64 0], .bool false]) (by simp [results, Try.results108, go_sem]) rfl ⟨by rw [HV.out, HW.out], ?_⟩
    with_reducible repeat (first | refine below_set ?_ (by omega) | apply below_alloc | exact Below.refl _ _)

set_option maxHeartbeats 4000000 in
theorem implTouchOf.calls (w : World) (xs : List Int) (v : Value) (h : SK (Kd.int .i64) w xs v) (i : Int) :
    Calls Try.prog 107 #[v, .int .i64 i] w fun e w' => e = .returned (.int .i64 (touchOf xs i)) ∧ Below w.heap.size w w' := by
  have HK := Aside0.mk h
  obtain ⟨A, c, rfl, _, _⟩ := h
  cases hw : wordOk xs i
  · have HW := Aside0.mk hw
    have HV := Aside0.mk (wordV_no hw)
    have HT := Aside0.mk (touchOf_no hw)
    clear hw
    go_enter Try.func107, Try.ntmps107
    go_wp2_with (go_at_call 108; (with_reducible refine (wordAt.calls _ _ _ HK.out _).mono ?_); rw [HV.out, HW.out]; rintro e w2 ⟨rfl, hb⟩; have HB := Aside0.mk hb; clear hb)
    go_ret
    exact ⟨by rw [HT.out]; rfl, below_alloc HB.out _⟩
  · cases hu : usesB (dOp (xs.getD i.toNat 0))
    all_goals
      have HU := Aside0.mk hu
      have HW := Aside0.mk hw
      have HV := Aside0.mk (wordV_yes hw)
      first
        | have HT := Aside0.mk (touchOf_un hu)
        | have HT := Aside0.mk (touchOf_yes hw hu)
      clear hw hu
      generalize xs.getD i.toNat 0 = x at *
      go_enter Try.func107, Try.ntmps107
      go_wp2_with (first | (go_at_call 108; (with_reducible refine (wordAt.calls _ _ _ HK.out _).mono ?_); rw [HV.out, HW.out]; rintro e w2 ⟨rfl, hb⟩; have HB := Aside0.mk hb; clear hb) | (go_at_call 147; (with_reducible refine (usesMem.calls _ _ _ _ _).mono ?_); rw [HU.out]; rintro e w3 ⟨rfl, hb⟩; obtain ⟨hcw1, hfw1⟩ := bcell hb; have hzw1_0 : w2.heap.size < w3.heap.size := (by have := hb.size; (try simp at this); omega); have HB3 := Aside0.mk (bstep (below_alloc HB.out _) hb); clear hb))
      go_ret
      exact ⟨by rw [HT.out]; rfl, HB3.out⟩

set_option maxHeartbeats 4000000 in
theorem specTouchOf.calls (w : World) (xs : List Int) (v : Value) (h : SK (Kd.int .i64) w xs v) (i : Int) :
    Calls Try.prog 105 #[v, .int .i64 i] w fun e w' => e = .returned (.int .i64 (touchOf xs i)) ∧ Below w.heap.size w w' := by
  obtain ⟨A, c, rfl, _, hC⟩ := h
  have hn : xs.length ≤ 9223372036854775807 := hC.2.1
  have HK := Aside0.mk hC
  clear hC
  by_cases h1 : inB i 0 ((xs.length : Int) - 1) = true
  · obtain ⟨k, rfl, hlthc⟩ := inB_nat h1
    have HR := Aside0.mk (Below.refl w.heap.size w)
    obtain ⟨ad, cshc, e, _, hKehc, hcellhc⟩ := Kd.C_get (Kd.C_below HK.out HR.out) (0 : Int) (k : Int) (by omega) (by omega)
    rw [show (xs).getD ((k : Int)).toNat (0 : Int) = (xs)[k] by simp [List.getD, hlthc]] at hKehc
    obtain rfl : cshc = [.int .i64 (xs)[k]] := hKehc
    cases e
    have hc0 := hcellhc 0 _ rfl
    simp only [Int.toNat_natCast, show (Kd.int .i64).sz = 1 from rfl, Nat.mul_one, Nat.add_zero] at hc0
    clear hcellhc
    have hg : xs.getD ((k : Int)).toNat 0 = xs[k] := by simp [List.getD, hlthc]
    cases d : decOk xs[k]
    · have hw : wordOk xs (k : Int) = false := by unfold wordOk; rw [h1, hg, d]; rfl
      have HT := Aside0.mk (touchOf_no hw)
      have HD := Aside0.mk d
      have HI := Aside0.mk (insV_no d)
      clear hw d hg
      go_enter Try.func105, Try.ntmps105
      go_wp2_with (first | (go_at_call 77; (with_reducible refine (specIn.calls _ _ _ _).mono ?_); rintro e w1 ⟨rfl, rfl⟩) | (go_at_call 106; (with_reducible refine (specDecode.calls _ _).mono ?_); rw [HI.out, HD.out]; rintro e w2 ⟨rfl, hb⟩; have HB := Aside0.mk hb; clear hb))
      go_ret
      exact ⟨by rw [HT.out]; rfl, below_alloc HB.out _⟩
    · have hw : wordOk xs (k : Int) = true := by unfold wordOk; rw [h1, hg, d]; rfl
      have hd : usesB (dOp xs[k]) = ((dOp xs[k] == 2) || (dOp xs[k] == 3) || (dOp xs[k] == 9)) := rfl
      cases e2 : (dOp xs[k] == 2) <;> cases e3 : (dOp xs[k] == 3) <;> cases e9 : (dOp xs[k] == 9)
      all_goals
        rw [e2, e3, e9] at hd
        have n2 : (dOp xs[k] != 2) = !(dOp xs[k] == 2) := rfl
        have n3 : (dOp xs[k] != 3) = !(dOp xs[k] == 3) := rfl
        have n9 : (dOp xs[k] != 9) = !(dOp xs[k] == 9) := rfl
        rw [e2] at n2
        rw [e3] at n3
        rw [e9] at n9
        rw [← hg] at hd
        first
          | have HT := Aside0.mk (touchOf_un hd)
          | have HT := Aside0.mk (touchOf_yes hw hd)
        have HT2 := HT.out
        try rw [hg] at HT2
        clear HT
        have HT := Aside0.mk HT2
        have HD := Aside0.mk d
        have HI := Aside0.mk (insV_yes d)
        clear hw d hg hd HT2
        generalize xs[k] = x at *
        simp only [Bool.not_true, Bool.not_false] at n2 n3 n9
        go_enter Try.func105, Try.ntmps105
        go_wp2_with (first | (go_at_call 77; (with_reducible refine (specIn.calls _ _ _ _).mono ?_); rintro e w1 ⟨rfl, rfl⟩) | (go_at_call 106; (with_reducible refine (specDecode.calls _ _).mono ?_); rw [HI.out, HD.out]; rintro e w2 ⟨rfl, hb⟩; have HB := Aside0.mk hb; clear hb))
        go_ret
        exact ⟨by rw [HT.out]; rfl, below_alloc HB.out _⟩
  · have h1' : inB i 0 ((xs.length : Int) - 1) = false := by simpa using h1
    have hw : wordOk xs i = false := by unfold wordOk; rw [h1']; rfl
    have HT := Aside0.mk (touchOf_no hw)
    clear hw h1
    go_enter Try.func105, Try.ntmps105
    go_wp2_with (go_at_call 77; (with_reducible refine (specIn.calls _ _ _ _).mono ?_); rintro e w1 ⟨rfl, rfl⟩)
    go_ret
    exact ⟨by rw [HT.out]; rfl, Below.refl _ _⟩
end Go.Proofs.Ytgeoipplkjgnfaa
