/- Walks of Decode, of the reference and of the program, of wordAt, usesMem and TouchOf. -/
import Derived.Test.YtgeoipplkjgnfaaTouch
import Derived.Test.YtgeoipplkjgnfaaTouchI
set_option linter.unusedSimpArgs false
set_option linter.unusedVariables false
namespace Go.Proofs.Ytgeoipplkjgnfaa
open Go.RowKit Go.Proofs.YtgeoipplkjgnfaaW.PrintWords Go.Proofs.Ytgeoipplkjgnfaa.Lib

abbrev ins4 (a b c d : Int) : Value := .agg #[.int .i64 a, .int .i64 b, .int .i64 c, .int .i64 d]
theorem insV_yes {x : Int} (h : decOk x = true) : insV x = .agg #[.int .i64 (dOp x), .int .i64 (dA x), .int .i64 (dB x), .int .i64 (dN x)] := by simp [insV, h]
theorem insV_no {x : Int} (h : decOk x = false) : insV x = .agg #[.int .i64 0, .int .i64 0, .int .i64 0, .int .i64 0] := by simp [insV, h]

set_option maxHeartbeats 4000000 in
theorem specDecode.calls (w : World) (x : Int) :
    Calls Try.prog 106 #[.int .i64 x] w fun e w' => e = .returned (.tuple #[insV x, .bool (decOk x)]) ∧ Below w.heap.size w w' := by
  cases c : inB x 0 8589934592
  · have HD := Aside0.mk (decOk_far c)
    have HI := Aside0.mk (insV_no HD.out)
    go_enter Try.func106, Try.ntmps106
    go_wp2_with (go_at_call 77; (with_reducible refine (specIn.calls _ _ _ _).mono ?_); rintro e w1 ⟨rfl, rfl⟩)
    refine bodyPost_ret (v := .tuple #[.agg #[.int .i64 0, .int .i64 0, .int .i64 0, .int .i64 0], .bool false]) (by simp [results, Try.results106, go_sem]) rfl ⟨by rw [HI.out, HD.out], ?_⟩
    with_reducible repeat (first | refine below_set ?_ (by omega) | apply below_alloc | exact Below.refl _ _)
  · have hx := (inB_iff.1 c).1
    have h1 : decOk x = insOk (dOp x) (dA x) (dB x) (dN x) := by simp [decOk, hx]
    cases k : insOk (dOp x) (dA x) (dB x) (dN x)
    · have HK := Aside0.mk (show insOk (x / 268435456) (bits BinOp.and IntKind.i64 (x / 33554432) 7) (bits BinOp.and IntKind.i64 (x / 4194304) 7) (bits BinOp.and IntKind.i64 x 4194303) = false from k)
      rw [k] at h1
      have HD := Aside0.mk h1
      have HI := Aside0.mk (insV_no h1)
      clear h1 k
      go_enter Try.func106, Try.ntmps106
      go_wp2_with (first | (go_at_call 77; (with_reducible refine (specIn.calls _ _ _ _).mono ?_); rintro e w1 ⟨rfl, rfl⟩) | (go_at_call 146; (with_reducible refine (specInsOk.calls _ _ _ _ _).mono ?_); rw [HK.out]; rintro e w2 ⟨rfl, hb⟩; obtain ⟨hcw1, hfw1⟩ := bcell hb; have hzw1_0 : w.heap.size < w2.heap.size := (by have := hb.size; (try simp at this); omega); have hzw1_1 : w.heap.size + 1 < w2.heap.size := (by have := hb.size; (try simp at this); omega); have HB := Aside0.mk (bstep (w := w) (by with_reducible repeat (first | refine below_set ?_ (by omega) | apply below_alloc | exact Below.refl _ _)) hb); have hq0 := (hcw1 w.heap.size 0 (by first | (simp; done) | (simp; omega))).trans (blk_cell (blk_alloc (blk_new _ _) _) 0); have hq1 := (hcw1 w.heap.size 1 (by first | (simp; done) | (simp; omega))).trans (blk_cell (blk_alloc (blk_new _ _) _) 1); have hq2 := (hcw1 w.heap.size 2 (by first | (simp; done) | (simp; omega))).trans (blk_cell (blk_alloc (blk_new _ _) _) 2); have hq3 := (hcw1 w.heap.size 3 (by first | (simp; done) | (simp; omega))).trans (blk_cell (blk_alloc (blk_new _ _) _) 3); clear hb))
      refine bodyPost_ret (v := .tuple #[.agg #[.int .i64 0, .int .i64 0, .int .i64 0, .int .i64 0], .bool false]) (by simp [results, Try.results106, go_sem, hq0, hq1, hq2, hq3]) rfl ⟨by rw [HI.out, HD.out], ?_⟩
      with_reducible repeat (first | refine below_set ?_ (by omega) | apply below_alloc | exact HB.out)
    · have HK := Aside0.mk (show insOk (x / 268435456) (bits BinOp.and IntKind.i64 (x / 33554432) 7) (bits BinOp.and IntKind.i64 (x / 4194304) 7) (bits BinOp.and IntKind.i64 x 4194303) = true from k)
      rw [k] at h1
      have HD := Aside0.mk h1
      have HI := Aside0.mk (insV_yes h1)
      clear h1 k
      go_enter Try.func106, Try.ntmps106
      go_wp2_with (first | (go_at_call 77; (with_reducible refine (specIn.calls _ _ _ _).mono ?_); rintro e w1 ⟨rfl, rfl⟩) | (go_at_call 146; (with_reducible refine (specInsOk.calls _ _ _ _ _).mono ?_); rw [HK.out]; rintro e w2 ⟨rfl, hb⟩; obtain ⟨hcw1, hfw1⟩ := bcell hb; have hzw1_0 : w.heap.size < w2.heap.size := (by have := hb.size; (try simp at this); omega); have hzw1_1 : w.heap.size + 1 < w2.heap.size := (by have := hb.size; (try simp at this); omega); have HB := Aside0.mk (bstep (w := w) (by with_reducible repeat (first | refine below_set ?_ (by omega) | apply below_alloc | exact Below.refl _ _)) hb); have hq0 := (hcw1 w.heap.size 0 (by first | (simp; done) | (simp; omega))).trans (blk_cell (blk_alloc (blk_new _ _) _) 0); have hq1 := (hcw1 w.heap.size 1 (by first | (simp; done) | (simp; omega))).trans (blk_cell (blk_alloc (blk_new _ _) _) 1); have hq2 := (hcw1 w.heap.size 2 (by first | (simp; done) | (simp; omega))).trans (blk_cell (blk_alloc (blk_new _ _) _) 2); have hq3 := (hcw1 w.heap.size 3 (by first | (simp; done) | (simp; omega))).trans (blk_cell (blk_alloc (blk_new _ _) _) 3); clear hb))
      refine bodyPost_ret (v := .tuple #[.agg #[.int .i64 (x / 268435456), .int .i64 (bits BinOp.and IntKind.i64 (x / 33554432) 7), .int .i64 (bits BinOp.and IntKind.i64 (x / 4194304) 7), .int .i64 (bits BinOp.and IntKind.i64 x 4194303)], .bool true]) (by simp [results, Try.results106, go_sem, hq0, hq1, hq2, hq3]) rfl ⟨by rw [HI.out, HD.out]; rfl, ?_⟩
      with_reducible repeat (first | refine below_set ?_ (by omega) | apply below_alloc | exact HB.out)

set_option maxHeartbeats 4000000 in
theorem implDecode.calls (w : World) (x : Int) :
    Calls Try.prog 148 #[.int .i64 x] w fun e w' => e = .returned (.tuple #[insV x, .bool (decOk x)]) ∧ Below w.heap.size w w' := by
  by_cases hx : 0 ≤ x
  · have h1 : decOk x = insOk (dOp x) (dA x) (dB x) (dN x) := by simp [decOk, hx]
    cases k : insOk (dOp x) (dA x) (dB x) (dN x)
    · have HK := Aside0.mk (show insOk (x / 268435456) (bits BinOp.and IntKind.i64 (x / 33554432) 7) (bits BinOp.and IntKind.i64 (x / 4194304) 7) (bits BinOp.and IntKind.i64 x 4194303) = false from k)
      rw [k] at h1
      have HD := Aside0.mk h1
      have HI := Aside0.mk (insV_no h1)
      clear h1 k
      go_enter Try.func148, Try.ntmps148
      go_wp2_with (go_at_call 165; (with_reducible refine (implInsOk.calls _ _ _ _ _).mono ?_); rw [HK.out]; rintro e w2 ⟨rfl, hb⟩; obtain ⟨hcw1, hfw1⟩ := bcell hb; have hzw1_0 : w.heap.size < w2.heap.size := (by have := hb.size; (try simp at this); omega); have hzw1_1 : w.heap.size + 1 < w2.heap.size := (by have := hb.size; (try simp at this); omega); have HB := Aside0.mk (bstep (w := w) (by with_reducible repeat (first | refine below_set ?_ (by omega) | apply below_alloc | exact Below.refl _ _)) hb); have hq0 := (hcw1 w.heap.size 0 (by first | (simp; done) | (simp; omega))).trans (blk_cell (blk_alloc (blk_new _ _) _) 0); have hq1 := (hcw1 w.heap.size 1 (by first | (simp; done) | (simp; omega))).trans (blk_cell (blk_alloc (blk_new _ _) _) 1); have hq2 := (hcw1 w.heap.size 2 (by first | (simp; done) | (simp; omega))).trans (blk_cell (blk_alloc (blk_new _ _) _) 2); have hq3 := (hcw1 w.heap.size 3 (by first | (simp; done) | (simp; omega))).trans (blk_cell (blk_alloc (blk_new _ _) _) 3); clear hb)
      refine bodyPost_ret (v := .tuple #[.agg #[.int .i64 0, .int .i64 0, .int .i64 0, .int .i64 0], .bool false]) (by simp [results, Try.results148, go_sem, hq0, hq1, hq2, hq3]) rfl ⟨by rw [HI.out, HD.out], ?_⟩
      with_reducible repeat (first | refine below_set ?_ (by omega) | apply below_alloc | exact HB.out)
    · have HK := Aside0.mk (show insOk (x / 268435456) (bits BinOp.and IntKind.i64 (x / 33554432) 7) (bits BinOp.and IntKind.i64 (x / 4194304) 7) (bits BinOp.and IntKind.i64 x 4194303) = true from k)
      rw [k] at h1
      have HD := Aside0.mk h1
      have HI := Aside0.mk (insV_yes h1)
      clear h1 k
      go_enter Try.func148, Try.ntmps148
      go_wp2_with (go_at_call 165; (with_reducible refine (implInsOk.calls _ _ _ _ _).mono ?_); rw [HK.out]; rintro e w2 ⟨rfl, hb⟩; obtain ⟨hcw1, hfw1⟩ := bcell hb; have hzw1_0 : w.heap.size < w2.heap.size := (by have := hb.size; (try simp at this); omega); have hzw1_1 : w.heap.size + 1 < w2.heap.size := (by have := hb.size; (try simp at this); omega); have HB := Aside0.mk (bstep (w := w) (by with_reducible repeat (first | refine below_set ?_ (by omega) | apply below_alloc | exact Below.refl _ _)) hb); have hq0 := (hcw1 w.heap.size 0 (by first | (simp; done) | (simp; omega))).trans (blk_cell (blk_alloc (blk_new _ _) _) 0); have hq1 := (hcw1 w.heap.size 1 (by first | (simp; done) | (simp; omega))).trans (blk_cell (blk_alloc (blk_new _ _) _) 1); have hq2 := (hcw1 w.heap.size 2 (by first | (simp; done) | (simp; omega))).trans (blk_cell (blk_alloc (blk_new _ _) _) 2); have hq3 := (hcw1 w.heap.size 3 (by first | (simp; done) | (simp; omega))).trans (blk_cell (blk_alloc (blk_new _ _) _) 3); clear hb)
      refine bodyPost_ret (v := .tuple #[.agg #[.int .i64 (x / 268435456), .int .i64 (bits BinOp.and IntKind.i64 (x / 33554432) 7), .int .i64 (bits BinOp.and IntKind.i64 (x / 4194304) 7), .int .i64 (bits BinOp.and IntKind.i64 x 4194303)], .bool true]) (by simp [results, Try.results148, go_sem, hq0, hq1, hq2, hq3]) rfl ⟨by rw [HI.out, HD.out]; rfl, ?_⟩
      with_reducible repeat (first | refine below_set ?_ (by omega) | apply below_alloc | exact HB.out)
  · have HD := Aside0.mk (show decOk x = false by simp [decOk, hx])
    have HI := Aside0.mk (insV_no HD.out)
    go_enter Try.func148, Try.ntmps148
    go_wp2
    refine bodyPost_ret (v := .tuple #[.agg #[.int .i64 0, .int .i64 0, .int .i64 0, .int .i64 0], .bool false]) (by simp [results, Try.results148, go_sem]) rfl ⟨by rw [HI.out, HD.out], ?_⟩
    with_reducible repeat (first | refine below_set ?_ (by omega) | apply below_alloc | exact Below.refl _ _)

set_option maxHeartbeats 4000000 in
theorem usesMem.calls (w : World) (op a b n : Int) :
    Calls Try.prog 147 #[.agg #[.int .i64 op, .int .i64 a, .int .i64 b, .int .i64 n]] w fun e w' => e = .returned (.bool (usesB op)) ∧ Below w.heap.size w w' := by
  have hd : usesB op = ((op == 2) || (op == 3) || (op == 9)) := rfl
  generalize usesB op = r at *
  cases e1 : (op == 2) <;> cases e2 : (op == 3) <;> cases e3 : (op == 9)
  all_goals
    rw [e1, e2, e3] at hd
    have HD := Aside0.mk hd
    clear hd
    go_enter Try.func147, Try.ntmps147
    go_wp2
    go_ret
    exact ⟨by rw [HD.out]; rfl, below_alloc (Below.refl _ _) _⟩
end Go.Proofs.Ytgeoipplkjgnfaa
