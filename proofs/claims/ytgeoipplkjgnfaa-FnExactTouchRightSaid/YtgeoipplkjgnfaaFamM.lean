/- Walks of the functions that measure, copy and compare machines: what they come to when their arguments are read from memory. Printed by gen.py, this session's own program. -/
import Derived.Test.YtgeoipplkjgnfaaFamE
set_option linter.unusedSimpArgs false
set_option linter.unusedVariables false
namespace Go.Proofs.Ytgeoipplkjgnfaa
open Go.RowKit Go.Proofs.YtgeoipplkjgnfaaW.PrintWords Go.Proofs.Ytgeoipplkjgnfaa.Lib
structure TImage where
  Text : List Int
  Starts : List Int
  Size : Int
instance : Inhabited TImage := ⟨⟨[], [], 0⟩⟩
def kImage : Kd TImage := Kd.iso (Kd.pair (Kd.slice 3 (Kd.int .i64)) (Kd.pair (Kd.slice 3 (Kd.int .i64)) (Kd.int .i64))) (fun x => (x.Text, x.Starts, x.Size))
theorem kImage_sz : kImage.sz = 3 := rfl
theorem kImage_open {w : World} {x : TImage} {cs : List Value} (h : kImage.K w x cs) : ∃ A0 c0 A1 c1, cs = [.slice A0 x.Text.length c0, .slice A1 x.Starts.length c1, .int .i64 x.Size] ∧ SK (Kd.int .i64) w x.Text (.slice A0 x.Text.length c0) ∧ SK (Kd.int .i64) w x.Starts (.slice A1 x.Starts.length c1) := by
  obtain ⟨_, _, rfl, ⟨A0, c0, rfl, l0, C0⟩, _, _, rfl, ⟨A1, c1, rfl, l1, C1⟩, rfl⟩ := h
  exact ⟨A0, c0, A1, c1, rfl, ⟨A0, c0, rfl, l0, C0⟩, ⟨A1, c1, rfl, l1, C1⟩⟩
theorem kImage_mkM (w : World) (base : Nat) (x : TImage) (v0 : Value) (h0 : Kd.R (Kd.int .i64) 3 w base (fun _ => True) v0 x.Text) (v1 : Value) (h1 : Kd.R (Kd.int .i64) 3 w base (fun _ => True) v1 x.Starts) : kImage.M w base (fun _ => True) x [v0, v1, .int .i64 x.Size] :=
  ⟨[v0], _, rfl, ⟨v0, rfl, h0⟩, ⟨[v1], _, rfl, ⟨v1, rfl, h1⟩, rfl⟩⟩
theorem kImage_zM (w : World) (base : Nat) : kImage.M w base (fun _ => True) ⟨[], [], 0⟩ [.slice none 0 0, .slice none 0 0, .int .i64 0] := kImage_mkM w base ⟨[], [], 0⟩ _ (Kd.R_nil _ _ _ _ _) _ (Kd.R_nil _ _ _ _ _)
def wfImage (x : TImage) : Prop := (∀ y ∈ x.Text, (Lit.int .i64 y).wf = true) ∧ (∀ y ∈ x.Starts, (Lit.int .i64 y).wf = true) ∧ (Lit.int .i64 x.Size).wf = true
def smImage (x : TImage) : Prop := x.Text.length ≤ 1048576 ∧ x.Starts.length ≤ 1048576
set_option maxHeartbeats 2000000 in
theorem szImage.calls (w : World) (x : TImage) (cs : List Value) (left : Int) (h : kImage.K w x cs) (h0 : 0 ≤ left) (h1 : left ≤ 1048576) :
    Calls Try.prog 81 #[.agg cs.toArray, .int .i64 left] w (SzPost left (smImage x) w) := by
  obtain ⟨A0, c0, A1, c1, rfl, f0_, f1_⟩ := kImage_open h
  have HK0 := Aside0.mk f0_
  have HK1 := Aside0.mk f1_
  clear f0_ f1_
  have HB := Aside0.mk (below_alloc (Below.refl w.heap.size w) (.cells #[.slice A0 x.Text.length c0, .slice A1 x.Starts.length c1, .int .i64 x.Size] 56 (0, 0)))
  clear h
  go_enter Try.func81, Try.ntmps81
  go_wp2_with (first | (go_at_call_of 61 (Value.slice A0 x.Text.length c0); (with_reducible refine (szIntS.calls _ _ _ _ (HK0.out.below HB.out) (by omega) (by omega)).mono ?_); rintro e w0 ⟨r, rfl, ⟨g1, g2, g3⟩, hb⟩; obtain ⟨hcw0, hfw0⟩ := bcell hb; have hzw0_0 : w.heap.size < w0.heap.size := (by have := hb.size; (try simp at this); omega); have HS0 := Aside0.mk g3; have HB' := Aside0.mk (bstep HB.out hb); clear HB hb g3; have HB := HB'; clear HB') | (go_at_call_of 61 (Value.slice A1 x.Starts.length c1); (with_reducible refine (szIntS.calls _ _ _ _ (HK1.out.below HB.out) (by omega) (by omega)).mono ?_); rintro e w1 ⟨r, rfl, ⟨g1, g2, g3⟩, hb⟩; obtain ⟨hcw1, hfw1⟩ := bcell hb; have hzw1_0 : w.heap.size < w1.heap.size := (by have := hb.size; (try simp at this); omega); have HS1 := Aside0.mk g3; have HB' := Aside0.mk (bstep HB.out hb); clear HB hb g3; have HB := HB'; clear HB'))
  all_goals
    go_ret
    first
      | exact ⟨_, rfl, ⟨by omega, by omega, fun h => ⟨HS0.out (by omega), HS1.out (by omega)⟩⟩, HB.out⟩
      | exact ⟨_, rfl, ⟨by omega, by omega, fun h => absurd h (by omega)⟩, HB.out⟩
set_option maxHeartbeats 4000000 in
set_option maxRecDepth 100000 in
theorem toImage.calls (w : World) (x : TImage) (cs : List Value) (h : kImage.K w x cs) (hs : smImage x) :
    Calls Try.prog 84 #[.agg cs.toArray] w (NewM kImage x w) := by
  obtain ⟨A0, c0, A1, c1, rfl, f0_, f1_⟩ := kImage_open h
  have HK0 := Aside0.mk f0_
  have HK1 := Aside0.mk f1_
  clear f0_ f1_
  obtain ⟨s0, s1⟩ := hs
  have HS0 := Aside0.mk s0
  clear s0
  have HS1 := Aside0.mk s1
  clear s1
  clear h
  have HB := Aside0.mk (Below.refl w.heap.size w)
  go_enter Try.func84, Try.ntmps84
  go_wp2_with (first | (go_at_call_of 63 (Value.slice A0 x.Text.length c0); (with_reducible refine (toIntS.calls _ _ _ (HK0.out.below (by with_reducible repeat (first | refine below_set ?_ (by omega) | apply below_alloc | exact HB.out))) HS0.out).mono ?_); rintro e w0 ⟨v0, rfl, hR, hb⟩; have HL0 := Aside0.mk hb; obtain ⟨B0, d0, rfl⟩ := Kd.R_slice hR; obtain ⟨hcw0, hfw0⟩ := bcell hb; have hzw0_0 : w.heap.size < w0.heap.size := (by have := hb.size; (try simp at this); omega); have hzw0_1 : w.heap.size + 1 < w0.heap.size := (by have := hb.size; (try simp at this); omega); have hzw0_2 : w.heap.size + 2 < w0.heap.size := (by have := hb.size; (try simp at this); omega); have HR0 := Aside0.mk hR; have HB' := Aside0.mk (bstep (w := w) (by with_reducible repeat (first | refine below_set ?_ (by omega) | apply below_alloc | exact HB.out)) hb); clear HB hb hR; have HB := HB'; clear HB') | (go_at_call_of 63 (Value.slice A1 x.Starts.length c1); (with_reducible refine (toIntS.calls _ _ _ (HK1.out.below (by with_reducible repeat (first | refine below_set ?_ (by omega) | apply below_alloc | exact HB.out))) HS1.out).mono ?_); rintro e w1 ⟨v1, rfl, hR, hb⟩; have HL1 := Aside0.mk hb; obtain ⟨B1, d1, rfl⟩ := Kd.R_slice hR; obtain ⟨hcw1, hfw1⟩ := bcell hb; have hzw1_0 : w.heap.size < w1.heap.size := (by have := hb.size; (try simp at this); omega); have hzw1_1 : w.heap.size + 1 < w1.heap.size := (by have := hb.size; (try simp at this); omega); have hzw1_2 : w.heap.size + 2 < w1.heap.size := (by have := hb.size; (try simp at this); omega); have HR1 := Aside0.mk hR; have HB' := Aside0.mk (bstep (w := w) (by with_reducible repeat (first | refine below_set ?_ (by omega) | apply below_alloc | exact HB.out)) hb); clear HB hb hR; have HB := HB'; clear HB'))
  refine bodyPost_ret (v := .agg #[.slice B0 x.Text.length d0, .slice B1 x.Starts.length d1, .int .i64 x.Size]) (by simp [results, Try.results84, go_sem, hcw0, hcw1, hfw0, hfw1, hzw0_0, hzw0_1, hzw0_2, hzw1_0, hzw1_1, hzw1_2]) rfl ⟨_, rfl, kImage_mkM _ _ x _ (Kd.R_lower (R_kept (lo := w.heap.size + 3) HR0.out (by first | omega | (simp <;> omega)) (by with_reducible repeat (first | refine Kept.set ?_ (by simp) _ | exact Kept.refl _ _ | refine Kept.below ?_ HL1.out))) (by first | omega | (simp <;> omega))) _ (Kd.R_lower (R_kept (lo := w.heap.size + 3) HR1.out (by first | omega | (simp <;> omega)) (by with_reducible repeat (first | refine Kept.set ?_ (by simp) _ | exact Kept.refl _ _))) (by first | omega | (simp <;> omega))), ?_⟩
  with_reducible repeat (first | refine below_set ?_ (by omega) | apply below_alloc | exact HB.out)
set_option maxHeartbeats 4000000 in
set_option maxRecDepth 100000 in
theorem eqImage.calls (w : World) (x : TImage) (cs ds : List Value) (h : kImage.K w x cs) (h' : kImage.K w x ds) :
    Calls Try.prog 87 #[.agg cs.toArray, .agg ds.toArray] w fun e w' => e = .returned (.bool true) ∧ Below w.heap.size w w' := by
  obtain ⟨A0, c0, A1, c1, rfl, f0_, f1_⟩ := kImage_open h
  have HK0 := Aside0.mk f0_
  have HK1 := Aside0.mk f1_
  clear f0_ f1_
  obtain ⟨B0, d0, B1, d1, rfl, q0_, q1_⟩ := kImage_open h'
  have HL0 := Aside0.mk q0_
  have HL1 := Aside0.mk q1_
  clear q0_ q1_
  clear h h'
  have HB := Aside0.mk (below_alloc (below_alloc (Below.refl w.heap.size w) (.cells #[.slice A0 x.Text.length c0, .slice A1 x.Starts.length c1, .int .i64 x.Size] 66 (0, 0))) (.cells #[.slice B0 x.Text.length d0, .slice B1 x.Starts.length d1, .int .i64 x.Size] 66 (0, 0)))
  go_enter Try.func87, Try.ntmps87
  go_wp2_with (first | (go_at_call_of 65 (Value.slice A0 x.Text.length c0); (with_reducible refine (eqIntS.calls _ _ _ _ (HK0.out.below HB.out) (HL0.out.below HB.out)).mono ?_); rintro e w0 ⟨rfl, hb⟩; obtain ⟨hcw0, hfw0⟩ := bcell hb; have hzw0_0 : w.heap.size < w0.heap.size := (by have := hb.size; (try simp at this); omega); have hzw0_1 : w.heap.size + 1 < w0.heap.size := (by have := hb.size; (try simp at this); omega); have HB' := Aside0.mk (bstep HB.out hb); clear HB hb; have HB := HB'; clear HB') | (go_at_call_of 65 (Value.slice A1 x.Starts.length c1); (with_reducible refine (eqIntS.calls _ _ _ _ (HK1.out.below HB.out) (HL1.out.below HB.out)).mono ?_); rintro e w1 ⟨rfl, hb⟩; obtain ⟨hcw1, hfw1⟩ := bcell hb; have hzw1_0 : w.heap.size < w1.heap.size := (by have := hb.size; (try simp at this); omega); have hzw1_1 : w.heap.size + 1 < w1.heap.size := (by have := hb.size; (try simp at this); omega); have HB' := Aside0.mk (bstep HB.out hb); clear HB hb; have HB := HB'; clear HB'))
  go_ret
  exact ⟨rfl, HB.out⟩
structure TCore where
  Regs : List Int
  Pc : Int
  Process : Int
instance : Inhabited TCore := ⟨⟨[], 0, 0⟩⟩
def kCore : Kd TCore := Kd.iso (Kd.pair (Kd.slice 3 (Kd.int .i64)) (Kd.pair (Kd.int .i64) (Kd.int .i64))) (fun x => (x.Regs, x.Pc, x.Process))
theorem kCore_sz : kCore.sz = 3 := rfl
theorem kCore_open {w : World} {x : TCore} {cs : List Value} (h : kCore.K w x cs) : ∃ A0 c0, cs = [.slice A0 x.Regs.length c0, .int .i64 x.Pc, .int .i64 x.Process] ∧ SK (Kd.int .i64) w x.Regs (.slice A0 x.Regs.length c0) := by
  obtain ⟨_, _, rfl, ⟨A0, c0, rfl, l0, C0⟩, _, _, rfl, rfl, rfl⟩ := h
  exact ⟨A0, c0, rfl, ⟨A0, c0, rfl, l0, C0⟩⟩
theorem kCore_mkM (w : World) (base : Nat) (x : TCore) (v0 : Value) (h0 : Kd.R (Kd.int .i64) 3 w base (fun _ => True) v0 x.Regs) : kCore.M w base (fun _ => True) x [v0, .int .i64 x.Pc, .int .i64 x.Process] :=
  ⟨[v0], _, rfl, ⟨v0, rfl, h0⟩, ⟨[_], _, rfl, rfl, rfl⟩⟩
theorem kCore_zM (w : World) (base : Nat) : kCore.M w base (fun _ => True) ⟨[], 0, 0⟩ [.slice none 0 0, .int .i64 0, .int .i64 0] := kCore_mkM w base ⟨[], 0, 0⟩ _ (Kd.R_nil _ _ _ _ _)
def wfCore (x : TCore) : Prop := (∀ y ∈ x.Regs, (Lit.int .i64 y).wf = true) ∧ (Lit.int .i64 x.Pc).wf = true ∧ (Lit.int .i64 x.Process).wf = true
def smCore (x : TCore) : Prop := x.Regs.length ≤ 1048576
set_option maxHeartbeats 2000000 in
theorem szCore.calls (w : World) (x : TCore) (cs : List Value) (left : Int) (h : kCore.K w x cs) (h0 : 0 ≤ left) (h1 : left ≤ 1048576) :
    Calls Try.prog 127 #[.agg cs.toArray, .int .i64 left] w (SzPost left (smCore x) w) := by
  obtain ⟨A0, c0, rfl, f0_⟩ := kCore_open h
  have HK0 := Aside0.mk f0_
  clear f0_
  have HB := Aside0.mk (below_alloc (Below.refl w.heap.size w) (.cells #[.slice A0 x.Regs.length c0, .int .i64 x.Pc, .int .i64 x.Process] 179 (0, 0)))
  clear h
  go_enter Try.func127, Try.ntmps127
  go_wp2_with (first | (go_at_call 61; (with_reducible refine (szIntS.calls _ _ _ _ (HK0.out.below HB.out) (by omega) (by omega)).mono ?_); rintro e w0 ⟨r, rfl, ⟨g1, g2, g3⟩, hb⟩; obtain ⟨hcw0, hfw0⟩ := bcell hb; have hzw0_0 : w.heap.size < w0.heap.size := (by have := hb.size; (try simp at this); omega); have HS0 := Aside0.mk g3; have HB' := Aside0.mk (bstep HB.out hb); clear HB hb g3; have HB := HB'; clear HB'))
  all_goals
    go_ret
    first
      | exact ⟨_, rfl, ⟨by omega, by omega, fun h => HS0.out (by omega)⟩, HB.out⟩
      | exact ⟨_, rfl, ⟨by omega, by omega, fun h => absurd h (by omega)⟩, HB.out⟩
set_option maxHeartbeats 2000000 in
theorem szCoreS.calls (w : World) (xs : List TCore) (v : Value) (left : Int) (h : SK kCore w xs v) (h0 : 0 ≤ left) (h1 : left ≤ 1048576) :
    Calls Try.prog 82 #[v, .int .i64 left] w (SzPost left ((xs.length ≤ 1048576 ∧ ∀ y ∈ xs, smCore y)) w) := by
  obtain ⟨A, c, rfl, _, hC⟩ := h
  have hn : xs.length ≤ 9223372036854775807 := hC.2.1
  have HK := Aside0.mk hC
  clear hC
  go_enter Try.func82, Try.ntmps82
  by_cases hlen : (xs.length : Int) ≤ left
  · go_wp2
    go_loopw [1, 5] (fun l i wr => ∃ (r : Int) (k : Nat), l = .int .i64 r ∧ i = .int .i64 k ∧ k ≤ xs.length ∧ 0 ≤ r ∧ r ≤ left ∧ Aside0 (∀ y ∈ xs.take k, smCore y) ∧ Aside0 (Below w.heap.size w wr)) (fun _ i _ => xs.length - (intOf i).toNat)
    case atStart => exact ⟨_, 0, rfl, rfl, by omega, by omega, by omega, ⟨by simp⟩, ⟨Below.refl _ _⟩⟩
    case round =>
      obtain ⟨r, k, rfl, rfl, hk, hr0, hr1, HS, HB⟩ := hrel
      by_cases hlt : k < xs.length
      · obtain ⟨ad, cs, e, _, hKe, hcell⟩ := Kd.C_get (Kd.C_below HK.out HB.out) ⟨[], 0, 0⟩ (k : Int) (by omega) (by omega)
        rw [show xs.getD ((k : Int)).toNat ⟨[], 0, 0⟩ = xs[k] by simp [List.getD, hlt]] at hKe
        have HKe := Aside0.mk hKe
        obtain ⟨A0, c0, rfl, _⟩ := kCore_open hKe
        cases e
        have hc0 := hcell 0 _ rfl
        have hc1 := hcell 1 _ rfl
        have hc2 := hcell 2 _ rfl
        simp only [Int.toNat_natCast, show kCore.sz = 3 from rfl, add_field _ _ 1 (by omega), add_field _ _ 2 (by omega), Nat.mul_one, Nat.add_zero] at hc0 hc1 hc2
        clear hcell hKe
        go_wp2_with (go_at_call 127; refine (szCore.calls _ xs[k] _ _ HKe.out (by omega) (by omega)).mono ?_; rintro e w1 ⟨r1, rfl, ⟨g1, g2, g3⟩, hb⟩; have HB1 := Aside0.mk (bstep HB.out hb); have HS1 := Aside0.mk g3; clear hb g3)
        · go_ret
          exact ⟨_, rfl, ⟨by omega, by omega, fun h => absurd h (by omega)⟩, HB1.out⟩
        · go_roundw
          case rel => exact ⟨_, k + 1, rfl, by go_num, by omega, by omega, by omega, ⟨fun y hy => by rw [List.take_succ_eq_append_getElem hlt] at hy; rcases List.mem_append.1 hy with hy | hy; exact HS.out y hy; rw [List.mem_singleton.1 hy]; exact HS1.out (by omega)⟩, HB1⟩
          case measure => simp [intOf]; omega
      · have e : k = xs.length := by omega
        subst e
        go_wp2
        go_ret
        exact ⟨_, rfl, ⟨by omega, by omega, fun _ => ⟨by omega, fun y hy => HS.out y (by rw [List.take_length]; exact hy)⟩⟩, HB.out⟩
  · go_wp2
    go_ret
    exact ⟨_, rfl, ⟨by omega, by omega, fun h => absurd h (by omega)⟩, Below.refl _ _⟩
set_option maxHeartbeats 4000000 in
set_option maxRecDepth 100000 in
theorem toCore.calls (w : World) (x : TCore) (cs : List Value) (h : kCore.K w x cs) (hs : smCore x) :
    Calls Try.prog 129 #[.agg cs.toArray] w (NewM kCore x w) := by
  obtain ⟨A0, c0, rfl, f0_⟩ := kCore_open h
  have HK0 := Aside0.mk f0_
  clear f0_
  have s0 : x.Regs.length ≤ 1048576 := hs
  have HS0 := Aside0.mk s0
  clear s0
  clear h
  have HB := Aside0.mk (Below.refl w.heap.size w)
  go_enter Try.func129, Try.ntmps129
  go_wp2_with (first | (go_at_call 63; (with_reducible refine (toIntS.calls _ _ _ (HK0.out.below (by with_reducible repeat (first | refine below_set ?_ (by omega) | apply below_alloc | exact HB.out))) HS0.out).mono ?_); rintro e w0 ⟨v0, rfl, hR, hb⟩; have HL0 := Aside0.mk hb; obtain ⟨B0, d0, rfl⟩ := Kd.R_slice hR; obtain ⟨hcw0, hfw0⟩ := bcell hb; have hzw0_0 : w.heap.size < w0.heap.size := (by have := hb.size; (try simp at this); omega); have hzw0_1 : w.heap.size + 1 < w0.heap.size := (by have := hb.size; (try simp at this); omega); have hzw0_2 : w.heap.size + 2 < w0.heap.size := (by have := hb.size; (try simp at this); omega); have HR0 := Aside0.mk hR; have HB' := Aside0.mk (bstep (w := w) (by with_reducible repeat (first | refine below_set ?_ (by omega) | apply below_alloc | exact HB.out)) hb); clear HB hb hR; have HB := HB'; clear HB'))
  refine bodyPost_ret (v := .agg #[.slice B0 x.Regs.length d0, .int .i64 x.Pc, .int .i64 x.Process]) (by simp [results, Try.results129, go_sem, hcw0, hfw0, hzw0_0, hzw0_1, hzw0_2]) rfl ⟨_, rfl, kCore_mkM _ _ x _ (Kd.R_lower (R_kept (lo := w.heap.size + 3) HR0.out (by first | omega | (simp <;> omega)) (by with_reducible repeat (first | refine Kept.set ?_ (by simp) _ | exact Kept.refl _ _))) (by first | omega | (simp <;> omega))), ?_⟩
  with_reducible repeat (first | refine below_set ?_ (by omega) | apply below_alloc | exact HB.out)
theorem info154 : (Try.prog.info? 154).map (fun i => (i.zero, i.size, i.bytes)) = some (some (.agg #[.slice none 0 0, .int .i64 0, .int .i64 0]), 3, 40) := by kernel_rfl
set_option maxHeartbeats 2000000 in
theorem toCoreS.calls (w : World) (xs : List TCore) (v : Value) (h : SK kCore w xs v) (hs : (xs.length ≤ 1048576 ∧ ∀ y ∈ xs, smCore y)) :
    Calls Try.prog 85 #[v] w (NewR kCore 154 xs w) := by
  obtain ⟨A, c, rfl, hl, hC⟩ := h
  have HK := Aside0.mk hC
  clear hC hl
  have hsl : xs.length ≤ 1048576 := hs.1
  have HS := Aside0.mk hs.2
  clear hs
  go_enter Try.func85, Try.ntmps85
  go_wp2_with ((with_reducible refine gate_dst (N := 7) rfl ?_); refine Kd.R_make kCore _ 154 rfl (N := 7) rfl 67 _ _ rfl (xs.length : Int) rfl rfl Try.underlying67 (.agg #[.slice none 0 0, .int .i64 0, .int .i64 0]) 40 info154 rfl (by decide) (by omega) ⟨[], 0, 0⟩ (ok := fun _ => True) (okp := fun _ => True) (kCore_zM _ _) (fun _ hk => hk) trivial (by omega) (by omega) (Below.refl _ _) (Nat.le_refl _) ?_; intro v1 w1 HR hb _ _; simp only [Int.toNat_natCast] at HR; have HR1 := Aside0.mk HR; have HB1 := Aside0.mk hb; clear HR hb)
  go_loopw [4] (fun i wr => ∃ k : Nat, i = .int .i64 k ∧ k ≤ xs.length ∧ Aside0 (Kd.R kCore 154 wr w.heap.size (fun _ => True) v1 (xs.take k ++ List.replicate (xs.length - k) ⟨[], 0, 0⟩)) ∧ Aside0 (Below w.heap.size w wr)) (fun i _ => xs.length - (intOf i).toNat)
  case atStart => exact ⟨0, rfl, by omega, ⟨by simpa using HR1.out⟩, HB1⟩
  case round =>
    obtain ⟨k, rfl, hk, HR, HB⟩ := hrel
    clear HR1 HB1
    by_cases hlt : k < xs.length
    · obtain ⟨ad, cs, e, _, hKe, hcell⟩ := Kd.C_get (Kd.C_below HK.out HB.out) ⟨[], 0, 0⟩ (k : Int) (by omega) (by omega)
      rw [show xs.getD ((k : Int)).toNat ⟨[], 0, 0⟩ = xs[k] by simp [List.getD, hlt]] at hKe
      have HKe := Aside0.mk hKe
      obtain ⟨A0, c0, rfl, _⟩ := kCore_open hKe
      cases e
      have hc0 := hcell 0 _ rfl
      have hc1 := hcell 1 _ rfl
      have hc2 := hcell 2 _ rfl
      simp only [Int.toNat_natCast, show kCore.sz = 3 from rfl, add_field _ _ 1 (by omega), add_field _ _ 2 (by omega), Nat.mul_one, Nat.add_zero] at hc0 hc1 hc2
      clear hcell hKe
      obtain ⟨g, cap, e, hg0, hg1, cells, hcur⟩ := Kd.R_form HR.out (by rw [fill_len _ _ _ hk]; omega)
      rw [fill_len _ _ _ hk] at e
      subst e
      have hg := Aside0.mk (And.intro hg0 hg1)
      clear hg0 hg1 hcur
      go_wp2_with (first | (go_at_call 129; (with_reducible refine (toCore.calls _ xs[k] _ HKe.out (HS.out _ (List.getElem_mem hlt))).mono ?_); rintro e w2 ⟨ds, rfl, hM, hb⟩; have HM := Aside0.mk hM; have HR2 := Aside0.mk (Kd.R_below HR.out hb); have HB2 := Aside0.mk (bstep HB.out hb); have hg2 := Aside0.mk (show g < wr.heap.size ∧ w.heap.size ≤ wr.heap.size from ⟨hg.out.2, HB.out.size⟩)) | ((with_reducible refine gate_store (t := 154) (p := 21) rfl ?_); refine fill_store kCore rfl rfl 154 _ _ rfl k ⟨[], 0, 0⟩ xs[k] (.agg ds.toArray) wr.heap.size 3 rfl (by go_simp) (by go_simp) (by kernel_rfl) (by simpa [Value.cells] using kCore.K_one (kCore.K_of_M HM.out)) HR2.out hlt (by simpa [Value.cells] using HM.out) hg2.out.1 hg2.out.2 HB2.out ?_; intro w3 HR4 HB4 _; have HR3 := Aside0.mk HR4; have HB3 := Aside0.mk HB4; clear HR4 HB4))
      go_roundw
      case rel => exact ⟨k + 1, by go_num, by omega, ⟨by rw [← fill_set _ _ _ hlt]; exact HR3.out⟩, HB3⟩
      case measure => simp [intOf]; omega
    · have e : k = xs.length := by omega
      subst e
      go_wp2
      go_ret
      exact ⟨_, rfl, by simpa using HR.out, HB.out⟩
set_option maxHeartbeats 4000000 in
set_option maxRecDepth 100000 in
theorem eqCore.calls (w : World) (x : TCore) (cs ds : List Value) (h : kCore.K w x cs) (h' : kCore.K w x ds) :
    Calls Try.prog 131 #[.agg cs.toArray, .agg ds.toArray] w fun e w' => e = .returned (.bool true) ∧ Below w.heap.size w w' := by
  obtain ⟨A0, c0, rfl, f0_⟩ := kCore_open h
  have HK0 := Aside0.mk f0_
  clear f0_
  obtain ⟨B0, d0, rfl, q0_⟩ := kCore_open h'
  have HL0 := Aside0.mk q0_
  clear q0_
  clear h h'
  have HB := Aside0.mk (below_alloc (below_alloc (Below.refl w.heap.size w) (.cells #[.slice A0 x.Regs.length c0, .int .i64 x.Pc, .int .i64 x.Process] 154 (0, 0))) (.cells #[.slice B0 x.Regs.length d0, .int .i64 x.Pc, .int .i64 x.Process] 154 (0, 0)))
  go_enter Try.func131, Try.ntmps131
  go_wp2_with (first | (go_at_call 65; (with_reducible refine (eqIntS.calls _ _ _ _ (HK0.out.below HB.out) (HL0.out.below HB.out)).mono ?_); rintro e w0 ⟨rfl, hb⟩; obtain ⟨hcw0, hfw0⟩ := bcell hb; have hzw0_0 : w.heap.size < w0.heap.size := (by have := hb.size; (try simp at this); omega); have hzw0_1 : w.heap.size + 1 < w0.heap.size := (by have := hb.size; (try simp at this); omega); have HB' := Aside0.mk (bstep HB.out hb); clear HB hb; have HB := HB'; clear HB'))
  go_ret
  exact ⟨rfl, HB.out⟩
set_option maxHeartbeats 4000000 in
theorem eqCoreS.calls (w : World) (xs : List TCore) (v u : Value) (h : SK kCore w xs v) (h' : SK kCore w xs u) :
    Calls Try.prog 88 #[v, u] w fun e w' => e = .returned (.bool true) ∧ Below w.heap.size w w' := by
  obtain ⟨A, c, rfl, _, hC⟩ := h
  obtain ⟨A', c', rfl, _, hC'⟩ := h'
  have hn : xs.length ≤ 9223372036854775807 := hC.2.1
  have HK := Aside0.mk hC
  have HK' := Aside0.mk hC'
  clear hC hC'
  go_enter Try.func88, Try.ntmps88
  go_wp2
  go_loopw [5] (fun i wr => ∃ k : Nat, i = .int .i64 k ∧ k ≤ xs.length ∧ Aside0 (Below w.heap.size w wr)) (fun i _ => xs.length - (intOf i).toNat)
  case atStart => exact ⟨0, rfl, by omega, ⟨Below.refl _ _⟩⟩
  case round =>
    obtain ⟨k, rfl, hk, HB⟩ := hrel
    by_cases hlt : k < xs.length
    · obtain ⟨ad, cs, e, _, hKe, hcell⟩ := Kd.C_get (Kd.C_below HK.out HB.out) ⟨[], 0, 0⟩ (k : Int) (by omega) (by omega)
      rw [show xs.getD ((k : Int)).toNat ⟨[], 0, 0⟩ = xs[k] by simp [List.getD, hlt]] at hKe
      have HKe := Aside0.mk hKe
      obtain ⟨A0, c0, rfl, _⟩ := kCore_open hKe
      cases e
      have hc0 := hcell 0 _ rfl
      have hc1 := hcell 1 _ rfl
      have hc2 := hcell 2 _ rfl
      simp only [Int.toNat_natCast, show kCore.sz = 3 from rfl, add_field _ _ 1 (by omega), add_field _ _ 2 (by omega), Nat.mul_one, Nat.add_zero] at hc0 hc1 hc2
      clear hcell hKe
      obtain ⟨ad', cs', e', _, hKe', hcell'⟩ := Kd.C_get (Kd.C_below HK'.out HB.out) ⟨[], 0, 0⟩ (k : Int) (by omega) (by omega)
      rw [show xs.getD ((k : Int)).toNat ⟨[], 0, 0⟩ = xs[k] by simp [List.getD, hlt]] at hKe'
      have HKe' := Aside0.mk hKe'
      obtain ⟨B0, d0, rfl, _⟩ := kCore_open hKe'
      cases e'
      have hd0 := hcell' 0 _ rfl
      have hd1 := hcell' 1 _ rfl
      have hd2 := hcell' 2 _ rfl
      simp only [Int.toNat_natCast, show kCore.sz = 3 from rfl, add_field _ _ 1 (by omega), add_field _ _ 2 (by omega), Nat.mul_one, Nat.add_zero] at hd0 hd1 hd2
      clear hcell' hKe'
      go_wp2
      go_region_held3 (fun w' => w'.cell? (ad.add (k * 3)) = some (.slice A0 xs[k].Regs.length c0) ∧ w'.cell? ⟨(ad.add (k * 3)).block, (ad.add (k * 3)).off + 1, none⟩ = some (.int .i64 xs[k].Pc) ∧ w'.cell? ⟨(ad.add (k * 3)).block, (ad.add (k * 3)).off + 2, none⟩ = some (.int .i64 xs[k].Process) ∧ w'.cell? (ad'.add (k * 3)) = some (.slice B0 xs[k].Regs.length d0) ∧ w'.cell? ⟨(ad'.add (k * 3)).block, (ad'.add (k * 3)).off + 1, none⟩ = some (.int .i64 xs[k].Pc) ∧ w'.cell? ⟨(ad'.add (k * 3)).block, (ad'.add (k * 3)).off + 2, none⟩ = some (.int .i64 xs[k].Process)) (first | exact ⟨hc0, hc1, hc2, hd0, hd1, hd2⟩ | exact ⟨pw_cell_below (w := wr.drew) (by assumption) hc0, pw_cell_below (w := wr.drew) (by assumption) hc1, pw_cell_below (w := wr.drew) (by assumption) hc2, pw_cell_below (w := wr.drew) (by assumption) hd0, pw_cell_below (w := wr.drew) (by assumption) hd1, pw_cell_below (w := wr.drew) (by assumption) hd2⟩) (first | (go_at_call 131; refine (eqCore.calls _ xs[k] _ _ (kCore.K_below (below_drew1 (Below.refl _ _)) HKe.out) (kCore.K_below (below_drew1 (Below.refl _ _)) HKe'.out)).mono ?_; rintro e w1 ⟨rfl, hb⟩))
      rename_i hb hS
      have HB1 := Aside0.mk (bstep (below_drew1 HB.out) hb)
      clear hb hS
      go_wp2
      go_roundw
      case rel => exact ⟨k + 1, by go_num, by omega, HB1⟩
      case measure => simp [intOf]; omega
    · have e : k = xs.length := by omega
      subst e
      go_wp2
      go_ret
      exact ⟨rfl, HB.out⟩
structure TGate where
  Owner : Int
  Waits : List Int
  Queues : List Int
instance : Inhabited TGate := ⟨⟨0, [], []⟩⟩
def kGate : Kd TGate := Kd.iso (Kd.pair (Kd.int .i64) (Kd.pair (Kd.slice 3 (Kd.int .i64)) (Kd.slice 3 (Kd.int .i64)))) (fun x => (x.Owner, x.Waits, x.Queues))
theorem kGate_sz : kGate.sz = 3 := rfl
theorem kGate_open {w : World} {x : TGate} {cs : List Value} (h : kGate.K w x cs) : ∃ A0 c0 A1 c1, cs = [.int .i64 x.Owner, .slice A0 x.Waits.length c0, .slice A1 x.Queues.length c1] ∧ SK (Kd.int .i64) w x.Waits (.slice A0 x.Waits.length c0) ∧ SK (Kd.int .i64) w x.Queues (.slice A1 x.Queues.length c1) := by
  obtain ⟨_, _, rfl, rfl, _, _, rfl, ⟨A0, c0, rfl, l0, C0⟩, ⟨A1, c1, rfl, l1, C1⟩⟩ := h
  exact ⟨A0, c0, A1, c1, rfl, ⟨A0, c0, rfl, l0, C0⟩, ⟨A1, c1, rfl, l1, C1⟩⟩
theorem kGate_mkM (w : World) (base : Nat) (x : TGate) (v0 : Value) (h0 : Kd.R (Kd.int .i64) 3 w base (fun _ => True) v0 x.Waits) (v1 : Value) (h1 : Kd.R (Kd.int .i64) 3 w base (fun _ => True) v1 x.Queues) : kGate.M w base (fun _ => True) x [.int .i64 x.Owner, v0, v1] :=
  ⟨[_], _, rfl, rfl, ⟨[v0], _, rfl, ⟨v0, rfl, h0⟩, ⟨v1, rfl, h1⟩⟩⟩
theorem kGate_zM (w : World) (base : Nat) : kGate.M w base (fun _ => True) ⟨0, [], []⟩ [.int .i64 0, .slice none 0 0, .slice none 0 0] := kGate_mkM w base ⟨0, [], []⟩ _ (Kd.R_nil _ _ _ _ _) _ (Kd.R_nil _ _ _ _ _)
def wfGate (x : TGate) : Prop := (Lit.int .i64 x.Owner).wf = true ∧ (∀ y ∈ x.Waits, (Lit.int .i64 y).wf = true) ∧ (∀ y ∈ x.Queues, (Lit.int .i64 y).wf = true)
def smGate (x : TGate) : Prop := x.Waits.length ≤ 1048576 ∧ x.Queues.length ≤ 1048576
set_option maxHeartbeats 2000000 in
theorem szGate.calls (w : World) (x : TGate) (cs : List Value) (left : Int) (h : kGate.K w x cs) (h0 : 0 ≤ left) (h1 : left ≤ 1048576) :
    Calls Try.prog 150 #[.agg cs.toArray, .int .i64 left] w (SzPost left (smGate x) w) := by
  obtain ⟨A0, c0, A1, c1, rfl, f1_, f2_⟩ := kGate_open h
  have HK1 := Aside0.mk f1_
  have HK2 := Aside0.mk f2_
  clear f1_ f2_
  have HB := Aside0.mk (below_alloc (Below.refl w.heap.size w) (.cells #[.int .i64 x.Owner, .slice A0 x.Waits.length c0, .slice A1 x.Queues.length c1] 211 (0, 0)))
  clear h
  go_enter Try.func150, Try.ntmps150
  go_wp2_with (first | (go_at_call_of 61 (Value.slice A0 x.Waits.length c0); (with_reducible refine (szIntS.calls _ _ _ _ (HK1.out.below HB.out) (by omega) (by omega)).mono ?_); rintro e w1 ⟨r, rfl, ⟨g1, g2, g3⟩, hb⟩; obtain ⟨hcw1, hfw1⟩ := bcell hb; have hzw1_0 : w.heap.size < w1.heap.size := (by have := hb.size; (try simp at this); omega); have HS1 := Aside0.mk g3; have HB' := Aside0.mk (bstep HB.out hb); clear HB hb g3; have HB := HB'; clear HB') | (go_at_call_of 61 (Value.slice A1 x.Queues.length c1); (with_reducible refine (szIntS.calls _ _ _ _ (HK2.out.below HB.out) (by omega) (by omega)).mono ?_); rintro e w2 ⟨r, rfl, ⟨g1, g2, g3⟩, hb⟩; obtain ⟨hcw2, hfw2⟩ := bcell hb; have hzw2_0 : w.heap.size < w2.heap.size := (by have := hb.size; (try simp at this); omega); have HS2 := Aside0.mk g3; have HB' := Aside0.mk (bstep HB.out hb); clear HB hb g3; have HB := HB'; clear HB'))
  all_goals
    go_ret
    first
      | exact ⟨_, rfl, ⟨by omega, by omega, fun h => ⟨HS1.out (by omega), HS2.out (by omega)⟩⟩, HB.out⟩
      | exact ⟨_, rfl, ⟨by omega, by omega, fun h => absurd h (by omega)⟩, HB.out⟩
set_option maxHeartbeats 2000000 in
theorem szGateS.calls (w : World) (xs : List TGate) (v : Value) (left : Int) (h : SK kGate w xs v) (h0 : 0 ≤ left) (h1 : left ≤ 1048576) :
    Calls Try.prog 110 #[v, .int .i64 left] w (SzPost left ((xs.length ≤ 1048576 ∧ ∀ y ∈ xs, smGate y)) w) := by
  obtain ⟨A, c, rfl, _, hC⟩ := h
  have hn : xs.length ≤ 9223372036854775807 := hC.2.1
  have HK := Aside0.mk hC
  clear hC
  go_enter Try.func110, Try.ntmps110
  by_cases hlen : (xs.length : Int) ≤ left
  · go_wp2
    go_loopw [1, 5] (fun l i wr => ∃ (r : Int) (k : Nat), l = .int .i64 r ∧ i = .int .i64 k ∧ k ≤ xs.length ∧ 0 ≤ r ∧ r ≤ left ∧ Aside0 (∀ y ∈ xs.take k, smGate y) ∧ Aside0 (Below w.heap.size w wr)) (fun _ i _ => xs.length - (intOf i).toNat)
    case atStart => exact ⟨_, 0, rfl, rfl, by omega, by omega, by omega, ⟨by simp⟩, ⟨Below.refl _ _⟩⟩
    case round =>
      obtain ⟨r, k, rfl, rfl, hk, hr0, hr1, HS, HB⟩ := hrel
      by_cases hlt : k < xs.length
      · obtain ⟨ad, cs, e, _, hKe, hcell⟩ := Kd.C_get (Kd.C_below HK.out HB.out) ⟨0, [], []⟩ (k : Int) (by omega) (by omega)
        rw [show xs.getD ((k : Int)).toNat ⟨0, [], []⟩ = xs[k] by simp [List.getD, hlt]] at hKe
        have HKe := Aside0.mk hKe
        obtain ⟨A0, c0, A1, c1, rfl, _⟩ := kGate_open hKe
        cases e
        have hc0 := hcell 0 _ rfl
        have hc1 := hcell 1 _ rfl
        have hc2 := hcell 2 _ rfl
        simp only [Int.toNat_natCast, show kGate.sz = 3 from rfl, add_field _ _ 1 (by omega), add_field _ _ 2 (by omega), Nat.mul_one, Nat.add_zero] at hc0 hc1 hc2
        clear hcell hKe
        go_wp2_with (go_at_call 150; refine (szGate.calls _ xs[k] _ _ HKe.out (by omega) (by omega)).mono ?_; rintro e w1 ⟨r1, rfl, ⟨g1, g2, g3⟩, hb⟩; have HB1 := Aside0.mk (bstep HB.out hb); have HS1 := Aside0.mk g3; clear hb g3)
        · go_ret
          exact ⟨_, rfl, ⟨by omega, by omega, fun h => absurd h (by omega)⟩, HB1.out⟩
        · go_roundw
          case rel => exact ⟨_, k + 1, rfl, by go_num, by omega, by omega, by omega, ⟨fun y hy => by rw [List.take_succ_eq_append_getElem hlt] at hy; rcases List.mem_append.1 hy with hy | hy; exact HS.out y hy; rw [List.mem_singleton.1 hy]; exact HS1.out (by omega)⟩, HB1⟩
          case measure => simp [intOf]; omega
      · have e : k = xs.length := by omega
        subst e
        go_wp2
        go_ret
        exact ⟨_, rfl, ⟨by omega, by omega, fun _ => ⟨by omega, fun y hy => HS.out y (by rw [List.take_length]; exact hy)⟩⟩, HB.out⟩
  · go_wp2
    go_ret
    exact ⟨_, rfl, ⟨by omega, by omega, fun h => absurd h (by omega)⟩, Below.refl _ _⟩
set_option maxHeartbeats 4000000 in
set_option maxRecDepth 100000 in
theorem toGate.calls (w : World) (x : TGate) (cs : List Value) (h : kGate.K w x cs) (hs : smGate x) :
    Calls Try.prog 153 #[.agg cs.toArray] w (NewM kGate x w) := by
  obtain ⟨A0, c0, A1, c1, rfl, f1_, f2_⟩ := kGate_open h
  have HK1 := Aside0.mk f1_
  have HK2 := Aside0.mk f2_
  clear f1_ f2_
  obtain ⟨s1, s2⟩ := hs
  have HS1 := Aside0.mk s1
  clear s1
  have HS2 := Aside0.mk s2
  clear s2
  clear h
  have HB := Aside0.mk (Below.refl w.heap.size w)
  go_enter Try.func153, Try.ntmps153
  go_wp2_with (first | (go_at_call_of 63 (Value.slice A0 x.Waits.length c0); (with_reducible refine (toIntS.calls _ _ _ (HK1.out.below (by with_reducible repeat (first | refine below_set ?_ (by omega) | apply below_alloc | exact HB.out))) HS1.out).mono ?_); rintro e w1 ⟨v1, rfl, hR, hb⟩; have HL1 := Aside0.mk hb; obtain ⟨B1, d1, rfl⟩ := Kd.R_slice hR; obtain ⟨hcw1, hfw1⟩ := bcell hb; have hzw1_0 : w.heap.size < w1.heap.size := (by have := hb.size; (try simp at this); omega); have hzw1_1 : w.heap.size + 1 < w1.heap.size := (by have := hb.size; (try simp at this); omega); have hzw1_2 : w.heap.size + 2 < w1.heap.size := (by have := hb.size; (try simp at this); omega); have HR1 := Aside0.mk hR; have HB' := Aside0.mk (bstep (w := w) (by with_reducible repeat (first | refine below_set ?_ (by omega) | apply below_alloc | exact HB.out)) hb); clear HB hb hR; have HB := HB'; clear HB') | (go_at_call_of 63 (Value.slice A1 x.Queues.length c1); (with_reducible refine (toIntS.calls _ _ _ (HK2.out.below (by with_reducible repeat (first | refine below_set ?_ (by omega) | apply below_alloc | exact HB.out))) HS2.out).mono ?_); rintro e w2 ⟨v2, rfl, hR, hb⟩; have HL2 := Aside0.mk hb; obtain ⟨B2, d2, rfl⟩ := Kd.R_slice hR; obtain ⟨hcw2, hfw2⟩ := bcell hb; have hzw2_0 : w.heap.size < w2.heap.size := (by have := hb.size; (try simp at this); omega); have hzw2_1 : w.heap.size + 1 < w2.heap.size := (by have := hb.size; (try simp at this); omega); have hzw2_2 : w.heap.size + 2 < w2.heap.size := (by have := hb.size; (try simp at this); omega); have HR2 := Aside0.mk hR; have HB' := Aside0.mk (bstep (w := w) (by with_reducible repeat (first | refine below_set ?_ (by omega) | apply below_alloc | exact HB.out)) hb); clear HB hb hR; have HB := HB'; clear HB'))
  refine bodyPost_ret (v := .agg #[.int .i64 x.Owner, .slice B1 x.Waits.length d1, .slice B2 x.Queues.length d2]) (by simp [results, Try.results153, go_sem, hcw1, hcw2, hfw1, hfw2, hzw1_0, hzw1_1, hzw1_2, hzw2_0, hzw2_1, hzw2_2]) rfl ⟨_, rfl, kGate_mkM _ _ x _ (Kd.R_lower (R_kept (lo := w.heap.size + 3) HR1.out (by first | omega | (simp <;> omega)) (by with_reducible repeat (first | refine Kept.set ?_ (by simp) _ | exact Kept.refl _ _ | refine Kept.below ?_ HL2.out))) (by first | omega | (simp <;> omega))) _ (Kd.R_lower (R_kept (lo := w.heap.size + 3) HR2.out (by first | omega | (simp <;> omega)) (by with_reducible repeat (first | refine Kept.set ?_ (by simp) _ | exact Kept.refl _ _))) (by first | omega | (simp <;> omega))), ?_⟩
  with_reducible repeat (first | refine below_set ?_ (by omega) | apply below_alloc | exact HB.out)
theorem info40 : (Try.prog.info? 40).map (fun i => (i.zero, i.size, i.bytes)) = some (some (.agg #[.int .i64 0, .slice none 0 0, .slice none 0 0]), 3, 56) := by kernel_rfl
set_option maxHeartbeats 2000000 in
theorem toGateS.calls (w : World) (xs : List TGate) (v : Value) (h : SK kGate w xs v) (hs : (xs.length ≤ 1048576 ∧ ∀ y ∈ xs, smGate y)) :
    Calls Try.prog 114 #[v] w (NewR kGate 40 xs w) := by
  obtain ⟨A, c, rfl, hl, hC⟩ := h
  have HK := Aside0.mk hC
  clear hC hl
  have hsl : xs.length ≤ 1048576 := hs.1
  have HS := Aside0.mk hs.2
  clear hs
  go_enter Try.func114, Try.ntmps114
  go_wp2_with ((with_reducible refine gate_dst (N := 7) rfl ?_); refine Kd.R_make kGate _ 40 rfl (N := 7) rfl 68 _ _ rfl (xs.length : Int) rfl rfl Try.underlying68 (.agg #[.int .i64 0, .slice none 0 0, .slice none 0 0]) 56 info40 rfl (by decide) (by omega) ⟨0, [], []⟩ (ok := fun _ => True) (okp := fun _ => True) (kGate_zM _ _) (fun _ hk => hk) trivial (by omega) (by omega) (Below.refl _ _) (Nat.le_refl _) ?_; intro v1 w1 HR hb _ _; simp only [Int.toNat_natCast] at HR; have HR1 := Aside0.mk HR; have HB1 := Aside0.mk hb; clear HR hb)
  go_loopw [4] (fun i wr => ∃ k : Nat, i = .int .i64 k ∧ k ≤ xs.length ∧ Aside0 (Kd.R kGate 40 wr w.heap.size (fun _ => True) v1 (xs.take k ++ List.replicate (xs.length - k) ⟨0, [], []⟩)) ∧ Aside0 (Below w.heap.size w wr)) (fun i _ => xs.length - (intOf i).toNat)
  case atStart => exact ⟨0, rfl, by omega, ⟨by simpa using HR1.out⟩, HB1⟩
  case round =>
    obtain ⟨k, rfl, hk, HR, HB⟩ := hrel
    clear HR1 HB1
    by_cases hlt : k < xs.length
    · obtain ⟨ad, cs, e, _, hKe, hcell⟩ := Kd.C_get (Kd.C_below HK.out HB.out) ⟨0, [], []⟩ (k : Int) (by omega) (by omega)
      rw [show xs.getD ((k : Int)).toNat ⟨0, [], []⟩ = xs[k] by simp [List.getD, hlt]] at hKe
      have HKe := Aside0.mk hKe
      obtain ⟨A0, c0, A1, c1, rfl, _⟩ := kGate_open hKe
      cases e
      have hc0 := hcell 0 _ rfl
      have hc1 := hcell 1 _ rfl
      have hc2 := hcell 2 _ rfl
      simp only [Int.toNat_natCast, show kGate.sz = 3 from rfl, add_field _ _ 1 (by omega), add_field _ _ 2 (by omega), Nat.mul_one, Nat.add_zero] at hc0 hc1 hc2
      clear hcell hKe
      obtain ⟨g, cap, e, hg0, hg1, cells, hcur⟩ := Kd.R_form HR.out (by rw [fill_len _ _ _ hk]; omega)
      rw [fill_len _ _ _ hk] at e
      subst e
      have hg := Aside0.mk (And.intro hg0 hg1)
      clear hg0 hg1 hcur
      go_wp2_with (first | (go_at_call 153; (with_reducible refine (toGate.calls _ xs[k] _ HKe.out (HS.out _ (List.getElem_mem hlt))).mono ?_); rintro e w2 ⟨ds, rfl, hM, hb⟩; have HM := Aside0.mk hM; have HR2 := Aside0.mk (Kd.R_below HR.out hb); have HB2 := Aside0.mk (bstep HB.out hb); have hg2 := Aside0.mk (show g < wr.heap.size ∧ w.heap.size ≤ wr.heap.size from ⟨hg.out.2, HB.out.size⟩)) | ((with_reducible refine gate_store (t := 40) (p := 21) rfl ?_); refine fill_store kGate rfl rfl 40 _ _ rfl k ⟨0, [], []⟩ xs[k] (.agg ds.toArray) wr.heap.size 3 rfl (by go_simp) (by go_simp) (by kernel_rfl) (by simpa [Value.cells] using kGate.K_one (kGate.K_of_M HM.out)) HR2.out hlt (by simpa [Value.cells] using HM.out) hg2.out.1 hg2.out.2 HB2.out ?_; intro w3 HR4 HB4 _; have HR3 := Aside0.mk HR4; have HB3 := Aside0.mk HB4; clear HR4 HB4))
      go_roundw
      case rel => exact ⟨k + 1, by go_num, by omega, ⟨by rw [← fill_set _ _ _ hlt]; exact HR3.out⟩, HB3⟩
      case measure => simp [intOf]; omega
    · have e : k = xs.length := by omega
      subst e
      go_wp2
      go_ret
      exact ⟨_, rfl, by simpa using HR.out, HB.out⟩
set_option maxHeartbeats 4000000 in
set_option maxRecDepth 100000 in
theorem eqGate.calls (w : World) (x : TGate) (cs ds : List Value) (h : kGate.K w x cs) (h' : kGate.K w x ds) :
    Calls Try.prog 156 #[.agg cs.toArray, .agg ds.toArray] w fun e w' => e = .returned (.bool true) ∧ Below w.heap.size w w' := by
  obtain ⟨A0, c0, A1, c1, rfl, f1_, f2_⟩ := kGate_open h
  have HK1 := Aside0.mk f1_
  have HK2 := Aside0.mk f2_
  clear f1_ f2_
  obtain ⟨B0, d0, B1, d1, rfl, q1_, q2_⟩ := kGate_open h'
  have HL1 := Aside0.mk q1_
  have HL2 := Aside0.mk q2_
  clear q1_ q2_
  clear h h'
  have HB := Aside0.mk (below_alloc (below_alloc (Below.refl w.heap.size w) (.cells #[.int .i64 x.Owner, .slice A0 x.Waits.length c0, .slice A1 x.Queues.length c1] 40 (0, 0))) (.cells #[.int .i64 x.Owner, .slice B0 x.Waits.length d0, .slice B1 x.Queues.length d1] 40 (0, 0)))
  go_enter Try.func156, Try.ntmps156
  go_wp2_with (first | (go_at_call_of 65 (Value.slice A0 x.Waits.length c0); (with_reducible refine (eqIntS.calls _ _ _ _ (HK1.out.below HB.out) (HL1.out.below HB.out)).mono ?_); rintro e w1 ⟨rfl, hb⟩; obtain ⟨hcw1, hfw1⟩ := bcell hb; have hzw1_0 : w.heap.size < w1.heap.size := (by have := hb.size; (try simp at this); omega); have hzw1_1 : w.heap.size + 1 < w1.heap.size := (by have := hb.size; (try simp at this); omega); have HB' := Aside0.mk (bstep HB.out hb); clear HB hb; have HB := HB'; clear HB') | (go_at_call_of 65 (Value.slice A1 x.Queues.length c1); (with_reducible refine (eqIntS.calls _ _ _ _ (HK2.out.below HB.out) (HL2.out.below HB.out)).mono ?_); rintro e w2 ⟨rfl, hb⟩; obtain ⟨hcw2, hfw2⟩ := bcell hb; have hzw2_0 : w.heap.size < w2.heap.size := (by have := hb.size; (try simp at this); omega); have hzw2_1 : w.heap.size + 1 < w2.heap.size := (by have := hb.size; (try simp at this); omega); have HB' := Aside0.mk (bstep HB.out hb); clear HB hb; have HB := HB'; clear HB'))
  go_ret
  exact ⟨rfl, HB.out⟩
set_option maxHeartbeats 4000000 in
theorem eqGateS.calls (w : World) (xs : List TGate) (v u : Value) (h : SK kGate w xs v) (h' : SK kGate w xs u) :
    Calls Try.prog 119 #[v, u] w fun e w' => e = .returned (.bool true) ∧ Below w.heap.size w w' := by
  obtain ⟨A, c, rfl, _, hC⟩ := h
  obtain ⟨A', c', rfl, _, hC'⟩ := h'
  have hn : xs.length ≤ 9223372036854775807 := hC.2.1
  have HK := Aside0.mk hC
  have HK' := Aside0.mk hC'
  clear hC hC'
  go_enter Try.func119, Try.ntmps119
  go_wp2
  go_loopw [5] (fun i wr => ∃ k : Nat, i = .int .i64 k ∧ k ≤ xs.length ∧ Aside0 (Below w.heap.size w wr)) (fun i _ => xs.length - (intOf i).toNat)
  case atStart => exact ⟨0, rfl, by omega, ⟨Below.refl _ _⟩⟩
  case round =>
    obtain ⟨k, rfl, hk, HB⟩ := hrel
    by_cases hlt : k < xs.length
    · obtain ⟨ad, cs, e, _, hKe, hcell⟩ := Kd.C_get (Kd.C_below HK.out HB.out) ⟨0, [], []⟩ (k : Int) (by omega) (by omega)
      rw [show xs.getD ((k : Int)).toNat ⟨0, [], []⟩ = xs[k] by simp [List.getD, hlt]] at hKe
      have HKe := Aside0.mk hKe
      obtain ⟨A0, c0, A1, c1, rfl, _⟩ := kGate_open hKe
      cases e
      have hc0 := hcell 0 _ rfl
      have hc1 := hcell 1 _ rfl
      have hc2 := hcell 2 _ rfl
      simp only [Int.toNat_natCast, show kGate.sz = 3 from rfl, add_field _ _ 1 (by omega), add_field _ _ 2 (by omega), Nat.mul_one, Nat.add_zero] at hc0 hc1 hc2
      clear hcell hKe
      obtain ⟨ad', cs', e', _, hKe', hcell'⟩ := Kd.C_get (Kd.C_below HK'.out HB.out) ⟨0, [], []⟩ (k : Int) (by omega) (by omega)
      rw [show xs.getD ((k : Int)).toNat ⟨0, [], []⟩ = xs[k] by simp [List.getD, hlt]] at hKe'
      have HKe' := Aside0.mk hKe'
      obtain ⟨B0, d0, B1, d1, rfl, _⟩ := kGate_open hKe'
      cases e'
      have hd0 := hcell' 0 _ rfl
      have hd1 := hcell' 1 _ rfl
      have hd2 := hcell' 2 _ rfl
      simp only [Int.toNat_natCast, show kGate.sz = 3 from rfl, add_field _ _ 1 (by omega), add_field _ _ 2 (by omega), Nat.mul_one, Nat.add_zero] at hd0 hd1 hd2
      clear hcell' hKe'
      go_wp2
      go_region_held3 (fun w' => w'.cell? (ad.add (k * 3)) = some (.int .i64 xs[k].Owner) ∧ w'.cell? ⟨(ad.add (k * 3)).block, (ad.add (k * 3)).off + 1, none⟩ = some (.slice A0 xs[k].Waits.length c0) ∧ w'.cell? ⟨(ad.add (k * 3)).block, (ad.add (k * 3)).off + 2, none⟩ = some (.slice A1 xs[k].Queues.length c1) ∧ w'.cell? (ad'.add (k * 3)) = some (.int .i64 xs[k].Owner) ∧ w'.cell? ⟨(ad'.add (k * 3)).block, (ad'.add (k * 3)).off + 1, none⟩ = some (.slice B0 xs[k].Waits.length d0) ∧ w'.cell? ⟨(ad'.add (k * 3)).block, (ad'.add (k * 3)).off + 2, none⟩ = some (.slice B1 xs[k].Queues.length d1)) (first | exact ⟨hc0, hc1, hc2, hd0, hd1, hd2⟩ | exact ⟨pw_cell_below (w := wr.drew) (by assumption) hc0, pw_cell_below (w := wr.drew) (by assumption) hc1, pw_cell_below (w := wr.drew) (by assumption) hc2, pw_cell_below (w := wr.drew) (by assumption) hd0, pw_cell_below (w := wr.drew) (by assumption) hd1, pw_cell_below (w := wr.drew) (by assumption) hd2⟩) (first | (go_at_call 156; refine (eqGate.calls _ xs[k] _ _ (kGate.K_below (below_drew1 (Below.refl _ _)) HKe.out) (kGate.K_below (below_drew1 (Below.refl _ _)) HKe'.out)).mono ?_; rintro e w1 ⟨rfl, hb⟩))
      rename_i hb hS
      have HB1 := Aside0.mk (bstep (below_drew1 HB.out) hb)
      clear hb hS
      go_wp2
      go_roundw
      case rel => exact ⟨k + 1, by go_num, by omega, HB1⟩
      case measure => simp [intOf]; omega
    · have e : k = xs.length := by omega
      subst e
      go_wp2
      go_ret
      exact ⟨rfl, HB.out⟩
structure TKernel where
  Gates : List TGate
  Ready : List Int
  Saved : List TCore
  Over : List Bool
instance : Inhabited TKernel := ⟨⟨[], [], [], []⟩⟩
def kKernel : Kd TKernel := Kd.iso (Kd.pair (Kd.slice 40 kGate) (Kd.pair (Kd.slice 3 (Kd.int .i64)) (Kd.pair (Kd.slice 154 kCore) (Kd.slice 4 Kd.bool)))) (fun x => (x.Gates, x.Ready, x.Saved, x.Over))
theorem kKernel_sz : kKernel.sz = 4 := rfl
theorem kKernel_open {w : World} {x : TKernel} {cs : List Value} (h : kKernel.K w x cs) : ∃ A0 c0 A1 c1 A2 c2 A3 c3, cs = [.slice A0 x.Gates.length c0, .slice A1 x.Ready.length c1, .slice A2 x.Saved.length c2, .slice A3 x.Over.length c3] ∧ SK kGate w x.Gates (.slice A0 x.Gates.length c0) ∧ SK (Kd.int .i64) w x.Ready (.slice A1 x.Ready.length c1) ∧ SK kCore w x.Saved (.slice A2 x.Saved.length c2) ∧ SK Kd.bool w x.Over (.slice A3 x.Over.length c3) := by
  obtain ⟨_, _, rfl, ⟨A0, c0, rfl, l0, C0⟩, _, _, rfl, ⟨A1, c1, rfl, l1, C1⟩, _, _, rfl, ⟨A2, c2, rfl, l2, C2⟩, ⟨A3, c3, rfl, l3, C3⟩⟩ := h
  exact ⟨A0, c0, A1, c1, A2, c2, A3, c3, rfl, ⟨A0, c0, rfl, l0, C0⟩, ⟨A1, c1, rfl, l1, C1⟩, ⟨A2, c2, rfl, l2, C2⟩, ⟨A3, c3, rfl, l3, C3⟩⟩
theorem kKernel_mkM (w : World) (base : Nat) (x : TKernel) (v0 : Value) (h0 : Kd.R kGate 40 w base (fun _ => True) v0 x.Gates) (v1 : Value) (h1 : Kd.R (Kd.int .i64) 3 w base (fun _ => True) v1 x.Ready) (v2 : Value) (h2 : Kd.R kCore 154 w base (fun _ => True) v2 x.Saved) (v3 : Value) (h3 : Kd.R Kd.bool 4 w base (fun _ => True) v3 x.Over) : kKernel.M w base (fun _ => True) x [v0, v1, v2, v3] :=
  ⟨[v0], _, rfl, ⟨v0, rfl, h0⟩, ⟨[v1], _, rfl, ⟨v1, rfl, h1⟩, ⟨[v2], _, rfl, ⟨v2, rfl, h2⟩, ⟨v3, rfl, h3⟩⟩⟩⟩
theorem kKernel_zM (w : World) (base : Nat) : kKernel.M w base (fun _ => True) ⟨[], [], [], []⟩ [.slice none 0 0, .slice none 0 0, .slice none 0 0, .slice none 0 0] := kKernel_mkM w base ⟨[], [], [], []⟩ _ (Kd.R_nil _ _ _ _ _) _ (Kd.R_nil _ _ _ _ _) _ (Kd.R_nil _ _ _ _ _) _ (Kd.R_nil _ _ _ _ _)
def wfKernel (x : TKernel) : Prop := (∀ y ∈ x.Gates, wfGate y) ∧ (∀ y ∈ x.Ready, (Lit.int .i64 y).wf = true) ∧ (∀ y ∈ x.Saved, wfCore y) ∧ (∀ y ∈ x.Over, True)
def smKernel (x : TKernel) : Prop := (x.Gates.length ≤ 1048576 ∧ ∀ y ∈ x.Gates, smGate y) ∧ x.Ready.length ≤ 1048576 ∧ (x.Saved.length ≤ 1048576 ∧ ∀ y ∈ x.Saved, smCore y) ∧ x.Over.length ≤ 1048576
set_option maxHeartbeats 2000000 in
theorem szKernel.calls (w : World) (x : TKernel) (cs : List Value) (left : Int) (h : kKernel.K w x cs) (h0 : 0 ≤ left) (h1 : left ≤ 1048576) :
    Calls Try.prog 83 #[.agg cs.toArray, .int .i64 left] w (SzPost left (smKernel x) w) := by
  obtain ⟨A0, c0, A1, c1, A2, c2, A3, c3, rfl, f0_, f1_, f2_, f3_⟩ := kKernel_open h
  have HK0 := Aside0.mk f0_
  have HK1 := Aside0.mk f1_
  have HK2 := Aside0.mk f2_
  have HK3 := Aside0.mk f3_
  clear f0_ f1_ f2_ f3_
  have HB := Aside0.mk (below_alloc (Below.refl w.heap.size w) (.cells #[.slice A0 x.Gates.length c0, .slice A1 x.Ready.length c1, .slice A2 x.Saved.length c2, .slice A3 x.Over.length c3] 61 (0, 0)))
  clear h
  go_enter Try.func83, Try.ntmps83
  go_wp2_with (first | (go_at_call 110; (with_reducible refine (szGateS.calls _ _ _ _ (HK0.out.below HB.out) (by omega) (by omega)).mono ?_); rintro e w0 ⟨r, rfl, ⟨g1, g2, g3⟩, hb⟩; obtain ⟨hcw0, hfw0⟩ := bcell hb; have hzw0_0 : w.heap.size < w0.heap.size := (by have := hb.size; (try simp at this); omega); have HS0 := Aside0.mk g3; have HB' := Aside0.mk (bstep HB.out hb); clear HB hb g3; have HB := HB'; clear HB') | (go_at_call 61; (with_reducible refine (szIntS.calls _ _ _ _ (HK1.out.below HB.out) (by omega) (by omega)).mono ?_); rintro e w1 ⟨r, rfl, ⟨g1, g2, g3⟩, hb⟩; obtain ⟨hcw1, hfw1⟩ := bcell hb; have hzw1_0 : w.heap.size < w1.heap.size := (by have := hb.size; (try simp at this); omega); have HS1 := Aside0.mk g3; have HB' := Aside0.mk (bstep HB.out hb); clear HB hb g3; have HB := HB'; clear HB') | (go_at_call 82; (with_reducible refine (szCoreS.calls _ _ _ _ (HK2.out.below HB.out) (by omega) (by omega)).mono ?_); rintro e w2 ⟨r, rfl, ⟨g1, g2, g3⟩, hb⟩; obtain ⟨hcw2, hfw2⟩ := bcell hb; have hzw2_0 : w.heap.size < w2.heap.size := (by have := hb.size; (try simp at this); omega); have HS2 := Aside0.mk g3; have HB' := Aside0.mk (bstep HB.out hb); clear HB hb g3; have HB := HB'; clear HB') | (go_at_call 128; (with_reducible refine (szBoolS.calls _ _ _ _ (HK3.out.below HB.out) (by omega) (by omega)).mono ?_); rintro e w3 ⟨r, rfl, ⟨g1, g2, g3⟩, hb⟩; obtain ⟨hcw3, hfw3⟩ := bcell hb; have hzw3_0 : w.heap.size < w3.heap.size := (by have := hb.size; (try simp at this); omega); have HS3 := Aside0.mk g3; have HB' := Aside0.mk (bstep HB.out hb); clear HB hb g3; have HB := HB'; clear HB'))
  all_goals
    go_ret
    first
      | exact ⟨_, rfl, ⟨by omega, by omega, fun h => ⟨HS0.out (by omega), HS1.out (by omega), HS2.out (by omega), HS3.out (by omega)⟩⟩, HB.out⟩
      | exact ⟨_, rfl, ⟨by omega, by omega, fun h => absurd h (by omega)⟩, HB.out⟩
set_option maxHeartbeats 4000000 in
set_option maxRecDepth 100000 in
theorem toKernel.calls (w : World) (x : TKernel) (cs : List Value) (h : kKernel.K w x cs) (hs : smKernel x) :
    Calls Try.prog 86 #[.agg cs.toArray] w (NewM kKernel x w) := by
  obtain ⟨A0, c0, A1, c1, A2, c2, A3, c3, rfl, f0_, f1_, f2_, f3_⟩ := kKernel_open h
  have HK0 := Aside0.mk f0_
  have HK1 := Aside0.mk f1_
  have HK2 := Aside0.mk f2_
  have HK3 := Aside0.mk f3_
  clear f0_ f1_ f2_ f3_
  obtain ⟨s0, s1, s2, s3⟩ := hs
  have HS0 := Aside0.mk s0
  clear s0
  have HS1 := Aside0.mk s1
  clear s1
  have HS2 := Aside0.mk s2
  clear s2
  have HS3 := Aside0.mk s3
  clear s3
  clear h
  have HB := Aside0.mk (Below.refl w.heap.size w)
  go_enter Try.func86, Try.ntmps86
  go_wp2_with (first | (go_at_call 114; (with_reducible refine (toGateS.calls _ _ _ (HK0.out.below (by with_reducible repeat (first | refine below_set ?_ (by omega) | apply below_alloc | exact HB.out))) HS0.out).mono ?_); rintro e w0 ⟨v0, rfl, hR, hb⟩; have HL0 := Aside0.mk hb; obtain ⟨B0, d0, rfl⟩ := Kd.R_slice hR; obtain ⟨hcw0, hfw0⟩ := bcell hb; have hzw0_0 : w.heap.size < w0.heap.size := (by have := hb.size; (try simp at this); omega); have hzw0_1 : w.heap.size + 1 < w0.heap.size := (by have := hb.size; (try simp at this); omega); have hzw0_2 : w.heap.size + 2 < w0.heap.size := (by have := hb.size; (try simp at this); omega); have HR0 := Aside0.mk hR; have HB' := Aside0.mk (bstep (w := w) (by with_reducible repeat (first | refine below_set ?_ (by omega) | apply below_alloc | exact HB.out)) hb); clear HB hb hR; have HB := HB'; clear HB') | (go_at_call 63; (with_reducible refine (toIntS.calls _ _ _ (HK1.out.below (by with_reducible repeat (first | refine below_set ?_ (by omega) | apply below_alloc | exact HB.out))) HS1.out).mono ?_); rintro e w1 ⟨v1, rfl, hR, hb⟩; have HL1 := Aside0.mk hb; obtain ⟨B1, d1, rfl⟩ := Kd.R_slice hR; obtain ⟨hcw1, hfw1⟩ := bcell hb; have hzw1_0 : w.heap.size < w1.heap.size := (by have := hb.size; (try simp at this); omega); have hzw1_1 : w.heap.size + 1 < w1.heap.size := (by have := hb.size; (try simp at this); omega); have hzw1_2 : w.heap.size + 2 < w1.heap.size := (by have := hb.size; (try simp at this); omega); have HR1 := Aside0.mk hR; have HB' := Aside0.mk (bstep (w := w) (by with_reducible repeat (first | refine below_set ?_ (by omega) | apply below_alloc | exact HB.out)) hb); clear HB hb hR; have HB := HB'; clear HB') | (go_at_call 85; (with_reducible refine (toCoreS.calls _ _ _ (HK2.out.below (by with_reducible repeat (first | refine below_set ?_ (by omega) | apply below_alloc | exact HB.out))) HS2.out).mono ?_); rintro e w2 ⟨v2, rfl, hR, hb⟩; have HL2 := Aside0.mk hb; obtain ⟨B2, d2, rfl⟩ := Kd.R_slice hR; obtain ⟨hcw2, hfw2⟩ := bcell hb; have hzw2_0 : w.heap.size < w2.heap.size := (by have := hb.size; (try simp at this); omega); have hzw2_1 : w.heap.size + 1 < w2.heap.size := (by have := hb.size; (try simp at this); omega); have hzw2_2 : w.heap.size + 2 < w2.heap.size := (by have := hb.size; (try simp at this); omega); have HR2 := Aside0.mk hR; have HB' := Aside0.mk (bstep (w := w) (by with_reducible repeat (first | refine below_set ?_ (by omega) | apply below_alloc | exact HB.out)) hb); clear HB hb hR; have HB := HB'; clear HB') | (go_at_call 130; (with_reducible refine (toBoolS.calls _ _ _ (HK3.out.below (by with_reducible repeat (first | refine below_set ?_ (by omega) | apply below_alloc | exact HB.out))) HS3.out).mono ?_); rintro e w3 ⟨v3, rfl, hR, hb⟩; have HL3 := Aside0.mk hb; obtain ⟨B3, d3, rfl⟩ := Kd.R_slice hR; obtain ⟨hcw3, hfw3⟩ := bcell hb; have hzw3_0 : w.heap.size < w3.heap.size := (by have := hb.size; (try simp at this); omega); have hzw3_1 : w.heap.size + 1 < w3.heap.size := (by have := hb.size; (try simp at this); omega); have hzw3_2 : w.heap.size + 2 < w3.heap.size := (by have := hb.size; (try simp at this); omega); have HR3 := Aside0.mk hR; have HB' := Aside0.mk (bstep (w := w) (by with_reducible repeat (first | refine below_set ?_ (by omega) | apply below_alloc | exact HB.out)) hb); clear HB hb hR; have HB := HB'; clear HB'))
  refine bodyPost_ret (v := .agg #[.slice B0 x.Gates.length d0, .slice B1 x.Ready.length d1, .slice B2 x.Saved.length d2, .slice B3 x.Over.length d3]) (by simp [results, Try.results86, go_sem, hcw0, hcw1, hcw2, hcw3, hfw0, hfw1, hfw2, hfw3, hzw0_0, hzw0_1, hzw0_2, hzw1_0, hzw1_1, hzw1_2, hzw2_0, hzw2_1, hzw2_2, hzw3_0, hzw3_1, hzw3_2]) rfl ⟨_, rfl, kKernel_mkM _ _ x _ (Kd.R_lower (R_kept (lo := w.heap.size + 3) HR0.out (by first | omega | (simp <;> omega)) (by with_reducible repeat (first | refine Kept.set ?_ (by simp) _ | exact Kept.refl _ _ | refine Kept.below ?_ HL1.out | refine Kept.below ?_ HL2.out | refine Kept.below ?_ HL3.out))) (by first | omega | (simp <;> omega))) _ (Kd.R_lower (R_kept (lo := w.heap.size + 3) HR1.out (by first | omega | (simp <;> omega)) (by with_reducible repeat (first | refine Kept.set ?_ (by simp) _ | exact Kept.refl _ _ | refine Kept.below ?_ HL2.out | refine Kept.below ?_ HL3.out))) (by first | omega | (simp <;> omega))) _ (Kd.R_lower (R_kept (lo := w.heap.size + 3) HR2.out (by first | omega | (simp <;> omega)) (by with_reducible repeat (first | refine Kept.set ?_ (by simp) _ | exact Kept.refl _ _ | refine Kept.below ?_ HL3.out))) (by first | omega | (simp <;> omega))) _ (Kd.R_lower (R_kept (lo := w.heap.size + 3) HR3.out (by first | omega | (simp <;> omega)) (by with_reducible repeat (first | refine Kept.set ?_ (by simp) _ | exact Kept.refl _ _))) (by first | omega | (simp <;> omega))), ?_⟩
  with_reducible repeat (first | refine below_set ?_ (by omega) | apply below_alloc | exact HB.out)
set_option maxHeartbeats 4000000 in
set_option maxRecDepth 100000 in
theorem eqKernel.calls (w : World) (x : TKernel) (cs ds : List Value) (h : kKernel.K w x cs) (h' : kKernel.K w x ds) :
    Calls Try.prog 89 #[.agg cs.toArray, .agg ds.toArray] w fun e w' => e = .returned (.bool true) ∧ Below w.heap.size w w' := by
  obtain ⟨A0, c0, A1, c1, A2, c2, A3, c3, rfl, f0_, f1_, f2_, f3_⟩ := kKernel_open h
  have HK0 := Aside0.mk f0_
  have HK1 := Aside0.mk f1_
  have HK2 := Aside0.mk f2_
  have HK3 := Aside0.mk f3_
  clear f0_ f1_ f2_ f3_
  obtain ⟨B0, d0, B1, d1, B2, d2, B3, d3, rfl, q0_, q1_, q2_, q3_⟩ := kKernel_open h'
  have HL0 := Aside0.mk q0_
  have HL1 := Aside0.mk q1_
  have HL2 := Aside0.mk q2_
  have HL3 := Aside0.mk q3_
  clear q0_ q1_ q2_ q3_
  clear h h'
  have HB := Aside0.mk (below_alloc (below_alloc (Below.refl w.heap.size w) (.cells #[.slice A0 x.Gates.length c0, .slice A1 x.Ready.length c1, .slice A2 x.Saved.length c2, .slice A3 x.Over.length c3] 70 (0, 0))) (.cells #[.slice B0 x.Gates.length d0, .slice B1 x.Ready.length d1, .slice B2 x.Saved.length d2, .slice B3 x.Over.length d3] 70 (0, 0)))
  go_enter Try.func89, Try.ntmps89
  go_wp2_with (first | (go_at_call 119; (with_reducible refine (eqGateS.calls _ _ _ _ (HK0.out.below HB.out) (HL0.out.below HB.out)).mono ?_); rintro e w0 ⟨rfl, hb⟩; obtain ⟨hcw0, hfw0⟩ := bcell hb; have hzw0_0 : w.heap.size < w0.heap.size := (by have := hb.size; (try simp at this); omega); have hzw0_1 : w.heap.size + 1 < w0.heap.size := (by have := hb.size; (try simp at this); omega); have HB' := Aside0.mk (bstep HB.out hb); clear HB hb; have HB := HB'; clear HB') | (go_at_call 65; (with_reducible refine (eqIntS.calls _ _ _ _ (HK1.out.below HB.out) (HL1.out.below HB.out)).mono ?_); rintro e w1 ⟨rfl, hb⟩; obtain ⟨hcw1, hfw1⟩ := bcell hb; have hzw1_0 : w.heap.size < w1.heap.size := (by have := hb.size; (try simp at this); omega); have hzw1_1 : w.heap.size + 1 < w1.heap.size := (by have := hb.size; (try simp at this); omega); have HB' := Aside0.mk (bstep HB.out hb); clear HB hb; have HB := HB'; clear HB') | (go_at_call 88; (with_reducible refine (eqCoreS.calls _ _ _ _ (HK2.out.below HB.out) (HL2.out.below HB.out)).mono ?_); rintro e w2 ⟨rfl, hb⟩; obtain ⟨hcw2, hfw2⟩ := bcell hb; have hzw2_0 : w.heap.size < w2.heap.size := (by have := hb.size; (try simp at this); omega); have hzw2_1 : w.heap.size + 1 < w2.heap.size := (by have := hb.size; (try simp at this); omega); have HB' := Aside0.mk (bstep HB.out hb); clear HB hb; have HB := HB'; clear HB') | (go_at_call 132; (with_reducible refine (eqBoolS.calls _ _ _ _ (HK3.out.below HB.out) (HL3.out.below HB.out)).mono ?_); rintro e w3 ⟨rfl, hb⟩; obtain ⟨hcw3, hfw3⟩ := bcell hb; have hzw3_0 : w.heap.size < w3.heap.size := (by have := hb.size; (try simp at this); omega); have hzw3_1 : w.heap.size + 1 < w3.heap.size := (by have := hb.size; (try simp at this); omega); have HB' := Aside0.mk (bstep HB.out hb); clear HB hb; have HB := HB'; clear HB'))
  go_ret
  exact ⟨rfl, HB.out⟩
structure TMachine where
  Image : TImage
  Mem : List Int
  Cores : List TCore
  Kernel : TKernel
  Input : List Int
  Events : List TEvent
  Stopped : Bool
instance : Inhabited TMachine := ⟨⟨⟨[], [], 0⟩, [], [], ⟨[], [], [], []⟩, [], [], false⟩⟩
def kMachine : Kd TMachine := Kd.iso (Kd.pair kImage (Kd.pair (Kd.slice 3 (Kd.int .i64)) (Kd.pair (Kd.slice 154 kCore) (Kd.pair kKernel (Kd.pair (Kd.slice 3 (Kd.int .i64)) (Kd.pair (Kd.slice 109 kEvent) Kd.bool)))))) (fun x => (x.Image, x.Mem, x.Cores, x.Kernel, x.Input, x.Events, x.Stopped))
theorem kMachine_sz : kMachine.sz = 12 := rfl
theorem kMachine_open {w : World} {x : TMachine} {cs : List Value} (h : kMachine.K w x cs) : ∃ A0 c0 A1 c1 A2 c2 A3 c3 A4 c4 A5 c5 A6 c6 A7 c7 A8 c8 A9 c9, cs = [.slice A0 x.Image.Text.length c0, .slice A1 x.Image.Starts.length c1, .int .i64 x.Image.Size, .slice A2 x.Mem.length c2, .slice A3 x.Cores.length c3, .slice A4 x.Kernel.Gates.length c4, .slice A5 x.Kernel.Ready.length c5, .slice A6 x.Kernel.Saved.length c6, .slice A7 x.Kernel.Over.length c7, .slice A8 x.Input.length c8, .slice A9 x.Events.length c9, .bool x.Stopped] ∧ kImage.K w x.Image [.slice A0 x.Image.Text.length c0, .slice A1 x.Image.Starts.length c1, .int .i64 x.Image.Size] ∧ SK (Kd.int .i64) w x.Mem (.slice A2 x.Mem.length c2) ∧ SK kCore w x.Cores (.slice A3 x.Cores.length c3) ∧ kKernel.K w x.Kernel [.slice A4 x.Kernel.Gates.length c4, .slice A5 x.Kernel.Ready.length c5, .slice A6 x.Kernel.Saved.length c6, .slice A7 x.Kernel.Over.length c7] ∧ SK (Kd.int .i64) w x.Input (.slice A8 x.Input.length c8) ∧ SK kEvent w x.Events (.slice A9 x.Events.length c9) := by
  obtain ⟨_, _, rfl, g0, _, _, rfl, ⟨A2, c2, rfl, l2, C2⟩, _, _, rfl, ⟨A3, c3, rfl, l3, C3⟩, _, _, rfl, g3, _, _, rfl, ⟨A8, c8, rfl, l8, C8⟩, _, _, rfl, ⟨A9, c9, rfl, l9, C9⟩, rfl⟩ := h
  have k0 := g0
  obtain ⟨A0, c0, A1, c1, rfl, _⟩ := kImage_open g0
  have k3 := g3
  obtain ⟨A4, c4, A5, c5, A6, c6, A7, c7, rfl, _⟩ := kKernel_open g3
  exact ⟨A0, c0, A1, c1, A2, c2, A3, c3, A4, c4, A5, c5, A6, c6, A7, c7, A8, c8, A9, c9, rfl, k0, ⟨A2, c2, rfl, l2, C2⟩, ⟨A3, c3, rfl, l3, C3⟩, k3, ⟨A8, c8, rfl, l8, C8⟩, ⟨A9, c9, rfl, l9, C9⟩⟩
theorem kMachine_mkM (w : World) (base : Nat) (x : TMachine) (v0 v1 v2 : Value) (h0 : kImage.M w base (fun _ => True) x.Image [v0, v1, v2]) (v3 : Value) (h3 : Kd.R (Kd.int .i64) 3 w base (fun _ => True) v3 x.Mem) (v4 : Value) (h4 : Kd.R kCore 154 w base (fun _ => True) v4 x.Cores) (v5 v6 v7 v8 : Value) (h5 : kKernel.M w base (fun _ => True) x.Kernel [v5, v6, v7, v8]) (v9 : Value) (h9 : Kd.R (Kd.int .i64) 3 w base (fun _ => True) v9 x.Input) (v10 : Value) (h10 : Kd.R kEvent 109 w base (fun _ => True) v10 x.Events) : kMachine.M w base (fun _ => True) x [v0, v1, v2, v3, v4, v5, v6, v7, v8, v9, v10, .bool x.Stopped] :=
  ⟨[v0, v1, v2], _, rfl, h0, ⟨[v3], _, rfl, ⟨v3, rfl, h3⟩, ⟨[v4], _, rfl, ⟨v4, rfl, h4⟩, ⟨[v5, v6, v7, v8], _, rfl, h5, ⟨[v9], _, rfl, ⟨v9, rfl, h9⟩, ⟨[v10], _, rfl, ⟨v10, rfl, h10⟩, rfl⟩⟩⟩⟩⟩⟩
theorem kMachine_zM (w : World) (base : Nat) : kMachine.M w base (fun _ => True) ⟨⟨[], [], 0⟩, [], [], ⟨[], [], [], []⟩, [], [], false⟩ [.slice none 0 0, .slice none 0 0, .int .i64 0, .slice none 0 0, .slice none 0 0, .slice none 0 0, .slice none 0 0, .slice none 0 0, .slice none 0 0, .slice none 0 0, .slice none 0 0, .bool false] := kMachine_mkM w base ⟨⟨[], [], 0⟩, [], [], ⟨[], [], [], []⟩, [], [], false⟩ _ _ _ (kImage_zM _ _) _ (Kd.R_nil _ _ _ _ _) _ (Kd.R_nil _ _ _ _ _) _ _ _ _ (kKernel_zM _ _) _ (Kd.R_nil _ _ _ _ _) _ (Kd.R_nil _ _ _ _ _)
def wfMachine (x : TMachine) : Prop := wfImage x.Image ∧ (∀ y ∈ x.Mem, (Lit.int .i64 y).wf = true) ∧ (∀ y ∈ x.Cores, wfCore y) ∧ wfKernel x.Kernel ∧ (∀ y ∈ x.Input, (Lit.int .i64 y).wf = true) ∧ (∀ y ∈ x.Events, wfEvent y) ∧ True
def smMachine (x : TMachine) : Prop := smImage x.Image ∧ x.Mem.length ≤ 1048576 ∧ (x.Cores.length ≤ 1048576 ∧ ∀ y ∈ x.Cores, smCore y) ∧ smKernel x.Kernel ∧ x.Input.length ≤ 1048576 ∧ x.Events.length ≤ 1048576
set_option maxHeartbeats 2000000 in
theorem szMachine.calls (w : World) (x : TMachine) (cs : List Value) (left : Int) (h : kMachine.K w x cs) (h0 : 0 ≤ left) (h1 : left ≤ 1048576) :
    Calls Try.prog 40 #[.agg cs.toArray, .int .i64 left] w (SzPost left (smMachine x) w) := by
  obtain ⟨A0, c0, A1, c1, A2, c2, A3, c3, A4, c4, A5, c5, A6, c6, A7, c7, A8, c8, A9, c9, rfl, f0_, f1_, f2_, f3_, f4_, f5_⟩ := kMachine_open h
  have HK0 := Aside0.mk f0_
  have HK1 := Aside0.mk f1_
  have HK2 := Aside0.mk f2_
  have HK3 := Aside0.mk f3_
  have HK4 := Aside0.mk f4_
  have HK5 := Aside0.mk f5_
  clear f0_ f1_ f2_ f3_ f4_ f5_
  have HB := Aside0.mk (below_alloc (Below.refl w.heap.size w) (.cells #[.slice A0 x.Image.Text.length c0, .slice A1 x.Image.Starts.length c1, .int .i64 x.Image.Size, .slice A2 x.Mem.length c2, .slice A3 x.Cores.length c3, .slice A4 x.Kernel.Gates.length c4, .slice A5 x.Kernel.Ready.length c5, .slice A6 x.Kernel.Saved.length c6, .slice A7 x.Kernel.Over.length c7, .slice A8 x.Input.length c8, .slice A9 x.Events.length c9, .bool x.Stopped] 63 (0, 0)))
  clear h
  go_enter Try.func40, Try.ntmps40
  go_wp2_with (first | (go_at_call 81; (with_reducible refine (szImage.calls _ _ _ _ (kImage.K_below HB.out HK0.out) (by omega) (by omega)).mono ?_); rintro e w0 ⟨r, rfl, ⟨g1, g2, g3⟩, hb⟩; obtain ⟨hcw0, hfw0⟩ := bcell hb; have hzw0_0 : w.heap.size < w0.heap.size := (by have := hb.size; (try simp at this); omega); have HS0 := Aside0.mk g3; have HB' := Aside0.mk (bstep HB.out hb); clear HB hb g3; have HB := HB'; clear HB') | (go_at_call_of 61 (Value.slice A2 x.Mem.length c2); (with_reducible refine (szIntS.calls _ _ _ _ (HK1.out.below HB.out) (by omega) (by omega)).mono ?_); rintro e w1 ⟨r, rfl, ⟨g1, g2, g3⟩, hb⟩; obtain ⟨hcw1, hfw1⟩ := bcell hb; have hzw1_0 : w.heap.size < w1.heap.size := (by have := hb.size; (try simp at this); omega); have HS1 := Aside0.mk g3; have HB' := Aside0.mk (bstep HB.out hb); clear HB hb g3; have HB := HB'; clear HB') | (go_at_call 82; (with_reducible refine (szCoreS.calls _ _ _ _ (HK2.out.below HB.out) (by omega) (by omega)).mono ?_); rintro e w2 ⟨r, rfl, ⟨g1, g2, g3⟩, hb⟩; obtain ⟨hcw2, hfw2⟩ := bcell hb; have hzw2_0 : w.heap.size < w2.heap.size := (by have := hb.size; (try simp at this); omega); have HS2 := Aside0.mk g3; have HB' := Aside0.mk (bstep HB.out hb); clear HB hb g3; have HB := HB'; clear HB') | (go_at_call 83; (with_reducible refine (szKernel.calls _ _ _ _ (kKernel.K_below HB.out HK3.out) (by omega) (by omega)).mono ?_); rintro e w3 ⟨r, rfl, ⟨g1, g2, g3⟩, hb⟩; obtain ⟨hcw3, hfw3⟩ := bcell hb; have hzw3_0 : w.heap.size < w3.heap.size := (by have := hb.size; (try simp at this); omega); have HS3 := Aside0.mk g3; have HB' := Aside0.mk (bstep HB.out hb); clear HB hb g3; have HB := HB'; clear HB') | (go_at_call_of 61 (Value.slice A8 x.Input.length c8); (with_reducible refine (szIntS.calls _ _ _ _ (HK4.out.below HB.out) (by omega) (by omega)).mono ?_); rintro e w4 ⟨r, rfl, ⟨g1, g2, g3⟩, hb⟩; obtain ⟨hcw4, hfw4⟩ := bcell hb; have hzw4_0 : w.heap.size < w4.heap.size := (by have := hb.size; (try simp at this); omega); have HS4 := Aside0.mk g3; have HB' := Aside0.mk (bstep HB.out hb); clear HB hb g3; have HB := HB'; clear HB') | (go_at_call 12; (with_reducible refine (szEventS.calls _ _ _ _ (HK5.out.below HB.out) (by omega) (by omega)).mono ?_); rintro e w5 ⟨r, rfl, ⟨g1, g2, g3⟩, hb⟩; obtain ⟨hcw5, hfw5⟩ := bcell hb; have hzw5_0 : w.heap.size < w5.heap.size := (by have := hb.size; (try simp at this); omega); have HS5 := Aside0.mk g3; have HB' := Aside0.mk (bstep HB.out hb); clear HB hb g3; have HB := HB'; clear HB'))
  all_goals
    go_ret
    first
      | exact ⟨_, rfl, ⟨by omega, by omega, fun h => ⟨HS0.out (by omega), HS1.out (by omega), HS2.out (by omega), HS3.out (by omega), HS4.out (by omega), HS5.out (by omega)⟩⟩, HB.out⟩
      | exact ⟨_, rfl, ⟨by omega, by omega, fun h => absurd h (by omega)⟩, HB.out⟩
set_option maxHeartbeats 4000000 in
set_option maxRecDepth 100000 in
theorem toMachine.calls (w : World) (x : TMachine) (cs : List Value) (h : kMachine.K w x cs) (hs : smMachine x) :
    Calls Try.prog 42 #[.agg cs.toArray] w (NewM kMachine x w) := by
  obtain ⟨A0, c0, A1, c1, A2, c2, A3, c3, A4, c4, A5, c5, A6, c6, A7, c7, A8, c8, A9, c9, rfl, f0_, f1_, f2_, f3_, f4_, f5_⟩ := kMachine_open h
  have HK0 := Aside0.mk f0_
  have HK1 := Aside0.mk f1_
  have HK2 := Aside0.mk f2_
  have HK3 := Aside0.mk f3_
  have HK4 := Aside0.mk f4_
  have HK5 := Aside0.mk f5_
  clear f0_ f1_ f2_ f3_ f4_ f5_
  obtain ⟨s0, s1, s2, s3, s4, s5⟩ := hs
  have HS0 := Aside0.mk s0
  clear s0
  have HS1 := Aside0.mk s1
  clear s1
  have HS2 := Aside0.mk s2
  clear s2
  have HS3 := Aside0.mk s3
  clear s3
  have HS4 := Aside0.mk s4
  clear s4
  have HS5 := Aside0.mk s5
  clear s5
  clear h
  have HB := Aside0.mk (Below.refl w.heap.size w)
  go_enter Try.func42, Try.ntmps42
  go_wp2_with (first | (go_at_call 84; (with_reducible refine (toImage.calls _ _ _ (kImage.K_below (by with_reducible repeat (first | refine below_set ?_ (by omega) | apply below_alloc | exact HB.out)) HK0.out) HS0.out).mono ?_); rintro e w0 ⟨ds, rfl, hM, hb⟩; have HL0 := Aside0.mk hb; obtain ⟨B0_0, d0_0, B0_1, d0_1, rfl, _⟩ := kImage_open (kImage.K_of_M hM); obtain ⟨hcw0, hfw0⟩ := bcell hb; have hzw0_0 : w.heap.size < w0.heap.size := (by have := hb.size; (try simp at this); omega); have hzw0_1 : w.heap.size + 1 < w0.heap.size := (by have := hb.size; (try simp at this); omega); have hzw0_2 : w.heap.size + 2 < w0.heap.size := (by have := hb.size; (try simp at this); omega); have HR0 := Aside0.mk hM; have HB' := Aside0.mk (bstep (w := w) (by with_reducible repeat (first | refine below_set ?_ (by omega) | apply below_alloc | exact HB.out)) hb); clear HB hb hM; have HB := HB'; clear HB') | (go_at_call_of 63 (Value.slice A2 x.Mem.length c2); (with_reducible refine (toIntS.calls _ _ _ (HK1.out.below (by with_reducible repeat (first | refine below_set ?_ (by omega) | apply below_alloc | exact HB.out))) HS1.out).mono ?_); rintro e w1 ⟨v1, rfl, hR, hb⟩; have HL1 := Aside0.mk hb; obtain ⟨B1, d1, rfl⟩ := Kd.R_slice hR; obtain ⟨hcw1, hfw1⟩ := bcell hb; have hzw1_0 : w.heap.size < w1.heap.size := (by have := hb.size; (try simp at this); omega); have hzw1_1 : w.heap.size + 1 < w1.heap.size := (by have := hb.size; (try simp at this); omega); have hzw1_2 : w.heap.size + 2 < w1.heap.size := (by have := hb.size; (try simp at this); omega); have HR1 := Aside0.mk hR; have HB' := Aside0.mk (bstep (w := w) (by with_reducible repeat (first | refine below_set ?_ (by omega) | apply below_alloc | exact HB.out)) hb); clear HB hb hR; have HB := HB'; clear HB') | (go_at_call 85; (with_reducible refine (toCoreS.calls _ _ _ (HK2.out.below (by with_reducible repeat (first | refine below_set ?_ (by omega) | apply below_alloc | exact HB.out))) HS2.out).mono ?_); rintro e w2 ⟨v2, rfl, hR, hb⟩; have HL2 := Aside0.mk hb; obtain ⟨B2, d2, rfl⟩ := Kd.R_slice hR; obtain ⟨hcw2, hfw2⟩ := bcell hb; have hzw2_0 : w.heap.size < w2.heap.size := (by have := hb.size; (try simp at this); omega); have hzw2_1 : w.heap.size + 1 < w2.heap.size := (by have := hb.size; (try simp at this); omega); have hzw2_2 : w.heap.size + 2 < w2.heap.size := (by have := hb.size; (try simp at this); omega); have HR2 := Aside0.mk hR; have HB' := Aside0.mk (bstep (w := w) (by with_reducible repeat (first | refine below_set ?_ (by omega) | apply below_alloc | exact HB.out)) hb); clear HB hb hR; have HB := HB'; clear HB') | (go_at_call 86; (with_reducible refine (toKernel.calls _ _ _ (kKernel.K_below (by with_reducible repeat (first | refine below_set ?_ (by omega) | apply below_alloc | exact HB.out)) HK3.out) HS3.out).mono ?_); rintro e w3 ⟨ds, rfl, hM, hb⟩; have HL3 := Aside0.mk hb; obtain ⟨B3_0, d3_0, B3_1, d3_1, B3_2, d3_2, B3_3, d3_3, rfl, _⟩ := kKernel_open (kKernel.K_of_M hM); obtain ⟨hcw3, hfw3⟩ := bcell hb; have hzw3_0 : w.heap.size < w3.heap.size := (by have := hb.size; (try simp at this); omega); have hzw3_1 : w.heap.size + 1 < w3.heap.size := (by have := hb.size; (try simp at this); omega); have hzw3_2 : w.heap.size + 2 < w3.heap.size := (by have := hb.size; (try simp at this); omega); have HR3 := Aside0.mk hM; have HB' := Aside0.mk (bstep (w := w) (by with_reducible repeat (first | refine below_set ?_ (by omega) | apply below_alloc | exact HB.out)) hb); clear HB hb hM; have HB := HB'; clear HB') | (go_at_call_of 63 (Value.slice A8 x.Input.length c8); (with_reducible refine (toIntS.calls _ _ _ (HK4.out.below (by with_reducible repeat (first | refine below_set ?_ (by omega) | apply below_alloc | exact HB.out))) HS4.out).mono ?_); rintro e w4 ⟨v4, rfl, hR, hb⟩; have HL4 := Aside0.mk hb; obtain ⟨B4, d4, rfl⟩ := Kd.R_slice hR; obtain ⟨hcw4, hfw4⟩ := bcell hb; have hzw4_0 : w.heap.size < w4.heap.size := (by have := hb.size; (try simp at this); omega); have hzw4_1 : w.heap.size + 1 < w4.heap.size := (by have := hb.size; (try simp at this); omega); have hzw4_2 : w.heap.size + 2 < w4.heap.size := (by have := hb.size; (try simp at this); omega); have HR4 := Aside0.mk hR; have HB' := Aside0.mk (bstep (w := w) (by with_reducible repeat (first | refine below_set ?_ (by omega) | apply below_alloc | exact HB.out)) hb); clear HB hb hR; have HB := HB'; clear HB') | (go_at_call 14; (with_reducible refine (toEventS.calls _ _ _ (HK5.out.below (by with_reducible repeat (first | refine below_set ?_ (by omega) | apply below_alloc | exact HB.out))) HS5.out).mono ?_); rintro e w5 ⟨v5, rfl, hR, hb⟩; have HL5 := Aside0.mk hb; obtain ⟨B5, d5, rfl⟩ := Kd.R_slice hR; obtain ⟨hcw5, hfw5⟩ := bcell hb; have hzw5_0 : w.heap.size < w5.heap.size := (by have := hb.size; (try simp at this); omega); have hzw5_1 : w.heap.size + 1 < w5.heap.size := (by have := hb.size; (try simp at this); omega); have hzw5_2 : w.heap.size + 2 < w5.heap.size := (by have := hb.size; (try simp at this); omega); have HR5 := Aside0.mk hR; have HB' := Aside0.mk (bstep (w := w) (by with_reducible repeat (first | refine below_set ?_ (by omega) | apply below_alloc | exact HB.out)) hb); clear HB hb hR; have HB := HB'; clear HB'))
  refine bodyPost_ret (v := .agg #[.slice B0_0 x.Image.Text.length d0_0, .slice B0_1 x.Image.Starts.length d0_1, .int .i64 x.Image.Size, .slice B1 x.Mem.length d1, .slice B2 x.Cores.length d2, .slice B3_0 x.Kernel.Gates.length d3_0, .slice B3_1 x.Kernel.Ready.length d3_1, .slice B3_2 x.Kernel.Saved.length d3_2, .slice B3_3 x.Kernel.Over.length d3_3, .slice B4 x.Input.length d4, .slice B5 x.Events.length d5, .bool x.Stopped]) (by simp [results, Try.results42, go_sem, hcw0, hcw1, hcw2, hcw3, hcw4, hcw5, hfw0, hfw1, hfw2, hfw3, hfw4, hfw5, hzw0_0, hzw0_1, hzw0_2, hzw1_0, hzw1_1, hzw1_2, hzw2_0, hzw2_1, hzw2_2, hzw3_0, hzw3_1, hzw3_2, hzw4_0, hzw4_1, hzw4_2, hzw5_0, hzw5_1, hzw5_2]) rfl ⟨_, rfl, kMachine_mkM _ _ x _ _ _ (kImage.M_lower (by first | omega | (simp <;> omega)) (M_kept (lo := w.heap.size + 3) HR0.out (by first | omega | (simp <;> omega)) (by with_reducible repeat (first | refine Kept.set ?_ (by simp) _ | exact Kept.refl _ _ | refine Kept.below ?_ HL1.out | refine Kept.below ?_ HL2.out | refine Kept.below ?_ HL3.out | refine Kept.below ?_ HL4.out | refine Kept.below ?_ HL5.out)))) _ (Kd.R_lower (R_kept (lo := w.heap.size + 3) HR1.out (by first | omega | (simp <;> omega)) (by with_reducible repeat (first | refine Kept.set ?_ (by simp) _ | exact Kept.refl _ _ | refine Kept.below ?_ HL2.out | refine Kept.below ?_ HL3.out | refine Kept.below ?_ HL4.out | refine Kept.below ?_ HL5.out))) (by first | omega | (simp <;> omega))) _ (Kd.R_lower (R_kept (lo := w.heap.size + 3) HR2.out (by first | omega | (simp <;> omega)) (by with_reducible repeat (first | refine Kept.set ?_ (by simp) _ | exact Kept.refl _ _ | refine Kept.below ?_ HL3.out | refine Kept.below ?_ HL4.out | refine Kept.below ?_ HL5.out))) (by first | omega | (simp <;> omega))) _ _ _ _ (kKernel.M_lower (by first | omega | (simp <;> omega)) (M_kept (lo := w.heap.size + 3) HR3.out (by first | omega | (simp <;> omega)) (by with_reducible repeat (first | refine Kept.set ?_ (by simp) _ | exact Kept.refl _ _ | refine Kept.below ?_ HL4.out | refine Kept.below ?_ HL5.out)))) _ (Kd.R_lower (R_kept (lo := w.heap.size + 3) HR4.out (by first | omega | (simp <;> omega)) (by with_reducible repeat (first | refine Kept.set ?_ (by simp) _ | exact Kept.refl _ _ | refine Kept.below ?_ HL5.out))) (by first | omega | (simp <;> omega))) _ (Kd.R_lower (R_kept (lo := w.heap.size + 3) HR5.out (by first | omega | (simp <;> omega)) (by with_reducible repeat (first | refine Kept.set ?_ (by simp) _ | exact Kept.refl _ _))) (by first | omega | (simp <;> omega))), ?_⟩
  with_reducible repeat (first | refine below_set ?_ (by omega) | apply below_alloc | exact HB.out)
set_option maxHeartbeats 4000000 in
set_option maxRecDepth 100000 in
theorem eqMachine.calls (w : World) (x : TMachine) (cs ds : List Value) (h : kMachine.K w x cs) (h' : kMachine.K w x ds) :
    Calls Try.prog 44 #[.agg cs.toArray, .agg ds.toArray] w fun e w' => e = .returned (.bool true) ∧ Below w.heap.size w w' := by
  obtain ⟨A0, c0, A1, c1, A2, c2, A3, c3, A4, c4, A5, c5, A6, c6, A7, c7, A8, c8, A9, c9, rfl, f0_, f1_, f2_, f3_, f4_, f5_⟩ := kMachine_open h
  have HK0 := Aside0.mk f0_
  have HK1 := Aside0.mk f1_
  have HK2 := Aside0.mk f2_
  have HK3 := Aside0.mk f3_
  have HK4 := Aside0.mk f4_
  have HK5 := Aside0.mk f5_
  clear f0_ f1_ f2_ f3_ f4_ f5_
  obtain ⟨B0, d0, B1, d1, B2, d2, B3, d3, B4, d4, B5, d5, B6, d6, B7, d7, B8, d8, B9, d9, rfl, q0_, q1_, q2_, q3_, q4_, q5_⟩ := kMachine_open h'
  have HL0 := Aside0.mk q0_
  have HL1 := Aside0.mk q1_
  have HL2 := Aside0.mk q2_
  have HL3 := Aside0.mk q3_
  have HL4 := Aside0.mk q4_
  have HL5 := Aside0.mk q5_
  clear q0_ q1_ q2_ q3_ q4_ q5_
  clear h h'
  have HB := Aside0.mk (below_alloc (below_alloc (Below.refl w.heap.size w) (.cells #[.slice A0 x.Image.Text.length c0, .slice A1 x.Image.Starts.length c1, .int .i64 x.Image.Size, .slice A2 x.Mem.length c2, .slice A3 x.Cores.length c3, .slice A4 x.Kernel.Gates.length c4, .slice A5 x.Kernel.Ready.length c5, .slice A6 x.Kernel.Saved.length c6, .slice A7 x.Kernel.Over.length c7, .slice A8 x.Input.length c8, .slice A9 x.Events.length c9, .bool x.Stopped] 72 (0, 0))) (.cells #[.slice B0 x.Image.Text.length d0, .slice B1 x.Image.Starts.length d1, .int .i64 x.Image.Size, .slice B2 x.Mem.length d2, .slice B3 x.Cores.length d3, .slice B4 x.Kernel.Gates.length d4, .slice B5 x.Kernel.Ready.length d5, .slice B6 x.Kernel.Saved.length d6, .slice B7 x.Kernel.Over.length d7, .slice B8 x.Input.length d8, .slice B9 x.Events.length d9, .bool x.Stopped] 72 (0, 0)))
  go_enter Try.func44, Try.ntmps44
  go_wp2_with (first | (go_at_call 87; (with_reducible refine (eqImage.calls _ _ _ _ (kImage.K_below HB.out HK0.out) (kImage.K_below HB.out HL0.out)).mono ?_); rintro e w0 ⟨rfl, hb⟩; obtain ⟨hcw0, hfw0⟩ := bcell hb; have hzw0_0 : w.heap.size < w0.heap.size := (by have := hb.size; (try simp at this); omega); have hzw0_1 : w.heap.size + 1 < w0.heap.size := (by have := hb.size; (try simp at this); omega); have HB' := Aside0.mk (bstep HB.out hb); clear HB hb; have HB := HB'; clear HB') | (go_at_call_of 65 (Value.slice A2 x.Mem.length c2); (with_reducible refine (eqIntS.calls _ _ _ _ (HK1.out.below HB.out) (HL1.out.below HB.out)).mono ?_); rintro e w1 ⟨rfl, hb⟩; obtain ⟨hcw1, hfw1⟩ := bcell hb; have hzw1_0 : w.heap.size < w1.heap.size := (by have := hb.size; (try simp at this); omega); have hzw1_1 : w.heap.size + 1 < w1.heap.size := (by have := hb.size; (try simp at this); omega); have HB' := Aside0.mk (bstep HB.out hb); clear HB hb; have HB := HB'; clear HB') | (go_at_call 88; (with_reducible refine (eqCoreS.calls _ _ _ _ (HK2.out.below HB.out) (HL2.out.below HB.out)).mono ?_); rintro e w2 ⟨rfl, hb⟩; obtain ⟨hcw2, hfw2⟩ := bcell hb; have hzw2_0 : w.heap.size < w2.heap.size := (by have := hb.size; (try simp at this); omega); have hzw2_1 : w.heap.size + 1 < w2.heap.size := (by have := hb.size; (try simp at this); omega); have HB' := Aside0.mk (bstep HB.out hb); clear HB hb; have HB := HB'; clear HB') | (go_at_call 89; (with_reducible refine (eqKernel.calls _ _ _ _ (kKernel.K_below HB.out HK3.out) (kKernel.K_below HB.out HL3.out)).mono ?_); rintro e w3 ⟨rfl, hb⟩; obtain ⟨hcw3, hfw3⟩ := bcell hb; have hzw3_0 : w.heap.size < w3.heap.size := (by have := hb.size; (try simp at this); omega); have hzw3_1 : w.heap.size + 1 < w3.heap.size := (by have := hb.size; (try simp at this); omega); have HB' := Aside0.mk (bstep HB.out hb); clear HB hb; have HB := HB'; clear HB') | (go_at_call_of 65 (Value.slice A8 x.Input.length c8); (with_reducible refine (eqIntS.calls _ _ _ _ (HK4.out.below HB.out) (HL4.out.below HB.out)).mono ?_); rintro e w4 ⟨rfl, hb⟩; obtain ⟨hcw4, hfw4⟩ := bcell hb; have hzw4_0 : w.heap.size < w4.heap.size := (by have := hb.size; (try simp at this); omega); have hzw4_1 : w.heap.size + 1 < w4.heap.size := (by have := hb.size; (try simp at this); omega); have HB' := Aside0.mk (bstep HB.out hb); clear HB hb; have HB := HB'; clear HB') | (go_at_call 16; (with_reducible refine (eqEventS.calls _ _ _ _ (HK5.out.below HB.out) (HL5.out.below HB.out)).mono ?_); rintro e w5 ⟨rfl, hb⟩; obtain ⟨hcw5, hfw5⟩ := bcell hb; have hzw5_0 : w.heap.size < w5.heap.size := (by have := hb.size; (try simp at this); omega); have hzw5_1 : w.heap.size + 1 < w5.heap.size := (by have := hb.size; (try simp at this); omega); have HB' := Aside0.mk (bstep HB.out hb); clear HB hb; have HB := HB'; clear HB'))
  go_ret
  exact ⟨rfl, HB.out⟩
end Go.Proofs.Ytgeoipplkjgnfaa
