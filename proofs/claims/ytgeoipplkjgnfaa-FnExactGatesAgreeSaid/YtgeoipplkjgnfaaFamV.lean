/- Walks of the functions that measure, copy and compare models: what they come to when their arguments are read from memory. Printed by gen.py, this session's own program. -/
import Derived.Test.YtgeoipplkjgnfaaFamM
import Derived.Test.YtgeoipplkjgnfaaFamP
set_option linter.unusedSimpArgs false
set_option linter.unusedVariables false
namespace Go.Proofs.Ytgeoipplkjgnfaa
open Go.RowKit Go.Proofs.YtgeoipplkjgnfaaW.PrintWords Go.Proofs.Ytgeoipplkjgnfaa.Lib
structure TEnv where
  Names : List ByteArray
  Vals : List Int
instance : Inhabited TEnv := ⟨⟨[], []⟩⟩
def kEnv : Kd TEnv := Kd.iso (Kd.pair (Kd.slice 9 Kd.string) (Kd.slice 3 (Kd.int .i64))) (fun x => (x.Names, x.Vals))
theorem kEnv_sz : kEnv.sz = 2 := rfl
theorem kEnv_open {w : World} {x : TEnv} {cs : List Value} (h : kEnv.K w x cs) : ∃ A0 c0 A1 c1, cs = [.slice A0 x.Names.length c0, .slice A1 x.Vals.length c1] ∧ SK Kd.string w x.Names (.slice A0 x.Names.length c0) ∧ SK (Kd.int .i64) w x.Vals (.slice A1 x.Vals.length c1) := by
  obtain ⟨_, _, rfl, ⟨A0, c0, rfl, l0, C0⟩, ⟨A1, c1, rfl, l1, C1⟩⟩ := h
  exact ⟨A0, c0, A1, c1, rfl, ⟨A0, c0, rfl, l0, C0⟩, ⟨A1, c1, rfl, l1, C1⟩⟩
theorem kEnv_mkM (w : World) (base : Nat) (x : TEnv) (v0 : Value) (h0 : Kd.R Kd.string 9 w base (fun _ => True) v0 x.Names) (v1 : Value) (h1 : Kd.R (Kd.int .i64) 3 w base (fun _ => True) v1 x.Vals) : kEnv.M w base (fun _ => True) x [v0, v1] :=
  ⟨[v0], _, rfl, ⟨v0, rfl, h0⟩, ⟨v1, rfl, h1⟩⟩
theorem kEnv_zM (w : World) (base : Nat) : kEnv.M w base (fun _ => True) ⟨[], []⟩ [.slice none 0 0, .slice none 0 0] := kEnv_mkM w base ⟨[], []⟩ _ (Kd.R_nil _ _ _ _ _) _ (Kd.R_nil _ _ _ _ _)
def wfEnv (x : TEnv) : Prop := (∀ y ∈ x.Names, y.size ≤ 9223372036854775807) ∧ (∀ y ∈ x.Vals, (Lit.int .i64 y).wf = true)
def smEnv (x : TEnv) : Prop := (x.Names.length ≤ 1048576 ∧ ∀ y ∈ x.Names, y.size ≤ 1048576) ∧ x.Vals.length ≤ 1048576
set_option maxHeartbeats 2000000 in
theorem szEnv.calls (w : World) (x : TEnv) (cs : List Value) (left : Int) (h : kEnv.K w x cs) (hw : wfEnv x) (h0 : 0 ≤ left) (h1 : left ≤ 1048576) :
    Calls Try.prog 151 #[.agg cs.toArray, .int .i64 left] w (SzPost left (smEnv x) w) := by
  obtain ⟨A0, c0, A1, c1, rfl, f0_, f1_⟩ := kEnv_open h
  have HK0 := Aside0.mk f0_
  have HK1 := Aside0.mk f1_
  clear f0_ f1_
  obtain ⟨hw0, hw1⟩ := hw
  have HW0 := Aside0.mk hw0
  clear hw0
  clear hw1
  have HB := Aside0.mk (below_alloc (Below.refl w.heap.size w) (.cells #[.slice A0 x.Names.length c0, .slice A1 x.Vals.length c1] 205 (0, 0)))
  clear h
  go_enter Try.func151, Try.ntmps151
  go_wp2_with (first | (go_at_call 159; (with_reducible refine (szStringS.calls _ _ _ _ (HK0.out.below HB.out) HW0.out (by omega) (by omega)).mono ?_); rintro e w0 ⟨r, rfl, ⟨g1, g2, g3⟩, hb⟩; obtain ⟨hcw0, hfw0⟩ := bcell hb; have hzw0_0 : w.heap.size < w0.heap.size := (by have := hb.size; (try simp at this); omega); have HS0 := Aside0.mk g3; have HB' := Aside0.mk (bstep HB.out hb); clear HB hb g3; have HB := HB'; clear HB') | (go_at_call 61; (with_reducible refine (szIntS.calls _ _ _ _ (HK1.out.below HB.out) (by omega) (by omega)).mono ?_); rintro e w1 ⟨r, rfl, ⟨g1, g2, g3⟩, hb⟩; obtain ⟨hcw1, hfw1⟩ := bcell hb; have hzw1_0 : w.heap.size < w1.heap.size := (by have := hb.size; (try simp at this); omega); have HS1 := Aside0.mk g3; have HB' := Aside0.mk (bstep HB.out hb); clear HB hb g3; have HB := HB'; clear HB'))
  all_goals
    go_ret
    first
      | exact ⟨_, rfl, ⟨by omega, by omega, fun h => ⟨HS0.out (by omega), HS1.out (by omega)⟩⟩, HB.out⟩
      | exact ⟨_, rfl, ⟨by omega, by omega, fun h => absurd h (by omega)⟩, HB.out⟩
set_option maxHeartbeats 2000000 in
theorem szEnvS.calls (w : World) (xs : List TEnv) (v : Value) (left : Int) (h : SK kEnv w xs v) (hw : (∀ y ∈ xs, wfEnv y)) (h0 : 0 ≤ left) (h1 : left ≤ 1048576) :
    Calls Try.prog 111 #[v, .int .i64 left] w (SzPost left ((xs.length ≤ 1048576 ∧ ∀ y ∈ xs, smEnv y)) w) := by
  obtain ⟨A, c, rfl, _, hC⟩ := h
  have hn : xs.length ≤ 9223372036854775807 := hC.2.1
  have HW := Aside0.mk hw
  clear hw
  have HK := Aside0.mk hC
  clear hC
  go_enter Try.func111, Try.ntmps111
  by_cases hlen : (xs.length : Int) ≤ left
  · go_wp2
    go_loopw [1, 5] (fun l i wr => ∃ (r : Int) (k : Nat), l = .int .i64 r ∧ i = .int .i64 k ∧ k ≤ xs.length ∧ 0 ≤ r ∧ r ≤ left ∧ Aside0 (∀ y ∈ xs.take k, smEnv y) ∧ Aside0 (Below w.heap.size w wr)) (fun _ i _ => xs.length - (intOf i).toNat)
    case atStart => exact ⟨_, 0, rfl, rfl, by omega, by omega, by omega, ⟨by simp⟩, ⟨Below.refl _ _⟩⟩
    case round =>
      obtain ⟨r, k, rfl, rfl, hk, hr0, hr1, HS, HB⟩ := hrel
      by_cases hlt : k < xs.length
      · obtain ⟨ad, cs, e, _, hKe, hcell⟩ := Kd.C_get (Kd.C_below HK.out HB.out) ⟨[], []⟩ (k : Int) (by omega) (by omega)
        rw [show xs.getD ((k : Int)).toNat ⟨[], []⟩ = xs[k] by simp [List.getD, hlt]] at hKe
        have HKe := Aside0.mk hKe
        obtain ⟨A0, c0, A1, c1, rfl, _⟩ := kEnv_open hKe
        cases e
        have hc0 := hcell 0 _ rfl
        have hc1 := hcell 1 _ rfl
        simp only [Int.toNat_natCast, show kEnv.sz = 2 from rfl, add_field _ _ 1 (by omega), Nat.mul_one, Nat.add_zero] at hc0 hc1
        clear hcell hKe
        go_wp2_with (go_at_call 151; refine (szEnv.calls _ xs[k] _ _ HKe.out (HW.out _ (List.getElem_mem hlt)) (by omega) (by omega)).mono ?_; rintro e w1 ⟨r1, rfl, ⟨g1, g2, g3⟩, hb⟩; have HB1 := Aside0.mk (bstep HB.out hb); have HS1 := Aside0.mk g3; clear hb g3)
        · go_ret
          exact ⟨_, rfl, ⟨by omega, by omega, fun h => absurd h (by omega)⟩, HB1.out⟩
        · go_roundw
          case rel => exact ⟨_, k + 1, rfl, by go_num, by omega, by omega, by omega, ⟨fun y hy => by rw [List.take_succ_eq_append_getElem hlt] at hy; rcases List.mem_append.1 hy with hy | hy; exact HS.out y hy; rw [List.mem_singleton.1 hy]; exact HS1.out (by omega)⟩, HB1⟩
          case measure => simp [intOf]; omega
      · have e : k = xs.length := by omega
        subst e
        go_wp2
        go_ret
        exact ⟨_, rfl, ⟨by omega, by omega, fun _ => ⟨by omega, fun y hy => HS.out y (by rw [List.take_length]; exact hy)⟩⟩, HB.out⟩
  · go_wp2
    go_ret
    exact ⟨_, rfl, ⟨by omega, by omega, fun h => absurd h (by omega)⟩, Below.refl _ _⟩
set_option maxHeartbeats 4000000 in
set_option maxRecDepth 100000 in
theorem toEnv.calls (w : World) (x : TEnv) (cs : List Value) (h : kEnv.K w x cs) (hs : smEnv x) :
    Calls Try.prog 154 #[.agg cs.toArray] w (NewM kEnv x w) := by
  obtain ⟨A0, c0, A1, c1, rfl, f0_, f1_⟩ := kEnv_open h
  have HK0 := Aside0.mk f0_
  have HK1 := Aside0.mk f1_
  clear f0_ f1_
  obtain ⟨s0, s1⟩ := hs
  have HS0 := Aside0.mk s0
  clear s0
  have HS1 := Aside0.mk s1
  clear s1
  clear h
  have HB := Aside0.mk (Below.refl w.heap.size w)
  go_enter Try.func154, Try.ntmps154
  go_wp2_with (first | (go_at_call 161; (with_reducible refine (toStringS.calls _ _ _ (HK0.out.below (by with_reducible repeat (first | refine below_set ?_ (by omega) | apply below_alloc | exact HB.out))) HS0.out).mono ?_); rintro e w0 ⟨v0, rfl, hR, hb⟩; have HL0 := Aside0.mk hb; obtain ⟨B0, d0, rfl⟩ := Kd.R_slice hR; obtain ⟨hcw0, hfw0⟩ := bcell hb; have hzw0_0 : w.heap.size < w0.heap.size := (by have := hb.size; (try simp at this); omega); have hzw0_1 : w.heap.size + 1 < w0.heap.size := (by have := hb.size; (try simp at this); omega); have hzw0_2 : w.heap.size + 2 < w0.heap.size := (by have := hb.size; (try simp at this); omega); have HR0 := Aside0.mk hR; have HB' := Aside0.mk (bstep (w := w) (by with_reducible repeat (first | refine below_set ?_ (by omega) | apply below_alloc | exact HB.out)) hb); clear HB hb hR; have HB := HB'; clear HB') | (go_at_call 63; (with_reducible refine (toIntS.calls _ _ _ (HK1.out.below (by with_reducible repeat (first | refine below_set ?_ (by omega) | apply below_alloc | exact HB.out))) HS1.out).mono ?_); rintro e w1 ⟨v1, rfl, hR, hb⟩; have HL1 := Aside0.mk hb; obtain ⟨B1, d1, rfl⟩ := Kd.R_slice hR; obtain ⟨hcw1, hfw1⟩ := bcell hb; have hzw1_0 : w.heap.size < w1.heap.size := (by have := hb.size; (try simp at this); omega); have hzw1_1 : w.heap.size + 1 < w1.heap.size := (by have := hb.size; (try simp at this); omega); have hzw1_2 : w.heap.size + 2 < w1.heap.size := (by have := hb.size; (try simp at this); omega); have HR1 := Aside0.mk hR; have HB' := Aside0.mk (bstep (w := w) (by with_reducible repeat (first | refine below_set ?_ (by omega) | apply below_alloc | exact HB.out)) hb); clear HB hb hR; have HB := HB'; clear HB'))
  refine bodyPost_ret (v := .agg #[.slice B0 x.Names.length d0, .slice B1 x.Vals.length d1]) (by simp [results, Try.results154, go_sem, hcw0, hcw1, hfw0, hfw1, hzw0_0, hzw0_1, hzw0_2, hzw1_0, hzw1_1, hzw1_2]) rfl ⟨_, rfl, kEnv_mkM _ _ x _ (Kd.R_lower (R_kept (lo := w.heap.size + 3) HR0.out (by first | omega | (simp <;> omega)) (by with_reducible repeat (first | refine Kept.set ?_ (by simp) _ | exact Kept.refl _ _ | refine Kept.below ?_ HL1.out))) (by first | omega | (simp <;> omega))) _ (Kd.R_lower (R_kept (lo := w.heap.size + 3) HR1.out (by first | omega | (simp <;> omega)) (by with_reducible repeat (first | refine Kept.set ?_ (by simp) _ | exact Kept.refl _ _))) (by first | omega | (simp <;> omega))), ?_⟩
  with_reducible repeat (first | refine below_set ?_ (by omega) | apply below_alloc | exact HB.out)
theorem info172 : (Try.prog.info? 172).map (fun i => (i.zero, i.size, i.bytes)) = some (some (.agg #[.slice none 0 0, .slice none 0 0]), 2, 48) := by kernel_rfl
set_option maxHeartbeats 2000000 in
theorem toEnvS.calls (w : World) (xs : List TEnv) (v : Value) (h : SK kEnv w xs v) (hs : (xs.length ≤ 1048576 ∧ ∀ y ∈ xs, smEnv y)) :
    Calls Try.prog 115 #[v] w (NewR kEnv 172 xs w) := by
  obtain ⟨A, c, rfl, hl, hC⟩ := h
  have HK := Aside0.mk hC
  clear hC hl
  have hsl : xs.length ≤ 1048576 := hs.1
  have HS := Aside0.mk hs.2
  clear hs
  go_enter Try.func115, Try.ntmps115
  go_wp2_with ((with_reducible refine gate_dst (N := 7) rfl ?_); refine Kd.R_make kEnv _ 172 rfl (N := 7) rfl 100 _ _ rfl (xs.length : Int) rfl rfl Try.underlying100 (.agg #[.slice none 0 0, .slice none 0 0]) 48 info172 rfl (by decide) (by omega) ⟨[], []⟩ (ok := fun _ => True) (okp := fun _ => True) (kEnv_zM _ _) (fun _ hk => hk) trivial (by omega) (by omega) (Below.refl _ _) (Nat.le_refl _) ?_; intro v1 w1 HR hb _ _; simp only [Int.toNat_natCast] at HR; have HR1 := Aside0.mk HR; have HB1 := Aside0.mk hb; clear HR hb)
  go_loopw [4] (fun i wr => ∃ k : Nat, i = .int .i64 k ∧ k ≤ xs.length ∧ Aside0 (Kd.R kEnv 172 wr w.heap.size (fun _ => True) v1 (xs.take k ++ List.replicate (xs.length - k) ⟨[], []⟩)) ∧ Aside0 (Below w.heap.size w wr)) (fun i _ => xs.length - (intOf i).toNat)
  case atStart => exact ⟨0, rfl, by omega, ⟨by simpa using HR1.out⟩, HB1⟩
  case round =>
    obtain ⟨k, rfl, hk, HR, HB⟩ := hrel
    clear HR1 HB1
    by_cases hlt : k < xs.length
    · obtain ⟨ad, cs, e, _, hKe, hcell⟩ := Kd.C_get (Kd.C_below HK.out HB.out) ⟨[], []⟩ (k : Int) (by omega) (by omega)
      rw [show xs.getD ((k : Int)).toNat ⟨[], []⟩ = xs[k] by simp [List.getD, hlt]] at hKe
      have HKe := Aside0.mk hKe
      obtain ⟨A0, c0, A1, c1, rfl, _⟩ := kEnv_open hKe
      cases e
      have hc0 := hcell 0 _ rfl
      have hc1 := hcell 1 _ rfl
      simp only [Int.toNat_natCast, show kEnv.sz = 2 from rfl, add_field _ _ 1 (by omega), Nat.mul_one, Nat.add_zero] at hc0 hc1
      clear hcell hKe
      obtain ⟨g, cap, e, hg0, hg1, cells, hcur⟩ := Kd.R_form HR.out (by rw [fill_len _ _ _ hk]; omega)
      rw [fill_len _ _ _ hk] at e
      subst e
      have hg := Aside0.mk (And.intro hg0 hg1)
      clear hg0 hg1 hcur
      go_wp2_with (first | (go_at_call 154; (with_reducible refine (toEnv.calls _ xs[k] _ HKe.out (HS.out _ (List.getElem_mem hlt))).mono ?_); rintro e w2 ⟨ds, rfl, hM, hb⟩; have HM := Aside0.mk hM; have HR2 := Aside0.mk (Kd.R_below HR.out hb); have HB2 := Aside0.mk (bstep HB.out hb); have hg2 := Aside0.mk (show g < wr.heap.size ∧ w.heap.size ≤ wr.heap.size from ⟨hg.out.2, HB.out.size⟩)) | ((with_reducible refine gate_store (t := 172) (p := 21) rfl ?_); refine fill_store kEnv rfl rfl 172 _ _ rfl k ⟨[], []⟩ xs[k] (.agg ds.toArray) wr.heap.size 2 rfl (by go_simp) (by go_simp) (by kernel_rfl) (by simpa [Value.cells] using kEnv.K_one (kEnv.K_of_M HM.out)) HR2.out hlt (by simpa [Value.cells] using HM.out) hg2.out.1 hg2.out.2 HB2.out ?_; intro w3 HR4 HB4 _; have HR3 := Aside0.mk HR4; have HB3 := Aside0.mk HB4; clear HR4 HB4))
      go_roundw
      case rel => exact ⟨k + 1, by go_num, by omega, ⟨by rw [← fill_set _ _ _ hlt]; exact HR3.out⟩, HB3⟩
      case measure => simp [intOf]; omega
    · have e : k = xs.length := by omega
      subst e
      go_wp2
      go_ret
      exact ⟨_, rfl, by simpa using HR.out, HB.out⟩
set_option maxHeartbeats 4000000 in
set_option maxRecDepth 100000 in
theorem eqEnv.calls (w : World) (x : TEnv) (cs ds : List Value) (h : kEnv.K w x cs) (h' : kEnv.K w x ds) :
    Calls Try.prog 157 #[.agg cs.toArray, .agg ds.toArray] w fun e w' => e = .returned (.bool true) ∧ Below w.heap.size w w' := by
  obtain ⟨A0, c0, A1, c1, rfl, f0_, f1_⟩ := kEnv_open h
  have HK0 := Aside0.mk f0_
  have HK1 := Aside0.mk f1_
  clear f0_ f1_
  obtain ⟨B0, d0, B1, d1, rfl, q0_, q1_⟩ := kEnv_open h'
  have HL0 := Aside0.mk q0_
  have HL1 := Aside0.mk q1_
  clear q0_ q1_
  clear h h'
  have HB := Aside0.mk (below_alloc (below_alloc (Below.refl w.heap.size w) (.cells #[.slice A0 x.Names.length c0, .slice A1 x.Vals.length c1] 172 (0, 0))) (.cells #[.slice B0 x.Names.length d0, .slice B1 x.Vals.length d1] 172 (0, 0)))
  go_enter Try.func157, Try.ntmps157
  go_wp2_with (first | (go_at_call 163; (with_reducible refine (eqStringS.calls _ _ _ _ (HK0.out.below HB.out) (HL0.out.below HB.out)).mono ?_); rintro e w0 ⟨rfl, hb⟩; obtain ⟨hcw0, hfw0⟩ := bcell hb; have hzw0_0 : w.heap.size < w0.heap.size := (by have := hb.size; (try simp at this); omega); have hzw0_1 : w.heap.size + 1 < w0.heap.size := (by have := hb.size; (try simp at this); omega); have HB' := Aside0.mk (bstep HB.out hb); clear HB hb; have HB := HB'; clear HB') | (go_at_call 65; (with_reducible refine (eqIntS.calls _ _ _ _ (HK1.out.below HB.out) (HL1.out.below HB.out)).mono ?_); rintro e w1 ⟨rfl, hb⟩; obtain ⟨hcw1, hfw1⟩ := bcell hb; have hzw1_0 : w.heap.size < w1.heap.size := (by have := hb.size; (try simp at this); omega); have hzw1_1 : w.heap.size + 1 < w1.heap.size := (by have := hb.size; (try simp at this); omega); have HB' := Aside0.mk (bstep HB.out hb); clear HB hb; have HB := HB'; clear HB'))
  go_ret
  exact ⟨rfl, HB.out⟩
set_option maxHeartbeats 4000000 in
theorem eqEnvS.calls (w : World) (xs : List TEnv) (v u : Value) (h : SK kEnv w xs v) (h' : SK kEnv w xs u) :
    Calls Try.prog 120 #[v, u] w fun e w' => e = .returned (.bool true) ∧ Below w.heap.size w w' := by
  obtain ⟨A, c, rfl, _, hC⟩ := h
  obtain ⟨A', c', rfl, _, hC'⟩ := h'
  have hn : xs.length ≤ 9223372036854775807 := hC.2.1
  have HK := Aside0.mk hC
  have HK' := Aside0.mk hC'
  clear hC hC'
  go_enter Try.func120, Try.ntmps120
  go_wp2
  go_loopw [5] (fun i wr => ∃ k : Nat, i = .int .i64 k ∧ k ≤ xs.length ∧ Aside0 (Below w.heap.size w wr)) (fun i _ => xs.length - (intOf i).toNat)
  case atStart => exact ⟨0, rfl, by omega, ⟨Below.refl _ _⟩⟩
  case round =>
    obtain ⟨k, rfl, hk, HB⟩ := hrel
    by_cases hlt : k < xs.length
    · obtain ⟨ad, cs, e, _, hKe, hcell⟩ := Kd.C_get (Kd.C_below HK.out HB.out) ⟨[], []⟩ (k : Int) (by omega) (by omega)
      rw [show xs.getD ((k : Int)).toNat ⟨[], []⟩ = xs[k] by simp [List.getD, hlt]] at hKe
      have HKe := Aside0.mk hKe
      obtain ⟨A0, c0, A1, c1, rfl, _⟩ := kEnv_open hKe
      cases e
      have hc0 := hcell 0 _ rfl
      have hc1 := hcell 1 _ rfl
      simp only [Int.toNat_natCast, show kEnv.sz = 2 from rfl, add_field _ _ 1 (by omega), Nat.mul_one, Nat.add_zero] at hc0 hc1
      clear hcell hKe
      obtain ⟨ad', cs', e', _, hKe', hcell'⟩ := Kd.C_get (Kd.C_below HK'.out HB.out) ⟨[], []⟩ (k : Int) (by omega) (by omega)
      rw [show xs.getD ((k : Int)).toNat ⟨[], []⟩ = xs[k] by simp [List.getD, hlt]] at hKe'
      have HKe' := Aside0.mk hKe'
      obtain ⟨B0, d0, B1, d1, rfl, _⟩ := kEnv_open hKe'
      cases e'
      have hd0 := hcell' 0 _ rfl
      have hd1 := hcell' 1 _ rfl
      simp only [Int.toNat_natCast, show kEnv.sz = 2 from rfl, add_field _ _ 1 (by omega), Nat.mul_one, Nat.add_zero] at hd0 hd1
      clear hcell' hKe'
      go_wp2
      go_region_held3 (fun w' => w'.cell? (ad.add (k * 2)) = some (.slice A0 xs[k].Names.length c0) ∧ w'.cell? ⟨(ad.add (k * 2)).block, (ad.add (k * 2)).off + 1, none⟩ = some (.slice A1 xs[k].Vals.length c1) ∧ w'.cell? (ad'.add (k * 2)) = some (.slice B0 xs[k].Names.length d0) ∧ w'.cell? ⟨(ad'.add (k * 2)).block, (ad'.add (k * 2)).off + 1, none⟩ = some (.slice B1 xs[k].Vals.length d1)) (first | exact ⟨hc0, hc1, hd0, hd1⟩ | exact ⟨pw_cell_below (w := wr.drew) (by assumption) hc0, pw_cell_below (w := wr.drew) (by assumption) hc1, pw_cell_below (w := wr.drew) (by assumption) hd0, pw_cell_below (w := wr.drew) (by assumption) hd1⟩) (first | (go_at_call 157; refine (eqEnv.calls _ xs[k] _ _ (kEnv.K_below (below_drew1 (Below.refl _ _)) HKe.out) (kEnv.K_below (below_drew1 (Below.refl _ _)) HKe'.out)).mono ?_; rintro e w1 ⟨rfl, hb⟩))
      rename_i hb hS
      have HB1 := Aside0.mk (bstep (below_drew1 HB.out) hb)
      clear hb hS
      go_wp2
      go_roundw
      case rel => exact ⟨k + 1, by go_num, by omega, HB1⟩
      case measure => simp [intOf]; omega
    · have e : k = xs.length := by omega
      subst e
      go_wp2
      go_ret
      exact ⟨rfl, HB.out⟩
structure TThread where
  Todo : List Int
  Env : TEnv
  Fault : Int
instance : Inhabited TThread := ⟨⟨[], ⟨[], []⟩, 0⟩⟩
def kThread : Kd TThread := Kd.iso (Kd.pair (Kd.slice 3 (Kd.int .i64)) (Kd.pair kEnv (Kd.int .i64))) (fun x => (x.Todo, x.Env, x.Fault))
theorem kThread_sz : kThread.sz = 4 := rfl
theorem kThread_open {w : World} {x : TThread} {cs : List Value} (h : kThread.K w x cs) : ∃ A0 c0 A1 c1 A2 c2, cs = [.slice A0 x.Todo.length c0, .slice A1 x.Env.Names.length c1, .slice A2 x.Env.Vals.length c2, .int .i64 x.Fault] ∧ SK (Kd.int .i64) w x.Todo (.slice A0 x.Todo.length c0) ∧ kEnv.K w x.Env [.slice A1 x.Env.Names.length c1, .slice A2 x.Env.Vals.length c2] := by
  obtain ⟨_, _, rfl, ⟨A0, c0, rfl, l0, C0⟩, _, _, rfl, g1, rfl⟩ := h
  have k1 := g1
  obtain ⟨A1, c1, A2, c2, rfl, _⟩ := kEnv_open g1
  exact ⟨A0, c0, A1, c1, A2, c2, rfl, ⟨A0, c0, rfl, l0, C0⟩, k1⟩
theorem kThread_mkM (w : World) (base : Nat) (x : TThread) (v0 : Value) (h0 : Kd.R (Kd.int .i64) 3 w base (fun _ => True) v0 x.Todo) (v1 v2 : Value) (h1 : kEnv.M w base (fun _ => True) x.Env [v1, v2]) : kThread.M w base (fun _ => True) x [v0, v1, v2, .int .i64 x.Fault] :=
  ⟨[v0], _, rfl, ⟨v0, rfl, h0⟩, ⟨[v1, v2], _, rfl, h1, rfl⟩⟩
theorem kThread_zM (w : World) (base : Nat) : kThread.M w base (fun _ => True) ⟨[], ⟨[], []⟩, 0⟩ [.slice none 0 0, .slice none 0 0, .slice none 0 0, .int .i64 0] := kThread_mkM w base ⟨[], ⟨[], []⟩, 0⟩ _ (Kd.R_nil _ _ _ _ _) _ _ (kEnv_zM _ _)
def wfThread (x : TThread) : Prop := (∀ y ∈ x.Todo, (Lit.int .i64 y).wf = true) ∧ wfEnv x.Env ∧ (Lit.int .i64 x.Fault).wf = true
def smThread (x : TThread) : Prop := x.Todo.length ≤ 1048576 ∧ smEnv x.Env
set_option maxHeartbeats 2000000 in
theorem szThread.calls (w : World) (x : TThread) (cs : List Value) (left : Int) (h : kThread.K w x cs) (hw : wfThread x) (h0 : 0 ≤ left) (h1 : left ≤ 1048576) :
    Calls Try.prog 166 #[.agg cs.toArray, .int .i64 left] w (SzPost left (smThread x) w) := by
  obtain ⟨A0, c0, A1, c1, A2, c2, rfl, f0_, f1_⟩ := kThread_open h
  have HK0 := Aside0.mk f0_
  have HK1 := Aside0.mk f1_
  clear f0_ f1_
  obtain ⟨hw0, hw1, hw2⟩ := hw
  clear hw0
  have HW1 := Aside0.mk hw1
  clear hw1
  clear hw2
  have HB := Aside0.mk (below_alloc (Below.refl w.heap.size w) (.cells #[.slice A0 x.Todo.length c0, .slice A1 x.Env.Names.length c1, .slice A2 x.Env.Vals.length c2, .int .i64 x.Fault] 207 (0, 0)))
  clear h
  go_enter Try.func166, Try.ntmps166
  go_wp2_with (first | (go_at_call 61; (with_reducible refine (szIntS.calls _ _ _ _ (HK0.out.below HB.out) (by omega) (by omega)).mono ?_); rintro e w0 ⟨r, rfl, ⟨g1, g2, g3⟩, hb⟩; obtain ⟨hcw0, hfw0⟩ := bcell hb; have hzw0_0 : w.heap.size < w0.heap.size := (by have := hb.size; (try simp at this); omega); have HS0 := Aside0.mk g3; have HB' := Aside0.mk (bstep HB.out hb); clear HB hb g3; have HB := HB'; clear HB') | (go_at_call 151; (with_reducible refine (szEnv.calls _ _ _ _ (kEnv.K_below HB.out HK1.out) HW1.out (by omega) (by omega)).mono ?_); rintro e w1 ⟨r, rfl, ⟨g1, g2, g3⟩, hb⟩; obtain ⟨hcw1, hfw1⟩ := bcell hb; have hzw1_0 : w.heap.size < w1.heap.size := (by have := hb.size; (try simp at this); omega); have HS1 := Aside0.mk g3; have HB' := Aside0.mk (bstep HB.out hb); clear HB hb g3; have HB := HB'; clear HB'))
  all_goals
    go_ret
    first
      | exact ⟨_, rfl, ⟨by omega, by omega, fun h => ⟨HS0.out (by omega), HS1.out (by omega)⟩⟩, HB.out⟩
      | exact ⟨_, rfl, ⟨by omega, by omega, fun h => absurd h (by omega)⟩, HB.out⟩
set_option maxHeartbeats 4000000 in
set_option maxRecDepth 100000 in
theorem toThread.calls (w : World) (x : TThread) (cs : List Value) (h : kThread.K w x cs) (hs : smThread x) :
    Calls Try.prog 167 #[.agg cs.toArray] w (NewM kThread x w) := by
  obtain ⟨A0, c0, A1, c1, A2, c2, rfl, f0_, f1_⟩ := kThread_open h
  have HK0 := Aside0.mk f0_
  have HK1 := Aside0.mk f1_
  clear f0_ f1_
  obtain ⟨s0, s1⟩ := hs
  have HS0 := Aside0.mk s0
  clear s0
  have HS1 := Aside0.mk s1
  clear s1
  clear h
  have HB := Aside0.mk (Below.refl w.heap.size w)
  go_enter Try.func167, Try.ntmps167
  go_wp2_with (first | (go_at_call 63; (with_reducible refine (toIntS.calls _ _ _ (HK0.out.below (by with_reducible repeat (first | refine below_set ?_ (by omega) | apply below_alloc | exact HB.out))) HS0.out).mono ?_); rintro e w0 ⟨v0, rfl, hR, hb⟩; have HL0 := Aside0.mk hb; obtain ⟨B0, d0, rfl⟩ := Kd.R_slice hR; obtain ⟨hcw0, hfw0⟩ := bcell hb; have hzw0_0 : w.heap.size < w0.heap.size := (by have := hb.size; (try simp at this); omega); have hzw0_1 : w.heap.size + 1 < w0.heap.size := (by have := hb.size; (try simp at this); omega); have hzw0_2 : w.heap.size + 2 < w0.heap.size := (by have := hb.size; (try simp at this); omega); have HR0 := Aside0.mk hR; have HB' := Aside0.mk (bstep (w := w) (by with_reducible repeat (first | refine below_set ?_ (by omega) | apply below_alloc | exact HB.out)) hb); clear HB hb hR; have HB := HB'; clear HB') | (go_at_call 154; (with_reducible refine (toEnv.calls _ _ _ (kEnv.K_below (by with_reducible repeat (first | refine below_set ?_ (by omega) | apply below_alloc | exact HB.out)) HK1.out) HS1.out).mono ?_); rintro e w1 ⟨ds, rfl, hM, hb⟩; have HL1 := Aside0.mk hb; obtain ⟨B1_0, d1_0, B1_1, d1_1, rfl, _⟩ := kEnv_open (kEnv.K_of_M hM); obtain ⟨hcw1, hfw1⟩ := bcell hb; have hzw1_0 : w.heap.size < w1.heap.size := (by have := hb.size; (try simp at this); omega); have hzw1_1 : w.heap.size + 1 < w1.heap.size := (by have := hb.size; (try simp at this); omega); have hzw1_2 : w.heap.size + 2 < w1.heap.size := (by have := hb.size; (try simp at this); omega); have HR1 := Aside0.mk hM; have HB' := Aside0.mk (bstep (w := w) (by with_reducible repeat (first | refine below_set ?_ (by omega) | apply below_alloc | exact HB.out)) hb); clear HB hb hM; have HB := HB'; clear HB'))
  refine bodyPost_ret (v := .agg #[.slice B0 x.Todo.length d0, .slice B1_0 x.Env.Names.length d1_0, .slice B1_1 x.Env.Vals.length d1_1, .int .i64 x.Fault]) (by simp [results, Try.results167, go_sem, hcw0, hcw1, hfw0, hfw1, hzw0_0, hzw0_1, hzw0_2, hzw1_0, hzw1_1, hzw1_2]) rfl ⟨_, rfl, kThread_mkM _ _ x _ (Kd.R_lower (R_kept (lo := w.heap.size + 3) HR0.out (by first | omega | (simp <;> omega)) (by with_reducible repeat (first | refine Kept.set ?_ (by simp) _ | exact Kept.refl _ _ | refine Kept.below ?_ HL1.out))) (by first | omega | (simp <;> omega))) _ _ (kEnv.M_lower (by first | omega | (simp <;> omega)) (M_kept (lo := w.heap.size + 3) HR1.out (by first | omega | (simp <;> omega)) (by with_reducible repeat (first | refine Kept.set ?_ (by simp) _ | exact Kept.refl _ _)))), ?_⟩
  with_reducible repeat (first | refine below_set ?_ (by omega) | apply below_alloc | exact HB.out)
set_option maxHeartbeats 4000000 in
set_option maxRecDepth 100000 in
theorem eqThread.calls (w : World) (x : TThread) (cs ds : List Value) (h : kThread.K w x cs) (h' : kThread.K w x ds) :
    Calls Try.prog 168 #[.agg cs.toArray, .agg ds.toArray] w fun e w' => e = .returned (.bool true) ∧ Below w.heap.size w w' := by
  obtain ⟨A0, c0, A1, c1, A2, c2, rfl, f0_, f1_⟩ := kThread_open h
  have HK0 := Aside0.mk f0_
  have HK1 := Aside0.mk f1_
  clear f0_ f1_
  obtain ⟨B0, d0, B1, d1, B2, d2, rfl, q0_, q1_⟩ := kThread_open h'
  have HL0 := Aside0.mk q0_
  have HL1 := Aside0.mk q1_
  clear q0_ q1_
  clear h h'
  have HB := Aside0.mk (below_alloc (below_alloc (Below.refl w.heap.size w) (.cells #[.slice A0 x.Todo.length c0, .slice A1 x.Env.Names.length c1, .slice A2 x.Env.Vals.length c2, .int .i64 x.Fault] 214 (0, 0))) (.cells #[.slice B0 x.Todo.length d0, .slice B1 x.Env.Names.length d1, .slice B2 x.Env.Vals.length d2, .int .i64 x.Fault] 214 (0, 0)))
  go_enter Try.func168, Try.ntmps168
  go_wp2_with (first | (go_at_call 65; (with_reducible refine (eqIntS.calls _ _ _ _ (HK0.out.below HB.out) (HL0.out.below HB.out)).mono ?_); rintro e w0 ⟨rfl, hb⟩; obtain ⟨hcw0, hfw0⟩ := bcell hb; have hzw0_0 : w.heap.size < w0.heap.size := (by have := hb.size; (try simp at this); omega); have hzw0_1 : w.heap.size + 1 < w0.heap.size := (by have := hb.size; (try simp at this); omega); have HB' := Aside0.mk (bstep HB.out hb); clear HB hb; have HB := HB'; clear HB') | (go_at_call 157; (with_reducible refine (eqEnv.calls _ _ _ _ (kEnv.K_below HB.out HK1.out) (kEnv.K_below HB.out HL1.out)).mono ?_); rintro e w1 ⟨rfl, hb⟩; obtain ⟨hcw1, hfw1⟩ := bcell hb; have hzw1_0 : w.heap.size < w1.heap.size := (by have := hb.size; (try simp at this); omega); have hzw1_1 : w.heap.size + 1 < w1.heap.size := (by have := hb.size; (try simp at this); omega); have HB' := Aside0.mk (bstep HB.out hb); clear HB hb; have HB := HB'; clear HB'))
  go_ret
  exact ⟨rfl, HB.out⟩
structure TActor where
  Outer : TThread
  Inner : TThread
  Monitor : Int
  Entry : Int
  Ready : Bool
  Over : Bool
instance : Inhabited TActor := ⟨⟨⟨[], ⟨[], []⟩, 0⟩, ⟨[], ⟨[], []⟩, 0⟩, 0, 0, false, false⟩⟩
def kActor : Kd TActor := Kd.iso (Kd.pair kThread (Kd.pair kThread (Kd.pair (Kd.int .i64) (Kd.pair (Kd.int .i64) (Kd.pair Kd.bool Kd.bool))))) (fun x => (x.Outer, x.Inner, x.Monitor, x.Entry, x.Ready, x.Over))
theorem kActor_sz : kActor.sz = 12 := rfl
theorem kActor_open {w : World} {x : TActor} {cs : List Value} (h : kActor.K w x cs) : ∃ A0 c0 A1 c1 A2 c2 A3 c3 A4 c4 A5 c5, cs = [.slice A0 x.Outer.Todo.length c0, .slice A1 x.Outer.Env.Names.length c1, .slice A2 x.Outer.Env.Vals.length c2, .int .i64 x.Outer.Fault, .slice A3 x.Inner.Todo.length c3, .slice A4 x.Inner.Env.Names.length c4, .slice A5 x.Inner.Env.Vals.length c5, .int .i64 x.Inner.Fault, .int .i64 x.Monitor, .int .i64 x.Entry, .bool x.Ready, .bool x.Over] ∧ kThread.K w x.Outer [.slice A0 x.Outer.Todo.length c0, .slice A1 x.Outer.Env.Names.length c1, .slice A2 x.Outer.Env.Vals.length c2, .int .i64 x.Outer.Fault] ∧ kThread.K w x.Inner [.slice A3 x.Inner.Todo.length c3, .slice A4 x.Inner.Env.Names.length c4, .slice A5 x.Inner.Env.Vals.length c5, .int .i64 x.Inner.Fault] := by
  obtain ⟨_, _, rfl, g0, _, _, rfl, g1, _, _, rfl, rfl, _, _, rfl, rfl, _, _, rfl, rfl, rfl⟩ := h
  have k0 := g0
  obtain ⟨A0, c0, A1, c1, A2, c2, rfl, _⟩ := kThread_open g0
  have k1 := g1
  obtain ⟨A3, c3, A4, c4, A5, c5, rfl, _⟩ := kThread_open g1
  exact ⟨A0, c0, A1, c1, A2, c2, A3, c3, A4, c4, A5, c5, rfl, k0, k1⟩
theorem kActor_mkM (w : World) (base : Nat) (x : TActor) (v0 v1 v2 v3 : Value) (h0 : kThread.M w base (fun _ => True) x.Outer [v0, v1, v2, v3]) (v4 v5 v6 v7 : Value) (h4 : kThread.M w base (fun _ => True) x.Inner [v4, v5, v6, v7]) : kActor.M w base (fun _ => True) x [v0, v1, v2, v3, v4, v5, v6, v7, .int .i64 x.Monitor, .int .i64 x.Entry, .bool x.Ready, .bool x.Over] :=
  ⟨[v0, v1, v2, v3], _, rfl, h0, ⟨[v4, v5, v6, v7], _, rfl, h4, ⟨[_], _, rfl, rfl, ⟨[_], _, rfl, rfl, ⟨[_], _, rfl, rfl, rfl⟩⟩⟩⟩⟩
theorem kActor_zM (w : World) (base : Nat) : kActor.M w base (fun _ => True) ⟨⟨[], ⟨[], []⟩, 0⟩, ⟨[], ⟨[], []⟩, 0⟩, 0, 0, false, false⟩ [.slice none 0 0, .slice none 0 0, .slice none 0 0, .int .i64 0, .slice none 0 0, .slice none 0 0, .slice none 0 0, .int .i64 0, .int .i64 0, .int .i64 0, .bool false, .bool false] := kActor_mkM w base ⟨⟨[], ⟨[], []⟩, 0⟩, ⟨[], ⟨[], []⟩, 0⟩, 0, 0, false, false⟩ _ _ _ _ (kThread_zM _ _) _ _ _ _ (kThread_zM _ _)
def wfActor (x : TActor) : Prop := wfThread x.Outer ∧ wfThread x.Inner ∧ (Lit.int .i64 x.Monitor).wf = true ∧ (Lit.int .i64 x.Entry).wf = true ∧ True ∧ True
def smActor (x : TActor) : Prop := smThread x.Outer ∧ smThread x.Inner
set_option maxHeartbeats 2000000 in
theorem szActor.calls (w : World) (x : TActor) (cs : List Value) (left : Int) (h : kActor.K w x cs) (hw : wfActor x) (h0 : 0 ≤ left) (h1 : left ≤ 1048576) :
    Calls Try.prog 149 #[.agg cs.toArray, .int .i64 left] w (SzPost left (smActor x) w) := by
  obtain ⟨A0, c0, A1, c1, A2, c2, A3, c3, A4, c4, A5, c5, rfl, f0_, f1_⟩ := kActor_open h
  have HK0 := Aside0.mk f0_
  have HK1 := Aside0.mk f1_
  clear f0_ f1_
  obtain ⟨hw0, hw1, hw2, hw3, hw4, hw5⟩ := hw
  have HW0 := Aside0.mk hw0
  clear hw0
  have HW1 := Aside0.mk hw1
  clear hw1
  clear hw2
  clear hw3
  clear hw4
  clear hw5
  have HB := Aside0.mk (below_alloc (Below.refl w.heap.size w) (.cells #[.slice A0 x.Outer.Todo.length c0, .slice A1 x.Outer.Env.Names.length c1, .slice A2 x.Outer.Env.Vals.length c2, .int .i64 x.Outer.Fault, .slice A3 x.Inner.Todo.length c3, .slice A4 x.Inner.Env.Names.length c4, .slice A5 x.Inner.Env.Vals.length c5, .int .i64 x.Inner.Fault, .int .i64 x.Monitor, .int .i64 x.Entry, .bool x.Ready, .bool x.Over] 209 (0, 0)))
  clear h
  go_enter Try.func149, Try.ntmps149
  go_wp2_with (first | (go_at_call_of 166 (Value.agg #[Value.slice A0 x.Outer.Todo.length c0, Value.slice A1 x.Outer.Env.Names.length c1, Value.slice A2 x.Outer.Env.Vals.length c2, Value.int IntKind.i64 x.Outer.Fault]); (with_reducible refine (szThread.calls _ _ _ _ (kThread.K_below HB.out HK0.out) HW0.out (by omega) (by omega)).mono ?_); rintro e w0 ⟨r, rfl, ⟨g1, g2, g3⟩, hb⟩; obtain ⟨hcw0, hfw0⟩ := bcell hb; have hzw0_0 : w.heap.size < w0.heap.size := (by have := hb.size; (try simp at this); omega); have HS0 := Aside0.mk g3; have HB' := Aside0.mk (bstep HB.out hb); clear HB hb g3; have HB := HB'; clear HB') | (go_at_call_of 166 (Value.agg #[Value.slice A3 x.Inner.Todo.length c3, Value.slice A4 x.Inner.Env.Names.length c4, Value.slice A5 x.Inner.Env.Vals.length c5, Value.int IntKind.i64 x.Inner.Fault]); (with_reducible refine (szThread.calls _ _ _ _ (kThread.K_below HB.out HK1.out) HW1.out (by omega) (by omega)).mono ?_); rintro e w1 ⟨r, rfl, ⟨g1, g2, g3⟩, hb⟩; obtain ⟨hcw1, hfw1⟩ := bcell hb; have hzw1_0 : w.heap.size < w1.heap.size := (by have := hb.size; (try simp at this); omega); have HS1 := Aside0.mk g3; have HB' := Aside0.mk (bstep HB.out hb); clear HB hb g3; have HB := HB'; clear HB'))
  all_goals
    go_ret
    first
      | exact ⟨_, rfl, ⟨by omega, by omega, fun h => ⟨HS0.out (by omega), HS1.out (by omega)⟩⟩, HB.out⟩
      | exact ⟨_, rfl, ⟨by omega, by omega, fun h => absurd h (by omega)⟩, HB.out⟩
set_option maxHeartbeats 2000000 in
theorem szActorS.calls (w : World) (xs : List TActor) (v : Value) (left : Int) (h : SK kActor w xs v) (hw : (∀ y ∈ xs, wfActor y)) (h0 : 0 ≤ left) (h1 : left ≤ 1048576) :
    Calls Try.prog 109 #[v, .int .i64 left] w (SzPost left ((xs.length ≤ 1048576 ∧ ∀ y ∈ xs, smActor y)) w) := by
  obtain ⟨A, c, rfl, _, hC⟩ := h
  have hn : xs.length ≤ 9223372036854775807 := hC.2.1
  have HW := Aside0.mk hw
  clear hw
  have HK := Aside0.mk hC
  clear hC
  go_enter Try.func109, Try.ntmps109
  by_cases hlen : (xs.length : Int) ≤ left
  · go_wp2
    go_loopw [1, 5] (fun l i wr => ∃ (r : Int) (k : Nat), l = .int .i64 r ∧ i = .int .i64 k ∧ k ≤ xs.length ∧ 0 ≤ r ∧ r ≤ left ∧ Aside0 (∀ y ∈ xs.take k, smActor y) ∧ Aside0 (Below w.heap.size w wr)) (fun _ i _ => xs.length - (intOf i).toNat)
    case atStart => exact ⟨_, 0, rfl, rfl, by omega, by omega, by omega, ⟨by simp⟩, ⟨Below.refl _ _⟩⟩
    case round =>
      obtain ⟨r, k, rfl, rfl, hk, hr0, hr1, HS, HB⟩ := hrel
      by_cases hlt : k < xs.length
      · obtain ⟨ad, cs, e, _, hKe, hcell⟩ := Kd.C_get (Kd.C_below HK.out HB.out) ⟨⟨[], ⟨[], []⟩, 0⟩, ⟨[], ⟨[], []⟩, 0⟩, 0, 0, false, false⟩ (k : Int) (by omega) (by omega)
        rw [show xs.getD ((k : Int)).toNat ⟨⟨[], ⟨[], []⟩, 0⟩, ⟨[], ⟨[], []⟩, 0⟩, 0, 0, false, false⟩ = xs[k] by simp [List.getD, hlt]] at hKe
        have HKe := Aside0.mk hKe
        obtain ⟨A0, c0, A1, c1, A2, c2, A3, c3, A4, c4, A5, c5, rfl, _⟩ := kActor_open hKe
        cases e
        have hc0 := hcell 0 _ rfl
        have hc1 := hcell 1 _ rfl
        have hc2 := hcell 2 _ rfl
        have hc3 := hcell 3 _ rfl
        have hc4 := hcell 4 _ rfl
        have hc5 := hcell 5 _ rfl
        have hc6 := hcell 6 _ rfl
        have hc7 := hcell 7 _ rfl
        have hc8 := hcell 8 _ rfl
        have hc9 := hcell 9 _ rfl
        have hc10 := hcell 10 _ rfl
        have hc11 := hcell 11 _ rfl
        simp only [Int.toNat_natCast, show kActor.sz = 12 from rfl, add_field _ _ 1 (by omega), add_field _ _ 2 (by omega), add_field _ _ 3 (by omega), add_field _ _ 4 (by omega), add_field _ _ 5 (by omega), add_field _ _ 6 (by omega), add_field _ _ 7 (by omega), add_field _ _ 8 (by omega), add_field _ _ 9 (by omega), add_field _ _ 10 (by omega), add_field _ _ 11 (by omega), Nat.mul_one, Nat.add_zero] at hc0 hc1 hc2 hc3 hc4 hc5 hc6 hc7 hc8 hc9 hc10 hc11
        clear hcell hKe
        go_wp2_with (go_at_call 149; refine (szActor.calls _ xs[k] _ _ HKe.out (HW.out _ (List.getElem_mem hlt)) (by omega) (by omega)).mono ?_; rintro e w1 ⟨r1, rfl, ⟨g1, g2, g3⟩, hb⟩; have HB1 := Aside0.mk (bstep HB.out hb); have HS1 := Aside0.mk g3; clear hb g3)
        · go_ret
          exact ⟨_, rfl, ⟨by omega, by omega, fun h => absurd h (by omega)⟩, HB1.out⟩
        · go_roundw
          case rel => exact ⟨_, k + 1, rfl, by go_num, by omega, by omega, by omega, ⟨fun y hy => by rw [List.take_succ_eq_append_getElem hlt] at hy; rcases List.mem_append.1 hy with hy | hy; exact HS.out y hy; rw [List.mem_singleton.1 hy]; exact HS1.out (by omega)⟩, HB1⟩
          case measure => simp [intOf]; omega
      · have e : k = xs.length := by omega
        subst e
        go_wp2
        go_ret
        exact ⟨_, rfl, ⟨by omega, by omega, fun _ => ⟨by omega, fun y hy => HS.out y (by rw [List.take_length]; exact hy)⟩⟩, HB.out⟩
  · go_wp2
    go_ret
    exact ⟨_, rfl, ⟨by omega, by omega, fun h => absurd h (by omega)⟩, Below.refl _ _⟩
set_option maxHeartbeats 4000000 in
set_option maxRecDepth 100000 in
theorem toActor.calls (w : World) (x : TActor) (cs : List Value) (h : kActor.K w x cs) (hs : smActor x) :
    Calls Try.prog 152 #[.agg cs.toArray] w (NewM kActor x w) := by
  obtain ⟨A0, c0, A1, c1, A2, c2, A3, c3, A4, c4, A5, c5, rfl, f0_, f1_⟩ := kActor_open h
  have HK0 := Aside0.mk f0_
  have HK1 := Aside0.mk f1_
  clear f0_ f1_
  obtain ⟨s0, s1⟩ := hs
  have HS0 := Aside0.mk s0
  clear s0
  have HS1 := Aside0.mk s1
  clear s1
  clear h
  have HB := Aside0.mk (Below.refl w.heap.size w)
  go_enter Try.func152, Try.ntmps152
  go_wp2_with (first | (go_at_call_of 167 (Value.agg #[Value.slice A0 x.Outer.Todo.length c0, Value.slice A1 x.Outer.Env.Names.length c1, Value.slice A2 x.Outer.Env.Vals.length c2, Value.int IntKind.i64 x.Outer.Fault]); (with_reducible refine (toThread.calls _ _ _ (kThread.K_below (by with_reducible repeat (first | refine below_set ?_ (by omega) | apply below_alloc | exact HB.out)) HK0.out) HS0.out).mono ?_); rintro e w0 ⟨ds, rfl, hM, hb⟩; have HL0 := Aside0.mk hb; obtain ⟨B0_0, d0_0, B0_1, d0_1, B0_2, d0_2, rfl, _⟩ := kThread_open (kThread.K_of_M hM); obtain ⟨hcw0, hfw0⟩ := bcell hb; have hzw0_0 : w.heap.size < w0.heap.size := (by have := hb.size; (try simp at this); omega); have hzw0_1 : w.heap.size + 1 < w0.heap.size := (by have := hb.size; (try simp at this); omega); have hzw0_2 : w.heap.size + 2 < w0.heap.size := (by have := hb.size; (try simp at this); omega); have HR0 := Aside0.mk hM; have HB' := Aside0.mk (bstep (w := w) (by with_reducible repeat (first | refine below_set ?_ (by omega) | apply below_alloc | exact HB.out)) hb); clear HB hb hM; have HB := HB'; clear HB') | (go_at_call_of 167 (Value.agg #[Value.slice A3 x.Inner.Todo.length c3, Value.slice A4 x.Inner.Env.Names.length c4, Value.slice A5 x.Inner.Env.Vals.length c5, Value.int IntKind.i64 x.Inner.Fault]); (with_reducible refine (toThread.calls _ _ _ (kThread.K_below (by with_reducible repeat (first | refine below_set ?_ (by omega) | apply below_alloc | exact HB.out)) HK1.out) HS1.out).mono ?_); rintro e w1 ⟨ds, rfl, hM, hb⟩; have HL1 := Aside0.mk hb; obtain ⟨B1_0, d1_0, B1_1, d1_1, B1_2, d1_2, rfl, _⟩ := kThread_open (kThread.K_of_M hM); obtain ⟨hcw1, hfw1⟩ := bcell hb; have hzw1_0 : w.heap.size < w1.heap.size := (by have := hb.size; (try simp at this); omega); have hzw1_1 : w.heap.size + 1 < w1.heap.size := (by have := hb.size; (try simp at this); omega); have hzw1_2 : w.heap.size + 2 < w1.heap.size := (by have := hb.size; (try simp at this); omega); have HR1 := Aside0.mk hM; have HB' := Aside0.mk (bstep (w := w) (by with_reducible repeat (first | refine below_set ?_ (by omega) | apply below_alloc | exact HB.out)) hb); clear HB hb hM; have HB := HB'; clear HB'))
  refine bodyPost_ret (v := .agg #[.slice B0_0 x.Outer.Todo.length d0_0, .slice B0_1 x.Outer.Env.Names.length d0_1, .slice B0_2 x.Outer.Env.Vals.length d0_2, .int .i64 x.Outer.Fault, .slice B1_0 x.Inner.Todo.length d1_0, .slice B1_1 x.Inner.Env.Names.length d1_1, .slice B1_2 x.Inner.Env.Vals.length d1_2, .int .i64 x.Inner.Fault, .int .i64 x.Monitor, .int .i64 x.Entry, .bool x.Ready, .bool x.Over]) (by simp [results, Try.results152, go_sem, hcw0, hcw1, hfw0, hfw1, hzw0_0, hzw0_1, hzw0_2, hzw1_0, hzw1_1, hzw1_2]) rfl ⟨_, rfl, kActor_mkM _ _ x _ _ _ _ (kThread.M_lower (by first | omega | (simp <;> omega)) (M_kept (lo := w.heap.size + 3) HR0.out (by first | omega | (simp <;> omega)) (by with_reducible repeat (first | refine Kept.set ?_ (by simp) _ | exact Kept.refl _ _ | refine Kept.below ?_ HL1.out)))) _ _ _ _ (kThread.M_lower (by first | omega | (simp <;> omega)) (M_kept (lo := w.heap.size + 3) HR1.out (by first | omega | (simp <;> omega)) (by with_reducible repeat (first | refine Kept.set ?_ (by simp) _ | exact Kept.refl _ _)))), ?_⟩
  with_reducible repeat (first | refine below_set ?_ (by omega) | apply below_alloc | exact HB.out)
theorem info216 : (Try.prog.info? 216).map (fun i => (i.zero, i.size, i.bytes)) = some (some (.agg #[.slice none 0 0, .slice none 0 0, .slice none 0 0, .int .i64 0, .slice none 0 0, .slice none 0 0, .slice none 0 0, .int .i64 0, .int .i64 0, .int .i64 0, .bool false, .bool false]), 12, 184) := by kernel_rfl
set_option maxHeartbeats 2000000 in
theorem toActorS.calls (w : World) (xs : List TActor) (v : Value) (h : SK kActor w xs v) (hs : (xs.length ≤ 1048576 ∧ ∀ y ∈ xs, smActor y)) :
    Calls Try.prog 113 #[v] w (NewR kActor 216 xs w) := by
  obtain ⟨A, c, rfl, hl, hC⟩ := h
  have HK := Aside0.mk hC
  clear hC hl
  have hsl : xs.length ≤ 1048576 := hs.1
  have HS := Aside0.mk hs.2
  clear hs
  go_enter Try.func113, Try.ntmps113
  go_wp2_with ((with_reducible refine gate_dst (N := 7) rfl ?_); refine Kd.R_make kActor _ 216 rfl (N := 7) rfl 99 _ _ rfl (xs.length : Int) rfl rfl Try.underlying99 (.agg #[.slice none 0 0, .slice none 0 0, .slice none 0 0, .int .i64 0, .slice none 0 0, .slice none 0 0, .slice none 0 0, .int .i64 0, .int .i64 0, .int .i64 0, .bool false, .bool false]) 184 info216 rfl (by decide) (by omega) ⟨⟨[], ⟨[], []⟩, 0⟩, ⟨[], ⟨[], []⟩, 0⟩, 0, 0, false, false⟩ (ok := fun _ => True) (okp := fun _ => True) (kActor_zM _ _) (fun _ hk => hk) trivial (by omega) (by omega) (Below.refl _ _) (Nat.le_refl _) ?_; intro v1 w1 HR hb _ _; simp only [Int.toNat_natCast] at HR; have HR1 := Aside0.mk HR; have HB1 := Aside0.mk hb; clear HR hb)
  go_loopw [4] (fun i wr => ∃ k : Nat, i = .int .i64 k ∧ k ≤ xs.length ∧ Aside0 (Kd.R kActor 216 wr w.heap.size (fun _ => True) v1 (xs.take k ++ List.replicate (xs.length - k) ⟨⟨[], ⟨[], []⟩, 0⟩, ⟨[], ⟨[], []⟩, 0⟩, 0, 0, false, false⟩)) ∧ Aside0 (Below w.heap.size w wr)) (fun i _ => xs.length - (intOf i).toNat)
  case atStart => exact ⟨0, rfl, by omega, ⟨by simpa using HR1.out⟩, HB1⟩
  case round =>
    obtain ⟨k, rfl, hk, HR, HB⟩ := hrel
    clear HR1 HB1
    by_cases hlt : k < xs.length
    · obtain ⟨ad, cs, e, _, hKe, hcell⟩ := Kd.C_get (Kd.C_below HK.out HB.out) ⟨⟨[], ⟨[], []⟩, 0⟩, ⟨[], ⟨[], []⟩, 0⟩, 0, 0, false, false⟩ (k : Int) (by omega) (by omega)
      rw [show xs.getD ((k : Int)).toNat ⟨⟨[], ⟨[], []⟩, 0⟩, ⟨[], ⟨[], []⟩, 0⟩, 0, 0, false, false⟩ = xs[k] by simp [List.getD, hlt]] at hKe
      have HKe := Aside0.mk hKe
      obtain ⟨A0, c0, A1, c1, A2, c2, A3, c3, A4, c4, A5, c5, rfl, _⟩ := kActor_open hKe
      cases e
      have hc0 := hcell 0 _ rfl
      have hc1 := hcell 1 _ rfl
      have hc2 := hcell 2 _ rfl
      have hc3 := hcell 3 _ rfl
      have hc4 := hcell 4 _ rfl
      have hc5 := hcell 5 _ rfl
      have hc6 := hcell 6 _ rfl
      have hc7 := hcell 7 _ rfl
      have hc8 := hcell 8 _ rfl
      have hc9 := hcell 9 _ rfl
      have hc10 := hcell 10 _ rfl
      have hc11 := hcell 11 _ rfl
      simp only [Int.toNat_natCast, show kActor.sz = 12 from rfl, add_field _ _ 1 (by omega), add_field _ _ 2 (by omega), add_field _ _ 3 (by omega), add_field _ _ 4 (by omega), add_field _ _ 5 (by omega), add_field _ _ 6 (by omega), add_field _ _ 7 (by omega), add_field _ _ 8 (by omega), add_field _ _ 9 (by omega), add_field _ _ 10 (by omega), add_field _ _ 11 (by omega), Nat.mul_one, Nat.add_zero] at hc0 hc1 hc2 hc3 hc4 hc5 hc6 hc7 hc8 hc9 hc10 hc11
      clear hcell hKe
      obtain ⟨g, cap, e, hg0, hg1, cells, hcur⟩ := Kd.R_form HR.out (by rw [fill_len _ _ _ hk]; omega)
      rw [fill_len _ _ _ hk] at e
      subst e
      have hg := Aside0.mk (And.intro hg0 hg1)
      clear hg0 hg1 hcur
      go_wp2_with (first | (go_at_call 152; (with_reducible refine (toActor.calls _ xs[k] _ HKe.out (HS.out _ (List.getElem_mem hlt))).mono ?_); rintro e w2 ⟨ds, rfl, hM, hb⟩; have HM := Aside0.mk hM; have HR2 := Aside0.mk (Kd.R_below HR.out hb); have HB2 := Aside0.mk (bstep HB.out hb); have hg2 := Aside0.mk (show g < wr.heap.size ∧ w.heap.size ≤ wr.heap.size from ⟨hg.out.2, HB.out.size⟩)) | ((with_reducible refine gate_store (t := 216) (p := 21) rfl ?_); refine fill_store kActor rfl rfl 216 _ _ rfl k ⟨⟨[], ⟨[], []⟩, 0⟩, ⟨[], ⟨[], []⟩, 0⟩, 0, 0, false, false⟩ xs[k] (.agg ds.toArray) wr.heap.size 12 rfl (by go_simp) (by go_simp) (by kernel_rfl) (by simpa [Value.cells] using kActor.K_one (kActor.K_of_M HM.out)) HR2.out hlt (by simpa [Value.cells] using HM.out) hg2.out.1 hg2.out.2 HB2.out ?_; intro w3 HR4 HB4 _; have HR3 := Aside0.mk HR4; have HB3 := Aside0.mk HB4; clear HR4 HB4))
      go_roundw
      case rel => exact ⟨k + 1, by go_num, by omega, ⟨by rw [← fill_set _ _ _ hlt]; exact HR3.out⟩, HB3⟩
      case measure => simp [intOf]; omega
    · have e : k = xs.length := by omega
      subst e
      go_wp2
      go_ret
      exact ⟨_, rfl, by simpa using HR.out, HB.out⟩
set_option maxHeartbeats 4000000 in
set_option maxRecDepth 100000 in
theorem eqActor.calls (w : World) (x : TActor) (cs ds : List Value) (h : kActor.K w x cs) (h' : kActor.K w x ds) :
    Calls Try.prog 155 #[.agg cs.toArray, .agg ds.toArray] w fun e w' => e = .returned (.bool true) ∧ Below w.heap.size w w' := by
  obtain ⟨A0, c0, A1, c1, A2, c2, A3, c3, A4, c4, A5, c5, rfl, f0_, f1_⟩ := kActor_open h
  have HK0 := Aside0.mk f0_
  have HK1 := Aside0.mk f1_
  clear f0_ f1_
  obtain ⟨B0, d0, B1, d1, B2, d2, B3, d3, B4, d4, B5, d5, rfl, q0_, q1_⟩ := kActor_open h'
  have HL0 := Aside0.mk q0_
  have HL1 := Aside0.mk q1_
  clear q0_ q1_
  clear h h'
  have HB := Aside0.mk (below_alloc (below_alloc (Below.refl w.heap.size w) (.cells #[.slice A0 x.Outer.Todo.length c0, .slice A1 x.Outer.Env.Names.length c1, .slice A2 x.Outer.Env.Vals.length c2, .int .i64 x.Outer.Fault, .slice A3 x.Inner.Todo.length c3, .slice A4 x.Inner.Env.Names.length c4, .slice A5 x.Inner.Env.Vals.length c5, .int .i64 x.Inner.Fault, .int .i64 x.Monitor, .int .i64 x.Entry, .bool x.Ready, .bool x.Over] 216 (0, 0))) (.cells #[.slice B0 x.Outer.Todo.length d0, .slice B1 x.Outer.Env.Names.length d1, .slice B2 x.Outer.Env.Vals.length d2, .int .i64 x.Outer.Fault, .slice B3 x.Inner.Todo.length d3, .slice B4 x.Inner.Env.Names.length d4, .slice B5 x.Inner.Env.Vals.length d5, .int .i64 x.Inner.Fault, .int .i64 x.Monitor, .int .i64 x.Entry, .bool x.Ready, .bool x.Over] 216 (0, 0)))
  go_enter Try.func155, Try.ntmps155
  go_wp2_with (first | (go_at_call_of 168 (Value.agg #[Value.slice A0 x.Outer.Todo.length c0, Value.slice A1 x.Outer.Env.Names.length c1, Value.slice A2 x.Outer.Env.Vals.length c2, Value.int IntKind.i64 x.Outer.Fault]); (with_reducible refine (eqThread.calls _ _ _ _ (kThread.K_below HB.out HK0.out) (kThread.K_below HB.out HL0.out)).mono ?_); rintro e w0 ⟨rfl, hb⟩; obtain ⟨hcw0, hfw0⟩ := bcell hb; have hzw0_0 : w.heap.size < w0.heap.size := (by have := hb.size; (try simp at this); omega); have hzw0_1 : w.heap.size + 1 < w0.heap.size := (by have := hb.size; (try simp at this); omega); have HB' := Aside0.mk (bstep HB.out hb); clear HB hb; have HB := HB'; clear HB') | (go_at_call_of 168 (Value.agg #[Value.slice A3 x.Inner.Todo.length c3, Value.slice A4 x.Inner.Env.Names.length c4, Value.slice A5 x.Inner.Env.Vals.length c5, Value.int IntKind.i64 x.Inner.Fault]); (with_reducible refine (eqThread.calls _ _ _ _ (kThread.K_below HB.out HK1.out) (kThread.K_below HB.out HL1.out)).mono ?_); rintro e w1 ⟨rfl, hb⟩; obtain ⟨hcw1, hfw1⟩ := bcell hb; have hzw1_0 : w.heap.size < w1.heap.size := (by have := hb.size; (try simp at this); omega); have hzw1_1 : w.heap.size + 1 < w1.heap.size := (by have := hb.size; (try simp at this); omega); have HB' := Aside0.mk (bstep HB.out hb); clear HB hb; have HB := HB'; clear HB'))
  go_ret
  exact ⟨rfl, HB.out⟩
set_option maxHeartbeats 4000000 in
theorem eqActorS.calls (w : World) (xs : List TActor) (v u : Value) (h : SK kActor w xs v) (h' : SK kActor w xs u) :
    Calls Try.prog 118 #[v, u] w fun e w' => e = .returned (.bool true) ∧ Below w.heap.size w w' := by
  obtain ⟨A, c, rfl, _, hC⟩ := h
  obtain ⟨A', c', rfl, _, hC'⟩ := h'
  have hn : xs.length ≤ 9223372036854775807 := hC.2.1
  have HK := Aside0.mk hC
  have HK' := Aside0.mk hC'
  clear hC hC'
  go_enter Try.func118, Try.ntmps118
  go_wp2
  go_loopw [5] (fun i wr => ∃ k : Nat, i = .int .i64 k ∧ k ≤ xs.length ∧ Aside0 (Below w.heap.size w wr)) (fun i _ => xs.length - (intOf i).toNat)
  case atStart => exact ⟨0, rfl, by omega, ⟨Below.refl _ _⟩⟩
  case round =>
    obtain ⟨k, rfl, hk, HB⟩ := hrel
    by_cases hlt : k < xs.length
    · obtain ⟨ad, cs, e, _, hKe, hcell⟩ := Kd.C_get (Kd.C_below HK.out HB.out) ⟨⟨[], ⟨[], []⟩, 0⟩, ⟨[], ⟨[], []⟩, 0⟩, 0, 0, false, false⟩ (k : Int) (by omega) (by omega)
      rw [show xs.getD ((k : Int)).toNat ⟨⟨[], ⟨[], []⟩, 0⟩, ⟨[], ⟨[], []⟩, 0⟩, 0, 0, false, false⟩ = xs[k] by simp [List.getD, hlt]] at hKe
      have HKe := Aside0.mk hKe
      obtain ⟨A0, c0, A1, c1, A2, c2, A3, c3, A4, c4, A5, c5, rfl, _⟩ := kActor_open hKe
      cases e
      have hc0 := hcell 0 _ rfl
      have hc1 := hcell 1 _ rfl
      have hc2 := hcell 2 _ rfl
      have hc3 := hcell 3 _ rfl
      have hc4 := hcell 4 _ rfl
      have hc5 := hcell 5 _ rfl
      have hc6 := hcell 6 _ rfl
      have hc7 := hcell 7 _ rfl
      have hc8 := hcell 8 _ rfl
      have hc9 := hcell 9 _ rfl
      have hc10 := hcell 10 _ rfl
      have hc11 := hcell 11 _ rfl
      simp only [Int.toNat_natCast, show kActor.sz = 12 from rfl, add_field _ _ 1 (by omega), add_field _ _ 2 (by omega), add_field _ _ 3 (by omega), add_field _ _ 4 (by omega), add_field _ _ 5 (by omega), add_field _ _ 6 (by omega), add_field _ _ 7 (by omega), add_field _ _ 8 (by omega), add_field _ _ 9 (by omega), add_field _ _ 10 (by omega), add_field _ _ 11 (by omega), Nat.mul_one, Nat.add_zero] at hc0 hc1 hc2 hc3 hc4 hc5 hc6 hc7 hc8 hc9 hc10 hc11
      clear hcell hKe
      obtain ⟨ad', cs', e', _, hKe', hcell'⟩ := Kd.C_get (Kd.C_below HK'.out HB.out) ⟨⟨[], ⟨[], []⟩, 0⟩, ⟨[], ⟨[], []⟩, 0⟩, 0, 0, false, false⟩ (k : Int) (by omega) (by omega)
      rw [show xs.getD ((k : Int)).toNat ⟨⟨[], ⟨[], []⟩, 0⟩, ⟨[], ⟨[], []⟩, 0⟩, 0, 0, false, false⟩ = xs[k] by simp [List.getD, hlt]] at hKe'
      have HKe' := Aside0.mk hKe'
      obtain ⟨B0, d0, B1, d1, B2, d2, B3, d3, B4, d4, B5, d5, rfl, _⟩ := kActor_open hKe'
      cases e'
      have hd0 := hcell' 0 _ rfl
      have hd1 := hcell' 1 _ rfl
      have hd2 := hcell' 2 _ rfl
      have hd3 := hcell' 3 _ rfl
      have hd4 := hcell' 4 _ rfl
      have hd5 := hcell' 5 _ rfl
      have hd6 := hcell' 6 _ rfl
      have hd7 := hcell' 7 _ rfl
      have hd8 := hcell' 8 _ rfl
      have hd9 := hcell' 9 _ rfl
      have hd10 := hcell' 10 _ rfl
      have hd11 := hcell' 11 _ rfl
      simp only [Int.toNat_natCast, show kActor.sz = 12 from rfl, add_field _ _ 1 (by omega), add_field _ _ 2 (by omega), add_field _ _ 3 (by omega), add_field _ _ 4 (by omega), add_field _ _ 5 (by omega), add_field _ _ 6 (by omega), add_field _ _ 7 (by omega), add_field _ _ 8 (by omega), add_field _ _ 9 (by omega), add_field _ _ 10 (by omega), add_field _ _ 11 (by omega), Nat.mul_one, Nat.add_zero] at hd0 hd1 hd2 hd3 hd4 hd5 hd6 hd7 hd8 hd9 hd10 hd11
      clear hcell' hKe'
      go_wp2
      go_region_held3 (fun w' => w'.cell? (ad.add (k * 12)) = some (.slice A0 xs[k].Outer.Todo.length c0) ∧ w'.cell? ⟨(ad.add (k * 12)).block, (ad.add (k * 12)).off + 1, none⟩ = some (.slice A1 xs[k].Outer.Env.Names.length c1) ∧ w'.cell? ⟨(ad.add (k * 12)).block, (ad.add (k * 12)).off + 2, none⟩ = some (.slice A2 xs[k].Outer.Env.Vals.length c2) ∧ w'.cell? ⟨(ad.add (k * 12)).block, (ad.add (k * 12)).off + 3, none⟩ = some (.int .i64 xs[k].Outer.Fault) ∧ w'.cell? ⟨(ad.add (k * 12)).block, (ad.add (k * 12)).off + 4, none⟩ = some (.slice A3 xs[k].Inner.Todo.length c3) ∧ w'.cell? ⟨(ad.add (k * 12)).block, (ad.add (k * 12)).off + 5, none⟩ = some (.slice A4 xs[k].Inner.Env.Names.length c4) ∧ w'.cell? ⟨(ad.add (k * 12)).block, (ad.add (k * 12)).off + 6, none⟩ = some (.slice A5 xs[k].Inner.Env.Vals.length c5) ∧ w'.cell? ⟨(ad.add (k * 12)).block, (ad.add (k * 12)).off + 7, none⟩ = some (.int .i64 xs[k].Inner.Fault) ∧ w'.cell? ⟨(ad.add (k * 12)).block, (ad.add (k * 12)).off + 8, none⟩ = some (.int .i64 xs[k].Monitor) ∧ w'.cell? ⟨(ad.add (k * 12)).block, (ad.add (k * 12)).off + 9, none⟩ = some (.int .i64 xs[k].Entry) ∧ w'.cell? ⟨(ad.add (k * 12)).block, (ad.add (k * 12)).off + 10, none⟩ = some (.bool xs[k].Ready) ∧ w'.cell? ⟨(ad.add (k * 12)).block, (ad.add (k * 12)).off + 11, none⟩ = some (.bool xs[k].Over) ∧ w'.cell? (ad'.add (k * 12)) = some (.slice B0 xs[k].Outer.Todo.length d0) ∧ w'.cell? ⟨(ad'.add (k * 12)).block, (ad'.add (k * 12)).off + 1, none⟩ = some (.slice B1 xs[k].Outer.Env.Names.length d1) ∧ w'.cell? ⟨(ad'.add (k * 12)).block, (ad'.add (k * 12)).off + 2, none⟩ = some (.slice B2 xs[k].Outer.Env.Vals.length d2) ∧ w'.cell? ⟨(ad'.add (k * 12)).block, (ad'.add (k * 12)).off + 3, none⟩ = some (.int .i64 xs[k].Outer.Fault) ∧ w'.cell? ⟨(ad'.add (k * 12)).block, (ad'.add (k * 12)).off + 4, none⟩ = some (.slice B3 xs[k].Inner.Todo.length d3) ∧ w'.cell? ⟨(ad'.add (k * 12)).block, (ad'.add (k * 12)).off + 5, none⟩ = some (.slice B4 xs[k].Inner.Env.Names.length d4) ∧ w'.cell? ⟨(ad'.add (k * 12)).block, (ad'.add (k * 12)).off + 6, none⟩ = some (.slice B5 xs[k].Inner.Env.Vals.length d5) ∧ w'.cell? ⟨(ad'.add (k * 12)).block, (ad'.add (k * 12)).off + 7, none⟩ = some (.int .i64 xs[k].Inner.Fault) ∧ w'.cell? ⟨(ad'.add (k * 12)).block, (ad'.add (k * 12)).off + 8, none⟩ = some (.int .i64 xs[k].Monitor) ∧ w'.cell? ⟨(ad'.add (k * 12)).block, (ad'.add (k * 12)).off + 9, none⟩ = some (.int .i64 xs[k].Entry) ∧ w'.cell? ⟨(ad'.add (k * 12)).block, (ad'.add (k * 12)).off + 10, none⟩ = some (.bool xs[k].Ready) ∧ w'.cell? ⟨(ad'.add (k * 12)).block, (ad'.add (k * 12)).off + 11, none⟩ = some (.bool xs[k].Over)) (first | exact ⟨hc0, hc1, hc2, hc3, hc4, hc5, hc6, hc7, hc8, hc9, hc10, hc11, hd0, hd1, hd2, hd3, hd4, hd5, hd6, hd7, hd8, hd9, hd10, hd11⟩ | exact ⟨pw_cell_below (w := wr.drew) (by assumption) hc0, pw_cell_below (w := wr.drew) (by assumption) hc1, pw_cell_below (w := wr.drew) (by assumption) hc2, pw_cell_below (w := wr.drew) (by assumption) hc3, pw_cell_below (w := wr.drew) (by assumption) hc4, pw_cell_below (w := wr.drew) (by assumption) hc5, pw_cell_below (w := wr.drew) (by assumption) hc6, pw_cell_below (w := wr.drew) (by assumption) hc7, pw_cell_below (w := wr.drew) (by assumption) hc8, pw_cell_below (w := wr.drew) (by assumption) hc9, pw_cell_below (w := wr.drew) (by assumption) hc10, pw_cell_below (w := wr.drew) (by assumption) hc11, pw_cell_below (w := wr.drew) (by assumption) hd0, pw_cell_below (w := wr.drew) (by assumption) hd1, pw_cell_below (w := wr.drew) (by assumption) hd2, pw_cell_below (w := wr.drew) (by assumption) hd3, pw_cell_below (w := wr.drew) (by assumption) hd4, pw_cell_below (w := wr.drew) (by assumption) hd5, pw_cell_below (w := wr.drew) (by assumption) hd6, pw_cell_below (w := wr.drew) (by assumption) hd7, pw_cell_below (w := wr.drew) (by assumption) hd8, pw_cell_below (w := wr.drew) (by assumption) hd9, pw_cell_below (w := wr.drew) (by assumption) hd10, pw_cell_below (w := wr.drew) (by assumption) hd11⟩) (first | (go_at_call 155; refine (eqActor.calls _ xs[k] _ _ (kActor.K_below (below_drew1 (Below.refl _ _)) HKe.out) (kActor.K_below (below_drew1 (Below.refl _ _)) HKe'.out)).mono ?_; rintro e w1 ⟨rfl, hb⟩))
      rename_i hb hS
      have HB1 := Aside0.mk (bstep (below_drew1 HB.out) hb)
      clear hb hS
      go_wp2
      go_roundw
      case rel => exact ⟨k + 1, by go_num, by omega, HB1⟩
      case measure => simp [intOf]; omega
    · have e : k = xs.length := by omega
      subst e
      go_wp2
      go_ret
      exact ⟨rfl, HB.out⟩
structure TModel where
  Program : TProgram
  Actors : List TActor
  Gates : List TGate
  Vars : List TEnv
  Input : List Int
  Events : List TEvent
  Stopped : Bool
instance : Inhabited TModel := ⟨⟨⟨[], [], []⟩, [], [], [], [], [], false⟩⟩
def kModel : Kd TModel := Kd.iso (Kd.pair kProgram (Kd.pair (Kd.slice 216 kActor) (Kd.pair (Kd.slice 40 kGate) (Kd.pair (Kd.slice 172 kEnv) (Kd.pair (Kd.slice 3 (Kd.int .i64)) (Kd.pair (Kd.slice 109 kEvent) Kd.bool)))))) (fun x => (x.Program, x.Actors, x.Gates, x.Vars, x.Input, x.Events, x.Stopped))
theorem kModel_sz : kModel.sz = 9 := rfl
theorem kModel_open {w : World} {x : TModel} {cs : List Value} (h : kModel.K w x cs) : ∃ A0 c0 A1 c1 A2 c2 A3 c3 A4 c4 A5 c5 A6 c6 A7 c7, cs = [.slice A0 x.Program.Nodes.length c0, .slice A1 x.Program.Monitors.length c1, .slice A2 x.Program.Processes.length c2, .slice A3 x.Actors.length c3, .slice A4 x.Gates.length c4, .slice A5 x.Vars.length c5, .slice A6 x.Input.length c6, .slice A7 x.Events.length c7, .bool x.Stopped] ∧ kProgram.K w x.Program [.slice A0 x.Program.Nodes.length c0, .slice A1 x.Program.Monitors.length c1, .slice A2 x.Program.Processes.length c2] ∧ SK kActor w x.Actors (.slice A3 x.Actors.length c3) ∧ SK kGate w x.Gates (.slice A4 x.Gates.length c4) ∧ SK kEnv w x.Vars (.slice A5 x.Vars.length c5) ∧ SK (Kd.int .i64) w x.Input (.slice A6 x.Input.length c6) ∧ SK kEvent w x.Events (.slice A7 x.Events.length c7) := by
  obtain ⟨_, _, rfl, g0, _, _, rfl, ⟨A3, c3, rfl, l3, C3⟩, _, _, rfl, ⟨A4, c4, rfl, l4, C4⟩, _, _, rfl, ⟨A5, c5, rfl, l5, C5⟩, _, _, rfl, ⟨A6, c6, rfl, l6, C6⟩, _, _, rfl, ⟨A7, c7, rfl, l7, C7⟩, rfl⟩ := h
  have k0 := g0
  obtain ⟨A0, c0, A1, c1, A2, c2, rfl, _⟩ := kProgram_open g0
  exact ⟨A0, c0, A1, c1, A2, c2, A3, c3, A4, c4, A5, c5, A6, c6, A7, c7, rfl, k0, ⟨A3, c3, rfl, l3, C3⟩, ⟨A4, c4, rfl, l4, C4⟩, ⟨A5, c5, rfl, l5, C5⟩, ⟨A6, c6, rfl, l6, C6⟩, ⟨A7, c7, rfl, l7, C7⟩⟩
theorem kModel_mkM (w : World) (base : Nat) (x : TModel) (v0 v1 v2 : Value) (h0 : kProgram.M w base (fun _ => True) x.Program [v0, v1, v2]) (v3 : Value) (h3 : Kd.R kActor 216 w base (fun _ => True) v3 x.Actors) (v4 : Value) (h4 : Kd.R kGate 40 w base (fun _ => True) v4 x.Gates) (v5 : Value) (h5 : Kd.R kEnv 172 w base (fun _ => True) v5 x.Vars) (v6 : Value) (h6 : Kd.R (Kd.int .i64) 3 w base (fun _ => True) v6 x.Input) (v7 : Value) (h7 : Kd.R kEvent 109 w base (fun _ => True) v7 x.Events) : kModel.M w base (fun _ => True) x [v0, v1, v2, v3, v4, v5, v6, v7, .bool x.Stopped] :=
  ⟨[v0, v1, v2], _, rfl, h0, ⟨[v3], _, rfl, ⟨v3, rfl, h3⟩, ⟨[v4], _, rfl, ⟨v4, rfl, h4⟩, ⟨[v5], _, rfl, ⟨v5, rfl, h5⟩, ⟨[v6], _, rfl, ⟨v6, rfl, h6⟩, ⟨[v7], _, rfl, ⟨v7, rfl, h7⟩, rfl⟩⟩⟩⟩⟩⟩
theorem kModel_zM (w : World) (base : Nat) : kModel.M w base (fun _ => True) ⟨⟨[], [], []⟩, [], [], [], [], [], false⟩ [.slice none 0 0, .slice none 0 0, .slice none 0 0, .slice none 0 0, .slice none 0 0, .slice none 0 0, .slice none 0 0, .slice none 0 0, .bool false] := kModel_mkM w base ⟨⟨[], [], []⟩, [], [], [], [], [], false⟩ _ _ _ (kProgram_zM _ _) _ (Kd.R_nil _ _ _ _ _) _ (Kd.R_nil _ _ _ _ _) _ (Kd.R_nil _ _ _ _ _) _ (Kd.R_nil _ _ _ _ _) _ (Kd.R_nil _ _ _ _ _)
def wfModel (x : TModel) : Prop := wfProgram x.Program ∧ (∀ y ∈ x.Actors, wfActor y) ∧ (∀ y ∈ x.Gates, wfGate y) ∧ (∀ y ∈ x.Vars, wfEnv y) ∧ (∀ y ∈ x.Input, (Lit.int .i64 y).wf = true) ∧ (∀ y ∈ x.Events, wfEvent y) ∧ True
def smModel (x : TModel) : Prop := smProgram x.Program ∧ (x.Actors.length ≤ 1048576 ∧ ∀ y ∈ x.Actors, smActor y) ∧ (x.Gates.length ≤ 1048576 ∧ ∀ y ∈ x.Gates, smGate y) ∧ (x.Vars.length ≤ 1048576 ∧ ∀ y ∈ x.Vars, smEnv y) ∧ x.Input.length ≤ 1048576 ∧ x.Events.length ≤ 1048576
set_option maxHeartbeats 2000000 in
theorem szModel.calls (w : World) (x : TModel) (cs : List Value) (left : Int) (h : kModel.K w x cs) (hw : wfModel x) (h0 : 0 ≤ left) (h1 : left ≤ 1048576) :
    Calls Try.prog 52 #[.agg cs.toArray, .int .i64 left] w (SzPost left (smModel x) w) := by
  obtain ⟨A0, c0, A1, c1, A2, c2, A3, c3, A4, c4, A5, c5, A6, c6, A7, c7, rfl, f0_, f1_, f2_, f3_, f4_, f5_⟩ := kModel_open h
  have HK0 := Aside0.mk f0_
  have HK1 := Aside0.mk f1_
  have HK2 := Aside0.mk f2_
  have HK3 := Aside0.mk f3_
  have HK4 := Aside0.mk f4_
  have HK5 := Aside0.mk f5_
  clear f0_ f1_ f2_ f3_ f4_ f5_
  obtain ⟨hw0, hw1, hw2, hw3, hw4, hw5, hw6⟩ := hw
  have HW0 := Aside0.mk hw0
  clear hw0
  have HW1 := Aside0.mk hw1
  clear hw1
  clear hw2
  have HW3 := Aside0.mk hw3
  clear hw3
  clear hw4
  clear hw5
  clear hw6
  have HB := Aside0.mk (below_alloc (Below.refl w.heap.size w) (.cells #[.slice A0 x.Program.Nodes.length c0, .slice A1 x.Program.Monitors.length c1, .slice A2 x.Program.Processes.length c2, .slice A3 x.Actors.length c3, .slice A4 x.Gates.length c4, .slice A5 x.Vars.length c5, .slice A6 x.Input.length c6, .slice A7 x.Events.length c7, .bool x.Stopped] 96 (0, 0)))
  clear h
  go_enter Try.func52, Try.ntmps52
  go_wp2_with (first | (go_at_call 45; (with_reducible refine (szProgram.calls _ _ _ _ (kProgram.K_below HB.out HK0.out) HW0.out (by omega) (by omega)).mono ?_); rintro e w0 ⟨r, rfl, ⟨g1, g2, g3⟩, hb⟩; obtain ⟨hcw0, hfw0⟩ := bcell hb; have hzw0_0 : w.heap.size < w0.heap.size := (by have := hb.size; (try simp at this); omega); have HS0 := Aside0.mk g3; have HB' := Aside0.mk (bstep HB.out hb); clear HB hb g3; have HB := HB'; clear HB') | (go_at_call 109; (with_reducible refine (szActorS.calls _ _ _ _ (HK1.out.below HB.out) HW1.out (by omega) (by omega)).mono ?_); rintro e w1 ⟨r, rfl, ⟨g1, g2, g3⟩, hb⟩; obtain ⟨hcw1, hfw1⟩ := bcell hb; have hzw1_0 : w.heap.size < w1.heap.size := (by have := hb.size; (try simp at this); omega); have HS1 := Aside0.mk g3; have HB' := Aside0.mk (bstep HB.out hb); clear HB hb g3; have HB := HB'; clear HB') | (go_at_call 110; (with_reducible refine (szGateS.calls _ _ _ _ (HK2.out.below HB.out) (by omega) (by omega)).mono ?_); rintro e w2 ⟨r, rfl, ⟨g1, g2, g3⟩, hb⟩; obtain ⟨hcw2, hfw2⟩ := bcell hb; have hzw2_0 : w.heap.size < w2.heap.size := (by have := hb.size; (try simp at this); omega); have HS2 := Aside0.mk g3; have HB' := Aside0.mk (bstep HB.out hb); clear HB hb g3; have HB := HB'; clear HB') | (go_at_call 111; (with_reducible refine (szEnvS.calls _ _ _ _ (HK3.out.below HB.out) HW3.out (by omega) (by omega)).mono ?_); rintro e w3 ⟨r, rfl, ⟨g1, g2, g3⟩, hb⟩; obtain ⟨hcw3, hfw3⟩ := bcell hb; have hzw3_0 : w.heap.size < w3.heap.size := (by have := hb.size; (try simp at this); omega); have HS3 := Aside0.mk g3; have HB' := Aside0.mk (bstep HB.out hb); clear HB hb g3; have HB := HB'; clear HB') | (go_at_call 61; (with_reducible refine (szIntS.calls _ _ _ _ (HK4.out.below HB.out) (by omega) (by omega)).mono ?_); rintro e w4 ⟨r, rfl, ⟨g1, g2, g3⟩, hb⟩; obtain ⟨hcw4, hfw4⟩ := bcell hb; have hzw4_0 : w.heap.size < w4.heap.size := (by have := hb.size; (try simp at this); omega); have HS4 := Aside0.mk g3; have HB' := Aside0.mk (bstep HB.out hb); clear HB hb g3; have HB := HB'; clear HB') | (go_at_call 12; (with_reducible refine (szEventS.calls _ _ _ _ (HK5.out.below HB.out) (by omega) (by omega)).mono ?_); rintro e w5 ⟨r, rfl, ⟨g1, g2, g3⟩, hb⟩; obtain ⟨hcw5, hfw5⟩ := bcell hb; have hzw5_0 : w.heap.size < w5.heap.size := (by have := hb.size; (try simp at this); omega); have HS5 := Aside0.mk g3; have HB' := Aside0.mk (bstep HB.out hb); clear HB hb g3; have HB := HB'; clear HB'))
  all_goals
    go_ret
    first
      | exact ⟨_, rfl, ⟨by omega, by omega, fun h => ⟨HS0.out (by omega), HS1.out (by omega), HS2.out (by omega), HS3.out (by omega), HS4.out (by omega), HS5.out (by omega)⟩⟩, HB.out⟩
      | exact ⟨_, rfl, ⟨by omega, by omega, fun h => absurd h (by omega)⟩, HB.out⟩
set_option maxHeartbeats 4000000 in
set_option maxRecDepth 100000 in
theorem toModel.calls (w : World) (x : TModel) (cs : List Value) (h : kModel.K w x cs) (hs : smModel x) :
    Calls Try.prog 54 #[.agg cs.toArray] w (NewM kModel x w) := by
  obtain ⟨A0, c0, A1, c1, A2, c2, A3, c3, A4, c4, A5, c5, A6, c6, A7, c7, rfl, f0_, f1_, f2_, f3_, f4_, f5_⟩ := kModel_open h
  have HK0 := Aside0.mk f0_
  have HK1 := Aside0.mk f1_
  have HK2 := Aside0.mk f2_
  have HK3 := Aside0.mk f3_
  have HK4 := Aside0.mk f4_
  have HK5 := Aside0.mk f5_
  clear f0_ f1_ f2_ f3_ f4_ f5_
  obtain ⟨s0, s1, s2, s3, s4, s5⟩ := hs
  have HS0 := Aside0.mk s0
  clear s0
  have HS1 := Aside0.mk s1
  clear s1
  have HS2 := Aside0.mk s2
  clear s2
  have HS3 := Aside0.mk s3
  clear s3
  have HS4 := Aside0.mk s4
  clear s4
  have HS5 := Aside0.mk s5
  clear s5
  clear h
  have HB := Aside0.mk (Below.refl w.heap.size w)
  go_enter Try.func54, Try.ntmps54
  go_wp2_with (first | (go_at_call 47; (with_reducible refine (toProgram.calls _ _ _ (kProgram.K_below (by with_reducible repeat (first | refine below_set ?_ (by omega) | apply below_alloc | exact HB.out)) HK0.out) HS0.out).mono ?_); rintro e w0 ⟨ds, rfl, hM, hb⟩; have HL0 := Aside0.mk hb; obtain ⟨B0_0, d0_0, B0_1, d0_1, B0_2, d0_2, rfl, _⟩ := kProgram_open (kProgram.K_of_M hM); obtain ⟨hcw0, hfw0⟩ := bcell hb; have hzw0_0 : w.heap.size < w0.heap.size := (by have := hb.size; (try simp at this); omega); have hzw0_1 : w.heap.size + 1 < w0.heap.size := (by have := hb.size; (try simp at this); omega); have hzw0_2 : w.heap.size + 2 < w0.heap.size := (by have := hb.size; (try simp at this); omega); have HR0 := Aside0.mk hM; have HB' := Aside0.mk (bstep (w := w) (by with_reducible repeat (first | refine below_set ?_ (by omega) | apply below_alloc | exact HB.out)) hb); clear HB hb hM; have HB := HB'; clear HB') | (go_at_call 113; (with_reducible refine (toActorS.calls _ _ _ (HK1.out.below (by with_reducible repeat (first | refine below_set ?_ (by omega) | apply below_alloc | exact HB.out))) HS1.out).mono ?_); rintro e w1 ⟨v1, rfl, hR, hb⟩; have HL1 := Aside0.mk hb; obtain ⟨B1, d1, rfl⟩ := Kd.R_slice hR; obtain ⟨hcw1, hfw1⟩ := bcell hb; have hzw1_0 : w.heap.size < w1.heap.size := (by have := hb.size; (try simp at this); omega); have hzw1_1 : w.heap.size + 1 < w1.heap.size := (by have := hb.size; (try simp at this); omega); have hzw1_2 : w.heap.size + 2 < w1.heap.size := (by have := hb.size; (try simp at this); omega); have HR1 := Aside0.mk hR; have HB' := Aside0.mk (bstep (w := w) (by with_reducible repeat (first | refine below_set ?_ (by omega) | apply below_alloc | exact HB.out)) hb); clear HB hb hR; have HB := HB'; clear HB') | (go_at_call 114; (with_reducible refine (toGateS.calls _ _ _ (HK2.out.below (by with_reducible repeat (first | refine below_set ?_ (by omega) | apply below_alloc | exact HB.out))) HS2.out).mono ?_); rintro e w2 ⟨v2, rfl, hR, hb⟩; have HL2 := Aside0.mk hb; obtain ⟨B2, d2, rfl⟩ := Kd.R_slice hR; obtain ⟨hcw2, hfw2⟩ := bcell hb; have hzw2_0 : w.heap.size < w2.heap.size := (by have := hb.size; (try simp at this); omega); have hzw2_1 : w.heap.size + 1 < w2.heap.size := (by have := hb.size; (try simp at this); omega); have hzw2_2 : w.heap.size + 2 < w2.heap.size := (by have := hb.size; (try simp at this); omega); have HR2 := Aside0.mk hR; have HB' := Aside0.mk (bstep (w := w) (by with_reducible repeat (first | refine below_set ?_ (by omega) | apply below_alloc | exact HB.out)) hb); clear HB hb hR; have HB := HB'; clear HB') | (go_at_call 115; (with_reducible refine (toEnvS.calls _ _ _ (HK3.out.below (by with_reducible repeat (first | refine below_set ?_ (by omega) | apply below_alloc | exact HB.out))) HS3.out).mono ?_); rintro e w3 ⟨v3, rfl, hR, hb⟩; have HL3 := Aside0.mk hb; obtain ⟨B3, d3, rfl⟩ := Kd.R_slice hR; obtain ⟨hcw3, hfw3⟩ := bcell hb; have hzw3_0 : w.heap.size < w3.heap.size := (by have := hb.size; (try simp at this); omega); have hzw3_1 : w.heap.size + 1 < w3.heap.size := (by have := hb.size; (try simp at this); omega); have hzw3_2 : w.heap.size + 2 < w3.heap.size := (by have := hb.size; (try simp at this); omega); have HR3 := Aside0.mk hR; have HB' := Aside0.mk (bstep (w := w) (by with_reducible repeat (first | refine below_set ?_ (by omega) | apply below_alloc | exact HB.out)) hb); clear HB hb hR; have HB := HB'; clear HB') | (go_at_call 63; (with_reducible refine (toIntS.calls _ _ _ (HK4.out.below (by with_reducible repeat (first | refine below_set ?_ (by omega) | apply below_alloc | exact HB.out))) HS4.out).mono ?_); rintro e w4 ⟨v4, rfl, hR, hb⟩; have HL4 := Aside0.mk hb; obtain ⟨B4, d4, rfl⟩ := Kd.R_slice hR; obtain ⟨hcw4, hfw4⟩ := bcell hb; have hzw4_0 : w.heap.size < w4.heap.size := (by have := hb.size; (try simp at this); omega); have hzw4_1 : w.heap.size + 1 < w4.heap.size := (by have := hb.size; (try simp at this); omega); have hzw4_2 : w.heap.size + 2 < w4.heap.size := (by have := hb.size; (try simp at this); omega); have HR4 := Aside0.mk hR; have HB' := Aside0.mk (bstep (w := w) (by with_reducible repeat (first | refine below_set ?_ (by omega) | apply below_alloc | exact HB.out)) hb); clear HB hb hR; have HB := HB'; clear HB') | (go_at_call 14; (with_reducible refine (toEventS.calls _ _ _ (HK5.out.below (by with_reducible repeat (first | refine below_set ?_ (by omega) | apply below_alloc | exact HB.out))) HS5.out).mono ?_); rintro e w5 ⟨v5, rfl, hR, hb⟩; have HL5 := Aside0.mk hb; obtain ⟨B5, d5, rfl⟩ := Kd.R_slice hR; obtain ⟨hcw5, hfw5⟩ := bcell hb; have hzw5_0 : w.heap.size < w5.heap.size := (by have := hb.size; (try simp at this); omega); have hzw5_1 : w.heap.size + 1 < w5.heap.size := (by have := hb.size; (try simp at this); omega); have hzw5_2 : w.heap.size + 2 < w5.heap.size := (by have := hb.size; (try simp at this); omega); have HR5 := Aside0.mk hR; have HB' := Aside0.mk (bstep (w := w) (by with_reducible repeat (first | refine below_set ?_ (by omega) | apply below_alloc | exact HB.out)) hb); clear HB hb hR; have HB := HB'; clear HB'))
  refine bodyPost_ret (v := .agg #[.slice B0_0 x.Program.Nodes.length d0_0, .slice B0_1 x.Program.Monitors.length d0_1, .slice B0_2 x.Program.Processes.length d0_2, .slice B1 x.Actors.length d1, .slice B2 x.Gates.length d2, .slice B3 x.Vars.length d3, .slice B4 x.Input.length d4, .slice B5 x.Events.length d5, .bool x.Stopped]) (by simp [results, Try.results54, go_sem, hcw0, hcw1, hcw2, hcw3, hcw4, hcw5, hfw0, hfw1, hfw2, hfw3, hfw4, hfw5, hzw0_0, hzw0_1, hzw0_2, hzw1_0, hzw1_1, hzw1_2, hzw2_0, hzw2_1, hzw2_2, hzw3_0, hzw3_1, hzw3_2, hzw4_0, hzw4_1, hzw4_2, hzw5_0, hzw5_1, hzw5_2]) rfl ⟨_, rfl, kModel_mkM _ _ x _ _ _ (kProgram.M_lower (by first | omega | (simp <;> omega)) (M_kept (lo := w.heap.size + 3) HR0.out (by first | omega | (simp <;> omega)) (by with_reducible repeat (first | refine Kept.set ?_ (by simp) _ | exact Kept.refl _ _ | refine Kept.below ?_ HL1.out | refine Kept.below ?_ HL2.out | refine Kept.below ?_ HL3.out | refine Kept.below ?_ HL4.out | refine Kept.below ?_ HL5.out)))) _ (Kd.R_lower (R_kept (lo := w.heap.size + 3) HR1.out (by first | omega | (simp <;> omega)) (by with_reducible repeat (first | refine Kept.set ?_ (by simp) _ | exact Kept.refl _ _ | refine Kept.below ?_ HL2.out | refine Kept.below ?_ HL3.out | refine Kept.below ?_ HL4.out | refine Kept.below ?_ HL5.out))) (by first | omega | (simp <;> omega))) _ (Kd.R_lower (R_kept (lo := w.heap.size + 3) HR2.out (by first | omega | (simp <;> omega)) (by with_reducible repeat (first | refine Kept.set ?_ (by simp) _ | exact Kept.refl _ _ | refine Kept.below ?_ HL3.out | refine Kept.below ?_ HL4.out | refine Kept.below ?_ HL5.out))) (by first | omega | (simp <;> omega))) _ (Kd.R_lower (R_kept (lo := w.heap.size + 3) HR3.out (by first | omega | (simp <;> omega)) (by with_reducible repeat (first | refine Kept.set ?_ (by simp) _ | exact Kept.refl _ _ | refine Kept.below ?_ HL4.out | refine Kept.below ?_ HL5.out))) (by first | omega | (simp <;> omega))) _ (Kd.R_lower (R_kept (lo := w.heap.size + 3) HR4.out (by first | omega | (simp <;> omega)) (by with_reducible repeat (first | refine Kept.set ?_ (by simp) _ | exact Kept.refl _ _ | refine Kept.below ?_ HL5.out))) (by first | omega | (simp <;> omega))) _ (Kd.R_lower (R_kept (lo := w.heap.size + 3) HR5.out (by first | omega | (simp <;> omega)) (by with_reducible repeat (first | refine Kept.set ?_ (by simp) _ | exact Kept.refl _ _))) (by first | omega | (simp <;> omega))), ?_⟩
  with_reducible repeat (first | refine below_set ?_ (by omega) | apply below_alloc | exact HB.out)
set_option maxHeartbeats 4000000 in
set_option maxRecDepth 100000 in
theorem eqModel.calls (w : World) (x : TModel) (cs ds : List Value) (h : kModel.K w x cs) (h' : kModel.K w x ds) :
    Calls Try.prog 56 #[.agg cs.toArray, .agg ds.toArray] w fun e w' => e = .returned (.bool true) ∧ Below w.heap.size w w' := by
  obtain ⟨A0, c0, A1, c1, A2, c2, A3, c3, A4, c4, A5, c5, A6, c6, A7, c7, rfl, f0_, f1_, f2_, f3_, f4_, f5_⟩ := kModel_open h
  have HK0 := Aside0.mk f0_
  have HK1 := Aside0.mk f1_
  have HK2 := Aside0.mk f2_
  have HK3 := Aside0.mk f3_
  have HK4 := Aside0.mk f4_
  have HK5 := Aside0.mk f5_
  clear f0_ f1_ f2_ f3_ f4_ f5_
  obtain ⟨B0, d0, B1, d1, B2, d2, B3, d3, B4, d4, B5, d5, B6, d6, B7, d7, rfl, q0_, q1_, q2_, q3_, q4_, q5_⟩ := kModel_open h'
  have HL0 := Aside0.mk q0_
  have HL1 := Aside0.mk q1_
  have HL2 := Aside0.mk q2_
  have HL3 := Aside0.mk q3_
  have HL4 := Aside0.mk q4_
  have HL5 := Aside0.mk q5_
  clear q0_ q1_ q2_ q3_ q4_ q5_
  clear h h'
  have HB := Aside0.mk (below_alloc (below_alloc (Below.refl w.heap.size w) (.cells #[.slice A0 x.Program.Nodes.length c0, .slice A1 x.Program.Monitors.length c1, .slice A2 x.Program.Processes.length c2, .slice A3 x.Actors.length c3, .slice A4 x.Gates.length c4, .slice A5 x.Vars.length c5, .slice A6 x.Input.length c6, .slice A7 x.Events.length c7, .bool x.Stopped] 102 (0, 0))) (.cells #[.slice B0 x.Program.Nodes.length d0, .slice B1 x.Program.Monitors.length d1, .slice B2 x.Program.Processes.length d2, .slice B3 x.Actors.length d3, .slice B4 x.Gates.length d4, .slice B5 x.Vars.length d5, .slice B6 x.Input.length d6, .slice B7 x.Events.length d7, .bool x.Stopped] 102 (0, 0)))
  go_enter Try.func56, Try.ntmps56
  go_wp2_with (first | (go_at_call 49; (with_reducible refine (eqProgram.calls _ _ _ _ (kProgram.K_below HB.out HK0.out) (kProgram.K_below HB.out HL0.out)).mono ?_); rintro e w0 ⟨rfl, hb⟩; obtain ⟨hcw0, hfw0⟩ := bcell hb; have hzw0_0 : w.heap.size < w0.heap.size := (by have := hb.size; (try simp at this); omega); have hzw0_1 : w.heap.size + 1 < w0.heap.size := (by have := hb.size; (try simp at this); omega); have HB' := Aside0.mk (bstep HB.out hb); clear HB hb; have HB := HB'; clear HB') | (go_at_call 118; (with_reducible refine (eqActorS.calls _ _ _ _ (HK1.out.below HB.out) (HL1.out.below HB.out)).mono ?_); rintro e w1 ⟨rfl, hb⟩; obtain ⟨hcw1, hfw1⟩ := bcell hb; have hzw1_0 : w.heap.size < w1.heap.size := (by have := hb.size; (try simp at this); omega); have hzw1_1 : w.heap.size + 1 < w1.heap.size := (by have := hb.size; (try simp at this); omega); have HB' := Aside0.mk (bstep HB.out hb); clear HB hb; have HB := HB'; clear HB') | (go_at_call 119; (with_reducible refine (eqGateS.calls _ _ _ _ (HK2.out.below HB.out) (HL2.out.below HB.out)).mono ?_); rintro e w2 ⟨rfl, hb⟩; obtain ⟨hcw2, hfw2⟩ := bcell hb; have hzw2_0 : w.heap.size < w2.heap.size := (by have := hb.size; (try simp at this); omega); have hzw2_1 : w.heap.size + 1 < w2.heap.size := (by have := hb.size; (try simp at this); omega); have HB' := Aside0.mk (bstep HB.out hb); clear HB hb; have HB := HB'; clear HB') | (go_at_call 120; (with_reducible refine (eqEnvS.calls _ _ _ _ (HK3.out.below HB.out) (HL3.out.below HB.out)).mono ?_); rintro e w3 ⟨rfl, hb⟩; obtain ⟨hcw3, hfw3⟩ := bcell hb; have hzw3_0 : w.heap.size < w3.heap.size := (by have := hb.size; (try simp at this); omega); have hzw3_1 : w.heap.size + 1 < w3.heap.size := (by have := hb.size; (try simp at this); omega); have HB' := Aside0.mk (bstep HB.out hb); clear HB hb; have HB := HB'; clear HB') | (go_at_call 65; (with_reducible refine (eqIntS.calls _ _ _ _ (HK4.out.below HB.out) (HL4.out.below HB.out)).mono ?_); rintro e w4 ⟨rfl, hb⟩; obtain ⟨hcw4, hfw4⟩ := bcell hb; have hzw4_0 : w.heap.size < w4.heap.size := (by have := hb.size; (try simp at this); omega); have hzw4_1 : w.heap.size + 1 < w4.heap.size := (by have := hb.size; (try simp at this); omega); have HB' := Aside0.mk (bstep HB.out hb); clear HB hb; have HB := HB'; clear HB') | (go_at_call 16; (with_reducible refine (eqEventS.calls _ _ _ _ (HK5.out.below HB.out) (HL5.out.below HB.out)).mono ?_); rintro e w5 ⟨rfl, hb⟩; obtain ⟨hcw5, hfw5⟩ := bcell hb; have hzw5_0 : w.heap.size < w5.heap.size := (by have := hb.size; (try simp at this); omega); have hzw5_1 : w.heap.size + 1 < w5.heap.size := (by have := hb.size; (try simp at this); omega); have HB' := Aside0.mk (bstep HB.out hb); clear HB hb; have HB := HB'; clear HB'))
  go_ret
  exact ⟨rfl, HB.out⟩
end Go.Proofs.Ytgeoipplkjgnfaa
