/- Walks of the functions that measure, copy and compare programs: what they come to when their arguments are read from memory. Printed by gen.py, this session's own program. -/
import Derived.Test.YtgeoipplkjgnfaaFamA
set_option linter.unusedSimpArgs false
set_option linter.unusedVariables false
namespace Go.Proofs.Ytgeoipplkjgnfaa
open Go.RowKit Go.Proofs.YtgeoipplkjgnfaaW.PrintWords Go.Proofs.Ytgeoipplkjgnfaa.Lib
structure TNode where
  Kind : Int
  Num : Int
  Name : ByteArray
  More : ByteArray
  To : ByteArray
  Kids : List Int
instance : Inhabited TNode := ⟨⟨0, 0, ByteArray.empty, ByteArray.empty, ByteArray.empty, []⟩⟩
def kNode : Kd TNode := Kd.iso (Kd.pair (Kd.int .i64) (Kd.pair (Kd.int .i64) (Kd.pair Kd.string (Kd.pair Kd.string (Kd.pair Kd.string (Kd.slice 3 (Kd.int .i64))))))) (fun x => (x.Kind, x.Num, x.Name, x.More, x.To, x.Kids))
theorem kNode_sz : kNode.sz = 6 := rfl
theorem kNode_open {w : World} {x : TNode} {cs : List Value} (h : kNode.K w x cs) : ∃ A0 c0, cs = [.int .i64 x.Kind, .int .i64 x.Num, .string x.Name, .string x.More, .string x.To, .slice A0 x.Kids.length c0] ∧ SK (Kd.int .i64) w x.Kids (.slice A0 x.Kids.length c0) := by
  obtain ⟨_, _, rfl, rfl, _, _, rfl, rfl, _, _, rfl, rfl, _, _, rfl, rfl, _, _, rfl, rfl, ⟨A0, c0, rfl, l0, C0⟩⟩ := h
  exact ⟨A0, c0, rfl, ⟨A0, c0, rfl, l0, C0⟩⟩
theorem kNode_mkM (w : World) (base : Nat) (x : TNode) (v0 : Value) (h0 : Kd.R (Kd.int .i64) 3 w base (fun _ => True) v0 x.Kids) : kNode.M w base (fun _ => True) x [.int .i64 x.Kind, .int .i64 x.Num, .string x.Name, .string x.More, .string x.To, v0] :=
  ⟨[_], _, rfl, rfl, ⟨[_], _, rfl, rfl, ⟨[_], _, rfl, rfl, ⟨[_], _, rfl, rfl, ⟨[_], _, rfl, rfl, ⟨v0, rfl, h0⟩⟩⟩⟩⟩⟩
theorem kNode_zM (w : World) (base : Nat) : kNode.M w base (fun _ => True) ⟨0, 0, ByteArray.empty, ByteArray.empty, ByteArray.empty, []⟩ [.int .i64 0, .int .i64 0, .string ByteArray.empty, .string ByteArray.empty, .string ByteArray.empty, .slice none 0 0] := kNode_mkM w base ⟨0, 0, ByteArray.empty, ByteArray.empty, ByteArray.empty, []⟩ _ (Kd.R_nil _ _ _ _ _)
def wfNode (x : TNode) : Prop := (Lit.int .i64 x.Kind).wf = true ∧ (Lit.int .i64 x.Num).wf = true ∧ x.Name.size ≤ 9223372036854775807 ∧ x.More.size ≤ 9223372036854775807 ∧ x.To.size ≤ 9223372036854775807 ∧ (∀ y ∈ x.Kids, (Lit.int .i64 y).wf = true)
def smNode (x : TNode) : Prop := x.Name.size ≤ 1048576 ∧ x.More.size ≤ 1048576 ∧ x.To.size ≤ 1048576 ∧ x.Kids.length ≤ 1048576
set_option maxHeartbeats 2000000 in
theorem szNode.calls (w : World) (x : TNode) (cs : List Value) (left : Int) (h : kNode.K w x cs) (hw : wfNode x) (h0 : 0 ≤ left) (h1 : left ≤ 1048576) :
    Calls Try.prog 133 #[.agg cs.toArray, .int .i64 left] w (SzPost left (smNode x) w) := by
  obtain ⟨A0, c0, rfl, f5_⟩ := kNode_open h
  have HK5 := Aside0.mk f5_
  clear f5_
  obtain ⟨hw0, hw1, hw2, hw3, hw4, hw5⟩ := hw
  clear hw0
  clear hw1
  clear hw5
  have hnName : (0 : Int) ≤ x.Name.size := Int.natCast_nonneg _
  have hnMore : (0 : Int) ≤ x.More.size := Int.natCast_nonneg _
  have hnTo : (0 : Int) ≤ x.To.size := Int.natCast_nonneg _
  have HB := Aside0.mk (below_alloc (Below.refl w.heap.size w) (.cells #[.int .i64 x.Kind, .int .i64 x.Num, .string x.Name, .string x.More, .string x.To, .slice A0 x.Kids.length c0] 187 (0, 0)))
  clear h
  go_enter Try.func133, Try.ntmps133
  go_wp2_with (first | (go_at_call 61; (with_reducible refine (szIntS.calls _ _ _ _ (HK5.out.below HB.out) (by omega) (by omega)).mono ?_); rintro e w5 ⟨r, rfl, ⟨g1, g2, g3⟩, hb⟩; obtain ⟨hcw5, hfw5⟩ := bcell hb; have hzw5_0 : w.heap.size < w5.heap.size := (by have := hb.size; (try simp at this); omega); have HS5 := Aside0.mk g3; have HB' := Aside0.mk (bstep HB.out hb); clear HB hb g3; have HB := HB'; clear HB'))
  all_goals
    go_ret
    first
      | exact ⟨_, rfl, ⟨by omega, by omega, fun h => ⟨by omega, by omega, by omega, HS5.out (by omega)⟩⟩, HB.out⟩
      | exact ⟨_, rfl, ⟨by omega, by omega, fun h => absurd h (by omega)⟩, HB.out⟩
set_option maxHeartbeats 2000000 in
theorem szNodeS.calls (w : World) (xs : List TNode) (v : Value) (left : Int) (h : SK kNode w xs v) (hw : (∀ y ∈ xs, wfNode y)) (h0 : 0 ≤ left) (h1 : left ≤ 1048576) :
    Calls Try.prog 90 #[v, .int .i64 left] w (SzPost left ((xs.length ≤ 1048576 ∧ ∀ y ∈ xs, smNode y)) w) := by
  obtain ⟨A, c, rfl, _, hC⟩ := h
  have hn : xs.length ≤ 9223372036854775807 := hC.2.1
  have HW := Aside0.mk hw
  clear hw
  have HK := Aside0.mk hC
  clear hC
  go_enter Try.func90, Try.ntmps90
  by_cases hlen : (xs.length : Int) ≤ left
  · go_wp2
    go_loopw [1, 5] (fun l i wr => ∃ (r : Int) (k : Nat), l = .int .i64 r ∧ i = .int .i64 k ∧ k ≤ xs.length ∧ 0 ≤ r ∧ r ≤ left ∧ Aside0 (∀ y ∈ xs.take k, smNode y) ∧ Aside0 (Below w.heap.size w wr)) (fun _ i _ => xs.length - (intOf i).toNat)
    case atStart => exact ⟨_, 0, rfl, rfl, by omega, by omega, by omega, ⟨by simp⟩, ⟨Below.refl _ _⟩⟩
    case round =>
      obtain ⟨r, k, rfl, rfl, hk, hr0, hr1, HS, HB⟩ := hrel
      by_cases hlt : k < xs.length
      · obtain ⟨ad, cs, e, _, hKe, hcell⟩ := Kd.C_get (Kd.C_below HK.out HB.out) ⟨0, 0, ByteArray.empty, ByteArray.empty, ByteArray.empty, []⟩ (k : Int) (by omega) (by omega)
        rw [show xs.getD ((k : Int)).toNat ⟨0, 0, ByteArray.empty, ByteArray.empty, ByteArray.empty, []⟩ = xs[k] by simp [List.getD, hlt]] at hKe
        have HKe := Aside0.mk hKe
        obtain ⟨A0, c0, rfl, _⟩ := kNode_open hKe
        cases e
        have hc0 := hcell 0 _ rfl
        have hc1 := hcell 1 _ rfl
        have hc2 := hcell 2 _ rfl
        have hc3 := hcell 3 _ rfl
        have hc4 := hcell 4 _ rfl
        have hc5 := hcell 5 _ rfl
        simp only [Int.toNat_natCast, show kNode.sz = 6 from rfl, add_field _ _ 1 (by omega), add_field _ _ 2 (by omega), add_field _ _ 3 (by omega), add_field _ _ 4 (by omega), add_field _ _ 5 (by omega), Nat.mul_one, Nat.add_zero] at hc0 hc1 hc2 hc3 hc4 hc5
        clear hcell hKe
        go_wp2_with (go_at_call 133; refine (szNode.calls _ xs[k] _ _ HKe.out (HW.out _ (List.getElem_mem hlt)) (by omega) (by omega)).mono ?_; rintro e w1 ⟨r1, rfl, ⟨g1, g2, g3⟩, hb⟩; have HB1 := Aside0.mk (bstep HB.out hb); have HS1 := Aside0.mk g3; clear hb g3)
        · go_ret
          exact ⟨_, rfl, ⟨by omega, by omega, fun h => absurd h (by omega)⟩, HB1.out⟩
        · go_roundw
          case rel => exact ⟨_, k + 1, rfl, by go_num, by omega, by omega, by omega, ⟨fun y hy => by rw [List.take_succ_eq_append_getElem hlt] at hy; rcases List.mem_append.1 hy with hy | hy; exact HS.out y hy; rw [List.mem_singleton.1 hy]; exact HS1.out (by omega)⟩, HB1⟩
          case measure => simp [intOf]; omega
      · have e : k = xs.length := by omega
        subst e
        go_wp2
        go_ret
        exact ⟨_, rfl, ⟨by omega, by omega, fun _ => ⟨by omega, fun y hy => HS.out y (by rw [List.take_length]; exact hy)⟩⟩, HB.out⟩
  · go_wp2
    go_ret
    exact ⟨_, rfl, ⟨by omega, by omega, fun h => absurd h (by omega)⟩, Below.refl _ _⟩
set_option maxHeartbeats 4000000 in
set_option maxRecDepth 100000 in
theorem toNode.calls (w : World) (x : TNode) (cs : List Value) (h : kNode.K w x cs) (hs : smNode x) :
    Calls Try.prog 137 #[.agg cs.toArray] w (NewM kNode x w) := by
  obtain ⟨A0, c0, rfl, f5_⟩ := kNode_open h
  have HK5 := Aside0.mk f5_
  clear f5_
  obtain ⟨s2, s3, s4, s5⟩ := hs
  have HS5 := Aside0.mk s5
  clear s5
  clear h
  have HB := Aside0.mk (Below.refl w.heap.size w)
  go_enter Try.func137, Try.ntmps137
  go_wp2_with (first | (go_at_call 63; (with_reducible refine (toIntS.calls _ _ _ (HK5.out.below (by with_reducible repeat (first | refine below_set ?_ (by omega) | apply below_alloc | exact HB.out))) HS5.out).mono ?_); rintro e w5 ⟨v5, rfl, hR, hb⟩; have HL5 := Aside0.mk hb; obtain ⟨B5, d5, rfl⟩ := Kd.R_slice hR; obtain ⟨hcw5, hfw5⟩ := bcell hb; have hzw5_0 : w.heap.size < w5.heap.size := (by have := hb.size; (try simp at this); omega); have hzw5_1 : w.heap.size + 1 < w5.heap.size := (by have := hb.size; (try simp at this); omega); have hzw5_2 : w.heap.size + 2 < w5.heap.size := (by have := hb.size; (try simp at this); omega); have HR5 := Aside0.mk hR; have HB' := Aside0.mk (bstep (w := w) (by with_reducible repeat (first | refine below_set ?_ (by omega) | apply below_alloc | exact HB.out)) hb); clear HB hb hR; have HB := HB'; clear HB'))
  refine bodyPost_ret (v := .agg #[.int .i64 x.Kind, .int .i64 x.Num, .string x.Name, .string x.More, .string x.To, .slice B5 x.Kids.length d5]) (by simp [results, Try.results137, go_sem, hcw5, hfw5, hzw5_0, hzw5_1, hzw5_2]) rfl ⟨_, rfl, kNode_mkM _ _ x _ (Kd.R_lower (R_kept (lo := w.heap.size + 3) HR5.out (by first | omega | (simp <;> omega)) (by with_reducible repeat (first | refine Kept.set ?_ (by simp) _ | exact Kept.refl _ _))) (by first | omega | (simp <;> omega))), ?_⟩
  with_reducible repeat (first | refine below_set ?_ (by omega) | apply below_alloc | exact HB.out)
theorem info195 : (Try.prog.info? 195).map (fun i => (i.zero, i.size, i.bytes)) = some (some (.agg #[.int .i64 0, .int .i64 0, .string ByteArray.empty, .string ByteArray.empty, .string ByteArray.empty, .slice none 0 0]), 6, 88) := by kernel_rfl
set_option maxHeartbeats 2000000 in
theorem toNodeS.calls (w : World) (xs : List TNode) (v : Value) (h : SK kNode w xs v) (hs : (xs.length ≤ 1048576 ∧ ∀ y ∈ xs, smNode y)) :
    Calls Try.prog 95 #[v] w (NewR kNode 195 xs w) := by
  obtain ⟨A, c, rfl, hl, hC⟩ := h
  have HK := Aside0.mk hC
  clear hC hl
  have hsl : xs.length ≤ 1048576 := hs.1
  have HS := Aside0.mk hs.2
  clear hs
  go_enter Try.func95, Try.ntmps95
  go_wp2_with ((with_reducible refine gate_dst (N := 7) rfl ?_); refine Kd.R_make kNode _ 195 rfl (N := 7) rfl 83 _ _ rfl (xs.length : Int) rfl rfl Try.underlying83 (.agg #[.int .i64 0, .int .i64 0, .string ByteArray.empty, .string ByteArray.empty, .string ByteArray.empty, .slice none 0 0]) 88 info195 rfl (by decide) (by omega) ⟨0, 0, ByteArray.empty, ByteArray.empty, ByteArray.empty, []⟩ (ok := fun _ => True) (okp := fun _ => True) (kNode_zM _ _) (fun _ hk => hk) trivial (by omega) (by omega) (Below.refl _ _) (Nat.le_refl _) ?_; intro v1 w1 HR hb _ _; simp only [Int.toNat_natCast] at HR; have HR1 := Aside0.mk HR; have HB1 := Aside0.mk hb; clear HR hb)
  go_loopw [4] (fun i wr => ∃ k : Nat, i = .int .i64 k ∧ k ≤ xs.length ∧ Aside0 (Kd.R kNode 195 wr w.heap.size (fun _ => True) v1 (xs.take k ++ List.replicate (xs.length - k) ⟨0, 0, ByteArray.empty, ByteArray.empty, ByteArray.empty, []⟩)) ∧ Aside0 (Below w.heap.size w wr)) (fun i _ => xs.length - (intOf i).toNat)
  case atStart => exact ⟨0, rfl, by omega, ⟨by simpa using HR1.out⟩, HB1⟩
  case round =>
    obtain ⟨k, rfl, hk, HR, HB⟩ := hrel
    clear HR1 HB1
    by_cases hlt : k < xs.length
    · obtain ⟨ad, cs, e, _, hKe, hcell⟩ := Kd.C_get (Kd.C_below HK.out HB.out) ⟨0, 0, ByteArray.empty, ByteArray.empty, ByteArray.empty, []⟩ (k : Int) (by omega) (by omega)
      rw [show xs.getD ((k : Int)).toNat ⟨0, 0, ByteArray.empty, ByteArray.empty, ByteArray.empty, []⟩ = xs[k] by simp [List.getD, hlt]] at hKe
      have HKe := Aside0.mk hKe
      obtain ⟨A0, c0, rfl, _⟩ := kNode_open hKe
      cases e
      have hc0 := hcell 0 _ rfl
      have hc1 := hcell 1 _ rfl
      have hc2 := hcell 2 _ rfl
      have hc3 := hcell 3 _ rfl
      have hc4 := hcell 4 _ rfl
      have hc5 := hcell 5 _ rfl
      simp only [Int.toNat_natCast, show kNode.sz = 6 from rfl, add_field _ _ 1 (by omega), add_field _ _ 2 (by omega), add_field _ _ 3 (by omega), add_field _ _ 4 (by omega), add_field _ _ 5 (by omega), Nat.mul_one, Nat.add_zero] at hc0 hc1 hc2 hc3 hc4 hc5
      clear hcell hKe
      obtain ⟨g, cap, e, hg0, hg1, cells, hcur⟩ := Kd.R_form HR.out (by rw [fill_len _ _ _ hk]; omega)
      rw [fill_len _ _ _ hk] at e
      subst e
      have hg := Aside0.mk (And.intro hg0 hg1)
      clear hg0 hg1 hcur
      go_wp2_with (first | (go_at_call 137; (with_reducible refine (toNode.calls _ xs[k] _ HKe.out (HS.out _ (List.getElem_mem hlt))).mono ?_); rintro e w2 ⟨ds, rfl, hM, hb⟩; have HM := Aside0.mk hM; have HR2 := Aside0.mk (Kd.R_below HR.out hb); have HB2 := Aside0.mk (bstep HB.out hb); have hg2 := Aside0.mk (show g < wr.heap.size ∧ w.heap.size ≤ wr.heap.size from ⟨hg.out.2, HB.out.size⟩)) | ((with_reducible refine gate_store (t := 195) (p := 21) rfl ?_); refine fill_store kNode rfl rfl 195 _ _ rfl k ⟨0, 0, ByteArray.empty, ByteArray.empty, ByteArray.empty, []⟩ xs[k] (.agg ds.toArray) wr.heap.size 6 rfl (by go_simp) (by go_simp) (by kernel_rfl) (by simpa [Value.cells] using kNode.K_one (kNode.K_of_M HM.out)) HR2.out hlt (by simpa [Value.cells] using HM.out) hg2.out.1 hg2.out.2 HB2.out ?_; intro w3 HR4 HB4 _; have HR3 := Aside0.mk HR4; have HB3 := Aside0.mk HB4; clear HR4 HB4))
      go_roundw
      case rel => exact ⟨k + 1, by go_num, by omega, ⟨by rw [← fill_set _ _ _ hlt]; exact HR3.out⟩, HB3⟩
      case measure => simp [intOf]; omega
    · have e : k = xs.length := by omega
      subst e
      go_wp2
      go_ret
      exact ⟨_, rfl, by simpa using HR.out, HB.out⟩
set_option maxHeartbeats 4000000 in
set_option maxRecDepth 100000 in
theorem eqNode.calls (w : World) (x : TNode) (cs ds : List Value) (h : kNode.K w x cs) (h' : kNode.K w x ds) :
    Calls Try.prog 143 #[.agg cs.toArray, .agg ds.toArray] w fun e w' => e = .returned (.bool true) ∧ Below w.heap.size w w' := by
  obtain ⟨A0, c0, rfl, f5_⟩ := kNode_open h
  have HK5 := Aside0.mk f5_
  clear f5_
  obtain ⟨B0, d0, rfl, q5_⟩ := kNode_open h'
  have HL5 := Aside0.mk q5_
  clear q5_
  clear h h'
  have HB := Aside0.mk (below_alloc (below_alloc (Below.refl w.heap.size w) (.cells #[.int .i64 x.Kind, .int .i64 x.Num, .string x.Name, .string x.More, .string x.To, .slice A0 x.Kids.length c0] 195 (0, 0))) (.cells #[.int .i64 x.Kind, .int .i64 x.Num, .string x.Name, .string x.More, .string x.To, .slice B0 x.Kids.length d0] 195 (0, 0)))
  go_enter Try.func143, Try.ntmps143
  go_wp2_with (first | (go_at_call 65; (with_reducible refine (eqIntS.calls _ _ _ _ (HK5.out.below HB.out) (HL5.out.below HB.out)).mono ?_); rintro e w5 ⟨rfl, hb⟩; obtain ⟨hcw5, hfw5⟩ := bcell hb; have hzw5_0 : w.heap.size < w5.heap.size := (by have := hb.size; (try simp at this); omega); have hzw5_1 : w.heap.size + 1 < w5.heap.size := (by have := hb.size; (try simp at this); omega); have HB' := Aside0.mk (bstep HB.out hb); clear HB hb; have HB := HB'; clear HB'))
  go_ret
  exact ⟨rfl, HB.out⟩
set_option maxHeartbeats 4000000 in
theorem eqNodeS.calls (w : World) (xs : List TNode) (v u : Value) (h : SK kNode w xs v) (h' : SK kNode w xs u) :
    Calls Try.prog 102 #[v, u] w fun e w' => e = .returned (.bool true) ∧ Below w.heap.size w w' := by
  obtain ⟨A, c, rfl, _, hC⟩ := h
  obtain ⟨A', c', rfl, _, hC'⟩ := h'
  have hn : xs.length ≤ 9223372036854775807 := hC.2.1
  have HK := Aside0.mk hC
  have HK' := Aside0.mk hC'
  clear hC hC'
  go_enter Try.func102, Try.ntmps102
  go_wp2
  go_loopw [5] (fun i wr => ∃ k : Nat, i = .int .i64 k ∧ k ≤ xs.length ∧ Aside0 (Below w.heap.size w wr)) (fun i _ => xs.length - (intOf i).toNat)
  case atStart => exact ⟨0, rfl, by omega, ⟨Below.refl _ _⟩⟩
  case round =>
    obtain ⟨k, rfl, hk, HB⟩ := hrel
    by_cases hlt : k < xs.length
    · obtain ⟨ad, cs, e, _, hKe, hcell⟩ := Kd.C_get (Kd.C_below HK.out HB.out) ⟨0, 0, ByteArray.empty, ByteArray.empty, ByteArray.empty, []⟩ (k : Int) (by omega) (by omega)
      rw [show xs.getD ((k : Int)).toNat ⟨0, 0, ByteArray.empty, ByteArray.empty, ByteArray.empty, []⟩ = xs[k] by simp [List.getD, hlt]] at hKe
      have HKe := Aside0.mk hKe
      obtain ⟨A0, c0, rfl, _⟩ := kNode_open hKe
      cases e
      have hc0 := hcell 0 _ rfl
      have hc1 := hcell 1 _ rfl
      have hc2 := hcell 2 _ rfl
      have hc3 := hcell 3 _ rfl
      have hc4 := hcell 4 _ rfl
      have hc5 := hcell 5 _ rfl
      simp only [Int.toNat_natCast, show kNode.sz = 6 from rfl, add_field _ _ 1 (by omega), add_field _ _ 2 (by omega), add_field _ _ 3 (by omega), add_field _ _ 4 (by omega), add_field _ _ 5 (by omega), Nat.mul_one, Nat.add_zero] at hc0 hc1 hc2 hc3 hc4 hc5
      clear hcell hKe
      obtain ⟨ad', cs', e', _, hKe', hcell'⟩ := Kd.C_get (Kd.C_below HK'.out HB.out) ⟨0, 0, ByteArray.empty, ByteArray.empty, ByteArray.empty, []⟩ (k : Int) (by omega) (by omega)
      rw [show xs.getD ((k : Int)).toNat ⟨0, 0, ByteArray.empty, ByteArray.empty, ByteArray.empty, []⟩ = xs[k] by simp [List.getD, hlt]] at hKe'
      have HKe' := Aside0.mk hKe'
      obtain ⟨B0, d0, rfl, _⟩ := kNode_open hKe'
      cases e'
      have hd0 := hcell' 0 _ rfl
      have hd1 := hcell' 1 _ rfl
      have hd2 := hcell' 2 _ rfl
      have hd3 := hcell' 3 _ rfl
      have hd4 := hcell' 4 _ rfl
      have hd5 := hcell' 5 _ rfl
      simp only [Int.toNat_natCast, show kNode.sz = 6 from rfl, add_field _ _ 1 (by omega), add_field _ _ 2 (by omega), add_field _ _ 3 (by omega), add_field _ _ 4 (by omega), add_field _ _ 5 (by omega), Nat.mul_one, Nat.add_zero] at hd0 hd1 hd2 hd3 hd4 hd5
      clear hcell' hKe'
      go_wp2
      go_region_held3 (fun w' => w'.cell? (ad.add (k * 6)) = some (.int .i64 xs[k].Kind) ∧ w'.cell? ⟨(ad.add (k * 6)).block, (ad.add (k * 6)).off + 1, none⟩ = some (.int .i64 xs[k].Num) ∧ w'.cell? ⟨(ad.add (k * 6)).block, (ad.add (k * 6)).off + 2, none⟩ = some (.string xs[k].Name) ∧ w'.cell? ⟨(ad.add (k * 6)).block, (ad.add (k * 6)).off + 3, none⟩ = some (.string xs[k].More) ∧ w'.cell? ⟨(ad.add (k * 6)).block, (ad.add (k * 6)).off + 4, none⟩ = some (.string xs[k].To) ∧ w'.cell? ⟨(ad.add (k * 6)).block, (ad.add (k * 6)).off + 5, none⟩ = some (.slice A0 xs[k].Kids.length c0) ∧ w'.cell? (ad'.add (k * 6)) = some (.int .i64 xs[k].Kind) ∧ w'.cell? ⟨(ad'.add (k * 6)).block, (ad'.add (k * 6)).off + 1, none⟩ = some (.int .i64 xs[k].Num) ∧ w'.cell? ⟨(ad'.add (k * 6)).block, (ad'.add (k * 6)).off + 2, none⟩ = some (.string xs[k].Name) ∧ w'.cell? ⟨(ad'.add (k * 6)).block, (ad'.add (k * 6)).off + 3, none⟩ = some (.string xs[k].More) ∧ w'.cell? ⟨(ad'.add (k * 6)).block, (ad'.add (k * 6)).off + 4, none⟩ = some (.string xs[k].To) ∧ w'.cell? ⟨(ad'.add (k * 6)).block, (ad'.add (k * 6)).off + 5, none⟩ = some (.slice B0 xs[k].Kids.length d0)) (first | exact ⟨hc0, hc1, hc2, hc3, hc4, hc5, hd0, hd1, hd2, hd3, hd4, hd5⟩ | exact ⟨pw_cell_below (w := wr.drew) (by assumption) hc0, pw_cell_below (w := wr.drew) (by assumption) hc1, pw_cell_below (w := wr.drew) (by assumption) hc2, pw_cell_below (w := wr.drew) (by assumption) hc3, pw_cell_below (w := wr.drew) (by assumption) hc4, pw_cell_below (w := wr.drew) (by assumption) hc5, pw_cell_below (w := wr.drew) (by assumption) hd0, pw_cell_below (w := wr.drew) (by assumption) hd1, pw_cell_below (w := wr.drew) (by assumption) hd2, pw_cell_below (w := wr.drew) (by assumption) hd3, pw_cell_below (w := wr.drew) (by assumption) hd4, pw_cell_below (w := wr.drew) (by assumption) hd5⟩) (first | (go_at_call 143; refine (eqNode.calls _ xs[k] _ _ (kNode.K_below (below_drew1 (Below.refl _ _)) HKe.out) (kNode.K_below (below_drew1 (Below.refl _ _)) HKe'.out)).mono ?_; rintro e w1 ⟨rfl, hb⟩))
      rename_i hb hS
      have HB1 := Aside0.mk (bstep (below_drew1 HB.out) hb)
      clear hb hS
      go_wp2
      go_roundw
      case rel => exact ⟨k + 1, by go_num, by omega, HB1⟩
      case measure => simp [intOf]; omega
    · have e : k = xs.length := by omega
      subst e
      go_wp2
      go_ret
      exact ⟨rfl, HB.out⟩
structure TEntry where
  Name : ByteArray
  Param : ByteArray
  Body : Int
instance : Inhabited TEntry := ⟨⟨ByteArray.empty, ByteArray.empty, 0⟩⟩
def kEntry : Kd TEntry := Kd.iso (Kd.pair Kd.string (Kd.pair Kd.string (Kd.int .i64))) (fun x => (x.Name, x.Param, x.Body))
theorem kEntry_sz : kEntry.sz = 3 := rfl
theorem kEntry_open {w : World} {x : TEntry} {cs : List Value} (h : kEntry.K w x cs) : cs = [.string x.Name, .string x.Param, .int .i64 x.Body] := by
  obtain ⟨_, _, rfl, rfl, _, _, rfl, rfl, rfl⟩ := h
  exact rfl
theorem kEntry_mkM (w : World) (base : Nat) (x : TEntry)  : kEntry.M w base (fun _ => True) x [.string x.Name, .string x.Param, .int .i64 x.Body] :=
  ⟨[_], _, rfl, rfl, ⟨[_], _, rfl, rfl, rfl⟩⟩
theorem kEntry_zM (w : World) (base : Nat) : kEntry.M w base (fun _ => True) ⟨ByteArray.empty, ByteArray.empty, 0⟩ [.string ByteArray.empty, .string ByteArray.empty, .int .i64 0] := kEntry_mkM w base ⟨ByteArray.empty, ByteArray.empty, 0⟩ 
def wfEntry (x : TEntry) : Prop := x.Name.size ≤ 9223372036854775807 ∧ x.Param.size ≤ 9223372036854775807 ∧ (Lit.int .i64 x.Body).wf = true
def smEntry (x : TEntry) : Prop := x.Name.size ≤ 1048576 ∧ x.Param.size ≤ 1048576
set_option maxHeartbeats 2000000 in
theorem szEntry.calls (w : World) (x : TEntry) (cs : List Value) (left : Int) (h : kEntry.K w x cs) (hw : wfEntry x) (h0 : 0 ≤ left) (h1 : left ≤ 1048576) :
    Calls Try.prog 170 #[.agg cs.toArray, .int .i64 left] w (SzPost left (smEntry x) w) := by
  obtain rfl := kEntry_open h
  obtain ⟨hw0, hw1, hw2⟩ := hw
  clear hw2
  have hnName : (0 : Int) ≤ x.Name.size := Int.natCast_nonneg _
  have hnParam : (0 : Int) ≤ x.Param.size := Int.natCast_nonneg _
  have HB := Aside0.mk (below_alloc (Below.refl w.heap.size w) (.cells #[.string x.Name, .string x.Param, .int .i64 x.Body] 234 (0, 0)))
  clear h
  go_enter Try.func170, Try.ntmps170
  go_wp2
  all_goals
    go_ret
    first
      | exact ⟨_, rfl, ⟨by omega, by omega, fun h => ⟨by omega, by omega⟩⟩, HB.out⟩
      | exact ⟨_, rfl, ⟨by omega, by omega, fun h => absurd h (by omega)⟩, HB.out⟩
set_option maxHeartbeats 2000000 in
theorem szEntryS.calls (w : World) (xs : List TEntry) (v : Value) (left : Int) (h : SK kEntry w xs v) (hw : (∀ y ∈ xs, wfEntry y)) (h0 : 0 ≤ left) (h1 : left ≤ 1048576) :
    Calls Try.prog 160 #[v, .int .i64 left] w (SzPost left ((xs.length ≤ 1048576 ∧ ∀ y ∈ xs, smEntry y)) w) := by
  obtain ⟨A, c, rfl, _, hC⟩ := h
  have hn : xs.length ≤ 9223372036854775807 := hC.2.1
  have HW := Aside0.mk hw
  clear hw
  have HK := Aside0.mk hC
  clear hC
  go_enter Try.func160, Try.ntmps160
  by_cases hlen : (xs.length : Int) ≤ left
  · go_wp2
    go_loopw [1, 5] (fun l i wr => ∃ (r : Int) (k : Nat), l = .int .i64 r ∧ i = .int .i64 k ∧ k ≤ xs.length ∧ 0 ≤ r ∧ r ≤ left ∧ Aside0 (∀ y ∈ xs.take k, smEntry y) ∧ Aside0 (Below w.heap.size w wr)) (fun _ i _ => xs.length - (intOf i).toNat)
    case atStart => exact ⟨_, 0, rfl, rfl, by omega, by omega, by omega, ⟨by simp⟩, ⟨Below.refl _ _⟩⟩
    case round =>
      obtain ⟨r, k, rfl, rfl, hk, hr0, hr1, HS, HB⟩ := hrel
      by_cases hlt : k < xs.length
      · obtain ⟨ad, cs, e, _, hKe, hcell⟩ := Kd.C_get (Kd.C_below HK.out HB.out) ⟨ByteArray.empty, ByteArray.empty, 0⟩ (k : Int) (by omega) (by omega)
        rw [show xs.getD ((k : Int)).toNat ⟨ByteArray.empty, ByteArray.empty, 0⟩ = xs[k] by simp [List.getD, hlt]] at hKe
        have HKe := Aside0.mk hKe
        obtain rfl := kEntry_open hKe
        cases e
        have hc0 := hcell 0 _ rfl
        have hc1 := hcell 1 _ rfl
        have hc2 := hcell 2 _ rfl
        simp only [Int.toNat_natCast, show kEntry.sz = 3 from rfl, add_field _ _ 1 (by omega), add_field _ _ 2 (by omega), Nat.mul_one, Nat.add_zero] at hc0 hc1 hc2
        clear hcell hKe
        go_wp2_with (go_at_call 170; refine (szEntry.calls _ xs[k] _ _ HKe.out (HW.out _ (List.getElem_mem hlt)) (by omega) (by omega)).mono ?_; rintro e w1 ⟨r1, rfl, ⟨g1, g2, g3⟩, hb⟩; have HB1 := Aside0.mk (bstep HB.out hb); have HS1 := Aside0.mk g3; clear hb g3)
        · go_ret
          exact ⟨_, rfl, ⟨by omega, by omega, fun h => absurd h (by omega)⟩, HB1.out⟩
        · go_roundw
          case rel => exact ⟨_, k + 1, rfl, by go_num, by omega, by omega, by omega, ⟨fun y hy => by rw [List.take_succ_eq_append_getElem hlt] at hy; rcases List.mem_append.1 hy with hy | hy; exact HS.out y hy; rw [List.mem_singleton.1 hy]; exact HS1.out (by omega)⟩, HB1⟩
          case measure => simp [intOf]; omega
      · have e : k = xs.length := by omega
        subst e
        go_wp2
        go_ret
        exact ⟨_, rfl, ⟨by omega, by omega, fun _ => ⟨by omega, fun y hy => HS.out y (by rw [List.take_length]; exact hy)⟩⟩, HB.out⟩
  · go_wp2
    go_ret
    exact ⟨_, rfl, ⟨by omega, by omega, fun h => absurd h (by omega)⟩, Below.refl _ _⟩
set_option maxHeartbeats 4000000 in
set_option maxRecDepth 100000 in
theorem toEntry.calls (w : World) (x : TEntry) (cs : List Value) (h : kEntry.K w x cs) (hs : smEntry x) :
    Calls Try.prog 171 #[.agg cs.toArray] w (NewM kEntry x w) := by
  obtain rfl := kEntry_open h
  obtain ⟨s0, s1⟩ := hs
  clear h
  have HB := Aside0.mk (Below.refl w.heap.size w)
  go_enter Try.func171, Try.ntmps171
  go_wp2
  refine bodyPost_ret (v := .agg #[.string x.Name, .string x.Param, .int .i64 x.Body]) (by simp [results, Try.results171, go_sem]) rfl ⟨_, rfl, kEntry_mkM _ _ x , ?_⟩
  with_reducible repeat (first | refine below_set ?_ (by omega) | apply below_alloc | exact HB.out)
theorem info235 : (Try.prog.info? 235).map (fun i => (i.zero, i.size, i.bytes)) = some (some (.agg #[.string ByteArray.empty, .string ByteArray.empty, .int .i64 0]), 3, 40) := by kernel_rfl
set_option maxHeartbeats 2000000 in
theorem toEntryS.calls (w : World) (xs : List TEntry) (v : Value) (h : SK kEntry w xs v) (hs : (xs.length ≤ 1048576 ∧ ∀ y ∈ xs, smEntry y)) :
    Calls Try.prog 162 #[v] w (NewR kEntry 235 xs w) := by
  obtain ⟨A, c, rfl, hl, hC⟩ := h
  have HK := Aside0.mk hC
  clear hC hl
  have hsl : xs.length ≤ 1048576 := hs.1
  have HS := Aside0.mk hs.2
  clear hs
  go_enter Try.func162, Try.ntmps162
  go_wp2_with ((with_reducible refine gate_dst (N := 7) rfl ?_); refine Kd.R_make kEntry _ 235 rfl (N := 7) rfl 142 _ _ rfl (xs.length : Int) rfl rfl Try.underlying142 (.agg #[.string ByteArray.empty, .string ByteArray.empty, .int .i64 0]) 40 info235 rfl (by decide) (by omega) ⟨ByteArray.empty, ByteArray.empty, 0⟩ (ok := fun _ => True) (okp := fun _ => True) (kEntry_zM _ _) (fun _ hk => hk) trivial (by omega) (by omega) (Below.refl _ _) (Nat.le_refl _) ?_; intro v1 w1 HR hb _ _; simp only [Int.toNat_natCast] at HR; have HR1 := Aside0.mk HR; have HB1 := Aside0.mk hb; clear HR hb)
  go_loopw [4] (fun i wr => ∃ k : Nat, i = .int .i64 k ∧ k ≤ xs.length ∧ Aside0 (Kd.R kEntry 235 wr w.heap.size (fun _ => True) v1 (xs.take k ++ List.replicate (xs.length - k) ⟨ByteArray.empty, ByteArray.empty, 0⟩)) ∧ Aside0 (Below w.heap.size w wr)) (fun i _ => xs.length - (intOf i).toNat)
  case atStart => exact ⟨0, rfl, by omega, ⟨by simpa using HR1.out⟩, HB1⟩
  case round =>
    obtain ⟨k, rfl, hk, HR, HB⟩ := hrel
    clear HR1 HB1
    by_cases hlt : k < xs.length
    · obtain ⟨ad, cs, e, _, hKe, hcell⟩ := Kd.C_get (Kd.C_below HK.out HB.out) ⟨ByteArray.empty, ByteArray.empty, 0⟩ (k : Int) (by omega) (by omega)
      rw [show xs.getD ((k : Int)).toNat ⟨ByteArray.empty, ByteArray.empty, 0⟩ = xs[k] by simp [List.getD, hlt]] at hKe
      have HKe := Aside0.mk hKe
      obtain rfl := kEntry_open hKe
      cases e
      have hc0 := hcell 0 _ rfl
      have hc1 := hcell 1 _ rfl
      have hc2 := hcell 2 _ rfl
      simp only [Int.toNat_natCast, show kEntry.sz = 3 from rfl, add_field _ _ 1 (by omega), add_field _ _ 2 (by omega), Nat.mul_one, Nat.add_zero] at hc0 hc1 hc2
      clear hcell hKe
      obtain ⟨g, cap, e, hg0, hg1, cells, hcur⟩ := Kd.R_form HR.out (by rw [fill_len _ _ _ hk]; omega)
      rw [fill_len _ _ _ hk] at e
      subst e
      have hg := Aside0.mk (And.intro hg0 hg1)
      clear hg0 hg1 hcur
      go_wp2_with (first | (go_at_call 171; (with_reducible refine (toEntry.calls _ xs[k] _ HKe.out (HS.out _ (List.getElem_mem hlt))).mono ?_); rintro e w2 ⟨ds, rfl, hM, hb⟩; have HM := Aside0.mk hM; have HR2 := Aside0.mk (Kd.R_below HR.out hb); have HB2 := Aside0.mk (bstep HB.out hb); have hg2 := Aside0.mk (show g < wr.heap.size ∧ w.heap.size ≤ wr.heap.size from ⟨hg.out.2, HB.out.size⟩)) | ((with_reducible refine gate_store (t := 235) (p := 21) rfl ?_); refine fill_store kEntry rfl rfl 235 _ _ rfl k ⟨ByteArray.empty, ByteArray.empty, 0⟩ xs[k] (.agg ds.toArray) wr.heap.size 3 rfl (by go_simp) (by go_simp) (by kernel_rfl) (by simpa [Value.cells] using kEntry.K_one (kEntry.K_of_M HM.out)) HR2.out hlt (by simpa [Value.cells] using HM.out) hg2.out.1 hg2.out.2 HB2.out ?_; intro w3 HR4 HB4 _; have HR3 := Aside0.mk HR4; have HB3 := Aside0.mk HB4; clear HR4 HB4))
      go_roundw
      case rel => exact ⟨k + 1, by go_num, by omega, ⟨by rw [← fill_set _ _ _ hlt]; exact HR3.out⟩, HB3⟩
      case measure => simp [intOf]; omega
    · have e : k = xs.length := by omega
      subst e
      go_wp2
      go_ret
      exact ⟨_, rfl, by simpa using HR.out, HB.out⟩
set_option maxHeartbeats 4000000 in
set_option maxRecDepth 100000 in
theorem eqEntry.calls (w : World) (x : TEntry) (cs ds : List Value) (h : kEntry.K w x cs) (h' : kEntry.K w x ds) :
    Calls Try.prog 172 #[.agg cs.toArray, .agg ds.toArray] w fun e w' => e = .returned (.bool true) ∧ Below w.heap.size w w' := by
  obtain rfl := kEntry_open h
  obtain rfl := kEntry_open h'
  clear h h'
  have HB := Aside0.mk (below_alloc (below_alloc (Below.refl w.heap.size w) (.cells #[.string x.Name, .string x.Param, .int .i64 x.Body] 235 (0, 0))) (.cells #[.string x.Name, .string x.Param, .int .i64 x.Body] 235 (0, 0)))
  go_enter Try.func172, Try.ntmps172
  go_wp2
  go_ret
  exact ⟨rfl, HB.out⟩
set_option maxHeartbeats 4000000 in
theorem eqEntryS.calls (w : World) (xs : List TEntry) (v u : Value) (h : SK kEntry w xs v) (h' : SK kEntry w xs u) :
    Calls Try.prog 164 #[v, u] w fun e w' => e = .returned (.bool true) ∧ Below w.heap.size w w' := by
  obtain ⟨A, c, rfl, _, hC⟩ := h
  obtain ⟨A', c', rfl, _, hC'⟩ := h'
  have hn : xs.length ≤ 9223372036854775807 := hC.2.1
  have HK := Aside0.mk hC
  have HK' := Aside0.mk hC'
  clear hC hC'
  go_enter Try.func164, Try.ntmps164
  go_wp2
  go_loopw [5] (fun i wr => ∃ k : Nat, i = .int .i64 k ∧ k ≤ xs.length ∧ Aside0 (Below w.heap.size w wr)) (fun i _ => xs.length - (intOf i).toNat)
  case atStart => exact ⟨0, rfl, by omega, ⟨Below.refl _ _⟩⟩
  case round =>
    obtain ⟨k, rfl, hk, HB⟩ := hrel
    by_cases hlt : k < xs.length
    · obtain ⟨ad, cs, e, _, hKe, hcell⟩ := Kd.C_get (Kd.C_below HK.out HB.out) ⟨ByteArray.empty, ByteArray.empty, 0⟩ (k : Int) (by omega) (by omega)
      rw [show xs.getD ((k : Int)).toNat ⟨ByteArray.empty, ByteArray.empty, 0⟩ = xs[k] by simp [List.getD, hlt]] at hKe
      have HKe := Aside0.mk hKe
      obtain rfl := kEntry_open hKe
      cases e
      have hc0 := hcell 0 _ rfl
      have hc1 := hcell 1 _ rfl
      have hc2 := hcell 2 _ rfl
      simp only [Int.toNat_natCast, show kEntry.sz = 3 from rfl, add_field _ _ 1 (by omega), add_field _ _ 2 (by omega), Nat.mul_one, Nat.add_zero] at hc0 hc1 hc2
      clear hcell hKe
      obtain ⟨ad', cs', e', _, hKe', hcell'⟩ := Kd.C_get (Kd.C_below HK'.out HB.out) ⟨ByteArray.empty, ByteArray.empty, 0⟩ (k : Int) (by omega) (by omega)
      rw [show xs.getD ((k : Int)).toNat ⟨ByteArray.empty, ByteArray.empty, 0⟩ = xs[k] by simp [List.getD, hlt]] at hKe'
      have HKe' := Aside0.mk hKe'
      obtain rfl := kEntry_open hKe'
      cases e'
      have hd0 := hcell' 0 _ rfl
      have hd1 := hcell' 1 _ rfl
      have hd2 := hcell' 2 _ rfl
      simp only [Int.toNat_natCast, show kEntry.sz = 3 from rfl, add_field _ _ 1 (by omega), add_field _ _ 2 (by omega), Nat.mul_one, Nat.add_zero] at hd0 hd1 hd2
      clear hcell' hKe'
      go_wp2
      go_region_held3 (fun w' => w'.cell? (ad.add (k * 3)) = some (.string xs[k].Name) ∧ w'.cell? ⟨(ad.add (k * 3)).block, (ad.add (k * 3)).off + 1, none⟩ = some (.string xs[k].Param) ∧ w'.cell? ⟨(ad.add (k * 3)).block, (ad.add (k * 3)).off + 2, none⟩ = some (.int .i64 xs[k].Body) ∧ w'.cell? (ad'.add (k * 3)) = some (.string xs[k].Name) ∧ w'.cell? ⟨(ad'.add (k * 3)).block, (ad'.add (k * 3)).off + 1, none⟩ = some (.string xs[k].Param) ∧ w'.cell? ⟨(ad'.add (k * 3)).block, (ad'.add (k * 3)).off + 2, none⟩ = some (.int .i64 xs[k].Body)) (first | exact ⟨hc0, hc1, hc2, hd0, hd1, hd2⟩ | exact ⟨pw_cell_below (w := wr.drew) (by assumption) hc0, pw_cell_below (w := wr.drew) (by assumption) hc1, pw_cell_below (w := wr.drew) (by assumption) hc2, pw_cell_below (w := wr.drew) (by assumption) hd0, pw_cell_below (w := wr.drew) (by assumption) hd1, pw_cell_below (w := wr.drew) (by assumption) hd2⟩) (first | (go_at_call 172; refine (eqEntry.calls _ xs[k] _ _ (kEntry.K_below (below_drew1 (Below.refl _ _)) HKe.out) (kEntry.K_below (below_drew1 (Below.refl _ _)) HKe'.out)).mono ?_; rintro e w1 ⟨rfl, hb⟩))
      rename_i hb hS
      have HB1 := Aside0.mk (bstep (below_drew1 HB.out) hb)
      clear hb hS
      go_wp2
      go_roundw
      case rel => exact ⟨k + 1, by go_num, by omega, HB1⟩
      case measure => simp [intOf]; omega
    · have e : k = xs.length := by omega
      subst e
      go_wp2
      go_ret
      exact ⟨rfl, HB.out⟩
structure TMonitor where
  Name : ByteArray
  Vars : List ByteArray
  Queues : List ByteArray
  Entries : List TEntry
instance : Inhabited TMonitor := ⟨⟨ByteArray.empty, [], [], []⟩⟩
def kMonitor : Kd TMonitor := Kd.iso (Kd.pair Kd.string (Kd.pair (Kd.slice 9 Kd.string) (Kd.pair (Kd.slice 9 Kd.string) (Kd.slice 235 kEntry)))) (fun x => (x.Name, x.Vars, x.Queues, x.Entries))
theorem kMonitor_sz : kMonitor.sz = 4 := rfl
theorem kMonitor_open {w : World} {x : TMonitor} {cs : List Value} (h : kMonitor.K w x cs) : ∃ A0 c0 A1 c1 A2 c2, cs = [.string x.Name, .slice A0 x.Vars.length c0, .slice A1 x.Queues.length c1, .slice A2 x.Entries.length c2] ∧ SK Kd.string w x.Vars (.slice A0 x.Vars.length c0) ∧ SK Kd.string w x.Queues (.slice A1 x.Queues.length c1) ∧ SK kEntry w x.Entries (.slice A2 x.Entries.length c2) := by
  obtain ⟨_, _, rfl, rfl, _, _, rfl, ⟨A0, c0, rfl, l0, C0⟩, _, _, rfl, ⟨A1, c1, rfl, l1, C1⟩, ⟨A2, c2, rfl, l2, C2⟩⟩ := h
  exact ⟨A0, c0, A1, c1, A2, c2, rfl, ⟨A0, c0, rfl, l0, C0⟩, ⟨A1, c1, rfl, l1, C1⟩, ⟨A2, c2, rfl, l2, C2⟩⟩
theorem kMonitor_mkM (w : World) (base : Nat) (x : TMonitor) (v0 : Value) (h0 : Kd.R Kd.string 9 w base (fun _ => True) v0 x.Vars) (v1 : Value) (h1 : Kd.R Kd.string 9 w base (fun _ => True) v1 x.Queues) (v2 : Value) (h2 : Kd.R kEntry 235 w base (fun _ => True) v2 x.Entries) : kMonitor.M w base (fun _ => True) x [.string x.Name, v0, v1, v2] :=
  ⟨[_], _, rfl, rfl, ⟨[v0], _, rfl, ⟨v0, rfl, h0⟩, ⟨[v1], _, rfl, ⟨v1, rfl, h1⟩, ⟨v2, rfl, h2⟩⟩⟩⟩
theorem kMonitor_zM (w : World) (base : Nat) : kMonitor.M w base (fun _ => True) ⟨ByteArray.empty, [], [], []⟩ [.string ByteArray.empty, .slice none 0 0, .slice none 0 0, .slice none 0 0] := kMonitor_mkM w base ⟨ByteArray.empty, [], [], []⟩ _ (Kd.R_nil _ _ _ _ _) _ (Kd.R_nil _ _ _ _ _) _ (Kd.R_nil _ _ _ _ _)
def wfMonitor (x : TMonitor) : Prop := x.Name.size ≤ 9223372036854775807 ∧ (∀ y ∈ x.Vars, y.size ≤ 9223372036854775807) ∧ (∀ y ∈ x.Queues, y.size ≤ 9223372036854775807) ∧ (∀ y ∈ x.Entries, wfEntry y)
def smMonitor (x : TMonitor) : Prop := x.Name.size ≤ 1048576 ∧ (x.Vars.length ≤ 1048576 ∧ ∀ y ∈ x.Vars, y.size ≤ 1048576) ∧ (x.Queues.length ≤ 1048576 ∧ ∀ y ∈ x.Queues, y.size ≤ 1048576) ∧ (x.Entries.length ≤ 1048576 ∧ ∀ y ∈ x.Entries, smEntry y)
set_option maxHeartbeats 2000000 in
theorem szMonitor.calls (w : World) (x : TMonitor) (cs : List Value) (left : Int) (h : kMonitor.K w x cs) (hw : wfMonitor x) (h0 : 0 ≤ left) (h1 : left ≤ 1048576) :
    Calls Try.prog 134 #[.agg cs.toArray, .int .i64 left] w (SzPost left (smMonitor x) w) := by
  obtain ⟨A0, c0, A1, c1, A2, c2, rfl, f1_, f2_, f3_⟩ := kMonitor_open h
  have HK1 := Aside0.mk f1_
  have HK2 := Aside0.mk f2_
  have HK3 := Aside0.mk f3_
  clear f1_ f2_ f3_
  obtain ⟨hw0, hw1, hw2, hw3⟩ := hw
  have HW1 := Aside0.mk hw1
  clear hw1
  have HW2 := Aside0.mk hw2
  clear hw2
  have HW3 := Aside0.mk hw3
  clear hw3
  have hnName : (0 : Int) ≤ x.Name.size := Int.natCast_nonneg _
  have HB := Aside0.mk (below_alloc (Below.refl w.heap.size w) (.cells #[.string x.Name, .slice A0 x.Vars.length c0, .slice A1 x.Queues.length c1, .slice A2 x.Entries.length c2] 191 (0, 0)))
  clear h
  go_enter Try.func134, Try.ntmps134
  go_wp2_with (first | (go_at_call_of 159 (Value.slice A0 x.Vars.length c0); (with_reducible refine (szStringS.calls _ _ _ _ (HK1.out.below HB.out) HW1.out (by omega) (by omega)).mono ?_); rintro e w1 ⟨r, rfl, ⟨g1, g2, g3⟩, hb⟩; obtain ⟨hcw1, hfw1⟩ := bcell hb; have hzw1_0 : w.heap.size < w1.heap.size := (by have := hb.size; (try simp at this); omega); have HS1 := Aside0.mk g3; have HB' := Aside0.mk (bstep HB.out hb); clear HB hb g3; have HB := HB'; clear HB') | (go_at_call_of 159 (Value.slice A1 x.Queues.length c1); (with_reducible refine (szStringS.calls _ _ _ _ (HK2.out.below HB.out) HW2.out (by omega) (by omega)).mono ?_); rintro e w2 ⟨r, rfl, ⟨g1, g2, g3⟩, hb⟩; obtain ⟨hcw2, hfw2⟩ := bcell hb; have hzw2_0 : w.heap.size < w2.heap.size := (by have := hb.size; (try simp at this); omega); have HS2 := Aside0.mk g3; have HB' := Aside0.mk (bstep HB.out hb); clear HB hb g3; have HB := HB'; clear HB') | (go_at_call 160; (with_reducible refine (szEntryS.calls _ _ _ _ (HK3.out.below HB.out) HW3.out (by omega) (by omega)).mono ?_); rintro e w3 ⟨r, rfl, ⟨g1, g2, g3⟩, hb⟩; obtain ⟨hcw3, hfw3⟩ := bcell hb; have hzw3_0 : w.heap.size < w3.heap.size := (by have := hb.size; (try simp at this); omega); have HS3 := Aside0.mk g3; have HB' := Aside0.mk (bstep HB.out hb); clear HB hb g3; have HB := HB'; clear HB'))
  all_goals
    go_ret
    first
      | exact ⟨_, rfl, ⟨by omega, by omega, fun h => ⟨by omega, HS1.out (by omega), HS2.out (by omega), HS3.out (by omega)⟩⟩, HB.out⟩
      | exact ⟨_, rfl, ⟨by omega, by omega, fun h => absurd h (by omega)⟩, HB.out⟩
set_option maxHeartbeats 2000000 in
theorem szMonitorS.calls (w : World) (xs : List TMonitor) (v : Value) (left : Int) (h : SK kMonitor w xs v) (hw : (∀ y ∈ xs, wfMonitor y)) (h0 : 0 ≤ left) (h1 : left ≤ 1048576) :
    Calls Try.prog 91 #[v, .int .i64 left] w (SzPost left ((xs.length ≤ 1048576 ∧ ∀ y ∈ xs, smMonitor y)) w) := by
  obtain ⟨A, c, rfl, _, hC⟩ := h
  have hn : xs.length ≤ 9223372036854775807 := hC.2.1
  have HW := Aside0.mk hw
  clear hw
  have HK := Aside0.mk hC
  clear hC
  go_enter Try.func91, Try.ntmps91
  by_cases hlen : (xs.length : Int) ≤ left
  · go_wp2
    go_loopw [1, 5] (fun l i wr => ∃ (r : Int) (k : Nat), l = .int .i64 r ∧ i = .int .i64 k ∧ k ≤ xs.length ∧ 0 ≤ r ∧ r ≤ left ∧ Aside0 (∀ y ∈ xs.take k, smMonitor y) ∧ Aside0 (Below w.heap.size w wr)) (fun _ i _ => xs.length - (intOf i).toNat)
    case atStart => exact ⟨_, 0, rfl, rfl, by omega, by omega, by omega, ⟨by simp⟩, ⟨Below.refl _ _⟩⟩
    case round =>
      obtain ⟨r, k, rfl, rfl, hk, hr0, hr1, HS, HB⟩ := hrel
      by_cases hlt : k < xs.length
      · obtain ⟨ad, cs, e, _, hKe, hcell⟩ := Kd.C_get (Kd.C_below HK.out HB.out) ⟨ByteArray.empty, [], [], []⟩ (k : Int) (by omega) (by omega)
        rw [show xs.getD ((k : Int)).toNat ⟨ByteArray.empty, [], [], []⟩ = xs[k] by simp [List.getD, hlt]] at hKe
        have HKe := Aside0.mk hKe
        obtain ⟨A0, c0, A1, c1, A2, c2, rfl, _⟩ := kMonitor_open hKe
        cases e
        have hc0 := hcell 0 _ rfl
        have hc1 := hcell 1 _ rfl
        have hc2 := hcell 2 _ rfl
        have hc3 := hcell 3 _ rfl
        simp only [Int.toNat_natCast, show kMonitor.sz = 4 from rfl, add_field _ _ 1 (by omega), add_field _ _ 2 (by omega), add_field _ _ 3 (by omega), Nat.mul_one, Nat.add_zero] at hc0 hc1 hc2 hc3
        clear hcell hKe
        go_wp2_with (go_at_call 134; refine (szMonitor.calls _ xs[k] _ _ HKe.out (HW.out _ (List.getElem_mem hlt)) (by omega) (by omega)).mono ?_; rintro e w1 ⟨r1, rfl, ⟨g1, g2, g3⟩, hb⟩; have HB1 := Aside0.mk (bstep HB.out hb); have HS1 := Aside0.mk g3; clear hb g3)
        · go_ret
          exact ⟨_, rfl, ⟨by omega, by omega, fun h => absurd h (by omega)⟩, HB1.out⟩
        · go_roundw
          case rel => exact ⟨_, k + 1, rfl, by go_num, by omega, by omega, by omega, ⟨fun y hy => by rw [List.take_succ_eq_append_getElem hlt] at hy; rcases List.mem_append.1 hy with hy | hy; exact HS.out y hy; rw [List.mem_singleton.1 hy]; exact HS1.out (by omega)⟩, HB1⟩
          case measure => simp [intOf]; omega
      · have e : k = xs.length := by omega
        subst e
        go_wp2
        go_ret
        exact ⟨_, rfl, ⟨by omega, by omega, fun _ => ⟨by omega, fun y hy => HS.out y (by rw [List.take_length]; exact hy)⟩⟩, HB.out⟩
  · go_wp2
    go_ret
    exact ⟨_, rfl, ⟨by omega, by omega, fun h => absurd h (by omega)⟩, Below.refl _ _⟩
set_option maxHeartbeats 4000000 in
set_option maxRecDepth 100000 in
theorem toMonitor.calls (w : World) (x : TMonitor) (cs : List Value) (h : kMonitor.K w x cs) (hs : smMonitor x) :
    Calls Try.prog 138 #[.agg cs.toArray] w (NewM kMonitor x w) := by
  obtain ⟨A0, c0, A1, c1, A2, c2, rfl, f1_, f2_, f3_⟩ := kMonitor_open h
  have HK1 := Aside0.mk f1_
  have HK2 := Aside0.mk f2_
  have HK3 := Aside0.mk f3_
  clear f1_ f2_ f3_
  obtain ⟨s0, s1, s2, s3⟩ := hs
  have HS1 := Aside0.mk s1
  clear s1
  have HS2 := Aside0.mk s2
  clear s2
  have HS3 := Aside0.mk s3
  clear s3
  clear h
  have HB := Aside0.mk (Below.refl w.heap.size w)
  go_enter Try.func138, Try.ntmps138
  go_wp2_with (first | (go_at_call_of 161 (Value.slice A0 x.Vars.length c0); (with_reducible refine (toStringS.calls _ _ _ (HK1.out.below (by with_reducible repeat (first | refine below_set ?_ (by omega) | apply below_alloc | exact HB.out))) HS1.out).mono ?_); rintro e w1 ⟨v1, rfl, hR, hb⟩; have HL1 := Aside0.mk hb; obtain ⟨B1, d1, rfl⟩ := Kd.R_slice hR; obtain ⟨hcw1, hfw1⟩ := bcell hb; have hzw1_0 : w.heap.size < w1.heap.size := (by have := hb.size; (try simp at this); omega); have hzw1_1 : w.heap.size + 1 < w1.heap.size := (by have := hb.size; (try simp at this); omega); have hzw1_2 : w.heap.size + 2 < w1.heap.size := (by have := hb.size; (try simp at this); omega); have HR1 := Aside0.mk hR; have HB' := Aside0.mk (bstep (w := w) (by with_reducible repeat (first | refine below_set ?_ (by omega) | apply below_alloc | exact HB.out)) hb); clear HB hb hR; have HB := HB'; clear HB') | (go_at_call_of 161 (Value.slice A1 x.Queues.length c1); (with_reducible refine (toStringS.calls _ _ _ (HK2.out.below (by with_reducible repeat (first | refine below_set ?_ (by omega) | apply below_alloc | exact HB.out))) HS2.out).mono ?_); rintro e w2 ⟨v2, rfl, hR, hb⟩; have HL2 := Aside0.mk hb; obtain ⟨B2, d2, rfl⟩ := Kd.R_slice hR; obtain ⟨hcw2, hfw2⟩ := bcell hb; have hzw2_0 : w.heap.size < w2.heap.size := (by have := hb.size; (try simp at this); omega); have hzw2_1 : w.heap.size + 1 < w2.heap.size := (by have := hb.size; (try simp at this); omega); have hzw2_2 : w.heap.size + 2 < w2.heap.size := (by have := hb.size; (try simp at this); omega); have HR2 := Aside0.mk hR; have HB' := Aside0.mk (bstep (w := w) (by with_reducible repeat (first | refine below_set ?_ (by omega) | apply below_alloc | exact HB.out)) hb); clear HB hb hR; have HB := HB'; clear HB') | (go_at_call 162; (with_reducible refine (toEntryS.calls _ _ _ (HK3.out.below (by with_reducible repeat (first | refine below_set ?_ (by omega) | apply below_alloc | exact HB.out))) HS3.out).mono ?_); rintro e w3 ⟨v3, rfl, hR, hb⟩; have HL3 := Aside0.mk hb; obtain ⟨B3, d3, rfl⟩ := Kd.R_slice hR; obtain ⟨hcw3, hfw3⟩ := bcell hb; have hzw3_0 : w.heap.size < w3.heap.size := (by have := hb.size; (try simp at this); omega); have hzw3_1 : w.heap.size + 1 < w3.heap.size := (by have := hb.size; (try simp at this); omega); have hzw3_2 : w.heap.size + 2 < w3.heap.size := (by have := hb.size; (try simp at this); omega); have HR3 := Aside0.mk hR; have HB' := Aside0.mk (bstep (w := w) (by with_reducible repeat (first | refine below_set ?_ (by omega) | apply below_alloc | exact HB.out)) hb); clear HB hb hR; have HB := HB'; clear HB'))
  refine bodyPost_ret (v := .agg #[.string x.Name, .slice B1 x.Vars.length d1, .slice B2 x.Queues.length d2, .slice B3 x.Entries.length d3]) (by simp [results, Try.results138, go_sem, hcw1, hcw2, hcw3, hfw1, hfw2, hfw3, hzw1_0, hzw1_1, hzw1_2, hzw2_0, hzw2_1, hzw2_2, hzw3_0, hzw3_1, hzw3_2]) rfl ⟨_, rfl, kMonitor_mkM _ _ x _ (Kd.R_lower (R_kept (lo := w.heap.size + 3) HR1.out (by first | omega | (simp <;> omega)) (by with_reducible repeat (first | refine Kept.set ?_ (by simp) _ | exact Kept.refl _ _ | refine Kept.below ?_ HL2.out | refine Kept.below ?_ HL3.out))) (by first | omega | (simp <;> omega))) _ (Kd.R_lower (R_kept (lo := w.heap.size + 3) HR2.out (by first | omega | (simp <;> omega)) (by with_reducible repeat (first | refine Kept.set ?_ (by simp) _ | exact Kept.refl _ _ | refine Kept.below ?_ HL3.out))) (by first | omega | (simp <;> omega))) _ (Kd.R_lower (R_kept (lo := w.heap.size + 3) HR3.out (by first | omega | (simp <;> omega)) (by with_reducible repeat (first | refine Kept.set ?_ (by simp) _ | exact Kept.refl _ _))) (by first | omega | (simp <;> omega))), ?_⟩
  with_reducible repeat (first | refine below_set ?_ (by omega) | apply below_alloc | exact HB.out)
theorem info144 : (Try.prog.info? 144).map (fun i => (i.zero, i.size, i.bytes)) = some (some (.agg #[.string ByteArray.empty, .slice none 0 0, .slice none 0 0, .slice none 0 0]), 4, 88) := by kernel_rfl
set_option maxHeartbeats 2000000 in
theorem toMonitorS.calls (w : World) (xs : List TMonitor) (v : Value) (h : SK kMonitor w xs v) (hs : (xs.length ≤ 1048576 ∧ ∀ y ∈ xs, smMonitor y)) :
    Calls Try.prog 96 #[v] w (NewR kMonitor 144 xs w) := by
  obtain ⟨A, c, rfl, hl, hC⟩ := h
  have HK := Aside0.mk hC
  clear hC hl
  have hsl : xs.length ≤ 1048576 := hs.1
  have HS := Aside0.mk hs.2
  clear hs
  go_enter Try.func96, Try.ntmps96
  go_wp2_with ((with_reducible refine gate_dst (N := 7) rfl ?_); refine Kd.R_make kMonitor _ 144 rfl (N := 7) rfl 84 _ _ rfl (xs.length : Int) rfl rfl Try.underlying84 (.agg #[.string ByteArray.empty, .slice none 0 0, .slice none 0 0, .slice none 0 0]) 88 info144 rfl (by decide) (by omega) ⟨ByteArray.empty, [], [], []⟩ (ok := fun _ => True) (okp := fun _ => True) (kMonitor_zM _ _) (fun _ hk => hk) trivial (by omega) (by omega) (Below.refl _ _) (Nat.le_refl _) ?_; intro v1 w1 HR hb _ _; simp only [Int.toNat_natCast] at HR; have HR1 := Aside0.mk HR; have HB1 := Aside0.mk hb; clear HR hb)
  go_loopw [4] (fun i wr => ∃ k : Nat, i = .int .i64 k ∧ k ≤ xs.length ∧ Aside0 (Kd.R kMonitor 144 wr w.heap.size (fun _ => True) v1 (xs.take k ++ List.replicate (xs.length - k) ⟨ByteArray.empty, [], [], []⟩)) ∧ Aside0 (Below w.heap.size w wr)) (fun i _ => xs.length - (intOf i).toNat)
  case atStart => exact ⟨0, rfl, by omega, ⟨by simpa using HR1.out⟩, HB1⟩
  case round =>
    obtain ⟨k, rfl, hk, HR, HB⟩ := hrel
    clear HR1 HB1
    by_cases hlt : k < xs.length
    · obtain ⟨ad, cs, e, _, hKe, hcell⟩ := Kd.C_get (Kd.C_below HK.out HB.out) ⟨ByteArray.empty, [], [], []⟩ (k : Int) (by omega) (by omega)
      rw [show xs.getD ((k : Int)).toNat ⟨ByteArray.empty, [], [], []⟩ = xs[k] by simp [List.getD, hlt]] at hKe
      have HKe := Aside0.mk hKe
      obtain ⟨A0, c0, A1, c1, A2, c2, rfl, _⟩ := kMonitor_open hKe
      cases e
      have hc0 := hcell 0 _ rfl
      have hc1 := hcell 1 _ rfl
      have hc2 := hcell 2 _ rfl
      have hc3 := hcell 3 _ rfl
      simp only [Int.toNat_natCast, show kMonitor.sz = 4 from rfl, add_field _ _ 1 (by omega), add_field _ _ 2 (by omega), add_field _ _ 3 (by omega), Nat.mul_one, Nat.add_zero] at hc0 hc1 hc2 hc3
      clear hcell hKe
      obtain ⟨g, cap, e, hg0, hg1, cells, hcur⟩ := Kd.R_form HR.out (by rw [fill_len _ _ _ hk]; omega)
      rw [fill_len _ _ _ hk] at e
      subst e
      have hg := Aside0.mk (And.intro hg0 hg1)
      clear hg0 hg1 hcur
      go_wp2_with (first | (go_at_call 138; (with_reducible refine (toMonitor.calls _ xs[k] _ HKe.out (HS.out _ (List.getElem_mem hlt))).mono ?_); rintro e w2 ⟨ds, rfl, hM, hb⟩; have HM := Aside0.mk hM; have HR2 := Aside0.mk (Kd.R_below HR.out hb); have HB2 := Aside0.mk (bstep HB.out hb); have hg2 := Aside0.mk (show g < wr.heap.size ∧ w.heap.size ≤ wr.heap.size from ⟨hg.out.2, HB.out.size⟩)) | ((with_reducible refine gate_store (t := 144) (p := 21) rfl ?_); refine fill_store kMonitor rfl rfl 144 _ _ rfl k ⟨ByteArray.empty, [], [], []⟩ xs[k] (.agg ds.toArray) wr.heap.size 4 rfl (by go_simp) (by go_simp) (by kernel_rfl) (by simpa [Value.cells] using kMonitor.K_one (kMonitor.K_of_M HM.out)) HR2.out hlt (by simpa [Value.cells] using HM.out) hg2.out.1 hg2.out.2 HB2.out ?_; intro w3 HR4 HB4 _; have HR3 := Aside0.mk HR4; have HB3 := Aside0.mk HB4; clear HR4 HB4))
      go_roundw
      case rel => exact ⟨k + 1, by go_num, by omega, ⟨by rw [← fill_set _ _ _ hlt]; exact HR3.out⟩, HB3⟩
      case measure => simp [intOf]; omega
    · have e : k = xs.length := by omega
      subst e
      go_wp2
      go_ret
      exact ⟨_, rfl, by simpa using HR.out, HB.out⟩
set_option maxHeartbeats 4000000 in
set_option maxRecDepth 100000 in
theorem eqMonitor.calls (w : World) (x : TMonitor) (cs ds : List Value) (h : kMonitor.K w x cs) (h' : kMonitor.K w x ds) :
    Calls Try.prog 144 #[.agg cs.toArray, .agg ds.toArray] w fun e w' => e = .returned (.bool true) ∧ Below w.heap.size w w' := by
  obtain ⟨A0, c0, A1, c1, A2, c2, rfl, f1_, f2_, f3_⟩ := kMonitor_open h
  have HK1 := Aside0.mk f1_
  have HK2 := Aside0.mk f2_
  have HK3 := Aside0.mk f3_
  clear f1_ f2_ f3_
  obtain ⟨B0, d0, B1, d1, B2, d2, rfl, q1_, q2_, q3_⟩ := kMonitor_open h'
  have HL1 := Aside0.mk q1_
  have HL2 := Aside0.mk q2_
  have HL3 := Aside0.mk q3_
  clear q1_ q2_ q3_
  clear h h'
  have HB := Aside0.mk (below_alloc (below_alloc (Below.refl w.heap.size w) (.cells #[.string x.Name, .slice A0 x.Vars.length c0, .slice A1 x.Queues.length c1, .slice A2 x.Entries.length c2] 144 (0, 0))) (.cells #[.string x.Name, .slice B0 x.Vars.length d0, .slice B1 x.Queues.length d1, .slice B2 x.Entries.length d2] 144 (0, 0)))
  go_enter Try.func144, Try.ntmps144
  go_wp2_with (first | (go_at_call_of 163 (Value.slice A0 x.Vars.length c0); (with_reducible refine (eqStringS.calls _ _ _ _ (HK1.out.below HB.out) (HL1.out.below HB.out)).mono ?_); rintro e w1 ⟨rfl, hb⟩; obtain ⟨hcw1, hfw1⟩ := bcell hb; have hzw1_0 : w.heap.size < w1.heap.size := (by have := hb.size; (try simp at this); omega); have hzw1_1 : w.heap.size + 1 < w1.heap.size := (by have := hb.size; (try simp at this); omega); have HB' := Aside0.mk (bstep HB.out hb); clear HB hb; have HB := HB'; clear HB') | (go_at_call_of 163 (Value.slice A1 x.Queues.length c1); (with_reducible refine (eqStringS.calls _ _ _ _ (HK2.out.below HB.out) (HL2.out.below HB.out)).mono ?_); rintro e w2 ⟨rfl, hb⟩; obtain ⟨hcw2, hfw2⟩ := bcell hb; have hzw2_0 : w.heap.size < w2.heap.size := (by have := hb.size; (try simp at this); omega); have hzw2_1 : w.heap.size + 1 < w2.heap.size := (by have := hb.size; (try simp at this); omega); have HB' := Aside0.mk (bstep HB.out hb); clear HB hb; have HB := HB'; clear HB') | (go_at_call 164; (with_reducible refine (eqEntryS.calls _ _ _ _ (HK3.out.below HB.out) (HL3.out.below HB.out)).mono ?_); rintro e w3 ⟨rfl, hb⟩; obtain ⟨hcw3, hfw3⟩ := bcell hb; have hzw3_0 : w.heap.size < w3.heap.size := (by have := hb.size; (try simp at this); omega); have hzw3_1 : w.heap.size + 1 < w3.heap.size := (by have := hb.size; (try simp at this); omega); have HB' := Aside0.mk (bstep HB.out hb); clear HB hb; have HB := HB'; clear HB'))
  go_ret
  exact ⟨rfl, HB.out⟩
set_option maxHeartbeats 4000000 in
theorem eqMonitorS.calls (w : World) (xs : List TMonitor) (v u : Value) (h : SK kMonitor w xs v) (h' : SK kMonitor w xs u) :
    Calls Try.prog 103 #[v, u] w fun e w' => e = .returned (.bool true) ∧ Below w.heap.size w w' := by
  obtain ⟨A, c, rfl, _, hC⟩ := h
  obtain ⟨A', c', rfl, _, hC'⟩ := h'
  have hn : xs.length ≤ 9223372036854775807 := hC.2.1
  have HK := Aside0.mk hC
  have HK' := Aside0.mk hC'
  clear hC hC'
  go_enter Try.func103, Try.ntmps103
  go_wp2
  go_loopw [5] (fun i wr => ∃ k : Nat, i = .int .i64 k ∧ k ≤ xs.length ∧ Aside0 (Below w.heap.size w wr)) (fun i _ => xs.length - (intOf i).toNat)
  case atStart => exact ⟨0, rfl, by omega, ⟨Below.refl _ _⟩⟩
  case round =>
    obtain ⟨k, rfl, hk, HB⟩ := hrel
    by_cases hlt : k < xs.length
    · obtain ⟨ad, cs, e, _, hKe, hcell⟩ := Kd.C_get (Kd.C_below HK.out HB.out) ⟨ByteArray.empty, [], [], []⟩ (k : Int) (by omega) (by omega)
      rw [show xs.getD ((k : Int)).toNat ⟨ByteArray.empty, [], [], []⟩ = xs[k] by simp [List.getD, hlt]] at hKe
      have HKe := Aside0.mk hKe
      obtain ⟨A0, c0, A1, c1, A2, c2, rfl, _⟩ := kMonitor_open hKe
      cases e
      have hc0 := hcell 0 _ rfl
      have hc1 := hcell 1 _ rfl
      have hc2 := hcell 2 _ rfl
      have hc3 := hcell 3 _ rfl
      simp only [Int.toNat_natCast, show kMonitor.sz = 4 from rfl, add_field _ _ 1 (by omega), add_field _ _ 2 (by omega), add_field _ _ 3 (by omega), Nat.mul_one, Nat.add_zero] at hc0 hc1 hc2 hc3
      clear hcell hKe
      obtain ⟨ad', cs', e', _, hKe', hcell'⟩ := Kd.C_get (Kd.C_below HK'.out HB.out) ⟨ByteArray.empty, [], [], []⟩ (k : Int) (by omega) (by omega)
      rw [show xs.getD ((k : Int)).toNat ⟨ByteArray.empty, [], [], []⟩ = xs[k] by simp [List.getD, hlt]] at hKe'
      have HKe' := Aside0.mk hKe'
      obtain ⟨B0, d0, B1, d1, B2, d2, rfl, _⟩ := kMonitor_open hKe'
      cases e'
      have hd0 := hcell' 0 _ rfl
      have hd1 := hcell' 1 _ rfl
      have hd2 := hcell' 2 _ rfl
      have hd3 := hcell' 3 _ rfl
      simp only [Int.toNat_natCast, show kMonitor.sz = 4 from rfl, add_field _ _ 1 (by omega), add_field _ _ 2 (by omega), add_field _ _ 3 (by omega), Nat.mul_one, Nat.add_zero] at hd0 hd1 hd2 hd3
      clear hcell' hKe'
      go_wp2
      go_region_held3 (fun w' => w'.cell? (ad.add (k * 4)) = some (.string xs[k].Name) ∧ w'.cell? ⟨(ad.add (k * 4)).block, (ad.add (k * 4)).off + 1, none⟩ = some (.slice A0 xs[k].Vars.length c0) ∧ w'.cell? ⟨(ad.add (k * 4)).block, (ad.add (k * 4)).off + 2, none⟩ = some (.slice A1 xs[k].Queues.length c1) ∧ w'.cell? ⟨(ad.add (k * 4)).block, (ad.add (k * 4)).off + 3, none⟩ = some (.slice A2 xs[k].Entries.length c2) ∧ w'.cell? (ad'.add (k * 4)) = some (.string xs[k].Name) ∧ w'.cell? ⟨(ad'.add (k * 4)).block, (ad'.add (k * 4)).off + 1, none⟩ = some (.slice B0 xs[k].Vars.length d0) ∧ w'.cell? ⟨(ad'.add (k * 4)).block, (ad'.add (k * 4)).off + 2, none⟩ = some (.slice B1 xs[k].Queues.length d1) ∧ w'.cell? ⟨(ad'.add (k * 4)).block, (ad'.add (k * 4)).off + 3, none⟩ = some (.slice B2 xs[k].Entries.length d2)) (first | exact ⟨hc0, hc1, hc2, hc3, hd0, hd1, hd2, hd3⟩ | exact ⟨pw_cell_below (w := wr.drew) (by assumption) hc0, pw_cell_below (w := wr.drew) (by assumption) hc1, pw_cell_below (w := wr.drew) (by assumption) hc2, pw_cell_below (w := wr.drew) (by assumption) hc3, pw_cell_below (w := wr.drew) (by assumption) hd0, pw_cell_below (w := wr.drew) (by assumption) hd1, pw_cell_below (w := wr.drew) (by assumption) hd2, pw_cell_below (w := wr.drew) (by assumption) hd3⟩) (first | (go_at_call 144; refine (eqMonitor.calls _ xs[k] _ _ (kMonitor.K_below (below_drew1 (Below.refl _ _)) HKe.out) (kMonitor.K_below (below_drew1 (Below.refl _ _)) HKe'.out)).mono ?_; rintro e w1 ⟨rfl, hb⟩))
      rename_i hb hS
      have HB1 := Aside0.mk (bstep (below_drew1 HB.out) hb)
      clear hb hS
      go_wp2
      go_roundw
      case rel => exact ⟨k + 1, by go_num, by omega, HB1⟩
      case measure => simp [intOf]; omega
    · have e : k = xs.length := by omega
      subst e
      go_wp2
      go_ret
      exact ⟨rfl, HB.out⟩
structure TProcess where
  Name : ByteArray
  Uses : List ByteArray
  Vars : List ByteArray
  Body : Int
instance : Inhabited TProcess := ⟨⟨ByteArray.empty, [], [], 0⟩⟩
def kProcess : Kd TProcess := Kd.iso (Kd.pair Kd.string (Kd.pair (Kd.slice 9 Kd.string) (Kd.pair (Kd.slice 9 Kd.string) (Kd.int .i64)))) (fun x => (x.Name, x.Uses, x.Vars, x.Body))
theorem kProcess_sz : kProcess.sz = 4 := rfl
theorem kProcess_open {w : World} {x : TProcess} {cs : List Value} (h : kProcess.K w x cs) : ∃ A0 c0 A1 c1, cs = [.string x.Name, .slice A0 x.Uses.length c0, .slice A1 x.Vars.length c1, .int .i64 x.Body] ∧ SK Kd.string w x.Uses (.slice A0 x.Uses.length c0) ∧ SK Kd.string w x.Vars (.slice A1 x.Vars.length c1) := by
  obtain ⟨_, _, rfl, rfl, _, _, rfl, ⟨A0, c0, rfl, l0, C0⟩, _, _, rfl, ⟨A1, c1, rfl, l1, C1⟩, rfl⟩ := h
  exact ⟨A0, c0, A1, c1, rfl, ⟨A0, c0, rfl, l0, C0⟩, ⟨A1, c1, rfl, l1, C1⟩⟩
theorem kProcess_mkM (w : World) (base : Nat) (x : TProcess) (v0 : Value) (h0 : Kd.R Kd.string 9 w base (fun _ => True) v0 x.Uses) (v1 : Value) (h1 : Kd.R Kd.string 9 w base (fun _ => True) v1 x.Vars) : kProcess.M w base (fun _ => True) x [.string x.Name, v0, v1, .int .i64 x.Body] :=
  ⟨[_], _, rfl, rfl, ⟨[v0], _, rfl, ⟨v0, rfl, h0⟩, ⟨[v1], _, rfl, ⟨v1, rfl, h1⟩, rfl⟩⟩⟩
theorem kProcess_zM (w : World) (base : Nat) : kProcess.M w base (fun _ => True) ⟨ByteArray.empty, [], [], 0⟩ [.string ByteArray.empty, .slice none 0 0, .slice none 0 0, .int .i64 0] := kProcess_mkM w base ⟨ByteArray.empty, [], [], 0⟩ _ (Kd.R_nil _ _ _ _ _) _ (Kd.R_nil _ _ _ _ _)
def wfProcess (x : TProcess) : Prop := x.Name.size ≤ 9223372036854775807 ∧ (∀ y ∈ x.Uses, y.size ≤ 9223372036854775807) ∧ (∀ y ∈ x.Vars, y.size ≤ 9223372036854775807) ∧ (Lit.int .i64 x.Body).wf = true
def smProcess (x : TProcess) : Prop := x.Name.size ≤ 1048576 ∧ (x.Uses.length ≤ 1048576 ∧ ∀ y ∈ x.Uses, y.size ≤ 1048576) ∧ (x.Vars.length ≤ 1048576 ∧ ∀ y ∈ x.Vars, y.size ≤ 1048576)
set_option maxHeartbeats 2000000 in
theorem szProcess.calls (w : World) (x : TProcess) (cs : List Value) (left : Int) (h : kProcess.K w x cs) (hw : wfProcess x) (h0 : 0 ≤ left) (h1 : left ≤ 1048576) :
    Calls Try.prog 135 #[.agg cs.toArray, .int .i64 left] w (SzPost left (smProcess x) w) := by
  obtain ⟨A0, c0, A1, c1, rfl, f1_, f2_⟩ := kProcess_open h
  have HK1 := Aside0.mk f1_
  have HK2 := Aside0.mk f2_
  clear f1_ f2_
  obtain ⟨hw0, hw1, hw2, hw3⟩ := hw
  have HW1 := Aside0.mk hw1
  clear hw1
  have HW2 := Aside0.mk hw2
  clear hw2
  clear hw3
  have hnName : (0 : Int) ≤ x.Name.size := Int.natCast_nonneg _
  have HB := Aside0.mk (below_alloc (Below.refl w.heap.size w) (.cells #[.string x.Name, .slice A0 x.Uses.length c0, .slice A1 x.Vars.length c1, .int .i64 x.Body] 193 (0, 0)))
  clear h
  go_enter Try.func135, Try.ntmps135
  go_wp2_with (first | (go_at_call_of 159 (Value.slice A0 x.Uses.length c0); (with_reducible refine (szStringS.calls _ _ _ _ (HK1.out.below HB.out) HW1.out (by omega) (by omega)).mono ?_); rintro e w1 ⟨r, rfl, ⟨g1, g2, g3⟩, hb⟩; obtain ⟨hcw1, hfw1⟩ := bcell hb; have hzw1_0 : w.heap.size < w1.heap.size := (by have := hb.size; (try simp at this); omega); have HS1 := Aside0.mk g3; have HB' := Aside0.mk (bstep HB.out hb); clear HB hb g3; have HB := HB'; clear HB') | (go_at_call_of 159 (Value.slice A1 x.Vars.length c1); (with_reducible refine (szStringS.calls _ _ _ _ (HK2.out.below HB.out) HW2.out (by omega) (by omega)).mono ?_); rintro e w2 ⟨r, rfl, ⟨g1, g2, g3⟩, hb⟩; obtain ⟨hcw2, hfw2⟩ := bcell hb; have hzw2_0 : w.heap.size < w2.heap.size := (by have := hb.size; (try simp at this); omega); have HS2 := Aside0.mk g3; have HB' := Aside0.mk (bstep HB.out hb); clear HB hb g3; have HB := HB'; clear HB'))
  all_goals
    go_ret
    first
      | exact ⟨_, rfl, ⟨by omega, by omega, fun h => ⟨by omega, HS1.out (by omega), HS2.out (by omega)⟩⟩, HB.out⟩
      | exact ⟨_, rfl, ⟨by omega, by omega, fun h => absurd h (by omega)⟩, HB.out⟩
set_option maxHeartbeats 2000000 in
theorem szProcessS.calls (w : World) (xs : List TProcess) (v : Value) (left : Int) (h : SK kProcess w xs v) (hw : (∀ y ∈ xs, wfProcess y)) (h0 : 0 ≤ left) (h1 : left ≤ 1048576) :
    Calls Try.prog 92 #[v, .int .i64 left] w (SzPost left ((xs.length ≤ 1048576 ∧ ∀ y ∈ xs, smProcess y)) w) := by
  obtain ⟨A, c, rfl, _, hC⟩ := h
  have hn : xs.length ≤ 9223372036854775807 := hC.2.1
  have HW := Aside0.mk hw
  clear hw
  have HK := Aside0.mk hC
  clear hC
  go_enter Try.func92, Try.ntmps92
  by_cases hlen : (xs.length : Int) ≤ left
  · go_wp2
    go_loopw [1, 5] (fun l i wr => ∃ (r : Int) (k : Nat), l = .int .i64 r ∧ i = .int .i64 k ∧ k ≤ xs.length ∧ 0 ≤ r ∧ r ≤ left ∧ Aside0 (∀ y ∈ xs.take k, smProcess y) ∧ Aside0 (Below w.heap.size w wr)) (fun _ i _ => xs.length - (intOf i).toNat)
    case atStart => exact ⟨_, 0, rfl, rfl, by omega, by omega, by omega, ⟨by simp⟩, ⟨Below.refl _ _⟩⟩
    case round =>
      obtain ⟨r, k, rfl, rfl, hk, hr0, hr1, HS, HB⟩ := hrel
      by_cases hlt : k < xs.length
      · obtain ⟨ad, cs, e, _, hKe, hcell⟩ := Kd.C_get (Kd.C_below HK.out HB.out) ⟨ByteArray.empty, [], [], 0⟩ (k : Int) (by omega) (by omega)
        rw [show xs.getD ((k : Int)).toNat ⟨ByteArray.empty, [], [], 0⟩ = xs[k] by simp [List.getD, hlt]] at hKe
        have HKe := Aside0.mk hKe
        obtain ⟨A0, c0, A1, c1, rfl, _⟩ := kProcess_open hKe
        cases e
        have hc0 := hcell 0 _ rfl
        have hc1 := hcell 1 _ rfl
        have hc2 := hcell 2 _ rfl
        have hc3 := hcell 3 _ rfl
        simp only [Int.toNat_natCast, show kProcess.sz = 4 from rfl, add_field _ _ 1 (by omega), add_field _ _ 2 (by omega), add_field _ _ 3 (by omega), Nat.mul_one, Nat.add_zero] at hc0 hc1 hc2 hc3
        clear hcell hKe
        go_wp2_with (go_at_call 135; refine (szProcess.calls _ xs[k] _ _ HKe.out (HW.out _ (List.getElem_mem hlt)) (by omega) (by omega)).mono ?_; rintro e w1 ⟨r1, rfl, ⟨g1, g2, g3⟩, hb⟩; have HB1 := Aside0.mk (bstep HB.out hb); have HS1 := Aside0.mk g3; clear hb g3)
        · go_ret
          exact ⟨_, rfl, ⟨by omega, by omega, fun h => absurd h (by omega)⟩, HB1.out⟩
        · go_roundw
          case rel => exact ⟨_, k + 1, rfl, by go_num, by omega, by omega, by omega, ⟨fun y hy => by rw [List.take_succ_eq_append_getElem hlt] at hy; rcases List.mem_append.1 hy with hy | hy; exact HS.out y hy; rw [List.mem_singleton.1 hy]; exact HS1.out (by omega)⟩, HB1⟩
          case measure => simp [intOf]; omega
      · have e : k = xs.length := by omega
        subst e
        go_wp2
        go_ret
        exact ⟨_, rfl, ⟨by omega, by omega, fun _ => ⟨by omega, fun y hy => HS.out y (by rw [List.take_length]; exact hy)⟩⟩, HB.out⟩
  · go_wp2
    go_ret
    exact ⟨_, rfl, ⟨by omega, by omega, fun h => absurd h (by omega)⟩, Below.refl _ _⟩
set_option maxHeartbeats 4000000 in
set_option maxRecDepth 100000 in
theorem toProcess.calls (w : World) (x : TProcess) (cs : List Value) (h : kProcess.K w x cs) (hs : smProcess x) :
    Calls Try.prog 139 #[.agg cs.toArray] w (NewM kProcess x w) := by
  obtain ⟨A0, c0, A1, c1, rfl, f1_, f2_⟩ := kProcess_open h
  have HK1 := Aside0.mk f1_
  have HK2 := Aside0.mk f2_
  clear f1_ f2_
  obtain ⟨s0, s1, s2⟩ := hs
  have HS1 := Aside0.mk s1
  clear s1
  have HS2 := Aside0.mk s2
  clear s2
  clear h
  have HB := Aside0.mk (Below.refl w.heap.size w)
  go_enter Try.func139, Try.ntmps139
  go_wp2_with (first | (go_at_call_of 161 (Value.slice A0 x.Uses.length c0); (with_reducible refine (toStringS.calls _ _ _ (HK1.out.below (by with_reducible repeat (first | refine below_set ?_ (by omega) | apply below_alloc | exact HB.out))) HS1.out).mono ?_); rintro e w1 ⟨v1, rfl, hR, hb⟩; have HL1 := Aside0.mk hb; obtain ⟨B1, d1, rfl⟩ := Kd.R_slice hR; obtain ⟨hcw1, hfw1⟩ := bcell hb; have hzw1_0 : w.heap.size < w1.heap.size := (by have := hb.size; (try simp at this); omega); have hzw1_1 : w.heap.size + 1 < w1.heap.size := (by have := hb.size; (try simp at this); omega); have hzw1_2 : w.heap.size + 2 < w1.heap.size := (by have := hb.size; (try simp at this); omega); have HR1 := Aside0.mk hR; have HB' := Aside0.mk (bstep (w := w) (by with_reducible repeat (first | refine below_set ?_ (by omega) | apply below_alloc | exact HB.out)) hb); clear HB hb hR; have HB := HB'; clear HB') | (go_at_call_of 161 (Value.slice A1 x.Vars.length c1); (with_reducible refine (toStringS.calls _ _ _ (HK2.out.below (by with_reducible repeat (first | refine below_set ?_ (by omega) | apply below_alloc | exact HB.out))) HS2.out).mono ?_); rintro e w2 ⟨v2, rfl, hR, hb⟩; have HL2 := Aside0.mk hb; obtain ⟨B2, d2, rfl⟩ := Kd.R_slice hR; obtain ⟨hcw2, hfw2⟩ := bcell hb; have hzw2_0 : w.heap.size < w2.heap.size := (by have := hb.size; (try simp at this); omega); have hzw2_1 : w.heap.size + 1 < w2.heap.size := (by have := hb.size; (try simp at this); omega); have hzw2_2 : w.heap.size + 2 < w2.heap.size := (by have := hb.size; (try simp at this); omega); have HR2 := Aside0.mk hR; have HB' := Aside0.mk (bstep (w := w) (by with_reducible repeat (first | refine below_set ?_ (by omega) | apply below_alloc | exact HB.out)) hb); clear HB hb hR; have HB := HB'; clear HB'))
  refine bodyPost_ret (v := .agg #[.string x.Name, .slice B1 x.Uses.length d1, .slice B2 x.Vars.length d2, .int .i64 x.Body]) (by simp [results, Try.results139, go_sem, hcw1, hcw2, hfw1, hfw2, hzw1_0, hzw1_1, hzw1_2, hzw2_0, hzw2_1, hzw2_2]) rfl ⟨_, rfl, kProcess_mkM _ _ x _ (Kd.R_lower (R_kept (lo := w.heap.size + 3) HR1.out (by first | omega | (simp <;> omega)) (by with_reducible repeat (first | refine Kept.set ?_ (by simp) _ | exact Kept.refl _ _ | refine Kept.below ?_ HL2.out))) (by first | omega | (simp <;> omega))) _ (Kd.R_lower (R_kept (lo := w.heap.size + 3) HR2.out (by first | omega | (simp <;> omega)) (by with_reducible repeat (first | refine Kept.set ?_ (by simp) _ | exact Kept.refl _ _))) (by first | omega | (simp <;> omega))), ?_⟩
  with_reducible repeat (first | refine below_set ?_ (by omega) | apply below_alloc | exact HB.out)
theorem info141 : (Try.prog.info? 141).map (fun i => (i.zero, i.size, i.bytes)) = some (some (.agg #[.string ByteArray.empty, .slice none 0 0, .slice none 0 0, .int .i64 0]), 4, 72) := by kernel_rfl
set_option maxHeartbeats 2000000 in
theorem toProcessS.calls (w : World) (xs : List TProcess) (v : Value) (h : SK kProcess w xs v) (hs : (xs.length ≤ 1048576 ∧ ∀ y ∈ xs, smProcess y)) :
    Calls Try.prog 97 #[v] w (NewR kProcess 141 xs w) := by
  obtain ⟨A, c, rfl, hl, hC⟩ := h
  have HK := Aside0.mk hC
  clear hC hl
  have hsl : xs.length ≤ 1048576 := hs.1
  have HS := Aside0.mk hs.2
  clear hs
  go_enter Try.func97, Try.ntmps97
  go_wp2_with ((with_reducible refine gate_dst (N := 7) rfl ?_); refine Kd.R_make kProcess _ 141 rfl (N := 7) rfl 85 _ _ rfl (xs.length : Int) rfl rfl Try.underlying85 (.agg #[.string ByteArray.empty, .slice none 0 0, .slice none 0 0, .int .i64 0]) 72 info141 rfl (by decide) (by omega) ⟨ByteArray.empty, [], [], 0⟩ (ok := fun _ => True) (okp := fun _ => True) (kProcess_zM _ _) (fun _ hk => hk) trivial (by omega) (by omega) (Below.refl _ _) (Nat.le_refl _) ?_; intro v1 w1 HR hb _ _; simp only [Int.toNat_natCast] at HR; have HR1 := Aside0.mk HR; have HB1 := Aside0.mk hb; clear HR hb)
  go_loopw [4] (fun i wr => ∃ k : Nat, i = .int .i64 k ∧ k ≤ xs.length ∧ Aside0 (Kd.R kProcess 141 wr w.heap.size (fun _ => True) v1 (xs.take k ++ List.replicate (xs.length - k) ⟨ByteArray.empty, [], [], 0⟩)) ∧ Aside0 (Below w.heap.size w wr)) (fun i _ => xs.length - (intOf i).toNat)
  case atStart => exact ⟨0, rfl, by omega, ⟨by simpa using HR1.out⟩, HB1⟩
  case round =>
    obtain ⟨k, rfl, hk, HR, HB⟩ := hrel
    clear HR1 HB1
    by_cases hlt : k < xs.length
    · obtain ⟨ad, cs, e, _, hKe, hcell⟩ := Kd.C_get (Kd.C_below HK.out HB.out) ⟨ByteArray.empty, [], [], 0⟩ (k : Int) (by omega) (by omega)
      rw [show xs.getD ((k : Int)).toNat ⟨ByteArray.empty, [], [], 0⟩ = xs[k] by simp [List.getD, hlt]] at hKe
      have HKe := Aside0.mk hKe
      obtain ⟨A0, c0, A1, c1, rfl, _⟩ := kProcess_open hKe
      cases e
      have hc0 := hcell 0 _ rfl
      have hc1 := hcell 1 _ rfl
      have hc2 := hcell 2 _ rfl
      have hc3 := hcell 3 _ rfl
      simp only [Int.toNat_natCast, show kProcess.sz = 4 from rfl, add_field _ _ 1 (by omega), add_field _ _ 2 (by omega), add_field _ _ 3 (by omega), Nat.mul_one, Nat.add_zero] at hc0 hc1 hc2 hc3
      clear hcell hKe
      obtain ⟨g, cap, e, hg0, hg1, cells, hcur⟩ := Kd.R_form HR.out (by rw [fill_len _ _ _ hk]; omega)
      rw [fill_len _ _ _ hk] at e
      subst e
      have hg := Aside0.mk (And.intro hg0 hg1)
      clear hg0 hg1 hcur
      go_wp2_with (first | (go_at_call 139; (with_reducible refine (toProcess.calls _ xs[k] _ HKe.out (HS.out _ (List.getElem_mem hlt))).mono ?_); rintro e w2 ⟨ds, rfl, hM, hb⟩; have HM := Aside0.mk hM; have HR2 := Aside0.mk (Kd.R_below HR.out hb); have HB2 := Aside0.mk (bstep HB.out hb); have hg2 := Aside0.mk (show g < wr.heap.size ∧ w.heap.size ≤ wr.heap.size from ⟨hg.out.2, HB.out.size⟩)) | ((with_reducible refine gate_store (t := 141) (p := 21) rfl ?_); refine fill_store kProcess rfl rfl 141 _ _ rfl k ⟨ByteArray.empty, [], [], 0⟩ xs[k] (.agg ds.toArray) wr.heap.size 4 rfl (by go_simp) (by go_simp) (by kernel_rfl) (by simpa [Value.cells] using kProcess.K_one (kProcess.K_of_M HM.out)) HR2.out hlt (by simpa [Value.cells] using HM.out) hg2.out.1 hg2.out.2 HB2.out ?_; intro w3 HR4 HB4 _; have HR3 := Aside0.mk HR4; have HB3 := Aside0.mk HB4; clear HR4 HB4))
      go_roundw
      case rel => exact ⟨k + 1, by go_num, by omega, ⟨by rw [← fill_set _ _ _ hlt]; exact HR3.out⟩, HB3⟩
      case measure => simp [intOf]; omega
    · have e : k = xs.length := by omega
      subst e
      go_wp2
      go_ret
      exact ⟨_, rfl, by simpa using HR.out, HB.out⟩
set_option maxHeartbeats 4000000 in
set_option maxRecDepth 100000 in
theorem eqProcess.calls (w : World) (x : TProcess) (cs ds : List Value) (h : kProcess.K w x cs) (h' : kProcess.K w x ds) :
    Calls Try.prog 145 #[.agg cs.toArray, .agg ds.toArray] w fun e w' => e = .returned (.bool true) ∧ Below w.heap.size w w' := by
  obtain ⟨A0, c0, A1, c1, rfl, f1_, f2_⟩ := kProcess_open h
  have HK1 := Aside0.mk f1_
  have HK2 := Aside0.mk f2_
  clear f1_ f2_
  obtain ⟨B0, d0, B1, d1, rfl, q1_, q2_⟩ := kProcess_open h'
  have HL1 := Aside0.mk q1_
  have HL2 := Aside0.mk q2_
  clear q1_ q2_
  clear h h'
  have HB := Aside0.mk (below_alloc (below_alloc (Below.refl w.heap.size w) (.cells #[.string x.Name, .slice A0 x.Uses.length c0, .slice A1 x.Vars.length c1, .int .i64 x.Body] 141 (0, 0))) (.cells #[.string x.Name, .slice B0 x.Uses.length d0, .slice B1 x.Vars.length d1, .int .i64 x.Body] 141 (0, 0)))
  go_enter Try.func145, Try.ntmps145
  go_wp2_with (first | (go_at_call_of 163 (Value.slice A0 x.Uses.length c0); (with_reducible refine (eqStringS.calls _ _ _ _ (HK1.out.below HB.out) (HL1.out.below HB.out)).mono ?_); rintro e w1 ⟨rfl, hb⟩; obtain ⟨hcw1, hfw1⟩ := bcell hb; have hzw1_0 : w.heap.size < w1.heap.size := (by have := hb.size; (try simp at this); omega); have hzw1_1 : w.heap.size + 1 < w1.heap.size := (by have := hb.size; (try simp at this); omega); have HB' := Aside0.mk (bstep HB.out hb); clear HB hb; have HB := HB'; clear HB') | (go_at_call_of 163 (Value.slice A1 x.Vars.length c1); (with_reducible refine (eqStringS.calls _ _ _ _ (HK2.out.below HB.out) (HL2.out.below HB.out)).mono ?_); rintro e w2 ⟨rfl, hb⟩; obtain ⟨hcw2, hfw2⟩ := bcell hb; have hzw2_0 : w.heap.size < w2.heap.size := (by have := hb.size; (try simp at this); omega); have hzw2_1 : w.heap.size + 1 < w2.heap.size := (by have := hb.size; (try simp at this); omega); have HB' := Aside0.mk (bstep HB.out hb); clear HB hb; have HB := HB'; clear HB'))
  go_ret
  exact ⟨rfl, HB.out⟩
set_option maxHeartbeats 4000000 in
theorem eqProcessS.calls (w : World) (xs : List TProcess) (v u : Value) (h : SK kProcess w xs v) (h' : SK kProcess w xs u) :
    Calls Try.prog 104 #[v, u] w fun e w' => e = .returned (.bool true) ∧ Below w.heap.size w w' := by
  obtain ⟨A, c, rfl, _, hC⟩ := h
  obtain ⟨A', c', rfl, _, hC'⟩ := h'
  have hn : xs.length ≤ 9223372036854775807 := hC.2.1
  have HK := Aside0.mk hC
  have HK' := Aside0.mk hC'
  clear hC hC'
  go_enter Try.func104, Try.ntmps104
  go_wp2
  go_loopw [5] (fun i wr => ∃ k : Nat, i = .int .i64 k ∧ k ≤ xs.length ∧ Aside0 (Below w.heap.size w wr)) (fun i _ => xs.length - (intOf i).toNat)
  case atStart => exact ⟨0, rfl, by omega, ⟨Below.refl _ _⟩⟩
  case round =>
    obtain ⟨k, rfl, hk, HB⟩ := hrel
    by_cases hlt : k < xs.length
    · obtain ⟨ad, cs, e, _, hKe, hcell⟩ := Kd.C_get (Kd.C_below HK.out HB.out) ⟨ByteArray.empty, [], [], 0⟩ (k : Int) (by omega) (by omega)
      rw [show xs.getD ((k : Int)).toNat ⟨ByteArray.empty, [], [], 0⟩ = xs[k] by simp [List.getD, hlt]] at hKe
      have HKe := Aside0.mk hKe
      obtain ⟨A0, c0, A1, c1, rfl, _⟩ := kProcess_open hKe
      cases e
      have hc0 := hcell 0 _ rfl
      have hc1 := hcell 1 _ rfl
      have hc2 := hcell 2 _ rfl
      have hc3 := hcell 3 _ rfl
      simp only [Int.toNat_natCast, show kProcess.sz = 4 from rfl, add_field _ _ 1 (by omega), add_field _ _ 2 (by omega), add_field _ _ 3 (by omega), Nat.mul_one, Nat.add_zero] at hc0 hc1 hc2 hc3
      clear hcell hKe
      obtain ⟨ad', cs', e', _, hKe', hcell'⟩ := Kd.C_get (Kd.C_below HK'.out HB.out) ⟨ByteArray.empty, [], [], 0⟩ (k : Int) (by omega) (by omega)
      rw [show xs.getD ((k : Int)).toNat ⟨ByteArray.empty, [], [], 0⟩ = xs[k] by simp [List.getD, hlt]] at hKe'
      have HKe' := Aside0.mk hKe'
      obtain ⟨B0, d0, B1, d1, rfl, _⟩ := kProcess_open hKe'
      cases e'
      have hd0 := hcell' 0 _ rfl
      have hd1 := hcell' 1 _ rfl
      have hd2 := hcell' 2 _ rfl
      have hd3 := hcell' 3 _ rfl
      simp only [Int.toNat_natCast, show kProcess.sz = 4 from rfl, add_field _ _ 1 (by omega), add_field _ _ 2 (by omega), add_field _ _ 3 (by omega), Nat.mul_one, Nat.add_zero] at hd0 hd1 hd2 hd3
      clear hcell' hKe'
      go_wp2
      go_region_held3 (fun w' => w'.cell? (ad.add (k * 4)) = some (.string xs[k].Name) ∧ w'.cell? ⟨(ad.add (k * 4)).block, (ad.add (k * 4)).off + 1, none⟩ = some (.slice A0 xs[k].Uses.length c0) ∧ w'.cell? ⟨(ad.add (k * 4)).block, (ad.add (k * 4)).off + 2, none⟩ = some (.slice A1 xs[k].Vars.length c1) ∧ w'.cell? ⟨(ad.add (k * 4)).block, (ad.add (k * 4)).off + 3, none⟩ = some (.int .i64 xs[k].Body) ∧ w'.cell? (ad'.add (k * 4)) = some (.string xs[k].Name) ∧ w'.cell? ⟨(ad'.add (k * 4)).block, (ad'.add (k * 4)).off + 1, none⟩ = some (.slice B0 xs[k].Uses.length d0) ∧ w'.cell? ⟨(ad'.add (k * 4)).block, (ad'.add (k * 4)).off + 2, none⟩ = some (.slice B1 xs[k].Vars.length d1) ∧ w'.cell? ⟨(ad'.add (k * 4)).block, (ad'.add (k * 4)).off + 3, none⟩ = some (.int .i64 xs[k].Body)) (first | exact ⟨hc0, hc1, hc2, hc3, hd0, hd1, hd2, hd3⟩ | exact ⟨pw_cell_below (w := wr.drew) (by assumption) hc0, pw_cell_below (w := wr.drew) (by assumption) hc1, pw_cell_below (w := wr.drew) (by assumption) hc2, pw_cell_below (w := wr.drew) (by assumption) hc3, pw_cell_below (w := wr.drew) (by assumption) hd0, pw_cell_below (w := wr.drew) (by assumption) hd1, pw_cell_below (w := wr.drew) (by assumption) hd2, pw_cell_below (w := wr.drew) (by assumption) hd3⟩) (first | (go_at_call 145; refine (eqProcess.calls _ xs[k] _ _ (kProcess.K_below (below_drew1 (Below.refl _ _)) HKe.out) (kProcess.K_below (below_drew1 (Below.refl _ _)) HKe'.out)).mono ?_; rintro e w1 ⟨rfl, hb⟩))
      rename_i hb hS
      have HB1 := Aside0.mk (bstep (below_drew1 HB.out) hb)
      clear hb hS
      go_wp2
      go_roundw
      case rel => exact ⟨k + 1, by go_num, by omega, HB1⟩
      case measure => simp [intOf]; omega
    · have e : k = xs.length := by omega
      subst e
      go_wp2
      go_ret
      exact ⟨rfl, HB.out⟩
structure TProgram where
  Nodes : List TNode
  Monitors : List TMonitor
  Processes : List TProcess
instance : Inhabited TProgram := ⟨⟨[], [], []⟩⟩
def kProgram : Kd TProgram := Kd.iso (Kd.pair (Kd.slice 195 kNode) (Kd.pair (Kd.slice 144 kMonitor) (Kd.slice 141 kProcess))) (fun x => (x.Nodes, x.Monitors, x.Processes))
theorem kProgram_sz : kProgram.sz = 3 := rfl
theorem kProgram_open {w : World} {x : TProgram} {cs : List Value} (h : kProgram.K w x cs) : ∃ A0 c0 A1 c1 A2 c2, cs = [.slice A0 x.Nodes.length c0, .slice A1 x.Monitors.length c1, .slice A2 x.Processes.length c2] ∧ SK kNode w x.Nodes (.slice A0 x.Nodes.length c0) ∧ SK kMonitor w x.Monitors (.slice A1 x.Monitors.length c1) ∧ SK kProcess w x.Processes (.slice A2 x.Processes.length c2) := by
  obtain ⟨_, _, rfl, ⟨A0, c0, rfl, l0, C0⟩, _, _, rfl, ⟨A1, c1, rfl, l1, C1⟩, ⟨A2, c2, rfl, l2, C2⟩⟩ := h
  exact ⟨A0, c0, A1, c1, A2, c2, rfl, ⟨A0, c0, rfl, l0, C0⟩, ⟨A1, c1, rfl, l1, C1⟩, ⟨A2, c2, rfl, l2, C2⟩⟩
theorem kProgram_mkM (w : World) (base : Nat) (x : TProgram) (v0 : Value) (h0 : Kd.R kNode 195 w base (fun _ => True) v0 x.Nodes) (v1 : Value) (h1 : Kd.R kMonitor 144 w base (fun _ => True) v1 x.Monitors) (v2 : Value) (h2 : Kd.R kProcess 141 w base (fun _ => True) v2 x.Processes) : kProgram.M w base (fun _ => True) x [v0, v1, v2] :=
  ⟨[v0], _, rfl, ⟨v0, rfl, h0⟩, ⟨[v1], _, rfl, ⟨v1, rfl, h1⟩, ⟨v2, rfl, h2⟩⟩⟩
theorem kProgram_zM (w : World) (base : Nat) : kProgram.M w base (fun _ => True) ⟨[], [], []⟩ [.slice none 0 0, .slice none 0 0, .slice none 0 0] := kProgram_mkM w base ⟨[], [], []⟩ _ (Kd.R_nil _ _ _ _ _) _ (Kd.R_nil _ _ _ _ _) _ (Kd.R_nil _ _ _ _ _)
def wfProgram (x : TProgram) : Prop := (∀ y ∈ x.Nodes, wfNode y) ∧ (∀ y ∈ x.Monitors, wfMonitor y) ∧ (∀ y ∈ x.Processes, wfProcess y)
def smProgram (x : TProgram) : Prop := (x.Nodes.length ≤ 1048576 ∧ ∀ y ∈ x.Nodes, smNode y) ∧ (x.Monitors.length ≤ 1048576 ∧ ∀ y ∈ x.Monitors, smMonitor y) ∧ (x.Processes.length ≤ 1048576 ∧ ∀ y ∈ x.Processes, smProcess y)
set_option maxHeartbeats 2000000 in
theorem szProgram.calls (w : World) (x : TProgram) (cs : List Value) (left : Int) (h : kProgram.K w x cs) (hw : wfProgram x) (h0 : 0 ≤ left) (h1 : left ≤ 1048576) :
    Calls Try.prog 45 #[.agg cs.toArray, .int .i64 left] w (SzPost left (smProgram x) w) := by
  obtain ⟨A0, c0, A1, c1, A2, c2, rfl, f0_, f1_, f2_⟩ := kProgram_open h
  have HK0 := Aside0.mk f0_
  have HK1 := Aside0.mk f1_
  have HK2 := Aside0.mk f2_
  clear f0_ f1_ f2_
  obtain ⟨hw0, hw1, hw2⟩ := hw
  have HW0 := Aside0.mk hw0
  clear hw0
  have HW1 := Aside0.mk hw1
  clear hw1
  have HW2 := Aside0.mk hw2
  clear hw2
  have HB := Aside0.mk (below_alloc (Below.refl w.heap.size w) (.cells #[.slice A0 x.Nodes.length c0, .slice A1 x.Monitors.length c1, .slice A2 x.Processes.length c2] 80 (0, 0)))
  clear h
  go_enter Try.func45, Try.ntmps45
  go_wp2_with (first | (go_at_call 90; (with_reducible refine (szNodeS.calls _ _ _ _ (HK0.out.below HB.out) HW0.out (by omega) (by omega)).mono ?_); rintro e w0 ⟨r, rfl, ⟨g1, g2, g3⟩, hb⟩; obtain ⟨hcw0, hfw0⟩ := bcell hb; have hzw0_0 : w.heap.size < w0.heap.size := (by have := hb.size; (try simp at this); omega); have HS0 := Aside0.mk g3; have HB' := Aside0.mk (bstep HB.out hb); clear HB hb g3; have HB := HB'; clear HB') | (go_at_call 91; (with_reducible refine (szMonitorS.calls _ _ _ _ (HK1.out.below HB.out) HW1.out (by omega) (by omega)).mono ?_); rintro e w1 ⟨r, rfl, ⟨g1, g2, g3⟩, hb⟩; obtain ⟨hcw1, hfw1⟩ := bcell hb; have hzw1_0 : w.heap.size < w1.heap.size := (by have := hb.size; (try simp at this); omega); have HS1 := Aside0.mk g3; have HB' := Aside0.mk (bstep HB.out hb); clear HB hb g3; have HB := HB'; clear HB') | (go_at_call 92; (with_reducible refine (szProcessS.calls _ _ _ _ (HK2.out.below HB.out) HW2.out (by omega) (by omega)).mono ?_); rintro e w2 ⟨r, rfl, ⟨g1, g2, g3⟩, hb⟩; obtain ⟨hcw2, hfw2⟩ := bcell hb; have hzw2_0 : w.heap.size < w2.heap.size := (by have := hb.size; (try simp at this); omega); have HS2 := Aside0.mk g3; have HB' := Aside0.mk (bstep HB.out hb); clear HB hb g3; have HB := HB'; clear HB'))
  all_goals
    go_ret
    first
      | exact ⟨_, rfl, ⟨by omega, by omega, fun h => ⟨HS0.out (by omega), HS1.out (by omega), HS2.out (by omega)⟩⟩, HB.out⟩
      | exact ⟨_, rfl, ⟨by omega, by omega, fun h => absurd h (by omega)⟩, HB.out⟩
set_option maxHeartbeats 4000000 in
set_option maxRecDepth 100000 in
theorem toProgram.calls (w : World) (x : TProgram) (cs : List Value) (h : kProgram.K w x cs) (hs : smProgram x) :
    Calls Try.prog 47 #[.agg cs.toArray] w (NewM kProgram x w) := by
  obtain ⟨A0, c0, A1, c1, A2, c2, rfl, f0_, f1_, f2_⟩ := kProgram_open h
  have HK0 := Aside0.mk f0_
  have HK1 := Aside0.mk f1_
  have HK2 := Aside0.mk f2_
  clear f0_ f1_ f2_
  obtain ⟨s0, s1, s2⟩ := hs
  have HS0 := Aside0.mk s0
  clear s0
  have HS1 := Aside0.mk s1
  clear s1
  have HS2 := Aside0.mk s2
  clear s2
  clear h
  have HB := Aside0.mk (Below.refl w.heap.size w)
  go_enter Try.func47, Try.ntmps47
  go_wp2_with (first | (go_at_call 95; (with_reducible refine (toNodeS.calls _ _ _ (HK0.out.below (by with_reducible repeat (first | refine below_set ?_ (by omega) | apply below_alloc | exact HB.out))) HS0.out).mono ?_); rintro e w0 ⟨v0, rfl, hR, hb⟩; have HL0 := Aside0.mk hb; obtain ⟨B0, d0, rfl⟩ := Kd.R_slice hR; obtain ⟨hcw0, hfw0⟩ := bcell hb; have hzw0_0 : w.heap.size < w0.heap.size := (by have := hb.size; (try simp at this); omega); have hzw0_1 : w.heap.size + 1 < w0.heap.size := (by have := hb.size; (try simp at this); omega); have hzw0_2 : w.heap.size + 2 < w0.heap.size := (by have := hb.size; (try simp at this); omega); have HR0 := Aside0.mk hR; have HB' := Aside0.mk (bstep (w := w) (by with_reducible repeat (first | refine below_set ?_ (by omega) | apply below_alloc | exact HB.out)) hb); clear HB hb hR; have HB := HB'; clear HB') | (go_at_call 96; (with_reducible refine (toMonitorS.calls _ _ _ (HK1.out.below (by with_reducible repeat (first | refine below_set ?_ (by omega) | apply below_alloc | exact HB.out))) HS1.out).mono ?_); rintro e w1 ⟨v1, rfl, hR, hb⟩; have HL1 := Aside0.mk hb; obtain ⟨B1, d1, rfl⟩ := Kd.R_slice hR; obtain ⟨hcw1, hfw1⟩ := bcell hb; have hzw1_0 : w.heap.size < w1.heap.size := (by have := hb.size; (try simp at this); omega); have hzw1_1 : w.heap.size + 1 < w1.heap.size := (by have := hb.size; (try simp at this); omega); have hzw1_2 : w.heap.size + 2 < w1.heap.size := (by have := hb.size; (try simp at this); omega); have HR1 := Aside0.mk hR; have HB' := Aside0.mk (bstep (w := w) (by with_reducible repeat (first | refine below_set ?_ (by omega) | apply below_alloc | exact HB.out)) hb); clear HB hb hR; have HB := HB'; clear HB') | (go_at_call 97; (with_reducible refine (toProcessS.calls _ _ _ (HK2.out.below (by with_reducible repeat (first | refine below_set ?_ (by omega) | apply below_alloc | exact HB.out))) HS2.out).mono ?_); rintro e w2 ⟨v2, rfl, hR, hb⟩; have HL2 := Aside0.mk hb; obtain ⟨B2, d2, rfl⟩ := Kd.R_slice hR; obtain ⟨hcw2, hfw2⟩ := bcell hb; have hzw2_0 : w.heap.size < w2.heap.size := (by have := hb.size; (try simp at this); omega); have hzw2_1 : w.heap.size + 1 < w2.heap.size := (by have := hb.size; (try simp at this); omega); have hzw2_2 : w.heap.size + 2 < w2.heap.size := (by have := hb.size; (try simp at this); omega); have HR2 := Aside0.mk hR; have HB' := Aside0.mk (bstep (w := w) (by with_reducible repeat (first | refine below_set ?_ (by omega) | apply below_alloc | exact HB.out)) hb); clear HB hb hR; have HB := HB'; clear HB'))
  refine bodyPost_ret (v := .agg #[.slice B0 x.Nodes.length d0, .slice B1 x.Monitors.length d1, .slice B2 x.Processes.length d2]) (by simp [results, Try.results47, go_sem, hcw0, hcw1, hcw2, hfw0, hfw1, hfw2, hzw0_0, hzw0_1, hzw0_2, hzw1_0, hzw1_1, hzw1_2, hzw2_0, hzw2_1, hzw2_2]) rfl ⟨_, rfl, kProgram_mkM _ _ x _ (Kd.R_lower (R_kept (lo := w.heap.size + 3) HR0.out (by first | omega | (simp <;> omega)) (by with_reducible repeat (first | refine Kept.set ?_ (by simp) _ | exact Kept.refl _ _ | refine Kept.below ?_ HL1.out | refine Kept.below ?_ HL2.out))) (by first | omega | (simp <;> omega))) _ (Kd.R_lower (R_kept (lo := w.heap.size + 3) HR1.out (by first | omega | (simp <;> omega)) (by with_reducible repeat (first | refine Kept.set ?_ (by simp) _ | exact Kept.refl _ _ | refine Kept.below ?_ HL2.out))) (by first | omega | (simp <;> omega))) _ (Kd.R_lower (R_kept (lo := w.heap.size + 3) HR2.out (by first | omega | (simp <;> omega)) (by with_reducible repeat (first | refine Kept.set ?_ (by simp) _ | exact Kept.refl _ _))) (by first | omega | (simp <;> omega))), ?_⟩
  with_reducible repeat (first | refine below_set ?_ (by omega) | apply below_alloc | exact HB.out)
set_option maxHeartbeats 4000000 in
set_option maxRecDepth 100000 in
theorem eqProgram.calls (w : World) (x : TProgram) (cs ds : List Value) (h : kProgram.K w x cs) (h' : kProgram.K w x ds) :
    Calls Try.prog 49 #[.agg cs.toArray, .agg ds.toArray] w fun e w' => e = .returned (.bool true) ∧ Below w.heap.size w w' := by
  obtain ⟨A0, c0, A1, c1, A2, c2, rfl, f0_, f1_, f2_⟩ := kProgram_open h
  have HK0 := Aside0.mk f0_
  have HK1 := Aside0.mk f1_
  have HK2 := Aside0.mk f2_
  clear f0_ f1_ f2_
  obtain ⟨B0, d0, B1, d1, B2, d2, rfl, q0_, q1_, q2_⟩ := kProgram_open h'
  have HL0 := Aside0.mk q0_
  have HL1 := Aside0.mk q1_
  have HL2 := Aside0.mk q2_
  clear q0_ q1_ q2_
  clear h h'
  have HB := Aside0.mk (below_alloc (below_alloc (Below.refl w.heap.size w) (.cells #[.slice A0 x.Nodes.length c0, .slice A1 x.Monitors.length c1, .slice A2 x.Processes.length c2] 87 (0, 0))) (.cells #[.slice B0 x.Nodes.length d0, .slice B1 x.Monitors.length d1, .slice B2 x.Processes.length d2] 87 (0, 0)))
  go_enter Try.func49, Try.ntmps49
  go_wp2_with (first | (go_at_call 102; (with_reducible refine (eqNodeS.calls _ _ _ _ (HK0.out.below HB.out) (HL0.out.below HB.out)).mono ?_); rintro e w0 ⟨rfl, hb⟩; obtain ⟨hcw0, hfw0⟩ := bcell hb; have hzw0_0 : w.heap.size < w0.heap.size := (by have := hb.size; (try simp at this); omega); have hzw0_1 : w.heap.size + 1 < w0.heap.size := (by have := hb.size; (try simp at this); omega); have HB' := Aside0.mk (bstep HB.out hb); clear HB hb; have HB := HB'; clear HB') | (go_at_call 103; (with_reducible refine (eqMonitorS.calls _ _ _ _ (HK1.out.below HB.out) (HL1.out.below HB.out)).mono ?_); rintro e w1 ⟨rfl, hb⟩; obtain ⟨hcw1, hfw1⟩ := bcell hb; have hzw1_0 : w.heap.size < w1.heap.size := (by have := hb.size; (try simp at this); omega); have hzw1_1 : w.heap.size + 1 < w1.heap.size := (by have := hb.size; (try simp at this); omega); have HB' := Aside0.mk (bstep HB.out hb); clear HB hb; have HB := HB'; clear HB') | (go_at_call 104; (with_reducible refine (eqProcessS.calls _ _ _ _ (HK2.out.below HB.out) (HL2.out.below HB.out)).mono ?_); rintro e w2 ⟨rfl, hb⟩; obtain ⟨hcw2, hfw2⟩ := bcell hb; have hzw2_0 : w.heap.size < w2.heap.size := (by have := hb.size; (try simp at this); omega); have hzw2_1 : w.heap.size + 1 < w2.heap.size := (by have := hb.size; (try simp at this); omega); have HB' := Aside0.mk (bstep HB.out hb); clear HB hb; have HB := HB'; clear HB'))
  go_ret
  exact ⟨rfl, HB.out⟩
end Go.Proofs.Ytgeoipplkjgnfaa
