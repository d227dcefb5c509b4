/- Walks of the functions that measure, copy and compare events and outcomes: what they come to when their arguments are read from memory. Printed by gen.py, this session's own program. -/
import Derived.Test.YtgeoipplkjgnfaaFamA
set_option linter.unusedSimpArgs false
set_option linter.unusedVariables false
namespace Go.Proofs.Ytgeoipplkjgnfaa
open Go.RowKit Go.Proofs.YtgeoipplkjgnfaaW.PrintWords Go.Proofs.Ytgeoipplkjgnfaa.Lib
structure TEvent where
  Process : Int
  Kind : Int
  Num : Int
instance : Inhabited TEvent := ⟨⟨0, 0, 0⟩⟩
def kEvent : Kd TEvent := Kd.iso (Kd.pair (Kd.int .i64) (Kd.pair (Kd.int .i64) (Kd.int .i64))) (fun x => (x.Process, x.Kind, x.Num))
theorem kEvent_sz : kEvent.sz = 3 := rfl
theorem kEvent_open {w : World} {x : TEvent} {cs : List Value} (h : kEvent.K w x cs) : cs = [.int .i64 x.Process, .int .i64 x.Kind, .int .i64 x.Num] := by
  obtain ⟨_, _, rfl, rfl, _, _, rfl, rfl, rfl⟩ := h
  exact rfl
theorem kEvent_mkM (w : World) (base : Nat) (x : TEvent)  : kEvent.M w base (fun _ => True) x [.int .i64 x.Process, .int .i64 x.Kind, .int .i64 x.Num] :=
  ⟨[_], _, rfl, rfl, ⟨[_], _, rfl, rfl, rfl⟩⟩
theorem kEvent_zM (w : World) (base : Nat) : kEvent.M w base (fun _ => True) ⟨0, 0, 0⟩ [.int .i64 0, .int .i64 0, .int .i64 0] := kEvent_mkM w base ⟨0, 0, 0⟩ 
def wfEvent (x : TEvent) : Prop := (Lit.int .i64 x.Process).wf = true ∧ (Lit.int .i64 x.Kind).wf = true ∧ (Lit.int .i64 x.Num).wf = true
set_option maxHeartbeats 2000000 in
theorem szEventS.calls (w : World) (xs : List TEvent) (v : Value) (left : Int) (h : SK kEvent w xs v) (h0 : 0 ≤ left) (h1 : left ≤ 1048576) :
    Calls Try.prog 12 #[v, .int .i64 left] w (SzPost left (xs.length ≤ 1048576) w) := by
  obtain ⟨A, c, rfl, _, hC⟩ := h
  have hn : xs.length ≤ 9223372036854775807 := hC.2.1
  clear hC
  go_enter Try.func12, Try.ntmps12
  go_wp2
  all_goals
    go_ret
    first
      | exact ⟨_, rfl, ⟨by omega, by omega, fun h => by omega⟩, Below.refl _ _⟩
      | exact ⟨_, rfl, ⟨by omega, by omega, fun h => absurd h (by omega)⟩, Below.refl _ _⟩
set_option maxHeartbeats 4000000 in
set_option maxRecDepth 100000 in
theorem toEvent.calls (w : World) (x : TEvent) (cs : List Value) (h : kEvent.K w x cs) :
    Calls Try.prog 59 #[.agg cs.toArray] w (NewM kEvent x w) := by
  obtain rfl := kEvent_open h
  clear h
  have HB := Aside0.mk (Below.refl w.heap.size w)
  go_enter Try.func59, Try.ntmps59
  go_wp2
  refine bodyPost_ret (v := .agg #[.int .i64 x.Process, .int .i64 x.Kind, .int .i64 x.Num]) (by simp [results, Try.results59, go_sem]) rfl ⟨_, rfl, kEvent_mkM _ _ x , ?_⟩
  with_reducible repeat (first | refine below_set ?_ (by omega) | apply below_alloc | exact HB.out)
theorem info109 : (Try.prog.info? 109).map (fun i => (i.zero, i.size, i.bytes)) = some (some (.agg #[.int .i64 0, .int .i64 0, .int .i64 0]), 3, 24) := by kernel_rfl
set_option maxHeartbeats 2000000 in
theorem toEventS.calls (w : World) (xs : List TEvent) (v : Value) (h : SK kEvent w xs v) (hs : xs.length ≤ 1048576) :
    Calls Try.prog 14 #[v] w (NewR kEvent 109 xs w) := by
  obtain ⟨A, c, rfl, hl, hC⟩ := h
  have HK := Aside0.mk hC
  clear hC hl
  have hsl : xs.length ≤ 1048576 := hs
  clear hs
  go_enter Try.func14, Try.ntmps14
  go_wp2_with ((with_reducible refine gate_dst (N := 7) rfl ?_); refine Kd.R_make kEvent _ 109 rfl (N := 7) rfl 25 _ _ rfl (xs.length : Int) rfl rfl Try.underlying25 (.agg #[.int .i64 0, .int .i64 0, .int .i64 0]) 24 info109 rfl (by decide) (by omega) ⟨0, 0, 0⟩ (ok := fun _ => True) (okp := fun _ => True) (kEvent_zM _ _) (fun _ hk => hk) trivial (by omega) (by omega) (Below.refl _ _) (Nat.le_refl _) ?_; intro v1 w1 HR hb _ _; simp only [Int.toNat_natCast] at HR; have HR1 := Aside0.mk HR; have HB1 := Aside0.mk hb; clear HR hb)
  go_loopw [4] (fun i wr => ∃ k : Nat, i = .int .i64 k ∧ k ≤ xs.length ∧ Aside0 (Kd.R kEvent 109 wr w.heap.size (fun _ => True) v1 (xs.take k ++ List.replicate (xs.length - k) ⟨0, 0, 0⟩)) ∧ Aside0 (Below w.heap.size w wr)) (fun i _ => xs.length - (intOf i).toNat)
  case atStart => exact ⟨0, rfl, by omega, ⟨by simpa using HR1.out⟩, HB1⟩
  case round =>
    obtain ⟨k, rfl, hk, HR, HB⟩ := hrel
    clear HR1 HB1
    by_cases hlt : k < xs.length
    · obtain ⟨ad, cs, e, _, hKe, hcell⟩ := Kd.C_get (Kd.C_below HK.out HB.out) ⟨0, 0, 0⟩ (k : Int) (by omega) (by omega)
      rw [show xs.getD ((k : Int)).toNat ⟨0, 0, 0⟩ = xs[k] by simp [List.getD, hlt]] at hKe
      have HKe := Aside0.mk hKe
      obtain rfl := kEvent_open hKe
      cases e
      have hc0 := hcell 0 _ rfl
      have hc1 := hcell 1 _ rfl
      have hc2 := hcell 2 _ rfl
      simp only [Int.toNat_natCast, show kEvent.sz = 3 from rfl, add_field _ _ 1 (by omega), add_field _ _ 2 (by omega), Nat.mul_one, Nat.add_zero] at hc0 hc1 hc2
      clear hcell hKe
      obtain ⟨g, cap, e, hg0, hg1, cells, hcur⟩ := Kd.R_form HR.out (by rw [fill_len _ _ _ hk]; omega)
      rw [fill_len _ _ _ hk] at e
      subst e
      have hg := Aside0.mk (And.intro hg0 hg1)
      clear hg0 hg1 hcur
      go_wp2_with (first | (go_at_call 59; (with_reducible refine (toEvent.calls _ xs[k] _ HKe.out).mono ?_); rintro e w2 ⟨ds, rfl, hM, hb⟩; have HM := Aside0.mk hM; have HR2 := Aside0.mk (Kd.R_below HR.out hb); have HB2 := Aside0.mk (bstep HB.out hb); have hg2 := Aside0.mk (show g < wr.heap.size ∧ w.heap.size ≤ wr.heap.size from ⟨hg.out.2, HB.out.size⟩)) | ((with_reducible refine gate_store (t := 109) (p := 21) rfl ?_); refine fill_store kEvent rfl rfl 109 _ _ rfl k ⟨0, 0, 0⟩ xs[k] (.agg ds.toArray) wr.heap.size 3 rfl (by go_simp) (by go_simp) (by kernel_rfl) (by simpa [Value.cells] using kEvent.K_one (kEvent.K_of_M HM.out)) HR2.out hlt (by simpa [Value.cells] using HM.out) hg2.out.1 hg2.out.2 HB2.out ?_; intro w3 HR4 HB4 _; have HR3 := Aside0.mk HR4; have HB3 := Aside0.mk HB4; clear HR4 HB4))
      go_roundw
      case rel => exact ⟨k + 1, by go_num, by omega, ⟨by rw [← fill_set _ _ _ hlt]; exact HR3.out⟩, HB3⟩
      case measure => simp [intOf]; omega
    · have e : k = xs.length := by omega
      subst e
      go_wp2
      go_ret
      exact ⟨_, rfl, by simpa using HR.out, HB.out⟩
set_option maxHeartbeats 4000000 in
set_option maxRecDepth 100000 in
theorem eqEvent.calls (w : World) (x : TEvent) (cs ds : List Value) (h : kEvent.K w x cs) (h' : kEvent.K w x ds) :
    Calls Try.prog 60 #[.agg cs.toArray, .agg ds.toArray] w fun e w' => e = .returned (.bool true) ∧ Below w.heap.size w w' := by
  obtain rfl := kEvent_open h
  obtain rfl := kEvent_open h'
  clear h h'
  have HB := Aside0.mk (below_alloc (below_alloc (Below.refl w.heap.size w) (.cells #[.int .i64 x.Process, .int .i64 x.Kind, .int .i64 x.Num] 109 (0, 0))) (.cells #[.int .i64 x.Process, .int .i64 x.Kind, .int .i64 x.Num] 109 (0, 0)))
  go_enter Try.func60, Try.ntmps60
  go_wp2
  go_ret
  exact ⟨rfl, HB.out⟩
set_option maxHeartbeats 4000000 in
theorem eqEventS.calls (w : World) (xs : List TEvent) (v u : Value) (h : SK kEvent w xs v) (h' : SK kEvent w xs u) :
    Calls Try.prog 16 #[v, u] w fun e w' => e = .returned (.bool true) ∧ Below w.heap.size w w' := by
  obtain ⟨A, c, rfl, _, hC⟩ := h
  obtain ⟨A', c', rfl, _, hC'⟩ := h'
  have hn : xs.length ≤ 9223372036854775807 := hC.2.1
  have HK := Aside0.mk hC
  have HK' := Aside0.mk hC'
  clear hC hC'
  go_enter Try.func16, Try.ntmps16
  go_wp2
  go_loopw [5] (fun i wr => ∃ k : Nat, i = .int .i64 k ∧ k ≤ xs.length ∧ Aside0 (Below w.heap.size w wr)) (fun i _ => xs.length - (intOf i).toNat)
  case atStart => exact ⟨0, rfl, by omega, ⟨Below.refl _ _⟩⟩
  case round =>
    obtain ⟨k, rfl, hk, HB⟩ := hrel
    by_cases hlt : k < xs.length
    · obtain ⟨ad, cs, e, _, hKe, hcell⟩ := Kd.C_get (Kd.C_below HK.out HB.out) ⟨0, 0, 0⟩ (k : Int) (by omega) (by omega)
      rw [show xs.getD ((k : Int)).toNat ⟨0, 0, 0⟩ = xs[k] by simp [List.getD, hlt]] at hKe
      have HKe := Aside0.mk hKe
      obtain rfl := kEvent_open hKe
      cases e
      have hc0 := hcell 0 _ rfl
      have hc1 := hcell 1 _ rfl
      have hc2 := hcell 2 _ rfl
      simp only [Int.toNat_natCast, show kEvent.sz = 3 from rfl, add_field _ _ 1 (by omega), add_field _ _ 2 (by omega), Nat.mul_one, Nat.add_zero] at hc0 hc1 hc2
      clear hcell hKe
      obtain ⟨ad', cs', e', _, hKe', hcell'⟩ := Kd.C_get (Kd.C_below HK'.out HB.out) ⟨0, 0, 0⟩ (k : Int) (by omega) (by omega)
      rw [show xs.getD ((k : Int)).toNat ⟨0, 0, 0⟩ = xs[k] by simp [List.getD, hlt]] at hKe'
      have HKe' := Aside0.mk hKe'
      obtain rfl := kEvent_open hKe'
      cases e'
      have hd0 := hcell' 0 _ rfl
      have hd1 := hcell' 1 _ rfl
      have hd2 := hcell' 2 _ rfl
      simp only [Int.toNat_natCast, show kEvent.sz = 3 from rfl, add_field _ _ 1 (by omega), add_field _ _ 2 (by omega), Nat.mul_one, Nat.add_zero] at hd0 hd1 hd2
      clear hcell' hKe'
      go_wp2
      go_region_held3 (fun w' => w'.cell? (ad.add (k * 3)) = some (.int .i64 xs[k].Process) ∧ w'.cell? ⟨(ad.add (k * 3)).block, (ad.add (k * 3)).off + 1, none⟩ = some (.int .i64 xs[k].Kind) ∧ w'.cell? ⟨(ad.add (k * 3)).block, (ad.add (k * 3)).off + 2, none⟩ = some (.int .i64 xs[k].Num) ∧ w'.cell? (ad'.add (k * 3)) = some (.int .i64 xs[k].Process) ∧ w'.cell? ⟨(ad'.add (k * 3)).block, (ad'.add (k * 3)).off + 1, none⟩ = some (.int .i64 xs[k].Kind) ∧ w'.cell? ⟨(ad'.add (k * 3)).block, (ad'.add (k * 3)).off + 2, none⟩ = some (.int .i64 xs[k].Num)) (first | exact ⟨hc0, hc1, hc2, hd0, hd1, hd2⟩ | exact ⟨pw_cell_below (w := wr.drew) (by assumption) hc0, pw_cell_below (w := wr.drew) (by assumption) hc1, pw_cell_below (w := wr.drew) (by assumption) hc2, pw_cell_below (w := wr.drew) (by assumption) hd0, pw_cell_below (w := wr.drew) (by assumption) hd1, pw_cell_below (w := wr.drew) (by assumption) hd2⟩) (first | (go_at_call 60; refine (eqEvent.calls _ xs[k] _ _ (kEvent.K_below (below_drew1 (Below.refl _ _)) HKe.out) (kEvent.K_below (below_drew1 (Below.refl _ _)) HKe'.out)).mono ?_; rintro e w1 ⟨rfl, hb⟩))
      rename_i hb hS
      have HB1 := Aside0.mk (bstep (below_drew1 HB.out) hb)
      clear hb hS
      go_wp2
      go_roundw
      case rel => exact ⟨k + 1, by go_num, by omega, HB1⟩
      case measure => simp [intOf]; omega
    · have e : k = xs.length := by omega
      subst e
      go_wp2
      go_ret
      exact ⟨rfl, HB.out⟩
structure TOutcome where
  Fault : Int
  Code : Int
  Verdict : Int
  Prints : List Int
  Events : Int
instance : Inhabited TOutcome := ⟨⟨0, 0, 0, [], 0⟩⟩
def kOutcome : Kd TOutcome := Kd.iso (Kd.pair (Kd.int .i64) (Kd.pair (Kd.int .i64) (Kd.pair (Kd.int .i64) (Kd.pair (Kd.slice 3 (Kd.int .i64)) (Kd.int .i64))))) (fun x => (x.Fault, x.Code, x.Verdict, x.Prints, x.Events))
theorem kOutcome_sz : kOutcome.sz = 5 := rfl
theorem kOutcome_open {w : World} {x : TOutcome} {cs : List Value} (h : kOutcome.K w x cs) : ∃ A0 c0, cs = [.int .i64 x.Fault, .int .i64 x.Code, .int .i64 x.Verdict, .slice A0 x.Prints.length c0, .int .i64 x.Events] ∧ SK (Kd.int .i64) w x.Prints (.slice A0 x.Prints.length c0) := by
  obtain ⟨_, _, rfl, rfl, _, _, rfl, rfl, _, _, rfl, rfl, _, _, rfl, ⟨A0, c0, rfl, l0, C0⟩, rfl⟩ := h
  exact ⟨A0, c0, rfl, ⟨A0, c0, rfl, l0, C0⟩⟩
theorem kOutcome_mkM (w : World) (base : Nat) (x : TOutcome) (v0 : Value) (h0 : Kd.R (Kd.int .i64) 3 w base (fun _ => True) v0 x.Prints) : kOutcome.M w base (fun _ => True) x [.int .i64 x.Fault, .int .i64 x.Code, .int .i64 x.Verdict, v0, .int .i64 x.Events] :=
  ⟨[_], _, rfl, rfl, ⟨[_], _, rfl, rfl, ⟨[_], _, rfl, rfl, ⟨[v0], _, rfl, ⟨v0, rfl, h0⟩, rfl⟩⟩⟩⟩
theorem kOutcome_zM (w : World) (base : Nat) : kOutcome.M w base (fun _ => True) ⟨0, 0, 0, [], 0⟩ [.int .i64 0, .int .i64 0, .int .i64 0, .slice none 0 0, .int .i64 0] := kOutcome_mkM w base ⟨0, 0, 0, [], 0⟩ _ (Kd.R_nil _ _ _ _ _)
def wfOutcome (x : TOutcome) : Prop := (Lit.int .i64 x.Fault).wf = true ∧ (Lit.int .i64 x.Code).wf = true ∧ (Lit.int .i64 x.Verdict).wf = true ∧ (∀ y ∈ x.Prints, (Lit.int .i64 y).wf = true) ∧ (Lit.int .i64 x.Events).wf = true
def smOutcome (x : TOutcome) : Prop := x.Prints.length ≤ 1048576
set_option maxHeartbeats 2000000 in
theorem szOutcome.calls (w : World) (x : TOutcome) (cs : List Value) (left : Int) (h : kOutcome.K w x cs) (h0 : 0 ≤ left) (h1 : left ≤ 1048576) :
    Calls Try.prog 17 #[.agg cs.toArray, .int .i64 left] w (SzPost left (smOutcome x) w) := by
  obtain ⟨A0, c0, rfl, f3_⟩ := kOutcome_open h
  have HK3 := Aside0.mk f3_
  clear f3_
  have HB := Aside0.mk (below_alloc (Below.refl w.heap.size w) (.cells #[.int .i64 x.Fault, .int .i64 x.Code, .int .i64 x.Verdict, .slice A0 x.Prints.length c0, .int .i64 x.Events] 31 (0, 0)))
  clear h
  go_enter Try.func17, Try.ntmps17
  go_wp2_with (first | (go_at_call 61; (with_reducible refine (szIntS.calls _ _ _ _ (HK3.out.below HB.out) (by omega) (by omega)).mono ?_); rintro e w3 ⟨r, rfl, ⟨g1, g2, g3⟩, hb⟩; obtain ⟨hcw3, hfw3⟩ := bcell hb; have hzw3_0 : w.heap.size < w3.heap.size := (by have := hb.size; (try simp at this); omega); have HS3 := Aside0.mk g3; have HB' := Aside0.mk (bstep HB.out hb); clear HB hb g3; have HB := HB'; clear HB'))
  all_goals
    go_ret
    first
      | exact ⟨_, rfl, ⟨by omega, by omega, fun h => HS3.out (by omega)⟩, HB.out⟩
      | exact ⟨_, rfl, ⟨by omega, by omega, fun h => absurd h (by omega)⟩, HB.out⟩
set_option maxHeartbeats 4000000 in
set_option maxRecDepth 100000 in
theorem toOutcome.calls (w : World) (x : TOutcome) (cs : List Value) (h : kOutcome.K w x cs) (hs : smOutcome x) :
    Calls Try.prog 19 #[.agg cs.toArray] w (NewM kOutcome x w) := by
  obtain ⟨A0, c0, rfl, f3_⟩ := kOutcome_open h
  have HK3 := Aside0.mk f3_
  clear f3_
  have s3 : x.Prints.length ≤ 1048576 := hs
  have HS3 := Aside0.mk s3
  clear s3
  clear h
  have HB := Aside0.mk (Below.refl w.heap.size w)
  go_enter Try.func19, Try.ntmps19
  go_wp2_with (first | (go_at_call 63; (with_reducible refine (toIntS.calls _ _ _ (HK3.out.below (by with_reducible repeat (first | refine below_set ?_ (by omega) | apply below_alloc | exact HB.out))) HS3.out).mono ?_); rintro e w3 ⟨v3, rfl, hR, hb⟩; have HL3 := Aside0.mk hb; obtain ⟨B3, d3, rfl⟩ := Kd.R_slice hR; obtain ⟨hcw3, hfw3⟩ := bcell hb; have hzw3_0 : w.heap.size < w3.heap.size := (by have := hb.size; (try simp at this); omega); have hzw3_1 : w.heap.size + 1 < w3.heap.size := (by have := hb.size; (try simp at this); omega); have hzw3_2 : w.heap.size + 2 < w3.heap.size := (by have := hb.size; (try simp at this); omega); have HR3 := Aside0.mk hR; have HB' := Aside0.mk (bstep (w := w) (by with_reducible repeat (first | refine below_set ?_ (by omega) | apply below_alloc | exact HB.out)) hb); clear HB hb hR; have HB := HB'; clear HB'))
  refine bodyPost_ret (v := .agg #[.int .i64 x.Fault, .int .i64 x.Code, .int .i64 x.Verdict, .slice B3 x.Prints.length d3, .int .i64 x.Events]) (by simp [results, Try.results19, go_sem, hcw3, hfw3, hzw3_0, hzw3_1, hzw3_2]) rfl ⟨_, rfl, kOutcome_mkM _ _ x _ (Kd.R_lower (R_kept (lo := w.heap.size + 3) HR3.out (by first | omega | (simp <;> omega)) (by with_reducible repeat (first | refine Kept.set ?_ (by simp) _ | exact Kept.refl _ _))) (by first | omega | (simp <;> omega))), ?_⟩
  with_reducible repeat (first | refine below_set ?_ (by omega) | apply below_alloc | exact HB.out)
set_option maxHeartbeats 4000000 in
set_option maxRecDepth 100000 in
theorem eqOutcome.calls (w : World) (x : TOutcome) (cs ds : List Value) (h : kOutcome.K w x cs) (h' : kOutcome.K w x ds) :
    Calls Try.prog 21 #[.agg cs.toArray, .agg ds.toArray] w fun e w' => e = .returned (.bool true) ∧ Below w.heap.size w w' := by
  obtain ⟨A0, c0, rfl, f3_⟩ := kOutcome_open h
  have HK3 := Aside0.mk f3_
  clear f3_
  obtain ⟨B0, d0, rfl, q3_⟩ := kOutcome_open h'
  have HL3 := Aside0.mk q3_
  clear q3_
  clear h h'
  have HB := Aside0.mk (below_alloc (below_alloc (Below.refl w.heap.size w) (.cells #[.int .i64 x.Fault, .int .i64 x.Code, .int .i64 x.Verdict, .slice A0 x.Prints.length c0, .int .i64 x.Events] 34 (0, 0))) (.cells #[.int .i64 x.Fault, .int .i64 x.Code, .int .i64 x.Verdict, .slice B0 x.Prints.length d0, .int .i64 x.Events] 34 (0, 0)))
  go_enter Try.func21, Try.ntmps21
  go_wp2_with (first | (go_at_call 65; (with_reducible refine (eqIntS.calls _ _ _ _ (HK3.out.below HB.out) (HL3.out.below HB.out)).mono ?_); rintro e w3 ⟨rfl, hb⟩; obtain ⟨hcw3, hfw3⟩ := bcell hb; have hzw3_0 : w.heap.size < w3.heap.size := (by have := hb.size; (try simp at this); omega); have hzw3_1 : w.heap.size + 1 < w3.heap.size := (by have := hb.size; (try simp at this); omega); have HB' := Aside0.mk (bstep HB.out hb); clear HB hb; have HB := HB'; clear HB'))
  go_ret
  exact ⟨rfl, HB.out⟩
end Go.Proofs.Ytgeoipplkjgnfaa
