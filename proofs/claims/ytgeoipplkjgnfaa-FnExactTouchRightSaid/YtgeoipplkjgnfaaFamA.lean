/- Walks of the functions that measure, copy and compare whole numbers, texts and truths: what they come to when their arguments are read from memory. Printed by gen.py, this session's own program. -/
import Derived.Test.YtgeoipplkjgnfaaBase
import Derived.Tactics
import Derived.WalkKit
import Derived.Deep.LoopGhost
import Derived.Deep.QuietTactic
import Derived.BigQuiet
import Derived.Deep.RegionHeld3
set_option linter.unusedSimpArgs false
set_option linter.unusedVariables false
namespace Go.Proofs.Ytgeoipplkjgnfaa
open Go.RowKit Go.Proofs.YtgeoipplkjgnfaaW.PrintWords Go.Proofs.Ytgeoipplkjgnfaa.Lib
set_option maxHeartbeats 2000000 in
theorem szIntS.calls (w : World) (xs : List Int) (v : Value) (left : Int) (h : SK (Kd.int .i64) w xs v) (h0 : 0 ≤ left) (h1 : left ≤ 1048576) :
    Calls Try.prog 61 #[v, .int .i64 left] w (SzPost left (xs.length ≤ 1048576) w) := by
  obtain ⟨A, c, rfl, _, hC⟩ := h
  have hn : xs.length ≤ 9223372036854775807 := hC.2.1
  clear hC
  go_enter Try.func61, Try.ntmps61
  go_wp2
  all_goals
    go_ret
    first
      | exact ⟨_, rfl, ⟨by omega, by omega, fun h => by omega⟩, Below.refl _ _⟩
      | exact ⟨_, rfl, ⟨by omega, by omega, fun h => absurd h (by omega)⟩, Below.refl _ _⟩
theorem info3 : (Try.prog.info? 3).map (fun i => (i.zero, i.size, i.bytes)) = some (some (.int .i64 0), 1, 8) := by kernel_rfl
set_option maxHeartbeats 2000000 in
theorem toIntS.calls (w : World) (xs : List Int) (v : Value) (h : SK (Kd.int .i64) w xs v) (hs : xs.length ≤ 1048576) :
    Calls Try.prog 63 #[v] w (NewR (Kd.int .i64) 3 xs w) := by
  obtain ⟨A, c, rfl, hl, hC⟩ := h
  have HK := Aside0.mk hC
  clear hC hl
  have hsl : xs.length ≤ 1048576 := hs
  clear hs
  go_enter Try.func63, Try.ntmps63
  go_wp2_with ((with_reducible refine gate_dst (N := 7) rfl ?_); refine Kd.R_make (Kd.int .i64) _ 3 rfl (N := 7) rfl 29 _ _ rfl (xs.length : Int) rfl rfl Try.underlying29 (.int .i64 0) 8 info3 rfl (by decide) (by omega) 0 (ok := fun _ => True) (okp := fun _ => True) rfl (fun _ hk => hk) trivial (by omega) (by omega) (Below.refl _ _) (Nat.le_refl _) ?_; intro v1 w1 HR hb _ _; simp only [Int.toNat_natCast] at HR; have HR1 := Aside0.mk HR; have HB1 := Aside0.mk hb; clear HR hb)
  go_loopw [4] (fun i wr => ∃ k : Nat, i = .int .i64 k ∧ k ≤ xs.length ∧ Aside0 (Kd.R (Kd.int .i64) 3 wr w.heap.size (fun _ => True) v1 (xs.take k ++ List.replicate (xs.length - k) 0)) ∧ Aside0 (Below w.heap.size w wr)) (fun i _ => xs.length - (intOf i).toNat)
  case atStart => exact ⟨0, rfl, by omega, ⟨by simpa using HR1.out⟩, HB1⟩
  case round =>
    obtain ⟨k, rfl, hk, HR, HB⟩ := hrel
    clear HR1 HB1
    by_cases hlt : k < xs.length
    · obtain ⟨ad, cs, e, _, hKe, hcell⟩ := Kd.C_get (Kd.C_below HK.out HB.out) 0 (k : Int) (by omega) (by omega)
      rw [show xs.getD ((k : Int)).toNat 0 = xs[k] by simp [List.getD, hlt]] at hKe
      obtain rfl : cs = [.int .i64 xs[k]] := hKe
      cases e
      have hc0 := hcell 0 _ rfl
      simp only [Int.toNat_natCast, show (Kd.int .i64).sz = 1 from rfl, Nat.mul_one, Nat.add_zero] at hc0
      clear hcell
      obtain ⟨g, cap, e, hg0, hg1, cells, hcur⟩ := Kd.R_form HR.out (by rw [fill_len _ _ _ hk]; omega)
      rw [fill_len _ _ _ hk] at e
      subst e
      have hg := Aside0.mk (And.intro hg0 hg1)
      clear hg0 hg1 hcur
      go_wp2_with ((with_reducible refine gate_store (t := 3) (p := 20) rfl ?_); refine fill_store (Kd.int .i64) rfl rfl 3 _ _ rfl k 0 xs[k] (.int .i64 xs[k]) (g + 1) 1 rfl (by go_simp) (by go_simp) (by kernel_rfl) (by simp [Value.cells, Value.oneCell']) HR.out hlt rfl (by omega) (by have := hg.out; omega) HB.out ?_; intro w1 HR2 HB2 _; have HR3 := Aside0.mk HR2; have HB3 := Aside0.mk HB2; clear HR2 HB2)
      go_roundw
      case rel => exact ⟨k + 1, by go_num, by omega, ⟨by rw [← fill_set _ _ _ hlt]; exact HR3.out⟩, HB3⟩
      case measure => simp [intOf]; omega
    · have e : k = xs.length := by omega
      subst e
      go_wp2
      go_ret
      exact ⟨_, rfl, by simpa using HR.out, HB.out⟩
set_option maxHeartbeats 4000000 in
theorem eqIntS.calls (w : World) (xs : List Int) (v u : Value) (h : SK (Kd.int .i64) w xs v) (h' : SK (Kd.int .i64) w xs u) :
    Calls Try.prog 65 #[v, u] w fun e w' => e = .returned (.bool true) ∧ Below w.heap.size w w' := by
  obtain ⟨A, c, rfl, _, hC⟩ := h
  obtain ⟨A', c', rfl, _, hC'⟩ := h'
  have hn : xs.length ≤ 9223372036854775807 := hC.2.1
  have HK := Aside0.mk hC
  have HK' := Aside0.mk hC'
  clear hC hC'
  go_enter Try.func65, Try.ntmps65
  go_wp2
  go_loopw [5] (fun i wr => ∃ k : Nat, i = .int .i64 k ∧ k ≤ xs.length ∧ Aside0 (Below w.heap.size w wr)) (fun i _ => xs.length - (intOf i).toNat)
  case atStart => exact ⟨0, rfl, by omega, ⟨Below.refl _ _⟩⟩
  case round =>
    obtain ⟨k, rfl, hk, HB⟩ := hrel
    by_cases hlt : k < xs.length
    · obtain ⟨ad, cs, e, _, hKe, hcell⟩ := Kd.C_get (Kd.C_below HK.out HB.out) 0 (k : Int) (by omega) (by omega)
      rw [show xs.getD ((k : Int)).toNat 0 = xs[k] by simp [List.getD, hlt]] at hKe
      obtain rfl : cs = [.int .i64 xs[k]] := hKe
      cases e
      have hc0 := hcell 0 _ rfl
      simp only [Int.toNat_natCast, show (Kd.int .i64).sz = 1 from rfl, Nat.mul_one, Nat.add_zero] at hc0
      clear hcell
      obtain ⟨ad', cs', e', _, hKe', hcell'⟩ := Kd.C_get (Kd.C_below HK'.out HB.out) 0 (k : Int) (by omega) (by omega)
      rw [show xs.getD ((k : Int)).toNat 0 = xs[k] by simp [List.getD, hlt]] at hKe'
      obtain rfl : cs' = [.int .i64 xs[k]] := hKe'
      cases e'
      have hd0 := hcell' 0 _ rfl
      simp only [Int.toNat_natCast, show (Kd.int .i64).sz = 1 from rfl, Nat.mul_one, Nat.add_zero] at hd0
      clear hcell'
      go_wp2
      go_quiet (fail)
      go_wp2
      go_roundw
      case rel => exact ⟨k + 1, by go_num, by omega, ⟨pw_below_drewN HB.out _⟩⟩
      case measure => simp [intOf]; omega
    · have e : k = xs.length := by omega
      subst e
      go_wp2
      go_ret
      exact ⟨rfl, HB.out⟩
set_option maxHeartbeats 2000000 in
theorem szStringS.calls (w : World) (xs : List ByteArray) (v : Value) (left : Int) (h : SK Kd.string w xs v) (hw : (∀ y ∈ xs, y.size ≤ 9223372036854775807)) (h0 : 0 ≤ left) (h1 : left ≤ 1048576) :
    Calls Try.prog 159 #[v, .int .i64 left] w (SzPost left ((xs.length ≤ 1048576 ∧ ∀ y ∈ xs, y.size ≤ 1048576)) w) := by
  obtain ⟨A, c, rfl, _, hC⟩ := h
  have hn : xs.length ≤ 9223372036854775807 := hC.2.1
  have HW := Aside0.mk hw
  clear hw
  have HK := Aside0.mk hC
  clear hC
  go_enter Try.func159, Try.ntmps159
  by_cases hlen : (xs.length : Int) ≤ left
  · go_wp2
    go_loopw [1, 5] (fun l i wr => ∃ (r : Int) (k : Nat), l = .int .i64 r ∧ i = .int .i64 k ∧ k ≤ xs.length ∧ 0 ≤ r ∧ r ≤ left ∧ Aside0 (∀ y ∈ xs.take k, y.size ≤ 1048576) ∧ Aside0 (Below w.heap.size w wr)) (fun _ i _ => xs.length - (intOf i).toNat)
    case atStart => exact ⟨_, 0, rfl, rfl, by omega, by omega, by omega, ⟨by simp⟩, ⟨Below.refl _ _⟩⟩
    case round =>
      obtain ⟨r, k, rfl, rfl, hk, hr0, hr1, HS, HB⟩ := hrel
      by_cases hlt : k < xs.length
      · obtain ⟨ad, cs, e, _, hKe, hcell⟩ := Kd.C_get (Kd.C_below HK.out HB.out) ByteArray.empty (k : Int) (by omega) (by omega)
        rw [show xs.getD ((k : Int)).toNat ByteArray.empty = xs[k] by simp [List.getD, hlt]] at hKe
        obtain rfl : cs = [.string xs[k]] := hKe
        cases e
        have hc0 := hcell 0 _ rfl
        simp only [Int.toNat_natCast, show Kd.string.sz = 1 from rfl, Nat.mul_one, Nat.add_zero] at hc0
        clear hcell
        have hn2 : (0 : Int) ≤ xs[k].size := Int.natCast_nonneg _
        have hn3 : xs[k].size ≤ 9223372036854775807 := HW.out _ (List.getElem_mem hlt)
        go_wp2
        · go_ret
          exact ⟨_, rfl, ⟨by omega, by omega, fun h => absurd h (by omega)⟩, HB.out⟩
        · go_roundw
          case rel => exact ⟨_, k + 1, rfl, by go_num, by omega, by omega, by omega, ⟨fun y hy => by rw [List.take_succ_eq_append_getElem hlt] at hy; rcases List.mem_append.1 hy with hy | hy; exact HS.out y hy; rw [List.mem_singleton.1 hy]; omega⟩, HB⟩
          case measure => simp [intOf]; omega
      · have e : k = xs.length := by omega
        subst e
        go_wp2
        go_ret
        exact ⟨_, rfl, ⟨by omega, by omega, fun _ => ⟨by omega, fun y hy => HS.out y (by rw [List.take_length]; exact hy)⟩⟩, HB.out⟩
  · go_wp2
    go_ret
    exact ⟨_, rfl, ⟨by omega, by omega, fun h => absurd h (by omega)⟩, Below.refl _ _⟩
theorem info9 : (Try.prog.info? 9).map (fun i => (i.zero, i.size, i.bytes)) = some (some (.string ByteArray.empty), 1, 16) := by kernel_rfl
set_option maxHeartbeats 2000000 in
theorem toStringS.calls (w : World) (xs : List ByteArray) (v : Value) (h : SK Kd.string w xs v) (hs : (xs.length ≤ 1048576 ∧ ∀ y ∈ xs, y.size ≤ 1048576)) :
    Calls Try.prog 161 #[v] w (NewR Kd.string 9 xs w) := by
  obtain ⟨A, c, rfl, hl, hC⟩ := h
  have HK := Aside0.mk hC
  clear hC hl
  have hsl : xs.length ≤ 1048576 := hs.1
  have HS := Aside0.mk hs.2
  clear hs
  go_enter Try.func161, Try.ntmps161
  go_wp2_with ((with_reducible refine gate_dst (N := 7) rfl ?_); refine Kd.R_make Kd.string _ 9 rfl (N := 7) rfl 139 _ _ rfl (xs.length : Int) rfl rfl Try.underlying139 (.string ByteArray.empty) 16 info9 rfl (by decide) (by omega) ByteArray.empty (ok := fun _ => True) (okp := fun _ => True) rfl (fun _ hk => hk) trivial (by omega) (by omega) (Below.refl _ _) (Nat.le_refl _) ?_; intro v1 w1 HR hb _ _; simp only [Int.toNat_natCast] at HR; have HR1 := Aside0.mk HR; have HB1 := Aside0.mk hb; clear HR hb)
  go_loopw [4] (fun i wr => ∃ k : Nat, i = .int .i64 k ∧ k ≤ xs.length ∧ Aside0 (Kd.R Kd.string 9 wr w.heap.size (fun _ => True) v1 (xs.take k ++ List.replicate (xs.length - k) ByteArray.empty)) ∧ Aside0 (Below w.heap.size w wr)) (fun i _ => xs.length - (intOf i).toNat)
  case atStart => exact ⟨0, rfl, by omega, ⟨by simpa using HR1.out⟩, HB1⟩
  case round =>
    obtain ⟨k, rfl, hk, HR, HB⟩ := hrel
    clear HR1 HB1
    by_cases hlt : k < xs.length
    · obtain ⟨ad, cs, e, _, hKe, hcell⟩ := Kd.C_get (Kd.C_below HK.out HB.out) ByteArray.empty (k : Int) (by omega) (by omega)
      rw [show xs.getD ((k : Int)).toNat ByteArray.empty = xs[k] by simp [List.getD, hlt]] at hKe
      obtain rfl : cs = [.string xs[k]] := hKe
      cases e
      have hc0 := hcell 0 _ rfl
      simp only [Int.toNat_natCast, show Kd.string.sz = 1 from rfl, Nat.mul_one, Nat.add_zero] at hc0
      clear hcell
      obtain ⟨g, cap, e, hg0, hg1, cells, hcur⟩ := Kd.R_form HR.out (by rw [fill_len _ _ _ hk]; omega)
      rw [fill_len _ _ _ hk] at e
      subst e
      have hg := Aside0.mk (And.intro hg0 hg1)
      clear hg0 hg1 hcur
      go_wp2_with ((with_reducible refine gate_store (t := 9) (p := 20) rfl ?_); refine fill_store Kd.string rfl rfl 9 _ _ rfl k ByteArray.empty xs[k] (.string xs[k]) (g + 1) 1 rfl (by go_simp) (by go_simp) (by kernel_rfl) (by simp [Value.cells, Value.oneCell']) HR.out hlt rfl (by omega) (by have := hg.out; omega) HB.out ?_; intro w1 HR2 HB2 _; have HR3 := Aside0.mk HR2; have HB3 := Aside0.mk HB2; clear HR2 HB2)
      go_roundw
      case rel => exact ⟨k + 1, by go_num, by omega, ⟨by rw [← fill_set _ _ _ hlt]; exact HR3.out⟩, HB3⟩
      case measure => simp [intOf]; omega
    · have e : k = xs.length := by omega
      subst e
      go_wp2
      go_ret
      exact ⟨_, rfl, by simpa using HR.out, HB.out⟩
set_option maxHeartbeats 4000000 in
theorem eqStringS.calls (w : World) (xs : List ByteArray) (v u : Value) (h : SK Kd.string w xs v) (h' : SK Kd.string w xs u) :
    Calls Try.prog 163 #[v, u] w fun e w' => e = .returned (.bool true) ∧ Below w.heap.size w w' := by
  obtain ⟨A, c, rfl, _, hC⟩ := h
  obtain ⟨A', c', rfl, _, hC'⟩ := h'
  have hn : xs.length ≤ 9223372036854775807 := hC.2.1
  have HK := Aside0.mk hC
  have HK' := Aside0.mk hC'
  clear hC hC'
  go_enter Try.func163, Try.ntmps163
  go_wp2
  go_loopw [5] (fun i wr => ∃ k : Nat, i = .int .i64 k ∧ k ≤ xs.length ∧ Aside0 (Below w.heap.size w wr)) (fun i _ => xs.length - (intOf i).toNat)
  case atStart => exact ⟨0, rfl, by omega, ⟨Below.refl _ _⟩⟩
  case round =>
    obtain ⟨k, rfl, hk, HB⟩ := hrel
    by_cases hlt : k < xs.length
    · obtain ⟨ad, cs, e, _, hKe, hcell⟩ := Kd.C_get (Kd.C_below HK.out HB.out) ByteArray.empty (k : Int) (by omega) (by omega)
      rw [show xs.getD ((k : Int)).toNat ByteArray.empty = xs[k] by simp [List.getD, hlt]] at hKe
      obtain rfl : cs = [.string xs[k]] := hKe
      cases e
      have hc0 := hcell 0 _ rfl
      simp only [Int.toNat_natCast, show Kd.string.sz = 1 from rfl, Nat.mul_one, Nat.add_zero] at hc0
      clear hcell
      obtain ⟨ad', cs', e', _, hKe', hcell'⟩ := Kd.C_get (Kd.C_below HK'.out HB.out) ByteArray.empty (k : Int) (by omega) (by omega)
      rw [show xs.getD ((k : Int)).toNat ByteArray.empty = xs[k] by simp [List.getD, hlt]] at hKe'
      obtain rfl : cs' = [.string xs[k]] := hKe'
      cases e'
      have hd0 := hcell' 0 _ rfl
      simp only [Int.toNat_natCast, show Kd.string.sz = 1 from rfl, Nat.mul_one, Nat.add_zero] at hd0
      clear hcell'
      go_wp2
      go_quiet (fail)
      go_wp2
      go_roundw
      case rel => exact ⟨k + 1, by go_num, by omega, ⟨pw_below_drewN HB.out _⟩⟩
      case measure => simp [intOf]; omega
    · have e : k = xs.length := by omega
      subst e
      go_wp2
      go_ret
      exact ⟨rfl, HB.out⟩
set_option maxHeartbeats 2000000 in
theorem szBoolS.calls (w : World) (xs : List Bool) (v : Value) (left : Int) (h : SK Kd.bool w xs v) (h0 : 0 ≤ left) (h1 : left ≤ 1048576) :
    Calls Try.prog 128 #[v, .int .i64 left] w (SzPost left (xs.length ≤ 1048576) w) := by
  obtain ⟨A, c, rfl, _, hC⟩ := h
  have hn : xs.length ≤ 9223372036854775807 := hC.2.1
  clear hC
  go_enter Try.func128, Try.ntmps128
  go_wp2
  all_goals
    go_ret
    first
      | exact ⟨_, rfl, ⟨by omega, by omega, fun h => by omega⟩, Below.refl _ _⟩
      | exact ⟨_, rfl, ⟨by omega, by omega, fun h => absurd h (by omega)⟩, Below.refl _ _⟩
theorem info4 : (Try.prog.info? 4).map (fun i => (i.zero, i.size, i.bytes)) = some (some (.bool false), 1, 1) := by kernel_rfl
set_option maxHeartbeats 2000000 in
theorem toBoolS.calls (w : World) (xs : List Bool) (v : Value) (h : SK Kd.bool w xs v) (hs : xs.length ≤ 1048576) :
    Calls Try.prog 130 #[v] w (NewR Kd.bool 4 xs w) := by
  obtain ⟨A, c, rfl, hl, hC⟩ := h
  have HK := Aside0.mk hC
  clear hC hl
  have hsl : xs.length ≤ 1048576 := hs
  clear hs
  go_enter Try.func130, Try.ntmps130
  go_wp2_with ((with_reducible refine gate_dst (N := 7) rfl ?_); refine Kd.R_make Kd.bool _ 4 rfl (N := 7) rfl 59 _ _ rfl (xs.length : Int) rfl rfl Try.underlying59 (.bool false) 1 info4 rfl (by decide) (by omega) false (ok := fun _ => True) (okp := fun _ => True) rfl (fun _ hk => hk) trivial (by omega) (by omega) (Below.refl _ _) (Nat.le_refl _) ?_; intro v1 w1 HR hb _ _; simp only [Int.toNat_natCast] at HR; have HR1 := Aside0.mk HR; have HB1 := Aside0.mk hb; clear HR hb)
  go_loopw [4] (fun i wr => ∃ k : Nat, i = .int .i64 k ∧ k ≤ xs.length ∧ Aside0 (Kd.R Kd.bool 4 wr w.heap.size (fun _ => True) v1 (xs.take k ++ List.replicate (xs.length - k) false)) ∧ Aside0 (Below w.heap.size w wr)) (fun i _ => xs.length - (intOf i).toNat)
  case atStart => exact ⟨0, rfl, by omega, ⟨by simpa using HR1.out⟩, HB1⟩
  case round =>
    obtain ⟨k, rfl, hk, HR, HB⟩ := hrel
    clear HR1 HB1
    by_cases hlt : k < xs.length
    · obtain ⟨ad, cs, e, _, hKe, hcell⟩ := Kd.C_get (Kd.C_below HK.out HB.out) false (k : Int) (by omega) (by omega)
      rw [show xs.getD ((k : Int)).toNat false = xs[k] by simp [List.getD, hlt]] at hKe
      obtain rfl : cs = [.bool xs[k]] := hKe
      cases e
      have hc0 := hcell 0 _ rfl
      simp only [Int.toNat_natCast, show Kd.bool.sz = 1 from rfl, Nat.mul_one, Nat.add_zero] at hc0
      clear hcell
      obtain ⟨g, cap, e, hg0, hg1, cells, hcur⟩ := Kd.R_form HR.out (by rw [fill_len _ _ _ hk]; omega)
      rw [fill_len _ _ _ hk] at e
      subst e
      have hg := Aside0.mk (And.intro hg0 hg1)
      clear hg0 hg1 hcur
      go_wp2_with ((with_reducible refine gate_store (t := 4) (p := 20) rfl ?_); refine fill_store Kd.bool rfl rfl 4 _ _ rfl k false xs[k] (.bool xs[k]) (g + 1) 1 rfl (by go_simp) (by go_simp) (by kernel_rfl) (by simp [Value.cells, Value.oneCell']) HR.out hlt rfl (by omega) (by have := hg.out; omega) HB.out ?_; intro w1 HR2 HB2 _; have HR3 := Aside0.mk HR2; have HB3 := Aside0.mk HB2; clear HR2 HB2)
      go_roundw
      case rel => exact ⟨k + 1, by go_num, by omega, ⟨by rw [← fill_set _ _ _ hlt]; exact HR3.out⟩, HB3⟩
      case measure => simp [intOf]; omega
    · have e : k = xs.length := by omega
      subst e
      go_wp2
      go_ret
      exact ⟨_, rfl, by simpa using HR.out, HB.out⟩
set_option maxHeartbeats 4000000 in
theorem eqBoolS.calls (w : World) (xs : List Bool) (v u : Value) (h : SK Kd.bool w xs v) (h' : SK Kd.bool w xs u) :
    Calls Try.prog 132 #[v, u] w fun e w' => e = .returned (.bool true) ∧ Below w.heap.size w w' := by
  obtain ⟨A, c, rfl, _, hC⟩ := h
  obtain ⟨A', c', rfl, _, hC'⟩ := h'
  have hn : xs.length ≤ 9223372036854775807 := hC.2.1
  have HK := Aside0.mk hC
  have HK' := Aside0.mk hC'
  clear hC hC'
  go_enter Try.func132, Try.ntmps132
  go_wp2
  go_loopw [5] (fun i wr => ∃ k : Nat, i = .int .i64 k ∧ k ≤ xs.length ∧ Aside0 (Below w.heap.size w wr)) (fun i _ => xs.length - (intOf i).toNat)
  case atStart => exact ⟨0, rfl, by omega, ⟨Below.refl _ _⟩⟩
  case round =>
    obtain ⟨k, rfl, hk, HB⟩ := hrel
    by_cases hlt : k < xs.length
    · obtain ⟨ad, cs, e, _, hKe, hcell⟩ := Kd.C_get (Kd.C_below HK.out HB.out) false (k : Int) (by omega) (by omega)
      rw [show xs.getD ((k : Int)).toNat false = xs[k] by simp [List.getD, hlt]] at hKe
      obtain rfl : cs = [.bool xs[k]] := hKe
      cases e
      have hc0 := hcell 0 _ rfl
      simp only [Int.toNat_natCast, show Kd.bool.sz = 1 from rfl, Nat.mul_one, Nat.add_zero] at hc0
      clear hcell
      obtain ⟨ad', cs', e', _, hKe', hcell'⟩ := Kd.C_get (Kd.C_below HK'.out HB.out) false (k : Int) (by omega) (by omega)
      rw [show xs.getD ((k : Int)).toNat false = xs[k] by simp [List.getD, hlt]] at hKe'
      obtain rfl : cs' = [.bool xs[k]] := hKe'
      cases e'
      have hd0 := hcell' 0 _ rfl
      simp only [Int.toNat_natCast, show Kd.bool.sz = 1 from rfl, Nat.mul_one, Nat.add_zero] at hd0
      clear hcell'
      go_wp2
      go_quiet (fail)
      go_wp2
      go_roundw
      case rel => exact ⟨k + 1, by go_num, by omega, ⟨pw_below_drewN HB.out _⟩⟩
      case measure => simp [intOf]; omega
    · have e : k = xs.length := by omega
      subst e
      go_wp2
      go_ret
      exact ⟨rfl, HB.out⟩
end Go.Proofs.Ytgeoipplkjgnfaa
