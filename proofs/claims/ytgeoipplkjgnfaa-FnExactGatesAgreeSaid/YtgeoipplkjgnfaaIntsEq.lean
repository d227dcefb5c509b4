/- Walks of the functions that hold two lists of whole numbers against each other: true if and only if they are the same. Condition: both are read from memory. -/
import Derived.Test.YtgeoipplkjgnfaaFamE
set_option linter.unusedSimpArgs false
set_option linter.unusedVariables false
namespace Go.Proofs.Ytgeoipplkjgnfaa
open Go.RowKit Go.Proofs.YtgeoipplkjgnfaaW.PrintWords Go.Proofs.Ytgeoipplkjgnfaa.Lib

def intsB (xs ys : List Int) : Bool := decide (xs = ys)
theorem intsB_len {xs ys : List Int} (h : xs.length ≠ ys.length) : intsB xs ys = false := decide_eq_false fun e => h (by rw [e])
theorem intsB_at {xs ys : List Int} (k : Nat) (h : k < xs.length) (h' : k < ys.length) (hn : xs[k] ≠ ys[k]) : intsB xs ys = false := decide_eq_false fun e => hn (by subst e; rfl)
theorem intsB_all {xs ys : List Int} (hl : xs.length = ys.length) (h : ∀ j (h1 : j < xs.length) (h2 : j < ys.length), xs[j] = ys[j]) : intsB xs ys = true := decide_eq_true (List.ext_getElem hl h)

set_option maxHeartbeats 2000000 in
theorem specInts.calls (w : World) (xs ys : List Int) (v u : Value) (h : SK (Kd.int .i64) w xs v) (h' : SK (Kd.int .i64) w ys u) :
    Calls Try.prog 62 #[v, u] w fun e w' => e = .returned (.bool (intsB xs ys)) ∧ Below w.heap.size w w' := by
  obtain ⟨A, c, rfl, _, hC⟩ := h
  obtain ⟨A', c', rfl, _, hC'⟩ := h'
  have hn : xs.length ≤ 9223372036854775807 := hC.2.1
  have HK := Aside0.mk hC
  have HK' := Aside0.mk hC'
  clear hC hC'
  by_cases hl : xs.length = ys.length
  · have HL := Aside0.mk hl
    have e1 : ((xs.length : Int) != (ys.length : Int)) = false := by rw [hl]; simp
    have e2 : (xs.length == ys.length) = true := by rw [hl]; simp
    clear hl
    go_enter Try.func62, Try.ntmps62
    go_wp2
    go_loopw [5] (fun i wr => ∃ k : Nat, i = .int .i64 k ∧ k ≤ xs.length ∧ Aside0 (∀ j (h1 : j < xs.length) (h2 : j < ys.length), j < k → xs[j] = ys[j]) ∧ Aside0 (Below w.heap.size w wr)) (fun i _ => xs.length - (intOf i).toNat)
    case atStart => exact ⟨0, rfl, by omega, ⟨fun j _ _ h => absurd h (by omega)⟩, ⟨Below.refl _ _⟩⟩
    case round =>
      obtain ⟨k, rfl, hk, HE, HB⟩ := hrel
      by_cases hlt : k < xs.length
      · have hlt' : k < ys.length := by have := HL.out; omega
        obtain ⟨ad, cs, e, _, hKe, hcell⟩ := Kd.C_get (Kd.C_below HK.out HB.out) 0 (k : Int) (by omega) (by omega)
        obtain ⟨ad', cs', e', _, hKe', hcell'⟩ := Kd.C_get (Kd.C_below HK'.out HB.out) 0 (k : Int) (by omega) (by omega)
        rw [show xs.getD ((k : Int)).toNat 0 = xs[k] by simp [List.getD, hlt]] at hKe
        rw [show ys.getD ((k : Int)).toNat 0 = ys[k] by simp [List.getD, hlt']] at hKe'
        obtain rfl : cs = [.int .i64 xs[k]] := hKe
        obtain rfl : cs' = [.int .i64 ys[k]] := hKe'
        cases e
        cases e'
        have hc0 := hcell 0 _ rfl
        have hc0' := hcell' 0 _ rfl
        simp only [Int.toNat_natCast, show (Kd.int .i64).sz = 1 from rfl, Nat.mul_one, Nat.add_zero] at hc0 hc0'
        clear hcell hcell'
        by_cases hx : xs[k] = ys[k]
        · have HX := Aside0.mk hx
          have e3 : (xs[k] != ys[k]) = false := by rw [hx]; simp
          clear hx
          go_wp2
          go_quiet (fail)
          go_wp2
          go_roundw
          case rel =>
            refine ⟨k + 1, by go_num, by omega, ⟨fun j h1 h2 h3 => ?_⟩, ⟨pw_below_drewN HB.out _⟩⟩
            rcases Nat.lt_succ_iff_lt_or_eq.1 h3 with h4 | rfl
            · exact HE.out j h1 h2 h4
            · exact HX.out
          case measure => simp [intOf]; omega
        · have HF := Aside0.mk (intsB_at k hlt hlt' hx)
          have e3 : (xs[k] != ys[k]) = true := by simp [hx]
          clear hx
          go_wp2
          go_quiet (fail)
          go_wp2
          go_ret
          exact ⟨by rw [HF.out]; rfl, pw_below_drewN HB.out _⟩
      · have e : k = xs.length := by omega
        subst e
        go_wp2
        go_ret
        exact ⟨by rw [intsB_all HL.out (fun j h1 h2 => HE.out j h1 h2 h1)]; rfl, HB.out⟩
  · have HF := Aside0.mk (intsB_len hl)
    have e1 : ((xs.length : Int) != (ys.length : Int)) = true := by simp; omega
    have e2 : (xs.length == ys.length) = false := by simp; omega
    clear hl
    go_enter Try.func62, Try.ntmps62
    go_wp2
    go_ret
    exact ⟨by rw [HF.out]; rfl, Below.refl _ _⟩
set_option maxHeartbeats 2000000 in
theorem sliceInts.calls (w : World) (xs ys : List Int) (v u : Value) (h : SK (Kd.int .i64) w xs v) (h' : SK (Kd.int .i64) w ys u) :
    Calls Try.prog 64 #[v, u] w fun e w' => e = .returned (.bool (intsB xs ys)) ∧ Below w.heap.size w w' := by
  obtain ⟨A, c, rfl, _, hC⟩ := h
  obtain ⟨A', c', rfl, _, hC'⟩ := h'
  have hn : xs.length ≤ 9223372036854775807 := hC.2.1
  have HK := Aside0.mk hC
  have HK' := Aside0.mk hC'
  clear hC hC'
  by_cases hl : xs.length = ys.length
  · have HL := Aside0.mk hl
    have e1 : ((xs.length : Int) != (ys.length : Int)) = false := by rw [hl]; simp
    have e2 : (xs.length == ys.length) = true := by rw [hl]; simp
    clear hl
    go_enter Try.func64, Try.ntmps64
    go_wp2
    go_loopw [13] (fun i wr => ∃ k : Nat, i = .int .i64 k ∧ k ≤ xs.length ∧ Aside0 (∀ j (h1 : j < xs.length) (h2 : j < ys.length), j < k → xs[j] = ys[j]) ∧ Aside0 (Below w.heap.size w wr)) (fun i _ => xs.length - (intOf i).toNat)
    case atStart => exact ⟨0, rfl, by omega, ⟨fun j _ _ h => absurd h (by omega)⟩, ⟨Below.refl _ _⟩⟩
    case round =>
      obtain ⟨k, rfl, hk, HE, HB⟩ := hrel
      by_cases hlt : k < xs.length
      · have hlt' : k < ys.length := by have := HL.out; omega
        obtain ⟨ad, cs, e, _, hKe, hcell⟩ := Kd.C_get (Kd.C_below HK.out HB.out) 0 (k : Int) (by omega) (by omega)
        obtain ⟨ad', cs', e', _, hKe', hcell'⟩ := Kd.C_get (Kd.C_below HK'.out HB.out) 0 (k : Int) (by omega) (by omega)
        rw [show xs.getD ((k : Int)).toNat 0 = xs[k] by simp [List.getD, hlt]] at hKe
        rw [show ys.getD ((k : Int)).toNat 0 = ys[k] by simp [List.getD, hlt']] at hKe'
        obtain rfl : cs = [.int .i64 xs[k]] := hKe
        obtain rfl : cs' = [.int .i64 ys[k]] := hKe'
        cases e
        cases e'
        have hc0 := hcell 0 _ rfl
        have hc0' := hcell' 0 _ rfl
        simp only [Int.toNat_natCast, show (Kd.int .i64).sz = 1 from rfl, Nat.mul_one, Nat.add_zero] at hc0 hc0'
        clear hcell hcell'
        by_cases hx : xs[k] = ys[k]
        · have HX := Aside0.mk hx
          have e3 : (xs[k] != ys[k]) = false := by rw [hx]; simp
          clear hx
          go_wp2
          go_quiet (fail)
          go_wp2
          go_roundw
          case rel =>
            refine ⟨k + 1, by go_num, by omega, ⟨fun j h1 h2 h3 => ?_⟩, ⟨pw_below_drewN HB.out _⟩⟩
            rcases Nat.lt_succ_iff_lt_or_eq.1 h3 with h4 | rfl
            · exact HE.out j h1 h2 h4
            · exact HX.out
          case measure => simp [intOf]; omega
        · have HF := Aside0.mk (intsB_at k hlt hlt' hx)
          have e3 : (xs[k] != ys[k]) = true := by simp [hx]
          clear hx
          go_wp2
          go_quiet (fail)
          go_wp2
          go_ret
          exact ⟨by rw [HF.out]; rfl, pw_below_drewN HB.out _⟩
      · have e : k = xs.length := by omega
        subst e
        go_wp2
        go_ret
        exact ⟨by rw [intsB_all HL.out (fun j h1 h2 => HE.out j h1 h2 h1)]; rfl, HB.out⟩
  · have HF := Aside0.mk (intsB_len hl)
    have e1 : ((xs.length : Int) != (ys.length : Int)) = true := by simp; omega
    have e2 : (xs.length == ys.length) = false := by simp; omega
    clear hl
    go_enter Try.func64, Try.ntmps64
    go_wp2
    go_ret
    exact ⟨by rw [HF.out]; rfl, Below.refl _ _⟩
end Go.Proofs.Ytgeoipplkjgnfaa
