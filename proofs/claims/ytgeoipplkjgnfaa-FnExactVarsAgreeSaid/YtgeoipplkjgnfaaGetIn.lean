/- Walks of GetIn, of the reference and of the program: the value of a name. Condition: what they are given is read from memory. -/
import Derived.Test.YtgeoipplkjgnfaaFamV
set_option linter.unusedSimpArgs false
set_option linter.unusedVariables false
namespace Go.Proofs.Ytgeoipplkjgnfaa
open Go.RowKit Go.Proofs.YtgeoipplkjgnfaaW.PrintWords Go.Proofs.Ytgeoipplkjgnfaa.Lib

theorem bytes_eqT (a b : ByteArray) : (a.toList == b.toList) = decide (a = b) := by
  rw [ByteArray.toList_eq, ByteArray.toList_eq]
  cases a with | mk x => cases b with | mk y =>
  by_cases e : x = y
  · subst e; simp
  · have h1 : ¬ ((⟨x⟩ : ByteArray) = ⟨y⟩) := fun h => e (by injection h)
    have h2 : ¬ (x.toList = y.toList) := fun h => e (Array.toList_inj.1 h)
    simp [h1]
    exact e
def getIn : List ByteArray → List Int → ByteArray → Int
  | n :: ns, v :: vs, s => if n = s then v else getIn ns vs s
  | _, _, _ => 0
theorem getIn_at {ns : List ByteArray} {vs : List Int} {s : ByteArray} (k : Nat) (h : k < ns.length) (h' : k < vs.length) : getIn (ns.drop k) (vs.drop k) s = if ns[k] = s then vs[k] else getIn (ns.drop (k + 1)) (vs.drop (k + 1)) s := by
  rw [List.drop_eq_getElem_cons h, List.drop_eq_getElem_cons h']
  rfl
theorem getIn_end {ns : List ByteArray} {vs : List Int} {s : ByteArray} (k : Nat) (h : ns.length ≤ k ∨ vs.length ≤ k) : getIn (ns.drop k) (vs.drop k) s = 0 := by
  rcases h with h | h
  · rw [List.drop_of_length_le h]
    rfl
  · rw [List.drop_of_length_le h]
    cases ns.drop k <;> rfl
def ixFrom : List ByteArray → ByteArray → Int → Int
  | [], _, _ => -1
  | n :: ns, s, i => if n = s then i else ixFrom ns s (i + 1)
theorem ixFrom_at {ns : List ByteArray} {s : ByteArray} (k : Nat) (i : Int) (h : k < ns.length) : ixFrom (ns.drop k) s i = if ns[k] = s then i else ixFrom (ns.drop (k + 1)) s (i + 1) := by
  rw [List.drop_eq_getElem_cons h]
  rfl
theorem ixFrom_range (ns : List ByteArray) (s : ByteArray) (i : Int) (hi : 0 ≤ i) : -1 ≤ ixFrom ns s i ∧ ixFrom ns s i < i + ns.length ∧ (0 ≤ ixFrom ns s i → i ≤ ixFrom ns s i) := by
  induction ns generalizing i with
  | nil => simp [ixFrom]; omega
  | cons n ns ih =>
    unfold ixFrom
    have := ih (i + 1) (by omega)
    rw [List.length_cons]
    split <;> omega
theorem getIn_ix (ns : List ByteArray) (vs : List Int) (s : ByteArray) (i : Int) (hi : 0 ≤ i) :
    getIn ns vs s = if 0 ≤ ixFrom ns s i ∧ ixFrom ns s i < i + vs.length then vs.getD (ixFrom ns s i - i).toNat 0 else 0 := by
  induction ns generalizing vs i with
  | nil => simp [getIn, ixFrom]
  | cons n ns ih =>
    cases vs with
    | nil =>
      have h := ixFrom_range (n :: ns) s i hi
      rw [if_neg (by intro h1; have := h.2.2 h1.1; simp at h1; omega)]
      rfl
    | cons v vs =>
      unfold getIn ixFrom
      by_cases e : n = s
      · rw [if_pos e, if_pos e, if_pos ⟨hi, by rw [List.length_cons]; omega⟩]
        simp
      · rw [if_neg e, if_neg e, ih vs (i + 1) (by omega)]
        have h := ixFrom_range ns s (i + 1) (by omega)
        by_cases h1 : 0 ≤ ixFrom ns s (i + 1) ∧ ixFrom ns s (i + 1) < i + 1 + vs.length
        · rw [if_pos h1, if_pos (by rw [List.length_cons]; omega)]
          have := h.2.2 h1.1
          rw [show (ixFrom ns s (i + 1) - i).toNat = (ixFrom ns s (i + 1) - (i + 1)).toNat + 1 by omega]
          simp [List.getD]
        · rw [if_neg h1, if_neg (by rw [List.length_cons]; omega)]

set_option maxHeartbeats 2000000 in
theorem specGetIn.calls (w : World) (x : TEnv) (cs : List Value) (h : kEnv.K w x cs) (s : ByteArray) :
    Calls Try.prog 121 #[.agg cs.toArray, .string s] w fun e w' => e = .returned (.int .i64 (getIn x.Names x.Vals s)) ∧ Below w.heap.size w w' := by
  obtain ⟨A0, c0, A1, c1, rfl, HKf0_, HKf1_⟩ := kEnv_open h
  have HK0 := Aside0.mk HKf0_
  have HK1 := Aside0.mk HKf1_
  clear HKf0_ HKf1_
  clear h
  obtain ⟨A, c, e, _, hC⟩ := HK0.out
  cases e
  obtain ⟨A', c', e, _, hC'⟩ := HK1.out
  cases e
  have hn : x.Names.length ≤ 9223372036854775807 := hC.2.1
  have hn' : x.Vals.length ≤ 9223372036854775807 := hC'.2.1
  have HK := Aside0.mk hC
  have HK' := Aside0.mk hC'
  clear hC hC' HK0 HK1
  obtain ⟨W0, hW0⟩ : ∃ W0, W0 = (w).alloc (.cells #[.slice A0 x.Names.length c0, .slice A1 x.Vals.length c1] 172 (0, 0)) := ⟨_, rfl⟩
  have HA := Aside0.mk (show Below w.heap.size w W0 by rw [hW0]; with_reducible repeat (first | apply below_alloc | exact Below.refl _ _))
  have BA0 : W0.heap[w.heap.size]? = some (.cells #[.slice A0 x.Names.length c0, .slice A1 x.Vals.length c1] 172 (0, 0)) := by rw [hW0]; exact blk_new _ _
  have hBA0 : ∀ i, W0.cell? ⟨w.heap.size, i, none⟩ = (#[.slice A0 x.Names.length c0, .slice A1 x.Vals.length c1] : Array Value)[i]? := fun i => blk_cell BA0 i
  have HBA0 := Aside0.mk BA0
  clear BA0
  have hs0 : w.heap.size + 1 ≤ W0.heap.size := by rw [hW0]; simp
  have hs0_0 : w.heap.size < W0.heap.size := by omega
  clear hs0
  go_enter Try.func121, Try.ntmps121
  go_wp2
  simp only [← hW0]
  clear hW0
  go_loopw [5] (fun i wr => ∃ k : Nat, i = .int .i64 k ∧ k ≤ x.Names.length ∧ Aside0 (getIn (x.Names.drop k) (x.Vals.drop k) s = getIn x.Names x.Vals s) ∧ wr = W0) (fun i _ => x.Names.length - (intOf i).toNat)
  case atStart => exact ⟨0, rfl, by omega, ⟨rfl⟩, rfl⟩
  case round =>
    obtain ⟨k, rfl, hk, HG, rfl⟩ := hrel
    by_cases hlthc : k < x.Names.length
    · by_cases hlthd : k < x.Vals.length
      · skip
        obtain ⟨ad, cshc, e, _, hKehc, hcellhc⟩ := Kd.C_get (Kd.C_below HK.out HA.out) (ByteArray.empty : ByteArray) (k : Int) (by omega) (by omega)
        rw [show (x.Names).getD ((k : Int)).toNat (ByteArray.empty : ByteArray) = (x.Names)[k] by simp [List.getD, hlthc]] at hKehc
        obtain rfl : cshc = [.string (x.Names)[k]] := hKehc
        cases e
        have hc0 := hcellhc 0 _ rfl
        simp only [Int.toNat_natCast, show Kd.string.sz = 1 from rfl, Nat.mul_one, Nat.add_zero] at hc0
        clear hcellhc
        obtain ⟨ad', cshd, e', _, hKehd, hcellhd⟩ := Kd.C_get (Kd.C_below HK'.out HA.out) (0 : Int) (k : Int) (by omega) (by omega)
        rw [show (x.Vals).getD ((k : Int)).toNat (0 : Int) = (x.Vals)[k] by simp [List.getD, hlthd]] at hKehd
        obtain rfl : cshd = [.int .i64 (x.Vals)[k]] := hKehd
        cases e'
        have hd0 := hcellhd 0 _ rfl
        simp only [Int.toNat_natCast, show (Kd.int .i64).sz = 1 from rfl, Nat.mul_one, Nat.add_zero] at hd0
        clear hcellhd
        by_cases hx : x.Names[k] = s
        · have hr : getIn x.Names x.Vals s = x.Vals[k] := by rw [← HG.out, getIn_at k hlthc hlthd, if_pos hx]
          have HR := Aside0.mk hr
          have e1 : (x.Names[k].toList == s.toList) = true := by rw [bytes_eqT]; exact decide_eq_true hx
          clear hr hx
          go_wp2
          go_ret
          exact ⟨by rw [HR.out]; rfl, HA.out⟩
        · have hr : getIn (x.Names.drop (k + 1)) (x.Vals.drop (k + 1)) s = getIn x.Names x.Vals s := by rw [← HG.out, getIn_at k hlthc hlthd, if_neg hx]
          have HR := Aside0.mk hr
          have e1 : (x.Names[k].toList == s.toList) = false := by rw [bytes_eqT]; exact decide_eq_false hx
          clear hr hx
          go_wp2
          go_roundw
          case rel => exact ⟨k + 1, by go_num, by omega, HR, by first | rfl | trivial⟩
          case measure => simp [intOf]; omega
      · have hr : getIn x.Names x.Vals s = 0 := by rw [← HG.out, getIn_end k (Or.inr (by omega))]
        have HR := Aside0.mk hr
        clear hr
        go_wp2
        go_ret
        exact ⟨by rw [HR.out]; rfl, HA.out⟩
    · have hr : getIn x.Names x.Vals s = 0 := by rw [← HG.out, getIn_end k (Or.inl (by omega))]
      have HR := Aside0.mk hr
      clear hr
      go_wp2
      go_ret
      exact ⟨by rw [HR.out]; rfl, HA.out⟩

set_option maxHeartbeats 2000000 in
theorem sliceIndex.calls (w : World) (xs : List ByteArray) (v : Value) (h : SK Kd.string w xs v) (s : ByteArray) :
    Calls Try.prog 169 #[v, .string s] w fun e w' => e = .returned (.int .i64 (ixFrom xs s 0)) ∧ w = w' := by
  obtain ⟨A, c, rfl, _, hC⟩ := h
  have hn : xs.length ≤ 9223372036854775807 := hC.2.1
  have HK := Aside0.mk hC
  clear hC
  have HB := Aside0.mk (Below.refl w.heap.size w)
  go_enter Try.func169, Try.ntmps169
  go_wp2
  go_loopw [8] (fun i wr => ∃ k : Nat, i = .int .i64 k ∧ k ≤ xs.length ∧ Aside0 (ixFrom (xs.drop k) s k = ixFrom xs s 0) ∧ wr = w) (fun i _ => xs.length - (intOf i).toNat)
  case atStart => exact ⟨0, rfl, by omega, ⟨rfl⟩, rfl⟩
  case round =>
    obtain ⟨k, rfl, hk, HG, rfl⟩ := hrel
    by_cases hlthc : k < xs.length
    · skip
      obtain ⟨ad, cshc, e, _, hKehc, hcellhc⟩ := Kd.C_get (Kd.C_below HK.out HB.out) (ByteArray.empty : ByteArray) (k : Int) (by omega) (by omega)
      rw [show (xs).getD ((k : Int)).toNat (ByteArray.empty : ByteArray) = (xs)[k] by simp [List.getD, hlthc]] at hKehc
      obtain rfl : cshc = [.string (xs)[k]] := hKehc
      cases e
      have hc0 := hcellhc 0 _ rfl
      simp only [Int.toNat_natCast, show Kd.string.sz = 1 from rfl, Nat.mul_one, Nat.add_zero] at hc0
      clear hcellhc
      by_cases hx : xs[k] = s
      · have hr : ixFrom xs s 0 = k := by rw [← HG.out, ixFrom_at k _ hlthc, if_pos hx]
        have HR := Aside0.mk hr
        have e1 : (s.toList == xs[k].toList) = true := by rw [bytes_eqT]; exact decide_eq_true hx.symm
        clear hr hx
        go_wp2
        go_ret
        exact ⟨by rw [HR.out]; rfl, by first | rfl | trivial⟩
      · have hr : ixFrom (xs.drop (k + 1)) s ((k : Int) + 1) = ixFrom xs s 0 := by rw [← HG.out, ixFrom_at k _ hlthc, if_neg hx]
        have HR := Aside0.mk hr
        have e1 : (s.toList == xs[k].toList) = false := by rw [bytes_eqT]; exact decide_eq_false fun h => hx h.symm
        clear hr hx
        go_wp2
        go_roundw
        case rel => exact ⟨k + 1, by go_num, by omega, ⟨by have := HR.out; simpa using this⟩, by first | rfl | trivial⟩
        case measure => simp [intOf]; omega
    · have hr : ixFrom xs s 0 = -1 := by rw [← HG.out, List.drop_of_length_le (by omega)]; rfl
      have HR := Aside0.mk hr
      clear hr
      go_wp2
      go_ret
      exact ⟨by rw [HR.out]; rfl, by first | rfl | trivial⟩

def valAt (x : TEnv) (s : ByteArray) : Int := if (x.Vals.length : Int) ≤ ixFrom x.Names s 0 then -1 else ixFrom x.Names s 0
set_option maxHeartbeats 2000000 in
theorem valAt.calls (w : World) (x : TEnv) (cs : List Value) (h : kEnv.K w x cs) (s : ByteArray) :
    Calls Try.prog 158 #[.agg cs.toArray, .string s] w fun e w' => e = .returned (.int .i64 (valAt x s)) ∧ Below w.heap.size w w' := by
  obtain ⟨A0, c0, A1, c1, rfl, HKf0_, HKf1_⟩ := kEnv_open h
  have HK0 := Aside0.mk HKf0_
  have HK1 := Aside0.mk HKf1_
  clear HKf0_ HKf1_
  clear h
  by_cases hv : (x.Vals.length : Int) ≤ ixFrom x.Names s 0
  all_goals
    have hd : valAt x s = if (x.Vals.length : Int) ≤ ixFrom x.Names s 0 then -1 else ixFrom x.Names s 0 := rfl
    first
      | rw [if_pos hv] at hd
      | rw [if_neg hv] at hd
    have HD := Aside0.mk hd
    clear hd
    go_enter Try.func158, Try.ntmps158
    go_wp2_with (go_at_call 169; (with_reducible refine (sliceIndex.calls _ _ _ (HK0.out.below (by with_reducible repeat (first | apply below_alloc | exact Below.refl _ _))) _).mono ?_); rintro e w1 ⟨rfl, rfl⟩)
    go_ret
    exact ⟨by rw [HD.out]; rfl, by with_reducible repeat (first | apply below_alloc | exact Below.refl _ _)⟩

theorem getIn_valAt (x : TEnv) (s : ByteArray) : getIn x.Names x.Vals s = if 0 ≤ valAt x s then x.Vals.getD (valAt x s).toNat 0 else 0 := by
  rw [getIn_ix x.Names x.Vals s 0 (by omega)]
  unfold valAt
  by_cases h : (x.Vals.length : Int) ≤ ixFrom x.Names s 0
  · rw [if_pos h, if_neg (by omega), if_neg (by omega)]
  · rw [if_neg h]
    by_cases h0 : 0 ≤ ixFrom x.Names s 0
    · rw [if_pos ⟨h0, by omega⟩, if_pos h0, Int.sub_zero]
    · rw [if_neg (fun h => h0 h.1), if_neg h0]
theorem valAt_lt (x : TEnv) (s : ByteArray) (h : 0 ≤ valAt x s) : valAt x s < x.Vals.length := by
  unfold valAt at *
  split at h <;> omega
set_option maxHeartbeats 2000000 in
theorem implGetIn.calls (w : World) (x : TEnv) (cs : List Value) (h : kEnv.K w x cs) (s : ByteArray) :
    Calls Try.prog 122 #[.agg cs.toArray, .string s] w fun e w' => e = .returned (.int .i64 (getIn x.Names x.Vals s)) ∧ Below w.heap.size w w' := by
  have HP := Aside0.mk h
  obtain ⟨A0, c0, A1, c1, rfl, HKf0_, HKf1_⟩ := kEnv_open h
  have HK0 := Aside0.mk HKf0_
  have HK1 := Aside0.mk HKf1_
  clear HKf0_ HKf1_
  clear h
  obtain ⟨A', c', e, _, hC'⟩ := HK1.out
  cases e
  have HK' := Aside0.mk hC'
  clear hC' HK0 HK1
  obtain ⟨W0, hW0⟩ : ∃ W0, W0 = (w).alloc (.cells #[.slice A0 x.Names.length c0, .slice A1 x.Vals.length c1] 172 (0, 0)) := ⟨_, rfl⟩
  have HA := Aside0.mk (show Below w.heap.size w W0 by rw [hW0]; with_reducible repeat (first | apply below_alloc | exact Below.refl _ _))
  have BA0 : W0.heap[w.heap.size]? = some (.cells #[.slice A0 x.Names.length c0, .slice A1 x.Vals.length c1] 172 (0, 0)) := by rw [hW0]; exact blk_new _ _
  have hBA0 : ∀ i, W0.cell? ⟨w.heap.size, i, none⟩ = (#[.slice A0 x.Names.length c0, .slice A1 x.Vals.length c1] : Array Value)[i]? := fun i => blk_cell BA0 i
  have HBA0 := Aside0.mk BA0
  clear BA0
  have hs0 : w.heap.size + 1 ≤ W0.heap.size := by rw [hW0]; simp
  have hs0_0 : w.heap.size < W0.heap.size := by omega
  clear hs0
  have hr := getIn_valAt x s
  by_cases h0 : 0 ≤ valAt x s
  · have hlt := valAt_lt x s h0
    obtain ⟨k, hk⟩ : ∃ k : Nat, valAt x s = k := ⟨(valAt x s).toNat, by omega⟩
    rw [if_pos h0, hk] at hr
    have hlthd : k < x.Vals.length := by omega
    have hr2 : getIn x.Names x.Vals s = x.Vals[k] := by rw [hr]; simp [List.getD, hlthd]
    have HR := Aside0.mk hr2
    have HV := Aside0.mk hk
    clear hr hr2 hk hlt h0
    go_enter Try.func122, Try.ntmps122
    go_wp2_with fail
    simp only [← hW0]
    clear hW0
    (with_reducible refine (valAt.calls _ x _ (kEnv.K_below HA.out HP.out) _).mono ?_)
    rw [HV.out]
    rintro e w1 ⟨rfl, hb⟩
    have HB := Aside0.mk hb
    obtain ⟨hc1, hf1⟩ := bcell hb
    clear hb
    obtain ⟨ad', cshd, e', _, hKehd, hcellhd⟩ := Kd.C_get (Kd.C_below HK'.out (bstep HA.out HB.out)) (0 : Int) (k : Int) (by omega) (by omega)
    rw [show (x.Vals).getD ((k : Int)).toNat (0 : Int) = (x.Vals)[k] by simp [List.getD, hlthd]] at hKehd
    obtain rfl : cshd = [.int .i64 (x.Vals)[k]] := hKehd
    cases e'
    have hd0 := hcellhd 0 _ rfl
    simp only [Int.toNat_natCast, show (Kd.int .i64).sz = 1 from rfl, Nat.mul_one, Nat.add_zero] at hd0
    clear hcellhd
    go_wp2
    go_ret
    exact ⟨by rw [HR.out]; rfl, bstep HA.out HB.out⟩
  · rw [if_neg h0] at hr
    have HR := Aside0.mk hr
    have h0' : valAt x s < 0 := by omega
    clear hr h0
    go_enter Try.func122, Try.ntmps122
    go_wp2_with fail
    simp only [← hW0]
    clear hW0
    (with_reducible refine (valAt.calls _ x _ (kEnv.K_below HA.out HP.out) _).mono ?_)
    generalize valAt x s = r at *
    rintro e w1 ⟨rfl, hb⟩
    have HB := Aside0.mk hb
    obtain ⟨hc1, hf1⟩ := bcell hb
    clear hb
    go_wp2
    go_ret
    exact ⟨by rw [HR.out]; rfl, bstep HA.out HB.out⟩
end Go.Proofs.Ytgeoipplkjgnfaa
