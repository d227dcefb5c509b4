/- The plain law of FnExactLastOf: what the two functions tell of a list of events is the same. Condition: the list is read from memory, as the statement has it. -/
import Derived.Test.YtgeoipplkjgnfaaPFnExactLastOfx2
namespace Go.Proofs.Ytgeoipplkjgnfaa.LastOfPure
open Go.RowKit Go.Proofs.Ytgeoipplkjgnfaa.PFnExactLastOf Go.Proofs.YtgeoipplkjgnfaaW.PrintWords

def conv (x : S111) : S109 := ⟨x.f0, x.f1, x.f2⟩
theorem wr {i : Int} (h0 : -1 ≤ i) (h : i ≤ 1048577) : wrap64 i = i := by
  unfold wrap64
  omega

theorem rdL_at {α : Type} (xs : List α) (z : α) (i : Nat) (h : i < xs.length) : xs.getD ((i : Int)).toNat z = xs[i] := by
  simp [List.getD, h]

theorem to_loop (xs : List S111) (hn : xs.length ≤ 1048576) (d : Nat) : ∀ (k i : Nat) (out : List S109), i + d = xs.length → d < k → out.length = xs.length →
    laws_toEventS.l0 k xs out (i : Int) = some (out.take i ++ (xs.drop i).map conv) := by
  induction d with
  | zero =>
    intro k i out h hk ho
    obtain ⟨k, rfl⟩ : ∃ m, k = m + 1 := ⟨k - 1, by omega⟩
    simp only [laws_toEventS.l0]
    rw [if_neg (by omega), List.drop_of_length_le (by omega), List.take_of_length_le (by omega)]
    simp
  | succ d ih =>
    intro k i out h hk ho
    obtain ⟨k, rfl⟩ : ∃ m, k = m + 1 := ⟨k - 1, by omega⟩
    simp only [laws_toEventS.l0, laws_toEvent.f, Option.bind_some]
    rw [if_pos (by omega), if_pos (by omega), if_pos (by omega), wr (by omega) (by omega)]
    have hi : i < xs.length := by omega
    have e : ((i : Int) + 1) = ((i + 1 : Nat) : Int) := by omega
    rw [e, ih k (i + 1) _ (by omega) (by omega) (by simp [ho]), List.drop_eq_getElem_cons hi]
    unfold rd_T111
    rw [rdL_at xs _ i hi]
    simp only [Int.toNat_natCast, List.map_cons]
    rw [List.take_succ_eq_append_getElem (by simp [ho]; omega), List.take_set_of_le (Nat.le_refl _)]
    simp [conv]

theorem to_all (xs : List S111) (hn : xs.length ≤ 1048576) (k : Nat) (hk : xs.length < k) : laws_toEventS.f k xs = some (xs.map conv) := by
  unfold laws_toEventS.f
  rw [if_pos (by omega), if_pos (by omega)]
  have := to_loop xs hn xs.length k 0 (List.replicate ((xs.length : Int)).toNat z109) (by omega) hk (by simp)
  simpa using this

theorem eq_loop (xs : List S109) (hn : xs.length ≤ 1048576) (d : Nat) : ∀ (k i : Nat), i + d = xs.length → d < k → laws_eqEventS.l0 k xs xs (i : Int) = some true := by
  induction d with
  | zero =>
    intro k i h hk
    obtain ⟨k, rfl⟩ : ∃ m, k = m + 1 := ⟨k - 1, by omega⟩
    simp only [laws_eqEventS.l0]
    rw [if_neg (by omega)]
  | succ d ih =>
    intro k i h hk
    obtain ⟨k, rfl⟩ : ∃ m, k = m + 1 := ⟨k - 1, by omega⟩
    simp only [laws_eqEventS.l0, laws_eqEvent.f]
    rw [if_pos (by omega), if_pos (by omega), if_pos (by omega), wr (by omega) (by omega)]
    simp only [if_true, Option.bind_some]
    exact ih k (i + 1) (by omega) (by omega)

def last (p : Int) : List S109 → Int → Int
  | [], a => a
  | e :: es, a => last p es (if e.f0 = p then e.f1 else a)
theorem last_append (p : Int) (xs ys : List S109) (a : Int) : last p (xs ++ ys) a = last p ys (last p xs a) := by
  induction xs generalizing a with
  | nil => rfl
  | cons e es ih => exact ih _

theorem impl_loop (xs : List S109) (p : Int) (hn : xs.length ≤ 1048576) (d : Nat) : ∀ (k i : Nat) (a : Int), i + d = xs.length → d < k → impl_LastOf.l0 k p a xs (xs.length : Int) (i : Int) = some (last p (xs.drop i) a) := by
  induction d with
  | zero =>
    intro k i a h hk
    obtain ⟨k, rfl⟩ : ∃ m, k = m + 1 := ⟨k - 1, by omega⟩
    simp only [impl_LastOf.l0]
    rw [if_neg (by omega), List.drop_of_length_le (by omega)]
    rfl
  | succ d ih =>
    intro k i a h hk
    obtain ⟨k, rfl⟩ : ∃ m, k = m + 1 := ⟨k - 1, by omega⟩
    have hi : i < xs.length := by omega
    simp only [impl_LastOf.l0]
    rw [if_pos (by omega), if_pos (by omega), if_pos (by omega), wr (by omega) (by omega), List.drop_eq_getElem_cons hi]
    unfold rd_T109
    rw [rdL_at xs _ i hi]
    show _ = some (last p (List.drop (i + 1) xs) (if xs[i].f0 = p then xs[i].f1 else a))
    split
    · exact ih k (i + 1) _ (by omega) (by omega)
    · exact ih k (i + 1) _ (by omega) (by omega)

theorem spec_loop (xs : List S109) (p : Int) (hn : xs.length ≤ 1048576) : ∀ (i k : Nat), i ≤ xs.length → i < k → spec_LastOf.l0 k xs p ((i : Int) - 1) = some (last p (xs.take i) 0) := by
  intro i
  induction i with
  | zero =>
    intro k h hk
    obtain ⟨k, rfl⟩ : ∃ m, k = m + 1 := ⟨k - 1, by omega⟩
    simp only [spec_LastOf.l0]
    rw [if_neg (by omega)]
    rfl
  | succ i ih =>
    intro k h hk
    obtain ⟨k, rfl⟩ : ∃ m, k = m + 1 := ⟨k - 1, by omega⟩
    have hi : i < xs.length := by omega
    simp only [spec_LastOf.l0]
    have e : ((i + 1 : Nat) : Int) - 1 = (i : Int) := by omega
    rw [e, if_pos (by omega), if_pos (by omega), if_pos (by omega), wr (by omega) (by omega), List.take_succ_eq_append_getElem hi, last_append]
    unfold rd_T109
    rw [rdL_at xs _ i hi, ih k (by omega) (by omega)]
    show _ = some (if xs[i].f0 = p then xs[i].f1 else _)
    split <;> rfl

theorem pure (xs : List S111) (p : Int) (hl : xs.length ≤ 9223372036854775807) : ∃ k, laws_FnExactLastOf.f k xs p = some true := by
  refine ⟨xs.length + 2, ?_⟩
  unfold laws_FnExactLastOf.f laws_szEventS.f
  have hw : wrap64 (1048576 - (xs.length : Int)) = 1048576 - (xs.length : Int) := by
    unfold wrap64
    omega
  rw [hw]
  by_cases h : (1048576 : Int) - (xs.length : Int) < 0
  · rw [if_pos h]
    rfl
  · rw [if_neg h]
    have hn : xs.length ≤ 1048576 := by omega
    have hm : (xs.map conv).length ≤ 1048576 := by simpa using hn
    have hk : (xs.map conv).length < xs.length + 2 := by simp
    simp only [Option.bind_some]
    rw [if_neg h, to_all xs hn _ (by omega)]
    simp only [Option.bind_some]
    have hs : spec_LastOf.f (xs.length + 2) (xs.map conv) p = some (last p (xs.map conv) 0) := by
      unfold spec_LastOf.f
      rw [wr (by omega) (by omega), spec_loop _ p hm (xs.map conv).length _ (Nat.le_refl _) hk, List.take_length]
    have hi : impl_LastOf.f (xs.length + 2) (xs.map conv) p = some (last p (xs.map conv) 0) := by
      unfold impl_LastOf.f
      have := impl_loop (xs.map conv) p hm (xs.map conv).length (xs.length + 2) 0 0 (by omega) hk
      simpa using this
    have he : laws_eqEventS.f (xs.length + 2) (xs.map conv) (xs.map conv) = some true := by
      unfold laws_eqEventS.f
      rw [if_pos rfl]
      exact eq_loop (xs.map conv) hm (xs.map conv).length _ 0 (by omega) hk
    rw [hs, hi]
    simp only [Option.bind_some, if_true]
    rw [he]
    rfl
end Go.Proofs.Ytgeoipplkjgnfaa.LastOfPure
