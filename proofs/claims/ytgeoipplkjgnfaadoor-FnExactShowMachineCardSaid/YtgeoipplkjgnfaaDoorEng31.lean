/- The abstract memory: a row of a named list given back what it holds. No condition beside those that stand in each statement. -/
import Derived.Test.YtgeoipplkjgnfaaDoorEng27
set_option linter.unusedVariables false
set_option linter.unusedSimpArgs false
namespace Go.Proofs.YtgeoipplkjgnfaaDoor.E
theorem Weak.trans {k : Nat} {s s1 s2 : St} (h1 : Weak k s s1) (h2 : Weak k s1 s2) : Weak k s s2 := fun X a w hk hs => h2 X a w hk (h1 X a w hk hs)
theorem refsRows_app : ∀ xs ys : List (List T), refsRows (xs ++ ys) = refsRows xs ++ refsRows ys
  | [], ys => by simp [refsRows]
  | x :: xs, ys => by simp [refsRows, refsRows_app xs ys, List.append_assoc]
theorem renRows_app (f : Nat → Nat) : ∀ xs ys : List (List T), renRows f (xs ++ ys) = renRows f xs ++ renRows f ys
  | [], ys => by simp [renRows]
  | x :: xs, ys => by simp [renRows, renRows_app f xs ys]
theorem refs_repl {row : List T} (h : refsRow row = []) : ∀ n, refsRows (List.replicate n row) = []
  | 0 => by simp [refsRows]
  | n + 1 => by rw [List.replicate_succ]; simp [refsRows, h, refs_repl h n]
theorem ren_repl {f : Nat → Nat} {row : List T} (h : renRow f row = row) : ∀ n, renRows f (List.replicate n row) = List.replicate n row
  | 0 => by simp [renRows]
  | n + 1 => by rw [List.replicate_succ]; simp [renRows, h, ren_repl h n]
attribute [go_sem] ite_self
/-- A row of a named list that holds names of its own memory holds that memory itself. -/
theorem weak_fit {k : Nat} {s : St} (n l i sz : Nat) (rows : List (List T)) (row row' : List T) (hl : s.H[l]? = some (.live sz rows)) (hi : rows[i]? = some row) (hf : (fitRow n (s.H.set l .dead) row row').1) :
    Weak k s ⟨s.env, (fitRow n (s.H.set l .dead) row row').2.set l (.live sz (rows.set i row'))⟩ := by
  intro X a w hk hs
  obtain ⟨hd, R, M, F, hpre, henv, hH, hg, hfr⟩ := hs
  obtain ⟨L, F1, F2, hL, rfl, hobj, hput⟩ := relHeap_get hH hl
  have hkill := hput R w M .dead fz (fun _ h => h) (List.prefix_refl _) (fun _ _ => rfl) rfl
  rw [z_fa] at hkill
  obtain ⟨hLs, hobj⟩ := hobj
  rcases hobj with ⟨rfl, -⟩ | ⟨c, F', hB, hroom, hR, rfl⟩
  · simp at hi
  obtain ⟨G1, G2, rfl, hlen, hrow, hback⟩ := relTRows_get hR hi
  obtain ⟨F1', FH', q1, q2, q3⟩ := fitRow_sound n _ row row' c _ G1 F2 hf hrow hkill
  have hll := fitRow_len n _ row row' hf
  have hnew := hback M c row' F1' (List.prefix_refl _) ⟨rfl, fun _ _ => rfl⟩ (by omega) (relTRow_mono (fun _ h => h) (nil_pre M) c row' _ F1' (fun _ _ => rfl) q1)
  have hlM : l < M.length := (List.getElem?_eq_some_iff.1 hL).1
  have hlf : l < (fitRow n (s.H.set l .dead) row row').2.length := by rw [relHeap_len q2]; exact hlM
  obtain ⟨L2, K1, K2, hL2, rfl, -, hput2⟩ := relHeap_get q2 (List.getElem?_eq_getElem hlf)
  rw [hL] at hL2
  simp only [Option.some.injEq] at hL2
  subst hL2
  have hfin := hput2 R w M (.live sz (rows.set i row')) (fa (fd L.b) (fa F1' G2)) (fun _ h => h) (List.prefix_refl _) (fun _ _ => rfl) ⟨hLs, .inr ⟨c, _, hB, by simpa using hroom, hnew, rfl⟩⟩
  have hle : ∀ b, (fa (fa (fd L.b) (fa F1' G2)) K2) b ≤ (fa (fa (fd L.b) (fa G1 G2)) F2) b := fun b => by
    have := q3 b
    simp only [fa] at this ⊢
    omega
  exact ⟨hd, R, M, _, hpre, henv, hfin, hg.le hle, hfr.le hle⟩
theorem weak_fit2 {k : Nat} {s s2 s' : St} (n l i sz : Nat) (rows : List (List T)) (row row' : List T) (hl : s.H[l]? = some (.live sz rows)) (hi : rows[i]? = some row) (hf : (fitRow n (s.H.set l .dead) row row').1) (he : (⟨s.env, (fitRow n (s.H.set l .dead) row row').2.set l (.live sz (rows.set i row'))⟩ : St) = s2) (h : Weak k s2 s') : Weak k s s' := by
  subst he; exact (weak_fit n l i sz rows row row' hl hi hf).trans h
end Go.Proofs.YtgeoipplkjgnfaaDoor.E
