/- The abstract memory: contracts that tell of an answer that there is one of a kind. No condition beside those that stand in each statement. -/
import Derived.Test.YtgeoipplkjgnfaaDoorEng26
set_option linter.unusedVariables false
set_option linter.unusedSimpArgs false
namespace Go.Proofs.YtgeoipplkjgnfaaDoor.E
variable {P : Program} {R R' : Nat → Prop} {w w' : World} {M M' : List Loc} {c : Array Value}
/-- A call of f at closed arguments ends, with an answer that is one of these. -/
def CallE {α : Type} (P : Program) (f : FuncId) (args : List A1) (ret : α → AV) (outs : α → List (Option T)) (S : α → Prop) : Prop :=
  callable P f = true ∧ ∀ (R : Nat → Prop) (w : World) (us : List Value) (F : FP), relAL R w [] args us F → Good R w F →
    Calls P f us.toArray w fun e w' => ∃ x, S x ∧ ∃ u R' F1 F2, e = .returned u ∧ relAV R' w' [] (ret x) u F1 ∧ relOs R' w' (outs x) us F2 ∧ Good R' w' (fa F1 F2) ∧ Fr R w F R' w' (fa F1 F2)
theorem CallE.of {α : Type} {f : FuncId} {args : List A1} {ret : α → AV} {outs : α → List (Option T)} {S : α → Prop} (x : α) (hx : S x) (h : CallOk P f args (ret x) (outs x)) : CallE P f args ret outs S :=
  ⟨h.1, fun R w us F ha hg => (h.2 R w us F ha hg).mono fun e w' hh => ⟨x, hx, hh⟩⟩
theorem CallE.weaken {α β : Type} {f : FuncId} {args : List A1} {ret : α → AV} {outs : α → List (Option T)} {S : α → Prop} {ret' : β → AV} {outs' : β → List (Option T)} {S' : β → Prop} (h : CallE P f args ret outs S) (hh : ∀ x, S x → ∃ y, S' y ∧ ret' y = ret x ∧ outs' y = outs x) : CallE P f args ret' outs' S' :=
  ⟨h.1, fun R w us F ha hg => (h.2 R w us F ha hg).mono fun e w' ⟨x, hx, r⟩ => by
    obtain ⟨y, hy, h1, h2⟩ := hh x hx
    exact ⟨y, hy, by rw [h1, h2]; exact r⟩⟩
theorem callE_of_hcall {α : Type} {f : FuncId} {args : List A1} {ret : α → AV} {outs : α → List (Option T)} {S : α → Prop} (n : Nat)
    (h : HCall P f (nameAL args 0).1 (nameAL args 0).2 (fun r H' => ∃ x, S x ∧ EndK n (nameAL args 0).1 (ret x) (outs x) r H')) : CallE P f args ret outs S := by
  refine ⟨h.1, fun R w us F ha hg => ?_⟩
  have hH0 : relHeap R w [] [] [] fz := rfl
  obtain ⟨N, n1, n2⟩ := nameAL_sound ha hH0
  rw [z_fa] at n2
  simp only [List.nil_append, List.length_nil] at n1 n2
  refine (h.2 R w N us F n1 n2 hg).mono ?_
  rintro e w' ⟨u, r, H', R', N', F', rfl, ⟨x, hx, k1, k2⟩, g1, g2, g3, g4⟩
  obtain ⟨F1, FH', q1, q2, q3⟩ := fitAV_sound k1 g1 g2
  have n1' := relAL_mono (R' := R') (w' := w') (fun b hb => g4.sub b hb) (prefix_self N N') (fun b hb => Fr.ro_same hg g4 b (hb.resolve_right (by simp [fz]))) n1
  obtain ⟨F2, p1, p2⟩ := fitOs_sound k2 n1' q2
  have hle : leF (fa F1 F2) F' := fun b => by have := q3 b; have := p2 b; simp only [fa, fz] at *; omega
  exact ⟨x, hx, u, R', F1, F2, rfl, q1, p1, g3.le hle, g4.leq hle⟩

theorem hcall_of_callE {α : Type} {f : FuncId} {avs args : List A1} {H : List AObj} {ret : α → AV} {outs : α → List (Option T)} {S : α → Prop} {K : AV → List AObj → Prop} (n : Nat) (sn : Bool) (hc : CallE P f args ret outs S)
    (h1 : (takeAL n H avs args).1) (h2 : lookAL sn n (takeAL n H avs args).2 avs args) (h3 : ∀ x, S x → sn = true → noRoAV (ret x) = true ∧ (outs x).all noRoO = true) (h4 : ∀ x, S x → (backAL H (takeAL n H avs args).2 avs (outs x)).1)
    (hK : ∀ x, S x → K (nameAV (ret x) (backAL H (takeAL n H avs args).2 avs (outs x)).2.length).1 ((backAL H (takeAL n H avs args).2 avs (outs x)).2 ++ (nameAV (ret x) (backAL H (takeAL n H avs args).2 avs (outs x)).2.length).2)) : HCall P f avs H K := by
  refine ⟨hc.1, fun R w M us F ha hH hg => ?_⟩
  obtain ⟨F1, FH1, t1, t2, t3⟩ := takeAL_sound h1 ha hH
  have hF1 : ∀ b, F1 b ≤ F b ∧ FH1 b ≤ F b ∧ F1 b + FH1 b ≤ 1 := fun b => by have := t3 b; have := hg.one b; simp only [fa] at *; omega
  have l1 := lookAL_sound (Rc := fun b => R b ∨ (sn = true ∧ 1 ≤ FH1 b)) t2 (fun b hb => .inl hb) (fun hs b hb => .inr ⟨hs, hb⟩) h2 ha t1
  have hgc : Good (fun b => R b ∨ (sn = true ∧ 1 ≤ FH1 b)) w F1 := by
    refine ⟨fun b => by have := hF1 b; omega, fun b hb => ?_, fun b hb => ?_, hg.inv.mono (fun _ h => .inl h) (Nat.le_refl _) fun _ _ => rfl⟩
    · have h5 := hg.own b (by have := hF1 b; omega)
      exact ⟨fun h => by rcases h with h | h; exact h5.1 h; have := hF1 b; omega, h5.2⟩
    · rcases hb with hb | hb
      · exact hg.ro b hb
      · exact (hg.own b (by have := hF1 b; omega)).2
  refine (hc.2 _ w us F1 l1 hgc).mono ?_
  rintro e w' ⟨x, hx, u, R', G1, G2, rfl, g1, g2, g3, g4⟩
  have hF1R : ∀ b, R b → F1 b = 0 := fun b hb => by
    cases hz : F1 b with
    | zero => rfl
    | succ k => exact absurd (Or.inl hb) (hgc.own b (by omega)).1
  have hsame : ∀ b, R b ∨ 1 ≤ FH1 b → w'.heap[b]? = w.heap[b]? := fun b hb => by
    rcases hb with hb | hb
    · exact g4.same b (hg.ro b hb) (hF1R b hb)
    · exact g4.same b (hg.own b (by have := hF1 b; omega)).2 (by have := hF1 b; omega)
  -- what is read alone from here on
  have hR2 : ∃ R2 : Nat → Prop, (∀ b, R b → R2 b) ∧ (∀ b, R2 b → b < w'.heap.size) ∧ (∀ b, 1 ≤ FH1 b → ¬ R2 b) ∧ (∀ b, 1 ≤ (fa G1 G2) b → ¬ R2 b) ∧ (∀ b, R2 b → R b ∨ 1 ≤ F b ∨ w.heap.size ≤ b) ∧ relAV R2 w' [] (ret x) u G1 ∧ relOs R2 w' (outs x) us G2 := by
    cases sn with
    | true =>
      obtain ⟨n1, n2⟩ := h3 x hx rfl
      refine ⟨R, fun _ h => h, fun b hb => Nat.lt_of_lt_of_le (hg.ro b hb) g4.size, fun b hb => (hg.own b (by have := hF1 b; omega)).1, fun b hb h => (g3.own b hb).1 (g4.sub b (.inl h)), fun b hb => .inl hb, noRoAV_rel n1 g1, noRoOs_rel n2 g2⟩
    | false =>
      refine ⟨R', fun b hb => g4.sub b (.inl hb), g3.ro, fun b hb h => ?_, fun b hb => (g3.own b hb).1, fun b hb => ?_, g1, g2⟩
      · rcases g4.ro b h with h5 | h5 | h5
        · rcases h5 with h5 | h5
          · exact (hg.own b (by have := hF1 b; omega)).1 h5
          · simp at h5
        · have := hF1 b; omega
        · have := (hg.own b (by have := hF1 b; omega)).2; omega
      · rcases g4.ro b hb with h5 | h5 | h5
        · rcases h5 with h5 | h5
          · exact .inl h5
          · simp at h5
        · exact .inr (.inl (by have := hF1 b; omega))
        · exact .inr (.inr h5)
  obtain ⟨R2, r1, r2, r3, r4, r5, r6, r7⟩ := hR2
  have hHn := relHeap_mono (R' := R2) (w' := w') r1 (List.prefix_refl M) hsame t2
  have hlen : (takeAL n H avs args).2.length = H.length := by rw [relHeap_len hHn, relHeap_len hH]
  obtain ⟨FH2, b1, b2⟩ := backAL_sound (w := w') hH g4.shape (h4 x hx) hlen ha r7 hHn
  obtain ⟨N, m1, m2⟩ := nameAV_sound (relAV_mono (fun _ h => h) (nil_pre M) (fun _ _ => rfl) r6) b1
  have hle : ∀ b, (fa FH2 G1) b ≤ FH1 b + (fa G1 G2) b := fun b => by have := b2 b; simp only [fa] at *; omega
  have hdis : ∀ b, 1 ≤ FH1 b → (fa G1 G2) b = 0 := fun b hb => by
    cases hz : (fa G1 G2) b with
    | zero => rfl
    | succ k =>
      rcases g4.own b (by omega) with h5 | h5
      · have := hF1 b; omega
      · have := (hg.own b (by have := hF1 b; omega)).2; omega
  refine ⟨u, _, _, R2, N, _, rfl, hK x hx, m1, m2, ⟨fun b => ?_, fun b hb => ?_, r2, hg.inv.mono r1 g4.size fun b hb => hsame b (.inl hb)⟩, ⟨g4.os, g4.tape, g4.output, g4.size, fun b hb h0 => g4.same b hb (by have := hF1 b; omega), r1, fun b hb => ?_, r5, g4.shape⟩⟩
  · have h5 := hle b
    by_cases h6 : 1 ≤ FH1 b
    · have := hdis b h6
      have := hF1 b
      omega
    · have := g3.one b
      omega
  · have h5 := hle b
    by_cases h6 : 1 ≤ FH1 b
    · exact ⟨r3 b h6, Nat.lt_of_lt_of_le (hg.own b (by have := hF1 b; omega)).2 g4.size⟩
    · exact ⟨r4 b (by omega), (g3.own b (by omega)).2⟩
  · have h5 := hle b
    by_cases h6 : 1 ≤ FH1 b
    · exact .inl (by have := hF1 b; omega)
    · rcases g4.own b (by omega) with h7 | h7
      · exact .inl (by have := hF1 b; omega)
      · exact .inr h7
end Go.Proofs.YtgeoipplkjgnfaaDoor.E
