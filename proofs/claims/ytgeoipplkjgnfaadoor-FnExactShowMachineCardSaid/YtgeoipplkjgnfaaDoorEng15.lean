/- The abstract memory: closed values, what is handed over and what is shown, and contracts of functions. No condition beside those that stand in each statement. -/
import Derived.Test.YtgeoipplkjgnfaaDoorEng14
set_option linter.unusedVariables false
set_option linter.unusedSimpArgs false
namespace Go.Proofs.YtgeoipplkjgnfaaDoor.E
variable {P : Program} {R R' : Nat → Prop} {w w' : World} {M M' : List Loc} {c : Array Value}

def isNil : Value → Bool
  | .slice none 0 0 => true
  | _ => false
mutual
/-- Nothing named in it. -/
def closedT : T → Bool
  | .v x => !isNil x
  | .ro _ _ => true
  | .own _ rows => closedRows rows
  | .ref _ _ _ => false
  | .ptr _ _ _ => false
  | .rp _ _ => true
  | .box row => closedRow row
  | .fn _ cap => closedRow cap
def closedRow : List T → Bool
  | [] => true
  | t :: ts => closedT t && closedRow ts
def closedRows : List (List T) → Bool
  | [] => true
  | r :: rs => closedRow r && closedRows rs
end
mutual
/-- Nothing in it that is read alone. -/
def noRo : T → Bool
  | .v _ => true
  | .ro _ rows => rows.isEmpty
  | .own _ rows => noRoRows rows
  | .ref _ _ _ => true
  | .ptr _ _ _ => true
  | .rp _ _ => false
  | .box row => noRoRow row
  | .fn _ cap => noRoRow cap
def noRoRow : List T → Bool
  | [] => true
  | t :: ts => noRo t && noRoRow ts
def noRoRows : List (List T) → Bool
  | [] => true
  | r :: rs => noRoRow r && noRoRows rs
end
mutual
theorem closedT_rel : ∀ (t : T) (u : Value) (F : FP), closedT t = true → relT R w M t u F → relT R w M' t u F
  | .v x, u, F, hc, h => h
  | .ro sz rows, u, F, hc, h => h
  | .own sz rows, u, F, hc, h => by
    simp only [relT] at h ⊢
    simp only [closedT] at hc
    obtain ⟨L, a, cap, h0, h1, h2, h3, h4, h5⟩ := h
    refine ⟨L, a, cap, h0, h1, h2, h3, h4, ?_⟩
    rcases h5 with h5 | ⟨c, F', h6, h7, h8⟩
    · exact .inl h5
    · exact .inr ⟨c, F', h6, closedRows_rel c L.sz rows L.o F' hc h7, h8⟩
  | .ref _ _ _, u, F, hc, h => by simp [closedT] at hc
  | .ptr _ _ _, u, F, hc, h => by simp [closedT] at hc
  | .rp row col, u, F, hc, h => h
  | .box row, u, F, hc, h => by
    simp only [relT] at h ⊢
    simp only [closedT] at hc
    obtain ⟨L, c, F', h1, h2, h3, h4, h5, h6⟩ := h
    exact ⟨L, c, F', h1, h2, h3, h4, closedRow_rel c row L.o F' hc h5, h6⟩
  | .fn f cap, u, F, hc, h => by
    simp only [relT] at h ⊢
    simp only [closedT] at hc
    obtain ⟨h0, c, h1, h2, h3⟩ := h
    exact ⟨h0, c, h1, h2, closedRow_rel c cap 0 fz hc h3⟩
theorem closedRow_rel (c : Array Value) : ∀ (ts : List T) (o : Nat) (F : FP), closedRow ts = true → relTRow R w M c ts o F → relTRow R w M' c ts o F
  | [], o, F, hc, h => h
  | t :: ts, o, F, hc, h => by
    simp only [relTRow] at h ⊢
    simp only [closedRow, Bool.and_eq_true] at hc
    obtain ⟨u, F1, F2, h1, h2, h3, h4⟩ := h
    exact ⟨u, F1, F2, h1, closedT_rel t u F1 hc.1 h2, closedRow_rel c ts (o + 1) F2 hc.2 h3, h4⟩
theorem closedRows_rel (c : Array Value) (sz : Nat) : ∀ (rs : List (List T)) (o : Nat) (F : FP), closedRows rs = true → relTRows R w M c sz rs o F → relTRows R w M' c sz rs o F
  | [], o, F, hc, h => h
  | r :: rs, o, F, hc, h => by
    simp only [relTRows] at h ⊢
    simp only [closedRows, Bool.and_eq_true] at hc
    obtain ⟨F1, F2, h1, h2, h3, h4⟩ := h
    exact ⟨F1, F2, h1, closedRow_rel c r o F1 hc.1 h2, closedRows_rel c sz rs (o + sz) F2 hc.2 h3, h4⟩
end
mutual
theorem noRo_rel : ∀ (t : T) (u : Value) (F : FP), noRo t = true → relT R w M t u F → relT R' w M t u F
  | .v x, u, F, hc, h => h
  | .ro sz rows, u, F, hc, h => by
    simp only [noRo, List.isEmpty_iff] at hc
    subst hc
    simp only [relT, relD] at h ⊢
    obtain ⟨⟨a, cap, h1, h2, -⟩, h3⟩ := h
    exact ⟨⟨a, cap, h1, h2, .inl trivial⟩, h3⟩
  | .own sz rows, u, F, hc, h => by
    simp only [relT] at h ⊢
    simp only [noRo] at hc
    obtain ⟨L, a, cap, h0, h1, h2, h3, h4, h5⟩ := h
    refine ⟨L, a, cap, h0, h1, h2, h3, h4, ?_⟩
    rcases h5 with h5 | ⟨c, F', h6, h7, h8⟩
    · exact .inl h5
    · exact .inr ⟨c, F', h6, noRoRows_rel c L.sz rows L.o F' hc h7, h8⟩
  | .ref _ _ _, u, F, hc, h => by simpa only [relT] using h
  | .ptr _ _ _, u, F, hc, h => by simpa only [relT] using h
  | .rp row col, u, F, hc, h => by simp [noRo] at hc
  | .box row, u, F, hc, h => by
    simp only [relT] at h ⊢
    simp only [noRo] at hc
    obtain ⟨L, c, F', h1, h2, h3, h4, h5, h6⟩ := h
    exact ⟨L, c, F', h1, h2, h3, h4, noRoRow_rel c row L.o F' hc h5, h6⟩
  | .fn f cap, u, F, hc, h => by
    simp only [relT] at h ⊢
    simp only [noRo] at hc
    obtain ⟨h0, c, h1, h2, h3⟩ := h
    exact ⟨h0, c, h1, h2, noRoRow_rel c cap 0 fz hc h3⟩
theorem noRoRow_rel (c : Array Value) : ∀ (ts : List T) (o : Nat) (F : FP), noRoRow ts = true → relTRow R w M c ts o F → relTRow R' w M c ts o F
  | [], o, F, hc, h => h
  | t :: ts, o, F, hc, h => by
    simp only [relTRow] at h ⊢
    simp only [noRoRow, Bool.and_eq_true] at hc
    obtain ⟨u, F1, F2, h1, h2, h3, h4⟩ := h
    exact ⟨u, F1, F2, h1, noRo_rel t u F1 hc.1 h2, noRoRow_rel c ts (o + 1) F2 hc.2 h3, h4⟩
theorem noRoRows_rel (c : Array Value) (sz : Nat) : ∀ (rs : List (List T)) (o : Nat) (F : FP), noRoRows rs = true → relTRows R w M c sz rs o F → relTRows R' w M c sz rs o F
  | [], o, F, hc, h => h
  | r :: rs, o, F, hc, h => by
    simp only [relTRows] at h ⊢
    simp only [noRoRows, Bool.and_eq_true] at hc
    obtain ⟨F1, F2, h1, h2, h3, h4⟩ := h
    exact ⟨F1, F2, h1, noRoRow_rel c r o F1 hc.1 h2, noRoRows_rel c sz rs (o + sz) F2 hc.2 h3, h4⟩
end

/-! ### Named memory handed over as_ a closed value -/
mutual
/-- Is t, over named memory H, the closed t'? And what is left of H. -/
def fitT : Nat → List AObj → T → T → Prop × List AObj
  | 0, H, _, _ => (False, H)
  | n + 1, H, t, t' => match t, t' with
    | .ref l off len, .own sz' rows' => match H[l]? with
      | some (.live sz rows) => (sz = sz' ∧ off + len ≤ rows.length ∧ (fitRows n (H.set l .dead) ((rows.drop off).take len) rows').1, (fitRows n (H.set l .dead) ((rows.drop off).take len) rows').2)
      | _ => (False, H)
    | .ptr l 0 0, .box row' => match H[l]? with
      | some (.live sz [row]) => (sz = row'.length ∧ (fitRow n (H.set l .dead) row row').1, (fitRow n (H.set l .dead) row row').2)
      | _ => (False, H)
    | .v x, .own _ rows' => (isNil x = true ∧ rows' = [], H)
    | .v x, .ro _ rows' => (isNil x = true ∧ rows' = [], H)
    | t, t' => (closedT t = true ∧ t = t', H)
def fitRow : Nat → List AObj → List T → List T → Prop × List AObj
  | 0, H, _, _ => (False, H)
  | n + 1, H, ts, ts' => match ts, ts' with
    | [], [] => (True, H)
    | t :: ts, t' :: ts' => ((fitT n H t t').1 ∧ (fitRow n (fitT n H t t').2 ts ts').1, (fitRow n (fitT n H t t').2 ts ts').2)
    | _, _ => (False, H)
def fitRows : Nat → List AObj → List (List T) → List (List T) → Prop × List AObj
  | 0, H, _, _ => (False, H)
  | n + 1, H, rows, rows' => if closedRows rows = true then (rows = rows', H) else match rows, rows' with
    | r :: rs, r' :: rs' => ((fitRow n H r r').1 ∧ (fitRows n (fitRow n H r r').2 rs rs').1, (fitRows n (fitRow n H r r').2 rs rs').2)
    | _, _ => (False, H)
end
def leF (F G : FP) : Prop := ∀ b, F b ≤ G b
theorem relHeap_kill {H : List AObj} {F : FP} {l : Nat} {o : AObj} {L : Loc} (hH : relHeap R w M H M F) (hl : H[l]? = some o) (hL : M[l]? = some L) : ∃ F1 F2, F = fa F1 F2 ∧ relObj R w M L o F1 ∧ relHeap R w M (H.set l .dead) M F2 := by
  obtain ⟨L', F1, F2, hL', rfl, hobj, hput⟩ := relHeap_get hH hl
  rw [hL] at hL'
  simp only [Option.some.injEq] at hL'
  subst hL'
  have := hput R w M .dead fz (fun _ h => h) (List.prefix_refl M) (fun _ _ => rfl) rfl
  rw [z_fa] at this
  exact ⟨F1, F2, rfl, hobj, this⟩
theorem fitRow_len : ∀ (n : Nat) (H : List AObj) (ts ts' : List T), (fitRow n H ts ts').1 → ts.length = ts'.length
  | 0, H, ts, ts', h => by simp [fitRow] at h
  | n + 1, H, [], [], h => rfl
  | n + 1, H, t :: ts, t' :: ts', h => by
    simp only [fitRow] at h
    simp [fitRow_len n _ ts ts' h.2]
  | n + 1, H, [], _ :: _, h => by simp [fitRow] at h
  | n + 1, H, _ :: _, [], h => by simp [fitRow] at h
theorem fitRows_len : ∀ (n : Nat) (H : List AObj) (ts ts' : List (List T)), (fitRows n H ts ts').1 → ts.length = ts'.length
  | 0, H, ts, ts', h => by simp [fitRows] at h
  | n + 1, H, ts, ts', h => by
    unfold fitRows at h
    split at h
    · simp only at h; rw [h]
    · split at h
      · simp [fitRows_len n _ _ _ h.2]
      · simp at h
mutual
theorem fitT_sound : ∀ (n : Nat) (H : List AObj) (t t' : T) (u : Value) (F FH : FP), (fitT n H t t').1 → relT R w M t u F → relHeap R w M H M FH →
    ∃ F1 FH', relT R w [] t' u F1 ∧ relHeap R w M (fitT n H t t').2 M FH' ∧ leF (fa F1 FH') (fa F FH)
  | 0, H, t, t', u, F, FH, h, hr, hH => by simp [fitT] at h
  | n + 1, H, t, t', u, F, FH, h, hr, hH => by
    unfold fitT at h ⊢
    split at h
    · -- a list of one's own
      rename_i l off len sz' rows'
      split at h
      · rename_i sz rows hl
        obtain ⟨rfl, hle, hfit⟩ := h
        simp only [relT] at hr
        obtain ⟨rfl, L, a, cap, hL, rfl, hcap, hroom, ha⟩ := hr
        obtain ⟨G1, G2, rfl, hobj, hH0⟩ := relHeap_kill hH hl hL
        obtain ⟨hLs, hobj⟩ := hobj
        have hlen : ((rows.drop off).take len).length = len := by simp; omega
        have hlr := fitRows_len n (H.set l .dead) _ rows' hfit
        rw [hlen] at hlr
        by_cases hc0 : cap = 0
        · subst hc0
          have hl0 : len = 0 := by omega
          subst hl0
          obtain ⟨F1, FH', q1, q2, q4⟩ := fitRows_sound n (H.set l .dead) _ rows' #[] sz 0 fz G2 hfit (by simp [relTRows]) hH0
          have hrows' : rows' = [] := List.eq_nil_of_length_eq_zero hlr.symm
          subst hrows'
          refine ⟨fz, FH', ?_, q2, fun b => by have := q4 b; simp only [fa, fz] at this ⊢; omega⟩
          simp only [relT]
          exact ⟨⟨0, 0, sz, 0⟩, a, 0, rfl, rfl, by simp, by simp, .inl rfl, .inl ⟨by trivial, by trivial, by trivial⟩⟩
        · have ha2 := ha.resolve_left hc0
          rcases hobj with ⟨rfl, hr0, -⟩ | ⟨c, F', hB, hrm, hR, rfl⟩
          · omega
          obtain ⟨e', lo, hi, hblk, hfr, hext⟩ := hB
          have hsplit : rows = rows.take off ++ (((rows.drop off).take len) ++ rows.drop (off + len)) := by
            rw [← List.drop_drop, List.take_append_drop, List.take_append_drop]
          rw [hsplit, relTRows_append] at hR
          obtain ⟨Fa, Fb', g1, g2, rfl⟩ := hR
          rw [relTRows_append] at g2
          obtain ⟨Fs, Fc, g3, g4, rfl⟩ := g2
          have htk : (rows.take off).length = off := by simp; omega
          rw [htk] at g3
          obtain ⟨F1, FH', q1, q2, q4⟩ := fitRows_sound n (H.set l .dead) _ rows' c L.sz (L.o + off * L.sz) Fs G2 hfit g3 hH0
          refine ⟨fa (fd L.b) F1, FH', ?_, q2, fun b => by have := q4 b; simp only [fa, fz] at this ⊢; omega⟩
          simp only [relT]
          have hmul : (off + cap) * L.sz ≤ L.room * L.sz := Nat.mul_le_mul_right _ (by omega)
          rw [Nat.add_mul] at hmul
          exact ⟨⟨L.b, L.o + off * L.sz, L.sz, cap⟩, a, cap, hLs, by rw [← hlr], by omega, rfl, .inr ha2, .inr ⟨c, F1, ⟨e', lo, hi, hblk, hfr, by simp only; omega⟩, q1, rfl⟩⟩
      · simp at h
    · -- a variable of one's own
      rename_i l row'
      split at h
      · rename_i sz row hl
        obtain ⟨rfl, hfit⟩ := h
        simp only [relT] at hr
        obtain ⟨rfl, L, hL, rfl⟩ := hr
        obtain ⟨G1, G2, rfl, hobj, hH0⟩ := relHeap_kill hH hl hL
        obtain ⟨hLs, hobj⟩ := hobj
        rcases hobj with ⟨hr0, -⟩ | ⟨c, F', hB, hrm, hR, rfl⟩
        · simp at hr0
        simp only [relTRows] at hR
        obtain ⟨Fs, Fe, g0, g1, rfl, rfl⟩ := hR
        obtain ⟨F1, FH', q1, q2, q4⟩ := fitRow_sound n (H.set l .dead) row row' c L.o Fs G2 hfit g1 hH0
        refine ⟨fa (fd L.b) F1, FH', ?_, q2, fun b => by have := q4 b; simp only [fa, fz] at this ⊢; omega⟩
        simp only [relT]
        exact ⟨L, c, F1, by simp, hLs, by simpa using hrm, hB, q1, rfl⟩
      · simp at h
    · rename_i x sz rows'
      obtain ⟨hx, rfl⟩ := h
      simp only [relT] at hr
      obtain ⟨rfl, -, rfl⟩ := hr
      refine ⟨fz, FH, ?_, hH, fun b => by simp only [fa, fz]; omega⟩
      unfold isNil at hx
      split at hx <;> try (simp at hx; done)
      simp only [relT]
      exact ⟨⟨0, 0, sz, 0⟩, none, 0, rfl, rfl, by simp, by simp, .inl rfl, .inl ⟨by trivial, by trivial, by trivial⟩⟩
    · rename_i x sz rows'
      obtain ⟨hx, rfl⟩ := h
      simp only [relT] at hr
      obtain ⟨rfl, -, rfl⟩ := hr
      refine ⟨fz, FH, ?_, hH, fun b => by simp only [fa, fz]; omega⟩
      unfold isNil at hx
      split at hx <;> try (simp at hx; done)
      simp only [relT, relD]
      exact ⟨⟨none, 0, rfl, by simp, .inl trivial⟩, trivial⟩
    · obtain ⟨hcl, rfl⟩ := h
      exact ⟨F, FH, closedT_rel _ u F hcl hr, hH, fun b => Nat.le_refl _⟩
theorem fitRow_sound : ∀ (n : Nat) (H : List AObj) (ts ts' : List T) (c : Array Value) (o : Nat) (F FH : FP), (fitRow n H ts ts').1 → relTRow R w M c ts o F → relHeap R w M H M FH →
    ∃ F1 FH', relTRow R w [] c ts' o F1 ∧ relHeap R w M (fitRow n H ts ts').2 M FH' ∧ leF (fa F1 FH') (fa F FH)
  | 0, H, ts, ts', c, o, F, FH, h, hr, hH => by simp [fitRow] at h
  | n + 1, H, [], [], c, o, F, FH, h, hr, hH => by
    exact ⟨F, FH, by simpa [relTRow] using hr, by simpa [fitRow] using hH, fun b => Nat.le_refl _⟩
  | n + 1, H, t :: ts, t' :: ts', c, o, F, FH, h, hr, hH => by
    simp only [fitRow] at h ⊢
    simp only [relTRow] at hr
    obtain ⟨u, F1, F2, h1, h2, h3, rfl⟩ := hr
    obtain ⟨G1, GH, q1, q2, q4⟩ := fitT_sound n H t t' u F1 FH h.1 h2 hH
    obtain ⟨G2, GH2, p1, p2, p4⟩ := fitRow_sound n _ ts ts' c (o + 1) F2 GH h.2 h3 q2
    refine ⟨fa G1 G2, GH2, ?_, p2, fun b => by have := q4 b; have := p4 b; simp only [fa] at *; omega⟩
    simp only [relTRow]
    exact ⟨u, G1, G2, h1, q1, p1, rfl⟩
  | n + 1, H, [], _ :: _, c, o, F, FH, h, hr, hH => by simp [fitRow] at h
  | n + 1, H, _ :: _, [], c, o, F, FH, h, hr, hH => by simp [fitRow] at h
theorem fitRows_sound : ∀ (n : Nat) (H : List AObj) (rs rs' : List (List T)) (c : Array Value) (sz o : Nat) (F FH : FP), (fitRows n H rs rs').1 → relTRows R w M c sz rs o F → relHeap R w M H M FH →
    ∃ F1 FH', relTRows R w [] c sz rs' o F1 ∧ relHeap R w M (fitRows n H rs rs').2 M FH' ∧ leF (fa F1 FH') (fa F FH)
  | 0, H, rs, rs', c, sz, o, F, FH, h, hr, hH => by simp [fitRows] at h
  | n + 1, H, rs, rs', c, sz, o, F, FH, h, hr, hH => by
    unfold fitRows at h ⊢
    split at h
    · rename_i hcl
      rw [if_pos hcl]
      simp only at h
      subst h
      exact ⟨F, FH, closedRows_rel c sz rs o F hcl hr, hH, fun b => Nat.le_refl _⟩
    · rename_i hcl
      rw [if_neg hcl]
      split at h
      · rename_i r rs1 r' rs1'
        simp only at h ⊢
        simp only [relTRows] at hr
        obtain ⟨F1, F2, h0, h2, h3, rfl⟩ := hr
        obtain ⟨G1, GH, q1, q2, q4⟩ := fitRow_sound n H r r' c o F1 FH h.1 h2 hH
        obtain ⟨G2, GH2, p1, p2, p4⟩ := fitRows_sound n _ rs1 rs1' c sz (o + sz) F2 GH h.2 h3 q2
        have hlr := fitRow_len n H r r' h.1
        refine ⟨fa G1 G2, GH2, ?_, p2, fun b => by have := q4 b; have := p4 b; simp only [fa] at *; omega⟩
        simp only [relTRows]
        exact ⟨G1, G2, by omega, q1, p1, rfl⟩
      · simp at h
end
end Go.Proofs.YtgeoipplkjgnfaaDoor.E
