/- An abstract memory: trees that stand for values, what they stand for in a world, and what stays when the world grows. No condition beside those that stand in each statement. -/
import Derived.Test.YtgeoipplkjgnfaaDoorEng0
set_option linter.unusedVariables false
set_option linter.unusedSimpArgs false
namespace Go.Proofs.YtgeoipplkjgnfaaDoor.E

/-- What is read alone. -/
inductive D where
  | v (x : Value)
  | l (sz : Nat) (rows : List (List D))
/-- A cell: a plain value, a list that is read alone, a list of one's own, a named list or place, a place that is read alone, a variable of one's own, a function. -/
inductive T where
  | v (x : Value)
  | ro (sz : Nat) (rows : List (List D))
  | own (sz : Nat) (rows : List (List T))
  | ref (l off len : Nat)
  | ptr (l row col : Nat)
  | rp (row : List D) (col : Nat)
  | box (row : List T)
  | fn (f : FuncId) (cap : List T)
structure Loc where
  b : Nat
  o : Nat
  sz : Nat
  room : Nat

/-- How often each block is owned. -/
abbrev FP := Nat → Nat
def fz : FP := fun _ => 0
def fd (b : Nat) : FP := fun x => if x = b then 1 else 0
def fa (F G : FP) : FP := fun x => F x + G x
theorem fa_z (F : FP) : fa F fz = F := rfl
theorem z_fa (F : FP) : fa fz F = F := by funext x; simp [fa, fz]
theorem fa_assoc (F G K : FP) : fa (fa F G) K = fa F (fa G K) := by funext x; simp [fa, Nat.add_assoc]
theorem fa_comm (F G : FP) : fa F G = fa G F := by funext x; simp [fa, Nat.add_comm]
theorem fd_self (b : Nat) : fd b b = 1 := by simp [fd]

/-- A value of one cell that holds no place. -/
def scal : Value → Bool
  | .bool _ | .int _ _ | .string _ | .pointer none | .slice none 0 0 | .nilFunc | .nilIface | .map none => true
  | _ => false

mutual
def relD (R : Nat → Prop) (w : World) : D → Value → Prop
  | .v x, u => u = x ∧ scal x = true
  | .l sz rows, u => ∃ a cap, u = .slice a rows.length cap ∧ rows.length ≤ cap ∧ (rows = [] ∨ ∃ b o c e q, a = some ⟨b, o, none⟩ ∧ R b ∧ w.heap[b]? = some (.cells c e q) ∧ relDRows R w c sz rows o)
def relDRow (R : Nat → Prop) (w : World) (c : Array Value) : List D → Nat → Prop
  | [], _ => True
  | d :: ds, o => (∃ u, c[o]? = some u ∧ relD R w d u) ∧ relDRow R w c ds (o + 1)
def relDRows (R : Nat → Prop) (w : World) (c : Array Value) (sz : Nat) : List (List D) → Nat → Prop
  | [], _ => True
  | r :: rs, o => r.length = sz ∧ relDRow R w c r o ∧ relDRows R w c sz rs (o + sz)
end

/-- A row of cells that may be written. -/
def Blk (w : World) (L : Loc) (c : Array Value) : Prop := ∃ e lo hi, w.heap[L.b]? = some (.cells c e (lo, hi)) ∧ (hi ≤ lo ∨ c.size ≤ lo) ∧ L.o + L.room * L.sz ≤ c.size

mutual
def relT (R : Nat → Prop) (w : World) (M : List Loc) : T → Value → FP → Prop
  | .v x, u, F => u = x ∧ scal x = true ∧ F = fz
  | .ro sz rows, u, F => relD R w (.l sz rows) u ∧ F = fz
  | .own sz rows, u, F => ∃ (L : Loc) (a : Option Addr) (cap : Nat), L.sz = sz ∧ u = .slice a rows.length cap ∧ rows.length ≤ cap ∧ cap = L.room ∧ (cap = 0 ∨ a = some ⟨L.b, L.o, none⟩) ∧
      ((rows = [] ∧ L.room = 0 ∧ F = fz) ∨ ∃ c F', Blk w L c ∧ relTRows R w M c L.sz rows L.o F' ∧ F = fa (fd L.b) F')
  | .ref l off len, u, F => F = fz ∧ ∃ (L : Loc) (a : Option Addr) (cap : Nat), M[l]? = some L ∧ u = .slice a len cap ∧ len ≤ cap ∧ off + cap = L.room ∧ (cap = 0 ∨ a = some ⟨L.b, L.o + off * L.sz, none⟩)
  | .ptr l row col, u, F => F = fz ∧ ∃ L : Loc, M[l]? = some L ∧ u = .pointer (some ⟨L.b, L.o + row * L.sz + col, none⟩)
  | .rp row col, u, F => F = fz ∧ ∃ b o c e q, u = .pointer (some ⟨b, o + col, none⟩) ∧ R b ∧ w.heap[b]? = some (.cells c e q) ∧ relDRow R w c row o
  | .box row, u, F => ∃ (L : Loc) (c : Array Value) (F' : FP), u = .pointer (some ⟨L.b, L.o, none⟩) ∧ L.sz = row.length ∧ 1 ≤ L.room ∧ Blk w L c ∧ relTRow R w M c row L.o F' ∧ F = fa (fd L.b) F'
  | .fn f cap, u, F => F = fz ∧ ∃ c : Array Value, u = .func (.func f) #[] c ∧ c.size = cap.length ∧ relTRow R w M c cap 0 fz
def relTRow (R : Nat → Prop) (w : World) (M : List Loc) (c : Array Value) : List T → Nat → FP → Prop
  | [], _, F => F = fz
  | t :: ts, o, F => ∃ u F1 F2, c[o]? = some u ∧ relT R w M t u F1 ∧ relTRow R w M c ts (o + 1) F2 ∧ F = fa F1 F2
def relTRows (R : Nat → Prop) (w : World) (M : List Loc) (c : Array Value) (sz : Nat) : List (List T) → Nat → FP → Prop
  | [], _, F => F = fz
  | r :: rs, o, F => ∃ F1 F2, r.length = sz ∧ relTRow R w M c r o F1 ∧ relTRows R w M c sz rs (o + sz) F2 ∧ F = fa F1 F2
end

/-! ### What stays -/
section mono
variable {R R' : Nat → Prop} {w w' : World}
mutual
theorem relD_mono (hR : ∀ b, R b → R' b) (hw : ∀ b, R b → w'.heap[b]? = w.heap[b]?) : ∀ (d : D) (u : Value), relD R w d u → relD R' w' d u
  | .v x, u, h => by simpa [relD] using h
  | .l sz rows, u, h => by
    simp only [relD] at h ⊢
    obtain ⟨a, cap, h1, h2, h3⟩ := h
    refine ⟨a, cap, h1, h2, ?_⟩
    rcases h3 with h3 | ⟨b, o, c, e, q, h4, h5, h6, h7⟩
    · exact .inl h3
    · exact .inr ⟨b, o, c, e, q, h4, hR b h5, (hw b h5).trans h6, relDRows_mono hR hw c sz rows o h7⟩
theorem relDRow_mono (hR : ∀ b, R b → R' b) (hw : ∀ b, R b → w'.heap[b]? = w.heap[b]?) (c : Array Value) : ∀ (ds : List D) (o : Nat), relDRow R w c ds o → relDRow R' w' c ds o
  | [], o, h => by simp [relDRow]
  | d :: ds, o, h => by
    simp only [relDRow] at h ⊢
    obtain ⟨⟨u, h1, h2⟩, h3⟩ := h
    exact ⟨⟨u, h1, relD_mono hR hw d u h2⟩, relDRow_mono hR hw c ds (o + 1) h3⟩
theorem relDRows_mono (hR : ∀ b, R b → R' b) (hw : ∀ b, R b → w'.heap[b]? = w.heap[b]?) (c : Array Value) (sz : Nat) : ∀ (rs : List (List D)) (o : Nat), relDRows R w c sz rs o → relDRows R' w' c sz rs o
  | [], o, h => by simp [relDRows]
  | r :: rs, o, h => by
    simp only [relDRows] at h ⊢
    exact ⟨h.1, relDRow_mono hR hw c r o h.2.1, relDRows_mono hR hw c sz rs (o + sz) h.2.2⟩
end
variable {M M' : List Loc}
theorem Blk.mono {L : Loc} {c : Array Value} (hw : w'.heap[L.b]? = w.heap[L.b]?) (h : Blk w L c) : Blk w' L c := by
  obtain ⟨e, lo, hi, h1, h2⟩ := h
  exact ⟨e, lo, hi, hw.trans h1, h2⟩
mutual
theorem relT_mono (hR : ∀ b, R b → R' b) (hM : M <+: M') : ∀ (t : T) (u : Value) (F : FP), (∀ b, R b ∨ 1 ≤ F b → w'.heap[b]? = w.heap[b]?) → relT R w M t u F → relT R' w' M' t u F
  | .v x, u, F, hw, h => by simpa [relT] using h
  | .ro sz rows, u, F, hw, h => by
    simp only [relT] at h ⊢
    exact ⟨relD_mono hR (fun b hb => hw b (.inl hb)) _ _ h.1, h.2⟩
  | .own sz rows, u, F, hw, h => by
    simp only [relT] at h ⊢
    obtain ⟨L, a, cap, h0, h1, h2, h3, h4, h5⟩ := h
    refine ⟨L, a, cap, h0, h1, h2, h3, h4, ?_⟩
    rcases h5 with h5 | ⟨c, F', h6, h7, rfl⟩
    · exact .inl h5
    · exact .inr ⟨c, F', h6.mono (hw L.b (.inr (by simp [fa, fd]))), relTRows_mono hR hM c L.sz rows L.o F' (fun b hb => hw b (hb.imp_right fun h => by simp only [fa]; omega)) h7, rfl⟩
  | .ref l off len, u, F, hw, h => by
    simp only [relT] at h ⊢
    obtain ⟨h0, L, a, cap, h1, h2⟩ := h
    exact ⟨h0, L, a, cap, by obtain ⟨k, rfl⟩ := hM; rw [List.getElem?_append_left (List.getElem?_eq_some_iff.1 h1).1]; exact h1, h2⟩
  | .ptr l row col, u, F, hw, h => by
    simp only [relT] at h ⊢
    obtain ⟨h0, L, h1, h2⟩ := h
    exact ⟨h0, L, by obtain ⟨k, rfl⟩ := hM; rw [List.getElem?_append_left (List.getElem?_eq_some_iff.1 h1).1]; exact h1, h2⟩
  | .rp row col, u, F, hw, h => by
    simp only [relT] at h ⊢
    obtain ⟨h0, b, o, c, e, q, h1, h2, h3, h4⟩ := h
    exact ⟨h0, b, o, c, e, q, h1, hR b h2, (hw b (.inl h2)).trans h3, relDRow_mono hR (fun b hb => hw b (.inl hb)) c row o h4⟩
  | .box row, u, F, hw, h => by
    simp only [relT] at h ⊢
    obtain ⟨L, c, F', h1, h2, h3, h4, h5, rfl⟩ := h
    exact ⟨L, c, F', h1, h2, h3, h4.mono (hw L.b (.inr (by simp [fa, fd]))), relTRow_mono hR hM c row L.o F' (fun b hb => hw b (hb.imp_right fun h => by simp only [fa]; omega)) h5, rfl⟩
  | .fn f cap, u, F, hw, h => by
    simp only [relT] at h ⊢
    obtain ⟨h0, c, h1, h2, h3⟩ := h
    exact ⟨h0, c, h1, h2, relTRow_mono hR hM c cap 0 fz (fun b hb => hw b (.inl (hb.resolve_right (by simp [fz])))) h3⟩
theorem relTRow_mono (hR : ∀ b, R b → R' b) (hM : M <+: M') (c : Array Value) : ∀ (ts : List T) (o : Nat) (F : FP), (∀ b, R b ∨ 1 ≤ F b → w'.heap[b]? = w.heap[b]?) → relTRow R w M c ts o F → relTRow R' w' M' c ts o F
  | [], o, F, hw, h => by simpa [relTRow] using h
  | t :: ts, o, F, hw, h => by
    simp only [relTRow] at h ⊢
    obtain ⟨u, F1, F2, h1, h2, h3, rfl⟩ := h
    exact ⟨u, F1, F2, h1, relT_mono hR hM t u F1 (fun b hb => hw b (hb.imp_right fun h => by simp only [fa]; omega)) h2, relTRow_mono hR hM c ts (o + 1) F2 (fun b hb => hw b (hb.imp_right fun h => by simp only [fa]; omega)) h3, rfl⟩
theorem relTRows_mono (hR : ∀ b, R b → R' b) (hM : M <+: M') (c : Array Value) (sz : Nat) : ∀ (rs : List (List T)) (o : Nat) (F : FP), (∀ b, R b ∨ 1 ≤ F b → w'.heap[b]? = w.heap[b]?) → relTRows R w M c sz rs o F → relTRows R' w' M' c sz rs o F
  | [], o, F, hw, h => by simpa [relTRows] using h
  | r :: rs, o, F, hw, h => by
    simp only [relTRows] at h ⊢
    obtain ⟨F1, F2, h0, h2, h3, rfl⟩ := h
    exact ⟨F1, F2, h0, relTRow_mono hR hM c r o F1 (fun b hb => hw b (hb.imp_right fun h => by simp only [fa]; omega)) h2, relTRows_mono hR hM c sz rs (o + sz) F2 (fun b hb => hw b (hb.imp_right fun h => by simp only [fa]; omega)) h3, rfl⟩
end
end mono
end Go.Proofs.YtgeoipplkjgnfaaDoor.E
