/- A part of what stands under the laws of this seat: an abstract evaluator that is proved sound, and contracts of functions by it. No condition beside those that stand in each statement. -/
import Derived.Calls
import Derived.Below
import Derived.Laws.Append
import Derived.ChangeKeysEq
import Derived.Laws.Tables
import Derived.Great.BuildSlice
import Derived.Laws.IdiomStrings
import Derived.Laws.Slices
import Derived.Laws.AppendOwn
import Derived.ArgAppend
import Derived.Laws.MakeOwn
import Derived.Laws.BytesString
import Derived.Scope
set_option linter.unusedVariables false
set_option linter.unusedSimpArgs false
section
namespace Go.Proofs.YtejnpiielcbkkaaGreat.E
def Base (_ : World) : Prop := True
def Inv (R : Nat → Prop) (w : World) : Prop := ∀ w' : World, w.heap.size ≤ w'.heap.size → (∀ b, R b → w'.heap[b]? = w.heap[b]?) → Base w'
theorem Inv.mono {R R' : Nat → Prop} {w w' : World} (h : Inv R w) (hR : ∀ b, R b → R' b) (hs : w.heap.size ≤ w'.heap.size) (hh : ∀ b, R b → w'.heap[b]? = w.heap[b]?) : Inv R' w' :=
 fun w2 h2 h3 => h w2 (Nat.le_trans hs h2) fun b hb => (h3 b (hR b hb)).trans (hh b hb)
theorem inv_all (R : Nat → Prop) (w : World) : Inv R w := fun _ _ _ => trivial
end Go.Proofs.YtejnpiielcbkkaaGreat.E
end
section
namespace Go.Proofs.YtejnpiielcbkkaaGreat.E
/-- What is read alone. -/
inductive D where
  | v (x : Value)
  | l (sz : Nat) (rows : List (List D))
/-- A cell: a plain value, a list that is read alone, a list of one's own, a named list or place, a place that is read alone, a variable of one's own, a function. -/
inductive T where
  | v (x : Value)
  | ro (sz : Nat) (rows : List (List D))
  | own (sz : Nat) (rows : List (List T))
  | ref (l off len : Nat)
  | ptr (l row col : Nat)
  | rp (row : List D) (col : Nat)
  | box (row : List T)
  | fn (bd : Bool) (f : FuncId) (cap : List T)
structure Loc where
  b : Nat
  o : Nat
  sz : Nat
  room : Nat
/-- How often each block is owned. -/
abbrev FP := Nat → Nat
def fz : FP := fun _ => 0
def fd (b : Nat) : FP := fun x => if x = b then 1 else 0
def fa (F G : FP) : FP := fun x => F x + G x
theorem fa_z (F : FP) : fa F fz = F := rfl
theorem z_fa (F : FP) : fa fz F = F := by funext x; simp [fa, fz]
theorem fa_assoc (F G K : FP) : fa (fa F G) K = fa F (fa G K) := by funext x; simp [fa, Nat.add_assoc]
theorem fa_comm (F G : FP) : fa F G = fa G F := by funext x; simp [fa, Nat.add_comm]
theorem fd_self (b : Nat) : fd b b = 1 := by simp [fd]
/-- A value of one cell that holds no place. -/
def scal : Value → Bool
 | .bool _ | .int _ _ | .string _ | .pointer none | .slice none 0 0 | .nilFunc | .nilIface | .map none => true
 | _ => false
/-- The value of a function that holds what it captured ('false'), or what it is bound to ('true'). -/
def fnV (bd : Bool) (f : FuncId) (c : Array Value) : Value := match bd with
 | false => .func (.func f) #[] c
 | true => .func (.func f) c #[]
mutual
def relD (R : Nat → Prop) (w : World) : D → Value → Prop
 | .v x, u => u = x ∧ scal x = true
 | .l sz rows, u => ∃ a cap, u = .slice a rows.length cap ∧ rows.length ≤ cap ∧ (rows = [] ∨ ∃ b o c e q, a = some ⟨b, o, none⟩ ∧ R b ∧ w.heap[b]? = some (.cells c e q) ∧ relDRows R w c sz rows o)
def relDRow (R : Nat → Prop) (w : World) (c : Array Value) : List D → Nat → Prop
 | [], _ => True
 | d :: ds, o => (∃ u, c[o]? = some u ∧ relD R w d u) ∧ relDRow R w c ds (o + 1)
def relDRows (R : Nat → Prop) (w : World) (c : Array Value) (sz : Nat) : List (List D) → Nat → Prop
 | [], _ => True
 | r :: rs, o => r.length = sz ∧ relDRow R w c r o ∧ relDRows R w c sz rs (o + sz)
end
/-- A row of cells that may be written. -/
def Blk (w : World) (L : Loc) (c : Array Value) : Prop := ∃ e lo hi, w.heap[L.b]? = some (.cells c e (lo, hi)) ∧ (hi ≤ lo ∨ c.size ≤ lo) ∧ L.o + L.room * L.sz ≤ c.size
mutual
def relT (R : Nat → Prop) (w : World) (M : List Loc) : T → Value → FP → Prop
 | .v x, u, F => u = x ∧ scal x = true ∧ F = fz
 | .ro sz rows, u, F => relD R w (.l sz rows) u ∧ F = fz
 | .own sz rows, u, F => ∃ (L : Loc) (a : Option Addr) (cap : Nat), L.sz = sz ∧ u = .slice a rows.length cap ∧ rows.length ≤ cap ∧ cap = L.room ∧ (cap = 0 ∨ a = some ⟨L.b, L.o, none⟩) ∧
   ((rows = [] ∧ L.room = 0 ∧ F = fz) ∨ ∃ c F', Blk w L c ∧ relTRows R w M c L.sz rows L.o F' ∧ F = fa (fd L.b) F')
 | .ref l off len, u, F => F = fz ∧ ∃ (L : Loc) (a : Option Addr) (cap : Nat), M[l]? = some L ∧ u = .slice a len cap ∧ len ≤ cap ∧ off + cap = L.room ∧ (cap = 0 ∨ a = some ⟨L.b, L.o + off * L.sz, none⟩)
 | .ptr l row col, u, F => F = fz ∧ ∃ L : Loc, M[l]? = some L ∧ u = .pointer (some ⟨L.b, L.o + row * L.sz + col, none⟩)
 | .rp row col, u, F => F = fz ∧ ∃ b o c e q, u = .pointer (some ⟨b, o + col, none⟩) ∧ R b ∧ w.heap[b]? = some (.cells c e q) ∧ relDRow R w c row o
 | .box row, u, F => ∃ (L : Loc) (c : Array Value) (F' : FP), u = .pointer (some ⟨L.b, L.o, none⟩) ∧ L.sz = row.length ∧ 1 ≤ L.room ∧ Blk w L c ∧ relTRow R w M c row L.o F' ∧ F = fa (fd L.b) F'
 | .fn bd f cap, u, F => F = fz ∧ ∃ c : Array Value, u = fnV bd f c ∧ c.size = cap.length ∧ relTRow R w M c cap 0 fz
def relTRow (R : Nat → Prop) (w : World) (M : List Loc) (c : Array Value) : List T → Nat → FP → Prop
 | [], _, F => F = fz
 | t :: ts, o, F => ∃ u F1 F2, c[o]? = some u ∧ relT R w M t u F1 ∧ relTRow R w M c ts (o + 1) F2 ∧ F = fa F1 F2
def relTRows (R : Nat → Prop) (w : World) (M : List Loc) (c : Array Value) (sz : Nat) : List (List T) → Nat → FP → Prop
 | [], _, F => F = fz
 | r :: rs, o, F => ∃ F1 F2, r.length = sz ∧ relTRow R w M c r o F1 ∧ relTRows R w M c sz rs (o + sz) F2 ∧ F = fa F1 F2
end
/-! ### What stays -/
section mono
variable {R R' : Nat → Prop} {w w' : World}
mutual
theorem relD_mono (hR : ∀ b, R b → R' b) (hw : ∀ b, R b → w'.heap[b]? = w.heap[b]?) : ∀ (d : D) (u : Value), relD R w d u → relD R' w' d u
 | .v x, u, h => by simpa [relD] using h
 | .l sz rows, u, h => by
  simp only [relD] at h ⊢
  obtain ⟨a, cap, h1, h2, h3⟩ := h
  refine ⟨a, cap, h1, h2, ?_⟩
  rcases h3 with h3 | ⟨b, o, c, e, q, h4, h5, h6, h7⟩
  ·exact .inl h3
  ·exact .inr ⟨b, o, c, e, q, h4, hR b h5, (hw b h5).trans h6, relDRows_mono hR hw c sz rows o h7⟩
theorem relDRow_mono (hR : ∀ b, R b → R' b) (hw : ∀ b, R b → w'.heap[b]? = w.heap[b]?) (c : Array Value) : ∀ (ds : List D) (o : Nat), relDRow R w c ds o → relDRow R' w' c ds o
 | [], o, h => by simp [relDRow]
 | d :: ds, o, h => by
  simp only [relDRow] at h ⊢
  obtain ⟨⟨u, h1, h2⟩, h3⟩ := h
  exact ⟨⟨u, h1, relD_mono hR hw d u h2⟩, relDRow_mono hR hw c ds (o + 1) h3⟩
theorem relDRows_mono (hR : ∀ b, R b → R' b) (hw : ∀ b, R b → w'.heap[b]? = w.heap[b]?) (c : Array Value) (sz : Nat) : ∀ (rs : List (List D)) (o : Nat), relDRows R w c sz rs o → relDRows R' w' c sz rs o
 | [], o, h => by simp [relDRows]
 | r :: rs, o, h => by
  simp only [relDRows] at h ⊢
  exact ⟨h.1, relDRow_mono hR hw c r o h.2.1, relDRows_mono hR hw c sz rs (o + sz) h.2.2⟩
end
variable {M M' : List Loc}
theorem Blk.mono {L : Loc} {c : Array Value} (hw : w'.heap[L.b]? = w.heap[L.b]?) (h : Blk w L c) : Blk w' L c := by
 obtain ⟨e, lo, hi, h1, h2⟩ := h
 exact ⟨e, lo, hi, hw.trans h1, h2⟩
mutual
theorem relT_mono (hR : ∀ b, R b → R' b) (hM : M <+: M') : ∀ (t : T) (u : Value) (F : FP), (∀ b, R b ∨ 1 ≤ F b → w'.heap[b]? = w.heap[b]?) → relT R w M t u F → relT R' w' M' t u F
 | .v x, u, F, hw, h => by simpa [relT] using h
 | .ro sz rows, u, F, hw, h => by
  simp only [relT] at h ⊢
  exact ⟨relD_mono hR (fun b hb => hw b (.inl hb)) _ _ h.1, h.2⟩
 | .own sz rows, u, F, hw, h => by
  simp only [relT] at h ⊢
  obtain ⟨L, a, cap, h0, h1, h2, h3, h4, h5⟩ := h
  refine ⟨L, a, cap, h0, h1, h2, h3, h4, ?_⟩
  rcases h5 with h5 | ⟨c, F', h6, h7, rfl⟩
  ·exact .inl h5
  ·exact .inr ⟨c, F', h6.mono (hw L.b (.inr (by simp [fa, fd]))), relTRows_mono hR hM c L.sz rows L.o F' (fun b hb => hw b (hb.imp_right fun h => by simp only [fa]; omega)) h7, rfl⟩
 | .ref l off len, u, F, hw, h => by
  simp only [relT] at h ⊢
  obtain ⟨h0, L, a, cap, h1, h2⟩ := h
  exact ⟨h0, L, a, cap, by obtain ⟨k, rfl⟩ := hM; rw [List.getElem?_append_left (List.getElem?_eq_some_iff.1 h1).1]; exact h1, h2⟩
 | .ptr l row col, u, F, hw, h => by
  simp only [relT] at h ⊢
  obtain ⟨h0, L, h1, h2⟩ := h
  exact ⟨h0, L, by obtain ⟨k, rfl⟩ := hM; rw [List.getElem?_append_left (List.getElem?_eq_some_iff.1 h1).1]; exact h1, h2⟩
 | .rp row col, u, F, hw, h => by
  simp only [relT] at h ⊢
  obtain ⟨h0, b, o, c, e, q, h1, h2, h3, h4⟩ := h
  exact ⟨h0, b, o, c, e, q, h1, hR b h2, (hw b (.inl h2)).trans h3, relDRow_mono hR (fun b hb => hw b (.inl hb)) c row o h4⟩
 | .box row, u, F, hw, h => by
  simp only [relT] at h ⊢
  obtain ⟨L, c, F', h1, h2, h3, h4, h5, rfl⟩ := h
  exact ⟨L, c, F', h1, h2, h3, h4.mono (hw L.b (.inr (by simp [fa, fd]))), relTRow_mono hR hM c row L.o F' (fun b hb => hw b (hb.imp_right fun h => by simp only [fa]; omega)) h5, rfl⟩
 | .fn bd f cap, u, F, hw, h => by
  simp only [relT] at h ⊢
  obtain ⟨h0, c, h1, h2, h3⟩ := h
  exact ⟨h0, c, h1, h2, relTRow_mono hR hM c cap 0 fz (fun b hb => hw b (.inl (hb.resolve_right (by simp [fz])))) h3⟩
theorem relTRow_mono (hR : ∀ b, R b → R' b) (hM : M <+: M') (c : Array Value) : ∀ (ts : List T) (o : Nat) (F : FP), (∀ b, R b ∨ 1 ≤ F b → w'.heap[b]? = w.heap[b]?) → relTRow R w M c ts o F → relTRow R' w' M' c ts o F
 | [], o, F, hw, h => by simpa [relTRow] using h
 | t :: ts, o, F, hw, h => by
  simp only [relTRow] at h ⊢
  obtain ⟨u, F1, F2, h1, h2, h3, rfl⟩ := h
  exact ⟨u, F1, F2, h1, relT_mono hR hM t u F1 (fun b hb => hw b (hb.imp_right fun h => by simp only [fa]; omega)) h2, relTRow_mono hR hM c ts (o + 1) F2 (fun b hb => hw b (hb.imp_right fun h => by simp only [fa]; omega)) h3, rfl⟩
theorem relTRows_mono (hR : ∀ b, R b → R' b) (hM : M <+: M') (c : Array Value) (sz : Nat) : ∀ (rs : List (List T)) (o : Nat) (F : FP), (∀ b, R b ∨ 1 ≤ F b → w'.heap[b]? = w.heap[b]?) → relTRows R w M c sz rs o F → relTRows R' w' M' c sz rs o F
 | [], o, F, hw, h => by simpa [relTRows] using h
 | r :: rs, o, F, hw, h => by
  simp only [relTRows] at h ⊢
  obtain ⟨F1, F2, h0, h2, h3, rfl⟩ := h
  exact ⟨F1, F2, h0, relTRow_mono hR hM c r o F1 (fun b hb => hw b (hb.imp_right fun h => by simp only [fa]; omega)) h2, relTRows_mono hR hM c sz rs (o + sz) F2 (fun b hb => hw b (hb.imp_right fun h => by simp only [fa]; omega)) h3, rfl⟩
end
end mono
end Go.Proofs.YtejnpiielcbkkaaGreat.E
end
section
namespace Go.Proofs.YtejnpiielcbkkaaGreat.E
variable {R R' : Nat → Prop} {w w' : World} {M M' : List Loc} {c : Array Value}
/-! ### What is read -/
theorem relDRows_get {sz : Nat} : ∀ {rs : List (List D)} {o i : Nat} {r : List D}, relDRows R w c sz rs o → rs[i]? = some r → r.length = sz ∧ relDRow R w c r (o + i * sz)
 | [], o, i, r, _, h => by simp at h
 | r :: rs, o, 0, r', h, e => by
  simp only [relDRows] at h
  simp only [List.getElem?_cons_zero, Option.some.injEq] at e
  subst e
  simpa using ⟨h.1, h.2.1⟩
 | r :: rs, o, i + 1, r', h, e => by
  simp only [relDRows] at h
  simp only [List.getElem?_cons_succ] at e
  obtain ⟨h1, h2⟩ := relDRows_get h.2.2 e
  exact ⟨h1, by rw [Nat.succ_mul, ← Nat.add_assoc, Nat.add_right_comm]; exact h2⟩
theorem relDRows_drop {sz : Nat} : ∀ {rs : List (List D)} {o : Nat} (k : Nat), relDRows R w c sz rs o → relDRows R w c sz (rs.drop k) (o + k * sz)
 | rs, o, 0, h => by simpa using h
 | [], o, k + 1, h => by simp [relDRows]
 | r :: rs, o, k + 1, h => by
  simp only [relDRows] at h
  rw [List.drop_succ_cons, Nat.succ_mul, ← Nat.add_assoc, Nat.add_right_comm]
  exact relDRows_drop k h.2.2
theorem relDRows_take {sz : Nat} : ∀ {rs : List (List D)} {o : Nat} (k : Nat), relDRows R w c sz rs o → relDRows R w c sz (rs.take k) o
 | rs, o, 0, h => by simp [relDRows]
 | [], o, k + 1, h => by simp [relDRows]
 | r :: rs, o, k + 1, h => by
  simp only [relDRows, List.take_succ_cons] at h ⊢
  exact ⟨h.1, h.2.1, relDRows_take k h.2.2⟩
/-! ### Cells that are changed -/
/-- Two rows of cells are the same but for n cells from o on. -/
def SameBut (c c' : Array Value) (o n : Nat) : Prop := c'.size = c.size ∧ ∀ i, i < o ∨ o + n ≤ i → c'[i]? = c[i]?
theorem SameBut.refl (c : Array Value) (o n : Nat) : SameBut c c o n := ⟨rfl, fun _ _ => rfl⟩
theorem relTRow_same {c' : Array Value} : ∀ {ts : List T} {o : Nat} {F : FP}, (∀ i, o ≤ i → i < o + ts.length → c'[i]? = c[i]?) → relTRow R w M c ts o F → relTRow R w M c' ts o F
 | [], o, F, hs, h => by simpa [relTRow] using h
 | t :: ts, o, F, hs, h => by
  simp only [relTRow] at h ⊢
  obtain ⟨u, F1, F2, h1, h2, h3, h4⟩ := h
  exact ⟨u, F1, F2, (hs o (Nat.le_refl _) (by simp)).trans h1, h2, relTRow_same (fun i hi hl => hs i (by omega) (by simp at hl ⊢; omega)) h3, h4⟩
theorem relTRows_same {c' : Array Value} {sz : Nat} : ∀ {rs : List (List T)} {o : Nat} {F : FP}, (∀ i, o ≤ i → i < o + rs.length * sz → c'[i]? = c[i]?) → relTRows R w M c sz rs o F → relTRows R w M c' sz rs o F
 | [], o, F, hs, h => by simpa [relTRows] using h
 | r :: rs, o, F, hs, h => by
  simp only [relTRows] at h ⊢
  obtain ⟨F1, F2, h0, h1, h2, h3⟩ := h
  refine ⟨F1, F2, h0, relTRow_same (fun i hi hl => hs i hi ?_) h1, relTRows_same (fun i hi hl => hs i (by omega) ?_) h2, h3⟩
  ·rw [List.length_cons, Nat.succ_mul]; have := Nat.zero_le (rs.length * sz); omega
  ·rw [List.length_cons, Nat.succ_mul]; omega
theorem relTRow_len : ∀ {ts : List T} {o : Nat} {F : FP}, relTRow R w M c ts o F → ts = [] ∨ o + ts.length ≤ c.size
 | [], o, F, h => .inl rfl
 | t :: ts, o, F, h => by
  simp only [relTRow] at h
  obtain ⟨u, F1, F2, h1, h2, h3, h4⟩ := h
  have h5 := (Array.getElem?_eq_some_iff.1 h1).1
  right
  rcases relTRow_len h3 with h | h
  ·subst h; simp; omega
  ·simp; omega
/-- A row taken out and put back. -/
theorem relTRows_get {sz : Nat} : ∀ {rs : List (List T)} {o i : Nat} {F : FP} {r : List T}, relTRows R w M c sz rs o F → rs[i]? = some r →
  ∃ F1 F2, F = fa F1 F2 ∧ r.length = sz ∧ relTRow R w M c r (o + i * sz) F1 ∧
   ∀ (M' : List Loc) (c' : Array Value) (r' : List T) (F1' : FP), M <+: M' → SameBut c c' (o + i * sz) sz → r'.length = sz → relTRow R w M' c' r' (o + i * sz) F1' → relTRows R w M' c' sz (rs.set i r') o (fa F1' F2)
 | [], o, i, F, r, _, h => by simp at h
 | r :: rs, o, 0, F, r', h, e => by
  simp only [relTRows] at h
  simp only [List.getElem?_cons_zero, Option.some.injEq] at e
  subst e
  obtain ⟨F1, F2, h0, h1, h2, h3⟩ := h
  refine ⟨F1, F2, h3, h0, by simpa using h1, fun M' c' r' F1' hM hs hl h => ?_⟩
  simp only [List.set_cons_zero, relTRows]
  rw [Nat.zero_mul, Nat.add_zero] at hs h
  exact ⟨F1', F2, hl, h, relTRows_mono (fun _ h => h) hM c' sz rs _ F2 (fun _ _ => rfl) (relTRows_same (fun i hi hl => hs.2 i (.inr hi)) h2), rfl⟩
 | r :: rs, o, i + 1, F, r', h, e => by
  simp only [relTRows] at h
  simp only [List.getElem?_cons_succ] at e
  obtain ⟨F1, F2, h0, h1, h2, h3⟩ := h
  obtain ⟨G1, G2, g1, g2, g3, g4⟩ := relTRows_get h2 e
  have ea : o + (i + 1) * sz = o + sz + i * sz := by rw [Nat.succ_mul]; omega
  refine ⟨G1, fa F1 G2, by rw [h3, g1, ← fa_assoc, fa_comm F1 G1, fa_assoc], g2, by rw [ea]; exact g3, fun M' c' r' F1' hM hs hl h => ?_⟩
  rw [ea] at hs h
  simp only [List.set_cons_succ, relTRows]
  refine ⟨F1, fa F1' G2, h0, relTRow_mono (fun _ h => h) hM c' r o F1 (fun _ _ => rfl) (relTRow_same (fun j hj hl => hs.2 j (.inl ?_)) h1), g4 M' c' r' F1' hM hs hl h, by rw [← fa_assoc, fa_comm F1' F1, fa_assoc]⟩
  rw [h0] at hl
  have := Nat.zero_le (i * sz)
  omega
theorem relTRow_append : ∀ {ts us : List T} {o : Nat} {F : FP}, relTRow R w M c (ts ++ us) o F ↔ ∃ F1 F2, relTRow R w M c ts o F1 ∧ relTRow R w M c us (o + ts.length) F2 ∧ F = fa F1 F2
 | [], us, o, F => by
  simp only [List.nil_append, relTRow, List.length_nil, Nat.add_zero]
  exact ⟨fun h => ⟨fz, F, rfl, h, (z_fa F).symm⟩, fun ⟨F1, F2, h1, h2, h3⟩ => by subst h1; rw [z_fa] at h3; exact h3 ▸ h2⟩
 | t :: ts, us, o, F => by
  simp only [List.cons_append, relTRow, List.length_cons, relTRow_append]
  have ea : o + 1 + ts.length = o + (ts.length + 1) := by omega
  constructor
  ·rintro ⟨u, F1, F2, h1, h2, ⟨G1, G2, g1, g2, rfl⟩, rfl⟩
   exact ⟨fa F1 G1, G2, ⟨u, F1, G1, h1, h2, g1, rfl⟩, ea ▸ g2, (fa_assoc _ _ _).symm⟩
  ·rintro ⟨F1, F2, ⟨u, G1, G2, g1, g2, g3, rfl⟩, h2, rfl⟩
   exact ⟨u, G1, fa G2 F2, g1, g2, ⟨G2, F2, g3, ea ▸ h2, rfl⟩, fa_assoc _ _ _⟩
theorem relTRows_append {sz : Nat} : ∀ {ts us : List (List T)} {o : Nat} {F : FP}, relTRows R w M c sz (ts ++ us) o F ↔ ∃ F1 F2, relTRows R w M c sz ts o F1 ∧ relTRows R w M c sz us (o + ts.length * sz) F2 ∧ F = fa F1 F2
 | [], us, o, F => by
  simp only [List.nil_append, relTRows, List.length_nil, Nat.zero_mul, Nat.add_zero]
  exact ⟨fun h => ⟨fz, F, rfl, h, (z_fa F).symm⟩, fun ⟨F1, F2, h1, h2, h3⟩ => by subst h1; rw [z_fa] at h3; exact h3 ▸ h2⟩
 | t :: ts, us, o, F => by
  simp only [List.cons_append, relTRows, List.length_cons, relTRows_append]
  have ea : o + sz + ts.length * sz = o + (ts.length + 1) * sz := by rw [Nat.succ_mul]; omega
  constructor
  ·rintro ⟨F1, F2, h0, h1, ⟨G1, G2, g1, g2, rfl⟩, rfl⟩
   exact ⟨fa F1 G1, G2, ⟨F1, G1, h0, h1, g1, rfl⟩, ea ▸ g2, (fa_assoc _ _ _).symm⟩
  ·rintro ⟨F1, F2, ⟨G1, G2, g0, g1, g2, rfl⟩, h2, rfl⟩
   exact ⟨G1, fa G2 F2, g0, g1, ⟨G2, F2, g2, ea ▸ h2, rfl⟩, fa_assoc _ _ _⟩
/-! ### Named objects -/
inductive AObj where
  | dead
  | live (sz : Nat) (rows : List (List T))
def relObj (R : Nat → Prop) (w : World) (M : List Loc) (L : Loc) : AObj → FP → Prop
 | .dead, F => F = fz
 | .live sz rows, F => L.sz = sz ∧ ((rows = [] ∧ L.room = 0 ∧ F = fz) ∨ ∃ c F', Blk w L c ∧ rows.length ≤ L.room ∧ relTRows R w M c L.sz rows L.o F' ∧ F = fa (fd L.b) F')
def relHeap (R : Nat → Prop) (w : World) (M : List Loc) : List AObj → List Loc → FP → Prop
 | [], [], F => F = fz
 | o :: os, L :: Ls, F => ∃ F1 F2, relObj R w M L o F1 ∧ relHeap R w M os Ls F2 ∧ F = fa F1 F2
 | _, _, _ => False
theorem relObj_mono {L : Loc} (hR : ∀ b, R b → R' b) (hM : M <+: M') {o : AObj} {F : FP} (hw : ∀ b, R b ∨ 1 ≤ F b → w'.heap[b]? = w.heap[b]?) (h : relObj R w M L o F) : relObj R' w' M' L o F := by
 cases o with
 | dead => exact h
 | live sz rows =>
  obtain ⟨h0, h⟩ := h
  refine ⟨h0, ?_⟩
  rcases h with h | ⟨c, F', h1, h2, h3, rfl⟩
  ·exact .inl h
  ·exact .inr ⟨c, F', h1.mono (hw L.b (.inr (by simp [fa, fd]))), h2, relTRows_mono hR hM c L.sz rows L.o F' (fun b hb => hw b (hb.imp_right fun h => by simp only [fa]; omega)) h3, rfl⟩
theorem relHeap_mono (hR : ∀ b, R b → R' b) (hM : M <+: M') : ∀ {H : List AObj} {Ls : List Loc} {F : FP}, (∀ b, R b ∨ 1 ≤ F b → w'.heap[b]? = w.heap[b]?) → relHeap R w M H Ls F → relHeap R' w' M' H Ls F
 | [], [], F, hw, h => h
 | o :: os, L :: Ls, F, hw, h => by
  obtain ⟨F1, F2, h1, h2, rfl⟩ := h
  exact ⟨F1, F2, relObj_mono hR hM (fun b hb => hw b (hb.imp_right fun h => by simp only [fa]; omega)) h1, relHeap_mono hR hM (fun b hb => hw b (hb.imp_right fun h => by simp only [fa]; omega)) h2, rfl⟩
 | [], _ :: _, F, hw, h => h.elim
 | _ :: _, [], F, hw, h => h.elim
theorem relHeap_len : ∀ {H : List AObj} {Ls : List Loc} {F : FP}, relHeap R w M H Ls F → H.length = Ls.length
 | [], [], F, h => rfl
 | o :: os, L :: Ls, F, h => by obtain ⟨F1, F2, h1, h2, rfl⟩ := h; simp [relHeap_len h2]
 | [], _ :: _, F, h => h.elim
 | _ :: _, [], F, h => h.elim
/-- An object taken out and put back. -/
theorem relHeap_get : ∀ {H : List AObj} {Ls : List Loc} {F : FP} {l : Nat} {o : AObj}, relHeap R w M H Ls F → H[l]? = some o →
  ∃ L F1 F2, Ls[l]? = some L ∧ F = fa F1 F2 ∧ relObj R w M L o F1 ∧
   ∀ (R' : Nat → Prop) (w' : World) (M' : List Loc) (o' : AObj) (F1' : FP), (∀ b, R b → R' b) → M <+: M' → (∀ b, R b ∨ 1 ≤ F2 b → w'.heap[b]? = w.heap[b]?) → relObj R' w' M' L o' F1' → relHeap R' w' M' (H.set l o') Ls (fa F1' F2)
 | [], [], F, l, o, h, e => by simp at e
 | o :: os, L :: Ls, F, 0, o', h, e => by
  obtain ⟨F1, F2, h1, h2, rfl⟩ := h
  simp only [List.getElem?_cons_zero, Option.some.injEq] at e
  subst e
  exact ⟨L, F1, F2, rfl, rfl, h1, fun R' w' M' o' F1' hR hM hw h => ⟨F1', F2, h, relHeap_mono hR hM hw h2, rfl⟩⟩
 | o :: os, L :: Ls, F, l + 1, o', h, e => by
  obtain ⟨F1, F2, h1, h2, rfl⟩ := h
  simp only [List.getElem?_cons_succ] at e
  obtain ⟨L', G1, G2, g1, rfl, g3, g4⟩ := relHeap_get h2 e
  refine ⟨L', G1, fa F1 G2, by simpa using g1, by rw [← fa_assoc, fa_comm F1 G1, fa_assoc], g3, fun R' w' M' o' F1' hR hM hw h => ?_⟩
  exact ⟨F1, fa F1' G2, relObj_mono hR hM (fun b hb => hw b (hb.imp_right fun h => by simp only [fa]; omega)) h1, g4 R' w' M' o' F1' hR hM (fun b hb => hw b (hb.imp_right fun h => by simp only [fa]; omega)) h, by rw [← fa_assoc, fa_comm F1' F1, fa_assoc]⟩
 | [], _ :: _, F, l, o, h, e => h.elim
 | _ :: _, [], F, l, o, h, e => h.elim
theorem relHeap_push : ∀ {H : List AObj} {Ls : List Loc} {F F1 : FP} {o : AObj} {L : Loc}, relHeap R w M H Ls F → relObj R w M L o F1 → relHeap R w M (H ++ [o]) (Ls ++ [L]) (fa F F1)
 | [], [], F, F1, o, L, h, h1 => ⟨F1, fz, h1, rfl, by rw [show F = fz from h, z_fa]; rfl⟩
 | o :: os, L :: Ls, F, F1, o', L', h, h1 => by
  obtain ⟨G1, G2, g1, g2, rfl⟩ := h
  exact ⟨G1, fa G2 F1, g1, relHeap_push g2 h1, by rw [fa_assoc]⟩
 | [], _ :: _, F, F1, o, L, h, h1 => h.elim
 | _ :: _, [], F, F1, o, L, h, h1 => h.elim
/-- What is owned is owned once; what is read alone is not owned. -/
structure Good (R : Nat → Prop) (w : World) (F : FP) : Prop where
  one : ∀ b, F b ≤ 1
  own : ∀ b, 1 ≤ F b → ¬ R b ∧ b < w.heap.size
  ro : ∀ b, R b → b < w.heap.size
  inv : Inv R w
theorem Good.le {F F' : FP} (h : Good R w F) (hF : ∀ b, F' b ≤ F b) : Good R w F' :=
 ⟨fun b => Nat.le_trans (hF b) (h.one b), fun b hb => h.own b (Nat.le_trans hb (hF b)), h.ro, h.inv⟩
/-- What a call may change: what was owned. -/
structure Fr (R0 : Nat → Prop) (w0 : World) (F0 : FP) (R : Nat → Prop) (w : World) (F : FP) : Prop where
  os : w.os = w0.os
  tape : w.tape = w0.tape
  output : w.output = w0.output
  size : w0.heap.size ≤ w.heap.size
  same : ∀ b, b < w0.heap.size → F0 b = 0 → w.heap[b]? = w0.heap[b]?
  sub : ∀ b, R0 b → R b
  own : ∀ b, 1 ≤ F b → 1 ≤ F0 b ∨ w0.heap.size ≤ b
  ro : ∀ b, R b → R0 b ∨ 1 ≤ F0 b ∨ w0.heap.size ≤ b
  shape : ∀ (b : Nat) (c : Array Value) (e : TypeId) (q : Nat × Nat), w0.heap[b]? = some (.cells c e q) → ∃ c', w.heap[b]? = some (.cells c' e q) ∧ c'.size = c.size
theorem Fr.refl (R : Nat → Prop) (w : World) (F : FP) : Fr R w F R w F := ⟨rfl, rfl, rfl, Nat.le_refl _, fun _ _ _ => rfl, fun _ h => h, fun _ h => .inl h, fun _ h => .inl h, fun b c e q h => ⟨c, h, rfl⟩⟩
theorem Fr.trans {R0 R1 R2 : Nat → Prop} {w0 w1 w2 : World} {F0 F1 F2 : FP} (h : Fr R0 w0 F0 R1 w1 F1) (k : Fr R1 w1 F1 R2 w2 F2) : Fr R0 w0 F0 R2 w2 F2 where
 os := k.os.trans h.os
 tape := k.tape.trans h.tape
 output := k.output.trans h.output
 size := Nat.le_trans h.size k.size
 same b hb h0 := by
  refine (k.same b (Nat.lt_of_lt_of_le hb h.size) ?_).trans (h.same b hb h0)
  cases hF : F1 b with
  | zero => rfl
  | succ n => rcases h.own b (by omega) with h1 | h1 <;> omega
 sub b hb := k.sub b (h.sub b hb)
 own b hb := by
  rcases k.own b hb with h1 | h1
  ·exact h.own b h1
  ·exact .inr (Nat.le_trans h.size h1)
 ro b hb := by
  rcases k.ro b hb with h1 | h1 | h1
  ·exact h.ro b h1
  ·rcases h.own b h1 with h2 | h2
   ·exact .inr (.inl h2)
   ·exact .inr (.inr h2)
  ·exact .inr (.inr (Nat.le_trans h.size h1))
 shape b c e q hb := by
  obtain ⟨c1, h1, h2⟩ := h.shape b c e q hb
  obtain ⟨c2, h3, h4⟩ := k.shape b c1 e q h1
  exact ⟨c2, h3, h4.trans h2⟩
theorem Fr.le {R0 : Nat → Prop} {w0 : World} {F0 F F' : FP} (h : Fr R0 w0 F0 R w F) (hF : ∀ b, F' b ≤ F b) : Fr R0 w0 F0 R w F' :=
 ⟨h.os, h.tape, h.output, h.size, h.same, h.sub, fun b hb => h.own b (Nat.le_trans hb (hF b)), h.ro, h.shape⟩
end Go.Proofs.YtejnpiielcbkkaaGreat.E
end
section
namespace Go.Proofs.YtejnpiielcbkkaaGreat.E
inductive A1 where
  | one (t : T)
  | agg (ts : List T)
  | any
inductive AV where
  | s (a : A1)
  | tup (as_ : List A1)
structure St where
  env : List AV
  H : List AObj
/-! ### Types -/
inductive TK where
  | bool
  | int (k : IntKind)
  | str
  | ptr
  | sl (e : Nat)
  | st (fs : List (Nat × Nat × Bool))
  | other
structure TI where
  k : TK
  size : Nat
  bytes : Nat
  agg : Bool
  zero : List Value
def aggB (P : Program) (t : TypeId) : Bool := match P.underlying t with
 | some (.struct _) | some (.array _ _) => true
 | _ => false
def fieldInfo (P : Program) (f : Field) : Option (Nat × Nat × Bool) := match P.info? f.type, P.underlying f.type with
 | some i, some _ => some (f.offset, i.size, aggB P f.type)
 | _, _ => none
def kindOf (P : Program) : TypeDesc → TK
 | .bool => .bool
 | .int k => .int k
 | .string => .str
 | .pointer _ => .ptr
 | .slice e => .sl e
 | .struct fs => match fs.toList.mapM (fieldInfo P) with
  | some l => .st l
  | none => .other
 | _ => .other
def ti (P : Program) (t : TypeId) : Option TI :=
 match P.underlying t, P.info? t with
 | some d, some i => match i.zero with
  | some z => some { k := kindOf P d, size := i.size, bytes := i.bytes, agg := aggB P t, zero := z.cells.toList }
  | none => none
 | _, _ => none
/-! ### Operands -/
def cv : Value → AV
 | .agg cs => if cs.toList.all scal then .s (.agg (cs.toList.map T.v)) else .s .any
 | v => if scal v then .s (.one (.v v)) else .s .any
def ev (s : St) : Operand → AV
 | .tmp t => s.env.getD t (.s .any)
 | .const v => cv v
 | .func f => .s (.one (.fn false f []))
 | .global _ => .s .any
def ofD : D → T
 | .v x => .v x
 | .l sz rows => .ro sz rows
def isOwn : T → Bool
 | .own _ _ | .box _ => true
 | _ => false
def nameT : T → Nat → T × List AObj
 | .own sz rows, n => (.ref n 0 rows.length, [.live sz rows])
 | .box row, n => (.ptr n 0 0, [.live row.length [row]])
 | t, _ => (t, [])
def nameRow : List T → Nat → List T × List AObj
 | [], _ => ([], [])
 | t :: ts, n => ((nameT t n).1 :: (nameRow ts (n + (nameT t n).2.length)).1, (nameT t n).2 ++ (nameRow ts (n + (nameT t n).2.length)).2)
def rowsAt (H : List AObj) (l : Nat) : Option (Nat × List (List T)) := match H[l]? with
 | some (.live sz rows) => some (sz, rows)
 | _ => none
/-- A number within a list. -/
def idx (i : Int) (n : Nat) : Option Nat := if 0 ≤ i ∧ i < n then some i.toNat else none
theorem idx_ok {i : Int} {n : Nat} (h0 : 0 ≤ i) (h1 : i < n) : idx i n = some i.toNat := by simp [idx, h0, h1]
def bnds (lo hi : Int) (n : Nat) : Option (Nat × Nat) := if 0 ≤ lo ∧ lo ≤ hi ∧ hi ≤ n then some (lo.toNat, hi.toNat) else none
theorem bnds_ok {lo hi : Int} {n : Nat} (h0 : 0 ≤ lo) (h1 : lo ≤ hi) (h2 : hi ≤ n) : bnds lo hi n = some (lo.toNat, hi.toNat) := by simp [bnds, h0, h1, h2]
def leB (a b : Nat) : Bool := decide (a ≤ b)
def leI (a b : Int) : Bool := decide (a ≤ b)
theorem leB_ok {a b : Nat} (h : a ≤ b) : leB a b = true := decide_eq_true h
theorem leI_ok {a b : Int} (h : a ≤ b) : leI a b = true := decide_eq_true h
theorem leB_le {a b : Nat} (h : leB a b = true) : a ≤ b := of_decide_eq_true h
theorem leI_le {a b : Int} (h : leI a b = true) : a ≤ b := of_decide_eq_true h
def splice (row : List T) (c : Nat) (ts : List T) : List T := row.take c ++ ts ++ row.drop (c + ts.length)
def cells1 : A1 → Option (List T)
 | .one t => some [t]
 | .agg ts => some ts
 | .any => none
def ofCells (agg : Bool) (ts : List T) : Option AV := if agg then some (.s (.agg ts)) else match ts with
 | [t] => some (.s (.one t))
 | _ => none
/-! ### Memory -/
def doLoad (H : List AObj) (i : TI) : T → Option (AV × List AObj)
 | .ptr l r c => match rowsAt H l with
  | some (sz, rows) => match rows[r]? with
   | some row => if c + i.size ≤ row.length then
     if ((row.drop c).take i.size).any isOwn then
      match ofCells i.agg (nameRow ((row.drop c).take i.size) H.length).1 with
      | some av => some (av, (H ++ (nameRow ((row.drop c).take i.size) H.length).2).set l (.live sz (rows.set r (splice row c (nameRow ((row.drop c).take i.size) H.length).1))))
      | none => none
     else match ofCells i.agg ((row.drop c).take i.size) with
      | some av => some (av, H)
      | none => none
    else none
   | none => none
  | none => none
 | .rp row c => if c + i.size ≤ row.length then match ofCells i.agg (((row.drop c).take i.size).map ofD) with
   | some av => some (av, H)
   | none => none
  else none
 | _ => none
def doStore (H : List AObj) (i : TI) : T → A1 → Option (List AObj)
 | .ptr l r c, x => match rowsAt H l, cells1 x with
  | some (sz, rows), some ts => match rows[r]? with
   | some row => if ts.length = i.size ∧ c + i.size ≤ row.length then some (H.set l (.live sz (rows.set r (splice row c ts)))) else none
   | none => none
  | _, _ => none
 | _, _ => none
def doIndexAddr (H : List AObj) (size : Nat) (i : Int) : T → Option T
 | .ref l off len => match rowsAt H l, idx i len with
  | some (sz, _), some k => if sz = size then some (.ptr l (off + k) 0) else none
  | _, _ => none
 | .ro sz rows => match idx i rows.length with
  | some k => match rows[k]? with
   | some row => if sz = size then some (.rp row 0) else none
   | none => none
  | none => none
 | _ => none
def doField (off : Nat) : T → Option T
 | .ptr l r c => some (.ptr l r (c + off))
 | .rp row c => some (.rp row (c + off))
 | _ => none
def lenT : T → Option Nat
 | .v (.slice none 0 0) => some 0
 | .ro _ rows => some rows.length
 | .ref _ _ len => some len
 | .v (.string s) => some s.size
 | _ => none
def doSlice (H : List AObj) (size : Nat) (lo hi : Int) : T → Option T
 | .v (.slice none 0 0) => match bnds lo hi 0 with
  | some _ => some (.v (.slice none 0 0))
  | none => none
 | .ro sz rows => match bnds lo hi rows.length with
  | some (a, b) => if sz = size then some (.ro sz ((rows.take b).drop a)) else none
  | none => none
 | .ref l off len => match rowsAt H l, bnds lo hi len with
  | some (sz, _), some (a, b) => if sz = size then some (.ref l (off + a) (b - a)) else none
  | _, _ => none
 | _ => none
def doSliceS (lo hi : Int) : T → Option T
 | .v (.string s) => match bnds lo hi s.size with
  | some (a, b) => some (.v (.string (s.extract a b)))
  | none => none
 | _ => none
def rowsOf (H : List AObj) (size : Nat) : T → Option (List (List T))
 | .v (.slice none 0 0) => some []
 | .ro sz rows => if sz = size then some (rows.map (·.map ofD)) else none
 | .ref l off len => match rowsAt H l with
  | some (sz, rows) => if sz = size ∧ leB (off + len) rows.length = true then some ((rows.drop off).take len) else none
  | none => none
 | .v (.string s) => if size = 1 then some (s.data.toList.map fun b => [T.v (.int .u8 b.toNat)]) else none
 | _ => none
def apart (l : Nat) : T → Bool
 | .ref l' _ _ => l' != l
 | _ => true
def flat (rows : List (List T)) : Bool := rows.all fun r => r.all fun t => !isOwn t
/-- What is appended to, and what it holds; the object that is given up. -/
def doAppend (H : List AObj) (i : TI) (s x : T) : Option (AV × List AObj) :=
 match s, rowsOf H i.size s, rowsOf H i.size x with
 | .v (.slice none 0 0), some _, some b => if flat b = true ∧ leB (b.length * i.bytes) 140737488355328 = true then some (.s (.one (.ref H.length 0 b.length)), H ++ [.live i.size b]) else none
 | .ref l _ _, some a, some b => if flat b = true ∧ leB ((a.length + b.length) * i.bytes) 140737488355328 = true ∧ apart l x = true then
   some (.s (.one (.ref H.length 0 (a.length + b.length))), H.set l .dead ++ [.live i.size (a ++ b)]) else none
 | _, _, _ => none
def byteOf : List T → Option UInt8
 | [.v (.int .u8 n)] => some (UInt8.ofNat n.toNat)
 | _ => none
/-- The parts of a struct laid in. -/
def fillA (fs : List (Nat × Nat × Bool)) : List T → List (Nat × A1) → Option (List T)
 | row, [] => some row
 | row, (k, x) :: rest => match fs[k]?, cells1 x with
  | some (off, sz, _), some ts => if ts.length = sz ∧ off + sz ≤ row.length then fillA fs (splice row off ts) rest else none
  | _, _ => none
/-- The parts of a list literal, all of them, in order. -/
def rowsA (size : Nat) : Nat → List (Nat × A1) → Option (List (List T))
 | _, [] => some []
 | n, (k, x) :: rest => match cells1 x, rowsA size (n + 1) rest with
  | some ts, some r => if k = n ∧ ts.length = size then some (ts :: r) else none
  | _, _ => none
/-! ### Numbers, texts, truths -/
def seq (x y : ByteArray) : Bool := x.toList == y.toList
def abin : BinOp → Value → Value → Option Value
 | .shl, .int k a, .int _ b => if 0 ≤ b then some (.int k (k.wrap (a * 2 ^ (min b.toNat k.bits)))) else none
 | .shr, .int k a, .int _ b => if 0 ≤ b then some (.int k (a.fdiv (2 ^ (min b.toNat k.bits)))) else none
 | .add, .int k a, .int k' b => if k = k' then some (.int k (k.wrap (a + b))) else none
 | .sub, .int k a, .int k' b => if k = k' then some (.int k (k.wrap (a - b))) else none
 | .mul, .int k a, .int k' b => if k = k' then some (.int k (k.wrap (a * b))) else none
 | .quo, .int k a, .int k' b => if k = k' ∧ b ≠ 0 then some (.int k (k.wrap (a.tdiv b))) else none
 | .rem, .int k a, .int k' b => if k = k' ∧ b ≠ 0 then some (.int k (a.tmod b)) else none
 | .and, .int k a, .int k' b => if k = k' then some (.int k (k.wrap (BitVec.ofInt k.bits a &&& BitVec.ofInt k.bits b).toNat)) else none
 | .xor, .int k a, .int k' b => if k = k' then some (.int k (k.wrap (BitVec.ofInt k.bits a ^^^ BitVec.ofInt k.bits b).toNat)) else none
 | .eql, .int k a, .int k' b => if k = k' then some (.bool (a == b)) else none
 | .neq, .int k a, .int k' b => if k = k' then some (.bool (a != b)) else none
 | .lss, .int k a, .int k' b => if k = k' then some (.bool (decide (a < b))) else none
 | .leq, .int k a, .int k' b => if k = k' then some (.bool (decide (a ≤ b))) else none
 | .gtr, .int k a, .int k' b => if k = k' then some (.bool (decide (a > b))) else none
 | .geq, .int k a, .int k' b => if k = k' then some (.bool (decide (a ≥ b))) else none
 | .add, .string x, .string y => if x.size + y.size ≤ 9223372036854775807 then some (.string (x ++ y)) else none
 | .eql, .string x, .string y => some (.bool (seq x y))
 | .neq, .string x, .string y => some (.bool (!seq x y))
 | _, _, _ => none
def isBoolT (P : Program) (t : TypeId) : Bool := match ti P t with
 | some i => match i.k with
  | .bool => true
  | _ => false
 | none => false
/-- The same, with the operands' type. -/
def abinT (P : Program) (t : TypeId) : BinOp → Value → Value → Option Value
 | .eql, .bool x, .bool y => if isBoolT P t = true then some (.bool (x == y)) else none
 | .neq, .bool x, .bool y => if isBoolT P t = true then some (.bool (x != y)) else none
 | op, x, y => abin op x y
def aun : UnOp → Value → Option Value
 | .neg, .int k n => some (.int k (k.wrap (0 - n)))
 | .not, .bool b => some (.bool !b)
 | _, _ => none
end Go.Proofs.YtejnpiielcbkkaaGreat.E
end
section
namespace Go.Proofs.YtejnpiielcbkkaaGreat.E
variable {P : Program} {R R' : Nat → Prop} {w w' : World} {M M' : List Loc} {c : Array Value}
def relA1 (R : Nat → Prop) (w : World) (M : List Loc) : A1 → Value → FP → Prop
 | .one t, u, F => relT R w M t u F
 | .agg ts, u, F => ∃ c : Array Value, u = .agg c ∧ c.size = ts.length ∧ relTRow R w M c ts 0 F
 | .any, u, F => F = fz
def relAL (R : Nat → Prop) (w : World) (M : List Loc) : List A1 → List Value → FP → Prop
 | [], [], F => F = fz
 | a :: as_, u :: us, F => ∃ F1 F2, relA1 R w M a u F1 ∧ relAL R w M as_ us F2 ∧ F = fa F1 F2
 | _, _, _ => False
def relAV (R : Nat → Prop) (w : World) (M : List Loc) : AV → Value → FP → Prop
 | .s a, u, F => relA1 R w M a u F
 | .tup as_, u, F => ∃ us : List Value, u = .tuple us.toArray ∧ relAL R w M as_ us F
theorem relA1_mono (hR : ∀ b, R b → R' b) (hM : M <+: M') {a : A1} {u : Value} {F : FP} (hw : ∀ b, R b ∨ 1 ≤ F b → w'.heap[b]? = w.heap[b]?) (h : relA1 R w M a u F) : relA1 R' w' M' a u F := by
 cases a with
 | one t => exact relT_mono hR hM t u F hw h
 | agg ts => obtain ⟨c, h1, h2, h3⟩ := h; exact ⟨c, h1, h2, relTRow_mono hR hM c ts 0 F hw h3⟩
 | any => exact h
theorem relAL_mono (hR : ∀ b, R b → R' b) (hM : M <+: M') : ∀ {as_ : List A1} {us : List Value} {F : FP}, (∀ b, R b ∨ 1 ≤ F b → w'.heap[b]? = w.heap[b]?) → relAL R w M as_ us F → relAL R' w' M' as_ us F
 | [], [], F, hw, h => h
 | a :: as_, u :: us, F, hw, h => by
  obtain ⟨F1, F2, h1, h2, rfl⟩ := h
  exact ⟨F1, F2, relA1_mono hR hM (fun b hb => hw b (hb.imp_right fun h => by simp only [fa]; omega)) h1, relAL_mono hR hM (fun b hb => hw b (hb.imp_right fun h => by simp only [fa]; omega)) h2, rfl⟩
 | [], _ :: _, F, hw, h => h.elim
 | _ :: _, [], F, hw, h => h.elim
theorem relAV_mono (hR : ∀ b, R b → R' b) (hM : M <+: M') {a : AV} {u : Value} {F : FP} (hw : ∀ b, R b ∨ 1 ≤ F b → w'.heap[b]? = w.heap[b]?) (h : relAV R w M a u F) : relAV R' w' M' a u F := by
 cases a with
 | s a => exact relA1_mono hR hM hw h
 | tup as_ => obtain ⟨us, h1, h2⟩ := h; exact ⟨us, h1, relAL_mono hR hM hw h2⟩
/-! ### Types -/
theorem ti_some {t : TypeId} {i : TI} (h : ti P t = some i) : ∃ d j z, P.underlying t = some d ∧ P.info? t = some j ∧ j.zero = some z ∧ i.k = kindOf P d ∧ i.size = j.size ∧ i.bytes = j.bytes ∧ i.agg = aggB P t ∧ i.zero = z.cells.toList := by
 unfold ti at h
 split at h
 ·rename_i d j hd hj
  split at h
  ·rename_i z hz
   simp only [Option.some.injEq] at h
   subst h
   exact ⟨d, j, z, hd, hj, hz, rfl, rfl, rfl, rfl, rfl⟩
  ·simp at h
 ·simp at h
theorem run_isAgg {t : TypeId} {d : TypeDesc} (h : P.underlying t = some d) (w : World) : (isAgg t).run P w = .ok (aggB P t) w := by
 unfold aggB
 rw [h]
 cases d <;> simp [isAgg, run_underlying h]
theorem run_size {t : TypeId} {j : TypeInfo} (h : P.info? t = some j) (w : World) : (sizeOf t).run P w = .ok j.size w := by
 simp [sizeOf, typeInfo, h]
theorem run_zero {t : TypeId} {j : TypeInfo} {z : Value} (h : P.info? t = some j) (hz : j.zero = some z) (w : World) : (zeroValue t).run P w = .ok z w := by
 simp [zeroValue, typeInfo, h, hz]
/-! ### Cells -/
theorem cell_of {b o : Nat} {e : TypeId} {q : Nat × Nat} (h : w.heap[b]? = some (.cells c e q)) : w.cell? ⟨b, o, none⟩ = c[o]? := by
 simp [World.cell?, h]
theorem relTRow_shift {c' : Array Value} {o' : Nat} : ∀ {ts : List T} {o : Nat} {F : FP}, (∀ j, j < ts.length → c'[o' + j]? = c[o + j]?) → relTRow R w M c ts o F → relTRow R w M c' ts o' F := by
 intro ts
 induction ts generalizing o' with
 | nil => intro o F hs h; simpa [relTRow] using h
 | cons t ts ih =>
  intro o F hs h
  simp only [relTRow] at h ⊢
  obtain ⟨u, F1, F2, h1, h2, h3, h4⟩ := h
  refine ⟨u, F1, F2, by have := hs 0 (by simp); simp only [Nat.add_zero] at this; rw [this]; exact h1, h2, ih (fun j hj => ?_) h3, h4⟩
  have := hs (j + 1) (by simp; omega)
  rw [show o' + 1 + j = o' + (j + 1) by omega, show o + 1 + j = o + (j + 1) by omega]
  exact this
theorem relDRow_len : ∀ {ds : List D} {o : Nat}, relDRow R w c ds o → ds = [] ∨ o + ds.length ≤ c.size
 | [], o, h => .inl rfl
 | d :: ds, o, h => by
  simp only [relDRow] at h
  obtain ⟨⟨u, h1, _⟩, h3⟩ := h
  have h5 := (Array.getElem?_eq_some_iff.1 h1).1
  right
  rcases relDRow_len h3 with h | h
  ·subst h; simp; omega
  ·simp; omega
theorem relT_ofD {d : D} {u : Value} (h : relD R w d u) : relT R w M (ofD d) u fz := by
 cases d with
 | v x => simpa [ofD, relT, relD] using h
 | l sz rows => exact (by simp only [ofD, relT]; exact ⟨h, trivial⟩)
theorem relTRow_ofD : ∀ {ds : List D} {o : Nat}, relDRow R w c ds o → relTRow R w M c (ds.map ofD) o fz
 | [], o, h => by simp [relTRow]
 | d :: ds, o, h => by
  simp only [relDRow] at h
  simp only [List.map_cons, relTRow]
  obtain ⟨⟨u, h1, h2⟩, h3⟩ := h
  exact ⟨u, fz, fz, h1, relT_ofD h2, relTRow_ofD h3, rfl⟩
theorem relTRows_ofD {sz : Nat} : ∀ {ds : List (List D)} {o : Nat}, relDRows R w c sz ds o → relTRows R w M c sz (ds.map (·.map ofD)) o fz
 | [], o, h => by simp [relTRows]
 | d :: ds, o, h => by
  simp only [relDRows] at h
  simp only [List.map_cons, relTRows]
  exact ⟨fz, fz, by simpa using h.1, relTRow_ofD h.2.1, relTRows_ofD h.2.2, rfl⟩
theorem relDRow_drop {ds : List D} {o : Nat} (k : Nat) (h : relDRow R w c ds o) : relDRow R w c (ds.drop k) (o + k) := by
 induction k generalizing ds o with
 | zero => simpa using h
 | succ k ih =>
  cases ds with
  | nil => simp [relDRow]
  | cons d ds =>
   simp only [relDRow] at h
   rw [List.drop_succ_cons, show o + (k + 1) = o + 1 + k by omega]
   exact ih h.2
theorem relDRow_take {ds : List D} {o : Nat} (k : Nat) (h : relDRow R w c ds o) : relDRow R w c (ds.take k) o := by
 induction k generalizing ds o with
 | zero => simp [relDRow]
 | succ k ih =>
  cases ds with
  | nil => simp [relDRow]
  | cons d ds =>
   simp only [List.take_succ_cons, relDRow] at h ⊢
   exact ⟨h.1, ih h.2⟩
/-! ### Names are given -/
theorem isOwn_F {t : T} {u : Value} {F : FP} (ht : isOwn t = false) (h : relT R w M t u F) : F = fz := by
 cases t <;> simp_all [relT, isOwn]
theorem notOwn_F : ∀ {ts : List T} {o : Nat} {F : FP}, (ts.any isOwn) = false → relTRow R w M c ts o F → F = fz
 | [], o, F, ht, h => by simpa [relTRow] using h
 | t :: ts, o, F, ht, h => by
  simp only [relTRow] at h
  obtain ⟨u, F1, F2, h1, h2, h3, rfl⟩ := h
  simp only [List.any_cons, Bool.or_eq_false_iff] at ht
  rw [isOwn_F ht.1 h2, notOwn_F ht.2 h3]
  rfl
theorem prefix_self (M N : List Loc) : M <+: M ++ N := List.prefix_append M N
theorem nameT_sound {t : T} {u : Value} {F FH : FP} {H : List AObj} (h : relT R w M t u F) (hH : relHeap R w M H M FH) :
  ∃ N, relT R w (M ++ N) (nameT t H.length).1 u fz ∧ relHeap R w (M ++ N) (H ++ (nameT t H.length).2) (M ++ N) (fa FH F) := by
 have hl := relHeap_len hH
 cases t with
 | own sz rows =>
  simp only [relT] at h
  obtain ⟨L, a, cap, h0, h1, h2, h3, h4, h5⟩ := h
  refine ⟨[L], ?_, relHeap_push (relHeap_mono (fun _ h => h) (prefix_self M [L]) (fun _ _ => rfl) hH) ?_⟩
  ·simp only [nameT, relT]
   exact ⟨trivial, L, a, cap, by rw [hl]; simp, h1, h2, by omega, by simpa using h4⟩
  ·refine ⟨h0, ?_⟩
   rcases h5 with h5 | ⟨c, F', h6, h7, h8⟩
   ·exact .inl h5
   ·exact .inr ⟨c, F', h6, by omega, relTRows_mono (fun _ h => h) (prefix_self M [L]) c L.sz rows L.o F' (fun _ _ => rfl) h7, h8⟩
 | box row =>
  simp only [relT] at h
  obtain ⟨L, c, F', h1, h2, h3, h4, h5, h6⟩ := h
  refine ⟨[L], ?_, relHeap_push (relHeap_mono (fun _ h => h) (prefix_self M [L]) (fun _ _ => rfl) hH) ?_⟩
  ·simp only [nameT, relT]
   exact ⟨trivial, L, by rw [hl]; simp, by simpa using h1⟩
  ·refine ⟨h2, .inr ⟨c, F', h4, by simpa using h3, ?_, h6⟩⟩
   simp only [relTRows]
   exact ⟨F', fz, h2.symm, relTRow_mono (fun _ h => h) (prefix_self M [L]) c row L.o F' (fun _ _ => rfl) h5, rfl, rfl⟩
 | _ =>
  all_goals
   have hF := isOwn_F (by rfl) h
   subst hF
   exact ⟨[], by simpa [nameT] using h, by simpa [nameT, fa_z] using hH⟩
theorem nameRow_sound : ∀ {ts : List T} {o : Nat} {F FH : FP} {H : List AObj} {M : List Loc}, relTRow R w M c ts o F → relHeap R w M H M FH →
  ∃ N, relTRow R w (M ++ N) c (nameRow ts H.length).1 o fz ∧ relHeap R w (M ++ N) (H ++ (nameRow ts H.length).2) (M ++ N) (fa FH F)
 | [], o, F, FH, H, M, h, hH => by
  simp only [relTRow] at h
  subst h
  exact ⟨[], by simp [nameRow, relTRow], by simpa [nameRow, fa_z] using hH⟩
 | t :: ts, o, F, FH, H, M, h, hH => by
  simp only [relTRow] at h
  obtain ⟨u, F1, F2, h1, h2, h3, rfl⟩ := h
  obtain ⟨N1, n1, n2⟩ := nameT_sound h2 hH
  obtain ⟨N2, m1, m2⟩ := nameRow_sound (relTRow_mono (fun _ h => h) (prefix_self M N1) c ts _ F2 (fun _ _ => rfl) h3) n2
  refine ⟨N1 ++ N2, ?_, ?_⟩
  ·simp only [nameRow, relTRow]
   rw [List.length_append] at m1
   rw [List.append_assoc] at m1
   exact ⟨u, fz, fz, h1, relT_mono (fun _ h => h) (by rw [← List.append_assoc]; exact prefix_self _ _) _ u fz (fun _ _ => rfl) n1, m1, rfl⟩
  ·simp only [nameRow]
   rw [List.length_append] at m2
   rw [List.append_assoc, List.append_assoc] at m2
   rw [← fa_assoc]
   exact m2
theorem nameRow_len : ∀ (ts : List T) (n : Nat), (nameRow ts n).1.length = ts.length
 | [], n => rfl
 | t :: ts, n => by simp [nameRow, nameRow_len ts]
/-! ### Load -/
theorem rowsAt_some {H : List AObj} {l sz : Nat} {rows : List (List T)} (h : rowsAt H l = some (sz, rows)) : H[l]? = some (.live sz rows) := by
 unfold rowsAt at h
 split at h
 ·rename_i z r hr
  simp only [Option.some.injEq, Prod.mk.injEq] at h
  rw [hr, h.1, h.2]
 ·simp at h
theorem run_loadVar {t : TypeId} {i : TI} (ht : ti P t = some i) {b o : Nat} {e : TypeId} {q : Nat × Nat} (hb : w.heap[b]? = some (.cells c e q)) (ho : o + i.size ≤ c.size) (h1 : i.agg = false → i.size = 1) :
  ∃ v, (loadVar t ⟨b, o, none⟩).run P w = .ok v w ∧ (i.agg = true → v = .agg ((c.toList.drop o).take i.size).toArray) ∧ (i.agg = false → c[o]? = some v) := by
 obtain ⟨d, j, z, hd, hj, hz, -, hs, -, ha, -⟩ := ti_some ht
 cases hagg : i.agg with
 | true =>
  rw [ha] at hagg
  have hl := run_loadCells_list (P := P) w ⟨b, o, none⟩ ((c.toList.drop o).take i.size) (fun k v hk => by
   have : (⟨b, o, none⟩ : Addr).add k = ⟨b, o + k, none⟩ := by unfold Addr.add; split <;> simp_all
   rw [this, cell_of hb]
   rw [List.getElem?_take] at hk
   split at hk
   ·rw [List.getElem?_drop] at hk
    simpa using hk
   ·simp at hk)
  have hlen : ((c.toList.drop o).take i.size).length = i.size := by simp; omega
  rw [hlen] at hl
  refine ⟨_, ?_, fun _ => rfl, fun h => by simp at h⟩
  simp only [loadVar, Sem.run_bind, run_isAgg hd, hagg, Result.andThen_ok, if_true, run_size hj, ← hs, hl, Sem.run_pure]
 | false =>
  have hs1 := h1 hagg
  rw [ha] at hagg
  have hc : o < c.size := by omega
  refine ⟨c[o], ?_, fun h => by simp at h, fun _ => by simp [hc]⟩
  simp only [loadVar, Sem.run_bind, run_isAgg hd, hagg, Result.andThen_ok, Bool.false_eq_true, if_false, run_load, cell_of hb]
  simp [hc]
theorem ofCells_rel {ts : List T} {av : AV} {agg : Bool} (h : ofCells agg ts = some av) {o : Nat} {F : FP} {v : Value} (hr : relTRow R w M c ts o F) (hlen : o + ts.length ≤ c.size)
  (ha : agg = true → v = .agg ((c.toList.drop o).take ts.length).toArray) (hn : agg = false → c[o]? = some v) : relAV R w M av v F := by
 cases agg with
 | true =>
  simp only [ofCells, if_true, Option.some.injEq] at h
  subst h
  refine ⟨_, ha rfl, by simp; omega, relTRow_shift (fun j hj => ?_) hr⟩
  simp [hj]
 | false =>
  simp only [ofCells, Bool.false_eq_true, if_false] at h
  split at h
  ·rename_i t
   simp only [Option.some.injEq] at h
   subst h
   simp only [relTRow] at hr
   obtain ⟨u, F1, F2, h1, h2, rfl, rfl⟩ := hr
   rw [hn rfl] at h1
   simp only [Option.some.injEq] at h1
   subst h1
   exact h2
  ·simp at h
theorem ofCells_one {ts : List T} {av : AV} (h : ofCells false ts = some av) : ts.length = 1 := by
 simp only [ofCells, Bool.false_eq_true, if_false] at h
 split at h
 ·simp
 ·simp at h
theorem loadAt_run {t : TypeId} {a : Addr} : (Instr.loadAt t (.pointer (some a))).run P w = (loadVar t a).run P w := by
 simp [Instr.loadAt, Instr.sureAddr]
theorem set_push {H N : List AObj} {l : Nat} {o o' : AObj} (h : l < H.length) : ((H.set l o') ++ N).set l o = (H ++ N).set l o := by
 rw [List.set_append_left _ _ (by simpa using h), List.set_append_left _ _ h, List.set_set]
theorem doLoad_sound {H H' : List AObj} {i : TI} {p : T} {av : AV} (h : doLoad H i p = some (av, H')) {ty : TypeId} (ht : ti P ty = some i) {u : Value} (hp : relT R w M p u fz) {F : FP} (hH : relHeap R w M H M F) :
  ∃ v N, (Instr.loadAt ty u).run P w = .ok v w ∧ relAV R w (M ++ N) av v fz ∧ relHeap R w (M ++ N) H' (M ++ N) F := by
 unfold doLoad at h
 split at h
 ·-- a named place
  rename_i l r cc
  split at h
  ·rename_i sz rows hrows
   have hl := rowsAt_some hrows
   split at h
   ·rename_i row hrow
    split at h
    ·rename_i hsz
     simp only [relT] at hp
     obtain ⟨-, L, hL, rfl⟩ := hp
     obtain ⟨L', F1, F2, hL', rfl, hobj, hput⟩ := relHeap_get hH hl
     rw [hL] at hL'
     simp only [Option.some.injEq] at hL'
     subst hL'
     obtain ⟨hLs, hobj⟩ := hobj
     rcases hobj with ⟨rfl, -⟩ | ⟨c, F', hB, hroom, hR, rfl⟩
     ·simp at hrow
     obtain ⟨G1, G2, rfl, hrl, hrr, hback⟩ := relTRows_get hR hrow
     have hBB := hB
     obtain ⟨e, lo, hi, hblk, hfr, hext⟩ := hB
     have hsplit : row = row.take cc ++ (((row.drop cc).take i.size) ++ row.drop (cc + i.size)) := by
      rw [← List.drop_drop, List.take_append_drop, List.take_append_drop]
     have hrr2 := hrr
     rw [hsplit, relTRow_append] at hrr2
     obtain ⟨Fa, Fb, ha, hb, rfl⟩ := hrr2
     rw [relTRow_append] at hb
     obtain ⟨Fs, Fc, hs, hc, rfl⟩ := hb
     have hseg : ((row.drop cc).take i.size).length = i.size := by simp; omega
     have htk : (row.take cc).length = cc := by simp; omega
     rw [htk] at hs hc
     rw [hseg] at hc
     have hrlen := relTRow_len hrr
     by_cases hown : ((row.drop cc).take i.size).any isOwn = true
     ·rw [if_pos hown] at h
      split at h
      ·rename_i av' hav
       simp only [Option.some.injEq, Prod.mk.injEq] at h
       obtain ⟨rfl, rfl⟩ := h
       have hne : row ≠ [] := by rintro rfl; simp at hown
       have hrlen' := hrlen.resolve_left hne
       have hH0 := hput R w M .dead fz (fun _ h => h) (List.prefix_refl M) (fun _ _ => rfl) rfl
       rw [z_fa] at hH0
       obtain ⟨N, n1, n2⟩ := nameRow_sound hs hH0
       rw [List.length_set] at n1 n2
       have hlt : l < H.length := (List.getElem?_eq_some_iff.1 hl).1
       have hdead : (H.set l .dead ++ (nameRow ((row.drop cc).take i.size) H.length).2)[l]? = some .dead := by
        rw [List.getElem?_append_left (by simpa using hlt)]
        simp [hlt]
       obtain ⟨L2, K1, K2, hL2, hKF, hK1, hput2⟩ := relHeap_get n2 hdead
       have hLe : L2 = L := by
        rw [List.getElem?_append_left (List.getElem?_eq_some_iff.1 hL).1, hL] at hL2
        exact (Option.some.inj hL2).symm
       subst hLe
       have hK1' : K1 = fz := hK1
       subst hK1'
       rw [z_fa] at hKF
       subst hKF
       obtain ⟨v, hv1, hv2, hv3⟩ := run_loadVar ht hblk (o := L2.o + r * L2.sz + cc) (by omega) (fun hagg => by
        rw [hagg] at hav
        have := ofCells_one hav
        rw [nameRow_len, hseg] at this
        exact this)
       refine ⟨v, N, by rw [loadAt_run]; exact hv1, ?_, ?_⟩
       ·refine ofCells_rel hav n1 (by rw [nameRow_len, hseg]; omega) (fun h => ?_) hv3
        rw [nameRow_len, hseg]
        exact hv2 h
       ·have hnew := hback (M ++ N) c (splice row cc (nameRow ((row.drop cc).take i.size) H.length).1) (fa Fa (fa fz Fc)) (prefix_self M N) (SameBut.refl _ _ _) (by simp [splice, nameRow_len]; omega) (by
         unfold splice
         rw [List.append_assoc, relTRow_append, nameRow_len, hseg]
         refine ⟨Fa, fa fz Fc, relTRow_mono (fun _ h => h) (prefix_self M N) c _ _ Fa (fun _ _ => rfl) ha, ?_, rfl⟩
         rw [relTRow_append, nameRow_len, hseg, htk]
         exact ⟨fz, Fc, n1, relTRow_mono (fun _ h => h) (prefix_self M N) c _ _ Fc (fun _ _ => rfl) hc, rfl⟩)
        have hfin := hput2 R w (M ++ N) (.live sz (rows.set r (splice row cc (nameRow ((row.drop cc).take i.size) H.length).1))) _ (fun _ h => h) (List.prefix_refl _) (fun _ _ => rfl) ⟨hLs, .inr ⟨c, _, hBB, by simpa using hroom, hnew, rfl⟩⟩
        rw [set_push hlt] at hfin
        have hFeq : fa (fa (fd L2.b) (fa (fa Fa (fa fz Fc)) G2)) (fa F2 Fs) = fa (fa (fd L2.b) (fa (fa Fa (fa Fs Fc)) G2)) F2 := by
         funext x
         simp only [fa, fz]
         omega
        rw [hFeq] at hfin
        exact hfin
      ·simp at h
     ·rw [if_neg hown] at h
      split at h
      ·rename_i av' hav
       simp only [Option.some.injEq, Prod.mk.injEq] at h
       obtain ⟨rfl, rfl⟩ := h
       have hF0 := notOwn_F (by simpa using hown) hs
       subst hF0
       have hcs : L.o + r * L.sz + cc + i.size ≤ c.size := by
        rcases hrlen with h | h
        ·subst h
         simp only [List.length_nil] at hsz hrl
         have hr := (List.getElem?_eq_some_iff.1 hrow).1
         have : (r + 1) * L.sz ≤ L.room * L.sz := Nat.mul_le_mul_right _ (by omega)
         rw [Nat.succ_mul] at this
         omega
        ·omega
       obtain ⟨v, hv1, hv2, hv3⟩ := run_loadVar ht hblk (o := L.o + r * L.sz + cc) hcs (fun hagg => by
        rw [hagg] at hav
        have := ofCells_one hav
        rw [hseg] at this
        exact this)
       refine ⟨v, [], by rw [loadAt_run]; exact hv1, ?_, by simpa using hH⟩
       rw [List.append_nil]
       refine ofCells_rel hav hs (by rw [hseg]; exact hcs) (fun h => ?_) hv3
       rw [hseg]
       exact hv2 h
      ·simp at h
    ·simp at h
   ·simp at h
  ·simp at h
 ·-- a place that is read alone
  rename_i row cc
  split at h
  ·rename_i hsz
   split at h
   ·rename_i av' hav
    simp only [Option.some.injEq, Prod.mk.injEq] at h
    obtain ⟨rfl, rfl⟩ := h
    simp only [relT] at hp
    obtain ⟨-, b, o, c, e, q, rfl, hRb, hblk, hrow⟩ := hp
    have hseg : ((row.drop cc).take i.size).length = i.size := by simp; omega
    have hs := relTRow_ofD (M := M) (relDRow_take i.size (relDRow_drop cc hrow))
    by_cases h0 : row = []
    ·subst h0
     simp only [List.length_nil] at hsz
     have hz : i.size = 0 := by omega
     cases hagg : i.agg with
     | false =>
      rw [hagg] at hav
      have := ofCells_one hav
      simp at this
     | true =>
      obtain ⟨d, j, z, hd, hj, hz', -, hs', -, ha, -⟩ := ti_some ht
      rw [hagg] at hav
      simp only [ofCells, if_true, Option.some.injEq] at hav
      subst hav
      refine ⟨.agg #[], [], ?_, ⟨#[], rfl, by simp, by simp [relTRow]⟩, by simpa using hH⟩
      rw [loadAt_run]
      have : (loadCells (⟨b, o + cc, none⟩ : Addr) 0).run P w = .ok #[] w := rfl
      simp only [loadVar, Sem.run_bind, run_isAgg hd, ← ha, hagg, Result.andThen_ok, if_true, run_size hj, ← hs', hz, this, Sem.run_pure]
    ·have hcs := (relDRow_len hrow).resolve_left h0
     obtain ⟨v, hv1, hv2, hv3⟩ := run_loadVar ht hblk (o := o + cc) (by omega) (fun hagg => by
      rw [hagg] at hav
      have := ofCells_one hav
      rw [List.length_map, hseg] at this
      exact this)
     refine ⟨v, [], by rw [loadAt_run]; exact hv1, ?_, by simpa using hH⟩
     rw [List.append_nil]
     refine ofCells_rel hav hs (by rw [List.length_map, hseg]; omega) (fun h => ?_) hv3
     rw [List.length_map, hseg]
     exact hv2 h
   ·simp at h
  ·simp at h
 ·simp at h
end Go.Proofs.YtejnpiielcbkkaaGreat.E
end
section
namespace Go.Proofs.YtejnpiielcbkkaaGreat.E
variable {P : Program} {R R' : Nat → Prop} {w w' : World} {M M' : List Loc} {c : Array Value}
/-- A world that is another but for one block. -/
structure But (w w' : World) (b : Nat) : Prop where
  os : w'.os = w.os
  tape : w'.tape = w.tape
  output : w'.output = w.output
  size : w'.heap.size = w.heap.size
  other : ∀ b', b' ≠ b → w'.heap[b']? = w.heap[b']?
  here : ∀ (c : Array Value) (e : TypeId) (q : Nat × Nat), w.heap[b]? = some (.cells c e q) → ∃ c', w'.heap[b]? = some (.cells c' e q) ∧ c'.size = c.size
theorem run_put {b o : Nat} {e : TypeId} {lo hi : Nat} : ∀ (vs : List Value) (i : Nat) (w : World) (c : Array Value), w.heap[b]? = some (.cells c e (lo, hi)) → (hi ≤ lo ∨ c.size ≤ lo) → o + i + vs.length ≤ c.size → (∀ v ∈ vs, v.oneCell' = true) →
  ∃ w' c', (storeCells ⟨b, o, none⟩ vs i).run P w = .ok () w' ∧ w'.heap[b]? = some (.cells c' e (lo, hi)) ∧ c'.size = c.size ∧ (∀ j, j < vs.length → c'[o + i + j]? = vs[j]?) ∧ (∀ k, k < o + i ∨ o + i + vs.length ≤ k → c'[k]? = c[k]?) ∧ But w w' b
 | [], i, w, c, hb, hf, hs, h1 => ⟨w, c, rfl, hb, rfl, fun j hj => by simp at hj, fun _ _ => rfl, ⟨rfl, rfl, rfl, rfl, fun _ _ => rfl, fun c e q h => ⟨c, h, rfl⟩⟩⟩
 | v :: vs, i, w, c, hb, hf, hs, h1 => by
  have hadd : (⟨b, o, none⟩ : Addr).add i = ⟨b, o + i, none⟩ := by unfold Addr.add; split <;> simp_all
  rw [List.length_cons] at hs
  have hlt : o + i < c.size := by omega
  have hcell : w.cell? ⟨b, o + i, none⟩ = some c[o + i] := by rw [cell_of hb]; simp [hlt]
  have hfr : w.frozen? ⟨b, o + i, none⟩ = false := by
   simp only [World.frozen?, hb, Bool.and_eq_false_iff, decide_eq_false_iff_not]
   omega
  have hst : (store ((⟨b, o, none⟩ : Addr).add i) v).run P w = .ok () (w.setCell ⟨b, o + i, none⟩ v) := by
   rw [hadd, run_store P w _ v _ (h1 v (by simp)), hcell]
   simp [hfr]
  have hb1 : (w.setCell ⟨b, o + i, none⟩ v).heap[b]? = some (.cells (c.setIfInBounds (o + i) v) e (lo, hi)) := by
   simp [World.setCell, Array.getElem?_modify, hb]
  have hs2 : o + (i + 1) + vs.length ≤ (c.setIfInBounds (o + i) v).size := by rw [Array.size_setIfInBounds]; omega
  obtain ⟨w', c', r1, r2, r3, r4, r5, r6⟩ := run_put vs (i + 1) (w.setCell ⟨b, o + i, none⟩ v) (c.setIfInBounds (o + i) v) hb1 (by rw [Array.size_setIfInBounds]; exact hf) hs2 (fun v hv => h1 v (by simp [hv]))
  refine ⟨w', c', ?_, r2, by simpa using r3, ?_, ?_, ⟨r6.os, r6.tape, r6.output, by rw [r6.size]; simp [World.setCell], fun b' hb' => (r6.other b' hb').trans (Go.RowKit.Below.heap_setCell _ _ _ _ hb'), fun c2 e2 q2 h => by
   rw [hb] at h
   simp only [Option.some.injEq, Obj.cells.injEq] at h
   obtain ⟨rfl, rfl, rfl⟩ := h
   exact ⟨c', r2, by simpa using r3⟩⟩⟩
  ·simp only [storeCells, Sem.run_bind, hst, Result.andThen_ok]
   exact r1
  ·intro j hj
   cases j with
   | zero =>
    rw [Nat.add_zero, r5 (o + i) (.inl (by omega))]
    simp [hlt]
   | succ j =>
    have := r4 j (by simp at hj; omega)
    rw [show o + i + (j + 1) = o + (i + 1) + j by omega, this]
    simp
  ·intro k hk
   rw [r5 k (by simp at hk; omega)]
   rw [Array.getElem?_setIfInBounds_ne (by simp at hk; omega)]
theorem But.good {F : FP} {b : Nat} (h : But w w' b) (hb : 1 ≤ F b) (hg : Good R w F) : Good R w' F := ⟨hg.one, fun x hx => ⟨(hg.own x hx).1, by rw [h.size]; exact (hg.own x hx).2⟩, fun x hx => by rw [h.size]; exact hg.ro x hx, hg.inv.mono (fun _ h => h) (by rw [h.size]; exact Nat.le_refl _) fun x hx => h.other x (by rintro rfl; exact (hg.own x hb).1 hx)⟩
theorem But.fr {F : FP} {b : Nat} (h : But w w' b) (hb : 1 ≤ F b) : Fr R w F R w' F := ⟨h.os, h.tape, h.output, by rw [h.size]; exact Nat.le_refl _, fun x _ hx => h.other x (by rintro rfl; omega), fun _ h => h, fun _ h => .inl h, fun _ h => .inl h, fun x c e q hx => by
  by_cases hb : x = b
  ·subst hb; exact h.here c e q hx
  ·exact ⟨c, (h.other x hb).trans hx, rfl⟩⟩
theorem relT_one {t : T} {u : Value} {F : FP} (h : relT R w M t u F) : u.oneCell' = true ∧ u.cells = #[u] := by
 cases t <;> simp only [relT] at h
 case v x =>
  obtain ⟨rfl, h, -⟩ := h
  cases u <;> simp_all [scal, Value.oneCell', Value.cells]
 case ro sz rows =>
  obtain ⟨h, -⟩ := h
  simp only [relD] at h
  obtain ⟨a, cap, rfl, -⟩ := h
  exact ⟨rfl, rfl⟩
 case own sz rows => obtain ⟨L, a, cap, -, rfl, -⟩ := h; exact ⟨rfl, rfl⟩
 case ref l off len => obtain ⟨-, L, a, cap, -, rfl, -⟩ := h; exact ⟨rfl, rfl⟩
 case ptr l r c => obtain ⟨-, L, -, rfl⟩ := h; exact ⟨rfl, rfl⟩
 case rp row c => obtain ⟨-, b, o, c, e, q, rfl, -⟩ := h; exact ⟨rfl, rfl⟩
 case box row => obtain ⟨L, c, F', rfl, -⟩ := h; exact ⟨rfl, rfl⟩
 case fn bd f cap => obtain ⟨-, c, rfl, -⟩ := h; cases bd <;> exact ⟨rfl, rfl⟩
theorem relTRow_one : ∀ {ts : List T} {o : Nat} {F : FP}, relTRow R w M c ts o F → ∀ j, j < ts.length → ∃ u, c[o + j]? = some u ∧ u.oneCell' = true
 | [], o, F, h, j, hj => by simp at hj
 | t :: ts, o, F, h, j, hj => by
  simp only [relTRow] at h
  obtain ⟨u, F1, F2, h1, h2, h3, rfl⟩ := h
  cases j with
  | zero => exact ⟨u, h1, (relT_one h2).1⟩
  | succ j =>
   obtain ⟨v, h4, h5⟩ := relTRow_one h3 j (by simp at hj; omega)
   exact ⟨v, by rw [← h4]; congr 1; omega, h5⟩
/-- The cells of a value. -/
theorem cells1_rel {x : A1} {ts : List T} {v : Value} {F : FP} (h : cells1 x = some ts) (hr : relA1 R w M x v F) : v.cells.size = ts.length ∧ relTRow R w M v.cells ts 0 F ∧ ∀ u ∈ v.cells.toList, u.oneCell' = true := by
 cases x with
 | one t =>
  simp only [cells1, Option.some.injEq] at h
  subst h
  obtain ⟨h1, h2⟩ := relT_one hr
  rw [h2]
  refine ⟨rfl, ?_, by simpa using h1⟩
  simp only [relTRow]
  exact ⟨v, F, fz, rfl, hr, rfl, (fa_z F).symm⟩
 | agg ts' =>
  simp only [cells1, Option.some.injEq] at h
  subst h
  obtain ⟨c, rfl, h2, h3⟩ := hr
  refine ⟨h2, h3, fun u hu => ?_⟩
  obtain ⟨j, hj, rfl⟩ := List.getElem_of_mem hu
  have hj' : j < c.size := by simpa [Value.cells] using hj
  obtain ⟨u, h4, h5⟩ := relTRow_one h3 j (by omega)
  simp only [Nat.zero_add] at h4
  simp only [Value.cells, Array.getElem_toList]
  rw [Array.getElem?_eq_getElem hj', Option.some.injEq] at h4
  rw [h4]
  exact h5
 | any => simp [cells1] at h
theorem doStore_sound {H H' : List AObj} {i : TI} {p : T} {x : A1} (h : doStore H i p x = some H') {ty : TypeId} (ht : ti P ty = some i) {u v : Value} (hp : relT R w M p u fz) (hx : relA1 R w M x v fz) {F : FP} (hH : relHeap R w M H M F) (hg : Good R w F) :
  ∃ w' F', (Instr.storeAt ty u v).run P w = .ok () w' ∧ relHeap R w' M H' M F' ∧ Good R w' F' ∧ Fr R w F R w' F' := by
 unfold doStore at h
 split at h
 ·rename_i l r cc
  split at h
  ·rename_i sz rows ts hrows hts
   have hl := rowsAt_some hrows
   split at h
   ·rename_i row hrow
    split at h
    ·rename_i hsz
     obtain ⟨hsz1, hsz⟩ := hsz
     simp only [Option.some.injEq] at h
     subst h
     simp only [relT] at hp
     obtain ⟨-, L, hL, rfl⟩ := hp
     obtain ⟨L', F1, F2, hL', rfl, hobj, hput⟩ := relHeap_get hH hl
     rw [hL] at hL'
     simp only [Option.some.injEq] at hL'
     subst hL'
     obtain ⟨hLs, hobj⟩ := hobj
     rcases hobj with ⟨rfl, -⟩ | ⟨c, F', hB, hroom, hR, rfl⟩
     ·simp at hrow
     obtain ⟨hcs, hxr, hx1⟩ := cells1_rel hts hx
     obtain ⟨d, j, z, hd, hj, hz, -, hs, -, ha, -⟩ := ti_some ht
     obtain ⟨e, lo, hi, hblk, hfr, hext⟩ := hB
     have hr := (List.getElem?_eq_some_iff.1 hrow).1
     have hmul : (r + 1) * L.sz ≤ L.room * L.sz := Nat.mul_le_mul_right _ (by omega)
     rw [Nat.succ_mul] at hmul
     obtain ⟨G1, G2, -, hrl, -, -⟩ := relTRows_get hR hrow
     have hone := hg.one L.b
     simp only [fa, fd_self] at hone
     have hF'0 : F' L.b = 0 := by omega
     have hF20 : F2 L.b = 0 := by omega
     have hRb : ¬ R L.b := (hg.own L.b (by simp [fa, fd_self]; omega)).1
     obtain ⟨w', c', r1, r2, r3, r4, r5, r6⟩ := run_put (P := P) (b := L.b) (o := L.o + r * L.sz + cc) (e := e) (lo := lo) (hi := hi) v.cells.toList 0 w c hblk hfr (by simp; omega) hx1
     simp only [Nat.add_zero, Array.length_toList, hcs] at r4 r5
     have hsame : ∀ (G : FP), G L.b = 0 → ∀ b, R b ∨ 1 ≤ G b → w'.heap[b]? = w.heap[b]? := fun G hG b hb => r6.other b (by rintro rfl; rcases hb with hb | hb; exact hRb hb; omega)
     have hR' := relTRows_mono (R' := R) (fun _ h => h) (List.prefix_refl M) c L.sz rows L.o F' (hsame F' hF'0) hR
     obtain ⟨K1, K2, hKF, hrl', hrr, hback⟩ := relTRows_get hR' hrow
     have hsplit : row = row.take cc ++ (((row.drop cc).take i.size) ++ row.drop (cc + i.size)) := by
      rw [← List.drop_drop, List.take_append_drop, List.take_append_drop]
     rw [hsplit, relTRow_append] at hrr
     obtain ⟨Fa, Fb, ha', hb, rfl⟩ := hrr
     rw [relTRow_append] at hb
     obtain ⟨Fs, Fc, hs', hc, rfl⟩ := hb
     have hseg : ((row.drop cc).take i.size).length = i.size := by simp; omega
     have htk : (row.take cc).length = cc := by simp; omega
     rw [htk] at hs' hc
     rw [hseg] at hc
     have hnew := hback M c' (splice row cc ts) (fa Fa (fa fz Fc)) (List.prefix_refl M) ⟨r3, fun k hk => r5 k (by omega)⟩ (by simp [splice]; omega) (by
      unfold splice
      rw [List.append_assoc, relTRow_append, htk]
      refine ⟨Fa, fa fz Fc, relTRow_same (fun k _ hk => r5 k (.inl (by rw [htk] at hk; exact hk))) ha', ?_, rfl⟩
      rw [relTRow_append, hsz1]
      refine ⟨fz, Fc, ?_, relTRow_same (fun k hk _ => r5 k (.inr (by omega))) hc, rfl⟩
      refine relTRow_mono (fun _ h => h) (List.prefix_refl M) c' ts _ fz (hsame fz rfl) (relTRow_shift (fun k hk => ?_) hxr)
      rw [r4 k hk, Nat.zero_add]
      simp)
     have hfin := hput R w' M (.live sz (rows.set r (splice row cc ts))) _ (fun _ h => h) (List.prefix_refl _) (hsame F2 hF20) ⟨hLs, .inr ⟨c', _, ⟨e, lo, hi, r2, by rw [r3]; exact hfr, by rw [r3]; exact hext⟩, by simpa using hroom, hnew, rfl⟩⟩
     refine ⟨w', _, ?_, hfin, ?_, ?_⟩
     ·simp only [Instr.storeAt, Instr.sureAddr, Sem.run_bind, Sem.run_pure, Result.andThen_ok, storeVar, run_size hj]
      rw [if_neg (by rw [hcs, hsz1, hs]; simp)]
      exact r1
     ·refine (r6.good (by simp only [fa, fd_self]; omega) hg).le (fun x => ?_)
      rw [hKF]
      simp only [fa, fz]
      omega
     ·refine (r6.fr (F := fa (fa (fd L.b) F') F2) (by simp [fa, fd_self]; omega)).le (fun x => ?_)
      rw [hKF]
      simp only [fa, fz]
      omega
    ·simp at h
   ·simp at h
  ·simp at h
 ·simp at h
/-! ### New memory -/
theorem push_old (w : World) (o : Obj) {b : Nat} (h : b < w.heap.size) : ({ w with heap := w.heap.push o } : World).heap[b]? = w.heap[b]? := by
 simp only
 rw [Array.getElem?_push, if_neg (by omega)]
theorem push_new (w : World) (o : Obj) : ({ w with heap := w.heap.push o } : World).heap[w.heap.size]? = some o := by simp
/-- A new row of cells, named. What is in it was owned by nobody, or is given up (Fn). 'w1' is the old world, perhaps with a draw. -/
theorem newObj_sound {H : List AObj} {F Fn : FP} {cs : Array Value} {e : TypeId} {lo hi : Nat} {sz room : Nat} {rows : List (List T)} {w1 : World} (hw1 : w1 = { w with heap := w.heap.push (.cells cs e (lo, hi)), drawn := w1.drawn })
  (hH : relHeap R w M H M F) (hg : Good R w (fa F Fn)) (hq : hi ≤ lo ∨ cs.size ≤ lo) (hr : relTRows R w M cs sz rows 0 Fn) (hroom : rows.length ≤ room) (hext : room * sz ≤ cs.size) :
  relHeap R w1 (M ++ [⟨w.heap.size, 0, sz, room⟩]) (H ++ [.live sz rows]) (M ++ [⟨w.heap.size, 0, sz, room⟩]) (fa F (fa (fd w.heap.size) Fn)) ∧ Good R w1 (fa F (fa (fd w.heap.size) Fn)) ∧ Fr R w (fa F Fn) R w1 (fa F (fa (fd w.heap.size) Fn)) ∧ (∀ b, b < w.heap.size → w1.heap[b]? = w.heap[b]?) := by
 have hold : ∀ b, b < w.heap.size → w1.heap[b]? = w.heap[b]? := fun b hb => by rw [hw1]; exact push_old w _ hb
 have hnew : w1.heap[w.heap.size]? = some (.cells cs e (lo, hi)) := by rw [hw1]; exact push_new w _
 have hsize : w1.heap.size = w.heap.size + 1 := by rw [hw1]; simp
 have hlt : ∀ b, R b ∨ 1 ≤ (fa F Fn) b → w1.heap[b]? = w.heap[b]? := fun b hb => hold b (by
  rcases hb with hb | hb
  ·exact hg.ro b hb
  ·exact (hg.own b hb).2)
 have h0 : ∀ b, w.heap.size ≤ b → F b = 0 ∧ Fn b = 0 := fun b hb => by
  have : ¬ 1 ≤ (fa F Fn) b := fun h => by have := (hg.own b h).2; omega
  simp only [fa] at this
  omega
 refine ⟨?_, ⟨fun b => ?_, fun b hb => ?_, fun b hb => by have := hg.ro b hb; omega, hg.inv.mono (fun _ h => h) (by omega) fun b hb => hold b (hg.ro b hb)⟩, ?_, hold⟩
 ·refine relHeap_push (relHeap_mono (fun _ h => h) (prefix_self M _) (fun b hb => hlt b (hb.imp_right fun h => by simp only [fa]; omega)) hH) ⟨rfl, .inr ⟨cs, Fn, ⟨e, lo, hi, hnew, hq, by simpa using hext⟩, hroom, ?_, rfl⟩⟩
  exact relTRows_mono (fun _ h => h) (prefix_self M _) cs sz rows 0 Fn (fun b hb => hlt b (hb.imp_right fun h => by simp only [fa]; omega)) hr
 ·have h1 := hg.one b
  simp only [fa, fd] at h1 ⊢
  split
  ·have := h0 b (by omega); omega
  ·omega
 ·simp only [fa, fd] at hb
  by_cases hbs : b = w.heap.size
  ·subst hbs
   exact ⟨fun h => by have := hg.ro _ h; omega, by omega⟩
  ·rw [if_neg hbs] at hb
   have := hg.own b (by simp only [fa]; omega)
   exact ⟨this.1, by omega⟩
 ·refine ⟨by rw [hw1], by rw [hw1], by rw [hw1], by omega, fun b hb _ => hold b hb, fun _ h => h, fun b hb => ?_, fun b hb => .inl hb, fun b c e q hb => ⟨c, (hold b (Array.getElem?_eq_some_iff.1 hb).1).trans hb, rfl⟩⟩
  simp only [fa, fd] at hb ⊢
  by_cases hbs : b = w.heap.size
  ·exact .inr (by omega)
  ·rw [if_neg hbs] at hb
   left
   omega
end Go.Proofs.YtejnpiielcbkkaaGreat.E
end
section
namespace Go.Proofs.YtejnpiielcbkkaaGreat.E
variable {P : Program} {R R' : Nat → Prop} {w w' : World} {M M' : List Loc} {c : Array Value}
/-! ### A row laid into a row -/
def lay (c : Array Value) (off : Nat) (vs : List Value) : Array Value := vs.zipIdx.foldl (fun cs (x : Value × Nat) => cs.setIfInBounds (off + x.2) x.1) c
theorem lay_go : ∀ (vs : List Value) (n off : Nat) (c : Array Value), ((vs.zipIdx n).foldl (fun cs (x : Value × Nat) => cs.setIfInBounds (off + x.2) x.1) c).size = c.size ∧
  (∀ j, j < vs.length → off + n + vs.length ≤ c.size → ((vs.zipIdx n).foldl (fun cs (x : Value × Nat) => cs.setIfInBounds (off + x.2) x.1) c)[off + n + j]? = vs[j]?) ∧
  ∀ k, k < off + n ∨ off + n + vs.length ≤ k → ((vs.zipIdx n).foldl (fun cs (x : Value × Nat) => cs.setIfInBounds (off + x.2) x.1) c)[k]? = c[k]?
 | [], n, off, c => ⟨rfl, fun j hj => by simp at hj, fun _ _ => rfl⟩
 | v :: vs, n, off, c => by
  obtain ⟨h1, h2, h3⟩ := lay_go vs (n + 1) off (c.setIfInBounds (off + n) v)
  simp only [List.zipIdx_cons, List.foldl_cons]
  refine ⟨by rw [h1]; simp, fun j hj hs => ?_, fun k hk => ?_⟩
  ·simp only [List.length_cons] at hj hs
   cases j with
   | zero =>
    refine (h3 (off + n) (.inl (by omega))).trans ?_
    have hlt : off + n < c.size := by omega
    simp [hlt]
   | succ j =>
    have := h2 j (by omega) (by simp; omega)
    rw [show off + n + (j + 1) = off + (n + 1) + j by omega, this]
    simp
  ·rw [h3 k (by simp at hk; omega), Array.getElem?_setIfInBounds_ne (by simp at hk; omega)]
theorem lay_eq (c : Array Value) (off : Nat) (v : Value) : v.cells.zipIdx.foldl (fun cs (x : Value × Nat) => cs.setIfInBounds (off + x.2) x.1) c = lay c off v.cells.toList := by
 unfold lay
 rw [← Array.foldl_toList, Array.toList_zipIdx]
theorem lay_rel {row ts : List T} {off : Nat} {vs : List Value} (hr : relTRow R w M c row 0 fz) (hlen : c.size = row.length) (hts : relTRow R w M vs.toArray ts 0 fz) (hl : vs.length = ts.length) (ho : off + ts.length ≤ row.length) :
  relTRow R w M (lay c off vs) (splice row off ts) 0 fz ∧ (lay c off vs).size = (splice row off ts).length := by
 obtain ⟨h1, h2, h3⟩ := lay_go vs 0 off c
 simp only [Nat.add_zero] at h1 h2 h3
 have hsplit : row = row.take off ++ (((row.drop off).take ts.length) ++ row.drop (off + ts.length)) := by
  rw [← List.drop_drop, List.take_append_drop, List.take_append_drop]
 rw [hsplit, relTRow_append] at hr
 obtain ⟨Fa, Fb, ha, hb, he⟩ := hr
 rw [relTRow_append] at hb
 obtain ⟨Fs, Fc, hs, hc, rfl⟩ := hb
 have hz : ∀ x, Fa x = 0 ∧ Fc x = 0 := fun x => by
  have := congrFun he x
  simp only [fz, fa] at this
  omega
 have hFa : Fa = fz := funext fun x => (hz x).1
 have hFc : Fc = fz := funext fun x => (hz x).2
 subst hFa hFc
 have htk : (row.take off).length = off := by simp; omega
 have hseg : ((row.drop off).take ts.length).length = ts.length := by simp; omega
 rw [htk] at hc hs
 rw [hseg] at hc
 refine ⟨?_, by unfold lay; rw [h1, hlen]; simp [splice]; omega⟩
 unfold splice lay
 rw [List.append_assoc, relTRow_append, htk]
 refine ⟨fz, fz, relTRow_same (fun k _ hk => h3 k (.inl (by rw [htk] at hk; omega))) ha, ?_, rfl⟩
 rw [relTRow_append]
 refine ⟨fz, fz, relTRow_shift (fun k hk => ?_) hts, relTRow_same (fun k hk _ => h3 k (.inr (by omega))) hc, rfl⟩
 have := h2 k (by omega) (by omega)
 rw [Nat.zero_add, this, Nat.zero_add]
 simp
/-! ### Struct literals -/
def relParts (R : Nat → Prop) (w : World) (M : List Loc) : List (Nat × A1) → List (Nat × Value) → Prop
 | [], [] => True
 | (k, x) :: r, (j, v) :: s => k = j ∧ relA1 R w M x v fz ∧ relParts R w M r s
 | _, _ => False
theorem fill_rel {fs : List (Nat × Nat × Bool)} {place : Nat → Option (Nat × Nat)} (hp : ∀ k, place k = (fs[k]?).map fun x => (x.1, x.2.1)) : ∀ {parts : List (Nat × A1)} {vs : List (Nat × Value)} {row row' : List T} {c : Array Value},
  relParts R w M parts vs → fillA fs row parts = some row' → relTRow R w M c row 0 fz → c.size = row.length → ∃ c', Instr.fill place c vs = some c' ∧ relTRow R w M c' row' 0 fz ∧ c'.size = row'.length
 | [], [], row, row', c, hv, h, hr, hl => by
  simp only [fillA, Option.some.injEq] at h
  subst h
  exact ⟨c, rfl, hr, hl⟩
 | (k, x) :: parts, (j, v) :: vs, row, row', c, hv, h, hr, hl => by
  obtain ⟨rfl, hx, hrest⟩ := hv
  simp only [fillA] at h
  split at h
  ·rename_i off sz ag ts hk hts
   split at h
   ·rename_i hc
    obtain ⟨rfl, hle⟩ := hc
    obtain ⟨q1, q2, -⟩ := cells1_rel hts hx
    obtain ⟨g1, g2⟩ := lay_rel (vs := v.cells.toList) hr hl (by simpa using q2) (by simpa using q1) hle
    obtain ⟨c', f1, f2, f3⟩ := fill_rel hp hrest h g1 g2
    refine ⟨c', ?_, f2, f3⟩
    simp only [Instr.fill, hp, hk, Option.map_some]
    rw [if_neg (by simp [q1]; omega)]
    rw [← f1, ← lay_eq]
   ·simp at h
  ·simp at h
 | [], _ :: _, row, row', c, hv, h, hr, hl => hv.elim
 | _ :: _, [], row, row', c, hv, h, hr, hl => hv.elim
theorem scal_row : ∀ {zs : List Value} {o : Nat} {c : Array Value}, zs.all scal = true → (∀ j, j < zs.length → c[o + j]? = zs[j]?) → relTRow R w M c (zs.map T.v) o fz
 | [], o, c, h, hc => by simp [relTRow]
 | z :: zs, o, c, h, hc => by
  simp only [List.all_cons, Bool.and_eq_true] at h
  simp only [List.map_cons, relTRow]
  refine ⟨z, fz, fz, by have := hc 0 (by simp); simpa using this, by simp [relT, h.1], scal_row h.2 (fun j hj => ?_), rfl⟩
  have := hc (j + 1) (by simp; omega)
  rw [show o + 1 + j = o + (j + 1) by omega, this]
  simp
theorem zero_rel {zs : List Value} (h : zs.all scal = true) : relTRow R w M zs.toArray (zs.map T.v) 0 fz := scal_row h (fun j hj => by simp)
theorem fieldInfo_some {f : Field} {y : Nat × Nat × Bool} (h : fieldInfo P f = some y) : ∃ i d, P.info? f.type = some i ∧ P.underlying f.type = some d ∧ y = (f.offset, i.size, aggB P f.type) := by
 unfold fieldInfo at h
 split at h
 ·rename_i i d hi hd
  simp only [Option.some.injEq] at h
  exact ⟨i, d, hi, hd, h.symm⟩
 ·simp at h
theorem places_of {l : List Field} {r : List (Nat × Nat × Bool)} (h : l.mapM (fieldInfo P) = some r) :
  l.mapM (fun f => (P.info? f.type).map fun i => (f.offset, i.size)) = some (r.map fun x => (x.1, x.2.1)) := by
 induction l generalizing r with
 | nil => simp at h; subst h; rfl
 | cons f l ih =>
  simp only [List.mapM_cons, Option.bind_eq_bind, Option.pure_def] at h ⊢
  cases hi : fieldInfo P f with
  | none => simp [hi] at h
  | some y =>
   cases hr : l.mapM (fieldInfo P) with
   | none => simp [hi, hr] at h
   | some rest =>
    simp [hi, hr] at h
    subst h
    obtain ⟨i, d, h1, h2, rfl⟩ := fieldInfo_some hi
    simp [ih hr, h1]
theorem doBuild_sound {t : TypeId} {i : TI} (ht : ti P t = some i) {fs : List (Nat × Nat × Bool)} (hk : i.k = .st fs) (hz : i.zero.all scal = true) {parts : List (Nat × A1)} {vs : Array (Nat × Value)} (hv : relParts R w M parts vs.toList) {row : List T} (h : fillA fs (i.zero.map T.v) parts = some row) :
  ∃ v, (Instr.build t vs).run P w = .ok v w ∧ relA1 R w M (.agg row) v fz := by
 obtain ⟨d, j, z, hd, hj, hz', hkk, hs, hb, ha, hzz⟩ := ti_some ht
 rw [hkk] at hk
 cases d <;> simp only [kindOf] at hk <;> try (simp at hk; done)
 rename_i fields
 split at hk
 ·rename_i l hl
  simp only [TK.st.injEq] at hk
  subst hk
  have hpl := places_of hl
  obtain ⟨c', f1, f2, f3⟩ := fill_rel (c := z.cells) (place := fun k => ((l.map fun x => (x.1, x.2.1)).toArray)[k]?) (fun k => by simp) hv h (by
   have := zero_rel (R := R) (w := w) (M := M) hz
   rw [hzz] at this ⊢
   simpa using this) (by rw [hzz]; simp)
  refine ⟨.agg c', run_build w t vs c' ?_, c', rfl, f3, f2⟩
  unfold Program.built
  simp only [hj, hd, hz', hpl]
  exact f1
 ·simp at hk
/-! ### List literals -/
theorem rowsA_len {size : Nat} : ∀ {n : Nat} {parts : List (Nat × A1)} {rows : List (List T)}, rowsA size n parts = some rows → rows.length = parts.length
 | n, [], rows, h => by simp only [rowsA, Option.some.injEq] at h; subst h; rfl
 | n, (k, x) :: rest, rows, h => by
  simp only [rowsA] at h
  split at h
  ·rename_i ts r h1 h2
   split at h
   ·simp only [Option.some.injEq] at h
    subst h
    simp [rowsA_len h2]
   ·simp at h
  ·simp at h
theorem rowsA_rel {size : Nat} : ∀ {parts : List (Nat × A1)} {vs : List (Nat × Value)} {rows : List (List T)} {n : Nat} {c : Array Value},
  relParts R w M parts vs → rowsA size n parts = some rows → (n + rows.length) * size ≤ c.size → ∃ c', Instr.fill (fun i => some (i * size, size)) c vs = some c' ∧ c'.size = c.size ∧ (∀ k, k < n * size → c'[k]? = c[k]?) ∧ relTRows R w M c' size rows (n * size) fz
 | [], [], rows, n, c, hv, h, hc => by
  simp only [rowsA, Option.some.injEq] at h
  subst h
  exact ⟨c, rfl, rfl, fun _ _ => rfl, by simp [relTRows]⟩
 | (k, x) :: parts, (j, v) :: vs, rows, n, c, hv, h, hc => by
  obtain ⟨rfl, hx, hrest⟩ := hv
  simp only [rowsA] at h
  split at h
  ·rename_i ts r hts hr
   split at h
   ·rename_i hk
    obtain ⟨rfl, hl⟩ := hk
    simp only [Option.some.injEq] at h
    subst h
    obtain ⟨q1, q2, -⟩ := cells1_rel hts hx
    obtain ⟨g1, g2, g3⟩ := lay_go v.cells.toList 0 (k * size) c
    simp only [Nat.add_zero, Array.length_toList, q1, hl] at g1 g2 g3
    have hc2 : k * size + size + r.length * size ≤ c.size := by
     rw [List.length_cons, Nat.add_mul, Nat.succ_mul] at hc
     omega
    obtain ⟨c', f1, f2, f3, f4⟩ := rowsA_rel (c := lay c (k * size) v.cells.toList) hrest hr (by
     unfold lay
     rw [g1, Nat.add_mul, Nat.succ_mul]
     omega)
    unfold lay at f2
    refine ⟨c', ?_, by rw [f2, g1], fun i hi => ?_, ?_⟩
    ·simp only [Instr.fill]
     rw [if_neg (by simp [q1, hl]; omega), lay_eq]
     exact f1
    ·rw [f3 i (by rw [Nat.succ_mul]; omega)]
     unfold lay
     exact g3 i (.inl hi)
    ·simp only [relTRows]
     rw [show k * size + size = (k + 1) * size by rw [Nat.succ_mul]]
     refine ⟨fz, fz, hl, relTRow_shift (fun i hi => ?_) q2, f4, rfl⟩
     rw [f3 (k * size + i) (by rw [Nat.succ_mul]; omega)]
     unfold lay
     have := g2 i (by omega) (by omega)
     rw [this, Nat.zero_add]
     simp
   ·simp at h
  ·simp at h
 | [], _ :: _, rows, n, c, hv, h, hc => hv.elim
 | _ :: _, [], rows, n, c, hv, h, hc => hv.elim
end Go.Proofs.YtejnpiielcbkkaaGreat.E
end
section
namespace Go.Proofs.YtejnpiielcbkkaaGreat.E
variable {P : Program} {R R' : Nat → Prop} {w w' : World} {M M' : List Loc} {c : Array Value}
theorem idx_some {i : Int} {n k : Nat} (h : idx i n = some k) : i = (k : Int) ∧ k < n := by
 unfold idx at h
 split at h
 ·simp only [Option.some.injEq] at h; omega
 ·simp at h
theorem bnds_some {lo hi : Int} {n a b : Nat} (h : bnds lo hi n = some (a, b)) : lo = (a : Int) ∧ hi = (b : Int) ∧ a ≤ b ∧ b ≤ n := by
 unfold bnds at h
 split at h
 ·simp only [Option.some.injEq, Prod.mk.injEq] at h; omega
 ·simp at h
theorem heap_sz {H : List AObj} {F : FP} {l sz : Nat} {rows : List (List T)} {L : Loc} (hH : relHeap R w M H M F) (hl : H[l]? = some (.live sz rows)) (hL : M[l]? = some L) : L.sz = sz := by
 obtain ⟨L', F1, F2, hL', -, hobj, -⟩ := relHeap_get hH hl
 rw [hL] at hL'
 simp only [Option.some.injEq] at hL'
 subst hL'
 exact hobj.1
theorem indexAt_sound {H : List AObj} {F : FP} {i : Int} {k : IntKind} {t t' : T} {u : Value} {ty e : TypeId} {j : TypeInfo} (h : doIndexAddr H j.size i t = some t') (hd : P.underlying ty = some (.slice e)) (hj : P.info? e = some j) (hr : relT R w M t u fz) (hH : relHeap R w M H M F) :
  ∃ v, (Instr.indexAt ty u (.int k i)).run P w = .ok v w ∧ relT R w M t' v fz := by
 unfold doIndexAddr at h
 split at h
 ·rename_i l off len
  split at h
  ·rename_i sz rows kk hrows hidx
   split at h
   ·rename_i hsz
    simp only [Option.some.injEq] at h
    subst h
    obtain ⟨rfl, hlt⟩ := idx_some hidx
    simp only [relT] at hr
    obtain ⟨-, L, a, cap, hL, rfl, hcap, hroom, ha⟩ := hr
    have hsz2 := heap_sz hH (rowsAt_some hrows) hL
    have ha2 := ha.resolve_left (by omega)
    subst ha2
    refine ⟨.pointer (some ⟨L.b, L.o + off * L.sz + kk * j.size, none⟩), ?_, ?_⟩
    ·simp [Instr.indexAt, asIntOf, run_underlying hd, run_size hj, hlt, Addr.add_lit]
    ·simp only [relT]
     exact ⟨trivial, L, hL, by rw [hsz2, hsz, Nat.add_mul, Nat.add_zero, Nat.add_assoc]⟩
   ·simp at h
  ·simp at h
 ·rename_i sz rows
  split at h
  ·rename_i kk hidx
   split at h
   ·rename_i row hrow
    split at h
    ·rename_i hsz
     simp only [Option.some.injEq] at h
     subst h hsz
     obtain ⟨rfl, hlt⟩ := idx_some hidx
     simp only [relT, relD] at hr
     obtain ⟨⟨a, cap, rfl, hcap, hx⟩, -⟩ := hr
     rcases hx with rfl | ⟨b, o, c, e', q, rfl, hR, hb, hrr⟩
     ·simp at hlt
     obtain ⟨g1, g2⟩ := relDRows_get hrr hrow
     refine ⟨.pointer (some ⟨b, o + kk * j.size, none⟩), ?_, ?_⟩
     ·simp [Instr.indexAt, asIntOf, run_underlying hd, run_size hj, hlt, Addr.add_lit]
     ·simp only [relT]
      exact ⟨trivial, b, o + kk * j.size, c, e', q, rfl, hR, hb, g2⟩
    ·simp at h
   ·simp at h
  ·simp at h
 ·simp at h
/-- A bound that is told, or not. -/
def relB (d : Int) : Option Value → Int → Prop
 | none, i => i = d
 | some v, i => ∃ k, v = .int k i
theorem run_bounds {isS : Bool} {len cap : Nat} {lo hi : Option Value} {a b : Nat} (hlo : relB 0 lo (a : Int)) (hhi : relB len hi (b : Int)) (h1 : a ≤ b) (h2 : b ≤ cap) :
  (Instr.sliceBounds isS len cap lo hi none).run P w = .ok (a, b, cap) w := by
 have hb : ∀ (k : IntKind) (y : Nat) (n : Nat) (code : BoundsCode), n ≤ y → (Instr.sliceBound (.int k (n : Int)) y code).run P w = .ok n w := fun k y n code h => by
  rw [run_sliceBound w k n y code (by omega) (by omega)]
  simp
 cases lo with
 | none =>
  have : a = 0 := by simpa [relB] using hlo
  subst this
  cases hi with
  | none =>
   have : b = len := by
    simp only [relB] at hhi
    omega
   subst this
   simp [Instr.sliceBounds]
  | some v =>
   obtain ⟨k, rfl⟩ := hhi
   simp [Instr.sliceBounds, hb, h2]
 | some u =>
  obtain ⟨k, rfl⟩ := hlo
  cases hi with
  | none =>
   have : b = len := by
    simp only [relB] at hhi
    omega
   subst this
   simp [Instr.sliceBounds, hb, h1]
  | some v =>
   obtain ⟨k, rfl⟩ := hhi
   simp [Instr.sliceBounds, hb, h1, h2]
theorem sliceAt_sound {H : List AObj} {F : FP} {lo hi : Int} {vlo vhi : Option Value} {t t' : T} {u : Value} {ty e : TypeId} {j : TypeInfo} (h : doSlice H j.size lo hi t = some t') (hd : P.underlying ty = some (.slice e)) (hj : P.info? e = some j) (hr : relT R w M t u fz) (hH : relHeap R w M H M F)
  (hlo : relB 0 vlo lo) (hhi : ∀ n, lenT t = some n → relB n vhi hi) :
  ∃ v, (Instr.sliceAt ty u vlo vhi none).run P w = .ok v w ∧ relT R w M t' v fz := by
 unfold doSlice at h
 split at h
 ·split at h
  ·rename_i x hb
   obtain ⟨a, b⟩ := x
   simp only [Option.some.injEq] at h
   subst h
   obtain ⟨rfl, rfl, h1, h2⟩ := bnds_some hb
   simp only [relT] at hr
   obtain ⟨rfl, -, -⟩ := hr
   have hb := run_bounds (P := P) (w := w) (isS := true) hlo (hhi 0 rfl) h1 h2
   refine ⟨.slice none 0 0, ?_, by simp [relT, scal]⟩
   have h0 : a = 0 := by omega
   have h00 : b = 0 := by omega
   subst h0 h00
   simp only [Instr.sliceAt, Sem.run_bind, run_underlying hd, Result.andThen_ok, Instr.slice, hb, run_size hj]
   rfl
  ·simp at h
 ·rename_i sz rows
  split at h
  ·rename_i a b hb
   split at h
   ·rename_i hsz
    simp only [Option.some.injEq] at h
    subst h hsz
    obtain ⟨rfl, rfl, h1, h2⟩ := bnds_some hb
    simp only [relT, relD] at hr
    obtain ⟨⟨ad, cap, rfl, hcap, hx⟩, -⟩ := hr
    have hb := run_bounds (P := P) (w := w) (isS := true) hlo (hhi rows.length rfl) h1 (Nat.le_trans h2 hcap)
    refine ⟨.slice (if cap = a then ad else ad.map (·.add (a * j.size))) (b - a) (cap - a), ?_, ?_⟩
    ·simp only [Instr.sliceAt, Sem.run_bind, run_underlying hd, Result.andThen_ok, Instr.slice, hb, run_size hj]
     rfl
    ·simp only [relT, relD]
     refine ⟨⟨_, _, by congr 1; simp; omega, by simp; omega, ?_⟩, trivial⟩
     by_cases hz : (rows.take b).drop a = []
     ·exact .inl hz
     ·right
      have hlen : a < b := by
       by_cases hab : a < b
       ·exact hab
       ·exact absurd (by simp; omega) hz
      rcases hx with rfl | ⟨bb, o, c, e', q, rfl, hR, hbb, hrr⟩
      ·simp at hz
      refine ⟨bb, o + a * j.size, c, e', q, ?_, hR, hbb, relDRows_drop a (relDRows_take b hrr)⟩
      rw [if_neg (by omega)]
      simp [Addr.add_lit]
   ·simp at h
  ·simp at h
 ·rename_i l off len
  split at h
  ·rename_i sz rows a b hrows hb
   split at h
   ·rename_i hsz
    simp only [Option.some.injEq] at h
    subst h
    obtain ⟨rfl, rfl, h1, h2⟩ := bnds_some hb
    simp only [relT] at hr
    obtain ⟨-, L, ad, cap, hL, rfl, hcap, hroom, ha⟩ := hr
    have hsz2 := heap_sz hH (rowsAt_some hrows) hL
    have hb := run_bounds (P := P) (w := w) (isS := true) hlo (hhi len rfl) h1 (Nat.le_trans h2 hcap)
    refine ⟨.slice (if cap = a then ad else ad.map (·.add (a * j.size))) (b - a) (cap - a), ?_, ?_⟩
    ·simp only [Instr.sliceAt, Sem.run_bind, run_underlying hd, Result.andThen_ok, Instr.slice, hb, run_size hj]
     rfl
    ·simp only [relT]
     refine ⟨trivial, L, _, _, hL, rfl, by omega, by omega, ?_⟩
     by_cases hz : cap = a
     ·exact .inl (by omega)
     ·right
      rw [if_neg hz, ha.resolve_left (by omega)]
      simp only [Option.map_some, Addr.add_lit]
      rw [hsz2, hsz, Nat.add_mul, Nat.add_assoc]
   ·simp at h
  ·simp at h
 ·simp at h
theorem sliceAtS_sound {lo hi : Int} {vlo vhi : Option Value} {t t' : T} {u : Value} {ty : TypeId} (h : doSliceS lo hi t = some t') (hd : P.underlying ty = some .string) (hr : relT R w M t u fz)
  (hlo : relB 0 vlo lo) (hhi : ∀ n, lenT t = some n → relB n vhi hi) :
  ∃ v, (Instr.sliceAt ty u vlo vhi none).run P w = .ok v w ∧ relT R w M t' v fz := by
 unfold doSliceS at h
 split at h
 ·rename_i s
  split at h
  ·rename_i a b hb
   simp only [Option.some.injEq] at h
   subst h
   obtain ⟨rfl, rfl, h1, h2⟩ := bnds_some hb
   simp only [relT] at hr
   obtain ⟨rfl, -, -⟩ := hr
   have hb := run_bounds (P := P) (w := w) (isS := false) hlo (hhi s.size rfl) h1 h2
   refine ⟨.string (s.extract a b), ?_, by simp [relT, scal]⟩
   simp [Instr.sliceAt, Sem.run_bind, run_underlying hd, Result.andThen_ok, Instr.slice, hb]
  ·simp at h
 ·simp at h
end Go.Proofs.YtejnpiielcbkkaaGreat.E
end
section
namespace Go.Proofs.YtejnpiielcbkkaaGreat.E
variable {P : Program} {R R' : Nat → Prop} {w w' : World} {M M' : List Loc} {c : Array Value}
theorem relTRows_replicate {sz : Nat} {zs : List Value} (hz : zs.all scal = true) (hl : zs.length = sz) : ∀ (n o : Nat), (∀ i j, i < n → j < sz → c[o + i * sz + j]? = zs[j]?) → relTRows R w M c sz (List.replicate n (zs.map T.v)) o fz
 | 0, o, h => by simp [relTRows]
 | n + 1, o, h => by
  simp only [List.replicate_succ, relTRows]
  refine ⟨fz, fz, by simpa using hl, scal_row hz (fun j hj => ?_), relTRows_replicate hz hl n (o + sz) (fun i j hi hj => ?_), rfl⟩
  ·have := h 0 j (by omega) (by omega)
   simpa using this
  ·have := h (i + 1) j (by omega) hj
   rw [show o + sz + i * sz + j = o + (i + 1) * sz + j by rw [Nat.succ_mul]; omega]
   exact this
theorem madeCells_get {z : Value} {zs : List Value} (hz : z.cells.toList = zs) {n i j : Nat} (hi : i < n) (hj : j < zs.length) : (madeCells z.cells (n * zs.length))[i * zs.length + j]? = zs[j]? := by
 have h1 : i * zs.length + j < n * zs.length := by
  have : (i + 1) * zs.length ≤ n * zs.length := Nat.mul_le_mul_right _ (by omega)
  rw [Nat.succ_mul] at this
  omega
 have hs : z.cells.size = zs.length := by rw [← hz]; simp
 simp only [madeCells]
 rw [Array.getElem?_map, Array.getElem?_range, if_pos h1]
 simp only [Option.map_some]
 rw [hs, Nat.mul_comm i, Nat.mul_add_mod, Nat.mod_eq_of_lt hj]
 have hj' : j < z.cells.size := by omega
 rw [getElem!_pos z.cells j hj']
 rw [← hz]
 simp [hj']
theorem make_sound {H : List AObj} {F : FP} {n : Int} {kl kc : IntKind} {ty e : TypeId} {i : TI} (he : ti P e = some i) (hd : P.underlying ty = some (.slice e)) (hz : i.zero.all scal = true) (hzl : i.zero.length = i.size) (h0 : 0 ≤ n) (hb : (i.bytes : Int) * n ≤ 140737488355328) (hby : 1 ≤ i.bytes)
  (hH : relHeap R w M H M F) (hg : Good R w F) :
  ∃ v w' N F', (Instr.makeSlice ty (.int kl n) (.int kc n)).run P w = .ok v w' ∧ relT R w' (M ++ N) (.ref H.length 0 n.toNat) v fz ∧ relHeap R w' (M ++ N) (H ++ [.live i.size (List.replicate n.toNat (i.zero.map T.v))]) (M ++ N) F' ∧ Good R w' F' ∧ Fr R w F R w' F' := by
 obtain ⟨d, j, z, hd', hj, hz', hkk, hs, hb', ha, hzz⟩ := ti_some he
 have hbi : (1 : Int) ≤ (i.bytes : Int) := by omega
 have hn : n ≤ 140737488355328 := by
  have : n * 1 ≤ n * (i.bytes : Int) := Int.mul_le_mul_of_nonneg_left hbi h0
  rw [Int.mul_comm] at hb
  omega
 have hr := run_make (P := P) w ty e j z hd hj hz' kl kc n n h0 (Int.le_refl _) (by rw [← hb']; omega) (by omega)
 have hsize : (madeCells z.cells (n.toNat * j.size)).size = n.toNat * i.size := by simp [madeCells, hs]
 obtain ⟨q1, q2, q3, q4⟩ := newObj_sound (M := M) (H := H) (F := F) (Fn := fz) (cs := madeCells z.cells (n.toNat * j.size)) (e := e) (lo := 0) (hi := 0) (sz := i.size) (room := n.toNat) (rows := List.replicate n.toNat (i.zero.map T.v))
  (w1 := w.alloc (.cells (madeCells z.cells (n.toNat * j.size)) e)) rfl hH (by rw [fa_z]; exact hg) (.inl (Nat.le_refl _)) (relTRows_replicate hz hzl _ 0 (fun a b ha hb => by
   rw [Nat.zero_add, ← hs, ← hzl]
   exact madeCells_get hzz.symm ha (by omega))) (by simp) (by rw [hsize]; exact Nat.le_refl _)
 rw [fa_z] at q3
 refine ⟨_, _, [⟨w.heap.size, 0, i.size, n.toNat⟩], _, hr, ?_, q1, q2, q3⟩
 simp only [relT]
 exact ⟨trivial, ⟨w.heap.size, 0, i.size, n.toNat⟩, some ⟨w.heap.size, 0, none⟩, n.toNat, by rw [relHeap_len hH]; simp, rfl, Nat.le_refl _, by simp, .inr (by simp)⟩
/-- A list literal. -/
theorem buildSlice_sound {H : List AObj} {F : FP} {ty e : TypeId} {i : TI} {len : Nat} {parts : List (Nat × A1)} {vs : Array (Nat × Value)} {rows : List (List T)} (he : ti P e = some i) (hd : P.underlying ty = some (.slice e)) (hv : relParts R w M parts vs.toList) (h : rowsA i.size 0 parts = some rows)
  (hl : len = parts.length) (hsz : 0 < i.size) (hsmall : len * i.size ≤ 16777216) (hH : relHeap R w M H M F) (hg : Good R w F) :
  ∃ v w' N F', (Instr.buildSlice ty len vs).run P w = .ok v w' ∧ relT R w' (M ++ N) (.ref H.length 0 rows.length) v fz ∧ relHeap R w' (M ++ N) (H ++ [.live i.size rows]) (M ++ N) F' ∧ Good R w' F' ∧ Fr R w F R w' F' := by
 obtain ⟨d, j, z, hd', hj, hz', hkk, hs, hb', ha, hzz⟩ := ti_some he
 have hlr := rowsA_len h
 subst hl
 have key : ∃ cells : Array Value, (Instr.buildSlice ty parts.length vs).run P w = .ok (.slice (some ⟨w.heap.size, 0, none⟩) parts.length parts.length) (w.alloc (.cells cells e)) ∧ cells.size = rows.length * i.size ∧ relTRows R w M cells i.size rows 0 fz := by
  by_cases h0 : parts.length = 0
  ·have hp : parts = [] := List.eq_nil_of_length_eq_zero h0
   subst hp
   have hvs : vs.toList = [] := by
    cases hx : vs.toList with
    | nil => rfl
    | cons a b => rw [hx] at hv; exact hv.elim
   simp only [rowsA, Option.some.injEq] at h
   subst h
   refine ⟨#[], ?_, by simp, by simp [relTRows]⟩
   have hr0 : Array.range 0 = #[] := rfl
   simp [Instr.buildSlice, run_underlying hd, run_size hj, hvs, Instr.fill, newRow, hr0]
  ·have hpos : 0 < parts.length * i.size := Nat.mul_pos (by omega) hsz
   obtain ⟨c', f1, f2, f3, f4⟩ := rowsA_rel (R := R) (w := w) (M := M) (n := 0) (c := (Array.range (parts.length * j.size)).map (z.cells[· % z.cells.size]!)) hv h (by simp [hlr, hs])
   rw [Nat.zero_mul] at f4
   rw [hs] at f1 hsmall hpos
   refine ⟨c', run_buildSlice w ty e parts.length vs c' j z hd hj hz' (by omega) (by omega) f1, by rw [f2]; simp [hlr, hs], f4⟩
 obtain ⟨cells, r1, r2, r3⟩ := key
 obtain ⟨q1, q2, q3, q4⟩ := newObj_sound (M := M) (H := H) (F := F) (Fn := fz) (cs := cells) (e := e) (lo := 0) (hi := 0) (sz := i.size) (room := rows.length) (rows := rows) (w1 := w.alloc (.cells cells e)) rfl hH (by rw [fa_z]; exact hg) (.inl (Nat.le_refl _)) r3 (Nat.le_refl _) (by rw [r2]; exact Nat.le_refl _)
 rw [fa_z] at q3
 refine ⟨_, _, [⟨w.heap.size, 0, i.size, rows.length⟩], _, r1, ?_, q1, q2, q3⟩
 simp only [relT]
 exact ⟨trivial, ⟨w.heap.size, 0, i.size, rows.length⟩, some ⟨w.heap.size, 0, none⟩, parts.length, by rw [relHeap_len hH]; simp, by rw [hlr], by omega, by simp [hlr], .inr (by simp)⟩
/-- A variable. -/
theorem box_sound {H : List AObj} {F : FP} {e : TypeId} {ts : List T} {v : Value} (hts : relTRow R w M v.cells ts 0 fz) (hl : v.cells.size = ts.length) (hH : relHeap R w M H M F) (hg : Good R w F) :
  ∃ u w' N F', (newVar e v).run P w = .ok u w' ∧ relT R w' (M ++ N) (.ptr H.length 0 0) (.pointer (some u)) fz ∧ relHeap R w' (M ++ N) (H ++ [.live ts.length [ts]]) (M ++ N) F' ∧ Good R w' F' ∧ Fr R w F R w' F' := by
 obtain ⟨q1, q2, q3, q4⟩ := newObj_sound (M := M) (H := H) (F := F) (Fn := fz) (cs := v.cells) (e := e) (lo := 0) (hi := 0) (sz := ts.length) (room := 1) (rows := [ts]) (w1 := w.alloc (.cells v.cells e)) rfl hH (by rw [fa_z]; exact hg) (.inl (Nat.le_refl _)) (by
  simp only [relTRows]
  exact ⟨fz, fz, trivial, hts, rfl, rfl⟩) (by simp) (by omega)
 rw [fa_z] at q3
 refine ⟨⟨w.heap.size, 0, none⟩, _, [⟨w.heap.size, 0, ts.length, 1⟩], _, rfl, ?_, q1, q2, q3⟩
 simp only [relT]
 exact ⟨trivial, ⟨w.heap.size, 0, ts.length, 1⟩, by rw [relHeap_len hH]; simp, by simp⟩
/-! ### What a list holds -/
theorem relTRows_shift {c' : Array Value} {sz : Nat} : ∀ {rs : List (List T)} {o o' : Nat} {F : FP}, (∀ j, j < rs.length * sz → c'[o' + j]? = c[o + j]?) → relTRows R w M c sz rs o F → relTRows R w M c' sz rs o' F
 | [], o, o', F, hs, h => by simpa [relTRows] using h
 | r :: rs, o, o', F, hs, h => by
  simp only [relTRows] at h ⊢
  obtain ⟨F1, F2, h0, h1, h2, h3⟩ := h
  rw [List.length_cons, Nat.succ_mul] at hs
  refine ⟨F1, F2, h0, relTRow_shift (fun j hj => hs j (by omega)) h1, relTRows_shift (o := o + sz) (fun j hj => ?_) h2, h3⟩
  have := hs (sz + j) (by omega)
  rw [show o' + sz + j = o' + (sz + j) by omega, show o + sz + j = o + (sz + j) by omega]
  exact this
theorem flat_F {sz : Nat} : ∀ {rs : List (List T)} {o : Nat} {F : FP}, flat rs = true → relTRows R w M c sz rs o F → F = fz
 | [], o, F, hf, h => by simpa [relTRows] using h
 | r :: rs, o, F, hf, h => by
  simp only [relTRows] at h
  obtain ⟨F1, F2, h0, h1, h2, rfl⟩ := h
  simp only [flat, List.all_cons, Bool.and_eq_true] at hf
  rw [notOwn_F (by
   rw [List.any_eq_false]
   intro t ht
   have := List.all_eq_true.1 hf.1 t ht
   simpa using this) h1, flat_F hf.2 h2]
  rfl
theorem relTRows_size {sz : Nat} : ∀ {rs : List (List T)} {o : Nat} {F : FP}, 0 < sz → rs ≠ [] → relTRows R w M c sz rs o F → o + rs.length * sz ≤ c.size
 | [], o, F, hs, hn, h => absurd rfl hn
 | r :: rs, o, F, hs, hn, h => by
  simp only [relTRows] at h
  obtain ⟨F1, F2, h0, h1, h2, h3⟩ := h
  rw [List.length_cons, Nat.succ_mul]
  by_cases hr : rs = []
  ·subst hr
   rcases relTRow_len h1 with h | h
   ·subst h; simp at h0; omega
   ·simp only [List.length_nil, Nat.zero_mul]; omega
  ·have := relTRows_size hs hr h2
   omega
theorem relDRows_size {sz : Nat} : ∀ {rs : List (List D)} {o : Nat}, 0 < sz → rs ≠ [] → relDRows R w c sz rs o → o + rs.length * sz ≤ c.size
 | [], o, hs, hn, h => absurd rfl hn
 | r :: rs, o, hs, hn, h => by
  simp only [relDRows] at h
  obtain ⟨h0, h1, h2⟩ := h
  rw [List.length_cons, Nat.succ_mul]
  by_cases hr : rs = []
  ·subst hr
   rcases relDRow_len h1 with h | h
   ·subst h; simp at h0; omega
   ·simp only [List.length_nil, Nat.zero_mul]; omega
  ·have := relDRows_size hs hr h2
   omega
theorem cells_at {w1 : World} {b o n : Nat} {e : TypeId} {q : Nat × Nat} (hb : w1.heap[b]? = some (.cells c e q)) : ∀ k v, ((c.toList.drop o).take n)[k]? = some v → w1.cell? ((⟨b, o, none⟩ : Addr).add k) = some v := fun k v hk => by
 rw [Addr.add_lit, cell_of hb]
 rw [List.getElem?_take] at hk
 split at hk
 ·rw [List.getElem?_drop] at hk
  simpa using hk
 ·simp at hk
/-- What a list or a text holds, cell by cell, in every world with the same memory. -/
theorem rowsOf_sound {H : List AObj} {F : FP} {size : Nat} {t : T} {u : Value} {rows : List (List T)} (hs : 0 < size) (h : rowsOf H size t = some rows) (hr : relT R w M t u fz) (hH : relHeap R w M H M F) :
  ∃ (cs : List Value) (Fr : FP), cs.length = rows.length * size ∧ relTRows R w M cs.toArray size rows 0 Fr ∧ (∀ b, Fr b ≤ F b) ∧ (∀ w1, (Builtin.lenOf u).run P w1 = .ok rows.length w1) ∧ ∀ w1, w1.heap = w.heap → (Builtin.firstCells size rows.length u).run P w1 = .ok cs.toArray w1 := by
 unfold rowsOf at h
 split at h
 ·simp only [Option.some.injEq] at h
  subst h
  simp only [relT] at hr
  obtain ⟨rfl, -, -⟩ := hr
  exact ⟨[], fz, by simp, by simp [relTRows], fun b => Nat.zero_le _, fun w1 => by simp [Builtin.lenOf], fun w1 _ => by simp [Builtin.firstCells]⟩
 ·rename_i sz ds
  split at h
  ·rename_i hsz
   simp only [Option.some.injEq] at h
   subst h hsz
   simp only [relT, relD] at hr
   obtain ⟨⟨a, cap, rfl, hcap, hx⟩, -⟩ := hr
   by_cases hne : ds = []
   ·subst hne
    refine ⟨[], fz, by simp, by simp [relTRows], fun b => Nat.zero_le _, fun w1 => by simp [Builtin.lenOf], fun w1 _ => ?_⟩
    cases a with
    | none => simp [Builtin.firstCells]
    | some b =>
     simp only [Builtin.firstCells, List.map_nil, List.length_nil, Nat.zero_mul]
     rfl
   ·obtain ⟨b, o, c, e, q, rfl, hR, hb, hrr⟩ := hx.resolve_left hne
    have hsz := relDRows_size hs hne hrr
    refine ⟨(c.toList.drop o).take (ds.length * sz), fz, by simp; omega, ?_, fun b => Nat.zero_le _, fun w1 => by simp [Builtin.lenOf], fun w1 hw1 => ?_⟩
    ·refine relTRows_shift (fun j hj => ?_) (relTRows_ofD hrr)
     rw [List.length_map] at hj
     rw [Nat.zero_add]
     simp [hj]
    ·have := run_firstCells_some (P := P) w1 sz ds.length ⟨b, o, none⟩ ds.length cap ((c.toList.drop o).take (ds.length * sz)) (by simp; omega) (cells_at (by rw [hw1]; exact hb))
     rw [List.length_map]
     exact this
  ·simp at h
 ·rename_i l off len
  split at h
  ·rename_i sz rs hrows
   split at h
   ·rename_i hc
    obtain ⟨hsz, hle⟩ := hc
    have hle := leB_le hle
    simp only [Option.some.injEq] at h
    subst h
    simp only [relT] at hr
    obtain ⟨-, L, a, cap, hL, rfl, hcap, hroom, ha⟩ := hr
    have hl := rowsAt_some hrows
    obtain ⟨L', F1, F2, hL', rfl, hobj, -⟩ := relHeap_get hH hl
    rw [hL] at hL'
    simp only [Option.some.injEq] at hL'
    subst hL'
    obtain ⟨hLs, hobj⟩ := hobj
    have hlen : ((rs.drop off).take len).length = len := by simp; omega
    by_cases h0 : len = 0
    ·subst h0
     refine ⟨[], fz, by simp, by simp [relTRows], fun b => Nat.zero_le _, fun w1 => by simp [Builtin.lenOf], fun w1 _ => ?_⟩
     cases a with
     | none => simp [Builtin.firstCells]
     | some b =>
      simp only [Builtin.firstCells, List.take_zero, List.length_nil, Nat.zero_mul]
      rfl
    ·have ha2 := ha.resolve_left (by omega)
     subst ha2
     rcases hobj with ⟨rfl, -⟩ | ⟨c, F', hB, hrm, hR, rfl⟩
     ·simp at hle; omega
     have hsplit : rs = rs.take off ++ (((rs.drop off).take len) ++ rs.drop (off + len)) := by
      rw [← List.drop_drop, List.take_append_drop, List.take_append_drop]
     rw [hsplit, relTRows_append] at hR
     obtain ⟨Fa, Fb, g1, g2, rfl⟩ := hR
     rw [relTRows_append] at g2
     obtain ⟨Fs, Fc, g3, g4, rfl⟩ := g2
     have htk : (rs.take off).length = off := by simp; omega
     rw [htk] at g3
     obtain ⟨e, lo, hi, hblk, hfr, hext⟩ := hB
     have hne : (rs.drop off).take len ≠ [] := by
      intro h
      rw [h] at hlen
      simp at hlen
      omega
     rw [hLs, hsz] at g3
     have hsz2 := relTRows_size hs hne g3
     rw [hlen] at hsz2
     refine ⟨(c.toList.drop (L.o + off * size)).take (len * size), Fs, by rw [hlen]; simp; omega, ?_, fun b => by simp only [fa]; omega, fun w1 => by rw [hlen]; simp [Builtin.lenOf], fun w1 hw1 => ?_⟩
     ·refine relTRows_shift (fun j hj => ?_) g3
      rw [hlen] at hj
      rw [Nat.zero_add]
      simp [hj]
     ·have := run_firstCells_some (P := P) w1 size len ⟨L.b, L.o + off * L.sz, none⟩ len cap ((c.toList.drop (L.o + off * L.sz)).take (len * size)) (by rw [hLs, hsz]; simp; omega) (cells_at (by rw [hw1]; exact hblk))
      rw [hlen, this, hLs, hsz]
   ·simp at h
  ·simp at h
 ·rename_i s
  split at h
  ·rename_i h1
   subst h1
   simp only [Option.some.injEq] at h
   subst h
   simp only [relT] at hr
   obtain ⟨rfl, -, -⟩ := hr
   have hlen : s.data.toList.length = s.size := by rw [Array.length_toList]; rfl
   refine ⟨s.data.toList.map fun b => .int .u8 b.toNat, fz, by simp, ?_, fun b => Nat.zero_le _, fun w1 => by rw [List.length_map, hlen]; rfl, fun w1 _ => ?_⟩
   ·have : ∀ (l : List UInt8) (o : Nat) (c : Array Value), (∀ j, j < l.length → c[o + j]? = (l.map fun b => Value.int .u8 b.toNat)[j]?) → relTRows R w M c 1 (l.map fun b => [T.v (.int .u8 b.toNat)]) o fz := by
     intro l
     induction l with
     | nil => intro o c _; simp [relTRows]
     | cons b l ih =>
      intro o c hc
      simp only [List.map_cons, relTRows]
      refine ⟨fz, fz, rfl, ?_, ih (o + 1) c (fun j hj => ?_), rfl⟩
      ·simp only [relTRow]
       exact ⟨.int .u8 b.toNat, fz, fz, by have := hc 0 (by simp); simpa using this, by simp [relT, scal], rfl, rfl⟩
      ·have := hc (j + 1) (by simp; omega)
       rw [show o + 1 + j = o + (j + 1) by omega, this]
       simp
    exact this _ 0 _ (fun j hj => by simp)
   ·simp only [Builtin.firstCells, List.length_map, hlen]
    have : (s.extract 0 s.size) = s := by simp
    rw [this]
    have h2 : s.data.map (fun b => Value.int .u8 b.toNat) = (s.data.toList.map fun b => Value.int .u8 b.toNat).toArray := by
     apply Array.ext'
     simp
    rw [h2]
    rfl
  ·simp at h
 ·simp at h
end Go.Proofs.YtejnpiielcbkkaaGreat.E
end
section
namespace Go.Proofs.YtejnpiielcbkkaaGreat.E
variable {P : Program} {R R' : Nat → Prop} {w w' : World} {M M' : List Loc} {c : Array Value}
def notInt (P : Program) (t : TypeId) : Bool := match P.underlying t with
 | some (.int _) => false
 | some _ => true
 | none => false
theorem notInt_run {t : TypeId} (h : notInt P t = true) (w : World) : ∃ d, P.underlying t = some d ∧ ∀ k, d ≠ .int k := by
 unfold notInt at h
 split at h
 ·simp at h
 ·rename_i d h1 h2
  exact ⟨d, h2, fun k hk => h1 k hk⟩
 ·simp at h
theorem append_room {ty tx t3 e : TypeId} {j : TypeInfo} (hd : P.underlying ty = some (.slice e)) (hj : P.info? e = some j) (hx : notInt P tx = true) {base : Option Addr} {len cap m : Nat} {x : Value} {news : List Value} {w1 : World}
  (hlen : (Builtin.lenOf x).run P w = .ok m w) (hf : (Builtin.firstCells j.size m x).run P w = .ok news.toArray w) (hroom : len + m ≤ cap)
  (hst : ∀ a, base = some a → (storeCells (a.add (len * j.size)) news).run P w = .ok () w1) (hno : base = none → w1 = w) :
  (Builtin.append_ #[ty, tx] t3 #[.slice base len cap, x]).run P w = .ok (.slice base (len + m) cap) w1 := by
 obtain ⟨d, hd2, hk⟩ := notInt_run hx w
 have hm : (match d with | .int _ => true | _ => false) = false := by
  cases d <;> first | rfl | exact absurd rfl (hk _)
 cases base with
 | none =>
  have := hno rfl
  subst this
  simp [Builtin.append_, run_underlying hd, run_underlying hd2, run_size hj, hm, hlen, hroom, hf]
 | some a =>
  have hs := hst a rfl
  simp [Builtin.append_, run_underlying hd, run_underlying hd2, run_size hj, hm, hlen, hroom, hf, hs]
theorem append_grow {ty tx t3 e : TypeId} {j : TypeInfo} {z : Value} (hd : P.underlying ty = some (.slice e)) (hj : P.info? e = some j) (hz : j.zero = some z) (hx : notInt P tx = true) {base : Option Addr} {len cap m : Nat} {x : Value} {olds news : List Value}
  (hlen : (Builtin.lenOf x).run P w = .ok m w) (hf : (Builtin.firstCells j.size m x).run P w.drew = .ok news.toArray w.drew) (ho : (Builtin.firstCells j.size len (.slice base len cap)).run P w.drew = .ok olds.toArray w.drew)
  (hroom : ¬ len + m ≤ cap) (hby : 1 ≤ j.bytes) (hb : (len + m) * j.bytes ≤ 140737488355328) :
  ∃ cap' : Nat, len + m ≤ cap' ∧ (Builtin.append_ #[ty, tx] t3 #[.slice base len cap, x]).run P w = .ok (.slice (some ⟨w.heap.size, 0, none⟩) (len + m) cap') (w.drew.alloc (.cells (olds.toArray ++ news.toArray ++ Builtin.zeroCells z.cells (cap' - (len + m))) e)) := by
 obtain ⟨d, hd2, hk⟩ := notInt_run hx w
 have hm : (match d with | .int _ => true | _ => false) = false := by
  cases d <;> first | rfl | exact absurd rfl (hk _)
 have h48 : ¬ (281474976710656 < Builtin.nextslicecap (len + m) cap * j.bytes) := by
  have := growslice_fits (need := len + m) (old := cap) (bytes := j.bytes) (by omega) hb
  omega
 have h63 : len + m ≤ 140737488355328 := by
  have : (len + m) * 1 ≤ (len + m) * j.bytes := Nat.mul_le_mul_left _ hby
  omega
 have hbz : ¬ j.bytes = 0 := by omega
 refine ⟨grownCap w (len + m) cap e, grownCap_ge w (len + m) cap e, ?_⟩
 simp [Builtin.append_, run_underlying hd, run_underlying hd2, run_size hj, run_zero hj hz, typeInfo, hj, hm, hlen, hroom, Question.forced, hf, ho, h48, hbz, newRow, grownCap]
 congr 2
 apply Array.ext'
 simp
theorem append_sound {H H' : List AObj} {F : FP} {s x : T} {us ux : Value} {av : AV} {ty tx t3 e : TypeId} {i : TI} (h : doAppend H i s x = some (av, H')) (he : ti P e = some i) (hd : P.underlying ty = some (.slice e)) (hx : notInt P tx = true) (hsz : 0 < i.size) (hby : 1 ≤ i.bytes) (hzl : i.zero.length = i.size)
  (hs : relT R w M s us fz) (hux : relT R w M x ux fz) (hH : relHeap R w M H M F) (hg : Good R w F) :
  ∃ v w' N F', (Builtin.append_ #[ty, tx] t3 #[us, ux]).run P w = .ok v w' ∧ relAV R w' (M ++ N) av v fz ∧ relHeap R w' (M ++ N) H' (M ++ N) F' ∧ Good R w' F' ∧ Fr R w F R w' F' := by
 obtain ⟨d, j, z, hd', hj, hz', hkk, hsj, hbj, ha, hzz⟩ := ti_some he
 unfold doAppend at h
 split at h
 ·-- nothing yet
  rename_i a b hrb hra
  split at h
  ·rename_i hc
   obtain ⟨hflat, hbytes⟩ := hc
   have hbytes := leB_le hbytes
   simp only [Option.some.injEq, Prod.mk.injEq] at h
   obtain ⟨rfl, rfl⟩ := h
   simp only [relT] at hs
   obtain ⟨rfl, -, -⟩ := hs
   obtain ⟨cs, Fb, c1, c2, -, c4, c5⟩ := rowsOf_sound (P := P) hsz hrb hux hH
   have hFb := flat_F hflat c2
   subst hFb
   rw [hsj] at c5
   by_cases h0 : b.length = 0
   ·have hb0 : b = [] := List.eq_nil_of_length_eq_zero h0
    subst hb0
    have hr := append_room (P := P) (w := w) (w1 := w) (t3 := t3) (base := none) (len := 0) (cap := 0) hd hj hx (c4 w) (c5 w rfl) (by simp) (fun a ha => by simp at ha) (fun _ => rfl)
    refine ⟨_, w, [⟨0, 0, i.size, 0⟩], fa F fz, hr, ?_, relHeap_push (relHeap_mono (fun _ h => h) (prefix_self M _) (fun _ _ => rfl) hH) ⟨rfl, .inl ⟨rfl, rfl, rfl⟩⟩, by rw [fa_z]; exact hg, by rw [fa_z]; exact Fr.refl _ _ _⟩
    simp only [relAV, relA1, relT]
    exact ⟨trivial, ⟨0, 0, i.size, 0⟩, none, 0, by rw [relHeap_len hH]; simp, rfl, by simp, by simp, .inl rfl⟩
   ·obtain ⟨cap', hcap, hr⟩ := append_grow (P := P) (w := w) (t3 := t3) (base := none) (len := 0) (cap := 0) (olds := []) hd hj hz' hx (c4 w) (c5 w.drew rfl) (by simp [Builtin.firstCells]) (by omega) (by omega) (by rw [← hbj, Nat.zero_add]; exact hbytes)
    have hzs : z.cells.size = i.size := by rw [← hzl, hzz]; simp
    have hcs : (#[] ++ cs.toArray ++ Builtin.zeroCells z.cells (cap' - (0 + b.length)) : Array Value).size = cap' * i.size := by
     simp only [Array.size_append, Array.size_empty, List.size_toArray, c1, size_zeroCells, hzs, List.length_nil, Nat.zero_add]
     rw [← Nat.add_mul]
     congr 1
     omega
    obtain ⟨q1, q2, q3, q4⟩ := newObj_sound (w := w) (R := R) (M := M) (H := H) (F := F) (Fn := fz) (cs := #[] ++ cs.toArray ++ Builtin.zeroCells z.cells (cap' - (0 + b.length))) (e := e) (lo := 0) (hi := 0) (sz := i.size) (room := cap') (rows := b) (w1 := w.drew.alloc (.cells (#[] ++ cs.toArray ++ Builtin.zeroCells z.cells (cap' - (0 + b.length))) e)) rfl hH (by rw [fa_z]; exact hg) (.inl (Nat.le_refl _)) (relTRows_shift (fun k hk => by
     simp only [Nat.zero_add]
     rw [Array.getElem?_append, if_pos (by simp [c1]; omega)]
     simp) c2) (by omega) (by rw [hcs]; exact Nat.le_refl _)
    rw [fa_z] at q3
    refine ⟨_, _, [⟨w.heap.size, 0, i.size, cap'⟩], _, hr, ?_, q1, q2, q3⟩
    simp only [relAV, relA1, relT]
    exact ⟨trivial, ⟨w.heap.size, 0, i.size, cap'⟩, some ⟨w.heap.size, 0, none⟩, cap', by rw [relHeap_len hH]; simp, by simp, by omega, by simp, .inr (by simp)⟩
  ·simp at h
 ·-- a list of one's own
  rename_i l off len a b hrb hra
  split at h
  ·rename_i hc
   obtain ⟨hflat, hbytes, hap⟩ := hc
   have hbytes := leB_le hbytes
   simp only [Option.some.injEq, Prod.mk.injEq] at h
   obtain ⟨rfl, rfl⟩ := h
   obtain ⟨cs, Fb, c1, c2, -, c4, c5⟩ := rowsOf_sound (P := P) hsz hrb hux hH
   have hFb := flat_F hflat c2
   subst hFb
   obtain ⟨os, Fo, o1, o2, o3, o4, o5⟩ := rowsOf_sound (P := P) hsz hra hs hH
   rw [hsj] at c5 o5
   have hs0 := hs
   simp only [relT] at hs
   obtain ⟨-, L, ad, cap, hL, rfl, hcap, hroom, had⟩ := hs
   simp only [rowsOf] at hra
   split at hra
   ·rename_i sz rs hrows
    split at hra
    ·rename_i hc2
     obtain ⟨hsz2, hle⟩ := hc2
     have hle := leB_le hle
     simp only [Option.some.injEq] at hra
     subst hra
     have hl := rowsAt_some hrows
     have halen : ((rs.drop off).take len).length = len := by simp; omega
     obtain ⟨L', F1, F2, hL', rfl, hobj, hput⟩ := relHeap_get hH hl
     rw [hL] at hL'
     simp only [Option.some.injEq] at hL'
     subst hL'
     obtain ⟨hLs, hobj⟩ := hobj
     by_cases hroom2 : len + b.length ≤ cap
     ·by_cases hc0 : cap = 0
      ·subst hc0
       have hb0 : b = [] := List.eq_nil_of_length_eq_zero (by omega)
       have ha0 : (rs.drop off).take len = [] := List.eq_nil_of_length_eq_zero (by omega)
       have hlen0 : len = 0 := by omega
       subst hb0 hlen0
       have hcs0 : cs = [] := List.eq_nil_of_length_eq_zero (by simpa using c1)
       subst hcs0
       have hr := append_room (P := P) (w := w) (w1 := w) (t3 := t3) (base := ad) (len := 0) (cap := 0) hd hj hx (c4 w) (c5 w rfl) (by simp) (fun a _ => rfl) (fun _ => rfl)
       have hH0 := hput R w M .dead fz (fun _ h => h) (List.prefix_refl M) (fun _ _ => rfl) rfl
       refine ⟨_, w, [⟨0, 0, i.size, 0⟩], fa (fa fz F2) fz, hr, ?_, relHeap_push (relHeap_mono (fun _ h => h) (prefix_self M _) (fun _ _ => rfl) hH0) ⟨rfl, .inl ⟨by simp, rfl, rfl⟩⟩, hg.le (fun b => by simp only [fa, fz]; omega), (Fr.refl _ _ _).le (fun b => by simp only [fa, fz]; omega)⟩
       simp only [relAV, relA1, relT]
       exact ⟨trivial, ⟨0, 0, i.size, 0⟩, ad, 0, by rw [relHeap_len hH]; simp, by simp, by simp, by simp, .inl rfl⟩
      ·have had2 := had.resolve_left hc0
       subst had2
       rcases hobj with ⟨rfl, hr0, -⟩ | ⟨c, F', hB, hrm, hR, rfl⟩
       ·omega
       obtain ⟨e', lo, hi, hblk, hfr, hext⟩ := hB
       rw [hLs, hsz2] at hext hR
       have hone := hg.one L.b
       simp only [fa, fd_self] at hone
       have hF'0 : F' L.b = 0 := by omega
       have hF20 : F2 L.b = 0 := by omega
       have hRb : ¬ R L.b := (hg.own L.b (by simp [fa, fd_self]; omega)).1
       have hmul : (off + cap) * i.size ≤ L.room * i.size := Nat.mul_le_mul_right _ (by omega)
       have hmul2 : (len + b.length) * i.size ≤ cap * i.size := Nat.mul_le_mul_right _ hroom2
       rw [Nat.add_mul] at hmul hmul2
       obtain ⟨w', c', r1, r2, r3, r4, r5, r6⟩ := run_put (P := P) (b := L.b) (o := L.o + off * i.size + len * i.size) (e := e') (lo := lo) (hi := hi) cs 0 w c hblk hfr (by rw [c1]; omega) (by
        intro v hv
        obtain ⟨k, hk, rfl⟩ := List.getElem_of_mem hv
        have hk2 : k < b.length * i.size := by omega
        have hrow : k / i.size < b.length := Nat.div_lt_of_lt_mul (by rw [Nat.mul_comm]; exact hk2)
        obtain ⟨G1, G2, -, g1, g2, -⟩ := relTRows_get c2 (List.getElem?_eq_getElem hrow)
        obtain ⟨u, g3, g4⟩ := relTRow_one g2 (k % i.size) (by rw [g1]; exact Nat.mod_lt _ hsz)
        rw [Nat.zero_add, Nat.mul_comm, Nat.div_add_mod] at g3
        simp only [List.getElem?_toArray, List.getElem?_eq_getElem hk, Option.some.injEq] at g3
        rw [g3]
        exact g4)
       simp only [Nat.add_zero] at r4 r5
       rw [c1] at r5
       have hsame : ∀ (G : FP), G L.b = 0 → ∀ b, R b ∨ 1 ≤ G b → w'.heap[b]? = w.heap[b]? := fun G hG b hb => r6.other b (by rintro rfl; rcases hb with hb | hb; exact hRb hb; omega)
       have hsplit : rs = rs.take off ++ (((rs.drop off).take len) ++ rs.drop (off + len)) := by
        rw [← List.drop_drop, List.take_append_drop, List.take_append_drop]
       rw [hsplit, relTRows_append] at hR
       obtain ⟨Fa, Fb', g1, g2, rfl⟩ := hR
       rw [relTRows_append] at g2
       obtain ⟨Fs, Fc, g3, g4, rfl⟩ := g2
       have htk : (rs.take off).length = off := by simp; omega
       rw [htk] at g3
       have hr := append_room (P := P) (w := w) (w1 := w') (t3 := t3) (base := some ⟨L.b, L.o + off * L.sz, none⟩) (len := len) (cap := cap) hd hj hx (c4 w) (c5 w rfl) hroom2 (fun a ha => by
        simp only [Option.some.injEq] at ha
        subst ha
        rw [Addr.add_lit, hLs, hsz2, ← hsj]
        exact r1) (fun h => by simp at h)
       have hH0 := hput R w' M .dead fz (fun _ h => h) (List.prefix_refl M) (hsame F2 hF20) rfl
       have hFs0 : Fs L.b = 0 := by simp only [fa] at hF'0; omega
       have hnew : relTRows R w' M c' i.size ((rs.drop off).take len ++ b) (L.o + off * i.size) (fa Fs fz) := by
        rw [relTRows_append, halen]
        refine ⟨Fs, fz, relTRows_same (fun k _ hk => r5 k (.inl (by rw [halen] at hk; omega))) (relTRows_mono (fun _ h => h) (List.prefix_refl M) c i.size _ _ Fs (hsame Fs hFs0) g3), ?_, rfl⟩
        refine relTRows_mono (fun _ h => h) (List.prefix_refl M) c' i.size _ _ fz (hsame fz rfl) (relTRows_shift (fun k hk => ?_) c2)
        rw [r4 k (by omega), Nat.zero_add]
        simp
       refine ⟨_, w', [⟨L.b, L.o + off * i.size, i.size, cap⟩], fa (fa fz F2) (fa (fd L.b) (fa Fs fz)), hr, ?_, relHeap_push (relHeap_mono (fun _ h => h) (prefix_self M _) (fun _ _ => rfl) hH0) ⟨rfl, .inr ⟨c', _, ⟨e', lo, hi, r2, by rw [r3]; exact hfr, by rw [r3]; simp only; omega⟩, by simp only [List.length_append, halen]; exact hroom2, relTRows_mono (fun _ h => h) (prefix_self M _) c' i.size _ _ _ (fun _ _ => rfl) hnew, rfl⟩⟩, ?_, ?_⟩
       ·simp only [relAV, relA1, relT]
        exact ⟨trivial, ⟨L.b, L.o + off * i.size, i.size, cap⟩, some ⟨L.b, L.o + off * L.sz, none⟩, cap, by rw [relHeap_len hH]; simp, by rw [halen], by rw [halen]; exact hroom2, by simp, .inr (by simp [hLs, hsz2])⟩
       ·refine (r6.good (by simp only [fa, fd_self]; omega) hg).le (fun x => ?_)
        simp only [fa, fz]
        omega
       ·refine (r6.fr (F := fa (fa (fd L.b) (fa Fa (fa Fs Fc))) F2) (by simp [fa, fd_self]; omega)).le (fun x => ?_)
        simp only [fa, fz]
        omega
     ·obtain ⟨cap', hcap2, hr⟩ := append_grow (P := P) (w := w) (t3 := t3) (base := ad) (len := len) (cap := cap) (olds := os) hd hj hz' hx (c4 w) (c5 w.drew rfl) (by
       have := o5 w.drew rfl
       rw [halen] at this
       exact this) hroom2 (by omega) (by rw [← hbj, ← halen]; exact hbytes)
      have hzs : z.cells.size = i.size := by rw [← hzl, hzz]; simp
      rw [halen] at o1
      have hcs : (os.toArray ++ cs.toArray ++ Builtin.zeroCells z.cells (cap' - (len + b.length)) : Array Value).size = cap' * i.size := by
       simp only [Array.size_append, List.size_toArray, c1, o1, size_zeroCells, hzs]
       rw [← Nat.add_mul, ← Nat.add_mul]
       congr 1
       omega
      have hH0 := hput R w M .dead fz (fun _ h => h) (List.prefix_refl M) (fun _ _ => rfl) rfl
      rw [z_fa] at hH0
      have hmove : ∃ Fs : FP, relTRows R w M os.toArray i.size ((rs.drop off).take len) 0 Fs ∧ ∀ b, Fs b ≤ F1 b := by
       by_cases hlen0 : len = 0
       ·subst hlen0
        exact ⟨fz, by simp [relTRows], fun b => Nat.zero_le _⟩
       ·rcases hobj with ⟨rfl, hr0, -⟩ | ⟨c, F', hB, hrm, hR, rfl⟩
        ·simp at hle; omega
        have had2 := had.resolve_left (by omega)
        subst had2
        obtain ⟨e', lo, hi, hblk, hfr, hext⟩ := hB
        rw [hLs, hsz2] at hR
        have hsplit : rs = rs.take off ++ (((rs.drop off).take len) ++ rs.drop (off + len)) := by
         rw [← List.drop_drop, List.take_append_drop, List.take_append_drop]
        rw [hsplit, relTRows_append] at hR
        obtain ⟨Fa, Fb', g1, g2, rfl⟩ := hR
        rw [relTRows_append] at g2
        obtain ⟨Fs, Fc, g3, g4, rfl⟩ := g2
        have htk : (rs.take off).length = off := by simp; omega
        rw [htk] at g3
        have hne : (rs.drop off).take len ≠ [] := by
         intro h
         rw [h] at halen
         simp at halen
         omega
        have hsz3 := relTRows_size hsz hne g3
        rw [halen] at hsz3
        have hf2 := run_firstCells_some (P := P) w i.size len ⟨L.b, L.o + off * L.sz, none⟩ len cap ((c.toList.drop (L.o + off * L.sz)).take (len * i.size)) (by rw [hLs, hsz2]; simp; omega) (cells_at hblk)
        have ho5 := o5 w rfl
        rw [halen, ← hsj, hf2] at ho5
        simp only [Result.ok.injEq, and_true] at ho5
        refine ⟨Fs, ?_, fun b => by simp only [fa]; omega⟩
        rw [← ho5]
        refine relTRows_shift (fun k hk => ?_) g3
        rw [halen] at hk
        rw [Nat.zero_add, hLs, hsz2]
        simp [hk]
      obtain ⟨Fs, m1, m2⟩ := hmove
      obtain ⟨q1, q2, q3, q4⟩ := newObj_sound (w := w) (R := R) (M := M) (H := H.set l .dead) (F := F2) (Fn := fa Fs fz) (cs := os.toArray ++ cs.toArray ++ Builtin.zeroCells z.cells (cap' - (len + b.length))) (e := e) (lo := 0) (hi := 0) (sz := i.size) (room := cap') (rows := (rs.drop off).take len ++ b) (w1 := w.drew.alloc (.cells (os.toArray ++ cs.toArray ++ Builtin.zeroCells z.cells (cap' - (len + b.length))) e)) rfl hH0 (hg.le (fun x => by have := m2 x; simp only [fa, fz]; omega)) (.inl (Nat.le_refl _)) (by
       rw [relTRows_append, halen]
       refine ⟨Fs, fz, relTRows_shift (fun k hk => ?_) m1, relTRows_shift (fun k hk => ?_) c2, rfl⟩
       ·rw [halen] at hk
        simp only [Nat.zero_add]
        rw [Array.getElem?_append, if_pos (by simp [o1, c1]; omega), Array.getElem?_append, if_pos (by simp [o1]; omega)]
       ·simp only [Nat.zero_add]
        rw [Array.getElem?_append, if_pos (by simp [o1, c1]; omega), Array.getElem?_append, if_neg (by simp [o1])]
        simp [o1]) (by rw [List.length_append, halen]; exact hcap2) (by rw [hcs]; exact Nat.le_refl _)
      refine ⟨_, _, [⟨w.heap.size, 0, i.size, cap'⟩], _, hr, ?_, q1, q2, ?_⟩
      ·simp only [relAV, relA1, relT]
       exact ⟨trivial, ⟨w.heap.size, 0, i.size, cap'⟩, some ⟨w.heap.size, 0, none⟩, cap', by rw [relHeap_len hH]; simp, by rw [halen], by rw [halen]; exact hcap2, by simp, .inr (by simp)⟩
      ·refine Fr.trans ((Fr.refl R w (fa F1 F2)).le (F' := fa F2 (fa Fs fz)) (fun x => by have := m2 x; simp only [fa, fz]; omega)) q3
    ·simp at hra
   ·simp at hra
  ·simp at h
 ·simp at h
end Go.Proofs.YtejnpiielcbkkaaGreat.E
end
section
namespace Go.Proofs.YtejnpiielcbkkaaGreat.E
def one? : AV → Option T
 | .s (.one t) => some t
 | _ => none
def a1? : AV → A1
 | .s a => a
 | .tup _ => .any
def int? : AV → Option Int
 | .s (.one (.v (.int _ n))) => some n
 | _ => none
def bool? : AV → Option Bool
 | .s (.one (.v (.bool b))) => some b
 | _ => none
def val? : AV → Option Value
 | .s (.one (.v x)) => some x
 | _ => none
def aparts (s : St) (ps : Array (Nat × Operand)) : List (Nat × A1) := ps.toList.map fun p => (p.1, a1? (ev s p.2))
def caps (s : St) : List Operand → Option (List T)
 | [] => some []
 | x :: r => match one? (ev s x), caps s r with
  | some t, some ts => some (t :: ts)
  | _, _ => none
def bnd? (s : St) (d : Int) : Option Operand → Option Int
 | none => some d
 | some x => int? (ev s x)
def bytesOf : List (List T) → Option (List UInt8)
 | [] => some []
 | r :: rs => match byteOf r, bytesOf rs with
  | some b, some bs => some (b :: bs)
  | _, _ => none
def mkOne (t : T) : AV := .s (.one t)
def amax (op : Bool) : Value → Value → Option Value
 | .int k x, .int _ y => some (.int k (if op then (if y > x then y else x) else (if y < x then y else x)))
 | _, _ => none
def aminmax (op : Bool) : Value → List Value → Option Value
 | x, [] => some x
 | x, y :: r => match amax op x y with
  | some z => aminmax op z r
  | none => none
def vals (s : St) : List Operand → Option (List Value)
 | [] => some []
 | x :: r => match val? (ev s x), vals s r with
  | some t, some ts => some (t :: ts)
  | _, _ => none
def abuiltin (P : Program) (s : St) (b : Builtin) (ts : Array TypeId) (args : Array Operand) : Option (AV × List AObj) :=
 match b, args.toList, ts.toList with
 | .len, [x], [t] => match one? (ev s x), ti P t with
  | some tt, some i => match lenT tt, i.k, tt with
   | some n, .sl _, .v (.string _) => none
   | some n, .sl _, _ => some (mkOne (.v (.int .i64 n)), s.H)
   | some n, .str, .v (.string _) => some (mkOne (.v (.int .i64 n)), s.H)
   | _, _, _ => none
  | _, _ => none
 | .append, [x, y], [t, t2] => match one? (ev s x), one? (ev s y), ti P t with
  | some a, some b, some i => match i.k with
   | .sl e => match ti P e with
    | some j => if notInt P t2 ∧ 0 < j.size ∧ 1 ≤ j.bytes ∧ j.zero.length = j.size then doAppend s.H j a b else none
    | none => none
   | _ => none
  | _, _, _ => none
 | .max, x :: r, _ => match val? (ev s x), vals s r with
  | some a, some vs => match aminmax true a vs with
   | some z => if scal z then some (mkOne (.v z), s.H) else none
   | none => none
  | _, _ => none
 | .min, x :: r, _ => match val? (ev s x), vals s r with
  | some a, some vs => match aminmax false a vs with
   | some z => if scal z then some (mkOne (.v z), s.H) else none
   | none => none
  | _, _ => none
 | _, _, _ => none
def aconv (P : Program) (s : St) (src dst : TypeId) (x : T) : Option (AV × List AObj) :=
 match ti P src, ti P dst, x with
 | some a, some b, .v (.int _ n) => match b.k with
  | .int k => some (mkOne (.v (.int k (k.wrap n))), s.H)
  | _ => none
 | some a, some b, .v (.string z) => match a.k, b.k with
  | .str, .sl e => match P.underlying e with
   | some (.int .u8) => some (mkOne (.ref s.H.length 0 z.size), s.H ++ [.live 1 (z.data.toList.map fun b => [T.v (.int .u8 b.toNat)])])
   | _ => none
  | .str, .str => some (mkOne x, s.H)
  | _, _ => none
 | some a, some b, x => match a.k, b.k, rowsOf s.H 1 x with
  | .sl e, .str, some rows => match P.underlying e, bytesOf rows with
   | some (.int .u8), some bs => some (mkOne (.v (.string ⟨bs.toArray⟩)), s.H)
   | _, _ => none
  | _, _, _ => none
 | _, _, _ => none
/-- One operation that is no call. -/
def astep (P : Program) (s : St) : Op → Option (AV × List AObj)
 | .move x | .assign x => some (ev s x, s.H)
 | .pick c a b => match bool? (ev s c) with
  | some t => some (if t then ev s a else ev s b, s.H)
  | none => none
 | .alloc e => match ti P e with
  | some i => if i.zero.all scal then some (mkOne (.ptr s.H.length 0 0), s.H ++ [.live (i.zero.map T.v).length [i.zero.map T.v]]) else none
  | none => none
 | .box _ x => match cells1 (a1? (ev s x)) with
  | some ts => some (mkOne (.ptr s.H.length 0 0), s.H ++ [.live ts.length [ts]])
  | none => none
 | .build t ps => match ti P t with
  | some i => match i.k with
   | .st fs => if i.zero.all scal then match fillA fs (i.zero.map T.v) (aparts s ps) with
     | some row => some (.s (.agg row), s.H)
     | none => none
    else none
   | _ => none
  | none => none
 | .buildSlice t len ps => match ti P t with
  | some i => match i.k with
   | .sl e => match ti P e with
    | some j => match rowsA j.size 0 (aparts s ps) with
     | some rows => if len = ps.size ∧ 0 < j.size ∧ len * j.size ≤ 16777216 then some (mkOne (.ref s.H.length 0 rows.length), s.H ++ [.live j.size rows]) else none
     | none => none
    | none => none
   | _ => none
  | none => none
 | .load t a => match ti P t, one? (ev s a) with
  | some i, some p => doLoad s.H i p
  | _, _ => none
 | .store t a x => match ti P t, one? (ev s a) with
  | some i, some p => match doStore s.H i p (a1? (ev s x)) with
   | some H' => some (.s .any, H')
   | none => none
  | _, _ => none
 | .nilCheck x => match ev s x with
  | .s (.one (.ptr l r c)) => some (mkOne (.ptr l r c), s.H)
  | .s (.one (.rp r c)) => some (mkOne (.rp r c), s.H)
  | .s (.one (.fn bd f c)) => some (mkOne (.fn bd f c), s.H)
  | _ => none
 | .binOp op t x y _ => match val? (ev s x), val? (ev s y) with
  | some a, some b => match abinT P t op a b with
   | some z => some (mkOne (.v z), s.H)
   | none => none
  | _, _ => none
 | .unOp op _ x => match val? (ev s x) with
  | some a => match aun op a with
   | some z => some (mkOne (.v z), s.H)
   | none => none
  | none => none
 | .convert src dst x => match one? (ev s x) with
  | some t => aconv P s src dst t
  | none => none
 | .makeFunc (.func f) first captured => if first.isEmpty then match caps s captured.toList with
   | some ts => some (mkOne (.fn false f ts), s.H)
   | none => none
  else if captured.isEmpty then match caps s first.toList with
   | some ts => some (mkOne (.fn true f ts), s.H)
   | none => none
  else none
 | .makeSlice t l c => match ti P t, int? (ev s l), int? (ev s c) with
  | some i, some n, some m => match i.k with
   | .sl e => match ti P e with
    | some j => if n = m ∧ leI 0 n = true ∧ leI ((j.bytes : Int) * n) 140737488355328 = true ∧ 1 ≤ j.bytes ∧ j.zero.all scal ∧ j.zero.length = j.size then some (mkOne (.ref s.H.length 0 n.toNat), s.H ++ [.live j.size (List.replicate n.toNat (j.zero.map T.v))]) else none
    | none => none
   | _ => none
  | _, _, _ => none
 | .slice t x lo hi none => match ti P t, one? (ev s x) with
  | some i, some tt => match lenT tt with
   | some n => match bnd? s 0 lo, bnd? s n hi with
    | some a, some b => match i.k with
     | .sl e => match ti P e with
      | some j => match doSlice s.H j.size a b tt with
       | some t' => some (mkOne t', s.H)
       | none => none
      | none => none
     | .str => match doSliceS a b tt with
      | some t' => some (mkOne t', s.H)
      | none => none
     | _ => none
    | _, _ => none
   | none => none
  | _, _ => none
 | .fieldAddr t x f => match ti P t, one? (ev s x) with
  | some i, some p => match i.k with
   | .st fs => match fs[f]? with
    | some (off, sz, _) => if sz = 0 then none else match doField off p with
     | some p' => some (mkOne p', s.H)
     | none => none
    | none => none
   | _ => none
  | _, _ => none
 | .field t x f => match ti P t, cells1 (a1? (ev s x)), a1? (ev s x) with
  | some i, some ts, .agg _ => match i.k with
   | .st fs => match fs[f]? with
    | some (off, sz, ag) => if off + sz ≤ ts.length ∧ ((ts.drop off).take sz).length = sz then match ofCells ag ((ts.drop off).take sz) with
      | some av => some (av, s.H)
      | none => none
     else none
    | none => none
   | _ => none
  | _, _, _ => none
 | .indexAddr t x ix => match ti P t, one? (ev s x), int? (ev s ix) with
  | some i, some tt, some n => match i.k with
   | .sl e => match ti P e with
    | some j => match doIndexAddr s.H j.size n tt with
     | some p => some (mkOne p, s.H)
     | none => none
    | none => none
   | _ => none
  | _, _, _ => none
 | .index t x ix => match ti P t, val? (ev s x), int? (ev s ix) with
  | some i, some (.string z), some n => match i.k, idx n z.size with
   | .str, some k => some (mkOne (.v (.int .u8 ((z.data.toList.getD k 0).toNat : Int))), s.H)
   | _, _ => none
  | _, _, _ => none
 | .extract x ix => match ev s x with
  | .tup as_ => match as_[ix]? with
   | some a => some (.s a, s.H)
   | none => none
  | _ => none
 | .call c => match c.callee with
  | .builtin b => abuiltin P s b c.argTypes c.args
  | _ => none
 | _ => none
end Go.Proofs.YtejnpiielcbkkaaGreat.E
end
section
namespace Go.Proofs.YtejnpiielcbkkaaGreat.E
variable {P : Program} {R R' : Nat → Prop} {w w' : World} {M M' : List Loc} {c : Array Value}
def relEnv (R : Nat → Prop) (w : World) (M : List Loc) (env : List AV) (tmps : Array Value) : Prop :=
 env.length = tmps.size ∧ ∀ (i : Nat) (av : AV), env[i]? = some av → relAV R w M av (tmps.getD i undef) fz
theorem relAV_any (u : Value) : relAV R w M (.s .any) u fz := rfl
theorem all_scal {c : Array Value} (h : c.toList.all scal = true) : relTRow R w M c (c.toList.map T.v) 0 fz := scal_row h (fun j hj => by simp)
theorem cv_sound (v : Value) : relAV R w M (cv v) v fz := by
 unfold cv
 split
 ·rename_i cs
  split
  ·rename_i h
   exact ⟨cs, rfl, by simp, all_scal h⟩
  ·exact relAV_any _
 ·split
  ·rename_i h
   simp [relAV, relA1, relT, h]
  ·exact relAV_any _
theorem ev_sound {s : St} {a : Act} (h : relEnv R w M s.env a.tmps) (x : Operand) : relAV R w M (ev s x) (a.eval x) fz := by
 cases x with
 | tmp t =>
  simp only [ev, Act.eval, List.getD]
  cases he : s.env[t]? with
  | none => exact relAV_any _
  | some av => exact h.2 t av he
 | const v => exact cv_sound v
 | global g => exact relAV_any _
 | func f =>
  simp only [ev, Act.eval, relAV, relA1, relT]
  exact ⟨trivial, #[], rfl, rfl, by simp [relTRow]⟩
theorem one_rel {av : AV} {t : T} {u : Value} (h : one? av = some t) (hr : relAV R w M av u fz) : relT R w M t u fz := by
 unfold one? at h
 split at h
 ·simp only [Option.some.injEq] at h; subst h; exact hr
 ·simp at h
theorem a1_rel {av : AV} {u : Value} (hr : relAV R w M av u fz) : relA1 R w M (a1? av) u fz := by
 cases av with
 | s a => exact hr
 | tup as_ => rfl
theorem val_rel {av : AV} {x u : Value} (h : val? av = some x) (hr : relAV R w M av u fz) : u = x ∧ scal x = true := by
 unfold val? at h
 split at h
 ·simp only [Option.some.injEq] at h; subst h
  simp only [relAV, relA1, relT] at hr
  exact ⟨hr.1, hr.2.1⟩
 ·simp at h
theorem int_rel {av : AV} {n : Int} {u : Value} (h : int? av = some n) (hr : relAV R w M av u fz) : ∃ k, u = .int k n := by
 unfold int? at h
 split at h
 ·rename_i k m
  simp only [Option.some.injEq] at h; subst h
  simp only [relAV, relA1, relT] at hr
  exact ⟨k, hr.1⟩
 ·simp at h
theorem bool_rel {av : AV} {b : Bool} {u : Value} (h : bool? av = some b) (hr : relAV R w M av u fz) : u = .bool b := by
 unfold bool? at h
 split at h
 ·simp only [Option.some.injEq] at h; subst h
  simp only [relAV, relA1, relT] at hr
  exact hr.1
 ·simp at h
/-- What a step promises. -/
def Ok (P : Program) (R : Nat → Prop) (w : World) (M : List Loc) (F : FP) (o : Oper) (a : Act) (av : AV) (H' : List AObj) : Prop :=
 ∃ w' N F', ((∃ u, (execOp a.eval o).run P w = .ok (.value u) w' ∧ relAV R w' (M ++ N) av u fz) ∨ ((execOp a.eval o).run P w = .ok .skip w' ∧ av = .s .any)) ∧ relHeap R w' (M ++ N) H' (M ++ N) F' ∧ Good R w' F' ∧ Fr R w F R w' F'
section
variable {o : Oper} {a : Act} {F : FP} {H H' : List AObj} {av : AV} {u : Value} {s : St}
theorem Ok.keep (hr : (execOp a.eval o).run P w = .ok (.value u) w) (h : relAV R w M av u fz) (hH : relHeap R w M H M F) (hg : Good R w F) : Ok P R w M F o a av H :=
 ⟨w, [], F, .inl ⟨u, hr, by simpa using h⟩, by simpa using hH, hg, Fr.refl _ _ _⟩
/-- What an operation that gives a value does. -/
theorem exec_v {sv : Sem Value} {w1 : World} (he : execOp a.eval o = (do pure (.value (← sv)))) (hr : sv.run P w = .ok u w1) : (execOp a.eval o).run P w = .ok (.value u) w1 := by
 rw [he]
 simp [hr]
theorem abin_sound {op : BinOp} {x y z : Value} (h : abin op x y = some z) (t : TypeId) (p q : Operand) : (do eqGuard op t p q x y; binOp op t x y : Sem Value).run P w = .ok z w ∧ scal z = true := by
  unfold abin at h
  split at h
  all_goals first
    | (simp at h; done)
    | (split at h
       · rename_i hc
         simp only [Option.some.injEq] at h
         subst h
         refine ⟨?_, rfl⟩
         first
           | (obtain ⟨rfl, hc⟩ := hc; simp [eqGuard, binOp, Op.intDiv, hc]; done)
           | (subst hc; simp [eqGuard, binOp, Op.intArith, Op.intBits, Op.intCmp]; done)
       · simp at h)
    | skip
  case h_1 =>
    split at h
    · rename_i hc
      simp only [Option.some.injEq] at h
      subst h
      refine ⟨?_, rfl⟩
      have hc' : ¬ _ := Int.not_lt.2 hc
      simp [eqGuard, binOp, Op.shift, hc']
    · simp at h
  case h_2 =>
    split at h
    · rename_i hc
      simp only [Option.some.injEq] at h
      subst h
      refine ⟨?_, rfl⟩
      have hc' : ¬ _ := Int.not_lt.2 hc
      simp [eqGuard, binOp, Op.shift, hc']
    · simp at h
  case h_16 x y =>
    split at h
    · rename_i hc
      simp only [Option.some.injEq] at h
      subst h
      refine ⟨?_, rfl⟩
      have hc' : ¬ (((x.size + y.size : Nat) : Int) > IntKind.i64.max) := by
        have : IntKind.i64.max = 9223372036854775807 := by decide
        omega
      simp only [eqGuard, binOp, Op.stringOp, hc', if_false]
      rfl
    · simp at h
  case h_17 =>
    simp only [Option.some.injEq] at h
    subst h
    exact ⟨rfl, rfl⟩
  case h_18 =>
    simp only [Option.some.injEq] at h
    subst h
    exact ⟨rfl, rfl⟩
theorem isBoolT_ty {t : TypeId} (h : isBoolT P t = true) : P.underlying t = some .bool := by
 unfold isBoolT at h
 split at h
 ·rename_i i hi
  obtain ⟨d, j, z, h1, h2, h3, h4, -⟩ := ti_some hi
  rw [h1]
  rw [h4] at h
  cases d <;> simp only [kindOf] at h
  case bool => rfl
  case struct fs =>
   cases hm : fs.toList.mapM (fieldInfo P) <;> (rw [hm] at h; cases h)
  all_goals cases h
 ·cases h
theorem run_equal_bool {t : TypeId} (h : isBoolT P t = true) (x y : Bool) : (Op.equal t (.bool x) (.bool y)).run P w = .ok (x == y) w := by
 have hu := isBoolT_ty h
 show (Op.equalIn (9999 + 1) t (.bool x) (.bool y)).run P w = _
 unfold Op.equalIn
 simp [underlying, hu]
theorem abinT_sound {op : BinOp} {x y z : Value} {t : TypeId} (h : abinT P t op x y = some z) (p q : Operand) : (do eqGuard op t p q x y; binOp op t x y : Sem Value).run P w = .ok z w ∧ scal z = true := by
 unfold abinT at h
 split at h
 ·split at h
  ·rename_i hb
   simp only [Option.some.injEq] at h
   subst h
   refine ⟨?_, rfl⟩
   simp [eqGuard, binOp, run_equal_bool hb]
  ·cases h
 ·split at h
  ·rename_i hb
   simp only [Option.some.injEq] at h
   subst h
   refine ⟨?_, rfl⟩
   simp [eqGuard, binOp, run_equal_bool hb, bne]
  ·cases h
 ·exact abin_sound h t p q
theorem aun_sound {op : UnOp} {x z : Value} (h : aun op x = some z) : (Op.unary op x).run P w = .ok z w ∧ scal z = true := by
 unfold aun at h
 split at h
 ·simp only [Option.some.injEq] at h; subst h; exact ⟨rfl, rfl⟩
 ·simp only [Option.some.injEq] at h; subst h; exact ⟨rfl, rfl⟩
 ·simp at h
theorem amax_run {op : Bool} {x y z : Value} (h : amax op x y = some z) : ((if op then Builtin.max2 else Builtin.min2) x y).run P w = .ok z w := by
 unfold amax at h
 split at h
 ·simp only [Option.some.injEq] at h
  subst h
  cases op
  ·simp only [Bool.false_eq_true, if_false]; rfl
  ·simp only [if_true]; rfl
 ·simp at h
theorem aminmax_run {op : Bool} : ∀ {r : List Value} {x z : Value}, aminmax op x r = some z → (r.foldlM (if op then Builtin.max2 else Builtin.min2) x : Sem Value).run P w = .ok z w
 | [], x, z, h => by
  simp only [aminmax, Option.some.injEq] at h
  subst h
  rfl
 | y :: r, x, z, h => by
  simp only [aminmax] at h
  split at h
  ·rename_i q hq
   simp only [List.foldlM_cons, Sem.run_bind, amax_run hq, Result.andThen_ok]
   exact aminmax_run h
  ·simp at h
theorem vals_rel (henv : relEnv R w M s.env a.tmps) : ∀ {l : List Operand} {vs : List Value}, vals s l = some vs → l.map a.eval = vs
 | [], vs, h => by simp only [vals, Option.some.injEq] at h; subst h; rfl
 | x :: r, vs, h => by
  simp only [vals] at h
  split at h
  ·rename_i t ts h1 h2
   simp only [Option.some.injEq] at h
   subst h
   rw [List.map_cons, vals_rel henv h2, (val_rel h1 (ev_sound henv x)).1]
  ·simp at h
theorem aparts_rel (henv : relEnv R w M s.env a.tmps) (ps : Array (Nat × Operand)) : relParts R w M (aparts s ps) ((ps.map fun (i, x) => (i, a.eval x)).toList) := by
 simp only [aparts, Array.toList_map]
 induction ps.toList with
 | nil => trivial
 | cons p ps ih => exact ⟨rfl, a1_rel (ev_sound henv p.2), ih⟩
theorem caps_rel (henv : relEnv R w M s.env a.tmps) : ∀ {l : List Operand} {ts : List T}, caps s l = some ts → ∀ (c : Array Value) (o : Nat), (∀ j, j < l.length → c[o + j]? = (l.map a.eval)[j]?) → ts.length = l.length ∧ relTRow R w M c ts o fz
 | [], ts, h, c, o, hc => by simp only [caps, Option.some.injEq] at h; subst h; exact ⟨rfl, by simp [relTRow]⟩
 | x :: r, ts, h, c, o, hc => by
  simp only [caps] at h
  split at h
  ·rename_i t ts' h1 h2
   simp only [Option.some.injEq] at h
   subst h
   obtain ⟨g1, g2⟩ := caps_rel henv h2 c (o + 1) (fun j hj => by
    have := hc (j + 1) (by simp; omega)
    rw [show o + 1 + j = o + (j + 1) by omega, this]
    simp)
   refine ⟨by simp [g1], ?_⟩
   simp only [relTRow]
   exact ⟨a.eval x, fz, fz, by have := hc 0 (by simp); simpa using this, one_rel h1 (ev_sound henv x), g2, rfl⟩
  ·simp at h
theorem bnd_rel (henv : relEnv R w M s.env a.tmps) {d i : Int} {x : Option Operand} (h : bnd? s d x = some i) : relB d (x.map a.eval) i := by
 cases x with
 | none => simp only [bnd?, Option.some.injEq] at h; exact h.symm
 | some x =>
  obtain ⟨k, hk⟩ := int_rel (by simpa [bnd?] using h) (ev_sound henv x)
  exact ⟨k, hk⟩
end
end Go.Proofs.YtejnpiielcbkkaaGreat.E
end
section
namespace Go.Proofs.YtejnpiielcbkkaaGreat.E
variable {P : Program} {R R' : Nat → Prop} {w w' : World} {M M' : List Loc} {c : Array Value}
variable {o : Oper} {a : Act} {F : FP} {H' : List AObj} {av : AV} {u : Value} {s : St}
theorem kind_slice {d : TypeDesc} {e : Nat} (h : kindOf P d = .sl e) : d = .slice e := by
 cases d <;> simp only [kindOf] at h <;> first
  | (simp at h; done)
  | (simp only [TK.sl.injEq] at h; rw [h]; done)
  | (split at h <;> simp at h)
theorem kind_str {d : TypeDesc} (h : kindOf P d = .str) : d = .string := by
 cases d <;> simp only [kindOf] at h <;> first
  | rfl
  | (simp at h; done)
  | (split at h <;> simp at h)
theorem kind_int {d : TypeDesc} {k : IntKind} (h : kindOf P d = .int k) : d = .int k := by
 cases d <;> simp only [kindOf] at h <;> first
  | (simp at h; done)
  | (simp only [TK.int.injEq] at h; rw [h]; done)
  | (split at h <;> simp at h)
theorem mapM_get {α β : Type} {f : α → Option β} : ∀ {l : List α} {r : List β} {k : Nat} {y : β}, l.mapM f = some r → r[k]? = some y → ∃ x, l[k]? = some x ∧ f x = some y
 | [], r, k, y, h, hk => by simp at h; subst h; simp at hk
 | x :: l, r, k, y, h, hk => by
  simp only [List.mapM_cons, Option.bind_eq_bind, Option.pure_def] at h
  cases hx : f x with
  | none => simp [hx] at h
  | some z =>
   cases hr : l.mapM f with
   | none => simp [hx, hr] at h
   | some rest =>
    simp [hx, hr] at h
    subst h
    cases k with
    | zero => simp at hk; exact ⟨x, rfl, by rw [hx, hk]⟩
    | succ k => simpa using mapM_get hr (by simpa using hk)
theorem kind_st {d : TypeDesc} {fs : List (Nat × Nat × Bool)} {k off sz : Nat} {ag : Bool} (h : kindOf P d = .st fs) (hk : fs[k]? = some (off, sz, ag)) : ∃ fields f j, d = .struct fields ∧ fields[k]? = some f ∧ f.offset = off ∧ P.info? f.type = some j ∧ j.size = sz ∧ aggB P f.type = ag ∧ ∃ d', P.underlying f.type = some d' := by
 cases d <;> simp only [kindOf] at h <;> try (simp at h; done)
 rename_i fields
 split at h
 ·rename_i l hl
  simp only [TK.st.injEq] at h
  subst h
  obtain ⟨f, h1, h2⟩ := mapM_get hl hk
  obtain ⟨j, d', hi, hd', h3⟩ := fieldInfo_some h2
  simp only [Prod.mk.injEq] at h3
  exact ⟨fields, f, j, rfl, by simpa using h1, h3.1.symm, hi, h3.2.1.symm, h3.2.2.symm, d', hd'⟩
 ·simp at h
theorem bytesOf_rel : ∀ {rows : List (List T)} {bs : List UInt8} {o : Nat} {F : FP}, bytesOf rows = some bs → relTRows R w M c 1 rows o F → ∃ ns : List Int, (∀ j, j < rows.length → c[o + j]? = (ns.map (Value.int .u8))[j]?) ∧ ns.length = rows.length ∧ bs = ns.map fun n => UInt8.ofNat n.toNat
 | [], bs, o, F, h, hr => by simp only [bytesOf, Option.some.injEq] at h; subst h; exact ⟨[], fun j hj => by simp at hj, rfl, rfl⟩
 | r :: rs, bs, o, F, h, hr => by
  simp only [bytesOf] at h
  split at h
  ·rename_i b bs' h1 h2
   simp only [Option.some.injEq] at h
   subst h
   simp only [relTRows] at hr
   obtain ⟨F1, F2, -, h3, h4, -⟩ := hr
   obtain ⟨ns, n1, n2, n3⟩ := bytesOf_rel h2 h4
   unfold byteOf at h1
   split at h1
   ·rename_i n
    simp only [Option.some.injEq] at h1
    simp only [relTRow, relT] at h3
    obtain ⟨u, G1, G2, g1, ⟨rfl, -, -⟩, -, -⟩ := h3
    refine ⟨n :: ns, fun j hj => ?_, by simp [n2], by rw [← h1, n3]; rfl⟩
    cases j with
    | zero => simpa using g1
    | succ j =>
     have := n1 j (by simp at hj; omega)
     rw [show o + (j + 1) = o + 1 + j by omega, this]
     simp
   ·simp at h1
  ·simp at h
theorem push_fold : ∀ (ns : List Int) (r : ByteArray), ns.foldl (fun r n => r.push (UInt8.ofNat n.toNat)) r = ⟨r.data ++ (ns.map fun n => UInt8.ofNat n.toNat).toArray⟩
 | [], r => by simp
 | n :: ns, r => by
  rw [List.foldl_cons, push_fold ns]
  simp [ByteArray.push]
theorem list1 {α : Type} {xs : Array α} {x : α} (h : xs.toList = [x]) : xs = #[x] := by
 apply Array.ext'
 simp [h]
theorem list2 {α : Type} {xs : Array α} {x y : α} (h : xs.toList = [x, y]) : xs = #[x, y] := by
 apply Array.ext'
 simp [h]
theorem listc {α : Type} {xs : Array α} {x : α} {r : List α} (h : xs.toList = x :: r) : xs = (x :: r).toArray := by
 apply Array.ext'
 simp [h]
theorem abuiltin_sound {b : Builtin} {ts : Array TypeId} {args : Array Operand} (hop : o.op = .call { callee := .builtin b, args := args, argTypes := ts }) (h : abuiltin P s b ts args = some (av, H')) (henv : relEnv R w M s.env a.tmps) (hH : relHeap R w M s.H M F) (hg : Good R w F) : Ok P R w M F o a av H' := by
 have hres : ∀ {sv : Sem Value} {v : Value} {w1 : World}, (∀ cs, builtin b ts o.type cs (args.map a.eval) = (do pure (.value (← sv)))) → sv.run P w = .ok v w1 → (execOp a.eval o).run P w = .ok (.value v) w1 := by
  intro sv v w1 hb hr
  simp only [execOp, hop, resolve, pure_bind, invoke]
  rw [hb]
  simp [hr]
 unfold abuiltin at h
 split at h
 ·-- len
  rename_i x t ha ht
  have ha' := list1 ha
  have ht' := list1 ht
  subst ha' ht'
  split at h
  ·rename_i tt i hx hi
   have hr := one_rel hx (ev_sound henv x)
   obtain ⟨d, j, z, hd, hj, hz, hkk, -⟩ := ti_some hi
   split at h
   ·simp at h
   ·rename_i tt x0 x1 tt1 n e hk hno hlen
    simp only [Option.some.injEq, Prod.mk.injEq] at h
    obtain ⟨rfl, rfl⟩ := h
    rw [hkk] at hk
    have hd2 := kind_slice hk
    subst hd2
    refine Ok.keep (u := .int .i64 n) (hres (sv := Builtin.len_ #[t] o.type #[a.eval x]) (by intro cs; simp [builtin]) ?_) (by simp [mkOne, relAV, relA1, relT, scal]) hH hg
    cases tt with
    | v y =>
     simp only [relT] at hr
     obtain ⟨hu, hsc, -⟩ := hr
     unfold lenT at hlen
     split at hlen <;> try (simp at hlen; done)
     ·rename_i heq
      simp only [T.v.injEq] at heq
      subst heq
      simp only [Option.some.injEq] at hlen
      subst hlen
      rw [hu]
      simp [Builtin.len_, run_underlying hd, goInt]
     ·rename_i heq; simp at heq
     ·rename_i heq; simp at heq
     ·rename_i s heq
      exact absurd heq (by intro h; exact hno _ (by simpa using h))
    | ro sz rows =>
     simp only [relT, relD] at hr
     obtain ⟨⟨ad, cap, hu, -⟩, -⟩ := hr
     simp only [lenT, Option.some.injEq] at hlen
     subst hlen
     rw [hu]
     simp [Builtin.len_, run_underlying hd, goInt]
    | ref l off len =>
     simp only [relT] at hr
     obtain ⟨-, L, ad, cap, -, hu, -⟩ := hr
     simp only [lenT, Option.some.injEq] at hlen
     subst hlen
     rw [hu]
     simp [Builtin.len_, run_underlying hd, goInt]
    | _ => simp [lenT] at hlen
   ·rename_i n y hk hlen
    simp only [Option.some.injEq, Prod.mk.injEq] at h
    obtain ⟨rfl, rfl⟩ := h
    rw [hkk] at hk
    have hd2 := kind_str hk
    subst hd2
    simp only [relT] at hr
    obtain ⟨hu, -, -⟩ := hr
    simp only [lenT, Option.some.injEq] at hlen
    subst hlen
    refine Ok.keep (u := .int .i64 y.size) (hres (sv := Builtin.len_ #[t] o.type #[a.eval x]) (by intro cs; simp [builtin]) ?_) (by simp [mkOne, relAV, relA1, relT, scal]) hH hg
    rw [hu]
    simp [Builtin.len_, run_underlying hd, goInt]
   ·simp at h
  ·simp at h
 ·-- append
  rename_i x y t t2 ha ht
  have ha' := list2 ha
  have ht' := list2 ht
  subst ha' ht'
  split at h
  ·rename_i p q i hx hy hi
   split at h
   ·rename_i e hk
    split at h
    ·rename_i j hj
     split at h
     ·rename_i hc
      obtain ⟨c1, c2, c3, c4⟩ := hc
      obtain ⟨d, jj, z, hd, -, -, hkk, -⟩ := ti_some hi
      rw [hkk] at hk
      have hd2 := kind_slice hk
      subst hd2
      obtain ⟨v, w', N, F', r1, r2, r3, r4, r5⟩ := append_sound (t3 := o.type) h hj hd c1 c2 c3 c4 (one_rel hx (ev_sound henv x)) (one_rel hy (ev_sound henv y)) hH hg
      exact ⟨w', N, F', .inl ⟨v, hres (sv := Builtin.append_ #[t, t2] o.type #[a.eval x, a.eval y]) (by intro cs; simp [builtin]) r1, r2⟩, r3, r4, r5⟩
     ·simp at h
    ·simp at h
   ·simp at h
  ·simp at h
 ·-- max
  rename_i x r ha
  have ha' := listc ha
  subst ha'
  split at h
  ·rename_i p vs hx hr
   split at h
   ·rename_i z hz
    split at h
    ·rename_i hsc
     simp only [Option.some.injEq, Prod.mk.injEq] at h
     obtain ⟨rfl, rfl⟩ := h
     have h1 := (val_rel hx (ev_sound henv x)).1
     have h2 := vals_rel henv hr
     refine Ok.keep (u := z) (hres (sv := Builtin.max_ ts o.type ((x :: r).toArray.map a.eval)) (by intro cs; rfl) ?_) (by simp [mkOne, relAV, relA1, relT, hsc]) hH hg
     have := aminmax_run (P := P) (w := w) hz
     simp only [if_true] at this
     simp only [Builtin.max_, List.map_toArray, List.map_cons, h1, h2]
     exact this
    ·simp at h
   ·simp at h
  ·simp at h
 ·-- min
  rename_i x r ha
  have ha' := listc ha
  subst ha'
  split at h
  ·rename_i p vs hx hr
   split at h
   ·rename_i z hz
    split at h
    ·rename_i hsc
     simp only [Option.some.injEq, Prod.mk.injEq] at h
     obtain ⟨rfl, rfl⟩ := h
     have h1 := (val_rel hx (ev_sound henv x)).1
     have h2 := vals_rel henv hr
     refine Ok.keep (u := z) (hres (sv := Builtin.min_ ts o.type ((x :: r).toArray.map a.eval)) (by intro cs; rfl) ?_) (by simp [mkOne, relAV, relA1, relT, hsc]) hH hg
     have := aminmax_run (P := P) (w := w) hz
     simp only [Bool.false_eq_true, if_false] at this
     simp only [Builtin.min_, List.map_toArray, List.map_cons, h1, h2]
     exact this
    ·simp at h
   ·simp at h
  ·simp at h
 ·simp at h
end Go.Proofs.YtejnpiielcbkkaaGreat.E
end
section
namespace Go.Proofs.YtejnpiielcbkkaaGreat.E
variable {P : Program} {R R' : Nat → Prop} {w w' : World} {M M' : List Loc} {c : Array Value}
variable {o : Oper} {a : Act} {F : FP} {H' : List AObj} {av : AV} {u : Value} {s : St}
theorem aconv_sound {src dst : TypeId} {x : Operand} {t : T} (hop : o.op = .convert src dst x) (hx : one? (ev s x) = some t) (h : aconv P s src dst t = some (av, H')) (henv : relEnv R w M s.env a.tmps) (hH : relHeap R w M s.H M F) (hg : Good R w F) : Ok P R w M F o a av H' := by
  have hr := one_rel hx (ev_sound henv x)
  unfold aconv at h
  split at h
  · rename_i p q k n hp hq
    obtain ⟨d1, j1, z1, hd1, -, -, hk1, -⟩ := ti_some hp
    obtain ⟨d2, j2, z2, hd2, -, -, hk2, -⟩ := ti_some hq
    split at h
    · rename_i k' hk
      simp only [Option.some.injEq, Prod.mk.injEq] at h
      obtain ⟨rfl, rfl⟩ := h
      rw [hk2] at hk
      have := kind_int hk
      subst this
      simp only [relT] at hr
      obtain ⟨hu, -, -⟩ := hr
      refine Ok.keep (u := .int k' (k'.wrap n)) (exec_v (sv := convert src dst (a.eval x)) (by rw [execOp, hop]) ?_) (by simp [mkOne, relAV, relA1, relT, scal]) hH hg
      rw [hu]
      simp [convert, run_underlying hd1, run_underlying hd2, Conv.intToInt]
    · simp at h
  · rename_i p q z hp hq
    obtain ⟨d1, j1, z1, hd1, -, -, hk1, -⟩ := ti_some hp
    obtain ⟨d2, j2, z2, hd2, -, -, hk2, -⟩ := ti_some hq
    simp only [relT] at hr
    obtain ⟨hu, -, -⟩ := hr
    split at h
    · rename_i e h1 h2
      split at h
      · rename_i he
        simp only [Option.some.injEq, Prod.mk.injEq] at h
        obtain ⟨rfl, rfl⟩ := h
        rw [hk1] at h1
        rw [hk2] at h2
        have e1 := kind_str h1
        have e2 := kind_slice h2
        subst e1 e2
        have hrun := run_bytes_of_string (P := P) w src dst e z hd1 hd2 he
        have hge := grownCap_ge w z.size 0 e
        have hsz : (bytesRow z (grownCap w z.size 0 e)).size = grownCap w z.size 0 e := by
          simp only [bytesRow, Array.size_append, Array.size_map, Array.size_replicate]
          have : z.data.size = z.size := rfl
          omega
        have hrows : ∀ (l : List UInt8) (o : Nat) (c : Array Value), (∀ j, j < l.length → c[o + j]? = (l.map fun b => Value.int .u8 b.toNat)[j]?) → relTRows R w M c 1 (l.map fun b => [T.v (.int .u8 b.toNat)]) o fz := by
          intro l
          induction l with
          | nil => intro o c _; simp [relTRows]
          | cons b l ih =>
            intro o c hc
            simp only [List.map_cons, relTRows]
            refine ⟨fz, fz, rfl, ?_, ih (o + 1) c (fun j hj => ?_), rfl⟩
            · simp only [relTRow]
              exact ⟨.int .u8 b.toNat, fz, fz, by have := hc 0 (by simp); simpa using this, by simp [relT, scal], rfl, rfl⟩
            · have := hc (j + 1) (by simp; omega)
              rw [show o + 1 + j = o + (j + 1) by omega, this]
              simp
        obtain ⟨q1, q2, q3, q4⟩ := newObj_sound (w := w) (R := R) (M := M) (H := s.H) (F := F) (Fn := fz) (cs := bytesRow z (grownCap w z.size 0 e)) (e := e) (lo := (bytesRow z (grownCap w z.size 0 e)).size) (hi := (bytesRow z (grownCap w z.size 0 e)).size + 1) (sz := 1) (room := grownCap w z.size 0 e) (rows := z.data.toList.map fun b => [T.v (.int .u8 b.toNat)])
          (w1 := w.drew.alloc (.cells (bytesRow z (grownCap w z.size 0 e)) e ((bytesRow z (grownCap w z.size 0 e)).size, (bytesRow z (grownCap w z.size 0 e)).size + 1))) rfl hH (by rw [fa_z]; exact hg) (.inr (Nat.le_refl _)) (hrows _ 0 _ (fun j hj => by
            simp only [bytesRow, Nat.zero_add]
            rw [Array.getElem?_append, if_pos (by simpa using hj)]
            simp)) (by rw [List.length_map]; have : z.data.toList.length = z.size := by rw [Array.length_toList]; rfl
                       omega) (by rw [hsz]; omega)
        rw [fa_z] at q3
        refine ⟨_, [⟨w.heap.size, 0, 1, grownCap w z.size 0 e⟩], _, .inl ⟨_, exec_v (sv := convert src dst (a.eval x)) (by rw [execOp, hop]) (by rw [hu]; exact hrun), ?_⟩, q1, q2, q3⟩
        simp only [mkOne, relAV, relA1, relT]
        exact ⟨trivial, ⟨w.heap.size, 0, 1, grownCap w z.size 0 e⟩, _, _, by rw [relHeap_len hH]; simp, rfl, hge, by simp, .inr (by simp)⟩
      · simp at h
    · rename_i h1 h2
      simp only [Option.some.injEq, Prod.mk.injEq] at h
      obtain ⟨rfl, rfl⟩ := h
      rw [hk1] at h1
      rw [hk2] at h2
      have e1 := kind_str h1
      have e2 := kind_str h2
      subst e1 e2
      refine Ok.keep (u := .string z) (exec_v (sv := convert src dst (a.eval x)) (by rw [execOp, hop]) ?_) (by simp [mkOne, relAV, relA1, relT, scal]) hH hg
      rw [hu]
      simp [convert, run_underlying hd1, run_underlying hd2]
    · simp at h
  · rename_i t y1 y2 y3 p q hp hq hno1 hno2
    obtain ⟨d1, j1, z1, hd1, -, -, hk1, -⟩ := ti_some hp
    obtain ⟨d2, j2, z2, hd2, -, -, hk2, -⟩ := ti_some hq
    split at h
    · rename_i e rows h1 h2 hrows
      split at h
      · rename_i bs he hbs
        simp only [Option.some.injEq, Prod.mk.injEq] at h
        obtain ⟨rfl, rfl⟩ := h
        rw [hk1] at h1
        rw [hk2] at h2
        have e1 := kind_slice h1
        have e2 := kind_str h2
        subst e1 e2
        obtain ⟨cs, Fc, c1, c2, -, c4, c5⟩ := rowsOf_sound (P := P) (by omega) hrows hr hH
        obtain ⟨ns, n1, n2, n3⟩ := bytesOf_rel hbs c2
        have hcs : cs = ns.map (Value.int .u8) := by
          apply List.ext_getElem?
          intro j
          by_cases hj : j < rows.length
          · have := n1 j hj
            rw [Nat.zero_add] at this
            simpa using this
          · rw [List.getElem?_eq_none (by omega), List.getElem?_eq_none (by simp; omega)]
        refine Ok.keep (u := .string ⟨bs.toArray⟩) (exec_v (sv := convert src dst (a.eval x)) (by rw [execOp, hop]) ?_) (by simp [mkOne, relAV, relA1, relT, scal]) hH hg
        have hlen := c4 w
        have hfc := c5 w rfl
        have hsl : ∃ ad cap, a.eval x = .slice ad rows.length cap := by
          cases ht : t <;> subst ht <;> simp only [relT, relD] at hr
          case v y =>
            obtain ⟨hu, hsc, -⟩ := hr
            unfold rowsOf at hrows
            split at hrows <;> try (simp at hrows; done)
            · rename_i heq
              simp only [T.v.injEq] at heq
              subst heq
              simp only [Option.some.injEq] at hrows
              subst hrows
              exact ⟨none, 0, hu⟩
            · rename_i heq; simp at heq
            · rename_i heq; simp at heq
            · rename_i z heq
              simp only [T.v.injEq] at heq
              subst heq
              exact absurd rfl (hno2 z)
          case ro sz ds =>
            obtain ⟨⟨ad, cap, hu, -⟩, -⟩ := hr
            rw [hu] at hlen
            simp only [Builtin.lenOf, Sem.run_pure, Result.ok.injEq, and_true] at hlen
            exact ⟨ad, cap, by rw [hu, hlen]⟩
          case ref l off len =>
            obtain ⟨-, L, ad, cap, -, hu, -⟩ := hr
            rw [hu] at hlen
            simp only [Builtin.lenOf, Sem.run_pure, Result.ok.injEq, and_true] at hlen
            exact ⟨ad, cap, by rw [hu, hlen]⟩
          all_goals simp [rowsOf] at hrows
        obtain ⟨ad, cap, hu⟩ := hsl
        rw [hu] at hfc ⊢
        rw [run_convert_bytes_string w src dst e ad rows.length cap hd1 he hd2]
        cases ad with
        | none =>
          simp only [Builtin.firstCells, Sem.run_pure, Result.ok.injEq, and_true] at hfc
          have h0 : cs = [] := by
            have := congrArg Array.toList hfc
            simpa using this.symm
          rw [h0] at hcs
          have hns : ns = [] := by
            have := congrArg List.length hcs
            exact List.eq_nil_of_length_eq_zero (by simpa using this.symm)
          subst hns
          subst n3
          rfl
        | some ad =>
          simp only [Builtin.firstCells, Nat.mul_one] at hfc
          rw [hcs] at hfc
          rw [run_bytesToString w ad rows.length cap ns hfc, push_fold, n3]
          simp
      · simp at h
    · simp at h
  · simp at h
set_option maxHeartbeats 1000000 in
theorem astep_sound {op : Op} (hop : o.op = op) (h : astep P s op = some (av, H')) (henv : relEnv R w M s.env a.tmps) (hH : relHeap R w M s.H M F) (hg : Good R w F) : Ok P R w M F o a av H' := by
 have hev := fun x => ev_sound (a := a) henv x
 cases op
 case move x =>
  simp only [astep, Option.some.injEq, Prod.mk.injEq] at h
  obtain ⟨rfl, rfl⟩ := h
  exact Ok.keep (by simp [execOp, hop]) (hev x) hH hg
 case assign x =>
  simp only [astep, Option.some.injEq, Prod.mk.injEq] at h
  obtain ⟨rfl, rfl⟩ := h
  exact Ok.keep (by simp [execOp, hop]) (hev x) hH hg
 case pick cc x y =>
  simp only [astep] at h
  split at h
  ·rename_i t ht
   simp only [Option.some.injEq, Prod.mk.injEq] at h
   obtain ⟨rfl, rfl⟩ := h
   have hb := bool_rel ht (hev cc)
   cases t with
   | true => exact Ok.keep (u := a.eval x) (by simp [execOp, hop, hb, asBool]) (hev x) hH hg
   | false => exact Ok.keep (u := a.eval y) (by simp [execOp, hop, hb, asBool]) (hev y) hH hg
  ·simp at h
 case alloc e =>
  simp only [astep] at h
  split at h
  ·rename_i i hi
   split at h
   ·rename_i hz
    simp only [Option.some.injEq, Prod.mk.injEq] at h
    obtain ⟨rfl, rfl⟩ := h
    obtain ⟨d, j, z, hd, hj, hz', hkk, hs, hb, ha, hzz⟩ := ti_some hi
    obtain ⟨v, w', N, F', r1, r2, r3, r4, r5⟩ := box_sound (P := P) (e := e) (v := z) (ts := i.zero.map T.v) (by rw [hzz] at hz ⊢; exact all_scal hz) (by rw [hzz]; simp) hH hg
    refine ⟨w', N, F', .inl ⟨.pointer (some v), exec_v (sv := Instr.alloc e true (.tuple #[])) (by rw [execOp, hop]) ?_, r2⟩, r3, r4, r5⟩
    simp [Instr.alloc, run_zero hj hz', r1]
   ·simp at h
  ·simp at h
 case box e x =>
  simp only [astep] at h
  split at h
  ·rename_i ts hts
   simp only [Option.some.injEq, Prod.mk.injEq] at h
   obtain ⟨rfl, rfl⟩ := h
   obtain ⟨c1, c2, -⟩ := cells1_rel hts (a1_rel (hev x))
   obtain ⟨v, w', N, F', r1, r2, r3, r4, r5⟩ := box_sound (P := P) (e := e) (v := a.eval x) c2 c1 hH hg
   refine ⟨w', N, F', .inl ⟨.pointer (some v), exec_v (sv := Instr.box e (a.eval x)) (by rw [execOp, hop]) ?_, r2⟩, r3, r4, r5⟩
   simp [Instr.box, r1]
  ·simp at h
 case build t ps =>
  simp only [astep] at h
  split at h
  ·rename_i i hi
   split at h
   ·rename_i fs hk
    split at h
    ·rename_i hz
     split at h
     ·rename_i row hrow
      simp only [Option.some.injEq, Prod.mk.injEq] at h
      obtain ⟨rfl, rfl⟩ := h
      obtain ⟨v, r1, r2⟩ := doBuild_sound (P := P) hi hk hz (aparts_rel henv ps) hrow
      exact Ok.keep (exec_v (sv := Instr.build t (ps.map fun (i, x) => (i, a.eval x))) (by rw [execOp, hop]) r1) r2 hH hg
     ·simp at h
    ·simp at h
   ·simp at h
  ·simp at h
 case buildSlice t len ps =>
  simp only [astep] at h
  split at h
  ·rename_i i hi
   split at h
   ·rename_i e hk
    split at h
    ·rename_i j hj
     split at h
     ·rename_i rows hrows
      split at h
      ·rename_i hc
       obtain ⟨c1, c2, c3⟩ := hc
       simp only [Option.some.injEq, Prod.mk.injEq] at h
       obtain ⟨rfl, rfl⟩ := h
       obtain ⟨d, jj, z, hd, -, -, hkk, -⟩ := ti_some hi
       rw [hkk] at hk
       have := kind_slice hk
       subst this
       obtain ⟨v, w', N, F', r1, r2, r3, r4, r5⟩ := buildSlice_sound (P := P) hj hd (aparts_rel henv ps) hrows (by simp [aparts, c1]) c2 c3 hH hg
       exact ⟨w', N, F', .inl ⟨v, exec_v (sv := Instr.buildSlice t len (ps.map fun (i, x) => (i, a.eval x))) (by rw [execOp, hop]) r1, r2⟩, r3, r4, r5⟩
      ·simp at h
     ·simp at h
    ·simp at h
   ·simp at h
  ·simp at h
 case load t x =>
  simp only [astep] at h
  split at h
  ·rename_i i p hi hp
   obtain ⟨v, N, r1, r2, r3⟩ := doLoad_sound (P := P) h hi (one_rel hp (hev x)) hH
   exact ⟨w, N, F, .inl ⟨v, exec_v (sv := Instr.loadAt t (a.eval x)) (by rw [execOp, hop]) r1, r2⟩, r3, hg, Fr.refl _ _ _⟩
  ·simp at h
 case store t x y =>
  simp only [astep] at h
  split at h
  ·rename_i i p hi hp
   split at h
   ·rename_i H2 hH2
    simp only [Option.some.injEq, Prod.mk.injEq] at h
    obtain ⟨rfl, rfl⟩ := h
    obtain ⟨w', F', r1, r2, r3, r4⟩ := doStore_sound (P := P) hH2 hi (one_rel hp (hev x)) (a1_rel (hev y)) hH hg
    refine ⟨w', [], F', .inr ⟨?_, rfl⟩, by simpa using r2, r3, r4⟩
    simp [execOp, hop, r1]
   ·simp at h
  ·simp at h
 case nilCheck x =>
  have hx := hev x
  simp only [astep] at h
  split at h
  ·rename_i l r cc he
   simp only [Option.some.injEq, Prod.mk.injEq] at h
   obtain ⟨rfl, rfl⟩ := h
   rw [he] at hx
   have hx' := hx
   simp only [relAV, relA1, relT] at hx'
   obtain ⟨-, L, -, hu⟩ := hx'
   exact Ok.keep (u := a.eval x) (by simp [execOp, hop, hu]) hx hH hg
  ·rename_i row cc he
   simp only [Option.some.injEq, Prod.mk.injEq] at h
   obtain ⟨rfl, rfl⟩ := h
   rw [he] at hx
   have hx' := hx
   simp only [relAV, relA1, relT] at hx'
   obtain ⟨-, b, oo, c, e, q, hu, -⟩ := hx'
   exact Ok.keep (u := a.eval x) (by simp [execOp, hop, hu]) hx hH hg
  ·rename_i bd f cc he
   simp only [Option.some.injEq, Prod.mk.injEq] at h
   obtain ⟨rfl, rfl⟩ := h
   rw [he] at hx
   have hx' := hx
   simp only [relAV, relA1, relT] at hx'
   obtain ⟨-, c, hu, -⟩ := hx'
   exact Ok.keep (u := a.eval x) (by cases bd <;> simp [execOp, hop, hu, fnV]) hx hH hg
  ·simp at h
 case binOp bop t x y ty =>
  simp only [astep] at h
  split at h
  ·rename_i p q hp hq
   split at h
   ·rename_i z hz
    simp only [Option.some.injEq, Prod.mk.injEq] at h
    obtain ⟨rfl, rfl⟩ := h
    obtain ⟨h1, h2⟩ := abinT_sound (P := P) (w := w) hz x y
    refine Ok.keep (u := z) (exec_v (sv := (do eqGuard bop t x y (a.eval x) (a.eval y); binOp bop t (a.eval x) (a.eval y))) (by rw [execOp, hop]) ?_) (by simp [mkOne, relAV, relA1, relT, h2]) hH hg
    rw [(val_rel hp (hev x)).1, (val_rel hq (hev y)).1]
    exact h1
   ·simp at h
  ·simp at h
 case unOp uop t x =>
  simp only [astep] at h
  split at h
  ·rename_i p hp
   split at h
   ·rename_i z hz
    simp only [Option.some.injEq, Prod.mk.injEq] at h
    obtain ⟨rfl, rfl⟩ := h
    obtain ⟨h1, h2⟩ := aun_sound (P := P) (w := w) hz
    refine Ok.keep (u := z) (exec_v (sv := Op.unary uop (a.eval x)) (by rw [execOp, hop]) ?_) (by simp [mkOne, relAV, relA1, relT, h2]) hH hg
    rw [(val_rel hp (hev x)).1]
    exact h1
   ·simp at h
  ·simp at h
 case convert src dst x =>
  simp only [astep] at h
  split at h
  ·rename_i t ht
   exact aconv_sound hop ht h henv hH hg
  ·simp at h
 case makeFunc fn first captured =>
  cases fn <;> simp only [astep] at h <;> try (simp at h; done)
  rename_i f
  split at h
  ·rename_i hf
   split at h
   ·rename_i ts hts
    simp only [Option.some.injEq, Prod.mk.injEq] at h
    obtain ⟨rfl, rfl⟩ := h
    obtain ⟨g1, g2⟩ := caps_rel henv hts (captured.map a.eval) 0 (fun j hj => by simp)
    refine Ok.keep (u := .func (.func f) #[] (captured.map a.eval)) ?_ ?_ hH hg
    ·have : first = #[] := by simpa using hf
     subst this
     simp [execOp, hop, Instr.makeFunc]
    ·simp only [mkOne, relAV, relA1, relT, fnV]
     exact ⟨trivial, _, rfl, by simp [g1], g2⟩
   ·simp at h
  ·split at h
   ·rename_i hf
    split at h
    ·rename_i ts hts
     simp only [Option.some.injEq, Prod.mk.injEq] at h
     obtain ⟨rfl, rfl⟩ := h
     obtain ⟨g1, g2⟩ := caps_rel henv hts (first.map a.eval) 0 (fun j hj => by simp)
     refine Ok.keep (u := .func (.func f) (first.map a.eval) #[]) ?_ ?_ hH hg
     ·have : captured = #[] := by simpa using hf
      subst this
      simp [execOp, hop, Instr.makeFunc]
     ·simp only [mkOne, relAV, relA1, relT, fnV]
      exact ⟨trivial, _, rfl, by simp [g1], g2⟩
    ·simp at h
   ·simp at h
 case makeSlice t l cc =>
  simp only [astep] at h
  split at h
  ·rename_i i n m hi hn hm
   split at h
   ·rename_i e hk
    split at h
    ·rename_i j hj
     split at h
     ·rename_i hc
      obtain ⟨rfl, c2, c3, c4, c5, c6⟩ := hc
      have c2 := leI_le c2
      have c3 := leI_le c3
      simp only [Option.some.injEq, Prod.mk.injEq] at h
      obtain ⟨rfl, rfl⟩ := h
      obtain ⟨d, jj, z, hd, -, -, hkk, -⟩ := ti_some hi
      rw [hkk] at hk
      have := kind_slice hk
      subst this
      obtain ⟨k1, hk1⟩ := int_rel hn (hev l)
      obtain ⟨k2, hk2⟩ := int_rel hm (hev cc)
      obtain ⟨v, w', N, F', r1, r2, r3, r4, r5⟩ := make_sound (P := P) (kl := k1) (kc := k2) hj hd c5 c6 c2 c3 c4 hH hg
      exact ⟨w', N, F', .inl ⟨v, exec_v (sv := Instr.makeSlice t (a.eval l) (a.eval cc)) (by rw [execOp, hop]) (by rw [hk1, hk2]; exact r1), r2⟩, r3, r4, r5⟩
     ·simp at h
    ·simp at h
   ·simp at h
  ·simp at h
 case slice t x lo hi mx =>
  cases mx with
  | some m => simp [astep] at h
  | none =>
  simp only [astep] at h
  split at h
  ·rename_i i tt hi' hx
   split at h
   ·rename_i n hlen
    split at h
    ·rename_i p q hp hq
     have hr := one_rel hx (hev x)
     obtain ⟨d, jj, z, hd, -, -, hkk, -⟩ := ti_some hi'
     have hlo := bnd_rel henv hp
     have hhi : ∀ m, lenT tt = some m → relB m (hi.map a.eval) q := fun m hm => by
      rw [hlen] at hm
      simp only [Option.some.injEq] at hm
      subst hm
      exact bnd_rel henv hq
     split at h
     ·rename_i e hk
      split at h
      ·rename_i j hj
       split at h
       ·rename_i t' ht'
        simp only [Option.some.injEq, Prod.mk.injEq] at h
        obtain ⟨rfl, rfl⟩ := h
        rw [hkk] at hk
        have := kind_slice hk
        subst this
        obtain ⟨d3, j3, z3, hd3, hj3, -, -, hs3, -⟩ := ti_some hj
        rw [hs3] at ht'
        obtain ⟨v, r1, r2⟩ := sliceAt_sound (P := P) ht' hd hj3 hr hH hlo hhi
        exact Ok.keep (exec_v (sv := Instr.sliceAt t (a.eval x) (lo.map a.eval) (hi.map a.eval) none) (by rw [execOp, hop]; rfl) r1) r2 hH hg
       ·simp at h
      ·simp at h
     ·rename_i hk
      split at h
      ·rename_i t' ht'
       simp only [Option.some.injEq, Prod.mk.injEq] at h
       obtain ⟨rfl, rfl⟩ := h
       rw [hkk] at hk
       have := kind_str hk
       subst this
       obtain ⟨v, r1, r2⟩ := sliceAtS_sound (P := P) ht' hd hr hlo hhi
       exact Ok.keep (exec_v (sv := Instr.sliceAt t (a.eval x) (lo.map a.eval) (hi.map a.eval) none) (by rw [execOp, hop]; rfl) r1) r2 hH hg
      ·simp at h
     ·simp at h
    ·simp at h
   ·simp at h
  ·simp at h
 case fieldAddr t x f =>
  simp only [astep] at h
  split at h
  ·rename_i i p hi hp
   split at h
   ·rename_i fs hk
    split at h
    ·rename_i off sz ag hf
     split at h
     ·simp at h
     ·rename_i hsz
      split at h
      ·rename_i p' hp'
       simp only [Option.some.injEq, Prod.mk.injEq] at h
       obtain ⟨rfl, rfl⟩ := h
       obtain ⟨d, jj, z, hd, -, -, hkk, -⟩ := ti_some hi
       rw [hkk] at hk
       obtain ⟨fields, fd', j, rfl, g1, g2, g3, g4, -, -⟩ := kind_st hk hf
       have hr := one_rel hp (hev x)
       have hz : ¬ j.size = 0 := by omega
       unfold doField at hp'
       split at hp' <;> try (simp at hp'; done)
       ·rename_i l r cc
        simp only [Option.some.injEq] at hp'
        subst hp'
        simp only [relT] at hr
        obtain ⟨-, L, hL, hu⟩ := hr
        refine Ok.keep (u := .pointer (some ⟨L.b, L.o + r * L.sz + cc + off, none⟩)) (exec_v (sv := Instr.fieldAt t (a.eval x) f) (by rw [execOp, hop]) ?_) ?_ hH hg
        ·rw [hu]
         simp [Instr.fieldAt, run_underlying hd, g1, Instr.sureAddr, fieldPlace, run_size g3, hz, Addr.add_lit, g2]
        ·simp only [mkOne, relAV, relA1, relT]
         exact ⟨trivial, L, hL, by simp [Nat.add_assoc]⟩
       ·rename_i row cc
        simp only [Option.some.injEq] at hp'
        subst hp'
        simp only [relT] at hr
        obtain ⟨-, b, oo, c, e, q, hu, q1, q2, q3⟩ := hr
        refine Ok.keep (u := .pointer (some ⟨b, oo + cc + off, none⟩)) (exec_v (sv := Instr.fieldAt t (a.eval x) f) (by rw [execOp, hop]) ?_) ?_ hH hg
        ·rw [hu]
         simp [Instr.fieldAt, run_underlying hd, g1, Instr.sureAddr, fieldPlace, run_size g3, hz, Addr.add_lit, g2]
        ·simp only [mkOne, relAV, relA1, relT]
         exact ⟨trivial, b, oo, c, e, q, by simp [Nat.add_assoc], q1, q2, q3⟩
      ·simp at h
    ·simp at h
   ·simp at h
  ·simp at h
 case field t x f =>
  simp only [astep] at h
  split at h
  ·rename_i i ts ts' hi hts hagg
   split at h
   ·rename_i fs hk
    split at h
    ·rename_i off sz ag hf
     split at h
     ·rename_i hc
      obtain ⟨c1, c2⟩ := hc
      split at h
      ·rename_i av' hav
       simp only [Option.some.injEq, Prod.mk.injEq] at h
       obtain ⟨rfl, rfl⟩ := h
       obtain ⟨d, jj, z, hd, -, -, hkk, -⟩ := ti_some hi
       rw [hkk] at hk
       obtain ⟨fields, fd', j, rfl, g1, g2, g3, g4, g5, d3, hd3⟩ := kind_st hk hf
       have hx := a1_rel (hev x)
       rw [hagg] at hx hts
       simp only [cells1, Option.some.injEq] at hts
       subst hts
       obtain ⟨cs, hu, hl, hrow⟩ := hx
       have hsplit : ts' = ts'.take off ++ (((ts'.drop off).take sz) ++ ts'.drop (off + sz)) := by
        rw [← List.drop_drop, List.take_append_drop, List.take_append_drop]
       rw [hsplit, relTRow_append] at hrow
       obtain ⟨Fa, Fb, h1, h2, he⟩ := hrow
       rw [relTRow_append] at h2
       obtain ⟨Fs, Fc, h3, h4, rfl⟩ := h2
       have hFs : Fs = fz := by
        funext y
        have := congrFun he y
        simp only [fz, fa] at this ⊢
        omega
       subst hFs
       have htk : (ts'.take off).length = off := by simp; omega
       rw [htk, Nat.zero_add] at h3
       have hcl : off + sz ≤ cs.size := by omega
       obtain ⟨v, hv1, hv2, hv3⟩ : ∃ v, (part fd'.type cs off).run P w = .ok v w ∧ (ag = true → v = .agg ((cs.toList.drop off).take sz).toArray) ∧ (ag = false → cs[off]? = some v) := by
        cases ag with
        | true =>
         refine ⟨_, ?_, fun _ => rfl, fun h => by simp at h⟩
         simp only [part, Sem.run_bind, run_isAgg hd3, g5, Result.andThen_ok, if_true, run_size g3, Sem.run_pure, g4]
         congr 2
         apply Array.ext'
         simp [List.extract_eq_take_drop]
        | false =>
         have h1 := ofCells_one hav
         rw [c2] at h1
         have hlt : off < cs.size := by omega
         refine ⟨cs[off], ?_, fun h => by simp at h, fun _ => by simp [hlt]⟩
         simp only [part, Sem.run_bind, run_isAgg hd3, g5, Result.andThen_ok, Bool.false_eq_true, if_false]
         simp [hlt]
       refine Ok.keep (exec_v (sv := Instr.field t (a.eval x) f) (by rw [execOp, hop]) ?_) (ofCells_rel hav h3 (by rw [c2]; exact hcl) (fun h => by rw [c2]; exact hv2 h) hv3) hH hg
       rw [hu]
       simp [Instr.field, run_underlying hd, g1, asAgg, g2, hv1]
      ·simp at h
     ·simp at h
    ·simp at h
   ·simp at h
  ·simp at h
 case indexAddr t x ix =>
  simp only [astep] at h
  split at h
  ·rename_i i tt n hi hx hn
   split at h
   ·rename_i e hk
    split at h
    ·rename_i j hj
     split at h
     ·rename_i p hp
      simp only [Option.some.injEq, Prod.mk.injEq] at h
      obtain ⟨rfl, rfl⟩ := h
      obtain ⟨d, jj, z, hd, -, -, hkk, -⟩ := ti_some hi
      rw [hkk] at hk
      have := kind_slice hk
      subst this
      obtain ⟨d3, j3, z3, hd3, hj3, -, -, hs3, -⟩ := ti_some hj
      rw [hs3] at hp
      obtain ⟨k, hk2⟩ := int_rel hn (hev ix)
      obtain ⟨v, r1, r2⟩ := indexAt_sound (P := P) (k := k) hp hd hj3 (one_rel hx (hev x)) hH
      exact Ok.keep (exec_v (sv := Instr.indexAt t (a.eval x) (a.eval ix)) (by rw [execOp, hop]) (by rw [hk2]; exact r1)) r2 hH hg
     ·simp at h
    ·simp at h
   ·simp at h
  ·simp at h
 case index t x ix =>
  simp only [astep] at h
  split at h
  ·rename_i i z n hi hz hn
   split at h
   ·rename_i k hk hidx
    simp only [Option.some.injEq, Prod.mk.injEq] at h
    obtain ⟨rfl, rfl⟩ := h
    obtain ⟨d, jj, zz, hd, -, -, hkk, -⟩ := ti_some hi
    rw [hkk] at hk
    have := kind_str hk
    subst this
    obtain ⟨rfl, hlt⟩ := idx_some hidx
    obtain ⟨kk, hk2⟩ := int_rel hn (hev ix)
    have hu := (val_rel hz (hev x)).1
    refine Ok.keep (u := .int .u8 ((z.data.toList.getD k 0).toNat : Int)) (exec_v (sv := Instr.index t (a.eval x) (a.eval ix)) (by rw [execOp, hop]) ?_) (by simp [mkOne, relAV, relA1, relT, scal]) hH hg
    rw [hu, hk2]
    have hlt2 : k < z.data.size := hlt
    have hg : z[k]? = some (z.data.toList.getD k 0) := by
     rw [getElem?_pos z k hlt]
     simp only [List.getD, Array.getElem?_toList, getElem?_pos z.data k hlt2, Option.getD_some]
     rfl
    simp [Instr.index, asIntOf, run_underlying hd, hg]
   ·simp at h
  ·simp at h
 case extract x ix =>
  simp only [astep] at h
  split at h
  ·rename_i as_ he
   split at h
   ·rename_i a1 ha1
    simp only [Option.some.injEq, Prod.mk.injEq] at h
    obtain ⟨rfl, rfl⟩ := h
    have hx := hev x
    rw [he] at hx
    obtain ⟨us, hu, hus⟩ := hx
    have hget : ∀ (as_ : List A1) (us : List Value) (F : FP) (k : Nat) (a1 : A1), relAL R w M as_ us F → as_[k]? = some a1 → ∃ v F1, us[k]? = some v ∧ relA1 R w M a1 v F1 ∧ ∀ b, F1 b ≤ F b := by
     intro as_
     induction as_ with
     | nil => intro us F k a1 _ h; simp at h
     | cons x as_ ih =>
      intro us F k a1 h hk
      cases us with
      | nil => exact h.elim
      | cons u us =>
       obtain ⟨F1, F2, h1, h2, rfl⟩ := h
       cases k with
       | zero => simp at hk; subst hk; exact ⟨u, F1, rfl, h1, fun b => by simp only [fa]; omega⟩
       | succ k =>
        obtain ⟨v, F3, g1, g2, g3⟩ := ih us F2 k a1 h2 (by simpa using hk)
        exact ⟨v, F3, by simpa using g1, g2, fun b => by have := g3 b; simp only [fa]; omega⟩
    obtain ⟨v, F1, g1, g2, g3⟩ := hget as_ us fz ix a1 hus ha1
    have : F1 = fz := by
     funext b
     have := g3 b
     simp only [fz] at this ⊢
     omega
    subst this
    refine Ok.keep (u := v) (exec_v (sv := Instr.extract (a.eval x) ix) (by rw [execOp, hop]) ?_) g2 hH hg
    rw [hu]
    simp [Instr.extract, g1]
   ·simp at h
  ·simp at h
 case call cc =>
  obtain ⟨callee, args, ts⟩ := cc
  cases callee <;> simp only [astep] at h <;> try (simp at h; done)
  exact abuiltin_sound hop h henv hH hg
 all_goals simp [astep] at h
end Go.Proofs.YtejnpiielcbkkaaGreat.E
end
section
namespace Go.Proofs.YtejnpiielcbkkaaGreat.E
variable {P : Program}
/-- A function with a body. -/
def callable (P : Program) (f : FuncId) : Bool := match P.funcs[f]? with
 | some fn => !(fn.name == "runtime.NumGoroutine") && !fn.body.isNone
 | none => false
/-- A call, over named memory. -/
def HCall (P : Program) (f : FuncId) (avs : List A1) (H : List AObj) (K : AV → List AObj → Prop) : Prop :=
 callable P f = true ∧ ∀ (R : Nat → Prop) (w : World) (M : List Loc) (us : List Value) (F : FP), relAL R w M avs us fz → relHeap R w M H M F → Good R w F →
  Calls P f us.toArray w fun e w' => ∃ u ret H' R' N F', e = .returned u ∧ K ret H' ∧ relAV R' w' (M ++ N) ret u fz ∧ relHeap R' w' (M ++ N) H' (M ++ N) F' ∧ Good R' w' F' ∧ Fr R w F R' w' F'
theorem HCall.mono {f : FuncId} {avs : List A1} {H : List AObj} {K K' : AV → List AObj → Prop} (h : HCall P f avs H K) (hk : ∀ r H, K r H → K' r H) : HCall P f avs H K' :=
 ⟨h.1, fun R w M us F h1 h2 h3 => (h.2 R w M us F h1 h2 h3).mono fun e w' ⟨u, ret, H', R', N, F', g1, g2, g3⟩ => ⟨u, ret, H', R', N, F', g1, hk _ _ g2, g3⟩⟩
def putE (env : List AV) (dst : Option Tmp) (v : AV) : List AV := match dst with
 | some d => env.set d v
 | none => env
def callOf (s : St) : Op → Option (FuncId × List A1)
 | .call { callee := .value g, args := args, argTypes := _ } => match ev s g with
  | .s (.one (.fn false f cs)) => some (f, (args.toList.map fun x => a1? (ev s x)) ++ cs.map A1.one)
  | .s (.one (.fn true f cs)) => some (f, cs.map A1.one ++ (args.toList.map fun x => a1? (ev s x)))
  | _ => none
 | _ => none
def aOp (P : Program) (o : Oper) (s : St) (K : St → Prop) : Prop :=
 match callOf s o.op with
 | some (f, avs) => HCall P f avs s.H fun ret H' => K ⟨putE s.env o.dst ret, H'⟩
 | none => match astep P s o.op with
  | some (av, H') => K ⟨putE s.env o.dst av, H'⟩
  | none => False
/-- What a guard asks. -/
def guard? (want : Bool) : AV → Option Bool
 | .tup [] => some (!want)
 | v => bool? v
def guardOf (ops : Array Oper) (s : St) (j : Nat) (want : Bool) : Option Bool := match (ops[j]?).bind (·.dst) with
 | some d => guard? want (s.env.getD d (.s .any))
 | none => none
def aOps (P : Program) (ops : Array Oper) (Q : St → Prop) : List Nat → St → Prop
 | [], s => Q s
 | i :: rest, s => match ops[i]? with
  | none => aOps P ops Q rest s
  | some o => match o.guard with
   | none => aOp P o s (aOps P ops Q rest)
   | some (j, want) => match guardOf ops s j want with
    | some b => (b = want → aOp P o s (aOps P ops Q rest)) ∧ (b ≠ want → aOps P ops Q rest ⟨putE s.env o.dst (.tup []), s.H⟩)
    | none => False
inductive Ex where
  | normal
  | exit (id : Nat)
  | ret
structure Ctx where
  R0 : Nat → Prop
  w0 : World
  M0 : List Loc
  F0 : FP
def SimS (X : Ctx) (s : St) (a : Act) (w : World) : Prop :=
 a.defers = [] ∧ ∃ R M F, X.M0 <+: M ∧ relEnv R w M s.env a.tmps ∧ relHeap R w M s.H M F ∧ Good R w F ∧ Fr X.R0 X.w0 X.F0 R w F
/-- A state says no more than another. -/
def Weak (k : Nat) (s s' : St) : Prop := ∀ X a w, X.M0.length = k → SimS X s a w → SimS X s' a w
theorem Weak.refl (k : Nat) (s : St) : Weak k s s := fun _ _ _ _ h => h
def aCode (P : Program) (k : Nat) : Code → (Ex → St → Prop) → St → Prop
 | .skip, Q, s => Q .normal s
 | .label _, Q, s => Q .normal s
 | .region _ ops draw, Q, s => if draw then ∀ t, aOps P ops (Q .normal) (Region.schedule (P.follows .mixedOrders) ops t) s else aOps P ops (Q .normal) (List.range ops.size) s
 | .seq x y, Q, s => aCode P k x (fun e s' => match e with | .normal => aCode P k y Q s' | .exit i => Q (.exit i) s' | .ret => Q .ret s') s
 | .cond c x y, Q, s => match bool? (ev s c) with
  | some b => (b = true → aCode P k x Q s) ∧ (b = false → aCode P k y Q s)
  | none => False
 | .block id c, Q, s => aCode P k c (fun e s' => match e with | .normal => Q .normal s' | .exit i => if i = id then Q .normal s' else Q (.exit i) s' | .ret => Q .ret s') s
 | .loop c, Q, s => ∃ (α : Type) (S : α → St) (m : α → Nat), (∃ x, Weak k s (S x)) ∧ ∀ x, aCode P k c (fun e s' => match e with | .normal => ∃ x', Weak k s' (S x') ∧ m x' < m x | .exit i => Q (.exit i) s' | .ret => Q .ret s') (S x)
 | .exit id, Q, s => Q (.exit id) s
 | .scope c, Q, s => aCode P k c Q s
 | .ret, Q, s => Q .ret s
 | _, _, _ => False
/-! ### Soundness -/
section
variable {R R' : Nat → Prop} {w w' : World} {M M' : List Loc} {F F' : FP} {s : St} {a : Act}
theorem relEnv_mono {env : List AV} {tmps : Array Value} (hR : ∀ b, R b → R' b) (hM : M <+: M') (hw : ∀ b, R b → w'.heap[b]? = w.heap[b]?) (h : relEnv R w M env tmps) : relEnv R' w' M' env tmps :=
 ⟨h.1, fun i av hi => relAV_mono hR hM (fun b hb => hw b (hb.resolve_right (by simp [fz]))) (h.2 i av hi)⟩
theorem Fr.ro_same (hg : Good R w F) (h : Fr R w F R' w' F') : ∀ b, R b → w'.heap[b]? = w.heap[b]? := fun b hb => h.same b (hg.ro b hb) (by
 cases hF : F b with
 | zero => rfl
 | succ n => exact absurd hb (hg.own b (by omega)).1)
theorem relEnv_put {env : List AV} {tmps : Array Value} {dst : Option Tmp} {av : AV} {u : Value} (h : relEnv R w M env tmps) (hu : relAV R w M av u fz) : relEnv R w M (putE env dst av) (Act.put { tmps := tmps, defers := a.defers } dst u).tmps := by
 cases dst with
 | none => exact h
 | some d =>
  refine ⟨by simp [putE, Act.put, h.1], fun i av' hi => ?_⟩
  simp only [putE, Act.put] at hi ⊢
  by_cases hid : d = i
  ·subst hid
   have hlt : d < env.length := by
    have := (List.getElem?_eq_some_iff.1 hi).1
    simpa using this
   have hlt2 : d < tmps.size := by rw [← h.1]; exact hlt
   rw [List.getElem?_set_self hlt] at hi
   simp only [Option.some.injEq] at hi
   subst hi
   simp [hlt2]
   exact hu
  ·rw [List.getElem?_set_ne hid] at hi
   have := h.2 i av' hi
   simp only [Array.getD_eq_getD_getElem?] at this ⊢
   rw [Array.getElem?_setIfInBounds_ne hid]
   exact this
theorem put_tmps (a : Act) (dst : Option Tmp) (u : Value) : (a.put dst u).tmps = (Act.put { tmps := a.tmps, defers := a.defers } dst u).tmps := by cases a; rfl
theorem put_defers (a : Act) (dst : Option Tmp) (u : Value) : (a.put dst u).defers = a.defers := by cases dst <;> rfl
theorem relAL_args (henv : relEnv R w M s.env a.tmps) : ∀ (l : List Operand), relAL R w M (l.map fun x => a1? (ev s x)) (l.map a.eval) fz
 | [] => rfl
 | x :: l => ⟨fz, fz, a1_rel (ev_sound henv x), relAL_args henv l, rfl⟩
theorem relAL_caps {c : Array Value} : ∀ {ts : List T} {o : Nat}, relTRow R w M c ts o fz → ∀ vs : List Value, vs.length = ts.length → (∀ j, j < ts.length → c[o + j]? = vs[j]?) → relAL R w M (ts.map A1.one) vs fz
 | [], o, h, vs, hl, hv => by
  have : vs = [] := List.eq_nil_of_length_eq_zero (by simpa using hl)
  subst this
  rfl
 | t :: ts, o, h, vs, hl, hv => by
  cases vs with
  | nil => simp at hl
  | cons v vs =>
   simp only [relTRow] at h
   obtain ⟨u, F1, F2, h1, h2, h3, he⟩ := h
   have hz : F1 = fz ∧ F2 = fz := by
    constructor <;> (funext b; have := congrFun he b; simp only [fz, fa] at this ⊢; omega)
   obtain ⟨rfl, rfl⟩ := hz
   have hv0 := hv 0 (by simp)
   simp only [Nat.add_zero, List.getElem?_cons_zero] at hv0
   rw [h1, Option.some.injEq] at hv0
   subst hv0
   exact ⟨fz, fz, h2, relAL_caps h3 vs (by simpa using hl) (fun j hj => by
    have := hv (j + 1) (by simp; omega)
    rw [show o + 1 + j = o + (j + 1) by omega, this]
    simp), rfl⟩
theorem relAL_append : ∀ {as_ bs : List A1} {us vs : List Value}, relAL R w M as_ us fz → relAL R w M bs vs fz → relAL R w M (as_ ++ bs) (us ++ vs) fz
 | [], bs, [], vs, h, h2 => h2
 | a :: as_, bs, u :: us, vs, h, h2 => by
  obtain ⟨F1, F2, g1, g2, he⟩ := h
  have hz : F1 = fz ∧ F2 = fz := by
   constructor <;> (funext b; have := congrFun he b; simp only [fz, fa] at this ⊢; omega)
  obtain ⟨rfl, rfl⟩ := hz
  exact ⟨fz, fz, g1, relAL_append g2 h2, rfl⟩
 | [], bs, _ :: _, vs, h, h2 => h.elim
 | _ :: _, bs, [], vs, h, h2 => h.elim
theorem callFunc_run {f : FuncId} (h : callable P f = true) (args : Array Value) : (callFunc f args).run P w = .ok (.enter f args) w := by
 unfold callable at h
 split at h
 ·rename_i fn hfn
  simp only [Bool.and_eq_true, Bool.not_eq_true'] at h
  simp only [callFunc, Sem.run_bind, run_program, Result.andThen_ok, hfn, h.1, h.2, Bool.false_eq_true, if_false, Sem.run_pure]
 ·simp at h
variable {X : Ctx}
theorem aOp_sound {o : Oper} {K : St → Prop} (h : aOp P o s K) (hs : SimS X s a w) {next : Act → World → Prop} {Q : Exit → Act → World → Prop} (hn : ∀ s' a' w', K s' → SimS X s' a' w' → next a' w') : o.wp P a w next Q := by
 obtain ⟨hd, R, M, F, hpre, henv, hH, hg, hfr⟩ := hs
 unfold aOp at h
 unfold Oper.wp
 split at h
 ·rename_i f avs hc
  obtain ⟨hcall, hh⟩ := h
  have hex : ∃ us : List Value, (execOp a.eval o).run P w = .ok (.enter f us.toArray) w ∧ relAL R w M avs us fz := by
   unfold callOf at hc
   split at hc
   ·rename_i g args ts hop
    split at hc
    ·rename_i f' cs hev
     simp only [Option.some.injEq, Prod.mk.injEq] at hc
     obtain ⟨rfl, rfl⟩ := hc
     have hg' := ev_sound henv g
     rw [hev] at hg'
     simp only [relAV, relA1, relT, fnV] at hg'
     obtain ⟨-, c, hu, hcl, hcr⟩ := hg'
     refine ⟨args.toList.map a.eval ++ c.toList, ?_, relAL_append (relAL_args henv _) (relAL_caps hcr c.toList (by simpa using hcl) (fun j hj => by simp))⟩
     simp only [execOp, hop, resolve, hu, Deferred.ofValue, pure_bind, invoke]
     have : ((#[] : Array Value) ++ args.map a.eval ++ c) = (args.toList.map a.eval ++ c.toList).toArray := by
      apply Array.ext'
      simp
     rw [this]
     exact callFunc_run hcall _
    ·rename_i f' cs hev
     simp only [Option.some.injEq, Prod.mk.injEq] at hc
     obtain ⟨rfl, rfl⟩ := hc
     have hg' := ev_sound henv g
     rw [hev] at hg'
     simp only [relAV, relA1, relT, fnV] at hg'
     obtain ⟨-, c, hu, hcl, hcr⟩ := hg'
     refine ⟨c.toList ++ args.toList.map a.eval, ?_, relAL_append (relAL_caps hcr c.toList (by simpa using hcl) (fun j hj => by simp)) (relAL_args henv _)⟩
     simp only [execOp, hop, resolve, hu, Deferred.ofValue, pure_bind, invoke]
     have : (c ++ args.map a.eval ++ (#[] : Array Value)) = (c.toList ++ args.toList.map a.eval).toArray := by
      apply Array.ext'
      simp
     rw [this]
     exact callFunc_run hcall _
    ·simp at hc
   ·simp at hc
  obtain ⟨us, hrun, hus⟩ := hex
  rw [hrun, Oper.upon_enter]
  refine (hh R w M us F hus hH hg).mono ?_
  rintro e w' ⟨u, ret, H', R', N, F', rfl, hK, g1, g2, g3, g4⟩
  refine hn _ _ _ hK ⟨by rw [put_defers]; exact hd, R', M ++ N, F', hpre.trans (List.prefix_append _ _), ?_, g2, g3, hfr.trans g4⟩
  rw [put_tmps]
  exact relEnv_put (relEnv_mono (fun b hb => g4.sub b hb) (List.prefix_append _ _) (Fr.ro_same hg g4) henv) g1
 ·split at h
  ·rename_i av H' hst
   obtain ⟨w', N, F', hres, g2, g3, g4⟩ := astep_sound (a := a) rfl hst henv hH hg
   have henv' := relEnv_mono (R' := R) (fun _ hb => hb) (List.prefix_append M N) (Fr.ro_same hg g4) henv
   rcases hres with ⟨u, hrun, hu⟩ | ⟨hrun, rfl⟩
   ·rw [hrun, Oper.upon_value]
    refine hn _ _ _ h ⟨by rw [put_defers]; exact hd, R, M ++ N, F', hpre.trans (List.prefix_append _ _), ?_, g2, g3, hfr.trans g4⟩
    rw [put_tmps]
    exact relEnv_put henv' hu
   ·rw [hrun, Oper.upon_skip]
    refine hn _ _ _ h ⟨by rw [put_defers]; exact hd, R, M ++ N, F', hpre.trans (List.prefix_append _ _), ?_, g2, g3, hfr.trans g4⟩
    rw [put_tmps]
    exact relEnv_put henv' (relAV_any _)
  ·exact h.elim
theorem relAV_undef : relAV R w M (.tup []) undef fz := ⟨[], rfl, rfl⟩
theorem guard_sound {ops : Array Oper} {j : Nat} {b want : Bool} (h : guardOf ops s j want = some b) (henv : relEnv R w M s.env a.tmps) : (b = want → yielded ops a.tmps j = some want) ∧ (b ≠ want → yielded ops a.tmps j ≠ some want) := by
 suffices hh : yielded ops a.tmps j = some b ∨ (yielded ops a.tmps j = none ∧ b = !want) by
  rcases hh with hh | ⟨hh, hb⟩
  ·rw [hh]; exact ⟨fun e => by rw [e], fun e e' => e (by simpa using e')⟩
  ·rw [hh]; exact ⟨fun e => (by rw [hb] at e; cases want <;> cases e), fun _ e' => (by cases e')⟩
 unfold guardOf at h
 unfold yielded
 split at h
 ·rename_i d hd
  rw [hd]
  simp only [Option.bind_some]
  have hlt : d < s.env.length := by
   rcases Nat.lt_or_ge d s.env.length with hl | hl
   ·exact hl
   ·simp [List.getD, List.getElem?_eq_none hl, guard?, bool?] at h
  have hlt2 : d < a.tmps.size := by rw [← henv.1]; exact hlt
  simp only [List.getD, List.getElem?_eq_getElem hlt, Option.getD_some] at h
  have hr := henv.2 d _ (List.getElem?_eq_getElem hlt)
  unfold guard? at h
  split at h
  ·rename_i he
   rw [he] at hr
   obtain ⟨us, hu, hl⟩ := hr
   have hus : us = [] := by cases us with
    | nil => rfl
    | cons u us => exact hl.elim
   rw [hus] at hu
   simp only [Array.getD_eq_getD_getElem?, Array.getElem?_eq_getElem hlt2, Option.getD_some] at hu
   right
   simp only [Option.some.injEq] at h
   simp [hlt2, hu, ← h]
  ·have hb := bool_rel h hr
   simp only [Array.getD_eq_getD_getElem?, Array.getElem?_eq_getElem hlt2, Option.getD_some] at hb
   left
   simp [hlt2, hb]
 ·simp at h
theorem aOps_sound {ops : Array Oper} {Qa : St → Prop} {Q : Exit → Act → World → Prop} (hn : ∀ s' a' w', Qa s' → SimS X s' a' w' → Q .normal a' w') : ∀ (l : List Nat) (s : St) (a : Act) (w : World), aOps P ops Qa l s → SimS X s a w → wpOps P ops Q l a w
 | [], s, a, w, h, hs => hn _ _ _ h hs
 | i :: rest, s, a, w, h, hs => by
  simp only [aOps] at h
  simp only [wpOps]
  cases ho : ops[i]? with
  | none =>
   rw [ho] at h
   exact aOps_sound hn rest s a w h hs
  | some o =>
   rw [ho] at h
   simp only at h ⊢
   have hstep : aOp P o s (aOps P ops Qa rest) → o.wp P a w (wpOps P ops Q rest) Q := fun h => aOp_sound h hs fun s' a' w' hk hs' => aOps_sound hn rest s' a' w' hk hs'
   cases hgd : o.guard with
   | none =>
    rw [hgd] at h
    rw [if_pos (by simp [Region.wanted, hgd])]
    exact .inl (hstep h)
   | some q =>
    obtain ⟨j, want⟩ := q
    rw [hgd] at h
    simp only at h
    split at h
    ·rename_i b hb
     obtain ⟨hd, R, M, F, hpre, henv, hH, hg, hfr⟩ := hs
     have hy := guard_sound hb henv
     by_cases hbw : b = want
     ·rw [if_pos (by simp [Region.wanted, hgd, hy.1 hbw])]
      exact .inl (hstep (h.1 hbw))
     ·rw [if_neg (by simp only [Region.wanted, hgd, beq_iff_eq]; exact hy.2 hbw)]
      refine aOps_sound hn rest _ _ w (h.2 hbw) ⟨by rw [put_defers]; exact hd, R, M, F, hpre, ?_, hH, hg, hfr⟩
      rw [put_tmps]
      exact relEnv_put henv relAV_undef
    ·exact h.elim
def post (X : Ctx) (Q : Ex → St → Prop) : Exit → Act → World → Prop
 | .normal, a, w => ∃ s, Q .normal s ∧ SimS X s a w
 | .exit id, a, w => ∃ s, Q (.exit id) s ∧ SimS X s a w
 | .ret, a, w => ∃ s, Q .ret s ∧ SimS X s a w
 | _, _, _ => False
theorem least {p : Nat → Prop} (h : ∃ n, p n) : ∃ n, p n ∧ ∀ m, p m → n ≤ m := by
 obtain ⟨n, hn⟩ := h
 induction n using Nat.strongRecOn with
 | _ n ih =>
  by_cases hx : ∃ m, m < n ∧ p m
  ·obtain ⟨m, h1, h2⟩ := hx
   exact ih m h1 h2
  ·exact ⟨n, hn, fun m hm => Nat.le_of_not_lt fun hl => hx ⟨m, hl, hm⟩⟩
open Classical in
theorem aCode_sound {k : Nat} (hk : X.M0.length = k) : ∀ (c : Code) (Q : Ex → St → Prop) (s : St) (a : Act) (w : World), aCode P k c Q s → SimS X s a w → c.wp P (post X Q) a w
 | .skip, Q, s, a, w, h, hs => wp_skip ⟨s, h, hs⟩
 | .label _, Q, s, a, w, h, hs => wp_label ⟨s, h, hs⟩
 | .exit id, Q, s, a, w, h, hs => wp_exit ⟨s, h, hs⟩
 | .ret, Q, s, a, w, h, hs => wp_ret ⟨s, h, hs⟩
 | .region id ops draw, Q, s, a, w, h, hs => by
  simp only [aCode] at h
  cases draw with
  | true =>
   simp only [if_true] at h
   refine wp_region_draw fun t => aOps_sound (X := X) (Qa := Q .normal) (fun s' a' w' h1 h2 => ⟨s', h1, h2⟩) _ s a _ (h t) ?_
   obtain ⟨hd, R, M, F, hpre, henv, hH, hg, hfr⟩ := hs
   refine ⟨hd, R, M, F, hpre, relEnv_mono (w := w) (fun _ h => h) (List.prefix_refl _) (fun _ _ => rfl) henv, relHeap_mono (w := w) (fun _ h => h) (List.prefix_refl _) (fun _ _ => rfl) hH, ⟨hg.one, hg.own, hg.ro, hg.inv.mono (fun _ h => h) (Nat.le_refl _) fun _ _ => rfl⟩, ⟨hfr.os, hfr.tape, hfr.output, hfr.size, hfr.same, hfr.sub, hfr.own, hfr.ro, hfr.shape⟩⟩
  | false =>
   simp only [Bool.false_eq_true, if_false] at h
   exact wp_region (aOps_sound (X := X) (Qa := Q .normal) (fun s' a' w' h1 h2 => ⟨s', h1, h2⟩) _ s a w h hs)
 | .seq x y, Q, s, a, w, h, hs => by
  simp only [aCode] at h
  refine wp_seq (wp_mono (aCode_sound hk x _ s a w h hs) ?_)
  intro e a' w' hp
  cases e <;> simp only [post] at hp <;> try exact hp.elim
  ·obtain ⟨s', h1, h2⟩ := hp
   exact aCode_sound hk y Q s' a' w' h1 h2
  ·exact hp
  ·exact hp
 | .cond c x y, Q, s, a, w, h, hs => by
  simp only [aCode] at h
  split at h
  ·rename_i b hb
   have hc : a.eval c = .bool b := by
    obtain ⟨hd, R, M, F, hpre, henv, hH, hg, hfr⟩ := hs
    exact bool_rel hb (ev_sound henv c)
   exact wp_cond_split hc (fun ht => aCode_sound hk x Q s a w (h.1 ht) hs) (fun ht => aCode_sound hk y Q s a w (h.2 ht) hs)
  ·exact h.elim
 | .block id c, Q, s, a, w, h, hs => by
  simp only [aCode] at h
  refine wp_block (wp_mono (aCode_sound hk c _ s a w h hs) ?_)
  intro e a' w' hp
  cases e <;> simp only [post] at hp <;> try exact hp.elim
  ·exact hp
  ·rename_i id'
   simp only [Exit.inBlock]
   by_cases hid : id' = id
   ·simp only [hid, if_true] at hp ⊢; exact hp
   ·simp only [hid, if_false] at hp ⊢; exact hp
  ·exact hp
 | .loop c, Q, s, a, w, h, hs => by
  simp only [aCode] at h
  obtain ⟨α, S, m, ⟨x0, hx0⟩, hround⟩ := h
  refine wp_loop (fun a w => ∃ x, SimS X (S x) a w) (fun a w => if hh : ∃ n x, m x = n ∧ SimS X (S x) a w then Classical.choose (least hh) else 0) ⟨x0, hx0 X a w hk hs⟩ ?_
  intro a w hI
  have hh : ∃ n x, m x = n ∧ SimS X (S x) a w := by obtain ⟨x, hx⟩ := hI; exact ⟨m x, x, rfl, hx⟩
  obtain ⟨⟨x, hx1, hx2⟩, -⟩ := Classical.choose_spec (least hh)
  refine wp_mono (aCode_sound hk c _ (S x) a w (hround x) hx2) ?_
  intro e a' w' hp
  cases e <;> simp only [post] at hp <;> try exact hp.elim
  ·obtain ⟨s', ⟨x', h1, h2⟩, h3⟩ := hp
   have h4 := h1 X a' w' hk h3
   refine ⟨⟨x', h4⟩, ?_⟩
   have hh' : ∃ n x, m x = n ∧ SimS X (S x) a' w' := ⟨m x', x', rfl, h4⟩
   show (if hh : ∃ n x, m x = n ∧ SimS X (S x) a' w' then Classical.choose (least hh) else 0) < (if hh : ∃ n x, m x = n ∧ SimS X (S x) a w then Classical.choose (least hh) else 0)
   rw [dif_pos hh, dif_pos hh', ← hx1]
   exact Nat.lt_of_le_of_lt ((Classical.choose_spec (least hh')).2 _ ⟨x', rfl, h4⟩) h2
  ·exact hp
  ·exact hp
 | .scope c, Q, s, a, w, h, hs => by
  simp only [aCode] at h
  refine wp_scope_straight (wp_mono (aCode_sound hk c Q s a w h hs) ?_)
  intro e a' w' hp
  cases e <;> simp only [post] at hp <;> first | exact hp.elim | exact hp
 | .rangeFunc .., Q, s, a, w, h, hs => h.elim
 | .goto _, Q, s, a, w, h, hs => h.elim
 | .refuse _, Q, s, a, w, h, hs => h.elim
end
end Go.Proofs.YtejnpiielcbkkaaGreat.E
end
section
namespace Go.Proofs.YtejnpiielcbkkaaGreat.E
variable {P : Program} {R R' : Nat → Prop} {w w' : World} {M M' : List Loc} {c : Array Value}
def isNil : Value → Bool
 | .slice none 0 0 => true
 | _ => false
mutual
/-- Nothing named in it. -/
def closedT : T → Bool
 | .v x => !isNil x
 | .ro _ _ => true
 | .own _ rows => closedRows rows
 | .ref _ _ _ => false
 | .ptr _ _ _ => false
 | .rp _ _ => true
 | .box row => closedRow row
 | .fn _ _ cap => closedRow cap
def closedRow : List T → Bool
 | [] => true
 | t :: ts => closedT t && closedRow ts
def closedRows : List (List T) → Bool
 | [] => true
 | r :: rs => closedRow r && closedRows rs
end
mutual
/-- Nothing in it that is read alone. -/
def noRo : T → Bool
 | .v _ => true
 | .ro _ rows => rows.isEmpty
 | .own _ rows => noRoRows rows
 | .ref _ _ _ => true
 | .ptr _ _ _ => true
 | .rp _ _ => false
 | .box row => noRoRow row
 | .fn _ _ cap => noRoRow cap
def noRoRow : List T → Bool
 | [] => true
 | t :: ts => noRo t && noRoRow ts
def noRoRows : List (List T) → Bool
 | [] => true
 | r :: rs => noRoRow r && noRoRows rs
end
mutual
theorem closedT_rel : ∀ (t : T) (u : Value) (F : FP), closedT t = true → relT R w M t u F → relT R w M' t u F
 | .v x, u, F, hc, h => h
 | .ro sz rows, u, F, hc, h => h
 | .own sz rows, u, F, hc, h => by
  simp only [relT] at h ⊢
  simp only [closedT] at hc
  obtain ⟨L, a, cap, h0, h1, h2, h3, h4, h5⟩ := h
  refine ⟨L, a, cap, h0, h1, h2, h3, h4, ?_⟩
  rcases h5 with h5 | ⟨c, F', h6, h7, h8⟩
  ·exact .inl h5
  ·exact .inr ⟨c, F', h6, closedRows_rel c L.sz rows L.o F' hc h7, h8⟩
 | .ref _ _ _, u, F, hc, h => by simp [closedT] at hc
 | .ptr _ _ _, u, F, hc, h => by simp [closedT] at hc
 | .rp row col, u, F, hc, h => h
 | .box row, u, F, hc, h => by
  simp only [relT] at h ⊢
  simp only [closedT] at hc
  obtain ⟨L, c, F', h1, h2, h3, h4, h5, h6⟩ := h
  exact ⟨L, c, F', h1, h2, h3, h4, closedRow_rel c row L.o F' hc h5, h6⟩
 | .fn bd f cap, u, F, hc, h => by
  simp only [relT] at h ⊢
  simp only [closedT] at hc
  obtain ⟨h0, c, h1, h2, h3⟩ := h
  exact ⟨h0, c, h1, h2, closedRow_rel c cap 0 fz hc h3⟩
theorem closedRow_rel (c : Array Value) : ∀ (ts : List T) (o : Nat) (F : FP), closedRow ts = true → relTRow R w M c ts o F → relTRow R w M' c ts o F
 | [], o, F, hc, h => h
 | t :: ts, o, F, hc, h => by
  simp only [relTRow] at h ⊢
  simp only [closedRow, Bool.and_eq_true] at hc
  obtain ⟨u, F1, F2, h1, h2, h3, h4⟩ := h
  exact ⟨u, F1, F2, h1, closedT_rel t u F1 hc.1 h2, closedRow_rel c ts (o + 1) F2 hc.2 h3, h4⟩
theorem closedRows_rel (c : Array Value) (sz : Nat) : ∀ (rs : List (List T)) (o : Nat) (F : FP), closedRows rs = true → relTRows R w M c sz rs o F → relTRows R w M' c sz rs o F
 | [], o, F, hc, h => h
 | r :: rs, o, F, hc, h => by
  simp only [relTRows] at h ⊢
  simp only [closedRows, Bool.and_eq_true] at hc
  obtain ⟨F1, F2, h1, h2, h3, h4⟩ := h
  exact ⟨F1, F2, h1, closedRow_rel c r o F1 hc.1 h2, closedRows_rel c sz rs (o + sz) F2 hc.2 h3, h4⟩
end
mutual
theorem noRo_rel : ∀ (t : T) (u : Value) (F : FP), noRo t = true → relT R w M t u F → relT R' w M t u F
 | .v x, u, F, hc, h => h
 | .ro sz rows, u, F, hc, h => by
  simp only [noRo, List.isEmpty_iff] at hc
  subst hc
  simp only [relT, relD] at h ⊢
  obtain ⟨⟨a, cap, h1, h2, -⟩, h3⟩ := h
  exact ⟨⟨a, cap, h1, h2, .inl trivial⟩, h3⟩
 | .own sz rows, u, F, hc, h => by
  simp only [relT] at h ⊢
  simp only [noRo] at hc
  obtain ⟨L, a, cap, h0, h1, h2, h3, h4, h5⟩ := h
  refine ⟨L, a, cap, h0, h1, h2, h3, h4, ?_⟩
  rcases h5 with h5 | ⟨c, F', h6, h7, h8⟩
  ·exact .inl h5
  ·exact .inr ⟨c, F', h6, noRoRows_rel c L.sz rows L.o F' hc h7, h8⟩
 | .ref _ _ _, u, F, hc, h => by simpa only [relT] using h
 | .ptr _ _ _, u, F, hc, h => by simpa only [relT] using h
 | .rp row col, u, F, hc, h => by simp [noRo] at hc
 | .box row, u, F, hc, h => by
  simp only [relT] at h ⊢
  simp only [noRo] at hc
  obtain ⟨L, c, F', h1, h2, h3, h4, h5, h6⟩ := h
  exact ⟨L, c, F', h1, h2, h3, h4, noRoRow_rel c row L.o F' hc h5, h6⟩
 | .fn bd f cap, u, F, hc, h => by
  simp only [relT] at h ⊢
  simp only [noRo] at hc
  obtain ⟨h0, c, h1, h2, h3⟩ := h
  exact ⟨h0, c, h1, h2, noRoRow_rel c cap 0 fz hc h3⟩
theorem noRoRow_rel (c : Array Value) : ∀ (ts : List T) (o : Nat) (F : FP), noRoRow ts = true → relTRow R w M c ts o F → relTRow R' w M c ts o F
 | [], o, F, hc, h => h
 | t :: ts, o, F, hc, h => by
  simp only [relTRow] at h ⊢
  simp only [noRoRow, Bool.and_eq_true] at hc
  obtain ⟨u, F1, F2, h1, h2, h3, h4⟩ := h
  exact ⟨u, F1, F2, h1, noRo_rel t u F1 hc.1 h2, noRoRow_rel c ts (o + 1) F2 hc.2 h3, h4⟩
theorem noRoRows_rel (c : Array Value) (sz : Nat) : ∀ (rs : List (List T)) (o : Nat) (F : FP), noRoRows rs = true → relTRows R w M c sz rs o F → relTRows R' w M c sz rs o F
 | [], o, F, hc, h => h
 | r :: rs, o, F, hc, h => by
  simp only [relTRows] at h ⊢
  simp only [noRoRows, Bool.and_eq_true] at hc
  obtain ⟨F1, F2, h1, h2, h3, h4⟩ := h
  exact ⟨F1, F2, h1, noRoRow_rel c r o F1 hc.1 h2, noRoRows_rel c sz rs (o + sz) F2 hc.2 h3, h4⟩
end
/-! ### Named memory handed over as_ a closed value -/
mutual
/-- Is t, over named memory H, the closed t'? And what is left of H. -/
def fitT : Nat → List AObj → T → T → Prop × List AObj
 | 0, H, _, _ => (False, H)
 | n + 1, H, t, t' => match t, t' with
  | .ref l off len, .own sz' rows' => match H[l]? with
   | some (.live sz rows) => (sz = sz' ∧ off + len ≤ rows.length ∧ (fitRows n (H.set l .dead) ((rows.drop off).take len) rows').1, (fitRows n (H.set l .dead) ((rows.drop off).take len) rows').2)
   | _ => (False, H)
  | .ptr l 0 0, .box row' => match H[l]? with
   | some (.live sz [row]) => (sz = row'.length ∧ (fitRow n (H.set l .dead) row row').1, (fitRow n (H.set l .dead) row row').2)
   | _ => (False, H)
  | .v x, .own _ rows' => (isNil x = true ∧ rows' = [], H)
  | .v x, .ro _ rows' => (isNil x = true ∧ rows' = [], H)
  | t, t' => (closedT t = true ∧ t = t', H)
def fitRow : Nat → List AObj → List T → List T → Prop × List AObj
 | 0, H, _, _ => (False, H)
 | n + 1, H, ts, ts' => match ts, ts' with
  | [], [] => (True, H)
  | t :: ts, t' :: ts' => ((fitT n H t t').1 ∧ (fitRow n (fitT n H t t').2 ts ts').1, (fitRow n (fitT n H t t').2 ts ts').2)
  | _, _ => (False, H)
def fitRows : Nat → List AObj → List (List T) → List (List T) → Prop × List AObj
 | 0, H, _, _ => (False, H)
 | n + 1, H, rows, rows' => if closedRows rows = true then (rows = rows', H) else match rows, rows' with
  | r :: rs, r' :: rs' => ((fitRow n H r r').1 ∧ (fitRows n (fitRow n H r r').2 rs rs').1, (fitRows n (fitRow n H r r').2 rs rs').2)
  | _, _ => (False, H)
end
def leF (F G : FP) : Prop := ∀ b, F b ≤ G b
theorem relHeap_kill {H : List AObj} {F : FP} {l : Nat} {o : AObj} {L : Loc} (hH : relHeap R w M H M F) (hl : H[l]? = some o) (hL : M[l]? = some L) : ∃ F1 F2, F = fa F1 F2 ∧ relObj R w M L o F1 ∧ relHeap R w M (H.set l .dead) M F2 := by
 obtain ⟨L', F1, F2, hL', rfl, hobj, hput⟩ := relHeap_get hH hl
 rw [hL] at hL'
 simp only [Option.some.injEq] at hL'
 subst hL'
 have := hput R w M .dead fz (fun _ h => h) (List.prefix_refl M) (fun _ _ => rfl) rfl
 rw [z_fa] at this
 exact ⟨F1, F2, rfl, hobj, this⟩
theorem fitRow_len : ∀ (n : Nat) (H : List AObj) (ts ts' : List T), (fitRow n H ts ts').1 → ts.length = ts'.length
 | 0, H, ts, ts', h => by simp [fitRow] at h
 | n + 1, H, [], [], h => rfl
 | n + 1, H, t :: ts, t' :: ts', h => by
  simp only [fitRow] at h
  simp [fitRow_len n _ ts ts' h.2]
 | n + 1, H, [], _ :: _, h => by simp [fitRow] at h
 | n + 1, H, _ :: _, [], h => by simp [fitRow] at h
theorem fitRows_len : ∀ (n : Nat) (H : List AObj) (ts ts' : List (List T)), (fitRows n H ts ts').1 → ts.length = ts'.length
 | 0, H, ts, ts', h => by simp [fitRows] at h
 | n + 1, H, ts, ts', h => by
  unfold fitRows at h
  split at h
  ·simp only at h; rw [h]
  ·split at h
   ·simp [fitRows_len n _ _ _ h.2]
   ·simp at h
mutual
theorem fitT_sound : ∀ (n : Nat) (H : List AObj) (t t' : T) (u : Value) (F FH : FP), (fitT n H t t').1 → relT R w M t u F → relHeap R w M H M FH →
  ∃ F1 FH', relT R w [] t' u F1 ∧ relHeap R w M (fitT n H t t').2 M FH' ∧ leF (fa F1 FH') (fa F FH)
 | 0, H, t, t', u, F, FH, h, hr, hH => by simp [fitT] at h
 | n + 1, H, t, t', u, F, FH, h, hr, hH => by
  unfold fitT at h ⊢
  split at h
  ·-- a list of one's own
   rename_i l off len sz' rows'
   split at h
   ·rename_i sz rows hl
    obtain ⟨rfl, hle, hfit⟩ := h
    simp only [relT] at hr
    obtain ⟨rfl, L, a, cap, hL, rfl, hcap, hroom, ha⟩ := hr
    obtain ⟨G1, G2, rfl, hobj, hH0⟩ := relHeap_kill hH hl hL
    obtain ⟨hLs, hobj⟩ := hobj
    have hlen : ((rows.drop off).take len).length = len := by simp; omega
    have hlr := fitRows_len n (H.set l .dead) _ rows' hfit
    rw [hlen] at hlr
    by_cases hc0 : cap = 0
    ·subst hc0
     have hl0 : len = 0 := by omega
     subst hl0
     obtain ⟨F1, FH', q1, q2, q4⟩ := fitRows_sound n (H.set l .dead) _ rows' #[] sz 0 fz G2 hfit (by simp [relTRows]) hH0
     have hrows' : rows' = [] := List.eq_nil_of_length_eq_zero hlr.symm
     subst hrows'
     refine ⟨fz, FH', ?_, q2, fun b => by have := q4 b; simp only [fa, fz] at this ⊢; omega⟩
     simp only [relT]
     exact ⟨⟨0, 0, sz, 0⟩, a, 0, rfl, rfl, by simp, by simp, .inl rfl, .inl ⟨by trivial, by trivial, by trivial⟩⟩
    ·have ha2 := ha.resolve_left hc0
     rcases hobj with ⟨rfl, hr0, -⟩ | ⟨c, F', hB, hrm, hR, rfl⟩
     ·omega
     obtain ⟨e', lo, hi, hblk, hfr, hext⟩ := hB
     have hsplit : rows = rows.take off ++ (((rows.drop off).take len) ++ rows.drop (off + len)) := by
      rw [← List.drop_drop, List.take_append_drop, List.take_append_drop]
     rw [hsplit, relTRows_append] at hR
     obtain ⟨Fa, Fb', g1, g2, rfl⟩ := hR
     rw [relTRows_append] at g2
     obtain ⟨Fs, Fc, g3, g4, rfl⟩ := g2
     have htk : (rows.take off).length = off := by simp; omega
     rw [htk] at g3
     obtain ⟨F1, FH', q1, q2, q4⟩ := fitRows_sound n (H.set l .dead) _ rows' c L.sz (L.o + off * L.sz) Fs G2 hfit g3 hH0
     refine ⟨fa (fd L.b) F1, FH', ?_, q2, fun b => by have := q4 b; simp only [fa, fz] at this ⊢; omega⟩
     simp only [relT]
     have hmul : (off + cap) * L.sz ≤ L.room * L.sz := Nat.mul_le_mul_right _ (by omega)
     rw [Nat.add_mul] at hmul
     exact ⟨⟨L.b, L.o + off * L.sz, L.sz, cap⟩, a, cap, hLs, by rw [← hlr], by omega, rfl, .inr ha2, .inr ⟨c, F1, ⟨e', lo, hi, hblk, hfr, by simp only; omega⟩, q1, rfl⟩⟩
   ·simp at h
  ·-- a variable of one's own
   rename_i l row'
   split at h
   ·rename_i sz row hl
    obtain ⟨rfl, hfit⟩ := h
    simp only [relT] at hr
    obtain ⟨rfl, L, hL, rfl⟩ := hr
    obtain ⟨G1, G2, rfl, hobj, hH0⟩ := relHeap_kill hH hl hL
    obtain ⟨hLs, hobj⟩ := hobj
    rcases hobj with ⟨hr0, -⟩ | ⟨c, F', hB, hrm, hR, rfl⟩
    ·simp at hr0
    simp only [relTRows] at hR
    obtain ⟨Fs, Fe, g0, g1, rfl, rfl⟩ := hR
    obtain ⟨F1, FH', q1, q2, q4⟩ := fitRow_sound n (H.set l .dead) row row' c L.o Fs G2 hfit g1 hH0
    refine ⟨fa (fd L.b) F1, FH', ?_, q2, fun b => by have := q4 b; simp only [fa, fz] at this ⊢; omega⟩
    simp only [relT]
    exact ⟨L, c, F1, by simp, hLs, by simpa using hrm, hB, q1, rfl⟩
   ·simp at h
  ·rename_i x sz rows'
   obtain ⟨hx, rfl⟩ := h
   simp only [relT] at hr
   obtain ⟨rfl, -, rfl⟩ := hr
   refine ⟨fz, FH, ?_, hH, fun b => by simp only [fa, fz]; omega⟩
   unfold isNil at hx
   split at hx <;> try (simp at hx; done)
   simp only [relT]
   exact ⟨⟨0, 0, sz, 0⟩, none, 0, rfl, rfl, by simp, by simp, .inl rfl, .inl ⟨by trivial, by trivial, by trivial⟩⟩
  ·rename_i x sz rows'
   obtain ⟨hx, rfl⟩ := h
   simp only [relT] at hr
   obtain ⟨rfl, -, rfl⟩ := hr
   refine ⟨fz, FH, ?_, hH, fun b => by simp only [fa, fz]; omega⟩
   unfold isNil at hx
   split at hx <;> try (simp at hx; done)
   simp only [relT, relD]
   exact ⟨⟨none, 0, rfl, by simp, .inl trivial⟩, trivial⟩
  ·obtain ⟨hcl, rfl⟩ := h
   exact ⟨F, FH, closedT_rel _ u F hcl hr, hH, fun b => Nat.le_refl _⟩
theorem fitRow_sound : ∀ (n : Nat) (H : List AObj) (ts ts' : List T) (c : Array Value) (o : Nat) (F FH : FP), (fitRow n H ts ts').1 → relTRow R w M c ts o F → relHeap R w M H M FH →
  ∃ F1 FH', relTRow R w [] c ts' o F1 ∧ relHeap R w M (fitRow n H ts ts').2 M FH' ∧ leF (fa F1 FH') (fa F FH)
 | 0, H, ts, ts', c, o, F, FH, h, hr, hH => by simp [fitRow] at h
 | n + 1, H, [], [], c, o, F, FH, h, hr, hH => by
  exact ⟨F, FH, by simpa [relTRow] using hr, by simpa [fitRow] using hH, fun b => Nat.le_refl _⟩
 | n + 1, H, t :: ts, t' :: ts', c, o, F, FH, h, hr, hH => by
  simp only [fitRow] at h ⊢
  simp only [relTRow] at hr
  obtain ⟨u, F1, F2, h1, h2, h3, rfl⟩ := hr
  obtain ⟨G1, GH, q1, q2, q4⟩ := fitT_sound n H t t' u F1 FH h.1 h2 hH
  obtain ⟨G2, GH2, p1, p2, p4⟩ := fitRow_sound n _ ts ts' c (o + 1) F2 GH h.2 h3 q2
  refine ⟨fa G1 G2, GH2, ?_, p2, fun b => by have := q4 b; have := p4 b; simp only [fa] at *; omega⟩
  simp only [relTRow]
  exact ⟨u, G1, G2, h1, q1, p1, rfl⟩
 | n + 1, H, [], _ :: _, c, o, F, FH, h, hr, hH => by simp [fitRow] at h
 | n + 1, H, _ :: _, [], c, o, F, FH, h, hr, hH => by simp [fitRow] at h
theorem fitRows_sound : ∀ (n : Nat) (H : List AObj) (rs rs' : List (List T)) (c : Array Value) (sz o : Nat) (F FH : FP), (fitRows n H rs rs').1 → relTRows R w M c sz rs o F → relHeap R w M H M FH →
  ∃ F1 FH', relTRows R w [] c sz rs' o F1 ∧ relHeap R w M (fitRows n H rs rs').2 M FH' ∧ leF (fa F1 FH') (fa F FH)
 | 0, H, rs, rs', c, sz, o, F, FH, h, hr, hH => by simp [fitRows] at h
 | n + 1, H, rs, rs', c, sz, o, F, FH, h, hr, hH => by
  unfold fitRows at h ⊢
  split at h
  ·rename_i hcl
   rw [if_pos hcl]
   simp only at h
   subst h
   exact ⟨F, FH, closedRows_rel c sz rs o F hcl hr, hH, fun b => Nat.le_refl _⟩
  ·rename_i hcl
   rw [if_neg hcl]
   split at h
   ·rename_i r rs1 r' rs1'
    simp only at h ⊢
    simp only [relTRows] at hr
    obtain ⟨F1, F2, h0, h2, h3, rfl⟩ := hr
    obtain ⟨G1, GH, q1, q2, q4⟩ := fitRow_sound n H r r' c o F1 FH h.1 h2 hH
    obtain ⟨G2, GH2, p1, p2, p4⟩ := fitRows_sound n _ rs1 rs1' c sz (o + sz) F2 GH h.2 h3 q2
    have hlr := fitRow_len n H r r' h.1
    refine ⟨fa G1 G2, GH2, ?_, p2, fun b => by have := q4 b; have := p4 b; simp only [fa] at *; omega⟩
    simp only [relTRows]
    exact ⟨G1, G2, by omega, q1, p1, rfl⟩
   ·simp at h
end
end Go.Proofs.YtejnpiielcbkkaaGreat.E
end
section
namespace Go.Proofs.YtejnpiielcbkkaaGreat.E
variable {P : Program} {R R' : Nat → Prop} {w w' : World} {M M' : List Loc} {c : Array Value}
/-! ### What is shown to a callee, to be read alone -/
def lookRowBy (p : T → D → Prop) : List T → List D → Prop
 | [], [] => True
 | t :: ts, d :: ds => p t d ∧ lookRowBy p ts ds
 | _, _ => False
def lookRowsBy (p : T → D → Prop) : List (List T) → List (List D) → Prop
 | [], [] => True
 | r :: rs, d :: ds => lookRowBy p r d ∧ lookRowsBy p rs ds
 | _, _ => False
def lookD : Nat → List AObj → T → D → Prop
 | 0, _, _, _ => False
 | n + 1, H, t, d => match t, d with
  | .v x, .v y => x = y
  | .v x, .l _ rows' => isNil x = true ∧ rows' = []
  | .ro sz rows, .l sz' rows' => sz = sz' ∧ rows = rows'
  | .own sz rows, .l sz' rows' => sz = sz' ∧ lookRowsBy (lookD n H) rows rows'
  | .ref l off len, .l sz' rows' => match H[l]? with
   | some (.live sz rows) => sz = sz' ∧ off + len ≤ rows.length ∧ lookRowsBy (lookD n H) ((rows.drop off).take len) rows'
   | _ => False
  | _, _ => False
theorem lookRowBy_len {p : T → D → Prop} : ∀ {ts : List T} {ds : List D}, lookRowBy p ts ds → ts.length = ds.length
 | [], [], h => rfl
 | t :: ts, d :: ds, h => by simp [lookRowBy_len h.2]
 | [], _ :: _, h => h.elim
 | _ :: _, [], h => h.elim
theorem lookRowsBy_len {p : T → D → Prop} : ∀ {ts : List (List T)} {ds : List (List D)}, lookRowsBy p ts ds → ts.length = ds.length
 | [], [], h => rfl
 | t :: ts, d :: ds, h => by simp [lookRowsBy_len h.2]
 | [], _ :: _, h => h.elim
 | _ :: _, [], h => h.elim
theorem lookRowsBy_map {α : Type} {p : T → D → Prop} {f : α → List T} {g : α → List D} : ∀ {xs : List α}, (∀ x ∈ xs, lookRowBy p (f x) (g x)) → lookRowsBy p (xs.map f) (xs.map g)
 | [], h => trivial
 | x :: xs, h => ⟨h x (by simp), lookRowsBy_map fun y hy => h y (by simp [hy])⟩
theorem lookRow_sound {Rc : Nat → Prop} {p : T → D → Prop} : ∀ {ts : List T} {ds : List D} {o : Nat} {F : FP} (hp : ∀ t d u G, p t d → relT R w M t u G → leF G F → relD Rc w d u), lookRowBy p ts ds → relTRow R w M c ts o F → relDRow Rc w c ds o
 | [], [], o, F, hp, h, hr => by simp [relDRow]
 | t :: ts, d :: ds, o, F, hp, h, hr => by
  simp only [relTRow] at hr
  obtain ⟨u, F1, F2, h1, h2, h3, rfl⟩ := hr
  simp only [relDRow]
  exact ⟨⟨u, h1, hp t d u F1 h.1 h2 (fun b => by simp only [fa]; omega)⟩, lookRow_sound (fun t d u G h1 h2 h3 => hp t d u G h1 h2 (fun b => by have := h3 b; simp only [fa]; omega)) h.2 h3⟩
 | [], _ :: _, o, F, hp, h, hr => h.elim
 | _ :: _, [], o, F, hp, h, hr => h.elim
theorem lookRows_sound {Rc : Nat → Prop} {p : T → D → Prop} {sz : Nat} : ∀ {ts : List (List T)} {ds : List (List D)} {o : Nat} {F : FP} (hp : ∀ t d u G, p t d → relT R w M t u G → leF G F → relD Rc w d u), lookRowsBy p ts ds → relTRows R w M c sz ts o F → relDRows Rc w c sz ds o
 | [], [], o, F, hp, h, hr => by simp [relDRows]
 | t :: ts, d :: ds, o, F, hp, h, hr => by
  simp only [relTRows] at hr
  obtain ⟨F1, F2, h1, h2, h3, rfl⟩ := hr
  simp only [relDRows]
  refine ⟨by rw [← lookRowBy_len h.1]; exact h1, lookRow_sound (fun t d u G h1 h2 h3 => hp t d u G h1 h2 (fun b => by have := h3 b; simp only [fa]; omega)) h.1 h2, lookRows_sound (fun t d u G h1 h2 h3 => hp t d u G h1 h2 (fun b => by have := h3 b; simp only [fa]; omega)) h.2 h3⟩
 | [], _ :: _, o, F, hp, h, hr => h.elim
 | _ :: _, [], o, F, hp, h, hr => h.elim
theorem lookD_sound {Rc : Nat → Prop} {H : List AObj} {FH : FP} (hH : relHeap R w M H M FH) (hR : ∀ b, R b → Rc b) (hF : ∀ b, 1 ≤ FH b → Rc b) : ∀ (n : Nat) (t : T) (d : D) (u : Value) (F : FP), lookD n H t d → relT R w M t u F → (∀ b, 1 ≤ F b → Rc b) → relD Rc w d u
 | 0, t, d, u, F, h, hr, hf => by simp [lookD] at h
 | n + 1, t, d, u, F, h, hr, hf => by
  unfold lookD at h
  split at h
  ·subst h
   simp only [relT] at hr
   simp only [relD]
   exact ⟨hr.1, hr.2.1⟩
  ·obtain ⟨hx, rfl⟩ := h
   simp only [relT] at hr
   obtain ⟨rfl, -, -⟩ := hr
   unfold isNil at hx
   split at hx <;> try (simp at hx; done)
   simp only [relD]
   exact ⟨none, 0, rfl, by simp, .inl trivial⟩
  ·obtain ⟨rfl, rfl⟩ := h
   simp only [relT] at hr
   exact relD_mono hR (fun _ _ => rfl) _ _ hr.1
  ·rename_i sz rows sz' rows'
   obtain ⟨rfl, hl⟩ := h
   simp only [relT] at hr
   obtain ⟨L, a, cap, hLs, rfl, hcap, hroom, ha, hx⟩ := hr
   have hlen := lookRowsBy_len hl
   simp only [relD]
   refine ⟨a, cap, by rw [hlen], by omega, ?_⟩
   by_cases hne : rows' = []
   ·exact .inl hne
   ·right
    have hpos : 0 < rows'.length := List.length_pos_iff.2 hne
    rcases hx with ⟨rfl, -⟩ | ⟨c, F', ⟨e, lo, hi, hb, -, -⟩, hrr, rfl⟩
    ·simp at hlen; omega
    have ha2 := ha.resolve_left (by omega)
    subst ha2
    rw [hLs] at hrr
    exact ⟨L.b, L.o, c, e, (lo, hi), rfl, hf _ (by simp [fa, fd_self]), hb, lookRows_sound (fun t d u G h1 h2 h3 => lookD_sound hH hR hF n t d u G h1 h2 (fun b hb => hf b (by have := h3 b; simp only [fa]; omega))) hl hrr⟩
  ·rename_i l off len sz' rows'
   split at h
   ·rename_i sz rows hlv
    obtain ⟨rfl, hle, hl⟩ := h
    simp only [relT] at hr
    obtain ⟨-, L, a, cap, hL, rfl, hcap, hroom, ha⟩ := hr
    obtain ⟨L', F1, F2, hL', hFH, hobj, -⟩ := relHeap_get hH hlv
    rw [hL] at hL'
    simp only [Option.some.injEq] at hL'
    subst hL'
    obtain ⟨hLs, hobj⟩ := hobj
    have hlen := lookRowsBy_len hl
    have hlen2 : ((rows.drop off).take len).length = len := by simp; omega
    simp only [relD]
    refine ⟨a, cap, by rw [← hlen, hlen2], by omega, ?_⟩
    by_cases hne : rows' = []
    ·exact .inl hne
    ·right
     have hpos : 0 < rows'.length := List.length_pos_iff.2 hne
     have ha2 := ha.resolve_left (by omega)
     subst ha2
     rcases hobj with ⟨rfl, -⟩ | ⟨c, F', ⟨e, lo, hi, hb, -, -⟩, hrm, hrr, rfl⟩
     ·simp at hle; omega
     have hsplit : rows = rows.take off ++ (((rows.drop off).take len) ++ rows.drop (off + len)) := by
      rw [← List.drop_drop, List.take_append_drop, List.take_append_drop]
     rw [hsplit, relTRows_append] at hrr
     obtain ⟨Fa, Fb', g1, g2, rfl⟩ := hrr
     rw [relTRows_append] at g2
     obtain ⟨Fs, Fc, g3, g4, rfl⟩ := g2
     have htk : (rows.take off).length = off := by simp; omega
     rw [htk, hLs] at g3
     refine ⟨L.b, L.o + off * L.sz, c, e, (lo, hi), rfl, hF _ (by rw [hFH]; simp only [fa, fd_self]; omega), hb, ?_⟩
     rw [hLs]
     exact lookRows_sound (fun t d u G h1 h2 h3 => lookD_sound hH hR hF n t d u G h1 h2 (fun b hb => hF b (by rw [hFH]; have := h3 b; simp only [fa]; omega))) hl g3
   ·exact h.elim
  ·exact h.elim
/-! ### Arguments handed over -/
def ownish : T → Bool
 | .own _ _ | .box _ => true
 | _ => false
def takeT (n : Nat) (H : List AObj) (t t' : T) : Prop × List AObj := if ownish t' = true then fitT n H t t' else (True, H)
def takeRow (n : Nat) : List AObj → List T → List T → Prop × List AObj
 | H, [], [] => (True, H)
 | H, t :: ts, t' :: ts' => ((takeT n H t t').1 ∧ (takeRow n (takeT n H t t').2 ts ts').1, (takeRow n (takeT n H t t').2 ts ts').2)
 | H, _, _ => (False, H)
def takeA1 (n : Nat) (H : List AObj) : A1 → A1 → Prop × List AObj
 | .one t, .one t' => takeT n H t t'
 | .agg ts, .agg ts' => takeRow n H ts ts'
 | _, .any => (True, H)
 | _, _ => (False, H)
def takeAL (n : Nat) : List AObj → List A1 → List A1 → Prop × List AObj
 | H, [], [] => (True, H)
 | H, a :: as_, b :: bs => ((takeA1 n H a b).1 ∧ (takeAL n (takeA1 n H a b).2 as_ bs).1, (takeAL n (takeA1 n H a b).2 as_ bs).2)
 | H, _, _ => (False, H)
def isRo : T → Bool
 | .ro _ _ => true
 | .v x => isNil x
 | _ => false
def lookT (sn : Bool) (n : Nat) (H : List AObj) (t t' : T) : Prop := match t' with
 | .own _ _ | .box _ => True
 | .ro sz rows => (sn = true ∨ isRo t = true) ∧ lookD n H t (.l sz rows)
 | .v y => t = .v y
 | .rp row col => t = .rp row col
 | .fn bd f cap => t = .fn bd f cap ∧ closedRow cap = true
 | _ => False
def lookRow (sn : Bool) (n : Nat) (H : List AObj) : List T → List T → Prop
 | [], [] => True
 | t :: ts, t' :: ts' => lookT sn n H t t' ∧ lookRow sn n H ts ts'
 | _, _ => False
def lookA1 (sn : Bool) (n : Nat) (H : List AObj) : A1 → A1 → Prop
 | .one t, .one t' => lookT sn n H t t'
 | .agg ts, .agg ts' => lookRow sn n H ts ts'
 | _, .any => True
 | _, _ => False
def lookAL (sn : Bool) (n : Nat) (H : List AObj) : List A1 → List A1 → Prop
 | [], [] => True
 | a :: as_, b :: bs => lookA1 sn n H a b ∧ lookAL sn n H as_ bs
 | _, _ => False
/-- The first pass: what is taken. -/
def halfT (R : Nat → Prop) (w : World) (t' : T) (u : Value) (F : FP) : Prop := if ownish t' = true then relT R w [] t' u F else F = fz
theorem takeT_sound {n : Nat} {H : List AObj} {t t' : T} {u : Value} {FH : FP} (h : (takeT n H t t').1) (hr : relT R w M t u fz) (hH : relHeap R w M H M FH) :
  ∃ F1 FH', halfT R w t' u F1 ∧ relHeap R w M (takeT n H t t').2 M FH' ∧ leF (fa F1 FH') FH := by
 unfold takeT halfT at *
 by_cases ho : ownish t' = true
 ·simp only [ho, if_true] at h ⊢
  obtain ⟨F1, FH', q1, q2, q3⟩ := fitT_sound n H t t' u fz FH h hr hH
  exact ⟨F1, FH', q1, q2, fun b => by have := q3 b; simp only [fa, fz] at this ⊢; omega⟩
 ·simp only [ho, if_false, Bool.false_eq_true] at h ⊢
  exact ⟨fz, FH, rfl, hH, fun b => by simp only [fa, fz]; omega⟩
def halfRow (R : Nat → Prop) (w : World) (c : Array Value) : List T → Nat → FP → Prop
 | [], _, F => F = fz
 | t :: ts, o, F => ∃ u F1 F2, c[o]? = some u ∧ halfT R w t u F1 ∧ halfRow R w c ts (o + 1) F2 ∧ F = fa F1 F2
theorem fz_split {F1 F2 : FP} (he : fz = fa F1 F2) : F1 = fz ∧ F2 = fz := by
 constructor <;> (funext b; have := congrFun he b; simp only [fz, fa] at this ⊢; omega)
theorem takeRow_sound {n : Nat} : ∀ {ts ts' : List T} {H : List AObj} {o : Nat} {FH : FP}, (takeRow n H ts ts').1 → relTRow R w M c ts o fz → relHeap R w M H M FH →
  ∃ F1 FH', halfRow R w c ts' o F1 ∧ relHeap R w M (takeRow n H ts ts').2 M FH' ∧ leF (fa F1 FH') FH ∧ ts.length = ts'.length
 | [], [], H, o, FH, h, hr, hH => ⟨fz, FH, rfl, hH, fun b => by simp only [fa, fz]; omega, rfl⟩
 | t :: ts, t' :: ts', H, o, FH, h, hr, hH => by
  simp only [takeRow] at h ⊢
  simp only [relTRow] at hr
  obtain ⟨u, F1, F2, h1, h2, h3, he⟩ := hr
  obtain ⟨rfl, rfl⟩ := fz_split he
  obtain ⟨G1, GH, q1, q2, q3⟩ := takeT_sound h.1 h2 hH
  obtain ⟨G2, GH2, p1, p2, p3, p4⟩ := takeRow_sound h.2 h3 q2
  exact ⟨fa G1 G2, GH2, ⟨u, G1, G2, h1, q1, p1, rfl⟩, p2, fun b => by have := q3 b; have := p3 b; simp only [fa] at *; omega, by simp [p4]⟩
 | [], _ :: _, H, o, FH, h, hr, hH => by simp [takeRow] at h
 | _ :: _, [], H, o, FH, h, hr, hH => by simp [takeRow] at h
def halfA1 (R : Nat → Prop) (w : World) : A1 → Value → FP → Prop
 | .one t, u, F => halfT R w t u F
 | .agg ts, u, F => ∃ c : Array Value, u = .agg c ∧ c.size = ts.length ∧ halfRow R w c ts 0 F
 | .any, u, F => F = fz
theorem takeA1_sound {n : Nat} {H : List AObj} {a b : A1} {u : Value} {FH : FP} (h : (takeA1 n H a b).1) (hr : relA1 R w M a u fz) (hH : relHeap R w M H M FH) :
  ∃ F1 FH', halfA1 R w b u F1 ∧ relHeap R w M (takeA1 n H a b).2 M FH' ∧ leF (fa F1 FH') FH := by
 unfold takeA1 at h ⊢
 split at h
 ·exact takeT_sound h hr hH
 ·obtain ⟨c, rfl, h2, h3⟩ := hr
  obtain ⟨F1, FH', q1, q2, q3, q4⟩ := takeRow_sound h h3 hH
  exact ⟨F1, FH', ⟨c, rfl, by omega, q1⟩, q2, q3⟩
 ·exact ⟨fz, FH, rfl, hH, fun b => by simp only [fa, fz]; omega⟩
 ·simp at h
def halfAL (R : Nat → Prop) (w : World) : List A1 → List Value → FP → Prop
 | [], [], F => F = fz
 | a :: as_, u :: us, F => ∃ F1 F2, halfA1 R w a u F1 ∧ halfAL R w as_ us F2 ∧ F = fa F1 F2
 | _, _, _ => False
theorem takeAL_sound {n : Nat} : ∀ {as_ bs : List A1} {us : List Value} {H : List AObj} {FH : FP}, (takeAL n H as_ bs).1 → relAL R w M as_ us fz → relHeap R w M H M FH →
  ∃ F1 FH', halfAL R w bs us F1 ∧ relHeap R w M (takeAL n H as_ bs).2 M FH' ∧ leF (fa F1 FH') FH
 | [], [], [], H, FH, h, hr, hH => ⟨fz, FH, rfl, hH, fun b => by simp only [fa, fz]; omega⟩
 | a :: as_, b :: bs, u :: us, H, FH, h, hr, hH => by
  simp only [takeAL] at h ⊢
  obtain ⟨F1, F2, h1, h2, he⟩ := hr
  obtain ⟨rfl, rfl⟩ := fz_split he
  obtain ⟨G1, GH, q1, q2, q3⟩ := takeA1_sound h.1 h1 hH
  obtain ⟨G2, GH2, p1, p2, p3⟩ := takeAL_sound h.2 h2 q2
  exact ⟨fa G1 G2, GH2, ⟨G1, G2, q1, p1, rfl⟩, p2, fun b => by have := q3 b; have := p3 b; simp only [fa] at *; omega⟩
 | [], _ :: _, us, H, FH, h, hr, hH => by simp [takeAL] at h
 | _ :: _, [], us, H, FH, h, hr, hH => by simp [takeAL] at h
 | [], [], _ :: _, H, FH, h, hr, hH => hr.elim
 | _ :: _, _ :: _, [], H, FH, h, hr, hH => hr.elim
/-- The second pass: what is shown. 'Rc': what the callee may not touch. -/
theorem lookT_sound {sn : Bool} {Rc : Nat → Prop} {n : Nat} {H : List AObj} {t t' : T} {u : Value} {F FH : FP} (h : lookT sn n H t t') (hr : relT R w M t u fz) (hh : halfT R w t' u F) (hH : relHeap R w M H M FH) (hR : ∀ b, R b → Rc b) (hF : sn = true → ∀ b, 1 ≤ FH b → Rc b) : relT Rc w [] t' u F := by
 unfold lookT at h
 split at h
 ·exact relT_mono hR (List.prefix_refl _) _ u F (fun _ _ => rfl) (by simpa [halfT, ownish] using hh)
 ·exact relT_mono hR (List.prefix_refl _) _ u F (fun _ _ => rfl) (by simpa [halfT, ownish] using hh)
 ·have hz : F = fz := by simpa [halfT, ownish] using hh
  subst hz
  simp only [relT]
  refine ⟨?_, trivial⟩
  rcases h.1 with hs | hs
  ·exact lookD_sound hH hR (hF hs) n t _ u fz h.2 hr (fun b hb => by simp [fz] at hb)
  ·cases n with
   | zero => simp [lookD] at h
   | succ n =>
    have h2 := h.2
    unfold isRo at hs
    split at hs
    ·simp only [lookD] at h2
     obtain ⟨rfl, rfl⟩ := h2
     simp only [relT] at hr
     exact relD_mono hR (fun _ _ => rfl) _ _ hr.1
    ·simp only [lookD] at h2
     obtain ⟨-, rfl⟩ := h2
     simp only [relT] at hr
     obtain ⟨rfl, -, -⟩ := hr
     unfold isNil at hs
     split at hs <;> try (simp at hs; done)
     simp only [relD]
     exact ⟨none, 0, rfl, by simp, .inl trivial⟩
    ·simp at hs
 ·have hz : F = fz := by simpa [halfT, ownish] using hh
  subst hz h
  simpa [relT] using hr
 ·have hz : F = fz := by simpa [halfT, ownish] using hh
  subst hz h
  exact relT_mono hR (List.nil_prefix) _ u fz (fun _ _ => rfl) (closedT_rel (M' := []) _ u fz rfl hr)
 ·have hz : F = fz := by simpa [halfT, ownish] using hh
  obtain ⟨rfl, hc⟩ := h
  subst hz
  exact relT_mono hR (List.nil_prefix) _ u fz (fun _ _ => rfl) (closedT_rel (M' := []) _ u fz (by simpa [closedT] using hc) hr)
 ·exact h.elim
theorem lookRow2_sound {sn : Bool} {Rc : Nat → Prop} {n : Nat} {H : List AObj} {FH : FP} (hH : relHeap R w M H M FH) (hR : ∀ b, R b → Rc b) (hF : sn = true → ∀ b, 1 ≤ FH b → Rc b) : ∀ {ts ts' : List T} {o : Nat} {F : FP}, lookRow sn n H ts ts' → relTRow R w M c ts o fz → halfRow R w c ts' o F → relTRow Rc w [] c ts' o F
 | [], [], o, F, h, hr, hh => by simpa [relTRow, halfRow] using hh
 | t :: ts, t' :: ts', o, F, h, hr, hh => by
  simp only [relTRow] at hr ⊢
  obtain ⟨u, F1, F2, h1, h2, h3, he⟩ := hr
  obtain ⟨rfl, rfl⟩ := fz_split he
  obtain ⟨v, G1, G2, g1, g2, g3, rfl⟩ := hh
  rw [h1, Option.some.injEq] at g1
  subst g1
  exact ⟨u, G1, G2, h1, lookT_sound h.1 h2 g2 hH hR hF, lookRow2_sound hH hR hF h.2 h3 g3, rfl⟩
 | [], _ :: _, o, F, h, hr, hh => h.elim
 | _ :: _, [], o, F, h, hr, hh => h.elim
theorem lookAL_sound {sn : Bool} {Rc : Nat → Prop} {n : Nat} {H : List AObj} {FH : FP} (hH : relHeap R w M H M FH) (hR : ∀ b, R b → Rc b) (hF : sn = true → ∀ b, 1 ≤ FH b → Rc b) : ∀ {as_ bs : List A1} {us : List Value} {F : FP}, lookAL sn n H as_ bs → relAL R w M as_ us fz → halfAL R w bs us F → relAL Rc w [] bs us F
 | [], [], [], F, h, hr, hh => hh
 | a :: as_, b :: bs, u :: us, F, h, hr, hh => by
  obtain ⟨F1, F2, h1, h2, he⟩ := hr
  obtain ⟨rfl, rfl⟩ := fz_split he
  obtain ⟨G1, G2, g1, g2, rfl⟩ := hh
  refine ⟨G1, G2, ?_, lookAL_sound hH hR hF h.2 h2 g2, rfl⟩
  have h0 := h.1
  unfold lookA1 at h0
  split at h0
  ·exact lookT_sound h0 h1 g1 hH hR hF
  ·obtain ⟨c, rfl, c1, c2⟩ := h1
   obtain ⟨c', hc', c3, c4⟩ := g1
   simp only [Value.agg.injEq] at hc'
   subst hc'
   exact ⟨c, rfl, c3, lookRow2_sound hH hR hF h0 c2 c4⟩
  ·exact g1
  ·exact h0.elim
 | [], _ :: _, us, F, h, hr, hh => h.elim
 | _ :: _, [], us, F, h, hr, hh => h.elim
 | [], [], _ :: _, F, h, hr, hh => hr.elim
 | _ :: _, _ :: _, [], F, h, hr, hh => hr.elim
end Go.Proofs.YtejnpiielcbkkaaGreat.E
end
