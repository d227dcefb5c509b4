/- The abstract memory, more: a row and a cell taken out and put back, named objects, what a call may change. No condition beside those that stand in each statement. -/
import Derived.Test.YtgeoipplkjgnfaaDoorEng1
set_option linter.unusedVariables false
set_option linter.unusedSimpArgs false
namespace Go.Proofs.YtgeoipplkjgnfaaDoor.E
variable {R R' : Nat → Prop} {w w' : World} {M M' : List Loc} {c : Array Value}

/-! ### What is read -/
theorem relDRow_get : ∀ {ds : List D} {o j : Nat} {d : D}, relDRow R w c ds o → ds[j]? = some d → ∃ u, c[o + j]? = some u ∧ relD R w d u
  | [], o, j, d, _, h => by simp at h
  | d :: ds, o, 0, d', h, e => by
    simp only [relDRow] at h
    simp only [List.getElem?_cons_zero, Option.some.injEq] at e
    subst e
    exact h.1
  | d :: ds, o, j + 1, d', h, e => by
    simp only [relDRow] at h
    simp only [List.getElem?_cons_succ] at e
    obtain ⟨u, h1, h2⟩ := relDRow_get h.2 e
    exact ⟨u, by rw [← h1]; congr 1; omega, h2⟩
theorem relDRows_get {sz : Nat} : ∀ {rs : List (List D)} {o i : Nat} {r : List D}, relDRows R w c sz rs o → rs[i]? = some r → r.length = sz ∧ relDRow R w c r (o + i * sz)
  | [], o, i, r, _, h => by simp at h
  | r :: rs, o, 0, r', h, e => by
    simp only [relDRows] at h
    simp only [List.getElem?_cons_zero, Option.some.injEq] at e
    subst e
    simpa using ⟨h.1, h.2.1⟩
  | r :: rs, o, i + 1, r', h, e => by
    simp only [relDRows] at h
    simp only [List.getElem?_cons_succ] at e
    obtain ⟨h1, h2⟩ := relDRows_get h.2.2 e
    exact ⟨h1, by rw [Nat.succ_mul, ← Nat.add_assoc, Nat.add_right_comm]; exact h2⟩
theorem relDRows_drop {sz : Nat} : ∀ {rs : List (List D)} {o : Nat} (k : Nat), relDRows R w c sz rs o → relDRows R w c sz (rs.drop k) (o + k * sz)
  | rs, o, 0, h => by simpa using h
  | [], o, k + 1, h => by simp [relDRows]
  | r :: rs, o, k + 1, h => by
    simp only [relDRows] at h
    rw [List.drop_succ_cons, Nat.succ_mul, ← Nat.add_assoc, Nat.add_right_comm]
    exact relDRows_drop k h.2.2
theorem relDRows_take {sz : Nat} : ∀ {rs : List (List D)} {o : Nat} (k : Nat), relDRows R w c sz rs o → relDRows R w c sz (rs.take k) o
  | rs, o, 0, h => by simp [relDRows]
  | [], o, k + 1, h => by simp [relDRows]
  | r :: rs, o, k + 1, h => by
    simp only [relDRows, List.take_succ_cons] at h ⊢
    exact ⟨h.1, h.2.1, relDRows_take k h.2.2⟩

/-! ### Cells that are changed -/
/-- Two rows of cells are the same but for n cells from o on. -/
def SameBut (c c' : Array Value) (o n : Nat) : Prop := c'.size = c.size ∧ ∀ i, i < o ∨ o + n ≤ i → c'[i]? = c[i]?
theorem SameBut.refl (c : Array Value) (o n : Nat) : SameBut c c o n := ⟨rfl, fun _ _ => rfl⟩
theorem relTRow_same {c' : Array Value} : ∀ {ts : List T} {o : Nat} {F : FP}, (∀ i, o ≤ i → i < o + ts.length → c'[i]? = c[i]?) → relTRow R w M c ts o F → relTRow R w M c' ts o F
  | [], o, F, hs, h => by simpa [relTRow] using h
  | t :: ts, o, F, hs, h => by
    simp only [relTRow] at h ⊢
    obtain ⟨u, F1, F2, h1, h2, h3, h4⟩ := h
    exact ⟨u, F1, F2, (hs o (Nat.le_refl _) (by simp)).trans h1, h2, relTRow_same (fun i hi hl => hs i (by omega) (by simp at hl ⊢; omega)) h3, h4⟩
theorem relTRows_same {c' : Array Value} {sz : Nat} : ∀ {rs : List (List T)} {o : Nat} {F : FP}, (∀ i, o ≤ i → i < o + rs.length * sz → c'[i]? = c[i]?) → relTRows R w M c sz rs o F → relTRows R w M c' sz rs o F
  | [], o, F, hs, h => by simpa [relTRows] using h
  | r :: rs, o, F, hs, h => by
    simp only [relTRows] at h ⊢
    obtain ⟨F1, F2, h0, h1, h2, h3⟩ := h
    refine ⟨F1, F2, h0, relTRow_same (fun i hi hl => hs i hi ?_) h1, relTRows_same (fun i hi hl => hs i (by omega) ?_) h2, h3⟩
    · rw [List.length_cons, Nat.succ_mul]; have := Nat.zero_le (rs.length * sz); omega
    · rw [List.length_cons, Nat.succ_mul]; omega
theorem relTRow_len : ∀ {ts : List T} {o : Nat} {F : FP}, relTRow R w M c ts o F → ts = [] ∨ o + ts.length ≤ c.size
  | [], o, F, h => .inl rfl
  | t :: ts, o, F, h => by
    simp only [relTRow] at h
    obtain ⟨u, F1, F2, h1, h2, h3, h4⟩ := h
    have h5 := (Array.getElem?_eq_some_iff.1 h1).1
    right
    rcases relTRow_len h3 with h | h
    · subst h; simp; omega
    · simp; omega
/-- A row taken out and put back. -/
theorem relTRows_get {sz : Nat} : ∀ {rs : List (List T)} {o i : Nat} {F : FP} {r : List T}, relTRows R w M c sz rs o F → rs[i]? = some r →
    ∃ F1 F2, F = fa F1 F2 ∧ r.length = sz ∧ relTRow R w M c r (o + i * sz) F1 ∧
      ∀ (M' : List Loc) (c' : Array Value) (r' : List T) (F1' : FP), M <+: M' → SameBut c c' (o + i * sz) sz → r'.length = sz → relTRow R w M' c' r' (o + i * sz) F1' → relTRows R w M' c' sz (rs.set i r') o (fa F1' F2)
  | [], o, i, F, r, _, h => by simp at h
  | r :: rs, o, 0, F, r', h, e => by
    simp only [relTRows] at h
    simp only [List.getElem?_cons_zero, Option.some.injEq] at e
    subst e
    obtain ⟨F1, F2, h0, h1, h2, h3⟩ := h
    refine ⟨F1, F2, h3, h0, by simpa using h1, fun M' c' r' F1' hM hs hl h => ?_⟩
    simp only [List.set_cons_zero, relTRows]
    rw [Nat.zero_mul, Nat.add_zero] at hs h
    exact ⟨F1', F2, hl, h, relTRows_mono (fun _ h => h) hM c' sz rs _ F2 (fun _ _ => rfl) (relTRows_same (fun i hi hl => hs.2 i (.inr hi)) h2), rfl⟩
  | r :: rs, o, i + 1, F, r', h, e => by
    simp only [relTRows] at h
    simp only [List.getElem?_cons_succ] at e
    obtain ⟨F1, F2, h0, h1, h2, h3⟩ := h
    obtain ⟨G1, G2, g1, g2, g3, g4⟩ := relTRows_get h2 e
    have ea : o + (i + 1) * sz = o + sz + i * sz := by rw [Nat.succ_mul]; omega
    refine ⟨G1, fa F1 G2, by rw [h3, g1, ← fa_assoc, fa_comm F1 G1, fa_assoc], g2, by rw [ea]; exact g3, fun M' c' r' F1' hM hs hl h => ?_⟩
    rw [ea] at hs h
    simp only [List.set_cons_succ, relTRows]
    refine ⟨F1, fa F1' G2, h0, relTRow_mono (fun _ h => h) hM c' r o F1 (fun _ _ => rfl) (relTRow_same (fun j hj hl => hs.2 j (.inl ?_)) h1), g4 M' c' r' F1' hM hs hl h, by rw [← fa_assoc, fa_comm F1' F1, fa_assoc]⟩
    rw [h0] at hl
    have := Nat.zero_le (i * sz)
    omega
/-- A cell taken out and put back. -/
theorem relTRow_get : ∀ {ts : List T} {o j : Nat} {F : FP} {t : T}, relTRow R w M c ts o F → ts[j]? = some t →
    ∃ u F1 F2, F = fa F1 F2 ∧ c[o + j]? = some u ∧ relT R w M t u F1 ∧
      ∀ (M' : List Loc) (c' : Array Value) (t' : T) (u' : Value) (F1' : FP), M <+: M' → SameBut c c' (o + j) 1 → c'[o + j]? = some u' → relT R w M' t' u' F1' → relTRow R w M' c' (ts.set j t') o (fa F1' F2)
  | [], o, j, F, t, _, h => by simp at h
  | t :: ts, o, 0, F, t', h, e => by
    simp only [relTRow] at h
    simp only [List.getElem?_cons_zero, Option.some.injEq] at e
    subst e
    obtain ⟨u, F1, F2, h1, h2, h3, h4⟩ := h
    refine ⟨u, F1, F2, h4, by simpa using h1, h2, fun M' c' t' u' F1' hM hs hc h => ?_⟩
    simp only [List.set_cons_zero, relTRow]
    rw [Nat.add_zero] at hs hc
    exact ⟨u', F1', F2, hc, h, relTRow_mono (fun _ h => h) hM c' ts _ F2 (fun _ _ => rfl) (relTRow_same (fun i hi hl => hs.2 i (.inr hi)) h3), rfl⟩
  | t :: ts, o, j + 1, F, t', h, e => by
    simp only [relTRow] at h
    simp only [List.getElem?_cons_succ] at e
    obtain ⟨u, F1, F2, h1, h2, h3, h4⟩ := h
    obtain ⟨v, G1, G2, g1, g2, g3, g4⟩ := relTRow_get h3 e
    have ea : o + (j + 1) = o + 1 + j := by omega
    refine ⟨v, G1, fa F1 G2, by rw [h4, g1, ← fa_assoc, fa_comm F1 G1, fa_assoc], by rw [ea]; exact g2, g3, fun M' c' t' u' F1' hM hs hc h => ?_⟩
    rw [ea] at hs hc
    simp only [List.set_cons_succ, relTRow]
    have ho : c'[o]? = c[o]? := hs.2 o (.inl (by omega))
    exact ⟨u, F1, fa F1' G2, ho.trans h1, relT_mono (fun _ h => h) hM t u F1 (fun _ _ => rfl) h2, g4 M' c' t' u' F1' hM hs hc h, by rw [← fa_assoc, fa_comm F1' F1, fa_assoc]⟩
theorem relTRow_append : ∀ {ts us : List T} {o : Nat} {F : FP}, relTRow R w M c (ts ++ us) o F ↔ ∃ F1 F2, relTRow R w M c ts o F1 ∧ relTRow R w M c us (o + ts.length) F2 ∧ F = fa F1 F2
  | [], us, o, F => by
    simp only [List.nil_append, relTRow, List.length_nil, Nat.add_zero]
    exact ⟨fun h => ⟨fz, F, rfl, h, (z_fa F).symm⟩, fun ⟨F1, F2, h1, h2, h3⟩ => by subst h1; rw [z_fa] at h3; exact h3 ▸ h2⟩
  | t :: ts, us, o, F => by
    simp only [List.cons_append, relTRow, List.length_cons, relTRow_append]
    have ea : o + 1 + ts.length = o + (ts.length + 1) := by omega
    constructor
    · rintro ⟨u, F1, F2, h1, h2, ⟨G1, G2, g1, g2, rfl⟩, rfl⟩
      exact ⟨fa F1 G1, G2, ⟨u, F1, G1, h1, h2, g1, rfl⟩, ea ▸ g2, (fa_assoc _ _ _).symm⟩
    · rintro ⟨F1, F2, ⟨u, G1, G2, g1, g2, g3, rfl⟩, h2, rfl⟩
      exact ⟨u, G1, fa G2 F2, g1, g2, ⟨G2, F2, g3, ea ▸ h2, rfl⟩, fa_assoc _ _ _⟩
theorem relTRows_append {sz : Nat} : ∀ {ts us : List (List T)} {o : Nat} {F : FP}, relTRows R w M c sz (ts ++ us) o F ↔ ∃ F1 F2, relTRows R w M c sz ts o F1 ∧ relTRows R w M c sz us (o + ts.length * sz) F2 ∧ F = fa F1 F2
  | [], us, o, F => by
    simp only [List.nil_append, relTRows, List.length_nil, Nat.zero_mul, Nat.add_zero]
    exact ⟨fun h => ⟨fz, F, rfl, h, (z_fa F).symm⟩, fun ⟨F1, F2, h1, h2, h3⟩ => by subst h1; rw [z_fa] at h3; exact h3 ▸ h2⟩
  | t :: ts, us, o, F => by
    simp only [List.cons_append, relTRows, List.length_cons, relTRows_append]
    have ea : o + sz + ts.length * sz = o + (ts.length + 1) * sz := by rw [Nat.succ_mul]; omega
    constructor
    · rintro ⟨F1, F2, h0, h1, ⟨G1, G2, g1, g2, rfl⟩, rfl⟩
      exact ⟨fa F1 G1, G2, ⟨F1, G1, h0, h1, g1, rfl⟩, ea ▸ g2, (fa_assoc _ _ _).symm⟩
    · rintro ⟨F1, F2, ⟨G1, G2, g0, g1, g2, rfl⟩, h2, rfl⟩
      exact ⟨G1, fa G2 F2, g0, g1, ⟨G2, F2, g2, ea ▸ h2, rfl⟩, fa_assoc _ _ _⟩

/-! ### Named objects -/
inductive AObj where
  | dead
  | live (sz : Nat) (rows : List (List T))
def relObj (R : Nat → Prop) (w : World) (M : List Loc) (L : Loc) : AObj → FP → Prop
  | .dead, F => F = fz
  | .live sz rows, F => L.sz = sz ∧ ((rows = [] ∧ L.room = 0 ∧ F = fz) ∨ ∃ c F', Blk w L c ∧ rows.length ≤ L.room ∧ relTRows R w M c L.sz rows L.o F' ∧ F = fa (fd L.b) F')
def relHeap (R : Nat → Prop) (w : World) (M : List Loc) : List AObj → List Loc → FP → Prop
  | [], [], F => F = fz
  | o :: os, L :: Ls, F => ∃ F1 F2, relObj R w M L o F1 ∧ relHeap R w M os Ls F2 ∧ F = fa F1 F2
  | _, _, _ => False
theorem relObj_mono {L : Loc} (hR : ∀ b, R b → R' b) (hM : M <+: M') {o : AObj} {F : FP} (hw : ∀ b, R b ∨ 1 ≤ F b → w'.heap[b]? = w.heap[b]?) (h : relObj R w M L o F) : relObj R' w' M' L o F := by
  cases o with
  | dead => exact h
  | live sz rows =>
    obtain ⟨h0, h⟩ := h
    refine ⟨h0, ?_⟩
    rcases h with h | ⟨c, F', h1, h2, h3, rfl⟩
    · exact .inl h
    · exact .inr ⟨c, F', h1.mono (hw L.b (.inr (by simp [fa, fd]))), h2, relTRows_mono hR hM c L.sz rows L.o F' (fun b hb => hw b (hb.imp_right fun h => by simp only [fa]; omega)) h3, rfl⟩
theorem relHeap_mono (hR : ∀ b, R b → R' b) (hM : M <+: M') : ∀ {H : List AObj} {Ls : List Loc} {F : FP}, (∀ b, R b ∨ 1 ≤ F b → w'.heap[b]? = w.heap[b]?) → relHeap R w M H Ls F → relHeap R' w' M' H Ls F
  | [], [], F, hw, h => h
  | o :: os, L :: Ls, F, hw, h => by
    obtain ⟨F1, F2, h1, h2, rfl⟩ := h
    exact ⟨F1, F2, relObj_mono hR hM (fun b hb => hw b (hb.imp_right fun h => by simp only [fa]; omega)) h1, relHeap_mono hR hM (fun b hb => hw b (hb.imp_right fun h => by simp only [fa]; omega)) h2, rfl⟩
  | [], _ :: _, F, hw, h => h.elim
  | _ :: _, [], F, hw, h => h.elim
theorem relHeap_len : ∀ {H : List AObj} {Ls : List Loc} {F : FP}, relHeap R w M H Ls F → H.length = Ls.length
  | [], [], F, h => rfl
  | o :: os, L :: Ls, F, h => by obtain ⟨F1, F2, h1, h2, rfl⟩ := h; simp [relHeap_len h2]
  | [], _ :: _, F, h => h.elim
  | _ :: _, [], F, h => h.elim
/-- An object taken out and put back. -/
theorem relHeap_get : ∀ {H : List AObj} {Ls : List Loc} {F : FP} {l : Nat} {o : AObj}, relHeap R w M H Ls F → H[l]? = some o →
    ∃ L F1 F2, Ls[l]? = some L ∧ F = fa F1 F2 ∧ relObj R w M L o F1 ∧
      ∀ (R' : Nat → Prop) (w' : World) (M' : List Loc) (o' : AObj) (F1' : FP), (∀ b, R b → R' b) → M <+: M' → (∀ b, R b ∨ 1 ≤ F2 b → w'.heap[b]? = w.heap[b]?) → relObj R' w' M' L o' F1' → relHeap R' w' M' (H.set l o') Ls (fa F1' F2)
  | [], [], F, l, o, h, e => by simp at e
  | o :: os, L :: Ls, F, 0, o', h, e => by
    obtain ⟨F1, F2, h1, h2, rfl⟩ := h
    simp only [List.getElem?_cons_zero, Option.some.injEq] at e
    subst e
    exact ⟨L, F1, F2, rfl, rfl, h1, fun R' w' M' o' F1' hR hM hw h => ⟨F1', F2, h, relHeap_mono hR hM hw h2, rfl⟩⟩
  | o :: os, L :: Ls, F, l + 1, o', h, e => by
    obtain ⟨F1, F2, h1, h2, rfl⟩ := h
    simp only [List.getElem?_cons_succ] at e
    obtain ⟨L', G1, G2, g1, rfl, g3, g4⟩ := relHeap_get h2 e
    refine ⟨L', G1, fa F1 G2, by simpa using g1, by rw [← fa_assoc, fa_comm F1 G1, fa_assoc], g3, fun R' w' M' o' F1' hR hM hw h => ?_⟩
    exact ⟨F1, fa F1' G2, relObj_mono hR hM (fun b hb => hw b (hb.imp_right fun h => by simp only [fa]; omega)) h1, g4 R' w' M' o' F1' hR hM (fun b hb => hw b (hb.imp_right fun h => by simp only [fa]; omega)) h, by rw [← fa_assoc, fa_comm F1' F1, fa_assoc]⟩
  | [], _ :: _, F, l, o, h, e => h.elim
  | _ :: _, [], F, l, o, h, e => h.elim
theorem relHeap_push : ∀ {H : List AObj} {Ls : List Loc} {F F1 : FP} {o : AObj} {L : Loc}, relHeap R w M H Ls F → relObj R w M L o F1 → relHeap R w M (H ++ [o]) (Ls ++ [L]) (fa F F1)
  | [], [], F, F1, o, L, h, h1 => ⟨F1, fz, h1, rfl, by rw [show F = fz from h, z_fa]; rfl⟩
  | o :: os, L :: Ls, F, F1, o', L', h, h1 => by
    obtain ⟨G1, G2, g1, g2, rfl⟩ := h
    exact ⟨G1, fa G2 F1, g1, relHeap_push g2 h1, by rw [fa_assoc]⟩
  | [], _ :: _, F, F1, o, L, h, h1 => h.elim
  | _ :: _, [], F, F1, o, L, h, h1 => h.elim

/-- What is owned is owned once; what is read alone is not owned. -/
structure Good (R : Nat → Prop) (w : World) (F : FP) : Prop where
  one : ∀ b, F b ≤ 1
  own : ∀ b, 1 ≤ F b → ¬ R b ∧ b < w.heap.size
  ro : ∀ b, R b → b < w.heap.size
  inv : Inv R w
theorem Good.le {F F' : FP} (h : Good R w F) (hF : ∀ b, F' b ≤ F b) : Good R w F' :=
  ⟨fun b => Nat.le_trans (hF b) (h.one b), fun b hb => h.own b (Nat.le_trans hb (hF b)), h.ro, h.inv⟩
/-- What a call may change: what was owned. -/
structure Fr (R0 : Nat → Prop) (w0 : World) (F0 : FP) (R : Nat → Prop) (w : World) (F : FP) : Prop where
  os : w.os = w0.os
  tape : w.tape = w0.tape
  output : w.output = w0.output
  size : w0.heap.size ≤ w.heap.size
  same : ∀ b, b < w0.heap.size → F0 b = 0 → w.heap[b]? = w0.heap[b]?
  sub : ∀ b, R0 b → R b
  own : ∀ b, 1 ≤ F b → 1 ≤ F0 b ∨ w0.heap.size ≤ b
  ro : ∀ b, R b → R0 b ∨ 1 ≤ F0 b ∨ w0.heap.size ≤ b
  shape : ∀ (b : Nat) (c : Array Value) (e : TypeId) (q : Nat × Nat), w0.heap[b]? = some (.cells c e q) → ∃ c', w.heap[b]? = some (.cells c' e q) ∧ c'.size = c.size
theorem Fr.refl (R : Nat → Prop) (w : World) (F : FP) : Fr R w F R w F := ⟨rfl, rfl, rfl, Nat.le_refl _, fun _ _ _ => rfl, fun _ h => h, fun _ h => .inl h, fun _ h => .inl h, fun b c e q h => ⟨c, h, rfl⟩⟩
theorem Fr.trans {R0 R1 R2 : Nat → Prop} {w0 w1 w2 : World} {F0 F1 F2 : FP} (h : Fr R0 w0 F0 R1 w1 F1) (k : Fr R1 w1 F1 R2 w2 F2) : Fr R0 w0 F0 R2 w2 F2 where
  os := k.os.trans h.os
  tape := k.tape.trans h.tape
  output := k.output.trans h.output
  size := Nat.le_trans h.size k.size
  same b hb h0 := by
    refine (k.same b (Nat.lt_of_lt_of_le hb h.size) ?_).trans (h.same b hb h0)
    cases hF : F1 b with
    | zero => rfl
    | succ n => rcases h.own b (by omega) with h1 | h1 <;> omega
  sub b hb := k.sub b (h.sub b hb)
  own b hb := by
    rcases k.own b hb with h1 | h1
    · exact h.own b h1
    · exact .inr (Nat.le_trans h.size h1)
  ro b hb := by
    rcases k.ro b hb with h1 | h1 | h1
    · exact h.ro b h1
    · rcases h.own b h1 with h2 | h2
      · exact .inr (.inl h2)
      · exact .inr (.inr h2)
    · exact .inr (.inr (Nat.le_trans h.size h1))
  shape b c e q hb := by
    obtain ⟨c1, h1, h2⟩ := h.shape b c e q hb
    obtain ⟨c2, h3, h4⟩ := k.shape b c1 e q h1
    exact ⟨c2, h3, h4.trans h2⟩
theorem Fr.le {R0 : Nat → Prop} {w0 : World} {F0 F F' : FP} (h : Fr R0 w0 F0 R w F) (hF : ∀ b, F' b ≤ F b) : Fr R0 w0 F0 R w F' :=
  ⟨h.os, h.tape, h.output, h.size, h.same, h.sub, fun b hb => h.own b (Nat.le_trans hb (hF b)), h.ro, h.shape⟩
end Go.Proofs.YtgeoipplkjgnfaaDoor.E
