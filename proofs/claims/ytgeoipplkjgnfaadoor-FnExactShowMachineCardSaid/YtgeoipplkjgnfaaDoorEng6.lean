/- The abstract memory: struct and list literals, places, parts of lists. No condition beside those that stand in each statement. -/
import Derived.Test.YtgeoipplkjgnfaaDoorEng5
import Derived.Laws.Tables
import Derived.Great.BuildSlice
import Derived.Laws.IdiomStrings
import Derived.Laws.Slices
import Derived.Laws.AppendOwn
import Derived.ArgAppend
set_option linter.unusedVariables false
set_option linter.unusedSimpArgs false
namespace Go.Proofs.YtgeoipplkjgnfaaDoor.E
variable {P : Program} {R R' : Nat → Prop} {w w' : World} {M M' : List Loc} {c : Array Value}

/-! ### A row laid into a row -/
def lay (c : Array Value) (off : Nat) (vs : List Value) : Array Value := vs.zipIdx.foldl (fun cs (x : Value × Nat) => cs.setIfInBounds (off + x.2) x.1) c
theorem lay_go : ∀ (vs : List Value) (n off : Nat) (c : Array Value), ((vs.zipIdx n).foldl (fun cs (x : Value × Nat) => cs.setIfInBounds (off + x.2) x.1) c).size = c.size ∧
    (∀ j, j < vs.length → off + n + vs.length ≤ c.size → ((vs.zipIdx n).foldl (fun cs (x : Value × Nat) => cs.setIfInBounds (off + x.2) x.1) c)[off + n + j]? = vs[j]?) ∧
    ∀ k, k < off + n ∨ off + n + vs.length ≤ k → ((vs.zipIdx n).foldl (fun cs (x : Value × Nat) => cs.setIfInBounds (off + x.2) x.1) c)[k]? = c[k]?
  | [], n, off, c => ⟨rfl, fun j hj => by simp at hj, fun _ _ => rfl⟩
  | v :: vs, n, off, c => by
    obtain ⟨h1, h2, h3⟩ := lay_go vs (n + 1) off (c.setIfInBounds (off + n) v)
    simp only [List.zipIdx_cons, List.foldl_cons]
    refine ⟨by rw [h1]; simp, fun j hj hs => ?_, fun k hk => ?_⟩
    · simp only [List.length_cons] at hj hs
      cases j with
      | zero =>
        refine (h3 (off + n) (.inl (by omega))).trans ?_
        have hlt : off + n < c.size := by omega
        simp [hlt]
      | succ j =>
        have := h2 j (by omega) (by simp; omega)
        rw [show off + n + (j + 1) = off + (n + 1) + j by omega, this]
        simp
    · rw [h3 k (by simp at hk; omega), Array.getElem?_setIfInBounds_ne (by simp at hk; omega)]
theorem lay_eq (c : Array Value) (off : Nat) (v : Value) : v.cells.zipIdx.foldl (fun cs (x : Value × Nat) => cs.setIfInBounds (off + x.2) x.1) c = lay c off v.cells.toList := by
  unfold lay
  rw [← Array.foldl_toList, Array.toList_zipIdx]
theorem lay_rel {row ts : List T} {off : Nat} {vs : List Value} (hr : relTRow R w M c row 0 fz) (hlen : c.size = row.length) (hts : relTRow R w M vs.toArray ts 0 fz) (hl : vs.length = ts.length) (ho : off + ts.length ≤ row.length) :
    relTRow R w M (lay c off vs) (splice row off ts) 0 fz ∧ (lay c off vs).size = (splice row off ts).length := by
  obtain ⟨h1, h2, h3⟩ := lay_go vs 0 off c
  simp only [Nat.add_zero] at h1 h2 h3
  have hsplit : row = row.take off ++ (((row.drop off).take ts.length) ++ row.drop (off + ts.length)) := by
    rw [← List.drop_drop, List.take_append_drop, List.take_append_drop]
  rw [hsplit, relTRow_append] at hr
  obtain ⟨Fa, Fb, ha, hb, he⟩ := hr
  rw [relTRow_append] at hb
  obtain ⟨Fs, Fc, hs, hc, rfl⟩ := hb
  have hz : ∀ x, Fa x = 0 ∧ Fc x = 0 := fun x => by
    have := congrFun he x
    simp only [fz, fa] at this
    omega
  have hFa : Fa = fz := funext fun x => (hz x).1
  have hFc : Fc = fz := funext fun x => (hz x).2
  subst hFa hFc
  have htk : (row.take off).length = off := by simp; omega
  have hseg : ((row.drop off).take ts.length).length = ts.length := by simp; omega
  rw [htk] at hc hs
  rw [hseg] at hc
  refine ⟨?_, by unfold lay; rw [h1, hlen]; simp [splice]; omega⟩
  unfold splice lay
  rw [List.append_assoc, relTRow_append, htk]
  refine ⟨fz, fz, relTRow_same (fun k _ hk => h3 k (.inl (by rw [htk] at hk; omega))) ha, ?_, rfl⟩
  rw [relTRow_append]
  refine ⟨fz, fz, relTRow_shift (fun k hk => ?_) hts, relTRow_same (fun k hk _ => h3 k (.inr (by omega))) hc, rfl⟩
  have := h2 k (by omega) (by omega)
  rw [Nat.zero_add, this, Nat.zero_add]
  simp

/-! ### Struct literals -/
def relParts (R : Nat → Prop) (w : World) (M : List Loc) : List (Nat × A1) → List (Nat × Value) → Prop
  | [], [] => True
  | (k, x) :: r, (j, v) :: s => k = j ∧ relA1 R w M x v fz ∧ relParts R w M r s
  | _, _ => False
theorem fill_rel {fs : List (Nat × Nat × Bool)} {place : Nat → Option (Nat × Nat)} (hp : ∀ k, place k = (fs[k]?).map fun x => (x.1, x.2.1)) : ∀ {parts : List (Nat × A1)} {vs : List (Nat × Value)} {row row' : List T} {c : Array Value},
    relParts R w M parts vs → fillA fs row parts = some row' → relTRow R w M c row 0 fz → c.size = row.length → ∃ c', Instr.fill place c vs = some c' ∧ relTRow R w M c' row' 0 fz ∧ c'.size = row'.length
  | [], [], row, row', c, hv, h, hr, hl => by
    simp only [fillA, Option.some.injEq] at h
    subst h
    exact ⟨c, rfl, hr, hl⟩
  | (k, x) :: parts, (j, v) :: vs, row, row', c, hv, h, hr, hl => by
    obtain ⟨rfl, hx, hrest⟩ := hv
    simp only [fillA] at h
    split at h
    · rename_i off sz ag ts hk hts
      split at h
      · rename_i hc
        obtain ⟨rfl, hle⟩ := hc
        obtain ⟨q1, q2, -⟩ := cells1_rel hts hx
        obtain ⟨g1, g2⟩ := lay_rel (vs := v.cells.toList) hr hl (by simpa using q2) (by simpa using q1) hle
        obtain ⟨c', f1, f2, f3⟩ := fill_rel hp hrest h g1 g2
        refine ⟨c', ?_, f2, f3⟩
        simp only [Instr.fill, hp, hk, Option.map_some]
        rw [if_neg (by simp [q1]; omega)]
        rw [← f1, ← lay_eq]
      · simp at h
    · simp at h
  | [], _ :: _, row, row', c, hv, h, hr, hl => hv.elim
  | _ :: _, [], row, row', c, hv, h, hr, hl => hv.elim
theorem scal_row : ∀ {zs : List Value} {o : Nat} {c : Array Value}, zs.all scal = true → (∀ j, j < zs.length → c[o + j]? = zs[j]?) → relTRow R w M c (zs.map T.v) o fz
  | [], o, c, h, hc => by simp [relTRow]
  | z :: zs, o, c, h, hc => by
    simp only [List.all_cons, Bool.and_eq_true] at h
    simp only [List.map_cons, relTRow]
    refine ⟨z, fz, fz, by have := hc 0 (by simp); simpa using this, by simp [relT, h.1], scal_row h.2 (fun j hj => ?_), rfl⟩
    have := hc (j + 1) (by simp; omega)
    rw [show o + 1 + j = o + (j + 1) by omega, this]
    simp
theorem zero_rel {zs : List Value} (h : zs.all scal = true) : relTRow R w M zs.toArray (zs.map T.v) 0 fz := scal_row h (fun j hj => by simp)
theorem fieldInfo_some {f : Field} {y : Nat × Nat × Bool} (h : fieldInfo P f = some y) : ∃ i d, P.info? f.type = some i ∧ P.underlying f.type = some d ∧ y = (f.offset, i.size, aggB P f.type) := by
  unfold fieldInfo at h
  split at h
  · rename_i i d hi hd
    simp only [Option.some.injEq] at h
    exact ⟨i, d, hi, hd, h.symm⟩
  · simp at h
theorem places_of {l : List Field} {r : List (Nat × Nat × Bool)} (h : l.mapM (fieldInfo P) = some r) :
    l.mapM (fun f => (P.info? f.type).map fun i => (f.offset, i.size)) = some (r.map fun x => (x.1, x.2.1)) := by
  induction l generalizing r with
  | nil => simp at h; subst h; rfl
  | cons f l ih =>
    simp only [List.mapM_cons, Option.bind_eq_bind, Option.pure_def] at h ⊢
    cases hi : fieldInfo P f with
    | none => simp [hi] at h
    | some y =>
      cases hr : l.mapM (fieldInfo P) with
      | none => simp [hi, hr] at h
      | some rest =>
        simp [hi, hr] at h
        subst h
        obtain ⟨i, d, h1, h2, rfl⟩ := fieldInfo_some hi
        simp [ih hr, h1]
theorem doBuild_sound {t : TypeId} {i : TI} (ht : ti P t = some i) {fs : List (Nat × Nat × Bool)} (hk : i.k = .st fs) (hz : i.zero.all scal = true) {parts : List (Nat × A1)} {vs : Array (Nat × Value)} (hv : relParts R w M parts vs.toList) {row : List T} (h : fillA fs (i.zero.map T.v) parts = some row) :
    ∃ v, (Instr.build t vs).run P w = .ok v w ∧ relA1 R w M (.agg row) v fz := by
  obtain ⟨d, j, z, hd, hj, hz', hkk, hs, hb, ha, hzz⟩ := ti_some ht
  rw [hkk] at hk
  cases d <;> simp only [kindOf] at hk <;> try (simp at hk; done)
  rename_i fields
  split at hk
  · rename_i l hl
    simp only [TK.st.injEq] at hk
    subst hk
    have hpl := places_of hl
    obtain ⟨c', f1, f2, f3⟩ := fill_rel (c := z.cells) (place := fun k => ((l.map fun x => (x.1, x.2.1)).toArray)[k]?) (fun k => by simp) hv h (by
      have := zero_rel (R := R) (w := w) (M := M) hz
      rw [hzz] at this ⊢
      simpa using this) (by rw [hzz]; simp)
    refine ⟨.agg c', run_build w t vs c' ?_, c', rfl, f3, f2⟩
    unfold Program.built
    simp only [hj, hd, hz', hpl]
    exact f1
  · simp at hk

/-! ### List literals -/
theorem rowsA_len {size : Nat} : ∀ {n : Nat} {parts : List (Nat × A1)} {rows : List (List T)}, rowsA size n parts = some rows → rows.length = parts.length
  | n, [], rows, h => by simp only [rowsA, Option.some.injEq] at h; subst h; rfl
  | n, (k, x) :: rest, rows, h => by
    simp only [rowsA] at h
    split at h
    · rename_i ts r h1 h2
      split at h
      · simp only [Option.some.injEq] at h
        subst h
        simp [rowsA_len h2]
      · simp at h
    · simp at h
theorem rowsA_rel {size : Nat} : ∀ {parts : List (Nat × A1)} {vs : List (Nat × Value)} {rows : List (List T)} {n : Nat} {c : Array Value},
    relParts R w M parts vs → rowsA size n parts = some rows → (n + rows.length) * size ≤ c.size → ∃ c', Instr.fill (fun i => some (i * size, size)) c vs = some c' ∧ c'.size = c.size ∧ (∀ k, k < n * size → c'[k]? = c[k]?) ∧ relTRows R w M c' size rows (n * size) fz
  | [], [], rows, n, c, hv, h, hc => by
    simp only [rowsA, Option.some.injEq] at h
    subst h
    exact ⟨c, rfl, rfl, fun _ _ => rfl, by simp [relTRows]⟩
  | (k, x) :: parts, (j, v) :: vs, rows, n, c, hv, h, hc => by
    obtain ⟨rfl, hx, hrest⟩ := hv
    simp only [rowsA] at h
    split at h
    · rename_i ts r hts hr
      split at h
      · rename_i hk
        obtain ⟨rfl, hl⟩ := hk
        simp only [Option.some.injEq] at h
        subst h
        obtain ⟨q1, q2, -⟩ := cells1_rel hts hx
        obtain ⟨g1, g2, g3⟩ := lay_go v.cells.toList 0 (k * size) c
        simp only [Nat.add_zero, Array.length_toList, q1, hl] at g1 g2 g3
        have hc2 : k * size + size + r.length * size ≤ c.size := by
          rw [List.length_cons, Nat.add_mul, Nat.succ_mul] at hc
          omega
        obtain ⟨c', f1, f2, f3, f4⟩ := rowsA_rel (c := lay c (k * size) v.cells.toList) hrest hr (by
          unfold lay
          rw [g1, Nat.add_mul, Nat.succ_mul]
          omega)
        unfold lay at f2
        refine ⟨c', ?_, by rw [f2, g1], fun i hi => ?_, ?_⟩
        · simp only [Instr.fill]
          rw [if_neg (by simp [q1, hl]; omega), lay_eq]
          exact f1
        · rw [f3 i (by rw [Nat.succ_mul]; omega)]
          unfold lay
          exact g3 i (.inl hi)
        · simp only [relTRows]
          rw [show k * size + size = (k + 1) * size by rw [Nat.succ_mul]]
          refine ⟨fz, fz, hl, relTRow_shift (fun i hi => ?_) q2, f4, rfl⟩
          rw [f3 (k * size + i) (by rw [Nat.succ_mul]; omega)]
          unfold lay
          have := g2 i (by omega) (by omega)
          rw [this, Nat.zero_add]
          simp
      · simp at h
    · simp at h
  | [], _ :: _, rows, n, c, hv, h, hc => hv.elim
  | _ :: _, [], rows, n, c, hv, h, hc => hv.elim
end Go.Proofs.YtgeoipplkjgnfaaDoor.E
