/- From what stands in memory at a type to what the contracts speak of. No condition beside those that stand in each statement. -/
import Derived.Test.YtgeoipplkjgnfaaDoorEng27
import Derived.Deep.Slices
import Derived.ChangeArms
import Derived.DataReads
import Derived.Below
set_option linter.unusedVariables false
set_option linter.unusedSimpArgs false
namespace Go.Proofs.YtgeoipplkjgnfaaDoor.E
theorem relDRow_append {R : Nat → Prop} {w : World} {c : Array Value} : ∀ {xs ys : List D} {o : Nat}, relDRow R w c xs o → relDRow R w c ys (o + xs.length) → relDRow R w c (xs ++ ys) o
  | [], ys, o, _, h => by simpa using h
  | x :: xs, ys, o, h1, h2 => by
    simp only [List.cons_append, relDRow] at h1 ⊢
    exact ⟨h1.1, relDRow_append h1.2 (by rw [List.length_cons] at h2; rw [show o + 1 + xs.length = o + (xs.length + 1) by omega]; exact h2)⟩
/-- What is read at type t is, cell for cell, what f tells of some y of which Q holds. -/
def OpD (P : Program) (t : TypeId) {α : Type} (f : α → List D) (Q : α → Prop) : Prop :=
  ∀ (H : Type) (enc : TypeId × Value → H) (w : World) (base : Nat) (spare : Nat → Bool) (held : Bool) (fuel : Nat) (cs : List Value) (x : DataW H × List MemPlace),
    DataW.trod enc P w base spare held fuel t cs = some x → ∃ y, Q y ∧ cs.length = (f y).length ∧ ∀ (c : Array Value) (o : Nat), (∀ j, j < cs.length → c[o + j]? = cs[j]?) → relDRow (fun b => b < w.heap.size) w c (f y) o
variable {P : Program} {t e : TypeId}
theorem OpD.int {k : IntKind} (hu : P.underlying t = some (.int k)) : OpD P t (fun n : Int => [.v (.int k n)]) (fun n => (Lit.int k n).wf = true) := by
  intro H enc w base spare held fuel cs x h
  obtain ⟨n, rfl, _, hw⟩ := DataW.trod_int hu h
  refine ⟨n, hw, rfl, fun c o hc => ⟨⟨_, by simpa using hc 0 (by simp), rfl, rfl⟩, trivial⟩⟩
theorem OpD.bool (hu : P.underlying t = some .bool) : OpD P t (fun b : Bool => [.v (.bool b)]) (fun _ => True) := by
  intro H enc w base spare held fuel cs x h
  obtain ⟨n, rfl, _⟩ := DataW.trod_bool hu h
  refine ⟨n, trivial, rfl, fun c o hc => ⟨⟨_, by simpa using hc 0 (by simp), rfl, rfl⟩, trivial⟩⟩
theorem OpD.string (hu : P.underlying t = some .string) : OpD P t (fun s : ByteArray => [.v (.string s)]) (fun s => s.size ≤ maxLen) := by
  intro H enc w base spare held fuel cs x h
  obtain ⟨s, rfl, _, hs⟩ := DataW.trod_string hu h
  refine ⟨s, hs, rfl, fun c o hc => ⟨⟨_, by simpa using hc 0 (by simp), rfl, rfl⟩, trivial⟩⟩
theorem cell_raw {w : World} {a : Addr} {v : Value} (h : w.cell? a = some v) : a.spot = none ∧ ∃ c e q, w.heap[a.block]? = some (.cells c e q) ∧ c[a.off]? = some v := by
  unfold World.cell? at h
  split at h
  · rename_i c e q hb
    split at h
    · cases h
    · rename_i hs
      refine ⟨by cases hh : a.spot <;> simp_all, c, e, q, hb, h⟩
  · cases h
theorem add_block (a : Addr) (n : Nat) : (a.add n).block = a.block ∧ (a.add n).off = a.off + n := by
  unfold Addr.add; split <;> simp_all
theorem rows_of {α : Type} {g : α → List D} {R : Nat → Prop} {w : World} {c : Array Value} {sz : Nat} : ∀ (xs : List α) (o : Nat), (∀ j (x : α), xs[j]? = some x → (g x).length = sz ∧ relDRow R w c (g x) (o + j * sz)) → relDRows R w c sz (xs.map g) o
  | [], o, h => by simp [relDRows]
  | x :: xs, o, h => by
    simp only [List.map_cons, relDRows]
    have h0 := h 0 x rfl
    refine ⟨h0.1, by simpa using h0.2, rows_of xs (o + sz) fun j y hj => ?_⟩
    have := h (j + 1) y (by simpa using hj)
    refine ⟨this.1, ?_⟩
    rw [show o + sz + j * sz = o + (j + 1) * sz by rw [Nat.succ_mul]; omega]
    exact this.2
theorem OpD.slice {α : Type} [Inhabited α] {g : α → List D} {Q : α → Prop} (sz : Nat) (hu : P.underlying t = some (.slice e)) (hsz : P.cellsOf e = sz) (h1 : 1 ≤ sz) (he : OpD P e g Q) (hl : ∀ y, (g y).length = sz) :
    OpD P t (fun xs : List α => [.l sz (xs.map g)]) (fun xs => xs.length ≤ maxLen ∧ ∀ x ∈ xs, Q x) := by
  intro H enc w base spare held fuel cs x h
  rcases Go.Deep.open_slice hu h with ⟨rfl, _⟩ | ⟨a, len, cap, m, n, D, Pl, rfl, hb, hlc, hm, hmm, _, hx⟩
  · exact ⟨[], ⟨by simp, by simp⟩, rfl, fun c o hc => ⟨⟨_, by simpa using hc 0 (by simp), none, 0, rfl, by simp, .inl rfl⟩, trivial⟩⟩
  · have hlm : len ≤ m := by rw [hmm]; split <;> omega
    obtain ⟨f, hf⟩ := Go.Deep.choose_lt (α := α) (n := len) (p := fun i y => Q y ∧ ∃ c', w.cells? base (a.add (i * sz)) sz = some c' ∧ c'.length = sz ∧ ∀ (c : Array Value) (o : Nat), (∀ j, j < c'.length → c[o + j]? = c'[j]?) → relDRow (fun b => b < w.heap.size) w c (g y) o) (fun i hi => by
      obtain ⟨c', h1, h2⟩ := hx i (by omega)
      obtain ⟨y, hq, hlen, hrel⟩ := he _ _ _ _ _ _ _ _ _ h2
      rw [hsz] at h1
      exact ⟨y, hq, c', h1, by rw [hlen, hl], hrel⟩)
    refine ⟨(List.range len).map f, ⟨by simp; omega, fun x hx => ?_⟩, rfl, fun c o hc => ⟨⟨_, by simpa using hc 0 (by simp), some a, cap, by simp, by simpa using hlc, ?_⟩, trivial⟩⟩
    · obtain ⟨i, hi, rfl⟩ := List.mem_map.1 hx
      exact (hf i (by simpa using hi)).1
    · by_cases h0 : len = 0
      · left; simp [h0]
      · right
        obtain ⟨-, c0, hc0, hl0, -⟩ := hf 0 (by omega)
        obtain ⟨-, -, hcell⟩ := World.cells?_some hc0
        have hne : ∃ v, c0[0]? = some v := ⟨c0[0]'(by omega), List.getElem?_eq_getElem (by omega)⟩
        obtain ⟨v0, hv0⟩ := hne
        have c00 := (hcell 0 (by omega)).trans hv0
        rw [show (a.add (0 * sz)).add 0 = a by simp [Addr.add]] at c00
        obtain ⟨hs, cc, e', q, hbk, -⟩ := cell_raw c00
        refine ⟨a.block, a.off, cc, e', q, by cases a; simp_all, (Array.getElem?_eq_some_iff.1 hbk).1, hbk, rows_of _ _ fun j y hj => ⟨hl y, ?_⟩⟩
        have hj' : j < len := by
          have := (List.getElem?_eq_some_iff.1 hj).1
          simpa using this
        have hy : y = f j := by
          rw [List.getElem?_map, List.getElem?_range hj'] at hj
          simpa using hj.symm
        subst hy
        obtain ⟨-, cj, hcj, hlj, hrel⟩ := hf j hj'
        obtain ⟨-, -, hcell⟩ := World.cells?_some hcj
        refine hrel cc _ fun i hi => ?_
        have hv : cj[i]? = some cj[i] := List.getElem?_eq_getElem hi
        have ci := (hcell i (by omega)).trans hv
        obtain ⟨-, c2, e2, q2, hb2, hc2⟩ := cell_raw ci
        rw [(add_block _ _).1, (add_block _ _).1, hbk] at hb2
        simp only [Option.some.injEq, Obj.cells.injEq] at hb2
        rw [(add_block _ _).2, (add_block _ _).2, ← hb2.1] at hc2
        rw [hv]; exact hc2
/-- The fields from one on, which lie from an offset on. -/
def OpDs (P : Program) (off : Nat) (fs : List Field) {β : Type} (f : β → List D) (Q : β → Prop) : Prop :=
  ∀ (H : Type) (enc : TypeId × Value → H) (w : World) (base : Nat) (spare : Nat → Bool) (held : Bool) (fuel : Nat) (cs : List Value),
    (∀ g ∈ fs, ∃ x, DataW.trod enc P w base spare held fuel g.type ((cs.drop g.offset).take (P.cellsOf g.type)) = some x) →
    ∃ y, Q y ∧ off + (f y).length ≤ cs.length ∧ ∀ (c : Array Value) (o : Nat), (∀ j, j < cs.length → c[o + j]? = cs[j]?) → relDRow (fun b => b < w.heap.size) w c (f y) (o + off)
theorem OpDs.nil {off : Nat} : OpDs P off [] (fun _ : Unit => []) (fun _ => True) → True := fun _ => trivial
theorem OpDs.one {off : Nat} {g : Field} {β : Type} {f : β → List D} {Q : β → Prop} (ho : g.offset = off) (hsz : ∀ y, 1 ≤ (f y).length) (h : OpD P g.type f Q) : OpDs P off [g] f Q := by
  intro H enc w base spare held fuel cs hx
  obtain ⟨x, h1⟩ := hx g (by simp)
  obtain ⟨y, hq, hl, hr⟩ := h _ _ _ _ _ _ _ _ _ h1
  rw [ho] at hl h1 hr
  have hle := hl
  rw [List.length_take, List.length_drop] at hle
  have := hsz y
  refine ⟨y, hq, by omega, fun c o hc => hr c (o + off) fun j hj => ?_⟩
  rw [hl] at hj
  have := hc (off + j) (by omega)
  rw [Nat.add_assoc, this, List.getElem?_take_of_lt (by omega), List.getElem?_drop]
theorem OpDs.cons {off k : Nat} {g : Field} {fs : List Field} {α β : Type} {f : α → List D} {f2 : β → List D} {Q : α → Prop} {Q2 : β → Prop} (ho : g.offset = off) (hsz : ∀ y, (f y).length = k) (h1k : 1 ≤ k) (h : OpD P g.type f Q) (h2 : OpDs P (off + k) fs f2 Q2) :
    OpDs P off (g :: fs) (fun y : α × β => f y.1 ++ f2 y.2) (fun y => Q y.1 ∧ Q2 y.2) := by
  intro H enc w base spare held fuel cs hx
  obtain ⟨y1, q1, hl1, hr1⟩ := OpDs.one ho (fun y => by rw [hsz]; exact h1k) h _ _ _ _ _ _ _ _ (fun f' hf' => hx f' (by simp at hf'; simp [hf']))
  obtain ⟨y2, q2, hl2, hr2⟩ := h2 _ _ _ _ _ _ _ _ (fun f' hf' => hx f' (by simp [hf']))
  refine ⟨(y1, y2), ⟨q1, q2⟩, by simp only [List.length_append]; rw [hsz]; omega, fun c o hc => relDRow_append (hr1 c o hc) ?_⟩
  simp only [hsz]
  rw [Nat.add_assoc]; exact hr2 c o hc
theorem OpDs.oneT {off : Nat} {g : Field} {t' : TypeId} {β : Type} {f : β → List D} {Q : β → Prop} (h : OpD P t' f Q) (hsz : ∀ y, 1 ≤ (f y).length) (hty : g.type = t') (ho : g.offset = off) : OpDs P off [g] f Q := by
  subst hty; exact OpDs.one ho hsz h
theorem OpDs.consT {off : Nat} {g : Field} {fs : List Field} {t' : TypeId} {α β : Type} {f : α → List D} {f2 : β → List D} {Q : α → Prop} {Q2 : β → Prop} (k : Nat) (h : OpD P t' f Q) (hsz : ∀ y, (f y).length = k) (h1k : 1 ≤ k) (h2 : OpDs P (off + k) fs f2 Q2) (hty : g.type = t') (ho : g.offset = off) :
    OpDs P off (g :: fs) (fun y : α × β => f y.1 ++ f2 y.2) (fun y => Q y.1 ∧ Q2 y.2) := by
  subst hty; exact OpDs.cons ho hsz h1k h h2
theorem OpD.struct {fs : Array Field} {α β : Type} {f : α → List D} {f2 : β → List D} {Q : α → Prop} {Q2 : β → Prop} (g : β → α) (hu : P.underlying t = some (.struct fs)) (hg : ∀ y, f (g y) = f2 y) (hl : ∀ y, (f y).length = P.cellsOf t) (h : OpDs P 0 fs.toList f2 Q2) (hq : ∀ y, Q2 y → Q (g y)) : OpD P t f Q := by
  intro H enc w base spare held fuel cs x hx
  obtain ⟨xs, n, _, _, hlen0, hlen, hm⟩ := DataW.trod_struct hu hx
  obtain ⟨y, hy, hle, hr⟩ := h H enc w base spare held n cs (fun f hf => by
    obtain ⟨i, hi⟩ := List.getElem?_of_mem hf
    have h1 := hm i f (by simpa using hi)
    have hi' : i < xs.length := by
      have := (List.getElem?_eq_some_iff.1 hi).1
      rw [hlen]
      simpa using this
    exact ⟨xs[i], by rw [h1, List.getElem?_eq_getElem hi']⟩)
  refine ⟨g y, hq y hy, by rw [hl]; exact hlen0, fun c o hc => ?_⟩
  rw [hg]; simpa using hr c o hc
/-- What is read alone, as_ an argument. -/
theorem relD_ofD {R : Nat → Prop} {w : World} {M : List Loc} {d : D} {u : Value} (h : relD R w d u) : relT R w M (ofD d) u fz := by
  cases d with
  | v x => simp only [relD] at h; simp only [ofD, relT]; exact ⟨h.1, h.2, by trivial⟩
  | l sz rows => simp only [ofD, relT]; exact ⟨h, by trivial⟩
theorem relD_row {R : Nat → Prop} {w : World} {M : List Loc} {c : Array Value} : ∀ {ds : List D} {o : Nat}, relDRow R w c ds o → relTRow R w M c (ds.map ofD) o fz
  | [], o, h => rfl
  | d :: ds, o, h => by
    obtain ⟨⟨u, h1, h2⟩, h3⟩ := h
    exact ⟨u, fz, fz, h1, relD_ofD h2, relD_row h3, rfl⟩
theorem OpD.agg {α : Type} {f : α → List D} {Q : α → Prop} (h : OpD P t f Q) {H : Type} {enc : TypeId × Value → H} {w : World} {base : Nat} {spare : Nat → Bool} {held : Bool} {fuel : Nat} {cs : Array Value} {x : DataW H × List MemPlace}
    (hx : DataW.trod enc P w base spare held fuel t cs.toList = some x) : ∃ y, Q y ∧ relA1 (fun b => b < w.heap.size) w [] (.agg ((f y).map ofD)) (.agg cs) fz := by
  obtain ⟨y, hq, hl, hr⟩ := h _ _ _ _ _ _ _ _ _ hx
  refine ⟨y, hq, cs, rfl, by simpa using hl, relD_row (hr cs 0 fun j hj => by simp)⟩
end Go.Proofs.YtgeoipplkjgnfaaDoor.E
