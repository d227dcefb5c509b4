/- What stands in memory at a type is read as a value of a kind: for parameters that are structs and slices of structs. No condition beside those that stand in each statement. -/
import Derived.Test.YtgeoipplkjgnfaaWWords
import Derived.Deep.Slices
import Derived.ChangeArms
import Derived.DataReads
namespace Go.Proofs.Ytgeoipplkjgnfaa.Lib
open Go.Proofs.YtgeoipplkjgnfaaW.PrintWords

/-- What is read at type t is a value of kind d, of which Q holds. -/
def Opens (P : Program) (t : TypeId) {α : Type} (d : Kd α) (Q : α → Prop) : Prop :=
  ∀ (H : Type) (enc : TypeId × Value → H) (w : World) (base : Nat) (spare : Nat → Bool) (held : Bool) (fuel : Nat) (cs : List Value) (x : DataW H × List MemPlace),
    DataW.trod enc P w base spare held fuel t cs = some x → ∃ y, d.K w y cs ∧ Q y

theorem Opens.int {P : Program} {t : TypeId} {k : IntKind} (hu : P.underlying t = some (.int k)) : Opens P t (Kd.int k) (fun n => (Lit.int k n).wf = true) := by
  intro H enc w base spare held fuel cs x h
  obtain ⟨n, rfl, _, hw⟩ := DataW.trod_int hu h
  exact ⟨n, rfl, hw⟩
theorem Opens.bool {P : Program} {t : TypeId} (hu : P.underlying t = some .bool) : Opens P t Kd.bool (fun _ => True) := by
  intro H enc w base spare held fuel cs x h
  obtain ⟨b, rfl, _⟩ := DataW.trod_bool hu h
  exact ⟨b, rfl, trivial⟩
theorem Opens.string {P : Program} {t : TypeId} (hu : P.underlying t = some .string) : Opens P t Kd.string (fun s => s.size ≤ 9223372036854775807) := by
  intro H enc w base spare held fuel cs x h
  obtain ⟨s, rfl, _, hs⟩ := DataW.trod_string hu h
  exact ⟨s, rfl, by unfold maxLen at hs; omega⟩

theorem Opens.slice {P : Program} {t e : TypeId} {α : Type} [Inhabited α] {d : Kd α} {Q : α → Prop} (e' : Nat) (hu : P.underlying t = some (.slice e)) (hsz : P.cellsOf e = d.sz) (he : Opens P e d Q) :
    Opens P t (Kd.slice e' d) (fun xs => ∀ x ∈ xs, Q x) := by
  intro H enc w base spare held fuel cs x h
  rcases Go.Deep.open_slice hu h with ⟨rfl, _⟩ | ⟨a, len, cap, m, n, D, Pl, rfl, hb, hl, hm, hmm, _, hx⟩
  · exact ⟨[], ⟨none, 0, rfl, Nat.le_refl _, rfl, by simp, fun h => absurd h (by simp)⟩, fun x hx => by simp at hx⟩
  · have hlm : len ≤ m := by rw [hmm]; split <;> omega
    obtain ⟨f, hf⟩ := Go.Deep.choose_lt (α := α) (n := len) (p := fun i y => (∃ c, w.cells? base (a.add (i * d.sz)) d.sz = some c ∧ d.K w y c) ∧ Q y) (fun i hi => by
      obtain ⟨c, h1, h2⟩ := hx i (by omega)
      obtain ⟨y, hy, hq⟩ := he _ _ _ _ _ _ _ _ _ h2
      rw [hsz] at h1
      exact ⟨y, ⟨c, h1, hy⟩, hq⟩)
    refine ⟨(List.range len).map f, ⟨some a, cap, by simp, by simpa using hl, by simp, by simp; unfold maxLen at hm; omega, fun _ => ⟨a, rfl, ?_⟩⟩, ?_⟩
    · intro j p hj
      have hj' : j < len := by
        have := (List.getElem?_eq_some_iff.1 hj).1
        simpa using this
      have hp : p = f j := by
        rw [List.getElem?_map, List.getElem?_range hj'] at hj
        simpa using hj.symm
      subst hp
      obtain ⟨⟨c, h1, h2⟩, _⟩ := hf j hj'
      obtain ⟨_, hlen, hc⟩ := World.cells?_some h1
      refine ⟨c, hlen, h2, fun i u hi => ?_⟩
      have hi' : i < d.sz := by
        have := (List.getElem?_eq_some_iff.1 hi).1
        omega
      rw [← Go.Deep.add_add, hc i hi', hi]
    · intro x hx
      obtain ⟨i, hi, rfl⟩ := List.mem_map.1 hx
      exact (hf i (by simpa using hi)).2

/-- The fields from one on, which lie from an offset on. -/
def OpensFs (P : Program) (off : Nat) (fs : List Field) {β : Type} (d : Kd β) (Q : β → Prop) : Prop :=
  ∀ (H : Type) (enc : TypeId × Value → H) (w : World) (base : Nat) (spare : Nat → Bool) (held : Bool) (fuel : Nat) (cs : List Value),
    cs.length = off + d.sz → (∀ f ∈ fs, ∃ x, DataW.trod enc P w base spare held fuel f.type ((cs.drop f.offset).take (P.cellsOf f.type)) = some x) → ∃ y, d.K w y (cs.drop off) ∧ Q y

theorem OpensFs.one {P : Program} {off : Nat} {f : Field} {β : Type} {d : Kd β} {Q : β → Prop} (ho : f.offset = off) (hsz : P.cellsOf f.type = d.sz) (h : Opens P f.type d Q) : OpensFs P off [f] d Q := by
  intro H enc w base spare held fuel cs hl hx
  obtain ⟨x, h1⟩ := hx f (by simp)
  rw [ho, hsz, List.take_of_length_le (by rw [List.length_drop]; omega)] at h1
  exact h _ _ _ _ _ _ _ _ _ h1
theorem OpensFs.cons {P : Program} {off : Nat} {f : Field} {fs : List Field} {α β : Type} {d : Kd α} {d2 : Kd β} {Q : α → Prop} {Q2 : β → Prop} (ho : f.offset = off) (hsz : P.cellsOf f.type = d.sz) (h : Opens P f.type d Q) (h2 : OpensFs P (off + d.sz) fs d2 Q2) :
    OpensFs P off (f :: fs) (Kd.pair d d2) (fun y => Q y.1 ∧ Q2 y.2) := by
  intro H enc w base spare held fuel cs hl hx
  obtain ⟨x, h1⟩ := hx f (by simp)
  rw [ho, hsz] at h1
  have hl' : cs.length = off + (d.sz + d2.sz) := hl
  obtain ⟨y, hy, hq⟩ := h _ _ _ _ _ _ _ _ _ h1
  obtain ⟨y2, hy2, hq2⟩ := h2 _ _ _ _ _ _ _ _ (by omega) (fun g hg => hx g (by simp [hg]))
  refine ⟨(y, y2), ⟨_, _, ?_, hy, hy2⟩, hq, hq2⟩
  rw [← List.drop_drop, List.take_append_drop]

theorem Opens.struct {P : Program} {t : TypeId} {fs : Array Field} {α β : Type} {d : Kd β} {Q : β → Prop} (hu : P.underlying t = some (.struct fs)) (hsz : P.cellsOf t = d.sz) (f : α → β) (g : β → α) (hg : ∀ y, f (g y) = y) (h : OpensFs P 0 fs.toList d Q) :
    Opens P t (Kd.iso d f) (fun x => Q (f x)) := by
  intro H enc w base spare held fuel cs x hx
  obtain ⟨xs, n, _, _, hl, hlen, hm⟩ := DataW.trod_struct hu hx
  obtain ⟨y, hy, hq⟩ := h H enc w base spare held n cs (by rw [hl, hsz, Nat.zero_add]) (fun f hf => by
    obtain ⟨i, hi⟩ := List.getElem?_of_mem hf
    have h1 := hm i f (by simpa using hi)
    have hi' : i < xs.length := by
      have := (List.getElem?_eq_some_iff.1 hi).1
      rw [hlen]
      simpa using this
    exact ⟨xs[i], by rw [h1, List.getElem?_eq_getElem hi']⟩)
  refine ⟨g y, ?_, ?_⟩
  · show d.K w (f (g y)) cs
    rw [hg]
    simpa using hy
  · show Q (f (g y))
    rw [hg]
    exact hq
end Go.Proofs.Ytgeoipplkjgnfaa.Lib
