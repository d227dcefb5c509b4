/- Words for the walks of this seat: a fact set aside, slices and structs that are read, what a call leaves. No condition beside those that stand in each statement. -/
import Derived.Test.YtgeoipplkjgnfaaProg
import Derived.Test.YtgeoipplkjgnfaaWWords
namespace Go.Proofs.Ytgeoipplkjgnfaa.Lib
open Go.RowKit Go.Proofs.YtgeoipplkjgnfaaW.PrintWords

/-- A slice value that is read as a list. -/
def SK {α : Type} (d : Kd α) (w : World) (xs : List α) (v : Value) : Prop := ∃ A c, v = .slice A xs.length c ∧ xs.length ≤ c ∧ d.C w A xs.length xs
theorem SK.of {α : Type} {d : Kd α} {e : Nat} {w : World} {xs : List α} {v : Value} (h : (Kd.slice e d).K w xs [v]) : SK d w xs v := by
  obtain ⟨A, c, h0, h1, h2⟩ := h
  exact ⟨A, c, by simpa using h0, h1, h2⟩
theorem SK.to {α : Type} {d : Kd α} {w : World} {xs : List α} {v : Value} (e : Nat) (h : SK d w xs v) : (Kd.slice e d).K w xs [v] := by
  obtain ⟨A, c, rfl, h1, h2⟩ := h
  exact ⟨A, c, rfl, h1, h2⟩
theorem SK.below {α : Type} {d : Kd α} {w w' : World} {xs : List α} {v : Value} (h : SK d w xs v) (hb : Below w.heap.size w w') : SK d w' xs v := by
  obtain ⟨A, c, rfl, h1, h2⟩ := h
  exact ⟨A, c, rfl, h1, Kd.C_below h2 hb⟩

theorem bcell {W w1 : World} (hb : Below W.heap.size W w1) : (∀ b o, b < W.heap.size → w1.cell? ⟨b, o, none⟩ = W.cell? ⟨b, o, none⟩) ∧ (∀ b o, b < W.heap.size → w1.frozen? ⟨b, o, none⟩ = W.frozen? ⟨b, o, none⟩) :=
  ⟨fun b o h => hb.cell (p := ⟨b, o, none⟩) h, fun b o h => hb.frozen (p := ⟨b, o, none⟩) h⟩
theorem bstep {w W W' : World} (h : Below w.heap.size w W) (h' : Below W.heap.size W W') : Below w.heap.size w W' := below_then h h.size h'

/-- A size is told: at most what was left; if it is not below 0, what it is of is small. -/
def SzPost (left : Int) (S : Prop) (w : World) (e : Ending) (w' : World) : Prop := ∃ r : Int, e = .returned (.int .i64 r) ∧ (-1 ≤ r ∧ r ≤ left ∧ (0 ≤ r → S)) ∧ Below w.heap.size w w'

/-- What lies between a block and the heap's end is as it was. -/
structure Kept (lo : Nat) (w w' : World) : Prop where
  size : w.heap.size ≤ w'.heap.size
  block : ∀ k, lo ≤ k → k < w.heap.size → w'.heap[k]? = w.heap[k]?
theorem Kept.refl (lo : Nat) (w : World) : Kept lo w w := ⟨Nat.le_refl _, fun _ _ _ => rfl⟩
theorem Kept.below {lo : Nat} {w W w' : World} (h : Kept lo w W) (hb : Below W.heap.size W w') : Kept lo w w' :=
  ⟨Nat.le_trans h.size hb.size, fun k h1 h2 => (hb.block k (Nat.lt_of_lt_of_le h2 h.size)).trans (h.block k h1 h2)⟩
theorem Kept.alloc {lo : Nat} {w W : World} (h : Kept lo w W) (o : Obj) : Kept lo w (W.alloc o) := h.below (below_alloc (Below.refl _ _) o)
theorem Kept.set {lo : Nat} {w W : World} (h : Kept lo w W) {p : Addr} (hp : p.block < lo) (u : Value) : Kept lo w (W.setCell p u) :=
  ⟨by rw [World.size_setCell]; exact h.size, fun k h1 h2 => (Below.heap_setCell W p u k (by omega)).trans (h.block k h1 h2)⟩
theorem Kept.drew {lo : Nat} {w W : World} (h : Kept lo w W) : Kept lo w W.drew := ⟨h.size, h.block⟩
theorem R_kept {α : Type} {d : Kd α} {e lo base : Nat} {ok : Nat → Prop} {w w' : World} {v : Value} {xs : List α} (h : d.R e w base ok v xs) (hl : lo ≤ base) (hk : Kept lo w w') : d.R e w' base ok v xs :=
  Kd.R_mono (Kd.R_move (Kd.R_bound h) (fun k h1 => hk.block k (by omega) h1.2.2.1)) (fun _ h => h.1)
theorem M_kept {α : Type} {d : Kd α} {lo base : Nat} {ok : Nat → Prop} {w w' : World} {x : α} {cs : List Value} (h : d.M w base ok x cs) (hl : lo ≤ base) (hk : Kept lo w w') : d.M w' base ok x cs :=
  d.M_mono (fun _ h => h.1) (d.M_move (fun k h1 => hk.block k (by omega) h1.2.2.1) (d.M_bound h))

theorem fill_set {α : Type} (xs : List α) (z : α) (k : Nat) (hk : k < xs.length) : (xs.take k ++ List.replicate (xs.length - k) z).set k xs[k] = xs.take (k + 1) ++ List.replicate (xs.length - (k + 1)) z := by
  have h1 : (xs.take k).length = k := by rw [List.length_take]; omega
  have h2 : xs.length - k = (xs.length - (k + 1)) + 1 := by omega
  rw [h2, List.replicate_succ, List.set_append_right _ _ (by omega), h1, Nat.sub_self, List.set_cons_zero]
  have e : xs.take (k + 1) = xs.take k ++ [xs[k]] := List.take_succ_eq_append_getElem hk
  rw [e, List.append_assoc]
  rfl
theorem fill_len {α : Type} (xs : List α) (z : α) (k : Nat) (hk : k ≤ xs.length) : (xs.take k ++ List.replicate (xs.length - k) z).length = xs.length := by
  rw [List.length_append, List.length_take, List.length_replicate]
  omega
section
variable {α : Type} {P : Program} {ops : Array Oper} {rest : List Oper} {o : Oper} {a : Act} {Q : Exit → Act → World → Prop}
/-- A whole element is stored into a row of the call's own. -/
theorem fill_store (d : Kd α) {w0 W : World} {base : Nat} (hN : o.dst = none) (hgd : o.guard = none) (t : TypeId) (p x : Operand) (ho : o.op = .store t p x) {e g n cap : Nat} (k : Nat) {xs : List α} (z x' : α) (u : Value) (lo S : Nat) (hS : d.sz = S)
    (haddr : a.eval p = .pointer (some ⟨g, k * S, none⟩)) (hx : a.eval x = u) (ht : (P.info? t).map (·.size) = some d.sz) (hu1 : ∀ q ∈ u.cells.toList, q.oneCell' = true)
    (HO : d.R e W base (fun _ => True) (.slice (some ⟨g, 0, none⟩) n cap) xs) (hi : k < n) (hM : d.M W lo (fun _ => True) x' u.cells.toList) (hg : g < lo) (hbl : base ≤ lo) (HB : Below base w0 W)
    (h : ∀ w1, d.R e w1 base (fun _ => True) (.slice (some ⟨g, 0, none⟩) n cap) (xs.set k x') → Below base w0 w1 → W.grownBy w1 (some g) → wpList P ops Q rest a w1) : wpList P ops Q (o :: rest) a W := by
  subst hS
  have hl : u.cells.toList.length = d.sz := d.K_len (d.K_of_M hM)
  obtain ⟨c, hcl, _, hcc, _⟩ := Kd.R_elem HO z (k : Int) (by omega) (by omega)
  have hM' : d.M W base (fun q => lo ≤ q) x' u.cells.toList := d.M_mono (fun q hq => hq.2.1) (d.M_lower hbl (d.M_bound hM))
  refine Kd.R_store d base hN hgd t p x ho e (k : Int) 0 xs x' u u.cells.toList c (fun _ => True) (fun q => lo ≤ q) haddr (by simp) hx rfl (by rw [hl]; exact ht) hu1 HO (by omega) (by omega) hcl hcc (by omega) ?_ (fun q hq => ⟨trivial, by omega⟩) HB ?_
  · rw [hl, Nat.zero_add, List.take_zero, List.nil_append, ← hcl, List.drop_length, List.append_nil]
    exact hM'
  · intro w1 h1 h2 h3
    exact h w1 (by simpa using h1) h2 h3
end
/-- New memory that reads as a value. -/
def NewM {α : Type} (d : Kd α) (x : α) (w : World) (e : Ending) (w' : World) : Prop := ∃ cs : List Value, e = .returned (.agg cs.toArray) ∧ d.M w' w.heap.size (fun _ => True) x cs ∧ Below w.heap.size w w'
def NewR {α : Type} (d : Kd α) (t : Nat) (xs : List α) (w : World) (e : Ending) (w' : World) : Prop := ∃ v : Value, e = .returned v ∧ d.R t w' w.heap.size (fun _ => True) v xs ∧ Below w.heap.size w w'
end Go.Proofs.Ytgeoipplkjgnfaa.Lib
