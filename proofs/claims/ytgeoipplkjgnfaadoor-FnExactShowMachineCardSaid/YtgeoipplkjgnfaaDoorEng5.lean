/- The abstract memory: stores, new memory. No condition beside those that stand in each statement. -/
import Derived.Test.YtgeoipplkjgnfaaDoorEng4
set_option linter.unusedVariables false
set_option linter.unusedSimpArgs false
namespace Go.Proofs.YtgeoipplkjgnfaaDoor.E
variable {P : Program} {R R' : Nat → Prop} {w w' : World} {M M' : List Loc} {c : Array Value}

/-- A world that is another but for one block. -/
structure But (w w' : World) (b : Nat) : Prop where
  os : w'.os = w.os
  tape : w'.tape = w.tape
  output : w'.output = w.output
  size : w'.heap.size = w.heap.size
  other : ∀ b', b' ≠ b → w'.heap[b']? = w.heap[b']?
  here : ∀ (c : Array Value) (e : TypeId) (q : Nat × Nat), w.heap[b]? = some (.cells c e q) → ∃ c', w'.heap[b]? = some (.cells c' e q) ∧ c'.size = c.size
theorem run_put {b o : Nat} {e : TypeId} {lo hi : Nat} : ∀ (vs : List Value) (i : Nat) (w : World) (c : Array Value), w.heap[b]? = some (.cells c e (lo, hi)) → (hi ≤ lo ∨ c.size ≤ lo) → o + i + vs.length ≤ c.size → (∀ v ∈ vs, v.oneCell' = true) →
    ∃ w' c', (storeCells ⟨b, o, none⟩ vs i).run P w = .ok () w' ∧ w'.heap[b]? = some (.cells c' e (lo, hi)) ∧ c'.size = c.size ∧ (∀ j, j < vs.length → c'[o + i + j]? = vs[j]?) ∧ (∀ k, k < o + i ∨ o + i + vs.length ≤ k → c'[k]? = c[k]?) ∧ But w w' b
  | [], i, w, c, hb, hf, hs, h1 => ⟨w, c, rfl, hb, rfl, fun j hj => by simp at hj, fun _ _ => rfl, ⟨rfl, rfl, rfl, rfl, fun _ _ => rfl, fun c e q h => ⟨c, h, rfl⟩⟩⟩
  | v :: vs, i, w, c, hb, hf, hs, h1 => by
    have hadd : (⟨b, o, none⟩ : Addr).add i = ⟨b, o + i, none⟩ := by unfold Addr.add; split <;> simp_all
    rw [List.length_cons] at hs
    have hlt : o + i < c.size := by omega
    have hcell : w.cell? ⟨b, o + i, none⟩ = some c[o + i] := by rw [cell_of hb]; simp [hlt]
    have hfr : w.frozen? ⟨b, o + i, none⟩ = false := by
      simp only [World.frozen?, hb, Bool.and_eq_false_iff, decide_eq_false_iff_not]
      omega
    have hst : (store ((⟨b, o, none⟩ : Addr).add i) v).run P w = .ok () (w.setCell ⟨b, o + i, none⟩ v) := by
      rw [hadd, run_store P w _ v _ (h1 v (by simp)), hcell]
      simp [hfr]
    have hb1 : (w.setCell ⟨b, o + i, none⟩ v).heap[b]? = some (.cells (c.setIfInBounds (o + i) v) e (lo, hi)) := by
      simp [World.setCell, Array.getElem?_modify, hb]
    have hs2 : o + (i + 1) + vs.length ≤ (c.setIfInBounds (o + i) v).size := by rw [Array.size_setIfInBounds]; omega
    obtain ⟨w', c', r1, r2, r3, r4, r5, r6⟩ := run_put vs (i + 1) (w.setCell ⟨b, o + i, none⟩ v) (c.setIfInBounds (o + i) v) hb1 (by rw [Array.size_setIfInBounds]; exact hf) hs2 (fun v hv => h1 v (by simp [hv]))
    refine ⟨w', c', ?_, r2, by simpa using r3, ?_, ?_, ⟨r6.os, r6.tape, r6.output, by rw [r6.size]; simp [World.setCell], fun b' hb' => (r6.other b' hb').trans (Go.RowKit.Below.heap_setCell _ _ _ _ hb'), fun c2 e2 q2 h => by
      rw [hb] at h
      simp only [Option.some.injEq, Obj.cells.injEq] at h
      obtain ⟨rfl, rfl, rfl⟩ := h
      exact ⟨c', r2, by simpa using r3⟩⟩⟩
    · simp only [storeCells, Sem.run_bind, hst, Result.andThen_ok]
      exact r1
    · intro j hj
      cases j with
      | zero =>
        rw [Nat.add_zero, r5 (o + i) (.inl (by omega))]
        simp [hlt]
      | succ j =>
        have := r4 j (by simp at hj; omega)
        rw [show o + i + (j + 1) = o + (i + 1) + j by omega, this]
        simp
    · intro k hk
      rw [r5 k (by simp at hk; omega)]
      rw [Array.getElem?_setIfInBounds_ne (by simp at hk; omega)]
theorem But.good {F : FP} {b : Nat} (h : But w w' b) (hb : 1 ≤ F b) (hg : Good R w F) : Good R w' F := ⟨hg.one, fun x hx => ⟨(hg.own x hx).1, by rw [h.size]; exact (hg.own x hx).2⟩, fun x hx => by rw [h.size]; exact hg.ro x hx, hg.inv.mono (fun _ h => h) (by rw [h.size]; exact Nat.le_refl _) fun x hx => h.other x (by rintro rfl; exact (hg.own x hb).1 hx)⟩
theorem But.fr {F : FP} {b : Nat} (h : But w w' b) (hb : 1 ≤ F b) : Fr R w F R w' F := ⟨h.os, h.tape, h.output, by rw [h.size]; exact Nat.le_refl _, fun x _ hx => h.other x (by rintro rfl; omega), fun _ h => h, fun _ h => .inl h, fun _ h => .inl h, fun x c e q hx => by
    by_cases hb : x = b
    · subst hb; exact h.here c e q hx
    · exact ⟨c, (h.other x hb).trans hx, rfl⟩⟩

theorem relT_one {t : T} {u : Value} {F : FP} (h : relT R w M t u F) : u.oneCell' = true ∧ u.cells = #[u] := by
  cases t <;> simp only [relT] at h
  case v x =>
    obtain ⟨rfl, h, -⟩ := h
    cases u <;> simp_all [scal, Value.oneCell', Value.cells]
  case ro sz rows =>
    obtain ⟨h, -⟩ := h
    simp only [relD] at h
    obtain ⟨a, cap, rfl, -⟩ := h
    exact ⟨rfl, rfl⟩
  case own sz rows => obtain ⟨L, a, cap, -, rfl, -⟩ := h; exact ⟨rfl, rfl⟩
  case ref l off len => obtain ⟨-, L, a, cap, -, rfl, -⟩ := h; exact ⟨rfl, rfl⟩
  case ptr l r c => obtain ⟨-, L, -, rfl⟩ := h; exact ⟨rfl, rfl⟩
  case rp row c => obtain ⟨-, b, o, c, e, q, rfl, -⟩ := h; exact ⟨rfl, rfl⟩
  case box row => obtain ⟨L, c, F', rfl, -⟩ := h; exact ⟨rfl, rfl⟩
  case fn f cap => obtain ⟨-, c, rfl, -⟩ := h; exact ⟨rfl, rfl⟩
theorem relTRow_one : ∀ {ts : List T} {o : Nat} {F : FP}, relTRow R w M c ts o F → ∀ j, j < ts.length → ∃ u, c[o + j]? = some u ∧ u.oneCell' = true
  | [], o, F, h, j, hj => by simp at hj
  | t :: ts, o, F, h, j, hj => by
    simp only [relTRow] at h
    obtain ⟨u, F1, F2, h1, h2, h3, rfl⟩ := h
    cases j with
    | zero => exact ⟨u, h1, (relT_one h2).1⟩
    | succ j =>
      obtain ⟨v, h4, h5⟩ := relTRow_one h3 j (by simp at hj; omega)
      exact ⟨v, by rw [← h4]; congr 1; omega, h5⟩
/-- The cells of a value. -/
theorem cells1_rel {x : A1} {ts : List T} {v : Value} {F : FP} (h : cells1 x = some ts) (hr : relA1 R w M x v F) : v.cells.size = ts.length ∧ relTRow R w M v.cells ts 0 F ∧ ∀ u ∈ v.cells.toList, u.oneCell' = true := by
  cases x with
  | one t =>
    simp only [cells1, Option.some.injEq] at h
    subst h
    obtain ⟨h1, h2⟩ := relT_one hr
    rw [h2]
    refine ⟨rfl, ?_, by simpa using h1⟩
    simp only [relTRow]
    exact ⟨v, F, fz, rfl, hr, rfl, (fa_z F).symm⟩
  | agg ts' =>
    simp only [cells1, Option.some.injEq] at h
    subst h
    obtain ⟨c, rfl, h2, h3⟩ := hr
    refine ⟨h2, h3, fun u hu => ?_⟩
    obtain ⟨j, hj, rfl⟩ := List.getElem_of_mem hu
    have hj' : j < c.size := by simpa [Value.cells] using hj
    obtain ⟨u, h4, h5⟩ := relTRow_one h3 j (by omega)
    simp only [Nat.zero_add] at h4
    simp only [Value.cells, Array.getElem_toList]
    rw [Array.getElem?_eq_getElem hj', Option.some.injEq] at h4
    rw [h4]
    exact h5
  | any => simp [cells1] at h
theorem doStore_sound {H H' : List AObj} {i : TI} {p : T} {x : A1} (h : doStore H i p x = some H') {ty : TypeId} (ht : ti P ty = some i) {u v : Value} (hp : relT R w M p u fz) (hx : relA1 R w M x v fz) {F : FP} (hH : relHeap R w M H M F) (hg : Good R w F) :
    ∃ w' F', (Instr.storeAt ty u v).run P w = .ok () w' ∧ relHeap R w' M H' M F' ∧ Good R w' F' ∧ Fr R w F R w' F' := by
  unfold doStore at h
  split at h
  · rename_i l r cc
    split at h
    · rename_i sz rows ts hrows hts
      have hl := rowsAt_some hrows
      split at h
      · rename_i row hrow
        split at h
        · rename_i hsz
          obtain ⟨hsz1, hsz⟩ := hsz
          simp only [Option.some.injEq] at h
          subst h
          simp only [relT] at hp
          obtain ⟨-, L, hL, rfl⟩ := hp
          obtain ⟨L', F1, F2, hL', rfl, hobj, hput⟩ := relHeap_get hH hl
          rw [hL] at hL'
          simp only [Option.some.injEq] at hL'
          subst hL'
          obtain ⟨hLs, hobj⟩ := hobj
          rcases hobj with ⟨rfl, -⟩ | ⟨c, F', hB, hroom, hR, rfl⟩
          · simp at hrow
          obtain ⟨hcs, hxr, hx1⟩ := cells1_rel hts hx
          obtain ⟨d, j, z, hd, hj, hz, -, hs, -, ha, -⟩ := ti_some ht
          obtain ⟨e, lo, hi, hblk, hfr, hext⟩ := hB
          have hr := (List.getElem?_eq_some_iff.1 hrow).1
          have hmul : (r + 1) * L.sz ≤ L.room * L.sz := Nat.mul_le_mul_right _ (by omega)
          rw [Nat.succ_mul] at hmul
          obtain ⟨G1, G2, -, hrl, -, -⟩ := relTRows_get hR hrow
          have hone := hg.one L.b
          simp only [fa, fd_self] at hone
          have hF'0 : F' L.b = 0 := by omega
          have hF20 : F2 L.b = 0 := by omega
          have hRb : ¬ R L.b := (hg.own L.b (by simp [fa, fd_self]; omega)).1
          obtain ⟨w', c', r1, r2, r3, r4, r5, r6⟩ := run_put (P := P) (b := L.b) (o := L.o + r * L.sz + cc) (e := e) (lo := lo) (hi := hi) v.cells.toList 0 w c hblk hfr (by simp; omega) hx1
          simp only [Nat.add_zero, Array.length_toList, hcs] at r4 r5
          have hsame : ∀ (G : FP), G L.b = 0 → ∀ b, R b ∨ 1 ≤ G b → w'.heap[b]? = w.heap[b]? := fun G hG b hb => r6.other b (by rintro rfl; rcases hb with hb | hb; exact hRb hb; omega)
          have hR' := relTRows_mono (R' := R) (fun _ h => h) (List.prefix_refl M) c L.sz rows L.o F' (hsame F' hF'0) hR
          obtain ⟨K1, K2, hKF, hrl', hrr, hback⟩ := relTRows_get hR' hrow
          have hsplit : row = row.take cc ++ (((row.drop cc).take i.size) ++ row.drop (cc + i.size)) := by
            rw [← List.drop_drop, List.take_append_drop, List.take_append_drop]
          rw [hsplit, relTRow_append] at hrr
          obtain ⟨Fa, Fb, ha', hb, rfl⟩ := hrr
          rw [relTRow_append] at hb
          obtain ⟨Fs, Fc, hs', hc, rfl⟩ := hb
          have hseg : ((row.drop cc).take i.size).length = i.size := by simp; omega
          have htk : (row.take cc).length = cc := by simp; omega
          rw [htk] at hs' hc
          rw [hseg] at hc
          have hnew := hback M c' (splice row cc ts) (fa Fa (fa fz Fc)) (List.prefix_refl M) ⟨r3, fun k hk => r5 k (by omega)⟩ (by simp [splice]; omega) (by
            unfold splice
            rw [List.append_assoc, relTRow_append, htk]
            refine ⟨Fa, fa fz Fc, relTRow_same (fun k _ hk => r5 k (.inl (by rw [htk] at hk; exact hk))) ha', ?_, rfl⟩
            rw [relTRow_append, hsz1]
            refine ⟨fz, Fc, ?_, relTRow_same (fun k hk _ => r5 k (.inr (by omega))) hc, rfl⟩
            refine relTRow_mono (fun _ h => h) (List.prefix_refl M) c' ts _ fz (hsame fz rfl) (relTRow_shift (fun k hk => ?_) hxr)
            rw [r4 k hk, Nat.zero_add]
            simp)
          have hfin := hput R w' M (.live sz (rows.set r (splice row cc ts))) _ (fun _ h => h) (List.prefix_refl _) (hsame F2 hF20) ⟨hLs, .inr ⟨c', _, ⟨e, lo, hi, r2, by rw [r3]; exact hfr, by rw [r3]; exact hext⟩, by simpa using hroom, hnew, rfl⟩⟩
          refine ⟨w', _, ?_, hfin, ?_, ?_⟩
          · simp only [Instr.storeAt, Instr.sureAddr, Sem.run_bind, Sem.run_pure, Result.andThen_ok, storeVar, run_size hj]
            rw [if_neg (by rw [hcs, hsz1, hs]; simp)]
            exact r1
          · refine (r6.good (by simp only [fa, fd_self]; omega) hg).le (fun x => ?_)
            rw [hKF]
            simp only [fa, fz]
            omega
          · refine (r6.fr (F := fa (fa (fd L.b) F') F2) (by simp [fa, fd_self]; omega)).le (fun x => ?_)
            rw [hKF]
            simp only [fa, fz]
            omega
        · simp at h
      · simp at h
    · simp at h
  · simp at h

/-! ### New memory -/
theorem push_old (w : World) (o : Obj) {b : Nat} (h : b < w.heap.size) : ({ w with heap := w.heap.push o } : World).heap[b]? = w.heap[b]? := by
  simp only
  rw [Array.getElem?_push, if_neg (by omega)]
theorem push_new (w : World) (o : Obj) : ({ w with heap := w.heap.push o } : World).heap[w.heap.size]? = some o := by simp
/-- A new row of cells, named. What is in it was owned by nobody, or is given up (Fn). 'w1' is the old world, perhaps with a draw. -/
theorem newObj_sound {H : List AObj} {F Fn : FP} {cs : Array Value} {e : TypeId} {lo hi : Nat} {sz room : Nat} {rows : List (List T)} {w1 : World} (hw1 : w1 = { w with heap := w.heap.push (.cells cs e (lo, hi)), drawn := w1.drawn })
    (hH : relHeap R w M H M F) (hg : Good R w (fa F Fn)) (hq : hi ≤ lo ∨ cs.size ≤ lo) (hr : relTRows R w M cs sz rows 0 Fn) (hroom : rows.length ≤ room) (hext : room * sz ≤ cs.size) :
    relHeap R w1 (M ++ [⟨w.heap.size, 0, sz, room⟩]) (H ++ [.live sz rows]) (M ++ [⟨w.heap.size, 0, sz, room⟩]) (fa F (fa (fd w.heap.size) Fn)) ∧ Good R w1 (fa F (fa (fd w.heap.size) Fn)) ∧ Fr R w (fa F Fn) R w1 (fa F (fa (fd w.heap.size) Fn)) ∧ (∀ b, b < w.heap.size → w1.heap[b]? = w.heap[b]?) := by
  have hold : ∀ b, b < w.heap.size → w1.heap[b]? = w.heap[b]? := fun b hb => by rw [hw1]; exact push_old w _ hb
  have hnew : w1.heap[w.heap.size]? = some (.cells cs e (lo, hi)) := by rw [hw1]; exact push_new w _
  have hsize : w1.heap.size = w.heap.size + 1 := by rw [hw1]; simp
  have hlt : ∀ b, R b ∨ 1 ≤ (fa F Fn) b → w1.heap[b]? = w.heap[b]? := fun b hb => hold b (by
    rcases hb with hb | hb
    · exact hg.ro b hb
    · exact (hg.own b hb).2)
  have h0 : ∀ b, w.heap.size ≤ b → F b = 0 ∧ Fn b = 0 := fun b hb => by
    have : ¬ 1 ≤ (fa F Fn) b := fun h => by have := (hg.own b h).2; omega
    simp only [fa] at this
    omega
  refine ⟨?_, ⟨fun b => ?_, fun b hb => ?_, fun b hb => by have := hg.ro b hb; omega, hg.inv.mono (fun _ h => h) (by omega) fun b hb => hold b (hg.ro b hb)⟩, ?_, hold⟩
  · refine relHeap_push (relHeap_mono (fun _ h => h) (prefix_self M _) (fun b hb => hlt b (hb.imp_right fun h => by simp only [fa]; omega)) hH) ⟨rfl, .inr ⟨cs, Fn, ⟨e, lo, hi, hnew, hq, by simpa using hext⟩, hroom, ?_, rfl⟩⟩
    exact relTRows_mono (fun _ h => h) (prefix_self M _) cs sz rows 0 Fn (fun b hb => hlt b (hb.imp_right fun h => by simp only [fa]; omega)) hr
  · have h1 := hg.one b
    simp only [fa, fd] at h1 ⊢
    split
    · have := h0 b (by omega); omega
    · omega
  · simp only [fa, fd] at hb
    by_cases hbs : b = w.heap.size
    · subst hbs
      exact ⟨fun h => by have := hg.ro _ h; omega, by omega⟩
    · rw [if_neg hbs] at hb
      have := hg.own b (by simp only [fa]; omega)
      exact ⟨this.1, by omega⟩
  · refine ⟨by rw [hw1], by rw [hw1], by rw [hw1], by omega, fun b hb _ => hold b hb, fun _ h => h, fun b hb => ?_, fun b hb => .inl hb, fun b c e q hb => ⟨c, (hold b (Array.getElem?_eq_some_iff.1 hb).1).trans hb, rfl⟩⟩
    simp only [fa, fd] at hb ⊢
    by_cases hbs : b = w.heap.size
    · exact .inr (by omega)
    · rw [if_neg hbs] at hb
      left
      omega
end Go.Proofs.YtgeoipplkjgnfaaDoor.E
