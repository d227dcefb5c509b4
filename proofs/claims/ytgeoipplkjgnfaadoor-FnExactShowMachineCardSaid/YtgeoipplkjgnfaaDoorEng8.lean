/- The abstract memory: lists made and grown. No condition beside those that stand in each statement. -/
import Derived.Test.YtgeoipplkjgnfaaDoorEng7
set_option linter.unusedVariables false
set_option linter.unusedSimpArgs false
namespace Go.Proofs.YtgeoipplkjgnfaaDoor.E
variable {P : Program} {R R' : Nat → Prop} {w w' : World} {M M' : List Loc} {c : Array Value}

theorem relTRows_replicate {sz : Nat} {zs : List Value} (hz : zs.all scal = true) (hl : zs.length = sz) : ∀ (n o : Nat), (∀ i j, i < n → j < sz → c[o + i * sz + j]? = zs[j]?) → relTRows R w M c sz (List.replicate n (zs.map T.v)) o fz
  | 0, o, h => by simp [relTRows]
  | n + 1, o, h => by
    simp only [List.replicate_succ, relTRows]
    refine ⟨fz, fz, by simpa using hl, scal_row hz (fun j hj => ?_), relTRows_replicate hz hl n (o + sz) (fun i j hi hj => ?_), rfl⟩
    · have := h 0 j (by omega) (by omega)
      simpa using this
    · have := h (i + 1) j (by omega) hj
      rw [show o + sz + i * sz + j = o + (i + 1) * sz + j by rw [Nat.succ_mul]; omega]
      exact this
theorem madeCells_get {z : Value} {zs : List Value} (hz : z.cells.toList = zs) {n i j : Nat} (hi : i < n) (hj : j < zs.length) : (madeCells z.cells (n * zs.length))[i * zs.length + j]? = zs[j]? := by
  have h1 : i * zs.length + j < n * zs.length := by
    have : (i + 1) * zs.length ≤ n * zs.length := Nat.mul_le_mul_right _ (by omega)
    rw [Nat.succ_mul] at this
    omega
  have hs : z.cells.size = zs.length := by rw [← hz]; simp
  simp only [madeCells]
  rw [Array.getElem?_map, Array.getElem?_range, if_pos h1]
  simp only [Option.map_some]
  rw [hs, Nat.mul_comm i, Nat.mul_add_mod, Nat.mod_eq_of_lt hj]
  have hj' : j < z.cells.size := by omega
  rw [getElem!_pos z.cells j hj']
  rw [← hz]
  simp [hj']
theorem make_sound {H : List AObj} {F : FP} {n : Int} {kl kc : IntKind} {ty e : TypeId} {i : TI} (he : ti P e = some i) (hd : P.underlying ty = some (.slice e)) (hz : i.zero.all scal = true) (hzl : i.zero.length = i.size) (h0 : 0 ≤ n) (hb : (i.bytes : Int) * n ≤ 140737488355328) (hby : 1 ≤ i.bytes)
    (hH : relHeap R w M H M F) (hg : Good R w F) :
    ∃ v w' N F', (Instr.makeSlice ty (.int kl n) (.int kc n)).run P w = .ok v w' ∧ relT R w' (M ++ N) (.ref H.length 0 n.toNat) v fz ∧ relHeap R w' (M ++ N) (H ++ [.live i.size (List.replicate n.toNat (i.zero.map T.v))]) (M ++ N) F' ∧ Good R w' F' ∧ Fr R w F R w' F' := by
  obtain ⟨d, j, z, hd', hj, hz', hkk, hs, hb', ha, hzz⟩ := ti_some he
  have hbi : (1 : Int) ≤ (i.bytes : Int) := by omega
  have hn : n ≤ 140737488355328 := by
    have : n * 1 ≤ n * (i.bytes : Int) := Int.mul_le_mul_of_nonneg_left hbi h0
    rw [Int.mul_comm] at hb
    omega
  have hr := run_make (P := P) w ty e j z hd hj hz' kl kc n n h0 (Int.le_refl _) (by rw [← hb']; omega) (by omega)
  have hsize : (madeCells z.cells (n.toNat * j.size)).size = n.toNat * i.size := by simp [madeCells, hs]
  obtain ⟨q1, q2, q3, q4⟩ := newObj_sound (M := M) (H := H) (F := F) (Fn := fz) (cs := madeCells z.cells (n.toNat * j.size)) (e := e) (lo := 0) (hi := 0) (sz := i.size) (room := n.toNat) (rows := List.replicate n.toNat (i.zero.map T.v))
    (w1 := w.alloc (.cells (madeCells z.cells (n.toNat * j.size)) e)) rfl hH (by rw [fa_z]; exact hg) (.inl (Nat.le_refl _)) (relTRows_replicate hz hzl _ 0 (fun a b ha hb => by
      rw [Nat.zero_add, ← hs, ← hzl]
      exact madeCells_get hzz.symm ha (by omega))) (by simp) (by rw [hsize]; exact Nat.le_refl _)
  rw [fa_z] at q3
  refine ⟨_, _, [⟨w.heap.size, 0, i.size, n.toNat⟩], _, hr, ?_, q1, q2, q3⟩
  simp only [relT]
  exact ⟨trivial, ⟨w.heap.size, 0, i.size, n.toNat⟩, some ⟨w.heap.size, 0, none⟩, n.toNat, by rw [relHeap_len hH]; simp, rfl, Nat.le_refl _, by simp, .inr (by simp)⟩

/-- A list literal. -/
theorem buildSlice_sound {H : List AObj} {F : FP} {ty e : TypeId} {i : TI} {len : Nat} {parts : List (Nat × A1)} {vs : Array (Nat × Value)} {rows : List (List T)} (he : ti P e = some i) (hd : P.underlying ty = some (.slice e)) (hv : relParts R w M parts vs.toList) (h : rowsA i.size 0 parts = some rows)
    (hl : len = parts.length) (hsz : 0 < i.size) (hsmall : len * i.size ≤ 16777216) (hH : relHeap R w M H M F) (hg : Good R w F) :
    ∃ v w' N F', (Instr.buildSlice ty len vs).run P w = .ok v w' ∧ relT R w' (M ++ N) (.ref H.length 0 rows.length) v fz ∧ relHeap R w' (M ++ N) (H ++ [.live i.size rows]) (M ++ N) F' ∧ Good R w' F' ∧ Fr R w F R w' F' := by
  obtain ⟨d, j, z, hd', hj, hz', hkk, hs, hb', ha, hzz⟩ := ti_some he
  have hlr := rowsA_len h
  subst hl
  have key : ∃ cells : Array Value, (Instr.buildSlice ty parts.length vs).run P w = .ok (.slice (some ⟨w.heap.size, 0, none⟩) parts.length parts.length) (w.alloc (.cells cells e)) ∧ cells.size = rows.length * i.size ∧ relTRows R w M cells i.size rows 0 fz := by
    by_cases h0 : parts.length = 0
    · have hp : parts = [] := List.eq_nil_of_length_eq_zero h0
      subst hp
      have hvs : vs.toList = [] := by
        cases hx : vs.toList with
        | nil => rfl
        | cons a b => rw [hx] at hv; exact hv.elim
      simp only [rowsA, Option.some.injEq] at h
      subst h
      refine ⟨#[], ?_, by simp, by simp [relTRows]⟩
      have hr0 : Array.range 0 = #[] := rfl
      simp [Instr.buildSlice, run_underlying hd, run_size hj, hvs, Instr.fill, newRow, hr0]
    · have hpos : 0 < parts.length * i.size := Nat.mul_pos (by omega) hsz
      obtain ⟨c', f1, f2, f3, f4⟩ := rowsA_rel (R := R) (w := w) (M := M) (n := 0) (c := (Array.range (parts.length * j.size)).map (z.cells[· % z.cells.size]!)) hv h (by simp [hlr, hs])
      rw [Nat.zero_mul] at f4
      rw [hs] at f1 hsmall hpos
      refine ⟨c', run_buildSlice w ty e parts.length vs c' j z hd hj hz' (by omega) (by omega) f1, by rw [f2]; simp [hlr, hs], f4⟩
  obtain ⟨cells, r1, r2, r3⟩ := key
  obtain ⟨q1, q2, q3, q4⟩ := newObj_sound (M := M) (H := H) (F := F) (Fn := fz) (cs := cells) (e := e) (lo := 0) (hi := 0) (sz := i.size) (room := rows.length) (rows := rows) (w1 := w.alloc (.cells cells e)) rfl hH (by rw [fa_z]; exact hg) (.inl (Nat.le_refl _)) r3 (Nat.le_refl _) (by rw [r2]; exact Nat.le_refl _)
  rw [fa_z] at q3
  refine ⟨_, _, [⟨w.heap.size, 0, i.size, rows.length⟩], _, r1, ?_, q1, q2, q3⟩
  simp only [relT]
  exact ⟨trivial, ⟨w.heap.size, 0, i.size, rows.length⟩, some ⟨w.heap.size, 0, none⟩, parts.length, by rw [relHeap_len hH]; simp, by rw [hlr], by omega, by simp [hlr], .inr (by simp)⟩
/-- A variable. -/
theorem box_sound {H : List AObj} {F : FP} {e : TypeId} {ts : List T} {v : Value} (hts : relTRow R w M v.cells ts 0 fz) (hl : v.cells.size = ts.length) (hH : relHeap R w M H M F) (hg : Good R w F) :
    ∃ u w' N F', (newVar e v).run P w = .ok u w' ∧ relT R w' (M ++ N) (.ptr H.length 0 0) (.pointer (some u)) fz ∧ relHeap R w' (M ++ N) (H ++ [.live ts.length [ts]]) (M ++ N) F' ∧ Good R w' F' ∧ Fr R w F R w' F' := by
  obtain ⟨q1, q2, q3, q4⟩ := newObj_sound (M := M) (H := H) (F := F) (Fn := fz) (cs := v.cells) (e := e) (lo := 0) (hi := 0) (sz := ts.length) (room := 1) (rows := [ts]) (w1 := w.alloc (.cells v.cells e)) rfl hH (by rw [fa_z]; exact hg) (.inl (Nat.le_refl _)) (by
    simp only [relTRows]
    exact ⟨fz, fz, trivial, hts, rfl, rfl⟩) (by simp) (by omega)
  rw [fa_z] at q3
  refine ⟨⟨w.heap.size, 0, none⟩, _, [⟨w.heap.size, 0, ts.length, 1⟩], _, rfl, ?_, q1, q2, q3⟩
  simp only [relT]
  exact ⟨trivial, ⟨w.heap.size, 0, ts.length, 1⟩, by rw [relHeap_len hH]; simp, by simp⟩

/-! ### What a list holds -/
theorem relTRows_shift {c' : Array Value} {sz : Nat} : ∀ {rs : List (List T)} {o o' : Nat} {F : FP}, (∀ j, j < rs.length * sz → c'[o' + j]? = c[o + j]?) → relTRows R w M c sz rs o F → relTRows R w M c' sz rs o' F
  | [], o, o', F, hs, h => by simpa [relTRows] using h
  | r :: rs, o, o', F, hs, h => by
    simp only [relTRows] at h ⊢
    obtain ⟨F1, F2, h0, h1, h2, h3⟩ := h
    rw [List.length_cons, Nat.succ_mul] at hs
    refine ⟨F1, F2, h0, relTRow_shift (fun j hj => hs j (by omega)) h1, relTRows_shift (o := o + sz) (fun j hj => ?_) h2, h3⟩
    have := hs (sz + j) (by omega)
    rw [show o' + sz + j = o' + (sz + j) by omega, show o + sz + j = o + (sz + j) by omega]
    exact this
theorem flat_F {sz : Nat} : ∀ {rs : List (List T)} {o : Nat} {F : FP}, flat rs = true → relTRows R w M c sz rs o F → F = fz
  | [], o, F, hf, h => by simpa [relTRows] using h
  | r :: rs, o, F, hf, h => by
    simp only [relTRows] at h
    obtain ⟨F1, F2, h0, h1, h2, rfl⟩ := h
    simp only [flat, List.all_cons, Bool.and_eq_true] at hf
    rw [notOwn_F (by
      rw [List.any_eq_false]
      intro t ht
      have := List.all_eq_true.1 hf.1 t ht
      simpa using this) h1, flat_F hf.2 h2]
    rfl
theorem relTRows_size {sz : Nat} : ∀ {rs : List (List T)} {o : Nat} {F : FP}, 0 < sz → rs ≠ [] → relTRows R w M c sz rs o F → o + rs.length * sz ≤ c.size
  | [], o, F, hs, hn, h => absurd rfl hn
  | r :: rs, o, F, hs, hn, h => by
    simp only [relTRows] at h
    obtain ⟨F1, F2, h0, h1, h2, h3⟩ := h
    rw [List.length_cons, Nat.succ_mul]
    by_cases hr : rs = []
    · subst hr
      rcases relTRow_len h1 with h | h
      · subst h; simp at h0; omega
      · simp only [List.length_nil, Nat.zero_mul]; omega
    · have := relTRows_size hs hr h2
      omega
theorem relDRows_size {sz : Nat} : ∀ {rs : List (List D)} {o : Nat}, 0 < sz → rs ≠ [] → relDRows R w c sz rs o → o + rs.length * sz ≤ c.size
  | [], o, hs, hn, h => absurd rfl hn
  | r :: rs, o, hs, hn, h => by
    simp only [relDRows] at h
    obtain ⟨h0, h1, h2⟩ := h
    rw [List.length_cons, Nat.succ_mul]
    by_cases hr : rs = []
    · subst hr
      rcases relDRow_len h1 with h | h
      · subst h; simp at h0; omega
      · simp only [List.length_nil, Nat.zero_mul]; omega
    · have := relDRows_size hs hr h2
      omega
theorem cells_at {w1 : World} {b o n : Nat} {e : TypeId} {q : Nat × Nat} (hb : w1.heap[b]? = some (.cells c e q)) : ∀ k v, ((c.toList.drop o).take n)[k]? = some v → w1.cell? ((⟨b, o, none⟩ : Addr).add k) = some v := fun k v hk => by
  rw [Addr.add_lit, cell_of hb]
  rw [List.getElem?_take] at hk
  split at hk
  · rw [List.getElem?_drop] at hk
    simpa using hk
  · simp at hk
/-- What a list or a text holds, cell by cell, in every world with the same memory. -/
theorem rowsOf_sound {H : List AObj} {F : FP} {size : Nat} {t : T} {u : Value} {rows : List (List T)} (hs : 0 < size) (h : rowsOf H size t = some rows) (hr : relT R w M t u fz) (hH : relHeap R w M H M F) :
    ∃ (cs : List Value) (Fr : FP), cs.length = rows.length * size ∧ relTRows R w M cs.toArray size rows 0 Fr ∧ (∀ b, Fr b ≤ F b) ∧ (∀ w1, (Builtin.lenOf u).run P w1 = .ok rows.length w1) ∧ ∀ w1, w1.heap = w.heap → (Builtin.firstCells size rows.length u).run P w1 = .ok cs.toArray w1 := by
  unfold rowsOf at h
  split at h
  · simp only [Option.some.injEq] at h
    subst h
    simp only [relT] at hr
    obtain ⟨rfl, -, -⟩ := hr
    exact ⟨[], fz, by simp, by simp [relTRows], fun b => Nat.zero_le _, fun w1 => by simp [Builtin.lenOf], fun w1 _ => by simp [Builtin.firstCells]⟩
  · rename_i sz ds
    split at h
    · rename_i hsz
      simp only [Option.some.injEq] at h
      subst h hsz
      simp only [relT, relD] at hr
      obtain ⟨⟨a, cap, rfl, hcap, hx⟩, -⟩ := hr
      by_cases hne : ds = []
      · subst hne
        refine ⟨[], fz, by simp, by simp [relTRows], fun b => Nat.zero_le _, fun w1 => by simp [Builtin.lenOf], fun w1 _ => ?_⟩
        cases a with
        | none => simp [Builtin.firstCells]
        | some b =>
          simp only [Builtin.firstCells, List.map_nil, List.length_nil, Nat.zero_mul]
          rfl
      · obtain ⟨b, o, c, e, q, rfl, hR, hb, hrr⟩ := hx.resolve_left hne
        have hsz := relDRows_size hs hne hrr
        refine ⟨(c.toList.drop o).take (ds.length * sz), fz, by simp; omega, ?_, fun b => Nat.zero_le _, fun w1 => by simp [Builtin.lenOf], fun w1 hw1 => ?_⟩
        · refine relTRows_shift (fun j hj => ?_) (relTRows_ofD hrr)
          rw [List.length_map] at hj
          rw [Nat.zero_add]
          simp [hj]
        · have := run_firstCells_some (P := P) w1 sz ds.length ⟨b, o, none⟩ ds.length cap ((c.toList.drop o).take (ds.length * sz)) (by simp; omega) (cells_at (by rw [hw1]; exact hb))
          rw [List.length_map]
          exact this
    · simp at h
  · rename_i l off len
    split at h
    · rename_i sz rs hrows
      split at h
      · rename_i hc
        obtain ⟨hsz, hle⟩ := hc
        have hle := leB_le hle
        simp only [Option.some.injEq] at h
        subst h
        simp only [relT] at hr
        obtain ⟨-, L, a, cap, hL, rfl, hcap, hroom, ha⟩ := hr
        have hl := rowsAt_some hrows
        obtain ⟨L', F1, F2, hL', rfl, hobj, -⟩ := relHeap_get hH hl
        rw [hL] at hL'
        simp only [Option.some.injEq] at hL'
        subst hL'
        obtain ⟨hLs, hobj⟩ := hobj
        have hlen : ((rs.drop off).take len).length = len := by simp; omega
        by_cases h0 : len = 0
        · subst h0
          refine ⟨[], fz, by simp, by simp [relTRows], fun b => Nat.zero_le _, fun w1 => by simp [Builtin.lenOf], fun w1 _ => ?_⟩
          cases a with
          | none => simp [Builtin.firstCells]
          | some b =>
            simp only [Builtin.firstCells, List.take_zero, List.length_nil, Nat.zero_mul]
            rfl
        · have ha2 := ha.resolve_left (by omega)
          subst ha2
          rcases hobj with ⟨rfl, -⟩ | ⟨c, F', hB, hrm, hR, rfl⟩
          · simp at hle; omega
          have hsplit : rs = rs.take off ++ (((rs.drop off).take len) ++ rs.drop (off + len)) := by
            rw [← List.drop_drop, List.take_append_drop, List.take_append_drop]
          rw [hsplit, relTRows_append] at hR
          obtain ⟨Fa, Fb, g1, g2, rfl⟩ := hR
          rw [relTRows_append] at g2
          obtain ⟨Fs, Fc, g3, g4, rfl⟩ := g2
          have htk : (rs.take off).length = off := by simp; omega
          rw [htk] at g3
          obtain ⟨e, lo, hi, hblk, hfr, hext⟩ := hB
          have hne : (rs.drop off).take len ≠ [] := by
            intro h
            rw [h] at hlen
            simp at hlen
            omega
          rw [hLs, hsz] at g3
          have hsz2 := relTRows_size hs hne g3
          rw [hlen] at hsz2
          refine ⟨(c.toList.drop (L.o + off * size)).take (len * size), Fs, by rw [hlen]; simp; omega, ?_, fun b => by simp only [fa]; omega, fun w1 => by rw [hlen]; simp [Builtin.lenOf], fun w1 hw1 => ?_⟩
          · refine relTRows_shift (fun j hj => ?_) g3
            rw [hlen] at hj
            rw [Nat.zero_add]
            simp [hj]
          · have := run_firstCells_some (P := P) w1 size len ⟨L.b, L.o + off * L.sz, none⟩ len cap ((c.toList.drop (L.o + off * L.sz)).take (len * size)) (by rw [hLs, hsz]; simp; omega) (cells_at (by rw [hw1]; exact hblk))
            rw [hlen, this, hLs, hsz]
      · simp at h
    · simp at h
  · rename_i s
    split at h
    · rename_i h1
      subst h1
      simp only [Option.some.injEq] at h
      subst h
      simp only [relT] at hr
      obtain ⟨rfl, -, -⟩ := hr
      have hlen : s.data.toList.length = s.size := by rw [Array.length_toList]; rfl
      refine ⟨s.data.toList.map fun b => .int .u8 b.toNat, fz, by simp, ?_, fun b => Nat.zero_le _, fun w1 => by rw [List.length_map, hlen]; rfl, fun w1 _ => ?_⟩
      · have : ∀ (l : List UInt8) (o : Nat) (c : Array Value), (∀ j, j < l.length → c[o + j]? = (l.map fun b => Value.int .u8 b.toNat)[j]?) → relTRows R w M c 1 (l.map fun b => [T.v (.int .u8 b.toNat)]) o fz := by
          intro l
          induction l with
          | nil => intro o c _; simp [relTRows]
          | cons b l ih =>
            intro o c hc
            simp only [List.map_cons, relTRows]
            refine ⟨fz, fz, rfl, ?_, ih (o + 1) c (fun j hj => ?_), rfl⟩
            · simp only [relTRow]
              exact ⟨.int .u8 b.toNat, fz, fz, by have := hc 0 (by simp); simpa using this, by simp [relT, scal], rfl, rfl⟩
            · have := hc (j + 1) (by simp; omega)
              rw [show o + 1 + j = o + (j + 1) by omega, this]
              simp
        exact this _ 0 _ (fun j hj => by simp)
      · simp only [Builtin.firstCells, List.length_map, hlen]
        have : (s.extract 0 s.size) = s := by simp
        rw [this]
        have h2 : s.data.map (fun b => Value.int .u8 b.toNat) = (s.data.toList.map fun b => Value.int .u8 b.toNat).toArray := by
          apply Array.ext'
          simp
        rw [h2]
        rfl
    · simp at h
  · simp at h
end Go.Proofs.YtgeoipplkjgnfaaDoor.E
