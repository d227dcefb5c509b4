/- The abstract memory: what an operation on it does in a world. No condition beside those that stand in each statement. -/
import Derived.Test.YtgeoipplkjgnfaaDoorEng3
import Derived.Laws.Append
import Derived.ChangeKeysEq
set_option linter.unusedVariables false
set_option linter.unusedSimpArgs false
namespace Go.Proofs.YtgeoipplkjgnfaaDoor.E
variable {P : Program} {R R' : Nat → Prop} {w w' : World} {M M' : List Loc} {c : Array Value}

def relA1 (R : Nat → Prop) (w : World) (M : List Loc) : A1 → Value → FP → Prop
  | .one t, u, F => relT R w M t u F
  | .agg ts, u, F => ∃ c : Array Value, u = .agg c ∧ c.size = ts.length ∧ relTRow R w M c ts 0 F
  | .any, u, F => F = fz
def relAL (R : Nat → Prop) (w : World) (M : List Loc) : List A1 → List Value → FP → Prop
  | [], [], F => F = fz
  | a :: as_, u :: us, F => ∃ F1 F2, relA1 R w M a u F1 ∧ relAL R w M as_ us F2 ∧ F = fa F1 F2
  | _, _, _ => False
def relAV (R : Nat → Prop) (w : World) (M : List Loc) : AV → Value → FP → Prop
  | .s a, u, F => relA1 R w M a u F
  | .tup as_, u, F => ∃ us : List Value, u = .tuple us.toArray ∧ relAL R w M as_ us F
theorem relA1_mono (hR : ∀ b, R b → R' b) (hM : M <+: M') {a : A1} {u : Value} {F : FP} (hw : ∀ b, R b ∨ 1 ≤ F b → w'.heap[b]? = w.heap[b]?) (h : relA1 R w M a u F) : relA1 R' w' M' a u F := by
  cases a with
  | one t => exact relT_mono hR hM t u F hw h
  | agg ts => obtain ⟨c, h1, h2, h3⟩ := h; exact ⟨c, h1, h2, relTRow_mono hR hM c ts 0 F hw h3⟩
  | any => exact h
theorem relAL_mono (hR : ∀ b, R b → R' b) (hM : M <+: M') : ∀ {as_ : List A1} {us : List Value} {F : FP}, (∀ b, R b ∨ 1 ≤ F b → w'.heap[b]? = w.heap[b]?) → relAL R w M as_ us F → relAL R' w' M' as_ us F
  | [], [], F, hw, h => h
  | a :: as_, u :: us, F, hw, h => by
    obtain ⟨F1, F2, h1, h2, rfl⟩ := h
    exact ⟨F1, F2, relA1_mono hR hM (fun b hb => hw b (hb.imp_right fun h => by simp only [fa]; omega)) h1, relAL_mono hR hM (fun b hb => hw b (hb.imp_right fun h => by simp only [fa]; omega)) h2, rfl⟩
  | [], _ :: _, F, hw, h => h.elim
  | _ :: _, [], F, hw, h => h.elim
theorem relAV_mono (hR : ∀ b, R b → R' b) (hM : M <+: M') {a : AV} {u : Value} {F : FP} (hw : ∀ b, R b ∨ 1 ≤ F b → w'.heap[b]? = w.heap[b]?) (h : relAV R w M a u F) : relAV R' w' M' a u F := by
  cases a with
  | s a => exact relA1_mono hR hM hw h
  | tup as_ => obtain ⟨us, h1, h2⟩ := h; exact ⟨us, h1, relAL_mono hR hM hw h2⟩

/-! ### Types -/
theorem ti_some {t : TypeId} {i : TI} (h : ti P t = some i) : ∃ d j z, P.underlying t = some d ∧ P.info? t = some j ∧ j.zero = some z ∧ i.k = kindOf P d ∧ i.size = j.size ∧ i.bytes = j.bytes ∧ i.agg = aggB P t ∧ i.zero = z.cells.toList := by
  unfold ti at h
  split at h
  · rename_i d j hd hj
    split at h
    · rename_i z hz
      simp only [Option.some.injEq] at h
      subst h
      exact ⟨d, j, z, hd, hj, hz, rfl, rfl, rfl, rfl, rfl⟩
    · simp at h
  · simp at h
theorem run_isAgg {t : TypeId} {d : TypeDesc} (h : P.underlying t = some d) (w : World) : (isAgg t).run P w = .ok (aggB P t) w := by
  unfold aggB
  rw [h]
  cases d <;> simp [isAgg, run_underlying h]
theorem run_size {t : TypeId} {j : TypeInfo} (h : P.info? t = some j) (w : World) : (sizeOf t).run P w = .ok j.size w := by
  simp [sizeOf, typeInfo, h]
theorem run_zero {t : TypeId} {j : TypeInfo} {z : Value} (h : P.info? t = some j) (hz : j.zero = some z) (w : World) : (zeroValue t).run P w = .ok z w := by
  simp [zeroValue, typeInfo, h, hz]

/-! ### Cells -/
theorem cell_of {b o : Nat} {e : TypeId} {q : Nat × Nat} (h : w.heap[b]? = some (.cells c e q)) : w.cell? ⟨b, o, none⟩ = c[o]? := by
  simp [World.cell?, h]
theorem relTRow_shift {c' : Array Value} {o' : Nat} : ∀ {ts : List T} {o : Nat} {F : FP}, (∀ j, j < ts.length → c'[o' + j]? = c[o + j]?) → relTRow R w M c ts o F → relTRow R w M c' ts o' F := by
  intro ts
  induction ts generalizing o' with
  | nil => intro o F hs h; simpa [relTRow] using h
  | cons t ts ih =>
    intro o F hs h
    simp only [relTRow] at h ⊢
    obtain ⟨u, F1, F2, h1, h2, h3, h4⟩ := h
    refine ⟨u, F1, F2, by have := hs 0 (by simp); simp only [Nat.add_zero] at this; rw [this]; exact h1, h2, ih (fun j hj => ?_) h3, h4⟩
    have := hs (j + 1) (by simp; omega)
    rw [show o' + 1 + j = o' + (j + 1) by omega, show o + 1 + j = o + (j + 1) by omega]
    exact this
theorem relDRow_len : ∀ {ds : List D} {o : Nat}, relDRow R w c ds o → ds = [] ∨ o + ds.length ≤ c.size
  | [], o, h => .inl rfl
  | d :: ds, o, h => by
    simp only [relDRow] at h
    obtain ⟨⟨u, h1, _⟩, h3⟩ := h
    have h5 := (Array.getElem?_eq_some_iff.1 h1).1
    right
    rcases relDRow_len h3 with h | h
    · subst h; simp; omega
    · simp; omega
theorem relT_ofD {d : D} {u : Value} (h : relD R w d u) : relT R w M (ofD d) u fz := by
  cases d with
  | v x => simpa [ofD, relT, relD] using h
  | l sz rows => exact (by simp only [ofD, relT]; exact ⟨h, trivial⟩)
theorem relTRow_ofD : ∀ {ds : List D} {o : Nat}, relDRow R w c ds o → relTRow R w M c (ds.map ofD) o fz
  | [], o, h => by simp [relTRow]
  | d :: ds, o, h => by
    simp only [relDRow] at h
    simp only [List.map_cons, relTRow]
    obtain ⟨⟨u, h1, h2⟩, h3⟩ := h
    exact ⟨u, fz, fz, h1, relT_ofD h2, relTRow_ofD h3, rfl⟩
theorem relTRows_ofD {sz : Nat} : ∀ {ds : List (List D)} {o : Nat}, relDRows R w c sz ds o → relTRows R w M c sz (ds.map (·.map ofD)) o fz
  | [], o, h => by simp [relTRows]
  | d :: ds, o, h => by
    simp only [relDRows] at h
    simp only [List.map_cons, relTRows]
    exact ⟨fz, fz, by simpa using h.1, relTRow_ofD h.2.1, relTRows_ofD h.2.2, rfl⟩
theorem relDRow_drop {ds : List D} {o : Nat} (k : Nat) (h : relDRow R w c ds o) : relDRow R w c (ds.drop k) (o + k) := by
  induction k generalizing ds o with
  | zero => simpa using h
  | succ k ih =>
    cases ds with
    | nil => simp [relDRow]
    | cons d ds =>
      simp only [relDRow] at h
      rw [List.drop_succ_cons, show o + (k + 1) = o + 1 + k by omega]
      exact ih h.2
theorem relDRow_take {ds : List D} {o : Nat} (k : Nat) (h : relDRow R w c ds o) : relDRow R w c (ds.take k) o := by
  induction k generalizing ds o with
  | zero => simp [relDRow]
  | succ k ih =>
    cases ds with
    | nil => simp [relDRow]
    | cons d ds =>
      simp only [List.take_succ_cons, relDRow] at h ⊢
      exact ⟨h.1, ih h.2⟩

/-! ### Names are given -/
theorem isOwn_F {t : T} {u : Value} {F : FP} (ht : isOwn t = false) (h : relT R w M t u F) : F = fz := by
  cases t <;> simp_all [relT, isOwn]
theorem notOwn_F : ∀ {ts : List T} {o : Nat} {F : FP}, (ts.any isOwn) = false → relTRow R w M c ts o F → F = fz
  | [], o, F, ht, h => by simpa [relTRow] using h
  | t :: ts, o, F, ht, h => by
    simp only [relTRow] at h
    obtain ⟨u, F1, F2, h1, h2, h3, rfl⟩ := h
    simp only [List.any_cons, Bool.or_eq_false_iff] at ht
    rw [isOwn_F ht.1 h2, notOwn_F ht.2 h3]
    rfl
theorem prefix_self (M N : List Loc) : M <+: M ++ N := List.prefix_append M N
theorem nameT_sound {t : T} {u : Value} {F FH : FP} {H : List AObj} (h : relT R w M t u F) (hH : relHeap R w M H M FH) :
    ∃ N, relT R w (M ++ N) (nameT t H.length).1 u fz ∧ relHeap R w (M ++ N) (H ++ (nameT t H.length).2) (M ++ N) (fa FH F) := by
  have hl := relHeap_len hH
  cases t with
  | own sz rows =>
    simp only [relT] at h
    obtain ⟨L, a, cap, h0, h1, h2, h3, h4, h5⟩ := h
    refine ⟨[L], ?_, relHeap_push (relHeap_mono (fun _ h => h) (prefix_self M [L]) (fun _ _ => rfl) hH) ?_⟩
    · simp only [nameT, relT]
      exact ⟨trivial, L, a, cap, by rw [hl]; simp, h1, h2, by omega, by simpa using h4⟩
    · refine ⟨h0, ?_⟩
      rcases h5 with h5 | ⟨c, F', h6, h7, h8⟩
      · exact .inl h5
      · exact .inr ⟨c, F', h6, by omega, relTRows_mono (fun _ h => h) (prefix_self M [L]) c L.sz rows L.o F' (fun _ _ => rfl) h7, h8⟩
  | box row =>
    simp only [relT] at h
    obtain ⟨L, c, F', h1, h2, h3, h4, h5, h6⟩ := h
    refine ⟨[L], ?_, relHeap_push (relHeap_mono (fun _ h => h) (prefix_self M [L]) (fun _ _ => rfl) hH) ?_⟩
    · simp only [nameT, relT]
      exact ⟨trivial, L, by rw [hl]; simp, by simpa using h1⟩
    · refine ⟨h2, .inr ⟨c, F', h4, by simpa using h3, ?_, h6⟩⟩
      simp only [relTRows]
      exact ⟨F', fz, h2.symm, relTRow_mono (fun _ h => h) (prefix_self M [L]) c row L.o F' (fun _ _ => rfl) h5, rfl, rfl⟩
  | _ =>
    all_goals
      have hF := isOwn_F (by rfl) h
      subst hF
      exact ⟨[], by simpa [nameT] using h, by simpa [nameT, fa_z] using hH⟩
theorem nameRow_sound : ∀ {ts : List T} {o : Nat} {F FH : FP} {H : List AObj} {M : List Loc}, relTRow R w M c ts o F → relHeap R w M H M FH →
    ∃ N, relTRow R w (M ++ N) c (nameRow ts H.length).1 o fz ∧ relHeap R w (M ++ N) (H ++ (nameRow ts H.length).2) (M ++ N) (fa FH F)
  | [], o, F, FH, H, M, h, hH => by
    simp only [relTRow] at h
    subst h
    exact ⟨[], by simp [nameRow, relTRow], by simpa [nameRow, fa_z] using hH⟩
  | t :: ts, o, F, FH, H, M, h, hH => by
    simp only [relTRow] at h
    obtain ⟨u, F1, F2, h1, h2, h3, rfl⟩ := h
    obtain ⟨N1, n1, n2⟩ := nameT_sound h2 hH
    obtain ⟨N2, m1, m2⟩ := nameRow_sound (relTRow_mono (fun _ h => h) (prefix_self M N1) c ts _ F2 (fun _ _ => rfl) h3) n2
    refine ⟨N1 ++ N2, ?_, ?_⟩
    · simp only [nameRow, relTRow]
      rw [List.length_append] at m1
      rw [List.append_assoc] at m1
      exact ⟨u, fz, fz, h1, relT_mono (fun _ h => h) (by rw [← List.append_assoc]; exact prefix_self _ _) _ u fz (fun _ _ => rfl) n1, m1, rfl⟩
    · simp only [nameRow]
      rw [List.length_append] at m2
      rw [List.append_assoc, List.append_assoc] at m2
      rw [← fa_assoc]
      exact m2
theorem nameRow_len : ∀ (ts : List T) (n : Nat), (nameRow ts n).1.length = ts.length
  | [], n => rfl
  | t :: ts, n => by simp [nameRow, nameRow_len ts]

/-! ### Load -/
theorem rowsAt_some {H : List AObj} {l sz : Nat} {rows : List (List T)} (h : rowsAt H l = some (sz, rows)) : H[l]? = some (.live sz rows) := by
  unfold rowsAt at h
  split at h
  · rename_i z r hr
    simp only [Option.some.injEq, Prod.mk.injEq] at h
    rw [hr, h.1, h.2]
  · simp at h
theorem run_loadVar {t : TypeId} {i : TI} (ht : ti P t = some i) {b o : Nat} {e : TypeId} {q : Nat × Nat} (hb : w.heap[b]? = some (.cells c e q)) (ho : o + i.size ≤ c.size) (h1 : i.agg = false → i.size = 1) :
    ∃ v, (loadVar t ⟨b, o, none⟩).run P w = .ok v w ∧ (i.agg = true → v = .agg ((c.toList.drop o).take i.size).toArray) ∧ (i.agg = false → c[o]? = some v) := by
  obtain ⟨d, j, z, hd, hj, hz, -, hs, -, ha, -⟩ := ti_some ht
  cases hagg : i.agg with
  | true =>
    rw [ha] at hagg
    have hl := run_loadCells_list (P := P) w ⟨b, o, none⟩ ((c.toList.drop o).take i.size) (fun k v hk => by
      have : (⟨b, o, none⟩ : Addr).add k = ⟨b, o + k, none⟩ := by unfold Addr.add; split <;> simp_all
      rw [this, cell_of hb]
      rw [List.getElem?_take] at hk
      split at hk
      · rw [List.getElem?_drop] at hk
        simpa using hk
      · simp at hk)
    have hlen : ((c.toList.drop o).take i.size).length = i.size := by simp; omega
    rw [hlen] at hl
    refine ⟨_, ?_, fun _ => rfl, fun h => by simp at h⟩
    simp only [loadVar, Sem.run_bind, run_isAgg hd, hagg, Result.andThen_ok, if_true, run_size hj, ← hs, hl, Sem.run_pure]
  | false =>
    have hs1 := h1 hagg
    rw [ha] at hagg
    have hc : o < c.size := by omega
    refine ⟨c[o], ?_, fun h => by simp at h, fun _ => by simp [hc]⟩
    simp only [loadVar, Sem.run_bind, run_isAgg hd, hagg, Result.andThen_ok, Bool.false_eq_true, if_false, run_load, cell_of hb]
    simp [hc]
theorem ofCells_rel {ts : List T} {av : AV} {agg : Bool} (h : ofCells agg ts = some av) {o : Nat} {F : FP} {v : Value} (hr : relTRow R w M c ts o F) (hlen : o + ts.length ≤ c.size)
    (ha : agg = true → v = .agg ((c.toList.drop o).take ts.length).toArray) (hn : agg = false → c[o]? = some v) : relAV R w M av v F := by
  cases agg with
  | true =>
    simp only [ofCells, if_true, Option.some.injEq] at h
    subst h
    refine ⟨_, ha rfl, by simp; omega, relTRow_shift (fun j hj => ?_) hr⟩
    simp [hj]
  | false =>
    simp only [ofCells, Bool.false_eq_true, if_false] at h
    split at h
    · rename_i t
      simp only [Option.some.injEq] at h
      subst h
      simp only [relTRow] at hr
      obtain ⟨u, F1, F2, h1, h2, rfl, rfl⟩ := hr
      rw [hn rfl] at h1
      simp only [Option.some.injEq] at h1
      subst h1
      exact h2
    · simp at h
theorem ofCells_one {ts : List T} {av : AV} (h : ofCells false ts = some av) : ts.length = 1 := by
  simp only [ofCells, Bool.false_eq_true, if_false] at h
  split at h
  · simp
  · simp at h
theorem loadAt_run {t : TypeId} {a : Addr} : (Instr.loadAt t (.pointer (some a))).run P w = (loadVar t a).run P w := by
  simp [Instr.loadAt, Instr.sureAddr]
theorem set_push {H N : List AObj} {l : Nat} {o o' : AObj} (h : l < H.length) : ((H.set l o') ++ N).set l o = (H ++ N).set l o := by
  rw [List.set_append_left _ _ (by simpa using h), List.set_append_left _ _ h, List.set_set]
theorem doLoad_sound {H H' : List AObj} {i : TI} {p : T} {av : AV} (h : doLoad H i p = some (av, H')) {ty : TypeId} (ht : ti P ty = some i) {u : Value} (hp : relT R w M p u fz) {F : FP} (hH : relHeap R w M H M F) :
    ∃ v N, (Instr.loadAt ty u).run P w = .ok v w ∧ relAV R w (M ++ N) av v fz ∧ relHeap R w (M ++ N) H' (M ++ N) F := by
  unfold doLoad at h
  split at h
  · -- a named place
    rename_i l r cc
    split at h
    · rename_i sz rows hrows
      have hl := rowsAt_some hrows
      split at h
      · rename_i row hrow
        split at h
        · rename_i hsz
          simp only [relT] at hp
          obtain ⟨-, L, hL, rfl⟩ := hp
          obtain ⟨L', F1, F2, hL', rfl, hobj, hput⟩ := relHeap_get hH hl
          rw [hL] at hL'
          simp only [Option.some.injEq] at hL'
          subst hL'
          obtain ⟨hLs, hobj⟩ := hobj
          rcases hobj with ⟨rfl, -⟩ | ⟨c, F', hB, hroom, hR, rfl⟩
          · simp at hrow
          obtain ⟨G1, G2, rfl, hrl, hrr, hback⟩ := relTRows_get hR hrow
          have hBB := hB
          obtain ⟨e, lo, hi, hblk, hfr, hext⟩ := hB
          have hsplit : row = row.take cc ++ (((row.drop cc).take i.size) ++ row.drop (cc + i.size)) := by
            rw [← List.drop_drop, List.take_append_drop, List.take_append_drop]
          have hrr2 := hrr
          rw [hsplit, relTRow_append] at hrr2
          obtain ⟨Fa, Fb, ha, hb, rfl⟩ := hrr2
          rw [relTRow_append] at hb
          obtain ⟨Fs, Fc, hs, hc, rfl⟩ := hb
          have hseg : ((row.drop cc).take i.size).length = i.size := by simp; omega
          have htk : (row.take cc).length = cc := by simp; omega
          rw [htk] at hs hc
          rw [hseg] at hc
          have hrlen := relTRow_len hrr
          by_cases hown : ((row.drop cc).take i.size).any isOwn = true
          · rw [if_pos hown] at h
            split at h
            · rename_i av' hav
              simp only [Option.some.injEq, Prod.mk.injEq] at h
              obtain ⟨rfl, rfl⟩ := h
              have hne : row ≠ [] := by rintro rfl; simp at hown
              have hrlen' := hrlen.resolve_left hne
              have hH0 := hput R w M .dead fz (fun _ h => h) (List.prefix_refl M) (fun _ _ => rfl) rfl
              rw [z_fa] at hH0
              obtain ⟨N, n1, n2⟩ := nameRow_sound hs hH0
              rw [List.length_set] at n1 n2
              have hlt : l < H.length := (List.getElem?_eq_some_iff.1 hl).1
              have hdead : (H.set l .dead ++ (nameRow ((row.drop cc).take i.size) H.length).2)[l]? = some .dead := by
                rw [List.getElem?_append_left (by simpa using hlt)]
                simp [hlt]
              obtain ⟨L2, K1, K2, hL2, hKF, hK1, hput2⟩ := relHeap_get n2 hdead
              have hLe : L2 = L := by
                rw [List.getElem?_append_left (List.getElem?_eq_some_iff.1 hL).1, hL] at hL2
                exact (Option.some.inj hL2).symm
              subst hLe
              have hK1' : K1 = fz := hK1
              subst hK1'
              rw [z_fa] at hKF
              subst hKF
              obtain ⟨v, hv1, hv2, hv3⟩ := run_loadVar ht hblk (o := L2.o + r * L2.sz + cc) (by omega) (fun hagg => by
                rw [hagg] at hav
                have := ofCells_one hav
                rw [nameRow_len, hseg] at this
                exact this)
              refine ⟨v, N, by rw [loadAt_run]; exact hv1, ?_, ?_⟩
              · refine ofCells_rel hav n1 (by rw [nameRow_len, hseg]; omega) (fun h => ?_) hv3
                rw [nameRow_len, hseg]
                exact hv2 h
              · have hnew := hback (M ++ N) c (splice row cc (nameRow ((row.drop cc).take i.size) H.length).1) (fa Fa (fa fz Fc)) (prefix_self M N) (SameBut.refl _ _ _) (by simp [splice, nameRow_len]; omega) (by
                  unfold splice
                  rw [List.append_assoc, relTRow_append, nameRow_len, hseg]
                  refine ⟨Fa, fa fz Fc, relTRow_mono (fun _ h => h) (prefix_self M N) c _ _ Fa (fun _ _ => rfl) ha, ?_, rfl⟩
                  rw [relTRow_append, nameRow_len, hseg, htk]
                  exact ⟨fz, Fc, n1, relTRow_mono (fun _ h => h) (prefix_self M N) c _ _ Fc (fun _ _ => rfl) hc, rfl⟩)
                have hfin := hput2 R w (M ++ N) (.live sz (rows.set r (splice row cc (nameRow ((row.drop cc).take i.size) H.length).1))) _ (fun _ h => h) (List.prefix_refl _) (fun _ _ => rfl) ⟨hLs, .inr ⟨c, _, hBB, by simpa using hroom, hnew, rfl⟩⟩
                rw [set_push hlt] at hfin
                have hFeq : fa (fa (fd L2.b) (fa (fa Fa (fa fz Fc)) G2)) (fa F2 Fs) = fa (fa (fd L2.b) (fa (fa Fa (fa Fs Fc)) G2)) F2 := by
                  funext x
                  simp only [fa, fz]
                  omega
                rw [hFeq] at hfin
                exact hfin
            · simp at h
          · rw [if_neg hown] at h
            split at h
            · rename_i av' hav
              simp only [Option.some.injEq, Prod.mk.injEq] at h
              obtain ⟨rfl, rfl⟩ := h
              have hF0 := notOwn_F (by simpa using hown) hs
              subst hF0
              have hcs : L.o + r * L.sz + cc + i.size ≤ c.size := by
                rcases hrlen with h | h
                · subst h
                  simp only [List.length_nil] at hsz hrl
                  have hr := (List.getElem?_eq_some_iff.1 hrow).1
                  have : (r + 1) * L.sz ≤ L.room * L.sz := Nat.mul_le_mul_right _ (by omega)
                  rw [Nat.succ_mul] at this
                  omega
                · omega
              obtain ⟨v, hv1, hv2, hv3⟩ := run_loadVar ht hblk (o := L.o + r * L.sz + cc) hcs (fun hagg => by
                rw [hagg] at hav
                have := ofCells_one hav
                rw [hseg] at this
                exact this)
              refine ⟨v, [], by rw [loadAt_run]; exact hv1, ?_, by simpa using hH⟩
              rw [List.append_nil]
              refine ofCells_rel hav hs (by rw [hseg]; exact hcs) (fun h => ?_) hv3
              rw [hseg]
              exact hv2 h
            · simp at h
        · simp at h
      · simp at h
    · simp at h
  · -- a place that is read alone
    rename_i row cc
    split at h
    · rename_i hsz
      split at h
      · rename_i av' hav
        simp only [Option.some.injEq, Prod.mk.injEq] at h
        obtain ⟨rfl, rfl⟩ := h
        simp only [relT] at hp
        obtain ⟨-, b, o, c, e, q, rfl, hRb, hblk, hrow⟩ := hp
        have hseg : ((row.drop cc).take i.size).length = i.size := by simp; omega
        have hs := relTRow_ofD (M := M) (relDRow_take i.size (relDRow_drop cc hrow))
        by_cases h0 : row = []
        · subst h0
          simp only [List.length_nil] at hsz
          have hz : i.size = 0 := by omega
          cases hagg : i.agg with
          | false =>
            rw [hagg] at hav
            have := ofCells_one hav
            simp at this
          | true =>
            obtain ⟨d, j, z, hd, hj, hz', -, hs', -, ha, -⟩ := ti_some ht
            rw [hagg] at hav
            simp only [ofCells, if_true, Option.some.injEq] at hav
            subst hav
            refine ⟨.agg #[], [], ?_, ⟨#[], rfl, by simp, by simp [relTRow]⟩, by simpa using hH⟩
            rw [loadAt_run]
            have : (loadCells (⟨b, o + cc, none⟩ : Addr) 0).run P w = .ok #[] w := rfl
            simp only [loadVar, Sem.run_bind, run_isAgg hd, ← ha, hagg, Result.andThen_ok, if_true, run_size hj, ← hs', hz, this, Sem.run_pure]
        · have hcs := (relDRow_len hrow).resolve_left h0
          obtain ⟨v, hv1, hv2, hv3⟩ := run_loadVar ht hblk (o := o + cc) (by omega) (fun hagg => by
            rw [hagg] at hav
            have := ofCells_one hav
            rw [List.length_map, hseg] at this
            exact this)
          refine ⟨v, [], by rw [loadAt_run]; exact hv1, ?_, by simpa using hH⟩
          rw [List.append_nil]
          refine ofCells_rel hav hs (by rw [List.length_map, hseg]; omega) (fun h => ?_) hv3
          rw [List.length_map, hseg]
          exact hv2 h
      · simp at h
    · simp at h
  · simp at h
end Go.Proofs.YtgeoipplkjgnfaaDoor.E
