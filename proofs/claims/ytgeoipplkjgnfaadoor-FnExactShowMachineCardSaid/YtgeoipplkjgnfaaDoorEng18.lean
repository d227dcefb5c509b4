/- The abstract memory: a contract used in a call. No condition beside those that stand in each statement. -/
import Derived.Test.YtgeoipplkjgnfaaDoorEng17
set_option linter.unusedVariables false
set_option linter.unusedSimpArgs false
namespace Go.Proofs.YtgeoipplkjgnfaaDoor.E
variable {P : Program} {R R' : Nat → Prop} {w w' : World} {M M' : List Loc} {c : Array Value}

/-- What a place that was handed over holds then. H0: the memory ahead of the call. -/
def back1 (H0 H : List AObj) : A1 → Option T → Prop × List AObj
  | .one (.ref l 0 _), some (.own sz rows) => match H0[l]? with
    | some (.live sz0 _) => (sz0 = sz, H.set l (.live sz rows))
    | _ => (False, H)
  | .one (.ptr l 0 0), some (.box row) => match H0[l]? with
    | some (.live sz0 (_ :: _)) => (sz0 = row.length, H.set l (.live sz0 [row]))
    | _ => (False, H)
  | _, none => (True, H)
  | _, some _ => (False, H)
def backAL (H0 : List AObj) : List AObj → List A1 → List (Option T) → Prop × List AObj
  | H, [], [] => (True, H)
  | H, a :: as_, o :: os => ((back1 H0 H a o).1 ∧ (backAL H0 (back1 H0 H a o).2 as_ os).1, (backAL H0 (back1 H0 H a o).2 as_ os).2)
  | H, _, _ => (False, H)
def noRoO : Option T → Bool
  | none => true
  | some t => noRo t
def noRoA1 : A1 → Bool
  | .one t => noRo t
  | .agg ts => noRoRow ts
  | .any => true
def noRoAV : AV → Bool
  | .s a => noRoA1 a
  | .tup as_ => as_.all noRoA1
theorem noRoA1_rel {a : A1} {u : Value} {F : FP} (h : noRoA1 a = true) (hr : relA1 R w M a u F) : relA1 R' w M a u F := by
  cases a with
  | one t => exact noRo_rel t u F h hr
  | agg ts => obtain ⟨c, h1, h2, h3⟩ := hr; exact ⟨c, h1, h2, noRoRow_rel c ts 0 F h h3⟩
  | any => exact hr
theorem noRoAL_rel : ∀ {as_ : List A1} {us : List Value} {F : FP}, as_.all noRoA1 = true → relAL R w M as_ us F → relAL R' w M as_ us F
  | [], [], F, h, hr => hr
  | a :: as_, u :: us, F, h, hr => by
    obtain ⟨F1, F2, h1, h2, h3⟩ := hr
    simp only [List.all_cons, Bool.and_eq_true] at h
    exact ⟨F1, F2, noRoA1_rel h.1 h1, noRoAL_rel h.2 h2, h3⟩
  | [], _ :: _, F, h, hr => hr.elim
  | _ :: _, [], F, h, hr => hr.elim
theorem noRoAV_rel {a : AV} {u : Value} {F : FP} (h : noRoAV a = true) (hr : relAV R w M a u F) : relAV R' w M a u F := by
  cases a with
  | s a => exact noRoA1_rel h hr
  | tup as_ => obtain ⟨us, h1, h2⟩ := hr; exact ⟨us, h1, noRoAL_rel h h2⟩
theorem noRoOs_rel : ∀ {os : List (Option T)} {us : List Value} {F : FP}, os.all noRoO = true → relOs R w os us F → relOs R' w os us F
  | [], [], F, h, hr => hr
  | o :: os, u :: us, F, h, hr => by
    obtain ⟨F1, F2, h1, h2, h3⟩ := hr
    simp only [List.all_cons, Bool.and_eq_true] at h
    refine ⟨F1, F2, ?_, noRoOs_rel h.2 h2, h3⟩
    cases o with
    | none => exact h1
    | some t => exact noRo_rel t u F1 h.1 h1
  | [], _ :: _, F, h, hr => hr.elim
  | _ :: _, [], F, h, hr => hr.elim
theorem back1_sound {H0 H : List AObj} {a : A1} {o : Option T} {u : Value} {F0 F2 FH : FP} {R0 : Nat → Prop} {w0 : World} (h : (back1 H0 H a o).1) (hl : H.length = H0.length) (h0 : relHeap R0 w0 M H0 M F0)
    (hsh : ∀ (b : Nat) (c : Array Value) (e : TypeId) (q : Nat × Nat), w0.heap[b]? = some (.cells c e q) → ∃ c', w.heap[b]? = some (.cells c' e q) ∧ c'.size = c.size) (ha : relA1 R0 w0 M a u fz) (ho : relO R w o u F2) (hH : relHeap R w M H M FH) :
    ∃ FH', relHeap R w M (back1 H0 H a o).2 M FH' ∧ leF FH' (fa FH F2) ∧ (back1 H0 H a o).2.length = H0.length := by
  unfold back1 at h ⊢
  split at h
  · rename_i l len sz rows
    split at h
    · rename_i sz0 rows0 hlv
      simp only at h ⊢
      subst h
      simp only [relA1, relT] at ha
      obtain ⟨-, L, a, cap, hL, rfl, hcap, hroom, had⟩ := ha
      have hlt : l < H.length := by rw [hl]; exact (List.getElem?_eq_some_iff.1 hlv).1
      obtain ⟨L', F1', F2', hL', rfl, -, hput⟩ := relHeap_get hH (List.getElem?_eq_getElem hlt)
      rw [hL] at hL'
      simp only [Option.some.injEq] at hL'
      subst hL'
      have hsz := heap_sz h0 hlv hL
      simp only [relO, relT] at ho
      obtain ⟨L2, a2, cap2, e1, e2, e3, e4, e5, e6⟩ := ho
      simp only [Value.slice.injEq] at e2
      obtain ⟨rfl, rfl, rfl⟩ := e2
      have hobj : ∃ G, relObj R w M L (.live sz0 rows) G ∧ leF G F2 := by
        rcases e6 with ⟨g1, g2, g3⟩ | ⟨c, F', g1, g2, g3⟩
        · exact ⟨F2, ⟨hsz, .inl ⟨g1, by omega, g3⟩⟩, fun _ => Nat.le_refl _⟩
        · by_cases hc : cap = 0
          · have hr0 : rows = [] := List.eq_nil_of_length_eq_zero (by omega)
            exact ⟨fz, ⟨hsz, .inl ⟨hr0, by omega, rfl⟩⟩, fun _ => Nat.zero_le _⟩
          · have ea := had.resolve_left hc
            have eb := e5.resolve_left hc
            rw [ea] at eb
            simp only [Option.some.injEq, Addr.mk.injEq, and_true] at eb
            obtain ⟨eb1, eb2⟩ := eb
            have hLL : L2 = L := by
              cases L; cases L2
              simp only at *
              simp only [Loc.mk.injEq]
              omega
            subst hLL
            exact ⟨F2, ⟨hsz, .inr ⟨c, F', g1, by omega, relTRows_mono (fun _ h => h) (nil_pre M) c L2.sz rows L2.o F' (fun _ _ => rfl) g2, g3⟩⟩, fun _ => Nat.le_refl _⟩
      obtain ⟨G, hG, hle⟩ := hobj
      exact ⟨_, hput R w M _ G (fun _ h => h) (List.prefix_refl _) (fun _ _ => rfl) hG, fun b => by have := hle b; simp only [fa]; omega, by simp [hl]⟩
    · simp at h
  · rename_i l row
    split at h
    · rename_i sz0 r0 rs0 hlv
      simp only at h ⊢
      subst h
      simp only [relA1, relT] at ha
      obtain ⟨-, L, hL, rfl⟩ := ha
      have hlt : l < H.length := by rw [hl]; exact (List.getElem?_eq_some_iff.1 hlv).1
      obtain ⟨L', F1', F2', hL', rfl, -, hput⟩ := relHeap_get hH (List.getElem?_eq_getElem hlt)
      rw [hL] at hL'
      simp only [Option.some.injEq] at hL'
      subst hL'
      have hsz := heap_sz h0 hlv hL
      obtain ⟨L0, K1, K2, hL0, -, hobj0, -⟩ := relHeap_get h0 hlv
      rw [hL] at hL0
      simp only [Option.some.injEq] at hL0
      subst hL0
      obtain ⟨-, hobj0⟩ := hobj0
      rcases hobj0 with ⟨hn, -⟩ | ⟨c0, K', ⟨ex, lox, hix, hbx, hfx, hexx⟩, hrx, -, -⟩
      · simp at hn
      simp only [relO, relT] at ho
      obtain ⟨L2, c, F', e1, e2, e3, ⟨e', lo, hi, g1, g2, g3⟩, e5, e6⟩ := ho
      simp only [Value.pointer.injEq, Option.some.injEq, Addr.mk.injEq, and_true] at e1
      obtain ⟨eb1, eb2⟩ := e1
      obtain ⟨c', s1, s2⟩ := hsh L.b c0 ex (lox, hix) hbx
      rw [eb1, g1] at s1
      simp only [Option.some.injEq, Obj.cells.injEq, Prod.mk.injEq] at s1
      obtain ⟨rfl, rfl, rfl, rfl⟩ := s1
      have hobj : relObj R w M L (.live row.length [row]) F2 := by
        refine ⟨hsz, .inr ⟨c, F', ⟨e', lo, hi, by rw [eb1]; exact g1, g2, by rw [s2]; exact hexx⟩, by simp at hrx ⊢; omega, ?_, by rw [eb1]; exact e6⟩⟩
        simp only [relTRows]
        refine ⟨F', fz, hsz.symm, relTRow_mono (fun _ h => h) (nil_pre M) c row L.o F' (fun _ _ => rfl) ?_, rfl, rfl⟩
        have : L.o = L2.o := by omega
        rw [this]
        exact e5
      exact ⟨_, hput R w M _ F2 (fun _ h => h) (List.prefix_refl _) (fun _ _ => rfl) hobj, fun b => by simp only [fa]; omega, by simp [hl]⟩
    · simp at h
  · have hF : F2 = fz := ho
    subst hF
    exact ⟨FH, hH, fun b => by simp only [fa, fz]; omega, hl⟩
  · simp at h
theorem backAL_sound {H0 : List AObj} {F0 : FP} {R0 : Nat → Prop} {w0 : World} (h0 : relHeap R0 w0 M H0 M F0) (hsh : ∀ (b : Nat) (c : Array Value) (e : TypeId) (q : Nat × Nat), w0.heap[b]? = some (.cells c e q) → ∃ c', w.heap[b]? = some (.cells c' e q) ∧ c'.size = c.size) :
    ∀ {as_ : List A1} {os : List (Option T)} {us : List Value} {H : List AObj} {F2 FH : FP}, (backAL H0 H as_ os).1 → H.length = H0.length → relAL R0 w0 M as_ us fz → relOs R w os us F2 → relHeap R w M H M FH →
    ∃ FH', relHeap R w M (backAL H0 H as_ os).2 M FH' ∧ leF FH' (fa FH F2)
  | [], [], [], H, F2, FH, h, hl, ha, ho, hH => ⟨FH, hH, fun b => by simp only [fa]; omega⟩
  | a :: as_, o :: os, u :: us, H, F2, FH, h, hl, ha, ho, hH => by
    simp only [backAL] at h ⊢
    obtain ⟨G1, G2, h1, h2, he⟩ := ha
    obtain ⟨rfl, rfl⟩ := fz_split he
    obtain ⟨K1, K2, k1, k2, rfl⟩ := ho
    obtain ⟨FH1, q1, q2, q3⟩ := back1_sound h.1 hl h0 hsh h1 k1 hH
    obtain ⟨FH2, p1, p2⟩ := backAL_sound h0 hsh h.2 q3 h2 k2 q1
    exact ⟨FH2, p1, fun b => by have := q2 b; have := p2 b; simp only [fa] at *; omega⟩
  | [], _ :: _, us, H, F2, FH, h, hl, ha, ho, hH => by simp [backAL] at h
  | _ :: _, [], us, H, F2, FH, h, hl, ha, ho, hH => by simp [backAL] at h
  | [], [], _ :: _, H, F2, FH, h, hl, ha, ho, hH => ha.elim
  | _ :: _, _ :: _, [], H, F2, FH, h, hl, ha, ho, hH => ha.elim
theorem hcall_of_callOk {f : FuncId} {avs args : List A1} {H : List AObj} {ret : AV} {outs : List (Option T)} {K : AV → List AObj → Prop} (n : Nat) (sn : Bool) (hc : CallOk P f args ret outs)
    (h1 : (takeAL n H avs args).1) (h2 : lookAL sn n (takeAL n H avs args).2 avs args) (h3 : sn = true → noRoAV ret = true ∧ outs.all noRoO = true) (h4 : (backAL H (takeAL n H avs args).2 avs outs).1)
    (hK : K (nameAV ret (backAL H (takeAL n H avs args).2 avs outs).2.length).1 ((backAL H (takeAL n H avs args).2 avs outs).2 ++ (nameAV ret (backAL H (takeAL n H avs args).2 avs outs).2.length).2)) : HCall P f avs H K := by
  refine ⟨hc.1, fun R w M us F ha hH hg => ?_⟩
  obtain ⟨F1, FH1, t1, t2, t3⟩ := takeAL_sound h1 ha hH
  have hF1 : ∀ b, F1 b ≤ F b ∧ FH1 b ≤ F b ∧ F1 b + FH1 b ≤ 1 := fun b => by have := t3 b; have := hg.one b; simp only [fa] at *; omega
  have l1 := lookAL_sound (Rc := fun b => R b ∨ (sn = true ∧ 1 ≤ FH1 b)) t2 (fun b hb => .inl hb) (fun hs b hb => .inr ⟨hs, hb⟩) h2 ha t1
  have hgc : Good (fun b => R b ∨ (sn = true ∧ 1 ≤ FH1 b)) w F1 := by
    refine ⟨fun b => by have := hF1 b; omega, fun b hb => ?_, fun b hb => ?_, hg.inv.mono (fun _ h => .inl h) (Nat.le_refl _) fun _ _ => rfl⟩
    · have h5 := hg.own b (by have := hF1 b; omega)
      exact ⟨fun h => by rcases h with h | h; exact h5.1 h; have := hF1 b; omega, h5.2⟩
    · rcases hb with hb | hb
      · exact hg.ro b hb
      · exact (hg.own b (by have := hF1 b; omega)).2
  refine (hc.2 _ w us F1 l1 hgc).mono ?_
  rintro e w' ⟨u, R', G1, G2, rfl, g1, g2, g3, g4⟩
  have hF1R : ∀ b, R b → F1 b = 0 := fun b hb => by
    cases hz : F1 b with
    | zero => rfl
    | succ k => exact absurd (Or.inl hb) (hgc.own b (by omega)).1
  have hsame : ∀ b, R b ∨ 1 ≤ FH1 b → w'.heap[b]? = w.heap[b]? := fun b hb => by
    rcases hb with hb | hb
    · exact g4.same b (hg.ro b hb) (hF1R b hb)
    · exact g4.same b (hg.own b (by have := hF1 b; omega)).2 (by have := hF1 b; omega)
  -- what is read alone from here on
  have hR2 : ∃ R2 : Nat → Prop, (∀ b, R b → R2 b) ∧ (∀ b, R2 b → b < w'.heap.size) ∧ (∀ b, 1 ≤ FH1 b → ¬ R2 b) ∧ (∀ b, 1 ≤ (fa G1 G2) b → ¬ R2 b) ∧ (∀ b, R2 b → R b ∨ 1 ≤ F b ∨ w.heap.size ≤ b) ∧ relAV R2 w' [] ret u G1 ∧ relOs R2 w' outs us G2 := by
    cases sn with
    | true =>
      obtain ⟨n1, n2⟩ := h3 rfl
      refine ⟨R, fun _ h => h, fun b hb => Nat.lt_of_lt_of_le (hg.ro b hb) g4.size, fun b hb => (hg.own b (by have := hF1 b; omega)).1, fun b hb h => (g3.own b hb).1 (g4.sub b (.inl h)), fun b hb => .inl hb, noRoAV_rel n1 g1, noRoOs_rel n2 g2⟩
    | false =>
      refine ⟨R', fun b hb => g4.sub b (.inl hb), g3.ro, fun b hb h => ?_, fun b hb => (g3.own b hb).1, fun b hb => ?_, g1, g2⟩
      · rcases g4.ro b h with h5 | h5 | h5
        · rcases h5 with h5 | h5
          · exact (hg.own b (by have := hF1 b; omega)).1 h5
          · simp at h5
        · have := hF1 b; omega
        · have := (hg.own b (by have := hF1 b; omega)).2; omega
      · rcases g4.ro b hb with h5 | h5 | h5
        · rcases h5 with h5 | h5
          · exact .inl h5
          · simp at h5
        · exact .inr (.inl (by have := hF1 b; omega))
        · exact .inr (.inr h5)
  obtain ⟨R2, r1, r2, r3, r4, r5, r6, r7⟩ := hR2
  have hHn := relHeap_mono (R' := R2) (w' := w') r1 (List.prefix_refl M) hsame t2
  have hlen : (takeAL n H avs args).2.length = H.length := by rw [relHeap_len hHn, relHeap_len hH]
  obtain ⟨FH2, b1, b2⟩ := backAL_sound (w := w') hH g4.shape h4 hlen ha r7 hHn
  obtain ⟨N, m1, m2⟩ := nameAV_sound (relAV_mono (fun _ h => h) (nil_pre M) (fun _ _ => rfl) r6) b1
  have hle : ∀ b, (fa FH2 G1) b ≤ FH1 b + (fa G1 G2) b := fun b => by have := b2 b; simp only [fa] at *; omega
  have hdis : ∀ b, 1 ≤ FH1 b → (fa G1 G2) b = 0 := fun b hb => by
    cases hz : (fa G1 G2) b with
    | zero => rfl
    | succ k =>
      rcases g4.own b (by omega) with h5 | h5
      · have := hF1 b; omega
      · have := (hg.own b (by have := hF1 b; omega)).2; omega
  refine ⟨u, _, _, R2, N, _, rfl, hK, m1, m2, ⟨fun b => ?_, fun b hb => ?_, r2, hg.inv.mono r1 g4.size fun b hb => hsame b (.inl hb)⟩, ⟨g4.os, g4.tape, g4.output, g4.size, fun b hb h0 => g4.same b hb (by have := hF1 b; omega), r1, fun b hb => ?_, r5, g4.shape⟩⟩
  · have h5 := hle b
    by_cases h6 : 1 ≤ FH1 b
    · have := hdis b h6
      have := hF1 b
      omega
    · have := g3.one b
      omega
  · have h5 := hle b
    by_cases h6 : 1 ≤ FH1 b
    · exact ⟨r3 b h6, Nat.lt_of_lt_of_le (hg.own b (by have := hF1 b; omega)).2 g4.size⟩
    · exact ⟨r4 b (by omega), (g3.own b (by omega)).2⟩
  · have h5 := hle b
    by_cases h6 : 1 ≤ FH1 b
    · exact .inl (by have := hF1 b; omega)
    · rcases g4.own b (by omega) with h7 | h7
      · exact .inl (by have := hF1 b; omega)
      · exact .inr h7
end Go.Proofs.YtgeoipplkjgnfaaDoor.E
