/- The abstract memory: contracts of functions over closed values, proved from a function's text and used in a call. No condition beside those that stand in each statement. -/
import Derived.Test.YtgeoipplkjgnfaaDoorEng15
set_option linter.unusedVariables false
set_option linter.unusedSimpArgs false
namespace Go.Proofs.YtgeoipplkjgnfaaDoor.E
variable {P : Program} {R R' : Nat → Prop} {w w' : World} {M M' : List Loc} {c : Array Value}

/-! ### What is shown to a callee, to be read alone -/
def lookRowBy (p : T → D → Prop) : List T → List D → Prop
  | [], [] => True
  | t :: ts, d :: ds => p t d ∧ lookRowBy p ts ds
  | _, _ => False
def lookRowsBy (p : T → D → Prop) : List (List T) → List (List D) → Prop
  | [], [] => True
  | r :: rs, d :: ds => lookRowBy p r d ∧ lookRowsBy p rs ds
  | _, _ => False
def lookD : Nat → List AObj → T → D → Prop
  | 0, _, _, _ => False
  | n + 1, H, t, d => match t, d with
    | .v x, .v y => x = y
    | .v x, .l _ rows' => isNil x = true ∧ rows' = []
    | .ro sz rows, .l sz' rows' => sz = sz' ∧ rows = rows'
    | .own sz rows, .l sz' rows' => sz = sz' ∧ lookRowsBy (lookD n H) rows rows'
    | .ref l off len, .l sz' rows' => match H[l]? with
      | some (.live sz rows) => sz = sz' ∧ off + len ≤ rows.length ∧ lookRowsBy (lookD n H) ((rows.drop off).take len) rows'
      | _ => False
    | _, _ => False
theorem lookRowBy_len {p : T → D → Prop} : ∀ {ts : List T} {ds : List D}, lookRowBy p ts ds → ts.length = ds.length
  | [], [], h => rfl
  | t :: ts, d :: ds, h => by simp [lookRowBy_len h.2]
  | [], _ :: _, h => h.elim
  | _ :: _, [], h => h.elim
theorem lookRowsBy_len {p : T → D → Prop} : ∀ {ts : List (List T)} {ds : List (List D)}, lookRowsBy p ts ds → ts.length = ds.length
  | [], [], h => rfl
  | t :: ts, d :: ds, h => by simp [lookRowsBy_len h.2]
  | [], _ :: _, h => h.elim
  | _ :: _, [], h => h.elim
theorem lookRowsBy_map {α : Type} {p : T → D → Prop} {f : α → List T} {g : α → List D} : ∀ {xs : List α}, (∀ x ∈ xs, lookRowBy p (f x) (g x)) → lookRowsBy p (xs.map f) (xs.map g)
  | [], h => trivial
  | x :: xs, h => ⟨h x (by simp), lookRowsBy_map fun y hy => h y (by simp [hy])⟩
theorem lookRow_sound {Rc : Nat → Prop} {p : T → D → Prop} : ∀ {ts : List T} {ds : List D} {o : Nat} {F : FP} (hp : ∀ t d u G, p t d → relT R w M t u G → leF G F → relD Rc w d u), lookRowBy p ts ds → relTRow R w M c ts o F → relDRow Rc w c ds o
  | [], [], o, F, hp, h, hr => by simp [relDRow]
  | t :: ts, d :: ds, o, F, hp, h, hr => by
    simp only [relTRow] at hr
    obtain ⟨u, F1, F2, h1, h2, h3, rfl⟩ := hr
    simp only [relDRow]
    exact ⟨⟨u, h1, hp t d u F1 h.1 h2 (fun b => by simp only [fa]; omega)⟩, lookRow_sound (fun t d u G h1 h2 h3 => hp t d u G h1 h2 (fun b => by have := h3 b; simp only [fa]; omega)) h.2 h3⟩
  | [], _ :: _, o, F, hp, h, hr => h.elim
  | _ :: _, [], o, F, hp, h, hr => h.elim
theorem lookRows_sound {Rc : Nat → Prop} {p : T → D → Prop} {sz : Nat} : ∀ {ts : List (List T)} {ds : List (List D)} {o : Nat} {F : FP} (hp : ∀ t d u G, p t d → relT R w M t u G → leF G F → relD Rc w d u), lookRowsBy p ts ds → relTRows R w M c sz ts o F → relDRows Rc w c sz ds o
  | [], [], o, F, hp, h, hr => by simp [relDRows]
  | t :: ts, d :: ds, o, F, hp, h, hr => by
    simp only [relTRows] at hr
    obtain ⟨F1, F2, h1, h2, h3, rfl⟩ := hr
    simp only [relDRows]
    refine ⟨by rw [← lookRowBy_len h.1]; exact h1, lookRow_sound (fun t d u G h1 h2 h3 => hp t d u G h1 h2 (fun b => by have := h3 b; simp only [fa]; omega)) h.1 h2, lookRows_sound (fun t d u G h1 h2 h3 => hp t d u G h1 h2 (fun b => by have := h3 b; simp only [fa]; omega)) h.2 h3⟩
  | [], _ :: _, o, F, hp, h, hr => h.elim
  | _ :: _, [], o, F, hp, h, hr => h.elim
theorem lookD_sound {Rc : Nat → Prop} {H : List AObj} {FH : FP} (hH : relHeap R w M H M FH) (hR : ∀ b, R b → Rc b) (hF : ∀ b, 1 ≤ FH b → Rc b) : ∀ (n : Nat) (t : T) (d : D) (u : Value) (F : FP), lookD n H t d → relT R w M t u F → (∀ b, 1 ≤ F b → Rc b) → relD Rc w d u
  | 0, t, d, u, F, h, hr, hf => by simp [lookD] at h
  | n + 1, t, d, u, F, h, hr, hf => by
    unfold lookD at h
    split at h
    · subst h
      simp only [relT] at hr
      simp only [relD]
      exact ⟨hr.1, hr.2.1⟩
    · obtain ⟨hx, rfl⟩ := h
      simp only [relT] at hr
      obtain ⟨rfl, -, -⟩ := hr
      unfold isNil at hx
      split at hx <;> try (simp at hx; done)
      simp only [relD]
      exact ⟨none, 0, rfl, by simp, .inl trivial⟩
    · obtain ⟨rfl, rfl⟩ := h
      simp only [relT] at hr
      exact relD_mono hR (fun _ _ => rfl) _ _ hr.1
    · rename_i sz rows sz' rows'
      obtain ⟨rfl, hl⟩ := h
      simp only [relT] at hr
      obtain ⟨L, a, cap, hLs, rfl, hcap, hroom, ha, hx⟩ := hr
      have hlen := lookRowsBy_len hl
      simp only [relD]
      refine ⟨a, cap, by rw [hlen], by omega, ?_⟩
      by_cases hne : rows' = []
      · exact .inl hne
      · right
        have hpos : 0 < rows'.length := List.length_pos_iff.2 hne
        rcases hx with ⟨rfl, -⟩ | ⟨c, F', ⟨e, lo, hi, hb, -, -⟩, hrr, rfl⟩
        · simp at hlen; omega
        have ha2 := ha.resolve_left (by omega)
        subst ha2
        rw [hLs] at hrr
        exact ⟨L.b, L.o, c, e, (lo, hi), rfl, hf _ (by simp [fa, fd_self]), hb, lookRows_sound (fun t d u G h1 h2 h3 => lookD_sound hH hR hF n t d u G h1 h2 (fun b hb => hf b (by have := h3 b; simp only [fa]; omega))) hl hrr⟩
    · rename_i l off len sz' rows'
      split at h
      · rename_i sz rows hlv
        obtain ⟨rfl, hle, hl⟩ := h
        simp only [relT] at hr
        obtain ⟨-, L, a, cap, hL, rfl, hcap, hroom, ha⟩ := hr
        obtain ⟨L', F1, F2, hL', hFH, hobj, -⟩ := relHeap_get hH hlv
        rw [hL] at hL'
        simp only [Option.some.injEq] at hL'
        subst hL'
        obtain ⟨hLs, hobj⟩ := hobj
        have hlen := lookRowsBy_len hl
        have hlen2 : ((rows.drop off).take len).length = len := by simp; omega
        simp only [relD]
        refine ⟨a, cap, by rw [← hlen, hlen2], by omega, ?_⟩
        by_cases hne : rows' = []
        · exact .inl hne
        · right
          have hpos : 0 < rows'.length := List.length_pos_iff.2 hne
          have ha2 := ha.resolve_left (by omega)
          subst ha2
          rcases hobj with ⟨rfl, -⟩ | ⟨c, F', ⟨e, lo, hi, hb, -, -⟩, hrm, hrr, rfl⟩
          · simp at hle; omega
          have hsplit : rows = rows.take off ++ (((rows.drop off).take len) ++ rows.drop (off + len)) := by
            rw [← List.drop_drop, List.take_append_drop, List.take_append_drop]
          rw [hsplit, relTRows_append] at hrr
          obtain ⟨Fa, Fb', g1, g2, rfl⟩ := hrr
          rw [relTRows_append] at g2
          obtain ⟨Fs, Fc, g3, g4, rfl⟩ := g2
          have htk : (rows.take off).length = off := by simp; omega
          rw [htk, hLs] at g3
          refine ⟨L.b, L.o + off * L.sz, c, e, (lo, hi), rfl, hF _ (by rw [hFH]; simp only [fa, fd_self]; omega), hb, ?_⟩
          rw [hLs]
          exact lookRows_sound (fun t d u G h1 h2 h3 => lookD_sound hH hR hF n t d u G h1 h2 (fun b hb => hF b (by rw [hFH]; have := h3 b; simp only [fa]; omega))) hl g3
      · exact h.elim
    · exact h.elim

/-! ### Arguments handed over -/
def ownish : T → Bool
  | .own _ _ | .box _ => true
  | _ => false
def takeT (n : Nat) (H : List AObj) (t t' : T) : Prop × List AObj := if ownish t' = true then fitT n H t t' else (True, H)
def takeRow (n : Nat) : List AObj → List T → List T → Prop × List AObj
  | H, [], [] => (True, H)
  | H, t :: ts, t' :: ts' => ((takeT n H t t').1 ∧ (takeRow n (takeT n H t t').2 ts ts').1, (takeRow n (takeT n H t t').2 ts ts').2)
  | H, _, _ => (False, H)
def takeA1 (n : Nat) (H : List AObj) : A1 → A1 → Prop × List AObj
  | .one t, .one t' => takeT n H t t'
  | .agg ts, .agg ts' => takeRow n H ts ts'
  | _, .any => (True, H)
  | _, _ => (False, H)
def takeAL (n : Nat) : List AObj → List A1 → List A1 → Prop × List AObj
  | H, [], [] => (True, H)
  | H, a :: as_, b :: bs => ((takeA1 n H a b).1 ∧ (takeAL n (takeA1 n H a b).2 as_ bs).1, (takeAL n (takeA1 n H a b).2 as_ bs).2)
  | H, _, _ => (False, H)
def isRo : T → Bool
  | .ro _ _ => true
  | .v x => isNil x
  | _ => false
def lookT (sn : Bool) (n : Nat) (H : List AObj) (t t' : T) : Prop := match t' with
  | .own _ _ | .box _ => True
  | .ro sz rows => (sn = true ∨ isRo t = true) ∧ lookD n H t (.l sz rows)
  | .v y => t = .v y
  | .rp row col => t = .rp row col
  | .fn f cap => t = .fn f cap ∧ closedRow cap = true
  | _ => False
def lookRow (sn : Bool) (n : Nat) (H : List AObj) : List T → List T → Prop
  | [], [] => True
  | t :: ts, t' :: ts' => lookT sn n H t t' ∧ lookRow sn n H ts ts'
  | _, _ => False
def lookA1 (sn : Bool) (n : Nat) (H : List AObj) : A1 → A1 → Prop
  | .one t, .one t' => lookT sn n H t t'
  | .agg ts, .agg ts' => lookRow sn n H ts ts'
  | _, .any => True
  | _, _ => False
def lookAL (sn : Bool) (n : Nat) (H : List AObj) : List A1 → List A1 → Prop
  | [], [] => True
  | a :: as_, b :: bs => lookA1 sn n H a b ∧ lookAL sn n H as_ bs
  | _, _ => False
/-- The first pass: what is taken. -/
def halfT (R : Nat → Prop) (w : World) (t' : T) (u : Value) (F : FP) : Prop := if ownish t' = true then relT R w [] t' u F else F = fz
theorem takeT_sound {n : Nat} {H : List AObj} {t t' : T} {u : Value} {FH : FP} (h : (takeT n H t t').1) (hr : relT R w M t u fz) (hH : relHeap R w M H M FH) :
    ∃ F1 FH', halfT R w t' u F1 ∧ relHeap R w M (takeT n H t t').2 M FH' ∧ leF (fa F1 FH') FH := by
  unfold takeT halfT at *
  by_cases ho : ownish t' = true
  · simp only [ho, if_true] at h ⊢
    obtain ⟨F1, FH', q1, q2, q3⟩ := fitT_sound n H t t' u fz FH h hr hH
    exact ⟨F1, FH', q1, q2, fun b => by have := q3 b; simp only [fa, fz] at this ⊢; omega⟩
  · simp only [ho, if_false, Bool.false_eq_true] at h ⊢
    exact ⟨fz, FH, rfl, hH, fun b => by simp only [fa, fz]; omega⟩
def halfRow (R : Nat → Prop) (w : World) (c : Array Value) : List T → Nat → FP → Prop
  | [], _, F => F = fz
  | t :: ts, o, F => ∃ u F1 F2, c[o]? = some u ∧ halfT R w t u F1 ∧ halfRow R w c ts (o + 1) F2 ∧ F = fa F1 F2
theorem fz_split {F1 F2 : FP} (he : fz = fa F1 F2) : F1 = fz ∧ F2 = fz := by
  constructor <;> (funext b; have := congrFun he b; simp only [fz, fa] at this ⊢; omega)
theorem takeRow_sound {n : Nat} : ∀ {ts ts' : List T} {H : List AObj} {o : Nat} {FH : FP}, (takeRow n H ts ts').1 → relTRow R w M c ts o fz → relHeap R w M H M FH →
    ∃ F1 FH', halfRow R w c ts' o F1 ∧ relHeap R w M (takeRow n H ts ts').2 M FH' ∧ leF (fa F1 FH') FH ∧ ts.length = ts'.length
  | [], [], H, o, FH, h, hr, hH => ⟨fz, FH, rfl, hH, fun b => by simp only [fa, fz]; omega, rfl⟩
  | t :: ts, t' :: ts', H, o, FH, h, hr, hH => by
    simp only [takeRow] at h ⊢
    simp only [relTRow] at hr
    obtain ⟨u, F1, F2, h1, h2, h3, he⟩ := hr
    obtain ⟨rfl, rfl⟩ := fz_split he
    obtain ⟨G1, GH, q1, q2, q3⟩ := takeT_sound h.1 h2 hH
    obtain ⟨G2, GH2, p1, p2, p3, p4⟩ := takeRow_sound h.2 h3 q2
    exact ⟨fa G1 G2, GH2, ⟨u, G1, G2, h1, q1, p1, rfl⟩, p2, fun b => by have := q3 b; have := p3 b; simp only [fa] at *; omega, by simp [p4]⟩
  | [], _ :: _, H, o, FH, h, hr, hH => by simp [takeRow] at h
  | _ :: _, [], H, o, FH, h, hr, hH => by simp [takeRow] at h
def halfA1 (R : Nat → Prop) (w : World) : A1 → Value → FP → Prop
  | .one t, u, F => halfT R w t u F
  | .agg ts, u, F => ∃ c : Array Value, u = .agg c ∧ c.size = ts.length ∧ halfRow R w c ts 0 F
  | .any, u, F => F = fz
theorem takeA1_sound {n : Nat} {H : List AObj} {a b : A1} {u : Value} {FH : FP} (h : (takeA1 n H a b).1) (hr : relA1 R w M a u fz) (hH : relHeap R w M H M FH) :
    ∃ F1 FH', halfA1 R w b u F1 ∧ relHeap R w M (takeA1 n H a b).2 M FH' ∧ leF (fa F1 FH') FH := by
  unfold takeA1 at h ⊢
  split at h
  · exact takeT_sound h hr hH
  · obtain ⟨c, rfl, h2, h3⟩ := hr
    obtain ⟨F1, FH', q1, q2, q3, q4⟩ := takeRow_sound h h3 hH
    exact ⟨F1, FH', ⟨c, rfl, by omega, q1⟩, q2, q3⟩
  · exact ⟨fz, FH, rfl, hH, fun b => by simp only [fa, fz]; omega⟩
  · simp at h
def halfAL (R : Nat → Prop) (w : World) : List A1 → List Value → FP → Prop
  | [], [], F => F = fz
  | a :: as_, u :: us, F => ∃ F1 F2, halfA1 R w a u F1 ∧ halfAL R w as_ us F2 ∧ F = fa F1 F2
  | _, _, _ => False
theorem takeAL_sound {n : Nat} : ∀ {as_ bs : List A1} {us : List Value} {H : List AObj} {FH : FP}, (takeAL n H as_ bs).1 → relAL R w M as_ us fz → relHeap R w M H M FH →
    ∃ F1 FH', halfAL R w bs us F1 ∧ relHeap R w M (takeAL n H as_ bs).2 M FH' ∧ leF (fa F1 FH') FH
  | [], [], [], H, FH, h, hr, hH => ⟨fz, FH, rfl, hH, fun b => by simp only [fa, fz]; omega⟩
  | a :: as_, b :: bs, u :: us, H, FH, h, hr, hH => by
    simp only [takeAL] at h ⊢
    obtain ⟨F1, F2, h1, h2, he⟩ := hr
    obtain ⟨rfl, rfl⟩ := fz_split he
    obtain ⟨G1, GH, q1, q2, q3⟩ := takeA1_sound h.1 h1 hH
    obtain ⟨G2, GH2, p1, p2, p3⟩ := takeAL_sound h.2 h2 q2
    exact ⟨fa G1 G2, GH2, ⟨G1, G2, q1, p1, rfl⟩, p2, fun b => by have := q3 b; have := p3 b; simp only [fa] at *; omega⟩
  | [], _ :: _, us, H, FH, h, hr, hH => by simp [takeAL] at h
  | _ :: _, [], us, H, FH, h, hr, hH => by simp [takeAL] at h
  | [], [], _ :: _, H, FH, h, hr, hH => hr.elim
  | _ :: _, _ :: _, [], H, FH, h, hr, hH => hr.elim
/-- The second pass: what is shown. 'Rc': what the callee may not touch. -/
theorem lookT_sound {sn : Bool} {Rc : Nat → Prop} {n : Nat} {H : List AObj} {t t' : T} {u : Value} {F FH : FP} (h : lookT sn n H t t') (hr : relT R w M t u fz) (hh : halfT R w t' u F) (hH : relHeap R w M H M FH) (hR : ∀ b, R b → Rc b) (hF : sn = true → ∀ b, 1 ≤ FH b → Rc b) : relT Rc w [] t' u F := by
  unfold lookT at h
  split at h
  · exact relT_mono hR (List.prefix_refl _) _ u F (fun _ _ => rfl) (by simpa [halfT, ownish] using hh)
  · exact relT_mono hR (List.prefix_refl _) _ u F (fun _ _ => rfl) (by simpa [halfT, ownish] using hh)
  · have hz : F = fz := by simpa [halfT, ownish] using hh
    subst hz
    simp only [relT]
    refine ⟨?_, trivial⟩
    rcases h.1 with hs | hs
    · exact lookD_sound hH hR (hF hs) n t _ u fz h.2 hr (fun b hb => by simp [fz] at hb)
    · cases n with
      | zero => simp [lookD] at h
      | succ n =>
        have h2 := h.2
        unfold isRo at hs
        split at hs
        · simp only [lookD] at h2
          obtain ⟨rfl, rfl⟩ := h2
          simp only [relT] at hr
          exact relD_mono hR (fun _ _ => rfl) _ _ hr.1
        · simp only [lookD] at h2
          obtain ⟨-, rfl⟩ := h2
          simp only [relT] at hr
          obtain ⟨rfl, -, -⟩ := hr
          unfold isNil at hs
          split at hs <;> try (simp at hs; done)
          simp only [relD]
          exact ⟨none, 0, rfl, by simp, .inl trivial⟩
        · simp at hs
  · have hz : F = fz := by simpa [halfT, ownish] using hh
    subst hz h
    simpa [relT] using hr
  · have hz : F = fz := by simpa [halfT, ownish] using hh
    subst hz h
    exact relT_mono hR (List.nil_prefix) _ u fz (fun _ _ => rfl) (closedT_rel (M' := []) _ u fz rfl hr)
  · have hz : F = fz := by simpa [halfT, ownish] using hh
    obtain ⟨rfl, hc⟩ := h
    subst hz
    exact relT_mono hR (List.nil_prefix) _ u fz (fun _ _ => rfl) (closedT_rel (M' := []) _ u fz (by simpa [closedT] using hc) hr)
  · exact h.elim
theorem lookRow2_sound {sn : Bool} {Rc : Nat → Prop} {n : Nat} {H : List AObj} {FH : FP} (hH : relHeap R w M H M FH) (hR : ∀ b, R b → Rc b) (hF : sn = true → ∀ b, 1 ≤ FH b → Rc b) : ∀ {ts ts' : List T} {o : Nat} {F : FP}, lookRow sn n H ts ts' → relTRow R w M c ts o fz → halfRow R w c ts' o F → relTRow Rc w [] c ts' o F
  | [], [], o, F, h, hr, hh => by simpa [relTRow, halfRow] using hh
  | t :: ts, t' :: ts', o, F, h, hr, hh => by
    simp only [relTRow] at hr ⊢
    obtain ⟨u, F1, F2, h1, h2, h3, he⟩ := hr
    obtain ⟨rfl, rfl⟩ := fz_split he
    obtain ⟨v, G1, G2, g1, g2, g3, rfl⟩ := hh
    rw [h1, Option.some.injEq] at g1
    subst g1
    exact ⟨u, G1, G2, h1, lookT_sound h.1 h2 g2 hH hR hF, lookRow2_sound hH hR hF h.2 h3 g3, rfl⟩
  | [], _ :: _, o, F, h, hr, hh => h.elim
  | _ :: _, [], o, F, h, hr, hh => h.elim
theorem lookAL_sound {sn : Bool} {Rc : Nat → Prop} {n : Nat} {H : List AObj} {FH : FP} (hH : relHeap R w M H M FH) (hR : ∀ b, R b → Rc b) (hF : sn = true → ∀ b, 1 ≤ FH b → Rc b) : ∀ {as_ bs : List A1} {us : List Value} {F : FP}, lookAL sn n H as_ bs → relAL R w M as_ us fz → halfAL R w bs us F → relAL Rc w [] bs us F
  | [], [], [], F, h, hr, hh => hh
  | a :: as_, b :: bs, u :: us, F, h, hr, hh => by
    obtain ⟨F1, F2, h1, h2, he⟩ := hr
    obtain ⟨rfl, rfl⟩ := fz_split he
    obtain ⟨G1, G2, g1, g2, rfl⟩ := hh
    refine ⟨G1, G2, ?_, lookAL_sound hH hR hF h.2 h2 g2, rfl⟩
    have h0 := h.1
    unfold lookA1 at h0
    split at h0
    · exact lookT_sound h0 h1 g1 hH hR hF
    · obtain ⟨c, rfl, c1, c2⟩ := h1
      obtain ⟨c', hc', c3, c4⟩ := g1
      simp only [Value.agg.injEq] at hc'
      subst hc'
      exact ⟨c, rfl, c3, lookRow2_sound hH hR hF h0 c2 c4⟩
    · exact g1
    · exact h0.elim
  | [], _ :: _, us, F, h, hr, hh => h.elim
  | _ :: _, [], us, F, h, hr, hh => h.elim
  | [], [], _ :: _, F, h, hr, hh => hr.elim
  | _ :: _, _ :: _, [], F, h, hr, hh => hr.elim
end Go.Proofs.YtgeoipplkjgnfaaDoor.E
