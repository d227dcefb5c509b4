/- The abstract memory: what is needed no more is forgotten, and the rest is named anew. No condition beside those that stand in each statement. -/
import Derived.Test.YtgeoipplkjgnfaaDoorEng19
set_option linter.unusedVariables false
set_option linter.unusedSimpArgs false
namespace Go.Proofs.YtgeoipplkjgnfaaDoor.E
variable {P : Program} {R R' : Nat → Prop} {w w' : World} {M M' : List Loc} {c : Array Value}

/-! ### Names in a value -/
mutual
def refsT : T → List Nat
  | .v _ => []
  | .ro _ _ => []
  | .own _ rows => refsRows rows
  | .ref l _ _ => [l]
  | .ptr l _ _ => [l]
  | .rp _ _ => []
  | .box row => refsRow row
  | .fn _ cap => refsRow cap
def refsRow : List T → List Nat
  | [] => []
  | t :: ts => refsT t ++ refsRow ts
def refsRows : List (List T) → List Nat
  | [] => []
  | r :: rs => refsRow r ++ refsRows rs
end
mutual
def renT (f : Nat → Nat) : T → T
  | .v x => .v x
  | .ro sz rows => .ro sz rows
  | .own sz rows => .own sz (renRows f rows)
  | .ref l off len => .ref (f l) off len
  | .ptr l r c => .ptr (f l) r c
  | .rp row c => .rp row c
  | .box row => .box (renRow f row)
  | .fn g cap => .fn g (renRow f cap)
def renRow (f : Nat → Nat) : List T → List T
  | [] => []
  | t :: ts => renT f t :: renRow f ts
def renRows (f : Nat → Nat) : List (List T) → List (List T)
  | [] => []
  | r :: rs => renRow f r :: renRows f rs
end
theorem renRow_len (f : Nat → Nat) : ∀ ts : List T, (renRow f ts).length = ts.length
  | [] => rfl
  | t :: ts => by simp [renRow, renRow_len f ts]
theorem renRows_len (f : Nat → Nat) : ∀ ts : List (List T), (renRows f ts).length = ts.length
  | [] => rfl
  | t :: ts => by simp [renRows, renRows_len f ts]
mutual
theorem closed_refsT : ∀ (t : T), closedT t = true → refsT t = []
  | .v _, h => rfl
  | .ro _ _, h => rfl
  | .own _ rows, h => by simp only [refsT]; exact closed_refsRows rows (by simpa [closedT] using h)
  | .ref _ _ _, h => by simp [closedT] at h
  | .ptr _ _ _, h => by simp [closedT] at h
  | .rp _ _, h => rfl
  | .box row, h => by simp only [refsT]; exact closed_refsRow row (by simpa [closedT] using h)
  | .fn _ cap, h => by simp only [refsT]; exact closed_refsRow cap (by simpa [closedT] using h)
theorem closed_refsRow : ∀ (ts : List T), closedRow ts = true → refsRow ts = []
  | [], h => rfl
  | t :: ts, h => by
    simp only [closedRow, Bool.and_eq_true] at h
    simp [refsRow, closed_refsT t h.1, closed_refsRow ts h.2]
theorem closed_refsRows : ∀ (rs : List (List T)), closedRows rs = true → refsRows rs = []
  | [], h => rfl
  | r :: rs, h => by
    simp only [closedRows, Bool.and_eq_true] at h
    simp [refsRows, closed_refsRow r h.1, closed_refsRows rs h.2]
end
mutual
theorem closed_renT (f : Nat → Nat) : ∀ (t : T), closedT t = true → renT f t = t
  | .v _, h => rfl
  | .ro _ _, h => rfl
  | .own _ rows, h => by simp only [renT, closed_renRows f rows (by simpa [closedT] using h)]
  | .ref _ _ _, h => by simp [closedT] at h
  | .ptr _ _ _, h => by simp [closedT] at h
  | .rp _ _, h => rfl
  | .box row, h => by simp only [renT, closed_renRow f row (by simpa [closedT] using h)]
  | .fn _ cap, h => by simp only [renT, closed_renRow f cap (by simpa [closedT] using h)]
theorem closed_renRow (f : Nat → Nat) : ∀ (ts : List T), closedRow ts = true → renRow f ts = ts
  | [], h => rfl
  | t :: ts, h => by
    simp only [closedRow, Bool.and_eq_true] at h
    simp [renRow, closed_renT f t h.1, closed_renRow f ts h.2]
theorem closed_renRows (f : Nat → Nat) : ∀ (rs : List (List T)), closedRows rs = true → renRows f rs = rs
  | [], h => rfl
  | r :: rs, h => by
    simp only [closedRows, Bool.and_eq_true] at h
    simp [renRows, closed_renRow f r h.1, closed_renRows f rs h.2]
end
section
variable {f : Nat → Nat}
def Carries (f : Nat → Nat) (M M' : List Loc) (l : Nat) : Prop := ∀ L, M[l]? = some L → M'[f l]? = some L
mutual
theorem renT_rel : ∀ (t : T) (u : Value) (F : FP), (∀ l ∈ refsT t, Carries f M M' l) → relT R w M t u F → relT R w M' (renT f t) u F
  | .v x, u, F, hc, h => h
  | .ro sz rows, u, F, hc, h => h
  | .own sz rows, u, F, hc, h => by
    simp only [renT, relT] at h ⊢
    simp only [refsT] at hc
    obtain ⟨L, a, cap, h0, h1, h2, h3, h4, h5⟩ := h
    refine ⟨L, a, cap, h0, by rw [renRows_len]; exact h1, by rw [renRows_len]; exact h2, h3, h4, ?_⟩
    rcases h5 with ⟨rfl, h5⟩ | ⟨c, F', h6, h7, h8⟩
    · exact .inl ⟨rfl, h5⟩
    · exact .inr ⟨c, F', h6, renRows_rel c L.sz rows L.o F' hc h7, h8⟩
  | .ref l off len, u, F, hc, h => by
    simp only [renT, relT] at h ⊢
    obtain ⟨h0, L, a, cap, h1, h2⟩ := h
    exact ⟨h0, L, a, cap, hc l (by simp [refsT]) L h1, h2⟩
  | .ptr l r c, u, F, hc, h => by
    simp only [renT, relT] at h ⊢
    obtain ⟨h0, L, h1, h2⟩ := h
    exact ⟨h0, L, hc l (by simp [refsT]) L h1, h2⟩
  | .rp row col, u, F, hc, h => h
  | .box row, u, F, hc, h => by
    simp only [renT, relT] at h ⊢
    simp only [refsT] at hc
    obtain ⟨L, c, F', h1, h2, h3, h4, h5, h6⟩ := h
    exact ⟨L, c, F', h1, by rw [renRow_len]; exact h2, h3, h4, renRow_rel c row L.o F' hc h5, h6⟩
  | .fn g cap, u, F, hc, h => by
    simp only [renT, relT] at h ⊢
    simp only [refsT] at hc
    obtain ⟨h0, c, h1, h2, h3⟩ := h
    exact ⟨h0, c, h1, by rw [renRow_len]; exact h2, renRow_rel c cap 0 fz hc h3⟩
theorem renRow_rel (c : Array Value) : ∀ (ts : List T) (o : Nat) (F : FP), (∀ l ∈ refsRow ts, Carries f M M' l) → relTRow R w M c ts o F → relTRow R w M' c (renRow f ts) o F
  | [], o, F, hc, h => h
  | t :: ts, o, F, hc, h => by
    simp only [renRow, relTRow] at h ⊢
    simp only [refsRow, List.mem_append] at hc
    obtain ⟨u, F1, F2, h1, h2, h3, h4⟩ := h
    exact ⟨u, F1, F2, h1, renT_rel t u F1 (fun l hl => hc l (.inl hl)) h2, renRow_rel c ts (o + 1) F2 (fun l hl => hc l (.inr hl)) h3, h4⟩
theorem renRows_rel (c : Array Value) (sz : Nat) : ∀ (rs : List (List T)) (o : Nat) (F : FP), (∀ l ∈ refsRows rs, Carries f M M' l) → relTRows R w M c sz rs o F → relTRows R w M' c sz (renRows f rs) o F
  | [], o, F, hc, h => h
  | r :: rs, o, F, hc, h => by
    simp only [renRows, relTRows] at h ⊢
    simp only [refsRows, List.mem_append] at hc
    obtain ⟨F1, F2, h1, h2, h3, h4⟩ := h
    exact ⟨F1, F2, by rw [renRow_len]; exact h1, renRow_rel c r o F1 (fun l hl => hc l (.inl hl)) h2, renRows_rel c sz rs (o + sz) F2 (fun l hl => hc l (.inr hl)) h3, h4⟩
end
def refsObj : AObj → List Nat
  | .dead => []
  | .live _ rows => if closedRows rows = true then [] else refsRows rows
def renObj (f : Nat → Nat) : AObj → AObj
  | .dead => .dead
  | .live sz rows => .live sz (if closedRows rows = true then rows else renRows f rows)
def refsA1 : A1 → List Nat
  | .one t => refsT t
  | .agg ts => refsRow ts
  | .any => []
def refsAV : AV → List Nat
  | .s a => refsA1 a
  | .tup _ => []
def renAV (f : Nat → Nat) : AV → AV
  | .s (.one t) => .s (.one (renT f t))
  | .s (.agg ts) => .s (.agg (renRow f ts))
  | _ => .s .any
theorem renObj_rel {L : Loc} {o : AObj} {F : FP} (hc : ∀ l ∈ refsObj o, Carries f M M' l) (h : relObj R w M L o F) : relObj R w M' L (renObj f o) F := by
  cases o with
  | dead => exact h
  | live sz rows =>
    obtain ⟨h0, h⟩ := h
    refine ⟨h0, ?_⟩
    simp only [refsObj] at hc
    by_cases hcl : closedRows rows = true
    · rw [if_pos hcl]
      rcases h with h | ⟨c, F', h1, h2, h3, h4⟩
      · exact .inl h
      · exact .inr ⟨c, F', h1, h2, closedRows_rel c L.sz rows L.o F' hcl h3, h4⟩
    · rw [if_neg hcl] at hc ⊢
      rcases h with ⟨rfl, h⟩ | ⟨c, F', h1, h2, h3, h4⟩
      · exact .inl ⟨rfl, h⟩
      · exact .inr ⟨c, F', h1, by rw [renRows_len]; exact h2, renRows_rel c L.sz rows L.o F' hc h3, h4⟩
theorem renAV_rel {a : AV} {u : Value} (hc : ∀ l ∈ refsAV a, Carries f M M' l) (h : relAV R w M a u fz) : relAV R w M' (renAV f a) u fz := by
  cases a with
  | s a =>
    cases a with
    | one t => exact renT_rel t u fz hc h
    | agg ts => obtain ⟨c, h1, h2, h3⟩ := h; exact ⟨c, h1, by rw [renRow_len]; exact h2, renRow_rel c ts 0 fz hc h3⟩
    | any => rfl
  | tup as_ => rfl

/-! ### What is kept -/
def collect (k : Nat) (H : List AObj) : Nat → List Nat → List Nat → List Nat
  | 0, _, seen => seen
  | _ + 1, [], seen => seen
  | n + 1, l :: r, seen => if l < k ∨ l ∈ seen then collect k H n r seen else collect k H n (r ++ refsObj (H.getD l .dead)) (seen ++ [l])
def newName (k : Nat) (keep : List Nat) (l : Nat) : Nat := if l < k then l else k + keep.idxOf l
def pick : List AObj → List Nat → List AObj × List AObj
  | H, [] => ([], H)
  | H, l :: ls => (H.getD l .dead :: (pick (H.set l .dead) ls).1, (pick (H.set l .dead) ls).2)
def keepEnv (f : Nat → Nat) : List AV → Nat → List Nat → List AV
  | [], _, _ => []
  | _ :: as_, i, [] => .s .any :: keepEnv f as_ (i + 1) []
  | a :: as_, i, s :: ss => if i = s then renAV f a :: keepEnv f as_ (i + 1) ss else .s .any :: keepEnv f as_ (i + 1) (s :: ss)
def slotRefs (env : List AV) : List Nat → List Nat
  | [] => []
  | s :: ss => refsAV (env.getD s (.s .any)) ++ slotRefs env ss
def canonH (k : Nat) (keep : List Nat) (H : List AObj) : List AObj := (((pick H keep).2.take k) ++ (pick H keep).1).map (renObj (newName k keep))
/-- All names that are kept are in the list. -/
def okNames (k : Nat) (keep : List Nat) (ls : List Nat) : Bool := ls.all fun l => decide (l < k) || keep.contains l
def okKeep (k : Nat) (keep : List Nat) (slots : List Nat) (s : St) : Bool :=
  okNames k keep (slotRefs s.env slots) && ((((pick s.H keep).2.take k) ++ (pick s.H keep).1).all fun o => okNames k keep (refsObj o)) && keep.all fun l => decide (l < s.H.length)
theorem relHeap_take : ∀ {H : List AObj} {Ls : List Loc} {F : FP} (k : Nat), relHeap R w M H Ls F → ∃ F', relHeap R w M (H.take k) (Ls.take k) F' ∧ leF F' F
  | H, Ls, F, 0, h => ⟨fz, by simp [relHeap], fun _ => Nat.zero_le _⟩
  | [], [], F, k + 1, h => ⟨F, by simpa using h, fun _ => Nat.le_refl _⟩
  | o :: os, L :: Ls, F, k + 1, h => by
    obtain ⟨F1, F2, h1, h2, rfl⟩ := h
    obtain ⟨F', g1, g2⟩ := relHeap_take k h2
    exact ⟨fa F1 F', ⟨F1, F', h1, g1, rfl⟩, fun b => by have := g2 b; simp only [fa]; omega⟩
  | [], _ :: _, F, k + 1, h => h.elim
  | _ :: _, [], F, k + 1, h => h.elim
theorem pick_rel : ∀ {keep : List Nat} {H : List AObj} {F : FP}, (∀ l ∈ keep, l < H.length) → relHeap R w M H M F → ∃ F1 F2, relHeap R w M (pick H keep).1 (keep.map fun l => M.getD l ⟨0, 0, 0, 0⟩) F1 ∧ relHeap R w M (pick H keep).2 M F2 ∧ leF (fa F1 F2) F
  | [], H, F, hk, h => ⟨fz, F, rfl, h, fun b => by simp only [fa, fz]; omega⟩
  | l :: ls, H, F, hk, h => by
    have hlt := hk l (by simp)
    have hltM : l < M.length := by rw [← relHeap_len h]; exact hlt
    obtain ⟨G1, G2, rfl, hobj, hH⟩ := relHeap_kill h (List.getElem?_eq_getElem hlt) (List.getElem?_eq_getElem hltM)
    obtain ⟨F1, F2, p1, p2, p3⟩ := pick_rel (keep := ls) (fun x hx => by rw [List.length_set]; exact hk x (by simp [hx])) hH
    refine ⟨fa G1 F1, F2, ⟨G1, F1, ?_, p1, rfl⟩, p2, fun b => by have := p3 b; simp only [fa] at *; omega⟩
    have e1 : H.getD l .dead = H[l] := by simp [List.getD, hlt]
    have e2 : M.getD l ⟨0, 0, 0, 0⟩ = M[l] := by simp [List.getD, hltM]
    rw [e1]
    show relObj R w M (M.getD l ⟨0, 0, 0, 0⟩) _ _
    rw [e2]
    exact hobj
theorem relHeap_app : ∀ {H H2 : List AObj} {Ls Ls2 : List Loc} {F F2 : FP}, relHeap R w M H Ls F → relHeap R w M H2 Ls2 F2 → relHeap R w M (H ++ H2) (Ls ++ Ls2) (fa F F2)
  | [], H2, [], Ls2, F, F2, h, h2 => by rw [show F = fz from h, z_fa]; exact h2
  | o :: os, H2, L :: Ls, Ls2, F, F2, h, h2 => by
    obtain ⟨F1, F', h1, h3, rfl⟩ := h
    exact ⟨F1, fa F' F2, h1, relHeap_app h3 h2, fa_assoc _ _ _⟩
  | [], H2, _ :: _, Ls2, F, F2, h, h2 => h.elim
  | _ :: _, H2, [], Ls2, F, F2, h, h2 => h.elim
theorem relHeap_ren : ∀ {H : List AObj} {Ls : List Loc} {F : FP}, (∀ o ∈ H, ∀ l ∈ refsObj o, Carries f M M' l) → relHeap R w M H Ls F → relHeap R w M' (H.map (renObj f)) Ls F
  | [], [], F, hc, h => h
  | o :: os, L :: Ls, F, hc, h => by
    obtain ⟨F1, F2, h1, h2, h3⟩ := h
    exact ⟨F1, F2, renObj_rel (hc o (by simp)) h1, relHeap_ren (fun o ho => hc o (by simp [ho])) h2, h3⟩
  | [], _ :: _, F, hc, h => h.elim
  | _ :: _, [], F, hc, h => h.elim
theorem keepEnv_len : ∀ (env : List AV) (i : Nat) (slots : List Nat), (keepEnv f env i slots).length = env.length
  | [], i, slots => by cases slots <;> rfl
  | a :: as_, i, [] => by simp [keepEnv, keepEnv_len as_]
  | a :: as_, i, s :: ss => by
    simp only [keepEnv]
    split <;> simp [keepEnv_len as_]
theorem keepEnv_get : ∀ (env : List AV) (i : Nat) (slots : List Nat) (j : Nat) (av : AV), (keepEnv f env i slots)[j]? = some av → av = .s .any ∨ (i + j ∈ slots ∧ ∃ a, env[j]? = some a ∧ av = renAV f a)
  | [], i, slots, j, av, h => by cases slots <;> simp [keepEnv] at h
  | a :: as_, i, [], j, av, h => by
    simp only [keepEnv] at h
    cases j with
    | zero => simp at h; exact .inl h.symm
    | succ j =>
      rcases keepEnv_get as_ (i + 1) [] j av (by simpa using h) with h | ⟨h, -⟩
      · exact .inl h
      · simp at h
  | a :: as_, i, s :: ss, j, av, h => by
    simp only [keepEnv] at h
    split at h
    · rename_i hs
      cases j with
      | zero => simp at h; exact .inr ⟨by simp [hs], a, rfl, h.symm⟩
      | succ j =>
        rcases keepEnv_get as_ (i + 1) ss j av (by simpa using h) with h | ⟨h, b, h1, h2⟩
        · exact .inl h
        · exact .inr ⟨by rw [show i + (j + 1) = i + 1 + j by omega]; simp [h], b, by simpa using h1, h2⟩
    · cases j with
      | zero => simp at h; exact .inl h.symm
      | succ j =>
        rcases keepEnv_get as_ (i + 1) (s :: ss) j av (by simpa using h) with h | ⟨h, b, h1, h2⟩
        · exact .inl h
        · exact .inr ⟨by rw [show i + (j + 1) = i + 1 + j by omega]; exact h, b, by simpa using h1, h2⟩
theorem slotRefs_mem {env : List AV} {a : AV} {l : Nat} : ∀ {slots : List Nat} {j : Nat}, j ∈ slots → env[j]? = some a → l ∈ refsAV a → l ∈ slotRefs env slots
  | s :: ss, j, hj, he, hl => by
    simp only [slotRefs, List.mem_append]
    rcases List.mem_cons.1 hj with rfl | hj
    · left
      have : env.getD j (.s .any) = a := by simp [List.getD, he]
      rw [this]
      exact hl
    · exact .inr (slotRefs_mem hj he hl)
theorem weak_canon {k : Nat} {s s' : St} (slots keep : List Nat) (hok : okKeep k keep slots s = true) (he : keepEnv (newName k keep) s.env 0 slots = s'.env) (hH' : canonH k keep s.H = s'.H) : Weak k s s' := by
  intro X a w hk hs
  obtain ⟨hd, R, M, F, hpre, henv, hH, hg, hfr⟩ := hs
  simp only [okKeep, Bool.and_eq_true, List.all_eq_true, decide_eq_true_eq] at hok
  obtain ⟨⟨ok1, ok2⟩, ok3⟩ := hok
  have hML := relHeap_len hH
  have hkM : k ≤ M.length := by rw [← hk]; exact hpre.length_le
  obtain ⟨F1, F2, p1, p2, p3⟩ := pick_rel ok3 hH
  obtain ⟨F3, t1, t2⟩ := relHeap_take k p2
  have happ := relHeap_app t1 p1
  have hcar : ∀ l, (l < k ∨ l ∈ keep) → Carries (newName k keep) M (M.take k ++ keep.map fun l => M.getD l ⟨0, 0, 0, 0⟩) l := by
    intro l hl L hL
    have hlM := (List.getElem?_eq_some_iff.1 hL).1
    unfold newName
    by_cases hlk : l < k
    · rw [if_pos hlk, List.getElem?_append_left (by simp; omega), List.getElem?_take, if_pos hlk]
      exact hL
    · rw [if_neg hlk]
      have hmem : l ∈ keep := hl.resolve_left hlk
      have hidx := List.idxOf_lt_length_of_mem hmem
      rw [List.getElem?_append_right (by simp; omega)]
      have : k + keep.idxOf l - (M.take k).length = keep.idxOf l := by simp; omega
      rw [this, List.getElem?_map, List.getElem?_eq_getElem hidx, List.getElem_idxOf hidx]
      simp [List.getD, hL]
  have hnames : ∀ ls, okNames k keep ls = true → ∀ l ∈ ls, l < k ∨ l ∈ keep := by
    intro ls h l hl
    have := List.all_eq_true.1 h l hl
    simpa using this
  have hren := relHeap_ren (f := newName k keep) (M' := M.take k ++ keep.map fun l => M.getD l ⟨0, 0, 0, 0⟩) (fun o ho l hl => hcar l (hnames _ (ok2 o ho) l hl)) happ
  have hle : leF (fa F3 F1) F := fun b => by have := p3 b; have := t2 b; simp only [fa] at *; omega
  refine ⟨hd, R, M.take k ++ keep.map (fun l => M.getD l ⟨0, 0, 0, 0⟩), fa F3 F1, ?_, ⟨?_, fun i av hi => ?_⟩, ?_, hg.le hle, hfr.leq hle⟩
  · have : X.M0 = M.take k := by
      obtain ⟨N, rfl⟩ := hpre
      rw [← hk, List.take_left]
    rw [this]
    exact List.prefix_append _ _
  · rw [← he, keepEnv_len]
    exact henv.1
  · rw [← he] at hi
    rcases keepEnv_get s.env 0 slots i av hi with rfl | ⟨h1, b, h2, rfl⟩
    · exact relAV_any _
    · rw [Nat.zero_add] at h1
      exact renAV_rel (fun l hl => hcar l (hnames _ ok1 l (slotRefs_mem h1 h2 hl))) (henv.2 i b h2)
  · rw [← hH']
    exact hren
end
end Go.Proofs.YtgeoipplkjgnfaaDoor.E
