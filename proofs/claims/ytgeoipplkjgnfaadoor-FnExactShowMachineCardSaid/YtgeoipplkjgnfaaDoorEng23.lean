/- Regions whose order is drawn: what reads alone is taken first, whatever order was drawn. -/
import Derived.Test.YtgeoipplkjgnfaaDoorEng22
set_option linter.unusedVariables false
set_option linter.unusedSimpArgs false
namespace Go.Proofs.YtgeoipplkjgnfaaDoor.E
variable {P : Program} {ops : Array Oper} {Q : St → Prop}
def aOpG (P : Program) (ops : Array Oper) (K : St → Prop) (i : Nat) (s : St) : Prop := match ops[i]? with
  | none => K s
  | some o => match o.guard with
    | none => aOp P o s K
    | some (j, want) => match guardOf ops s j want with
      | some b => (b = want → aOp P o s K) ∧ (b ≠ want → K ⟨putE s.env o.dst (.tup []), s.H⟩)
      | none => False
theorem aOp_mono {o : Oper} {s : St} {K K' : St → Prop} (hk : ∀ s, K s → K' s) (h : aOp P o s K) : aOp P o s K' := by
  unfold aOp at h ⊢
  split at h
  · exact h.mono fun r H hh => hk _ hh
  · split at h
    · exact hk _ h
    · exact h.elim
theorem aOpG_mono {i : Nat} {s : St} {K K' : St → Prop} (hk : ∀ s, K s → K' s) (h : aOpG P ops K i s) : aOpG P ops K' i s := by
  unfold aOpG at h ⊢
  split at h
  · exact hk _ h
  · split at h
    · exact aOp_mono hk h
    · split at h
      · exact ⟨fun hb => aOp_mono hk (h.1 hb), fun hb => hk _ (h.2 hb)⟩
      · exact h.elim
theorem aOps_cons (i : Nat) (r : List Nat) (s : St) : aOps P ops Q (i :: r) s = aOpG P ops (aOps P ops Q r) i s := by
  simp only [aOps, aOpG]
  rfl
/-- All orders at once. -/
def aAny (P : Program) (ops : Array Oper) (Q : St → Prop) : Nat → Array Bool → St → Prop
  | 0, l, s => Region.ready .any ops l = [] ∧ Q s
  | n + 1, l, s => (Region.ready .any ops l = [] → Q s) ∧ ∀ i ∈ Region.ready .any ops l, aOpG P ops (aAny P ops Q n (l.setIfInBounds i true)) i s
theorem aAny_ok : ∀ (n t : Nat) (l : Array Bool) (s : St), aAny P ops Q n l s → aOps P ops Q (Region.linearise.go .any ops n t l []) s := by
  intro n
  induction n with
  | zero => intro t l s h; simpa [Region.linearise.go, aOps] using h.2
  | succ n ih =>
    intro t l s h
    simp only [Region.linearise.go]
    change aOps P ops Q (match (Region.ready .any ops l)[t % (Region.ready .any ops l).length]? with
      | some i => Region.linearise.go .any ops n (t / (Region.ready .any ops l).length) (l.setIfInBounds i true) [i]
      | none => [].reverse) s
    cases hr : Region.ready .any ops l with
    | nil => simpa [aOps] using h.1 hr
    | cons x xs =>
      have hlt : t % (x :: xs).length < (x :: xs).length := Nat.mod_lt _ (by simp)
      rw [List.getElem?_eq_getElem hlt]
      simp only
      rw [linearise_go_acc, List.reverse_singleton, List.singleton_append, aOps_cons]
      exact aOpG_mono (fun s hs => ih _ _ s hs) (h.2 _ (by rw [hr]; exact List.getElem_mem hlt))

/-- 0: reads its operands alone; 1: reads the memory too; 2: all else. -/
def opK : Op → Nat
  | .move _ | .assign _ | .pick _ _ _ | .nilCheck _ | .binOp _ _ _ _ _ | .unOp _ _ _ | .fieldAddr _ _ _ | .extract _ _ => 0
  | .load _ _ | .indexAddr _ _ _ | .slice _ _ _ _ none | .convert _ _ _ => 1
  | .call { callee := .builtin .len, args := _, argTypes := _ } => 1
  | _ => 2
theorem ev_put {s : St} {d : Option Tmp} {v : AV} {x : Operand} {H : List AObj} (h : ∀ t, d = some t → x ≠ .tmp t) : ev ⟨putE s.env d v, H⟩ x = ev s x := by
  cases x <;> try rfl
  rename_i t
  cases d with
  | none => rfl
  | some t' =>
    have hne : t' ≠ t := fun e => h t' rfl (by rw [e])
    simp [ev, putE, List.getElem?_set_ne hne]
theorem vals_congr {s s' : St} : ∀ {xs : List Operand}, (∀ x ∈ xs, ev s x = ev s' x) → vals s xs = vals s' xs
  | [], _ => rfl
  | x :: xs, h => by
    simp only [vals]
    rw [h x (by simp), vals_congr fun y hy => h y (by simp [hy])]
theorem caps_congr {s s' : St} : ∀ {xs : List Operand}, (∀ x ∈ xs, ev s x = ev s' x) → caps s xs = caps s' xs
  | [], _ => rfl
  | x :: xs, h => by
    simp only [caps]
    rw [h x (by simp), caps_congr fun y hy => h y (by simp [hy])]
theorem aparts_congr {s s' : St} {ps : Array (Nat × Operand)} (h : ∀ x ∈ ps.toList.map (·.2), ev s x = ev s' x) : aparts s ps = aparts s' ps := by
  simp only [aparts]
  refine List.map_congr_left fun p hp => ?_
  rw [h p.2 (List.mem_map.2 ⟨p, hp, rfl⟩)]
theorem bnd_congr {s s' : St} (d : Int) {x : Option Operand} (h : ∀ y ∈ x.toArray, ev s y = ev s' y) : bnd? s d x = bnd? s' d x := by
  cases x with
  | none => rfl
  | some y => simp only [bnd?]; rw [h y (by simp)]
theorem astep_congr {s s' : St} (hH : s.H = s'.H) : ∀ (op : Op), (∀ x ∈ op.operands, ev s x = ev s' x) → astep P s op = astep P s' op := by
  intro op h
  cases op <;> simp only [Op.operands] at h <;> simp only [astep, hH]
  all_goals try rfl
  case build t ps => rw [aparts_congr (s := s) (s' := s') fun x hx => h x (by simpa using hx)]
  case buildSlice t n ps => rw [aparts_congr (s := s) (s' := s') fun x hx => h x (by simpa using hx)]
  case makeFunc fn first captured =>
    cases fn <;> simp only
    rw [caps_congr (s := s) (s' := s') fun x hx => h x (by simp at hx ⊢; simp [hx])]
  case slice t x l hi m =>
    cases m <;> simp only
    have h1 : ∀ n, bnd? s n l = bnd? s' n l := fun n => bnd_congr n fun y hy => h y (by simp at hy ⊢; simp [hy])
    have h2 : ∀ n, bnd? s n hi = bnd? s' n hi := fun n => bnd_congr n fun y hy => h y (by simp at hy ⊢; simp [hy])
    simp only [h1, h2, h x (by simp)]
  case call c =>
    cases hc : c.callee <;> simp only
    rename_i b
    have ha : ∀ x ∈ c.args.toList, ev s x = ev s' x := fun x hx => h x (by simp [Call.operands, hc]; simpa using hx)
    unfold abuiltin
    simp only [hH]
    revert ha
    generalize c.args.toList = xs
    generalize c.argTypes.toList = ts
    intro ha
    have hv : ∀ ys, (∀ y ∈ ys, y ∈ xs) → vals s ys = vals s' ys := fun ys hy => vals_congr fun y h => ha y (hy y h)
    rcases xs with _ | ⟨x, _ | ⟨y, _ | ⟨z, r⟩⟩⟩
    · cases b <;> rcases ts with _ | ⟨t, _ | ⟨t2, _ | _⟩⟩ <;> rfl
    · have hx := ha x (by simp)
      cases b <;> rcases ts with _ | ⟨t, _ | ⟨t2, _ | _⟩⟩ <;> first | rfl | (simp only [hx]; done) | (simp only [hx, hv [] (by simp)]; done)
    · have hx := ha x (by simp)
      have hy := ha y (by simp)
      cases b <;> rcases ts with _ | ⟨t, _ | ⟨t2, _ | _⟩⟩ <;> first | rfl | (simp only [hx, hy]; done) | (simp only [hx, hv [y] (by simp)]; done)
    · have hx := ha x (by simp)
      have hv' := hv (y :: z :: r) (by simp; intros; simp_all)
      cases b <;> rcases ts with _ | ⟨t, _ | ⟨t2, _ | _⟩⟩ <;> first | rfl | (simp only [hx]; done) | (simp only [hx, hv']; done)
  all_goals (simp at h; first | (simp only [h]; done) | (simp only [h, aconv, hH]; done))
end Go.Proofs.YtgeoipplkjgnfaaDoor.E
