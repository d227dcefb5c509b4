/- Regions whose order is drawn, second part: taking first what is free. -/
import Derived.Test.YtgeoipplkjgnfaaDoorEng23
set_option linter.unusedVariables false
set_option linter.unusedSimpArgs false
namespace Go.Proofs.YtgeoipplkjgnfaaDoor.E
variable {P : Program} {ops : Array Oper} {Q : St → Prop}
theorem callOf_opK {s : St} {op : Op} (h : opK op ≤ 1) : callOf s op = none := by
  unfold callOf
  split
  · simp [opK] at h
  · rfl
theorem callOf_congr {s s' : St} (op : Op) (h : ∀ x ∈ op.operands, ev s x = ev s' x) : callOf s op = callOf s' op := by
  unfold callOf
  split
  · rename_i g args ts
    rw [h g (by simp [Op.operands, Call.operands])]
    split
    · rename_i f cs hh
      have : args.toList.map (fun x => a1? (ev s x)) = args.toList.map (fun x => a1? (ev s' x)) := List.map_congr_left fun x hx => by rw [h x (by simp [Op.operands, Call.operands]; right; simpa using hx)]
      rw [this]
    · rfl
  · rfl
theorem opK_call (c : Call) : opK (.call c) ≠ 0 := by
  rcases c with ⟨cal, args, ts⟩
  cases cal
  case builtin b => cases b <;> simp [opK]
  all_goals simp [opK]
/-- What an operation of the first kind yields does not hang on the memory. -/
theorem astep_env {op : Op} (h : opK op = 0) {env : List AV} {H : List AObj} {v : AV} (ha : astep P ⟨env, H⟩ op = some (v, H)) (H2 : List AObj) : astep P ⟨env, H2⟩ op = some (v, H2) := by
  have hev : ∀ x, ev ⟨env, H⟩ x = ev ⟨env, H2⟩ x := fun x => by cases x <;> rfl
  cases op
  case call c => exact absurd h (opK_call c)
  all_goals simp only [opK] at h
  all_goals try (exact absurd h (by decide))
  all_goals try (split at h <;> exact absurd h (by decide))
  all_goals simp only [astep, hev] at ha ⊢
  all_goals repeat' (first | (simp only [Option.some.injEq, Prod.mk.injEq, and_true] at ha; subst ha; rfl) | (split at ha <;> try simp_all))
/-- An operation that changes nothing in memory, and what it yields. -/
def Yld (P : Program) (ops : Array Oper) (o : Oper) (v : AV) (s : St) : Prop := match o.guard with
  | none => astep P s o.op = some (v, s.H)
  | some (j, want) => ∃ b, guardOf ops s j want = some b ∧ (b = want → astep P s o.op = some (v, s.H)) ∧ (b ≠ want → v = .tup [])
theorem aOpG_of_yld {i : Nat} {o : Oper} {v : AV} {s : St} {K : St → Prop} (ho : ops[i]? = some o) (hk : opK o.op ≤ 1) (hy : Yld P ops o v s) (h : K ⟨putE s.env o.dst v, s.H⟩) : aOpG P ops K i s := by
  simp only [aOpG, ho]
  cases hg : o.guard with
  | none =>
    simp only [Yld, hg] at hy
    simp only [aOp, callOf_opK hk, hy]; exact h
  | some q =>
    obtain ⟨j, want⟩ := q
    simp only [Yld, hg] at hy
    obtain ⟨b, hb, h1, h2⟩ := hy
    simp only [hb]
    refine ⟨fun hw => ?_, fun hw => ?_⟩
    · simp only [aOp, callOf_opK hk, h1 hw]; exact h
    · rw [← h2 hw]; exact h
theorem guardOf_put {s : St} {j : Nat} {want : Bool} {d : Option Tmp} {v : AV} {H : List AObj} (h : ∀ t, d = some t → (ops[j]?).bind (·.dst) ≠ some t) : guardOf ops ⟨putE s.env d v, H⟩ j want = guardOf ops s j want := by
  unfold guardOf
  cases hd : (ops[j]?).bind (·.dst) with
  | none => rfl
  | some t =>
    simp only
    cases d with
    | none => rfl
    | some t' =>
      have hne : t' ≠ t := fun e => h t' rfl (by rw [hd, e])
      simp [putE, List.getElem?_set_ne hne]
theorem looks_ev {o : Oper} {s : St} {d : Option Tmp} {v : AV} {H : List AObj} (h : ∀ t, d = some t → t ∉ o.looksAt ops) : ∀ x ∈ o.op.operands, ev ⟨putE s.env d v, H⟩ x = ev s x := fun x hx => ev_put fun t ht hxt => h t ht (by
  subst hxt
  exact List.mem_append_left _ (List.mem_filterMap.2 ⟨.tmp t, by simpa using hx, rfl⟩))
theorem looks_guard {o : Oper} {s : St} {d : Option Tmp} {v : AV} {H : List AObj} {j : Nat} {w : Bool} (hg : o.guard = some (j, w)) (h : ∀ t, d = some t → t ∉ o.looksAt ops) : guardOf ops ⟨putE s.env d v, H⟩ j w = guardOf ops s j w := guardOf_put fun t ht hj => h t ht (by
  unfold Oper.looksAt
  rw [hg]
  exact List.mem_append_right _ (by simp [hj]))
theorem yld_put {o : Oper} {v u : AV} {s : St} {d : Option Tmp} {H : List AObj} (hy : Yld P ops o v s) (h : ∀ t, d = some t → t ∉ o.looksAt ops) (hh : opK o.op = 0 ∨ H = s.H) : Yld P ops o v ⟨putE s.env d u, H⟩ := by
  have key : astep P s o.op = some (v, s.H) → astep P ⟨putE s.env d u, H⟩ o.op = some (v, H) := fun ha => by
    have h1 : astep P ⟨putE s.env d u, s.H⟩ o.op = some (v, s.H) := (astep_congr (s := ⟨putE s.env d u, s.H⟩) (s' := s) rfl _ (looks_ev h)).trans ha
    rcases hh with hh | hh
    · exact astep_env hh h1 H
    · rw [hh]; exact h1
  unfold Yld at hy ⊢
  split at hy
  · rename_i hg; simp only [hg]; exact key hy
  · rename_i j w hg
    simp only [hg]
    obtain ⟨b, hb, h1, h2⟩ := hy
    exact ⟨b, by rw [looks_guard hg h]; exact hb, fun hw => key (h1 hw), h2⟩
theorem putE_comm (env : List AV) {x y : Option Tmp} (v u : AV) (h : ∀ d, x = some d → y ≠ some d) : putE (putE env x v) y u = putE (putE env y u) x v := by
  cases x with
  | none => rfl
  | some d =>
    cases y with
    | none => rfl
    | some e => exact List.set_comm _ _ (fun he => h d rfl (by rw [he]))
/-- One operation of a drawn region; one that reads must leave the memory as_ it is. -/
def aOpP (P : Program) (ops : Array Oper) (K : St → Prop) (i : Nat) (s : St) : Prop := match ops[i]? with
  | none => K s
  | some o => if opK o.op ≤ 1 then ∃ v, Yld P ops o v s ∧ K ⟨putE s.env o.dst v, s.H⟩ else aOpG P ops K i s
theorem aOpG_of_P {i : Nat} {s : St} {K : St → Prop} (h : aOpP P ops K i s) : aOpG P ops K i s := by
  unfold aOpP at h
  split at h
  · rename_i ho; simp only [aOpG, ho]; exact h
  · rename_i o ho
    split at h
    · rename_i hk
      obtain ⟨v, hy, h⟩ := h
      exact aOpG_of_yld ho hk hy h
    · exact h
theorem aOpP_mono {i : Nat} {s : St} {K K' : St → Prop} (hk : ∀ s, K s → K' s) (h : aOpP P ops K i s) : aOpP P ops K' i s := by
  cases ho : ops[i]? with
  | none => simp only [aOpP, ho] at h ⊢; exact hk _ h
  | some o =>
    by_cases hh : opK o.op ≤ 1
    · simp only [aOpP, ho, hh, if_true] at h ⊢
      obtain ⟨v, hy, h⟩ := h
      exact ⟨v, hy, hk _ h⟩
    · simp only [aOpP, ho, hh, if_false] at h ⊢
      exact aOpG_mono hk h
theorem aOpP_of_yld {i : Nat} {o : Oper} {v : AV} {s : St} {K : St → Prop} (ho : ops[i]? = some o) (hk : opK o.op ≤ 1) (hy : Yld P ops o v s) (h : K ⟨putE s.env o.dst v, s.H⟩) : aOpP P ops K i s := by
  simp only [aOpP, ho, hk, if_true]
  exact ⟨v, hy, h⟩
theorem apart_sp {x y : Oper} (h : x.apart ops y = true) : (∀ t, x.dst = some t → t ∉ y.looksAt ops) ∧ (∀ t, x.dst = some t → y.dst ≠ some t) ∧ (∀ t, y.dst = some t → t ∉ x.looksAt ops) := Oper.apart_spec h
theorem aOpP_put {i j : Nat} {oi oj : Oper} {v : AV} {s : St} {K : St → Prop} (hj : ops[j]? = some oj) (hap : oi.apart ops oj = true) (hk : opK oi.op = 0 ∨ opK oj.op ≤ 1)
    (hy : Yld P ops oi v s) (h : aOpP P ops K j ⟨putE s.env oi.dst v, s.H⟩) :
    aOpP P ops (fun s' => Yld P ops oi v s' ∧ K ⟨putE s'.env oi.dst v, s'.H⟩) j s := by
  obtain ⟨a1, a2, a3⟩ := apart_sp hap
  have hev := looks_ev (s := s) (v := v) (H := s.H) a1
  simp only [aOpP, hj] at h ⊢
  split
  · rename_i hkj
    simp only [hkj, if_true] at h
    obtain ⟨u, hu, h⟩ := h
    refine ⟨u, ?_, yld_put hy a3 (.inr rfl), ?_⟩
    · have he : astep P s oj.op = astep P ⟨putE s.env oi.dst v, s.H⟩ oj.op := astep_congr (s := s) (s' := ⟨putE s.env oi.dst v, s.H⟩) rfl _ fun x hx => (hev x hx).symm
      cases hg : oj.guard with
      | none =>
        simp only [Yld, hg] at hu ⊢
        exact he.trans hu
      | some q =>
        obtain ⟨j', w⟩ := q
        simp only [Yld, hg] at hu ⊢
        obtain ⟨b, hb, h1, h2⟩ := hu
        exact ⟨b, by rw [← looks_guard (s := s) (v := v) (H := s.H) hg a1]; exact hb, fun hw => he.trans (h1 hw), h2⟩
    · rw [← putE_comm _ _ _ a2]; exact h
  · rename_i hkj
    have hk0 : opK oi.op = 0 := hk.resolve_right hkj
    simp only [hkj, if_false] at h
    simp only [aOpG, hj] at h ⊢
    have key : aOp P oj ⟨putE s.env oi.dst v, s.H⟩ K → aOp P oj s (fun s' => Yld P ops oi v s' ∧ K ⟨putE s'.env oi.dst v, s'.H⟩) := by
      intro h
      unfold aOp at h ⊢
      rw [callOf_congr oj.op hev] at h
      cases hc : callOf s oj.op with
      | some q =>
        obtain ⟨f, avs⟩ := q
        simp only [hc] at h ⊢
        exact h.mono fun r H' hh => ⟨yld_put hy a3 (.inl hk0), by rw [← putE_comm _ _ _ a2]; exact hh⟩
      | none =>
        simp only [hc] at h ⊢
        have he : astep P ⟨putE s.env oi.dst v, s.H⟩ oj.op = astep P s oj.op := astep_congr (s := ⟨putE s.env oi.dst v, s.H⟩) (s' := s) rfl _ hev
        rw [he] at h
        split at h
        · exact ⟨yld_put hy a3 (.inl hk0), by rw [← putE_comm _ _ _ a2]; exact h⟩
        · exact h.elim
    split at h
    · exact key h
    · rename_i j' w hg
      rw [looks_guard (s := s) (v := v) (H := s.H) hg a1] at h
      split at h
      · exact ⟨fun hw => key (h.1 hw), fun hw => ⟨yld_put hy a3 (.inl hk0), by rw [← putE_comm _ _ _ a2]; exact h.2 hw⟩⟩
      · exact h.elim
/-- All orders at once, each operation by aOpP. -/
def pAny (P : Program) (ops : Array Oper) (Q : St → Prop) : Nat → Array Bool → St → Prop
  | 0, l, s => Region.ready .any ops l = [] ∧ Q s
  | n + 1, l, s => (Region.ready .any ops l = [] → Q s) ∧ ∀ i ∈ Region.ready .any ops l, aOpP P ops (pAny P ops Q n (l.setIfInBounds i true)) i s
theorem aAny_of_p : ∀ (n : Nat) (l : Array Bool) (s : St), pAny P ops Q n l s → aAny P ops Q n l s := by
  intro n
  induction n with
  | zero => intro l s h; exact h
  | succ n ih => intro l s h; exact ⟨h.1, fun i hi => aOpG_mono (fun s hs => ih _ s hs) (aOpG_of_P (h.2 i hi))⟩
/-- Whether operation i may go first: all that may still come before it stands apart from it. -/
def freeOp (ops : Array Oper) (l : Array Bool) (i : Nat) : Bool := match ops[i]? with
  | none => false
  | some oi => decide (opK oi.op ≤ 1) && Region.free .any ops l i && (List.range ops.size).all fun j => j == i || l.getD j true || match ops[j]? with
      | some oj => oj.after.any (fun e => Region.binds .any e && e.on == i) || decide (opK oi.op = 0) || decide (opK oj.op ≤ 1)
      | none => true
theorem pAny_first {i : Nat} {oi : Oper} {v : AV} (hi : ops[i]? = some oi) (hki : opK oi.op ≤ 1) : ∀ (n : Nat) (l : Array Bool) (s : St),
    (∀ j oj, ops[j]? = some oj → j ≠ i → l.getD j true = false → (∀ e ∈ oj.after, Region.binds .any e = true → e.on ≠ i) → oi.apart ops oj = true ∧ (opK oi.op = 0 ∨ opK oj.op ≤ 1)) →
    i ∈ Region.ready .any ops l → Yld P ops oi v s → pAny P ops Q n (l.setIfInBounds i true) ⟨putE s.env oi.dst v, s.H⟩ → pAny P ops Q (n + 1) l s := by
  intro n
  induction n with
  | zero =>
    intro l s _ hr hy h
    refine ⟨fun h0 => (by rw [h0] at hr; cases hr), fun j hj => ?_⟩
    by_cases hji : j = i
    · rw [hji]; exact aOpP_of_yld hi hki hy h
    · have := ready_mono hj hji
      rw [h.1] at this
      cases this
  | succ n ih =>
    intro l s hf hr hy h
    refine ⟨fun h0 => (by rw [h0] at hr; cases hr), fun j hj => ?_⟩
    by_cases hji : j = i
    · rw [hji]; exact aOpP_of_yld hi hki hy h
    · obtain ⟨hjun, oj, hoj, hall⟩ := mem_ready.1 hj
      have hnot : ∀ e ∈ oj.after, Region.binds .any e = true → e.on ≠ i := fun e he hb heq => by
        have h1 := hall e he hb
        have h0 := (mem_ready.1 hr).1
        rw [heq] at h1
        rcases Nat.lt_or_ge i l.size with h' | h'
        · simp [h'] at h0 h1; rw [h0] at h1; cases h1
        · simp [Array.getElem?_eq_none h'] at h1
      obtain ⟨f1, f2⟩ := hf j oj hoj hji hjun hnot
      refine aOpP_mono (fun s' hs' => ih (l.setIfInBounds j true) s' ?_ (ready_mono hr (Ne.symm hji)) hs'.1 ?_) (aOpP_put (i := i) hoj f1 f2 hy (h.2 j (ready_mono hj hji)))
      · intro k ok hk hki' hun hno
        refine hf k ok hk hki' ?_ hno
        by_cases hjk : j = k
        · rw [← hjk]; exact hjun
        · rw [getD_set_ne true hjk] at hun; exact hun
      · rw [Array.setIfInBounds_comm _ _ hji]; exact hs'.2
theorem pAny_free {i n : Nat} {l : Array Bool} {s : St} (hf : freeOp ops l i = true) (hr : i ∈ Region.ready .any ops l) (h : aOpP P ops (pAny P ops Q n (l.setIfInBounds i true)) i s) : pAny P ops Q (n + 1) l s := by
  unfold freeOp at hf
  cases hi : ops[i]? with
  | none => simp [hi] at hf
  | some oi =>
    simp only [hi, Bool.and_eq_true, decide_eq_true_eq] at hf
    obtain ⟨⟨hk, hfr⟩, hall⟩ := hf
    simp only [aOpP, hi, hk, if_true] at h
    obtain ⟨v, hy, h⟩ := h
    refine pAny_first hi hk n l s (fun j oj hj hne hun hno => ⟨Region.free_spec hi hfr j oj hj hne hun hno, ?_⟩) hr hy h
    simp only [List.all_eq_true, List.mem_range] at hall
    have h1 := hall j (Array.getElem?_eq_some_iff.1 hj).1
    simp only [hj, Bool.or_eq_true, beq_iff_eq, hne, false_or, hun, Bool.false_eq_true, decide_eq_true_eq] at h1
    rcases h1 with (h1 | h1) | h1
    · obtain ⟨e, he, hb⟩ := Array.any_eq_true'.1 h1
      simp only [Bool.and_eq_true, beq_iff_eq] at hb
      exact absurd hb.2 (hno e he hb.1)
    · exact .inl h1
    · exact .inr h1
/-- What comes behind operation i, near or far. -/
def behind (ops : Array Oper) (i : Nat) : List Nat := (List.range ops.size).foldl (fun D j => match ops[j]? with
  | some oj => if oj.after.any fun e => Region.binds .any e && (i :: D).contains e.on then j :: D else D
  | none => D) []
/-- Each of these comes behind i, or behind another of them. -/
def behindOk (ops : Array Oper) (i : Nat) (D : List Nat) : Bool := D.all fun j => match ops[j]? with
  | some oj => oj.after.any fun e => Region.binds .any e && (i :: D).contains e.on
  | none => false
theorem pAny_firstT {i : Nat} {oi : Oper} {v : AV} {D : List Nat} (hi : ops[i]? = some oi) (hki : opK oi.op ≤ 1) (hD : behindOk ops i D = true) : ∀ (n : Nat) (l : Array Bool) (s : St),
    (∀ d ∈ i :: D, l.getD d false = false) →
    (∀ j oj, ops[j]? = some oj → j ≠ i → j ∉ D → l.getD j true = false → oi.apart ops oj = true ∧ (opK oi.op = 0 ∨ opK oj.op ≤ 1)) →
    i ∈ Region.ready .any ops l → Yld P ops oi v s → pAny P ops Q n (l.setIfInBounds i true) ⟨putE s.env oi.dst v, s.H⟩ → pAny P ops Q (n + 1) l s := by
  intro n
  induction n with
  | zero =>
    intro l s _ _ hr hy h
    refine ⟨fun h0 => (by rw [h0] at hr; cases hr), fun j hj => ?_⟩
    by_cases hji : j = i
    · rw [hji]; exact aOpP_of_yld hi hki hy h
    · have := ready_mono hj hji
      rw [h.1] at this
      cases this
  | succ n ih =>
    intro l s hl hf hr hy h
    refine ⟨fun h0 => (by rw [h0] at hr; cases hr), fun j hj => ?_⟩
    by_cases hji : j = i
    · rw [hji]; exact aOpP_of_yld hi hki hy h
    · obtain ⟨hjun, oj, hoj, hall⟩ := mem_ready.1 hj
      have hjD : j ∉ D := fun hm => by
        have h1 := List.all_eq_true.1 hD j hm
        simp only [hoj] at h1
        obtain ⟨e, he, hb⟩ := Array.any_eq_true'.1 h1
        simp only [Bool.and_eq_true] at hb
        have h2 := hall e he hb.1
        have h3 := hl e.on (by simpa using hb.2)
        rw [h3] at h2; cases h2
      obtain ⟨f1, f2⟩ := hf j oj hoj hji hjD hjun
      refine aOpP_mono (fun s' hs' => ih (l.setIfInBounds j true) s' ?_ ?_ (ready_mono hr (Ne.symm hji)) hs'.1 ?_) (aOpP_put (i := i) hoj f1 f2 hy (h.2 j (ready_mono hj hji)))
      · intro d hd
        have hjd : j ≠ d := fun e => by
          subst e
          rcases List.mem_cons.1 hd with rfl | hd
          · exact hji rfl
          · exact hjD hd
        rw [getD_set_ne false hjd]; exact hl d hd
      · intro k ok hk hki' hkD hun
        refine hf k ok hk hki' hkD ?_
        by_cases hjk : j = k
        · rw [← hjk]; exact hjun
        · rw [getD_set_ne true hjk] at hun; exact hun
      · rw [Array.setIfInBounds_comm _ _ hji]; exact hs'.2
/-- Whether operation i may go first, what comes behind it left out. -/
def freeT (ops : Array Oper) (l : Array Bool) (i : Nat) : Bool := match ops[i]? with
  | none => false
  | some oi => decide (opK oi.op ≤ 1) && behindOk ops i (behind ops i) && ((i :: behind ops i).all fun d => !l.getD d false) && (List.range ops.size).all fun j => j == i || (behind ops i).contains j || l.getD j true || match ops[j]? with
      | some oj => oi.apart ops oj && (decide (opK oi.op = 0) || decide (opK oj.op ≤ 1))
      | none => true
theorem pAny_freeT {i n : Nat} {l : Array Bool} {s : St} (hf : freeT ops l i = true) (hr : i ∈ Region.ready .any ops l) (h : aOpP P ops (pAny P ops Q n (l.setIfInBounds i true)) i s) : pAny P ops Q (n + 1) l s := by
  unfold freeT at hf
  cases hi : ops[i]? with
  | none => simp [hi] at hf
  | some oi =>
    simp only [hi, Bool.and_eq_true, decide_eq_true_eq] at hf
    obtain ⟨⟨⟨hk, hD⟩, hl⟩, hall⟩ := hf
    simp only [aOpP, hi, hk, if_true] at h
    obtain ⟨v, hy, h⟩ := h
    refine pAny_firstT hi hk hD n l s (fun d hd => by simpa using List.all_eq_true.1 hl d hd) (fun j oj hj hne hjD hun => ?_) hr hy h
    simp only [List.all_eq_true, List.mem_range] at hall
    have h1 := hall j (Array.getElem?_eq_some_iff.1 hj).1
    have hjD' : (behind ops i).contains j = false := by simpa using hjD
    simpa only [hj, Bool.or_eq_true, beq_iff_eq, hne, false_or, hun, hjD', Bool.false_eq_true, Bool.and_eq_true, decide_eq_true_eq] using h1
end Go.Proofs.YtgeoipplkjgnfaaDoor.E
