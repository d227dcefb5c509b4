/- Regions whose order is drawn, fourth part: reads taken ahead, and looked at again as_ long as_ they may still be due. -/
import Derived.Test.YtgeoipplkjgnfaaDoorEng25
set_option linter.unusedVariables false
set_option linter.unusedSimpArgs false
namespace Go.Proofs.YtgeoipplkjgnfaaDoor.E
variable {P : Program} {ops : Array Oper} {Q : St → Prop}
abbrev Pend := List (Nat × Op × AV)
/-- All that was read ahead reads the same here. -/
def sty (P : Program) (s : St) : Pend → Prop
  | [] => True
  | e :: r => astep P s e.2.1 = some (e.2.2, s.H) ∧ sty P s r
theorem sty_all {s : St} : ∀ {E : Pend}, sty P s E ↔ ∀ e ∈ E, astep P s e.2.1 = some (e.2.2, s.H)
  | [] => by simp [sty]
  | e :: r => by simp only [sty, sty_all (E := r), List.mem_cons, forall_eq_or_imp]
def depOn (ops : Array Oper) (j i : Nat) : Bool := match ops[j]? with
  | some oj => oj.after.any fun e => Region.binds .any e && e.on == i
  | none => false
def dropE (ops : Array Oper) (j : Nat) (E : Pend) : Pend := E.filter fun e => !depOn ops j e.1
def hAny (P : Program) (ops : Array Oper) (Q : St → Prop) : Nat → Array Bool → Pend → St → Prop
  | 0, l, E, s => sty P s E ∧ Region.ready .any ops l = [] ∧ Q s
  | n + 1, l, E, s => sty P s E ∧ (Region.ready .any ops l = [] → Q s) ∧ ∀ i ∈ Region.ready .any ops l, aOpP P ops (hAny P ops Q n (l.setIfInBounds i true) (dropE ops i E)) i s
theorem hAny_sty : ∀ {n : Nat} {l : Array Bool} {E : Pend} {s : St}, hAny P ops Q n l E s → sty P s E
  | 0, _, _, _, h => h.1
  | _ + 1, _, _, _, h => h.1
theorem hAny_mono : ∀ {n : Nat} {l : Array Bool} {E E' : Pend} {s : St}, (∀ e ∈ E', e ∈ E) → hAny P ops Q n l E s → hAny P ops Q n l E' s
  | 0, l, E, E', s, hE, h => ⟨sty_all.2 fun e he => sty_all.1 h.1 e (hE e he), h.2⟩
  | n + 1, l, E, E', s, hE, h => ⟨sty_all.2 fun e he => sty_all.1 h.1 e (hE e he), h.2.1, fun i hi => aOpP_mono (fun s' hs' => hAny_mono (fun e he => by
      simp only [dropE, List.mem_filter] at he ⊢
      exact ⟨hE e he.1, he.2⟩) hs') (h.2.2 i hi)⟩
theorem pAny_of_h : ∀ (n : Nat) (l : Array Bool) (s : St), hAny P ops Q n l [] s → pAny P ops Q n l s := by
  intro n
  induction n with
  | zero => intro l s h; exact h.2
  | succ n ih => intro l s h; exact ⟨h.2.1, fun i hi => aOpP_mono (fun s hs => ih _ s hs) (h.2.2 i hi)⟩
theorem aOpP_put2 {i j : Nat} {oi oj : Oper} {v : AV} {s : St} {K : St → Prop} (hj : ops[j]? = some oj) (hap : oi.apart ops oj = true)
    (h : aOpP P ops K j ⟨putE s.env oi.dst v, s.H⟩) : aOpP P ops (fun s' => K ⟨putE s'.env oi.dst v, s'.H⟩) j s := by
  obtain ⟨a1, a2, a3⟩ := apart_sp hap
  have hev := looks_ev (s := s) (v := v) (H := s.H) a1
  simp only [aOpP, hj] at h ⊢
  split
  · rename_i hkj
    simp only [hkj, if_true] at h
    obtain ⟨u, hu, h⟩ := h
    refine ⟨u, ?_, ?_⟩
    · have he : astep P s oj.op = astep P ⟨putE s.env oi.dst v, s.H⟩ oj.op := astep_congr (s := s) (s' := ⟨putE s.env oi.dst v, s.H⟩) rfl _ fun x hx => (hev x hx).symm
      cases hg : oj.guard with
      | none =>
        simp only [Yld, hg] at hu ⊢
        exact he.trans hu
      | some q =>
        obtain ⟨j', w⟩ := q
        simp only [Yld, hg] at hu ⊢
        obtain ⟨b, hb, h1, h2⟩ := hu
        exact ⟨b, by rw [← looks_guard (s := s) (v := v) (H := s.H) hg a1]; exact hb, fun hw => he.trans (h1 hw), h2⟩
    · rw [← putE_comm _ _ _ a2]; exact h
  · rename_i hkj
    simp only [hkj, if_false] at h
    simp only [aOpG, hj] at h ⊢
    have key : aOp P oj ⟨putE s.env oi.dst v, s.H⟩ K → aOp P oj s (fun s' => K ⟨putE s'.env oi.dst v, s'.H⟩) := by
      intro h
      unfold aOp at h ⊢
      rw [callOf_congr oj.op hev] at h
      cases hc : callOf s oj.op with
      | some q =>
        obtain ⟨f, avs⟩ := q
        simp only [hc] at h ⊢
        exact h.mono fun r H' hh => by rw [← putE_comm _ _ _ a2]; exact hh
      | none =>
        simp only [hc] at h ⊢
        have he : astep P ⟨putE s.env oi.dst v, s.H⟩ oj.op = astep P s oj.op := astep_congr (s := ⟨putE s.env oi.dst v, s.H⟩) (s' := s) rfl _ hev
        rw [he] at h
        split at h
        · rw [← putE_comm _ _ _ a2]; exact h
        · exact h.elim
    cases hg : oj.guard with
    | none => rw [hg] at h; exact key h
    | some q =>
      obtain ⟨j', w⟩ := q
      rw [hg] at h
      simp only at h ⊢
      rw [looks_guard (s := s) (v := v) (H := s.H) hg a1] at h
      split at h
      · rename_i b hb
        try simp only [hb]
        exact ⟨fun hw => key (h.1 hw), fun hw => by rw [← putE_comm _ _ _ a2]; exact h.2 hw⟩
      · exact h.elim
/-- What x writes is not looked at by y. -/
def putOk (ops : Array Oper) (x y : Oper) : Bool := match x.dst with
  | some d => !(y.looksAt ops).contains d
  | none => true
theorem putOk_sp {x y : Oper} (h : putOk ops x y = true) : ∀ t, x.dst = some t → t ∉ y.looksAt ops := fun t ht => by
  simp only [putOk, ht, Bool.not_eq_true'] at h
  simpa using h
def selfOk (ops : Array Oper) (o : Oper) : Bool := match o.dst with
  | some d => !(o.looksAt ops).contains d
  | none => true
theorem unput {o : Oper} {s : St} {d : Option Tmp} {u : AV} (h : ∀ t, d = some t → t ∉ o.looksAt ops) : astep P ⟨putE s.env d u, s.H⟩ o.op = astep P s o.op :=
  astep_congr (s := ⟨putE s.env d u, s.H⟩) (s' := s) rfl _ (looks_ev h)
/-- What is pended, with what stands in the text. -/
def pendOk (ops : Array Oper) (E : Pend) : Prop := ∀ e ∈ E, ∃ o, ops[e.1]? = some o ∧ o.op = e.2.1
def addE (k : Bool) (i : Nat) (op : Op) (v : AV) (E : Pend) : Pend := if k = true then E else (i, op, v) :: E
theorem h_first {i : Nat} {oi : Oper} {v : AV} (hi : ops[i]? = some oi) (hki : opK oi.op ≤ 1) (hself : selfOk ops oi = true) (hgi : oi.guard = none) : ∀ (n : Nat) (l : Array Bool) (E : Pend) (s : St),
    (∀ j oj, ops[j]? = some oj → j ≠ i → l.getD j true = false → (∀ e ∈ oj.after, Region.binds .any e = true → e.on ≠ i) → oi.apart ops oj = true) →
    (∀ e ∈ E, ∃ o, ops[e.1]? = some o ∧ o.op = e.2.1 ∧ putOk ops oi o = true) →
    i ∈ Region.ready .any ops l → Yld P ops oi v s → hAny P ops Q n (l.setIfInBounds i true) (addE (decide (opK oi.op = 0)) i oi.op v E) ⟨putE s.env oi.dst v, s.H⟩ → hAny P ops Q (n + 1) l E s := by
  have hd0 : ∀ t, oi.dst = some t → t ∉ oi.looksAt ops := fun t ht => by
    simp only [selfOk, ht, Bool.not_eq_true'] at hself
    simpa using hself
  have hback : ∀ (E : Pend) (s : St), (∀ e ∈ E, ∃ o, ops[e.1]? = some o ∧ o.op = e.2.1 ∧ putOk ops oi o = true) → (∀ e ∈ E, astep P ⟨putE s.env oi.dst v, s.H⟩ e.2.1 = some (e.2.2, s.H)) → sty P s E := fun E s hE h => sty_all.2 fun e he => by
    obtain ⟨o, ho, hop, hap⟩ := hE e he
    have := h e he
    rw [← hop] at this ⊢
    rw [← unput (P := P) (ops := ops) (s := s) (u := v) (putOk_sp hap)]
    exact this
  have hin : ∀ (E : Pend), ∀ e ∈ E, e ∈ addE (decide (opK oi.op = 0)) i oi.op v E := fun E e he => by
    unfold addE; split
    · exact he
    · exact List.mem_cons_of_mem _ he
  intro n
  induction n with
  | zero =>
    intro l E s _ hE hr hy h
    refine ⟨hback E s hE fun e he => sty_all.1 h.1 e (hin E e he), fun h0 => (by rw [h0] at hr; cases hr), fun j hj => ?_⟩
    by_cases hji : j = i
    · rw [hji]
      refine aOpP_of_yld hi hki hy (hAny_mono (fun e he => ?_) h)
      simp only [dropE, List.mem_filter] at he
      exact hin E e he.1
    · have := ready_mono hj hji
      rw [h.2.1] at this
      cases this
  | succ n ih =>
    intro l E s hf hE hr hy h
    refine ⟨hback E s hE fun e he => sty_all.1 h.1 e (hin E e he), fun h0 => (by rw [h0] at hr; cases hr), fun j hj => ?_⟩
    by_cases hji : j = i
    · rw [hji]
      refine aOpP_of_yld hi hki hy (hAny_mono (fun e he => ?_) h)
      simp only [dropE, List.mem_filter] at he
      exact hin E e he.1
    · obtain ⟨hjun, oj, hoj, hall⟩ := mem_ready.1 hj
      have hnot : ∀ e ∈ oj.after, Region.binds .any e = true → e.on ≠ i := fun e he hb heq => by
        have h1 := hall e he hb
        have h0 := (mem_ready.1 hr).1
        rw [heq] at h1
        rcases Nat.lt_or_ge i l.size with h' | h'
        · simp [h'] at h0 h1; rw [h0] at h1; cases h1
        · simp [Array.getElem?_eq_none h'] at h1
      have hdep : depOn ops j i = false := by
        simp only [depOn, hoj]
        rw [Array.any_eq_false']
        intro e he
        cases hb : Region.binds .any e
        · simp
        · have := hnot e he hb
          simpa using this
      have f1 := hf j oj hoj hji hjun hnot
      have hadd : dropE ops j (addE (decide (opK oi.op = 0)) i oi.op v E) = addE (decide (opK oi.op = 0)) i oi.op v (dropE ops j E) := by
        unfold addE dropE
        split
        · rfl
        · simp [hdep]
      have hj2 := h.2.2 j (ready_mono hj hji)
      rw [hadd] at hj2
      have key : aOpP P ops (fun s' => Yld P ops oi v s' ∧ hAny P ops Q n ((l.setIfInBounds i true).setIfInBounds j true) (addE (decide (opK oi.op = 0)) i oi.op v (dropE ops j E)) ⟨putE s'.env oi.dst v, s'.H⟩) j s := by
        by_cases hk0 : opK oi.op = 0
        · exact aOpP_put (i := i) hoj f1 (.inl hk0) hy hj2
        · refine aOpP_mono (fun s' hs' => ⟨?_, hs'⟩) (aOpP_put2 (i := i) hoj f1 hj2)
          have h1 := sty_all.1 (hAny_sty hs') (i, oi.op, v) (by simp [addE, hk0])
          simp only [Yld, hgi]
          rw [← unput (P := P) (ops := ops) (s := s') (u := v) hd0]
          exact h1
      refine aOpP_mono (fun s' hs' => ih (l.setIfInBounds j true) _ s' ?_ ?_ (ready_mono hr (Ne.symm hji)) hs'.1 ?_) key
      · intro k ok hk hki' hun hno
        refine hf k ok hk hki' ?_ hno
        by_cases hjk : j = k
        · rw [← hjk]; exact hjun
        · rw [getD_set_ne true hjk] at hun; exact hun
      · intro e he
        simp only [dropE, List.mem_filter] at he
        exact hE e he.1
      · rw [Array.setIfInBounds_comm _ _ hji]; exact hs'.2
/-- Whether operation i may be taken ahead, the operations El being ahead already. -/
def hoOk (ops : Array Oper) (l : Array Bool) (El : List Nat) (i : Nat) : Bool := match ops[i]? with
  | none => false
  | some oi => decide (opK oi.op ≤ 1) && oi.guard.isNone && selfOk ops oi && (Region.ready .any ops l).contains i && Region.free .any ops l i && El.all fun j => match ops[j]? with
      | some oj => putOk ops oi oj
      | none => false
theorem h_ho {i n : Nat} {l : Array Bool} {E : Pend} {s : St} {v : AV} {oi : Oper} (hi : ops[i]? = some oi) (hf : hoOk ops l (E.map (·.1)) i = true) (hE : pendOk ops E) (hy : astep P s oi.op = some (v, s.H))
    (h : hAny P ops Q n (l.setIfInBounds i true) (addE (decide (opK oi.op = 0)) i oi.op v E) ⟨putE s.env oi.dst v, s.H⟩) : hAny P ops Q (n + 1) l E s := by
  simp only [hoOk, hi, Bool.and_eq_true, decide_eq_true_eq] at hf
  obtain ⟨⟨⟨⟨⟨hk, hg⟩, hs⟩, hr⟩, hfr⟩, hall⟩ := hf
  have hg' : oi.guard = none := by simpa using hg
  refine h_first hi hk hs hg' n l E s (fun j oj hj hne hun hno => Region.free_spec hi hfr j oj hj hne hun hno) (fun e he => ?_) (by simpa using hr) (by simpa only [Yld, hg'] using hy) h
  obtain ⟨o, ho, hop⟩ := hE e he
  have h1 := List.all_eq_true.1 hall e.1 (List.mem_map.2 ⟨e, he, rfl⟩)
  simp only [ho] at h1
  exact ⟨o, ho, hop, h1⟩

/-! ### The tree -/
inductive Th where
  | stop
  | ho (is : List Nat) (t : Th)
  | op (i : Nat) (keep : List Nat) (t : Th)
  | alt (i : Nat) (keep : List Nat) (t u : Th)
def kz (ops : Array Oper) (i : Nat) : Bool := match ops[i]? with
  | some o => decide (opK o.op = 0)
  | none => true
def hoSeg (ops : Array Oper) : List Nat → Nat → Array Bool → List Nat → Option (Nat × Array Bool × List Nat)
  | [], n, l, El => some (n, l, El)
  | i :: r, n + 1, l, El => if hoOk ops l El i then hoSeg ops r n (l.setIfInBounds i true) (if kz ops i then El else i :: El) else none
  | _ :: _, 0, _, _ => none
def headsT : Th → List Nat
  | .alt i _ _ u => i :: headsT u
  | _ => []
def keepOk (ops : Array Oper) (i : Nat) (El keep : List Nat) : Bool := El.all fun e => depOn ops i e || keep.contains e
def chkT (ops : Array Oper) : Th → Bool → Nat → Array Bool → List Nat → Bool
  | .stop, true, _, _, _ => true
  | .stop, false, _, l, _ => (Region.ready .any ops l).isEmpty
  | .ho is t, false, n, l, El => match hoSeg ops is n l El with
    | some (n', l', El') => chkT ops t false n' l' El'
    | none => false
  | .op i keep t, false, n + 1, l, El => (Region.ready .any ops l == [i]) && kgt ops i && keepOk ops i El keep && chkT ops t false n (l.setIfInBounds i true) (El.filter keep.contains)
  | .alt i keep t u, b, n + 1, l, El => (b || (!(Region.ready .any ops l).isEmpty && (Region.ready .any ops l).all fun j => (headsT (.alt i keep t u)).contains j)) && kgt ops i && keepOk ops i El keep && chkT ops t false n (l.setIfInBounds i true) (El.filter keep.contains) && chkT ops u true (n + 1) l El
  | _, _, _, _, _ => false
def keepE (keep : List Nat) (E : Pend) : Pend := E.filter fun e => keep.contains e.1
def segH (P : Program) (ops : Array Oper) (K : Pend → St → Prop) : List Nat → Pend → St → Prop
  | [], E, s => K E s
  | i :: r, E, s => match ops[i]? with
    | some o => ∃ v, astep P s o.op = some (v, s.H) ∧ segH P ops K r (addE (decide (opK o.op = 0)) i o.op v E) ⟨putE s.env o.dst v, s.H⟩
    | none => segH P ops K r E s
def aTh (P : Program) (ops : Array Oper) (Q : St → Prop) : Th → Bool → Pend → St → Prop
  | .stop, true, _, _ => True
  | .stop, false, E, s => sty P s E ∧ Q s
  | .ho is t, false, E, s => segH P ops (fun E' s' => aTh P ops Q t false E' s') is E s
  | .op i keep t, false, E, s => sty P s E ∧ aOpG P ops (aTh P ops Q t false (keepE keep E)) i s
  | .alt i keep t u, _, E, s => sty P s E ∧ aOpG P ops (aTh P ops Q t false (keepE keep E)) i s ∧ aTh P ops Q u true E s
  | _, _, _, _ => False
theorem addE_pend {i : Nat} {o : Oper} {v : AV} {E : Pend} {k : Bool} (hi : ops[i]? = some o) (hE : pendOk ops E) : pendOk ops (addE k i o.op v E) := by
  unfold addE
  split
  · exact hE
  · intro e he
    rcases List.mem_cons.1 he with rfl | he
    · exact ⟨o, hi, rfl⟩
    · exact hE e he
theorem keepE_pend {keep : List Nat} {E : Pend} (hE : pendOk ops E) : pendOk ops (keepE keep E) := fun e he => hE e (List.mem_filter.1 he).1
theorem keepE_map {keep : List Nat} : ∀ {E : Pend}, (keepE keep E).map (·.1) = (E.map (·.1)).filter keep.contains
  | [] => rfl
  | e :: r => by
    simp only [keepE, List.filter_cons, List.map_cons]
    split
    · simp only [List.map_cons]; congr 1; exact keepE_map (E := r)
    · exact keepE_map (E := r)
theorem hoSeg_ok {K : Pend → St → Prop} : ∀ (is : List Nat) (n n' : Nat) (l l' : Array Bool) (El' : List Nat) (E : Pend) (s : St), hoSeg ops is n l (E.map (·.1)) = some (n', l', El') → pendOk ops E →
    (∀ E' s', pendOk ops E' → E'.map (·.1) = El' → K E' s' → hAny P ops Q n' l' E' s') → segH P ops K is E s → hAny P ops Q n l E s
  | [], n, n', l, l', El', E, s, h, hE, hk, hs => by
    simp only [hoSeg, Option.some.injEq, Prod.mk.injEq] at h
    obtain ⟨rfl, rfl, rfl⟩ := h
    exact hk E s hE rfl hs
  | i :: r, 0, n', l, l', El', E, s, h, hE, hk, hs => by simp [hoSeg] at h
  | i :: r, n + 1, n', l, l', El', E, s, h, hE, hk, hs => by
    simp only [hoSeg] at h
    split at h
    · rename_i hok
      cases ho : ops[i]? with
      | none => simp [hoOk, ho] at hok
      | some o =>
      simp only [segH, ho] at hs
      obtain ⟨v, hst, hs⟩ := hs
      refine h_ho ho hok hE hst (hoSeg_ok r n n' _ l' El' _ _ ?_ (addE_pend ho hE) hk hs)
      rw [← h]
      congr 1
      simp only [kz, ho, addE]
      split <;> rfl
    · cases h
theorem drop_keep {i : Nat} {keep : List Nat} {E : Pend} (h : keepOk ops i (E.map (·.1)) keep = true) : ∀ e ∈ dropE ops i E, e ∈ keepE keep E := by
  intro e he
  simp only [dropE, keepE, List.mem_filter] at he ⊢
  refine ⟨he.1, ?_⟩
  have h1 := List.all_eq_true.1 h e.1 (List.mem_map.2 ⟨e, he.1, rfl⟩)
  simp only [Bool.or_eq_true] at h1
  rcases h1 with h1 | h1
  · rw [h1] at he; simp at he
  · exact h1
theorem aTh_ok : ∀ (t : Th) (n : Nat) (l : Array Bool) (E : Pend) (s : St), pendOk ops E → (chkT ops t false n l (E.map (·.1)) = true → aTh P ops Q t false E s → hAny P ops Q n l E s) ∧
    (∀ m, n = m + 1 → chkT ops t true n l (E.map (·.1)) = true → aTh P ops Q t true E s → ∀ i ∈ headsT t, aOpP P ops (hAny P ops Q m (l.setIfInBounds i true) (dropE ops i E)) i s)
  | .stop, n, l, E, s, hE => by
    refine ⟨fun h hs => ?_, fun m _ _ _ i hi => by simp [headsT] at hi⟩
    have hr : Region.ready .any ops l = [] := by simpa [chkT] using h
    cases n with
    | zero => exact ⟨hs.1, hr, hs.2⟩
    | succ n => exact ⟨hs.1, fun _ => hs.2, fun i hi => by rw [hr] at hi; cases hi⟩
  | .ho is t, n, l, E, s, hE => by
    refine ⟨fun h hs => ?_, fun m _ h => by simp [chkT] at h⟩
    simp only [chkT] at h
    split at h
    · rename_i n' l' El' hseg
      exact hoSeg_ok is n n' l l' El' E s hseg hE (fun E' s' hE' he hs' => (aTh_ok t n' l' E' s' hE').1 (by rw [he]; exact h) hs') hs
    · cases h
  | .op i keep t, 0, l, E, s, hE => by
    exact ⟨fun h => by simp [chkT] at h, fun m hm => by cases hm⟩
  | .op i keep t, n + 1, l, E, s, hE => by
    refine ⟨fun h hs => ?_, fun m _ h => by simp [chkT] at h⟩
    simp only [chkT, Bool.and_eq_true, beq_iff_eq] at h
    obtain ⟨⟨⟨hr, hkg⟩, hkeep⟩, h⟩ := h
    refine ⟨hs.1, fun h0 => (by rw [hr] at h0; cases h0), fun j hj => ?_⟩
    rw [hr] at hj
    have hji : j = i := by simpa using hj
    subst hji
    refine aOpP_mono (fun s' hs' => hAny_mono (drop_keep hkeep) ((aTh_ok t n _ (keepE keep E) s' (keepE_pend hE)).1 (by rw [keepE_map]; exact h) hs')) (aOpP_of_G hkg hs.2)
  | .alt i keep t u, 0, l, E, s, hE => by
    exact ⟨fun h => by simp [chkT] at h, fun m hm => by cases hm⟩
  | .alt i keep t u, n + 1, l, E, s, hE => by
    have key : kgt ops i = true → keepOk ops i (E.map (·.1)) keep = true → chkT ops t false n (l.setIfInBounds i true) ((E.map (·.1)).filter keep.contains) = true → chkT ops u true (n + 1) l (E.map (·.1)) = true → aOpG P ops (aTh P ops Q t false (keepE keep E)) i s ∧ aTh P ops Q u true E s → ∀ j ∈ headsT (.alt i keep t u), aOpP P ops (hAny P ops Q n (l.setIfInBounds j true) (dropE ops j E)) j s := by
      intro hkg hkeep h1 h2 hs j hj
      simp only [headsT] at hj
      rcases List.mem_cons.1 hj with e | hj
      · rw [e]
        exact aOpP_mono (fun s' hs' => hAny_mono (drop_keep hkeep) ((aTh_ok t n _ (keepE keep E) s' (keepE_pend hE)).1 (by rw [keepE_map]; exact h1) hs')) (aOpP_of_G hkg hs.1)
      · exact (aTh_ok u (n + 1) l E s hE).2 n rfl h2 hs.2 j hj
    refine ⟨fun h hs => ?_, fun m hm h hs => ?_⟩
    · simp only [chkT, Bool.false_or, Bool.and_eq_true, Bool.not_eq_true', List.all_eq_true] at h
      obtain ⟨⟨⟨⟨⟨h0, h1⟩, hkg⟩, hkeep⟩, h2⟩, h3⟩ := h
      exact ⟨hs.1, fun hr => (by rw [hr] at h0; cases h0), fun j hj => key hkg hkeep h2 h3 hs.2 j (by simpa using h1 j hj)⟩
    · cases hm
      simp only [chkT, Bool.true_or, Bool.and_eq_true, true_and] at h
      obtain ⟨⟨⟨hkg, hkeep⟩, h2⟩, h3⟩ := h
      exact key hkg hkeep h2 h3 hs.2
theorem i_th {k id : Nat} {Q : Ex → St → Prop} {s : St} {ops : Array Oper} (t : Th) (hm : P.follows .mixedOrders = true) (hL : chkT ops t false ops.size (Array.replicate ops.size false) [] = true)
    (h : ∀ Q' : St → Prop, Imp (Q .normal) Q' → aTh P ops Q' t false [] s) : aCode P k (.region id ops true) Q s := by
  simp only [aCode, if_true]
  intro u
  have := aAny_ok ops.size u _ s (aAny_of_p _ _ s (pAny_of_h _ _ s ((aTh_ok t ops.size _ [] s (fun e he => by cases he)).1 hL (h _ fun _ h => h))))
  simp only [Region.schedule, hm, Bool.true_or, if_true]
  exact this

/-! ### For the evaluation -/
/-- The operations of a row, with their numbers. -/
def hRun (P : Program) (K : Pend → St → Prop) : List (Nat × Oper) → Pend → St → Prop
  | [], E, s => K E s
  | (i, o) :: r, E, s => ∃ v, astep P s o.op = some (v, s.H) ∧ hRun P K r (addE (decide (opK o.op = 0)) i o.op v E) ⟨putE s.env o.dst v, s.H⟩
def hS (P : Program) (K : Pend → St → Prop) (i : Nat) (op : Op) (dst : Option Tmp) (r : List (Nat × Oper)) (E : Pend) (s : St) : Option (AV × List AObj) → Prop
  | some (v, H') => H' = s.H ∧ hRun P K r (addE (decide (opK op = 0)) i op v E) ⟨putE s.env dst v, s.H⟩
  | none => False
theorem hS_some (K : Pend → St → Prop) (i : Nat) (op : Op) (dst : Option Tmp) (r : List (Nat × Oper)) (E : Pend) (s : St) (v : AV) (H' : List AObj) :
    hS P K i op dst r E s (some (v, H')) = (H' = s.H ∧ hRun P K r (addE (decide (opK op = 0)) i op v E) ⟨putE s.env dst v, s.H⟩) := by rw [hS]
theorem hRun_nil (K : Pend → St → Prop) (E : Pend) (s : St) : hRun P K [] E s = K E s := by rw [hRun]
theorem hRun_cons (K : Pend → St → Prop) (i : Nat) (a1 : Option Tmp) (a2 : Op) (a3 : TypeId) (a4 : String) (a5 : Array Edge) (a6 : Option (Nat × Bool)) (r : List (Nat × Oper)) (E : Pend) (s : St) :
    hRun P K ((i, ⟨a1, a2, a3, a4, a5, a6⟩) :: r) E s = hS P K i a2 a1 r E s (astep P s a2) := by
  rw [hRun]
  simp only
  refine propext ⟨?_, ?_⟩
  · rintro ⟨v, hv, h⟩
    rw [hv, hS_some]
    exact ⟨rfl, h⟩
  · intro h
    cases hr : astep P s a2 with
    | none => rw [hr] at h; exact h.elim
    | some q =>
      obtain ⟨v, H'⟩ := q
      rw [hr, hS_some] at h
      exact ⟨v, by rw [h.1], h.2⟩
def pickH (ops : Array Oper) : List Nat → List (Nat × Oper)
  | [] => []
  | i :: r => match ops[i]? with
    | some o => (i, o) :: pickH ops r
    | none => pickH ops r
theorem pickH_nil (ops : Array Oper) : pickH ops [] = [] := by rw [pickH]
def tagO (i : Nat) : Option Oper → List (Nat × Oper)
  | some o => [(i, o)]
  | none => []
theorem pickH_cons (ops : List Oper) (i : Nat) (r : List Nat) : pickH ops.toArray (i :: r) = tagO i ops[i]? ++ pickH ops.toArray r := by
  rw [pickH, List.getElem?_toArray]; cases ops[i]? <;> rfl
theorem tagO_some (i : Nat) (o : Oper) : tagO i (some o) = [(i, o)] := rfl
theorem segH_of_run {K : Pend → St → Prop} : ∀ (is : List Nat) (E : Pend) (s : St), hRun P K (pickH ops is) E s → segH P ops K is E s
  | [], E, s, hs => by rw [pickH_nil] at hs; exact hs
  | i :: r, E, s, hs => by
    simp only [pickH] at hs
    simp only [segH]
    cases ho : ops[i]? with
    | none => simp only [ho] at hs ⊢; exact segH_of_run r _ _ hs
    | some o =>
      simp only [ho, hRun] at hs ⊢
      obtain ⟨v, hv, hs⟩ := hs
      exact ⟨v, hv, segH_of_run r _ _ hs⟩
theorem th_ho {is : List Nat} {t : Th} {E : Pend} {s : St} (h : hRun P (fun E' s' => aTh P ops Q t false E' s') (pickH ops is) E s) : aTh P ops Q (.ho is t) false E s := segH_of_run is E s h
def keepM : List Bool → Pend → Pend
  | true :: m, e :: r => e :: keepM m r
  | false :: m, _ :: r => keepM m r
  | _, _ => []
theorem keepM_t (m : List Bool) (e : Nat × Op × AV) (r : Pend) : keepM (true :: m) (e :: r) = e :: keepM m r := rfl
theorem keepM_f (m : List Bool) (e : Nat × Op × AV) (r : Pend) : keepM (false :: m) (e :: r) = keepM m r := rfl
theorem keepM_n (m : List Bool) : keepM m [] = [] := by cases m <;> try rfl
                                                        rename_i b _; cases b <;> rfl
theorem th_stop {E : Pend} {s : St} (h1 : sty P s E) (h : Q s) : aTh P ops Q .stop false E s := ⟨h1, h⟩
theorem th_none {E : Pend} {s : St} : aTh P ops Q .stop true E s := trivial
theorem th_op {i : Nat} {keep : List Nat} {t : Th} {E : Pend} {s : St} (m : List Bool) (h1 : sty P s E) (he : keepE keep E = keepM m E) (h : aL P ops (aTh P ops Q t false (keepM m E)) (pickOps ops [i]) s) : aTh P ops Q (.op i keep t) false E s := by
  rw [← he] at h
  exact ⟨h1, segG_of_aL [i] s h⟩
theorem th_alt {i : Nat} {keep : List Nat} {t u : Th} {b : Bool} {E : Pend} {s : St} (m : List Bool) (h1 : sty P s E) (he : keepE keep E = keepM m E) (h : aL P ops (aTh P ops Q t false (keepM m E)) (pickOps ops [i]) s) (h2 : aTh P ops Q u true E s) : aTh P ops Q (.alt i keep t u) b E s := by
  rw [← he] at h
  cases b <;> exact ⟨h1, segG_of_aL [i] s h, h2⟩
/-- The same, with what is kept told by place. -/
def opm (i : Nat) (keep : List Nat) (m : List Bool) (t : Th) : Th := .op i keep t
def altm (i : Nat) (keep : List Nat) (m : List Bool) (t u : Th) : Th := .alt i keep t u
theorem th_opm {i : Nat} {keep : List Nat} {m : List Bool} {t : Th} {E : Pend} {s : St} (h1 : sty P s E) (he : keepE keep E = keepM m E) (h : aL P ops (aTh P ops Q t false (keepM m E)) (pickOps ops [i]) s) : aTh P ops Q (opm i keep m t) false E s := th_op m h1 he h
theorem th_altm {i : Nat} {keep : List Nat} {m : List Bool} {t u : Th} {b : Bool} {E : Pend} {s : St} (h1 : sty P s E) (he : keepE keep E = keepM m E) (h : aL P ops (aTh P ops Q t false (keepM m E)) (pickOps ops [i]) s) (h2 : aTh P ops Q u true E s) : aTh P ops Q (altm i keep m t u) b E s := th_alt m h1 he h h2
theorem sty_nil (s : St) : sty P s [] = True := by rw [sty]
theorem sty_cons (s : St) (i : Nat) (op : Op) (v : AV) (r : Pend) : sty P s ((i, op, v) :: r) = (astep P s op = some (v, s.H) ∧ sty P s r) := by rw [sty]
theorem addE_t (i : Nat) (op : Op) (v : AV) (E : Pend) : addE true i op v E = E := rfl
theorem addE_f (i : Nat) (op : Op) (v : AV) (E : Pend) : addE false i op v E = (i, op, v) :: E := rfl
attribute [go_sem] pickH_nil pickH_cons tagO_some keepM_t keepM_f keepM_n hS_some hRun_nil hRun_cons sty_nil sty_cons addE_t addE_f
end Go.Proofs.YtgeoipplkjgnfaaDoor.E
