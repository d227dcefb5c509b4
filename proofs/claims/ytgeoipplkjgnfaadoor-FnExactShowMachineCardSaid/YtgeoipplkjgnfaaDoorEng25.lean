/- Regions whose order is drawn, third part: a tree of what is left to look at. -/
import Derived.Test.YtgeoipplkjgnfaaDoorEng24
set_option linter.unusedVariables false
set_option linter.unusedSimpArgs false
namespace Go.Proofs.YtgeoipplkjgnfaaDoor.E
inductive Tr where
  | stop
  | fr (is : List Nat) (t : Tr)
  | op (is : List Nat) (t : Tr)
  | alt (i : Nat) (t u : Tr)
variable {P : Program} {ops : Array Oper} {Q : St → Prop}
def kle (ops : Array Oper) (i : Nat) : Bool := match ops[i]? with
  | some o => decide (opK o.op ≤ 1)
  | none => false
def kgt (ops : Array Oper) (i : Nat) : Bool := match ops[i]? with
  | some o => decide (¬ opK o.op ≤ 1)
  | none => false
def stepOk (ops : Array Oper) (l : Array Bool) (i : Nat) : Bool := match Region.ready .any ops l with
  | [j] => j == i
  | rs => rs.contains i && (freeOp ops l i || freeT ops l i)
def segOk (ops : Array Oper) (p : Nat → Bool) : List Nat → Nat → Array Bool → Option (Nat × Array Bool)
  | [], n, l => some (n, l)
  | i :: r, n + 1, l => if p i && stepOk ops l i then segOk ops p r n (l.setIfInBounds i true) else none
  | _ :: _, 0, _ => none
def heads : Tr → List Nat
  | .alt i _ u => i :: heads u
  | _ => []
def chk (ops : Array Oper) : Tr → Bool → Nat → Array Bool → Bool
  | .stop, true, _, _ => true
  | .stop, false, _, l => (Region.ready .any ops l).isEmpty
  | .fr is t, false, n, l => match segOk ops (kle ops) is n l with
    | some (n', l') => chk ops t false n' l'
    | none => false
  | .op is t, false, n, l => match segOk ops (kgt ops) is n l with
    | some (n', l') => chk ops t false n' l'
    | none => false
  | .alt i t u, b, n + 1, l => (b || (!(Region.ready .any ops l).isEmpty && (Region.ready .any ops l).all fun j => (heads (.alt i t u)).contains j)) && chk ops t false n (l.setIfInBounds i true) && chk ops u true (n + 1) l
  | _, _, _, _ => false
def segP (P : Program) (ops : Array Oper) (K : St → Prop) : List Nat → St → Prop
  | [], s => K s
  | i :: r, s => aOpP P ops (segP P ops K r) i s
def segG (P : Program) (ops : Array Oper) (K : St → Prop) : List Nat → St → Prop
  | [], s => K s
  | i :: r, s => aOpG P ops (segG P ops K r) i s
def aTr (P : Program) (ops : Array Oper) (Q : St → Prop) : Tr → Bool → St → Prop
  | .stop, true, _ => True
  | .stop, false, s => Q s
  | .fr is t, false, s => segP P ops (aTr P ops Q t false) is s
  | .op is t, false, s => segG P ops (aTr P ops Q t false) is s
  | .alt i t u, _, s => aOpP P ops (aTr P ops Q t false) i s ∧ aTr P ops Q u true s
  | _, _, _ => False
theorem pAny_step {i n : Nat} {l : Array Bool} {s : St} (hf : stepOk ops l i = true) (h : aOpP P ops (pAny P ops Q n (l.setIfInBounds i true)) i s) : pAny P ops Q (n + 1) l s := by
  unfold stepOk at hf
  split at hf
  · rename_i j hr
    have : j = i := by simpa using hf
    subst this
    refine ⟨fun h0 => (by rw [hr] at h0; cases h0), fun k hk => ?_⟩
    rw [hr] at hk
    rw [List.mem_singleton.1 hk]; exact h
  · simp only [Bool.and_eq_true, Bool.or_eq_true] at hf
    rcases hf.2 with h2 | h2
    · exact pAny_free h2 (by simpa using hf.1) h
    · exact pAny_freeT h2 (by simpa using hf.1) h
theorem aOpP_of_G {i : Nat} {s : St} {K : St → Prop} (hk : kgt ops i = true) (h : aOpG P ops K i s) : aOpP P ops K i s := by
  unfold kgt at hk
  unfold aOpP
  split at hk
  · rename_i o ho
    simp only [ho]
    rw [if_neg (by simpa using hk)]; exact h
  · cases hk
theorem seg_ok {p : Nat → Bool} {K : St → Prop} : ∀ (is : List Nat) (n n' : Nat) (l l' : Array Bool) (s : St), segOk ops p is n l = some (n', l') → (∀ s, K s → pAny P ops Q n' l' s) → segP P ops K is s → pAny P ops Q n l s
  | [], n, n', l, l', s, h, hk, hs => by
    simp only [segOk, Option.some.injEq, Prod.mk.injEq] at h
    rw [h.1, h.2]; exact hk s hs
  | i :: r, 0, n', l, l', s, h, hk, hs => by simp [segOk] at h
  | i :: r, n + 1, n', l, l', s, h, hk, hs => by
    simp only [segOk] at h
    split at h
    · rename_i hp
      simp only [Bool.and_eq_true] at hp
      exact pAny_step hp.2 (aOpP_mono (fun s hs => seg_ok r n n' _ l' s h hk hs) hs)
    · cases h
theorem segP_of_G {K : St → Prop} : ∀ (is : List Nat) (n n' : Nat) (l l' : Array Bool) (s : St), segOk ops (kgt ops) is n l = some (n', l') → segG P ops K is s → segP P ops K is s
  | [], n, n', l, l', s, h, hs => hs
  | i :: r, 0, n', l, l', s, h, hs => by simp [segOk] at h
  | i :: r, n + 1, n', l, l', s, h, hs => by
    simp only [segOk] at h
    split at h
    · rename_i hp
      simp only [Bool.and_eq_true] at hp
      exact aOpP_of_G hp.1 (aOpG_mono (fun s hs => segP_of_G r n n' _ l' s h hs) hs)
    · cases h
theorem aTr_ok : ∀ (t : Tr) (n : Nat) (l : Array Bool) (s : St), (chk ops t false n l = true → aTr P ops Q t false s → pAny P ops Q n l s) ∧
    (∀ m, n = m + 1 → chk ops t true n l = true → aTr P ops Q t true s → ∀ i ∈ heads t, aOpP P ops (pAny P ops Q m (l.setIfInBounds i true)) i s)
  | .stop, n, l, s => by
    refine ⟨fun h hs => ?_, fun m _ _ _ i hi => by simp [heads] at hi⟩
    have hr : Region.ready .any ops l = [] := by simpa [chk] using h
    cases n with
    | zero => exact ⟨hr, hs⟩
    | succ n => exact ⟨fun _ => hs, fun i hi => by rw [hr] at hi; cases hi⟩
  | .fr is t, n, l, s => by
    refine ⟨fun h hs => ?_, fun m _ h => by simp [chk] at h⟩
    simp only [chk] at h
    split at h
    · rename_i n' l' hseg
      exact seg_ok is n n' l l' s hseg (fun s hs => (aTr_ok t n' l' s).1 h hs) hs
    · cases h
  | .op is t, n, l, s => by
    refine ⟨fun h hs => ?_, fun m _ h => by simp [chk] at h⟩
    simp only [chk] at h
    split at h
    · rename_i n' l' hseg
      exact seg_ok is n n' l l' s hseg (fun s hs => (aTr_ok t n' l' s).1 h hs) (segP_of_G is n n' l l' s hseg hs)
    · cases h
  | .alt i t u, 0, l, s => by
    refine ⟨fun h => ?_, fun m hm => ?_⟩
    · simp [chk] at h
    · cases hm
  | .alt i t u, n + 1, l, s => by
    have key : chk ops t false n (l.setIfInBounds i true) = true → chk ops u true (n + 1) l = true → aOpP P ops (aTr P ops Q t false) i s ∧ aTr P ops Q u true s → ∀ j ∈ heads (.alt i t u), aOpP P ops (pAny P ops Q n (l.setIfInBounds j true)) j s := by
      intro h1 h2 hs j hj
      simp only [heads] at hj
      rcases List.mem_cons.1 hj with e | hj
      · rw [e]; exact aOpP_mono (fun s hs => (aTr_ok t n _ s).1 h1 hs) hs.1
      · exact (aTr_ok u (n + 1) l s).2 n rfl h2 hs.2 j hj
    refine ⟨fun h hs => ?_, fun m hm h hs => ?_⟩
    · simp only [chk, Bool.false_or, Bool.and_eq_true, Bool.not_eq_true', List.all_eq_true] at h
      obtain ⟨⟨⟨h0, h1⟩, h2⟩, h3⟩ := h
      refine ⟨fun hr => (by rw [hr] at h0; cases h0), fun j hj => key h2 h3 hs j (by simpa using h1 j hj)⟩
    · cases hm
      simp only [chk, Bool.true_or, Bool.and_eq_true, true_and] at h
      exact key h.1 h.2 hs
theorem i_tree {k id : Nat} {Q : Ex → St → Prop} {s : St} {ops : Array Oper} (t : Tr) (hm : P.follows .mixedOrders = true) (hL : chk ops t false ops.size (Array.replicate ops.size false) = true)
    (h : aTr P ops (Q .normal) t false s) : aCode P k (.region id ops true) Q s := by
  simp only [aCode, if_true]
  intro u
  have := aAny_ok ops.size u _ s (aAny_of_p _ _ s ((aTr_ok t _ _ s).1 hL h))
  simp only [Region.schedule, hm, Bool.true_or, if_true]
  exact this
theorem i_treeQ {k id : Nat} {Q : Ex → St → Prop} {s : St} {ops : Array Oper} (t : Tr) (hm : P.follows .mixedOrders = true) (hL : chk ops t false ops.size (Array.replicate ops.size false) = true)
    (h : ∀ Q' : St → Prop, Imp (Q .normal) Q' → aTr P ops Q' t false s) : aCode P k (.region id ops true) Q s := i_tree t hm hL (h _ fun _ h => h)
/-- A row of operations that leave the memory as_ it is. -/
def pRun (P : Program) (all : Array Oper) (K : St → Prop) : List Oper → St → Prop
  | [], s => K s
  | o :: os, s => opK o.op ≤ 1 ∧ match o.guard with
    | none => ∃ v, astep P s o.op = some (v, s.H) ∧ pRun P all K os ⟨putE s.env o.dst v, s.H⟩
    | some (j, want) => ∃ b, guardOf all s j want = some b ∧ ((b = want ∧ ∃ v, astep P s o.op = some (v, s.H) ∧ pRun P all K os ⟨putE s.env o.dst v, s.H⟩) ∨ (b ≠ want ∧ pRun P all K os ⟨putE s.env o.dst (.tup []), s.H⟩))
theorem segP_of_run {K : St → Prop} : ∀ (is : List Nat) (s : St), pRun P ops K (pickOps ops is) s → segP P ops K is s
  | [], s, h => by rw [pickOps_nil] at h; exact h
  | i :: r, s, h => by
    simp only [segP, aOpP]
    cases ho : ops[i]? with
    | none =>
      simp only [pickOps, ho] at h
      exact segP_of_run r s h
    | some o =>
      rw [pickOps_hit ho] at h
      obtain ⟨hk, h⟩ := h
      simp only [hk, if_true]
      cases hg : o.guard with
      | none =>
        simp only [hg] at h
        obtain ⟨v, hv, h⟩ := h
        exact ⟨v, by simpa only [Yld, hg] using hv, segP_of_run r _ h⟩
      | some q =>
        obtain ⟨j, want⟩ := q
        simp only [hg] at h
        obtain ⟨b, hb, ⟨hw, v, hv, h⟩ | ⟨hw, h⟩⟩ := h
        · exact ⟨v, by simp only [Yld, hg]; exact ⟨b, hb, fun _ => hv, fun hn => absurd hw hn⟩, segP_of_run r _ h⟩
        · exact ⟨.tup [], by simp only [Yld, hg]; exact ⟨b, hb, fun h => absurd h hw, fun _ => by trivial⟩, segP_of_run r _ h⟩
theorem segG_of_aL {K : St → Prop} : ∀ (is : List Nat) (s : St), aL P ops K (pickOps ops is) s → segG P ops K is s
  | [], s, h => by rw [pickOps_nil] at h; exact h
  | i :: r, s, h => by
    simp only [segG, aOpG]
    cases ho : ops[i]? with
    | none =>
      simp only [pickOps, ho] at h
      exact segG_of_aL r s h
    | some o =>
      rw [pickOps_hit ho] at h
      simp only [aL] at h ⊢
      cases hg : o.guard with
      | none =>
        rw [hg] at h
        exact aOp_mono (fun s hs => segG_of_aL r s hs) h
      | some q =>
        obtain ⟨j, want⟩ := q
        rw [hg] at h
        simp only at h ⊢
        split at h
        · rename_i b hb
          try simp only [hb]
          exact ⟨fun hw => aOp_mono (fun s hs => segG_of_aL r s hs) (h.1 hw), fun hw => segG_of_aL r _ (h.2 hw)⟩
        · exact h.elim
theorem tr_stop {s : St} (h : Q s) : aTr P ops Q .stop false s := h
theorem tr_none {s : St} : aTr P ops Q .stop true s := trivial
theorem tr_fr {is : List Nat} {t : Tr} {s : St} (h : pRun P ops (aTr P ops Q t false) (pickOps ops is) s) : aTr P ops Q (.fr is t) false s := segP_of_run is s h
theorem tr_op {is : List Nat} {t : Tr} {s : St} (h : aL P ops (aTr P ops Q t false) (pickOps ops is) s) : aTr P ops Q (.op is t) false s := segG_of_aL is s h
def altp (i : Nat) (t u : Tr) : Tr := .alt i t u
def altg (i : Nat) (t u : Tr) : Tr := .alt i t u
theorem tr_alt {i : Nat} {t u : Tr} {b : Bool} {s : St} (hk : kgt ops i = true) (h : aL P ops (aTr P ops Q t false) (pickOps ops [i]) s) (h2 : aTr P ops Q u true s) : aTr P ops Q (altg i t u) b s := by
  cases b <;> exact ⟨aOpP_of_G hk (segG_of_aL [i] s h), h2⟩
theorem tr_altp {i : Nat} {t u : Tr} {b : Bool} {s : St} (h : pRun P ops (aTr P ops Q t false) (pickOps ops [i]) s) (h2 : aTr P ops Q u true s) : aTr P ops Q (altp i t u) b s := by
  cases b <;> exact ⟨segP_of_run [i] s h, h2⟩
/-- For the evaluation. -/
def pS (P : Program) (all : Array Oper) (K : St → Prop) (dst : Option Tmp) (os : List Oper) (s : St) (r : Option (AV × List AObj)) : Prop := match r with
  | some (v, H') => H' = s.H ∧ pRun P all K os ⟨putE s.env dst v, s.H⟩
  | none => False
def pG (P : Program) (all : Array Oper) (K : St → Prop) (o : Oper) (os : List Oper) (s : St) (b want : Bool) : Prop := (b = want → pS P all K o.dst os s (astep P s o.op)) ∧ (b = !want → pRun P all K os ⟨putE s.env o.dst (.tup []), s.H⟩)
theorem pS_some (P : Program) (all : Array Oper) (K : St → Prop) (dst : Option Tmp) (os : List Oper) (s : St) (v : AV) (H' : List AObj) : pS P all K dst os s (some (v, H')) = (H' = s.H ∧ pRun P all K os ⟨putE s.env dst v, s.H⟩) := by rw [pS]
theorem pS_iff {P : Program} {all : Array Oper} {K : St → Prop} {dst : Option Tmp} {os : List Oper} {s : St} {r : Option (AV × List AObj)} : pS P all K dst os s r ↔ ∃ v, r = some (v, s.H) ∧ pRun P all K os ⟨putE s.env dst v, s.H⟩ := by
  constructor
  · intro h
    cases r with
    | none => exact h.elim
    | some q =>
      obtain ⟨v, H'⟩ := q
      simp only [pS] at h
      exact ⟨v, by rw [h.1], h.2⟩
  · rintro ⟨v, hr, h⟩
    rw [hr, pS_some]
    exact ⟨rfl, h⟩
theorem pRun_nil (P : Program) (all : Array Oper) (K : St → Prop) (s : St) : pRun P all K [] s = K s := by rw [pRun.eq_def]
theorem pRun_none (P : Program) (all : Array Oper) (K : St → Prop) (a1 : Option Tmp) (a2 : Op) (a3 : TypeId) (a4 : String) (a5 : Array Edge) (os : List Oper) (s : St) :
    pRun P all K (⟨a1, a2, a3, a4, a5, none⟩ :: os) s = (opK a2 ≤ 1 ∧ pS P all K a1 os s (astep P s a2)) := by
  rw [pRun.eq_def]
  simp only [pS_iff]
theorem pRun_guard (P : Program) (all : Array Oper) (K : St → Prop) (a1 : Option Tmp) (a2 : Op) (a3 : TypeId) (a4 : String) (a5 : Array Edge) (j : Nat) (want : Bool) (os : List Oper) (s : St) :
    pRun P all K (⟨a1, a2, a3, a4, a5, some (j, want)⟩ :: os) s = (opK a2 ≤ 1 ∧ match guardOf all s j want with
      | some b => pG P all K ⟨a1, a2, a3, a4, a5, some (j, want)⟩ os s b want
      | none => False) := by
  rw [pRun.eq_def]
  simp only [pG, pS_iff]
  refine congrArg _ (propext ⟨?_, ?_⟩)
  · rintro ⟨b, hb, h⟩
    rw [hb]
    rcases h with ⟨hw, h⟩ | ⟨hw, h⟩
    · refine ⟨fun _ => h, fun hn => ?_⟩
      rw [hw] at hn; cases want <;> cases hn
    · exact ⟨fun hn => absurd hn hw, fun _ => h⟩
  · intro h
    split at h
    · rename_i b hb
      refine ⟨b, hb, ?_⟩
      by_cases hw : b = want
      · exact .inl ⟨hw, h.1 hw⟩
      · exact .inr ⟨hw, h.2 (by cases b <;> cases want <;> simp_all)⟩
    · exact h.elim
theorem pG_tt (P : Program) (all : Array Oper) (K : St → Prop) (o : Oper) (os : List Oper) (s : St) : pG P all K o os s true true = pS P all K o.dst os s (astep P s o.op) := by simp [pG]
theorem pG_ff (P : Program) (all : Array Oper) (K : St → Prop) (o : Oper) (os : List Oper) (s : St) : pG P all K o os s false false = pS P all K o.dst os s (astep P s o.op) := by simp [pG]
theorem pG_tf (P : Program) (all : Array Oper) (K : St → Prop) (o : Oper) (os : List Oper) (s : St) : pG P all K o os s true false = pRun P all K os ⟨putE s.env o.dst (.tup []), s.H⟩ := by simp [pG]
theorem pG_ft (P : Program) (all : Array Oper) (K : St → Prop) (o : Oper) (os : List Oper) (s : St) : pG P all K o os s false true = pRun P all K os ⟨putE s.env o.dst (.tup []), s.H⟩ := by simp [pG]
theorem pG_split {all : Array Oper} {K : St → Prop} {o : Oper} {os : List Oper} {s : St} {b want : Bool} (h1 : b = want → pS P all K o.dst os s (astep P s o.op)) (h2 : b = !want → pRun P all K os ⟨putE s.env o.dst (.tup []), s.H⟩) : pG P all K o os s b want := ⟨h1, h2⟩
attribute [go_sem] pS_some pRun_nil pRun_none pRun_guard pG_tt pG_ff pG_tf pG_ft opK
end Go.Proofs.YtgeoipplkjgnfaaDoor.E
