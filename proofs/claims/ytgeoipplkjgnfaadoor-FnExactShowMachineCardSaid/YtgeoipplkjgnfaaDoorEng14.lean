/- The abstract memory: regions, ways and loops of a function, and what a call of it comes to. No condition beside those that stand in each statement. -/
import Derived.Test.YtgeoipplkjgnfaaDoorEng13
import Derived.Scope
set_option linter.unusedVariables false
set_option linter.unusedSimpArgs false
namespace Go.Proofs.YtgeoipplkjgnfaaDoor.E
variable {P : Program}

/-- A function with a body. -/
def callable (P : Program) (f : FuncId) : Bool := match P.funcs[f]? with
  | some fn => !(fn.name == "runtime.NumGoroutine") && !fn.body.isNone
  | none => false
/-- A call, over named memory. -/
def HCall (P : Program) (f : FuncId) (avs : List A1) (H : List AObj) (K : AV → List AObj → Prop) : Prop :=
  callable P f = true ∧ ∀ (R : Nat → Prop) (w : World) (M : List Loc) (us : List Value) (F : FP), relAL R w M avs us fz → relHeap R w M H M F → Good R w F →
    Calls P f us.toArray w fun e w' => ∃ u ret H' R' N F', e = .returned u ∧ K ret H' ∧ relAV R' w' (M ++ N) ret u fz ∧ relHeap R' w' (M ++ N) H' (M ++ N) F' ∧ Good R' w' F' ∧ Fr R w F R' w' F'
theorem HCall.mono {f : FuncId} {avs : List A1} {H : List AObj} {K K' : AV → List AObj → Prop} (h : HCall P f avs H K) (hk : ∀ r H, K r H → K' r H) : HCall P f avs H K' :=
  ⟨h.1, fun R w M us F h1 h2 h3 => (h.2 R w M us F h1 h2 h3).mono fun e w' ⟨u, ret, H', R', N, F', g1, g2, g3⟩ => ⟨u, ret, H', R', N, F', g1, hk _ _ g2, g3⟩⟩

def putE (env : List AV) (dst : Option Tmp) (v : AV) : List AV := match dst with
  | some d => env.set d v
  | none => env
def callOf (s : St) : Op → Option (FuncId × List A1)
  | .call { callee := .value g, args := args, argTypes := _ } => match ev s g with
    | .s (.one (.fn f cs)) => some (f, (args.toList.map fun x => a1? (ev s x)) ++ cs.map A1.one)
    | _ => none
  | _ => none
def aOp (P : Program) (o : Oper) (s : St) (K : St → Prop) : Prop :=
  match callOf s o.op with
  | some (f, avs) => HCall P f avs s.H fun ret H' => K ⟨putE s.env o.dst ret, H'⟩
  | none => match astep P s o.op with
    | some (av, H') => K ⟨putE s.env o.dst av, H'⟩
    | none => False
/-- What a guard asks. -/
def guard? (want : Bool) : AV → Option Bool
  | .tup [] => some (!want)
  | v => bool? v
def guardOf (ops : Array Oper) (s : St) (j : Nat) (want : Bool) : Option Bool := match (ops[j]?).bind (·.dst) with
  | some d => guard? want (s.env.getD d (.s .any))
  | none => none
def aOps (P : Program) (ops : Array Oper) (Q : St → Prop) : List Nat → St → Prop
  | [], s => Q s
  | i :: rest, s => match ops[i]? with
    | none => aOps P ops Q rest s
    | some o => match o.guard with
      | none => aOp P o s (aOps P ops Q rest)
      | some (j, want) => match guardOf ops s j want with
        | some b => (b = want → aOp P o s (aOps P ops Q rest)) ∧ (b ≠ want → aOps P ops Q rest ⟨putE s.env o.dst (.tup []), s.H⟩)
        | none => False
inductive Ex where
  | normal
  | exit (id : Nat)
  | ret
structure Ctx where
  R0 : Nat → Prop
  w0 : World
  M0 : List Loc
  F0 : FP
def SimS (X : Ctx) (s : St) (a : Act) (w : World) : Prop :=
  a.defers = [] ∧ ∃ R M F, X.M0 <+: M ∧ relEnv R w M s.env a.tmps ∧ relHeap R w M s.H M F ∧ Good R w F ∧ Fr X.R0 X.w0 X.F0 R w F
/-- A state says no more than another. -/
def Weak (k : Nat) (s s' : St) : Prop := ∀ X a w, X.M0.length = k → SimS X s a w → SimS X s' a w
theorem Weak.refl (k : Nat) (s : St) : Weak k s s := fun _ _ _ _ h => h
def aCode (P : Program) (k : Nat) : Code → (Ex → St → Prop) → St → Prop
  | .skip, Q, s => Q .normal s
  | .label _, Q, s => Q .normal s
  | .region _ ops draw, Q, s => if draw then ∀ t, aOps P ops (Q .normal) (Region.schedule (P.follows .mixedOrders) ops t) s else aOps P ops (Q .normal) (List.range ops.size) s
  | .seq x y, Q, s => aCode P k x (fun e s' => match e with | .normal => aCode P k y Q s' | .exit i => Q (.exit i) s' | .ret => Q .ret s') s
  | .cond c x y, Q, s => match bool? (ev s c) with
    | some b => (b = true → aCode P k x Q s) ∧ (b = false → aCode P k y Q s)
    | none => False
  | .block id c, Q, s => aCode P k c (fun e s' => match e with | .normal => Q .normal s' | .exit i => if i = id then Q .normal s' else Q (.exit i) s' | .ret => Q .ret s') s
  | .loop c, Q, s => ∃ (α : Type) (S : α → St) (m : α → Nat), (∃ x, Weak k s (S x)) ∧ ∀ x, aCode P k c (fun e s' => match e with | .normal => ∃ x', Weak k s' (S x') ∧ m x' < m x | .exit i => Q (.exit i) s' | .ret => Q .ret s') (S x)
  | .exit id, Q, s => Q (.exit id) s
  | .scope c, Q, s => aCode P k c Q s
  | .ret, Q, s => Q .ret s
  | _, _, _ => False

/-! ### Soundness -/
section
variable {R R' : Nat → Prop} {w w' : World} {M M' : List Loc} {F F' : FP} {s : St} {a : Act}
theorem relEnv_mono {env : List AV} {tmps : Array Value} (hR : ∀ b, R b → R' b) (hM : M <+: M') (hw : ∀ b, R b → w'.heap[b]? = w.heap[b]?) (h : relEnv R w M env tmps) : relEnv R' w' M' env tmps :=
  ⟨h.1, fun i av hi => relAV_mono hR hM (fun b hb => hw b (hb.resolve_right (by simp [fz]))) (h.2 i av hi)⟩
theorem Fr.ro_same (hg : Good R w F) (h : Fr R w F R' w' F') : ∀ b, R b → w'.heap[b]? = w.heap[b]? := fun b hb => h.same b (hg.ro b hb) (by
  cases hF : F b with
  | zero => rfl
  | succ n => exact absurd hb (hg.own b (by omega)).1)
theorem relEnv_put {env : List AV} {tmps : Array Value} {dst : Option Tmp} {av : AV} {u : Value} (h : relEnv R w M env tmps) (hu : relAV R w M av u fz) : relEnv R w M (putE env dst av) (Act.put { tmps := tmps, defers := a.defers } dst u).tmps := by
  cases dst with
  | none => exact h
  | some d =>
    refine ⟨by simp [putE, Act.put, h.1], fun i av' hi => ?_⟩
    simp only [putE, Act.put] at hi ⊢
    by_cases hid : d = i
    · subst hid
      have hlt : d < env.length := by
        have := (List.getElem?_eq_some_iff.1 hi).1
        simpa using this
      have hlt2 : d < tmps.size := by rw [← h.1]; exact hlt
      rw [List.getElem?_set_self hlt] at hi
      simp only [Option.some.injEq] at hi
      subst hi
      simp [hlt2]
      exact hu
    · rw [List.getElem?_set_ne hid] at hi
      have := h.2 i av' hi
      simp only [Array.getD_eq_getD_getElem?] at this ⊢
      rw [Array.getElem?_setIfInBounds_ne hid]
      exact this
theorem put_tmps (a : Act) (dst : Option Tmp) (u : Value) : (a.put dst u).tmps = (Act.put { tmps := a.tmps, defers := a.defers } dst u).tmps := by cases a; rfl
theorem put_defers (a : Act) (dst : Option Tmp) (u : Value) : (a.put dst u).defers = a.defers := by cases dst <;> rfl
theorem relAL_args (henv : relEnv R w M s.env a.tmps) : ∀ (l : List Operand), relAL R w M (l.map fun x => a1? (ev s x)) (l.map a.eval) fz
  | [] => rfl
  | x :: l => ⟨fz, fz, a1_rel (ev_sound henv x), relAL_args henv l, rfl⟩
theorem relAL_caps {c : Array Value} : ∀ {ts : List T} {o : Nat}, relTRow R w M c ts o fz → ∀ vs : List Value, vs.length = ts.length → (∀ j, j < ts.length → c[o + j]? = vs[j]?) → relAL R w M (ts.map A1.one) vs fz
  | [], o, h, vs, hl, hv => by
    have : vs = [] := List.eq_nil_of_length_eq_zero (by simpa using hl)
    subst this
    rfl
  | t :: ts, o, h, vs, hl, hv => by
    cases vs with
    | nil => simp at hl
    | cons v vs =>
      simp only [relTRow] at h
      obtain ⟨u, F1, F2, h1, h2, h3, he⟩ := h
      have hz : F1 = fz ∧ F2 = fz := by
        constructor <;> (funext b; have := congrFun he b; simp only [fz, fa] at this ⊢; omega)
      obtain ⟨rfl, rfl⟩ := hz
      have hv0 := hv 0 (by simp)
      simp only [Nat.add_zero, List.getElem?_cons_zero] at hv0
      rw [h1, Option.some.injEq] at hv0
      subst hv0
      exact ⟨fz, fz, h2, relAL_caps h3 vs (by simpa using hl) (fun j hj => by
        have := hv (j + 1) (by simp; omega)
        rw [show o + 1 + j = o + (j + 1) by omega, this]
        simp), rfl⟩
theorem relAL_append : ∀ {as_ bs : List A1} {us vs : List Value}, relAL R w M as_ us fz → relAL R w M bs vs fz → relAL R w M (as_ ++ bs) (us ++ vs) fz
  | [], bs, [], vs, h, h2 => h2
  | a :: as_, bs, u :: us, vs, h, h2 => by
    obtain ⟨F1, F2, g1, g2, he⟩ := h
    have hz : F1 = fz ∧ F2 = fz := by
      constructor <;> (funext b; have := congrFun he b; simp only [fz, fa] at this ⊢; omega)
    obtain ⟨rfl, rfl⟩ := hz
    exact ⟨fz, fz, g1, relAL_append g2 h2, rfl⟩
  | [], bs, _ :: _, vs, h, h2 => h.elim
  | _ :: _, bs, [], vs, h, h2 => h.elim
theorem callFunc_run {f : FuncId} (h : callable P f = true) (args : Array Value) : (callFunc f args).run P w = .ok (.enter f args) w := by
  unfold callable at h
  split at h
  · rename_i fn hfn
    simp only [Bool.and_eq_true, Bool.not_eq_true'] at h
    simp only [callFunc, Sem.run_bind, run_program, Result.andThen_ok, hfn, h.1, h.2, Bool.false_eq_true, if_false, Sem.run_pure]
  · simp at h
variable {X : Ctx}
theorem aOp_sound {o : Oper} {K : St → Prop} (h : aOp P o s K) (hs : SimS X s a w) {next : Act → World → Prop} {Q : Exit → Act → World → Prop} (hn : ∀ s' a' w', K s' → SimS X s' a' w' → next a' w') : o.wp P a w next Q := by
  obtain ⟨hd, R, M, F, hpre, henv, hH, hg, hfr⟩ := hs
  unfold aOp at h
  unfold Oper.wp
  split at h
  · rename_i f avs hc
    obtain ⟨hcall, hh⟩ := h
    -- the call
    have hex : ∃ us : List Value, (execOp a.eval o).run P w = .ok (.enter f us.toArray) w ∧ relAL R w M avs us fz := by
      unfold callOf at hc
      split at hc
      · rename_i g args ts hop
        split at hc
        · rename_i f' cs hev
          simp only [Option.some.injEq, Prod.mk.injEq] at hc
          obtain ⟨rfl, rfl⟩ := hc
          have hg' := ev_sound henv g
          rw [hev] at hg'
          simp only [relAV, relA1, relT] at hg'
          obtain ⟨-, c, hu, hcl, hcr⟩ := hg'
          refine ⟨args.toList.map a.eval ++ c.toList, ?_, relAL_append (relAL_args henv _) (relAL_caps hcr c.toList (by simpa using hcl) (fun j hj => by simp))⟩
          simp only [execOp, hop, resolve, hu, Deferred.ofValue, pure_bind, invoke]
          have : ((#[] : Array Value) ++ args.map a.eval ++ c) = (args.toList.map a.eval ++ c.toList).toArray := by
            apply Array.ext'
            simp
          rw [this]
          exact callFunc_run hcall _
        · simp at hc
      · simp at hc
    obtain ⟨us, hrun, hus⟩ := hex
    rw [hrun, Oper.upon_enter]
    refine (hh R w M us F hus hH hg).mono ?_
    rintro e w' ⟨u, ret, H', R', N, F', rfl, hK, g1, g2, g3, g4⟩
    refine hn _ _ _ hK ⟨by rw [put_defers]; exact hd, R', M ++ N, F', hpre.trans (List.prefix_append _ _), ?_, g2, g3, hfr.trans g4⟩
    rw [put_tmps]
    exact relEnv_put (relEnv_mono (fun b hb => g4.sub b hb) (List.prefix_append _ _) (Fr.ro_same hg g4) henv) g1
  · split at h
    · rename_i av H' hst
      obtain ⟨w', N, F', hres, g2, g3, g4⟩ := astep_sound (a := a) rfl hst henv hH hg
      have henv' := relEnv_mono (R' := R) (fun _ hb => hb) (List.prefix_append M N) (Fr.ro_same hg g4) henv
      rcases hres with ⟨u, hrun, hu⟩ | ⟨hrun, rfl⟩
      · rw [hrun, Oper.upon_value]
        refine hn _ _ _ h ⟨by rw [put_defers]; exact hd, R, M ++ N, F', hpre.trans (List.prefix_append _ _), ?_, g2, g3, hfr.trans g4⟩
        rw [put_tmps]
        exact relEnv_put henv' hu
      · rw [hrun, Oper.upon_skip]
        refine hn _ _ _ h ⟨by rw [put_defers]; exact hd, R, M ++ N, F', hpre.trans (List.prefix_append _ _), ?_, g2, g3, hfr.trans g4⟩
        rw [put_tmps]
        exact relEnv_put henv' (relAV_any _)
    · exact h.elim
theorem relAV_undef : relAV R w M (.tup []) undef fz := ⟨[], rfl, rfl⟩
theorem guard_sound {ops : Array Oper} {j : Nat} {b want : Bool} (h : guardOf ops s j want = some b) (henv : relEnv R w M s.env a.tmps) : (b = want → yielded ops a.tmps j = some want) ∧ (b ≠ want → yielded ops a.tmps j ≠ some want) := by
  suffices hh : yielded ops a.tmps j = some b ∨ (yielded ops a.tmps j = none ∧ b = !want) by
    rcases hh with hh | ⟨hh, hb⟩
    · rw [hh]; exact ⟨fun e => by rw [e], fun e e' => e (by simpa using e')⟩
    · rw [hh]; exact ⟨fun e => (by rw [hb] at e; cases want <;> cases e), fun _ e' => (by cases e')⟩
  unfold guardOf at h
  unfold yielded
  split at h
  · rename_i d hd
    rw [hd]
    simp only [Option.bind_some]
    have hlt : d < s.env.length := by
      rcases Nat.lt_or_ge d s.env.length with hl | hl
      · exact hl
      · simp [List.getD, List.getElem?_eq_none hl, guard?, bool?] at h
    have hlt2 : d < a.tmps.size := by rw [← henv.1]; exact hlt
    simp only [List.getD, List.getElem?_eq_getElem hlt, Option.getD_some] at h
    have hr := henv.2 d _ (List.getElem?_eq_getElem hlt)
    unfold guard? at h
    split at h
    · rename_i he
      rw [he] at hr
      obtain ⟨us, hu, hl⟩ := hr
      have hus : us = [] := by cases us with
        | nil => rfl
        | cons u us => exact hl.elim
      rw [hus] at hu
      simp only [Array.getD_eq_getD_getElem?, Array.getElem?_eq_getElem hlt2, Option.getD_some] at hu
      right
      simp only [Option.some.injEq] at h
      simp [hlt2, hu, ← h]
    · have hb := bool_rel h hr
      simp only [Array.getD_eq_getD_getElem?, Array.getElem?_eq_getElem hlt2, Option.getD_some] at hb
      left
      simp [hlt2, hb]
  · simp at h
theorem aOps_sound {ops : Array Oper} {Qa : St → Prop} {Q : Exit → Act → World → Prop} (hn : ∀ s' a' w', Qa s' → SimS X s' a' w' → Q .normal a' w') : ∀ (l : List Nat) (s : St) (a : Act) (w : World), aOps P ops Qa l s → SimS X s a w → wpOps P ops Q l a w
  | [], s, a, w, h, hs => hn _ _ _ h hs
  | i :: rest, s, a, w, h, hs => by
    simp only [aOps] at h
    simp only [wpOps]
    cases ho : ops[i]? with
    | none =>
      rw [ho] at h
      exact aOps_sound hn rest s a w h hs
    | some o =>
      rw [ho] at h
      simp only at h ⊢
      have hstep : aOp P o s (aOps P ops Qa rest) → o.wp P a w (wpOps P ops Q rest) Q := fun h => aOp_sound h hs fun s' a' w' hk hs' => aOps_sound hn rest s' a' w' hk hs'
      cases hgd : o.guard with
      | none =>
        rw [hgd] at h
        rw [if_pos (by simp [Region.wanted, hgd])]
        exact .inl (hstep h)
      | some q =>
        obtain ⟨j, want⟩ := q
        rw [hgd] at h
        simp only at h
        split at h
        · rename_i b hb
          obtain ⟨hd, R, M, F, hpre, henv, hH, hg, hfr⟩ := hs
          have hy := guard_sound hb henv
          by_cases hbw : b = want
          · rw [if_pos (by simp [Region.wanted, hgd, hy.1 hbw])]
            exact .inl (hstep (h.1 hbw))
          · rw [if_neg (by simp only [Region.wanted, hgd, beq_iff_eq]; exact hy.2 hbw)]
            refine aOps_sound hn rest _ _ w (h.2 hbw) ⟨by rw [put_defers]; exact hd, R, M, F, hpre, ?_, hH, hg, hfr⟩
            rw [put_tmps]
            exact relEnv_put henv relAV_undef
        · exact h.elim
def post (X : Ctx) (Q : Ex → St → Prop) : Exit → Act → World → Prop
  | .normal, a, w => ∃ s, Q .normal s ∧ SimS X s a w
  | .exit id, a, w => ∃ s, Q (.exit id) s ∧ SimS X s a w
  | .ret, a, w => ∃ s, Q .ret s ∧ SimS X s a w
  | _, _, _ => False
theorem least {p : Nat → Prop} (h : ∃ n, p n) : ∃ n, p n ∧ ∀ m, p m → n ≤ m := by
  obtain ⟨n, hn⟩ := h
  induction n using Nat.strongRecOn with
  | _ n ih =>
    by_cases hx : ∃ m, m < n ∧ p m
    · obtain ⟨m, h1, h2⟩ := hx
      exact ih m h1 h2
    · exact ⟨n, hn, fun m hm => Nat.le_of_not_lt fun hl => hx ⟨m, hl, hm⟩⟩
open Classical in
theorem aCode_sound {k : Nat} (hk : X.M0.length = k) : ∀ (c : Code) (Q : Ex → St → Prop) (s : St) (a : Act) (w : World), aCode P k c Q s → SimS X s a w → c.wp P (post X Q) a w
  | .skip, Q, s, a, w, h, hs => wp_skip ⟨s, h, hs⟩
  | .label _, Q, s, a, w, h, hs => wp_label ⟨s, h, hs⟩
  | .exit id, Q, s, a, w, h, hs => wp_exit ⟨s, h, hs⟩
  | .ret, Q, s, a, w, h, hs => wp_ret ⟨s, h, hs⟩
  | .region id ops draw, Q, s, a, w, h, hs => by
    simp only [aCode] at h
    cases draw with
    | true =>
      simp only [if_true] at h
      refine wp_region_draw fun t => aOps_sound (X := X) (Qa := Q .normal) (fun s' a' w' h1 h2 => ⟨s', h1, h2⟩) _ s a _ (h t) ?_
      obtain ⟨hd, R, M, F, hpre, henv, hH, hg, hfr⟩ := hs
      refine ⟨hd, R, M, F, hpre, relEnv_mono (w := w) (fun _ h => h) (List.prefix_refl _) (fun _ _ => rfl) henv, relHeap_mono (w := w) (fun _ h => h) (List.prefix_refl _) (fun _ _ => rfl) hH, ⟨hg.one, hg.own, hg.ro, hg.inv.mono (fun _ h => h) (Nat.le_refl _) fun _ _ => rfl⟩, ⟨hfr.os, hfr.tape, hfr.output, hfr.size, hfr.same, hfr.sub, hfr.own, hfr.ro, hfr.shape⟩⟩
    | false =>
      simp only [Bool.false_eq_true, if_false] at h
      exact wp_region (aOps_sound (X := X) (Qa := Q .normal) (fun s' a' w' h1 h2 => ⟨s', h1, h2⟩) _ s a w h hs)
  | .seq x y, Q, s, a, w, h, hs => by
    simp only [aCode] at h
    refine wp_seq (wp_mono (aCode_sound hk x _ s a w h hs) ?_)
    intro e a' w' hp
    cases e <;> simp only [post] at hp <;> try exact hp.elim
    · obtain ⟨s', h1, h2⟩ := hp
      exact aCode_sound hk y Q s' a' w' h1 h2
    · exact hp
    · exact hp
  | .cond c x y, Q, s, a, w, h, hs => by
    simp only [aCode] at h
    split at h
    · rename_i b hb
      have hc : a.eval c = .bool b := by
        obtain ⟨hd, R, M, F, hpre, henv, hH, hg, hfr⟩ := hs
        exact bool_rel hb (ev_sound henv c)
      exact wp_cond_split hc (fun ht => aCode_sound hk x Q s a w (h.1 ht) hs) (fun ht => aCode_sound hk y Q s a w (h.2 ht) hs)
    · exact h.elim
  | .block id c, Q, s, a, w, h, hs => by
    simp only [aCode] at h
    refine wp_block (wp_mono (aCode_sound hk c _ s a w h hs) ?_)
    intro e a' w' hp
    cases e <;> simp only [post] at hp <;> try exact hp.elim
    · exact hp
    · rename_i id'
      simp only [Exit.inBlock]
      by_cases hid : id' = id
      · simp only [hid, if_true] at hp ⊢; exact hp
      · simp only [hid, if_false] at hp ⊢; exact hp
    · exact hp
  | .loop c, Q, s, a, w, h, hs => by
    simp only [aCode] at h
    obtain ⟨α, S, m, ⟨x0, hx0⟩, hround⟩ := h
    refine wp_loop (fun a w => ∃ x, SimS X (S x) a w) (fun a w => if hh : ∃ n x, m x = n ∧ SimS X (S x) a w then Classical.choose (least hh) else 0) ⟨x0, hx0 X a w hk hs⟩ ?_
    intro a w hI
    have hh : ∃ n x, m x = n ∧ SimS X (S x) a w := by obtain ⟨x, hx⟩ := hI; exact ⟨m x, x, rfl, hx⟩
    obtain ⟨⟨x, hx1, hx2⟩, -⟩ := Classical.choose_spec (least hh)
    refine wp_mono (aCode_sound hk c _ (S x) a w (hround x) hx2) ?_
    intro e a' w' hp
    cases e <;> simp only [post] at hp <;> try exact hp.elim
    · obtain ⟨s', ⟨x', h1, h2⟩, h3⟩ := hp
      have h4 := h1 X a' w' hk h3
      refine ⟨⟨x', h4⟩, ?_⟩
      have hh' : ∃ n x, m x = n ∧ SimS X (S x) a' w' := ⟨m x', x', rfl, h4⟩
      show (if hh : ∃ n x, m x = n ∧ SimS X (S x) a' w' then Classical.choose (least hh) else 0) < (if hh : ∃ n x, m x = n ∧ SimS X (S x) a w then Classical.choose (least hh) else 0)
      rw [dif_pos hh, dif_pos hh', ← hx1]
      exact Nat.lt_of_le_of_lt ((Classical.choose_spec (least hh')).2 _ ⟨x', rfl, h4⟩) h2
    · exact hp
    · exact hp
  | .scope c, Q, s, a, w, h, hs => by
    simp only [aCode] at h
    refine wp_scope_straight (wp_mono (aCode_sound hk c Q s a w h hs) ?_)
    intro e a' w' hp
    cases e <;> simp only [post] at hp <;> first | exact hp.elim | exact hp
  | .rangeFunc .., Q, s, a, w, h, hs => h.elim
  | .goto _, Q, s, a, w, h, hs => h.elim
  | .refuse _, Q, s, a, w, h, hs => h.elim
end
end Go.Proofs.YtgeoipplkjgnfaaDoor.E
