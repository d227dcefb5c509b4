/- The abstract memory: contracts of functions over closed values, proved from a function's text and used in a call. No condition beside those that stand in each statement. -/
import Derived.Test.YtgeoipplkjgnfaaDoorEng16
set_option linter.unusedVariables false
set_option linter.unusedSimpArgs false
namespace Go.Proofs.YtgeoipplkjgnfaaDoor.E
variable {P : Program} {R R' : Nat → Prop} {w w' : World} {M M' : List Loc} {c : Array Value}

def relO (R : Nat → Prop) (w : World) : Option T → Value → FP → Prop
  | none, _, F => F = fz
  | some t, u, F => relT R w [] t u F
def relOs (R : Nat → Prop) (w : World) : List (Option T) → List Value → FP → Prop
  | [], [], F => F = fz
  | a :: as_, u :: us, F => ∃ F1 F2, relO R w a u F1 ∧ relOs R w as_ us F2 ∧ F = fa F1 F2
  | _, _, _ => False
/-- A call of f at closed arguments ends, with this answer, and these are what places that were handed over hold then. -/
def CallOk (P : Program) (f : FuncId) (args : List A1) (ret : AV) (outs : List (Option T)) : Prop :=
  callable P f = true ∧ ∀ (R : Nat → Prop) (w : World) (us : List Value) (F : FP), relAL R w [] args us F → Good R w F →
    Calls P f us.toArray w fun e w' => ∃ u R' F1 F2, e = .returned u ∧ relAV R' w' [] ret u F1 ∧ relOs R' w' outs us F2 ∧ Good R' w' (fa F1 F2) ∧ Fr R w F R' w' (fa F1 F2)

/-! ### Names -/
def nameA1 : A1 → Nat → A1 × List AObj
  | .one t, n => (.one (nameT t n).1, (nameT t n).2)
  | .agg ts, n => (.agg (nameRow ts n).1, (nameRow ts n).2)
  | .any, _ => (.any, [])
def nameAL : List A1 → Nat → List A1 × List AObj
  | [], _ => ([], [])
  | a :: as_, n => ((nameA1 a n).1 :: (nameAL as_ (n + (nameA1 a n).2.length)).1, (nameA1 a n).2 ++ (nameAL as_ (n + (nameA1 a n).2.length)).2)
def nameAV : AV → Nat → AV × List AObj
  | .s a, n => (.s (nameA1 a n).1, (nameA1 a n).2)
  | .tup as_, n => (.tup (nameAL as_ n).1, (nameAL as_ n).2)
theorem nil_pre (M : List Loc) : [] <+: M := List.nil_prefix
theorem nameA1_sound {a : A1} {u : Value} {F FH : FP} {H : List AObj} (h : relA1 R w M a u F) (hH : relHeap R w M H M FH) :
    ∃ N, relA1 R w (M ++ N) (nameA1 a H.length).1 u fz ∧ relHeap R w (M ++ N) (H ++ (nameA1 a H.length).2) (M ++ N) (fa FH F) := by
  cases a with
  | one t => exact nameT_sound h hH
  | agg ts =>
    obtain ⟨c, h1, h2, h3⟩ := h
    obtain ⟨N, n1, n2⟩ := nameRow_sound h3 hH
    exact ⟨N, ⟨c, h1, by simp [nameRow_len, h2], n1⟩, n2⟩
  | any =>
    have hF : F = fz := h
    subst hF
    exact ⟨[], rfl, by simpa [nameA1, fa_z] using hH⟩
theorem nameAL_sound : ∀ {as_ : List A1} {us : List Value} {F FH : FP} {H : List AObj} {M : List Loc}, relAL R w M as_ us F → relHeap R w M H M FH →
    ∃ N, relAL R w (M ++ N) (nameAL as_ H.length).1 us fz ∧ relHeap R w (M ++ N) (H ++ (nameAL as_ H.length).2) (M ++ N) (fa FH F)
  | [], [], F, FH, H, M, h, hH => by
    have hF : F = fz := h
    subst hF
    exact ⟨[], rfl, by simpa [nameAL, fa_z] using hH⟩
  | a :: as_, u :: us, F, FH, H, M, h, hH => by
    obtain ⟨F1, F2, h1, h2, rfl⟩ := h
    obtain ⟨N1, n1, n2⟩ := nameA1_sound h1 hH
    obtain ⟨N2, m1, m2⟩ := nameAL_sound (relAL_mono (fun _ h => h) (prefix_self M N1) (fun _ _ => rfl) h2) n2
    rw [List.length_append] at m1 m2
    rw [List.append_assoc] at m1 m2
    rw [List.append_assoc] at m2
    exact ⟨N1 ++ N2, ⟨fz, fz, relA1_mono (fun _ h => h) (by rw [← List.append_assoc]; exact prefix_self _ _) (fun _ _ => rfl) n1, m1, rfl⟩, by rw [← fa_assoc]; exact m2⟩
  | [], _ :: _, F, FH, H, M, h, hH => h.elim
  | _ :: _, [], F, FH, H, M, h, hH => h.elim
theorem nameAV_sound {a : AV} {u : Value} {F FH : FP} {H : List AObj} (h : relAV R w M a u F) (hH : relHeap R w M H M FH) :
    ∃ N, relAV R w (M ++ N) (nameAV a H.length).1 u fz ∧ relHeap R w (M ++ N) (H ++ (nameAV a H.length).2) (M ++ N) (fa FH F) := by
  cases a with
  | s a => exact nameA1_sound h hH
  | tup as_ =>
    obtain ⟨us, h1, h2⟩ := h
    obtain ⟨N, n1, n2⟩ := nameAL_sound h2 hH
    exact ⟨N, ⟨us, h1, n1⟩, n2⟩

/-! ### A contract out of a function's text -/
def fitA1 (n : Nat) (H : List AObj) : A1 → A1 → Prop × List AObj
  | .one t, .one t' => fitT n H t t'
  | .agg ts, .agg ts' => fitRow n H ts ts'
  | _, .any => (True, H)
  | _, _ => (False, H)
def fitAL (n : Nat) : List AObj → List A1 → List A1 → Prop × List AObj
  | H, [], [] => (True, H)
  | H, a :: as_, b :: bs => ((fitA1 n H a b).1 ∧ (fitAL n (fitA1 n H a b).2 as_ bs).1, (fitAL n (fitA1 n H a b).2 as_ bs).2)
  | H, _, _ => (False, H)
def fitAV (n : Nat) (H : List AObj) : AV → AV → Prop × List AObj
  | .s a, .s b => fitA1 n H a b
  | .tup as_, .tup bs => fitAL n H as_ bs
  | _, _ => (False, H)
def fitOs (n : Nat) : List AObj → List A1 → List (Option T) → Prop
  | _, [], [] => True
  | H, _ :: as_, none :: os => fitOs n H as_ os
  | H, .one t :: as_, some t' :: os => (fitT n H t t').1 ∧ fitOs n (fitT n H t t').2 as_ os
  | _, _, _ => False
theorem fitA1_sound {n : Nat} {H : List AObj} {a b : A1} {u : Value} {F FH : FP} (h : (fitA1 n H a b).1) (hr : relA1 R w M a u F) (hH : relHeap R w M H M FH) :
    ∃ F1 FH', relA1 R w [] b u F1 ∧ relHeap R w M (fitA1 n H a b).2 M FH' ∧ leF (fa F1 FH') (fa F FH) := by
  unfold fitA1 at h ⊢
  split at h
  · exact fitT_sound n H _ _ u F FH h hr hH
  · obtain ⟨c, rfl, h2, h3⟩ := hr
    obtain ⟨F1, FH', q1, q2, q3⟩ := fitRow_sound n H _ _ c 0 F FH h h3 hH
    have := fitRow_len n H _ _ h
    exact ⟨F1, FH', ⟨c, rfl, by omega, q1⟩, q2, q3⟩
  · exact ⟨fz, FH, rfl, hH, fun b => by simp only [fa, fz]; omega⟩
  · simp at h
theorem fitAL_sound {n : Nat} : ∀ {as_ bs : List A1} {us : List Value} {H : List AObj} {F FH : FP}, (fitAL n H as_ bs).1 → relAL R w M as_ us F → relHeap R w M H M FH →
    ∃ F1 FH', relAL R w [] bs us F1 ∧ relHeap R w M (fitAL n H as_ bs).2 M FH' ∧ leF (fa F1 FH') (fa F FH)
  | [], [], [], H, F, FH, h, hr, hH => ⟨F, FH, hr, hH, fun b => Nat.le_refl _⟩
  | a :: as_, b :: bs, u :: us, H, F, FH, h, hr, hH => by
    simp only [fitAL] at h ⊢
    obtain ⟨F1, F2, h1, h2, rfl⟩ := hr
    obtain ⟨G1, GH, q1, q2, q3⟩ := fitA1_sound h.1 h1 hH
    obtain ⟨G2, GH2, p1, p2, p3⟩ := fitAL_sound h.2 h2 q2
    exact ⟨fa G1 G2, GH2, ⟨G1, G2, q1, p1, rfl⟩, p2, fun b => by have := q3 b; have := p3 b; simp only [fa] at *; omega⟩
  | [], _ :: _, us, H, F, FH, h, hr, hH => by simp [fitAL] at h
  | _ :: _, [], us, H, F, FH, h, hr, hH => by simp [fitAL] at h
  | [], [], _ :: _, H, F, FH, h, hr, hH => hr.elim
  | _ :: _, _ :: _, [], H, F, FH, h, hr, hH => hr.elim
theorem fitAV_sound {n : Nat} {H : List AObj} {a b : AV} {u : Value} {F FH : FP} (h : (fitAV n H a b).1) (hr : relAV R w M a u F) (hH : relHeap R w M H M FH) :
    ∃ F1 FH', relAV R w [] b u F1 ∧ relHeap R w M (fitAV n H a b).2 M FH' ∧ leF (fa F1 FH') (fa F FH) := by
  unfold fitAV at h ⊢
  split at h
  · exact fitA1_sound h hr hH
  · obtain ⟨us, h1, h2⟩ := hr
    obtain ⟨F1, FH', q1, q2, q3⟩ := fitAL_sound h h2 hH
    exact ⟨F1, FH', ⟨us, h1, q1⟩, q2, q3⟩
  · simp at h
theorem fitOs_sound {n : Nat} : ∀ {as_ : List A1} {os : List (Option T)} {us : List Value} {H : List AObj} {F FH : FP}, fitOs n H as_ os → relAL R w M as_ us F → relHeap R w M H M FH →
    ∃ F1, relOs R w os us F1 ∧ leF F1 (fa F FH)
  | [], [], [], H, F, FH, h, hr, hH => ⟨fz, rfl, fun b => Nat.zero_le _⟩
  | a :: as_, none :: os, u :: us, H, F, FH, h, hr, hH => by
    obtain ⟨F1, F2, h1, h2, rfl⟩ := hr
    have h' : fitOs n H as_ os := by cases a <;> exact h
    obtain ⟨G, g1, g2⟩ := fitOs_sound h' h2 hH
    exact ⟨fa fz G, ⟨fz, G, rfl, g1, rfl⟩, fun b => by have := g2 b; simp only [fa, fz] at *; omega⟩
  | .one t :: as_, some t' :: os, u :: us, H, F, FH, h, hr, hH => by
    obtain ⟨F1, F2, h1, h2, rfl⟩ := hr
    obtain ⟨G1, GH, q1, q2, q3⟩ := fitT_sound n H t t' u F1 FH h.1 h1 hH
    obtain ⟨G, g1, g2⟩ := fitOs_sound h.2 h2 q2
    exact ⟨fa G1 G, ⟨G1, G, q1, g1, rfl⟩, fun b => by have := q3 b; have := g2 b; simp only [fa, fz] at *; omega⟩
  | .agg _ :: as_, some t' :: os, us, H, F, FH, h, hr, hH => h.elim
  | .any :: as_, some t' :: os, us, H, F, FH, h, hr, hH => h.elim
  | [], _ :: _, us, H, F, FH, h, hr, hH => h.elim
  | _ :: _, [], us, H, F, FH, h, hr, hH => by cases ‹A1› <;> exact h.elim
  | [], [], _ :: _, H, F, FH, h, hr, hH => hr.elim
  | _ :: _, _ :: _, [], H, F, FH, h, hr, hH => hr.elim
theorem Fr.leq {R0 : Nat → Prop} {w0 : World} {F0 F F' : FP} (h : Fr R0 w0 F0 R w F) (hF : leF F' F) : Fr R0 w0 F0 R w F' := h.le hF
/-- What a call comes to, told over named memory. -/
def EndK (n : Nat) (avs : List A1) (ret : AV) (outs : List (Option T)) (r : AV) (H' : List AObj) : Prop := (fitAV n H' r ret).1 ∧ fitOs n (fitAV n H' r ret).2 avs outs
theorem callOk_of_hcall {f : FuncId} {args : List A1} {ret : AV} {outs : List (Option T)} (n : Nat)
    (h : HCall P f (nameAL args 0).1 (nameAL args 0).2 (EndK n (nameAL args 0).1 ret outs)) : CallOk P f args ret outs := by
  refine ⟨h.1, fun R w us F ha hg => ?_⟩
  have hH0 : relHeap R w [] [] [] fz := rfl
  obtain ⟨N, n1, n2⟩ := nameAL_sound ha hH0
  rw [z_fa] at n2
  simp only [List.nil_append, List.length_nil] at n1 n2
  refine (h.2 R w N us F n1 n2 hg).mono ?_
  rintro e w' ⟨u, r, H', R', N', F', rfl, ⟨k1, k2⟩, g1, g2, g3, g4⟩
  obtain ⟨F1, FH', q1, q2, q3⟩ := fitAV_sound k1 g1 g2
  have n1' := relAL_mono (R' := R') (w' := w') (fun b hb => g4.sub b hb) (prefix_self N N') (fun b hb => Fr.ro_same hg g4 b (hb.resolve_right (by simp [fz]))) n1
  obtain ⟨F2, p1, p2⟩ := fitOs_sound k2 n1' q2
  have hle : leF (fa F1 F2) F' := fun b => by have := q3 b; have := p2 b; simp only [fa, fz] at *; omega
  exact ⟨u, R', F1, F2, rfl, q1, p1, g3.le hle, g4.leq hle⟩

/-! ### A function's text -/
def resA (P : Program) (s : St) : List AObj → List ResultVar → Option (List A1 × List AObj)
  | H, [] => some ([], H)
  | H, .tmp t :: r => match s.env.getD t (.s .any), resA P s H r with
    | .s a, some (as_, H') => some (a :: as_, H')
    | _, _ => none
  | H, .cell a t :: r => match one? (s.env.getD a (.s .any)), ti P t with
    | some p, some i => match doLoad H i p with
      | some (.s x, H1) => match resA P s H1 r with
        | some (as_, H') => some (x :: as_, H')
        | none => none
      | _ => none
    | _, _ => none
def retOf : List A1 → AV
  | [a] => .s a
  | as_ => .tup as_
def aRes (P : Program) (rs : Array ResultVar) (K : AV → List AObj → Prop) (s : St) : Prop := match resA P s s.H rs.toList with
  | some (as_, H') => K (retOf as_) H'
  | none => False
def onRet (Q : St → Prop) : Ex → St → Prop
  | .normal, s => Q s
  | .ret, s => Q s
  | .exit _, _ => False
theorem relAL_len : ∀ {as_ : List A1} {us : List Value} {F : FP}, relAL R w M as_ us F → as_.length = us.length
  | [], [], F, h => rfl
  | a :: as_, u :: us, F, h => by obtain ⟨F1, F2, h1, h2, h3⟩ := h; simp [relAL_len h2]
  | [], _ :: _, F, h => h.elim
  | _ :: _, [], F, h => h.elim
theorem relAL_get : ∀ {as_ : List A1} {us : List Value} {i : Nat} {a : A1}, relAL R w M as_ us fz → as_[i]? = some a → ∃ u, us[i]? = some u ∧ relA1 R w M a u fz
  | [], us, i, a, h, hi => by simp at hi
  | b :: as_, u :: us, i, a, h, hi => by
    obtain ⟨F1, F2, h1, h2, he⟩ := h
    obtain ⟨rfl, rfl⟩ := fz_split he
    cases i with
    | zero => simp at hi; subst hi; exact ⟨u, rfl, h1⟩
    | succ i => simpa using relAL_get h2 (by simpa using hi)
  | _ :: _, [], i, a, h, hi => h.elim
theorem addr_of {p : T} {u : Value} {H : List AObj} {i : TI} {x : A1} {H1 : List AObj} (h : doLoad H i p = some (.s x, H1)) (hr : relT R w M p u fz) : ∃ a, u = .pointer (some a) := by
  unfold doLoad at h
  split at h
  · simp only [relT] at hr; obtain ⟨-, L, -, hu⟩ := hr; exact ⟨_, hu⟩
  · simp only [relT] at hr; obtain ⟨-, b, o, c, e, q, hu, -⟩ := hr; exact ⟨_, hu⟩
  · simp at h
def resOne (tmps : Array Value) : ResultVar → Sem Value
  | .tmp t => pure (tmps.getD t undef)
  | .cell a t => do loadVar t (← asAddr (tmps.getD a undef))
theorem results_eq (fn : Func) (tmps : Array Value) : results fn tmps = (do
    let vs ← fn.results.mapM (resOne tmps)
    pure (if h : vs.size = 1 then vs[0] else .tuple vs)) := by
  unfold results
  congr 1
theorem resA_sound {s : St} {tmps : Array Value} : ∀ {rs : List ResultVar} {H H' : List AObj} {as_ : List A1} {M : List Loc} {F : FP}, resA P s H rs = some (as_, H') → relEnv R w M s.env tmps → relHeap R w M H M F →
    ∃ us N, (rs.mapM (resOne tmps)).run P w = .ok us w ∧ relAL R w (M ++ N) as_ us fz ∧ relHeap R w (M ++ N) H' (M ++ N) F
  | [], H, H', as_, M, F, h, henv, hH => by
    simp only [resA, Option.some.injEq, Prod.mk.injEq] at h
    obtain ⟨rfl, rfl⟩ := h
    exact ⟨[], [], by simp, rfl, by simpa using hH⟩
  | .tmp t :: rs, H, H', as_, M, F, h, henv, hH => by
    simp only [resA] at h
    split at h
    · rename_i a as_' H2 ha hr
      simp only [Option.some.injEq, Prod.mk.injEq] at h
      obtain ⟨rfl, rfl⟩ := h
      obtain ⟨us, N, q1, q2, q3⟩ := resA_sound hr henv hH
      have hra : relAV R w M (s.env.getD t (.s .any)) (tmps.getD t undef) fz := by
        simp only [List.getD]
        cases he : s.env[t]? with
        | none => exact relAV_any _
        | some av => exact henv.2 t av he
      rw [ha] at hra
      refine ⟨tmps.getD t undef :: us, N, ?_, ⟨fz, fz, relA1_mono (fun _ h => h) (prefix_self M N) (fun _ _ => rfl) hra, q2, rfl⟩, q3⟩
      have h1 : (resOne tmps (.tmp t)).run P w = .ok (tmps.getD t undef) w := rfl
      simp only [List.mapM_cons, Sem.run_bind, h1, Result.andThen_ok, q1, Sem.run_pure]
    · simp at h
  | .cell a t :: rs, H, H', as_, M, F, h, henv, hH => by
    simp only [resA] at h
    split at h
    · rename_i p i hp hi
      split at h
      · rename_i x H1 hl
        split at h
        · rename_i as_' H2 hr
          simp only [Option.some.injEq, Prod.mk.injEq] at h
          obtain ⟨rfl, rfl⟩ := h
          have hra : relAV R w M (s.env.getD a (.s .any)) (tmps.getD a undef) fz := by
            simp only [List.getD]
            cases he : s.env[a]? with
            | none => exact relAV_any _
            | some av => exact henv.2 a av he
          have hpt := one_rel hp hra
          obtain ⟨ad, had⟩ := addr_of hl hpt
          obtain ⟨v, N1, r1, r2, r3⟩ := doLoad_sound (P := P) hl hi hpt hH
          obtain ⟨us, N2, q1, q2, q3⟩ := resA_sound hr (relEnv_mono (fun _ h => h) (prefix_self M N1) (fun _ _ => rfl) henv) r3
          rw [List.append_assoc] at q2 q3
          rw [had, loadAt_run] at r1
          refine ⟨v :: us, N1 ++ N2, ?_, ⟨fz, fz, relA1_mono (fun _ h => h) (by rw [← List.append_assoc]; exact prefix_self _ _) (fun _ _ => rfl) r2, q2, rfl⟩, q3⟩
          have h1 : (resOne tmps (.cell a t)).run P w = .ok v w := by
            simp only [resOne, had]
            simp only [Sem.run_bind, asAddr, Sem.run_pure, Result.andThen_ok, r1]
          simp only [List.mapM_cons, Sem.run_bind, h1, Result.andThen_ok, q1, Sem.run_pure]
        · simp at h
      · simp at h
    · simp at h
theorem hcall_of_body {f : FuncId} {fn : Func} {c : Code} {avs : List A1} {H : List AObj} {K : AV → List AObj → Prop} (hf : P.funcs[f]? = some fn) (hb : fn.body = some c) (hc : callable P f = true)
    (h : aCode P H.length c (onRet (aRes P fn.results K)) ⟨avs.map AV.s ++ List.replicate (fn.ntmps - avs.length) (.s .any), H⟩) : HCall P f avs H K := by
  refine ⟨hc, fun R w M us F ha hH hg => ?_⟩
  have hlen := relAL_len ha
  refine calls_of_wp hf hb ?_
  refine wp_mono (aCode_sound (X := ⟨R, w, M, F⟩) (relHeap_len hH).symm c _ _ { tmps := us.toArray ++ Array.replicate (fn.ntmps - us.toArray.size) undef, defers := [] } w h ⟨rfl, R, M, F, List.prefix_refl _, ⟨by simp [hlen], fun i av hi => ?_⟩, hH, hg, Fr.refl _ _ _⟩) ?_
  · by_cases hi2 : i < avs.length
    · rw [List.getElem?_append_left (by simpa using hi2)] at hi
      rw [List.getElem?_map] at hi
      cases hx : avs[i]? with
      | none => simp [hx] at hi
      | some a =>
        simp only [hx, Option.map_some, Option.some.injEq] at hi
        subst hi
        obtain ⟨u, h1, h2⟩ := relAL_get ha hx
        have hu : (us.toArray ++ Array.replicate (fn.ntmps - us.toArray.size) undef).getD i undef = u := by
          simp only [Array.getD_eq_getD_getElem?]
          rw [Array.getElem?_append, if_pos (by simp; omega)]
          simp [h1]
        simp only
        rw [hu]
        exact h2
    · rw [List.getElem?_append_right (by simpa using hi2)] at hi
      rw [List.getElem?_replicate] at hi
      split at hi
      · simp only [Option.some.injEq] at hi
        subst hi
        exact relAV_any _
      · simp at hi
  · have key : ∀ (s : St) (a : Act) (w' : World), aRes P fn.results K s → SimS ⟨R, w, M, F⟩ s a w' → a.defers = [] ∧ ∃ v, (results fn a.tmps).run P w' = .ok v w' ∧ ∃ u ret H' R' N F', Ending.returned v = .returned u ∧ K ret H' ∧ relAV R' w' (M ++ N) ret u fz ∧ relHeap R' w' (M ++ N) H' (M ++ N) F' ∧ Good R' w' F' ∧ Fr R w F R' w' F' := by
      intro s a w' hs hsim
      obtain ⟨hd, R', M', F', ⟨N, rfl⟩, henv, hH', hg', hfr⟩ := hsim
      refine ⟨hd, ?_⟩
      unfold aRes at hs
      split at hs
      · rename_i as_ H2 hr
        obtain ⟨vs, N2, r1, r2, r3⟩ := resA_sound (P := P) hr henv hH'
        have hres : (results fn a.tmps).run P w' = .ok (if h : vs.toArray.size = 1 then vs.toArray[0] else .tuple vs.toArray) w' := by
          rw [results_eq]
          have : (fn.results.mapM (resOne a.tmps)).run P w' = .ok vs.toArray w' := by
            rw [Array.mapM_eq_mapM_toList]
            simp only [Sem.run_map, r1, Result.andThen_ok]
          simp only [Sem.run_bind, this, Result.andThen_ok, Sem.run_pure]
        have hl2 := relAL_len r2
        refine ⟨_, hres, _, retOf as_, H2, R', N ++ N2, F', rfl, hs, ?_, by rw [← List.append_assoc]; exact r3, hg', hfr⟩
        rw [← List.append_assoc]
        by_cases h1 : vs.length = 1
        · obtain ⟨v, rfl⟩ := List.length_eq_one_iff.1 h1
          obtain ⟨a1, rfl⟩ := List.length_eq_one_iff.1 (hl2.trans h1)
          obtain ⟨F1, F2, g1, g2, he⟩ := r2
          obtain ⟨rfl, rfl⟩ := fz_split he
          simpa [retOf, relAV] using g1
        · have hret : retOf as_ = .tup as_ := by
            unfold retOf
            split
            · simp at hl2; omega
            · rfl
          rw [hret, dif_neg (by simpa using h1)]
          exact ⟨vs, rfl, r2⟩
      · exact hs.elim
    intro e a' w' hp
    cases e <;> simp only [post] at hp <;> try exact hp.elim
    · obtain ⟨s, h1, h2⟩ := hp
      exact key s a' w' h1 h2
    · obtain ⟨s, h1, h2⟩ := hp
      exact h1.elim
    · obtain ⟨s, h1, h2⟩ := hp
      exact key s a' w' h1 h2
end Go.Proofs.YtgeoipplkjgnfaaDoor.E
