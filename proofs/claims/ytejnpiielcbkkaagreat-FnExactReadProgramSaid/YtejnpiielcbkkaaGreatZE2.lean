/- A part of what stands under the laws of this seat: an abstract evaluator that is proved sound, and contracts of functions by it. No condition beside those that stand in each statement. -/
import Derived.Test.YtejnpiielcbkkaaGreatZE1
import Derived.KernelRfl
import Derived.Orders
set_option linter.unusedVariables false
set_option linter.unusedSimpArgs false
section
namespace Go.Proofs.YtejnpiielcbkkaaGreat.E
theorem nqA : type_of% @Bool.not_eq_eq_eq_not := @Bool.not_eq_eq_eq_not
theorem nqB : type_of% @Bool.not_true := @Bool.not_true
theorem nqC : type_of% @Bool.not_false := @Bool.not_false
theorem odT : type_of% @of_decide_eq_true := @of_decide_eq_true
theorem odF : type_of% @of_decide_eq_false := @of_decide_eq_false
variable {P : Program} {R R' : Nat → Prop} {w w' : World} {M M' : List Loc} {c : Array Value}
def relO (R : Nat → Prop) (w : World) : Option T → Value → FP → Prop
 | none, _, F => F = fz
 | some t, u, F => relT R w [] t u F
def relOs (R : Nat → Prop) (w : World) : List (Option T) → List Value → FP → Prop
 | [], [], F => F = fz
 | a :: as_, u :: us, F => ∃ F1 F2, relO R w a u F1 ∧ relOs R w as_ us F2 ∧ F = fa F1 F2
 | _, _, _ => False
/-- A call of f at closed arguments ends, with this answer, and these are what places that were handed over hold then. -/
def CallOk (P : Program) (f : FuncId) (args : List A1) (ret : AV) (outs : List (Option T)) : Prop :=
 callable P f = true ∧ ∀ (R : Nat → Prop) (w : World) (us : List Value) (F : FP), relAL R w [] args us F → Good R w F →
  Calls P f us.toArray w fun e w' => ∃ u R' F1 F2, e = .returned u ∧ relAV R' w' [] ret u F1 ∧ relOs R' w' outs us F2 ∧ Good R' w' (fa F1 F2) ∧ Fr R w F R' w' (fa F1 F2)
/-! ### Names -/
def nameA1 : A1 → Nat → A1 × List AObj
 | .one t, n => (.one (nameT t n).1, (nameT t n).2)
 | .agg ts, n => (.agg (nameRow ts n).1, (nameRow ts n).2)
 | .any, _ => (.any, [])
def nameAL : List A1 → Nat → List A1 × List AObj
 | [], _ => ([], [])
 | a :: as_, n => ((nameA1 a n).1 :: (nameAL as_ (n + (nameA1 a n).2.length)).1, (nameA1 a n).2 ++ (nameAL as_ (n + (nameA1 a n).2.length)).2)
def nameAV : AV → Nat → AV × List AObj
 | .s a, n => (.s (nameA1 a n).1, (nameA1 a n).2)
 | .tup as_, n => (.tup (nameAL as_ n).1, (nameAL as_ n).2)
theorem nil_pre (M : List Loc) : [] <+: M := List.nil_prefix
theorem nameA1_sound {a : A1} {u : Value} {F FH : FP} {H : List AObj} (h : relA1 R w M a u F) (hH : relHeap R w M H M FH) :
  ∃ N, relA1 R w (M ++ N) (nameA1 a H.length).1 u fz ∧ relHeap R w (M ++ N) (H ++ (nameA1 a H.length).2) (M ++ N) (fa FH F) := by
 cases a with
 | one t => exact nameT_sound h hH
 | agg ts =>
  obtain ⟨c, h1, h2, h3⟩ := h
  obtain ⟨N, n1, n2⟩ := nameRow_sound h3 hH
  exact ⟨N, ⟨c, h1, by simp [nameRow_len, h2], n1⟩, n2⟩
 | any =>
  have hF : F = fz := h
  subst hF
  exact ⟨[], rfl, by simpa [nameA1, fa_z] using hH⟩
theorem nameAL_sound : ∀ {as_ : List A1} {us : List Value} {F FH : FP} {H : List AObj} {M : List Loc}, relAL R w M as_ us F → relHeap R w M H M FH →
  ∃ N, relAL R w (M ++ N) (nameAL as_ H.length).1 us fz ∧ relHeap R w (M ++ N) (H ++ (nameAL as_ H.length).2) (M ++ N) (fa FH F)
 | [], [], F, FH, H, M, h, hH => by
  have hF : F = fz := h
  subst hF
  exact ⟨[], rfl, by simpa [nameAL, fa_z] using hH⟩
 | a :: as_, u :: us, F, FH, H, M, h, hH => by
  obtain ⟨F1, F2, h1, h2, rfl⟩ := h
  obtain ⟨N1, n1, n2⟩ := nameA1_sound h1 hH
  obtain ⟨N2, m1, m2⟩ := nameAL_sound (relAL_mono (fun _ h => h) (prefix_self M N1) (fun _ _ => rfl) h2) n2
  rw [List.length_append] at m1 m2
  rw [List.append_assoc] at m1 m2
  rw [List.append_assoc] at m2
  exact ⟨N1 ++ N2, ⟨fz, fz, relA1_mono (fun _ h => h) (by rw [← List.append_assoc]; exact prefix_self _ _) (fun _ _ => rfl) n1, m1, rfl⟩, by rw [← fa_assoc]; exact m2⟩
 | [], _ :: _, F, FH, H, M, h, hH => h.elim
 | _ :: _, [], F, FH, H, M, h, hH => h.elim
theorem nameAV_sound {a : AV} {u : Value} {F FH : FP} {H : List AObj} (h : relAV R w M a u F) (hH : relHeap R w M H M FH) :
  ∃ N, relAV R w (M ++ N) (nameAV a H.length).1 u fz ∧ relHeap R w (M ++ N) (H ++ (nameAV a H.length).2) (M ++ N) (fa FH F) := by
 cases a with
 | s a => exact nameA1_sound h hH
 | tup as_ =>
  obtain ⟨us, h1, h2⟩ := h
  obtain ⟨N, n1, n2⟩ := nameAL_sound h2 hH
  exact ⟨N, ⟨us, h1, n1⟩, n2⟩
/-! ### A contract out of a function's text -/
def fitA1 (n : Nat) (H : List AObj) : A1 → A1 → Prop × List AObj
 | .one t, .one t' => fitT n H t t'
 | .agg ts, .agg ts' => fitRow n H ts ts'
 | _, .any => (True, H)
 | _, _ => (False, H)
def fitAL (n : Nat) : List AObj → List A1 → List A1 → Prop × List AObj
 | H, [], [] => (True, H)
 | H, a :: as_, b :: bs => ((fitA1 n H a b).1 ∧ (fitAL n (fitA1 n H a b).2 as_ bs).1, (fitAL n (fitA1 n H a b).2 as_ bs).2)
 | H, _, _ => (False, H)
def fitAV (n : Nat) (H : List AObj) : AV → AV → Prop × List AObj
 | .s a, .s b => fitA1 n H a b
 | .tup as_, .tup bs => fitAL n H as_ bs
 | _, _ => (False, H)
def fitOs (n : Nat) : List AObj → List A1 → List (Option T) → Prop
 | _, [], [] => True
 | H, _ :: as_, none :: os => fitOs n H as_ os
 | H, .one t :: as_, some t' :: os => (fitT n H t t').1 ∧ fitOs n (fitT n H t t').2 as_ os
 | _, _, _ => False
theorem fitA1_sound {n : Nat} {H : List AObj} {a b : A1} {u : Value} {F FH : FP} (h : (fitA1 n H a b).1) (hr : relA1 R w M a u F) (hH : relHeap R w M H M FH) :
  ∃ F1 FH', relA1 R w [] b u F1 ∧ relHeap R w M (fitA1 n H a b).2 M FH' ∧ leF (fa F1 FH') (fa F FH) := by
 unfold fitA1 at h ⊢
 split at h
 ·exact fitT_sound n H _ _ u F FH h hr hH
 ·obtain ⟨c, rfl, h2, h3⟩ := hr
  obtain ⟨F1, FH', q1, q2, q3⟩ := fitRow_sound n H _ _ c 0 F FH h h3 hH
  have := fitRow_len n H _ _ h
  exact ⟨F1, FH', ⟨c, rfl, by omega, q1⟩, q2, q3⟩
 ·exact ⟨fz, FH, rfl, hH, fun b => by simp only [fa, fz]; omega⟩
 ·simp at h
theorem fitAL_sound {n : Nat} : ∀ {as_ bs : List A1} {us : List Value} {H : List AObj} {F FH : FP}, (fitAL n H as_ bs).1 → relAL R w M as_ us F → relHeap R w M H M FH →
  ∃ F1 FH', relAL R w [] bs us F1 ∧ relHeap R w M (fitAL n H as_ bs).2 M FH' ∧ leF (fa F1 FH') (fa F FH)
 | [], [], [], H, F, FH, h, hr, hH => ⟨F, FH, hr, hH, fun b => Nat.le_refl _⟩
 | a :: as_, b :: bs, u :: us, H, F, FH, h, hr, hH => by
  simp only [fitAL] at h ⊢
  obtain ⟨F1, F2, h1, h2, rfl⟩ := hr
  obtain ⟨G1, GH, q1, q2, q3⟩ := fitA1_sound h.1 h1 hH
  obtain ⟨G2, GH2, p1, p2, p3⟩ := fitAL_sound h.2 h2 q2
  exact ⟨fa G1 G2, GH2, ⟨G1, G2, q1, p1, rfl⟩, p2, fun b => by have := q3 b; have := p3 b; simp only [fa] at *; omega⟩
 | [], _ :: _, us, H, F, FH, h, hr, hH => by simp [fitAL] at h
 | _ :: _, [], us, H, F, FH, h, hr, hH => by simp [fitAL] at h
 | [], [], _ :: _, H, F, FH, h, hr, hH => hr.elim
 | _ :: _, _ :: _, [], H, F, FH, h, hr, hH => hr.elim
theorem fitAV_sound {n : Nat} {H : List AObj} {a b : AV} {u : Value} {F FH : FP} (h : (fitAV n H a b).1) (hr : relAV R w M a u F) (hH : relHeap R w M H M FH) :
  ∃ F1 FH', relAV R w [] b u F1 ∧ relHeap R w M (fitAV n H a b).2 M FH' ∧ leF (fa F1 FH') (fa F FH) := by
 unfold fitAV at h ⊢
 split at h
 ·exact fitA1_sound h hr hH
 ·obtain ⟨us, h1, h2⟩ := hr
  obtain ⟨F1, FH', q1, q2, q3⟩ := fitAL_sound h h2 hH
  exact ⟨F1, FH', ⟨us, h1, q1⟩, q2, q3⟩
 ·simp at h
theorem fitOs_sound {n : Nat} : ∀ {as_ : List A1} {os : List (Option T)} {us : List Value} {H : List AObj} {F FH : FP}, fitOs n H as_ os → relAL R w M as_ us F → relHeap R w M H M FH →
  ∃ F1, relOs R w os us F1 ∧ leF F1 (fa F FH)
 | [], [], [], H, F, FH, h, hr, hH => ⟨fz, rfl, fun b => Nat.zero_le _⟩
 | a :: as_, none :: os, u :: us, H, F, FH, h, hr, hH => by
  obtain ⟨F1, F2, h1, h2, rfl⟩ := hr
  have h' : fitOs n H as_ os := by cases a <;> exact h
  obtain ⟨G, g1, g2⟩ := fitOs_sound h' h2 hH
  exact ⟨fa fz G, ⟨fz, G, rfl, g1, rfl⟩, fun b => by have := g2 b; simp only [fa, fz] at *; omega⟩
 | .one t :: as_, some t' :: os, u :: us, H, F, FH, h, hr, hH => by
  obtain ⟨F1, F2, h1, h2, rfl⟩ := hr
  obtain ⟨G1, GH, q1, q2, q3⟩ := fitT_sound n H t t' u F1 FH h.1 h1 hH
  obtain ⟨G, g1, g2⟩ := fitOs_sound h.2 h2 q2
  exact ⟨fa G1 G, ⟨G1, G, q1, g1, rfl⟩, fun b => by have := q3 b; have := g2 b; simp only [fa, fz] at *; omega⟩
 | .agg _ :: as_, some t' :: os, us, H, F, FH, h, hr, hH => h.elim
 | .any :: as_, some t' :: os, us, H, F, FH, h, hr, hH => h.elim
 | [], _ :: _, us, H, F, FH, h, hr, hH => h.elim
 | _ :: _, [], us, H, F, FH, h, hr, hH => by cases ‹A1› <;> exact h.elim
 | [], [], _ :: _, H, F, FH, h, hr, hH => hr.elim
 | _ :: _, _ :: _, [], H, F, FH, h, hr, hH => hr.elim
theorem Fr.leq {R0 : Nat → Prop} {w0 : World} {F0 F F' : FP} (h : Fr R0 w0 F0 R w F) (hF : leF F' F) : Fr R0 w0 F0 R w F' := h.le hF
/-- What a call comes to, told over named memory. -/
def EndK (n : Nat) (avs : List A1) (ret : AV) (outs : List (Option T)) (r : AV) (H' : List AObj) : Prop := (fitAV n H' r ret).1 ∧ fitOs n (fitAV n H' r ret).2 avs outs
theorem cOh {f : FuncId} {args : List A1} {ret : AV} {outs : List (Option T)} (n : Nat)
  (h : HCall P f (nameAL args 0).1 (nameAL args 0).2 (EndK n (nameAL args 0).1 ret outs)) : CallOk P f args ret outs := by
 refine ⟨h.1, fun R w us F ha hg => ?_⟩
 have hH0 : relHeap R w [] [] [] fz := rfl
 obtain ⟨N, n1, n2⟩ := nameAL_sound ha hH0
 rw [z_fa] at n2
 simp only [List.nil_append, List.length_nil] at n1 n2
 refine (h.2 R w N us F n1 n2 hg).mono ?_
 rintro e w' ⟨u, r, H', R', N', F', rfl, ⟨k1, k2⟩, g1, g2, g3, g4⟩
 obtain ⟨F1, FH', q1, q2, q3⟩ := fitAV_sound k1 g1 g2
 have n1' := relAL_mono (R' := R') (w' := w') (fun b hb => g4.sub b hb) (prefix_self N N') (fun b hb => Fr.ro_same hg g4 b (hb.resolve_right (by simp [fz]))) n1
 obtain ⟨F2, p1, p2⟩ := fitOs_sound k2 n1' q2
 have hle : leF (fa F1 F2) F' := fun b => by have := q3 b; have := p2 b; simp only [fa, fz] at *; omega
 exact ⟨u, R', F1, F2, rfl, q1, p1, g3.le hle, g4.leq hle⟩
/-! ### A function's text -/
def resA (P : Program) (s : St) : List AObj → List ResultVar → Option (List A1 × List AObj)
 | H, [] => some ([], H)
 | H, .tmp t :: r => match s.env.getD t (.s .any), resA P s H r with
  | .s a, some (as_, H') => some (a :: as_, H')
  | _, _ => none
 | H, .cell a t :: r => match one? (s.env.getD a (.s .any)), ti P t with
  | some p, some i => match doLoad H i p with
   | some (.s x, H1) => match resA P s H1 r with
    | some (as_, H') => some (x :: as_, H')
    | none => none
   | _ => none
  | _, _ => none
def retOf : List A1 → AV
 | [a] => .s a
 | as_ => .tup as_
def aRes (P : Program) (rs : Array ResultVar) (K : AV → List AObj → Prop) (s : St) : Prop := match resA P s s.H rs.toList with
 | some (as_, H') => K (retOf as_) H'
 | none => False
def onRet (Q : St → Prop) : Ex → St → Prop
 | .normal, s => Q s
 | .ret, s => Q s
 | .exit _, _ => False
theorem relAL_len : ∀ {as_ : List A1} {us : List Value} {F : FP}, relAL R w M as_ us F → as_.length = us.length
 | [], [], F, h => rfl
 | a :: as_, u :: us, F, h => by obtain ⟨F1, F2, h1, h2, h3⟩ := h; simp [relAL_len h2]
 | [], _ :: _, F, h => h.elim
 | _ :: _, [], F, h => h.elim
theorem relAL_get : ∀ {as_ : List A1} {us : List Value} {i : Nat} {a : A1}, relAL R w M as_ us fz → as_[i]? = some a → ∃ u, us[i]? = some u ∧ relA1 R w M a u fz
 | [], us, i, a, h, hi => by simp at hi
 | b :: as_, u :: us, i, a, h, hi => by
  obtain ⟨F1, F2, h1, h2, he⟩ := h
  obtain ⟨rfl, rfl⟩ := fz_split he
  cases i with
  | zero => simp at hi; subst hi; exact ⟨u, rfl, h1⟩
  | succ i => simpa using relAL_get h2 (by simpa using hi)
 | _ :: _, [], i, a, h, hi => h.elim
theorem addr_of {p : T} {u : Value} {H : List AObj} {i : TI} {x : A1} {H1 : List AObj} (h : doLoad H i p = some (.s x, H1)) (hr : relT R w M p u fz) : ∃ a, u = .pointer (some a) := by
 unfold doLoad at h
 split at h
 ·simp only [relT] at hr; obtain ⟨-, L, -, hu⟩ := hr; exact ⟨_, hu⟩
 ·simp only [relT] at hr; obtain ⟨-, b, o, c, e, q, hu, -⟩ := hr; exact ⟨_, hu⟩
 ·simp at h
def resOne (tmps : Array Value) : ResultVar → Sem Value
 | .tmp t => pure (tmps.getD t undef)
 | .cell a t => do loadVar t (← asAddr (tmps.getD a undef))
theorem results_eq (fn : Func) (tmps : Array Value) : results fn tmps = (do
  let vs ← fn.results.mapM (resOne tmps)
  pure (if h : vs.size = 1 then vs[0] else .tuple vs)) := by
 unfold results
 congr 1
theorem resA_sound {s : St} {tmps : Array Value} : ∀ {rs : List ResultVar} {H H' : List AObj} {as_ : List A1} {M : List Loc} {F : FP}, resA P s H rs = some (as_, H') → relEnv R w M s.env tmps → relHeap R w M H M F →
  ∃ us N, (rs.mapM (resOne tmps)).run P w = .ok us w ∧ relAL R w (M ++ N) as_ us fz ∧ relHeap R w (M ++ N) H' (M ++ N) F
 | [], H, H', as_, M, F, h, henv, hH => by
  simp only [resA, Option.some.injEq, Prod.mk.injEq] at h
  obtain ⟨rfl, rfl⟩ := h
  exact ⟨[], [], by simp, rfl, by simpa using hH⟩
 | .tmp t :: rs, H, H', as_, M, F, h, henv, hH => by
  simp only [resA] at h
  split at h
  ·rename_i a as_' H2 ha hr
   simp only [Option.some.injEq, Prod.mk.injEq] at h
   obtain ⟨rfl, rfl⟩ := h
   obtain ⟨us, N, q1, q2, q3⟩ := resA_sound hr henv hH
   have hra : relAV R w M (s.env.getD t (.s .any)) (tmps.getD t undef) fz := by
    simp only [List.getD]
    cases he : s.env[t]? with
    | none => exact relAV_any _
    | some av => exact henv.2 t av he
   rw [ha] at hra
   refine ⟨tmps.getD t undef :: us, N, ?_, ⟨fz, fz, relA1_mono (fun _ h => h) (prefix_self M N) (fun _ _ => rfl) hra, q2, rfl⟩, q3⟩
   have h1 : (resOne tmps (.tmp t)).run P w = .ok (tmps.getD t undef) w := rfl
   simp only [List.mapM_cons, Sem.run_bind, h1, Result.andThen_ok, q1, Sem.run_pure]
  ·simp at h
 | .cell a t :: rs, H, H', as_, M, F, h, henv, hH => by
  simp only [resA] at h
  split at h
  ·rename_i p i hp hi
   split at h
   ·rename_i x H1 hl
    split at h
    ·rename_i as_' H2 hr
     simp only [Option.some.injEq, Prod.mk.injEq] at h
     obtain ⟨rfl, rfl⟩ := h
     have hra : relAV R w M (s.env.getD a (.s .any)) (tmps.getD a undef) fz := by
      simp only [List.getD]
      cases he : s.env[a]? with
      | none => exact relAV_any _
      | some av => exact henv.2 a av he
     have hpt := one_rel hp hra
     obtain ⟨ad, had⟩ := addr_of hl hpt
     obtain ⟨v, N1, r1, r2, r3⟩ := doLoad_sound (P := P) hl hi hpt hH
     obtain ⟨us, N2, q1, q2, q3⟩ := resA_sound hr (relEnv_mono (fun _ h => h) (prefix_self M N1) (fun _ _ => rfl) henv) r3
     rw [List.append_assoc] at q2 q3
     rw [had, loadAt_run] at r1
     refine ⟨v :: us, N1 ++ N2, ?_, ⟨fz, fz, relA1_mono (fun _ h => h) (by rw [← List.append_assoc]; exact prefix_self _ _) (fun _ _ => rfl) r2, q2, rfl⟩, q3⟩
     have h1 : (resOne tmps (.cell a t)).run P w = .ok v w := by
      simp only [resOne, had]
      simp only [Sem.run_bind, asAddr, Sem.run_pure, Result.andThen_ok, r1]
     simp only [List.mapM_cons, Sem.run_bind, h1, Result.andThen_ok, q1, Sem.run_pure]
    ·simp at h
   ·simp at h
  ·simp at h
theorem hBd {f : FuncId} {fn : Func} {c : Code} {avs : List A1} {H : List AObj} {K : AV → List AObj → Prop} (hf : P.funcs[f]? = some fn) (hb : fn.body = some c) (hc : callable P f = true)
  (h : aCode P H.length c (onRet (aRes P fn.results K)) ⟨avs.map AV.s ++ List.replicate (fn.ntmps - avs.length) (.s .any), H⟩) : HCall P f avs H K := by
 refine ⟨hc, fun R w M us F ha hH hg => ?_⟩
 have hlen := relAL_len ha
 refine calls_of_wp hf hb ?_
 refine wp_mono (aCode_sound (X := ⟨R, w, M, F⟩) (relHeap_len hH).symm c _ _ { tmps := us.toArray ++ Array.replicate (fn.ntmps - us.toArray.size) undef, defers := [] } w h ⟨rfl, R, M, F, List.prefix_refl _, ⟨by simp [hlen], fun i av hi => ?_⟩, hH, hg, Fr.refl _ _ _⟩) ?_
 ·by_cases hi2 : i < avs.length
  ·rw [List.getElem?_append_left (by simpa using hi2)] at hi
   rw [List.getElem?_map] at hi
   cases hx : avs[i]? with
   | none => simp [hx] at hi
   | some a =>
    simp only [hx, Option.map_some, Option.some.injEq] at hi
    subst hi
    obtain ⟨u, h1, h2⟩ := relAL_get ha hx
    have hu : (us.toArray ++ Array.replicate (fn.ntmps - us.toArray.size) undef).getD i undef = u := by
     simp only [Array.getD_eq_getD_getElem?]
     rw [Array.getElem?_append, if_pos (by simp; omega)]
     simp [h1]
    simp only
    rw [hu]
    exact h2
  ·rw [List.getElem?_append_right (by simpa using hi2)] at hi
   rw [List.getElem?_replicate] at hi
   split at hi
   ·simp only [Option.some.injEq] at hi
    subst hi
    exact relAV_any _
   ·simp at hi
 ·have key : ∀ (s : St) (a : Act) (w' : World), aRes P fn.results K s → SimS ⟨R, w, M, F⟩ s a w' → a.defers = [] ∧ ∃ v, (results fn a.tmps).run P w' = .ok v w' ∧ ∃ u ret H' R' N F', Ending.returned v = .returned u ∧ K ret H' ∧ relAV R' w' (M ++ N) ret u fz ∧ relHeap R' w' (M ++ N) H' (M ++ N) F' ∧ Good R' w' F' ∧ Fr R w F R' w' F' := by
   intro s a w' hs hsim
   obtain ⟨hd, R', M', F', ⟨N, rfl⟩, henv, hH', hg', hfr⟩ := hsim
   refine ⟨hd, ?_⟩
   unfold aRes at hs
   split at hs
   ·rename_i as_ H2 hr
    obtain ⟨vs, N2, r1, r2, r3⟩ := resA_sound (P := P) hr henv hH'
    have hres : (results fn a.tmps).run P w' = .ok (if h : vs.toArray.size = 1 then vs.toArray[0] else .tuple vs.toArray) w' := by
     rw [results_eq]
     have : (fn.results.mapM (resOne a.tmps)).run P w' = .ok vs.toArray w' := by
      rw [Array.mapM_eq_mapM_toList]
      simp only [Sem.run_map, r1, Result.andThen_ok]
     simp only [Sem.run_bind, this, Result.andThen_ok, Sem.run_pure]
    have hl2 := relAL_len r2
    refine ⟨_, hres, _, retOf as_, H2, R', N ++ N2, F', rfl, hs, ?_, by rw [← List.append_assoc]; exact r3, hg', hfr⟩
    rw [← List.append_assoc]
    by_cases h1 : vs.length = 1
    ·obtain ⟨v, rfl⟩ := List.length_eq_one_iff.1 h1
     obtain ⟨a1, rfl⟩ := List.length_eq_one_iff.1 (hl2.trans h1)
     obtain ⟨F1, F2, g1, g2, he⟩ := r2
     obtain ⟨rfl, rfl⟩ := fz_split he
     simpa [retOf, relAV] using g1
    ·have hret : retOf as_ = .tup as_ := by
      unfold retOf
      split
      ·simp at hl2; omega
      ·rfl
     rw [hret, dif_neg (by simpa using h1)]
     exact ⟨vs, rfl, r2⟩
   ·exact hs.elim
  intro e a' w' hp
  cases e <;> simp only [post] at hp <;> try exact hp.elim
  ·obtain ⟨s, h1, h2⟩ := hp
   exact key s a' w' h1 h2
  ·obtain ⟨s, h1, h2⟩ := hp
   exact h1.elim
  ·obtain ⟨s, h1, h2⟩ := hp
   exact key s a' w' h1 h2
end Go.Proofs.YtejnpiielcbkkaaGreat.E
end
section
namespace Go.Proofs.YtejnpiielcbkkaaGreat.E
variable {P : Program} {R R' : Nat → Prop} {w w' : World} {M M' : List Loc} {c : Array Value}
/-- What a place that was handed over holds then. H0: the memory ahead of the call. -/
def back1 (H0 H : List AObj) : A1 → Option T → Prop × List AObj
 | .one (.ref l 0 _), some (.own sz rows) => match H0[l]? with
  | some (.live sz0 _) => (sz0 = sz, H.set l (.live sz rows))
  | _ => (False, H)
 | .one (.ptr l 0 0), some (.box row) => match H0[l]? with
  | some (.live sz0 (_ :: _)) => (sz0 = row.length, H.set l (.live sz0 [row]))
  | _ => (False, H)
 | _, none => (True, H)
 | _, some _ => (False, H)
def backAL (H0 : List AObj) : List AObj → List A1 → List (Option T) → Prop × List AObj
 | H, [], [] => (True, H)
 | H, a :: as_, o :: os => ((back1 H0 H a o).1 ∧ (backAL H0 (back1 H0 H a o).2 as_ os).1, (backAL H0 (back1 H0 H a o).2 as_ os).2)
 | H, _, _ => (False, H)
def noRoO : Option T → Bool
 | none => true
 | some t => noRo t
def noRoA1 : A1 → Bool
 | .one t => noRo t
 | .agg ts => noRoRow ts
 | .any => true
def noRoAV : AV → Bool
 | .s a => noRoA1 a
 | .tup as_ => as_.all noRoA1
theorem noRoA1_rel {a : A1} {u : Value} {F : FP} (h : noRoA1 a = true) (hr : relA1 R w M a u F) : relA1 R' w M a u F := by
 cases a with
 | one t => exact noRo_rel t u F h hr
 | agg ts => obtain ⟨c, h1, h2, h3⟩ := hr; exact ⟨c, h1, h2, noRoRow_rel c ts 0 F h h3⟩
 | any => exact hr
theorem noRoAL_rel : ∀ {as_ : List A1} {us : List Value} {F : FP}, as_.all noRoA1 = true → relAL R w M as_ us F → relAL R' w M as_ us F
 | [], [], F, h, hr => hr
 | a :: as_, u :: us, F, h, hr => by
  obtain ⟨F1, F2, h1, h2, h3⟩ := hr
  simp only [List.all_cons, Bool.and_eq_true] at h
  exact ⟨F1, F2, noRoA1_rel h.1 h1, noRoAL_rel h.2 h2, h3⟩
 | [], _ :: _, F, h, hr => hr.elim
 | _ :: _, [], F, h, hr => hr.elim
theorem noRoAV_rel {a : AV} {u : Value} {F : FP} (h : noRoAV a = true) (hr : relAV R w M a u F) : relAV R' w M a u F := by
 cases a with
 | s a => exact noRoA1_rel h hr
 | tup as_ => obtain ⟨us, h1, h2⟩ := hr; exact ⟨us, h1, noRoAL_rel h h2⟩
theorem noRoOs_rel : ∀ {os : List (Option T)} {us : List Value} {F : FP}, os.all noRoO = true → relOs R w os us F → relOs R' w os us F
 | [], [], F, h, hr => hr
 | o :: os, u :: us, F, h, hr => by
  obtain ⟨F1, F2, h1, h2, h3⟩ := hr
  simp only [List.all_cons, Bool.and_eq_true] at h
  refine ⟨F1, F2, ?_, noRoOs_rel h.2 h2, h3⟩
  cases o with
  | none => exact h1
  | some t => exact noRo_rel t u F1 h.1 h1
 | [], _ :: _, F, h, hr => hr.elim
 | _ :: _, [], F, h, hr => hr.elim
theorem back1_sound {H0 H : List AObj} {a : A1} {o : Option T} {u : Value} {F0 F2 FH : FP} {R0 : Nat → Prop} {w0 : World} (h : (back1 H0 H a o).1) (hl : H.length = H0.length) (h0 : relHeap R0 w0 M H0 M F0)
  (hsh : ∀ (b : Nat) (c : Array Value) (e : TypeId) (q : Nat × Nat), w0.heap[b]? = some (.cells c e q) → ∃ c', w.heap[b]? = some (.cells c' e q) ∧ c'.size = c.size) (ha : relA1 R0 w0 M a u fz) (ho : relO R w o u F2) (hH : relHeap R w M H M FH) :
  ∃ FH', relHeap R w M (back1 H0 H a o).2 M FH' ∧ leF FH' (fa FH F2) ∧ (back1 H0 H a o).2.length = H0.length := by
 unfold back1 at h ⊢
 split at h
 ·rename_i l len sz rows
  split at h
  ·rename_i sz0 rows0 hlv
   simp only at h ⊢
   subst h
   simp only [relA1, relT] at ha
   obtain ⟨-, L, a, cap, hL, rfl, hcap, hroom, had⟩ := ha
   have hlt : l < H.length := by rw [hl]; exact (List.getElem?_eq_some_iff.1 hlv).1
   obtain ⟨L', F1', F2', hL', rfl, -, hput⟩ := relHeap_get hH (List.getElem?_eq_getElem hlt)
   rw [hL] at hL'
   simp only [Option.some.injEq] at hL'
   subst hL'
   have hsz := heap_sz h0 hlv hL
   simp only [relO, relT] at ho
   obtain ⟨L2, a2, cap2, e1, e2, e3, e4, e5, e6⟩ := ho
   simp only [Value.slice.injEq] at e2
   obtain ⟨rfl, rfl, rfl⟩ := e2
   have hobj : ∃ G, relObj R w M L (.live sz0 rows) G ∧ leF G F2 := by
    rcases e6 with ⟨g1, g2, g3⟩ | ⟨c, F', g1, g2, g3⟩
    ·exact ⟨F2, ⟨hsz, .inl ⟨g1, by omega, g3⟩⟩, fun _ => Nat.le_refl _⟩
    ·by_cases hc : cap = 0
     ·have hr0 : rows = [] := List.eq_nil_of_length_eq_zero (by omega)
      exact ⟨fz, ⟨hsz, .inl ⟨hr0, by omega, rfl⟩⟩, fun _ => Nat.zero_le _⟩
     ·have ea := had.resolve_left hc
      have eb := e5.resolve_left hc
      rw [ea] at eb
      simp only [Option.some.injEq, Addr.mk.injEq, and_true] at eb
      obtain ⟨eb1, eb2⟩ := eb
      have hLL : L2 = L := by
       cases L; cases L2
       simp only at *
       simp only [Loc.mk.injEq]
       omega
      subst hLL
      exact ⟨F2, ⟨hsz, .inr ⟨c, F', g1, by omega, relTRows_mono (fun _ h => h) (nil_pre M) c L2.sz rows L2.o F' (fun _ _ => rfl) g2, g3⟩⟩, fun _ => Nat.le_refl _⟩
   obtain ⟨G, hG, hle⟩ := hobj
   exact ⟨_, hput R w M _ G (fun _ h => h) (List.prefix_refl _) (fun _ _ => rfl) hG, fun b => by have := hle b; simp only [fa]; omega, by simp [hl]⟩
  ·simp at h
 ·rename_i l row
  split at h
  ·rename_i sz0 r0 rs0 hlv
   simp only at h ⊢
   subst h
   simp only [relA1, relT] at ha
   obtain ⟨-, L, hL, rfl⟩ := ha
   have hlt : l < H.length := by rw [hl]; exact (List.getElem?_eq_some_iff.1 hlv).1
   obtain ⟨L', F1', F2', hL', rfl, -, hput⟩ := relHeap_get hH (List.getElem?_eq_getElem hlt)
   rw [hL] at hL'
   simp only [Option.some.injEq] at hL'
   subst hL'
   have hsz := heap_sz h0 hlv hL
   obtain ⟨L0, K1, K2, hL0, -, hobj0, -⟩ := relHeap_get h0 hlv
   rw [hL] at hL0
   simp only [Option.some.injEq] at hL0
   subst hL0
   obtain ⟨-, hobj0⟩ := hobj0
   rcases hobj0 with ⟨hn, -⟩ | ⟨c0, K', ⟨ex, lox, hix, hbx, hfx, hexx⟩, hrx, -, -⟩
   ·simp at hn
   simp only [relO, relT] at ho
   obtain ⟨L2, c, F', e1, e2, e3, ⟨e', lo, hi, g1, g2, g3⟩, e5, e6⟩ := ho
   simp only [Value.pointer.injEq, Option.some.injEq, Addr.mk.injEq, and_true] at e1
   obtain ⟨eb1, eb2⟩ := e1
   obtain ⟨c', s1, s2⟩ := hsh L.b c0 ex (lox, hix) hbx
   rw [eb1, g1] at s1
   simp only [Option.some.injEq, Obj.cells.injEq, Prod.mk.injEq] at s1
   obtain ⟨rfl, rfl, rfl, rfl⟩ := s1
   have hobj : relObj R w M L (.live row.length [row]) F2 := by
    refine ⟨hsz, .inr ⟨c, F', ⟨e', lo, hi, by rw [eb1]; exact g1, g2, by rw [s2]; exact hexx⟩, by simp at hrx ⊢; omega, ?_, by rw [eb1]; exact e6⟩⟩
    simp only [relTRows]
    refine ⟨F', fz, hsz.symm, relTRow_mono (fun _ h => h) (nil_pre M) c row L.o F' (fun _ _ => rfl) ?_, rfl, rfl⟩
    have : L.o = L2.o := by omega
    rw [this]
    exact e5
   exact ⟨_, hput R w M _ F2 (fun _ h => h) (List.prefix_refl _) (fun _ _ => rfl) hobj, fun b => by simp only [fa]; omega, by simp [hl]⟩
  ·simp at h
 ·have hF : F2 = fz := ho
  subst hF
  exact ⟨FH, hH, fun b => by simp only [fa, fz]; omega, hl⟩
 ·simp at h
theorem backAL_sound {H0 : List AObj} {F0 : FP} {R0 : Nat → Prop} {w0 : World} (h0 : relHeap R0 w0 M H0 M F0) (hsh : ∀ (b : Nat) (c : Array Value) (e : TypeId) (q : Nat × Nat), w0.heap[b]? = some (.cells c e q) → ∃ c', w.heap[b]? = some (.cells c' e q) ∧ c'.size = c.size) :
  ∀ {as_ : List A1} {os : List (Option T)} {us : List Value} {H : List AObj} {F2 FH : FP}, (backAL H0 H as_ os).1 → H.length = H0.length → relAL R0 w0 M as_ us fz → relOs R w os us F2 → relHeap R w M H M FH →
  ∃ FH', relHeap R w M (backAL H0 H as_ os).2 M FH' ∧ leF FH' (fa FH F2)
 | [], [], [], H, F2, FH, h, hl, ha, ho, hH => ⟨FH, hH, fun b => by simp only [fa]; omega⟩
 | a :: as_, o :: os, u :: us, H, F2, FH, h, hl, ha, ho, hH => by
  simp only [backAL] at h ⊢
  obtain ⟨G1, G2, h1, h2, he⟩ := ha
  obtain ⟨rfl, rfl⟩ := fz_split he
  obtain ⟨K1, K2, k1, k2, rfl⟩ := ho
  obtain ⟨FH1, q1, q2, q3⟩ := back1_sound h.1 hl h0 hsh h1 k1 hH
  obtain ⟨FH2, p1, p2⟩ := backAL_sound h0 hsh h.2 q3 h2 k2 q1
  exact ⟨FH2, p1, fun b => by have := q2 b; have := p2 b; simp only [fa] at *; omega⟩
 | [], _ :: _, us, H, F2, FH, h, hl, ha, ho, hH => by simp [backAL] at h
 | _ :: _, [], us, H, F2, FH, h, hl, ha, ho, hH => by simp [backAL] at h
 | [], [], _ :: _, H, F2, FH, h, hl, ha, ho, hH => ha.elim
 | _ :: _, _ :: _, [], H, F2, FH, h, hl, ha, ho, hH => ha.elim
theorem hcO {f : FuncId} {avs args : List A1} {H : List AObj} {ret : AV} {outs : List (Option T)} {K : AV → List AObj → Prop} (n : Nat) (sn : Bool) (hc : CallOk P f args ret outs)
  (h1 : (takeAL n H avs args).1) (h2 : lookAL sn n (takeAL n H avs args).2 avs args) (h3 : sn = true → noRoAV ret = true ∧ outs.all noRoO = true) (h4 : (backAL H (takeAL n H avs args).2 avs outs).1)
  (hK : K (nameAV ret (backAL H (takeAL n H avs args).2 avs outs).2.length).1 ((backAL H (takeAL n H avs args).2 avs outs).2 ++ (nameAV ret (backAL H (takeAL n H avs args).2 avs outs).2.length).2)) : HCall P f avs H K := by
 refine ⟨hc.1, fun R w M us F ha hH hg => ?_⟩
 obtain ⟨F1, FH1, t1, t2, t3⟩ := takeAL_sound h1 ha hH
 have hF1 : ∀ b, F1 b ≤ F b ∧ FH1 b ≤ F b ∧ F1 b + FH1 b ≤ 1 := fun b => by have := t3 b; have := hg.one b; simp only [fa] at *; omega
 have l1 := lookAL_sound (Rc := fun b => R b ∨ (sn = true ∧ 1 ≤ FH1 b)) t2 (fun b hb => .inl hb) (fun hs b hb => .inr ⟨hs, hb⟩) h2 ha t1
 have hgc : Good (fun b => R b ∨ (sn = true ∧ 1 ≤ FH1 b)) w F1 := by
  refine ⟨fun b => by have := hF1 b; omega, fun b hb => ?_, fun b hb => ?_, hg.inv.mono (fun _ h => .inl h) (Nat.le_refl _) fun _ _ => rfl⟩
  ·have h5 := hg.own b (by have := hF1 b; omega)
   exact ⟨fun h => by rcases h with h | h; exact h5.1 h; have := hF1 b; omega, h5.2⟩
  ·rcases hb with hb | hb
   ·exact hg.ro b hb
   ·exact (hg.own b (by have := hF1 b; omega)).2
 refine (hc.2 _ w us F1 l1 hgc).mono ?_
 rintro e w' ⟨u, R', G1, G2, rfl, g1, g2, g3, g4⟩
 have hF1R : ∀ b, R b → F1 b = 0 := fun b hb => by
  cases hz : F1 b with
  | zero => rfl
  | succ k => exact absurd (Or.inl hb) (hgc.own b (by omega)).1
 have hsame : ∀ b, R b ∨ 1 ≤ FH1 b → w'.heap[b]? = w.heap[b]? := fun b hb => by
  rcases hb with hb | hb
  ·exact g4.same b (hg.ro b hb) (hF1R b hb)
  ·exact g4.same b (hg.own b (by have := hF1 b; omega)).2 (by have := hF1 b; omega)
 have hR2 : ∃ R2 : Nat → Prop, (∀ b, R b → R2 b) ∧ (∀ b, R2 b → b < w'.heap.size) ∧ (∀ b, 1 ≤ FH1 b → ¬ R2 b) ∧ (∀ b, 1 ≤ (fa G1 G2) b → ¬ R2 b) ∧ (∀ b, R2 b → R b ∨ 1 ≤ F b ∨ w.heap.size ≤ b) ∧ relAV R2 w' [] ret u G1 ∧ relOs R2 w' outs us G2 := by
  cases sn with
  | true =>
   obtain ⟨n1, n2⟩ := h3 rfl
   refine ⟨R, fun _ h => h, fun b hb => Nat.lt_of_lt_of_le (hg.ro b hb) g4.size, fun b hb => (hg.own b (by have := hF1 b; omega)).1, fun b hb h => (g3.own b hb).1 (g4.sub b (.inl h)), fun b hb => .inl hb, noRoAV_rel n1 g1, noRoOs_rel n2 g2⟩
  | false =>
   refine ⟨R', fun b hb => g4.sub b (.inl hb), g3.ro, fun b hb h => ?_, fun b hb => (g3.own b hb).1, fun b hb => ?_, g1, g2⟩
   ·rcases g4.ro b h with h5 | h5 | h5
    ·rcases h5 with h5 | h5
     ·exact (hg.own b (by have := hF1 b; omega)).1 h5
     ·simp at h5
    ·have := hF1 b; omega
    ·have := (hg.own b (by have := hF1 b; omega)).2; omega
   ·rcases g4.ro b hb with h5 | h5 | h5
    ·rcases h5 with h5 | h5
     ·exact .inl h5
     ·simp at h5
    ·exact .inr (.inl (by have := hF1 b; omega))
    ·exact .inr (.inr h5)
 obtain ⟨R2, r1, r2, r3, r4, r5, r6, r7⟩ := hR2
 have hHn := relHeap_mono (R' := R2) (w' := w') r1 (List.prefix_refl M) hsame t2
 have hlen : (takeAL n H avs args).2.length = H.length := by rw [relHeap_len hHn, relHeap_len hH]
 obtain ⟨FH2, b1, b2⟩ := backAL_sound (w := w') hH g4.shape h4 hlen ha r7 hHn
 obtain ⟨N, m1, m2⟩ := nameAV_sound (relAV_mono (fun _ h => h) (nil_pre M) (fun _ _ => rfl) r6) b1
 have hle : ∀ b, (fa FH2 G1) b ≤ FH1 b + (fa G1 G2) b := fun b => by have := b2 b; simp only [fa] at *; omega
 have hdis : ∀ b, 1 ≤ FH1 b → (fa G1 G2) b = 0 := fun b hb => by
  cases hz : (fa G1 G2) b with
  | zero => rfl
  | succ k =>
   rcases g4.own b (by omega) with h5 | h5
   ·have := hF1 b; omega
   ·have := (hg.own b (by have := hF1 b; omega)).2; omega
 refine ⟨u, _, _, R2, N, _, rfl, hK, m1, m2, ⟨fun b => ?_, fun b hb => ?_, r2, hg.inv.mono r1 g4.size fun b hb => hsame b (.inl hb)⟩, ⟨g4.os, g4.tape, g4.output, g4.size, fun b hb h0 => g4.same b hb (by have := hF1 b; omega), r1, fun b hb => ?_, r5, g4.shape⟩⟩
 ·have h5 := hle b
  by_cases h6 : 1 ≤ FH1 b
  ·have := hdis b h6
   have := hF1 b
   omega
  ·have := g3.one b
   omega
 ·have h5 := hle b
  by_cases h6 : 1 ≤ FH1 b
  ·exact ⟨r3 b h6, Nat.lt_of_lt_of_le (hg.own b (by have := hF1 b; omega)).2 g4.size⟩
  ·exact ⟨r4 b (by omega), (g3.own b (by omega)).2⟩
 ·have h5 := hle b
  by_cases h6 : 1 ≤ FH1 b
  ·exact .inl (by have := hF1 b; omega)
  ·rcases g4.own b (by omega) with h7 | h7
   ·exact .inl (by have := hF1 b; omega)
   ·exact .inr h7
end Go.Proofs.YtejnpiielcbkkaaGreat.E
end
section
namespace Go.Proofs.YtejnpiielcbkkaaGreat.E
variable {P : Program} {R R' : Nat → Prop} {w w' : World} {M M' : List Loc} {c : Array Value}
/-! ### Regions -/
inductive Res where
  | done (s : St)
  | call (f : FuncId) (avs : List A1) (dst : Option Tmp) (os : List Oper) (s : St)
  | stuck
def exec1 (P : Program) (o : Oper) (os : List Oper) (s : St) (k : St → Res) : Res := match callOf s o.op with
 | some (f, avs) => .call f avs o.dst os s
 | none => match astep P s o.op with
  | some (av, H') => k ⟨putE s.env o.dst av, H'⟩
  | none => .stuck
def runL (P : Program) (all : Array Oper) : List Oper → St → Res
 | [], s => .done s
 | o :: os, s => match o.guard with
  | none => exec1 P o os s (runL P all os)
  | some (j, want) => match guardOf all s j want with
   | some b => if b = want then exec1 P o os s (runL P all os) else runL P all os ⟨putE s.env o.dst (.tup []), s.H⟩
   | none => .stuck
def aL (P : Program) (all : Array Oper) (Q : St → Prop) : List Oper → St → Prop
 | [], s => Q s
 | o :: os, s => match o.guard with
  | none => aOp P o s (aL P all Q os)
  | some (j, want) => match guardOf all s j want with
   | some b => (b = want → aOp P o s (aL P all Q os)) ∧ (b ≠ want → aL P all Q os ⟨putE s.env o.dst (.tup []), s.H⟩)
   | none => False
def resOk (P : Program) (all : Array Oper) (Q : St → Prop) : Res → Prop
 | .done s => Q s
 | .call f avs dst os s => HCall P f avs s.H fun ret H' => aL P all Q os ⟨putE s.env dst ret, H'⟩
 | .stuck => False
theorem exec1_ok {all : Array Oper} {Q : St → Prop} {o : Oper} {os : List Oper} {s : St} (h : resOk P all Q (exec1 P o os s (runL P all os))) (ih : ∀ s, resOk P all Q (runL P all os s) → aL P all Q os s) : aOp P o s (aL P all Q os) := by
 unfold exec1 at h
 unfold aOp
 split at h
 ·rename_i f avs hc
  rw [hc]
  exact h
 ·rename_i hc
  rw [hc]
  split at h
  ·rename_i av H' hs
   simp only [hs]
   exact ih _ h
  ·exact h.elim
theorem aLr {all : Array Oper} {Q : St → Prop} : ∀ {l : List Oper} {s : St}, resOk P all Q (runL P all l s) → aL P all Q l s
 | [], s, h => h
 | o :: os, s, h => by
  unfold runL at h
  unfold aL
  cases hg : o.guard with
  | none =>
   rw [hg] at h
   exact exec1_ok h fun s h => aLr h
  | some q =>
   obtain ⟨j, want⟩ := q
   rw [hg] at h
   dsimp only at h ⊢
   split at h
   ·rename_i b hb
    try simp only [hb]
    split at h
    ·rename_i hbw
     exact ⟨fun _ => exec1_ok h fun s h => aLr h, fun hn => absurd hbw hn⟩
    ·rename_i hbw
     exact ⟨fun hn => absurd hn hbw, fun _ => aLr h⟩
   ·exact h.elim
theorem aOps_aL {all : Array Oper} {Q : St → Prop} : ∀ (n k : Nat) (s : St), k + n = all.size → aL P all Q (all.toList.drop k) s → aOps P all Q (List.range' k n) s
 | 0, k, s, hk, h => by
  rw [List.drop_of_length_le (by simp; omega)] at h
  exact h
 | n + 1, k, s, hk, h => by
  have hlt : k < all.toList.length := by simp; omega
  rw [List.drop_eq_getElem_cons hlt] at h
  simp only [List.range'_succ, aOps]
  have he : all[k]? = some all.toList[k] := by
   rw [← Array.getElem?_toList, List.getElem?_eq_getElem hlt]
  rw [he]
  simp only [aL] at h ⊢
  have key : ∀ s, aL P all Q (all.toList.drop (k + 1)) s → aOps P all Q (List.range' (k + 1) n) s := fun s h => aOps_aL n (k + 1) s (by omega) h
  have keyO : ∀ o s, aOp P o s (aL P all Q (all.toList.drop (k + 1))) → aOp P o s (aOps P all Q (List.range' (k + 1) n)) := by
   intro o s h
   unfold aOp at h ⊢
   split at h
   ·exact h.mono fun r H hh => key _ hh
   ·split at h
    ·exact key _ h
    ·exact h.elim
  cases hg : all.toList[k].guard with
  | none =>
   rw [hg] at h
   exact keyO _ _ h
  | some q =>
   obtain ⟨j, want⟩ := q
   rw [hg] at h
   simp only at h ⊢
   split at h
   ·rename_i b hb
    try simp only [hb]
    exact ⟨fun hw => keyO _ _ (h.1 hw), fun hw => key _ (h.2 hw)⟩
   ·exact h.elim
section rules
variable {k : Nat} {Q : Ex → St → Prop} {s : St}
theorem i_region {id : Nat} {ops : Array Oper} (h : aL P ops (Q .normal) ops.toList s) : aCode P k (.region id ops false) Q s := by
 have := aOps_aL (P := P) (all := ops) (Q := Q .normal) ops.size 0 s (by omega) (by simpa using h)
 simp only [aCode, Bool.false_eq_true, if_false]
 rwa [List.range_eq_range']
theorem i_seq {x y : Code} (h : aCode P k x (fun e s' => match e with | .normal => aCode P k y Q s' | .exit i => Q (.exit i) s' | .ret => Q .ret s') s) : aCode P k (.seq x y) Q s := h
theorem i_cond {cc : Operand} {x y : Code} {b : Bool} (hb : bool? (ev s cc) = some b) (h1 : b = true → aCode P k x Q s) (h2 : b = false → aCode P k y Q s) : aCode P k (.cond cc x y) Q s := by
 simp only [aCode, hb]
 exact ⟨h1, h2⟩
theorem iBk {id : Nat} {x : Code} (h : aCode P k x (fun e s' => match e with | .normal => Q .normal s' | .exit i => if i = id then Q .normal s' else Q (.exit i) s' | .ret => Q .ret s') s) : aCode P k (.block id x) Q s := h
theorem i_loop {x : Code} {α : Type} (S : α → St) (m : α → Nat) (x0 : α) (h0 : Weak k s (S x0)) (h : ∀ x', aCode P k x (fun e s' => match e with | .normal => ∃ x2, Weak k s' (S x2) ∧ m x2 < m x' | .exit i => Q (.exit i) s' | .ret => Q .ret s') (S x')) : aCode P k (.loop x) Q s := ⟨α, S, m, ⟨x0, h0⟩, h⟩
end rules
end Go.Proofs.YtejnpiielcbkkaaGreat.E
end
section
namespace Go.Proofs.YtejnpiielcbkkaaGreat.E
variable {P : Program} {R R' : Nat → Prop} {w w' : World} {M M' : List Loc} {c : Array Value}
/-! ### Names in a value -/
mutual
def refsT : T → List Nat
 | .v _ => []
 | .ro _ _ => []
 | .own _ rows => refsRows rows
 | .ref l _ _ => [l]
 | .ptr l _ _ => [l]
 | .rp _ _ => []
 | .box row => refsRow row
 | .fn _ _ cap => refsRow cap
def refsRow : List T → List Nat
 | [] => []
 | t :: ts => refsT t ++ refsRow ts
def refsRows : List (List T) → List Nat
 | [] => []
 | r :: rs => refsRow r ++ refsRows rs
end
mutual
def renT (f : Nat → Nat) : T → T
 | .v x => .v x
 | .ro sz rows => .ro sz rows
 | .own sz rows => .own sz (renRows f rows)
 | .ref l off len => .ref (f l) off len
 | .ptr l r c => .ptr (f l) r c
 | .rp row c => .rp row c
 | .box row => .box (renRow f row)
 | .fn bd g cap => .fn bd g (renRow f cap)
def renRow (f : Nat → Nat) : List T → List T
 | [] => []
 | t :: ts => renT f t :: renRow f ts
def renRows (f : Nat → Nat) : List (List T) → List (List T)
 | [] => []
 | r :: rs => renRow f r :: renRows f rs
end
theorem renRow_len (f : Nat → Nat) : ∀ ts : List T, (renRow f ts).length = ts.length
 | [] => rfl
 | t :: ts => by simp [renRow, renRow_len f ts]
theorem renRows_len (f : Nat → Nat) : ∀ ts : List (List T), (renRows f ts).length = ts.length
 | [] => rfl
 | t :: ts => by simp [renRows, renRows_len f ts]
mutual
theorem closed_refsT : ∀ (t : T), closedT t = true → refsT t = []
 | .v _, h => rfl
 | .ro _ _, h => rfl
 | .own _ rows, h => by simp only [refsT]; exact closed_refsRows rows (by simpa [closedT] using h)
 | .ref _ _ _, h => by simp [closedT] at h
 | .ptr _ _ _, h => by simp [closedT] at h
 | .rp _ _, h => rfl
 | .box row, h => by simp only [refsT]; exact closed_refsRow row (by simpa [closedT] using h)
 | .fn _ _ cap, h => by simp only [refsT]; exact closed_refsRow cap (by simpa [closedT] using h)
theorem closed_refsRow : ∀ (ts : List T), closedRow ts = true → refsRow ts = []
 | [], h => rfl
 | t :: ts, h => by
  simp only [closedRow, Bool.and_eq_true] at h
  simp [refsRow, closed_refsT t h.1, closed_refsRow ts h.2]
theorem closed_refsRows : ∀ (rs : List (List T)), closedRows rs = true → refsRows rs = []
 | [], h => rfl
 | r :: rs, h => by
  simp only [closedRows, Bool.and_eq_true] at h
  simp [refsRows, closed_refsRow r h.1, closed_refsRows rs h.2]
end
mutual
theorem closed_renT (f : Nat → Nat) : ∀ (t : T), closedT t = true → renT f t = t
 | .v _, h => rfl
 | .ro _ _, h => rfl
 | .own _ rows, h => by simp only [renT, closed_renRows f rows (by simpa [closedT] using h)]
 | .ref _ _ _, h => by simp [closedT] at h
 | .ptr _ _ _, h => by simp [closedT] at h
 | .rp _ _, h => rfl
 | .box row, h => by simp only [renT, closed_renRow f row (by simpa [closedT] using h)]
 | .fn _ _ cap, h => by simp only [renT, closed_renRow f cap (by simpa [closedT] using h)]
theorem closed_renRow (f : Nat → Nat) : ∀ (ts : List T), closedRow ts = true → renRow f ts = ts
 | [], h => rfl
 | t :: ts, h => by
  simp only [closedRow, Bool.and_eq_true] at h
  simp [renRow, closed_renT f t h.1, closed_renRow f ts h.2]
theorem closed_renRows (f : Nat → Nat) : ∀ (rs : List (List T)), closedRows rs = true → renRows f rs = rs
 | [], h => rfl
 | r :: rs, h => by
  simp only [closedRows, Bool.and_eq_true] at h
  simp [renRows, closed_renRow f r h.1, closed_renRows f rs h.2]
end
section
variable {f : Nat → Nat}
def Carries (f : Nat → Nat) (M M' : List Loc) (l : Nat) : Prop := ∀ L, M[l]? = some L → M'[f l]? = some L
mutual
theorem renT_rel : ∀ (t : T) (u : Value) (F : FP), (∀ l ∈ refsT t, Carries f M M' l) → relT R w M t u F → relT R w M' (renT f t) u F
 | .v x, u, F, hc, h => h
 | .ro sz rows, u, F, hc, h => h
 | .own sz rows, u, F, hc, h => by
  simp only [renT, relT] at h ⊢
  simp only [refsT] at hc
  obtain ⟨L, a, cap, h0, h1, h2, h3, h4, h5⟩ := h
  refine ⟨L, a, cap, h0, by rw [renRows_len]; exact h1, by rw [renRows_len]; exact h2, h3, h4, ?_⟩
  rcases h5 with ⟨rfl, h5⟩ | ⟨c, F', h6, h7, h8⟩
  ·exact .inl ⟨rfl, h5⟩
  ·exact .inr ⟨c, F', h6, renRows_rel c L.sz rows L.o F' hc h7, h8⟩
 | .ref l off len, u, F, hc, h => by
  simp only [renT, relT] at h ⊢
  obtain ⟨h0, L, a, cap, h1, h2⟩ := h
  exact ⟨h0, L, a, cap, hc l (by simp [refsT]) L h1, h2⟩
 | .ptr l r c, u, F, hc, h => by
  simp only [renT, relT] at h ⊢
  obtain ⟨h0, L, h1, h2⟩ := h
  exact ⟨h0, L, hc l (by simp [refsT]) L h1, h2⟩
 | .rp row col, u, F, hc, h => h
 | .box row, u, F, hc, h => by
  simp only [renT, relT] at h ⊢
  simp only [refsT] at hc
  obtain ⟨L, c, F', h1, h2, h3, h4, h5, h6⟩ := h
  exact ⟨L, c, F', h1, by rw [renRow_len]; exact h2, h3, h4, renRow_rel c row L.o F' hc h5, h6⟩
 | .fn bd g cap, u, F, hc, h => by
  simp only [renT, relT] at h ⊢
  simp only [refsT] at hc
  obtain ⟨h0, c, h1, h2, h3⟩ := h
  exact ⟨h0, c, h1, by rw [renRow_len]; exact h2, renRow_rel c cap 0 fz hc h3⟩
theorem renRow_rel (c : Array Value) : ∀ (ts : List T) (o : Nat) (F : FP), (∀ l ∈ refsRow ts, Carries f M M' l) → relTRow R w M c ts o F → relTRow R w M' c (renRow f ts) o F
 | [], o, F, hc, h => h
 | t :: ts, o, F, hc, h => by
  simp only [renRow, relTRow] at h ⊢
  simp only [refsRow, List.mem_append] at hc
  obtain ⟨u, F1, F2, h1, h2, h3, h4⟩ := h
  exact ⟨u, F1, F2, h1, renT_rel t u F1 (fun l hl => hc l (.inl hl)) h2, renRow_rel c ts (o + 1) F2 (fun l hl => hc l (.inr hl)) h3, h4⟩
theorem renRows_rel (c : Array Value) (sz : Nat) : ∀ (rs : List (List T)) (o : Nat) (F : FP), (∀ l ∈ refsRows rs, Carries f M M' l) → relTRows R w M c sz rs o F → relTRows R w M' c sz (renRows f rs) o F
 | [], o, F, hc, h => h
 | r :: rs, o, F, hc, h => by
  simp only [renRows, relTRows] at h ⊢
  simp only [refsRows, List.mem_append] at hc
  obtain ⟨F1, F2, h1, h2, h3, h4⟩ := h
  exact ⟨F1, F2, by rw [renRow_len]; exact h1, renRow_rel c r o F1 (fun l hl => hc l (.inl hl)) h2, renRows_rel c sz rs (o + sz) F2 (fun l hl => hc l (.inr hl)) h3, h4⟩
end
def refsObj : AObj → List Nat
 | .dead => []
 | .live _ rows => if closedRows rows = true then [] else refsRows rows
def renObj (f : Nat → Nat) : AObj → AObj
 | .dead => .dead
 | .live sz rows => .live sz (if closedRows rows = true then rows else renRows f rows)
def refsA1 : A1 → List Nat
 | .one t => refsT t
 | .agg ts => refsRow ts
 | .any => []
def refsAV : AV → List Nat
 | .s a => refsA1 a
 | .tup _ => []
def renAV (f : Nat → Nat) : AV → AV
 | .s (.one t) => .s (.one (renT f t))
 | .s (.agg ts) => .s (.agg (renRow f ts))
 | _ => .s .any
theorem renObj_rel {L : Loc} {o : AObj} {F : FP} (hc : ∀ l ∈ refsObj o, Carries f M M' l) (h : relObj R w M L o F) : relObj R w M' L (renObj f o) F := by
 cases o with
 | dead => exact h
 | live sz rows =>
  obtain ⟨h0, h⟩ := h
  refine ⟨h0, ?_⟩
  simp only [refsObj] at hc
  by_cases hcl : closedRows rows = true
  ·rw [if_pos hcl]
   rcases h with h | ⟨c, F', h1, h2, h3, h4⟩
   ·exact .inl h
   ·exact .inr ⟨c, F', h1, h2, closedRows_rel c L.sz rows L.o F' hcl h3, h4⟩
  ·rw [if_neg hcl] at hc ⊢
   rcases h with ⟨rfl, h⟩ | ⟨c, F', h1, h2, h3, h4⟩
   ·exact .inl ⟨rfl, h⟩
   ·exact .inr ⟨c, F', h1, by rw [renRows_len]; exact h2, renRows_rel c L.sz rows L.o F' hc h3, h4⟩
theorem renAV_rel {a : AV} {u : Value} (hc : ∀ l ∈ refsAV a, Carries f M M' l) (h : relAV R w M a u fz) : relAV R w M' (renAV f a) u fz := by
 cases a with
 | s a =>
  cases a with
  | one t => exact renT_rel t u fz hc h
  | agg ts => obtain ⟨c, h1, h2, h3⟩ := h; exact ⟨c, h1, by rw [renRow_len]; exact h2, renRow_rel c ts 0 fz hc h3⟩
  | any => rfl
 | tup as_ => rfl
/-! ### What is kept -/
def newName (k : Nat) (keep : List Nat) (l : Nat) : Nat := if l < k then l else k + keep.idxOf l
def pick : List AObj → List Nat → List AObj × List AObj
 | H, [] => ([], H)
 | H, l :: ls => (H.getD l .dead :: (pick (H.set l .dead) ls).1, (pick (H.set l .dead) ls).2)
def keepEnv (f : Nat → Nat) : List AV → Nat → List Nat → List AV
 | [], _, _ => []
 | _ :: as_, i, [] => .s .any :: keepEnv f as_ (i + 1) []
 | a :: as_, i, s :: ss => if i = s then renAV f a :: keepEnv f as_ (i + 1) ss else .s .any :: keepEnv f as_ (i + 1) (s :: ss)
def slotRefs (env : List AV) : List Nat → List Nat
 | [] => []
 | s :: ss => refsAV (env.getD s (.s .any)) ++ slotRefs env ss
def canonH (k : Nat) (keep : List Nat) (H : List AObj) : List AObj := (((pick H keep).2.take k) ++ (pick H keep).1).map (renObj (newName k keep))
/-- All names that are kept are in the list. -/
def okNames (k : Nat) (keep : List Nat) (ls : List Nat) : Bool := ls.all fun l => decide (l < k) || keep.contains l
def okKeep (k : Nat) (keep : List Nat) (slots : List Nat) (s : St) : Bool :=
 okNames k keep (slotRefs s.env slots) && ((((pick s.H keep).2.take k) ++ (pick s.H keep).1).all fun o => okNames k keep (refsObj o)) && keep.all fun l => decide (l < s.H.length)
theorem relHeap_take : ∀ {H : List AObj} {Ls : List Loc} {F : FP} (k : Nat), relHeap R w M H Ls F → ∃ F', relHeap R w M (H.take k) (Ls.take k) F' ∧ leF F' F
 | H, Ls, F, 0, h => ⟨fz, by simp [relHeap], fun _ => Nat.zero_le _⟩
 | [], [], F, k + 1, h => ⟨F, by simpa using h, fun _ => Nat.le_refl _⟩
 | o :: os, L :: Ls, F, k + 1, h => by
  obtain ⟨F1, F2, h1, h2, rfl⟩ := h
  obtain ⟨F', g1, g2⟩ := relHeap_take k h2
  exact ⟨fa F1 F', ⟨F1, F', h1, g1, rfl⟩, fun b => by have := g2 b; simp only [fa]; omega⟩
 | [], _ :: _, F, k + 1, h => h.elim
 | _ :: _, [], F, k + 1, h => h.elim
theorem pick_rel : ∀ {keep : List Nat} {H : List AObj} {F : FP}, (∀ l ∈ keep, l < H.length) → relHeap R w M H M F → ∃ F1 F2, relHeap R w M (pick H keep).1 (keep.map fun l => M.getD l ⟨0, 0, 0, 0⟩) F1 ∧ relHeap R w M (pick H keep).2 M F2 ∧ leF (fa F1 F2) F
 | [], H, F, hk, h => ⟨fz, F, rfl, h, fun b => by simp only [fa, fz]; omega⟩
 | l :: ls, H, F, hk, h => by
  have hlt := hk l (by simp)
  have hltM : l < M.length := by rw [← relHeap_len h]; exact hlt
  obtain ⟨G1, G2, rfl, hobj, hH⟩ := relHeap_kill h (List.getElem?_eq_getElem hlt) (List.getElem?_eq_getElem hltM)
  obtain ⟨F1, F2, p1, p2, p3⟩ := pick_rel (keep := ls) (fun x hx => by rw [List.length_set]; exact hk x (by simp [hx])) hH
  refine ⟨fa G1 F1, F2, ⟨G1, F1, ?_, p1, rfl⟩, p2, fun b => by have := p3 b; simp only [fa] at *; omega⟩
  have e1 : H.getD l .dead = H[l] := by simp [List.getD, hlt]
  have e2 : M.getD l ⟨0, 0, 0, 0⟩ = M[l] := by simp [List.getD, hltM]
  rw [e1]
  show relObj R w M (M.getD l ⟨0, 0, 0, 0⟩) _ _
  rw [e2]
  exact hobj
theorem relHeap_app : ∀ {H H2 : List AObj} {Ls Ls2 : List Loc} {F F2 : FP}, relHeap R w M H Ls F → relHeap R w M H2 Ls2 F2 → relHeap R w M (H ++ H2) (Ls ++ Ls2) (fa F F2)
 | [], H2, [], Ls2, F, F2, h, h2 => by rw [show F = fz from h, z_fa]; exact h2
 | o :: os, H2, L :: Ls, Ls2, F, F2, h, h2 => by
  obtain ⟨F1, F', h1, h3, rfl⟩ := h
  exact ⟨F1, fa F' F2, h1, relHeap_app h3 h2, fa_assoc _ _ _⟩
 | [], H2, _ :: _, Ls2, F, F2, h, h2 => h.elim
 | _ :: _, H2, [], Ls2, F, F2, h, h2 => h.elim
theorem relHeap_ren : ∀ {H : List AObj} {Ls : List Loc} {F : FP}, (∀ o ∈ H, ∀ l ∈ refsObj o, Carries f M M' l) → relHeap R w M H Ls F → relHeap R w M' (H.map (renObj f)) Ls F
 | [], [], F, hc, h => h
 | o :: os, L :: Ls, F, hc, h => by
  obtain ⟨F1, F2, h1, h2, h3⟩ := h
  exact ⟨F1, F2, renObj_rel (hc o (by simp)) h1, relHeap_ren (fun o ho => hc o (by simp [ho])) h2, h3⟩
 | [], _ :: _, F, hc, h => h.elim
 | _ :: _, [], F, hc, h => h.elim
theorem keepEnv_len : ∀ (env : List AV) (i : Nat) (slots : List Nat), (keepEnv f env i slots).length = env.length
 | [], i, slots => by cases slots <;> rfl
 | a :: as_, i, [] => by simp [keepEnv, keepEnv_len as_]
 | a :: as_, i, s :: ss => by
  simp only [keepEnv]
  split <;> simp [keepEnv_len as_]
theorem keepEnv_get : ∀ (env : List AV) (i : Nat) (slots : List Nat) (j : Nat) (av : AV), (keepEnv f env i slots)[j]? = some av → av = .s .any ∨ (i + j ∈ slots ∧ ∃ a, env[j]? = some a ∧ av = renAV f a)
 | [], i, slots, j, av, h => by cases slots <;> simp [keepEnv] at h
 | a :: as_, i, [], j, av, h => by
  simp only [keepEnv] at h
  cases j with
  | zero => simp at h; exact .inl h.symm
  | succ j =>
   rcases keepEnv_get as_ (i + 1) [] j av (by simpa using h) with h | ⟨h, -⟩
   ·exact .inl h
   ·simp at h
 | a :: as_, i, s :: ss, j, av, h => by
  simp only [keepEnv] at h
  split at h
  ·rename_i hs
   cases j with
   | zero => simp at h; exact .inr ⟨by simp [hs], a, rfl, h.symm⟩
   | succ j =>
    rcases keepEnv_get as_ (i + 1) ss j av (by simpa using h) with h | ⟨h, b, h1, h2⟩
    ·exact .inl h
    ·exact .inr ⟨by rw [show i + (j + 1) = i + 1 + j by omega]; simp [h], b, by simpa using h1, h2⟩
  ·cases j with
   | zero => simp at h; exact .inl h.symm
   | succ j =>
    rcases keepEnv_get as_ (i + 1) (s :: ss) j av (by simpa using h) with h | ⟨h, b, h1, h2⟩
    ·exact .inl h
    ·exact .inr ⟨by rw [show i + (j + 1) = i + 1 + j by omega]; exact h, b, by simpa using h1, h2⟩
theorem slotRefs_mem {env : List AV} {a : AV} {l : Nat} : ∀ {slots : List Nat} {j : Nat}, j ∈ slots → env[j]? = some a → l ∈ refsAV a → l ∈ slotRefs env slots
 | s :: ss, j, hj, he, hl => by
  simp only [slotRefs, List.mem_append]
  rcases List.mem_cons.1 hj with rfl | hj
  ·left
   have : env.getD j (.s .any) = a := by simp [List.getD, he]
   rw [this]
   exact hl
  ·exact .inr (slotRefs_mem hj he hl)
theorem wCn {k : Nat} {s s' : St} (slots keep : List Nat) (hok : okKeep k keep slots s = true) (he : keepEnv (newName k keep) s.env 0 slots = s'.env) (hH' : canonH k keep s.H = s'.H) : Weak k s s' := by
 intro X a w hk hs
 obtain ⟨hd, R, M, F, hpre, henv, hH, hg, hfr⟩ := hs
 simp only [okKeep, Bool.and_eq_true, List.all_eq_true, decide_eq_true_eq] at hok
 obtain ⟨⟨ok1, ok2⟩, ok3⟩ := hok
 have hML := relHeap_len hH
 have hkM : k ≤ M.length := by rw [← hk]; exact hpre.length_le
 obtain ⟨F1, F2, p1, p2, p3⟩ := pick_rel ok3 hH
 obtain ⟨F3, t1, t2⟩ := relHeap_take k p2
 have happ := relHeap_app t1 p1
 have hcar : ∀ l, (l < k ∨ l ∈ keep) → Carries (newName k keep) M (M.take k ++ keep.map fun l => M.getD l ⟨0, 0, 0, 0⟩) l := by
  intro l hl L hL
  have hlM := (List.getElem?_eq_some_iff.1 hL).1
  unfold newName
  by_cases hlk : l < k
  ·rw [if_pos hlk, List.getElem?_append_left (by simp; omega), List.getElem?_take, if_pos hlk]
   exact hL
  ·rw [if_neg hlk]
   have hmem : l ∈ keep := hl.resolve_left hlk
   have hidx := List.idxOf_lt_length_of_mem hmem
   rw [List.getElem?_append_right (by simp; omega)]
   have : k + keep.idxOf l - (M.take k).length = keep.idxOf l := by simp; omega
   rw [this, List.getElem?_map, List.getElem?_eq_getElem hidx, List.getElem_idxOf hidx]
   simp [List.getD, hL]
 have hnames : ∀ ls, okNames k keep ls = true → ∀ l ∈ ls, l < k ∨ l ∈ keep := by
  intro ls h l hl
  have := List.all_eq_true.1 h l hl
  simpa using this
 have hren := relHeap_ren (f := newName k keep) (M' := M.take k ++ keep.map fun l => M.getD l ⟨0, 0, 0, 0⟩) (fun o ho l hl => hcar l (hnames _ (ok2 o ho) l hl)) happ
 have hle : leF (fa F3 F1) F := fun b => by have := p3 b; have := t2 b; simp only [fa] at *; omega
 refine ⟨hd, R, M.take k ++ keep.map (fun l => M.getD l ⟨0, 0, 0, 0⟩), fa F3 F1, ?_, ⟨?_, fun i av hi => ?_⟩, ?_, hg.le hle, hfr.leq hle⟩
 ·have : X.M0 = M.take k := by
   obtain ⟨N, rfl⟩ := hpre
   rw [← hk, List.take_left]
  rw [this]
  exact List.prefix_append _ _
 ·rw [← he, keepEnv_len]
  exact henv.1
 ·rw [← he] at hi
  rcases keepEnv_get s.env 0 slots i av hi with rfl | ⟨h1, b, h2, rfl⟩
  ·exact relAV_any _
  ·rw [Nat.zero_add] at h1
   exact renAV_rel (fun l hl => hcar l (hnames _ ok1 l (slotRefs_mem h1 h2 hl))) (henv.2 i b h2)
 ·rw [← hH']
  exact hren
end
end Go.Proofs.YtejnpiielcbkkaaGreat.E
end
section
namespace Go.Proofs.YtejnpiielcbkkaaGreat.E
abbrev bV (b : Bool) : T := .v (.bool b)
abbrev iV (n : Int) : T := .v (.int .i64 n)
abbrev sV (s : ByteArray) : T := .v (.string s)
abbrev nilV : Value := .slice none 0 0
def runG (P : Program) (all : Array Oper) (b want : Bool) (o : Oper) (os : List Oper) (s : St) : Res := if b = want then exec1 P o os s (runL P all os) else runL P all os ⟨putE s.env o.dst (.tup []), s.H⟩
theorem runL_nil (P : Program) (all : Array Oper) (s : St) : runL P all [] s = .done s := by rw [runL.eq_def]
theorem runL_none (P : Program) (all : Array Oper) (a1 : Option Tmp) (a2 : Op) (a3 : TypeId) (a4 : String) (a5 : Array Edge) (os : List Oper) (s : St) : runL P all (⟨a1, a2, a3, a4, a5, none⟩ :: os) s = exec1 P ⟨a1, a2, a3, a4, a5, none⟩ os s (runL P all os) := by rw [runL.eq_def]
theorem runL_guard (P : Program) (all : Array Oper) (a1 : Option Tmp) (a2 : Op) (a3 : TypeId) (a4 : String) (a5 : Array Edge) (j : Nat) (want : Bool) (os : List Oper) (s : St) : runL P all (⟨a1, a2, a3, a4, a5, some (j, want)⟩ :: os) s = match guardOf all s j want with
  | some b => runG P all b want ⟨a1, a2, a3, a4, a5, some (j, want)⟩ os s
  | none => .stuck := by rw [runL.eq_def]; rfl
theorem runG_tt (P : Program) (all : Array Oper) (o : Oper) (os : List Oper) (s : St) : runG P all true true o os s = exec1 P o os s (runL P all os) := by rw [runG, if_pos rfl]
theorem runG_ff (P : Program) (all : Array Oper) (o : Oper) (os : List Oper) (s : St) : runG P all false false o os s = exec1 P o os s (runL P all os) := by rw [runG, if_pos rfl]
theorem runG_tf (P : Program) (all : Array Oper) (o : Oper) (os : List Oper) (s : St) : runG P all true false o os s = runL P all os ⟨putE s.env o.dst (.tup []), s.H⟩ := by rw [runG, if_neg (by simp)]
theorem runG_ft (P : Program) (all : Array Oper) (o : Oper) (os : List Oper) (s : St) : runG P all false true o os s = runL P all os ⟨putE s.env o.dst (.tup []), s.H⟩ := by rw [runG, if_neg (by simp)]
theorem rOg {P : Program} {all : Array Oper} {Q : St → Prop} {b want : Bool} {o : Oper} {os : List Oper} {s : St} (h1 : b = want → resOk P all Q (exec1 P o os s (runL P all os))) (h2 : b = !want → resOk P all Q (runL P all os ⟨putE s.env o.dst (.tup []), s.H⟩)) : resOk P all Q (runG P all b want o os s) := by
 unfold runG
 by_cases h : b = want
 ·rw [if_pos h]; exact h1 h
 ·rw [if_neg h]; exact h2 (by cases b <;> cases want <;> simp_all)
theorem exec1_mk (P : Program) (a1 : Option Tmp) (a2 : Op) (a3 : TypeId) (a4 : String) (a5 : Array Edge) (a6 : Option (Nat × Bool)) (os : List Oper) (s : St) (k : St → Res) : exec1 P ⟨a1, a2, a3, a4, a5, a6⟩ os s k = match callOf s a2 with
 | some (f, avs) => .call f avs a1 os s
 | none => match astep P s a2 with
  | some (av, H') => k ⟨putE s.env a1 av, H'⟩
  | none => .stuck := by first | (rw [exec1]; done) | (rw [exec1]; rfl)
theorem resOk_done (P : Program) (all : Array Oper) (Q : St → Prop) (s : St) : resOk P all Q (.done s) = Q s := by rw [resOk]
theorem resOk_call (P : Program) (all : Array Oper) (Q : St → Prop) (f : FuncId) (avs : List A1) (dst : Option Tmp) (os : List Oper) (s : St) : resOk P all Q (.call f avs dst os s) = HCall P f avs s.H fun ret H' => aL P all Q os ⟨putE s.env dst ret, H'⟩ := by rw [resOk]
theorem resOk_stuck (P : Program) (all : Array Oper) (Q : St → Prop) : resOk P all Q .stuck = False := by rw [resOk]
attribute [go_sem] runL_nil runL_none runL_guard runG_tt runG_ff runG_tf runG_ft exec1_mk callOf guardOf guard? astep ev cv putE scal resOk_done resOk_call resOk_stuck one? a1? int? bool? val? guardOf mkOne aparts caps bnd? vals abuiltin aconv cells1 ofCells doLoad doStore doIndexAddr doField lenT doSlice doSliceS rowsOf apart doAppend byteOf bytesOf isOwn nameT nameRow rowsAt splice fillA rowsA ofD amax aminmax aun isNil
attribute [go_sem] nameA1 nameAL nameAV takeAL takeA1 takeRow takeT ownish lookAL lookA1 lookRow lookT isRo lookRowBy lookRowsBy backAL noRoAV noRoA1 noRoO noRo noRoRow noRoRows fitAV fitA1 fitAL fitOs closedT closedRow closedRows onRet aRes resA retOf
attribute [go_sem] refsT refsRow refsRows renT renRow renRows refsObj renObj refsA1 refsAV renAV pick slotRefs canonH okNames okKeep
attribute [go_sem] List.set_cons_zero List.set_cons_succ List.getD_cons_zero List.getD_cons_succ List.getElem?_toArray List.getElem?_cons_zero List.getElem?_cons_succ List.getElem?_nil Option.bind_some if_false if_true Bool.false_eq_true reduceCtorEq List.append_nil List.nil_append List.cons_append List.length_nil List.length_cons List.map_cons List.map_nil List.take_zero List.take_succ_cons List.drop_zero List.drop_succ_cons List.take_nil List.drop_nil List.all_cons List.all_nil List.any_cons List.any_nil Nat.reduceAdd Nat.reduceSub Nat.reduceMul Nat.reduceLeDiff Nat.reduceLT Nat.reduceEqDiff Nat.zero_add Nat.add_zero and_true true_and and_self Bool.and_true Bool.true_and Bool.and_self Bool.or_false Bool.false_or Bool.or_true Bool.true_or Bool.not_true Bool.not_false List.replicate List.getElem?_set_self decide_true decide_false eq_self List.length_append List.length_map List.length_set List.foldr ite_self not_true_eq_false not_false_eq_true Option.some.injEq imp_self forall_const true_implies false_implies List.toList_toArray List.size_toArray true_or or_true false_or or_false or_self and_false false_and Bool.and_false Bool.false_and Bool.not_eq_true Bool.not_eq_false Bool.not_not
/-! The same, said by cases, so that nothing is reckoned ahead of its time. -/
def fitRef (n : Nat) (H : List AObj) (l off len sz' : Nat) (rows' : List (List T)) : Option AObj → Prop × List AObj
 | some (.live sz rows) => (sz = sz' ∧ off + len ≤ rows.length ∧ (fitRows n (H.set l .dead) ((rows.drop off).take len) rows').1, (fitRows n (H.set l .dead) ((rows.drop off).take len) rows').2)
 | _ => (False, H)
def fitPtr (n : Nat) (H : List AObj) (l : Nat) (row' : List T) : Option AObj → Prop × List AObj
 | some (.live sz [row]) => (sz = row'.length ∧ (fitRow n (H.set l .dead) row row').1, (fitRow n (H.set l .dead) row row').2)
 | _ => (False, H)
def fitRows2 (n : Nat) (H : List AObj) : List (List T) → List (List T) → Prop × List AObj
 | r :: rs, r' :: rs' => ((fitRow n H r r').1 ∧ (fitRows n (fitRow n H r r').2 rs rs').1, (fitRows n (fitRow n H r r').2 rs rs').2)
 | _, _ => (False, H)
section
variable (n : Nat) (H : List AObj)
theorem fitT_ref (l off len sz' : Nat) (rows' : List (List T)) : fitT (n + 1) H (.ref l off len) (.own sz' rows') = fitRef n H l off len sz' rows' (H[l]?) := by
 rw [fitT.eq_def]
 simp only
 rcases H[l]? with _ | (_ | ⟨sz, rows⟩) <;> rfl
theorem fitT_ptr (l : Nat) (row' : List T) : fitT (n + 1) H (.ptr l 0 0) (.box row') = fitPtr n H l row' (H[l]?) := by
 rw [fitT.eq_def]
 simp only
 rcases H[l]? with _ | (_ | ⟨sz, _ | ⟨row, _ | ⟨r2, rs⟩⟩⟩) <;> rfl
theorem fitT_vo (x : Value) (sz : Nat) (rows' : List (List T)) : fitT (n + 1) H (.v x) (.own sz rows') = (isNil x = true ∧ rows' = [], H) := by rw [fitT.eq_def]
theorem fitT_vr (x : Value) (sz : Nat) (rows' : List (List D)) : fitT (n + 1) H (.v x) (.ro sz rows') = (isNil x = true ∧ rows' = [], H) := by rw [fitT.eq_def]
theorem fitT_vv (x y : Value) : fitT (n + 1) H (.v x) (.v y) = (closedT (.v x) = true ∧ x = y, H) := by simp [fitT]
theorem fitT_rr (sz sz' : Nat) (rows rows' : List (List D)) : fitT (n + 1) H (.ro sz rows) (.ro sz' rows') = (sz = sz' ∧ rows = rows', H) := by simp [fitT, closedT]
theorem fitT_oo (sz sz' : Nat) (rows rows' : List (List T)) : fitT (n + 1) H (.own sz rows) (.own sz' rows') = (closedRows rows = true ∧ sz = sz' ∧ rows = rows', H) := by simp [fitT, closedT]
theorem fitRow_nil : fitRow (n + 1) H [] [] = (True, H) := by rw [fitRow.eq_def]
theorem fitRow_cons (t t' : T) (ts ts' : List T) : fitRow (n + 1) H (t :: ts) (t' :: ts') = ((fitT n H t t').1 ∧ (fitRow n (fitT n H t t').2 ts ts').1, (fitRow n (fitT n H t t').2 ts ts').2) := by rw [fitRow.eq_def]
theorem fitRows_eq (rows rows' : List (List T)) : fitRows (n + 1) H rows rows' = if closedRows rows = true then (rows = rows', H) else fitRows2 n H rows rows' := by
 rw [fitRows.eq_def]
 simp only
 split
 ·rfl
 ·unfold fitRows2
  cases rows <;> cases rows' <;> rfl
def lookRef (n : Nat) (H : List AObj) (off len sz' : Nat) (rows' : List (List D)) : Option AObj → Prop
 | some (.live sz rows) => sz = sz' ∧ off + len ≤ rows.length ∧ lookRowsBy (lookD n H) ((rows.drop off).take len) rows'
 | _ => False
theorem lookD_vv (x y : Value) : lookD (n + 1) H (.v x) (.v y) = (x = y) := by rw [lookD.eq_def]
theorem lookD_vl (x : Value) (sz : Nat) (rows : List (List D)) : lookD (n + 1) H (.v x) (.l sz rows) = (isNil x = true ∧ rows = []) := by rw [lookD.eq_def]
theorem lookD_rl (sz sz' : Nat) (rows rows' : List (List D)) : lookD (n + 1) H (.ro sz rows) (.l sz' rows') = (sz = sz' ∧ rows = rows') := by rw [lookD.eq_def]
theorem lookD_ol (sz sz' : Nat) (rows : List (List T)) (rows' : List (List D)) : lookD (n + 1) H (.own sz rows) (.l sz' rows') = (sz = sz' ∧ lookRowsBy (lookD n H) rows rows') := by rw [lookD.eq_def]
theorem lookD_ref (l off len sz' : Nat) (rows' : List (List D)) : lookD (n + 1) H (.ref l off len) (.l sz' rows') = lookRef n H off len sz' rows' (H[l]?) := by
 rw [lookD.eq_def]
 simp only
 rcases H[l]? with _ | (_ | ⟨sz, rows⟩) <;> rfl
end
def backRef (H : List AObj) (l sz : Nat) (rows : List (List T)) : Option AObj → Prop × List AObj
 | some (.live sz0 _) => (sz0 = sz, H.set l (.live sz rows))
 | _ => (False, H)
def backPtr (H : List AObj) (l : Nat) (row : List T) : Option AObj → Prop × List AObj
 | some (.live sz0 (_ :: _)) => (sz0 = row.length, H.set l (.live sz0 [row]))
 | _ => (False, H)
theorem back1_ref (H0 H : List AObj) (l len sz : Nat) (rows : List (List T)) : back1 H0 H (.one (.ref l 0 len)) (some (.own sz rows)) = backRef H l sz rows (H0[l]?) := by
 rw [back1.eq_def]
 simp only
 rcases H0[l]? with _ | (_ | ⟨sz, rows⟩) <;> rfl
theorem back1_ptr (H0 H : List AObj) (l : Nat) (row : List T) : back1 H0 H (.one (.ptr l 0 0)) (some (.box row)) = backPtr H l row (H0[l]?) := by
 rw [back1.eq_def]
 simp only
 rcases H0[l]? with _ | (_ | ⟨sz, _ | ⟨row, rs⟩⟩) <;> rfl
theorem back1_none (H0 H : List AObj) (a : A1) : back1 H0 H a none = (True, H) := by
 unfold back1
 split <;> simp_all
theorem fitRows2_cons (n : Nat) (H : List AObj) (r r' : List T) (rs rs' : List (List T)) : fitRows2 n H (r :: rs) (r' :: rs') = ((fitRow n H r r').1 ∧ (fitRows n (fitRow n H r r').2 rs rs').1, (fitRows n (fitRow n H r r').2 rs rs').2) := rfl
attribute [go_sem] fitRef fitPtr fitRows2_cons fitT_ref fitT_ptr fitT_vo fitT_vr fitT_vv fitT_rr fitT_oo fitRow_nil fitRow_cons fitRows_eq lookRef lookD_vv lookD_vl lookD_rl lookD_ol lookD_ref backRef backPtr back1_ref back1_ptr back1_none
/-- The slots that a loop keeps. -/
def mkEnv (n : Nat) : List (Nat × A1) → List AV
 | [] => List.replicate n (.s .any)
 | (j, a) :: r => (mkEnv n r).set j (.s a)
theorem keepEnv_hit (f : Nat → Nat) (a : AV) (as_ : List AV) (i : Nat) (ss : List Nat) : keepEnv f (a :: as_) i (i :: ss) = renAV f a :: keepEnv f as_ (i + 1) ss := by
 rw [keepEnv.eq_def]
 simp
theorem keepEnv_miss (f : Nat → Nat) (a : AV) (as_ : List AV) (i s : Nat) (ss : List Nat) (h : i < s) : keepEnv f (a :: as_) i (s :: ss) = .s .any :: keepEnv f as_ (i + 1) (s :: ss) := by
 rw [keepEnv.eq_def]
 simp only
 rw [if_neg (by omega)]
theorem keepEnv_end (f : Nat → Nat) (a : AV) (as_ : List AV) (i : Nat) : keepEnv f (a :: as_) i [] = .s .any :: keepEnv f as_ (i + 1) [] := by rw [keepEnv.eq_def]
theorem keepEnv_nil (f : Nat → Nat) (i : Nat) (ss : List Nat) : keepEnv f [] i ss = [] := by rw [keepEnv.eq_def]
theorem idxOf_hit (a : Nat) (as_ : List Nat) : (a :: as_).idxOf a = 0 := by simp
theorem idxOf_miss (a b : Nat) (as_ : List Nat) (h : b ≠ a) : (b :: as_).idxOf a = as_.idxOf a + 1 := by
 have hb : (b == a) = false := by simpa using h
 simp [List.idxOf_cons, hb]
theorem newName_low (k : Nat) (keep : List Nat) (l : Nat) (h : l < k) : newName k keep l = l := by simp [newName, h]
theorem newName_high (k : Nat) (keep : List Nat) (l : Nat) (h : k ≤ l) : newName k keep l = k + keep.idxOf l := by
 simp only [newName]
 rw [if_neg (by omega)]
attribute [go_sem] mkEnv keepEnv_hit keepEnv_miss keepEnv_end keepEnv_nil idxOf_hit idxOf_miss newName_low newName_high List.contains_cons List.contains_nil Nat.reduceBEq Nat.reduceBneDiff
section
variable (P : Program) (k : Nat) (Q : Ex → St → Prop) (s : St)
theorem aC_skip : aCode P k .skip Q s = Q .normal s := by rw [aCode.eq_def]
theorem aC_exit (id : Nat) : aCode P k (.exit id) Q s = Q (.exit id) s := by rw [aCode.eq_def]
theorem aC_ret : aCode P k .ret Q s = Q .ret s := by rw [aCode.eq_def]
end
attribute [go_sem] aC_skip aC_exit aC_ret iV bV sV Int.natCast_add Int.cast_ofNat_Int Int.toNat_natCast
theorem ab_add (k : IntKind) (a b : Int) : abin .add (.int k a) (.int k b) = some (.int k (k.wrap (a + b))) := by simp [abin]
theorem ab_sub (k : IntKind) (a b : Int) : abin .sub (.int k a) (.int k b) = some (.int k (k.wrap (a - b))) := by simp [abin]
theorem ab_mul (k : IntKind) (a b : Int) : abin .mul (.int k a) (.int k b) = some (.int k (k.wrap (a * b))) := by simp [abin]
theorem ab_quo (k : IntKind) (a b : Int) (h : b ≠ 0) : abin .quo (.int k a) (.int k b) = some (.int k (k.wrap (a.tdiv b))) := by simp [abin, h]
theorem ab_rem (k : IntKind) (a b : Int) (h : b ≠ 0) : abin .rem (.int k a) (.int k b) = some (.int k (a.tmod b)) := by simp [abin, h]
theorem ab_eql (k : IntKind) (a b : Int) : abin .eql (.int k a) (.int k b) = some (.bool (a == b)) := by simp [abin]
theorem ab_neq (k : IntKind) (a b : Int) : abin .neq (.int k a) (.int k b) = some (.bool (a != b)) := by simp [abin]
theorem ab_lss (k : IntKind) (a b : Int) : abin .lss (.int k a) (.int k b) = some (.bool (decide (a < b))) := by simp [abin]
theorem ab_leq (k : IntKind) (a b : Int) : abin .leq (.int k a) (.int k b) = some (.bool (decide (a ≤ b))) := by simp [abin]
theorem ab_gtr (k : IntKind) (a b : Int) : abin .gtr (.int k a) (.int k b) = some (.bool (decide (b < a))) := by simp [abin]
theorem ab_geq (k : IntKind) (a b : Int) : abin .geq (.int k a) (.int k b) = some (.bool (decide (b ≤ a))) := by simp [abin]
theorem ab_and (k : IntKind) (a b : Int) : abin .and (.int k a) (.int k b) = some (.int k (k.wrap (BitVec.ofInt k.bits a &&& BitVec.ofInt k.bits b).toNat)) := by simp [abin]
theorem ab_xor (k : IntKind) (a b : Int) : abin .xor (.int k a) (.int k b) = some (.int k (k.wrap (BitVec.ofInt k.bits a ^^^ BitVec.ofInt k.bits b).toNat)) := by simp [abin]
theorem ab_shl (k k' : IntKind) (a b : Int) (h : 0 ≤ b) : abin .shl (.int k a) (.int k' b) = some (.int k (k.wrap (a * 2 ^ (min b.toNat k.bits)))) := by simp [abin, h]
theorem ab_shr (k k' : IntKind) (a b : Int) (h : 0 ≤ b) : abin .shr (.int k a) (.int k' b) = some (.int k (a.fdiv (2 ^ (min b.toNat k.bits)))) := by simp [abin, h]
theorem ab_cat (x y : ByteArray) (h : x.size + y.size ≤ 9223372036854775807) : abin .add (.string x) (.string y) = some (.string (x ++ y)) := by simp [abin, h]
theorem ab_seq (x y : ByteArray) : abin .eql (.string x) (.string y) = some (.bool (seq x y)) := rfl
theorem ab_sne (x y : ByteArray) : abin .neq (.string x) (.string y) = some (.bool (!seq x y)) := rfl
theorem abT_int (P : Program) (t : TypeId) (op : BinOp) (k k' : IntKind) (a b : Int) : abinT P t op (.int k a) (.int k' b) = abin op (.int k a) (.int k' b) := by cases op <;> rfl
theorem abT_str (P : Program) (t : TypeId) (op : BinOp) (a b : ByteArray) : abinT P t op (.string a) (.string b) = abin op (.string a) (.string b) := by cases op <;> rfl
theorem abT_beq (P : Program) (t : TypeId) (x y : Bool) : abinT P t .eql (.bool x) (.bool y) = if isBoolT P t = true then some (.bool (x == y)) else none := rfl
theorem abT_bne (P : Program) (t : TypeId) (x y : Bool) : abinT P t .neq (.bool x) (.bool y) = if isBoolT P t = true then some (.bool (x != y)) else none := rfl
theorem wrap64 {x : Int} (h : -9223372036854775808 ≤ x) (h' : x ≤ 9223372036854775807) : IntKind.i64.wrap x = x := by rw [IntKind.wrap_i64]; omega
attribute [go_sem] ab_add ab_sub ab_mul ab_quo ab_rem ab_eql ab_neq ab_lss ab_leq ab_gtr ab_geq ab_and ab_xor ab_shl ab_shr ab_cat ab_seq ab_sne abT_int abT_str abT_beq abT_bne isBoolT wrap64 idx_ok bnds_ok leB_ok leI_ok Nat.le_refl
/-- Lists of whole numbers. -/
def intsT (xs : List Int) : List (List T) := xs.map fun n => [iV n]
def intsD (xs : List Int) : List (List D) := xs.map fun n => [D.v (.int .i64 n)]
def strsT (xs : List ByteArray) : List (List T) := xs.map fun n => [sV n]
def strsD (xs : List ByteArray) : List (List D) := xs.map fun n => [D.v (.string n)]
theorem closed_map {α : Type} {f : α → List T} (h : ∀ x, closedRow (f x) = true) : ∀ xs : List α, closedRows (xs.map f) = true
 | [] => rfl
 | x :: xs => by simp [closedRows, h x, closed_map h xs]
theorem noRo_map {α : Type} {f : α → List T} (h : ∀ x, noRoRow (f x) = true) : ∀ xs : List α, noRoRows (xs.map f) = true
 | [] => rfl
 | x :: xs => by simp [noRoRows, h x, noRo_map h xs]
theorem flat_map {α : Type} {f : α → List T} (h : ∀ x, ((f x).all fun t => !isOwn t) = true) (xs : List α) : flat (xs.map f) = true := by
 simp only [flat, List.all_map, List.all_eq_true]
 intro x _
 exact h x
theorem flat_nil : flat [] = true := rfl
theorem flat_cons (r : List T) (rs : List (List T)) : flat (r :: rs) = ((r.all fun t => !isOwn t) && flat rs) := rfl
theorem flat_app (rs ss : List (List T)) : flat (rs ++ ss) = (flat rs && flat ss) := by simp [flat]
attribute [go_sem] flat_nil flat_cons flat_app
theorem intsT_closed (xs : List Int) : closedRows (intsT xs) = true := closed_map (fun _ => rfl) xs
theorem intsT_noRo (xs : List Int) : noRoRows (intsT xs) = true := noRo_map (fun _ => rfl) xs
theorem intsT_flat (xs : List Int) : flat (intsT xs) = true := flat_map (fun _ => rfl) xs
theorem intsT_len (xs : List Int) : (intsT xs).length = xs.length := by simp [intsT]
theorem intsD_len (xs : List Int) : (intsD xs).length = xs.length := by simp [intsD]
theorem intsD_ofD (xs : List Int) : (intsD xs).map (·.map ofD) = intsT xs := by simp [intsD, intsT, ofD]
theorem intsT_take (xs : List Int) (n : Nat) : (intsT xs).take n = intsT (xs.take n) := by simp [intsT, List.map_take]
theorem intsT_drop (xs : List Int) (n : Nat) : (intsT xs).drop n = intsT (xs.drop n) := by simp [intsT, List.map_drop]
theorem intsD_take (xs : List Int) (n : Nat) : (intsD xs).take n = intsD (xs.take n) := by simp [intsD, List.map_take]
theorem intsD_drop (xs : List Int) (n : Nat) : (intsD xs).drop n = intsD (xs.drop n) := by simp [intsD, List.map_drop]
theorem intsT_get {xs : List Int} {k : Nat} (h : k < xs.length) : (intsT xs)[k]? = some [iV (xs.getD k 0)] := by simp [intsT, h]
theorem intsD_get {xs : List Int} {k : Nat} (h : k < xs.length) : (intsD xs)[k]? = some [D.v (.int .i64 (xs.getD k 0))] := by simp [intsD, h]
theorem intsT_set (xs : List Int) (k : Nat) (n : Int) : (intsT xs).set k [iV n] = intsT (xs.set k n) := by simp [intsT, List.map_set]
theorem intsT_app1 (xs : List Int) (n : Int) : intsT xs ++ [[iV n]] = intsT (xs ++ [n]) := by simp [intsT]
theorem intsT_app (xs ys : List Int) : intsT xs ++ intsT ys = intsT (xs ++ ys) := by simp [intsT]
theorem intsT_look {n : Nat} {H : List AObj} (xs : List Int) : lookRowsBy (lookD (n + 1) H) (intsT xs) (intsD xs) := lookRowsBy_map fun x _ => by simp [lookRowBy, lookD]
attribute [go_sem] intsT_closed intsT_noRo intsT_flat intsT_len intsD_len intsD_ofD intsT_take intsT_drop intsD_take intsD_drop intsT_get intsD_get intsT_set intsT_app1 intsT_app intsT_look List.take_length
end Go.Proofs.YtejnpiielcbkkaaGreat.E
end
section
namespace Go.Proofs.YtejnpiielcbkkaaGreat.E
def pickOps (ops : Array Oper) : List Nat → List Oper
 | [] => []
 | i :: r => match ops[i]? with
  | some o => o :: pickOps ops r
  | none => pickOps ops r
theorem pickOps_nil (ops : Array Oper) : pickOps ops [] = [] := by rw [pickOps]
theorem pickOps_hit {ops : Array Oper} {i : Nat} {o : Oper} {r : List Nat} (h : ops[i]? = some o) : pickOps ops (i :: r) = o :: pickOps ops r := by rw [pickOps, h]
theorem pickOps_cons (ops : List Oper) (i : Nat) (r : List Nat) : pickOps ops.toArray (i :: r) = (ops[i]?).toList ++ pickOps ops.toArray r := by
 rw [pickOps, List.getElem?_toArray]; cases ops[i]? <;> rfl
variable {P : Program}
/-- The rest of a walk, hidden while a region is evaluated. -/
def Imp (K Q : St → Prop) : Prop := ∀ s, K s → Q s
theorem Imp.go {K Q : St → Prop} {s : St} (h : Imp K Q) (hk : K s) : Q s := h s hk
theorem iRQ {k id : Nat} {Q : Ex → St → Prop} {s : St} {ops : Array Oper} (h : ∀ Q' : St → Prop, Imp (Q .normal) Q' → resOk P ops Q' (runL P ops ops.toList s)) : aCode P k (.region id ops false) Q s := i_region (aLr (h _ fun _ h => h))
theorem i_condT {k : Nat} {Q : Ex → St → Prop} {s : St} {cc : Operand} {x y : Code} (hb : bool? (ev s cc) = some true) (h : aCode P k x Q s) : aCode P k (.cond cc x y) Q s := i_cond hb (fun _ => h) (fun h => by cases h)
theorem i_condF {k : Nat} {Q : Ex → St → Prop} {s : St} {cc : Operand} {x y : Code} (hb : bool? (ev s cc) = some false) (h : aCode P k y Q s) : aCode P k (.cond cc x y) Q s := i_cond hb (fun h => by cases h) (fun _ => h)
theorem take_app1 {α : Type} (xs : List α) (x : α) : (xs ++ [x]).take (xs.length + 1) = xs ++ [x] := List.take_of_length_le (by simp)
theorem take_app {α : Type} (xs ys : List α) : (xs ++ ys).take (xs.length + ys.length) = xs ++ ys := List.take_of_length_le (by simp)
theorem take_drop_all {α : Type} (xs : List α) (n : Nat) : (xs.drop n).take (xs.length - n) = xs.drop n := List.take_of_length_le (by simp)
theorem nLo {a b : Nat} (h : a ≤ b) : (a ≤ b) = True := eq_true h
attribute [go_sem] take_drop_all Int.toNat_one Int.toNat_zero List.drop_drop
attribute [go_sem] Nat.sub_zero beq_self_eq_true bne_self_eq_false take_app1 take_app
attribute [go_sem] pickOps_nil pickOps_cons Option.toList_some Option.toList_none
end Go.Proofs.YtejnpiielcbkkaaGreat.E
end
section
namespace Go.Proofs.YtejnpiielcbkkaaGreat.E
variable {P : Program} {ops : Array Oper} {Q : St → Prop}
def aOpG (P : Program) (ops : Array Oper) (K : St → Prop) (i : Nat) (s : St) : Prop := match ops[i]? with
 | none => K s
 | some o => match o.guard with
  | none => aOp P o s K
  | some (j, want) => match guardOf ops s j want with
   | some b => (b = want → aOp P o s K) ∧ (b ≠ want → K ⟨putE s.env o.dst (.tup []), s.H⟩)
   | none => False
theorem aOp_mono {o : Oper} {s : St} {K K' : St → Prop} (hk : ∀ s, K s → K' s) (h : aOp P o s K) : aOp P o s K' := by
 unfold aOp at h ⊢
 split at h
 ·exact h.mono fun r H hh => hk _ hh
 ·split at h
  ·exact hk _ h
  ·exact h.elim
theorem aOpG_mono {i : Nat} {s : St} {K K' : St → Prop} (hk : ∀ s, K s → K' s) (h : aOpG P ops K i s) : aOpG P ops K' i s := by
 unfold aOpG at h ⊢
 split at h
 ·exact hk _ h
 ·split at h
  ·exact aOp_mono hk h
  ·split at h
   ·exact ⟨fun hb => aOp_mono hk (h.1 hb), fun hb => hk _ (h.2 hb)⟩
   ·exact h.elim
theorem aOps_cons (i : Nat) (r : List Nat) (s : St) : aOps P ops Q (i :: r) s = aOpG P ops (aOps P ops Q r) i s := by
 simp only [aOps, aOpG]
 rfl
/-- All orders at once. -/
def aAny (P : Program) (ops : Array Oper) (Q : St → Prop) : Nat → Array Bool → St → Prop
 | 0, l, s => Region.ready .any ops l = [] ∧ Q s
 | n + 1, l, s => (Region.ready .any ops l = [] → Q s) ∧ ∀ i ∈ Region.ready .any ops l, aOpG P ops (aAny P ops Q n (l.setIfInBounds i true)) i s
theorem aAny_ok : ∀ (n t : Nat) (l : Array Bool) (s : St), aAny P ops Q n l s → aOps P ops Q (Region.linearise.go .any ops n t l []) s := by
 intro n
 induction n with
 | zero => intro t l s h; simpa [Region.linearise.go, aOps] using h.2
 | succ n ih =>
  intro t l s h
  simp only [Region.linearise.go]
  change aOps P ops Q (match (Region.ready .any ops l)[t % (Region.ready .any ops l).length]? with
   | some i => Region.linearise.go .any ops n (t / (Region.ready .any ops l).length) (l.setIfInBounds i true) [i]
   | none => [].reverse) s
  cases hr : Region.ready .any ops l with
  | nil => simpa [aOps] using h.1 hr
  | cons x xs =>
   have hlt : t % (x :: xs).length < (x :: xs).length := Nat.mod_lt _ (by simp)
   rw [List.getElem?_eq_getElem hlt]
   simp only
   rw [linearise_go_acc, List.reverse_singleton, List.singleton_append, aOps_cons]
   exact aOpG_mono (fun s hs => ih _ _ s hs) (h.2 _ (by rw [hr]; exact List.getElem_mem hlt))
/-- 0: reads its operands alone; 1: reads the memory too; 2: all else. -/
def opK : Op → Nat
 | .move _ | .assign _ | .pick _ _ _ | .nilCheck _ | .binOp _ _ _ _ _ | .unOp _ _ _ | .fieldAddr _ _ _ | .extract _ _ => 0
 | .load _ _ | .indexAddr _ _ _ | .slice _ _ _ _ none | .convert _ _ _ => 1
 | .call { callee := .builtin .len, args := _, argTypes := _ } => 1
 | _ => 2
theorem ev_put {s : St} {d : Option Tmp} {v : AV} {x : Operand} {H : List AObj} (h : ∀ t, d = some t → x ≠ .tmp t) : ev ⟨putE s.env d v, H⟩ x = ev s x := by
 cases x <;> try rfl
 rename_i t
 cases d with
 | none => rfl
 | some t' =>
  have hne : t' ≠ t := fun e => h t' rfl (by rw [e])
  simp [ev, putE, List.getElem?_set_ne hne]
theorem vals_congr {s s' : St} : ∀ {xs : List Operand}, (∀ x ∈ xs, ev s x = ev s' x) → vals s xs = vals s' xs
 | [], _ => rfl
 | x :: xs, h => by
  simp only [vals]
  rw [h x (by simp), vals_congr fun y hy => h y (by simp [hy])]
theorem caps_congr {s s' : St} : ∀ {xs : List Operand}, (∀ x ∈ xs, ev s x = ev s' x) → caps s xs = caps s' xs
 | [], _ => rfl
 | x :: xs, h => by
  simp only [caps]
  rw [h x (by simp), caps_congr fun y hy => h y (by simp [hy])]
theorem aparts_congr {s s' : St} {ps : Array (Nat × Operand)} (h : ∀ x ∈ ps.toList.map (·.2), ev s x = ev s' x) : aparts s ps = aparts s' ps := by
 simp only [aparts]
 refine List.map_congr_left fun p hp => ?_
 rw [h p.2 (List.mem_map.2 ⟨p, hp, rfl⟩)]
theorem bnd_congr {s s' : St} (d : Int) {x : Option Operand} (h : ∀ y ∈ x.toArray, ev s y = ev s' y) : bnd? s d x = bnd? s' d x := by
 cases x with
 | none => rfl
 | some y => simp only [bnd?]; rw [h y (by simp)]
theorem astep_congr {s s' : St} (hH : s.H = s'.H) : ∀ (op : Op), (∀ x ∈ op.operands, ev s x = ev s' x) → astep P s op = astep P s' op := by
 intro op h
 cases op <;> simp only [Op.operands] at h <;> simp only [astep, hH]
 all_goals try rfl
 case build t ps => rw [aparts_congr (s := s) (s' := s') fun x hx => h x (by simpa using hx)]
 case buildSlice t n ps => rw [aparts_congr (s := s) (s' := s') fun x hx => h x (by simpa using hx)]
 case makeFunc fn first captured =>
  cases fn <;> simp only
  rw [caps_congr (s := s) (s' := s') (xs := captured.toList) fun x hx => h x (by simp at hx ⊢; simp [hx]), caps_congr (s := s) (s' := s') (xs := first.toList) fun x hx => h x (by simp at hx ⊢; simp [hx])]
 case slice t x l hi m =>
  cases m <;> simp only
  have h1 : ∀ n, bnd? s n l = bnd? s' n l := fun n => bnd_congr n fun y hy => h y (by simp at hy ⊢; simp [hy])
  have h2 : ∀ n, bnd? s n hi = bnd? s' n hi := fun n => bnd_congr n fun y hy => h y (by simp at hy ⊢; simp [hy])
  simp only [h1, h2, h x (by simp)]
 case call c =>
  cases hc : c.callee <;> simp only
  rename_i b
  have ha : ∀ x ∈ c.args.toList, ev s x = ev s' x := fun x hx => h x (by simp [Call.operands, hc]; simpa using hx)
  unfold abuiltin
  simp only [hH]
  revert ha
  generalize c.args.toList = xs
  generalize c.argTypes.toList = ts
  intro ha
  have hv : ∀ ys, (∀ y ∈ ys, y ∈ xs) → vals s ys = vals s' ys := fun ys hy => vals_congr fun y h => ha y (hy y h)
  rcases xs with _ | ⟨x, _ | ⟨y, _ | ⟨z, r⟩⟩⟩
  ·cases b <;> rcases ts with _ | ⟨t, _ | ⟨t2, _ | _⟩⟩ <;> rfl
  ·have hx := ha x (by simp)
   cases b <;> rcases ts with _ | ⟨t, _ | ⟨t2, _ | _⟩⟩ <;> first | rfl | (simp only [hx]; done) | (simp only [hx, hv [] (by simp)]; done)
  ·have hx := ha x (by simp)
   have hy := ha y (by simp)
   cases b <;> rcases ts with _ | ⟨t, _ | ⟨t2, _ | _⟩⟩ <;> first | rfl | (simp only [hx, hy]; done) | (simp only [hx, hv [y] (by simp)]; done)
  ·have hx := ha x (by simp)
   have hv' := hv (y :: z :: r) (by simp; intros; simp_all)
   cases b <;> rcases ts with _ | ⟨t, _ | ⟨t2, _ | _⟩⟩ <;> first | rfl | (simp only [hx]; done) | (simp only [hx, hv']; done)
 all_goals (simp at h; first | (simp only [h]; done) | (simp only [h, aconv, hH]; done))
end Go.Proofs.YtejnpiielcbkkaaGreat.E
end
section
namespace Go.Proofs.YtejnpiielcbkkaaGreat.E
variable {P : Program} {ops : Array Oper} {Q : St → Prop}
theorem callOf_opK {s : St} {op : Op} (h : opK op ≤ 1) : callOf s op = none := by
 unfold callOf
 split
 ·simp [opK] at h
 ·rfl
theorem callOf_congr {s s' : St} (op : Op) (h : ∀ x ∈ op.operands, ev s x = ev s' x) : callOf s op = callOf s' op := by
 unfold callOf
 split
 ·rename_i g args ts
  rw [h g (by simp [Op.operands, Call.operands])]
  split
  ·rename_i f cs hh
   have : args.toList.map (fun x => a1? (ev s x)) = args.toList.map (fun x => a1? (ev s' x)) := List.map_congr_left fun x hx => by rw [h x (by simp [Op.operands, Call.operands]; right; simpa using hx)]
   rw [this]
  ·rename_i f cs hh
   have : args.toList.map (fun x => a1? (ev s x)) = args.toList.map (fun x => a1? (ev s' x)) := List.map_congr_left fun x hx => by rw [h x (by simp [Op.operands, Call.operands]; right; simpa using hx)]
   rw [this]
  ·rfl
 ·rfl
theorem opK_call (c : Call) : opK (.call c) ≠ 0 := by
 rcases c with ⟨cal, args, ts⟩
 cases cal
 case builtin b => cases b <;> simp [opK]
 all_goals simp [opK]
/-- What an operation of the first kind yields does not hang on the memory. -/
theorem astep_env {op : Op} (h : opK op = 0) {env : List AV} {H : List AObj} {v : AV} (ha : astep P ⟨env, H⟩ op = some (v, H)) (H2 : List AObj) : astep P ⟨env, H2⟩ op = some (v, H2) := by
 have hev : ∀ x, ev ⟨env, H⟩ x = ev ⟨env, H2⟩ x := fun x => by cases x <;> rfl
 cases op
 case call c => exact absurd h (opK_call c)
 all_goals simp only [opK] at h
 all_goals try (exact absurd h (by decide))
 all_goals try (split at h <;> exact absurd h (by decide))
 all_goals simp only [astep, hev] at ha ⊢
 all_goals repeat' (first | (simp only [Option.some.injEq, Prod.mk.injEq, and_true] at ha; subst ha; rfl) | (split at ha <;> try simp_all))
/-- An operation that changes nothing in memory, and what it yields. -/
def Yld (P : Program) (ops : Array Oper) (o : Oper) (v : AV) (s : St) : Prop := match o.guard with
 | none => astep P s o.op = some (v, s.H)
 | some (j, want) => ∃ b, guardOf ops s j want = some b ∧ (b = want → astep P s o.op = some (v, s.H)) ∧ (b ≠ want → v = .tup [])
theorem aOpG_of_yld {i : Nat} {o : Oper} {v : AV} {s : St} {K : St → Prop} (ho : ops[i]? = some o) (hk : opK o.op ≤ 1) (hy : Yld P ops o v s) (h : K ⟨putE s.env o.dst v, s.H⟩) : aOpG P ops K i s := by
 simp only [aOpG, ho]
 cases hg : o.guard with
 | none =>
  simp only [Yld, hg] at hy
  simp only [aOp, callOf_opK hk, hy]; exact h
 | some q =>
  obtain ⟨j, want⟩ := q
  simp only [Yld, hg] at hy
  obtain ⟨b, hb, h1, h2⟩ := hy
  simp only [hb]
  refine ⟨fun hw => ?_, fun hw => ?_⟩
  ·simp only [aOp, callOf_opK hk, h1 hw]; exact h
  ·rw [← h2 hw]; exact h
theorem guardOf_put {s : St} {j : Nat} {want : Bool} {d : Option Tmp} {v : AV} {H : List AObj} (h : ∀ t, d = some t → (ops[j]?).bind (·.dst) ≠ some t) : guardOf ops ⟨putE s.env d v, H⟩ j want = guardOf ops s j want := by
 unfold guardOf
 cases hd : (ops[j]?).bind (·.dst) with
 | none => rfl
 | some t =>
  simp only
  cases d with
  | none => rfl
  | some t' =>
   have hne : t' ≠ t := fun e => h t' rfl (by rw [hd, e])
   simp [putE, List.getElem?_set_ne hne]
theorem looks_ev {o : Oper} {s : St} {d : Option Tmp} {v : AV} {H : List AObj} (h : ∀ t, d = some t → t ∉ o.looksAt ops) : ∀ x ∈ o.op.operands, ev ⟨putE s.env d v, H⟩ x = ev s x := fun x hx => ev_put fun t ht hxt => h t ht (by
 subst hxt
 exact List.mem_append_left _ (List.mem_filterMap.2 ⟨.tmp t, by simpa using hx, rfl⟩))
theorem looks_guard {o : Oper} {s : St} {d : Option Tmp} {v : AV} {H : List AObj} {j : Nat} {w : Bool} (hg : o.guard = some (j, w)) (h : ∀ t, d = some t → t ∉ o.looksAt ops) : guardOf ops ⟨putE s.env d v, H⟩ j w = guardOf ops s j w := guardOf_put fun t ht hj => h t ht (by
 unfold Oper.looksAt
 rw [hg]
 exact List.mem_append_right _ (by simp [hj]))
theorem yld_put {o : Oper} {v u : AV} {s : St} {d : Option Tmp} {H : List AObj} (hy : Yld P ops o v s) (h : ∀ t, d = some t → t ∉ o.looksAt ops) (hh : opK o.op = 0 ∨ H = s.H) : Yld P ops o v ⟨putE s.env d u, H⟩ := by
 have key : astep P s o.op = some (v, s.H) → astep P ⟨putE s.env d u, H⟩ o.op = some (v, H) := fun ha => by
  have h1 : astep P ⟨putE s.env d u, s.H⟩ o.op = some (v, s.H) := (astep_congr (s := ⟨putE s.env d u, s.H⟩) (s' := s) rfl _ (looks_ev h)).trans ha
  rcases hh with hh | hh
  ·exact astep_env hh h1 H
  ·rw [hh]; exact h1
 unfold Yld at hy ⊢
 split at hy
 ·rename_i hg; simp only [hg]; exact key hy
 ·rename_i j w hg
  simp only [hg]
  obtain ⟨b, hb, h1, h2⟩ := hy
  exact ⟨b, by rw [looks_guard hg h]; exact hb, fun hw => key (h1 hw), h2⟩
theorem putE_comm (env : List AV) {x y : Option Tmp} (v u : AV) (h : ∀ d, x = some d → y ≠ some d) : putE (putE env x v) y u = putE (putE env y u) x v := by
 cases x with
 | none => rfl
 | some d =>
  cases y with
  | none => rfl
  | some e => exact List.set_comm _ _ (fun he => h d rfl (by rw [he]))
/-- One operation of a drawn region; one that reads must leave the memory as_ it is. -/
def aOpP (P : Program) (ops : Array Oper) (K : St → Prop) (i : Nat) (s : St) : Prop := match ops[i]? with
 | none => K s
 | some o => if opK o.op ≤ 1 then ∃ v, Yld P ops o v s ∧ K ⟨putE s.env o.dst v, s.H⟩ else aOpG P ops K i s
theorem aOpG_of_P {i : Nat} {s : St} {K : St → Prop} (h : aOpP P ops K i s) : aOpG P ops K i s := by
 unfold aOpP at h
 split at h
 ·rename_i ho; simp only [aOpG, ho]; exact h
 ·rename_i o ho
  split at h
  ·rename_i hk
   obtain ⟨v, hy, h⟩ := h
   exact aOpG_of_yld ho hk hy h
  ·exact h
theorem aOpP_mono {i : Nat} {s : St} {K K' : St → Prop} (hk : ∀ s, K s → K' s) (h : aOpP P ops K i s) : aOpP P ops K' i s := by
 cases ho : ops[i]? with
 | none => simp only [aOpP, ho] at h ⊢; exact hk _ h
 | some o =>
  by_cases hh : opK o.op ≤ 1
  ·simp only [aOpP, ho, hh, if_true] at h ⊢
   obtain ⟨v, hy, h⟩ := h
   exact ⟨v, hy, hk _ h⟩
  ·simp only [aOpP, ho, hh, if_false] at h ⊢
   exact aOpG_mono hk h
theorem aOpP_of_yld {i : Nat} {o : Oper} {v : AV} {s : St} {K : St → Prop} (ho : ops[i]? = some o) (hk : opK o.op ≤ 1) (hy : Yld P ops o v s) (h : K ⟨putE s.env o.dst v, s.H⟩) : aOpP P ops K i s := by
 simp only [aOpP, ho, hk, if_true]
 exact ⟨v, hy, h⟩
theorem apart_sp {x y : Oper} (h : x.apart ops y = true) : (∀ t, x.dst = some t → t ∉ y.looksAt ops) ∧ (∀ t, x.dst = some t → y.dst ≠ some t) ∧ (∀ t, y.dst = some t → t ∉ x.looksAt ops) := Oper.apart_spec h
theorem aOpP_put {i j : Nat} {oi oj : Oper} {v : AV} {s : St} {K : St → Prop} (hj : ops[j]? = some oj) (hap : oi.apart ops oj = true) (hk : opK oi.op = 0 ∨ opK oj.op ≤ 1)
  (hy : Yld P ops oi v s) (h : aOpP P ops K j ⟨putE s.env oi.dst v, s.H⟩) :
  aOpP P ops (fun s' => Yld P ops oi v s' ∧ K ⟨putE s'.env oi.dst v, s'.H⟩) j s := by
 obtain ⟨a1, a2, a3⟩ := apart_sp hap
 have hev := looks_ev (s := s) (v := v) (H := s.H) a1
 simp only [aOpP, hj] at h ⊢
 split
 ·rename_i hkj
  simp only [hkj, if_true] at h
  obtain ⟨u, hu, h⟩ := h
  refine ⟨u, ?_, yld_put hy a3 (.inr rfl), ?_⟩
  ·have he : astep P s oj.op = astep P ⟨putE s.env oi.dst v, s.H⟩ oj.op := astep_congr (s := s) (s' := ⟨putE s.env oi.dst v, s.H⟩) rfl _ fun x hx => (hev x hx).symm
   cases hg : oj.guard with
   | none =>
    simp only [Yld, hg] at hu ⊢
    exact he.trans hu
   | some q =>
    obtain ⟨j', w⟩ := q
    simp only [Yld, hg] at hu ⊢
    obtain ⟨b, hb, h1, h2⟩ := hu
    exact ⟨b, by rw [← looks_guard (s := s) (v := v) (H := s.H) hg a1]; exact hb, fun hw => he.trans (h1 hw), h2⟩
  ·rw [← putE_comm _ _ _ a2]; exact h
 ·rename_i hkj
  have hk0 : opK oi.op = 0 := hk.resolve_right hkj
  simp only [hkj, if_false] at h
  simp only [aOpG, hj] at h ⊢
  have key : aOp P oj ⟨putE s.env oi.dst v, s.H⟩ K → aOp P oj s (fun s' => Yld P ops oi v s' ∧ K ⟨putE s'.env oi.dst v, s'.H⟩) := by
   intro h
   unfold aOp at h ⊢
   rw [callOf_congr oj.op hev] at h
   cases hc : callOf s oj.op with
   | some q =>
    obtain ⟨f, avs⟩ := q
    simp only [hc] at h ⊢
    exact h.mono fun r H' hh => ⟨yld_put hy a3 (.inl hk0), by rw [← putE_comm _ _ _ a2]; exact hh⟩
   | none =>
    simp only [hc] at h ⊢
    have he : astep P ⟨putE s.env oi.dst v, s.H⟩ oj.op = astep P s oj.op := astep_congr (s := ⟨putE s.env oi.dst v, s.H⟩) (s' := s) rfl _ hev
    rw [he] at h
    split at h
    ·exact ⟨yld_put hy a3 (.inl hk0), by rw [← putE_comm _ _ _ a2]; exact h⟩
    ·exact h.elim
  split at h
  ·exact key h
  ·rename_i j' w hg
   rw [looks_guard (s := s) (v := v) (H := s.H) hg a1] at h
   split at h
   ·exact ⟨fun hw => key (h.1 hw), fun hw => ⟨yld_put hy a3 (.inl hk0), by rw [← putE_comm _ _ _ a2]; exact h.2 hw⟩⟩
   ·exact h.elim
/-- All orders at once, each operation by aOpP. -/
def pAny (P : Program) (ops : Array Oper) (Q : St → Prop) : Nat → Array Bool → St → Prop
 | 0, l, s => Region.ready .any ops l = [] ∧ Q s
 | n + 1, l, s => (Region.ready .any ops l = [] → Q s) ∧ ∀ i ∈ Region.ready .any ops l, aOpP P ops (pAny P ops Q n (l.setIfInBounds i true)) i s
theorem aAny_of_p : ∀ (n : Nat) (l : Array Bool) (s : St), pAny P ops Q n l s → aAny P ops Q n l s := by
 intro n
 induction n with
 | zero => intro l s h; exact h
 | succ n ih => intro l s h; exact ⟨h.1, fun i hi => aOpG_mono (fun s hs => ih _ s hs) (aOpG_of_P (h.2 i hi))⟩
/-- Whether operation i may go first: all that may still come before it stands apart from it. -/
def freeOp (ops : Array Oper) (l : Array Bool) (i : Nat) : Bool := match ops[i]? with
 | none => false
 | some oi => decide (opK oi.op ≤ 1) && Region.free .any ops l i && (List.range ops.size).all fun j => j == i || l.getD j true || match ops[j]? with
   | some oj => oj.after.any (fun e => Region.binds .any e && e.on == i) || decide (opK oi.op = 0) || decide (opK oj.op ≤ 1)
   | none => true
theorem pAny_first {i : Nat} {oi : Oper} {v : AV} (hi : ops[i]? = some oi) (hki : opK oi.op ≤ 1) : ∀ (n : Nat) (l : Array Bool) (s : St),
  (∀ j oj, ops[j]? = some oj → j ≠ i → l.getD j true = false → (∀ e ∈ oj.after, Region.binds .any e = true → e.on ≠ i) → oi.apart ops oj = true ∧ (opK oi.op = 0 ∨ opK oj.op ≤ 1)) →
  i ∈ Region.ready .any ops l → Yld P ops oi v s → pAny P ops Q n (l.setIfInBounds i true) ⟨putE s.env oi.dst v, s.H⟩ → pAny P ops Q (n + 1) l s := by
 intro n
 induction n with
 | zero =>
  intro l s _ hr hy h
  refine ⟨fun h0 => (by rw [h0] at hr; cases hr), fun j hj => ?_⟩
  by_cases hji : j = i
  ·rw [hji]; exact aOpP_of_yld hi hki hy h
  ·have := ready_mono hj hji
   rw [h.1] at this
   cases this
 | succ n ih =>
  intro l s hf hr hy h
  refine ⟨fun h0 => (by rw [h0] at hr; cases hr), fun j hj => ?_⟩
  by_cases hji : j = i
  ·rw [hji]; exact aOpP_of_yld hi hki hy h
  ·obtain ⟨hjun, oj, hoj, hall⟩ := mem_ready.1 hj
   have hnot : ∀ e ∈ oj.after, Region.binds .any e = true → e.on ≠ i := fun e he hb heq => by
    have h1 := hall e he hb
    have h0 := (mem_ready.1 hr).1
    rw [heq] at h1
    rcases Nat.lt_or_ge i l.size with h' | h'
    ·simp [h'] at h0 h1; rw [h0] at h1; cases h1
    ·simp [Array.getElem?_eq_none h'] at h1
   obtain ⟨f1, f2⟩ := hf j oj hoj hji hjun hnot
   refine aOpP_mono (fun s' hs' => ih (l.setIfInBounds j true) s' ?_ (ready_mono hr (Ne.symm hji)) hs'.1 ?_) (aOpP_put (i := i) hoj f1 f2 hy (h.2 j (ready_mono hj hji)))
   ·intro k ok hk hki' hun hno
    refine hf k ok hk hki' ?_ hno
    by_cases hjk : j = k
    ·rw [← hjk]; exact hjun
    ·rw [getD_set_ne true hjk] at hun; exact hun
   ·rw [Array.setIfInBounds_comm _ _ hji]; exact hs'.2
theorem pAny_free {i n : Nat} {l : Array Bool} {s : St} (hf : freeOp ops l i = true) (hr : i ∈ Region.ready .any ops l) (h : aOpP P ops (pAny P ops Q n (l.setIfInBounds i true)) i s) : pAny P ops Q (n + 1) l s := by
 unfold freeOp at hf
 cases hi : ops[i]? with
 | none => simp [hi] at hf
 | some oi =>
  simp only [hi, Bool.and_eq_true, decide_eq_true_eq] at hf
  obtain ⟨⟨hk, hfr⟩, hall⟩ := hf
  simp only [aOpP, hi, hk, if_true] at h
  obtain ⟨v, hy, h⟩ := h
  refine pAny_first hi hk n l s (fun j oj hj hne hun hno => ⟨Region.free_spec hi hfr j oj hj hne hun hno, ?_⟩) hr hy h
  simp only [List.all_eq_true, List.mem_range] at hall
  have h1 := hall j (Array.getElem?_eq_some_iff.1 hj).1
  simp only [hj, Bool.or_eq_true, beq_iff_eq, hne, false_or, hun, Bool.false_eq_true, decide_eq_true_eq] at h1
  rcases h1 with (h1 | h1) | h1
  ·obtain ⟨e, he, hb⟩ := Array.any_eq_true'.1 h1
   simp only [Bool.and_eq_true, beq_iff_eq] at hb
   exact absurd hb.2 (hno e he hb.1)
  ·exact .inl h1
  ·exact .inr h1
/-- What comes behind operation i, near or far. -/
def behind (ops : Array Oper) (i : Nat) : List Nat := (List.range ops.size).foldl (fun D j => match ops[j]? with
 | some oj => if oj.after.any fun e => Region.binds .any e && (i :: D).contains e.on then j :: D else D
 | none => D) []
/-- Each of these comes behind i, or behind another of them. -/
def behindOk (ops : Array Oper) (i : Nat) (D : List Nat) : Bool := D.all fun j => match ops[j]? with
 | some oj => oj.after.any fun e => Region.binds .any e && (i :: D).contains e.on
 | none => false
theorem pAny_firstT {i : Nat} {oi : Oper} {v : AV} {D : List Nat} (hi : ops[i]? = some oi) (hki : opK oi.op ≤ 1) (hD : behindOk ops i D = true) : ∀ (n : Nat) (l : Array Bool) (s : St),
  (∀ d ∈ i :: D, l.getD d false = false) →
  (∀ j oj, ops[j]? = some oj → j ≠ i → j ∉ D → l.getD j true = false → oi.apart ops oj = true ∧ (opK oi.op = 0 ∨ opK oj.op ≤ 1)) →
  i ∈ Region.ready .any ops l → Yld P ops oi v s → pAny P ops Q n (l.setIfInBounds i true) ⟨putE s.env oi.dst v, s.H⟩ → pAny P ops Q (n + 1) l s := by
 intro n
 induction n with
 | zero =>
  intro l s _ _ hr hy h
  refine ⟨fun h0 => (by rw [h0] at hr; cases hr), fun j hj => ?_⟩
  by_cases hji : j = i
  ·rw [hji]; exact aOpP_of_yld hi hki hy h
  ·have := ready_mono hj hji
   rw [h.1] at this
   cases this
 | succ n ih =>
  intro l s hl hf hr hy h
  refine ⟨fun h0 => (by rw [h0] at hr; cases hr), fun j hj => ?_⟩
  by_cases hji : j = i
  ·rw [hji]; exact aOpP_of_yld hi hki hy h
  ·obtain ⟨hjun, oj, hoj, hall⟩ := mem_ready.1 hj
   have hjD : j ∉ D := fun hm => by
    have h1 := List.all_eq_true.1 hD j hm
    simp only [hoj] at h1
    obtain ⟨e, he, hb⟩ := Array.any_eq_true'.1 h1
    simp only [Bool.and_eq_true] at hb
    have h2 := hall e he hb.1
    have h3 := hl e.on (by simpa using hb.2)
    rw [h3] at h2; cases h2
   obtain ⟨f1, f2⟩ := hf j oj hoj hji hjD hjun
   refine aOpP_mono (fun s' hs' => ih (l.setIfInBounds j true) s' ?_ ?_ (ready_mono hr (Ne.symm hji)) hs'.1 ?_) (aOpP_put (i := i) hoj f1 f2 hy (h.2 j (ready_mono hj hji)))
   ·intro d hd
    have hjd : j ≠ d := fun e => by
     subst e
     rcases List.mem_cons.1 hd with rfl | hd
     ·exact hji rfl
     ·exact hjD hd
    rw [getD_set_ne false hjd]; exact hl d hd
   ·intro k ok hk hki' hkD hun
    refine hf k ok hk hki' hkD ?_
    by_cases hjk : j = k
    ·rw [← hjk]; exact hjun
    ·rw [getD_set_ne true hjk] at hun; exact hun
   ·rw [Array.setIfInBounds_comm _ _ hji]; exact hs'.2
/-- Whether operation i may go first, what comes behind it left out. -/
def freeT (ops : Array Oper) (l : Array Bool) (i : Nat) : Bool := match ops[i]? with
 | none => false
 | some oi => decide (opK oi.op ≤ 1) && behindOk ops i (behind ops i) && ((i :: behind ops i).all fun d => !l.getD d false) && (List.range ops.size).all fun j => j == i || (behind ops i).contains j || l.getD j true || match ops[j]? with
   | some oj => oi.apart ops oj && (decide (opK oi.op = 0) || decide (opK oj.op ≤ 1))
   | none => true
theorem pAny_freeT {i n : Nat} {l : Array Bool} {s : St} (hf : freeT ops l i = true) (hr : i ∈ Region.ready .any ops l) (h : aOpP P ops (pAny P ops Q n (l.setIfInBounds i true)) i s) : pAny P ops Q (n + 1) l s := by
 unfold freeT at hf
 cases hi : ops[i]? with
 | none => simp [hi] at hf
 | some oi =>
  simp only [hi, Bool.and_eq_true, decide_eq_true_eq] at hf
  obtain ⟨⟨⟨hk, hD⟩, hl⟩, hall⟩ := hf
  simp only [aOpP, hi, hk, if_true] at h
  obtain ⟨v, hy, h⟩ := h
  refine pAny_firstT hi hk hD n l s (fun d hd => by simpa using List.all_eq_true.1 hl d hd) (fun j oj hj hne hjD hun => ?_) hr hy h
  simp only [List.all_eq_true, List.mem_range] at hall
  have h1 := hall j (Array.getElem?_eq_some_iff.1 hj).1
  have hjD' : (behind ops i).contains j = false := by simpa using hjD
  simpa only [hj, Bool.or_eq_true, beq_iff_eq, hne, false_or, hun, hjD', Bool.false_eq_true, Bool.and_eq_true, decide_eq_true_eq] using h1
end Go.Proofs.YtejnpiielcbkkaaGreat.E
end
section
namespace Go.Proofs.YtejnpiielcbkkaaGreat.E
inductive Tr where
  | stop
  | fr (is : List Nat) (t : Tr)
  | op (is : List Nat) (t : Tr)
  | alt (i : Nat) (t u : Tr)
variable {P : Program} {ops : Array Oper} {Q : St → Prop}
def kle (ops : Array Oper) (i : Nat) : Bool := match ops[i]? with
 | some o => decide (opK o.op ≤ 1)
 | none => false
def kgt (ops : Array Oper) (i : Nat) : Bool := match ops[i]? with
 | some o => decide (¬ opK o.op ≤ 1)
 | none => false
def stepOk (ops : Array Oper) (l : Array Bool) (i : Nat) : Bool := match Region.ready .any ops l with
 | [j] => j == i
 | rs => rs.contains i && (freeOp ops l i || freeT ops l i)
def segOk (ops : Array Oper) (p : Nat → Bool) : List Nat → Nat → Array Bool → Option (Nat × Array Bool)
 | [], n, l => some (n, l)
 | i :: r, n + 1, l => if p i && stepOk ops l i then segOk ops p r n (l.setIfInBounds i true) else none
 | _ :: _, 0, _ => none
def heads : Tr → List Nat
 | .alt i _ u => i :: heads u
 | _ => []
def chk (ops : Array Oper) : Tr → Bool → Nat → Array Bool → Bool
 | .stop, true, _, _ => true
 | .stop, false, _, l => (Region.ready .any ops l).isEmpty
 | .fr is t, false, n, l => match segOk ops (kle ops) is n l with
  | some (n', l') => chk ops t false n' l'
  | none => false
 | .op is t, false, n, l => match segOk ops (kgt ops) is n l with
  | some (n', l') => chk ops t false n' l'
  | none => false
 | .alt i t u, b, n + 1, l => (b || (!(Region.ready .any ops l).isEmpty && (Region.ready .any ops l).all fun j => (heads (.alt i t u)).contains j)) && chk ops t false n (l.setIfInBounds i true) && chk ops u true (n + 1) l
 | _, _, _, _ => false
def segP (P : Program) (ops : Array Oper) (K : St → Prop) : List Nat → St → Prop
 | [], s => K s
 | i :: r, s => aOpP P ops (segP P ops K r) i s
def segG (P : Program) (ops : Array Oper) (K : St → Prop) : List Nat → St → Prop
 | [], s => K s
 | i :: r, s => aOpG P ops (segG P ops K r) i s
def aTr (P : Program) (ops : Array Oper) (Q : St → Prop) : Tr → Bool → St → Prop
 | .stop, true, _ => True
 | .stop, false, s => Q s
 | .fr is t, false, s => segP P ops (aTr P ops Q t false) is s
 | .op is t, false, s => segG P ops (aTr P ops Q t false) is s
 | .alt i t u, _, s => aOpP P ops (aTr P ops Q t false) i s ∧ aTr P ops Q u true s
 | _, _, _ => False
theorem pAny_step {i n : Nat} {l : Array Bool} {s : St} (hf : stepOk ops l i = true) (h : aOpP P ops (pAny P ops Q n (l.setIfInBounds i true)) i s) : pAny P ops Q (n + 1) l s := by
 unfold stepOk at hf
 split at hf
 ·rename_i j hr
  have : j = i := by simpa using hf
  subst this
  refine ⟨fun h0 => (by rw [hr] at h0; cases h0), fun k hk => ?_⟩
  rw [hr] at hk
  rw [List.mem_singleton.1 hk]; exact h
 ·simp only [Bool.and_eq_true, Bool.or_eq_true] at hf
  rcases hf.2 with h2 | h2
  ·exact pAny_free h2 (by simpa using hf.1) h
  ·exact pAny_freeT h2 (by simpa using hf.1) h
theorem aOpP_of_G {i : Nat} {s : St} {K : St → Prop} (hk : kgt ops i = true) (h : aOpG P ops K i s) : aOpP P ops K i s := by
 unfold kgt at hk
 unfold aOpP
 split at hk
 ·rename_i o ho
  simp only [ho]
  rw [if_neg (by simpa using hk)]; exact h
 ·cases hk
theorem seg_ok {p : Nat → Bool} {K : St → Prop} : ∀ (is : List Nat) (n n' : Nat) (l l' : Array Bool) (s : St), segOk ops p is n l = some (n', l') → (∀ s, K s → pAny P ops Q n' l' s) → segP P ops K is s → pAny P ops Q n l s
 | [], n, n', l, l', s, h, hk, hs => by
  simp only [segOk, Option.some.injEq, Prod.mk.injEq] at h
  rw [h.1, h.2]; exact hk s hs
 | i :: r, 0, n', l, l', s, h, hk, hs => by simp [segOk] at h
 | i :: r, n + 1, n', l, l', s, h, hk, hs => by
  simp only [segOk] at h
  split at h
  ·rename_i hp
   simp only [Bool.and_eq_true] at hp
   exact pAny_step hp.2 (aOpP_mono (fun s hs => seg_ok r n n' _ l' s h hk hs) hs)
  ·cases h
theorem segP_of_G {K : St → Prop} : ∀ (is : List Nat) (n n' : Nat) (l l' : Array Bool) (s : St), segOk ops (kgt ops) is n l = some (n', l') → segG P ops K is s → segP P ops K is s
 | [], n, n', l, l', s, h, hs => hs
 | i :: r, 0, n', l, l', s, h, hs => by simp [segOk] at h
 | i :: r, n + 1, n', l, l', s, h, hs => by
  simp only [segOk] at h
  split at h
  ·rename_i hp
   simp only [Bool.and_eq_true] at hp
   exact aOpP_of_G hp.1 (aOpG_mono (fun s hs => segP_of_G r n n' _ l' s h hs) hs)
  ·cases h
theorem aTr_ok : ∀ (t : Tr) (n : Nat) (l : Array Bool) (s : St), (chk ops t false n l = true → aTr P ops Q t false s → pAny P ops Q n l s) ∧
  (∀ m, n = m + 1 → chk ops t true n l = true → aTr P ops Q t true s → ∀ i ∈ heads t, aOpP P ops (pAny P ops Q m (l.setIfInBounds i true)) i s)
 | .stop, n, l, s => by
  refine ⟨fun h hs => ?_, fun m _ _ _ i hi => by simp [heads] at hi⟩
  have hr : Region.ready .any ops l = [] := by simpa [chk] using h
  cases n with
  | zero => exact ⟨hr, hs⟩
  | succ n => exact ⟨fun _ => hs, fun i hi => by rw [hr] at hi; cases hi⟩
 | .fr is t, n, l, s => by
  refine ⟨fun h hs => ?_, fun m _ h => by simp [chk] at h⟩
  simp only [chk] at h
  split at h
  ·rename_i n' l' hseg
   exact seg_ok is n n' l l' s hseg (fun s hs => (aTr_ok t n' l' s).1 h hs) hs
  ·cases h
 | .op is t, n, l, s => by
  refine ⟨fun h hs => ?_, fun m _ h => by simp [chk] at h⟩
  simp only [chk] at h
  split at h
  ·rename_i n' l' hseg
   exact seg_ok is n n' l l' s hseg (fun s hs => (aTr_ok t n' l' s).1 h hs) (segP_of_G is n n' l l' s hseg hs)
  ·cases h
 | .alt i t u, 0, l, s => by
  refine ⟨fun h => ?_, fun m hm => ?_⟩
  ·simp [chk] at h
  ·cases hm
 | .alt i t u, n + 1, l, s => by
  have key : chk ops t false n (l.setIfInBounds i true) = true → chk ops u true (n + 1) l = true → aOpP P ops (aTr P ops Q t false) i s ∧ aTr P ops Q u true s → ∀ j ∈ heads (.alt i t u), aOpP P ops (pAny P ops Q n (l.setIfInBounds j true)) j s := by
   intro h1 h2 hs j hj
   simp only [heads] at hj
   rcases List.mem_cons.1 hj with e | hj
   ·rw [e]; exact aOpP_mono (fun s hs => (aTr_ok t n _ s).1 h1 hs) hs.1
   ·exact (aTr_ok u (n + 1) l s).2 n rfl h2 hs.2 j hj
  refine ⟨fun h hs => ?_, fun m hm h hs => ?_⟩
  ·simp only [chk, Bool.false_or, Bool.and_eq_true, Bool.not_eq_true', List.all_eq_true] at h
   obtain ⟨⟨⟨h0, h1⟩, h2⟩, h3⟩ := h
   refine ⟨fun hr => (by rw [hr] at h0; cases h0), fun j hj => key h2 h3 hs j (by simpa using h1 j hj)⟩
  ·cases hm
   simp only [chk, Bool.true_or, Bool.and_eq_true, true_and] at h
   exact key h.1 h.2 hs
theorem i_tree {k id : Nat} {Q : Ex → St → Prop} {s : St} {ops : Array Oper} (t : Tr) (hm : P.follows .mixedOrders = true) (hL : chk ops t false ops.size (Array.replicate ops.size false) = true)
  (h : aTr P ops (Q .normal) t false s) : aCode P k (.region id ops true) Q s := by
 simp only [aCode, if_true]
 intro u
 have := aAny_ok ops.size u _ s (aAny_of_p _ _ s ((aTr_ok t _ _ s).1 hL h))
 simp only [Region.schedule, hm, Bool.true_or, if_true]
 exact this
theorem i_treeQ {k id : Nat} {Q : Ex → St → Prop} {s : St} {ops : Array Oper} (t : Tr) (hm : P.follows .mixedOrders = true) (hL : chk ops t false ops.size (Array.replicate ops.size false) = true)
  (h : ∀ Q' : St → Prop, Imp (Q .normal) Q' → aTr P ops Q' t false s) : aCode P k (.region id ops true) Q s := i_tree t hm hL (h _ fun _ h => h)
/-- A row of operations that leave the memory as_ it is. -/
def pRun (P : Program) (all : Array Oper) (K : St → Prop) : List Oper → St → Prop
 | [], s => K s
 | o :: os, s => opK o.op ≤ 1 ∧ match o.guard with
  | none => ∃ v, astep P s o.op = some (v, s.H) ∧ pRun P all K os ⟨putE s.env o.dst v, s.H⟩
  | some (j, want) => ∃ b, guardOf all s j want = some b ∧ ((b = want ∧ ∃ v, astep P s o.op = some (v, s.H) ∧ pRun P all K os ⟨putE s.env o.dst v, s.H⟩) ∨ (b ≠ want ∧ pRun P all K os ⟨putE s.env o.dst (.tup []), s.H⟩))
theorem segP_of_run {K : St → Prop} : ∀ (is : List Nat) (s : St), pRun P ops K (pickOps ops is) s → segP P ops K is s
 | [], s, h => by rw [pickOps_nil] at h; exact h
 | i :: r, s, h => by
  simp only [segP, aOpP]
  cases ho : ops[i]? with
  | none =>
   simp only [pickOps, ho] at h
   exact segP_of_run r s h
  | some o =>
   rw [pickOps_hit ho] at h
   obtain ⟨hk, h⟩ := h
   simp only [hk, if_true]
   cases hg : o.guard with
   | none =>
    simp only [hg] at h
    obtain ⟨v, hv, h⟩ := h
    exact ⟨v, by simpa only [Yld, hg] using hv, segP_of_run r _ h⟩
   | some q =>
    obtain ⟨j, want⟩ := q
    simp only [hg] at h
    obtain ⟨b, hb, ⟨hw, v, hv, h⟩ | ⟨hw, h⟩⟩ := h
    ·exact ⟨v, by simp only [Yld, hg]; exact ⟨b, hb, fun _ => hv, fun hn => absurd hw hn⟩, segP_of_run r _ h⟩
    ·exact ⟨.tup [], by simp only [Yld, hg]; exact ⟨b, hb, fun h => absurd h hw, fun _ => by trivial⟩, segP_of_run r _ h⟩
theorem segG_of_aL {K : St → Prop} : ∀ (is : List Nat) (s : St), aL P ops K (pickOps ops is) s → segG P ops K is s
 | [], s, h => by rw [pickOps_nil] at h; exact h
 | i :: r, s, h => by
  simp only [segG, aOpG]
  cases ho : ops[i]? with
  | none =>
   simp only [pickOps, ho] at h
   exact segG_of_aL r s h
  | some o =>
   rw [pickOps_hit ho] at h
   simp only [aL] at h ⊢
   cases hg : o.guard with
   | none =>
    rw [hg] at h
    exact aOp_mono (fun s hs => segG_of_aL r s hs) h
   | some q =>
    obtain ⟨j, want⟩ := q
    rw [hg] at h
    simp only at h ⊢
    split at h
    ·rename_i b hb
     try simp only [hb]
     exact ⟨fun hw => aOp_mono (fun s hs => segG_of_aL r s hs) (h.1 hw), fun hw => segG_of_aL r _ (h.2 hw)⟩
    ·exact h.elim
theorem tr_stop {s : St} (h : Q s) : aTr P ops Q .stop false s := h
theorem tr_none {s : St} : aTr P ops Q .stop true s := trivial
theorem tr_fr {is : List Nat} {t : Tr} {s : St} (h : pRun P ops (aTr P ops Q t false) (pickOps ops is) s) : aTr P ops Q (.fr is t) false s := segP_of_run is s h
theorem tr_op {is : List Nat} {t : Tr} {s : St} (h : aL P ops (aTr P ops Q t false) (pickOps ops is) s) : aTr P ops Q (.op is t) false s := segG_of_aL is s h
def altp (i : Nat) (t u : Tr) : Tr := .alt i t u
def altg (i : Nat) (t u : Tr) : Tr := .alt i t u
theorem tr_alt {i : Nat} {t u : Tr} {b : Bool} {s : St} (hk : kgt ops i = true) (h : aL P ops (aTr P ops Q t false) (pickOps ops [i]) s) (h2 : aTr P ops Q u true s) : aTr P ops Q (altg i t u) b s := by
 cases b <;> exact ⟨aOpP_of_G hk (segG_of_aL [i] s h), h2⟩
theorem tr_altp {i : Nat} {t u : Tr} {b : Bool} {s : St} (h : pRun P ops (aTr P ops Q t false) (pickOps ops [i]) s) (h2 : aTr P ops Q u true s) : aTr P ops Q (altp i t u) b s := by
 cases b <;> exact ⟨segP_of_run [i] s h, h2⟩
/-- For the evaluation. -/
def pS (P : Program) (all : Array Oper) (K : St → Prop) (dst : Option Tmp) (os : List Oper) (s : St) (r : Option (AV × List AObj)) : Prop := match r with
 | some (v, H') => H' = s.H ∧ pRun P all K os ⟨putE s.env dst v, s.H⟩
 | none => False
def pG (P : Program) (all : Array Oper) (K : St → Prop) (o : Oper) (os : List Oper) (s : St) (b want : Bool) : Prop := (b = want → pS P all K o.dst os s (astep P s o.op)) ∧ (b = !want → pRun P all K os ⟨putE s.env o.dst (.tup []), s.H⟩)
theorem pS_some (P : Program) (all : Array Oper) (K : St → Prop) (dst : Option Tmp) (os : List Oper) (s : St) (v : AV) (H' : List AObj) : pS P all K dst os s (some (v, H')) = (H' = s.H ∧ pRun P all K os ⟨putE s.env dst v, s.H⟩) := by rw [pS]
theorem pS_iff {P : Program} {all : Array Oper} {K : St → Prop} {dst : Option Tmp} {os : List Oper} {s : St} {r : Option (AV × List AObj)} : pS P all K dst os s r ↔ ∃ v, r = some (v, s.H) ∧ pRun P all K os ⟨putE s.env dst v, s.H⟩ := by
 constructor
 ·intro h
  cases r with
  | none => exact h.elim
  | some q =>
   obtain ⟨v, H'⟩ := q
   simp only [pS] at h
   exact ⟨v, by rw [h.1], h.2⟩
 ·rintro ⟨v, hr, h⟩
  rw [hr, pS_some]
  exact ⟨rfl, h⟩
theorem pRun_nil (P : Program) (all : Array Oper) (K : St → Prop) (s : St) : pRun P all K [] s = K s := by rw [pRun.eq_def]
theorem pRun_none (P : Program) (all : Array Oper) (K : St → Prop) (a1 : Option Tmp) (a2 : Op) (a3 : TypeId) (a4 : String) (a5 : Array Edge) (os : List Oper) (s : St) :
  pRun P all K (⟨a1, a2, a3, a4, a5, none⟩ :: os) s = (opK a2 ≤ 1 ∧ pS P all K a1 os s (astep P s a2)) := by
 rw [pRun.eq_def]
 simp only [pS_iff]
theorem pRun_guard (P : Program) (all : Array Oper) (K : St → Prop) (a1 : Option Tmp) (a2 : Op) (a3 : TypeId) (a4 : String) (a5 : Array Edge) (j : Nat) (want : Bool) (os : List Oper) (s : St) :
  pRun P all K (⟨a1, a2, a3, a4, a5, some (j, want)⟩ :: os) s = (opK a2 ≤ 1 ∧ match guardOf all s j want with
   | some b => pG P all K ⟨a1, a2, a3, a4, a5, some (j, want)⟩ os s b want
   | none => False) := by
 rw [pRun.eq_def]
 simp only [pG, pS_iff]
 refine congrArg _ (propext ⟨?_, ?_⟩)
 ·rintro ⟨b, hb, h⟩
  rw [hb]
  rcases h with ⟨hw, h⟩ | ⟨hw, h⟩
  ·refine ⟨fun _ => h, fun hn => ?_⟩
   rw [hw] at hn; cases want <;> cases hn
  ·exact ⟨fun hn => absurd hn hw, fun _ => h⟩
 ·intro h
  split at h
  ·rename_i b hb
   refine ⟨b, hb, ?_⟩
   by_cases hw : b = want
   ·exact .inl ⟨hw, h.1 hw⟩
   ·exact .inr ⟨hw, h.2 (by cases b <;> cases want <;> simp_all)⟩
  ·exact h.elim
theorem pG_tt (P : Program) (all : Array Oper) (K : St → Prop) (o : Oper) (os : List Oper) (s : St) : pG P all K o os s true true = pS P all K o.dst os s (astep P s o.op) := by simp [pG]
theorem pG_ff (P : Program) (all : Array Oper) (K : St → Prop) (o : Oper) (os : List Oper) (s : St) : pG P all K o os s false false = pS P all K o.dst os s (astep P s o.op) := by simp [pG]
theorem pG_tf (P : Program) (all : Array Oper) (K : St → Prop) (o : Oper) (os : List Oper) (s : St) : pG P all K o os s true false = pRun P all K os ⟨putE s.env o.dst (.tup []), s.H⟩ := by simp [pG]
theorem pG_ft (P : Program) (all : Array Oper) (K : St → Prop) (o : Oper) (os : List Oper) (s : St) : pG P all K o os s false true = pRun P all K os ⟨putE s.env o.dst (.tup []), s.H⟩ := by simp [pG]
theorem pG_split {all : Array Oper} {K : St → Prop} {o : Oper} {os : List Oper} {s : St} {b want : Bool} (h1 : b = want → pS P all K o.dst os s (astep P s o.op)) (h2 : b = !want → pRun P all K os ⟨putE s.env o.dst (.tup []), s.H⟩) : pG P all K o os s b want := ⟨h1, h2⟩
attribute [go_sem] pS_some pRun_nil pRun_none pRun_guard pG_tt pG_ff pG_tf pG_ft opK
end Go.Proofs.YtejnpiielcbkkaaGreat.E
end
section
namespace Go.Proofs.YtejnpiielcbkkaaGreat.E
variable {P : Program} {ops : Array Oper} {Q : St → Prop}
abbrev Pend := List (Nat × Op × AV)
/-- All that was read ahead reads the same here. -/
def sty (P : Program) (s : St) : Pend → Prop
 | [] => True
 | e :: r => astep P s e.2.1 = some (e.2.2, s.H) ∧ sty P s r
theorem sty_all {s : St} : ∀ {E : Pend}, sty P s E ↔ ∀ e ∈ E, astep P s e.2.1 = some (e.2.2, s.H)
 | [] => by simp [sty]
 | e :: r => by simp only [sty, sty_all (E := r), List.mem_cons, forall_eq_or_imp]
def depOn (ops : Array Oper) (j i : Nat) : Bool := match ops[j]? with
 | some oj => oj.after.any fun e => Region.binds .any e && e.on == i
 | none => false
def dropE (ops : Array Oper) (j : Nat) (E : Pend) : Pend := E.filter fun e => !depOn ops j e.1
def hAny (P : Program) (ops : Array Oper) (Q : St → Prop) : Nat → Array Bool → Pend → St → Prop
 | 0, l, E, s => sty P s E ∧ Region.ready .any ops l = [] ∧ Q s
 | n + 1, l, E, s => sty P s E ∧ (Region.ready .any ops l = [] → Q s) ∧ ∀ i ∈ Region.ready .any ops l, aOpP P ops (hAny P ops Q n (l.setIfInBounds i true) (dropE ops i E)) i s
theorem hAny_sty : ∀ {n : Nat} {l : Array Bool} {E : Pend} {s : St}, hAny P ops Q n l E s → sty P s E
 | 0, _, _, _, h => h.1
 | _ + 1, _, _, _, h => h.1
theorem hAny_mono : ∀ {n : Nat} {l : Array Bool} {E E' : Pend} {s : St}, (∀ e ∈ E', e ∈ E) → hAny P ops Q n l E s → hAny P ops Q n l E' s
 | 0, l, E, E', s, hE, h => ⟨sty_all.2 fun e he => sty_all.1 h.1 e (hE e he), h.2⟩
 | n + 1, l, E, E', s, hE, h => ⟨sty_all.2 fun e he => sty_all.1 h.1 e (hE e he), h.2.1, fun i hi => aOpP_mono (fun s' hs' => hAny_mono (fun e he => by
   simp only [dropE, List.mem_filter] at he ⊢
   exact ⟨hE e he.1, he.2⟩) hs') (h.2.2 i hi)⟩
theorem pAny_of_h : ∀ (n : Nat) (l : Array Bool) (s : St), hAny P ops Q n l [] s → pAny P ops Q n l s := by
 intro n
 induction n with
 | zero => intro l s h; exact h.2
 | succ n ih => intro l s h; exact ⟨h.2.1, fun i hi => aOpP_mono (fun s hs => ih _ s hs) (h.2.2 i hi)⟩
theorem aOpP_put2 {i j : Nat} {oi oj : Oper} {v : AV} {s : St} {K : St → Prop} (hj : ops[j]? = some oj) (hap : oi.apart ops oj = true)
  (h : aOpP P ops K j ⟨putE s.env oi.dst v, s.H⟩) : aOpP P ops (fun s' => K ⟨putE s'.env oi.dst v, s'.H⟩) j s := by
 obtain ⟨a1, a2, a3⟩ := apart_sp hap
 have hev := looks_ev (s := s) (v := v) (H := s.H) a1
 simp only [aOpP, hj] at h ⊢
 split
 ·rename_i hkj
  simp only [hkj, if_true] at h
  obtain ⟨u, hu, h⟩ := h
  refine ⟨u, ?_, ?_⟩
  ·have he : astep P s oj.op = astep P ⟨putE s.env oi.dst v, s.H⟩ oj.op := astep_congr (s := s) (s' := ⟨putE s.env oi.dst v, s.H⟩) rfl _ fun x hx => (hev x hx).symm
   cases hg : oj.guard with
   | none =>
    simp only [Yld, hg] at hu ⊢
    exact he.trans hu
   | some q =>
    obtain ⟨j', w⟩ := q
    simp only [Yld, hg] at hu ⊢
    obtain ⟨b, hb, h1, h2⟩ := hu
    exact ⟨b, by rw [← looks_guard (s := s) (v := v) (H := s.H) hg a1]; exact hb, fun hw => he.trans (h1 hw), h2⟩
  ·rw [← putE_comm _ _ _ a2]; exact h
 ·rename_i hkj
  simp only [hkj, if_false] at h
  simp only [aOpG, hj] at h ⊢
  have key : aOp P oj ⟨putE s.env oi.dst v, s.H⟩ K → aOp P oj s (fun s' => K ⟨putE s'.env oi.dst v, s'.H⟩) := by
   intro h
   unfold aOp at h ⊢
   rw [callOf_congr oj.op hev] at h
   cases hc : callOf s oj.op with
   | some q =>
    obtain ⟨f, avs⟩ := q
    simp only [hc] at h ⊢
    exact h.mono fun r H' hh => by rw [← putE_comm _ _ _ a2]; exact hh
   | none =>
    simp only [hc] at h ⊢
    have he : astep P ⟨putE s.env oi.dst v, s.H⟩ oj.op = astep P s oj.op := astep_congr (s := ⟨putE s.env oi.dst v, s.H⟩) (s' := s) rfl _ hev
    rw [he] at h
    split at h
    ·rw [← putE_comm _ _ _ a2]; exact h
    ·exact h.elim
  cases hg : oj.guard with
  | none => rw [hg] at h; exact key h
  | some q =>
   obtain ⟨j', w⟩ := q
   rw [hg] at h
   simp only at h ⊢
   rw [looks_guard (s := s) (v := v) (H := s.H) hg a1] at h
   split at h
   ·rename_i b hb
    try simp only [hb]
    exact ⟨fun hw => key (h.1 hw), fun hw => by rw [← putE_comm _ _ _ a2]; exact h.2 hw⟩
   ·exact h.elim
/-- What x writes is not looked at by y. -/
def putOk (ops : Array Oper) (x y : Oper) : Bool := match x.dst with
 | some d => !(y.looksAt ops).contains d
 | none => true
theorem putOk_sp {x y : Oper} (h : putOk ops x y = true) : ∀ t, x.dst = some t → t ∉ y.looksAt ops := fun t ht => by
 simp only [putOk, ht, Bool.not_eq_true'] at h
 simpa using h
def selfOk (ops : Array Oper) (o : Oper) : Bool := match o.dst with
 | some d => !(o.looksAt ops).contains d
 | none => true
theorem unput {o : Oper} {s : St} {d : Option Tmp} {u : AV} (h : ∀ t, d = some t → t ∉ o.looksAt ops) : astep P ⟨putE s.env d u, s.H⟩ o.op = astep P s o.op :=
 astep_congr (s := ⟨putE s.env d u, s.H⟩) (s' := s) rfl _ (looks_ev h)
/-- What is pended, with what stands in the text. -/
def pendOk (ops : Array Oper) (E : Pend) : Prop := ∀ e ∈ E, ∃ o, ops[e.1]? = some o ∧ o.op = e.2.1
def addE (k : Bool) (i : Nat) (op : Op) (v : AV) (E : Pend) : Pend := if k = true then E else (i, op, v) :: E
theorem h_first {i : Nat} {oi : Oper} {v : AV} (hi : ops[i]? = some oi) (hki : opK oi.op ≤ 1) (hself : selfOk ops oi = true) (hgi : oi.guard = none) : ∀ (n : Nat) (l : Array Bool) (E : Pend) (s : St),
  (∀ j oj, ops[j]? = some oj → j ≠ i → l.getD j true = false → (∀ e ∈ oj.after, Region.binds .any e = true → e.on ≠ i) → oi.apart ops oj = true) →
  (∀ e ∈ E, ∃ o, ops[e.1]? = some o ∧ o.op = e.2.1 ∧ putOk ops oi o = true) →
  i ∈ Region.ready .any ops l → Yld P ops oi v s → hAny P ops Q n (l.setIfInBounds i true) (addE (decide (opK oi.op = 0)) i oi.op v E) ⟨putE s.env oi.dst v, s.H⟩ → hAny P ops Q (n + 1) l E s := by
 have hd0 : ∀ t, oi.dst = some t → t ∉ oi.looksAt ops := fun t ht => by
  simp only [selfOk, ht, Bool.not_eq_true'] at hself
  simpa using hself
 have hback : ∀ (E : Pend) (s : St), (∀ e ∈ E, ∃ o, ops[e.1]? = some o ∧ o.op = e.2.1 ∧ putOk ops oi o = true) → (∀ e ∈ E, astep P ⟨putE s.env oi.dst v, s.H⟩ e.2.1 = some (e.2.2, s.H)) → sty P s E := fun E s hE h => sty_all.2 fun e he => by
  obtain ⟨o, ho, hop, hap⟩ := hE e he
  have := h e he
  rw [← hop] at this ⊢
  rw [← unput (P := P) (ops := ops) (s := s) (u := v) (putOk_sp hap)]
  exact this
 have hin : ∀ (E : Pend), ∀ e ∈ E, e ∈ addE (decide (opK oi.op = 0)) i oi.op v E := fun E e he => by
  unfold addE; split
  ·exact he
  ·exact List.mem_cons_of_mem _ he
 intro n
 induction n with
 | zero =>
  intro l E s _ hE hr hy h
  refine ⟨hback E s hE fun e he => sty_all.1 h.1 e (hin E e he), fun h0 => (by rw [h0] at hr; cases hr), fun j hj => ?_⟩
  by_cases hji : j = i
  ·rw [hji]
   refine aOpP_of_yld hi hki hy (hAny_mono (fun e he => ?_) h)
   simp only [dropE, List.mem_filter] at he
   exact hin E e he.1
  ·have := ready_mono hj hji
   rw [h.2.1] at this
   cases this
 | succ n ih =>
  intro l E s hf hE hr hy h
  refine ⟨hback E s hE fun e he => sty_all.1 h.1 e (hin E e he), fun h0 => (by rw [h0] at hr; cases hr), fun j hj => ?_⟩
  by_cases hji : j = i
  ·rw [hji]
   refine aOpP_of_yld hi hki hy (hAny_mono (fun e he => ?_) h)
   simp only [dropE, List.mem_filter] at he
   exact hin E e he.1
  ·obtain ⟨hjun, oj, hoj, hall⟩ := mem_ready.1 hj
   have hnot : ∀ e ∈ oj.after, Region.binds .any e = true → e.on ≠ i := fun e he hb heq => by
    have h1 := hall e he hb
    have h0 := (mem_ready.1 hr).1
    rw [heq] at h1
    rcases Nat.lt_or_ge i l.size with h' | h'
    ·simp [h'] at h0 h1; rw [h0] at h1; cases h1
    ·simp [Array.getElem?_eq_none h'] at h1
   have hdep : depOn ops j i = false := by
    simp only [depOn, hoj]
    rw [Array.any_eq_false']
    intro e he
    cases hb : Region.binds .any e
    ·simp
    ·have := hnot e he hb
     simpa using this
   have f1 := hf j oj hoj hji hjun hnot
   have hadd : dropE ops j (addE (decide (opK oi.op = 0)) i oi.op v E) = addE (decide (opK oi.op = 0)) i oi.op v (dropE ops j E) := by
    unfold addE dropE
    split
    ·rfl
    ·simp [hdep]
   have hj2 := h.2.2 j (ready_mono hj hji)
   rw [hadd] at hj2
   have key : aOpP P ops (fun s' => Yld P ops oi v s' ∧ hAny P ops Q n ((l.setIfInBounds i true).setIfInBounds j true) (addE (decide (opK oi.op = 0)) i oi.op v (dropE ops j E)) ⟨putE s'.env oi.dst v, s'.H⟩) j s := by
    by_cases hk0 : opK oi.op = 0
    ·exact aOpP_put (i := i) hoj f1 (.inl hk0) hy hj2
    ·refine aOpP_mono (fun s' hs' => ⟨?_, hs'⟩) (aOpP_put2 (i := i) hoj f1 hj2)
     have h1 := sty_all.1 (hAny_sty hs') (i, oi.op, v) (by simp [addE, hk0])
     simp only [Yld, hgi]
     rw [← unput (P := P) (ops := ops) (s := s') (u := v) hd0]
     exact h1
   refine aOpP_mono (fun s' hs' => ih (l.setIfInBounds j true) _ s' ?_ ?_ (ready_mono hr (Ne.symm hji)) hs'.1 ?_) key
   ·intro k ok hk hki' hun hno
    refine hf k ok hk hki' ?_ hno
    by_cases hjk : j = k
    ·rw [← hjk]; exact hjun
    ·rw [getD_set_ne true hjk] at hun; exact hun
   ·intro e he
    simp only [dropE, List.mem_filter] at he
    exact hE e he.1
   ·rw [Array.setIfInBounds_comm _ _ hji]; exact hs'.2
/-- Whether operation i may be taken ahead, the operations El being ahead already. -/
def hoOk (ops : Array Oper) (l : Array Bool) (El : List Nat) (i : Nat) : Bool := match ops[i]? with
 | none => false
 | some oi => decide (opK oi.op ≤ 1) && oi.guard.isNone && selfOk ops oi && (Region.ready .any ops l).contains i && Region.free .any ops l i && El.all fun j => match ops[j]? with
   | some oj => putOk ops oi oj
   | none => false
theorem h_ho {i n : Nat} {l : Array Bool} {E : Pend} {s : St} {v : AV} {oi : Oper} (hi : ops[i]? = some oi) (hf : hoOk ops l (E.map (·.1)) i = true) (hE : pendOk ops E) (hy : astep P s oi.op = some (v, s.H))
  (h : hAny P ops Q n (l.setIfInBounds i true) (addE (decide (opK oi.op = 0)) i oi.op v E) ⟨putE s.env oi.dst v, s.H⟩) : hAny P ops Q (n + 1) l E s := by
 simp only [hoOk, hi, Bool.and_eq_true, decide_eq_true_eq] at hf
 obtain ⟨⟨⟨⟨⟨hk, hg⟩, hs⟩, hr⟩, hfr⟩, hall⟩ := hf
 have hg' : oi.guard = none := by simpa using hg
 refine h_first hi hk hs hg' n l E s (fun j oj hj hne hun hno => Region.free_spec hi hfr j oj hj hne hun hno) (fun e he => ?_) (by simpa using hr) (by simpa only [Yld, hg'] using hy) h
 obtain ⟨o, ho, hop⟩ := hE e he
 have h1 := List.all_eq_true.1 hall e.1 (List.mem_map.2 ⟨e, he, rfl⟩)
 simp only [ho] at h1
 exact ⟨o, ho, hop, h1⟩
/-! ### The tree -/
inductive Th where
  | stop
  | ho (is : List Nat) (t : Th)
  | op (i : Nat) (keep : List Nat) (t : Th)
  | alt (i : Nat) (keep : List Nat) (t u : Th)
def kz (ops : Array Oper) (i : Nat) : Bool := match ops[i]? with
 | some o => decide (opK o.op = 0)
 | none => true
def hoSeg (ops : Array Oper) : List Nat → Nat → Array Bool → List Nat → Option (Nat × Array Bool × List Nat)
 | [], n, l, El => some (n, l, El)
 | i :: r, n + 1, l, El => if hoOk ops l El i then hoSeg ops r n (l.setIfInBounds i true) (if kz ops i then El else i :: El) else none
 | _ :: _, 0, _, _ => none
def headsT : Th → List Nat
 | .alt i _ _ u => i :: headsT u
 | _ => []
def keepOk (ops : Array Oper) (i : Nat) (El keep : List Nat) : Bool := El.all fun e => depOn ops i e || keep.contains e
def chkT (ops : Array Oper) : Th → Bool → Nat → Array Bool → List Nat → Bool
 | .stop, true, _, _, _ => true
 | .stop, false, _, l, _ => (Region.ready .any ops l).isEmpty
 | .ho is t, false, n, l, El => match hoSeg ops is n l El with
  | some (n', l', El') => chkT ops t false n' l' El'
  | none => false
 | .op i keep t, false, n + 1, l, El => (Region.ready .any ops l == [i]) && kgt ops i && keepOk ops i El keep && chkT ops t false n (l.setIfInBounds i true) (El.filter keep.contains)
 | .alt i keep t u, b, n + 1, l, El => (b || (!(Region.ready .any ops l).isEmpty && (Region.ready .any ops l).all fun j => (headsT (.alt i keep t u)).contains j)) && kgt ops i && keepOk ops i El keep && chkT ops t false n (l.setIfInBounds i true) (El.filter keep.contains) && chkT ops u true (n + 1) l El
 | _, _, _, _, _ => false
def keepE (keep : List Nat) (E : Pend) : Pend := E.filter fun e => keep.contains e.1
def segH (P : Program) (ops : Array Oper) (K : Pend → St → Prop) : List Nat → Pend → St → Prop
 | [], E, s => K E s
 | i :: r, E, s => match ops[i]? with
  | some o => ∃ v, astep P s o.op = some (v, s.H) ∧ segH P ops K r (addE (decide (opK o.op = 0)) i o.op v E) ⟨putE s.env o.dst v, s.H⟩
  | none => segH P ops K r E s
def aTh (P : Program) (ops : Array Oper) (Q : St → Prop) : Th → Bool → Pend → St → Prop
 | .stop, true, _, _ => True
 | .stop, false, E, s => sty P s E ∧ Q s
 | .ho is t, false, E, s => segH P ops (fun E' s' => aTh P ops Q t false E' s') is E s
 | .op i keep t, false, E, s => sty P s E ∧ aOpG P ops (aTh P ops Q t false (keepE keep E)) i s
 | .alt i keep t u, _, E, s => sty P s E ∧ aOpG P ops (aTh P ops Q t false (keepE keep E)) i s ∧ aTh P ops Q u true E s
 | _, _, _, _ => False
theorem addE_pend {i : Nat} {o : Oper} {v : AV} {E : Pend} {k : Bool} (hi : ops[i]? = some o) (hE : pendOk ops E) : pendOk ops (addE k i o.op v E) := by
 unfold addE
 split
 ·exact hE
 ·intro e he
  rcases List.mem_cons.1 he with rfl | he
  ·exact ⟨o, hi, rfl⟩
  ·exact hE e he
theorem keepE_pend {keep : List Nat} {E : Pend} (hE : pendOk ops E) : pendOk ops (keepE keep E) := fun e he => hE e (List.mem_filter.1 he).1
theorem keepE_map {keep : List Nat} : ∀ {E : Pend}, (keepE keep E).map (·.1) = (E.map (·.1)).filter keep.contains
 | [] => rfl
 | e :: r => by
  simp only [keepE, List.filter_cons, List.map_cons]
  split
  ·simp only [List.map_cons]; congr 1; exact keepE_map (E := r)
  ·exact keepE_map (E := r)
theorem hoSeg_ok {K : Pend → St → Prop} : ∀ (is : List Nat) (n n' : Nat) (l l' : Array Bool) (El' : List Nat) (E : Pend) (s : St), hoSeg ops is n l (E.map (·.1)) = some (n', l', El') → pendOk ops E →
  (∀ E' s', pendOk ops E' → E'.map (·.1) = El' → K E' s' → hAny P ops Q n' l' E' s') → segH P ops K is E s → hAny P ops Q n l E s
 | [], n, n', l, l', El', E, s, h, hE, hk, hs => by
  simp only [hoSeg, Option.some.injEq, Prod.mk.injEq] at h
  obtain ⟨rfl, rfl, rfl⟩ := h
  exact hk E s hE rfl hs
 | i :: r, 0, n', l, l', El', E, s, h, hE, hk, hs => by simp [hoSeg] at h
 | i :: r, n + 1, n', l, l', El', E, s, h, hE, hk, hs => by
  simp only [hoSeg] at h
  split at h
  ·rename_i hok
   cases ho : ops[i]? with
   | none => simp [hoOk, ho] at hok
   | some o =>
   simp only [segH, ho] at hs
   obtain ⟨v, hst, hs⟩ := hs
   refine h_ho ho hok hE hst (hoSeg_ok r n n' _ l' El' _ _ ?_ (addE_pend ho hE) hk hs)
   rw [← h]
   congr 1
   simp only [kz, ho, addE]
   split <;> rfl
  ·cases h
theorem drop_keep {i : Nat} {keep : List Nat} {E : Pend} (h : keepOk ops i (E.map (·.1)) keep = true) : ∀ e ∈ dropE ops i E, e ∈ keepE keep E := by
 intro e he
 simp only [dropE, keepE, List.mem_filter] at he ⊢
 refine ⟨he.1, ?_⟩
 have h1 := List.all_eq_true.1 h e.1 (List.mem_map.2 ⟨e, he.1, rfl⟩)
 simp only [Bool.or_eq_true] at h1
 rcases h1 with h1 | h1
 ·rw [h1] at he; simp at he
 ·exact h1
theorem aTh_ok : ∀ (t : Th) (n : Nat) (l : Array Bool) (E : Pend) (s : St), pendOk ops E → (chkT ops t false n l (E.map (·.1)) = true → aTh P ops Q t false E s → hAny P ops Q n l E s) ∧
  (∀ m, n = m + 1 → chkT ops t true n l (E.map (·.1)) = true → aTh P ops Q t true E s → ∀ i ∈ headsT t, aOpP P ops (hAny P ops Q m (l.setIfInBounds i true) (dropE ops i E)) i s)
 | .stop, n, l, E, s, hE => by
  refine ⟨fun h hs => ?_, fun m _ _ _ i hi => by simp [headsT] at hi⟩
  have hr : Region.ready .any ops l = [] := by simpa [chkT] using h
  cases n with
  | zero => exact ⟨hs.1, hr, hs.2⟩
  | succ n => exact ⟨hs.1, fun _ => hs.2, fun i hi => by rw [hr] at hi; cases hi⟩
 | .ho is t, n, l, E, s, hE => by
  refine ⟨fun h hs => ?_, fun m _ h => by simp [chkT] at h⟩
  simp only [chkT] at h
  split at h
  ·rename_i n' l' El' hseg
   exact hoSeg_ok is n n' l l' El' E s hseg hE (fun E' s' hE' he hs' => (aTh_ok t n' l' E' s' hE').1 (by rw [he]; exact h) hs') hs
  ·cases h
 | .op i keep t, 0, l, E, s, hE => by
  exact ⟨fun h => by simp [chkT] at h, fun m hm => by cases hm⟩
 | .op i keep t, n + 1, l, E, s, hE => by
  refine ⟨fun h hs => ?_, fun m _ h => by simp [chkT] at h⟩
  simp only [chkT, Bool.and_eq_true, beq_iff_eq] at h
  obtain ⟨⟨⟨hr, hkg⟩, hkeep⟩, h⟩ := h
  refine ⟨hs.1, fun h0 => (by rw [hr] at h0; cases h0), fun j hj => ?_⟩
  rw [hr] at hj
  have hji : j = i := by simpa using hj
  subst hji
  refine aOpP_mono (fun s' hs' => hAny_mono (drop_keep hkeep) ((aTh_ok t n _ (keepE keep E) s' (keepE_pend hE)).1 (by rw [keepE_map]; exact h) hs')) (aOpP_of_G hkg hs.2)
 | .alt i keep t u, 0, l, E, s, hE => by
  exact ⟨fun h => by simp [chkT] at h, fun m hm => by cases hm⟩
 | .alt i keep t u, n + 1, l, E, s, hE => by
  have key : kgt ops i = true → keepOk ops i (E.map (·.1)) keep = true → chkT ops t false n (l.setIfInBounds i true) ((E.map (·.1)).filter keep.contains) = true → chkT ops u true (n + 1) l (E.map (·.1)) = true → aOpG P ops (aTh P ops Q t false (keepE keep E)) i s ∧ aTh P ops Q u true E s → ∀ j ∈ headsT (.alt i keep t u), aOpP P ops (hAny P ops Q n (l.setIfInBounds j true) (dropE ops j E)) j s := by
   intro hkg hkeep h1 h2 hs j hj
   simp only [headsT] at hj
   rcases List.mem_cons.1 hj with e | hj
   ·rw [e]
    exact aOpP_mono (fun s' hs' => hAny_mono (drop_keep hkeep) ((aTh_ok t n _ (keepE keep E) s' (keepE_pend hE)).1 (by rw [keepE_map]; exact h1) hs')) (aOpP_of_G hkg hs.1)
   ·exact (aTh_ok u (n + 1) l E s hE).2 n rfl h2 hs.2 j hj
  refine ⟨fun h hs => ?_, fun m hm h hs => ?_⟩
  ·simp only [chkT, Bool.false_or, Bool.and_eq_true, Bool.not_eq_true', List.all_eq_true] at h
   obtain ⟨⟨⟨⟨⟨h0, h1⟩, hkg⟩, hkeep⟩, h2⟩, h3⟩ := h
   exact ⟨hs.1, fun hr => (by rw [hr] at h0; cases h0), fun j hj => key hkg hkeep h2 h3 hs.2 j (by simpa using h1 j hj)⟩
  ·cases hm
   simp only [chkT, Bool.true_or, Bool.and_eq_true, true_and] at h
   obtain ⟨⟨⟨hkg, hkeep⟩, h2⟩, h3⟩ := h
   exact key hkg hkeep h2 h3 hs.2
theorem i_th {k id : Nat} {Q : Ex → St → Prop} {s : St} {ops : Array Oper} (t : Th) (hm : P.follows .mixedOrders = true) (hL : chkT ops t false ops.size (Array.replicate ops.size false) [] = true)
  (h : ∀ Q' : St → Prop, Imp (Q .normal) Q' → aTh P ops Q' t false [] s) : aCode P k (.region id ops true) Q s := by
 simp only [aCode, if_true]
 intro u
 have := aAny_ok ops.size u _ s (aAny_of_p _ _ s (pAny_of_h _ _ s ((aTh_ok t ops.size _ [] s (fun e he => by cases he)).1 hL (h _ fun _ h => h))))
 simp only [Region.schedule, hm, Bool.true_or, if_true]
 exact this
/-! ### For the evaluation -/
/-- The operations of a row, with their numbers. -/
def hRun (P : Program) (K : Pend → St → Prop) : List (Nat × Oper) → Pend → St → Prop
 | [], E, s => K E s
 | (i, o) :: r, E, s => ∃ v, astep P s o.op = some (v, s.H) ∧ hRun P K r (addE (decide (opK o.op = 0)) i o.op v E) ⟨putE s.env o.dst v, s.H⟩
def hS (P : Program) (K : Pend → St → Prop) (i : Nat) (op : Op) (dst : Option Tmp) (r : List (Nat × Oper)) (E : Pend) (s : St) : Option (AV × List AObj) → Prop
 | some (v, H') => H' = s.H ∧ hRun P K r (addE (decide (opK op = 0)) i op v E) ⟨putE s.env dst v, s.H⟩
 | none => False
theorem hS_some (K : Pend → St → Prop) (i : Nat) (op : Op) (dst : Option Tmp) (r : List (Nat × Oper)) (E : Pend) (s : St) (v : AV) (H' : List AObj) :
  hS P K i op dst r E s (some (v, H')) = (H' = s.H ∧ hRun P K r (addE (decide (opK op = 0)) i op v E) ⟨putE s.env dst v, s.H⟩) := by rw [hS]
theorem hRun_nil (K : Pend → St → Prop) (E : Pend) (s : St) : hRun P K [] E s = K E s := by rw [hRun]
theorem hRun_cons (K : Pend → St → Prop) (i : Nat) (a1 : Option Tmp) (a2 : Op) (a3 : TypeId) (a4 : String) (a5 : Array Edge) (a6 : Option (Nat × Bool)) (r : List (Nat × Oper)) (E : Pend) (s : St) :
  hRun P K ((i, ⟨a1, a2, a3, a4, a5, a6⟩) :: r) E s = hS P K i a2 a1 r E s (astep P s a2) := by
 rw [hRun]
 simp only
 refine propext ⟨?_, ?_⟩
 ·rintro ⟨v, hv, h⟩
  rw [hv, hS_some]
  exact ⟨rfl, h⟩
 ·intro h
  cases hr : astep P s a2 with
  | none => rw [hr] at h; exact h.elim
  | some q =>
   obtain ⟨v, H'⟩ := q
   rw [hr, hS_some] at h
   exact ⟨v, by rw [h.1], h.2⟩
def pickH (ops : Array Oper) : List Nat → List (Nat × Oper)
 | [] => []
 | i :: r => match ops[i]? with
  | some o => (i, o) :: pickH ops r
  | none => pickH ops r
theorem pickH_nil (ops : Array Oper) : pickH ops [] = [] := by rw [pickH]
def tagO (i : Nat) : Option Oper → List (Nat × Oper)
 | some o => [(i, o)]
 | none => []
theorem pickH_cons (ops : List Oper) (i : Nat) (r : List Nat) : pickH ops.toArray (i :: r) = tagO i ops[i]? ++ pickH ops.toArray r := by
 rw [pickH, List.getElem?_toArray]; cases ops[i]? <;> rfl
theorem tagO_some (i : Nat) (o : Oper) : tagO i (some o) = [(i, o)] := rfl
theorem segH_of_run {K : Pend → St → Prop} : ∀ (is : List Nat) (E : Pend) (s : St), hRun P K (pickH ops is) E s → segH P ops K is E s
 | [], E, s, hs => by rw [pickH_nil] at hs; exact hs
 | i :: r, E, s, hs => by
  simp only [pickH] at hs
  simp only [segH]
  cases ho : ops[i]? with
  | none => simp only [ho] at hs ⊢; exact segH_of_run r _ _ hs
  | some o =>
   simp only [ho, hRun] at hs ⊢
   obtain ⟨v, hv, hs⟩ := hs
   exact ⟨v, hv, segH_of_run r _ _ hs⟩
theorem th_ho {is : List Nat} {t : Th} {E : Pend} {s : St} (h : hRun P (fun E' s' => aTh P ops Q t false E' s') (pickH ops is) E s) : aTh P ops Q (.ho is t) false E s := segH_of_run is E s h
def keepM : List Bool → Pend → Pend
 | true :: m, e :: r => e :: keepM m r
 | false :: m, _ :: r => keepM m r
 | _, _ => []
theorem keepM_t (m : List Bool) (e : Nat × Op × AV) (r : Pend) : keepM (true :: m) (e :: r) = e :: keepM m r := rfl
theorem keepM_f (m : List Bool) (e : Nat × Op × AV) (r : Pend) : keepM (false :: m) (e :: r) = keepM m r := rfl
theorem keepM_n (m : List Bool) : keepM m [] = [] := by cases m <;> try rfl
                                                        rename_i b _; cases b <;> rfl
theorem th_stop {E : Pend} {s : St} (h1 : sty P s E) (h : Q s) : aTh P ops Q .stop false E s := ⟨h1, h⟩
theorem th_none {E : Pend} {s : St} : aTh P ops Q .stop true E s := trivial
theorem th_op {i : Nat} {keep : List Nat} {t : Th} {E : Pend} {s : St} (m : List Bool) (h1 : sty P s E) (he : keepE keep E = keepM m E) (h : aL P ops (aTh P ops Q t false (keepM m E)) (pickOps ops [i]) s) : aTh P ops Q (.op i keep t) false E s := by
 rw [← he] at h
 exact ⟨h1, segG_of_aL [i] s h⟩
theorem th_alt {i : Nat} {keep : List Nat} {t u : Th} {b : Bool} {E : Pend} {s : St} (m : List Bool) (h1 : sty P s E) (he : keepE keep E = keepM m E) (h : aL P ops (aTh P ops Q t false (keepM m E)) (pickOps ops [i]) s) (h2 : aTh P ops Q u true E s) : aTh P ops Q (.alt i keep t u) b E s := by
 rw [← he] at h
 cases b <;> exact ⟨h1, segG_of_aL [i] s h, h2⟩
/-- The same, with what is kept told by place. -/
def opm (i : Nat) (keep : List Nat) (m : List Bool) (t : Th) : Th := .op i keep t
def altm (i : Nat) (keep : List Nat) (m : List Bool) (t u : Th) : Th := .alt i keep t u
theorem th_opm {i : Nat} {keep : List Nat} {m : List Bool} {t : Th} {E : Pend} {s : St} (h1 : sty P s E) (he : keepE keep E = keepM m E) (h : aL P ops (aTh P ops Q t false (keepM m E)) (pickOps ops [i]) s) : aTh P ops Q (opm i keep m t) false E s := th_op m h1 he h
theorem th_altm {i : Nat} {keep : List Nat} {m : List Bool} {t u : Th} {b : Bool} {E : Pend} {s : St} (h1 : sty P s E) (he : keepE keep E = keepM m E) (h : aL P ops (aTh P ops Q t false (keepM m E)) (pickOps ops [i]) s) (h2 : aTh P ops Q u true E s) : aTh P ops Q (altm i keep m t u) b E s := th_alt m h1 he h h2
theorem sty_nil (s : St) : sty P s [] = True := by rw [sty]
theorem sty_cons (s : St) (i : Nat) (op : Op) (v : AV) (r : Pend) : sty P s ((i, op, v) :: r) = (astep P s op = some (v, s.H) ∧ sty P s r) := by rw [sty]
theorem addE_t (i : Nat) (op : Op) (v : AV) (E : Pend) : addE true i op v E = E := rfl
theorem addE_f (i : Nat) (op : Op) (v : AV) (E : Pend) : addE false i op v E = (i, op, v) :: E := rfl
attribute [go_sem] pickH_nil pickH_cons tagO_some keepM_t keepM_f keepM_n hS_some hRun_nil hRun_cons sty_nil sty_cons addE_t addE_f
end Go.Proofs.YtejnpiielcbkkaaGreat.E
end
section
namespace Go.Proofs.YtejnpiielcbkkaaGreat.E
variable {P : Program} {R R' : Nat → Prop} {w w' : World} {M M' : List Loc} {c : Array Value}
/-- A call of f at closed arguments ends, with an answer that is one of these. -/
def CallE {α : Type} (P : Program) (f : FuncId) (args : List A1) (ret : α → AV) (outs : α → List (Option T)) (S : α → Prop) : Prop :=
 callable P f = true ∧ ∀ (R : Nat → Prop) (w : World) (us : List Value) (F : FP), relAL R w [] args us F → Good R w F →
  Calls P f us.toArray w fun e w' => ∃ x, S x ∧ ∃ u R' F1 F2, e = .returned u ∧ relAV R' w' [] (ret x) u F1 ∧ relOs R' w' (outs x) us F2 ∧ Good R' w' (fa F1 F2) ∧ Fr R w F R' w' (fa F1 F2)
theorem CallE.of {α : Type} {f : FuncId} {args : List A1} {ret : α → AV} {outs : α → List (Option T)} {S : α → Prop} (x : α) (hx : S x) (h : CallOk P f args (ret x) (outs x)) : CallE P f args ret outs S :=
 ⟨h.1, fun R w us F ha hg => (h.2 R w us F ha hg).mono fun e w' hh => ⟨x, hx, hh⟩⟩
theorem callE_of_hcall {α : Type} {f : FuncId} {args : List A1} {ret : α → AV} {outs : α → List (Option T)} {S : α → Prop} (n : Nat)
  (h : HCall P f (nameAL args 0).1 (nameAL args 0).2 (fun r H' => ∃ x, S x ∧ EndK n (nameAL args 0).1 (ret x) (outs x) r H')) : CallE P f args ret outs S := by
 refine ⟨h.1, fun R w us F ha hg => ?_⟩
 have hH0 : relHeap R w [] [] [] fz := rfl
 obtain ⟨N, n1, n2⟩ := nameAL_sound ha hH0
 rw [z_fa] at n2
 simp only [List.nil_append, List.length_nil] at n1 n2
 refine (h.2 R w N us F n1 n2 hg).mono ?_
 rintro e w' ⟨u, r, H', R', N', F', rfl, ⟨x, hx, k1, k2⟩, g1, g2, g3, g4⟩
 obtain ⟨F1, FH', q1, q2, q3⟩ := fitAV_sound k1 g1 g2
 have n1' := relAL_mono (R' := R') (w' := w') (fun b hb => g4.sub b hb) (prefix_self N N') (fun b hb => Fr.ro_same hg g4 b (hb.resolve_right (by simp [fz]))) n1
 obtain ⟨F2, p1, p2⟩ := fitOs_sound k2 n1' q2
 have hle : leF (fa F1 F2) F' := fun b => by have := q3 b; have := p2 b; simp only [fa, fz] at *; omega
 exact ⟨x, hx, u, R', F1, F2, rfl, q1, p1, g3.le hle, g4.leq hle⟩
theorem hcall_of_callE {α : Type} {f : FuncId} {avs args : List A1} {H : List AObj} {ret : α → AV} {outs : α → List (Option T)} {S : α → Prop} {K : AV → List AObj → Prop} (n : Nat) (sn : Bool) (hc : CallE P f args ret outs S)
  (h1 : (takeAL n H avs args).1) (h2 : lookAL sn n (takeAL n H avs args).2 avs args) (h3 : ∀ x, S x → sn = true → noRoAV (ret x) = true ∧ (outs x).all noRoO = true) (h4 : ∀ x, S x → (backAL H (takeAL n H avs args).2 avs (outs x)).1)
  (hK : ∀ x, S x → K (nameAV (ret x) (backAL H (takeAL n H avs args).2 avs (outs x)).2.length).1 ((backAL H (takeAL n H avs args).2 avs (outs x)).2 ++ (nameAV (ret x) (backAL H (takeAL n H avs args).2 avs (outs x)).2.length).2)) : HCall P f avs H K := by
 refine ⟨hc.1, fun R w M us F ha hH hg => ?_⟩
 obtain ⟨F1, FH1, t1, t2, t3⟩ := takeAL_sound h1 ha hH
 have hF1 : ∀ b, F1 b ≤ F b ∧ FH1 b ≤ F b ∧ F1 b + FH1 b ≤ 1 := fun b => by have := t3 b; have := hg.one b; simp only [fa] at *; omega
 have l1 := lookAL_sound (Rc := fun b => R b ∨ (sn = true ∧ 1 ≤ FH1 b)) t2 (fun b hb => .inl hb) (fun hs b hb => .inr ⟨hs, hb⟩) h2 ha t1
 have hgc : Good (fun b => R b ∨ (sn = true ∧ 1 ≤ FH1 b)) w F1 := by
  refine ⟨fun b => by have := hF1 b; omega, fun b hb => ?_, fun b hb => ?_, hg.inv.mono (fun _ h => .inl h) (Nat.le_refl _) fun _ _ => rfl⟩
  ·have h5 := hg.own b (by have := hF1 b; omega)
   exact ⟨fun h => by rcases h with h | h; exact h5.1 h; have := hF1 b; omega, h5.2⟩
  ·rcases hb with hb | hb
   ·exact hg.ro b hb
   ·exact (hg.own b (by have := hF1 b; omega)).2
 refine (hc.2 _ w us F1 l1 hgc).mono ?_
 rintro e w' ⟨x, hx, u, R', G1, G2, rfl, g1, g2, g3, g4⟩
 have hF1R : ∀ b, R b → F1 b = 0 := fun b hb => by
  cases hz : F1 b with
  | zero => rfl
  | succ k => exact absurd (Or.inl hb) (hgc.own b (by omega)).1
 have hsame : ∀ b, R b ∨ 1 ≤ FH1 b → w'.heap[b]? = w.heap[b]? := fun b hb => by
  rcases hb with hb | hb
  ·exact g4.same b (hg.ro b hb) (hF1R b hb)
  ·exact g4.same b (hg.own b (by have := hF1 b; omega)).2 (by have := hF1 b; omega)
 have hR2 : ∃ R2 : Nat → Prop, (∀ b, R b → R2 b) ∧ (∀ b, R2 b → b < w'.heap.size) ∧ (∀ b, 1 ≤ FH1 b → ¬ R2 b) ∧ (∀ b, 1 ≤ (fa G1 G2) b → ¬ R2 b) ∧ (∀ b, R2 b → R b ∨ 1 ≤ F b ∨ w.heap.size ≤ b) ∧ relAV R2 w' [] (ret x) u G1 ∧ relOs R2 w' (outs x) us G2 := by
  cases sn with
  | true =>
   obtain ⟨n1, n2⟩ := h3 x hx rfl
   refine ⟨R, fun _ h => h, fun b hb => Nat.lt_of_lt_of_le (hg.ro b hb) g4.size, fun b hb => (hg.own b (by have := hF1 b; omega)).1, fun b hb h => (g3.own b hb).1 (g4.sub b (.inl h)), fun b hb => .inl hb, noRoAV_rel n1 g1, noRoOs_rel n2 g2⟩
  | false =>
   refine ⟨R', fun b hb => g4.sub b (.inl hb), g3.ro, fun b hb h => ?_, fun b hb => (g3.own b hb).1, fun b hb => ?_, g1, g2⟩
   ·rcases g4.ro b h with h5 | h5 | h5
    ·rcases h5 with h5 | h5
     ·exact (hg.own b (by have := hF1 b; omega)).1 h5
     ·simp at h5
    ·have := hF1 b; omega
    ·have := (hg.own b (by have := hF1 b; omega)).2; omega
   ·rcases g4.ro b hb with h5 | h5 | h5
    ·rcases h5 with h5 | h5
     ·exact .inl h5
     ·simp at h5
    ·exact .inr (.inl (by have := hF1 b; omega))
    ·exact .inr (.inr h5)
 obtain ⟨R2, r1, r2, r3, r4, r5, r6, r7⟩ := hR2
 have hHn := relHeap_mono (R' := R2) (w' := w') r1 (List.prefix_refl M) hsame t2
 have hlen : (takeAL n H avs args).2.length = H.length := by rw [relHeap_len hHn, relHeap_len hH]
 obtain ⟨FH2, b1, b2⟩ := backAL_sound (w := w') hH g4.shape (h4 x hx) hlen ha r7 hHn
 obtain ⟨N, m1, m2⟩ := nameAV_sound (relAV_mono (fun _ h => h) (nil_pre M) (fun _ _ => rfl) r6) b1
 have hle : ∀ b, (fa FH2 G1) b ≤ FH1 b + (fa G1 G2) b := fun b => by have := b2 b; simp only [fa] at *; omega
 have hdis : ∀ b, 1 ≤ FH1 b → (fa G1 G2) b = 0 := fun b hb => by
  cases hz : (fa G1 G2) b with
  | zero => rfl
  | succ k =>
   rcases g4.own b (by omega) with h5 | h5
   ·have := hF1 b; omega
   ·have := (hg.own b (by have := hF1 b; omega)).2; omega
 refine ⟨u, _, _, R2, N, _, rfl, hK x hx, m1, m2, ⟨fun b => ?_, fun b hb => ?_, r2, hg.inv.mono r1 g4.size fun b hb => hsame b (.inl hb)⟩, ⟨g4.os, g4.tape, g4.output, g4.size, fun b hb h0 => g4.same b hb (by have := hF1 b; omega), r1, fun b hb => ?_, r5, g4.shape⟩⟩
 ·have h5 := hle b
  by_cases h6 : 1 ≤ FH1 b
  ·have := hdis b h6
   have := hF1 b
   omega
  ·have := g3.one b
   omega
 ·have h5 := hle b
  by_cases h6 : 1 ≤ FH1 b
  ·exact ⟨r3 b h6, Nat.lt_of_lt_of_le (hg.own b (by have := hF1 b; omega)).2 g4.size⟩
  ·exact ⟨r4 b (by omega), (g3.own b (by omega)).2⟩
 ·have h5 := hle b
  by_cases h6 : 1 ≤ FH1 b
  ·exact .inl (by have := hF1 b; omega)
  ·rcases g4.own b (by omega) with h7 | h7
   ·exact .inl (by have := hF1 b; omega)
   ·exact .inr h7
end Go.Proofs.YtejnpiielcbkkaaGreat.E
end
section
namespace Go.Proofs.YtejnpiielcbkkaaGreat.E
theorem Weak.trans {k : Nat} {s s1 s2 : St} (h1 : Weak k s s1) (h2 : Weak k s1 s2) : Weak k s s2 := fun X a w hk hs => h2 X a w hk (h1 X a w hk hs)
theorem refsRows_app : ∀ xs ys : List (List T), refsRows (xs ++ ys) = refsRows xs ++ refsRows ys
 | [], ys => by simp [refsRows]
 | x :: xs, ys => by simp [refsRows, refsRows_app xs ys, List.append_assoc]
theorem renRows_app (f : Nat → Nat) : ∀ xs ys : List (List T), renRows f (xs ++ ys) = renRows f xs ++ renRows f ys
 | [], ys => by simp [renRows]
 | x :: xs, ys => by simp [renRows, renRows_app f xs ys]
theorem refs_repl {row : List T} (h : refsRow row = []) : ∀ n, refsRows (List.replicate n row) = []
 | 0 => by simp [refsRows]
 | n + 1 => by rw [List.replicate_succ]; simp [refsRows, h, refs_repl h n]
theorem ren_repl {f : Nat → Nat} {row : List T} (h : renRow f row = row) : ∀ n, renRows f (List.replicate n row) = List.replicate n row
 | 0 => by simp [renRows]
 | n + 1 => by rw [List.replicate_succ]; simp [renRows, h, ren_repl h n]
attribute [go_sem] ite_self
/-- A row of a named list that holds names of its own memory holds that memory itself. -/
theorem weak_fit {k : Nat} {s : St} (n l i sz : Nat) (rows : List (List T)) (row row' : List T) (hl : s.H[l]? = some (.live sz rows)) (hi : rows[i]? = some row) (hf : (fitRow n (s.H.set l .dead) row row').1) :
  Weak k s ⟨s.env, (fitRow n (s.H.set l .dead) row row').2.set l (.live sz (rows.set i row'))⟩ := by
 intro X a w hk hs
 obtain ⟨hd, R, M, F, hpre, henv, hH, hg, hfr⟩ := hs
 obtain ⟨L, F1, F2, hL, rfl, hobj, hput⟩ := relHeap_get hH hl
 have hkill := hput R w M .dead fz (fun _ h => h) (List.prefix_refl _) (fun _ _ => rfl) rfl
 rw [z_fa] at hkill
 obtain ⟨hLs, hobj⟩ := hobj
 rcases hobj with ⟨rfl, -⟩ | ⟨c, F', hB, hroom, hR, rfl⟩
 ·simp at hi
 obtain ⟨G1, G2, rfl, hlen, hrow, hback⟩ := relTRows_get hR hi
 obtain ⟨F1', FH', q1, q2, q3⟩ := fitRow_sound n _ row row' c _ G1 F2 hf hrow hkill
 have hll := fitRow_len n _ row row' hf
 have hnew := hback M c row' F1' (List.prefix_refl _) ⟨rfl, fun _ _ => rfl⟩ (by omega) (relTRow_mono (fun _ h => h) (nil_pre M) c row' _ F1' (fun _ _ => rfl) q1)
 have hlM : l < M.length := (List.getElem?_eq_some_iff.1 hL).1
 have hlf : l < (fitRow n (s.H.set l .dead) row row').2.length := by rw [relHeap_len q2]; exact hlM
 obtain ⟨L2, K1, K2, hL2, rfl, -, hput2⟩ := relHeap_get q2 (List.getElem?_eq_getElem hlf)
 rw [hL] at hL2
 simp only [Option.some.injEq] at hL2
 subst hL2
 have hfin := hput2 R w M (.live sz (rows.set i row')) (fa (fd L.b) (fa F1' G2)) (fun _ h => h) (List.prefix_refl _) (fun _ _ => rfl) ⟨hLs, .inr ⟨c, _, hB, by simpa using hroom, hnew, rfl⟩⟩
 have hle : ∀ b, (fa (fa (fd L.b) (fa F1' G2)) K2) b ≤ (fa (fa (fd L.b) (fa G1 G2)) F2) b := fun b => by
  have := q3 b
  simp only [fa] at this ⊢
  omega
 exact ⟨hd, R, M, _, hpre, henv, hfin, hg.le hle, hfr.le hle⟩
theorem weak_fit2 {k : Nat} {s s2 s' : St} (n l i sz : Nat) (rows : List (List T)) (row row' : List T) (hl : s.H[l]? = some (.live sz rows)) (hi : rows[i]? = some row) (hf : (fitRow n (s.H.set l .dead) row row').1) (he : (⟨s.env, (fitRow n (s.H.set l .dead) row row').2.set l (.live sz (rows.set i row'))⟩ : St) = s2) (h : Weak k s2 s') : Weak k s s' := by
 subst he; exact (weak_fit n l i sz rows row row' hl hi hf).trans h
end Go.Proofs.YtejnpiielcbkkaaGreat.E
end
section
namespace Go.Proofs.YtejnpiielcbkkaaGreat.E
variable {P : Program}
def foldT (H : List AObj) : T → T × List AObj
 | .ref l off len => match H[l]? with
  | some (.live sz rows) => if (closedRows ((rows.drop off).take len) && leB (off + len) rows.length) = true then (.own sz ((rows.drop off).take len), H.set l .dead) else (.ref l off len, H)
  | _ => (.ref l off len, H)
 | t => (t, H)
def foldRow : List AObj → List T → List T × List AObj
 | H, [] => ([], H)
 | H, t :: ts => ((foldT H t).1 :: (foldRow (foldT H t).2 ts).1, (foldRow (foldT H t).2 ts).2)
def foldO (H : List AObj) (l off len : Nat) : Option AObj → T × List AObj
 | some (.live sz rows) => if (closedRows ((rows.drop off).take len) && leB (off + len) rows.length) = true then (.own sz ((rows.drop off).take len), H.set l .dead) else (.ref l off len, H)
 | _ => (.ref l off len, H)
theorem foldT_ref (H : List AObj) (l off len : Nat) : foldT H (.ref l off len) = foldO H l off len (H[l]?) := by
 rw [foldT]
 rcases H[l]? with _ | (_ | ⟨sz, rows⟩) <;> rfl
theorem foldO_live (H : List AObj) (l off len sz : Nat) (rows : List (List T)) : foldO H l off len (some (.live sz rows)) = if (closedRows ((rows.drop off).take len) && leB (off + len) rows.length) = true then (.own sz ((rows.drop off).take len), H.set l .dead) else (.ref l off len, H) := rfl
theorem foldO_dead (H : List AObj) (l off len : Nat) : foldO H l off len (some .dead) = (.ref l off len, H) := rfl
theorem foldT_v (H : List AObj) (x : Value) : foldT H (.v x) = (.v x, H) := rfl
theorem foldT_own (H : List AObj) (sz : Nat) (rows : List (List T)) : foldT H (.own sz rows) = (.own sz rows, H) := rfl
theorem foldT_ro (H : List AObj) (sz : Nat) (rows : List (List D)) : foldT H (.ro sz rows) = (.ro sz rows, H) := rfl
attribute [go_sem] foldRow foldT_ref foldO_live foldO_dead foldT_v foldT_own foldT_ro
section
variable {R : Nat → Prop} {w : World} {M : List Loc} {c : Array Value}
theorem foldT_sound {H : List AObj} {t : T} {u : Value} {F FH : FP} (hr : relT R w M t u F) (hH : relHeap R w M H M FH) :
  ∃ F1 FH', relT R w M (foldT H t).1 u F1 ∧ relHeap R w M (foldT H t).2 M FH' ∧ leF (fa F1 FH') (fa F FH) := by
 cases t with
 | ref l off len =>
  rw [foldT_ref]
  rcases hl : H[l]? with _ | (_ | ⟨sz, rows⟩)
  ·exact ⟨F, FH, hr, hH, fun _ => Nat.le_refl _⟩
  ·exact ⟨F, FH, hr, hH, fun _ => Nat.le_refl _⟩
  ·rw [foldO_live]
   split
   ·rename_i hc
    simp only [Bool.and_eq_true] at hc
    have hf : (fitT 2 H (.ref l off len) (.own sz ((rows.drop off).take len))).1 := by
     rw [fitT_ref, hl]
     refine ⟨rfl, leB_le hc.2, ?_⟩
     rw [fitRows_eq, if_pos hc.1]
    have h2 : (fitT 2 H (.ref l off len) (.own sz ((rows.drop off).take len))).2 = H.set l .dead := by
     rw [fitT_ref, hl]
     show (fitRows 1 _ _ _).2 = _
     rw [fitRows_eq, if_pos hc.1]
    obtain ⟨F1, FH', q1, q2, q3⟩ := fitT_sound 2 H _ _ u F FH hf hr hH
    rw [h2] at q2
    exact ⟨F1, FH', relT_mono (fun _ h => h) (nil_pre M) _ u F1 (fun _ _ => rfl) q1, q2, q3⟩
   ·exact ⟨F, FH, hr, hH, fun _ => Nat.le_refl _⟩
 | _ => exact ⟨F, FH, hr, hH, fun _ => Nat.le_refl _⟩
theorem foldRow_sound : ∀ (ts : List T) (H : List AObj) (o : Nat) (F FH : FP), relTRow R w M c ts o F → relHeap R w M H M FH →
  ∃ F1 FH', relTRow R w M c (foldRow H ts).1 o F1 ∧ relHeap R w M (foldRow H ts).2 M FH' ∧ leF (fa F1 FH') (fa F FH)
 | [], H, o, F, FH, hr, hH => ⟨F, FH, hr, hH, fun _ => Nat.le_refl _⟩
 | t :: ts, H, o, F, FH, hr, hH => by
  simp only [relTRow] at hr
  obtain ⟨u, F1, F2, h1, h2, h3, rfl⟩ := hr
  obtain ⟨G1, GH, q1, q2, q3⟩ := foldT_sound h2 hH
  obtain ⟨G2, GH2, p1, p2, p3⟩ := foldRow_sound ts _ (o + 1) F2 GH h3 q2
  refine ⟨fa G1 G2, GH2, ⟨u, G1, G2, h1, q1, p1, rfl⟩, p2, fun b => ?_⟩
  have := q3 b
  have := p3 b
  simp only [fa] at *
  omega
theorem foldRow_len : ∀ (ts : List T) (H : List AObj), (foldRow H ts).1.length = ts.length
 | [], _ => rfl
 | t :: ts, H => by simp [foldRow, foldRow_len ts]
end
/-- A memory that says no more than another, of the same place. -/
def Folds (H H2 : List AObj) : Prop := ∀ (R : Nat → Prop) (w : World) (M : List Loc) (F : FP), relHeap R w M H M F → ∃ F2, relHeap R w M H2 M F2 ∧ leF F2 F
theorem Folds.refl (H : List AObj) : Folds H H := fun R w M F h => ⟨F, h, fun _ => Nat.le_refl _⟩
theorem Folds.trans {H1 H2 H3 : List AObj} (h : Folds H1 H2) (k : Folds H2 H3) : Folds H1 H3 := fun R w M F hh => by
 obtain ⟨F2, h1, h2⟩ := h R w M F hh
 obtain ⟨F3, h3, h4⟩ := k R w M F2 h1
 exact ⟨F3, h3, fun b => Nat.le_trans (h4 b) (h2 b)⟩
theorem folds_row {H : List AObj} {l i sz : Nat} {rows : List (List T)} {row : List T} (hl : H[l]? = some (.live sz rows)) (hi : rows[i]? = some row) :
  Folds H ((foldRow (H.set l .dead) row).2.set l (.live sz (rows.set i (foldRow (H.set l .dead) row).1))) := by
 intro R w M F hH
 obtain ⟨L, F1, F2, hL, rfl, hobj, hput⟩ := relHeap_get hH hl
 have hkill := hput R w M .dead fz (fun _ h => h) (List.prefix_refl _) (fun _ _ => rfl) rfl
 rw [z_fa] at hkill
 obtain ⟨hLs, hobj⟩ := hobj
 rcases hobj with ⟨rfl, -⟩ | ⟨c, F', hB, hroom, hR, rfl⟩
 ·simp at hi
 obtain ⟨G1, G2, rfl, hlen, hrow, hback⟩ := relTRows_get hR hi
 obtain ⟨F1', FH', q1, q2, q3⟩ := foldRow_sound row (H.set l .dead) _ G1 F2 hrow hkill
 have hll := foldRow_len row (H.set l .dead)
 have hnew := hback M c _ F1' (List.prefix_refl _) ⟨rfl, fun _ _ => rfl⟩ (by omega) q1
 have hlM : l < M.length := (List.getElem?_eq_some_iff.1 hL).1
 have hlf : l < (foldRow (H.set l .dead) row).2.length := by rw [relHeap_len q2]; exact hlM
 obtain ⟨L2, K1, K2, hL2, rfl, -, hput2⟩ := relHeap_get q2 (List.getElem?_eq_getElem hlf)
 rw [hL] at hL2
 simp only [Option.some.injEq] at hL2
 subst hL2
 have hfin := hput2 R w M (.live sz (rows.set i (foldRow (H.set l .dead) row).1)) (fa (fd L.b) (fa F1' G2)) (fun _ h => h) (List.prefix_refl _) (fun _ _ => rfl) ⟨hLs, .inr ⟨c, _, hB, by simpa using hroom, hnew, rfl⟩⟩
 refine ⟨_, hfin, fun b => ?_⟩
 have := q3 b
 simp only [fa] at this ⊢
 omega
theorem folds_set {H : List AObj} {o : AObj} (l : Nat) {k sz : Nat} {A : List (List T)} {row : List T} (hl : H[l]? = some o) (ho : o = .live sz (A.set k row)) (hk : k < A.length) :
  Folds H ((foldRow (H.set l .dead) row).2.set l (.live sz (A.set k (foldRow (H.set l .dead) row).1))) := by
 subst ho
 have := folds_row (i := k) (row := row) hl (by simp [hk])
 rwa [List.set_set] at this
theorem folds_app {H : List AObj} {o : AObj} (l : Nat) {sz : Nat} {A : List (List T)} {row : List T} (hl : H[l]? = some o) (ho : o = .live sz (A ++ [row])) :
  Folds H ((foldRow (H.set l .dead) row).2.set l (.live sz (A ++ [(foldRow (H.set l .dead) row).1]))) := by
 subst ho
 have := folds_row (i := A.length) (row := row) hl (by simp)
 rwa [List.set_append_right _ _ (by omega), Nat.sub_self, List.set_cons_zero] at this
theorem folds_setc {H : List AObj} {o : AObj} (l : Nat) {k sz : Nat} {A : List (List T)} {row : List T} (hl : H[l]? = some o) (ho : o = .live sz (A.set k row)) (hc : closedRow row = false) (hk : k < A.length) :
  Folds H ((foldRow (H.set l .dead) row).2.set l (.live sz (A.set k (foldRow (H.set l .dead) row).1))) := folds_set l hl ho hk
theorem folds_appc {H : List AObj} {o : AObj} (l : Nat) {sz : Nat} {A : List (List T)} {row : List T} (hl : H[l]? = some o) (ho : o = .live sz (A ++ [row])) (hc : closedRow row = false) :
  Folds H ((foldRow (H.set l .dead) row).2.set l (.live sz (A ++ [(foldRow (H.set l .dead) row).1]))) := folds_app l hl ho
theorem hFo {f : FuncId} {avs : List A1} {H H2 : List AObj} {K : AV → List AObj → Prop} (hf : Folds H H2) (h : HCall P f avs H2 K) : HCall P f avs H K := by
 refine ⟨h.1, fun R w M us F h1 h2 h3 => ?_⟩
 obtain ⟨F2, g1, g2⟩ := hf R w M F h2
 refine (h.2 R w M us F2 h1 g1 (h3.le g2)).mono ?_
 rintro e w' ⟨u, ret, H', R', N, F', k1, k2, k3, k4, k5, k6⟩
 exact ⟨u, ret, H', R', N, F', k1, k2, k3, k4, k5, (Fr.leq (Fr.refl R w F) g2).trans k6⟩
theorem weak_folds {k : Nat} {env : List AV} {H H2 : List AObj} {s' : St} (hf : Folds H H2) (h : Weak k ⟨env, H2⟩ s') : Weak k ⟨env, H⟩ s' := by
 intro X a w hk hs
 obtain ⟨hd, R, M, F, hpre, henv, hH, hg, hfr⟩ := hs
 obtain ⟨F2, g1, g2⟩ := hf R w M F hH
 exact h X a w hk ⟨hd, R, M, F2, hpre, henv, g1, hg.le g2, hfr.le g2⟩
/-- The end of a call, once some memory was taken back. -/
def EndF (n : Nat) (avs : List A1) (ret : AV) (outs : List (Option T)) (r : AV) (H' : List AObj) : Prop := ∃ H2, Folds H' H2 ∧ EndK n avs ret outs r H2
theorem endF_k {n : Nat} {avs : List A1} {ret r : AV} {outs : List (Option T)} {H : List AObj} (h : EndK n avs ret outs r H) : EndF n avs ret outs r H := ⟨H, .refl H, h⟩
theorem endF_folds {n : Nat} {avs : List A1} {ret r : AV} {outs : List (Option T)} {H H2 : List AObj} (hf : Folds H H2) (h : EndF n avs ret outs r H2) : EndF n avs ret outs r H := by
 obtain ⟨H3, h1, h2⟩ := h
 exact ⟨H3, hf.trans h1, h2⟩
theorem callOk_of_hcallF {f : FuncId} {args : List A1} {ret : AV} {outs : List (Option T)} (n : Nat)
  (h : HCall P f (nameAL args 0).1 (nameAL args 0).2 (EndF n (nameAL args 0).1 ret outs)) : CallOk P f args ret outs := by
 refine ⟨h.1, fun R w us F ha hg => ?_⟩
 have hH0 : relHeap R w [] [] [] fz := rfl
 obtain ⟨N, n1, n2⟩ := nameAL_sound ha hH0
 rw [z_fa] at n2
 simp only [List.nil_append, List.length_nil] at n1 n2
 refine (h.2 R w N us F n1 n2 hg).mono ?_
 rintro e w' ⟨u, r, H', R', N', F', rfl, ⟨H2, hfo, k1, k2⟩, g1, g2, g3, g4⟩
 obtain ⟨F'', g2', hle2⟩ := hfo R' w' _ F' g2
 obtain ⟨F1, FH', q1, q2, q3⟩ := fitAV_sound k1 g1 g2'
 have n1' := relAL_mono (R' := R') (w' := w') (fun b hb => g4.sub b hb) (prefix_self N N') (fun b hb => Fr.ro_same hg g4 b (hb.resolve_right (by simp [fz]))) n1
 obtain ⟨F2, p1, p2⟩ := fitOs_sound k2 n1' q2
 have hle : leF (fa F1 F2) F' := fun b => by have := q3 b; have := p2 b; have := hle2 b; simp only [fa, fz] at *; omega
 exact ⟨u, R', F1, F2, rfl, q1, p1, g3.le hle, g4.leq hle⟩
end Go.Proofs.YtejnpiielcbkkaaGreat.E
end
section
namespace Go.Proofs.YtejnpiielcbkkaaGreat.E
variable {P : Program}
/-- A way, told by what it does. -/
def SCode (P : Program) (k : Nat) (c : Code) (Q : Ex → St → Prop) (s : St) : Prop := ∀ (X : Ctx) (a : Act) (w : World), X.M0.length = k → SimS X s a w → c.wp P (post X Q) a w
theorem s_of_a {k : Nat} {c : Code} {Q : Ex → St → Prop} {s : St} (h : aCode P k c Q s) : SCode P k c Q s := fun X a w hk hs => aCode_sound hk c Q s a w h hs
theorem s_weak {k : Nat} {c : Code} {Q : Ex → St → Prop} {s s1 : St} (h : Weak k s s1) (h1 : SCode P k c Q s1) : SCode P k c Q s := fun X a w hk hs => h1 X a w hk (h X a w hk hs)
theorem s_seq {k : Nat} {x y : Code} {Q : Ex → St → Prop} {s : St} (h : SCode P k x (fun e s' => match e with | .normal => SCode P k y Q s' | .exit i => Q (.exit i) s' | .ret => Q .ret s') s) : SCode P k (.seq x y) Q s := by
 intro X a w hk hs
 refine wp_seq (wp_mono (h X a w hk hs) ?_)
 intro e a' w' hp
 cases e <;> simp only [post] at hp <;> try exact hp.elim
 ·obtain ⟨s', h1, h2⟩ := hp
  exact h1 X a' w' hk h2
 ·exact hp
 ·exact hp
/-- Cut a way in two: the first part comes to what s1 says. -/
theorem s_cut {k : Nat} {x y : Code} {Q : Ex → St → Prop} {s : St} (s1 : St) (h : aCode P k x (fun e s' => match e with | .normal => Weak k s' s1 | .exit i => Q (.exit i) s' | .ret => Q .ret s') s) (h1 : SCode P k y Q s1) : SCode P k (.seq x y) Q s := by
 intro X a w hk hs
 refine wp_seq (wp_mono (aCode_sound hk x _ s a w h hs) ?_)
 intro e a' w' hp
 cases e <;> simp only [post] at hp <;> try exact hp.elim
 ·obtain ⟨s', g1, g2⟩ := hp
  exact h1 X a' w' hk (g1 X a' w' hk g2)
 ·exact hp
 ·exact hp
theorem hcall_of_bodyS {f : FuncId} {fn : Func} {c : Code} {avs : List A1} {H : List AObj} {K : AV → List AObj → Prop} (hf : P.funcs[f]? = some fn) (hb : fn.body = some c) (hc : callable P f = true)
  (h : SCode P H.length c (onRet (aRes P fn.results K)) ⟨avs.map AV.s ++ List.replicate (fn.ntmps - avs.length) (.s .any), H⟩) : HCall P f avs H K := by
 refine ⟨hc, fun R w M us F ha hH hg => ?_⟩
 have hlen := relAL_len ha
 refine calls_of_wp hf hb ?_
 refine wp_mono (h ⟨R, w, M, F⟩ { tmps := us.toArray ++ Array.replicate (fn.ntmps - us.toArray.size) undef, defers := [] } w (relHeap_len hH).symm ⟨rfl, R, M, F, List.prefix_refl _, ⟨by simp [hlen], fun i av hi => ?_⟩, hH, hg, Fr.refl _ _ _⟩) ?_
 ·by_cases hi2 : i < avs.length
  ·rw [List.getElem?_append_left (by simpa using hi2)] at hi
   rw [List.getElem?_map] at hi
   cases hx : avs[i]? with
   | none => simp [hx] at hi
   | some a =>
    simp only [hx, Option.map_some, Option.some.injEq] at hi
    subst hi
    obtain ⟨u, h1, h2⟩ := relAL_get ha hx
    have hu : (us.toArray ++ Array.replicate (fn.ntmps - us.toArray.size) undef).getD i undef = u := by
     simp only [Array.getD_eq_getD_getElem?]
     rw [Array.getElem?_append, if_pos (by simp; omega)]
     simp [h1]
    simp only
    rw [hu]
    exact h2
  ·rw [List.getElem?_append_right (by simpa using hi2)] at hi
   rw [List.getElem?_replicate] at hi
   split at hi
   ·simp only [Option.some.injEq] at hi
    subst hi
    exact relAV_any _
   ·simp at hi
 ·have key : ∀ (s : St) (a : Act) (w' : World), aRes P fn.results K s → SimS ⟨R, w, M, F⟩ s a w' → a.defers = [] ∧ ∃ v, (results fn a.tmps).run P w' = .ok v w' ∧ ∃ u ret H' R' N F', Ending.returned v = .returned u ∧ K ret H' ∧ relAV R' w' (M ++ N) ret u fz ∧ relHeap R' w' (M ++ N) H' (M ++ N) F' ∧ Good R' w' F' ∧ Fr R w F R' w' F' := by
   intro s a w' hs hsim
   obtain ⟨hd, R', M', F', ⟨N, rfl⟩, henv, hH', hg', hfr⟩ := hsim
   refine ⟨hd, ?_⟩
   unfold aRes at hs
   split at hs
   ·rename_i as_ H2 hr
    obtain ⟨vs, N2, r1, r2, r3⟩ := resA_sound (P := P) hr henv hH'
    have hres : (results fn a.tmps).run P w' = .ok (if h : vs.toArray.size = 1 then vs.toArray[0] else .tuple vs.toArray) w' := by
     rw [results_eq]
     have : (fn.results.mapM (resOne a.tmps)).run P w' = .ok vs.toArray w' := by
      rw [Array.mapM_eq_mapM_toList]
      simp only [Sem.run_map, r1, Result.andThen_ok]
     simp only [Sem.run_bind, this, Result.andThen_ok, Sem.run_pure]
    have hl2 := relAL_len r2
    refine ⟨_, hres, _, retOf as_, H2, R', N ++ N2, F', rfl, hs, ?_, by rw [← List.append_assoc]; exact r3, hg', hfr⟩
    rw [← List.append_assoc]
    by_cases h1 : vs.length = 1
    ·obtain ⟨v, rfl⟩ := List.length_eq_one_iff.1 h1
     obtain ⟨a1, rfl⟩ := List.length_eq_one_iff.1 (hl2.trans h1)
     obtain ⟨F1, F2, g1, g2, he⟩ := r2
     obtain ⟨rfl, rfl⟩ := fz_split he
     simpa [retOf, relAV] using g1
    ·have hret : retOf as_ = .tup as_ := by
      unfold retOf
      split
      ·simp at hl2; omega
      ·rfl
     rw [hret, dif_neg (by simpa using h1)]
     exact ⟨vs, rfl, r2⟩
   ·exact hs.elim
  intro e a' w' hp
  cases e <;> simp only [post] at hp <;> try exact hp.elim
  ·obtain ⟨s, h1, h2⟩ := hp
   exact key s a' w' h1 h2
  ·obtain ⟨s, h1, h2⟩ := hp
   exact h1.elim
  ·obtain ⟨s, h1, h2⟩ := hp
   exact key s a' w' h1 h2
end Go.Proofs.YtejnpiielcbkkaaGreat.E
end
section
namespace Go.Proofs.YtejnpiielcbkkaaGreat.E
variable {P : Program}
/-- A memory with more names, that says no more than another. -/
def Names (H H2 : List AObj) : Prop := ∀ (R : Nat → Prop) (w : World) (M : List Loc) (F : FP), relHeap R w M H M F → ∃ N F2, relHeap R w (M ++ N) H2 (M ++ N) F2 ∧ leF F2 F
theorem Names.refl (H : List AObj) : Names H H := fun R w M F h => ⟨[], F, by simpa using h, fun _ => Nat.le_refl _⟩
theorem Names.trans {H1 H2 H3 : List AObj} (h : Names H1 H2) (k : Names H2 H3) : Names H1 H3 := fun R w M F hh => by
 obtain ⟨N1, F2, h1, h2⟩ := h R w M F hh
 obtain ⟨N2, F3, h3, h4⟩ := k R w (M ++ N1) F2 h1
 exact ⟨N1 ++ N2, F3, by rw [← List.append_assoc]; exact h3, fun b => Nat.le_trans (h4 b) (h2 b)⟩
theorem Folds.names {H H2 : List AObj} (h : Folds H H2) : Names H H2 := fun R w M F hh => by
 obtain ⟨F2, h1, h2⟩ := h R w M F hh
 exact ⟨[], F2, by simpa using h1, h2⟩
theorem names_row {H : List AObj} (l i : Nat) {sz : Nat} {rows : List (List T)} {row : List T} (hl : H[l]? = some (.live sz rows)) (hi : rows[i]? = some row) :
  Names H (H.set l (.live sz (rows.set i (nameRow row H.length).1)) ++ (nameRow row H.length).2) := by
 intro R w M F hH
 obtain ⟨L, F1, F2, hL, rfl, hobj, hput⟩ := relHeap_get hH hl
 have hlM : l < M.length := (List.getElem?_eq_some_iff.1 hL).1
 have hlt : l < H.length := (List.getElem?_eq_some_iff.1 hl).1
 have hkill := hput R w M .dead fz (fun _ h => h) (List.prefix_refl _) (fun _ _ => rfl) rfl
 rw [z_fa] at hkill
 obtain ⟨hLs, hobj⟩ := hobj
 rcases hobj with ⟨rfl, -⟩ | ⟨c, F', hB, hroom, hR, rfl⟩
 ·simp at hi
 obtain ⟨G1, G2, rfl, hlen, hrow, hback⟩ := relTRows_get hR hi
 obtain ⟨N, n1, n2⟩ := nameRow_sound hrow hkill
 rw [List.length_set] at n1 n2
 have hnew := hback (M ++ N) c _ fz (prefix_self M N) ⟨rfl, fun _ _ => rfl⟩ (by rw [nameRow_len]; exact hlen) n1
 have hdead : (H.set l .dead ++ (nameRow row H.length).2)[l]? = some .dead := by
  rw [List.getElem?_append_left (by simpa using hlt)]
  simp [hlt]
 obtain ⟨L2, K1, K2, hL2, hK, hobj2, hput2⟩ := relHeap_get n2 hdead
 rw [List.getElem?_append_left hlM, hL] at hL2
 simp only [Option.some.injEq] at hL2
 subst hL2
 have hK1 : K1 = fz := hobj2
 subst hK1
 rw [z_fa] at hK
 have hfin := hput2 R w (M ++ N) (.live sz (rows.set i (nameRow row H.length).1)) (fa (fd L.b) (fa fz G2)) (fun _ h => h) (List.prefix_refl _) (fun _ _ => rfl) ⟨hLs, .inr ⟨c, _, hB, by simpa using hroom, hnew, rfl⟩⟩
 have hset : (H.set l .dead ++ (nameRow row H.length).2).set l (.live sz (rows.set i (nameRow row H.length).1)) = H.set l (.live sz (rows.set i (nameRow row H.length).1)) ++ (nameRow row H.length).2 := by
  rw [List.set_append_left _ _ (by simpa using hlt), List.set_set]
 rw [hset] at hfin
 refine ⟨N, _, hfin, fun b => ?_⟩
 have := congrFun hK b
 simp only [fa, fz] at this ⊢
 omega
/-- A row of a list, named. -/
theorem names_at {H : List AObj} {o : AObj} (l i : Nat) {sz : Nat} {rows : List (List T)} (row : List T) (hl : H[l]? = some o) (ho : o = .live sz rows) (hi : rows[i]? = some row) :
  Names H (H.set l (.live sz (rows.set i (nameRow row H.length).1)) ++ (nameRow row H.length).2) := by
 subst ho
 exact names_row l i hl hi
theorem hcall_names {f : FuncId} {avs : List A1} {H H2 : List AObj} {K : AV → List AObj → Prop} (hf : Names H H2) (h : HCall P f avs H2 K) : HCall P f avs H K := by
 refine ⟨h.1, fun R w M us F h1 h2 h3 => ?_⟩
 obtain ⟨N1, F2, g1, g2⟩ := hf R w M F h2
 refine (h.2 R w (M ++ N1) us F2 (relAL_mono (fun _ h => h) (prefix_self M N1) (fun _ _ => rfl) h1) g1 (h3.le g2)).mono ?_
 rintro e w' ⟨u, ret, H', R', N, F', k1, k2, k3, k4, k5, k6⟩
 rw [List.append_assoc] at k3 k4
 exact ⟨u, ret, H', R', N1 ++ N, F', k1, k2, k3, k4, k5, (Fr.leq (Fr.refl R w F) g2).trans k6⟩
theorem weak_names {k : Nat} {env : List AV} {H H2 : List AObj} {s' : St} (hf : Names H H2) (h : Weak k ⟨env, H2⟩ s') : Weak k ⟨env, H⟩ s' := by
 intro X a w hk hs
 obtain ⟨hd, R, M, F, hpre, henv, hH, hg, hfr⟩ := hs
 obtain ⟨N, F2, g1, g2⟩ := hf R w M F hH
 exact h X a w hk ⟨hd, R, M ++ N, F2, hpre.trans (prefix_self M N), relEnv_mono (fun _ h => h) (prefix_self M N) (fun _ _ => rfl) henv, g1, hg.le g2, hfr.le g2⟩
theorem s_names {k : Nat} {c : Code} {Q : Ex → St → Prop} {env : List AV} {H H2 : List AObj} (hf : Names H H2) (h : SCode P k c Q ⟨env, H2⟩) : SCode P k c Q ⟨env, H⟩ := s_weak (weak_names hf (Weak.refl _ _)) h
end Go.Proofs.YtejnpiielcbkkaaGreat.E
end
section
namespace Go.Proofs.YtejnpiielcbkkaaGreat.E
variable {P : Program}
def ImpE (K Q : Ex → St → Prop) : Prop := ∀ e s, K e s → Q e s
theorem ImpE.go {K Q : Ex → St → Prop} {e : Ex} {s : St} (h : ImpE K Q) (hk : K e s) : Q e s := h e s hk
theorem i_hide {k : Nat} {c : Code} {Q : Ex → St → Prop} {s : St} (h : ∀ Q' : Ex → St → Prop, ImpE Q Q' → aCode P k c Q' s) : aCode P k c Q s := h Q fun _ _ h => h
end Go.Proofs.YtejnpiielcbkkaaGreat.E
end
