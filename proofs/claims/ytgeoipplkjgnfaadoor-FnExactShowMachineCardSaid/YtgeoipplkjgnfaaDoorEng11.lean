/- The abstract memory: an operation's step holds in every world. No condition beside those that stand in each statement. -/
import Derived.Test.YtgeoipplkjgnfaaDoorEng10
set_option linter.unusedVariables false
set_option linter.unusedSimpArgs false
namespace Go.Proofs.YtgeoipplkjgnfaaDoor.E
variable {P : Program} {R R' : Nat → Prop} {w w' : World} {M M' : List Loc} {c : Array Value}

def relEnv (R : Nat → Prop) (w : World) (M : List Loc) (env : List AV) (tmps : Array Value) : Prop :=
  env.length = tmps.size ∧ ∀ (i : Nat) (av : AV), env[i]? = some av → relAV R w M av (tmps.getD i undef) fz
theorem relAV_any (u : Value) : relAV R w M (.s .any) u fz := rfl
theorem all_scal {c : Array Value} (h : c.toList.all scal = true) : relTRow R w M c (c.toList.map T.v) 0 fz := scal_row h (fun j hj => by simp)
theorem cv_sound (v : Value) : relAV R w M (cv v) v fz := by
  unfold cv
  split
  · rename_i cs
    split
    · rename_i h
      exact ⟨cs, rfl, by simp, all_scal h⟩
    · exact relAV_any _
  · split
    · rename_i h
      simp [relAV, relA1, relT, h]
    · exact relAV_any _
theorem ev_sound {s : St} {a : Act} (h : relEnv R w M s.env a.tmps) (x : Operand) : relAV R w M (ev s x) (a.eval x) fz := by
  cases x with
  | tmp t =>
    simp only [ev, Act.eval, List.getD]
    cases he : s.env[t]? with
    | none => exact relAV_any _
    | some av => exact h.2 t av he
  | const v => exact cv_sound v
  | global g => exact relAV_any _
  | func f =>
    simp only [ev, Act.eval, relAV, relA1, relT]
    exact ⟨trivial, #[], rfl, rfl, by simp [relTRow]⟩
theorem one_rel {av : AV} {t : T} {u : Value} (h : one? av = some t) (hr : relAV R w M av u fz) : relT R w M t u fz := by
  unfold one? at h
  split at h
  · simp only [Option.some.injEq] at h; subst h; exact hr
  · simp at h
theorem a1_rel {av : AV} {u : Value} (hr : relAV R w M av u fz) : relA1 R w M (a1? av) u fz := by
  cases av with
  | s a => exact hr
  | tup as_ => rfl
theorem val_rel {av : AV} {x u : Value} (h : val? av = some x) (hr : relAV R w M av u fz) : u = x ∧ scal x = true := by
  unfold val? at h
  split at h
  · simp only [Option.some.injEq] at h; subst h
    simp only [relAV, relA1, relT] at hr
    exact ⟨hr.1, hr.2.1⟩
  · simp at h
theorem int_rel {av : AV} {n : Int} {u : Value} (h : int? av = some n) (hr : relAV R w M av u fz) : ∃ k, u = .int k n := by
  unfold int? at h
  split at h
  · rename_i k m
    simp only [Option.some.injEq] at h; subst h
    simp only [relAV, relA1, relT] at hr
    exact ⟨k, hr.1⟩
  · simp at h
theorem bool_rel {av : AV} {b : Bool} {u : Value} (h : bool? av = some b) (hr : relAV R w M av u fz) : u = .bool b := by
  unfold bool? at h
  split at h
  · simp only [Option.some.injEq] at h; subst h
    simp only [relAV, relA1, relT] at hr
    exact hr.1
  · simp at h

/-- What a step promises. -/
def Ok (P : Program) (R : Nat → Prop) (w : World) (M : List Loc) (F : FP) (o : Oper) (a : Act) (av : AV) (H' : List AObj) : Prop :=
  ∃ w' N F', ((∃ u, (execOp a.eval o).run P w = .ok (.value u) w' ∧ relAV R w' (M ++ N) av u fz) ∨ ((execOp a.eval o).run P w = .ok .skip w' ∧ av = .s .any)) ∧ relHeap R w' (M ++ N) H' (M ++ N) F' ∧ Good R w' F' ∧ Fr R w F R w' F'
section
variable {o : Oper} {a : Act} {F : FP} {H H' : List AObj} {av : AV} {u : Value} {s : St}
theorem Ok.keep (hr : (execOp a.eval o).run P w = .ok (.value u) w) (h : relAV R w M av u fz) (hH : relHeap R w M H M F) (hg : Good R w F) : Ok P R w M F o a av H :=
  ⟨w, [], F, .inl ⟨u, hr, by simpa using h⟩, by simpa using hH, hg, Fr.refl _ _ _⟩
/-- What an operation that gives a value does. -/
theorem exec_v {sv : Sem Value} {w1 : World} (he : execOp a.eval o = (do pure (.value (← sv)))) (hr : sv.run P w = .ok u w1) : (execOp a.eval o).run P w = .ok (.value u) w1 := by
  rw [he]
  simp [hr]
theorem abin_sound {op : BinOp} {x y z : Value} (h : abin op x y = some z) (t : TypeId) (p q : Operand) : (do eqGuard op t p q x y; binOp op t x y : Sem Value).run P w = .ok z w ∧ scal z = true := by
  unfold abin at h
  split at h
  all_goals first
    | (simp at h; done)
    | (split at h
       · rename_i hc
         simp only [Option.some.injEq] at h
         subst h
         refine ⟨?_, rfl⟩
         first
           | (obtain ⟨rfl, hc⟩ := hc; simp [eqGuard, binOp, Op.intDiv, hc]; done)
           | (subst hc; simp [eqGuard, binOp, Op.intArith, Op.intBits, Op.intCmp]; done)
       · simp at h)
    | skip
  case h_1 =>
    split at h
    · rename_i hc
      simp only [Option.some.injEq] at h
      subst h
      refine ⟨?_, rfl⟩
      have hc' : ¬ _ := Int.not_lt.2 hc
      simp [eqGuard, binOp, Op.shift, hc']
    · simp at h
  case h_2 =>
    split at h
    · rename_i hc
      simp only [Option.some.injEq] at h
      subst h
      refine ⟨?_, rfl⟩
      have hc' : ¬ _ := Int.not_lt.2 hc
      simp [eqGuard, binOp, Op.shift, hc']
    · simp at h
  case h_16 x y =>
    split at h
    · rename_i hc
      simp only [Option.some.injEq] at h
      subst h
      refine ⟨?_, rfl⟩
      have hc' : ¬ (((x.size + y.size : Nat) : Int) > IntKind.i64.max) := by
        have : IntKind.i64.max = 9223372036854775807 := by decide
        omega
      simp only [eqGuard, binOp, Op.stringOp, hc', if_false]
      rfl
    · simp at h
  case h_17 =>
    simp only [Option.some.injEq] at h
    subst h
    exact ⟨rfl, rfl⟩
  case h_18 =>
    simp only [Option.some.injEq] at h
    subst h
    exact ⟨rfl, rfl⟩
theorem isBoolT_ty {t : TypeId} (h : isBoolT P t = true) : P.underlying t = some .bool := by
  unfold isBoolT at h
  split at h
  · rename_i i hi
    obtain ⟨d, j, z, h1, h2, h3, h4, -⟩ := ti_some hi
    rw [h1]
    rw [h4] at h
    cases d <;> simp only [kindOf] at h
    case bool => rfl
    case struct fs =>
      cases hm : fs.toList.mapM (fieldInfo P) <;> (rw [hm] at h; cases h)
    all_goals cases h
  · cases h
theorem run_equal_bool {t : TypeId} (h : isBoolT P t = true) (x y : Bool) : (Op.equal t (.bool x) (.bool y)).run P w = .ok (x == y) w := by
  have hu := isBoolT_ty h
  show (Op.equalIn (9999 + 1) t (.bool x) (.bool y)).run P w = _
  unfold Op.equalIn
  simp [underlying, hu]
theorem abinT_sound {op : BinOp} {x y z : Value} {t : TypeId} (h : abinT P t op x y = some z) (p q : Operand) : (do eqGuard op t p q x y; binOp op t x y : Sem Value).run P w = .ok z w ∧ scal z = true := by
  unfold abinT at h
  split at h
  · split at h
    · rename_i hb
      simp only [Option.some.injEq] at h
      subst h
      refine ⟨?_, rfl⟩
      simp [eqGuard, binOp, run_equal_bool hb]
    · cases h
  · split at h
    · rename_i hb
      simp only [Option.some.injEq] at h
      subst h
      refine ⟨?_, rfl⟩
      simp [eqGuard, binOp, run_equal_bool hb, bne]
    · cases h
  · exact abin_sound h t p q
theorem aun_sound {op : UnOp} {x z : Value} (h : aun op x = some z) : (Op.unary op x).run P w = .ok z w ∧ scal z = true := by
  unfold aun at h
  split at h
  · simp only [Option.some.injEq] at h; subst h; exact ⟨rfl, rfl⟩
  · simp only [Option.some.injEq] at h; subst h; exact ⟨rfl, rfl⟩
  · simp at h
theorem amax_run {op : Bool} {x y z : Value} (h : amax op x y = some z) : ((if op then Builtin.max2 else Builtin.min2) x y).run P w = .ok z w := by
  unfold amax at h
  split at h
  · simp only [Option.some.injEq] at h
    subst h
    cases op
    · simp only [Bool.false_eq_true, if_false]; rfl
    · simp only [if_true]; rfl
  · simp at h
theorem aminmax_run {op : Bool} : ∀ {r : List Value} {x z : Value}, aminmax op x r = some z → (r.foldlM (if op then Builtin.max2 else Builtin.min2) x : Sem Value).run P w = .ok z w
  | [], x, z, h => by
    simp only [aminmax, Option.some.injEq] at h
    subst h
    rfl
  | y :: r, x, z, h => by
    simp only [aminmax] at h
    split at h
    · rename_i q hq
      simp only [List.foldlM_cons, Sem.run_bind, amax_run hq, Result.andThen_ok]
      exact aminmax_run h
    · simp at h
theorem vals_rel (henv : relEnv R w M s.env a.tmps) : ∀ {l : List Operand} {vs : List Value}, vals s l = some vs → l.map a.eval = vs
  | [], vs, h => by simp only [vals, Option.some.injEq] at h; subst h; rfl
  | x :: r, vs, h => by
    simp only [vals] at h
    split at h
    · rename_i t ts h1 h2
      simp only [Option.some.injEq] at h
      subst h
      rw [List.map_cons, vals_rel henv h2, (val_rel h1 (ev_sound henv x)).1]
    · simp at h
theorem aparts_rel (henv : relEnv R w M s.env a.tmps) (ps : Array (Nat × Operand)) : relParts R w M (aparts s ps) ((ps.map fun (i, x) => (i, a.eval x)).toList) := by
  simp only [aparts, Array.toList_map]
  induction ps.toList with
  | nil => trivial
  | cons p ps ih => exact ⟨rfl, a1_rel (ev_sound henv p.2), ih⟩
theorem caps_rel (henv : relEnv R w M s.env a.tmps) : ∀ {l : List Operand} {ts : List T}, caps s l = some ts → ∀ (c : Array Value) (o : Nat), (∀ j, j < l.length → c[o + j]? = (l.map a.eval)[j]?) → ts.length = l.length ∧ relTRow R w M c ts o fz
  | [], ts, h, c, o, hc => by simp only [caps, Option.some.injEq] at h; subst h; exact ⟨rfl, by simp [relTRow]⟩
  | x :: r, ts, h, c, o, hc => by
    simp only [caps] at h
    split at h
    · rename_i t ts' h1 h2
      simp only [Option.some.injEq] at h
      subst h
      obtain ⟨g1, g2⟩ := caps_rel henv h2 c (o + 1) (fun j hj => by
        have := hc (j + 1) (by simp; omega)
        rw [show o + 1 + j = o + (j + 1) by omega, this]
        simp)
      refine ⟨by simp [g1], ?_⟩
      simp only [relTRow]
      exact ⟨a.eval x, fz, fz, by have := hc 0 (by simp); simpa using this, one_rel h1 (ev_sound henv x), g2, rfl⟩
    · simp at h
theorem bnd_rel (henv : relEnv R w M s.env a.tmps) {d i : Int} {x : Option Operand} (h : bnd? s d x = some i) : relB d (x.map a.eval) i := by
  cases x with
  | none => simp only [bnd?, Option.some.injEq] at h; exact h.symm
  | some x =>
    obtain ⟨k, hk⟩ := int_rel (by simpa [bnd?] using h) (ev_sound henv x)
    exact ⟨k, hk⟩
end
end Go.Proofs.YtgeoipplkjgnfaaDoor.E
