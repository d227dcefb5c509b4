/- The abstract memory: an operation's step holds in every world, whatever the operation. No condition beside those that stand in each statement. -/
import Derived.Test.YtgeoipplkjgnfaaDoorEng11
set_option linter.unusedVariables false
set_option linter.unusedSimpArgs false
namespace Go.Proofs.YtgeoipplkjgnfaaDoor.E
variable {P : Program} {R R' : Nat → Prop} {w w' : World} {M M' : List Loc} {c : Array Value}
variable {o : Oper} {a : Act} {F : FP} {H' : List AObj} {av : AV} {u : Value} {s : St}

theorem kind_slice {d : TypeDesc} {e : Nat} (h : kindOf P d = .sl e) : d = .slice e := by
  cases d <;> simp only [kindOf] at h <;> first
    | (simp at h; done)
    | (simp only [TK.sl.injEq] at h; rw [h]; done)
    | (split at h <;> simp at h)
theorem kind_str {d : TypeDesc} (h : kindOf P d = .str) : d = .string := by
  cases d <;> simp only [kindOf] at h <;> first
    | rfl
    | (simp at h; done)
    | (split at h <;> simp at h)
theorem kind_int {d : TypeDesc} {k : IntKind} (h : kindOf P d = .int k) : d = .int k := by
  cases d <;> simp only [kindOf] at h <;> first
    | (simp at h; done)
    | (simp only [TK.int.injEq] at h; rw [h]; done)
    | (split at h <;> simp at h)
theorem mapM_get {α β : Type} {f : α → Option β} : ∀ {l : List α} {r : List β} {k : Nat} {y : β}, l.mapM f = some r → r[k]? = some y → ∃ x, l[k]? = some x ∧ f x = some y
  | [], r, k, y, h, hk => by simp at h; subst h; simp at hk
  | x :: l, r, k, y, h, hk => by
    simp only [List.mapM_cons, Option.bind_eq_bind, Option.pure_def] at h
    cases hx : f x with
    | none => simp [hx] at h
    | some z =>
      cases hr : l.mapM f with
      | none => simp [hx, hr] at h
      | some rest =>
        simp [hx, hr] at h
        subst h
        cases k with
        | zero => simp at hk; exact ⟨x, rfl, by rw [hx, hk]⟩
        | succ k => simpa using mapM_get hr (by simpa using hk)
theorem kind_st {d : TypeDesc} {fs : List (Nat × Nat × Bool)} {k off sz : Nat} {ag : Bool} (h : kindOf P d = .st fs) (hk : fs[k]? = some (off, sz, ag)) : ∃ fields f j, d = .struct fields ∧ fields[k]? = some f ∧ f.offset = off ∧ P.info? f.type = some j ∧ j.size = sz ∧ aggB P f.type = ag ∧ ∃ d', P.underlying f.type = some d' := by
  cases d <;> simp only [kindOf] at h <;> try (simp at h; done)
  rename_i fields
  split at h
  · rename_i l hl
    simp only [TK.st.injEq] at h
    subst h
    obtain ⟨f, h1, h2⟩ := mapM_get hl hk
    obtain ⟨j, d', hi, hd', h3⟩ := fieldInfo_some h2
    simp only [Prod.mk.injEq] at h3
    exact ⟨fields, f, j, rfl, by simpa using h1, h3.1.symm, hi, h3.2.1.symm, h3.2.2.symm, d', hd'⟩
  · simp at h
theorem bytesOf_rel : ∀ {rows : List (List T)} {bs : List UInt8} {o : Nat} {F : FP}, bytesOf rows = some bs → relTRows R w M c 1 rows o F → ∃ ns : List Int, (∀ j, j < rows.length → c[o + j]? = (ns.map (Value.int .u8))[j]?) ∧ ns.length = rows.length ∧ bs = ns.map fun n => UInt8.ofNat n.toNat
  | [], bs, o, F, h, hr => by simp only [bytesOf, Option.some.injEq] at h; subst h; exact ⟨[], fun j hj => by simp at hj, rfl, rfl⟩
  | r :: rs, bs, o, F, h, hr => by
    simp only [bytesOf] at h
    split at h
    · rename_i b bs' h1 h2
      simp only [Option.some.injEq] at h
      subst h
      simp only [relTRows] at hr
      obtain ⟨F1, F2, -, h3, h4, -⟩ := hr
      obtain ⟨ns, n1, n2, n3⟩ := bytesOf_rel h2 h4
      unfold byteOf at h1
      split at h1
      · rename_i n
        simp only [Option.some.injEq] at h1
        simp only [relTRow, relT] at h3
        obtain ⟨u, G1, G2, g1, ⟨rfl, -, -⟩, -, -⟩ := h3
        refine ⟨n :: ns, fun j hj => ?_, by simp [n2], by rw [← h1, n3]; rfl⟩
        cases j with
        | zero => simpa using g1
        | succ j =>
          have := n1 j (by simp at hj; omega)
          rw [show o + (j + 1) = o + 1 + j by omega, this]
          simp
      · simp at h1
    · simp at h
theorem push_fold : ∀ (ns : List Int) (r : ByteArray), ns.foldl (fun r n => r.push (UInt8.ofNat n.toNat)) r = ⟨r.data ++ (ns.map fun n => UInt8.ofNat n.toNat).toArray⟩
  | [], r => by simp
  | n :: ns, r => by
    rw [List.foldl_cons, push_fold ns]
    simp [ByteArray.push]
theorem list1 {α : Type} {xs : Array α} {x : α} (h : xs.toList = [x]) : xs = #[x] := by
  apply Array.ext'
  simp [h]
theorem list2 {α : Type} {xs : Array α} {x y : α} (h : xs.toList = [x, y]) : xs = #[x, y] := by
  apply Array.ext'
  simp [h]
theorem listc {α : Type} {xs : Array α} {x : α} {r : List α} (h : xs.toList = x :: r) : xs = (x :: r).toArray := by
  apply Array.ext'
  simp [h]

theorem abuiltin_sound {b : Builtin} {ts : Array TypeId} {args : Array Operand} (hop : o.op = .call { callee := .builtin b, args := args, argTypes := ts }) (h : abuiltin P s b ts args = some (av, H')) (henv : relEnv R w M s.env a.tmps) (hH : relHeap R w M s.H M F) (hg : Good R w F) : Ok P R w M F o a av H' := by
  have hres : ∀ {sv : Sem Value} {v : Value} {w1 : World}, (∀ cs, builtin b ts o.type cs (args.map a.eval) = (do pure (.value (← sv)))) → sv.run P w = .ok v w1 → (execOp a.eval o).run P w = .ok (.value v) w1 := by
    intro sv v w1 hb hr
    simp only [execOp, hop, resolve, pure_bind, invoke]
    rw [hb]
    simp [hr]
  unfold abuiltin at h
  split at h
  · -- len
    rename_i x t ha ht
    have ha' := list1 ha
    have ht' := list1 ht
    subst ha' ht'
    split at h
    · rename_i tt i hx hi
      have hr := one_rel hx (ev_sound henv x)
      obtain ⟨d, j, z, hd, hj, hz, hkk, -⟩ := ti_some hi
      split at h
      · simp at h
      · rename_i tt x0 x1 tt1 n e hk hno hlen
        simp only [Option.some.injEq, Prod.mk.injEq] at h
        obtain ⟨rfl, rfl⟩ := h
        rw [hkk] at hk
        have hd2 := kind_slice hk
        subst hd2
        refine Ok.keep (u := .int .i64 n) (hres (sv := Builtin.len_ #[t] o.type #[a.eval x]) (by intro cs; simp [builtin]) ?_) (by simp [mkOne, relAV, relA1, relT, scal]) hH hg
        cases tt with
        | v y =>
          simp only [relT] at hr
          obtain ⟨hu, hsc, -⟩ := hr
          unfold lenT at hlen
          split at hlen <;> try (simp at hlen; done)
          · rename_i heq
            simp only [T.v.injEq] at heq
            subst heq
            simp only [Option.some.injEq] at hlen
            subst hlen
            rw [hu]
            simp [Builtin.len_, run_underlying hd, goInt]
          · rename_i heq; simp at heq
          · rename_i heq; simp at heq
          · rename_i s heq
            exact absurd heq (by intro h; exact hno _ (by simpa using h))
        | ro sz rows =>
          simp only [relT, relD] at hr
          obtain ⟨⟨ad, cap, hu, -⟩, -⟩ := hr
          simp only [lenT, Option.some.injEq] at hlen
          subst hlen
          rw [hu]
          simp [Builtin.len_, run_underlying hd, goInt]
        | ref l off len =>
          simp only [relT] at hr
          obtain ⟨-, L, ad, cap, -, hu, -⟩ := hr
          simp only [lenT, Option.some.injEq] at hlen
          subst hlen
          rw [hu]
          simp [Builtin.len_, run_underlying hd, goInt]
        | _ => simp [lenT] at hlen
      · rename_i n y hk hlen
        simp only [Option.some.injEq, Prod.mk.injEq] at h
        obtain ⟨rfl, rfl⟩ := h
        rw [hkk] at hk
        have hd2 := kind_str hk
        subst hd2
        simp only [relT] at hr
        obtain ⟨hu, -, -⟩ := hr
        simp only [lenT, Option.some.injEq] at hlen
        subst hlen
        refine Ok.keep (u := .int .i64 y.size) (hres (sv := Builtin.len_ #[t] o.type #[a.eval x]) (by intro cs; simp [builtin]) ?_) (by simp [mkOne, relAV, relA1, relT, scal]) hH hg
        rw [hu]
        simp [Builtin.len_, run_underlying hd, goInt]
      · simp at h
    · simp at h
  · -- append
    rename_i x y t t2 ha ht
    have ha' := list2 ha
    have ht' := list2 ht
    subst ha' ht'
    split at h
    · rename_i p q i hx hy hi
      split at h
      · rename_i e hk
        split at h
        · rename_i j hj
          split at h
          · rename_i hc
            obtain ⟨c1, c2, c3, c4⟩ := hc
            obtain ⟨d, jj, z, hd, -, -, hkk, -⟩ := ti_some hi
            rw [hkk] at hk
            have hd2 := kind_slice hk
            subst hd2
            obtain ⟨v, w', N, F', r1, r2, r3, r4, r5⟩ := append_sound (t3 := o.type) h hj hd c1 c2 c3 c4 (one_rel hx (ev_sound henv x)) (one_rel hy (ev_sound henv y)) hH hg
            exact ⟨w', N, F', .inl ⟨v, hres (sv := Builtin.append_ #[t, t2] o.type #[a.eval x, a.eval y]) (by intro cs; simp [builtin]) r1, r2⟩, r3, r4, r5⟩
          · simp at h
        · simp at h
      · simp at h
    · simp at h
  · -- max
    rename_i x r ha
    have ha' := listc ha
    subst ha'
    split at h
    · rename_i p vs hx hr
      split at h
      · rename_i z hz
        split at h
        · rename_i hsc
          simp only [Option.some.injEq, Prod.mk.injEq] at h
          obtain ⟨rfl, rfl⟩ := h
          have h1 := (val_rel hx (ev_sound henv x)).1
          have h2 := vals_rel henv hr
          refine Ok.keep (u := z) (hres (sv := Builtin.max_ ts o.type ((x :: r).toArray.map a.eval)) (by intro cs; rfl) ?_) (by simp [mkOne, relAV, relA1, relT, hsc]) hH hg
          have := aminmax_run (P := P) (w := w) hz
          simp only [if_true] at this
          simp only [Builtin.max_, List.map_toArray, List.map_cons, h1, h2]
          exact this
        · simp at h
      · simp at h
    · simp at h
  · -- min
    rename_i x r ha
    have ha' := listc ha
    subst ha'
    split at h
    · rename_i p vs hx hr
      split at h
      · rename_i z hz
        split at h
        · rename_i hsc
          simp only [Option.some.injEq, Prod.mk.injEq] at h
          obtain ⟨rfl, rfl⟩ := h
          have h1 := (val_rel hx (ev_sound henv x)).1
          have h2 := vals_rel henv hr
          refine Ok.keep (u := z) (hres (sv := Builtin.min_ ts o.type ((x :: r).toArray.map a.eval)) (by intro cs; rfl) ?_) (by simp [mkOne, relAV, relA1, relT, hsc]) hH hg
          have := aminmax_run (P := P) (w := w) hz
          simp only [Bool.false_eq_true, if_false] at this
          simp only [Builtin.min_, List.map_toArray, List.map_cons, h1, h2]
          exact this
        · simp at h
      · simp at h
    · simp at h
  · simp at h
end Go.Proofs.YtgeoipplkjgnfaaDoor.E
