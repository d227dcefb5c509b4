/- The abstract memory: one step of any operation. No condition beside those that stand in each statement. -/
import Derived.Test.YtgeoipplkjgnfaaDoorEng12
set_option linter.unusedVariables false
set_option linter.unusedSimpArgs false
namespace Go.Proofs.YtgeoipplkjgnfaaDoor.E
variable {P : Program} {R R' : Nat → Prop} {w w' : World} {M M' : List Loc} {c : Array Value}
variable {o : Oper} {a : Act} {F : FP} {H' : List AObj} {av : AV} {u : Value} {s : St}

theorem aconv_sound {src dst : TypeId} {x : Operand} {t : T} (hop : o.op = .convert src dst x) (hx : one? (ev s x) = some t) (h : aconv P s src dst t = some (av, H')) (henv : relEnv R w M s.env a.tmps) (hH : relHeap R w M s.H M F) (hg : Good R w F) : Ok P R w M F o a av H' := by
  have hr := one_rel hx (ev_sound henv x)
  unfold aconv at h
  split at h
  · rename_i p q k n hp hq
    obtain ⟨d1, j1, z1, hd1, -, -, hk1, -⟩ := ti_some hp
    obtain ⟨d2, j2, z2, hd2, -, -, hk2, -⟩ := ti_some hq
    split at h
    · rename_i k' hk
      simp only [Option.some.injEq, Prod.mk.injEq] at h
      obtain ⟨rfl, rfl⟩ := h
      rw [hk2] at hk
      have := kind_int hk
      subst this
      simp only [relT] at hr
      obtain ⟨hu, -, -⟩ := hr
      refine Ok.keep (u := .int k' (k'.wrap n)) (exec_v (sv := convert src dst (a.eval x)) (by rw [execOp, hop]) ?_) (by simp [mkOne, relAV, relA1, relT, scal]) hH hg
      rw [hu]
      simp [convert, run_underlying hd1, run_underlying hd2, Conv.intToInt]
    · simp at h
  · rename_i p q z hp hq
    obtain ⟨d1, j1, z1, hd1, -, -, hk1, -⟩ := ti_some hp
    obtain ⟨d2, j2, z2, hd2, -, -, hk2, -⟩ := ti_some hq
    simp only [relT] at hr
    obtain ⟨hu, -, -⟩ := hr
    split at h
    · rename_i e h1 h2
      split at h
      · rename_i he
        simp only [Option.some.injEq, Prod.mk.injEq] at h
        obtain ⟨rfl, rfl⟩ := h
        rw [hk1] at h1
        rw [hk2] at h2
        have e1 := kind_str h1
        have e2 := kind_slice h2
        subst e1 e2
        have hrun := run_bytes_of_string (P := P) w src dst e z hd1 hd2 he
        have hge := grownCap_ge w z.size 0 e
        have hsz : (bytesRow z (grownCap w z.size 0 e)).size = grownCap w z.size 0 e := by
          simp only [bytesRow, Array.size_append, Array.size_map, Array.size_replicate]
          have : z.data.size = z.size := rfl
          omega
        have hrows : ∀ (l : List UInt8) (o : Nat) (c : Array Value), (∀ j, j < l.length → c[o + j]? = (l.map fun b => Value.int .u8 b.toNat)[j]?) → relTRows R w M c 1 (l.map fun b => [T.v (.int .u8 b.toNat)]) o fz := by
          intro l
          induction l with
          | nil => intro o c _; simp [relTRows]
          | cons b l ih =>
            intro o c hc
            simp only [List.map_cons, relTRows]
            refine ⟨fz, fz, rfl, ?_, ih (o + 1) c (fun j hj => ?_), rfl⟩
            · simp only [relTRow]
              exact ⟨.int .u8 b.toNat, fz, fz, by have := hc 0 (by simp); simpa using this, by simp [relT, scal], rfl, rfl⟩
            · have := hc (j + 1) (by simp; omega)
              rw [show o + 1 + j = o + (j + 1) by omega, this]
              simp
        obtain ⟨q1, q2, q3, q4⟩ := newObj_sound (w := w) (R := R) (M := M) (H := s.H) (F := F) (Fn := fz) (cs := bytesRow z (grownCap w z.size 0 e)) (e := e) (lo := (bytesRow z (grownCap w z.size 0 e)).size) (hi := (bytesRow z (grownCap w z.size 0 e)).size + 1) (sz := 1) (room := grownCap w z.size 0 e) (rows := z.data.toList.map fun b => [T.v (.int .u8 b.toNat)])
          (w1 := w.drew.alloc (.cells (bytesRow z (grownCap w z.size 0 e)) e ((bytesRow z (grownCap w z.size 0 e)).size, (bytesRow z (grownCap w z.size 0 e)).size + 1))) rfl hH (by rw [fa_z]; exact hg) (.inr (Nat.le_refl _)) (hrows _ 0 _ (fun j hj => by
            simp only [bytesRow, Nat.zero_add]
            rw [Array.getElem?_append, if_pos (by simpa using hj)]
            simp)) (by rw [List.length_map]; have : z.data.toList.length = z.size := by rw [Array.length_toList]; rfl
                       omega) (by rw [hsz]; omega)
        rw [fa_z] at q3
        refine ⟨_, [⟨w.heap.size, 0, 1, grownCap w z.size 0 e⟩], _, .inl ⟨_, exec_v (sv := convert src dst (a.eval x)) (by rw [execOp, hop]) (by rw [hu]; exact hrun), ?_⟩, q1, q2, q3⟩
        simp only [mkOne, relAV, relA1, relT]
        exact ⟨trivial, ⟨w.heap.size, 0, 1, grownCap w z.size 0 e⟩, _, _, by rw [relHeap_len hH]; simp, rfl, hge, by simp, .inr (by simp)⟩
      · simp at h
    · rename_i h1 h2
      simp only [Option.some.injEq, Prod.mk.injEq] at h
      obtain ⟨rfl, rfl⟩ := h
      rw [hk1] at h1
      rw [hk2] at h2
      have e1 := kind_str h1
      have e2 := kind_str h2
      subst e1 e2
      refine Ok.keep (u := .string z) (exec_v (sv := convert src dst (a.eval x)) (by rw [execOp, hop]) ?_) (by simp [mkOne, relAV, relA1, relT, scal]) hH hg
      rw [hu]
      simp [convert, run_underlying hd1, run_underlying hd2]
    · simp at h
  · rename_i t y1 y2 y3 p q hp hq hno1 hno2
    obtain ⟨d1, j1, z1, hd1, -, -, hk1, -⟩ := ti_some hp
    obtain ⟨d2, j2, z2, hd2, -, -, hk2, -⟩ := ti_some hq
    split at h
    · rename_i e rows h1 h2 hrows
      split at h
      · rename_i bs he hbs
        simp only [Option.some.injEq, Prod.mk.injEq] at h
        obtain ⟨rfl, rfl⟩ := h
        rw [hk1] at h1
        rw [hk2] at h2
        have e1 := kind_slice h1
        have e2 := kind_str h2
        subst e1 e2
        obtain ⟨cs, Fc, c1, c2, -, c4, c5⟩ := rowsOf_sound (P := P) (by omega) hrows hr hH
        obtain ⟨ns, n1, n2, n3⟩ := bytesOf_rel hbs c2
        have hcs : cs = ns.map (Value.int .u8) := by
          apply List.ext_getElem?
          intro j
          by_cases hj : j < rows.length
          · have := n1 j hj
            rw [Nat.zero_add] at this
            simpa using this
          · rw [List.getElem?_eq_none (by omega), List.getElem?_eq_none (by simp; omega)]
        refine Ok.keep (u := .string ⟨bs.toArray⟩) (exec_v (sv := convert src dst (a.eval x)) (by rw [execOp, hop]) ?_) (by simp [mkOne, relAV, relA1, relT, scal]) hH hg
        have hlen := c4 w
        have hfc := c5 w rfl
        have hsl : ∃ ad cap, a.eval x = .slice ad rows.length cap := by
          cases ht : t <;> subst ht <;> simp only [relT, relD] at hr
          case v y =>
            obtain ⟨hu, hsc, -⟩ := hr
            unfold rowsOf at hrows
            split at hrows <;> try (simp at hrows; done)
            · rename_i heq
              simp only [T.v.injEq] at heq
              subst heq
              simp only [Option.some.injEq] at hrows
              subst hrows
              exact ⟨none, 0, hu⟩
            · rename_i heq; simp at heq
            · rename_i heq; simp at heq
            · rename_i z heq
              simp only [T.v.injEq] at heq
              subst heq
              exact absurd rfl (hno2 z)
          case ro sz ds =>
            obtain ⟨⟨ad, cap, hu, -⟩, -⟩ := hr
            rw [hu] at hlen
            simp only [Builtin.lenOf, Sem.run_pure, Result.ok.injEq, and_true] at hlen
            exact ⟨ad, cap, by rw [hu, hlen]⟩
          case ref l off len =>
            obtain ⟨-, L, ad, cap, -, hu, -⟩ := hr
            rw [hu] at hlen
            simp only [Builtin.lenOf, Sem.run_pure, Result.ok.injEq, and_true] at hlen
            exact ⟨ad, cap, by rw [hu, hlen]⟩
          all_goals simp [rowsOf] at hrows
        obtain ⟨ad, cap, hu⟩ := hsl
        rw [hu] at hfc ⊢
        rw [run_convert_bytes_string w src dst e ad rows.length cap hd1 he hd2]
        cases ad with
        | none =>
          simp only [Builtin.firstCells, Sem.run_pure, Result.ok.injEq, and_true] at hfc
          have h0 : cs = [] := by
            have := congrArg Array.toList hfc
            simpa using this.symm
          rw [h0] at hcs
          have hns : ns = [] := by
            have := congrArg List.length hcs
            exact List.eq_nil_of_length_eq_zero (by simpa using this.symm)
          subst hns
          subst n3
          rfl
        | some ad =>
          simp only [Builtin.firstCells, Nat.mul_one] at hfc
          rw [hcs] at hfc
          rw [run_bytesToString w ad rows.length cap ns hfc, push_fold, n3]
          simp
      · simp at h
    · simp at h
  · simp at h
set_option maxHeartbeats 1000000 in
theorem astep_sound {op : Op} (hop : o.op = op) (h : astep P s op = some (av, H')) (henv : relEnv R w M s.env a.tmps) (hH : relHeap R w M s.H M F) (hg : Good R w F) : Ok P R w M F o a av H' := by
  have hev := fun x => ev_sound (a := a) henv x
  cases op
  case move x =>
    simp only [astep, Option.some.injEq, Prod.mk.injEq] at h
    obtain ⟨rfl, rfl⟩ := h
    exact Ok.keep (by simp [execOp, hop]) (hev x) hH hg
  case assign x =>
    simp only [astep, Option.some.injEq, Prod.mk.injEq] at h
    obtain ⟨rfl, rfl⟩ := h
    exact Ok.keep (by simp [execOp, hop]) (hev x) hH hg
  case pick cc x y =>
    simp only [astep] at h
    split at h
    · rename_i t ht
      simp only [Option.some.injEq, Prod.mk.injEq] at h
      obtain ⟨rfl, rfl⟩ := h
      have hb := bool_rel ht (hev cc)
      cases t with
      | true => exact Ok.keep (u := a.eval x) (by simp [execOp, hop, hb, asBool]) (hev x) hH hg
      | false => exact Ok.keep (u := a.eval y) (by simp [execOp, hop, hb, asBool]) (hev y) hH hg
    · simp at h
  case alloc e =>
    simp only [astep] at h
    split at h
    · rename_i i hi
      split at h
      · rename_i hz
        simp only [Option.some.injEq, Prod.mk.injEq] at h
        obtain ⟨rfl, rfl⟩ := h
        obtain ⟨d, j, z, hd, hj, hz', hkk, hs, hb, ha, hzz⟩ := ti_some hi
        obtain ⟨v, w', N, F', r1, r2, r3, r4, r5⟩ := box_sound (P := P) (e := e) (v := z) (ts := i.zero.map T.v) (by rw [hzz] at hz ⊢; exact all_scal hz) (by rw [hzz]; simp) hH hg
        refine ⟨w', N, F', .inl ⟨.pointer (some v), exec_v (sv := Instr.alloc e true (.tuple #[])) (by rw [execOp, hop]) ?_, r2⟩, r3, r4, r5⟩
        simp [Instr.alloc, run_zero hj hz', r1]
      · simp at h
    · simp at h
  case box e x =>
    simp only [astep] at h
    split at h
    · rename_i ts hts
      simp only [Option.some.injEq, Prod.mk.injEq] at h
      obtain ⟨rfl, rfl⟩ := h
      obtain ⟨c1, c2, -⟩ := cells1_rel hts (a1_rel (hev x))
      obtain ⟨v, w', N, F', r1, r2, r3, r4, r5⟩ := box_sound (P := P) (e := e) (v := a.eval x) c2 c1 hH hg
      refine ⟨w', N, F', .inl ⟨.pointer (some v), exec_v (sv := Instr.box e (a.eval x)) (by rw [execOp, hop]) ?_, r2⟩, r3, r4, r5⟩
      simp [Instr.box, r1]
    · simp at h
  case build t ps =>
    simp only [astep] at h
    split at h
    · rename_i i hi
      split at h
      · rename_i fs hk
        split at h
        · rename_i hz
          split at h
          · rename_i row hrow
            simp only [Option.some.injEq, Prod.mk.injEq] at h
            obtain ⟨rfl, rfl⟩ := h
            obtain ⟨v, r1, r2⟩ := doBuild_sound (P := P) hi hk hz (aparts_rel henv ps) hrow
            exact Ok.keep (exec_v (sv := Instr.build t (ps.map fun (i, x) => (i, a.eval x))) (by rw [execOp, hop]) r1) r2 hH hg
          · simp at h
        · simp at h
      · simp at h
    · simp at h
  case buildSlice t len ps =>
    simp only [astep] at h
    split at h
    · rename_i i hi
      split at h
      · rename_i e hk
        split at h
        · rename_i j hj
          split at h
          · rename_i rows hrows
            split at h
            · rename_i hc
              obtain ⟨c1, c2, c3⟩ := hc
              simp only [Option.some.injEq, Prod.mk.injEq] at h
              obtain ⟨rfl, rfl⟩ := h
              obtain ⟨d, jj, z, hd, -, -, hkk, -⟩ := ti_some hi
              rw [hkk] at hk
              have := kind_slice hk
              subst this
              obtain ⟨v, w', N, F', r1, r2, r3, r4, r5⟩ := buildSlice_sound (P := P) hj hd (aparts_rel henv ps) hrows (by simp [aparts, c1]) c2 c3 hH hg
              exact ⟨w', N, F', .inl ⟨v, exec_v (sv := Instr.buildSlice t len (ps.map fun (i, x) => (i, a.eval x))) (by rw [execOp, hop]) r1, r2⟩, r3, r4, r5⟩
            · simp at h
          · simp at h
        · simp at h
      · simp at h
    · simp at h
  case load t x =>
    simp only [astep] at h
    split at h
    · rename_i i p hi hp
      obtain ⟨v, N, r1, r2, r3⟩ := doLoad_sound (P := P) h hi (one_rel hp (hev x)) hH
      exact ⟨w, N, F, .inl ⟨v, exec_v (sv := Instr.loadAt t (a.eval x)) (by rw [execOp, hop]) r1, r2⟩, r3, hg, Fr.refl _ _ _⟩
    · simp at h
  case store t x y =>
    simp only [astep] at h
    split at h
    · rename_i i p hi hp
      split at h
      · rename_i H2 hH2
        simp only [Option.some.injEq, Prod.mk.injEq] at h
        obtain ⟨rfl, rfl⟩ := h
        obtain ⟨w', F', r1, r2, r3, r4⟩ := doStore_sound (P := P) hH2 hi (one_rel hp (hev x)) (a1_rel (hev y)) hH hg
        refine ⟨w', [], F', .inr ⟨?_, rfl⟩, by simpa using r2, r3, r4⟩
        simp [execOp, hop, r1]
      · simp at h
    · simp at h
  case nilCheck x =>
    have hx := hev x
    simp only [astep] at h
    split at h
    · rename_i l r cc he
      simp only [Option.some.injEq, Prod.mk.injEq] at h
      obtain ⟨rfl, rfl⟩ := h
      rw [he] at hx
      have hx' := hx
      simp only [relAV, relA1, relT] at hx'
      obtain ⟨-, L, -, hu⟩ := hx'
      exact Ok.keep (u := a.eval x) (by simp [execOp, hop, hu]) hx hH hg
    · rename_i row cc he
      simp only [Option.some.injEq, Prod.mk.injEq] at h
      obtain ⟨rfl, rfl⟩ := h
      rw [he] at hx
      have hx' := hx
      simp only [relAV, relA1, relT] at hx'
      obtain ⟨-, b, oo, c, e, q, hu, -⟩ := hx'
      exact Ok.keep (u := a.eval x) (by simp [execOp, hop, hu]) hx hH hg
    · rename_i f cc he
      simp only [Option.some.injEq, Prod.mk.injEq] at h
      obtain ⟨rfl, rfl⟩ := h
      rw [he] at hx
      have hx' := hx
      simp only [relAV, relA1, relT] at hx'
      obtain ⟨-, c, hu, -⟩ := hx'
      exact Ok.keep (u := a.eval x) (by simp [execOp, hop, hu]) hx hH hg
    · simp at h
  case binOp bop t x y ty =>
    simp only [astep] at h
    split at h
    · rename_i p q hp hq
      split at h
      · rename_i z hz
        simp only [Option.some.injEq, Prod.mk.injEq] at h
        obtain ⟨rfl, rfl⟩ := h
        obtain ⟨h1, h2⟩ := abinT_sound (P := P) (w := w) hz x y
        refine Ok.keep (u := z) (exec_v (sv := (do eqGuard bop t x y (a.eval x) (a.eval y); binOp bop t (a.eval x) (a.eval y))) (by rw [execOp, hop]) ?_) (by simp [mkOne, relAV, relA1, relT, h2]) hH hg
        rw [(val_rel hp (hev x)).1, (val_rel hq (hev y)).1]
        exact h1
      · simp at h
    · simp at h
  case unOp uop t x =>
    simp only [astep] at h
    split at h
    · rename_i p hp
      split at h
      · rename_i z hz
        simp only [Option.some.injEq, Prod.mk.injEq] at h
        obtain ⟨rfl, rfl⟩ := h
        obtain ⟨h1, h2⟩ := aun_sound (P := P) (w := w) hz
        refine Ok.keep (u := z) (exec_v (sv := Op.unary uop (a.eval x)) (by rw [execOp, hop]) ?_) (by simp [mkOne, relAV, relA1, relT, h2]) hH hg
        rw [(val_rel hp (hev x)).1]
        exact h1
      · simp at h
    · simp at h
  case convert src dst x =>
    simp only [astep] at h
    split at h
    · rename_i t ht
      exact aconv_sound hop ht h henv hH hg
    · simp at h
  case makeFunc fn first captured =>
    cases fn <;> simp only [astep] at h <;> try (simp at h; done)
    rename_i f
    split at h
    · rename_i hf
      split at h
      · rename_i ts hts
        simp only [Option.some.injEq, Prod.mk.injEq] at h
        obtain ⟨rfl, rfl⟩ := h
        obtain ⟨g1, g2⟩ := caps_rel henv hts (captured.map a.eval) 0 (fun j hj => by simp)
        refine Ok.keep (u := .func (.func f) #[] (captured.map a.eval)) ?_ ?_ hH hg
        · have : first = #[] := by simpa using hf
          subst this
          simp [execOp, hop, Instr.makeFunc]
        · simp only [mkOne, relAV, relA1, relT]
          exact ⟨trivial, _, rfl, by simp [g1], g2⟩
      · simp at h
    · simp at h
  case makeSlice t l cc =>
    simp only [astep] at h
    split at h
    · rename_i i n m hi hn hm
      split at h
      · rename_i e hk
        split at h
        · rename_i j hj
          split at h
          · rename_i hc
            obtain ⟨rfl, c2, c3, c4, c5, c6⟩ := hc
            have c2 := leI_le c2
            have c3 := leI_le c3
            simp only [Option.some.injEq, Prod.mk.injEq] at h
            obtain ⟨rfl, rfl⟩ := h
            obtain ⟨d, jj, z, hd, -, -, hkk, -⟩ := ti_some hi
            rw [hkk] at hk
            have := kind_slice hk
            subst this
            obtain ⟨k1, hk1⟩ := int_rel hn (hev l)
            obtain ⟨k2, hk2⟩ := int_rel hm (hev cc)
            obtain ⟨v, w', N, F', r1, r2, r3, r4, r5⟩ := make_sound (P := P) (kl := k1) (kc := k2) hj hd c5 c6 c2 c3 c4 hH hg
            exact ⟨w', N, F', .inl ⟨v, exec_v (sv := Instr.makeSlice t (a.eval l) (a.eval cc)) (by rw [execOp, hop]) (by rw [hk1, hk2]; exact r1), r2⟩, r3, r4, r5⟩
          · simp at h
        · simp at h
      · simp at h
    · simp at h
  case slice t x lo hi mx =>
    cases mx with
    | some m => simp [astep] at h
    | none =>
    simp only [astep] at h
    split at h
    · rename_i i tt hi' hx
      split at h
      · rename_i n hlen
        split at h
        · rename_i p q hp hq
          have hr := one_rel hx (hev x)
          obtain ⟨d, jj, z, hd, -, -, hkk, -⟩ := ti_some hi'
          have hlo := bnd_rel henv hp
          have hhi : ∀ m, lenT tt = some m → relB m (hi.map a.eval) q := fun m hm => by
            rw [hlen] at hm
            simp only [Option.some.injEq] at hm
            subst hm
            exact bnd_rel henv hq
          split at h
          · rename_i e hk
            split at h
            · rename_i j hj
              split at h
              · rename_i t' ht'
                simp only [Option.some.injEq, Prod.mk.injEq] at h
                obtain ⟨rfl, rfl⟩ := h
                rw [hkk] at hk
                have := kind_slice hk
                subst this
                obtain ⟨d3, j3, z3, hd3, hj3, -, -, hs3, -⟩ := ti_some hj
                rw [hs3] at ht'
                obtain ⟨v, r1, r2⟩ := sliceAt_sound (P := P) ht' hd hj3 hr hH hlo hhi
                exact Ok.keep (exec_v (sv := Instr.sliceAt t (a.eval x) (lo.map a.eval) (hi.map a.eval) none) (by rw [execOp, hop]; rfl) r1) r2 hH hg
              · simp at h
            · simp at h
          · rename_i hk
            split at h
            · rename_i t' ht'
              simp only [Option.some.injEq, Prod.mk.injEq] at h
              obtain ⟨rfl, rfl⟩ := h
              rw [hkk] at hk
              have := kind_str hk
              subst this
              obtain ⟨v, r1, r2⟩ := sliceAtS_sound (P := P) ht' hd hr hlo hhi
              exact Ok.keep (exec_v (sv := Instr.sliceAt t (a.eval x) (lo.map a.eval) (hi.map a.eval) none) (by rw [execOp, hop]; rfl) r1) r2 hH hg
            · simp at h
          · simp at h
        · simp at h
      · simp at h
    · simp at h
  case fieldAddr t x f =>
    simp only [astep] at h
    split at h
    · rename_i i p hi hp
      split at h
      · rename_i fs hk
        split at h
        · rename_i off sz ag hf
          split at h
          · simp at h
          · rename_i hsz
            split at h
            · rename_i p' hp'
              simp only [Option.some.injEq, Prod.mk.injEq] at h
              obtain ⟨rfl, rfl⟩ := h
              obtain ⟨d, jj, z, hd, -, -, hkk, -⟩ := ti_some hi
              rw [hkk] at hk
              obtain ⟨fields, fd', j, rfl, g1, g2, g3, g4, -, -⟩ := kind_st hk hf
              have hr := one_rel hp (hev x)
              have hz : ¬ j.size = 0 := by omega
              unfold doField at hp'
              split at hp' <;> try (simp at hp'; done)
              · rename_i l r cc
                simp only [Option.some.injEq] at hp'
                subst hp'
                simp only [relT] at hr
                obtain ⟨-, L, hL, hu⟩ := hr
                refine Ok.keep (u := .pointer (some ⟨L.b, L.o + r * L.sz + cc + off, none⟩)) (exec_v (sv := Instr.fieldAt t (a.eval x) f) (by rw [execOp, hop]) ?_) ?_ hH hg
                · rw [hu]
                  simp [Instr.fieldAt, run_underlying hd, g1, Instr.sureAddr, fieldPlace, run_size g3, hz, Addr.add_lit, g2]
                · simp only [mkOne, relAV, relA1, relT]
                  exact ⟨trivial, L, hL, by simp [Nat.add_assoc]⟩
              · rename_i row cc
                simp only [Option.some.injEq] at hp'
                subst hp'
                simp only [relT] at hr
                obtain ⟨-, b, oo, c, e, q, hu, q1, q2, q3⟩ := hr
                refine Ok.keep (u := .pointer (some ⟨b, oo + cc + off, none⟩)) (exec_v (sv := Instr.fieldAt t (a.eval x) f) (by rw [execOp, hop]) ?_) ?_ hH hg
                · rw [hu]
                  simp [Instr.fieldAt, run_underlying hd, g1, Instr.sureAddr, fieldPlace, run_size g3, hz, Addr.add_lit, g2]
                · simp only [mkOne, relAV, relA1, relT]
                  exact ⟨trivial, b, oo, c, e, q, by simp [Nat.add_assoc], q1, q2, q3⟩
            · simp at h
        · simp at h
      · simp at h
    · simp at h
  case field t x f =>
    simp only [astep] at h
    split at h
    · rename_i i ts ts' hi hts hagg
      split at h
      · rename_i fs hk
        split at h
        · rename_i off sz ag hf
          split at h
          · rename_i hc
            obtain ⟨c1, c2⟩ := hc
            split at h
            · rename_i av' hav
              simp only [Option.some.injEq, Prod.mk.injEq] at h
              obtain ⟨rfl, rfl⟩ := h
              obtain ⟨d, jj, z, hd, -, -, hkk, -⟩ := ti_some hi
              rw [hkk] at hk
              obtain ⟨fields, fd', j, rfl, g1, g2, g3, g4, g5, d3, hd3⟩ := kind_st hk hf
              have hx := a1_rel (hev x)
              rw [hagg] at hx hts
              simp only [cells1, Option.some.injEq] at hts
              subst hts
              obtain ⟨cs, hu, hl, hrow⟩ := hx
              have hsplit : ts' = ts'.take off ++ (((ts'.drop off).take sz) ++ ts'.drop (off + sz)) := by
                rw [← List.drop_drop, List.take_append_drop, List.take_append_drop]
              rw [hsplit, relTRow_append] at hrow
              obtain ⟨Fa, Fb, h1, h2, he⟩ := hrow
              rw [relTRow_append] at h2
              obtain ⟨Fs, Fc, h3, h4, rfl⟩ := h2
              have hFs : Fs = fz := by
                funext y
                have := congrFun he y
                simp only [fz, fa] at this ⊢
                omega
              subst hFs
              have htk : (ts'.take off).length = off := by simp; omega
              rw [htk, Nat.zero_add] at h3
              have hcl : off + sz ≤ cs.size := by omega
              obtain ⟨v, hv1, hv2, hv3⟩ : ∃ v, (part fd'.type cs off).run P w = .ok v w ∧ (ag = true → v = .agg ((cs.toList.drop off).take sz).toArray) ∧ (ag = false → cs[off]? = some v) := by
                cases ag with
                | true =>
                  refine ⟨_, ?_, fun _ => rfl, fun h => by simp at h⟩
                  simp only [part, Sem.run_bind, run_isAgg hd3, g5, Result.andThen_ok, if_true, run_size g3, Sem.run_pure, g4]
                  congr 2
                  apply Array.ext'
                  simp [List.extract_eq_take_drop]
                | false =>
                  have h1 := ofCells_one hav
                  rw [c2] at h1
                  have hlt : off < cs.size := by omega
                  refine ⟨cs[off], ?_, fun h => by simp at h, fun _ => by simp [hlt]⟩
                  simp only [part, Sem.run_bind, run_isAgg hd3, g5, Result.andThen_ok, Bool.false_eq_true, if_false]
                  simp [hlt]
              refine Ok.keep (exec_v (sv := Instr.field t (a.eval x) f) (by rw [execOp, hop]) ?_) (ofCells_rel hav h3 (by rw [c2]; exact hcl) (fun h => by rw [c2]; exact hv2 h) hv3) hH hg
              rw [hu]
              simp [Instr.field, run_underlying hd, g1, asAgg, g2, hv1]
            · simp at h
          · simp at h
        · simp at h
      · simp at h
    · simp at h
  case indexAddr t x ix =>
    simp only [astep] at h
    split at h
    · rename_i i tt n hi hx hn
      split at h
      · rename_i e hk
        split at h
        · rename_i j hj
          split at h
          · rename_i p hp
            simp only [Option.some.injEq, Prod.mk.injEq] at h
            obtain ⟨rfl, rfl⟩ := h
            obtain ⟨d, jj, z, hd, -, -, hkk, -⟩ := ti_some hi
            rw [hkk] at hk
            have := kind_slice hk
            subst this
            obtain ⟨d3, j3, z3, hd3, hj3, -, -, hs3, -⟩ := ti_some hj
            rw [hs3] at hp
            obtain ⟨k, hk2⟩ := int_rel hn (hev ix)
            obtain ⟨v, r1, r2⟩ := indexAt_sound (P := P) (k := k) hp hd hj3 (one_rel hx (hev x)) hH
            exact Ok.keep (exec_v (sv := Instr.indexAt t (a.eval x) (a.eval ix)) (by rw [execOp, hop]) (by rw [hk2]; exact r1)) r2 hH hg
          · simp at h
        · simp at h
      · simp at h
    · simp at h
  case index t x ix =>
    simp only [astep] at h
    split at h
    · rename_i i z n hi hz hn
      split at h
      · rename_i k hk hidx
        simp only [Option.some.injEq, Prod.mk.injEq] at h
        obtain ⟨rfl, rfl⟩ := h
        obtain ⟨d, jj, zz, hd, -, -, hkk, -⟩ := ti_some hi
        rw [hkk] at hk
        have := kind_str hk
        subst this
        obtain ⟨rfl, hlt⟩ := idx_some hidx
        obtain ⟨kk, hk2⟩ := int_rel hn (hev ix)
        have hu := (val_rel hz (hev x)).1
        refine Ok.keep (u := .int .u8 ((z.data.toList.getD k 0).toNat : Int)) (exec_v (sv := Instr.index t (a.eval x) (a.eval ix)) (by rw [execOp, hop]) ?_) (by simp [mkOne, relAV, relA1, relT, scal]) hH hg
        rw [hu, hk2]
        have hlt2 : k < z.data.size := hlt
        have hg : z[k]? = some (z.data.toList.getD k 0) := by
          rw [getElem?_pos z k hlt]
          simp only [List.getD, Array.getElem?_toList, getElem?_pos z.data k hlt2, Option.getD_some]
          rfl
        simp [Instr.index, asIntOf, run_underlying hd, hg]
      · simp at h
    · simp at h
  case extract x ix =>
    simp only [astep] at h
    split at h
    · rename_i as_ he
      split at h
      · rename_i a1 ha1
        simp only [Option.some.injEq, Prod.mk.injEq] at h
        obtain ⟨rfl, rfl⟩ := h
        have hx := hev x
        rw [he] at hx
        obtain ⟨us, hu, hus⟩ := hx
        have hget : ∀ (as_ : List A1) (us : List Value) (F : FP) (k : Nat) (a1 : A1), relAL R w M as_ us F → as_[k]? = some a1 → ∃ v F1, us[k]? = some v ∧ relA1 R w M a1 v F1 ∧ ∀ b, F1 b ≤ F b := by
          intro as_
          induction as_ with
          | nil => intro us F k a1 _ h; simp at h
          | cons x as_ ih =>
            intro us F k a1 h hk
            cases us with
            | nil => exact h.elim
            | cons u us =>
              obtain ⟨F1, F2, h1, h2, rfl⟩ := h
              cases k with
              | zero => simp at hk; subst hk; exact ⟨u, F1, rfl, h1, fun b => by simp only [fa]; omega⟩
              | succ k =>
                obtain ⟨v, F3, g1, g2, g3⟩ := ih us F2 k a1 h2 (by simpa using hk)
                exact ⟨v, F3, by simpa using g1, g2, fun b => by have := g3 b; simp only [fa]; omega⟩
        obtain ⟨v, F1, g1, g2, g3⟩ := hget as_ us fz ix a1 hus ha1
        have : F1 = fz := by
          funext b
          have := g3 b
          simp only [fz] at this ⊢
          omega
        subst this
        refine Ok.keep (u := v) (exec_v (sv := Instr.extract (a.eval x) ix) (by rw [execOp, hop]) ?_) g2 hH hg
        rw [hu]
        simp [Instr.extract, g1]
      · simp at h
    · simp at h
  case call cc =>
    obtain ⟨callee, args, ts⟩ := cc
    cases callee <;> simp only [astep] at h <;> try (simp at h; done)
    exact abuiltin_sound hop h henv hH hg
  all_goals simp [astep] at h
end Go.Proofs.YtgeoipplkjgnfaaDoor.E
