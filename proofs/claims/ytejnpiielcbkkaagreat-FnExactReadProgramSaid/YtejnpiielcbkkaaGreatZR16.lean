/- A part of what stands under the laws of this seat: an abstract evaluator that is proved sound, and contracts of functions by it. No condition beside those that stand in each statement. -/
import Derived.Test.YtejnpiielcbkkaaGreatZR15
set_option linter.unusedVariables false
set_option linter.unusedSimpArgs false
section
set_option maxRecDepth 100000
set_option maxHeartbeats 4000000
namespace Go.Proofs.YtejnpiielcbkkaaGreat.E
/-! ### Factors and values, plainly -/
abbrev bOpen : ByteArray := ⟨#[40]⟩
abbrev bShut : ByteArray := ⟨#[41]⟩
abbrev bNot : ByteArray := ⟨#[110, 111, 116]⟩
abbrev bNeg : ByteArray := ⟨#[45]⟩
def facOf (V F : Rd → Rd × Int) (r : Rd) : Rd × Int :=
 if (r.place != 0) = true then (r, 0)
 else if ((nextS r).kind == 2) = true then (putR (advR r) ⟨1, (nextS r).num, noB, noB, noB, []⟩, (r.prog.nodes.length : Int))
 else if isR r bOpen = true then (wantL (V (advR r)).1 [bShut], (V (advR r)).2)
 else if isR r bNot = true then (putR (F (advR r)).1 ⟨4, 0, noB, noB, noB, [(F (advR r)).2]⟩, ((F (advR r)).1.prog.nodes.length : Int))
 else if isR r bNeg = true then (putR (F (advR r)).1 ⟨5, 0, noB, noB, noB, [(F (advR r)).2]⟩, ((F (advR r)).1.prog.nodes.length : Int))
 else if ((nameR r).1.place != 0) = true then ((nameR r).1, 0)
 else (putR (nameR r).1 ⟨2, 0, (nameR r).2, noB, noB, []⟩, ((nameR r).1.prog.nodes.length : Int))
def valueOf (F : Rd → Rd × Int) : Rd → Rd × Int := chain (chain (chain (chain F false lMul) false lAdd) true lLess) false lAnd
def facN : Nat → Rd → Rd × Int
 | 0 => fun r => (r, 0)
 | n + 1 => facOf (valueOf (facN n)) (facN n)
/-- What a step of a reader keeps. -/
def Keep (r r' : Rd) : Prop := RdOk r' ∧ r'.list = r.list ∧ r.cur ≤ r'.cur ∧ pot r' ≤ pot r
theorem Keep.refl {r : Rd} (h : RdOk r) : Keep r r := ⟨h, rfl, Nat.le_refl _, Nat.le_refl _⟩
theorem Keep.trans {a b c : Rd} (h : Keep a b) (g : Keep b c) : Keep a c := ⟨g.1, g.2.1.trans h.2.1, Nat.le_trans h.2.2.1 g.2.2.1, Nat.le_trans g.2.2.2 h.2.2.2⟩
theorem wrong_keep {r : Rd} (h : RdOk r) : Keep r (wrongR r) := by
 refine ⟨wrongR_ok h, ?_, ?_, ?_⟩ <;> unfold wrongR <;> split <;> first | rfl | exact Nat.le_refl _
theorem adv_keep {r : Rd} (h : RdOk r) (hc : r.cur < r.list.length) : Keep r (advR r) := ⟨advR_ok h hc, rfl, Nat.le_succ _, by have := pot_adv hc; omega⟩
theorem wantOne_keep {r : Rd} {s : ByteArray} (hs : s.size ≠ 0) (h : RdOk r) : Keep r (wantOne r s) := by
 unfold wantOne
 split
 ·split
  ·rename_i hi; exact adv_keep h (isR_in hs hi)
  ·exact wrong_keep h
 ·exact Keep.refl h
theorem wantL_keep : ∀ {xs : List ByteArray} {r : Rd}, (∀ s ∈ xs, s.size ≠ 0) → RdOk r → Keep r (wantL r xs)
 | [], r, _, h => Keep.refl h
 | x :: xs, r, hs, h =>
  have h1 := wantOne_keep (hs x (List.mem_cons_self ..)) h
  h1.trans (wantL_keep (xs := xs) (fun s hm => hs s (List.mem_cons_of_mem _ hm)) h1.1)
theorem shut_ne : ∀ s ∈ [bShut], s.size ≠ 0 := by
 intro s hs
 simp only [List.mem_cons, List.not_mem_nil, or_false] at hs
 subst hs; decide
theorem name_keep {r : Rd} (h : RdOk r) : Keep r (nameR r).1 := by
 unfold nameR
 split
 ·exact wrong_keep h
 ·split
  ·exact wrong_keep h
  ·rename_i hk
   split
   ·exact wrong_keep h
   ·refine adv_keep h (nextS_in (.inl ?_))
    intro h0; rw [h0] at hk; exact hk rfl
theorem wrong_place {r : Rd} (h : RdOk r) : ((wrongR r).place != 0) = true := by
 obtain ⟨b0, -⟩ := nextS_bd h
 unfold wrongR
 split
 ·rw [bne_iff_ne]; show (nextS r).pos + 1 ≠ 0; omega
 ·rename_i hp; simpa using hp
/-- A name that is right takes a sign. -/
theorem name_right {r : Rd} (h : RdOk r) (hp : ((nameR r).1.place != 0) = false) : pot (nameR r).1 + 4 = pot r := by
 unfold nameR at hp ⊢
 split
 ·rename_i h1; rw [if_pos h1, wrong_place h] at hp; cases hp
 ·rename_i h1
  rw [if_neg h1] at hp
  split
  ·rename_i h2; rw [if_pos h2, wrong_place h] at hp; cases hp
  ·rename_i h2
   rw [if_neg h2] at hp
   split
   ·rename_i h3; rw [if_pos h3, wrong_place h] at hp; cases hp
   ·exact pot_adv (nextS_in (.inl (by intro h0; rw [h0] at h2; exact h2 rfl)))
theorem put_keep {a b : Rd} {n : Node} (h : RdOk b) (hl : b.list = a.list) (hc : a.cur ≤ b.cur) (hp : pot b + 1 ≤ pot a) : Keep a (putR b n) := by
 refine ⟨putR_ok h, hl, hc, ?_⟩
 have e : pot (putR b n) = pot b + 1 := by
  show (b.prog.nodes ++ [n]).length + 4 * (b.list.length - b.cur) = _
  rw [List.length_append, List.length_singleton]; unfold pot; omega
 omega
theorem Part.keep {n : Nat} {P : Rd → Rd × Int} (hP : Part n P) {r : Rd} (h : RdOk r) (hn : r.list.length - r.cur < n) : Keep r (P r).1 := ⟨hP.ok r h hn, hP.same r h hn, hP.cur r h hn, hP.pot r h hn⟩
theorem part_of {n : Nat} {P : Rd → Rd × Int} (h : ∀ r, RdOk r → r.list.length - r.cur < n → Keep r (P r).1) : Part n P := ⟨fun r a b => (h r a b).1, fun r a b => (h r a b).2.1, fun r a b => (h r a b).2.2.1, fun r a b => (h r a b).2.2.2⟩
theorem facOf_part {n : Nat} {V F : Rd → Rd × Int} (hV : Part n V) (hF : Part n F) : Part (n + 1) (facOf V F) := by
 refine part_of fun r h hn => ?_
 have adv : r.cur < r.list.length → RdOk (advR r) ∧ (advR r).list.length - (advR r).cur < n ∧ pot (advR r) + 4 = pot r := fun hc => ⟨advR_ok h hc, by show r.list.length - (r.cur + 1) < n; omega, pot_adv hc⟩
 have hput : ∀ (hc : r.cur < r.list.length) (nd : Int → Node), Keep r (putR (F (advR r)).1 (nd (F (advR r)).2)) := fun hc nd => by
  obtain ⟨a1, a2, a3⟩ := adv hc
  obtain ⟨k1, k2, k3, k4⟩ := hF.keep a1 a2
  exact put_keep k1 k2 (Nat.le_trans (Nat.le_succ _) k3) (by omega)
 unfold facOf
 split
 ·exact Keep.refl h
 ·split
  ·rename_i hk
   have hc := nextS_in (r := r) (.inl (by rw [beq_iff_eq] at hk; rw [hk]; decide))
   obtain ⟨a1, a2, a3⟩ := adv hc
   exact put_keep a1 rfl (Nat.le_succ _) (by omega)
  ·split
   ·rename_i hi
    have hc := isR_in (by decide) hi
    obtain ⟨a1, a2, a3⟩ := adv hc
    have k := hV.keep a1 a2
    exact (adv_keep h hc).trans (k.trans (wantL_keep shut_ne k.1))
   ·split
    ·rename_i hi
     exact hput (isR_in (by decide) hi) (fun k => ⟨4, 0, noB, noB, noB, [k]⟩)
    ·split
     ·rename_i hi
      exact hput (isR_in (by decide) hi) (fun k => ⟨5, 0, noB, noB, noB, [k]⟩)
     ·split
      ·exact name_keep h
      ·rename_i hp
       obtain ⟨k1, k2, k3, -⟩ := name_keep h
       have := name_right h (by simpa using hp)
       exact put_keep k1 k2 k3 (by omega)
theorem valueOf_part {n : Nat} {F : Rd → Rd × Int} (hF : Part n F) : Part n (valueOf F) := chain_part (chain_part (chain_part (chain_part hF lMul_ne) lAdd_ne) lLess_ne) lAnd_ne
theorem facN_part : ∀ n, Part n (facN n)
 | 0 => ⟨fun r _ h => by omega, fun r _ h => by omega, fun r _ h => by omega, fun r _ h => by omega⟩
 | n + 1 => facOf_part (valueOf_part (facN_part n)) (facN_part n)
end Go.Proofs.YtejnpiielcbkkaaGreat.E
end
section
set_option maxRecDepth 100000
set_option maxHeartbeats 4000000
namespace Go.Proofs.YtejnpiielcbkkaaGreat.E
theorem shut_rows : ([[T.v (.string ⟨#[41]⟩)]] : List (List T)) = strsT [bShut] := rfl
theorem take_yes {r : Rd} {s : ByteArray} (h : isR r s = true) : takeR r s = advR r := by unfold takeR; rw [if_pos h]
theorem take_no {r : Rd} {s : ByteArray} (h : isR r s = false) : takeR r s = r := by unfold takeR; rw [if_neg (by rw [h]; simp)]
/-- The contract of a part of the reader, for readers with fewer than n signs left. -/
def Does (f : FuncId) (n : Nat) (P : Rd → Rd × Int) : Prop := ∀ r, RdOk r → r.list.length - r.cur < n → pot r ≤ 1000000 → CallOk Tryz.prog f [.one (.box (rdT r))] (.s (.one (iV (P r).2))) [some (.box (rdT (P r).1))]
theorem value_does {n : Nat} {F : Rd → Rd × Int} (hF : Part n F) (h : Does 278 n F) : Does 221 n (valueOf F) := by
 have p1 := chain_part (once := false) hF lMul_ne
 have p2 := chain_part (once := false) p1 lAdd_ne
 have p3 := chain_part (once := true) p2 lLess_ne
 have d1 : Does 276 n (chain F false lMul) := fun r a b c => rTerm_ok F n hF h r a b c
 have d2 : Does 274 n (chain (chain F false lMul) false lAdd) := fun r a b c => rSum_ok _ n p1 d1 r a b c
 have d3 : Does 262 n (chain (chain (chain F false lMul) false lAdd) true lLess) := fun r a b c => rPart_ok _ n p2 d2 r a b c
 exact fun r a b c => rValue_ok _ n p3 d3 r a b c
theorem factor_does {n : Nat} {V F : Rd → Rd × Int} (hV : Part n V) (hF : Part n F) (dV : Does 221 n V) (dF : Does 278 n F) : Does 278 (n + 1) (facOf V F) := by
 intro r h hn hp
 have hnx := rNext_ok r h
 have hl5 := h.len
 have hkin := nextS_in (r := r)
 have hnd : r.prog.nodes.length ≤ 1000000 := Nat.le_trans (Nat.le_add_right _ _) hp
 have hadv : advR r = ⟨r.list, r.size, r.cur + 1, r.place, r.prog⟩ := rfl
 have k1 := rTake_ok r bOpen (by decide) h
 have k2 := rTake_ok r bNot (by decide) h
 have k3 := rTake_ok r bNeg (by decide) h
 have hname := rName_ok r h
 have hnk := name_keep h
 obtain ⟨S, hS⟩ : ∃ S, nextS r = S := ⟨_, rfl⟩
 have hfac : facOf V F r = if (r.place != 0) = true then (r, 0)
  else if (S.kind == 2) = true then (putR (advR r) ⟨1, S.num, noB, noB, noB, []⟩, (r.prog.nodes.length : Int))
  else if isR r bOpen = true then (wantL (V (advR r)).1 [bShut], (V (advR r)).2)
  else if isR r bNot = true then (putR (F (advR r)).1 ⟨4, 0, noB, noB, noB, [(F (advR r)).2]⟩, ((F (advR r)).1.prog.nodes.length : Int))
  else if isR r bNeg = true then (putR (F (advR r)).1 ⟨5, 0, noB, noB, noB, [(F (advR r)).2]⟩, ((F (advR r)).1.prog.nodes.length : Int))
  else if ((nameR r).1.place != 0) = true then ((nameR r).1, 0)
  else (putR (nameR r).1 ⟨2, 0, (nameR r).2, noB, noB, []⟩, ((nameR r).1.prog.nodes.length : Int)) := by unfold facOf; rw [hS]
 rw [hS] at hnx hkin
 clear hS
 rw [hfac]
 clear hfac
 have i0 : intsT [] = [] := rfl
 cases h1 : (r.place != 0)
 ·rw [if_neg (by simp)]
  cases h2 : (S.kind == 2)
  ·rw [if_neg (by simp)]
   cases q1 : isR r bOpen
   ·rw [if_neg (by simp)]
    rw [take_no q1, q1] at k1
    cases q2 : isR r bNot
    ·rw [if_neg (by simp)]
     rw [take_no q2, q2] at k2
     cases q3 : isR r bNeg
     ·rw [if_neg (by simp)]
      rw [take_no q3, q3] at k3
      obtain ⟨⟨X, nm⟩, hX⟩ : ∃ x, nameR r = x := ⟨_, rfl⟩
      rw [hX] at hname hnk ⊢
      dsimp only at hname hnk ⊢
      obtain ⟨n1, n2, n3, n4⟩ := hnk
      have hxn : X.prog.nodes.length ≤ 1000000 := Nat.le_trans (Nat.le_trans (Nat.le_add_right _ _) n4) hp
      clear hX n2
      cases h3 : (X.place != 0)
      ·rw [if_neg (by simp)]
       have hput := rPut_ok X ⟨2, 0, nm, noB, noB, []⟩ (by omega) (by simp)
       dsimp only
       refine cOh 40 (hBd Tryz.func278 rfl (by kernel_rfl) ?_)
       simp (disch := omega) only [go_sem, Tryz.ntmps278, Tryz.results278]
       have x1 := @aNl
       have x2 : HC 1 _ := ⟨k1⟩
       have x3 : HC 2 _ := ⟨k2⟩
       have x4 : HC 3 _ := ⟨k3⟩
       exact wks
      ·rw [if_pos rfl]
       dsimp only
       refine cOh 40 (hBd Tryz.func278 rfl (by kernel_rfl) ?_)
       simp (disch := omega) only [go_sem, Tryz.ntmps278, Tryz.results278]
       have x1 : HC 1 _ := ⟨k1⟩
       have x2 : HC 2 _ := ⟨k2⟩
       have x3 : HC 3 _ := ⟨k3⟩
       exact wks
     ·rw [if_pos rfl]
      rw [take_yes q3, q3] at k3
      have hc := isR_in (by decide) q3
      have hd := dF (advR r) (advR_ok h hc) (by show r.list.length - (r.cur + 1) < n; omega) (by have := pot_adv hc; omega)
      obtain ⟨-, -, -, p4⟩ := hF.keep (advR_ok h hc) (by show r.list.length - (r.cur + 1) < n; omega)
      have hpa := pot_adv hc
      obtain ⟨⟨X, o⟩, hX⟩ : ∃ x, F (advR r) = x := ⟨_, rfl⟩
      rw [hX] at hd p4 ⊢
      dsimp only at hd p4 ⊢
      have hxn : X.prog.nodes.length ≤ 1000000 := Nat.le_trans (Nat.le_trans (Nat.le_add_right _ _) p4) (by omega)
      have hput := rPut_ok X ⟨5, 0, noB, noB, noB, [o]⟩ (by omega) (by simp)
      have i1 : intsT [o] = [[T.v (.int .i64 o)]] := rfl
      rw [hadv] at k3 hd
      clear hX hadv
      refine cOh 40 (hBd Tryz.func278 rfl (by kernel_rfl) ?_)
      simp (disch := omega) only [go_sem, Tryz.ntmps278, Tryz.results278]
      repeat' (first | (with_reducible first | refine i_seq ?_) | ((first | (with_reducible first | refine iBk ?_ | refine iRQ (fun Q' hQ => ?_) | (refine Imp.go hQ ?_; clear hQ)) | ((with_reducible refine i_condT ?_ ?_); (focus (simp only [go_sem, *]; done))) | ((with_reducible refine i_condF ?_ ?_); (focus (simp only [go_sem, *]; done))) | ((with_reducible first | refine rOg (fun h => ?_) (fun h => ?_) | refine i_cond (by simp only [go_sem, *] <;> rfl) (fun h => ?_) (fun h => ?_)) <;> (try simp only [nqA, nqB, nqC, reduceCtorEq] at h) <;> (try have h' := odT h) <;> (try (have hz : (_ : Int) = (_ : Int) := h'; clear hz h')) <;> (try have h' := odF h) <;> (try have h' := inB_t h) <;> (try (exfalso; omega))) | ((first | ((with_reducible first | refine hcO 40 true (hnx) ?_ ?_ ?_ ?_ ?_ | refine hcO 40 true (hput) ?_ ?_ ?_ ?_ ?_); iterate 4 (focus (simp (disch := omega) only [go_sem, h1, h2, aNl, i1, reduceCtorEq, nLo]; done))) | ((with_reducible refine hcO 40 true (k1) ?_ ?_ ?_ ?_ ?_); iterate 4 (focus (simp (disch := omega) only [go_sem, h1, h2, aNl, i1, reduceCtorEq, nLo]; done))) | ((with_reducible refine hcO 40 true (k2) ?_ ?_ ?_ ?_ ?_); iterate 4 (focus (simp (disch := omega) only [go_sem, h1, h2, aNl, i1, reduceCtorEq, nLo]; done))) | ((with_reducible refine hcO 40 true (k3) ?_ ?_ ?_ ?_ ?_); iterate 4 (focus (simp (disch := omega) only [go_sem, h1, h2, aNl, i1, reduceCtorEq, nLo]; done))) | ((with_reducible refine hcO 40 true (hd) ?_ ?_ ?_ ?_ ?_); iterate 4 (focus (simp (disch := omega) only [go_sem, h1, h2, aNl, i1, reduceCtorEq, nLo]; done)))); simp only [go_sem, h1, h2, aNl, i1, reduceCtorEq]; refine aLr ?_)) <;> (try simp (disch := first | omega | (simp only [sAp, size_mk, List.size_toArray, List.length_cons, List.length_nil]; omega)) only [go_sem, h1, h2, aNl, i1, reduceCtorEq, *])))
      all_goals (try simp (disch := omega) only [EndK, go_sem, h1, h2, aNl, i1, reduceCtorEq, nLo, *])
    ·rw [if_pos rfl]
     rw [take_yes q2, q2] at k2
     have hc := isR_in (by decide) q2
     have hd := dF (advR r) (advR_ok h hc) (by show r.list.length - (r.cur + 1) < n; omega) (by have := pot_adv hc; omega)
     obtain ⟨-, -, -, p4⟩ := hF.keep (advR_ok h hc) (by show r.list.length - (r.cur + 1) < n; omega)
     have hpa := pot_adv hc
     obtain ⟨⟨X, o⟩, hX⟩ : ∃ x, F (advR r) = x := ⟨_, rfl⟩
     rw [hX] at hd p4 ⊢
     dsimp only at hd p4 ⊢
     have hxn : X.prog.nodes.length ≤ 1000000 := Nat.le_trans (Nat.le_trans (Nat.le_add_right _ _) p4) (by omega)
     have hput := rPut_ok X ⟨4, 0, noB, noB, noB, [o]⟩ (by omega) (by simp)
     have i1 : intsT [o] = [[T.v (.int .i64 o)]] := rfl
     rw [hadv] at k2 hd
     clear hX hadv
     refine cOh 40 (hBd Tryz.func278 rfl (by kernel_rfl) ?_)
     simp (disch := omega) only [go_sem, Tryz.ntmps278, Tryz.results278]
     repeat' (first | (with_reducible first | refine i_seq ?_) | ((first | (with_reducible first | refine iBk ?_ | refine iRQ (fun Q' hQ => ?_) | (refine Imp.go hQ ?_; clear hQ)) | ((with_reducible refine i_condT ?_ ?_); (focus (simp only [go_sem, *]; done))) | ((with_reducible refine i_condF ?_ ?_); (focus (simp only [go_sem, *]; done))) | ((with_reducible first | refine rOg (fun h => ?_) (fun h => ?_) | refine i_cond (by simp only [go_sem, *] <;> rfl) (fun h => ?_) (fun h => ?_)) <;> (try simp only [nqA, nqB, nqC, reduceCtorEq] at h) <;> (try have h' := odT h) <;> (try (have hz : (_ : Int) = (_ : Int) := h'; clear hz h')) <;> (try have h' := odF h) <;> (try have h' := inB_t h) <;> (try (exfalso; omega))) | ((first | ((with_reducible first | refine hcO 40 true (hnx) ?_ ?_ ?_ ?_ ?_ | refine hcO 40 true (hput) ?_ ?_ ?_ ?_ ?_); iterate 4 (focus (simp (disch := omega) only [go_sem, h1, h2, aNl, i1, reduceCtorEq, nLo]; done))) | ((with_reducible refine hcO 40 true (k1) ?_ ?_ ?_ ?_ ?_); iterate 4 (focus (simp (disch := omega) only [go_sem, h1, h2, aNl, i1, reduceCtorEq, nLo]; done))) | ((with_reducible refine hcO 40 true (k2) ?_ ?_ ?_ ?_ ?_); iterate 4 (focus (simp (disch := omega) only [go_sem, h1, h2, aNl, i1, reduceCtorEq, nLo]; done))) | ((with_reducible refine hcO 40 true (hd) ?_ ?_ ?_ ?_ ?_); iterate 4 (focus (simp (disch := omega) only [go_sem, h1, h2, aNl, i1, reduceCtorEq, nLo]; done)))); simp only [go_sem, h1, h2, aNl, i1, reduceCtorEq]; refine aLr ?_)) <;> (try simp (disch := first | omega | (simp only [sAp, size_mk, List.size_toArray, List.length_cons, List.length_nil]; omega)) only [go_sem, h1, h2, aNl, i1, reduceCtorEq, *])))
     all_goals (try simp (disch := omega) only [EndK, go_sem, h1, h2, aNl, i1, reduceCtorEq, nLo, *])
   ·rw [if_pos rfl]
    rw [take_yes q1, q1] at k1
    have hc := isR_in (by decide) q1
    have hd := dV (advR r) (advR_ok h hc) (by show r.list.length - (r.cur + 1) < n; omega) (by have := pot_adv hc; omega)
    obtain ⟨p1, -, -, -⟩ := hV.keep (advR_ok h hc) (by show r.list.length - (r.cur + 1) < n; omega)
    obtain ⟨⟨X, o⟩, hX⟩ : ∃ x, V (advR r) = x := ⟨_, rfl⟩
    rw [hX] at hd p1 ⊢
    dsimp only at hd p1 ⊢
    have hw := rWant_ok X [bShut] shut_ne (by decide) p1
    obtain ⟨Y, hY⟩ : ∃ Y, wantL X [bShut] = Y := ⟨_, rfl⟩
    rw [hY] at hw ⊢
    rw [hadv] at k1 hd
    have tk1 : [bShut].take 1 = [bShut] := rfl
    clear hX hY hadv
    refine cOh 40 (hBd Tryz.func278 rfl (by kernel_rfl) ?_)
    simp (disch := omega) only [go_sem, Tryz.ntmps278, Tryz.results278]
    repeat' (first | (with_reducible first | refine i_seq ?_) | ((first | (with_reducible first | refine iBk ?_ | refine iRQ (fun Q' hQ => ?_) | (refine Imp.go hQ ?_; clear hQ)) | ((with_reducible refine i_condT ?_ ?_); (focus (simp only [go_sem, *]; done))) | ((with_reducible refine i_condF ?_ ?_); (focus (simp only [go_sem, *]; done))) | ((with_reducible first | refine rOg (fun h => ?_) (fun h => ?_) | refine i_cond (by simp only [go_sem, *] <;> rfl) (fun h => ?_) (fun h => ?_)) <;> (try simp only [nqA, nqB, nqC, reduceCtorEq] at h) <;> (try have h' := odT h) <;> (try (have hz : (_ : Int) = (_ : Int) := h'; clear hz h')) <;> (try have h' := odF h) <;> (try have h' := inB_t h) <;> (try (exfalso; omega))) | ((first | ((with_reducible first | refine hcO 40 true (hnx) ?_ ?_ ?_ ?_ ?_ | refine hcO 40 true (k1) ?_ ?_ ?_ ?_ ?_ | refine hcO 40 true (hw) ?_ ?_ ?_ ?_ ?_); iterate 4 (focus (simp (disch := omega) only [go_sem, h1, h2, shut_rows, tk1, List.length_singleton, reduceCtorEq, nLo]; done))) | ((with_reducible refine hcO 40 true (hd) ?_ ?_ ?_ ?_ ?_); iterate 4 (focus (simp (disch := omega) only [go_sem, h1, h2, shut_rows, tk1, List.length_singleton, reduceCtorEq, nLo]; done)))); simp only [go_sem, h1, h2, shut_rows, tk1, List.length_singleton, reduceCtorEq]; refine aLr ?_)) <;> (try simp (disch := first | omega | (simp only [sAp, size_mk, List.size_toArray, List.length_cons, List.length_nil]; omega)) only [go_sem, h1, h2, shut_rows, tk1, List.length_singleton, reduceCtorEq, *])))
    all_goals (try simp (disch := omega) only [EndK, go_sem, h1, h2, shut_rows, tk1, List.length_singleton, reduceCtorEq, nLo, *])
  ·rw [if_pos rfl]
   have hc := hkin (.inl (by rw [beq_iff_eq] at h2; rw [h2]; decide))
   have hput := rPut_ok (advR r) ⟨1, S.num, noB, noB, noB, []⟩ (by show r.prog.nodes.length ≤ _; omega) (by simp)
   rw [hadv] at hput ⊢
   dsimp only at hput ⊢
   clear hadv
   refine cOh 40 (hBd Tryz.func278 rfl (by kernel_rfl) ?_)
   simp (disch := omega) only [go_sem, Tryz.ntmps278, Tryz.results278]
   have x1 := @aNl
   exact wks
 ·rw [if_pos rfl]
  dsimp only
  refine cOh 40 (hBd Tryz.func278 rfl (by kernel_rfl) ?_)
  simp (disch := omega) only [go_sem, Tryz.ntmps278, Tryz.results278]
  exact wks
end Go.Proofs.YtejnpiielcbkkaaGreat.E
end
section
set_option maxRecDepth 100000
set_option maxHeartbeats 4000000
namespace Go.Proofs.YtejnpiielcbkkaaGreat.E
/-- Factors and values are read as_ told, however long. -/
theorem factor_all : ∀ n, Does 278 n (facN n)
 | 0 => fun r _ h => absurd h (Nat.not_lt_zero _)
 | n + 1 => factor_does (valueOf_part (facN_part n)) (facN_part n) (value_does (facN_part n) (factor_all n)) (factor_all n)
theorem value_all (n : Nat) : Does 221 n (valueOf (facN n)) := value_does (facN_part n) (factor_all n)
/-! Names with a comma between. -/
abbrev bComma : ByteArray := ⟨#[44]⟩
def namesF : Nat → Rd → List ByteArray → Rd × List ByteArray
 | 0, r, acc => (r, acc)
 | n + 1, r, acc => if isR r bComma = true then namesF n (nameR (advR r)).1 (acc ++ [(nameR (advR r)).2]) else (r, acc)
def namesR (r : Rd) : Rd × List ByteArray := namesF (r.list.length + 1) (nameR r).1 [(nameR r).2]
theorem namesF_keep : ∀ (n : Nat) (r : Rd) (acc : List ByteArray), RdOk r → Keep r (namesF n r acc).1 := by
 intro n
 induction n with
 | zero => intro r acc h; exact Keep.refl h
 | succ n ih =>
  intro r acc h
  unfold namesF
  split
  ·rename_i hi
   have h1 := adv_keep h (isR_in (by decide) hi)
   have h2 := name_keep h1.1
   exact h1.trans (h2.trans (ih _ _ h2.1))
  ·exact Keep.refl h
theorem namesR_keep {r : Rd} (h : RdOk r) : Keep r (namesR r).1 := (name_keep h).trans (namesF_keep _ _ _ (name_keep h).1)
theorem rNames_ok (r : Rd) (h : RdOk r) : CallOk Tryz.prog 96 [.one (.box (rdT r))] (.s (.one (.own 1 (strsT (namesR r).2)))) [some (.box (rdT (namesR r).1))] := by
 have hname := rName_ok r h
 obtain ⟨q1, q2, q3, -⟩ := name_keep h
 have hl5 := h.len
 obtain ⟨⟨R0, n0⟩, hR0⟩ : ∃ x, nameR r = x := ⟨_, rfl⟩
 have hnr : namesR r = namesF (r.list.length + 1) R0 [n0] := by unfold namesR; rw [hR0]
 rw [hR0] at hname q1 q2 q3
 dsimp only at hname q1 q2 q3
 rw [hnr]
 clear hnr hR0
 have q5 : R0.list.length ≤ r.list.length := by rw [q2]; exact Nat.le_refl _
 have q6 : r.list.length ≤ R0.list.length := by rw [q2]; exact Nat.le_refl _
 clear q2
 obtain ⟨⟨RR, RL⟩, hRES⟩ : ∃ x, namesF (r.list.length + 1) R0 [n0] = x := ⟨_, rfl⟩
 rw [hRES]
 dsimp only
 have i1 : ([[T.v (.string n0)]] : List (List T)) = strsT [n0] := rfl
 refine cOh 40 (hBd Tryz.func96 rfl (by kernel_rfl) ?_)
 simp (disch := omega) only [go_sem, Tryz.ntmps96, Tryz.results96]
 repeat' (first | (with_reducible first | refine i_seq ?_) | ((first | (with_reducible first | refine iBk ?_ | refine iRQ (fun Q' hQ => ?_) | (refine Imp.go hQ ?_; clear hQ)) | ((with_reducible refine i_condT ?_ ?_); (focus (simp only [go_sem, *]; done))) | ((with_reducible refine i_condF ?_ ?_); (focus (simp only [go_sem, *]; done))) | ((with_reducible first | refine rOg (fun h => ?_) (fun h => ?_) | refine i_cond (by simp only [go_sem, *] <;> rfl) (fun h => ?_) (fun h => ?_)) <;> (try simp only [nqA, nqB, nqC, reduceCtorEq] at h) <;> (try have h' := odT h) <;> (try (have hz : (_ : Int) = (_ : Int) := h'; clear hz h')) <;> (try have h' := odF h) <;> (try have h' := inB_t h) <;> (try (exfalso; omega))) | (((with_reducible first | refine hcO 40 true (hname) ?_ ?_ ?_ ?_ ?_); iterate 4 (focus (simp (disch := omega) only [go_sem, i1, List.length_singleton, reduceCtorEq, nLo]; done))); simp only [go_sem, i1, List.length_singleton, reduceCtorEq]; refine aLr ?_)) <;> (try simp (disch := first | omega | (simp only [sAp, size_mk, List.size_toArray, List.length_cons, List.length_nil]; omega)) only [go_sem, i1, List.length_singleton, reduceCtorEq, *])))
 all_goals (try simp (disch := omega) only [EndK, go_sem, i1, List.length_singleton, reduceCtorEq, nLo, *])
 refine i_loop (α := {x : Nat × Rd × List ByteArray // RdOk x.2.1 ∧ x.2.1.list.length - x.2.1.cur < x.1 ∧ x.2.1.list.length ≤ 500 ∧ x.2.2.length + x.1 ≤ 600 ∧ namesF x.1 x.2.1 x.2.2 = (RR, RL)}) (fun x => ⟨mkEnv 15 [(0, .one (.ptr 0 0 0)), (3, .one (.ref 1 0 x.1.2.2.length))], [.live 7 [rdT x.1.2.1], .live 1 (strsT x.1.2.2)]⟩) (fun x => x.1.1) ⟨(r.list.length + 1, R0, [n0]), q1, by dsimp only; omega, by dsimp only; omega, by simp only [List.length_singleton]; omega, hRES⟩ ?_ ?_
 ·first | (refine wCn [0, 3] [1] ?_ ?_ ?_ <;> (simp (disch := omega) only [go_sem, i1, List.length_singleton]; done))
 rintro ⟨⟨m, X, acc⟩, g1, g2, g3, g4, he⟩
 dsimp only at g1 g2 g3 g4 he ⊢
 clear hname q1 q3 q5 q6 hRES i1 h hl5
 obtain ⟨m, rfl⟩ : ∃ m', m = m' + 1 := ⟨m - 1, by omega⟩
 have htk := rTake_ok X bComma (by decide) g1
 have hin := isR_in (r := X) (s := bComma) (by decide)
 cases h1 : isR X bComma
 ·rw [take_no h1, h1] at htk
  unfold namesF at he
  rw [h1, if_neg (by simp)] at he
  obtain ⟨rfl, rfl⟩ := Prod.mk.inj he
  clear hin
  simp (disch := omega) only [go_sem]
  exact wks
 ·rw [take_yes h1, h1] at htk
  unfold namesF at he
  rw [h1, if_pos rfl] at he
  have hc := hin h1
  have ha := advR_ok g1 hc
  have hnm := rName_ok (advR X) ha
  obtain ⟨c1, c2, c3, -⟩ := name_keep ha
  obtain ⟨⟨Y, nm⟩, hY⟩ : ∃ x, nameR (advR X) = x := ⟨_, rfl⟩
  rw [hY] at hnm c1 c2 c3 he
  dsimp only at hnm c1 c2 c3 he
  have c5 : Y.list.length ≤ X.list.length := by rw [c2]; exact Nat.le_refl _
  have c6 : X.cur + 1 ≤ Y.cur := c3
  have hadv : advR X = ⟨X.list, X.size, X.cur + 1, X.place, X.prog⟩ := rfl
  rw [hadv] at htk hnm
  clear c2 c3 hY hadv hin ha
  simp (disch := omega) only [go_sem]
  refine wksr ?_
  intros
  all_goals refine ⟨⟨(m, Y, acc ++ [nm]), c1, by dsimp only; omega, by dsimp only; omega, by simp only [List.length_append, List.length_singleton]; omega, he⟩, ?_, by simp only; omega⟩
  all_goals first | (refine wCn [0, 3] [3] ?_ ?_ ?_ <;> (simp (disch := omega) only [go_sem, List.length_append, List.length_singleton]; done))
end Go.Proofs.YtejnpiielcbkkaaGreat.E
end
section
set_option maxRecDepth 100000
set_option maxHeartbeats 4000000
namespace Go.Proofs.YtejnpiielcbkkaaGreat.E
abbrev bDot : ByteArray := ⟨#[46]⟩
abbrev bTo : ByteArray := ⟨#[116, 111]⟩
theorem dot_rows : ([[T.v (.string ⟨#[46]⟩)]] : List (List T)) = strsT [bDot] := rfl
theorem open_rows : ([[T.v (.string ⟨#[40]⟩)]] : List (List T)) = strsT [bOpen] := rfl
theorem tSi (b : ByteArray) : [b].take 1 = [b] := rfl
theorem one_ne {b : ByteArray} (h : b.size ≠ 0) : ∀ s ∈ [b], s.size ≠ 0 := by
 intro s hs
 simp only [List.mem_cons, List.not_mem_nil, or_false] at hs
 subst hs; exact h
theorem Keep.left {n : Nat} {a b : Rd} (h : Keep a b) (hn : a.list.length - a.cur < n) : b.list.length - b.cur < n := by
 have h1 := h.2.1
 have h2 := h.2.2.1
 rw [h1]; omega
/-- A call, plainly. -/
def callP (V : Rd → Rd × Int) (r : Rd) : Rd × Node :=
 let a := nameR r
 let b := nameR (wantL a.1 [bDot])
 let c := V (wantL b.1 [bOpen])
 let d := wantL c.1 [bShut]
 if isR d bTo = true then ((nameR (advR d)).1, ⟨14, 0, a.2, b.2, (nameR (advR d)).2, [c.2]⟩) else (d, ⟨14, 0, a.2, b.2, noB, [c.2]⟩)
theorem rCall_ok {n : Nat} {V : Rd → Rd × Int} (hV : Part n V) (dV : Does 221 n V) (r : Rd) (h : RdOk r) (hn : r.list.length - r.cur < n) (hp : pot r ≤ 1000000) : CallOk Tryz.prog 222 [.one (.box (rdT r))] (.s (.agg (nodeT (callP V r).2))) [some (.box (rdT (callP V r).1))] := by
 have k1 := name_keep h
 have k2 := k1.trans (wantL_keep (one_ne (b := bDot) (by decide)) k1.1)
 have k3 := k2.trans (name_keep k2.1)
 have k4 := k3.trans (wantL_keep (one_ne (b := bOpen) (by decide)) k3.1)
 have k5 := k4.trans (hV.keep k4.1 (k4.left hn))
 have k6 := k5.trans (wantL_keep shut_ne k5.1)
 have c1 := rName_ok r h
 have c2 := rWant_ok (nameR r).1 [bDot] (one_ne (by decide)) (by decide) k1.1
 have c3 := rName_ok _ k2.1
 have c4 := rWant_ok _ [bOpen] (one_ne (by decide)) (by decide) k3.1
 have c5 := dV _ k4.1 (k4.left hn) (Nat.le_trans k4.2.2.2 hp)
 have c6 := rWant_ok _ [bShut] shut_ne (by decide) k5.1
 have c7 := rTake_ok _ bTo (by decide) k6.1
 have c8 := fun (hi : isR (wantL (V (wantL (nameR (wantL (nameR r).1 [bDot])).1 [bOpen])).1 [bShut]) bTo = true) => rName_ok _ (adv_keep k6.1 (isR_in (by decide) hi)).1
 have hcall : callP V r = if isR (wantL (V (wantL (nameR (wantL (nameR r).1 [bDot])).1 [bOpen])).1 [bShut]) bTo = true then ((nameR (advR (wantL (V (wantL (nameR (wantL (nameR r).1 [bDot])).1 [bOpen])).1 [bShut]))).1, ⟨14, 0, (nameR r).2, (nameR (wantL (nameR r).1 [bDot])).2, (nameR (advR (wantL (V (wantL (nameR (wantL (nameR r).1 [bDot])).1 [bOpen])).1 [bShut]))).2, [(V (wantL (nameR (wantL (nameR r).1 [bDot])).1 [bOpen])).2]⟩) else (wantL (V (wantL (nameR (wantL (nameR r).1 [bDot])).1 [bOpen])).1 [bShut], ⟨14, 0, (nameR r).2, (nameR (wantL (nameR r).1 [bDot])).2, noB, [(V (wantL (nameR (wantL (nameR r).1 [bDot])).1 [bOpen])).2]⟩) := rfl
 rw [hcall]
 clear hcall k1 k2 k3 k4 k5
 obtain ⟨⟨A, a⟩, hA⟩ : ∃ x, nameR r = x := ⟨_, rfl⟩
 rw [hA] at c1 c2 c3 c4 c5 c6 c7 c8 k6 ⊢
 dsimp only at c1 c2 c3 c4 c5 c6 c7 c8 k6 ⊢
 obtain ⟨A2, hA2⟩ : ∃ x, wantL A [bDot] = x := ⟨_, rfl⟩
 rw [hA2] at c2 c3 c4 c5 c6 c7 c8 k6 ⊢
 obtain ⟨⟨B, b⟩, hB⟩ : ∃ x, nameR A2 = x := ⟨_, rfl⟩
 rw [hB] at c3 c4 c5 c6 c7 c8 k6 ⊢
 dsimp only at c3 c4 c5 c6 c7 c8 k6 ⊢
 obtain ⟨B2, hB2⟩ : ∃ x, wantL B [bOpen] = x := ⟨_, rfl⟩
 rw [hB2] at c4 c5 c6 c7 c8 k6 ⊢
 obtain ⟨⟨C, c⟩, hC⟩ : ∃ x, V B2 = x := ⟨_, rfl⟩
 rw [hC] at c5 c6 c7 c8 k6 ⊢
 dsimp only at c5 c6 c7 c8 k6 ⊢
 obtain ⟨D, hD⟩ : ∃ x, wantL C [bShut] = x := ⟨_, rfl⟩
 rw [hD] at c6 c7 c8 k6 ⊢
 clear hA hA2 hB hB2 hC hD
 have i1 : intsT [c] = [[T.v (.int .i64 c)]] := rfl
 cases q : isR D bTo
 ·rw [take_no q, q] at c7
  rw [if_neg (by simp)]
  clear c8
  dsimp only
  refine cOh 40 (hBd Tryz.func222 rfl (by kernel_rfl) ?_)
  simp (disch := omega) only [go_sem, Tryz.ntmps222, Tryz.results222]
  repeat' (first | (with_reducible first | refine i_seq ?_) | ((first | (with_reducible first | refine iBk ?_ | refine iRQ (fun Q' hQ => ?_) | (refine Imp.go hQ ?_; clear hQ)) | ((with_reducible refine i_condT ?_ ?_); (focus (simp only [go_sem, *]; done))) | ((with_reducible refine i_condF ?_ ?_); (focus (simp only [go_sem, *]; done))) | ((with_reducible first | refine rOg (fun h => ?_) (fun h => ?_) | refine i_cond (by simp only [go_sem, *] <;> rfl) (fun h => ?_) (fun h => ?_)) <;> (try simp only [nqA, nqB, nqC, reduceCtorEq] at h) <;> (try have h' := odT h) <;> (try (have hz : (_ : Int) = (_ : Int) := h'; clear hz h')) <;> (try have h' := odF h) <;> (try have h' := inB_t h) <;> (try (exfalso; omega))) | ((first | ((with_reducible first | refine hcO 40 true (c7) ?_ ?_ ?_ ?_ ?_); iterate 4 (focus (simp (disch := omega) only [go_sem, dot_rows, open_rows, shut_rows, tSi, List.length_singleton, aNl, i1, reduceCtorEq, nLo]; done))) | ((with_reducible refine hcO 40 true (c1) ?_ ?_ ?_ ?_ ?_); iterate 4 (focus (simp (disch := omega) only [go_sem, dot_rows, open_rows, shut_rows, tSi, List.length_singleton, aNl, i1, reduceCtorEq, nLo]; done))) | ((with_reducible refine hcO 40 true (c2) ?_ ?_ ?_ ?_ ?_); iterate 4 (focus (simp (disch := omega) only [go_sem, dot_rows, open_rows, shut_rows, tSi, List.length_singleton, aNl, i1, reduceCtorEq, nLo]; done))) | ((with_reducible refine hcO 40 true (c3) ?_ ?_ ?_ ?_ ?_); iterate 4 (focus (simp (disch := omega) only [go_sem, dot_rows, open_rows, shut_rows, tSi, List.length_singleton, aNl, i1, reduceCtorEq, nLo]; done))) | ((with_reducible refine hcO 40 true (c4) ?_ ?_ ?_ ?_ ?_); iterate 4 (focus (simp (disch := omega) only [go_sem, dot_rows, open_rows, shut_rows, tSi, List.length_singleton, aNl, i1, reduceCtorEq, nLo]; done))) | ((with_reducible refine hcO 40 true (c5) ?_ ?_ ?_ ?_ ?_); iterate 4 (focus (simp (disch := omega) only [go_sem, dot_rows, open_rows, shut_rows, tSi, List.length_singleton, aNl, i1, reduceCtorEq, nLo]; done))) | ((with_reducible refine hcO 40 true (c6) ?_ ?_ ?_ ?_ ?_); iterate 4 (focus (simp (disch := omega) only [go_sem, dot_rows, open_rows, shut_rows, tSi, List.length_singleton, aNl, i1, reduceCtorEq, nLo]; done)))); simp only [go_sem, dot_rows, open_rows, shut_rows, tSi, List.length_singleton, aNl, i1, reduceCtorEq]; refine aLr ?_)) <;> (try simp (disch := first | omega | (simp only [sAp, size_mk, List.size_toArray, List.length_cons, List.length_nil]; omega)) only [go_sem, dot_rows, open_rows, shut_rows, tSi, List.length_singleton, aNl, i1, reduceCtorEq, *])))
  all_goals (try simp (disch := omega) only [EndK, go_sem, dot_rows, open_rows, shut_rows, tSi, List.length_singleton, aNl, i1, reduceCtorEq, nLo, *])
 ·rw [take_yes q, q] at c7
  rw [if_pos rfl]
  replace c8 := c8 q
  have hadv : advR D = ⟨D.list, D.size, D.cur + 1, D.place, D.prog⟩ := rfl
  obtain ⟨⟨G, g⟩, hG⟩ : ∃ x, nameR (advR D) = x := ⟨_, rfl⟩
  rw [hG] at c8 ⊢
  dsimp only at c8 ⊢
  rw [hadv] at c7 c8
  clear hadv hG
  refine cOh 40 (hBd Tryz.func222 rfl (by kernel_rfl) ?_)
  simp (disch := omega) only [go_sem, Tryz.ntmps222, Tryz.results222]
  repeat' (first | (with_reducible first | refine i_seq ?_) | ((first | (with_reducible first | refine iBk ?_ | refine iRQ (fun Q' hQ => ?_) | (refine Imp.go hQ ?_; clear hQ)) | ((with_reducible refine i_condT ?_ ?_); (focus (simp only [go_sem, *]; done))) | ((with_reducible refine i_condF ?_ ?_); (focus (simp only [go_sem, *]; done))) | ((with_reducible first | refine rOg (fun h => ?_) (fun h => ?_) | refine i_cond (by simp only [go_sem, *] <;> rfl) (fun h => ?_) (fun h => ?_)) <;> (try simp only [nqA, nqB, nqC, reduceCtorEq] at h) <;> (try have h' := odT h) <;> (try (have hz : (_ : Int) = (_ : Int) := h'; clear hz h')) <;> (try have h' := odF h) <;> (try have h' := inB_t h) <;> (try (exfalso; omega))) | ((first | ((with_reducible first | refine hcO 40 true (c7) ?_ ?_ ?_ ?_ ?_); iterate 4 (focus (simp (disch := omega) only [go_sem, dot_rows, open_rows, shut_rows, tSi, List.length_singleton, aNl, i1, reduceCtorEq, nLo]; done))) | ((with_reducible refine hcO 40 true (c1) ?_ ?_ ?_ ?_ ?_); iterate 4 (focus (simp (disch := omega) only [go_sem, dot_rows, open_rows, shut_rows, tSi, List.length_singleton, aNl, i1, reduceCtorEq, nLo]; done))) | ((with_reducible refine hcO 40 true (c2) ?_ ?_ ?_ ?_ ?_); iterate 4 (focus (simp (disch := omega) only [go_sem, dot_rows, open_rows, shut_rows, tSi, List.length_singleton, aNl, i1, reduceCtorEq, nLo]; done))) | ((with_reducible refine hcO 40 true (c3) ?_ ?_ ?_ ?_ ?_); iterate 4 (focus (simp (disch := omega) only [go_sem, dot_rows, open_rows, shut_rows, tSi, List.length_singleton, aNl, i1, reduceCtorEq, nLo]; done))) | ((with_reducible refine hcO 40 true (c4) ?_ ?_ ?_ ?_ ?_); iterate 4 (focus (simp (disch := omega) only [go_sem, dot_rows, open_rows, shut_rows, tSi, List.length_singleton, aNl, i1, reduceCtorEq, nLo]; done))) | ((with_reducible refine hcO 40 true (c5) ?_ ?_ ?_ ?_ ?_); iterate 4 (focus (simp (disch := omega) only [go_sem, dot_rows, open_rows, shut_rows, tSi, List.length_singleton, aNl, i1, reduceCtorEq, nLo]; done))) | ((with_reducible refine hcO 40 true (c6) ?_ ?_ ?_ ?_ ?_); iterate 4 (focus (simp (disch := omega) only [go_sem, dot_rows, open_rows, shut_rows, tSi, List.length_singleton, aNl, i1, reduceCtorEq, nLo]; done))) | ((with_reducible refine hcO 40 true (c8) ?_ ?_ ?_ ?_ ?_); iterate 4 (focus (simp (disch := omega) only [go_sem, dot_rows, open_rows, shut_rows, tSi, List.length_singleton, aNl, i1, reduceCtorEq, nLo]; done)))); simp only [go_sem, dot_rows, open_rows, shut_rows, tSi, List.length_singleton, aNl, i1, reduceCtorEq]; refine aLr ?_)) <;> (try simp (disch := first | omega | (simp only [sAp, size_mk, List.size_toArray, List.length_cons, List.length_nil]; omega)) only [go_sem, dot_rows, open_rows, shut_rows, tSi, List.length_singleton, aNl, i1, reduceCtorEq, *])))
  all_goals (try simp (disch := omega) only [EndK, go_sem, dot_rows, open_rows, shut_rows, tSi, List.length_singleton, aNl, i1, reduceCtorEq, nLo, *])
end Go.Proofs.YtejnpiielcbkkaaGreat.E
end
