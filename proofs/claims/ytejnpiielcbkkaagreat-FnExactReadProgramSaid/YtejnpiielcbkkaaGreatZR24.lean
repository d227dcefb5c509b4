/- A part of what stands under the laws of this seat: an abstract evaluator that is proved sound, and contracts of functions by it. No condition beside those that stand in each statement. -/
import Derived.Test.YtejnpiielcbkkaaGreatZR22
set_option linter.unusedVariables false
set_option linter.unusedSimpArgs false
section
set_option maxRecDepth 100000
set_option maxHeartbeats 4000000
namespace Go.Proofs.YtejnpiielcbkkaaGreat.E
abbrev k_uses : ByteArray := ⟨#[117, 115, 101, 115]⟩
abbrev k_var : ByteArray := ⟨#[118, 97, 114]⟩
theorem semi_rows : ([[T.v (.string ⟨#[59]⟩)]] : List (List T)) = strsT [bSemi] := rfl
theorem s_seqU {P : Program} {k id : Nat} {ops : Array Oper} {y : Code} {Q : Ex → St → Prop} {s : St} (h : aCode P k (.region id ops false) (fun e s' => match e with | .normal => SCode P k y Q s' | .exit i => Q (.exit i) s' | .ret => Q .ret s') s) : SCode P k (.seq (.region id ops false) y) Q s := s_seq (s_of_a h)
theorem s_seqC {P : Program} {k : Nat} {x1 x2 y : Code} {Q : Ex → St → Prop} {s : St} (h : aCode P k (.seq x1 x2) (fun e s' => match e with | .normal => SCode P k y Q s' | .exit i => Q (.exit i) s' | .ret => Q .ret s') s) : SCode P k (.seq (.seq x1 x2) y) Q s := s_seq (s_of_a h)
theorem s_retS {P : Program} {k : Nat} {Q : Ex → St → Prop} {s : St} (h : aCode P k .ret Q s) : SCode P k .ret Q s := s_of_a h
def addProc (r : Rd) (x : Process) : Rd := ⟨r.list, r.size, r.cur, r.place, ⟨r.prog.nodes, r.prog.monitors, r.prog.processes ++ [x]⟩⟩
theorem processsT_app1 (xs : List Process) (a : ByteArray) (b c : List ByteArray) (d : Int) : processsT xs ++ [[.v (.string a), .own 1 (strsT b), .own 1 (strsT c), .v (.int .i64 d)]] = processsT (xs ++ [⟨a, b, c, d⟩]) := by simp [processsT, processT]
end Go.Proofs.YtejnpiielcbkkaaGreat.E
end
section
set_option maxRecDepth 100000
set_option maxHeartbeats 4000000
namespace Go.Proofs.YtejnpiielcbkkaaGreat.E
/-! ### Statements and blocks, plainly -/
def putN (r : Rd) (n : Node) : Rd × Int := (putR r n, (r.prog.nodes.length : Int))
/-- A statement, over what reads a value (V) and a block (B). -/
def stmtOf (V B : Rd → Rd × Int) (r : Rd) : Rd × Int :=
 if isR r k_if = true then
  (if isR (B (wantL (V (advR r)).1 [k_then])).1 k_else = true then
   putN (B (advR (B (wantL (V (advR r)).1 [k_then])).1)).1 ⟨12, 0, noB, noB, noB, [(V (advR r)).2, (B (wantL (V (advR r)).1 [k_then])).2, (B (advR (B (wantL (V (advR r)).1 [k_then])).1)).2]⟩
  else putN (B (wantL (V (advR r)).1 [k_then])).1 ⟨12, 0, noB, noB, noB, [(V (advR r)).2, (B (wantL (V (advR r)).1 [k_then])).2]⟩)
 else if isR r k_while = true then putN (B (wantL (V (advR r)).1 [k_do])).1 ⟨13, 0, noB, noB, noB, [(V (advR r)).2, (B (wantL (V (advR r)).1 [k_do])).2]⟩
 else if isR r k_call = true then putN (callP V (advR r)).1 (callP V (advR r)).2
 else if isR r k_print = true then putN (V (advR r)).1 ⟨15, 0, noB, noB, noB, [(V (advR r)).2]⟩
 else if isR r k_read = true then putN (nameR (advR r)).1 ⟨16, 0, (nameR (advR r)).2, noB, noB, []⟩
 else if isR r k_delay = true then putN (nameR (advR r)).1 ⟨17, 0, (nameR (advR r)).2, noB, noB, []⟩
 else if isR r k_continue = true then putN (nameR (advR r)).1 ⟨18, 0, (nameR (advR r)).2, noB, noB, []⟩
 else if isR r k_skip = true then putN (advR r) ⟨19, 0, noB, noB, noB, []⟩
 else putN (V (wantL (nameR r).1 [k_asg])).1 ⟨11, 0, (nameR r).2, noB, noB, [(V (wantL (nameR r).1 [k_asg])).2]⟩
/-- Values with fuel for every reader that is right. -/
def valueV : Rd → Rd × Int := valueOf (facN 501)
theorem valueV_part : ∀ r, RdOk r → Keep r (valueV r).1 := fun r h => (valueOf_part (facN_part 501)).keep h (by have := h.len; omega)
theorem valueV_does : ∀ r, RdOk r → pot r ≤ 1000000 → CallOk Tryz.prog 221 [.one (.box (rdT r))] (.s (.one (iV (valueV r).2))) [some (.box (rdT (valueV r).1))] := fun r h hp => value_all 501 r h (by have := h.len; omega) hp
/-- Statements and blocks with fuel: what is left to be read, or nothing once it is wrong. -/
def stmtBlock : Nat → (Rd → Rd × Int) × (Rd → Rd × Int)
 | 0 => (stmtOf valueV (fun r => (r, 0)), blockOf (stmtOf valueV (fun r => (r, 0))))
 | n + 1 => (stmtOf valueV (stmtBlock n).2, blockOf (stmtBlock n).1)
def meas (r : Rd) : Nat := if (r.place == 0) = true then r.list.length - r.cur + 1 else 0
end Go.Proofs.YtejnpiielcbkkaaGreat.E
end
section
set_option maxRecDepth 100000
set_option maxHeartbeats 4000000
namespace Go.Proofs.YtejnpiielcbkkaaGreat.E
/-! What is wrong stays as_ it is; what is left does not grow. -/
theorem place_bne {r : Rd} (h : (r.place != 0) = true) : (r.place == 0) = false := by
 unfold bne at h; simpa using h
theorem chain_wrong {P : Rd → Rd × Int} {once : Bool} {L : List ByteArray} {r : Rd} (h : (r.place != 0) = true) (hP : P r = (r, 0)) : chain P once L r = (r, 0) := by
 unfold chain
 rw [hP]
 show chainF P once L (r.list.length + 1) r 0 = (r, 0)
 unfold chainF
 rw [place_bne h, if_pos rfl]
theorem facN_wrong (n : Nat) {r : Rd} (h : (r.place != 0) = true) : facN (n + 1) r = (r, 0) := by
 show facOf _ _ r = (r, 0)
 unfold facOf
 rw [if_pos h]
theorem valueV_wrong {r : Rd} (h : (r.place != 0) = true) : valueV r = (r, 0) := chain_wrong h (chain_wrong h (chain_wrong h (chain_wrong h (facN_wrong 500 h))))
theorem meas_zero {r : Rd} (h : (r.place != 0) = true) : meas r = 0 := by unfold meas; rw [place_bne h, if_neg (by simp)]
theorem meas_le {r r' : Rd} (hl : r'.list = r.list) (hc : r.cur ≤ r'.cur) (hp : (r.place != 0) = true → (r'.place != 0) = true) : meas r' ≤ meas r := by
 cases h : (r.place != 0)
 ·unfold meas
  have h0 : (r.place == 0) = true := by unfold bne at h; simpa using h
  rw [h0, if_pos rfl]
  split
  ·rw [hl]; omega
  ·omega
 ·rw [meas_zero (hp h)]; exact Nat.zero_le _
theorem wrong_meas {r : Rd} (h : RdOk r) : meas (wrongR r) = 0 := meas_zero (wrong_place h)
theorem adv_meas {r : Rd} (h : (r.place == 0) = true) (hc : r.cur < r.list.length) : meas (advR r) + 1 = meas r := by
 unfold meas
 rw [show (advR r).place = r.place from rfl, h, if_pos rfl, if_pos rfl]
 show r.list.length - (r.cur + 1) + 1 + 1 = r.list.length - r.cur + 1
 omega
theorem isR_place {r : Rd} {s : ByteArray} (h : isR r s = true) : (r.place == 0) = true := by
 unfold isR at h
 split at h
 ·rename_i h1; exact h1
 ·cases h
theorem want_meas {r : Rd} {s : ByteArray} (hs : s.size ≠ 0) (h : RdOk r) : meas (wantL r [s]) + 1 ≤ meas r ∨ meas (wantL r [s]) = 0 := by
 show meas (wantOne r s) + 1 ≤ meas r ∨ meas (wantOne r s) = 0
 unfold wantOne
 split
 ·rename_i h1
  split
  ·rename_i hi; exact .inl (Nat.le_of_eq (adv_meas h1 (isR_in hs hi)))
  ·exact .inr (wrong_meas h)
 ·rename_i h1
  refine .inr (meas_zero ?_)
  unfold bne; simpa using h1
theorem value_meas {r : Rd} (h : RdOk r) : meas (valueV r).1 ≤ meas r := by
 obtain ⟨-, h2, h3, -⟩ := valueV_part r h
 exact meas_le h2 h3 (fun hp => by rw [valueV_wrong hp]; exact hp)
theorem name_meas {r : Rd} (h : RdOk r) : meas (nameR r).1 ≤ meas r := by
 obtain ⟨-, h2, h3, -⟩ := name_keep h
 refine meas_le h2 h3 (fun hp => ?_)
 unfold nameR
 rw [if_pos hp]
 exact wrong_place h
end Go.Proofs.YtejnpiielcbkkaaGreat.E
end
section
set_option maxRecDepth 100000
set_option maxHeartbeats 4000000
namespace Go.Proofs.YtejnpiielcbkkaaGreat.E
/-! ### Statements and blocks: what they keep, and their contracts -/
def Kp (k : Nat) (r r' : Rd) : Prop := RdOk r' ∧ r'.list = r.list ∧ r.cur ≤ r'.cur ∧ pot r' ≤ pot r + k ∧ meas r' ≤ meas r
theorem Kp.refl {r : Rd} (h : RdOk r) : Kp 0 r r := ⟨h, rfl, Nat.le_refl _, Nat.le_refl _, Nat.le_refl _⟩
theorem Kp.trans {j k : Nat} {a b c : Rd} (h : Kp j a b) (g : Kp k b c) : Kp (j + k) a c := by
 obtain ⟨-, h2, h3, h4, h5⟩ := h
 obtain ⟨g1, g2, g3, g4, g5⟩ := g
 exact ⟨g1, g2.trans h2, by omega, by omega, by omega⟩
theorem Kp.mono {j k : Nat} {a b : Rd} (h : Kp j a b) (hk : j ≤ k) : Kp k a b := by
 obtain ⟨h1, h2, h3, h4, h5⟩ := h
 exact ⟨h1, h2, h3, by omega, h5⟩
theorem Kp.tr0 {k : Nat} {a b c : Rd} (h : Kp k a b) (g : Kp 0 b c) : Kp k a c := h.trans g
theorem kp_want {r : Rd} {s : ByteArray} (hs : s.size ≠ 0) (h : RdOk r) : Kp 0 r (wantL r [s]) := by
 obtain ⟨k1, k2, k3, k4⟩ := wantL_keep (one_ne hs) h
 exact ⟨k1, k2, k3, k4, by rcases want_meas hs h with g | g <;> omega⟩
theorem kp_name {r : Rd} (h : RdOk r) : Kp 0 r (nameR r).1 := by
 obtain ⟨k1, k2, k3, k4⟩ := name_keep h
 exact ⟨k1, k2, k3, k4, name_meas h⟩
theorem kp_value {r : Rd} (h : RdOk r) : Kp 0 r (valueV r).1 := by
 obtain ⟨k1, k2, k3, k4⟩ := valueV_part r h
 exact ⟨k1, k2, k3, k4, value_meas h⟩
theorem kp_put {r : Rd} {n : Node} (h : RdOk r) : Kp 1 r (putR r n) := by
 refine ⟨putR_ok h, rfl, Nat.le_refl _, ?_, Nat.le_refl _⟩
 show (r.prog.nodes ++ [n]).length + 4 * (r.list.length - r.cur) ≤ r.prog.nodes.length + 4 * (r.list.length - r.cur) + 1
 rw [List.length_append, List.length_singleton]; omega
/-- A sign that is taken. -/
structure Adv (r : Rd) : Prop where
  ok : RdOk (advR r)
  pot : pot (advR r) + 4 = pot r
  meas : meas (advR r) + 1 = meas r
theorem is_adv {r : Rd} {s : ByteArray} (hs : s.size ≠ 0) (h : RdOk r) (hi : isR r s = true) : Adv r := ⟨advR_ok h (isR_in hs hi), pot_adv (isR_in hs hi), adv_meas (isR_place hi) (isR_in hs hi)⟩
/-- What stands behind a sign that was taken: four are won. -/
theorem Adv.kp {k : Nat} {r x : Rd} (a : Adv r) (h : Kp k (advR r) x) (hk : k ≤ 4) : Kp 0 r x := by
 obtain ⟨h1, h2, h3, h4, h5⟩ := h
 have e1 := a.pot
 have e2 := a.meas
 refine ⟨h1, h2, ?_, by omega, by omega⟩
 have : (advR r).cur = r.cur + 1 := rfl
 omega
theorem Adv.kp1 {k j : Nat} {r x : Rd} (a : Adv r) (h : Kp k (advR r) x) (hk : k ≤ j + 4) : Kp j r x := by
 obtain ⟨h1, h2, h3, h4, h5⟩ := h
 have e1 := a.pot
 have e2 := a.meas
 refine ⟨h1, h2, ?_, by omega, by omega⟩
 have : (advR r).cur = r.cur + 1 := rfl
 omega
theorem kp_call {r : Rd} (h : RdOk r) : Kp 0 r (callP valueV r).1 := by
 have k1 := kp_name h
 have k2 := k1.tr0 (kp_want (s := bDot) (by decide) k1.1)
 have k3 := k2.tr0 (kp_name k2.1)
 have k4 := k3.tr0 (kp_want (s := bOpen) (by decide) k3.1)
 have k5 := k4.tr0 (kp_value k4.1)
 have k6 := k5.tr0 (kp_want (s := bShut) (by decide) k5.1)
 unfold callP
 dsimp only
 split
 ·rename_i hi
  have a := is_adv (by decide) k6.1 hi
  exact k6.tr0 (a.kp (kp_name a.ok) (by omega))
 ·exact k6
/-- What a block keeps, for readers with at most so much left. -/
def KeepB (k n : Nat) (B : Rd → Rd × Int) : Prop := ∀ r, RdOk r → meas r ≤ n → Kp k r (B r).1
theorem if_keep {n : Nat} {B : Rd → Rd × Int} (hB : ∀ r, RdOk r → meas r + 1 ≤ n → Kp 2 r (B r).1) {r : Rd} {s w : ByteArray} (hs : s.size ≠ 0) (hw : w.size ≠ 0) (h : RdOk r) (hi : isR r s = true) (hn : meas r ≤ n) :
  RdOk (wantL (valueV (advR r)).1 [w]) ∧ Kp 0 (advR r) (wantL (valueV (advR r)).1 [w]) ∧ meas (wantL (valueV (advR r)).1 [w]) + 1 ≤ n ∧ Kp 2 (advR r) (B (wantL (valueV (advR r)).1 [w])).1 := by
 have a := is_adv hs h hi
 have k1 := kp_value a.ok
 have k2 := k1.tr0 (kp_want hw k1.1)
 have hm : meas (wantL (valueV (advR r)).1 [w]) + 1 ≤ n := by have := k2.2.2.2.2; have := a.meas; omega
 have k3 := k2.trans (hB _ k2.1 hm)
 exact ⟨k2.1, k2, hm, k3⟩
theorem stmt_keep {n : Nat} {B : Rd → Rd × Int} (hB : ∀ r, RdOk r → meas r + 1 ≤ n → Kp 2 r (B r).1) : KeepB 1 n (stmtOf valueV B) := by
 intro r h hn
 unfold stmtOf putN
 split
 ·rename_i hi
  obtain ⟨i1, i2, i3, i4⟩ := if_keep hB (w := k_then) (by decide) (by decide) h hi hn
  have a := is_adv (by decide) h hi
  split
  ·rename_i he
   have b := is_adv (by decide) i4.1 he
   have hm : meas (advR (B (wantL (valueV (advR r)).1 [k_then])).1) + 1 ≤ n := by have := i4.2.2.2.2; have := b.meas; have := a.meas; omega
   have k5 := i4.trans (b.kp1 (j := 0) (hB _ b.ok hm) (by omega))
   exact a.kp1 (k5.trans (kp_put k5.1)) (by omega)
  ·exact a.kp1 (i4.trans (kp_put i4.1)) (by omega)
 ·split
  ·rename_i hi
   obtain ⟨i1, i2, i3, i4⟩ := if_keep hB (w := k_do) (by decide) (by decide) h hi hn
   have a := is_adv (by decide) h hi
   exact a.kp1 (i4.trans (kp_put i4.1)) (by omega)
  ·split
   ·rename_i hi
    have a := is_adv (by decide) h hi
    have k := kp_call a.ok
    exact a.kp1 (k.trans (kp_put k.1)) (by omega)
   ·split
    ·rename_i hi
     have a := is_adv (by decide) h hi
     have k := kp_value a.ok
     exact a.kp1 (k.trans (kp_put k.1)) (by omega)
    ·split
     ·rename_i hi
      have a := is_adv (by decide) h hi
      have k := kp_name a.ok
      exact a.kp1 (k.trans (kp_put k.1)) (by omega)
     ·split
      ·rename_i hi
       have a := is_adv (by decide) h hi
       have k := kp_name a.ok
       exact a.kp1 (k.trans (kp_put k.1)) (by omega)
      ·split
       ·rename_i hi
        have a := is_adv (by decide) h hi
        have k := kp_name a.ok
        exact a.kp1 (k.trans (kp_put k.1)) (by omega)
       ·split
        ·rename_i hi
         have a := is_adv (by decide) h hi
         exact a.kp1 (kp_put a.ok) (by omega)
        ·have k1 := kp_name h
         have k2 := k1.tr0 (kp_want (s := k_asg) (by decide) k1.1)
         have k3 := k2.tr0 (kp_value k2.1)
         exact k3.trans (kp_put k3.1)
theorem blockF_keep {n : Nat} {S : Rd → Rd × Int} (hS : KeepB 1 n S) : ∀ (m : Nat) (r : Rd) (ks : List Int), RdOk r → meas r ≤ n → Kp 0 r (blockF S m r ks).1 := by
 intro m
 induction m with
 | zero => intro r ks h _; exact Kp.refl h
 | succ m ih =>
  intro r ks h hn
  unfold blockF
  split
  ·rename_i hi
   have a := is_adv (by decide) h hi
   have k1 := hS _ a.ok (by have := a.meas; omega)
   have k2 := a.kp k1 (by omega)
   exact k2.tr0 (ih _ _ k2.1 (by have := k2.2.2.2.2; omega))
  ·exact Kp.refl h
theorem begin_meas {n : Nat} {r : Rd} (h : RdOk r) (hn : meas r ≤ n + 1) : meas (wantL r [bBegin]) ≤ n := by
 rcases want_meas (s := bBegin) (by decide) h with g | g <;> omega
theorem block_keep {n : Nat} {S : Rd → Rd × Int} (hS : KeepB 1 n S) : KeepB 2 (n + 1) (blockOf S) := by
 intro r h hn
 have k1 := kp_want (s := bBegin) (by decide) h
 have k2 := hS _ k1.1 (begin_meas h hn)
 have k3 := k1.trans k2
 have k4 := k3.tr0 (blockF_keep hS (r.list.length + 1) _ [(S (wantL r [bBegin])).2] k2.1 (by have := k2.2.2.2.2; have := begin_meas h hn; omega))
 have k5 := k4.tr0 (kp_want (s := bEnd) (by decide) k4.1)
 exact (k5.trans (kp_put k5.1)).mono (by omega)
theorem sb_keep : ∀ n, KeepB 1 n (stmtBlock n).1 ∧ KeepB 2 n (stmtBlock n).2
 | 0 => by
  have h1 : KeepB 1 0 (stmtBlock 0).1 := stmt_keep (fun r _ hn => by omega)
  exact ⟨h1, fun r h hn => block_keep h1 r h (by omega)⟩
 | n + 1 => ⟨stmt_keep (fun r h hn => (sb_keep n).2 r h (by omega)), block_keep (sb_keep n).1⟩
/-! Their contracts. -/
def DoesS (n : Nat) (S : Rd → Rd × Int) : Prop := ∀ r, RdOk r → meas r ≤ n → pot r + 1 ≤ 1000000 → CallOk Tryz.prog 170 [.one (.box (rdT r))] (.s (.one (iV (S r).2))) [some (.box (rdT (S r).1))]
def DoesB (n : Nat) (B : Rd → Rd × Int) : Prop := ∀ r, RdOk r → meas r ≤ n → pot r + 2 ≤ 1000000 → CallOk Tryz.prog 97 [.one (.box (rdT r))] (.s (.one (iV (B r).2))) [some (.box (rdT (B r).1))]
theorem nodes_le {r : Rd} : r.prog.nodes.length ≤ pot r := Nat.le_add_right _ _
theorem stmt_does {n : Nat} {B : Rd → Rd × Int} (hB : ∀ r, RdOk r → meas r + 1 ≤ n → Kp 2 r (B r).1) (dB : ∀ r, RdOk r → meas r + 1 ≤ n → pot r + 2 ≤ 1000000 → CallOk Tryz.prog 97 [.one (.box (rdT r))] (.s (.one (iV (B r).2))) [some (.box (rdT (B r).1))]) : DoesS n (stmtOf valueV B) := by
 intro r h hn hp
 have nl : ∀ {x : Rd}, pot x ≤ 1000000 → x.prog.nodes.length ≤ 1000000 := fun hx => Nat.le_trans nodes_le hx
 unfold stmtOf
 cases q0 : isR r k_if
 ·rw [if_neg (by simp)]
  cases q1 : isR r k_while
  ·rw [if_neg (by simp)]
   cases q2 : isR r k_call
   ·rw [if_neg (by simp)]
    cases q3 : isR r k_print
    ·rw [if_neg (by simp)]
     cases q4 : isR r k_read
     ·rw [if_neg (by simp)]
      cases q5 : isR r k_delay
      ·rw [if_neg (by simp)]
       cases q6 : isR r k_continue
       ·rw [if_neg (by simp)]
        cases q7 : isR r k_skip
        ·rw [if_neg (by simp)]
         have k1 := kp_name h
         have k2 := k1.tr0 (kp_want (s := k_asg) (by decide) k1.1)
         have k3 := k2.tr0 (kp_value k2.1)
         have e2 := k2.2.2.2.1
         have e3 := k3.2.2.2.1
         exact rStmt_set r _ _ h q0 q1 q2 q3 q4 q5 q6 q7 (valueV_does _ k2.1 (by omega)) (nl (by omega))
        ·rw [if_pos rfl]
         exact rStmt_skip r h q0 q1 q2 q3 q4 q5 q6 q7 (nl (by omega))
       ·rw [if_pos rfl]
        have a := is_adv (by decide) h q6
        have k := kp_name a.ok
        have e := k.2.2.2.1
        have e2 := a.pot
        exact rStmt_continue r h q0 q1 q2 q3 q4 q5 q6 (nl (by omega)) a.ok (nl (by omega))
      ·rw [if_pos rfl]
       have a := is_adv (by decide) h q5
       have k := kp_name a.ok
       have e := k.2.2.2.1
       have e2 := a.pot
       exact rStmt_delay r h q0 q1 q2 q3 q4 q5 (nl (by omega)) a.ok (nl (by omega))
     ·rw [if_pos rfl]
      have a := is_adv (by decide) h q4
      have k := kp_name a.ok
      have e := k.2.2.2.1
      have e2 := a.pot
      exact rStmt_read r h q0 q1 q2 q3 q4 (nl (by omega)) a.ok (nl (by omega))
    ·rw [if_pos rfl]
     have a := is_adv (by decide) h q3
     have k := kp_value a.ok
     have e := k.2.2.2.1
     have e2 := a.pot
     exact rStmt_print r _ _ h q0 q1 q2 q3 (valueV_does _ a.ok (by omega)) (nl (by omega))
   ·rw [if_pos rfl]
    have a := is_adv (by decide) h q2
    have k := kp_call a.ok
    have e := k.2.2.2.1
    have e2 := a.pot
    have hk : (callP valueV (advR r)).2.kids.length ≤ 1048576 := by
     unfold callP
     dsimp only
     split <;> simp
    exact rStmt_call r _ _ h q0 q1 q2 (rCall_ok (valueOf_part (facN_part 501)) (value_all 501) (advR r) a.ok (by have := a.ok.len; omega) (by omega)) hk (nl (by omega))
  ·rw [if_pos rfl]
   obtain ⟨i1, i2, i3, i4⟩ := if_keep hB (w := k_do) (by decide) (by decide) h q1 hn
   have a := is_adv (by decide) h q1
   have k := kp_value a.ok
   have e := k.2.2.2.1
   have e2 := a.pot
   have e3 := i2.2.2.2.1
   have e4 := i4.2.2.2.1
   exact rStmt_while r _ _ _ _ h q0 q1 k.1 (valueV_does _ a.ok (by omega)) (dB _ i1 i3 (by omega)) (nl (by omega))
 ·rw [if_pos rfl]
  obtain ⟨i1, i2, i3, i4⟩ := if_keep hB (w := k_then) (by decide) (by decide) h q0 hn
  have a := is_adv (by decide) h q0
  have k := kp_value a.ok
  have e := k.2.2.2.1
  have e2 := a.pot
  have e3 := i2.2.2.2.1
  have e4 := i4.2.2.2.1
  have d1 := valueV_does _ a.ok (by omega)
  have d2 := dB _ i1 i3 (by omega)
  cases qe : isR (B (wantL (valueV (advR r)).1 [k_then])).1 k_else
  ·rw [if_neg (by simp)]
   exact rStmt_if r _ _ _ _ h q0 k.1 d1 d2 (nl (by omega)) i4.1 qe
  ·rw [if_pos rfl]
   have b := is_adv (by decide) i4.1 qe
   have e5 := b.pot
   have hm : meas (advR (B (wantL (valueV (advR r)).1 [k_then])).1) + 1 ≤ n := by have := i4.2.2.2.2; have := b.meas; have := a.meas; omega
   have k5 := hB _ b.ok hm
   have e6 := k5.2.2.2.1
   exact rStmt_else r _ _ _ _ h q0 k.1 d1 d2 (nl (by omega)) _ _ i4.1 qe (dB _ b.ok hm (by omega)) (nl (by omega))
theorem block_does {n : Nat} {S : Rd → Rd × Int} (hS : KeepB 1 n S) (dS : DoesS n S) : DoesB (n + 1) (blockOf S) := by
 intro r h hn hp
 have k1 := kp_want (s := bBegin) (by decide) h
 have hm := begin_meas h hn
 have k2 := hS _ k1.1 hm
 have e1 := k1.2.2.2.1
 have e2 := k2.2.2.2.1
 have e3 := k2.2.2.2.2
 refine rBlock_ok S (fun x => meas x ≤ n ∧ pot x + 1 ≤ 1000000) (fun x => RdOk x ∧ meas x ≤ n ∧ pot x ≤ 1000000) (fun x hx hc => dS x hx hc.1 hc.2) (fun x hx => ⟨hx.1, hx.1.len, Nat.le_trans nodes_le hx.2.2⟩) (fun x hx hi => ?_) r h ⟨hm, by omega⟩ ⟨k2.1, by omega, by omega⟩ ?_
 ·obtain ⟨x1, x2, x3⟩ := hx
  have a := is_adv (by decide) x1 hi
  have f1 := a.pot
  have f2 := a.meas
  have k := hS _ a.ok (by omega)
  have f3 := k.2.2.2.1
  have f4 := k.2.2.2.2
  exact ⟨⟨by omega, by omega⟩, ⟨k.1, by omega, by omega⟩, k.2.2.1, by rw [k.2.1]; exact Nat.le_refl _⟩
 ·rw [k2.2.1, k1.2.1]; exact Nat.le_refl _
theorem sb_does : ∀ n, DoesS n (stmtBlock n).1 ∧ DoesB n (stmtBlock n).2
 | 0 => by
  have h1 : DoesS 0 (stmtBlock 0).1 := stmt_does (fun r _ hn => by omega) (fun r _ hn => by omega)
  exact ⟨h1, fun r h hn hp => block_does (sb_keep 0).1 h1 r h (by omega) hp⟩
 | n + 1 => ⟨stmt_does (fun r h hn => (sb_keep n).2 r h (by omega)) (fun r h hn hp => (sb_does n).2 r h (by omega) hp), block_does (sb_keep n).1 (sb_does n).1⟩
/-- A block, for all readers. -/
def blockV : Rd → Rd × Int := (stmtBlock 501).2
theorem meas_all {r : Rd} (h : RdOk r) : meas r ≤ 501 := by
 have := h.len
 unfold meas
 split <;> omega
theorem blockV_kp {r : Rd} (h : RdOk r) : Kp 2 r (blockV r).1 := (sb_keep 501).2 r h (meas_all h)
theorem blockV_does {r : Rd} (h : RdOk r) (hp : pot r + 2 ≤ 1000000) : CallOk Tryz.prog 97 [.one (.box (rdT r))] (.s (.one (iV (blockV r).2))) [some (.box (rdT (blockV r).1))] := (sb_does 501).2 r h (meas_all h) hp
end Go.Proofs.YtejnpiielcbkkaaGreat.E
end
