/- A part of what stands under the laws of this seat: an abstract evaluator that is proved sound, and contracts of functions by it. No condition beside those that stand in each statement. -/
import Derived.Test.YtejnpiielcbkkaaGreatZU1
import Derived.Test.YtejnpiielcbkkaaGreatZR24
import Derived.Test.YtejnpiielcbkkaaGreatZU6
set_option linter.unusedVariables false
set_option linter.unusedSimpArgs false
section
set_option maxRecDepth 100000
set_option maxHeartbeats 4000000
namespace Go.Proofs.YtejnpiielcbkkaaGreat.E
/-! ### The reference's calls, statements and blocks, plainly -/
def namesFS : Nat → Rs → List ByteArray → Rs × List ByteArray
 | 0, s, acc => (s, acc)
 | n + 1, s, acc => if isS s bComma = true then namesFS n (nameS (advS s)).1 (acc ++ [(nameS (advS s)).2]) else (s, acc)
def namesS (s : Rs) : Rs × List ByteArray := namesFS (s.list.length + 1) (nameS s).1 [(nameS s).2]
def callS (V : Rs → Rs × Int) (s : Rs) : Rs × Int :=
 let a := nameS s
 let b := nameS (mustS a.1 bDot)
 let c := V (mustS b.1 bOpen)
 let d := mustS c.1 bShut
 if isS d bTo = true then putS (nameS (advS d)).1 ⟨14, 0, a.2, b.2, (nameS (advS d)).2, [c.2]⟩ else putS d ⟨14, 0, a.2, b.2, noB, [c.2]⟩
def stmtOfS (V B : Rs → Rs × Int) (s : Rs) : Rs × Int :=
 if isS s k_if = true then
  (if isS (B (mustS (V (advS s)).1 k_then)).1 k_else = true then
   putS (B (advS (B (mustS (V (advS s)).1 k_then)).1)).1 ⟨12, 0, noB, noB, noB, [(V (advS s)).2, (B (mustS (V (advS s)).1 k_then)).2, (B (advS (B (mustS (V (advS s)).1 k_then)).1)).2]⟩
  else putS (B (mustS (V (advS s)).1 k_then)).1 ⟨12, 0, noB, noB, noB, [(V (advS s)).2, (B (mustS (V (advS s)).1 k_then)).2]⟩)
 else if isS s k_while = true then putS (B (mustS (V (advS s)).1 k_do)).1 ⟨13, 0, noB, noB, noB, [(V (advS s)).2, (B (mustS (V (advS s)).1 k_do)).2]⟩
 else if isS s k_call = true then callS V (advS s)
 else if isS s k_print = true then putS (V (advS s)).1 ⟨15, 0, noB, noB, noB, [(V (advS s)).2]⟩
 else if isS s k_read = true then putS (nameS (advS s)).1 ⟨16, 0, (nameS (advS s)).2, noB, noB, []⟩
 else if isS s k_delay = true then putS (nameS (advS s)).1 ⟨17, 0, (nameS (advS s)).2, noB, noB, []⟩
 else if isS s k_continue = true then putS (nameS (advS s)).1 ⟨18, 0, (nameS (advS s)).2, noB, noB, []⟩
 else if isS s k_skip = true then putS (advS s) ⟨19, 0, noB, noB, noB, []⟩
 else putS (V (mustS (nameS s).1 k_asg)).1 ⟨11, 0, (nameS s).2, noB, noB, [(V (mustS (nameS s).1 k_asg)).2]⟩
def blockFS (S : Rs → Rs × Int) : Nat → Rs → List Int → Rs × List Int
 | 0, s, ks => (s, ks)
 | n + 1, s, ks => if isS s bSemi = true then blockFS S n (S (advS s)).1 (ks ++ [(S (advS s)).2]) else (s, ks)
def blockEndS (x : Rs × List Int) : Rs × Int := putS (mustS x.1 bEnd) ⟨20, 0, noB, noB, noB, x.2⟩
def blockOfS (S : Rs → Rs × Int) (s : Rs) : Rs × Int := blockEndS (blockFS S (s.list.length + 1) (S (mustS s bBegin)).1 [(S (mustS s bBegin)).2])
def valueVS : Rs → Rs × Int := valueS (facNS 501)
def stmtBlockS : Nat → (Rs → Rs × Int) × (Rs → Rs × Int)
 | 0 => (stmtOfS valueVS (fun s => (s, 0)), blockOfS (stmtOfS valueVS (fun s => (s, 0))))
 | n + 1 => (stmtOfS valueVS (stmtBlockS n).2, blockOfS (stmtBlockS n).1)
def blockVS : Rs → Rs × Int := (stmtBlockS 501).2
def measS (s : Rs) : Nat := if s.bad = true then 0 else s.list.length - s.cur + 1
/-! What they keep. -/
def KpS (s s' : Rs) : Prop := KeepS s s' ∧ measS s' ≤ measS s
theorem KpS.refl {s : Rs} (h : RsOk s) : KpS s s := ⟨KeepS.refl h, Nat.le_refl _⟩
theorem KpS.trans {a b c : Rs} (h : KpS a b) (g : KpS b c) : KpS a c := ⟨h.1.trans g.1, Nat.le_trans g.2 h.2⟩
theorem measS_bad {s : Rs} (h : s.bad = true) : measS s = 0 := by unfold measS; rw [if_pos h]
theorem measS_le {s s' : Rs} (hk : KeepS s s') (hp : s.bad = true → s'.bad = true) : measS s' ≤ measS s := by
 cases h : s.bad
 ·have e : measS s = s.list.length - s.cur + 1 := by unfold measS; rw [h, if_neg (by simp)]
  rw [e]
  obtain ⟨-, h2, h3, -⟩ := hk
  unfold measS
  split
  ·omega
  ·rw [h2]; omega
 ·rw [measS_bad (hp h)]; exact Nat.zero_le _
theorem adv_measS {s : Rs} (h : s.bad = false) (hc : s.cur < s.list.length) : measS (advS s) + 1 = measS s := by
 unfold measS
 rw [show (advS s).bad = s.bad from rfl, h, if_neg (by simp), if_neg (by simp)]
 show s.list.length - (s.cur + 1) + 1 + 1 = s.list.length - s.cur + 1
 omega
theorem must_bad {s : Rs} {w : ByteArray} (h : s.bad = true) : (mustS s w).bad = true := by
 unfold mustS
 rw [isS_bad h, if_neg (by simp)]
 rfl
theorem name_bad {s : Rs} (h : s.bad = true) : (nameS s).1.bad = true := by unfold nameS; rw [if_pos h]; rfl
theorem put_badS {s : Rs} {n : Node} : (putS s n).1.bad = s.bad := by unfold putS; split <;> rfl
theorem opN_bad {L : List ByteArray} : ∀ {s : Rs} {f : Int}, s.bad = true → opN L s f = (s, 0) := by
 induction L with
 | nil => intro s f _; rfl
 | cons x xs ih =>
  intro s f h
  unfold opN
  rw [isS_bad h, if_neg (by simp)]
  exact ih h
theorem chainS_bad {P : Rs → Rs × Int} {L : List ByteArray} {f : Int} {s : Rs} (hP : (P s).1.bad = true) : (chainS P L f s).1.bad = true := by
 unfold chainS chS
 rw [if_pos hP]
 exact hP
theorem onceS_bad {P : Rs → Rs × Int} {L : List ByteArray} {f : Int} {s : Rs} (hP : (P s).1.bad = true) : (onceS P L f s).1.bad = true := by
 unfold onceS
 rw [opN_bad hP, if_pos (by rfl)]
 exact hP
theorem valueVS_bad {s : Rs} (h : s.bad = true) : (valueVS s).1.bad = true := by
 refine chainS_bad (onceS_bad (chainS_bad (chainS_bad ?_)))
 show (facS _ _ s).1.bad = true
 unfold facS
 rw [if_pos h]
 rfl
theorem kpS_must {s : Rs} {w : ByteArray} (h : RsOk s) : KpS s (mustS s w) := ⟨must_keepS h, measS_le (must_keepS h) must_bad⟩
theorem kpS_name {s : Rs} (h : RsOk s) : KpS s (nameS s).1 := ⟨name_keepS h, measS_le (name_keepS h) name_bad⟩
theorem kpS_value {s : Rs} (h : RsOk s) : KpS s (valueVS s).1 := by
 have k : KeepS s (valueVS s).1 := valueS_part (facNS_part 501) s h (by have := h.len; omega)
 exact ⟨k, measS_le k valueVS_bad⟩
structure AdvS (s : Rs) : Prop where
  ok : RsOk (advS s)
  pot : potS (advS s) + 4 = potS s
  meas : measS (advS s) + 1 = measS s
  kp : KpS s (advS s)
theorem is_advS {s : Rs} {w : ByteArray} (h : RsOk s) (hi : isS s w = true) : AdvS s := ⟨advS_ok h (isS_in hi), potS_adv (isS_in hi), adv_measS (isS_good hi) (isS_in hi), adv_keepS h (isS_in hi), by have := adv_measS (isS_good hi) (isS_in hi); omega⟩
/-- A node behind a sign that was taken. -/
theorem AdvS.put {s x : Rs} {n : Node} (a : AdvS s) (hs : smNode n) (h : KpS (advS s) x) : KpS s (putS x n).1 := by
 obtain ⟨⟨h1, h2, h3, h4⟩, h5⟩ := h
 have e1 := a.pot
 have e2 := a.meas
 have e3 : (advS s).cur = s.cur + 1 := rfl
 have e4 : (advS s).list = s.list := rfl
 refine ⟨put_keepS hs h1 (h2.trans e4) (by omega) (.inr (by omega)) (by omega), ?_⟩
 have : measS (putS x n).1 = measS x := by unfold putS; split <;> rfl
 omega
theorem kpS_put {a x : Rs} {n : Node} (hs : smNode n) (h : KpS a x) (hp : x.bad = true ∨ potS x + 1 ≤ potS a) : KpS a (putS x n).1 := by
 obtain ⟨⟨h1, h2, h3, h4⟩, h5⟩ := h
 refine ⟨put_keepS hs h1 h2 h3 hp h4, ?_⟩
 have : measS (putS x n).1 = measS x := by unfold putS; split <;> rfl
 omega
theorem kpS_call {s : Rs} (a : AdvS s) : KpS s (callS valueVS (advS s)).1 := by
 have k1 := kpS_name a.ok
 have k2 := k1.trans (kpS_must (w := bDot) k1.1.1)
 have k3 := k2.trans (kpS_name k2.1.1)
 have k4 := k3.trans (kpS_must (w := bOpen) k3.1.1)
 have k5 := k4.trans (kpS_value k4.1.1)
 have k6 := k5.trans (kpS_must (w := bShut) k5.1.1)
 have z1 := name_smS a.ok
 have z2 := name_smS k2.1.1
 unfold callS
 dsimp only
 split
 ·rename_i hi
  have b := is_advS k6.1.1 hi
  have k7 := (k6.trans b.kp).trans (kpS_name b.ok)
  exact a.put ⟨z1, z2, name_smS b.ok, by simp⟩ k7
 ·exact a.put ⟨z1, z2, Nat.zero_le _, by simp⟩ k6
def KeepBS (n : Nat) (B : Rs → Rs × Int) : Prop := ∀ s, RsOk s → measS s ≤ n → KpS s (B s).1
theorem if_keepS {n : Nat} {B : Rs → Rs × Int} (hB : ∀ s, RsOk s → measS s + 1 ≤ n → KpS s (B s).1) {s : Rs} {w : ByteArray} (a : AdvS s) (hn : measS s ≤ n) :
  RsOk (mustS (valueVS (advS s)).1 w) ∧ KpS (advS s) (mustS (valueVS (advS s)).1 w) ∧ measS (mustS (valueVS (advS s)).1 w) + 1 ≤ n ∧ KpS (advS s) (B (mustS (valueVS (advS s)).1 w)).1 := by
 have k1 := kpS_value a.ok
 have k2 := k1.trans (kpS_must (w := w) k1.1.1)
 have hm : measS (mustS (valueVS (advS s)).1 w) + 1 ≤ n := by have := k2.2; have := a.meas; omega
 exact ⟨k2.1.1, k2, hm, k2.trans (hB _ k2.1.1 hm)⟩
theorem stmt_keepS {n : Nat} {B : Rs → Rs × Int} (hB : ∀ s, RsOk s → measS s + 1 ≤ n → KpS s (B s).1) : KeepBS n (stmtOfS valueVS B) := by
 intro s h hn
 unfold stmtOfS
 split
 ·rename_i hi
  have a := is_advS h hi
  obtain ⟨i1, i2, i3, i4⟩ := if_keepS hB (w := k_then) a hn
  split
  ·rename_i he
   have b := is_advS i4.1.1 he
   have hm : measS (advS (B (mustS (valueVS (advS s)).1 k_then)).1) + 1 ≤ n := by have := i4.2; have := b.meas; have := a.meas; omega
   exact a.put (smN (by simp)) ((i4.trans b.kp).trans (hB _ b.ok hm))
  ·exact a.put (smN (by simp)) i4
 ·split
  ·rename_i hi
   have a := is_advS h hi
   obtain ⟨i1, i2, i3, i4⟩ := if_keepS hB (w := k_do) a hn
   exact a.put (smN (by simp)) i4
  ·split
   ·rename_i hi
    exact kpS_call (is_advS h hi)
   ·split
    ·rename_i hi
     have a := is_advS h hi
     exact a.put (smN (by simp)) (kpS_value a.ok)
    ·split
     ·rename_i hi
      have a := is_advS h hi
      exact a.put (smN1 (name_smS a.ok) (by simp)) (kpS_name a.ok)
     ·split
      ·rename_i hi
       have a := is_advS h hi
       exact a.put (smN1 (name_smS a.ok) (by simp)) (kpS_name a.ok)
      ·split
       ·rename_i hi
        have a := is_advS h hi
        exact a.put (smN1 (name_smS a.ok) (by simp)) (kpS_name a.ok)
       ·split
        ·rename_i hi
         have a := is_advS h hi
         exact a.put (smN (by simp)) (KpS.refl a.ok)
        ·have k1 := kpS_name h
         have k2 := kpS_must (w := k_asg) k1.1.1
         have k3 := kpS_value k2.1.1
         refine kpS_put (smN1 (name_smS h) (by simp)) (k1.trans (k2.trans k3)) ?_
         rcases name_rightS h with g | g
         ·exact .inl (valueVS_bad (must_bad g))
         ·have := k2.1.2.2.2
          have := k3.1.2.2.2
          exact .inr (by omega)
theorem blockFS_keep {n : Nat} {S : Rs → Rs × Int} (hS : KeepBS n S) : ∀ (m : Nat) (s : Rs) (ks : List Int), RsOk s → measS s ≤ n → KpS s (blockFS S m s ks).1 ∧ (blockFS S m s ks).2.length ≤ ks.length + m := by
 intro m
 induction m with
 | zero => intro s ks h _; exact ⟨KpS.refl h, Nat.le_refl _⟩
 | succ m ih =>
  intro s ks h hn
  unfold blockFS
  split
  ·rename_i hi
   have a := is_advS h hi
   have k1 := hS _ a.ok (by have := a.meas; omega)
   have k2 := a.kp.trans k1
   obtain ⟨g1, g2⟩ := ih (S (advS s)).1 (ks ++ [(S (advS s)).2]) k2.1.1 (by have := k2.2; omega)
   rw [List.length_append, List.length_singleton] at g2
   exact ⟨k2.trans g1, by omega⟩
  ·exact ⟨KpS.refl h, Nat.le_add_right _ _⟩
theorem must_right {s : Rs} {w : ByteArray} (h : RsOk s) : (mustS s w).bad = true ∨ potS (mustS s w) + 4 = potS s := by
 unfold mustS
 split
 ·rename_i hi; exact .inr (potS_adv (isS_in hi))
 ·exact .inl rfl
theorem begin_measS {n : Nat} {s : Rs} (h : RsOk s) (hn : measS s ≤ n + 1) : measS (mustS s bBegin) ≤ n := by
 unfold mustS
 split
 ·rename_i hi; have := adv_measS (isS_good hi) (isS_in hi); omega
 ·rw [measS_bad (show (badS s).bad = true from rfl)]; exact Nat.zero_le _
theorem bad_stays {n : Nat} {s s' : Rs} (h : KpS s s') (hb : s.bad = true) : s'.bad = true := by
 have := h.2
 rw [measS_bad hb] at this
 cases hb' : s'.bad
 ·unfold measS at this
  rw [hb', if_neg (by simp)] at this
  omega
 ·rfl
theorem block_keepS {n : Nat} {S : Rs → Rs × Int} (hS : KeepBS n S) : KeepBS (n + 1) (blockOfS S) := by
 intro s h hn
 have k1 := kpS_must (w := bBegin) h
 have k2 := hS _ k1.1.1 (begin_measS h hn)
 have k3 := k1.trans k2
 obtain ⟨k4, k5⟩ := blockFS_keep hS (s.list.length + 1) (S (mustS s bBegin)).1 [(S (mustS s bBegin)).2] k2.1.1 (by have := k2.2; have := begin_measS h hn; omega)
 have k6 := kpS_must (w := bEnd) k4.1.1
 have k7 := k2.trans (k4.trans k6)
 have hl := h.len
 refine kpS_put (smN (Nat.le_trans k5 (by simp; omega))) (k1.trans k7) ?_
 rcases must_right (w := bBegin) h with g | g
 ·exact .inl (bad_stays (n := 0) k7 g)
 ·have := k7.1.2.2.2
  exact .inr (by omega)
theorem sb_keepS : ∀ n, KeepBS n (stmtBlockS n).1 ∧ KeepBS n (stmtBlockS n).2
 | 0 => by
  have h1 : KeepBS 0 (stmtBlockS 0).1 := stmt_keepS (fun s _ hn => by omega)
  exact ⟨h1, fun s h hn => block_keepS h1 s h (by omega)⟩
 | n + 1 => ⟨stmt_keepS (fun s h hn => (sb_keepS n).2 s h (by omega)), block_keepS (sb_keepS n).1⟩
theorem measS_all {s : Rs} (h : RsOk s) : measS s ≤ 501 := by
 have := h.len
 unfold measS
 split <;> omega
theorem blockVS_kp {s : Rs} (h : RsOk s) : KpS s (blockVS s).1 := (sb_keepS 501).2 s h (measS_all h)
theorem namesFS_keep : ∀ (n : Nat) (s : Rs) (acc : List ByteArray), RsOk s → (∀ y ∈ acc, y.size ≤ 1048576) → KpS s (namesFS n s acc).1 ∧ (∀ y ∈ (namesFS n s acc).2, y.size ≤ 1048576) ∧ (namesFS n s acc).2.length ≤ acc.length + n := by
 intro n
 induction n with
 | zero => intro s acc h ha; exact ⟨KpS.refl h, ha, Nat.le_refl _⟩
 | succ n ih =>
  intro s acc h ha
  unfold namesFS
  split
  ·rename_i hi
   have a := is_advS h hi
   have k := kpS_name a.ok
   obtain ⟨g1, g2, g3⟩ := ih (nameS (advS s)).1 (acc ++ [(nameS (advS s)).2]) k.1.1 (fun y hy => by
    rcases List.mem_append.1 hy with hy | hy
    ·exact ha y hy
    ·rw [List.mem_singleton] at hy; rw [hy]; exact name_smS a.ok)
   rw [List.length_append, List.length_singleton] at g3
   exact ⟨a.kp.trans (k.trans g1), g2, by omega⟩
  ·exact ⟨KpS.refl h, ha, Nat.le_add_right _ _⟩
theorem namesS_keep {s : Rs} (h : RsOk s) : KpS s (namesS s).1 ∧ (∀ y ∈ (namesS s).2, y.size ≤ 1048576) ∧ (namesS s).2.length ≤ 600 := by
 have k := kpS_name h
 have hl := h.len
 obtain ⟨g1, g2, g3⟩ := namesFS_keep (s.list.length + 1) (nameS s).1 [(nameS s).2] k.1.1 (fun y hy => by rw [List.mem_singleton] at hy; rw [hy]; exact name_smS h)
 rw [List.length_singleton] at g3
 exact ⟨k.trans g1, g2, Nat.le_trans g3 (by omega)⟩
end Go.Proofs.YtejnpiielcbkkaaGreat.E
end
section
set_option maxRecDepth 100000
set_option maxHeartbeats 4000000
namespace Go.Proofs.YtejnpiielcbkkaaGreat.E
/-! Names, a call, of the reference. -/
theorem sNames_ok (s : Rs) (h : RsOk s) : CallOk Tryz.prog 85 [.one (.box (rsT s))] (.s (.one (.own 1 (strsT (namesS s).2)))) [some (.box (rsT (namesS s).1))] := by
 have hname := sName_ok s h
 obtain ⟨q1, q2, q3, -⟩ := name_keepS h
 have hl5 := h.len
 obtain ⟨⟨R0, n0⟩, hR0⟩ : ∃ x, nameS s = x := ⟨_, rfl⟩
 have hnr : namesS s = namesFS (s.list.length + 1) R0 [n0] := by unfold namesS; rw [hR0]
 rw [hR0] at hname q1 q2 q3
 dsimp only at hname q1 q2 q3
 rw [hnr]
 clear hnr hR0
 have q5 : R0.list.length ≤ s.list.length := by rw [q2]; exact Nat.le_refl _
 have q6 : s.list.length ≤ R0.list.length := by rw [q2]; exact Nat.le_refl _
 clear q2
 obtain ⟨⟨RR, RL⟩, hRES⟩ : ∃ x, namesFS (s.list.length + 1) R0 [n0] = x := ⟨_, rfl⟩
 rw [hRES]
 dsimp only
 have i1 : ([[T.v (.string n0)]] : List (List T)) = strsT [n0] := rfl
 refine cOh 40 (hBd Tryz.func85 rfl (by kernel_rfl) ?_)
 simp (disch := omega) only [go_sem, Tryz.ntmps85, Tryz.results85]
 repeat' (first | (with_reducible first | refine i_seq ?_) | ((first | (with_reducible first | refine iBk ?_ | refine iRQ (fun Q' hQ => ?_) | (refine Imp.go hQ ?_; clear hQ)) | ((with_reducible refine i_condT ?_ ?_); (focus (simp only [go_sem, *]; done))) | ((with_reducible refine i_condF ?_ ?_); (focus (simp only [go_sem, *]; done))) | ((with_reducible first | refine rOg (fun h => ?_) (fun h => ?_) | refine i_cond (by simp only [go_sem, *] <;> rfl) (fun h => ?_) (fun h => ?_)) <;> (try simp only [nqA, nqB, nqC, reduceCtorEq] at h) <;> (try have h' := odT h) <;> (try (have hz : (_ : Int) = (_ : Int) := h'; clear hz h')) <;> (try have h' := odF h) <;> (try have h' := inB_t h) <;> (try (exfalso; omega))) | (((with_reducible refine hcO 40 false (hname) ?_ ?_ ?_ ?_ ?_); iterate 4 (focus (simp (disch := omega) only [go_sem, i1, List.length_singleton, reduceCtorEq, nLo]; done))); simp only [go_sem, i1, List.length_singleton, reduceCtorEq]; refine aLr ?_)) <;> (try simp (disch := first | omega | (simp only [sAp, size_mk, List.size_toArray, List.length_cons, List.length_nil]; omega)) only [go_sem, i1, List.length_singleton, reduceCtorEq, *])))
 all_goals (try simp (disch := omega) only [EndK, go_sem, i1, List.length_singleton, reduceCtorEq, nLo, *])
 refine i_loop (α := {x : Nat × Rs × List ByteArray // RsOk x.2.1 ∧ x.2.1.list.length - x.2.1.cur < x.1 ∧ x.2.1.list.length ≤ 500 ∧ x.2.2.length + x.1 ≤ 600 ∧ namesFS x.1 x.2.1 x.2.2 = (RR, RL)}) (fun x => ⟨mkEnv 15 [(0, .one (.ptr 0 0 0)), (3, .one (.ref 1 0 x.1.2.2.length))], [.live 4 [rsT x.1.2.1], .live 1 (strsT x.1.2.2)]⟩) (fun x => x.1.1) ⟨(s.list.length + 1, R0, [n0]), q1, by dsimp only; omega, by dsimp only; omega, by simp only [List.length_singleton]; omega, hRES⟩ ?_ ?_
 ·first | (refine wCn [0, 3] [1] ?_ ?_ ?_ <;> (simp (disch := omega) only [go_sem, i1, List.length_singleton]; done))
 rintro ⟨⟨m, X, acc⟩, g1, g2, g3, g4, he⟩
 dsimp only at g1 g2 g3 g4 he ⊢
 clear hname q1 q3 q5 q6 hRES i1 h hl5
 obtain ⟨m, rfl⟩ : ∃ m', m = m' + 1 := ⟨m - 1, by omega⟩
 have htk := sMay_ok X bComma g1
 have hin := isS_in (s := X) (w := bComma)
 cases h1 : isS X bComma
 ·rw [mayS_no h1, h1] at htk
  unfold namesFS at he
  rw [h1, if_neg (by simp)] at he
  obtain ⟨rfl, rfl⟩ := Prod.mk.inj he
  clear hin
  simp (disch := omega) only [go_sem]
  have x1 : HB 0 _ := ⟨htk⟩
  exact wks
 ·rw [mayS_yes h1, h1] at htk
  unfold namesFS at he
  rw [h1, if_pos rfl] at he
  have hc := hin h1
  have ha := advS_ok g1 hc
  have hnm := sName_ok (advS X) ha
  obtain ⟨c1, c2, c3, -⟩ := name_keepS ha
  obtain ⟨⟨Y, nm⟩, hY⟩ : ∃ x, nameS (advS X) = x := ⟨_, rfl⟩
  rw [hY] at hnm c1 c2 c3 he
  dsimp only at hnm c1 c2 c3 he
  have c5 : Y.list.length ≤ X.list.length := by rw [c2]; exact Nat.le_refl _
  have c6 : X.cur + 1 ≤ Y.cur := c3
  have hadv : advS X = ⟨X.list, X.cur + 1, X.bad, X.nodes⟩ := rfl
  rw [hadv] at htk hnm
  clear c2 c3 hY hadv hin ha
  simp (disch := omega) only [go_sem]
  have x1 : HB 0 _ := ⟨htk⟩
  have x2 : HB 0 _ := ⟨hnm⟩
  refine wksr ?_
  intros
  all_goals refine ⟨⟨(m, Y, acc ++ [nm]), c1, by dsimp only; omega, by dsimp only; omega, by simp only [List.length_append, List.length_singleton]; omega, he⟩, ?_, by simp only; omega⟩
  all_goals first | (refine wCn [0, 3] [3] ?_ ?_ ?_ <;> (simp (disch := omega) only [go_sem, List.length_append, List.length_singleton]; done))
theorem valueVS_does : ∀ s, RsOk s → potS s ≤ 1000000 → CallOk Tryz.prog 214 [.one (.box (rsT s))] (.s (.one (iV (valueVS s).2))) [some (.box (rsT (valueVS s).1))] := fun s h hp => value_allS 501 s h (by have := h.len; omega) hp
theorem sCall_ok (s : Rs) (h : RsOk s) (hp : potS s ≤ 1000000) : CallOk Tryz.prog 215 [.one (.box (rsT s))] (.s (.one (iV (callS valueVS s).2))) [some (.box (rsT (callS valueVS s).1))] := by
 have k1 := kpS_name h
 have k2 := k1.trans (kpS_must (w := bDot) k1.1.1)
 have k3 := k2.trans (kpS_name k2.1.1)
 have k4 := k3.trans (kpS_must (w := bOpen) k3.1.1)
 have k5 := k4.trans (kpS_value k4.1.1)
 have k6 := k5.trans (kpS_must (w := bShut) k5.1.1)
 have c1 := sName_ok s h
 have c2 := sMust_ok (nameS s).1 bDot k1.1.1
 have c3 := sName_ok _ k2.1.1
 have c4 := sMust_ok _ bOpen k3.1.1
 have c5 := valueVS_does _ k4.1.1 (Nat.le_trans k4.1.2.2.2 hp)
 have c6 := sMust_ok _ bShut k5.1.1
 have c7 := sMay_ok _ bTo k6.1.1
 have c8 := fun (hi : isS (mustS (valueVS (mustS (nameS (mustS (nameS s).1 bDot)).1 bOpen)).1 bShut) bTo = true) => sName_ok _ (is_advS k6.1.1 hi).ok
 have k8 := fun (hi : isS (mustS (valueVS (mustS (nameS (mustS (nameS s).1 bDot)).1 bOpen)).1 bShut) bTo = true) => (k6.trans ((is_advS k6.1.1 hi).kp.trans (kpS_name (is_advS k6.1.1 hi).ok))).1.2.2.2
 have kp6 := k6.1.2.2.2
 have hcall : callS valueVS s = if isS (mustS (valueVS (mustS (nameS (mustS (nameS s).1 bDot)).1 bOpen)).1 bShut) bTo = true then putS (nameS (advS (mustS (valueVS (mustS (nameS (mustS (nameS s).1 bDot)).1 bOpen)).1 bShut))).1 ⟨14, 0, (nameS s).2, (nameS (mustS (nameS s).1 bDot)).2, (nameS (advS (mustS (valueVS (mustS (nameS (mustS (nameS s).1 bDot)).1 bOpen)).1 bShut))).2, [(valueVS (mustS (nameS (mustS (nameS s).1 bDot)).1 bOpen)).2]⟩ else putS (mustS (valueVS (mustS (nameS (mustS (nameS s).1 bDot)).1 bOpen)).1 bShut) ⟨14, 0, (nameS s).2, (nameS (mustS (nameS s).1 bDot)).2, noB, [(valueVS (mustS (nameS (mustS (nameS s).1 bDot)).1 bOpen)).2]⟩ := rfl
 rw [hcall]
 clear hcall k1 k2 k3 k4 k5 k6
 obtain ⟨⟨A, a⟩, hA⟩ : ∃ x, nameS s = x := ⟨_, rfl⟩
 rw [hA] at c1 c2 c3 c4 c5 c6 c7 c8 k8 kp6 ⊢
 dsimp only at c1 c2 c3 c4 c5 c6 c7 c8 k8 kp6 ⊢
 obtain ⟨A2, hA2⟩ : ∃ x, mustS A bDot = x := ⟨_, rfl⟩
 rw [hA2] at c2 c3 c4 c5 c6 c7 c8 k8 kp6 ⊢
 obtain ⟨⟨B, b⟩, hB⟩ : ∃ x, nameS A2 = x := ⟨_, rfl⟩
 rw [hB] at c3 c4 c5 c6 c7 c8 k8 kp6 ⊢
 dsimp only at c3 c4 c5 c6 c7 c8 k8 kp6 ⊢
 obtain ⟨B2, hB2⟩ : ∃ x, mustS B bOpen = x := ⟨_, rfl⟩
 rw [hB2] at c4 c5 c6 c7 c8 k8 kp6 ⊢
 obtain ⟨⟨C, c⟩, hC⟩ : ∃ x, valueVS B2 = x := ⟨_, rfl⟩
 rw [hC] at c5 c6 c7 c8 k8 kp6 ⊢
 dsimp only at c5 c6 c7 c8 k8 kp6 ⊢
 obtain ⟨D, hD⟩ : ∃ x, mustS C bShut = x := ⟨_, rfl⟩
 rw [hD] at c6 c7 c8 k8 kp6 ⊢
 clear hA hA2 hB hB2 hC hD
 have i1 : intsT [c] = [[T.v (.int .i64 c)]] := rfl
 cases q : isS D bTo
 ·rw [mayS_no q, q] at c7
  rw [if_neg (by simp)]
  clear c8 k8
  have hput := sPut_ok D ⟨14, 0, a, b, noB, [c]⟩ (by have := nodesS_le (s := D); omega) (by simp)
  obtain ⟨⟨Z, z⟩, hZ⟩ : ∃ x, putS D ⟨14, 0, a, b, noB, [c]⟩ = x := ⟨_, rfl⟩
  rw [hZ] at hput ⊢
  dsimp only at hput ⊢
  clear hZ
  refine cOh 40 (hBd Tryz.func215 rfl (by kernel_rfl) ?_)
  simp (disch := omega) only [go_sem, Tryz.ntmps215, Tryz.results215]
  have x1 := @aNl
  have x2 : HB 0 _ := ⟨c1⟩
  have x3 : HB 0 _ := ⟨c2⟩
  have x4 : HB 1 _ := ⟨c3⟩
  have x5 : HB 1 _ := ⟨c4⟩
  have x6 : HB 0 _ := ⟨c5⟩
  have x7 : HB 2 _ := ⟨c6⟩
  have x8 : HB 0 _ := ⟨c7⟩
  have x9 : HB 0 _ := ⟨hput⟩
  exact wks
 ·rw [mayS_yes q, q] at c7
  rw [if_pos rfl]
  replace c8 := c8 q
  replace k8 := k8 q
  have hadv : advS D = ⟨D.list, D.cur + 1, D.bad, D.nodes⟩ := rfl
  obtain ⟨⟨G, g⟩, hG⟩ : ∃ x, nameS (advS D) = x := ⟨_, rfl⟩
  rw [hG] at c8 k8 ⊢
  dsimp only at c8 k8 ⊢
  rw [hadv] at c7 c8
  have hput := sPut_ok G ⟨14, 0, a, b, g, [c]⟩ (by have := nodesS_le (s := G); omega) (by simp)
  obtain ⟨⟨Z, z⟩, hZ⟩ : ∃ x, putS G ⟨14, 0, a, b, g, [c]⟩ = x := ⟨_, rfl⟩
  rw [hZ] at hput ⊢
  dsimp only at hput ⊢
  clear hadv hG hZ
  refine cOh 40 (hBd Tryz.func215 rfl (by kernel_rfl) ?_)
  simp (disch := omega) only [go_sem, Tryz.ntmps215, Tryz.results215]
  repeat' (first | (with_reducible first | refine i_seq ?_) | ((first | (with_reducible first | refine iBk ?_ | refine iRQ (fun Q' hQ => ?_) | (refine Imp.go hQ ?_; clear hQ)) | ((with_reducible refine i_condT ?_ ?_); (focus (simp only [go_sem, *]; done))) | ((with_reducible refine i_condF ?_ ?_); (focus (simp only [go_sem, *]; done))) | ((with_reducible first | refine rOg (fun h => ?_) (fun h => ?_) | refine i_cond (by simp only [go_sem, *] <;> rfl) (fun h => ?_) (fun h => ?_)) <;> (try simp only [nqA, nqB, nqC, reduceCtorEq] at h) <;> (try have h' := odT h) <;> (try (have hz : (_ : Int) = (_ : Int) := h'; clear hz h')) <;> (try have h' := odF h) <;> (try have h' := inB_t h) <;> (try (exfalso; omega))) | ((first | ((with_reducible refine hcO 40 false (c1) ?_ ?_ ?_ ?_ ?_); iterate 4 (focus (simp (disch := omega) only [go_sem, aNl, i1, reduceCtorEq, nLo]; done))) | ((with_reducible refine hcO 40 false (c2) ?_ ?_ ?_ ?_ ?_); iterate 4 (focus (simp (disch := omega) only [go_sem, aNl, i1, reduceCtorEq, nLo]; done))) | ((with_reducible refine hcO 40 false (c3) ?_ ?_ ?_ ?_ ?_); iterate 4 (focus (simp (disch := omega) only [go_sem, aNl, i1, reduceCtorEq, nLo]; done))) | ((with_reducible refine hcO 40 false (c4) ?_ ?_ ?_ ?_ ?_); iterate 4 (focus (simp (disch := omega) only [go_sem, aNl, i1, reduceCtorEq, nLo]; done))) | ((with_reducible refine hcO 40 false (c5) ?_ ?_ ?_ ?_ ?_); iterate 4 (focus (simp (disch := omega) only [go_sem, aNl, i1, reduceCtorEq, nLo]; done))) | ((with_reducible refine hcO 40 false (c6) ?_ ?_ ?_ ?_ ?_); iterate 4 (focus (simp (disch := omega) only [go_sem, aNl, i1, reduceCtorEq, nLo]; done))) | ((with_reducible refine hcO 40 false (c7) ?_ ?_ ?_ ?_ ?_); iterate 4 (focus (simp (disch := omega) only [go_sem, aNl, i1, reduceCtorEq, nLo]; done))) | ((with_reducible refine hcO 40 false (c8) ?_ ?_ ?_ ?_ ?_); iterate 4 (focus (simp (disch := omega) only [go_sem, aNl, i1, reduceCtorEq, nLo]; done))) | ((with_reducible refine hcO 40 false (hput) ?_ ?_ ?_ ?_ ?_); iterate 4 (focus (simp (disch := omega) only [go_sem, aNl, i1, reduceCtorEq, nLo]; done)))); simp only [go_sem, aNl, i1, reduceCtorEq]; refine aLr ?_)) <;> (try simp (disch := first | omega | (simp only [sAp, size_mk, List.size_toArray, List.length_cons, List.length_nil]; omega)) only [go_sem, aNl, i1, reduceCtorEq, *])))
  all_goals (try simp (disch := omega) only [EndK, go_sem, aNl, i1, reduceCtorEq, nLo, *])
end Go.Proofs.YtejnpiielcbkkaaGreat.E
end
