/- A part of what stands under the laws of this seat: an abstract evaluator that is proved sound, and contracts of functions by it. No condition beside those that stand in each statement. -/
import Derived.Test.YtejnpiielcbkkaaGreatZU8
set_option linter.unusedVariables false
set_option linter.unusedSimpArgs false
set_option maxRecDepth 100000
set_option maxHeartbeats 4000000
namespace Go.Proofs.YtejnpiielcbkkaaGreat.E
def DoesSS (n : Nat) (S : Rs → Rs × Int) : Prop := ∀ s, RsOk s → measS s ≤ n → potS s ≤ 1000000 → CallOk Tryz.prog 162 [.one (.box (rsT s))] (.s (.one (iV (S s).2))) [some (.box (rsT (S s).1))]
def DoesBS (n : Nat) (B : Rs → Rs × Int) : Prop := ∀ s, RsOk s → measS s ≤ n → potS s ≤ 1000000 → CallOk Tryz.prog 84 [.one (.box (rsT s))] (.s (.one (iV (B s).2))) [some (.box (rsT (B s).1))]
theorem stmt_doesS {n : Nat} {B : Rs → Rs × Int} (hB : ∀ s, RsOk s → measS s + 1 ≤ n → KpS s (B s).1) (dB : ∀ s, RsOk s → measS s + 1 ≤ n → potS s ≤ 1000000 → CallOk Tryz.prog 84 [.one (.box (rsT s))] (.s (.one (iV (B s).2))) [some (.box (rsT (B s).1))]) : DoesSS n (stmtOfS valueVS B) := by
 intro s h hn hp
 have nl : ∀ {x : Rs}, potS x ≤ 1000000 → x.nodes.length ≤ 1000000 := fun hx => Nat.le_trans nodesS_le hx
 unfold stmtOfS
 cases q0 : isS s k_if
 ·rw [if_neg (by simp)]
  cases q1 : isS s k_while
  ·rw [if_neg (by simp)]
   cases q2 : isS s k_call
   ·rw [if_neg (by simp)]
    cases q3 : isS s k_print
    ·rw [if_neg (by simp)]
     cases q4 : isS s k_read
     ·rw [if_neg (by simp)]
      cases q5 : isS s k_delay
      ·rw [if_neg (by simp)]
       cases q6 : isS s k_continue
       ·rw [if_neg (by simp)]
        cases q7 : isS s k_skip
        ·rw [if_neg (by simp)]
         have k1 := kpS_name h
         have k2 := k1.trans (kpS_must (w := k_asg) k1.1.1)
         have k3 := k2.trans (kpS_value k2.1.1)
         exact sStmt_set s _ _ _ _ _ h q0 q1 q2 q3 q4 q5 q6 q7 (sName_ok s h) (sMust_ok _ k_asg k1.1.1) (valueVS_does _ k2.1.1 (Nat.le_trans k2.1.2.2.2 hp)) (nl (Nat.le_trans k3.1.2.2.2 hp))
        ·rw [if_pos rfl]
         exact sStmt_skip s h q0 q1 q2 q3 q4 q5 q6 q7 (nl hp)
       ·rw [if_pos rfl]
        have a := is_advS h q6
        have e := a.pot
        have k := (kpS_name a.ok).1.2.2.2
        exact sStmt_continue s _ _ h q0 q1 q2 q3 q4 q5 q6 (sName_ok _ a.ok) (nl (by omega))
      ·rw [if_pos rfl]
       have a := is_advS h q5
       have e := a.pot
       have k := (kpS_name a.ok).1.2.2.2
       exact sStmt_delay s _ _ h q0 q1 q2 q3 q4 q5 (sName_ok _ a.ok) (nl (by omega))
     ·rw [if_pos rfl]
      have a := is_advS h q4
      have e := a.pot
      have k := (kpS_name a.ok).1.2.2.2
      exact sStmt_read s _ _ h q0 q1 q2 q3 q4 (sName_ok _ a.ok) (nl (by omega))
    ·rw [if_pos rfl]
     have a := is_advS h q3
     have e := a.pot
     have k := (kpS_value a.ok).1.2.2.2
     exact sStmt_print s _ _ h q0 q1 q2 q3 (valueVS_does _ a.ok (by omega)) (nl (by omega))
   ·rw [if_pos rfl]
    have a := is_advS h q2
    have e := a.pot
    exact sStmt_call s _ _ h q0 q1 q2 (sCall_ok _ a.ok (by omega))
  ·rw [if_pos rfl]
   have a := is_advS h q1
   obtain ⟨i1, i2, i3, i4⟩ := if_keepS hB (w := k_do) a hn
   have e := a.pot
   have k := kpS_value a.ok
   have e3 := i2.1.2.2.2
   have e4 := i4.1.2.2.2
   exact sStmt_while s _ _ _ _ _ h q0 q1 (valueVS_does _ a.ok (by omega)) (sMust_ok _ k_do k.1.1) (dB _ i1 i3 (by omega)) (nl (by omega))
 ·rw [if_pos rfl]
  have a := is_advS h q0
  obtain ⟨i1, i2, i3, i4⟩ := if_keepS hB (w := k_then) a hn
  have e := a.pot
  have k := kpS_value a.ok
  have e3 := i2.1.2.2.2
  have e4 := i4.1.2.2.2
  have d1 := valueVS_does _ a.ok (by omega)
  have d2 := dB _ i1 i3 (by omega)
  have d3 := sMust_ok (valueVS (advS s)).1 k_then k.1.1
  cases qe : isS (B (mustS (valueVS (advS s)).1 k_then)).1 k_else
  ·rw [if_neg (by simp)]
   exact sStmt_if s _ _ _ _ _ h q0 d1 d3 d2 i4.1.1 qe (nl (by omega))
  ·rw [if_pos rfl]
   have b := is_advS i4.1.1 qe
   have e5 := b.pot
   have hm : measS (advS (B (mustS (valueVS (advS s)).1 k_then)).1) + 1 ≤ n := by have := i4.2; have := b.meas; have := a.meas; omega
   have e6 := (hB _ b.ok hm).1.2.2.2
   exact sStmt_else s _ _ _ _ _ _ _ h q0 d1 d3 d2 i4.1.1 qe (dB _ b.ok hm (by omega)) (nl (by omega))
theorem block_doesS {n : Nat} {S : Rs → Rs × Int} (hS : KeepBS n S) (dS : DoesSS n S) : DoesBS (n + 1) (blockOfS S) := by
 intro s h hn hp
 have k1 := kpS_must (w := bBegin) h
 have hm := begin_measS h hn
 have k2 := hS _ k1.1.1 hm
 have e1 := k1.1.2.2.2
 have e2 := k2.1.2.2.2
 have e3 := k2.2
 refine sBlock_ok S (fun x => measS x ≤ n ∧ potS x ≤ 1000000) (fun x => RsOk x ∧ measS x ≤ n ∧ potS x ≤ 1000000) (fun x hx hc => dS x hx hc.1 hc.2) (fun x hx => ⟨hx.1, hx.1.len, Nat.le_trans nodesS_le hx.2.2⟩) (fun x hx hi => ?_) s h ⟨hm, by omega⟩ ⟨k2.1.1, by omega, by omega⟩ ?_
 ·obtain ⟨x1, x2, x3⟩ := hx
  have a := is_advS x1 hi
  have f1 := a.pot
  have f2 := a.meas
  have k := hS _ a.ok (by omega)
  have f3 := k.1.2.2.2
  have f4 := k.2
  exact ⟨⟨by omega, by omega⟩, ⟨k.1.1, by omega, by omega⟩, k.1.2.2.1, by rw [k.1.2.1]; exact Nat.le_refl _⟩
 ·rw [k2.1.2.1, k1.1.2.1]; exact Nat.le_refl _
theorem sb_doesS : ∀ n, DoesSS n (stmtBlockS n).1 ∧ DoesBS n (stmtBlockS n).2
 | 0 => by
  have h1 : DoesSS 0 (stmtBlockS 0).1 := stmt_doesS (fun s _ hn => by omega) (fun s _ hn => by omega)
  exact ⟨h1, fun s h hn hp => block_doesS (sb_keepS 0).1 h1 s h (by omega) hp⟩
 | n + 1 => ⟨stmt_doesS (fun s h hn => (sb_keepS n).2 s h (by omega)) (fun s h hn hp => (sb_doesS n).2 s h (by omega) hp), block_doesS (sb_keepS n).1 (sb_doesS n).1⟩
theorem blockVS_does {s : Rs} (h : RsOk s) (hp : potS s ≤ 1000000) : CallOk Tryz.prog 84 [.one (.box (rsT s))] (.s (.one (iV (blockVS s).2))) [some (.box (rsT (blockVS s).1))] := (sb_doesS 501).2 s h (measS_all h) hp
end Go.Proofs.YtejnpiielcbkkaaGreat.E
