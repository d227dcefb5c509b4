/- A part of what stands under the laws of this seat: an abstract evaluator that is proved sound, and contracts of functions by it. No condition beside those that stand in each statement. -/
import Derived.Test.YtejnpiielcbkkaaGreatZR24
set_option linter.unusedVariables false
set_option linter.unusedSimpArgs false
set_option maxRecDepth 100000
set_option maxHeartbeats 4000000
namespace Go.Proofs.YtejnpiielcbkkaaGreat.E
/-! ### A process -/
theorem folds_fit {H : List AObj} {o : AObj} (n l i : Nat) {sz : Nat} {rows : List (List T)} (row row' : List T) (hl : H[l]? = some o) (ho : o = .live sz rows) (hi : rows[i]? = some row) (hf : (fitRow n (H.set l .dead) row row').1) :
  Folds H ((fitRow n (H.set l .dead) row row').2.set l (.live sz (rows.set i row'))) := by
 subst ho
 intro R w M F hH
 obtain ⟨L, F1, F2, hL, rfl, hobj, hput⟩ := relHeap_get hH hl
 have hkill := hput R w M .dead fz (fun _ h => h) (List.prefix_refl _) (fun _ _ => rfl) rfl
 rw [z_fa] at hkill
 obtain ⟨hLs, hobj⟩ := hobj
 rcases hobj with ⟨rfl, -⟩ | ⟨c, F', hB, hroom, hR, rfl⟩
 ·simp at hi
 obtain ⟨G1, G2, rfl, hlen, hrow, hback⟩ := relTRows_get hR hi
 obtain ⟨F1', FH', q1, q2, q3⟩ := fitRow_sound n _ row row' c _ G1 F2 hf hrow hkill
 have hll := fitRow_len n _ row row' hf
 have hnew := hback M c row' F1' (List.prefix_refl _) ⟨rfl, fun _ _ => rfl⟩ (by omega) (relTRow_mono (fun _ h => h) (nil_pre M) c row' _ F1' (fun _ _ => rfl) q1)
 have hlM : l < M.length := (List.getElem?_eq_some_iff.1 hL).1
 have hlf : l < (fitRow n (H.set l .dead) row row').2.length := by rw [relHeap_len q2]; exact hlM
 obtain ⟨L2, K1, K2, hL2, rfl, -, hput2⟩ := relHeap_get q2 (List.getElem?_eq_getElem hlf)
 rw [hL] at hL2
 simp only [Option.some.injEq] at hL2
 subst hL2
 have hfin := hput2 R w M (.live sz (rows.set i row')) (fa (fd L.b) (fa F1' G2)) (fun _ h => h) (List.prefix_refl _) (fun _ _ => rfl) ⟨hLs, .inr ⟨c, _, hB, by simpa using hroom, hnew, rfl⟩⟩
 refine ⟨_, hfin, fun b => ?_⟩
 have := q3 b
 simp only [fa] at this ⊢
 omega
/-- A row that holds lists that are nothing yet: each gets a name. -/
theorem names_nil {H : List AObj} {o : AObj} (l sz : Nat) (row row' : List T) (hl : H[l]? = some o) (ho : o = .live sz [row]) (hf : (fitRow 9 (H.set l .dead) row row').1) (he : (fitRow 9 (H.set l .dead) row row').2 = H.set l .dead) :
  Names H (H.set l (.live sz [(nameRow row' H.length).1]) ++ (nameRow row' H.length).2) := by
 have h1 := (folds_fit 9 l 0 row row' hl ho rfl hf).names
 rw [he] at h1
 rw [List.set_set] at h1
 have hlt : l < H.length := (List.getElem?_eq_some_iff.1 hl).1
 have h2 := names_at (H := H.set l (.live sz ([row].set 0 row'))) l 0 (sz := sz) (rows := [row']) row' (by simp [hlt]) rfl rfl
 rw [List.set_set, List.length_set] at h2
 exact h1.trans h2
def usesR (r : Rd) : Rd × List ByteArray := if isR r k_uses = true then namesR (advR r) else (r, [])
def optR (w : ByteArray) (r : Rd) : Rd × List ByteArray := if isR r w = true then (wantL (namesR (advR r)).1 [bSemi], (namesR (advR r)).2) else (r, [])
theorem kp_names {r : Rd} (h : RdOk r) : Kp 0 r (namesR r).1 := by
 obtain ⟨k1, k2, k3, k4⟩ := namesR_keep h
 refine ⟨k1, k2, k3, k4, meas_le k2 k3 fun hp => ?_⟩
 have hw := wrong_place h
 have e0 : nameR r = (wrongR r, noB) := by unfold nameR; rw [if_pos hp]
 unfold namesR
 rw [e0]
 unfold namesF
 have : isR (wrongR r) bComma = false := by
  unfold isR
  rw [place_bne hw, if_neg (by simp)]
 rw [this, if_neg (by simp)]
 exact hw
theorem kp_uses {r : Rd} (h : RdOk r) : Kp 0 r (usesR r).1 := by
 unfold usesR
 split
 ·rename_i hi
  have a := is_adv (by decide) h hi
  exact a.kp (kp_names a.ok) (by omega)
 ·exact Kp.refl h
theorem kp_opt {r : Rd} {w : ByteArray} (hw : w.size ≠ 0) (h : RdOk r) : Kp 0 r (optR w r).1 := by
 unfold optR
 split
 ·rename_i hi
  have a := is_adv hw h hi
  have k := kp_names a.ok
  exact a.kp (k.tr0 (kp_want (s := bSemi) (by decide) k.1)) (by omega)
 ·exact Kp.refl h
theorem namesF_len : ∀ (n : Nat) (r : Rd) (acc : List ByteArray), (namesF n r acc).2.length ≤ acc.length + n
 | 0, r, acc => Nat.le_refl _
 | n + 1, r, acc => by
  unfold namesF
  split
  ·have := namesF_len n (nameR (advR r)).1 (acc ++ [(nameR (advR r)).2])
   rw [List.length_append, List.length_singleton] at this
   omega
  ·exact Nat.le_add_right _ _
theorem namesR_len {r : Rd} (h : RdOk r) : (namesR r).2.length ≤ 600 := by
 have := namesF_len (r.list.length + 1) (nameR r).1 [(nameR r).2]
 rw [List.length_singleton] at this
 have := h.len
 unfold namesR
 omega
theorem uses_len {r : Rd} (h : RdOk r) : (usesR r).2.length ≤ 600 := by
 unfold usesR
 split
 ·rename_i hi; exact namesR_len (is_adv (by decide) h hi).ok
 ·exact Nat.zero_le _
theorem opt_len {r : Rd} {w : ByteArray} (hw : w.size ≠ 0) (h : RdOk r) : (optR w r).2.length ≤ 600 := by
 unfold optR
 split
 ·rename_i hi; exact namesR_len (is_adv hw h hi).ok
 ·exact Nat.zero_le _
def procOf (r : Rd) : Rd × Process := (wantL (blockV (optR k_var (wantL (usesR (nameR r).1).1 [bSemi])).1).1 [bSemi], ⟨(nameR r).2, (usesR (nameR r).1).2, (optR k_var (wantL (usesR (nameR r).1).1 [bSemi])).2, (blockV (optR k_var (wantL (usesR (nameR r).1).1 [bSemi])).1).2⟩)
theorem kp_proc {r : Rd} (h : RdOk r) : Kp 2 r (procOf r).1 := by
 have k1 := kp_name h
 have k2 := k1.tr0 (kp_uses k1.1)
 have k3 := k2.tr0 (kp_want (s := bSemi) (by decide) k2.1)
 have k4 := k3.tr0 (kp_opt (w := k_var) (by decide) k3.1)
 have k5 := k4.trans (blockV_kp k4.1)
 exact (k5.tr0 (kp_want (s := bSemi) (by decide) k5.1)).mono (by omega)
end Go.Proofs.YtejnpiielcbkkaaGreat.E
