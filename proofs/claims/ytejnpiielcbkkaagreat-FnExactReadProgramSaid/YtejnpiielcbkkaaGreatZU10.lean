/- A part of what stands under the laws of this seat: an abstract evaluator that is proved sound, and contracts of functions by it. No condition beside those that stand in each statement. -/
import Derived.Test.YtejnpiielcbkkaaGreatZU9
import Derived.Test.YtejnpiielcbkkaaGreatZV1
set_option linter.unusedVariables false
set_option linter.unusedSimpArgs false
section
set_option maxRecDepth 100000
set_option maxHeartbeats 4000000
namespace Go.Proofs.YtejnpiielcbkkaaGreat.E
/-! ### Processes and monitors of the reference: what they keep -/
theorem kpS_names {s : Rs} (h : RsOk s) : KpS s (namesS s).1 := (namesS_keep h).1
theorem kpS_uses {s : Rs} (h : RsOk s) : KpS s (usesS s).1 := by
 unfold usesS
 split
 ·rename_i hi
  have a := is_advS h hi
  exact a.kp.trans (kpS_names a.ok)
 ·exact KpS.refl h
theorem kpS_list {s : Rs} {w : ByteArray} (h : RsOk s) : KpS s (listS w s).1 := by
 unfold listS
 split
 ·rename_i hi
  have a := is_advS h hi
  have k := kpS_names a.ok
  exact (a.kp.trans k).trans (kpS_must k.1.1)
 ·exact KpS.refl h
def smNames (xs : List ByteArray) : Prop := xs.length ≤ 600 ∧ ∀ y ∈ xs, y.size ≤ 1048576
theorem smNames_nil : smNames [] := ⟨Nat.zero_le _, fun y hy => absurd hy (by simp)⟩
theorem uses_smS {s : Rs} (h : RsOk s) : smNames (usesS s).2 := by
 unfold usesS
 split
 ·rename_i hi
  have g := namesS_keep (is_advS h hi).ok
  exact ⟨g.2.2, g.2.1⟩
 ·exact smNames_nil
theorem list_smS {s : Rs} {w : ByteArray} (h : RsOk s) : smNames (listS w s).2 := by
 unfold listS
 split
 ·rename_i hi
  have g := namesS_keep (is_advS h hi).ok
  exact ⟨g.2.2, g.2.1⟩
 ·exact smNames_nil
def smProc (x : Process) : Prop := x.name.size ≤ 1048576 ∧ smNames x.uses ∧ smNames x.vars
def smMon (x : Monitor) : Prop := x.name.size ≤ 1048576 ∧ smNames x.vars ∧ smNames x.queues ∧ x.entries.length ≤ 600 ∧ ∀ y ∈ x.entries, smEntry y
theorem kpS_proc {s : Rs} (h : RsOk s) : KpS s (procS s).1 ∧ smProc (procS s).2 := by
 have k1 := kpS_name h
 have k2 := k1.trans (kpS_uses k1.1.1)
 have k3 := k2.trans (kpS_must (w := bSemi) k2.1.1)
 have k4 := k3.trans (kpS_list (w := k_var) k3.1.1)
 have k5 := k4.trans (blockVS_kp k4.1.1)
 exact ⟨k5.trans (kpS_must (w := bSemi) k5.1.1), name_smS h, uses_smS k1.1.1, list_smS k3.1.1⟩
theorem kpS_ent {s : Rs} (h : RsOk s) : KpS s (entS s).1 ∧ smEntry (entS s).2 := by
 have k1 := kpS_name h
 have k2 := k1.trans (kpS_must (w := bOpen) k1.1.1)
 have k3 := k2.trans (kpS_name k2.1.1)
 have k4 := k3.trans (kpS_must (w := bShut) k3.1.1)
 have k5 := k4.trans (blockVS_kp k4.1.1)
 exact ⟨k5.trans (kpS_must (w := bSemi) k5.1.1), name_smS h, name_smS k2.1.1⟩
theorem kpS_entF : ∀ (n : Nat) (s : Rs) (es : List Entry), RsOk s → (∀ y ∈ es, smEntry y) → KpS s (entFS n s es).1 ∧ (entFS n s es).2.length ≤ es.length + n ∧ ∀ y ∈ (entFS n s es).2, smEntry y
 | 0, s, es, h, he => ⟨KpS.refl h, Nat.le_refl _, he⟩
 | n + 1, s, es, h, he => by
  unfold entFS
  split
  ·rename_i hi
   have a := is_advS h hi
   obtain ⟨k1, k2⟩ := kpS_ent a.ok
   have k := a.kp.trans k1
   obtain ⟨g1, g2, g3⟩ := kpS_entF n (entS (advS s)).1 (es ++ [(entS (advS s)).2]) k.1.1 (fun y hy => by
    rcases List.mem_append.1 hy with hy | hy
    ·exact he y hy
    ·rw [List.mem_singleton] at hy; rw [hy]; exact k2)
   rw [List.length_append, List.length_singleton] at g2
   exact ⟨k.trans g1, by omega, g3⟩
  ·exact ⟨KpS.refl h, Nat.le_add_right _ _, he⟩
theorem kpS_mon {s : Rs} (h : RsOk s) : KpS s (monS s).1 ∧ smMon (monS s).2 := by
 have k1 := kpS_name h
 have k2 := k1.trans (kpS_must (w := bSemi) k1.1.1)
 have k3 := k2.trans (kpS_list (w := k_var) k2.1.1)
 have k4 := k3.trans (kpS_list (w := k_queue) k3.1.1)
 obtain ⟨e1, e2, e3⟩ := kpS_entF (s.list.length + 1) _ [] k4.1.1 (fun y hy => absurd hy (by simp))
 have k5 := k4.trans e1
 have k6 := k5.trans (kpS_must (w := bEnd) k5.1.1)
 have hl := h.len
 exact ⟨k6.trans (kpS_must (w := bSemi) k6.1.1), name_smS h, list_smS k2.1.1, list_smS k3.1.1, Nat.le_trans e2 (by simp only [List.length_nil]; omega), e3⟩
end Go.Proofs.YtejnpiielcbkkaaGreat.E
end
section
set_option maxRecDepth 100000
set_option maxHeartbeats 4000000
namespace Go.Proofs.YtejnpiielcbkkaaGreat.E
theorem sListed_ok (s : Rs) (w : ByteArray) (h : RsOk s) : CallOk Tryz.prog 83 [.one (.box (rsT s)), .one (sV w)] (.s (.one (.own 1 (strsT (listS w s).2)))) [some (.box (rsT (listS w s).1)), none] := by
 have c0 := sMay_ok s w h
 have s0 : strsT [] = [] := rfl
 have hv : listS w s = if isS s w = true then (mustS (namesS (advS s)).1 bSemi, (namesS (advS s)).2) else (s, []) := rfl
 rw [hv]
 clear hv
 cases q : isS s w
 ·rw [mayS_no q, q] at c0
  rw [if_neg (by simp)]
  dsimp only
  refine cOh 40 (hBd Tryz.func83 rfl (by kernel_rfl) ?_)
  simp (disch := omega) only [go_sem, Tryz.ntmps83, Tryz.results83]
  have x1 : HB 0 _ := ⟨c0⟩
  exact wks
 ·rw [mayS_yes q, q] at c0
  rw [if_pos rfl]
  have a := is_advS h q
  have c1 := sNames_ok _ a.ok
  obtain ⟨kn, -, ln⟩ := namesS_keep a.ok
  have c2 := sMust_ok _ bSemi kn.1.1
  have hadv : advS s = ⟨s.list, s.cur + 1, s.bad, s.nodes⟩ := rfl
  obtain ⟨⟨G, g⟩, hG⟩ : ∃ x, namesS (advS s) = x := ⟨_, rfl⟩
  rw [hG] at c1 c2 ln ⊢
  dsimp only at c1 c2 ln ⊢
  obtain ⟨D, hD⟩ : ∃ x, mustS G bSemi = x := ⟨_, rfl⟩
  rw [hD] at c2 ⊢
  rw [hadv] at c0 c1
  clear hadv hG hD kn a
  refine cOh 40 (hBd Tryz.func83 rfl (by kernel_rfl) ?_)
  simp (disch := omega) only [go_sem, Tryz.ntmps83, Tryz.results83]
  have x1 : HB 0 _ := ⟨c0⟩
  have x2 : HB 0 _ := ⟨c1⟩
  have x3 : HB 0 _ := ⟨c2⟩
  exact wks
end Go.Proofs.YtejnpiielcbkkaaGreat.E
end
section
set_option maxRecDepth 100000
set_option maxHeartbeats 4000000
namespace Go.Proofs.YtejnpiielcbkkaaGreat.E
/-! ### What is known of the signs of a text -/
structure SgOk (z : ByteArray) (y : Sign) : Prop where
  pos0 : 0 ≤ y.pos
  pos1 : y.pos ≤ z.size
  txt : y.text.size ≤ z.size
  fig : y.kind = 2 → Fig y.text
theorem signAt_sg {z : ByteArray} {k : Nat} (hk : k < z.size) (h : (signAt z k).2.2 = true) : SgOk z (signAt z k).1 := by
 have ext : ∀ e, (z.extract k e).size ≤ z.size := fun e => by rw [ByteArray.size_extract]; omega
 unfold signAt at h ⊢
 split
 ·rename_i h1
  rw [if_pos h1] at h
  split
  ·rename_i h2; rw [if_pos h2] at h; cases h
  ·exact ⟨by dsimp only; omega, by dsimp only; omega, ext _, fun hq => absurd hq (by simp)⟩
 ·rename_i h1
  rw [if_neg h1] at h
  split
  ·rename_i h2
   rw [if_pos h2] at h
   split
   ·rename_i h3; rw [if_pos h3] at h; cases h
   ·refine ⟨by dsimp only; omega, by dsimp only; omega, ext _, fun _ => ?_⟩
    obtain ⟨r1, r2⟩ := runF_lt (p := figureB) hk h2
    show 48 ≤ bt (z.extract k (runF figureB z k)) 0 ∧ bt (z.extract k (runF figureB z k)) 0 ≤ 57
    rw [bt_ext (by omega) r2]
    have hb := h2
    unfold figureB at hb
    exact inB_t hb
  ·rename_i h2
   rw [if_neg h2] at h
   split
   ·exact ⟨by dsimp only; omega, by dsimp only; omega, ext _, fun hq => absurd hq (by simp)⟩
   ·rename_i h3
    rw [if_neg h3] at h
    split
    ·exact ⟨by dsimp only; omega, by dsimp only; omega, ext _, fun hq => absurd hq (by simp)⟩
    ·rename_i h4; rw [if_neg h4] at h; cases h
theorem lexF_sg {z : ByteArray} : ∀ (n k : Nat) (acc : List Sign), acc.length ≤ 500 → (∀ y ∈ acc, SgOk z y) → (lexF z n k acc).1.length ≤ 500 ∧ ∀ y ∈ (lexF z n k acc).1, SgOk z y
 | 0, k, acc, hl, h => ⟨hl, h⟩
 | n + 1, k, acc, hl, h => by
  have h0 : ([] : List Sign).length ≤ 500 ∧ ∀ y ∈ ([] : List Sign), SgOk z y := ⟨Nat.zero_le _, fun y hy => absurd hy (by simp)⟩
  unfold lexF
  split
  ·exact ⟨hl, h⟩
  ·rename_i hk
   have hkl : k < z.size := by
    have := of_decide_eq_true (by simpa using hk : decide ((k : Int) < (z.size : Int)) = true)
    omega
   split
   ·exact lexF_sg n _ acc hl h
   ·split
    ·exact lexF_sg n _ acc hl h
    ·split
     ·exact lexF_sg n _ acc hl h
     ·split
      ·exact h0
      ·rename_i hs
       split
       ·exact h0
       ·rename_i h5
        refine lexF_sg n _ _ ?_ fun y hy => ?_
        ·rw [List.length_append, List.length_singleton]
         have : ¬ (acc.length : Int) = 500 := by simpa using h5
         omega
        ·rcases List.mem_append.1 hy with hy | hy
         ·exact h y hy
         ·rw [List.mem_singleton] at hy; rw [hy]; exact signAt_sg hkl (by simpa using hs)
theorem signsOf_sg (z : ByteArray) : (signsOf z).1.length ≤ 500 ∧ ∀ y ∈ (signsOf z).1, SgOk z y := by
 unfold signsOf
 split
 ·exact ⟨Nat.zero_le _, fun y hy => absurd hy (by simp)⟩
 ·exact lexF_sg _ _ _ (Nat.zero_le _) (fun y hy => absurd hy (by simp))
/-! ### Programs, plainly -/
def startR (L : List Sign) (z : ByteArray) : Rd := ⟨L, z.size, 0, 0, ⟨[], [], []⟩⟩
def startS (L : List Sign) : Rs := ⟨L, 0, false, []⟩
def dotR (r : Rd) : Rd := if decide (((wantL r [bDot]).cur : Int) < ((wantL r [bDot]).list.length : Int)) = true then wrongR (wantL r [bDot]) else wantL r [bDot]
def bodyR (L : List Sign) (z : ByteArray) : Rd := procsF (L.length + 1) (monsF (L.length + 1) (startR L z))
def outR (pk : Prgm → Bool) (r : Rd) : Prgm × Int := if (r.place != 0) = true then (programZ, r.place) else if pk r.prog = false then (programZ, 1) else (r.prog, 0)
def readL (pk : Prgm → Bool) (L : List Sign) (z : ByteArray) : Prgm × Int := outR pk (dotR (bodyR L z))
def readR (pk : Prgm → Bool) (z : ByteArray) : Prgm × Int := if ((signsOf z).2 != 0) = true then (programZ, (signsOf z).2) else readL pk (signsOf z).1 z
def monsS (L : List Sign) : Rs × List Monitor := monsFS (L.length + 1) (startS L) []
def procsS (L : List Sign) : Rs × List Process := procsFS (L.length + 1) (monsS L).1 []
def dotS (L : List Sign) : Rs := mustS (procsS L).1 bDot
def outS (pk : Prgm → Bool) (L : List Sign) (z : ByteArray) : Prgm × Int :=
 if ((dotS L).bad || decide (((dotS L).cur : Int) < (L.length : Int))) = true then
  (if decide (((dotS L).cur : Int) < (L.length : Int)) = true then (programZ, (L.getD (dotS L).cur signZ).pos + 1) else (programZ, (z.size : Int) + 1))
 else if pk ⟨(dotS L).nodes, (monsS L).2, (procsS L).2⟩ = false then (programZ, 1) else (⟨(dotS L).nodes, (monsS L).2, (procsS L).2⟩, 0)
theorem startR_ok {L : List Sign} {z : ByteArray} (hz : z.size ≤ 1048576) (h : L.length ≤ 500 ∧ ∀ y ∈ L, SgOk z y) : RdOk (startR L z) :=
 ⟨h.1, Nat.zero_le _, by show (0 : Int) ≤ (z.size : Int); omega, by show (z.size : Int) ≤ 1048576; omega, fun y hy => ⟨(h.2 y hy).pos0, by have := (h.2 y hy).pos1; omega⟩, fun y hy => Nat.le_trans (h.2 y hy).txt hz⟩
theorem startS_ok {L : List Sign} {z : ByteArray} (hz : z.size ≤ 1048576) (h : L.length ≤ 500 ∧ ∀ y ∈ L, SgOk z y) : RsOk (startS L) :=
 ⟨h.1, Nat.zero_le _, fun y hy => Nat.le_trans (h.2 y hy).txt hz, fun y hy => absurd hy (by simp [startS])⟩
theorem sim_start {L : List Sign} {z : ByteArray} (hz : z.size ≤ 1048576) (h : L.length ≤ 500 ∧ ∀ y ∈ L, SgOk z y) : Sim z.size [] [] (startR L z) (startS L) :=
 ⟨startR_ok hz h, fun y hy => (h.2 y hy).fig, rfl, rfl, rfl, fun _ => rfl, fun hb => absurd hb (by simp [startS]), rfl, rfl, rfl⟩
theorem sim_body {L : List Sign} {z : ByteArray} (hz : z.size ≤ 1048576) (h : L.length ≤ 500 ∧ ∀ y ∈ L, SgOk z y) : ∃ M Q, Sim z.size M Q (bodyR L z) (procsS L).1 ∧ ((procsS L).1.bad = false → M = (monsS L).2 ∧ Q = (procsS L).2) := by
 obtain ⟨M, m1, m2⟩ := sim_monsF (L.length + 1) _ _ [] (sim_start hz h) (fun _ => rfl)
 obtain ⟨Q, q1, q2⟩ := sim_procsF (L.length + 1) _ _ [] m1 (fun _ => rfl)
 refine ⟨M, Q, q1, fun hg => ⟨m2 (good_of (fun hb => ?_) hg), q2 hg⟩⟩
 show (procsFS (L.length + 1) (monsFS (L.length + 1) (startS L) []).1 []).1.bad = true
 rw [procsFS_bad _ _ _ hb]
 exact hb
theorem kpS_monsF : ∀ (n : Nat) (s : Rs) (ms : List Monitor), RsOk s → (∀ y ∈ ms, smMon y) → KpS s (monsFS n s ms).1 ∧ (monsFS n s ms).2.length ≤ ms.length + n ∧ ∀ y ∈ (monsFS n s ms).2, smMon y
 | 0, s, ms, h, he => ⟨KpS.refl h, Nat.le_refl _, he⟩
 | n + 1, s, ms, h, he => by
  unfold monsFS
  split
  ·rename_i hi
   have a := is_advS h hi
   obtain ⟨k1, k2⟩ := kpS_mon a.ok
   have k := a.kp.trans k1
   obtain ⟨g1, g2, g3⟩ := kpS_monsF n (monS (advS s)).1 (ms ++ [(monS (advS s)).2]) k.1.1 (fun y hy => by
    rcases List.mem_append.1 hy with hy | hy
    ·exact he y hy
    ·rw [List.mem_singleton] at hy; rw [hy]; exact k2)
   rw [List.length_append, List.length_singleton] at g2
   exact ⟨k.trans g1, by omega, g3⟩
  ·exact ⟨KpS.refl h, Nat.le_add_right _ _, he⟩
theorem kpS_procsF : ∀ (n : Nat) (s : Rs) (ps : List Process), RsOk s → (∀ y ∈ ps, smProc y) → KpS s (procsFS n s ps).1 ∧ (procsFS n s ps).2.length ≤ ps.length + n ∧ ∀ y ∈ (procsFS n s ps).2, smProc y
 | 0, s, ps, h, he => ⟨KpS.refl h, Nat.le_refl _, he⟩
 | n + 1, s, ps, h, he => by
  unfold procsFS
  split
  ·rename_i hi
   have a := is_advS h hi
   obtain ⟨k1, k2⟩ := kpS_proc a.ok
   have k := a.kp.trans k1
   obtain ⟨g1, g2, g3⟩ := kpS_procsF n (procS (advS s)).1 (ps ++ [(procS (advS s)).2]) k.1.1 (fun y hy => by
    rcases List.mem_append.1 hy with hy | hy
    ·exact he y hy
    ·rw [List.mem_singleton] at hy; rw [hy]; exact k2)
   rw [List.length_append, List.length_singleton] at g2
   exact ⟨k.trans g1, by omega, g3⟩
  ·exact ⟨KpS.refl h, Nat.le_add_right _ _, he⟩
theorem dotS_kp {L : List Sign} {z : ByteArray} (hz : z.size ≤ 1048576) (h : L.length ≤ 500 ∧ ∀ y ∈ L, SgOk z y) : KpS (startS L) (dotS L) := by
 obtain ⟨k1, -, -⟩ := kpS_monsF (L.length + 1) (startS L) [] (startS_ok hz h) (fun y hy => absurd hy (by simp))
 obtain ⟨k2, -, -⟩ := kpS_procsF (L.length + 1) (monsS L).1 [] k1.1.1 (fun y hy => absurd hy (by simp))
 exact k1.trans (k2.trans (kpS_must k2.1.1))
/-- A program that is small. -/
structure SmP (p : Prgm) : Prop where
  nodes : p.nodes.length ≤ 3000 ∧ ∀ y ∈ p.nodes, smNode y
  monitors : p.monitors.length ≤ 600 ∧ ∀ y ∈ p.monitors, smMon y
  processes : p.processes.length ≤ 600 ∧ ∀ y ∈ p.processes, smProc y
theorem smP_out {L : List Sign} {z : ByteArray} (hz : z.size ≤ 1048576) (h : L.length ≤ 500 ∧ ∀ y ∈ L, SgOk z y) : SmP ⟨(dotS L).nodes, (monsS L).2, (procsS L).2⟩ := by
 obtain ⟨k1, m1, m2⟩ := kpS_monsF (L.length + 1) (startS L) [] (startS_ok hz h) (fun y hy => absurd hy (by simp))
 obtain ⟨k2, p1, p2⟩ := kpS_procsF (L.length + 1) (monsS L).1 [] k1.1.1 (fun y hy => absurd hy (by simp))
 have k := dotS_kp hz h
 have hl := h.1
 have e : potS (startS L) = 4 * L.length := by show 0 + 4 * (L.length - 0) = _; omega
 have kp := k.1.2.2.2
 have hn := nodesS_le (s := dotS L)
 rw [List.length_nil] at m1 p1
 exact ⟨⟨by show (dotS L).nodes.length ≤ 3000; omega, k.1.1.nd⟩, ⟨Nat.le_trans m1 (by omega), m2⟩, ⟨Nat.le_trans p1 (by omega), p2⟩⟩
/-- Both readers tell the same. -/
theorem read_same (pk : Prgm → Bool) {L : List Sign} {z : ByteArray} (hz : z.size ≤ 1048576) (h : L.length ≤ 500 ∧ ∀ y ∈ L, SgOk z y) : readL pk L z = outS pk L z := by
 obtain ⟨M, Q, b1, b2⟩ := sim_body hz h
 have d := sim_want b1 wd_bDot
 have hl : (wantL (bodyR L z) [bDot]).list = L := by
  have e1 : (mustS (procsS L).1 bDot).list = (wantL (bodyR L z) [bDot]).list := d.list
  have k : (mustS (procsS L).1 bDot).list = L := (dotS_kp hz h).1.2.1
  rw [← e1, k]
 unfold readL outS outR dotR dotS
 rw [hl]
 have hc : (mustS (procsS L).1 bDot).cur = (wantL (bodyR L z) [bDot]).cur := d.cur
 rw [hc]
 cases hd : decide (((wantL (bodyR L z) [bDot]).cur : Int) < (L.length : Int))
 ·simp only [Bool.false_eq_true, if_false, Bool.or_false]
  have hout : ¬ (wantL (bodyR L z) [bDot]).cur < (wantL (bodyR L z) [bDot]).list.length := by
   rw [hl]
   have := of_decide_eq_false hd
   omega
  cases hb : (mustS (procsS L).1 bDot).bad
  ·rw [d.bne0 hb]
   simp only [Bool.false_eq_true, if_false]
   obtain ⟨e1, e2⟩ := b2 (good_of must_bad hb)
   have ep : (wantL (bodyR L z) [bDot]).prog = ⟨(mustS (procsS L).1 bDot).nodes, (monsS L).2, (procsS L).2⟩ := by
    rw [d.nodes hb, ← e1, ← e2, ← d.mon, ← d.pro]
   rw [ep]
  ·rw [d.bne1 hb]
   simp only [if_true]
   rw [d.pos hb, next_out hout]
   show (programZ, (wantL (bodyR L z) [bDot]).size + 1) = _
   rw [d.size]
 ·simp only [if_true, Bool.or_true]
  have hin : (wantL (bodyR L z) [bDot]).cur < (wantL (bodyR L z) [bDot]).list.length := by
   rw [hl]
   have := of_decide_eq_true hd
   omega
  have w := sim_wrong d
  rw [w.bne1 rfl, if_pos rfl, w.pos rfl]
  have en : nextS (wrongR (wantL (bodyR L z) [bDot])) = L.getD (wantL (bodyR L z) [bDot]).cur signZ := by
   have e1 : (wrongR (wantL (bodyR L z) [bDot])).cur = (wantL (bodyR L z) [bDot]).cur := by unfold wrongR; split <;> rfl
   have e2 : (wrongR (wantL (bodyR L z) [bDot])).list = (wantL (bodyR L z) [bDot]).list := by unfold wrongR; split <;> rfl
   rw [next_in (by rw [e1, e2]; exact hin), e1, e2, hl]
  rw [en]
end Go.Proofs.YtejnpiielcbkkaaGreat.E
end
