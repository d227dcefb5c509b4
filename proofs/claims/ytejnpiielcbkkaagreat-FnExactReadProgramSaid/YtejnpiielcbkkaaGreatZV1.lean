/- A part of what stands under the laws of this seat: an abstract evaluator that is proved sound, and contracts of functions by it. No condition beside those that stand in each statement. -/
import Derived.Test.YtejnpiielcbkkaaGreatZU5
import Derived.Test.YtejnpiielcbkkaaGreatZR28
set_option linter.unusedVariables false
set_option linter.unusedSimpArgs false
section
set_option maxRecDepth 100000
set_option maxHeartbeats 4000000
namespace Go.Proofs.YtejnpiielcbkkaaGreat.E
/-! ### The two readers go together -/
def Fig (b : ByteArray) : Prop := 48 ≤ bt b 0 ∧ bt b 0 ≤ 57
structure Sim (Z : Int) (M : List Monitor) (Q : List Process) (r : Rd) (s : Rs) : Prop where
  ok : RdOk r
  fig : ∀ y ∈ r.list, y.kind = 2 → Fig y.text
  list : s.list = r.list
  cur : s.cur = r.cur
  bad : s.bad = (r.place != 0)
  nodes : s.bad = false → s.nodes = r.prog.nodes
  pos : s.bad = true → r.place = (nextS r).pos + 1
  mon : r.prog.monitors = M
  pro : r.prog.processes = Q
  size : r.size = Z
def SimA {α : Type} (Z : Int) (M : List Monitor) (Q : List Process) (x : Rd × α) (y : Rs × α) : Prop := Sim Z M Q x.1 y.1 ∧ (y.1.bad = false → x.2 = y.2)
/-- A word that is asked for. -/
def Wd (w : ByteArray) : Prop := w.size ≠ 0 ∧ ¬ Fig w
section
variable {Z : Int} {M : List Monitor} {Q : List Process}
theorem Sim.good {r : Rd} {s : Rs} (h : Sim Z M Q r s) (hb : s.bad = false) : (r.place == 0) = true := by
 have := h.bad
 rw [hb] at this
 unfold bne at this
 simpa using this.symm
theorem Sim.wrong {r : Rd} {s : Rs} (h : Sim Z M Q r s) (hb : s.bad = true) : (r.place == 0) = false := by
 have := h.bad
 rw [hb] at this
 unfold bne at this
 simpa using this.symm
theorem Sim.bne0 {r : Rd} {s : Rs} (h : Sim Z M Q r s) (hb : s.bad = false) : (r.place != 0) = false := by rw [← h.bad, hb]
theorem Sim.bne1 {r : Rd} {s : Rs} (h : Sim Z M Q r s) (hb : s.bad = true) : (r.place != 0) = true := by rw [← h.bad, hb]
theorem next_in {r : Rd} (hc : r.cur < r.list.length) : nextS r = r.list.getD r.cur signZ := by
 unfold nextS
 rw [if_neg]
 simp only [decide_eq_true_eq]
 omega
theorem next_out {r : Rd} (hc : ¬ r.cur < r.list.length) : nextS r = ⟨0, noB, 0, r.size⟩ := by
 unfold nextS
 rw [if_pos]
 simp only [decide_eq_true_eq]
 omega
theorem Sim.next {r : Rd} {s : Rs} (h : Sim Z M Q r s) (hc : r.cur < r.list.length) : curS s = nextS r := by
 rw [next_in hc]
 show s.list.getD s.cur signZ = _
 rw [h.list, h.cur]
theorem Sim.mem {r : Rd} {s : Rs} (h : Sim Z M Q r s) (hc : r.cur < r.list.length) : nextS r ∈ r.list := by
 rw [next_in hc, List.getD_eq_getElem?_getD, List.getElem?_eq_getElem hc]
 exact List.getElem_mem hc
theorem sim_is {r : Rd} {s : Rs} {w : ByteArray} (h : Sim Z M Q r s) (hw : Wd w) : isS s w = isR r w := by
 unfold isS isR
 cases hb : s.bad
 ·rw [if_neg (by simp), h.good hb, if_pos rfl]
  by_cases hc : r.cur < r.list.length
  ·have hd : decide ((s.cur : Int) < (s.list.length : Int)) = true := by rw [h.list, h.cur]; exact decide_eq_true (by omega)
   rw [hd, if_neg (by simp), h.next hc]
   cases hq : seq (nextS r).text w
   ·rw [if_pos rfl]
   ·rw [if_neg (by simp)]
    have e := (seq_iff _ _).1 hq
    have hk : (nextS r).kind ≠ 2 := fun hk => hw.2 (by rw [← e]; exact h.fig _ (h.mem hc) hk)
    exact bne_iff_ne.2 hk
  ·have hd : decide ((s.cur : Int) < (s.list.length : Int)) = false := by rw [h.list, h.cur]; exact decide_eq_false (by omega)
   rw [hd, if_pos rfl, next_out hc]
   cases hq : seq noB w
   ·rfl
   ·have e := (seq_iff _ _).1 hq
    exact absurd (by rw [← e]; rfl) hw.1
 ·rw [if_pos rfl, h.wrong hb, if_neg (by simp)]
theorem sim_adv {r : Rd} {s : Rs} (h : Sim Z M Q r s) (hb : s.bad = false) (hc : r.cur < r.list.length) : Sim Z M Q (advR r) (advS s) where
 ok := advR_ok h.ok hc
 fig := h.fig
 list := h.list
 cur := by show s.cur + 1 = r.cur + 1; rw [h.cur]
 bad := h.bad
 nodes := h.nodes
 pos := fun hb' => absurd (show s.bad = true from hb') (by rw [hb]; simp)
 mon := h.mon
 pro := h.pro
 size := h.size
theorem sim_adv_is {r : Rd} {s : Rs} {w : ByteArray} (h : Sim Z M Q r s) (hw : Wd w) (hi : isR r w = true) : Sim Z M Q (advR r) (advS s) :=
 sim_adv h (isS_good (w := w) (by rw [sim_is h hw]; exact hi)) (isR_in hw.1 hi)
theorem sim_wrong {r : Rd} {s : Rs} (h : Sim Z M Q r s) : Sim Z M Q (wrongR r) (badS s) := by
 have hp := wrong_place h.ok
 have ho := wrongR_ok h.ok
 cases hb : s.bad
 ·have e : wrongR r = ⟨r.list, r.size, r.cur, (nextS r).pos + 1, r.prog⟩ := by unfold wrongR; rw [h.good hb, if_pos rfl]
  rw [e] at hp ho ⊢
  exact ⟨ho, h.fig, h.list, h.cur, hp.symm, fun h0 => absurd h0 (by simp [badS]), fun _ => rfl, h.mon, h.pro, h.size⟩
 ·have e : wrongR r = r := by unfold wrongR; rw [h.wrong hb, if_neg (by simp)]
  rw [e]
  exact ⟨h.ok, h.fig, h.list, h.cur, by rw [h.bne1 hb]; rfl, fun h0 => absurd h0 (by simp [badS]), fun _ => h.pos hb, h.mon, h.pro, h.size⟩
theorem badS_id {s : Rs} (hb : s.bad = true) : badS s = s := by
 cases s
 simp only at hb
 subst hb
 rfl
theorem sim_want {r : Rd} {s : Rs} {w : ByteArray} (h : Sim Z M Q r s) (hw : Wd w) : Sim Z M Q (wantL r [w]) (mustS s w) := by
 show Sim Z M Q (wantOne r w) (mustS s w)
 unfold wantOne mustS
 rw [sim_is h hw]
 cases hb : s.bad
 ·rw [h.good hb, if_pos rfl]
  cases hi : isR r w
  ·rw [if_neg (by simp), if_neg (by simp)]; exact sim_wrong h
  ·rw [if_pos rfl, if_pos rfl]; exact sim_adv_is h hw hi
 ·rw [h.wrong hb, if_neg (by simp)]
  have hi : isR r w = false := by unfold isR; rw [h.wrong hb, if_neg (by simp)]
  rw [hi, if_neg (by simp), badS_id hb]
  exact h
theorem sim_name {r : Rd} {s : Rs} (h : Sim Z M Q r s) : SimA Z M Q (nameR r) (nameS s) := by
 have hw : SimA Z M Q (wrongR r, noB) (badS s, noB) := ⟨sim_wrong h, fun _ => rfl⟩
 unfold nameR nameS
 cases hb : s.bad
 ·rw [h.bne0 hb]
  simp only [Bool.false_eq_true, if_false]
  by_cases hc : r.cur < r.list.length
  ·have hd : decide ((s.list.length : Int) ≤ (s.cur : Int)) = false := by rw [h.list, h.cur]; exact decide_eq_false (by omega)
   rw [hd, h.next hc]
   simp only [Bool.false_eq_true, if_false]
   split
   ·exact hw
   ·split
    ·exact hw
    ·exact ⟨sim_adv h hb hc, fun _ => rfl⟩
  ·have hd : decide ((s.list.length : Int) ≤ (s.cur : Int)) = true := by rw [h.list, h.cur]; exact decide_eq_true (by omega)
   rw [hd, if_pos rfl, if_pos]
   ·exact hw
   ·rw [next_out hc]; rfl
 ·rw [h.bne1 hb, if_pos rfl, if_pos rfl]
  exact hw
theorem sim_put {r : Rd} {s : Rs} {n n' : Node} (h : Sim Z M Q r s) (hn : s.bad = false → n = n') : SimA Z M Q (putN r n) (putS s n') := by
 unfold putN putS
 cases hb : s.bad
 ·rw [if_neg (by simp)]
  have e := hn hb
  have en := h.nodes hb
  subst e
  refine ⟨⟨putR_ok h.ok, h.fig, h.list, h.cur, ?_, fun _ => ?_, fun h0 => ?_, h.mon, h.pro, h.size⟩, fun _ => ?_⟩
  ·have := h.bad; rw [hb] at this; exact this
  ·show s.nodes ++ [n] = r.prog.nodes ++ [n]; rw [en]
  ·cases h0
  ·show (r.prog.nodes.length : Int) = (s.nodes.length : Int); rw [en]
 ·rw [if_pos rfl]
  exact ⟨⟨putR_ok h.ok, h.fig, h.list, h.cur, h.bad, fun h0 => absurd h0 (by rw [hb]; simp), fun _ => h.pos hb, h.mon, h.pro, h.size⟩, fun h0 => absurd h0 (by rw [hb]; simp)⟩
/-! Parts with operations between. -/
def Both (Z : Int) (M : List Monitor) (Q : List Process) (P : Rd → Rd × Int) (P' : Rs → Rs × Int) : Prop := (∀ r s, Sim Z M Q r s → SimA Z M Q (P r) (P' s)) ∧ (∀ s, s.bad = true → (P' s).1.bad = true)
theorem Both.good {P : Rd → Rd × Int} {P' : Rs → Rs × Int} (h : Both Z M Q P P') {s : Rs} (hg : (P' s).1.bad = false) : s.bad = false := by
 cases hb : s.bad
 ·rfl
 ·rw [h.2 s hb] at hg; cases hg
/-- What an operation is, told by both. -/
def Ops (Z : Int) (M : List Monitor) (Q : List Process) (L : List ByteArray) (f : Int) : Prop := ∀ r s, Sim Z M Q r s → s.bad = false → (hasS L (nextS r).text = false → opN L s f = (s, 0)) ∧ (hasS L (nextS r).text = true → r.cur < r.list.length ∧ opN L s f = (advS s, opAt r) ∧ (opAt r == 0) = false)
theorem sim_one {P : Rd → Rd × Int} {P' : Rs → Rs × Int} (h : Both Z M Q P P') {r : Rd} {s : Rs} {k k' : Int} (hs : Sim Z M Q r s) (hk : s.bad = false → k = k') (hb : s.bad = false) (hc : r.cur < r.list.length) : SimA Z M Q (chainOne P r k) (calcS P' (advS s, opAt r) k') := by
 obtain ⟨h1, h2⟩ := h.1 _ _ (sim_adv hs hb hc)
 exact sim_put (n := ⟨3, opAt r, noB, noB, noB, [k, (P (advR r)).2]⟩) h1 fun hg => by rw [h2 hg, hk hb]
theorem sim_chF {P : Rd → Rd × Int} {P' : Rs → Rs × Int} {L : List ByteArray} {f : Int} (h : Both Z M Q P P') (ho : Ops Z M Q L f) : ∀ (m : Nat) (r : Rd) (s : Rs) (k k' : Int), Sim Z M Q r s → (s.bad = false → k = k') → SimA Z M Q (chainF P false L m r k) (chS P' L f m s k') := by
 intro m
 induction m with
 | zero => intro r s k k' hs hk; exact ⟨hs, hk⟩
 | succ m ih =>
  intro r s k k' hs hk
  unfold chainF chS
  cases hb : s.bad
  ·rw [hs.good hb]
   simp only [Bool.true_eq_false, Bool.false_eq_true, if_false]
   obtain ⟨o1, o2⟩ := ho r s hs hb
   cases hh : hasS L (nextS r).text
   ·rw [o1 hh, if_pos rfl, if_pos (by rfl)]
    exact ⟨hs, hk⟩
   ·obtain ⟨hc, e, e0⟩ := o2 hh
    rw [e]
    dsimp only
    rw [e0]
    simp only [Bool.true_eq_false, Bool.false_eq_true, if_false]
    obtain ⟨g1, g2⟩ := sim_one h hs hk hb hc
    exact ih _ _ _ _ g1 g2
  ·rw [hs.wrong hb, if_pos rfl, if_pos rfl]
   exact ⟨hs, hk⟩
theorem sim_chain {P : Rd → Rd × Int} {P' : Rs → Rs × Int} {L : List ByteArray} {f : Int} (h : Both Z M Q P P') (ho : Ops Z M Q L f) : Both Z M Q (chain P false L) (chainS P' L f) := by
 refine ⟨fun r s hs => ?_, fun s hb => chainS_bad (h.2 s hb)⟩
 obtain ⟨h1, h2⟩ := h.1 r s hs
 unfold chain chainS
 rw [hs.list]
 exact sim_chF h ho _ _ _ _ _ h1 h2
theorem sim_once {P : Rd → Rd × Int} {P' : Rs → Rs × Int} {L : List ByteArray} {f : Int} (h : Both Z M Q P P') (ho : Ops Z M Q L f) : Both Z M Q (chain P true L) (onceS P' L f) := by
 refine ⟨fun r s hs => ?_, fun s hb => onceS_bad (h.2 s hb)⟩
 obtain ⟨h1, h2⟩ := h.1 r s hs
 unfold chain onceS chainF
 cases hb : (P' s).1.bad
 ·rw [h1.good hb, if_neg (by simp)]
  obtain ⟨o1, o2⟩ := ho _ _ h1 hb
  cases hh : hasS L (nextS (P r).1).text
  ·rw [o1 hh, if_pos rfl, if_pos (by rfl)]
   exact ⟨h1, h2⟩
  ·obtain ⟨hc, e, e0⟩ := o2 hh
   rw [e]
   dsimp only
   rw [e0]
   simp only [Bool.true_eq_false, Bool.false_eq_true, if_false, if_true]
   exact sim_one h h1 h2 hb hc
 ·rw [h1.wrong hb, if_pos rfl, opN_bad hb, if_pos (by rfl)]
  exact ⟨h1, h2⟩
theorem ops_two {a b : ByteArray} {f : Int} (ha : Wd a) (hb : Wd b) (e1 : idxS signsB a 0 + 1 = f) (e2 : idxS signsB b 0 + 1 = f + 1) (hf : 1 ≤ f) : Ops Z M Q [a, b] f := by
 intro r s hs hg
 have ia : isR r a = seq (nextS r).text a := by unfold isR; rw [hs.good hg, if_pos rfl]
 have ib : isR r b = seq (nextS r).text b := by unfold isR; rw [hs.good hg, if_pos rfl]
 have eo : opN [a, b] s f = if isS s a = true then (advS s, f) else if isS s b = true then (advS s, f + 1) else (s, 0) := rfl
 rw [eo, sim_is hs ha, sim_is hs hb]
 cases qa : seq (nextS r).text a
 ·cases qb : seq (nextS r).text b
  ·have hh : hasS [a, b] (nextS r).text = false := by
    unfold hasS
    rw [idxS_no (by simp) (by exact qa), idxS_no (by simp) (by exact qb), idxS_end (by simp)]
    rfl
   rw [ia, qa, ib, qb]
   exact ⟨fun _ => rfl, fun h0 => absurd (hh.symm.trans h0) (by simp)⟩
  ·have hh : hasS [a, b] (nextS r).text = true := by
    unfold hasS
    rw [idxS_no (by simp) (by exact qa), idxS_yes (by simp) (by exact qb)]
    rfl
   have hc := isR_in hb.1 (ib.trans qb)
   have et := (seq_iff _ _).1 qb
   rw [ia, qa, ib, qb, if_neg (by simp), if_pos rfl]
   refine ⟨fun h0 => absurd (hh.symm.trans h0) (by simp), fun _ => ⟨hc, ?_, ?_⟩⟩
   ·unfold opAt; rw [et, e2]
   ·unfold opAt; rw [et, e2]; exact beq_eq_false_iff_ne.2 (by omega)
 ·have hh : hasS [a, b] (nextS r).text = true := by
   unfold hasS
   rw [idxS_yes (by simp) (by exact qa)]
   rfl
  have hc := isR_in ha.1 (ia.trans qa)
  have et := (seq_iff _ _).1 qa
  rw [ia, qa, if_pos rfl]
  refine ⟨fun h0 => absurd (hh.symm.trans h0) (by simp), fun _ => ⟨hc, ?_, ?_⟩⟩
  ·unfold opAt; rw [et, e1]
  ·unfold opAt; rw [et, e1]; exact beq_eq_false_iff_ne.2 (by omega)
theorem ops_three {a b c : ByteArray} {f : Int} (ha : Wd a) (hb : Wd b) (hc3 : Wd c) (e1 : idxS signsB a 0 + 1 = f) (e2 : idxS signsB b 0 + 1 = f + 1) (e3 : idxS signsB c 0 + 1 = f + 1 + 1) (hf : 1 ≤ f) : Ops Z M Q [a, b, c] f := by
 intro r s hs hg
 have ia : isR r a = seq (nextS r).text a := by unfold isR; rw [hs.good hg, if_pos rfl]
 have ib : isR r b = seq (nextS r).text b := by unfold isR; rw [hs.good hg, if_pos rfl]
 have ic : isR r c = seq (nextS r).text c := by unfold isR; rw [hs.good hg, if_pos rfl]
 have eo : opN [a, b, c] s f = if isS s a = true then (advS s, f) else if isS s b = true then (advS s, f + 1) else if isS s c = true then (advS s, f + 1 + 1) else (s, 0) := rfl
 rw [eo, sim_is hs ha, sim_is hs hb, sim_is hs hc3]
 cases qa : seq (nextS r).text a
 ·cases qb : seq (nextS r).text b
  ·cases qc : seq (nextS r).text c
   ·have hh : hasS [a, b, c] (nextS r).text = false := by
     unfold hasS
     rw [idxS_no (by simp) (by exact qa), idxS_no (by simp) (by exact qb), idxS_no (by simp) (by exact qc), idxS_end (by simp)]
     rfl
    rw [ia, qa, ib, qb, ic, qc]
    exact ⟨fun _ => rfl, fun h0 => absurd (hh.symm.trans h0) (by simp)⟩
   ·have hh : hasS [a, b, c] (nextS r).text = true := by
     unfold hasS
     rw [idxS_no (by simp) (by exact qa), idxS_no (by simp) (by exact qb), idxS_yes (by simp) (by exact qc)]
     rfl
    have hc := isR_in hc3.1 (ic.trans qc)
    have et := (seq_iff _ _).1 qc
    rw [ia, qa, ib, qb, ic, qc, if_neg (by simp), if_neg (by simp), if_pos rfl]
    refine ⟨fun h0 => absurd (hh.symm.trans h0) (by simp), fun _ => ⟨hc, ?_, ?_⟩⟩
    ·unfold opAt; rw [et, e3]
    ·unfold opAt; rw [et, e3]; exact beq_eq_false_iff_ne.2 (by omega)
  ·have hh : hasS [a, b, c] (nextS r).text = true := by
    unfold hasS
    rw [idxS_no (by simp) (by exact qa), idxS_yes (by simp) (by exact qb)]
    rfl
   have hc := isR_in hb.1 (ib.trans qb)
   have et := (seq_iff _ _).1 qb
   rw [ia, qa, ib, qb, if_neg (by simp), if_pos rfl]
   refine ⟨fun h0 => absurd (hh.symm.trans h0) (by simp), fun _ => ⟨hc, ?_, ?_⟩⟩
   ·unfold opAt; rw [et, e2]
   ·unfold opAt; rw [et, e2]; exact beq_eq_false_iff_ne.2 (by omega)
 ·have hh : hasS [a, b, c] (nextS r).text = true := by
   unfold hasS
   rw [idxS_yes (by simp) (by exact qa)]
   rfl
  have hc := isR_in ha.1 (ia.trans qa)
  have et := (seq_iff _ _).1 qa
  rw [ia, qa, if_pos rfl]
  refine ⟨fun h0 => absurd (hh.symm.trans h0) (by simp), fun _ => ⟨hc, ?_, ?_⟩⟩
  ·unfold opAt; rw [et, e1]
  ·unfold opAt; rw [et, e1]; exact beq_eq_false_iff_ne.2 (by omega)
end
end Go.Proofs.YtejnpiielcbkkaaGreat.E
end
section
set_option maxRecDepth 100000
set_option maxHeartbeats 4000000
namespace Go.Proofs.YtejnpiielcbkkaaGreat.E
theorem seq_no {x y : ByteArray} (h : x.data.toList ≠ y.data.toList) : seq x y = false := by
 cases hs : seq x y
 ·rfl
 ·exact absurd (by rw [(seq_iff _ _).1 hs]) h
theorem wd_bOpen : Wd bOpen := ⟨by decide, by unfold Fig; decide⟩
theorem wd_bShut : Wd bShut := ⟨by decide, by unfold Fig; decide⟩
theorem wd_bNot : Wd bNot := ⟨by decide, by unfold Fig; decide⟩
theorem wd_bNeg : Wd bNeg := ⟨by decide, by unfold Fig; decide⟩
theorem wd_bComma : Wd bComma := ⟨by decide, by unfold Fig; decide⟩
theorem wd_bDot : Wd bDot := ⟨by decide, by unfold Fig; decide⟩
theorem wd_bTo : Wd bTo := ⟨by decide, by unfold Fig; decide⟩
theorem wd_bBegin : Wd bBegin := ⟨by decide, by unfold Fig; decide⟩
theorem wd_bEnd : Wd bEnd := ⟨by decide, by unfold Fig; decide⟩
theorem wd_bSemi : Wd bSemi := ⟨by decide, by unfold Fig; decide⟩
theorem wd_k_if : Wd k_if := ⟨by decide, by unfold Fig; decide⟩
theorem wd_k_while : Wd k_while := ⟨by decide, by unfold Fig; decide⟩
theorem wd_k_call : Wd k_call := ⟨by decide, by unfold Fig; decide⟩
theorem wd_k_print : Wd k_print := ⟨by decide, by unfold Fig; decide⟩
theorem wd_k_read : Wd k_read := ⟨by decide, by unfold Fig; decide⟩
theorem wd_k_delay : Wd k_delay := ⟨by decide, by unfold Fig; decide⟩
theorem wd_k_continue : Wd k_continue := ⟨by decide, by unfold Fig; decide⟩
theorem wd_k_skip : Wd k_skip := ⟨by decide, by unfold Fig; decide⟩
theorem wd_k_then : Wd k_then := ⟨by decide, by unfold Fig; decide⟩
theorem wd_k_else : Wd k_else := ⟨by decide, by unfold Fig; decide⟩
theorem wd_k_do : Wd k_do := ⟨by decide, by unfold Fig; decide⟩
theorem wd_k_asg : Wd k_asg := ⟨by decide, by unfold Fig; decide⟩
theorem wd_k_uses : Wd k_uses := ⟨by decide, by unfold Fig; decide⟩
theorem wd_k_var : Wd k_var := ⟨by decide, by unfold Fig; decide⟩
theorem wd_s0 : Wd ⟨#[43]⟩ := ⟨by decide, by unfold Fig; decide⟩
theorem ix_s0 : idxS signsB ⟨#[43]⟩ 0 = 0 := by
 rw [idxS_yes (by decide) (by exact (seq_iff _ _).2 rfl)]
 rfl
theorem wd_s1 : Wd ⟨#[45]⟩ := ⟨by decide, by unfold Fig; decide⟩
theorem ix_s1 : idxS signsB ⟨#[45]⟩ 0 = 1 := by
 rw [idxS_no (by decide) (seq_no (by decide)), idxS_yes (by decide) (by exact (seq_iff _ _).2 rfl)]
 rfl
theorem wd_s2 : Wd ⟨#[42]⟩ := ⟨by decide, by unfold Fig; decide⟩
theorem ix_s2 : idxS signsB ⟨#[42]⟩ 0 = 2 := by
 rw [idxS_no (by decide) (seq_no (by decide)), idxS_no (by decide) (seq_no (by decide)), idxS_yes (by decide) (by exact (seq_iff _ _).2 rfl)]
 rfl
theorem wd_s3 : Wd ⟨#[47]⟩ := ⟨by decide, by unfold Fig; decide⟩
theorem ix_s3 : idxS signsB ⟨#[47]⟩ 0 = 3 := by
 rw [idxS_no (by decide) (seq_no (by decide)), idxS_no (by decide) (seq_no (by decide)), idxS_no (by decide) (seq_no (by decide)), idxS_yes (by decide) (by exact (seq_iff _ _).2 rfl)]
 rfl
theorem wd_s4 : Wd ⟨#[37]⟩ := ⟨by decide, by unfold Fig; decide⟩
theorem ix_s4 : idxS signsB ⟨#[37]⟩ 0 = 4 := by
 rw [idxS_no (by decide) (seq_no (by decide)), idxS_no (by decide) (seq_no (by decide)), idxS_no (by decide) (seq_no (by decide)), idxS_no (by decide) (seq_no (by decide)), idxS_yes (by decide) (by exact (seq_iff _ _).2 rfl)]
 rfl
theorem wd_s5 : Wd ⟨#[60]⟩ := ⟨by decide, by unfold Fig; decide⟩
theorem ix_s5 : idxS signsB ⟨#[60]⟩ 0 = 5 := by
 rw [idxS_no (by decide) (seq_no (by decide)), idxS_no (by decide) (seq_no (by decide)), idxS_no (by decide) (seq_no (by decide)), idxS_no (by decide) (seq_no (by decide)), idxS_no (by decide) (seq_no (by decide)), idxS_yes (by decide) (by exact (seq_iff _ _).2 rfl)]
 rfl
theorem wd_s6 : Wd ⟨#[61]⟩ := ⟨by decide, by unfold Fig; decide⟩
theorem ix_s6 : idxS signsB ⟨#[61]⟩ 0 = 6 := by
 rw [idxS_no (by decide) (seq_no (by decide)), idxS_no (by decide) (seq_no (by decide)), idxS_no (by decide) (seq_no (by decide)), idxS_no (by decide) (seq_no (by decide)), idxS_no (by decide) (seq_no (by decide)), idxS_no (by decide) (seq_no (by decide)), idxS_yes (by decide) (by exact (seq_iff _ _).2 rfl)]
 rfl
theorem wd_s7 : Wd ⟨#[97, 110, 100]⟩ := ⟨by decide, by unfold Fig; decide⟩
theorem ix_s7 : idxS signsB ⟨#[97, 110, 100]⟩ 0 = 7 := by
 rw [idxS_no (by decide) (seq_no (by decide)), idxS_no (by decide) (seq_no (by decide)), idxS_no (by decide) (seq_no (by decide)), idxS_no (by decide) (seq_no (by decide)), idxS_no (by decide) (seq_no (by decide)), idxS_no (by decide) (seq_no (by decide)), idxS_no (by decide) (seq_no (by decide)), idxS_yes (by decide) (by exact (seq_iff _ _).2 rfl)]
 rfl
theorem wd_s8 : Wd ⟨#[111, 114]⟩ := ⟨by decide, by unfold Fig; decide⟩
theorem ix_s8 : idxS signsB ⟨#[111, 114]⟩ 0 = 8 := by
 rw [idxS_no (by decide) (seq_no (by decide)), idxS_no (by decide) (seq_no (by decide)), idxS_no (by decide) (seq_no (by decide)), idxS_no (by decide) (seq_no (by decide)), idxS_no (by decide) (seq_no (by decide)), idxS_no (by decide) (seq_no (by decide)), idxS_no (by decide) (seq_no (by decide)), idxS_no (by decide) (seq_no (by decide)), idxS_yes (by decide) (by exact (seq_iff _ _).2 rfl)]
 rfl
section
variable {Z : Int} {M : List Monitor} {Q : List Process}
theorem ops_mul : Ops Z M Q lMul 3 := ops_three wd_s2 wd_s3 wd_s4 (by rw [ix_s2]; try rfl) (by rw [ix_s3]; try rfl) (by rw [ix_s4]; try rfl) (by omega)
theorem ops_add : Ops Z M Q lAdd 1 := ops_two wd_s0 wd_s1 (by rw [ix_s0]; try rfl) (by rw [ix_s1]; try rfl) (by omega)
theorem ops_less : Ops Z M Q lLess 6 := ops_two wd_s5 wd_s6 (by rw [ix_s5]; try rfl) (by rw [ix_s6]; try rfl) (by omega)
theorem ops_and : Ops Z M Q lAnd 8 := ops_two wd_s7 wd_s8 (by rw [ix_s7]; try rfl) (by rw [ix_s8]; try rfl) (by omega)
theorem sim_value {F : Rd → Rd × Int} {F' : Rs → Rs × Int} (h : Both Z M Q F F') : Both Z M Q (valueOf F) (valueS F') :=
 sim_chain (sim_once (sim_chain (sim_chain h ops_mul) ops_add) ops_less) ops_and
theorem sim_fac {V F : Rd → Rd × Int} {V' F' : Rs → Rs × Int} (hV : Both Z M Q V V') (hF : Both Z M Q F F') : Both Z M Q (facOf V F) (facS V' F') := by
 refine ⟨fun r s h => ?_, fun s hb => by unfold facS; rw [if_pos hb]; rfl⟩
 unfold facOf facS
 cases hb : s.bad
 ·rw [h.bne0 hb]
  simp only [Bool.false_eq_true, if_false]
  have hname : SimA Z M Q (if ((nameR r).1.place != 0) = true then ((nameR r).1, (0 : Int)) else (putR (nameR r).1 ⟨2, 0, (nameR r).2, noB, noB, []⟩, ((nameR r).1.prog.nodes.length : Int))) (putS (nameS s).1 ⟨2, 0, (nameS s).2, noB, noB, []⟩) := by
   obtain ⟨n1, n2⟩ := sim_name h
   cases hb1 : (nameS s).1.bad
   ·rw [n1.bne0 hb1, if_neg (by simp)]
    exact sim_put (n := ⟨2, 0, (nameR r).2, noB, noB, []⟩) n1 fun hg => by rw [n2 hg]
   ·rw [n1.bne1 hb1, if_pos rfl]
    have e : putS (nameS s).1 ⟨2, 0, (nameS s).2, noB, noB, []⟩ = ((nameS s).1, 0) := by unfold putS; rw [if_pos hb1]
    rw [e]
    exact ⟨n1, fun _ => rfl⟩
  by_cases hc : r.cur < r.list.length
  ·have hd : decide ((s.list.length : Int) ≤ (s.cur : Int)) = false := by rw [h.list, h.cur]; exact decide_eq_false (by omega)
   rw [hd, h.next hc, sim_is h wd_bOpen, sim_is h wd_bNot, sim_is h wd_bNeg]
   simp only [Bool.false_eq_true, if_false]
   split
   ·exact sim_put (n := ⟨1, (nextS r).num, noB, noB, noB, []⟩) (sim_adv h hb hc) fun _ => rfl
   ·split
    ·rename_i hi
     obtain ⟨v1, v2⟩ := hV.1 _ _ (sim_adv h hb hc)
     refine ⟨sim_want v1 wd_bShut, fun hg => v2 ?_⟩
     cases hv : (V' (advS s)).1.bad
     ·rfl
     ·rw [must_bad hv] at hg; cases hg
    ·split
     ·obtain ⟨v1, v2⟩ := hF.1 _ _ (sim_adv h hb hc)
      exact sim_put (n := ⟨4, 0, noB, noB, noB, [(F (advR r)).2]⟩) v1 fun hg => by rw [v2 hg]
     ·split
      ·obtain ⟨v1, v2⟩ := hF.1 _ _ (sim_adv h hb hc)
       exact sim_put (n := ⟨5, 0, noB, noB, noB, [(F (advR r)).2]⟩) v1 fun hg => by rw [v2 hg]
      ·exact hname
  ·have hd : decide ((s.list.length : Int) ≤ (s.cur : Int)) = true := by rw [h.list, h.cur]; exact decide_eq_true (by omega)
   have hno : ∀ w : ByteArray, w.size ≠ 0 → isR r w = false := fun w hw => by
    cases hi : isR r w
    ·rfl
    ·exact absurd (isR_in hw hi) hc
   rw [hd, if_pos rfl, hno bOpen (by decide), hno bNot (by decide), hno bNeg (by decide), next_out hc, if_neg (by simp)]
   simp only [Bool.false_eq_true, if_false]
   have en : nameR r = (wrongR r, noB) := by unfold nameR; rw [h.bne0 hb, if_neg (by simp), next_out hc, if_pos (by rfl)]
   rw [en, wrong_place h.ok, if_pos rfl]
   exact ⟨sim_wrong h, fun _ => rfl⟩
 ·rw [h.bne1 hb, if_pos rfl, if_pos rfl, badS_id hb]
  exact ⟨h, fun _ => rfl⟩
theorem sim_facN : ∀ n, Both Z M Q (facN n) (facNS n)
 | 0 => ⟨fun r s h => ⟨h, fun _ => rfl⟩, fun s hb => hb⟩
 | n + 1 => sim_fac (sim_value (sim_facN n)) (sim_facN n)
theorem sim_valueV : Both Z M Q valueV valueVS := sim_value (sim_facN 501)
/-! Names, a call. -/
theorem sim_namesF : ∀ (n : Nat) (r : Rd) (s : Rs) (a a' : List ByteArray), Sim Z M Q r s → (s.bad = false → a = a') → SimA Z M Q (namesF n r a) (namesFS n s a') := by
 intro n
 induction n with
 | zero => intro r s a a' h ha; exact ⟨h, ha⟩
 | succ n ih =>
  intro r s a a' h ha
  unfold namesF namesFS
  rw [sim_is h wd_bComma]
  split
  ·rename_i hi
   have hg : s.bad = false := isS_good (w := bComma) (by rw [sim_is h wd_bComma]; exact hi)
   obtain ⟨n1, n2⟩ := sim_name (sim_adv_is h wd_bComma hi)
   exact ih _ _ _ _ n1 fun h0 => by rw [ha hg, n2 h0]
  ·exact ⟨h, ha⟩
theorem sim_names {r : Rd} {s : Rs} (h : Sim Z M Q r s) : SimA Z M Q (namesR r) (namesS s) := by
 obtain ⟨n1, n2⟩ := sim_name h
 unfold namesR namesS
 rw [h.list]
 exact sim_namesF _ _ _ _ _ n1 fun h0 => by rw [n2 h0]
theorem good_of {a b : Bool} (h : a = true → b = true) (hb : b = false) : a = false := by
 cases a
 ·rfl
 ·rw [h rfl] at hb; cases hb
theorem sim_call {V : Rd → Rd × Int} {V' : Rs → Rs × Int} (hV : Both Z M Q V V') {r : Rd} {s : Rs} (h : Sim Z M Q r s) : SimA Z M Q (putN (callP V r).1 (callP V r).2) (callS V' s) := by
 obtain ⟨a1, a2⟩ := sim_name h
 have b0 := sim_want a1 wd_bDot
 obtain ⟨b1, b2⟩ := sim_name b0
 have c0 := sim_want b1 wd_bOpen
 obtain ⟨c1, c2⟩ := hV.1 _ _ c0
 have d1 := sim_want c1 wd_bShut
 have gc : (mustS (V' (mustS (nameS (mustS (nameS s).1 bDot)).1 bOpen)).1 bShut).bad = false → (V' (mustS (nameS (mustS (nameS s).1 bDot)).1 bOpen)).1.bad = false := good_of must_bad
 have gb : (V' (mustS (nameS (mustS (nameS s).1 bDot)).1 bOpen)).1.bad = false → (nameS (mustS (nameS s).1 bDot)).1.bad = false := good_of fun hb => hV.2 _ (must_bad hb)
 have ga : (nameS (mustS (nameS s).1 bDot)).1.bad = false → (nameS s).1.bad = false := good_of fun hb => name_bad (must_bad hb)
 unfold callP callS
 dsimp only
 rw [sim_is d1 wd_bTo]
 split
 ·rename_i hi
  obtain ⟨e1, e2⟩ := sim_name (sim_adv_is d1 wd_bTo hi)
  have gd := isS_good (w := bTo) (by rw [sim_is d1 wd_bTo]; exact hi)
  refine sim_put e1 fun hg => ?_
  have g1 := gc gd
  have g2 := gb g1
  rw [a2 (ga g2), b2 g2, c2 g1, e2 hg]
 ·refine sim_put d1 fun hg => ?_
  have g1 := gc hg
  have g2 := gb g1
  rw [a2 (ga g2), b2 g2, c2 g1]
/-! Statements, blocks. -/
theorem stmtS_bad {V' B' : Rs → Rs × Int} (hV : ∀ s, s.bad = true → (V' s).1.bad = true) {s : Rs} (h : s.bad = true) : (stmtOfS V' B' s).1.bad = true := by
 unfold stmtOfS
 simp only [isS_bad h, Bool.false_eq_true, if_false]
 rw [put_badS]
 exact hV _ (must_bad (name_bad h))
theorem sim_if {V B : Rd → Rd × Int} {V' B' : Rs → Rs × Int} (hV : Both Z M Q V V') (hB : Both Z M Q B B') {r : Rd} {s : Rs} {i w : ByteArray} (hi : Wd i) (hw : Wd w) (h : Sim Z M Q r s) (ht : isR r i = true) :
  Sim Z M Q (B (wantL (V (advR r)).1 [w])).1 (B' (mustS (V' (advS s)).1 w)).1 ∧ ((B' (mustS (V' (advS s)).1 w)).1.bad = false → (V (advR r)).2 = (V' (advS s)).2 ∧ (B (wantL (V (advR r)).1 [w])).2 = (B' (mustS (V' (advS s)).1 w)).2) := by
 obtain ⟨v1, v2⟩ := hV.1 _ _ (sim_adv_is h hi ht)
 obtain ⟨b1, b2⟩ := hB.1 _ _ (sim_want v1 hw)
 exact ⟨b1, fun hg => ⟨v2 (good_of (fun hb => hB.2 _ (must_bad hb)) hg), b2 hg⟩⟩
theorem sim_stmt {V B : Rd → Rd × Int} {V' B' : Rs → Rs × Int} (hV : Both Z M Q V V') (hB : Both Z M Q B B') : Both Z M Q (stmtOf V B) (stmtOfS V' B') := by
 refine ⟨fun r s h => ?_, fun s hb => stmtS_bad hV.2 hb⟩
 unfold stmtOf stmtOfS
 rw [sim_is h wd_k_if, sim_is h wd_k_while, sim_is h wd_k_call, sim_is h wd_k_print, sim_is h wd_k_read, sim_is h wd_k_delay, sim_is h wd_k_continue, sim_is h wd_k_skip]
 split
 ·rename_i ht
  obtain ⟨i1, i2⟩ := sim_if hV hB wd_k_if wd_k_then h ht
  rw [sim_is i1 wd_k_else]
  split
  ·rename_i he
   have gd := isS_good (w := k_else) (by rw [sim_is i1 wd_k_else]; exact he)
   obtain ⟨e1, e2⟩ := i2 gd
   obtain ⟨c1, c2⟩ := hB.1 _ _ (sim_adv_is i1 wd_k_else he)
   exact sim_put c1 fun hg => by rw [e1, e2, c2 hg]
  ·exact sim_put i1 fun hg => by obtain ⟨e1, e2⟩ := i2 hg; rw [e1, e2]
 ·split
  ·rename_i ht
   obtain ⟨i1, i2⟩ := sim_if hV hB wd_k_while wd_k_do h ht
   exact sim_put i1 fun hg => by obtain ⟨e1, e2⟩ := i2 hg; rw [e1, e2]
  ·split
   ·rename_i ht
    exact sim_call hV (sim_adv_is h wd_k_call ht)
   ·split
    ·rename_i ht
     obtain ⟨v1, v2⟩ := hV.1 _ _ (sim_adv_is h wd_k_print ht)
     exact sim_put v1 fun hg => by rw [v2 hg]
    ·split
     ·rename_i ht
      obtain ⟨v1, v2⟩ := sim_name (sim_adv_is h wd_k_read ht)
      exact sim_put v1 fun hg => by rw [v2 hg]
     ·split
      ·rename_i ht
       obtain ⟨v1, v2⟩ := sim_name (sim_adv_is h wd_k_delay ht)
       exact sim_put v1 fun hg => by rw [v2 hg]
      ·split
       ·rename_i ht
        obtain ⟨v1, v2⟩ := sim_name (sim_adv_is h wd_k_continue ht)
        exact sim_put v1 fun hg => by rw [v2 hg]
       ·split
        ·rename_i ht
         exact sim_put (sim_adv_is h wd_k_skip ht) fun _ => rfl
        ·obtain ⟨a1, a2⟩ := sim_name h
         obtain ⟨v1, v2⟩ := hV.1 _ _ (sim_want a1 wd_k_asg)
         exact sim_put v1 fun hg => by rw [a2 (good_of (fun hb => hV.2 _ (must_bad hb)) hg), v2 hg]
theorem blockF_bad (S' : Rs → Rs × Int) : ∀ (n : Nat) (s : Rs) (ks : List Int), s.bad = true → blockFS S' n s ks = (s, ks)
 | 0, s, ks, h => rfl
 | n + 1, s, ks, h => by unfold blockFS; rw [isS_bad h, if_neg (by simp)]
theorem sim_blockF {S : Rd → Rd × Int} {S' : Rs → Rs × Int} (hS : Both Z M Q S S') : ∀ (n : Nat) (r : Rd) (s : Rs) (ks ks' : List Int), Sim Z M Q r s → (s.bad = false → ks = ks') → SimA Z M Q (blockF S n r ks) (blockFS S' n s ks') := by
 intro n
 induction n with
 | zero => intro r s ks ks' h hk; exact ⟨h, hk⟩
 | succ n ih =>
  intro r s ks ks' h hk
  unfold blockF blockFS
  rw [sim_is h wd_bSemi]
  split
  ·rename_i hi
   have gd := isS_good (w := bSemi) (by rw [sim_is h wd_bSemi]; exact hi)
   obtain ⟨s1, s2⟩ := hS.1 _ _ (sim_adv_is h wd_bSemi hi)
   exact ih _ _ _ _ s1 fun hg => by rw [hk gd, s2 hg]
  ·exact ⟨h, hk⟩
theorem sim_block {S : Rd → Rd × Int} {S' : Rs → Rs × Int} (hS : Both Z M Q S S') : Both Z M Q (blockOf S) (blockOfS S') := by
 refine ⟨fun r s h => ?_, fun s hb => ?_⟩
 ·obtain ⟨s1, s2⟩ := hS.1 _ _ (sim_want h wd_bBegin)
  obtain ⟨f1, f2⟩ := sim_blockF hS (r.list.length + 1) _ _ [(S (wantL r [bBegin])).2] [(S' (mustS s bBegin)).2] s1 (fun hg => by rw [s2 hg])
  unfold blockOf blockOfS blockEnd blockEndS
  rw [h.list]
  exact sim_put (sim_want f1 wd_bEnd) fun hg => by rw [f2 (good_of must_bad hg)]
 ·unfold blockOfS blockEndS
  rw [put_badS, blockF_bad S' _ _ _ (hS.2 _ (must_bad hb))]
  exact must_bad (hS.2 _ (must_bad hb))
theorem sim_sb : ∀ n, Both Z M Q (stmtBlock n).1 (stmtBlockS n).1 ∧ Both Z M Q (stmtBlock n).2 (stmtBlockS n).2
 | 0 => by
  have h0 : Both Z M Q (fun r => (r, 0)) (fun s => (s, 0)) := ⟨fun r s h => ⟨h, fun _ => rfl⟩, fun s hb => hb⟩
  have h1 : Both Z M Q (stmtBlock 0).1 (stmtBlockS 0).1 := sim_stmt sim_valueV h0
  exact ⟨h1, sim_block h1⟩
 | n + 1 => ⟨sim_stmt sim_valueV (sim_sb n).2, sim_block (sim_sb n).1⟩
theorem sim_blockV : Both Z M Q blockV blockVS := (sim_sb 501).2
end
end Go.Proofs.YtejnpiielcbkkaaGreat.E
end
section
set_option maxRecDepth 100000
set_option maxHeartbeats 4000000
namespace Go.Proofs.YtejnpiielcbkkaaGreat.E
/-! ### Monitors, processes, a program: plainly, and both go together -/
theorem wd_k_queue : Wd k_queue := ⟨by decide, by unfold Fig; decide⟩
theorem wd_k_entry : Wd k_entry := ⟨by decide, by unfold Fig; decide⟩
theorem wd_k_monitor : Wd k_monitor := ⟨by decide, by unfold Fig; decide⟩
theorem wd_k_process : Wd k_process := ⟨by decide, by unfold Fig; decide⟩
def usesS (s : Rs) : Rs × List ByteArray := if isS s k_uses = true then namesS (advS s) else (s, [])
def listS (w : ByteArray) (s : Rs) : Rs × List ByteArray := if isS s w = true then (mustS (namesS (advS s)).1 bSemi, (namesS (advS s)).2) else (s, [])
def procS (s : Rs) : Rs × Process := (mustS (blockVS (listS k_var (mustS (usesS (nameS s).1).1 bSemi)).1).1 bSemi, ⟨(nameS s).2, (usesS (nameS s).1).2, (listS k_var (mustS (usesS (nameS s).1).1 bSemi)).2, (blockVS (listS k_var (mustS (usesS (nameS s).1).1 bSemi)).1).2⟩)
def entS (s : Rs) : Rs × Entry := (mustS (blockVS (mustS (nameS (mustS (nameS s).1 bOpen)).1 bShut)).1 bSemi, ⟨(nameS s).2, (nameS (mustS (nameS s).1 bOpen)).2, (blockVS (mustS (nameS (mustS (nameS s).1 bOpen)).1 bShut)).2⟩)
def entFS : Nat → Rs → List Entry → Rs × List Entry
 | 0, s, es => (s, es)
 | n + 1, s, es => if isS s k_entry = true then entFS n (entS (advS s)).1 (es ++ [(entS (advS s)).2]) else (s, es)
def monEndS (a : ByteArray) (vs qs : List ByteArray) (x : Rs × List Entry) : Rs × Monitor := (mustS (mustS x.1 bEnd) bSemi, ⟨a, vs, qs, x.2⟩)
def monS (s : Rs) : Rs × Monitor :=
 monEndS (nameS s).2 (listS k_var (mustS (nameS s).1 bSemi)).2 (listS k_queue (listS k_var (mustS (nameS s).1 bSemi)).1).2
  (entFS (s.list.length + 1) (listS k_queue (listS k_var (mustS (nameS s).1 bSemi)).1).1 [])
def monsFS : Nat → Rs → List Monitor → Rs × List Monitor
 | 0, s, ms => (s, ms)
 | n + 1, s, ms => if isS s k_monitor = true then monsFS n (monS (advS s)).1 (ms ++ [(monS (advS s)).2]) else (s, ms)
def procsFS : Nat → Rs → List Process → Rs × List Process
 | 0, s, ps => (s, ps)
 | n + 1, s, ps => if isS s k_process = true then procsFS n (procS (advS s)).1 (ps ++ [(procS (advS s)).2]) else (s, ps)
def monR (r : Rd) : Rd := addMon (monOf r).1 (monOf r).2
def procR (r : Rd) : Rd := addProc (procOf r).1 (procOf r).2
def monsF : Nat → Rd → Rd
 | 0, r => r
 | n + 1, r => if isR r k_monitor = true then monsF n (monR (advR r)) else r
def procsF : Nat → Rd → Rd
 | 0, r => r
 | n + 1, r => if isR r k_process = true then procsF n (procR (advR r)) else r
section
variable {Z : Int} {M : List Monitor} {Q : List Process}
theorem usesS_bad {s : Rs} (h : s.bad = true) : (usesS s).1.bad = true := by unfold usesS; rw [isS_bad h, if_neg (by simp)]; exact h
theorem listS_bad {w : ByteArray} {s : Rs} (h : s.bad = true) : (listS w s).1.bad = true := by unfold listS; rw [isS_bad h, if_neg (by simp)]; exact h
theorem blockVS_bad {s : Rs} (h : s.bad = true) : (blockVS s).1.bad = true := (sim_blockV (Z := 0) (M := []) (Q := [])).2 s h
theorem entFS_bad : ∀ (n : Nat) (s : Rs) (es : List Entry), s.bad = true → entFS n s es = (s, es)
 | 0, s, es, h => rfl
 | n + 1, s, es, h => by unfold entFS; rw [isS_bad h, if_neg (by simp)]
theorem sim_uses {r : Rd} {s : Rs} (h : Sim Z M Q r s) : SimA Z M Q (usesR r) (usesS s) := by
 unfold usesR usesS
 rw [sim_is h wd_k_uses]
 split
 ·rename_i hi; exact sim_names (sim_adv_is h wd_k_uses hi)
 ·exact ⟨h, fun _ => rfl⟩
theorem sim_list {w : ByteArray} (hw : Wd w) {r : Rd} {s : Rs} (h : Sim Z M Q r s) : SimA Z M Q (optR w r) (listS w s) := by
 unfold optR listS
 rw [sim_is h hw]
 split
 ·rename_i hi
  obtain ⟨n1, n2⟩ := sim_names (sim_adv_is h hw hi)
  exact ⟨sim_want n1 wd_bSemi, fun hg => n2 (good_of must_bad hg)⟩
 ·exact ⟨h, fun _ => rfl⟩
theorem sim_proc {r : Rd} {s : Rs} (h : Sim Z M Q r s) : SimA Z M Q (procOf r) (procS s) := by
 obtain ⟨a1, a2⟩ := sim_name h
 obtain ⟨b1, b2⟩ := sim_uses a1
 obtain ⟨c1, c2⟩ := sim_list wd_k_var (sim_want b1 wd_bSemi)
 obtain ⟨d1, d2⟩ := sim_blockV.1 _ _ c1
 refine ⟨sim_want d1 wd_bSemi, fun hg => ?_⟩
 have g1 := good_of must_bad hg
 have g2 := good_of blockVS_bad g1
 have g3 := good_of must_bad (good_of listS_bad g2)
 have g4 := good_of usesS_bad g3
 show Process.mk _ _ _ _ = Process.mk _ _ _ _
 rw [a2 g4, b2 g3, c2 g2, d2 g1]
theorem sim_ent {r : Rd} {s : Rs} (h : Sim Z M Q r s) : SimA Z M Q (entOne r) (entS s) := by
 obtain ⟨a1, a2⟩ := sim_name h
 obtain ⟨b1, b2⟩ := sim_name (sim_want a1 wd_bOpen)
 obtain ⟨d1, d2⟩ := sim_blockV.1 _ _ (sim_want b1 wd_bShut)
 refine ⟨sim_want d1 wd_bSemi, fun hg => ?_⟩
 have g1 := good_of must_bad hg
 have g2 := good_of must_bad (good_of blockVS_bad g1)
 have g3 := good_of must_bad (good_of name_bad g2)
 show Entry.mk _ _ _ = Entry.mk _ _ _
 rw [a2 g3, b2 g2, d2 g1]
theorem sim_entF : ∀ (n : Nat) (r : Rd) (s : Rs) (es es' : List Entry), Sim Z M Q r s → (s.bad = false → es = es') → SimA Z M Q (entF n r es) (entFS n s es')
 | 0, r, s, es, es', h, he => ⟨h, he⟩
 | n + 1, r, s, es, es', h, he => by
  unfold entF entFS
  rw [sim_is h wd_k_entry]
  split
  ·rename_i hi
   have gd := isS_good (w := k_entry) (by rw [sim_is h wd_k_entry]; exact hi)
   obtain ⟨e1, e2⟩ := sim_ent (sim_adv_is h wd_k_entry hi)
   exact sim_entF n _ _ _ _ e1 fun hg => by rw [he gd, e2 hg]
  ·exact ⟨h, he⟩
theorem sim_want2 {r : Rd} {s : Rs} {a b : ByteArray} (ha : Wd a) (hb : Wd b) (h : Sim Z M Q r s) : Sim Z M Q (wantL r [a, b]) (mustS (mustS s a) b) := sim_want (sim_want h ha) hb
theorem sim_mon {r : Rd} {s : Rs} (h : Sim Z M Q r s) : SimA Z M Q (monOf r) (monS s) := by
 obtain ⟨a1, a2⟩ := sim_name h
 obtain ⟨b1, b2⟩ := sim_list wd_k_var (sim_want a1 wd_bSemi)
 obtain ⟨c1, c2⟩ := sim_list wd_k_queue b1
 obtain ⟨d1, d2⟩ := sim_entF (r.list.length + 1) _ _ [] [] c1 (fun _ => rfl)
 unfold monOf monS monEnd monEndS
 rw [h.list]
 refine ⟨sim_want2 wd_bEnd wd_bSemi d1, fun hg => ?_⟩
 have g1 := good_of must_bad (good_of must_bad hg)
 have g2 : (listS k_queue (listS k_var (mustS (nameS s).1 bSemi)).1).1.bad = false := good_of (fun hb => by rw [entFS_bad _ _ _ hb]; exact hb) g1
 have g3 := good_of listS_bad g2
 have g4 := good_of must_bad (good_of listS_bad g3)
 show Monitor.mk _ _ _ _ = Monitor.mk _ _ _ _
 rw [a2 g4, b2 g3, c2 g2, d2 g1]
theorem sim_addMon {r : Rd} {s : Rs} (m : Monitor) (h : Sim Z M Q r s) : Sim Z (M ++ [m]) Q (addMon r m) s :=
 ⟨⟨h.ok.len, h.ok.cur, h.ok.size0, h.ok.size1, h.ok.pos, h.ok.txt⟩, h.fig, h.list, h.cur, h.bad, h.nodes, h.pos, by show r.prog.monitors ++ [m] = _; rw [h.mon], h.pro, h.size⟩
theorem sim_addProc {r : Rd} {s : Rs} (x : Process) (h : Sim Z M Q r s) : Sim Z M (Q ++ [x]) (addProc r x) s :=
 ⟨⟨h.ok.len, h.ok.cur, h.ok.size0, h.ok.size1, h.ok.pos, h.ok.txt⟩, h.fig, h.list, h.cur, h.bad, h.nodes, h.pos, h.mon, by show r.prog.processes ++ [x] = _; rw [h.pro], h.size⟩
end
theorem sim_monsF : ∀ (n : Nat) {Z : Int} {M : List Monitor} {Q : List Process} (r : Rd) (s : Rs) (M' : List Monitor), Sim Z M Q r s → (s.bad = false → M = M') → ∃ M2, Sim Z M2 Q (monsF n r) (monsFS n s M').1 ∧ ((monsFS n s M').1.bad = false → M2 = (monsFS n s M').2)
 | 0, Z, M, Q, r, s, M', h, hm => ⟨M, h, hm⟩
 | n + 1, Z, M, Q, r, s, M', h, hm => by
  unfold monsF monsFS
  rw [sim_is h wd_k_monitor]
  split
  ·rename_i hi
   have gd := isS_good (w := k_monitor) (by rw [sim_is h wd_k_monitor]; exact hi)
   obtain ⟨e1, e2⟩ := sim_mon (sim_adv_is h wd_k_monitor hi)
   exact sim_monsF n _ _ _ (sim_addMon (monOf (advR r)).2 e1) fun hg => by rw [hm gd, e2 hg]
  ·exact ⟨M, h, hm⟩
theorem sim_procsF : ∀ (n : Nat) {Z : Int} {M : List Monitor} {Q : List Process} (r : Rd) (s : Rs) (Q' : List Process), Sim Z M Q r s → (s.bad = false → Q = Q') → ∃ Q2, Sim Z M Q2 (procsF n r) (procsFS n s Q').1 ∧ ((procsFS n s Q').1.bad = false → Q2 = (procsFS n s Q').2)
 | 0, Z, M, Q, r, s, Q', h, hm => ⟨Q, h, hm⟩
 | n + 1, Z, M, Q, r, s, Q', h, hm => by
  unfold procsF procsFS
  rw [sim_is h wd_k_process]
  split
  ·rename_i hi
   have gd := isS_good (w := k_process) (by rw [sim_is h wd_k_process]; exact hi)
   obtain ⟨e1, e2⟩ := sim_proc (sim_adv_is h wd_k_process hi)
   exact sim_procsF n _ _ _ (sim_addProc (procOf (advR r)).2 e1) fun hg => by rw [hm gd, e2 hg]
  ·exact ⟨Q, h, hm⟩
theorem procsFS_bad : ∀ (n : Nat) (s : Rs) (ps : List Process), s.bad = true → procsFS n s ps = (s, ps)
 | 0, s, ps, h => rfl
 | n + 1, s, ps, h => by unfold procsFS; rw [isS_bad h, if_neg (by simp)]
end Go.Proofs.YtejnpiielcbkkaaGreat.E
end
