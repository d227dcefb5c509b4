/- A part of what stands under the laws of this seat: an abstract evaluator that is proved sound, and contracts of functions by it. No condition beside those that stand in each statement. -/
import Derived.Test.YtejnpiielcbkkaaGreatZR11
set_option linter.unusedVariables false
set_option linter.unusedSimpArgs false
set_option maxRecDepth 100000
set_option maxHeartbeats 4000000
namespace Go.Proofs.YtejnpiielcbkkaaGreat.E
/-! ### Parts with operations between -/
def signsB : List ByteArray := [⟨#[43]⟩, ⟨#[45]⟩, ⟨#[42]⟩, ⟨#[47]⟩, ⟨#[37]⟩, ⟨#[60]⟩, ⟨#[61]⟩, ⟨#[97, 110, 100]⟩, ⟨#[111, 114]⟩]
theorem signsB_rows : ([[T.v (.string ⟨#[43]⟩)], [T.v (.string ⟨#[45]⟩)], [T.v (.string ⟨#[42]⟩)], [T.v (.string ⟨#[47]⟩)], [T.v (.string ⟨#[37]⟩)], [T.v (.string ⟨#[60]⟩)], [T.v (.string ⟨#[61]⟩)], [T.v (.string ⟨#[97, 110, 100]⟩)], [T.v (.string ⟨#[111, 114]⟩)]] : List (List T)) = strsT signsB := rfl
theorem signsB_len : signsB.length = 9 := rfl
theorem signsB_le : signsB.length ≤ 1048576 := by rw [signsB_len]; omega
theorem signsB_take : signsB.take 9 = signsB := rfl
theorem signs_ok : CallOk Tryz.prog 273 [] (.s (.one (.own 1 (strsT signsB)))) [] := by
 refine cOh 40 (hBd Tryz.func273 rfl (by kernel_rfl) ?_)
 simp (disch := omega) only [go_sem, Tryz.ntmps273, Tryz.results273]
 have x1 := @signsB_rows
 have x2 := @signsB_len
 have x3 := @signsB_take
 exact wk
def pot (r : Rd) : Nat := r.prog.nodes.length + 4 * (r.list.length - r.cur)
def opAt (r : Rd) : Int := idxS signsB (nextS r).text 0 + 1
/-- One operation and what stands behind it. -/
def chainOne (P : Rd → Rd × Int) (r : Rd) (k : Int) : Rd × Int :=
 (putR (P (advR r)).1 ⟨3, opAt r, noB, noB, noB, [k, (P (advR r)).2]⟩, ((P (advR r)).1.prog.nodes.length : Int))
def chainF (P : Rd → Rd × Int) (once : Bool) (L : List ByteArray) : Nat → Rd → Int → Rd × Int
 | 0, r, k => (r, k)
 | n + 1, r, k =>
  if (r.place == 0) = false then (r, k)
  else if hasS L (nextS r).text = false then (r, k)
  else if once = true then chainOne P r k
  else chainF P once L n (chainOne P r k).1 (chainOne P r k).2
def chain (P : Rd → Rd × Int) (once : Bool) (L : List ByteArray) (r : Rd) : Rd × Int := chainF P once L (r.list.length + 1) (P r).1 (P r).2
/-- What a part does to a reader. -/
structure Part (n : Nat) (P : Rd → Rd × Int) : Prop where
  ok : ∀ r, RdOk r → r.list.length - r.cur < n → RdOk (P r).1
  same : ∀ r, RdOk r → r.list.length - r.cur < n → (P r).1.list = r.list
  cur : ∀ r, RdOk r → r.list.length - r.cur < n → r.cur ≤ (P r).1.cur
  pot : ∀ r, RdOk r → r.list.length - r.cur < n → pot (P r).1 ≤ pot r
theorem hasS_in {L : List ByteArray} {r : Rd} (hL : ∀ s ∈ L, s.size ≠ 0) (h : hasS L (nextS r).text = true) : r.cur < r.list.length := by
 refine nextS_in (.inr fun h0 => ?_)
 have : ∀ n k, L.length - k = n → idxS L (nextS r).text k = -1 := by
  intro n
  induction n with
  | zero => intro k hn; exact idxS_end (by omega)
  | succ n ih =>
   intro k hn
   have hk : k < L.length := by omega
   cases hp : seq (nextS r).text (L.getD k ByteArray.empty)
   ·rw [idxS_no hk hp]; exact ih (k + 1) (by omega)
   ·have e := (seq_iff _ _).1 hp
    have := hL (L.getD k ByteArray.empty) (by rw [List.getD_eq_getElem?_getD, List.getElem?_eq_getElem hk]; exact List.getElem_mem hk)
    rw [← e] at this
    exact absurd h0 this
 have h1 := this _ 0 rfl
 unfold hasS at h
 rw [h1] at h
 cases h
theorem pot_adv {r : Rd} (h : r.cur < r.list.length) : pot (advR r) + 4 = pot r := by
 show r.prog.nodes.length + 4 * (r.list.length - (r.cur + 1)) + 4 = r.prog.nodes.length + 4 * (r.list.length - r.cur)
 omega
theorem chainOne_ok {n : Nat} {P : Rd → Rd × Int} (hP : Part n P) {r : Rd} {k : Int} (h : RdOk r) (hn : r.list.length - r.cur < n + 1) (hc : r.cur < r.list.length) : RdOk (chainOne P r k).1 ∧ (chainOne P r k).1.list = r.list ∧ r.cur < (chainOne P r k).1.cur ∧ pot (chainOne P r k).1 + 3 ≤ pot r := by
 have ha := advR_ok h hc
 have hl : (advR r).list.length - (advR r).cur < n := by show r.list.length - (r.cur + 1) < n; omega
 have h1 := hP.ok _ ha hl
 have h2 := hP.same _ ha hl
 have h3 := hP.cur _ ha hl
 have h4 := hP.pot _ ha hl
 have h5 := pot_adv hc
 refine ⟨putR_ok h1, h2, h3, ?_⟩
 have e : pot (chainOne P r k).1 = pot (P (advR r)).1 + 1 := by
  show ((P (advR r)).1.prog.nodes ++ [_]).length + 4 * ((P (advR r)).1.list.length - (P (advR r)).1.cur) = _
  rw [List.length_append, List.length_singleton]; unfold pot; omega
 omega
theorem chainF_ok {n : Nat} {P : Rd → Rd × Int} {once : Bool} {L : List ByteArray} (hP : Part n P) (hL : ∀ s ∈ L, s.size ≠ 0) : ∀ (m : Nat) (r : Rd) (k : Int), RdOk r → r.list.length - r.cur < n + 1 → RdOk (chainF P once L m r k).1 ∧ (chainF P once L m r k).1.list = r.list ∧ r.cur ≤ (chainF P once L m r k).1.cur ∧ pot (chainF P once L m r k).1 ≤ pot r := by
 intro m
 induction m with
 | zero => intro r k h _; exact ⟨h, rfl, Nat.le_refl _, Nat.le_refl _⟩
 | succ m ih =>
  intro r k h hn
  unfold chainF
  split
  ·exact ⟨h, rfl, Nat.le_refl _, Nat.le_refl _⟩
  ·split
   ·exact ⟨h, rfl, Nat.le_refl _, Nat.le_refl _⟩
   ·rename_i hh
    have hc := hasS_in hL (by simpa using hh)
    obtain ⟨g1, g2, g3, g4⟩ := chainOne_ok (k := k) hP h hn hc
    split
    ·exact ⟨g1, g2, by omega, by omega⟩
    ·obtain ⟨f1, f2, f3, f4⟩ := ih _ (chainOne P r k).2 g1 (by rw [g2]; omega)
     exact ⟨f1, f2.trans g2, by omega, by omega⟩
theorem chain_part {n : Nat} {P : Rd → Rd × Int} {once : Bool} {L : List ByteArray} (hP : Part n P) (hL : ∀ s ∈ L, s.size ≠ 0) : Part n (chain P once L) := by
 have key : ∀ r, RdOk r → r.list.length - r.cur < n → _ := fun r h hn => chainF_ok (once := once) (L := L) hP hL (r.list.length + 1) (P r).1 (P r).2 (hP.ok r h hn) (by rw [hP.same r h hn]; have := hP.cur r h hn; omega)
 exact ⟨fun r h hn => (key r h hn).1, fun r h hn => (key r h hn).2.1.trans (hP.same r h hn), fun r h hn => Nat.le_trans (hP.cur r h hn) (key r h hn).2.2.1, fun r h hn => Nat.le_trans (key r h hn).2.2.2 (hP.pot r h hn)⟩
end Go.Proofs.YtejnpiielcbkkaaGreat.E
