/- A part of what stands under the laws of this seat: an abstract evaluator that is proved sound, and contracts of functions by it. No condition beside those that stand in each statement. -/
import Derived.Test.YtejnpiielcbkkaaGreatZA1
import Derived.Test.YtejnpiielcbkkaaGreatShelf
import Derived.Below
import Derived.Lib.IndexAny
set_option linter.unusedVariables false
set_option linter.unusedSimpArgs false
section
set_option maxRecDepth 100000
set_option maxHeartbeats 4000000
namespace Go.Proofs.YtejnpiielcbkkaaGreat.E
theorem ti5 : ti Tryz.prog 5 = some ⟨.int .u8, 1, 1, false, [.int .u8 0]⟩ := by kernel_rfl
theorem ni5 : notInt Tryz.prog 5 = false := by kernel_rfl
attribute [go_sem] ti5 ni5
/-! ### Bytes of a text -/
def bt (z : ByteArray) (k : Nat) : Int := ((z.data.toList.getD k 0).toNat : Int)
theorem bt_fold (z : ByteArray) (k : Nat) : ((z.data.toList.getD k 0).toNat : Int) = bt z k := rfl
attribute [go_sem] bt_fold
theorem bt_bd (z : ByteArray) (k : Nat) : 0 ≤ bt z k ∧ bt z k ≤ 255 := by
 unfold bt
 have := (z.data.toList.getD k 0).toNat_lt
 omega
abbrev uV (c : Int) : T := .v (.int .u8 c)
def runF (p : Int → Bool) (z : ByteArray) (k : Nat) : Nat := if h : k < z.size then (if p (bt z k) = true then runF p z (k + 1) else k) else k
termination_by z.size - k
theorem runF_end {p : Int → Bool} {z : ByteArray} {k : Nat} (h : ¬ k < z.size) : runF p z k = k := by rw [runF, dif_neg h]
theorem runF_no {p : Int → Bool} {z : ByteArray} {k : Nat} (h : k < z.size) (hp : p (bt z k) = false) : runF p z k = k := by rw [runF, dif_pos h, if_neg (by rw [hp]; simp)]
theorem runF_yes {p : Int → Bool} {z : ByteArray} {k : Nat} (h : k < z.size) (hp : p (bt z k) = true) : runF p z k = runF p z (k + 1) := by
 conv => lhs; rw [runF, dif_pos h, if_pos hp]
theorem runF_le {p : Int → Bool} {z : ByteArray} : ∀ (n k : Nat), z.size - k = n → k ≤ z.size → k ≤ runF p z k ∧ runF p z k ≤ z.size := by
 intro n
 induction n with
 | zero => intro k hn hk; rw [runF_end (by omega)]; omega
 | succ n ih =>
  intro k hn hk
  have hkl : k < z.size := by omega
  cases hp : p (bt z k)
  ·rw [runF_no hkl hp]; omega
  ·rw [runF_yes hkl hp]
   have := ih (k + 1) (by omega) (by omega)
   omega
theorem runF_at {p : Int → Bool} {z : ByteArray} : ∀ (n k : Nat), z.size - k = n → k ≤ z.size → ∀ j, k ≤ j → j < runF p z k → p (bt z j) = true := by
 intro n
 induction n with
 | zero => intro k hn hk j h1 h2; rw [runF_end (by omega)] at h2; omega
 | succ n ih =>
  intro k hn hk j h1 h2
  have hkl : k < z.size := by omega
  cases hp : p (bt z k)
  ·rw [runF_no hkl hp] at h2; omega
  ·rw [runF_yes hkl hp] at h2
   by_cases hj : j = k
   ·rw [hj]; exact hp
   ·exact ih (k + 1) (by omega) (by omega) j (by omega) h2
abbrev letterB (c : Int) : Bool := inB c 97 122
abbrev figureB (c : Int) : Bool := inB c 48 57
abbrev lineB (c : Int) : Bool := (c != 10)
theorem letter_ok (c : Int) : CallOk Tryz.prog 166 [.one (uV c)] (.s (.one (bV (letterB c)))) [none] := by
 refine cOh 40 (hBd Tryz.func166 rfl (by kernel_rfl) ?_)
 simp (disch := omega) only [go_sem, Tryz.ntmps166, Tryz.results166]
 have x1 := @letterB.eq_1
 have x2 := @inB.eq_1
 exact wk
theorem figure_ok (c : Int) : CallOk Tryz.prog 167 [.one (uV c)] (.s (.one (bV (figureB c)))) [none] := by
 refine cOh 40 (hBd Tryz.func167 rfl (by kernel_rfl) ?_)
 simp (disch := omega) only [go_sem, Tryz.ntmps167, Tryz.results167]
 have x1 := @figureB.eq_1
 have x2 := @inB.eq_1
 exact wk
theorem line_ok (c : Int) : CallOk Tryz.prog 92 [.one (uV c)] (.s (.one (bV (lineB c)))) [none] := by
 refine cOh 40 (hBd Tryz.func92 rfl (by kernel_rfl) ?_)
 simp (disch := omega) only [go_sem, Tryz.ntmps92, Tryz.results92]
 exact wk
theorem run_ok (f : FuncId) (p : Int → Bool) (hp : ∀ c, CallOk Tryz.prog f [.one (uV c)] (.s (.one (bV (p c)))) [none]) (z : ByteArray) (k : Nat) (hz : z.size ≤ 1048576) (hk : k ≤ z.size) :
  CallOk Tryz.prog 91 [.one (sV z), .one (iV k), .one (.fn false f [])] (.s (.one (iV (runF p z k)))) [none, none, none] := by
 refine cOh 40 (hBd Tryz.func91 rfl (by kernel_rfl) ?_)
 simp (disch := omega) only [go_sem, Tryz.ntmps91, Tryz.results91]
 repeat' (first | (with_reducible first | refine i_seq ?_) | ((first | (with_reducible first | refine iBk ?_ | refine iRQ (fun Q' hQ => ?_) | (refine Imp.go hQ ?_; clear hQ)) | ((with_reducible refine i_condT ?_ ?_); (focus (simp only [go_sem, *]; done))) | ((with_reducible refine i_condF ?_ ?_); (focus (simp only [go_sem, *]; done))) | ((with_reducible first | refine rOg (fun h => ?_) (fun h => ?_) | refine i_cond (by simp only [go_sem, *] <;> rfl) (fun h => ?_) (fun h => ?_)) <;> (try simp only [nqA, nqB, nqC, reduceCtorEq] at h) <;> (try have h' := odT h) <;> (try (have hz : (_ : Int) = (_ : Int) := h'; clear hz h')) <;> (try have h' := odF h) <;> (try have h' := inB_t h) <;> (try (exfalso; omega)))) <;> (try simp (disch := omega) only [go_sem, *])))
 all_goals (try simp (disch := omega) only [EndK, go_sem, nLo, *])
 obtain ⟨e, he0⟩ : ∃ e, runF p z k = e := ⟨_, rfl⟩
 rw [he0]
 refine i_loop (α := {j : Nat // j ≤ z.size ∧ runF p z j = e}) (fun j => ⟨mkEnv 21 [(0, .one (sV z)), (1, .one (iV j.1)), (2, .one (.fn false f []))], []⟩) (fun j => z.size - j.1) ⟨k, hk, he0⟩ ?_ ?_
 ·first | exact wc [0, 1, 2] []
 rintro ⟨j, hj, he⟩
 by_cases hjl : j < z.size
 ·have hpj := hp (bt z j)
  have d1 : decide ((j : Int) < (z.size : Int)) = true := decide_eq_true (by omega)
  cases hb : p (bt z j)
  ·rw [runF_no hjl hb] at he
   rw [hb] at hpj
   subst he
   simp (disch := omega) only [go_sem]
   repeat' (first | (with_reducible first | refine i_seq ?_) | ((first | (with_reducible first | refine iBk ?_ | refine iRQ (fun Q' hQ => ?_) | (refine Imp.go hQ ?_; clear hQ)) | ((with_reducible refine i_condT ?_ ?_); (focus (simp only [go_sem, *]; done))) | ((with_reducible refine i_condF ?_ ?_); (focus (simp only [go_sem, *]; done))) | ((with_reducible first | refine rOg (fun h => ?_) (fun h => ?_) | refine i_cond (by simp only [go_sem, *] <;> rfl) (fun h => ?_) (fun h => ?_)) <;> (try simp only [nqA, nqB, nqC, reduceCtorEq] at h) <;> (try have h' := odT h) <;> (try (have hz : (_ : Int) = (_ : Int) := h'; clear hz h')) <;> (try have h' := odF h) <;> (try have h' := inB_t h) <;> (try (exfalso; omega))) | (((with_reducible refine hcO 40 true (hpj) ?_ ?_ ?_ ?_ ?_); iterate 4 (focus (simp (disch := omega) only [go_sem, d1, nLo]; done))); simp only [go_sem, d1]; refine aLr ?_)) <;> (try simp (disch := omega) only [go_sem, d1, *])))
   all_goals (try simp (disch := omega) only [EndK, go_sem, d1, nLo, *])
  ·rw [runF_yes hjl hb] at he
   rw [hb] at hpj
   simp (disch := omega) only [go_sem]
   repeat' (first | (with_reducible first | refine i_seq ?_) | ((first | (with_reducible first | refine iBk ?_ | refine iRQ (fun Q' hQ => ?_) | (refine Imp.go hQ ?_; clear hQ)) | ((with_reducible refine i_condT ?_ ?_); (focus (simp only [go_sem, *]; done))) | ((with_reducible refine i_condF ?_ ?_); (focus (simp only [go_sem, *]; done))) | ((with_reducible first | refine rOg (fun h => ?_) (fun h => ?_) | refine i_cond (by simp only [go_sem, *] <;> rfl) (fun h => ?_) (fun h => ?_)) <;> (try simp only [nqA, nqB, nqC, reduceCtorEq] at h) <;> (try have h' := odT h) <;> (try (have hz : (_ : Int) = (_ : Int) := h'; clear hz h')) <;> (try have h' := odF h) <;> (try have h' := inB_t h) <;> (try (exfalso; omega))) | (((with_reducible refine hcO 40 true (hpj) ?_ ?_ ?_ ?_ ?_); iterate 4 (focus (simp (disch := omega) only [go_sem, d1, nLo]; done))); simp only [go_sem, d1]; refine aLr ?_)) <;> (try simp (disch := omega) only [go_sem, d1, *])))
   all_goals (try simp (disch := omega) only [EndK, go_sem, d1, nLo, *])
   all_goals refine ⟨⟨j + 1, by omega, he⟩, ?_, by simp only; omega⟩
   all_goals first | exact wc [0, 1, 2] []
 ·have d1 : decide ((j : Int) < (z.size : Int)) = false := decide_eq_false (by omega)
  rw [runF_end hjl] at he
  subst he
  simp (disch := omega) only [go_sem]
  exact wk
end Go.Proofs.YtejnpiielcbkkaaGreat.E
end
section
set_option maxRecDepth 100000
set_option maxHeartbeats 4000000
namespace Go.Proofs.YtejnpiielcbkkaaGreat.E
open Go.RowKit
/-- A function of the library over a text and a byte, which answers a number and leaves the world as_ it is. -/
theorem callOk_of_lib2 {P : Program} {f : FuncId} {z : ByteArray} {c r : Int} (hc : callable P f = true) (h : ∀ w, Calls P f #[.string z, .int .u8 c] w fun e w' => e = .returned (.int .i64 r) ∧ w' = w) : CallOk P f [.one (sV z), .one (uV c)] (.s (.one (iV r))) [none, none] := by
 refine ⟨hc, fun R w us F ha hg => ?_⟩
 obtain ⟨u1, u2, rfl, h1, h2⟩ : ∃ u1 u2, us = [u1, u2] ∧ u1 = .string z ∧ u2 = .int .u8 c := by
  match us, ha with
  | [u1, u2], ⟨F1, F2, h1, ⟨F3, F4, h2, h3, h4⟩, h5⟩ => exact ⟨u1, u2, rfl, h1.1, h2.1⟩
  | [], h => exact h.elim
  | [_], ⟨F1, F2, h1, h2, h3⟩ => exact h2.elim
  | _ :: _ :: _ :: _, ⟨F1, F2, h1, ⟨F3, F4, h2, h3, h4⟩, h5⟩ => exact h3.elim
 subst h1 h2
 refine (h w).mono ?_
 rintro e w' ⟨rfl, rfl⟩
 have hb := Below.refl w'.heap.size w'
 refine ⟨_, R, fz, fz, rfl, ⟨rfl, rfl, rfl⟩, ⟨fz, fz, rfl, ⟨fz, fz, rfl, rfl, rfl⟩, rfl⟩, ⟨fun b => by simp [fa, fz], fun b hb => by simp [fa, fz] at hb, fun b hb' => Nat.lt_of_lt_of_le (hg.ro b hb') hb.size, hg.inv.mono (fun _ h => h) hb.size fun b hb' => hb.block b (hg.ro b hb')⟩, ⟨hb.os, hb.tape, hb.output, hb.size, fun b hb' _ => hb.block b hb', fun _ h => h, fun b hb => by simp [fa, fz] at hb, fun b hb => .inl hb, fun b c e q hx => ⟨c, (hb.block b (Array.getElem?_eq_some_iff.1 hx).1).trans hx, rfl⟩⟩⟩
theorem indexByte_ok (z : ByteArray) (c : Int) : CallOk Tryz.prog 169 [.one (sV z), .one (uV c)] (.s (.one (iV (Lib.indexByte z.data.toList c.toNat.toUInt8)))) [none, none] :=
 callOk_of_lib2 (by kernel_rfl) fun w => Tryz.strings_IndexByte z c w
def startsB (z w : ByteArray) : Bool := if decide ((w.size : Int) ≤ (z.size : Int)) = true then seq (z.extract 0 w.size) w else false
theorem hasPrefix_ok (z w : ByteArray) (hz : z.size ≤ 1048576) (hw : w.size ≤ 1048576) : CallOk Tryz.prog 168 [.one (sV z), .one (sV w)] (.s (.one (bV (startsB z w)))) [none, none] := by
 have h1 : CallOk Tryz.prog 219 [.one (sV z), .one (sV w)] (.s (.one (bV (startsB z w)))) [none, none] := by
  cases h2 : decide ((w.size : Int) ≤ (z.size : Int))
  all_goals
   first
   | have h3 := of_decide_eq_true h2
   | have h3 := of_decide_eq_false h2
   refine cOh 40 (hBd Tryz.func219 rfl (by kernel_rfl) ?_)
   simp (disch := omega) only [go_sem, Tryz.ntmps219, Tryz.results219]
   have x1 := @startsB.eq_1
   exact wk
 refine cOh 40 (hBd Tryz.func168 rfl (by kernel_rfl) ?_)
 simp (disch := omega) only [go_sem, Tryz.ntmps168, Tryz.results168]
 exact wk
end Go.Proofs.YtejnpiielcbkkaaGreat.E
end
section
set_option maxRecDepth 100000
set_option maxHeartbeats 4000000
namespace Go.Proofs.YtejnpiielcbkkaaGreat.E
theorem ti84 : ti Tryz.prog 84 = some ⟨.st [(0, 1, false), (1, 1, false), (2, 1, false), (3, 1, false)], 4, 40, true, [.int .i64 0, .string { data := { toList := [] } }, .int .i64 0, .int .i64 0]⟩ := by kernel_rfl
theorem ni84 : notInt Tryz.prog 84 = true := by kernel_rfl
theorem ti68 : ti Tryz.prog 68 = some ⟨.sl 84, 1, 24, false, [.slice none 0 0]⟩ := by kernel_rfl
theorem ni68 : notInt Tryz.prog 68 = true := by kernel_rfl
attribute [go_sem] ti84 ni84 ti68 ni68
/-! ### Signs -/
structure Sign where
  kind : Int
  text : ByteArray
  num : Int
  pos : Int
def signT (x : Sign) : List T := [iV x.kind, sV x.text, iV x.num, iV x.pos]
def signD (x : Sign) : List D := [D.v (.int .i64 x.kind), D.v (.string x.text), D.v (.int .i64 x.num), D.v (.int .i64 x.pos)]
attribute [go_sem] signT signD
def signZ : Sign := ⟨0, ByteArray.empty, 0, 0⟩
instance : Inhabited Sign := ⟨signZ⟩
def signsT (xs : List Sign) : List (List T) := xs.map signT
def signsD (xs : List Sign) : List (List D) := xs.map signD
theorem signsT_nil : signsT [] = [] := rfl
theorem signsT_len (xs : List Sign) : (signsT xs).length = xs.length := by simp [signsT]
theorem signsD_len (xs : List Sign) : (signsD xs).length = xs.length := by simp [signsD]
theorem signsD_get {xs : List Sign} {k : Nat} (h : k < xs.length) : (signsD xs)[k]? = some (signD (xs.getD k signZ)) := by simp [signsD, h]
theorem signsT_get {xs : List Sign} {k : Nat} (h : k < xs.length) : (signsT xs)[k]? = some (signT (xs.getD k signZ)) := by simp [signsT, h]
theorem signsT_take (xs : List Sign) (n : Nat) : (signsT xs).take n = signsT (xs.take n) := by simp [signsT, List.map_take]
theorem signsD_take (xs : List Sign) (n : Nat) : (signsD xs).take n = signsD (xs.take n) := by simp [signsD, List.map_take]
theorem signsD_ofD (xs : List Sign) : (signsD xs).map (·.map ofD) = signsT xs := by rw [signsD, List.map_map]; rfl
theorem signsT_closed (xs : List Sign) : closedRows (signsT xs) = true := closed_map (fun x => by simp [signT, closedRow, closedT, isNil]) xs
theorem signsT_noRo (xs : List Sign) : noRoRows (signsT xs) = true := noRo_map (fun x => by simp [signT, noRoRow, noRo, isNil]) xs
theorem signsT_flat (xs : List Sign) : flat (signsT xs) = true := flat_map (fun x => by simp [signT, isOwn]) xs
theorem signsT_look {n : Nat} {H : List AObj} (xs : List Sign) : lookRowsBy (lookD (n + 1) H) (signsT xs) (signsD xs) := lookRowsBy_map fun x _ => ⟨rfl, ⟨rfl, ⟨rfl, ⟨rfl, trivial⟩⟩⟩⟩
theorem signsT_app (xs ys : List Sign) : signsT xs ++ signsT ys = signsT (xs ++ ys) := by simp [signsT]
theorem signsT_app1 (xs : List Sign) (x : Sign) : signsT xs ++ [[.v (.int .i64 x.kind), .v (.string x.text), .v (.int .i64 x.num), .v (.int .i64 x.pos)]] = signsT (xs ++ [x]) := by simp [signsT, signT]
theorem signsT_app1' (xs : List Sign) (a : Int) (b : ByteArray) (c d : Int) : signsT xs ++ [[.v (.int .i64 a), .v (.string b), .v (.int .i64 c), .v (.int .i64 d)]] = signsT (xs ++ [⟨a, b, c, d⟩]) := by simp [signsT, signT]
attribute [go_sem] signsT_nil signsT_len signsD_len signsD_get signsT_get signsT_take signsD_take signsD_ofD signsT_closed signsT_noRo signsT_flat signsT_look signsT_app
/-! What a sign is made of. -/
def numT (z : ByteArray) (a : Nat) : Nat → Int
 | 0 => 0
 | k + 1 => 10 * numT z a k + (bt z (a + k) - 48)
theorem numT_bd {z : ByteArray} {a : Nat} : ∀ k, (∀ j, j < k → 48 ≤ bt z (a + j) ∧ bt z (a + j) ≤ 57) → 0 ≤ numT z a k ∧ numT z a k < 10 ^ k := by
 intro k
 induction k with
 | zero => intro _; exact ⟨Int.le_refl _, by show (0 : Int) < 10 ^ 0; simp⟩
 | succ k ih =>
  intro h
  have h1 := ih fun j hj => h j (by omega)
  have h2 := h k (by omega)
  have e : (10 : Int) ^ (k + 1) = 10 * 10 ^ k := by rw [Int.pow_succ, Int.mul_comm]
  show 0 ≤ 10 * numT z a k + (bt z (a + k) - 48) ∧ 10 * numT z a k + (bt z (a + k) - 48) < 10 ^ (k + 1)
  rw [e]
  omega
abbrev marksB : ByteArray := ⟨#[59, 44, 46, 40, 41, 43, 45, 42, 47, 37, 60, 61]⟩
def markB (c : Int) : Bool := decide (0 ≤ Lib.indexByte marksB.data.toList c.toNat.toUInt8)
abbrev asgB : ByteArray := ⟨#[58, 61]⟩
def asgAt (z : ByteArray) (k : Nat) : Bool := startsB (z.extract k z.size) asgB
abbrev noB : ByteArray := ⟨#[]⟩
/-- The sign at a place, the place behind it, and whether there is one. -/
def signAt (z : ByteArray) (k : Nat) : Sign × Nat × Bool :=
 if letterB (bt z k) = true then (if decide ((8 : Int) < (runF letterB z k : Int) - (k : Int)) = true then (⟨1, noB, 0, k⟩, k, false) else (⟨1, z.extract k (runF letterB z k), 0, k⟩, runF letterB z k, true))
 else if figureB (bt z k) = true then (if decide ((6 : Int) < (runF figureB z k : Int) - (k : Int)) = true then (⟨2, noB, 0, k⟩, k, false) else (⟨2, z.extract k (runF figureB z k), numT z k (runF figureB z k - k), k⟩, runF figureB z k, true))
 else if asgAt z k = true then (⟨3, z.extract k (k + 2), 0, k⟩, k + 2, true)
 else if markB (bt z k) = true then (⟨3, z.extract k (k + 1), 0, k⟩, k + 1, true)
 else (⟨0, noB, 0, k⟩, k, false)
theorem ext_size (z : ByteArray) (a e : Nat) (h : e ≤ z.size) : (z.extract a e).size = e - a := by
 rw [ByteArray.size_extract, Nat.min_eq_left h]
theorem bt_ext {z : ByteArray} {a e j : Nat} (h : a + j < e) (he : e ≤ z.size) : bt (z.extract a e) j = bt z (a + j) := by
 have hs : e ≤ z.data.size := he
 unfold bt
 rw [ByteArray.data_extract, Array.toList_extract]
 simp only [List.extract_eq_take_drop, List.getD_eq_getElem?_getD, List.getElem?_take, List.getElem?_drop]
 rw [if_pos (by omega)]
theorem asg_room {z : ByteArray} {k : Nat} (h : asgAt z k = true) : k + 2 ≤ z.size := by
 unfold asgAt startsB at h
 split at h
 ·rename_i h1
  have h2 := of_decide_eq_true h1
  rw [ext_size _ _ _ (Nat.le_refl _)] at h2
  have : asgB.size = 2 := rfl
  omega
 ·cases h
/-! A text's bytes as_ a list. -/
def bytesT (z : ByteArray) : List (List T) := z.data.toList.map fun b => [T.v (.int .u8 b.toNat)]
theorem bytesT_fold (z : ByteArray) : (z.data.toList.map fun b => [T.v (.int .u8 b.toNat)]) = bytesT z := rfl
theorem bytesT_len (z : ByteArray) : (bytesT z).length = z.size := by simp [bytesT]
theorem bytesT_get {z : ByteArray} {k : Nat} (h : k < z.size) : (bytesT z)[k]? = some [T.v (.int .u8 (bt z k))] := by
 have h' : k < z.data.size := h
 simp [bytesT, bt]
 exact ⟨z.data[k], Array.getElem?_eq_getElem h', by rw [Array.getElem?_eq_getElem h']; rfl⟩
theorem bytesT_closed (z : ByteArray) : closedRows (bytesT z) = true := closed_map (fun _ => rfl) z.data.toList
theorem bytesT_noRo (z : ByteArray) : noRoRows (bytesT z) = true := noRo_map (fun _ => rfl) z.data.toList
theorem bytesT_flat (z : ByteArray) : flat (bytesT z) = true := flat_map (fun _ => rfl) z.data.toList
attribute [go_sem] bytesT_fold bytesT_len bytesT_get bytesT_closed bytesT_noRo bytesT_flat
end Go.Proofs.YtejnpiielcbkkaaGreat.E
end
