/- A part of what stands under the laws of this seat: an abstract evaluator that is proved sound, and contracts of functions by it. No condition beside those that stand in each statement. -/
import Derived.Test.YtejnpiielcbkkaaGreatZR5
set_option linter.unusedVariables false
set_option linter.unusedSimpArgs false
set_option maxRecDepth 100000
set_option maxHeartbeats 4000000
namespace Go.Proofs.YtejnpiielcbkkaaGreat.E
def idxS (xs : List ByteArray) (s : ByteArray) (k : Nat) : Int := if h : k < xs.length then (if seq s (xs.getD k ByteArray.empty) = true then (k : Int) else idxS xs s (k + 1)) else -1
termination_by xs.length - k
theorem idxS_end {xs : List ByteArray} {s : ByteArray} {k : Nat} (h : ¬ k < xs.length) : idxS xs s k = -1 := by rw [idxS, dif_neg h]
theorem idxS_yes {xs : List ByteArray} {s : ByteArray} {k : Nat} (h : k < xs.length) (hp : seq s (xs.getD k ByteArray.empty) = true) : idxS xs s k = (k : Int) := by rw [idxS, dif_pos h, if_pos hp]
theorem idxS_no {xs : List ByteArray} {s : ByteArray} {k : Nat} (h : k < xs.length) (hp : seq s (xs.getD k ByteArray.empty) = false) : idxS xs s k = idxS xs s (k + 1) := by
 conv => lhs; rw [idxS, dif_pos h, if_neg (by rw [hp]; simp)]
theorem idxS_bd (xs : List ByteArray) (s : ByteArray) : ∀ (n k : Nat), xs.length - k = n → -1 ≤ idxS xs s k ∧ idxS xs s k < (xs.length : Int) + 1 := by
 intro n
 induction n with
 | zero => intro k hn; rw [idxS_end (by omega)]; omega
 | succ n ih =>
  intro k hn
  have hk : k < xs.length := by omega
  cases hp : seq s (xs.getD k ByteArray.empty)
  ·rw [idxS_no hk hp]; exact ih (k + 1) (by omega)
  ·rw [idxS_yes hk hp]; omega
theorem seq_comm (x y : ByteArray) : seq x y = seq y x := by unfold seq; rw [BEq.comm]
theorem indexS_ok (xs : List ByteArray) (s : ByteArray) (hs : xs.length ≤ 1048576) : CallOk Tryz.prog 263 [.one (.ro 1 (strsD xs)), .one (sV s)] (.s (.one (iV (idxS xs s 0)))) [none, none] := by
 obtain ⟨r, hr⟩ : ∃ r, idxS xs s 0 = r := ⟨_, rfl⟩
 rw [hr]
 refine cOh 40 (hBd Tryz.func263 rfl (by kernel_rfl) ?_)
 simp (disch := omega) only [go_sem, Tryz.ntmps263, Tryz.results263]
 refine wkc ?_
 refine i_loop (α := {k : Nat // k ≤ xs.length ∧ idxS xs s k = r}) (fun k => ⟨mkEnv 19 [(0, .one (.ro 1 (strsD xs))), (1, .one (sV s)), (7, .one (iV xs.length)), (8, .one (iV k.1))], []⟩) (fun k => xs.length - k.1) ⟨0, by omega, hr⟩ ?_ ?_
 ·first | exact wc [0, 1, 7, 8] []
 rintro ⟨k, hk, he⟩
 by_cases hkl : k < xs.length
 ·have d1 : decide ((k : Int) < (xs.length : Int)) = true := decide_eq_true (by omega)
  cases h1 : seq s (xs.getD k ByteArray.empty)
  ·rw [idxS_no hkl h1] at he
   simp (disch := omega) only [go_sem]
   refine wkzr ?_
   intros
   all_goals refine ⟨⟨k + 1, by omega, he⟩, ?_, by simp only; omega⟩
   all_goals first | exact wc [0, 1, 7, 8] []
  ·rw [idxS_yes hkl h1] at he
   subst he
   simp (disch := omega) only [go_sem]
   exact wk
 ·have d1 : decide ((k : Int) < (xs.length : Int)) = false := decide_eq_false (by omega)
  rw [idxS_end hkl] at he
  subst he
  simp (disch := omega) only [go_sem]
  exact wk
def hasS (xs : List ByteArray) (s : ByteArray) : Bool := decide (0 ≤ idxS xs s 0)
theorem containsS_ok (xs : List ByteArray) (s : ByteArray) (hs : xs.length ≤ 1048576) : CallOk Tryz.prog 223 [.one (.ro 1 (strsD xs)), .one (sV s)] (.s (.one (bV (hasS xs s)))) [none, none] := by
 refine cOh 40 (hBd Tryz.func223 rfl (by kernel_rfl) ?_)
 simp (disch := omega) only [go_sem, Tryz.ntmps223, Tryz.results223]
 have x1 := @hasS.eq_1
 have x2 := indexS_ok xs s hs
 exact wk
def keysB : List ByteArray := [⟨#[109, 111, 110, 105, 116, 111, 114]⟩, ⟨#[118, 97, 114]⟩, ⟨#[113, 117, 101, 117, 101]⟩, ⟨#[101, 110, 116, 114, 121]⟩, ⟨#[112, 114, 111, 99, 101, 115, 115]⟩, ⟨#[117, 115, 101, 115]⟩, ⟨#[98, 101, 103, 105, 110]⟩, ⟨#[101, 110, 100]⟩, ⟨#[105, 102]⟩, ⟨#[116, 104, 101, 110]⟩, ⟨#[101, 108, 115, 101]⟩, ⟨#[119, 104, 105, 108, 101]⟩, ⟨#[100, 111]⟩, ⟨#[99, 97, 108, 108]⟩, ⟨#[116, 111]⟩, ⟨#[112, 114, 105, 110, 116]⟩, ⟨#[114, 101, 97, 100]⟩, ⟨#[100, 101, 108, 97, 121]⟩, ⟨#[99, 111, 110, 116, 105, 110, 117, 101]⟩, ⟨#[115, 107, 105, 112]⟩, ⟨#[97, 110, 100]⟩, ⟨#[111, 114]⟩, ⟨#[110, 111, 116]⟩]
theorem keysB_rows : ([[T.v (.string ⟨#[109, 111, 110, 105, 116, 111, 114]⟩)], [T.v (.string ⟨#[118, 97, 114]⟩)], [T.v (.string ⟨#[113, 117, 101, 117, 101]⟩)], [T.v (.string ⟨#[101, 110, 116, 114, 121]⟩)], [T.v (.string ⟨#[112, 114, 111, 99, 101, 115, 115]⟩)], [T.v (.string ⟨#[117, 115, 101, 115]⟩)], [T.v (.string ⟨#[98, 101, 103, 105, 110]⟩)], [T.v (.string ⟨#[101, 110, 100]⟩)], [T.v (.string ⟨#[105, 102]⟩)], [T.v (.string ⟨#[116, 104, 101, 110]⟩)], [T.v (.string ⟨#[101, 108, 115, 101]⟩)], [T.v (.string ⟨#[119, 104, 105, 108, 101]⟩)], [T.v (.string ⟨#[100, 111]⟩)], [T.v (.string ⟨#[99, 97, 108, 108]⟩)], [T.v (.string ⟨#[116, 111]⟩)], [T.v (.string ⟨#[112, 114, 105, 110, 116]⟩)], [T.v (.string ⟨#[114, 101, 97, 100]⟩)], [T.v (.string ⟨#[100, 101, 108, 97, 121]⟩)], [T.v (.string ⟨#[99, 111, 110, 116, 105, 110, 117, 101]⟩)], [T.v (.string ⟨#[115, 107, 105, 112]⟩)], [T.v (.string ⟨#[97, 110, 100]⟩)], [T.v (.string ⟨#[111, 114]⟩)], [T.v (.string ⟨#[110, 111, 116]⟩)]] : List (List T)) = strsT keysB := rfl
theorem keysB_len : keysB.length = 23 := rfl
theorem keysB_le : keysB.length ≤ 1048576 := by rw [keysB_len]; omega
theorem keysB_take : keysB.take 23 = keysB := rfl
def keyWord (s : ByteArray) : Bool := hasS keysB s
theorem iKeyWord_ok (s : ByteArray) : CallOk Tryz.prog 173 [.one (sV s)] (.s (.one (bV (keyWord s)))) [none] := by
 refine cOh 40 (hBd Tryz.func173 rfl (by kernel_rfl) ?_)
 simp (disch := omega) only [go_sem, Tryz.ntmps173, Tryz.results173]
 have x1 := @keyWord.eq_1
 have x2 := @keysB_rows
 have x3 := @keysB_len
 have x4 := @keysB_take
 have x5 := containsS_ok keysB s keysB_le
 exact wk
theorem sKeys_ok : CallOk Tryz.prog 253 [] (.s (.one (.own 1 (strsT keysB)))) [] := by
 refine cOh 40 (hBd Tryz.func253 rfl (by kernel_rfl) ?_)
 simp (disch := omega) only [go_sem, Tryz.ntmps253, Tryz.results253]
 have x1 := @keysB_rows
 have x2 := @keysB_len
 have x3 := @keysB_take
 exact wk
theorem sKeyWord_ok (s : ByteArray) : CallOk Tryz.prog 213 [.one (sV s)] (.s (.one (bV (keyWord s)))) [none] := by
 obtain ⟨r, hr⟩ : ∃ r, idxS keysB s 0 = r := ⟨_, rfl⟩
 have hkw : keyWord s = decide (0 ≤ r) := by unfold keyWord hasS; rw [hr]
 rw [hkw]
 have hkl := keysB_len
 obtain ⟨ks, hks⟩ : ∃ ks, keysB = ks := ⟨_, rfl⟩
 have hkeys := sKeys_ok
 rw [hks] at hkeys hr hkl
 have hkl1 : ks.length ≤ 23 := by omega
 have hkl2 : 23 ≤ ks.length := by omega
 clear hkl hks hkw
 refine cOh 40 (hBd Tryz.func213 rfl (by kernel_rfl) ?_)
 simp (disch := omega) only [go_sem, Tryz.ntmps213, Tryz.results213]
 refine wkc ?_
 refine i_loop (α := {k : Nat // k ≤ ks.length ∧ idxS ks s k = r}) (fun k => ⟨mkEnv 18 [(0, .one (sV s)), (3, .one (.ref 0 0 ks.length)), (4, .one (iV k.1))], [.live 1 (strsT ks)]⟩) (fun k => ks.length - k.1) ⟨0, by omega, hr⟩ ?_ ?_
 ·first | exact wc [0, 3, 4] [0]
 rintro ⟨k, hk, he⟩
 by_cases hkl : k < ks.length
 ·have d1 : decide ((k : Int) < (ks.length : Int)) = true := decide_eq_true (by omega)
  cases h1 : seq s (ks.getD k ByteArray.empty)
  ·rw [idxS_no hkl h1] at he
   rw [seq_comm] at h1
   simp (disch := omega) only [go_sem]
   refine wkzr ?_
   intros
   all_goals refine ⟨⟨k + 1, by omega, he⟩, ?_, by simp only; omega⟩
   all_goals first | exact wc [0, 3, 4] [0]
  ·rw [idxS_yes hkl h1] at he
   subst he
   rw [seq_comm] at h1
   have d2 : decide (0 ≤ (k : Int)) = true := decide_eq_true (by omega)
   simp (disch := omega) only [go_sem]
   exact wk
 ·have d1 : decide ((k : Int) < (ks.length : Int)) = false := decide_eq_false (by omega)
  rw [idxS_end hkl] at he
  subst he
  have d2 : decide (0 ≤ (-1 : Int)) = false := rfl
  simp (disch := omega) only [go_sem]
  exact wk
/-! Names. -/
def nameOk (s : ByteArray) : Bool := if inB (s.size : Int) 1 8 = false then false else if ((runF letterB s 0 : Int) == (s.size : Int)) = false then false else !keyWord s
theorem iNameOk_ok (s : ByteArray) (hs : s.size ≤ 1048576) : CallOk Tryz.prog 103 [.one (sV s)] (.s (.one (bV (nameOk s)))) [none] := by
 have hrun : CallOk Tryz.prog 91 [.one (sV s), .one (iV 0), .one (.fn false 166 [])] (.s (.one (iV (runF letterB s 0)))) [none, none, none] := run_ok 166 letterB letter_ok s 0 hs (by omega)
 cases h1 : inB (s.size : Int) 1 8 <;> cases h2 : ((runF letterB s 0 : Int) == (s.size : Int)) <;> cases h3 : keyWord s
 all_goals
  refine cOh 40 (hBd Tryz.func103 rfl (by kernel_rfl) ?_)
  simp (disch := omega) only [go_sem, Tryz.ntmps103, Tryz.results103]
  have x1 := @nameOk.eq_1
  have x2 := within_ok (s.size : Int) 1 8
  have x3 := iKeyWord_ok s
  exact wk
theorem nameOk_no {s : ByteArray} {j : Nat} (hj : j < s.size) (h : runF letterB s 0 = j) : nameOk s = false := by
 unfold nameOk
 split
 ·rfl
 ·rw [h, if_pos (by rw [beq_eq_false_iff_ne]; omega)]
theorem sNameOk_ok (s : ByteArray) (hs : s.size ≤ 1048576) : CallOk Tryz.prog 161 [.one (sV s)] (.s (.one (bV (nameOk s)))) [none] := by
 refine cOh 40 (hBd Tryz.func161 rfl (by kernel_rfl) ?_)
 simp (disch := omega) only [go_sem, Tryz.ntmps161, Tryz.results161]
 refine wkc ?_
 refine i_loop (α := {j : Nat // j ≤ s.size ∧ runF letterB s j = runF letterB s 0}) (fun j => ⟨mkEnv 28 [(0, .one (sV s)), (3, .one (iV j.1))], []⟩) (fun j => s.size - j.1) ⟨0, by omega, rfl⟩ ?_ ?_
 ·first | exact wc [0, 3] []
 rintro ⟨j, hj, he⟩
 by_cases hjl : j < s.size
 ·have d1 : decide ((j : Int) < (s.size : Int)) = true := decide_eq_true (by omega)
  cases hb : letterB (bt s j)
  ·rw [runF_no hjl hb] at he
   have hres := nameOk_no hjl he.symm
   rw [hres]
   clear hres he
   have nl : ¬ (97 ≤ bt s j ∧ bt s j ≤ 122) := fun hh => by have := inB_iff.2 hh; rw [show letterB (bt s j) = inB (bt s j) 97 122 from rfl, this] at hb; cases hb
   clear hb
   simp (disch := omega) only [go_sem]
   exact wk
  ·rw [runF_yes hjl hb] at he
   obtain ⟨b0, b1⟩ := inB_t hb
   have d2 : decide (bt s j < 97) = false := decide_eq_false (by omega)
   have d3 : decide (122 < bt s j) = false := decide_eq_false (by omega)
   clear hb
   simp (disch := omega) only [go_sem]
   refine wkzr ?_
   intros
   all_goals refine ⟨⟨j + 1, by omega, he⟩, ?_, by simp only; omega⟩
   all_goals first | exact wc [0, 3] []
 ·have d1 : decide ((j : Int) < (s.size : Int)) = false := decide_eq_false (by omega)
  rw [runF_end hjl] at he
  have hn : nameOk s = if inB (s.size : Int) 1 8 = false then false else !keyWord s := by
   have hjs : j = s.size := by omega
   unfold nameOk
   rw [← he, hjs, if_neg (c := ((s.size : Int) == (s.size : Int)) = false) (by simp)]
  rw [hn]
  clear hn he
  cases h1 : inB (s.size : Int) 1 8 <;> cases h3 : keyWord s
  all_goals
   have hkw := sKeyWord_ok s
   rw [h3] at hkw
   simp (disch := omega) only [go_sem]
   have x1 := specInB_ok (s.size : Int) 1 8
   exact wk
end Go.Proofs.YtejnpiielcbkkaaGreat.E
