/- A part of what stands under the laws of this seat: an abstract evaluator that is proved sound, and contracts of functions by it. No condition beside those that stand in each statement. -/
import Derived.Test.YtejnpiielcbkkaaGreatZR4
set_option linter.unusedVariables false
set_option linter.unusedSimpArgs false
set_option maxRecDepth 100000
set_option maxHeartbeats 4000000
namespace Go.Proofs.YtejnpiielcbkkaaGreat.E
theorem runF_lt {p : Int → Bool} {z : ByteArray} {k : Nat} (hk : k < z.size) (h : p (bt z k) = true) : k < runF p z k ∧ runF p z k ≤ z.size := by
 rw [runF_yes hk h]
 have := runF_le (p := p) (z := z) _ (k + 1) rfl (by omega)
 omega
theorem signAt_le {z : ByteArray} {k : Nat} (hk : k < z.size) (h : (signAt z k).2.2 = true) : k < (signAt z k).2.1 ∧ (signAt z k).2.1 ≤ z.size := by
 unfold signAt at h ⊢
 split
 ·rename_i h1
  rw [if_pos h1] at h
  split
  ·rename_i h2; rw [if_pos h2] at h; cases h
  ·exact runF_lt hk h1
 ·rename_i h1
  rw [if_neg h1] at h
  split
  ·rename_i h2
   rw [if_pos h2] at h
   split
   ·rename_i h3; rw [if_pos h3] at h; cases h
   ·exact runF_lt hk h2
  ·rename_i h2
   rw [if_neg h2] at h
   split
   ·rename_i h3
    have := asg_room h3
    refine ⟨?_, ?_⟩ <;> dsimp only <;> omega
   ·rename_i h3
    rw [if_neg h3] at h
    split
    ·refine ⟨?_, ?_⟩ <;> dsimp only <;> omega
    ·rename_i h4; rw [if_neg h4] at h; cases h
/-- The signs from a place on, behind those that are read. -/
def lexF (z : ByteArray) : Nat → Nat → List Sign → List Sign × Int
 | 0, _, acc => (acc, 0)
 | n + 1, k, acc =>
  if decide ((k : Int) < (z.size : Int)) = false then (acc, 0)
  else if (bt z k == 32) = true then lexF z n (k + 1) acc
  else if (bt z k == 10) = true then lexF z n (k + 1) acc
  else if (bt z k == 35) = true then lexF z n (runF lineB z k) acc
  else if (signAt z k).2.2 = false then ([], (k : Int) + 1)
  else if ((acc.length : Int) == 500) = true then ([], (k : Int) + 1)
  else lexF z n (signAt z k).2.1 (acc ++ [(signAt z k).1])
def signsOf (z : ByteArray) : List Sign × Int := if decide ((1500 : Int) < (z.size : Int)) = true then ([], 1) else lexF z z.size 0 []
def lexS (z : ByteArray) (k : Nat) : List Sign → St
 | [] => ⟨mkEnv 51 [(0, .one (sV z)), (4, .one (.v (.slice none 0 0))), (5, .one (iV k))], []⟩
 | a :: as_ => ⟨mkEnv 51 [(0, .one (sV z)), (4, .one (.ref 0 0 (as_.length + 1))), (5, .one (iV k))], [.live 4 (signsT (a :: as_))]⟩
theorem lexS_nil (z : ByteArray) (k : Nat) : lexS z k [] = ⟨mkEnv 51 [(0, .one (sV z)), (4, .one (.v (.slice none 0 0))), (5, .one (iV k))], []⟩ := rfl
theorem lexS_cons (z : ByteArray) (k : Nat) (a : Sign) (as_ : List Sign) : lexS z k (a :: as_) = ⟨mkEnv 51 [(0, .one (sV z)), (4, .one (.ref 0 0 (as_.length + 1))), (5, .one (iV k))], [.live 4 (signsT (a :: as_))]⟩ := rfl
theorem iSignsOf_ok (z : ByteArray) (hz : z.size ≤ 1048576) : CallOk Tryz.prog 28 [.one (sV z)] (.tup [.one (.own 4 (signsT (signsOf z).1)), .one (iV (signsOf z).2)]) [none] := by
 cases h0 : decide ((1500 : Int) < (z.size : Int))
 ·have hs : signsOf z = lexF z z.size 0 [] := by unfold signsOf; rw [h0, if_neg (by simp)]
  rw [hs]
  obtain ⟨⟨RL, RF⟩, hR⟩ : ∃ r, lexF z z.size 0 [] = r := ⟨_, rfl⟩
  rw [hR]
  dsimp only
  refine cOh 40 (hBd Tryz.func28 rfl (by kernel_rfl) ?_)
  simp (disch := omega) only [go_sem, Tryz.ntmps28, Tryz.results28]
  refine wkc ?_
  refine i_loop (α := {x : Nat × Nat × List Sign // x.2.1 ≤ z.size ∧ z.size - x.2.1 ≤ x.1 ∧ x.2.2.length ≤ 500 ∧ lexF z x.1 x.2.1 x.2.2 = (RL, RF)}) (fun x => lexS z x.1.2.1 x.1.2.2) (fun x => x.1.1) ⟨(z.size, 0, []), by simp, by simp, by simp, hR⟩ ?_ ?_
  ·simp only [lexS_nil]
   first | exact wc [0, 4, 5] []
  rintro ⟨⟨n, k, acc⟩, hk, hn, ha, he⟩
  dsimp only at hk hn ha he ⊢
  by_cases hkl : k < z.size
  ·have d1 : decide ((k : Int) < (z.size : Int)) = true := decide_eq_true (by omega)
   obtain ⟨n, rfl⟩ : ∃ n', n = n' + 1 := ⟨n - 1, by omega⟩
   rw [lexF, d1, if_neg (by simp)] at he
   cases h1 : (bt z k == 32)
   ·rw [h1, if_neg (by simp)] at he
    cases h2 : (bt z k == 10)
    ·rw [h2, if_neg (by simp)] at he
     cases h3 : (bt z k == 35)
     ·rw [h3, if_neg (by simp)] at he
      have hsg := iSignAt_ok z k hz hkl
      have hle := signAt_le (z := z) (k := k) hkl
      obtain ⟨⟨S, e, ok⟩, hS⟩ : ∃ r, signAt z k = r := ⟨_, rfl⟩
      rw [hS] at hsg hle he
      dsimp only at hsg hle he
      clear hS
      cases ok
      ·rw [if_pos rfl] at he
       obtain ⟨rfl, rfl⟩ := Prod.mk.inj he
       rcases acc with _ | ⟨a, as_⟩
       all_goals
        simp (disch := omega) only [go_sem, lexS_nil, lexS_cons]
        exact wk
      ·rw [if_neg (by simp)] at he
       obtain ⟨g1, g2⟩ := hle rfl
       cases h5 : ((acc.length : Int) == 500)
       ·rw [h5, if_neg (by simp)] at he
        have hl5 : acc.length < 500 := by have := beq_eq_false_iff_ne.1 h5; omega
        rcases acc with _ | ⟨a, as_⟩
        ·have h5n : ((0 : Int) == 500) = false := rfl
         simp (disch := omega) only [go_sem, lexS_nil, lexS_cons]
         refine wkzr ?_
         intros
         all_goals refine ⟨⟨(n, e, [S]), g2, by dsimp only; omega, by simp, he⟩, ?_, by simp only; omega⟩
         all_goals
          have e1 : signsT [S] = [[.v (.int .i64 S.kind), .v (.string S.text), .v (.int .i64 S.num), .v (.int .i64 S.pos)]] := rfl
          simp only [lexS_cons]
          first | (refine wCn [0, 4, 5] [2] ?_ ?_ ?_ <;> (simp (disch := omega) only [go_sem, e1, List.length_nil]; done))
        ·have hl6 : as_.length + 1 < 500 := by simpa using hl5
         have h5' : ((as_.length : Int) + 1 == 500) = false := by simpa using h5
         simp (disch := omega) only [go_sem, lexS_nil, lexS_cons]
         refine wkzr ?_
         intros
         all_goals refine ⟨⟨(n, e, (a :: as_) ++ [S]), g2, by dsimp only; omega, by simp; omega, he⟩, ?_, by simp only; omega⟩
         all_goals
          simp only [List.cons_append, lexS_cons]
          first | (refine wCn [0, 4, 5] [3] ?_ ?_ ?_ <;> (simp (disch := omega) only [go_sem, signsT_app1]; done))
       ·rw [h5, if_pos rfl] at he
        obtain ⟨rfl, rfl⟩ := Prod.mk.inj he
        rcases acc with _ | ⟨a, as_⟩
        ·simp at h5
        ·have hl6 : as_.length + 1 ≤ 500 := by simpa using ha
         have h5' : ((as_.length : Int) + 1 == 500) = true := by simpa using h5
         simp (disch := omega) only [go_sem, lexS_nil, lexS_cons]
         exact wk
     ·rw [h3, if_pos rfl] at he
      have hrun := run_ok 92 lineB line_ok z k hz hk
      obtain ⟨g1, g2⟩ := runF_lt (p := lineB) hkl (by show (bt z k != 10) = true; unfold bne; rw [h2]; rfl)
      obtain ⟨e, hee⟩ : ∃ e, runF lineB z k = e := ⟨_, rfl⟩
      rw [hee] at hrun g1 g2 he
      clear hee
      rcases acc with _ | ⟨a, as_⟩
      all_goals
       simp (disch := omega) only [go_sem, lexS_nil, lexS_cons]
       repeat' (first | (with_reducible first | refine i_seq ?_) | ((first | (with_reducible first | refine iBk ?_ | refine iRQ (fun Q' hQ => ?_) | (refine Imp.go hQ ?_; clear hQ)) | ((with_reducible refine i_condT ?_ ?_); (focus (simp only [go_sem, *]; done))) | ((with_reducible refine i_condF ?_ ?_); (focus (simp only [go_sem, *]; done))) | ((with_reducible first | refine rOg (fun h => ?_) (fun h => ?_) | refine i_cond (by simp only [go_sem, *] <;> rfl) (fun h => ?_) (fun h => ?_)) <;> (try simp only [nqA, nqB, nqC, reduceCtorEq] at h) <;> (try have h' := odT h) <;> (try (have hz : (_ : Int) = (_ : Int) := h'; clear hz h')) <;> (try have h' := odF h) <;> (try have h' := inB_t h) <;> (try (exfalso; omega))) | (((with_reducible first | refine hcO 40 true (hrun) ?_ ?_ ?_ ?_ ?_); iterate 4 (focus (simp (disch := omega) only [go_sem, d1, h1, h2, h3, reduceCtorEq, nLo]; done))); simp only [go_sem, d1, h1, h2, h3, reduceCtorEq]; refine aLr ?_)) <;> (try simp (disch := omega) only [go_sem, d1, h1, h2, h3, reduceCtorEq, *])))
       all_goals (try simp (disch := omega) only [EndK, go_sem, d1, h1, h2, h3, reduceCtorEq, nLo, *])
      ·refine ⟨⟨(n, e, []), g2, by dsimp only; omega, ha, he⟩, ?_, by simp only; omega⟩
       simp only [lexS_nil]
       first | exact wc [0, 4, 5] []
      ·refine ⟨⟨(n, e, a :: as_), g2, by dsimp only; omega, ha, he⟩, ?_, by simp only; omega⟩
       simp only [lexS_cons]
       first | exact wc [0, 4, 5] [0]
    ·rw [h2, if_pos rfl] at he
     rcases acc with _ | ⟨a, as_⟩
     all_goals
      simp (disch := omega) only [go_sem, lexS_nil, lexS_cons]
      repeat' (first | (with_reducible first | refine i_seq ?_) | ((first | (with_reducible first | refine iBk ?_ | refine iRQ (fun Q' hQ => ?_) | (refine Imp.go hQ ?_; clear hQ)) | ((with_reducible refine i_condT ?_ ?_); (focus (simp only [go_sem, *]; done))) | ((with_reducible refine i_condF ?_ ?_); (focus (simp only [go_sem, *]; done))) | ((with_reducible first | refine rOg (fun h => ?_) (fun h => ?_) | refine i_cond (by simp only [go_sem, *] <;> rfl) (fun h => ?_) (fun h => ?_)) <;> (try simp only [nqA, nqB, nqC, reduceCtorEq] at h) <;> (try have h' := odT h) <;> (try (have hz : (_ : Int) = (_ : Int) := h'; clear hz h')) <;> (try have h' := odF h) <;> (try have h' := inB_t h) <;> (try (exfalso; omega)))) <;> (try simp (disch := omega) only [go_sem, d1, h1, h2, reduceCtorEq, *])))
      all_goals (try simp (disch := omega) only [EndK, go_sem, d1, h1, h2, reduceCtorEq, nLo, *])
     ·refine ⟨⟨(n, k + 1, []), by dsimp only; omega, by dsimp only; omega, ha, he⟩, ?_, by simp only; omega⟩
      simp only [lexS_nil]
      first | exact wc [0, 4, 5] []
     ·refine ⟨⟨(n, k + 1, a :: as_), by dsimp only; omega, by dsimp only; omega, ha, he⟩, ?_, by simp only; omega⟩
      simp only [lexS_cons]
      first | exact wc [0, 4, 5] [0]
   ·rw [h1, if_pos rfl] at he
    rcases acc with _ | ⟨a, as_⟩
    all_goals
     simp (disch := omega) only [go_sem, lexS_nil, lexS_cons]
     repeat' (first | (with_reducible first | refine i_seq ?_) | ((first | (with_reducible first | refine iBk ?_ | refine iRQ (fun Q' hQ => ?_) | (refine Imp.go hQ ?_; clear hQ)) | ((with_reducible refine i_condT ?_ ?_); (focus (simp only [go_sem, *]; done))) | ((with_reducible refine i_condF ?_ ?_); (focus (simp only [go_sem, *]; done))) | ((with_reducible first | refine rOg (fun h => ?_) (fun h => ?_) | refine i_cond (by simp only [go_sem, *] <;> rfl) (fun h => ?_) (fun h => ?_)) <;> (try simp only [nqA, nqB, nqC, reduceCtorEq] at h) <;> (try have h' := odT h) <;> (try (have hz : (_ : Int) = (_ : Int) := h'; clear hz h')) <;> (try have h' := odF h) <;> (try have h' := inB_t h) <;> (try (exfalso; omega)))) <;> (try simp (disch := omega) only [go_sem, d1, h1, reduceCtorEq, *])))
     all_goals (try simp (disch := omega) only [EndK, go_sem, d1, h1, reduceCtorEq, nLo, *])
    ·refine ⟨⟨(n, k + 1, []), by dsimp only; omega, by dsimp only; omega, ha, he⟩, ?_, by simp only; omega⟩
     simp only [lexS_nil]
     first | exact wc [0, 4, 5] []
    ·refine ⟨⟨(n, k + 1, a :: as_), by dsimp only; omega, by dsimp only; omega, ha, he⟩, ?_, by simp only; omega⟩
     simp only [lexS_cons]
     first | exact wc [0, 4, 5] [0]
  ·have d1 : decide ((k : Int) < (z.size : Int)) = false := decide_eq_false (by omega)
   have he2 : (acc, (0 : Int)) = (RL, RF) := by
    cases n
    ·exact he
    ·rw [lexF, d1, if_pos rfl] at he; exact he
   obtain ⟨rfl, rfl⟩ := Prod.mk.inj he2
   rcases acc with _ | ⟨a, as_⟩
   all_goals
    simp (disch := omega) only [go_sem, lexS_nil, lexS_cons]
    exact wk
 ·have hs : signsOf z = ([], 1) := by unfold signsOf; rw [h0, if_pos rfl]
  rw [hs]
  refine cOh 40 (hBd Tryz.func28 rfl (by kernel_rfl) ?_)
  simp (disch := omega) only [go_sem, Tryz.ntmps28, Tryz.results28]
  exact wk
end Go.Proofs.YtejnpiielcbkkaaGreat.E
