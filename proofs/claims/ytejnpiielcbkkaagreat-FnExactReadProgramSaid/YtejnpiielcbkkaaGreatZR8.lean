/- A part of what stands under the laws of this seat: an abstract evaluator that is proved sound, and contracts of functions by it. No condition beside those that stand in each statement. -/
import Derived.Test.YtejnpiielcbkkaaGreatZR6
import Derived.Test.YtejnpiielcbkkaaGreatZR7d
import Derived.Test.YtejnpiielcbkkaaGreatZR7e
set_option linter.unusedVariables false
set_option linter.unusedSimpArgs false
section
set_option maxRecDepth 100000
set_option maxHeartbeats 4000000
namespace Go.Proofs.YtejnpiielcbkkaaGreat.E
theorem sOne_bad (z : ByteArray) (k : Nat) (acc : List Sign) (hz : z.size ≤ 1048576) (hk : k < z.size) (ha : acc.length ≤ 1048576) (h : (signAt z k).2.2 = false) : CallOk Tryz.prog 80 [.one (.box (scanT z k acc))] (.s (.one (bV false))) [none] := by
 cases h1 : letterB (bt z k)
 ·cases h3 : figureB (bt z k)
  ·cases h5 : asgAt z k
   ·cases h6 : markB (bt z k)
    ·exact sOne_none z k acc hz hk ha h1 h3 h5 h6
    ·exfalso; unfold signAt at h; rw [h1, if_neg (by simp), h3, if_neg (by simp), h5, if_neg (by simp), h6, if_pos rfl] at h; cases h
   ·exfalso; unfold signAt at h; rw [h1, if_neg (by simp), h3, if_neg (by simp), h5, if_pos rfl] at h; cases h
  ·cases h4 : decide ((6 : Int) < (runF figureB z k : Int) - (k : Int))
   ·exfalso; unfold signAt at h; rw [h1, if_neg (by simp), h3, if_pos rfl, h4, if_neg (by simp)] at h; cases h
   ·exact sOne_figure_long z k acc hz hk ha h1 h3 h4
 ·cases h4 : decide ((8 : Int) < (runF letterB z k : Int) - (k : Int))
  ·exfalso; unfold signAt at h; rw [h1, if_pos rfl, h4, if_neg (by simp)] at h; cases h
  ·exact sOne_letter_long z k acc hz hk ha h1 h4
theorem sOne_good (z : ByteArray) (k e : Nat) (S : Sign) (acc : List Sign) (hz : z.size ≤ 1048576) (hk : k < z.size) (ha : acc.length ≤ 1048576) (h : signAt z k = (S, e, true)) : CallOk Tryz.prog 80 [.one (.box (scanT z k acc))] (.s (.one (bV (!decide ((500 : Int) ≤ (acc.length : Int)))))) [if decide ((500 : Int) ≤ (acc.length : Int)) = true then none else some (.box (scanT z e (acc ++ [S])))] := by
 cases h1 : letterB (bt z k)
 ·cases h3 : figureB (bt z k)
  ·cases h5 : asgAt z k
   ·cases h6 : markB (bt z k)
    ·exfalso; unfold signAt at h; rw [h1, if_neg (by simp), h3, if_neg (by simp), h5, if_neg (by simp), h6, if_neg (by simp)] at h; cases h
    ·unfold signAt at h; rw [h1, if_neg (by simp), h3, if_neg (by simp), h5, if_neg (by simp), h6, if_pos rfl] at h
     obtain ⟨rfl, h'⟩ := Prod.mk.inj h
     obtain ⟨rfl, -⟩ := Prod.mk.inj h'
     exact sOne_mark z k acc hz hk ha h1 h3 h5 h6
   ·unfold signAt at h; rw [h1, if_neg (by simp), h3, if_neg (by simp), h5, if_pos rfl] at h
    obtain ⟨rfl, h'⟩ := Prod.mk.inj h
    obtain ⟨rfl, -⟩ := Prod.mk.inj h'
    exact sOne_asg z k acc hz hk ha h1 h3 h5
  ·cases h4 : decide ((6 : Int) < (runF figureB z k : Int) - (k : Int))
   ·unfold signAt at h; rw [h1, if_neg (by simp), h3, if_pos rfl, h4, if_neg (by simp)] at h
    obtain ⟨rfl, h'⟩ := Prod.mk.inj h
    obtain ⟨rfl, -⟩ := Prod.mk.inj h'
    exact sOne_figure z k acc hz hk ha h1 h3 h4
   ·exfalso; unfold signAt at h; rw [h1, if_neg (by simp), h3, if_pos rfl, h4, if_pos rfl] at h; cases h
 ·cases h4 : decide ((8 : Int) < (runF letterB z k : Int) - (k : Int))
  ·unfold signAt at h; rw [h1, if_pos rfl, h4, if_neg (by simp)] at h
   obtain ⟨rfl, h'⟩ := Prod.mk.inj h
   obtain ⟨rfl, -⟩ := Prod.mk.inj h'
   exact sOne_letter z k acc hz hk ha h1 h4
  ·exfalso; unfold signAt at h; rw [h1, if_pos rfl, h4, if_pos rfl] at h; cases h
end Go.Proofs.YtejnpiielcbkkaaGreat.E
end
section
set_option maxRecDepth 100000
set_option maxHeartbeats 4000000
namespace Go.Proofs.YtejnpiielcbkkaaGreat.E
def slexS (z : ByteArray) (k : Nat) : List Sign → St
 | [] => ⟨mkEnv 85 [(0, .one (sV z)), (4, .one (.ref 0 0 0)), (5, .one (.ptr 1 0 0))], [.live 4 [], .live 3 [[sV z, iV k, .v (.slice none 0 0)]]]⟩
 | a :: as_ => ⟨mkEnv 85 [(0, .one (sV z)), (4, .one (.ref 0 0 0)), (5, .one (.ptr 1 0 0))], [.live 4 [], .live 3 [[sV z, iV k, .own 4 (signsT (a :: as_))]]]⟩
theorem slexS_nil (z : ByteArray) (k : Nat) : slexS z k [] = ⟨mkEnv 85 [(0, .one (sV z)), (4, .one (.ref 0 0 0)), (5, .one (.ptr 1 0 0))], [.live 4 [], .live 3 [[sV z, iV k, .v (.slice none 0 0)]]]⟩ := rfl
theorem slexS_cons (z : ByteArray) (k : Nat) (a : Sign) (as_ : List Sign) : slexS z k (a :: as_) = ⟨mkEnv 85 [(0, .one (sV z)), (4, .one (.ref 0 0 0)), (5, .one (.ptr 1 0 0))], [.live 4 [], .live 3 [[sV z, iV k, .own 4 (signsT (a :: as_))]]]⟩ := rfl
theorem sSignsOf_ok (z : ByteArray) (hz : z.size ≤ 1048576) : CallOk Tryz.prog 22 [.one (sV z)] (.tup [.one (.own 4 (signsT (signsOf z).1)), .one (iV (signsOf z).2)]) [none] := by
 cases h0 : decide ((1500 : Int) < (z.size : Int))
 ·have hs : signsOf z = lexF z z.size 0 [] := by unfold signsOf; rw [h0, if_neg (by simp)]
  rw [hs]
  obtain ⟨⟨RL, RF⟩, hR⟩ : ∃ r, lexF z z.size 0 [] = r := ⟨_, rfl⟩
  rw [hR]
  dsimp only
  refine cOh 40 (hBd Tryz.func22 rfl (by kernel_rfl) ?_)
  simp (disch := omega) only [go_sem, Tryz.ntmps22, Tryz.results22]
  refine wkc ?_
  refine i_loop (α := {x : Nat × Nat × List Sign // x.2.1 ≤ z.size ∧ z.size - x.2.1 ≤ x.1 ∧ x.2.2.length ≤ 500 ∧ lexF z x.1 x.2.1 x.2.2 = (RL, RF)}) (fun x => slexS z x.1.2.1 x.1.2.2) (fun x => x.1.1) ⟨(z.size, 0, []), by simp, by simp, by simp, hR⟩ ?_ ?_
  ·simp only [slexS_nil]
   first | exact wc [0, 4, 5] [0, 1]
  rintro ⟨⟨n, k, acc⟩, hk, hn, ha, he⟩
  dsimp only at hk hn ha he ⊢
  by_cases hkl : k < z.size
  ·have d1 : decide ((k : Int) < (z.size : Int)) = true := decide_eq_true (by omega)
   obtain ⟨n, rfl⟩ : ∃ n', n = n' + 1 := ⟨n - 1, by omega⟩
   rw [lexF, d1, if_neg (by simp)] at he
   cases h1 : (bt z k == 32)
   ·rw [h1, if_neg (by simp)] at he
    cases h2 : (bt z k == 10)
    ·rw [h2, if_neg (by simp)] at he
     cases h3 : (bt z k == 35)
     ·rw [h3, if_neg (by simp)] at he
      have hle := signAt_le (z := z) (k := k) hkl
      have hbad := sOne_bad z k acc hz hkl (by omega)
      have hgood := fun (e : Nat) (S : Sign) => sOne_good z k e S acc hz hkl (by omega)
      obtain ⟨⟨S, e, ok⟩, hS⟩ : ∃ r, signAt z k = r := ⟨_, rfl⟩
      rw [hS] at hle he hbad
      dsimp only at hle he hbad
      cases ok
      ·have hone := hbad rfl
       clear hbad hgood
       rw [if_pos rfl] at he
       obtain ⟨rfl, rfl⟩ := Prod.mk.inj he
       clear hS
       rcases acc with _ | ⟨a, as_⟩
       all_goals
        simp (disch := omega) only [go_sem, slexS_nil, slexS_cons]
        exact wk
      ·have hone := hgood e S hS
       clear hbad hgood hS
       rw [if_neg (by simp)] at he
       obtain ⟨g1, g2⟩ := hle rfl
       cases h5 : ((acc.length : Int) == 500)
       ·rw [h5, if_neg (by simp)] at he
        have hl5 : acc.length < 500 := by have := beq_eq_false_iff_ne.1 h5; omega
        have hd5 : decide ((500 : Int) ≤ (acc.length : Int)) = false := decide_eq_false (by omega)
        rw [hd5] at hone
        simp only [Bool.not_false, Bool.false_eq_true, if_false] at hone
        rcases acc with _ | ⟨a, as_⟩
        ·simp (disch := omega) only [go_sem, slexS_nil, slexS_cons]
         repeat' (first | (with_reducible first | refine i_seq ?_) | ((first | (with_reducible first | refine iBk ?_ | refine iRQ (fun Q' hQ => ?_) | (refine Imp.go hQ ?_; clear hQ) | (refine ImpE.go hE ?_; clear hE)) | ((with_reducible refine i_condT ?_ ?_); (focus (simp only [go_sem, *]; done))) | ((with_reducible refine i_condF ?_ ?_); (focus (simp only [go_sem, *]; done))) | ((with_reducible first | refine rOg (fun h => ?_) (fun h => ?_) | refine i_cond (by simp only [go_sem, *] <;> rfl) (fun h => ?_) (fun h => ?_)) <;> (try simp only [nqA, nqB, nqC, reduceCtorEq] at h) <;> (try have h' := odT h) <;> (try (have hz : (_ : Int) = (_ : Int) := h'; clear hz h')) <;> (try have h' := odF h) <;> (try have h' := inB_t h) <;> (try (exfalso; omega))) | (((with_reducible refine hcO 40 true (hone) ?_ ?_ ?_ ?_ ?_); iterate 4 (focus (simp (disch := omega) only [go_sem, d1, h1, h2, h3, reduceCtorEq, nLo]; done))); simp only [go_sem, d1, h1, h2, h3, reduceCtorEq]; refine aLr ?_)) <;> (try simp (disch := omega) only [go_sem, d1, h1, h2, h3, reduceCtorEq, *])))
         all_goals (try simp (disch := omega) only [EndK, go_sem, d1, h1, h2, h3, reduceCtorEq, nLo, *])
         all_goals refine ⟨⟨(n, e, [S]), g2, by dsimp only; omega, by simp, he⟩, ?_, by simp only; omega⟩
         all_goals
          simp only [slexS_cons]
          first | (refine wCn [0, 4, 5] [0, 1] ?_ ?_ ?_ <;> (simp (disch := omega) only [go_sem, List.nil_append]; done))
        ·simp (disch := omega) only [go_sem, slexS_nil, slexS_cons]
         repeat' (first | (with_reducible first | refine i_seq ?_) | ((first | (with_reducible first | refine iBk ?_ | refine iRQ (fun Q' hQ => ?_) | (refine Imp.go hQ ?_; clear hQ) | (refine ImpE.go hE ?_; clear hE)) | ((with_reducible refine i_condT ?_ ?_); (focus (simp only [go_sem, *]; done))) | ((with_reducible refine i_condF ?_ ?_); (focus (simp only [go_sem, *]; done))) | ((with_reducible first | refine rOg (fun h => ?_) (fun h => ?_) | refine i_cond (by simp only [go_sem, *] <;> rfl) (fun h => ?_) (fun h => ?_)) <;> (try simp only [nqA, nqB, nqC, reduceCtorEq] at h) <;> (try have h' := odT h) <;> (try (have hz : (_ : Int) = (_ : Int) := h'; clear hz h')) <;> (try have h' := odF h) <;> (try have h' := inB_t h) <;> (try (exfalso; omega))) | (((with_reducible refine hcO 40 true (hone) ?_ ?_ ?_ ?_ ?_); iterate 4 (focus (simp (disch := omega) only [go_sem, d1, h1, h2, h3, reduceCtorEq, nLo]; done))); simp only [go_sem, d1, h1, h2, h3, reduceCtorEq]; refine aLr ?_)) <;> (try simp (disch := omega) only [go_sem, d1, h1, h2, h3, reduceCtorEq, *])))
         all_goals (try simp (disch := omega) only [EndK, go_sem, d1, h1, h2, h3, reduceCtorEq, nLo, *])
         all_goals refine ⟨⟨(n, e, (a :: as_) ++ [S]), g2, by dsimp only; omega, by simp only [List.length_append, List.length_singleton]; omega, he⟩, ?_, by simp only; omega⟩
         all_goals
          simp only [List.cons_append, slexS_cons]
          first | (refine wCn [0, 4, 5] [0, 1] ?_ ?_ ?_ <;> (simp (disch := omega) only [go_sem, List.cons_append]; done))
       ·rw [h5, if_pos rfl] at he
        obtain ⟨rfl, rfl⟩ := Prod.mk.inj he
        have hd5 : decide ((500 : Int) ≤ (acc.length : Int)) = true := decide_eq_true (by have := beq_iff_eq.1 h5; omega)
        rw [hd5] at hone
        simp only [Bool.not_true, if_true] at hone
        rcases acc with _ | ⟨a, as_⟩
        all_goals
         simp (disch := omega) only [go_sem, slexS_nil, slexS_cons]
         repeat' (first | (with_reducible first | refine i_seq ?_) | ((first | (with_reducible first | refine iBk ?_ | refine iRQ (fun Q' hQ => ?_) | (refine Imp.go hQ ?_; clear hQ) | (refine ImpE.go hE ?_; clear hE)) | ((with_reducible refine i_condT ?_ ?_); (focus (simp only [go_sem, *]; done))) | ((with_reducible refine i_condF ?_ ?_); (focus (simp only [go_sem, *]; done))) | ((with_reducible first | refine rOg (fun h => ?_) (fun h => ?_) | refine i_cond (by simp only [go_sem, *] <;> rfl) (fun h => ?_) (fun h => ?_)) <;> (try simp only [nqA, nqB, nqC, reduceCtorEq] at h) <;> (try have h' := odT h) <;> (try (have hz : (_ : Int) = (_ : Int) := h'; clear hz h')) <;> (try have h' := odF h) <;> (try have h' := inB_t h) <;> (try (exfalso; omega))) | (((with_reducible refine hcO 40 true (hone) ?_ ?_ ?_ ?_ ?_); iterate 4 (focus (simp (disch := omega) only [go_sem, d1, h1, h2, h3, reduceCtorEq, nLo]; done))); simp only [go_sem, d1, h1, h2, h3, reduceCtorEq]; refine aLr ?_)) <;> (try simp (disch := omega) only [go_sem, d1, h1, h2, h3, reduceCtorEq, *])))
         all_goals (try simp (disch := omega) only [EndK, go_sem, d1, h1, h2, h3, reduceCtorEq, nLo, *])
     ·rw [h3, if_pos rfl] at he
      obtain ⟨g1, g2⟩ := runF_lt (p := lineB) hkl (by show (bt z k != 10) = true; unfold bne; rw [h2]; rfl)
      obtain ⟨e, hee⟩ : ∃ e, runF lineB z k = e := ⟨_, rfl⟩
      rw [hee] at g1 g2 he
      rcases acc with _ | ⟨a, as_⟩
      ·simp (disch := omega) only [go_sem, slexS_nil, slexS_cons]
       refine wkzr ?_
       intros
       refine i_hide fun Q hE => ?_
       refine i_loop (α := {j : Nat // j ≤ z.size ∧ runF lineB z j = e}) (fun j => slexS z j.1 []) (fun j => z.size - j.1) ⟨k, hk, hee⟩ ?_ ?_
       ·simp only [slexS_nil]
        first | exact wc [0, 4, 5] [0, 1]
       rintro ⟨j, hj, hje⟩
       simp only [slexS_nil]
       by_cases hjl : j < z.size
       ·have d2 : decide ((j : Int) < (z.size : Int)) = true := decide_eq_true (by omega)
        cases hb : (bt z j != 10)
        ·rw [runF_no hjl hb] at hje
         subst hje
         simp (disch := omega) only [go_sem]
         refine wkzr ?_
         intros
         all_goals refine ⟨⟨(n, j, []), g2, by dsimp only; omega, ha, he⟩, ?_, by simp only; omega⟩
         all_goals
          simp only [slexS_nil]
          first | exact wc [0, 4, 5] [0, 1]
        ·rw [runF_yes hjl hb] at hje
         simp (disch := omega) only [go_sem]
         refine wkzr ?_
         intros
         all_goals refine ⟨⟨j + 1, by omega, hje⟩, ?_, by simp only; omega⟩
         all_goals
          simp only [slexS_nil]
          first | exact wc [0, 4, 5] [0, 1]
       ·have d2 : decide ((j : Int) < (z.size : Int)) = false := decide_eq_false (by omega)
        rw [runF_end hjl] at hje
        subst hje
        simp (disch := omega) only [go_sem]
        refine wkzr ?_
        intros
        all_goals refine ⟨⟨(n, j, []), g2, by dsimp only; omega, ha, he⟩, ?_, by simp only; omega⟩
        all_goals
         simp only [slexS_nil]
         first | exact wc [0, 4, 5] [0, 1]
      ·simp (disch := omega) only [go_sem, slexS_nil, slexS_cons]
       refine wkzr ?_
       intros
       refine i_hide fun Q hE => ?_
       refine i_loop (α := {j : Nat // j ≤ z.size ∧ runF lineB z j = e}) (fun j => slexS z j.1 (a :: as_)) (fun j => z.size - j.1) ⟨k, hk, hee⟩ ?_ ?_
       ·simp only [slexS_cons]
        first | exact wc [0, 4, 5] [0, 1]
       rintro ⟨j, hj, hje⟩
       simp only [slexS_cons]
       by_cases hjl : j < z.size
       ·have d2 : decide ((j : Int) < (z.size : Int)) = true := decide_eq_true (by omega)
        cases hb : (bt z j != 10)
        ·rw [runF_no hjl hb] at hje
         subst hje
         simp (disch := omega) only [go_sem]
         refine wkzr ?_
         intros
         all_goals refine ⟨⟨(n, j, a :: as_), g2, by dsimp only; omega, ha, he⟩, ?_, by simp only; omega⟩
         all_goals
          simp only [slexS_cons]
          first | exact wc [0, 4, 5] [0, 1]
        ·rw [runF_yes hjl hb] at hje
         simp (disch := omega) only [go_sem]
         refine wkzr ?_
         intros
         all_goals refine ⟨⟨j + 1, by omega, hje⟩, ?_, by simp only; omega⟩
         all_goals
          simp only [slexS_cons]
          first | exact wc [0, 4, 5] [0, 1]
       ·have d2 : decide ((j : Int) < (z.size : Int)) = false := decide_eq_false (by omega)
        rw [runF_end hjl] at hje
        subst hje
        simp (disch := omega) only [go_sem]
        refine wkzr ?_
        intros
        all_goals refine ⟨⟨(n, j, a :: as_), g2, by dsimp only; omega, ha, he⟩, ?_, by simp only; omega⟩
        all_goals
         simp only [slexS_cons]
         first | exact wc [0, 4, 5] [0, 1]
    ·rw [h2, if_pos rfl] at he
     rcases acc with _ | ⟨a, as_⟩
     all_goals
      simp (disch := omega) only [go_sem, slexS_nil, slexS_cons]
      repeat' (first | (with_reducible first | refine i_seq ?_) | ((first | (with_reducible first | refine iBk ?_ | refine iRQ (fun Q' hQ => ?_) | (refine Imp.go hQ ?_; clear hQ) | (refine ImpE.go hE ?_; clear hE)) | ((with_reducible refine i_condT ?_ ?_); (focus (simp only [go_sem, *]; done))) | ((with_reducible refine i_condF ?_ ?_); (focus (simp only [go_sem, *]; done))) | ((with_reducible first | refine rOg (fun h => ?_) (fun h => ?_) | refine i_cond (by simp only [go_sem, *] <;> rfl) (fun h => ?_) (fun h => ?_)) <;> (try simp only [nqA, nqB, nqC, reduceCtorEq] at h) <;> (try have h' := odT h) <;> (try (have hz : (_ : Int) = (_ : Int) := h'; clear hz h')) <;> (try have h' := odF h) <;> (try have h' := inB_t h) <;> (try (exfalso; omega)))) <;> (try simp (disch := omega) only [go_sem, d1, h1, h2, reduceCtorEq, *])))
      all_goals (try simp (disch := omega) only [EndK, go_sem, d1, h1, h2, reduceCtorEq, nLo, *])
     ·refine ⟨⟨(n, k + 1, []), by dsimp only; omega, by dsimp only; omega, ha, he⟩, ?_, by simp only; omega⟩
      simp only [slexS_nil]
      first | exact wc [0, 4, 5] [0, 1]
     ·refine ⟨⟨(n, k + 1, a :: as_), by dsimp only; omega, by dsimp only; omega, ha, he⟩, ?_, by simp only; omega⟩
      simp only [slexS_cons]
      first | exact wc [0, 4, 5] [0, 1]
   ·rw [h1, if_pos rfl] at he
    rcases acc with _ | ⟨a, as_⟩
    all_goals
     simp (disch := omega) only [go_sem, slexS_nil, slexS_cons]
     repeat' (first | (with_reducible first | refine i_seq ?_) | ((first | (with_reducible first | refine iBk ?_ | refine iRQ (fun Q' hQ => ?_) | (refine Imp.go hQ ?_; clear hQ) | (refine ImpE.go hE ?_; clear hE)) | ((with_reducible refine i_condT ?_ ?_); (focus (simp only [go_sem, *]; done))) | ((with_reducible refine i_condF ?_ ?_); (focus (simp only [go_sem, *]; done))) | ((with_reducible first | refine rOg (fun h => ?_) (fun h => ?_) | refine i_cond (by simp only [go_sem, *] <;> rfl) (fun h => ?_) (fun h => ?_)) <;> (try simp only [nqA, nqB, nqC, reduceCtorEq] at h) <;> (try have h' := odT h) <;> (try (have hz : (_ : Int) = (_ : Int) := h'; clear hz h')) <;> (try have h' := odF h) <;> (try have h' := inB_t h) <;> (try (exfalso; omega)))) <;> (try simp (disch := omega) only [go_sem, d1, h1, reduceCtorEq, *])))
     all_goals (try simp (disch := omega) only [EndK, go_sem, d1, h1, reduceCtorEq, nLo, *])
    ·refine ⟨⟨(n, k + 1, []), by dsimp only; omega, by dsimp only; omega, ha, he⟩, ?_, by simp only; omega⟩
     simp only [slexS_nil]
     first | exact wc [0, 4, 5] [0, 1]
    ·refine ⟨⟨(n, k + 1, a :: as_), by dsimp only; omega, by dsimp only; omega, ha, he⟩, ?_, by simp only; omega⟩
     simp only [slexS_cons]
     first | exact wc [0, 4, 5] [0, 1]
  ·have d1 : decide ((k : Int) < (z.size : Int)) = false := decide_eq_false (by omega)
   have he2 : (acc, (0 : Int)) = (RL, RF) := by
    cases n
    ·exact he
    ·rw [lexF, d1, if_pos rfl] at he; exact he
   obtain ⟨rfl, rfl⟩ := Prod.mk.inj he2
   rcases acc with _ | ⟨a, as_⟩
   ·simp (disch := omega) only [go_sem, slexS_nil, slexS_cons]
    exact wk
   ·have ha' : as_.length + 1 ≤ 500 := ha
    simp (disch := omega) only [go_sem, slexS_nil, slexS_cons]
    have x1 := @List.nil_append.{0}
    exact wk
 ·have hs : signsOf z = ([], 1) := by unfold signsOf; rw [h0, if_pos rfl]
  rw [hs]
  refine cOh 40 (hBd Tryz.func22 rfl (by kernel_rfl) ?_)
  simp (disch := omega) only [go_sem, Tryz.ntmps22, Tryz.results22]
  exact wk
end Go.Proofs.YtejnpiielcbkkaaGreat.E
end
