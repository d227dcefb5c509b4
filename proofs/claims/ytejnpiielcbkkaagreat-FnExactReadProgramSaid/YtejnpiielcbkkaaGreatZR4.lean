/- A part of what stands under the laws of this seat: an abstract evaluator that is proved sound, and contracts of functions by it. No condition beside those that stand in each statement. -/
import Derived.Test.YtejnpiielcbkkaaGreatZR1
set_option linter.unusedVariables false
set_option linter.unusedSimpArgs false
set_option maxRecDepth 100000
set_option maxHeartbeats 4000000
namespace Go.Proofs.YtejnpiielcbkkaaGreat.E
theorem ti209 : ti Tryz.prog 209 = some ⟨.sl 5, 1, 24, false, [.slice none 0 0]⟩ := by kernel_rfl
theorem ni209 : notInt Tryz.prog 209 = true := by kernel_rfl
attribute [go_sem] ti209 ni209
theorem u8_fig {c : Int} (h : 48 ≤ c) (h' : c ≤ 57) : IntKind.u8.wrap (c - 48) = c - 48 := by rw [IntKind.wrap_u8]; omega
theorem numT_bd6 {z : ByteArray} {a k : Nat} (hk : k ≤ 6) (h : ∀ j, j < k → 48 ≤ bt z (a + j) ∧ bt z (a + j) ≤ 57) : 0 ≤ numT z a k ∧ numT z a k ≤ 1000000 := by
 have h1 := numT_bd k h
 have h2 : (10 : Int) ^ k ≤ 1000000 := by
  have : k = 0 ∨ k = 1 ∨ k = 2 ∨ k = 3 ∨ k = 4 ∨ k = 5 ∨ k = 6 := by omega
  rcases this with rfl | rfl | rfl | rfl | rfl | rfl | rfl <;> simp
 omega
theorem iSignAt_ok (z : ByteArray) (k : Nat) (hz : z.size ≤ 1048576) (hk : k < z.size) :
  CallOk Tryz.prog 93 [.one (sV z), .one (iV k)] (.tup [.agg (signT (signAt z k).1), .one (iV (signAt z k).2.1), .one (bV (signAt z k).2.2)]) [none, none] := by
 have ek1 : ((k : Int) + 1).toNat = k + 1 := by omega
 have ek2 : ((k : Int) + 2).toNat = k + 2 := by omega
 have hl := letter_ok (bt z k)
 have hf := figure_ok (bt z k)
 cases h1 : letterB (bt z k)
 ·rw [h1] at hl
  cases h3 : figureB (bt z k)
  ·rw [h3] at hf
   have hp := hasPrefix_ok (z.extract k z.size) asgB (by rw [ext_size _ _ _ (Nat.le_refl _)]; omega) (by show 2 ≤ 1048576; omega)
   have hpe : startsB (z.extract k z.size) asgB = asgAt z k := rfl
   rw [hpe] at hp
   cases h5 : asgAt z k
   ·rw [h5] at hp
    have hi := indexByte_ok marksB (bt z k)
    cases h6 : markB (bt z k)
    ·have hr : signAt z k = (⟨0, noB, 0, k⟩, k, false) := by unfold signAt; rw [h1, if_neg (by simp), h3, if_neg (by simp), h5, if_neg (by simp), h6, if_neg (by simp)]
     have h7 : decide (0 ≤ Lib.indexByte marksB.data.toList (bt z k).toNat.toUInt8) = false := h6
     rw [hr]
     refine cOh 40 (hBd Tryz.func93 rfl (by kernel_rfl) ?_)
     simp (disch := omega) only [go_sem, Tryz.ntmps93, Tryz.results93]
     exact wks
    ·have hr : signAt z k = (⟨3, z.extract k (k + 1), 0, k⟩, k + 1, true) := by unfold signAt; rw [h1, if_neg (by simp), h3, if_neg (by simp), h5, if_neg (by simp), h6, if_pos rfl]
     have h7 : decide (0 ≤ Lib.indexByte marksB.data.toList (bt z k).toNat.toUInt8) = true := h6
     rw [hr]
     refine cOh 40 (hBd Tryz.func93 rfl (by kernel_rfl) ?_)
     simp (disch := omega) only [go_sem, Tryz.ntmps93, Tryz.results93]
     exact wks
   ·rw [h5] at hp
    have hrm := asg_room h5
    have hr : signAt z k = (⟨3, z.extract k (k + 2), 0, k⟩, k + 2, true) := by unfold signAt; rw [h1, if_neg (by simp), h3, if_neg (by simp), h5, if_pos rfl]
    rw [hr]
    refine cOh 40 (hBd Tryz.func93 rfl (by kernel_rfl) ?_)
    simp (disch := omega) only [go_sem, Tryz.ntmps93, Tryz.results93]
    exact wks
  ·rw [h3] at hf
   have hrun := run_ok 167 figureB figure_ok z k hz (by omega)
   obtain ⟨e1, e2⟩ := runF_le (p := figureB) (z := z) _ k rfl (by omega)
   have hat := runF_at (p := figureB) (z := z) _ k rfl (by omega)
   obtain ⟨e, he⟩ : ∃ e, runF figureB z k = e := ⟨_, rfl⟩
   have hsg : signAt z k = if decide ((6 : Int) < (e : Int) - (k : Int)) = true then (⟨2, noB, 0, k⟩, k, false) else (⟨2, z.extract k e, numT z k (e - k), k⟩, e, true) := by unfold signAt; rw [h1, if_neg (by simp), h3, if_pos rfl, he]
   rw [he] at hrun e1 e2 hat
   clear he
   cases h4 : decide ((6 : Int) < (e : Int) - (k : Int))
   ·rw [h4, if_neg (by simp)] at hsg
    rw [hsg]
    clear hsg
    have h4' := of_decide_eq_false h4
    have hes := ext_size z k e e2
    refine cOh 40 (hBd Tryz.func93 rfl (by kernel_rfl) ?_)
    simp (disch := omega) only [go_sem, Tryz.ntmps93, Tryz.results93]
    repeat' (first | (with_reducible first | refine i_seq ?_) | ((first | (with_reducible first | refine iBk ?_ | refine iRQ (fun Q' hQ => ?_) | (refine Imp.go hQ ?_; clear hQ)) | ((with_reducible refine i_condT ?_ ?_); (focus (simp only [go_sem, *]; done))) | ((with_reducible refine i_condF ?_ ?_); (focus (simp only [go_sem, *]; done))) | ((with_reducible first | refine rOg (fun h => ?_) (fun h => ?_) | refine i_cond (by simp only [go_sem, *] <;> rfl) (fun h => ?_) (fun h => ?_)) <;> (try simp only [nqA, nqB, nqC, reduceCtorEq] at h) <;> (try have h' := odT h) <;> (try (have hz : (_ : Int) = (_ : Int) := h'; clear hz h')) <;> (try have h' := odF h) <;> (try have h' := inB_t h) <;> (try (exfalso; omega))) | (((with_reducible first | refine hcO 40 true (hl) ?_ ?_ ?_ ?_ ?_ | refine hcO 40 true (hf) ?_ ?_ ?_ ?_ ?_ | refine hcO 40 true (hrun) ?_ ?_ ?_ ?_ ?_); iterate 4 (focus (simp (disch := omega) only [go_sem, h4, hes, Tryz.underlying5, reduceCtorEq, nLo]; done))); simp only [go_sem, h4, hes, Tryz.underlying5, reduceCtorEq]; refine aLr ?_)) <;> (try simp (disch := first | omega | (simp only [sAp, size_mk, List.size_toArray, List.length_cons, List.length_nil]; omega)) only [go_sem, h4, hes, Tryz.underlying5, reduceCtorEq, *])))
    all_goals (try simp (disch := omega) only [EndK, go_sem, h4, hes, Tryz.underlying5, reduceCtorEq, nLo, *])
    obtain ⟨N, hN⟩ : ∃ N, e - k = N := ⟨_, rfl⟩
    have hen : ((e : Int) - (k : Int)).toNat = N := by omega
    have hfig : ∀ j, j < N → 48 ≤ bt z (k + j) ∧ bt z (k + j) ≤ 57 := fun j hj => inB_t (hat (k + j) (by omega) (by omega))
    have hesN : (z.extract k e).size = N := by rw [hes, hN]
    refine i_loop (α := {j : Nat // j ≤ N}) (fun j => ⟨mkEnv 86 [(0, .one (sV z)), (1, .one (iV k)), (4, .one (.ptr 0 0 0)), (7, .one (.ptr 1 0 0)), (8, .one (iV e)), (51, .one (.ref 2 0 N)), (52, .one (iV N)), (53, .one (iV j.1))], [.live 4 [[iV 0, sV ⟨#[]⟩, iV 0, iV 0]], .live 4 [[iV 2, sV ⟨#[]⟩, iV (numT z k j.1), iV k]], .live 1 (bytesT (z.extract k e))]⟩) (fun j => N - j.1) ⟨0, by omega⟩ ?_ ?_
    ·have h0 : numT z k 0 = 0 := rfl
     first | (refine wCn [0, 1, 4, 7, 8, 51, 52, 53] [0, 1, 2] ?_ ?_ ?_ <;> (simp (disch := omega) only [go_sem, h0, hesN, hN]; done))
    rintro ⟨j, hj⟩
    by_cases hjl : j < N
    ·have hb := bt_ext (z := z) (a := k) (e := e) (j := j) (by omega) e2
     have hfj := hfig j hjl
     have hw := u8_fig hfj.1 hfj.2
     have hnb := numT_bd6 (z := z) (a := k) (k := j) (by omega) (fun i hi => hfig i (by omega))
     have e3 : 10 * numT z k j + (bt z (k + j) - 48) = numT z k (j + 1) := rfl
     obtain ⟨n0, n1⟩ := hnb
     obtain ⟨f0, f1⟩ := hfj
     simp (disch := omega) only [go_sem]
     refine wksr ?_
     intros
     all_goals refine ⟨⟨j + 1, by omega⟩, ?_, by simp only; omega⟩
     all_goals first | (refine wCn [0, 1, 4, 7, 8, 51, 52, 53] [0, 1, 2] ?_ ?_ ?_ <;> (simp (disch := omega) only [go_sem, e3, hesN]; done))
    ·have ej : j = N := by omega
     subst ej
     simp (disch := omega) only [go_sem]
     exact wks
   ·rw [h4, if_pos rfl] at hsg
    rw [hsg]
    clear hsg
    refine cOh 40 (hBd Tryz.func93 rfl (by kernel_rfl) ?_)
    simp (disch := omega) only [go_sem, Tryz.ntmps93, Tryz.results93]
    exact wks
 ·rw [h1] at hl
  have hrun := run_ok 166 letterB letter_ok z k hz (by omega)
  obtain ⟨e1, e2⟩ := runF_le (p := letterB) (z := z) _ k rfl (by omega)
  obtain ⟨e, he⟩ : ∃ e, runF letterB z k = e := ⟨_, rfl⟩
  have hsg : signAt z k = if decide ((8 : Int) < (e : Int) - (k : Int)) = true then (⟨1, noB, 0, k⟩, k, false) else (⟨1, z.extract k e, 0, k⟩, e, true) := by unfold signAt; rw [h1, if_pos rfl, he]
  rw [he] at hrun e1 e2
  clear he
  cases h4 : decide ((8 : Int) < (e : Int) - (k : Int))
  ·rw [h4, if_neg (by simp)] at hsg
   rw [hsg]
   clear hsg
   refine cOh 40 (hBd Tryz.func93 rfl (by kernel_rfl) ?_)
   simp (disch := omega) only [go_sem, Tryz.ntmps93, Tryz.results93]
   exact wks
  ·rw [h4, if_pos rfl] at hsg
   rw [hsg]
   clear hsg
   refine cOh 40 (hBd Tryz.func93 rfl (by kernel_rfl) ?_)
   simp (disch := omega) only [go_sem, Tryz.ntmps93, Tryz.results93]
   exact wks
end Go.Proofs.YtejnpiielcbkkaaGreat.E
