/- A part of what stands under the laws of this seat: an abstract evaluator that is proved sound, and contracts of functions by it. No condition beside those that stand in each statement. -/
import Derived.Test.YtejnpiielcbkkaaGreatZU10
set_option linter.unusedVariables false
set_option linter.unusedSimpArgs false
set_option maxRecDepth 100000
set_option maxHeartbeats 4000000
namespace Go.Proofs.YtejnpiielcbkkaaGreat.E
theorem sProcess_ok (s : Rs) (h : RsOk s) (hp : potS s ≤ 1000000) : CallOk Tryz.prog 25 [.one (.box (rsT s))] (.s (.agg (processT (procS s).2))) [some (.box (rsT (procS s).1))] := by
 have k1 := kpS_name h
 have k2 := k1.trans (kpS_uses k1.1.1)
 have k3 := k2.trans (kpS_must (w := bSemi) k2.1.1)
 have k4 := k3.trans (kpS_list (w := k_var) k3.1.1)
 have k5 := k4.trans (blockVS_kp k4.1.1)
 have c0 := sName_ok s h
 have c1 := sMay_ok (nameS s).1 k_uses k1.1.1
 have c2 := fun (hi : isS (nameS s).1 k_uses = true) => sNames_ok _ (is_advS k1.1.1 hi).ok
 have c3 := sMust_ok _ bSemi k2.1.1
 have c4 := sListed_ok _ k_var k3.1.1
 have c5 := blockVS_does k4.1.1 (by have := k4.1.2.2.2; omega)
 have c6 := sMust_ok _ bSemi k5.1.1
 have l1 := (uses_smS k1.1.1).1
 have l2 := (list_smS (w := k_var) k3.1.1).1
 have hpo : procS s = (mustS (blockVS (listS k_var (mustS (usesS (nameS s).1).1 bSemi)).1).1 bSemi, ⟨(nameS s).2, (usesS (nameS s).1).2, (listS k_var (mustS (usesS (nameS s).1).1 bSemi)).2, (blockVS (listS k_var (mustS (usesS (nameS s).1).1 bSemi)).1).2⟩) := rfl
 rw [hpo]
 clear hpo k1 k2 k3 k4 k5
 obtain ⟨⟨A, nm⟩, hA⟩ : ∃ x, nameS s = x := ⟨_, rfl⟩
 rw [hA] at c0 c1 c2 c3 c4 c5 c6 l1 l2 ⊢
 dsimp only at c0 c1 c2 c3 c4 c5 c6 l1 l2 ⊢
 have hu : usesS A = if isS A k_uses = true then namesS (advS A) else (A, []) := rfl
 obtain ⟨⟨B, us⟩, hB⟩ : ∃ x, usesS A = x := ⟨_, rfl⟩
 rw [hB] at c3 c4 c5 c6 l1 l2 hu ⊢
 dsimp only at c3 c4 c5 c6 l1 l2 ⊢
 obtain ⟨C, hC⟩ : ∃ x, mustS B bSemi = x := ⟨_, rfl⟩
 rw [hC] at c3 c4 c5 c6 l2 ⊢
 obtain ⟨⟨D, vs⟩, hD⟩ : ∃ x, listS k_var C = x := ⟨_, rfl⟩
 rw [hD] at c4 c5 c6 l2 ⊢
 dsimp only at c4 c5 c6 l2 ⊢
 obtain ⟨⟨X, b⟩, hE⟩ : ∃ x, blockVS D = x := ⟨_, rfl⟩
 rw [hE] at c5 c6 ⊢
 dsimp only at c5 c6 ⊢
 obtain ⟨G, hG⟩ : ∃ x, mustS X bSemi = x := ⟨_, rfl⟩
 rw [hG] at c6 ⊢
 clear hA hB hC hD hE hG
 have s0 : strsT [] = [] := rfl
 refine cOh 40 (hcall_of_bodyS Tryz.func25 rfl (by kernel_rfl) ?_)
 simp (disch := omega) only [go_sem, Tryz.ntmps25, Tryz.results25]
 refine s_cut ⟨mkEnv 24 [(0, .one (.ptr 0 0 0)), (2, .one (.ptr 1 0 0))], [.live 4 [rsT s], .live 4 [[.v (.string ⟨⟨[]⟩⟩), .v (.slice none 0 0), .v (.slice none 0 0), iV 0]]]⟩ ?_ ?_
 ·clear c0 c1 c2 c3 c4 c5 c6
  repeat' (first | (with_reducible first | refine i_seq ?_) | ((first | (with_reducible first | refine iBk ?_ | refine iRQ (fun Q' hQ => ?_) | (refine Imp.go hQ ?_; clear hQ)) | ((with_reducible refine i_condT ?_ ?_); (focus (simp only [go_sem, *]; done))) | ((with_reducible refine i_condF ?_ ?_); (focus (simp only [go_sem, *]; done))) | ((with_reducible first | refine rOg (fun h => ?_) (fun h => ?_) | refine i_cond (by simp only [go_sem, *] <;> rfl) (fun h => ?_) (fun h => ?_)) <;> (try simp only [nqA, nqB, nqC, reduceCtorEq] at h) <;> (try have h' := odT h) <;> (try (have hz : (_ : Int) = (_ : Int) := h'; clear hz h')) <;> (try have h' := odF h) <;> (try have h' := inB_t h) <;> (try (exfalso; omega)))) <;> (try simp (disch := omega) only [go_sem, reduceCtorEq, *])))
  all_goals (try simp (disch := omega) only [EndK, go_sem, reduceCtorEq, nLo, *])
  all_goals
   first | exact wc [0, 2] [1]
 refine s_cut ⟨mkEnv 24 [(0, .one (.ptr 0 0 0)), (2, .one (.ptr 1 0 0)), (3, .one (.ptr 2 0 0))], [.live 4 [rsT A], .live 4 [[.v (.string ⟨⟨[]⟩⟩), .v (.slice none 0 0), .v (.slice none 0 0), iV 0]], .live 4 [[sV nm, .ref 3 0 0, .v (.slice none 0 0), iV 0]], .live 1 []]⟩ ?_ ?_
 ·clear c1 c2 c3 c4 c5 c6
  simp (disch := omega) only [go_sem]
  repeat' (first | (with_reducible first | refine i_seq ?_) | ((first | (with_reducible first | refine iBk ?_ | refine iRQ (fun Q' hQ => ?_) | (refine Imp.go hQ ?_; clear hQ)) | ((with_reducible refine i_condT ?_ ?_); (focus (simp only [go_sem, *]; done))) | ((with_reducible refine i_condF ?_ ?_); (focus (simp only [go_sem, *]; done))) | ((with_reducible first | refine rOg (fun h => ?_) (fun h => ?_) | refine i_cond (by simp only [go_sem, *] <;> rfl) (fun h => ?_) (fun h => ?_)) <;> (try simp only [nqA, nqB, nqC, reduceCtorEq] at h) <;> (try have h' := odT h) <;> (try (have hz : (_ : Int) = (_ : Int) := h'; clear hz h')) <;> (try have h' := odF h) <;> (try have h' := inB_t h) <;> (try (exfalso; omega))) | (((with_reducible refine hcO 40 false (c0) ?_ ?_ ?_ ?_ ?_); iterate 4 (focus (simp (disch := omega) only [go_sem, reduceCtorEq, nLo]; done))); simp only [go_sem, reduceCtorEq]; refine aLr ?_)) <;> (try simp (disch := omega) only [go_sem, reduceCtorEq, *])))
  all_goals (try simp (disch := omega) only [EndK, go_sem, reduceCtorEq, nLo, *])
  all_goals
   first | (refine wCn [0, 2, 3] [1, 3, 2] ?_ ?_ ?_ <;> (simp (disch := omega) only [go_sem, aNl]; done)) | exact wc [0, 2, 3] [1, 2, 3]
 refine s_cut ⟨mkEnv 24 [(0, .one (.ptr 0 0 0)), (2, .one (.ptr 1 0 0)), (3, .one (.ptr 2 0 0))], [.live 4 [rsT B], .live 4 [[.v (.string ⟨⟨[]⟩⟩), .v (.slice none 0 0), .v (.slice none 0 0), iV 0]], .live 4 [[sV nm, .ref 3 0 us.length, .v (.slice none 0 0), iV 0]], .live 1 (strsT us)]⟩ ?_ ?_
 ·clear c0 c3 c4 c5 c6
  cases q : isS A k_uses
  ·rw [mayS_no q, q] at c1
   rw [q, if_neg (by simp)] at hu
   obtain ⟨rfl, rfl⟩ := Prod.mk.inj hu
   clear c2
   simp (disch := omega) only [go_sem]
   repeat' (first | (with_reducible first | refine i_seq ?_) | ((first | (with_reducible first | refine iBk ?_ | refine iRQ (fun Q' hQ => ?_) | (refine Imp.go hQ ?_; clear hQ)) | ((with_reducible refine i_condT ?_ ?_); (focus (simp only [go_sem, *]; done))) | ((with_reducible refine i_condF ?_ ?_); (focus (simp only [go_sem, *]; done))) | ((with_reducible first | refine rOg (fun h => ?_) (fun h => ?_) | refine i_cond (by simp only [go_sem, *] <;> rfl) (fun h => ?_) (fun h => ?_)) <;> (try simp only [nqA, nqB, nqC, reduceCtorEq] at h) <;> (try have h' := odT h) <;> (try (have hz : (_ : Int) = (_ : Int) := h'; clear hz h')) <;> (try have h' := odF h) <;> (try have h' := inB_t h) <;> (try (exfalso; omega))) | (((with_reducible refine hcO 40 false (c1) ?_ ?_ ?_ ?_ ?_); iterate 4 (focus (simp (disch := omega) only [go_sem, reduceCtorEq, nLo]; done))); simp only [go_sem, reduceCtorEq]; refine aLr ?_)) <;> (try simp (disch := omega) only [go_sem, reduceCtorEq, *])))
   all_goals (try simp (disch := omega) only [EndK, go_sem, reduceCtorEq, nLo, *])
   all_goals
    first | (refine wCn [0, 2, 3] [1, 2, 3] ?_ ?_ ?_ <;> (simp (disch := omega) only [go_sem, s0, List.length_nil]; done))
  ·rw [mayS_yes q, q] at c1
   rw [q, if_pos rfl] at hu
   replace c2 := c2 q
   rw [← hu] at c2
   have hadv : advS A = ⟨A.list, A.cur + 1, A.bad, A.nodes⟩ := rfl
   rw [hadv] at c1 c2
   clear hu hadv
   simp (disch := omega) only [go_sem]
   repeat' (first | (with_reducible first | refine i_seq ?_) | ((first | (with_reducible first | refine iBk ?_ | refine iRQ (fun Q' hQ => ?_) | (refine Imp.go hQ ?_; clear hQ)) | ((with_reducible refine i_condT ?_ ?_); (focus (simp only [go_sem, *]; done))) | ((with_reducible refine i_condF ?_ ?_); (focus (simp only [go_sem, *]; done))) | ((with_reducible first | refine rOg (fun h => ?_) (fun h => ?_) | refine i_cond (by simp only [go_sem, *] <;> rfl) (fun h => ?_) (fun h => ?_)) <;> (try simp only [nqA, nqB, nqC, reduceCtorEq] at h) <;> (try have h' := odT h) <;> (try (have hz : (_ : Int) = (_ : Int) := h'; clear hz h')) <;> (try have h' := odF h) <;> (try have h' := inB_t h) <;> (try (exfalso; omega))) | ((first | ((with_reducible refine hcO 40 false (c1) ?_ ?_ ?_ ?_ ?_); iterate 4 (focus (simp (disch := omega) only [go_sem, reduceCtorEq, nLo]; done))) | ((with_reducible refine hcO 40 false (c2) ?_ ?_ ?_ ?_ ?_); iterate 4 (focus (simp (disch := omega) only [go_sem, reduceCtorEq, nLo]; done)))); simp only [go_sem, reduceCtorEq]; refine aLr ?_)) <;> (try simp (disch := omega) only [go_sem, reduceCtorEq, *])))
   all_goals (try simp (disch := omega) only [EndK, go_sem, reduceCtorEq, nLo, *])
   all_goals
    first | exact wc [0, 2, 3] [1, 2, 4]
 clear c0 c1 c2 hu
 simp (disch := omega) only [go_sem]
 repeat' (first | (with_reducible first | refine i_seq ?_ | refine s_seqU ?_ | refine s_seqC ?_ | refine s_retS ?_) | ((first | (with_reducible first | refine iBk ?_ | refine iRQ (fun Q' hQ => ?_) | (refine Imp.go hQ ?_; clear hQ)) | ((with_reducible refine i_condT ?_ ?_); (focus (simp only [go_sem, *]; done))) | ((with_reducible refine i_condF ?_ ?_); (focus (simp only [go_sem, *]; done))) | ((with_reducible first | refine rOg (fun h => ?_) (fun h => ?_) | refine i_cond (by simp only [go_sem, *] <;> rfl) (fun h => ?_) (fun h => ?_)) <;> (try simp only [nqA, nqB, nqC, reduceCtorEq] at h) <;> (try have h' := odT h) <;> (try (have hz : (_ : Int) = (_ : Int) := h'; clear hz h')) <;> (try have h' := odF h) <;> (try have h' := inB_t h) <;> (try (exfalso; omega))) | ((first | ((with_reducible refine hcO 40 false (c3) ?_ ?_ ?_ ?_ ?_); iterate 4 (focus (simp (disch := omega) only [go_sem, aNl, reduceCtorEq, nLo]; done))) | ((with_reducible refine hcO 40 false (c4) ?_ ?_ ?_ ?_ ?_); iterate 4 (focus (simp (disch := omega) only [go_sem, aNl, reduceCtorEq, nLo]; done))) | ((with_reducible refine hcO 40 false (c5) ?_ ?_ ?_ ?_ ?_); iterate 4 (focus (simp (disch := omega) only [go_sem, aNl, reduceCtorEq, nLo]; done))) | ((with_reducible refine hcO 40 false (c6) ?_ ?_ ?_ ?_ ?_); iterate 4 (focus (simp (disch := omega) only [go_sem, aNl, reduceCtorEq, nLo]; done)))); simp only [go_sem, aNl, reduceCtorEq]; refine aLr ?_)) <;> (try simp (disch := omega) only [go_sem, aNl, reduceCtorEq, *])))
 all_goals (try simp (disch := omega) only [EndK, go_sem, aNl, reduceCtorEq, nLo, *])
end Go.Proofs.YtejnpiielcbkkaaGreat.E
