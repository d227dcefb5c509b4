/- A part of what stands under the laws of this seat: an abstract evaluator that is proved sound, and contracts of functions by it. No condition beside those that stand in each statement. -/
import Derived.Test.YtejnpiielcbkkaaGreatZU10
import Derived.Test.YtejnpiielcbkkaaGreatZR27
set_option linter.unusedVariables false
set_option linter.unusedSimpArgs false
section
set_option maxRecDepth 100000
set_option maxHeartbeats 4000000
namespace Go.Proofs.YtejnpiielcbkkaaGreat.E
theorem sMonitor_ok (s : Rs) (h : RsOk s) (hp : potS s ≤ 1000000) : CallOk Tryz.prog 24 [.one (.box (rsT s))] (.s (.agg (monitorT (monS s).2))) [some (.box (rsT (monS s).1))] := by
 have k1 := kpS_name h
 have k2 := k1.trans (kpS_must (w := bSemi) k1.1.1)
 have k3 := k2.trans (kpS_list (w := k_var) k2.1.1)
 have k4 := k3.trans (kpS_list (w := k_queue) k3.1.1)
 have k5 := k4.trans (kpS_entF (s.list.length + 1) _ [] k4.1.1 (fun y hy => absurd hy (by simp))).1
 have k6 := k5.trans (kpS_must (w := bEnd) k5.1.1)
 have c0 := sName_ok s h
 have c1 := sMust_ok _ bSemi k1.1.1
 have c2 := sListed_ok _ k_var k2.1.1
 have c3 := sListed_ok _ k_queue k3.1.1
 have c4 := sMust_ok _ bEnd k5.1.1
 have c5 := sMust_ok _ bSemi k6.1.1
 have l1 := (list_smS (w := k_var) k2.1.1).1
 have l2 := (list_smS (w := k_queue) k3.1.1).1
 have k4p := k4.1.2.2.2
 have k4l := k4.1.2.1
 have k4 := k4.1.1
 have hl5 := h.len
 have hpo : monS s = monEndS (nameS s).2 (listS k_var (mustS (nameS s).1 bSemi)).2 (listS k_queue (listS k_var (mustS (nameS s).1 bSemi)).1).2 (entFS (s.list.length + 1) (listS k_queue (listS k_var (mustS (nameS s).1 bSemi)).1).1 []) := rfl
 rw [hpo]
 clear hpo k1 k2 k3 k5 k6
 obtain ⟨⟨A, nm⟩, hA⟩ : ∃ x, nameS s = x := ⟨_, rfl⟩
 rw [hA] at c0 c1 c2 c3 c4 c5 l1 l2 k4p k4l k4 ⊢
 dsimp only at c0 c1 c2 c3 c4 c5 l1 l2 k4p k4l k4 ⊢
 obtain ⟨B, hB⟩ : ∃ x, mustS A bSemi = x := ⟨_, rfl⟩
 rw [hB] at c1 c2 c3 c4 c5 l1 l2 k4p k4l k4 ⊢
 obtain ⟨⟨C, vs⟩, hC⟩ : ∃ x, listS k_var B = x := ⟨_, rfl⟩
 rw [hC] at c2 c3 c4 c5 l1 l2 k4p k4l k4 ⊢
 dsimp only at c2 c3 c4 c5 l1 l2 k4p k4l k4 ⊢
 obtain ⟨⟨D, qs⟩, hD⟩ : ∃ x, listS k_queue C = x := ⟨_, rfl⟩
 rw [hD] at c3 c4 c5 l2 k4p k4l k4 ⊢
 dsimp only at c3 c4 c5 l2 k4p k4l k4 ⊢
 have k4q : D.list.length ≤ s.list.length := by rw [k4l]; exact Nat.le_refl _
 clear k4l
 obtain ⟨⟨RR, RE⟩, hRES⟩ : ∃ x, entFS (s.list.length + 1) D [] = x := ⟨_, rfl⟩
 rw [hRES] at c4 c5 ⊢
 have hme : monEndS nm vs qs (RR, RE) = (mustS (mustS RR bEnd) bSemi, ⟨nm, vs, qs, RE⟩) := rfl
 rw [hme]
 clear hme
 dsimp only at c4 c5 ⊢
 obtain ⟨Y, hY⟩ : ∃ x, mustS RR bEnd = x := ⟨_, rfl⟩
 rw [hY] at c4 c5 ⊢
 obtain ⟨Z, hZ⟩ : ∃ x, mustS Y bSemi = x := ⟨_, rfl⟩
 rw [hZ] at c5 ⊢
 clear hA hB hC hD hY hZ
 have s0 : strsT [] = [] := rfl
 have t0 : entrysT [] = [] := rfl
 have lre : RE.length ≤ 600 := by
  have := (kpS_entF (s.list.length + 1) D [] k4 (fun y hy => absurd hy (by simp))).2.1
  rw [hRES] at this
  simp only [List.length_nil] at this
  omega
 refine cOh 40 (hcall_of_bodyS Tryz.func24 rfl (by kernel_rfl) ?_)
 simp (disch := omega) only [go_sem, Tryz.ntmps24, Tryz.results24]
 refine s_cut ⟨mkEnv 44 [(0, .one (.ptr 0 0 0)), (2, .one (.ptr 1 0 0))], [.live 4 [rsT s], .live 4 [[.v (.string ⟨⟨[]⟩⟩), .v (.slice none 0 0), .v (.slice none 0 0), .v (.slice none 0 0)]]]⟩ ?_ ?_
 ·clear c0 c1 c2 c3 c4 c5 hRES
  repeat' (first | (with_reducible first | refine i_seq ?_) | ((first | (with_reducible first | refine iBk ?_ | refine iRQ (fun Q' hQ => ?_) | (refine Imp.go hQ ?_; clear hQ)) | ((with_reducible refine i_condT ?_ ?_); (focus (simp only [go_sem, *]; done))) | ((with_reducible refine i_condF ?_ ?_); (focus (simp only [go_sem, *]; done))) | ((with_reducible first | refine rOg (fun h => ?_) (fun h => ?_) | refine i_cond (by simp only [go_sem, *] <;> rfl) (fun h => ?_) (fun h => ?_)) <;> (try simp only [nqA, nqB, nqC, reduceCtorEq] at h) <;> (try have h' := odT h) <;> (try (have hz : (_ : Int) = (_ : Int) := h'; clear hz h')) <;> (try have h' := odF h) <;> (try have h' := inB_t h) <;> (try (exfalso; omega)))) <;> (try simp (disch := omega) only [go_sem, reduceCtorEq, *])))
  all_goals (try simp (disch := omega) only [EndK, go_sem, reduceCtorEq, nLo, *])
  all_goals
   first | exact wc [0, 2] [1]
 refine s_cut ⟨mkEnv 44 [(0, .one (.ptr 0 0 0)), (2, .one (.ptr 1 0 0)), (3, .one (.ptr 2 0 0))], [.live 4 [rsT A], .live 4 [[.v (.string ⟨⟨[]⟩⟩), .v (.slice none 0 0), .v (.slice none 0 0), .v (.slice none 0 0)]], .live 4 [[sV nm, .ref 3 0 0, .ref 4 0 0, .ref 5 0 0]], .live 1 [], .live 1 [], .live 3 []]⟩ ?_ ?_
 ·clear c1 c2 c3 c4 c5 hRES
  simp (disch := omega) only [go_sem]
  repeat' (first | (with_reducible first | refine i_seq ?_) | ((first | (with_reducible first | refine iBk ?_ | refine iRQ (fun Q' hQ => ?_) | (refine Imp.go hQ ?_; clear hQ)) | ((with_reducible refine i_condT ?_ ?_); (focus (simp only [go_sem, *]; done))) | ((with_reducible refine i_condF ?_ ?_); (focus (simp only [go_sem, *]; done))) | ((with_reducible first | refine rOg (fun h => ?_) (fun h => ?_) | refine i_cond (by simp only [go_sem, *] <;> rfl) (fun h => ?_) (fun h => ?_)) <;> (try simp only [nqA, nqB, nqC, reduceCtorEq] at h) <;> (try have h' := odT h) <;> (try (have hz : (_ : Int) = (_ : Int) := h'; clear hz h')) <;> (try have h' := odF h) <;> (try have h' := inB_t h) <;> (try (exfalso; omega))) | (((with_reducible refine hcO 40 false (c0) ?_ ?_ ?_ ?_ ?_); iterate 4 (focus (simp (disch := omega) only [go_sem, reduceCtorEq, nLo]; done))); simp only [go_sem, reduceCtorEq]; refine aLr ?_)) <;> (try simp (disch := omega) only [go_sem, reduceCtorEq, *])))
  all_goals (try simp (disch := omega) only [EndK, go_sem, reduceCtorEq, nLo, *])
  all_goals
   refine weak_names (names_nil 2 4 [sV nm, .v (.slice none 0 0), .v (.slice none 0 0), .v (.slice none 0 0)] [sV nm, .own 1 [], .own 1 [], .own 3 []] rfl (by with_reducible rfl) (by simp [go_sem, isNil]) (by simp [go_sem])) ?_
   simp (disch := omega) only [go_sem]
   first | exact wc [0, 2, 3] [1, 2, 3, 4, 5]
 refine s_cut ⟨mkEnv 44 [(0, .one (.ptr 0 0 0)), (2, .one (.ptr 1 0 0)), (3, .one (.ptr 2 0 0))], [.live 4 [rsT B], .live 4 [[.v (.string ⟨⟨[]⟩⟩), .v (.slice none 0 0), .v (.slice none 0 0), .v (.slice none 0 0)]], .live 4 [[sV nm, .ref 3 0 0, .ref 4 0 0, .ref 5 0 0]], .live 1 [], .live 1 [], .live 3 []]⟩ ?_ ?_
 ·clear c0 c2 c3 c4 c5 hRES
  simp (disch := omega) only [go_sem]
  repeat' (first | (with_reducible first | refine i_seq ?_) | ((first | (with_reducible first | refine iBk ?_ | refine iRQ (fun Q' hQ => ?_) | (refine Imp.go hQ ?_; clear hQ)) | ((with_reducible refine i_condT ?_ ?_); (focus (simp only [go_sem, *]; done))) | ((with_reducible refine i_condF ?_ ?_); (focus (simp only [go_sem, *]; done))) | ((with_reducible first | refine rOg (fun h => ?_) (fun h => ?_) | refine i_cond (by simp only [go_sem, *] <;> rfl) (fun h => ?_) (fun h => ?_)) <;> (try simp only [nqA, nqB, nqC, reduceCtorEq] at h) <;> (try have h' := odT h) <;> (try (have hz : (_ : Int) = (_ : Int) := h'; clear hz h')) <;> (try have h' := odF h) <;> (try have h' := inB_t h) <;> (try (exfalso; omega))) | (((with_reducible refine hcO 40 false (c1) ?_ ?_ ?_ ?_ ?_); iterate 4 (focus (simp (disch := omega) only [go_sem, reduceCtorEq, nLo]; done))); simp only [go_sem, reduceCtorEq]; refine aLr ?_)) <;> (try simp (disch := omega) only [go_sem, reduceCtorEq, *])))
  all_goals (try simp (disch := omega) only [EndK, go_sem, reduceCtorEq, nLo, *])
  all_goals
   first | exact wc [0, 2, 3] [1, 2, 3, 4, 5]
 refine s_cut ⟨mkEnv 44 [(0, .one (.ptr 0 0 0)), (2, .one (.ptr 1 0 0)), (3, .one (.ptr 2 0 0))], [.live 4 [rsT C], .live 4 [[.v (.string ⟨⟨[]⟩⟩), .v (.slice none 0 0), .v (.slice none 0 0), .v (.slice none 0 0)]], .live 4 [[sV nm, .ref 3 0 vs.length, .ref 4 0 0, .ref 5 0 0]], .live 1 (strsT vs), .live 1 [], .live 3 []]⟩ ?_ ?_
 ·clear c0 c1 c3 c4 c5 hRES
  simp (disch := omega) only [go_sem]
  repeat' (first | (with_reducible first | refine i_seq ?_) | ((first | (with_reducible first | refine iBk ?_ | refine iRQ (fun Q' hQ => ?_) | (refine Imp.go hQ ?_; clear hQ)) | ((with_reducible refine i_condT ?_ ?_); (focus (simp only [go_sem, *]; done))) | ((with_reducible refine i_condF ?_ ?_); (focus (simp only [go_sem, *]; done))) | ((with_reducible first | refine rOg (fun h => ?_) (fun h => ?_) | refine i_cond (by simp only [go_sem, *] <;> rfl) (fun h => ?_) (fun h => ?_)) <;> (try simp only [nqA, nqB, nqC, reduceCtorEq] at h) <;> (try have h' := odT h) <;> (try (have hz : (_ : Int) = (_ : Int) := h'; clear hz h')) <;> (try have h' := odF h) <;> (try have h' := inB_t h) <;> (try (exfalso; omega))) | (((with_reducible refine hcO 40 false (c2) ?_ ?_ ?_ ?_ ?_); iterate 4 (focus (simp (disch := omega) only [go_sem, reduceCtorEq, nLo]; done))); simp only [go_sem, reduceCtorEq]; refine aLr ?_)) <;> (try simp (disch := omega) only [go_sem, reduceCtorEq, *])))
  all_goals (try simp (disch := omega) only [EndK, go_sem, reduceCtorEq, nLo, *])
  all_goals
   first | exact wc [0, 2, 3] [1, 2, 6, 4, 5]
 refine s_cut ⟨mkEnv 44 [(0, .one (.ptr 0 0 0)), (2, .one (.ptr 1 0 0)), (3, .one (.ptr 2 0 0))], [.live 4 [rsT D], .live 4 [[.v (.string ⟨⟨[]⟩⟩), .v (.slice none 0 0), .v (.slice none 0 0), .v (.slice none 0 0)]], .live 4 [[sV nm, .ref 3 0 vs.length, .ref 4 0 qs.length, .ref 5 0 0]], .live 1 (strsT vs), .live 1 (strsT qs), .live 3 []]⟩ ?_ ?_
 ·clear c0 c1 c2 c4 c5 hRES
  simp (disch := omega) only [go_sem]
  repeat' (first | (with_reducible first | refine i_seq ?_) | ((first | (with_reducible first | refine iBk ?_ | refine iRQ (fun Q' hQ => ?_) | (refine Imp.go hQ ?_; clear hQ)) | ((with_reducible refine i_condT ?_ ?_); (focus (simp only [go_sem, *]; done))) | ((with_reducible refine i_condF ?_ ?_); (focus (simp only [go_sem, *]; done))) | ((with_reducible first | refine rOg (fun h => ?_) (fun h => ?_) | refine i_cond (by simp only [go_sem, *] <;> rfl) (fun h => ?_) (fun h => ?_)) <;> (try simp only [nqA, nqB, nqC, reduceCtorEq] at h) <;> (try have h' := odT h) <;> (try (have hz : (_ : Int) = (_ : Int) := h'; clear hz h')) <;> (try have h' := odF h) <;> (try have h' := inB_t h) <;> (try (exfalso; omega))) | (((with_reducible refine hcO 40 false (c3) ?_ ?_ ?_ ?_ ?_); iterate 4 (focus (simp (disch := omega) only [go_sem, reduceCtorEq, nLo]; done))); simp only [go_sem, reduceCtorEq]; refine aLr ?_)) <;> (try simp (disch := omega) only [go_sem, reduceCtorEq, *])))
  all_goals (try simp (disch := omega) only [EndK, go_sem, reduceCtorEq, nLo, *])
  all_goals
   first | exact wc [0, 2, 3] [1, 2, 3, 6, 5]
 clear c0 c1 c2 c3
 refine s_cut ⟨mkEnv 44 [(0, .one (.ptr 0 0 0)), (2, .one (.ptr 1 0 0)), (3, .one (.ptr 2 0 0))], [.live 4 [rsT RR], .live 4 [[.v (.string ⟨⟨[]⟩⟩), .v (.slice none 0 0), .v (.slice none 0 0), .v (.slice none 0 0)]], .live 4 [[sV nm, .ref 3 0 vs.length, .ref 4 0 qs.length, .ref 5 0 RE.length]], .live 1 (strsT vs), .live 1 (strsT qs), .live 3 (entrysT RE)]⟩ ?_ ?_
 ·clear c4 c5
  simp (disch := omega) only [go_sem]
  refine wkc ?_
  refine i_loop (α := {x : Nat × Rs × List Entry // RsOk x.2.1 ∧ potS x.2.1 ≤ 1000000 ∧ x.2.1.list.length - x.2.1.cur < x.1 ∧ x.2.2.length + x.1 ≤ 600 ∧ entFS x.1 x.2.1 x.2.2 = (RR, RE)}) (fun x => ⟨mkEnv 44 [(0, .one (.ptr 0 0 0)), (2, .one (.ptr 1 0 0)), (3, .one (.ptr 2 0 0))], [.live 4 [rsT x.1.2.1], .live 4 [[.v (.string ⟨⟨[]⟩⟩), .v (.slice none 0 0), .v (.slice none 0 0), .v (.slice none 0 0)]], .live 4 [[sV nm, .ref 3 0 vs.length, .ref 4 0 qs.length, .ref 5 0 x.1.2.2.length]], .live 1 (strsT vs), .live 1 (strsT qs), .live 3 (entrysT x.1.2.2)]⟩) (fun x => x.1.1) ⟨(s.list.length + 1, D, []), k4, by dsimp only; omega, by dsimp only; omega, by simp only [List.length_nil]; omega, hRES⟩ ?_ ?_
  ·first | (refine wCn [0, 2, 3] [1, 2, 3, 4, 5] ?_ ?_ ?_ <;> (simp (disch := omega) only [go_sem, t0, List.length_nil]; done))
  rintro ⟨⟨m, X, es⟩, g1, g2, g3, g4, he⟩
  dsimp only at g1 g2 g3 g4 he ⊢
  clear hRES h hp k4 k4p k4q hl5 lre
  obtain ⟨m, rfl⟩ : ∃ m', m = m' + 1 := ⟨m - 1, by omega⟩
  have e0 := sMay_ok X k_entry g1
  cases q : isS X k_entry
  ·rw [mayS_no q, q] at e0
   unfold entFS at he
   rw [q, if_neg (by simp)] at he
   obtain ⟨rfl, rfl⟩ := Prod.mk.inj he
   simp (disch := omega) only [go_sem]
   repeat' (first | (with_reducible first | refine i_seq ?_) | ((first | (with_reducible first | refine iBk ?_ | refine iRQ (fun Q' hQ => ?_) | (refine Imp.go hQ ?_; clear hQ)) | ((with_reducible refine i_condT ?_ ?_); (focus (simp only [go_sem, *]; done))) | ((with_reducible refine i_condF ?_ ?_); (focus (simp only [go_sem, *]; done))) | ((with_reducible first | refine rOg (fun h => ?_) (fun h => ?_) | refine i_cond (by simp only [go_sem, *] <;> rfl) (fun h => ?_) (fun h => ?_)) <;> (try simp only [nqA, nqB, nqC, reduceCtorEq] at h) <;> (try have h' := odT h) <;> (try (have hz : (_ : Int) = (_ : Int) := h'; clear hz h')) <;> (try have h' := odF h) <;> (try have h' := inB_t h) <;> (try (exfalso; omega))) | (((with_reducible refine hcO 40 false (e0) ?_ ?_ ?_ ?_ ?_); iterate 4 (focus (simp (disch := omega) only [go_sem, reduceCtorEq, nLo]; done))); simp only [go_sem, reduceCtorEq]; refine aLr ?_)) <;> (try simp (disch := omega) only [go_sem, reduceCtorEq, *])))
   all_goals (try simp (disch := omega) only [EndK, go_sem, reduceCtorEq, nLo, *])
   all_goals
    first | exact wc [0, 2, 3] [1, 2, 3, 4, 5]
  ·rw [mayS_yes q, q] at e0
   unfold entFS at he
   rw [q, if_pos rfl] at he
   have a := is_advS g1 q
   have kk := (kpS_ent a.ok).1
   have k1 := kpS_name a.ok
   have k2 := k1.trans (kpS_must (w := bOpen) k1.1.1)
   have k3 := k2.trans (kpS_name k2.1.1)
   have k4 := k3.trans (kpS_must (w := bShut) k3.1.1)
   have k5 := k4.trans (blockVS_kp k4.1.1)
   have e1 := sName_ok _ a.ok
   have e2 := sMust_ok _ bOpen k1.1.1
   have e3 := sName_ok _ k2.1.1
   have e4 := sMust_ok _ bShut k3.1.1
   have e5 := blockVS_does k4.1.1 (by have := k4.1.2.2.2; have := a.pot; omega)
   have e6 := sMust_ok _ bSemi k5.1.1
   have heo : entS (advS X) = (mustS (blockVS (mustS (nameS (mustS (nameS (advS X)).1 bOpen)).1 bShut)).1 bSemi, ⟨(nameS (advS X)).2, (nameS (mustS (nameS (advS X)).1 bOpen)).2, (blockVS (mustS (nameS (mustS (nameS (advS X)).1 bOpen)).1 bShut)).2⟩) := rfl
   rw [heo] at he kk
   have ap := a.pot
   have hxc := isS_in q
   clear heo k1 k2 k3 k4 k5 a
   have hadv : advS X = ⟨X.list, X.cur + 1, X.bad, X.nodes⟩ := rfl
   have hac : (advS X).cur = X.cur + 1 := rfl
   have hal : (advS X).list = X.list := rfl
   obtain ⟨⟨Y1, a⟩, hY1⟩ : ∃ x, nameS (advS X) = x := ⟨_, rfl⟩
   rw [hY1] at e1 e2 e3 e4 e5 e6 he kk
   dsimp only at e1 e2 e3 e4 e5 e6 he kk
   obtain ⟨Y2, hY2⟩ : ∃ x, mustS Y1 bOpen = x := ⟨_, rfl⟩
   rw [hY2] at e2 e3 e4 e5 e6 he kk
   obtain ⟨⟨Y3, c⟩, hY3⟩ : ∃ x, nameS Y2 = x := ⟨_, rfl⟩
   rw [hY3] at e3 e4 e5 e6 he kk
   dsimp only at e3 e4 e5 e6 he kk
   obtain ⟨Y4, hY4⟩ : ∃ x, mustS Y3 bShut = x := ⟨_, rfl⟩
   rw [hY4] at e4 e5 e6 he kk
   obtain ⟨⟨Y5, b⟩, hY5⟩ : ∃ x, blockVS Y4 = x := ⟨_, rfl⟩
   rw [hY5] at e5 e6 he kk
   dsimp only at e5 e6 he kk
   obtain ⟨W, hY⟩ : ∃ x, mustS Y5 bSemi = x := ⟨_, rfl⟩
   rw [hY] at e6 he kk
   obtain ⟨⟨kk1, kk2, kk3, kk4⟩, -⟩ := kk
   rw [hal] at kk2
   have kk5 : W.list.length ≤ X.list.length := by rw [kk2]; exact Nat.le_refl _
   rw [hac] at kk3
   rw [hadv] at e0 e1
   clear kk2 hadv hal hac hY1 hY2 hY3 hY4 hY5 hY
   simp (disch := omega) only [go_sem]
   have x1 : HB 0 _ := ⟨e0⟩
   have x2 : HB 0 _ := ⟨e1⟩
   have x3 : HB 0 _ := ⟨e2⟩
   have x4 : HB 1 _ := ⟨e3⟩
   have x5 : HB 1 _ := ⟨e4⟩
   have x6 : HB 0 _ := ⟨e5⟩
   have x7 : HB 2 _ := ⟨e6⟩
   refine wkzr ?_
   intros
   all_goals refine ⟨⟨(m, W, es ++ [⟨a, c, b⟩]), kk1, by dsimp only; omega, by dsimp only; omega, by simp only [List.length_append, List.length_singleton]; omega, he⟩, ?_, by simp only; omega⟩
   all_goals
    first | (refine wCn [0, 2, 3] [1, 2, 3, 4, 8] ?_ ?_ ?_ <;> (simp (disch := omega) only [go_sem, entrysT_one, List.length_append, List.length_singleton]; done))
 simp (disch := omega) only [go_sem]
 repeat' (first | (with_reducible first | refine i_seq ?_ | refine s_seqU ?_ | refine s_seqC ?_ | refine s_retS ?_) | ((first | (with_reducible first | refine iBk ?_ | refine iRQ (fun Q' hQ => ?_) | (refine Imp.go hQ ?_; clear hQ)) | ((with_reducible refine i_condT ?_ ?_); (focus (simp only [go_sem, *]; done))) | ((with_reducible refine i_condF ?_ ?_); (focus (simp only [go_sem, *]; done))) | ((with_reducible first | refine rOg (fun h => ?_) (fun h => ?_) | refine i_cond (by simp only [go_sem, *] <;> rfl) (fun h => ?_) (fun h => ?_)) <;> (try simp only [nqA, nqB, nqC, reduceCtorEq] at h) <;> (try have h' := odT h) <;> (try (have hz : (_ : Int) = (_ : Int) := h'; clear hz h')) <;> (try have h' := odF h) <;> (try have h' := inB_t h) <;> (try (exfalso; omega))) | ((first | ((with_reducible refine hcO 40 false (c4) ?_ ?_ ?_ ?_ ?_); iterate 4 (focus (simp (disch := omega) only [go_sem, aNl, reduceCtorEq, nLo]; done))) | ((with_reducible refine hcO 40 false (c5) ?_ ?_ ?_ ?_ ?_); iterate 4 (focus (simp (disch := omega) only [go_sem, aNl, reduceCtorEq, nLo]; done)))); simp only [go_sem, aNl, reduceCtorEq]; refine aLr ?_)) <;> (try simp (disch := omega) only [go_sem, aNl, reduceCtorEq, *])))
 all_goals (try simp (disch := omega) only [EndK, go_sem, aNl, reduceCtorEq, nLo, *])
end Go.Proofs.YtejnpiielcbkkaaGreat.E
end
section
set_option maxRecDepth 100000
set_option maxHeartbeats 4000000
namespace Go.Proofs.YtejnpiielcbkkaaGreat.E
/-! A named list that is written no more is from here on one that is read alone. -/
theorem relT_toD {R : Nat → Prop} {w : World} {M : List Loc} : ∀ (d : D) (u : Value) (F : FP), relT R w M (ofD d) u F → relD R w d u ∧ F = fz
 | .v x, u, F, h => by
  obtain ⟨h1, h2, h3⟩ := h
  exact ⟨⟨h1, h2⟩, h3⟩
 | .l sz rows, u, F, h => h
theorem relTRow_toD {R : Nat → Prop} {w : World} {M : List Loc} {c : Array Value} : ∀ (ds : List D) (o : Nat) (F : FP), relTRow R w M c (ds.map ofD) o F → relDRow R w c ds o
 | [], o, F, h => trivial
 | d :: ds, o, F, h => by
  obtain ⟨u, F1, F2, h1, h2, h3, -⟩ := h
  exact ⟨⟨u, h1, (relT_toD d u F1 h2).1⟩, relTRow_toD ds (o + 1) F2 h3⟩
theorem relTRows_toD {R : Nat → Prop} {w : World} {M : List Loc} {c : Array Value} {sz : Nat} : ∀ (rs : List (List D)) (o : Nat) (F : FP), relTRows R w M c sz (rs.map (·.map ofD)) o F → relDRows R w c sz rs o
 | [], o, F, h => trivial
 | r :: rs, o, F, h => by
  obtain ⟨F1, F2, h1, h2, h3, -⟩ := h
  exact ⟨by simpa using h1, relTRow_toD r o F1 h2, relTRows_toD rs (o + sz) F2 h3⟩
theorem weak_freeze {k : Nat} {env : List AV} {H : List AObj} {s' : St} (i l sz : Nat) (rows : List (List D)) (hi : env[i]? = some (.s (.one (.ref l 0 rows.length)))) (hl : H[l]? = some (.live sz (rows.map (·.map ofD))))
  (h : Weak k ⟨env.set i (.s (.one (.ro sz rows))), H.set l .dead⟩ s') : Weak k ⟨env, H⟩ s' := by
 intro X a w hk hs
 obtain ⟨hd, R, M, F, hpre, henv, hH, hg, hfr⟩ := hs
 obtain ⟨L, F1, F2, hL, rfl, hobj, hput⟩ := relHeap_get hH hl
 have hkill := hput R w M .dead fz (fun _ h => h) (List.prefix_refl _) (fun _ _ => rfl) rfl
 rw [z_fa] at hkill
 have hR2 : ∀ b, R b → (R b ∨ 1 ≤ F1 b) := fun b hb => .inl hb
 have hg2 : Good (fun b => R b ∨ 1 ≤ F1 b) w F2 := by
  refine ⟨fun b => by have := hg.one b; simp only [fa] at this; omega, fun b hb => ?_, fun b hb => ?_, hg.inv.mono (fun b hb => .inl hb) (Nat.le_refl _) fun _ _ => rfl⟩
  ·have h1 := hg.own b (by simp only [fa]; omega)
   refine ⟨fun hx => ?_, h1.2⟩
   rcases hx with hx | hx
   ·exact h1.1 hx
   ·have := hg.one b; simp only [fa] at this; omega
  ·rcases hb with hb | hb
   ·exact hg.ro b hb
   ·exact (hg.own b (by simp only [fa]; omega)).2
 have hfr2 : Fr X.R0 X.w0 X.F0 (fun b => R b ∨ 1 ≤ F1 b) w F2 :=
  ⟨hfr.os, hfr.tape, hfr.output, hfr.size, hfr.same, fun b hb => .inl (hfr.sub b hb), fun b hb => hfr.own b (by simp only [fa]; omega), fun b hb => by
   rcases hb with hb | hb
   ·exact hfr.ro b hb
   ·rcases hfr.own b (by simp only [fa]; omega) with h1 | h1
    ·exact .inr (.inl h1)
    ·exact .inr (.inr h1), hfr.shape⟩
 have hH2 := relHeap_mono (R' := fun b => R b ∨ 1 ≤ F1 b) (w' := w) hR2 (List.prefix_refl M) (fun _ _ => rfl) hkill
 have henv2 := relEnv_mono (R' := fun b => R b ∨ 1 ≤ F1 b) (w' := w) hR2 (List.prefix_refl M) (fun _ _ => rfl) henv
 refine h X a w hk ⟨hd, _, M, F2, hpre, ⟨by rw [List.length_set]; exact henv2.1, fun j av hj => ?_⟩, hH2, hg2, hfr2⟩
 by_cases hji : i = j
 ·subst hji
  have hlt : i < env.length := (List.getElem?_eq_some_iff.1 hi).1
  rw [List.getElem?_set_self hlt] at hj
  simp only [Option.some.injEq] at hj
  subst hj
  have hu := henv.2 i _ hi
  obtain ⟨-, L', ad, cap, hL', hue, hcap, hroom, hadr⟩ := hu
  rw [hL] at hL'
  simp only [Option.some.injEq] at hL'
  subst hL'
  obtain ⟨hsz, hobj⟩ := hobj
  refine ⟨⟨ad, cap, hue, hcap, ?_⟩, rfl⟩
  rcases hobj with ⟨h1, h2, h3⟩ | ⟨c, F', hB, hrm, hRr, rfl⟩
  ·left
   exact List.map_eq_nil_iff.1 h1
  ·by_cases hr : rows = []
   ·exact .inl hr
   ·right
    have hc0 : cap ≠ 0 := by
     have : 0 < rows.length := List.length_pos_iff.2 hr
     omega
    have hadr2 := hadr.resolve_left hc0
    obtain ⟨ex, lo, hi2, hb1, hb2, hb3⟩ := hB
    subst hsz
    refine ⟨L.b, L.o, c, _, _, by rw [hadr2]; simp, .inr (by simp only [fa, fd]; simp), hb1, ?_⟩
    exact relDRows_mono (R' := fun b => R b ∨ 1 ≤ fa (fd L.b) F' b) (fun b hb => .inl hb) (fun _ _ => rfl) c L.sz rows L.o (relTRows_toD rows L.o F' hRr)
 ·rw [List.getElem?_set_ne hji] at hj
  exact henv2.2 j av hj
end Go.Proofs.YtejnpiielcbkkaaGreat.E
end
