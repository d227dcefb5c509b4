/- A part of what stands under the laws of this seat: an abstract evaluator that is proved sound, and contracts of functions by it. No condition beside those that stand in each statement. -/
import Derived.Test.YtejnpiielcbkkaaGreatZR27
set_option linter.unusedVariables false
set_option linter.unusedSimpArgs false
section
set_option maxRecDepth 100000
set_option maxHeartbeats 4000000
namespace Go.Proofs.YtejnpiielcbkkaaGreat.E
abbrev k_queue : ByteArray := ⟨#[113, 117, 101, 117, 101]⟩
abbrev k_entry : ByteArray := ⟨#[101, 110, 116, 114, 121]⟩
abbrev k_monitor : ByteArray := ⟨#[109, 111, 110, 105, 116, 111, 114]⟩
abbrev k_process : ByteArray := ⟨#[112, 114, 111, 99, 101, 115, 115]⟩
theorem endsemi_rows : ([[T.v (.string ⟨#[101, 110, 100]⟩)], [T.v (.string ⟨#[59]⟩)]] : List (List T)) = strsT [bEnd, bSemi] := rfl
theorem take_two (a b : ByteArray) : [a, b].take 2 = [a, b] := rfl
theorem two_len (a b : ByteArray) : ([a, b]).length = 2 := rfl
theorem two_ne : ∀ s ∈ [bEnd, bSemi], s.size ≠ 0 := by
 intro s hs
 simp only [List.mem_cons, List.not_mem_nil, or_false] at hs
 rcases hs with rfl | rfl <;> decide
/-! ### A monitor -/
def entOne (r : Rd) : Rd × Entry := (wantL (blockV (wantL (nameR (wantL (nameR r).1 [bOpen])).1 [bShut])).1 [bSemi], ⟨(nameR r).2, (nameR (wantL (nameR r).1 [bOpen])).2, (blockV (wantL (nameR (wantL (nameR r).1 [bOpen])).1 [bShut])).2⟩)
def entF : Nat → Rd → List Entry → Rd × List Entry
 | 0, r, es => (r, es)
 | n + 1, r, es => if isR r k_entry = true then entF n (entOne (advR r)).1 (es ++ [(entOne (advR r)).2]) else (r, es)
def monEnd (a : ByteArray) (vs qs : List ByteArray) (x : Rd × List Entry) : Rd × Monitor := (wantL x.1 [bEnd, bSemi], ⟨a, vs, qs, x.2⟩)
def monOf (r : Rd) : Rd × Monitor :=
 monEnd (nameR r).2 (optR k_var (wantL (nameR r).1 [bSemi])).2 (optR k_queue (optR k_var (wantL (nameR r).1 [bSemi])).1).2
  (entF (r.list.length + 1) (optR k_queue (optR k_var (wantL (nameR r).1 [bSemi])).1).1 [])
def addMon (r : Rd) (m : Monitor) : Rd := ⟨r.list, r.size, r.cur, r.place, ⟨r.prog.nodes, r.prog.monitors ++ [m], r.prog.processes⟩⟩
theorem kp_ent {r : Rd} (h : RdOk r) : Kp 2 r (entOne r).1 := by
 have k1 := kp_name h
 have k2 := k1.tr0 (kp_want (s := bOpen) (by decide) k1.1)
 have k3 := k2.tr0 (kp_name k2.1)
 have k4 := k3.tr0 (kp_want (s := bShut) (by decide) k3.1)
 have k5 := k4.trans (blockV_kp k4.1)
 exact (k5.tr0 (kp_want (s := bSemi) (by decide) k5.1)).mono (by omega)
theorem kp_entF : ∀ (n : Nat) (r : Rd) (es : List Entry), RdOk r → Kp 0 r (entF n r es).1
 | 0, r, es, h => Kp.refl h
 | n + 1, r, es, h => by
  unfold entF
  split
  ·rename_i hi
   have a := is_adv (by decide) h hi
   have k := a.kp (kp_ent a.ok) (by omega)
   exact k.tr0 (kp_entF n _ _ k.1)
  ·exact Kp.refl h
theorem kp_want2 {r : Rd} (h : RdOk r) : Kp 0 r (wantL r [bEnd, bSemi]) := (kp_want (s := bEnd) (by decide) h).tr0 (kp_want (s := bSemi) (by decide) (kp_want (s := bEnd) (by decide) h).1)
theorem kp_mon {r : Rd} (h : RdOk r) : Kp 0 r (monOf r).1 := by
 have k1 := kp_name h
 have k2 := k1.tr0 (kp_want (s := bSemi) (by decide) k1.1)
 have k3 := k2.tr0 (kp_opt (w := k_var) (by decide) k2.1)
 have k4 := k3.tr0 (kp_opt (w := k_queue) (by decide) k3.1)
 have k5 := k4.tr0 (kp_entF (r.list.length + 1) _ [] k4.1)
 exact k5.tr0 (kp_want2 k5.1)
theorem entrysT_one (es : List Entry) (a b : ByteArray) (c : Int) : entrysT es ++ [[T.v (.string a), T.v (.string b), T.v (.int .i64 c)]] = entrysT (es ++ [⟨a, b, c⟩]) := by simp [entrysT, entryT]
theorem monitorsT_one (xs : List Monitor) (a : ByteArray) (b c : List ByteArray) (d : List Entry) : monitorsT xs ++ [[.v (.string a), .own 1 (strsT b), .own 1 (strsT c), .own 3 (entrysT d)]] = monitorsT (xs ++ [⟨a, b, c, d⟩]) := by simp [monitorsT, monitorT]
end Go.Proofs.YtejnpiielcbkkaaGreat.E
end
section
set_option maxRecDepth 100000
set_option maxHeartbeats 4000000
namespace Go.Proofs.YtejnpiielcbkkaaGreat.E
theorem rMonitor_ok (r : Rd) (h : RdOk r) (hp : pot r ≤ 1000000) (hN : (monOf r).1.prog.monitors.length ≤ 1000000) : CallOk Tryz.prog 30 [.one (.box (rdT r))] (.tup []) [some (.box (rdT (addMon (monOf r).1 (monOf r).2)))] := by
 have k1 := kp_name h
 have k2 := k1.tr0 (kp_want (s := bSemi) (by decide) k1.1)
 have k3 := k2.tr0 (kp_opt (w := k_var) (by decide) k2.1)
 have k4 := k3.tr0 (kp_opt (w := k_queue) (by decide) k3.1)
 have k5 := k4.tr0 (kp_entF (r.list.length + 1) _ [] k4.1)
 have c0 := rName_ok r h
 have c1 := rWant_ok _ [bSemi] (one_ne (by decide)) (by decide) k1.1
 have c2 := rTake_ok _ k_var (by decide) k2.1
 have c3 := fun (hi : isR (wantL (nameR r).1 [bSemi]) k_var = true) => rNames_ok _ (is_adv (by decide) k2.1 hi).ok
 have c4 := fun (hi : isR (wantL (nameR r).1 [bSemi]) k_var = true) => rWant_ok _ [bSemi] (one_ne (by decide)) (by decide) (kp_names (is_adv (by decide) k2.1 hi).ok).1
 have c5 := rTake_ok _ k_queue (by decide) k3.1
 have c6 := fun (hi : isR (optR k_var (wantL (nameR r).1 [bSemi])).1 k_queue = true) => rNames_ok _ (is_adv (by decide) k3.1 hi).ok
 have c7 := fun (hi : isR (optR k_var (wantL (nameR r).1 [bSemi])).1 k_queue = true) => rWant_ok _ [bSemi] (one_ne (by decide)) (by decide) (kp_names (is_adv (by decide) k3.1 hi).ok).1
 have c8 := rWant_ok _ [bEnd, bSemi] two_ne (by decide) k5.1
 have l1 := opt_len (w := k_var) (by decide) k2.1
 have l2 := opt_len (w := k_queue) (by decide) k3.1
 have k4p := k4.2.2.2.1
 have k4l := k4.2.1
 have k4 := k4.1
 have hpo : monOf r = monEnd (nameR r).2 (optR k_var (wantL (nameR r).1 [bSemi])).2 (optR k_queue (optR k_var (wantL (nameR r).1 [bSemi])).1).2 (entF (r.list.length + 1) (optR k_queue (optR k_var (wantL (nameR r).1 [bSemi])).1).1 []) := rfl
 have hl5 := h.len
 rw [hpo] at hN ⊢
 clear hpo k1 k2 k3 k5
 obtain ⟨⟨A, nm⟩, hA⟩ : ∃ x, nameR r = x := ⟨_, rfl⟩
 rw [hA] at c0 c1 c2 c3 c4 c5 c6 c7 c8 l1 l2 hN k4p k4l k4 ⊢
 dsimp only at c0 c1 c2 c3 c4 c5 c6 c7 c8 l1 l2 hN k4p k4l k4 ⊢
 obtain ⟨B, hB⟩ : ∃ x, wantL A [bSemi] = x := ⟨_, rfl⟩
 rw [hB] at c1 c2 c3 c4 c5 c6 c7 c8 l1 l2 hN k4p k4l k4 ⊢
 have hv : optR k_var B = if isR B k_var = true then (wantL (namesR (advR B)).1 [bSemi], (namesR (advR B)).2) else (B, []) := rfl
 obtain ⟨⟨C, vs⟩, hC⟩ : ∃ x, optR k_var B = x := ⟨_, rfl⟩
 rw [hC] at c5 c6 c7 c8 l1 l2 hN hv k4p k4l k4 ⊢
 dsimp only at c5 c6 c7 c8 l1 l2 hN k4p k4l k4 ⊢
 have hq : optR k_queue C = if isR C k_queue = true then (wantL (namesR (advR C)).1 [bSemi], (namesR (advR C)).2) else (C, []) := rfl
 obtain ⟨⟨D, qs⟩, hD⟩ : ∃ x, optR k_queue C = x := ⟨_, rfl⟩
 rw [hD] at c8 l2 hN hq k4p k4l k4 ⊢
 dsimp only at c8 l2 hN k4p k4l k4 ⊢
 have k4q : D.list.length ≤ r.list.length := by rw [k4l]; exact Nat.le_refl _
 clear k4l
 obtain ⟨⟨RR, RE⟩, hRES⟩ : ∃ x, entF (r.list.length + 1) D [] = x := ⟨_, rfl⟩
 rw [hRES] at c8 hN ⊢
 have hme : monEnd nm vs qs (RR, RE) = (wantL RR [bEnd, bSemi], ⟨nm, vs, qs, RE⟩) := rfl
 rw [hme] at hN ⊢
 clear hme
 dsimp only at c8 hN ⊢
 obtain ⟨⟨list, size, cur, place, ⟨nodes, monitors, processes⟩⟩, hG⟩ : ∃ x, wantL RR [bEnd, bSemi] = x := ⟨_, rfl⟩
 rw [hG] at c8 hN ⊢
 dsimp only at hN
 clear hA hB hC hD hG
 have s0 : strsT [] = [] := rfl
 have t0 : entrysT [] = [] := rfl
 refine callOk_of_hcallF 40 (hcall_of_bodyS Tryz.func30 rfl (by kernel_rfl) ?_)
 simp (disch := omega) only [go_sem, Tryz.ntmps30, Tryz.results30]
 refine s_cut ⟨mkEnv 67 [(0, .one (.ptr 0 0 0)), (2, .one (.ptr 1 0 0))], [.live 7 [rdT A], .live 4 [[sV nm, .ref 2 0 0, .ref 3 0 0, .ref 4 0 0]], .live 1 [], .live 1 [], .live 3 []]⟩ ?_ ?_
 ·clear c1 c2 c3 c4 c5 c6 c7 c8 hv hq hRES
  repeat' (first | (with_reducible first | refine i_seq ?_ | exact th_none | refine i_th (id := 17) (.ho [0, 1, 2, 3, 4, 5, 6] (opm 7 [5] [false, true] (opm 8 [] [false] (.ho [9, 10, 11] (opm 12 [] [] (.stop)))))) mixedT (by kernel_rfl) (fun Q' hQ => ?_)) | ((first | (with_reducible first | refine iBk ?_ | refine iRQ (fun Q' hQ => ?_) | (refine Imp.go hQ ?_; clear hQ) | refine th_ho ?_ | refine th_stop ?_ ?_ | refine th_opm ?_ (by kernel_rfl) (aLr ?_) | refine th_altm ?_ (by kernel_rfl) (aLr ?_) ?_) | ((with_reducible refine i_condT ?_ ?_); (focus (simp only [go_sem, *]; done))) | ((with_reducible refine i_condF ?_ ?_); (focus (simp only [go_sem, *]; done))) | ((with_reducible first | refine rOg (fun h => ?_) (fun h => ?_) | refine i_cond (by simp only [go_sem, *] <;> rfl) (fun h => ?_) (fun h => ?_)) <;> (try simp only [nqA, nqB, nqC, reduceCtorEq] at h) <;> (try have h' := odT h) <;> (try (have hz : (_ : Int) = (_ : Int) := h'; clear hz h')) <;> (try have h' := odF h) <;> (try have h' := inB_t h) <;> (try (exfalso; omega))) | (((with_reducible first | refine hcO 40 true (c0) ?_ ?_ ?_ ?_ ?_); iterate 4 (focus (simp (disch := omega) only [go_sem, reduceCtorEq, nLo]; done))); simp only [go_sem, reduceCtorEq]; refine aLr ?_)) <;> (try simp (disch := omega) only [go_sem, reduceCtorEq, *])))
  all_goals (try simp (disch := omega) only [EndK, go_sem, reduceCtorEq, nLo, *])
  all_goals
   refine weak_names (names_nil 1 4 [sV nm, .v (.slice none 0 0), .v (.slice none 0 0), .v (.slice none 0 0)] [sV nm, .own 1 [], .own 1 [], .own 3 []] rfl (by with_reducible rfl) (by simp [go_sem, isNil]) (by simp [go_sem])) ?_
   simp (disch := omega) only [go_sem]
   first | exact wc [0, 2] [1, 2, 3, 4]
 refine s_cut ⟨mkEnv 67 [(0, .one (.ptr 0 0 0)), (2, .one (.ptr 1 0 0))], [.live 7 [rdT B], .live 4 [[sV nm, .ref 2 0 0, .ref 3 0 0, .ref 4 0 0]], .live 1 [], .live 1 [], .live 3 []]⟩ ?_ ?_
 ·clear c0 c2 c3 c4 c5 c6 c7 c8 hv hq hRES
  simp (disch := omega) only [go_sem]
  repeat' (first | (with_reducible first | refine i_seq ?_ | exact th_none | refine i_th (id := 17) (.ho [0, 1, 2, 3, 4, 5, 6] (opm 7 [5] [false, true] (opm 8 [] [false] (.ho [9, 10, 11] (opm 12 [] [] (.stop)))))) mixedT (by kernel_rfl) (fun Q' hQ => ?_)) | ((first | (with_reducible first | refine iBk ?_ | refine iRQ (fun Q' hQ => ?_) | (refine Imp.go hQ ?_; clear hQ) | refine th_ho ?_ | refine th_stop ?_ ?_ | refine th_opm ?_ (by kernel_rfl) (aLr ?_) | refine th_altm ?_ (by kernel_rfl) (aLr ?_) ?_) | ((with_reducible refine i_condT ?_ ?_); (focus (simp only [go_sem, *]; done))) | ((with_reducible refine i_condF ?_ ?_); (focus (simp only [go_sem, *]; done))) | ((with_reducible first | refine rOg (fun h => ?_) (fun h => ?_) | refine i_cond (by simp only [go_sem, *] <;> rfl) (fun h => ?_) (fun h => ?_)) <;> (try simp only [nqA, nqB, nqC, reduceCtorEq] at h) <;> (try have h' := odT h) <;> (try (have hz : (_ : Int) = (_ : Int) := h'; clear hz h')) <;> (try have h' := odF h) <;> (try have h' := inB_t h) <;> (try (exfalso; omega))) | (((with_reducible first | refine hcO 40 true (c1) ?_ ?_ ?_ ?_ ?_); iterate 4 (focus (simp (disch := omega) only [go_sem, semi_rows, tSi, List.length_singleton, reduceCtorEq, nLo]; done))); simp only [go_sem, semi_rows, tSi, List.length_singleton, reduceCtorEq]; refine aLr ?_)) <;> (try simp (disch := omega) only [go_sem, semi_rows, tSi, List.length_singleton, reduceCtorEq, *])))
  all_goals (try simp (disch := omega) only [EndK, go_sem, semi_rows, tSi, List.length_singleton, reduceCtorEq, nLo, *])
  all_goals
   first | exact wc [0, 2] [1, 2, 3, 4]
 refine s_cut ⟨mkEnv 67 [(0, .one (.ptr 0 0 0)), (2, .one (.ptr 1 0 0))], [.live 7 [rdT C], .live 4 [[sV nm, .ref 2 0 vs.length, .ref 3 0 0, .ref 4 0 0]], .live 1 (strsT vs), .live 1 [], .live 3 []]⟩ ?_ ?_
 ·clear c0 c1 c5 c6 c7 c8 hq hRES k4 k4p k4q l2
  cases q : isR B k_var
  ·rw [take_no q, q] at c2
   rw [q, if_neg (by simp)] at hv
   obtain ⟨rfl, rfl⟩ := Prod.mk.inj hv
   clear c3 c4
   simp (disch := omega) only [go_sem]
   repeat' (first | (with_reducible first | refine i_seq ?_ | exact th_none | refine i_th (id := 17) (.ho [0, 1, 2, 3, 4, 5, 6] (opm 7 [5] [false, true] (opm 8 [] [false] (.ho [9, 10, 11] (opm 12 [] [] (.stop)))))) mixedT (by kernel_rfl) (fun Q' hQ => ?_)) | ((first | (with_reducible first | refine iBk ?_ | refine iRQ (fun Q' hQ => ?_) | (refine Imp.go hQ ?_; clear hQ) | refine th_ho ?_ | refine th_stop ?_ ?_ | refine th_opm ?_ (by kernel_rfl) (aLr ?_) | refine th_altm ?_ (by kernel_rfl) (aLr ?_) ?_) | ((with_reducible refine i_condT ?_ ?_); (focus (simp only [go_sem, *]; done))) | ((with_reducible refine i_condF ?_ ?_); (focus (simp only [go_sem, *]; done))) | ((with_reducible first | refine rOg (fun h => ?_) (fun h => ?_) | refine i_cond (by simp only [go_sem, *] <;> rfl) (fun h => ?_) (fun h => ?_)) <;> (try simp only [nqA, nqB, nqC, reduceCtorEq] at h) <;> (try have h' := odT h) <;> (try (have hz : (_ : Int) = (_ : Int) := h'; clear hz h')) <;> (try have h' := odF h) <;> (try have h' := inB_t h) <;> (try (exfalso; omega))) | (((with_reducible first | refine hcO 40 true (c2) ?_ ?_ ?_ ?_ ?_); iterate 4 (focus (simp (disch := omega) only [go_sem, reduceCtorEq, nLo]; done))); simp only [go_sem, reduceCtorEq]; refine aLr ?_)) <;> (try simp (disch := omega) only [go_sem, reduceCtorEq, *])))
   all_goals (try simp (disch := omega) only [EndK, go_sem, reduceCtorEq, nLo, *])
   all_goals
    first | (refine wCn [0, 2] [1, 2, 3, 4] ?_ ?_ ?_ <;> (simp (disch := omega) only [go_sem, s0, List.length_nil]; done))
  ·rw [take_yes q, q] at c2
   rw [q, if_pos rfl] at hv
   replace c3 := c3 q
   replace c4 := c4 q
   obtain ⟨rfl, rfl⟩ := Prod.mk.inj hv
   have hadv : advR B = ⟨B.list, B.size, B.cur + 1, B.place, B.prog⟩ := rfl
   obtain ⟨⟨G, g⟩, hG⟩ : ∃ x, namesR (advR B) = x := ⟨_, rfl⟩
   rw [hG] at c3 c4 ⊢
   try dsimp only at c3
   try dsimp only at c4
   try dsimp only
   obtain ⟨C, hD⟩ : ∃ x, wantL G [bSemi] = x := ⟨_, rfl⟩
   rw [hD] at c4 ⊢
   rw [hadv] at c2 c3
   clear hadv hG hD
   simp (disch := omega) only [go_sem]
   repeat' (first | (with_reducible first | refine i_seq ?_ | exact th_none | refine i_th (id := 17) (.ho [0, 1, 2, 3, 4, 5, 6] (opm 7 [5] [false, true] (opm 8 [] [false] (.ho [9, 10, 11] (opm 12 [] [] (.stop)))))) mixedT (by kernel_rfl) (fun Q' hQ => ?_)) | ((first | (with_reducible first | refine iBk ?_ | refine iRQ (fun Q' hQ => ?_) | (refine Imp.go hQ ?_; clear hQ) | refine th_ho ?_ | refine th_stop ?_ ?_ | refine th_opm ?_ (by kernel_rfl) (aLr ?_) | refine th_altm ?_ (by kernel_rfl) (aLr ?_) ?_) | ((with_reducible refine i_condT ?_ ?_); (focus (simp only [go_sem, *]; done))) | ((with_reducible refine i_condF ?_ ?_); (focus (simp only [go_sem, *]; done))) | ((with_reducible first | refine rOg (fun h => ?_) (fun h => ?_) | refine i_cond (by simp only [go_sem, *] <;> rfl) (fun h => ?_) (fun h => ?_)) <;> (try simp only [nqA, nqB, nqC, reduceCtorEq] at h) <;> (try have h' := odT h) <;> (try (have hz : (_ : Int) = (_ : Int) := h'; clear hz h')) <;> (try have h' := odF h) <;> (try have h' := inB_t h) <;> (try (exfalso; omega))) | ((first | ((with_reducible first | refine hcO 40 true (c2) ?_ ?_ ?_ ?_ ?_); iterate 4 (focus (simp (disch := omega) only [go_sem, semi_rows, tSi, List.length_singleton, reduceCtorEq, nLo]; done))) | ((with_reducible refine hcO 40 true (c3) ?_ ?_ ?_ ?_ ?_); iterate 4 (focus (simp (disch := omega) only [go_sem, semi_rows, tSi, List.length_singleton, reduceCtorEq, nLo]; done))) | ((with_reducible refine hcO 40 true (c4) ?_ ?_ ?_ ?_ ?_); iterate 4 (focus (simp (disch := omega) only [go_sem, semi_rows, tSi, List.length_singleton, reduceCtorEq, nLo]; done)))); simp only [go_sem, semi_rows, tSi, List.length_singleton, reduceCtorEq]; refine aLr ?_)) <;> (try simp (disch := omega) only [go_sem, semi_rows, tSi, List.length_singleton, reduceCtorEq, *])))
   all_goals (try simp (disch := omega) only [EndK, go_sem, semi_rows, tSi, List.length_singleton, reduceCtorEq, nLo, *])
   all_goals
    first | exact wc [0, 2] [1, 5, 3, 4] | exact wc [0, 2] [1, 6, 3, 4]
 clear c0 c1 c2 c3 c4 hv
 refine s_cut ⟨mkEnv 67 [(0, .one (.ptr 0 0 0)), (2, .one (.ptr 1 0 0))], [.live 7 [rdT D], .live 4 [[sV nm, .ref 2 0 vs.length, .ref 3 0 qs.length, .ref 4 0 0]], .live 1 (strsT vs), .live 1 (strsT qs), .live 3 []]⟩ ?_ ?_
 ·clear c8 hRES k4 k4p k4q
  cases q : isR C k_queue
  ·rw [take_no q, q] at c5
   rw [q, if_neg (by simp)] at hq
   obtain ⟨rfl, rfl⟩ := Prod.mk.inj hq
   clear c6 c7
   simp (disch := omega) only [go_sem]
   repeat' (first | (with_reducible first | refine i_seq ?_ | exact th_none | refine i_th (id := 17) (.ho [0, 1, 2, 3, 4, 5, 6] (opm 7 [5] [false, true] (opm 8 [] [false] (.ho [9, 10, 11] (opm 12 [] [] (.stop)))))) mixedT (by kernel_rfl) (fun Q' hQ => ?_)) | ((first | (with_reducible first | refine iBk ?_ | refine iRQ (fun Q' hQ => ?_) | (refine Imp.go hQ ?_; clear hQ) | refine th_ho ?_ | refine th_stop ?_ ?_ | refine th_opm ?_ (by kernel_rfl) (aLr ?_) | refine th_altm ?_ (by kernel_rfl) (aLr ?_) ?_) | ((with_reducible refine i_condT ?_ ?_); (focus (simp only [go_sem, *]; done))) | ((with_reducible refine i_condF ?_ ?_); (focus (simp only [go_sem, *]; done))) | ((with_reducible first | refine rOg (fun h => ?_) (fun h => ?_) | refine i_cond (by simp only [go_sem, *] <;> rfl) (fun h => ?_) (fun h => ?_)) <;> (try simp only [nqA, nqB, nqC, reduceCtorEq] at h) <;> (try have h' := odT h) <;> (try (have hz : (_ : Int) = (_ : Int) := h'; clear hz h')) <;> (try have h' := odF h) <;> (try have h' := inB_t h) <;> (try (exfalso; omega))) | (((with_reducible first | refine hcO 40 true (c5) ?_ ?_ ?_ ?_ ?_); iterate 4 (focus (simp (disch := omega) only [go_sem, reduceCtorEq, nLo]; done))); simp only [go_sem, reduceCtorEq]; refine aLr ?_)) <;> (try simp (disch := omega) only [go_sem, reduceCtorEq, *])))
   all_goals (try simp (disch := omega) only [EndK, go_sem, reduceCtorEq, nLo, *])
   all_goals
    first | (refine wCn [0, 2] [1, 2, 3, 4] ?_ ?_ ?_ <;> (simp (disch := omega) only [go_sem, s0, List.length_nil]; done))
  ·rw [take_yes q, q] at c5
   rw [q, if_pos rfl] at hq
   replace c6 := c6 q
   replace c7 := c7 q
   obtain ⟨rfl, rfl⟩ := Prod.mk.inj hq
   have hadv : advR C = ⟨C.list, C.size, C.cur + 1, C.place, C.prog⟩ := rfl
   obtain ⟨⟨G, g⟩, hG⟩ : ∃ x, namesR (advR C) = x := ⟨_, rfl⟩
   rw [hG] at c6 c7 ⊢
   try dsimp only at c6
   try dsimp only at c7
   try dsimp only
   obtain ⟨D, hD⟩ : ∃ x, wantL G [bSemi] = x := ⟨_, rfl⟩
   rw [hD] at c7 ⊢
   rw [hadv] at c5 c6
   clear hadv hG hD
   simp (disch := omega) only [go_sem]
   repeat' (first | (with_reducible first | refine i_seq ?_ | exact th_none | refine i_th (id := 17) (.ho [0, 1, 2, 3, 4, 5, 6] (opm 7 [5] [false, true] (opm 8 [] [false] (.ho [9, 10, 11] (opm 12 [] [] (.stop)))))) mixedT (by kernel_rfl) (fun Q' hQ => ?_)) | ((first | (with_reducible first | refine iBk ?_ | refine iRQ (fun Q' hQ => ?_) | (refine Imp.go hQ ?_; clear hQ) | refine th_ho ?_ | refine th_stop ?_ ?_ | refine th_opm ?_ (by kernel_rfl) (aLr ?_) | refine th_altm ?_ (by kernel_rfl) (aLr ?_) ?_) | ((with_reducible refine i_condT ?_ ?_); (focus (simp only [go_sem, *]; done))) | ((with_reducible refine i_condF ?_ ?_); (focus (simp only [go_sem, *]; done))) | ((with_reducible first | refine rOg (fun h => ?_) (fun h => ?_) | refine i_cond (by simp only [go_sem, *] <;> rfl) (fun h => ?_) (fun h => ?_)) <;> (try simp only [nqA, nqB, nqC, reduceCtorEq] at h) <;> (try have h' := odT h) <;> (try (have hz : (_ : Int) = (_ : Int) := h'; clear hz h')) <;> (try have h' := odF h) <;> (try have h' := inB_t h) <;> (try (exfalso; omega))) | ((first | ((with_reducible first | refine hcO 40 true (c5) ?_ ?_ ?_ ?_ ?_); iterate 4 (focus (simp (disch := omega) only [go_sem, semi_rows, tSi, List.length_singleton, reduceCtorEq, nLo]; done))) | ((with_reducible refine hcO 40 true (c6) ?_ ?_ ?_ ?_ ?_); iterate 4 (focus (simp (disch := omega) only [go_sem, semi_rows, tSi, List.length_singleton, reduceCtorEq, nLo]; done))) | ((with_reducible refine hcO 40 true (c7) ?_ ?_ ?_ ?_ ?_); iterate 4 (focus (simp (disch := omega) only [go_sem, semi_rows, tSi, List.length_singleton, reduceCtorEq, nLo]; done)))); simp only [go_sem, semi_rows, tSi, List.length_singleton, reduceCtorEq]; refine aLr ?_)) <;> (try simp (disch := omega) only [go_sem, semi_rows, tSi, List.length_singleton, reduceCtorEq, *])))
   all_goals (try simp (disch := omega) only [EndK, go_sem, semi_rows, tSi, List.length_singleton, reduceCtorEq, nLo, *])
   all_goals
    first | exact wc [0, 2] [1, 2, 5, 4] | exact wc [0, 2] [1, 2, 6, 4]
 clear c5 c6 c7 hq
 refine s_cut ⟨mkEnv 67 [(0, .one (.ptr 0 0 0)), (2, .one (.ptr 1 0 0))], [.live 7 [rdT RR], .live 4 [[sV nm, .ref 2 0 vs.length, .ref 3 0 qs.length, .ref 4 0 RE.length]], .live 1 (strsT vs), .live 1 (strsT qs), .live 3 (entrysT RE)]⟩ ?_ ?_
 ·clear c8
  simp (disch := omega) only [go_sem]
  have x1 : HH 17 (.ho [0, 1, 2, 3, 4, 5, 6] (opm 7 [5] [false, true] (opm 8 [] [false] (.ho [9, 10, 11] (opm 12 [] [] (.stop)))))) := ⟨⟩
  refine wkc ?_
  refine i_loop (α := {x : Nat × Rd × List Entry // RdOk x.2.1 ∧ pot x.2.1 ≤ 1000000 ∧ x.2.1.list.length - x.2.1.cur < x.1 ∧ x.2.2.length + x.1 ≤ 600 ∧ entF x.1 x.2.1 x.2.2 = (RR, RE)}) (fun x => ⟨mkEnv 67 [(0, .one (.ptr 0 0 0)), (2, .one (.ptr 1 0 0))], [.live 7 [rdT x.1.2.1], .live 4 [[sV nm, .ref 2 0 vs.length, .ref 3 0 qs.length, .ref 4 0 x.1.2.2.length]], .live 1 (strsT vs), .live 1 (strsT qs), .live 3 (entrysT x.1.2.2)]⟩) (fun x => x.1.1) ⟨(r.list.length + 1, D, []), k4, by dsimp only; omega, by dsimp only; omega, by simp only [List.length_nil]; omega, hRES⟩ ?_ ?_
  ·first | (refine wCn [0, 2] [1, 2, 3, 4] ?_ ?_ ?_ <;> (simp (disch := omega) only [go_sem, t0, List.length_nil]; done))
  rintro ⟨⟨m, X, es⟩, g1, g2, g3, g4, he⟩
  dsimp only at g1 g2 g3 g4 he ⊢
  clear hRES h hp k4 k4p k4q hl5
  obtain ⟨m, rfl⟩ : ∃ m', m = m' + 1 := ⟨m - 1, by omega⟩
  have e0 := rTake_ok X k_entry (by decide) g1
  cases q : isR X k_entry
  ·rw [take_no q, q] at e0
   unfold entF at he
   rw [q, if_neg (by simp)] at he
   obtain ⟨rfl, rfl⟩ := Prod.mk.inj he
   simp (disch := omega) only [go_sem]
   repeat' (first | (with_reducible first | refine i_seq ?_ | exact th_none | refine i_th (id := 17) (.ho [0, 1, 2, 3, 4, 5, 6] (opm 7 [5] [false, true] (opm 8 [] [false] (.ho [9, 10, 11] (opm 12 [] [] (.stop)))))) mixedT (by kernel_rfl) (fun Q' hQ => ?_)) | ((first | (with_reducible first | refine iBk ?_ | refine iRQ (fun Q' hQ => ?_) | (refine Imp.go hQ ?_; clear hQ) | refine th_ho ?_ | refine th_stop ?_ ?_ | refine th_opm ?_ (by kernel_rfl) (aLr ?_) | refine th_altm ?_ (by kernel_rfl) (aLr ?_) ?_) | ((with_reducible refine i_condT ?_ ?_); (focus (simp only [go_sem, *]; done))) | ((with_reducible refine i_condF ?_ ?_); (focus (simp only [go_sem, *]; done))) | ((with_reducible first | refine rOg (fun h => ?_) (fun h => ?_) | refine i_cond (by simp only [go_sem, *] <;> rfl) (fun h => ?_) (fun h => ?_)) <;> (try simp only [nqA, nqB, nqC, reduceCtorEq] at h) <;> (try have h' := odT h) <;> (try (have hz : (_ : Int) = (_ : Int) := h'; clear hz h')) <;> (try have h' := odF h) <;> (try have h' := inB_t h) <;> (try (exfalso; omega))) | (((with_reducible first | refine hcO 40 true (e0) ?_ ?_ ?_ ?_ ?_); iterate 4 (focus (simp (disch := omega) only [go_sem, reduceCtorEq, nLo]; done))); simp only [go_sem, reduceCtorEq]; refine aLr ?_)) <;> (try simp (disch := omega) only [go_sem, reduceCtorEq, *])))
   all_goals (try simp (disch := omega) only [EndK, go_sem, reduceCtorEq, nLo, *])
   all_goals
    first | exact wc [0, 2] [1, 2, 3, 4]
  ·rw [take_yes q, q] at e0
   unfold entF at he
   rw [q, if_pos rfl] at he
   have a := is_adv (by decide) g1 q
   have kk := kp_ent a.ok
   have k1 := kp_name a.ok
   have k2 := k1.tr0 (kp_want (s := bOpen) (by decide) k1.1)
   have k3 := k2.tr0 (kp_name k2.1)
   have k4 := k3.tr0 (kp_want (s := bShut) (by decide) k3.1)
   have k5 := k4.trans (blockV_kp k4.1)
   have e1 := rName_ok _ a.ok
   have e2 := rWant_ok _ [bOpen] (one_ne (by decide)) (by decide) k1.1
   have e3 := rName_ok _ k2.1
   have e4 := rWant_ok _ [bShut] (one_ne (by decide)) (by decide) k3.1
   have e5 := blockV_does k4.1 (by have := k4.2.2.2.1; have := a.pot; omega)
   have e6 := rWant_ok _ [bSemi] (one_ne (by decide)) (by decide) k5.1
   have heo : entOne (advR X) = (wantL (blockV (wantL (nameR (wantL (nameR (advR X)).1 [bOpen])).1 [bShut])).1 [bSemi], ⟨(nameR (advR X)).2, (nameR (wantL (nameR (advR X)).1 [bOpen])).2, (blockV (wantL (nameR (wantL (nameR (advR X)).1 [bOpen])).1 [bShut])).2⟩) := rfl
   rw [heo] at he kk
   have ap := a.pot
   have hxc := isR_in (by decide) q
   clear heo k1 k2 k3 k4 k5 a
   have hadv : advR X = ⟨X.list, X.size, X.cur + 1, X.place, X.prog⟩ := rfl
   have hal : (advR X).list.length = X.list.length := rfl
   have hac : (advR X).cur = X.cur + 1 := rfl
   obtain ⟨⟨Y1, a⟩, hY1⟩ : ∃ x, nameR (advR X) = x := ⟨_, rfl⟩
   rw [hY1] at e1 e2 e3 e4 e5 e6 he kk
   dsimp only at e1 e2 e3 e4 e5 e6 he kk
   obtain ⟨Y2, hY2⟩ : ∃ x, wantL Y1 [bOpen] = x := ⟨_, rfl⟩
   rw [hY2] at e2 e3 e4 e5 e6 he kk
   obtain ⟨⟨Y3, c⟩, hY3⟩ : ∃ x, nameR Y2 = x := ⟨_, rfl⟩
   rw [hY3] at e3 e4 e5 e6 he kk
   dsimp only at e3 e4 e5 e6 he kk
   obtain ⟨Y4, hY4⟩ : ∃ x, wantL Y3 [bShut] = x := ⟨_, rfl⟩
   rw [hY4] at e4 e5 e6 he kk
   obtain ⟨⟨Y5, b⟩, hY5⟩ : ∃ x, blockV Y4 = x := ⟨_, rfl⟩
   rw [hY5] at e5 e6 he kk
   dsimp only at e5 e6 he kk
   obtain ⟨Y, hY⟩ : ∃ x, wantL Y5 [bSemi] = x := ⟨_, rfl⟩
   rw [hY] at e6 he kk
   try dsimp only at he
   try dsimp only at kk
   obtain ⟨kk1, kk2, kk3, kk4, -⟩ := kk
   have kk5 : Y.list.length ≤ X.list.length := by rw [kk2]; exact Nat.le_refl _
   rw [hac] at kk3
   rw [hadv] at e0 e1
   clear kk2 hadv hal hac hY1 hY2 hY3 hY4 hY5 hY
   simp (disch := omega) only [go_sem]
   have x1 := @open_rows
   have x2 := @shut_rows
   have x3 := @semi_rows
   have x4 := @tSi
   have x5 := @List.length_singleton.{0}
   have x6 : HH 17 (.ho [0, 1, 2, 3, 4, 5, 6] (opm 7 [5] [false, true] (opm 8 [] [false] (.ho [9, 10, 11] (opm 12 [] [] (.stop)))))) := ⟨⟩
   have x7 : HC 1 _ := ⟨e1⟩
   have x8 : HC 1 _ := ⟨e2⟩
   have x9 : HC 2 _ := ⟨e3⟩
   have x10 : HC 2 _ := ⟨e4⟩
   have x11 : HC 3 _ := ⟨e6⟩
   refine wkzr ?_
   intros
   all_goals refine ⟨⟨(m, Y, es ++ [⟨a, c, b⟩]), kk1, by dsimp only; omega, by dsimp only; omega, by simp only [List.length_append, List.length_singleton]; omega, he⟩, ?_, by simp only; omega⟩
   all_goals
    first | (refine wCn [0, 2] [1, 2, 3, 10] ?_ ?_ ?_ <;> (simp (disch := omega) only [go_sem, entrysT_one, List.length_append, List.length_singleton]; done))
 refine s_cut ⟨mkEnv 67 [(0, .one (.ptr 0 0 0)), (2, .one (.ptr 1 0 0))], [.live 7 [rdT ⟨list, size, cur, place, ⟨nodes, monitors, processes⟩⟩], .live 4 [[sV nm, .ref 2 0 vs.length, .ref 3 0 qs.length, .ref 4 0 RE.length]], .live 1 (strsT vs), .live 1 (strsT qs), .live 3 (entrysT RE)]⟩ ?_ ?_
 ·simp (disch := omega) only [go_sem]
  repeat' (first | (with_reducible first | refine i_seq ?_ | exact th_none | refine i_th (id := 17) (.ho [0, 1, 2, 3, 4, 5, 6] (opm 7 [5] [false, true] (opm 8 [] [false] (.ho [9, 10, 11] (opm 12 [] [] (.stop)))))) mixedT (by kernel_rfl) (fun Q' hQ => ?_)) | ((first | (with_reducible first | refine iBk ?_ | refine iRQ (fun Q' hQ => ?_) | (refine Imp.go hQ ?_; clear hQ) | refine th_ho ?_ | refine th_stop ?_ ?_ | refine th_opm ?_ (by kernel_rfl) (aLr ?_) | refine th_altm ?_ (by kernel_rfl) (aLr ?_) ?_) | ((with_reducible refine i_condT ?_ ?_); (focus (simp only [go_sem, *]; done))) | ((with_reducible refine i_condF ?_ ?_); (focus (simp only [go_sem, *]; done))) | ((with_reducible first | refine rOg (fun h => ?_) (fun h => ?_) | refine i_cond (by simp only [go_sem, *] <;> rfl) (fun h => ?_) (fun h => ?_)) <;> (try simp only [nqA, nqB, nqC, reduceCtorEq] at h) <;> (try have h' := odT h) <;> (try (have hz : (_ : Int) = (_ : Int) := h'; clear hz h')) <;> (try have h' := odF h) <;> (try have h' := inB_t h) <;> (try (exfalso; omega))) | (((with_reducible first | refine hcO 40 true (c8) ?_ ?_ ?_ ?_ ?_); iterate 4 (focus (simp (disch := omega) only [go_sem, endsemi_rows, take_two, two_len, reduceCtorEq, nLo]; done))); simp only [go_sem, endsemi_rows, take_two, two_len, reduceCtorEq]; refine aLr ?_)) <;> (try simp (disch := omega) only [go_sem, endsemi_rows, take_two, two_len, reduceCtorEq, *])))
  all_goals (try simp (disch := omega) only [EndK, go_sem, endsemi_rows, take_two, two_len, reduceCtorEq, nLo, *])
  all_goals
   first | exact wc [0, 2] [1, 2, 3, 4]
 simp (disch := omega) only [go_sem]
 refine s_names (names_at 0 0 (rdT ⟨list, size, cur, place, ⟨nodes, monitors, processes⟩⟩) rfl (by with_reducible rfl) (by simp (disch := omega) only [go_sem])) ?_
 simp (disch := omega) only [go_sem]
 refine s_of_a ?_
 repeat' (first | (with_reducible first | refine i_seq ?_ | exact th_none | refine i_th (id := 17) (.ho [0, 1, 2, 3, 4, 5, 6] (opm 7 [5] [false, true] (opm 8 [] [false] (.ho [9, 10, 11] (opm 12 [] [] (.stop)))))) mixedT (by kernel_rfl) (fun Q' hQ => ?_)) | ((first | (with_reducible first | refine iBk ?_ | refine iRQ (fun Q' hQ => ?_) | (refine Imp.go hQ ?_; clear hQ) | refine th_ho ?_ | refine th_stop ?_ ?_ | refine th_opm ?_ (by kernel_rfl) (aLr ?_) | refine th_altm ?_ (by kernel_rfl) (aLr ?_) ?_) | ((with_reducible refine i_condT ?_ ?_); (focus (simp only [go_sem, *]; done))) | ((with_reducible refine i_condF ?_ ?_); (focus (simp only [go_sem, *]; done))) | ((with_reducible first | refine rOg (fun h => ?_) (fun h => ?_) | refine i_cond (by simp only [go_sem, *] <;> rfl) (fun h => ?_) (fun h => ?_)) <;> (try simp only [nqA, nqB, nqC, reduceCtorEq] at h) <;> (try have h' := odT h) <;> (try (have hz : (_ : Int) = (_ : Int) := h'; clear hz h')) <;> (try have h' := odF h) <;> (try have h' := inB_t h) <;> (try (exfalso; omega)))) <;> (try simp (disch := omega) only [go_sem, addMon, monitorsT_one, List.length_singleton, List.length_append, reduceCtorEq, *])) | ((first | apply hFo | apply endF_folds); (focus (refine folds_appc 8 rfl (by with_reducible rfl) ?_; (focus (simp (disch := omega) only [go_sem]; done)))); (try simp (disch := omega) only [go_sem, addMon, monitorsT_one, List.length_singleton, List.length_append, reduceCtorEq, *])) | ((first | apply hFo | apply endF_folds); (focus (refine folds_appc 9 rfl (by with_reducible rfl) ?_; (focus (simp (disch := omega) only [go_sem]; done)))); (try simp (disch := omega) only [go_sem, addMon, monitorsT_one, List.length_singleton, List.length_append, reduceCtorEq, *])) | ((first | apply hFo | apply endF_folds); (focus (refine folds_appc 10 rfl (by with_reducible rfl) ?_; (focus (simp (disch := omega) only [go_sem]; done)))); (try simp (disch := omega) only [go_sem, addMon, monitorsT_one, List.length_singleton, List.length_append, reduceCtorEq, *])) | ((first | apply hFo | apply endF_folds); (focus (refine folds_appc 11 rfl (by with_reducible rfl) ?_; (focus (simp (disch := omega) only [go_sem]; done)))); (try simp (disch := omega) only [go_sem, addMon, monitorsT_one, List.length_singleton, List.length_append, reduceCtorEq, *])) | ((first | apply hFo | apply endF_folds); (focus (refine folds_appc 12 rfl (by with_reducible rfl) ?_; (focus (simp (disch := omega) only [go_sem]; done)))); (try simp (disch := omega) only [go_sem, addMon, monitorsT_one, List.length_singleton, List.length_append, reduceCtorEq, *])) | ((first | apply hFo | apply endF_folds); (focus (refine folds_appc 13 rfl (by with_reducible rfl) ?_; (focus (simp (disch := omega) only [go_sem]; done)))); (try simp (disch := omega) only [go_sem, addMon, monitorsT_one, List.length_singleton, List.length_append, reduceCtorEq, *])) | ((first | apply hFo | apply endF_folds); (focus ((first | refine folds_setc 99 rfl (by with_reducible rfl) ?_ ?_); (focus (simp (disch := omega) only [go_sem]; done)); (focus (first | omega | (simp (disch := omega) only [go_sem]; omega))))); (try simp (disch := omega) only [go_sem, addMon, monitorsT_one, List.length_singleton, List.length_append, reduceCtorEq, *])))
 all_goals (try (with_reducible refine endF_k ?_))
 all_goals (try simp (disch := omega) only [EndK, go_sem, addMon, monitorsT_one, List.length_singleton, List.length_append, reduceCtorEq, nLo, *])
end Go.Proofs.YtejnpiielcbkkaaGreat.E
end
