/- A part of what stands under the laws of this seat: an abstract evaluator that is proved sound, and contracts of functions by it. No condition beside those that stand in each statement. -/
import Derived.Test.YtejnpiielcbkkaaGreatZU10
import Derived.Test.YtejnpiielcbkkaaGreatZV5
import Derived.Test.YtejnpiielcbkkaaGreatZR27b
import Derived.Test.YtejnpiielcbkkaaGreatZR28
set_option linter.unusedVariables false
set_option linter.unusedSimpArgs false
set_option maxRecDepth 100000
set_option maxHeartbeats 4000000
namespace Go.Proofs.YtejnpiielcbkkaaGreat.E
/-! ### The program's ReadProgram -/
theorem smP_tst {p : Prgm} (h : SmP p) : TstP p where
 sz := ⟨h.nodes.1, h.monitors.1, h.processes.1, fun y hy => ⟨(h.monitors.2 y hy).2.1.1, (h.monitors.2 y hy).2.2.1.1, (h.monitors.2 y hy).2.2.2.1⟩, fun y hy => ⟨(h.processes.2 y hy).2.1.1, (h.processes.2 y hy).2.2.1⟩⟩
 nd := h.nodes.2
 nm := fun s hs => by
  unfold namesL at hs
  rcases List.mem_append.1 hs with hs | hs
  ·obtain ⟨m, hm, hs⟩ := List.mem_flatMap.1 hs
   obtain ⟨g1, g2, g3, g4, g5⟩ := h.monitors.2 m hm
   unfold monNames at hs
   rcases List.mem_append.1 hs with hs | hs
   ·rcases List.mem_append.1 hs with hs | hs
    ·rcases List.mem_cons.1 hs with hs | hs
     ·rw [hs]; exact g1
     ·exact g2.2 s hs
    ·exact g3.2 s hs
   ·obtain ⟨e, he, hs⟩ := List.mem_flatMap.1 hs
    unfold entNames at hs
    simp only [List.mem_cons, List.not_mem_nil, or_false] at hs
    rcases hs with hs | hs <;> rw [hs]
    ·exact (g5 e he).1
    ·exact (g5 e he).2
  ·obtain ⟨x, hx, hs⟩ := List.mem_flatMap.1 hs
   obtain ⟨g1, g2, g3⟩ := h.processes.2 x hx
   unfold procNames at hs
   rcases List.mem_append.1 hs with hs | hs
   ·rcases List.mem_cons.1 hs with hs | hs
    ·rw [hs]; exact g1
    ·exact g2.2 s hs
   ·exact g3.2 s hs
theorem smP_nm {p : Prgm} (h : SmP p) : NmP p where
 mon := fun y hy => ⟨(h.monitors.2 y hy).1, (h.monitors.2 y hy).2.1.2, (h.monitors.2 y hy).2.2.1.2, fun e he => (h.monitors.2 y hy).2.2.2.2 e he⟩
 pro := fun y hy => ⟨(h.processes.2 y hy).1, (h.processes.2 y hy).2.1.2, (h.processes.2 y hy).2.2.2⟩
/-- What holds between two monitors or processes. -/
structure Top (Z : Int) (K B m : Nat) (r : Rd) : Prop where
  len : r.list.length = K
  bd : B ≤ 1200
  ok : RdOk r
  pot : pot r ≤ 5000
  left : r.list.length - r.cur < m
  sim : ∃ M Q s, Sim Z M Q r s ∧ M.length + m ≤ B ∧ Q.length + m ≤ B
theorem pot_addMon {r : Rd} {m : Monitor} : pot (addMon r m) = pot r := rfl
theorem pot_addProc {r : Rd} {x : Process} : pot (addProc r x) = pot r := rfl
theorem top_mon {Z : Int} {K B m : Nat} {r : Rd} (h : Top Z K B (m + 1) r) (hi : isR r k_monitor = true) : RdOk (advR r) ∧ pot (advR r) ≤ 5000 ∧ (monOf (advR r)).1.prog.monitors.length ≤ 1200 ∧ Top Z K B m (monR (advR r)) := by
 have a := is_adv (by decide) h.ok hi
 have ap := a.pot
 have hp := h.pot
 have hl := h.left
 obtain ⟨M, Q, s, hs, h1, h2⟩ := h.sim
 have sm := (sim_mon (sim_adv_is hs wd_k_monitor hi)).1
 have k := kp_mon a.ok
 have s2 := sim_addMon (monOf (advR r)).2 sm
 have hlen : (monOf (advR r)).1.prog.monitors.length ≤ 1200 := by rw [sm.mon]; have := h.bd; omega
 obtain ⟨k1, k2, k3, k4, -⟩ := k
 have e1 : (monR (advR r)).list = (advR r).list := k2
 have e2 : (advR r).cur ≤ (monR (advR r)).cur := k3
 have e3 : (advR r).cur = r.cur + 1 := rfl
 have e4 : (advR r).list = r.list := rfl
 have e5 := isR_in (by decide) hi
 exact ⟨a.ok, by omega, hlen, by rw [e1, e4]; exact h.len, h.bd, s2.ok, by show pot (addMon _ _) ≤ 5000; rw [pot_addMon]; omega, by rw [e1, e4]; omega, M ++ [(monOf (advR r)).2], Q, _, s2, by rw [List.length_append, List.length_singleton]; omega, by omega⟩
theorem top_proc {Z : Int} {K B m : Nat} {r : Rd} (h : Top Z K B (m + 1) r) (hi : isR r k_process = true) : RdOk (advR r) ∧ pot (advR r) ≤ 5000 ∧ (procOf (advR r)).1.prog.processes.length ≤ 1200 ∧ Top Z K B m (procR (advR r)) := by
 have a := is_adv (by decide) h.ok hi
 have ap := a.pot
 have hp := h.pot
 have hl := h.left
 obtain ⟨M, Q, s, hs, h1, h2⟩ := h.sim
 have sm := (sim_proc (sim_adv_is hs wd_k_process hi)).1
 have k := kp_proc a.ok
 have s2 := sim_addProc (procOf (advR r)).2 sm
 have hlen : (procOf (advR r)).1.prog.processes.length ≤ 1200 := by rw [sm.pro]; have := h.bd; omega
 obtain ⟨k1, k2, k3, k4, -⟩ := k
 have e1 : (procR (advR r)).list = (advR r).list := k2
 have e2 : (advR r).cur ≤ (procR (advR r)).cur := k3
 have e3 : (advR r).cur = r.cur + 1 := rfl
 have e4 : (advR r).list = r.list := rfl
 have e5 := isR_in (by decide) hi
 exact ⟨a.ok, by omega, hlen, by rw [e1, e4]; exact h.len, h.bd, s2.ok, by show pot (addProc _ _) ≤ 5000; rw [pot_addProc]; omega, by rw [e1, e4]; omega, M, Q ++ [(procOf (advR r)).2], _, s2, by omega, by rw [List.length_append, List.length_singleton]; omega⟩
theorem top_monsF {Z : Int} {K B : Nat} : ∀ (m : Nat) (r : Rd), Top Z K B m r → ∃ m', Top Z K B m' (monsF m r)
 | 0, r, h => ⟨0, h⟩
 | m + 1, r, h => by
  unfold monsF
  split
  ·rename_i hi; exact top_monsF m _ (top_mon h hi).2.2.2
  ·exact ⟨m + 1, h⟩
theorem top_procsF {Z : Int} {K B : Nat} : ∀ (m : Nat) (r : Rd), Top Z K B m r → ∃ m', Top Z K B m' (procsF m r)
 | 0, r, h => ⟨0, h⟩
 | m + 1, r, h => by
  unfold procsF
  split
  ·rename_i hi; exact top_procsF m _ (top_proc h hi).2.2.2
  ·exact ⟨m + 1, h⟩
theorem top_re {Z : Int} {K B m : Nat} {r : Rd} (h : Top Z K B m r) (hB : B ≤ 501) (hK : K ≤ 500) : Top Z K 1200 (K + 1) r := by
 obtain ⟨M, Q, s, hs, h1, h2⟩ := h.sim
 exact ⟨h.len, by omega, h.ok, h.pot, by have := h.len; omega, M, Q, s, hs, by omega, by omega⟩
theorem iReadProgram_ok (z : ByteArray) (hz : z.size ≤ 1048576) : CallOk Tryz.prog 6 [.one (sV z)] (.tup [.agg (programT (readR progB z).1), .one (iV (readR progB z).2)]) [none] := by
 have c0 := iSignsOf_ok z hz
 have sg := signsOf_sg z
 obtain ⟨⟨L, ft⟩, hL⟩ : ∃ x, signsOf z = x := ⟨_, rfl⟩
 have hr : readR progB z = if (ft != 0) = true then (programZ, ft) else readL progB L z := by unfold readR; rw [hL]
 rw [hL] at c0 sg
 dsimp only at c0 sg
 rw [hr]
 clear hr hL
 have ezn : nodesT [] = [] := rfl
 have ezm : monitorsT [] = [] := rfl
 have ezp : processsT [] = [] := rfl
 cases q0 : (ft != 0)
 rotate_left
 ·rw [if_pos rfl]
  dsimp only
  refine cOh 40 (hBd Tryz.func6 rfl (by kernel_rfl) ?_)
  simp (disch := omega) only [go_sem, Tryz.ntmps6, Tryz.results6]
  have x1 := @programZ.eq_1
  have x2 : HH 13 (.ho [1, 2, 3, 4] (opm 0 [4] [true] (opm 5 [4] [true] (.ho [6] (.stop))))) := ⟨⟩
  exact wk
 rw [if_neg (by simp)]
 have hrl : readL progB L z = outR progB (dotR (procsF (L.length + 1) (monsF (L.length + 1) (startR L z)))) := rfl
 rw [hrl]
 clear hrl
 have hl5 := sg.1
 have tp0 : Top (z.size : Int) L.length 501 (L.length + 1) (startR L z) := ⟨rfl, by omega, startR_ok hz sg, by show 0 + 4 * (L.length - 0) ≤ 5000; omega, by show L.length - 0 < L.length + 1; omega, [], [], _, sim_start hz sg, by simp only [List.length_nil]; omega, by simp only [List.length_nil]; omega⟩
 obtain ⟨m1, tp1⟩ := top_monsF _ _ tp0
 obtain ⟨X1, hX1⟩ : ∃ x, monsF (L.length + 1) (startR L z) = x := ⟨_, rfl⟩
 rw [hX1] at tp1 ⊢
 have tp2 := top_re tp1 (Nat.le_refl _) hl5
 obtain ⟨m2, tp3⟩ := top_procsF _ _ tp2
 have hsm := smP_out (L := L) hz sg
 have hsb := sim_body hz sg
 have hbr : bodyR L z = procsF (L.length + 1) X1 := by unfold bodyR; rw [hX1]
 rw [hbr] at hsb
 clear hbr
 obtain ⟨X2, hX2⟩ : ∃ x, procsF (L.length + 1) X1 = x := ⟨_, rfl⟩
 rw [hX2] at tp3 hsb ⊢
 have cw := rWant_ok X2 [bDot] (one_ne (by decide)) (by decide) tp3.ok
 have kw := kp_want (s := bDot) (by decide) tp3.ok
 have hl3 : (wantL X2 [bDot]).list.length = L.length := by rw [kw.2.1]; exact tp3.len
 have cg := rWrong_ok (wantL X2 [bDot]) kw.1
 have hdot : dotR X2 = if decide (((wantL X2 [bDot]).cur : Int) < ((wantL X2 [bDot]).list.length : Int)) = true then wrongR (wantL X2 [bDot]) else wantL X2 [bDot] := rfl
 have hgood : ((dotR X2).place != 0) = false → SmP (dotR X2).prog := by
  obtain ⟨M, Q, s1, s2⟩ := hsb
  have d := sim_want s1 wd_bDot
  intro hp
  have hdn : dotR X2 = wantL X2 [bDot] := by
   rw [hdot]
   cases q : decide (((wantL X2 [bDot]).cur : Int) < ((wantL X2 [bDot]).list.length : Int))
   ·rw [if_neg (by simp)]
   ·rw [hdot, q, if_pos rfl, wrong_place kw.1] at hp; cases hp
  rw [hdn] at hp ⊢
  have hb : (mustS (procsS L).1 bDot).bad = false := by rw [d.bad]; exact hp
  obtain ⟨e1, e2⟩ := s2 (good_of must_bad hb)
  have ep : (wantL X2 [bDot]).prog = ⟨(mustS (procsS L).1 bDot).nodes, (monsS L).2, (procsS L).2⟩ := by
   rw [d.nodes hb, ← e1, ← e2, ← d.mon, ← d.pro]
  rw [ep]
  exact hsm
 clear hsm hsb kw
 obtain ⟨X3, hX3⟩ : ∃ x, wantL X2 [bDot] = x := ⟨_, rfl⟩
 rw [hX3] at cw cg hl3 hdot
 obtain ⟨X4, hX4⟩ : ∃ x, dotR X2 = x := ⟨_, rfl⟩
 rw [hX4] at hdot hgood ⊢
 clear hX3 hX4
 have ho : outR progB X4 = if (X4.place != 0) = true then (programZ, X4.place) else if progB X4.prog = false then (programZ, 1) else (X4.prog, 0) := rfl
 rw [ho]
 clear ho
 refine cOh 40 (hcall_of_bodyS Tryz.func6 rfl (by kernel_rfl) ?_)
 simp (disch := omega) only [go_sem, Tryz.ntmps6, Tryz.results6]
 refine s_cut ⟨mkEnv 64 [(0, .one (sV z)), (2, .one (.ptr 0 0 0))], [.live 3 [[.v nilV, .v nilV, .v nilV]]]⟩ ?_ ?_
 ·clear c0 cw cg hX1 hX2
  have x1 : HH 13 (.ho [1, 2, 3, 4] (opm 0 [4] [true] (opm 5 [4] [true] (.ho [6] (.stop))))) := ⟨⟩
  have x2 : HW 0 [0, 2] [0] := ⟨⟩
  exact wkz
 refine s_cut ⟨mkEnv 64 [(0, .one (sV z)), (2, .one (.ptr 0 0 0)), (4, .one (.ref 1 0 L.length)), (5, .one (iV ft))], [.live 3 [[.v nilV, .v nilV, .v nilV]], .live 4 (signsT L)]⟩ ?_ ?_
 ·clear cw cg hX1 hX2
  simp (disch := omega) only [go_sem]
  have x1 : HH 13 (.ho [1, 2, 3, 4] (opm 0 [4] [true] (opm 5 [4] [true] (.ho [6] (.stop))))) := ⟨⟩
  have x2 : HW 0 [0, 2, 4, 5] [0, 1] := ⟨⟩
  exact wkz
 refine s_cut ⟨mkEnv 64 [(0, .one (sV z)), (2, .one (.ptr 0 0 0)), (4, .one (.ref 1 0 L.length))], [.live 3 [[.v nilV, .v nilV, .v nilV]], .live 4 (signsT L)]⟩ ?_ ?_
 ·clear c0 cw cg hX1 hX2
  simp (disch := omega) only [go_sem]
  have x1 : HH 13 (.ho [1, 2, 3, 4] (opm 0 [4] [true] (opm 5 [4] [true] (.ho [6] (.stop))))) := ⟨⟩
  have x2 : HW 0 [0, 2, 4] [0, 1] := ⟨⟩
  exact wkz
 clear c0 q0
 refine s_cut ⟨mkEnv 64 [(2, .one (.ptr 0 0 0)), (4, .one (.ref 2 0 L.length)), (6, .one (.ptr 1 0 0))], [.live 3 [[.v nilV, .v nilV, .v nilV]], .live 7 [rdT (startR L z)], .dead]⟩ ?_ ?_
 ·clear cw cg hX1 hX2
  simp (disch := omega) only [go_sem]
  repeat' (first | (with_reducible first | refine i_seq ?_ | exact th_none | refine i_th (id := 13) (.ho [1, 2, 3, 4] (opm 0 [4] [true] (opm 5 [4] [true] (.ho [6] (.stop))))) mixedT (by kernel_rfl) (fun Q' hQ => ?_)) | ((first | (with_reducible first | refine iBk ?_ | refine iRQ (fun Q' hQ => ?_) | (refine Imp.go hQ ?_; clear hQ) | refine th_ho ?_ | refine th_stop ?_ ?_ | refine th_opm ?_ (by kernel_rfl) (aLr ?_) | refine th_altm ?_ (by kernel_rfl) (aLr ?_) ?_) | ((with_reducible refine i_condT ?_ ?_); (focus (simp only [go_sem, *]; done))) | ((with_reducible refine i_condF ?_ ?_); (focus (simp only [go_sem, *]; done))) | ((with_reducible first | refine rOg (fun h => ?_) (fun h => ?_) | refine i_cond (by simp only [go_sem, *] <;> rfl) (fun h => ?_) (fun h => ?_)) <;> (try simp only [nqA, nqB, nqC, reduceCtorEq] at h) <;> (try have h' := odT h) <;> (try (have hz : (_ : Int) = (_ : Int) := h'; clear hz h')) <;> (try have h' := odF h) <;> (try have h' := inB_t h) <;> (try (exfalso; omega)))) <;> (try simp (disch := omega) only [go_sem, reduceCtorEq, *])))
  all_goals (try simp (disch := omega) only [EndK, go_sem, reduceCtorEq, nLo, *])
  all_goals
   refine weak_fit2 9 2 0 7 [[.ref 1 0 L.length, iV z.size, iV 0, iV 0, .v (.slice none 0 0), .v (.slice none 0 0), .v (.slice none 0 0)]] [.ref 1 0 L.length, iV z.size, iV 0, iV 0, .v (.slice none 0 0), .v (.slice none 0 0), .v (.slice none 0 0)] (rdT (startR L z)) rfl rfl ?_ rfl ?_
   ·simp (disch := omega) [go_sem, startR, ezn, ezm, ezp, isNil]
   ·simp (disch := omega) only [go_sem, startR, ezn, ezm, ezp, isNil]
    first | (refine wCn [2, 4, 6] [0, 2, 1] ?_ ?_ ?_ <;> (simp (disch := omega) only [go_sem, startR, ezn, ezm, ezp]; done))
 refine s_cut ⟨mkEnv 64 [(2, .one (.ptr 0 0 0)), (4, .one (.ref 2 0 L.length)), (6, .one (.ptr 1 0 0))], [.live 3 [[.v nilV, .v nilV, .v nilV]], .live 7 [rdT X1], .dead]⟩ ?_ ?_
 ·clear cw cg hX2 hdot hgood
  simp (disch := omega) only [go_sem]
  have x1 : HH 13 (.ho [1, 2, 3, 4] (opm 0 [4] [true] (opm 5 [4] [true] (.ho [6] (.stop))))) := ⟨⟩
  refine wkc ?_
  refine i_loop (α := {x : Nat × Rd // Top (z.size : Int) L.length 501 x.1 x.2 ∧ monsF x.1 x.2 = X1}) (fun x => ⟨mkEnv 64 [(2, .one (.ptr 0 0 0)), (4, .one (.ref 2 0 L.length)), (6, .one (.ptr 1 0 0))], [.live 3 [[.v nilV, .v nilV, .v nilV]], .live 7 [rdT x.1.2], .dead]⟩) (fun x => x.1.1) ⟨(L.length + 1, startR L z), tp0, hX1⟩ ?_ ?_
  ·first | exact wc [2, 4, 6] [0, 1, 2]
  rintro ⟨⟨m, Y⟩, ht, he⟩
  dsimp only at ht he ⊢
  obtain ⟨m, rfl⟩ : ∃ m', m = m' + 1 := ⟨m - 1, by have := ht.left; omega⟩
  have ct := rTake_ok Y k_monitor (by decide) ht.ok
  cases q : isR Y k_monitor
  ·rw [take_no q, q] at ct
   unfold monsF at he
   rw [q, if_neg (by simp)] at he
   subst he
   clear ht
   simp (disch := omega) only [go_sem]
   have x1 : HH 13 (.ho [1, 2, 3, 4] (opm 0 [4] [true] (opm 5 [4] [true] (.ho [6] (.stop))))) := ⟨⟩
   have x2 : HW 0 [2, 4, 6] [0, 1, 2] := ⟨⟩
   exact wkz
  ·rw [take_yes q, q] at ct
   unfold monsF at he
   rw [q, if_pos rfl] at he
   obtain ⟨t1, t2, t3, t4⟩ := top_mon ht q
   have cm := rMonitor_ok (advR Y) t1 (by omega) (by omega)
   have hadv : advR Y = ⟨Y.list, Y.size, Y.cur + 1, Y.place, Y.prog⟩ := rfl
   obtain ⟨Y2, hY2⟩ : ∃ x, monR (advR Y) = x := ⟨_, rfl⟩
   have cm2 := cm
   rw [show addMon (monOf (advR Y)).1 (monOf (advR Y)).2 = Y2 from hY2] at cm2
   rw [hY2] at t4 he
   rw [hadv] at ct cm2
   clear hadv hY2 cm t1 t2 t3 ht q
   simp (disch := omega) only [go_sem]
   have x1 : HH 13 (.ho [1, 2, 3, 4] (opm 0 [4] [true] (opm 5 [4] [true] (.ho [6] (.stop))))) := ⟨⟩
   refine wkzr ?_
   intros
   all_goals refine ⟨⟨(m, Y2), t4, he⟩, ?_, by simp only; omega⟩
   all_goals first | exact wc [2, 4, 6] [0, 1, 2]
 refine s_cut ⟨mkEnv 64 [(2, .one (.ptr 0 0 0)), (4, .one (.ref 2 0 L.length)), (6, .one (.ptr 1 0 0))], [.live 3 [[.v nilV, .v nilV, .v nilV]], .live 7 [rdT X2], .dead]⟩ ?_ ?_
 ·clear cw cg hdot hgood
  simp (disch := omega) only [go_sem]
  have x1 : HH 13 (.ho [1, 2, 3, 4] (opm 0 [4] [true] (opm 5 [4] [true] (.ho [6] (.stop))))) := ⟨⟩
  refine wkc ?_
  refine i_loop (α := {x : Nat × Rd // Top (z.size : Int) L.length 1200 x.1 x.2 ∧ procsF x.1 x.2 = X2}) (fun x => ⟨mkEnv 64 [(2, .one (.ptr 0 0 0)), (4, .one (.ref 2 0 L.length)), (6, .one (.ptr 1 0 0))], [.live 3 [[.v nilV, .v nilV, .v nilV]], .live 7 [rdT x.1.2], .dead]⟩) (fun x => x.1.1) ⟨(L.length + 1, X1), tp2, hX2⟩ ?_ ?_
  ·first | exact wc [2, 4, 6] [0, 1, 2]
  rintro ⟨⟨m, Y⟩, ht, he⟩
  dsimp only at ht he ⊢
  obtain ⟨m, rfl⟩ : ∃ m', m = m' + 1 := ⟨m - 1, by have := ht.left; omega⟩
  have ct := rTake_ok Y k_process (by decide) ht.ok
  cases q : isR Y k_process
  ·rw [take_no q, q] at ct
   unfold procsF at he
   rw [q, if_neg (by simp)] at he
   subst he
   clear ht
   simp (disch := omega) only [go_sem]
   have x1 : HH 13 (.ho [1, 2, 3, 4] (opm 0 [4] [true] (opm 5 [4] [true] (.ho [6] (.stop))))) := ⟨⟩
   have x2 : HW 0 [2, 4, 6] [0, 1, 2] := ⟨⟩
   exact wkz
  ·rw [take_yes q, q] at ct
   unfold procsF at he
   rw [q, if_pos rfl] at he
   obtain ⟨t1, t2, t3, t4⟩ := top_proc ht q
   have cm := rProcess_ok (advR Y) t1 (by omega) (by omega)
   have hadv : advR Y = ⟨Y.list, Y.size, Y.cur + 1, Y.place, Y.prog⟩ := rfl
   obtain ⟨Y2, hY2⟩ : ∃ x, procR (advR Y) = x := ⟨_, rfl⟩
   have cm2 := cm
   rw [show addProc (procOf (advR Y)).1 (procOf (advR Y)).2 = Y2 from hY2] at cm2
   rw [hY2] at t4 he
   rw [hadv] at ct cm2
   clear hadv hY2 cm t1 t2 t3 ht q
   simp (disch := omega) only [go_sem]
   have x1 : HH 13 (.ho [1, 2, 3, 4] (opm 0 [4] [true] (opm 5 [4] [true] (.ho [6] (.stop))))) := ⟨⟩
   refine wkzr ?_
   intros
   all_goals refine ⟨⟨(m, Y2), t4, he⟩, ?_, by simp only; omega⟩
   all_goals first | exact wc [2, 4, 6] [0, 1, 2]
 clear hX1 hX2
 refine s_cut ⟨mkEnv 64 [(2, .one (.ptr 0 0 0)), (4, .one (.ref 2 0 L.length)), (6, .one (.ptr 1 0 0))], [.live 3 [[.v nilV, .v nilV, .v nilV]], .live 7 [rdT X3], .dead]⟩ ?_ ?_
 ·clear cg hdot hgood
  simp (disch := omega) only [go_sem]
  have x1 := @dot_rows
  have x2 := @tSi
  have x3 := @List.length_singleton.{0}
  have x4 : HH 13 (.ho [1, 2, 3, 4] (opm 0 [4] [true] (opm 5 [4] [true] (.ho [6] (.stop))))) := ⟨⟩
  have x5 : HW 0 [2, 4, 6] [0, 1, 2] := ⟨⟩
  exact wkz
 refine s_cut ⟨mkEnv 64 [(2, .one (.ptr 0 0 0)), (4, .one (.ref 2 0 L.length)), (6, .one (.ptr 1 0 0))], [.live 3 [[.v nilV, .v nilV, .v nilV]], .live 7 [rdT X4], .dead]⟩ ?_ ?_
 ·clear cw hgood
  have hl4 : (X3.list.length : Int) = (L.length : Int) := by rw [hl3]
  rw [hl4] at hdot
  clear hl4 hl3
  cases q : decide ((X3.cur : Int) < (L.length : Int))
  ·rw [q, if_neg (by simp)] at hdot
   subst hdot
   clear cg
   simp (disch := omega) only [go_sem]
   have x1 : HH 13 (.ho [1, 2, 3, 4] (opm 0 [4] [true] (opm 5 [4] [true] (.ho [6] (.stop))))) := ⟨⟩
   have x2 : HW 0 [2, 4, 6] [0, 1, 2] := ⟨⟩
   exact wkz
  ·rw [q, if_pos rfl] at hdot
   rw [← hdot] at cg
   clear hdot
   simp (disch := omega) only [go_sem]
   have x1 : HH 13 (.ho [1, 2, 3, 4] (opm 0 [4] [true] (opm 5 [4] [true] (.ho [6] (.stop))))) := ⟨⟩
   have x2 : HW 0 [2, 4, 6] [0, 1, 2] := ⟨⟩
   exact wkz
 clear cw cg hdot hl3
 obtain ⟨list, size, cur, place, ⟨nodes, monitors, processes⟩⟩ := X4
 dsimp only at hgood ⊢
 refine s_names (names_at 1 0 (rdT ⟨list, size, cur, place, ⟨nodes, monitors, processes⟩⟩) rfl (by with_reducible rfl) (by simp (disch := omega) only [go_sem])) ?_
 simp (disch := omega) only [go_sem]
 refine s_of_a ?_
 cases q1 : (place != 0)
 rotate_left
 ·rw [if_pos rfl]
  dsimp only
  clear hgood
  try simp (disch := omega) only [go_sem]
  have x1 := @programZ.eq_1
  have x2 : HH 13 (.ho [1, 2, 3, 4] (opm 0 [4] [true] (opm 5 [4] [true] (.ho [6] (.stop))))) := ⟨⟩
  exact wk
 rw [if_neg (by simp)]
 have sm := hgood q1
 have cp := iProgram_ok _ (smP_tst sm)
 have b1 := sm.nodes.1
 have b2 := sm.monitors.1
 have b3 := sm.processes.1
 dsimp only at b1 b2 b3
 clear hgood sm
 cases q2 : progB ⟨nodes, monitors, processes⟩
 ·rw [q2] at cp
  rw [if_pos rfl]
  dsimp only
  try simp (disch := omega) only [go_sem]
  have x1 := @programZ.eq_1
  have x2 : HH 13 (.ho [1, 2, 3, 4] (opm 0 [4] [true] (opm 5 [4] [true] (.ho [6] (.stop))))) := ⟨⟩
  exact wk
 ·rw [q2] at cp
  rw [if_neg (by simp)]
  dsimp only
  try simp (disch := omega) only [go_sem]
  have x1 : HH 13 (.ho [1, 2, 3, 4] (opm 0 [4] [true] (opm 5 [4] [true] (.ho [6] (.stop))))) := ⟨⟩
  exact wk
end Go.Proofs.YtejnpiielcbkkaaGreat.E
