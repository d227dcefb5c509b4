/- A part of what stands under the laws of this seat: an abstract evaluator that is proved sound, and contracts of functions by it. No condition beside those that stand in each statement. -/
import Derived.Test.YtejnpiielcbkkaaGreatZU1
set_option linter.unusedVariables false
set_option linter.unusedSimpArgs false
section
set_option maxRecDepth 100000
set_option maxHeartbeats 4000000
namespace Go.Proofs.YtejnpiielcbkkaaGreat.E
def DoesR (f : FuncId) (n : Nat) (P : Rs → Rs × Int) : Prop := ∀ s, RsOk s → s.list.length - s.cur < n → potS s ≤ 1000000 → CallOk Tryz.prog f [.one (.box (rsT s))] (.s (.one (iV (P s).2))) [some (.box (rsT (P s).1))]
theorem nodesS_le {s : Rs} : s.nodes.length ≤ potS s := Nat.le_add_right _ _
theorem sCalcR_ok (s : Rs) (o a b : Int) (hN : s.nodes.length ≤ 1000000) : CallOk Tryz.prog 256 [.one (.box (rsT s)), .one (iV o), .one (iV a), .one (iV b)] (.s (.one (iV (putS s ⟨3, o, noB, noB, noB, [a, b]⟩).2))) [some (.box (rsT (putS s ⟨3, o, noB, noB, noB, [a, b]⟩).1)), none, none, none] := by
 have hput := sPut_ok s ⟨3, o, noB, noB, noB, [a, b]⟩ (by omega) (by simp)
 obtain ⟨⟨Z, z⟩, hZ⟩ : ∃ x, putS s ⟨3, o, noB, noB, noB, [a, b]⟩ = x := ⟨_, rfl⟩
 rw [hZ] at hput ⊢
 dsimp only at hput ⊢
 clear hZ
 have hkd : intsT [a, b] = [[T.v (.int .i64 a)], [T.v (.int .i64 b)]] := rfl
 refine cOh 40 (hBd Tryz.func256 rfl (by kernel_rfl) ?_)
 simp (disch := omega) only [go_sem, Tryz.ntmps256, Tryz.results256]
 have x1 := @aNl
 have x2 : HB 0 _ := ⟨hput⟩
 exact wks
theorem sTermR_ok (P : Rs → Rs × Int) (n : Nat) (hP : PartS n P) (hcP : DoesR 277 n P) : DoesR 275 n (chainS P lMul 3) := by
 intro s h hn hp
 have hfirst := hcP s h hn hp
 obtain ⟨q1, q2, q3, q4⟩ := hP s h hn
 obtain ⟨⟨R0, k0⟩, hR0⟩ : ∃ x, P s = x := ⟨_, rfl⟩
 have hch : chainS P lMul 3 s = chS P lMul 3 (s.list.length + 1) R0 k0 := by unfold chainS; rw [hR0]
 rw [hR0] at hfirst q1 q2 q3 q4
 dsimp only at hfirst q1 q2 q3 q4
 rw [hch]
 clear hch hR0
 obtain ⟨⟨RR, RK⟩, hRES⟩ : ∃ x, chS P lMul 3 (s.list.length + 1) R0 k0 = x := ⟨_, rfl⟩
 rw [hRES]
 dsimp only
 have hLe : (lMul).length = 3 := rfl
 have q5 : R0.list.length ≤ s.list.length := by rw [q2]; exact Nat.le_refl _
 have q6 : s.list.length ≤ R0.list.length := by rw [q2]; exact Nat.le_refl _
 clear q2
 refine cOh 40 (hBd Tryz.func275 rfl (by kernel_rfl) ?_)
 simp (disch := omega) only [go_sem, Tryz.ntmps275, Tryz.results275]
 repeat' (first | (with_reducible first | refine i_seq ?_) | ((first | (with_reducible first | refine iBk ?_ | refine iRQ (fun Q' hQ => ?_) | (refine Imp.go hQ ?_; clear hQ)) | ((with_reducible refine i_condT ?_ ?_); (focus (simp only [go_sem, *]; done))) | ((with_reducible refine i_condF ?_ ?_); (focus (simp only [go_sem, *]; done))) | ((with_reducible first | refine rOg (fun h => ?_) (fun h => ?_) | refine i_cond (by simp only [go_sem, *] <;> rfl) (fun h => ?_) (fun h => ?_)) <;> (try simp only [nqA, nqB, nqC, reduceCtorEq] at h) <;> (try have h' := odT h) <;> (try (have hz : (_ : Int) = (_ : Int) := h'; clear hz h')) <;> (try have h' := odF h) <;> (try have h' := inB_t h) <;> (try (exfalso; omega))) | (((with_reducible refine hcO 40 false (hfirst) ?_ ?_ ?_ ?_ ?_); iterate 4 (focus (simp (disch := omega) only [go_sem, reduceCtorEq, nLo]; done))); simp only [go_sem, reduceCtorEq]; refine aLr ?_)) <;> (try simp (disch := first | omega | (simp only [sAp, size_mk, List.size_toArray, List.length_cons, List.length_nil]; omega)) only [go_sem, reduceCtorEq, *])))
 all_goals (try simp (disch := omega) only [EndK, go_sem, reduceCtorEq, nLo, *])
 refine i_loop (α := {x : Nat × Rs × Int // RsOk x.2.1 ∧ x.2.1.list.length - x.2.1.cur < n ∧ x.2.1.list.length - x.2.1.cur < x.1 ∧ potS x.2.1 ≤ 1000000 ∧ chS P lMul 3 x.1 x.2.1 x.2.2 = (RR, RK)}) (fun x => ⟨mkEnv 27 [(0, .one (.ptr 0 0 0)), (3, .one (iV x.1.2.2))], [.live 4 [rsT x.1.2.1]]⟩) (fun x => x.1.1) ⟨(s.list.length + 1, R0, k0), q1, by dsimp only; omega, by dsimp only; omega, by dsimp only; omega, hRES⟩ ?_ ?_
 ·first | exact wc [0, 3] []
 rintro ⟨⟨m, X, k⟩, g1, g2, g3, g4, he⟩
 dsimp only at g1 g2 g3 g4 he ⊢
 clear hfirst q1 q3 q4 q5 q6 hRES h hn hp
 obtain ⟨m, rfl⟩ : ∃ m', m = m' + 1 := ⟨m - 1, by omega⟩
 have hco : chS P lMul 3 (m + 1) X k = if X.bad = true then (X, k) else if ((opN lMul X 3).2 == 0) = true then ((opN lMul X 3).1, k) else chS P lMul 3 m (calcS P (opN lMul X 3) k).1 (calcS P (opN lMul X 3) k).2 := rfl
 rw [hco] at he
 clear hco
 have hop := sOp_ok X lMul 3 g1 (by rw [hLe]; omega) (by omega)
 obtain ⟨ok1, ok2⟩ := op_keepS (L := lMul) (f := 3) g1
 have ck := fun h0 => calcS_keep (k := k) hP (L := lMul) (f := 3) g1 (by omega) h0
 have ob := opN_bd (L := lMul) (s := X) (f := 3) (by omega)
 rw [hLe] at ob
 have hcal : calcS P (opN lMul X 3) k = putS (P (opN lMul X 3).1).1 ⟨3, (opN lMul X 3).2, noB, noB, noB, [k, (P (opN lMul X 3).1).2]⟩ := rfl
 rw [hcal] at he ck
 clear hcal
 obtain ⟨⟨O, o⟩, hO⟩ : ∃ x, opN lMul X 3 = x := ⟨_, rfl⟩
 rw [hO] at hop ok1 ok2 ck he ob
 dsimp only at hop ok1 ok2 ck he ob
 clear hO
 have gl := g1.len
 obtain ⟨list, cur, bad, nodes⟩ := X
 dsimp only at g2 g3 gl
 cases bad
 ·rw [if_neg (by simp)] at he
  cases h0 : (o == 0)
  ·rw [h0, if_neg (by simp)] at he
   have h0' : o ≠ 0 := beq_eq_false_iff_ne.1 h0
   obtain ⟨hc, -⟩ := ok2 h0'
   dsimp only at hc
   obtain ⟨c0, c5⟩ := ck h0'
   have gn : O.list.length - O.cur < n := ok1.left g2
   have gp : potS O ≤ 1000000 := Nat.le_trans ok1.2.2.2 g4
   have hpart := hcP O ok1.1 gn gp
   have hpk := (hP O ok1.1 gn).2.2.2
   obtain ⟨⟨Y, b⟩, hY⟩ : ∃ x, P O = x := ⟨_, rfl⟩
   rw [hY] at hpart c0 c5 he hpk
   dsimp only at hpart c0 c5 he hpk
   have hnd : Y.nodes.length ≤ 1000000 := Nat.le_trans nodesS_le (Nat.le_trans hpk gp)
   have hcalc := sCalcR_ok Y o k b hnd
   obtain ⟨⟨Z, z⟩, hZ⟩ : ∃ x, putS Y ⟨3, o, noB, noB, noB, [k, b]⟩ = x := ⟨_, rfl⟩
   rw [hZ] at hcalc c0 c5 he
   dsimp only at hcalc c0 c5 he
   obtain ⟨c1, c2, c3, c4⟩ := c0
   dsimp only at c2 c3
   have c6 : Z.list.length ≤ list.length := by rw [c2]; exact Nat.le_refl _
   have c7 : list.length ≤ Z.list.length := by rw [c2]; exact Nat.le_refl _
   clear c2 hY hZ ok1 ok2 ck hnd
   simp (disch := omega) only [go_sem]
   repeat' (first | (with_reducible first | refine i_seq ?_) | ((first | (with_reducible first | refine iBk ?_ | refine iRQ (fun Q' hQ => ?_) | (refine Imp.go hQ ?_; clear hQ)) | ((with_reducible refine i_condT ?_ ?_); (focus (simp only [go_sem, *]; done))) | ((with_reducible refine i_condF ?_ ?_); (focus (simp only [go_sem, *]; done))) | ((with_reducible first | refine rOg (fun h => ?_) (fun h => ?_) | refine i_cond (by simp only [go_sem, *] <;> rfl) (fun h => ?_) (fun h => ?_)) <;> (try simp only [nqA, nqB, nqC, reduceCtorEq] at h) <;> (try have h' := odT h) <;> (try (have hz : (_ : Int) = (_ : Int) := h'; clear hz h')) <;> (try have h' := odF h) <;> (try have h' := inB_t h) <;> (try (exfalso; omega))) | ((first | ((with_reducible refine hcO 40 false (hop) ?_ ?_ ?_ ?_ ?_); iterate 4 (focus (simp (disch := omega) only [go_sem, lMul_rows, lMul_take, hLe, h0, reduceCtorEq, nLo]; done))) | ((with_reducible refine hcO 40 false (hpart) ?_ ?_ ?_ ?_ ?_); iterate 4 (focus (simp (disch := omega) only [go_sem, lMul_rows, lMul_take, hLe, h0, reduceCtorEq, nLo]; done))) | ((with_reducible refine hcO 40 false (hcalc) ?_ ?_ ?_ ?_ ?_); iterate 4 (focus (simp (disch := omega) only [go_sem, lMul_rows, lMul_take, hLe, h0, reduceCtorEq, nLo]; done)))); simp only [go_sem, lMul_rows, lMul_take, hLe, h0, reduceCtorEq]; refine aLr ?_)) <;> (try simp (disch := first | omega | (simp only [sAp, size_mk, List.size_toArray, List.length_cons, List.length_nil]; omega)) only [go_sem, lMul_rows, lMul_take, hLe, h0, reduceCtorEq, *])))
   all_goals (try simp (disch := omega) only [EndK, go_sem, lMul_rows, lMul_take, hLe, h0, reduceCtorEq, nLo, *])
   all_goals refine ⟨⟨(m, Z, z), c1, by dsimp only; omega, by dsimp only; omega, by dsimp only; omega, he⟩, ?_, by simp only; omega⟩
   all_goals first | exact wc [0, 3] []
  ·rw [h0, if_pos rfl] at he
   obtain ⟨rfl, rfl⟩ := Prod.mk.inj he
   clear ok1 ok2 ck
   simp (disch := omega) only [go_sem]
   have x1 := @lMul_rows
   have x2 := @lMul_take
   have x3 : HB 0 _ := ⟨hop⟩
   exact wks
 ·rw [if_pos rfl] at he
  obtain ⟨rfl, rfl⟩ := Prod.mk.inj he
  clear ok1 ok2 ck
  simp (disch := omega) only [go_sem]
  exact wks
end Go.Proofs.YtejnpiielcbkkaaGreat.E
end
section
set_option maxRecDepth 100000
set_option maxHeartbeats 4000000
namespace Go.Proofs.YtejnpiielcbkkaaGreat.E
theorem sSumR_ok (P : Rs → Rs × Int) (n : Nat) (hP : PartS n P) (hcP : DoesR 275 n P) : DoesR 272 n (chainS P lAdd 1) := by
 intro s h hn hp
 have hfirst := hcP s h hn hp
 obtain ⟨q1, q2, q3, q4⟩ := hP s h hn
 obtain ⟨⟨R0, k0⟩, hR0⟩ : ∃ x, P s = x := ⟨_, rfl⟩
 have hch : chainS P lAdd 1 s = chS P lAdd 1 (s.list.length + 1) R0 k0 := by unfold chainS; rw [hR0]
 rw [hR0] at hfirst q1 q2 q3 q4
 dsimp only at hfirst q1 q2 q3 q4
 rw [hch]
 clear hch hR0
 obtain ⟨⟨RR, RK⟩, hRES⟩ : ∃ x, chS P lAdd 1 (s.list.length + 1) R0 k0 = x := ⟨_, rfl⟩
 rw [hRES]
 dsimp only
 have hLe : (lAdd).length = 2 := rfl
 have q5 : R0.list.length ≤ s.list.length := by rw [q2]; exact Nat.le_refl _
 have q6 : s.list.length ≤ R0.list.length := by rw [q2]; exact Nat.le_refl _
 clear q2
 refine cOh 40 (hBd Tryz.func272 rfl (by kernel_rfl) ?_)
 simp (disch := omega) only [go_sem, Tryz.ntmps272, Tryz.results272]
 repeat' (first | (with_reducible first | refine i_seq ?_) | ((first | (with_reducible first | refine iBk ?_ | refine iRQ (fun Q' hQ => ?_) | (refine Imp.go hQ ?_; clear hQ)) | ((with_reducible refine i_condT ?_ ?_); (focus (simp only [go_sem, *]; done))) | ((with_reducible refine i_condF ?_ ?_); (focus (simp only [go_sem, *]; done))) | ((with_reducible first | refine rOg (fun h => ?_) (fun h => ?_) | refine i_cond (by simp only [go_sem, *] <;> rfl) (fun h => ?_) (fun h => ?_)) <;> (try simp only [nqA, nqB, nqC, reduceCtorEq] at h) <;> (try have h' := odT h) <;> (try (have hz : (_ : Int) = (_ : Int) := h'; clear hz h')) <;> (try have h' := odF h) <;> (try have h' := inB_t h) <;> (try (exfalso; omega))) | (((with_reducible refine hcO 40 false (hfirst) ?_ ?_ ?_ ?_ ?_); iterate 4 (focus (simp (disch := omega) only [go_sem, reduceCtorEq, nLo]; done))); simp only [go_sem, reduceCtorEq]; refine aLr ?_)) <;> (try simp (disch := first | omega | (simp only [sAp, size_mk, List.size_toArray, List.length_cons, List.length_nil]; omega)) only [go_sem, reduceCtorEq, *])))
 all_goals (try simp (disch := omega) only [EndK, go_sem, reduceCtorEq, nLo, *])
 refine i_loop (α := {x : Nat × Rs × Int // RsOk x.2.1 ∧ x.2.1.list.length - x.2.1.cur < n ∧ x.2.1.list.length - x.2.1.cur < x.1 ∧ potS x.2.1 ≤ 1000000 ∧ chS P lAdd 1 x.1 x.2.1 x.2.2 = (RR, RK)}) (fun x => ⟨mkEnv 27 [(0, .one (.ptr 0 0 0)), (3, .one (iV x.1.2.2))], [.live 4 [rsT x.1.2.1]]⟩) (fun x => x.1.1) ⟨(s.list.length + 1, R0, k0), q1, by dsimp only; omega, by dsimp only; omega, by dsimp only; omega, hRES⟩ ?_ ?_
 ·first | exact wc [0, 3] []
 rintro ⟨⟨m, X, k⟩, g1, g2, g3, g4, he⟩
 dsimp only at g1 g2 g3 g4 he ⊢
 clear hfirst q1 q3 q4 q5 q6 hRES h hn hp
 obtain ⟨m, rfl⟩ : ∃ m', m = m' + 1 := ⟨m - 1, by omega⟩
 have hco : chS P lAdd 1 (m + 1) X k = if X.bad = true then (X, k) else if ((opN lAdd X 1).2 == 0) = true then ((opN lAdd X 1).1, k) else chS P lAdd 1 m (calcS P (opN lAdd X 1) k).1 (calcS P (opN lAdd X 1) k).2 := rfl
 rw [hco] at he
 clear hco
 have hop := sOp_ok X lAdd 1 g1 (by rw [hLe]; omega) (by omega)
 obtain ⟨ok1, ok2⟩ := op_keepS (L := lAdd) (f := 1) g1
 have ck := fun h0 => calcS_keep (k := k) hP (L := lAdd) (f := 1) g1 (by omega) h0
 have ob := opN_bd (L := lAdd) (s := X) (f := 1) (by omega)
 rw [hLe] at ob
 have hcal : calcS P (opN lAdd X 1) k = putS (P (opN lAdd X 1).1).1 ⟨3, (opN lAdd X 1).2, noB, noB, noB, [k, (P (opN lAdd X 1).1).2]⟩ := rfl
 rw [hcal] at he ck
 clear hcal
 obtain ⟨⟨O, o⟩, hO⟩ : ∃ x, opN lAdd X 1 = x := ⟨_, rfl⟩
 rw [hO] at hop ok1 ok2 ck he ob
 dsimp only at hop ok1 ok2 ck he ob
 clear hO
 have gl := g1.len
 obtain ⟨list, cur, bad, nodes⟩ := X
 dsimp only at g2 g3 gl
 cases bad
 ·rw [if_neg (by simp)] at he
  cases h0 : (o == 0)
  ·rw [h0, if_neg (by simp)] at he
   have h0' : o ≠ 0 := beq_eq_false_iff_ne.1 h0
   obtain ⟨hc, -⟩ := ok2 h0'
   dsimp only at hc
   obtain ⟨c0, c5⟩ := ck h0'
   have gn : O.list.length - O.cur < n := ok1.left g2
   have gp : potS O ≤ 1000000 := Nat.le_trans ok1.2.2.2 g4
   have hpart := hcP O ok1.1 gn gp
   have hpk := (hP O ok1.1 gn).2.2.2
   obtain ⟨⟨Y, b⟩, hY⟩ : ∃ x, P O = x := ⟨_, rfl⟩
   rw [hY] at hpart c0 c5 he hpk
   dsimp only at hpart c0 c5 he hpk
   have hnd : Y.nodes.length ≤ 1000000 := Nat.le_trans nodesS_le (Nat.le_trans hpk gp)
   have hcalc := sCalcR_ok Y o k b hnd
   obtain ⟨⟨Z, z⟩, hZ⟩ : ∃ x, putS Y ⟨3, o, noB, noB, noB, [k, b]⟩ = x := ⟨_, rfl⟩
   rw [hZ] at hcalc c0 c5 he
   dsimp only at hcalc c0 c5 he
   obtain ⟨c1, c2, c3, c4⟩ := c0
   dsimp only at c2 c3
   have c6 : Z.list.length ≤ list.length := by rw [c2]; exact Nat.le_refl _
   have c7 : list.length ≤ Z.list.length := by rw [c2]; exact Nat.le_refl _
   clear c2 hY hZ ok1 ok2 ck hnd
   simp (disch := omega) only [go_sem]
   repeat' (first | (with_reducible first | refine i_seq ?_) | ((first | (with_reducible first | refine iBk ?_ | refine iRQ (fun Q' hQ => ?_) | (refine Imp.go hQ ?_; clear hQ)) | ((with_reducible refine i_condT ?_ ?_); (focus (simp only [go_sem, *]; done))) | ((with_reducible refine i_condF ?_ ?_); (focus (simp only [go_sem, *]; done))) | ((with_reducible first | refine rOg (fun h => ?_) (fun h => ?_) | refine i_cond (by simp only [go_sem, *] <;> rfl) (fun h => ?_) (fun h => ?_)) <;> (try simp only [nqA, nqB, nqC, reduceCtorEq] at h) <;> (try have h' := odT h) <;> (try (have hz : (_ : Int) = (_ : Int) := h'; clear hz h')) <;> (try have h' := odF h) <;> (try have h' := inB_t h) <;> (try (exfalso; omega))) | ((first | ((with_reducible refine hcO 40 false (hop) ?_ ?_ ?_ ?_ ?_); iterate 4 (focus (simp (disch := omega) only [go_sem, lAdd_rows, lAdd_take, hLe, h0, reduceCtorEq, nLo]; done))) | ((with_reducible refine hcO 40 false (hpart) ?_ ?_ ?_ ?_ ?_); iterate 4 (focus (simp (disch := omega) only [go_sem, lAdd_rows, lAdd_take, hLe, h0, reduceCtorEq, nLo]; done))) | ((with_reducible refine hcO 40 false (hcalc) ?_ ?_ ?_ ?_ ?_); iterate 4 (focus (simp (disch := omega) only [go_sem, lAdd_rows, lAdd_take, hLe, h0, reduceCtorEq, nLo]; done)))); simp only [go_sem, lAdd_rows, lAdd_take, hLe, h0, reduceCtorEq]; refine aLr ?_)) <;> (try simp (disch := first | omega | (simp only [sAp, size_mk, List.size_toArray, List.length_cons, List.length_nil]; omega)) only [go_sem, lAdd_rows, lAdd_take, hLe, h0, reduceCtorEq, *])))
   all_goals (try simp (disch := omega) only [EndK, go_sem, lAdd_rows, lAdd_take, hLe, h0, reduceCtorEq, nLo, *])
   all_goals refine ⟨⟨(m, Z, z), c1, by dsimp only; omega, by dsimp only; omega, by dsimp only; omega, he⟩, ?_, by simp only; omega⟩
   all_goals first | exact wc [0, 3] []
  ·rw [h0, if_pos rfl] at he
   obtain ⟨rfl, rfl⟩ := Prod.mk.inj he
   clear ok1 ok2 ck
   simp (disch := omega) only [go_sem]
   have x1 := @lAdd_rows
   have x2 := @lAdd_take
   have x3 : HB 0 _ := ⟨hop⟩
   exact wks
 ·rw [if_pos rfl] at he
  obtain ⟨rfl, rfl⟩ := Prod.mk.inj he
  clear ok1 ok2 ck
  simp (disch := omega) only [go_sem]
  exact wks
end Go.Proofs.YtejnpiielcbkkaaGreat.E
end
section
set_option maxRecDepth 100000
set_option maxHeartbeats 4000000
namespace Go.Proofs.YtejnpiielcbkkaaGreat.E
theorem sValueR_ok (P : Rs → Rs × Int) (n : Nat) (hP : PartS n P) (hcP : DoesR 254 n P) : DoesR 214 n (chainS P lAnd 8) := by
 intro s h hn hp
 have hfirst := hcP s h hn hp
 obtain ⟨q1, q2, q3, q4⟩ := hP s h hn
 obtain ⟨⟨R0, k0⟩, hR0⟩ : ∃ x, P s = x := ⟨_, rfl⟩
 have hch : chainS P lAnd 8 s = chS P lAnd 8 (s.list.length + 1) R0 k0 := by unfold chainS; rw [hR0]
 rw [hR0] at hfirst q1 q2 q3 q4
 dsimp only at hfirst q1 q2 q3 q4
 rw [hch]
 clear hch hR0
 obtain ⟨⟨RR, RK⟩, hRES⟩ : ∃ x, chS P lAnd 8 (s.list.length + 1) R0 k0 = x := ⟨_, rfl⟩
 rw [hRES]
 dsimp only
 have hLe : (lAnd).length = 2 := rfl
 have q5 : R0.list.length ≤ s.list.length := by rw [q2]; exact Nat.le_refl _
 have q6 : s.list.length ≤ R0.list.length := by rw [q2]; exact Nat.le_refl _
 clear q2
 refine cOh 40 (hBd Tryz.func214 rfl (by kernel_rfl) ?_)
 simp (disch := omega) only [go_sem, Tryz.ntmps214, Tryz.results214]
 repeat' (first | (with_reducible first | refine i_seq ?_) | ((first | (with_reducible first | refine iBk ?_ | refine iRQ (fun Q' hQ => ?_) | (refine Imp.go hQ ?_; clear hQ)) | ((with_reducible refine i_condT ?_ ?_); (focus (simp only [go_sem, *]; done))) | ((with_reducible refine i_condF ?_ ?_); (focus (simp only [go_sem, *]; done))) | ((with_reducible first | refine rOg (fun h => ?_) (fun h => ?_) | refine i_cond (by simp only [go_sem, *] <;> rfl) (fun h => ?_) (fun h => ?_)) <;> (try simp only [nqA, nqB, nqC, reduceCtorEq] at h) <;> (try have h' := odT h) <;> (try (have hz : (_ : Int) = (_ : Int) := h'; clear hz h')) <;> (try have h' := odF h) <;> (try have h' := inB_t h) <;> (try (exfalso; omega))) | (((with_reducible refine hcO 40 false (hfirst) ?_ ?_ ?_ ?_ ?_); iterate 4 (focus (simp (disch := omega) only [go_sem, reduceCtorEq, nLo]; done))); simp only [go_sem, reduceCtorEq]; refine aLr ?_)) <;> (try simp (disch := first | omega | (simp only [sAp, size_mk, List.size_toArray, List.length_cons, List.length_nil]; omega)) only [go_sem, reduceCtorEq, *])))
 all_goals (try simp (disch := omega) only [EndK, go_sem, reduceCtorEq, nLo, *])
 refine i_loop (α := {x : Nat × Rs × Int // RsOk x.2.1 ∧ x.2.1.list.length - x.2.1.cur < n ∧ x.2.1.list.length - x.2.1.cur < x.1 ∧ potS x.2.1 ≤ 1000000 ∧ chS P lAnd 8 x.1 x.2.1 x.2.2 = (RR, RK)}) (fun x => ⟨mkEnv 27 [(0, .one (.ptr 0 0 0)), (3, .one (iV x.1.2.2))], [.live 4 [rsT x.1.2.1]]⟩) (fun x => x.1.1) ⟨(s.list.length + 1, R0, k0), q1, by dsimp only; omega, by dsimp only; omega, by dsimp only; omega, hRES⟩ ?_ ?_
 ·first | exact wc [0, 3] []
 rintro ⟨⟨m, X, k⟩, g1, g2, g3, g4, he⟩
 dsimp only at g1 g2 g3 g4 he ⊢
 clear hfirst q1 q3 q4 q5 q6 hRES h hn hp
 obtain ⟨m, rfl⟩ : ∃ m', m = m' + 1 := ⟨m - 1, by omega⟩
 have hco : chS P lAnd 8 (m + 1) X k = if X.bad = true then (X, k) else if ((opN lAnd X 8).2 == 0) = true then ((opN lAnd X 8).1, k) else chS P lAnd 8 m (calcS P (opN lAnd X 8) k).1 (calcS P (opN lAnd X 8) k).2 := rfl
 rw [hco] at he
 clear hco
 have hop := sOp_ok X lAnd 8 g1 (by rw [hLe]; omega) (by omega)
 obtain ⟨ok1, ok2⟩ := op_keepS (L := lAnd) (f := 8) g1
 have ck := fun h0 => calcS_keep (k := k) hP (L := lAnd) (f := 8) g1 (by omega) h0
 have ob := opN_bd (L := lAnd) (s := X) (f := 8) (by omega)
 rw [hLe] at ob
 have hcal : calcS P (opN lAnd X 8) k = putS (P (opN lAnd X 8).1).1 ⟨3, (opN lAnd X 8).2, noB, noB, noB, [k, (P (opN lAnd X 8).1).2]⟩ := rfl
 rw [hcal] at he ck
 clear hcal
 obtain ⟨⟨O, o⟩, hO⟩ : ∃ x, opN lAnd X 8 = x := ⟨_, rfl⟩
 rw [hO] at hop ok1 ok2 ck he ob
 dsimp only at hop ok1 ok2 ck he ob
 clear hO
 have gl := g1.len
 obtain ⟨list, cur, bad, nodes⟩ := X
 dsimp only at g2 g3 gl
 cases bad
 ·rw [if_neg (by simp)] at he
  cases h0 : (o == 0)
  ·rw [h0, if_neg (by simp)] at he
   have h0' : o ≠ 0 := beq_eq_false_iff_ne.1 h0
   obtain ⟨hc, -⟩ := ok2 h0'
   dsimp only at hc
   obtain ⟨c0, c5⟩ := ck h0'
   have gn : O.list.length - O.cur < n := ok1.left g2
   have gp : potS O ≤ 1000000 := Nat.le_trans ok1.2.2.2 g4
   have hpart := hcP O ok1.1 gn gp
   have hpk := (hP O ok1.1 gn).2.2.2
   obtain ⟨⟨Y, b⟩, hY⟩ : ∃ x, P O = x := ⟨_, rfl⟩
   rw [hY] at hpart c0 c5 he hpk
   dsimp only at hpart c0 c5 he hpk
   have hnd : Y.nodes.length ≤ 1000000 := Nat.le_trans nodesS_le (Nat.le_trans hpk gp)
   have hcalc := sCalcR_ok Y o k b hnd
   obtain ⟨⟨Z, z⟩, hZ⟩ : ∃ x, putS Y ⟨3, o, noB, noB, noB, [k, b]⟩ = x := ⟨_, rfl⟩
   rw [hZ] at hcalc c0 c5 he
   dsimp only at hcalc c0 c5 he
   obtain ⟨c1, c2, c3, c4⟩ := c0
   dsimp only at c2 c3
   have c6 : Z.list.length ≤ list.length := by rw [c2]; exact Nat.le_refl _
   have c7 : list.length ≤ Z.list.length := by rw [c2]; exact Nat.le_refl _
   clear c2 hY hZ ok1 ok2 ck hnd
   simp (disch := omega) only [go_sem]
   repeat' (first | (with_reducible first | refine i_seq ?_) | ((first | (with_reducible first | refine iBk ?_ | refine iRQ (fun Q' hQ => ?_) | (refine Imp.go hQ ?_; clear hQ)) | ((with_reducible refine i_condT ?_ ?_); (focus (simp only [go_sem, *]; done))) | ((with_reducible refine i_condF ?_ ?_); (focus (simp only [go_sem, *]; done))) | ((with_reducible first | refine rOg (fun h => ?_) (fun h => ?_) | refine i_cond (by simp only [go_sem, *] <;> rfl) (fun h => ?_) (fun h => ?_)) <;> (try simp only [nqA, nqB, nqC, reduceCtorEq] at h) <;> (try have h' := odT h) <;> (try (have hz : (_ : Int) = (_ : Int) := h'; clear hz h')) <;> (try have h' := odF h) <;> (try have h' := inB_t h) <;> (try (exfalso; omega))) | ((first | ((with_reducible refine hcO 40 false (hop) ?_ ?_ ?_ ?_ ?_); iterate 4 (focus (simp (disch := omega) only [go_sem, lAnd_rows, lAnd_take, hLe, h0, reduceCtorEq, nLo]; done))) | ((with_reducible refine hcO 40 false (hpart) ?_ ?_ ?_ ?_ ?_); iterate 4 (focus (simp (disch := omega) only [go_sem, lAnd_rows, lAnd_take, hLe, h0, reduceCtorEq, nLo]; done))) | ((with_reducible refine hcO 40 false (hcalc) ?_ ?_ ?_ ?_ ?_); iterate 4 (focus (simp (disch := omega) only [go_sem, lAnd_rows, lAnd_take, hLe, h0, reduceCtorEq, nLo]; done)))); simp only [go_sem, lAnd_rows, lAnd_take, hLe, h0, reduceCtorEq]; refine aLr ?_)) <;> (try simp (disch := first | omega | (simp only [sAp, size_mk, List.size_toArray, List.length_cons, List.length_nil]; omega)) only [go_sem, lAnd_rows, lAnd_take, hLe, h0, reduceCtorEq, *])))
   all_goals (try simp (disch := omega) only [EndK, go_sem, lAnd_rows, lAnd_take, hLe, h0, reduceCtorEq, nLo, *])
   all_goals refine ⟨⟨(m, Z, z), c1, by dsimp only; omega, by dsimp only; omega, by dsimp only; omega, he⟩, ?_, by simp only; omega⟩
   all_goals first | exact wc [0, 3] []
  ·rw [h0, if_pos rfl] at he
   obtain ⟨rfl, rfl⟩ := Prod.mk.inj he
   clear ok1 ok2 ck
   simp (disch := omega) only [go_sem]
   have x1 := @lAnd_rows
   have x2 := @lAnd_take
   have x3 : HB 0 _ := ⟨hop⟩
   exact wks
 ·rw [if_pos rfl] at he
  obtain ⟨rfl, rfl⟩ := Prod.mk.inj he
  clear ok1 ok2 ck
  simp (disch := omega) only [go_sem]
  exact wks
end Go.Proofs.YtejnpiielcbkkaaGreat.E
end
section
set_option maxRecDepth 100000
set_option maxHeartbeats 4000000
namespace Go.Proofs.YtejnpiielcbkkaaGreat.E
theorem sPartR_ok (P : Rs → Rs × Int) (n : Nat) (hP : PartS n P) (hcP : DoesR 272 n P) : DoesR 254 n (onceS P lLess 6) := by
 intro s h hn hp
 have hfirst := hcP s h hn hp
 have hk := hP s h hn
 have hLe : (lLess).length = 2 := rfl
 have hop := sOp_ok (P s).1 lLess 6 hk.1 (by rw [hLe]; omega) (by omega)
 have ok1 := (op_keepS (L := lLess) (f := 6) hk.1).1
 have ob := opN_bd (L := lLess) (s := (P s).1) (f := 6) (by omega)
 rw [hLe] at ob
 have hon : onceS P lLess 6 s = if ((opN lLess (P s).1 6).2 == 0) = true then ((opN lLess (P s).1 6).1, (P s).2) else putS (P (opN lLess (P s).1 6).1).1 ⟨3, (opN lLess (P s).1 6).2, noB, noB, noB, [(P s).2, (P (opN lLess (P s).1 6).1).2]⟩ := rfl
 rw [hon]
 clear hon
 have hk2 := hk.trans ok1
 obtain ⟨⟨R0, k0⟩, hR0⟩ : ∃ x, P s = x := ⟨_, rfl⟩
 rw [hR0] at hfirst hop hk2 ob ⊢
 dsimp only at hfirst hop hk2 ob ⊢
 obtain ⟨⟨O, o⟩, hO⟩ : ∃ x, opN lLess R0 6 = x := ⟨_, rfl⟩
 rw [hO] at hop hk2 ob ⊢
 dsimp only at hop hk2 ob ⊢
 clear ok1 hk hR0 hO
 cases h0 : (o == 0)
 ·rw [if_neg (by simp)]
  have gn : O.list.length - O.cur < n := hk2.left hn
  have gp : potS O ≤ 1000000 := Nat.le_trans hk2.2.2.2 hp
  have hpart := hcP O hk2.1 gn gp
  have hpk := (hP O hk2.1 gn).2.2.2
  obtain ⟨⟨Y, b⟩, hY⟩ : ∃ x, P O = x := ⟨_, rfl⟩
  rw [hY] at hpart hpk ⊢
  dsimp only at hpart hpk ⊢
  have hcalc := sCalcR_ok Y o k0 b (Nat.le_trans nodesS_le (Nat.le_trans hpk gp))
  obtain ⟨⟨Z, z⟩, hZ⟩ : ∃ x, putS Y ⟨3, o, noB, noB, noB, [k0, b]⟩ = x := ⟨_, rfl⟩
  rw [hZ] at hcalc ⊢
  dsimp only at hcalc ⊢
  clear hY hZ hk2
  refine cOh 40 (hBd Tryz.func254 rfl (by kernel_rfl) ?_)
  simp (disch := omega) only [go_sem, Tryz.ntmps254, Tryz.results254]
  repeat' (first | (with_reducible first | refine i_seq ?_) | ((first | (with_reducible first | refine iBk ?_ | refine iRQ (fun Q' hQ => ?_) | (refine Imp.go hQ ?_; clear hQ)) | ((with_reducible refine i_condT ?_ ?_); (focus (simp only [go_sem, *]; done))) | ((with_reducible refine i_condF ?_ ?_); (focus (simp only [go_sem, *]; done))) | ((with_reducible first | refine rOg (fun h => ?_) (fun h => ?_) | refine i_cond (by simp only [go_sem, *] <;> rfl) (fun h => ?_) (fun h => ?_)) <;> (try simp only [nqA, nqB, nqC, reduceCtorEq] at h) <;> (try have h' := odT h) <;> (try (have hz : (_ : Int) = (_ : Int) := h'; clear hz h')) <;> (try have h' := odF h) <;> (try have h' := inB_t h) <;> (try (exfalso; omega))) | ((first | ((with_reducible refine hcO 40 false (hfirst) ?_ ?_ ?_ ?_ ?_); iterate 4 (focus (simp (disch := omega) only [go_sem, lLess_rows, lLess_take, hLe, h0, reduceCtorEq, nLo]; done))) | ((with_reducible refine hcO 40 false (hop) ?_ ?_ ?_ ?_ ?_); iterate 4 (focus (simp (disch := omega) only [go_sem, lLess_rows, lLess_take, hLe, h0, reduceCtorEq, nLo]; done))) | ((with_reducible refine hcO 40 false (hpart) ?_ ?_ ?_ ?_ ?_); iterate 4 (focus (simp (disch := omega) only [go_sem, lLess_rows, lLess_take, hLe, h0, reduceCtorEq, nLo]; done))) | ((with_reducible refine hcO 40 false (hcalc) ?_ ?_ ?_ ?_ ?_); iterate 4 (focus (simp (disch := omega) only [go_sem, lLess_rows, lLess_take, hLe, h0, reduceCtorEq, nLo]; done)))); simp only [go_sem, lLess_rows, lLess_take, hLe, h0, reduceCtorEq]; refine aLr ?_)) <;> (try simp (disch := first | omega | (simp only [sAp, size_mk, List.size_toArray, List.length_cons, List.length_nil]; omega)) only [go_sem, lLess_rows, lLess_take, hLe, h0, reduceCtorEq, *])))
  all_goals (try simp (disch := omega) only [EndK, go_sem, lLess_rows, lLess_take, hLe, h0, reduceCtorEq, nLo, *])
 ·rw [if_pos rfl]
  dsimp only
  clear hk2
  refine cOh 40 (hBd Tryz.func254 rfl (by kernel_rfl) ?_)
  simp (disch := omega) only [go_sem, Tryz.ntmps254, Tryz.results254]
  repeat' (first | (with_reducible first | refine i_seq ?_) | ((first | (with_reducible first | refine iBk ?_ | refine iRQ (fun Q' hQ => ?_) | (refine Imp.go hQ ?_; clear hQ)) | ((with_reducible refine i_condT ?_ ?_); (focus (simp only [go_sem, *]; done))) | ((with_reducible refine i_condF ?_ ?_); (focus (simp only [go_sem, *]; done))) | ((with_reducible first | refine rOg (fun h => ?_) (fun h => ?_) | refine i_cond (by simp only [go_sem, *] <;> rfl) (fun h => ?_) (fun h => ?_)) <;> (try simp only [nqA, nqB, nqC, reduceCtorEq] at h) <;> (try have h' := odT h) <;> (try (have hz : (_ : Int) = (_ : Int) := h'; clear hz h')) <;> (try have h' := odF h) <;> (try have h' := inB_t h) <;> (try (exfalso; omega))) | ((first | ((with_reducible refine hcO 40 false (hfirst) ?_ ?_ ?_ ?_ ?_); iterate 4 (focus (simp (disch := omega) only [go_sem, lLess_rows, lLess_take, hLe, h0, reduceCtorEq, nLo]; done))) | ((with_reducible refine hcO 40 false (hop) ?_ ?_ ?_ ?_ ?_); iterate 4 (focus (simp (disch := omega) only [go_sem, lLess_rows, lLess_take, hLe, h0, reduceCtorEq, nLo]; done)))); simp only [go_sem, lLess_rows, lLess_take, hLe, h0, reduceCtorEq]; refine aLr ?_)) <;> (try simp (disch := first | omega | (simp only [sAp, size_mk, List.size_toArray, List.length_cons, List.length_nil]; omega)) only [go_sem, lLess_rows, lLess_take, hLe, h0, reduceCtorEq, *])))
  all_goals (try simp (disch := omega) only [EndK, go_sem, lLess_rows, lLess_take, hLe, h0, reduceCtorEq, nLo, *])
end Go.Proofs.YtejnpiielcbkkaaGreat.E
end
