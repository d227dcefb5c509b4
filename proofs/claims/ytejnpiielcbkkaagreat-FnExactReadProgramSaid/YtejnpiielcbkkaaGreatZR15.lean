/- A part of what stands under the laws of this seat: an abstract evaluator that is proved sound, and contracts of functions by it. No condition beside those that stand in each statement. -/
import Derived.Test.YtejnpiielcbkkaaGreatZR14
set_option linter.unusedVariables false
set_option linter.unusedSimpArgs false
section
set_option maxRecDepth 100000
set_option maxHeartbeats 4000000
namespace Go.Proofs.YtejnpiielcbkkaaGreat.E
theorem aNl : ({ toList := [] } : Array UInt8) = #[] := rfl
def lAnd : List ByteArray := [⟨#[97, 110, 100]⟩, ⟨#[111, 114]⟩]
theorem lAnd_rows : ([[T.v (.string ⟨#[97, 110, 100]⟩)], [T.v (.string ⟨#[111, 114]⟩)]] : List (List T)) = strsT lAnd := rfl
theorem lAnd_take : (lAnd).take 2 = lAnd := rfl
theorem lAnd_ne : ∀ s ∈ lAnd, s.size ≠ 0 := by
 intro s hs
 simp only [lAnd, List.mem_cons, List.not_mem_nil, or_false] at hs
 rcases hs with rfl | rfl <;> decide
theorem rValue_ok (P : Rd → Rd × Int) (n : Nat) (hP : Part n P) (hcP : ∀ r, RdOk r → r.list.length - r.cur < n → pot r ≤ 1000000 → CallOk Tryz.prog 262 [.one (.box (rdT r))] (.s (.one (iV (P r).2))) [some (.box (rdT (P r).1))]) (r : Rd) (h : RdOk r) (hn : r.list.length - r.cur < n) (hp : pot r ≤ 1000000) :
  CallOk Tryz.prog 221 [.one (.box (rdT r))] (.s (.one (iV (chain P false lAnd r).2))) [some (.box (rdT (chain P false lAnd r).1))] := by
 have hfirst := hcP r h hn hp
 have q1 := hP.ok r h hn
 have q2 := hP.same r h hn
 have q3 := hP.cur r h hn
 have q4 := hP.pot r h hn
 obtain ⟨⟨R0, k0⟩, hR0⟩ : ∃ x, P r = x := ⟨_, rfl⟩
 have hch : chain P false lAnd r = chainF P false lAnd (r.list.length + 1) R0 k0 := by unfold chain; rw [hR0]
 rw [hR0] at hfirst q1 q2 q3 q4
 dsimp only at hfirst q1 q2 q3 q4
 rw [hch]
 clear hch hR0
 obtain ⟨⟨RR, RK⟩, hRES⟩ : ∃ x, chainF P false lAnd (r.list.length + 1) R0 k0 = x := ⟨_, rfl⟩
 rw [hRES]
 dsimp only
 have hLe : (lAnd).length = 2 := rfl
 have q5 : R0.list.length ≤ r.list.length := by rw [q2]; exact Nat.le_refl _
 have q6 : r.list.length ≤ R0.list.length := by rw [q2]; exact Nat.le_refl _
 clear q2
 refine cOh 40 (hBd Tryz.func221 rfl (by kernel_rfl) ?_)
 simp (disch := omega) only [go_sem, Tryz.ntmps221, Tryz.results221]
 repeat' (first | (with_reducible first | refine i_seq ?_) | ((first | (with_reducible first | refine iBk ?_ | refine iRQ (fun Q' hQ => ?_) | (refine Imp.go hQ ?_; clear hQ) | refine aLr ?_) | ((with_reducible refine i_condT ?_ ?_); (focus (simp only [go_sem, *]; done))) | ((with_reducible refine i_condF ?_ ?_); (focus (simp only [go_sem, *]; done))) | ((with_reducible first | refine rOg (fun h => ?_) (fun h => ?_) | refine i_cond (by simp only [go_sem, *] <;> rfl) (fun h => ?_) (fun h => ?_)) <;> (try simp only [nqA, nqB, nqC, reduceCtorEq] at h) <;> (try have h' := odT h) <;> (try (have hz : (_ : Int) = (_ : Int) := h'; clear hz h')) <;> (try have h' := odF h) <;> (try have h' := inB_t h) <;> (try (exfalso; omega))) | (((with_reducible refine hcO 40 true (hfirst) ?_ ?_ ?_ ?_ ?_); iterate 4 (focus (simp (disch := omega) only [go_sem, lAnd_rows, reduceCtorEq, nLo]; done))); simp only [go_sem, lAnd_rows, reduceCtorEq]; refine aLr ?_)) <;> (try simp (disch := first | omega | (simp only [sAp, size_mk, List.size_toArray, List.length_cons, List.length_nil]; omega)) only [go_sem, lAnd_rows, reduceCtorEq, *])) | (refine hBd (f := 261) Tryz.func261 rfl (by kernel_rfl) ?_; simp (disch := first | omega | (simp only [sAp, size_mk, List.size_toArray, List.length_cons, List.length_nil]; omega)) only [go_sem, Tryz.ntmps261, Tryz.results261, lAnd_rows, reduceCtorEq]))
 all_goals (try simp (disch := omega) only [EndK, go_sem, lAnd_rows, reduceCtorEq, nLo, *])
 refine i_loop (α := {x : Nat × Rd × Int // RdOk x.2.1 ∧ x.2.1.list.length - x.2.1.cur < n ∧ x.2.1.list.length - x.2.1.cur < x.1 ∧ pot x.2.1 ≤ 1000000 ∧ chainF P false lAnd x.1 x.2.1 x.2.2 = (RR, RK)}) (fun x => ⟨mkEnv 50 [(0, .one (.ptr 0 0 0)), (1, .one (.fn true 262 [.ptr 0 0 0])), (2, .one (bV false)), (3, .one (.ref 1 0 2)), (9, .one (iV x.1.2.2))], [.live 7 [rdT x.1.2.1], .live 1 (strsT lAnd)]⟩) (fun x => x.1.1) ⟨(r.list.length + 1, R0, k0), q1, by dsimp only; omega, by dsimp only; omega, by dsimp only; omega, hRES⟩ ?_ ?_
 ·first | (refine wCn [0, 1, 2, 3, 9] [] ?_ ?_ ?_ <;> (simp (disch := omega) only [go_sem, lAnd_rows]; done))
 rintro ⟨⟨m, X, k⟩, g1, g2, g3, g4, he⟩
 dsimp only at g1 g2 g3 g4 he ⊢
 clear hfirst q1 q3 q4 q5 q6 hRES h hn hp
 obtain ⟨m, rfl⟩ : ∃ m', m = m' + 1 := ⟨m - 1, by omega⟩
 cases h1 : (X.place == 0)
 ·unfold chainF at he
  rw [h1, if_pos rfl] at he
  obtain ⟨rfl, rfl⟩ := Prod.mk.inj he
  simp (disch := omega) only [go_sem]
  repeat' (first | (with_reducible first | refine i_seq ?_) | ((first | (with_reducible first | refine iBk ?_ | refine iRQ (fun Q' hQ => ?_) | (refine Imp.go hQ ?_; clear hQ) | refine aLr ?_) | ((with_reducible refine i_condT ?_ ?_); (focus (simp only [go_sem, *]; done))) | ((with_reducible refine i_condF ?_ ?_); (focus (simp only [go_sem, *]; done))) | ((with_reducible first | refine rOg (fun h => ?_) (fun h => ?_) | refine i_cond (by simp only [go_sem, *] <;> rfl) (fun h => ?_) (fun h => ?_)) <;> (try simp only [nqA, nqB, nqC, reduceCtorEq] at h) <;> (try have h' := odT h) <;> (try (have hz : (_ : Int) = (_ : Int) := h'; clear hz h')) <;> (try have h' := odF h) <;> (try have h' := inB_t h) <;> (try (exfalso; omega)))) <;> (try simp (disch := first | omega | (simp only [sAp, size_mk, List.size_toArray, List.length_cons, List.length_nil]; omega)) only [go_sem, h1, reduceCtorEq, *])) | (refine hBd (f := 261) Tryz.func261 rfl (by kernel_rfl) ?_; simp (disch := first | omega | (simp only [sAp, size_mk, List.size_toArray, List.length_cons, List.length_nil]; omega)) only [go_sem, Tryz.ntmps261, Tryz.results261, h1, reduceCtorEq]))
  all_goals (try simp (disch := omega) only [EndK, go_sem, h1, reduceCtorEq, nLo, *])
 ·have hnx := rNext_ok X g1
  obtain ⟨-, -, hts⟩ := nextS_bd g1
  have hhi := hasS_in (r := X) lAnd_ne
  have hop : opAt X = idxS signsB (nextS X).text 0 + 1 := rfl
  have hco : chainF P false lAnd (m + 1) X k = if (X.place == 0) = false then (X, k) else if hasS lAnd (nextS X).text = false then (X, k) else if false = true then chainOne P X k else chainF P false lAnd m (chainOne P X k).1 (chainOne P X k).2 := rfl
  rw [hco, h1, if_neg (by simp)] at he
  clear hco
  obtain ⟨S, hS⟩ : ∃ S, nextS X = S := ⟨_, rfl⟩
  rw [hS] at hnx hts hhi hop he
  have hcs := containsS_ok lAnd S.text (by rw [hLe]; omega)
  cases h2 : hasS lAnd S.text
  ·rw [h2, if_pos rfl] at he
   rw [h2] at hcs
   obtain ⟨rfl, rfl⟩ := Prod.mk.inj he
   clear hS
   simp (disch := omega) only [go_sem]
   repeat' (first | (with_reducible first | refine i_seq ?_) | ((first | (with_reducible first | refine iBk ?_ | refine iRQ (fun Q' hQ => ?_) | (refine Imp.go hQ ?_; clear hQ) | refine aLr ?_) | ((with_reducible refine i_condT ?_ ?_); (focus (simp only [go_sem, *]; done))) | ((with_reducible refine i_condF ?_ ?_); (focus (simp only [go_sem, *]; done))) | ((with_reducible first | refine rOg (fun h => ?_) (fun h => ?_) | refine i_cond (by simp only [go_sem, *] <;> rfl) (fun h => ?_) (fun h => ?_)) <;> (try simp only [nqA, nqB, nqC, reduceCtorEq] at h) <;> (try have h' := odT h) <;> (try (have hz : (_ : Int) = (_ : Int) := h'; clear hz h')) <;> (try have h' := odF h) <;> (try have h' := inB_t h) <;> (try (exfalso; omega))) | (((with_reducible first | refine hcO 40 true (hnx) ?_ ?_ ?_ ?_ ?_ | refine hcO 40 true (hcs) ?_ ?_ ?_ ?_ ?_); iterate 4 (focus (simp (disch := omega) only [go_sem, h1, lAnd_take, hLe, reduceCtorEq, nLo]; done))); simp only [go_sem, h1, lAnd_take, hLe, reduceCtorEq]; refine aLr ?_)) <;> (try simp (disch := first | omega | (simp only [sAp, size_mk, List.size_toArray, List.length_cons, List.length_nil]; omega)) only [go_sem, h1, lAnd_take, hLe, reduceCtorEq, *])) | (refine hBd (f := 261) Tryz.func261 rfl (by kernel_rfl) ?_; simp (disch := first | omega | (simp only [sAp, size_mk, List.size_toArray, List.length_cons, List.length_nil]; omega)) only [go_sem, Tryz.ntmps261, Tryz.results261, h1, lAnd_take, hLe, reduceCtorEq]))
   all_goals (try simp (disch := omega) only [EndK, go_sem, h1, lAnd_take, hLe, reduceCtorEq, nLo, *])
  ·rw [h2, if_neg (by simp)] at he
   rw [h2] at hcs
   have hcur := hhi h2
   have hl5 := g1.len
   have ha := advR_ok g1 hcur
   have hl : (advR X).list.length - (advR X).cur < n := by show X.list.length - (X.cur + 1) < n; omega
   have hpa := pot_adv hcur
   have hpart := hcP (advR X) ha hl (by omega)
   have w4 := hP.pot _ ha hl
   obtain ⟨c1, c2, c3, c4⟩ := chainOne_ok (k := k) hP g1 (by omega) hcur
   have hone : chainOne P X k = (putR (P (advR X)).1 ⟨3, opAt X, noB, noB, noB, [k, (P (advR X)).2]⟩, ((P (advR X)).1.prog.nodes.length : Int)) := rfl
   obtain ⟨⟨Y, o⟩, hY⟩ : ∃ x, P (advR X) = x := ⟨_, rfl⟩
   rw [hY] at hpart w4 hone
   dsimp only at hpart w4 hone
   rw [hop] at hone
   have hidx := indexS_ok signsB S.text signsB_le
   obtain ⟨ib0, ib1⟩ := idxS_bd signsB S.text _ 0 rfl
   have hsl : (signsB.length : Int) = 9 := rfl
   obtain ⟨ix, hix⟩ : ∃ ix, idxS signsB S.text 0 = ix := ⟨_, rfl⟩
   rw [hix] at hidx ib0 ib1 hone
   rw [hone] at c1 c2 c3 c4 he
   dsimp only at c1 c2 c3 c4 he
   have w5 : pot Y ≤ 1000000 := by omega
   have hnd : Y.prog.nodes.length ≤ 1000000 := by have : Y.prog.nodes.length ≤ pot Y := Nat.le_add_right _ _; omega
   have hput := rPut_ok Y ⟨3, ix + 1, noB, noB, noB, [k, o]⟩ (by omega) (by show 2 ≤ 1048576; omega)
   obtain ⟨Z, hZ⟩ : ∃ Z, putR Y ⟨3, ix + 1, noB, noB, noB, [k, o]⟩ = Z := ⟨_, rfl⟩
   rw [hZ] at hput c1 c2 c3 c4 he
   have c5 : Z.list.length ≤ X.list.length := by rw [c2]; exact Nat.le_refl _
   have c6 : X.list.length ≤ Z.list.length := by rw [c2]; exact Nat.le_refl _
   clear c2 hone
   have hadv : advR X = ⟨X.list, X.size, X.cur + 1, X.place, X.prog⟩ := rfl
   rw [hadv] at hpart
   clear hS hop hZ hix hY hadv ha hl w4 w5
   have hsg := signs_ok
   have hkd : intsT [k, o] = [[T.v (.int .i64 k)], [T.v (.int .i64 o)]] := rfl
   simp only [reduceCtorEq, if_false, if_true, Bool.false_eq_true] at he
   skip
   simp (disch := omega) only [go_sem]
   repeat' (first | (with_reducible first | refine i_seq ?_) | ((first | (with_reducible first | refine iBk ?_ | refine iRQ (fun Q' hQ => ?_) | (refine Imp.go hQ ?_; clear hQ) | refine aLr ?_) | ((with_reducible refine i_condT ?_ ?_); (focus (simp only [go_sem, *]; done))) | ((with_reducible refine i_condF ?_ ?_); (focus (simp only [go_sem, *]; done))) | ((with_reducible first | refine rOg (fun h => ?_) (fun h => ?_) | refine i_cond (by simp only [go_sem, *] <;> rfl) (fun h => ?_) (fun h => ?_)) <;> (try simp only [nqA, nqB, nqC, reduceCtorEq] at h) <;> (try have h' := odT h) <;> (try (have hz : (_ : Int) = (_ : Int) := h'; clear hz h')) <;> (try have h' := odF h) <;> (try have h' := inB_t h) <;> (try (exfalso; omega))) | ((first | ((with_reducible first | refine hcO 40 true (hnx) ?_ ?_ ?_ ?_ ?_ | refine hcO 40 true (hcs) ?_ ?_ ?_ ?_ ?_ | refine hcO 40 true (hsg) ?_ ?_ ?_ ?_ ?_ | refine hcO 40 true (hidx) ?_ ?_ ?_ ?_ ?_ | refine hcO 40 true (hput) ?_ ?_ ?_ ?_ ?_); iterate 4 (focus (simp (disch := omega) only [go_sem, h1, lAnd_take, hLe, signsB_take, signsB_len, aNl, hkd, reduceCtorEq, nLo]; done))) | ((with_reducible refine hcO 40 true (hpart) ?_ ?_ ?_ ?_ ?_); iterate 4 (focus (simp (disch := omega) only [go_sem, h1, lAnd_take, hLe, signsB_take, signsB_len, aNl, hkd, reduceCtorEq, nLo]; done)))); simp only [go_sem, h1, lAnd_take, hLe, signsB_take, signsB_len, aNl, hkd, reduceCtorEq]; refine aLr ?_)) <;> (try simp (disch := first | omega | (simp only [sAp, size_mk, List.size_toArray, List.length_cons, List.length_nil]; omega)) only [go_sem, h1, lAnd_take, hLe, signsB_take, signsB_len, aNl, hkd, reduceCtorEq, *])) | (refine hBd (f := 261) Tryz.func261 rfl (by kernel_rfl) ?_; simp (disch := first | omega | (simp only [sAp, size_mk, List.size_toArray, List.length_cons, List.length_nil]; omega)) only [go_sem, Tryz.ntmps261, Tryz.results261, h1, lAnd_take, hLe, signsB_take, signsB_len, aNl, hkd, reduceCtorEq]))
   all_goals (try simp (disch := omega) only [EndK, go_sem, h1, lAnd_take, hLe, signsB_take, signsB_len, aNl, hkd, reduceCtorEq, nLo, *])
   all_goals refine ⟨⟨(m, Z, _), c1, by dsimp only; omega, by dsimp only; omega, by dsimp only; omega, he⟩, ?_, by simp only; omega⟩
   all_goals first | exact wc [0, 1, 2, 3, 9] []
end Go.Proofs.YtejnpiielcbkkaaGreat.E
end
section
set_option maxRecDepth 100000
set_option maxHeartbeats 4000000
namespace Go.Proofs.YtejnpiielcbkkaaGreat.E
def lLess : List ByteArray := [⟨#[60]⟩, ⟨#[61]⟩]
theorem lLess_rows : ([[T.v (.string ⟨#[60]⟩)], [T.v (.string ⟨#[61]⟩)]] : List (List T)) = strsT lLess := rfl
theorem lLess_take : (lLess).take 2 = lLess := rfl
theorem lLess_ne : ∀ s ∈ lLess, s.size ≠ 0 := by
 intro s hs
 simp only [lLess, List.mem_cons, List.not_mem_nil, or_false] at hs
 rcases hs with rfl | rfl <;> decide
theorem rPart_ok (P : Rd → Rd × Int) (n : Nat) (hP : Part n P) (hcP : ∀ r, RdOk r → r.list.length - r.cur < n → pot r ≤ 1000000 → CallOk Tryz.prog 274 [.one (.box (rdT r))] (.s (.one (iV (P r).2))) [some (.box (rdT (P r).1))]) (r : Rd) (h : RdOk r) (hn : r.list.length - r.cur < n) (hp : pot r ≤ 1000000) :
  CallOk Tryz.prog 262 [.one (.box (rdT r))] (.s (.one (iV (chain P true lLess r).2))) [some (.box (rdT (chain P true lLess r).1))] := by
 have hfirst := hcP r h hn hp
 have q1 := hP.ok r h hn
 have q2 := hP.same r h hn
 have q3 := hP.cur r h hn
 have q4 := hP.pot r h hn
 obtain ⟨⟨R0, k0⟩, hR0⟩ : ∃ x, P r = x := ⟨_, rfl⟩
 have hch : chain P true lLess r = chainF P true lLess (r.list.length + 1) R0 k0 := by unfold chain; rw [hR0]
 rw [hR0] at hfirst q1 q2 q3 q4
 dsimp only at hfirst q1 q2 q3 q4
 rw [hch]
 clear hch hR0
 obtain ⟨⟨RR, RK⟩, hRES⟩ : ∃ x, chainF P true lLess (r.list.length + 1) R0 k0 = x := ⟨_, rfl⟩
 rw [hRES]
 dsimp only
 have hLe : (lLess).length = 2 := rfl
 have q5 : R0.list.length ≤ r.list.length := by rw [q2]; exact Nat.le_refl _
 have q6 : r.list.length ≤ R0.list.length := by rw [q2]; exact Nat.le_refl _
 clear q2
 refine cOh 40 (hBd Tryz.func262 rfl (by kernel_rfl) ?_)
 simp (disch := omega) only [go_sem, Tryz.ntmps262, Tryz.results262]
 repeat' (first | (with_reducible first | refine i_seq ?_) | ((first | (with_reducible first | refine iBk ?_ | refine iRQ (fun Q' hQ => ?_) | (refine Imp.go hQ ?_; clear hQ) | refine aLr ?_) | ((with_reducible refine i_condT ?_ ?_); (focus (simp only [go_sem, *]; done))) | ((with_reducible refine i_condF ?_ ?_); (focus (simp only [go_sem, *]; done))) | ((with_reducible first | refine rOg (fun h => ?_) (fun h => ?_) | refine i_cond (by simp only [go_sem, *] <;> rfl) (fun h => ?_) (fun h => ?_)) <;> (try simp only [nqA, nqB, nqC, reduceCtorEq] at h) <;> (try have h' := odT h) <;> (try (have hz : (_ : Int) = (_ : Int) := h'; clear hz h')) <;> (try have h' := odF h) <;> (try have h' := inB_t h) <;> (try (exfalso; omega))) | (((with_reducible refine hcO 40 true (hfirst) ?_ ?_ ?_ ?_ ?_); iterate 4 (focus (simp (disch := omega) only [go_sem, lLess_rows, reduceCtorEq, nLo]; done))); simp only [go_sem, lLess_rows, reduceCtorEq]; refine aLr ?_)) <;> (try simp (disch := first | omega | (simp only [sAp, size_mk, List.size_toArray, List.length_cons, List.length_nil]; omega)) only [go_sem, lLess_rows, reduceCtorEq, *])) | (refine hBd (f := 261) Tryz.func261 rfl (by kernel_rfl) ?_; simp (disch := first | omega | (simp only [sAp, size_mk, List.size_toArray, List.length_cons, List.length_nil]; omega)) only [go_sem, Tryz.ntmps261, Tryz.results261, lLess_rows, reduceCtorEq]))
 all_goals (try simp (disch := omega) only [EndK, go_sem, lLess_rows, reduceCtorEq, nLo, *])
 refine i_loop (α := {x : Nat × Rd × Int // RdOk x.2.1 ∧ x.2.1.list.length - x.2.1.cur < n ∧ x.2.1.list.length - x.2.1.cur < x.1 ∧ pot x.2.1 ≤ 1000000 ∧ chainF P true lLess x.1 x.2.1 x.2.2 = (RR, RK)}) (fun x => ⟨mkEnv 50 [(0, .one (.ptr 0 0 0)), (1, .one (.fn true 274 [.ptr 0 0 0])), (2, .one (bV true)), (3, .one (.ref 1 0 2)), (9, .one (iV x.1.2.2))], [.live 7 [rdT x.1.2.1], .live 1 (strsT lLess)]⟩) (fun x => x.1.1) ⟨(r.list.length + 1, R0, k0), q1, by dsimp only; omega, by dsimp only; omega, by dsimp only; omega, hRES⟩ ?_ ?_
 ·first | (refine wCn [0, 1, 2, 3, 9] [] ?_ ?_ ?_ <;> (simp (disch := omega) only [go_sem, lLess_rows]; done))
 rintro ⟨⟨m, X, k⟩, g1, g2, g3, g4, he⟩
 dsimp only at g1 g2 g3 g4 he ⊢
 clear hfirst q1 q3 q4 q5 q6 hRES h hn hp
 obtain ⟨m, rfl⟩ : ∃ m', m = m' + 1 := ⟨m - 1, by omega⟩
 cases h1 : (X.place == 0)
 ·unfold chainF at he
  rw [h1, if_pos rfl] at he
  obtain ⟨rfl, rfl⟩ := Prod.mk.inj he
  simp (disch := omega) only [go_sem]
  repeat' (first | (with_reducible first | refine i_seq ?_) | ((first | (with_reducible first | refine iBk ?_ | refine iRQ (fun Q' hQ => ?_) | (refine Imp.go hQ ?_; clear hQ) | refine aLr ?_) | ((with_reducible refine i_condT ?_ ?_); (focus (simp only [go_sem, *]; done))) | ((with_reducible refine i_condF ?_ ?_); (focus (simp only [go_sem, *]; done))) | ((with_reducible first | refine rOg (fun h => ?_) (fun h => ?_) | refine i_cond (by simp only [go_sem, *] <;> rfl) (fun h => ?_) (fun h => ?_)) <;> (try simp only [nqA, nqB, nqC, reduceCtorEq] at h) <;> (try have h' := odT h) <;> (try (have hz : (_ : Int) = (_ : Int) := h'; clear hz h')) <;> (try have h' := odF h) <;> (try have h' := inB_t h) <;> (try (exfalso; omega)))) <;> (try simp (disch := first | omega | (simp only [sAp, size_mk, List.size_toArray, List.length_cons, List.length_nil]; omega)) only [go_sem, h1, reduceCtorEq, *])) | (refine hBd (f := 261) Tryz.func261 rfl (by kernel_rfl) ?_; simp (disch := first | omega | (simp only [sAp, size_mk, List.size_toArray, List.length_cons, List.length_nil]; omega)) only [go_sem, Tryz.ntmps261, Tryz.results261, h1, reduceCtorEq]))
  all_goals (try simp (disch := omega) only [EndK, go_sem, h1, reduceCtorEq, nLo, *])
 ·have hnx := rNext_ok X g1
  obtain ⟨-, -, hts⟩ := nextS_bd g1
  have hhi := hasS_in (r := X) lLess_ne
  have hop : opAt X = idxS signsB (nextS X).text 0 + 1 := rfl
  have hco : chainF P true lLess (m + 1) X k = if (X.place == 0) = false then (X, k) else if hasS lLess (nextS X).text = false then (X, k) else if true = true then chainOne P X k else chainF P true lLess m (chainOne P X k).1 (chainOne P X k).2 := rfl
  rw [hco, h1, if_neg (by simp)] at he
  clear hco
  obtain ⟨S, hS⟩ : ∃ S, nextS X = S := ⟨_, rfl⟩
  rw [hS] at hnx hts hhi hop he
  have hcs := containsS_ok lLess S.text (by rw [hLe]; omega)
  cases h2 : hasS lLess S.text
  ·rw [h2, if_pos rfl] at he
   rw [h2] at hcs
   obtain ⟨rfl, rfl⟩ := Prod.mk.inj he
   clear hS
   simp (disch := omega) only [go_sem]
   repeat' (first | (with_reducible first | refine i_seq ?_) | ((first | (with_reducible first | refine iBk ?_ | refine iRQ (fun Q' hQ => ?_) | (refine Imp.go hQ ?_; clear hQ) | refine aLr ?_) | ((with_reducible refine i_condT ?_ ?_); (focus (simp only [go_sem, *]; done))) | ((with_reducible refine i_condF ?_ ?_); (focus (simp only [go_sem, *]; done))) | ((with_reducible first | refine rOg (fun h => ?_) (fun h => ?_) | refine i_cond (by simp only [go_sem, *] <;> rfl) (fun h => ?_) (fun h => ?_)) <;> (try simp only [nqA, nqB, nqC, reduceCtorEq] at h) <;> (try have h' := odT h) <;> (try (have hz : (_ : Int) = (_ : Int) := h'; clear hz h')) <;> (try have h' := odF h) <;> (try have h' := inB_t h) <;> (try (exfalso; omega))) | (((with_reducible first | refine hcO 40 true (hnx) ?_ ?_ ?_ ?_ ?_ | refine hcO 40 true (hcs) ?_ ?_ ?_ ?_ ?_); iterate 4 (focus (simp (disch := omega) only [go_sem, h1, lLess_take, hLe, reduceCtorEq, nLo]; done))); simp only [go_sem, h1, lLess_take, hLe, reduceCtorEq]; refine aLr ?_)) <;> (try simp (disch := first | omega | (simp only [sAp, size_mk, List.size_toArray, List.length_cons, List.length_nil]; omega)) only [go_sem, h1, lLess_take, hLe, reduceCtorEq, *])) | (refine hBd (f := 261) Tryz.func261 rfl (by kernel_rfl) ?_; simp (disch := first | omega | (simp only [sAp, size_mk, List.size_toArray, List.length_cons, List.length_nil]; omega)) only [go_sem, Tryz.ntmps261, Tryz.results261, h1, lLess_take, hLe, reduceCtorEq]))
   all_goals (try simp (disch := omega) only [EndK, go_sem, h1, lLess_take, hLe, reduceCtorEq, nLo, *])
  ·rw [h2, if_neg (by simp)] at he
   rw [h2] at hcs
   have hcur := hhi h2
   have hl5 := g1.len
   have ha := advR_ok g1 hcur
   have hl : (advR X).list.length - (advR X).cur < n := by show X.list.length - (X.cur + 1) < n; omega
   have hpa := pot_adv hcur
   have hpart := hcP (advR X) ha hl (by omega)
   have w4 := hP.pot _ ha hl
   obtain ⟨c1, c2, c3, c4⟩ := chainOne_ok (k := k) hP g1 (by omega) hcur
   have hone : chainOne P X k = (putR (P (advR X)).1 ⟨3, opAt X, noB, noB, noB, [k, (P (advR X)).2]⟩, ((P (advR X)).1.prog.nodes.length : Int)) := rfl
   obtain ⟨⟨Y, o⟩, hY⟩ : ∃ x, P (advR X) = x := ⟨_, rfl⟩
   rw [hY] at hpart w4 hone
   dsimp only at hpart w4 hone
   rw [hop] at hone
   have hidx := indexS_ok signsB S.text signsB_le
   obtain ⟨ib0, ib1⟩ := idxS_bd signsB S.text _ 0 rfl
   have hsl : (signsB.length : Int) = 9 := rfl
   obtain ⟨ix, hix⟩ : ∃ ix, idxS signsB S.text 0 = ix := ⟨_, rfl⟩
   rw [hix] at hidx ib0 ib1 hone
   rw [hone] at c1 c2 c3 c4 he
   dsimp only at c1 c2 c3 c4 he
   have w5 : pot Y ≤ 1000000 := by omega
   have hnd : Y.prog.nodes.length ≤ 1000000 := by have : Y.prog.nodes.length ≤ pot Y := Nat.le_add_right _ _; omega
   have hput := rPut_ok Y ⟨3, ix + 1, noB, noB, noB, [k, o]⟩ (by omega) (by show 2 ≤ 1048576; omega)
   obtain ⟨Z, hZ⟩ : ∃ Z, putR Y ⟨3, ix + 1, noB, noB, noB, [k, o]⟩ = Z := ⟨_, rfl⟩
   rw [hZ] at hput c1 c2 c3 c4 he
   have c5 : Z.list.length ≤ X.list.length := by rw [c2]; exact Nat.le_refl _
   have c6 : X.list.length ≤ Z.list.length := by rw [c2]; exact Nat.le_refl _
   clear c2 hone
   have hadv : advR X = ⟨X.list, X.size, X.cur + 1, X.place, X.prog⟩ := rfl
   rw [hadv] at hpart
   clear hS hop hZ hix hY hadv ha hl w4 w5
   have hsg := signs_ok
   have hkd : intsT [k, o] = [[T.v (.int .i64 k)], [T.v (.int .i64 o)]] := rfl
   simp only [reduceCtorEq, if_false, if_true, Bool.false_eq_true] at he
   obtain ⟨rfl, rfl⟩ := Prod.mk.inj he
   simp (disch := omega) only [go_sem]
   repeat' (first | (with_reducible first | refine i_seq ?_) | ((first | (with_reducible first | refine iBk ?_ | refine iRQ (fun Q' hQ => ?_) | (refine Imp.go hQ ?_; clear hQ) | refine aLr ?_) | ((with_reducible refine i_condT ?_ ?_); (focus (simp only [go_sem, *]; done))) | ((with_reducible refine i_condF ?_ ?_); (focus (simp only [go_sem, *]; done))) | ((with_reducible first | refine rOg (fun h => ?_) (fun h => ?_) | refine i_cond (by simp only [go_sem, *] <;> rfl) (fun h => ?_) (fun h => ?_)) <;> (try simp only [nqA, nqB, nqC, reduceCtorEq] at h) <;> (try have h' := odT h) <;> (try (have hz : (_ : Int) = (_ : Int) := h'; clear hz h')) <;> (try have h' := odF h) <;> (try have h' := inB_t h) <;> (try (exfalso; omega))) | ((first | ((with_reducible first | refine hcO 40 true (hnx) ?_ ?_ ?_ ?_ ?_ | refine hcO 40 true (hcs) ?_ ?_ ?_ ?_ ?_ | refine hcO 40 true (hsg) ?_ ?_ ?_ ?_ ?_ | refine hcO 40 true (hidx) ?_ ?_ ?_ ?_ ?_ | refine hcO 40 true (hput) ?_ ?_ ?_ ?_ ?_); iterate 4 (focus (simp (disch := omega) only [go_sem, h1, lLess_take, hLe, signsB_take, signsB_len, aNl, hkd, reduceCtorEq, nLo]; done))) | ((with_reducible refine hcO 40 true (hpart) ?_ ?_ ?_ ?_ ?_); iterate 4 (focus (simp (disch := omega) only [go_sem, h1, lLess_take, hLe, signsB_take, signsB_len, aNl, hkd, reduceCtorEq, nLo]; done)))); simp only [go_sem, h1, lLess_take, hLe, signsB_take, signsB_len, aNl, hkd, reduceCtorEq]; refine aLr ?_)) <;> (try simp (disch := first | omega | (simp only [sAp, size_mk, List.size_toArray, List.length_cons, List.length_nil]; omega)) only [go_sem, h1, lLess_take, hLe, signsB_take, signsB_len, aNl, hkd, reduceCtorEq, *])) | (refine hBd (f := 261) Tryz.func261 rfl (by kernel_rfl) ?_; simp (disch := first | omega | (simp only [sAp, size_mk, List.size_toArray, List.length_cons, List.length_nil]; omega)) only [go_sem, Tryz.ntmps261, Tryz.results261, h1, lLess_take, hLe, signsB_take, signsB_len, aNl, hkd, reduceCtorEq]))
   all_goals (try simp (disch := omega) only [EndK, go_sem, h1, lLess_take, hLe, signsB_take, signsB_len, aNl, hkd, reduceCtorEq, nLo, *])
   
end Go.Proofs.YtejnpiielcbkkaaGreat.E
end
section
set_option maxRecDepth 100000
set_option maxHeartbeats 4000000
namespace Go.Proofs.YtejnpiielcbkkaaGreat.E
def lAdd : List ByteArray := [⟨#[43]⟩, ⟨#[45]⟩]
theorem lAdd_rows : ([[T.v (.string ⟨#[43]⟩)], [T.v (.string ⟨#[45]⟩)]] : List (List T)) = strsT lAdd := rfl
theorem lAdd_take : (lAdd).take 2 = lAdd := rfl
theorem lAdd_ne : ∀ s ∈ lAdd, s.size ≠ 0 := by
 intro s hs
 simp only [lAdd, List.mem_cons, List.not_mem_nil, or_false] at hs
 rcases hs with rfl | rfl <;> decide
theorem rSum_ok (P : Rd → Rd × Int) (n : Nat) (hP : Part n P) (hcP : ∀ r, RdOk r → r.list.length - r.cur < n → pot r ≤ 1000000 → CallOk Tryz.prog 276 [.one (.box (rdT r))] (.s (.one (iV (P r).2))) [some (.box (rdT (P r).1))]) (r : Rd) (h : RdOk r) (hn : r.list.length - r.cur < n) (hp : pot r ≤ 1000000) :
  CallOk Tryz.prog 274 [.one (.box (rdT r))] (.s (.one (iV (chain P false lAdd r).2))) [some (.box (rdT (chain P false lAdd r).1))] := by
 have hfirst := hcP r h hn hp
 have q1 := hP.ok r h hn
 have q2 := hP.same r h hn
 have q3 := hP.cur r h hn
 have q4 := hP.pot r h hn
 obtain ⟨⟨R0, k0⟩, hR0⟩ : ∃ x, P r = x := ⟨_, rfl⟩
 have hch : chain P false lAdd r = chainF P false lAdd (r.list.length + 1) R0 k0 := by unfold chain; rw [hR0]
 rw [hR0] at hfirst q1 q2 q3 q4
 dsimp only at hfirst q1 q2 q3 q4
 rw [hch]
 clear hch hR0
 obtain ⟨⟨RR, RK⟩, hRES⟩ : ∃ x, chainF P false lAdd (r.list.length + 1) R0 k0 = x := ⟨_, rfl⟩
 rw [hRES]
 dsimp only
 have hLe : (lAdd).length = 2 := rfl
 have q5 : R0.list.length ≤ r.list.length := by rw [q2]; exact Nat.le_refl _
 have q6 : r.list.length ≤ R0.list.length := by rw [q2]; exact Nat.le_refl _
 clear q2
 refine cOh 40 (hBd Tryz.func274 rfl (by kernel_rfl) ?_)
 simp (disch := omega) only [go_sem, Tryz.ntmps274, Tryz.results274]
 repeat' (first | (with_reducible first | refine i_seq ?_) | ((first | (with_reducible first | refine iBk ?_ | refine iRQ (fun Q' hQ => ?_) | (refine Imp.go hQ ?_; clear hQ) | refine aLr ?_) | ((with_reducible refine i_condT ?_ ?_); (focus (simp only [go_sem, *]; done))) | ((with_reducible refine i_condF ?_ ?_); (focus (simp only [go_sem, *]; done))) | ((with_reducible first | refine rOg (fun h => ?_) (fun h => ?_) | refine i_cond (by simp only [go_sem, *] <;> rfl) (fun h => ?_) (fun h => ?_)) <;> (try simp only [nqA, nqB, nqC, reduceCtorEq] at h) <;> (try have h' := odT h) <;> (try (have hz : (_ : Int) = (_ : Int) := h'; clear hz h')) <;> (try have h' := odF h) <;> (try have h' := inB_t h) <;> (try (exfalso; omega))) | (((with_reducible refine hcO 40 true (hfirst) ?_ ?_ ?_ ?_ ?_); iterate 4 (focus (simp (disch := omega) only [go_sem, lAdd_rows, reduceCtorEq, nLo]; done))); simp only [go_sem, lAdd_rows, reduceCtorEq]; refine aLr ?_)) <;> (try simp (disch := first | omega | (simp only [sAp, size_mk, List.size_toArray, List.length_cons, List.length_nil]; omega)) only [go_sem, lAdd_rows, reduceCtorEq, *])) | (refine hBd (f := 261) Tryz.func261 rfl (by kernel_rfl) ?_; simp (disch := first | omega | (simp only [sAp, size_mk, List.size_toArray, List.length_cons, List.length_nil]; omega)) only [go_sem, Tryz.ntmps261, Tryz.results261, lAdd_rows, reduceCtorEq]))
 all_goals (try simp (disch := omega) only [EndK, go_sem, lAdd_rows, reduceCtorEq, nLo, *])
 refine i_loop (α := {x : Nat × Rd × Int // RdOk x.2.1 ∧ x.2.1.list.length - x.2.1.cur < n ∧ x.2.1.list.length - x.2.1.cur < x.1 ∧ pot x.2.1 ≤ 1000000 ∧ chainF P false lAdd x.1 x.2.1 x.2.2 = (RR, RK)}) (fun x => ⟨mkEnv 50 [(0, .one (.ptr 0 0 0)), (1, .one (.fn true 276 [.ptr 0 0 0])), (2, .one (bV false)), (3, .one (.ref 1 0 2)), (9, .one (iV x.1.2.2))], [.live 7 [rdT x.1.2.1], .live 1 (strsT lAdd)]⟩) (fun x => x.1.1) ⟨(r.list.length + 1, R0, k0), q1, by dsimp only; omega, by dsimp only; omega, by dsimp only; omega, hRES⟩ ?_ ?_
 ·first | (refine wCn [0, 1, 2, 3, 9] [] ?_ ?_ ?_ <;> (simp (disch := omega) only [go_sem, lAdd_rows]; done))
 rintro ⟨⟨m, X, k⟩, g1, g2, g3, g4, he⟩
 dsimp only at g1 g2 g3 g4 he ⊢
 clear hfirst q1 q3 q4 q5 q6 hRES h hn hp
 obtain ⟨m, rfl⟩ : ∃ m', m = m' + 1 := ⟨m - 1, by omega⟩
 cases h1 : (X.place == 0)
 ·unfold chainF at he
  rw [h1, if_pos rfl] at he
  obtain ⟨rfl, rfl⟩ := Prod.mk.inj he
  simp (disch := omega) only [go_sem]
  repeat' (first | (with_reducible first | refine i_seq ?_) | ((first | (with_reducible first | refine iBk ?_ | refine iRQ (fun Q' hQ => ?_) | (refine Imp.go hQ ?_; clear hQ) | refine aLr ?_) | ((with_reducible refine i_condT ?_ ?_); (focus (simp only [go_sem, *]; done))) | ((with_reducible refine i_condF ?_ ?_); (focus (simp only [go_sem, *]; done))) | ((with_reducible first | refine rOg (fun h => ?_) (fun h => ?_) | refine i_cond (by simp only [go_sem, *] <;> rfl) (fun h => ?_) (fun h => ?_)) <;> (try simp only [nqA, nqB, nqC, reduceCtorEq] at h) <;> (try have h' := odT h) <;> (try (have hz : (_ : Int) = (_ : Int) := h'; clear hz h')) <;> (try have h' := odF h) <;> (try have h' := inB_t h) <;> (try (exfalso; omega)))) <;> (try simp (disch := first | omega | (simp only [sAp, size_mk, List.size_toArray, List.length_cons, List.length_nil]; omega)) only [go_sem, h1, reduceCtorEq, *])) | (refine hBd (f := 261) Tryz.func261 rfl (by kernel_rfl) ?_; simp (disch := first | omega | (simp only [sAp, size_mk, List.size_toArray, List.length_cons, List.length_nil]; omega)) only [go_sem, Tryz.ntmps261, Tryz.results261, h1, reduceCtorEq]))
  all_goals (try simp (disch := omega) only [EndK, go_sem, h1, reduceCtorEq, nLo, *])
 ·have hnx := rNext_ok X g1
  obtain ⟨-, -, hts⟩ := nextS_bd g1
  have hhi := hasS_in (r := X) lAdd_ne
  have hop : opAt X = idxS signsB (nextS X).text 0 + 1 := rfl
  have hco : chainF P false lAdd (m + 1) X k = if (X.place == 0) = false then (X, k) else if hasS lAdd (nextS X).text = false then (X, k) else if false = true then chainOne P X k else chainF P false lAdd m (chainOne P X k).1 (chainOne P X k).2 := rfl
  rw [hco, h1, if_neg (by simp)] at he
  clear hco
  obtain ⟨S, hS⟩ : ∃ S, nextS X = S := ⟨_, rfl⟩
  rw [hS] at hnx hts hhi hop he
  have hcs := containsS_ok lAdd S.text (by rw [hLe]; omega)
  cases h2 : hasS lAdd S.text
  ·rw [h2, if_pos rfl] at he
   rw [h2] at hcs
   obtain ⟨rfl, rfl⟩ := Prod.mk.inj he
   clear hS
   simp (disch := omega) only [go_sem]
   repeat' (first | (with_reducible first | refine i_seq ?_) | ((first | (with_reducible first | refine iBk ?_ | refine iRQ (fun Q' hQ => ?_) | (refine Imp.go hQ ?_; clear hQ) | refine aLr ?_) | ((with_reducible refine i_condT ?_ ?_); (focus (simp only [go_sem, *]; done))) | ((with_reducible refine i_condF ?_ ?_); (focus (simp only [go_sem, *]; done))) | ((with_reducible first | refine rOg (fun h => ?_) (fun h => ?_) | refine i_cond (by simp only [go_sem, *] <;> rfl) (fun h => ?_) (fun h => ?_)) <;> (try simp only [nqA, nqB, nqC, reduceCtorEq] at h) <;> (try have h' := odT h) <;> (try (have hz : (_ : Int) = (_ : Int) := h'; clear hz h')) <;> (try have h' := odF h) <;> (try have h' := inB_t h) <;> (try (exfalso; omega))) | (((with_reducible first | refine hcO 40 true (hnx) ?_ ?_ ?_ ?_ ?_ | refine hcO 40 true (hcs) ?_ ?_ ?_ ?_ ?_); iterate 4 (focus (simp (disch := omega) only [go_sem, h1, lAdd_take, hLe, reduceCtorEq, nLo]; done))); simp only [go_sem, h1, lAdd_take, hLe, reduceCtorEq]; refine aLr ?_)) <;> (try simp (disch := first | omega | (simp only [sAp, size_mk, List.size_toArray, List.length_cons, List.length_nil]; omega)) only [go_sem, h1, lAdd_take, hLe, reduceCtorEq, *])) | (refine hBd (f := 261) Tryz.func261 rfl (by kernel_rfl) ?_; simp (disch := first | omega | (simp only [sAp, size_mk, List.size_toArray, List.length_cons, List.length_nil]; omega)) only [go_sem, Tryz.ntmps261, Tryz.results261, h1, lAdd_take, hLe, reduceCtorEq]))
   all_goals (try simp (disch := omega) only [EndK, go_sem, h1, lAdd_take, hLe, reduceCtorEq, nLo, *])
  ·rw [h2, if_neg (by simp)] at he
   rw [h2] at hcs
   have hcur := hhi h2
   have hl5 := g1.len
   have ha := advR_ok g1 hcur
   have hl : (advR X).list.length - (advR X).cur < n := by show X.list.length - (X.cur + 1) < n; omega
   have hpa := pot_adv hcur
   have hpart := hcP (advR X) ha hl (by omega)
   have w4 := hP.pot _ ha hl
   obtain ⟨c1, c2, c3, c4⟩ := chainOne_ok (k := k) hP g1 (by omega) hcur
   have hone : chainOne P X k = (putR (P (advR X)).1 ⟨3, opAt X, noB, noB, noB, [k, (P (advR X)).2]⟩, ((P (advR X)).1.prog.nodes.length : Int)) := rfl
   obtain ⟨⟨Y, o⟩, hY⟩ : ∃ x, P (advR X) = x := ⟨_, rfl⟩
   rw [hY] at hpart w4 hone
   dsimp only at hpart w4 hone
   rw [hop] at hone
   have hidx := indexS_ok signsB S.text signsB_le
   obtain ⟨ib0, ib1⟩ := idxS_bd signsB S.text _ 0 rfl
   have hsl : (signsB.length : Int) = 9 := rfl
   obtain ⟨ix, hix⟩ : ∃ ix, idxS signsB S.text 0 = ix := ⟨_, rfl⟩
   rw [hix] at hidx ib0 ib1 hone
   rw [hone] at c1 c2 c3 c4 he
   dsimp only at c1 c2 c3 c4 he
   have w5 : pot Y ≤ 1000000 := by omega
   have hnd : Y.prog.nodes.length ≤ 1000000 := by have : Y.prog.nodes.length ≤ pot Y := Nat.le_add_right _ _; omega
   have hput := rPut_ok Y ⟨3, ix + 1, noB, noB, noB, [k, o]⟩ (by omega) (by show 2 ≤ 1048576; omega)
   obtain ⟨Z, hZ⟩ : ∃ Z, putR Y ⟨3, ix + 1, noB, noB, noB, [k, o]⟩ = Z := ⟨_, rfl⟩
   rw [hZ] at hput c1 c2 c3 c4 he
   have c5 : Z.list.length ≤ X.list.length := by rw [c2]; exact Nat.le_refl _
   have c6 : X.list.length ≤ Z.list.length := by rw [c2]; exact Nat.le_refl _
   clear c2 hone
   have hadv : advR X = ⟨X.list, X.size, X.cur + 1, X.place, X.prog⟩ := rfl
   rw [hadv] at hpart
   clear hS hop hZ hix hY hadv ha hl w4 w5
   have hsg := signs_ok
   have hkd : intsT [k, o] = [[T.v (.int .i64 k)], [T.v (.int .i64 o)]] := rfl
   simp only [reduceCtorEq, if_false, if_true, Bool.false_eq_true] at he
   skip
   simp (disch := omega) only [go_sem]
   repeat' (first | (with_reducible first | refine i_seq ?_) | ((first | (with_reducible first | refine iBk ?_ | refine iRQ (fun Q' hQ => ?_) | (refine Imp.go hQ ?_; clear hQ) | refine aLr ?_) | ((with_reducible refine i_condT ?_ ?_); (focus (simp only [go_sem, *]; done))) | ((with_reducible refine i_condF ?_ ?_); (focus (simp only [go_sem, *]; done))) | ((with_reducible first | refine rOg (fun h => ?_) (fun h => ?_) | refine i_cond (by simp only [go_sem, *] <;> rfl) (fun h => ?_) (fun h => ?_)) <;> (try simp only [nqA, nqB, nqC, reduceCtorEq] at h) <;> (try have h' := odT h) <;> (try (have hz : (_ : Int) = (_ : Int) := h'; clear hz h')) <;> (try have h' := odF h) <;> (try have h' := inB_t h) <;> (try (exfalso; omega))) | ((first | ((with_reducible first | refine hcO 40 true (hnx) ?_ ?_ ?_ ?_ ?_ | refine hcO 40 true (hcs) ?_ ?_ ?_ ?_ ?_ | refine hcO 40 true (hsg) ?_ ?_ ?_ ?_ ?_ | refine hcO 40 true (hidx) ?_ ?_ ?_ ?_ ?_ | refine hcO 40 true (hput) ?_ ?_ ?_ ?_ ?_); iterate 4 (focus (simp (disch := omega) only [go_sem, h1, lAdd_take, hLe, signsB_take, signsB_len, aNl, hkd, reduceCtorEq, nLo]; done))) | ((with_reducible refine hcO 40 true (hpart) ?_ ?_ ?_ ?_ ?_); iterate 4 (focus (simp (disch := omega) only [go_sem, h1, lAdd_take, hLe, signsB_take, signsB_len, aNl, hkd, reduceCtorEq, nLo]; done)))); simp only [go_sem, h1, lAdd_take, hLe, signsB_take, signsB_len, aNl, hkd, reduceCtorEq]; refine aLr ?_)) <;> (try simp (disch := first | omega | (simp only [sAp, size_mk, List.size_toArray, List.length_cons, List.length_nil]; omega)) only [go_sem, h1, lAdd_take, hLe, signsB_take, signsB_len, aNl, hkd, reduceCtorEq, *])) | (refine hBd (f := 261) Tryz.func261 rfl (by kernel_rfl) ?_; simp (disch := first | omega | (simp only [sAp, size_mk, List.size_toArray, List.length_cons, List.length_nil]; omega)) only [go_sem, Tryz.ntmps261, Tryz.results261, h1, lAdd_take, hLe, signsB_take, signsB_len, aNl, hkd, reduceCtorEq]))
   all_goals (try simp (disch := omega) only [EndK, go_sem, h1, lAdd_take, hLe, signsB_take, signsB_len, aNl, hkd, reduceCtorEq, nLo, *])
   all_goals refine ⟨⟨(m, Z, _), c1, by dsimp only; omega, by dsimp only; omega, by dsimp only; omega, he⟩, ?_, by simp only; omega⟩
   all_goals first | exact wc [0, 1, 2, 3, 9] []
end Go.Proofs.YtejnpiielcbkkaaGreat.E
end
section
set_option maxRecDepth 100000
set_option maxHeartbeats 4000000
namespace Go.Proofs.YtejnpiielcbkkaaGreat.E
def lMul : List ByteArray := [⟨#[42]⟩, ⟨#[47]⟩, ⟨#[37]⟩]
theorem lMul_rows : ([[T.v (.string ⟨#[42]⟩)], [T.v (.string ⟨#[47]⟩)], [T.v (.string ⟨#[37]⟩)]] : List (List T)) = strsT lMul := rfl
theorem lMul_take : (lMul).take 3 = lMul := rfl
theorem lMul_ne : ∀ s ∈ lMul, s.size ≠ 0 := by
 intro s hs
 simp only [lMul, List.mem_cons, List.not_mem_nil, or_false] at hs
 rcases hs with rfl | rfl | rfl <;> decide
theorem rTerm_ok (P : Rd → Rd × Int) (n : Nat) (hP : Part n P) (hcP : ∀ r, RdOk r → r.list.length - r.cur < n → pot r ≤ 1000000 → CallOk Tryz.prog 278 [.one (.box (rdT r))] (.s (.one (iV (P r).2))) [some (.box (rdT (P r).1))]) (r : Rd) (h : RdOk r) (hn : r.list.length - r.cur < n) (hp : pot r ≤ 1000000) :
  CallOk Tryz.prog 276 [.one (.box (rdT r))] (.s (.one (iV (chain P false lMul r).2))) [some (.box (rdT (chain P false lMul r).1))] := by
 have hfirst := hcP r h hn hp
 have q1 := hP.ok r h hn
 have q2 := hP.same r h hn
 have q3 := hP.cur r h hn
 have q4 := hP.pot r h hn
 obtain ⟨⟨R0, k0⟩, hR0⟩ : ∃ x, P r = x := ⟨_, rfl⟩
 have hch : chain P false lMul r = chainF P false lMul (r.list.length + 1) R0 k0 := by unfold chain; rw [hR0]
 rw [hR0] at hfirst q1 q2 q3 q4
 dsimp only at hfirst q1 q2 q3 q4
 rw [hch]
 clear hch hR0
 obtain ⟨⟨RR, RK⟩, hRES⟩ : ∃ x, chainF P false lMul (r.list.length + 1) R0 k0 = x := ⟨_, rfl⟩
 rw [hRES]
 dsimp only
 have hLe : (lMul).length = 3 := rfl
 have q5 : R0.list.length ≤ r.list.length := by rw [q2]; exact Nat.le_refl _
 have q6 : r.list.length ≤ R0.list.length := by rw [q2]; exact Nat.le_refl _
 clear q2
 refine cOh 40 (hBd Tryz.func276 rfl (by kernel_rfl) ?_)
 simp (disch := omega) only [go_sem, Tryz.ntmps276, Tryz.results276]
 repeat' (first | (with_reducible first | refine i_seq ?_) | ((first | (with_reducible first | refine iBk ?_ | refine iRQ (fun Q' hQ => ?_) | (refine Imp.go hQ ?_; clear hQ) | refine aLr ?_) | ((with_reducible refine i_condT ?_ ?_); (focus (simp only [go_sem, *]; done))) | ((with_reducible refine i_condF ?_ ?_); (focus (simp only [go_sem, *]; done))) | ((with_reducible first | refine rOg (fun h => ?_) (fun h => ?_) | refine i_cond (by simp only [go_sem, *] <;> rfl) (fun h => ?_) (fun h => ?_)) <;> (try simp only [nqA, nqB, nqC, reduceCtorEq] at h) <;> (try have h' := odT h) <;> (try (have hz : (_ : Int) = (_ : Int) := h'; clear hz h')) <;> (try have h' := odF h) <;> (try have h' := inB_t h) <;> (try (exfalso; omega))) | (((with_reducible refine hcO 40 true (hfirst) ?_ ?_ ?_ ?_ ?_); iterate 4 (focus (simp (disch := omega) only [go_sem, lMul_rows, reduceCtorEq, nLo]; done))); simp only [go_sem, lMul_rows, reduceCtorEq]; refine aLr ?_)) <;> (try simp (disch := first | omega | (simp only [sAp, size_mk, List.size_toArray, List.length_cons, List.length_nil]; omega)) only [go_sem, lMul_rows, reduceCtorEq, *])) | (refine hBd (f := 261) Tryz.func261 rfl (by kernel_rfl) ?_; simp (disch := first | omega | (simp only [sAp, size_mk, List.size_toArray, List.length_cons, List.length_nil]; omega)) only [go_sem, Tryz.ntmps261, Tryz.results261, lMul_rows, reduceCtorEq]))
 all_goals (try simp (disch := omega) only [EndK, go_sem, lMul_rows, reduceCtorEq, nLo, *])
 refine i_loop (α := {x : Nat × Rd × Int // RdOk x.2.1 ∧ x.2.1.list.length - x.2.1.cur < n ∧ x.2.1.list.length - x.2.1.cur < x.1 ∧ pot x.2.1 ≤ 1000000 ∧ chainF P false lMul x.1 x.2.1 x.2.2 = (RR, RK)}) (fun x => ⟨mkEnv 50 [(0, .one (.ptr 0 0 0)), (1, .one (.fn true 278 [.ptr 0 0 0])), (2, .one (bV false)), (3, .one (.ref 1 0 3)), (9, .one (iV x.1.2.2))], [.live 7 [rdT x.1.2.1], .live 1 (strsT lMul)]⟩) (fun x => x.1.1) ⟨(r.list.length + 1, R0, k0), q1, by dsimp only; omega, by dsimp only; omega, by dsimp only; omega, hRES⟩ ?_ ?_
 ·first | (refine wCn [0, 1, 2, 3, 9] [] ?_ ?_ ?_ <;> (simp (disch := omega) only [go_sem, lMul_rows]; done))
 rintro ⟨⟨m, X, k⟩, g1, g2, g3, g4, he⟩
 dsimp only at g1 g2 g3 g4 he ⊢
 clear hfirst q1 q3 q4 q5 q6 hRES h hn hp
 obtain ⟨m, rfl⟩ : ∃ m', m = m' + 1 := ⟨m - 1, by omega⟩
 cases h1 : (X.place == 0)
 ·unfold chainF at he
  rw [h1, if_pos rfl] at he
  obtain ⟨rfl, rfl⟩ := Prod.mk.inj he
  simp (disch := omega) only [go_sem]
  repeat' (first | (with_reducible first | refine i_seq ?_) | ((first | (with_reducible first | refine iBk ?_ | refine iRQ (fun Q' hQ => ?_) | (refine Imp.go hQ ?_; clear hQ) | refine aLr ?_) | ((with_reducible refine i_condT ?_ ?_); (focus (simp only [go_sem, *]; done))) | ((with_reducible refine i_condF ?_ ?_); (focus (simp only [go_sem, *]; done))) | ((with_reducible first | refine rOg (fun h => ?_) (fun h => ?_) | refine i_cond (by simp only [go_sem, *] <;> rfl) (fun h => ?_) (fun h => ?_)) <;> (try simp only [nqA, nqB, nqC, reduceCtorEq] at h) <;> (try have h' := odT h) <;> (try (have hz : (_ : Int) = (_ : Int) := h'; clear hz h')) <;> (try have h' := odF h) <;> (try have h' := inB_t h) <;> (try (exfalso; omega)))) <;> (try simp (disch := first | omega | (simp only [sAp, size_mk, List.size_toArray, List.length_cons, List.length_nil]; omega)) only [go_sem, h1, reduceCtorEq, *])) | (refine hBd (f := 261) Tryz.func261 rfl (by kernel_rfl) ?_; simp (disch := first | omega | (simp only [sAp, size_mk, List.size_toArray, List.length_cons, List.length_nil]; omega)) only [go_sem, Tryz.ntmps261, Tryz.results261, h1, reduceCtorEq]))
  all_goals (try simp (disch := omega) only [EndK, go_sem, h1, reduceCtorEq, nLo, *])
 ·have hnx := rNext_ok X g1
  obtain ⟨-, -, hts⟩ := nextS_bd g1
  have hhi := hasS_in (r := X) lMul_ne
  have hop : opAt X = idxS signsB (nextS X).text 0 + 1 := rfl
  have hco : chainF P false lMul (m + 1) X k = if (X.place == 0) = false then (X, k) else if hasS lMul (nextS X).text = false then (X, k) else if false = true then chainOne P X k else chainF P false lMul m (chainOne P X k).1 (chainOne P X k).2 := rfl
  rw [hco, h1, if_neg (by simp)] at he
  clear hco
  obtain ⟨S, hS⟩ : ∃ S, nextS X = S := ⟨_, rfl⟩
  rw [hS] at hnx hts hhi hop he
  have hcs := containsS_ok lMul S.text (by rw [hLe]; omega)
  cases h2 : hasS lMul S.text
  ·rw [h2, if_pos rfl] at he
   rw [h2] at hcs
   obtain ⟨rfl, rfl⟩ := Prod.mk.inj he
   clear hS
   simp (disch := omega) only [go_sem]
   repeat' (first | (with_reducible first | refine i_seq ?_) | ((first | (with_reducible first | refine iBk ?_ | refine iRQ (fun Q' hQ => ?_) | (refine Imp.go hQ ?_; clear hQ) | refine aLr ?_) | ((with_reducible refine i_condT ?_ ?_); (focus (simp only [go_sem, *]; done))) | ((with_reducible refine i_condF ?_ ?_); (focus (simp only [go_sem, *]; done))) | ((with_reducible first | refine rOg (fun h => ?_) (fun h => ?_) | refine i_cond (by simp only [go_sem, *] <;> rfl) (fun h => ?_) (fun h => ?_)) <;> (try simp only [nqA, nqB, nqC, reduceCtorEq] at h) <;> (try have h' := odT h) <;> (try (have hz : (_ : Int) = (_ : Int) := h'; clear hz h')) <;> (try have h' := odF h) <;> (try have h' := inB_t h) <;> (try (exfalso; omega))) | (((with_reducible first | refine hcO 40 true (hnx) ?_ ?_ ?_ ?_ ?_ | refine hcO 40 true (hcs) ?_ ?_ ?_ ?_ ?_); iterate 4 (focus (simp (disch := omega) only [go_sem, h1, lMul_take, hLe, reduceCtorEq, nLo]; done))); simp only [go_sem, h1, lMul_take, hLe, reduceCtorEq]; refine aLr ?_)) <;> (try simp (disch := first | omega | (simp only [sAp, size_mk, List.size_toArray, List.length_cons, List.length_nil]; omega)) only [go_sem, h1, lMul_take, hLe, reduceCtorEq, *])) | (refine hBd (f := 261) Tryz.func261 rfl (by kernel_rfl) ?_; simp (disch := first | omega | (simp only [sAp, size_mk, List.size_toArray, List.length_cons, List.length_nil]; omega)) only [go_sem, Tryz.ntmps261, Tryz.results261, h1, lMul_take, hLe, reduceCtorEq]))
   all_goals (try simp (disch := omega) only [EndK, go_sem, h1, lMul_take, hLe, reduceCtorEq, nLo, *])
  ·rw [h2, if_neg (by simp)] at he
   rw [h2] at hcs
   have hcur := hhi h2
   have hl5 := g1.len
   have ha := advR_ok g1 hcur
   have hl : (advR X).list.length - (advR X).cur < n := by show X.list.length - (X.cur + 1) < n; omega
   have hpa := pot_adv hcur
   have hpart := hcP (advR X) ha hl (by omega)
   have w4 := hP.pot _ ha hl
   obtain ⟨c1, c2, c3, c4⟩ := chainOne_ok (k := k) hP g1 (by omega) hcur
   have hone : chainOne P X k = (putR (P (advR X)).1 ⟨3, opAt X, noB, noB, noB, [k, (P (advR X)).2]⟩, ((P (advR X)).1.prog.nodes.length : Int)) := rfl
   obtain ⟨⟨Y, o⟩, hY⟩ : ∃ x, P (advR X) = x := ⟨_, rfl⟩
   rw [hY] at hpart w4 hone
   dsimp only at hpart w4 hone
   rw [hop] at hone
   have hidx := indexS_ok signsB S.text signsB_le
   obtain ⟨ib0, ib1⟩ := idxS_bd signsB S.text _ 0 rfl
   have hsl : (signsB.length : Int) = 9 := rfl
   obtain ⟨ix, hix⟩ : ∃ ix, idxS signsB S.text 0 = ix := ⟨_, rfl⟩
   rw [hix] at hidx ib0 ib1 hone
   rw [hone] at c1 c2 c3 c4 he
   dsimp only at c1 c2 c3 c4 he
   have w5 : pot Y ≤ 1000000 := by omega
   have hnd : Y.prog.nodes.length ≤ 1000000 := by have : Y.prog.nodes.length ≤ pot Y := Nat.le_add_right _ _; omega
   have hput := rPut_ok Y ⟨3, ix + 1, noB, noB, noB, [k, o]⟩ (by omega) (by show 2 ≤ 1048576; omega)
   obtain ⟨Z, hZ⟩ : ∃ Z, putR Y ⟨3, ix + 1, noB, noB, noB, [k, o]⟩ = Z := ⟨_, rfl⟩
   rw [hZ] at hput c1 c2 c3 c4 he
   have c5 : Z.list.length ≤ X.list.length := by rw [c2]; exact Nat.le_refl _
   have c6 : X.list.length ≤ Z.list.length := by rw [c2]; exact Nat.le_refl _
   clear c2 hone
   have hadv : advR X = ⟨X.list, X.size, X.cur + 1, X.place, X.prog⟩ := rfl
   rw [hadv] at hpart
   clear hS hop hZ hix hY hadv ha hl w4 w5
   have hsg := signs_ok
   have hkd : intsT [k, o] = [[T.v (.int .i64 k)], [T.v (.int .i64 o)]] := rfl
   simp only [reduceCtorEq, if_false, if_true, Bool.false_eq_true] at he
   skip
   simp (disch := omega) only [go_sem]
   repeat' (first | (with_reducible first | refine i_seq ?_) | ((first | (with_reducible first | refine iBk ?_ | refine iRQ (fun Q' hQ => ?_) | (refine Imp.go hQ ?_; clear hQ) | refine aLr ?_) | ((with_reducible refine i_condT ?_ ?_); (focus (simp only [go_sem, *]; done))) | ((with_reducible refine i_condF ?_ ?_); (focus (simp only [go_sem, *]; done))) | ((with_reducible first | refine rOg (fun h => ?_) (fun h => ?_) | refine i_cond (by simp only [go_sem, *] <;> rfl) (fun h => ?_) (fun h => ?_)) <;> (try simp only [nqA, nqB, nqC, reduceCtorEq] at h) <;> (try have h' := odT h) <;> (try (have hz : (_ : Int) = (_ : Int) := h'; clear hz h')) <;> (try have h' := odF h) <;> (try have h' := inB_t h) <;> (try (exfalso; omega))) | ((first | ((with_reducible first | refine hcO 40 true (hnx) ?_ ?_ ?_ ?_ ?_ | refine hcO 40 true (hcs) ?_ ?_ ?_ ?_ ?_ | refine hcO 40 true (hsg) ?_ ?_ ?_ ?_ ?_ | refine hcO 40 true (hidx) ?_ ?_ ?_ ?_ ?_ | refine hcO 40 true (hput) ?_ ?_ ?_ ?_ ?_); iterate 4 (focus (simp (disch := omega) only [go_sem, h1, lMul_take, hLe, signsB_take, signsB_len, aNl, hkd, reduceCtorEq, nLo]; done))) | ((with_reducible refine hcO 40 true (hpart) ?_ ?_ ?_ ?_ ?_); iterate 4 (focus (simp (disch := omega) only [go_sem, h1, lMul_take, hLe, signsB_take, signsB_len, aNl, hkd, reduceCtorEq, nLo]; done)))); simp only [go_sem, h1, lMul_take, hLe, signsB_take, signsB_len, aNl, hkd, reduceCtorEq]; refine aLr ?_)) <;> (try simp (disch := first | omega | (simp only [sAp, size_mk, List.size_toArray, List.length_cons, List.length_nil]; omega)) only [go_sem, h1, lMul_take, hLe, signsB_take, signsB_len, aNl, hkd, reduceCtorEq, *])) | (refine hBd (f := 261) Tryz.func261 rfl (by kernel_rfl) ?_; simp (disch := first | omega | (simp only [sAp, size_mk, List.size_toArray, List.length_cons, List.length_nil]; omega)) only [go_sem, Tryz.ntmps261, Tryz.results261, h1, lMul_take, hLe, signsB_take, signsB_len, aNl, hkd, reduceCtorEq]))
   all_goals (try simp (disch := omega) only [EndK, go_sem, h1, lMul_take, hLe, signsB_take, signsB_len, aNl, hkd, reduceCtorEq, nLo, *])
   all_goals refine ⟨⟨(m, Z, _), c1, by dsimp only; omega, by dsimp only; omega, by dsimp only; omega, he⟩, ?_, by simp only; omega⟩
   all_goals first | exact wc [0, 1, 2, 3, 9] []
end Go.Proofs.YtejnpiielcbkkaaGreat.E
end
