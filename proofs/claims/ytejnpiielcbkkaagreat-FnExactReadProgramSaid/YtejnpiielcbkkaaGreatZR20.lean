/- A part of what stands under the laws of this seat: an abstract evaluator that is proved sound, and contracts of functions by it. No condition beside those that stand in each statement. -/
import Derived.Test.YtejnpiielcbkkaaGreatZR16
set_option linter.unusedVariables false
set_option linter.unusedSimpArgs false
set_option maxRecDepth 100000
set_option maxHeartbeats 4000000
namespace Go.Proofs.YtejnpiielcbkkaaGreat.E
abbrev bBegin : ByteArray := ⟨#[98, 101, 103, 105, 110]⟩
abbrev bEnd : ByteArray := ⟨#[101, 110, 100]⟩
abbrev bSemi : ByteArray := ⟨#[59]⟩
theorem begin_rows : ([[T.v (.string ⟨#[98, 101, 103, 105, 110]⟩)]] : List (List T)) = strsT [bBegin] := rfl
theorem end_rows : ([[T.v (.string ⟨#[101, 110, 100]⟩)]] : List (List T)) = strsT [bEnd] := rfl
/-! A block, plainly: statements with a mark between. -/
def blockF (S : Rd → Rd × Int) : Nat → Rd → List Int → Rd × List Int
 | 0, r, ks => (r, ks)
 | n + 1, r, ks => if isR r bSemi = true then blockF S n (S (advR r)).1 (ks ++ [(S (advR r)).2]) else (r, ks)
def blockEnd (x : Rd × List Int) : Rd × Int := (putR (wantL x.1 [bEnd]) ⟨20, 0, noB, noB, noB, x.2⟩, ((wantL x.1 [bEnd]).prog.nodes.length : Int))
def blockOf (S : Rd → Rd × Int) (r : Rd) : Rd × Int :=
 blockEnd (blockF S (r.list.length + 1) (S (wantL r [bBegin])).1 [(S (wantL r [bBegin])).2])
theorem wantL_nodes {r : Rd} {b : ByteArray} : (wantL r [b]).prog = r.prog := by
 show (wantOne r b).prog = r.prog
 unfold wantOne
 split
 ·split
  ·rfl
  ·unfold wrongR; split <;> rfl
 ·rfl
/-- The walk of a block, over what is known of its statements (C: a statement may be read there; I: what holds between two of them). -/
theorem rBlock_ok (S : Rd → Rd × Int) (C I : Rd → Prop) (dS : ∀ x, RdOk x → C x → CallOk Tryz.prog 170 [.one (.box (rdT x))] (.s (.one (iV (S x).2))) [some (.box (rdT (S x).1))])
  (hI : ∀ x, I x → RdOk x ∧ x.list.length ≤ 500 ∧ x.prog.nodes.length ≤ 1000000) (hS : ∀ x, I x → isR x bSemi = true → C (advR x) ∧ I (S (advR x)).1 ∧ x.cur < (S (advR x)).1.cur ∧ (S (advR x)).1.list.length ≤ x.list.length)
  (r : Rd) (h : RdOk r) (hC : C (wantL r [bBegin])) (h0 : I (S (wantL r [bBegin])).1) (hl : (S (wantL r [bBegin])).1.list.length ≤ r.list.length) :
  CallOk Tryz.prog 97 [.one (.box (rdT r))] (.s (.one (iV (blockOf S r).2))) [some (.box (rdT (blockOf S r).1))] := by
 have w1 := rWant_ok r [bBegin] (one_ne (by decide)) (by decide) h
 have k1 := wantL_keep (one_ne (b := bBegin) (by decide)) h
 have s1 := dS _ k1.1 hC
 have hl5 := h.len
 have hbo : blockOf S r = blockEnd (blockF S (r.list.length + 1) (S (wantL r [bBegin])).1 [(S (wantL r [bBegin])).2]) := rfl
 rw [hbo]
 clear hbo k1 hC
 obtain ⟨A, hA⟩ : ∃ x, wantL r [bBegin] = x := ⟨_, rfl⟩
 rw [hA] at w1 s1 h0 hl ⊢
 obtain ⟨⟨R0, k0⟩, hR⟩ : ∃ x, S A = x := ⟨_, rfl⟩
 rw [hR] at s1 h0 hl ⊢
 dsimp only at s1 h0 hl ⊢
 clear hA hR
 obtain ⟨⟨RR, RL⟩, hRES⟩ : ∃ x, blockF S (r.list.length + 1) R0 [k0] = x := ⟨_, rfl⟩
 rw [hRES]
 have i1 : ([[T.v (.int .i64 k0)]] : List (List T)) = intsT [k0] := rfl
 refine cOh 40 (hBd Tryz.func97 rfl (by kernel_rfl) ?_)
 simp (disch := omega) only [go_sem, Tryz.ntmps97, Tryz.results97]
 repeat' (first | (with_reducible first | refine i_seq ?_ | exact th_none | refine i_th (id := 4) (.ho [0, 1, 2] (opm 3 [1] [true] (opm 4 [1] [true] (opm 5 [] [false] (.ho [6] (opm 7 [] [] (.stop))))))) mixedT (by kernel_rfl) (fun Q' hQ => ?_)) | ((first | (with_reducible first | refine iBk ?_ | refine iRQ (fun Q' hQ => ?_) | (refine Imp.go hQ ?_; clear hQ) | refine th_ho ?_ | refine th_stop ?_ ?_ | refine th_opm ?_ (by kernel_rfl) (aLr ?_) | refine th_altm ?_ (by kernel_rfl) (aLr ?_) ?_) | ((with_reducible refine i_condT ?_ ?_); (focus (simp only [go_sem, *]; done))) | ((with_reducible refine i_condF ?_ ?_); (focus (simp only [go_sem, *]; done))) | ((with_reducible first | refine rOg (fun h => ?_) (fun h => ?_) | refine i_cond (by simp only [go_sem, *] <;> rfl) (fun h => ?_) (fun h => ?_)) <;> (try simp only [nqA, nqB, nqC, reduceCtorEq] at h) <;> (try have h' := odT h) <;> (try (have hz : (_ : Int) = (_ : Int) := h'; clear hz h')) <;> (try have h' := odF h) <;> (try have h' := inB_t h) <;> (try (exfalso; omega))) | ((first | ((with_reducible first | refine hcO 40 true (w1) ?_ ?_ ?_ ?_ ?_); iterate 4 (focus (simp (disch := omega) only [go_sem, begin_rows, tSi, i1, List.length_singleton, reduceCtorEq, nLo]; done))) | ((with_reducible refine hcO 40 true (s1) ?_ ?_ ?_ ?_ ?_); iterate 4 (focus (simp (disch := omega) only [go_sem, begin_rows, tSi, i1, List.length_singleton, reduceCtorEq, nLo]; done)))); simp only [go_sem, begin_rows, tSi, i1, List.length_singleton, reduceCtorEq]; refine aLr ?_)) <;> (try simp (disch := first | omega | (simp only [sAp, size_mk, List.size_toArray, List.length_cons, List.length_nil]; omega)) only [go_sem, begin_rows, tSi, i1, List.length_singleton, reduceCtorEq, *])))
 all_goals (try simp (disch := omega) only [EndK, go_sem, begin_rows, tSi, i1, List.length_singleton, reduceCtorEq, nLo, *])
 clear w1 s1
 refine i_loop (α := {x : Nat × Rd × List Int // I x.2.1 ∧ x.2.1.list.length - x.2.1.cur < x.1 ∧ x.2.2.length + x.1 ≤ 600 ∧ blockF S x.1 x.2.1 x.2.2 = (RR, RL)}) (fun x => ⟨mkEnv 26 [(0, .one (.ptr 0 0 0)), (3, .one (.ptr 2 0 0))], [.live 7 [rdT x.1.2.1], .live 1 (intsT x.1.2.2), .live 6 [[iV 20, iV 0, sV ⟨⟨[]⟩⟩, sV ⟨⟨[]⟩⟩, sV ⟨⟨[]⟩⟩, .ref 1 0 x.1.2.2.length]]]⟩) (fun x => x.1.1) ⟨(r.list.length + 1, R0, [k0]), h0, by dsimp only; omega, by simp only [List.length_singleton]; omega, hRES⟩ ?_ ?_
 ·first | (refine wCn [0, 3] [2, 3] ?_ ?_ ?_ <;> (simp (disch := omega) only [go_sem, i1, List.length_singleton]; done))
 rintro ⟨⟨m, X, ks⟩, g1, g2, g3, he⟩
 dsimp only at g1 g2 g3 he ⊢
 clear h0 hRES i1 h hl5 hl
 obtain ⟨m, rfl⟩ : ∃ m', m = m' + 1 := ⟨m - 1, by omega⟩
 obtain ⟨x1, x2, x3⟩ := hI X g1
 have htk := rTake_ok X bSemi (by decide) x1
 have hin := isR_in (r := X) (s := bSemi) (by decide)
 have hnext := hS X g1
 cases h1 : isR X bSemi
 ·rw [take_no h1, h1] at htk
  unfold blockF at he
  rw [h1, if_neg (by simp)] at he
  obtain ⟨rfl, rfl⟩ := Prod.mk.inj he
  have hw := rWant_ok X [bEnd] (one_ne (by decide)) (by decide) x1
  have hwn := wantL_nodes (r := X) (b := bEnd)
  have hbe : blockEnd (X, ks) = (putR (wantL X [bEnd]) ⟨20, 0, noB, noB, noB, ks⟩, ((wantL X [bEnd]).prog.nodes.length : Int)) := rfl
  rw [hbe]
  clear hbe
  obtain ⟨D, hD⟩ : ∃ D, wantL X [bEnd] = D := ⟨_, rfl⟩
  rw [hD] at hw hwn ⊢
  have hdn : D.prog.nodes.length ≤ 1000000 := by rw [hwn]; exact x3
  have hput := rPut_ok D ⟨20, 0, noB, noB, noB, ks⟩ (by omega) (by show ks.length ≤ 1048576; omega)
  clear hin hnext hwn hD hI hS dS
  dsimp only
  simp (disch := omega) only [go_sem]
  have x1 := @end_rows
  have x2 := @tSi
  have x3 := @List.length_singleton.{0}
  have x4 := @aNl
  have x5 : HH 4 (.ho [0, 1, 2] (opm 3 [1] [true] (opm 4 [1] [true] (opm 5 [] [false] (.ho [6] (opm 7 [] [] (.stop))))))) := ⟨⟩
  exact wks
 ·rw [take_yes h1, h1] at htk
  unfold blockF at he
  rw [h1, if_pos rfl] at he
  have hc := hin h1
  have ha := advR_ok x1 hc
  obtain ⟨c1, c2, c3, c4⟩ := hnext h1
  have hst := dS _ ha c1
  obtain ⟨⟨Y, o⟩, hY⟩ : ∃ x, S (advR X) = x := ⟨_, rfl⟩
  rw [hY] at hst c2 c3 c4 he
  dsimp only at hst c2 c3 c4 he
  have hadv : advR X = ⟨X.list, X.size, X.cur + 1, X.place, X.prog⟩ := rfl
  rw [hadv] at htk hst
  clear hY hadv hin ha hnext c1 hI hS dS
  simp (disch := omega) only [go_sem]
  repeat' (first | (with_reducible first | refine i_seq ?_ | exact th_none | refine i_th (id := 4) (.ho [0, 1, 2] (opm 3 [1] [true] (opm 4 [1] [true] (opm 5 [] [false] (.ho [6] (opm 7 [] [] (.stop))))))) mixedT (by kernel_rfl) (fun Q' hQ => ?_)) | ((first | (with_reducible first | refine iBk ?_ | refine iRQ (fun Q' hQ => ?_) | (refine Imp.go hQ ?_; clear hQ) | refine th_ho ?_ | refine th_stop ?_ ?_ | refine th_opm ?_ (by kernel_rfl) (aLr ?_) | refine th_altm ?_ (by kernel_rfl) (aLr ?_) ?_) | ((with_reducible refine i_condT ?_ ?_); (focus (simp only [go_sem, *]; done))) | ((with_reducible refine i_condF ?_ ?_); (focus (simp only [go_sem, *]; done))) | ((with_reducible first | refine rOg (fun h => ?_) (fun h => ?_) | refine i_cond (by simp only [go_sem, *] <;> rfl) (fun h => ?_) (fun h => ?_)) <;> (try simp only [nqA, nqB, nqC, reduceCtorEq] at h) <;> (try have h' := odT h) <;> (try (have hz : (_ : Int) = (_ : Int) := h'; clear hz h')) <;> (try have h' := odF h) <;> (try have h' := inB_t h) <;> (try (exfalso; omega))) | ((first | ((with_reducible first | refine hcO 40 true (htk) ?_ ?_ ?_ ?_ ?_); iterate 4 (focus (simp (disch := omega) only [go_sem, reduceCtorEq, nLo]; done))) | ((with_reducible refine hcO 40 true (hst) ?_ ?_ ?_ ?_ ?_); iterate 4 (focus (simp (disch := omega) only [go_sem, reduceCtorEq, nLo]; done)))); simp only [go_sem, reduceCtorEq]; refine aLr ?_)) <;> (try simp (disch := first | omega | (simp only [sAp, size_mk, List.size_toArray, List.length_cons, List.length_nil]; omega)) only [go_sem, reduceCtorEq, *])))
  all_goals (try simp (disch := omega) only [EndK, go_sem, reduceCtorEq, nLo, *])
  all_goals refine ⟨⟨(m, Y, ks ++ [o]), c2, by dsimp only; omega, by simp only [List.length_append, List.length_singleton]; omega, he⟩, ?_, by simp only; omega⟩
  all_goals
   have ea : intsT ks ++ [[T.v (.int .i64 o)]] = intsT (ks ++ [o]) := by simp [intsT]
   first | (refine wCn [0, 3] [4, 2] ?_ ?_ ?_ <;> (simp (disch := omega) only [go_sem, ea, List.length_append, List.length_singleton]; done))
end Go.Proofs.YtejnpiielcbkkaaGreat.E
