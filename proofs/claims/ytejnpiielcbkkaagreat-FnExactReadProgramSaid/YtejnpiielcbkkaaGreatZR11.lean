/- A part of what stands under the laws of this seat: an abstract evaluator that is proved sound, and contracts of functions by it. No condition beside those that stand in each statement. -/
import Derived.Test.YtejnpiielcbkkaaGreatZR10
import Derived.Test.YtejnpiielcbkkaaGreatZR6
import Derived.Test.YtejnpiielcbkkaaGreatZF1
set_option linter.unusedVariables false
set_option linter.unusedSimpArgs false
section
set_option maxRecDepth 100000
set_option maxHeartbeats 4000000
namespace Go.Proofs.YtejnpiielcbkkaaGreat.E
theorem ti88 : ti Tryz.prog 88 = some ⟨.st [(0, 1, false), (1, 1, false), (2, 1, false), (3, 1, false), (4, 3, true)], 7, 120, true, [.slice none 0 0, .int .i64 0, .int .i64 0, .int .i64 0, .slice none 0 0, .slice none 0 0, .slice none 0 0]⟩ := by kernel_rfl
theorem ni88 : notInt Tryz.prog 88 = true := by kernel_rfl
attribute [go_sem] ti88 ni88
/-! ### The program's reader -/
structure Rd where
  list : List Sign
  size : Int
  cur : Nat
  place : Int
  prog : Prgm
def rdT (r : Rd) : List T := [.own 4 (signsT r.list), iV r.size, iV r.cur, iV r.place, .own 6 (nodesT r.prog.nodes), .own 4 (monitorsT r.prog.monitors), .own 4 (processsT r.prog.processes)]
attribute [go_sem] rdT
/-- What always holds of it: its sizes. -/
structure RdOk (r : Rd) : Prop where
  len : r.list.length ≤ 500
  cur : r.cur ≤ r.list.length
  size0 : 0 ≤ r.size
  size1 : r.size ≤ 1048576
  pos : ∀ y ∈ r.list, 0 ≤ y.pos ∧ y.pos ≤ 1048576
  txt : ∀ y ∈ r.list, y.text.size ≤ 1048576
def nextS (r : Rd) : Sign := if decide ((r.list.length : Int) ≤ (r.cur : Int)) = true then ⟨0, noB, 0, r.size⟩ else r.list.getD r.cur signZ
theorem rNext_ok (r : Rd) (h : RdOk r) : CallOk Tryz.prog 98 [.one (.box (rdT r))] (.s (.agg (signT (nextS r)))) [some (.box (rdT r))] := by
 obtain ⟨list, size, cur, place, prog⟩ := r
 obtain ⟨h1, h2, h3, h4, -, -⟩ := h
 dsimp only at h1 h2 h3 h4
 cases hc : decide ((list.length : Int) ≤ (cur : Int))
 ·have hc' := of_decide_eq_false hc
  have hn : nextS ⟨list, size, cur, place, prog⟩ = list.getD cur signZ := by unfold nextS; rw [hc, if_neg (by simp)]
  rw [hn]
  refine callOk_of_hcallF 40 ?_
  simp (disch := omega) only [go_sem]
  refine hcall_names (names_at 0 0 (rdT ⟨list, size, cur, place, prog⟩) rfl (by with_reducible rfl) (by simp (disch := omega) only [go_sem])) ?_
  simp (disch := omega) only [go_sem]
  refine hBd Tryz.func98 rfl (by kernel_rfl) ?_
  simp (disch := omega) only [go_sem, Tryz.ntmps98, Tryz.results98]
  have x1 : HT 1 (.fr [0, 1, 2, 3, 4, 5, 6, 7, 8, 9] (.stop)) := ⟨⟩
  have x2 : HT 3 (.fr [0, 1, 2, 3, 4, 5, 6, 7, 8, 9] (.op [10] (.stop))) := ⟨⟩
  have x3 : HF 0 99 := ⟨⟩
  exact wksf
 ·have hc' := of_decide_eq_true hc
  have hn : nextS ⟨list, size, cur, place, prog⟩ = ⟨0, noB, 0, size⟩ := by unfold nextS; rw [hc, if_pos rfl]
  rw [hn]
  refine callOk_of_hcallF 40 ?_
  simp (disch := omega) only [go_sem]
  refine hcall_names (names_at 0 0 (rdT ⟨list, size, cur, place, prog⟩) rfl (by with_reducible rfl) (by simp (disch := omega) only [go_sem])) ?_
  simp (disch := omega) only [go_sem]
  refine hBd Tryz.func98 rfl (by kernel_rfl) ?_
  simp (disch := omega) only [go_sem, Tryz.ntmps98, Tryz.results98]
  have x1 : HT 1 (.fr [0, 1, 2, 3, 4, 5, 6, 7, 8, 9] (.stop)) := ⟨⟩
  have x2 : HT 3 (.fr [0, 1, 2, 3, 4, 5, 6, 7, 8, 9] (.op [10] (.stop))) := ⟨⟩
  have x3 : HF 0 99 := ⟨⟩
  exact wksf
end Go.Proofs.YtejnpiielcbkkaaGreat.E
end
section
set_option maxRecDepth 100000
set_option maxHeartbeats 4000000
namespace Go.Proofs.YtejnpiielcbkkaaGreat.E
theorem nextS_bd {r : Rd} (h : RdOk r) : 0 ≤ (nextS r).pos ∧ (nextS r).pos ≤ 1048576 ∧ (nextS r).text.size ≤ 1048576 := by
 unfold nextS
 split
 ·exact ⟨h.size0, h.size1, Nat.zero_le _⟩
 ·rename_i hc
  have hl : r.cur < r.list.length := by
   have := of_decide_eq_false (by simpa using hc : decide ((r.list.length : Int) ≤ (r.cur : Int)) = false)
   omega
  have hm : r.list.getD r.cur signZ ∈ r.list := by rw [List.getD_eq_getElem?_getD, List.getElem?_eq_getElem hl]; exact List.getElem_mem hl
  exact ⟨(h.pos _ hm).1, (h.pos _ hm).2, h.txt _ hm⟩
theorem nextS_in {r : Rd} (h : (nextS r).kind ≠ 0 ∨ (nextS r).text.size ≠ 0) : r.cur < r.list.length := by
 unfold nextS at h
 split at h
 ·rcases h with h | h
  ·exact absurd rfl h
  ·exact absurd rfl h
 ·rename_i hc
  have := of_decide_eq_false (by simpa using hc : decide ((r.list.length : Int) ≤ (r.cur : Int)) = false)
  omega
def wrongR (r : Rd) : Rd := if (r.place == 0) = true then ⟨r.list, r.size, r.cur, (nextS r).pos + 1, r.prog⟩ else r
def advR (r : Rd) : Rd := ⟨r.list, r.size, r.cur + 1, r.place, r.prog⟩
def isR (r : Rd) (s : ByteArray) : Bool := if (r.place == 0) = true then seq (nextS r).text s else false
theorem wrongR_ok {r : Rd} (h : RdOk r) : RdOk (wrongR r) := by
 unfold wrongR
 split
 ·exact ⟨h.len, h.cur, h.size0, h.size1, h.pos, h.txt⟩
 ·exact h
theorem advR_ok {r : Rd} (h : RdOk r) (hc : r.cur < r.list.length) : RdOk (advR r) := ⟨h.len, hc, h.size0, h.size1, h.pos, h.txt⟩
theorem isR_in {r : Rd} {s : ByteArray} (hs : s.size ≠ 0) (h : isR r s = true) : r.cur < r.list.length := by
 unfold isR at h
 split at h
 ·have := (seq_iff _ _).1 h
  exact nextS_in (.inr (by rw [this]; exact hs))
 ·cases h
theorem rWrong_ok (r : Rd) (h : RdOk r) : CallOk Tryz.prog 33 [.one (.box (rdT r))] (.tup []) [some (.box (rdT (wrongR r)))] := by
 have hn := rNext_ok r h
 obtain ⟨b0, b1, -⟩ := nextS_bd h
 obtain ⟨S, hS⟩ : ∃ S, nextS r = S := ⟨_, rfl⟩
 rw [hS] at hn b0 b1
 cases hp : (r.place == 0)
 ·have hw : wrongR r = r := by unfold wrongR; rw [hp, if_neg (by simp)]
  rw [hw]
  clear hw
  refine cOh 40 (hBd Tryz.func33 rfl (by kernel_rfl) ?_)
  simp (disch := omega) only [go_sem, Tryz.ntmps33, Tryz.results33]
  exact wks
 ·have hw : wrongR r = ⟨r.list, r.size, r.cur, S.pos + 1, r.prog⟩ := by unfold wrongR; rw [hp, if_pos rfl, hS]
  rw [hw]
  clear hw
  refine cOh 40 (hBd Tryz.func33 rfl (by kernel_rfl) ?_)
  simp (disch := omega) only [go_sem, Tryz.ntmps33, Tryz.results33]
  exact wks
theorem rIs_ok (r : Rd) (s : ByteArray) (h : RdOk r) : CallOk Tryz.prog 94 [.one (.box (rdT r)), .one (sV s)] (.s (.one (bV (isR r s)))) [some (.box (rdT r)), none] := by
 have hn := rNext_ok r h
 cases hp : (r.place == 0)
 all_goals
  have hi : isR r s = if (r.place == 0) = true then seq (nextS r).text s else false := rfl
  rw [hp] at hi
  simp only [Bool.false_eq_true, if_false, if_true] at hi
  rw [hi]
  clear hi
  obtain ⟨S, hS⟩ : ∃ S, nextS r = S := ⟨_, rfl⟩
  rw [hS] at hn
  try rw [hS]
  clear hS
  refine cOh 40 (hBd Tryz.func94 rfl (by kernel_rfl) ?_)
  simp (disch := omega) only [go_sem, Tryz.ntmps94, Tryz.results94]
  exact wks
def takeR (r : Rd) (s : ByteArray) : Rd := if isR r s = true then advR r else r
theorem rTake_ok (r : Rd) (s : ByteArray) (hs : s.size ≠ 0) (h : RdOk r) : CallOk Tryz.prog 29 [.one (.box (rdT r)), .one (sV s)] (.s (.one (bV (isR r s)))) [some (.box (rdT (takeR r s))), none] := by
 have hi := rIs_ok r s h
 have hin := isR_in (r := r) hs
 have hl := h.len
 have ht : takeR r s = if isR r s = true then advR r else r := rfl
 cases hq : isR r s
 all_goals
  rw [hq] at hi ht hin
  simp only [Bool.false_eq_true, if_false, if_true] at ht
  rw [ht]
  clear ht
  first | replace hin := hin rfl | clear hin
  refine cOh 40 (hBd Tryz.func29 rfl (by kernel_rfl) ?_)
  simp (disch := omega) only [go_sem, Tryz.ntmps29, Tryz.results29]
  have x1 := @advR.eq_1
  exact wks
end Go.Proofs.YtejnpiielcbkkaaGreat.E
end
section
set_option maxRecDepth 100000
set_option maxHeartbeats 4000000
namespace Go.Proofs.YtejnpiielcbkkaaGreat.E
def wantOne (r : Rd) (s : ByteArray) : Rd := if (r.place == 0) = true then (if isR r s = true then advR r else wrongR r) else r
def wantL (r : Rd) (xs : List ByteArray) : Rd := xs.foldl wantOne r
theorem wantOne_ok {r : Rd} {s : ByteArray} (hs : s.size ≠ 0) (h : RdOk r) : RdOk (wantOne r s) := by
 unfold wantOne
 split
 ·split
  ·rename_i hi; exact advR_ok h (isR_in hs hi)
  ·exact wrongR_ok h
 ·exact h
theorem wantL_ok : ∀ {xs : List ByteArray} {r : Rd}, (∀ s ∈ xs, s.size ≠ 0) → RdOk r → RdOk (wantL r xs)
 | [], r, _, h => h
 | x :: xs, r, hs, h => wantL_ok (xs := xs) (fun s hm => hs s (List.mem_cons_of_mem _ hm)) (wantOne_ok (hs x (List.mem_cons_self ..)) h)
theorem wantL_one {r : Rd} {xs : List ByteArray} {k : Nat} (h : k < xs.length) : wantOne (wantL r (xs.take k)) (xs.getD k ByteArray.empty) = wantL r (xs.take (k + 1)) := by
 unfold wantL
 rw [List.take_succ_eq_append_getElem h, List.foldl_append]
 simp [h]
theorem rWant_ok (r : Rd) (xs : List ByteArray) (hs : ∀ s ∈ xs, s.size ≠ 0) (hx : xs.length ≤ 1048576) (h : RdOk r) : CallOk Tryz.prog 32 [.one (.box (rdT r)), .one (.ro 1 (strsD xs))] (.tup []) [some (.box (rdT (wantL r xs))), none] := by
 have h0 : wantL r [] = r := rfl
 refine cOh 40 (hBd Tryz.func32 rfl (by kernel_rfl) ?_)
 simp (disch := omega) only [go_sem, Tryz.ntmps32, Tryz.results32]
 repeat' (first | (with_reducible first | refine i_seq ?_) | ((first | (with_reducible first | refine iBk ?_ | refine iRQ (fun Q' hQ => ?_) | (refine Imp.go hQ ?_; clear hQ)) | ((with_reducible refine i_condT ?_ ?_); (focus (simp only [go_sem, *]; done))) | ((with_reducible refine i_condF ?_ ?_); (focus (simp only [go_sem, *]; done))) | ((with_reducible first | refine rOg (fun h => ?_) (fun h => ?_) | refine i_cond (by simp only [go_sem, *] <;> rfl) (fun h => ?_) (fun h => ?_)) <;> (try simp only [nqA, nqB, nqC, reduceCtorEq] at h) <;> (try have h' := odT h) <;> (try (have hz : (_ : Int) = (_ : Int) := h'; clear hz h')) <;> (try have h' := odF h) <;> (try have h' := inB_t h) <;> (try (exfalso; omega)))) <;> (try simp (disch := first | omega | (simp only [sAp, size_mk, List.size_toArray, List.length_cons, List.length_nil]; omega)) only [go_sem, *])))
 all_goals (try simp (disch := omega) only [EndK, go_sem, nLo, *])
 refine i_loop (α := {k : Nat // k ≤ xs.length}) (fun k => ⟨mkEnv 26 [(0, .one (.ptr 0 0 0)), (6, .one (.ro 1 (strsD xs))), (7, .one (iV xs.length)), (8, .one (iV k.1))], [.live 7 [rdT (wantL r (xs.take k.1))]]⟩) (fun k => xs.length - k.1) ⟨0, by omega⟩ ?_ ?_
 ·first | (refine wCn [0, 6, 7, 8] [] ?_ ?_ ?_ <;> (simp (disch := omega) only [go_sem, List.take_zero, h0]; done))
 rintro ⟨k, hk⟩
 by_cases hkl : k < xs.length
 ·have d1 : decide ((k : Int) < (xs.length : Int)) = true := decide_eq_true (by omega)
  have hsk : (xs.getD k ByteArray.empty).size ≠ 0 := hs _ (by rw [List.getD_eq_getElem?_getD, List.getElem?_eq_getElem hkl]; exact List.getElem_mem hkl)
  have hok : RdOk (wantL r (xs.take k)) := wantL_ok (fun s hm => hs s (List.mem_of_mem_take hm)) h
  have e := wantL_one (r := r) hkl
  obtain ⟨R, hR⟩ : ∃ R, wantL r (xs.take k) = R := ⟨_, rfl⟩
  obtain ⟨R2, hR2⟩ : ∃ R2, wantL r (xs.take (k + 1)) = R2 := ⟨_, rfl⟩
  rw [hR, hR2] at e
  rw [hR] at hok
  simp only [hR]
  have htk := rTake_ok R (xs.getD k ByteArray.empty) hsk hok
  have hwr := rWrong_ok R hok
  have ht : takeR R (xs.getD k ByteArray.empty) = if isR R (xs.getD k ByteArray.empty) = true then advR R else R := rfl
  have hw1 : wantOne R (xs.getD k ByteArray.empty) = if (R.place == 0) = true then (if isR R (xs.getD k ByteArray.empty) = true then advR R else wrongR R) else R := rfl
  cases hp : (R.place == 0)
  ·rw [hp] at hw1
   simp only [Bool.false_eq_true, if_false] at hw1
   rw [hw1] at e
   subst e
   clear hw1 ht htk hwr
   simp (disch := omega) only [go_sem]
   repeat' (first | (with_reducible first | refine i_seq ?_) | ((first | (with_reducible first | refine iBk ?_ | refine iRQ (fun Q' hQ => ?_) | (refine Imp.go hQ ?_; clear hQ)) | ((with_reducible refine i_condT ?_ ?_); (focus (simp only [go_sem, *]; done))) | ((with_reducible refine i_condF ?_ ?_); (focus (simp only [go_sem, *]; done))) | ((with_reducible first | refine rOg (fun h => ?_) (fun h => ?_) | refine i_cond (by simp only [go_sem, *] <;> rfl) (fun h => ?_) (fun h => ?_)) <;> (try simp only [nqA, nqB, nqC, reduceCtorEq] at h) <;> (try have h' := odT h) <;> (try (have hz : (_ : Int) = (_ : Int) := h'; clear hz h')) <;> (try have h' := odF h) <;> (try have h' := inB_t h) <;> (try (exfalso; omega)))) <;> (try simp (disch := first | omega | (simp only [sAp, size_mk, List.size_toArray, List.length_cons, List.length_nil]; omega)) only [go_sem, d1, hp, reduceCtorEq, *])))
   all_goals (try simp (disch := omega) only [EndK, go_sem, d1, hp, reduceCtorEq, nLo, *])
   all_goals refine ⟨⟨k + 1, by omega⟩, ?_, by simp only; omega⟩
   all_goals
    simp only [hR2]
    first | exact wc [0, 6, 7, 8] []
  ·rw [hp] at hw1
   simp only [if_true] at hw1
   cases hq : isR R (xs.getD k ByteArray.empty)
   ·rw [hq] at hw1 ht htk
    simp only [Bool.false_eq_true, if_false] at hw1 ht
    rw [ht] at htk
    rw [hw1] at e
    clear hw1 ht
    simp (disch := omega) only [go_sem]
    repeat' (first | (with_reducible first | refine i_seq ?_) | ((first | (with_reducible first | refine iBk ?_ | refine iRQ (fun Q' hQ => ?_) | (refine Imp.go hQ ?_; clear hQ)) | ((with_reducible refine i_condT ?_ ?_); (focus (simp only [go_sem, *]; done))) | ((with_reducible refine i_condF ?_ ?_); (focus (simp only [go_sem, *]; done))) | ((with_reducible first | refine rOg (fun h => ?_) (fun h => ?_) | refine i_cond (by simp only [go_sem, *] <;> rfl) (fun h => ?_) (fun h => ?_)) <;> (try simp only [nqA, nqB, nqC, reduceCtorEq] at h) <;> (try have h' := odT h) <;> (try (have hz : (_ : Int) = (_ : Int) := h'; clear hz h')) <;> (try have h' := odF h) <;> (try have h' := inB_t h) <;> (try (exfalso; omega))) | (((with_reducible first | refine hcO 40 true (htk) ?_ ?_ ?_ ?_ ?_ | refine hcO 40 true (hwr) ?_ ?_ ?_ ?_ ?_); iterate 4 (focus (simp (disch := omega) only [go_sem, d1, hp, reduceCtorEq, nLo]; done))); simp only [go_sem, d1, hp, reduceCtorEq]; refine aLr ?_)) <;> (try simp (disch := first | omega | (simp only [sAp, size_mk, List.size_toArray, List.length_cons, List.length_nil]; omega)) only [go_sem, d1, hp, reduceCtorEq, *])))
    all_goals (try simp (disch := omega) only [EndK, go_sem, d1, hp, reduceCtorEq, nLo, *])
    all_goals refine ⟨⟨k + 1, by omega⟩, ?_, by simp only; omega⟩
    all_goals
     simp only [hR2, ← e]
     first | exact wc [0, 6, 7, 8] []
   ·rw [hq] at hw1 ht htk
    simp only [if_true] at hw1 ht
    rw [ht] at htk
    rw [hw1] at e
    clear hw1 ht hwr
    simp (disch := omega) only [go_sem]
    repeat' (first | (with_reducible first | refine i_seq ?_) | ((first | (with_reducible first | refine iBk ?_ | refine iRQ (fun Q' hQ => ?_) | (refine Imp.go hQ ?_; clear hQ)) | ((with_reducible refine i_condT ?_ ?_); (focus (simp only [go_sem, *]; done))) | ((with_reducible refine i_condF ?_ ?_); (focus (simp only [go_sem, *]; done))) | ((with_reducible first | refine rOg (fun h => ?_) (fun h => ?_) | refine i_cond (by simp only [go_sem, *] <;> rfl) (fun h => ?_) (fun h => ?_)) <;> (try simp only [nqA, nqB, nqC, reduceCtorEq] at h) <;> (try have h' := odT h) <;> (try (have hz : (_ : Int) = (_ : Int) := h'; clear hz h')) <;> (try have h' := odF h) <;> (try have h' := inB_t h) <;> (try (exfalso; omega))) | (((with_reducible first | refine hcO 40 true (htk) ?_ ?_ ?_ ?_ ?_); iterate 4 (focus (simp (disch := omega) only [go_sem, d1, hp, reduceCtorEq, nLo]; done))); simp only [go_sem, d1, hp, reduceCtorEq]; refine aLr ?_)) <;> (try simp (disch := first | omega | (simp only [sAp, size_mk, List.size_toArray, List.length_cons, List.length_nil]; omega)) only [go_sem, d1, hp, reduceCtorEq, *])))
    all_goals (try simp (disch := omega) only [EndK, go_sem, d1, hp, reduceCtorEq, nLo, *])
    all_goals refine ⟨⟨k + 1, by omega⟩, ?_, by simp only; omega⟩
    all_goals
     simp only [hR2, ← e]
     first | exact wc [0, 6, 7, 8] []
 ·have d1 : decide ((k : Int) < (xs.length : Int)) = false := decide_eq_false (by omega)
  have ek : xs.take k = xs := List.take_of_length_le (by omega)
  simp (disch := omega) only [go_sem]
  exact wks
/-! A name. -/
def nameR (r : Rd) : Rd × ByteArray := if (r.place != 0) = true then (wrongR r, noB) else if ((nextS r).kind != 1) = true then (wrongR r, noB) else if nameOk (nextS r).text = false then (wrongR r, noB) else (advR r, (nextS r).text)
theorem rName_ok (r : Rd) (h : RdOk r) : CallOk Tryz.prog 95 [.one (.box (rdT r))] (.s (.one (sV (nameR r).2))) [some (.box (rdT (nameR r).1))] := by
 have hn := rNext_ok r h
 have hwr := rWrong_ok r h
 have hl := h.len
 have hc := h.cur
 obtain ⟨-, -, hts⟩ := nextS_bd h
 have hno := iNameOk_ok (nextS r).text hts
 obtain ⟨S, hS⟩ : ∃ S, nextS r = S := ⟨_, rfl⟩
 have hr : nameR r = if (r.place != 0) = true then (wrongR r, noB) else if (S.kind != 1) = true then (wrongR r, noB) else if nameOk S.text = false then (wrongR r, noB) else (advR r, S.text) := by unfold nameR; rw [hS]
 rw [hS] at hn hts hno
 rw [hr]
 clear hr hS
 cases h1 : (r.place != 0)
 ·cases h2 : (S.kind != 1)
  ·cases h3 : nameOk S.text
   all_goals
    rw [h3] at hno
    simp only [Bool.false_eq_true, if_false, if_true, reduceCtorEq]
    refine cOh 40 (hBd Tryz.func95 rfl (by kernel_rfl) ?_)
    simp (disch := omega) only [go_sem, Tryz.ntmps95, Tryz.results95]
    have x1 := @advR.eq_1
    exact wks
  ·simp only [Bool.false_eq_true, if_false, if_true]
   refine cOh 40 (hBd Tryz.func95 rfl (by kernel_rfl) ?_)
   simp (disch := omega) only [go_sem, Tryz.ntmps95, Tryz.results95]
   exact wks
 ·simp only [if_true]
  refine cOh 40 (hBd Tryz.func95 rfl (by kernel_rfl) ?_)
  simp (disch := omega) only [go_sem, Tryz.ntmps95, Tryz.results95]
  exact wks
end Go.Proofs.YtejnpiielcbkkaaGreat.E
end
section
set_option maxRecDepth 100000
set_option maxHeartbeats 4000000
namespace Go.Proofs.YtejnpiielcbkkaaGreat.E
def putR (r : Rd) (n : Node) : Rd := ⟨r.list, r.size, r.cur, r.place, ⟨r.prog.nodes ++ [n], r.prog.monitors, r.prog.processes⟩⟩
theorem putR_ok {r : Rd} {n : Node} (h : RdOk r) : RdOk (putR r n) := ⟨h.len, h.cur, h.size0, h.size1, h.pos, h.txt⟩
theorem nodesT_app1 (xs : List Node) (a b : Int) (c d e : ByteArray) (f : List Int) : nodesT xs ++ [[.v (.int .i64 a), .v (.int .i64 b), .v (.string c), .v (.string d), .v (.string e), .own 1 (intsT f)]] = nodesT (xs ++ [⟨a, b, c, d, e, f⟩]) := by simp [nodesT, nodeT]
theorem rPut_ok (r : Rd) (n : Node) (hN : r.prog.nodes.length ≤ 1073741824) (hk : n.kids.length ≤ 1048576) : CallOk Tryz.prog 171 [.one (.box (rdT r)), .agg (nodeT n)] (.s (.one (iV r.prog.nodes.length))) [some (.box (rdT (putR r n))), none] := by
 obtain ⟨list, size, cur, place, ⟨nodes, monitors, processes⟩⟩ := r
 obtain ⟨kind, num, name, more, to, kids⟩ := n
 dsimp only at hN hk
 have e1 : (nodes.length : Int) + 1 - 1 = (nodes.length : Int) := by omega
 refine callOk_of_hcallF 40 ?_
 simp (disch := omega) only [go_sem]
 refine hcall_names (names_at 0 0 (rdT ⟨list, size, cur, place, ⟨nodes, monitors, processes⟩⟩) rfl (by with_reducible rfl) (by simp (disch := omega) only [go_sem])) ?_
 simp (disch := omega) only [go_sem]
 refine hBd Tryz.func171 rfl (by kernel_rfl) ?_
 simp (disch := omega) only [go_sem, Tryz.ntmps171, Tryz.results171]
 repeat' (first | (with_reducible first | refine i_seq ?_ | exact th_none | refine i_th (id := 1) (.ho [0, 1, 2, 3, 4, 5, 6] (opm 7 [5] [false, true] (opm 8 [] [false] (.ho [9, 10, 11] (opm 12 [] [] (.stop)))))) mixedT (by kernel_rfl) (fun Q' hQ => ?_)) | ((first | (with_reducible first | refine iBk ?_ | refine iRQ (fun Q' hQ => ?_) | (refine Imp.go hQ ?_; clear hQ) | refine th_ho ?_ | refine th_stop ?_ ?_ | refine th_opm ?_ (by kernel_rfl) (aLr ?_) | refine th_altm ?_ (by kernel_rfl) (aLr ?_) ?_) | ((with_reducible refine i_condT ?_ ?_); (focus (simp only [go_sem, *]; done))) | ((with_reducible refine i_condF ?_ ?_); (focus (simp only [go_sem, *]; done))) | ((with_reducible first | refine rOg (fun h => ?_) (fun h => ?_) | refine i_cond (by simp only [go_sem, *] <;> rfl) (fun h => ?_) (fun h => ?_)) <;> (try simp only [nqA, nqB, nqC, reduceCtorEq] at h) <;> (try have h' := odT h) <;> (try (have hz : (_ : Int) = (_ : Int) := h'; clear hz h')) <;> (try have h' := odF h) <;> (try have h' := inB_t h) <;> (try (exfalso; omega)))) <;> (try simp (disch := first | omega | (simp only [sAp, size_mk, List.size_toArray, List.length_cons, List.length_nil]; omega)) only [go_sem, putR, nodesT_app1, e1, List.length_append, List.length_singleton, reduceCtorEq, *])) | ((first | apply hFo | apply endF_folds); (focus (refine folds_appc 8 rfl (by with_reducible rfl) ?_; (focus (simp (disch := omega) only [go_sem]; done)))); (try simp (disch := first | omega | (simp only [sAp, size_mk, List.size_toArray, List.length_cons, List.length_nil]; omega)) only [go_sem, putR, nodesT_app1, e1, List.length_append, List.length_singleton, reduceCtorEq, *])) | ((first | apply hFo | apply endF_folds); (focus ((first | refine folds_setc 99 rfl (by with_reducible rfl) ?_ ?_); (focus (simp (disch := omega) only [go_sem]; done)); (focus (first | omega | (simp (disch := omega) only [go_sem]; omega))))); (try simp (disch := first | omega | (simp only [sAp, size_mk, List.size_toArray, List.length_cons, List.length_nil]; omega)) only [go_sem, putR, nodesT_app1, e1, List.length_append, List.length_singleton, reduceCtorEq, *])))
 all_goals (try (with_reducible refine endF_k ?_))
 all_goals (try simp (disch := omega) only [EndK, go_sem, putR, nodesT_app1, e1, List.length_append, List.length_singleton, reduceCtorEq, nLo, *])
end Go.Proofs.YtejnpiielcbkkaaGreat.E
end
