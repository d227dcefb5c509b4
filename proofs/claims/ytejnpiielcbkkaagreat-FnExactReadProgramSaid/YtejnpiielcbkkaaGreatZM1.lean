/- A part of what stands under the laws of this seat: an abstract evaluator that is proved sound, and contracts of functions by it. No condition beside those that stand in each statement. -/
import Derived.Test.YtejnpiielcbkkaaGreatZA2
import Derived.Test.YtejnpiielcbkkaaGreatZF1
set_option linter.unusedVariables false
set_option linter.unusedSimpArgs false
section
set_option maxRecDepth 100000
set_option maxHeartbeats 4000000
namespace Go.Proofs.YtejnpiielcbkkaaGreat.E
def fNode : Int → Node → Node := fun k x => ⟨k, k + 1, mtB (k + 2), mtB (k + 3), mtB (k + 4), mkL fI wI (k + 5) x.kids⟩
def wNode : Node → Nat := fun x => 5 + (x.kids.map wI).sum
theorem nodesT_set' (xs : List Node) (k : Nat) (p : Int) (q : Int) (r : ByteArray) (s : ByteArray) (t : ByteArray) (u : List Int) : (nodesT xs).set k [.v (.int .i64 p), .v (.int .i64 q), .v (.string r), .v (.string s), .v (.string t), .own 1 (intsT u)] = nodesT (xs.set k ⟨p, q, r, s, t, u⟩) := by simp [nodesT, List.map_set, nodeT]
theorem nodesT_getset {xs : List Node} {j : Nat} {x : Node} (h : j < xs.length) : (nodesT (xs.set j x))[j]? = some (nodeT x) := by simp [nodesT, h]
theorem nodesT_setget2 {xs : List Node} {k : Nat} {r : List T} (h : k < xs.length) : ((nodesT xs).set k r)[k]? = some r := by simp [nodesT, h]
theorem nodesT_setset {xs : List Node} {k : Nat} {g : Node} {r : List T} : (nodesT (xs.set k g)).set k r = (nodesT xs).set k r := by simp [nodesT, List.map_set]
attribute [go_sem] nodesT_set' nodesT_getset nodesT_setget2 nodesT_setset
theorem markNodeS_ok (xs : List Node) (k : Int) (hk : 0 ≤ k) (ha : adv wNode k xs ≤ 4611686018427387904) : CallOk Tryz.prog 38 [.one (.own 6 (nodesT xs)), .one (iV k)] (.s (.one (iV (adv wNode k xs)))) [some (.own 6 (nodesT (mkL fNode wNode k xs))), none] := by
 have hz := mixL_zero fNode wNode k xs
 have hs : xs.length ≤ 4611686018427387904 := by have := adv_len (w := wNode) (k := k) (xs := xs) (fun x => by simp only [wNode]; omega); omega
 refine cOh 40 (hBd Tryz.func38 rfl (by kernel_rfl) ?_)
 simp (disch := omega) only [go_sem, Tryz.ntmps38, Tryz.results38]
 refine wksr ?_
 intros
 refine i_loop (α := {j : Nat // j ≤ xs.length}) (fun j => ⟨mkEnv 58 [(0, .one (.ref 0 0 xs.length)), (1, .one (iV (adv wNode k (xs.take j.1)))), (5, .one (iV j.1))], [.live 6 (nodesT (mixL fNode wNode k xs j.1))]⟩) (fun j => xs.length - j.1) ⟨0, by omega⟩ ?_ ?_
 ·first | (refine wCn [0, 1, 5] [] ?_ ?_ ?_ <;> (simp (disch := omega) only [go_sem, hz, adv_nil]; done))
 rintro ⟨j, hj⟩
 have hml := mixL_len fNode wNode (k := k) (xs := xs) (j := j)
 have ha1 := adv_take_le wNode k xs j
 have ha2 := adv_le wNode k (xs.take j)
 by_cases hjl : j < xs.length
 ·have e := mixL_set fNode wNode (k := k) nodeZ hjl
  have e2 := adv_one wNode nodeZ k hjl
  have e4 := mixL_get fNode wNode (k := k) nodeZ hjl
  have ha3 := adv_take_le wNode k xs (j + 1)
  simp only [fNode] at e
  simp (disch := omega) only [go_sem]
  have e3 : (adv wI ((adv wNode k (xs.take j)) + 5) (xs.getD j nodeZ).kids) = adv wNode k (xs.take (j + 1)) := by rw [e2]; simp only [adv, wNode]; omega
  have e90 := adv_le wI ((adv wNode k (xs.take j)) + 5) (xs.getD j nodeZ).kids
  have m90 := mkL_len fI wI (xs.getD j nodeZ).kids ((adv wNode k (xs.take j)) + 5)
  have t90 : (mkL fI wI ((adv wNode k (xs.take j)) + 5) (xs.getD j nodeZ).kids).take (xs.getD j nodeZ).kids.length = mkL fI wI ((adv wNode k (xs.take j)) + 5) (xs.getD j nodeZ).kids := by rw [← m90, List.take_length]
  clear e2
  repeat' (first | (with_reducible first | refine i_seq ?_) | ((first | (with_reducible first | refine iBk ?_ | refine iRQ (fun Q' hQ => ?_) | (refine Imp.go hQ ?_; clear hQ)) | ((with_reducible refine i_condT ?_ ?_); (focus (simp only [go_sem, *]; done))) | ((with_reducible refine i_condF ?_ ?_); (focus (simp only [go_sem, *]; done))) | ((with_reducible first | refine rOg (fun h => ?_) (fun h => ?_) | refine i_cond (by simp only [go_sem, *] <;> rfl) (fun h => ?_) (fun h => ?_)) <;> (try simp only [nqA, nqB, nqC, reduceCtorEq] at h) <;> (try have h' := odT h) <;> (try (have hz : (_ : Int) = (_ : Int) := h'; clear hz h')) <;> (try have h' := odF h) <;> (try have h' := inB_t h) <;> (try (exfalso; omega))) | ((first | ((with_reducible first | refine hcO 40 true (markIntS_ok (xs.getD j nodeZ).kids ((adv wNode k (xs.take j)) + 5) (by omega) (by omega)) ?_ ?_ ?_ ?_ ?_); iterate 4 (focus (simp (disch := omega) only [go_sem, List.set_set, getD_set_self, e4, Int.add_assoc, Int.reduceAdd, nLo]; done))) | ((with_reducible refine hcO 40 true (markText_ok ((adv wNode k (xs.take j)) + 2) (by omega) (by omega)) ?_ ?_ ?_ ?_ ?_); iterate 4 (focus (simp (disch := omega) only [go_sem, List.set_set, getD_set_self, e4, Int.add_assoc, Int.reduceAdd, nLo]; done))) | ((with_reducible refine hcO 40 true (markText_ok ((adv wNode k (xs.take j)) + 3) (by omega) (by omega)) ?_ ?_ ?_ ?_ ?_); iterate 4 (focus (simp (disch := omega) only [go_sem, List.set_set, getD_set_self, e4, Int.add_assoc, Int.reduceAdd, nLo]; done))) | ((with_reducible refine hcO 40 true (markText_ok ((adv wNode k (xs.take j)) + 4) (by omega) (by omega)) ?_ ?_ ?_ ?_ ?_); iterate 4 (focus (simp (disch := omega) only [go_sem, List.set_set, getD_set_self, e4, Int.add_assoc, Int.reduceAdd, nLo]; done)))); simp only [go_sem, List.set_set, getD_set_self, e4, Int.add_assoc, Int.reduceAdd]; refine aLr ?_)) <;> (try simp (disch := first | omega | (simp only [sAp, size_mk, List.size_toArray, List.length_cons, List.length_nil]; omega)) only [go_sem, List.set_set, getD_set_self, e4, Int.add_assoc, Int.reduceAdd, *])))
  all_goals (try simp (disch := omega) only [EndK, go_sem, List.set_set, getD_set_self, e4, Int.add_assoc, Int.reduceAdd, nLo, *])
  all_goals refine ⟨⟨j + 1, by omega⟩, ?_, by simp only; omega⟩
  all_goals first | (first | (refine weak_folds (folds_setc 0 rfl (by with_reducible rfl) ?_ ?_) ?_; (focus (simp (disch := omega) only [go_sem, e, e3, m90, t90, Int.add_assoc, Int.reduceAdd]; done)); (focus (first | omega | (simp (disch := omega) only [go_sem, e, e3, m90, t90, Int.add_assoc, Int.reduceAdd]; omega))); refine wCn [0, 1, 5] [] ?_ ?_ ?_ <;> (simp (disch := omega) only [go_sem, e, e3, m90, t90, Int.add_assoc, Int.reduceAdd]; done))) | (refine wCn [0, 1, 5] [] ?_ ?_ ?_ <;> (simp (disch := omega) only [go_sem, e, e3, m90, t90, Int.add_assoc, Int.reduceAdd]; done))
 ·have e5 := adv_end wNode (k := k) (xs := xs) (j := j) (by omega)
  have e6 := mixL_end fNode wNode (k := k) (xs := xs) (j := j) (by omega)
  have e7 : (mkL fNode wNode k xs).take xs.length = mkL fNode wNode k xs := by rw [← mkL_len fNode wNode xs k, List.take_length]
  have e8 : xs.length ≤ (mkL fNode wNode k xs).length := by rw [mkL_len]; exact Nat.le_refl _
  simp (disch := omega) only [go_sem]
  exact wks
theorem heldNodeS_ok (xs : List Node) (k : Int) (hk : 0 ≤ k) (ha : adv wNode k xs ≤ 4611686018427387904) : CallOk Tryz.prog 41 [.one (.ro 6 (nodesD (mkL fNode wNode k xs))), .one (iV k)] (.s (.one (iV (adv wNode k xs)))) [none, none] := by
 have hs : xs.length ≤ 4611686018427387904 := by have := adv_len (w := wNode) (k := k) (xs := xs) (fun x => by simp only [wNode]; omega); omega
 have hl := mkL_len fNode wNode xs k
 refine cOh 40 (hBd Tryz.func41 rfl (by kernel_rfl) ?_)
 simp (disch := omega) only [go_sem, Tryz.ntmps41, Tryz.results41]
 have x1 : HH 10 (.ho [0, 1, 2, 3, 4, 5] (opm 6 [4, 2] [true, true] (.ho [7] (.stop)))) := ⟨⟩
 have x2 : HH 13 (.ho [0, 1, 2, 3, 4, 5] (opm 6 [4, 2] [true, true] (.ho [7] (.stop)))) := ⟨⟩
 have x3 : HH 16 (.ho [0, 1, 2, 3, 4, 5] (opm 6 [4, 2] [true, true] (.ho [7] (.stop)))) := ⟨⟩
 refine wksr ?_
 intros
 refine i_loop (α := {j : Nat // j ≤ xs.length}) (fun j => ⟨mkEnv 70 [(0, .one (.ro 6 (nodesD (mkL fNode wNode k xs)))), (1, .one (iV (adv wNode k (xs.take j.1)))), (5, .one (iV j.1))], []⟩) (fun j => xs.length - j.1) ⟨0, by omega⟩ ?_ ?_
 ·first | (refine wCn [0, 1, 5] [] ?_ ?_ ?_ <;> (simp (disch := omega) only [go_sem, adv_nil]; done))
 rintro ⟨j, hj⟩
 have ha1 := adv_take_le wNode k xs j
 have ha2 := adv_le wNode k (xs.take j)
 by_cases hjl : j < xs.length
 ·have e2 := adv_one wNode nodeZ k hjl
  have e4 := mkL_get fNode wNode (k := k) nodeZ hjl
  have ha3 := adv_take_le wNode k xs (j + 1)
  simp only [fNode] at e4
  simp (disch := omega) only [go_sem]
  have e3 : (adv wI ((adv wNode k (xs.take j)) + 5) (xs.getD j nodeZ).kids) = adv wNode k (xs.take (j + 1)) := by rw [e2]; simp only [adv, wNode]; omega
  have e90 := adv_le wI ((adv wNode k (xs.take j)) + 5) (xs.getD j nodeZ).kids
  have m90 := mkL_len fI wI (xs.getD j nodeZ).kids ((adv wNode k (xs.take j)) + 5)
  have t90 : (mkL fI wI ((adv wNode k (xs.take j)) + 5) (xs.getD j nodeZ).kids).take (xs.getD j nodeZ).kids.length = mkL fI wI ((adv wNode k (xs.take j)) + 5) (xs.getD j nodeZ).kids := by rw [← m90, List.take_length]
  clear e2
  repeat' (first | (with_reducible first | refine i_seq ?_ | exact th_none | refine i_th (id := 10) (.ho [0, 1, 2, 3, 4, 5] (opm 6 [4, 2] [true, true] (.ho [7] (.stop)))) mixedT (by kernel_rfl) (fun Q' hQ => ?_) | refine i_th (id := 13) (.ho [0, 1, 2, 3, 4, 5] (opm 6 [4, 2] [true, true] (.ho [7] (.stop)))) mixedT (by kernel_rfl) (fun Q' hQ => ?_) | refine i_th (id := 16) (.ho [0, 1, 2, 3, 4, 5] (opm 6 [4, 2] [true, true] (.ho [7] (.stop)))) mixedT (by kernel_rfl) (fun Q' hQ => ?_)) | ((first | (with_reducible first | refine iBk ?_ | refine iRQ (fun Q' hQ => ?_) | (refine Imp.go hQ ?_; clear hQ) | refine th_ho ?_ | refine th_stop ?_ ?_ | refine th_opm ?_ (by kernel_rfl) (aLr ?_) | refine th_altm ?_ (by kernel_rfl) (aLr ?_) ?_) | ((with_reducible refine i_condT ?_ ?_); (focus (simp only [go_sem, *]; done))) | ((with_reducible refine i_condF ?_ ?_); (focus (simp only [go_sem, *]; done))) | ((with_reducible first | refine rOg (fun h => ?_) (fun h => ?_) | refine i_cond (by simp only [go_sem, *] <;> rfl) (fun h => ?_) (fun h => ?_)) <;> (try simp only [nqA, nqB, nqC, reduceCtorEq] at h) <;> (try have h' := odT h) <;> (try (have hz : (_ : Int) = (_ : Int) := h'; clear hz h')) <;> (try have h' := odF h) <;> (try have h' := inB_t h) <;> (try (exfalso; omega))) | ((first | ((with_reducible first | refine hcO 40 true (heldIntS_ok (xs.getD j nodeZ).kids ((adv wNode k (xs.take j)) + 5) (by omega) (by omega)) ?_ ?_ ?_ ?_ ?_); iterate 4 (focus (simp (disch := omega) only [go_sem, bne_self_eq_false, seq_self, Bool.not_true, e4, Int.add_assoc, Int.reduceAdd, nLo]; done))) | ((with_reducible refine hcO 40 true (markText_ok ((adv wNode k (xs.take j)) + 2) (by omega) (by omega)) ?_ ?_ ?_ ?_ ?_); iterate 4 (focus (simp (disch := omega) only [go_sem, bne_self_eq_false, seq_self, Bool.not_true, e4, Int.add_assoc, Int.reduceAdd, nLo]; done))) | ((with_reducible refine hcO 40 true (markText_ok ((adv wNode k (xs.take j)) + 3) (by omega) (by omega)) ?_ ?_ ?_ ?_ ?_); iterate 4 (focus (simp (disch := omega) only [go_sem, bne_self_eq_false, seq_self, Bool.not_true, e4, Int.add_assoc, Int.reduceAdd, nLo]; done))) | ((with_reducible refine hcO 40 true (markText_ok ((adv wNode k (xs.take j)) + 4) (by omega) (by omega)) ?_ ?_ ?_ ?_ ?_); iterate 4 (focus (simp (disch := omega) only [go_sem, bne_self_eq_false, seq_self, Bool.not_true, e4, Int.add_assoc, Int.reduceAdd, nLo]; done)))); simp only [go_sem, bne_self_eq_false, seq_self, Bool.not_true, e4, Int.add_assoc, Int.reduceAdd]; refine aLr ?_)) <;> (try simp (disch := first | omega | (simp only [sAp, size_mk, List.size_toArray, List.length_cons, List.length_nil]; omega)) only [go_sem, bne_self_eq_false, seq_self, Bool.not_true, e4, Int.add_assoc, Int.reduceAdd, *])))
  all_goals (try simp (disch := omega) only [EndK, go_sem, bne_self_eq_false, seq_self, Bool.not_true, e4, Int.add_assoc, Int.reduceAdd, nLo, *])
  all_goals refine ⟨⟨j + 1, by omega⟩, ?_, by simp only; omega⟩
  all_goals first | (refine wCn [0, 1, 5] [] ?_ ?_ ?_ <;> (simp (disch := omega) only [go_sem, e3, Int.add_assoc, Int.reduceAdd]; done))
 ·have e5 := adv_end wNode (k := k) (xs := xs) (j := j) (by omega)
  simp (disch := omega) only [go_sem]
  have x1 : HH 10 (.ho [0, 1, 2, 3, 4, 5] (opm 6 [4, 2] [true, true] (.ho [7] (.stop)))) := ⟨⟩
  have x2 : HH 13 (.ho [0, 1, 2, 3, 4, 5] (opm 6 [4, 2] [true, true] (.ho [7] (.stop)))) := ⟨⟩
  have x3 : HH 16 (.ho [0, 1, 2, 3, 4, 5] (opm 6 [4, 2] [true, true] (.ho [7] (.stop)))) := ⟨⟩
  exact wks
end Go.Proofs.YtejnpiielcbkkaaGreat.E
end
section
set_option maxRecDepth 100000
set_option maxHeartbeats 4000000
namespace Go.Proofs.YtejnpiielcbkkaaGreat.E
def fEntry : Int → Entry → Entry := fun k x => ⟨mtB (k), mtB (k + 1), k + 2⟩
def wEntry : Entry → Nat := fun x => 3
theorem entrysT_set' (xs : List Entry) (k : Nat) (p : ByteArray) (q : ByteArray) (r : Int) : (entrysT xs).set k [.v (.string p), .v (.string q), .v (.int .i64 r)] = entrysT (xs.set k ⟨p, q, r⟩) := by simp [entrysT, List.map_set, entryT]
theorem entrysT_getset {xs : List Entry} {j : Nat} {x : Entry} (h : j < xs.length) : (entrysT (xs.set j x))[j]? = some (entryT x) := by simp [entrysT, h]
theorem entrysT_setget2 {xs : List Entry} {k : Nat} {r : List T} (h : k < xs.length) : ((entrysT xs).set k r)[k]? = some r := by simp [entrysT, h]
theorem entrysT_setset {xs : List Entry} {k : Nat} {g : Entry} {r : List T} : (entrysT (xs.set k g)).set k r = (entrysT xs).set k r := by simp [entrysT, List.map_set]
attribute [go_sem] entrysT_set' entrysT_getset entrysT_setget2 entrysT_setset
theorem markEntryS_ok (xs : List Entry) (k : Int) (hk : 0 ≤ k) (ha : adv wEntry k xs ≤ 4611686018427387904) : CallOk Tryz.prog 115 [.one (.own 3 (entrysT xs)), .one (iV k)] (.s (.one (iV (adv wEntry k xs)))) [some (.own 3 (entrysT (mkL fEntry wEntry k xs))), none] := by
 have hz := mixL_zero fEntry wEntry k xs
 have hs : xs.length ≤ 4611686018427387904 := by have := adv_len (w := wEntry) (k := k) (xs := xs) (fun x => by simp only [wEntry]; omega); omega
 refine cOh 40 (hBd Tryz.func115 rfl (by kernel_rfl) ?_)
 simp (disch := omega) only [go_sem, Tryz.ntmps115, Tryz.results115]
 refine wksr ?_
 intros
 refine i_loop (α := {j : Nat // j ≤ xs.length}) (fun j => ⟨mkEnv 36 [(0, .one (.ref 0 0 xs.length)), (1, .one (iV (adv wEntry k (xs.take j.1)))), (5, .one (iV j.1))], [.live 3 (entrysT (mixL fEntry wEntry k xs j.1))]⟩) (fun j => xs.length - j.1) ⟨0, by omega⟩ ?_ ?_
 ·first | (refine wCn [0, 1, 5] [] ?_ ?_ ?_ <;> (simp (disch := omega) only [go_sem, hz, adv_nil]; done))
 rintro ⟨j, hj⟩
 have hml := mixL_len fEntry wEntry (k := k) (xs := xs) (j := j)
 have ha1 := adv_take_le wEntry k xs j
 have ha2 := adv_le wEntry k (xs.take j)
 by_cases hjl : j < xs.length
 ·have e := mixL_set fEntry wEntry (k := k) entryZ hjl
  have e2 := adv_one wEntry entryZ k hjl
  have e4 := mixL_get fEntry wEntry (k := k) entryZ hjl
  have ha3 := adv_take_le wEntry k xs (j + 1)
  simp only [fEntry] at e
  simp (disch := omega) only [go_sem]
  have e3 : (adv wEntry k (xs.take j)) + 3 = adv wEntry k (xs.take (j + 1)) := by rw [e2]; simp only [adv, wEntry]; omega
  clear e2
  have x1 := @List.set_set.{0}
  have x2 := @getD_set_self
  have x3 := @Int.add_assoc
  have x4 := markText_ok ((adv wEntry k (xs.take j))) (by omega) (by omega)
  have x5 : HC 1 _ := ⟨markText_ok ((adv wEntry k (xs.take j)) + 1) (by omega) (by omega)⟩
  refine wksr ?_
  intros
  all_goals refine ⟨⟨j + 1, by omega⟩, ?_, by simp only; omega⟩
  all_goals first | (first | (refine weak_folds (folds_setc 0 rfl (by with_reducible rfl) ?_ ?_) ?_; (focus (simp (disch := omega) only [go_sem, e, e3, Int.add_assoc, Int.reduceAdd]; done)); (focus (first | omega | (simp (disch := omega) only [go_sem, e, e3, Int.add_assoc, Int.reduceAdd]; omega))); refine wCn [0, 1, 5] [] ?_ ?_ ?_ <;> (simp (disch := omega) only [go_sem, e, e3, Int.add_assoc, Int.reduceAdd]; done))) | (refine wCn [0, 1, 5] [] ?_ ?_ ?_ <;> (simp (disch := omega) only [go_sem, e, e3, Int.add_assoc, Int.reduceAdd]; done))
 ·have e5 := adv_end wEntry (k := k) (xs := xs) (j := j) (by omega)
  have e6 := mixL_end fEntry wEntry (k := k) (xs := xs) (j := j) (by omega)
  have e7 : (mkL fEntry wEntry k xs).take xs.length = mkL fEntry wEntry k xs := by rw [← mkL_len fEntry wEntry xs k, List.take_length]
  have e8 : xs.length ≤ (mkL fEntry wEntry k xs).length := by rw [mkL_len]; exact Nat.le_refl _
  simp (disch := omega) only [go_sem]
  exact wks
theorem heldEntryS_ok (xs : List Entry) (k : Int) (hk : 0 ≤ k) (ha : adv wEntry k xs ≤ 4611686018427387904) : CallOk Tryz.prog 117 [.one (.ro 3 (entrysD (mkL fEntry wEntry k xs))), .one (iV k)] (.s (.one (iV (adv wEntry k xs)))) [none, none] := by
 have hs : xs.length ≤ 4611686018427387904 := by have := adv_len (w := wEntry) (k := k) (xs := xs) (fun x => by simp only [wEntry]; omega); omega
 have hl := mkL_len fEntry wEntry xs k
 refine cOh 40 (hBd Tryz.func117 rfl (by kernel_rfl) ?_)
 simp (disch := omega) only [go_sem, Tryz.ntmps117, Tryz.results117]
 have x1 : HH 4 (.ho [0, 1, 2, 3, 4, 5] (opm 6 [4, 2] [true, true] (.ho [7] (.stop)))) := ⟨⟩
 have x2 : HH 7 (.ho [0, 1, 2, 3, 4, 5] (opm 6 [4, 2] [true, true] (.ho [7] (.stop)))) := ⟨⟩
 refine wksr ?_
 intros
 refine i_loop (α := {j : Nat // j ≤ xs.length}) (fun j => ⟨mkEnv 42 [(0, .one (.ro 3 (entrysD (mkL fEntry wEntry k xs)))), (1, .one (iV (adv wEntry k (xs.take j.1)))), (5, .one (iV j.1))], []⟩) (fun j => xs.length - j.1) ⟨0, by omega⟩ ?_ ?_
 ·first | (refine wCn [0, 1, 5] [] ?_ ?_ ?_ <;> (simp (disch := omega) only [go_sem, adv_nil]; done))
 rintro ⟨j, hj⟩
 have ha1 := adv_take_le wEntry k xs j
 have ha2 := adv_le wEntry k (xs.take j)
 by_cases hjl : j < xs.length
 ·have e2 := adv_one wEntry entryZ k hjl
  have e4 := mkL_get fEntry wEntry (k := k) entryZ hjl
  have ha3 := adv_take_le wEntry k xs (j + 1)
  simp only [fEntry] at e4
  simp (disch := omega) only [go_sem]
  have e3 : (adv wEntry k (xs.take j)) + 3 = adv wEntry k (xs.take (j + 1)) := by rw [e2]; simp only [adv, wEntry]; omega
  clear e2
  repeat' (first | (with_reducible first | refine i_seq ?_ | exact th_none | refine i_th (id := 4) (.ho [0, 1, 2, 3, 4, 5] (opm 6 [4, 2] [true, true] (.ho [7] (.stop)))) mixedT (by kernel_rfl) (fun Q' hQ => ?_) | refine i_th (id := 7) (.ho [0, 1, 2, 3, 4, 5] (opm 6 [4, 2] [true, true] (.ho [7] (.stop)))) mixedT (by kernel_rfl) (fun Q' hQ => ?_)) | ((first | (with_reducible first | refine iBk ?_ | refine iRQ (fun Q' hQ => ?_) | (refine Imp.go hQ ?_; clear hQ) | refine th_ho ?_ | refine th_stop ?_ ?_ | refine th_opm ?_ (by kernel_rfl) (aLr ?_) | refine th_altm ?_ (by kernel_rfl) (aLr ?_) ?_) | ((with_reducible refine i_condT ?_ ?_); (focus (simp only [go_sem, *]; done))) | ((with_reducible refine i_condF ?_ ?_); (focus (simp only [go_sem, *]; done))) | ((with_reducible first | refine rOg (fun h => ?_) (fun h => ?_) | refine i_cond (by simp only [go_sem, *] <;> rfl) (fun h => ?_) (fun h => ?_)) <;> (try simp only [nqA, nqB, nqC, reduceCtorEq] at h) <;> (try have h' := odT h) <;> (try (have hz : (_ : Int) = (_ : Int) := h'; clear hz h')) <;> (try have h' := odF h) <;> (try have h' := inB_t h) <;> (try (exfalso; omega))) | ((first | ((with_reducible refine hcO 40 true (markText_ok ((adv wEntry k (xs.take j))) (by omega) (by omega)) ?_ ?_ ?_ ?_ ?_); iterate 4 (focus (simp (disch := omega) only [go_sem, bne_self_eq_false, seq_self, Bool.not_true, e4, Int.add_assoc, Int.reduceAdd, nLo]; done))) | ((with_reducible refine hcO 40 true (markText_ok ((adv wEntry k (xs.take j)) + 1) (by omega) (by omega)) ?_ ?_ ?_ ?_ ?_); iterate 4 (focus (simp (disch := omega) only [go_sem, bne_self_eq_false, seq_self, Bool.not_true, e4, Int.add_assoc, Int.reduceAdd, nLo]; done)))); simp only [go_sem, bne_self_eq_false, seq_self, Bool.not_true, e4, Int.add_assoc, Int.reduceAdd]; refine aLr ?_)) <;> (try simp (disch := first | omega | (simp only [sAp, size_mk, List.size_toArray, List.length_cons, List.length_nil]; omega)) only [go_sem, bne_self_eq_false, seq_self, Bool.not_true, e4, Int.add_assoc, Int.reduceAdd, *])))
  all_goals (try simp (disch := omega) only [EndK, go_sem, bne_self_eq_false, seq_self, Bool.not_true, e4, Int.add_assoc, Int.reduceAdd, nLo, *])
  all_goals refine ⟨⟨j + 1, by omega⟩, ?_, by simp only; omega⟩
  all_goals first | (refine wCn [0, 1, 5] [] ?_ ?_ ?_ <;> (simp (disch := omega) only [go_sem, e3, Int.add_assoc, Int.reduceAdd]; done))
 ·have e5 := adv_end wEntry (k := k) (xs := xs) (j := j) (by omega)
  simp (disch := omega) only [go_sem]
  have x1 : HH 4 (.ho [0, 1, 2, 3, 4, 5] (opm 6 [4, 2] [true, true] (.ho [7] (.stop)))) := ⟨⟩
  have x2 : HH 7 (.ho [0, 1, 2, 3, 4, 5] (opm 6 [4, 2] [true, true] (.ho [7] (.stop)))) := ⟨⟩
  exact wks
end Go.Proofs.YtejnpiielcbkkaaGreat.E
end
