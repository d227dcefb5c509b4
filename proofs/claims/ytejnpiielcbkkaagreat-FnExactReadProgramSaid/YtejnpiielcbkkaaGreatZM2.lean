/- A part of what stands under the laws of this seat: an abstract evaluator that is proved sound, and contracts of functions by it. No condition beside those that stand in each statement. -/
import Derived.Test.YtejnpiielcbkkaaGreatZA2
import Derived.Test.YtejnpiielcbkkaaGreatZF1
import Derived.Test.YtejnpiielcbkkaaGreatZM1
set_option linter.unusedVariables false
set_option linter.unusedSimpArgs false
section
set_option maxRecDepth 100000
set_option maxHeartbeats 4000000
namespace Go.Proofs.YtejnpiielcbkkaaGreat.E
def fMonitor : Int → Monitor → Monitor := fun k x => ⟨mtB (k), mkL fSt wSt (k + 1) x.vars, mkL fSt wSt ((adv wSt (k + 1) x.vars)) x.queues, mkL fEntry wEntry ((adv wSt ((adv wSt (k + 1) x.vars)) x.queues)) x.entries⟩
def wMonitor : Monitor → Nat := fun x => 1 + (x.vars.map wSt).sum + (x.queues.map wSt).sum + (x.entries.map wEntry).sum
theorem monitorsT_set' (xs : List Monitor) (k : Nat) (p : ByteArray) (q : List ByteArray) (r : List ByteArray) (s : List Entry) : (monitorsT xs).set k [.v (.string p), .own 1 (strsT q), .own 1 (strsT r), .own 3 (entrysT s)] = monitorsT (xs.set k ⟨p, q, r, s⟩) := by simp [monitorsT, List.map_set, monitorT]
theorem monitorsT_getset {xs : List Monitor} {j : Nat} {x : Monitor} (h : j < xs.length) : (monitorsT (xs.set j x))[j]? = some (monitorT x) := by simp [monitorsT, h]
theorem monitorsT_setget2 {xs : List Monitor} {k : Nat} {r : List T} (h : k < xs.length) : ((monitorsT xs).set k r)[k]? = some r := by simp [monitorsT, h]
theorem monitorsT_setset {xs : List Monitor} {k : Nat} {g : Monitor} {r : List T} : (monitorsT (xs.set k g)).set k r = (monitorsT xs).set k r := by simp [monitorsT, List.map_set]
attribute [go_sem] monitorsT_set' monitorsT_getset monitorsT_setget2 monitorsT_setset
theorem markMonitorS_ok (xs : List Monitor) (k : Int) (hk : 0 ≤ k) (ha : adv wMonitor k xs ≤ 4611686018427387904) : CallOk Tryz.prog 39 [.one (.own 4 (monitorsT xs)), .one (iV k)] (.s (.one (iV (adv wMonitor k xs)))) [some (.own 4 (monitorsT (mkL fMonitor wMonitor k xs))), none] := by
 have hz := mixL_zero fMonitor wMonitor k xs
 have hs : xs.length ≤ 4611686018427387904 := by have := adv_len (w := wMonitor) (k := k) (xs := xs) (fun x => by simp only [wMonitor]; omega); omega
 refine cOh 40 (hBd Tryz.func39 rfl (by kernel_rfl) ?_)
 simp (disch := omega) only [go_sem, Tryz.ntmps39, Tryz.results39]
 refine wksr ?_
 intros
 refine i_loop (α := {j : Nat // j ≤ xs.length}) (fun j => ⟨mkEnv 42 [(0, .one (.ref 0 0 xs.length)), (1, .one (iV (adv wMonitor k (xs.take j.1)))), (5, .one (iV j.1))], [.live 4 (monitorsT (mixL fMonitor wMonitor k xs j.1))]⟩) (fun j => xs.length - j.1) ⟨0, by omega⟩ ?_ ?_
 ·first | (refine wCn [0, 1, 5] [] ?_ ?_ ?_ <;> (simp (disch := omega) only [go_sem, hz, adv_nil]; done))
 rintro ⟨j, hj⟩
 have hml := mixL_len fMonitor wMonitor (k := k) (xs := xs) (j := j)
 have ha1 := adv_take_le wMonitor k xs j
 have ha2 := adv_le wMonitor k (xs.take j)
 by_cases hjl : j < xs.length
 ·have e := mixL_set fMonitor wMonitor (k := k) moZ hjl
  have e2 := adv_one wMonitor moZ k hjl
  have e4 := mixL_get fMonitor wMonitor (k := k) moZ hjl
  have ha3 := adv_take_le wMonitor k xs (j + 1)
  simp only [fMonitor] at e
  simp (disch := omega) only [go_sem]
  have e3 : (adv wEntry ((adv wSt ((adv wSt ((adv wMonitor k (xs.take j)) + 1) (xs.getD j moZ).vars)) (xs.getD j moZ).queues)) (xs.getD j moZ).entries) = adv wMonitor k (xs.take (j + 1)) := by rw [e2]; simp only [adv, wMonitor]; omega
  have e90 := adv_le wSt ((adv wMonitor k (xs.take j)) + 1) (xs.getD j moZ).vars
  have m90 := mkL_len fSt wSt (xs.getD j moZ).vars ((adv wMonitor k (xs.take j)) + 1)
  have t90 : (mkL fSt wSt ((adv wMonitor k (xs.take j)) + 1) (xs.getD j moZ).vars).take (xs.getD j moZ).vars.length = mkL fSt wSt ((adv wMonitor k (xs.take j)) + 1) (xs.getD j moZ).vars := by rw [← m90, List.take_length]
  have e91 := adv_le wSt ((adv wSt ((adv wMonitor k (xs.take j)) + 1) (xs.getD j moZ).vars)) (xs.getD j moZ).queues
  have m91 := mkL_len fSt wSt (xs.getD j moZ).queues ((adv wSt ((adv wMonitor k (xs.take j)) + 1) (xs.getD j moZ).vars))
  have t91 : (mkL fSt wSt ((adv wSt ((adv wMonitor k (xs.take j)) + 1) (xs.getD j moZ).vars)) (xs.getD j moZ).queues).take (xs.getD j moZ).queues.length = mkL fSt wSt ((adv wSt ((adv wMonitor k (xs.take j)) + 1) (xs.getD j moZ).vars)) (xs.getD j moZ).queues := by rw [← m91, List.take_length]
  have e92 := adv_le wEntry ((adv wSt ((adv wSt ((adv wMonitor k (xs.take j)) + 1) (xs.getD j moZ).vars)) (xs.getD j moZ).queues)) (xs.getD j moZ).entries
  have m92 := mkL_len fEntry wEntry (xs.getD j moZ).entries ((adv wSt ((adv wSt ((adv wMonitor k (xs.take j)) + 1) (xs.getD j moZ).vars)) (xs.getD j moZ).queues))
  have t92 : (mkL fEntry wEntry ((adv wSt ((adv wSt ((adv wMonitor k (xs.take j)) + 1) (xs.getD j moZ).vars)) (xs.getD j moZ).queues)) (xs.getD j moZ).entries).take (xs.getD j moZ).entries.length = mkL fEntry wEntry ((adv wSt ((adv wSt ((adv wMonitor k (xs.take j)) + 1) (xs.getD j moZ).vars)) (xs.getD j moZ).queues)) (xs.getD j moZ).entries := by rw [← m92, List.take_length]
  clear e2
  have x1 := @List.set_set.{0}
  have x2 := @getD_set_self
  have x3 := @Int.add_assoc
  have x4 := markText_ok ((adv wMonitor k (xs.take j))) (by omega) (by omega)
  have x5 := markStringS_ok (xs.getD j moZ).vars ((adv wMonitor k (xs.take j)) + 1) (by omega) (by omega)
  have x6 : HC 1 _ := ⟨markStringS_ok (xs.getD j moZ).queues ((adv wSt ((adv wMonitor k (xs.take j)) + 1) (xs.getD j moZ).vars)) (by omega) (by omega)⟩
  have x7 := markEntryS_ok (xs.getD j moZ).entries ((adv wSt ((adv wSt ((adv wMonitor k (xs.take j)) + 1) (xs.getD j moZ).vars)) (xs.getD j moZ).queues)) (by omega) (by omega)
  refine wksr ?_
  intros
  all_goals refine ⟨⟨j + 1, by omega⟩, ?_, by simp only; omega⟩
  all_goals first | (first | (refine weak_folds (folds_setc 0 rfl (by with_reducible rfl) ?_ ?_) ?_; (focus (simp (disch := omega) only [go_sem, e, e3, m90, t90, m91, t91, m92, t92, Int.add_assoc, Int.reduceAdd]; done)); (focus (first | omega | (simp (disch := omega) only [go_sem, e, e3, m90, t90, m91, t91, m92, t92, Int.add_assoc, Int.reduceAdd]; omega))); refine wCn [0, 1, 5] [] ?_ ?_ ?_ <;> (simp (disch := omega) only [go_sem, e, e3, m90, t90, m91, t91, m92, t92, Int.add_assoc, Int.reduceAdd]; done))) | (refine wCn [0, 1, 5] [] ?_ ?_ ?_ <;> (simp (disch := omega) only [go_sem, e, e3, m90, t90, m91, t91, m92, t92, Int.add_assoc, Int.reduceAdd]; done))
 ·have e5 := adv_end wMonitor (k := k) (xs := xs) (j := j) (by omega)
  have e6 := mixL_end fMonitor wMonitor (k := k) (xs := xs) (j := j) (by omega)
  have e7 : (mkL fMonitor wMonitor k xs).take xs.length = mkL fMonitor wMonitor k xs := by rw [← mkL_len fMonitor wMonitor xs k, List.take_length]
  have e8 : xs.length ≤ (mkL fMonitor wMonitor k xs).length := by rw [mkL_len]; exact Nat.le_refl _
  simp (disch := omega) only [go_sem]
  exact wks
theorem heldMonitorS_ok (xs : List Monitor) (k : Int) (hk : 0 ≤ k) (ha : adv wMonitor k xs ≤ 4611686018427387904) : CallOk Tryz.prog 42 [.one (.ro 4 (monitorsD (mkL fMonitor wMonitor k xs))), .one (iV k)] (.s (.one (iV (adv wMonitor k xs)))) [none, none] := by
 have hs : xs.length ≤ 4611686018427387904 := by have := adv_len (w := wMonitor) (k := k) (xs := xs) (fun x => by simp only [wMonitor]; omega); omega
 have hl := mkL_len fMonitor wMonitor xs k
 refine cOh 40 (hBd Tryz.func42 rfl (by kernel_rfl) ?_)
 simp (disch := omega) only [go_sem, Tryz.ntmps42, Tryz.results42]
 have x1 : HH 4 (.ho [0, 1, 2, 3, 4, 5] (opm 6 [4, 2] [true, true] (.ho [7] (.stop)))) := ⟨⟩
 refine wksr ?_
 intros
 refine i_loop (α := {j : Nat // j ≤ xs.length}) (fun j => ⟨mkEnv 50 [(0, .one (.ro 4 (monitorsD (mkL fMonitor wMonitor k xs)))), (1, .one (iV (adv wMonitor k (xs.take j.1)))), (5, .one (iV j.1))], []⟩) (fun j => xs.length - j.1) ⟨0, by omega⟩ ?_ ?_
 ·first | (refine wCn [0, 1, 5] [] ?_ ?_ ?_ <;> (simp (disch := omega) only [go_sem, adv_nil]; done))
 rintro ⟨j, hj⟩
 have ha1 := adv_take_le wMonitor k xs j
 have ha2 := adv_le wMonitor k (xs.take j)
 by_cases hjl : j < xs.length
 ·have e2 := adv_one wMonitor moZ k hjl
  have e4 := mkL_get fMonitor wMonitor (k := k) moZ hjl
  have ha3 := adv_take_le wMonitor k xs (j + 1)
  simp only [fMonitor] at e4
  simp (disch := omega) only [go_sem]
  have e3 : (adv wEntry ((adv wSt ((adv wSt ((adv wMonitor k (xs.take j)) + 1) (xs.getD j moZ).vars)) (xs.getD j moZ).queues)) (xs.getD j moZ).entries) = adv wMonitor k (xs.take (j + 1)) := by rw [e2]; simp only [adv, wMonitor]; omega
  have e90 := adv_le wSt ((adv wMonitor k (xs.take j)) + 1) (xs.getD j moZ).vars
  have m90 := mkL_len fSt wSt (xs.getD j moZ).vars ((adv wMonitor k (xs.take j)) + 1)
  have t90 : (mkL fSt wSt ((adv wMonitor k (xs.take j)) + 1) (xs.getD j moZ).vars).take (xs.getD j moZ).vars.length = mkL fSt wSt ((adv wMonitor k (xs.take j)) + 1) (xs.getD j moZ).vars := by rw [← m90, List.take_length]
  have e91 := adv_le wSt ((adv wSt ((adv wMonitor k (xs.take j)) + 1) (xs.getD j moZ).vars)) (xs.getD j moZ).queues
  have m91 := mkL_len fSt wSt (xs.getD j moZ).queues ((adv wSt ((adv wMonitor k (xs.take j)) + 1) (xs.getD j moZ).vars))
  have t91 : (mkL fSt wSt ((adv wSt ((adv wMonitor k (xs.take j)) + 1) (xs.getD j moZ).vars)) (xs.getD j moZ).queues).take (xs.getD j moZ).queues.length = mkL fSt wSt ((adv wSt ((adv wMonitor k (xs.take j)) + 1) (xs.getD j moZ).vars)) (xs.getD j moZ).queues := by rw [← m91, List.take_length]
  have e92 := adv_le wEntry ((adv wSt ((adv wSt ((adv wMonitor k (xs.take j)) + 1) (xs.getD j moZ).vars)) (xs.getD j moZ).queues)) (xs.getD j moZ).entries
  have m92 := mkL_len fEntry wEntry (xs.getD j moZ).entries ((adv wSt ((adv wSt ((adv wMonitor k (xs.take j)) + 1) (xs.getD j moZ).vars)) (xs.getD j moZ).queues))
  have t92 : (mkL fEntry wEntry ((adv wSt ((adv wSt ((adv wMonitor k (xs.take j)) + 1) (xs.getD j moZ).vars)) (xs.getD j moZ).queues)) (xs.getD j moZ).entries).take (xs.getD j moZ).entries.length = mkL fEntry wEntry ((adv wSt ((adv wSt ((adv wMonitor k (xs.take j)) + 1) (xs.getD j moZ).vars)) (xs.getD j moZ).queues)) (xs.getD j moZ).entries := by rw [← m92, List.take_length]
  clear e2
  have x1 := @seq_self
  have x2 := @Bool.not_true
  have x3 := @Int.add_assoc
  have x4 : HH 4 (.ho [0, 1, 2, 3, 4, 5] (opm 6 [4, 2] [true, true] (.ho [7] (.stop)))) := ⟨⟩
  have x5 := markText_ok ((adv wMonitor k (xs.take j))) (by omega) (by omega)
  have x6 := heldStringS_ok (xs.getD j moZ).vars ((adv wMonitor k (xs.take j)) + 1) (by omega) (by omega)
  have x7 : HC 1 _ := ⟨heldStringS_ok (xs.getD j moZ).queues ((adv wSt ((adv wMonitor k (xs.take j)) + 1) (xs.getD j moZ).vars)) (by omega) (by omega)⟩
  have x8 := heldEntryS_ok (xs.getD j moZ).entries ((adv wSt ((adv wSt ((adv wMonitor k (xs.take j)) + 1) (xs.getD j moZ).vars)) (xs.getD j moZ).queues)) (by omega) (by omega)
  refine wksr ?_
  intros
  all_goals refine ⟨⟨j + 1, by omega⟩, ?_, by simp only; omega⟩
  all_goals first | (refine wCn [0, 1, 5] [] ?_ ?_ ?_ <;> (simp (disch := omega) only [go_sem, e3, Int.add_assoc, Int.reduceAdd]; done))
 ·have e5 := adv_end wMonitor (k := k) (xs := xs) (j := j) (by omega)
  simp (disch := omega) only [go_sem]
  have x1 : HH 4 (.ho [0, 1, 2, 3, 4, 5] (opm 6 [4, 2] [true, true] (.ho [7] (.stop)))) := ⟨⟩
  exact wks
end Go.Proofs.YtejnpiielcbkkaaGreat.E
end
section
set_option maxRecDepth 100000
set_option maxHeartbeats 4000000
namespace Go.Proofs.YtejnpiielcbkkaaGreat.E
def fProcess : Int → Process → Process := fun k x => ⟨mtB (k), mkL fSt wSt (k + 1) x.uses, mkL fSt wSt ((adv wSt (k + 1) x.uses)) x.vars, (adv wSt ((adv wSt (k + 1) x.uses)) x.vars)⟩
def wProcess : Process → Nat := fun x => 2 + (x.uses.map wSt).sum + (x.vars.map wSt).sum
theorem processsT_set' (xs : List Process) (k : Nat) (p : ByteArray) (q : List ByteArray) (r : List ByteArray) (s : Int) : (processsT xs).set k [.v (.string p), .own 1 (strsT q), .own 1 (strsT r), .v (.int .i64 s)] = processsT (xs.set k ⟨p, q, r, s⟩) := by simp [processsT, List.map_set, processT]
theorem processsT_getset {xs : List Process} {j : Nat} {x : Process} (h : j < xs.length) : (processsT (xs.set j x))[j]? = some (processT x) := by simp [processsT, h]
theorem processsT_setget2 {xs : List Process} {k : Nat} {r : List T} (h : k < xs.length) : ((processsT xs).set k r)[k]? = some r := by simp [processsT, h]
theorem processsT_setset {xs : List Process} {k : Nat} {g : Process} {r : List T} : (processsT (xs.set k g)).set k r = (processsT xs).set k r := by simp [processsT, List.map_set]
attribute [go_sem] processsT_set' processsT_getset processsT_setget2 processsT_setset
theorem markProcessS_ok (xs : List Process) (k : Int) (hk : 0 ≤ k) (ha : adv wProcess k xs ≤ 4611686018427387904) : CallOk Tryz.prog 40 [.one (.own 4 (processsT xs)), .one (iV k)] (.s (.one (iV (adv wProcess k xs)))) [some (.own 4 (processsT (mkL fProcess wProcess k xs))), none] := by
 have hz := mixL_zero fProcess wProcess k xs
 have hs : xs.length ≤ 4611686018427387904 := by have := adv_len (w := wProcess) (k := k) (xs := xs) (fun x => by simp only [wProcess]; omega); omega
 refine cOh 40 (hBd Tryz.func40 rfl (by kernel_rfl) ?_)
 simp (disch := omega) only [go_sem, Tryz.ntmps40, Tryz.results40]
 refine wksr ?_
 intros
 refine i_loop (α := {j : Nat // j ≤ xs.length}) (fun j => ⟨mkEnv 42 [(0, .one (.ref 0 0 xs.length)), (1, .one (iV (adv wProcess k (xs.take j.1)))), (5, .one (iV j.1))], [.live 4 (processsT (mixL fProcess wProcess k xs j.1))]⟩) (fun j => xs.length - j.1) ⟨0, by omega⟩ ?_ ?_
 ·first | (refine wCn [0, 1, 5] [] ?_ ?_ ?_ <;> (simp (disch := omega) only [go_sem, hz, adv_nil]; done))
 rintro ⟨j, hj⟩
 have hml := mixL_len fProcess wProcess (k := k) (xs := xs) (j := j)
 have ha1 := adv_take_le wProcess k xs j
 have ha2 := adv_le wProcess k (xs.take j)
 by_cases hjl : j < xs.length
 ·have e := mixL_set fProcess wProcess (k := k) prZ hjl
  have e2 := adv_one wProcess prZ k hjl
  have e4 := mixL_get fProcess wProcess (k := k) prZ hjl
  have ha3 := adv_take_le wProcess k xs (j + 1)
  simp only [fProcess] at e
  simp (disch := omega) only [go_sem]
  have e3 : (adv wSt ((adv wSt ((adv wProcess k (xs.take j)) + 1) (xs.getD j prZ).uses)) (xs.getD j prZ).vars) + 1 = adv wProcess k (xs.take (j + 1)) := by rw [e2]; simp only [adv, wProcess]; omega
  have e90 := adv_le wSt ((adv wProcess k (xs.take j)) + 1) (xs.getD j prZ).uses
  have m90 := mkL_len fSt wSt (xs.getD j prZ).uses ((adv wProcess k (xs.take j)) + 1)
  have t90 : (mkL fSt wSt ((adv wProcess k (xs.take j)) + 1) (xs.getD j prZ).uses).take (xs.getD j prZ).uses.length = mkL fSt wSt ((adv wProcess k (xs.take j)) + 1) (xs.getD j prZ).uses := by rw [← m90, List.take_length]
  have e91 := adv_le wSt ((adv wSt ((adv wProcess k (xs.take j)) + 1) (xs.getD j prZ).uses)) (xs.getD j prZ).vars
  have m91 := mkL_len fSt wSt (xs.getD j prZ).vars ((adv wSt ((adv wProcess k (xs.take j)) + 1) (xs.getD j prZ).uses))
  have t91 : (mkL fSt wSt ((adv wSt ((adv wProcess k (xs.take j)) + 1) (xs.getD j prZ).uses)) (xs.getD j prZ).vars).take (xs.getD j prZ).vars.length = mkL fSt wSt ((adv wSt ((adv wProcess k (xs.take j)) + 1) (xs.getD j prZ).uses)) (xs.getD j prZ).vars := by rw [← m91, List.take_length]
  clear e2
  have x1 := @List.set_set.{0}
  have x2 := @getD_set_self
  have x3 := @Int.add_assoc
  have x4 := markText_ok ((adv wProcess k (xs.take j))) (by omega) (by omega)
  have x5 := markStringS_ok (xs.getD j prZ).uses ((adv wProcess k (xs.take j)) + 1) (by omega) (by omega)
  have x6 : HC 1 _ := ⟨markStringS_ok (xs.getD j prZ).vars ((adv wSt ((adv wProcess k (xs.take j)) + 1) (xs.getD j prZ).uses)) (by omega) (by omega)⟩
  refine wksr ?_
  intros
  all_goals refine ⟨⟨j + 1, by omega⟩, ?_, by simp only; omega⟩
  all_goals first | (first | (refine weak_folds (folds_setc 0 rfl (by with_reducible rfl) ?_ ?_) ?_; (focus (simp (disch := omega) only [go_sem, e, e3, m90, t90, m91, t91, Int.add_assoc, Int.reduceAdd]; done)); (focus (first | omega | (simp (disch := omega) only [go_sem, e, e3, m90, t90, m91, t91, Int.add_assoc, Int.reduceAdd]; omega))); refine wCn [0, 1, 5] [] ?_ ?_ ?_ <;> (simp (disch := omega) only [go_sem, e, e3, m90, t90, m91, t91, Int.add_assoc, Int.reduceAdd]; done))) | (refine wCn [0, 1, 5] [] ?_ ?_ ?_ <;> (simp (disch := omega) only [go_sem, e, e3, m90, t90, m91, t91, Int.add_assoc, Int.reduceAdd]; done))
 ·have e5 := adv_end wProcess (k := k) (xs := xs) (j := j) (by omega)
  have e6 := mixL_end fProcess wProcess (k := k) (xs := xs) (j := j) (by omega)
  have e7 : (mkL fProcess wProcess k xs).take xs.length = mkL fProcess wProcess k xs := by rw [← mkL_len fProcess wProcess xs k, List.take_length]
  have e8 : xs.length ≤ (mkL fProcess wProcess k xs).length := by rw [mkL_len]; exact Nat.le_refl _
  simp (disch := omega) only [go_sem]
  exact wks
theorem heldProcessS_ok (xs : List Process) (k : Int) (hk : 0 ≤ k) (ha : adv wProcess k xs ≤ 4611686018427387904) : CallOk Tryz.prog 43 [.one (.ro 4 (processsD (mkL fProcess wProcess k xs))), .one (iV k)] (.s (.one (iV (adv wProcess k xs)))) [none, none] := by
 have hs : xs.length ≤ 4611686018427387904 := by have := adv_len (w := wProcess) (k := k) (xs := xs) (fun x => by simp only [wProcess]; omega); omega
 have hl := mkL_len fProcess wProcess xs k
 refine cOh 40 (hBd Tryz.func43 rfl (by kernel_rfl) ?_)
 simp (disch := omega) only [go_sem, Tryz.ntmps43, Tryz.results43]
 have x1 : HH 4 (.ho [0, 1, 2, 3, 4, 5] (opm 6 [4, 2] [true, true] (.ho [7] (.stop)))) := ⟨⟩
 refine wksr ?_
 intros
 refine i_loop (α := {j : Nat // j ≤ xs.length}) (fun j => ⟨mkEnv 50 [(0, .one (.ro 4 (processsD (mkL fProcess wProcess k xs)))), (1, .one (iV (adv wProcess k (xs.take j.1)))), (5, .one (iV j.1))], []⟩) (fun j => xs.length - j.1) ⟨0, by omega⟩ ?_ ?_
 ·first | (refine wCn [0, 1, 5] [] ?_ ?_ ?_ <;> (simp (disch := omega) only [go_sem, adv_nil]; done))
 rintro ⟨j, hj⟩
 have ha1 := adv_take_le wProcess k xs j
 have ha2 := adv_le wProcess k (xs.take j)
 by_cases hjl : j < xs.length
 ·have e2 := adv_one wProcess prZ k hjl
  have e4 := mkL_get fProcess wProcess (k := k) prZ hjl
  have ha3 := adv_take_le wProcess k xs (j + 1)
  simp only [fProcess] at e4
  simp (disch := omega) only [go_sem]
  have e3 : (adv wSt ((adv wSt ((adv wProcess k (xs.take j)) + 1) (xs.getD j prZ).uses)) (xs.getD j prZ).vars) + 1 = adv wProcess k (xs.take (j + 1)) := by rw [e2]; simp only [adv, wProcess]; omega
  have e90 := adv_le wSt ((adv wProcess k (xs.take j)) + 1) (xs.getD j prZ).uses
  have m90 := mkL_len fSt wSt (xs.getD j prZ).uses ((adv wProcess k (xs.take j)) + 1)
  have t90 : (mkL fSt wSt ((adv wProcess k (xs.take j)) + 1) (xs.getD j prZ).uses).take (xs.getD j prZ).uses.length = mkL fSt wSt ((adv wProcess k (xs.take j)) + 1) (xs.getD j prZ).uses := by rw [← m90, List.take_length]
  have e91 := adv_le wSt ((adv wSt ((adv wProcess k (xs.take j)) + 1) (xs.getD j prZ).uses)) (xs.getD j prZ).vars
  have m91 := mkL_len fSt wSt (xs.getD j prZ).vars ((adv wSt ((adv wProcess k (xs.take j)) + 1) (xs.getD j prZ).uses))
  have t91 : (mkL fSt wSt ((adv wSt ((adv wProcess k (xs.take j)) + 1) (xs.getD j prZ).uses)) (xs.getD j prZ).vars).take (xs.getD j prZ).vars.length = mkL fSt wSt ((adv wSt ((adv wProcess k (xs.take j)) + 1) (xs.getD j prZ).uses)) (xs.getD j prZ).vars := by rw [← m91, List.take_length]
  clear e2
  have x1 := @seq_self
  have x2 := @Bool.not_true
  have x3 := @Int.add_assoc
  have x4 : HH 4 (.ho [0, 1, 2, 3, 4, 5] (opm 6 [4, 2] [true, true] (.ho [7] (.stop)))) := ⟨⟩
  have x5 := markText_ok ((adv wProcess k (xs.take j))) (by omega) (by omega)
  have x6 := heldStringS_ok (xs.getD j prZ).uses ((adv wProcess k (xs.take j)) + 1) (by omega) (by omega)
  have x7 : HC 1 _ := ⟨heldStringS_ok (xs.getD j prZ).vars ((adv wSt ((adv wProcess k (xs.take j)) + 1) (xs.getD j prZ).uses)) (by omega) (by omega)⟩
  refine wksr ?_
  intros
  all_goals refine ⟨⟨j + 1, by omega⟩, ?_, by simp only; omega⟩
  all_goals first | (refine wCn [0, 1, 5] [] ?_ ?_ ?_ <;> (simp (disch := omega) only [go_sem, e3, Int.add_assoc, Int.reduceAdd]; done))
 ·have e5 := adv_end wProcess (k := k) (xs := xs) (j := j) (by omega)
  simp (disch := omega) only [go_sem]
  have x1 : HH 4 (.ho [0, 1, 2, 3, 4, 5] (opm 6 [4, 2] [true, true] (.ho [7] (.stop)))) := ⟨⟩
  exact wks
end Go.Proofs.YtejnpiielcbkkaaGreat.E
end
