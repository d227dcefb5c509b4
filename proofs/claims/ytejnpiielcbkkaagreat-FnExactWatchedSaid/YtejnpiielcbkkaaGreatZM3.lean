/- A part of what stands under the laws of this seat: an abstract evaluator that is proved sound, and contracts of functions by it. No condition beside those that stand in each statement. -/
import Derived.Test.YtejnpiielcbkkaaGreatZM1
set_option linter.unusedVariables false
set_option linter.unusedSimpArgs false
section
set_option maxRecDepth 100000
set_option maxHeartbeats 4000000
namespace Go.Proofs.YtejnpiielcbkkaaGreat.E
theorem coresT_setget2 {xs : List Core} {k : Nat} {r : List T} (h : k < xs.length) : ((coresT xs).set k r)[k]? = some r := by simp [coresT, h]
theorem gatesT_setget2 {xs : List Gate} {k : Nat} {r : List T} (h : k < xs.length) : ((gatesT xs).set k r)[k]? = some r := by simp [gatesT, h]
theorem coresT_setset {xs : List Core} {k : Nat} {g : Core} {r : List T} : (coresT (xs.set k g)).set k r = (coresT xs).set k r := by simp [coresT, List.map_set]
theorem gatesT_setset {xs : List Gate} {k : Nat} {g : Gate} {r : List T} : (gatesT (xs.set k g)).set k r = (gatesT xs).set k r := by simp [gatesT, List.map_set]
attribute [go_sem] coresT_setget2 gatesT_setget2 coresT_setset gatesT_setset
def fC : Int → Core → Core := fun k c => ⟨mkL fI wI k c.regs, adv wI k c.regs, adv wI k c.regs + 1⟩
def wC : Core → Nat := fun c => (c.regs.map wI).sum + 2
def fG : Int → Gate → Gate := fun k g => ⟨k, mkL fI wI (k + 1) g.waits, mkL fI wI (adv wI (k + 1) g.waits) g.queues⟩
def wG : Gate → Nat := fun g => 1 + (g.waits.map wI).sum + (g.queues.map wI).sum
theorem markCoreS_ok (xs : List Core) (k : Int) (hk : 0 ≤ k) (ha : adv wC k xs ≤ 4611686018427387904) : CallOk Tryz.prog 72 [.one (.own 3 (coresT xs)), .one (iV k)] (.s (.one (iV (adv wC k xs)))) [some (.own 3 (coresT (mkL fC wC k xs))), none] := by
  have hz := mixL_zero fC wC k xs
  have hs : xs.length ≤ 4611686018427387904 := by have := adv_len (w := wC) (k := k) (xs := xs) (fun x => by simp only [wC]; omega); omega
  refine callOk_of_hcall 40 (hcall_of_body Tryz.func72 rfl (by kernel_rfl) ?_)
  simp (disch := omega) only [go_sem, Tryz.ntmps72, Tryz.results72]
  refine wkc ?_
  refine i_loop (α := {j : Nat // j ≤ xs.length}) (fun j => ⟨mkEnv 34 [(0, .one (.ref 0 0 xs.length)), (1, .one (iV (adv wC k (xs.take j.1)))), (5, .one (iV j.1))], [.live 3 (coresT (mixL fC wC k xs j.1))]⟩) (fun j => xs.length - j.1) ⟨0, by omega⟩ ?_ ?_
  · first | (refine weak_canon [0, 1, 5] [] ?_ ?_ ?_ <;> (simp (disch := omega) only [go_sem, hz, adv_nil]; done)) | (refine weak_canon [0, 1, 5] [] ?_ ?_ ?_ <;> (try (simp (disch := omega) only [go_sem, hz, adv_nil])) <;> trace_state)
  rintro ⟨j, hj⟩
  have hml := mixL_len fC wC (k := k) (xs := xs) (j := j)
  have ha1 := adv_take_le wC k xs j
  have ha2 := adv_le wC k (xs.take j)
  by_cases hjl : j < xs.length
  · have e := mixL_set fC wC (k := k) coreZ hjl
    have e2 := adv_one wC coreZ k hjl
    have e4 := mixL_get fC wC (k := k) coreZ hjl
    have ha3 := adv_take_le wC k xs (j + 1)
    simp only [fC] at e
    simp (disch := omega) only [go_sem]
    have e3 : adv wI (adv wC k (xs.take j)) (xs.getD j coreZ).regs + 2 = adv wC k (xs.take (j + 1)) := by rw [e2]; simp only [adv, wC]; omega
    have e9 := adv_le wI (adv wC k (xs.take j)) (xs.getD j coreZ).regs
    have e10 := mkL_len fI wI (xs.getD j coreZ).regs (adv wC k (xs.take j))
    have e11 : (mkL fI wI (adv wC k (xs.take j)) (xs.getD j coreZ).regs).take (xs.getD j coreZ).regs.length = mkL fI wI (adv wC k (xs.take j)) (xs.getD j coreZ).regs := by rw [← e10, List.take_length]
    clear e2
    repeat' (first | (with_reducible first | refine i_seq ?_) | ((first | (with_reducible first | refine i_block ?_ | refine i_regionQ (fun Q' hQ => ?_) | (refine Imp.go hQ ?_; clear hQ)) | ((with_reducible refine i_condT ?_ ?_); (focus (simp only [go_sem, *]; done))) | ((with_reducible refine i_condF ?_ ?_); (focus (simp only [go_sem, *]; done))) | ((with_reducible first | refine resOk_g (fun h => ?_) (fun h => ?_) | refine i_cond (by simp only [go_sem, *] <;> rfl) (fun h => ?_) (fun h => ?_)) <;> (try simp only [Bool.not_eq_eq_eq_not, Bool.not_true, Bool.not_false, reduceCtorEq] at h) <;> (try have h' := of_decide_eq_true h) <;> (try (have hz : (_ : Int) = (_ : Int) := h'; clear hz h')) <;> (try have h' := of_decide_eq_false h) <;> (try have h' := inB_t h) <;> (try (exfalso; omega))) | (((with_reducible first | refine hcall_of_callOk 40 true (markIntS_ok (xs.getD j coreZ).regs (adv wC k (xs.take j)) (by omega) (by omega)) ?_ ?_ ?_ ?_ ?_); iterate 4 (focus (simp (disch := omega) only [go_sem, List.set_set, e4, Int.add_assoc, Int.reduceAdd, natLe_ok]; done))); simp only [go_sem, List.set_set, e4, Int.add_assoc, Int.reduceAdd]; refine aL_run ?_)) <;> (try simp (disch := omega) only [go_sem, List.set_set, e4, Int.add_assoc, Int.reduceAdd, *])))
    all_goals (try simp (disch := omega) only [EndK, go_sem, List.set_set, e4, Int.add_assoc, Int.reduceAdd, natLe_ok, *])
    all_goals refine ⟨⟨j + 1, by omega⟩, ?_, by simp only; omega⟩
    all_goals first | (first | (refine weak_folds (folds_setc 0 rfl (by with_reducible rfl) ?_ ?_) ?_; (focus (simp (disch := omega) only [go_sem, e, e3, e10, e11, Int.add_assoc, Int.reduceAdd]; done)); (focus (first | omega | (simp (disch := omega) only [go_sem, e, e3, e10, e11, Int.add_assoc, Int.reduceAdd]; omega))); refine weak_canon [0, 1, 5] [] ?_ ?_ ?_ <;> (simp (disch := omega) only [go_sem, e, e3, e10, e11, Int.add_assoc, Int.reduceAdd]; done))) | (refine weak_canon [0, 1, 5] [] ?_ ?_ ?_ <;> (simp (disch := omega) only [go_sem, e, e3, e10, e11, Int.add_assoc, Int.reduceAdd]; done)) | trace_state
  · have e5 := adv_end wC (k := k) (xs := xs) (j := j) (by omega)
    have e6 := mixL_end fC wC (k := k) (xs := xs) (j := j) (by omega)
    have e7 : (mkL fC wC k xs).take xs.length = mkL fC wC k xs := by rw [← mkL_len fC wC xs k, List.take_length]
    have e8 : xs.length ≤ (mkL fC wC k xs).length := by rw [mkL_len]; exact Nat.le_refl _
    simp (disch := omega) only [go_sem]
    exact wk
theorem heldCoreS_ok (xs : List Core) (k : Int) (hk : 0 ≤ k) (ha : adv wC k xs ≤ 4611686018427387904) : CallOk Tryz.prog 77 [.one (.ro 3 (coresD (mkL fC wC k xs))), .one (iV k)] (.s (.one (iV (adv wC k xs)))) [none, none] := by
  have hs : xs.length ≤ 4611686018427387904 := by have := adv_len (w := wC) (k := k) (xs := xs) (fun x => by simp only [wC]; omega); omega
  have hl := mkL_len fC wC xs k
  refine callOk_of_hcall 40 (hcall_of_body Tryz.func77 rfl (by kernel_rfl) ?_)
  simp (disch := omega) only [go_sem, Tryz.ntmps77, Tryz.results77]
  refine wkc ?_
  refine i_loop (α := {j : Nat // j ≤ xs.length}) (fun j => ⟨mkEnv 40 [(0, .one (.ro 3 (coresD (mkL fC wC k xs)))), (1, .one (iV (adv wC k (xs.take j.1)))), (5, .one (iV j.1))], []⟩) (fun j => xs.length - j.1) ⟨0, by omega⟩ ?_ ?_
  · first | (refine weak_canon [0, 1, 5] [] ?_ ?_ ?_ <;> (simp (disch := omega) only [go_sem, adv_nil]; done)) | trace_state
  rintro ⟨j, hj⟩
  have ha1 := adv_take_le wC k xs j
  have ha2 := adv_le wC k (xs.take j)
  by_cases hjl : j < xs.length
  · have e2 := adv_one wC coreZ k hjl
    have e4 := mkL_get fC wC (k := k) coreZ hjl
    have ha3 := adv_take_le wC k xs (j + 1)
    simp only [fC] at e4
    simp (disch := omega) only [go_sem]
    have e3 : adv wI (adv wC k (xs.take j)) (xs.getD j coreZ).regs + 2 = adv wC k (xs.take (j + 1)) := by rw [e2]; simp only [adv, wC]; omega
    have e9 := adv_le wI (adv wC k (xs.take j)) (xs.getD j coreZ).regs
    have e10 := mkL_len fI wI (xs.getD j coreZ).regs (adv wC k (xs.take j))
    have e11 : (mkL fI wI (adv wC k (xs.take j)) (xs.getD j coreZ).regs).take (xs.getD j coreZ).regs.length = mkL fI wI (adv wC k (xs.take j)) (xs.getD j coreZ).regs := by rw [← e10, List.take_length]
    clear e2
    repeat' (first | (with_reducible first | refine i_seq ?_) | ((first | (with_reducible first | refine i_block ?_ | refine i_regionQ (fun Q' hQ => ?_) | (refine Imp.go hQ ?_; clear hQ)) | ((with_reducible refine i_condT ?_ ?_); (focus (simp only [go_sem, *]; done))) | ((with_reducible refine i_condF ?_ ?_); (focus (simp only [go_sem, *]; done))) | ((with_reducible first | refine resOk_g (fun h => ?_) (fun h => ?_) | refine i_cond (by simp only [go_sem, *] <;> rfl) (fun h => ?_) (fun h => ?_)) <;> (try simp only [Bool.not_eq_eq_eq_not, Bool.not_true, Bool.not_false, reduceCtorEq] at h) <;> (try have h' := of_decide_eq_true h) <;> (try (have hz : (_ : Int) = (_ : Int) := h'; clear hz h')) <;> (try have h' := of_decide_eq_false h) <;> (try have h' := inB_t h) <;> (try (exfalso; omega))) | (((with_reducible first | refine hcall_of_callOk 40 true (heldIntS_ok (xs.getD j coreZ).regs (adv wC k (xs.take j)) (by omega) (by omega)) ?_ ?_ ?_ ?_ ?_); iterate 4 (focus (simp (disch := omega) only [go_sem, bne_self_eq_false, e4, Int.add_assoc, Int.reduceAdd, natLe_ok]; done))); simp only [go_sem, bne_self_eq_false, e4, Int.add_assoc, Int.reduceAdd]; refine aL_run ?_)) <;> (try simp (disch := omega) only [go_sem, bne_self_eq_false, e4, Int.add_assoc, Int.reduceAdd, *])))
    all_goals (try simp (disch := omega) only [EndK, go_sem, bne_self_eq_false, e4, Int.add_assoc, Int.reduceAdd, natLe_ok, *])
    all_goals refine ⟨⟨j + 1, by omega⟩, ?_, by simp only; omega⟩
    all_goals first | (refine weak_canon [0, 1, 5] [] ?_ ?_ ?_ <;> (simp (disch := omega) only [go_sem, e3, Int.add_assoc, Int.reduceAdd]; done)) | (refine weak_canon [0, 1, 5] [] ?_ ?_ ?_ <;> (try (simp (disch := omega) only [go_sem, e3, Int.add_assoc, Int.reduceAdd])) <;> trace_state)
  · have e5 := adv_end wC (k := k) (xs := xs) (j := j) (by omega)
    simp (disch := omega) only [go_sem]
    exact wk
theorem markGateS_ok (xs : List Gate) (k : Int) (hk : 0 ≤ k) (ha : adv wG k xs ≤ 4611686018427387904) : CallOk Tryz.prog 155 [.one (.own 3 (gatesT xs)), .one (iV k)] (.s (.one (iV (adv wG k xs)))) [some (.own 3 (gatesT (mkL fG wG k xs))), none] := by
  have hz := mixL_zero fG wG k xs
  have hs : xs.length ≤ 4611686018427387904 := by have := adv_len (w := wG) (k := k) (xs := xs) (fun x => by simp only [wG]; omega); omega
  refine callOk_of_hcall 40 (hcall_of_body Tryz.func155 rfl (by kernel_rfl) ?_)
  simp (disch := omega) only [go_sem, Tryz.ntmps155, Tryz.results155]
  refine wkc ?_
  refine i_loop (α := {j : Nat // j ≤ xs.length}) (fun j => ⟨mkEnv 34 [(0, .one (.ref 0 0 xs.length)), (1, .one (iV (adv wG k (xs.take j.1)))), (5, .one (iV j.1))], [.live 3 (gatesT (mixL fG wG k xs j.1))]⟩) (fun j => xs.length - j.1) ⟨0, by omega⟩ ?_ ?_
  · first | (refine weak_canon [0, 1, 5] [] ?_ ?_ ?_ <;> (simp (disch := omega) only [go_sem, hz, adv_nil]; done)) | (refine weak_canon [0, 1, 5] [] ?_ ?_ ?_ <;> (try (simp (disch := omega) only [go_sem, hz, adv_nil])) <;> trace_state)
  rintro ⟨j, hj⟩
  have hml := mixL_len fG wG (k := k) (xs := xs) (j := j)
  have ha1 := adv_take_le wG k xs j
  have ha2 := adv_le wG k (xs.take j)
  by_cases hjl : j < xs.length
  · have e := mixL_set fG wG (k := k) gateZ hjl
    have e2 := adv_one wG gateZ k hjl
    have e4 := mixL_get fG wG (k := k) gateZ hjl
    have ha3 := adv_take_le wG k xs (j + 1)
    simp only [fG] at e
    simp (disch := omega) only [go_sem]
    have e3 : adv wI (adv wI (adv wG k (xs.take j) + 1) (xs.getD j gateZ).waits) (xs.getD j gateZ).queues = adv wG k (xs.take (j + 1)) := by rw [e2]; simp only [adv, wG]; omega
    have e9 := adv_le wI (adv wG k (xs.take j) + 1) (xs.getD j gateZ).waits
    have e10 := adv_le wI (adv wI (adv wG k (xs.take j) + 1) (xs.getD j gateZ).waits) (xs.getD j gateZ).queues
    have e12 := mkL_len fI wI (xs.getD j gateZ).waits (adv wG k (xs.take j) + 1)
    have e13 := mkL_len fI wI (xs.getD j gateZ).queues (adv wI (adv wG k (xs.take j) + 1) (xs.getD j gateZ).waits)
    have e14 : (mkL fI wI (adv wG k (xs.take j) + 1) (xs.getD j gateZ).waits).take (xs.getD j gateZ).waits.length = mkL fI wI (adv wG k (xs.take j) + 1) (xs.getD j gateZ).waits := by rw [← e12, List.take_length]
    have e15 : (mkL fI wI (adv wI (adv wG k (xs.take j) + 1) (xs.getD j gateZ).waits) (xs.getD j gateZ).queues).take (xs.getD j gateZ).queues.length = mkL fI wI (adv wI (adv wG k (xs.take j) + 1) (xs.getD j gateZ).waits) (xs.getD j gateZ).queues := by rw [← e13, List.take_length]
    clear e2
    repeat' (first | (with_reducible first | refine i_seq ?_) | ((first | (with_reducible first | refine i_block ?_ | refine i_regionQ (fun Q' hQ => ?_) | (refine Imp.go hQ ?_; clear hQ)) | ((with_reducible refine i_condT ?_ ?_); (focus (simp only [go_sem, *]; done))) | ((with_reducible refine i_condF ?_ ?_); (focus (simp only [go_sem, *]; done))) | ((with_reducible first | refine resOk_g (fun h => ?_) (fun h => ?_) | refine i_cond (by simp only [go_sem, *] <;> rfl) (fun h => ?_) (fun h => ?_)) <;> (try simp only [Bool.not_eq_eq_eq_not, Bool.not_true, Bool.not_false, reduceCtorEq] at h) <;> (try have h' := of_decide_eq_true h) <;> (try (have hz : (_ : Int) = (_ : Int) := h'; clear hz h')) <;> (try have h' := of_decide_eq_false h) <;> (try have h' := inB_t h) <;> (try (exfalso; omega))) | ((first | ((with_reducible refine hcall_of_callOk 40 true (markIntS_ok (xs.getD j gateZ).waits (adv wG k (xs.take j) + 1) (by omega) (by omega)) ?_ ?_ ?_ ?_ ?_); iterate 4 (focus (simp (disch := omega) only [go_sem, List.set_set, e4, Int.add_assoc, Int.reduceAdd, natLe_ok]; done))) | ((with_reducible refine hcall_of_callOk 40 true (markIntS_ok (xs.getD j gateZ).queues (adv wI (adv wG k (xs.take j) + 1) (xs.getD j gateZ).waits) (by omega) (by omega)) ?_ ?_ ?_ ?_ ?_); iterate 4 (focus (simp (disch := omega) only [go_sem, List.set_set, e4, Int.add_assoc, Int.reduceAdd, natLe_ok]; done)))); simp only [go_sem, List.set_set, e4, Int.add_assoc, Int.reduceAdd]; refine aL_run ?_)) <;> (try simp (disch := omega) only [go_sem, List.set_set, e4, Int.add_assoc, Int.reduceAdd, *])))
    all_goals (try simp (disch := omega) only [EndK, go_sem, List.set_set, e4, Int.add_assoc, Int.reduceAdd, natLe_ok, *])
    all_goals refine ⟨⟨j + 1, by omega⟩, ?_, by simp only; omega⟩
    all_goals first | (first | (refine weak_folds (folds_setc 0 rfl (by with_reducible rfl) ?_ ?_) ?_; (focus (simp (disch := omega) only [go_sem, e, e3, e12, e13, e14, e15, Int.add_assoc, Int.reduceAdd]; done)); (focus (first | omega | (simp (disch := omega) only [go_sem, e, e3, e12, e13, e14, e15, Int.add_assoc, Int.reduceAdd]; omega))); refine weak_canon [0, 1, 5] [] ?_ ?_ ?_ <;> (simp (disch := omega) only [go_sem, e, e3, e12, e13, e14, e15, Int.add_assoc, Int.reduceAdd]; done))) | (refine weak_canon [0, 1, 5] [] ?_ ?_ ?_ <;> (simp (disch := omega) only [go_sem, e, e3, e12, e13, e14, e15, Int.add_assoc, Int.reduceAdd]; done)) | trace_state
  · have e5 := adv_end wG (k := k) (xs := xs) (j := j) (by omega)
    have e6 := mixL_end fG wG (k := k) (xs := xs) (j := j) (by omega)
    have e7 : (mkL fG wG k xs).take xs.length = mkL fG wG k xs := by rw [← mkL_len fG wG xs k, List.take_length]
    have e8 : xs.length ≤ (mkL fG wG k xs).length := by rw [mkL_len]; exact Nat.le_refl _
    simp (disch := omega) only [go_sem]
    exact wk
theorem heldGateS_ok (xs : List Gate) (k : Int) (hk : 0 ≤ k) (ha : adv wG k xs ≤ 4611686018427387904) : CallOk Tryz.prog 157 [.one (.ro 3 (gatesD (mkL fG wG k xs))), .one (iV k)] (.s (.one (iV (adv wG k xs)))) [none, none] := by
  have hs : xs.length ≤ 4611686018427387904 := by have := adv_len (w := wG) (k := k) (xs := xs) (fun x => by simp only [wG]; omega); omega
  have hl := mkL_len fG wG xs k
  refine callOk_of_hcall 40 (hcall_of_body Tryz.func157 rfl (by kernel_rfl) ?_)
  simp (disch := omega) only [go_sem, Tryz.ntmps157, Tryz.results157]
  refine wkc ?_
  refine i_loop (α := {j : Nat // j ≤ xs.length}) (fun j => ⟨mkEnv 40 [(0, .one (.ro 3 (gatesD (mkL fG wG k xs)))), (1, .one (iV (adv wG k (xs.take j.1)))), (5, .one (iV j.1))], []⟩) (fun j => xs.length - j.1) ⟨0, by omega⟩ ?_ ?_
  · first | (refine weak_canon [0, 1, 5] [] ?_ ?_ ?_ <;> (simp (disch := omega) only [go_sem, adv_nil]; done)) | trace_state
  rintro ⟨j, hj⟩
  have ha1 := adv_take_le wG k xs j
  have ha2 := adv_le wG k (xs.take j)
  by_cases hjl : j < xs.length
  · have e2 := adv_one wG gateZ k hjl
    have e4 := mkL_get fG wG (k := k) gateZ hjl
    have ha3 := adv_take_le wG k xs (j + 1)
    simp only [fG] at e4
    simp (disch := omega) only [go_sem]
    have e3 : adv wI (adv wI (adv wG k (xs.take j) + 1) (xs.getD j gateZ).waits) (xs.getD j gateZ).queues = adv wG k (xs.take (j + 1)) := by rw [e2]; simp only [adv, wG]; omega
    have e9 := adv_le wI (adv wG k (xs.take j) + 1) (xs.getD j gateZ).waits
    have e10 := adv_le wI (adv wI (adv wG k (xs.take j) + 1) (xs.getD j gateZ).waits) (xs.getD j gateZ).queues
    have e12 := mkL_len fI wI (xs.getD j gateZ).waits (adv wG k (xs.take j) + 1)
    have e13 := mkL_len fI wI (xs.getD j gateZ).queues (adv wI (adv wG k (xs.take j) + 1) (xs.getD j gateZ).waits)
    have e14 : (mkL fI wI (adv wG k (xs.take j) + 1) (xs.getD j gateZ).waits).take (xs.getD j gateZ).waits.length = mkL fI wI (adv wG k (xs.take j) + 1) (xs.getD j gateZ).waits := by rw [← e12, List.take_length]
    have e15 : (mkL fI wI (adv wI (adv wG k (xs.take j) + 1) (xs.getD j gateZ).waits) (xs.getD j gateZ).queues).take (xs.getD j gateZ).queues.length = mkL fI wI (adv wI (adv wG k (xs.take j) + 1) (xs.getD j gateZ).waits) (xs.getD j gateZ).queues := by rw [← e13, List.take_length]
    clear e2
    repeat' (first | (with_reducible first | refine i_seq ?_) | ((first | (with_reducible first | refine i_block ?_ | refine i_regionQ (fun Q' hQ => ?_) | (refine Imp.go hQ ?_; clear hQ)) | ((with_reducible refine i_condT ?_ ?_); (focus (simp only [go_sem, *]; done))) | ((with_reducible refine i_condF ?_ ?_); (focus (simp only [go_sem, *]; done))) | ((with_reducible first | refine resOk_g (fun h => ?_) (fun h => ?_) | refine i_cond (by simp only [go_sem, *] <;> rfl) (fun h => ?_) (fun h => ?_)) <;> (try simp only [Bool.not_eq_eq_eq_not, Bool.not_true, Bool.not_false, reduceCtorEq] at h) <;> (try have h' := of_decide_eq_true h) <;> (try (have hz : (_ : Int) = (_ : Int) := h'; clear hz h')) <;> (try have h' := of_decide_eq_false h) <;> (try have h' := inB_t h) <;> (try (exfalso; omega))) | ((first | ((with_reducible refine hcall_of_callOk 40 true (heldIntS_ok (xs.getD j gateZ).waits (adv wG k (xs.take j) + 1) (by omega) (by omega)) ?_ ?_ ?_ ?_ ?_); iterate 4 (focus (simp (disch := omega) only [go_sem, bne_self_eq_false, e4, Int.add_assoc, Int.reduceAdd, natLe_ok]; done))) | ((with_reducible refine hcall_of_callOk 40 true (heldIntS_ok (xs.getD j gateZ).queues (adv wI (adv wG k (xs.take j) + 1) (xs.getD j gateZ).waits) (by omega) (by omega)) ?_ ?_ ?_ ?_ ?_); iterate 4 (focus (simp (disch := omega) only [go_sem, bne_self_eq_false, e4, Int.add_assoc, Int.reduceAdd, natLe_ok]; done)))); simp only [go_sem, bne_self_eq_false, e4, Int.add_assoc, Int.reduceAdd]; refine aL_run ?_)) <;> (try simp (disch := omega) only [go_sem, bne_self_eq_false, e4, Int.add_assoc, Int.reduceAdd, *])))
    all_goals (try simp (disch := omega) only [EndK, go_sem, bne_self_eq_false, e4, Int.add_assoc, Int.reduceAdd, natLe_ok, *])
    all_goals refine ⟨⟨j + 1, by omega⟩, ?_, by simp only; omega⟩
    all_goals first | (refine weak_canon [0, 1, 5] [] ?_ ?_ ?_ <;> (simp (disch := omega) only [go_sem, e3, Int.add_assoc, Int.reduceAdd]; done)) | (refine weak_canon [0, 1, 5] [] ?_ ?_ ?_ <;> (try (simp (disch := omega) only [go_sem, e3, Int.add_assoc, Int.reduceAdd])) <;> trace_state)
  · have e5 := adv_end wG (k := k) (xs := xs) (j := j) (by omega)
    simp (disch := omega) only [go_sem]
    exact wk
end Go.Proofs.YtejnpiielcbkkaaGreat.E
end
section
set_option maxRecDepth 100000
set_option maxHeartbeats 4000000
namespace Go.Proofs.YtejnpiielcbkkaaGreat.E
/-! ### A machine that is marked: what it holds then -/
def adIm (k : Int) (x : Image) : Int := adv wI (adv wI k x.text) x.starts
def fIm (k : Int) (x : Image) : Image := ⟨mkL fI wI k x.text, mkL fI wI (adv wI k x.text) x.starts, x.size⟩
def adK (k : Int) (x : Kernel) : Int := adv wB (adv wC (adv wI (adv wG k x.gates) x.ready) x.saved) x.over
def fK (k : Int) (x : Kernel) : Kernel := ⟨mkL fG wG k x.gates, mkL fI wI (adv wG k x.gates) x.ready, mkL fC wC (adv wI (adv wG k x.gates) x.ready) x.saved, mkL fB wB (adv wC (adv wI (adv wG k x.gates) x.ready) x.saved) x.over⟩
def ad1 (k : Int) (x : Machine) : Int := adv wI (adIm k x.image) x.mem
def ad2 (k : Int) (x : Machine) : Int := adv wC (ad1 k x) x.cores
def ad3 (k : Int) (x : Machine) : Int := adK (ad2 k x) x.kernel
def ad4 (k : Int) (x : Machine) : Int := adv wI (ad3 k x) x.input
def adM (k : Int) (x : Machine) : Int := adv wEv (ad4 k x) x.events
def fM (k : Int) (x : Machine) : Machine := ⟨fIm k x.image, mkL fI wI (adIm k x.image) x.mem, mkL fC wC (ad1 k x) x.cores, fK (ad2 k x) x.kernel, mkL fI wI (ad3 k x) x.input, mkL fEv wEv (ad4 k x) x.events, x.stopped⟩
theorem adIm_le (k : Int) (x : Image) : k ≤ adv wI k x.text ∧ adv wI k x.text ≤ adIm k x := ⟨adv_le _ _ _, adv_le _ _ _⟩
theorem adK_le (k : Int) (x : Kernel) : k ≤ adv wG k x.gates ∧ adv wG k x.gates ≤ adv wI (adv wG k x.gates) x.ready ∧ adv wI (adv wG k x.gates) x.ready ≤ adv wC (adv wI (adv wG k x.gates) x.ready) x.saved ∧ adv wC (adv wI (adv wG k x.gates) x.ready) x.saved ≤ adK k x := ⟨adv_le _ _ _, adv_le _ _ _, adv_le _ _ _, adv_le _ _ _⟩
theorem adM_le (k : Int) (x : Machine) : k ≤ adIm k x.image ∧ adIm k x.image ≤ ad1 k x ∧ ad1 k x ≤ ad2 k x ∧ ad2 k x ≤ ad3 k x ∧ ad3 k x ≤ ad4 k x ∧ ad4 k x ≤ adM k x := by
  have h1 := adIm_le k x.image
  have h2 := adK_le (ad2 k x) x.kernel
  refine ⟨by omega, adv_le _ _ _, adv_le _ _ _, ?_, adv_le _ _ _, adv_le _ _ _⟩
  show ad2 k x ≤ adK (ad2 k x) x.kernel
  omega
theorem heldImage_ok (x : Image) (k : Int) (hk : 0 ≤ k) (ha : adIm k x ≤ 4611686018427387904) : CallOk Tryz.prog 75 [.agg (imageR (fIm k x)), .one (iV k)] (.s (.one (iV (adIm k x)))) [none, none] := by
  obtain ⟨h1, h2⟩ := adIm_le k x
  have c1 := heldIntS_ok x.text k hk (by omega)
  have c2 : CallOk Tryz.prog 76 [.one (.ro 1 (intsD (mkL fI wI (adv wI k x.text) x.starts))), .one (iV (adv wI k x.text))] (.s (.one (iV (adIm k x)))) [none, none] := heldIntS_ok x.starts (adv wI k x.text) (by omega) ha
  refine callOk_of_hcall 40 (hcall_of_body Tryz.func75 rfl (by kernel_rfl) ?_)
  simp (disch := omega) only [go_sem, Tryz.ntmps75, Tryz.results75]
  have x1 := @fIm.eq_1
  have x2 : HC 1 _ := ⟨c1⟩
  have x3 : HC 2 _ := ⟨c2⟩
  exact wk
theorem heldKernel_ok (x : Kernel) (k : Int) (hk : 0 ≤ k) (ha : adK k x ≤ 4611686018427387904) : CallOk Tryz.prog 78 [.agg (kernelR (fK k x)), .one (iV k)] (.s (.one (iV (adK k x)))) [none, none] := by
  obtain ⟨h1, h2, h3, h4⟩ := adK_le k x
  have c4 : CallOk Tryz.prog 158 [.one (.ro 1 (boolsD (mkL fB wB (adv wC (adv wI (adv wG k x.gates) x.ready) x.saved) x.over))), .one (iV (adv wC (adv wI (adv wG k x.gates) x.ready) x.saved))] (.s (.one (iV (adK k x)))) [none, none] := heldBoolS_ok x.over _ (by omega) ha
  refine callOk_of_hcall 40 (hcall_of_body Tryz.func78 rfl (by kernel_rfl) ?_)
  simp (disch := omega) only [go_sem, Tryz.ntmps78, Tryz.results78]
  have x1 := @fK.eq_1
  have x2 := heldGateS_ok x.gates k hk (by omega)
  have x3 := heldIntS_ok x.ready (adv wG k x.gates) (by omega) (by omega)
  have x4 := heldCoreS_ok x.saved (adv wI (adv wG k x.gates) x.ready) (by omega) (by omega)
  exact wk
theorem heldMachine_ok (x : Machine) (k : Int) (hk : 0 ≤ k) (ha : adM k x ≤ 4611686018427387904) : CallOk Tryz.prog 21 [.agg (machineR (fM k x)), .one (iV k)] (.s (.one (iV (adM k x)))) [none, none] := by
  obtain ⟨h1, h2, h3, h4, h5, h6⟩ := adM_le k x
  have c1 := heldImage_ok x.image k hk (by omega)
  have c2 : CallOk Tryz.prog 76 [.one (.ro 1 (intsD (mkL fI wI (adIm k x.image) x.mem))), .one (iV (adIm k x.image))] (.s (.one (iV (ad1 k x)))) [none, none] := heldIntS_ok x.mem (adIm k x.image) (by omega) (Int.le_trans h3 (by omega))
  have c3 : CallOk Tryz.prog 77 [.one (.ro 3 (coresD (mkL fC wC (ad1 k x) x.cores))), .one (iV (ad1 k x))] (.s (.one (iV (ad2 k x)))) [none, none] := heldCoreS_ok x.cores (ad1 k x) (by omega) (Int.le_trans h4 (by omega))
  have c4 : CallOk Tryz.prog 78 [.agg (kernelR (fK (ad2 k x) x.kernel)), .one (iV (ad2 k x))] (.s (.one (iV (ad3 k x)))) [none, none] := heldKernel_ok x.kernel (ad2 k x) (by omega) (Int.le_trans h5 (by omega))
  have c5 : CallOk Tryz.prog 76 [.one (.ro 1 (intsD (mkL fI wI (ad3 k x) x.input))), .one (iV (ad3 k x))] (.s (.one (iV (ad4 k x)))) [none, none] := heldIntS_ok x.input (ad3 k x) (by omega) (Int.le_trans h6 (by omega))
  have c6 : CallOk Tryz.prog 79 [.one (.ro 3 (eventsD (mkL fEv wEv (ad4 k x) x.events))), .one (iV (ad4 k x))] (.s (.one (iV (adM k x)))) [none, none] := heldEventS_ok x.events (ad4 k x) (by omega) (by exact ha)
  refine callOk_of_hcall 40 (hcall_of_body Tryz.func21 rfl (by kernel_rfl) ?_)
  simp (disch := omega) only [go_sem, Tryz.ntmps21, Tryz.results21]
  have x1 := @fM.eq_1
  have x2 : HC 1 _ := ⟨c2⟩
  have x3 : HC 2 _ := ⟨c5⟩
  exact wk
/-! Sizes of what is marked. -/
theorem adv_bound {α : Type} {w : α → Nat} {k : Int} {xs : List α} {n : Nat} (hw : ∀ x ∈ xs, w x ≤ n) : adv w k xs ≤ k + (xs.length * n : Nat) := by
  have : ∀ xs : List α, (∀ x ∈ xs, w x ≤ n) → (xs.map w).sum ≤ xs.length * n := by
    intro xs; induction xs with
    | nil => intro _; simp
    | cons x xs ih =>
      intro h
      have h1 := h x (List.mem_cons_self ..)
      have h2 := ih (fun y hy => h y (List.mem_cons_of_mem _ hy))
      simp only [List.map_cons, List.sum_cons, List.length_cons, Nat.add_mul, Nat.one_mul]
      omega
  have := this xs hw
  unfold adv; omega
theorem wI_sum (xs : List Int) : (xs.map wI).sum = xs.length := by
  have := adv_int 0 xs
  simp only [adv] at this
  omega
end Go.Proofs.YtejnpiielcbkkaaGreat.E
end
