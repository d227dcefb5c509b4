/- A part of what stands under the laws of this seat: an abstract evaluator that is proved sound, and contracts of functions by it. No condition beside those that stand in each statement. -/
import Derived.Test.YtejnpiielcbkkaaGreatZK19
set_option linter.unusedVariables false
set_option linter.unusedSimpArgs false
set_option maxRecDepth 100000
set_option maxHeartbeats 4000000
namespace Go.Proofs.YtejnpiielcbkkaaGreat.E
theorem inB_of3 {i : Int} {n : Nat} (h : inB i 0 ((n : Int) - 1) = true) : 0 ≤ i ∧ i < n := by have := inB_t h; omega
theorem iStep_no (m : Machine) (i : Int) (hm : mdMachine m) (h : m.stopped = true ∨ inB i 0 ((m.cores.length : Int) - 1) = false) :
    CallOk Tryz.prog 66 [.agg (machineR m), .one (iV i)] (.tup [.agg (machineT m), .one (bV false)]) [none, none] := by
  have hcs : m.cores.length ≤ 68719476736 := hm.2.2.1.1
  cases h1 : m.stopped <;> cases h2 : inB i 0 ((m.cores.length : Int) - 1)
  · 
    refine callOk_of_hcallF 40 (hcall_of_body Tryz.func66 rfl (by kernel_rfl) ?_)
    simp (disch := omega) only [go_sem, Tryz.ntmps66, Tryz.results66]
    have x1 : HH 8 (.ho [0, 1, 2, 3, 4, 5] (opm 6 [4] [true, false, false] (.ho [7] (opm 8 [] [false, false] (.stop))))) := ⟨⟩
    have x2 : HF 0 5 := ⟨⟩
    have x3 := copyMachine_ok m hm
    have x4 := within_ok i 0 ((m.cores.length : Int) - 1)
    exact wkf
  · rw [h1, h2] at h
    simp at h
  ·
    refine callOk_of_hcallF 40 (hcall_of_body Tryz.func66 rfl (by kernel_rfl) ?_)
    simp (disch := omega) only [go_sem, Tryz.ntmps66, Tryz.results66]
    have x1 : HH 8 (.ho [0, 1, 2, 3, 4, 5] (opm 6 [4] [true, false, false] (.ho [7] (opm 8 [] [false, false] (.stop))))) := ⟨⟩
    have x2 : HF 0 5 := ⟨⟩
    have x3 := copyMachine_ok m hm
    have x4 := within_ok i 0 ((m.cores.length : Int) - 1)
    exact wkf
  ·
    refine callOk_of_hcallF 40 (hcall_of_body Tryz.func66 rfl (by kernel_rfl) ?_)
    simp (disch := omega) only [go_sem, Tryz.ntmps66, Tryz.results66]
    have x1 : HH 8 (.ho [0, 1, 2, 3, 4, 5] (opm 6 [4] [true, false, false] (.ho [7] (opm 8 [] [false, false] (.stop))))) := ⟨⟩
    have x2 : HF 0 5 := ⟨⟩
    have x3 := copyMachine_ok m hm
    have x4 := within_ok i 0 ((m.cores.length : Int) - 1)
    exact wkf
theorem iStep_pick (m : Machine) (i : Int) (hm : mdMachine m) (hst : m.stopped = false) (hib : inB i 0 ((m.cores.length : Int) - 1) = true) (hp : decide ((m.cores.getD i.toNat coreZ).process < 0) = true) :
    CallOk Tryz.prog 66 [.agg (machineR m), .one (iV i)] (.tup [.agg (machineT (if (pickK m.kernel).2.2 = true then pickedM m i else m)), .one (bV (pickK m.kernel).2.2)]) [none, none] := by
  have hcs : m.cores.length ≤ 68719476736 := hm.2.2.1.1
  have hpk := iPick_ok m.kernel hm.2.2.2.1
  obtain ⟨hi0, hi1⟩ := inB_of3 hib
  have hil : i.toNat < m.cores.length := by omega
  cases hpo : (pickK m.kernel).2.2
  · have e : (if false = true then pickedM m i else m) = m := rfl
    rw [e]
    rw [hpo] at hpk
    refine callOk_of_hcallF 40 (hcall_of_body Tryz.func66 rfl (by kernel_rfl) ?_)
    simp (disch := omega) only [go_sem, Tryz.ntmps66, Tryz.results66]
    have x1 : HH 8 (.ho [0, 1, 2, 3, 4, 5] (opm 6 [4] [true, false, false] (.ho [7] (opm 8 [] [false, false] (.stop))))) := ⟨⟩
    have x2 : HF 0 5 := ⟨⟩
    have x3 := copyMachine_ok m hm
    have x4 := within_ok i 0 ((m.cores.length : Int) - 1)
    exact wkf
  · have e : (if true = true then pickedM m i else m) = pickedM m i := rfl
    rw [e]
    rw [hpo] at hpk
    refine callOk_of_hcallF 40 (hcall_of_body Tryz.func66 rfl (by kernel_rfl) ?_)
    simp (disch := omega) only [go_sem, Tryz.ntmps66, Tryz.results66]
    have x1 := @pickedM.eq_1
    have x2 : HH 8 (.ho [0, 1, 2, 3, 4, 5] (opm 6 [4] [true, false, false] (.ho [7] (opm 8 [] [false, false] (.stop))))) := ⟨⟩
    have x3 : HF 0 5 := ⟨⟩
    have x4 := copyMachine_ok m hm
    have x5 := within_ok i 0 ((m.cores.length : Int) - 1)
    exact wkf
theorem iStep_go (m : Machine) (i : Int) (hm : mdMachine m) (hst : m.stopped = false) (hib : inB i 0 ((m.cores.length : Int) - 1) = true) (hp : decide ((m.cores.getD i.toNat coreZ).process < 0) = false)
    (hz : (stepCore (m.cores.getD i.toNat coreZ) m.image.text m.mem).2.2 = 0) :
    CallOk Tryz.prog 66 [.agg (machineR m), .one (iV i)] (.tup [.agg (machineT (steppedM m i)), .one (bV true)]) [none, none] := by
  have hcs : m.cores.length ≤ 68719476736 := hm.2.2.1.1
  obtain ⟨hi0, hi1⟩ := inB_of3 hib
  have hil : i.toNat < m.cores.length := by omega
  have hsc := iStepCore_ok (m.cores.getD i.toNat coreZ) m.image.text m.mem (md_core hm.2.2.1.2 i.toNat) hm.1.1 hm.2.1
  rw [hz] at hsc
  refine callOk_of_hcallF 40 (hcall_of_body Tryz.func66 rfl (by kernel_rfl) ?_)
  simp (disch := omega) only [go_sem, Tryz.ntmps66, Tryz.results66]
  have x1 := @steppedM.eq_1
  have x2 : HH 8 (.ho [0, 1, 2, 3, 4, 5] (opm 6 [4] [true, false, false] (.ho [7] (opm 8 [] [false, false] (.stop))))) := ⟨⟩
  have x3 : HF 0 5 := ⟨⟩
  have x4 := copyMachine_ok m hm
  have x5 := within_ok i 0 ((m.cores.length : Int) - 1)
  exact wkfi
theorem iStep_fault (m : Machine) (i : Int) (hm : mdMachine m) (hm1 : mdMachine (steppedM m i)) (hst : m.stopped = false) (hib : inB i 0 ((m.cores.length : Int) - 1) = true) (hp : decide ((m.cores.getD i.toNat coreZ).process < 0) = false)
    (hz : ((stepCore (m.cores.getD i.toNat coreZ) m.image.text m.mem).2.2 == 0) = false) (hz2 : ((stepCore (m.cores.getD i.toNat coreZ) m.image.text m.mem).2.2 == 10) = false) :
    CallOk Tryz.prog 66 [.agg (machineR m), .one (iV i)] (.tup [.agg (machineT (tellM (steppedM m i) (m.cores.getD i.toNat coreZ).process 8 (stepCore (m.cores.getD i.toNat coreZ) m.image.text m.mem).2.2)), .one (bV true)]) [none, none] := by
  have hcs : m.cores.length ≤ 68719476736 := hm.2.2.1.1
  obtain ⟨hi0, hi1⟩ := inB_of3 hib
  have hil : i.toNat < m.cores.length := by omega
  have hsc := iStepCore_ok (m.cores.getD i.toNat coreZ) m.image.text m.mem (md_core hm.2.2.1.2 i.toNat) hm.1.1 hm.2.1
  have htl := iTell_ok (steppedM m i) (m.cores.getD i.toNat coreZ).process 8 (stepCore (m.cores.getD i.toNat coreZ) m.image.text m.mem).2.2 (Nat.le_trans hm1.2.2.2.2.2.1 (by omega))
  clear hm1
  refine callOk_of_hcallF 40 (hcall_of_body Tryz.func66 rfl (by kernel_rfl) ?_)
  simp (disch := omega) only [go_sem, Tryz.ntmps66, Tryz.results66]
  have x1 := @steppedM.eq_1
  have x2 := @stepC.eq_1
  have x3 := @coreAt.eq_1
  have x4 : HH 8 (.ho [0, 1, 2, 3, 4, 5] (opm 6 [4] [true, false, false] (.ho [7] (opm 8 [] [false, false] (.stop))))) := ⟨⟩
  have x5 : HF 0 5 := ⟨⟩
  have x6 := copyMachine_ok m hm
  have x7 := within_ok i 0 ((m.cores.length : Int) - 1)
  exact wkfi
theorem iStep_sys (m m2 : Machine) (i : Int) (hm : mdMachine m) (hst : m.stopped = false) (hib : inB i 0 ((m.cores.length : Int) - 1) = true) (hp : decide ((m.cores.getD i.toNat coreZ).process < 0) = false)
    (hz : (stepCore (m.cores.getD i.toNat coreZ) m.image.text m.mem).2.2 = 10)
    (hcl : CallOk Tryz.prog 149 [.one (.box (machineT (steppedM m i))), .one (iV i), .agg (insT (wordAt m.image.text (m.cores.getD i.toNat coreZ).pc).1)] (.tup []) [some (.box (machineT m2)), none, none]) :
    CallOk Tryz.prog 66 [.agg (machineR m), .one (iV i)] (.tup [.agg (machineT m2), .one (bV true)]) [none, none] := by
  have hcs : m.cores.length ≤ 68719476736 := hm.2.2.1.1
  obtain ⟨hi0, hi1⟩ := inB_of3 hib
  have hil : i.toNat < m.cores.length := by omega
  have hsc := iStepCore_ok (m.cores.getD i.toNat coreZ) m.image.text m.mem (md_core hm.2.2.1.2 i.toNat) hm.1.1 hm.2.1
  rw [hz] at hsc
  have hw := wordAt_ok m.image.text (m.cores.getD i.toNat coreZ).pc hm.1.1
  refine callOk_of_hcallF 40 (hcall_of_body Tryz.func66 rfl (by kernel_rfl) ?_)
  simp (disch := omega) only [go_sem, Tryz.ntmps66, Tryz.results66]
  have x1 := @steppedM.eq_1
  have x2 := @stepC.eq_1
  have x3 := @coreAt.eq_1
  have x4 : HH 8 (.ho [0, 1, 2, 3, 4, 5] (opm 6 [4] [true, false, false] (.ho [7] (opm 8 [] [false, false] (.stop))))) := ⟨⟩
  have x5 : HF 0 5 := ⟨⟩
  have x6 := copyMachine_ok m hm
  have x7 := within_ok i 0 ((m.cores.length : Int) - 1)
  exact wkfi
end Go.Proofs.YtejnpiielcbkkaaGreat.E
