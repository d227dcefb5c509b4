/- A part of what stands under the laws of this seat: an abstract evaluator that is proved sound, and contracts of functions by it. No condition beside those that stand in each statement. -/
import Derived.Test.YtejnpiielcbkkaaGreatZK21
set_option linter.unusedVariables false
set_option linter.unusedSimpArgs false
set_option maxRecDepth 100000
set_option maxHeartbeats 4000000
namespace Go.Proofs.YtejnpiielcbkkaaGreat.E
theorem stepped_core {m : Machine} {i : Int} (hil : i.toNat < m.cores.length) : (steppedM m i).cores.getD i.toNat coreZ = (stepC m i).1 := by
  simp [steppedM, hil]
theorem iStep_ok (m : Machine) (i : Int) (b : Nat) (hb : 8 ≤ b) (hb2 : b ≤ 34359738368) (hm : bdM b m) :
    CallOk Tryz.prog 66 [.agg (machineR m), .one (iV i)] (.tup [.agg (machineT (stepM m i).1), .one (bV (stepM m i).2)]) [none, none] := by
  have hmm : mdMachine m := bdM_md (by omega) hm
  cases h1 : m.stopped
  · cases h2 : inB i 0 ((m.cores.length : Int) - 1)
    · have e : stepM m i = (m, false) := by unfold stepM; simp [h1, h2]
      rw [e]; exact iStep_no m i hmm (.inr h2)
    · obtain ⟨hi0, hi1⟩ := inB_of3 h2
      have hil : i.toNat < m.cores.length := by omega
      cases h3 : decide ((coreAt m i).process < 0)
      · by_cases h4 : (stepC m i).2.2 = 0
        · have e : stepM m i = (steppedM m i, true) := by unfold stepM; rw [h1, h2, h3, if_neg (by simp), if_neg (by simp), if_neg (by simp), if_pos h4]
          rw [e]; exact iStep_go m i hmm h1 h2 h3 h4
        · by_cases h5 : (stepC m i).2.2 = 10
          · have e : stepM m i = (callM (steppedM m i) i (wordAt m.image.text (coreAt m i).pc).1, true) := by unfold stepM; rw [h1, h2, h3, if_neg (by simp), if_neg (by simp), if_neg (by simp), if_neg h4, if_pos h5]
            rw [e]
            obtain ⟨q1, q2, q3, q4, -⟩ := stepC_sys h5
            have hp := of_decide_eq_false h3
            have hr := (coreOk_bd q1).1
            have hc := stepped_core hil
            refine iStep_sys m _ i hmm h1 h2 h3 h5 (iCall_ok (steppedM m i) i _ b hb hb2 (steppedM_bd hm) hi0 (by simpa [steppedM] using hi1) ?_ ?_ q2)
            · rw [hc, show stepC m i = stepCore (coreAt m i) m.image.text m.mem from rfl, q3]; show 1 ≤ (coreAt m i).regs.length; omega
            · rw [hc, show stepC m i = stepCore (coreAt m i) m.image.text m.mem from rfl, q3]; show 0 ≤ (coreAt m i).process; omega
          · have e : stepM m i = (tellM (steppedM m i) (coreAt m i).process 8 (stepC m i).2.2, true) := by unfold stepM; rw [h1, h2, h3, if_neg (by simp), if_neg (by simp), if_neg (by simp), if_neg h4, if_neg h5]
            rw [e]
            exact iStep_fault m i hmm (bdM_md (by omega) (steppedM_bd hm)) h1 h2 h3 (beq_eq_false_iff_ne.2 h4) (beq_eq_false_iff_ne.2 h5)
      · have e : stepM m i = ((if (pickK m.kernel).2.2 = true then pickedM m i else m), (pickK m.kernel).2.2) := by
          unfold stepM
          rw [h1, h2, h3, if_neg (by simp), if_neg (by simp), if_pos rfl]
          cases (pickK m.kernel).2.2 <;> rfl
        rw [e]
        exact iStep_pick m i hmm h1 h2 h3
  · have e : stepM m i = (m, false) := by unfold stepM; simp [h1]
    rw [e]; exact iStep_no m i hmm (.inl h1)
end Go.Proofs.YtejnpiielcbkkaaGreat.E
