/- Walks of the two functions that hold two outcomes against each other: true if and only if all fields are the same. Condition: both are read from memory. -/
import Derived.Test.YtgeoipplkjgnfaaIntsEq
set_option linter.unusedSimpArgs false
set_option linter.unusedVariables false
namespace Go.Proofs.Ytgeoipplkjgnfaa
open Go.RowKit Go.Proofs.YtgeoipplkjgnfaaW.PrintWords Go.Proofs.Ytgeoipplkjgnfaa.Lib

def sameO (x y : TOutcome) : Bool := (x.Fault == y.Fault) && (x.Code == y.Code) && (x.Verdict == y.Verdict) && (x.Events == y.Events) && intsB x.Prints y.Prints
set_option maxHeartbeats 2000000 in
theorem specSameOutcome.calls (w : World) (x : TOutcome) (cs : List Value) (h : kOutcome.K w x cs) (y : TOutcome) (ds : List Value) (h' : kOutcome.K w y ds) :
    Calls Try.prog 18 #[.agg cs.toArray, .agg ds.toArray] w fun e w' => e = .returned (.bool (sameO x y)) ∧ Below w.heap.size w w' := by
  obtain ⟨A0, c0, rfl, f3_⟩ := kOutcome_open h
  obtain ⟨B0, d0, rfl, g3_⟩ := kOutcome_open h'
  have HK := Aside0.mk f3_
  have HL := Aside0.mk g3_
  clear f3_ g3_ h h'
  have hd : sameO x y = ((x.Fault == y.Fault) && (x.Code == y.Code) && (x.Verdict == y.Verdict) && (x.Events == y.Events) && intsB x.Prints y.Prints) := rfl
  generalize sameO x y = r at *
  have HD := Aside0.mk hd
  clear hd
  go_enter Try.func18, Try.ntmps18
  cases e1 : (x.Fault == y.Fault) <;> cases e2 : (x.Code == y.Code) <;> cases e3 : (x.Verdict == y.Verdict) <;> cases e4 : (x.Events == y.Events)
  all_goals
    rw [e1, e2, e3, e4] at HD
    have HD' := HD.out
    simp only [Bool.false_and, Bool.and_false, Bool.true_and, Bool.and_true] at HD'
    clear HD
    have HD := Aside0.mk HD'
    clear HD'
    go_wp2_with (go_at_call 62; (with_reducible refine (specInts.calls _ _ _ _ _ (HK.out.below (by with_reducible repeat (first | apply below_alloc | exact Below.refl _ _))) (HL.out.below (by with_reducible repeat (first | apply below_alloc | exact Below.refl _ _)))).mono ?_); rintro e w1 ⟨rfl, hb⟩; have HB := Aside0.mk (bstep (w := w) (by with_reducible repeat (first | apply below_alloc | exact Below.refl _ _)) hb); clear hb)
    go_ret
    first
      | exact ⟨by rw [HD.out]; rfl, HB.out⟩
      | exact ⟨by rw [HD.out]; rfl, by with_reducible repeat (first | apply below_alloc | exact Below.refl _ _)⟩
set_option maxHeartbeats 2000000 in
theorem implSameOutcome.calls (w : World) (x : TOutcome) (cs : List Value) (h : kOutcome.K w x cs) (y : TOutcome) (ds : List Value) (h' : kOutcome.K w y ds) :
    Calls Try.prog 20 #[.agg cs.toArray, .agg ds.toArray] w fun e w' => e = .returned (.bool (sameO x y)) ∧ Below w.heap.size w w' := by
  obtain ⟨A0, c0, rfl, f3_⟩ := kOutcome_open h
  obtain ⟨B0, d0, rfl, g3_⟩ := kOutcome_open h'
  have HK := Aside0.mk f3_
  have HL := Aside0.mk g3_
  clear f3_ g3_ h h'
  have hd : sameO x y = ((x.Fault == y.Fault) && (x.Code == y.Code) && (x.Verdict == y.Verdict) && (intsB x.Prints y.Prints && (x.Events == y.Events))) := by unfold sameO; rw [Bool.and_comm (intsB x.Prints y.Prints), Bool.and_assoc _ _ (intsB x.Prints y.Prints)]
  generalize sameO x y = r at *
  have HD := Aside0.mk hd
  clear hd
  go_enter Try.func20, Try.ntmps20
  cases e1 : (x.Fault == y.Fault) <;> cases e2 : (x.Code == y.Code) <;> cases e3 : (x.Verdict == y.Verdict) <;> cases e4 : (x.Events == y.Events) <;> cases e5 : intsB x.Prints y.Prints
  all_goals
    rw [e1, e2, e3, e4, e5] at HD
    have HD' := HD.out
    simp only [Bool.false_and, Bool.and_false, Bool.true_and, Bool.and_true] at HD'
    clear HD
    have HD := Aside0.mk HD'
    clear HD'
    go_wp2_with (go_at_call 64; (with_reducible refine (sliceInts.calls _ _ _ _ _ (HK.out.below (by with_reducible repeat (first | apply below_alloc | exact Below.refl _ _))) (HL.out.below (by with_reducible repeat (first | apply below_alloc | exact Below.refl _ _)))).mono ?_); rw [e5]; rintro e w1 ⟨rfl, hb⟩; obtain ⟨hc1, hf1⟩ := bcell hb; have HB := Aside0.mk (bstep (w := w) (by with_reducible repeat (first | apply below_alloc | exact Below.refl _ _)) hb); clear hb)
    go_ret
    first
      | exact ⟨by rw [HD.out]; rfl, HB.out⟩
      | exact ⟨by rw [HD.out]; rfl, by with_reducible repeat (first | apply below_alloc | exact Below.refl _ _)⟩
end Go.Proofs.Ytgeoipplkjgnfaa
