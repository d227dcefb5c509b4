/- Walks of GatesAgree, of the reference and of the program: true if and only if the gates are the same. Condition: what they are given is read from memory. -/
import Derived.Test.YtgeoipplkjgnfaaIntsEq
import Derived.Test.YtgeoipplkjgnfaaFamM
import Derived.Test.YtgeoipplkjgnfaaFamV
set_option linter.unusedSimpArgs false
set_option linter.unusedVariables false
namespace Go.Proofs.Ytgeoipplkjgnfaa
open Go.RowKit Go.Proofs.YtgeoipplkjgnfaaW.PrintWords Go.Proofs.Ytgeoipplkjgnfaa.Lib

def gateB (x y : TGate) : Bool := (x.Owner == y.Owner) && intsB x.Waits y.Waits && intsB x.Queues y.Queues
def gatesB (xs ys : List TGate) : Bool := decide (xs.length = ys.length) && (List.range xs.length).all fun i => gateB (xs.getD i default) (ys.getD i default)
theorem gatesB_len {xs ys : List TGate} (h : ¬ xs.length = ys.length) : gatesB xs ys = false := by simp [gatesB, h]
theorem gatesB_at {xs ys : List TGate} (k : Nat) (h : k < xs.length) (h' : k < ys.length) (hn : gateB xs[k] ys[k] = false) : gatesB xs ys = false := by
  have ha : ((List.range xs.length).all fun i => gateB (xs.getD i default) (ys.getD i default)) = false := by
    rw [List.all_eq_false]
    exact ⟨k, by simpa using h, by simp [List.getD, h, h', hn]⟩
  unfold gatesB
  rw [ha]
  simp
theorem gatesB_all {xs ys : List TGate} (hl : xs.length = ys.length) (h : ∀ j (h1 : j < xs.length) (h2 : j < ys.length), gateB xs[j] ys[j] = true) : gatesB xs ys = true := by
  have ha : ((List.range xs.length).all fun i => gateB (xs.getD i default) (ys.getD i default)) = true := by
    rw [List.all_eq_true]
    intro k hk
    have hk1 : k < xs.length := by simpa using hk
    have hk2 : k < ys.length := by omega
    simpa [List.getD, hk1, hk2] using h k hk1 hk2
  unfold gatesB
  rw [ha]
  simp [hl]

set_option maxHeartbeats 4000000 in
theorem specGate.calls (w : World) (x : TGate) (cs : List Value) (h : kGate.K w x cs) (y : TGate) (ds : List Value) (h' : kGate.K w y ds) :
    Calls Try.prog 112 #[.agg cs.toArray, .agg ds.toArray] w fun e w' => e = .returned (.bool (gateB x y)) ∧ Below w.heap.size w w' := by
  obtain ⟨A0, c0, A1, c1, rfl, f1_, f2_⟩ := kGate_open h
  have HK1 := Aside0.mk f1_
  have HK2 := Aside0.mk f2_
  clear f1_ f2_
  obtain ⟨B0, d0, B1, d1, rfl, q1_, q2_⟩ := kGate_open h'
  have HL1 := Aside0.mk q1_
  have HL2 := Aside0.mk q2_
  clear q1_ q2_
  clear h h'
  have hd : gateB x y = ((x.Owner == y.Owner) && intsB x.Waits y.Waits && intsB x.Queues y.Queues) := rfl
  generalize gateB x y = r at *
  have HD := Aside0.mk hd
  clear hd
  have HB := Aside0.mk (below_alloc (below_alloc (Below.refl w.heap.size w) (.cells #[.int .i64 x.Owner, .slice A0 x.Waits.length c0, .slice A1 x.Queues.length c1] 40 (0, 0))) (.cells #[.int .i64 y.Owner, .slice B0 y.Waits.length d0, .slice B1 y.Queues.length d1] 40 (0, 0)))
  go_enter Try.func112, Try.ntmps112
  cases e1 : (x.Owner == y.Owner) <;> cases e2 : intsB x.Waits y.Waits <;> cases e3 : intsB x.Queues y.Queues
  all_goals
    rw [e1, e2, e3] at HD
    have HD' := HD.out
    simp only [Bool.false_and, Bool.and_false, Bool.true_and, Bool.and_true] at HD'
    clear HD
    have HD := Aside0.mk HD'
    clear HD'
    go_wp2_with (first | (go_at_call_of 62 (Value.slice A0 x.Waits.length c0); (with_reducible refine (specInts.calls _ _ _ _ _ (HK1.out.below HB.out) (HL1.out.below HB.out)).mono ?_); rw [e2]; rintro e w1 ⟨rfl, hb⟩; obtain ⟨hcw1, hfw1⟩ := bcell hb; have hzw1_0 : w.heap.size < w1.heap.size := (by have := hb.size; (try simp at this); omega); have hzw1_1 : w.heap.size + 1 < w1.heap.size := (by have := hb.size; (try simp at this); omega); have HB' := Aside0.mk (bstep HB.out hb); clear HB hb; have HB := HB'; clear HB') | (go_at_call_of 62 (Value.slice A1 x.Queues.length c1); (with_reducible refine (specInts.calls _ _ _ _ _ (HK2.out.below HB.out) (HL2.out.below HB.out)).mono ?_); rw [e3]; rintro e w2 ⟨rfl, hb⟩; have HB' := Aside0.mk (bstep HB.out hb); clear HB hb; have HB := HB'; clear HB'))
    go_ret
    exact ⟨by rw [HD.out]; rfl, HB.out⟩
set_option maxHeartbeats 4000000 in
theorem implGate.calls (w : World) (x : TGate) (cs : List Value) (h : kGate.K w x cs) (y : TGate) (ds : List Value) (h' : kGate.K w y ds) :
    Calls Try.prog 117 #[.agg cs.toArray, .agg ds.toArray] w fun e w' => e = .returned (.bool (gateB x y)) ∧ Below w.heap.size w w' := by
  obtain ⟨A0, c0, A1, c1, rfl, f1_, f2_⟩ := kGate_open h
  have HK1 := Aside0.mk f1_
  have HK2 := Aside0.mk f2_
  clear f1_ f2_
  obtain ⟨B0, d0, B1, d1, rfl, q1_, q2_⟩ := kGate_open h'
  have HL1 := Aside0.mk q1_
  have HL2 := Aside0.mk q2_
  clear q1_ q2_
  clear h h'
  have hd : gateB x y = ((x.Owner == y.Owner) && intsB x.Waits y.Waits && intsB x.Queues y.Queues) := rfl
  generalize gateB x y = r at *
  have HD := Aside0.mk hd
  clear hd
  have HB := Aside0.mk (below_alloc (below_alloc (Below.refl w.heap.size w) (.cells #[.int .i64 x.Owner, .slice A0 x.Waits.length c0, .slice A1 x.Queues.length c1] 40 (0, 0))) (.cells #[.int .i64 y.Owner, .slice B0 y.Waits.length d0, .slice B1 y.Queues.length d1] 40 (0, 0)))
  go_enter Try.func117, Try.ntmps117
  cases e1 : (x.Owner == y.Owner) <;> cases e2 : intsB x.Waits y.Waits <;> cases e3 : intsB x.Queues y.Queues
  all_goals
    rw [e1, e2, e3] at HD
    have HD' := HD.out
    simp only [Bool.false_and, Bool.and_false, Bool.true_and, Bool.and_true] at HD'
    clear HD
    have HD := Aside0.mk HD'
    clear HD'
    go_wp2_with (first | (go_at_call_of 64 (Value.slice A0 x.Waits.length c0); (with_reducible refine (sliceInts.calls _ _ _ _ _ (HK1.out.below HB.out) (HL1.out.below HB.out)).mono ?_); rw [e2]; rintro e w1 ⟨rfl, hb⟩; obtain ⟨hcw1, hfw1⟩ := bcell hb; have hzw1_0 : w.heap.size < w1.heap.size := (by have := hb.size; (try simp at this); omega); have hzw1_1 : w.heap.size + 1 < w1.heap.size := (by have := hb.size; (try simp at this); omega); have HB' := Aside0.mk (bstep HB.out hb); clear HB hb; have HB := HB'; clear HB') | (go_at_call_of 64 (Value.slice A1 x.Queues.length c1); (with_reducible refine (sliceInts.calls _ _ _ _ _ (HK2.out.below HB.out) (HL2.out.below HB.out)).mono ?_); rw [e3]; rintro e w2 ⟨rfl, hb⟩; have HB' := Aside0.mk (bstep HB.out hb); clear HB hb; have HB := HB'; clear HB'))
    go_ret
    exact ⟨by rw [HD.out]; rfl, HB.out⟩
end Go.Proofs.Ytgeoipplkjgnfaa
