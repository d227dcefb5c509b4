/- Walks of InsOk, Decode, TouchOf, of the reference and of the program, and of wordAt and usesMem: what an instruction word is and what it touches. -/
import Derived.Test.YtgeoipplkjgnfaaTouchP
set_option linter.unusedSimpArgs false
set_option linter.unusedVariables false
namespace Go.Proofs.Ytgeoipplkjgnfaa
open Go.RowKit Go.Proofs.YtgeoipplkjgnfaaW.PrintWords Go.Proofs.Ytgeoipplkjgnfaa.Lib

set_option maxHeartbeats 8000000 in
theorem implInsOk.calls (w : World) (op a b n : Int) :
    Calls Try.prog 165 #[.agg #[.int .i64 op, .int .i64 a, .int .i64 b, .int .i64 n]] w fun e w' => e = .returned (.bool (insOk op a b n)) ∧ Below w.heap.size w w' := by
  have hd : insOk op a b n = (inB op 1 10 && inB a 0 7 && inB b 0 7 && inB n 0 4194303 && (op == 4 || b == 0) && insTail op a n) := rfl
  generalize insOk op a b n = r at *
  cases c1 : inB op 1 10
  rotate_left
  cases c2 : inB a 0 7
  rotate_left
  cases c3 : inB b 0 7
  rotate_left
  cases c4 : inB n 0 4194303
  rotate_left
  · have hop := inB_iff.1 c1
    have ha7 := inB_iff.1 c2
    have hop2 : op = 1 ∨ op = 2 ∨ op = 3 ∨ op = 4 ∨ op = 5 ∨ op = 6 ∨ op = 7 ∨ op = 8 ∨ op = 9 ∨ op = 10 := by omega
    have hia : inB a 1 7 = decide (1 ≤ a) := by simp [inB, ha7.2]
    clear hop ha7
    rw [c1, c2, c3, c4] at hd
    by_cases hb : b = 0
    · subst hb
      rcases hop2 with rfl | rfl | rfl | rfl | rfl | rfl | rfl | rfl | rfl | rfl
      all_goals
        simp [insTail, hia] at hd
        have HD := Aside0.mk hd
        clear hd hia
        go_enter Try.func165, Try.ntmps165
        go_wp2_with (go_at_call 69; (with_reducible refine (implIn.calls _ _ _ _).mono ?_); rintro e w1 ⟨rfl, rfl⟩)
        all_goals (go_ret; exact ⟨by rw [HD.out]; first | rfl | simp [*], below_alloc (Below.refl _ _) _⟩)
    · have hb1 : (b != 0) = true := by simp [hb]
      have hb2 : (b == 0) = false := by simp [hb]
      rw [hb2] at hd
      rcases hop2 with rfl | rfl | rfl | rfl | rfl | rfl | rfl | rfl | rfl | rfl
      all_goals
        simp [insTail, hia] at hd
        have HD := Aside0.mk hd
        clear hd hia
        go_enter Try.func165, Try.ntmps165
        go_wp2_with (go_at_call 69; (with_reducible refine (implIn.calls _ _ _ _).mono ?_); rintro e w1 ⟨rfl, rfl⟩)
        all_goals (go_ret; exact ⟨by rw [HD.out]; first | rfl | simp [*], below_alloc (Below.refl _ _) _⟩)
  all_goals
    first | rw [c1, c2, c3, c4] at hd | rw [c1, c2, c3] at hd | rw [c1, c2] at hd | rw [c1] at hd
    simp at hd
    have HD := Aside0.mk hd
    clear hd
    go_enter Try.func165, Try.ntmps165
    go_wp2_with (go_at_call 69; (with_reducible refine (implIn.calls _ _ _ _).mono ?_); rintro e w1 ⟨rfl, rfl⟩)
    go_ret
    exact ⟨by rw [HD.out]; first | rfl | simp, below_alloc (Below.refl _ _) _⟩
end Go.Proofs.Ytgeoipplkjgnfaa
