import Derived.Test.YtgeoipplkjgnfaaTs2
import Derived.Test.YtgeoipplkjgnfaaTs1
set_option linter.unusedVariables false
set_option linter.unusedSimpArgs false
namespace Go.Proofs.Ytgeoipplkjgnfaa.E
def hasI (xs : List Int) (x : Int) : Bool := xs.any fun y => y == x
theorem hasI_take {xs : List Int} {x : Int} {k : Nat} (hk : k < xs.length) : hasI (xs.take (k + 1)) x = (hasI (xs.take k) x || (xs.getD k 0 == x)) := by
  unfold hasI
  rw [List.take_succ_eq_append_getElem hk, List.any_append]
  simp [hk]
theorem hasI_of {xs : List Int} {x : Int} {k : Nat} (hk : k < xs.length) (h : (xs.getD k 0 == x) = true) : hasI xs x = true := by
  simp only [hasI, List.any_eq_true]
  exact ⟨xs[k], List.getElem_mem hk, by simpa [hk] using h⟩
set_option maxRecDepth 100000 in
theorem specIn_ok (xs : List Int) (x : Int) (hs : xs.length ≤ 4398046511104) : CallOk Try.prog 78 [.one (.ro 1 (intsD xs)), .one (iV x)] (.s (.one (bV (hasI xs x)))) [none, none] := by
  refine callOk_of_hcall 40 (hcall_of_body Try.func78 rfl (by kernel_rfl) ?_)
  simp (disch := omega) only [go_sem, Try.ntmps78, Try.results78]
  refine i_seq (i_region (aL_run ?_))
  simp (disch := omega) only [go_sem]
  refine i_seq (i_seq (i_region (aL_run ?_)))
  simp (disch := omega) only [go_sem]
  refine i_block (i_loop (α := {k : Nat // k ≤ xs.length ∧ hasI (xs.take k) x = false}) (fun k => ⟨mkEnv 18 [(0, .one (.ro 1 (intsD xs))), (1, .one (iV x)), (5, .one (iV k.1))], []⟩) (fun k => xs.length - k.1) ⟨0, by omega, by simp [hasI]⟩ ?_ ?_)
  · exact weak_canon [0, 1, 5] [] (by simp (disch := omega) only [go_sem]) (by simp (disch := omega) only [go_sem]) (by simp only [go_sem])
  rintro ⟨k, hk, hp⟩
  simp (disch := omega) only [go_sem]
  refine i_seq (i_seq (i_region (aL_run ?_)))
  simp (disch := omega) only [go_sem]
  refine i_cond (by simp only [go_sem]; rfl) (fun h => ?_) (fun h => ?_)
  · simp only [decide_eq_true_eq] at h
    have h' : k < xs.length := by omega
    simp (disch := omega) only [go_sem]
    refine i_seq (i_block (i_seq (i_region (aL_run ?_))))
    simp (disch := omega) only [go_sem, Int.toNat_natCast]
    refine i_cond (by simp only [go_sem]; rfl) (fun h => ?_) (fun h => ?_)
    · refine i_seq (i_region (aL_run ?_))
      simp (disch := omega) only [go_sem]
      simp (disch := omega) only [EndK, go_sem, hasI_of h' h]
    · simp (disch := omega) only [go_sem]
      refine i_region (aL_run ?_)
      simp (disch := omega) only [go_sem]
      refine ⟨⟨k + 1, by omega, by rw [hasI_take h', hp, h]; rfl⟩, weak_canon [0, 1, 5] [] (by simp (disch := omega) only [go_sem]) (by simp (disch := omega) only [go_sem]) (by simp only [go_sem]), by simp only; omega⟩
  · simp only [decide_eq_false_iff_not] at h
    have hx : hasI xs x = false := by rw [← hp, List.take_of_length_le (by omega)]
    simp (disch := omega) only [go_sem]
    refine i_seq (i_region (aL_run ?_))
    simp (disch := omega) only [go_sem]
    simp (disch := omega) only [EndK, go_sem, hx]
end Go.Proofs.Ytgeoipplkjgnfaa.E
