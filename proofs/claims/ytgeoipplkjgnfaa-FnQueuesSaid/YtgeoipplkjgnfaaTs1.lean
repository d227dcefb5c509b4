import Derived.Test.YtgeoipplkjgnfaaProg
import Derived.Test.YtgeoipplkjgnfaaEng21
set_option linter.unusedVariables false
set_option linter.unusedSimpArgs false
namespace Go.Proofs.Ytgeoipplkjgnfaa.E
def inB (n lo hi : Int) : Bool := decide (n ≥ lo) && decide (n ≤ hi)
theorem within_ok (n lo hi : Int) : CallOk Try.prog 69 [.one (iV n), .one (iV lo), .one (iV hi)] (.s (.one (bV (inB n lo hi)))) [none, none, none] := by
  refine callOk_of_hcall 40 (hcall_of_body Try.func69 rfl (by kernel_rfl) ?_)
  simp (disch := omega) only [go_sem, Try.ntmps69, Try.results69]
  refine i_seq (i_region (aL_run ?_))
  simp (disch := omega) only [go_sem]
  refine i_seq (i_region (aL_run ?_))
  simp (disch := omega) only [go_sem]
  refine resOk_g (fun h => ?_) (fun h => ?_)
  · simp (disch := omega) only [go_sem, h]
    simp (disch := omega) only [EndK, go_sem, inB, h]
  · simp (disch := omega) only [go_sem, h]
    simp (disch := omega) only [EndK, go_sem, inB, h, Bool.false_and]
end Go.Proofs.Ytgeoipplkjgnfaa.E
