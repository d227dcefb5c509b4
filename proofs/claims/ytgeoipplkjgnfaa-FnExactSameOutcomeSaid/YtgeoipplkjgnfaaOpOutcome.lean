/- How what stands in memory is read as a value, for parameters that are structs. Printed by gen.py, this session's own program. -/
import Derived.Test.YtgeoipplkjgnfaaOpens
import Derived.Test.YtgeoipplkjgnfaaFamE
namespace Go.Proofs.Ytgeoipplkjgnfaa
open Go.RowKit Go.Proofs.YtgeoipplkjgnfaaW.PrintWords Go.Proofs.Ytgeoipplkjgnfaa.Lib
theorem oOutcome : Opens Try.prog 31 kOutcome wfOutcome := by
  have h := Opens.struct (d := _) Try.underlying31 (by kernel_rfl) (fun x : TOutcome => (x.Fault, x.Code, x.Verdict, x.Prints, x.Events)) (fun y => ⟨y.1, y.2.1, y.2.2.1, y.2.2.2.1, y.2.2.2.2⟩) (fun _ => rfl) (OpensFs.cons rfl (by kernel_rfl) (Opens.int Try.underlying3) (OpensFs.cons rfl (by kernel_rfl) (Opens.int Try.underlying3) (OpensFs.cons rfl (by kernel_rfl) (Opens.int Try.underlying3) (OpensFs.cons rfl (by kernel_rfl) (Opens.slice 3 Try.underlying29 (by kernel_rfl) (Opens.int Try.underlying3)) (OpensFs.one rfl (by kernel_rfl) (Opens.int Try.underlying3))))))
  exact h
end Go.Proofs.Ytgeoipplkjgnfaa
