/- How what stands in memory is read as a value, for parameters that are structs. Printed by gen.py, this session's own program. -/
import Derived.Test.YtgeoipplkjgnfaaOpens
import Derived.Test.YtgeoipplkjgnfaaFamM
namespace Go.Proofs.Ytgeoipplkjgnfaa
open Go.RowKit Go.Proofs.YtgeoipplkjgnfaaW.PrintWords Go.Proofs.Ytgeoipplkjgnfaa.Lib
theorem oImage : Opens Try.prog 56 kImage wfImage := by
  have h := Opens.struct (d := _) Try.underlying56 (by kernel_rfl) (fun x : TImage => (x.Text, x.Starts, x.Size)) (fun y => ⟨y.1, y.2.1, y.2.2⟩) (fun _ => rfl) (OpensFs.cons rfl (by kernel_rfl) (Opens.slice 3 Try.underlying29 (by kernel_rfl) (Opens.int Try.underlying3)) (OpensFs.cons rfl (by kernel_rfl) (Opens.slice 3 Try.underlying29 (by kernel_rfl) (Opens.int Try.underlying3)) (OpensFs.one rfl (by kernel_rfl) (Opens.int Try.underlying3))))
  exact h
theorem oCore : Opens Try.prog 179 kCore wfCore := by
  have h := Opens.struct (d := _) Try.underlying179 (by kernel_rfl) (fun x : TCore => (x.Regs, x.Pc, x.Process)) (fun y => ⟨y.1, y.2.1, y.2.2⟩) (fun _ => rfl) (OpensFs.cons rfl (by kernel_rfl) (Opens.slice 3 Try.underlying29 (by kernel_rfl) (Opens.int Try.underlying3)) (OpensFs.cons rfl (by kernel_rfl) (Opens.int Try.underlying3) (OpensFs.one rfl (by kernel_rfl) (Opens.int Try.underlying3))))
  exact h
theorem oGate : Opens Try.prog 211 kGate wfGate := by
  have h := Opens.struct (d := _) Try.underlying211 (by kernel_rfl) (fun x : TGate => (x.Owner, x.Waits, x.Queues)) (fun y => ⟨y.1, y.2.1, y.2.2⟩) (fun _ => rfl) (OpensFs.cons rfl (by kernel_rfl) (Opens.int Try.underlying3) (OpensFs.cons rfl (by kernel_rfl) (Opens.slice 3 Try.underlying29 (by kernel_rfl) (Opens.int Try.underlying3)) (OpensFs.one rfl (by kernel_rfl) (Opens.slice 3 Try.underlying29 (by kernel_rfl) (Opens.int Try.underlying3)))))
  exact h
theorem oKernel : Opens Try.prog 61 kKernel wfKernel := by
  have h := Opens.struct (d := _) Try.underlying61 (by kernel_rfl) (fun x : TKernel => (x.Gates, x.Ready, x.Saved, x.Over)) (fun y => ⟨y.1, y.2.1, y.2.2.1, y.2.2.2⟩) (fun _ => rfl) (OpensFs.cons rfl (by kernel_rfl) (Opens.slice 40 Try.underlying58 (by kernel_rfl) oGate) (OpensFs.cons rfl (by kernel_rfl) (Opens.slice 3 Try.underlying29 (by kernel_rfl) (Opens.int Try.underlying3)) (OpensFs.cons rfl (by kernel_rfl) (Opens.slice 154 Try.underlying57 (by kernel_rfl) oCore) (OpensFs.one rfl (by kernel_rfl) (Opens.slice 4 Try.underlying59 (by kernel_rfl) (Opens.bool Try.underlying4))))))
  exact h
theorem oEvent : Opens Try.prog 111 kEvent wfEvent := by
  have h := Opens.struct (d := _) Try.underlying111 (by kernel_rfl) (fun x : TEvent => (x.Process, x.Kind, x.Num)) (fun y => ⟨y.1, y.2.1, y.2.2⟩) (fun _ => rfl) (OpensFs.cons rfl (by kernel_rfl) (Opens.int Try.underlying3) (OpensFs.cons rfl (by kernel_rfl) (Opens.int Try.underlying3) (OpensFs.one rfl (by kernel_rfl) (Opens.int Try.underlying3))))
  exact h
theorem oMachine : Opens Try.prog 63 kMachine wfMachine := by
  have h := Opens.struct (d := _) Try.underlying63 (by kernel_rfl) (fun x : TMachine => (x.Image, x.Mem, x.Cores, x.Kernel, x.Input, x.Events, x.Stopped)) (fun y => ⟨y.1, y.2.1, y.2.2.1, y.2.2.2.1, y.2.2.2.2.1, y.2.2.2.2.2.1, y.2.2.2.2.2.2⟩) (fun _ => rfl) (OpensFs.cons rfl (by kernel_rfl) oImage (OpensFs.cons rfl (by kernel_rfl) (Opens.slice 3 Try.underlying29 (by kernel_rfl) (Opens.int Try.underlying3)) (OpensFs.cons rfl (by kernel_rfl) (Opens.slice 154 Try.underlying57 (by kernel_rfl) oCore) (OpensFs.cons rfl (by kernel_rfl) oKernel (OpensFs.cons rfl (by kernel_rfl) (Opens.slice 3 Try.underlying29 (by kernel_rfl) (Opens.int Try.underlying3)) (OpensFs.cons rfl (by kernel_rfl) (Opens.slice 109 Try.underlying22 (by kernel_rfl) oEvent) (OpensFs.one rfl (by kernel_rfl) (Opens.bool Try.underlying4))))))))
  exact h
end Go.Proofs.Ytgeoipplkjgnfaa
