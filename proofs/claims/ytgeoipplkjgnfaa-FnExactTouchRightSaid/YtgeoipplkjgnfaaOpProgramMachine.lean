/- How what stands in memory is read as a value, for parameters that are structs. Printed by gen.py, this session's own program. -/
import Derived.Test.YtgeoipplkjgnfaaOpens
import Derived.Test.YtgeoipplkjgnfaaFamM
import Derived.Test.YtgeoipplkjgnfaaFamP
namespace Go.Proofs.Ytgeoipplkjgnfaa
open Go.RowKit Go.Proofs.YtgeoipplkjgnfaaW.PrintWords Go.Proofs.Ytgeoipplkjgnfaa.Lib
theorem oNode : Opens Try.prog 187 kNode wfNode := by
  have h := Opens.struct (d := _) Try.underlying187 (by kernel_rfl) (fun x : TNode => (x.Kind, x.Num, x.Name, x.More, x.To, x.Kids)) (fun y => ⟨y.1, y.2.1, y.2.2.1, y.2.2.2.1, y.2.2.2.2.1, y.2.2.2.2.2⟩) (fun _ => rfl) (OpensFs.cons rfl (by kernel_rfl) (Opens.int Try.underlying3) (OpensFs.cons rfl (by kernel_rfl) (Opens.int Try.underlying3) (OpensFs.cons rfl (by kernel_rfl) (Opens.string Try.underlying9) (OpensFs.cons rfl (by kernel_rfl) (Opens.string Try.underlying9) (OpensFs.cons rfl (by kernel_rfl) (Opens.string Try.underlying9) (OpensFs.one rfl (by kernel_rfl) (Opens.slice 3 Try.underlying29 (by kernel_rfl) (Opens.int Try.underlying3))))))))
  exact h
theorem oEntry : Opens Try.prog 234 kEntry wfEntry := by
  have h := Opens.struct (d := _) Try.underlying234 (by kernel_rfl) (fun x : TEntry => (x.Name, x.Param, x.Body)) (fun y => ⟨y.1, y.2.1, y.2.2⟩) (fun _ => rfl) (OpensFs.cons rfl (by kernel_rfl) (Opens.string Try.underlying9) (OpensFs.cons rfl (by kernel_rfl) (Opens.string Try.underlying9) (OpensFs.one rfl (by kernel_rfl) (Opens.int Try.underlying3))))
  exact h
theorem oMonitor : Opens Try.prog 191 kMonitor wfMonitor := by
  have h := Opens.struct (d := _) Try.underlying191 (by kernel_rfl) (fun x : TMonitor => (x.Name, x.Vars, x.Queues, x.Entries)) (fun y => ⟨y.1, y.2.1, y.2.2.1, y.2.2.2⟩) (fun _ => rfl) (OpensFs.cons rfl (by kernel_rfl) (Opens.string Try.underlying9) (OpensFs.cons rfl (by kernel_rfl) (Opens.slice 9 Try.underlying139 (by kernel_rfl) (Opens.string Try.underlying9)) (OpensFs.cons rfl (by kernel_rfl) (Opens.slice 9 Try.underlying139 (by kernel_rfl) (Opens.string Try.underlying9)) (OpensFs.one rfl (by kernel_rfl) (Opens.slice 235 Try.underlying189 (by kernel_rfl) oEntry)))))
  exact h
theorem oProcess : Opens Try.prog 193 kProcess wfProcess := by
  have h := Opens.struct (d := _) Try.underlying193 (by kernel_rfl) (fun x : TProcess => (x.Name, x.Uses, x.Vars, x.Body)) (fun y => ⟨y.1, y.2.1, y.2.2.1, y.2.2.2⟩) (fun _ => rfl) (OpensFs.cons rfl (by kernel_rfl) (Opens.string Try.underlying9) (OpensFs.cons rfl (by kernel_rfl) (Opens.slice 9 Try.underlying139 (by kernel_rfl) (Opens.string Try.underlying9)) (OpensFs.cons rfl (by kernel_rfl) (Opens.slice 9 Try.underlying139 (by kernel_rfl) (Opens.string Try.underlying9)) (OpensFs.one rfl (by kernel_rfl) (Opens.int Try.underlying3)))))
  exact h
theorem oProgram : Opens Try.prog 80 kProgram wfProgram := by
  have h := Opens.struct (d := _) Try.underlying80 (by kernel_rfl) (fun x : TProgram => (x.Nodes, x.Monitors, x.Processes)) (fun y => ⟨y.1, y.2.1, y.2.2⟩) (fun _ => rfl) (OpensFs.cons rfl (by kernel_rfl) (Opens.slice 195 Try.underlying76 (by kernel_rfl) oNode) (OpensFs.cons rfl (by kernel_rfl) (Opens.slice 144 Try.underlying77 (by kernel_rfl) oMonitor) (OpensFs.one rfl (by kernel_rfl) (Opens.slice 141 Try.underlying78 (by kernel_rfl) oProcess))))
  exact h
theorem oImage : Opens Try.prog 56 kImage wfImage := by
  have h := Opens.struct (d := _) Try.underlying56 (by kernel_rfl) (fun x : TImage => (x.Text, x.Starts, x.Size)) (fun y => ⟨y.1, y.2.1, y.2.2⟩) (fun _ => rfl) (OpensFs.cons rfl (by kernel_rfl) (Opens.slice 3 Try.underlying29 (by kernel_rfl) (Opens.int Try.underlying3)) (OpensFs.cons rfl (by kernel_rfl) (Opens.slice 3 Try.underlying29 (by kernel_rfl) (Opens.int Try.underlying3)) (OpensFs.one rfl (by kernel_rfl) (Opens.int Try.underlying3))))
  exact h
theorem oCore : Opens Try.prog 179 kCore wfCore := by
  have h := Opens.struct (d := _) Try.underlying179 (by kernel_rfl) (fun x : TCore => (x.Regs, x.Pc, x.Process)) (fun y => ⟨y.1, y.2.1, y.2.2⟩) (fun _ => rfl) (OpensFs.cons rfl (by kernel_rfl) (Opens.slice 3 Try.underlying29 (by kernel_rfl) (Opens.int Try.underlying3)) (OpensFs.cons rfl (by kernel_rfl) (Opens.int Try.underlying3) (OpensFs.one rfl (by kernel_rfl) (Opens.int Try.underlying3))))
  exact h
theorem oGate : Opens Try.prog 211 kGate wfGate := by
  have h := Opens.struct (d := _) Try.underlying211 (by kernel_rfl) (fun x : TGate => (x.Owner, x.Waits, x.Queues)) (fun y => ⟨y.1, y.2.1, y.2.2⟩) (fun _ => rfl) (OpensFs.cons rfl (by kernel_rfl) (Opens.int Try.underlying3) (OpensFs.cons rfl (by kernel_rfl) (Opens.slice 3 Try.underlying29 (by kernel_rfl) (Opens.int Try.underlying3)) (OpensFs.one rfl (by kernel_rfl) (Opens.slice 3 Try.underlying29 (by kernel_rfl) (Opens.int Try.underlying3)))))
  exact h
theorem oKernel : Opens Try.prog 61 kKernel wfKernel := by
  have h := Opens.struct (d := _) Try.underlying61 (by kernel_rfl) (fun x : TKernel => (x.Gates, x.Ready, x.Saved, x.Over)) (fun y => ⟨y.1, y.2.1, y.2.2.1, y.2.2.2⟩) (fun _ => rfl) (OpensFs.cons rfl (by kernel_rfl) (Opens.slice 40 Try.underlying58 (by kernel_rfl) oGate) (OpensFs.cons rfl (by kernel_rfl) (Opens.slice 3 Try.underlying29 (by kernel_rfl) (Opens.int Try.underlying3)) (OpensFs.cons rfl (by kernel_rfl) (Opens.slice 154 Try.underlying57 (by kernel_rfl) oCore) (OpensFs.one rfl (by kernel_rfl) (Opens.slice 4 Try.underlying59 (by kernel_rfl) (Opens.bool Try.underlying4))))))
  exact h
theorem oEvent : Opens Try.prog 111 kEvent wfEvent := by
  have h := Opens.struct (d := _) Try.underlying111 (by kernel_rfl) (fun x : TEvent => (x.Process, x.Kind, x.Num)) (fun y => ⟨y.1, y.2.1, y.2.2⟩) (fun _ => rfl) (OpensFs.cons rfl (by kernel_rfl) (Opens.int Try.underlying3) (OpensFs.cons rfl (by kernel_rfl) (Opens.int Try.underlying3) (OpensFs.one rfl (by kernel_rfl) (Opens.int Try.underlying3))))
  exact h
theorem oMachine : Opens Try.prog 63 kMachine wfMachine := by
  have h := Opens.struct (d := _) Try.underlying63 (by kernel_rfl) (fun x : TMachine => (x.Image, x.Mem, x.Cores, x.Kernel, x.Input, x.Events, x.Stopped)) (fun y => ⟨y.1, y.2.1, y.2.2.1, y.2.2.2.1, y.2.2.2.2.1, y.2.2.2.2.2.1, y.2.2.2.2.2.2⟩) (fun _ => rfl) (OpensFs.cons rfl (by kernel_rfl) oImage (OpensFs.cons rfl (by kernel_rfl) (Opens.slice 3 Try.underlying29 (by kernel_rfl) (Opens.int Try.underlying3)) (OpensFs.cons rfl (by kernel_rfl) (Opens.slice 154 Try.underlying57 (by kernel_rfl) oCore) (OpensFs.cons rfl (by kernel_rfl) oKernel (OpensFs.cons rfl (by kernel_rfl) (Opens.slice 3 Try.underlying29 (by kernel_rfl) (Opens.int Try.underlying3)) (OpensFs.cons rfl (by kernel_rfl) (Opens.slice 109 Try.underlying22 (by kernel_rfl) oEvent) (OpensFs.one rfl (by kernel_rfl) (Opens.bool Try.underlying4))))))))
  exact h
end Go.Proofs.Ytgeoipplkjgnfaa
