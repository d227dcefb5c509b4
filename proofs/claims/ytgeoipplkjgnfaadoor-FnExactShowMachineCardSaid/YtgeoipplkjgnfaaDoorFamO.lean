import Derived.Test.YtgeoipplkjgnfaaDoorD12
set_option linter.unusedVariables false
set_option linter.unusedSimpArgs false
set_option maxRecDepth 100000
set_option maxHeartbeats 4000000
namespace Go.Proofs.YtgeoipplkjgnfaaDoor.E

theorem oBools : OpD Tryd.prog 41 (fun xs : List Bool => [D.l 1 (boolsD xs)]) (fun xs => xs.length ≤ maxLen ∧ ∀ x ∈ xs, True) :=
  OpD.slice 1 Tryd.underlying41 (by kernel_rfl) (Nat.le_refl _) (OpD.bool Tryd.underlying4) (fun _ => rfl)
theorem oEvents : OpD Tryd.prog 44 (fun xs : List Event => [D.l 3 (eventsD xs)]) (fun xs => xs.length ≤ maxLen ∧ ∀ x ∈ xs, evOk x) :=
  OpD.slice 3 Tryd.underlying44 (by kernel_rfl) (by decide) oEvent (fun _ => rfl)
def wfCore (x : Core) : Prop := (x.regs.length ≤ maxLen ∧ ∀ z ∈ x.regs, (Lit.int .i64 z).wf = true) ∧ (Lit.int .i64 x.pc).wf = true ∧ (Lit.int .i64 x.process).wf = true
theorem oCore : OpD Tryd.prog 82 coreD wfCore := by
  refine OpD.struct (fun y : (List Int) × Int × Int => ⟨y.1, y.2.1, y.2.2⟩) Tryd.underlying82 (f2 := fun y => [D.l 1 (intsD y.1)] ++ ([.v (.int .i64 y.2.1)] ++ ([.v (.int .i64 y.2.2)]))) (Q2 := fun y => (y.1.length ≤ maxLen ∧ ∀ z ∈ y.1, (Lit.int .i64 z).wf = true) ∧ (Lit.int .i64 y.2.1).wf = true ∧ (Lit.int .i64 y.2.2).wf = true) (fun y => rfl) (fun y => by kernel_rfl) ?_ ?_
  · exact OpDs.consT 1 oInts (fun y => rfl) (by decide) (OpDs.consT 1 (OpD.int Tryd.underlying3) (fun y => rfl) (by decide) (OpDs.oneT (OpD.int Tryd.underlying3) (fun y => by first | exact Nat.le_refl _ | decide) rfl rfl) rfl rfl) rfl rfl
  · intro y h; exact h
theorem oCores : OpD Tryd.prog 39 (fun xs : List Core => [D.l 3 (coresD xs)]) (fun xs => xs.length ≤ maxLen ∧ ∀ x ∈ xs, wfCore x) :=
  OpD.slice 3 Tryd.underlying39 (by kernel_rfl) (by decide) oCore (fun _ => rfl)
def wfGate (x : Gate) : Prop := (Lit.int .i64 x.owner).wf = true ∧ (x.waits.length ≤ maxLen ∧ ∀ z ∈ x.waits, (Lit.int .i64 z).wf = true) ∧ (x.queues.length ≤ maxLen ∧ ∀ z ∈ x.queues, (Lit.int .i64 z).wf = true)
theorem oGate : OpD Tryd.prog 98 gateD wfGate := by
  refine OpD.struct (fun y : Int × (List Int) × (List Int) => ⟨y.1, y.2.1, y.2.2⟩) Tryd.underlying98 (f2 := fun y => [.v (.int .i64 y.1)] ++ ([D.l 1 (intsD y.2.1)] ++ ([D.l 1 (intsD y.2.2)]))) (Q2 := fun y => (Lit.int .i64 y.1).wf = true ∧ (y.2.1.length ≤ maxLen ∧ ∀ z ∈ y.2.1, (Lit.int .i64 z).wf = true) ∧ (y.2.2.length ≤ maxLen ∧ ∀ z ∈ y.2.2, (Lit.int .i64 z).wf = true)) (fun y => rfl) (fun y => by kernel_rfl) ?_ ?_
  · exact OpDs.consT 1 (OpD.int Tryd.underlying3) (fun y => rfl) (by decide) (OpDs.consT 1 oInts (fun y => rfl) (by decide) (OpDs.oneT oInts (fun y => by first | exact Nat.le_refl _ | decide) rfl rfl) rfl rfl) rfl rfl
  · intro y h; exact h
theorem oGates : OpD Tryd.prog 40 (fun xs : List Gate => [D.l 3 (gatesD xs)]) (fun xs => xs.length ≤ maxLen ∧ ∀ x ∈ xs, wfGate x) :=
  OpD.slice 3 Tryd.underlying40 (by kernel_rfl) (by decide) oGate (fun _ => rfl)
def wfImage (x : Image) : Prop := (x.text.length ≤ maxLen ∧ ∀ z ∈ x.text, (Lit.int .i64 z).wf = true) ∧ (x.starts.length ≤ maxLen ∧ ∀ z ∈ x.starts, (Lit.int .i64 z).wf = true) ∧ (Lit.int .i64 x.size).wf = true
theorem oImage : OpD Tryd.prog 38 imageD wfImage := by
  refine OpD.struct (fun y : (List Int) × (List Int) × Int => ⟨y.1, y.2.1, y.2.2⟩) Tryd.underlying38 (f2 := fun y => [D.l 1 (intsD y.1)] ++ ([D.l 1 (intsD y.2.1)] ++ ([.v (.int .i64 y.2.2)]))) (Q2 := fun y => (y.1.length ≤ maxLen ∧ ∀ z ∈ y.1, (Lit.int .i64 z).wf = true) ∧ (y.2.1.length ≤ maxLen ∧ ∀ z ∈ y.2.1, (Lit.int .i64 z).wf = true) ∧ (Lit.int .i64 y.2.2).wf = true) (fun y => rfl) (fun y => by kernel_rfl) ?_ ?_
  · exact OpDs.consT 1 oInts (fun y => rfl) (by decide) (OpDs.consT 1 oInts (fun y => rfl) (by decide) (OpDs.oneT (OpD.int Tryd.underlying3) (fun y => by first | exact Nat.le_refl _ | decide) rfl rfl) rfl rfl) rfl rfl
  · intro y h; exact h
def wfKernel (x : Kernel) : Prop := (x.gates.length ≤ maxLen ∧ ∀ z ∈ x.gates, wfGate z) ∧ (x.ready.length ≤ maxLen ∧ ∀ z ∈ x.ready, (Lit.int .i64 z).wf = true) ∧ (x.saved.length ≤ maxLen ∧ ∀ z ∈ x.saved, wfCore z) ∧ (x.over.length ≤ maxLen ∧ ∀ z ∈ x.over, True)
theorem oKernel : OpD Tryd.prog 43 kernelD wfKernel := by
  refine OpD.struct (fun y : (List Gate) × (List Int) × (List Core) × (List Bool) => ⟨y.1, y.2.1, y.2.2.1, y.2.2.2⟩) Tryd.underlying43 (f2 := fun y => [D.l 3 (gatesD y.1)] ++ ([D.l 1 (intsD y.2.1)] ++ ([D.l 3 (coresD y.2.2.1)] ++ ([D.l 1 (boolsD y.2.2.2)])))) (Q2 := fun y => (y.1.length ≤ maxLen ∧ ∀ z ∈ y.1, wfGate z) ∧ (y.2.1.length ≤ maxLen ∧ ∀ z ∈ y.2.1, (Lit.int .i64 z).wf = true) ∧ (y.2.2.1.length ≤ maxLen ∧ ∀ z ∈ y.2.2.1, wfCore z) ∧ (y.2.2.2.length ≤ maxLen ∧ ∀ z ∈ y.2.2.2, True)) (fun y => rfl) (fun y => by kernel_rfl) ?_ ?_
  · exact OpDs.consT 1 oGates (fun y => rfl) (by decide) (OpDs.consT 1 oInts (fun y => rfl) (by decide) (OpDs.consT 1 oCores (fun y => rfl) (by decide) (OpDs.oneT oBools (fun y => by first | exact Nat.le_refl _ | decide) rfl rfl) rfl rfl) rfl rfl) rfl rfl
  · intro y h; exact h
def wfMachine (x : Machine) : Prop := wfImage x.image ∧ (x.mem.length ≤ maxLen ∧ ∀ z ∈ x.mem, (Lit.int .i64 z).wf = true) ∧ (x.cores.length ≤ maxLen ∧ ∀ z ∈ x.cores, wfCore z) ∧ wfKernel x.kernel ∧ (x.input.length ≤ maxLen ∧ ∀ z ∈ x.input, (Lit.int .i64 z).wf = true) ∧ (x.events.length ≤ maxLen ∧ ∀ z ∈ x.events, evOk z) ∧ True
theorem oMachine : OpD Tryd.prog 46 machineD wfMachine := by
  refine OpD.struct (fun y : Image × (List Int) × (List Core) × Kernel × (List Int) × (List Event) × Bool => ⟨y.1, y.2.1, y.2.2.1, y.2.2.2.1, y.2.2.2.2.1, y.2.2.2.2.2.1, y.2.2.2.2.2.2⟩) Tryd.underlying46 (f2 := fun y => imageD y.1 ++ ([D.l 1 (intsD y.2.1)] ++ ([D.l 3 (coresD y.2.2.1)] ++ (kernelD y.2.2.2.1 ++ ([D.l 1 (intsD y.2.2.2.2.1)] ++ ([D.l 3 (eventsD y.2.2.2.2.2.1)] ++ ([.v (.bool y.2.2.2.2.2.2)]))))))) (Q2 := fun y => wfImage y.1 ∧ (y.2.1.length ≤ maxLen ∧ ∀ z ∈ y.2.1, (Lit.int .i64 z).wf = true) ∧ (y.2.2.1.length ≤ maxLen ∧ ∀ z ∈ y.2.2.1, wfCore z) ∧ wfKernel y.2.2.2.1 ∧ (y.2.2.2.2.1.length ≤ maxLen ∧ ∀ z ∈ y.2.2.2.2.1, (Lit.int .i64 z).wf = true) ∧ (y.2.2.2.2.2.1.length ≤ maxLen ∧ ∀ z ∈ y.2.2.2.2.2.1, evOk z) ∧ True) (fun y => rfl) (fun y => by kernel_rfl) ?_ ?_
  · exact OpDs.consT 3 oImage (fun y => rfl) (by decide) (OpDs.consT 1 oInts (fun y => rfl) (by decide) (OpDs.consT 1 oCores (fun y => rfl) (by decide) (OpDs.consT 4 oKernel (fun y => rfl) (by decide) (OpDs.consT 1 oInts (fun y => rfl) (by decide) (OpDs.consT 1 oEvents (fun y => rfl) (by decide) (OpDs.oneT (OpD.bool Tryd.underlying4) (fun y => by first | exact Nat.le_refl _ | decide) rfl rfl) rfl rfl) rfl rfl) rfl rfl) rfl rfl) rfl rfl) rfl rfl
  · intro y h; exact h
theorem wfCore_bg {x : Core} (h : wfCore x) : bgCore x := h.1.1
theorem wfGate_bg {x : Gate} (h : wfGate x) : bgGate x := ⟨h.2.1.1, h.2.2.1⟩
theorem wfImage_bg {x : Image} (h : wfImage x) : bgImage x := ⟨h.1.1, h.2.1.1⟩
theorem wfKernel_bg {x : Kernel} (h : wfKernel x) : bgKernel x := ⟨⟨h.1.1, fun y hy => wfGate_bg (h.1.2 y hy)⟩, h.2.1.1, ⟨h.2.2.1.1, fun y hy => wfCore_bg (h.2.2.1.2 y hy)⟩, h.2.2.2.1⟩
theorem wfMachine_ok {x : Machine} (h : wfMachine x) : okMachine x :=
  ⟨⟨wfImage_bg h.1, h.2.1.1, ⟨h.2.2.1.1, fun y hy => wfCore_bg (h.2.2.1.2 y hy)⟩, wfKernel_bg h.2.2.2.1, h.2.2.2.2.1.1, h.2.2.2.2.2.1.1, fun _ _ => trivial⟩, h.2.2.2.2.2.1.2⟩
theorem lawShowMachine_row (m : Machine) (h : wfMachine m) : CallOk Tryd.prog 5 [.agg ((machineD m).map ofD)] (.s (.one (bV true))) [none] := lawShowMachine_ok m (wfMachine_ok h)
end Go.Proofs.YtgeoipplkjgnfaaDoor.E
