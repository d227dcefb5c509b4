import Derived.Test.YtgeoipplkjgnfaaDoorEng27
import Derived.Test.YtgeoipplkjgnfaaDoorShelf
set_option linter.unusedVariables false
set_option linter.unusedSimpArgs false
set_option maxRecDepth 100000
namespace Go.Proofs.YtgeoipplkjgnfaaDoor.E
theorem ti3 : ti Tryd.prog 3 = some ⟨.int .i64, 1, 8, false, [.int .i64 0]⟩ := by kernel_rfl
theorem ni3 : notInt Tryd.prog 3 = false := by kernel_rfl
theorem ti4 : ti Tryd.prog 4 = some ⟨.bool, 1, 1, false, [.bool false]⟩ := by kernel_rfl
theorem ni4 : notInt Tryd.prog 4 = true := by kernel_rfl
theorem ti5 : ti Tryd.prog 5 = some ⟨.int .u8, 1, 1, false, [.int .u8 0]⟩ := by kernel_rfl
theorem ni5 : notInt Tryd.prog 5 = false := by kernel_rfl
theorem ti9 : ti Tryd.prog 9 = some ⟨.str, 1, 16, false, [.string { data := { toList := [] } }]⟩ := by kernel_rfl
theorem ni9 : notInt Tryd.prog 9 = true := by kernel_rfl
theorem ti23 : ti Tryd.prog 23 = some ⟨.st [(0, 1, false), (1, 1, false), (2, 1, false)], 3, 24, true, [.int .i64 0, .int .i64 0, .int .i64 0]⟩ := by kernel_rfl
theorem ni23 : notInt Tryd.prog 23 = true := by kernel_rfl
theorem ti25 : ti Tryd.prog 25 = some ⟨.st [(0, 1, false), (1, 1, false), (2, 1, false)], 3, 24, true, [.int .i64 0, .int .i64 0, .int .i64 0]⟩ := by kernel_rfl
theorem ni25 : notInt Tryd.prog 25 = true := by kernel_rfl
theorem ti60 : ti Tryd.prog 60 = some ⟨.sl 9, 1, 24, false, [.slice none 0 0]⟩ := by kernel_rfl
theorem ni60 : notInt Tryd.prog 60 = true := by kernel_rfl
theorem ti75 : ti Tryd.prog 75 = some ⟨.sl 5, 1, 24, false, [.slice none 0 0]⟩ := by kernel_rfl
theorem ni75 : notInt Tryd.prog 75 = true := by kernel_rfl
attribute [go_sem] ti3 ni3 ti4 ni4 ti5 ni5 ti9 ni9 ti23 ni23 ti25 ni25 ti60 ni60 ti75 ni75
theorem mixedT : Tryd.prog.follows .mixedOrders = true := by kernel_rfl
end Go.Proofs.YtgeoipplkjgnfaaDoor.E
