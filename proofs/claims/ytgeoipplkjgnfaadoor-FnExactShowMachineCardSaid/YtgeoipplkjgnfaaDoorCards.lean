/-
  DERIVED. GIVEN WITH THE SEED: THE CARDS: each row of YtgeoipplkjgnfaaDoorRows.lean that lists a variable, with what it lists TIED to the program's text (the seventh form; the later family's looks); each row that meets fmt, with fmt's text TOLD by the authors' own Lean function (tested against real Go, not proved from fmt's source: count such statements apart). THE CARD IS WHAT COUNTS. Prove the row's statement (the work); the ties are given (YtgeoipplkjgnfaaDoorTie.lean); close each card by the builder's one call (the guide's Derived/Test/ToyasCard.lean, 'card_holds'). Laid BY PROGRAM, IN A SANDBOX (cutbox-door.mjs). By AI agents, Wed Nov 11 2026. No macro, syntax, notation, axiom, sorry.
-/
import Derived.Test.YtgeoipplkjgnfaaDoorRows
import GoSem.ClaimSeven
namespace Go.Proofs.YtgeoipplkjgnfaaDoor
namespace Rows

/-- THE TIED CARD OF 'laws.FnExactShowEvent'. -/
def fnExactShowEventCard : Claim7 := { stood := { row := fnExactShowEventRow, standIns := [], harness := (true, "55adef42970eda69259d03c2fbcca88937b056372851b30f578806ef06147dcb"), looks := false }, kinds := [], alts := [], laidByText := true, laidKinds := [.data, .data, .data], laidTests := true, laidLooks := .later }
def FnExactShowEventCardSaid : Prop := Claim7.holds Tryd.pinned (.plain (OpenSpec.ofChange fnExactShowEventSpec)) fnExactShowEventCard

/-- THE TIED CARD OF 'laws.FnExactShowOutcome'. -/
def fnExactShowOutcomeCard : Claim7 := { stood := { row := fnExactShowOutcomeRow, standIns := [], harness := (true, "55adef42970eda69259d03c2fbcca88937b056372851b30f578806ef06147dcb"), looks := false }, kinds := [], alts := [], laidByText := true, laidKinds := [.data, .data, .data], laidTests := true, laidLooks := .later }
def FnExactShowOutcomeCardSaid : Prop := Claim7.holds Tryd.pinned (.plain (OpenSpec.ofChange fnExactShowOutcomeSpec)) fnExactShowOutcomeCard

/-- THE TIED CARD OF 'laws.FnExactShowMachine'. -/
def fnExactShowMachineCard : Claim7 := { stood := { row := fnExactShowMachineRow, standIns := [], harness := (true, "55adef42970eda69259d03c2fbcca88937b056372851b30f578806ef06147dcb"), looks := false }, kinds := [], alts := [], laidByText := true, laidKinds := [.data, .data, .data], laidTests := true, laidLooks := .later }
def FnExactShowMachineCardSaid : Prop := Claim7.holds Tryd.pinned (.plain (OpenSpec.ofChange fnExactShowMachineSpec)) fnExactShowMachineCard

/-- THE SECOND FORM's CARD OF 'laws.FnExactShowEvent'. -/
def fnExactShowEventUptoCard : Claim7 := { stood := { row := fnExactShowEventUptoRow, standIns := [], harness := (true, "55adef42970eda69259d03c2fbcca88937b056372851b30f578806ef06147dcb"), looks := false }, kinds := [], alts := [], laidByText := true, laidKinds := [.data, .data, .data], laidTests := true, laidLooks := .later }
def FnExactShowEventUptoCardSaid : Prop := Claim7.holds Tryd.pinned (.plain (OpenSpec.upto fnExactShowEventSpec)) fnExactShowEventUptoCard

/-- THE SECOND FORM's CARD OF 'laws.FnExactShowOutcome'. -/
def fnExactShowOutcomeUptoCard : Claim7 := { stood := { row := fnExactShowOutcomeUptoRow, standIns := [], harness := (true, "55adef42970eda69259d03c2fbcca88937b056372851b30f578806ef06147dcb"), looks := false }, kinds := [], alts := [], laidByText := true, laidKinds := [.data, .data, .data], laidTests := true, laidLooks := .later }
def FnExactShowOutcomeUptoCardSaid : Prop := Claim7.holds Tryd.pinned (.plain (OpenSpec.upto fnExactShowOutcomeSpec)) fnExactShowOutcomeUptoCard

/-- THE SECOND FORM's CARD OF 'laws.FnExactShowMachine'. -/
def fnExactShowMachineUptoCard : Claim7 := { stood := { row := fnExactShowMachineUptoRow, standIns := [], harness := (true, "55adef42970eda69259d03c2fbcca88937b056372851b30f578806ef06147dcb"), looks := false }, kinds := [], alts := [], laidByText := true, laidKinds := [.data, .data, .data], laidTests := true, laidLooks := .later }
def FnExactShowMachineUptoCardSaid : Prop := Claim7.holds Tryd.pinned (.plain (OpenSpec.upto fnExactShowMachineSpec)) fnExactShowMachineUptoCard
end Rows
end Go.Proofs.YtgeoipplkjgnfaaDoor
