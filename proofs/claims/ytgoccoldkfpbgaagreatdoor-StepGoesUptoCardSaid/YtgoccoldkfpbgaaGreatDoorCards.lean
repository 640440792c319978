/-
  DERIVED. GIVEN WITH THE SEED: THE CARDS: each row of YtgoccoldkfpbgaaGreatDoorRows.lean that lists a variable, with what it lists TIED to the program's text (the seventh form; the later family's looks); each row that meets fmt, with fmt's text TOLD by the authors' own Lean function (tested against real Go, not proved from fmt's source: count such statements apart). THE CARD IS WHAT COUNTS. Prove the row's statement (the work); the ties are given (YtgoccoldkfpbgaaGreatDoorTie.lean); close each card by the builder's one call (the guide's Derived/Test/ToyasCard.lean, 'card_holds'). Laid BY PROGRAM, IN A SANDBOX (cutbox-door.mjs). By AI agents, Wed Nov 11 2026. No macro, syntax, notation, axiom, sorry.
-/
import Derived.Test.YtgoccoldkfpbgaaGreatDoorRows
import GoSem.ClaimSeven
namespace Go.Proofs.YtgoccoldkfpbgaaGreatDoor
namespace Rows

/-- THE TIED CARD OF 'lustrumlaw2.FlowRuns'. -/
def flowRunsCard : Claim7 := { stood := { row := flowRunsRow, standIns := [], harness := (true, "ca9935108b43da08cb4aec11b71a7d535e86d8d2cde38829a5f8ca0d7647ce1e"), looks := true }, kinds := [], alts := [], laidByText := true, laidKinds := [.handle, .sentinel, .sentinel, .sentinel, .sentinel, .sentinel, .sentinel, .sentinel, .sentinel, .sentinel, .widerDeep], laidTests := true, laidLooks := .later }
def FlowRunsCardSaid : Prop := Claim7.holds Tryz.pinned (.plain (OpenSpec.ofChange flowRunsSpec)) flowRunsCard

/-- THE TIED CARD OF 'lustrumlaw2.StepGoes'. -/
def stepGoesCard : Claim7 := { stood := { row := stepGoesRow, standIns := [], harness := (true, "ca9935108b43da08cb4aec11b71a7d535e86d8d2cde38829a5f8ca0d7647ce1e"), looks := true }, kinds := [], alts := [], laidByText := true, laidKinds := [.handle, .sentinel, .sentinel, .sentinel, .sentinel, .sentinel, .sentinel, .sentinel, .sentinel, .sentinel, .widerDeep], laidTests := true, laidLooks := .later }
def StepGoesCardSaid : Prop := Claim7.holds Tryz.pinned (.plain (OpenSpec.ofChange stepGoesSpec)) stepGoesCard

/-- THE SECOND FORM's CARD OF 'lustrumlaw2.FlowRuns'. -/
def flowRunsUptoCard : Claim7 := { stood := { row := flowRunsUptoRow, standIns := [], harness := (true, "ca9935108b43da08cb4aec11b71a7d535e86d8d2cde38829a5f8ca0d7647ce1e"), looks := true }, kinds := [], alts := [], laidByText := true, laidKinds := [.handle, .sentinel, .sentinel, .sentinel, .sentinel, .sentinel, .sentinel, .sentinel, .sentinel, .sentinel, .widerDeep], laidTests := true, laidLooks := .later }
def FlowRunsUptoCardSaid : Prop := Claim7.holds Tryz.pinned (.plain (OpenSpec.upto flowRunsSpec)) flowRunsUptoCard

/-- THE SECOND FORM's CARD OF 'lustrumlaw2.StepGoes'. -/
def stepGoesUptoCard : Claim7 := { stood := { row := stepGoesUptoRow, standIns := [], harness := (true, "ca9935108b43da08cb4aec11b71a7d535e86d8d2cde38829a5f8ca0d7647ce1e"), looks := true }, kinds := [], alts := [], laidByText := true, laidKinds := [.handle, .sentinel, .sentinel, .sentinel, .sentinel, .sentinel, .sentinel, .sentinel, .sentinel, .sentinel, .widerDeep], laidTests := true, laidLooks := .later }
def StepGoesUptoCardSaid : Prop := Claim7.holds Tryz.pinned (.plain (OpenSpec.upto stepGoesSpec)) stepGoesUptoCard
end Rows
end Go.Proofs.YtgoccoldkfpbgaaGreatDoor
