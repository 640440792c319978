/-
  DERIVED. GIVEN WITH THE SEED: THE CARDS: each row of YtmeldgjlgifdhaaGreatDoorRows.lean that lists a variable, with what it lists TIED to the program's text (the seventh form; the later family's looks); each row that meets fmt, with fmt's text TOLD by the authors' own Lean function (tested against real Go, not proved from fmt's source: count such statements apart). THE CARD IS WHAT COUNTS. Prove the row's statement (the work); the ties are given (YtmeldgjlgifdhaaGreatDoorTie.lean); close each card by the builder's one call (the guide's Derived/Test/ToyasCard.lean, 'card_holds'). Laid BY PROGRAM, IN A SANDBOX (cutbox-door.mjs). By AI agents, Wed Nov 11 2026. No macro, syntax, notation, axiom, sorry.
-/
import Derived.Test.YtmeldgjlgifdhaaGreatDoorRows
import GoSem.ClaimSeven
namespace Go.Proofs.YtmeldgjlgifdhaaGreatDoor
namespace Rows

/-- THE TIED CARD OF 'lustrumlaw2.FlowApplies'. -/
def flowAppliesCard : Claim7 := { stood := { row := flowAppliesRow, standIns := [], harness := (true, "6410df33a6297a2bd3924bac9e8f01353adba281e664d9b3992ca8ac91b62e04"), looks := true }, kinds := [], alts := [], laidByText := true, laidKinds := [.handle, .sentinel, .sentinel, .sentinel, .sentinel, .sentinel, .sentinel, .sentinel, .sentinel, .sentinel, .widerDeep], laidTests := true, laidLooks := .later }
def FlowAppliesCardSaid : Prop := Claim7.holds Tryz.pinned (.plain (OpenSpec.ofChange flowAppliesSpec)) flowAppliesCard

/-- THE TIED CARD OF 'lustrumlaw2.StepLoads'. -/
def stepLoadsCard : Claim7 := { stood := { row := stepLoadsRow, standIns := [], harness := (true, "6410df33a6297a2bd3924bac9e8f01353adba281e664d9b3992ca8ac91b62e04"), looks := true }, kinds := [], alts := [], laidByText := true, laidKinds := [.handle, .sentinel, .sentinel, .sentinel, .sentinel, .sentinel, .sentinel, .sentinel, .sentinel, .sentinel, .widerDeep], laidTests := true, laidLooks := .later }
def StepLoadsCardSaid : Prop := Claim7.holds Tryz.pinned (.plain (OpenSpec.ofChange stepLoadsSpec)) stepLoadsCard

/-- THE SECOND FORM's CARD OF 'lustrumlaw2.FlowApplies'. -/
def flowAppliesUptoCard : Claim7 := { stood := { row := flowAppliesUptoRow, standIns := [], harness := (true, "6410df33a6297a2bd3924bac9e8f01353adba281e664d9b3992ca8ac91b62e04"), looks := true }, kinds := [], alts := [], laidByText := true, laidKinds := [.handle, .sentinel, .sentinel, .sentinel, .sentinel, .sentinel, .sentinel, .sentinel, .sentinel, .sentinel, .widerDeep], laidTests := true, laidLooks := .later }
def FlowAppliesUptoCardSaid : Prop := Claim7.holds Tryz.pinned (.plain (OpenSpec.upto flowAppliesSpec)) flowAppliesUptoCard

/-- THE SECOND FORM's CARD OF 'lustrumlaw2.StepLoads'. -/
def stepLoadsUptoCard : Claim7 := { stood := { row := stepLoadsUptoRow, standIns := [], harness := (true, "6410df33a6297a2bd3924bac9e8f01353adba281e664d9b3992ca8ac91b62e04"), looks := true }, kinds := [], alts := [], laidByText := true, laidKinds := [.handle, .sentinel, .sentinel, .sentinel, .sentinel, .sentinel, .sentinel, .sentinel, .sentinel, .sentinel, .widerDeep], laidTests := true, laidLooks := .later }
def StepLoadsUptoCardSaid : Prop := Claim7.holds Tryz.pinned (.plain (OpenSpec.upto stepLoadsSpec)) stepLoadsUptoCard
end Rows
end Go.Proofs.YtmeldgjlgifdhaaGreatDoor
