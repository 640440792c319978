/-
  DERIVED. GIVEN WITH THE SEED: THE CARDS: each row of YtnaijgmfjpmpjaaGreatDoorRows.lean that lists a variable, with what it lists TIED to the program's text (the seventh form; the later family's looks); each row that meets fmt, with fmt's text TOLD by the authors' own Lean function (tested against real Go, not proved from fmt's source: count such statements apart). THE CARD IS WHAT COUNTS. Prove the row's statement (the work); the ties are given (YtnaijgmfjpmpjaaGreatDoorTie.lean); close each card by the builder's one call (the guide's Derived/Test/ToyasCard.lean, 'card_holds'). Laid BY PROGRAM, IN A SANDBOX (cutbox-door.mjs). By AI agents, Wed Nov 11 2026. No macro, syntax, notation, axiom, sorry.
-/
import Derived.Test.YtnaijgmfjpmpjaaGreatDoorRows
import GoSem.ClaimSeven
namespace Go.Proofs.YtnaijgmfjpmpjaaGreatDoor
namespace Rows

/-- THE TIED CARD OF 'lustrumlaw2.FlowApplies'. -/
def flowAppliesCard : Claim7 := { stood := { row := flowAppliesRow, standIns := [], harness := (true, "d4e13b06cff8d93e44e5b8bf3c65d303caaaf624cc27d9345aa694bcba34411f"), looks := true }, kinds := [], alts := [], laidByText := true, laidKinds := [.handle, .sentinel, .sentinel, .sentinel, .sentinel, .sentinel, .sentinel, .sentinel, .sentinel, .sentinel, .widerDeep], laidTests := true, laidLooks := .later }
def FlowAppliesCardSaid : Prop := Claim7.holds Tryz.pinned (.plain (OpenSpec.ofChange flowAppliesSpec)) flowAppliesCard

/-- THE TIED CARD OF 'lustrumlaw2.SlimSame'. -/
def slimSameCard : Claim7 := { stood := { row := slimSameRow, standIns := [], harness := (true, "d4e13b06cff8d93e44e5b8bf3c65d303caaaf624cc27d9345aa694bcba34411f"), looks := true }, kinds := [], alts := [], laidByText := true, laidKinds := [.sentinel, .sentinel, .sentinel, .sentinel, .sentinel, .widerDeep], laidTests := true, laidLooks := .later }
def SlimSameCardSaid : Prop := Claim7.holds Tryz.pinned (.plain (OpenSpec.ofChange slimSameSpec)) slimSameCard

/-- THE SECOND FORM's CARD OF 'lustrumlaw2.FlowApplies'. -/
def flowAppliesUptoCard : Claim7 := { stood := { row := flowAppliesUptoRow, standIns := [], harness := (true, "d4e13b06cff8d93e44e5b8bf3c65d303caaaf624cc27d9345aa694bcba34411f"), looks := true }, kinds := [], alts := [], laidByText := true, laidKinds := [.handle, .sentinel, .sentinel, .sentinel, .sentinel, .sentinel, .sentinel, .sentinel, .sentinel, .sentinel, .widerDeep], laidTests := true, laidLooks := .later }
def FlowAppliesUptoCardSaid : Prop := Claim7.holds Tryz.pinned (.plain (OpenSpec.upto flowAppliesSpec)) flowAppliesUptoCard

/-- THE SECOND FORM's CARD OF 'lustrumlaw2.SlimSame'. -/
def slimSameUptoCard : Claim7 := { stood := { row := slimSameUptoRow, standIns := [], harness := (true, "d4e13b06cff8d93e44e5b8bf3c65d303caaaf624cc27d9345aa694bcba34411f"), looks := true }, kinds := [], alts := [], laidByText := true, laidKinds := [.sentinel, .sentinel, .sentinel, .sentinel, .sentinel, .widerDeep], laidTests := true, laidLooks := .later }
def SlimSameUptoCardSaid : Prop := Claim7.holds Tryz.pinned (.plain (OpenSpec.upto slimSameSpec)) slimSameUptoCard
end Rows
end Go.Proofs.YtnaijgmfjpmpjaaGreatDoor
