/-
  DERIVED. GIVEN WITH THE SEED: THE CARDS: each row of YtafapnolamcdmaaGreatDoorRows.lean that lists a variable, with what it lists TIED to the program's text (the seventh form; the later family's looks); each row that meets fmt, with fmt's text TOLD by the authors' own Lean function (tested against real Go, not proved from fmt's source: count such statements apart). THE CARD IS WHAT COUNTS. Prove the row's statement (the work); the ties are given (YtafapnolamcdmaaGreatDoorTie.lean); close each card by the builder's one call (the guide's Derived/Test/ToyasCard.lean, 'card_holds'). Laid BY PROGRAM, IN A SANDBOX (cutbox-door.mjs). By AI agents, Wed Nov 11 2026. No macro, syntax, notation, axiom, sorry.
-/
import Derived.Test.YtafapnolamcdmaaGreatDoorRows
import GoSem.ClaimSeven
namespace Go.Proofs.YtafapnolamcdmaaGreatDoor
namespace Rows

/-- THE TIED CARD OF 'lustrumlaw2.ReachFinds'. -/
def reachFindsCard : Claim7 := { stood := { row := reachFindsRow, standIns := [], harness := (true, "4d8739149b817b079dcc0bf76a11185e56156393d0fe595c4409442484bace6f"), looks := true }, kinds := [], alts := [], laidByText := true, laidKinds := [.handle, .sentinel, .sentinel, .sentinel, .sentinel, .sentinel, .sentinel, .sentinel, .sentinel, .sentinel, .widerDeep], laidTests := true, laidLooks := .later }
def ReachFindsCardSaid : Prop := Claim7.holds Tryz.pinned (.plain (OpenSpec.ofChange reachFindsSpec)) reachFindsCard

/-- THE SECOND FORM's CARD OF 'lustrumlaw2.ReachFinds'. -/
def reachFindsUptoCard : Claim7 := { stood := { row := reachFindsUptoRow, standIns := [], harness := (true, "4d8739149b817b079dcc0bf76a11185e56156393d0fe595c4409442484bace6f"), looks := true }, kinds := [], alts := [], laidByText := true, laidKinds := [.handle, .sentinel, .sentinel, .sentinel, .sentinel, .sentinel, .sentinel, .sentinel, .sentinel, .sentinel, .widerDeep], laidTests := true, laidLooks := .later }
def ReachFindsUptoCardSaid : Prop := Claim7.holds Tryz.pinned (.plain (OpenSpec.upto reachFindsSpec)) reachFindsUptoCard
end Rows
end Go.Proofs.YtafapnolamcdmaaGreatDoor
