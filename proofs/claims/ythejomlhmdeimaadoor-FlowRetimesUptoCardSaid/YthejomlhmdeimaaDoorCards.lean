/-
  DERIVED. GIVEN WITH THE SEED: THE CARDS: each row of YthejomlhmdeimaaDoorRows.lean that lists a variable, with what it lists TIED to the program's text (the seventh form; the later family's looks); each row that meets fmt, with fmt's text TOLD by the authors' own Lean function (tested against real Go, not proved from fmt's source: count such statements apart). THE CARD IS WHAT COUNTS. Prove the row's statement (the work); the ties are given (YthejomlhmdeimaaDoorTie.lean); close each card by the builder's one call (the guide's Derived/Test/ToyasCard.lean, 'card_holds'). Laid BY PROGRAM, IN A SANDBOX (cutbox-door.mjs). By AI agents, Wed Nov 11 2026. No macro, syntax, notation, axiom, sorry.
-/
import Derived.Test.YthejomlhmdeimaaDoorRows
import GoSem.ClaimSeven
namespace Go.Proofs.YthejomlhmdeimaaDoor
namespace Rows

/-- THE TIED CARD OF 'lustrumlaw2.FlowFby'. -/
def flowFbyCard : Claim7 := { stood := { row := flowFbyRow, standIns := [], harness := (true, "0338cc056e405bb64031396035454dcf68ef83035c2e2da531e9549ecc5db3ed"), looks := false }, kinds := [], alts := [], laidByText := true, laidKinds := [.sentinel, .sentinel, .sentinel, .sentinel, .sentinel, .widerDeep], laidTests := true, laidLooks := .later }
def FlowFbyCardSaid : Prop := Claim7.holds Tryd.pinned (.plain (OpenSpec.ofChange flowFbySpec)) flowFbyCard

/-- THE TIED CARD OF 'lustrumlaw2.FlowRetimes'. -/
def flowRetimesCard : Claim7 := { stood := { row := flowRetimesRow, standIns := [], harness := (true, "0338cc056e405bb64031396035454dcf68ef83035c2e2da531e9549ecc5db3ed"), looks := false }, kinds := [], alts := [], laidByText := true, laidKinds := [.sentinel, .sentinel, .sentinel, .sentinel, .sentinel, .widerDeep], laidTests := true, laidLooks := .later }
def FlowRetimesCardSaid : Prop := Claim7.holds Tryd.pinned (.plain (OpenSpec.ofChange flowRetimesSpec)) flowRetimesCard

/-- THE TIED CARD OF 'lustrumlaw2.StepAgain'. -/
def stepAgainCard : Claim7 := { stood := { row := stepAgainRow, standIns := [], harness := (true, "0338cc056e405bb64031396035454dcf68ef83035c2e2da531e9549ecc5db3ed"), looks := false }, kinds := [], alts := [], laidByText := true, laidKinds := [.sentinel, .sentinel, .sentinel, .sentinel, .sentinel, .widerDeep], laidTests := true, laidLooks := .later }
def StepAgainCardSaid : Prop := Claim7.holds Tryd.pinned (.plain (OpenSpec.ofChange stepAgainSpec)) stepAgainCard

/-- THE SECOND FORM's CARD OF 'lustrumlaw2.FlowFby'. -/
def flowFbyUptoCard : Claim7 := { stood := { row := flowFbyUptoRow, standIns := [], harness := (true, "0338cc056e405bb64031396035454dcf68ef83035c2e2da531e9549ecc5db3ed"), looks := false }, kinds := [], alts := [], laidByText := true, laidKinds := [.sentinel, .sentinel, .sentinel, .sentinel, .sentinel, .widerDeep], laidTests := true, laidLooks := .later }
def FlowFbyUptoCardSaid : Prop := Claim7.holds Tryd.pinned (.plain (OpenSpec.upto flowFbySpec)) flowFbyUptoCard

/-- THE SECOND FORM's CARD OF 'lustrumlaw2.FlowRetimes'. -/
def flowRetimesUptoCard : Claim7 := { stood := { row := flowRetimesUptoRow, standIns := [], harness := (true, "0338cc056e405bb64031396035454dcf68ef83035c2e2da531e9549ecc5db3ed"), looks := false }, kinds := [], alts := [], laidByText := true, laidKinds := [.sentinel, .sentinel, .sentinel, .sentinel, .sentinel, .widerDeep], laidTests := true, laidLooks := .later }
def FlowRetimesUptoCardSaid : Prop := Claim7.holds Tryd.pinned (.plain (OpenSpec.upto flowRetimesSpec)) flowRetimesUptoCard

/-- THE SECOND FORM's CARD OF 'lustrumlaw2.StepAgain'. -/
def stepAgainUptoCard : Claim7 := { stood := { row := stepAgainUptoRow, standIns := [], harness := (true, "0338cc056e405bb64031396035454dcf68ef83035c2e2da531e9549ecc5db3ed"), looks := false }, kinds := [], alts := [], laidByText := true, laidKinds := [.sentinel, .sentinel, .sentinel, .sentinel, .sentinel, .widerDeep], laidTests := true, laidLooks := .later }
def StepAgainUptoCardSaid : Prop := Claim7.holds Tryd.pinned (.plain (OpenSpec.upto stepAgainSpec)) stepAgainUptoCard
end Rows
end Go.Proofs.YthejomlhmdeimaaDoor
