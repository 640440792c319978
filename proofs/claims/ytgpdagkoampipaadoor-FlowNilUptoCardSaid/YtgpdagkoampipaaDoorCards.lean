/-
  DERIVED. GIVEN WITH THE SEED: THE CARDS: each row of YtgpdagkoampipaaDoorRows.lean that lists a variable, with what it lists TIED to the program's text (the seventh form; the later family's looks); each row that meets fmt, with fmt's text TOLD by the authors' own Lean function (tested against real Go, not proved from fmt's source: count such statements apart). THE CARD IS WHAT COUNTS. Prove the row's statement (the work); the ties are given (YtgpdagkoampipaaDoorTie.lean); close each card by the builder's one call (the guide's Derived/Test/ToyasCard.lean, 'card_holds'). Laid BY PROGRAM, IN A SANDBOX (cutbox-door.mjs). By AI agents, Wed Nov 11 2026. No macro, syntax, notation, axiom, sorry.
-/
import Derived.Test.YtgpdagkoampipaaDoorRows
import GoSem.ClaimSeven
namespace Go.Proofs.YtgpdagkoampipaaDoor
namespace Rows

/-- THE TIED CARD OF 'lustrumlaw2.FlowNil'. -/
def flowNilCard : Claim7 := { stood := { row := flowNilRow, standIns := [], harness := (true, "ab82ecb124315edd7fa17161ea3f21251988339b492fdc8b65c3121595522a2b"), looks := false }, kinds := [], alts := [], laidByText := true, laidKinds := [.sentinel, .sentinel, .sentinel, .sentinel, .sentinel, .widerDeep], laidTests := true, laidLooks := .later }
def FlowNilCardSaid : Prop := Claim7.holds Tryd.pinned (.plain (OpenSpec.ofChange flowNilSpec)) flowNilCard

/-- THE TIED CARD OF 'lustrumlaw2.FlowFby'. -/
def flowFbyCard : Claim7 := { stood := { row := flowFbyRow, standIns := [], harness := (true, "ab82ecb124315edd7fa17161ea3f21251988339b492fdc8b65c3121595522a2b"), looks := false }, kinds := [], alts := [], laidByText := true, laidKinds := [.sentinel, .sentinel, .sentinel, .sentinel, .sentinel, .widerDeep], laidTests := true, laidLooks := .later }
def FlowFbyCardSaid : Prop := Claim7.holds Tryd.pinned (.plain (OpenSpec.ofChange flowFbySpec)) flowFbyCard

/-- THE TIED CARD OF 'lustrumlaw2.FlowRetimes'. -/
def flowRetimesCard : Claim7 := { stood := { row := flowRetimesRow, standIns := [], harness := (true, "ab82ecb124315edd7fa17161ea3f21251988339b492fdc8b65c3121595522a2b"), looks := false }, kinds := [], alts := [], laidByText := true, laidKinds := [.sentinel, .sentinel, .sentinel, .sentinel, .sentinel, .widerDeep], laidTests := true, laidLooks := .later }
def FlowRetimesCardSaid : Prop := Claim7.holds Tryd.pinned (.plain (OpenSpec.ofChange flowRetimesSpec)) flowRetimesCard

/-- THE SECOND FORM's CARD OF 'lustrumlaw2.FlowNil'. -/
def flowNilUptoCard : Claim7 := { stood := { row := flowNilUptoRow, standIns := [], harness := (true, "ab82ecb124315edd7fa17161ea3f21251988339b492fdc8b65c3121595522a2b"), looks := false }, kinds := [], alts := [], laidByText := true, laidKinds := [.sentinel, .sentinel, .sentinel, .sentinel, .sentinel, .widerDeep], laidTests := true, laidLooks := .later }
def FlowNilUptoCardSaid : Prop := Claim7.holds Tryd.pinned (.plain (OpenSpec.upto flowNilSpec)) flowNilUptoCard

/-- THE SECOND FORM's CARD OF 'lustrumlaw2.FlowFby'. -/
def flowFbyUptoCard : Claim7 := { stood := { row := flowFbyUptoRow, standIns := [], harness := (true, "ab82ecb124315edd7fa17161ea3f21251988339b492fdc8b65c3121595522a2b"), looks := false }, kinds := [], alts := [], laidByText := true, laidKinds := [.sentinel, .sentinel, .sentinel, .sentinel, .sentinel, .widerDeep], laidTests := true, laidLooks := .later }
def FlowFbyUptoCardSaid : Prop := Claim7.holds Tryd.pinned (.plain (OpenSpec.upto flowFbySpec)) flowFbyUptoCard

/-- THE SECOND FORM's CARD OF 'lustrumlaw2.FlowRetimes'. -/
def flowRetimesUptoCard : Claim7 := { stood := { row := flowRetimesUptoRow, standIns := [], harness := (true, "ab82ecb124315edd7fa17161ea3f21251988339b492fdc8b65c3121595522a2b"), looks := false }, kinds := [], alts := [], laidByText := true, laidKinds := [.sentinel, .sentinel, .sentinel, .sentinel, .sentinel, .widerDeep], laidTests := true, laidLooks := .later }
def FlowRetimesUptoCardSaid : Prop := Claim7.holds Tryd.pinned (.plain (OpenSpec.upto flowRetimesSpec)) flowRetimesUptoCard
end Rows
end Go.Proofs.YtgpdagkoampipaaDoor
