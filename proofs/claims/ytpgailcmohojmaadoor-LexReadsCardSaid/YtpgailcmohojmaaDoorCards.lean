/-
  DERIVED. GIVEN WITH THE SEED: THE CARDS: each row of YtpgailcmohojmaaDoorRows.lean that lists a variable, with what it lists TIED to the program's text (the seventh form; the later family's looks); each row that meets fmt, with fmt's text TOLD by the authors' own Lean function (tested against real Go, not proved from fmt's source: count such statements apart). THE CARD IS WHAT COUNTS. Prove the row's statement (the work); the ties are given (YtpgailcmohojmaaDoorTie.lean); close each card by the builder's one call (the guide's Derived/Test/ToyasCard.lean, 'card_holds'). Laid BY PROGRAM, IN A SANDBOX (cutbox-door.mjs). By AI agents, Wed Nov 11 2026. No macro, syntax, notation, axiom, sorry.
-/
import Derived.Test.YtpgailcmohojmaaDoorRows
import GoSem.ClaimSeven
namespace Go.Proofs.YtpgailcmohojmaaDoor
namespace Rows

/-- THE TIED CARD OF 'lustrumlaw1.Names'. -/
def namesCard : Claim7 := { stood := { row := namesRow, standIns := [], harness := (true, "8d169da392387dae1ff0abc47740cc930f958dd9ea6e0ed5a089e98972a0c0aa"), looks := true }, kinds := [], alts := [], laidByText := true, laidKinds := [.handle, .sentinel, .sentinel, .sentinel, .sentinel, .sentinel, .sentinel, .sentinel, .sentinel, .sentinel], laidTests := true, laidLooks := .later }
def NamesCardSaid : Prop := Claim7.holds Tryd.pinned (.plain (OpenSpec.ofChange namesSpec)) namesCard

/-- THE TIED CARD OF 'lustrumlaw2.SlimTwice'. -/
def slimTwiceCard : Claim7 := { stood := { row := slimTwiceRow, standIns := [], harness := (true, "8d169da392387dae1ff0abc47740cc930f958dd9ea6e0ed5a089e98972a0c0aa"), looks := true }, kinds := [], alts := [], laidByText := true, laidKinds := [.sentinel, .sentinel, .sentinel, .sentinel, .sentinel, .widerDeep], laidTests := true, laidLooks := .later }
def SlimTwiceCardSaid : Prop := Claim7.holds Tryd.pinned (.plain (OpenSpec.ofChange slimTwiceSpec)) slimTwiceCard

/-- THE TIED CARD OF 'lustrumlaw2.OrderIs'. -/
def orderIsCard : Claim7 := { stood := { row := orderIsRow, standIns := [], harness := (true, "8d169da392387dae1ff0abc47740cc930f958dd9ea6e0ed5a089e98972a0c0aa"), looks := true }, kinds := [], alts := [], laidByText := true, laidKinds := [.handle, .sentinel, .sentinel, .sentinel, .sentinel, .sentinel, .sentinel, .sentinel, .sentinel, .sentinel, .widerDeep], laidTests := true, laidLooks := .later }
def OrderIsCardSaid : Prop := Claim7.holds Tryd.pinned (.plain (OpenSpec.ofChange orderIsSpec)) orderIsCard

/-- THE TIED CARD OF 'lustrumlaw2.OrderHolds'. -/
def orderHoldsCard : Claim7 := { stood := { row := orderHoldsRow, standIns := [], harness := (true, "8d169da392387dae1ff0abc47740cc930f958dd9ea6e0ed5a089e98972a0c0aa"), looks := true }, kinds := [], alts := [], laidByText := true, laidKinds := [.handle, .sentinel, .sentinel, .sentinel, .sentinel, .sentinel, .sentinel, .sentinel, .sentinel, .sentinel, .widerDeep], laidTests := true, laidLooks := .later }
def OrderHoldsCardSaid : Prop := Claim7.holds Tryd.pinned (.plain (OpenSpec.ofChange orderHoldsSpec)) orderHoldsCard

/-- THE TIED CARD OF 'lustrumlaw1.LexGaps'. -/
def lexGapsCard : Claim7 := { stood := { row := lexGapsRow, standIns := [], harness := (true, "8d169da392387dae1ff0abc47740cc930f958dd9ea6e0ed5a089e98972a0c0aa"), looks := true }, kinds := [], alts := [], laidByText := true, laidKinds := [.data, .data, .data, .sentinel, .sentinel, .sentinel, .sentinel, .widerDeep, .widerDeep], laidTests := true, laidLooks := .later }
def LexGapsCardSaid : Prop := Claim7.holds Tryd.pinned (.plain (OpenSpec.ofChange lexGapsSpec)) lexGapsCard

/-- THE TIED CARD OF 'lustrumlaw2.FlowNil'. -/
def flowNilCard : Claim7 := { stood := { row := flowNilRow, standIns := [], harness := (true, "8d169da392387dae1ff0abc47740cc930f958dd9ea6e0ed5a089e98972a0c0aa"), looks := true }, kinds := [], alts := [], laidByText := true, laidKinds := [.sentinel, .sentinel, .sentinel, .sentinel, .sentinel, .widerDeep], laidTests := true, laidLooks := .later }
def FlowNilCardSaid : Prop := Claim7.holds Tryd.pinned (.plain (OpenSpec.ofChange flowNilSpec)) flowNilCard

/-- THE TIED CARD OF 'lustrumlaw2.FlowFby'. -/
def flowFbyCard : Claim7 := { stood := { row := flowFbyRow, standIns := [], harness := (true, "8d169da392387dae1ff0abc47740cc930f958dd9ea6e0ed5a089e98972a0c0aa"), looks := true }, kinds := [], alts := [], laidByText := true, laidKinds := [.sentinel, .sentinel, .sentinel, .sentinel, .sentinel, .widerDeep], laidTests := true, laidLooks := .later }
def FlowFbyCardSaid : Prop := Claim7.holds Tryd.pinned (.plain (OpenSpec.ofChange flowFbySpec)) flowFbyCard

/-- THE TIED CARD OF 'lustrumlaw2.FlowRetimes'. -/
def flowRetimesCard : Claim7 := { stood := { row := flowRetimesRow, standIns := [], harness := (true, "8d169da392387dae1ff0abc47740cc930f958dd9ea6e0ed5a089e98972a0c0aa"), looks := true }, kinds := [], alts := [], laidByText := true, laidKinds := [.sentinel, .sentinel, .sentinel, .sentinel, .sentinel, .widerDeep], laidTests := true, laidLooks := .later }
def FlowRetimesCardSaid : Prop := Claim7.holds Tryd.pinned (.plain (OpenSpec.ofChange flowRetimesSpec)) flowRetimesCard

/-- THE TIED CARD OF 'lustrumlaw2.SlimLess'. -/
def slimLessCard : Claim7 := { stood := { row := slimLessRow, standIns := [], harness := (true, "8d169da392387dae1ff0abc47740cc930f958dd9ea6e0ed5a089e98972a0c0aa"), looks := true }, kinds := [], alts := [], laidByText := true, laidKinds := [.sentinel, .sentinel, .sentinel, .sentinel, .sentinel, .widerDeep], laidTests := true, laidLooks := .later }
def SlimLessCardSaid : Prop := Claim7.holds Tryd.pinned (.plain (OpenSpec.ofChange slimLessSpec)) slimLessCard

/-- THE TIED CARD OF 'lustrumlaw2.StepAgain'. -/
def stepAgainCard : Claim7 := { stood := { row := stepAgainRow, standIns := [], harness := (true, "8d169da392387dae1ff0abc47740cc930f958dd9ea6e0ed5a089e98972a0c0aa"), looks := true }, kinds := [], alts := [], laidByText := true, laidKinds := [.sentinel, .sentinel, .sentinel, .sentinel, .sentinel, .widerDeep], laidTests := true, laidLooks := .later }
def StepAgainCardSaid : Prop := Claim7.holds Tryd.pinned (.plain (OpenSpec.ofChange stepAgainSpec)) stepAgainCard

/-- THE TIED CARD OF 'lustrumlaw2.ReachTraces'. -/
def reachTracesCard : Claim7 := { stood := { row := reachTracesRow, standIns := [], harness := (true, "8d169da392387dae1ff0abc47740cc930f958dd9ea6e0ed5a089e98972a0c0aa"), looks := true }, kinds := [], alts := [], laidByText := true, laidKinds := [.sentinel, .sentinel, .sentinel, .sentinel, .sentinel, .widerDeep], laidTests := true, laidLooks := .later }
def ReachTracesCardSaid : Prop := Claim7.holds Tryd.pinned (.plain (OpenSpec.ofChange reachTracesSpec)) reachTracesCard

/-- THE TIED CARD OF 'lustrumlaw2.ReachMore'. -/
def reachMoreCard : Claim7 := { stood := { row := reachMoreRow, standIns := [], harness := (true, "8d169da392387dae1ff0abc47740cc930f958dd9ea6e0ed5a089e98972a0c0aa"), looks := true }, kinds := [], alts := [], laidByText := true, laidKinds := [.sentinel, .sentinel, .sentinel, .sentinel, .sentinel, .widerDeep], laidTests := true, laidLooks := .later }
def ReachMoreCardSaid : Prop := Claim7.holds Tryd.pinned (.plain (OpenSpec.ofChange reachMoreSpec)) reachMoreCard

/-- THE TIED CARD OF 'lustrumlaw1.LexReads'. -/
def lexReadsCard : Claim7 := { stood := { row := lexReadsRow, standIns := [], harness := (true, "8d169da392387dae1ff0abc47740cc930f958dd9ea6e0ed5a089e98972a0c0aa"), looks := true }, kinds := [], alts := [], laidByText := true, laidKinds := [.data, .data, .data, .handle, .sentinel, .sentinel, .sentinel, .sentinel, .sentinel, .sentinel, .sentinel, .sentinel, .sentinel, .sentinel, .sentinel, .widerDeep, .widerDeep], laidTests := true, laidLooks := .later }
def LexReadsCardSaid : Prop := Claim7.holds Tryd.pinned (.plain (OpenSpec.ofChange lexReadsSpec)) lexReadsCard

/-- THE TIED CARD OF 'lustrumlaw1.LexTexts'. -/
def lexTextsCard : Claim7 := { stood := { row := lexTextsRow, standIns := [], harness := (true, "8d169da392387dae1ff0abc47740cc930f958dd9ea6e0ed5a089e98972a0c0aa"), looks := true }, kinds := [], alts := [], laidByText := true, laidKinds := [.data, .data, .data, .handle, .sentinel, .sentinel, .sentinel, .sentinel, .sentinel, .sentinel, .sentinel, .sentinel, .sentinel, .sentinel, .sentinel, .widerDeep, .widerDeep], laidTests := true, laidLooks := .later }
def LexTextsCardSaid : Prop := Claim7.holds Tryd.pinned (.plain (OpenSpec.ofChange lexTextsSpec)) lexTextsCard

/-- THE SECOND FORM's CARD OF 'lustrumlaw1.Names'. -/
def namesUptoCard : Claim7 := { stood := { row := namesUptoRow, standIns := [], harness := (true, "8d169da392387dae1ff0abc47740cc930f958dd9ea6e0ed5a089e98972a0c0aa"), looks := true }, kinds := [], alts := [], laidByText := true, laidKinds := [.handle, .sentinel, .sentinel, .sentinel, .sentinel, .sentinel, .sentinel, .sentinel, .sentinel, .sentinel], laidTests := true, laidLooks := .later }
def NamesUptoCardSaid : Prop := Claim7.holds Tryd.pinned (.plain (OpenSpec.upto namesSpec)) namesUptoCard

/-- THE SECOND FORM's CARD OF 'lustrumlaw2.SlimTwice'. -/
def slimTwiceUptoCard : Claim7 := { stood := { row := slimTwiceUptoRow, standIns := [], harness := (true, "8d169da392387dae1ff0abc47740cc930f958dd9ea6e0ed5a089e98972a0c0aa"), looks := true }, kinds := [], alts := [], laidByText := true, laidKinds := [.sentinel, .sentinel, .sentinel, .sentinel, .sentinel, .widerDeep], laidTests := true, laidLooks := .later }
def SlimTwiceUptoCardSaid : Prop := Claim7.holds Tryd.pinned (.plain (OpenSpec.upto slimTwiceSpec)) slimTwiceUptoCard

/-- THE SECOND FORM's CARD OF 'lustrumlaw2.OrderIs'. -/
def orderIsUptoCard : Claim7 := { stood := { row := orderIsUptoRow, standIns := [], harness := (true, "8d169da392387dae1ff0abc47740cc930f958dd9ea6e0ed5a089e98972a0c0aa"), looks := true }, kinds := [], alts := [], laidByText := true, laidKinds := [.handle, .sentinel, .sentinel, .sentinel, .sentinel, .sentinel, .sentinel, .sentinel, .sentinel, .sentinel, .widerDeep], laidTests := true, laidLooks := .later }
def OrderIsUptoCardSaid : Prop := Claim7.holds Tryd.pinned (.plain (OpenSpec.upto orderIsSpec)) orderIsUptoCard

/-- THE SECOND FORM's CARD OF 'lustrumlaw2.OrderHolds'. -/
def orderHoldsUptoCard : Claim7 := { stood := { row := orderHoldsUptoRow, standIns := [], harness := (true, "8d169da392387dae1ff0abc47740cc930f958dd9ea6e0ed5a089e98972a0c0aa"), looks := true }, kinds := [], alts := [], laidByText := true, laidKinds := [.handle, .sentinel, .sentinel, .sentinel, .sentinel, .sentinel, .sentinel, .sentinel, .sentinel, .sentinel, .widerDeep], laidTests := true, laidLooks := .later }
def OrderHoldsUptoCardSaid : Prop := Claim7.holds Tryd.pinned (.plain (OpenSpec.upto orderHoldsSpec)) orderHoldsUptoCard

/-- THE SECOND FORM's CARD OF 'lustrumlaw1.LexGaps'. -/
def lexGapsUptoCard : Claim7 := { stood := { row := lexGapsUptoRow, standIns := [], harness := (true, "8d169da392387dae1ff0abc47740cc930f958dd9ea6e0ed5a089e98972a0c0aa"), looks := true }, kinds := [], alts := [], laidByText := true, laidKinds := [.data, .data, .data, .sentinel, .sentinel, .sentinel, .sentinel, .widerDeep, .widerDeep], laidTests := true, laidLooks := .later }
def LexGapsUptoCardSaid : Prop := Claim7.holds Tryd.pinned (.plain (OpenSpec.upto lexGapsSpec)) lexGapsUptoCard

/-- THE SECOND FORM's CARD OF 'lustrumlaw2.FlowNil'. -/
def flowNilUptoCard : Claim7 := { stood := { row := flowNilUptoRow, standIns := [], harness := (true, "8d169da392387dae1ff0abc47740cc930f958dd9ea6e0ed5a089e98972a0c0aa"), looks := true }, kinds := [], alts := [], laidByText := true, laidKinds := [.sentinel, .sentinel, .sentinel, .sentinel, .sentinel, .widerDeep], laidTests := true, laidLooks := .later }
def FlowNilUptoCardSaid : Prop := Claim7.holds Tryd.pinned (.plain (OpenSpec.upto flowNilSpec)) flowNilUptoCard

/-- THE SECOND FORM's CARD OF 'lustrumlaw2.FlowFby'. -/
def flowFbyUptoCard : Claim7 := { stood := { row := flowFbyUptoRow, standIns := [], harness := (true, "8d169da392387dae1ff0abc47740cc930f958dd9ea6e0ed5a089e98972a0c0aa"), looks := true }, kinds := [], alts := [], laidByText := true, laidKinds := [.sentinel, .sentinel, .sentinel, .sentinel, .sentinel, .widerDeep], laidTests := true, laidLooks := .later }
def FlowFbyUptoCardSaid : Prop := Claim7.holds Tryd.pinned (.plain (OpenSpec.upto flowFbySpec)) flowFbyUptoCard

/-- THE SECOND FORM's CARD OF 'lustrumlaw2.FlowRetimes'. -/
def flowRetimesUptoCard : Claim7 := { stood := { row := flowRetimesUptoRow, standIns := [], harness := (true, "8d169da392387dae1ff0abc47740cc930f958dd9ea6e0ed5a089e98972a0c0aa"), looks := true }, kinds := [], alts := [], laidByText := true, laidKinds := [.sentinel, .sentinel, .sentinel, .sentinel, .sentinel, .widerDeep], laidTests := true, laidLooks := .later }
def FlowRetimesUptoCardSaid : Prop := Claim7.holds Tryd.pinned (.plain (OpenSpec.upto flowRetimesSpec)) flowRetimesUptoCard

/-- THE SECOND FORM's CARD OF 'lustrumlaw2.SlimLess'. -/
def slimLessUptoCard : Claim7 := { stood := { row := slimLessUptoRow, standIns := [], harness := (true, "8d169da392387dae1ff0abc47740cc930f958dd9ea6e0ed5a089e98972a0c0aa"), looks := true }, kinds := [], alts := [], laidByText := true, laidKinds := [.sentinel, .sentinel, .sentinel, .sentinel, .sentinel, .widerDeep], laidTests := true, laidLooks := .later }
def SlimLessUptoCardSaid : Prop := Claim7.holds Tryd.pinned (.plain (OpenSpec.upto slimLessSpec)) slimLessUptoCard

/-- THE SECOND FORM's CARD OF 'lustrumlaw2.StepAgain'. -/
def stepAgainUptoCard : Claim7 := { stood := { row := stepAgainUptoRow, standIns := [], harness := (true, "8d169da392387dae1ff0abc47740cc930f958dd9ea6e0ed5a089e98972a0c0aa"), looks := true }, kinds := [], alts := [], laidByText := true, laidKinds := [.sentinel, .sentinel, .sentinel, .sentinel, .sentinel, .widerDeep], laidTests := true, laidLooks := .later }
def StepAgainUptoCardSaid : Prop := Claim7.holds Tryd.pinned (.plain (OpenSpec.upto stepAgainSpec)) stepAgainUptoCard

/-- THE SECOND FORM's CARD OF 'lustrumlaw2.ReachTraces'. -/
def reachTracesUptoCard : Claim7 := { stood := { row := reachTracesUptoRow, standIns := [], harness := (true, "8d169da392387dae1ff0abc47740cc930f958dd9ea6e0ed5a089e98972a0c0aa"), looks := true }, kinds := [], alts := [], laidByText := true, laidKinds := [.sentinel, .sentinel, .sentinel, .sentinel, .sentinel, .widerDeep], laidTests := true, laidLooks := .later }
def ReachTracesUptoCardSaid : Prop := Claim7.holds Tryd.pinned (.plain (OpenSpec.upto reachTracesSpec)) reachTracesUptoCard

/-- THE SECOND FORM's CARD OF 'lustrumlaw2.ReachMore'. -/
def reachMoreUptoCard : Claim7 := { stood := { row := reachMoreUptoRow, standIns := [], harness := (true, "8d169da392387dae1ff0abc47740cc930f958dd9ea6e0ed5a089e98972a0c0aa"), looks := true }, kinds := [], alts := [], laidByText := true, laidKinds := [.sentinel, .sentinel, .sentinel, .sentinel, .sentinel, .widerDeep], laidTests := true, laidLooks := .later }
def ReachMoreUptoCardSaid : Prop := Claim7.holds Tryd.pinned (.plain (OpenSpec.upto reachMoreSpec)) reachMoreUptoCard

/-- THE SECOND FORM's CARD OF 'lustrumlaw1.LexReads'. -/
def lexReadsUptoCard : Claim7 := { stood := { row := lexReadsUptoRow, standIns := [], harness := (true, "8d169da392387dae1ff0abc47740cc930f958dd9ea6e0ed5a089e98972a0c0aa"), looks := true }, kinds := [], alts := [], laidByText := true, laidKinds := [.data, .data, .data, .handle, .sentinel, .sentinel, .sentinel, .sentinel, .sentinel, .sentinel, .sentinel, .sentinel, .sentinel, .sentinel, .sentinel, .widerDeep, .widerDeep], laidTests := true, laidLooks := .later }
def LexReadsUptoCardSaid : Prop := Claim7.holds Tryd.pinned (.plain (OpenSpec.upto lexReadsSpec)) lexReadsUptoCard

/-- THE SECOND FORM's CARD OF 'lustrumlaw1.LexTexts'. -/
def lexTextsUptoCard : Claim7 := { stood := { row := lexTextsUptoRow, standIns := [], harness := (true, "8d169da392387dae1ff0abc47740cc930f958dd9ea6e0ed5a089e98972a0c0aa"), looks := true }, kinds := [], alts := [], laidByText := true, laidKinds := [.data, .data, .data, .handle, .sentinel, .sentinel, .sentinel, .sentinel, .sentinel, .sentinel, .sentinel, .sentinel, .sentinel, .sentinel, .sentinel, .widerDeep, .widerDeep], laidTests := true, laidLooks := .later }
def LexTextsUptoCardSaid : Prop := Claim7.holds Tryd.pinned (.plain (OpenSpec.upto lexTextsSpec)) lexTextsUptoCard
end Rows
end Go.Proofs.YtpgailcmohojmaaDoor
