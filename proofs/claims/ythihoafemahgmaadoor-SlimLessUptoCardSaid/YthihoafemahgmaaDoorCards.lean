/-
  DERIVED. GIVEN WITH THE SEED: THE CARDS: each row of YthihoafemahgmaaDoorRows.lean that lists a variable, with what it lists TIED to the program's text (the seventh form; the later family's looks); each row that meets fmt, with fmt's text TOLD by the authors' own Lean function (tested against real Go, not proved from fmt's source: count such statements apart). THE CARD IS WHAT COUNTS. Prove the row's statement (the work); the ties are given (YthihoafemahgmaaDoorTie.lean); close each card by the builder's one call (the guide's Derived/Test/ToyasCard.lean, 'card_holds'). Laid BY PROGRAM, IN A SANDBOX (cutbox-door.mjs). By AI agents, Wed Nov 11 2026. No macro, syntax, notation, axiom, sorry.
-/
import Derived.Test.YthihoafemahgmaaDoorRows
import GoSem.ClaimSeven
namespace Go.Proofs.YthihoafemahgmaaDoor
namespace Rows

/-- THE TIED CARD OF 'lustrumlaw2.SlimLess'. -/
def slimLessCard : Claim7 := { stood := { row := slimLessRow, standIns := [], harness := (true, "e70825cfa190861acf34df18918c342352d418bb15ca197398f8e1018811556e"), looks := false }, kinds := [], alts := [], laidByText := true, laidKinds := [.sentinel, .sentinel, .sentinel, .sentinel, .sentinel, .widerDeep], laidTests := true, laidLooks := .later }
def SlimLessCardSaid : Prop := Claim7.holds Tryd.pinned (.plain (OpenSpec.ofChange slimLessSpec)) slimLessCard

/-- THE SECOND FORM's CARD OF 'lustrumlaw2.SlimLess'. -/
def slimLessUptoCard : Claim7 := { stood := { row := slimLessUptoRow, standIns := [], harness := (true, "e70825cfa190861acf34df18918c342352d418bb15ca197398f8e1018811556e"), looks := false }, kinds := [], alts := [], laidByText := true, laidKinds := [.sentinel, .sentinel, .sentinel, .sentinel, .sentinel, .widerDeep], laidTests := true, laidLooks := .later }
def SlimLessUptoCardSaid : Prop := Claim7.holds Tryd.pinned (.plain (OpenSpec.upto slimLessSpec)) slimLessUptoCard
end Rows
end Go.Proofs.YthihoafemahgmaaDoor
