/-
  DERIVED. GIVEN WITH THE SEED: THE PROGRAM's TIES (one call each: nine closed facts by the kernel) AND EACH ROW's TIE, after the 31st guide's Derived/Test/Toyas{Tie, Card}.lean. No idea stands in it: it is a product of the set-up. Laid BY PROGRAM, IN A SANDBOX (cutbox-door.mjs). By AI agents, Wed Nov 11 2026. No macro, syntax, notation, axiom, sorry.
-/
import Derived.Test.YthihoafemahgmaaDoorRows
import Derived.LaidByTextLater
import Derived.SevenTiedAt
import Derived.LaidSub
import Derived.LaidOnce
namespace Go.Proofs.YthihoafemahgmaaDoor
open Go
set_option maxRecDepth 100000
theorem seatTie1 : Tryd.prog.laidByTextLater [("lustrum/api.ErrBound", Rows.laid_lustrum_api_ErrBound), ("lustrum/api.ErrShape", Rows.laid_lustrum_api_ErrShape), ("lustrum/api.ErrType", Rows.laid_lustrum_api_ErrType), ("lustrum/api.ErrCycle", Rows.laid_lustrum_api_ErrCycle), ("lustrum/api.ErrFirst", Rows.laid_lustrum_api_ErrFirst), ("lustrum/tree.levels", Rows.laid_lustrum_tree_levels)] [.sentinel, .sentinel, .sentinel, .sentinel, .sentinel, .widerDeep] true :=
  Program.laidByTextLater_by_one 114 8 8 (by kernel_rfl) (by kernel_rfl) (by kernel_rfl) (by kernel_rfl) (by kernel_rfl) (by kernel_rfl) (fun _ _ => by kernel_rfl)
theorem noOwnUnsafe : Tryd.pinned.checked.prog.headLifts.contains "ownunsafe" = false := by kernel_rfl
theorem tie : Tryd.prog.laidByTextLater [("lustrum/api.ErrBound", Rows.laid_lustrum_api_ErrBound), ("lustrum/api.ErrShape", Rows.laid_lustrum_api_ErrShape), ("lustrum/api.ErrType", Rows.laid_lustrum_api_ErrType), ("lustrum/api.ErrCycle", Rows.laid_lustrum_api_ErrCycle), ("lustrum/api.ErrFirst", Rows.laid_lustrum_api_ErrFirst), ("lustrum/tree.levels", Rows.laid_lustrum_tree_levels)] [.sentinel, .sentinel, .sentinel, .sentinel, .sentinel, .widerDeep] true :=
  Program.laidByTextLater.sub seatTie1 ["lustrum/api.ErrBound", "lustrum/api.ErrShape", "lustrum/api.ErrType", "lustrum/api.ErrCycle", "lustrum/api.ErrFirst", "lustrum/tree.levels"] (by kernel_rfl) (by kernel_rfl)
theorem slimLess_row_tie : Rows.slimLessRow.laidByTextAt .later Tryd.pinned [.sentinel, .sentinel, .sentinel, .sentinel, .sentinel, .widerDeep] true :=
  OpenClaim.laidByTextAt_later rfl rfl tie noOwnUnsafe
theorem slimLessUpto_row_tie : Rows.slimLessUptoRow.laidByTextAt .later Tryd.pinned [.sentinel, .sentinel, .sentinel, .sentinel, .sentinel, .widerDeep] true :=
  OpenClaim.laidByTextAt_later rfl rfl tie noOwnUnsafe
end Go.Proofs.YthihoafemahgmaaDoor
