/- PROVED: lustrumlaw2.ReachMore returns true for every program and every two rows of inputs to choose from, of a bulk of at most 1048576 together; the arguments read as they did. Conditions: the bulk; the row's own: the listed package-level variables read as listed when the call begins (the card ties them to the program's text). -/
import Derived.Test.YtkfgaaiggbbaaaaDoorCards
import Derived.Test.YtkfgaaiggbbaaaaDoorTie
import Derived.Test.YtkfgaaiggbbaaaaDoorReachMoreSaid
namespace Go.Proofs.YtkfgaaiggbbaaaaDoor.reachMore
open Go.ChangeShapes Go.WideShapes Go.ChangeAt Go.RowKit
theorem plain (f : FuncId) (fn : Func) (hf : Tryd.pinned.checked.prog.funcNamed "lustrum/lustrumlaw2.ReachMore" = some f) (hfn : Tryd.pinned.checked.prog.funcs[f]? = some fn) :
  false = Tryd.pinned.checked.prog.looks [] ∧ ∀ (j : Nat) t, fn.params[j]? = some t → Tryd.pinned.checked.prog.wantsStandIn t = false := by
 obtain rfl : f = 6 := Option.some.inj ((show Tryd.prog.funcNamed "lustrum/lustrumlaw2.ReachMore" = some 6 by kernel_rfl).symm.trans hf) |>.symm
 obtain rfl : fn = Tryd.f6 := (Option.some.inj (Tryd.func6.symm.trans hfn)).symm
 refine ⟨by as_aux_lemma => kernel_rfl, fun j t ht => ?_⟩
 rw [Tryd.params6] at ht
 have hm : t ∈ [27, 45, 45] := by simpa using Array.mem_of_getElem? ht
 have hall : ([27, 45, 45].all fun u => !Tryd.prog.wantsStandIn u) = true := by as_aux_lemma => kernel_rfl
 exact (show Tryd.prog.wantsStandIn t = false by simpa using List.all_eq_true.1 hall t hm)
theorem reachMore_holds : Rows.ReachMoreUptoCardSaid :=
 Claim7.holds_tied_plain_at .later [] _ _ _ _ said (fun _ h => by cases h) (by as_aux_lemma => kernel_rfl) (fun _ h => by cases h) reachMoreUpto_row_tie rfl ⟨rfl, rfl⟩ (by as_aux_lemma => kernel_rfl) rfl plain (by as_aux_lemma => kernel_rfl)
#print axioms reachMore_holds
end Go.Proofs.YtkfgaaiggbbaaaaDoor.reachMore
