/- PROVED: lustrumlaw2.SlimLess returns true for every program, of a bulk of at most 1048576; the argument reads as it did. Conditions: the bulk; the row's own: the listed package-level variables read as listed when the call begins (the card ties them to the program's text). -/
import Derived.Test.YthihoafemahgmaaDoorCards
import Derived.Test.YthihoafemahgmaaDoorTie
import Derived.Test.YthihoafemahgmaaDoorSlimLessSaid
namespace Go.Proofs.YthihoafemahgmaaDoor.slimLess
open Go.ChangeShapes Go.WideShapes Go.ChangeAt Go.RowKit
theorem plain (f : FuncId) (fn : Func) (hf : Tryd.pinned.checked.prog.funcNamed "lustrum/lustrumlaw2.SlimLess" = some f) (hfn : Tryd.pinned.checked.prog.funcs[f]? = some fn) :
    false = Tryd.pinned.checked.prog.looks [] ∧ ∀ (j : Nat) t, fn.params[j]? = some t → Tryd.pinned.checked.prog.wantsStandIn t = false := by
  obtain rfl : f = 3 := Option.some.inj ((show Tryd.prog.funcNamed "lustrum/lustrumlaw2.SlimLess" = some 3 by kernel_rfl).symm.trans hf) |>.symm
  obtain rfl : fn = Tryd.f3 := (Option.some.inj (Tryd.func3.symm.trans hfn)).symm
  refine ⟨by as_aux_lemma => kernel_rfl, fun j t ht => ?_⟩
  rw [Tryd.params3] at ht
  have hm : t ∈ [27] := by simpa using Array.mem_of_getElem? ht
  have hall : ([27].all fun u => !Tryd.prog.wantsStandIn u) = true := by as_aux_lemma => kernel_rfl
  exact (show Tryd.prog.wantsStandIn t = false by simpa using List.all_eq_true.1 hall t hm)
theorem slimLess_holds : Rows.SlimLessUptoCardSaid :=
  Claim7.holds_tied_plain_at .later [] _ _ _ _ said (fun _ h => by cases h) (by as_aux_lemma => kernel_rfl) (fun _ h => by cases h) slimLessUpto_row_tie rfl ⟨rfl, rfl⟩ (by as_aux_lemma => kernel_rfl) rfl plain (by as_aux_lemma => kernel_rfl)
#print axioms slimLess_holds
end Go.Proofs.YthihoafemahgmaaDoor.slimLess
