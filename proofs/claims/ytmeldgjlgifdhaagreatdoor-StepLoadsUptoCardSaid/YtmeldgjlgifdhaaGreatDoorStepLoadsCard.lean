/- PROVED: lustrumlaw2.StepLoads returns true for every program, every two lists of inputs and every list of values, of a bulk of at most 1048576 together; the arguments read as they did. Conditions: the bulk; the row's own: the listed package-level variables read as listed when the call begins (the card ties them to the program's text). -/
import Derived.Test.YtmeldgjlgifdhaaGreatDoorCards
import Derived.Test.YtmeldgjlgifdhaaGreatDoorTie
import Derived.Test.YtmeldgjlgifdhaaGreatDoorStepLoadsSaid
namespace Go.Proofs.YtmeldgjlgifdhaaGreatDoor.stepLoads
open Go.ChangeShapes Go.WideShapes Go.ChangeAt Go.RowKit
theorem plain (f : FuncId) (fn : Func) (hf : Tryz.pinned.checked.prog.funcNamed "lustrum/lustrumlaw2.StepLoads" = some f) (hfn : Tryz.pinned.checked.prog.funcs[f]? = some fn) :
  true = Tryz.pinned.checked.prog.looks [] ∧ ∀ (j : Nat) t, fn.params[j]? = some t → Tryz.pinned.checked.prog.wantsStandIn t = false := by
 obtain rfl : f = 4 := Option.some.inj ((show Tryz.prog.funcNamed "lustrum/lustrumlaw2.StepLoads" = some 4 by kernel_rfl).symm.trans hf) |>.symm
 obtain rfl : fn = Tryz.f4 := (Option.some.inj (Tryz.func4.symm.trans hfn)).symm
 refine ⟨by as_aux_lemma => kernel_rfl, fun j t ht => ?_⟩
 rw [Tryz.params4] at ht
 have hm : t ∈ [41, 42, 42, 22] := by simpa using Array.mem_of_getElem? ht
 have hall : ([41, 42, 42, 22].all fun u => !Tryz.prog.wantsStandIn u) = true := by as_aux_lemma => kernel_rfl
 exact (show Tryz.prog.wantsStandIn t = false by simpa using List.all_eq_true.1 hall t hm)
theorem stepLoads_holds : Rows.StepLoadsUptoCardSaid :=
 Claim7.holds_tied_plain_at .later [] _ _ _ _ said (fun _ h => by cases h) (by as_aux_lemma => kernel_rfl) (fun _ h => by cases h) stepLoadsUpto_row_tie rfl ⟨rfl, rfl⟩ (by as_aux_lemma => kernel_rfl) rfl plain (by as_aux_lemma => kernel_rfl)
#print axioms stepLoads_holds
end Go.Proofs.YtmeldgjlgifdhaaGreatDoor.stepLoads
