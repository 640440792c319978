/- PROVED: lustrumlaw2.ReachTraces returns true for every program and every row of inputs to choose from, of a bulk of at most 1048576 together; the arguments read as they did. Conditions: the bulk; the row's own: the listed package-level variables read as listed when the call begins (the card ties them to the program's text). -/
import Derived.Test.YtmeldgjlgifdhaaDoorCards
import Derived.Test.YtmeldgjlgifdhaaDoorTie
import Derived.Test.YtmeldgjlgifdhaaDoorReachTracesSaid
namespace Go.Proofs.YtmeldgjlgifdhaaDoor.reachTraces
open Go.ChangeShapes Go.WideShapes Go.ChangeAt Go.RowKit
theorem plain (f : FuncId) (fn : Func) (hf : Tryd.pinned.checked.prog.funcNamed "lustrum/lustrumlaw2.ReachTraces" = some f) (hfn : Tryd.pinned.checked.prog.funcs[f]? = some fn) :
  false = Tryd.pinned.checked.prog.looks [] ∧ ∀ (j : Nat) t, fn.params[j]? = some t → Tryd.pinned.checked.prog.wantsStandIn t = false := by
 obtain rfl : f = 5 := Option.some.inj ((show Tryd.prog.funcNamed "lustrum/lustrumlaw2.ReachTraces" = some 5 by kernel_rfl).symm.trans hf) |>.symm
 obtain rfl : fn = Tryd.f5 := (Option.some.inj (Tryd.func5.symm.trans hfn)).symm
 refine ⟨by as_aux_lemma => kernel_rfl, fun j t ht => ?_⟩
 rw [Tryd.params5] at ht
 have hm : t ∈ [27, 45] := by simpa using Array.mem_of_getElem? ht
 have hall : ([27, 45].all fun u => !Tryd.prog.wantsStandIn u) = true := by as_aux_lemma => kernel_rfl
 exact (show Tryd.prog.wantsStandIn t = false by simpa using List.all_eq_true.1 hall t hm)
theorem reachTraces_holds : Rows.ReachTracesUptoCardSaid :=
 Claim7.holds_tied_plain_at .later [] _ _ _ _ said (fun _ h => by cases h) (by as_aux_lemma => kernel_rfl) (fun _ h => by cases h) reachTracesUpto_row_tie rfl ⟨rfl, rfl⟩ (by as_aux_lemma => kernel_rfl) rfl plain (by as_aux_lemma => kernel_rfl)
#print axioms reachTraces_holds
end Go.Proofs.YtmeldgjlgifdhaaDoor.reachTraces
