/- PROVED: lustrumlaw2.ReachFinds returns true for every program, every list of choices, every bound, of a bulk of at most 1048576 together; the arguments read as they did. Conditions: the bulk; the row's own: the listed package-level variables read as listed when the call begins (the card ties them to the program's text). -/
import Derived.Test.YtafapnolamcdmaaGreatDoorCards
import Derived.Test.YtafapnolamcdmaaGreatDoorTie
import Derived.Test.YtafapnolamcdmaaGreatDoorReachFindsSaid
set_option linter.all false
namespace Go.Proofs.YtafapnolamcdmaaGreatDoor.reachFinds
open Go.ChangeShapes Go.WideShapes Go.ChangeAt Go.RowKit
theorem plain(f:FuncId)(fn:Func)(hf:Tryz.pinned.checked.prog.funcNamed "lustrum/lustrumlaw2.ReachFinds" = some f)(hfn:Tryz.pinned.checked.prog.funcs[f]?=some fn):
  true=Tryz.pinned.checked.prog.looks []/\∀(j:Nat) t,fn.params[j]?=some t→Tryz.pinned.checked.prog.wantsStandIn t=false:=by
 obtain rfl:f=3:=Option.some.inj ((show Tryz.prog.funcNamed "lustrum/lustrumlaw2.ReachFinds" = some 3 by kernel_rfl).symm.trans hf) |>.symm
 obtain rfl:fn=Tryz.f3:=(Option.some.inj (Tryz.func3.symm.trans hfn)).symm;refine⟨by as_aux_lemma=>kernel_rfl,λj t ht=>?_⟩;rw[Tryz.params3] at ht;have hm:t∈[27,28,3]:=by simpa using Array.mem_of_getElem? ht
 have hall:([27,28,3].all λu => !Tryz.prog.wantsStandIn u)=true:=by as_aux_lemma=>kernel_rfl
 exact(show Tryz.prog.wantsStandIn t=false by simpa using List.all_eq_true.1 hall t hm)
theorem reachFinds_holds:Rows.ReachFindsUptoCardSaid:=
 Claim7.holds_tied_plain_at .later [] _ _ _ _ said (λ_ h=>by cases h) (by as_aux_lemma=>kernel_rfl) (λ_ h=>by cases h) reachFindsUpto_row_tie rfl ⟨rfl,rfl⟩ (by as_aux_lemma=>kernel_rfl) rfl plain (by as_aux_lemma=>kernel_rfl)
#print axioms reachFinds_holds
end Go.Proofs.YtafapnolamcdmaaGreatDoor.reachFinds
