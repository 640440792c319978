/- The closed facts of ReachFinds' row (up to a bulk), one by one. -/
import Derived.Test.YtafapnolamcdmaaGreatDoorRows
import Derived.ProofKit
import Derived.Stop.Joined
set_option linter.all false
namespace Go.Proofs.YtafapnolamcdmaaGreatDoor.reachFinds
set_option maxHeartbeats 16000000
theorem closed:joinedFacts Tryz.pinned.checked.prog 3 Tryz.f3 (Rows.OpenSpec.upto Rows.reachFindsSpec).bare Rows.reachFindsUptoRow=true:=by
 unfold joinedFacts;simp only[Bool.and_eq_true];refine And.intro (And.intro (And.intro (And.intro (And.intro (And.intro (And.intro (And.intro (And.intro (And.intro (And.intro (And.intro (And.intro (And.intro (And.intro (And.intro (And.intro (And.intro (And.intro (And.intro (And.intro (And.intro (And.intro (And.intro (And.intro (And.intro (And.intro (And.intro (And.intro (And.intro (And.intro ?_ ?_) ?_) ?_) ?_) ?_) ?_) ?_) ?_) ?_) ?_) ?_) ?_) ?_) ?_) ?_) ?_) ?_) ?_) ?_) ?_) ?_) ?_) ?_) ?_) ?_) ?_) ?_) ?_) ?_) ?_) ?_
 all_goals(as_aux_lemma=>kernel_rfl)
end Go.Proofs.YtafapnolamcdmaaGreatDoor.reachFinds
