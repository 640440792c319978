/- The closed facts of ReachMore' row (up to a bulk), one by one. -/
import Derived.Test.YtkfgaaiggbbaaaaDoorRows
import Derived.ProofKit
import Derived.Stop.Joined
namespace Go.Proofs.YtkfgaaiggbbaaaaDoor.reachMore
set_option maxHeartbeats 16000000
theorem closed : joinedFacts Tryd.pinned.checked.prog 6 Tryd.f6 (Rows.OpenSpec.upto Rows.reachMoreSpec).bare Rows.reachMoreUptoRow = true := by
 unfold joinedFacts
 simp only [Bool.and_eq_true]
 refine And.intro (And.intro (And.intro (And.intro (And.intro (And.intro (And.intro (And.intro (And.intro (And.intro (And.intro (And.intro (And.intro (And.intro (And.intro (And.intro (And.intro (And.intro (And.intro (And.intro (And.intro (And.intro (And.intro (And.intro (And.intro (And.intro (And.intro (And.intro (And.intro (And.intro (And.intro ?_ ?_) ?_) ?_) ?_) ?_) ?_) ?_) ?_) ?_) ?_) ?_) ?_) ?_) ?_) ?_) ?_) ?_) ?_) ?_) ?_) ?_) ?_) ?_) ?_) ?_) ?_) ?_) ?_) ?_) ?_) ?_
 all_goals (as_aux_lemma => kernel_rfl)
end Go.Proofs.YtkfgaaiggbbaaaaDoor.reachMore
