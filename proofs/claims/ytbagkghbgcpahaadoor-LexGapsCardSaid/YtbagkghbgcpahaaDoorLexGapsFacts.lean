/- The closed facts of LexGaps' row, one by one. -/
import Derived.Test.YtbagkghbgcpahaaDoorRows
import Derived.ProofKit
import Derived.Stop.Joined
namespace Go.Proofs.YtbagkghbgcpahaaDoor.lexGaps

set_option maxHeartbeats 2000000 in
theorem closed : joinedFacts Tryd.pinned.checked.prog 7 Tryd.f7 Rows.lexGapsSpec Rows.lexGapsRow = true := by
  unfold joinedFacts
  simp only [Bool.and_eq_true]
  refine And.intro (And.intro (And.intro (And.intro (And.intro (And.intro (And.intro (And.intro (And.intro (And.intro (And.intro (And.intro (And.intro (And.intro (And.intro (And.intro (And.intro (And.intro (And.intro (And.intro (And.intro (And.intro (And.intro (And.intro (And.intro (And.intro (And.intro (And.intro (And.intro (And.intro (And.intro ?_ ?_) ?_) ?_) ?_) ?_) ?_) ?_) ?_) ?_) ?_) ?_) ?_) ?_) ?_) ?_) ?_) ?_) ?_) ?_) ?_) ?_) ?_) ?_) ?_) ?_) ?_) ?_) ?_) ?_) ?_) ?_
  all_goals (as_aux_lemma => kernel_rfl)

end Go.Proofs.YtbagkghbgcpahaaDoor.lexGaps
