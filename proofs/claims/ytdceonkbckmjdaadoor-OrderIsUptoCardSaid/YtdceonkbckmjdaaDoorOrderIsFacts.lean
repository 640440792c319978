/- The closed facts of OrderIs' row (up to a bulk), one by one. -/
import Derived.Test.YtdceonkbckmjdaaDoorRows
import Derived.ProofKit
import Derived.Stop.Joined
namespace Go.Proofs.YtdceonkbckmjdaaDoor.orderIs

set_option maxHeartbeats 2000000 in
theorem closed : joinedFacts Tryd.pinned.checked.prog 4 Tryd.f4 (Rows.OpenSpec.upto Rows.orderIsSpec).bare Rows.orderIsUptoRow = true := by
  unfold joinedFacts
  simp only [Bool.and_eq_true]
  refine And.intro (And.intro (And.intro (And.intro (And.intro (And.intro (And.intro (And.intro (And.intro (And.intro (And.intro (And.intro (And.intro (And.intro (And.intro (And.intro (And.intro (And.intro (And.intro (And.intro (And.intro (And.intro (And.intro (And.intro (And.intro (And.intro (And.intro (And.intro (And.intro (And.intro (And.intro ?_ ?_) ?_) ?_) ?_) ?_) ?_) ?_) ?_) ?_) ?_) ?_) ?_) ?_) ?_) ?_) ?_) ?_) ?_) ?_) ?_) ?_) ?_) ?_) ?_) ?_) ?_) ?_) ?_) ?_) ?_) ?_
  all_goals (as_aux_lemma => kernel_rfl)

end Go.Proofs.YtdceonkbckmjdaaDoor.orderIs
