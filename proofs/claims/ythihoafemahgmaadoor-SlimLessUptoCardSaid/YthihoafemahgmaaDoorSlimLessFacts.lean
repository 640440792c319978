/- The closed facts of SlimLess' row (up to a bulk), one by one. -/
import Derived.Test.YthihoafemahgmaaDoorRows
import Derived.ProofKit
import Derived.Stop.Joined
namespace Go.Proofs.YthihoafemahgmaaDoor.slimLess
set_option maxHeartbeats 2000000 in
theorem closed : joinedFacts Tryd.pinned.checked.prog 3 Tryd.f3 (Rows.OpenSpec.upto Rows.slimLessSpec).bare Rows.slimLessUptoRow = true := by
  unfold joinedFacts
  simp only [Bool.and_eq_true]
  refine And.intro (And.intro (And.intro (And.intro (And.intro (And.intro (And.intro (And.intro (And.intro (And.intro (And.intro (And.intro (And.intro (And.intro (And.intro (And.intro (And.intro (And.intro (And.intro (And.intro (And.intro (And.intro (And.intro (And.intro (And.intro (And.intro (And.intro (And.intro (And.intro (And.intro (And.intro ?_ ?_) ?_) ?_) ?_) ?_) ?_) ?_) ?_) ?_) ?_) ?_) ?_) ?_) ?_) ?_) ?_) ?_) ?_) ?_) ?_) ?_) ?_) ?_) ?_) ?_) ?_) ?_) ?_) ?_) ?_) ?_
  all_goals (as_aux_lemma => kernel_rfl)
end Go.Proofs.YthihoafemahgmaaDoor.slimLess
