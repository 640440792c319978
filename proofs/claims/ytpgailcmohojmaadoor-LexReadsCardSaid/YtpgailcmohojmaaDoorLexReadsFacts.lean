/- The closed facts of LexReads' row, one by one. -/
import Derived.Test.YtpgailcmohojmaaDoorRows
import Derived.ProofKit
import Derived.Stop.Joined
namespace Go.Proofs.YtpgailcmohojmaaDoor.lexReads

set_option maxHeartbeats 2000000 in
theorem closed : joinedFacts Tryd.pinned.checked.prog 15 Tryd.f15 Rows.lexReadsSpec Rows.lexReadsRow = true := by
  unfold joinedFacts
  simp only [Bool.and_eq_true]
  refine And.intro (And.intro (And.intro (And.intro (And.intro (And.intro (And.intro (And.intro (And.intro (And.intro (And.intro (And.intro (And.intro (And.intro (And.intro (And.intro (And.intro (And.intro (And.intro (And.intro (And.intro (And.intro (And.intro (And.intro (And.intro (And.intro (And.intro (And.intro (And.intro (And.intro (And.intro ?_ ?_) ?_) ?_) ?_) ?_) ?_) ?_) ?_) ?_) ?_) ?_) ?_) ?_) ?_) ?_) ?_) ?_) ?_) ?_) ?_) ?_) ?_) ?_) ?_) ?_) ?_) ?_) ?_) ?_) ?_) ?_
  all_goals (as_aux_lemma => kernel_rfl)

end Go.Proofs.YtpgailcmohojmaaDoor.lexReads
