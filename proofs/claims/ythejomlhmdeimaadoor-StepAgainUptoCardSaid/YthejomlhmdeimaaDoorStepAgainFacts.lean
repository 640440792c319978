/- The closed facts of StepAgain' row (up to a bulk), one by one. -/
import Derived.Test.YthejomlhmdeimaaDoorRows
import Derived.ProofKit
import Derived.Stop.Joined
namespace Go.Proofs.YthejomlhmdeimaaDoor.stepAgain
set_option maxHeartbeats 16000000
theorem closed : joinedFacts Tryd.pinned.checked.prog 5 Tryd.f5 (Rows.OpenSpec.upto Rows.stepAgainSpec).bare Rows.stepAgainUptoRow = true := by
 unfold joinedFacts
 simp only [Bool.and_eq_true]
 refine And.intro (And.intro (And.intro (And.intro (And.intro (And.intro (And.intro (And.intro (And.intro (And.intro (And.intro (And.intro (And.intro (And.intro (And.intro (And.intro (And.intro (And.intro (And.intro (And.intro (And.intro (And.intro (And.intro (And.intro (And.intro (And.intro (And.intro (And.intro (And.intro (And.intro (And.intro ?_ ?_) ?_) ?_) ?_) ?_) ?_) ?_) ?_) ?_) ?_) ?_) ?_) ?_) ?_) ?_) ?_) ?_) ?_) ?_) ?_) ?_) ?_) ?_) ?_) ?_) ?_) ?_) ?_) ?_) ?_) ?_
 all_goals (as_aux_lemma => kernel_rfl)
end Go.Proofs.YthejomlhmdeimaaDoor.stepAgain
