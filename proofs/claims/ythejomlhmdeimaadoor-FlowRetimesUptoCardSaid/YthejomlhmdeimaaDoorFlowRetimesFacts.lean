/- The closed facts of FlowRetimes' row (up to a bulk), one by one. -/
import Derived.Test.YthejomlhmdeimaaDoorRows
import Derived.ProofKit
import Derived.Stop.Joined
namespace Go.Proofs.YthejomlhmdeimaaDoor.flowRetimes
set_option maxHeartbeats 16000000
theorem closed : joinedFacts Tryd.pinned.checked.prog 4 Tryd.f4 (Rows.OpenSpec.upto Rows.flowRetimesSpec).bare Rows.flowRetimesUptoRow = true := by
 unfold joinedFacts
 simp only [Bool.and_eq_true]
 refine And.intro (And.intro (And.intro (And.intro (And.intro (And.intro (And.intro (And.intro (And.intro (And.intro (And.intro (And.intro (And.intro (And.intro (And.intro (And.intro (And.intro (And.intro (And.intro (And.intro (And.intro (And.intro (And.intro (And.intro (And.intro (And.intro (And.intro (And.intro (And.intro (And.intro (And.intro ?_ ?_) ?_) ?_) ?_) ?_) ?_) ?_) ?_) ?_) ?_) ?_) ?_) ?_) ?_) ?_) ?_) ?_) ?_) ?_) ?_) ?_) ?_) ?_) ?_) ?_) ?_) ?_) ?_) ?_) ?_) ?_
 all_goals (as_aux_lemma => kernel_rfl)
end Go.Proofs.YthejomlhmdeimaaDoor.flowRetimes
