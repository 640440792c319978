/- The closed facts of StepGoes' row (up to a bulk), one by one. -/
import Derived.Test.YtgoccoldkfpbgaaGreatDoorRows
import Derived.ProofKit
import Derived.Stop.Joined
set_option linter.all false
namespace Go.Proofs.YtgoccoldkfpbgaaGreatDoor.stepGoes
set_option maxHeartbeats 16000000
theorem closed:joinedFacts Tryz.pinned.checked.prog 4 Tryz.f4 (Rows.OpenSpec.upto Rows.stepGoesSpec).bare Rows.stepGoesUptoRow=true:=by
 unfold joinedFacts
 simp only [Bool.and_eq_true]
 refine And.intro (And.intro (And.intro (And.intro (And.intro (And.intro (And.intro (And.intro (And.intro (And.intro (And.intro (And.intro (And.intro (And.intro (And.intro (And.intro (And.intro (And.intro (And.intro (And.intro (And.intro (And.intro (And.intro (And.intro (And.intro (And.intro (And.intro (And.intro (And.intro (And.intro (And.intro ?_ ?_) ?_) ?_) ?_) ?_) ?_) ?_) ?_) ?_) ?_) ?_) ?_) ?_) ?_) ?_) ?_) ?_) ?_) ?_) ?_) ?_) ?_) ?_) ?_) ?_) ?_) ?_) ?_) ?_) ?_) ?_
 all_goals (as_aux_lemma=>kernel_rfl)
end Go.Proofs.YtgoccoldkfpbgaaGreatDoor.stepGoes
