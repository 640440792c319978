/- The closed facts of SlimSame' row (up to a bulk), one by one. -/
import Derived.Test.YtofameafdnkijaaGreatDoorRows
import Derived.ProofKit
import Derived.Stop.Joined
set_option linter.all false
namespace Go.Proofs.YtofameafdnkijaaGreatDoor.slimSame
set_option maxHeartbeats 16000000
theorem closed:joinedFacts Tryz.pinned.checked.prog 3 Tryz.f3 (Rows.OpenSpec.upto Rows.slimSameSpec).bare Rows.slimSameUptoRow=true:=by
 unfold joinedFacts
 simp only [Bool.and_eq_true]
 refine And.intro (And.intro (And.intro (And.intro (And.intro (And.intro (And.intro (And.intro (And.intro (And.intro (And.intro (And.intro (And.intro (And.intro (And.intro (And.intro (And.intro (And.intro (And.intro (And.intro (And.intro (And.intro (And.intro (And.intro (And.intro (And.intro (And.intro (And.intro (And.intro (And.intro (And.intro ?_ ?_) ?_) ?_) ?_) ?_) ?_) ?_) ?_) ?_) ?_) ?_) ?_) ?_) ?_) ?_) ?_) ?_) ?_) ?_) ?_) ?_) ?_) ?_) ?_) ?_) ?_) ?_) ?_) ?_) ?_) ?_
 all_goals (as_aux_lemma=>kernel_rfl)
end Go.Proofs.YtofameafdnkijaaGreatDoor.slimSame
