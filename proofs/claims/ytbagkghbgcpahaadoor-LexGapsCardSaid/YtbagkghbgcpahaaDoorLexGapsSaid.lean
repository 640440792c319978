/- LexGaps: the row's statement. -/
import Derived.Test.YtbagkghbgcpahaaDoorLexGaps
import Derived.Test.YtbagkghbgcpahaaDoorLexGapsFacts
namespace Go.Proofs.YtbagkghbgcpahaaDoor.lexGaps
open Go.ChangeShapes Go.WideShapes Go.ChangeAt Go.RowKit

theorem said : Rows.LexGapsSaid :=
  OpenClaim.holds_of_wide 7 Tryd.f7 rfl rfl rfl rfl rfl rfl rfl ⟨rfl, rfl, rfl, rfl, rfl⟩ rfl rfl rfl rfl rfl (by kernel_rfl) Tryd.func7 closed
    (of_decide_eq_true (by kernel_rfl)) (by unfold Func.isWrapper; first | (rw [if_pos (by decide +kernel)]; kernel_rfl) | (rw [if_neg (by decide +kernel)]; exact ⟨rfl, rfl⟩))
    (fun os started H enc _ => lifted os started H enc)

end Go.Proofs.YtbagkghbgcpahaaDoor.lexGaps
