/- OrderHolds: the row's statement. -/
import Derived.Test.YtdceonkbckmjdaaDoorOrderHoldsRow
import Derived.Test.YtdceonkbckmjdaaDoorOrderHoldsFacts
namespace Go.Proofs.YtdceonkbckmjdaaDoor.orderHolds
open Go.ChangeShapes Go.WideShapes Go.ChangeAt Go.RowKit

theorem said : Rows.OrderHoldsSaid :=
  OpenClaim.holds_of_wide 5 Tryd.f5 rfl rfl rfl rfl rfl rfl rfl ⟨rfl, rfl, rfl, rfl, rfl⟩ rfl rfl rfl rfl rfl (by kernel_rfl) Tryd.func5 closed
    (of_decide_eq_true (by kernel_rfl)) (by unfold Func.isWrapper; first | (rw [if_pos (by decide +kernel)]; kernel_rfl) | (rw [if_neg (by decide +kernel)]; exact ⟨rfl, rfl⟩))
    (fun os started H enc _ => lifted os started H enc)

end Go.Proofs.YtdceonkbckmjdaaDoor.orderHolds
