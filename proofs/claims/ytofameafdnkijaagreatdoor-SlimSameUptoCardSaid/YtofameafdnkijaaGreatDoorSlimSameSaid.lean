/- SlimSame: the row's statement, up to a bulk. -/
import Derived.Test.YtofameafdnkijaaGreatDoorSlimSameRow
import Derived.Test.YtofameafdnkijaaGreatDoorSlimSameFacts
set_option linter.all false
namespace Go.Proofs.YtofameafdnkijaaGreatDoor.slimSame
open Go.ChangeShapes Go.WideShapes Go.ChangeAt Go.RowKit
theorem said:Rows.SlimSameUptoSaid:=
 OpenClaim.holds_of_cond 3 Tryz.f3 rfl rfl rfl rfl rfl rfl rfl ⟨rfl,rfl,rfl,rfl,rfl⟩ rfl rfl rfl rfl rfl (by kernel_rfl) Tryz.func3 closed
  (of_decide_eq_true (by kernel_rfl)) (by unfold Func.isWrapper;first | (rw [if_pos (by decide +kernel)];kernel_rfl) | (rw [if_neg (by decide +kernel)];exact⟨rfl,rfl⟩))
  (fun os started H enc _ F=>by rw [OpenClaim.pre_eq_preRow];exact lifted os started H enc F)
end Go.Proofs.YtofameafdnkijaaGreatDoor.slimSame
