/- LexReads: the row's statement. -/
import Derived.Test.YtpgailcmohojmaaDoorLexReadsRow
import Derived.Test.YtpgailcmohojmaaDoorLexReadsFacts
namespace Go.Proofs.YtpgailcmohojmaaDoor.lexReads
open Go.ChangeShapes Go.WideShapes Go.ChangeAt Go.RowKit

theorem said : Rows.LexReadsSaid :=
  OpenClaim.holds_of_wide 15 Tryd.f15 rfl rfl rfl rfl rfl rfl rfl ⟨rfl, rfl, rfl, rfl, rfl⟩ rfl rfl rfl rfl rfl (by kernel_rfl) Tryd.func15 closed
    (of_decide_eq_true (by kernel_rfl)) (by unfold Func.isWrapper; first | (rw [if_pos (by decide +kernel)]; kernel_rfl) | (rw [if_neg (by decide +kernel)]; exact ⟨rfl, rfl⟩))
    (fun os started H enc _ => lifted os started H enc)

end Go.Proofs.YtpgailcmohojmaaDoor.lexReads
