/- The nine sentinels' words. -/
import Derived.Test.YtdceonkbckmjdaaDoorKn
namespace Go.Proofs.YtdceonkbckmjdaaDoor

/-- The nine names. -/
def nm : Nat → ByteArray
  | 0 => ⟨#[116, 101, 120, 116]⟩
  | 1 => ⟨#[98, 111, 117, 110, 100]⟩
  | 2 => ⟨#[115, 104, 97, 112, 101]⟩
  | 3 => ⟨#[110, 97, 109, 101]⟩
  | 4 => ⟨#[116, 121, 112, 101]⟩
  | 5 => ⟨#[99, 121, 99, 108, 101]⟩
  | 6 => ⟨#[102, 105, 114, 115, 116]⟩
  | 7 => ⟨#[112, 114, 111, 111, 102]⟩
  | _ => ⟨#[110, 111, 110, 101]⟩
theorem nm_size (k : Nat) : (nm k).size ≤ 5 := by
  unfold nm
  split <;> decide
end Go.Proofs.YtdceonkbckmjdaaDoor
