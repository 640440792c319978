/- Walks: lustrumref1.SameTexts, SameVars, SameExpr, sameExprs of what is the same. -/
import Derived.Test.YthihoafemahgmaaDoorRw
import Derived.Test.YthihoafemahgmaaDoorRg
import Derived.Deep.RegionLaw
import Derived.Test.YthihoafemahgmaaDoorSlD
namespace Go.Proofs.YthihoafemahgmaaDoor
open Go.RowKit Mx
set_option maxHeartbeats 1000000 in
set_option maxRecDepth 100000 in
theorem sameTexts_eq (H : Kn) (l : List ByteArray) (v1 v2 : Value) (h1 : StrsV H l v1) (h2 : StrsV H l v2) (hl : l.length ≤ 1000000000) (w : World) (hH : H.In w) :
    Calls Tryd.prog 10 #[v1, v2] w fun e w' => e = .returned (.bool true) ∧ Below w.heap.size w w' := by
  obtain ⟨a1, c1, rfl⟩ := h1.len
  obtain ⟨a2, c2, rfl⟩ := h2.len
  have H1 := Lib.hid h1
  have H2 := Lib.hid h2
  clear h1 h2
  go_enter Tryd.func10, Tryd.ntmps10
  go_wp2_with fail
  go_loopw [5] (fun i wr => ∃ (k m : Nat), i = .int .i64 k ∧ k ≤ l.length ∧ wr = w.drewN m) (fun i _ => l.length - (intOf i).toNat)
  case atStart => exact ⟨0, 0, rfl, Nat.zero_le _, rfl⟩
  case round =>
    obtain ⟨k, m, rfl, hk, rfl⟩ := hrel
    by_cases hlt : k < l.length
    · obtain ⟨b1, o1, e1, _, d1⟩ := SlV.at H1.out hlt
      obtain ⟨b2, o2, e2, _, d2⟩ := SlV.at H2.out hlt
      cases e1
      cases e2
      have d1 : H.cell b1 (o1 + k * 1 + 0) = some (.string l[k]) := d1
      have d2 : H.cell b2 (o2 + k * 1 + 0) = some (.string l[k]) := d2
      simp only [Nat.mul_one, Nat.add_zero] at d1 d2
      have d1 := hH.cell d1
      have d2 := hH.cell d2
      generalize l[k] = x at *
      go_wp2_with fail
      go_quiet (fail)
      go_wp2_with fail
      go_roundw
      case rel => exact ⟨k + 1, m + nq, by go_num, by omega, rfl⟩
      case measure => simp [intOf]; omega
    · go_wp2_with fail
      go_ret
      exact ⟨rfl, below_drewN (Below.refl _ _) _⟩
end Go.Proofs.YthihoafemahgmaaDoor
namespace Go.Proofs.YthihoafemahgmaaDoor
open Go.RowKit Mx
end Go.Proofs.YthihoafemahgmaaDoor
