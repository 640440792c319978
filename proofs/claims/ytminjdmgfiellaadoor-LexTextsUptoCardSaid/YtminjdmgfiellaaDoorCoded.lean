/- Walks: coded; SameInts. -/
import Derived.Test.YtminjdmgfiellaaDoorCode
namespace Go.Proofs.YtminjdmgfiellaaDoor
open Go.RowKit

set_option maxRecDepth 100000 in
theorem coded_sent (p : Nat → Addr) (i : Nat) (hi : i < 9) (c : Int) (w : World) (S : Sents w p) (hE : ErrTypeLaid w) :
    Calls Tryd.prog 22 #[esv (p i), .int .i64 c] w fun e w' => e = .returned (.bool (((i : Int) + 1) == c)) ∧ Below w.heap.size w w' := by
  cases hc : (((i : Int) + 1) == c)
  all_goals
    go_enter Tryd.func22, Tryd.ntmps22
    go_wp2_with fail
    refine (code_sent p i hi _ S hE).mono ?_
    rintro e w1 ⟨rfl, hb⟩
    go_wp2_with fail
    go_ret
    exact ⟨rfl, hb⟩
theorem coded_nil (c : Int) (w : World) :
    Calls Tryd.prog 22 #[.nilIface, .int .i64 c] w fun e w' => e = .returned (.bool ((0 : Int) == c)) ∧ w = w' := by
  cases hc : ((0 : Int) == c)
  all_goals
    go_enter Tryd.func22, Tryd.ntmps22
    go_wp2_with fail
    refine (code_nil _).mono ?_
    rintro e w1 ⟨rfl, rfl⟩
    go_wp2_with fail
    go_ret
    exact ⟨rfl, rfl⟩
/-- Two slices of the same numbers in memory. -/
theorem sameInts_same (b1 b2 n c1 c2 : Nat) (f : Nat → Int) (w : World) (hn : n ≤ 1000000) (hc1 : ∀ k, k < n → w.cell? ⟨b1, k, none⟩ = some (.int .i64 (f k))) (hc2 : ∀ k, k < n → w.cell? ⟨b2, k, none⟩ = some (.int .i64 (f k))) :
    Calls Tryd.prog 15 #[.slice (some ⟨b1, 0, none⟩) n c1, .slice (some ⟨b2, 0, none⟩) n c2] w fun e w' => e = .returned (.bool true) ∧ Below w.heap.size w w' := by
  have H1 := Lib.hid hc1
  have H2 := Lib.hid hc2
  clear hc1 hc2
  go_enter Tryd.func15, Tryd.ntmps15
  go_wp2_with fail
  go_loopw [5] (fun i wr => ∃ (k m : Nat), i = .int .i64 k ∧ k ≤ n ∧ wr = w.drewN m) (fun i _ => n - (intOf i).toNat)
  case atStart => exact ⟨0, 0, rfl, Nat.zero_le _, rfl⟩
  case round =>
    obtain ⟨k, m, rfl, hk, rfl⟩ := hrel
    by_cases hlt : k < n
    · have d1 := H1.out k hlt
      have d2 := H2.out k hlt
      go_wp2_with fail
      go_quiet (fail)
      go_wp2_with fail
      go_roundw
      case rel => exact ⟨k + 1, m + nq, by go_num, by omega, rfl⟩
      case measure => simp [intOf]; omega
    · go_wp2_with fail
      go_ret
      exact ⟨rfl, below_drewN (Below.refl _ _) _⟩
end Go.Proofs.YtminjdmgfiellaaDoor
