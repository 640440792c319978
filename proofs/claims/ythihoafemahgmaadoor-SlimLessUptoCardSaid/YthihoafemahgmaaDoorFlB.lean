/- Walks: flow: closures of operators. -/
import Derived.Test.YthihoafemahgmaaDoorFlA
namespace Go.Proofs.YthihoafemahgmaaDoor
open Go.RowKit Mx
theorem fn_lt (a b : Int) (w : World) : Calls Tryd.prog 75 #[.int .i64 a, .int .i64 b] w fun e w' => e = .returned (.bool (decide (a < b))) ∧ w = w' := by
  go_enter Tryd.func75, Tryd.ntmps75
  go_wp2
  go_ret
  exact ⟨rfl, rfl⟩
theorem fn_le (a b : Int) (w : World) : Calls Tryd.prog 76 #[.int .i64 a, .int .i64 b] w fun e w' => e = .returned (.bool (decide (a ≤ b))) ∧ w = w' := by
  go_enter Tryd.func76, Tryd.ntmps76
  go_wp2
  go_ret
  exact ⟨rfl, rfl⟩
theorem fn_gt (a b : Int) (w : World) : Calls Tryd.prog 77 #[.int .i64 a, .int .i64 b] w fun e w' => e = .returned (.bool (decide (b < a))) ∧ w = w' := by
  go_enter Tryd.func77, Tryd.ntmps77
  go_wp2
  go_ret
  exact ⟨rfl, rfl⟩
theorem fn_ge (a b : Int) (w : World) : Calls Tryd.prog 78 #[.int .i64 a, .int .i64 b] w fun e w' => e = .returned (.bool (decide (b ≤ a))) ∧ w = w' := by
  go_enter Tryd.func78, Tryd.ntmps78
  go_wp2
  go_ret
  exact ⟨rfl, rfl⟩
theorem fn_add (a b : Int) (w : World) : Calls Tryd.prog 83 #[.int .i64 a, .int .i64 b] w fun e w' => e = .returned (.int .i64 (RowKit.wrap64 (a + b))) ∧ w = w' := by
  go_enter Tryd.func83, Tryd.ntmps83
  go_wp2
  go_ret
  exact ⟨rfl, rfl⟩
theorem fn_sub (a b : Int) (w : World) : Calls Tryd.prog 84 #[.int .i64 a, .int .i64 b] w fun e w' => e = .returned (.int .i64 (RowKit.wrap64 (a - b))) ∧ w = w' := by
  go_enter Tryd.func84, Tryd.ntmps84
  go_wp2
  go_ret
  exact ⟨rfl, rfl⟩
theorem fn_mul (a b : Int) (w : World) : Calls Tryd.prog 85 #[.int .i64 a, .int .i64 b] w fun e w' => e = .returned (.int .i64 (RowKit.wrap64 (a * b))) ∧ w = w' := by
  go_enter Tryd.func85, Tryd.ntmps85
  go_wp2
  go_ret
  exact ⟨rfl, rfl⟩
theorem fn_div (a b : Int) (h : b ≠ 0) (w : World) : Calls Tryd.prog 86 #[.int .i64 a, .int .i64 b] w fun e w' => e = .returned (.int .i64 (RowKit.wrap64 (a.tdiv b))) ∧ w = w' := by
  go_enter Tryd.func86, Tryd.ntmps86
  go_wp2
  go_ret
  exact ⟨rfl, rfl⟩
theorem fn_mod (a b : Int) (h : b ≠ 0) (w : World) : Calls Tryd.prog 87 #[.int .i64 a, .int .i64 b] w fun e w' => e = .returned (.int .i64 (a.tmod b)) ∧ w = w' := by
  go_enter Tryd.func87, Tryd.ntmps87
  go_wp2
  go_ret
  exact ⟨rfl, rfl⟩
theorem fn_and (a b : Bool) (w : World) : Calls Tryd.prog 79 #[.bool a, .bool b] w fun e w' => e = .returned (.bool (a && b)) ∧ w = w' := by
  cases a <;> cases b
  all_goals
    go_enter Tryd.func79, Tryd.ntmps79
    go_wp2
    go_ret
    exact ⟨rfl, rfl⟩
theorem fn_or (a b : Bool) (w : World) : Calls Tryd.prog 80 #[.bool a, .bool b] w fun e w' => e = .returned (.bool (a || b)) ∧ w = w' := by
  cases a <;> cases b
  all_goals
    go_enter Tryd.func80, Tryd.ntmps80
    go_wp2
    go_ret
    exact ⟨rfl, rfl⟩
theorem fn_xor (a b : Bool) (w : World) : Calls Tryd.prog 81 #[.bool a, .bool b] w fun e w' => e = .returned (.bool (a != b)) ∧ w = w' := by
  cases a <;> cases b
  all_goals
    go_enter Tryd.func81, Tryd.ntmps81
    go_wp2
    go_ret
    exact ⟨rfl, rfl⟩
theorem fn_imp (a b : Bool) (w : World) : Calls Tryd.prog 82 #[.bool a, .bool b] w fun e w' => e = .returned (.bool (!a || b)) ∧ w = w' := by
  cases a <;> cases b
  all_goals
    go_enter Tryd.func82, Tryd.ntmps82
    go_wp2
    go_ret
    exact ⟨rfl, rfl⟩
theorem around_wrap64 (n : Int) : around (RowKit.wrap64 n) = around n := by
  unfold around RowKit.wrap64
  have : ((n + 9223372036854775808) % 18446744073709551616 - 9223372036854775808) % 256 = n % 256 := by omega
  rw [this]
end Go.Proofs.YthihoafemahgmaaDoor
