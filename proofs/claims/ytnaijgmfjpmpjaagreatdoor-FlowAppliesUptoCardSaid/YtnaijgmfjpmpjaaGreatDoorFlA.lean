/- Walks: flow: Truth, Whole, Right; maps of closures. -/
import Derived.Test.YtnaijgmfjpmpjaaGreatDoorRw
import Derived.Test.YtnaijgmfjpmpjaaGreatDoorMap
import Derived.WalkSpells
namespace Go.Proofs.YtnaijgmfjpmpjaaGreatDoor
set_option maxRecDepth 100000
set_option maxHeartbeats 16000000
open Go.RowKit Mx
theorem truth_any (b : Bool) (w : World) : Calls Tryz.prog 63 #[.bool b] w fun e w' => e = .returned (vlV (tv b)) ∧ Below w.heap.size w w' := by
 cases b
 all_goals
  go_enter Tryz.func63, Tryz.ntmps63
  go_wp2_with fail
 ·refine bodyPost_ret (v := .agg #[.int .i64 1, .int .i64 0]) (by simp [results, Tryz.results63, go_sem]) rfl ?_
  exact ⟨rfl, (Below.refl _ _).alloc (Nat.le_refl _) _⟩
 ·refine bodyPost_ret (v := .agg #[.int .i64 1, .int .i64 1]) (by simp [results, Tryz.results63, go_sem]) rfl ?_
  exact ⟨rfl, (Below.refl _ _).alloc (Nat.le_refl _) _⟩
theorem wrap8 (n : Int) : IntKind.wrap .i8 n = around n := by
 show (if (true && decide (n % 256 ≥ 128)) = true then n % 256 - 256 else n % 256) = around n
 unfold around
 simp
theorem wrap64 (n : Int) : IntKind.wrap .i64 n = if 9223372036854775808 ≤ n % 18446744073709551616 then n % 18446744073709551616 - 18446744073709551616 else n % 18446744073709551616 := by
 show (if (true && decide (n % 18446744073709551616 ≥ 9223372036854775808)) = true then n % 18446744073709551616 - 18446744073709551616 else n % 18446744073709551616) = _
 simp
abbrev fnV (f : Nat) : Value := .func (.func f) #[] #[]
theorem wp_insert {P : Program} {w : World} {ops : Array Oper} {rest : List Oper} {o : Oper} {a : Act} {Q : Exit → Act → World → Prop} {α : Type} (V : α → Value) (t k e : TypeId) (ht : P.underlying t = some (.map k e)) (hk : P.underlying k = some .string) (b : Nat) (m : Env α) (hM : MapAt V w b m)
  (x y z : Operand) (hg : o.guard = none) (hop : o.op = Op.insert t x y z) (hx : a.eval x = .map (some b)) (s : ByteArray) (hy : a.eval y = .string s) (u : α) (hz : a.eval z = V u)
  (hK : ∀ w', MapAt V w' b (m.set s u) → Turned w w' b → wpList P ops Q rest (a.put o.dst undef) w') : wpList P ops Q (o :: rest) a w := by
 refine wpList_plain hg fun K' hK' => ?_
 obtain ⟨ob, hrun, hM'⟩ := hM.run_set ht hk s u
 unfold Oper.wp
 simp [execOp, hop, hx, hy, hz, hrun, Result.andThen]
 exact hK' _ _ (hK _ hM' ⟨ob, rfl⟩)
def testsEnv : Env Value := ((((Env.none.set oLt (fnV 86)).set oLe (fnV 87)).set oGt (fnV 88)).set oGe (fnV 89))
theorem tests_any (w : World) : Calls Tryz.prog 65 #[] w fun e w' => ∃ b, e = .returned (.map (some b)) ∧ MapAt (fun x => x) w' b testsEnv ∧ Below w.heap.size w w' := by
 have hmm := @run_makeMap Tryz.prog
 have hM0 := MapAt.made (fun x : Value => x) w
 have hB0 : Below w.heap.size w (w.alloc (.map #[] 0)) := (Below.refl _ _).alloc (Nat.le_refl _) _
 go_enter Tryz.func65, Tryz.ntmps65
 go_wp2_with (refine wp_insert (fun x => x) 127 9 125 Tryz.underlying127 Tryz.underlying9 w.heap.size _ (by assumption) _ _ _ rfl rfl rfl _ rfl _ rfl ?_; intro wn hMn hTn; have hBn := hTn.below (by assumption) (Nat.le_refl _))
 go_ret
 exact ⟨_, rfl, by assumption, by assumption⟩
def boolsEnv : Env Value := ((((Env.none.set oAnd (fnV 90)).set oOr (fnV 91)).set oXor (fnV 92)).set oImp (fnV 93))
theorem bools_any (w : World) : Calls Tryz.prog 66 #[] w fun e w' => ∃ b, e = .returned (.map (some b)) ∧ MapAt (fun x => x) w' b boolsEnv ∧ Below w.heap.size w w' := by
 have hmm := @run_makeMap Tryz.prog
 have hM0 := MapAt.made (fun x : Value => x) w
 have hB0 : Below w.heap.size w (w.alloc (.map #[] 0)) := (Below.refl _ _).alloc (Nat.le_refl _) _
 go_enter Tryz.func66, Tryz.ntmps66
 go_wp2_with (refine wp_insert (fun x => x) 131 9 129 Tryz.underlying131 Tryz.underlying9 w.heap.size _ (by assumption) _ _ _ rfl rfl rfl _ rfl _ rfl ?_; intro wn hMn hTn; have hBn := hTn.below (by assumption) (Nat.le_refl _))
 go_ret
 exact ⟨_, rfl, by assumption, by assumption⟩
def intsEnv : Env Value := (((((Env.none.set oAdd (fnV 94)).set oSub (fnV 95)).set oMul (fnV 96)).set oDiv (fnV 97)).set oMod (fnV 98))
theorem ints_any (w : World) : Calls Tryz.prog 67 #[] w fun e w' => ∃ b, e = .returned (.map (some b)) ∧ MapAt (fun x => x) w' b intsEnv ∧ Below w.heap.size w w' := by
 have hmm := @run_makeMap Tryz.prog
 have hM0 := MapAt.made (fun x : Value => x) w
 have hB0 : Below w.heap.size w (w.alloc (.map #[] 0)) := (Below.refl _ _).alloc (Nat.le_refl _) _
 go_enter Tryz.func67, Tryz.ntmps67
 go_wp2_with (refine wp_insert (fun x => x) 134 9 133 Tryz.underlying134 Tryz.underlying9 w.heap.size _ (by assumption) _ _ _ rfl rfl rfl _ rfl _ rfl ?_; intro wn hMn hTn; have hBn := hTn.below (by assumption) (Nat.le_refl _))
 go_ret
 exact ⟨_, rfl, by assumption, by assumption⟩
theorem whole_any (n : Int) (w : World) : Calls Tryz.prog 64 #[.int .i64 n] w fun e w' => e = .returned (vlV (wv n)) ∧ Below w.heap.size w w' := by
 have hr : IntKind.wrap .i64 (IntKind.wrap .i8 n) = around n := by
  rw [wrap8, wrap64]
  unfold around
  split <;> split <;> omega
 go_enter Tryz.func64, Tryz.ntmps64
 go_wp2_with fail
 refine bodyPost_ret (v := vlV (wv n)) (by simp [results, Tryz.results64, go_sem, hr, wv]) rfl ?_
 exact ⟨rfl, (Below.refl _ _).alloc (Nat.le_refl _) _⟩
theorem right_any (v : Vl) (k : Int) (w : World) : Calls Tryz.prog 24 #[vlV v, .int .i64 k] w fun e w' => e = .returned (.bool (rightV v k)) ∧ Below w.heap.size w w' := by
 obtain ⟨vk, vn⟩ := v
 have hb : Below w.heap.size w (w.alloc (.cells #[.int .i64 vk, .int .i64 vn] 25)) := (Below.refl _ _).alloc (Nat.le_refl _) _
 by_cases h1 : vk = k
 ·subst h1
  by_cases h2 : vk = 1
  ·subst h2
   by_cases h3 : vn = 0
   ·subst h3
    have hr : rightV ⟨1, 0⟩ 1 = true := by simp [rightV]
    rw [hr]
    go_enter Tryz.func24, Tryz.ntmps24
    go_wp2_with fail
    go_ret
    first | exact ⟨rfl, hb⟩ | exact ⟨ret_bool (by simp_all), hb⟩
   ·by_cases h4 : vn = 1
    ·subst h4
     have hr : rightV ⟨1, 1⟩ 1 = true := by simp [rightV]
     rw [hr]
     go_enter Tryz.func24, Tryz.ntmps24
     go_wp2_with fail
     go_ret
     first | exact ⟨rfl, hb⟩ | exact ⟨ret_bool (by simp_all), hb⟩
    ·have hr : rightV ⟨1, vn⟩ 1 = false := by simp [rightV, h3, h4]
     rw [hr]
     go_enter Tryz.func24, Tryz.ntmps24
     go_wp2_with fail
     go_ret
     first | exact ⟨rfl, hb⟩ | exact ⟨ret_bool (by simp_all), hb⟩
  ·by_cases h3 : vk = 2
   ·subst h3
    by_cases h4 : -128 ≤ vn
    ·by_cases h5 : vn ≤ 127
     ·have hr : rightV ⟨2, vn⟩ 2 = true := by simp [rightV, h4, h5]
      rw [hr]
      go_enter Tryz.func24, Tryz.ntmps24
      go_wp2_with fail
      go_ret
      first | exact ⟨rfl, hb⟩ | exact ⟨ret_bool (by simp_all), hb⟩
     ·have hr : rightV ⟨2, vn⟩ 2 = false := by simp [rightV, h5]
      rw [hr]
      go_enter Tryz.func24, Tryz.ntmps24
      go_wp2_with fail
      go_ret
      first | exact ⟨rfl, hb⟩ | exact ⟨ret_bool (by simp_all), hb⟩
    ·have hr : rightV ⟨2, vn⟩ 2 = false := by simp [rightV, h4]
     rw [hr]
     go_enter Tryz.func24, Tryz.ntmps24
     go_wp2_with fail
     go_ret
     first | exact ⟨rfl, hb⟩ | exact ⟨ret_bool (by simp_all), hb⟩
   ·have hr : rightV ⟨vk, vn⟩ vk = false := by simp [rightV, h2, h3]
    rw [hr]
    go_enter Tryz.func24, Tryz.ntmps24
    go_wp2_with fail
    go_ret
    first | exact ⟨rfl, hb⟩ | exact ⟨ret_bool (by simp_all), hb⟩
 ·have hr : rightV ⟨vk, vn⟩ k = false := by simp [rightV, h1]
  rw [hr]
  go_enter Tryz.func24, Tryz.ntmps24
  go_wp2_with fail
  go_ret
  first | exact ⟨rfl, hb⟩ | exact ⟨ret_bool (by simp_all), hb⟩
theorem nilOf_any (nb : Bool) (ni k : Int) (w : World) : Calls Tryz.prog 73 #[.agg #[.bool nb, .int .i64 ni], .int .i64 k] w fun e w' => e = .returned (vlV (nilV nb ni k)) ∧ Below w.heap.size w w' := by
 have hN := heap_alloc_new w (.cells #[.bool nb, .int .i64 ni] 94)
 have hb0 : Below w.heap.size w (w.alloc (.cells #[.bool nb, .int .i64 ni] 94)) := (Below.refl _ _).alloc (Nat.le_refl _) _
 by_cases hk : k = 1
 ·subst hk
  obtain ⟨x, hx⟩ : ∃ x : Int, x = if nb then 1 else 0 := ⟨_, rfl⟩
  have hnil : nilV nb ni 1 = ⟨1, x⟩ := by simp [nilV, tv, hx]
  have htv : tv nb = ⟨1, x⟩ := by simp [tv, hx]
  rw [hnil]
  clear hnil
  go_enter Tryz.func73, Tryz.ntmps73
  go_wp2_with fail
  have hb1 : Below w.heap.size w ((w.alloc (.cells #[.bool nb, .int .i64 ni] 94)).alloc (.cells #[.int .i64 0, .int .i64 0] 25)) := hb0.alloc (by simp) _
  have hR := heap_alloc_new (w.alloc (.cells #[.bool nb, .int .i64 ni] 94)) (.cells #[.int .i64 0, .int .i64 0] 25)
  have hsz : ((w.alloc (.cells #[.bool nb, .int .i64 ni] 94)).alloc (.cells #[.int .i64 0, .int .i64 0] 25)).heap.size = w.heap.size + 2 := by simp
  rw [World.size_alloc] at hR
  generalize (w.alloc (.cells #[.bool nb, .int .i64 ni] 94)).alloc (.cells #[.int .i64 0, .int .i64 0] 25) = W at *
  have hcall := truth_any nb W
  rw [htv] at hcall
  clear htv hx
  refine hcall.mono ?_
  rintro r w3 ⟨rfl, hb3⟩
  have HB3 := Lib.hid (hb1.trans (hb3.mono (by omega)))
  have hR3 := (hb3.block (w.heap.size + 1) (by omega)).trans hR
  obtain ⟨q0, q1, f0, f1, hlw⟩ := cell2_of hR3
  obtain ⟨e0, e1, e2, e3⟩ := put2_of hR3 (.int .i64 1) (.int .i64 x)
  have E0 := Lib.hid e0
  have E1 := Lib.hid e1
  clear e0 e1 e2 e3 hR3 hN hR
  go_wp2_with fail
  have e0 := E0.out
  have e1 := E1.out
  refine bodyPost_ret (v := vlV ⟨1, x⟩) (by simp [results, Tryz.results73, go_sem, e0, e1]) rfl ?_
  exact ⟨rfl, below_put2 HB3.out (by omega) _ _⟩
 ·go_enter Tryz.func73, Tryz.ntmps73
  go_wp2_with fail
  refine bodyPost_ret (v := vlV (nilV nb ni k)) (by simp [results, Tryz.results73, go_sem, nilV, hk]) rfl ?_
  exact ⟨rfl, ((Below.refl _ _).alloc (Nat.le_refl _) _).alloc (by simp) _⟩
end Go.Proofs.YtnaijgmfjpmpjaaGreatDoor
namespace Go.Proofs.YtnaijgmfjpmpjaaGreatDoor
set_option maxRecDepth 100000
set_option maxHeartbeats 16000000
open Go.RowKit Mx
theorem fn_lt (a b : Int) (w : World) : Calls Tryz.prog 86 #[.int .i64 a, .int .i64 b] w fun e w' => e = .returned (.bool (decide (a < b))) ∧ w = w' := by
 go_enter Tryz.func86, Tryz.ntmps86
 go_wp2
 go_ret
 exact ⟨rfl, rfl⟩
theorem fn_le (a b : Int) (w : World) : Calls Tryz.prog 87 #[.int .i64 a, .int .i64 b] w fun e w' => e = .returned (.bool (decide (a ≤ b))) ∧ w = w' := by
 go_enter Tryz.func87, Tryz.ntmps87
 go_wp2
 go_ret
 exact ⟨rfl, rfl⟩
theorem fn_gt (a b : Int) (w : World) : Calls Tryz.prog 88 #[.int .i64 a, .int .i64 b] w fun e w' => e = .returned (.bool (decide (b < a))) ∧ w = w' := by
 go_enter Tryz.func88, Tryz.ntmps88
 go_wp2
 go_ret
 exact ⟨rfl, rfl⟩
theorem fn_ge (a b : Int) (w : World) : Calls Tryz.prog 89 #[.int .i64 a, .int .i64 b] w fun e w' => e = .returned (.bool (decide (b ≤ a))) ∧ w = w' := by
 go_enter Tryz.func89, Tryz.ntmps89
 go_wp2
 go_ret
 exact ⟨rfl, rfl⟩
theorem fn_add (a b : Int) (w : World) : Calls Tryz.prog 94 #[.int .i64 a, .int .i64 b] w fun e w' => e = .returned (.int .i64 (RowKit.wrap64 (a + b))) ∧ w = w' := by
 go_enter Tryz.func94, Tryz.ntmps94
 go_wp2
 go_ret
 exact ⟨rfl, rfl⟩
theorem fn_sub (a b : Int) (w : World) : Calls Tryz.prog 95 #[.int .i64 a, .int .i64 b] w fun e w' => e = .returned (.int .i64 (RowKit.wrap64 (a - b))) ∧ w = w' := by
 go_enter Tryz.func95, Tryz.ntmps95
 go_wp2
 go_ret
 exact ⟨rfl, rfl⟩
theorem fn_mul (a b : Int) (w : World) : Calls Tryz.prog 96 #[.int .i64 a, .int .i64 b] w fun e w' => e = .returned (.int .i64 (RowKit.wrap64 (a * b))) ∧ w = w' := by
 go_enter Tryz.func96, Tryz.ntmps96
 go_wp2
 go_ret
 exact ⟨rfl, rfl⟩
theorem fn_div (a b : Int) (h : b ≠ 0) (w : World) : Calls Tryz.prog 97 #[.int .i64 a, .int .i64 b] w fun e w' => e = .returned (.int .i64 (RowKit.wrap64 (a.tdiv b))) ∧ w = w' := by
 go_enter Tryz.func97, Tryz.ntmps97
 go_wp2
 go_ret
 exact ⟨rfl, rfl⟩
theorem fn_mod (a b : Int) (h : b ≠ 0) (w : World) : Calls Tryz.prog 98 #[.int .i64 a, .int .i64 b] w fun e w' => e = .returned (.int .i64 (a.tmod b)) ∧ w = w' := by
 go_enter Tryz.func98, Tryz.ntmps98
 go_wp2
 go_ret
 exact ⟨rfl, rfl⟩
theorem fn_and (a b : Bool) (w : World) : Calls Tryz.prog 90 #[.bool a, .bool b] w fun e w' => e = .returned (.bool (a && b)) ∧ w = w' := by
 cases a <;> cases b
 all_goals
  go_enter Tryz.func90, Tryz.ntmps90
  go_wp2
  go_ret
  exact ⟨rfl, rfl⟩
theorem fn_or (a b : Bool) (w : World) : Calls Tryz.prog 91 #[.bool a, .bool b] w fun e w' => e = .returned (.bool (a || b)) ∧ w = w' := by
 cases a <;> cases b
 all_goals
  go_enter Tryz.func91, Tryz.ntmps91
  go_wp2
  go_ret
  exact ⟨rfl, rfl⟩
theorem fn_xor (a b : Bool) (w : World) : Calls Tryz.prog 92 #[.bool a, .bool b] w fun e w' => e = .returned (.bool (a != b)) ∧ w = w' := by
 cases a <;> cases b
 all_goals
  go_enter Tryz.func92, Tryz.ntmps92
  go_wp2
  go_ret
  exact ⟨rfl, rfl⟩
theorem fn_imp (a b : Bool) (w : World) : Calls Tryz.prog 93 #[.bool a, .bool b] w fun e w' => e = .returned (.bool (!a || b)) ∧ w = w' := by
 cases a <;> cases b
 all_goals
  go_enter Tryz.func93, Tryz.ntmps93
  go_wp2
  go_ret
  exact ⟨rfl, rfl⟩
theorem around_wrap64 (n : Int) : around (RowKit.wrap64 n) = around n := by
 unfold around RowKit.wrap64
 have : ((n + 9223372036854775808) % 18446744073709551616 - 9223372036854775808) % 256 = n % 256 := by omega
 rw [this]
end Go.Proofs.YtnaijgmfjpmpjaaGreatDoor
namespace Go.Proofs.YtnaijgmfjpmpjaaGreatDoor
set_option maxRecDepth 100000
set_option maxHeartbeats 16000000
open Go.RowKit Mx
theorem rtruth_any (b : Bool) (w : World) : Calls Tryz.prog 31 #[.bool b] w fun e w' => e = .returned (vlV (tv b)) ∧ Below w.heap.size w w' := by
 cases b
 all_goals
  go_enter Tryz.func31, Tryz.ntmps31
  go_wp2_with fail
 ·refine bodyPost_ret (v := .agg #[.int .i64 1, .int .i64 0]) (by simp [results, Tryz.results31, go_sem]) rfl ?_
  exact ⟨rfl, (Below.refl _ _).alloc (Nat.le_refl _) _⟩
 ·refine bodyPost_ret (v := .agg #[.int .i64 1, .int .i64 1]) (by simp [results, Tryz.results31, go_sem]) rfl ?_
  exact ⟨rfl, (Below.refl _ _).alloc (Nat.le_refl _) _⟩
theorem rright_any (v : Vl) (k : Int) (w : World) : Calls Tryz.prog 28 #[vlV v, .int .i64 k] w fun e w' => e = .returned (.bool (rightV v k)) ∧ Below w.heap.size w w' := by
 obtain ⟨vk, vn⟩ := v
 have hb : Below w.heap.size w (w.alloc (.cells #[.int .i64 vk, .int .i64 vn] 25)) := (Below.refl _ _).alloc (Nat.le_refl _) _
 by_cases h1 : vk = k
 ·subst h1
  by_cases h2 : vk = 1
  ·subst h2
   by_cases h3 : vn = 0
   ·subst h3
    have hr : rightV ⟨1, 0⟩ 1 = true := by simp [rightV]
    rw [hr]
    go_enter Tryz.func28, Tryz.ntmps28
    go_wp2_with fail
    go_ret
    first | exact ⟨rfl, hb⟩ | exact ⟨ret_bool (by simp_all <;> omega), hb⟩
   ·by_cases h4 : vn = 1
    ·subst h4
     have hr : rightV ⟨1, 1⟩ 1 = true := by simp [rightV]
     rw [hr]
     go_enter Tryz.func28, Tryz.ntmps28
     go_wp2_with fail
     go_ret
     first | exact ⟨rfl, hb⟩ | exact ⟨ret_bool (by simp_all <;> omega), hb⟩
    ·have hr : rightV ⟨1, vn⟩ 1 = false := by simp [rightV, h3, h4]
     rw [hr]
     go_enter Tryz.func28, Tryz.ntmps28
     go_wp2_with fail
     go_ret
     first | exact ⟨rfl, hb⟩ | exact ⟨ret_bool (by simp_all <;> omega), hb⟩
  ·by_cases h3 : vk = 2
   ·subst h3
    by_cases h4 : -128 ≤ vn
    ·by_cases h5 : vn ≤ 127
     ·have g4 : -129 < vn := by omega
      have g5 : vn < 128 := by omega
      have hr : rightV ⟨2, vn⟩ 2 = true := by simp [rightV, h4, h5]
      rw [hr]
      go_enter Tryz.func28, Tryz.ntmps28
      go_wp2_with fail
      go_ret
      first | exact ⟨rfl, hb⟩ | exact ⟨ret_bool (by simp_all <;> omega), hb⟩
     ·have hr : rightV ⟨2, vn⟩ 2 = false := by simp [rightV, h5]
      rw [hr]
      go_enter Tryz.func28, Tryz.ntmps28
      go_wp2_with fail
      go_ret
      first | exact ⟨rfl, hb⟩ | exact ⟨ret_bool (by simp_all <;> omega), hb⟩
    ·have hr : rightV ⟨2, vn⟩ 2 = false := by simp [rightV, h4]
     rw [hr]
     go_enter Tryz.func28, Tryz.ntmps28
     go_wp2_with fail
     go_ret
     first | exact ⟨rfl, hb⟩ | exact ⟨ret_bool (by simp_all <;> omega), hb⟩
   ·have hr : rightV ⟨vk, vn⟩ vk = false := by simp [rightV, h2, h3]
    rw [hr]
    go_enter Tryz.func28, Tryz.ntmps28
    go_wp2_with fail
    go_ret
    first | exact ⟨rfl, hb⟩ | exact ⟨ret_bool (by simp_all <;> omega), hb⟩
 ·have hr : rightV ⟨vk, vn⟩ k = false := by simp [rightV, h1]
  rw [hr]
  go_enter Tryz.func28, Tryz.ntmps28
  go_wp2_with fail
  go_ret
  first | exact ⟨rfl, hb⟩ | exact ⟨ret_bool (by simp_all <;> omega), hb⟩
theorem raround_any (n : Int) (w : World) : Calls Tryz.prog 32 #[.int .i64 n] w fun r w' => r = .returned (.int .i64 (around n)) ∧ w = w' := by
 have h := around_tmod n
 have hb1 : -256 < n.tmod 256 := by
  have := Int.lt_tmod_of_pos n (show (0 : Int) < 256 by decide)
  omega
 have hb2 : n.tmod 256 < 256 := Int.tmod_lt_of_pos n (by decide)
 go_enter Tryz.func32, Tryz.ntmps32
 dsimp only at h
 generalize hm : n.tmod 256 = m at *
 by_cases h1 : m < 0
 ·rw [if_pos h1] at h
  have e1 : m + 256 ≤ 255 := by omega
  by_cases h2 : 127 < m + 256
  ·rw [if_pos h2] at h
   go_wp2_with fail
   go_ret
   exact ⟨by rw [← h]; go_num, rfl⟩
  ·rw [if_neg h2] at h
   go_wp2_with fail
   go_ret
   exact ⟨by rw [← h]; go_num, rfl⟩
 ·rw [if_neg h1] at h
  by_cases h2 : 127 < m
  ·rw [if_pos h2] at h
   go_wp2_with fail
   go_ret
   exact ⟨by rw [← h]; go_num, rfl⟩
  ·rw [if_neg h2] at h
   go_wp2_with fail
   go_ret
   exact ⟨by rw [← h]; first | rfl | go_num, rfl⟩
end Go.Proofs.YtnaijgmfjpmpjaaGreatDoor
