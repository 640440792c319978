/- Walks: flow: Truth, Whole, Right; maps of closures. -/
import Derived.Test.YthihoafemahgmaaDoorNdM
import Derived.Test.YthihoafemahgmaaDoorMap
import Derived.WalkSpells
namespace Go.Proofs.YthihoafemahgmaaDoor
open Go.RowKit Mx
theorem truth_any (b : Bool) (w : World) : Calls Tryd.prog 59 #[.bool b] w fun e w' => e = .returned (vlV (tv b)) ∧ Below w.heap.size w w' := by
  cases b
  all_goals
    go_enter Tryd.func59, Tryd.ntmps59
    go_wp2_with fail
  · refine bodyPost_ret (v := .agg #[.int .i64 1, .int .i64 0]) (by simp [results, Tryd.results59, go_sem]) rfl ?_
    exact ⟨rfl, (Below.refl _ _).alloc (Nat.le_refl _) _⟩
  · refine bodyPost_ret (v := .agg #[.int .i64 1, .int .i64 1]) (by simp [results, Tryd.results59, go_sem]) rfl ?_
    exact ⟨rfl, (Below.refl _ _).alloc (Nat.le_refl _) _⟩
theorem wrap8 (n : Int) : IntKind.wrap .i8 n = around n := by
  show (if (true && decide (n % 256 ≥ 128)) = true then n % 256 - 256 else n % 256) = around n
  unfold around
  simp
theorem wrap64 (n : Int) : IntKind.wrap .i64 n = if 9223372036854775808 ≤ n % 18446744073709551616 then n % 18446744073709551616 - 18446744073709551616 else n % 18446744073709551616 := by
  show (if (true && decide (n % 18446744073709551616 ≥ 9223372036854775808)) = true then n % 18446744073709551616 - 18446744073709551616 else n % 18446744073709551616) = _
  simp
abbrev fnV (f : Nat) : Value := .func (.func f) #[] #[]
theorem wp_insert {P : Program} {w : World} {ops : Array Oper} {rest : List Oper} {o : Oper} {a : Act} {Q : Exit → Act → World → Prop} {α : Type} (V : α → Value) (t k e : TypeId) (ht : P.underlying t = some (.map k e)) (hk : P.underlying k = some .string) (b : Nat) (m : Env α) (hM : MapAt V w b m)
    (x y z : Operand) (hg : o.guard = none) (hop : o.op = Op.insert t x y z) (hx : a.eval x = .map (some b)) (s : ByteArray) (hy : a.eval y = .string s) (u : α) (hz : a.eval z = V u)
    (hK : ∀ w', MapAt V w' b (m.set s u) → Turned w w' b → wpList P ops Q rest (a.put o.dst undef) w') : wpList P ops Q (o :: rest) a w := by
  refine wpList_plain hg fun K' hK' => ?_
  obtain ⟨ob, hrun, hM'⟩ := hM.run_set ht hk s u
  unfold Oper.wp
  simp [execOp, hop, hx, hy, hz, hrun, Result.andThen]
  exact hK' _ _ (hK _ hM' ⟨ob, rfl⟩)
def testsEnv : Env Value := ((((Env.none.set oLt (fnV 75)).set oLe (fnV 76)).set oGt (fnV 77)).set oGe (fnV 78))
set_option maxHeartbeats 1000000 in
set_option maxRecDepth 100000 in
theorem tests_any (w : World) : Calls Tryd.prog 68 #[] w fun e w' => ∃ b, e = .returned (.map (some b)) ∧ MapAt (fun x => x) w' b testsEnv ∧ Below w.heap.size w w' := by
  have hmm := @run_makeMap Tryd.prog
  have hM0 := MapAt.made (fun x : Value => x) w
  have hB0 : Below w.heap.size w (w.alloc (.map #[] 0)) := (Below.refl _ _).alloc (Nat.le_refl _) _
  go_enter Tryd.func68, Tryd.ntmps68
  go_wp2_with (refine wp_insert (fun x => x) 121 9 119 Tryd.underlying121 Tryd.underlying9 w.heap.size _ (by assumption) _ _ _ rfl rfl rfl _ rfl _ rfl ?_; intro wn hMn hTn; have hBn := hTn.below (by assumption) (Nat.le_refl _))
  go_ret
  exact ⟨_, rfl, by assumption, by assumption⟩
def boolsEnv : Env Value := ((((Env.none.set oAnd (fnV 79)).set oOr (fnV 80)).set oXor (fnV 81)).set oImp (fnV 82))
set_option maxHeartbeats 1000000 in
set_option maxRecDepth 100000 in
theorem bools_any (w : World) : Calls Tryd.prog 69 #[] w fun e w' => ∃ b, e = .returned (.map (some b)) ∧ MapAt (fun x => x) w' b boolsEnv ∧ Below w.heap.size w w' := by
  have hmm := @run_makeMap Tryd.prog
  have hM0 := MapAt.made (fun x : Value => x) w
  have hB0 : Below w.heap.size w (w.alloc (.map #[] 0)) := (Below.refl _ _).alloc (Nat.le_refl _) _
  go_enter Tryd.func69, Tryd.ntmps69
  go_wp2_with (refine wp_insert (fun x => x) 125 9 123 Tryd.underlying125 Tryd.underlying9 w.heap.size _ (by assumption) _ _ _ rfl rfl rfl _ rfl _ rfl ?_; intro wn hMn hTn; have hBn := hTn.below (by assumption) (Nat.le_refl _))
  go_ret
  exact ⟨_, rfl, by assumption, by assumption⟩
def intsEnv : Env Value := (((((Env.none.set oAdd (fnV 83)).set oSub (fnV 84)).set oMul (fnV 85)).set oDiv (fnV 86)).set oMod (fnV 87))
set_option maxHeartbeats 1000000 in
set_option maxRecDepth 100000 in
theorem ints_any (w : World) : Calls Tryd.prog 70 #[] w fun e w' => ∃ b, e = .returned (.map (some b)) ∧ MapAt (fun x => x) w' b intsEnv ∧ Below w.heap.size w w' := by
  have hmm := @run_makeMap Tryd.prog
  have hM0 := MapAt.made (fun x : Value => x) w
  have hB0 : Below w.heap.size w (w.alloc (.map #[] 0)) := (Below.refl _ _).alloc (Nat.le_refl _) _
  go_enter Tryd.func70, Tryd.ntmps70
  go_wp2_with (refine wp_insert (fun x => x) 128 9 127 Tryd.underlying128 Tryd.underlying9 w.heap.size _ (by assumption) _ _ _ rfl rfl rfl _ rfl _ rfl ?_; intro wn hMn hTn; have hBn := hTn.below (by assumption) (Nat.le_refl _))
  go_ret
  exact ⟨_, rfl, by assumption, by assumption⟩
theorem whole_any (n : Int) (w : World) : Calls Tryd.prog 67 #[.int .i64 n] w fun e w' => e = .returned (vlV (wv n)) ∧ Below w.heap.size w w' := by
  have hr : IntKind.wrap .i64 (IntKind.wrap .i8 n) = around n := by
    rw [wrap8, wrap64]
    unfold around
    split <;> split <;> omega
  go_enter Tryd.func67, Tryd.ntmps67
  go_wp2_with fail
  refine bodyPost_ret (v := vlV (wv n)) (by simp [results, Tryd.results67, go_sem, hr, wv]) rfl ?_
  exact ⟨rfl, (Below.refl _ _).alloc (Nat.le_refl _) _⟩
theorem right_any (v : Vl) (k : Int) (w : World) : Calls Tryd.prog 61 #[vlV v, .int .i64 k] w fun e w' => e = .returned (.bool (rightV v k)) ∧ Below w.heap.size w w' := by
  obtain ⟨vk, vn⟩ := v
  have hb : Below w.heap.size w (w.alloc (.cells #[.int .i64 vk, .int .i64 vn] 98)) := (Below.refl _ _).alloc (Nat.le_refl _) _
  by_cases h1 : vk = k
  · subst h1
    by_cases h2 : vk = 1
    · subst h2
      by_cases h3 : vn = 0
      · subst h3
        have hr : rightV ⟨1, 0⟩ 1 = true := by simp [rightV]
        rw [hr]
        go_enter Tryd.func61, Tryd.ntmps61
        go_wp2_with fail
        go_ret
        first | exact ⟨rfl, hb⟩ | exact ⟨ret_bool (by simp_all), hb⟩
      · by_cases h4 : vn = 1
        · subst h4
          have hr : rightV ⟨1, 1⟩ 1 = true := by simp [rightV]
          rw [hr]
          go_enter Tryd.func61, Tryd.ntmps61
          go_wp2_with fail
          go_ret
          first | exact ⟨rfl, hb⟩ | exact ⟨ret_bool (by simp_all), hb⟩
        · have hr : rightV ⟨1, vn⟩ 1 = false := by simp [rightV, h3, h4]
          rw [hr]
          go_enter Tryd.func61, Tryd.ntmps61
          go_wp2_with fail
          go_ret
          first | exact ⟨rfl, hb⟩ | exact ⟨ret_bool (by simp_all), hb⟩
    · by_cases h3 : vk = 2
      · subst h3
        by_cases h4 : -128 ≤ vn
        · by_cases h5 : vn ≤ 127
          · have hr : rightV ⟨2, vn⟩ 2 = true := by simp [rightV, h4, h5]
            rw [hr]
            go_enter Tryd.func61, Tryd.ntmps61
            go_wp2_with fail
            go_ret
            first | exact ⟨rfl, hb⟩ | exact ⟨ret_bool (by simp_all), hb⟩
          · have hr : rightV ⟨2, vn⟩ 2 = false := by simp [rightV, h5]
            rw [hr]
            go_enter Tryd.func61, Tryd.ntmps61
            go_wp2_with fail
            go_ret
            first | exact ⟨rfl, hb⟩ | exact ⟨ret_bool (by simp_all), hb⟩
        · have hr : rightV ⟨2, vn⟩ 2 = false := by simp [rightV, h4]
          rw [hr]
          go_enter Tryd.func61, Tryd.ntmps61
          go_wp2_with fail
          go_ret
          first | exact ⟨rfl, hb⟩ | exact ⟨ret_bool (by simp_all), hb⟩
      · have hr : rightV ⟨vk, vn⟩ vk = false := by simp [rightV, h2, h3]
        rw [hr]
        go_enter Tryd.func61, Tryd.ntmps61
        go_wp2_with fail
        go_ret
        first | exact ⟨rfl, hb⟩ | exact ⟨ret_bool (by simp_all), hb⟩
  · have hr : rightV ⟨vk, vn⟩ k = false := by simp [rightV, h1]
    rw [hr]
    go_enter Tryd.func61, Tryd.ntmps61
    go_wp2_with fail
    go_ret
    first | exact ⟨rfl, hb⟩ | exact ⟨ret_bool (by simp_all), hb⟩
end Go.Proofs.YthihoafemahgmaaDoor
