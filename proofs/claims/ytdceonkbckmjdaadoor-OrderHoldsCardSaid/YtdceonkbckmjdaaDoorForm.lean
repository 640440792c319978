/- Walks: tree.Form; flat.parts. -/
import Derived.Test.YtdceonkbckmjdaaDoorArity
import Derived.Deep.DeepCutAuto
namespace Go.Proofs.YtdceonkbckmjdaaDoor
open Go.RowKit Mx

theorem dLit (o : ByteArray) (l : List UInt8) : decide (o = ⟨⟨l⟩⟩) = (o.toList == l) := by
  have := bytes_eq_iff o ⟨⟨l⟩⟩
  rw [Lib.toList_data ⟨⟨l⟩⟩] at this
  exact this.symm
theorem dEmp (s : ByteArray) : decide (s.size = 0) = s.toList.isEmpty := by
  rw [Lib.toList_data]
  obtain ⟨⟨x⟩⟩ := s
  cases x <;> simp [ByteArray.size]
/-- What region 2 leaves. -/
def formA (o : ByteArray) (n : Int) (k : Nat) : Bool := arB o && (decide (arN o < 0) || (arN o == (k : Int))) && ((n == 0) || (o.toList == [105, 110, 116]) && decide (0 < n) && decide (n ≤ 127))
def formB (o s : ByteArray) : Bool := s.toList.isEmpty || (o.toList == [110, 97, 109, 101]) || (o.toList == [99, 97, 108, 108])
theorem form_eq (e : Ex) : form e = (formA e.op e.n e.l.length && formB e.op e.s) := by
  unfold form formA formB arN arB
  rw [← dEmp, ← dLit e.op [110, 97, 109, 101], ← dLit e.op [99, 97, 108, 108], ← dLit e.op [105, 110, 116]]
  have e1 : (e.n == 0) = decide (e.n = 0) := by by_cases h : e.n = 0 <;> simp [h]
  rw [e1]
  cases h : arity e.op with
  | none => simp
  | some k =>
    have e2 : (k == (e.l.length : Int)) = decide (k = e.l.length) := by by_cases h : k = e.l.length <;> simp [h]
    simp [e2]

set_option maxHeartbeats 2000000 in
set_option maxRecDepth 100000 in
theorem form_zero (H : Kn) (T : LevelsAt H) (o : ByteArray) (s : ByteArray) (k : Nat) (a : Option Addr) (cap : Nat) (w : World) (hH : H.In w) :
    Calls Tryd.prog 101 #[.agg #[.string o, .int .i64 0, .string s, .slice a k cap]] w fun r w' => r = .returned (.bool (formA o 0 k && formB o s)) ∧ Below w.heap.size w w' := by
  obtain ⟨fa, hfa⟩ : ∃ x, x = formA o 0 k := ⟨_, rfl⟩
  obtain ⟨fb, hfb⟩ : ∃ x, x = formB o s := ⟨_, rfl⟩
  rw [← hfa, ← hfb]
  unfold formA at hfa
  unfold formB at hfb
  have FA := Lib.hid hfa
  have FB := Lib.hid hfb
  clear hfa hfb
  go_enter Tryd.func101, Tryd.ntmps101
  go_upto_region 2 with (go_at_call 113; refine (arity_any H T _ _ (hH.alloc _)).mono ?_; rintro e w' ⟨rfl, rfl⟩)
  go_cut [4] (fun s4 wx => s4 = .bool fa ∧ wx = w.alloc (.cells #[.string o, .int .i64 0, .string s, .slice a k cap] 57))
  case first =>
    go_wp2_with fail
    all_goals go_meet
    all_goals refine ⟨congrArg Value.bool ?_, rfl⟩
    all_goals rw [FA.out]
    all_goals (first | (simp [*]; done) | (simp [*]; omega))
  case rest =>
    obtain ⟨rfl, rfl⟩ := hcut
    cases fa
    all_goals
      go_wp2_with fail
    all_goals go_ret
    all_goals refine ⟨ret_bool ?_, (Below.refl _ _).alloc (Nat.le_refl _) _⟩
    all_goals rw [FB.out]
    all_goals (first | (simp [*]; done) | (simp [*]; omega))

set_option maxHeartbeats 2000000 in
set_option maxRecDepth 100000 in
theorem form_some (H : Kn) (T : LevelsAt H) (o : ByteArray) (n : Int) (hn : (n == 0) = false) (s : ByteArray) (k : Nat) (a : Option Addr) (cap : Nat) (w : World) (hH : H.In w) :
    Calls Tryd.prog 101 #[.agg #[.string o, .int .i64 n, .string s, .slice a k cap]] w fun r w' => r = .returned (.bool (formA o n k && formB o s)) ∧ Below w.heap.size w w' := by
  obtain ⟨fa, hfa⟩ : ∃ x, x = formA o n k := ⟨_, rfl⟩
  obtain ⟨fb, hfb⟩ : ∃ x, x = formB o s := ⟨_, rfl⟩
  rw [← hfa, ← hfb]
  unfold formA at hfa
  unfold formB at hfb
  have FA := Lib.hid hfa
  have FB := Lib.hid hfb
  clear hfa hfb
  go_enter Tryd.func101, Tryd.ntmps101
  go_upto_region 2 with (go_at_call 113; refine (arity_any H T _ _ (hH.alloc _)).mono ?_; rintro e w' ⟨rfl, rfl⟩)
  go_cut [4] (fun s4 wx => s4 = .bool fa ∧ wx = w.alloc (.cells #[.string o, .int .i64 n, .string s, .slice a k cap] 57))
  case first =>
    go_wp2_with fail
    all_goals go_meet
    all_goals refine ⟨congrArg Value.bool ?_, rfl⟩
    all_goals rw [FA.out]
    all_goals (first | (simp [*]; done) | (simp [*]; omega))
  case rest =>
    obtain ⟨rfl, rfl⟩ := hcut
    cases fa
    all_goals
      go_wp2_with fail
    all_goals go_ret
    all_goals refine ⟨ret_bool ?_, (Below.refl _ _).alloc (Nat.le_refl _) _⟩
    all_goals rw [FB.out]
    all_goals (first | (simp [*]; done) | (simp [*]; omega))

theorem form_any (H : Kn) (T : LevelsAt H) (e : Ex) (v : Value) (hv : ExV H e v) (w : World) (hH : H.In w) :
    Calls Tryd.prog 101 #[v] w fun r w' => r = .returned (.bool (form e)) ∧ Below w.heap.size w w' := by
  obtain ⟨u, rfl, hu⟩ := hv
  obtain ⟨a, cap, rfl⟩ := hu.len
  rw [form_eq]
  cases hn : (e.n == 0) with
  | false => exact form_some H T _ _ hn _ _ _ _ _ hH
  | true =>
    have h0 : e.n = 0 := by simpa using hn
    rw [h0]
    exact form_zero H T _ _ _ _ _ _ hH
end Go.Proofs.YtdceonkbckmjdaaDoor
