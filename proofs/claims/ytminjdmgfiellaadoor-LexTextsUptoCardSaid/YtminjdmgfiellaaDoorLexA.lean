/- Walks of the lexer's small functions: low, digit, the closures, span, gap. Each returns what Lx computes; the world is as it was. -/
import Derived.Test.YtminjdmgfiellaaDoorProg
import Derived.Test.YtminjdmgfiellaaDoorLexMath
import Derived.Test.YtminjdmgfiellaaDoorKn
import Derived.WalkKit
import Derived.WalkLawsBesides
import Derived.Lib.Hide
import Derived.Lib.Strings
import Derived.Lib.IndexBytes
namespace Go.Proofs.YtminjdmgfiellaaDoor
open Go.RowKit

/-- A function from a byte to a bool that only computes. -/
def BytePred (k : Nat) (p : UInt8 → Bool) : Prop :=
  Enters Tryd.prog k ∧ ∀ (c : UInt8) (w : World), Calls Tryd.prog k #[.int .u8 c.toNat] w fun e w' => e = .returned (.bool (p c)) ∧ w = w'

theorem drop_at (s : ByteArray) (j : Nat) (h : j < s.size) : s.data.toList.drop j = s[j] :: s.data.toList.drop (j + 1) := by
  rw [List.drop_eq_getElem_cons (by simpa using h)]; rfl
theorem toNat_eq_iff (c : UInt8) (n : Nat) (h : n < 256) : ((c.toNat : Int) == (n : Int)) = (c == UInt8.ofNat n) := by
  rw [Bool.eq_iff_iff, beq_iff_eq, beq_iff_eq]
  constructor
  · intro h1
    have : c.toNat = n := by omega
    rw [← this]; simp
  · intro h1; subst h1; simp; omega

theorem low_any (c : UInt8) (w : World) :
    Calls Tryd.prog 86 #[.int .u8 c.toNat] w fun e w' => e = .returned (.bool (Lx.isLow c)) ∧ w = w' := by
  have hc : (c.toNat : Int) ≤ 255 := by have := c.toNat_lt; omega
  by_cases h1 : (97 : Int) ≤ c.toNat
  · by_cases h2 : (c.toNat : Int) ≤ 122
    · go_enter Tryd.func86, Tryd.ntmps86
      go_wp2
      go_ret
      exact ⟨ret_bool (by unfold Lx.isLow; simp; omega), rfl⟩
    · go_enter Tryd.func86, Tryd.ntmps86
      go_wp2
      go_ret
      exact ⟨ret_bool (by unfold Lx.isLow; simp; omega), rfl⟩
  · go_enter Tryd.func86, Tryd.ntmps86
    go_wp2
    go_ret
    exact ⟨ret_bool (by unfold Lx.isLow; simp; omega), rfl⟩
theorem digit_any (c : UInt8) (w : World) :
    Calls Tryd.prog 88 #[.int .u8 c.toNat] w fun e w' => e = .returned (.bool (Lx.isDig c)) ∧ w = w' := by
  have hc : (c.toNat : Int) ≤ 255 := by have := c.toNat_lt; omega
  by_cases h1 : (48 : Int) ≤ c.toNat
  · by_cases h2 : (c.toNat : Int) ≤ 57
    · go_enter Tryd.func88, Tryd.ntmps88
      go_wp2
      go_ret
      exact ⟨ret_bool (by unfold Lx.isDig; simp; omega), rfl⟩
    · go_enter Tryd.func88, Tryd.ntmps88
      go_wp2
      go_ret
      exact ⟨ret_bool (by unfold Lx.isDig; simp; omega), rfl⟩
  · go_enter Tryd.func88, Tryd.ntmps88
    go_wp2
    go_ret
    exact ⟨ret_bool (by unfold Lx.isDig; simp; omega), rfl⟩
theorem notNL_any (c : UInt8) (w : World) :
    Calls Tryd.prog 85 #[.int .u8 c.toNat] w fun e w' => e = .returned (.bool (Lx.notNL c)) ∧ w = w' := by
  have hc : (c.toNat : Int) ≤ 255 := by have := c.toNat_lt; omega
  have hq : Lx.notNL c = !((c.toNat : Int) == 10) := by rw [show (10 : Int) = ((10 : Nat) : Int) from rfl, toNat_eq_iff c 10 (by decide)]; rfl
  have HQ := Lib.hid hq
  clear hq
  go_enter Tryd.func85, Tryd.ntmps85
  go_wp2
  go_ret
  exact ⟨ret_bool (by rw [HQ.out]; rfl), rfl⟩
theorem blank_any (c : UInt8) (w : World) :
    Calls Tryd.prog 83 #[.int .u8 c.toNat] w fun e w' => e = .returned (.bool (Lx.isBl c)) ∧ w = w' := by
  have hc : (c.toNat : Int) ≤ 255 := by have := c.toNat_lt; omega
  have hq : Lx.isBl c = (((c.toNat : Int) == 32) || ((c.toNat : Int) == 10)) := by
    rw [show (10 : Int) = ((10 : Nat) : Int) from rfl, show (32 : Int) = ((32 : Nat) : Int) from rfl, toNat_eq_iff c 10 (by decide), toNat_eq_iff c 32 (by decide)]; rfl
  have HQ := Lib.hid hq
  clear hq
  cases h1 : ((c.toNat : Int) == 32) <;> cases h2 : ((c.toNat : Int) == 10)
  all_goals
    have HA := Lib.hid h1
    have HB := Lib.hid h2
    go_enter Tryd.func83, Tryd.ntmps83
    go_wp2
    go_ret
    exact ⟨ret_bool (by rw [HQ.out, HA.out, HB.out]; rfl), rfl⟩
theorem word_any (c : UInt8) (w : World) :
    Calls Tryd.prog 87 #[.int .u8 c.toNat] w fun e w' => e = .returned (.bool (Lx.isWd c)) ∧ w = w' := by
  have hc : (c.toNat : Int) ≤ 255 := by have := c.toNat_lt; omega
  have hq : Lx.isWd c = (Lx.isLow c || Lx.isDig c || ((c.toNat : Int) == 95)) := by
    rw [show (95 : Int) = ((95 : Nat) : Int) from rfl, toNat_eq_iff c 95 (by decide)]; rfl
  have HQ := Lib.hid hq
  clear hq
  cases h1 : Lx.isLow c
  · cases h2 : Lx.isDig c
    · have HA := Lib.hid h1
      have HB := Lib.hid h2
      clear h1 h2
      go_enter Tryd.func87, Tryd.ntmps87
      go_wp2_with (first | (go_at_call 86; refine (low_any _ _).mono ?_; rintro e w' ⟨rfl, rfl⟩; rw [HA.out]) | (go_at_call 88; refine (digit_any _ _).mono ?_; rintro e w' ⟨rfl, rfl⟩; rw [HB.out]))
      go_ret
      exact ⟨ret_bool (by rw [HQ.out, HA.out, HB.out]; rfl), rfl⟩
    · have HA := Lib.hid h1
      have HB := Lib.hid h2
      clear h1 h2
      go_enter Tryd.func87, Tryd.ntmps87
      go_wp2_with (first | (go_at_call 86; refine (low_any _ _).mono ?_; rintro e w' ⟨rfl, rfl⟩; rw [HA.out]) | (go_at_call 88; refine (digit_any _ _).mono ?_; rintro e w' ⟨rfl, rfl⟩; rw [HB.out]))
      go_ret
      exact ⟨ret_bool (by rw [HQ.out, HA.out, HB.out]; rfl), rfl⟩
  · have HA := Lib.hid h1
    clear h1
    go_enter Tryd.func87, Tryd.ntmps87
    go_wp2_with (go_at_call 86; refine (low_any _ _).mono ?_; rintro e w' ⟨rfl, rfl⟩; rw [HA.out])
    go_ret
    exact ⟨ret_bool (by rw [HQ.out, HA.out]; rfl), rfl⟩

theorem pred_low : BytePred 86 Lx.isLow := ⟨fun _ _ => by kernel_rfl, low_any⟩
theorem pred_digit : BytePred 88 Lx.isDig := ⟨fun _ _ => by kernel_rfl, digit_any⟩
theorem pred_blank : BytePred 83 Lx.isBl := ⟨fun _ _ => by kernel_rfl, blank_any⟩
theorem pred_notNL : BytePred 85 Lx.notNL := ⟨fun _ _ => by kernel_rfl, notNL_any⟩
theorem pred_word : BytePred 87 Lx.isWd := ⟨fun _ _ => by kernel_rfl, word_any⟩

set_option maxRecDepth 100000 in
theorem span_any (s : ByteArray) (k : Nat) (p : UInt8 → Bool) (hs : s.size ≤ maxLen) (hpk : BytePred k p) (w : World) :
    Calls Tryd.prog 82 #[.string s, .func (.func k) #[] #[]] w fun e w' => e = .returned (.int .i64 (Lx.span p s.data.toList)) ∧ w = w' := by
  unfold maxLen at hs
  obtain ⟨hen, hp⟩ := hpk
  have HP := Lib.hid hp
  clear hp
  unfold Enters at hen
  go_enter Tryd.func82, Tryd.ntmps82
  go_wp2
  go_loop [5] (fun i => ∃ k : Nat, k ≤ s.size ∧ i = .int .i64 k ∧ Lx.span p s.data.toList = k + Lx.span p (s.data.toList.drop k)) (fun i => s.size - (intOf i).toNat)
  case atStart => exact ⟨0, Nat.zero_le _, rfl, by simp⟩
  case round =>
    obtain ⟨j, hj, rfl, hsp⟩ := hrel
    have HS := Lib.hid hsp
    clear hsp
    by_cases hlt : j < s.size
    · have hsc := Lx.span_cons p s[j] (s.data.toList.drop (j + 1))
      rw [← drop_at s j hlt] at hsc
      have HC := Lib.hid hsc
      clear hsc
      cases hpc : p s[j]
      · have HPC := Lib.hid hpc
        clear hpc
        go_wp2_with (refine (HP.out _ _).mono ?_; rintro e w' ⟨rfl, rfl⟩; rw [HPC.out])
        go_ret
        have hsc := HC.out
        rw [HPC.out] at hsc
        exact ⟨ret_int (by rw [HS.out, hsc]; simp), rfl⟩
      · have HPC := Lib.hid hpc
        clear hpc
        go_wp2_with (refine (HP.out _ _).mono ?_; rintro e w' ⟨rfl, rfl⟩; rw [HPC.out])
        go_round
        case rel =>
          have hsc := HC.out
          rw [HPC.out] at hsc
          exact ⟨j + 1, by omega, by go_num, by rw [HS.out, hsc]; simp; omega⟩
        case measure => simp [intOf]; omega
    · go_wp2_with fail
      go_ret
      exact ⟨ret_int (by rw [HS.out, List.drop_of_length_le (by simp; omega), Lx.span_nil]; simp), rfl⟩
end Go.Proofs.YtminjdmgfiellaaDoor
