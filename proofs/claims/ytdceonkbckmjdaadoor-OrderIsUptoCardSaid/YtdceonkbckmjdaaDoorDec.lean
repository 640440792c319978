/- Walks: R.Byte, R.below, R.Decimal. -/
import Derived.Test.YtdceonkbckmjdaaDoorProg
import Derived.Test.YtdceonkbckmjdaaDoorKn
import Derived.Test.YtdceonkbckmjdaaDoorGr
import Derived.Laws.IdiomStrings
namespace Go.Proofs.YtdceonkbckmjdaaDoor
open Go.RowKit Mx

def dig (n : Nat) : UInt8 := UInt8.ofNat (48 + n)
theorem decB_dig (n : Nat) : decB n = if n < 10 then ⟨#[dig n]⟩ else ⟨#[dig (n / 10)]⟩ ++ ⟨#[dig (n % 10)]⟩ := rfl
set_option maxHeartbeats 1000000 in
set_option maxRecDepth 100000 in
theorem byte_any (n : Nat) (hn : n ≤ 9) (m : Int) (hm : m = 48 + n) (w : World) :
    Calls Tryd.prog 97 #[.int .i64 m] w fun r w' => r = .returned (.string ⟨#[dig n]⟩) ∧ Below w.heap.size w w' := by
  subst hm
  have h8 : ((dig n).toNat : Int) = 48 + (n : Int) := by unfold dig; simp; omega
  have hcv := run_convert_bytes_back (P := Tryd.prog) (w.alloc (.cells #[.int .u8 (48 + (n : Int))] 5)) 167 9 5 ⟨w.heap.size, 0, none⟩ 1 [dig n] Tryd.underlying167 Tryd.underlying5 Tryd.underlying9 (fun j hj => by
    obtain rfl : j = 0 := by simpa using hj
    simp only [List.getElem_cons_zero]
    rw [h8]
    show (w.alloc _).cell? ⟨w.heap.size, 0, none⟩ = _
    simp)
  simp only [List.length_singleton] at hcv
  have hb : Below w.heap.size w (w.alloc (.cells #[.int .u8 (48 + (n : Int))] 5)) := (Below.refl _ _).alloc (Nat.le_refl _) _
  have HB := Lib.hid hb
  clear h8 hb
  go_enter Tryd.func97, Tryd.ntmps97
  go_wp2_with fail
  go_ret
  exact ⟨rfl, HB.out⟩
set_option maxHeartbeats 1000000 in
set_option maxRecDepth 100000 in
theorem below_one (n : Nat) (hn : n ≤ 9) (m : Int) (hm : m = -(n : Int)) (w : World) :
    Calls Tryd.prog 69 #[.int .i64 m] w fun r w' => r = .returned (.string ⟨#[dig n]⟩) ∧ Below w.heap.size w w' := by
  go_enter Tryd.func69, Tryd.ntmps69
  go_wp2_with fail
  refine (byte_any n hn _ (by omega) _).mono ?_
  rintro r w' ⟨rfl, hb⟩
  go_wp2_with fail
  go_ret
  exact ⟨rfl, hb⟩
set_option maxHeartbeats 1000000 in
set_option maxRecDepth 100000 in
theorem below_any (n : Nat) (hn : n ≤ 99) (m : Int) (hm : m = -(n : Int)) (w : World) :
    Calls Tryd.prog 69 #[.int .i64 m] w fun r w' => r = .returned (.string (decB n)) ∧ Below w.heap.size w w' := by
  by_cases h9 : n < 10
  · have := below_one n (by omega) m hm w
    rw [decB_dig, if_pos h9]
    exact this
  · have hd : m.tdiv 10 = -((n / 10 : Nat) : Int) := by subst hm; rw [Int.neg_tdiv]; rfl
    have hr : m.tmod 10 = -((n % 10 : Nat) : Int) := by subst hm; rw [Int.neg_tmod]; rfl
    go_enter Tryd.func69, Tryd.ntmps69
    go_wp2_with fail
    refine (below_one (n / 10) (by omega) _ (by omega) _).mono ?_
    rintro r w1 ⟨rfl, hb1⟩
    go_wp2_with fail
    refine (byte_any (n % 10) (by omega) _ (by omega) _).mono ?_
    rintro r w2 ⟨rfl, hb2⟩
    have HB := Lib.hid (hb1.trans (hb2.mono hb1.size))
    clear hb1 hb2
    go_wp2_with fail
    go_ret
    exact ⟨ret_str (by rw [decB_dig, if_neg h9]), HB.out⟩
set_option maxHeartbeats 1000000 in
set_option maxRecDepth 100000 in
theorem decimal_any (n : Nat) (hn : n ≤ 99) (w : World) :
    Calls Tryd.prog 23 #[.int .i64 n] w fun r w' => r = .returned (.string (decB n)) ∧ Below w.heap.size w w' := by
  go_enter Tryd.func23, Tryd.ntmps23
  go_wp2_with fail
  refine (below_any n hn _ (by omega) _).mono ?_
  rintro r w1 ⟨rfl, hb1⟩
  generalize hs : decB n = s at *
  have HS := Lib.hid hs
  clear hs
  go_wp2_with fail
  go_ret
  exact ⟨ret_str HS.out.symm, hb1⟩
end Go.Proofs.YtdceonkbckmjdaaDoor
