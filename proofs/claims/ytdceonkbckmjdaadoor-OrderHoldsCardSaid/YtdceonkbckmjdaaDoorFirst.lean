/- Walks: lustrumlaw2.first. -/
import Derived.Test.YtdceonkbckmjdaaDoorOck
import Derived.Test.YtdceonkbckmjdaaDoorBare
namespace Go.Proofs.YtdceonkbckmjdaaDoor
open Go.RowKit Mx

set_option maxHeartbeats 8000000 in
set_option maxRecDepth 100000 in
theorem first_any (H : Kn) (T : LevelsAt H) (sp : Nat → Addr) (w : World) (hH : H.In w) (S : Sents w sp) :
    Calls Tryd.prog 14 #[] w fun r w' => r = .returned (.bool true) ∧ Below w.heap.size w w' := by
  have hle : ∀ w1, Below w.heap.size w w1 → LevelsAt (allKn w1) := fun w1 hb => T.le (kn_le_all (hH.below hb))
  have HLE := Lib.hid hle
  clear hle
  go_enter Tryd.func14, Tryd.ntmps14
  go_wp2_with fail
  refine (lbare_any _).mono ?_
  rintro r w1 ⟨vi, vo, vl, va, vc, rfl, hp, hb1⟩
  have HB1 := Lib.hid hb1
  have HP1 := Lib.hid hp
  clear hb1 hp
  go_wp2_with fail
  refine (order_any (allKn w1) (HLE.out _ HB1.out) sp bareP _ _ _ _ _ HP1.out w1 (allKn_in w1) (S.below HB1.out) bare_sz bare_parts bare_hpick).mono ?_
  unfold OrdPost
  rw [bare_order]
  rintro r w2 ⟨hb2, v, rfl, hv⟩
  have HB2 := Lib.hid (HB1.out.trans (hb2.mono HB1.out.size))
  obtain ⟨av, cv, rfl⟩ := hv.len
  obtain ⟨b0, o0, rfl, _, d0⟩ := SlV.at hv (show 0 < [0].length by simp)
  have d0 : (allKn w2).cell b0 (o0 + 0 * 1 + 0) = some (.int .i64 0) := d0
  simp only [Nat.zero_mul, Nat.add_zero, allKn_cell] at d0
  have hl1 : ([0] : List Nat).length = 1 := rfl
  rw [hl1]
  clear hb2 hv
  go_wp2_with fail
  refine (lbare_any _).mono ?_
  rintro r w3 ⟨vi3, vo3, vl3, va3, vc3, rfl, hp3, hb3⟩
  have HB3 := Lib.hid (HB2.out.trans (hb3.mono HB2.out.size))
  have HP3 := Lib.hid hp3
  clear hb3 hp3
  go_wp2_with fail
  refine (ocheck_any (allKn w3) (HLE.out _ HB3.out) sp bareP _ _ _ _ _ HP3.out w3 (allKn_in w3) (S.below HB3.out) bare_sz bare_parts bare_hpick).mono ?_
  unfold OckPost
  rw [bare_checkM]
  rintro r w4 ⟨hb4, v, rfl, hv⟩
  have HB4 := Lib.hid (HB3.out.trans (hb4.mono HB3.out.size))
  obtain rfl : v = .nilIface := by
    rcases hv with ⟨_, h⟩ | ⟨h, _⟩
    · exact h
    · exact absurd rfl h
  clear hb4 hv
  go_wp2_with fail
  refine (lbare_any _).mono ?_
  rintro r w5 ⟨vi5, vo5, vl5, va5, vc5, rfl, hp5, hb5⟩
  have HB5 := Lib.hid (HB4.out.trans (hb5.mono HB4.out.size))
  have HP5 := Lib.hid hp5
  clear hb5 hp5
  go_wp2_with fail
  refine (lates_any (allKn w5) (HLE.out _ HB5.out) sp bareP _ _ _ _ _ HP5.out w5 (allKn_in w5) (S.below HB5.out) bare_sz bare_parts bare_hpick).mono ?_
  unfold LatePost
  rw [bare_late]
  rintro r w6 ⟨hb6, v, rfl, hv⟩
  have HB6 := Lib.hid (HB5.out.trans (hb6.mono HB5.out.size))
  obtain ⟨av6, cv6, rfl⟩ := hv.len
  obtain ⟨b6, o6, rfl, _, d6⟩ := SlV.at hv (show 0 < [(0 : Int)].length by simp)
  have d6 : (allKn w6).cell b6 (o6 + 0 * 1 + 0) = some (.int .i64 0) := d6
  simp only [Nat.zero_mul, Nat.add_zero, allKn_cell] at d6
  have hl6 : ([0] : List Int).length = 1 := rfl
  rw [hl6]
  clear hb6 hv
  go_wp2_with fail
  go_ret
  exact ⟨rfl, HB6.out⟩
end Go.Proofs.YtdceonkbckmjdaaDoor
