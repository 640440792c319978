/- Walks: lex.gap. -/
import Derived.Test.YtminjdmgfiellaaDoorLexA
import Derived.Test.YtminjdmgfiellaaDoorStr
namespace Go.Proofs.YtminjdmgfiellaaDoor
open Go.RowKit

theorem tail_data (s : ByteArray) (j : Nat) : (s.extract j s.size).data.toList = s.data.toList.drop j := by
  rw [Lib.extract_data, List.take_of_length_le]
  simp
theorem tail_size (s : ByteArray) (j : Nat) : (s.extract j s.size).size = s.size - j := by
  rw [Lib.size_eq, tail_data, List.length_drop, ← Lib.size_eq]

set_option maxRecDepth 100000 in
theorem gap_any (s : ByteArray) (hs : s.size ≤ maxLen) (w : World) :
    Calls Tryd.prog 55 #[.string s] w fun e w' => e = .returned (.int .i64 (Lx.gap s.data.toList)) ∧ w = w' := by
  have hs' := hs
  unfold maxLen at hs'
  have hlen : s.data.toList.length = s.size := (Lib.size_eq s).symm
  have HLEN := Lib.hid hlen
  clear hlen
  go_enter Tryd.func55, Tryd.ntmps55
  go_wp2_with fail
  go_loop [3] (fun i => ∃ k : Nat, k ≤ s.size ∧ i = .int .i64 k ∧ Lx.gap s.data.toList = k + Lx.gap (s.data.toList.drop k)) (fun i => s.size - (intOf i).toNat)
  case atStart => exact ⟨0, Nat.zero_le _, rfl, by simp⟩
  case round =>
    obtain ⟨j, hj, rfl, hg⟩ := hrel
    have HG := Lib.hid hg
    clear hg
    have hk := Lx.span_le Lx.isBl (s.data.toList.drop j)
    rw [List.length_drop, HLEN.out] at hk
    have hge := Lx.gap_eq (s.data.toList.drop j)
    have HGE := Lib.hid hge
    generalize hkk : Lx.span Lx.isBl (s.data.toList.drop j) = k at *
    have HK := Lib.hid hkk
    have HG1 := Lib.hid (Lx.gap1_def hkk)
    clear hkk hge
    go_wp2_with fail
    refine (span_any _ _ Lx.isBl (by rw [tail_size]; unfold maxLen; omega) pred_blank _).mono ?_
    rintro e w' ⟨rfl, rfl⟩
    rw [tail_data, HK.out]
    go_wp2_with fail
    refine (HasPrefix_any _ _ _).mono ?_
    rintro e w' ⟨rfl, rfl⟩
    rw [tail_data, show (ByteArray.mk #[45, 45]).data.toList = [45, 45] from rfl]
    have hdd : s.data.toList.drop (j + k) = (s.data.toList.drop j).drop k := by rw [List.drop_drop]
    rw [hdd]
    have HPQ : Lib.hasPrefix ((s.data.toList.drop j).drop k) [45, 45] = [45, 45].isPrefixOf ((s.data.toList.drop j).drop k) := rfl
    have HP := Lib.hid HPQ
    have HDD := Lib.hid hdd
    clear HPQ hdd
    cases hb : Lib.hasPrefix ((s.data.toList.drop j).drop k) [45, 45]
    · have h1 : Lx.gap1 (s.data.toList.drop j) = k := by rw [HG1.out, ← HP.out, hb]; rfl
      have H1 := Lib.hid h1
      clear hb h1
      by_cases hz : k = 0
      · subst hz
        go_wp2_with fail
        go_ret
        exact ⟨ret_int (by rw [HG.out, HGE.out, H1.out]; simp), rfl⟩
      · go_wp2_with fail
        go_round
        case rel => exact ⟨j + k, by omega, by go_num, by rw [HG.out, HGE.out, H1.out, if_neg hz, List.drop_drop]; omega⟩
        case measure => simp [intOf]; omega
    · have hm := Lx.span_le Lx.notNL ((s.data.toList.drop j).drop k)
      rw [List.length_drop, List.length_drop, HLEN.out] at hm
      have h1 : Lx.gap1 (s.data.toList.drop j) = k + Lx.span Lx.notNL ((s.data.toList.drop j).drop k) := by rw [HG1.out, ← HP.out, hb]; rfl
      generalize hmm : Lx.span Lx.notNL ((s.data.toList.drop j).drop k) = m at *
      have H1 := Lib.hid h1
      have HM := Lib.hid hmm
      clear hb h1 hmm
      go_wp2_with fail
      refine (span_any _ _ Lx.notNL (by rw [tail_size]; unfold maxLen; omega) pred_notNL _).mono ?_
      rintro e w' ⟨rfl, rfl⟩
      rw [tail_data, HDD.out, HM.out]
      by_cases hz : k + m = 0
      · obtain ⟨rfl, rfl⟩ : k = 0 ∧ m = 0 := by omega
        go_wp2_with fail
        go_ret
        exact ⟨ret_int (by rw [HG.out, HGE.out, H1.out]; simp), rfl⟩
      · go_wp2_with fail
        go_round
        case rel => exact ⟨j + (k + m), by omega, by go_num, by rw [HG.out, HGE.out, H1.out, if_neg hz, List.drop_drop]; omega⟩
        case measure => simp [intOf]; omega
end Go.Proofs.YtminjdmgfiellaaDoor
