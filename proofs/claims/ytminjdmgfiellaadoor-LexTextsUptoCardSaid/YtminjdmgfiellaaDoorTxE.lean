/- The walk of lustrumlaw1.LexTexts: it returns true. -/
import Derived.Test.YtminjdmgfiellaaDoorTxD
namespace Go.Proofs.YtminjdmgfiellaaDoor
open Go.RowKit

set_option maxHeartbeats 1000000 in
set_option maxRecDepth 100000 in
theorem texts_nil (H : Kn) (T : LexTabs H) (p : Nat → Addr) (v : Value) (w : World) (hv : TisW w v []) (hH : H.In w) (S : Sents w p) (hE : ErrTypeLaid w) :
    Calls Tryd.prog 5 #[v] w fun e w' => e = .returned (.bool true) ∧ Below w.heap.size w w' := by
  have HV := Lib.hid hv
  obtain ⟨o, cap, rfl⟩ := hv.len
  go_enter Tryd.func5, Tryd.ntmps5
  go_wp2_with fail
  refine (one_fact H T _ hH).mono ?_
  rintro e w1 ⟨rfl, hb1⟩
  go_wp2_with fail
  go_loop [4, 5] (fun n i => n = .int .i64 0 ∧ i = .int .i64 0) (fun _ _ => 0)
  case atStart => exact ⟨rfl, rfl⟩
  case round =>
  obtain ⟨rfl, rfl⟩ := hrel
  go_wp2_with fail
  refine (tokens_any _ [] _ (HV.out.below hb1) (by decide)).mono ?_
  rintro e w2 ⟨v', rfl, hrow, hb2⟩
  have hW2 := hb1.trans (hb2.mono hb1.size)
  have HR := Lib.hid (TisW.of_row hrow)
  clear hrow
  go_wp2_with fail
  refine (Text_nil H T p v' _ HR.out (hH.below hW2) (S.below hW2)).mono ?_
  rintro e w3 ⟨hb3, ⟨hg, _⟩ | ⟨_, rfl⟩⟩
  · exact absurd hg not_good_nil
  have hW3 := hW2.trans (hb3.mono hW2.size)
  go_wp2_with fail
  refine (TT_nil _ _ (HV.out.below hW3)).mono ?_
  rintro e w4 ⟨hb4, ⟨hg, _⟩ | ⟨_, rfl⟩⟩
  · exact absurd hg not_good_nil
  have hW4 := hW3.trans (hb4.mono hW3.size)
  go_wp2_with fail
  refine (coded_sent p 2 (by omega) 3 _ (S.below hW4) (hE.below hW4)).mono ?_
  rintro e w5 ⟨rfl, hb5⟩
  have hW5 := hW4.trans (hb5.mono hW4.size)
  go_wp2_with fail
  go_ret
  exact ⟨rfl, hW5⟩

set_option maxHeartbeats 2000000 in
set_option maxRecDepth 100000 in
theorem texts_any (H : Kn) (T : LexTabs H) (p : Nat → Addr) (v : Value) (l : List Lx.TI) (hne : l ≠ []) (w : World) (hv : TisW w v l) (hl : l.length ≤ 1048576) (ht : ∀ t ∈ l, t.text.length ≤ 1048576) (hH : H.In w) (S : Sents w p) (hE : ErrTypeLaid w) :
    Calls Tryd.prog 5 #[v] w fun e w' => e = .returned (.bool true) ∧ Below w.heap.size w w' := by
  have HV := Lib.hid hv
  rcases hv with ⟨h, _⟩ | ⟨g, off, cap, rfl, h1, h2, h3, h4⟩
  · exact absurd h hne
  have H4 := Lib.hid h4
  have HTX := Lib.hid ht
  clear h4 ht
  unfold maxLen at h2
  go_enter Tryd.func5, Tryd.ntmps5
  go_wp2_with fail
  refine (one_fact H T _ hH).mono ?_
  rintro e w1 ⟨rfl, hb1⟩
  go_wp2_with fail
  go_loop [4, 5] (fun n i => ∃ k z : Nat, i = .int .i64 k ∧ k ≤ l.length ∧ n = .int .i64 z ∧ z ≤ k * 1048577) (fun _ i => l.length - (intOf i).toNat)
  case atStart => exact ⟨0, 0, rfl, Nat.zero_le _, rfl, Nat.zero_le _⟩
  case round =>
    obtain ⟨k, z, rfl, hk, rfl, hz⟩ := hrel
    have hz2 : z ≤ 1048576 * 1048577 := Nat.le_trans hz (Nat.mul_le_mul_right _ (by omega))
    by_cases hlt : k < l.length
    · have c1 := (H4.out k hlt).2.1
      rw [← hb1.cell (p := ⟨g, off + k * 3 + 1, none⟩) h3] at c1
      have htl : (bs l[k].text).size ≤ 1048576 := by rw [Lib.size_eq, bs_data]; exact HTX.out l[k] (List.getElem_mem hlt)
      generalize bs l[k].text = tx at *
      go_wp2_with fail
      go_round
      case rel => exact ⟨k + 1, z + 1 + tx.size, by go_num, by omega, by go_num, by omega⟩
      case measure => simp [intOf]; omega
    · by_cases hbig : (3000 : Int) < z
      · go_wp2_with fail
        go_ret
        exact ⟨rfl, hb1⟩
      · go_wp2_with fail
        refine (tokens_any _ l _ (HV.out.below hb1) hl).mono ?_
        rintro e w2 ⟨v', rfl, hrow, hb2⟩
        have hW2 := hb1.trans (hb2.mono hb1.size)
        have HR := Lib.hid (TisW.of_row hrow)
        clear hrow
        go_wp2_with fail
        refine (Text_any H T p v' l hne _ HR.out hl HTX.out (hH.below hW2) (S.below hW2)).mono ?_
        rintro e w3 ⟨hb3, ⟨hg, rfl⟩ | ⟨hg, rfl⟩⟩
        · have hW3 := hW2.trans (hb3.mono hW2.size)
          have HG := Lib.hid hg
          clear hg
          go_wp2_with fail
          refine (TT_any _ l hne _ (HV.out.below hW3) hl HTX.out).mono ?_
          rintro e w4 ⟨hb4, ⟨_, rfl⟩ | ⟨hng, _⟩⟩
          · have hW4 := hW3.trans (hb4.mono hW3.size)
            obtain ⟨hs6, m, hlx, hmk⟩ := HG.out
            generalize Lx.joinT l.dropLast = out at *
            have hout6 : (bs out).size ≤ 6000 := by rw [Lib.size_eq, bs_data]; exact hs6
            have hlm : m.length = l.length := by have := congrArg List.length hmk; simpa using this
            have HMK := Lib.hid hmk
            have HLX := Lib.hid hlx
            have q1 : ((bs out).toList == (bs out).toList) = true := by simp
            clear hmk hlx
            go_wp2_with fail
            refine (Lex_ok H T (bs out) hout6 _ (hH.below hW4) HLX.out).mono ?_
            rintro e w5 ⟨v2, rfl, htm, hb5⟩
            have hW5 := hW4.trans (hb5.mono hW4.size)
            obtain ⟨g2, cap2, rfl, m1, m2, m3, m4⟩ := htm
            have M4 := Lib.hid m4
            have HML := Lib.hid hlm
            rw [hlm]
            clear m4 hlm q1
            go_wp2_with fail
            go_loopw [11] (fun i wr => ∃ (j n : Nat), i = .int .i64 j ∧ j ≤ l.length ∧ wr = w5.drewN n) (fun i _ => l.length - (intOf i).toNat)
            case atStart => exact ⟨0, 0, rfl, Nat.zero_le _, rfl⟩
            case round =>
              obtain ⟨j, n2, rfl, hj, rfl⟩ := hrel
              by_cases hjl : j < l.length
              · have hjm : j < m.length := by rw [HML.out]; exact hjl
                obtain ⟨c0, c1, _⟩ := H4.out j hjl
                obtain ⟨d0, d1, _⟩ := M4.out j hjm
                rw [← hW5.cell (p := ⟨g, off + j * 3, none⟩) h3] at c0
                rw [← hW5.cell (p := ⟨g, off + j * 3 + 1, none⟩) h3] at c1
                have hkt : Lx.ktk m[j] = Lx.kti l[j] := by
                  have e2 : (m.map Lx.ktk)[j]? = (l.map Lx.kti)[j]? := by rw [HMK.out]
                  rw [List.getElem?_map, List.getElem?_map, List.getElem?_eq_getElem hjl, List.getElem?_eq_getElem hjm] at e2
                  exact Option.some.inj e2
                have k1 : m[j].kind = l[j].kind := congrArg Prod.fst hkt
                have k2 : m[j].text = l[j].text := congrArg Prod.snd hkt
                rw [k1] at d0
                rw [k2] at d1
                generalize l[j].kind = kd at *
                generalize l[j].text = tx at *
                clear k1 k2 hkt
                have e1 : ((bs kd).toList == (bs kd).toList) = true := by simp
                have e2 : ((bs tx).toList == (bs tx).toList) = true := by simp
                go_wp2_with fail
                go_quiet (fail)
                go_wp2_with fail
                go_roundw
                case rel => exact ⟨j + 1, n2 + nq, by go_num, by omega, rfl⟩
                case measure => simp [intOf]; omega
              · go_wp2_with fail
                go_ret
                exact ⟨rfl, below_drewN hW5 _⟩
          · exact absurd HG.out hng
        · have hW3 := hW2.trans (hb3.mono hW2.size)
          have HG := Lib.hid hg
          clear hg
          go_wp2_with fail
          refine (TT_any _ l hne _ (HV.out.below hW3) hl HTX.out).mono ?_
          rintro e w4 ⟨hb4, ⟨hgg, _⟩ | ⟨_, rfl⟩⟩
          · exact absurd hgg HG.out
          have hW4 := hW3.trans (hb4.mono hW3.size)
          go_wp2_with fail
          refine (coded_sent p 2 (by omega) 3 _ (S.below hW4) (hE.below hW4)).mono ?_
          rintro e w5 ⟨rfl, hb5⟩
          have hW5 := hW4.trans (hb5.mono hW4.size)
          go_wp2_with fail
          go_ret
          exact ⟨rfl, hW5⟩
end Go.Proofs.YtminjdmgfiellaaDoor
