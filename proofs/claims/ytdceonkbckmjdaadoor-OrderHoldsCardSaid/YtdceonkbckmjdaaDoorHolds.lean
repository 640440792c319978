/- Walks: lustrumlaw2.OrderHolds. -/
import Derived.Test.YtdceonkbckmjdaaDoorGraph
import Derived.Test.YtdceonkbckmjdaaDoorFirst
import Derived.Test.YtdceonkbckmjdaaDoorFaulted


import Derived.Deep.RegionLaw
namespace Go.Proofs.YtdceonkbckmjdaaDoor
open Go.RowKit Mx

theorem least {P : Nat → Prop} : ∀ n, P n → ∃ i, i ≤ n ∧ P i ∧ ∀ j, j < i → ¬ P j := by
  intro n
  induction n using Nat.strongRecOn with
  | ind n ih =>
    intro h
    by_cases hx : ∃ j, j < n ∧ P j
    · obtain ⟨j, hj, pj⟩ := hx
      obtain ⟨i, hi, a, b⟩ := ih j hj pj
      exact ⟨i, by omega, a, b⟩
    · exact ⟨n, Nat.le_refl _, h, fun j hj pj => hx ⟨j, hj, pj⟩⟩
/-- Who comes back first. -/
theorem first_back {l : List Int} (h : 0 < l.length) : ∃ f, f < l.length ∧ (∃ t, 1 ≤ t ∧ t ≤ l.length ∧ iter (nxOf l) t f = f) ∧ ∀ j, j < f → ¬ ∃ t, 1 ≤ t ∧ t ≤ l.length ∧ iter (nxOf l) t j = j := by
  obtain ⟨i, hi, t, ht, e⟩ := someone h (fun i hi => nxOf_lt (l := l) hi)
  obtain ⟨f, hf, hp, hq⟩ := least (P := fun i => ∃ t, 1 ≤ t ∧ t ≤ l.length ∧ iter (nxOf l) t i = i) i (back_within (fun i hi => nxOf_lt hi) hi ht e)
  exact ⟨f, by omega, hp, hq⟩
theorem load5 {w wr : World} {B k m : Nat} {nx : Nat → Nat} {u1 u2 : Value} (h : HoS w wr B k m nx u1 u2) : wr.cell? ⟨B, 0, none⟩ = some (.slice none 0 0) ∧ wr.cell? ⟨B, 1, none⟩ = some u1 ∧ wr.cell? ⟨B, 2, none⟩ = some u2 ∧ wr.cell? ⟨B, 3, none⟩ = some (.slice none 0 0) ∧ wr.cell? ⟨B, 4, none⟩ = some (.slice none 0 0) := by
  simp [World.cell?, h.box]
set_option maxHeartbeats 4000000 in
set_option maxRecDepth 100000 in
theorem holds_T (l : List Int) (a : Option Addr) (c : Nat) (w : World) (hc : ∀ i (hi : i < l.length), ∃ b off, a = some ⟨b, off, none⟩ ∧ w.cell? ⟨b, off + i, none⟩ = some (.int .i64 l[i])) (hlen : l.length ≤ maxLen) (T : LevelsAt (allKn w)) (sp : Nat → Addr) (S : Sents w sp) (hE : ErrTypeLaid w) :
    Calls Tryd.prog 5 #[.slice a l.length c] w fun r w' => r = .returned (.bool true) ∧ Below w.heap.size w w' := by
  have HC := Lib.hid hc
  clear hc
  go_enter Tryd.func5, Tryd.ntmps5
  go_wp2_with fail
  refine (first_any (allKn w) T sp w (allKn_in w) S).mono ?_
  rintro r w1 ⟨rfl, hb1⟩
  have HB1 := Lib.hid hb1
  clear hb1
  by_cases h40 : 40 < l.length
  · go_wp2_with fail
    go_ret
    exact ⟨rfl, HB1.out⟩
  · have hn : l.length ≤ 40 := by omega
    obtain ⟨i0, hi0, hz0, hz1, hz2⟩ := info_parts Tryd.infoFlow
    obtain ⟨i1, hi1, hy0, hy1, hy2⟩ := info_parts Tryd.infoStr1
    go_wp2_with fail
    have hS0 : HoS w1 (w1.alloc (.cells #[.slice none 0 0, .slice none 0 0, .slice none 0 0, .slice none 0 0, .slice none 0 0] 34)) w1.heap.size 0 0 (nxOf l) (.slice none 0 0) (.slice none 0 0) :=
      ⟨(Below.refl _ _).alloc (Nat.le_refl _) _, heap_alloc_new _ _, World.ownsRow_nil _ _ _ _, World.ownsRow_nil _ _ _ _⟩
    generalize w1.alloc (.cells #[.slice none 0 0, .slice none 0 0, .slice none 0 0, .slice none 0 0, .slice none 0 0] 34) = W1 at *
    have HS0 := Lib.hid hS0
    clear hS0
    go_loopw [5] (fun i wr => ∃ (k : Nat) (u1 u2 : Value), i = .int .i64 k ∧ k ≤ l.length ∧ HoS w1 wr w1.heap.size k k (nxOf l) u1 u2) (fun i _ => l.length - (intOf i).toNat)
    case atStart => exact ⟨0, _, _, rfl, Nat.zero_le _, HS0.out⟩
    case round =>
      obtain ⟨k, u1, u2, rfl, hk, hS⟩ := hrel
      have HS := Lib.hid hS
      clear hS
      by_cases hkl : k < l.length
      · obtain ⟨b, off, rfl, cq⟩ := HC.out k hkl
        have hblt : b < w.heap.size := World.block_lt_of_cell? w ⟨b, off + k, none⟩ cq
        have cq : wr.cell? ⟨b, off + k, none⟩ = some (.int .i64 l[k]) := by
          rw [HS.out.below.cell (p := ⟨b, off + k, none⟩) (by have := HB1.out.size; show b < w1.heap.size; omega), HB1.out.cell (p := ⟨b, off + k, none⟩) hblt]; exact cq
        have hnx := nxOf_tmod l[k] l.length (by omega)
        have HNX := Lib.hid (show l[k] % (l.length : Int) = (nxOf l k : Int) from by
          have h2 := Int.emod_nonneg (l.getD k 0) (show (l.length : Int) ≠ 0 by omega)
          unfold nxOf
          rw [List.getD_eq_getElem?_getD, List.getElem?_eq_getElem hkl] at h2 ⊢
          simp at h2 ⊢
          omega)
        rw [HNX.out] at hnx
        generalize l[k] = x at *
        have hlt := Int.tmod_lt_of_pos x (show (0 : Int) < l.length by omega)
        have hgt : -(l.length : Int) < x.tmod l.length := by
          have := Int.tmod_lt_of_pos (-x) (show (0 : Int) < l.length by omega)
          rw [Int.neg_tmod] at this
          omega
        have hk99 : k ≤ 99 := by omega
        have hn99 : nxOf l k ≤ 99 := by have := nxOf_lt hkl; omega
        have q1 := HS.out.c1.1
        have q2 := HS.out.c2.1
        have hd1 := decB_size k
        have hd2 := decB_size (nxOf l k)
        have hs1 : ¬ 9223372036854775807 < 1 + (decB k).size := by omega
        have hs2 : ¬ 9223372036854775807 < 1 + (decB (nxOf l k)).size := by omega
        by_cases ht : x.tmod l.length < 0
        · rw [if_pos ht] at hnx
          go_wp2_with fail
          have q3 : wr.drew.cell? ⟨w1.heap.size, 2, none⟩ = some u2 := q2
          have hSD := HS.out.drew
          go_region_law (first | (go_simp; go_at_call 23; refine (dec_step (by assumption) (by assumption)).mono ?_; rintro r wc ⟨rfl, hSc, hc1, hc2, hc3, hc4⟩) | (refine step_append_lies _ (by rfl) _ _ _ (by rfl) (w1.heap.size + 1) 59 i0 _ 6 88 Tryd.underlying31 hi0 hz0 hz1 hz2 rfl (by omega) u2 k _ (by rfl) (HoS.fls (HoS.alloc (by assumption) _)) ⟨_, 0, none⟩ 1 1 (chCells (nxOf l) k) (by rfl) (by rfl) (by exact World.news_of_block (heap_alloc_new _ _)) (by simp [chCells, Value.oneCell']) (by omega) (by unfold maxLen; omega) (by omega) (HoS.blt (HoS.alloc (by assumption) _)) _ rfl ?_; intro gg cap' w3 hown hgrow hat hltg; obtain ⟨hf1, hf2, hf3⟩ := fls_step (HoS.alloc (by assumption) _) hown hgrow))
          all_goals generalize World.setCell _ _ _ = W at hf3 ⊢
          all_goals go_wp2_with fail
          all_goals have q4 : W.drew.cell? ⟨w1.heap.size, 1, none⟩ = some u1 := hf3.c1.1
          all_goals have hSE := hf3.drew
          all_goals go_region_law (first | (go_simp; go_at_call 23; refine (dec_step (by assumption) (by assumption)).mono ?_; rintro r wc ⟨rfl, hSc, hc1, hc2, hc3, hc4⟩) | (refine step_append_lies _ (by rfl) _ _ _ (by rfl) (w1.heap.size + 1) 9 i1 _ 1 16 Tryd.underlying23 hi1 hy0 hy1 hy2 rfl (by omega) u1 k _ (by rfl) (HoS.outs (HoS.alloc (by assumption) _)) ⟨_, 0, none⟩ 1 1 [.string (fnm k)] (by rfl) (by rfl) (by exact World.news_of_block (heap_alloc_new _ _)) (by simp [Value.oneCell']) (by omega) (by unfold maxLen; omega) (by omega) (HoS.blt (HoS.alloc (by assumption) _)) _ rfl ?_; intro gg cap' w3 hown hgrow hat hltg; obtain ⟨hf4, hf5, hf6⟩ := outs_step (HoS.alloc (by assumption) _) hown hgrow))
          all_goals go_wp2_with fail
          all_goals go_roundw
          all_goals first | exact ⟨k + 1, _, _, by go_num, by omega, hf6⟩ | (simp [intOf]; omega)
        · rw [if_neg ht] at hnx
          go_wp2_with fail
          have q3 : wr.drew.cell? ⟨w1.heap.size, 2, none⟩ = some u2 := q2
          have hSD := HS.out.drew
          go_region_law (first | (go_simp; go_at_call 23; refine (dec_step (by assumption) (by assumption)).mono ?_; rintro r wc ⟨rfl, hSc, hc1, hc2, hc3, hc4⟩) | (refine step_append_lies _ (by rfl) _ _ _ (by rfl) (w1.heap.size + 1) 59 i0 _ 6 88 Tryd.underlying31 hi0 hz0 hz1 hz2 rfl (by omega) u2 k _ (by rfl) (HoS.fls (HoS.alloc (by assumption) _)) ⟨_, 0, none⟩ 1 1 (chCells (nxOf l) k) (by rfl) (by rfl) (by exact World.news_of_block (heap_alloc_new _ _)) (by simp [chCells, Value.oneCell']) (by omega) (by unfold maxLen; omega) (by omega) (HoS.blt (HoS.alloc (by assumption) _)) _ rfl ?_; intro gg cap' w3 hown hgrow hat hltg; obtain ⟨hf1, hf2, hf3⟩ := fls_step (HoS.alloc (by assumption) _) hown hgrow))
          all_goals generalize World.setCell _ _ _ = W at hf3 ⊢
          all_goals go_wp2_with fail
          all_goals have q4 : W.drew.cell? ⟨w1.heap.size, 1, none⟩ = some u1 := hf3.c1.1
          all_goals have hSE := hf3.drew
          all_goals go_region_law (first | (go_simp; go_at_call 23; refine (dec_step (by assumption) (by assumption)).mono ?_; rintro r wc ⟨rfl, hSc, hc1, hc2, hc3, hc4⟩) | (refine step_append_lies _ (by rfl) _ _ _ (by rfl) (w1.heap.size + 1) 9 i1 _ 1 16 Tryd.underlying23 hi1 hy0 hy1 hy2 rfl (by omega) u1 k _ (by rfl) (HoS.outs (HoS.alloc (by assumption) _)) ⟨_, 0, none⟩ 1 1 [.string (fnm k)] (by rfl) (by rfl) (by exact World.news_of_block (heap_alloc_new _ _)) (by simp [Value.oneCell']) (by omega) (by unfold maxLen; omega) (by omega) (HoS.blt (HoS.alloc (by assumption) _)) _ rfl ?_; intro gg cap' w3 hown hgrow hat hltg; obtain ⟨hf4, hf5, hf6⟩ := outs_step (HoS.alloc (by assumption) _) hown hgrow))
          all_goals go_wp2_with fail
          all_goals go_roundw
          all_goals first | exact ⟨k + 1, _, _, by go_num, by omega, hf6⟩ | (simp [intOf]; omega)
      · obtain rfl : k = l.length := by omega
        have HBW := Lib.hid (HB1.out.trans (HS.out.below.mono HB1.out.size))
        obtain ⟨q0, q1, q2, q3, q4⟩ := load5 HS.out
        have hx : ∀ i, i < l.length → nxOf l i < l.length := fun i hi => nxOf_lt hi
        have HP := Lib.hid (show PrP (allKn wr) (chain (nxOf l) l.length) (.slice none 0 0) u1 u2 (.slice none 0 0) (.slice none 0 0) from ⟨.inl ⟨rfl, none, 0, rfl⟩, chain_outs HS.out.outs, chain_fls HS.out.fls, .inl ⟨rfl, none, 0, rfl⟩, .inl ⟨rfl, none, 0, rfl⟩⟩)
        obtain ⟨a1, c1, rfl, _⟩ := own_len HS.out.outs
        obtain ⟨a2, c2, rfl, _⟩ := own_len HS.out.fls
        have hpt : Ex.partsL (chain (nxOf l) l.length).terms ≤ 1000000000 := by rw [chain_terms, chain_parts, List.length_range]; omega
        have HO := Lib.hid (order_any (allKn wr) (T.le (kn_le_all (allKn_below HBW.out))) sp (chain (nxOf l) l.length) _ _ _ _ _ HP.out wr (allKn_in wr) (S.below HBW.out) (by simp [chain]; omega) hpt (chain_hpick hn hx))
        have HSW := Lib.hid (fun w2 (hb : Below wr.heap.size wr w2) => (S.below HBW.out).below hb)
        clear hpt T
        go_wp2_with fail
        refine HO.out.mono ?_
        rintro r w2 ⟨hb2, hpost⟩
        by_cases h0 : l.length = 0
        · rw [chain_none h0] at hpost
          obtain ⟨v, rfl, hv⟩ := hpost
          obtain ⟨av, cv, rfl⟩ := hv.len
          have HB2 := Lib.hid (HBW.out.trans (hb2.mono HBW.out.size))
          clear hb2 hv
          go_wp2_with fail
          refine wp_loop_rounds 1 ?_
          rw [rounds_succ]
          go_wp2_with fail
          go_ret
          exact ⟨ret_bool (by simp [h0]), HB2.out⟩
        · obtain ⟨f, hf, hret, hfst⟩ := first_back (l := l) (by omega)
          rw [chain_some hn hx f hf hret hfst] at hpost
          obtain ⟨v, rfl, hv⟩ := hpost
          have HV := Lib.hid hv
          have HB2 := Lib.hid (HBW.out.trans (hb2.mono HBW.out.size))
          have HR := Lib.hid hret
          have HF := Lib.hid hfst
          have HX := Lib.hid hx
          have HFA := Lib.hid (faulted_any sp 6 f v w2 hv (by decide) (fun _ => by decide) (HSW.out w2 hb2) (by
            have := S.big
            unfold ErrTypeLaid at hE ⊢
            rw [HB2.out.cell (p := ⟨9, 0, none⟩) (World.block_lt_of_cell? w _ hE)]; exact hE) 6 f)
          clear hret hfst hv hb2 hx q0 q1 q2 q3 q4
          go_wp2_with fail
          go_loop [9, 10] (fun bk i => ∃ k : Nat, i = .int .i64 k ∧ ((k ≤ f ∧ bk = .int .i64 (-1)) ∨ (k = f + 1 ∧ bk = .int .i64 f))) (fun _ i => l.length + 1 - (intOf i).toNat)
          case atStart => exact ⟨0, rfl, .inl ⟨Nat.zero_le _, rfl⟩⟩
          case round =>
            obtain ⟨k, rfl, hk⟩ := hrel
            rcases hk with ⟨hkf, rfl⟩ | ⟨hkf, rfl⟩
            · have hkn : k < l.length := by omega
              go_wp2_with fail
              go_loop [9, 11, 12] (fun bk at_ i => ∃ t : Nat, i = .int .i64 t ∧ t ≤ l.length ∧ ((bk = .int .i64 (-1) ∧ at_ = .int .i64 (iter (nxOf l) t k) ∧ ∀ s, 1 ≤ s → s ≤ t → iter (nxOf l) s k ≠ k) ∨ (bk = .int .i64 k ∧ k = f ∧ ∃ z, at_ = .int .i64 z))) (fun _ _ i => l.length + 1 - (intOf i).toNat)
              case atStart => exact ⟨0, rfl, Nat.zero_le _, .inl ⟨rfl, rfl, fun s h1 h2 => by omega⟩⟩
              case round =>
                obtain ⟨t, rfl, htl, ht⟩ := hrel
                rcases ht with ⟨rfl, rfl, hno⟩ | ⟨rfl, hkf2, z, rfl⟩
                · by_cases htn : t < l.length
                  · have HNO := Lib.hid hno
                    clear hno
                    have hil := iter_lt HX.out hkn t
                    have hs1 : iter (nxOf l) (t + 1) k = nxOf l (iter (nxOf l) t k) := rfl
                    generalize iter (nxOf l) t k = i at *
                    obtain ⟨b, off, rfl, cq⟩ := HC.out i hil
                    have cq : w2.cell? ⟨b, off + i, none⟩ = some (.int .i64 l[i]) := by
                      rw [HB2.out.cell (p := ⟨b, off + i, none⟩) (World.block_lt_of_cell? w ⟨b, off + i, none⟩ cq)]; exact cq
                    have hnx := nxOf_tmod l[i] l.length (by omega)
                    have HNX := Lib.hid (show l[i] % (l.length : Int) = (nxOf l i : Int) from by
                      have h2 := Int.emod_nonneg (l.getD i 0) (show (l.length : Int) ≠ 0 by omega)
                      unfold nxOf
                      rw [List.getD_eq_getElem?_getD, List.getElem?_eq_getElem hil] at h2 ⊢
                      simp at h2 ⊢
                      omega)
                    rw [HNX.out] at hnx
                    rw [← hs1] at hnx
                    have hlt := Int.tmod_lt_of_pos l[i] (show (0 : Int) < l.length by omega)
                    have hgt : -(l.length : Int) < l[i].tmod l.length := by
                      have := Int.tmod_lt_of_pos (-l[i]) (show (0 : Int) < l.length by omega)
                      rw [Int.neg_tmod] at this
                      omega
                    have HS1 := Lib.hid hs1
                    clear hs1 HNX
                    generalize l[i] = x at *
                    have HIT := Lib.hid (show iter (nxOf l) (t + 1) k = iter (nxOf l) (t + 1) k from rfl)
                    generalize hj : iter (nxOf l) (t + 1) k = j at *
                    have HJ := Lib.hid hj
                    clear hj
                    by_cases hjk : j = k
                    · have hkk : k = f := by
                        by_cases hlt : k < f
                        · exact absurd ⟨t + 1, by omega, by omega, by rw [HJ.out, hjk]⟩ (HF.out k hlt)
                        · omega
                      by_cases hz : x.tmod l.length < 0
                      · rw [if_pos hz] at hnx
                        go_wp2_with fail
                        go_round
                        case rel => exact ⟨t + 1, by go_num, by omega, .inr ⟨rfl, hkk, _, rfl⟩⟩
                        case measure => simp [intOf]; omega
                      · rw [if_neg hz] at hnx
                        go_wp2_with fail
                        go_round
                        case rel => exact ⟨t + 1, by go_num, by omega, .inr ⟨rfl, hkk, _, rfl⟩⟩
                        case measure => simp [intOf]; omega
                    · have HNO2 := Lib.hid (show ∀ s, 1 ≤ s → s ≤ t + 1 → iter (nxOf l) s k ≠ k from fun s h1 h2 => by
                        by_cases h3 : s ≤ t
                        · exact HNO.out s h1 h3
                        · obtain rfl : s = t + 1 := by omega
                          rw [HJ.out]; exact hjk)
                      have hjkI : ¬ ((j : Int) = (k : Int)) := by omega
                      by_cases hz : x.tmod l.length < 0
                      · rw [if_pos hz] at hnx
                        go_wp2_with fail
                        go_round
                        case rel => exact ⟨t + 1, by go_num, by omega, .inl ⟨rfl, by rw [HJ.out], HNO2.out⟩⟩
                        case measure => simp [intOf]; omega
                      · rw [if_neg hz] at hnx
                        go_wp2_with fail
                        go_round
                        case rel => exact ⟨t + 1, by go_num, by omega, .inl ⟨rfl, by rw [HJ.out], HNO2.out⟩⟩
                        case measure => simp [intOf]; omega
                  · have hkf3 : k < f := by
                      by_cases hkf4 : k = f
                      · obtain ⟨s, h1, h2, h3⟩ := HR.out
                        exact absurd (by rw [hkf4]; exact h3) (hno s h1 (by omega))
                      · omega
                    clear hno
                    obtain rfl : t = l.length := by omega
                    go_wp2_with fail
                    go_round
                    case rel => exact ⟨k + 1, by go_num, .inl ⟨by omega, rfl⟩⟩
                    case measure => simp [intOf]; omega
                · subst hkf2
                  by_cases htn : t < l.length
                  · go_wp2_with fail
                    go_round
                    case rel => exact ⟨k + 1, by go_num, .inr ⟨rfl, rfl⟩⟩
                    case measure => simp [intOf]; omega
                  · go_wp2_with fail
                    go_round
                    case rel => exact ⟨k + 1, by go_num, .inr ⟨rfl, rfl⟩⟩
                    case measure => simp [intOf]; omega
            · subst hkf
              have HFA2 := HFA
              by_cases hfl : f + 1 < l.length
              · go_wp2_with fail
                refine HFA.out.mono ?_
                rintro r w3 ⟨rfl, hb3⟩
                go_wp2_with fail
                go_ret
                exact ⟨ret_bool (by simp), HB2.out.trans (hb3.mono HB2.out.size)⟩
              · go_wp2_with fail
                refine HFA.out.mono ?_
                rintro r w3 ⟨rfl, hb3⟩
                go_wp2_with fail
                go_ret
                exact ⟨ret_bool (by simp), HB2.out.trans (hb3.mono HB2.out.size)⟩
end Go.Proofs.YtdceonkbckmjdaaDoor
