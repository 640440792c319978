/- Walks of the document's lexer: LexOf. -/
import Derived.Test.YtminjdmgfiellaaDoorRLexC
import Derived.Test.YtminjdmgfiellaaDoorLexF
import Derived.Test.YtminjdmgfiellaaDoorRefMathB
namespace Go.Proofs.YtminjdmgfiellaaDoor
open Go.RowKit

/-- What LexOf leaves. -/
def RefPost (w : World) (s : ByteArray) (e : Ending) (w' : World) : Prop :=
  Below w.heap.size w w' ∧
  match Lx.lexAll s.data.toList with
  | .ok l => ∃ v, e = .returned (.tuple #[v, .agg #[.int .i64 0, .int .i64 (-1)]]) ∧ w'.ownsRow (w.heap.size + 1) 59 3 v l.length (flat l)
  | .error a => e = .returned (.tuple #[.slice none 0 0, .agg #[.int .i64 1, .int .i64 a]])

theorem Tryd.infoRTok : (Tryd.prog.info? 59).map (fun i => (i.zero, i.size, i.bytes)) = some (some (.agg #[.string ⟨#[]⟩, .string ⟨#[]⟩, .int .i64 0]), 3, 40) := by kernel_rfl
theorem fine_any (w : World) : Calls Tryd.prog 39 #[] w fun e w' => e = .returned (.agg #[.int .i64 0, .int .i64 (-1)]) ∧ Below w.heap.size w w' := by
  go_enter Tryd.func39, Tryd.ntmps39
  go_wp2
  go_returns
  exact ⟨rfl, by go_grown⟩
theorem bare_any (c : Int) (w : World) : Calls Tryd.prog 37 #[.int .i64 c] w fun e w' => e = .returned (.agg #[.int .i64 c, .int .i64 (-1)]) ∧ Below w.heap.size w w' := by
  go_enter Tryd.func37, Tryd.ntmps37
  go_wp2
  go_returns
  exact ⟨rfl, by go_grown⟩

theorem dash_eq (s : ByteArray) (k : Nat) (h : k + 1 < s.size) : ((s.extract k (k + 2)).toList == [45, 45]) = [45, 45].isPrefixOf (s.data.toList.drop k) := by
  have h1 := drop_at s k (by omega)
  have h2 := drop_at s (k + 1) h
  rw [Lib.toList_data, Lib.extract_data, h1, h2]
  simp [show k + 2 - k = 2 from by omega, List.isPrefixOf]
  rw [Bool.beq_comm (a := s[k]), Bool.beq_comm (a := s[k + 1])]
theorem cells2_of {W : World} {b : Nat} {x y : Value} {t : TypeId} (h : W.heap[b]? = some (.cells #[x, y] t (0, 0))) :
    W.cell? ⟨b, 0, none⟩ = some x ∧ W.cell? ⟨b, 1, none⟩ = some y ∧ W.frozen? ⟨b, 0, none⟩ = false ∧ W.frozen? ⟨b, 1, none⟩ = false ∧ b < W.heap.size :=
  ⟨by simp [World.cell?, h], by simp [World.cell?, h], by simp [World.frozen?, h], by simp [World.frozen?, h], (Array.getElem?_eq_some_iff.1 h).1⟩
theorem set2_of {W : World} {b : Nat} {x y : Value} {t : TypeId} (h : W.heap[b]? = some (.cells #[x, y] t (0, 0))) (u v : Value) :
    (W.setCell ⟨b, 0, none⟩ u).cell? ⟨b, 0, none⟩ = some u ∧ ((W.setCell ⟨b, 0, none⟩ u).setCell ⟨b, 1, none⟩ v).cell? ⟨b, 1, none⟩ = some v ∧
    (∀ o, (((W.setCell ⟨b, 0, none⟩ u).setCell ⟨b, 1, none⟩ v).alloc o).cell? ⟨b, 0, none⟩ = some u) ∧ (∀ o, (((W.setCell ⟨b, 0, none⟩ u).setCell ⟨b, 1, none⟩ v).alloc o).cell? ⟨b, 1, none⟩ = some v) := by
  have h1 : (W.setCell ⟨b, 0, none⟩ u).heap[b]? = some (.cells #[u, y] t (0, 0)) := by
    show (W.heap.modify b _)[b]? = _
    rw [Array.getElem?_modify, if_pos rfl, h]; rfl
  have h2 : ((W.setCell ⟨b, 0, none⟩ u).setCell ⟨b, 1, none⟩ v).heap[b]? = some (.cells #[u, v] t (0, 0)) := by
    generalize W.setCell ⟨b, 0, none⟩ u = W1 at *
    show (W1.heap.modify b _)[b]? = _
    rw [Array.getElem?_modify, if_pos rfl, h1]; rfl
  refine ⟨by simp [World.cell?, h1], by simp [World.cell?, h2], fun o => ?_, fun o => ?_⟩
  · rw [World.cell?_alloc_past _ _ _ (Array.getElem?_eq_some_iff.1 h2).1]; simp [World.cell?, h2]
  · rw [World.cell?_alloc_past _ _ _ (Array.getElem?_eq_some_iff.1 h2).1]; simp [World.cell?, h2]
theorem bs_size' (a : List UInt8) : (bs a).size = a.length := by rw [Lib.size_eq, bs_data]
theorem dash_len (s : ByteArray) (k : Nat) (h : [45, 45].isPrefixOf (s.data.toList.drop k) = true) : k + 1 < s.size := by
  rw [List.isPrefixOf_iff_prefix] at h
  have := h.length_le
  rw [List.length_drop, ← Lib.size_eq] at this
  simp at this
  omega
theorem line_in (s : ByteArray) (k i : Nat) (h : i < s.size) (h1 : k ≤ i) (h2 : i < k + Lx.span Lx.notNL (s.data.toList.drop k)) : ((s[i].toNat : Int) == 10) = false := by
  have hl : i - k < (s.data.toList.drop k).length := by rw [List.length_drop, ← Lib.size_eq]; omega
  have := Lx.span_in Lx.notNL (s.data.toList.drop k) (i - k) (by omega) hl
  have e : (s.data.toList.drop k)[i - k] = s[i] := by
    rw [List.getElem_drop]
    simp only [show k + (i - k) = i from by omega]
    rfl
  rw [e] at this
  rw [show (10 : Int) = ((10 : Nat) : Int) from rfl, toNat_eq_iff s[i] 10 (by decide)]
  simpa [Lx.notNL] using this
theorem line_out (s : ByteArray) (k : Nat) (h : k + Lx.span Lx.notNL (s.data.toList.drop k) < s.size) : ((s[k + Lx.span Lx.notNL (s.data.toList.drop k)].toNat : Int) == 10) = true := by
  have hl : Lx.span Lx.notNL (s.data.toList.drop k) < (s.data.toList.drop k).length := by rw [List.length_drop, ← Lib.size_eq]; omega
  have := Lx.span_out Lx.notNL (s.data.toList.drop k) hl
  have e : (s.data.toList.drop k)[Lx.span Lx.notNL (s.data.toList.drop k)] = s[k + Lx.span Lx.notNL (s.data.toList.drop k)] := by
    rw [List.getElem_drop]
    rfl
  rw [e] at this
  rw [show (10 : Int) = ((10 : Nat) : Int) from rfl, toNat_eq_iff _ 10 (by decide)]
  simpa [Lx.notNL] using this

set_option maxHeartbeats 2000000 in
set_option maxRecDepth 100000 in
theorem LexOf_any (s : ByteArray) (hs : s.size ≤ 6000) (w : World) :
    Calls Tryd.prog 54 #[.string s] w (RefPost w s) := by
  have hlen : s.data.toList.length = s.size := (Lib.size_eq s).symm
  have HLEN := Lib.hid hlen
  have HST := Lib.hid (Lx.refAt_start s.data.toList)
  clear hlen
  go_enter Tryd.func54, Tryd.ntmps54
  go_wp2_with fail
  generalize hW0 : w.alloc (.cells #[.int .i64 0, .int .i64 0] 42) = W0 at *
  have hz0 : W0.heap.size = w.heap.size + 1 := by rw [← hW0]; simp
  have hB0 : Below w.heap.size w W0 := by rw [← hW0]; exact (Below.refl _ _).alloc (Nat.le_refl _) _
  have hc00 : W0.heap[w.heap.size]? = some (.cells #[.int .i64 0, .int .i64 0] 42 (0, 0)) := by rw [← hW0]; exact heap_alloc_new _ _
  have HZ := Lib.hid hz0
  have HC0 := Lib.hid hc00
  clear hW0 hz0 hc00
  go_loopw [4, 5] (fun v i wr => ∃ (k : Nat) (acc : List Lx.Tk), i = .int .i64 k ∧ k ≤ s.size ∧ acc.length ≤ k ∧ wr.ownsRow (w.heap.size + 1) 59 3 v acc.length (flat acc) ∧ Below (w.heap.size + 1) W0 wr ∧ Lx.lexAll s.data.toList = Lx.onto acc (Lx.refAt s.data.toList k)) (fun _ i _ => s.size - (intOf i).toNat)
  case atStart => exact ⟨0, [], rfl, Nat.zero_le _, Nat.zero_le _, World.ownsRow_nil _ _ _ _, Below.refl _ _, by rw [Lx.onto_nil, HST.out]⟩
  case round =>
    obtain ⟨k, acc, rfl, hk, hak, hown, hbr, hlex⟩ := hrel
    have HLX := Lib.hid hlex
    have hszr : w.heap.size + 1 ≤ wr.heap.size := by have := hbr.size; rw [HZ.out] at this; exact this
    have hfc : wr.heap[w.heap.size]? = some (.cells #[.int .i64 0, .int .i64 0] 42 (0, 0)) := by rw [hbr.block _ (by omega)]; exact HC0.out
    have hfl : Below w.heap.size w wr := hB0.trans (hbr.mono (by omega))
    have HFC := Lib.hid hfc
    clear hlex hfc
    by_cases hlt : k < s.size
    · have hkl : k < s.data.toList.length := by rw [HLEN.out]; exact hlt
      have hdc := drop_at s k hlt
      have hisb : Lx.isBl s[k] = (((s[k].toNat : Int) == 32) || ((s[k].toNat : Int) == 10)) := by
        rw [show (10 : Int) = ((10 : Nat) : Int) from rfl, show (32 : Int) = ((32 : Nat) : Int) from rfl, toNat_eq_iff s[k] 10 (by decide), toNat_eq_iff s[k] 32 (by decide)]; rfl
      have HDC := Lib.hid hdc
      have HIB := Lib.hid hisb
      clear hdc hisb
      cases h32 : ((s[k].toNat : Int) == 32)
      · cases h10 : ((s[k].toNat : Int) == 10)
        · have hb : Lx.isBl s[k] = false := by rw [HIB.out, h32, h10]; rfl
          have hq : ∀ h : k + 1 < s.size, ((s.extract k (k + 2)).toList == [45, 45]) = [45, 45].isPrefixOf (s.data.toList.drop k) := fun h => dash_eq s k h
          have HQ := Lib.hid hq
          have HB := Lib.hid hb
          clear hq hb
          by_cases hp : [45, 45].isPrefixOf (s.data.toList.drop k) = true
          · obtain ⟨hm0, hm1, hms⟩ := Lx.refAt_comment hkl HDC.out HB.out hp
            have hk1 : k + 1 < s.size := dash_len s k hp
            have hd := (HQ.out hk1).trans hp
            have hI2 : (k : Int) + 2 ≤ s.size := by omega
            have hI3 : (k : Int) ≤ k + 2 := by omega
            have hby : ∀ i (h : i < s.size), k ≤ i → i < k + Lx.span Lx.notNL (s.data.toList.drop k) → ((s[i].toNat : Int) == 10) = false := fun i h h1 h2 => line_in s k i h h1 h2
            have hend : ∀ (h : k + Lx.span Lx.notNL (s.data.toList.drop k) < s.size), ((s[k + Lx.span Lx.notNL (s.data.toList.drop k)].toNat : Int) == 10) = true := fun h => line_out s k h
            rw [HLEN.out] at hm1
            generalize Lx.span Lx.notNL (s.data.toList.drop k) = m at *
            have HMS := Lib.hid hms
            have HBY := Lib.hid hby
            have HEND := Lib.hid hend
            clear hms hby hend hp
            obtain ⟨wo, rfl⟩ : ∃ wo : World, wo = wr := ⟨_, rfl⟩
            go_wp2_with fail
            go_loop [5] (fun i => ∃ j : Nat, k ≤ j ∧ j ≤ k + m ∧ i = .int .i64 j) (fun i => k + m - (intOf i).toNat)
            case atStart => exact ⟨k, Nat.le_refl _, by omega, rfl⟩
            case round =>
              obtain ⟨j, hj1, hj2, rfl⟩ := hrel
              by_cases hjm : j < k + m
              · have hjs : j < s.size := by omega
                have e := HBY.out j hjs hj1 hjm
                go_wp2_with fail
                go_round
                case rel => exact ⟨j + 1, by omega, by omega, by go_num⟩
                case measure => simp [intOf]; omega
              · obtain rfl : j = k + m := by omega
                by_cases hl : k + m < s.size
                · have e := HEND.out hl
                  go_wp2_with fail
                  go_roundw
                  case rel => exact ⟨k + m, acc, by go_num, by omega, by omega, hown, hbr, by rw [HLX.out, HMS.out]⟩
                  case measure => simp [intOf]; omega
                · go_wp2_with fail
                  go_roundw
                  case rel => exact ⟨k + m, acc, by go_num, by omega, by omega, hown, hbr, by rw [HLX.out, HMS.out]⟩
                  case measure => simp [intOf]; omega
          · have hp' : [45, 45].isPrefixOf (s.data.toList.drop k) = false := Bool.eq_false_iff.2 hp
            have hbad := Lx.refAt_bad hkl HDC.out HB.out hp'
            have htok := Lx.refAt_tok hkl HDC.out HB.out hp'
            have hpos := Lx.refTok_pos (s.data.toList.drop k)
            have hd : ∀ h : k + 1 < s.size, ((s.extract k (k + 2)).toList == [45, 45]) = false := fun h => (HQ.out h).trans hp'
            have HD := Lib.hid hd
            have HP := Lib.hid hp'
            clear hp hp' hd
            generalize hr : Lx.refTok (s.data.toList.drop k) = r at *
            have HR := Lib.hid hr
            obtain ⟨kd, tx, ps⟩ := r
            dsimp only at *
            subst hpos
            by_cases hkd : kd = []
            · subst hkd
              have HBD := Lib.hid (hbad rfl)
              clear hbad htok hr
              by_cases hk1 : k + 1 < s.size
              · have hI2 : (k : Int) + 2 ≤ s.size := by omega
                have hI3 : (k : Int) ≤ k + 2 := by omega
                have hd := HD.out hk1
                go_wp2_with fail
                refine (tok_any _ (by rw [tail_size]; omega) (by rw [tail_size]; unfold maxLen; omega) _).mono ?_
                rintro e w1 ⟨rfl, hb1⟩
                rw [tail_data, HR.out]
                simp only [tokVal, show bs [] = (⟨#[]⟩ : ByteArray) from rfl]
                obtain ⟨hcc, hff⟩ := bcell hb1
                have hzb := hb1.size
                have hw1 : w1.heap[w.heap.size]? = some (.cells #[.int .i64 0, .int .i64 0] 42 (0, 0)) := by rw [hb1.block _ (by omega)]; exact HFC.out
                obtain ⟨q0, q1, f0, f1, hlw⟩ := cells2_of hw1
                have HW1 := Lib.hid hw1
                clear hw1
                have hfin : Below w.heap.size w w1 := hfl.trans (hb1.mono (by omega))
                go_wp2_with fail
                obtain ⟨e0, e1, e2, e3⟩ := set2_of HW1.out (.int .i64 1) (.int .i64 k)
                refine bodyPost_ret (v := .tuple #[.slice none 0 0, .agg #[.int .i64 1, .int .i64 k]]) (by simp [results, Tryd.results54, go_sem, e2, e3]) rfl ?_
                refine ⟨by go_grown, ?_⟩
                rw [HLX.out, HBD.out]
                rfl
              · go_wp2_with fail
                refine (tok_any _ (by rw [tail_size]; omega) (by rw [tail_size]; unfold maxLen; omega) _).mono ?_
                rintro e w1 ⟨rfl, hb1⟩
                rw [tail_data, HR.out]
                simp only [tokVal, show bs [] = (⟨#[]⟩ : ByteArray) from rfl]
                obtain ⟨hcc, hff⟩ := bcell hb1
                have hzb := hb1.size
                have hw1 : w1.heap[w.heap.size]? = some (.cells #[.int .i64 0, .int .i64 0] 42 (0, 0)) := by rw [hb1.block _ (by omega)]; exact HFC.out
                obtain ⟨q0, q1, f0, f1, hlw⟩ := cells2_of hw1
                have HW1 := Lib.hid hw1
                clear hw1
                have hfin : Below w.heap.size w w1 := hfl.trans (hb1.mono (by omega))
                go_wp2_with fail
                obtain ⟨e0, e1, e2, e3⟩ := set2_of HW1.out (.int .i64 1) (.int .i64 k)
                refine bodyPost_ret (v := .tuple #[.slice none 0 0, .agg #[.int .i64 1, .int .i64 k]]) (by simp [results, Tryd.results54, go_sem, e2, e3]) rfl ?_
                refine ⟨by go_grown, ?_⟩
                rw [HLX.out, HBD.out]
                rfl
            · obtain ⟨ht1, ht2, ht3⟩ := htok hkd
              have HT3 := Lib.hid (ht3 acc)
              rw [HLEN.out] at ht2
              have hne : (bs kd).toList.isEmpty = false := by rw [bs_toList]; cases kd; exact absurd rfl hkd; rfl
              clear hbad htok hr ht3
              by_cases hk1 : k + 1 < s.size
              · have hI2 : (k : Int) + 2 ≤ s.size := by omega
                have hI3 : (k : Int) ≤ k + 2 := by omega
                have hd := HD.out hk1
                go_wp2_with fail
                refine (tok_any _ (by rw [tail_size]; omega) (by rw [tail_size]; unfold maxLen; omega) _).mono ?_
                rintro e w1 ⟨rfl, hb1⟩
                rw [tail_data, HR.out]
                simp only [tokVal]
                have hown1 := owns_below hown hb1
                have hzb := hb1.size
                have hr1 : Below (w.heap.size + 1) W0 w1 := hbr.trans (hb1.mono (by omega))
                go_wp2_with (at_builtin; refine app1 57 59 3 40 _ Tryd.underlying57 Tryd.infoRTok rfl (by decide) _ _ rfl rfl (w.heap.size + 1) _ _ _ rfl ((hown1.alloc _).alloc _) ⟨w1.heap.size + 1, 0, none⟩ 1 (tokCells ⟨kd, tx, k⟩) rfl rfl ?c1 ?c2 ?c3 ?c4 ?c5 ?_)
                case c1 => exact cells3' _ _ _ _ _ _
                case c2 => simp [tokCells, Value.oneCell']
                case c3 => omega
                case c4 => omega
                case c5 => simp; omega
                intro v' w2 hown2 hg2
                have hcx : w2.cell? ⟨w1.heap.size, 1, none⟩ = some (.string (bs tx)) := hg2.cell (by simp) (fun e => by have := (hown1.lt _ e.symm).2; simp at this)
                have hsz : (bs tx).size = tx.length := bs_size' tx
                have HSZ := Lib.hid hsz
                have hb2 : Below (w.heap.size + 1) W0 w2 := ((hr1.alloc (by omega) _).alloc (by simp; omega) _).grown hg2 (by simp; omega) (fun j hj => (hown1.lt j hj).1)
                rw [← hsz] at ht1 ht2
                clear hsz
                go_wp2_with fail
                go_roundw
                case rel => exact ⟨k + (bs tx).size, acc ++ [⟨kd, tx, k⟩], by go_num, by omega, by simp; omega, by rw [flat_snoc, List.length_append]; exact hown2, hb2, by rw [HLX.out, HT3.out, HSZ.out]⟩
                case measure => simp [intOf]; omega
              · go_wp2_with fail
                refine (tok_any _ (by rw [tail_size]; omega) (by rw [tail_size]; unfold maxLen; omega) _).mono ?_
                rintro e w1 ⟨rfl, hb1⟩
                rw [tail_data, HR.out]
                simp only [tokVal]
                have hown1 := owns_below hown hb1
                have hzb := hb1.size
                have hr1 : Below (w.heap.size + 1) W0 w1 := hbr.trans (hb1.mono (by omega))
                go_wp2_with (at_builtin; refine app1 57 59 3 40 _ Tryd.underlying57 Tryd.infoRTok rfl (by decide) _ _ rfl rfl (w.heap.size + 1) _ _ _ rfl ((hown1.alloc _).alloc _) ⟨w1.heap.size + 1, 0, none⟩ 1 (tokCells ⟨kd, tx, k⟩) rfl rfl ?c1 ?c2 ?c3 ?c4 ?c5 ?_)
                case c1 => exact cells3' _ _ _ _ _ _
                case c2 => simp [tokCells, Value.oneCell']
                case c3 => omega
                case c4 => omega
                case c5 => simp; omega
                intro v' w2 hown2 hg2
                have hcx : w2.cell? ⟨w1.heap.size, 1, none⟩ = some (.string (bs tx)) := hg2.cell (by simp) (fun e => by have := (hown1.lt _ e.symm).2; simp at this)
                have hsz : (bs tx).size = tx.length := bs_size' tx
                have HSZ := Lib.hid hsz
                have hb2 : Below (w.heap.size + 1) W0 w2 := ((hr1.alloc (by omega) _).alloc (by simp; omega) _).grown hg2 (by simp; omega) (fun j hj => (hown1.lt j hj).1)
                rw [← hsz] at ht1 ht2
                clear hsz
                go_wp2_with fail
                go_roundw
                case rel => exact ⟨k + (bs tx).size, acc ++ [⟨kd, tx, k⟩], by go_num, by omega, by simp; omega, by rw [flat_snoc, List.length_append]; exact hown2, hb2, by rw [HLX.out, HT3.out, HSZ.out]⟩
                case measure => simp [intOf]; omega
        · have hst := Lx.refAt_blank hkl HDC.out (by rw [HIB.out, h32, h10]; rfl)
          have HS := Lib.hid hst
          clear hst
          go_wp2_with fail
          go_roundw
          case rel => exact ⟨k + 1, acc, by go_num, by omega, by omega, hown, hbr, by rw [HLX.out, HS.out]⟩
          case measure => simp [intOf]; omega
      · have hst := Lx.refAt_blank hkl HDC.out (by rw [HIB.out, h32]; rfl)
        have HS := Lib.hid hst
        clear hst
        go_wp2_with fail
        go_roundw
        case rel => exact ⟨k + 1, acc, by go_num, by omega, by omega, hown, hbr, by rw [HLX.out, HS.out]⟩
        case measure => simp [intOf]; omega
    · have hlast : Lx.lexAll s.data.toList = .ok (acc ++ [⟨Lx.kEnd, [], s.size⟩]) := by
        have e : k = s.data.toList.length := by rw [HLEN.out]; omega
        rw [HLX.out, e, Lx.refAt_end, HLEN.out]; rfl
      have HLAST := Lib.hid hlast
      clear hlast HLX
      go_wp2_with (at_builtin; refine app1 57 59 3 40 _ Tryd.underlying57 Tryd.infoRTok rfl (by decide) _ _ rfl rfl (w.heap.size + 1) _ _ _ rfl (hown.alloc _) ⟨wr.heap.size, 0, none⟩ 1 (tokCells ⟨Lx.kEnd, [], s.size⟩) rfl rfl ?c1 ?c2 ?c3 ?c4 ?c5 ?_)
      case c1 => exact cells3 _ _ _ _ _
      case c2 => simp [tokCells, Value.oneCell']
      case c3 => omega
      case c4 => omega
      case c5 => simp; omega
      intro v' w1 hown1 hg1
      have hb1 : Below (w.heap.size + 1) W0 w1 := (hbr.alloc hszr _).grown hg1 (by simp; omega) (fun j hj => (hown.lt j hj).1)
      have hw1 : w1.heap[w.heap.size]? = some (.cells #[.int .i64 0, .int .i64 0] 42 (0, 0)) := by rw [hb1.block _ (by omega)]; exact HC0.out
      go_wp2_with fail
      refine (fine_any _).mono ?_
      rintro e w2 ⟨rfl, hb2⟩
      have hlw1 := (cells2_of hw1).2.2.2.2
      have hw2 : w2.heap[w.heap.size]? = some (.cells #[.int .i64 0, .int .i64 0] 42 (0, 0)) := by rw [hb2.block _ hlw1]; exact hw1
      obtain ⟨q0, q1, f0, f1, hlw⟩ := cells2_of hw2
      obtain ⟨e0, e1, e2, e3⟩ := set2_of hw2 (.int .i64 0) (.int .i64 (-1))
      have E0 := Lib.hid e0
      have E1 := Lib.hid e1
      clear e0 e1 e2 e3
      have hfin : Below w.heap.size w w2 := (hB0.trans (hb1.mono (by omega))).trans (hb2.mono (by omega))
      have hown2 := owns_below hown1 hb2
      clear hw1 hw2
      go_wp2_with fail
      have e0 := E0.out
      have e1 := E1.out
      refine bodyPost_ret (v := .tuple #[v', .agg #[.int .i64 0, .int .i64 (-1)]]) (by simp [results, Tryd.results54, go_sem, e0, e1]) rfl ?_
      refine ⟨by go_grown, ?_⟩
      rw [HLAST.out]
      refine ⟨v', rfl, ?_⟩
      rw [flat_snoc, List.length_append]
      exact ownsRow_setCell_below (ownsRow_setCell_below hown2 (by simp) _) (by simp) _
theorem LexOf_long (s : ByteArray) (hs : ¬ s.size ≤ 6000) (hm : s.size ≤ maxLen) (w : World) :
    Calls Tryd.prog 54 #[.string s] w fun e w' => e = .returned (.tuple #[.slice none 0 0, .agg #[.int .i64 2, .int .i64 (-1)]]) ∧ Below w.heap.size w w' := by
  unfold maxLen at hm
  have hlong : (6000 : Int) < s.size := by omega
  go_enter Tryd.func54, Tryd.ntmps54
  go_wp2_with fail
  refine (bare_any _ _).mono ?_
  rintro e w1 ⟨rfl, hb⟩
  have hw1 : w1.heap[w.heap.size]? = some (.cells #[.int .i64 0, .int .i64 0] 42 (0, 0)) := by rw [hb.block _ (by simp)]; exact heap_alloc_new _ _
  obtain ⟨q0, q1, f0, f1, hlw⟩ := cells2_of hw1
  obtain ⟨e0, e1, e2, e3⟩ := set2_of hw1 (.int .i64 2) (.int .i64 (-1))
  have E0 := Lib.hid e0
  have E1 := Lib.hid e1
  have hfin : Below w.heap.size w w1 := ((Below.refl _ _).alloc (Nat.le_refl _) _).trans (hb.mono (by simp))
  clear e0 e1 e2 e3 hw1
  go_wp2_with fail
  have e0 := E0.out
  have e1 := E1.out
  refine bodyPost_ret (v := .tuple #[.slice none 0 0, .agg #[.int .i64 2, .int .i64 (-1)]]) (by simp [results, Tryd.results54, go_sem, e0, e1]) rfl ?_
  exact ⟨rfl, by go_grown⟩
end Go.Proofs.YtminjdmgfiellaaDoor
