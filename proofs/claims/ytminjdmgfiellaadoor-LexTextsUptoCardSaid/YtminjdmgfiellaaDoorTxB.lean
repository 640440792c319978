/- Walks: slices.EqualFunc at tokens, with lex.Text's own closure. -/
import Derived.Test.YtminjdmgfiellaaDoorTxA
namespace Go.Proofs.YtminjdmgfiellaaDoor
open Go.RowKit

def tiVal (t : Lx.TI) : Value := .agg #[.string (bs t.kind), .string (bs t.text), .int .i64 t.at_]
theorem bs_beq (a b : List UInt8) : ((bs a).toList == (bs b).toList) = decide (a = b) := by
  rw [bs_toList, bs_toList, Bool.eq_iff_iff]; simp
set_option maxRecDepth 100000 in
theorem same_any (a b : Lx.TI) (w : World) :
    Calls Tryd.prog 53 #[tiVal a, tiVal b] w fun e w' => e = .returned (.bool (decide (a.kind = b.kind) && decide (a.text = b.text))) ∧ Below w.heap.size w w' := by
  unfold tiVal
  rw [← bs_beq, ← bs_beq]
  cases h1 : ((bs a.kind).toList == (bs b.kind).toList) <;> cases h2 : ((bs a.text).toList == (bs b.text).toList)
  all_goals
    go_enter Tryd.func53, Tryd.ntmps53
    go_wp2_with fail
    go_ret
    exact ⟨rfl, by go_grown⟩

set_option maxHeartbeats 1000000 in
set_option maxRecDepth 100000 in
theorem eqf_any (v1 v2 : Value) (l m : List Lx.TI) (w : World) (h1 : TisW w v1 l) (h2 : TisW w v2 m) (hl : l.length ≤ 1048576) (hm : m.length ≤ 1048576) :
    Calls Tryd.prog 52 #[v1, v2, .func (.func 53) #[] #[]] w fun e w' =>
      e = .returned (.bool (decide (l.map Lx.kti = m.map Lx.kti))) ∧ Below w.heap.size w w' := by
  by_cases hlm : l.length = m.length
  · by_cases hl0 : l = []
    · subst hl0
      have hm0 : m = [] := List.eq_nil_of_length_eq_zero hlm.symm
      subst hm0
      obtain ⟨o1, c1, rfl⟩ := h1.len
      obtain ⟨o2, c2, rfl⟩ := h2.len
      go_enter Tryd.func52, Tryd.ntmps52
      go_wp2_with fail
      go_rounds 1
      all_goals go_ret
      exact ⟨rfl, Below.refl _ _⟩
    · rcases h1 with ⟨h, _⟩ | ⟨g1, o1, cap1, rfl, a1, a2, a3, a4⟩
      · exact absurd h hl0
      rcases h2 with ⟨h, _⟩ | ⟨g2, o2, cap2, rfl, b1, b2, b3, b4⟩
      · subst h; exact absurd (List.eq_nil_of_length_eq_zero hlm) hl0
      have HA := Lib.hid a4
      have HB := Lib.hid b4
      have HLM := Lib.hid hlm
      rw [← hlm] at b1 ⊢
      clear a4 b4 hlm
      unfold maxLen at a2 b2
      go_enter Tryd.func52, Tryd.ntmps52
      go_wp2_with fail
      go_loopw [17] (fun i wr => ∃ k : Nat, i = .int .i64 k ∧ k ≤ l.length ∧ (l.take k).map Lx.kti = (m.take k).map Lx.kti ∧ Below w.heap.size w wr) (fun i _ => l.length - (intOf i).toNat)
      case atStart => exact ⟨0, rfl, Nat.zero_le _, rfl, Below.refl _ _⟩
      case round =>
        obtain ⟨k, rfl, hk, heq, hbr⟩ := hrel
        have HE := Lib.hid heq
        clear heq
        by_cases hlt : k < l.length
        · have hkm : k < m.length := by rw [← HLM.out]; exact hlt
          obtain ⟨c0, c1, c2⟩ := HA.out k hlt
          obtain ⟨d0, d1, d2⟩ := HB.out k hkm
          rw [← hbr.cell (p := ⟨g1, o1 + k * 3, none⟩) a3] at c0
          rw [← hbr.cell (p := ⟨g1, o1 + k * 3 + 1, none⟩) a3] at c1
          rw [← hbr.cell (p := ⟨g1, o1 + k * 3 + 2, none⟩) a3] at c2
          rw [← hbr.cell (p := ⟨g2, o2 + k * 3, none⟩) b3] at d0
          rw [← hbr.cell (p := ⟨g2, o2 + k * 3 + 1, none⟩) b3] at d1
          rw [← hbr.cell (p := ⟨g2, o2 + k * 3 + 2, none⟩) b3] at d2
          have HT1 := Lib.hid (List.take_succ_eq_append_getElem hlt)
          have HT2 := Lib.hid (List.take_succ_eq_append_getElem hkm)
          have hg2 : g2 < wr.heap.size := Nat.lt_of_lt_of_le b3 hbr.size
          have HN : Hid (l.map Lx.kti = m.map Lx.kti → Lx.kti l[k] = Lx.kti m[k]) := Lib.hid (fun e => by
            have e2 : (l.map Lx.kti)[k]? = (m.map Lx.kti)[k]? := by rw [e]
            rw [List.getElem?_map, List.getElem?_map, List.getElem?_eq_getElem hlt, List.getElem?_eq_getElem hkm] at e2
            exact Option.some.inj e2)
          generalize l[k] = t1 at *
          generalize m[k] = t2 at *
          go_wp2_with fail
          refine (same_any t1 t2 _).mono ?_
          rintro e w1 ⟨rfl, hb1⟩
          have hbf : Below w.heap.size w w1 := ((hbr.alloc hbr.size _).alloc (by have := hbr.size; simp; omega) _).trans (hb1.mono (by have := hbr.size; simp; omega))
          cases hs : (decide (t1.kind = t2.kind) && decide (t1.text = t2.text))
          · have hne : decide (l.map Lx.kti = m.map Lx.kti) = false := by
              rw [decide_eq_false_iff_not]
              intro e
              have e3 := HN.out e
              have e4 : t1.kind = t2.kind := congrArg Prod.fst e3
              have e5 : t1.text = t2.text := congrArg Prod.snd e3
              rw [e4, e5] at hs
              simp at hs
            have HNE := Lib.hid hne
            clear hne
            go_wp2_with fail
            go_ret
            exact ⟨by rw [HNE.out]; rfl, hbf⟩
          · have hsame : Lx.kti t1 = Lx.kti t2 := by
              simp only [Bool.and_eq_true, decide_eq_true_eq] at hs
              exact Prod.ext hs.1 hs.2
            have HS := Lib.hid hsame
            clear hsame
            go_wp2_with fail
            go_roundw
            case rel => exact ⟨k + 1, by go_num, by omega, by rw [HT1.out, HT2.out, List.map_append, List.map_append, HE.out, List.map_singleton, List.map_singleton, HS.out], hbf⟩
            case measure => simp [intOf]; omega
        · obtain rfl : k = l.length := by omega
          go_wp2_with fail
          go_ret
          refine ⟨?_, hbr⟩
          have e := HE.out
          rw [List.take_length, HLM.out, List.take_length] at e
          rw [e]; simp
  · have hne : decide (l.map Lx.kti = m.map Lx.kti) = false := by
      rw [decide_eq_false_iff_not]
      intro e
      exact hlm (by have := congrArg List.length e; simpa using this)
    obtain ⟨o1, c1, rfl⟩ := h1.len
    obtain ⟨o2, c2, rfl⟩ := h2.len
    have hI : ((l.length : Int) == (m.length : Int)) = false := by rw [beq_eq_false_iff_ne]; omega
    have HNE := Lib.hid hne
    clear hne
    go_enter Tryd.func52, Tryd.ntmps52
    go_wp2_with fail
    go_ret
    exact ⟨by rw [HNE.out]; rfl, Below.refl _ _⟩
end Go.Proofs.YtminjdmgfiellaaDoor
