/- The walk of lustrumlaw1.LexReads: it returns true. -/
import Derived.Test.YtpgailcmohojmaaDoorRLexD
import Derived.Test.YtpgailcmohojmaaDoorLawA
import Derived.Test.YtpgailcmohojmaaDoorCoded
namespace Go.Proofs.YtpgailcmohojmaaDoor
open Go.RowKit

theorem ToksW.of_any {w : World} {base : Nat} {t : TypeId} {v : Value} {l : List Lx.Tk} (hne : l ≠ []) (h : w.ownsRow base t 3 v l.length (flat l)) : ToksW w v l := by
  have hc := @World.ownsRow.cells w base _ 3 v l.length (flat l) h
  rcases h.2 with ⟨_, h0⟩ | ⟨g, cap, cur, rfl, _, hg, hn, hm, _, _⟩
  · exact absurd (List.eq_nil_of_length_eq_zero h0) hne
  · refine ⟨g, cap, rfl, hn, hm, (Array.getElem?_eq_some_iff.1 hg).1, fun i hi => ?_⟩
    have e : ∀ j, (⟨g, 0, none⟩ : Addr).add j = ⟨g, j, none⟩ := fun j => by unfold Addr.add; split <;> simp_all
    have h0 := flat_get l i hi 0 (by omega)
    have h1 := flat_get l i hi 1 (by omega)
    have h2 := flat_get l i hi 2 (by omega)
    refine ⟨?_, ?_, ?_⟩
    · rw [← e]; exact hc rfl _ _ h0
    · rw [← e]; exact hc rfl _ _ h1
    · rw [← e]; exact hc rfl _ _ h2

set_option maxHeartbeats 1000000 in
set_option maxRecDepth 100000 in
theorem faulted_at (p : Nat → Addr) (k : Nat) (hk : k < 9) (N : Nat) (a : Int) (w : World) (h : w.heap[N]? = some (.cells #[.int .i64 a, esv (p k)] 32 (0, 0))) (S : Sents w p) (hE : ErrTypeLaid w) :
    Calls Tryd.prog 63 #[.iface 30 (.pointer (some ⟨N, 0, none⟩)), .agg #[.int .i64 (k + 1), .int .i64 a]] w fun e w' => e = .returned (.bool true) ∧ Below w.heap.size w w' := by
  obtain ⟨q0, q1, _, _, hN⟩ := cells2_of h
  have hb0 : ∀ o, Below w.heap.size w (w.alloc o) := fun o => (Below.refl _ _).alloc (Nat.le_refl _) o
  have Q := Lib.hid (And.intro q0 q1)
  clear q0 q1 h
  have hz : ((k : Int) + 1 == 0) = false := by rw [beq_eq_false_iff_ne]; omega
  go_enter Tryd.func63, Tryd.ntmps63
  go_wp2_with fail
  refine (code_fault p k hk N a _ ?_ ?_ (S.below (hb0 _)) ?_).mono ?_
  · rw [World.cell?_alloc_past _ _ _ hN]; exact Q.out.1
  · rw [World.cell?_alloc_past _ _ _ hN]; exact Q.out.2
  · unfold ErrTypeLaid at hE ⊢
    rw [World.cell?_alloc_past _ _ _ (World.block_lt_of_cell? w _ hE)]; exact hE
  rintro e w1 ⟨rfl, hb⟩
  obtain ⟨hcc, hff⟩ := bcell hb
  have hfin : Below w.heap.size w w1 := (hb0 _).trans (hb.mono (by simp))
  have hz1 := hb.size
  simp at hz1
  have g0 : w1.cell? ⟨w.heap.size, 0, none⟩ = some (.int .i64 (k + 1)) := by rw [hcc _ _ (by simp)]; simp
  have g1 : w1.cell? ⟨w.heap.size, 1, none⟩ = some (.int .i64 a) := by rw [hcc _ _ (by simp)]; simp
  go_wp2_with fail
  go_ret
  exact ⟨rfl, hfin⟩
set_option maxHeartbeats 1000000 in
set_option maxRecDepth 100000 in
theorem faulted_bare (p : Nat → Addr) (k : Nat) (hk : k < 9) (w : World) (S : Sents w p) (hE : ErrTypeLaid w) :
    Calls Tryd.prog 63 #[esv (p k), .agg #[.int .i64 (k + 1), .int .i64 (-1)]] w fun e w' => e = .returned (.bool true) ∧ Below w.heap.size w w' := by
  have hb0 : ∀ o, Below w.heap.size w (w.alloc o) := fun o => (Below.refl _ _).alloc (Nat.le_refl _) o
  have hz : ((k : Int) + 1 == 0) = false := by rw [beq_eq_false_iff_ne]; omega
  go_enter Tryd.func63, Tryd.ntmps63
  go_wp2_with fail
  refine (code_sent p k hk _ (S.below (hb0 _)) ?_).mono ?_
  · unfold ErrTypeLaid at hE ⊢
    rw [World.cell?_alloc_past _ _ _ (World.block_lt_of_cell? w _ hE)]; exact hE
  rintro e w1 ⟨rfl, hb⟩
  obtain ⟨hcc, hff⟩ := bcell hb
  have hfin : Below w.heap.size w w1 := (hb0 _).trans (hb.mono (by simp))
  have hz1 := hb.size
  simp at hz1
  have g0 : w1.cell? ⟨w.heap.size, 0, none⟩ = some (.int .i64 (k + 1)) := by rw [hcc _ _ (by simp)]; simp
  have g1 : w1.cell? ⟨w.heap.size, 1, none⟩ = some (.int .i64 (-1)) := by rw [hcc _ _ (by simp)]; simp
  go_wp2_with fail
  go_ret
  exact ⟨rfl, hfin⟩
theorem ErrTypeLaid.below {w w' : World} (h : ErrTypeLaid w) (hb : Below w.heap.size w w') : ErrTypeLaid w' := by
  unfold ErrTypeLaid at h ⊢
  rw [hb.cell (World.block_lt_of_cell? w _ h)]; exact h

set_option maxHeartbeats 1000000 in
set_option maxRecDepth 100000 in
theorem reads_mid (H : Kn) (T : LexTabs H) (s : ByteArray) (h1 : 3000 < s.size) (h2 : s.size ≤ 6000) (w : World) (hH : H.In w) :
    Calls Tryd.prog 15 #[.string s] w fun e w' => e = .returned (.bool true) ∧ Below w.heap.size w w' := by
  have ha : (3000 : Int) < s.size := by omega
  have hb' : (s.size : Int) ≤ 6000 := by omega
  go_enter Tryd.func15, Tryd.ntmps15
  go_wp2_with fail
  refine (one_fact H T _ hH).mono ?_
  rintro e w1 ⟨rfl, hb⟩
  go_wp2_with fail
  go_ret
  exact ⟨rfl, hb⟩

set_option maxHeartbeats 1000000 in
set_option maxRecDepth 100000 in
theorem reads_long (H : Kn) (T : LexTabs H) (p : Nat → Addr) (s : ByteArray) (hs : ¬ s.size ≤ 6000) (hm : s.size ≤ maxLen) (w : World) (hH : H.In w) (S : Sents w p) (hE : ErrTypeLaid w) :
    Calls Tryd.prog 15 #[.string s] w fun e w' => e = .returned (.bool true) ∧ Below w.heap.size w w' := by
  have hm' := hm
  unfold maxLen at hm
  have ha : (6000 : Int) < s.size := by omega
  have ha2 : (3000 : Int) < s.size := by omega
  go_enter Tryd.func15, Tryd.ntmps15
  go_wp2_with fail
  refine (one_fact H T _ hH).mono ?_
  rintro e w1 ⟨rfl, hb⟩
  go_wp2_with fail
  refine (Lex_long H T s hs hm' _ (hH.below hb)).mono ?_
  rintro e w2 ⟨te, pe, rfl, hc, hb2⟩
  rw [(S.below hb).c1] at hc
  cases hc
  have hW2 := hb.trans (hb2.mono hb.size)
  go_wp2_with fail
  refine (LexOf_long s hs hm' _).mono ?_
  rintro e w3 ⟨rfl, hb3⟩
  have hW3 := hW2.trans (hb3.mono hW2.size)
  go_wp2_with fail
  have hW4 := hW3.alloc hW3.size (.cells #[.int .i64 2, .int .i64 (-1)] 57)
  refine (faulted_bare p 1 (by omega) _ (S.below hW4) (hE.below hW4)).mono ?_
  rintro e w4 ⟨rfl, hb4⟩
  have hW5 := hW4.trans (hb4.mono hW4.size)
  go_wp2_with fail
  go_ret
  exact ⟨rfl, hW5⟩

set_option maxHeartbeats 1000000 in
set_option maxRecDepth 100000 in
theorem reads_bad (H : Kn) (T : LexTabs H) (p : Nat → Addr) (s : ByteArray) (hs : s.size ≤ 3000) (w : World) (hH : H.In w) (S : Sents w p) (hE : ErrTypeLaid w) {a : Nat} (hl : Lx.lexAll s.data.toList = .error a) :
    Calls Tryd.prog 15 #[.string s] w fun e w' => e = .returned (.bool true) ∧ Below w.heap.size w w' := by
  have HL := Lib.hid hl
  clear hl
  have ha : (s.size : Int) ≤ 3000 := by omega
  go_enter Tryd.func15, Tryd.ntmps15
  go_wp2_with fail
  refine (one_fact H T _ hH).mono ?_
  rintro e w1 ⟨rfl, hb⟩
  go_wp2_with fail
  refine (Lex_bad H T s (by omega) _ (hH.below hb) HL.out).mono ?_
  rintro e w2 ⟨N, v, rfl, _, hv, hN, hb2⟩
  rw [(S.below hb).c0] at hv
  cases hv
  have hW2 := hb.trans (hb2.mono hb.size)
  have HN := Lib.hid hN
  have hNlt : N < w2.heap.size := (Array.getElem?_eq_some_iff.1 hN).1
  clear hN
  go_wp2_with fail
  refine (LexOf_any s (by omega) _).mono ?_
  rintro e w3 ⟨hb3, hp⟩
  rw [HL.out] at hp
  have hp' : e = .returned (.tuple #[.slice none 0 0, .agg #[.int .i64 1, .int .i64 a]]) := hp
  subst hp'
  clear hp
  have hW3 := hW2.trans (hb3.mono hW2.size)
  go_wp2_with fail
  have hW4 := hW3.alloc hW3.size (.cells #[.int .i64 1, .int .i64 a] 57)
  refine (faulted_at p 0 (by omega) N a _ ?_ (S.below hW4) (hE.below hW4)).mono ?_
  · rw [Below.heap_alloc _ _ _ (Nat.lt_of_lt_of_le hNlt hb3.size), hb3.block _ hNlt]; exact HN.out
  rintro e w4 ⟨rfl, hb4⟩
  have hW5 := hW4.trans (hb4.mono hW4.size)
  go_wp2_with fail
  go_ret
  exact ⟨rfl, hW5⟩

theorem lexN_many (f : Nat) : ∀ s k l, s.length + 1 - k ≤ f → k ≤ s.length → Lx.lexN f s k = .ok l → l.length ≤ s.length + 1 - k ∧ ∀ t ∈ l, t.text.length ≤ s.length := by
  induction f with
  | zero => intro s k l h1 h2; omega
  | succ f ih =>
    intro s k l h1 h2 h
    simp only [Lx.lexN] at h
    split at h
    · rename_i hk
      split at h
      · rename_i ho
        have hn := Lx.nextAt_le hk ho
        have hok := (Lx.one_ok ho).2.1
        unfold Lx.nextAt at hn
        simp only [List.length_drop] at hok
        split at h
        · rename_i l' hl'
          cases h
          have := ih s _ l' (by omega) (by omega) hl'
          refine ⟨by simp only [List.length_cons]; omega, fun t ht => ?_⟩
          rcases List.mem_cons.1 ht with rfl | ht
          · dsimp only; omega
          · exact this.2 t ht
        · cases h
      · cases h
    · cases h
      exact ⟨by simp; omega, by simp⟩
set_option maxHeartbeats 1000000 in
set_option maxRecDepth 100000 in
theorem reads_good (H : Kn) (T : LexTabs H) (s : ByteArray) (hs : s.size ≤ 3000) (w : World) (hH : H.In w) {l : List Lx.Tk} (hl : Lx.lexAll s.data.toList = .ok l) :
    Calls Tryd.prog 15 #[.string s] w fun e w' => e = .returned (.bool true) ∧ Below w.heap.size w w' := by
  have hsz := (lexN_many _ s.data.toList _ l (Nat.le_refl _) (Lx.gap_le _) hl).1
  rw [← Lib.size_eq] at hsz
  have hll : l.length ≤ 3001 := by omega
  have hne := lexAll_ne hl
  have HL := Lib.hid hl
  clear hl hsz
  have ha : (s.size : Int) ≤ 3000 := by omega
  go_enter Tryd.func15, Tryd.ntmps15
  go_wp2_with fail
  refine (one_fact H T _ hH).mono ?_
  rintro e w1 ⟨rfl, hb⟩
  go_wp2_with fail
  refine (Lex_ok H T s (by omega) _ (hH.below hb) HL.out).mono ?_
  rintro e w2 ⟨v, rfl, htk, hb2⟩
  have hW2 := hb.trans (hb2.mono hb.size)
  obtain ⟨g, cap, rfl, h1, h2, h3, h4⟩ := id htk
  clear h4
  go_wp2_with fail
  refine (LexOf_any s (by omega) _).mono ?_
  rintro e w3 ⟨hb3, hp⟩
  rw [HL.out] at hp
  obtain ⟨v', he, hrow⟩ := hp
  subst he
  obtain ⟨g2, cap2, rfl, m1, m2, m3, m4⟩ := ToksW.of_any hne hrow
  have hW3 := hW2.trans (hb3.mono hW2.size)
  obtain ⟨g', cap', hve, _, _, hgW, h4⟩ := htk.below hb3
  cases hve
  have H4 := Lib.hid h4
  have M4 := Lib.hid m4
  clear h4 m4 hrow htk hne
  go_wp2_with fail
  have hW4 := hW3.alloc hW3.size (.cells #[.int .i64 0, .int .i64 (-1)] 57)
  generalize hWW : w3.alloc (.cells #[.int .i64 0, .int .i64 (-1)] 57) = W at *
  have hbW : Below w3.heap.size w3 W := by rw [← hWW]; exact (Below.refl _ _).alloc (Nat.le_refl _) _
  clear hWW
  go_loopw [8] (fun i wr => ∃ (j n : Nat), i = .int .i64 j ∧ j ≤ l.length ∧ wr = W.drewN n) (fun i _ => l.length - (intOf i).toNat)
  case atStart => exact ⟨0, 0, rfl, Nat.zero_le _, rfl⟩
  case round =>
    obtain ⟨j, n2, rfl, hj, rfl⟩ := hrel
    by_cases hjl : j < l.length
    · have hcl := H4.out j hjl
      have hcm := M4.out j hjl
      rw [← hbW.cell (p := ⟨g, j * 3, none⟩) hgW, ← hbW.cell (p := ⟨g, j * 3 + 1, none⟩) hgW, ← hbW.cell (p := ⟨g, j * 3 + 2, none⟩) hgW] at hcl
      rw [← hbW.cell (p := ⟨g2, j * 3, none⟩) m3, ← hbW.cell (p := ⟨g2, j * 3 + 1, none⟩) m3, ← hbW.cell (p := ⟨g2, j * 3 + 2, none⟩) m3] at hcm
      obtain ⟨c1, c2, c3⟩ := hcl
      obtain ⟨d1, d2, d3⟩ := hcm
      generalize l[j].kind = kd at *
      generalize l[j].text = tx at *
      generalize l[j].pos = ps at *
      have e1 : ((bs kd).toList == (bs kd).toList) = true := by simp
      have e2 : ((bs tx).toList == (bs tx).toList) = true := by simp
      go_wp2_with fail
      go_quiet (fail)
      go_wp2_with fail
      go_roundw
      case rel => exact ⟨j + 1, n2 + nq, by go_num, by omega, rfl⟩
      case measure => simp [intOf]; omega
    · go_wp2_with fail
      go_ret
      exact ⟨rfl, below_drewN hW4 _⟩

/-- THE LAW's CALL. -/
theorem reads_any (H : Kn) (T : LexTabs H) (p : Nat → Addr) (s : ByteArray) (hm : s.size ≤ maxLen) (w : World) (hH : H.In w) (S : Sents w p) (hE : ErrTypeLaid w) :
    Calls Tryd.prog 15 #[.string s] w fun e w' => e = .returned (.bool true) ∧ Below w.heap.size w w' := by
  by_cases h1 : s.size ≤ 3000
  · cases hl : Lx.lexAll s.data.toList with
    | ok l => exact reads_good H T s h1 w hH hl
    | error a => exact reads_bad H T p s h1 w hH S hE hl
  · by_cases h2 : s.size ≤ 6000
    · exact reads_mid H T s (by omega) h2 w hH
    · exact reads_long H T p s h2 hm w hH S hE
end Go.Proofs.YtpgailcmohojmaaDoor
