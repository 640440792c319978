/- Walks: plain.Code at nil, at a sentinel, at a fault, at another error. -/
import Derived.Test.YtdceonkbckmjdaaDoorErr
namespace Go.Proofs.YtdceonkbckmjdaaDoor
open Go.RowKit

def esv (a : Addr) : Value := .iface 201 (.pointer (some a))
/-- The nine sentinels of package api, where they lie, and that they are nine. -/
structure Sents (w : World) (p : Nat → Addr) : Prop where
  c0 : w.cell? ⟨5, 0, none⟩ = some (.iface 201 (.pointer (some (p 0))))
  c1 : w.cell? ⟨3, 0, none⟩ = some (.iface 201 (.pointer (some (p 1))))
  c2 : w.cell? ⟨2, 0, none⟩ = some (.iface 201 (.pointer (some (p 2))))
  c3 : w.cell? ⟨6, 0, none⟩ = some (.iface 201 (.pointer (some (p 3))))
  c4 : w.cell? ⟨4, 0, none⟩ = some (.iface 201 (.pointer (some (p 4))))
  c5 : w.cell? ⟨0, 0, none⟩ = some (.iface 201 (.pointer (some (p 5))))
  c6 : w.cell? ⟨1, 0, none⟩ = some (.iface 201 (.pointer (some (p 6))))
  c7 : w.cell? ⟨7, 0, none⟩ = some (.iface 201 (.pointer (some (p 7))))
  c8 : w.cell? ⟨8, 0, none⟩ = some (.iface 201 (.pointer (some (p 8))))
  row : ∀ i, i < 9 → ∃ c t, w.heap[(p i).block]? = some (.cells c t (0, 0))
  inj : ∀ i j, i < 9 → j < 9 → p i = p j → i = j
  big : 10 ≤ w.heap.size
theorem Sents.below {w w' : World} {p : Nat → Addr} (h : Sents w p) (hb : Below w.heap.size w w') : Sents w' p := by
  have hg := h.big
  have hc : ∀ b, b < 10 → w'.cell? ⟨b, 0, none⟩ = w.cell? ⟨b, 0, none⟩ := fun b hbl => hb.cell (p := ⟨b, 0, none⟩) (Nat.lt_of_lt_of_le hbl hg)
  refine ⟨?_, ?_, ?_, ?_, ?_, ?_, ?_, ?_, ?_, fun i hi => ?_, h.inj, Nat.le_trans hg hb.size⟩
  · rw [hc _ (by decide)]; exact h.c0
  · rw [hc _ (by decide)]; exact h.c1
  · rw [hc _ (by decide)]; exact h.c2
  · rw [hc _ (by decide)]; exact h.c3
  · rw [hc _ (by decide)]; exact h.c4
  · rw [hc _ (by decide)]; exact h.c5
  · rw [hc _ (by decide)]; exact h.c6
  · rw [hc _ (by decide)]; exact h.c7
  · rw [hc _ (by decide)]; exact h.c8
  · obtain ⟨c, t, hr⟩ := h.row i hi
    exact ⟨c, t, by rw [hb.block _ (Array.getElem?_eq_some_iff.1 hr).1]; exact hr⟩

theorem code_nil (w : World) : Calls Tryd.prog 63 #[.nilIface] w fun e w' => e = .returned (.tuple #[.int .i64 0, .int .i64 (-1)]) ∧ w = w' := by
  go_enter Tryd.func63, Tryd.ntmps63
  go_wp2_with fail
  go_ret2
  exact ⟨rfl, rfl⟩

/-- The nine, as they lie in the new row. -/
theorem nine_get (p : Nat → Addr) (k : Nat) (hk : k < 9) : (#[esv (p 0), esv (p 1), esv (p 2), esv (p 3), esv (p 4), esv (p 5), esv (p 6), esv (p 7), esv (p 8)] : Array Value)[k]? = some (esv (p k)) := by
  match k, hk with
  | 0, _ => rfl
  | 1, _ => rfl
  | 2, _ => rfl
  | 3, _ => rfl
  | 4, _ => rfl
  | 5, _ => rfl
  | 6, _ => rfl
  | 7, _ => rfl
  | 8, _ => rfl

set_option maxHeartbeats 1000000 in
set_option maxRecDepth 100000 in
theorem code_sent (p : Nat → Addr) (i : Nat) (hi : i < 9) (w : World) (S : Sents w p) (hE : ErrTypeLaid w) :
    Calls Tryd.prog 63 #[esv (p i)] w fun e w' => e = .returned (.tuple #[.int .i64 (i + 1), .int .i64 (-1)]) ∧ Below w.heap.size w w' := by
  have hbig := S.big
  unfold esv
  go_enter Tryd.func63, Tryd.ntmps63
  go_wp2_with fail
  refine (As_sent w.heap.size (.pointer (some (p i))) _ (by unfold ErrTypeLaid; rw [World.cell?_alloc_past _ _ _ (by omega)]; exact hE) (by simp; omega)).mono ?_
  rintro e w1 ⟨rfl, hb⟩
  have hB : Below w.heap.size w w1 := ((Below.refl w.heap.size w).alloc (Nat.le_refl _) _).trans (hb.mono (by simp))
  have S1 := S.below hB
  obtain ⟨c0, c1, c2, c3, c4, c5, c6, c7, c8, _, _, hbig1⟩ := id S1
  go_wp2_with fail
  have SW := S1.below ((Below.refl _ _).alloc (Nat.le_refl _) (.cells #[esv (p 0), esv (p 1), esv (p 2), esv (p 3), esv (p 4), esv (p 5), esv (p 6), esv (p 7), esv (p 8)] 36))
  have hBW : Below w.heap.size w (w1.alloc (.cells #[esv (p 0), esv (p 1), esv (p 2), esv (p 3), esv (p 4), esv (p 5), esv (p 6), esv (p 7), esv (p 8)] 36)) := hB.alloc hB.size _
  have hnine : ∀ k, k < 9 → (w1.alloc (.cells #[esv (p 0), esv (p 1), esv (p 2), esv (p 3), esv (p 4), esv (p 5), esv (p 6), esv (p 7), esv (p 8)] 36)).cell? ⟨w1.heap.size, k, none⟩ = some (esv (p k)) := fun k hk => by
    rw [World.cell?_alloc_new]; exact nine_get p k hk
  have HN := Lib.hid hnine
  clear hnine c0 c1 c2 c3 c4 c5 c6 c7 c8
  change Code.wp _ _ _ _ (w1.alloc (.cells #[esv (p 0), esv (p 1), esv (p 2), esv (p 3), esv (p 4), esv (p 5), esv (p 6), esv (p 7), esv (p 8)] 36))
  generalize w1.alloc (.cells #[esv (p 0), esv (p 1), esv (p 2), esv (p 3), esv (p 4), esv (p 5), esv (p 6), esv (p 7), esv (p 8)] 36) = W at *
  generalize w1.heap.size = B at *
  go_loop [3, 27] (fun t v => ∃ k : Nat, v = .int .i64 k ∧ t = .int .i64 (-1) ∧ k ≤ i) (fun _ v => i + 1 - (intOf v).toNat)
  case atStart => exact ⟨0, rfl, rfl, Nat.zero_le _⟩
  case round =>
    obtain ⟨k, rfl, rfl, hk⟩ := hrel
    have hk9 : k < 9 := by omega
    have hc := HN.out k hk9
    unfold esv at hc
    by_cases hki : k = i
    · subst hki
      go_wp2_with fail
      refine (is_same (p k) _).mono ?_
      rintro e w' ⟨rfl, rfl⟩
      go_wp2_with fail
      go_ret2
      exact ⟨rfl, hBW⟩
    · obtain ⟨ca, ta, ha⟩ := SW.row i hi
      obtain ⟨cb, tb, hb'⟩ := SW.row k hk9
      have hne : p i ≠ p k := fun e => hki (SW.inj _ _ hi hk9 e).symm
      have HA := Lib.hid (And.intro ha hb')
      clear ha hb'
      go_wp2_with fail
      refine (is_other (p i) (p k) ca cb ta tb _ hne HA.out.1 HA.out.2).mono ?_
      rintro e w' ⟨rfl, rfl⟩
      go_wp2_with fail
      go_round
      case rel => exact ⟨k + 1, by go_num, rfl, by omega⟩
      case measure => simp [intOf]; omega

set_option maxHeartbeats 1000000 in
set_option maxRecDepth 100000 in
theorem code_fault (p : Nat → Addr) (i : Nat) (hi : i < 9) (N : Nat) (at_ : Int) (w : World) (hN0 : w.cell? ⟨N, 0, none⟩ = some (.int .i64 at_)) (hN1 : w.cell? ⟨N, 1, none⟩ = some (esv (p i))) (S : Sents w p) (hE : ErrTypeLaid w) :
    Calls Tryd.prog 63 #[.iface 97 (.pointer (some ⟨N, 0, none⟩))] w fun e w' => e = .returned (.tuple #[.int .i64 (i + 1), .int .i64 at_]) ∧ Below w.heap.size w w' := by
  have hbig := S.big
  unfold esv at hN1
  have hNlt : N < w.heap.size := World.block_lt_of_cell? w ⟨N, 0, none⟩ hN0
  go_enter Tryd.func63, Tryd.ntmps63
  go_wp2_with fail
  refine (As_fault w.heap.size (.pointer (some ⟨N, 0, none⟩)) (.pointer none) ⟨_, rfl⟩ _ (by simp) (by simp) (by simp) (by unfold ErrTypeLaid; rw [World.cell?_alloc_past _ _ _ (by omega)]; exact hE) (by simp; omega)).mono ?_
  rintro e w1 ⟨rfl, hF, hsz, hb⟩
  have hB : Below w.heap.size w w1 := ((Below.refl w.heap.size w).alloc (Nat.le_refl _) _).trans hb
  have hn0 : w1.cell? ⟨N, 0, none⟩ = some (.int .i64 at_) := (hB.cell (p := ⟨N, 0, none⟩) hNlt).trans hN0
  have hn1 : w1.cell? ⟨N, 1, none⟩ = some (.iface 201 (.pointer (some (p i)))) := (hB.cell (p := ⟨N, 1, none⟩) hNlt).trans hN1
  have HN01 := Lib.hid (And.intro hN0 hN1)
  clear hN0 hN1
  have hNlt1 : N < w1.heap.size := Nat.lt_of_lt_of_le hNlt hB.size
  have S1 := S.below hB
  obtain ⟨c0, c1, c2, c3, c4, c5, c6, c7, c8, _, _, hbig1⟩ := id S1
  go_wp2_with fail
  have SW := S1.below ((Below.refl _ _).alloc (Nat.le_refl _) (.cells #[esv (p 0), esv (p 1), esv (p 2), esv (p 3), esv (p 4), esv (p 5), esv (p 6), esv (p 7), esv (p 8)] 36))
  have hBW : Below w.heap.size w (w1.alloc (.cells #[esv (p 0), esv (p 1), esv (p 2), esv (p 3), esv (p 4), esv (p 5), esv (p 6), esv (p 7), esv (p 8)] 36)) := hB.alloc hB.size _
  have hnine : ∀ k, k < 9 → (w1.alloc (.cells #[esv (p 0), esv (p 1), esv (p 2), esv (p 3), esv (p 4), esv (p 5), esv (p 6), esv (p 7), esv (p 8)] 36)).cell? ⟨w1.heap.size, k, none⟩ = some (esv (p k)) := fun k hk => by
    rw [World.cell?_alloc_new]; exact nine_get p k hk
  have hm1 : (w1.alloc (.cells #[esv (p 0), esv (p 1), esv (p 2), esv (p 3), esv (p 4), esv (p 5), esv (p 6), esv (p 7), esv (p 8)] 36)).cell? ⟨N, 1, none⟩ = some (.iface 201 (.pointer (some (p i)))) := by rw [World.cell?_alloc_past _ _ _ hNlt1]; exact hn1
  clear hn0 hn1 hF hNlt1
  have HN := Lib.hid hnine
  clear hnine c0 c1 c2 c3 c4 c5 c6 c7 c8
  change Code.wp _ _ _ _ (w1.alloc (.cells #[esv (p 0), esv (p 1), esv (p 2), esv (p 3), esv (p 4), esv (p 5), esv (p 6), esv (p 7), esv (p 8)] 36))
  generalize w1.alloc (.cells #[esv (p 0), esv (p 1), esv (p 2), esv (p 3), esv (p 4), esv (p 5), esv (p 6), esv (p 7), esv (p 8)] 36) = W at *
  generalize w1.heap.size = B at *
  go_loop [3, 27] (fun t v => ∃ k : Nat, v = .int .i64 k ∧ t = .int .i64 at_ ∧ k ≤ i) (fun _ v => i + 1 - (intOf v).toNat)
  case atStart => exact ⟨0, rfl, rfl, Nat.zero_le _⟩
  case round =>
    obtain ⟨k, rfl, rfl, hk⟩ := hrel
    have hk9 : k < 9 := by omega
    have hc := HN.out k hk9
    unfold esv at hc
    by_cases hki : k = i
    · subst hki
      go_wp2_with fail
      refine (is_fault_same N (p k) _ hm1).mono ?_
      rintro e w' ⟨rfl, rfl⟩
      go_wp2_with fail
      go_ret2
      exact ⟨rfl, hBW⟩
    · obtain ⟨ca, ta, ha⟩ := SW.row i hi
      obtain ⟨cb, tb, hb'⟩ := SW.row k hk9
      have hne : p i ≠ p k := fun e => hki (SW.inj _ _ hi hk9 e).symm
      have HA := Lib.hid (And.intro ha hb')
      clear ha hb'
      go_wp2_with fail
      refine (is_fault_other N (p i) (p k) ca cb ta tb _ hm1 hne HA.out.1 HA.out.2).mono ?_
      rintro e w' ⟨rfl, rfl⟩
      go_wp2_with fail
      go_round
      case rel => exact ⟨k + 1, by go_num, rfl, by omega⟩
      case measure => simp [intOf]; omega

set_option maxHeartbeats 1000000 in
set_option maxRecDepth 100000 in
theorem code_other (p : Nat → Addr) (a : Addr) (ca : Array Value) (ta : TypeId) (w : World) (ha : w.heap[a.block]? = some (.cells ca ta (0, 0))) (hna : ∀ i, i < 9 → a ≠ p i) (S : Sents w p) (hE : ErrTypeLaid w) :
    Calls Tryd.prog 63 #[esv a] w fun e w' => e = .returned (.tuple #[.int .i64 (-1), .int .i64 (-1)]) ∧ Below w.heap.size w w' := by
  have hbig := S.big
  unfold esv
  go_enter Tryd.func63, Tryd.ntmps63
  go_wp2_with fail
  refine (As_sent w.heap.size (.pointer (some a)) _ (by unfold ErrTypeLaid; rw [World.cell?_alloc_past _ _ _ (by omega)]; exact hE) (by simp; omega)).mono ?_
  rintro e w1 ⟨rfl, hb⟩
  have hB : Below w.heap.size w w1 := ((Below.refl w.heap.size w).alloc (Nat.le_refl _) _).trans (hb.mono (by simp))
  have S1 := S.below hB
  obtain ⟨c0, c1, c2, c3, c4, c5, c6, c7, c8, _, _, hbig1⟩ := id S1
  go_wp2_with fail
  have SW := S1.below ((Below.refl _ _).alloc (Nat.le_refl _) (.cells #[esv (p 0), esv (p 1), esv (p 2), esv (p 3), esv (p 4), esv (p 5), esv (p 6), esv (p 7), esv (p 8)] 36))
  have hBW : Below w.heap.size w (w1.alloc (.cells #[esv (p 0), esv (p 1), esv (p 2), esv (p 3), esv (p 4), esv (p 5), esv (p 6), esv (p 7), esv (p 8)] 36)) := hB.alloc hB.size _
  have hnine : ∀ k, k < 9 → (w1.alloc (.cells #[esv (p 0), esv (p 1), esv (p 2), esv (p 3), esv (p 4), esv (p 5), esv (p 6), esv (p 7), esv (p 8)] 36)).cell? ⟨w1.heap.size, k, none⟩ = some (esv (p k)) := fun k hk => by
    rw [World.cell?_alloc_new]; exact nine_get p k hk
  have haW : (w1.alloc (.cells #[esv (p 0), esv (p 1), esv (p 2), esv (p 3), esv (p 4), esv (p 5), esv (p 6), esv (p 7), esv (p 8)] 36)).heap[a.block]? = some (.cells ca ta (0, 0)) := (hBW.block _ (Array.getElem?_eq_some_iff.1 ha).1).trans ha
  have HAW := Lib.hid haW
  have HNA := Lib.hid hna
  clear haW ha hna
  have HN := Lib.hid hnine
  clear hnine c0 c1 c2 c3 c4 c5 c6 c7 c8
  change Code.wp _ _ _ _ (w1.alloc (.cells #[esv (p 0), esv (p 1), esv (p 2), esv (p 3), esv (p 4), esv (p 5), esv (p 6), esv (p 7), esv (p 8)] 36))
  generalize w1.alloc (.cells #[esv (p 0), esv (p 1), esv (p 2), esv (p 3), esv (p 4), esv (p 5), esv (p 6), esv (p 7), esv (p 8)] 36) = W at *
  generalize w1.heap.size = B at *
  go_loop [3, 27] (fun t v => ∃ k : Nat, v = .int .i64 k ∧ t = .int .i64 (-1) ∧ k ≤ 9) (fun _ v => 10 - (intOf v).toNat)
  case atStart => exact ⟨0, rfl, rfl, Nat.zero_le _⟩
  case round =>
    obtain ⟨k, rfl, rfl, hk⟩ := hrel
    by_cases hk9 : k < 9
    · have hc := HN.out k hk9
      unfold esv at hc
      obtain ⟨cb, tb, hb'⟩ := SW.row k hk9
      have HB' := Lib.hid hb'
      clear hb'
      go_wp2_with fail
      refine (is_other a (p k) ca cb ta tb _ (HNA.out k hk9) HAW.out HB'.out).mono ?_
      rintro e w' ⟨rfl, rfl⟩
      go_wp2_with fail
      go_round
      case rel => exact ⟨k + 1, by go_num, rfl, by omega⟩
      case measure => simp [intOf]; omega
    · go_wp2_with fail
      go_ret2
      exact ⟨rfl, hBW⟩

end Go.Proofs.YtdceonkbckmjdaaDoor
