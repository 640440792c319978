/- Tokens in memory; lustrumlaw1.one. -/
import Derived.Test.YtminjdmgfiellaaDoorLexF
namespace Go.Proofs.YtminjdmgfiellaaDoor
open Go.RowKit

/-- A slice of tokens, as it lies in a world. -/
def ToksW (w : World) (v : Value) (l : List Lx.Tk) : Prop :=
  ∃ g cap, v = .slice (some ⟨g, 0, none⟩) l.length cap ∧ l.length ≤ cap ∧ cap ≤ maxLen ∧ g < w.heap.size ∧
    ∀ i (h : i < l.length), w.cell? ⟨g, i * 3, none⟩ = some (.string (bs l[i].kind)) ∧ w.cell? ⟨g, i * 3 + 1, none⟩ = some (.string (bs l[i].text)) ∧ w.cell? ⟨g, i * 3 + 2, none⟩ = some (.int .i64 l[i].pos)

theorem flat_get (l : List Lx.Tk) : ∀ i (h : i < l.length) (c : Nat), c < 3 → (flat l)[i * 3 + c]? = (tokCells l[i])[c]? := by
  induction l with
  | nil => intro i h; simp at h
  | cons t l ih =>
    intro i h c hc
    have hl : (tokCells t).length = 3 := rfl
    show (tokCells t ++ flat l)[i * 3 + c]? = _
    cases i with
    | zero => rw [List.getElem?_append_left (by rw [hl]; omega)]; simp
    | succ i =>
      rw [List.getElem?_append_right (by rw [hl]; omega), hl, show (i + 1) * 3 + c - 3 = i * 3 + c from by omega, ih i (by simpa using h) c hc]
      rfl
theorem ToksW.of_row {w : World} {base : Nat} {v : Value} {l : List Lx.Tk} (hne : l ≠ []) (h : w.ownsRow base 69 3 v l.length (flat l)) : ToksW w v l := by
  have hc := @World.ownsRow.cells w base _ 3 v l.length (flat l) h
  rcases h.2 with ⟨_, h0⟩ | ⟨g, cap, cur, rfl, _, hg, hn, hm, _, _⟩
  · exact absurd (List.eq_nil_of_length_eq_zero h0) hne
  · refine ⟨g, cap, rfl, hn, hm, (Array.getElem?_eq_some_iff.1 hg).1, fun i hi => ?_⟩
    have e : ∀ j, (⟨g, 0, none⟩ : Addr).add j = ⟨g, j, none⟩ := fun j => by unfold Addr.add; split <;> simp_all
    have h0 := flat_get l i hi 0 (by omega)
    have h1 := flat_get l i hi 1 (by omega)
    have h2 := flat_get l i hi 2 (by omega)
    refine ⟨?_, ?_, ?_⟩
    · rw [← e]; exact hc rfl _ _ h0
    · rw [← e]; exact hc rfl _ _ h1
    · rw [← e]; exact hc rfl _ _ h2
theorem ToksW.below {w w' : World} {v : Value} {l : List Lx.Tk} (h : ToksW w v l) (hb : Below w.heap.size w w') : ToksW w' v l := by
  obtain ⟨g, cap, hv, h1, h2, h3, h4⟩ := h
  refine ⟨g, cap, hv, h1, h2, Nat.lt_of_lt_of_le h3 hb.size, fun i hi => ?_⟩
  have := h4 i hi
  rw [hb.cell (p := ⟨g, i * 3, none⟩) h3, hb.cell (p := ⟨g, i * 3 + 1, none⟩) h3, hb.cell (p := ⟨g, i * 3 + 2, none⟩) h3]
  exact this

/-- Lex where there are tokens. -/
theorem lexN_ne (f : Nat) : ∀ s k l, s.length + 1 - k ≤ f → k ≤ s.length → Lx.lexN f s k = .ok l → l ≠ [] := by
  intro s k l hf hk h
  cases f with
  | zero => omega
  | succ f =>
    simp only [Lx.lexN] at h
    split at h
    · split at h
      · split at h
        · cases h; simp
        · cases h
      · cases h
    · cases h; simp
theorem lexAll_ne {s : Lx.B} {l : List Lx.Tk} (h : Lx.lexAll s = .ok l) : l ≠ [] := lexN_ne _ s _ l (Nat.le_refl _) (Lx.gap_le s) h
theorem Lex_ok (H : Kn) (T : LexTabs H) (s : ByteArray) (hs : s.size ≤ 6000) (w : World) (hH : H.In w) {l : List Lx.Tk} (hl : Lx.lexAll s.data.toList = .ok l) :
    Calls Tryd.prog 23 #[.string s] w fun e w' => ∃ v, e = .returned (.tuple #[v, .nilIface]) ∧ ToksW w' v l ∧ Below w.heap.size w w' := by
  refine (Lex_any H T s hs w hH).mono ?_
  rintro e w' ⟨hb, h⟩
  rw [hl] at h
  obtain ⟨v, he, hv⟩ := h
  exact ⟨v, he, .of_row (lexAll_ne hl) hv, hb⟩
theorem Lex_bad (H : Kn) (T : LexTabs H) (s : ByteArray) (hs : s.size ≤ 6000) (w : World) (hH : H.In w) {a : Nat} (hl : Lx.lexAll s.data.toList = .error a) :
    Calls Tryd.prog 23 #[.string s] w fun e w' => ∃ N v, e = .returned (.tuple #[.slice none 0 0, .iface 79 (.pointer (some ⟨N, 0, none⟩))]) ∧ w.heap.size ≤ N ∧ w.cell? ⟨4, 0, none⟩ = some v ∧ w'.heap[N]? = some (.cells #[.int .i64 a, v] 81 (0, 0)) ∧ Below w.heap.size w w' := by
  refine (Lex_any H T s hs w hH).mono ?_
  rintro e w' ⟨hb, h⟩
  rw [hl] at h
  obtain ⟨N, v, h1, h2, h3, h4⟩ := h
  exact ⟨N, v, h1, h2, h3, h4, hb⟩
theorem Lex_long (H : Kn) (T : LexTabs H) (s : ByteArray) (hs : ¬ s.size ≤ 6000) (hm : s.size ≤ maxLen) (w : World) (hH : H.In w) :
    Calls Tryd.prog 23 #[.string s] w fun e w' => ∃ te pe, e = .returned (.tuple #[.slice none 0 0, .iface te pe]) ∧ w.cell? ⟨3, 0, none⟩ = some (.iface te pe) ∧ Below w.heap.size w w' := by
  obtain ⟨te, pe, ht⟩ := T.bound
  have hct : w.cell? ⟨3, 0, none⟩ = some (.iface te pe) := hH.cell ht
  unfold maxLen at hm
  have hlong : (6000 : Int) < s.size := by omega
  go_enter Tryd.func23, Tryd.ntmps23
  go_wp2_with fail
  go_region
  all_goals go_wp2_with fail
  all_goals go_ret2
  exact ⟨te, pe, rfl, hct, by go_grown⟩

def sA : ByteArray := ⟨#[97]⟩
theorem lex_a : Lx.lexAll sA.data.toList = .ok [⟨Lx.kName, [97], 0⟩, ⟨Lx.kEnd, [], 1⟩] := by rfl
set_option maxRecDepth 100000 in
theorem one_fact (H : Kn) (T : LexTabs H) (w : World) (hH : H.In w) :
    Calls Tryd.prog 18 #[] w fun e w' => e = .returned (.bool true) ∧ Below w.heap.size w w' := by
  go_enter Tryd.func18, Tryd.ntmps18
  go_wp2_with fail
  refine (Lex_ok H T sA (by decide) _ hH lex_a).mono ?_
  rintro e w1 ⟨v, rfl, ⟨g, cap, rfl, h1, h2, h3, h4⟩, hb⟩
  have c0 : w1.cell? ⟨g, 0, none⟩ = some (.string ⟨#[110, 97, 109, 101]⟩) := (h4 0 (by decide)).1
  have c1 : w1.cell? ⟨g, 3, none⟩ = some (.string ⟨#[101, 110, 100]⟩) := (h4 1 (by decide)).1
  clear h4
  go_wp2_with fail
  go_ret
  exact ⟨rfl, hb⟩
end Go.Proofs.YtminjdmgfiellaaDoor
