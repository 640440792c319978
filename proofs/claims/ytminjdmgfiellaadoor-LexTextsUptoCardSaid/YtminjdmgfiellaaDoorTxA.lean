/- Walks: lustrumlaw1.tokens; slices.EqualFunc at tokens, with lex.Text's own closure. -/
import Derived.Test.YtminjdmgfiellaaDoorLexC
import Derived.Test.YtminjdmgfiellaaDoorLexF
import Derived.Test.YtminjdmgfiellaaDoorTxMath
import Derived.Deep.RegionLaw
import Derived.Deep.RegionHeld3
import Derived.Deep.AppendLies
namespace Go.Proofs.YtminjdmgfiellaaDoor
open Go.RowKit

def tiCells (t : Lx.TI) : List Value := [.string (bs t.kind), .string (bs t.text), .int .i64 t.at_]
def flatI (l : List Lx.TI) : List Value := l.flatMap tiCells
theorem flatI_snoc (l : List Lx.TI) (t : Lx.TI) : flatI (l ++ [t]) = flatI l ++ tiCells t := by simp [flatI]
/-- A slice of tokens in a world. -/
def TisW (w : World) (v : Value) (l : List Lx.TI) : Prop :=
  (l = [] ∧ ∃ o cap, v = .slice o 0 cap) ∨ ∃ g off cap, v = .slice (some ⟨g, off, none⟩) l.length cap ∧ l.length ≤ cap ∧ cap ≤ maxLen ∧ g < w.heap.size ∧
    ∀ i (h : i < l.length), w.cell? ⟨g, off + i * 3, none⟩ = some (.string (bs l[i].kind)) ∧ w.cell? ⟨g, off + i * 3 + 1, none⟩ = some (.string (bs l[i].text)) ∧ w.cell? ⟨g, off + i * 3 + 2, none⟩ = some (.int .i64 l[i].at_)
theorem TisW.below {w w' : World} {v : Value} {l : List Lx.TI} (h : TisW w v l) (hb : Below w.heap.size w w') : TisW w' v l := by
  rcases h with h | ⟨g, off, cap, hv, h1, h2, h3, h4⟩
  · exact .inl h
  · refine .inr ⟨g, off, cap, hv, h1, h2, Nat.lt_of_lt_of_le h3 hb.size, fun i hi => ?_⟩
    have := h4 i hi
    rw [hb.cell (p := ⟨g, off + i * 3, none⟩) h3, hb.cell (p := ⟨g, off + i * 3 + 1, none⟩) h3, hb.cell (p := ⟨g, off + i * 3 + 2, none⟩) h3]
    exact this
theorem TisW.len {w : World} {v : Value} {l : List Lx.TI} (h : TisW w v l) : ∃ o cap, v = .slice o l.length cap := by
  rcases h with ⟨rfl, o, cap, rfl⟩ | ⟨g, off, cap, rfl, _⟩
  · exact ⟨o, cap, rfl⟩
  · exact ⟨_, cap, rfl⟩
theorem flatI_get (l : List Lx.TI) : ∀ i (h : i < l.length) (c : Nat), c < 3 → (flatI l)[i * 3 + c]? = (tiCells l[i])[c]? := by
  induction l with
  | nil => intro i h; simp at h
  | cons t l ih =>
    intro i h c hc
    have hl : (tiCells t).length = 3 := rfl
    show (tiCells t ++ flatI l)[i * 3 + c]? = _
    cases i with
    | zero => rw [List.getElem?_append_left (by rw [hl]; omega)]; simp
    | succ i =>
      rw [List.getElem?_append_right (by rw [hl]; omega), hl, show (i + 1) * 3 + c - 3 = i * 3 + c from by omega, ih i (by simpa using h) c hc]
      rfl
theorem TisW.of_row {w : World} {base : Nat} {t : TypeId} {v : Value} {l : List Lx.TI} (h : w.ownsRow base t 3 v l.length (flatI l)) : TisW w v l := by
  have hc := @World.ownsRow.cells w base _ 3 v l.length (flatI l) h
  rcases h.2 with ⟨rfl, h0⟩ | ⟨g, cap, cur, rfl, _, hg, hn, hm, _, _⟩
  · exact .inl ⟨List.eq_nil_of_length_eq_zero h0, none, 0, rfl⟩
  · refine .inr ⟨g, 0, cap, rfl, hn, hm, (Array.getElem?_eq_some_iff.1 hg).1, fun i hi => ?_⟩
    have e : ∀ j, (⟨g, 0, none⟩ : Addr).add j = ⟨g, j, none⟩ := fun j => by unfold Addr.add; split <;> simp_all
    have h0 := flatI_get l i hi 0 (by omega)
    have h1 := flatI_get l i hi 1 (by omega)
    have h2 := flatI_get l i hi 2 (by omega)
    rw [Nat.zero_add]
    refine ⟨?_, ?_, ?_⟩
    · rw [← e]; exact hc rfl _ _ h0
    · rw [← e]; exact hc rfl _ _ h1
    · rw [← e]; exact hc rfl _ _ h2

set_option maxHeartbeats 1000000 in
set_option maxRecDepth 100000 in
theorem tokens_any (v : Value) (l : List Lx.TI) (w : World) (hv : TisW w v l) (hl : l.length ≤ 1048576) :
    Calls Tryd.prog 20 #[v] w fun e w' => ∃ v', e = .returned v' ∧ w'.ownsRow w.heap.size 69 3 v' l.length (flatI l) ∧ Below w.heap.size w w' := by
  rcases hv with ⟨rfl, o, cap, rfl⟩ | ⟨g, off, cap, rfl, h1, h2, h3, h4⟩
  · go_enter Tryd.func20, Tryd.ntmps20
    go_wp2
    go_rounds 1
    all_goals go_ret
    exact ⟨_, rfl, World.ownsRow_nil _ _ _ _, Below.refl _ _⟩
  · have H4 := Lib.hid h4
    clear h4
    go_enter Tryd.func20, Tryd.ntmps20
    go_wp2_with fail
    go_loopw [3, 4] (fun u i wr => ∃ k : Nat, i = .int .i64 k ∧ k ≤ l.length ∧ wr.ownsRow w.heap.size 69 3 u k (flatI (l.take k)) ∧ Below w.heap.size w wr) (fun _ i _ => l.length - (intOf i).toNat)
    case atStart => exact ⟨0, rfl, Nat.zero_le _, World.ownsRow_nil _ _ _ _, Below.refl _ _⟩
    case round =>
      obtain ⟨k, rfl, hk, hown, hbr⟩ := hrel
      by_cases hlt : k < l.length
      · obtain ⟨c0, c1, c2⟩ := H4.out k hlt
        rw [← hbr.cell (p := ⟨g, off + k * 3, none⟩) h3] at c0
        rw [← hbr.cell (p := ⟨g, off + k * 3 + 1, none⟩) h3] at c1
        rw [← hbr.cell (p := ⟨g, off + k * 3 + 2, none⟩) h3] at c2
        have hfl : flatI (l.take (k + 1)) = flatI (l.take k) ++ tiCells l[k] := by rw [List.take_succ_eq_append_getElem hlt, flatI_snoc]
        have HF := Lib.hid hfl
        clear hfl
        generalize l[k] = t at *
        obtain ⟨i0, hi0, hz0, hz1, hz2⟩ := info_parts Tryd.infoTok
        have ag : u3.ownBlock ≠ some g := fun e => by have := (hown.lt g e).1; omega
        have hwr := hbr.size
        go_wp2_with fail
        go_region_held3 (fun w' => w'.cell? ⟨g, off + k * 3, none⟩ = some (.string (bs t.kind)) ∧ w'.cell? ⟨g, off + k * 3 + 1, none⟩ = some (.string (bs t.text)) ∧ w'.cell? ⟨g, off + k * 3 + 2, none⟩ = some (.int .i64 t.at_))
          (first
            | go_keep
            | (go_split_ands
               refine ⟨?_, ?_, ?_⟩
               · (rw [hgrow.cell_far _ (by simp; omega) (Ne.symm ag)]; assumption)
               · (rw [hgrow.cell_far _ (by simp; omega) (Ne.symm ag)]; assumption)
               · (rw [hgrow.cell_far _ (by simp; omega) (Ne.symm ag)]; assumption)))
          ((refine step_append_lies _ (by rfl) _ _ _ (by rfl) w.heap.size 69 i0 _ 3 40 Tryd.underlying62 hi0 hz0 hz1 hz2 rfl (by omega) u3 k _ (by rfl) ((hown.alloc _).drew)
              ⟨wr.heap.size, 0, none⟩ 1 1 (tiCells t) (by rfl) (by rfl) (World.news_of_block (cs := #[.string (bs t.kind), .string (bs t.text), .int .i64 t.at_]) (t := 69) (fr := (0, 0)) (heap_alloc_new wr _)) (by simp [tiCells, Value.oneCell'])
              (by omega) (by unfold maxLen; omega) (by omega) (by simp; omega) (wr.heap.size + 1) (by simp) ?_; intro gg cap' w1 hown1 hgrow hat hltg))
        go_wp2_with fail
        refine ⟨⟨k + 1, by go_num, by omega, by rw [HF.out]; exact hown1, ?_⟩, by simp [intOf]; omega⟩
        exact (hbr.alloc hwr _).drew.grown hgrow (by simp; omega) (fun j hj => (hown.lt j hj).1)
      · go_wp2_with fail
        go_ret
        obtain rfl : k = l.length := by omega
        rw [List.take_length] at hown
        exact ⟨_, rfl, hown, hbr⟩
end Go.Proofs.YtminjdmgfiellaaDoor
