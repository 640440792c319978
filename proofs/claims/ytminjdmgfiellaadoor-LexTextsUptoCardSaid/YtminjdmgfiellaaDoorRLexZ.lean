/- Tokens in a row; what stays below; how many tokens there are. -/
import Derived.Test.YtminjdmgfiellaaDoorRLexD
import Derived.Test.YtminjdmgfiellaaDoorLawA
import Derived.Test.YtminjdmgfiellaaDoorCoded
namespace Go.Proofs.YtminjdmgfiellaaDoor
open Go.RowKit

theorem ToksW.of_any {w : World} {base : Nat} {t : TypeId} {v : Value} {l : List Lx.Tk} (hne : l ≠ []) (h : w.ownsRow base t 3 v l.length (flat l)) : ToksW w v l := by
  have hc := @World.ownsRow.cells w base _ 3 v l.length (flat l) h
  rcases h.2 with ⟨_, h0⟩ | ⟨g, cap, cur, rfl, _, hg, hn, hm, _, _⟩
  · exact absurd (List.eq_nil_of_length_eq_zero h0) hne
  · refine ⟨g, cap, rfl, hn, hm, (Array.getElem?_eq_some_iff.1 hg).1, fun i hi => ?_⟩
    have e : ∀ j, (⟨g, 0, none⟩ : Addr).add j = ⟨g, j, none⟩ := fun j => by unfold Addr.add; split <;> simp_all
    have h0 := flat_get l i hi 0 (by omega)
    have h1 := flat_get l i hi 1 (by omega)
    have h2 := flat_get l i hi 2 (by omega)
    refine ⟨?_, ?_, ?_⟩
    · rw [← e]; exact hc rfl _ _ h0
    · rw [← e]; exact hc rfl _ _ h1
    · rw [← e]; exact hc rfl _ _ h2

theorem ErrTypeLaid.below {w w' : World} (h : ErrTypeLaid w) (hb : Below w.heap.size w w') : ErrTypeLaid w' := by
  unfold ErrTypeLaid at h ⊢
  rw [hb.cell (World.block_lt_of_cell? w _ h)]; exact h

theorem lexN_many (f : Nat) : ∀ s k l, s.length + 1 - k ≤ f → k ≤ s.length → Lx.lexN f s k = .ok l → l.length ≤ s.length + 1 - k ∧ ∀ t ∈ l, t.text.length ≤ s.length := by
  induction f with
  | zero => intro s k l h1 h2; omega
  | succ f ih =>
    intro s k l h1 h2 h
    simp only [Lx.lexN] at h
    split at h
    · rename_i hk
      split at h
      · rename_i ho
        have hn := Lx.nextAt_le hk ho
        have hok := (Lx.one_ok ho).2.1
        unfold Lx.nextAt at hn
        simp only [List.length_drop] at hok
        split at h
        · rename_i l' hl'
          cases h
          have := ih s _ l' (by omega) (by omega) hl'
          refine ⟨by simp only [List.length_cons]; omega, fun t ht => ?_⟩
          rcases List.mem_cons.1 ht with rfl | ht
          · dsimp only; omega
          · exact this.2 t ht
        · cases h
      · cases h
    · cases h
      exact ⟨by simp; omega, by simp⟩
end Go.Proofs.YtminjdmgfiellaaDoor
