/- Small things that several families lean on: literals, cells of two. -/
import Derived.Test.YthihoafemahgmaaDoorNdM
import Derived.Test.YthihoafemahgmaaDoorConcat
namespace Go.Proofs.YthihoafemahgmaaDoor
open Go.RowKit Mx
theorem lit_of {o : ByteArray} {s : List UInt8} (h : (o.toList == s) = true) : o = ⟨⟨s⟩⟩ := by
  refine Classical.byContradiction fun hn => ?_
  rw [not_lit s hn] at h
  cases h
theorem set2A {W : World} {b : Nat} {x y : Value} {t : TypeId} (h : W.heap[b]? = some (.cells #[x, y] t (0, 0))) (u v : Value) : ((W.setCell ⟨b, 0, none⟩ u).setCell ⟨b, 1, none⟩ v).cell? ⟨b, 0, none⟩ = some u ∧ ((W.setCell ⟨b, 0, none⟩ u).setCell ⟨b, 1, none⟩ v).cell? ⟨b, 1, none⟩ = some v := by
  have h1 := heap_setCell_same W b 0 u _ _ _ h
  have h2 := heap_setCell_same _ b 1 v _ _ _ h1
  obtain ⟨g0, g1, _⟩ := cell2_of (W := (W.setCell ⟨b, 0, none⟩ u).setCell ⟨b, 1, none⟩ v) h2
  exact ⟨g0, g1⟩
end Go.Proofs.YthihoafemahgmaaDoor
