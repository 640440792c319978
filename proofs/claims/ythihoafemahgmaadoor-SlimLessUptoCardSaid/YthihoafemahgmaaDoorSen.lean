/- The five sentinels of package api that flat and order answer, where they lie. -/
import Derived.Test.YthihoafemahgmaaDoorProg
import Derived.Test.YthihoafemahgmaaDoorKn
namespace Go.Proofs.YthihoafemahgmaaDoor
open Go.RowKit
def esv (a : Addr) : Value := .iface 135 (.pointer (some a))
structure Sen5 (w : World) (p : Nat → Addr) : Prop where
  c1 : w.cell? ⟨1, 0, none⟩ = some (.iface 135 (.pointer (some (p 1))))
  c2 : w.cell? ⟨0, 0, none⟩ = some (.iface 135 (.pointer (some (p 2))))
  c4 : w.cell? ⟨2, 0, none⟩ = some (.iface 135 (.pointer (some (p 4))))
  c5 : w.cell? ⟨4, 0, none⟩ = some (.iface 135 (.pointer (some (p 5))))
  c6 : w.cell? ⟨3, 0, none⟩ = some (.iface 135 (.pointer (some (p 6))))
  big : 5 ≤ w.heap.size
theorem Sen5.below {w w' : World} {p : Nat → Addr} (h : Sen5 w p) (hb : Below w.heap.size w w') : Sen5 w' p := by
  have hg := h.big
  have hc : ∀ b, b < 5 → w'.cell? ⟨b, 0, none⟩ = w.cell? ⟨b, 0, none⟩ := fun b hbl => hb.cell (p := ⟨b, 0, none⟩) (Nat.lt_of_lt_of_le hbl hg)
  refine ⟨?_, ?_, ?_, ?_, ?_, Nat.le_trans hg hb.size⟩
  · rw [hc _ (by decide)]; exact h.c1
  · rw [hc _ (by decide)]; exact h.c2
  · rw [hc _ (by decide)]; exact h.c4
  · rw [hc _ (by decide)]; exact h.c5
  · rw [hc _ (by decide)]; exact h.c6
end Go.Proofs.YthihoafemahgmaaDoor
