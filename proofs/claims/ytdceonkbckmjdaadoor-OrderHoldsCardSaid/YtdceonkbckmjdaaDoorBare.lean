/- Walks: lustrumlaw2.bare. -/
import Derived.Test.YtdceonkbckmjdaaDoorProg
import Derived.Test.YtdceonkbckmjdaaDoorEx
import Derived.Test.YtdceonkbckmjdaaDoorMx
import Derived.Lib.Hide
import Derived.WalkKit
/- The program of one flow: its order, no program in sight. -/
namespace Go.Proofs.YtdceonkbckmjdaaDoor
open Mx
/-- A program of one flow. -/
def bareP : Pr := ⟨[], [⟨#[120]⟩], [⟨⟨#[120]⟩, 1, .mk oTrue 0 ⟨#[]⟩ []⟩], [], []⟩
theorem bare_check : checkFlat bareP = 0 := by kernel_rfl
theorem bare_graph : bareP.graph = [[]] := by kernel_rfl
theorem bare_pick : pick [[]] (sortN [[]] 0 []) = 0 := by kernel_rfl
theorem bare_order : orderM bareP = .ok [0] := by kernel_rfl
theorem bare_late : lateM bareP = .ok [0] := by kernel_rfl
theorem bare_checkM : checkM bareP = (0, -1) := by kernel_rfl
theorem bare_hpick : checkFlat bareP = 0 → (∀ j, j < bareP.graph.length → cyc bareP.graph j = false) → ∀ j, j < bareP.graph.length → pick bareP.graph (sortN bareP.graph j []) < bareP.graph.length := by
  intro _ _ j hj
  rw [bare_graph] at hj ⊢
  obtain rfl : j = 0 := by simpa using hj
  rw [bare_pick]; simp
theorem bare_sz : bareP.ins.length ≤ 1000000 ∧ bareP.fl.length ≤ 1000000 ∧ bareP.outs.length ≤ 100000000000 ∧ bareP.as.length ≤ 1000000 ∧ bareP.cs.length ≤ 1000000 := by decide
theorem bare_parts : Ex.partsL bareP.terms ≤ 1000000000 := by decide
end Go.Proofs.YtdceonkbckmjdaaDoor
namespace Go.Proofs.YtdceonkbckmjdaaDoor
open Go.RowKit Mx

set_option maxHeartbeats 1000000 in
set_option maxRecDepth 100000 in
theorem lbare_any (w : World) :
    Calls Tryd.prog 27 #[] w fun r w' => ∃ vi vo vl va vc, r = .returned (.agg #[vi, vo, vl, va, vc]) ∧ PrP (allKn w') bareP vi vo vl va vc ∧ Below w.heap.size w w' := by
  go_enter Tryd.func27, Tryd.ntmps27
  go_wp2_with fail
  have hb : Below w.heap.size w (((w.alloc (.cells #[.slice none 0 0, .slice (some ⟨w.heap.size + 1, 0, none⟩) 1 1, .slice (some ⟨w.heap.size + 1 + 1, 0, none⟩) 1 1, .slice none 0 0, .slice none 0 0] 34)).alloc (.cells #[.string ⟨#[120]⟩] 9)).alloc (.cells #[.string ⟨#[120]⟩, .int .i64 1, .string ⟨#[116, 114, 117, 101]⟩, .int .i64 0, .string ⟨#[]⟩, .slice none 0 0] 59)) := by go_grown
  have h1 : ∀ i, (((w.alloc (.cells #[.slice none 0 0, .slice (some ⟨w.heap.size + 1, 0, none⟩) 1 1, .slice (some ⟨w.heap.size + 1 + 1, 0, none⟩) 1 1, .slice none 0 0, .slice none 0 0] 34)).alloc (.cells #[.string ⟨#[120]⟩] 9)).alloc (.cells #[.string ⟨#[120]⟩, .int .i64 1, .string ⟨#[116, 114, 117, 101]⟩, .int .i64 0, .string ⟨#[]⟩, .slice none 0 0] 59)).cell? ⟨w.heap.size, i, none⟩ = (#[.slice none 0 0, .slice (some ⟨w.heap.size + 1, 0, none⟩) 1 1, .slice (some ⟨w.heap.size + 1 + 1, 0, none⟩) 1 1, .slice none 0 0, .slice none 0 0] : Array Value)[i]? := fun i => by
    rw [World.cell?_alloc_past _ _ _ (by simp; omega), World.cell?_alloc_past _ _ _ (by simp), World.cell?_alloc_new]
  have h2 : ∀ i, (((w.alloc (.cells #[.slice none 0 0, .slice (some ⟨w.heap.size + 1, 0, none⟩) 1 1, .slice (some ⟨w.heap.size + 1 + 1, 0, none⟩) 1 1, .slice none 0 0, .slice none 0 0] 34)).alloc (.cells #[.string ⟨#[120]⟩] 9)).alloc (.cells #[.string ⟨#[120]⟩, .int .i64 1, .string ⟨#[116, 114, 117, 101]⟩, .int .i64 0, .string ⟨#[]⟩, .slice none 0 0] 59)).cell? ⟨w.heap.size + 1, i, none⟩ = (#[.string ⟨#[120]⟩] : Array Value)[i]? := fun i => by
    rw [World.cell?_alloc_past _ _ _ (by simp)]
    have := World.cell?_alloc_new (w := w.alloc (.cells #[.slice none 0 0, .slice (some ⟨w.heap.size + 1, 0, none⟩) 1 1, .slice (some ⟨w.heap.size + 1 + 1, 0, none⟩) 1 1, .slice none 0 0, .slice none 0 0] 34)) #[.string ⟨#[120]⟩] 9 i
    rw [World.size_alloc] at this
    exact this
  have h3 : ∀ i, (((w.alloc (.cells #[.slice none 0 0, .slice (some ⟨w.heap.size + 1, 0, none⟩) 1 1, .slice (some ⟨w.heap.size + 1 + 1, 0, none⟩) 1 1, .slice none 0 0, .slice none 0 0] 34)).alloc (.cells #[.string ⟨#[120]⟩] 9)).alloc (.cells #[.string ⟨#[120]⟩, .int .i64 1, .string ⟨#[116, 114, 117, 101]⟩, .int .i64 0, .string ⟨#[]⟩, .slice none 0 0] 59)).cell? ⟨w.heap.size + 1 + 1, i, none⟩ = (#[.string ⟨#[120]⟩, .int .i64 1, .string ⟨#[116, 114, 117, 101]⟩, .int .i64 0, .string ⟨#[]⟩, .slice none 0 0] : Array Value)[i]? := fun i => by
    have := World.cell?_alloc_new (w := (w.alloc (.cells #[.slice none 0 0, .slice (some ⟨w.heap.size + 1, 0, none⟩) 1 1, .slice (some ⟨w.heap.size + 1 + 1, 0, none⟩) 1 1, .slice none 0 0, .slice none 0 0] 34)).alloc (.cells #[.string ⟨#[120]⟩] 9)) #[.string ⟨#[120]⟩, .int .i64 1, .string ⟨#[116, 114, 117, 101]⟩, .int .i64 0, .string ⟨#[]⟩, .slice none 0 0] 59 i
    rw [World.size_alloc, World.size_alloc] at this
    exact this
  generalize ((w.alloc (.cells #[.slice none 0 0, .slice (some ⟨w.heap.size + 1, 0, none⟩) 1 1, .slice (some ⟨w.heap.size + 1 + 1, 0, none⟩) 1 1, .slice none 0 0, .slice none 0 0] 34)).alloc (.cells #[.string ⟨#[120]⟩] 9)).alloc (.cells #[.string ⟨#[120]⟩, .int .i64 1, .string ⟨#[116, 114, 117, 101]⟩, .int .i64 0, .string ⟨#[]⟩, .slice none 0 0] 59) = W at *
  have q0 := h1 0
  have q1 := h1 1
  have q2 := h1 2
  have q3 := h1 3
  have q4 := h1 4
  simp at q0 q1 q2 q3 q4
  refine bodyPost_ret (v := .agg #[.slice none 0 0, .slice (some ⟨w.heap.size + 1, 0, none⟩) 1 1, .slice (some ⟨w.heap.size + 1 + 1, 0, none⟩) 1 1, .slice none 0 0, .slice none 0 0]) (by simp [results, Tryd.results27, go_sem, q0, q1, q2, q3, q4]) rfl ?_
  refine ⟨_, _, _, _, _, rfl, ⟨.inl ⟨rfl, none, 0, rfl⟩, .inr ⟨_, 0, 1, rfl, by simp [bareP], by unfold maxLen; omega, fun i hi => ?_⟩, .inr ⟨_, 0, 1, rfl, by simp [bareP], by unfold maxLen; omega, fun i hi => ?_⟩, .inl ⟨rfl, none, 0, rfl⟩, .inl ⟨rfl, none, 0, rfl⟩⟩, hb⟩
  · obtain rfl : i = 0 := by simpa [bareP] using hi
    show (allKn W).cell _ _ = _
    rw [allKn_cell, h2]
    rfl
  · obtain rfl : i = 0 := by simpa [bareP] using hi
    refine ⟨?_, ?_, ?_, ?_, ?_, .inl ⟨rfl, none, 0, ?_⟩⟩
    all_goals show (allKn W).cell _ _ = _
    all_goals rw [allKn_cell, h3]
    all_goals rfl
end Go.Proofs.YtdceonkbckmjdaaDoor
