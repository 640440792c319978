/- Walks: order.graph's closure: out[i] = append(out[i], k). -/
import Derived.Test.YtdceonkbckmjdaaDoorNeeds
import Derived.Deep.RegionLaw
import Derived.Deep.RegionHeld3
import Derived.Deep.AppendLies
namespace Go.Proofs.YtdceonkbckmjdaaDoor
open Go.RowKit Mx

theorem heap_setCell_same (w : World) (R i : Nat) (v : Value) (cs : Array Value) (t : TypeId) (fr : Nat × Nat) (h : w.heap[R]? = some (.cells cs t fr)) : (w.setCell ⟨R, i, none⟩ v).heap[R]? = some (.cells (cs.setIfInBounds i v) t fr) := by
  have hlt : R < w.heap.size := (Array.getElem?_eq_some_iff.1 h).1
  have hg : w.heap[R] = .cells cs t fr := (Array.getElem?_eq_some_iff.1 h).2
  unfold World.setCell
  simp only
  rw [Array.getElem?_modify]
  simp [hg, hlt]

set_option maxHeartbeats 2000000 in
set_option maxRecDepth 100000 in
theorem graph1_any (Bo Bi R i n j m base : Nat) (cs : Array Value) (row : Value) (xs : List Value) (w : World) (hBo : w.cell? ⟨Bo, 0, none⟩ = some (.slice (some ⟨R, 0, none⟩) n n)) (hBi : w.cell? ⟨Bi, 0, none⟩ = some (.int .i64 i)) (hi : i < n) (hn : n ≤ 1000000)
    (hR : w.heap[R]? = some (.cells cs 43 (0, 0))) (hrow : cs[i]? = some row) (hown : w.ownsRow base 3 1 row m xs) (hbase : base ≤ w.heap.size) (hm : m ≤ 1000000) (hRB : R ≠ Bo ∧ R ≠ Bi) (hne : row.ownBlock ≠ some R ∧ row.ownBlock ≠ some Bo ∧ row.ownBlock ≠ some Bi) :
    Calls Tryd.prog 83 #[.int .i64 j, .pointer (some ⟨Bo, 0, none⟩), .pointer (some ⟨Bi, 0, none⟩)] w fun r w' => r = .returned (.tuple #[]) ∧
      ∃ row' w1, w1.ownsRow base 3 1 row' (m + 1) (xs ++ [.int .i64 j]) ∧ w.grownBy w1 row.ownBlock ∧ w' = w1.setCell ⟨R, i, none⟩ row' ∧ (row'.ownBlock = row.ownBlock ∨ ∃ g, row'.ownBlock = some g ∧ w.heap.size ≤ g) := by
  have hcR : w.cell? ⟨R, i, none⟩ = some row := by simp [World.cell?, hR, hrow]
  have hfR : w.frozen? ⟨R, i, none⟩ = false := by simp [World.frozen?, hR]
  have hRlt : R < w.heap.size := (Array.getElem?_eq_some_iff.1 hR).1
  have hBolt : Bo < w.heap.size := World.block_lt_of_cell? w _ hBo
  have hBilt : Bi < w.heap.size := World.block_lt_of_cell? w _ hBi
  obtain ⟨i0, hi0, hz0, hz1, hz2⟩ := info_parts Tryd.infoInt
  have HR := Lib.hid hR
  have hiI : (i : Int) < n := by omega
  obtain ⟨ra, rc, rfl, hrc, hmc⟩ := own_len hown
  obtain ⟨n1, n2, n3⟩ := hne
  obtain ⟨n4, n5⟩ := hRB
  have HO := Lib.hid hown
  clear hR hrow
  go_enter Tryd.func83, Tryd.ntmps83
  refine wp_region_held_drew (S := (fun w' => w'.cell? ⟨Bo, 0, none⟩ = some (.slice (some ⟨R, 0, none⟩) n n) ∧ w'.cell? ⟨Bi, 0, none⟩ = some (.int .i64 i))) (by kernel_rfl) ⟨hBo, hBi⟩ (fun hHeld => ?_)
  refine wpAnyH_take (i := 0) (oi := _) (v := .slice (some ⟨R, 0, none⟩) n n) rfl (by kernel_rfl) (by kernel_rfl) (by kernel_rfl) (fun _ _ _ h => h) (Or.inl ⟨by rfl, ?_⟩) (by assumption) ?_
  · intro w hSw
    go_simp
  try simp only [Act.put, List.setIfInBounds_toArray, List.set_cons_zero, List.set_cons_succ]
  refine wpAnyH_take (i := 1) (oi := _) (v := .int .i64 i) rfl (by kernel_rfl) (by kernel_rfl) (by kernel_rfl) (fun _ _ _ h => h) (Or.inl ⟨by rfl, ?_⟩) (by assumption) ?_
  · intro w hSw
    go_simp
  try simp only [Act.put, List.setIfInBounds_toArray, List.set_cons_zero, List.set_cons_succ]
  refine wpAnyH_take (i := 2) (oi := _) (v := .slice (some ⟨R, 0, none⟩) n n) rfl (by kernel_rfl) (by kernel_rfl) (by kernel_rfl) (fun _ _ _ h => h) (Or.inl ⟨by rfl, ?_⟩) (by assumption) ?_
  · intro w hSw
    go_simp
  try simp only [Act.put, List.setIfInBounds_toArray, List.set_cons_zero, List.set_cons_succ]
  refine wpAnyH_take (i := 3) (oi := _) (v := .int .i64 i) rfl (by kernel_rfl) (by kernel_rfl) (by kernel_rfl) (fun _ _ _ h => h) (Or.inl ⟨by rfl, ?_⟩) (by assumption) ?_
  · intro w hSw
    go_simp
  try simp only [Act.put, List.setIfInBounds_toArray, List.set_cons_zero, List.set_cons_succ]
  refine wpAnyH_take (i := 4) (oi := _) (v := .pointer (some ⟨R, i, none⟩)) rfl (by kernel_rfl) (by kernel_rfl) (by kernel_rfl) (fun _ _ _ h => h) (Or.inl ⟨by rfl, ?_⟩) (by assumption) ?_
  · intro w hSw
    go_simp
  try simp only [Act.put, List.setIfInBounds_toArray, List.set_cons_zero, List.set_cons_succ]
  refine wpAnyH_take (i := 6) (oi := _) (v := .int .i64 j) rfl (by kernel_rfl) (by kernel_rfl) (by kernel_rfl) (fun _ _ _ h => h) (Or.inl ⟨by rfl, ?_⟩) (by assumption) ?_
  · intro w hSw
    go_simp
  try simp only [Act.put, List.setIfInBounds_toArray, List.set_cons_zero, List.set_cons_succ]
  refine wpAnyH_ready (rs := [5, 7]) (by kernel_rfl) (by simp) ?_
  refine AllReadyH.cons (o := _) rfl (fun K hK => ?_) ?_
  · go_simp
    refine hK.out _ _ hHeld (fun hHeld2 => ?_)
    clear hK K hHeld
    have hHeld := hHeld2
    clear hHeld2
    try simp only [Act.put, List.setIfInBounds_toArray, List.set_cons_zero, List.set_cons_succ]
    refine wpAnyH_ready (rs := [7]) (by kernel_rfl) (by simp) ?_
    refine AllReadyH.cons (o := _) rfl (fun K hK => ?_) ?_
    · go_simp
      refine hK.out _ _ (by first | exact ⟨hBo, hBi⟩ | exact ⟨by show World.cell? (w.alloc _) _ = _; rw [World.cell?_alloc_past _ _ _ hBolt]; exact hBo, by show World.cell? (w.alloc _) _ = _; rw [World.cell?_alloc_past _ _ _ hBilt]; exact hBi⟩) (fun hHeld2 => ?_)
      clear hK K hHeld
      have hHeld := hHeld2
      clear hHeld2
      try simp only [Act.put, List.setIfInBounds_toArray, List.set_cons_zero, List.set_cons_succ]
      refine wpAnyH_ready (rs := [8]) (by kernel_rfl) (by simp) ?_
      refine AllReadyH.cons (o := _) rfl (fun K hK => ?_) ?_
      · refine step_append_lies _ (by rfl) _ _ _ (by rfl) base 3 i0 _ 1 8 Tryd.underlying43 hi0 hz0 hz1 hz2 rfl (by omega) (.slice ra m rc) m _ (by rfl) ((HO.out.alloc _).drew)
            ⟨w.heap.size, 0, none⟩ 1 1 [.int .i64 j] (by rfl) (by rfl) (World.news_of_block (cs := #[.int .i64 j]) (t := 3) (fr := (0, 0)) (heap_alloc_new w _)) (by simp [Value.oneCell'])
            (by omega) (by unfold maxLen; omega) (by omega) (by simp; omega) (w.heap.size + 1) (by simp) ?_
        intro gg cap' w1 hown1 hgrow hat hltg
        have f1 : w1.cell? ⟨Bo, 0, none⟩ = some (.slice (some ⟨R, 0, none⟩) n n) := by rw [hgrow.cell_far _ (by simp; omega) (Ne.symm n2)]; show World.cell? (w.alloc _) _ = _; rw [World.cell?_alloc_past _ _ _ hBolt]; exact hBo
        have f2 : w1.cell? ⟨Bi, 0, none⟩ = some (.int .i64 i) := by rw [hgrow.cell_far _ (by simp; omega) (Ne.symm n3)]; show World.cell? (w.alloc _) _ = _; rw [World.cell?_alloc_past _ _ _ hBilt]; exact hBi
        have f3 : w1.cell? ⟨R, i, none⟩ = some (.slice ra m rc) := by rw [hgrow.cell_far _ (by simp; omega) (Ne.symm n1)]; show World.cell? (w.alloc _) _ = _; rw [World.cell?_alloc_past _ _ _ hRlt]; exact hcR
        have f4 : w1.frozen? ⟨R, i, none⟩ = false := by rw [hgrow.frozen_far _ (by simp; omega) (Ne.symm n1)]; show World.frozen? (w.alloc _) _ = _; rw [World.frozen?_alloc_past _ _ _ hRlt]; exact hfR
        have hlt1 : R < w1.heap.size := by have := hgrow.size; simp at this; omega
        refine hK.out _ _ ⟨f1, f2⟩ (fun hHeld2 => ?_)
        clear hK K hHeld
        have hHeld := hHeld2
        clear hHeld2
        try simp only [Act.put, List.setIfInBounds_toArray, List.set_cons_zero, List.set_cons_succ]
        refine wpAnyH_take (i := 9) (oi := _) (v := .pointer (some ⟨R, i, none⟩)) rfl (by kernel_rfl) (by kernel_rfl) (by kernel_rfl) (fun _ _ _ h => h) (Or.inl ⟨by rfl, ?_⟩) (by assumption) ?_
        · intro w hSw
          go_simp
        try simp only [Act.put, List.setIfInBounds_toArray, List.set_cons_zero, List.set_cons_succ]
        refine wpAnyH_ready (rs := [10]) (by kernel_rfl) (by simp) ?_
        refine AllReadyH.cons (o := _) rfl (fun K hK => ?_) ?_
        · go_simp
          refine hK.out _ _ ⟨by rw [World.cell?_setCell_far _ _ _ _ n4]; exact f1, by rw [World.cell?_setCell_far _ _ _ _ n5]; exact f2⟩ (fun hHeld2 => ?_)
          clear hK K hHeld
          have hHeld := hHeld2
          clear hHeld2
          try simp only [Act.put, List.setIfInBounds_toArray, List.set_cons_zero, List.set_cons_succ]
          refine wpAnyH_done (by kernel_rfl) ?_ _
          go_end0
          exact ⟨rfl, _, w1, hown1, (show w.grownBy w1 _ from ⟨hgrow.os, hgrow.tape, hgrow.output, by have := hgrow.size; simp at this; omega, fun q hq hne => (hgrow.block q (by simp; omega) hne).trans (Below.heap_alloc w _ q hq)⟩), rfl, by rcases hat with h | h; exact .inl h.symm; exact .inr ⟨gg, rfl, by omega⟩⟩
        · exact AllReadyH.nil
      · exact AllReadyH.nil
    · exact AllReadyH.nil
  · refine AllReadyH.cons (o := _) rfl (fun K hK => ?_) ?_
    · go_simp
      refine hK.out _ _ (by first | exact ⟨hBo, hBi⟩ | exact ⟨by show World.cell? (w.alloc _) _ = _; rw [World.cell?_alloc_past _ _ _ hBolt]; exact hBo, by show World.cell? (w.alloc _) _ = _; rw [World.cell?_alloc_past _ _ _ hBilt]; exact hBi⟩) (fun hHeld2 => ?_)
      clear hK K hHeld
      have hHeld := hHeld2
      clear hHeld2
      try simp only [Act.put, List.setIfInBounds_toArray, List.set_cons_zero, List.set_cons_succ]
      refine wpAnyH_ready (rs := [5]) (by kernel_rfl) (by simp) ?_
      refine AllReadyH.cons (o := _) rfl (fun K hK => ?_) ?_
      · go_simp
        refine hK.out _ _ hHeld (fun hHeld2 => ?_)
        clear hK K hHeld
        have hHeld := hHeld2
        clear hHeld2
        try simp only [Act.put, List.setIfInBounds_toArray, List.set_cons_zero, List.set_cons_succ]
        refine wpAnyH_ready (rs := [8]) (by kernel_rfl) (by simp) ?_
        refine AllReadyH.cons (o := _) rfl (fun K hK => ?_) ?_
        · refine step_append_lies _ (by rfl) _ _ _ (by rfl) base 3 i0 _ 1 8 Tryd.underlying43 hi0 hz0 hz1 hz2 rfl (by omega) (.slice ra m rc) m _ (by rfl) ((HO.out.alloc _).drew)
              ⟨w.heap.size, 0, none⟩ 1 1 [.int .i64 j] (by rfl) (by rfl) (World.news_of_block (cs := #[.int .i64 j]) (t := 3) (fr := (0, 0)) (heap_alloc_new w _)) (by simp [Value.oneCell'])
              (by omega) (by unfold maxLen; omega) (by omega) (by simp; omega) (w.heap.size + 1) (by simp) ?_
          intro gg cap' w1 hown1 hgrow hat hltg
          have f1 : w1.cell? ⟨Bo, 0, none⟩ = some (.slice (some ⟨R, 0, none⟩) n n) := by rw [hgrow.cell_far _ (by simp; omega) (Ne.symm n2)]; show World.cell? (w.alloc _) _ = _; rw [World.cell?_alloc_past _ _ _ hBolt]; exact hBo
          have f2 : w1.cell? ⟨Bi, 0, none⟩ = some (.int .i64 i) := by rw [hgrow.cell_far _ (by simp; omega) (Ne.symm n3)]; show World.cell? (w.alloc _) _ = _; rw [World.cell?_alloc_past _ _ _ hBilt]; exact hBi
          have f3 : w1.cell? ⟨R, i, none⟩ = some (.slice ra m rc) := by rw [hgrow.cell_far _ (by simp; omega) (Ne.symm n1)]; show World.cell? (w.alloc _) _ = _; rw [World.cell?_alloc_past _ _ _ hRlt]; exact hcR
          have f4 : w1.frozen? ⟨R, i, none⟩ = false := by rw [hgrow.frozen_far _ (by simp; omega) (Ne.symm n1)]; show World.frozen? (w.alloc _) _ = _; rw [World.frozen?_alloc_past _ _ _ hRlt]; exact hfR
          have hlt1 : R < w1.heap.size := by have := hgrow.size; simp at this; omega
          refine hK.out _ _ ⟨f1, f2⟩ (fun hHeld2 => ?_)
          clear hK K hHeld
          have hHeld := hHeld2
          clear hHeld2
          try simp only [Act.put, List.setIfInBounds_toArray, List.set_cons_zero, List.set_cons_succ]
          refine wpAnyH_take (i := 9) (oi := _) (v := .pointer (some ⟨R, i, none⟩)) rfl (by kernel_rfl) (by kernel_rfl) (by kernel_rfl) (fun _ _ _ h => h) (Or.inl ⟨by rfl, ?_⟩) (by assumption) ?_
          · intro w hSw
            go_simp
          try simp only [Act.put, List.setIfInBounds_toArray, List.set_cons_zero, List.set_cons_succ]
          refine wpAnyH_ready (rs := [10]) (by kernel_rfl) (by simp) ?_
          refine AllReadyH.cons (o := _) rfl (fun K hK => ?_) ?_
          · go_simp
            refine hK.out _ _ ⟨by rw [World.cell?_setCell_far _ _ _ _ n4]; exact f1, by rw [World.cell?_setCell_far _ _ _ _ n5]; exact f2⟩ (fun hHeld2 => ?_)
            clear hK K hHeld
            have hHeld := hHeld2
            clear hHeld2
            try simp only [Act.put, List.setIfInBounds_toArray, List.set_cons_zero, List.set_cons_succ]
            refine wpAnyH_done (by kernel_rfl) ?_ _
            go_end0
            exact ⟨rfl, _, w1, hown1, (show w.grownBy w1 _ from ⟨hgrow.os, hgrow.tape, hgrow.output, by have := hgrow.size; simp at this; omega, fun q hq hne => (hgrow.block q (by simp; omega) hne).trans (Below.heap_alloc w _ q hq)⟩), rfl, by rcases hat with h | h; exact .inl h.symm; exact .inr ⟨gg, rfl, by omega⟩⟩
          · exact AllReadyH.nil
        · exact AllReadyH.nil
      · exact AllReadyH.nil
    · exact AllReadyH.nil
end Go.Proofs.YtdceonkbckmjdaaDoor
