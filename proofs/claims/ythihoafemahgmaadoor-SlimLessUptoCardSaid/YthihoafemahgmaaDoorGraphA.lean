/- Walks: order.graph's closure: out[i] = append(out[i], k). -/
import Derived.Test.YthihoafemahgmaaDoorGr
import Derived.Deep.RegionLaw
import Derived.Deep.RegionHeld3
import Derived.Deep.AppendLies
import Derived.Deep.OwnRows
import Derived.Test.YthihoafemahgmaaDoorMap
import Derived.Test.YthihoafemahgmaaDoorEx
namespace Go.Proofs.YthihoafemahgmaaDoor
open Go.RowKit Mx
theorem heap_setCell_same (w : World) (R i : Nat) (v : Value) (cs : Array Value) (t : TypeId) (fr : Nat × Nat) (h : w.heap[R]? = some (.cells cs t fr)) : (w.setCell ⟨R, i, none⟩ v).heap[R]? = some (.cells (cs.setIfInBounds i v) t fr) := by
  have hlt : R < w.heap.size := (Array.getElem?_eq_some_iff.1 h).1
  have hg : w.heap[R] = .cells cs t fr := (Array.getElem?_eq_some_iff.1 h).2
  unfold World.setCell
  simp only
  rw [Array.getElem?_modify]
  simp [hg, hlt]
set_option maxHeartbeats 2000000 in
set_option maxRecDepth 100000 in
theorem graph1_any (Bo Bi R i n j m base : Nat) (cs : Array Value) (row : Value) (xs : List Value) (w : World) (hBo : w.cell? ⟨Bo, 0, none⟩ = some (.slice (some ⟨R, 0, none⟩) n n)) (hBi : w.cell? ⟨Bi, 0, none⟩ = some (.int .i64 i)) (hi : i < n) (hn : n ≤ 1000000)
    (hR : w.heap[R]? = some (.cells cs 83 (0, 0))) (hrow : cs[i]? = some row) (hown : w.ownsRow base 3 1 row m xs) (hbase : base ≤ w.heap.size) (hm : m ≤ 1000000) (hRB : R ≠ Bo ∧ R ≠ Bi) (hne : row.ownBlock ≠ some R ∧ row.ownBlock ≠ some Bo ∧ row.ownBlock ≠ some Bi) :
    Calls Tryd.prog 72 #[.int .i64 j, .pointer (some ⟨Bo, 0, none⟩), .pointer (some ⟨Bi, 0, none⟩)] w fun r w' => r = .returned (.tuple #[]) ∧
      ∃ row' w1, w1.ownsRow base 3 1 row' (m + 1) (xs ++ [.int .i64 j]) ∧ w.grownBy w1 row.ownBlock ∧ w' = w1.setCell ⟨R, i, none⟩ row' ∧ (row'.ownBlock = row.ownBlock ∨ ∃ g, row'.ownBlock = some g ∧ w.heap.size ≤ g) := by
  have hcR : w.cell? ⟨R, i, none⟩ = some row := by simp [World.cell?, hR, hrow]
  have hfR : w.frozen? ⟨R, i, none⟩ = false := by simp [World.frozen?, hR]
  have hRlt : R < w.heap.size := (Array.getElem?_eq_some_iff.1 hR).1
  have hBolt : Bo < w.heap.size := World.block_lt_of_cell? w _ hBo
  have hBilt : Bi < w.heap.size := World.block_lt_of_cell? w _ hBi
  obtain ⟨i0, hi0, hz0, hz1, hz2⟩ := info_parts Tryd.infoInt
  have HR := Lib.hid hR
  have hiI : (i : Int) < n := by omega
  obtain ⟨ra, rc, rfl, hrc, hmc⟩ := own_len hown
  obtain ⟨n1, n2, n3⟩ := hne
  obtain ⟨n4, n5⟩ := hRB
  have HO := Lib.hid hown
  clear hR hrow
  go_enter Tryd.func72, Tryd.ntmps72
  refine wp_region_held_drew (S := (fun w' => w'.cell? ⟨Bo, 0, none⟩ = some (.slice (some ⟨R, 0, none⟩) n n) ∧ w'.cell? ⟨Bi, 0, none⟩ = some (.int .i64 i))) (by kernel_rfl) ⟨hBo, hBi⟩ (fun hHeld => ?_)
  refine wpAnyH_take (i := 0) (oi := _) (v := .slice (some ⟨R, 0, none⟩) n n) rfl (by kernel_rfl) (by kernel_rfl) (by kernel_rfl) (fun _ _ _ h => h) (Or.inl ⟨by rfl, ?_⟩) (by assumption) ?_
  · intro w hSw
    go_simp
  try simp only [Act.put, List.setIfInBounds_toArray, List.set_cons_zero, List.set_cons_succ]
  refine wpAnyH_take (i := 1) (oi := _) (v := .int .i64 i) rfl (by kernel_rfl) (by kernel_rfl) (by kernel_rfl) (fun _ _ _ h => h) (Or.inl ⟨by rfl, ?_⟩) (by assumption) ?_
  · intro w hSw
    go_simp
  try simp only [Act.put, List.setIfInBounds_toArray, List.set_cons_zero, List.set_cons_succ]
  refine wpAnyH_take (i := 2) (oi := _) (v := .slice (some ⟨R, 0, none⟩) n n) rfl (by kernel_rfl) (by kernel_rfl) (by kernel_rfl) (fun _ _ _ h => h) (Or.inl ⟨by rfl, ?_⟩) (by assumption) ?_
  · intro w hSw
    go_simp
  try simp only [Act.put, List.setIfInBounds_toArray, List.set_cons_zero, List.set_cons_succ]
  refine wpAnyH_take (i := 3) (oi := _) (v := .int .i64 i) rfl (by kernel_rfl) (by kernel_rfl) (by kernel_rfl) (fun _ _ _ h => h) (Or.inl ⟨by rfl, ?_⟩) (by assumption) ?_
  · intro w hSw
    go_simp
  try simp only [Act.put, List.setIfInBounds_toArray, List.set_cons_zero, List.set_cons_succ]
  refine wpAnyH_take (i := 4) (oi := _) (v := .pointer (some ⟨R, i, none⟩)) rfl (by kernel_rfl) (by kernel_rfl) (by kernel_rfl) (fun _ _ _ h => h) (Or.inl ⟨by rfl, ?_⟩) (by assumption) ?_
  · intro w hSw
    go_simp
  try simp only [Act.put, List.setIfInBounds_toArray, List.set_cons_zero, List.set_cons_succ]
  refine wpAnyH_take (i := 6) (oi := _) (v := .int .i64 j) rfl (by kernel_rfl) (by kernel_rfl) (by kernel_rfl) (fun _ _ _ h => h) (Or.inl ⟨by rfl, ?_⟩) (by assumption) ?_
  · intro w hSw
    go_simp
  try simp only [Act.put, List.setIfInBounds_toArray, List.set_cons_zero, List.set_cons_succ]
  refine wpAnyH_ready (rs := [5, 7]) (by kernel_rfl) (by simp) ?_
  refine AllReadyH.cons (o := _) rfl (fun K hK => ?_) ?_
  · go_simp
    refine hK.out _ _ hHeld (fun hHeld2 => ?_)
    clear hK K hHeld
    have hHeld := hHeld2
    clear hHeld2
    try simp only [Act.put, List.setIfInBounds_toArray, List.set_cons_zero, List.set_cons_succ]
    refine wpAnyH_ready (rs := [7]) (by kernel_rfl) (by simp) ?_
    refine AllReadyH.cons (o := _) rfl (fun K hK => ?_) ?_
    · go_simp
      refine hK.out _ _ (by first | exact ⟨hBo, hBi⟩ | exact ⟨by show World.cell? (w.alloc _) _ = _; rw [World.cell?_alloc_past _ _ _ hBolt]; exact hBo, by show World.cell? (w.alloc _) _ = _; rw [World.cell?_alloc_past _ _ _ hBilt]; exact hBi⟩) (fun hHeld2 => ?_)
      clear hK K hHeld
      have hHeld := hHeld2
      clear hHeld2
      try simp only [Act.put, List.setIfInBounds_toArray, List.set_cons_zero, List.set_cons_succ]
      refine wpAnyH_ready (rs := [8]) (by kernel_rfl) (by simp) ?_
      refine AllReadyH.cons (o := _) rfl (fun K hK => ?_) ?_
      · refine step_append_lies _ (by rfl) _ _ _ (by rfl) base 3 i0 _ 1 8 Tryd.underlying83 hi0 hz0 hz1 hz2 rfl (by omega) (.slice ra m rc) m _ (by rfl) ((HO.out.alloc _).drew)
            ⟨w.heap.size, 0, none⟩ 1 1 [.int .i64 j] (by rfl) (by rfl) (World.news_of_block (cs := #[.int .i64 j]) (t := 3) (fr := (0, 0)) (heap_alloc_new w _)) (by simp [Value.oneCell'])
            (by omega) (by unfold maxLen; omega) (by omega) (by simp; omega) (w.heap.size + 1) (by simp) ?_
        intro gg cap' w1 hown1 hgrow hat hltg
        have f1 : w1.cell? ⟨Bo, 0, none⟩ = some (.slice (some ⟨R, 0, none⟩) n n) := by rw [hgrow.cell_far _ (by simp; omega) (Ne.symm n2)]; show World.cell? (w.alloc _) _ = _; rw [World.cell?_alloc_past _ _ _ hBolt]; exact hBo
        have f2 : w1.cell? ⟨Bi, 0, none⟩ = some (.int .i64 i) := by rw [hgrow.cell_far _ (by simp; omega) (Ne.symm n3)]; show World.cell? (w.alloc _) _ = _; rw [World.cell?_alloc_past _ _ _ hBilt]; exact hBi
        have f3 : w1.cell? ⟨R, i, none⟩ = some (.slice ra m rc) := by rw [hgrow.cell_far _ (by simp; omega) (Ne.symm n1)]; show World.cell? (w.alloc _) _ = _; rw [World.cell?_alloc_past _ _ _ hRlt]; exact hcR
        have f4 : w1.frozen? ⟨R, i, none⟩ = false := by rw [hgrow.frozen_far _ (by simp; omega) (Ne.symm n1)]; show World.frozen? (w.alloc _) _ = _; rw [World.frozen?_alloc_past _ _ _ hRlt]; exact hfR
        have hlt1 : R < w1.heap.size := by have := hgrow.size; simp at this; omega
        refine hK.out _ _ ⟨f1, f2⟩ (fun hHeld2 => ?_)
        clear hK K hHeld
        have hHeld := hHeld2
        clear hHeld2
        try simp only [Act.put, List.setIfInBounds_toArray, List.set_cons_zero, List.set_cons_succ]
        refine wpAnyH_take (i := 9) (oi := _) (v := .pointer (some ⟨R, i, none⟩)) rfl (by kernel_rfl) (by kernel_rfl) (by kernel_rfl) (fun _ _ _ h => h) (Or.inl ⟨by rfl, ?_⟩) (by assumption) ?_
        · intro w hSw
          go_simp
        try simp only [Act.put, List.setIfInBounds_toArray, List.set_cons_zero, List.set_cons_succ]
        refine wpAnyH_ready (rs := [10]) (by kernel_rfl) (by simp) ?_
        refine AllReadyH.cons (o := _) rfl (fun K hK => ?_) ?_
        · go_simp
          refine hK.out _ _ ⟨by rw [World.cell?_setCell_far _ _ _ _ n4]; exact f1, by rw [World.cell?_setCell_far _ _ _ _ n5]; exact f2⟩ (fun hHeld2 => ?_)
          clear hK K hHeld
          have hHeld := hHeld2
          clear hHeld2
          try simp only [Act.put, List.setIfInBounds_toArray, List.set_cons_zero, List.set_cons_succ]
          refine wpAnyH_done (by kernel_rfl) ?_ _
          go_end0
          exact ⟨rfl, _, w1, hown1, (show w.grownBy w1 _ from ⟨hgrow.os, hgrow.tape, hgrow.output, by have := hgrow.size; simp at this; omega, fun q hq hne => (hgrow.block q (by simp; omega) hne).trans (Below.heap_alloc w _ q hq)⟩), rfl, by rcases hat with h | h; exact .inl h.symm; exact .inr ⟨gg, rfl, by omega⟩⟩
        · exact AllReadyH.nil
      · exact AllReadyH.nil
    · exact AllReadyH.nil
  · refine AllReadyH.cons (o := _) rfl (fun K hK => ?_) ?_
    · go_simp
      refine hK.out _ _ (by first | exact ⟨hBo, hBi⟩ | exact ⟨by show World.cell? (w.alloc _) _ = _; rw [World.cell?_alloc_past _ _ _ hBolt]; exact hBo, by show World.cell? (w.alloc _) _ = _; rw [World.cell?_alloc_past _ _ _ hBilt]; exact hBi⟩) (fun hHeld2 => ?_)
      clear hK K hHeld
      have hHeld := hHeld2
      clear hHeld2
      try simp only [Act.put, List.setIfInBounds_toArray, List.set_cons_zero, List.set_cons_succ]
      refine wpAnyH_ready (rs := [5]) (by kernel_rfl) (by simp) ?_
      refine AllReadyH.cons (o := _) rfl (fun K hK => ?_) ?_
      · go_simp
        refine hK.out _ _ hHeld (fun hHeld2 => ?_)
        clear hK K hHeld
        have hHeld := hHeld2
        clear hHeld2
        try simp only [Act.put, List.setIfInBounds_toArray, List.set_cons_zero, List.set_cons_succ]
        refine wpAnyH_ready (rs := [8]) (by kernel_rfl) (by simp) ?_
        refine AllReadyH.cons (o := _) rfl (fun K hK => ?_) ?_
        · refine step_append_lies _ (by rfl) _ _ _ (by rfl) base 3 i0 _ 1 8 Tryd.underlying83 hi0 hz0 hz1 hz2 rfl (by omega) (.slice ra m rc) m _ (by rfl) ((HO.out.alloc _).drew)
              ⟨w.heap.size, 0, none⟩ 1 1 [.int .i64 j] (by rfl) (by rfl) (World.news_of_block (cs := #[.int .i64 j]) (t := 3) (fr := (0, 0)) (heap_alloc_new w _)) (by simp [Value.oneCell'])
              (by omega) (by unfold maxLen; omega) (by omega) (by simp; omega) (w.heap.size + 1) (by simp) ?_
          intro gg cap' w1 hown1 hgrow hat hltg
          have f1 : w1.cell? ⟨Bo, 0, none⟩ = some (.slice (some ⟨R, 0, none⟩) n n) := by rw [hgrow.cell_far _ (by simp; omega) (Ne.symm n2)]; show World.cell? (w.alloc _) _ = _; rw [World.cell?_alloc_past _ _ _ hBolt]; exact hBo
          have f2 : w1.cell? ⟨Bi, 0, none⟩ = some (.int .i64 i) := by rw [hgrow.cell_far _ (by simp; omega) (Ne.symm n3)]; show World.cell? (w.alloc _) _ = _; rw [World.cell?_alloc_past _ _ _ hBilt]; exact hBi
          have f3 : w1.cell? ⟨R, i, none⟩ = some (.slice ra m rc) := by rw [hgrow.cell_far _ (by simp; omega) (Ne.symm n1)]; show World.cell? (w.alloc _) _ = _; rw [World.cell?_alloc_past _ _ _ hRlt]; exact hcR
          have f4 : w1.frozen? ⟨R, i, none⟩ = false := by rw [hgrow.frozen_far _ (by simp; omega) (Ne.symm n1)]; show World.frozen? (w.alloc _) _ = _; rw [World.frozen?_alloc_past _ _ _ hRlt]; exact hfR
          have hlt1 : R < w1.heap.size := by have := hgrow.size; simp at this; omega
          refine hK.out _ _ ⟨f1, f2⟩ (fun hHeld2 => ?_)
          clear hK K hHeld
          have hHeld := hHeld2
          clear hHeld2
          try simp only [Act.put, List.setIfInBounds_toArray, List.set_cons_zero, List.set_cons_succ]
          refine wpAnyH_take (i := 9) (oi := _) (v := .pointer (some ⟨R, i, none⟩)) rfl (by kernel_rfl) (by kernel_rfl) (by kernel_rfl) (fun _ _ _ h => h) (Or.inl ⟨by rfl, ?_⟩) (by assumption) ?_
          · intro w hSw
            go_simp
          try simp only [Act.put, List.setIfInBounds_toArray, List.set_cons_zero, List.set_cons_succ]
          refine wpAnyH_ready (rs := [10]) (by kernel_rfl) (by simp) ?_
          refine AllReadyH.cons (o := _) rfl (fun K hK => ?_) ?_
          · go_simp
            refine hK.out _ _ ⟨by rw [World.cell?_setCell_far _ _ _ _ n4]; exact f1, by rw [World.cell?_setCell_far _ _ _ _ n5]; exact f2⟩ (fun hHeld2 => ?_)
            clear hK K hHeld
            have hHeld := hHeld2
            clear hHeld2
            try simp only [Act.put, List.setIfInBounds_toArray, List.set_cons_zero, List.set_cons_succ]
            refine wpAnyH_done (by kernel_rfl) ?_ _
            go_end0
            exact ⟨rfl, _, w1, hown1, (show w.grownBy w1 _ from ⟨hgrow.os, hgrow.tape, hgrow.output, by have := hgrow.size; simp at this; omega, fun q hq hne => (hgrow.block q (by simp; omega) hne).trans (Below.heap_alloc w _ q hq)⟩), rfl, by rcases hat with h | h; exact .inl h.symm; exact .inr ⟨gg, rfl, by omega⟩⟩
          · exact AllReadyH.nil
        · exact AllReadyH.nil
      · exact AllReadyH.nil
    · exact AllReadyH.nil
end Go.Proofs.YthihoafemahgmaaDoor
namespace Go.Proofs.YthihoafemahgmaaDoor
open Go.RowKit Mx
def IntC (x : Nat) (f : Nat → Option Value) : Prop := f 0 = some (natV x)
abbrev IntsV (H : Kn) : List Nat → Value → Prop := SlV H 1 IntC
abbrev GrV (H : Kn) : List (List Nat) → Value → Prop := SlV H 1 fun l f => ∃ u, f 0 = some u ∧ IntsV H l u
theorem IntC.mono (x : Nat) (f g : Nat → Option Value) (h : ∀ j u, f j = some u → g j = some u) (hx : IntC x f) : IntC x g := h _ _ hx
theorem IntsV.le {H H' : Kn} (hle : H.le H') {l : List Nat} {v : Value} (h : IntsV H l v) : IntsV H' l v := SlV.le h hle IntC.mono
theorem GrV.le {H H' : Kn} (hle : H.le H') {g : List (List Nat)} {v : Value} (h : GrV H g v) : GrV H' g v :=
  SlV.le h hle fun _ _ _ hfg ⟨u, h1, h2⟩ => ⟨u, hfg _ _ h1, IntsV.le hle h2⟩
def butKn (R : Nat) (w : World) : Kn := fun b => if b = R then none else w.heap[b]?
theorem butKn_cell {R : Nat} {w : World} {b : Nat} (h : b ≠ R) (i : Nat) : (butKn R w).cell b i = w.cell? ⟨b, i, none⟩ := by
  rw [← allKn_cell]
  simp [Kn.cell, butKn, allKn, h]
theorem butKn_le_all (R : Nat) (w : World) : (butKn R w).le (allKn w) := fun b o e => by
  unfold butKn at e
  split at e
  · cases e
  · exact e
theorem butKn_le {R : Nat} {w w' : World} (h : ∀ b, b < w.heap.size → b ≠ R → w'.heap[b]? = w.heap[b]?) : (butKn R w).le (butKn R w') := fun b o e => by
  unfold butKn at e ⊢
  split at e
  · cases e
  · rename_i hb
    rw [if_neg hb, h b (Array.getElem?_eq_some_iff.1 e).1 hb]
    exact e
theorem ints_of_row {R : Nat} {w : World} {base : Nat} {t : TypeId} {v : Value} {l : List Nat} (h : w.ownsRow base t 1 v l.length (l.map natV)) (hR : v.ownBlock ≠ some R) : IntsV (butKn R w) l v := by
  by_cases h0 : l = []
  · obtain ⟨a, c, h1, _⟩ := own_len h
    exact .inl ⟨h0, a, c, by rw [h1, h0]; rfl⟩
  · obtain ⟨g, cap, rfl, h2, h3, _, _, h4⟩ := own_shape h (List.length_pos_iff.2 h0)
    refine .inr ⟨g, 0, cap, rfl, h2, h3, fun i hi => ?_⟩
    show (butKn R w).cell g (0 + i * 1 + 0) = some (natV l[i])
    rw [butKn_cell (fun e => hR (by rw [← e]; rfl))]
    simp only [Nat.zero_add, Nat.mul_one, Nat.add_zero]
    exact h4 i _ (by simp [hi])
structure GrI (w wi u : World) (R i base : Nat) (cs : Array Value) (acc : List Nat) : Prop where
  below : Below w.heap.size w u
  size : base ≤ u.heap.size
  row : ∃ v, u.heap[R]? = some (.cells (cs.setIfInBounds i v) 83 (0, 0)) ∧ u.ownsRow base 3 1 v acc.length (acc.map natV)
  keep : ∀ b, b < base → b ≠ R → u.heap[b]? = wi.heap[b]?
theorem own_ge {w : World} {base : Nat} {e : TypeId} {k n : Nat} {v : Value} {xs : List Value} (h : w.ownsRow base e k v n xs) {b : Nat} (hb : b < base) : v.ownBlock ≠ some b := fun e => by have := (h.lt b e).1; omega
theorem own_setCell {w : World} {base : Nat} {e : TypeId} {k n : Nat} {v : Value} {xs : List Value} (h : w.ownsRow base e k v n xs) {a : Addr} (ha : v.ownBlock ≠ some a.block) (u : Value) : (w.setCell a u).ownsRow base e k v n xs := by
  refine ⟨h.1, h.2.imp id ?_⟩
  rintro ⟨g, cap, cur, h1, h2, h3, h4⟩
  refine ⟨g, cap, cur, h1, h2, ?_, h4⟩
  rw [Below.heap_setCell w a u g (fun e => ha (by rw [h1, ← e]; rfl))]
  exact h3
theorem own_type {w : World} {base : Nat} {e : TypeId} {k n : Nat} {v : Value} {xs : List Value} (h : w.ownsRow base e k v n xs) {b : Nat} {c : Array Value} {t : TypeId} {fr : Nat × Nat} (hb : w.heap[b]? = some (.cells c t fr)) (ht : t ≠ e) : v.ownBlock ≠ some b := fun hv => by
  rcases h.2 with ⟨rfl, _⟩ | ⟨g, cap, cur, rfl, _, hg, _⟩
  · simp [Value.ownBlock] at hv
  · simp [Value.ownBlock] at hv
    subst hv
    rw [hg] at hb
    cases hb
    exact ht rfl
theorem gr_seer (H : Kn) (w wi : World) (R i n bat Bo Bi base : Nat) (cs : Array Value) (at_ : Env Nat) (hH : H.In w) (hM : MapAt natV wi bat at_) (hbat : bat < base ∧ bat ≠ R) (hRw : w.heap.size ≤ R ∧ R < base) (hbw : w.heap.size ≤ base)
    (hBo : wi.cell? ⟨Bo, 0, none⟩ = some (.slice (some ⟨R, 0, none⟩) n n)) (hBi : wi.cell? ⟨Bi, 0, none⟩ = some (.int .i64 i)) (hB : Bo < base ∧ Bi < base ∧ R ≠ Bo ∧ R ≠ Bi) (hi : i < n) (hn : n ≤ 1000000) (hcs : i < cs.size) :
    Seer 72 #[.pointer (some ⟨Bo, 0, none⟩), .pointer (some ⟨Bi, 0, none⟩)] H bat at_ (fun acc u => GrI w wi u R i base cs acc) := by
  obtain ⟨b1, b2, b3, b4⟩ := hB
  refine ⟨fun _ _ => by kernel_rfl, fun acc u u' h hb => ?_, fun acc u h => ⟨hH.below h.below, hM.of_block (h.keep bat hbat.1 hbat.2)⟩, fun acc u j hacc h => ?_⟩
  · obtain ⟨v, h1, h2⟩ := h.row
    have hs := h.size
    exact ⟨h.below.trans (hb.mono (by omega)), Nat.le_trans hs hb.size, ⟨v, by rw [hb.block R (by omega)]; exact h1, own_below h2 hb⟩, fun b hlt hne => by rw [hb.block b (by omega)]; exact h.keep b hlt hne⟩
  · obtain ⟨v, h1, h2⟩ := h.row
    have hs := h.size
    have c1 : u.cell? ⟨Bo, 0, none⟩ = some (.slice (some ⟨R, 0, none⟩) n n) := by rw [World.cell?_of_block (w := wi) (h.keep Bo b1 (Ne.symm b3))]; exact hBo
    have c2 : u.cell? ⟨Bi, 0, none⟩ = some (.int .i64 i) := by rw [World.cell?_of_block (w := wi) (h.keep Bi b2 (Ne.symm b4))]; exact hBi
    have hrow : (cs.setIfInBounds i v)[i]? = some v := by simp [hcs]
    refine (graph1_any Bo Bi R i n j acc.length base _ v (acc.map natV) u c1 c2 hi hn h1 hrow h2 hs (by omega) ⟨b3, b4⟩ ⟨own_ge h2 hRw.2, own_ge h2 b1, own_ge h2 b2⟩).mono ?_
    rintro r w' ⟨rfl, row', w1, ho, hg, rfl, hown⟩
    have hRu : R < u.heap.size := by omega
    have hR1 : w1.heap[R]? = some (.cells (cs.setIfInBounds i v) 83 (0, 0)) := by rw [hg.block R hRu (Ne.symm (own_ge h2 hRw.2))]; exact h1
    have hne : row'.ownBlock ≠ some R := by
      rcases hown with e | ⟨g, e, hge⟩
      · rw [e]; exact own_ge h2 hRw.2
      · rw [e]; intro e2; cases e2; omega
    refine ⟨rfl, ⟨(h.below.grown hg (by omega) (fun q hq => by have := (h2.lt q hq).1; omega)).setCell hRw.1 _, by have := hg.size; simp [World.setCell]; omega, ⟨row', ?_, ?_⟩, fun b hlt hb => ?_⟩, fun b c t fr hb ht1 ht2 => ?_⟩
    · have := heap_setCell_same w1 R i row' _ _ _ hR1
      rw [this]
      congr 2
      simp
    · have := own_setCell ho (a := ⟨R, i, none⟩) hne row'
      simpa using this
    · rw [Below.heap_setCell w1 _ _ b hb, hg.block b (by omega) (Ne.symm (own_ge h2 hlt))]
      exact h.keep b hlt hb
    · have hbR : b ≠ R := by
        rintro rfl
        rw [h1] at hb; cases hb; exact ht2 rfl
      rw [Below.heap_setCell w1 _ _ b hbR, hg.block b (Array.getElem?_eq_some_iff.1 hb).1 (Ne.symm (own_type h2 hb ht1))]
      exact hb
theorem atFrom_snoc : ∀ (l : List Fl) (f : Fl) (i : Nat) (m : Env Nat), atFrom i m (l ++ [f]) = (atFrom i m l).set f.name (i + l.length)
  | [], f, i, m => by simp [atFrom]
  | x :: l, f, i, m => by
    simp only [List.cons_append, atFrom, List.length_cons]
    rw [atFrom_snoc l f (i + 1)]
    congr 1; omega
theorem made_get (n i : Nat) (h : i < n) : (madeCells #[.slice none 0 0] n)[i]? = some (.slice none 0 0) := by
  simp [madeCells, h, Nat.mod_one]
theorem made_size (n : Nat) : (madeCells #[.slice none 0 0] n).size = n := by simp [madeCells]
theorem Tryd.infoInts : (Tryd.prog.info? 83).map (fun i => (i.zero, i.size, i.bytes)) = some (some (.slice none 0 0), 1, 24) := by kernel_rfl
set_option maxHeartbeats 4000000 in
set_option maxRecDepth 100000 in
theorem graph_any (H : Kn) (p : Pr) (vi vo vl va vc : Value) (hp : PrP H p vi vo vl va vc) (ks : Env Int) (hfm : ∀ f ∈ p.fl, formAll ks f.e = true ∧ f.e.parts ≤ 100000) (hn : p.fl.length ≤ 1000000) (w : World) (hH : H.In w) :
    Calls Tryd.prog 63 #[.agg #[vi, vo, vl, va, vc]] w fun r w' => ∃ v, r = .returned v ∧ GrV (allKn w') p.graph v ∧ Below w.heap.size w w' := by
  obtain ⟨h1, h2, h3, h4, h5⟩ := hp
  obtain ⟨ai, ci, rfl⟩ := h1.len
  obtain ⟨ao, co, rfl⟩ := h2.len
  obtain ⟨al, cl, rfl⟩ := h3.len
  obtain ⟨aa, ca, rfl⟩ := h4.len
  obtain ⟨ac, cc, rfl⟩ := h5.len
  have H3 := Lib.hid h3
  have HFM := Lib.hid hfm
  clear h1 h2 h3 h4 h5 hfm
  have hmm := @run_makeMap Tryd.prog
  have hmk := run_make_row' (P := Tryd.prog) 111 83 (.slice none 0 0) 24 Tryd.underlying111 Tryd.infoInts rfl .i64 .i64 p.fl.length (by omega) (by omega)
  go_enter Tryd.func63, Tryd.ntmps63
  go_wp2_with fail
  have hq : ((w.alloc (.cells #[.slice ai p.ins.length ci, .slice ao p.outs.length co, .slice al p.fl.length cl, .slice aa p.as.length ca, .slice ac p.cs.length cc] 34)).alloc (.map #[] 0)).cell? ⟨w.heap.size, 2, none⟩ = some (.slice al p.fl.length cl) := by
    rw [World.cell?_alloc_past _ _ _ (by simp), World.cell?_alloc_new]; rfl
  have hM0 : MapAt natV ((w.alloc (.cells #[.slice ai p.ins.length ci, .slice ao p.outs.length co, .slice al p.fl.length cl, .slice aa p.as.length ca, .slice ac p.cs.length cc] 34)).alloc (.map #[] 0)) (w.heap.size + 1) Env.none := by
    have := MapAt.made natV (w.alloc (.cells #[.slice ai p.ins.length ci, .slice ao p.outs.length co, .slice al p.fl.length cl, .slice aa p.as.length ca, .slice ac p.cs.length cc] 34))
    simpa using this
  have hb0 : Below w.heap.size w ((w.alloc (.cells #[.slice ai p.ins.length ci, .slice ao p.outs.length co, .slice al p.fl.length cl, .slice aa p.as.length ca, .slice ac p.cs.length cc] 34)).alloc (.map #[] 0)) := ((Below.refl _ _).alloc (Nat.le_refl _) _).alloc (by simp) _
  have hz0 : ((w.alloc (.cells #[.slice ai p.ins.length ci, .slice ao p.outs.length co, .slice al p.fl.length cl, .slice aa p.as.length ca, .slice ac p.cs.length cc] 34)).alloc (.map #[] 0)).heap.size = w.heap.size + 2 := by simp
  generalize (w.alloc (.cells #[.slice ai p.ins.length ci, .slice ao p.outs.length co, .slice al p.fl.length cl, .slice aa p.as.length ca, .slice ac p.cs.length cc] 34)).alloc (.map #[] 0) = W0 at *
  have HQ := Lib.hid hq
  have HM0 := Lib.hid hM0
  have HB0 := Lib.hid hb0
  have hz0' : w.heap.size + 2 ≤ W0.heap.size := by omega
  clear hq hM0 hb0 hz0
  go_loopw [13] (fun i wr => ∃ k : Nat, i = .int .i64 k ∧ k ≤ p.fl.length ∧ Below w.heap.size w wr ∧ w.heap.size + 2 ≤ wr.heap.size ∧ wr.cell? ⟨w.heap.size, 2, none⟩ = some (.slice al p.fl.length cl) ∧ MapAt natV wr (w.heap.size + 1) (atFrom 0 Env.none (p.fl.take k))) (fun i _ => p.fl.length - (intOf i).toNat)
  case atStart => exact ⟨0, rfl, Nat.zero_le _, HB0.out, hz0', HQ.out, HM0.out⟩
  case round =>
    obtain ⟨k, rfl, hk, hb, hz, hq, hM⟩ := hrel
    have HB := Lib.hid hb
    have HM := Lib.hid hM
    have HQr := Lib.hid hq
    clear hb hM hq
    by_cases hkl : k < p.fl.length
    · obtain ⟨b, off, rfl, _, hfc⟩ := SlV.at H3.out hkl
      obtain ⟨u, c0, c1, c2, c3, c4, c5, hu⟩ := hfc.cells
      obtain ⟨ax, cx, rfl⟩ := hu.len
      have hHr := hH.below HB.out
      have c0 := hHr.cell c0
      have c1 := hHr.cell c1
      have c2 := hHr.cell c2
      have c3 := hHr.cell c3
      have c4 := hHr.cell c4
      have c5 := hHr.cell c5
      simp only [Nat.add_zero] at c0
      have TK := Lib.hid (show atFrom 0 Env.none (p.fl.take (k + 1)) = (atFrom 0 Env.none (p.fl.take k)).set p.fl[k].name k from by
        rw [List.take_succ_eq_append_getElem hkl, atFrom_snoc]; simp; congr 1; omega)
      clear hHr hu hfc
      generalize p.fl[k] = x at *
      obtain ⟨xn, xk, xe⟩ := x
      dsimp only at *
      generalize xe.op = xo at *
      generalize xe.n = xnn at *
      generalize xe.s = xs at *
      generalize xe.l.length = xl at *
      have hMa := HM.out.alloc (.cells #[.string xn, .int .i64 xk, .string xo, .int .i64 xnn, .string xs, .slice ax xl cx] 47)
      have HMA := Lib.hid hMa
      clear hMa
      go_wp2_with (at_mapUpdate; refine wp_store natV 52 9 3 Tryd.underlying52 Tryd.underlying9 (w.heap.size + 1) _ HMA.out _ _ _ rfl rfl rfl xn rfl k rfl ?_; intro w3 hM3 hT3)
      have HB3 := Lib.hid (hT3.below (HB.out.alloc HB.out.size (.cells #[.string xn, .int .i64 xk, .string xo, .int .i64 xnn, .string xs, .slice ax xl cx] 47)) (Nat.le_succ _))
      have HS3 := Lib.hid hT3.size
      have HQ3 := Lib.hid (show w3.cell? ⟨w.heap.size, 2, none⟩ = some (.slice (some ⟨b, off, none⟩) p.fl.length cl) from by rw [hT3.cell (p := ⟨w.heap.size, 2, none⟩) (show w.heap.size ≠ w.heap.size + 1 by omega), World.cell?_alloc_past _ _ _ (by omega)]; exact HQr.out)
      go_roundw
      case rel => exact ⟨k + 1, by go_num, by omega, HB3.out, by rw [HS3.out]; simp; omega, HQ3.out, by rw [TK.out]; exact hM3⟩
      case measure => simp [intOf]; omega
    · obtain rfl : k = p.fl.length := by omega
      have hM := HM.out
      rw [List.take_length] at hM
      have HGR := Lib.hid (show p.graph = p.fl.map fun f => needs (atFrom 0 Env.none p.fl) f.e from rfl)
      generalize hat : atFrom 0 Env.none p.fl = atm at *
      have HAT := Lib.hid hat
      have hqr := HQr.out
      have hq1 : ((wr.alloc (.cells (madeCells #[.slice none 0 0] p.fl.length) 83)).alloc (.cells #[.slice (some ⟨wr.heap.size, 0, none⟩) p.fl.length p.fl.length] 111)).cell? ⟨w.heap.size, 2, none⟩ = some (.slice al p.fl.length cl) := by
        rw [World.cell?_alloc_past _ _ _ (by simp; omega), World.cell?_alloc_past _ _ _ (by omega)]; exact HQr.out
      clear hat HM HM0 HB0 HQ
      go_wp2_with fail
      have hM1 := (hM.alloc (.cells (madeCells #[.slice none 0 0] p.fl.length) 83)).alloc (.cells #[.slice (some ⟨wr.heap.size, 0, none⟩) p.fl.length p.fl.length] 111)
      have hb1 := (HB.out.alloc HB.out.size (.cells (madeCells #[.slice none 0 0] p.fl.length) 83)).alloc (by have := HB.out.size; simp; omega) (.cells #[.slice (some ⟨wr.heap.size, 0, none⟩) p.fl.length p.fl.length] 111)
      have hR1 : ((wr.alloc (.cells (madeCells #[.slice none 0 0] p.fl.length) 83)).alloc (.cells #[.slice (some ⟨wr.heap.size, 0, none⟩) p.fl.length p.fl.length] 111)).heap[wr.heap.size]? = some (.cells (madeCells #[.slice none 0 0] p.fl.length) 83 (0, 0)) := by
        rw [Below.heap_alloc _ _ _ (by simp)]; exact heap_alloc_new _ _
      have hBo1 : ((wr.alloc (.cells (madeCells #[.slice none 0 0] p.fl.length) 83)).alloc (.cells #[.slice (some ⟨wr.heap.size, 0, none⟩) p.fl.length p.fl.length] 111)).cell? ⟨wr.heap.size + 1, 0, none⟩ = some (.slice (some ⟨wr.heap.size, 0, none⟩) p.fl.length p.fl.length) := by
        simp
      have hz1 : wr.heap.size + 2 ≤ ((wr.alloc (.cells (madeCells #[.slice none 0 0] p.fl.length) 83)).alloc (.cells #[.slice (some ⟨wr.heap.size, 0, none⟩) p.fl.length p.fl.length] 111)).heap.size := by simp
      generalize (wr.alloc (.cells (madeCells #[.slice none 0 0] p.fl.length) 83)).alloc (.cells #[.slice (some ⟨wr.heap.size, 0, none⟩) p.fl.length p.fl.length] 111) = W1 at *
      clear hqr hM hmk hmm HQr HB
      generalize wr.heap.size = R at *
      have HS := Lib.hid (And.intro hq1 (And.intro hM1 (And.intro hb1 (And.intro hR1 hBo1))))
      clear hq1 hM1 hb1 hR1 hBo1
      go_loopw [30] (fun i wr => ∃ (k : Nat) (cs : Array Value), i = .int .i64 k ∧ k ≤ p.fl.length ∧ Below w.heap.size w wr ∧ R + 2 ≤ wr.heap.size ∧ wr.cell? ⟨w.heap.size, 2, none⟩ = some (.slice al p.fl.length cl) ∧ MapAt natV wr (w.heap.size + 1) atm ∧
        wr.heap[R]? = some (.cells cs 83 (0, 0)) ∧ wr.cell? ⟨R + 1, 0, none⟩ = some (.slice (some ⟨R, 0, none⟩) p.fl.length p.fl.length) ∧ cs.size = p.fl.length ∧ (∀ j (h : j < p.fl.length), j < k → ∃ v, cs[j]? = some v ∧ IntsV (butKn R wr) (needs atm p.fl[j].e) v) ∧ (∀ j, k ≤ j → j < p.fl.length → cs[j]? = some (.slice none 0 0))) (fun i _ => p.fl.length - (intOf i).toNat)
      case atStart => exact ⟨0, _, rfl, Nat.zero_le _, HS.out.2.2.1, hz1, HS.out.1, HS.out.2.1, HS.out.2.2.2.1, HS.out.2.2.2.2, made_size _, fun j _ h => by omega, fun j _ h => made_get _ j h⟩
      case round =>
        obtain ⟨k, cs, rfl, hk, hb, hz, hq, hM, hR, hBo, hsz, hdone, hnil⟩ := hrel
        have HB := Lib.hid hb
        have HM := Lib.hid hM
        have HR := Lib.hid hR
        have HBo := Lib.hid hBo
        have HSZ := Lib.hid hsz
        have HD := Lib.hid hdone
        have HNIL := Lib.hid hnil
        have HQ := Lib.hid hq
        clear hb hM hR hsz hdone hnil hq
        by_cases hkl : k < p.fl.length
        · obtain ⟨b, off, rfl, _, hfc⟩ := SlV.at H3.out hkl
          obtain ⟨u, c0, c1, c2, c3, c4, c5, hu⟩ := hfc.cells
          obtain ⟨ax, cx, rfl⟩ := hu.len
          have hHr := hH.below HB.out
          have c0 := hHr.cell c0
          have c1 := hHr.cell c1
          have c2 := hHr.cell c2
          have c3 := hHr.cell c3
          have c4 := hHr.cell c4
          have c5 := hHr.cell c5
          simp only [Nat.add_zero] at c0
          have HF := Lib.hid (HFM.out p.fl[k] (List.getElem_mem hkl))
          have HEQ := Lib.hid (show ∀ j (h : j < p.fl.length), j < k + 1 → j < k ∨ j = k ∧ p.fl[j] = p.fl[k] from fun j h hj => by
            by_cases hjk : j < k
            · exact .inl hjk
            · obtain rfl : j = k := by omega
              exact .inr ⟨rfl, rfl⟩)
          have HEX := Lib.hid (show ExV H p.fl[k].e (.agg #[.string p.fl[k].e.op, .int .i64 p.fl[k].e.n, .string p.fl[k].e.s, .slice ax p.fl[k].e.l.length cx]) from ⟨_, rfl, hu⟩)
          clear hHr hu hfc
          generalize p.fl[k] = x at *
          obtain ⟨xn, xk, xe⟩ := x
          dsimp only at *
          go_wp2_with fail
          have hwiM : MapAt natV ((wr.alloc (.cells #[.int .i64 k] 3)).alloc (.cells #[.string xn, .int .i64 xk, .string xe.op, .int .i64 xe.n, .string xe.s, .slice ax xe.l.length cx] 47)) (w.heap.size + 1) atm := (HM.out.alloc _).alloc _
          have hold : ∀ q, q < wr.heap.size → ((wr.alloc (.cells #[.int .i64 k] 3)).alloc (.cells #[.string xn, .int .i64 xk, .string xe.op, .int .i64 xe.n, .string xe.s, .slice ax xe.l.length cx] 47)).heap[q]? = wr.heap[q]? := fun q hq => by rw [Below.heap_alloc _ _ _ (by simp; omega), Below.heap_alloc _ _ _ hq]
          have hbi : Below w.heap.size w ((wr.alloc (.cells #[.int .i64 k] 3)).alloc (.cells #[.string xn, .int .i64 xk, .string xe.op, .int .i64 xe.n, .string xe.s, .slice ax xe.l.length cx] 47)) := (HB.out.alloc HB.out.size _).alloc (by have := HB.out.size; simp; omega) _
          have hBi : ((wr.alloc (.cells #[.int .i64 k] 3)).alloc (.cells #[.string xn, .int .i64 xk, .string xe.op, .int .i64 xe.n, .string xe.s, .slice ax xe.l.length cx] 47)).cell? ⟨wr.heap.size, 0, none⟩ = some (.int .i64 k) := by rw [World.cell?_alloc_past _ _ _ (by simp), World.cell?_alloc_new]; rfl
          have hzi : ((wr.alloc (.cells #[.int .i64 k] 3)).alloc (.cells #[.string xn, .int .i64 xk, .string xe.op, .int .i64 xe.n, .string xe.s, .slice ax xe.l.length cx] 47)).heap.size = wr.heap.size + 2 := by simp
          generalize (wr.alloc (.cells #[.int .i64 k] 3)).alloc (.cells #[.string xn, .int .i64 xk, .string xe.op, .int .i64 xe.n, .string xe.s, .slice ax xe.l.length cx] 47) = wi at *
          have hRlt : R < wr.heap.size := by omega
          have hself : cs.setIfInBounds k (.slice none 0 0) = cs := by
            apply Array.ext
            · simp
            · intro q h1 h2
              rw [Array.getElem_setIfInBounds]
              split
              · rename_i hq
                subst hq
                have := HNIL.out k (Nat.le_refl _) hkl
                rw [Array.getElem?_eq_getElem h2] at this
                exact (Option.some.inj this).symm
              · rfl
          have hI0 : GrI w wi wi R k (wr.heap.size + 2) cs [] := ⟨hbi, by omega, ⟨.slice none 0 0, by rw [hself, hold R hRlt]; exact HR.out, World.ownsRow_nil _ _ _ _⟩, fun _ _ _ => rfl⟩
          have hbwr := HB.out.size
          refine (needs_any _ _ H (w.heap.size + 1) atm _ (gr_seer H w wi R k p.fl.length (w.heap.size + 1) (R + 1) wr.heap.size (wr.heap.size + 2) cs atm hH hwiM (by omega) (by omega) (by omega)
            (by rw [World.cell?_of_block (w := wr) (hold (R + 1) (by omega))]; exact HBo.out) hBi (by omega) hkl hn (by rw [HSZ.out]; exact hkl)) ks xe HF.out.1 _ HEX.out [] wi (by have := HF.out.2; simp; omega) hI0).mono ?_
          rintro r w2 ⟨rfl, hI, _⟩
          have HI := Lib.hid hI
          clear hI hI0 hwiM hbi hBi hself
          obtain ⟨v, hv1, hv2⟩ := HI.out.row
          have hk2 := HI.out.keep
          have hs2 := HI.out.size
          have HN := Lib.hid (show (butKn R wr).le (butKn R w2) from butKn_le fun q hq hne => (hk2 q (by omega) hne).trans (hold q hq))
          have HV := Lib.hid (ints_of_row hv2 (R := R) (own_ge hv2 (by omega)))
          have HRR := Lib.hid hv1
          have HC2 := Lib.hid (show w2.cell? ⟨w.heap.size, 2, none⟩ = some (.slice (some ⟨b, off, none⟩) p.fl.length cl) from by rw [World.cell?_of_block (w := wi) (hk2 w.heap.size (by omega) (by omega)), World.cell?_of_block (w := wr) (hold w.heap.size (by omega))]; exact HQ.out)
          have HM2 := Lib.hid (HM.out.of_block (w' := w2) ((hk2 (w.heap.size + 1) (by omega) (by omega)).trans (hold _ (by omega))))
          have HBo2 := Lib.hid (show w2.cell? ⟨R + 1, 0, none⟩ = some (.slice (some ⟨R, 0, none⟩) p.fl.length p.fl.length) from by rw [World.cell?_of_block (w := wi) (hk2 (R + 1) (by omega) (by omega)), World.cell?_of_block (w := wr) (hold (R + 1) (by omega))]; exact HBo.out)
          clear hv1 hv2 hk2 hold
          go_wp2_with fail
          go_roundw
          case rel =>
            refine ⟨k + 1, cs.setIfInBounds k v, by go_num, by omega, HI.out.below, by omega, HC2.out, HM2.out, HRR.out, HBo2.out, by simp [HSZ.out], fun j hj hjk => ?_, fun j hj hjn => ?_⟩
            · rcases HEQ.out j hj hjk with h | ⟨h, he⟩
              · obtain ⟨v', h1, h2⟩ := HD.out j hj h
                exact ⟨v', by rw [Array.getElem?_setIfInBounds]; rw [if_neg (by omega)]; exact h1, IntsV.le HN.out h2⟩
              · refine ⟨v, by rw [h]; simp [HSZ.out, hkl], ?_⟩
                rw [he]
                simpa using HV.out
            · rw [Array.getElem?_setIfInBounds, if_neg (by omega)]; exact HNIL.out j (by omega) hjn
          case measure => simp [intOf]; omega
        · obtain rfl : k = p.fl.length := by omega
          go_wp2_with fail
          go_ret
          refine ⟨.slice (some ⟨R, 0, none⟩) p.fl.length p.fl.length, rfl, ?_, HB.out⟩
          have hlen : p.graph.length = p.fl.length := by rw [HGR.out]; simp
          by_cases h0 : p.graph = []
          · exact .inl ⟨h0, some ⟨R, 0, none⟩, p.fl.length, by rw [← hlen, h0]; rfl⟩
          · refine .inr ⟨R, 0, p.fl.length, by rw [hlen], by omega, by unfold maxLen; omega, fun j hj => ?_⟩
            have hj' : j < p.fl.length := by omega
            obtain ⟨v, h1, h2⟩ := HD.out j hj' hj'
            refine ⟨v, ?_, ?_⟩
            · show (allKn wr).cell R (0 + j * 1 + 0) = some v
              rw [allKn_cell]
              simp only [Nat.zero_add, Nat.mul_one, Nat.add_zero]
              simp [World.cell?, HR.out, h1]
            · have e : p.graph[j] = needs atm p.fl[j].e := by simp only [HGR.out, List.getElem_map]
              rw [e]
              exact IntsV.le (butKn_le_all _ _) h2
theorem flat_get {α : Type} (k : Nat) (c : α → List Value) (hc : ∀ x, (c x).length = k) : ∀ (l : List α) (i : Nat) (hi : i < l.length) (j : Nat), j < k → (l.flatMap c)[i * k + j]? = (c l[i])[j]?
  | x :: l, 0, _, j, hj => by
    simp only [List.flatMap_cons, Nat.zero_mul, Nat.zero_add, List.getElem_cons_zero]
    rw [List.getElem?_append_left (by rw [hc]; exact hj)]
  | x :: l, i + 1, hi, j, hj => by
    simp only [List.flatMap_cons, List.getElem_cons_succ]
    have e : (i + 1) * k + j = k + (i * k + j) := by rw [Nat.add_mul]; omega
    rw [List.getElem?_append_right (by rw [hc, e]; omega), hc, e, Nat.add_sub_cancel_left]
    exact flat_get k c hc l i (by simpa using hi) j hj
theorem Tryd.infoFlow : (Tryd.prog.info? 47).map (fun i => (i.zero, i.size, i.bytes)) = some (some (.agg #[.string ⟨#[]⟩, .int .i64 0, .string ⟨#[]⟩, .int .i64 0, .string ⟨#[]⟩, .slice none 0 0]), 6, 88) := by kernel_rfl
theorem Tryd.infoStr1 : (Tryd.prog.info? 9).map (fun i => (i.zero, i.size, i.bytes)) = some (some (.string ⟨#[]⟩), 1, 16) := by kernel_rfl
def newKn (n : Nat) (w : World) : Kn := fun b => if b < n then none else w.heap[b]?
theorem newKn_le (n : Nat) (w : World) : (newKn n w).le (allKn w) := fun b o e => by
  unfold newKn at e
  split at e
  · cases e
  · exact e
theorem newKn_cell {n : Nat} {w : World} {b : Nat} (h : n ≤ b) (i : Nat) : (newKn n w).cell b i = w.cell? ⟨b, i, none⟩ := by
  rw [← allKn_cell]
  simp [Kn.cell, newKn, allKn, Nat.not_lt.2 h]
theorem slv_new {α : Type} {k : Nat} {R : α → (Nat → Option Value) → Prop} {w : World} {base n : Nat} {t : TypeId} {v : Value} {l : List α} {xs : List Value} (h : w.ownsRow base t k v l.length xs) (hn : n ≤ base)
    (hR : ∀ i (hi : i < l.length), ∀ f : Nat → Option Value, (∀ j u, xs[i * k + j]? = some u → f j = some u) → R l[i] f) : SlV (newKn n w) k R l v := by
  by_cases h0 : l = []
  · obtain ⟨a, c, h1, _⟩ := own_len h
    exact .inl ⟨h0, a, c, by rw [h1, h0]; rfl⟩
  · obtain ⟨g, cap, rfl, h2, h3, hb, _, h4⟩ := own_shape h (List.length_pos_iff.2 h0)
    refine .inr ⟨g, 0, cap, rfl, h2, h3, fun i hi => hR i hi _ fun j u hu => ?_⟩
    rw [newKn_cell (by omega), Nat.zero_add]
    exact h4 _ u hu
end Go.Proofs.YthihoafemahgmaaDoor
