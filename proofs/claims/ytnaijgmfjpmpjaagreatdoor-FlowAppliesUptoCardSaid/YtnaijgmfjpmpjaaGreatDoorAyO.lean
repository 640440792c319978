/- Walks: lustrumref2.ApplyOf, operator by operator. (Printed by gen_ay.py.) -/
import Derived.Test.YtnaijgmfjpmpjaaGreatDoorFlA
import Derived.Test.YtnaijgmfjpmpjaaGreatDoorCpM
import Derived.Test.YtnaijgmfjpmpjaaGreatDoorRg
namespace Go.Proofs.YtnaijgmfjpmpjaaGreatDoor
set_option maxRecDepth 100000
set_option maxHeartbeats 16000000
open Go.RowKit Mx
theorem cell_ltA {w : World} {b o : Nat} {v : Value} (h : w.cell? ⟨b, o, none⟩ = some v) : b < w.heap.size := by
 unfold World.cell? at h
 cases e : w.heap[b]? with
 | none => simp [e] at h
 | some x => exact (Array.getElem?_eq_some_iff.1 e).1
theorem allocs2 {w : World} {b i : Nat} {v : Value} (hb : b < w.heap.size) (h : w.cell? ⟨b, i, none⟩ = some v) : (∀ o, (w.alloc o).cell? ⟨b, i, none⟩ = some v) ∧ ∀ o o', ((w.alloc o).alloc o').cell? ⟨b, i, none⟩ = some v := by
 have h1 : ∀ o, (w.alloc o).cell? ⟨b, i, none⟩ = some v := fun o => (((Below.refl w.heap.size w).alloc (Nat.le_refl _) o).cell (p := ⟨b, i, none⟩) hb).trans h
 exact ⟨h1, fun o o' => (((Below.refl (w.alloc o).heap.size (w.alloc o)).alloc (Nat.le_refl _) o').cell (p := ⟨b, i, none⟩) (by simp; omega)).trans (h1 o)⟩
theorem below_allocsA' (n : Nat) : ∀ (l : List Obj) (w0 w : World), Below n w0 w → n ≤ w.heap.size → Below n w0 (l.foldl World.alloc w)
 | [], _, _, h, _ => h
 | o :: l, w0, w, h, hn => by rw [List.foldl_cons]; exact below_allocsA' n l w0 _ (h.alloc hn o) (by simp; omega)
theorem below_allocsA (l : List Obj) (w : World) : Below w.heap.size w (l.foldl World.alloc w) := below_allocsA' _ l w w (Below.refl _ _) (Nat.le_refl _)
theorem heap_allocsA : ∀ (l : List Obj) (w : World) (i : Nat), i < l.length → (l.foldl World.alloc w).heap[w.heap.size + i]? = l[i]?
 | [], w, i, h => by simp at h
 | o :: l, w, 0, _ => by
  rw [List.foldl_cons]
  have h1 := (below_allocsA l (w.alloc o)).block w.heap.size (by simp)
  rw [Nat.add_zero, h1, heap_alloc_new]
  rfl
 | o :: l, w, i + 1, h => by
  rw [List.foldl_cons]
  have h1 := heap_allocsA l (w.alloc o) i (by simpa using h)
  rw [World.size_alloc] at h1
  rw [show w.heap.size + (i + 1) = w.heap.size + 1 + i from by omega, h1]
  rfl
theorem wrap_small {n : Int} (h1 : -1000000 ≤ n) (h2 : n ≤ 1000000) : IntKind.wrap .i64 n = n := by
 rw [wrap64]
 split <;> omega
theorem allocs3 {w : World} {b i : Nat} {v : Value} (hb : b < w.heap.size) (h : w.cell? ⟨b, i, none⟩ = some v) : ∀ o o' o'', (((w.alloc o).alloc o').alloc o'').cell? ⟨b, i, none⟩ = some v := fun o o' o'' =>
 (((Below.refl ((w.alloc o).alloc o').heap.size ((w.alloc o).alloc o')).alloc (Nat.le_refl _) o'').cell (p := ⟨b, i, none⟩) (by simp; omega)).trans ((allocs2 hb h).2 o o')
theorem set2A {W : World} {b : Nat} {x y : Value} {t : TypeId} (h : W.heap[b]? = some (.cells #[x, y] t (0, 0))) (u v : Value) : ((W.setCell ⟨b, 0, none⟩ u).setCell ⟨b, 1, none⟩ v).cell? ⟨b, 0, none⟩ = some u ∧ ((W.setCell ⟨b, 0, none⟩ u).setCell ⟨b, 1, none⟩ v).cell? ⟨b, 1, none⟩ = some v := by
 have h1 := heap_setCell_same W b 0 u _ _ _ h
 have h2 := heap_setCell_same _ b 1 v _ _ _ h1
 obtain ⟨g0, g1, _⟩ := cell2_of (W := (W.setCell ⟨b, 0, none⟩ u).setCell ⟨b, 1, none⟩ v) h2
 exact ⟨g0, g1⟩
theorem rapp_and (x y : Vl) (hx : x.n = 0 ∨ x.n = 1) (hy : y.n = 0 ∨ y.n = 1) (b off c : Nat) (w : World) (hc : ∀ i (h : i < 2), w.cell? ⟨b, off + i * 2, none⟩ = some (.int .i64 ([x, y][i]).kind) ∧ w.cell? ⟨b, off + i * 2 + 1, none⟩ = some (.int .i64 ([x, y][i]).n)) :
  Calls Tryz.prog 10 #[.string oAnd, .slice (some ⟨b, off, none⟩) 2 c] w fun r w' => r = .returned (.tuple #[vlV (appM oAnd [x, y]).1, .bool (appM oAnd [x, y]).2]) ∧ Below w.heap.size w w' := by
 obtain ⟨xk, xn⟩ := x
 obtain ⟨yk, yn⟩ := y
 have hb : b < w.heap.size := cell_ltA (hc 0 (by decide)).1
 obtain ⟨p0, p0n⟩ := hc 0 (by decide)
 obtain ⟨p1, p1n⟩ := hc 1 (by decide)
 simp only [List.getElem_cons_zero, List.getElem_cons_succ, Nat.zero_mul, Nat.one_mul, Nat.add_zero, Nat.reduceMul] at p0 p0n p1 p1n
 obtain ⟨a0, b0⟩ := allocs2 hb p0
 obtain ⟨a0n, b0n⟩ := allocs2 hb p0n
 obtain ⟨a1, b1⟩ := allocs2 hb p1
 obtain ⟨a1n, b1n⟩ := allocs2 hb p1n
 clear hc
 have hbl : ∀ x y : Obj, Below w.heap.size w (((w.alloc (.cells #[.int .i64 0, .int .i64 0] 25)).alloc x).alloc y) := fun x y => (((Below.refl _ _).alloc (Nat.le_refl _) _).alloc (by simp) _).alloc (by simp; omega) _
 have hbr : ∀ x y : Obj, (((w.alloc (.cells #[.int .i64 0, .int .i64 0] 25)).alloc x).alloc y).heap[w.heap.size]? = some (.cells #[.int .i64 0, .int .i64 0] 25 (0, 0)) := fun x y => by
  rw [Below.heap_alloc _ _ _ (by simp; omega), Below.heap_alloc _ _ _ (by simp)]; exact heap_alloc_new _ _
 have HB3 := Lib.hid (show ∀ z x y : Obj, Below w.heap.size w (((w.alloc z).alloc x).alloc y) from fun z x y => (((Below.refl _ _).alloc (Nat.le_refl _) _).alloc (by simp) _).alloc (by simp; omega) _)
 have HBL := Lib.hid hbl
 have HBR := Lib.hid hbr
 clear hbl hbr
 dsimp only at hx hy
 rcases hx with rfl | rfl <;> rcases hy with rfl | rfl
 ·go_enter Tryz.func10, Tryz.ntmps10
  go_wp2_with fail
  refine (rtruth_any _ _).mono ?_
  rintro r w5 ⟨rfl, hb5⟩
  have hR5 := (hb5.block w.heap.size (by simp; omega)).trans (HBR.out _ _)
  have hB5 := (HBL.out _ _).trans (hb5.mono (by simp; omega))
  have E5 := Lib.hid (set2A hR5)
  obtain ⟨r0, r1, f0, f1, _⟩ := cell2_of hR5
  have HB5 := Lib.hid hB5
  clear hR5 hB5 hb5
  simp only [vlV, tv]
  go_wp2_with fail
  have e0 := fun u v => (E5.out u v).1
  have e1 := fun u v => (E5.out u v).2
  refine bodyPost_ret (v := .tuple #[.agg #[.int .i64 1, .int .i64 0], .bool false]) (by simp [results, Tryz.results10, go_sem, e0, e1]) rfl ?_
  refine ⟨?_, (HB5.out.setCell (p := ⟨w.heap.size, 0, none⟩) (Nat.le_refl _) _).setCell (p := ⟨w.heap.size, 1, none⟩) (Nat.le_refl _) _⟩
  rfl
 ·go_enter Tryz.func10, Tryz.ntmps10
  go_wp2_with fail
  refine (rtruth_any _ _).mono ?_
  rintro r w5 ⟨rfl, hb5⟩
  have hR5 := (hb5.block w.heap.size (by simp; omega)).trans (HBR.out _ _)
  have hB5 := (HBL.out _ _).trans (hb5.mono (by simp; omega))
  have E5 := Lib.hid (set2A hR5)
  obtain ⟨r0, r1, f0, f1, _⟩ := cell2_of hR5
  have HB5 := Lib.hid hB5
  clear hR5 hB5 hb5
  simp only [vlV, tv]
  go_wp2_with fail
  have e0 := fun u v => (E5.out u v).1
  have e1 := fun u v => (E5.out u v).2
  refine bodyPost_ret (v := .tuple #[.agg #[.int .i64 1, .int .i64 0], .bool false]) (by simp [results, Tryz.results10, go_sem, e0, e1]) rfl ?_
  refine ⟨?_, (HB5.out.setCell (p := ⟨w.heap.size, 0, none⟩) (Nat.le_refl _) _).setCell (p := ⟨w.heap.size, 1, none⟩) (Nat.le_refl _) _⟩
  rfl
 ·go_enter Tryz.func10, Tryz.ntmps10
  go_wp2_with fail
  refine (rtruth_any _ _).mono ?_
  rintro r w5 ⟨rfl, hb5⟩
  have hR5 := (hb5.block w.heap.size (by simp; omega)).trans (HBR.out _ _)
  have hB5 := (HBL.out _ _).trans (hb5.mono (by simp; omega))
  have E5 := Lib.hid (set2A hR5)
  obtain ⟨r0, r1, f0, f1, _⟩ := cell2_of hR5
  have HB5 := Lib.hid hB5
  clear hR5 hB5 hb5
  simp only [vlV, tv]
  go_wp2_with fail
  have e0 := fun u v => (E5.out u v).1
  have e1 := fun u v => (E5.out u v).2
  refine bodyPost_ret (v := .tuple #[.agg #[.int .i64 1, .int .i64 0], .bool false]) (by simp [results, Tryz.results10, go_sem, e0, e1]) rfl ?_
  refine ⟨?_, (HB5.out.setCell (p := ⟨w.heap.size, 0, none⟩) (Nat.le_refl _) _).setCell (p := ⟨w.heap.size, 1, none⟩) (Nat.le_refl _) _⟩
  rfl
 ·go_enter Tryz.func10, Tryz.ntmps10
  go_wp2_with fail
  refine (rtruth_any _ _).mono ?_
  rintro r w5 ⟨rfl, hb5⟩
  have hR5 := (hb5.block w.heap.size (by simp; omega)).trans (HBR.out _ _)
  have hB5 := (HBL.out _ _).trans (hb5.mono (by simp; omega))
  have E5 := Lib.hid (set2A hR5)
  obtain ⟨r0, r1, f0, f1, _⟩ := cell2_of hR5
  have HB5 := Lib.hid hB5
  clear hR5 hB5 hb5
  simp only [vlV, tv]
  go_wp2_with fail
  have e0 := fun u v => (E5.out u v).1
  have e1 := fun u v => (E5.out u v).2
  refine bodyPost_ret (v := .tuple #[.agg #[.int .i64 1, .int .i64 1], .bool false]) (by simp [results, Tryz.results10, go_sem, e0, e1]) rfl ?_
  refine ⟨?_, (HB5.out.setCell (p := ⟨w.heap.size, 0, none⟩) (Nat.le_refl _) _).setCell (p := ⟨w.heap.size, 1, none⟩) (Nat.le_refl _) _⟩
  rfl
theorem rapp_or (x y : Vl) (hx : x.n = 0 ∨ x.n = 1) (hy : y.n = 0 ∨ y.n = 1) (b off c : Nat) (w : World) (hc : ∀ i (h : i < 2), w.cell? ⟨b, off + i * 2, none⟩ = some (.int .i64 ([x, y][i]).kind) ∧ w.cell? ⟨b, off + i * 2 + 1, none⟩ = some (.int .i64 ([x, y][i]).n)) :
  Calls Tryz.prog 10 #[.string oOr, .slice (some ⟨b, off, none⟩) 2 c] w fun r w' => r = .returned (.tuple #[vlV (appM oOr [x, y]).1, .bool (appM oOr [x, y]).2]) ∧ Below w.heap.size w w' := by
 obtain ⟨xk, xn⟩ := x
 obtain ⟨yk, yn⟩ := y
 have hb : b < w.heap.size := cell_ltA (hc 0 (by decide)).1
 obtain ⟨p0, p0n⟩ := hc 0 (by decide)
 obtain ⟨p1, p1n⟩ := hc 1 (by decide)
 simp only [List.getElem_cons_zero, List.getElem_cons_succ, Nat.zero_mul, Nat.one_mul, Nat.add_zero, Nat.reduceMul] at p0 p0n p1 p1n
 obtain ⟨a0, b0⟩ := allocs2 hb p0
 obtain ⟨a0n, b0n⟩ := allocs2 hb p0n
 obtain ⟨a1, b1⟩ := allocs2 hb p1
 obtain ⟨a1n, b1n⟩ := allocs2 hb p1n
 clear hc
 have hbl : ∀ x y : Obj, Below w.heap.size w (((w.alloc (.cells #[.int .i64 0, .int .i64 0] 25)).alloc x).alloc y) := fun x y => (((Below.refl _ _).alloc (Nat.le_refl _) _).alloc (by simp) _).alloc (by simp; omega) _
 have hbr : ∀ x y : Obj, (((w.alloc (.cells #[.int .i64 0, .int .i64 0] 25)).alloc x).alloc y).heap[w.heap.size]? = some (.cells #[.int .i64 0, .int .i64 0] 25 (0, 0)) := fun x y => by
  rw [Below.heap_alloc _ _ _ (by simp; omega), Below.heap_alloc _ _ _ (by simp)]; exact heap_alloc_new _ _
 have HB3 := Lib.hid (show ∀ z x y : Obj, Below w.heap.size w (((w.alloc z).alloc x).alloc y) from fun z x y => (((Below.refl _ _).alloc (Nat.le_refl _) _).alloc (by simp) _).alloc (by simp; omega) _)
 have HBL := Lib.hid hbl
 have HBR := Lib.hid hbr
 clear hbl hbr
 dsimp only at hx hy
 rcases hx with rfl | rfl <;> rcases hy with rfl | rfl
 ·go_enter Tryz.func10, Tryz.ntmps10
  go_wp2_with fail
  refine (rtruth_any _ _).mono ?_
  rintro r w5 ⟨rfl, hb5⟩
  have hR5 := (hb5.block w.heap.size (by simp; omega)).trans (HBR.out _ _)
  have hB5 := (HBL.out _ _).trans (hb5.mono (by simp; omega))
  have E5 := Lib.hid (set2A hR5)
  obtain ⟨r0, r1, f0, f1, _⟩ := cell2_of hR5
  have HB5 := Lib.hid hB5
  clear hR5 hB5 hb5
  simp only [vlV, tv]
  go_wp2_with fail
  have e0 := fun u v => (E5.out u v).1
  have e1 := fun u v => (E5.out u v).2
  refine bodyPost_ret (v := .tuple #[.agg #[.int .i64 1, .int .i64 0], .bool false]) (by simp [results, Tryz.results10, go_sem, e0, e1]) rfl ?_
  refine ⟨?_, (HB5.out.setCell (p := ⟨w.heap.size, 0, none⟩) (Nat.le_refl _) _).setCell (p := ⟨w.heap.size, 1, none⟩) (Nat.le_refl _) _⟩
  rfl
 ·go_enter Tryz.func10, Tryz.ntmps10
  go_wp2_with fail
  refine (rtruth_any _ _).mono ?_
  rintro r w5 ⟨rfl, hb5⟩
  have hR5 := (hb5.block w.heap.size (by simp; omega)).trans (HBR.out _ _)
  have hB5 := (HBL.out _ _).trans (hb5.mono (by simp; omega))
  have E5 := Lib.hid (set2A hR5)
  obtain ⟨r0, r1, f0, f1, _⟩ := cell2_of hR5
  have HB5 := Lib.hid hB5
  clear hR5 hB5 hb5
  simp only [vlV, tv]
  go_wp2_with fail
  have e0 := fun u v => (E5.out u v).1
  have e1 := fun u v => (E5.out u v).2
  refine bodyPost_ret (v := .tuple #[.agg #[.int .i64 1, .int .i64 1], .bool false]) (by simp [results, Tryz.results10, go_sem, e0, e1]) rfl ?_
  refine ⟨?_, (HB5.out.setCell (p := ⟨w.heap.size, 0, none⟩) (Nat.le_refl _) _).setCell (p := ⟨w.heap.size, 1, none⟩) (Nat.le_refl _) _⟩
  rfl
 ·go_enter Tryz.func10, Tryz.ntmps10
  go_wp2_with fail
  refine (rtruth_any _ _).mono ?_
  rintro r w5 ⟨rfl, hb5⟩
  have hR5 := (hb5.block w.heap.size (by simp; omega)).trans (HBR.out _ _)
  have hB5 := (HBL.out _ _).trans (hb5.mono (by simp; omega))
  have E5 := Lib.hid (set2A hR5)
  obtain ⟨r0, r1, f0, f1, _⟩ := cell2_of hR5
  have HB5 := Lib.hid hB5
  clear hR5 hB5 hb5
  simp only [vlV, tv]
  go_wp2_with fail
  have e0 := fun u v => (E5.out u v).1
  have e1 := fun u v => (E5.out u v).2
  refine bodyPost_ret (v := .tuple #[.agg #[.int .i64 1, .int .i64 1], .bool false]) (by simp [results, Tryz.results10, go_sem, e0, e1]) rfl ?_
  refine ⟨?_, (HB5.out.setCell (p := ⟨w.heap.size, 0, none⟩) (Nat.le_refl _) _).setCell (p := ⟨w.heap.size, 1, none⟩) (Nat.le_refl _) _⟩
  rfl
 ·go_enter Tryz.func10, Tryz.ntmps10
  go_wp2_with fail
  refine (rtruth_any _ _).mono ?_
  rintro r w5 ⟨rfl, hb5⟩
  have hR5 := (hb5.block w.heap.size (by simp; omega)).trans (HBR.out _ _)
  have hB5 := (HBL.out _ _).trans (hb5.mono (by simp; omega))
  have E5 := Lib.hid (set2A hR5)
  obtain ⟨r0, r1, f0, f1, _⟩ := cell2_of hR5
  have HB5 := Lib.hid hB5
  clear hR5 hB5 hb5
  simp only [vlV, tv]
  go_wp2_with fail
  have e0 := fun u v => (E5.out u v).1
  have e1 := fun u v => (E5.out u v).2
  refine bodyPost_ret (v := .tuple #[.agg #[.int .i64 1, .int .i64 1], .bool false]) (by simp [results, Tryz.results10, go_sem, e0, e1]) rfl ?_
  refine ⟨?_, (HB5.out.setCell (p := ⟨w.heap.size, 0, none⟩) (Nat.le_refl _) _).setCell (p := ⟨w.heap.size, 1, none⟩) (Nat.le_refl _) _⟩
  rfl
theorem rapp_xor (x y : Vl) (hx : x.n = 0 ∨ x.n = 1) (hy : y.n = 0 ∨ y.n = 1) (b off c : Nat) (w : World) (hc : ∀ i (h : i < 2), w.cell? ⟨b, off + i * 2, none⟩ = some (.int .i64 ([x, y][i]).kind) ∧ w.cell? ⟨b, off + i * 2 + 1, none⟩ = some (.int .i64 ([x, y][i]).n)) :
  Calls Tryz.prog 10 #[.string oXor, .slice (some ⟨b, off, none⟩) 2 c] w fun r w' => r = .returned (.tuple #[vlV (appM oXor [x, y]).1, .bool (appM oXor [x, y]).2]) ∧ Below w.heap.size w w' := by
 obtain ⟨xk, xn⟩ := x
 obtain ⟨yk, yn⟩ := y
 have hb : b < w.heap.size := cell_ltA (hc 0 (by decide)).1
 obtain ⟨p0, p0n⟩ := hc 0 (by decide)
 obtain ⟨p1, p1n⟩ := hc 1 (by decide)
 simp only [List.getElem_cons_zero, List.getElem_cons_succ, Nat.zero_mul, Nat.one_mul, Nat.add_zero, Nat.reduceMul] at p0 p0n p1 p1n
 obtain ⟨a0, b0⟩ := allocs2 hb p0
 obtain ⟨a0n, b0n⟩ := allocs2 hb p0n
 obtain ⟨a1, b1⟩ := allocs2 hb p1
 obtain ⟨a1n, b1n⟩ := allocs2 hb p1n
 clear hc
 have hbl : ∀ x y : Obj, Below w.heap.size w (((w.alloc (.cells #[.int .i64 0, .int .i64 0] 25)).alloc x).alloc y) := fun x y => (((Below.refl _ _).alloc (Nat.le_refl _) _).alloc (by simp) _).alloc (by simp; omega) _
 have hbr : ∀ x y : Obj, (((w.alloc (.cells #[.int .i64 0, .int .i64 0] 25)).alloc x).alloc y).heap[w.heap.size]? = some (.cells #[.int .i64 0, .int .i64 0] 25 (0, 0)) := fun x y => by
  rw [Below.heap_alloc _ _ _ (by simp; omega), Below.heap_alloc _ _ _ (by simp)]; exact heap_alloc_new _ _
 have HB3 := Lib.hid (show ∀ z x y : Obj, Below w.heap.size w (((w.alloc z).alloc x).alloc y) from fun z x y => (((Below.refl _ _).alloc (Nat.le_refl _) _).alloc (by simp) _).alloc (by simp; omega) _)
 have HBL := Lib.hid hbl
 have HBR := Lib.hid hbr
 clear hbl hbr
 dsimp only at hx hy
 rcases hx with rfl | rfl <;> rcases hy with rfl | rfl
 ·go_enter Tryz.func10, Tryz.ntmps10
  go_wp2_with fail
  refine (rtruth_any _ _).mono ?_
  rintro r w5 ⟨rfl, hb5⟩
  have hR5 := (hb5.block w.heap.size (by simp; omega)).trans (HBR.out _ _)
  have hB5 := (HBL.out _ _).trans (hb5.mono (by simp; omega))
  have E5 := Lib.hid (set2A hR5)
  obtain ⟨r0, r1, f0, f1, _⟩ := cell2_of hR5
  have HB5 := Lib.hid hB5
  clear hR5 hB5 hb5
  simp only [vlV, tv]
  go_wp2_with fail
  have e0 := fun u v => (E5.out u v).1
  have e1 := fun u v => (E5.out u v).2
  refine bodyPost_ret (v := .tuple #[.agg #[.int .i64 1, .int .i64 0], .bool false]) (by simp [results, Tryz.results10, go_sem, e0, e1]) rfl ?_
  refine ⟨?_, (HB5.out.setCell (p := ⟨w.heap.size, 0, none⟩) (Nat.le_refl _) _).setCell (p := ⟨w.heap.size, 1, none⟩) (Nat.le_refl _) _⟩
  rfl
 ·go_enter Tryz.func10, Tryz.ntmps10
  go_wp2_with fail
  refine (rtruth_any _ _).mono ?_
  rintro r w5 ⟨rfl, hb5⟩
  have hR5 := (hb5.block w.heap.size (by simp; omega)).trans (HBR.out _ _)
  have hB5 := (HBL.out _ _).trans (hb5.mono (by simp; omega))
  have E5 := Lib.hid (set2A hR5)
  obtain ⟨r0, r1, f0, f1, _⟩ := cell2_of hR5
  have HB5 := Lib.hid hB5
  clear hR5 hB5 hb5
  simp only [vlV, tv]
  go_wp2_with fail
  have e0 := fun u v => (E5.out u v).1
  have e1 := fun u v => (E5.out u v).2
  refine bodyPost_ret (v := .tuple #[.agg #[.int .i64 1, .int .i64 1], .bool false]) (by simp [results, Tryz.results10, go_sem, e0, e1]) rfl ?_
  refine ⟨?_, (HB5.out.setCell (p := ⟨w.heap.size, 0, none⟩) (Nat.le_refl _) _).setCell (p := ⟨w.heap.size, 1, none⟩) (Nat.le_refl _) _⟩
  rfl
 ·go_enter Tryz.func10, Tryz.ntmps10
  go_wp2_with fail
  refine (rtruth_any _ _).mono ?_
  rintro r w5 ⟨rfl, hb5⟩
  have hR5 := (hb5.block w.heap.size (by simp; omega)).trans (HBR.out _ _)
  have hB5 := (HBL.out _ _).trans (hb5.mono (by simp; omega))
  have E5 := Lib.hid (set2A hR5)
  obtain ⟨r0, r1, f0, f1, _⟩ := cell2_of hR5
  have HB5 := Lib.hid hB5
  clear hR5 hB5 hb5
  simp only [vlV, tv]
  go_wp2_with fail
  have e0 := fun u v => (E5.out u v).1
  have e1 := fun u v => (E5.out u v).2
  refine bodyPost_ret (v := .tuple #[.agg #[.int .i64 1, .int .i64 1], .bool false]) (by simp [results, Tryz.results10, go_sem, e0, e1]) rfl ?_
  refine ⟨?_, (HB5.out.setCell (p := ⟨w.heap.size, 0, none⟩) (Nat.le_refl _) _).setCell (p := ⟨w.heap.size, 1, none⟩) (Nat.le_refl _) _⟩
  rfl
 ·go_enter Tryz.func10, Tryz.ntmps10
  go_wp2_with fail
  refine (rtruth_any _ _).mono ?_
  rintro r w5 ⟨rfl, hb5⟩
  have hR5 := (hb5.block w.heap.size (by simp; omega)).trans (HBR.out _ _)
  have hB5 := (HBL.out _ _).trans (hb5.mono (by simp; omega))
  have E5 := Lib.hid (set2A hR5)
  obtain ⟨r0, r1, f0, f1, _⟩ := cell2_of hR5
  have HB5 := Lib.hid hB5
  clear hR5 hB5 hb5
  simp only [vlV, tv]
  go_wp2_with fail
  have e0 := fun u v => (E5.out u v).1
  have e1 := fun u v => (E5.out u v).2
  refine bodyPost_ret (v := .tuple #[.agg #[.int .i64 1, .int .i64 0], .bool false]) (by simp [results, Tryz.results10, go_sem, e0, e1]) rfl ?_
  refine ⟨?_, (HB5.out.setCell (p := ⟨w.heap.size, 0, none⟩) (Nat.le_refl _) _).setCell (p := ⟨w.heap.size, 1, none⟩) (Nat.le_refl _) _⟩
  rfl
theorem rapp_imp (x y : Vl) (hx : x.n = 0 ∨ x.n = 1) (hy : y.n = 0 ∨ y.n = 1) (b off c : Nat) (w : World) (hc : ∀ i (h : i < 2), w.cell? ⟨b, off + i * 2, none⟩ = some (.int .i64 ([x, y][i]).kind) ∧ w.cell? ⟨b, off + i * 2 + 1, none⟩ = some (.int .i64 ([x, y][i]).n)) :
  Calls Tryz.prog 10 #[.string oImp, .slice (some ⟨b, off, none⟩) 2 c] w fun r w' => r = .returned (.tuple #[vlV (appM oImp [x, y]).1, .bool (appM oImp [x, y]).2]) ∧ Below w.heap.size w w' := by
 obtain ⟨xk, xn⟩ := x
 obtain ⟨yk, yn⟩ := y
 have hb : b < w.heap.size := cell_ltA (hc 0 (by decide)).1
 obtain ⟨p0, p0n⟩ := hc 0 (by decide)
 obtain ⟨p1, p1n⟩ := hc 1 (by decide)
 simp only [List.getElem_cons_zero, List.getElem_cons_succ, Nat.zero_mul, Nat.one_mul, Nat.add_zero, Nat.reduceMul] at p0 p0n p1 p1n
 obtain ⟨a0, b0⟩ := allocs2 hb p0
 obtain ⟨a0n, b0n⟩ := allocs2 hb p0n
 obtain ⟨a1, b1⟩ := allocs2 hb p1
 obtain ⟨a1n, b1n⟩ := allocs2 hb p1n
 clear hc
 have hbl : ∀ x y : Obj, Below w.heap.size w (((w.alloc (.cells #[.int .i64 0, .int .i64 0] 25)).alloc x).alloc y) := fun x y => (((Below.refl _ _).alloc (Nat.le_refl _) _).alloc (by simp) _).alloc (by simp; omega) _
 have hbr : ∀ x y : Obj, (((w.alloc (.cells #[.int .i64 0, .int .i64 0] 25)).alloc x).alloc y).heap[w.heap.size]? = some (.cells #[.int .i64 0, .int .i64 0] 25 (0, 0)) := fun x y => by
  rw [Below.heap_alloc _ _ _ (by simp; omega), Below.heap_alloc _ _ _ (by simp)]; exact heap_alloc_new _ _
 have HB3 := Lib.hid (show ∀ z x y : Obj, Below w.heap.size w (((w.alloc z).alloc x).alloc y) from fun z x y => (((Below.refl _ _).alloc (Nat.le_refl _) _).alloc (by simp) _).alloc (by simp; omega) _)
 have HBL := Lib.hid hbl
 have HBR := Lib.hid hbr
 clear hbl hbr
 dsimp only at hx hy
 rcases hx with rfl | rfl <;> rcases hy with rfl | rfl
 ·go_enter Tryz.func10, Tryz.ntmps10
  go_wp2_with fail
  refine (rtruth_any _ _).mono ?_
  rintro r w5 ⟨rfl, hb5⟩
  have hR5 := (hb5.block w.heap.size (by simp; omega)).trans (HBR.out _ _)
  have hB5 := (HBL.out _ _).trans (hb5.mono (by simp; omega))
  have E5 := Lib.hid (set2A hR5)
  obtain ⟨r0, r1, f0, f1, _⟩ := cell2_of hR5
  have HB5 := Lib.hid hB5
  clear hR5 hB5 hb5
  simp only [vlV, tv]
  go_wp2_with fail
  have e0 := fun u v => (E5.out u v).1
  have e1 := fun u v => (E5.out u v).2
  refine bodyPost_ret (v := .tuple #[.agg #[.int .i64 1, .int .i64 1], .bool false]) (by simp [results, Tryz.results10, go_sem, e0, e1]) rfl ?_
  refine ⟨?_, (HB5.out.setCell (p := ⟨w.heap.size, 0, none⟩) (Nat.le_refl _) _).setCell (p := ⟨w.heap.size, 1, none⟩) (Nat.le_refl _) _⟩
  rfl
 ·go_enter Tryz.func10, Tryz.ntmps10
  go_wp2_with fail
  refine (rtruth_any _ _).mono ?_
  rintro r w5 ⟨rfl, hb5⟩
  have hR5 := (hb5.block w.heap.size (by simp; omega)).trans (HBR.out _ _)
  have hB5 := (HBL.out _ _).trans (hb5.mono (by simp; omega))
  have E5 := Lib.hid (set2A hR5)
  obtain ⟨r0, r1, f0, f1, _⟩ := cell2_of hR5
  have HB5 := Lib.hid hB5
  clear hR5 hB5 hb5
  simp only [vlV, tv]
  go_wp2_with fail
  have e0 := fun u v => (E5.out u v).1
  have e1 := fun u v => (E5.out u v).2
  refine bodyPost_ret (v := .tuple #[.agg #[.int .i64 1, .int .i64 1], .bool false]) (by simp [results, Tryz.results10, go_sem, e0, e1]) rfl ?_
  refine ⟨?_, (HB5.out.setCell (p := ⟨w.heap.size, 0, none⟩) (Nat.le_refl _) _).setCell (p := ⟨w.heap.size, 1, none⟩) (Nat.le_refl _) _⟩
  rfl
 ·go_enter Tryz.func10, Tryz.ntmps10
  go_wp2_with fail
  refine (rtruth_any _ _).mono ?_
  rintro r w5 ⟨rfl, hb5⟩
  have hR5 := (hb5.block w.heap.size (by simp; omega)).trans (HBR.out _ _)
  have hB5 := (HBL.out _ _).trans (hb5.mono (by simp; omega))
  have E5 := Lib.hid (set2A hR5)
  obtain ⟨r0, r1, f0, f1, _⟩ := cell2_of hR5
  have HB5 := Lib.hid hB5
  clear hR5 hB5 hb5
  simp only [vlV, tv]
  go_wp2_with fail
  have e0 := fun u v => (E5.out u v).1
  have e1 := fun u v => (E5.out u v).2
  refine bodyPost_ret (v := .tuple #[.agg #[.int .i64 1, .int .i64 0], .bool false]) (by simp [results, Tryz.results10, go_sem, e0, e1]) rfl ?_
  refine ⟨?_, (HB5.out.setCell (p := ⟨w.heap.size, 0, none⟩) (Nat.le_refl _) _).setCell (p := ⟨w.heap.size, 1, none⟩) (Nat.le_refl _) _⟩
  rfl
 ·go_enter Tryz.func10, Tryz.ntmps10
  go_wp2_with fail
  refine (rtruth_any _ _).mono ?_
  rintro r w5 ⟨rfl, hb5⟩
  have hR5 := (hb5.block w.heap.size (by simp; omega)).trans (HBR.out _ _)
  have hB5 := (HBL.out _ _).trans (hb5.mono (by simp; omega))
  have E5 := Lib.hid (set2A hR5)
  obtain ⟨r0, r1, f0, f1, _⟩ := cell2_of hR5
  have HB5 := Lib.hid hB5
  clear hR5 hB5 hb5
  simp only [vlV, tv]
  go_wp2_with fail
  have e0 := fun u v => (E5.out u v).1
  have e1 := fun u v => (E5.out u v).2
  refine bodyPost_ret (v := .tuple #[.agg #[.int .i64 1, .int .i64 1], .bool false]) (by simp [results, Tryz.results10, go_sem, e0, e1]) rfl ?_
  refine ⟨?_, (HB5.out.setCell (p := ⟨w.heap.size, 0, none⟩) (Nat.le_refl _) _).setCell (p := ⟨w.heap.size, 1, none⟩) (Nat.le_refl _) _⟩
  rfl
theorem rapp_eq (x y : Vl) (hk : x.kind = y.kind) (b off c : Nat) (w : World) (hc : ∀ i (h : i < 2), w.cell? ⟨b, off + i * 2, none⟩ = some (.int .i64 ([x, y][i]).kind) ∧ w.cell? ⟨b, off + i * 2 + 1, none⟩ = some (.int .i64 ([x, y][i]).n)) :
  Calls Tryz.prog 10 #[.string oEq, .slice (some ⟨b, off, none⟩) 2 c] w fun r w' => r = .returned (.tuple #[vlV (appM oEq [x, y]).1, .bool (appM oEq [x, y]).2]) ∧ Below w.heap.size w w' := by
 obtain ⟨xk, xn⟩ := x
 obtain ⟨yk, yn⟩ := y
 have hb : b < w.heap.size := cell_ltA (hc 0 (by decide)).1
 obtain ⟨p0, p0n⟩ := hc 0 (by decide)
 obtain ⟨p1, p1n⟩ := hc 1 (by decide)
 simp only [List.getElem_cons_zero, List.getElem_cons_succ, Nat.zero_mul, Nat.one_mul, Nat.add_zero, Nat.reduceMul] at p0 p0n p1 p1n
 obtain ⟨a0, b0⟩ := allocs2 hb p0
 obtain ⟨a0n, b0n⟩ := allocs2 hb p0n
 obtain ⟨a1, b1⟩ := allocs2 hb p1
 obtain ⟨a1n, b1n⟩ := allocs2 hb p1n
 clear hc
 have hbl : ∀ x y : Obj, Below w.heap.size w (((w.alloc (.cells #[.int .i64 0, .int .i64 0] 25)).alloc x).alloc y) := fun x y => (((Below.refl _ _).alloc (Nat.le_refl _) _).alloc (by simp) _).alloc (by simp; omega) _
 have hbr : ∀ x y : Obj, (((w.alloc (.cells #[.int .i64 0, .int .i64 0] 25)).alloc x).alloc y).heap[w.heap.size]? = some (.cells #[.int .i64 0, .int .i64 0] 25 (0, 0)) := fun x y => by
  rw [Below.heap_alloc _ _ _ (by simp; omega), Below.heap_alloc _ _ _ (by simp)]; exact heap_alloc_new _ _
 have HB3 := Lib.hid (show ∀ z x y : Obj, Below w.heap.size w (((w.alloc z).alloc x).alloc y) from fun z x y => (((Below.refl _ _).alloc (Nat.le_refl _) _).alloc (by simp) _).alloc (by simp; omega) _)
 have HBL := Lib.hid hbl
 have HBR := Lib.hid hbr
 clear hbl hbr
 dsimp only at hk
 subst hk
 by_cases h : xn = yn
 ·have h2 : (xn == yn) = true := by simpa using h
  go_enter Tryz.func10, Tryz.ntmps10
  go_wp2_with fail
  refine (rtruth_any _ _).mono ?_
  rintro r w5 ⟨rfl, hb5⟩
  have hR5 := (hb5.block w.heap.size (by simp; omega)).trans (HBR.out _ _)
  have hB5 := (HBL.out _ _).trans (hb5.mono (by simp; omega))
  have E5 := Lib.hid (set2A hR5)
  obtain ⟨r0, r1, f0, f1, _⟩ := cell2_of hR5
  have HB5 := Lib.hid hB5
  clear hR5 hB5 hb5
  simp only [vlV, tv, h2, Bool.false_eq_true, if_false, if_true]
  go_wp2_with fail
  have e0 := fun u v => (E5.out u v).1
  have e1 := fun u v => (E5.out u v).2
  refine bodyPost_ret (v := .tuple #[.agg #[.int .i64 1, .int .i64 1], .bool false]) (by simp [results, Tryz.results10, go_sem, e0, e1]) rfl ?_
  refine ⟨?_, (HB5.out.setCell (p := ⟨w.heap.size, 0, none⟩) (Nat.le_refl _) _).setCell (p := ⟨w.heap.size, 1, none⟩) (Nat.le_refl _) _⟩
  simp [appM, vlV, tv, h]
 ·have h2 : (xn == yn) = false := by simpa using h
  go_enter Tryz.func10, Tryz.ntmps10
  go_wp2_with fail
  refine (rtruth_any _ _).mono ?_
  rintro r w5 ⟨rfl, hb5⟩
  have hR5 := (hb5.block w.heap.size (by simp; omega)).trans (HBR.out _ _)
  have hB5 := (HBL.out _ _).trans (hb5.mono (by simp; omega))
  have E5 := Lib.hid (set2A hR5)
  obtain ⟨r0, r1, f0, f1, _⟩ := cell2_of hR5
  have HB5 := Lib.hid hB5
  clear hR5 hB5 hb5
  simp only [vlV, tv, h2, Bool.false_eq_true, if_false, if_true]
  go_wp2_with fail
  have e0 := fun u v => (E5.out u v).1
  have e1 := fun u v => (E5.out u v).2
  refine bodyPost_ret (v := .tuple #[.agg #[.int .i64 1, .int .i64 0], .bool false]) (by simp [results, Tryz.results10, go_sem, e0, e1]) rfl ?_
  refine ⟨?_, (HB5.out.setCell (p := ⟨w.heap.size, 0, none⟩) (Nat.le_refl _) _).setCell (p := ⟨w.heap.size, 1, none⟩) (Nat.le_refl _) _⟩
  simp [appM, vlV, tv, h]
theorem rapp_ne (x y : Vl) (hk : x.kind = y.kind) (b off c : Nat) (w : World) (hc : ∀ i (h : i < 2), w.cell? ⟨b, off + i * 2, none⟩ = some (.int .i64 ([x, y][i]).kind) ∧ w.cell? ⟨b, off + i * 2 + 1, none⟩ = some (.int .i64 ([x, y][i]).n)) :
  Calls Tryz.prog 10 #[.string oNe, .slice (some ⟨b, off, none⟩) 2 c] w fun r w' => r = .returned (.tuple #[vlV (appM oNe [x, y]).1, .bool (appM oNe [x, y]).2]) ∧ Below w.heap.size w w' := by
 obtain ⟨xk, xn⟩ := x
 obtain ⟨yk, yn⟩ := y
 have hb : b < w.heap.size := cell_ltA (hc 0 (by decide)).1
 obtain ⟨p0, p0n⟩ := hc 0 (by decide)
 obtain ⟨p1, p1n⟩ := hc 1 (by decide)
 simp only [List.getElem_cons_zero, List.getElem_cons_succ, Nat.zero_mul, Nat.one_mul, Nat.add_zero, Nat.reduceMul] at p0 p0n p1 p1n
 obtain ⟨a0, b0⟩ := allocs2 hb p0
 obtain ⟨a0n, b0n⟩ := allocs2 hb p0n
 obtain ⟨a1, b1⟩ := allocs2 hb p1
 obtain ⟨a1n, b1n⟩ := allocs2 hb p1n
 clear hc
 have hbl : ∀ x y : Obj, Below w.heap.size w (((w.alloc (.cells #[.int .i64 0, .int .i64 0] 25)).alloc x).alloc y) := fun x y => (((Below.refl _ _).alloc (Nat.le_refl _) _).alloc (by simp) _).alloc (by simp; omega) _
 have hbr : ∀ x y : Obj, (((w.alloc (.cells #[.int .i64 0, .int .i64 0] 25)).alloc x).alloc y).heap[w.heap.size]? = some (.cells #[.int .i64 0, .int .i64 0] 25 (0, 0)) := fun x y => by
  rw [Below.heap_alloc _ _ _ (by simp; omega), Below.heap_alloc _ _ _ (by simp)]; exact heap_alloc_new _ _
 have HB3 := Lib.hid (show ∀ z x y : Obj, Below w.heap.size w (((w.alloc z).alloc x).alloc y) from fun z x y => (((Below.refl _ _).alloc (Nat.le_refl _) _).alloc (by simp) _).alloc (by simp; omega) _)
 have HBL := Lib.hid hbl
 have HBR := Lib.hid hbr
 clear hbl hbr
 dsimp only at hk
 subst hk
 by_cases h : xn ≠ yn
 ·have h2 : (xn != yn) = true := by simpa using h
  go_enter Tryz.func10, Tryz.ntmps10
  go_wp2_with fail
  refine (rtruth_any _ _).mono ?_
  rintro r w5 ⟨rfl, hb5⟩
  have hR5 := (hb5.block w.heap.size (by simp; omega)).trans (HBR.out _ _)
  have hB5 := (HBL.out _ _).trans (hb5.mono (by simp; omega))
  have E5 := Lib.hid (set2A hR5)
  obtain ⟨r0, r1, f0, f1, _⟩ := cell2_of hR5
  have HB5 := Lib.hid hB5
  clear hR5 hB5 hb5
  simp only [vlV, tv, h2, Bool.false_eq_true, if_false, if_true]
  go_wp2_with fail
  have e0 := fun u v => (E5.out u v).1
  have e1 := fun u v => (E5.out u v).2
  refine bodyPost_ret (v := .tuple #[.agg #[.int .i64 1, .int .i64 1], .bool false]) (by simp [results, Tryz.results10, go_sem, e0, e1]) rfl ?_
  refine ⟨?_, (HB5.out.setCell (p := ⟨w.heap.size, 0, none⟩) (Nat.le_refl _) _).setCell (p := ⟨w.heap.size, 1, none⟩) (Nat.le_refl _) _⟩
  simp at h; simp [appM, vlV, tv, h]
 ·have h2 : (xn != yn) = false := by simpa using h
  go_enter Tryz.func10, Tryz.ntmps10
  go_wp2_with fail
  refine (rtruth_any _ _).mono ?_
  rintro r w5 ⟨rfl, hb5⟩
  have hR5 := (hb5.block w.heap.size (by simp; omega)).trans (HBR.out _ _)
  have hB5 := (HBL.out _ _).trans (hb5.mono (by simp; omega))
  have E5 := Lib.hid (set2A hR5)
  obtain ⟨r0, r1, f0, f1, _⟩ := cell2_of hR5
  have HB5 := Lib.hid hB5
  clear hR5 hB5 hb5
  simp only [vlV, tv, h2, Bool.false_eq_true, if_false, if_true]
  go_wp2_with fail
  have e0 := fun u v => (E5.out u v).1
  have e1 := fun u v => (E5.out u v).2
  refine bodyPost_ret (v := .tuple #[.agg #[.int .i64 1, .int .i64 0], .bool false]) (by simp [results, Tryz.results10, go_sem, e0, e1]) rfl ?_
  refine ⟨?_, (HB5.out.setCell (p := ⟨w.heap.size, 0, none⟩) (Nat.le_refl _) _).setCell (p := ⟨w.heap.size, 1, none⟩) (Nat.le_refl _) _⟩
  simp at h; simp [appM, vlV, tv, h]
theorem rapp_lt (x y : Vl) (b off c : Nat) (w : World) (hc : ∀ i (h : i < 2), w.cell? ⟨b, off + i * 2, none⟩ = some (.int .i64 ([x, y][i]).kind) ∧ w.cell? ⟨b, off + i * 2 + 1, none⟩ = some (.int .i64 ([x, y][i]).n)) :
  Calls Tryz.prog 10 #[.string oLt, .slice (some ⟨b, off, none⟩) 2 c] w fun r w' => r = .returned (.tuple #[vlV (appM oLt [x, y]).1, .bool (appM oLt [x, y]).2]) ∧ Below w.heap.size w w' := by
 obtain ⟨xk, xn⟩ := x
 obtain ⟨yk, yn⟩ := y
 have hb : b < w.heap.size := cell_ltA (hc 0 (by decide)).1
 obtain ⟨p0, p0n⟩ := hc 0 (by decide)
 obtain ⟨p1, p1n⟩ := hc 1 (by decide)
 simp only [List.getElem_cons_zero, List.getElem_cons_succ, Nat.zero_mul, Nat.one_mul, Nat.add_zero, Nat.reduceMul] at p0 p0n p1 p1n
 obtain ⟨a0, b0⟩ := allocs2 hb p0
 obtain ⟨a0n, b0n⟩ := allocs2 hb p0n
 obtain ⟨a1, b1⟩ := allocs2 hb p1
 obtain ⟨a1n, b1n⟩ := allocs2 hb p1n
 clear hc
 have hbl : ∀ x y : Obj, Below w.heap.size w (((w.alloc (.cells #[.int .i64 0, .int .i64 0] 25)).alloc x).alloc y) := fun x y => (((Below.refl _ _).alloc (Nat.le_refl _) _).alloc (by simp) _).alloc (by simp; omega) _
 have hbr : ∀ x y : Obj, (((w.alloc (.cells #[.int .i64 0, .int .i64 0] 25)).alloc x).alloc y).heap[w.heap.size]? = some (.cells #[.int .i64 0, .int .i64 0] 25 (0, 0)) := fun x y => by
  rw [Below.heap_alloc _ _ _ (by simp; omega), Below.heap_alloc _ _ _ (by simp)]; exact heap_alloc_new _ _
 have HB3 := Lib.hid (show ∀ z x y : Obj, Below w.heap.size w (((w.alloc z).alloc x).alloc y) from fun z x y => (((Below.refl _ _).alloc (Nat.le_refl _) _).alloc (by simp) _).alloc (by simp; omega) _)
 have HBL := Lib.hid hbl
 have HBR := Lib.hid hbr
 clear hbl hbr
 by_cases h : xn < yn
 ·have h2 : decide (xn < yn) = true := by simpa using h
  go_enter Tryz.func10, Tryz.ntmps10
  go_wp2_with fail
  refine (rtruth_any _ _).mono ?_
  rintro r w5 ⟨rfl, hb5⟩
  have hR5 := (hb5.block w.heap.size (by simp; omega)).trans (HBR.out _ _)
  have hB5 := (HBL.out _ _).trans (hb5.mono (by simp; omega))
  have E5 := Lib.hid (set2A hR5)
  obtain ⟨r0, r1, f0, f1, _⟩ := cell2_of hR5
  have HB5 := Lib.hid hB5
  clear hR5 hB5 hb5
  simp only [vlV, tv, h2, Bool.false_eq_true, if_false, if_true]
  go_wp2_with fail
  have e0 := fun u v => (E5.out u v).1
  have e1 := fun u v => (E5.out u v).2
  refine bodyPost_ret (v := .tuple #[.agg #[.int .i64 1, .int .i64 1], .bool false]) (by simp [results, Tryz.results10, go_sem, e0, e1]) rfl ?_
  refine ⟨?_, (HB5.out.setCell (p := ⟨w.heap.size, 0, none⟩) (Nat.le_refl _) _).setCell (p := ⟨w.heap.size, 1, none⟩) (Nat.le_refl _) _⟩
  simp [appM, vlV, tv, h]
 ·have h2 : decide (xn < yn) = false := by simpa using h
  go_enter Tryz.func10, Tryz.ntmps10
  go_wp2_with fail
  refine (rtruth_any _ _).mono ?_
  rintro r w5 ⟨rfl, hb5⟩
  have hR5 := (hb5.block w.heap.size (by simp; omega)).trans (HBR.out _ _)
  have hB5 := (HBL.out _ _).trans (hb5.mono (by simp; omega))
  have E5 := Lib.hid (set2A hR5)
  obtain ⟨r0, r1, f0, f1, _⟩ := cell2_of hR5
  have HB5 := Lib.hid hB5
  clear hR5 hB5 hb5
  simp only [vlV, tv, h2, Bool.false_eq_true, if_false, if_true]
  go_wp2_with fail
  have e0 := fun u v => (E5.out u v).1
  have e1 := fun u v => (E5.out u v).2
  refine bodyPost_ret (v := .tuple #[.agg #[.int .i64 1, .int .i64 0], .bool false]) (by simp [results, Tryz.results10, go_sem, e0, e1]) rfl ?_
  refine ⟨?_, (HB5.out.setCell (p := ⟨w.heap.size, 0, none⟩) (Nat.le_refl _) _).setCell (p := ⟨w.heap.size, 1, none⟩) (Nat.le_refl _) _⟩
  simp [appM, vlV, tv, h]
theorem rapp_le (x y : Vl) (b off c : Nat) (w : World) (hc : ∀ i (h : i < 2), w.cell? ⟨b, off + i * 2, none⟩ = some (.int .i64 ([x, y][i]).kind) ∧ w.cell? ⟨b, off + i * 2 + 1, none⟩ = some (.int .i64 ([x, y][i]).n)) :
  Calls Tryz.prog 10 #[.string oLe, .slice (some ⟨b, off, none⟩) 2 c] w fun r w' => r = .returned (.tuple #[vlV (appM oLe [x, y]).1, .bool (appM oLe [x, y]).2]) ∧ Below w.heap.size w w' := by
 obtain ⟨xk, xn⟩ := x
 obtain ⟨yk, yn⟩ := y
 have hb : b < w.heap.size := cell_ltA (hc 0 (by decide)).1
 obtain ⟨p0, p0n⟩ := hc 0 (by decide)
 obtain ⟨p1, p1n⟩ := hc 1 (by decide)
 simp only [List.getElem_cons_zero, List.getElem_cons_succ, Nat.zero_mul, Nat.one_mul, Nat.add_zero, Nat.reduceMul] at p0 p0n p1 p1n
 obtain ⟨a0, b0⟩ := allocs2 hb p0
 obtain ⟨a0n, b0n⟩ := allocs2 hb p0n
 obtain ⟨a1, b1⟩ := allocs2 hb p1
 obtain ⟨a1n, b1n⟩ := allocs2 hb p1n
 clear hc
 have hbl : ∀ x y : Obj, Below w.heap.size w (((w.alloc (.cells #[.int .i64 0, .int .i64 0] 25)).alloc x).alloc y) := fun x y => (((Below.refl _ _).alloc (Nat.le_refl _) _).alloc (by simp) _).alloc (by simp; omega) _
 have hbr : ∀ x y : Obj, (((w.alloc (.cells #[.int .i64 0, .int .i64 0] 25)).alloc x).alloc y).heap[w.heap.size]? = some (.cells #[.int .i64 0, .int .i64 0] 25 (0, 0)) := fun x y => by
  rw [Below.heap_alloc _ _ _ (by simp; omega), Below.heap_alloc _ _ _ (by simp)]; exact heap_alloc_new _ _
 have HB3 := Lib.hid (show ∀ z x y : Obj, Below w.heap.size w (((w.alloc z).alloc x).alloc y) from fun z x y => (((Below.refl _ _).alloc (Nat.le_refl _) _).alloc (by simp) _).alloc (by simp; omega) _)
 have HBL := Lib.hid hbl
 have HBR := Lib.hid hbr
 clear hbl hbr
 by_cases h : xn ≤ yn
 ·have h2 : decide (xn ≤ yn) = true := by simpa using h
  go_enter Tryz.func10, Tryz.ntmps10
  go_wp2_with fail
  refine (rtruth_any _ _).mono ?_
  rintro r w5 ⟨rfl, hb5⟩
  have hR5 := (hb5.block w.heap.size (by simp; omega)).trans (HBR.out _ _)
  have hB5 := (HBL.out _ _).trans (hb5.mono (by simp; omega))
  have E5 := Lib.hid (set2A hR5)
  obtain ⟨r0, r1, f0, f1, _⟩ := cell2_of hR5
  have HB5 := Lib.hid hB5
  clear hR5 hB5 hb5
  simp only [vlV, tv, h2, Bool.false_eq_true, if_false, if_true]
  go_wp2_with fail
  have e0 := fun u v => (E5.out u v).1
  have e1 := fun u v => (E5.out u v).2
  refine bodyPost_ret (v := .tuple #[.agg #[.int .i64 1, .int .i64 1], .bool false]) (by simp [results, Tryz.results10, go_sem, e0, e1]) rfl ?_
  refine ⟨?_, (HB5.out.setCell (p := ⟨w.heap.size, 0, none⟩) (Nat.le_refl _) _).setCell (p := ⟨w.heap.size, 1, none⟩) (Nat.le_refl _) _⟩
  simp [appM, vlV, tv, h]
 ·have h2 : decide (xn ≤ yn) = false := by simpa using h
  go_enter Tryz.func10, Tryz.ntmps10
  go_wp2_with fail
  refine (rtruth_any _ _).mono ?_
  rintro r w5 ⟨rfl, hb5⟩
  have hR5 := (hb5.block w.heap.size (by simp; omega)).trans (HBR.out _ _)
  have hB5 := (HBL.out _ _).trans (hb5.mono (by simp; omega))
  have E5 := Lib.hid (set2A hR5)
  obtain ⟨r0, r1, f0, f1, _⟩ := cell2_of hR5
  have HB5 := Lib.hid hB5
  clear hR5 hB5 hb5
  simp only [vlV, tv, h2, Bool.false_eq_true, if_false, if_true]
  go_wp2_with fail
  have e0 := fun u v => (E5.out u v).1
  have e1 := fun u v => (E5.out u v).2
  refine bodyPost_ret (v := .tuple #[.agg #[.int .i64 1, .int .i64 0], .bool false]) (by simp [results, Tryz.results10, go_sem, e0, e1]) rfl ?_
  refine ⟨?_, (HB5.out.setCell (p := ⟨w.heap.size, 0, none⟩) (Nat.le_refl _) _).setCell (p := ⟨w.heap.size, 1, none⟩) (Nat.le_refl _) _⟩
  simp [appM, vlV, tv, h]
theorem rapp_gt (x y : Vl) (b off c : Nat) (w : World) (hc : ∀ i (h : i < 2), w.cell? ⟨b, off + i * 2, none⟩ = some (.int .i64 ([x, y][i]).kind) ∧ w.cell? ⟨b, off + i * 2 + 1, none⟩ = some (.int .i64 ([x, y][i]).n)) :
  Calls Tryz.prog 10 #[.string oGt, .slice (some ⟨b, off, none⟩) 2 c] w fun r w' => r = .returned (.tuple #[vlV (appM oGt [x, y]).1, .bool (appM oGt [x, y]).2]) ∧ Below w.heap.size w w' := by
 obtain ⟨xk, xn⟩ := x
 obtain ⟨yk, yn⟩ := y
 have hb : b < w.heap.size := cell_ltA (hc 0 (by decide)).1
 obtain ⟨p0, p0n⟩ := hc 0 (by decide)
 obtain ⟨p1, p1n⟩ := hc 1 (by decide)
 simp only [List.getElem_cons_zero, List.getElem_cons_succ, Nat.zero_mul, Nat.one_mul, Nat.add_zero, Nat.reduceMul] at p0 p0n p1 p1n
 obtain ⟨a0, b0⟩ := allocs2 hb p0
 obtain ⟨a0n, b0n⟩ := allocs2 hb p0n
 obtain ⟨a1, b1⟩ := allocs2 hb p1
 obtain ⟨a1n, b1n⟩ := allocs2 hb p1n
 clear hc
 have hbl : ∀ x y : Obj, Below w.heap.size w (((w.alloc (.cells #[.int .i64 0, .int .i64 0] 25)).alloc x).alloc y) := fun x y => (((Below.refl _ _).alloc (Nat.le_refl _) _).alloc (by simp) _).alloc (by simp; omega) _
 have hbr : ∀ x y : Obj, (((w.alloc (.cells #[.int .i64 0, .int .i64 0] 25)).alloc x).alloc y).heap[w.heap.size]? = some (.cells #[.int .i64 0, .int .i64 0] 25 (0, 0)) := fun x y => by
  rw [Below.heap_alloc _ _ _ (by simp; omega), Below.heap_alloc _ _ _ (by simp)]; exact heap_alloc_new _ _
 have HB3 := Lib.hid (show ∀ z x y : Obj, Below w.heap.size w (((w.alloc z).alloc x).alloc y) from fun z x y => (((Below.refl _ _).alloc (Nat.le_refl _) _).alloc (by simp) _).alloc (by simp; omega) _)
 have HBL := Lib.hid hbl
 have HBR := Lib.hid hbr
 clear hbl hbr
 by_cases h : yn < xn
 ·have h2 : decide (yn < xn) = true := by simpa using h
  go_enter Tryz.func10, Tryz.ntmps10
  go_wp2_with fail
  refine (rtruth_any _ _).mono ?_
  rintro r w5 ⟨rfl, hb5⟩
  have hR5 := (hb5.block w.heap.size (by simp; omega)).trans (HBR.out _ _)
  have hB5 := (HBL.out _ _).trans (hb5.mono (by simp; omega))
  have E5 := Lib.hid (set2A hR5)
  obtain ⟨r0, r1, f0, f1, _⟩ := cell2_of hR5
  have HB5 := Lib.hid hB5
  clear hR5 hB5 hb5
  simp only [vlV, tv, h2, Bool.false_eq_true, if_false, if_true]
  go_wp2_with fail
  have e0 := fun u v => (E5.out u v).1
  have e1 := fun u v => (E5.out u v).2
  refine bodyPost_ret (v := .tuple #[.agg #[.int .i64 1, .int .i64 1], .bool false]) (by simp [results, Tryz.results10, go_sem, e0, e1]) rfl ?_
  refine ⟨?_, (HB5.out.setCell (p := ⟨w.heap.size, 0, none⟩) (Nat.le_refl _) _).setCell (p := ⟨w.heap.size, 1, none⟩) (Nat.le_refl _) _⟩
  simp [appM, vlV, tv, h]
 ·have h2 : decide (yn < xn) = false := by simpa using h
  go_enter Tryz.func10, Tryz.ntmps10
  go_wp2_with fail
  refine (rtruth_any _ _).mono ?_
  rintro r w5 ⟨rfl, hb5⟩
  have hR5 := (hb5.block w.heap.size (by simp; omega)).trans (HBR.out _ _)
  have hB5 := (HBL.out _ _).trans (hb5.mono (by simp; omega))
  have E5 := Lib.hid (set2A hR5)
  obtain ⟨r0, r1, f0, f1, _⟩ := cell2_of hR5
  have HB5 := Lib.hid hB5
  clear hR5 hB5 hb5
  simp only [vlV, tv, h2, Bool.false_eq_true, if_false, if_true]
  go_wp2_with fail
  have e0 := fun u v => (E5.out u v).1
  have e1 := fun u v => (E5.out u v).2
  refine bodyPost_ret (v := .tuple #[.agg #[.int .i64 1, .int .i64 0], .bool false]) (by simp [results, Tryz.results10, go_sem, e0, e1]) rfl ?_
  refine ⟨?_, (HB5.out.setCell (p := ⟨w.heap.size, 0, none⟩) (Nat.le_refl _) _).setCell (p := ⟨w.heap.size, 1, none⟩) (Nat.le_refl _) _⟩
  simp [appM, vlV, tv, h]
theorem rapp_ge (x y : Vl) (b off c : Nat) (w : World) (hc : ∀ i (h : i < 2), w.cell? ⟨b, off + i * 2, none⟩ = some (.int .i64 ([x, y][i]).kind) ∧ w.cell? ⟨b, off + i * 2 + 1, none⟩ = some (.int .i64 ([x, y][i]).n)) :
  Calls Tryz.prog 10 #[.string oGe, .slice (some ⟨b, off, none⟩) 2 c] w fun r w' => r = .returned (.tuple #[vlV (appM oGe [x, y]).1, .bool (appM oGe [x, y]).2]) ∧ Below w.heap.size w w' := by
 obtain ⟨xk, xn⟩ := x
 obtain ⟨yk, yn⟩ := y
 have hb : b < w.heap.size := cell_ltA (hc 0 (by decide)).1
 obtain ⟨p0, p0n⟩ := hc 0 (by decide)
 obtain ⟨p1, p1n⟩ := hc 1 (by decide)
 simp only [List.getElem_cons_zero, List.getElem_cons_succ, Nat.zero_mul, Nat.one_mul, Nat.add_zero, Nat.reduceMul] at p0 p0n p1 p1n
 obtain ⟨a0, b0⟩ := allocs2 hb p0
 obtain ⟨a0n, b0n⟩ := allocs2 hb p0n
 obtain ⟨a1, b1⟩ := allocs2 hb p1
 obtain ⟨a1n, b1n⟩ := allocs2 hb p1n
 clear hc
 have hbl : ∀ x y : Obj, Below w.heap.size w (((w.alloc (.cells #[.int .i64 0, .int .i64 0] 25)).alloc x).alloc y) := fun x y => (((Below.refl _ _).alloc (Nat.le_refl _) _).alloc (by simp) _).alloc (by simp; omega) _
 have hbr : ∀ x y : Obj, (((w.alloc (.cells #[.int .i64 0, .int .i64 0] 25)).alloc x).alloc y).heap[w.heap.size]? = some (.cells #[.int .i64 0, .int .i64 0] 25 (0, 0)) := fun x y => by
  rw [Below.heap_alloc _ _ _ (by simp; omega), Below.heap_alloc _ _ _ (by simp)]; exact heap_alloc_new _ _
 have HB3 := Lib.hid (show ∀ z x y : Obj, Below w.heap.size w (((w.alloc z).alloc x).alloc y) from fun z x y => (((Below.refl _ _).alloc (Nat.le_refl _) _).alloc (by simp) _).alloc (by simp; omega) _)
 have HBL := Lib.hid hbl
 have HBR := Lib.hid hbr
 clear hbl hbr
 by_cases h : yn ≤ xn
 ·have h2 : decide (yn ≤ xn) = true := by simpa using h
  go_enter Tryz.func10, Tryz.ntmps10
  go_wp2_with fail
  refine (rtruth_any _ _).mono ?_
  rintro r w5 ⟨rfl, hb5⟩
  have hR5 := (hb5.block w.heap.size (by simp; omega)).trans (HBR.out _ _)
  have hB5 := (HBL.out _ _).trans (hb5.mono (by simp; omega))
  have E5 := Lib.hid (set2A hR5)
  obtain ⟨r0, r1, f0, f1, _⟩ := cell2_of hR5
  have HB5 := Lib.hid hB5
  clear hR5 hB5 hb5
  simp only [vlV, tv, h2, Bool.false_eq_true, if_false, if_true]
  go_wp2_with fail
  have e0 := fun u v => (E5.out u v).1
  have e1 := fun u v => (E5.out u v).2
  refine bodyPost_ret (v := .tuple #[.agg #[.int .i64 1, .int .i64 1], .bool false]) (by simp [results, Tryz.results10, go_sem, e0, e1]) rfl ?_
  refine ⟨?_, (HB5.out.setCell (p := ⟨w.heap.size, 0, none⟩) (Nat.le_refl _) _).setCell (p := ⟨w.heap.size, 1, none⟩) (Nat.le_refl _) _⟩
  simp [appM, vlV, tv, h]
 ·have h2 : decide (yn ≤ xn) = false := by simpa using h
  go_enter Tryz.func10, Tryz.ntmps10
  go_wp2_with fail
  refine (rtruth_any _ _).mono ?_
  rintro r w5 ⟨rfl, hb5⟩
  have hR5 := (hb5.block w.heap.size (by simp; omega)).trans (HBR.out _ _)
  have hB5 := (HBL.out _ _).trans (hb5.mono (by simp; omega))
  have E5 := Lib.hid (set2A hR5)
  obtain ⟨r0, r1, f0, f1, _⟩ := cell2_of hR5
  have HB5 := Lib.hid hB5
  clear hR5 hB5 hb5
  simp only [vlV, tv, h2, Bool.false_eq_true, if_false, if_true]
  go_wp2_with fail
  have e0 := fun u v => (E5.out u v).1
  have e1 := fun u v => (E5.out u v).2
  refine bodyPost_ret (v := .tuple #[.agg #[.int .i64 1, .int .i64 0], .bool false]) (by simp [results, Tryz.results10, go_sem, e0, e1]) rfl ?_
  refine ⟨?_, (HB5.out.setCell (p := ⟨w.heap.size, 0, none⟩) (Nat.le_refl _) _).setCell (p := ⟨w.heap.size, 1, none⟩) (Nat.le_refl _) _⟩
  simp [appM, vlV, tv, h]
theorem rapp_add (x y : Vl) (hx : -128 ≤ x.n ∧ x.n ≤ 127) (hy : -128 ≤ y.n ∧ y.n ≤ 127) (b off c : Nat) (w : World) (hc : ∀ i (h : i < 2), w.cell? ⟨b, off + i * 2, none⟩ = some (.int .i64 ([x, y][i]).kind) ∧ w.cell? ⟨b, off + i * 2 + 1, none⟩ = some (.int .i64 ([x, y][i]).n)) :
  Calls Tryz.prog 10 #[.string oAdd, .slice (some ⟨b, off, none⟩) 2 c] w fun r w' => r = .returned (.tuple #[vlV (appM oAdd [x, y]).1, .bool (appM oAdd [x, y]).2]) ∧ Below w.heap.size w w' := by
 obtain ⟨xk, xn⟩ := x
 obtain ⟨yk, yn⟩ := y
 have hb : b < w.heap.size := cell_ltA (hc 0 (by decide)).1
 obtain ⟨p0, p0n⟩ := hc 0 (by decide)
 obtain ⟨p1, p1n⟩ := hc 1 (by decide)
 simp only [List.getElem_cons_zero, List.getElem_cons_succ, Nat.zero_mul, Nat.one_mul, Nat.add_zero, Nat.reduceMul] at p0 p0n p1 p1n
 obtain ⟨a0, b0⟩ := allocs2 hb p0
 obtain ⟨a0n, b0n⟩ := allocs2 hb p0n
 obtain ⟨a1, b1⟩ := allocs2 hb p1
 obtain ⟨a1n, b1n⟩ := allocs2 hb p1n
 clear hc
 have hbl : ∀ x y : Obj, Below w.heap.size w (((w.alloc (.cells #[.int .i64 0, .int .i64 0] 25)).alloc x).alloc y) := fun x y => (((Below.refl _ _).alloc (Nat.le_refl _) _).alloc (by simp) _).alloc (by simp; omega) _
 have hbr : ∀ x y : Obj, (((w.alloc (.cells #[.int .i64 0, .int .i64 0] 25)).alloc x).alloc y).heap[w.heap.size]? = some (.cells #[.int .i64 0, .int .i64 0] 25 (0, 0)) := fun x y => by
  rw [Below.heap_alloc _ _ _ (by simp; omega), Below.heap_alloc _ _ _ (by simp)]; exact heap_alloc_new _ _
 have HB3 := Lib.hid (show ∀ z x y : Obj, Below w.heap.size w (((w.alloc z).alloc x).alloc y) from fun z x y => (((Below.refl _ _).alloc (Nat.le_refl _) _).alloc (by simp) _).alloc (by simp; omega) _)
 have HBL := Lib.hid hbl
 have HBR := Lib.hid hbr
 clear hbl hbr
 dsimp only at hx hy
 obtain ⟨hx1, hx2⟩ := hx
 obtain ⟨hy1, hy2⟩ := hy
 go_enter Tryz.func10, Tryz.ntmps10
 go_wp2_with fail
 refine (raround_any _ _).mono ?_
 rintro r w5 ⟨rfl, rfl⟩
 go_wp2_with fail
 refine bodyPost_ret (v := .tuple #[.agg #[.int .i64 2, .int .i64 (around (xn + yn))], .bool false]) (by simp [results, Tryz.results10, go_sem]) rfl ?_
 refine ⟨?_, HB3.out _ _ _⟩
 rfl
theorem rapp_sub (x y : Vl) (hx : -128 ≤ x.n ∧ x.n ≤ 127) (hy : -128 ≤ y.n ∧ y.n ≤ 127) (b off c : Nat) (w : World) (hc : ∀ i (h : i < 2), w.cell? ⟨b, off + i * 2, none⟩ = some (.int .i64 ([x, y][i]).kind) ∧ w.cell? ⟨b, off + i * 2 + 1, none⟩ = some (.int .i64 ([x, y][i]).n)) :
  Calls Tryz.prog 10 #[.string oSub, .slice (some ⟨b, off, none⟩) 2 c] w fun r w' => r = .returned (.tuple #[vlV (appM oSub [x, y]).1, .bool (appM oSub [x, y]).2]) ∧ Below w.heap.size w w' := by
 obtain ⟨xk, xn⟩ := x
 obtain ⟨yk, yn⟩ := y
 have hb : b < w.heap.size := cell_ltA (hc 0 (by decide)).1
 obtain ⟨p0, p0n⟩ := hc 0 (by decide)
 obtain ⟨p1, p1n⟩ := hc 1 (by decide)
 simp only [List.getElem_cons_zero, List.getElem_cons_succ, Nat.zero_mul, Nat.one_mul, Nat.add_zero, Nat.reduceMul] at p0 p0n p1 p1n
 obtain ⟨a0, b0⟩ := allocs2 hb p0
 obtain ⟨a0n, b0n⟩ := allocs2 hb p0n
 obtain ⟨a1, b1⟩ := allocs2 hb p1
 obtain ⟨a1n, b1n⟩ := allocs2 hb p1n
 clear hc
 have hbl : ∀ x y : Obj, Below w.heap.size w (((w.alloc (.cells #[.int .i64 0, .int .i64 0] 25)).alloc x).alloc y) := fun x y => (((Below.refl _ _).alloc (Nat.le_refl _) _).alloc (by simp) _).alloc (by simp; omega) _
 have hbr : ∀ x y : Obj, (((w.alloc (.cells #[.int .i64 0, .int .i64 0] 25)).alloc x).alloc y).heap[w.heap.size]? = some (.cells #[.int .i64 0, .int .i64 0] 25 (0, 0)) := fun x y => by
  rw [Below.heap_alloc _ _ _ (by simp; omega), Below.heap_alloc _ _ _ (by simp)]; exact heap_alloc_new _ _
 have HB3 := Lib.hid (show ∀ z x y : Obj, Below w.heap.size w (((w.alloc z).alloc x).alloc y) from fun z x y => (((Below.refl _ _).alloc (Nat.le_refl _) _).alloc (by simp) _).alloc (by simp; omega) _)
 have HBL := Lib.hid hbl
 have HBR := Lib.hid hbr
 clear hbl hbr
 dsimp only at hx hy
 obtain ⟨hx1, hx2⟩ := hx
 obtain ⟨hy1, hy2⟩ := hy
 go_enter Tryz.func10, Tryz.ntmps10
 go_wp2_with fail
 refine (raround_any _ _).mono ?_
 rintro r w5 ⟨rfl, rfl⟩
 go_wp2_with fail
 refine bodyPost_ret (v := .tuple #[.agg #[.int .i64 2, .int .i64 (around (xn - yn))], .bool false]) (by simp [results, Tryz.results10, go_sem]) rfl ?_
 refine ⟨?_, HB3.out _ _ _⟩
 rfl
theorem rapp_mul (x y : Vl) (hx : -128 ≤ x.n ∧ x.n ≤ 127) (hy : -128 ≤ y.n ∧ y.n ≤ 127) (b off c : Nat) (w : World) (hc : ∀ i (h : i < 2), w.cell? ⟨b, off + i * 2, none⟩ = some (.int .i64 ([x, y][i]).kind) ∧ w.cell? ⟨b, off + i * 2 + 1, none⟩ = some (.int .i64 ([x, y][i]).n)) :
  Calls Tryz.prog 10 #[.string oMul, .slice (some ⟨b, off, none⟩) 2 c] w fun r w' => r = .returned (.tuple #[vlV (appM oMul [x, y]).1, .bool (appM oMul [x, y]).2]) ∧ Below w.heap.size w w' := by
 obtain ⟨xk, xn⟩ := x
 obtain ⟨yk, yn⟩ := y
 have hb : b < w.heap.size := cell_ltA (hc 0 (by decide)).1
 obtain ⟨p0, p0n⟩ := hc 0 (by decide)
 obtain ⟨p1, p1n⟩ := hc 1 (by decide)
 simp only [List.getElem_cons_zero, List.getElem_cons_succ, Nat.zero_mul, Nat.one_mul, Nat.add_zero, Nat.reduceMul] at p0 p0n p1 p1n
 obtain ⟨a0, b0⟩ := allocs2 hb p0
 obtain ⟨a0n, b0n⟩ := allocs2 hb p0n
 obtain ⟨a1, b1⟩ := allocs2 hb p1
 obtain ⟨a1n, b1n⟩ := allocs2 hb p1n
 clear hc
 have hbl : ∀ x y : Obj, Below w.heap.size w (((w.alloc (.cells #[.int .i64 0, .int .i64 0] 25)).alloc x).alloc y) := fun x y => (((Below.refl _ _).alloc (Nat.le_refl _) _).alloc (by simp) _).alloc (by simp; omega) _
 have hbr : ∀ x y : Obj, (((w.alloc (.cells #[.int .i64 0, .int .i64 0] 25)).alloc x).alloc y).heap[w.heap.size]? = some (.cells #[.int .i64 0, .int .i64 0] 25 (0, 0)) := fun x y => by
  rw [Below.heap_alloc _ _ _ (by simp; omega), Below.heap_alloc _ _ _ (by simp)]; exact heap_alloc_new _ _
 have HB3 := Lib.hid (show ∀ z x y : Obj, Below w.heap.size w (((w.alloc z).alloc x).alloc y) from fun z x y => (((Below.refl _ _).alloc (Nat.le_refl _) _).alloc (by simp) _).alloc (by simp; omega) _)
 have HBL := Lib.hid hbl
 have HBR := Lib.hid hbr
 clear hbl hbr
 dsimp only at hx hy
 obtain ⟨hx1, hx2⟩ := hx
 obtain ⟨hy1, hy2⟩ := hy
 obtain ⟨hm1, hm2⟩ := mul_bound hx1 hx2 hy1 hy2
 go_enter Tryz.func10, Tryz.ntmps10
 go_wp2_with fail
 refine (raround_any _ _).mono ?_
 rintro r w5 ⟨rfl, rfl⟩
 go_wp2_with fail
 refine bodyPost_ret (v := .tuple #[.agg #[.int .i64 2, .int .i64 (around (xn * yn))], .bool false]) (by simp [results, Tryz.results10, go_sem]) rfl ?_
 refine ⟨?_, HB3.out _ _ _⟩
 rfl
theorem rapp_div (x y : Vl) (hx : -128 ≤ x.n ∧ x.n ≤ 127) (hy : -128 ≤ y.n ∧ y.n ≤ 127) (h0 : y.n ≠ 0) (b off c : Nat) (w : World) (hc : ∀ i (h : i < 2), w.cell? ⟨b, off + i * 2, none⟩ = some (.int .i64 ([x, y][i]).kind) ∧ w.cell? ⟨b, off + i * 2 + 1, none⟩ = some (.int .i64 ([x, y][i]).n)) :
  Calls Tryz.prog 10 #[.string oDiv, .slice (some ⟨b, off, none⟩) 2 c] w fun r w' => r = .returned (.tuple #[vlV (appM oDiv [x, y]).1, .bool (appM oDiv [x, y]).2]) ∧ Below w.heap.size w w' := by
 obtain ⟨xk, xn⟩ := x
 obtain ⟨yk, yn⟩ := y
 have hb : b < w.heap.size := cell_ltA (hc 0 (by decide)).1
 obtain ⟨p0, p0n⟩ := hc 0 (by decide)
 obtain ⟨p1, p1n⟩ := hc 1 (by decide)
 simp only [List.getElem_cons_zero, List.getElem_cons_succ, Nat.zero_mul, Nat.one_mul, Nat.add_zero, Nat.reduceMul] at p0 p0n p1 p1n
 obtain ⟨a0, b0⟩ := allocs2 hb p0
 obtain ⟨a0n, b0n⟩ := allocs2 hb p0n
 obtain ⟨a1, b1⟩ := allocs2 hb p1
 obtain ⟨a1n, b1n⟩ := allocs2 hb p1n
 clear hc
 have hbl : ∀ x y : Obj, Below w.heap.size w (((w.alloc (.cells #[.int .i64 0, .int .i64 0] 25)).alloc x).alloc y) := fun x y => (((Below.refl _ _).alloc (Nat.le_refl _) _).alloc (by simp) _).alloc (by simp; omega) _
 have hbr : ∀ x y : Obj, (((w.alloc (.cells #[.int .i64 0, .int .i64 0] 25)).alloc x).alloc y).heap[w.heap.size]? = some (.cells #[.int .i64 0, .int .i64 0] 25 (0, 0)) := fun x y => by
  rw [Below.heap_alloc _ _ _ (by simp; omega), Below.heap_alloc _ _ _ (by simp)]; exact heap_alloc_new _ _
 have HB3 := Lib.hid (show ∀ z x y : Obj, Below w.heap.size w (((w.alloc z).alloc x).alloc y) from fun z x y => (((Below.refl _ _).alloc (Nat.le_refl _) _).alloc (by simp) _).alloc (by simp; omega) _)
 have HBL := Lib.hid hbl
 have HBR := Lib.hid hbr
 clear hbl hbr
 dsimp only at hx hy h0
 obtain ⟨hx1, hx2⟩ := hx
 obtain ⟨hy1, hy2⟩ := hy
 obtain ⟨hm1, hm2⟩ := tdiv_bound (b := yn) hx1 hx2
 go_enter Tryz.func10, Tryz.ntmps10
 go_wp2_with fail
 refine (raround_any _ _).mono ?_
 rintro r w5 ⟨rfl, rfl⟩
 go_wp2_with fail
 refine bodyPost_ret (v := .tuple #[.agg #[.int .i64 2, .int .i64 (around (xn.tdiv yn))], .bool false]) (by simp [results, Tryz.results10, go_sem]) rfl ?_
 refine ⟨?_, HB3.out _ _ _⟩
 first | rfl | simp [appM, vlV, wv, h0, tmod_sub]
theorem rapp_mod (x y : Vl) (hx : -128 ≤ x.n ∧ x.n ≤ 127) (hy : -128 ≤ y.n ∧ y.n ≤ 127) (h0 : y.n ≠ 0) (b off c : Nat) (w : World) (hc : ∀ i (h : i < 2), w.cell? ⟨b, off + i * 2, none⟩ = some (.int .i64 ([x, y][i]).kind) ∧ w.cell? ⟨b, off + i * 2 + 1, none⟩ = some (.int .i64 ([x, y][i]).n)) :
  Calls Tryz.prog 10 #[.string oMod, .slice (some ⟨b, off, none⟩) 2 c] w fun r w' => r = .returned (.tuple #[vlV (appM oMod [x, y]).1, .bool (appM oMod [x, y]).2]) ∧ Below w.heap.size w w' := by
 obtain ⟨xk, xn⟩ := x
 obtain ⟨yk, yn⟩ := y
 have hb : b < w.heap.size := cell_ltA (hc 0 (by decide)).1
 obtain ⟨p0, p0n⟩ := hc 0 (by decide)
 obtain ⟨p1, p1n⟩ := hc 1 (by decide)
 simp only [List.getElem_cons_zero, List.getElem_cons_succ, Nat.zero_mul, Nat.one_mul, Nat.add_zero, Nat.reduceMul] at p0 p0n p1 p1n
 obtain ⟨a0, b0⟩ := allocs2 hb p0
 obtain ⟨a0n, b0n⟩ := allocs2 hb p0n
 obtain ⟨a1, b1⟩ := allocs2 hb p1
 obtain ⟨a1n, b1n⟩ := allocs2 hb p1n
 clear hc
 have hbl : ∀ x y : Obj, Below w.heap.size w (((w.alloc (.cells #[.int .i64 0, .int .i64 0] 25)).alloc x).alloc y) := fun x y => (((Below.refl _ _).alloc (Nat.le_refl _) _).alloc (by simp) _).alloc (by simp; omega) _
 have hbr : ∀ x y : Obj, (((w.alloc (.cells #[.int .i64 0, .int .i64 0] 25)).alloc x).alloc y).heap[w.heap.size]? = some (.cells #[.int .i64 0, .int .i64 0] 25 (0, 0)) := fun x y => by
  rw [Below.heap_alloc _ _ _ (by simp; omega), Below.heap_alloc _ _ _ (by simp)]; exact heap_alloc_new _ _
 have HB3 := Lib.hid (show ∀ z x y : Obj, Below w.heap.size w (((w.alloc z).alloc x).alloc y) from fun z x y => (((Below.refl _ _).alloc (Nat.le_refl _) _).alloc (by simp) _).alloc (by simp; omega) _)
 have HBL := Lib.hid hbl
 have HBR := Lib.hid hbr
 clear hbl hbr
 dsimp only at hx hy h0
 obtain ⟨hx1, hx2⟩ := hx
 obtain ⟨hm1, hm2⟩ := tdiv_bound (b := yn) hx1 hx2
 have hts := tmod_sub xn yn
 obtain ⟨hm3, hm4⟩ : -1000 ≤ xn.tdiv yn * yn ∧ xn.tdiv yn * yn ≤ 1000 := by
  obtain ⟨h2, h3⟩ := tmod_bound (b := yn) hx1 hx2
  generalize xn.tdiv yn * yn = q at *
  omega
 have HTS := Lib.hid hts
 clear hts
 go_enter Tryz.func10, Tryz.ntmps10
 go_wp2_with fail
 have hR := HBR.out (.cells #[.int .i64 xk, .int .i64 xn] 25) (.cells #[.int .i64 yk, .int .i64 yn] 25)
 have hB := HBL.out (.cells #[.int .i64 xk, .int .i64 xn] 25) (.cells #[.int .i64 yk, .int .i64 yn] 25)
 have hs := fun i => heap_allocsA [Obj.cells #[.int .i64 0, .int .i64 0] 25, Obj.cells #[.int .i64 xk, .int .i64 xn] 25, Obj.cells #[.int .i64 yk, .int .i64 yn] 25] w i
 simp only [List.foldl_cons, List.foldl_nil] at hs
 have s1 := hs 1 (by simp only [List.length_cons, List.length_nil]; omega)
 have s2 := hs 2 (by simp only [List.length_cons, List.length_nil]; omega)
 have k0 : (noKn w.heap.size (((w.alloc (.cells #[.int .i64 0, .int .i64 0] 25)).alloc (.cells #[.int .i64 xk, .int .i64 xn] 25)).alloc (.cells #[.int .i64 yk, .int .i64 yn] 25))).cell (w.heap.size + 1) 1 = some (.int .i64 xn) := by
  rw [noKn_cell (by omega)]
  unfold World.cell?
  rw [s1]
  rfl
 have k1 : (noKn w.heap.size (((w.alloc (.cells #[.int .i64 0, .int .i64 0] 25)).alloc (.cells #[.int .i64 xk, .int .i64 xn] 25)).alloc (.cells #[.int .i64 yk, .int .i64 yn] 25))).cell (w.heap.size + 2) 1 = some (.int .i64 yn) := by
  rw [noKn_cell (by omega)]
  unfold World.cell?
  rw [s2]
  rfl
 have hS := noKn_in w.heap.size (((w.alloc (.cells #[.int .i64 0, .int .i64 0] 25)).alloc (.cells #[.int .i64 xk, .int .i64 xn] 25)).alloc (.cells #[.int .i64 yk, .int .i64 yn] 25))
 have hno := noKn_self w.heap.size (((w.alloc (.cells #[.int .i64 0, .int .i64 0] 25)).alloc (.cells #[.int .i64 xk, .int .i64 xn] 25)).alloc (.cells #[.int .i64 yk, .int .i64 yn] 25))
 generalize noKn w.heap.size (((w.alloc (.cells #[.int .i64 0, .int .i64 0] 25)).alloc (.cells #[.int .i64 xk, .int .i64 xn] 25)).alloc (.cells #[.int .i64 yk, .int .i64 yn] 25)) = KK at *
 generalize ((w.alloc (.cells #[.int .i64 0, .int .i64 0] 25)).alloc (.cells #[.int .i64 xk, .int .i64 xn] 25)).alloc (.cells #[.int .i64 yk, .int .i64 yn] 25) = W3 at *
 have hS : KK.In W3.drew := hS
 have hR : W3.drew.heap[w.heap.size]? = some (.cells #[.int .i64 0, .int .i64 0] 25 (0, 0)) := hR
 have hB : Below w.heap.size w W3.drew := hB.drew
 have E5 := Lib.hid (set2A hR)
 obtain ⟨r0, r1, f0, f1, _⟩ := cell2_of hR
 have HB5 := Lib.hid hB
 clear hR hB
 refine wp_region_2 (fun w' => KK.In w') (fun _ => True) 99 (by kernel_rfl) ?_
 generalize W3.drew = Wd at *
 refine wpAny2_take (i := 0) (oi := _) (v := ?_) rfl (by decide) (by kernel_rfl) (by kernel_rfl) (by kernel_rfl) (by kernel_rfl) (fun _ _ _ h => h) hS (fun _ => trivial) (Or.inl ⟨by rfl, ?hy⟩) ?_
 case hy => intro w hSw; have z0 := hSw.cell k0; have z1 := hSw.cell k1; go_simp <;> with_reducible rfl
 try simp only [Act.put, List.setIfInBounds_toArray, List.set_cons_zero, List.set_cons_succ, List.getElem_toArray, List.getElem_cons_zero, List.getElem_cons_succ]
 refine wpAny2_take (i := 1) (oi := _) (v := ?_) rfl (by decide) (by kernel_rfl) (by kernel_rfl) (by kernel_rfl) (by kernel_rfl) (fun _ _ _ h => h) hS (fun _ => trivial) (Or.inl ⟨by rfl, ?hy⟩) ?_
 case hy => intro w hSw; have z0 := hSw.cell k0; have z1 := hSw.cell k1; go_simp <;> with_reducible rfl
 try simp only [Act.put, List.setIfInBounds_toArray, List.set_cons_zero, List.set_cons_succ, List.getElem_toArray, List.getElem_cons_zero, List.getElem_cons_succ]
 refine wpAny2_take (i := 2) (oi := _) (v := ?_) rfl (by decide) (by kernel_rfl) (by kernel_rfl) (by kernel_rfl) (by kernel_rfl) (fun _ _ _ h => h) hS (fun _ => trivial) (Or.inl ⟨by rfl, ?hy⟩) ?_
 case hy => intro w hSw; have z0 := hSw.cell k0; have z1 := hSw.cell k1; go_simp <;> with_reducible rfl
 try simp only [Act.put, List.setIfInBounds_toArray, List.set_cons_zero, List.set_cons_succ, List.getElem_toArray, List.getElem_cons_zero, List.getElem_cons_succ]
 refine wpAny2_take (i := 3) (oi := _) (v := ?_) rfl (by decide) (by kernel_rfl) (by kernel_rfl) (by kernel_rfl) (by kernel_rfl) (fun _ _ _ h => h) hS (fun _ => trivial) (Or.inl ⟨by rfl, ?hy⟩) ?_
 case hy => intro w hSw; have z0 := hSw.cell k0; have z1 := hSw.cell k1; go_simp <;> with_reducible rfl
 try simp only [Act.put, List.setIfInBounds_toArray, List.set_cons_zero, List.set_cons_succ, List.getElem_toArray, List.getElem_cons_zero, List.getElem_cons_succ]
 refine wpAny2_take (i := 4) (oi := _) (v := ?_) rfl (by decide) (by kernel_rfl) (by kernel_rfl) (by kernel_rfl) (by kernel_rfl) (fun _ _ _ h => h) hS (fun _ => trivial) (Or.inl ⟨by rfl, ?hy⟩) ?_
 case hy => intro w hSw; have z0 := hSw.cell k0; have z1 := hSw.cell k1; go_simp <;> with_reducible rfl
 try simp only [Act.put, List.setIfInBounds_toArray, List.set_cons_zero, List.set_cons_succ, List.getElem_toArray, List.getElem_cons_zero, List.getElem_cons_succ]
 refine wpAny2_take (i := 5) (oi := _) (v := ?_) rfl (by decide) (by kernel_rfl) (by kernel_rfl) (by kernel_rfl) (by kernel_rfl) (fun _ _ _ h => h) hS (fun _ => trivial) (Or.inl ⟨by rfl, ?hy⟩) ?_
 case hy => intro w hSw; have z0 := hSw.cell k0; have z1 := hSw.cell k1; go_simp <;> with_reducible rfl
 try simp only [Act.put, List.setIfInBounds_toArray, List.set_cons_zero, List.set_cons_succ, List.getElem_toArray, List.getElem_cons_zero, List.getElem_cons_succ]
 refine wpAny2_take (i := 6) (oi := _) (v := ?_) rfl (by decide) (by kernel_rfl) (by kernel_rfl) (by kernel_rfl) (by kernel_rfl) (fun _ _ _ h => h) hS (fun _ => trivial) (Or.inl ⟨by rfl, ?hy⟩) ?_
 case hy => intro w hSw; have z0 := hSw.cell k0; have z1 := hSw.cell k1; go_simp <;> with_reducible rfl
 try simp only [Act.put, List.setIfInBounds_toArray, List.set_cons_zero, List.set_cons_succ, List.getElem_toArray, List.getElem_cons_zero, List.getElem_cons_succ]
 refine wpAny2_take (i := 7) (oi := _) (v := ?_) rfl (by decide) (by kernel_rfl) (by kernel_rfl) (by kernel_rfl) (by kernel_rfl) (fun _ _ _ h => h) hS (fun _ => trivial) (Or.inl ⟨by rfl, ?hy⟩) ?_
 case hy => intro w hSw; have z0 := hSw.cell k0; have z1 := hSw.cell k1; go_simp <;> with_reducible rfl
 try simp only [Act.put, List.setIfInBounds_toArray, List.set_cons_zero, List.set_cons_succ, List.getElem_toArray, List.getElem_cons_zero, List.getElem_cons_succ]
 refine wpAny2_take (i := 8) (oi := _) (v := ?_) rfl (by decide) (by kernel_rfl) (by kernel_rfl) (by kernel_rfl) (by kernel_rfl) (fun _ _ _ h => h) hS (fun _ => trivial) (Or.inl ⟨by rfl, ?hy⟩) ?_
 case hy => intro w hSw; have z0 := hSw.cell k0; have z1 := hSw.cell k1; go_simp <;> with_reducible rfl
 try simp only [Act.put, List.setIfInBounds_toArray, List.set_cons_zero, List.set_cons_succ, List.getElem_toArray, List.getElem_cons_zero, List.getElem_cons_succ]
 refine wpAny2_take (i := 9) (oi := _) (v := ?_) rfl (by decide) (by kernel_rfl) (by kernel_rfl) (by kernel_rfl) (by kernel_rfl) (fun _ _ _ h => h) hS (fun _ => trivial) (Or.inl ⟨by rfl, ?hy⟩) ?_
 case hy => intro w hSw; have z0 := hSw.cell k0; have z1 := hSw.cell k1; go_simp <;> with_reducible rfl
 try simp only [Act.put, List.setIfInBounds_toArray, List.set_cons_zero, List.set_cons_succ, List.getElem_toArray, List.getElem_cons_zero, List.getElem_cons_succ]
 refine wpAny2_take (i := 10) (oi := _) (v := ?_) rfl (by decide) (by kernel_rfl) (by kernel_rfl) (by kernel_rfl) (by kernel_rfl) (fun _ _ _ h => h) hS (fun _ => trivial) (Or.inl ⟨by rfl, ?hy⟩) ?_
 case hy => intro w hSw; have z0 := hSw.cell k0; have z1 := hSw.cell k1; go_simp <;> with_reducible rfl
 try simp only [Act.put, List.setIfInBounds_toArray, List.set_cons_zero, List.set_cons_succ, List.getElem_toArray, List.getElem_cons_zero, List.getElem_cons_succ]
 refine wpAny2_one (i := 11) (o := _) (by kernel_rfl) rfl (fun K_ hK => ?_)
 go_simp
 go_at_call 32
 refine (raround_any _ _).mono ?_
 rintro r w5 ⟨rfl, rfl⟩
 refine hK.out _ _ (hS) (fun _ => trivial) ?_
 clear hK K_
 try simp only [Act.put, List.setIfInBounds_toArray, List.set_cons_zero, List.set_cons_succ, List.getElem_toArray, List.getElem_cons_zero, List.getElem_cons_succ]
 refine wpAny2_take (i := 12) (oi := _) (v := ?_) rfl (by decide) (by kernel_rfl) (by kernel_rfl) (by kernel_rfl) (by kernel_rfl) (fun _ _ _ h => h) hS (fun _ => trivial) (Or.inl ⟨by rfl, ?hy⟩) ?_
 case hy => intro w hSw; have z0 := hSw.cell k0; have z1 := hSw.cell k1; go_simp <;> with_reducible rfl
 try simp only [Act.put, List.setIfInBounds_toArray, List.set_cons_zero, List.set_cons_succ, List.getElem_toArray, List.getElem_cons_zero, List.getElem_cons_succ]
 refine wpAny2_one (i := 13) (o := _) (by kernel_rfl) rfl (fun K_ hK => ?_)
 go_simp
 refine hK.out _ _ (((hS.setCell (a := ⟨w.heap.size, 0, none⟩) hno _).setCell (a := ⟨w.heap.size, 1, none⟩) hno _)) (fun _ => trivial) ?_
 clear hK K_
 try simp only [Act.put, List.setIfInBounds_toArray, List.set_cons_zero, List.set_cons_succ, List.getElem_toArray, List.getElem_cons_zero, List.getElem_cons_succ]
 refine wpAny2_take (i := 14) (oi := _) (v := ?_) rfl (by decide) (by kernel_rfl) (by kernel_rfl) (by kernel_rfl) (by kernel_rfl) (fun _ _ _ h => h) ((hS.setCell (a := ⟨w.heap.size, 0, none⟩) hno _).setCell (a := ⟨w.heap.size, 1, none⟩) hno _) (fun _ => trivial) (Or.inl ⟨by rfl, ?hy⟩) ?_
 case hy => intro w hSw; have z0 := hSw.cell k0; have z1 := hSw.cell k1; go_simp <;> with_reducible rfl
 try simp only [Act.put, List.setIfInBounds_toArray, List.set_cons_zero, List.set_cons_succ, List.getElem_toArray, List.getElem_cons_zero, List.getElem_cons_succ]
 refine wpAny2_done (by kernel_rfl) ?_ _
 go_wp2_with fail
 have e2 : IntKind.wrap .i64 (xn - IntKind.wrap .i64 (IntKind.wrap .i64 (xn.tdiv yn) * yn)) = xn.tmod yn := by
  rw [wrap_small (n := xn.tdiv yn) (by omega) (by omega), wrap_small (n := xn.tdiv yn * yn) (by omega) (by omega), HTS.out]
  obtain ⟨h2, h3⟩ := tmod_bound (b := yn) hx1 hx2
  exact wrap_small (by omega) (by omega)
 have e0 := fun u v => (E5.out u v).1
 have e1 := fun u v => (E5.out u v).2
 refine bodyPost_ret (v := .tuple #[.agg #[.int .i64 2, .int .i64 (around (IntKind.wrap .i64 (xn - IntKind.wrap .i64 (IntKind.wrap .i64 (xn.tdiv yn) * yn))))], .bool false]) (by simp [results, Tryz.results10, go_sem, e0, e1]) rfl ?_
 refine ⟨?_, (HB5.out.setCell (p := ⟨w.heap.size, 0, none⟩) (Nat.le_refl _) _).setCell (p := ⟨w.heap.size, 1, none⟩) (Nat.le_refl _) _⟩
 rw [e2]
 simp [appM, vlV, wv, h0]
theorem rapp_divT (x y : Vl) (h0 : y.n = 0) (b off c : Nat) (w : World) (hc : ∀ i (h : i < 2), w.cell? ⟨b, off + i * 2, none⟩ = some (.int .i64 ([x, y][i]).kind) ∧ w.cell? ⟨b, off + i * 2 + 1, none⟩ = some (.int .i64 ([x, y][i]).n)) :
  Calls Tryz.prog 10 #[.string oDiv, .slice (some ⟨b, off, none⟩) 2 c] w fun r w' => r = .returned (.tuple #[vlV (appM oDiv [x, y]).1, .bool (appM oDiv [x, y]).2]) ∧ Below w.heap.size w w' := by
 obtain ⟨xk, xn⟩ := x
 obtain ⟨yk, yn⟩ := y
 have hb : b < w.heap.size := cell_ltA (hc 0 (by decide)).1
 obtain ⟨p0, p0n⟩ := hc 0 (by decide)
 obtain ⟨p1, p1n⟩ := hc 1 (by decide)
 simp only [List.getElem_cons_zero, List.getElem_cons_succ, Nat.zero_mul, Nat.one_mul, Nat.add_zero, Nat.reduceMul] at p0 p0n p1 p1n
 obtain ⟨a0, b0⟩ := allocs2 hb p0
 obtain ⟨a0n, b0n⟩ := allocs2 hb p0n
 obtain ⟨a1, b1⟩ := allocs2 hb p1
 obtain ⟨a1n, b1n⟩ := allocs2 hb p1n
 clear hc
 have hbl : ∀ x y : Obj, Below w.heap.size w (((w.alloc (.cells #[.int .i64 0, .int .i64 0] 25)).alloc x).alloc y) := fun x y => (((Below.refl _ _).alloc (Nat.le_refl _) _).alloc (by simp) _).alloc (by simp; omega) _
 have hbr : ∀ x y : Obj, (((w.alloc (.cells #[.int .i64 0, .int .i64 0] 25)).alloc x).alloc y).heap[w.heap.size]? = some (.cells #[.int .i64 0, .int .i64 0] 25 (0, 0)) := fun x y => by
  rw [Below.heap_alloc _ _ _ (by simp; omega), Below.heap_alloc _ _ _ (by simp)]; exact heap_alloc_new _ _
 have HB3 := Lib.hid (show ∀ z x y : Obj, Below w.heap.size w (((w.alloc z).alloc x).alloc y) from fun z x y => (((Below.refl _ _).alloc (Nat.le_refl _) _).alloc (by simp) _).alloc (by simp; omega) _)
 have HBL := Lib.hid hbl
 have HBR := Lib.hid hbr
 clear hbl hbr
 dsimp only at h0
 subst h0
 go_enter Tryz.func10, Tryz.ntmps10
 go_wp2_with fail
 refine bodyPost_ret (v := .tuple #[.agg #[.int .i64 0, .int .i64 0], .bool true]) (by simp [results, Tryz.results10, go_sem]) rfl ?_
 exact ⟨rfl, HB3.out _ _ _⟩
theorem rapp_modT (x y : Vl) (h0 : y.n = 0) (b off c : Nat) (w : World) (hc : ∀ i (h : i < 2), w.cell? ⟨b, off + i * 2, none⟩ = some (.int .i64 ([x, y][i]).kind) ∧ w.cell? ⟨b, off + i * 2 + 1, none⟩ = some (.int .i64 ([x, y][i]).n)) :
  Calls Tryz.prog 10 #[.string oMod, .slice (some ⟨b, off, none⟩) 2 c] w fun r w' => r = .returned (.tuple #[vlV (appM oMod [x, y]).1, .bool (appM oMod [x, y]).2]) ∧ Below w.heap.size w w' := by
 obtain ⟨xk, xn⟩ := x
 obtain ⟨yk, yn⟩ := y
 have hb : b < w.heap.size := cell_ltA (hc 0 (by decide)).1
 obtain ⟨p0, p0n⟩ := hc 0 (by decide)
 obtain ⟨p1, p1n⟩ := hc 1 (by decide)
 simp only [List.getElem_cons_zero, List.getElem_cons_succ, Nat.zero_mul, Nat.one_mul, Nat.add_zero, Nat.reduceMul] at p0 p0n p1 p1n
 obtain ⟨a0, b0⟩ := allocs2 hb p0
 obtain ⟨a0n, b0n⟩ := allocs2 hb p0n
 obtain ⟨a1, b1⟩ := allocs2 hb p1
 obtain ⟨a1n, b1n⟩ := allocs2 hb p1n
 clear hc
 have hbl : ∀ x y : Obj, Below w.heap.size w (((w.alloc (.cells #[.int .i64 0, .int .i64 0] 25)).alloc x).alloc y) := fun x y => (((Below.refl _ _).alloc (Nat.le_refl _) _).alloc (by simp) _).alloc (by simp; omega) _
 have hbr : ∀ x y : Obj, (((w.alloc (.cells #[.int .i64 0, .int .i64 0] 25)).alloc x).alloc y).heap[w.heap.size]? = some (.cells #[.int .i64 0, .int .i64 0] 25 (0, 0)) := fun x y => by
  rw [Below.heap_alloc _ _ _ (by simp; omega), Below.heap_alloc _ _ _ (by simp)]; exact heap_alloc_new _ _
 have HB3 := Lib.hid (show ∀ z x y : Obj, Below w.heap.size w (((w.alloc z).alloc x).alloc y) from fun z x y => (((Below.refl _ _).alloc (Nat.le_refl _) _).alloc (by simp) _).alloc (by simp; omega) _)
 have HBL := Lib.hid hbl
 have HBR := Lib.hid hbr
 clear hbl hbr
 dsimp only at h0
 subst h0
 go_enter Tryz.func10, Tryz.ntmps10
 go_wp2_with fail
 refine bodyPost_ret (v := .tuple #[.agg #[.int .i64 0, .int .i64 0], .bool true]) (by simp [results, Tryz.results10, go_sem]) rfl ?_
 exact ⟨rfl, HB3.out _ _ _⟩
theorem rapp_not (x : Vl) (b off c : Nat) (w : World) (hc : ∀ i (h : i < 1), w.cell? ⟨b, off + i * 2, none⟩ = some (.int .i64 ([x][i]).kind) ∧ w.cell? ⟨b, off + i * 2 + 1, none⟩ = some (.int .i64 ([x][i]).n)) :
  Calls Tryz.prog 10 #[.string oNot, .slice (some ⟨b, off, none⟩) 1 c] w fun r w' => r = .returned (.tuple #[vlV (appM oNot [x]).1, .bool (appM oNot [x]).2]) ∧ Below w.heap.size w w' := by
 obtain ⟨xk, xn⟩ := x
 have hb : b < w.heap.size := cell_ltA (hc 0 (by decide)).1
 obtain ⟨p0, p0n⟩ := hc 0 (by decide)
 simp only [List.getElem_cons_zero, List.getElem_cons_succ, Nat.zero_mul, Nat.one_mul, Nat.add_zero, Nat.reduceMul] at p0 p0n
 obtain ⟨a0, b0⟩ := allocs2 hb p0
 obtain ⟨a0n, b0n⟩ := allocs2 hb p0n
 clear hc
 have hbl : ∀ x y : Obj, Below w.heap.size w (((w.alloc (.cells #[.int .i64 0, .int .i64 0] 25)).alloc x).alloc y) := fun x y => (((Below.refl _ _).alloc (Nat.le_refl _) _).alloc (by simp) _).alloc (by simp; omega) _
 have hbr : ∀ x y : Obj, (((w.alloc (.cells #[.int .i64 0, .int .i64 0] 25)).alloc x).alloc y).heap[w.heap.size]? = some (.cells #[.int .i64 0, .int .i64 0] 25 (0, 0)) := fun x y => by
  rw [Below.heap_alloc _ _ _ (by simp; omega), Below.heap_alloc _ _ _ (by simp)]; exact heap_alloc_new _ _
 have HB3 := Lib.hid (show ∀ z x y : Obj, Below w.heap.size w (((w.alloc z).alloc x).alloc y) from fun z x y => (((Below.refl _ _).alloc (Nat.le_refl _) _).alloc (by simp) _).alloc (by simp; omega) _)
 have HBL := Lib.hid hbl
 have HBR := Lib.hid hbr
 clear hbl hbr
 by_cases h : xn = 0
 ·have h2 : (xn == 0) = true := by simpa using h
  go_enter Tryz.func10, Tryz.ntmps10
  go_wp2_with fail
  refine (rtruth_any _ _).mono ?_
  rintro r w5 ⟨rfl, hb5⟩
  have hR5 := (hb5.block w.heap.size (by simp; omega)).trans (HBR.out _ _)
  have hB5 := (HBL.out _ _).trans (hb5.mono (by simp; omega))
  have E5 := Lib.hid (set2A hR5)
  obtain ⟨r0, r1, f0, f1, _⟩ := cell2_of hR5
  have HB5 := Lib.hid hB5
  clear hR5 hB5 hb5
  simp only [vlV, tv, h2, Bool.false_eq_true, if_false, if_true]
  go_wp2_with fail
  have e0 := fun u v => (E5.out u v).1
  have e1 := fun u v => (E5.out u v).2
  refine bodyPost_ret (v := .tuple #[.agg #[.int .i64 1, .int .i64 1], .bool false]) (by simp [results, Tryz.results10, go_sem, e0, e1]) rfl ?_
  refine ⟨?_, (HB5.out.setCell (p := ⟨w.heap.size, 0, none⟩) (Nat.le_refl _) _).setCell (p := ⟨w.heap.size, 1, none⟩) (Nat.le_refl _) _⟩
  simp [appM, vlV, tv, h]
 ·have h2 : (xn == 0) = false := by simpa using h
  go_enter Tryz.func10, Tryz.ntmps10
  go_wp2_with fail
  refine (rtruth_any _ _).mono ?_
  rintro r w5 ⟨rfl, hb5⟩
  have hR5 := (hb5.block w.heap.size (by simp; omega)).trans (HBR.out _ _)
  have hB5 := (HBL.out _ _).trans (hb5.mono (by simp; omega))
  have E5 := Lib.hid (set2A hR5)
  obtain ⟨r0, r1, f0, f1, _⟩ := cell2_of hR5
  have HB5 := Lib.hid hB5
  clear hR5 hB5 hb5
  simp only [vlV, tv, h2, Bool.false_eq_true, if_false, if_true]
  go_wp2_with fail
  have e0 := fun u v => (E5.out u v).1
  have e1 := fun u v => (E5.out u v).2
  refine bodyPost_ret (v := .tuple #[.agg #[.int .i64 1, .int .i64 0], .bool false]) (by simp [results, Tryz.results10, go_sem, e0, e1]) rfl ?_
  refine ⟨?_, (HB5.out.setCell (p := ⟨w.heap.size, 0, none⟩) (Nat.le_refl _) _).setCell (p := ⟨w.heap.size, 1, none⟩) (Nat.le_refl _) _⟩
  simp [appM, vlV, tv, h]
theorem rapp_neg (x : Vl) (hx : -128 ≤ x.n ∧ x.n ≤ 127) (b off c : Nat) (w : World) (hc : ∀ i (h : i < 1), w.cell? ⟨b, off + i * 2, none⟩ = some (.int .i64 ([x][i]).kind) ∧ w.cell? ⟨b, off + i * 2 + 1, none⟩ = some (.int .i64 ([x][i]).n)) :
  Calls Tryz.prog 10 #[.string oNeg, .slice (some ⟨b, off, none⟩) 1 c] w fun r w' => r = .returned (.tuple #[vlV (appM oNeg [x]).1, .bool (appM oNeg [x]).2]) ∧ Below w.heap.size w w' := by
 obtain ⟨xk, xn⟩ := x
 have hb : b < w.heap.size := cell_ltA (hc 0 (by decide)).1
 obtain ⟨p0, p0n⟩ := hc 0 (by decide)
 simp only [List.getElem_cons_zero, List.getElem_cons_succ, Nat.zero_mul, Nat.one_mul, Nat.add_zero, Nat.reduceMul] at p0 p0n
 obtain ⟨a0, b0⟩ := allocs2 hb p0
 obtain ⟨a0n, b0n⟩ := allocs2 hb p0n
 clear hc
 have hbl : ∀ x y : Obj, Below w.heap.size w (((w.alloc (.cells #[.int .i64 0, .int .i64 0] 25)).alloc x).alloc y) := fun x y => (((Below.refl _ _).alloc (Nat.le_refl _) _).alloc (by simp) _).alloc (by simp; omega) _
 have hbr : ∀ x y : Obj, (((w.alloc (.cells #[.int .i64 0, .int .i64 0] 25)).alloc x).alloc y).heap[w.heap.size]? = some (.cells #[.int .i64 0, .int .i64 0] 25 (0, 0)) := fun x y => by
  rw [Below.heap_alloc _ _ _ (by simp; omega), Below.heap_alloc _ _ _ (by simp)]; exact heap_alloc_new _ _
 have HB3 := Lib.hid (show ∀ z x y : Obj, Below w.heap.size w (((w.alloc z).alloc x).alloc y) from fun z x y => (((Below.refl _ _).alloc (Nat.le_refl _) _).alloc (by simp) _).alloc (by simp; omega) _)
 have HBL := Lib.hid hbl
 have HBR := Lib.hid hbr
 clear hbl hbr
 dsimp only at hx
 obtain ⟨hx1, hx2⟩ := hx
 go_enter Tryz.func10, Tryz.ntmps10
 go_wp2_with fail
 refine (raround_any _ _).mono ?_
 rintro r w5 ⟨rfl, rfl⟩
 go_wp2_with fail
 refine bodyPost_ret (v := .tuple #[.agg #[.int .i64 2, .int .i64 (around (256 - xn))], .bool false]) (by simp [results, Tryz.results10, go_sem]) rfl ?_
 refine ⟨?_, HB3.out _ _ _⟩
 have e : around (256 - xn) = around (-xn) := by
  have h : (256 - xn) % 256 = (-xn) % 256 := by omega
  unfold around
  rw [h]
 rw [e]
 rfl
theorem rapp_if (x y u : Vl) (b off c : Nat) (w : World) (hc : ∀ i (h : i < 3), w.cell? ⟨b, off + i * 2, none⟩ = some (.int .i64 ([x, y, u][i]).kind) ∧ w.cell? ⟨b, off + i * 2 + 1, none⟩ = some (.int .i64 ([x, y, u][i]).n)) :
  Calls Tryz.prog 10 #[.string oIf, .slice (some ⟨b, off, none⟩) 3 c] w fun r w' => r = .returned (.tuple #[vlV (appM oIf [x, y, u]).1, .bool (appM oIf [x, y, u]).2]) ∧ Below w.heap.size w w' := by
 obtain ⟨xk, xn⟩ := x
 obtain ⟨yk, yn⟩ := y
 obtain ⟨uk, un⟩ := u
 have hb : b < w.heap.size := cell_ltA (hc 0 (by decide)).1
 obtain ⟨p0, p0n⟩ := hc 0 (by decide)
 obtain ⟨p1, p1n⟩ := hc 1 (by decide)
 obtain ⟨p2, p2n⟩ := hc 2 (by decide)
 simp only [List.getElem_cons_zero, List.getElem_cons_succ, Nat.zero_mul, Nat.one_mul, Nat.add_zero, Nat.reduceMul] at p0 p0n p1 p1n p2 p2n
 obtain ⟨a0, b0⟩ := allocs2 hb p0
 obtain ⟨a0n, b0n⟩ := allocs2 hb p0n
 obtain ⟨a1, b1⟩ := allocs2 hb p1
 obtain ⟨a1n, b1n⟩ := allocs2 hb p1n
 obtain ⟨a2, b2⟩ := allocs2 hb p2
 obtain ⟨a2n, b2n⟩ := allocs2 hb p2n
 clear hc
 have hbl : ∀ x y : Obj, Below w.heap.size w (((w.alloc (.cells #[.int .i64 0, .int .i64 0] 25)).alloc x).alloc y) := fun x y => (((Below.refl _ _).alloc (Nat.le_refl _) _).alloc (by simp) _).alloc (by simp; omega) _
 have hbr : ∀ x y : Obj, (((w.alloc (.cells #[.int .i64 0, .int .i64 0] 25)).alloc x).alloc y).heap[w.heap.size]? = some (.cells #[.int .i64 0, .int .i64 0] 25 (0, 0)) := fun x y => by
  rw [Below.heap_alloc _ _ _ (by simp; omega), Below.heap_alloc _ _ _ (by simp)]; exact heap_alloc_new _ _
 have HB3 := Lib.hid (show ∀ z x y : Obj, Below w.heap.size w (((w.alloc z).alloc x).alloc y) from fun z x y => (((Below.refl _ _).alloc (Nat.le_refl _) _).alloc (by simp) _).alloc (by simp; omega) _)
 have HBL := Lib.hid hbl
 have HBR := Lib.hid hbr
 clear hbl hbr
 have c0 := allocs3 hb p0
 have c0n := allocs3 hb p0n
 have c1 := allocs3 hb p1
 have c1n := allocs3 hb p1n
 have c2 := allocs3 hb p2
 have c2n := allocs3 hb p2n
 by_cases h : xn = 1
 ·have h2 : (xn == 1) = true := by simpa using h
  go_enter Tryz.func10, Tryz.ntmps10
  go_wp2_with fail
  refine bodyPost_ret (v := .tuple #[.agg #[.int .i64 yk, .int .i64 yn], .bool false]) (by simp [results, Tryz.results10, go_sem]) rfl ?_
  refine ⟨?_, HB3.out _ _ _⟩
  simp [appM, vlV, h]
 ·have h2 : (xn == 1) = false := by simpa using h
  go_enter Tryz.func10, Tryz.ntmps10
  go_wp2_with fail
  refine bodyPost_ret (v := .tuple #[.agg #[.int .i64 uk, .int .i64 un], .bool false]) (by simp [results, Tryz.results10, go_sem]) rfl ?_
  refine ⟨?_, HB3.out _ _ _⟩
  simp [appM, vlV, h]
end Go.Proofs.YtnaijgmfjpmpjaaGreatDoor
