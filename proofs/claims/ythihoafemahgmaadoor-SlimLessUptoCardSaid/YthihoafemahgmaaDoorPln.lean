/- Walks: slim.plain, slim.literal. -/
import Derived.Test.YthihoafemahgmaaDoorSlA
import Derived.Test.YthihoafemahgmaaDoorFoM
import Derived.Test.YthihoafemahgmaaDoorFlA
import Derived.Test.YthihoafemahgmaaDoorSm2
import Derived.Test.YthihoafemahgmaaDoorLateA
namespace Go.Proofs.YthihoafemahgmaaDoor
open Go.RowKit Mx
theorem wrap64_of {n : Int} (h1 : -9223372036854775808 ≤ n) (h2 : n ≤ 9223372036854775807) : IntKind.wrap .i64 n = n := by
  rw [wrap64]
  split <;> omega
def PlOk (e : Ex) : Prop := (e.op = oNeg → e.l ≠ []) ∧ ∀ x ∈ e.l, x.op = oInt → 0 ≤ x.n ∧ x.n ≤ 127
theorem PlOk.of {ks : Env Int} {e : Ex} (h : formAll ks e = true) : PlOk e := by
  obtain ⟨o, n, s, l⟩ := e
  have h0 := h
  simp only [formAll, Bool.and_eq_true] at h
  rw [formAllL_iff] at h
  refine ⟨fun ho hl => ?_, fun x hx ho => ?_⟩
  · have h1 := h.1.1.1
    simp only [Ex.op, Ex.l] at ho hl
    subst ho
    subst hl
    revert h1
    unfold form
    simp only [Ex.op, Ex.n, Ex.s, Ex.l]
    have : arity oNeg = some 1 := by kernel_rfl
    rw [this]
    simp
  · have h2 := h.2 x hx
    obtain ⟨o', n', s', l'⟩ := x
    simp only [Ex.op, Ex.n] at ho ⊢
    subst ho
    simp only [formAll, Bool.and_eq_true] at h2
    exact form_int h2.1.1.1
set_option maxHeartbeats 4000000 in
set_option maxRecDepth 100000 in
theorem plain_any (e : Ex) (hok : PlOk e) (H : Kn) (v : Value) (hv : ExV H e v) (w : World) (hH : H.In w) :
    Calls Tryd.prog 52 #[v] w fun r w' => r = .returned (.tuple #[vlV ((plainV e).getD vz), .bool (plainV e).isSome]) ∧ Below w.heap.size w w' := by
  obtain ⟨o, n, s, l⟩ := e
  obtain ⟨u, rfl, hu⟩ := hv
  obtain ⟨hok1, hok2⟩ := hok
  simp only [Ex.op, Ex.n, Ex.s, Ex.l] at hu hok1 ⊢
  have hok2 : ∀ x ∈ l, x.op = oInt → 0 ≤ x.n ∧ x.n ≤ 127 := hok2
  obtain ⟨a, c, rfl⟩ := hu.len
  have hb : Below w.heap.size w ((w.alloc (.cells #[.string o, .int .i64 n, .string s, .slice a l.length c] 45)).alloc (.cells #[.int .i64 0, .int .i64 0] 98)) := ((Below.refl _ _).alloc (Nat.le_refl _) _).alloc (by simp) _
  have HB := Lib.hid hb
  have hR : ((w.alloc (.cells #[.string o, .int .i64 n, .string s, .slice a l.length c] 45)).alloc (.cells #[.int .i64 0, .int .i64 0] 98)).heap[w.heap.size + 1]? = some (.cells #[.int .i64 0, .int .i64 0] 98 (0, 0)) := by
    rw [show w.heap.size + 1 = (w.alloc (.cells #[.string o, .int .i64 n, .string s, .slice a l.length c] 45)).heap.size from by simp]; exact heap_alloc_new _ _
  have hP : ((w.alloc (.cells #[.string o, .int .i64 n, .string s, .slice a l.length c] 45)).alloc (.cells #[.int .i64 0, .int .i64 0] 98)).heap[w.heap.size]? = some (.cells #[.string o, .int .i64 n, .string s, .slice a l.length c] 45 (0, 0)) := by
    rw [Below.heap_alloc _ _ _ (by simp)]; exact heap_alloc_new _ _
  obtain ⟨b0, b1, b2, b3, _⟩ := cells4_of hP
  obtain ⟨r0, r1, f0, f1, _⟩ := cell2_of hR
  have HR := Lib.hid hR
  have HU := Lib.hid hu
  have HH := Lib.hid (hH.below hb)
  clear hb hR hP hu
  have put : ∀ (W : World) (p q x y : Value), W.heap[w.heap.size + 1]? = some (.cells #[p, q] 98 (0, 0)) → ((W.setCell ⟨w.heap.size + 1, 0, none⟩ x).setCell ⟨w.heap.size + 1, 1, none⟩ y).heap[w.heap.size + 1]? = some (.cells #[x, y] 98 (0, 0)) := fun W p q x y h =>
    heap_setCell_same _ (w.heap.size + 1) 1 y _ _ _ (heap_setCell_same W (w.heap.size + 1) 0 x _ _ _ h)
  have PUT := Lib.hid put
  clear put
  rcases Bool.eq_false_or_eq_true (o.toList == [105, 110, 116]) with p1 | p1
  · have hr : plainV (.mk o n s l) = some ⟨2, n⟩ := by rw [lit_of p1]; rfl
    rw [hr]
    have HW := Lib.hid (PUT.out _ _ _ (.int .i64 2) (.int .i64 n) HR.out)
    go_enter Tryd.func52, Tryd.ntmps52
    go_wp2_with fail
    refine bodyPost_ret (v := .tuple #[.agg #[.int .i64 2, .int .i64 n], .bool true]) (by simp [results, Tryd.results52, go_sem]) rfl ?_
    exact ⟨rfl, ((Below.refl _ _).alloc (Nat.le_refl _) _).alloc (by simp) _⟩
  have n1 : o ≠ oInt := fun e => by rw [e] at p1; exact Bool.noConfusion ((show (oInt.toList == [105, 110, 116]) = true from by kernel_rfl).symm.trans p1)
  rcases Bool.eq_false_or_eq_true (o.toList == [116, 114, 117, 101]) with p2 | p2
  · have hr : plainV (.mk o n s l) = some (tv true) := by rw [lit_of p2]; rfl
    rw [hr]
    go_enter Tryd.func52, Tryd.ntmps52
    go_wp2_with fail
    refine (truth_any true _).mono ?_
    rintro r w2 ⟨rfl, hb2⟩
    have HB2 := Lib.hid (HB.out.trans (hb2.mono HB.out.size))
    have h2 := (hb2.block (w.heap.size + 1) (Array.getElem?_eq_some_iff.1 HR.out).1).trans HR.out
    obtain ⟨r0, r1, f0, f1, _⟩ := cell2_of h2
    have HW := Lib.hid (PUT.out _ _ _ (.int .i64 (tv true).kind) (.int .i64 (tv true).n) h2)
    clear hb2 h2
    go_wp2_with fail
    obtain ⟨e0, e1, _⟩ := cell2_of HW.out
    refine bodyPost_ret (v := .tuple #[.agg #[.int .i64 (tv true).kind, .int .i64 (tv true).n], .bool true]) (by simp [results, Tryd.results52, go_sem, e0, e1]) rfl ?_
    exact ⟨rfl, below_put2 HB2.out (by omega) _ _⟩
  have n2 : o ≠ oTrue := fun e => by rw [e] at p2; exact Bool.noConfusion ((show (oTrue.toList == [116, 114, 117, 101]) = true from by kernel_rfl).symm.trans p2)
  rcases Bool.eq_false_or_eq_true (o.toList == [102, 97, 108, 115, 101]) with p3 | p3
  · have hr : plainV (.mk o n s l) = some (tv false) := by rw [lit_of p3]; rfl
    rw [hr]
    go_enter Tryd.func52, Tryd.ntmps52
    go_wp2_with fail
    refine (truth_any false _).mono ?_
    rintro r w2 ⟨rfl, hb2⟩
    have HB2 := Lib.hid (HB.out.trans (hb2.mono HB.out.size))
    have h2 := (hb2.block (w.heap.size + 1) (Array.getElem?_eq_some_iff.1 HR.out).1).trans HR.out
    obtain ⟨r0, r1, f0, f1, _⟩ := cell2_of h2
    have HW := Lib.hid (PUT.out _ _ _ (.int .i64 (tv false).kind) (.int .i64 (tv false).n) h2)
    clear hb2 h2
    go_wp2_with fail
    obtain ⟨e0, e1, _⟩ := cell2_of HW.out
    refine bodyPost_ret (v := .tuple #[.agg #[.int .i64 (tv false).kind, .int .i64 (tv false).n], .bool true]) (by simp [results, Tryd.results52, go_sem, e0, e1]) rfl ?_
    exact ⟨rfl, below_put2 HB2.out (by omega) _ _⟩
  have n3 : o ≠ oFalse := fun e => by rw [e] at p3; exact Bool.noConfusion ((show (oFalse.toList == [102, 97, 108, 115, 101]) = true from by kernel_rfl).symm.trans p3)
  have HW0 := Lib.hid (PUT.out _ _ _ (.int .i64 0) (.int .i64 0) HR.out)
  rcases Bool.eq_false_or_eq_true (o.toList == [110, 101, 103]) with p4 | p4
  · have ho : o = oNeg := lit_of p4
    have hne := hok1 ho
    obtain ⟨x, l', rfl⟩ : ∃ x l', l = x :: l' := by cases l with | nil => exact absurd rfl hne | cons x l' => exact ⟨x, l', rfl⟩
    obtain ⟨b, off, ax, cx, rfl, d0, d1, d2, d3, hx⟩ := ExsV.at HU.out (i := 0) (by simp)
    simp only [List.getElem_cons_zero, Nat.zero_mul, Nat.add_zero] at d0 d1 d2 d3
    have hxn := hok2 x (List.mem_cons_self ..)
    have hr : plainV (.mk o n s (x :: l')) = if x.op = oInt then some ⟨2, -x.n⟩ else none := by
      rw [ho]
      obtain ⟨o', n', s', l''⟩ := x
      rfl
    rw [hr]
    have d0 := hH.cell d0
    have d1 := hH.cell d1
    have hbl : b < w.heap.size := World.block_lt_of_cell? w _ d0
    clear hr hx hok1 hok2 hne
    rcases Bool.eq_false_or_eq_true (x.op.toList == [105, 110, 116]) with p5 | p5
    · have hxo := lit_of p5
      obtain ⟨g1, g2⟩ := hxn hxo
      rw [if_pos hxo]
      have hw : IntKind.wrap .i64 (-x.n) = -x.n := wrap64_of (by omega) (by omega)
      have HW := Lib.hid (PUT.out _ _ _ (.int .i64 2) (.int .i64 (-x.n)) HR.out)
      clear hxo hxn
      go_enter Tryd.func52, Tryd.ntmps52
      go_wp2_with fail
      refine bodyPost_ret (v := .tuple #[.agg #[.int .i64 2, .int .i64 (-x.n)], .bool true]) (by simp [results, Tryd.results52, go_sem]) rfl ?_
      exact ⟨rfl, ((Below.refl _ _).alloc (Nat.le_refl _) _).alloc (by simp) _⟩
    · rw [if_neg (fun e => by rw [e] at p5; exact Bool.noConfusion ((show (oInt.toList == [105, 110, 116]) = true from by kernel_rfl).symm.trans p5))]
      have HW := HW0
      clear hxn
      go_enter Tryd.func52, Tryd.ntmps52
      go_wp2_with fail
      refine bodyPost_ret (v := .tuple #[.agg #[.int .i64 0, .int .i64 0], .bool false]) (by simp [results, Tryd.results52, go_sem]) rfl ?_
      exact ⟨rfl, ((Below.refl _ _).alloc (Nat.le_refl _) _).alloc (by simp) _⟩
  · have n4 : o ≠ oNeg := fun e => by rw [e] at p4; exact Bool.noConfusion ((show (oNeg.toList == [110, 101, 103]) = true from by kernel_rfl).symm.trans p4)
    have hr : plainV (.mk o n s l) = none := by
      simp only [plainV]
      rw [if_neg n1, if_neg (by simp [n2, n3]), if_neg n4]
    rw [hr]
    have HW := HW0
    clear n1 n2 n3 n4
    go_enter Tryd.func52, Tryd.ntmps52
    go_wp2_with fail
    refine bodyPost_ret (v := .tuple #[.agg #[.int .i64 0, .int .i64 0], .bool false]) (by simp [results, Tryd.results52, go_sem]) rfl ?_
    exact ⟨rfl, ((Below.refl _ _).alloc (Nat.le_refl _) _).alloc (by simp) _⟩
theorem far4' {w : World} {b g p q r s : Nat} (hb : b ≠ g) (x y z u : Value) : ((((w.setCell ⟨g, p, none⟩ x).setCell ⟨g, q, none⟩ y).setCell ⟨g, r, none⟩ z).setCell ⟨g, s, none⟩ u).heap[b]? = w.heap[b]? := by
  rw [Below.heap_setCell _ ⟨g, s, none⟩ _ b hb, Below.heap_setCell _ ⟨g, r, none⟩ _ b hb, Below.heap_setCell _ ⟨g, q, none⟩ _ b hb, Below.heap_setCell _ ⟨g, p, none⟩ _ b hb]
def litX (v : Vl) : Ex := (literalV v).getD (.mk oNeg 0 ⟨#[]⟩ [.mk oInt (-v.n) ⟨#[]⟩ []])
theorem exV_leaf (K : Kn) (o : ByteArray) (n : Int) (s : ByteArray) : ExV K (.mk o n s []) (.agg #[.string o, .int .i64 n, .string s, .slice none 0 0]) := ⟨_, rfl, .inl ⟨rfl, none, 0, rfl⟩⟩
set_option maxHeartbeats 4000000 in
set_option maxRecDepth 100000 in
theorem literal_any (v : Vl) (hv : -128 ≤ v.n ∧ v.n ≤ 127) (w : World) :
    Calls Tryd.prog 54 #[vlV v] w fun r w' => ∃ u, r = .returned (.tuple #[u, .bool (literalV v).isSome]) ∧ ExV (newU w.heap.size w') (litX v) u ∧ Below w.heap.size w w' := by
  obtain ⟨vk, vn⟩ := v
  obtain ⟨g1, g2⟩ := hv
  dsimp only at g1 g2
  by_cases k1 : vk = 1
  · subst k1
    by_cases n1 : vn = 1
    · subst n1
      have hl : literalV ⟨1, 1⟩ = some (.mk oTrue 0 ⟨#[]⟩ []) := rfl
      unfold litX
      rw [hl]
      unfold vlV
      go_enter Tryd.func54, Tryd.ntmps54
      go_wp2_with fail
      refine bodyPost_ret (v := .tuple #[.agg #[.string oTrue, .int .i64 0, .string ⟨#[]⟩, .slice none 0 0], .bool true]) (by simp [results, Tryd.results54, go_sem]) rfl ?_
      exact ⟨_, rfl, exV_leaf _ _ _ _, ((Below.refl _ _).alloc (Nat.le_refl _) _).alloc (by simp) _⟩
    · have hl : literalV ⟨1, vn⟩ = some (.mk oFalse 0 ⟨#[]⟩ []) := by unfold literalV; rw [if_neg (fun h => n1 h.2), if_pos rfl]
      unfold litX
      rw [hl]
      unfold vlV
      clear hl
      go_enter Tryd.func54, Tryd.ntmps54
      go_wp2_with fail
      refine bodyPost_ret (v := .tuple #[.agg #[.string oFalse, .int .i64 0, .string ⟨#[]⟩, .slice none 0 0], .bool true]) (by simp [results, Tryd.results54, go_sem]) rfl ?_
      exact ⟨_, rfl, exV_leaf _ _ _ _, ((Below.refl _ _).alloc (Nat.le_refl _) _).alloc (by simp) _⟩
  · by_cases n0 : 0 ≤ vn
    · have hl : literalV ⟨vk, vn⟩ = some (.mk oInt vn ⟨#[]⟩ []) := by unfold literalV; rw [if_neg (fun h => k1 h.1), if_neg k1, if_pos n0]
      unfold litX
      rw [hl]
      unfold vlV
      clear hl
      go_enter Tryd.func54, Tryd.ntmps54
      go_wp2_with fail
      refine bodyPost_ret (v := .tuple #[.agg #[.string oInt, .int .i64 vn, .string ⟨#[]⟩, .slice none 0 0], .bool true]) (by simp [results, Tryd.results54, go_sem]) rfl ?_
      exact ⟨_, rfl, exV_leaf _ _ _ _, ((Below.refl _ _).alloc (Nat.le_refl _) _).alloc (by simp) _⟩
    · have hl : (literalV ⟨vk, vn⟩).isSome = decide (-127 ≤ vn) ∧ litX ⟨vk, vn⟩ = .mk oNeg 0 ⟨#[]⟩ [.mk oInt (-vn) ⟨#[]⟩ []] := by
        unfold litX literalV
        rw [if_neg (fun h => k1 h.1), if_neg k1, if_neg n0]
        by_cases h : -127 ≤ vn <;> simp [h]
      rw [hl.1, hl.2]
      unfold vlV
      have hw : IntKind.wrap .i64 (-vn) = -vn := wrap64_of (by omega) (by omega)
      have hB0 : ((w.alloc (.cells #[.int .i64 vk, .int .i64 vn] 98)).alloc (.cells #[.string ⟨#[]⟩, .int .i64 0, .string ⟨#[]⟩, .slice none 0 0] 45)).heap[w.heap.size]? = some (.cells #[.int .i64 vk, .int .i64 vn] 98 (0, 0)) := by
        rw [Below.heap_alloc _ _ _ (by simp)]; exact heap_alloc_new _ _
      have hR0 : ((w.alloc (.cells #[.int .i64 vk, .int .i64 vn] 98)).alloc (.cells #[.string ⟨#[]⟩, .int .i64 0, .string ⟨#[]⟩, .slice none 0 0] 45)).heap[w.heap.size + 1]? = some (.cells #[.string ⟨#[]⟩, .int .i64 0, .string ⟨#[]⟩, .slice none 0 0] 45 (0, 0)) := by
        rw [show w.heap.size + 1 = (w.alloc (.cells #[.int .i64 vk, .int .i64 vn] 98)).heap.size from by simp]; exact heap_alloc_new _ _
      have hb0 : Below w.heap.size w ((w.alloc (.cells #[.int .i64 vk, .int .i64 vn] 98)).alloc (.cells #[.string ⟨#[]⟩, .int .i64 0, .string ⟨#[]⟩, .slice none 0 0] 45)) := ((Below.refl _ _).alloc (Nat.le_refl _) _).alloc (by simp) _
      have hz0 : ((w.alloc (.cells #[.int .i64 vk, .int .i64 vn] 98)).alloc (.cells #[.string ⟨#[]⟩, .int .i64 0, .string ⟨#[]⟩, .slice none 0 0] 45)).heap.size = w.heap.size + 1 + 1 := by simp
      clear hl
      go_enter Tryd.func54, Tryd.ntmps54
      go_wp2_with fail
      generalize (w.alloc (.cells #[.int .i64 vk, .int .i64 vn] 98)).alloc (.cells #[.string ⟨#[]⟩, .int .i64 0, .string ⟨#[]⟩, .slice none 0 0] 45) = W0 at *
      have b0 : W0.drew.cell? ⟨w.heap.size, 0, none⟩ = some (.int .i64 vk) := (cell2_of hB0).1
      have b1 : W0.drew.cell? ⟨w.heap.size, 1, none⟩ = some (.int .i64 vn) := (cell2_of hB0).2.1
      have hlt0 : w.heap.size + 1 < W0.drew.heap.size := by show w.heap.size + 1 < W0.heap.size; omega
      have hrA := fun ob => (Below.heap_alloc W0.drew ob (w.heap.size + 1) hlt0).trans (show W0.drew.heap[w.heap.size + 1]? = _ from hR0)
      have hbA := fun ob => (Below.heap_alloc W0.drew ob w.heap.size (by omega)).trans (show W0.drew.heap[w.heap.size]? = _ from hB0)
      have b1A := fun ob => (cell2_of (hbA ob)).2.1
      have b1B : ∀ ob x y z u, (((((W0.drew.alloc ob).setCell ⟨w.heap.size + 1, 0, none⟩ x).setCell ⟨w.heap.size + 1, 1, none⟩ y).setCell ⟨w.heap.size + 1, 2, none⟩ z).setCell ⟨w.heap.size + 1, 3, none⟩ u).cell? ⟨w.heap.size, 1, none⟩ = some (.int .i64 vn) := fun ob x y z u => by
        have h := (far4' (w := W0.drew.alloc ob) (b := w.heap.size) (g := w.heap.size + 1) (p := 0) (q := 1) (r := 2) (s := 3) (by omega) x y z u).trans (hbA ob)
        exact (cell2_of h).2.1
      have r0 := fun ob => (cells4_of (hrA ob)).1
      have r1 := fun ob => (cells4_of (hrA ob)).2.1
      have r2 := fun ob => (cells4_of (hrA ob)).2.2.1
      have r3 := fun ob => (cells4_of (hrA ob)).2.2.2.1
      have f0 := fun ob => (cells4_of (hrA ob)).2.2.2.2.1
      have f1 := fun ob => (cells4_of (hrA ob)).2.2.2.2.2.1
      have f2 := fun ob => (cells4_of (hrA ob)).2.2.2.2.2.2.1
      have f3 := fun ob => (cells4_of (hrA ob)).2.2.2.2.2.2.2.1
      have b0' : W0.cell? ⟨w.heap.size, 0, none⟩ = some (.int .i64 vk) := (cell2_of hB0).1
      have b1' : W0.cell? ⟨w.heap.size, 1, none⟩ = some (.int .i64 vn) := (cell2_of hB0).2.1
      obtain ⟨r0', r1', r2', r3', f0', f1', f2', f3', _⟩ := cells4_of hR0
      have hltW : w.heap.size + 1 < W0.heap.size := by omega
      have hltV : w.heap.size < W0.heap.size := by omega
      obtain ⟨W1, hW1⟩ : ∃ W1, W1 = (((W0.setCell ⟨w.heap.size + 1, 0, none⟩ (.string oNeg)).setCell ⟨w.heap.size + 1, 1, none⟩ (.int .i64 0)).setCell ⟨w.heap.size + 1, 2, none⟩ (.string ⟨#[]⟩)).setCell ⟨w.heap.size + 1, 3, none⟩ (.slice (some ⟨w.heap.size + 1 + 1, 0, none⟩) 1 1) := ⟨_, rfl⟩
      have h4 := set4_of hR0 (.string oNeg) (.int .i64 0) (.string ⟨#[]⟩) (.slice (some ⟨w.heap.size + 1 + 1, 0, none⟩) 1 1)
      rw [← hW1] at h4
      have hz4 : W1.heap.size = w.heap.size + 1 + 1 := by rw [hW1]; simpa [World.setCell] using hz0
      have hb4 : Below w.heap.size w W1 := by
        rw [hW1]
        exact (((hb0.setCell (p := ⟨w.heap.size + 1, 0, none⟩) (Nat.le_succ _) _).setCell (p := ⟨w.heap.size + 1, 1, none⟩) (Nat.le_succ _) _).setCell (p := ⟨w.heap.size + 1, 2, none⟩) (Nat.le_succ _) _).setCell (p := ⟨w.heap.size + 1, 3, none⟩) (Nat.le_succ _) _
      obtain ⟨k0, k1', k2, k3, _⟩ := cells4_of h4
      have hlt4 : w.heap.size + 1 < W1.heap.size := by omega
      have hnew := heap_alloc_new W1 (.cells #[.string oInt, .int .i64 (-vn), .string ⟨#[]⟩, .slice none 0 0] 45)
      rw [hz4] at hnew
      have HB4 := Lib.hid (show Below w.heap.size w (W1.alloc (.cells #[.string oInt, .int .i64 (-vn), .string ⟨#[]⟩, .slice none 0 0] 45)).drew from (hb4.alloc hb4.size _).drew)
      have HX4 := Lib.hid (show ExV (newU w.heap.size (W1.alloc (.cells #[.string oInt, .int .i64 (-vn), .string ⟨#[]⟩, .slice none 0 0] 45)).drew) (.mk oNeg 0 ⟨#[]⟩ [.mk oInt (-vn) ⟨#[]⟩ []]) (.agg #[.string oNeg, .int .i64 0, .string ⟨#[]⟩, .slice (some ⟨w.heap.size + 1 + 1, 0, none⟩) 1 1]) from by
        refine ⟨_, rfl, .inr ⟨w.heap.size + 1 + 1, 0, 1, rfl, by simp [Ex.l], by unfold maxLen; omega, ?_⟩⟩
        have hk := newU_of (n := w.heap.size) (w := (W1.alloc (.cells #[.string oInt, .int .i64 (-vn), .string ⟨#[]⟩, .slice none 0 0] 45)).drew) (b := w.heap.size + 1 + 1) (by omega) hnew ⟨_, _, rfl⟩
        simp only [Ex.l, ExsAt]
        refine ⟨ExAt.mk (u := .slice none 0 0) ?_ ?_ ?_ ?_ (.inl ⟨rfl, none, 0, rfl⟩), trivial⟩ <;> (unfold Kn.cell; rw [hk]; rfl))
      go_region_law (fail)
      all_goals try simp only [Act.put, List.getElem_toArray, List.getElem_cons_succ, List.getElem_cons_zero, List.setIfInBounds_toArray, List.set_cons_succ, List.set_cons_zero]
      all_goals go_wp2_with fail
      all_goals rw [← hW1]
      all_goals refine bodyPost_ret (v := .tuple #[.agg #[.string oNeg, .int .i64 0, .string ⟨#[]⟩, .slice (some ⟨w.heap.size + 1 + 1, 0, none⟩) 1 1], .bool (decide (-127 ≤ vn))]) (by simp [results, Tryd.results54, go_sem, k0, k1', k2, k3, hlt4]) rfl ?_
      all_goals exact ⟨_, rfl, HX4.out, HB4.out⟩
end Go.Proofs.YthihoafemahgmaaDoor
