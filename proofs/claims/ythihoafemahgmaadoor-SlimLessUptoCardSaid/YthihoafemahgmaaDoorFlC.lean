/- Walks: flow.apply, operator by operator. -/
import Derived.Test.YthihoafemahgmaaDoorFlB
import Derived.Test.YthihoafemahgmaaDoorRg
import Derived.Deep.RegionLaw
import Derived.BigQuiet
namespace Go.Proofs.YthihoafemahgmaaDoor
open Go.RowKit Mx
theorem vl_at {H : Kn} {l : List Vl} {a : Option Addr} {n c : Nat} (h : VlsV H l (.slice a n c)) {i : Nat} (hi : i < l.length) : ∃ b off, a = some ⟨b, off, none⟩ ∧ H.cell b (off + 2 * i) = some (.int .i64 l[i].kind) ∧ H.cell b (off + 2 * i + 1) = some (.int .i64 l[i].n) := by
  obtain ⟨b, off, h1, _, h2, h3⟩ := SlV.at h hi
  refine ⟨b, off, h1, ?_, ?_⟩
  · have e : off + i * 2 + 0 = off + 2 * i := by omega
    rw [← e]; exact h2
  · have e : off + i * 2 + 1 = off + 2 * i + 1 := by omega
    rw [← e]; exact h3
theorem beq_zero (x : Int) : (x == 0) = decide (x = 0) := by by_cases h : x = 0 <;> simp [h]
theorem vl_ne (xk xn yk yn : Int) : decide ((⟨xk, xn⟩ : Vl) ≠ ⟨yk, yn⟩) = !(xk == yk && xn == yn) := by
  by_cases h1 : xk = yk <;> by_cases h2 : xn = yn <;> simp [h1, h2]
theorem vl_eq (xk xn yk yn : Int) : decide ((⟨xk, xn⟩ : Vl) = ⟨yk, yn⟩) = (xk == yk && xn == yn) := by
  by_cases h1 : xk = yk <;> by_cases h2 : xn = yn <;> simp [h1, h2]
theorem butKn_in (R : Nat) (w : World) : (butKn R w).In w.drew := fun x o e => by
  unfold butKn at e
  split at e
  · cases e
  · exact e
theorem beq_one (x : Int) : (x == 1) = decide (x = 1) := by by_cases h : x = 1 <;> simp [h]
theorem wv_wrap64 (n : Int) : wv (RowKit.wrap64 n) = wv n := by unfold wv; rw [around_wrap64]
set_option maxHeartbeats 4000000 in
set_option maxRecDepth 100000 in
theorem ap_lt (x y : Vl) (b off c : Nat) (w : World) (d0 : w.cell? ⟨b, off, none⟩ = some (.int .i64 x.kind)) (d1 : w.cell? ⟨b, off + 1, none⟩ = some (.int .i64 x.n)) (d2 : w.cell? ⟨b, off + 2, none⟩ = some (.int .i64 y.kind)) (d3 : w.cell? ⟨b, off + 3, none⟩ = some (.int .i64 y.n)) :
    Calls Tryd.prog 62 #[.string oLt, .slice (some ⟨b, off, none⟩) 2 c] w fun r w' => r = .returned (.tuple #[vlV (appM oLt [x, y]).1, .bool (appM oLt [x, y]).2]) ∧ Below w.heap.size w w' := by
  obtain ⟨z, hz⟩ : ∃ z : Int, tv (decide (x.n < y.n)) = ⟨1, z⟩ := ⟨_, rfl⟩
  have hres : appM oLt [x, y] = (⟨1, z⟩, false) := (show appM oLt [x, y] = (tv (decide (x.n < y.n)), false) from rfl).trans (by rw [hz])
  rw [hres]
  clear hres
  have hblt : b < w.heap.size := World.block_lt_of_cell? w ⟨b, off, none⟩ d0
  obtain ⟨xk, xn⟩ := x
  obtain ⟨yk, yn⟩ := y
  dsimp only at *
  have hb0 : Below w.heap.size w (w.alloc (.cells #[.int .i64 0, .int .i64 0] 98)) := (Below.refl _ _).alloc (Nat.le_refl _) _
  have hR0 := heap_alloc_new w (.cells #[.int .i64 0, .int .i64 0] 98)
  have c0 : (w.alloc (.cells #[.int .i64 0, .int .i64 0] 98)).cell? ⟨b, off, none⟩ = some (.int .i64 xk) := by rw [hb0.cell (p := ⟨b, off, none⟩) hblt]; exact d0
  have c1 : (w.alloc (.cells #[.int .i64 0, .int .i64 0] 98)).cell? ⟨b, off + 1, none⟩ = some (.int .i64 xn) := by rw [hb0.cell (p := ⟨b, off + 1, none⟩) hblt]; exact d1
  have c2 : (w.alloc (.cells #[.int .i64 0, .int .i64 0] 98)).cell? ⟨b, off + 2, none⟩ = some (.int .i64 yk) := by rw [hb0.cell (p := ⟨b, off + 2, none⟩) hblt]; exact d2
  have c3 : (w.alloc (.cells #[.int .i64 0, .int .i64 0] 98)).cell? ⟨b, off + 3, none⟩ = some (.int .i64 yn) := by rw [hb0.cell (p := ⟨b, off + 3, none⟩) hblt]; exact d3
  have hs1 : w.heap.size < (w.alloc (.cells #[.int .i64 0, .int .i64 0] 98)).heap.size := by simp
  clear d0 d1 d2 d3
  go_enter Tryd.func62, Tryd.ntmps62
  go_wp2_with fail
  go_quiet (fail)
  go_wp2_with fail
  refine (tests_any _).mono ?_
  rintro r w1 ⟨bm1, rfl, hM1, hx1⟩
  have hc1 : Below (w.alloc (.cells #[.int .i64 0, .int .i64 0] 98)).heap.size (w.alloc (.cells #[.int .i64 0, .int .i64 0] 98)) w1 := (below_drewN (Below.refl _ _) _).trans hx1
  have hl1 := hM1.run (P := Tryd.prog) Tryd.underlying121 Tryd.underlying9 (d := .nilFunc) (by kernel_rfl) oLt true
  rw [show testsEnv oLt = some (fnV 75) from rfl] at hl1
  simp only [if_true, Option.getD_some, Option.isSome_some] at hl1
  clear hx1 hM1
  go_wp2_with fail
  refine (fn_lt xn yn _).mono ?_
  rintro r w2 ⟨rfl, rfl⟩
  go_wp2_with fail
  have hcall := truth_any (decide (xn < yn)) w1
  rw [hz] at hcall
  refine hcall.mono ?_
  rintro r w3 ⟨rfl, hx3⟩
  have hc3 := hc1.trans (hx3.mono hc1.size)
  clear hcall hx3
  have hRz := (hc3.block w.heap.size hs1).trans hR0
  obtain ⟨q0, q1, f0, f1, hlw⟩ := cell2_of hRz
  obtain ⟨e0, e1, e2, e3⟩ := put2_of hRz (.int .i64 1) (.int .i64 z)
  have E0 := Lib.hid e0
  have E1 := Lib.hid e1
  have HBz := Lib.hid (hb0.trans (hc3.mono (Nat.le_of_lt hs1)))
  clear e0 e1 e2 e3 hRz
  go_wp2_with fail
  have e0 := E0.out
  have e1 := E1.out
  refine bodyPost_ret (v := .tuple #[vlV ⟨1, z⟩, .bool false]) (by simp [results, Tryd.results62, go_sem, e0, e1]) rfl ?_
  exact ⟨rfl, below_put2 HBz.out (Nat.le_refl _) _ _⟩
set_option maxHeartbeats 4000000 in
set_option maxRecDepth 100000 in
theorem ap_le (x y : Vl) (b off c : Nat) (w : World) (d0 : w.cell? ⟨b, off, none⟩ = some (.int .i64 x.kind)) (d1 : w.cell? ⟨b, off + 1, none⟩ = some (.int .i64 x.n)) (d2 : w.cell? ⟨b, off + 2, none⟩ = some (.int .i64 y.kind)) (d3 : w.cell? ⟨b, off + 3, none⟩ = some (.int .i64 y.n)) :
    Calls Tryd.prog 62 #[.string oLe, .slice (some ⟨b, off, none⟩) 2 c] w fun r w' => r = .returned (.tuple #[vlV (appM oLe [x, y]).1, .bool (appM oLe [x, y]).2]) ∧ Below w.heap.size w w' := by
  obtain ⟨z, hz⟩ : ∃ z : Int, tv (decide (x.n ≤ y.n)) = ⟨1, z⟩ := ⟨_, rfl⟩
  have hres : appM oLe [x, y] = (⟨1, z⟩, false) := (show appM oLe [x, y] = (tv (decide (x.n ≤ y.n)), false) from rfl).trans (by rw [hz])
  rw [hres]
  clear hres
  have hblt : b < w.heap.size := World.block_lt_of_cell? w ⟨b, off, none⟩ d0
  obtain ⟨xk, xn⟩ := x
  obtain ⟨yk, yn⟩ := y
  dsimp only at *
  have hb0 : Below w.heap.size w (w.alloc (.cells #[.int .i64 0, .int .i64 0] 98)) := (Below.refl _ _).alloc (Nat.le_refl _) _
  have hR0 := heap_alloc_new w (.cells #[.int .i64 0, .int .i64 0] 98)
  have c0 : (w.alloc (.cells #[.int .i64 0, .int .i64 0] 98)).cell? ⟨b, off, none⟩ = some (.int .i64 xk) := by rw [hb0.cell (p := ⟨b, off, none⟩) hblt]; exact d0
  have c1 : (w.alloc (.cells #[.int .i64 0, .int .i64 0] 98)).cell? ⟨b, off + 1, none⟩ = some (.int .i64 xn) := by rw [hb0.cell (p := ⟨b, off + 1, none⟩) hblt]; exact d1
  have c2 : (w.alloc (.cells #[.int .i64 0, .int .i64 0] 98)).cell? ⟨b, off + 2, none⟩ = some (.int .i64 yk) := by rw [hb0.cell (p := ⟨b, off + 2, none⟩) hblt]; exact d2
  have c3 : (w.alloc (.cells #[.int .i64 0, .int .i64 0] 98)).cell? ⟨b, off + 3, none⟩ = some (.int .i64 yn) := by rw [hb0.cell (p := ⟨b, off + 3, none⟩) hblt]; exact d3
  have hs1 : w.heap.size < (w.alloc (.cells #[.int .i64 0, .int .i64 0] 98)).heap.size := by simp
  clear d0 d1 d2 d3
  go_enter Tryd.func62, Tryd.ntmps62
  go_wp2_with fail
  go_quiet (fail)
  go_wp2_with fail
  refine (tests_any _).mono ?_
  rintro r w1 ⟨bm1, rfl, hM1, hx1⟩
  have hc1 : Below (w.alloc (.cells #[.int .i64 0, .int .i64 0] 98)).heap.size (w.alloc (.cells #[.int .i64 0, .int .i64 0] 98)) w1 := (below_drewN (Below.refl _ _) _).trans hx1
  have hl1 := hM1.run (P := Tryd.prog) Tryd.underlying121 Tryd.underlying9 (d := .nilFunc) (by kernel_rfl) oLe true
  rw [show testsEnv oLe = some (fnV 76) from rfl] at hl1
  simp only [if_true, Option.getD_some, Option.isSome_some] at hl1
  clear hx1 hM1
  go_wp2_with fail
  refine (fn_le xn yn _).mono ?_
  rintro r w2 ⟨rfl, rfl⟩
  go_wp2_with fail
  have hcall := truth_any (decide (xn ≤ yn)) w1
  rw [hz] at hcall
  refine hcall.mono ?_
  rintro r w3 ⟨rfl, hx3⟩
  have hc3 := hc1.trans (hx3.mono hc1.size)
  clear hcall hx3
  have hRz := (hc3.block w.heap.size hs1).trans hR0
  obtain ⟨q0, q1, f0, f1, hlw⟩ := cell2_of hRz
  obtain ⟨e0, e1, e2, e3⟩ := put2_of hRz (.int .i64 1) (.int .i64 z)
  have E0 := Lib.hid e0
  have E1 := Lib.hid e1
  have HBz := Lib.hid (hb0.trans (hc3.mono (Nat.le_of_lt hs1)))
  clear e0 e1 e2 e3 hRz
  go_wp2_with fail
  have e0 := E0.out
  have e1 := E1.out
  refine bodyPost_ret (v := .tuple #[vlV ⟨1, z⟩, .bool false]) (by simp [results, Tryd.results62, go_sem, e0, e1]) rfl ?_
  exact ⟨rfl, below_put2 HBz.out (Nat.le_refl _) _ _⟩
set_option maxHeartbeats 4000000 in
set_option maxRecDepth 100000 in
theorem ap_gt (x y : Vl) (b off c : Nat) (w : World) (d0 : w.cell? ⟨b, off, none⟩ = some (.int .i64 x.kind)) (d1 : w.cell? ⟨b, off + 1, none⟩ = some (.int .i64 x.n)) (d2 : w.cell? ⟨b, off + 2, none⟩ = some (.int .i64 y.kind)) (d3 : w.cell? ⟨b, off + 3, none⟩ = some (.int .i64 y.n)) :
    Calls Tryd.prog 62 #[.string oGt, .slice (some ⟨b, off, none⟩) 2 c] w fun r w' => r = .returned (.tuple #[vlV (appM oGt [x, y]).1, .bool (appM oGt [x, y]).2]) ∧ Below w.heap.size w w' := by
  obtain ⟨z, hz⟩ : ∃ z : Int, tv (decide (y.n < x.n)) = ⟨1, z⟩ := ⟨_, rfl⟩
  have hres : appM oGt [x, y] = (⟨1, z⟩, false) := (show appM oGt [x, y] = (tv (decide (y.n < x.n)), false) from rfl).trans (by rw [hz])
  rw [hres]
  clear hres
  have hblt : b < w.heap.size := World.block_lt_of_cell? w ⟨b, off, none⟩ d0
  obtain ⟨xk, xn⟩ := x
  obtain ⟨yk, yn⟩ := y
  dsimp only at *
  have hb0 : Below w.heap.size w (w.alloc (.cells #[.int .i64 0, .int .i64 0] 98)) := (Below.refl _ _).alloc (Nat.le_refl _) _
  have hR0 := heap_alloc_new w (.cells #[.int .i64 0, .int .i64 0] 98)
  have c0 : (w.alloc (.cells #[.int .i64 0, .int .i64 0] 98)).cell? ⟨b, off, none⟩ = some (.int .i64 xk) := by rw [hb0.cell (p := ⟨b, off, none⟩) hblt]; exact d0
  have c1 : (w.alloc (.cells #[.int .i64 0, .int .i64 0] 98)).cell? ⟨b, off + 1, none⟩ = some (.int .i64 xn) := by rw [hb0.cell (p := ⟨b, off + 1, none⟩) hblt]; exact d1
  have c2 : (w.alloc (.cells #[.int .i64 0, .int .i64 0] 98)).cell? ⟨b, off + 2, none⟩ = some (.int .i64 yk) := by rw [hb0.cell (p := ⟨b, off + 2, none⟩) hblt]; exact d2
  have c3 : (w.alloc (.cells #[.int .i64 0, .int .i64 0] 98)).cell? ⟨b, off + 3, none⟩ = some (.int .i64 yn) := by rw [hb0.cell (p := ⟨b, off + 3, none⟩) hblt]; exact d3
  have hs1 : w.heap.size < (w.alloc (.cells #[.int .i64 0, .int .i64 0] 98)).heap.size := by simp
  clear d0 d1 d2 d3
  go_enter Tryd.func62, Tryd.ntmps62
  go_wp2_with fail
  go_quiet (fail)
  go_wp2_with fail
  refine (tests_any _).mono ?_
  rintro r w1 ⟨bm1, rfl, hM1, hx1⟩
  have hc1 : Below (w.alloc (.cells #[.int .i64 0, .int .i64 0] 98)).heap.size (w.alloc (.cells #[.int .i64 0, .int .i64 0] 98)) w1 := (below_drewN (Below.refl _ _) _).trans hx1
  have hl1 := hM1.run (P := Tryd.prog) Tryd.underlying121 Tryd.underlying9 (d := .nilFunc) (by kernel_rfl) oGt true
  rw [show testsEnv oGt = some (fnV 77) from rfl] at hl1
  simp only [if_true, Option.getD_some, Option.isSome_some] at hl1
  clear hx1 hM1
  go_wp2_with fail
  refine (fn_gt xn yn _).mono ?_
  rintro r w2 ⟨rfl, rfl⟩
  go_wp2_with fail
  have hcall := truth_any (decide (yn < xn)) w1
  rw [hz] at hcall
  refine hcall.mono ?_
  rintro r w3 ⟨rfl, hx3⟩
  have hc3 := hc1.trans (hx3.mono hc1.size)
  clear hcall hx3
  have hRz := (hc3.block w.heap.size hs1).trans hR0
  obtain ⟨q0, q1, f0, f1, hlw⟩ := cell2_of hRz
  obtain ⟨e0, e1, e2, e3⟩ := put2_of hRz (.int .i64 1) (.int .i64 z)
  have E0 := Lib.hid e0
  have E1 := Lib.hid e1
  have HBz := Lib.hid (hb0.trans (hc3.mono (Nat.le_of_lt hs1)))
  clear e0 e1 e2 e3 hRz
  go_wp2_with fail
  have e0 := E0.out
  have e1 := E1.out
  refine bodyPost_ret (v := .tuple #[vlV ⟨1, z⟩, .bool false]) (by simp [results, Tryd.results62, go_sem, e0, e1]) rfl ?_
  exact ⟨rfl, below_put2 HBz.out (Nat.le_refl _) _ _⟩
set_option maxHeartbeats 4000000 in
set_option maxRecDepth 100000 in
theorem ap_ge (x y : Vl) (b off c : Nat) (w : World) (d0 : w.cell? ⟨b, off, none⟩ = some (.int .i64 x.kind)) (d1 : w.cell? ⟨b, off + 1, none⟩ = some (.int .i64 x.n)) (d2 : w.cell? ⟨b, off + 2, none⟩ = some (.int .i64 y.kind)) (d3 : w.cell? ⟨b, off + 3, none⟩ = some (.int .i64 y.n)) :
    Calls Tryd.prog 62 #[.string oGe, .slice (some ⟨b, off, none⟩) 2 c] w fun r w' => r = .returned (.tuple #[vlV (appM oGe [x, y]).1, .bool (appM oGe [x, y]).2]) ∧ Below w.heap.size w w' := by
  obtain ⟨z, hz⟩ : ∃ z : Int, tv (decide (y.n ≤ x.n)) = ⟨1, z⟩ := ⟨_, rfl⟩
  have hres : appM oGe [x, y] = (⟨1, z⟩, false) := (show appM oGe [x, y] = (tv (decide (y.n ≤ x.n)), false) from rfl).trans (by rw [hz])
  rw [hres]
  clear hres
  have hblt : b < w.heap.size := World.block_lt_of_cell? w ⟨b, off, none⟩ d0
  obtain ⟨xk, xn⟩ := x
  obtain ⟨yk, yn⟩ := y
  dsimp only at *
  have hb0 : Below w.heap.size w (w.alloc (.cells #[.int .i64 0, .int .i64 0] 98)) := (Below.refl _ _).alloc (Nat.le_refl _) _
  have hR0 := heap_alloc_new w (.cells #[.int .i64 0, .int .i64 0] 98)
  have c0 : (w.alloc (.cells #[.int .i64 0, .int .i64 0] 98)).cell? ⟨b, off, none⟩ = some (.int .i64 xk) := by rw [hb0.cell (p := ⟨b, off, none⟩) hblt]; exact d0
  have c1 : (w.alloc (.cells #[.int .i64 0, .int .i64 0] 98)).cell? ⟨b, off + 1, none⟩ = some (.int .i64 xn) := by rw [hb0.cell (p := ⟨b, off + 1, none⟩) hblt]; exact d1
  have c2 : (w.alloc (.cells #[.int .i64 0, .int .i64 0] 98)).cell? ⟨b, off + 2, none⟩ = some (.int .i64 yk) := by rw [hb0.cell (p := ⟨b, off + 2, none⟩) hblt]; exact d2
  have c3 : (w.alloc (.cells #[.int .i64 0, .int .i64 0] 98)).cell? ⟨b, off + 3, none⟩ = some (.int .i64 yn) := by rw [hb0.cell (p := ⟨b, off + 3, none⟩) hblt]; exact d3
  have hs1 : w.heap.size < (w.alloc (.cells #[.int .i64 0, .int .i64 0] 98)).heap.size := by simp
  clear d0 d1 d2 d3
  go_enter Tryd.func62, Tryd.ntmps62
  go_wp2_with fail
  go_quiet (fail)
  go_wp2_with fail
  refine (tests_any _).mono ?_
  rintro r w1 ⟨bm1, rfl, hM1, hx1⟩
  have hc1 : Below (w.alloc (.cells #[.int .i64 0, .int .i64 0] 98)).heap.size (w.alloc (.cells #[.int .i64 0, .int .i64 0] 98)) w1 := (below_drewN (Below.refl _ _) _).trans hx1
  have hl1 := hM1.run (P := Tryd.prog) Tryd.underlying121 Tryd.underlying9 (d := .nilFunc) (by kernel_rfl) oGe true
  rw [show testsEnv oGe = some (fnV 78) from rfl] at hl1
  simp only [if_true, Option.getD_some, Option.isSome_some] at hl1
  clear hx1 hM1
  go_wp2_with fail
  refine (fn_ge xn yn _).mono ?_
  rintro r w2 ⟨rfl, rfl⟩
  go_wp2_with fail
  have hcall := truth_any (decide (yn ≤ xn)) w1
  rw [hz] at hcall
  refine hcall.mono ?_
  rintro r w3 ⟨rfl, hx3⟩
  have hc3 := hc1.trans (hx3.mono hc1.size)
  clear hcall hx3
  have hRz := (hc3.block w.heap.size hs1).trans hR0
  obtain ⟨q0, q1, f0, f1, hlw⟩ := cell2_of hRz
  obtain ⟨e0, e1, e2, e3⟩ := put2_of hRz (.int .i64 1) (.int .i64 z)
  have E0 := Lib.hid e0
  have E1 := Lib.hid e1
  have HBz := Lib.hid (hb0.trans (hc3.mono (Nat.le_of_lt hs1)))
  clear e0 e1 e2 e3 hRz
  go_wp2_with fail
  have e0 := E0.out
  have e1 := E1.out
  refine bodyPost_ret (v := .tuple #[vlV ⟨1, z⟩, .bool false]) (by simp [results, Tryd.results62, go_sem, e0, e1]) rfl ?_
  exact ⟨rfl, below_put2 HBz.out (Nat.le_refl _) _ _⟩
set_option maxHeartbeats 4000000 in
set_option maxRecDepth 100000 in
theorem ap_and (x y : Vl) (b off c : Nat) (w : World) (d0 : w.cell? ⟨b, off, none⟩ = some (.int .i64 x.kind)) (d1 : w.cell? ⟨b, off + 1, none⟩ = some (.int .i64 x.n)) (d2 : w.cell? ⟨b, off + 2, none⟩ = some (.int .i64 y.kind)) (d3 : w.cell? ⟨b, off + 3, none⟩ = some (.int .i64 y.n)) :
    Calls Tryd.prog 62 #[.string oAnd, .slice (some ⟨b, off, none⟩) 2 c] w fun r w' => r = .returned (.tuple #[vlV (appM oAnd [x, y]).1, .bool (appM oAnd [x, y]).2]) ∧ Below w.heap.size w w' := by
  obtain ⟨z, hz⟩ : ∃ z : Int, tv (decide (x.n = 1) && decide (y.n = 1)) = ⟨1, z⟩ := ⟨_, rfl⟩
  have hres : appM oAnd [x, y] = (⟨1, z⟩, false) := (show appM oAnd [x, y] = (tv (decide (x.n = 1) && decide (y.n = 1)), false) from rfl).trans (by rw [hz])
  rw [hres]
  clear hres
  have hblt : b < w.heap.size := World.block_lt_of_cell? w ⟨b, off, none⟩ d0
  obtain ⟨xk, xn⟩ := x
  obtain ⟨yk, yn⟩ := y
  dsimp only at *
  have hb0 : Below w.heap.size w (w.alloc (.cells #[.int .i64 0, .int .i64 0] 98)) := (Below.refl _ _).alloc (Nat.le_refl _) _
  have hR0 := heap_alloc_new w (.cells #[.int .i64 0, .int .i64 0] 98)
  have c0 : (w.alloc (.cells #[.int .i64 0, .int .i64 0] 98)).cell? ⟨b, off, none⟩ = some (.int .i64 xk) := by rw [hb0.cell (p := ⟨b, off, none⟩) hblt]; exact d0
  have c1 : (w.alloc (.cells #[.int .i64 0, .int .i64 0] 98)).cell? ⟨b, off + 1, none⟩ = some (.int .i64 xn) := by rw [hb0.cell (p := ⟨b, off + 1, none⟩) hblt]; exact d1
  have c2 : (w.alloc (.cells #[.int .i64 0, .int .i64 0] 98)).cell? ⟨b, off + 2, none⟩ = some (.int .i64 yk) := by rw [hb0.cell (p := ⟨b, off + 2, none⟩) hblt]; exact d2
  have c3 : (w.alloc (.cells #[.int .i64 0, .int .i64 0] 98)).cell? ⟨b, off + 3, none⟩ = some (.int .i64 yn) := by rw [hb0.cell (p := ⟨b, off + 3, none⟩) hblt]; exact d3
  have hs1 : w.heap.size < (w.alloc (.cells #[.int .i64 0, .int .i64 0] 98)).heap.size := by simp
  clear d0 d1 d2 d3
  go_enter Tryd.func62, Tryd.ntmps62
  go_wp2_with fail
  go_quiet (fail)
  go_wp2_with fail
  refine (tests_any _).mono ?_
  rintro r w1 ⟨bm1, rfl, hM1, hx1⟩
  have hc1 : Below (w.alloc (.cells #[.int .i64 0, .int .i64 0] 98)).heap.size (w.alloc (.cells #[.int .i64 0, .int .i64 0] 98)) w1 := (below_drewN (Below.refl _ _) _).trans hx1
  have hl1 := hM1.run (P := Tryd.prog) Tryd.underlying121 Tryd.underlying9 (d := .nilFunc) (by kernel_rfl) oAnd true
  rw [show testsEnv oAnd = none from rfl] at hl1
  simp only [if_true, Option.getD_none, Option.isSome_none] at hl1
  clear hx1 hM1
  go_wp2_with fail
  refine (bools_any _).mono ?_
  rintro r w2 ⟨bm2, rfl, hM2, hx2⟩
  have hc2 := hc1.trans (hx2.mono hc1.size)
  have hl2 := hM2.run (P := Tryd.prog) Tryd.underlying125 Tryd.underlying9 (d := .nilFunc) (by kernel_rfl) oAnd true
  rw [show boolsEnv oAnd = some (fnV 79) from rfl] at hl2
  simp only [if_true, Option.getD_some, Option.isSome_some] at hl2
  clear hx2 hM2
  go_wp2_with fail
  have hcl := fn_and (decide (xn = 1)) (decide (yn = 1)) w2
  rw [← beq_one xn, ← beq_one yn] at hcl
  refine hcl.mono ?_
  rintro r w3 ⟨rfl, rfl⟩
  rw [beq_one, beq_one]
  go_wp2_with fail
  have hcall := truth_any (decide (xn = 1) && decide (yn = 1)) w2
  rw [hz] at hcall
  refine hcall.mono ?_
  rintro r w4 ⟨rfl, hx4⟩
  have hc4 := hc2.trans (hx4.mono hc2.size)
  clear hcall hx4
  have hRz := (hc4.block w.heap.size hs1).trans hR0
  obtain ⟨q0, q1, f0, f1, hlw⟩ := cell2_of hRz
  obtain ⟨e0, e1, e2, e3⟩ := put2_of hRz (.int .i64 1) (.int .i64 z)
  have E0 := Lib.hid e0
  have E1 := Lib.hid e1
  have HBz := Lib.hid (hb0.trans (hc4.mono (Nat.le_of_lt hs1)))
  clear e0 e1 e2 e3 hRz
  go_wp2_with fail
  have e0 := E0.out
  have e1 := E1.out
  refine bodyPost_ret (v := .tuple #[vlV ⟨1, z⟩, .bool false]) (by simp [results, Tryd.results62, go_sem, e0, e1]) rfl ?_
  exact ⟨rfl, below_put2 HBz.out (Nat.le_refl _) _ _⟩
set_option maxHeartbeats 4000000 in
set_option maxRecDepth 100000 in
theorem ap_or (x y : Vl) (b off c : Nat) (w : World) (d0 : w.cell? ⟨b, off, none⟩ = some (.int .i64 x.kind)) (d1 : w.cell? ⟨b, off + 1, none⟩ = some (.int .i64 x.n)) (d2 : w.cell? ⟨b, off + 2, none⟩ = some (.int .i64 y.kind)) (d3 : w.cell? ⟨b, off + 3, none⟩ = some (.int .i64 y.n)) :
    Calls Tryd.prog 62 #[.string oOr, .slice (some ⟨b, off, none⟩) 2 c] w fun r w' => r = .returned (.tuple #[vlV (appM oOr [x, y]).1, .bool (appM oOr [x, y]).2]) ∧ Below w.heap.size w w' := by
  obtain ⟨z, hz⟩ : ∃ z : Int, tv (decide (x.n = 1) || decide (y.n = 1)) = ⟨1, z⟩ := ⟨_, rfl⟩
  have hres : appM oOr [x, y] = (⟨1, z⟩, false) := (show appM oOr [x, y] = (tv (decide (x.n = 1) || decide (y.n = 1)), false) from rfl).trans (by rw [hz])
  rw [hres]
  clear hres
  have hblt : b < w.heap.size := World.block_lt_of_cell? w ⟨b, off, none⟩ d0
  obtain ⟨xk, xn⟩ := x
  obtain ⟨yk, yn⟩ := y
  dsimp only at *
  have hb0 : Below w.heap.size w (w.alloc (.cells #[.int .i64 0, .int .i64 0] 98)) := (Below.refl _ _).alloc (Nat.le_refl _) _
  have hR0 := heap_alloc_new w (.cells #[.int .i64 0, .int .i64 0] 98)
  have c0 : (w.alloc (.cells #[.int .i64 0, .int .i64 0] 98)).cell? ⟨b, off, none⟩ = some (.int .i64 xk) := by rw [hb0.cell (p := ⟨b, off, none⟩) hblt]; exact d0
  have c1 : (w.alloc (.cells #[.int .i64 0, .int .i64 0] 98)).cell? ⟨b, off + 1, none⟩ = some (.int .i64 xn) := by rw [hb0.cell (p := ⟨b, off + 1, none⟩) hblt]; exact d1
  have c2 : (w.alloc (.cells #[.int .i64 0, .int .i64 0] 98)).cell? ⟨b, off + 2, none⟩ = some (.int .i64 yk) := by rw [hb0.cell (p := ⟨b, off + 2, none⟩) hblt]; exact d2
  have c3 : (w.alloc (.cells #[.int .i64 0, .int .i64 0] 98)).cell? ⟨b, off + 3, none⟩ = some (.int .i64 yn) := by rw [hb0.cell (p := ⟨b, off + 3, none⟩) hblt]; exact d3
  have hs1 : w.heap.size < (w.alloc (.cells #[.int .i64 0, .int .i64 0] 98)).heap.size := by simp
  clear d0 d1 d2 d3
  go_enter Tryd.func62, Tryd.ntmps62
  go_wp2_with fail
  go_quiet (fail)
  go_wp2_with fail
  refine (tests_any _).mono ?_
  rintro r w1 ⟨bm1, rfl, hM1, hx1⟩
  have hc1 : Below (w.alloc (.cells #[.int .i64 0, .int .i64 0] 98)).heap.size (w.alloc (.cells #[.int .i64 0, .int .i64 0] 98)) w1 := (below_drewN (Below.refl _ _) _).trans hx1
  have hl1 := hM1.run (P := Tryd.prog) Tryd.underlying121 Tryd.underlying9 (d := .nilFunc) (by kernel_rfl) oOr true
  rw [show testsEnv oOr = none from rfl] at hl1
  simp only [if_true, Option.getD_none, Option.isSome_none] at hl1
  clear hx1 hM1
  go_wp2_with fail
  refine (bools_any _).mono ?_
  rintro r w2 ⟨bm2, rfl, hM2, hx2⟩
  have hc2 := hc1.trans (hx2.mono hc1.size)
  have hl2 := hM2.run (P := Tryd.prog) Tryd.underlying125 Tryd.underlying9 (d := .nilFunc) (by kernel_rfl) oOr true
  rw [show boolsEnv oOr = some (fnV 80) from rfl] at hl2
  simp only [if_true, Option.getD_some, Option.isSome_some] at hl2
  clear hx2 hM2
  go_wp2_with fail
  have hcl := fn_or (decide (xn = 1)) (decide (yn = 1)) w2
  rw [← beq_one xn, ← beq_one yn] at hcl
  refine hcl.mono ?_
  rintro r w3 ⟨rfl, rfl⟩
  rw [beq_one, beq_one]
  go_wp2_with fail
  have hcall := truth_any (decide (xn = 1) || decide (yn = 1)) w2
  rw [hz] at hcall
  refine hcall.mono ?_
  rintro r w4 ⟨rfl, hx4⟩
  have hc4 := hc2.trans (hx4.mono hc2.size)
  clear hcall hx4
  have hRz := (hc4.block w.heap.size hs1).trans hR0
  obtain ⟨q0, q1, f0, f1, hlw⟩ := cell2_of hRz
  obtain ⟨e0, e1, e2, e3⟩ := put2_of hRz (.int .i64 1) (.int .i64 z)
  have E0 := Lib.hid e0
  have E1 := Lib.hid e1
  have HBz := Lib.hid (hb0.trans (hc4.mono (Nat.le_of_lt hs1)))
  clear e0 e1 e2 e3 hRz
  go_wp2_with fail
  have e0 := E0.out
  have e1 := E1.out
  refine bodyPost_ret (v := .tuple #[vlV ⟨1, z⟩, .bool false]) (by simp [results, Tryd.results62, go_sem, e0, e1]) rfl ?_
  exact ⟨rfl, below_put2 HBz.out (Nat.le_refl _) _ _⟩
set_option maxHeartbeats 4000000 in
set_option maxRecDepth 100000 in
theorem ap_xor (x y : Vl) (b off c : Nat) (w : World) (d0 : w.cell? ⟨b, off, none⟩ = some (.int .i64 x.kind)) (d1 : w.cell? ⟨b, off + 1, none⟩ = some (.int .i64 x.n)) (d2 : w.cell? ⟨b, off + 2, none⟩ = some (.int .i64 y.kind)) (d3 : w.cell? ⟨b, off + 3, none⟩ = some (.int .i64 y.n)) :
    Calls Tryd.prog 62 #[.string oXor, .slice (some ⟨b, off, none⟩) 2 c] w fun r w' => r = .returned (.tuple #[vlV (appM oXor [x, y]).1, .bool (appM oXor [x, y]).2]) ∧ Below w.heap.size w w' := by
  obtain ⟨z, hz⟩ : ∃ z : Int, tv (decide (x.n = 1) != decide (y.n = 1)) = ⟨1, z⟩ := ⟨_, rfl⟩
  have hres : appM oXor [x, y] = (⟨1, z⟩, false) := (show appM oXor [x, y] = (tv (decide (x.n = 1) != decide (y.n = 1)), false) from rfl).trans (by rw [hz])
  rw [hres]
  clear hres
  have hblt : b < w.heap.size := World.block_lt_of_cell? w ⟨b, off, none⟩ d0
  obtain ⟨xk, xn⟩ := x
  obtain ⟨yk, yn⟩ := y
  dsimp only at *
  have hb0 : Below w.heap.size w (w.alloc (.cells #[.int .i64 0, .int .i64 0] 98)) := (Below.refl _ _).alloc (Nat.le_refl _) _
  have hR0 := heap_alloc_new w (.cells #[.int .i64 0, .int .i64 0] 98)
  have c0 : (w.alloc (.cells #[.int .i64 0, .int .i64 0] 98)).cell? ⟨b, off, none⟩ = some (.int .i64 xk) := by rw [hb0.cell (p := ⟨b, off, none⟩) hblt]; exact d0
  have c1 : (w.alloc (.cells #[.int .i64 0, .int .i64 0] 98)).cell? ⟨b, off + 1, none⟩ = some (.int .i64 xn) := by rw [hb0.cell (p := ⟨b, off + 1, none⟩) hblt]; exact d1
  have c2 : (w.alloc (.cells #[.int .i64 0, .int .i64 0] 98)).cell? ⟨b, off + 2, none⟩ = some (.int .i64 yk) := by rw [hb0.cell (p := ⟨b, off + 2, none⟩) hblt]; exact d2
  have c3 : (w.alloc (.cells #[.int .i64 0, .int .i64 0] 98)).cell? ⟨b, off + 3, none⟩ = some (.int .i64 yn) := by rw [hb0.cell (p := ⟨b, off + 3, none⟩) hblt]; exact d3
  have hs1 : w.heap.size < (w.alloc (.cells #[.int .i64 0, .int .i64 0] 98)).heap.size := by simp
  clear d0 d1 d2 d3
  go_enter Tryd.func62, Tryd.ntmps62
  go_wp2_with fail
  go_quiet (fail)
  go_wp2_with fail
  refine (tests_any _).mono ?_
  rintro r w1 ⟨bm1, rfl, hM1, hx1⟩
  have hc1 : Below (w.alloc (.cells #[.int .i64 0, .int .i64 0] 98)).heap.size (w.alloc (.cells #[.int .i64 0, .int .i64 0] 98)) w1 := (below_drewN (Below.refl _ _) _).trans hx1
  have hl1 := hM1.run (P := Tryd.prog) Tryd.underlying121 Tryd.underlying9 (d := .nilFunc) (by kernel_rfl) oXor true
  rw [show testsEnv oXor = none from rfl] at hl1
  simp only [if_true, Option.getD_none, Option.isSome_none] at hl1
  clear hx1 hM1
  go_wp2_with fail
  refine (bools_any _).mono ?_
  rintro r w2 ⟨bm2, rfl, hM2, hx2⟩
  have hc2 := hc1.trans (hx2.mono hc1.size)
  have hl2 := hM2.run (P := Tryd.prog) Tryd.underlying125 Tryd.underlying9 (d := .nilFunc) (by kernel_rfl) oXor true
  rw [show boolsEnv oXor = some (fnV 81) from rfl] at hl2
  simp only [if_true, Option.getD_some, Option.isSome_some] at hl2
  clear hx2 hM2
  go_wp2_with fail
  have hcl := fn_xor (decide (xn = 1)) (decide (yn = 1)) w2
  rw [← beq_one xn, ← beq_one yn] at hcl
  refine hcl.mono ?_
  rintro r w3 ⟨rfl, rfl⟩
  rw [beq_one, beq_one]
  go_wp2_with fail
  have hcall := truth_any (decide (xn = 1) != decide (yn = 1)) w2
  rw [hz] at hcall
  refine hcall.mono ?_
  rintro r w4 ⟨rfl, hx4⟩
  have hc4 := hc2.trans (hx4.mono hc2.size)
  clear hcall hx4
  have hRz := (hc4.block w.heap.size hs1).trans hR0
  obtain ⟨q0, q1, f0, f1, hlw⟩ := cell2_of hRz
  obtain ⟨e0, e1, e2, e3⟩ := put2_of hRz (.int .i64 1) (.int .i64 z)
  have E0 := Lib.hid e0
  have E1 := Lib.hid e1
  have HBz := Lib.hid (hb0.trans (hc4.mono (Nat.le_of_lt hs1)))
  clear e0 e1 e2 e3 hRz
  go_wp2_with fail
  have e0 := E0.out
  have e1 := E1.out
  refine bodyPost_ret (v := .tuple #[vlV ⟨1, z⟩, .bool false]) (by simp [results, Tryd.results62, go_sem, e0, e1]) rfl ?_
  exact ⟨rfl, below_put2 HBz.out (Nat.le_refl _) _ _⟩
set_option maxHeartbeats 4000000 in
set_option maxRecDepth 100000 in
theorem ap_imp (x y : Vl) (b off c : Nat) (w : World) (d0 : w.cell? ⟨b, off, none⟩ = some (.int .i64 x.kind)) (d1 : w.cell? ⟨b, off + 1, none⟩ = some (.int .i64 x.n)) (d2 : w.cell? ⟨b, off + 2, none⟩ = some (.int .i64 y.kind)) (d3 : w.cell? ⟨b, off + 3, none⟩ = some (.int .i64 y.n)) :
    Calls Tryd.prog 62 #[.string oImp, .slice (some ⟨b, off, none⟩) 2 c] w fun r w' => r = .returned (.tuple #[vlV (appM oImp [x, y]).1, .bool (appM oImp [x, y]).2]) ∧ Below w.heap.size w w' := by
  obtain ⟨z, hz⟩ : ∃ z : Int, tv (!decide (x.n = 1) || decide (y.n = 1)) = ⟨1, z⟩ := ⟨_, rfl⟩
  have hres : appM oImp [x, y] = (⟨1, z⟩, false) := (show appM oImp [x, y] = (tv (!decide (x.n = 1) || decide (y.n = 1)), false) from rfl).trans (by rw [hz])
  rw [hres]
  clear hres
  have hblt : b < w.heap.size := World.block_lt_of_cell? w ⟨b, off, none⟩ d0
  obtain ⟨xk, xn⟩ := x
  obtain ⟨yk, yn⟩ := y
  dsimp only at *
  have hb0 : Below w.heap.size w (w.alloc (.cells #[.int .i64 0, .int .i64 0] 98)) := (Below.refl _ _).alloc (Nat.le_refl _) _
  have hR0 := heap_alloc_new w (.cells #[.int .i64 0, .int .i64 0] 98)
  have c0 : (w.alloc (.cells #[.int .i64 0, .int .i64 0] 98)).cell? ⟨b, off, none⟩ = some (.int .i64 xk) := by rw [hb0.cell (p := ⟨b, off, none⟩) hblt]; exact d0
  have c1 : (w.alloc (.cells #[.int .i64 0, .int .i64 0] 98)).cell? ⟨b, off + 1, none⟩ = some (.int .i64 xn) := by rw [hb0.cell (p := ⟨b, off + 1, none⟩) hblt]; exact d1
  have c2 : (w.alloc (.cells #[.int .i64 0, .int .i64 0] 98)).cell? ⟨b, off + 2, none⟩ = some (.int .i64 yk) := by rw [hb0.cell (p := ⟨b, off + 2, none⟩) hblt]; exact d2
  have c3 : (w.alloc (.cells #[.int .i64 0, .int .i64 0] 98)).cell? ⟨b, off + 3, none⟩ = some (.int .i64 yn) := by rw [hb0.cell (p := ⟨b, off + 3, none⟩) hblt]; exact d3
  have hs1 : w.heap.size < (w.alloc (.cells #[.int .i64 0, .int .i64 0] 98)).heap.size := by simp
  clear d0 d1 d2 d3
  go_enter Tryd.func62, Tryd.ntmps62
  go_wp2_with fail
  go_quiet (fail)
  go_wp2_with fail
  refine (tests_any _).mono ?_
  rintro r w1 ⟨bm1, rfl, hM1, hx1⟩
  have hc1 : Below (w.alloc (.cells #[.int .i64 0, .int .i64 0] 98)).heap.size (w.alloc (.cells #[.int .i64 0, .int .i64 0] 98)) w1 := (below_drewN (Below.refl _ _) _).trans hx1
  have hl1 := hM1.run (P := Tryd.prog) Tryd.underlying121 Tryd.underlying9 (d := .nilFunc) (by kernel_rfl) oImp true
  rw [show testsEnv oImp = none from rfl] at hl1
  simp only [if_true, Option.getD_none, Option.isSome_none] at hl1
  clear hx1 hM1
  go_wp2_with fail
  refine (bools_any _).mono ?_
  rintro r w2 ⟨bm2, rfl, hM2, hx2⟩
  have hc2 := hc1.trans (hx2.mono hc1.size)
  have hl2 := hM2.run (P := Tryd.prog) Tryd.underlying125 Tryd.underlying9 (d := .nilFunc) (by kernel_rfl) oImp true
  rw [show boolsEnv oImp = some (fnV 82) from rfl] at hl2
  simp only [if_true, Option.getD_some, Option.isSome_some] at hl2
  clear hx2 hM2
  go_wp2_with fail
  have hcl := fn_imp (decide (xn = 1)) (decide (yn = 1)) w2
  rw [← beq_one xn, ← beq_one yn] at hcl
  refine hcl.mono ?_
  rintro r w3 ⟨rfl, rfl⟩
  rw [beq_one, beq_one]
  go_wp2_with fail
  have hcall := truth_any (!decide (xn = 1) || decide (yn = 1)) w2
  rw [hz] at hcall
  refine hcall.mono ?_
  rintro r w4 ⟨rfl, hx4⟩
  have hc4 := hc2.trans (hx4.mono hc2.size)
  clear hcall hx4
  have hRz := (hc4.block w.heap.size hs1).trans hR0
  obtain ⟨q0, q1, f0, f1, hlw⟩ := cell2_of hRz
  obtain ⟨e0, e1, e2, e3⟩ := put2_of hRz (.int .i64 1) (.int .i64 z)
  have E0 := Lib.hid e0
  have E1 := Lib.hid e1
  have HBz := Lib.hid (hb0.trans (hc4.mono (Nat.le_of_lt hs1)))
  clear e0 e1 e2 e3 hRz
  go_wp2_with fail
  have e0 := E0.out
  have e1 := E1.out
  refine bodyPost_ret (v := .tuple #[vlV ⟨1, z⟩, .bool false]) (by simp [results, Tryd.results62, go_sem, e0, e1]) rfl ?_
  exact ⟨rfl, below_put2 HBz.out (Nat.le_refl _) _ _⟩
set_option maxHeartbeats 4000000 in
set_option maxRecDepth 100000 in
theorem ap_add (x y : Vl) (b off c : Nat) (w : World) (d0 : w.cell? ⟨b, off, none⟩ = some (.int .i64 x.kind)) (d1 : w.cell? ⟨b, off + 1, none⟩ = some (.int .i64 x.n)) (d2 : w.cell? ⟨b, off + 2, none⟩ = some (.int .i64 y.kind)) (d3 : w.cell? ⟨b, off + 3, none⟩ = some (.int .i64 y.n)) :
    Calls Tryd.prog 62 #[.string oAdd, .slice (some ⟨b, off, none⟩) 2 c] w fun r w' => r = .returned (.tuple #[vlV (appM oAdd [x, y]).1, .bool (appM oAdd [x, y]).2]) ∧ Below w.heap.size w w' := by
  obtain ⟨z, hz⟩ : ∃ z : Int, wv (x.n + y.n) = ⟨2, z⟩ := ⟨_, rfl⟩
  have hres : appM oAdd [x, y] = (⟨2, z⟩, false) := (show appM oAdd [x, y] = (wv (x.n + y.n), false) from rfl).trans (by rw [hz])
  rw [hres]
  clear hres
  have hblt : b < w.heap.size := World.block_lt_of_cell? w ⟨b, off, none⟩ d0
  obtain ⟨xk, xn⟩ := x
  obtain ⟨yk, yn⟩ := y
  dsimp only at *
  have hb0 : Below w.heap.size w (w.alloc (.cells #[.int .i64 0, .int .i64 0] 98)) := (Below.refl _ _).alloc (Nat.le_refl _) _
  have hR0 := heap_alloc_new w (.cells #[.int .i64 0, .int .i64 0] 98)
  have c0 : (w.alloc (.cells #[.int .i64 0, .int .i64 0] 98)).cell? ⟨b, off, none⟩ = some (.int .i64 xk) := by rw [hb0.cell (p := ⟨b, off, none⟩) hblt]; exact d0
  have c1 : (w.alloc (.cells #[.int .i64 0, .int .i64 0] 98)).cell? ⟨b, off + 1, none⟩ = some (.int .i64 xn) := by rw [hb0.cell (p := ⟨b, off + 1, none⟩) hblt]; exact d1
  have c2 : (w.alloc (.cells #[.int .i64 0, .int .i64 0] 98)).cell? ⟨b, off + 2, none⟩ = some (.int .i64 yk) := by rw [hb0.cell (p := ⟨b, off + 2, none⟩) hblt]; exact d2
  have c3 : (w.alloc (.cells #[.int .i64 0, .int .i64 0] 98)).cell? ⟨b, off + 3, none⟩ = some (.int .i64 yn) := by rw [hb0.cell (p := ⟨b, off + 3, none⟩) hblt]; exact d3
  have hs1 : w.heap.size < (w.alloc (.cells #[.int .i64 0, .int .i64 0] 98)).heap.size := by simp
  clear d0 d1 d2 d3
  go_enter Tryd.func62, Tryd.ntmps62
  go_wp2_with fail
  go_quiet (fail)
  go_wp2_with fail
  refine (tests_any _).mono ?_
  rintro r w1 ⟨bm1, rfl, hM1, hx1⟩
  have hc1 : Below (w.alloc (.cells #[.int .i64 0, .int .i64 0] 98)).heap.size (w.alloc (.cells #[.int .i64 0, .int .i64 0] 98)) w1 := (below_drewN (Below.refl _ _) _).trans hx1
  have hl1 := hM1.run (P := Tryd.prog) Tryd.underlying121 Tryd.underlying9 (d := .nilFunc) (by kernel_rfl) oAdd true
  rw [show testsEnv oAdd = none from rfl] at hl1
  simp only [if_true, Option.getD_none, Option.isSome_none] at hl1
  clear hx1 hM1
  go_wp2_with fail
  refine (bools_any _).mono ?_
  rintro r w2 ⟨bm2, rfl, hM2, hx2⟩
  have hc2 := hc1.trans (hx2.mono hc1.size)
  have hl2 := hM2.run (P := Tryd.prog) Tryd.underlying125 Tryd.underlying9 (d := .nilFunc) (by kernel_rfl) oAdd true
  rw [show boolsEnv oAdd = none from rfl] at hl2
  simp only [if_true, Option.getD_none, Option.isSome_none] at hl2
  clear hx2 hM2
  go_wp2_with fail
  refine (ints_any _).mono ?_
  rintro r w3 ⟨bm3, rfl, hM3, hx3⟩
  have hc3 := hc2.trans (hx3.mono hc2.size)
  have hl3 := hM3.run (P := Tryd.prog) Tryd.underlying128 Tryd.underlying9 (d := .nilFunc) (by kernel_rfl) oAdd false
  rw [show intsEnv oAdd = some (fnV 83) from rfl] at hl3
  simp only [Bool.false_eq_true, if_false, Option.getD_some, Option.isSome_some] at hl3
  clear hx3 hM3
  go_wp2_with fail
  refine (fn_add xn yn _).mono ?_
  rintro r w4 ⟨rfl, rfl⟩
  go_wp2_with fail
  have hcall := whole_any (RowKit.wrap64 (xn + yn)) w3
  rw [wv_wrap64, hz] at hcall
  refine hcall.mono ?_
  rintro r w5 ⟨rfl, hx5⟩
  have hc5 := hc3.trans (hx5.mono hc3.size)
  clear hcall hx5
  have hRz := (hc5.block w.heap.size hs1).trans hR0
  obtain ⟨q0, q1, f0, f1, hlw⟩ := cell2_of hRz
  obtain ⟨e0, e1, e2, e3⟩ := put2_of hRz (.int .i64 2) (.int .i64 z)
  have E0 := Lib.hid e0
  have E1 := Lib.hid e1
  have HBz := Lib.hid (hb0.trans (hc5.mono (Nat.le_of_lt hs1)))
  clear e0 e1 e2 e3 hRz
  go_wp2_with fail
  have e0 := E0.out
  have e1 := E1.out
  refine bodyPost_ret (v := .tuple #[vlV ⟨2, z⟩, .bool false]) (by simp [results, Tryd.results62, go_sem, e0, e1]) rfl ?_
  exact ⟨rfl, below_put2 HBz.out (Nat.le_refl _) _ _⟩
set_option maxHeartbeats 4000000 in
set_option maxRecDepth 100000 in
theorem ap_sub (x y : Vl) (b off c : Nat) (w : World) (d0 : w.cell? ⟨b, off, none⟩ = some (.int .i64 x.kind)) (d1 : w.cell? ⟨b, off + 1, none⟩ = some (.int .i64 x.n)) (d2 : w.cell? ⟨b, off + 2, none⟩ = some (.int .i64 y.kind)) (d3 : w.cell? ⟨b, off + 3, none⟩ = some (.int .i64 y.n)) :
    Calls Tryd.prog 62 #[.string oSub, .slice (some ⟨b, off, none⟩) 2 c] w fun r w' => r = .returned (.tuple #[vlV (appM oSub [x, y]).1, .bool (appM oSub [x, y]).2]) ∧ Below w.heap.size w w' := by
  obtain ⟨z, hz⟩ : ∃ z : Int, wv (x.n - y.n) = ⟨2, z⟩ := ⟨_, rfl⟩
  have hres : appM oSub [x, y] = (⟨2, z⟩, false) := (show appM oSub [x, y] = (wv (x.n - y.n), false) from rfl).trans (by rw [hz])
  rw [hres]
  clear hres
  have hblt : b < w.heap.size := World.block_lt_of_cell? w ⟨b, off, none⟩ d0
  obtain ⟨xk, xn⟩ := x
  obtain ⟨yk, yn⟩ := y
  dsimp only at *
  have hb0 : Below w.heap.size w (w.alloc (.cells #[.int .i64 0, .int .i64 0] 98)) := (Below.refl _ _).alloc (Nat.le_refl _) _
  have hR0 := heap_alloc_new w (.cells #[.int .i64 0, .int .i64 0] 98)
  have c0 : (w.alloc (.cells #[.int .i64 0, .int .i64 0] 98)).cell? ⟨b, off, none⟩ = some (.int .i64 xk) := by rw [hb0.cell (p := ⟨b, off, none⟩) hblt]; exact d0
  have c1 : (w.alloc (.cells #[.int .i64 0, .int .i64 0] 98)).cell? ⟨b, off + 1, none⟩ = some (.int .i64 xn) := by rw [hb0.cell (p := ⟨b, off + 1, none⟩) hblt]; exact d1
  have c2 : (w.alloc (.cells #[.int .i64 0, .int .i64 0] 98)).cell? ⟨b, off + 2, none⟩ = some (.int .i64 yk) := by rw [hb0.cell (p := ⟨b, off + 2, none⟩) hblt]; exact d2
  have c3 : (w.alloc (.cells #[.int .i64 0, .int .i64 0] 98)).cell? ⟨b, off + 3, none⟩ = some (.int .i64 yn) := by rw [hb0.cell (p := ⟨b, off + 3, none⟩) hblt]; exact d3
  have hs1 : w.heap.size < (w.alloc (.cells #[.int .i64 0, .int .i64 0] 98)).heap.size := by simp
  clear d0 d1 d2 d3
  go_enter Tryd.func62, Tryd.ntmps62
  go_wp2_with fail
  go_quiet (fail)
  go_wp2_with fail
  refine (tests_any _).mono ?_
  rintro r w1 ⟨bm1, rfl, hM1, hx1⟩
  have hc1 : Below (w.alloc (.cells #[.int .i64 0, .int .i64 0] 98)).heap.size (w.alloc (.cells #[.int .i64 0, .int .i64 0] 98)) w1 := (below_drewN (Below.refl _ _) _).trans hx1
  have hl1 := hM1.run (P := Tryd.prog) Tryd.underlying121 Tryd.underlying9 (d := .nilFunc) (by kernel_rfl) oSub true
  rw [show testsEnv oSub = none from rfl] at hl1
  simp only [if_true, Option.getD_none, Option.isSome_none] at hl1
  clear hx1 hM1
  go_wp2_with fail
  refine (bools_any _).mono ?_
  rintro r w2 ⟨bm2, rfl, hM2, hx2⟩
  have hc2 := hc1.trans (hx2.mono hc1.size)
  have hl2 := hM2.run (P := Tryd.prog) Tryd.underlying125 Tryd.underlying9 (d := .nilFunc) (by kernel_rfl) oSub true
  rw [show boolsEnv oSub = none from rfl] at hl2
  simp only [if_true, Option.getD_none, Option.isSome_none] at hl2
  clear hx2 hM2
  go_wp2_with fail
  refine (ints_any _).mono ?_
  rintro r w3 ⟨bm3, rfl, hM3, hx3⟩
  have hc3 := hc2.trans (hx3.mono hc2.size)
  have hl3 := hM3.run (P := Tryd.prog) Tryd.underlying128 Tryd.underlying9 (d := .nilFunc) (by kernel_rfl) oSub false
  rw [show intsEnv oSub = some (fnV 84) from rfl] at hl3
  simp only [Bool.false_eq_true, if_false, Option.getD_some, Option.isSome_some] at hl3
  clear hx3 hM3
  go_wp2_with fail
  refine (fn_sub xn yn _).mono ?_
  rintro r w4 ⟨rfl, rfl⟩
  go_wp2_with fail
  have hcall := whole_any (RowKit.wrap64 (xn - yn)) w3
  rw [wv_wrap64, hz] at hcall
  refine hcall.mono ?_
  rintro r w5 ⟨rfl, hx5⟩
  have hc5 := hc3.trans (hx5.mono hc3.size)
  clear hcall hx5
  have hRz := (hc5.block w.heap.size hs1).trans hR0
  obtain ⟨q0, q1, f0, f1, hlw⟩ := cell2_of hRz
  obtain ⟨e0, e1, e2, e3⟩ := put2_of hRz (.int .i64 2) (.int .i64 z)
  have E0 := Lib.hid e0
  have E1 := Lib.hid e1
  have HBz := Lib.hid (hb0.trans (hc5.mono (Nat.le_of_lt hs1)))
  clear e0 e1 e2 e3 hRz
  go_wp2_with fail
  have e0 := E0.out
  have e1 := E1.out
  refine bodyPost_ret (v := .tuple #[vlV ⟨2, z⟩, .bool false]) (by simp [results, Tryd.results62, go_sem, e0, e1]) rfl ?_
  exact ⟨rfl, below_put2 HBz.out (Nat.le_refl _) _ _⟩
set_option maxHeartbeats 4000000 in
set_option maxRecDepth 100000 in
theorem ap_mul (x y : Vl) (b off c : Nat) (w : World) (d0 : w.cell? ⟨b, off, none⟩ = some (.int .i64 x.kind)) (d1 : w.cell? ⟨b, off + 1, none⟩ = some (.int .i64 x.n)) (d2 : w.cell? ⟨b, off + 2, none⟩ = some (.int .i64 y.kind)) (d3 : w.cell? ⟨b, off + 3, none⟩ = some (.int .i64 y.n)) :
    Calls Tryd.prog 62 #[.string oMul, .slice (some ⟨b, off, none⟩) 2 c] w fun r w' => r = .returned (.tuple #[vlV (appM oMul [x, y]).1, .bool (appM oMul [x, y]).2]) ∧ Below w.heap.size w w' := by
  obtain ⟨z, hz⟩ : ∃ z : Int, wv (x.n * y.n) = ⟨2, z⟩ := ⟨_, rfl⟩
  have hres : appM oMul [x, y] = (⟨2, z⟩, false) := (show appM oMul [x, y] = (wv (x.n * y.n), false) from rfl).trans (by rw [hz])
  rw [hres]
  clear hres
  have hblt : b < w.heap.size := World.block_lt_of_cell? w ⟨b, off, none⟩ d0
  obtain ⟨xk, xn⟩ := x
  obtain ⟨yk, yn⟩ := y
  dsimp only at *
  have hb0 : Below w.heap.size w (w.alloc (.cells #[.int .i64 0, .int .i64 0] 98)) := (Below.refl _ _).alloc (Nat.le_refl _) _
  have hR0 := heap_alloc_new w (.cells #[.int .i64 0, .int .i64 0] 98)
  have c0 : (w.alloc (.cells #[.int .i64 0, .int .i64 0] 98)).cell? ⟨b, off, none⟩ = some (.int .i64 xk) := by rw [hb0.cell (p := ⟨b, off, none⟩) hblt]; exact d0
  have c1 : (w.alloc (.cells #[.int .i64 0, .int .i64 0] 98)).cell? ⟨b, off + 1, none⟩ = some (.int .i64 xn) := by rw [hb0.cell (p := ⟨b, off + 1, none⟩) hblt]; exact d1
  have c2 : (w.alloc (.cells #[.int .i64 0, .int .i64 0] 98)).cell? ⟨b, off + 2, none⟩ = some (.int .i64 yk) := by rw [hb0.cell (p := ⟨b, off + 2, none⟩) hblt]; exact d2
  have c3 : (w.alloc (.cells #[.int .i64 0, .int .i64 0] 98)).cell? ⟨b, off + 3, none⟩ = some (.int .i64 yn) := by rw [hb0.cell (p := ⟨b, off + 3, none⟩) hblt]; exact d3
  have hs1 : w.heap.size < (w.alloc (.cells #[.int .i64 0, .int .i64 0] 98)).heap.size := by simp
  clear d0 d1 d2 d3
  go_enter Tryd.func62, Tryd.ntmps62
  go_wp2_with fail
  go_quiet (fail)
  go_wp2_with fail
  refine (tests_any _).mono ?_
  rintro r w1 ⟨bm1, rfl, hM1, hx1⟩
  have hc1 : Below (w.alloc (.cells #[.int .i64 0, .int .i64 0] 98)).heap.size (w.alloc (.cells #[.int .i64 0, .int .i64 0] 98)) w1 := (below_drewN (Below.refl _ _) _).trans hx1
  have hl1 := hM1.run (P := Tryd.prog) Tryd.underlying121 Tryd.underlying9 (d := .nilFunc) (by kernel_rfl) oMul true
  rw [show testsEnv oMul = none from rfl] at hl1
  simp only [if_true, Option.getD_none, Option.isSome_none] at hl1
  clear hx1 hM1
  go_wp2_with fail
  refine (bools_any _).mono ?_
  rintro r w2 ⟨bm2, rfl, hM2, hx2⟩
  have hc2 := hc1.trans (hx2.mono hc1.size)
  have hl2 := hM2.run (P := Tryd.prog) Tryd.underlying125 Tryd.underlying9 (d := .nilFunc) (by kernel_rfl) oMul true
  rw [show boolsEnv oMul = none from rfl] at hl2
  simp only [if_true, Option.getD_none, Option.isSome_none] at hl2
  clear hx2 hM2
  go_wp2_with fail
  refine (ints_any _).mono ?_
  rintro r w3 ⟨bm3, rfl, hM3, hx3⟩
  have hc3 := hc2.trans (hx3.mono hc2.size)
  have hl3 := hM3.run (P := Tryd.prog) Tryd.underlying128 Tryd.underlying9 (d := .nilFunc) (by kernel_rfl) oMul false
  rw [show intsEnv oMul = some (fnV 85) from rfl] at hl3
  simp only [Bool.false_eq_true, if_false, Option.getD_some, Option.isSome_some] at hl3
  clear hx3 hM3
  go_wp2_with fail
  refine (fn_mul xn yn _).mono ?_
  rintro r w4 ⟨rfl, rfl⟩
  go_wp2_with fail
  have hcall := whole_any (RowKit.wrap64 (xn * yn)) w3
  rw [wv_wrap64, hz] at hcall
  refine hcall.mono ?_
  rintro r w5 ⟨rfl, hx5⟩
  have hc5 := hc3.trans (hx5.mono hc3.size)
  clear hcall hx5
  have hRz := (hc5.block w.heap.size hs1).trans hR0
  obtain ⟨q0, q1, f0, f1, hlw⟩ := cell2_of hRz
  obtain ⟨e0, e1, e2, e3⟩ := put2_of hRz (.int .i64 2) (.int .i64 z)
  have E0 := Lib.hid e0
  have E1 := Lib.hid e1
  have HBz := Lib.hid (hb0.trans (hc5.mono (Nat.le_of_lt hs1)))
  clear e0 e1 e2 e3 hRz
  go_wp2_with fail
  have e0 := E0.out
  have e1 := E1.out
  refine bodyPost_ret (v := .tuple #[vlV ⟨2, z⟩, .bool false]) (by simp [results, Tryd.results62, go_sem, e0, e1]) rfl ?_
  exact ⟨rfl, below_put2 HBz.out (Nat.le_refl _) _ _⟩
set_option maxHeartbeats 4000000 in
set_option maxRecDepth 100000 in
theorem ap_div (x y : Vl) (hy : y.n ≠ 0) (b off c : Nat) (w : World) (d0 : w.cell? ⟨b, off, none⟩ = some (.int .i64 x.kind)) (d1 : w.cell? ⟨b, off + 1, none⟩ = some (.int .i64 x.n)) (d2 : w.cell? ⟨b, off + 2, none⟩ = some (.int .i64 y.kind)) (d3 : w.cell? ⟨b, off + 3, none⟩ = some (.int .i64 y.n)) :
    Calls Tryd.prog 62 #[.string oDiv, .slice (some ⟨b, off, none⟩) 2 c] w fun r w' => r = .returned (.tuple #[vlV (appM oDiv [x, y]).1, .bool (appM oDiv [x, y]).2]) ∧ Below w.heap.size w w' := by
  obtain ⟨z, hz⟩ : ∃ z : Int, wv (x.n.tdiv y.n) = ⟨2, z⟩ := ⟨_, rfl⟩
  have hres : appM oDiv [x, y] = (⟨2, z⟩, false) := (show appM oDiv [x, y] = (wv (x.n.tdiv y.n), false) from (by unfold appM; simp [hy])).trans (by rw [hz])
  rw [hres]
  clear hres
  have hblt : b < w.heap.size := World.block_lt_of_cell? w ⟨b, off, none⟩ d0
  obtain ⟨xk, xn⟩ := x
  obtain ⟨yk, yn⟩ := y
  dsimp only at *
  have hb0 : Below w.heap.size w (w.alloc (.cells #[.int .i64 0, .int .i64 0] 98)) := (Below.refl _ _).alloc (Nat.le_refl _) _
  have hR0 := heap_alloc_new w (.cells #[.int .i64 0, .int .i64 0] 98)
  have c0 : (w.alloc (.cells #[.int .i64 0, .int .i64 0] 98)).cell? ⟨b, off, none⟩ = some (.int .i64 xk) := by rw [hb0.cell (p := ⟨b, off, none⟩) hblt]; exact d0
  have c1 : (w.alloc (.cells #[.int .i64 0, .int .i64 0] 98)).cell? ⟨b, off + 1, none⟩ = some (.int .i64 xn) := by rw [hb0.cell (p := ⟨b, off + 1, none⟩) hblt]; exact d1
  have c2 : (w.alloc (.cells #[.int .i64 0, .int .i64 0] 98)).cell? ⟨b, off + 2, none⟩ = some (.int .i64 yk) := by rw [hb0.cell (p := ⟨b, off + 2, none⟩) hblt]; exact d2
  have c3 : (w.alloc (.cells #[.int .i64 0, .int .i64 0] 98)).cell? ⟨b, off + 3, none⟩ = some (.int .i64 yn) := by rw [hb0.cell (p := ⟨b, off + 3, none⟩) hblt]; exact d3
  have hs1 : w.heap.size < (w.alloc (.cells #[.int .i64 0, .int .i64 0] 98)).heap.size := by simp
  clear d0 d1 d2 d3
  go_enter Tryd.func62, Tryd.ntmps62
  have hyb : (yn == 0) = false := by simpa using hy
  go_wp2_with fail
  go_quiet (fail)
  go_wp2_with fail
  refine (tests_any _).mono ?_
  rintro r w1 ⟨bm1, rfl, hM1, hx1⟩
  have hc1 : Below (w.alloc (.cells #[.int .i64 0, .int .i64 0] 98)).heap.size (w.alloc (.cells #[.int .i64 0, .int .i64 0] 98)) w1 := (below_drewN (Below.refl _ _) _).trans hx1
  have hl1 := hM1.run (P := Tryd.prog) Tryd.underlying121 Tryd.underlying9 (d := .nilFunc) (by kernel_rfl) oDiv true
  rw [show testsEnv oDiv = none from rfl] at hl1
  simp only [if_true, Option.getD_none, Option.isSome_none] at hl1
  clear hx1 hM1
  go_wp2_with fail
  refine (bools_any _).mono ?_
  rintro r w2 ⟨bm2, rfl, hM2, hx2⟩
  have hc2 := hc1.trans (hx2.mono hc1.size)
  have hl2 := hM2.run (P := Tryd.prog) Tryd.underlying125 Tryd.underlying9 (d := .nilFunc) (by kernel_rfl) oDiv true
  rw [show boolsEnv oDiv = none from rfl] at hl2
  simp only [if_true, Option.getD_none, Option.isSome_none] at hl2
  clear hx2 hM2
  go_wp2_with fail
  refine (ints_any _).mono ?_
  rintro r w3 ⟨bm3, rfl, hM3, hx3⟩
  have hc3 := hc2.trans (hx3.mono hc2.size)
  have hl3 := hM3.run (P := Tryd.prog) Tryd.underlying128 Tryd.underlying9 (d := .nilFunc) (by kernel_rfl) oDiv false
  rw [show intsEnv oDiv = some (fnV 86) from rfl] at hl3
  simp only [Bool.false_eq_true, if_false, Option.getD_some, Option.isSome_some] at hl3
  clear hx3 hM3
  go_wp2_with fail
  refine (fn_div xn yn hy _).mono ?_
  rintro r w4 ⟨rfl, rfl⟩
  go_wp2_with fail
  have hcall := whole_any (RowKit.wrap64 (xn.tdiv yn)) w3
  rw [wv_wrap64, hz] at hcall
  refine hcall.mono ?_
  rintro r w5 ⟨rfl, hx5⟩
  have hc5 := hc3.trans (hx5.mono hc3.size)
  clear hcall hx5
  have hRz := (hc5.block w.heap.size hs1).trans hR0
  obtain ⟨q0, q1, f0, f1, hlw⟩ := cell2_of hRz
  obtain ⟨e0, e1, e2, e3⟩ := put2_of hRz (.int .i64 2) (.int .i64 z)
  have E0 := Lib.hid e0
  have E1 := Lib.hid e1
  have HBz := Lib.hid (hb0.trans (hc5.mono (Nat.le_of_lt hs1)))
  clear e0 e1 e2 e3 hRz
  go_wp2_with fail
  have e0 := E0.out
  have e1 := E1.out
  refine bodyPost_ret (v := .tuple #[vlV ⟨2, z⟩, .bool false]) (by simp [results, Tryd.results62, go_sem, e0, e1]) rfl ?_
  exact ⟨rfl, below_put2 HBz.out (Nat.le_refl _) _ _⟩
set_option maxHeartbeats 4000000 in
set_option maxRecDepth 100000 in
theorem ap_mod (x y : Vl) (hy : y.n ≠ 0) (b off c : Nat) (w : World) (d0 : w.cell? ⟨b, off, none⟩ = some (.int .i64 x.kind)) (d1 : w.cell? ⟨b, off + 1, none⟩ = some (.int .i64 x.n)) (d2 : w.cell? ⟨b, off + 2, none⟩ = some (.int .i64 y.kind)) (d3 : w.cell? ⟨b, off + 3, none⟩ = some (.int .i64 y.n)) :
    Calls Tryd.prog 62 #[.string oMod, .slice (some ⟨b, off, none⟩) 2 c] w fun r w' => r = .returned (.tuple #[vlV (appM oMod [x, y]).1, .bool (appM oMod [x, y]).2]) ∧ Below w.heap.size w w' := by
  obtain ⟨z, hz⟩ : ∃ z : Int, wv (x.n.tmod y.n) = ⟨2, z⟩ := ⟨_, rfl⟩
  have hres : appM oMod [x, y] = (⟨2, z⟩, false) := (show appM oMod [x, y] = (wv (x.n.tmod y.n), false) from (by unfold appM; simp [hy])).trans (by rw [hz])
  rw [hres]
  clear hres
  have hblt : b < w.heap.size := World.block_lt_of_cell? w ⟨b, off, none⟩ d0
  obtain ⟨xk, xn⟩ := x
  obtain ⟨yk, yn⟩ := y
  dsimp only at *
  have hb0 : Below w.heap.size w (w.alloc (.cells #[.int .i64 0, .int .i64 0] 98)) := (Below.refl _ _).alloc (Nat.le_refl _) _
  have hR0 := heap_alloc_new w (.cells #[.int .i64 0, .int .i64 0] 98)
  have c0 : (w.alloc (.cells #[.int .i64 0, .int .i64 0] 98)).cell? ⟨b, off, none⟩ = some (.int .i64 xk) := by rw [hb0.cell (p := ⟨b, off, none⟩) hblt]; exact d0
  have c1 : (w.alloc (.cells #[.int .i64 0, .int .i64 0] 98)).cell? ⟨b, off + 1, none⟩ = some (.int .i64 xn) := by rw [hb0.cell (p := ⟨b, off + 1, none⟩) hblt]; exact d1
  have c2 : (w.alloc (.cells #[.int .i64 0, .int .i64 0] 98)).cell? ⟨b, off + 2, none⟩ = some (.int .i64 yk) := by rw [hb0.cell (p := ⟨b, off + 2, none⟩) hblt]; exact d2
  have c3 : (w.alloc (.cells #[.int .i64 0, .int .i64 0] 98)).cell? ⟨b, off + 3, none⟩ = some (.int .i64 yn) := by rw [hb0.cell (p := ⟨b, off + 3, none⟩) hblt]; exact d3
  have hs1 : w.heap.size < (w.alloc (.cells #[.int .i64 0, .int .i64 0] 98)).heap.size := by simp
  clear d0 d1 d2 d3
  go_enter Tryd.func62, Tryd.ntmps62
  have hyb : (yn == 0) = false := by simpa using hy
  go_wp2_with fail
  go_quiet (fail)
  go_wp2_with fail
  refine (tests_any _).mono ?_
  rintro r w1 ⟨bm1, rfl, hM1, hx1⟩
  have hc1 : Below (w.alloc (.cells #[.int .i64 0, .int .i64 0] 98)).heap.size (w.alloc (.cells #[.int .i64 0, .int .i64 0] 98)) w1 := (below_drewN (Below.refl _ _) _).trans hx1
  have hl1 := hM1.run (P := Tryd.prog) Tryd.underlying121 Tryd.underlying9 (d := .nilFunc) (by kernel_rfl) oMod true
  rw [show testsEnv oMod = none from rfl] at hl1
  simp only [if_true, Option.getD_none, Option.isSome_none] at hl1
  clear hx1 hM1
  go_wp2_with fail
  refine (bools_any _).mono ?_
  rintro r w2 ⟨bm2, rfl, hM2, hx2⟩
  have hc2 := hc1.trans (hx2.mono hc1.size)
  have hl2 := hM2.run (P := Tryd.prog) Tryd.underlying125 Tryd.underlying9 (d := .nilFunc) (by kernel_rfl) oMod true
  rw [show boolsEnv oMod = none from rfl] at hl2
  simp only [if_true, Option.getD_none, Option.isSome_none] at hl2
  clear hx2 hM2
  go_wp2_with fail
  refine (ints_any _).mono ?_
  rintro r w3 ⟨bm3, rfl, hM3, hx3⟩
  have hc3 := hc2.trans (hx3.mono hc2.size)
  have hl3 := hM3.run (P := Tryd.prog) Tryd.underlying128 Tryd.underlying9 (d := .nilFunc) (by kernel_rfl) oMod false
  rw [show intsEnv oMod = some (fnV 87) from rfl] at hl3
  simp only [Bool.false_eq_true, if_false, Option.getD_some, Option.isSome_some] at hl3
  clear hx3 hM3
  go_wp2_with fail
  refine (fn_mod xn yn hy _).mono ?_
  rintro r w4 ⟨rfl, rfl⟩
  go_wp2_with fail
  have hcall := whole_any (xn.tmod yn) w3
  rw [hz] at hcall
  refine hcall.mono ?_
  rintro r w5 ⟨rfl, hx5⟩
  have hc5 := hc3.trans (hx5.mono hc3.size)
  clear hcall hx5
  have hRz := (hc5.block w.heap.size hs1).trans hR0
  obtain ⟨q0, q1, f0, f1, hlw⟩ := cell2_of hRz
  obtain ⟨e0, e1, e2, e3⟩ := put2_of hRz (.int .i64 2) (.int .i64 z)
  have E0 := Lib.hid e0
  have E1 := Lib.hid e1
  have HBz := Lib.hid (hb0.trans (hc5.mono (Nat.le_of_lt hs1)))
  clear e0 e1 e2 e3 hRz
  go_wp2_with fail
  have e0 := E0.out
  have e1 := E1.out
  refine bodyPost_ret (v := .tuple #[vlV ⟨2, z⟩, .bool false]) (by simp [results, Tryd.results62, go_sem, e0, e1]) rfl ?_
  exact ⟨rfl, below_put2 HBz.out (Nat.le_refl _) _ _⟩
set_option maxHeartbeats 4000000 in
set_option maxRecDepth 100000 in
theorem ap_div0 (x y : Vl) (hy : y.n = 0) (b off c : Nat) (w : World) (d0 : w.cell? ⟨b, off, none⟩ = some (.int .i64 x.kind)) (d1 : w.cell? ⟨b, off + 1, none⟩ = some (.int .i64 x.n)) (d2 : w.cell? ⟨b, off + 2, none⟩ = some (.int .i64 y.kind)) (d3 : w.cell? ⟨b, off + 3, none⟩ = some (.int .i64 y.n)) :
    Calls Tryd.prog 62 #[.string oDiv, .slice (some ⟨b, off, none⟩) 2 c] w fun r w' => r = .returned (.tuple #[vlV (appM oDiv [x, y]).1, .bool (appM oDiv [x, y]).2]) ∧ Below w.heap.size w w' := by
  have hres : appM oDiv [x, y] = (⟨0, 0⟩, true) := by unfold appM; simp [hy, vz]
  rw [hres]
  clear hres
  have hblt : b < w.heap.size := World.block_lt_of_cell? w ⟨b, off, none⟩ d0
  obtain ⟨xk, xn⟩ := x
  obtain ⟨yk, yn⟩ := y
  dsimp only at *
  have hb0 : Below w.heap.size w (w.alloc (.cells #[.int .i64 0, .int .i64 0] 98)) := (Below.refl _ _).alloc (Nat.le_refl _) _
  have hR0 := heap_alloc_new w (.cells #[.int .i64 0, .int .i64 0] 98)
  have c0 : (w.alloc (.cells #[.int .i64 0, .int .i64 0] 98)).cell? ⟨b, off, none⟩ = some (.int .i64 xk) := by rw [hb0.cell (p := ⟨b, off, none⟩) hblt]; exact d0
  have c1 : (w.alloc (.cells #[.int .i64 0, .int .i64 0] 98)).cell? ⟨b, off + 1, none⟩ = some (.int .i64 xn) := by rw [hb0.cell (p := ⟨b, off + 1, none⟩) hblt]; exact d1
  have c2 : (w.alloc (.cells #[.int .i64 0, .int .i64 0] 98)).cell? ⟨b, off + 2, none⟩ = some (.int .i64 yk) := by rw [hb0.cell (p := ⟨b, off + 2, none⟩) hblt]; exact d2
  have c3 : (w.alloc (.cells #[.int .i64 0, .int .i64 0] 98)).cell? ⟨b, off + 3, none⟩ = some (.int .i64 yn) := by rw [hb0.cell (p := ⟨b, off + 3, none⟩) hblt]; exact d3
  have hs1 : w.heap.size < (w.alloc (.cells #[.int .i64 0, .int .i64 0] 98)).heap.size := by simp
  clear d0 d1 d2 d3
  go_enter Tryd.func62, Tryd.ntmps62
  subst hy
  go_wp2_with fail
  go_quiet (fail)
  go_wp2_with fail
  refine (tests_any _).mono ?_
  rintro r w1 ⟨bm1, rfl, hM1, hx1⟩
  have hc1 : Below (w.alloc (.cells #[.int .i64 0, .int .i64 0] 98)).heap.size (w.alloc (.cells #[.int .i64 0, .int .i64 0] 98)) w1 := (below_drewN (Below.refl _ _) _).trans hx1
  have hl1 := hM1.run (P := Tryd.prog) Tryd.underlying121 Tryd.underlying9 (d := .nilFunc) (by kernel_rfl) oDiv true
  rw [show testsEnv oDiv = none from rfl] at hl1
  simp only [if_true, Option.getD_none, Option.isSome_none] at hl1
  clear hx1 hM1
  go_wp2_with fail
  refine (bools_any _).mono ?_
  rintro r w2 ⟨bm2, rfl, hM2, hx2⟩
  have hc2 := hc1.trans (hx2.mono hc1.size)
  have hl2 := hM2.run (P := Tryd.prog) Tryd.underlying125 Tryd.underlying9 (d := .nilFunc) (by kernel_rfl) oDiv true
  rw [show boolsEnv oDiv = none from rfl] at hl2
  simp only [if_true, Option.getD_none, Option.isSome_none] at hl2
  clear hx2 hM2
  have hRz := (hc2.block w.heap.size hs1).trans hR0
  obtain ⟨q0, q1, f0, f1, hlw⟩ := cell2_of hRz
  obtain ⟨e0, e1, e2, e3⟩ := put2_of hRz (.int .i64 0) (.int .i64 0)
  have E0 := Lib.hid e0
  have E1 := Lib.hid e1
  have HBz := Lib.hid (hb0.trans (hc2.mono (Nat.le_of_lt hs1)))
  clear e0 e1 e2 e3 hRz
  go_wp2_with fail
  have e0 := E0.out
  have e1 := E1.out
  refine bodyPost_ret (v := .tuple #[vlV ⟨0, 0⟩, .bool true]) (by simp [results, Tryd.results62, go_sem, e0, e1]) rfl ?_
  exact ⟨rfl, below_put2 HBz.out (Nat.le_refl _) _ _⟩
set_option maxHeartbeats 4000000 in
set_option maxRecDepth 100000 in
theorem ap_mod0 (x y : Vl) (hy : y.n = 0) (b off c : Nat) (w : World) (d0 : w.cell? ⟨b, off, none⟩ = some (.int .i64 x.kind)) (d1 : w.cell? ⟨b, off + 1, none⟩ = some (.int .i64 x.n)) (d2 : w.cell? ⟨b, off + 2, none⟩ = some (.int .i64 y.kind)) (d3 : w.cell? ⟨b, off + 3, none⟩ = some (.int .i64 y.n)) :
    Calls Tryd.prog 62 #[.string oMod, .slice (some ⟨b, off, none⟩) 2 c] w fun r w' => r = .returned (.tuple #[vlV (appM oMod [x, y]).1, .bool (appM oMod [x, y]).2]) ∧ Below w.heap.size w w' := by
  have hres : appM oMod [x, y] = (⟨0, 0⟩, true) := by unfold appM; simp [hy, vz]
  rw [hres]
  clear hres
  have hblt : b < w.heap.size := World.block_lt_of_cell? w ⟨b, off, none⟩ d0
  obtain ⟨xk, xn⟩ := x
  obtain ⟨yk, yn⟩ := y
  dsimp only at *
  have hb0 : Below w.heap.size w (w.alloc (.cells #[.int .i64 0, .int .i64 0] 98)) := (Below.refl _ _).alloc (Nat.le_refl _) _
  have hR0 := heap_alloc_new w (.cells #[.int .i64 0, .int .i64 0] 98)
  have c0 : (w.alloc (.cells #[.int .i64 0, .int .i64 0] 98)).cell? ⟨b, off, none⟩ = some (.int .i64 xk) := by rw [hb0.cell (p := ⟨b, off, none⟩) hblt]; exact d0
  have c1 : (w.alloc (.cells #[.int .i64 0, .int .i64 0] 98)).cell? ⟨b, off + 1, none⟩ = some (.int .i64 xn) := by rw [hb0.cell (p := ⟨b, off + 1, none⟩) hblt]; exact d1
  have c2 : (w.alloc (.cells #[.int .i64 0, .int .i64 0] 98)).cell? ⟨b, off + 2, none⟩ = some (.int .i64 yk) := by rw [hb0.cell (p := ⟨b, off + 2, none⟩) hblt]; exact d2
  have c3 : (w.alloc (.cells #[.int .i64 0, .int .i64 0] 98)).cell? ⟨b, off + 3, none⟩ = some (.int .i64 yn) := by rw [hb0.cell (p := ⟨b, off + 3, none⟩) hblt]; exact d3
  have hs1 : w.heap.size < (w.alloc (.cells #[.int .i64 0, .int .i64 0] 98)).heap.size := by simp
  clear d0 d1 d2 d3
  go_enter Tryd.func62, Tryd.ntmps62
  subst hy
  go_wp2_with fail
  go_quiet (fail)
  go_wp2_with fail
  refine (tests_any _).mono ?_
  rintro r w1 ⟨bm1, rfl, hM1, hx1⟩
  have hc1 : Below (w.alloc (.cells #[.int .i64 0, .int .i64 0] 98)).heap.size (w.alloc (.cells #[.int .i64 0, .int .i64 0] 98)) w1 := (below_drewN (Below.refl _ _) _).trans hx1
  have hl1 := hM1.run (P := Tryd.prog) Tryd.underlying121 Tryd.underlying9 (d := .nilFunc) (by kernel_rfl) oMod true
  rw [show testsEnv oMod = none from rfl] at hl1
  simp only [if_true, Option.getD_none, Option.isSome_none] at hl1
  clear hx1 hM1
  go_wp2_with fail
  refine (bools_any _).mono ?_
  rintro r w2 ⟨bm2, rfl, hM2, hx2⟩
  have hc2 := hc1.trans (hx2.mono hc1.size)
  have hl2 := hM2.run (P := Tryd.prog) Tryd.underlying125 Tryd.underlying9 (d := .nilFunc) (by kernel_rfl) oMod true
  rw [show boolsEnv oMod = none from rfl] at hl2
  simp only [if_true, Option.getD_none, Option.isSome_none] at hl2
  clear hx2 hM2
  have hRz := (hc2.block w.heap.size hs1).trans hR0
  obtain ⟨q0, q1, f0, f1, hlw⟩ := cell2_of hRz
  obtain ⟨e0, e1, e2, e3⟩ := put2_of hRz (.int .i64 0) (.int .i64 0)
  have E0 := Lib.hid e0
  have E1 := Lib.hid e1
  have HBz := Lib.hid (hb0.trans (hc2.mono (Nat.le_of_lt hs1)))
  clear e0 e1 e2 e3 hRz
  go_wp2_with fail
  have e0 := E0.out
  have e1 := E1.out
  refine bodyPost_ret (v := .tuple #[vlV ⟨0, 0⟩, .bool true]) (by simp [results, Tryd.results62, go_sem, e0, e1]) rfl ?_
  exact ⟨rfl, below_put2 HBz.out (Nat.le_refl _) _ _⟩
set_option maxHeartbeats 4000000 in
set_option maxRecDepth 100000 in
theorem ap_eq (x y : Vl) (b off c : Nat) (w : World) (d0 : w.cell? ⟨b, off, none⟩ = some (.int .i64 x.kind)) (d1 : w.cell? ⟨b, off + 1, none⟩ = some (.int .i64 x.n)) (d2 : w.cell? ⟨b, off + 2, none⟩ = some (.int .i64 y.kind)) (d3 : w.cell? ⟨b, off + 3, none⟩ = some (.int .i64 y.n)) :
    Calls Tryd.prog 62 #[.string oEq, .slice (some ⟨b, off, none⟩) 2 c] w fun r w' => r = .returned (.tuple #[vlV (appM oEq [x, y]).1, .bool (appM oEq [x, y]).2]) ∧ Below w.heap.size w w' := by
  obtain ⟨z, hz⟩ : ∃ z : Int, tv (decide (x = y)) = ⟨1, z⟩ := ⟨_, rfl⟩
  have hres : appM oEq [x, y] = (⟨1, z⟩, false) := (show appM oEq [x, y] = (tv (decide (x = y)), false) from rfl).trans (by rw [hz])
  rw [hres]
  clear hres
  obtain ⟨xk, xn⟩ := x
  obtain ⟨yk, yn⟩ := y
  rw [vl_eq] at hz
  have hblt : b < w.heap.size := World.block_lt_of_cell? w ⟨b, off, none⟩ d0
  dsimp only at *
  have hb0 : Below w.heap.size w (w.alloc (.cells #[.int .i64 0, .int .i64 0] 98)) := (Below.refl _ _).alloc (Nat.le_refl _) _
  have hR0 := heap_alloc_new w (.cells #[.int .i64 0, .int .i64 0] 98)
  have c0 : (w.alloc (.cells #[.int .i64 0, .int .i64 0] 98)).cell? ⟨b, off, none⟩ = some (.int .i64 xk) := by rw [hb0.cell (p := ⟨b, off, none⟩) hblt]; exact d0
  have c1 : (w.alloc (.cells #[.int .i64 0, .int .i64 0] 98)).cell? ⟨b, off + 1, none⟩ = some (.int .i64 xn) := by rw [hb0.cell (p := ⟨b, off + 1, none⟩) hblt]; exact d1
  have c2 : (w.alloc (.cells #[.int .i64 0, .int .i64 0] 98)).cell? ⟨b, off + 2, none⟩ = some (.int .i64 yk) := by rw [hb0.cell (p := ⟨b, off + 2, none⟩) hblt]; exact d2
  have c3 : (w.alloc (.cells #[.int .i64 0, .int .i64 0] 98)).cell? ⟨b, off + 3, none⟩ = some (.int .i64 yn) := by rw [hb0.cell (p := ⟨b, off + 3, none⟩) hblt]; exact d3
  have hs1 : w.heap.size < (w.alloc (.cells #[.int .i64 0, .int .i64 0] 98)).heap.size := by simp
  clear d0 d1 d2 d3
  go_enter Tryd.func62, Tryd.ntmps62
  go_wp2_with fail
  generalize w.alloc (.cells #[.int .i64 0, .int .i64 0] 98) = W at *
  have k0 : (butKn w.heap.size W).cell b off = some (.int .i64 xk) := by rw [butKn_cell (by omega)]; exact c0
  have k1 : (butKn w.heap.size W).cell b (off + 1) = some (.int .i64 xn) := by rw [butKn_cell (by omega)]; exact c1
  have k2 : (butKn w.heap.size W).cell b (off + 2) = some (.int .i64 yk) := by rw [butKn_cell (by omega)]; exact c2
  have k3 : (butKn w.heap.size W).cell b (off + 3) = some (.int .i64 yn) := by rw [butKn_cell (by omega)]; exact c3
  have hS : (butKn w.heap.size W).In W.drew := butKn_in w.heap.size W
  have hK0 : (butKn w.heap.size W) w.heap.size = none := by simp [butKn]
  have hcall := fun w' => truth_any (xk == yk && xn == yn) w'
  rw [hz] at hcall
  clear c0 c1 c2 c3 hz
  rcases (show (xk = yk ∧ xn = yn) ∨ (xk = yk ∧ ¬ xn = yn) ∨ ¬ xk = yk from by by_cases h1 : xk = yk <;> by_cases h2 : xn = yn <;> simp [h1, h2]) with hw | hw | hw
  · obtain ⟨rfl, rfl⟩ := hw
    rw [show (xk == xk && xn == xn) = true from by simp] at hcall
    refine wp_region_2 (fun w' => (butKn w.heap.size W).In w') (fun _ => True) 99 (by kernel_rfl) ?_
    refine wpAny2_take (i := 0) (oi := _) (v := ?_) rfl (by decide) (by kernel_rfl) (by kernel_rfl) (by kernel_rfl) (by kernel_rfl) (fun _ _ _ h => h) hS (fun _ => trivial) (Or.inl ⟨by rfl, ?hy⟩) ?_
    case hy => intro w hSw; have z0 := hSw.cell k0; have z1 := hSw.cell k1; have z2 := hSw.cell k2; have z3 := hSw.cell k3; first | (go_simp; done) | (go_simp; with_reducible rfl)
    try simp only [Act.put, List.setIfInBounds_toArray, List.set_cons_zero, List.set_cons_succ, List.getElem_toArray, List.getElem_cons_zero]
    refine wpAny2_take (i := 1) (oi := _) (v := ?_) rfl (by decide) (by kernel_rfl) (by kernel_rfl) (by kernel_rfl) (by kernel_rfl) (fun _ _ _ h => h) hS (fun _ => trivial) (Or.inl ⟨by rfl, ?hy⟩) ?_
    case hy => intro w hSw; have z0 := hSw.cell k0; have z1 := hSw.cell k1; have z2 := hSw.cell k2; have z3 := hSw.cell k3; first | (go_simp; done) | (go_simp; with_reducible rfl)
    try simp only [Act.put, List.setIfInBounds_toArray, List.set_cons_zero, List.set_cons_succ, List.getElem_toArray, List.getElem_cons_zero, List.getElem_cons_succ]
    refine wpAny2_take (i := 2) (oi := _) (v := ?_) rfl (by decide) (by kernel_rfl) (by kernel_rfl) (by kernel_rfl) (by kernel_rfl) (fun _ _ _ h => h) hS (fun _ => trivial) (Or.inl ⟨by rfl, ?hy⟩) ?_
    case hy => intro w hSw; have z0 := hSw.cell k0; have z1 := hSw.cell k1; have z2 := hSw.cell k2; have z3 := hSw.cell k3; first | (go_simp; done) | (go_simp; with_reducible rfl)
    try simp only [Act.put, List.setIfInBounds_toArray, List.set_cons_zero, List.set_cons_succ, List.getElem_toArray, List.getElem_cons_zero, List.getElem_cons_succ]
    refine wpAny2_take (i := 3) (oi := _) (v := ?_) rfl (by decide) (by kernel_rfl) (by kernel_rfl) (by kernel_rfl) (by kernel_rfl) (fun _ _ _ h => h) hS (fun _ => trivial) (Or.inl ⟨by rfl, ?hy⟩) ?_
    case hy => intro w hSw; have z0 := hSw.cell k0; have z1 := hSw.cell k1; have z2 := hSw.cell k2; have z3 := hSw.cell k3; first | (go_simp; done) | (go_simp; with_reducible rfl)
    try simp only [Act.put, List.setIfInBounds_toArray, List.set_cons_zero, List.set_cons_succ, List.getElem_toArray, List.getElem_cons_zero, List.getElem_cons_succ]
    refine wpAny2_take (i := 4) (oi := _) (v := ?_) rfl (by decide) (by kernel_rfl) (by kernel_rfl) (by kernel_rfl) (by kernel_rfl) (fun _ _ _ h => h) hS (fun _ => trivial) (Or.inl ⟨by rfl, ?hy⟩) ?_
    case hy => intro w hSw; have z0 := hSw.cell k0; have z1 := hSw.cell k1; have z2 := hSw.cell k2; have z3 := hSw.cell k3; first | (go_simp; done) | (go_simp; with_reducible rfl)
    try simp only [Act.put, List.setIfInBounds_toArray, List.set_cons_zero, List.set_cons_succ, List.getElem_toArray, List.getElem_cons_zero, List.getElem_cons_succ]
    refine wpAny2_take (i := 5) (oi := _) (v := ?_) rfl (by decide) (by kernel_rfl) (by kernel_rfl) (by kernel_rfl) (by kernel_rfl) (fun _ _ _ h => h) hS (fun _ => trivial) (Or.inl ⟨by rfl, ?hy⟩) ?_
    case hy => intro w hSw; have z0 := hSw.cell k0; have z1 := hSw.cell k1; have z2 := hSw.cell k2; have z3 := hSw.cell k3; first | (go_simp; done) | (go_simp; with_reducible rfl)
    try simp only [Act.put, List.setIfInBounds_toArray, List.set_cons_zero, List.set_cons_succ, List.getElem_toArray, List.getElem_cons_zero, List.getElem_cons_succ]
    refine wpAny2_take (i := 6) (oi := _) (v := ?_) rfl (by decide) (by kernel_rfl) (by kernel_rfl) (by kernel_rfl) (by kernel_rfl) (fun _ _ _ h => h) hS (fun _ => trivial) (Or.inl ⟨by rfl, ?hy⟩) ?_
    case hy => intro w hSw; have z0 := hSw.cell k0; have z1 := hSw.cell k1; have z2 := hSw.cell k2; have z3 := hSw.cell k3; first | (go_simp; done) | (go_simp; with_reducible rfl)
    try simp only [Act.put, List.setIfInBounds_toArray, List.set_cons_zero, List.set_cons_succ, List.getElem_toArray, List.getElem_cons_zero, List.getElem_cons_succ]
    refine wpAny2_one (i := 7) (o := _) (by kernel_rfl) rfl (fun K_ hK => ?_)
    go_simp
    go_at_call 59
    refine (hcall _).mono ?_
    rintro r w3 ⟨rfl, hx3⟩
    have hS3 := hS.below hx3
    have hc3 : Below W.heap.size W w3 := ((Below.refl _ _).drew).trans hx3
    have hRz := (hc3.block w.heap.size hs1).trans hR0
    obtain ⟨q0, q1, f0, f1, hlw⟩ := cell2_of hRz
    obtain ⟨e0, e1, e2, e3⟩ := put2_of hRz (.int .i64 1) (.int .i64 z)
    have E0 := Lib.hid e0
    have E1 := Lib.hid e1
    have HBz := Lib.hid (hb0.trans (hc3.mono (Nat.le_of_lt hs1)))
    have hS4 := (hS3.setCell (a := ⟨w.heap.size, 0, none⟩) hK0 (.int .i64 1)).setCell (a := ⟨w.heap.size, 1, none⟩) hK0 (.int .i64 z)
    clear e0 e1 e2 e3 hRz
    refine hK.out _ _ (hS3) (fun _ => trivial) ?_
    clear hK K_
    try simp only [Act.put, List.setIfInBounds_toArray, List.set_cons_zero, List.set_cons_succ, List.getElem_toArray, List.getElem_cons_zero, List.getElem_cons_succ]
    refine wpAny2_one (i := 8) (o := _) (by kernel_rfl) rfl (fun K_ hK => ?_)
    go_simp
    refine hK.out _ _ (hS4) (fun _ => trivial) ?_
    clear hK K_
    try simp only [Act.put, List.setIfInBounds_toArray, List.set_cons_zero, List.set_cons_succ, List.getElem_toArray, List.getElem_cons_zero, List.getElem_cons_succ]
    refine wpAny2_take (i := 9) (oi := _) (v := ?_) rfl (by decide) (by kernel_rfl) (by kernel_rfl) (by kernel_rfl) (by kernel_rfl) (fun _ _ _ h => h) hS4 (fun _ => trivial) (Or.inl ⟨by rfl, ?hy⟩) ?_
    case hy => intro w hSw; have z0 := hSw.cell k0; have z1 := hSw.cell k1; have z2 := hSw.cell k2; have z3 := hSw.cell k3; first | (go_simp; done) | (go_simp; with_reducible rfl)
    try simp only [Act.put, List.setIfInBounds_toArray, List.set_cons_zero, List.set_cons_succ, List.getElem_toArray, List.getElem_cons_zero, List.getElem_cons_succ]
    refine wpAny2_done (by kernel_rfl) ?_ _
    go_wp2_with fail
    have e0 := E0.out
    have e1 := E1.out
    refine bodyPost_ret (v := .tuple #[vlV ⟨1, z⟩, .bool false]) (by simp [results, Tryd.results62, go_sem, e0, e1]) rfl ?_
    exact ⟨rfl, below_put2 HBz.out (Nat.le_refl _) _ _⟩
  · obtain ⟨rfl, hw⟩ := hw
    rw [show (xk == xk && xn == yn) = false from by simp [hw]] at hcall
    refine wp_region_2 (fun w' => (butKn w.heap.size W).In w') (fun _ => True) 99 (by kernel_rfl) ?_
    refine wpAny2_take (i := 0) (oi := _) (v := ?_) rfl (by decide) (by kernel_rfl) (by kernel_rfl) (by kernel_rfl) (by kernel_rfl) (fun _ _ _ h => h) hS (fun _ => trivial) (Or.inl ⟨by rfl, ?hy⟩) ?_
    case hy => intro w hSw; have z0 := hSw.cell k0; have z1 := hSw.cell k1; have z2 := hSw.cell k2; have z3 := hSw.cell k3; first | (go_simp; done) | (go_simp; with_reducible rfl)
    try simp only [Act.put, List.setIfInBounds_toArray, List.set_cons_zero, List.set_cons_succ, List.getElem_toArray, List.getElem_cons_zero]
    refine wpAny2_take (i := 1) (oi := _) (v := ?_) rfl (by decide) (by kernel_rfl) (by kernel_rfl) (by kernel_rfl) (by kernel_rfl) (fun _ _ _ h => h) hS (fun _ => trivial) (Or.inl ⟨by rfl, ?hy⟩) ?_
    case hy => intro w hSw; have z0 := hSw.cell k0; have z1 := hSw.cell k1; have z2 := hSw.cell k2; have z3 := hSw.cell k3; first | (go_simp; done) | (go_simp; with_reducible rfl)
    try simp only [Act.put, List.setIfInBounds_toArray, List.set_cons_zero, List.set_cons_succ, List.getElem_toArray, List.getElem_cons_zero, List.getElem_cons_succ]
    refine wpAny2_take (i := 2) (oi := _) (v := ?_) rfl (by decide) (by kernel_rfl) (by kernel_rfl) (by kernel_rfl) (by kernel_rfl) (fun _ _ _ h => h) hS (fun _ => trivial) (Or.inl ⟨by rfl, ?hy⟩) ?_
    case hy => intro w hSw; have z0 := hSw.cell k0; have z1 := hSw.cell k1; have z2 := hSw.cell k2; have z3 := hSw.cell k3; first | (go_simp; done) | (go_simp; with_reducible rfl)
    try simp only [Act.put, List.setIfInBounds_toArray, List.set_cons_zero, List.set_cons_succ, List.getElem_toArray, List.getElem_cons_zero, List.getElem_cons_succ]
    refine wpAny2_take (i := 3) (oi := _) (v := ?_) rfl (by decide) (by kernel_rfl) (by kernel_rfl) (by kernel_rfl) (by kernel_rfl) (fun _ _ _ h => h) hS (fun _ => trivial) (Or.inl ⟨by rfl, ?hy⟩) ?_
    case hy => intro w hSw; have z0 := hSw.cell k0; have z1 := hSw.cell k1; have z2 := hSw.cell k2; have z3 := hSw.cell k3; first | (go_simp; done) | (go_simp; with_reducible rfl)
    try simp only [Act.put, List.setIfInBounds_toArray, List.set_cons_zero, List.set_cons_succ, List.getElem_toArray, List.getElem_cons_zero, List.getElem_cons_succ]
    refine wpAny2_take (i := 4) (oi := _) (v := ?_) rfl (by decide) (by kernel_rfl) (by kernel_rfl) (by kernel_rfl) (by kernel_rfl) (fun _ _ _ h => h) hS (fun _ => trivial) (Or.inl ⟨by rfl, ?hy⟩) ?_
    case hy => intro w hSw; have z0 := hSw.cell k0; have z1 := hSw.cell k1; have z2 := hSw.cell k2; have z3 := hSw.cell k3; first | (go_simp; done) | (go_simp; with_reducible rfl)
    try simp only [Act.put, List.setIfInBounds_toArray, List.set_cons_zero, List.set_cons_succ, List.getElem_toArray, List.getElem_cons_zero, List.getElem_cons_succ]
    refine wpAny2_take (i := 5) (oi := _) (v := ?_) rfl (by decide) (by kernel_rfl) (by kernel_rfl) (by kernel_rfl) (by kernel_rfl) (fun _ _ _ h => h) hS (fun _ => trivial) (Or.inl ⟨by rfl, ?hy⟩) ?_
    case hy => intro w hSw; have z0 := hSw.cell k0; have z1 := hSw.cell k1; have z2 := hSw.cell k2; have z3 := hSw.cell k3; first | (go_simp; done) | (go_simp; with_reducible rfl)
    try simp only [Act.put, List.setIfInBounds_toArray, List.set_cons_zero, List.set_cons_succ, List.getElem_toArray, List.getElem_cons_zero, List.getElem_cons_succ]
    refine wpAny2_take (i := 6) (oi := _) (v := ?_) rfl (by decide) (by kernel_rfl) (by kernel_rfl) (by kernel_rfl) (by kernel_rfl) (fun _ _ _ h => h) hS (fun _ => trivial) (Or.inl ⟨by rfl, ?hy⟩) ?_
    case hy => intro w hSw; have z0 := hSw.cell k0; have z1 := hSw.cell k1; have z2 := hSw.cell k2; have z3 := hSw.cell k3; first | (go_simp; rfl) | (go_simp; with_reducible rfl)
    try simp only [Act.put, List.setIfInBounds_toArray, List.set_cons_zero, List.set_cons_succ, List.getElem_toArray, List.getElem_cons_zero, List.getElem_cons_succ]
    refine wpAny2_one (i := 7) (o := _) (by kernel_rfl) rfl (fun K_ hK => ?_)
    go_simp
    go_at_call 59
    refine (hcall _).mono ?_
    rintro r w3 ⟨rfl, hx3⟩
    have hS3 := hS.below hx3
    have hc3 : Below W.heap.size W w3 := ((Below.refl _ _).drew).trans hx3
    have hRz := (hc3.block w.heap.size hs1).trans hR0
    obtain ⟨q0, q1, f0, f1, hlw⟩ := cell2_of hRz
    obtain ⟨e0, e1, e2, e3⟩ := put2_of hRz (.int .i64 1) (.int .i64 z)
    have E0 := Lib.hid e0
    have E1 := Lib.hid e1
    have HBz := Lib.hid (hb0.trans (hc3.mono (Nat.le_of_lt hs1)))
    have hS4 := (hS3.setCell (a := ⟨w.heap.size, 0, none⟩) hK0 (.int .i64 1)).setCell (a := ⟨w.heap.size, 1, none⟩) hK0 (.int .i64 z)
    clear e0 e1 e2 e3 hRz
    refine hK.out _ _ (hS3) (fun _ => trivial) ?_
    clear hK K_
    try simp only [Act.put, List.setIfInBounds_toArray, List.set_cons_zero, List.set_cons_succ, List.getElem_toArray, List.getElem_cons_zero, List.getElem_cons_succ]
    refine wpAny2_one (i := 8) (o := _) (by kernel_rfl) rfl (fun K_ hK => ?_)
    go_simp
    refine hK.out _ _ (hS4) (fun _ => trivial) ?_
    clear hK K_
    try simp only [Act.put, List.setIfInBounds_toArray, List.set_cons_zero, List.set_cons_succ, List.getElem_toArray, List.getElem_cons_zero, List.getElem_cons_succ]
    refine wpAny2_take (i := 9) (oi := _) (v := ?_) rfl (by decide) (by kernel_rfl) (by kernel_rfl) (by kernel_rfl) (by kernel_rfl) (fun _ _ _ h => h) hS4 (fun _ => trivial) (Or.inl ⟨by rfl, ?hy⟩) ?_
    case hy => intro w hSw; have z0 := hSw.cell k0; have z1 := hSw.cell k1; have z2 := hSw.cell k2; have z3 := hSw.cell k3; first | (go_simp; done) | (go_simp; with_reducible rfl)
    try simp only [Act.put, List.setIfInBounds_toArray, List.set_cons_zero, List.set_cons_succ, List.getElem_toArray, List.getElem_cons_zero, List.getElem_cons_succ]
    refine wpAny2_done (by kernel_rfl) ?_ _
    go_wp2_with fail
    have e0 := E0.out
    have e1 := E1.out
    refine bodyPost_ret (v := .tuple #[vlV ⟨1, z⟩, .bool false]) (by simp [results, Tryd.results62, go_sem, e0, e1]) rfl ?_
    exact ⟨rfl, below_put2 HBz.out (Nat.le_refl _) _ _⟩
  · skip
    rw [show (xk == yk && xn == yn) = false from by simp [hw]] at hcall
    refine wp_region_2 (fun w' => (butKn w.heap.size W).In w') (fun _ => True) 99 (by kernel_rfl) ?_
    refine wpAny2_take (i := 0) (oi := _) (v := ?_) rfl (by decide) (by kernel_rfl) (by kernel_rfl) (by kernel_rfl) (by kernel_rfl) (fun _ _ _ h => h) hS (fun _ => trivial) (Or.inl ⟨by rfl, ?hy⟩) ?_
    case hy => intro w hSw; have z0 := hSw.cell k0; have z1 := hSw.cell k1; have z2 := hSw.cell k2; have z3 := hSw.cell k3; first | (go_simp; done) | (go_simp; with_reducible rfl)
    try simp only [Act.put, List.setIfInBounds_toArray, List.set_cons_zero, List.set_cons_succ, List.getElem_toArray, List.getElem_cons_zero]
    refine wpAny2_take (i := 1) (oi := _) (v := ?_) rfl (by decide) (by kernel_rfl) (by kernel_rfl) (by kernel_rfl) (by kernel_rfl) (fun _ _ _ h => h) hS (fun _ => trivial) (Or.inl ⟨by rfl, ?hy⟩) ?_
    case hy => intro w hSw; have z0 := hSw.cell k0; have z1 := hSw.cell k1; have z2 := hSw.cell k2; have z3 := hSw.cell k3; first | (go_simp; done) | (go_simp; with_reducible rfl)
    try simp only [Act.put, List.setIfInBounds_toArray, List.set_cons_zero, List.set_cons_succ, List.getElem_toArray, List.getElem_cons_zero, List.getElem_cons_succ]
    refine wpAny2_take (i := 2) (oi := _) (v := ?_) rfl (by decide) (by kernel_rfl) (by kernel_rfl) (by kernel_rfl) (by kernel_rfl) (fun _ _ _ h => h) hS (fun _ => trivial) (Or.inl ⟨by rfl, ?hy⟩) ?_
    case hy => intro w hSw; have z0 := hSw.cell k0; have z1 := hSw.cell k1; have z2 := hSw.cell k2; have z3 := hSw.cell k3; first | (go_simp; done) | (go_simp; with_reducible rfl)
    try simp only [Act.put, List.setIfInBounds_toArray, List.set_cons_zero, List.set_cons_succ, List.getElem_toArray, List.getElem_cons_zero, List.getElem_cons_succ]
    refine wpAny2_take (i := 3) (oi := _) (v := ?_) rfl (by decide) (by kernel_rfl) (by kernel_rfl) (by kernel_rfl) (by kernel_rfl) (fun _ _ _ h => h) hS (fun _ => trivial) (Or.inl ⟨by rfl, ?hy⟩) ?_
    case hy => intro w hSw; have z0 := hSw.cell k0; have z1 := hSw.cell k1; have z2 := hSw.cell k2; have z3 := hSw.cell k3; first | (go_simp; done) | (go_simp; with_reducible rfl)
    try simp only [Act.put, List.setIfInBounds_toArray, List.set_cons_zero, List.set_cons_succ, List.getElem_toArray, List.getElem_cons_zero, List.getElem_cons_succ]
    refine wpAny2_take (i := 4) (oi := _) (v := ?_) rfl (by decide) (by kernel_rfl) (by kernel_rfl) (by kernel_rfl) (by kernel_rfl) (fun _ _ _ h => h) hS (fun _ => trivial) (Or.inl ⟨by rfl, ?hy⟩) ?_
    case hy => intro w hSw; have z0 := hSw.cell k0; have z1 := hSw.cell k1; have z2 := hSw.cell k2; have z3 := hSw.cell k3; first | (go_simp; done) | (go_simp; with_reducible rfl)
    try simp only [Act.put, List.setIfInBounds_toArray, List.set_cons_zero, List.set_cons_succ, List.getElem_toArray, List.getElem_cons_zero, List.getElem_cons_succ]
    refine wpAny2_take (i := 5) (oi := _) (v := ?_) rfl (by decide) (by kernel_rfl) (by kernel_rfl) (by kernel_rfl) (by kernel_rfl) (fun _ _ _ h => h) hS (fun _ => trivial) (Or.inl ⟨by rfl, ?hy⟩) ?_
    case hy => intro w hSw; have z0 := hSw.cell k0; have z1 := hSw.cell k1; have z2 := hSw.cell k2; have z3 := hSw.cell k3; first | (go_simp; done) | (go_simp; with_reducible rfl)
    try simp only [Act.put, List.setIfInBounds_toArray, List.set_cons_zero, List.set_cons_succ, List.getElem_toArray, List.getElem_cons_zero, List.getElem_cons_succ]
    refine wpAny2_take (i := 6) (oi := _) (v := ?_) rfl (by decide) (by kernel_rfl) (by kernel_rfl) (by kernel_rfl) (by kernel_rfl) (fun _ _ _ h => h) hS (fun _ => trivial) (Or.inl ⟨by rfl, ?hy⟩) ?_
    case hy => intro w hSw; have z0 := hSw.cell k0; have z1 := hSw.cell k1; have z2 := hSw.cell k2; have z3 := hSw.cell k3; first | (go_simp; rfl) | (go_simp; with_reducible rfl)
    try simp only [Act.put, List.setIfInBounds_toArray, List.set_cons_zero, List.set_cons_succ, List.getElem_toArray, List.getElem_cons_zero, List.getElem_cons_succ]
    refine wpAny2_one (i := 7) (o := _) (by kernel_rfl) rfl (fun K_ hK => ?_)
    go_simp
    go_at_call 59
    refine (hcall _).mono ?_
    rintro r w3 ⟨rfl, hx3⟩
    have hS3 := hS.below hx3
    have hc3 : Below W.heap.size W w3 := ((Below.refl _ _).drew).trans hx3
    have hRz := (hc3.block w.heap.size hs1).trans hR0
    obtain ⟨q0, q1, f0, f1, hlw⟩ := cell2_of hRz
    obtain ⟨e0, e1, e2, e3⟩ := put2_of hRz (.int .i64 1) (.int .i64 z)
    have E0 := Lib.hid e0
    have E1 := Lib.hid e1
    have HBz := Lib.hid (hb0.trans (hc3.mono (Nat.le_of_lt hs1)))
    have hS4 := (hS3.setCell (a := ⟨w.heap.size, 0, none⟩) hK0 (.int .i64 1)).setCell (a := ⟨w.heap.size, 1, none⟩) hK0 (.int .i64 z)
    clear e0 e1 e2 e3 hRz
    refine hK.out _ _ (hS3) (fun _ => trivial) ?_
    clear hK K_
    try simp only [Act.put, List.setIfInBounds_toArray, List.set_cons_zero, List.set_cons_succ, List.getElem_toArray, List.getElem_cons_zero, List.getElem_cons_succ]
    refine wpAny2_one (i := 8) (o := _) (by kernel_rfl) rfl (fun K_ hK => ?_)
    go_simp
    refine hK.out _ _ (hS4) (fun _ => trivial) ?_
    clear hK K_
    try simp only [Act.put, List.setIfInBounds_toArray, List.set_cons_zero, List.set_cons_succ, List.getElem_toArray, List.getElem_cons_zero, List.getElem_cons_succ]
    refine wpAny2_take (i := 9) (oi := _) (v := ?_) rfl (by decide) (by kernel_rfl) (by kernel_rfl) (by kernel_rfl) (by kernel_rfl) (fun _ _ _ h => h) hS4 (fun _ => trivial) (Or.inl ⟨by rfl, ?hy⟩) ?_
    case hy => intro w hSw; have z0 := hSw.cell k0; have z1 := hSw.cell k1; have z2 := hSw.cell k2; have z3 := hSw.cell k3; first | (go_simp; done) | (go_simp; with_reducible rfl)
    try simp only [Act.put, List.setIfInBounds_toArray, List.set_cons_zero, List.set_cons_succ, List.getElem_toArray, List.getElem_cons_zero, List.getElem_cons_succ]
    refine wpAny2_done (by kernel_rfl) ?_ _
    go_wp2_with fail
    have e0 := E0.out
    have e1 := E1.out
    refine bodyPost_ret (v := .tuple #[vlV ⟨1, z⟩, .bool false]) (by simp [results, Tryd.results62, go_sem, e0, e1]) rfl ?_
    exact ⟨rfl, below_put2 HBz.out (Nat.le_refl _) _ _⟩
set_option maxHeartbeats 4000000 in
set_option maxRecDepth 100000 in
theorem ap_ne (x y : Vl) (b off c : Nat) (w : World) (d0 : w.cell? ⟨b, off, none⟩ = some (.int .i64 x.kind)) (d1 : w.cell? ⟨b, off + 1, none⟩ = some (.int .i64 x.n)) (d2 : w.cell? ⟨b, off + 2, none⟩ = some (.int .i64 y.kind)) (d3 : w.cell? ⟨b, off + 3, none⟩ = some (.int .i64 y.n)) :
    Calls Tryd.prog 62 #[.string oNe, .slice (some ⟨b, off, none⟩) 2 c] w fun r w' => r = .returned (.tuple #[vlV (appM oNe [x, y]).1, .bool (appM oNe [x, y]).2]) ∧ Below w.heap.size w w' := by
  obtain ⟨z, hz⟩ : ∃ z : Int, tv (decide (x ≠ y)) = ⟨1, z⟩ := ⟨_, rfl⟩
  have hres : appM oNe [x, y] = (⟨1, z⟩, false) := (show appM oNe [x, y] = (tv (decide (x ≠ y)), false) from rfl).trans (by rw [hz])
  rw [hres]
  clear hres
  obtain ⟨xk, xn⟩ := x
  obtain ⟨yk, yn⟩ := y
  rw [vl_ne] at hz
  have hblt : b < w.heap.size := World.block_lt_of_cell? w ⟨b, off, none⟩ d0
  dsimp only at *
  have hb0 : Below w.heap.size w (w.alloc (.cells #[.int .i64 0, .int .i64 0] 98)) := (Below.refl _ _).alloc (Nat.le_refl _) _
  have hR0 := heap_alloc_new w (.cells #[.int .i64 0, .int .i64 0] 98)
  have c0 : (w.alloc (.cells #[.int .i64 0, .int .i64 0] 98)).cell? ⟨b, off, none⟩ = some (.int .i64 xk) := by rw [hb0.cell (p := ⟨b, off, none⟩) hblt]; exact d0
  have c1 : (w.alloc (.cells #[.int .i64 0, .int .i64 0] 98)).cell? ⟨b, off + 1, none⟩ = some (.int .i64 xn) := by rw [hb0.cell (p := ⟨b, off + 1, none⟩) hblt]; exact d1
  have c2 : (w.alloc (.cells #[.int .i64 0, .int .i64 0] 98)).cell? ⟨b, off + 2, none⟩ = some (.int .i64 yk) := by rw [hb0.cell (p := ⟨b, off + 2, none⟩) hblt]; exact d2
  have c3 : (w.alloc (.cells #[.int .i64 0, .int .i64 0] 98)).cell? ⟨b, off + 3, none⟩ = some (.int .i64 yn) := by rw [hb0.cell (p := ⟨b, off + 3, none⟩) hblt]; exact d3
  have hs1 : w.heap.size < (w.alloc (.cells #[.int .i64 0, .int .i64 0] 98)).heap.size := by simp
  clear d0 d1 d2 d3
  go_enter Tryd.func62, Tryd.ntmps62
  go_wp2_with fail
  generalize w.alloc (.cells #[.int .i64 0, .int .i64 0] 98) = W at *
  have k0 : (butKn w.heap.size W).cell b off = some (.int .i64 xk) := by rw [butKn_cell (by omega)]; exact c0
  have k1 : (butKn w.heap.size W).cell b (off + 1) = some (.int .i64 xn) := by rw [butKn_cell (by omega)]; exact c1
  have k2 : (butKn w.heap.size W).cell b (off + 2) = some (.int .i64 yk) := by rw [butKn_cell (by omega)]; exact c2
  have k3 : (butKn w.heap.size W).cell b (off + 3) = some (.int .i64 yn) := by rw [butKn_cell (by omega)]; exact c3
  have hS : (butKn w.heap.size W).In W.drew := butKn_in w.heap.size W
  have hK0 : (butKn w.heap.size W) w.heap.size = none := by simp [butKn]
  have hcall := fun w' => truth_any (!(xk == yk && xn == yn)) w'
  rw [hz] at hcall
  clear c0 c1 c2 c3 hz
  rcases (show (xk = yk ∧ xn = yn) ∨ (xk = yk ∧ ¬ xn = yn) ∨ ¬ xk = yk from by by_cases h1 : xk = yk <;> by_cases h2 : xn = yn <;> simp [h1, h2]) with hw | hw | hw
  · obtain ⟨rfl, rfl⟩ := hw
    rw [show (!(xk == xk && xn == xn)) = false from by simp] at hcall
    refine wp_region_2 (fun w' => (butKn w.heap.size W).In w') (fun _ => True) 99 (by kernel_rfl) ?_
    refine wpAny2_take (i := 0) (oi := _) (v := ?_) rfl (by decide) (by kernel_rfl) (by kernel_rfl) (by kernel_rfl) (by kernel_rfl) (fun _ _ _ h => h) hS (fun _ => trivial) (Or.inl ⟨by rfl, ?hy⟩) ?_
    case hy => intro w hSw; have z0 := hSw.cell k0; have z1 := hSw.cell k1; have z2 := hSw.cell k2; have z3 := hSw.cell k3; first | (go_simp; done) | (go_simp; with_reducible rfl)
    try simp only [Act.put, List.setIfInBounds_toArray, List.set_cons_zero, List.set_cons_succ, List.getElem_toArray, List.getElem_cons_zero]
    refine wpAny2_take (i := 1) (oi := _) (v := ?_) rfl (by decide) (by kernel_rfl) (by kernel_rfl) (by kernel_rfl) (by kernel_rfl) (fun _ _ _ h => h) hS (fun _ => trivial) (Or.inl ⟨by rfl, ?hy⟩) ?_
    case hy => intro w hSw; have z0 := hSw.cell k0; have z1 := hSw.cell k1; have z2 := hSw.cell k2; have z3 := hSw.cell k3; first | (go_simp; done) | (go_simp; with_reducible rfl)
    try simp only [Act.put, List.setIfInBounds_toArray, List.set_cons_zero, List.set_cons_succ, List.getElem_toArray, List.getElem_cons_zero, List.getElem_cons_succ]
    refine wpAny2_take (i := 2) (oi := _) (v := ?_) rfl (by decide) (by kernel_rfl) (by kernel_rfl) (by kernel_rfl) (by kernel_rfl) (fun _ _ _ h => h) hS (fun _ => trivial) (Or.inl ⟨by rfl, ?hy⟩) ?_
    case hy => intro w hSw; have z0 := hSw.cell k0; have z1 := hSw.cell k1; have z2 := hSw.cell k2; have z3 := hSw.cell k3; first | (go_simp; done) | (go_simp; with_reducible rfl)
    try simp only [Act.put, List.setIfInBounds_toArray, List.set_cons_zero, List.set_cons_succ, List.getElem_toArray, List.getElem_cons_zero, List.getElem_cons_succ]
    refine wpAny2_take (i := 3) (oi := _) (v := ?_) rfl (by decide) (by kernel_rfl) (by kernel_rfl) (by kernel_rfl) (by kernel_rfl) (fun _ _ _ h => h) hS (fun _ => trivial) (Or.inl ⟨by rfl, ?hy⟩) ?_
    case hy => intro w hSw; have z0 := hSw.cell k0; have z1 := hSw.cell k1; have z2 := hSw.cell k2; have z3 := hSw.cell k3; first | (go_simp; done) | (go_simp; with_reducible rfl)
    try simp only [Act.put, List.setIfInBounds_toArray, List.set_cons_zero, List.set_cons_succ, List.getElem_toArray, List.getElem_cons_zero, List.getElem_cons_succ]
    refine wpAny2_take (i := 4) (oi := _) (v := ?_) rfl (by decide) (by kernel_rfl) (by kernel_rfl) (by kernel_rfl) (by kernel_rfl) (fun _ _ _ h => h) hS (fun _ => trivial) (Or.inl ⟨by rfl, ?hy⟩) ?_
    case hy => intro w hSw; have z0 := hSw.cell k0; have z1 := hSw.cell k1; have z2 := hSw.cell k2; have z3 := hSw.cell k3; first | (go_simp; done) | (go_simp; with_reducible rfl)
    try simp only [Act.put, List.setIfInBounds_toArray, List.set_cons_zero, List.set_cons_succ, List.getElem_toArray, List.getElem_cons_zero, List.getElem_cons_succ]
    refine wpAny2_take (i := 5) (oi := _) (v := ?_) rfl (by decide) (by kernel_rfl) (by kernel_rfl) (by kernel_rfl) (by kernel_rfl) (fun _ _ _ h => h) hS (fun _ => trivial) (Or.inl ⟨by rfl, ?hy⟩) ?_
    case hy => intro w hSw; have z0 := hSw.cell k0; have z1 := hSw.cell k1; have z2 := hSw.cell k2; have z3 := hSw.cell k3; first | (go_simp; done) | (go_simp; with_reducible rfl)
    try simp only [Act.put, List.setIfInBounds_toArray, List.set_cons_zero, List.set_cons_succ, List.getElem_toArray, List.getElem_cons_zero, List.getElem_cons_succ]
    refine wpAny2_take (i := 6) (oi := _) (v := ?_) rfl (by decide) (by kernel_rfl) (by kernel_rfl) (by kernel_rfl) (by kernel_rfl) (fun _ _ _ h => h) hS (fun _ => trivial) (Or.inl ⟨by rfl, ?hy⟩) ?_
    case hy => intro w hSw; have z0 := hSw.cell k0; have z1 := hSw.cell k1; have z2 := hSw.cell k2; have z3 := hSw.cell k3; first | (go_simp; done) | (go_simp; with_reducible rfl)
    try simp only [Act.put, List.setIfInBounds_toArray, List.set_cons_zero, List.set_cons_succ, List.getElem_toArray, List.getElem_cons_zero, List.getElem_cons_succ]
    refine wpAny2_one (i := 7) (o := _) (by kernel_rfl) rfl (fun K_ hK => ?_)
    go_simp
    go_at_call 59
    refine (hcall _).mono ?_
    rintro r w3 ⟨rfl, hx3⟩
    have hS3 := hS.below hx3
    have hc3 : Below W.heap.size W w3 := ((Below.refl _ _).drew).trans hx3
    have hRz := (hc3.block w.heap.size hs1).trans hR0
    obtain ⟨q0, q1, f0, f1, hlw⟩ := cell2_of hRz
    obtain ⟨e0, e1, e2, e3⟩ := put2_of hRz (.int .i64 1) (.int .i64 z)
    have E0 := Lib.hid e0
    have E1 := Lib.hid e1
    have HBz := Lib.hid (hb0.trans (hc3.mono (Nat.le_of_lt hs1)))
    have hS4 := (hS3.setCell (a := ⟨w.heap.size, 0, none⟩) hK0 (.int .i64 1)).setCell (a := ⟨w.heap.size, 1, none⟩) hK0 (.int .i64 z)
    clear e0 e1 e2 e3 hRz
    refine hK.out _ _ (hS3) (fun _ => trivial) ?_
    clear hK K_
    try simp only [Act.put, List.setIfInBounds_toArray, List.set_cons_zero, List.set_cons_succ, List.getElem_toArray, List.getElem_cons_zero, List.getElem_cons_succ]
    refine wpAny2_one (i := 8) (o := _) (by kernel_rfl) rfl (fun K_ hK => ?_)
    go_simp
    refine hK.out _ _ (hS4) (fun _ => trivial) ?_
    clear hK K_
    try simp only [Act.put, List.setIfInBounds_toArray, List.set_cons_zero, List.set_cons_succ, List.getElem_toArray, List.getElem_cons_zero, List.getElem_cons_succ]
    refine wpAny2_take (i := 9) (oi := _) (v := ?_) rfl (by decide) (by kernel_rfl) (by kernel_rfl) (by kernel_rfl) (by kernel_rfl) (fun _ _ _ h => h) hS4 (fun _ => trivial) (Or.inl ⟨by rfl, ?hy⟩) ?_
    case hy => intro w hSw; have z0 := hSw.cell k0; have z1 := hSw.cell k1; have z2 := hSw.cell k2; have z3 := hSw.cell k3; first | (go_simp; done) | (go_simp; with_reducible rfl)
    try simp only [Act.put, List.setIfInBounds_toArray, List.set_cons_zero, List.set_cons_succ, List.getElem_toArray, List.getElem_cons_zero, List.getElem_cons_succ]
    refine wpAny2_done (by kernel_rfl) ?_ _
    go_wp2_with fail
    have e0 := E0.out
    have e1 := E1.out
    refine bodyPost_ret (v := .tuple #[vlV ⟨1, z⟩, .bool false]) (by simp [results, Tryd.results62, go_sem, e0, e1]) rfl ?_
    exact ⟨rfl, below_put2 HBz.out (Nat.le_refl _) _ _⟩
  · obtain ⟨rfl, hw⟩ := hw
    rw [show (!(xk == xk && xn == yn)) = true from by simp [hw]] at hcall
    refine wp_region_2 (fun w' => (butKn w.heap.size W).In w') (fun _ => True) 99 (by kernel_rfl) ?_
    refine wpAny2_take (i := 0) (oi := _) (v := ?_) rfl (by decide) (by kernel_rfl) (by kernel_rfl) (by kernel_rfl) (by kernel_rfl) (fun _ _ _ h => h) hS (fun _ => trivial) (Or.inl ⟨by rfl, ?hy⟩) ?_
    case hy => intro w hSw; have z0 := hSw.cell k0; have z1 := hSw.cell k1; have z2 := hSw.cell k2; have z3 := hSw.cell k3; first | (go_simp; done) | (go_simp; with_reducible rfl)
    try simp only [Act.put, List.setIfInBounds_toArray, List.set_cons_zero, List.set_cons_succ, List.getElem_toArray, List.getElem_cons_zero]
    refine wpAny2_take (i := 1) (oi := _) (v := ?_) rfl (by decide) (by kernel_rfl) (by kernel_rfl) (by kernel_rfl) (by kernel_rfl) (fun _ _ _ h => h) hS (fun _ => trivial) (Or.inl ⟨by rfl, ?hy⟩) ?_
    case hy => intro w hSw; have z0 := hSw.cell k0; have z1 := hSw.cell k1; have z2 := hSw.cell k2; have z3 := hSw.cell k3; first | (go_simp; done) | (go_simp; with_reducible rfl)
    try simp only [Act.put, List.setIfInBounds_toArray, List.set_cons_zero, List.set_cons_succ, List.getElem_toArray, List.getElem_cons_zero, List.getElem_cons_succ]
    refine wpAny2_take (i := 2) (oi := _) (v := ?_) rfl (by decide) (by kernel_rfl) (by kernel_rfl) (by kernel_rfl) (by kernel_rfl) (fun _ _ _ h => h) hS (fun _ => trivial) (Or.inl ⟨by rfl, ?hy⟩) ?_
    case hy => intro w hSw; have z0 := hSw.cell k0; have z1 := hSw.cell k1; have z2 := hSw.cell k2; have z3 := hSw.cell k3; first | (go_simp; done) | (go_simp; with_reducible rfl)
    try simp only [Act.put, List.setIfInBounds_toArray, List.set_cons_zero, List.set_cons_succ, List.getElem_toArray, List.getElem_cons_zero, List.getElem_cons_succ]
    refine wpAny2_take (i := 3) (oi := _) (v := ?_) rfl (by decide) (by kernel_rfl) (by kernel_rfl) (by kernel_rfl) (by kernel_rfl) (fun _ _ _ h => h) hS (fun _ => trivial) (Or.inl ⟨by rfl, ?hy⟩) ?_
    case hy => intro w hSw; have z0 := hSw.cell k0; have z1 := hSw.cell k1; have z2 := hSw.cell k2; have z3 := hSw.cell k3; first | (go_simp; done) | (go_simp; with_reducible rfl)
    try simp only [Act.put, List.setIfInBounds_toArray, List.set_cons_zero, List.set_cons_succ, List.getElem_toArray, List.getElem_cons_zero, List.getElem_cons_succ]
    refine wpAny2_take (i := 4) (oi := _) (v := ?_) rfl (by decide) (by kernel_rfl) (by kernel_rfl) (by kernel_rfl) (by kernel_rfl) (fun _ _ _ h => h) hS (fun _ => trivial) (Or.inl ⟨by rfl, ?hy⟩) ?_
    case hy => intro w hSw; have z0 := hSw.cell k0; have z1 := hSw.cell k1; have z2 := hSw.cell k2; have z3 := hSw.cell k3; first | (go_simp; done) | (go_simp; with_reducible rfl)
    try simp only [Act.put, List.setIfInBounds_toArray, List.set_cons_zero, List.set_cons_succ, List.getElem_toArray, List.getElem_cons_zero, List.getElem_cons_succ]
    refine wpAny2_take (i := 5) (oi := _) (v := ?_) rfl (by decide) (by kernel_rfl) (by kernel_rfl) (by kernel_rfl) (by kernel_rfl) (fun _ _ _ h => h) hS (fun _ => trivial) (Or.inl ⟨by rfl, ?hy⟩) ?_
    case hy => intro w hSw; have z0 := hSw.cell k0; have z1 := hSw.cell k1; have z2 := hSw.cell k2; have z3 := hSw.cell k3; first | (go_simp; done) | (go_simp; with_reducible rfl)
    try simp only [Act.put, List.setIfInBounds_toArray, List.set_cons_zero, List.set_cons_succ, List.getElem_toArray, List.getElem_cons_zero, List.getElem_cons_succ]
    refine wpAny2_take (i := 6) (oi := _) (v := ?_) rfl (by decide) (by kernel_rfl) (by kernel_rfl) (by kernel_rfl) (by kernel_rfl) (fun _ _ _ h => h) hS (fun _ => trivial) (Or.inl ⟨by rfl, ?hy⟩) ?_
    case hy => intro w hSw; have z0 := hSw.cell k0; have z1 := hSw.cell k1; have z2 := hSw.cell k2; have z3 := hSw.cell k3; first | (go_simp; rfl) | (go_simp; with_reducible rfl)
    try simp only [Act.put, List.setIfInBounds_toArray, List.set_cons_zero, List.set_cons_succ, List.getElem_toArray, List.getElem_cons_zero, List.getElem_cons_succ]
    refine wpAny2_one (i := 7) (o := _) (by kernel_rfl) rfl (fun K_ hK => ?_)
    go_simp
    go_at_call 59
    refine (hcall _).mono ?_
    rintro r w3 ⟨rfl, hx3⟩
    have hS3 := hS.below hx3
    have hc3 : Below W.heap.size W w3 := ((Below.refl _ _).drew).trans hx3
    have hRz := (hc3.block w.heap.size hs1).trans hR0
    obtain ⟨q0, q1, f0, f1, hlw⟩ := cell2_of hRz
    obtain ⟨e0, e1, e2, e3⟩ := put2_of hRz (.int .i64 1) (.int .i64 z)
    have E0 := Lib.hid e0
    have E1 := Lib.hid e1
    have HBz := Lib.hid (hb0.trans (hc3.mono (Nat.le_of_lt hs1)))
    have hS4 := (hS3.setCell (a := ⟨w.heap.size, 0, none⟩) hK0 (.int .i64 1)).setCell (a := ⟨w.heap.size, 1, none⟩) hK0 (.int .i64 z)
    clear e0 e1 e2 e3 hRz
    refine hK.out _ _ (hS3) (fun _ => trivial) ?_
    clear hK K_
    try simp only [Act.put, List.setIfInBounds_toArray, List.set_cons_zero, List.set_cons_succ, List.getElem_toArray, List.getElem_cons_zero, List.getElem_cons_succ]
    refine wpAny2_one (i := 8) (o := _) (by kernel_rfl) rfl (fun K_ hK => ?_)
    go_simp
    refine hK.out _ _ (hS4) (fun _ => trivial) ?_
    clear hK K_
    try simp only [Act.put, List.setIfInBounds_toArray, List.set_cons_zero, List.set_cons_succ, List.getElem_toArray, List.getElem_cons_zero, List.getElem_cons_succ]
    refine wpAny2_take (i := 9) (oi := _) (v := ?_) rfl (by decide) (by kernel_rfl) (by kernel_rfl) (by kernel_rfl) (by kernel_rfl) (fun _ _ _ h => h) hS4 (fun _ => trivial) (Or.inl ⟨by rfl, ?hy⟩) ?_
    case hy => intro w hSw; have z0 := hSw.cell k0; have z1 := hSw.cell k1; have z2 := hSw.cell k2; have z3 := hSw.cell k3; first | (go_simp; done) | (go_simp; with_reducible rfl)
    try simp only [Act.put, List.setIfInBounds_toArray, List.set_cons_zero, List.set_cons_succ, List.getElem_toArray, List.getElem_cons_zero, List.getElem_cons_succ]
    refine wpAny2_done (by kernel_rfl) ?_ _
    go_wp2_with fail
    have e0 := E0.out
    have e1 := E1.out
    refine bodyPost_ret (v := .tuple #[vlV ⟨1, z⟩, .bool false]) (by simp [results, Tryd.results62, go_sem, e0, e1]) rfl ?_
    exact ⟨rfl, below_put2 HBz.out (Nat.le_refl _) _ _⟩
  · skip
    rw [show (!(xk == yk && xn == yn)) = true from by simp [hw]] at hcall
    refine wp_region_2 (fun w' => (butKn w.heap.size W).In w') (fun _ => True) 99 (by kernel_rfl) ?_
    refine wpAny2_take (i := 0) (oi := _) (v := ?_) rfl (by decide) (by kernel_rfl) (by kernel_rfl) (by kernel_rfl) (by kernel_rfl) (fun _ _ _ h => h) hS (fun _ => trivial) (Or.inl ⟨by rfl, ?hy⟩) ?_
    case hy => intro w hSw; have z0 := hSw.cell k0; have z1 := hSw.cell k1; have z2 := hSw.cell k2; have z3 := hSw.cell k3; first | (go_simp; done) | (go_simp; with_reducible rfl)
    try simp only [Act.put, List.setIfInBounds_toArray, List.set_cons_zero, List.set_cons_succ, List.getElem_toArray, List.getElem_cons_zero]
    refine wpAny2_take (i := 1) (oi := _) (v := ?_) rfl (by decide) (by kernel_rfl) (by kernel_rfl) (by kernel_rfl) (by kernel_rfl) (fun _ _ _ h => h) hS (fun _ => trivial) (Or.inl ⟨by rfl, ?hy⟩) ?_
    case hy => intro w hSw; have z0 := hSw.cell k0; have z1 := hSw.cell k1; have z2 := hSw.cell k2; have z3 := hSw.cell k3; first | (go_simp; done) | (go_simp; with_reducible rfl)
    try simp only [Act.put, List.setIfInBounds_toArray, List.set_cons_zero, List.set_cons_succ, List.getElem_toArray, List.getElem_cons_zero, List.getElem_cons_succ]
    refine wpAny2_take (i := 2) (oi := _) (v := ?_) rfl (by decide) (by kernel_rfl) (by kernel_rfl) (by kernel_rfl) (by kernel_rfl) (fun _ _ _ h => h) hS (fun _ => trivial) (Or.inl ⟨by rfl, ?hy⟩) ?_
    case hy => intro w hSw; have z0 := hSw.cell k0; have z1 := hSw.cell k1; have z2 := hSw.cell k2; have z3 := hSw.cell k3; first | (go_simp; done) | (go_simp; with_reducible rfl)
    try simp only [Act.put, List.setIfInBounds_toArray, List.set_cons_zero, List.set_cons_succ, List.getElem_toArray, List.getElem_cons_zero, List.getElem_cons_succ]
    refine wpAny2_take (i := 3) (oi := _) (v := ?_) rfl (by decide) (by kernel_rfl) (by kernel_rfl) (by kernel_rfl) (by kernel_rfl) (fun _ _ _ h => h) hS (fun _ => trivial) (Or.inl ⟨by rfl, ?hy⟩) ?_
    case hy => intro w hSw; have z0 := hSw.cell k0; have z1 := hSw.cell k1; have z2 := hSw.cell k2; have z3 := hSw.cell k3; first | (go_simp; done) | (go_simp; with_reducible rfl)
    try simp only [Act.put, List.setIfInBounds_toArray, List.set_cons_zero, List.set_cons_succ, List.getElem_toArray, List.getElem_cons_zero, List.getElem_cons_succ]
    refine wpAny2_take (i := 4) (oi := _) (v := ?_) rfl (by decide) (by kernel_rfl) (by kernel_rfl) (by kernel_rfl) (by kernel_rfl) (fun _ _ _ h => h) hS (fun _ => trivial) (Or.inl ⟨by rfl, ?hy⟩) ?_
    case hy => intro w hSw; have z0 := hSw.cell k0; have z1 := hSw.cell k1; have z2 := hSw.cell k2; have z3 := hSw.cell k3; first | (go_simp; done) | (go_simp; with_reducible rfl)
    try simp only [Act.put, List.setIfInBounds_toArray, List.set_cons_zero, List.set_cons_succ, List.getElem_toArray, List.getElem_cons_zero, List.getElem_cons_succ]
    refine wpAny2_take (i := 5) (oi := _) (v := ?_) rfl (by decide) (by kernel_rfl) (by kernel_rfl) (by kernel_rfl) (by kernel_rfl) (fun _ _ _ h => h) hS (fun _ => trivial) (Or.inl ⟨by rfl, ?hy⟩) ?_
    case hy => intro w hSw; have z0 := hSw.cell k0; have z1 := hSw.cell k1; have z2 := hSw.cell k2; have z3 := hSw.cell k3; first | (go_simp; done) | (go_simp; with_reducible rfl)
    try simp only [Act.put, List.setIfInBounds_toArray, List.set_cons_zero, List.set_cons_succ, List.getElem_toArray, List.getElem_cons_zero, List.getElem_cons_succ]
    refine wpAny2_take (i := 6) (oi := _) (v := ?_) rfl (by decide) (by kernel_rfl) (by kernel_rfl) (by kernel_rfl) (by kernel_rfl) (fun _ _ _ h => h) hS (fun _ => trivial) (Or.inl ⟨by rfl, ?hy⟩) ?_
    case hy => intro w hSw; have z0 := hSw.cell k0; have z1 := hSw.cell k1; have z2 := hSw.cell k2; have z3 := hSw.cell k3; first | (go_simp; rfl) | (go_simp; with_reducible rfl)
    try simp only [Act.put, List.setIfInBounds_toArray, List.set_cons_zero, List.set_cons_succ, List.getElem_toArray, List.getElem_cons_zero, List.getElem_cons_succ]
    refine wpAny2_one (i := 7) (o := _) (by kernel_rfl) rfl (fun K_ hK => ?_)
    go_simp
    go_at_call 59
    refine (hcall _).mono ?_
    rintro r w3 ⟨rfl, hx3⟩
    have hS3 := hS.below hx3
    have hc3 : Below W.heap.size W w3 := ((Below.refl _ _).drew).trans hx3
    have hRz := (hc3.block w.heap.size hs1).trans hR0
    obtain ⟨q0, q1, f0, f1, hlw⟩ := cell2_of hRz
    obtain ⟨e0, e1, e2, e3⟩ := put2_of hRz (.int .i64 1) (.int .i64 z)
    have E0 := Lib.hid e0
    have E1 := Lib.hid e1
    have HBz := Lib.hid (hb0.trans (hc3.mono (Nat.le_of_lt hs1)))
    have hS4 := (hS3.setCell (a := ⟨w.heap.size, 0, none⟩) hK0 (.int .i64 1)).setCell (a := ⟨w.heap.size, 1, none⟩) hK0 (.int .i64 z)
    clear e0 e1 e2 e3 hRz
    refine hK.out _ _ (hS3) (fun _ => trivial) ?_
    clear hK K_
    try simp only [Act.put, List.setIfInBounds_toArray, List.set_cons_zero, List.set_cons_succ, List.getElem_toArray, List.getElem_cons_zero, List.getElem_cons_succ]
    refine wpAny2_one (i := 8) (o := _) (by kernel_rfl) rfl (fun K_ hK => ?_)
    go_simp
    refine hK.out _ _ (hS4) (fun _ => trivial) ?_
    clear hK K_
    try simp only [Act.put, List.setIfInBounds_toArray, List.set_cons_zero, List.set_cons_succ, List.getElem_toArray, List.getElem_cons_zero, List.getElem_cons_succ]
    refine wpAny2_take (i := 9) (oi := _) (v := ?_) rfl (by decide) (by kernel_rfl) (by kernel_rfl) (by kernel_rfl) (by kernel_rfl) (fun _ _ _ h => h) hS4 (fun _ => trivial) (Or.inl ⟨by rfl, ?hy⟩) ?_
    case hy => intro w hSw; have z0 := hSw.cell k0; have z1 := hSw.cell k1; have z2 := hSw.cell k2; have z3 := hSw.cell k3; first | (go_simp; done) | (go_simp; with_reducible rfl)
    try simp only [Act.put, List.setIfInBounds_toArray, List.set_cons_zero, List.set_cons_succ, List.getElem_toArray, List.getElem_cons_zero, List.getElem_cons_succ]
    refine wpAny2_done (by kernel_rfl) ?_ _
    go_wp2_with fail
    have e0 := E0.out
    have e1 := E1.out
    refine bodyPost_ret (v := .tuple #[vlV ⟨1, z⟩, .bool false]) (by simp [results, Tryd.results62, go_sem, e0, e1]) rfl ?_
    exact ⟨rfl, below_put2 HBz.out (Nat.le_refl _) _ _⟩
set_option maxHeartbeats 4000000 in
set_option maxRecDepth 100000 in
theorem ap_not (x : Vl) (b off c : Nat) (w : World) (d0 : w.cell? ⟨b, off, none⟩ = some (.int .i64 x.kind)) (d1 : w.cell? ⟨b, off + 1, none⟩ = some (.int .i64 x.n)) :
    Calls Tryd.prog 62 #[.string oNot, .slice (some ⟨b, off, none⟩) 1 c] w fun r w' => r = .returned (.tuple #[vlV (appM oNot [x]).1, .bool (appM oNot [x]).2]) ∧ Below w.heap.size w w' := by
  obtain ⟨z, hz⟩ : ∃ z : Int, tv (decide (x.n = 0)) = ⟨1, z⟩ := ⟨_, rfl⟩
  have hres : appM oNot [x] = (⟨1, z⟩, false) := (show appM oNot [x] = (tv (decide (x.n = 0)), false) from rfl).trans (by rw [hz])
  rw [hres]
  clear hres
  have hblt : b < w.heap.size := World.block_lt_of_cell? w ⟨b, off, none⟩ d0
  obtain ⟨xk, xn⟩ := x
  dsimp only at *
  have hb0 : Below w.heap.size w (w.alloc (.cells #[.int .i64 0, .int .i64 0] 98)) := (Below.refl _ _).alloc (Nat.le_refl _) _
  have hR0 := heap_alloc_new w (.cells #[.int .i64 0, .int .i64 0] 98)
  have c0 : (w.alloc (.cells #[.int .i64 0, .int .i64 0] 98)).cell? ⟨b, off, none⟩ = some (.int .i64 xk) := by rw [hb0.cell (p := ⟨b, off, none⟩) hblt]; exact d0
  have c1 : (w.alloc (.cells #[.int .i64 0, .int .i64 0] 98)).cell? ⟨b, off + 1, none⟩ = some (.int .i64 xn) := by rw [hb0.cell (p := ⟨b, off + 1, none⟩) hblt]; exact d1
  have hs1 : w.heap.size < (w.alloc (.cells #[.int .i64 0, .int .i64 0] 98)).heap.size := by simp
  clear d0 d1
  go_enter Tryd.func62, Tryd.ntmps62
  go_wp2_with fail
  have hcall := fun w' => truth_any (decide (xn = 0)) w'
  rw [hz] at hcall
  rw [beq_zero]
  refine (hcall _).mono ?_
  rintro r w3 ⟨rfl, hc3⟩
  have hRz := (hc3.block w.heap.size hs1).trans hR0
  obtain ⟨q0, q1, f0, f1, hlw⟩ := cell2_of hRz
  obtain ⟨e0, e1, e2, e3⟩ := put2_of hRz (.int .i64 1) (.int .i64 z)
  have E0 := Lib.hid e0
  have E1 := Lib.hid e1
  have HBz := Lib.hid (hb0.trans (hc3.mono (Nat.le_of_lt hs1)))
  clear e0 e1 e2 e3 hRz
  go_wp2_with fail
  have e0 := E0.out
  have e1 := E1.out
  refine bodyPost_ret (v := .tuple #[vlV ⟨1, z⟩, .bool false]) (by simp [results, Tryd.results62, go_sem, e0, e1]) rfl ?_
  exact ⟨rfl, below_put2 HBz.out (Nat.le_refl _) _ _⟩
set_option maxHeartbeats 4000000 in
set_option maxRecDepth 100000 in
theorem ap_neg (x : Vl) (b off c : Nat) (w : World) (d0 : w.cell? ⟨b, off, none⟩ = some (.int .i64 x.kind)) (d1 : w.cell? ⟨b, off + 1, none⟩ = some (.int .i64 x.n)) :
    Calls Tryd.prog 62 #[.string oNeg, .slice (some ⟨b, off, none⟩) 1 c] w fun r w' => r = .returned (.tuple #[vlV (appM oNeg [x]).1, .bool (appM oNeg [x]).2]) ∧ Below w.heap.size w w' := by
  obtain ⟨z, hz⟩ : ∃ z : Int, wv (-x.n) = ⟨2, z⟩ := ⟨_, rfl⟩
  have hres : appM oNeg [x] = (⟨2, z⟩, false) := (show appM oNeg [x] = (wv (-x.n), false) from rfl).trans (by rw [hz])
  rw [hres]
  clear hres
  have hblt : b < w.heap.size := World.block_lt_of_cell? w ⟨b, off, none⟩ d0
  obtain ⟨xk, xn⟩ := x
  dsimp only at *
  have hb0 : Below w.heap.size w (w.alloc (.cells #[.int .i64 0, .int .i64 0] 98)) := (Below.refl _ _).alloc (Nat.le_refl _) _
  have hR0 := heap_alloc_new w (.cells #[.int .i64 0, .int .i64 0] 98)
  have c0 : (w.alloc (.cells #[.int .i64 0, .int .i64 0] 98)).cell? ⟨b, off, none⟩ = some (.int .i64 xk) := by rw [hb0.cell (p := ⟨b, off, none⟩) hblt]; exact d0
  have c1 : (w.alloc (.cells #[.int .i64 0, .int .i64 0] 98)).cell? ⟨b, off + 1, none⟩ = some (.int .i64 xn) := by rw [hb0.cell (p := ⟨b, off + 1, none⟩) hblt]; exact d1
  have hs1 : w.heap.size < (w.alloc (.cells #[.int .i64 0, .int .i64 0] 98)).heap.size := by simp
  clear d0 d1
  go_enter Tryd.func62, Tryd.ntmps62
  go_wp2_with fail
  have hcall := fun w' => whole_any (RowKit.wrap64 (-xn)) w'
  rw [wv_wrap64, hz] at hcall
  refine (hcall _).mono ?_
  rintro r w3 ⟨rfl, hc3⟩
  have hRz := (hc3.block w.heap.size hs1).trans hR0
  obtain ⟨q0, q1, f0, f1, hlw⟩ := cell2_of hRz
  obtain ⟨e0, e1, e2, e3⟩ := put2_of hRz (.int .i64 2) (.int .i64 z)
  have E0 := Lib.hid e0
  have E1 := Lib.hid e1
  have HBz := Lib.hid (hb0.trans (hc3.mono (Nat.le_of_lt hs1)))
  clear e0 e1 e2 e3 hRz
  go_wp2_with fail
  have e0 := E0.out
  have e1 := E1.out
  refine bodyPost_ret (v := .tuple #[vlV ⟨2, z⟩, .bool false]) (by simp [results, Tryd.results62, go_sem, e0, e1]) rfl ?_
  exact ⟨rfl, below_put2 HBz.out (Nat.le_refl _) _ _⟩
set_option maxHeartbeats 4000000 in
set_option maxRecDepth 100000 in
theorem ap_if1 (x y u : Vl) (hx : x.n = 1) (b off c : Nat) (w : World) (d0 : w.cell? ⟨b, off, none⟩ = some (.int .i64 x.kind)) (d1 : w.cell? ⟨b, off + 1, none⟩ = some (.int .i64 x.n)) (d2 : w.cell? ⟨b, off + 2, none⟩ = some (.int .i64 y.kind)) (d3 : w.cell? ⟨b, off + 3, none⟩ = some (.int .i64 y.n)) (d4 : w.cell? ⟨b, off + 4, none⟩ = some (.int .i64 u.kind)) (d5 : w.cell? ⟨b, off + 5, none⟩ = some (.int .i64 u.n)) :
    Calls Tryd.prog 62 #[.string oIf, .slice (some ⟨b, off, none⟩) 3 c] w fun r w' => r = .returned (.tuple #[vlV (appM oIf [x, y, u]).1, .bool (appM oIf [x, y, u]).2]) ∧ Below w.heap.size w w' := by
  have hres : appM oIf [x, y, u] = (y, false) := by unfold appM; simp [hx]
  rw [hres]
  clear hres
  have hblt : b < w.heap.size := World.block_lt_of_cell? w ⟨b, off, none⟩ d0
  obtain ⟨xk, xn⟩ := x
  obtain ⟨yk, yn⟩ := y
  obtain ⟨uk, un⟩ := u
  dsimp only at *
  have hb0 : Below w.heap.size w (w.alloc (.cells #[.int .i64 0, .int .i64 0] 98)) := (Below.refl _ _).alloc (Nat.le_refl _) _
  have hR0 := heap_alloc_new w (.cells #[.int .i64 0, .int .i64 0] 98)
  have c0 : (w.alloc (.cells #[.int .i64 0, .int .i64 0] 98)).cell? ⟨b, off, none⟩ = some (.int .i64 xk) := by rw [hb0.cell (p := ⟨b, off, none⟩) hblt]; exact d0
  have c1 : (w.alloc (.cells #[.int .i64 0, .int .i64 0] 98)).cell? ⟨b, off + 1, none⟩ = some (.int .i64 xn) := by rw [hb0.cell (p := ⟨b, off + 1, none⟩) hblt]; exact d1
  have c2 : (w.alloc (.cells #[.int .i64 0, .int .i64 0] 98)).cell? ⟨b, off + 2, none⟩ = some (.int .i64 yk) := by rw [hb0.cell (p := ⟨b, off + 2, none⟩) hblt]; exact d2
  have c3 : (w.alloc (.cells #[.int .i64 0, .int .i64 0] 98)).cell? ⟨b, off + 3, none⟩ = some (.int .i64 yn) := by rw [hb0.cell (p := ⟨b, off + 3, none⟩) hblt]; exact d3
  have c4 : (w.alloc (.cells #[.int .i64 0, .int .i64 0] 98)).cell? ⟨b, off + 4, none⟩ = some (.int .i64 uk) := by rw [hb0.cell (p := ⟨b, off + 4, none⟩) hblt]; exact d4
  have c5 : (w.alloc (.cells #[.int .i64 0, .int .i64 0] 98)).cell? ⟨b, off + 5, none⟩ = some (.int .i64 un) := by rw [hb0.cell (p := ⟨b, off + 5, none⟩) hblt]; exact d5
  have hs1 : w.heap.size < (w.alloc (.cells #[.int .i64 0, .int .i64 0] 98)).heap.size := by simp
  clear d0 d1 d2 d3 d4 d5
  go_enter Tryd.func62, Tryd.ntmps62
  subst hx
  have hc0 : Below (w.alloc (.cells #[.int .i64 0, .int .i64 0] 98)).heap.size (w.alloc (.cells #[.int .i64 0, .int .i64 0] 98)) (w.alloc (.cells #[.int .i64 0, .int .i64 0] 98)) := Below.refl _ _
  have hRz := (hc0.block w.heap.size hs1).trans hR0
  obtain ⟨q0, q1, f0, f1, hlw⟩ := cell2_of hRz
  obtain ⟨e0, e1, e2, e3⟩ := put2_of hRz (.int .i64 yk) (.int .i64 yn)
  have E0 := Lib.hid e0
  have E1 := Lib.hid e1
  have HBz := Lib.hid (hb0.trans (hc0.mono (Nat.le_of_lt hs1)))
  clear e0 e1 e2 e3 hRz
  go_wp2_with fail
  have e0 := E0.out
  have e1 := E1.out
  refine bodyPost_ret (v := .tuple #[vlV ⟨yk, yn⟩, .bool false]) (by simp [results, Tryd.results62, go_sem]) rfl ?_
  exact ⟨rfl, (Below.refl _ _).alloc (Nat.le_refl _) _⟩
set_option maxHeartbeats 4000000 in
set_option maxRecDepth 100000 in
theorem ap_if2 (x y u : Vl) (hx : x.n ≠ 1) (b off c : Nat) (w : World) (d0 : w.cell? ⟨b, off, none⟩ = some (.int .i64 x.kind)) (d1 : w.cell? ⟨b, off + 1, none⟩ = some (.int .i64 x.n)) (d2 : w.cell? ⟨b, off + 2, none⟩ = some (.int .i64 y.kind)) (d3 : w.cell? ⟨b, off + 3, none⟩ = some (.int .i64 y.n)) (d4 : w.cell? ⟨b, off + 4, none⟩ = some (.int .i64 u.kind)) (d5 : w.cell? ⟨b, off + 5, none⟩ = some (.int .i64 u.n)) :
    Calls Tryd.prog 62 #[.string oIf, .slice (some ⟨b, off, none⟩) 3 c] w fun r w' => r = .returned (.tuple #[vlV (appM oIf [x, y, u]).1, .bool (appM oIf [x, y, u]).2]) ∧ Below w.heap.size w w' := by
  have hres : appM oIf [x, y, u] = (u, false) := by unfold appM; simp [hx]
  rw [hres]
  clear hres
  have hblt : b < w.heap.size := World.block_lt_of_cell? w ⟨b, off, none⟩ d0
  obtain ⟨xk, xn⟩ := x
  obtain ⟨yk, yn⟩ := y
  obtain ⟨uk, un⟩ := u
  dsimp only at *
  have hb0 : Below w.heap.size w (w.alloc (.cells #[.int .i64 0, .int .i64 0] 98)) := (Below.refl _ _).alloc (Nat.le_refl _) _
  have hR0 := heap_alloc_new w (.cells #[.int .i64 0, .int .i64 0] 98)
  have c0 : (w.alloc (.cells #[.int .i64 0, .int .i64 0] 98)).cell? ⟨b, off, none⟩ = some (.int .i64 xk) := by rw [hb0.cell (p := ⟨b, off, none⟩) hblt]; exact d0
  have c1 : (w.alloc (.cells #[.int .i64 0, .int .i64 0] 98)).cell? ⟨b, off + 1, none⟩ = some (.int .i64 xn) := by rw [hb0.cell (p := ⟨b, off + 1, none⟩) hblt]; exact d1
  have c2 : (w.alloc (.cells #[.int .i64 0, .int .i64 0] 98)).cell? ⟨b, off + 2, none⟩ = some (.int .i64 yk) := by rw [hb0.cell (p := ⟨b, off + 2, none⟩) hblt]; exact d2
  have c3 : (w.alloc (.cells #[.int .i64 0, .int .i64 0] 98)).cell? ⟨b, off + 3, none⟩ = some (.int .i64 yn) := by rw [hb0.cell (p := ⟨b, off + 3, none⟩) hblt]; exact d3
  have c4 : (w.alloc (.cells #[.int .i64 0, .int .i64 0] 98)).cell? ⟨b, off + 4, none⟩ = some (.int .i64 uk) := by rw [hb0.cell (p := ⟨b, off + 4, none⟩) hblt]; exact d4
  have c5 : (w.alloc (.cells #[.int .i64 0, .int .i64 0] 98)).cell? ⟨b, off + 5, none⟩ = some (.int .i64 un) := by rw [hb0.cell (p := ⟨b, off + 5, none⟩) hblt]; exact d5
  have hs1 : w.heap.size < (w.alloc (.cells #[.int .i64 0, .int .i64 0] 98)).heap.size := by simp
  clear d0 d1 d2 d3 d4 d5
  go_enter Tryd.func62, Tryd.ntmps62
  have hc0 : Below (w.alloc (.cells #[.int .i64 0, .int .i64 0] 98)).heap.size (w.alloc (.cells #[.int .i64 0, .int .i64 0] 98)) (w.alloc (.cells #[.int .i64 0, .int .i64 0] 98)) := Below.refl _ _
  have hRz := (hc0.block w.heap.size hs1).trans hR0
  obtain ⟨q0, q1, f0, f1, hlw⟩ := cell2_of hRz
  obtain ⟨e0, e1, e2, e3⟩ := put2_of hRz (.int .i64 uk) (.int .i64 un)
  have E0 := Lib.hid e0
  have E1 := Lib.hid e1
  have HBz := Lib.hid (hb0.trans (hc0.mono (Nat.le_of_lt hs1)))
  clear e0 e1 e2 e3 hRz
  go_wp2_with fail
  have e0 := E0.out
  have e1 := E1.out
  refine bodyPost_ret (v := .tuple #[vlV ⟨uk, un⟩, .bool false]) (by simp [results, Tryd.results62, go_sem]) rfl ?_
  exact ⟨rfl, (Below.refl _ _).alloc (Nat.le_refl _) _⟩
end Go.Proofs.YthihoafemahgmaaDoor
