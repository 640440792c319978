/- Walks: lustrumlaw2.two, one: terms made of terms. -/
import Derived.Test.YthejomlhmdeimaaDoorTkM
import Derived.Lib.Hide
import Derived.Test.YthejomlhmdeimaaDoorFxM
import Derived.Test.YthejomlhmdeimaaDoorGof
import Derived.Test.YthejomlhmdeimaaDoorEof
import Derived.Test.YthejomlhmdeimaaDoorRg
import Derived.Test.YthejomlhmdeimaaDoorRfL
namespace Go.Proofs.YthejomlhmdeimaaDoor
set_option maxRecDepth 100000
set_option maxHeartbeats 16000000
open Go.RowKit Mx
theorem size_allocs : ∀ (l : List Obj) (w : World), (l.foldl World.alloc w).heap.size = w.heap.size + l.length
 | [], w => by simp
 | o :: l, w => by rw [List.foldl_cons, size_allocs l]; simp; omega
theorem below_allocs' (n : Nat) : ∀ (l : List Obj) (w0 w : World), Below n w0 w → n ≤ w.heap.size → Below n w0 (l.foldl World.alloc w)
 | [], _, _, h, _ => h
 | o :: l, w0, w, h, hn => by rw [List.foldl_cons]; exact below_allocs' n l w0 _ (h.alloc hn o) (by simp; omega)
theorem below_allocs (l : List Obj) (w : World) : Below w.heap.size w (l.foldl World.alloc w) := below_allocs' _ l w w (Below.refl _ _) (Nat.le_refl _)
theorem heap_allocs : ∀ (l : List Obj) (w : World) (i : Nat), i < l.length → (l.foldl World.alloc w).heap[w.heap.size + i]? = l[i]?
 | [], w, i, h => by simp at h
 | o :: l, w, 0, _ => by
  rw [List.foldl_cons]
  have h1 := (below_allocs l (w.alloc o)).block w.heap.size (by simp)
  rw [Nat.add_zero, h1, heap_alloc_new]
  rfl
 | o :: l, w, i + 1, h => by
  rw [List.foldl_cons]
  have h1 := heap_allocs l (w.alloc o) i (by simpa using h)
  rw [World.size_alloc] at h1
  rw [show w.heap.size + (i + 1) = w.heap.size + 1 + i from by omega, h1]
  rfl
theorem join_step {H : Kn} {w w' : World} (hH : H.In w) (hb : Below w.heap.size w w') : Kn.Step H w (joinKn H w.heap.size w') w' :=
 ⟨joinKn_le hH w', fun b hlt => by unfold joinKn; rw [if_pos hlt], joinKn_in hH hb, hb⟩
theorem join_cell {H : Kn} {n : Nat} {w : World} {b : Nat} (h : n ≤ b) (i : Nat) : (joinKn H n w).cell b i = w.cell? ⟨b, i, none⟩ := by
 rw [← allKn_cell]
 simp [Kn.cell, joinKn, allKn, Nat.not_lt.2 h]
theorem ExV.shape {H : Kn} {e : Ex} {v : Value} (h : ExV H e v) : ∃ a c, v = .agg #[.string e.op, .int .i64 e.n, .string e.s, .slice a e.l.length c] ∧ ExsV H e.l (.slice a e.l.length c) := by
 obtain ⟨u, rfl, hu⟩ := h
 obtain ⟨a, c, rfl⟩ := hu.len
 exact ⟨a, c, rfl, hu⟩
theorem two_any (op : ByteArray) (a b : Ex) (va vb : Value) (H : Kn) (ha : ExV H a va) (hb : ExV H b vb) (w : World) (hH : H.In w) :
  Calls Tryd.prog 9 #[.string op, va, vb] w fun r w' => ∃ v K, r = .returned v ∧ ExV K (.mk op 0 ⟨#[]⟩ [a, b]) v ∧ Kn.Step H w K w' := by
 obtain ⟨aa, ca, rfl, hua⟩ := ha.shape
 obtain ⟨ab, cb, rfl, hub⟩ := hb.shape
 have HA := Lib.hid hua
 have HB := Lib.hid hub
 clear ha hb hua hub
 go_enter Tryd.func9, Tryd.ntmps9
 go_wp2_with fail
 have hbW : Below w.heap.size w ((((w.alloc (.cells #[.string a.op, .int .i64 a.n, .string a.s, .slice aa a.l.length ca] 24)).alloc (.cells #[.string b.op, .int .i64 b.n, .string b.s, .slice ab b.l.length cb] 24)).alloc (.cells #[.string op, .int .i64 0, .string ⟨#[]⟩, .slice (some ⟨w.heap.size + 1 + 1 + 1, 0, none⟩) 2 2] 24)).alloc (.cells #[.string a.op, .int .i64 a.n, .string a.s, .slice aa a.l.length ca, .string b.op, .int .i64 b.n, .string b.s, .slice ab b.l.length cb] 24)) := by go_grown
 have hq : ∀ i, World.cell? ((((w.alloc (.cells #[.string a.op, .int .i64 a.n, .string a.s, .slice aa a.l.length ca] 24)).alloc (.cells #[.string b.op, .int .i64 b.n, .string b.s, .slice ab b.l.length cb] 24)).alloc (.cells #[.string op, .int .i64 0, .string ⟨#[]⟩, .slice (some ⟨w.heap.size + 1 + 1 + 1, 0, none⟩) 2 2] 24)).alloc (.cells #[.string a.op, .int .i64 a.n, .string a.s, .slice aa a.l.length ca, .string b.op, .int .i64 b.n, .string b.s, .slice ab b.l.length cb] 24)) ⟨w.heap.size + 1 + 1, i, none⟩ = (#[.string op, .int .i64 0, .string ⟨#[]⟩, .slice (some ⟨w.heap.size + 1 + 1 + 1, 0, none⟩) 2 2] : Array Value)[i]? := fun i => by
  rw [World.cell?_alloc_past _ _ _ (by simp)]
  have := World.cell?_alloc_new (w := ((w.alloc (.cells #[.string a.op, .int .i64 a.n, .string a.s, .slice aa a.l.length ca] 24)).alloc (.cells #[.string b.op, .int .i64 b.n, .string b.s, .slice ab b.l.length cb] 24))) #[.string op, .int .i64 0, .string ⟨#[]⟩, .slice (some ⟨w.heap.size + 1 + 1 + 1, 0, none⟩) 2 2] 24 i
  simp only [World.size_alloc] at this
  exact this
 have hs : ∀ i, World.cell? ((((w.alloc (.cells #[.string a.op, .int .i64 a.n, .string a.s, .slice aa a.l.length ca] 24)).alloc (.cells #[.string b.op, .int .i64 b.n, .string b.s, .slice ab b.l.length cb] 24)).alloc (.cells #[.string op, .int .i64 0, .string ⟨#[]⟩, .slice (some ⟨w.heap.size + 1 + 1 + 1, 0, none⟩) 2 2] 24)).alloc (.cells #[.string a.op, .int .i64 a.n, .string a.s, .slice aa a.l.length ca, .string b.op, .int .i64 b.n, .string b.s, .slice ab b.l.length cb] 24)) ⟨w.heap.size + 1 + 1 + 1, i, none⟩ = (#[.string a.op, .int .i64 a.n, .string a.s, .slice aa a.l.length ca, .string b.op, .int .i64 b.n, .string b.s, .slice ab b.l.length cb] : Array Value)[i]? := fun i => by
  have := World.cell?_alloc_new (w := (((w.alloc (.cells #[.string a.op, .int .i64 a.n, .string a.s, .slice aa a.l.length ca] 24)).alloc (.cells #[.string b.op, .int .i64 b.n, .string b.s, .slice ab b.l.length cb] 24)).alloc (.cells #[.string op, .int .i64 0, .string ⟨#[]⟩, .slice (some ⟨w.heap.size + 1 + 1 + 1, 0, none⟩) 2 2] 24))) #[.string a.op, .int .i64 a.n, .string a.s, .slice aa a.l.length ca, .string b.op, .int .i64 b.n, .string b.s, .slice ab b.l.length cb] 24 i
  simp only [World.size_alloc] at this
  exact this
 have hst := join_step hH hbW
 generalize (((w.alloc (.cells #[.string a.op, .int .i64 a.n, .string a.s, .slice aa a.l.length ca] 24)).alloc (.cells #[.string b.op, .int .i64 b.n, .string b.s, .slice ab b.l.length cb] 24)).alloc (.cells #[.string op, .int .i64 0, .string ⟨#[]⟩, .slice (some ⟨w.heap.size + 1 + 1 + 1, 0, none⟩) 2 2] 24)).alloc (.cells #[.string a.op, .int .i64 a.n, .string a.s, .slice aa a.l.length ca, .string b.op, .int .i64 b.n, .string b.s, .slice ab b.l.length cb] 24) = W at *
 have q0 := hq 0
 have q1 := hq 1
 have q2 := hq 2
 have q3 := hq 3
 simp at q0 q1 q2 q3
 refine bodyPost_ret (v := .agg #[.string op, .int .i64 0, .string ⟨#[]⟩, .slice (some ⟨w.heap.size + 1 + 1 + 1, 0, none⟩) 2 2]) (by simp [results, Tryd.results9, go_sem, q0, q1, q2, q3]) rfl ?_
 refine ⟨_, _, rfl, ⟨_, rfl, .inr ⟨_, 0, 2, rfl, by simp [Ex.l], by unfold maxLen; omega, ?_⟩⟩, hst⟩
 have hc : ∀ j, (joinKn H w.heap.size W).cell (w.heap.size + 1 + 1 + 1) j = (#[.string a.op, .int .i64 a.n, .string a.s, .slice aa a.l.length ca, .string b.op, .int .i64 b.n, .string b.s, .slice ab b.l.length cb] : Array Value)[j]? := fun j => by rw [join_cell (by omega)]; exact hs j
 simp only [ExsAt, Ex.l, Nat.zero_add]
 exact ⟨ExAt.mk (hc 0) (hc 1) (hc 2) (hc 3) (HA.out.le hst.le), ExAt.mk (hc 4) (hc 5) (hc 6) (hc 7) (HB.out.le hst.le), trivial⟩
theorem one_any (op : ByteArray) (a : Ex) (va : Value) (H : Kn) (ha : ExV H a va) (w : World) (hH : H.In w) :
  Calls Tryd.prog 10 #[.string op, va] w fun r w' => ∃ v K, r = .returned v ∧ ExV K (.mk op 0 ⟨#[]⟩ [a]) v ∧ Kn.Step H w K w' := by
 obtain ⟨aa, ca, rfl, hua⟩ := ha.shape
 have HA := Lib.hid hua
 clear ha hua
 go_enter Tryd.func10, Tryd.ntmps10
 go_wp2_with fail
 have hbW : Below w.heap.size w (((w.alloc (.cells #[.string a.op, .int .i64 a.n, .string a.s, .slice aa a.l.length ca] 24)).alloc (.cells #[.string op, .int .i64 0, .string ⟨#[]⟩, .slice (some ⟨w.heap.size + 1 + 1, 0, none⟩) 1 1] 24)).alloc (.cells #[.string a.op, .int .i64 a.n, .string a.s, .slice aa a.l.length ca] 24)) := by go_grown
 have hq : ∀ i, World.cell? (((w.alloc (.cells #[.string a.op, .int .i64 a.n, .string a.s, .slice aa a.l.length ca] 24)).alloc (.cells #[.string op, .int .i64 0, .string ⟨#[]⟩, .slice (some ⟨w.heap.size + 1 + 1, 0, none⟩) 1 1] 24)).alloc (.cells #[.string a.op, .int .i64 a.n, .string a.s, .slice aa a.l.length ca] 24)) ⟨w.heap.size + 1, i, none⟩ = (#[.string op, .int .i64 0, .string ⟨#[]⟩, .slice (some ⟨w.heap.size + 1 + 1, 0, none⟩) 1 1] : Array Value)[i]? := fun i => by
  rw [World.cell?_alloc_past _ _ _ (by simp)]
  have := World.cell?_alloc_new (w := (w.alloc (.cells #[.string a.op, .int .i64 a.n, .string a.s, .slice aa a.l.length ca] 24))) #[.string op, .int .i64 0, .string ⟨#[]⟩, .slice (some ⟨w.heap.size + 1 + 1, 0, none⟩) 1 1] 24 i
  simp only [World.size_alloc] at this
  exact this
 have hs : ∀ i, World.cell? (((w.alloc (.cells #[.string a.op, .int .i64 a.n, .string a.s, .slice aa a.l.length ca] 24)).alloc (.cells #[.string op, .int .i64 0, .string ⟨#[]⟩, .slice (some ⟨w.heap.size + 1 + 1, 0, none⟩) 1 1] 24)).alloc (.cells #[.string a.op, .int .i64 a.n, .string a.s, .slice aa a.l.length ca] 24)) ⟨w.heap.size + 1 + 1, i, none⟩ = (#[.string a.op, .int .i64 a.n, .string a.s, .slice aa a.l.length ca] : Array Value)[i]? := fun i => by
  have := World.cell?_alloc_new (w := ((w.alloc (.cells #[.string a.op, .int .i64 a.n, .string a.s, .slice aa a.l.length ca] 24)).alloc (.cells #[.string op, .int .i64 0, .string ⟨#[]⟩, .slice (some ⟨w.heap.size + 1 + 1, 0, none⟩) 1 1] 24))) #[.string a.op, .int .i64 a.n, .string a.s, .slice aa a.l.length ca] 24 i
  simp only [World.size_alloc] at this
  exact this
 have hst := join_step hH hbW
 generalize ((w.alloc (.cells #[.string a.op, .int .i64 a.n, .string a.s, .slice aa a.l.length ca] 24)).alloc (.cells #[.string op, .int .i64 0, .string ⟨#[]⟩, .slice (some ⟨w.heap.size + 1 + 1, 0, none⟩) 1 1] 24)).alloc (.cells #[.string a.op, .int .i64 a.n, .string a.s, .slice aa a.l.length ca] 24) = W at *
 have q0 := hq 0
 have q1 := hq 1
 have q2 := hq 2
 have q3 := hq 3
 simp at q0 q1 q2 q3
 refine bodyPost_ret (v := .agg #[.string op, .int .i64 0, .string ⟨#[]⟩, .slice (some ⟨w.heap.size + 1 + 1, 0, none⟩) 1 1]) (by simp [results, Tryd.results10, go_sem, q0, q1, q2, q3]) rfl ?_
 refine ⟨_, _, rfl, ⟨_, rfl, .inr ⟨_, 0, 1, rfl, by simp [Ex.l], by unfold maxLen; omega, ?_⟩⟩, hst⟩
 have hc : ∀ j, (joinKn H w.heap.size W).cell (w.heap.size + 1 + 1) j = (#[.string a.op, .int .i64 a.n, .string a.s, .slice aa a.l.length ca] : Array Value)[j]? := fun j => by rw [join_cell (by omega)]; exact hs j
 simp only [ExsAt, Ex.l, Nat.zero_add]
 exact ⟨ExAt.mk (hc 0) (hc 1) (hc 2) (hc 3) (HA.out.le hst.le), trivial⟩
end Go.Proofs.YthejomlhmdeimaaDoor
namespace Go.Proofs.YthejomlhmdeimaaDoor
set_option maxRecDepth 100000
set_option maxHeartbeats 16000000
open Go.RowKit Mx
theorem run_fault0 (a b : Int) (w : World) : Sem.run Tryd.prog (Instr.field 77 (.agg #[.int .i64 a, .int .i64 b]) 0) w = .ok (.int .i64 a) w := by
 simp [Instr.field, run_underlying Tryd.underlying77, part, asAgg, Result.andThen]
def jnKn (R : Nat) (H : Kn) (n : Nat) (w : World) : Kn := fun b => if b = R then none else if b < n then H b else w.heap[b]?
theorem jnKn_self (R : Nat) (H : Kn) (n : Nat) (w : World) : jnKn R H n w R = none := by simp [jnKn]
theorem jnKn_old {R : Nat} {H : Kn} {n : Nat} {w : World} {b : Nat} (h : b < n) (hR : n ≤ R) : jnKn R H n w b = H b := by
 unfold jnKn
 rw [if_neg (by omega), if_pos h]
theorem jnKn_in (R : Nat) {H : Kn} {w w' : World} (h : H.In w) (hb : Below w.heap.size w w') : (jnKn R H w.heap.size w').In w' := fun b o e => by
 unfold jnKn at e
 split at e
 ·cases e
 ·split at e
  ·rename_i hlt; rw [hb.block b hlt]; exact h b o e
  ·exact e
theorem jnKn_cell {R : Nat} {H : Kn} {n : Nat} {w : World} {b : Nat} (h : b ≠ R) (hn : n ≤ b) (i : Nat) : (jnKn R H n w).cell b i = w.cell? ⟨b, i, none⟩ := by
 rw [← allKn_cell]
 simp [Kn.cell, jnKn, allKn, h, Nat.not_lt.2 hn]
theorem jnKn_le {R : Nat} {H : Kn} {w : World} (h : H.In w) (w' : World) (hR : w.heap.size ≤ R) : H.le (jnKn R H w.heap.size w') := fun b o e => by
 rw [jnKn_old (h.lt e) hR]
 exact e
theorem pair_sizes {kind : Int} {a b : Ex} {ins : List (List Vl)} (_h : heavy (pairP kind a b) = false) (hi : ∀ x ∈ ins, x.length ≤ 1000000) : (pairP kind a b).ins.length ≤ 1000000 ∧ (pairP kind a b).fl.length ≤ 1000000 ∧ (pairP kind a b).outs.length ≤ 1000000000 ∧ (pairP kind a b).as.length ≤ 1000000 ∧ (pairP kind a b).cs.length ≤ 1000000 ∧ ∀ l ∈ ins, l.length ≤ 1000000 :=
 ⟨by show 2 ≤ 1000000; omega, by show 2 ≤ 1000000; omega, by show 2 ≤ 1000000000; omega, by show 0 ≤ 1000000; omega, by show 0 ≤ 1000000; omega, hi⟩
theorem pair_parts {kind : Int} {a b : Ex} (h : heavy (pairP kind a b) = false) : Ex.partsL (pairP kind a b).terms ≤ 1000000000 := by
 have hpl := partsL_le_weightL (pairP kind a b).terms
 unfold heavy at h
 simp only [Bool.or_eq_false_iff, decide_eq_false_iff_not] at h
 omega
theorem pair_any (kind : Int) (a b : Ex) (va vb : Value) (H : Kn) (ha : ExV H a va) (hb : ExV H b vb) (hz : a.weight + b.weight ≤ 100000000) (w : World) (hH : H.In w) :
  Calls Tryd.prog 8 #[.int .i64 kind, va, vb] w fun r w' => ∃ vi vo vl va vc right K, r = .returned (.tuple #[.agg #[vi, vo, vl, va, vc], .bool right]) ∧ PrP K (pairP kind a b) vi vo vl va vc ∧ (right = true → heavy (pairP kind a b) = false ∧ (checkM (pairP kind a b)).1 = 0) ∧ Kn.Step H w K w' := by
 obtain ⟨aa, ca, rfl, hua⟩ := ha.shape
 obtain ⟨ab, cb, rfl, hub⟩ := hb.shape
 have HA := Lib.hid hua
 have HB := Lib.hid hub
 clear ha hb hua hub
 go_enter Tryd.func8, Tryd.ntmps8
 go_wp2_with fail
 have hs := fun i => heap_allocs [Obj.cells #[.string a.op, .int .i64 a.n, .string a.s, .slice aa a.l.length ca] 24, Obj.cells #[.string b.op, .int .i64 b.n, .string b.s, .slice ab b.l.length cb] 24, Obj.cells #[.slice none 0 0, .slice none 0 0, .slice none 0 0, .slice none 0 0, .slice none 0 0] 33, Obj.cells #[.string ⟨#[120]⟩, .int .i64 1, .string ⟨#[121]⟩, .int .i64 2] 73, Obj.cells #[.string ⟨#[97]⟩, .string ⟨#[98]⟩] 9, Obj.cells #[.slice (some ⟨w.heap.size + 1 + 1 + 1, 0, none⟩) 2 2, .slice (some ⟨w.heap.size + 1 + 1 + 1 + 1, 0, none⟩) 2 2, .slice (some ⟨w.heap.size + 1 + 1 + 1 + 1 + 1 + 1, 0, none⟩) 2 2, .slice none 0 0, .slice none 0 0] 45, Obj.cells #[.string ⟨#[97]⟩, .int .i64 kind, .string a.op, .int .i64 a.n, .string a.s, .slice aa a.l.length ca, .string ⟨#[98]⟩, .int .i64 kind, .string b.op, .int .i64 b.n, .string b.s, .slice ab b.l.length cb] 75] w i
 have hbW := below_allocs [Obj.cells #[.string a.op, .int .i64 a.n, .string a.s, .slice aa a.l.length ca] 24, Obj.cells #[.string b.op, .int .i64 b.n, .string b.s, .slice ab b.l.length cb] 24, Obj.cells #[.slice none 0 0, .slice none 0 0, .slice none 0 0, .slice none 0 0, .slice none 0 0] 33, Obj.cells #[.string ⟨#[120]⟩, .int .i64 1, .string ⟨#[121]⟩, .int .i64 2] 73, Obj.cells #[.string ⟨#[97]⟩, .string ⟨#[98]⟩] 9, Obj.cells #[.slice (some ⟨w.heap.size + 1 + 1 + 1, 0, none⟩) 2 2, .slice (some ⟨w.heap.size + 1 + 1 + 1 + 1, 0, none⟩) 2 2, .slice (some ⟨w.heap.size + 1 + 1 + 1 + 1 + 1 + 1, 0, none⟩) 2 2, .slice none 0 0, .slice none 0 0] 45, Obj.cells #[.string ⟨#[97]⟩, .int .i64 kind, .string a.op, .int .i64 a.n, .string a.s, .slice aa a.l.length ca, .string ⟨#[98]⟩, .int .i64 kind, .string b.op, .int .i64 b.n, .string b.s, .slice ab b.l.length cb] 75] w
 simp only [List.foldl_cons, List.foldl_nil] at hs hbW
 generalize ((((((w.alloc (.cells #[.string a.op, .int .i64 a.n, .string a.s, .slice aa a.l.length ca] 24)).alloc (.cells #[.string b.op, .int .i64 b.n, .string b.s, .slice ab b.l.length cb] 24)).alloc (.cells #[.slice none 0 0, .slice none 0 0, .slice none 0 0, .slice none 0 0, .slice none 0 0] 33)).alloc (.cells #[.string ⟨#[120]⟩, .int .i64 1, .string ⟨#[121]⟩, .int .i64 2] 73)).alloc (.cells #[.string ⟨#[97]⟩, .string ⟨#[98]⟩] 9)).alloc (.cells #[.slice (some ⟨w.heap.size + 1 + 1 + 1, 0, none⟩) 2 2, .slice (some ⟨w.heap.size + 1 + 1 + 1 + 1, 0, none⟩) 2 2, .slice (some ⟨w.heap.size + 1 + 1 + 1 + 1 + 1 + 1, 0, none⟩) 2 2, .slice none 0 0, .slice none 0 0] 45)).alloc (.cells #[.string ⟨#[97]⟩, .int .i64 kind, .string a.op, .int .i64 a.n, .string a.s, .slice aa a.l.length ca, .string ⟨#[98]⟩, .int .i64 kind, .string b.op, .int .i64 b.n, .string b.s, .slice ab b.l.length cb] 75) = W2 at *
 have b2 : W2.heap[w.heap.size + 1 + 1]? = some (.cells #[.slice none 0 0, .slice none 0 0, .slice none 0 0, .slice none 0 0, .slice none 0 0] 33 (0, 0)) := hs 2 (by simp only [List.length_cons, List.length_nil]; omega)
 have b3 : W2.heap[w.heap.size + 1 + 1 + 1]? = some (.cells #[.string ⟨#[120]⟩, .int .i64 1, .string ⟨#[121]⟩, .int .i64 2] 73 (0, 0)) := hs 3 (by simp only [List.length_cons, List.length_nil]; omega)
 have b4 : W2.heap[w.heap.size + 1 + 1 + 1 + 1]? = some (.cells #[.string ⟨#[97]⟩, .string ⟨#[98]⟩] 9 (0, 0)) := hs 4 (by simp only [List.length_cons, List.length_nil]; omega)
 have b5 : W2.heap[w.heap.size + 1 + 1 + 1 + 1 + 1]? = some (.cells #[.slice (some ⟨w.heap.size + 1 + 1 + 1, 0, none⟩) 2 2, .slice (some ⟨w.heap.size + 1 + 1 + 1 + 1, 0, none⟩) 2 2, .slice (some ⟨w.heap.size + 1 + 1 + 1 + 1 + 1 + 1, 0, none⟩) 2 2, .slice none 0 0, .slice none 0 0] 45 (0, 0)) := hs 5 (by simp only [List.length_cons, List.length_nil]; omega)
 have b6 : W2.heap[w.heap.size + 1 + 1 + 1 + 1 + 1 + 1]? = some (.cells #[.string ⟨#[97]⟩, .int .i64 kind, .string a.op, .int .i64 a.n, .string a.s, .slice aa a.l.length ca, .string ⟨#[98]⟩, .int .i64 kind, .string b.op, .int .i64 b.n, .string b.s, .slice ab b.l.length cb] 75 (0, 0)) := hs 6 (by simp only [List.length_cons, List.length_nil]; omega)
 clear hs
 obtain ⟨K, hK⟩ : ∃ K, K = jnKn (w.heap.size + 1 + 1) H w.heap.size W2 := ⟨_, rfl⟩
 have hKin : K.In W2 := by rw [hK]; exact jnKn_in _ hH hbW
 have hKR : K (w.heap.size + 1 + 1) = none := by rw [hK]; exact jnKn_self _ _ _ _
 have hKf : ∀ b, b < w.heap.size → K b = H b := fun b hb => by rw [hK]; exact jnKn_old hb (by omega)
 have hKc : ∀ b i, b ≠ w.heap.size + 1 + 1 → w.heap.size ≤ b → K.cell b i = W2.cell? ⟨b, i, none⟩ := fun b i h hb => by rw [hK]; exact jnKn_cell h hb i
 have hHK : H.le K := by rw [hK]; exact jnKn_le hH _ (by omega)
 have hp : PrP K (pairP kind a b) (.slice (some ⟨w.heap.size + 1 + 1 + 1, 0, none⟩) 2 2) (.slice (some ⟨w.heap.size + 1 + 1 + 1 + 1, 0, none⟩) 2 2) (.slice (some ⟨w.heap.size + 1 + 1 + 1 + 1 + 1 + 1, 0, none⟩) 2 2) (.slice none 0 0) (.slice none 0 0) := by
  have c3 : ∀ i, K.cell (w.heap.size + 1 + 1 + 1) i = (#[.string ⟨#[120]⟩, .int .i64 1, .string ⟨#[121]⟩, .int .i64 2] : Array Value)[i]? := fun i => by rw [hKc _ _ (by omega) (by omega)]; simp [World.cell?, b3]
  have c4 : ∀ i, K.cell (w.heap.size + 1 + 1 + 1 + 1) i = (#[.string ⟨#[97]⟩, .string ⟨#[98]⟩] : Array Value)[i]? := fun i => by rw [hKc _ _ (by omega) (by omega)]; simp [World.cell?, b4]
  have c6 : ∀ i, K.cell (w.heap.size + 1 + 1 + 1 + 1 + 1 + 1) i = (#[.string ⟨#[97]⟩, .int .i64 kind, .string a.op, .int .i64 a.n, .string a.s, .slice aa a.l.length ca, .string ⟨#[98]⟩, .int .i64 kind, .string b.op, .int .i64 b.n, .string b.s, .slice ab b.l.length cb] : Array Value)[i]? := fun i => by rw [hKc _ _ (by omega) (by omega)]; simp [World.cell?, b6]
  refine ⟨.inr ⟨_, 0, 2, rfl, by simp [pairP], by unfold maxLen; omega, fun i hi => ?_⟩, .inr ⟨_, 0, 2, rfl, by simp [pairP], by unfold maxLen; omega, fun i hi => ?_⟩, .inr ⟨_, 0, 2, rfl, by simp [pairP], by unfold maxLen; omega, fun i hi => ?_⟩, .inl ⟨rfl, none, 0, rfl⟩, .inl ⟨rfl, none, 0, rfl⟩⟩
  ·match i, hi with
   | 0, _ => exact ⟨c3 0, c3 1⟩
   | 1, _ => exact ⟨c3 2, c3 3⟩
  ·match i, hi with
   | 0, _ => exact c4 0
   | 1, _ => exact c4 1
  ·match i, hi with
   | 0, _ => exact ⟨c6 0, c6 1, ExAt.mk (c6 2) (c6 3) (c6 4) (c6 5) (HA.out.le hHK)⟩
   | 1, _ => exact ⟨c6 6, c6 7, ExAt.mk (c6 8) (c6 9) (c6 10) (c6 11) (HB.out.le hHK)⟩
 have HP := Lib.hid hp
 have HBW := Lib.hid hbW
 have HB2 := Lib.hid b2
 have hw : Ex.weightL (pairP kind a b).terms = a.weight + b.weight := by simp [pair_terms, Ex.weightL]
 have hpl := partsL_le_weightL (pairP kind a b).terms
 have hfl : (pairP kind a b).fl.length = 2 ∧ (pairP kind a b).ins.length = 2 ∧ (pairP kind a b).outs.length = 2 ∧ (pairP kind a b).as.length = 0 ∧ (pairP kind a b).cs.length = 0 := ⟨rfl, rfl, rfl, rfl, rfl⟩
 obtain ⟨n1, n2, n3, n4, n5⟩ := hfl
 have k0 : K.cell (w.heap.size + 1 + 1 + 1 + 1 + 1) 0 = some (.slice (some ⟨w.heap.size + 1 + 1 + 1, 0, none⟩) 2 2) := by rw [hKc _ _ (by omega) (by omega)]; simp [World.cell?, b5]
 have k1 : K.cell (w.heap.size + 1 + 1 + 1 + 1 + 1) 1 = some (.slice (some ⟨w.heap.size + 1 + 1 + 1 + 1, 0, none⟩) 2 2) := by rw [hKc _ _ (by omega) (by omega)]; simp [World.cell?, b5]
 have k2 : K.cell (w.heap.size + 1 + 1 + 1 + 1 + 1) 2 = some (.slice (some ⟨w.heap.size + 1 + 1 + 1 + 1 + 1 + 1, 0, none⟩) 2 2) := by rw [hKc _ _ (by omega) (by omega)]; simp [World.cell?, b5]
 have k3 : K.cell (w.heap.size + 1 + 1 + 1 + 1 + 1) 3 = some (.slice none 0 0) := by rw [hKc _ _ (by omega) (by omega)]; simp [World.cell?, b5]
 have k4 : K.cell (w.heap.size + 1 + 1 + 1 + 1 + 1) 4 = some (.slice none 0 0) := by rw [hKc _ _ (by omega) (by omega)]; simp [World.cell?, b5]
 have hS : K.In W2.drew := hKin.below (Below.refl _ _).drew
 have hbD : Below W2.heap.size W2 W2.drew := (Below.refl _ _).drew
 have HBD := Lib.hid (HBW.out.trans (hbD.mono HBW.out.size))
 have HRD := Lib.hid ((hbD.block _ (Array.getElem?_eq_some_iff.1 b2).1).trans b2)
 have hRge : w.heap.size ≤ w.heap.size + 1 + 1 := by omega
 clear b2 b3 b4 b5 b6 hp hbW hbD hKc hKin hK HB2
 generalize w.heap.size + 1 + 1 = RB at *
 refine wp_region_2 (fun w' => K.In w') (fun _ => True) 99 (by kernel_rfl) ?_
 refine tk2 (i := 0) (v := ?_) rfl hS (fun _ => trivial) ?hy ?_
 case hy => intro w hSw; obtain ⟨z0, z1, z2, z3, z4⟩ := hSw.c5 k0 k1 k2 k3 k4; go_simp <;> with_reducible rfl
 try simp only [tkS, List.getElem_toArray, List.getElem_cons_zero, List.getElem_cons_succ]
 refine tk2 (i := 2) (v := ?_) rfl hS (fun _ => trivial) ?hy ?_
 case hy => intro w hSw; obtain ⟨z0, z1, z2, z3, z4⟩ := hSw.c5 k0 k1 k2 k3 k4; go_simp <;> with_reducible rfl
 try simp only [tkS, List.getElem_toArray, List.getElem_cons_zero, List.getElem_cons_succ]
 refine wpAny2_one (i := 1) (o := _) (by kernel_rfl) rfl (fun K_ hK => ?_)
 go_simp
 go_at_call 17
 refine (flatOf_any (pairP kind a b) _ _ _ _ _ K HP.out ⟨by omega, by omega, by omega, by omega⟩ _ hS).mono ?_
 rintro r w3 ⟨vi3, vo3, vl3, va3, vc3, K3, rfl, hp3, hst3⟩
 obtain ⟨p1, p2, p3, p4, p5⟩ := hp3
 obtain ⟨x1, y1, rfl⟩ := p1.len
 obtain ⟨x2, y2, rfl⟩ := p2.len
 obtain ⟨x3, y3, rfl⟩ := p3.len
 obtain ⟨x4, y4, rfl⟩ := p4.len
 obtain ⟨x5, y5, rfl⟩ := p5.len
 have hp3 : PrP K3 (pairP kind a b) _ _ _ _ _ := ⟨p1, p2, p3, p4, p5⟩
 clear p1 p2 p3 p4 p5
 have HP3 := Lib.hid hp3
 have hf3 : ∀ b, b < w.heap.size → K3 b = H b := fun b hb => (hst3.fresh b (Nat.lt_of_lt_of_le hb HBD.out.size)).trans (hKf b hb)
 have hl3 := Kn.le_trans hHK hst3.le
 have hK3R : K3 RB = none := (hst3.fresh RB (Array.getElem?_eq_some_iff.1 HRD.out).1).trans hKR
 have HB3 := Lib.hid (HBD.out.trans (hst3.below.mono HBD.out.size))
 have HR3 := Lib.hid ((hst3.below.block _ (Array.getElem?_eq_some_iff.1 HRD.out).1).trans HRD.out)
 have hS3 := hst3.isin
 have hle3 := hst3.le
 have hSS3 := hS.below hst3.below
 clear hp3 hst3
 refine hK.out _ _ (hSS3) (fun _ => trivial) ?_
 clear hK K_
 try simp only [tkS, List.getElem_toArray, List.getElem_cons_zero, List.getElem_cons_succ]
 refine wpAny2_one (i := 3) (o := _) (by kernel_rfl) rfl (fun K_ hK => ?_)
 go_simp
 go_at_call 15
 refine (heavy_any K (pairP kind a b) _ _ _ _ _ HP.out ⟨by omega, by omega, by omega⟩ w3 hSS3).mono ?_
 rintro r w4 ⟨rfl, hb4⟩
 have HB4 := Lib.hid (HB3.out.trans (hb4.mono HB3.out.size))
 have HR4 := Lib.hid ((hb4.block _ (Array.getElem?_eq_some_iff.1 HR3.out).1).trans HR3.out)
 have hS4 := hS3.below hb4
 have hSS4 := hSS3.below hb4
 clear hb4
 refine hK.out _ _ (hSS4) (fun _ => trivial) ?_
 clear hK K_
 try simp only [tkS, List.getElem_toArray, List.getElem_cons_zero, List.getElem_cons_succ]
 unfold heavyI
 by_cases hh : heavy (pairP kind a b) = true
 ·rw [if_pos hh]
  refine tk2 (i := 4) (v := ?_) rfl hSS4 (fun _ => trivial) ?hy ?_
  case hy => intro w hSw; obtain ⟨z0, z1, z2, z3, z4⟩ := hSw.c5 k0 k1 k2 k3 k4; go_simp <;> with_reducible rfl
  try simp only [tkS, List.getElem_toArray, List.getElem_cons_zero, List.getElem_cons_succ]
  refine tk2 (i := 5) (v := ?_) rfl hSS4 (fun _ => trivial) ?hy ?_
  case hy => intro w hSw; obtain ⟨z0, z1, z2, z3, z4⟩ := hSw.c5 k0 k1 k2 k3 k4; go_simp <;> with_reducible rfl
  try simp only [tkS, List.getElem_toArray, List.getElem_cons_zero, List.getElem_cons_succ]
  refine sk2 (i := 6) rfl hSS4 (fun _ => trivial) ?_
  try simp only [tkS, List.getElem_toArray, List.getElem_cons_zero, List.getElem_cons_succ]
  refine sk2 (i := 7) rfl hSS4 (fun _ => trivial) ?_
  try simp only [tkS, List.getElem_toArray, List.getElem_cons_zero, List.getElem_cons_succ]
  refine sk2 (i := 8) rfl hSS4 (fun _ => trivial) ?_
  try simp only [tkS, List.getElem_toArray, List.getElem_cons_zero, List.getElem_cons_succ]
  refine sk2 (i := 9) rfl hSS4 (fun _ => trivial) ?_
  try simp only [tkS, List.getElem_toArray, List.getElem_cons_zero, List.getElem_cons_succ]
  refine tk2 (i := 10) (v := ?_) rfl hSS4 (fun _ => trivial) ?hy ?_
  case hy => intro w hSw; obtain ⟨z0, z1, z2, z3, z4⟩ := hSw.c5 k0 k1 k2 k3 k4; go_simp <;> with_reducible rfl
  try simp only [tkS, List.getElem_toArray, List.getElem_cons_zero, List.getElem_cons_succ]
  obtain ⟨⟨z0, z1, z2, z3, z4⟩, f0, f1, f2, f3, f4⟩ := cells5_of HR4.out
  refine wpAny2_one (i := 11) (o := _) (by kernel_rfl) rfl (fun K_ hK => ?_)
  go_simp
  refine hK.out _ _ (fun b o e => in5 hSS4 hKR _ _ _ _ _ b o e) (fun _ => trivial) ?_
  clear hK K_
  try simp only [tkS, List.getElem_toArray, List.getElem_cons_zero, List.getElem_cons_succ]
  refine tk2 (i := 12) (v := ?_) rfl (fun b o e => in5 hSS4 hKR _ _ _ _ _ b o e) (fun _ => trivial) ?hy ?_
  case hy => intro w hSw; obtain ⟨z0, z1, z2, z3, z4⟩ := hSw.c5 k0 k1 k2 k3 k4; go_simp <;> with_reducible rfl
  try simp only [tkS, List.getElem_toArray, List.getElem_cons_zero, List.getElem_cons_succ]
  refine wpAny2_done (by kernel_rfl) ?_ _
  go_wp2_with fail
  obtain ⟨⟨e0, e1, e2, e3, e4⟩, _⟩ := cells5_of (set5_of HR4.out (.slice x1 2 y1) (.slice x2 2 y2) (.slice x3 2 y3) (.slice x4 0 y4) (.slice x5 0 y5))
  refine bodyPost_ret (v := .tuple #[.agg #[.slice x1 2 y1, .slice x2 2 y2, .slice x3 2 y3, .slice x4 0 y4, .slice x5 0 y5], .bool false]) (by simp [results, Tryd.results8, go_sem, e0, e1, e2, e3, e4]) rfl ?_
  exact ⟨_, _, _, _, _, _, K3, rfl, HP3.out, (fun h => absurd h (by simp)), hl3, hf3, fun b o e => in5 hS4 hK3R _ _ _ _ _ b o e, below5 HB4.out hRge _ _ _ _ _⟩
 ·rw [if_neg hh]
  refine tk2 (i := 4) (v := ?_) rfl hSS4 (fun _ => trivial) ?hy ?_
  case hy => intro w hSw; obtain ⟨z0, z1, z2, z3, z4⟩ := hSw.c5 k0 k1 k2 k3 k4; go_simp <;> with_reducible rfl
  try simp only [tkS, List.getElem_toArray, List.getElem_cons_zero, List.getElem_cons_succ]
  refine tk2 (i := 5) (v := ?_) rfl hSS4 (fun _ => trivial) ?hy ?_
  case hy => intro w hSw; obtain ⟨z0, z1, z2, z3, z4⟩ := hSw.c5 k0 k1 k2 k3 k4; go_simp <;> with_reducible rfl
  try simp only [tkS, List.getElem_toArray, List.getElem_cons_zero, List.getElem_cons_succ]
  refine tk2 (i := 6) (v := ?_) rfl hSS4 (fun _ => trivial) ?hy ?_
  case hy => intro w hSw; obtain ⟨z0, z1, z2, z3, z4⟩ := hSw.c5 k0 k1 k2 k3 k4; go_simp <;> with_reducible rfl
  try simp only [tkS, List.getElem_toArray, List.getElem_cons_zero, List.getElem_cons_succ]
  refine wpAny2_one (i := 7) (o := _) (by kernel_rfl) rfl (fun K_ hK => ?_)
  go_simp
  go_at_call 26
  refine (checkOf_any K (pairP kind a b) _ _ _ _ _ HP.out (by omega) (by omega) ⟨by omega, by omega, by omega, by omega⟩ w4 hSS4).mono ?_
  rintro r w5 ⟨rfl, hb5⟩
  have HB5 := Lib.hid (HB4.out.trans (hb5.mono HB4.out.size))
  have HR5 := Lib.hid ((hb5.block _ (Array.getElem?_eq_some_iff.1 HR4.out).1).trans HR4.out)
  have hS5 := hS4.below hb5
  have hSS5 := hSS4.below hb5
  clear hb5
  obtain ⟨cN, hcN⟩ : ∃ c : Nat, c = (checkM (pairP kind a b)).1 := ⟨_, rfl⟩
  have HCN := Lib.hid hcN
  rw [← hcN]
  clear hcN
  have hfd : ∀ w, Sem.run Tryd.prog (Instr.field 77 (.agg #[.int .i64 (cN : Int), .int .i64 (checkM (pairP kind a b)).2]) 0) w = .ok (.int .i64 (cN : Int)) w := fun w => run_fault0 _ _ w
  refine hK.out _ _ (hSS5) (fun _ => trivial) ?_
  clear hK K_
  try simp only [tkS, List.getElem_toArray, List.getElem_cons_zero, List.getElem_cons_succ]
  refine tk2 (i := 8) (v := ?_) rfl hSS5 (fun _ => trivial) ?hy ?_
  case hy => intro w hSw; obtain ⟨z0, z1, z2, z3, z4⟩ := hSw.c5 k0 k1 k2 k3 k4; go_simp <;> with_reducible rfl
  try simp only [tkS, List.getElem_toArray, List.getElem_cons_zero, List.getElem_cons_succ]
  refine tk2 (i := 9) (v := ?_) rfl hSS5 (fun _ => trivial) ?hy ?_
  case hy => intro w hSw; obtain ⟨z0, z1, z2, z3, z4⟩ := hSw.c5 k0 k1 k2 k3 k4; go_simp <;> with_reducible rfl
  try simp only [tkS, List.getElem_toArray, List.getElem_cons_zero, List.getElem_cons_succ]
  refine tk2 (i := 10) (v := ?_) rfl hSS5 (fun _ => trivial) ?hy ?_
  case hy => intro w hSw; obtain ⟨z0, z1, z2, z3, z4⟩ := hSw.c5 k0 k1 k2 k3 k4; go_simp <;> with_reducible rfl
  try simp only [tkS, List.getElem_toArray, List.getElem_cons_zero, List.getElem_cons_succ]
  obtain ⟨⟨z0, z1, z2, z3, z4⟩, f0, f1, f2, f3, f4⟩ := cells5_of HR5.out
  refine wpAny2_one (i := 11) (o := _) (by kernel_rfl) rfl (fun K_ hK => ?_)
  go_simp
  refine hK.out _ _ (fun b o e => in5 hSS5 hKR _ _ _ _ _ b o e) (fun _ => trivial) ?_
  clear hK K_
  try simp only [tkS, List.getElem_toArray, List.getElem_cons_zero, List.getElem_cons_succ]
  refine tk2 (i := 12) (v := ?_) rfl (fun b o e => in5 hSS5 hKR _ _ _ _ _ b o e) (fun _ => trivial) ?hy ?_
  case hy => intro w hSw; obtain ⟨z0, z1, z2, z3, z4⟩ := hSw.c5 k0 k1 k2 k3 k4; go_simp <;> with_reducible rfl
  try simp only [tkS, List.getElem_toArray, List.getElem_cons_zero, List.getElem_cons_succ]
  refine wpAny2_done (by kernel_rfl) ?_ _
  go_wp2_with fail
  obtain ⟨⟨e0, e1, e2, e3, e4⟩, _⟩ := cells5_of (set5_of HR5.out (.slice x1 2 y1) (.slice x2 2 y2) (.slice x3 2 y3) (.slice x4 0 y4) (.slice x5 0 y5))
  refine bodyPost_ret (v := .tuple #[.agg #[.slice x1 2 y1, .slice x2 2 y2, .slice x3 2 y3, .slice x4 0 y4, .slice x5 0 y5], .bool ((cN : Int) == 0)]) (by simp [results, Tryd.results8, go_sem, e0, e1, e2, e3, e4]) rfl ?_
  exact ⟨_, _, _, _, _, _, K3, rfl, HP3.out, (fun h => ⟨by simpa using hh, by rw [← HCN.out]; simpa using h⟩), hl3, hf3, fun b o e => in5 hS5 hK3R _ _ _ _ _ b o e, below5 HB5.out hRge _ _ _ _ _⟩
end Go.Proofs.YthejomlhmdeimaaDoor
