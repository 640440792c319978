/- Walks: errors.As(err, &f), f a *api.Fault. -/
import Derived.Test.YtminjdmgfiellaaDoorErrAs
namespace Go.Proofs.YtminjdmgfiellaaDoor
open Go.RowKit Go.Extern.Stop Go.Stop Go.Extern

/-- What is known of errors.errorType: its own call of reflectlite laid it. -/
def ErrTypeLaid (w : World) : Prop := w.cell? ⟨11, 0, none⟩ = some (.iface 175 (.agg #[.pointer (some ⟨18, 32, none⟩)]))

theorem frozen_past {w : World} (o : Obj) {n : Nat} (i : Nat) (h : n < w.heap.size) : (w.alloc o).frozen? ⟨n, i, none⟩ = w.frozen? ⟨n, i, none⟩ :=
  World.frozen?_of_block (w := w) (Below.heap_alloc w o n h)

set_option maxHeartbeats 1000000 in
set_option maxRecDepth 100000 in
/-- errors.as at a fault: it is assigned. -/
theorem as_fault (F : Nat) (a x : Value) (hav : ∃ p, a = .pointer p) (V : Nat) (w : World) (hv : w.cell? ⟨V, 0, none⟩ = some (.pointer (some ⟨F, 0, none⟩))) (hx : w.cell? ⟨F, 0, none⟩ = some x) (hf : w.frozen? ⟨F, 0, none⟩ = false) (hF : F < w.heap.size) (hV : V < w.heap.size) :
    Calls Tryd.prog 100 #[.iface 79 a, .iface 139 (.pointer (some ⟨F, 0, none⟩)), .agg #[.pointer (some ⟨18, 139, none⟩), .pointer (some ⟨V, 0, none⟩), .int .u64 150], .iface 175 (rty 79)] w
      fun e w' => e = .returned (.bool true) ∧ w'.cell? ⟨F, 0, none⟩ = some a ∧ w.heap.size ≤ w'.heap.size ∧ Below F w w' := by
  obtain ⟨p, rfl⟩ := hav
  have k1 := typeOf_f
  have k2 := as_assF
  have k3 := fun w => as_valueOfF (.pointer p) w ⟨p, rfl⟩
  have k4 := fun o => as_velem V ⟨F, 0, none⟩ (w.alloc o) (by rw [World.cell?_alloc_past _ _ _ hV]; exact hv)
  have k5 := fun o => as_set ⟨F, 0, none⟩ ⟨w.heap.size + 1, 0, none⟩ x (.pointer p) ((w.alloc o).alloc (.cells #[.pointer p] 79)) (by simp) ⟨p, rfl⟩ (by rw [World.cell?_alloc_past _ _ _ (by simp; omega), World.cell?_alloc_past _ _ _ hF]; exact hx) (by rw [frozen_past _ _ (by simp; omega), frozen_past _ _ hF]; exact hf)
  go_enter Tryd.func100, Tryd.ntmps100
  go_wp2_with fail
  refine wp_loop_rounds 1 ?_
  rw [rounds_succ]
  go_wp2_with fail
  go_ret
  have hs : (w.setCell ⟨F, 0, none⟩ (.pointer p)).heap.size = w.heap.size := World.size_setCell _ _ _
  refine ⟨rfl, ?_, by rw [World.size_alloc, World.size_alloc, hs]; omega, (((Below.refl F w).setCell (Nat.le_refl _) _).alloc (by rw [hs]; omega) _).alloc (by rw [World.size_alloc, hs]; omega) _⟩
  rw [World.cell?_alloc_past _ _ _ (by rw [World.size_alloc, hs]; omega), World.cell?_alloc_past _ _ _ (by rw [hs]; exact hF), World.cell?_setCell_same' _ _ _ (by rw [hx]; rfl)]

set_option maxHeartbeats 1000000 in
set_option maxRecDepth 100000 in
/-- errors.as at an error of errors.New's make: no. -/
theorem as_sent (F : Nat) (a : Value) (V : Nat) (w : World) :
    Calls Tryd.prog 100 #[.iface 205 a, .iface 139 (.pointer (some ⟨F, 0, none⟩)), .agg #[.pointer (some ⟨18, 139, none⟩), .pointer (some ⟨V, 0, none⟩), .int .u64 150], .iface 175 (rty 79)] w
      fun e w' => e = .returned (.bool false) ∧ Below w.heap.size w w' := by
  have k1 := typeOf_es
  have k2 := as_assE
  have nA := noAsE
  have uE := noUnwrapE
  have vE := noUnwrapsE
  go_enter Tryd.func100, Tryd.ntmps100
  go_wp2_with fail
  refine wp_loop_rounds 1 ?_
  rw [rounds_succ]
  go_wp2_with fail
  go_ret
  exact ⟨rfl, by go_grown⟩

set_option maxHeartbeats 1000000 in
set_option maxRecDepth 100000 in
/-- errors.As(err, &f) at a fault. -/
theorem As_fault (F : Nat) (a x : Value) (hav : ∃ p, a = .pointer p) (w : World) (hx : w.cell? ⟨F, 0, none⟩ = some x) (hf : w.frozen? ⟨F, 0, none⟩ = false) (hF : F < w.heap.size) (hE : ErrTypeLaid w) (hEg : 11 < w.heap.size) :
    Calls Tryd.prog 72 #[.iface 79 a, .iface 139 (.pointer (some ⟨F, 0, none⟩))] w
      fun e w' => e = .returned (.bool true) ∧ w'.cell? ⟨F, 0, none⟩ = some a ∧ w.heap.size ≤ w'.heap.size ∧ Below F w w' := by
  have j1 := fun w => as_valueOf (.pointer (some ⟨F, 0, none⟩)) w ⟨_, rfl⟩
  have j2 := fun V w => as_type (.pointer (some V)) V rfl w
  have j3 := as_kindPP
  have j4 := as_kindP
  have j5 := as_elem
  have j6 := as_impl
  have j7 := fun o => as_isNil w.heap.size ⟨F, 0, none⟩ ((w.alloc (.cells #[.pointer (some ⟨F, 0, none⟩)] 139)).alloc o) (by simp)
  unfold ErrTypeLaid at hE
  go_enter Tryd.func72, Tryd.ntmps72
  go_wp2_with fail
  have hW : ∀ o1 o2, ((w.alloc o1).alloc o2).heap.size = w.heap.size + 2 := fun o1 o2 => by rw [World.size_alloc, World.size_alloc]
  refine (as_fault F a x hav w.heap.size _ (by simp) (by rw [World.cell?_alloc_past _ _ _ (by rw [World.size_alloc]; omega), World.cell?_alloc_past _ _ _ hF]; exact hx) (by rw [frozen_past _ _ (by rw [World.size_alloc]; omega), frozen_past _ _ hF]; exact hf) (by rw [hW]; omega) (by rw [hW]; omega)).mono ?_
  rintro e w' ⟨rfl, h1, h2, h3⟩
  rw [hW] at h2
  have h4 : Below F w w' := (((Below.refl F w).alloc (Nat.le_of_lt hF) _).alloc (by rw [World.size_alloc]; omega) _).trans h3
  clear h3 hW
  go_wp2_with fail
  go_ret
  exact ⟨rfl, h1, by omega, h4⟩

set_option maxHeartbeats 1000000 in
set_option maxRecDepth 100000 in
/-- errors.As(err, &f) at an error of errors.New's make. -/
theorem As_sent (F : Nat) (a : Value) (w : World) (hE : ErrTypeLaid w) (hEg : 11 < w.heap.size) :
    Calls Tryd.prog 72 #[.iface 205 a, .iface 139 (.pointer (some ⟨F, 0, none⟩))] w
      fun e w' => e = .returned (.bool false) ∧ Below w.heap.size w w' := by
  have j1 := fun w => as_valueOf (.pointer (some ⟨F, 0, none⟩)) w ⟨_, rfl⟩
  have j2 := fun V w => as_type (.pointer (some V)) V rfl w
  have j3 := as_kindPP
  have j4 := as_kindP
  have j5 := as_elem
  have j6 := as_impl
  have j7 := fun o => as_isNil w.heap.size ⟨F, 0, none⟩ ((w.alloc (.cells #[.pointer (some ⟨F, 0, none⟩)] 139)).alloc o) (by simp)
  unfold ErrTypeLaid at hE
  go_enter Tryd.func72, Tryd.ntmps72
  go_wp2_with fail
  have hW : ∀ o1 o2, ((w.alloc o1).alloc o2).heap.size = w.heap.size + 2 := fun o1 o2 => by rw [World.size_alloc, World.size_alloc]
  refine (as_sent F a w.heap.size _).mono ?_
  rintro e w' ⟨rfl, h3⟩
  have h4 : Below w.heap.size w w' := (((Below.refl w.heap.size w).alloc (Nat.le_refl _) _).alloc (by rw [World.size_alloc]; omega) _).trans (h3.mono (by rw [hW]; omega))
  clear h3 hW
  go_wp2_with fail
  go_ret
  exact ⟨rfl, h4⟩
end Go.Proofs.YtminjdmgfiellaaDoor
