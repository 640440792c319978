/- Walks: order.Check's parts: its closure; slices.Contains at any slice of strings. -/
import Derived.Test.YtdceonkbckmjdaaDoorLate
import Derived.Test.YtdceonkbckmjdaaDoorFormA
import Derived.Test.YtdceonkbckmjdaaDoorMx
namespace Go.Proofs.YtdceonkbckmjdaaDoor
open Go.RowKit Mx

set_option maxHeartbeats 1000000 in
set_option maxRecDepth 100000 in
theorem idx_nil (a : Option Addr) (c : Nat) (s : ByteArray) (w : World) :
    Calls Tryd.prog 81 #[.slice a 0 c, .string s] w fun e w' => e = .returned (.int .i64 (-1)) ∧ w = w' := by
  go_enter Tryd.func81, Tryd.ntmps81
  go_wp2
  go_rounds 1
  all_goals go_ret
  exact ⟨rfl, rfl⟩
set_option maxHeartbeats 1000000 in
set_option maxRecDepth 100000 in
theorem containsV_any (H : Kn) (v : Value) (l : List ByteArray) (s : ByteArray) (w : World) (hv : StrsV H l v) (hH : H.In w) :
    Calls Tryd.prog 53 #[v, .string s] w fun e w' => e = .returned (.bool (l.contains s)) ∧ w = w' := by
  rw [contains_any_eq]
  rcases hv with ⟨rfl, a, c, rfl⟩ | ⟨b, off, cap, rfl, h1, h2, h3⟩
  · go_enter Tryd.func53, Tryd.ntmps53
    go_wp2_with (go_at_call 81; refine (idx_nil a c s _).mono ?_; rintro e w' ⟨rfl, rfl⟩)
    go_ret
    exact ⟨rfl, rfl⟩
  · refine contains_any H _ l s w (.inr ⟨b, off, cap, rfl, h1, h2, fun i hi => ?_⟩) hH
    have := h3 i hi
    simp only [List.getElem?_eq_getElem hi, Option.map_some]
    exact this
/-- What order.Check's closure wants. -/
structure OckI (H : Kn) (C bm : Nat) (m : Env Int) (u : World) : Prop where
  kn : H.In u
  cell : u.cell? ⟨C, 0, none⟩ = some (.map (some bm))
  size : C < u.heap.size
  mp : MapAt (Value.int .i64) u bm m
theorem OckI.next {H : Kn} {C bm : Nat} {m : Env Int} {u u' : World} (h : OckI H C bm m u) (hb : Below u.heap.size u u') : OckI H C bm m u' :=
  ⟨h.kn.below hb, by rw [hb.cell (p := ⟨C, 0, none⟩) (show C < u.heap.size from h.size)]; exact h.cell, Nat.lt_of_lt_of_le h.size hb.size, h.mp.below hb⟩
set_option maxHeartbeats 1000000 in
set_option maxRecDepth 100000 in
theorem check1_pred (H : Kn) (C bm : Nat) (m : Env Int) (hl : ∀ s, 0 ≤ getI m s ∧ getI m s ≤ 2) (ks : Env Int) (l : List Ex) (hf : ∀ e ∈ l, formAll ks e = true) :
    ExPred 65 #[.pointer (some ⟨C, 0, none⟩)] (OckI H C bm m) H (fun e => decide (0 < lateOf (getI m) e)) l := by
  refine ⟨fun _ _ => by kernel_rfl, fun w w' h hb => h.next hb, fun e he v hv w hI => ?_⟩
  have hfe := hf e he
  have HV := Lib.hid hv
  obtain ⟨u, rfl, hu⟩ := hv
  obtain ⟨a, c, rfl⟩ := hu.len
  have hbd := late_bound (getI m) hl e
  have hb1 : Below w.heap.size w (w.alloc (.cells #[.string e.op, .int .i64 e.n, .string e.s, .slice a e.l.length c] 57)) := (Below.refl _ _).alloc (Nat.le_refl _) _
  have HI1 := Lib.hid (hI.next hb1)
  have hcell := HI1.out.cell
  have HB1 := Lib.hid hb1
  have hz : w.heap.size < (w.alloc (.cells #[.string e.op, .int .i64 e.n, .string e.s, .slice a e.l.length c] 57)).heap.size := by simp
  clear hu hb1 hI
  generalize e.l.length = el at *
  go_enter Tryd.func65, Tryd.ntmps65
  go_wp2_with fail
  refine (late_any H m bm hl ks e hfe _ HV.out _ HI1.out.kn HI1.out.mp).mono ?_
  rintro r w2 ⟨rfl, hb2⟩
  have HB := Lib.hid (HB1.out.trans (hb2.mono (by simp)))
  generalize hq : lateOf (getI m) e = q at *
  go_wp2_with fail
  go_ret
  exact ⟨ret_bool (by simp [hq]), HB.out⟩
end Go.Proofs.YtdceonkbckmjdaaDoor
/- order.Check's answer: no program in sight. -/
namespace Go.Proofs.YtdceonkbckmjdaaDoor.Mx

/-- Is a flow of this name late where it must not be? -/
def hit (p : Pr) (s : ByteArray) : Bool := decide (namesM p s = 2) || decide (namesM p s = 1) && p.outs.contains s
theorem lateM_ok {p : Pr} {l : List Int} (h : lateM p = .ok l) : l = (p.fl.map fun f => namesM p f.name) ∧ checkFlat p = 0 := by
  unfold lateM at h
  split at h
  · cases h
  · rename_i x hx
    refine ⟨by cases h; rfl, ?_⟩
    unfold orderM at hx
    split at hx
    · cases hx
    · rename_i h0; simpa using h0
theorem checkM_late {p : Pr} {x : Nat × Int} (h : lateM p = .error x) : checkM p = x := by unfold checkM; rw [h]
theorem zip_find {α : Type} (q : α × Nat → Bool) (l : List α) (k : Nat) (hk : k < l.length) (h1 : q (l[k], k) = true) (h2 : ∀ j (hj : j < l.length), j < k → q (l[j], j) = false) : l.zipIdx.find? q = some (l[k], k) := by
  rw [List.find?_eq_some_iff_getElem]
  refine ⟨h1, k, by simpa using hk, by simp, fun j hj => ?_⟩
  have := h2 j (by omega) hj
  simp [this]
theorem zip_none {α : Type} (q : α × Nat → Bool) (l : List α) (h2 : ∀ j (hj : j < l.length), q (l[j], j) = false) : l.zipIdx.find? q = none := by
  rw [List.find?_eq_none]
  intro x hx
  obtain ⟨i, hi, rfl⟩ := List.mem_iff_getElem.1 hx
  have := h2 i (by simpa using hi)
  simp [this]
theorem checkM_hit {p : Pr} (h : lateM p = .ok (p.fl.map fun f => namesM p f.name)) (k : Nat) (hk : k < p.fl.length) (h1 : hit p p.fl[k].name = true) (h2 : ∀ j (hj : j < p.fl.length), j < k → hit p p.fl[j].name = false) : checkM p = (7, (k : Int)) := by
  unfold checkM
  rw [h]
  simp only
  rw [zip_find _ _ k (by simpa using hk)]
  · simpa [hit, List.getD_eq_getElem?_getD, hk] using h1
  · intro j hj hjk
    have hj' : j < p.fl.length := by simpa using hj
    simpa [hit, List.getD_eq_getElem?_getD, hj'] using h2 j hj' hjk
theorem checkM_end {p : Pr} (h : lateM p = .ok (p.fl.map fun f => namesM p f.name)) (h2 : ∀ j (hj : j < p.fl.length), hit p p.fl[j].name = false) : checkM p = if ((p.as ++ p.cs).any fun e => decide (0 < lateOf (namesM p) e)) = true then (7, -1) else (0, -1) := by
  unfold checkM
  rw [h]
  simp only
  rw [zip_none]
  intro j hj
  have hj' : j < p.fl.length := by simpa using hj
  simpa [hit, List.getD_eq_getElem?_getD, hj'] using h2 j hj'
theorem lateM_pos {p : Pr} {x : Nat × Int} (h : lateM p = .error x) : x.1 ≠ 0 := by
  unfold lateM at h
  split at h
  · rename_i e hx
    cases h
    unfold orderM at hx
    split at hx
    · rename_i h; cases hx; exact h
    · split at hx
      · cases hx; simp
      · cases hx
  · cases h
end Go.Proofs.YtdceonkbckmjdaaDoor.Mx
