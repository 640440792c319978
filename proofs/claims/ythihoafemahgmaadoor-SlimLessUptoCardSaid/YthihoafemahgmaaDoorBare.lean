/- Walks: lustrumlaw2.bare. -/
import Derived.Test.YthihoafemahgmaaDoorProg
import Derived.Test.YthihoafemahgmaaDoorEx
import Derived.Test.YthihoafemahgmaaDoorMx
import Derived.Lib.Hide
import Derived.WalkKit
import Derived.Test.YthihoafemahgmaaDoorSlI
import Derived.Test.YthihoafemahgmaaDoorRunM
namespace Go.Proofs.YthihoafemahgmaaDoor
open Mx
def bareP : Pr := ⟨[], [⟨#[120]⟩], [⟨⟨#[120]⟩, 1, .mk oTrue 0 ⟨#[]⟩ []⟩], [], []⟩
theorem bare_checkM : checkM bareP = (0, -1) := by kernel_rfl
end Go.Proofs.YthihoafemahgmaaDoor
namespace Go.Proofs.YthihoafemahgmaaDoor
open Go.RowKit Mx
set_option maxHeartbeats 1000000 in
set_option maxRecDepth 100000 in
theorem lbare_any (w : World) :
    Calls Tryd.prog 12 #[] w fun r w' => ∃ vi vo vl va vc, r = .returned (.agg #[vi, vo, vl, va, vc]) ∧ PrP (allKn w') bareP vi vo vl va vc ∧ Below w.heap.size w w' := by
  go_enter Tryd.func12, Tryd.ntmps12
  go_wp2_with fail
  have hb : Below w.heap.size w (((w.alloc (.cells #[.slice none 0 0, .slice (some ⟨w.heap.size + 1, 0, none⟩) 1 1, .slice (some ⟨w.heap.size + 1 + 1, 0, none⟩) 1 1, .slice none 0 0, .slice none 0 0] 34)).alloc (.cells #[.string ⟨#[120]⟩] 9)).alloc (.cells #[.string ⟨#[120]⟩, .int .i64 1, .string ⟨#[116, 114, 117, 101]⟩, .int .i64 0, .string ⟨#[]⟩, .slice none 0 0] 47)) := by go_grown
  have h1 : ∀ i, (((w.alloc (.cells #[.slice none 0 0, .slice (some ⟨w.heap.size + 1, 0, none⟩) 1 1, .slice (some ⟨w.heap.size + 1 + 1, 0, none⟩) 1 1, .slice none 0 0, .slice none 0 0] 34)).alloc (.cells #[.string ⟨#[120]⟩] 9)).alloc (.cells #[.string ⟨#[120]⟩, .int .i64 1, .string ⟨#[116, 114, 117, 101]⟩, .int .i64 0, .string ⟨#[]⟩, .slice none 0 0] 47)).cell? ⟨w.heap.size, i, none⟩ = (#[.slice none 0 0, .slice (some ⟨w.heap.size + 1, 0, none⟩) 1 1, .slice (some ⟨w.heap.size + 1 + 1, 0, none⟩) 1 1, .slice none 0 0, .slice none 0 0] : Array Value)[i]? := fun i => by
    rw [World.cell?_alloc_past _ _ _ (by simp; omega), World.cell?_alloc_past _ _ _ (by simp), World.cell?_alloc_new]
  have h2 : ∀ i, (((w.alloc (.cells #[.slice none 0 0, .slice (some ⟨w.heap.size + 1, 0, none⟩) 1 1, .slice (some ⟨w.heap.size + 1 + 1, 0, none⟩) 1 1, .slice none 0 0, .slice none 0 0] 34)).alloc (.cells #[.string ⟨#[120]⟩] 9)).alloc (.cells #[.string ⟨#[120]⟩, .int .i64 1, .string ⟨#[116, 114, 117, 101]⟩, .int .i64 0, .string ⟨#[]⟩, .slice none 0 0] 47)).cell? ⟨w.heap.size + 1, i, none⟩ = (#[.string ⟨#[120]⟩] : Array Value)[i]? := fun i => by
    rw [World.cell?_alloc_past _ _ _ (by simp)]
    have := World.cell?_alloc_new (w := w.alloc (.cells #[.slice none 0 0, .slice (some ⟨w.heap.size + 1, 0, none⟩) 1 1, .slice (some ⟨w.heap.size + 1 + 1, 0, none⟩) 1 1, .slice none 0 0, .slice none 0 0] 34)) #[.string ⟨#[120]⟩] 9 i
    rw [World.size_alloc] at this
    exact this
  have h3 : ∀ i, (((w.alloc (.cells #[.slice none 0 0, .slice (some ⟨w.heap.size + 1, 0, none⟩) 1 1, .slice (some ⟨w.heap.size + 1 + 1, 0, none⟩) 1 1, .slice none 0 0, .slice none 0 0] 34)).alloc (.cells #[.string ⟨#[120]⟩] 9)).alloc (.cells #[.string ⟨#[120]⟩, .int .i64 1, .string ⟨#[116, 114, 117, 101]⟩, .int .i64 0, .string ⟨#[]⟩, .slice none 0 0] 47)).cell? ⟨w.heap.size + 1 + 1, i, none⟩ = (#[.string ⟨#[120]⟩, .int .i64 1, .string ⟨#[116, 114, 117, 101]⟩, .int .i64 0, .string ⟨#[]⟩, .slice none 0 0] : Array Value)[i]? := fun i => by
    have := World.cell?_alloc_new (w := (w.alloc (.cells #[.slice none 0 0, .slice (some ⟨w.heap.size + 1, 0, none⟩) 1 1, .slice (some ⟨w.heap.size + 1 + 1, 0, none⟩) 1 1, .slice none 0 0, .slice none 0 0] 34)).alloc (.cells #[.string ⟨#[120]⟩] 9)) #[.string ⟨#[120]⟩, .int .i64 1, .string ⟨#[116, 114, 117, 101]⟩, .int .i64 0, .string ⟨#[]⟩, .slice none 0 0] 47 i
    rw [World.size_alloc, World.size_alloc] at this
    exact this
  generalize ((w.alloc (.cells #[.slice none 0 0, .slice (some ⟨w.heap.size + 1, 0, none⟩) 1 1, .slice (some ⟨w.heap.size + 1 + 1, 0, none⟩) 1 1, .slice none 0 0, .slice none 0 0] 34)).alloc (.cells #[.string ⟨#[120]⟩] 9)).alloc (.cells #[.string ⟨#[120]⟩, .int .i64 1, .string ⟨#[116, 114, 117, 101]⟩, .int .i64 0, .string ⟨#[]⟩, .slice none 0 0] 47) = W at *
  have q0 := h1 0
  have q1 := h1 1
  have q2 := h1 2
  have q3 := h1 3
  have q4 := h1 4
  simp at q0 q1 q2 q3 q4
  refine bodyPost_ret (v := .agg #[.slice none 0 0, .slice (some ⟨w.heap.size + 1, 0, none⟩) 1 1, .slice (some ⟨w.heap.size + 1 + 1, 0, none⟩) 1 1, .slice none 0 0, .slice none 0 0]) (by simp [results, Tryd.results12, go_sem, q0, q1, q2, q3, q4]) rfl ?_
  refine ⟨_, _, _, _, _, rfl, ⟨.inl ⟨rfl, none, 0, rfl⟩, .inr ⟨_, 0, 1, rfl, by simp [bareP], by unfold maxLen; omega, fun i hi => ?_⟩, .inr ⟨_, 0, 1, rfl, by simp [bareP], by unfold maxLen; omega, fun i hi => ?_⟩, .inl ⟨rfl, none, 0, rfl⟩, .inl ⟨rfl, none, 0, rfl⟩⟩, hb⟩
  · obtain rfl : i = 0 := by simpa [bareP] using hi
    show (allKn W).cell _ _ = _
    rw [allKn_cell, h2]
    rfl
  · obtain rfl : i = 0 := by simpa [bareP] using hi
    refine ⟨?_, ?_, ?_, ?_, ?_, .inl ⟨rfl, none, 0, ?_⟩⟩
    all_goals show (allKn W).cell _ _ = _
    all_goals rw [allKn_cell, h3]
    all_goals rfl
end Go.Proofs.YthihoafemahgmaaDoor
namespace Go.Proofs.YthihoafemahgmaaDoor
open Go.RowKit Mx
theorem checkM_at0 {p : Pr} (h : (checkM p).1 = 0) : checkM p = (0, -1) := by
  obtain ⟨l, ho, hh, hl⟩ := checkM_zero h
  revert h
  unfold checkM
  cases hlm : lateM p with
  | error e => 
    unfold lateM at hlm
    rw [ho] at hlm
    cases hlm
  | ok l =>
    dsimp only
    split
    · intro h; cases h
    · split
      · intro h; cases h
      · intro _; rfl
theorem restN_le (nd : List ByteArray) : ∀ fl : List Fl, restN nd fl ≤ fl.length + Ex.partsL (fl.map (·.e))
  | [] => Nat.le_refl _
  | f :: l => by
    have h1 := restN_le nd l
    have h2 := namesX_len f.e
    simp only [restN, List.length_cons, List.map_cons, Ex.partsL]
    split <;> omega
theorem rootsM_le (p : Pr) : (rootsM p).length ≤ p.outs.length + p.fl.length + Ex.partsL p.as + Ex.partsL p.cs := by
  have h1 := namesXL_len (p.as ++ p.cs)
  have h2 := List.length_filter_le (fun f : Fl => dividesE f.e) p.fl
  rw [partsL_app] at h1
  unfold rootsM
  rw [List.length_append, List.length_append, List.length_map]
  omega
theorem drop_sz {p : Pr} (h1 : p.outs.length ≤ 1048576) (h2 : p.fl.length ≤ 1000000) (h3 : Ex.partsL p.terms ≤ 1000000) : (rootsM p).length + restN [] p.fl ≤ 100000000 := by
  have a := restN_le [] p.fl
  have b := rootsM_le p
  unfold Pr.terms at h3
  rw [partsL_app, partsL_app] at h3
  omega
theorem bare_drop : dropM bareP = bareP := by kernel_rfl
set_option maxHeartbeats 8000000 in
set_option maxRecDepth 100000 in
theorem thin_any (H : Kn) (T : LevelsAt H) (sp : Nat → Addr) (w : World) (hH : H.In w) (S : Sen5 w sp) :
    Calls Tryd.prog 4 #[] w fun r w' => r = .returned (.bool true) ∧ Below w.heap.size w w' := by
  have hle : ∀ w1, Below w.heap.size w w1 → LevelsAt (allKn w1) := fun w1 hb => T.le (kn_le_all (hH.below hb))
  have HLE := Lib.hid hle
  clear hle
  go_enter Tryd.func4, Tryd.ntmps4
  go_wp2_with fail
  refine (lbare_any _).mono ?_
  rintro r w1 ⟨vi, vo, vl, va, vc, rfl, hp, hb1⟩
  have HB1 := Lib.hid hb1
  have HP1 := Lib.hid hp
  clear hb1 hp
  go_wp2_with fail
  refine (drop_any _ (HLE.out _ HB1.out) sp bareP _ _ _ _ _ HP1.out ⟨by decide, by decide, by decide, by decide, by decide, by decide, drop_sz (by decide) (by decide) (by decide)⟩ (any_hpick _) w1 (allKn_in _) (S.below HB1.out)).mono ?_
  rintro r w2 ⟨hb2, hpost⟩
  have HB2 := Lib.hid (HB1.out.trans (hb2.mono HB1.out.size))
  rw [bare_drop, bare_checkM] at hpost
  rcases hpost with ⟨_, ui, uo, ul, ua, uc, K, rfl, hpr, hK, hlo⟩ | ⟨h, _⟩
  case inr => rcases h with h | h <;> exact absurd rfl h
  obtain ⟨b, off, cap, rfl, _, _, hcs⟩ := FlsV.cell hpr.fl (by simp [bareP])
  obtain ⟨ax, cx, d0, _⟩ := hcs 0 (by simp [bareP])
  have d0 : K.cell b off = some (.string ⟨#[120]⟩) := by simpa [bareP] using d0
  obtain ⟨a1, c1, rfl⟩ := hpr.ins.len
  obtain ⟨a2, c2, rfl⟩ := hpr.outs.len
  obtain ⟨a4, c4, rfl⟩ := hpr.asr.len
  obtain ⟨a5, c5, rfl⟩ := hpr.chk.len
  have d0 := hK.cell d0
  have hbl : b < w2.heap.size := World.block_lt_of_cell? w2 _ d0
  clear hcs hpr hK hlo hb2
  simp only [bareP, List.length_cons, List.length_nil]
  go_wp2_with fail
  go_ret
  exact ⟨rfl, HB2.out.alloc HB2.out.size _⟩
end Go.Proofs.YthihoafemahgmaaDoor
