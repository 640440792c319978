/- Walks: lustrumlaw2.bare. -/
import Derived.Test.YtnaijgmfjpmpjaaGreatDoorProg
import Derived.Test.YtnaijgmfjpmpjaaGreatDoorEx
import Derived.Test.YtnaijgmfjpmpjaaGreatDoorMx
import Derived.Lib.Hide
import Derived.WalkKit
import Derived.Test.YtnaijgmfjpmpjaaGreatDoorRu
import Derived.Test.YtnaijgmfjpmpjaaGreatDoorTkM
namespace Go.Proofs.YtnaijgmfjpmpjaaGreatDoor
set_option maxRecDepth 100000
set_option maxHeartbeats 16000000
open Mx
def bareP : Pr := ⟨[], [⟨#[120]⟩], [⟨⟨#[120]⟩, 1, .mk oTrue 0 ⟨#[]⟩ []⟩], [], []⟩
end Go.Proofs.YtnaijgmfjpmpjaaGreatDoor
namespace Go.Proofs.YtnaijgmfjpmpjaaGreatDoor
set_option maxRecDepth 100000
set_option maxHeartbeats 16000000
open Go.RowKit Mx
theorem lbare_any (w : World) :
  Calls Tryz.prog 22 #[] w fun r w' => ∃ vi vo vl va vc, r = .returned (.agg #[vi, vo, vl, va, vc]) ∧ PrP (allKn w') bareP vi vo vl va vc ∧ Below w.heap.size w w' := by
 go_enter Tryz.func22, Tryz.ntmps22
 go_wp2_with fail
 have hb : Below w.heap.size w (((w.alloc (.cells #[.slice none 0 0, .slice (some ⟨w.heap.size + 1, 0, none⟩) 1 1, .slice (some ⟨w.heap.size + 1 + 1, 0, none⟩) 1 1, .slice none 0 0, .slice none 0 0] 52)).alloc (.cells #[.string ⟨#[120]⟩] 9)).alloc (.cells #[.string ⟨#[120]⟩, .int .i64 1, .string ⟨#[116, 114, 117, 101]⟩, .int .i64 0, .string ⟨#[]⟩, .slice none 0 0] 81)) := by go_grown
 have h1 : ∀ i, (((w.alloc (.cells #[.slice none 0 0, .slice (some ⟨w.heap.size + 1, 0, none⟩) 1 1, .slice (some ⟨w.heap.size + 1 + 1, 0, none⟩) 1 1, .slice none 0 0, .slice none 0 0] 52)).alloc (.cells #[.string ⟨#[120]⟩] 9)).alloc (.cells #[.string ⟨#[120]⟩, .int .i64 1, .string ⟨#[116, 114, 117, 101]⟩, .int .i64 0, .string ⟨#[]⟩, .slice none 0 0] 81)).cell? ⟨w.heap.size, i, none⟩ = (#[.slice none 0 0, .slice (some ⟨w.heap.size + 1, 0, none⟩) 1 1, .slice (some ⟨w.heap.size + 1 + 1, 0, none⟩) 1 1, .slice none 0 0, .slice none 0 0] : Array Value)[i]? := fun i => by
  rw [World.cell?_alloc_past _ _ _ (by simp; omega), World.cell?_alloc_past _ _ _ (by simp), World.cell?_alloc_new]
 have h2 : ∀ i, (((w.alloc (.cells #[.slice none 0 0, .slice (some ⟨w.heap.size + 1, 0, none⟩) 1 1, .slice (some ⟨w.heap.size + 1 + 1, 0, none⟩) 1 1, .slice none 0 0, .slice none 0 0] 52)).alloc (.cells #[.string ⟨#[120]⟩] 9)).alloc (.cells #[.string ⟨#[120]⟩, .int .i64 1, .string ⟨#[116, 114, 117, 101]⟩, .int .i64 0, .string ⟨#[]⟩, .slice none 0 0] 81)).cell? ⟨w.heap.size + 1, i, none⟩ = (#[.string ⟨#[120]⟩] : Array Value)[i]? := fun i => by
  rw [World.cell?_alloc_past _ _ _ (by simp)]
  have := World.cell?_alloc_new (w := w.alloc (.cells #[.slice none 0 0, .slice (some ⟨w.heap.size + 1, 0, none⟩) 1 1, .slice (some ⟨w.heap.size + 1 + 1, 0, none⟩) 1 1, .slice none 0 0, .slice none 0 0] 52)) #[.string ⟨#[120]⟩] 9 i
  rw [World.size_alloc] at this
  exact this
 have h3 : ∀ i, (((w.alloc (.cells #[.slice none 0 0, .slice (some ⟨w.heap.size + 1, 0, none⟩) 1 1, .slice (some ⟨w.heap.size + 1 + 1, 0, none⟩) 1 1, .slice none 0 0, .slice none 0 0] 52)).alloc (.cells #[.string ⟨#[120]⟩] 9)).alloc (.cells #[.string ⟨#[120]⟩, .int .i64 1, .string ⟨#[116, 114, 117, 101]⟩, .int .i64 0, .string ⟨#[]⟩, .slice none 0 0] 81)).cell? ⟨w.heap.size + 1 + 1, i, none⟩ = (#[.string ⟨#[120]⟩, .int .i64 1, .string ⟨#[116, 114, 117, 101]⟩, .int .i64 0, .string ⟨#[]⟩, .slice none 0 0] : Array Value)[i]? := fun i => by
  have := World.cell?_alloc_new (w := (w.alloc (.cells #[.slice none 0 0, .slice (some ⟨w.heap.size + 1, 0, none⟩) 1 1, .slice (some ⟨w.heap.size + 1 + 1, 0, none⟩) 1 1, .slice none 0 0, .slice none 0 0] 52)).alloc (.cells #[.string ⟨#[120]⟩] 9)) #[.string ⟨#[120]⟩, .int .i64 1, .string ⟨#[116, 114, 117, 101]⟩, .int .i64 0, .string ⟨#[]⟩, .slice none 0 0] 81 i
  rw [World.size_alloc, World.size_alloc] at this
  exact this
 generalize ((w.alloc (.cells #[.slice none 0 0, .slice (some ⟨w.heap.size + 1, 0, none⟩) 1 1, .slice (some ⟨w.heap.size + 1 + 1, 0, none⟩) 1 1, .slice none 0 0, .slice none 0 0] 52)).alloc (.cells #[.string ⟨#[120]⟩] 9)).alloc (.cells #[.string ⟨#[120]⟩, .int .i64 1, .string ⟨#[116, 114, 117, 101]⟩, .int .i64 0, .string ⟨#[]⟩, .slice none 0 0] 81) = W at *
 have q0 := h1 0
 have q1 := h1 1
 have q2 := h1 2
 have q3 := h1 3
 have q4 := h1 4
 simp at q0 q1 q2 q3 q4
 refine bodyPost_ret (v := .agg #[.slice none 0 0, .slice (some ⟨w.heap.size + 1, 0, none⟩) 1 1, .slice (some ⟨w.heap.size + 1 + 1, 0, none⟩) 1 1, .slice none 0 0, .slice none 0 0]) (by simp [results, Tryz.results22, go_sem, q0, q1, q2, q3, q4]) rfl ?_
 refine ⟨_, _, _, _, _, rfl, ⟨.inl ⟨rfl, none, 0, rfl⟩, .inr ⟨_, 0, 1, rfl, by simp [bareP], by unfold maxLen; omega, fun i hi => ?_⟩, .inr ⟨_, 0, 1, rfl, by simp [bareP], by unfold maxLen; omega, fun i hi => ?_⟩, .inl ⟨rfl, none, 0, rfl⟩, .inl ⟨rfl, none, 0, rfl⟩⟩, hb⟩
 ·obtain rfl : i = 0 := by simpa [bareP] using hi
  show (allKn W).cell _ _ = _
  rw [allKn_cell, h2]
  rfl
 ·obtain rfl : i = 0 := by simpa [bareP] using hi
  refine ⟨?_, ?_, ?_, ?_, ?_, .inl ⟨rfl, none, 0, ?_⟩⟩
  all_goals show (allKn W).cell _ _ = _
  all_goals rw [allKn_cell, h3]
  all_goals rfl
end Go.Proofs.YtnaijgmfjpmpjaaGreatDoor
namespace Go.Proofs.YtnaijgmfjpmpjaaGreatDoor
set_option maxRecDepth 100000
set_option maxHeartbeats 16000000
open Go.RowKit Mx
theorem bare_runE : runE bareP [[]] 0 = (0, -1) := by kernel_rfl
theorem bare_run : runM false 0 bareP [[]] = [⟨[⟨1, 1⟩], true, false, []⟩] := by kernel_rfl
theorem TksV.at0 {H : Kn} {l : List Tk} {a : Option Addr} {n c : Nat} (h : TksV H l (.slice a n c)) {k : Nat} (hk : k < l.length) : ∃ b off a1 c1 a2 c2, a = some ⟨b, off, none⟩ ∧ H.cell b (off + k * 4) = some (.slice a1 l[k].out.length c1) ∧ H.cell b (off + k * 4 + 1) = some (.bool l[k].asrt) ∧ H.cell b (off + k * 4 + 2) = some (.bool l[k].trap) ∧ H.cell b (off + k * 4 + 3) = some (.slice a2 l[k].checks.length c2) ∧ TkV H l[k] (.slice a1 l[k].out.length c1) (.slice a2 l[k].checks.length c2) := by
 obtain ⟨b, off, haf, _, ov, cv, c0, c1, c2, c3, hv⟩ := SlV.at h hk
 obtain ⟨a1, k1, rfl⟩ := hv.outs.len
 obtain ⟨a2, k2, rfl⟩ := hv.checks.len
 exact ⟨b, off, a1, k1, a2, k2, haf, c0, c1, c2, c3, hv⟩
theorem once_any (H : Kn) (T : LevelsAt H) (sp : Nat → Addr) (w : World) (hH : H.In w) (S : Sen5 w sp) :
  Calls Tryz.prog 5 #[] w fun r w' => r = .returned (.bool true) ∧ Below w.heap.size w w' := by
 have hle : ∀ w1, Below w.heap.size w w1 → LevelsAt (allKn w1) := fun w1 hb => T.le (kn_le_all (hH.below hb))
 have HLE := Lib.hid hle
 clear hle
 go_enter Tryz.func5, Tryz.ntmps5
 go_wp2_with fail
 refine (lbare_any _).mono ?_
 rintro r w1 ⟨vi, vo, vl, va, vc, rfl, hp, hb1⟩
 have HB1 := Lib.hid hb1
 have HP1 := Lib.hid hp
 clear hb1 hp
 go_wp2_with fail
 have hb2 : Below w.heap.size w (w1.alloc (.cells #[.slice none 0 0] 22)) := HB1.out.alloc HB1.out.size _
 have hin : InsV (allKn (w1.alloc (.cells #[.slice none 0 0] 22))) [[]] (.slice (some ⟨w1.heap.size, 0, none⟩) 1 1) := by
  refine .inr ⟨_, 0, 1, rfl, by simp, by unfold maxLen; omega, fun i hi => ?_⟩
  obtain rfl : i = 0 := by simpa using hi
  refine ⟨.slice none 0 0, ?_, .inl ⟨rfl, none, 0, rfl⟩⟩
  show (allKn _).cell _ _ = _
  rw [allKn_cell]
  simp
 have hp2 : PrP (allKn (w1.alloc (.cells #[.slice none 0 0] 22))) bareP vi vo vl va vc := HP1.out.le (kn_le_all ((allKn_in w1).alloc _))
 refine (run_any _ (HLE.out _ hb2) sp bareP _ _ _ _ _ hp2 [[]] _ hin _ (allKn_in _) (S.below hb2) false 0 ⟨by decide, by decide, by decide, by decide, by decide, by decide⟩ (by decide)).mono ?_
 rintro r w3 hpost
 obtain ⟨hb3, hpost⟩ := hpost.told
 have HB3 := Lib.hid (hb2.trans (hb3.mono hb2.size))
 rw [bare_runE, bare_run] at hpost
 rcases hpost with ⟨_, v, rfl, hv⟩ | ⟨h, _⟩
 case inr => exact absurd rfl h
 obtain ⟨av, cv, rfl⟩ := hv.len
 obtain ⟨b, off, a1, c1, a2, c2, rfl, d0, d1, d2, d3, hx⟩ := hv.at0 (show 0 < _ from by simp)
 obtain ⟨b5, off5, rfl, e0, e1⟩ := vl_at2 hx.outs (show 0 < _ from by simp)
 dsimp only [List.getElem_cons_zero, List.length_cons, List.length_nil] at d0 d1 d2 d3 e0 e1
 simp only [Nat.zero_mul, Nat.add_zero, allKn_cell] at d0 d1 d2 d3 e0 e1
 clear hx hv hin hp2 hb2 hb3
 dsimp only [List.length_cons, List.length_nil]
 go_wp2_with fail
 go_ret
 exact ⟨rfl, HB3.out⟩
end Go.Proofs.YtnaijgmfjpmpjaaGreatDoor
