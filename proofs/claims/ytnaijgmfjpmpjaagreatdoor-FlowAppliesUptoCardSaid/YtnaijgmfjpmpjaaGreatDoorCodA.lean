/- Walks: plain.Code at any error. -/
import Derived.Test.YtnaijgmfjpmpjaaGreatDoorOckA
import Derived.Test.YtnaijgmfjpmpjaaGreatDoorErr
namespace Go.Proofs.YtnaijgmfjpmpjaaGreatDoor
set_option maxRecDepth 100000
set_option maxHeartbeats 16000000
open Go.RowKit Mx
theorem code_any (sp : Nat → Addr) (c : Nat) (a : Int) (v : Value) (w : World) (hv : ErrW sp w c a v) (hc : c ≤ 9) (h0 : a ≠ -1 → 1 ≤ c) (S : Sents w sp) (hE : ErrTypeLaid w) :
  Calls Tryz.prog 30 #[v] w fun e w' => e = .returned (.tuple #[.int .i64 c, .int .i64 a]) ∧ Below w.heap.size w w' := by
 rcases hv with ⟨rfl, rfl⟩ | ⟨ha, N, rfl, hN⟩
 ·cases c with
  | zero => exact (code_nil w).mono fun e w' ⟨h1, h2⟩ => ⟨h1, by subst h2; exact Below.refl _ _⟩
  | succ c =>
   refine (code_sent sp c (by omega) w S hE).mono fun e w' ⟨h1, h2⟩ => ⟨?_, h2⟩
   rw [h1]; simp
 ·have h1 := h0 ha
  have n0 : w.cell? ⟨N, 0, none⟩ = some (.int .i64 a) := by simp [World.cell?, hN]
  have n1 : w.cell? ⟨N, 1, none⟩ = some (esv (sp (c - 1))) := by simp [World.cell?, hN]
  refine (code_fault sp (c - 1) (by omega) N a w n0 n1 S hE).mono fun e w' ⟨h1', h2⟩ => ⟨?_, h2⟩
  rw [h1']
  have : ((c - 1 : Nat) : Int) + 1 = c := by omega
  rw [this]
end Go.Proofs.YtnaijgmfjpmpjaaGreatDoor
namespace Go.Proofs.YtnaijgmfjpmpjaaGreatDoor
set_option maxRecDepth 100000
set_option maxHeartbeats 16000000
open Go.RowKit Mx
theorem coded2_any (sp : Nat → Addr) (c : Nat) (v : Value) (w : World) (hv : ErrW sp w c (-1) v) (hc : c ≤ 9) (S : Sents w sp) (hE : ErrTypeLaid w) (c' : Int) :
  Calls Tryz.prog 9 #[v, .int .i64 c'] w fun e w' => e = .returned (.bool (decide ((c : Int) = c'))) ∧ Below w.heap.size w w' := by
 have hcode := code_any sp c (-1) v w hv hc (fun h => absurd rfl h) S hE
 go_enter Tryz.func9, Tryz.ntmps9
 go_wp2_with fail
 refine hcode.mono ?_
 rintro r w1 ⟨rfl, hb1⟩
 by_cases h1 : (c : Int) = c'
 ·subst h1
  go_wp2_with fail
  go_ret
  exact ⟨ret_bool (by simp), hb1⟩
 ·go_wp2_with fail
  go_ret
  exact ⟨ret_bool (by simp [h1]), hb1⟩
end Go.Proofs.YtnaijgmfjpmpjaaGreatDoor
