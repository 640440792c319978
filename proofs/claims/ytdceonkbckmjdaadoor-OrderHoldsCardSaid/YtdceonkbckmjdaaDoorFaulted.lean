/- Walks: plain.Code at any error, lustrumlaw2.faulted. -/
import Derived.Test.YtdceonkbckmjdaaDoorOck
import Derived.Test.YtdceonkbckmjdaaDoorCode
namespace Go.Proofs.YtdceonkbckmjdaaDoor
open Go.RowKit Mx

theorem code_any (sp : Nat → Addr) (c : Nat) (a : Int) (v : Value) (w : World) (hv : ErrW sp w c a v) (hc : c ≤ 9) (h0 : a ≠ -1 → 1 ≤ c) (S : Sents w sp) (hE : ErrTypeLaid w) :
    Calls Tryd.prog 63 #[v] w fun e w' => e = .returned (.tuple #[.int .i64 c, .int .i64 a]) ∧ Below w.heap.size w w' := by
  rcases hv with ⟨rfl, rfl⟩ | ⟨ha, N, rfl, hN⟩
  · cases c with
    | zero => exact (code_nil w).mono fun e w' ⟨h1, h2⟩ => ⟨h1, by subst h2; exact Below.refl _ _⟩
    | succ c =>
      refine (code_sent sp c (by omega) w S hE).mono fun e w' ⟨h1, h2⟩ => ⟨?_, h2⟩
      rw [h1]; simp
  · have h1 := h0 ha
    have n0 : w.cell? ⟨N, 0, none⟩ = some (.int .i64 a) := by simp [World.cell?, hN]
    have n1 : w.cell? ⟨N, 1, none⟩ = some (esv (sp (c - 1))) := by simp [World.cell?, hN]
    refine (code_fault sp (c - 1) (by omega) N a w n0 n1 S hE).mono fun e w' ⟨h1', h2⟩ => ⟨?_, h2⟩
    rw [h1']
    have : ((c - 1 : Nat) : Int) + 1 = c := by omega
    rw [this]
set_option maxHeartbeats 1000000 in
set_option maxRecDepth 100000 in
theorem faulted_any (sp : Nat → Addr) (c : Nat) (a : Int) (v : Value) (w : World) (hv : ErrW sp w c a v) (hc : c ≤ 9) (h0 : a ≠ -1 → 1 ≤ c) (S : Sents w sp) (hE : ErrTypeLaid w) (c' a' : Int) :
    Calls Tryd.prog 18 #[v, .agg #[.int .i64 c', .int .i64 a']] w fun e w' => e = .returned (.bool (decide ((c : Int) = c') && (decide ((c : Int) = 0) || decide (a = a')))) ∧ Below w.heap.size w w' := by
  have hb0 : Below w.heap.size w (w.alloc (.cells #[.int .i64 c', .int .i64 a'] 47)) := (Below.refl _ _).alloc (Nat.le_refl _) _
  have HB0 := Lib.hid hb0
  have HV := Lib.hid (hv.below hb0)
  have S0 := S.below hb0
  have hbig := S.big
  have HE0 := Lib.hid (show ErrTypeLaid (w.alloc (.cells #[.int .i64 c', .int .i64 a'] 47)) from by unfold ErrTypeLaid; rw [World.cell?_alloc_past _ _ _ (by omega)]; exact hE)
  clear hv hb0 S hE
  go_enter Tryd.func18, Tryd.ntmps18
  go_wp2_with fail
  refine (code_any sp c a v _ HV.out hc h0 S0 HE0.out).mono ?_
  rintro r w1 ⟨rfl, hb1⟩
  have HB := Lib.hid (HB0.out.trans (hb1.mono (by simp)))
  have q0 : w1.cell? ⟨w.heap.size, 0, none⟩ = some (.int .i64 c') := by rw [hb1.cell (p := ⟨w.heap.size, 0, none⟩) (by simp), World.cell?_alloc_new]; rfl
  have q1 : w1.cell? ⟨w.heap.size, 1, none⟩ = some (.int .i64 a') := by rw [hb1.cell (p := ⟨w.heap.size, 1, none⟩) (by simp), World.cell?_alloc_new]; rfl
  clear hb1 HV HE0 S0
  by_cases h1 : (c : Int) = c'
  · subst h1
    by_cases h2 : (c : Int) = 0
    · go_wp2_with fail
      go_ret
      exact ⟨ret_bool (by simp [h2]), HB.out⟩
    · by_cases h3 : a = a'
      · go_wp2_with fail
        go_ret
        exact ⟨ret_bool (by simp [h2, h3] <;> omega), HB.out⟩
      · go_wp2_with fail
        go_ret
        exact ⟨ret_bool (by simp [h2, h3] <;> omega), HB.out⟩
  · go_wp2_with fail
    go_ret
    exact ⟨ret_bool (by simp [h1]), HB.out⟩
end Go.Proofs.YtdceonkbckmjdaaDoor
