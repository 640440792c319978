/- Plain data and functions of values and operators, as flow.Apply has them: no program in sight. -/
import Derived.Test.YtnaijgmfjpmpjaaGreatDoorMx
namespace Go.Proofs.YtnaijgmfjpmpjaaGreatDoor.Mx
structure Vl where
 kind : Int
 n : Int
deriving DecidableEq
def vz : Vl := ⟨0, 0⟩
def tv (b : Bool) : Vl := ⟨1, if b then 1 else 0⟩
def around (n : Int) : Int := if 128 ≤ n % 256 then n % 256 - 256 else n % 256
def wv (n : Int) : Vl := ⟨2, around n⟩
def rightV (v : Vl) (k : Int) : Bool := decide (v.kind = k) && (if k = 1 then decide (v.n = 0) || decide (v.n = 1) else decide (k = 2) && decide (-128 ≤ v.n) && decide (v.n ≤ 127))
def isApp (o : ByteArray) (l : List Vl) : Nat :=
 match arity o with
 | .none => 3
 | some k =>
  if k < 1 ∨ k ≠ l.length ∨ o = oPre ∨ o = oArrow ∨ o = oFby then 3
  else if !(l.all fun v => rightV v v.kind) then 5
  else if kindBy o 0 (l.map (·.kind)) = 0 then 5 else 0
def appM (o : ByteArray) (l : List Vl) : Vl × Bool :=
 let a := l.getD 0 vz
 let b := l.getD 1 vz
 if o = oNot then (tv (decide (a.n = 0)), false)
 else if o = oNeg then (wv (-a.n), false)
 else if o = oIf then (if a.n = 1 then b else l.getD 2 vz, false)
 else if o = oEq then (tv (decide (a = b)), false)
 else if o = oNe then (tv (decide (a ≠ b)), false)
 else if o = oLt then (tv (decide (a.n < b.n)), false)
 else if o = oLe then (tv (decide (a.n ≤ b.n)), false)
 else if o = oGt then (tv (decide (b.n < a.n)), false)
 else if o = oGe then (tv (decide (b.n ≤ a.n)), false)
 else if o = oAnd then (tv (decide (a.n = 1) && decide (b.n = 1)), false)
 else if o = oOr then (tv (decide (a.n = 1) || decide (b.n = 1)), false)
 else if o = oXor then (tv (decide (a.n = 1) != decide (b.n = 1)), false)
 else if o = oImp then (tv (!decide (a.n = 1) || decide (b.n = 1)), false)
 else if (o = oDiv ∨ o = oMod) ∧ b.n = 0 then (vz, true)
 else if o = oAdd then (wv (a.n + b.n), false)
 else if o = oSub then (wv (a.n - b.n), false)
 else if o = oMul then (wv (a.n * b.n), false)
 else if o = oDiv then (wv (a.n.tdiv b.n), false)
 else (wv (a.n.tmod b.n), false)
theorem around_tmod (n : Int) : (let m := n.tmod 256; let m1 := if m < 0 then m + 256 else m; if 127 < m1 then m1 - 256 else m1) = around n := by
 have h := Int.tmod_eq_emod (a := n) (b := 256)
 have h1 := Int.emod_nonneg n (show (256 : Int) ≠ 0 by decide)
 have h2 := Int.emod_lt_of_pos n (show (0 : Int) < 256 by decide)
 unfold around
 dsimp only
 by_cases hc : 0 ≤ n ∨ (256 : Int) ∣ n
 ·rw [if_pos hc] at h
  have h : n.tmod 256 = n % 256 := by omega
  rw [h]
  split <;> split <;> split <;> omega
 ·rw [if_neg hc] at h
  have h : n.tmod 256 = n % 256 - 256 := by have e : ((Int.natAbs 256 : Nat) : Int) = 256 := rfl; omega
  have h3 : n % 256 ≠ 0 := fun e => hc (.inr (Int.dvd_of_emod_eq_zero e))
  rw [h]
  split <;> split <;> split <;> omega
theorem mul_bound {a b : Int} (h1 : -128 ≤ a) (h2 : a ≤ 127) (h3 : -128 ≤ b) (h4 : b ≤ 127) : -16384 ≤ a * b ∧ a * b ≤ 16384 := by
 have : (a * b).natAbs ≤ 128 * 128 := by
  rw [Int.natAbs_mul]
  exact Nat.mul_le_mul (by omega) (by omega)
 omega
theorem tdiv_bound {a b : Int} (h1 : -128 ≤ a) (h2 : a ≤ 127) : -128 ≤ a.tdiv b ∧ a.tdiv b ≤ 128 := by
 have : (a.tdiv b).natAbs ≤ 128 := by
  rw [Int.natAbs_tdiv]
  exact Nat.le_trans (Nat.div_le_self _ _) (by omega)
 omega
theorem tmod_bound {a b : Int} (h1 : -128 ≤ a) (h2 : a ≤ 127) : -128 ≤ a.tmod b ∧ a.tmod b ≤ 128 := by
 have : (a.tmod b).natAbs ≤ 128 := by
  rw [Int.natAbs_tmod]
  exact Nat.le_trans (Nat.mod_le _ _) (by omega)
 omega
theorem tmod_sub (a b : Int) : a - a.tdiv b * b = a.tmod b := by
 have := Int.tmod_add_tdiv_mul a b
 omega
end Go.Proofs.YtnaijgmfjpmpjaaGreatDoor.Mx
