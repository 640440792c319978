/- Plain law: what strconv.Atoi makes of digits. -/
import Derived.Test.YtminjdmgfiellaaDoorLexMath
import Derived.Lib.AtoiAll
namespace Go.Proofs.YtminjdmgfiellaaDoor
open Go
theorem dvalA_ge (l : List UInt8) : ∀ a, a ≤ Lx.dvalA a l := by
  induction l with
  | nil => intro a; exact Nat.le_refl _
  | cons c l ih =>
    intro a
    have h := ih (10 * a + (c.toNat - 48))
    rw [show Lx.dvalA a (c :: l) = Lx.dvalA (10 * a + (c.toNat - 48)) l from rfl]
    generalize Lx.dvalA (10 * a + (c.toNat - 48)) l = d at *
    omega
theorem parse_digits (l : List UInt8) : ∀ a, a < 18446744073709551616 → (∀ c ∈ l, Lx.isDig c = true) →
    Lib.parseUint10 a l = if Lx.dvalA a l < 18446744073709551616 then .ok (Lx.dvalA a l) else .range := by
  induction l with
  | nil =>
    intro a ha _
    rw [show Lx.dvalA a [] = a from rfl, if_pos ha]
    rfl
  | cons c l ih =>
    intro a ha hd
    have hc : 48 ≤ c.toNat ∧ c.toNat ≤ 57 := by simpa [Lx.isDig] using hd c (by simp)
    have hg := dvalA_ge l (10 * a + (c.toNat - 48))
    rw [Lib.parseUint10, if_pos hc, show Lx.dvalA a (c :: l) = Lx.dvalA (10 * a + (c.toNat - 48)) l from rfl]
    by_cases h1 : 1844674407370955162 ≤ a
    · rw [if_pos h1, if_neg (by omega)]
    · rw [if_neg h1]
      by_cases h2 : 18446744073709551616 ≤ a * 10 + (c.toNat - 48)
      · rw [if_pos h2, if_neg (by omega)]
      · rw [if_neg h2, ih _ (by omega) (fun x hx => hd x (by simp [hx])), Nat.mul_comm a 10]
theorem atoi_digits (l : List UInt8) (hne : l ≠ []) (hd : ∀ c ∈ l, Lx.isDig c = true) :
    Lib.atoiAll l = if Lx.dval l < 9223372036854775808 then .ok (Lx.dval l : Int) else .range := by
  match l, hne with
  | c :: r, _ =>
    have hc : 48 ≤ c.toNat ∧ c.toNat ≤ 57 := by simpa [Lx.isDig] using hd c (by simp)
    have hp := parse_digits (c :: r) 0 (by omega) hd
    simp only [Lib.atoiAll]
    rw [if_neg (by omega), Lib.parseMag, if_neg (by simp), hp]
    show _ = if Lx.dvalA 0 (c :: r) < _ then Lib.NumEnd.ok ((Lx.dvalA 0 (c :: r) : Nat) : Int) else _
    by_cases h : Lx.dvalA 0 (c :: r) < 18446744073709551616
    · rw [if_pos h]
      dsimp only
      by_cases h2 : Lx.dvalA 0 (c :: r) < 9223372036854775808
      · rw [if_neg (by omega), if_neg (by omega), if_neg (by omega), if_pos h2]
      · rw [if_pos (by omega), if_neg h2]
    · rw [if_neg h, if_neg (by omega)]
end Go.Proofs.YtminjdmgfiellaaDoor
