/- Plain data and functions of values and operators, as flow.Apply has them: no program in sight. -/
import Derived.Test.YtmeldgjlgifdhaaDoorMx
namespace Go.Proofs.YtmeldgjlgifdhaaDoor.Mx
structure Vl where
 kind : Int
 n : Int
deriving DecidableEq
def vz : Vl := ⟨0, 0⟩
def tv (b : Bool) : Vl := ⟨1, if b then 1 else 0⟩
def around (n : Int) : Int := if 128 ≤ n % 256 then n % 256 - 256 else n % 256
def wv (n : Int) : Vl := ⟨2, around n⟩
def rightV (v : Vl) (k : Int) : Bool := decide (v.kind = k) && (if k = 1 then decide (v.n = 0) || decide (v.n = 1) else decide (k = 2) && decide (-128 ≤ v.n) && decide (v.n ≤ 127))
def isApp (o : ByteArray) (l : List Vl) : Nat :=
 match arity o with
 | .none => 3
 | some k =>
  if k < 1 ∨ k ≠ l.length ∨ o = oPre ∨ o = oArrow ∨ o = oFby then 3
  else if !(l.all fun v => rightV v v.kind) then 5
  else if kindBy o 0 (l.map (·.kind)) = 0 then 5 else 0
def appM (o : ByteArray) (l : List Vl) : Vl × Bool :=
 let a := l.getD 0 vz
 let b := l.getD 1 vz
 if o = oNot then (tv (decide (a.n = 0)), false)
 else if o = oNeg then (wv (-a.n), false)
 else if o = oIf then (if a.n = 1 then b else l.getD 2 vz, false)
 else if o = oEq then (tv (decide (a = b)), false)
 else if o = oNe then (tv (decide (a ≠ b)), false)
 else if o = oLt then (tv (decide (a.n < b.n)), false)
 else if o = oLe then (tv (decide (a.n ≤ b.n)), false)
 else if o = oGt then (tv (decide (b.n < a.n)), false)
 else if o = oGe then (tv (decide (b.n ≤ a.n)), false)
 else if o = oAnd then (tv (decide (a.n = 1) && decide (b.n = 1)), false)
 else if o = oOr then (tv (decide (a.n = 1) || decide (b.n = 1)), false)
 else if o = oXor then (tv (decide (a.n = 1) != decide (b.n = 1)), false)
 else if o = oImp then (tv (!decide (a.n = 1) || decide (b.n = 1)), false)
 else if (o = oDiv ∨ o = oMod) ∧ b.n = 0 then (vz, true)
 else if o = oAdd then (wv (a.n + b.n), false)
 else if o = oSub then (wv (a.n - b.n), false)
 else if o = oMul then (wv (a.n * b.n), false)
 else if o = oDiv then (wv (a.n.tdiv b.n), false)
 else (wv (a.n.tmod b.n), false)
end Go.Proofs.YtmeldgjlgifdhaaDoor.Mx
