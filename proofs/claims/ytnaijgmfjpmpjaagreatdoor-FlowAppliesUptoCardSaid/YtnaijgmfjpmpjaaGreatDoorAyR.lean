/- Walks: lustrumref1: Arity, Result (as in XRfB, XRfD; for a dump that lacks lustrumref1.Expr). -/
import Derived.Test.YtnaijgmfjpmpjaaGreatDoorKind
import Derived.Test.YtnaijgmfjpmpjaaGreatDoorFlA
import Derived.Test.YtnaijgmfjpmpjaaGreatDoorMap
import Derived.Test.YtnaijgmfjpmpjaaGreatDoorRg
import Derived.Test.YtnaijgmfjpmpjaaGreatDoorRw
namespace Go.Proofs.YtnaijgmfjpmpjaaGreatDoor
set_option maxRecDepth 100000
set_option maxHeartbeats 16000000
open Go.RowKit Mx
theorem rarity_any (o : ByteArray) (w : World) :
  Calls Tryz.prog 27 #[.string o] w fun e w' => e = .returned (.tuple #[.int .i64 (arN o), .bool (arB o)]) ∧ w = w' := by
 by_cases hk : o = oInt ∨ o = oTrue ∨ o = oFalse ∨ o = oName ∨ o = oNot ∨ o = oNeg ∨ o = oPre ∨ o = oIf ∨ o = oCall ∨ o = oAnd ∨ o = oOr ∨ o = oXor ∨ o = oImp ∨ o = oEq ∨ o = oNe ∨ o = oLt ∨ o = oLe ∨ o = oGt ∨ o = oGe ∨ o = oAdd ∨ o = oSub ∨ o = oMul ∨ o = oDiv ∨ o = oMod ∨ o = oArrow ∨ o = oFby
 ·rcases hk with rfl | rfl | rfl | rfl | rfl | rfl | rfl | rfl | rfl | rfl | rfl | rfl | rfl | rfl | rfl | rfl | rfl | rfl | rfl | rfl | rfl | rfl | rfl | rfl | rfl | rfl
  all_goals
   go_enter Tryz.func27, Tryz.ntmps27
   go_wp2_with fail
   go_ret2
   exact ⟨by rfl, rfl⟩
 ·simp only [not_or] at hk
  obtain ⟨k0, k1, k2, k3, k4, k5, k6, k7, k8, k9, k10, k11, k12, k13, k14, k15, k16, k17, k18, k19, k20, k21, k22, k23, k24, k25⟩ := hk
  have hA : arity o = none := by
   unfold arity
   rw [if_neg (by simp [k0, k1, k2, k3]), if_neg (by simp [k4, k5, k6]), if_neg k7, if_neg k8, if_neg (by simp [k24, k25])]
   rw [if_neg]
   simp [levels, k9, k10, k11, k12, k13, k14, k15, k16, k17, k18, k19, k20, k21, k22, k23]
  have h1 : arN o = 0 := by unfold arN; rw [hA]; rfl
  have h2 : arB o = false := by unfold arB; rw [hA]; rfl
  have e0 : (o.toList == [105, 110, 116]) = false := not_lit _ k0
  have e1 : (o.toList == [116, 114, 117, 101]) = false := not_lit _ k1
  have e2 : (o.toList == [102, 97, 108, 115, 101]) = false := not_lit _ k2
  have e3 : (o.toList == [110, 97, 109, 101]) = false := not_lit _ k3
  have e4 : (o.toList == [110, 111, 116]) = false := not_lit _ k4
  have e5 : (o.toList == [110, 101, 103]) = false := not_lit _ k5
  have e6 : (o.toList == [112, 114, 101]) = false := not_lit _ k6
  have e7 : (o.toList == [105, 102]) = false := not_lit _ k7
  have e8 : (o.toList == [99, 97, 108, 108]) = false := not_lit _ k8
  have e9 : (o.toList == [97, 110, 100]) = false := not_lit _ k9
  have e10 : (o.toList == [111, 114]) = false := not_lit _ k10
  have e11 : (o.toList == [120, 111, 114]) = false := not_lit _ k11
  have e12 : (o.toList == [61, 62]) = false := not_lit _ k12
  have e13 : (o.toList == [61]) = false := not_lit _ k13
  have e14 : (o.toList == [60, 62]) = false := not_lit _ k14
  have e15 : (o.toList == [60]) = false := not_lit _ k15
  have e16 : (o.toList == [60, 61]) = false := not_lit _ k16
  have e17 : (o.toList == [62]) = false := not_lit _ k17
  have e18 : (o.toList == [62, 61]) = false := not_lit _ k18
  have e19 : (o.toList == [43]) = false := not_lit _ k19
  have e20 : (o.toList == [45]) = false := not_lit _ k20
  have e21 : (o.toList == [42]) = false := not_lit _ k21
  have e22 : (o.toList == [47]) = false := not_lit _ k22
  have e23 : (o.toList == [109, 111, 100]) = false := not_lit _ k23
  have e24 : (o.toList == [45, 62]) = false := not_lit _ k24
  have e25 : (o.toList == [102, 98, 121]) = false := not_lit _ k25
  rw [h1, h2]
  clear h1 h2 hA k0 k1 k2 k3 k4 k5 k6 k7 k8 k9 k10 k11 k12 k13 k14 k15 k16 k17 k18 k19 k20 k21 k22 k23 k24 k25
  go_enter Tryz.func27, Tryz.ntmps27
  go_wp2_with fail
  go_ret2
  exact ⟨rfl, rfl⟩
theorem rresult_any (o : ByteArray) (l0 : (o.toList == [105, 110, 116]) = false) (l1 : (o.toList == [116, 114, 117, 101]) = false) (l2 : (o.toList == [102, 97, 108, 115, 101]) = false) (l3 : (o.toList == [110, 97, 109, 101]) = false) (k r0 r1 r2 rl : Int) (g m cap : Nat) (w : World) (hm : m ≤ 1000000000) (d0 : w.cell? ⟨g, 0, none⟩ = some (.int .i64 r0)) (dl : w.cell? ⟨g, m, none⟩ = some (.int .i64 rl))
  (hif : (o.toList == [105, 102]) = true → w.cell? ⟨g, 1, none⟩ = some (.int .i64 r1) ∧ w.cell? ⟨g, 2, none⟩ = some (.int .i64 r2) ∧ m = 2) :
  Calls Tryz.prog 29 #[.string o, .slice (some ⟨g, 0, none⟩) (m + 1) cap] w fun r w' => r = .returned (.int .i64 (kindW o k r0 r1 r2 (r0 == rl))) ∧ Below w.heap.size w w' := by
 have HIF := Lib.hid hif
 have HF := Lib.hid (show ∀ n, Below w.heap.size w (w.drewN n) from fun n => below_drewN (Below.refl _ _) n)
 clear hif
 obtain ⟨kw, hkw⟩ : ∃ x, kindW o k r0 r1 r2 (r0 == rl) = x := ⟨_, rfl⟩
 rw [hkw]
 have HK := Lib.hid hkw.symm
 clear hkw
 rcases Bool.eq_false_or_eq_true (o.toList == [105, 102]) with c0 | c0
 ·obtain ⟨d1, d2, hm2⟩ := HIF.out c0
  subst hm2
  have hrr : r2 = rl := by rw [d2] at dl; cases dl; rfl
  subst hrr
  clear dl
  rcases Bool.eq_false_or_eq_true (r0 == 1) with t0 | t0
  ·rcases Bool.eq_false_or_eq_true (r1 == r2) with t1 | t1
   ·have S0 : r0 = 1 := by simpa using t0
    have S1 : r1 = r2 := by simpa using t1
    subst S0
    subst S1
    go_enter Tryz.func29, Tryz.ntmps29
    go_wp2_with fail
    go_quiet (fail)
    go_wp2_with fail
    go_ret
    exact ⟨ret_int (by rw [HK.out]; unfold kindW; simp [l0, l1, l2, l3, c0]), HF.out _⟩
   ·have S0 : r0 = 1 := by simpa using t0
    have S1 : ¬ r1 = r2 := by simpa using t1
    subst S0
    go_enter Tryz.func29, Tryz.ntmps29
    go_wp2_with fail
    go_quiet (fail)
    go_wp2_with fail
    go_ret
    exact ⟨ret_int (by rw [HK.out]; unfold kindW; simp [l0, l1, l2, l3, c0, S1]), HF.out _⟩
  ·have S0 : ¬ r0 = 1 := by simpa using t0
   go_enter Tryz.func29, Tryz.ntmps29
   go_wp2_with fail
   go_quiet (fail)
   go_wp2_with fail
   go_ret
   exact ⟨ret_int (by rw [HK.out]; unfold kindW; simp [l0, l1, l2, l3, c0, S0]), HF.out _⟩
 rcases Bool.eq_false_or_eq_true (r0 == rl) with t | t
 ·have S : r0 = rl := by simpa using t
  subst S
  rw [t] at HK
  rcases Bool.eq_false_or_eq_true (o.toList == [112, 114, 101]) with c1 | c1
  ·have hc : o.toList = [112, 114, 101] := by simpa using c1
   clear HIF
   go_enter Tryz.func29, Tryz.ntmps29
   go_wp2_with fail
   go_ret
   exact ⟨ret_int (by rw [HK.out]; unfold kindW; simp [hc]), Below.refl _ _⟩
  rcases Bool.eq_false_or_eq_true (o.toList == [45, 62]) with c2 | c2
  ·have hc : o.toList = [45, 62] := by simpa using c2
   clear HIF
   go_enter Tryz.func29, Tryz.ntmps29
   go_wp2_with fail
   go_ret
   exact ⟨ret_int (by rw [HK.out]; unfold kindW; simp [hc]), Below.refl _ _⟩
  rcases Bool.eq_false_or_eq_true (o.toList == [102, 98, 121]) with c3 | c3
  ·have hc : o.toList = [102, 98, 121] := by simpa using c3
   clear HIF
   go_enter Tryz.func29, Tryz.ntmps29
   go_wp2_with fail
   go_ret
   exact ⟨ret_int (by rw [HK.out]; unfold kindW; simp [hc]), Below.refl _ _⟩
  rcases Bool.eq_false_or_eq_true (o.toList == [61]) with c4 | c4
  ·have hc : o.toList = [61] := by simpa using c4
   clear HIF
   go_enter Tryz.func29, Tryz.ntmps29
   go_wp2_with fail
   go_ret
   exact ⟨ret_int (by rw [HK.out]; unfold kindW; simp [hc]), Below.refl _ _⟩
  rcases Bool.eq_false_or_eq_true (o.toList == [60, 62]) with c5 | c5
  ·have hc : o.toList = [60, 62] := by simpa using c5
   clear HIF
   go_enter Tryz.func29, Tryz.ntmps29
   go_wp2_with fail
   go_ret
   exact ⟨ret_int (by rw [HK.out]; unfold kindW; simp [hc]), Below.refl _ _⟩
  rcases Bool.eq_false_or_eq_true (o.toList == [110, 111, 116]) with c6 | c6
  ·rcases Bool.eq_false_or_eq_true (r0 == 1) with u | u
   ·have U : r0 = 1 := by simpa using u
    subst U
    have hc : o.toList = [110, 111, 116] := by simpa using c6
    clear HIF
    go_enter Tryz.func29, Tryz.ntmps29
    go_wp2_with fail
    go_ret
    exact ⟨ret_int (by rw [HK.out]; unfold kindW; simp [hc]), Below.refl _ _⟩
   ·have U : ¬ r0 = 1 := by simpa using u
    have hc : o.toList = [110, 111, 116] := by simpa using c6
    clear HIF
    go_enter Tryz.func29, Tryz.ntmps29
    go_wp2_with fail
    go_ret
    exact ⟨ret_int (by rw [HK.out]; unfold kindW; simp [hc, U]), Below.refl _ _⟩
  rcases Bool.eq_false_or_eq_true (o.toList == [97, 110, 100]) with c7 | c7
  ·rcases Bool.eq_false_or_eq_true (r0 == 1) with u | u
   ·have U : r0 = 1 := by simpa using u
    subst U
    have hc : o.toList = [97, 110, 100] := by simpa using c7
    clear HIF
    go_enter Tryz.func29, Tryz.ntmps29
    go_wp2_with fail
    go_ret
    exact ⟨ret_int (by rw [HK.out]; unfold kindW; simp [hc]), Below.refl _ _⟩
   ·have U : ¬ r0 = 1 := by simpa using u
    have hc : o.toList = [97, 110, 100] := by simpa using c7
    clear HIF
    go_enter Tryz.func29, Tryz.ntmps29
    go_wp2_with fail
    go_ret
    exact ⟨ret_int (by rw [HK.out]; unfold kindW; simp [hc, U]), Below.refl _ _⟩
  rcases Bool.eq_false_or_eq_true (o.toList == [111, 114]) with c8 | c8
  ·rcases Bool.eq_false_or_eq_true (r0 == 1) with u | u
   ·have U : r0 = 1 := by simpa using u
    subst U
    have hc : o.toList = [111, 114] := by simpa using c8
    clear HIF
    go_enter Tryz.func29, Tryz.ntmps29
    go_wp2_with fail
    go_ret
    exact ⟨ret_int (by rw [HK.out]; unfold kindW; simp [hc]), Below.refl _ _⟩
   ·have U : ¬ r0 = 1 := by simpa using u
    have hc : o.toList = [111, 114] := by simpa using c8
    clear HIF
    go_enter Tryz.func29, Tryz.ntmps29
    go_wp2_with fail
    go_ret
    exact ⟨ret_int (by rw [HK.out]; unfold kindW; simp [hc, U]), Below.refl _ _⟩
  rcases Bool.eq_false_or_eq_true (o.toList == [120, 111, 114]) with c9 | c9
  ·rcases Bool.eq_false_or_eq_true (r0 == 1) with u | u
   ·have U : r0 = 1 := by simpa using u
    subst U
    have hc : o.toList = [120, 111, 114] := by simpa using c9
    clear HIF
    go_enter Tryz.func29, Tryz.ntmps29
    go_wp2_with fail
    go_ret
    exact ⟨ret_int (by rw [HK.out]; unfold kindW; simp [hc]), Below.refl _ _⟩
   ·have U : ¬ r0 = 1 := by simpa using u
    have hc : o.toList = [120, 111, 114] := by simpa using c9
    clear HIF
    go_enter Tryz.func29, Tryz.ntmps29
    go_wp2_with fail
    go_ret
    exact ⟨ret_int (by rw [HK.out]; unfold kindW; simp [hc, U]), Below.refl _ _⟩
  rcases Bool.eq_false_or_eq_true (o.toList == [61, 62]) with c10 | c10
  ·rcases Bool.eq_false_or_eq_true (r0 == 1) with u | u
   ·have U : r0 = 1 := by simpa using u
    subst U
    have hc : o.toList = [61, 62] := by simpa using c10
    clear HIF
    go_enter Tryz.func29, Tryz.ntmps29
    go_wp2_with fail
    go_ret
    exact ⟨ret_int (by rw [HK.out]; unfold kindW; simp [hc]), Below.refl _ _⟩
   ·have U : ¬ r0 = 1 := by simpa using u
    have hc : o.toList = [61, 62] := by simpa using c10
    clear HIF
    go_enter Tryz.func29, Tryz.ntmps29
    go_wp2_with fail
    go_ret
    exact ⟨ret_int (by rw [HK.out]; unfold kindW; simp [hc, U]), Below.refl _ _⟩
  rcases Bool.eq_false_or_eq_true (o.toList == [60]) with c11 | c11
  ·rcases Bool.eq_false_or_eq_true (r0 == 2) with u | u
   ·have U : r0 = 2 := by simpa using u
    subst U
    have hc : o.toList = [60] := by simpa using c11
    clear HIF
    go_enter Tryz.func29, Tryz.ntmps29
    go_wp2_with fail
    go_ret
    exact ⟨ret_int (by rw [HK.out]; unfold kindW; simp [hc]), Below.refl _ _⟩
   ·have U : ¬ r0 = 2 := by simpa using u
    have hc : o.toList = [60] := by simpa using c11
    clear HIF
    go_enter Tryz.func29, Tryz.ntmps29
    go_wp2_with fail
    go_ret
    exact ⟨ret_int (by rw [HK.out]; unfold kindW; simp [hc, U]), Below.refl _ _⟩
  rcases Bool.eq_false_or_eq_true (o.toList == [60, 61]) with c12 | c12
  ·rcases Bool.eq_false_or_eq_true (r0 == 2) with u | u
   ·have U : r0 = 2 := by simpa using u
    subst U
    have hc : o.toList = [60, 61] := by simpa using c12
    clear HIF
    go_enter Tryz.func29, Tryz.ntmps29
    go_wp2_with fail
    go_ret
    exact ⟨ret_int (by rw [HK.out]; unfold kindW; simp [hc]), Below.refl _ _⟩
   ·have U : ¬ r0 = 2 := by simpa using u
    have hc : o.toList = [60, 61] := by simpa using c12
    clear HIF
    go_enter Tryz.func29, Tryz.ntmps29
    go_wp2_with fail
    go_ret
    exact ⟨ret_int (by rw [HK.out]; unfold kindW; simp [hc, U]), Below.refl _ _⟩
  rcases Bool.eq_false_or_eq_true (o.toList == [62]) with c13 | c13
  ·rcases Bool.eq_false_or_eq_true (r0 == 2) with u | u
   ·have U : r0 = 2 := by simpa using u
    subst U
    have hc : o.toList = [62] := by simpa using c13
    clear HIF
    go_enter Tryz.func29, Tryz.ntmps29
    go_wp2_with fail
    go_ret
    exact ⟨ret_int (by rw [HK.out]; unfold kindW; simp [hc]), Below.refl _ _⟩
   ·have U : ¬ r0 = 2 := by simpa using u
    have hc : o.toList = [62] := by simpa using c13
    clear HIF
    go_enter Tryz.func29, Tryz.ntmps29
    go_wp2_with fail
    go_ret
    exact ⟨ret_int (by rw [HK.out]; unfold kindW; simp [hc, U]), Below.refl _ _⟩
  rcases Bool.eq_false_or_eq_true (o.toList == [62, 61]) with c14 | c14
  ·rcases Bool.eq_false_or_eq_true (r0 == 2) with u | u
   ·have U : r0 = 2 := by simpa using u
    subst U
    have hc : o.toList = [62, 61] := by simpa using c14
    clear HIF
    go_enter Tryz.func29, Tryz.ntmps29
    go_wp2_with fail
    go_ret
    exact ⟨ret_int (by rw [HK.out]; unfold kindW; simp [hc]), Below.refl _ _⟩
   ·have U : ¬ r0 = 2 := by simpa using u
    have hc : o.toList = [62, 61] := by simpa using c14
    clear HIF
    go_enter Tryz.func29, Tryz.ntmps29
    go_wp2_with fail
    go_ret
    exact ⟨ret_int (by rw [HK.out]; unfold kindW; simp [hc, U]), Below.refl _ _⟩
  rcases Bool.eq_false_or_eq_true (r0 == 2) with u | u
  ·have U : r0 = 2 := by simpa using u
   subst U
   go_enter Tryz.func29, Tryz.ntmps29
   go_wp2_with fail
   go_ret
   exact ⟨ret_int (by rw [HK.out]; unfold kindW; simp [l0, l1, l2, l3, c0, c1, c2, c3, c4, c5, c6, c7, c8, c9, c10, c11, c12, c13, c14]), Below.refl _ _⟩
  ·have U : ¬ r0 = 2 := by simpa using u
   go_enter Tryz.func29, Tryz.ntmps29
   go_wp2_with fail
   go_ret
   exact ⟨ret_int (by rw [HK.out]; unfold kindW; simp [l0, l1, l2, l3, c0, c1, c2, c3, c4, c5, c6, c7, c8, c9, c10, c11, c12, c13, c14, U]), Below.refl _ _⟩
 ·have S : ¬ r0 = rl := by simpa using t
  have tn : (r0 == rl) = false := t
  rw [t] at HK
  go_enter Tryz.func29, Tryz.ntmps29
  go_wp2_with fail
  go_ret
  exact ⟨ret_int (by rw [HK.out]; unfold kindW; simp [l0, l1, l2, l3, c0]), Below.refl _ _⟩
end Go.Proofs.YtnaijgmfjpmpjaaGreatDoor
namespace Go.Proofs.YtnaijgmfjpmpjaaGreatDoor
set_option maxRecDepth 100000
set_option maxHeartbeats 16000000
open Go.RowKit Mx
theorem lit_of {o : ByteArray} {s : List UInt8} (h : (o.toList == s) = true) : o = ⟨⟨s⟩⟩ := by
 refine Classical.byContradiction fun hn => ?_
 rw [not_lit s hn] at h
 cases h
theorem isApply_any (H : Kn) (o : ByteArray) (l : List Vl) (v : Value) (hv : VlsV H l v) (hl : l.length ≤ 1000000) (w : World) (hH : H.In w) :
  Calls Tryz.prog 8 #[.string o, v] w fun r w' => r = .returned (.int .i64 ((isApp o l : Nat) : Int)) ∧ Below w.heap.size w w' := by
 obtain ⟨a, c, rfl⟩ := hv.len
 have HV := Lib.hid hv
 have E3 := Lib.hid (show (arB o = false ∨ arN o < 1 ∨ arN o ≠ (l.length : Int) ∨ o = oPre ∨ o = oArrow ∨ o = oFby) → isApp o l = 3 from fun h => by
  unfold isApp arB arN at *
  cases e : arity o with
  | none => rfl
  | some k =>
   rw [e] at h
   simp only [Option.isSome_some, Bool.true_eq_false, Option.getD_some, false_or] at h
   exact if_pos h)
 have E5 := Lib.hid (show arB o = true → ¬ arN o < 1 → arN o = (l.length : Int) → o ≠ oPre → o ≠ oArrow → o ≠ oFby → isApp o l = if (l.all fun v => rightV v v.kind) = false then 5 else if kindBy o 0 (l.map (·.kind)) = 0 then 5 else 0 from fun h1 h2 h3 h4 h5 h6 => by
  unfold isApp arB arN at *
  cases e : arity o with
  | none => rw [e] at h1; cases h1
  | some k =>
   rw [e] at h2 h3
   simp only [Option.getD_some] at h2 h3
   dsimp only
   rw [if_neg (by simp only [not_or]; exact ⟨h2, fun h => h h3, h4, h5, h6⟩)]
   cases hall : l.all fun v => rightV v v.kind <;> simp)
 clear hv
 go_enter Tryz.func8, Tryz.ntmps8
 go_wp2_with fail
 refine (rarity_any o w).mono ?_
 rintro r w1 ⟨rfl, rfl⟩
 cases hB : arB o with
 | false =>
  have EE := Lib.hid (E3.out (.inl hB))
  clear E3 E5
  go_wp2_with fail
  go_ret
  exact ⟨by rw [EE.out]; rfl, Below.refl _ _⟩
 | true =>
 by_cases h1 : arN o < 1
 ·have EE := Lib.hid (E3.out (.inr (.inl h1)))
  clear E3 E5
  go_wp2_with fail
  go_ret
  exact ⟨by rw [EE.out]; rfl, Below.refl _ _⟩
 by_cases h2 : arN o = (l.length : Int)
 case neg =>
  have h2b : (arN o != (l.length : Int)) = true := by simpa using h2
  have EE := Lib.hid (E3.out (.inr (.inr (.inl h2))))
  clear E3 E5
  go_wp2_with fail
  go_ret
  exact ⟨by rw [EE.out]; rfl, Below.refl _ _⟩
 have h2b : (arN o != (l.length : Int)) = false := by simpa using h2
 rcases Bool.eq_false_or_eq_true (o.toList == [112, 114, 101]) with p1 | p1
 ·have q : o = oPre := lit_of p1
  subst q
  have EE := Lib.hid (E3.out (.inr (.inr (.inr (.inl rfl)))))
  clear E3 E5
  go_wp2_with fail
  go_ret
  exact ⟨by rw [EE.out]; rfl, Below.refl _ _⟩
 rcases Bool.eq_false_or_eq_true (o.toList == [45, 62]) with p2 | p2
 ·have q : o = oArrow := lit_of p2
  subst q
  have EE := Lib.hid (E3.out (.inr (.inr (.inr (.inr (.inl rfl))))))
  clear E3 E5
  go_wp2_with fail
  go_ret
  exact ⟨by rw [EE.out]; rfl, Below.refl _ _⟩
 rcases Bool.eq_false_or_eq_true (o.toList == [102, 98, 121]) with p3 | p3
 ·have q : o = oFby := lit_of p3
  subst q
  have EE := Lib.hid (E3.out (.inr (.inr (.inr (.inr (.inr rfl))))))
  clear E3 E5
  go_wp2_with fail
  go_ret
  exact ⟨by rw [EE.out]; rfl, Below.refl _ _⟩
 have E5 := Lib.hid (E5.out hB (by omega) h2 (fun e => by rw [e] at p1; exact Bool.noConfusion ((show (oPre.toList == [112, 114, 101]) = true from by kernel_rfl).symm.trans p1)) (fun e => by rw [e] at p2; exact Bool.noConfusion ((show (oArrow.toList == [45, 62]) = true from by kernel_rfl).symm.trans p2)) (fun e => by rw [e] at p3; exact Bool.noConfusion ((show (oFby.toList == [102, 98, 121]) = true from by kernel_rfl).symm.trans p3)))
 have hlpos : 1 ≤ l.length := by omega
 have har := Lib.hid (show arity o = some (l.length : Int) from by
  unfold arB at hB
  unfold arN at h2
  cases e : arity o with
  | none => rw [e] at hB; cases hB
  | some k => rw [e] at h2; simpa using h2)
 go_wp2_with fail
 clear h1 h2 h2b p1 p2 p3 hB E3
 go_loopw [7, 8] (fun u i wr => ∃ k : Nat, i = .int .i64 k ∧ k ≤ l.length ∧ Below w.heap.size w wr ∧ wr.ownsRow w.heap.size 3 1 u k ((l.take k).map fun v => .int .i64 v.kind) ∧ ∀ j (hj : j < l.length), j < k → rightV l[j] l[j].kind = true) (fun _ i _ => l.length - (intOf i).toNat)
 case atStart => exact ⟨0, rfl, Nat.zero_le _, Below.refl _ _, World.ownsRow_nil _ _ _ _, fun j _ h => by omega⟩
 case round =>
  obtain ⟨k, rfl, hk, hb, hrow, hrt⟩ := hrel
  have HB := Lib.hid hb
  have HR := Lib.hid hrow
  have HRT := Lib.hid hrt
  obtain ⟨au, cu, hue, _⟩ := own_len hrow
  subst hue
  clear hb hrow hrt
  by_cases hkl : k < l.length
  ·obtain ⟨b, off, rfl, _, e0, e1⟩ := SlV.at HV.out hkl
   have e0 : H.cell b (off + k * 2) = some (.int .i64 l[k].kind) := e0
   have e1 : H.cell b (off + k * 2 + 1) = some (.int .i64 l[k].n) := e1
   have HNO := Lib.hid (show rightV l[k] l[k].kind = false → (l.all fun v => rightV v v.kind) = false from fun h => by
    rw [List.all_eq_false]
    exact ⟨l[k], List.getElem_mem hkl, by rw [h]; decide⟩)
   have HYES := Lib.hid (show rightV l[k] l[k].kind = true → ∀ j (hj : j < l.length), j < k + 1 → rightV l[j] l[j].kind = true from fun h j hj hjk => by
    by_cases hjk' : j < k
    ·exact HRT.out j hj hjk'
    ·obtain rfl : j = k := by omega
     exact h)
   have HSN := Lib.hid (show ((l.take (k + 1)).map fun v => Value.int .i64 v.kind) = ((l.take k).map fun v => Value.int .i64 v.kind) ++ [.int .i64 l[k].kind] from by rw [List.take_succ_eq_append_getElem hkl, List.map_append]; rfl)
   have hS : H.In wr.drew := hH.below HB.out.drew
   have hkI : (k : Int) < l.length := by omega
   generalize l[k] = x at *
   obtain ⟨xk, xn⟩ := x
   dsimp only at e0 e1 HNO HYES HSN
   generalize ((l.take k).map fun v => Value.int .i64 v.kind) = xs at *
   go_wp2_with fail
   refine wp_region_2 (fun w' => H.In w') (fun _ => True) 99 (by kernel_rfl) ?_
   refine wpAny2_take (i := 0) (oi := _) (v := ?_) rfl (by decide) (by kernel_rfl) (by kernel_rfl) (by kernel_rfl) (by kernel_rfl) (fun _ _ _ h => h) hS (fun _ => trivial) (Or.inl ⟨by rfl, ?hy⟩) ?_
   case hy => intro w hSw; have z0 := hSw.cell e0; have z1 := hSw.cell e1; go_simp <;> with_reducible rfl
   try simp only [Act.put, List.setIfInBounds_toArray, List.set_cons_zero, List.set_cons_succ, List.getElem_toArray, List.getElem_cons_zero, List.getElem_cons_succ]
   refine wpAny2_take (i := 1) (oi := _) (v := ?_) rfl (by decide) (by kernel_rfl) (by kernel_rfl) (by kernel_rfl) (by kernel_rfl) (fun _ _ _ h => h) hS (fun _ => trivial) (Or.inl ⟨by rfl, ?hy⟩) ?_
   case hy => intro w hSw; have z0 := hSw.cell e0; have z1 := hSw.cell e1; go_simp <;> with_reducible rfl
   try simp only [Act.put, List.setIfInBounds_toArray, List.set_cons_zero, List.set_cons_succ, List.getElem_toArray, List.getElem_cons_zero, List.getElem_cons_succ]
   refine wpAny2_take (i := 2) (oi := _) (v := ?_) rfl (by decide) (by kernel_rfl) (by kernel_rfl) (by kernel_rfl) (by kernel_rfl) (fun _ _ _ h => h) hS (fun _ => trivial) (Or.inl ⟨by rfl, ?hy⟩) ?_
   case hy => intro w hSw; have z0 := hSw.cell e0; have z1 := hSw.cell e1; go_simp <;> with_reducible rfl
   try simp only [Act.put, List.setIfInBounds_toArray, List.set_cons_zero, List.set_cons_succ, List.getElem_toArray, List.getElem_cons_zero, List.getElem_cons_succ]
   refine wpAny2_take (i := 3) (oi := _) (v := ?_) rfl (by decide) (by kernel_rfl) (by kernel_rfl) (by kernel_rfl) (by kernel_rfl) (fun _ _ _ h => h) hS (fun _ => trivial) (Or.inl ⟨by rfl, ?hy⟩) ?_
   case hy => intro w hSw; have z0 := hSw.cell e0; have z1 := hSw.cell e1; go_simp <;> with_reducible rfl
   try simp only [Act.put, List.setIfInBounds_toArray, List.set_cons_zero, List.set_cons_succ, List.getElem_toArray, List.getElem_cons_zero, List.getElem_cons_succ]
   refine wpAny2_take (i := 4) (oi := _) (v := ?_) rfl (by decide) (by kernel_rfl) (by kernel_rfl) (by kernel_rfl) (by kernel_rfl) (fun _ _ _ h => h) hS (fun _ => trivial) (Or.inl ⟨by rfl, ?hy⟩) ?_
   case hy => intro w hSw; have z0 := hSw.cell e0; have z1 := hSw.cell e1; go_simp <;> with_reducible rfl
   try simp only [Act.put, List.setIfInBounds_toArray, List.set_cons_zero, List.set_cons_succ, List.getElem_toArray, List.getElem_cons_zero, List.getElem_cons_succ]
   refine wpAny2_take (i := 5) (oi := _) (v := ?_) rfl (by decide) (by kernel_rfl) (by kernel_rfl) (by kernel_rfl) (by kernel_rfl) (fun _ _ _ h => h) hS (fun _ => trivial) (Or.inl ⟨by rfl, ?hy⟩) ?_
   case hy => intro w hSw; have z0 := hSw.cell e0; have z1 := hSw.cell e1; go_simp <;> with_reducible rfl
   try simp only [Act.put, List.setIfInBounds_toArray, List.set_cons_zero, List.set_cons_succ, List.getElem_toArray, List.getElem_cons_zero, List.getElem_cons_succ]
   refine wpAny2_take (i := 6) (oi := _) (v := ?_) rfl (by decide) (by kernel_rfl) (by kernel_rfl) (by kernel_rfl) (by kernel_rfl) (fun _ _ _ h => h) hS (fun _ => trivial) (Or.inl ⟨by rfl, ?hy⟩) ?_
   case hy => intro w hSw; have z0 := hSw.cell e0; have z1 := hSw.cell e1; go_simp <;> with_reducible rfl
   try simp only [Act.put, List.setIfInBounds_toArray, List.set_cons_zero, List.set_cons_succ, List.getElem_toArray, List.getElem_cons_zero, List.getElem_cons_succ]
   refine wpAny2_take (i := 7) (oi := _) (v := ?_) rfl (by decide) (by kernel_rfl) (by kernel_rfl) (by kernel_rfl) (by kernel_rfl) (fun _ _ _ h => h) hS (fun _ => trivial) (Or.inl ⟨by rfl, ?hy⟩) ?_
   case hy => intro w hSw; have z0 := hSw.cell e0; have z1 := hSw.cell e1; go_simp <;> with_reducible rfl
   try simp only [Act.put, List.setIfInBounds_toArray, List.set_cons_zero, List.set_cons_succ, List.getElem_toArray, List.getElem_cons_zero, List.getElem_cons_succ]
   refine wpAny2_take (i := 8) (oi := _) (v := ?_) rfl (by decide) (by kernel_rfl) (by kernel_rfl) (by kernel_rfl) (by kernel_rfl) (fun _ _ _ h => h) hS (fun _ => trivial) (Or.inl ⟨by rfl, ?hy⟩) ?_
   case hy => intro w hSw; have z0 := hSw.cell e0; have z1 := hSw.cell e1; go_simp <;> with_reducible rfl
   try simp only [Act.put, List.setIfInBounds_toArray, List.set_cons_zero, List.set_cons_succ, List.getElem_toArray, List.getElem_cons_zero, List.getElem_cons_succ]
   refine wpAny2_one (i := 9) (o := _) (by kernel_rfl) rfl (fun K_ hK => ?_)
   go_simp
   go_at_call 28
   refine (rright_any ⟨xk, xn⟩ xk _).mono ?_
   rintro r5 w5 ⟨rfl, hb5⟩
   have hS5 := hS.below hb5
   refine hK.out _ _ (hS5) (fun _ => trivial) ?_
   clear hK K_
   try simp only [Act.put, List.setIfInBounds_toArray, List.set_cons_zero, List.set_cons_succ, List.getElem_toArray, List.getElem_cons_zero, List.getElem_cons_succ]
   refine wpAny2_take (i := 10) (oi := _) (v := ?_) rfl (by decide) (by kernel_rfl) (by kernel_rfl) (by kernel_rfl) (by kernel_rfl) (fun _ _ _ h => h) hS5 (fun _ => trivial) (Or.inl ⟨by rfl, ?hy⟩) ?_
   case hy => intro w hSw; have z0 := hSw.cell e0; have z1 := hSw.cell e1; go_simp <;> with_reducible rfl
   try simp only [Act.put, List.setIfInBounds_toArray, List.set_cons_zero, List.set_cons_succ, List.getElem_toArray, List.getElem_cons_zero, List.getElem_cons_succ]
   refine wpAny2_done (by kernel_rfl) ?_ _
   have HB5 := Lib.hid (HB.out.drew.trans (hb5.mono (by have := HB.out.drew.size; omega)))
   have HR5 := Lib.hid (own_below (own_below HR.out (Below.refl wr.heap.size wr).drew) hb5)
   have e0 := hS5.cell e0
   cases hr : rightV ⟨xk, xn⟩ xk with
   | false =>
    have hE := E5.out
    rw [if_pos (HNO.out hr)] at hE
    go_wp2_with fail
    go_ret
    exact ⟨by rw [hE]; rfl, HB5.out⟩
   | true =>
    have hba : Below w.heap.size w (w5.alloc (.cells #[.int .i64 xk] 3)) := HB5.out.alloc HB5.out.size _
    have hra := own_below HR5.out ((Below.refl w5.heap.size w5).alloc (Nat.le_refl _) (.cells #[.int .i64 xk] 3))
    have hsz := HB5.out.size
    go_wp2_with (at_builtin; refine app1L 74 3 1 8 _ Tryz.underlying74 Tryz.infoInt rfl (by decide) _ _ rfl rfl w.heap.size _ _ _ rfl hra ⟨w5.heap.size, 0, none⟩ 1 [.int .i64 xk] rfl rfl ?c1 ?c2 ?c3 ?c4 ?c5 ?_)
    case c1 => exact cells1 _ _ _
    case c2 => simp [Value.oneCell']
    case c3 => omega
    case c4 => omega
    case c5 => simp; omega
    intro g cap' w3 ho hg3 hat
    have HW3 := Lib.hid (show Below w.heap.size w w3 from hba.grown hg3 (by simp; omega) (fun q hq => (hra.lt q hq).1))
    go_wp2_with fail
    go_roundw
    case rel => exact ⟨k + 1, by go_num, by omega, HW3.out, by rw [HSN.out]; exact ho, HYES.out hr⟩
    case measure => simp [intOf]; omega
  ·obtain rfl : k = l.length := by omega
   have hall : (l.all fun v => rightV v v.kind) = true := List.all_eq_true.2 fun v hv => by
    obtain ⟨j, hj, rfl⟩ := List.mem_iff_getElem.1 hv
    exact HRT.out j hj hj
   have hE := E5.out
   rw [if_neg (by rw [hall]; decide)] at hE
   have hr := HR.out
   rw [List.take_of_length_le (Nat.le_refl _)] at hr
   obtain ⟨g, cap, hue, g2, g3, g4, _, g5⟩ := own_shape hr (by omega)
   cases hue
   have hcell : ∀ j, j < l.length → wr.cell? ⟨g, j, none⟩ = some (.int .i64 ((l.map (·.kind)).getD j 0)) := fun j hj => g5 j _ (by simp [List.getD_eq_getElem?_getD, hj])
   have hres := kindBy_walk o 0 (l.map (·.kind))
   obtain ⟨m, hm⟩ : ∃ m, l.length = m + 1 := ⟨l.length - 1, by omega⟩
   have hh0 : (l.map (·.kind)).headD 0 = (l.map (·.kind)).getD 0 0 := by cases l.map (·.kind) <;> rfl
   have hlast : (l.map (·.kind)).getLastD 0 = (l.map (·.kind)).getD m 0 := by
    rw [List.getLastD_eq_getLast?, List.getLast?_eq_getElem?, List.length_map, hm, List.getD_eq_getElem?_getD]; rfl
   have hlit : ∀ s : List UInt8, arity ⟨⟨s⟩⟩ = some 0 → (o.toList == s) = false := fun s hs => by
    cases hc : o.toList == s with
    | false => rfl
    | true =>
     have h1 := lit_of hc
     have h2 := har.out
     rw [h1, hs] at h2
     injection h2 with h3
     omega
   have hw := rresult_any o (hlit _ rfl) (hlit _ rfl) (hlit _ rfl) (hlit _ rfl) 0 ((l.map (·.kind)).getD 0 0) ((l.map (·.kind)).getD 1 0) ((l.map (·.kind)).getD 2 0) ((l.map (·.kind)).getD m 0) g m cu wr (by omega) (hcell 0 (by omega)) (hcell m (by omega)) (fun hc => by
    have h1 := lit_of hc
    have h2 := har.out
    rw [h1] at h2
    have h3 : (3 : Int) = l.length := by injection h2
    exact ⟨hcell 1 (by omega), hcell 2 (by omega), by omega⟩)
   have hk : kindW o 0 ((l.map (·.kind)).getD 0 0) ((l.map (·.kind)).getD 1 0) ((l.map (·.kind)).getD 2 0) ((l.map (·.kind)).getD 0 0 == (l.map (·.kind)).getD m 0) = kindBy o 0 (l.map (·.kind)) := by
    rw [hres, hh0, hlast]
    congr 1
    rw [show decide (0 < (l.map (·.kind)).length) = true from by simp; omega, Bool.true_and]
    generalize (l.map (·.kind)).getD 0 0 = x
    generalize (l.map (·.kind)).getD m 0 = y
    by_cases h : x = y <;> simp [h]
   rw [hk] at hw
   rw [← hm] at hw
   generalize kindBy o 0 (l.map (·.kind)) = kd at *
   clear hcell hres hh0 hlast hlit hr g5 hk hm
   by_cases hk0 : kd = 0
   ·rw [if_pos hk0] at hE
    subst hk0
    go_wp2_with fail
    refine hw.mono ?_
    rintro r w9 ⟨rfl, hb9⟩
    go_wp2_with fail
    go_ret
    exact ⟨by rw [hE]; rfl, HB.out.trans (hb9.mono HB.out.size)⟩
   ·rw [if_neg hk0] at hE
    have hk1 : (kd == 0) = false := by simpa using hk0
    go_wp2_with fail
    refine hw.mono ?_
    rintro r w9 ⟨rfl, hb9⟩
    go_wp2_with fail
    go_ret
    exact ⟨by rw [hE]; rfl, HB.out.trans (hb9.mono HB.out.size)⟩
end Go.Proofs.YtnaijgmfjpmpjaaGreatDoor
