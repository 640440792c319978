/- Walks: tree.Arity. -/
import Derived.Test.YtgpdagkoampipaaDoorKn
import Derived.Test.YtgpdagkoampipaaDoorEx
import Derived.Laws.Rows
namespace Go.Proofs.YtgpdagkoampipaaDoor
open Go.RowKit Mx

/-- The table of operators by levels, in known memory. -/
def LevelsAt (H : Kn) : Prop := ∃ v0 v1 v2 v3 v4 t fr, H 5 = some (.cells #[v0, v1, v2, v3, v4] t fr) ∧
  StrsAt H v0 [oOr, oXor] ∧ StrsAt H v1 [oAnd] ∧ StrsAt H v2 [oEq, oNe, oLt, oLe, oGt, oGe, oImp] ∧ StrsAt H v3 [oAdd, oSub] ∧ StrsAt H v4 [oMul, oDiv, oMod]
def arN (o : ByteArray) : Int := (arity o).getD 0
def arB (o : ByteArray) : Bool := (arity o).isSome
theorem bytes_eq_iff (a b : ByteArray) : (a.toList == b.toList) = decide (a = b) := by
  rw [Lib.toList_data, Lib.toList_data]
  obtain ⟨⟨x⟩⟩ := a
  obtain ⟨⟨y⟩⟩ := b
  by_cases h : x = y
  · subst h; simp
  · have : ¬ (ByteArray.mk ⟨x⟩ = ByteArray.mk ⟨y⟩) := fun e => h (by cases e; rfl)
    simp [h]
theorem not_op {a b : ByteArray} (h : a ≠ b) : (a.toList == b.toList) = false := by rw [bytes_eq_iff]; simpa using h

theorem not_lit {a : ByteArray} (l : List UInt8) (h : a ≠ ⟨⟨l⟩⟩) : (a.toList == l) = false := by
  have := not_op h
  rwa [Lib.toList_data ⟨⟨l⟩⟩] at this
theorem contains_any_eq (l : List ByteArray) (o : ByteArray) : l.contains o = l.any fun x => o.toList == x.toList := by
  induction l with
  | nil => rfl
  | cons x l ih =>
    rw [List.contains_cons, List.any_cons, ih, bytes_eq_iff]
    congr 1
    by_cases h : o = x
    · subst h; simp
    · have : (o == x) = false := by simpa using h
      rw [this]; simpa using h

set_option maxHeartbeats 1000000 in
set_option maxRecDepth 100000 in
theorem arity_any (H : Kn) (T : LevelsAt H) (o : ByteArray) (w : World) (hH : H.In w) :
    Calls Tryd.prog 91 #[.string o] w fun e w' => e = .returned (.tuple #[.int .i64 (arN o), .bool (arB o)]) ∧ w = w' := by
  by_cases hk : o = oInt ∨ o = oTrue ∨ o = oFalse ∨ o = oName ∨ o = oNot ∨ o = oNeg ∨ o = oPre ∨ o = oIf ∨ o = oCall ∨ o = oArrow ∨ o = oFby
  · rcases hk with rfl | rfl | rfl | rfl | rfl | rfl | rfl | rfl | rfl | rfl | rfl
    all_goals
      go_enter Tryd.func91, Tryd.ntmps91
      go_wp2_with fail
      go_ret2
      exact ⟨by rfl, rfl⟩
  · obtain ⟨v0, v1, v2, v3, v4, tt, fr, hg, hs0, hs1, hs2, hs3, hs4⟩ := T
    have hg' := hH _ _ hg
    clear hg
    simp only [not_or] at hk
    obtain ⟨k1, k2, k3, k4, k5, k6, k7, k8, k9, k10, k11⟩ := hk
    have e1 : (o.toList == [105, 110, 116]) = false := not_lit _ k1
    have e2 : (o.toList == [116, 114, 117, 101]) = false := not_lit _ k2
    have e3 : (o.toList == [102, 97, 108, 115, 101]) = false := not_lit _ k3
    have e4 : (o.toList == [110, 97, 109, 101]) = false := not_lit _ k4
    have e5 : (o.toList == [110, 111, 116]) = false := not_lit _ k5
    have e6 : (o.toList == [110, 101, 103]) = false := not_lit _ k6
    have e7 : (o.toList == [112, 114, 101]) = false := not_lit _ k7
    have e8 : (o.toList == [105, 102]) = false := not_lit _ k8
    have e9 : (o.toList == [99, 97, 108, 108]) = false := not_lit _ k9
    have e10 : (o.toList == [45, 62]) = false := not_lit _ k10
    have e11 : (o.toList == [102, 98, 121]) = false := not_lit _ k11
    have hA : arity o = if levels.any fun l => l.contains o then some 2 else none := by
      unfold arity
      rw [if_neg (by simp [k1, k2, k3, k4]), if_neg (by simp [k5, k6, k7]), if_neg k8, if_neg k9, if_neg (by simp [k10, k11])]
    have hL : (levels.any fun l => l.contains o) = ([oOr, oXor].any (fun x => o.toList == x.toList) || ([oAnd].any (fun x => o.toList == x.toList) || ([oEq, oNe, oLt, oLe, oGt, oGe, oImp].any (fun x => o.toList == x.toList) || ([oAdd, oSub].any (fun x => o.toList == x.toList) || [oMul, oDiv, oMod].any (fun x => o.toList == x.toList))))) := by
      simp only [levels, List.any_cons, List.any_nil, Bool.or_false, contains_any_eq]
    have HA := Lib.hid hA
    obtain ⟨b0, hb0⟩ : ∃ b, ([oOr, oXor].any fun x => o.toList == x.toList) = b := ⟨_, rfl⟩
    obtain ⟨b1, hb1⟩ : ∃ b, ([oAnd].any fun x => o.toList == x.toList) = b := ⟨_, rfl⟩
    obtain ⟨b2, hb2⟩ : ∃ b, ([oEq, oNe, oLt, oLe, oGt, oGe, oImp].any fun x => o.toList == x.toList) = b := ⟨_, rfl⟩
    obtain ⟨b3, hb3⟩ : ∃ b, ([oAdd, oSub].any fun x => o.toList == x.toList) = b := ⟨_, rfl⟩
    obtain ⟨b4, hb4⟩ : ∃ b, ([oMul, oDiv, oMod].any fun x => o.toList == x.toList) = b := ⟨_, rfl⟩
    rw [hb0, hb1, hb2, hb3, hb4] at hL
    have HB := Lib.hid (And.intro hb0 (And.intro hb1 (And.intro hb2 (And.intro hb3 hb4))))
    clear hb0 hb1 hb2 hb3 hb4
    have HL := Lib.hid hL
    clear hA hL k1 k2 k3 k4 k5 k6 k7 k8 k9 k10 k11
    have i0 : ∀ w, (Instr.index 173 (.agg #[v0, v1, v2, v3, v4]) (.int .i64 0)).run Tryd.prog w = .ok v0 w := fun _ => by kernel_rfl
    have i1 : ∀ w, (Instr.index 173 (.agg #[v0, v1, v2, v3, v4]) (.int .i64 1)).run Tryd.prog w = .ok v1 w := fun _ => by kernel_rfl
    have i2 : ∀ w, (Instr.index 173 (.agg #[v0, v1, v2, v3, v4]) (.int .i64 2)).run Tryd.prog w = .ok v2 w := fun _ => by kernel_rfl
    have i3 : ∀ w, (Instr.index 173 (.agg #[v0, v1, v2, v3, v4]) (.int .i64 3)).run Tryd.prog w = .ok v3 w := fun _ => by kernel_rfl
    have i4 : ∀ w, (Instr.index 173 (.agg #[v0, v1, v2, v3, v4]) (.int .i64 4)).run Tryd.prog w = .ok v4 w := fun _ => by kernel_rfl
    have HG := Lib.hid hg'
    clear hg'
    go_enter Tryd.func91, Tryd.ntmps91
    go_wp2_with (refine wpList_load_row rfl 173 _ rfl 5 rfl tt _ fr (.array 5 23) HG.out Tryd.underlying173 rfl (by kernel_rfl) ?_)
    refine wp_loop_rounds 6 ?_
    repeat (any_goals (rw [rounds_succ]; go_wp2_with (go_at_call 47; refine (contains_any H _ _ _ _ (by first | exact hs0 | exact hs1 | exact hs2 | exact hs3 | exact hs4) hH).mono ?_; rintro e w' ⟨rfl, rfl⟩; (first | rw [HB.out.1] | rw [HB.out.2.1] | rw [HB.out.2.2.1] | rw [HB.out.2.2.2.1] | rw [HB.out.2.2.2.2]))))
    all_goals go_ret2
    all_goals refine ⟨?_, rfl⟩
    all_goals (unfold arN arB; rw [HA.out, HL.out])
    all_goals simp_all
end Go.Proofs.YtgpdagkoampipaaDoor
