/- Walks: errors.As(err, &f), f a *api.Fault. -/
import Derived.Test.YtminjdmgfiellaaDoorErr
import Derived.Laws.Externs
namespace Go.Proofs.YtminjdmgfiellaaDoor
open Go.RowKit Go.Extern.Stop Go.Stop Go.Extern

theorem as_valueOf (v : Value) (w : World) (hv : ∃ p, v = .pointer p) : (callFunc 97 #[.iface 139 v]).run Tryd.prog w = .ok (.value (.agg #[.pointer (some ⟨18, 139, none⟩), .pointer (some ⟨w.heap.size, 0, none⟩), .int .u64 150])) (w.alloc (.cells #[v] 139)) := by
  obtain ⟨p, rfl⟩ := hv
  kernel_rfl
theorem as_valueOfF (v : Value) (w : World) (hv : ∃ p, v = .pointer p) : (callFunc 97 #[.iface 79 v]).run Tryd.prog w = .ok (.value (.agg #[.pointer (some ⟨18, 79, none⟩), .pointer (some ⟨w.heap.size, 0, none⟩), .int .u64 150])) (w.alloc (.cells #[v] 79)) := by
  obtain ⟨p, rfl⟩ := hv
  kernel_rfl
theorem as_type (p : Value) (a : Addr) (hp : p = .pointer (some a)) (w : World) : (callFunc 98 #[.agg #[.pointer (some ⟨18, 139, none⟩), p, .int .u64 150]]).run Tryd.prog w = .ok (.value (.iface 175 (rty 139))) w := by
  subst hp; kernel_rfl
theorem as_kindPP (w : World) : (callFunc 153 #[.pointer (some ⟨18, 139, none⟩)]).run Tryd.prog w = .ok (.value (.int .u8 22)) w := by kernel_rfl
theorem as_kindP (w : World) : (callFunc 153 #[.pointer (some ⟨18, 79, none⟩)]).run Tryd.prog w = .ok (.value (.int .u8 22)) w := by kernel_rfl
theorem as_elem (w : World) : (callFunc 166 #[.agg #[.pointer (some ⟨18, 139, none⟩)]]).run Tryd.prog w = .ok (.value (.iface 175 (rty 79))) w := by kernel_rfl
theorem as_impl (w : World) : (callFunc 167 #[.agg #[.pointer (some ⟨18, 79, none⟩)], .iface 175 (.agg #[.pointer (some ⟨18, 32, none⟩)])]).run Tryd.prog w = .ok (.value (.bool true)) w := by kernel_rfl
theorem typeOf_f (v : Value) (w : World) : (callFunc 101 #[.iface 79 v]).run Tryd.prog w = .ok (.value (.iface 175 (rty 79))) w := by kernel_rfl
theorem as_assF (w : World) : (callFunc 164 #[.agg #[.pointer (some ⟨18, 79, none⟩)], .iface 175 (rty 79)]).run Tryd.prog w = .ok (.value (.bool true)) w := by kernel_rfl
theorem as_assE (w : World) : (callFunc 164 #[.agg #[.pointer (some ⟨18, 205, none⟩)], .iface 175 (rty 79)]).run Tryd.prog w = .ok (.value (.bool false)) w := by kernel_rfl
theorem oh_PP (w : World) : (Rtype.ofHandle (.pointer (some ⟨18, 139, none⟩))).run Tryd.prog w = .ok 139 w := by kernel_rfl
theorem oh_P (w : World) : (Rtype.ofHandle (.pointer (some ⟨18, 79, none⟩))).run Tryd.prog w = .ok 79 w := by kernel_rfl
theorem np_PP (w : World) : (Rtype.noPack "a Value asked or handed on" 139).run Tryd.prog w = .ok () w := by kernel_rfl
theorem np_P (w : World) : (Rtype.noPack "a Value asked or handed on" 79).run Tryd.prog w = .ok () w := by kernel_rfl
theorem el_PP (w : World) : (Rtype.elem? 139).run Tryd.prog w = .ok (some 79) w := by kernel_rfl
theorem kd_P (w : World) : (Rtype.kind 79).run Tryd.prog w = .ok 22 w := by kernel_rfl
theorem ha_P (w : World) : (Rtype.handle 79).run Tryd.prog w = .ok (.pointer (some ⟨18, 79, none⟩)) w := by kernel_rfl
theorem da_P (w : World) : (Rtype.directlyAssignable 79 79).run Tryd.prog w = .ok true w := by kernel_rfl
theorem lv_PP (a : Addr) (v : Value) (w : World) (hc : w.cell? a = some v) : (loadVar 139 a).run Tryd.prog w = .ok v w := by
  simp [loadVar, hc, go_sem, Tryd.isAgg139]
theorem lv_P (a : Addr) (v : Value) (w : World) (hc : w.cell? a = some v) : (loadVar 79 a).run Tryd.prog w = .ok v w := by
  simp [loadVar, hc, go_sem, Tryd.isAgg79]
theorem rv_method (zero : Sem Value) (f : TypeId → Addr → Nat → Nat → Sem Value) (v : Value) : ReflectliteValue.method zero f #[v] = (do
    match ← ReflectliteValue.parts v with
    | none => zero
    | some (t, a, fl) => f t a fl (fl % 32)) := rfl
theorem pt_PP (a : Addr) (w : World) : (ReflectliteValue.parts (.agg #[.pointer (some ⟨18, 139, none⟩), .pointer (some a), .int .u64 150])).run Tryd.prog w = .ok (some (139, a, 150)) w := by kernel_rfl
theorem pt_P (a : Addr) (w : World) : (ReflectliteValue.parts (.agg #[.pointer (some ⟨18, 79, none⟩), .pointer (some a), .int .u64 150])).run Tryd.prog w = .ok (some (79, a, 150)) w := by kernel_rfl
theorem pt_PA (a : Addr) (w : World) : (ReflectliteValue.parts (.agg #[.pointer (some ⟨18, 79, none⟩), .pointer (some a), .int .u64 406])).run Tryd.prog w = .ok (some (79, a, 406)) w := by kernel_rfl
theorem sv_P (a : Addr) (x v : Value) (w : World) (hx : w.cell? a = some x) (hf : w.frozen? a = false) (hv : ∃ p, v = .pointer p) : (storeVar 79 a v).run Tryd.prog w = .ok () (w.setCell a v) := by
  obtain ⟨p, rfl⟩ := hv
  simp [storeVar, storeCells, hx, hf, go_sem, Tryd.sizeOf79]
theorem mk_P (p : Addr) (w : World) : (ReflectliteValue.mk 79 p ReflectliteValue.flagAddr).run Tryd.prog w = .ok (.agg #[.pointer (some ⟨18, 79, none⟩), .pointer (some p), .int .u64 406]) w := by kernel_rfl
theorem as_isNil (V : Nat) (p : Addr) (w : World) (hc : w.cell? ⟨V, 0, none⟩ = some (.pointer (some p))) : (callFunc 99 #[.agg #[.pointer (some ⟨18, 139, none⟩), .pointer (some ⟨V, 0, none⟩), .int .u64 150]]).run Tryd.prog w = .ok (.value (.bool false)) w := by
  rw [run_callFunc_extern Tryd.func99 (by kernel_rfl) (by kernel_rfl) (by kernel_rfl) (e := ReflectliteValue.method (ReflectliteValue.valueError "reflectlite.Value.IsNil" 0) ReflectliteValue.isNil) (by kernel_rfl), rv_method]
  simp only [Sem.run_bind, pt_PP, Result.andThen_ok]
  show ((ReflectliteValue.isNil 139 ⟨V, 0, none⟩ 150 22).run Tryd.prog w).andThen _ = _
  unfold ReflectliteValue.isNil
  simp [lv_PP _ _ _ hc]
theorem as_velem (V : Nat) (p : Addr) (w : World) (hc : w.cell? ⟨V, 0, none⟩ = some (.pointer (some p))) : (callFunc 113 #[.agg #[.pointer (some ⟨18, 139, none⟩), .pointer (some ⟨V, 0, none⟩), .int .u64 150]]).run Tryd.prog w = .ok (.value (.agg #[.pointer (some ⟨18, 79, none⟩), .pointer (some p), .int .u64 406])) w := by
  rw [run_callFunc_extern Tryd.func113 (by kernel_rfl) (by kernel_rfl) (by kernel_rfl) (e := ReflectliteValue.method (ReflectliteValue.valueError "reflectlite.Value.Elem" 0) ReflectliteValue.elem) (by kernel_rfl), rv_method]
  simp only [Sem.run_bind, pt_PP, Result.andThen_ok]
  show ((ReflectliteValue.elem 139 ⟨V, 0, none⟩ 150 22).run Tryd.prog w).andThen _ = _
  unfold ReflectliteValue.elem
  simp [lv_PP _ _ _ hc, el_PP, mk_P]
theorem as_set (F V : Addr) (x v : Value) (w : World) (hv : w.cell? V = some v) (hp : ∃ p, v = .pointer p) (hx : w.cell? F = some x) (hf : w.frozen? F = false) :
    (callFunc 114 #[.agg #[.pointer (some ⟨18, 79, none⟩), .pointer (some F), .int .u64 406], .agg #[.pointer (some ⟨18, 79, none⟩), .pointer (some V), .int .u64 150]]).run Tryd.prog w = .ok (.value (.tuple #[])) (w.setCell F v) := by
  rw [run_callFunc_extern Tryd.func114 (by kernel_rfl) (by kernel_rfl) (by kernel_rfl) (e := ReflectliteValue.set) (by kernel_rfl)]
  have e : ∀ a b : Value, ReflectliteValue.set #[a, b] = (do
    let (some (dst, a, fl), some (src, b, _)) := (← ReflectliteValue.parts a, ← ReflectliteValue.parts b)
      | unsupported (.noEntry "extern/(internal/reflectlite.Value).Set.zeroValue")
    if fl / ReflectliteValue.flagAddr % 2 == 0 then unsupported (.noEntry "extern/(internal/reflectlite.Value).Set.unaddressable")
    let val ← loadVar src b
    if ← Rtype.directlyAssignable dst src then storeVar dst a val
    else if ← Rtype.implements dst src then
      if (← Rtype.kind src) == 20 then
        match val with
        | .nilIface => unsupported (.noEntry "extern/reflectlite: a nil value of one interface type handed on as a value of another")
        | _ => storeVar dst a val
      else storeVar dst a (.iface src val)
    else panicString ("reflectlite.Set: value of type " ++ (← Rtype.spelt src) ++ " is not assignable to type " ++ (← Rtype.spelt dst))
    pure (.tuple #[])) := fun _ _ => rfl
  rw [e]
  simp [pt_PA, pt_P, lv_P _ _ _ hv, da_P, sv_P _ _ _ _ hx hf hp, ReflectliteValue.flagAddr]
end Go.Proofs.YtminjdmgfiellaaDoor
