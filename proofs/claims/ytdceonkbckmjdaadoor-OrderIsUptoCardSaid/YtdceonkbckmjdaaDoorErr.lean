/- Walks: errors.Is and errors.As at the errors of package api: sentinels, faults that wrap one, errors of errors.New's make. -/
import Derived.Test.YtdceonkbckmjdaaDoorProg
import Derived.Test.YtdceonkbckmjdaaDoorKn
import Derived.LaidEql
import Derived.Stop.Asserts
import Derived.RowKitTokens
import Derived.Laws.Externs
namespace Go.Proofs.YtdceonkbckmjdaaDoor
open Go.RowKit Go.Extern.Stop Go.Stop Go.Extern

/-- reflectlite's word for a type. -/
def rty (t : Nat) : Value := .agg #[.pointer (some ⟨11, t, none⟩)]
theorem rt_comparable (w : World) : (callFunc 161 #[.agg #[.pointer (some ⟨11, 201, none⟩)]]).run Tryd.prog w = .ok (.value (.bool true)) w := by kernel_rfl
theorem typeOf_es (v : Value) (w : World) : (callFunc 110 #[.iface 201 v]).run Tryd.prog w = .ok (.value (.iface 173 (rty 201))) w := by kernel_rfl
theorem es_comp : (Tryd.prog.info? 201).map (·.comparable) = some true := by kernel_rfl
theorem es_size : (Tryd.prog.info? 224).map (·.size) = some 1 := by kernel_rfl

theorem noIsE (v : Value) (xT : TypeId) (w : World) : (Instr.typeAssert (.iface 201 v) xT 184 true).run Tryd.prog w = .ok (.tuple #[.nilIface, .bool false]) w := run_typeAssert_lacksB Tryd.underlying184 (by kernel_rfl) (by kernel_rfl) v xT w
theorem noUnwrapE (v : Value) (xT : TypeId) (w : World) : (Instr.typeAssert (.iface 201 v) xT 180 true).run Tryd.prog w = .ok (.tuple #[.nilIface, .bool false]) w := run_typeAssert_lacksB Tryd.underlying180 (by kernel_rfl) (by kernel_rfl) v xT w
theorem noUnwrapsE (v : Value) (xT : TypeId) (w : World) : (Instr.typeAssert (.iface 201 v) xT 182 true).run Tryd.prog w = .ok (.tuple #[.nilIface, .bool false]) w := run_typeAssert_lacksB Tryd.underlying182 (by kernel_rfl) (by kernel_rfl) v xT w
theorem noAsE (v : Value) (xT : TypeId) (w : World) : (Instr.typeAssert (.iface 201 v) xT 177 true).run Tryd.prog w = .ok (.tuple #[.nilIface, .bool false]) w := run_typeAssert_lacksB Tryd.underlying177 (by kernel_rfl) (by kernel_rfl) v xT w
theorem noIsF (v : Value) (xT : TypeId) (w : World) : (Instr.typeAssert (.iface 97 v) xT 184 true).run Tryd.prog w = .ok (.tuple #[.nilIface, .bool false]) w := run_typeAssert_lacksB Tryd.underlying184 (by kernel_rfl) (by kernel_rfl) v xT w
theorem hasUnwrapF (v : Value) (xT : TypeId) (w : World) : (Instr.typeAssert (.iface 97 v) xT 180 true).run Tryd.prog w = .ok (.tuple #[.iface 97 v, .bool true]) w := run_typeAssert_hasB Tryd.underlying180 (by kernel_rfl) v xT w

set_option maxRecDepth 100000 in
/-- errors.Is(x, x), x a pointer to an errors.errorString. -/
theorem is_same (a : Addr) (w : World) :
    Calls Tryd.prog 93 #[.iface 201 (.pointer (some a)), .iface 201 (.pointer (some a))] w fun e w' => e = .returned (.bool true) ∧ w = w' := by
  obtain ⟨i, hi, hcmp⟩ := Option.map_eq_some_iff.1 es_comp
  obtain ⟨j, hj, hjs⟩ := Option.map_eq_some_iff.1 es_size
  have h8 := typeOf_es
  have h32 := rt_comparable
  have heq := run_eql_iface_ptr_same (P := Tryd.prog) w a Tryd.underlying36 Tryd.underlying201 hi hcmp hj
  go_enter Tryd.func93, Tryd.ntmps93
  go_wp2
  refine wp_loop_rounds 1 ?_
  rw [rounds_succ]
  go_wp2
  go_ret
  exact ⟨rfl, rfl⟩

set_option maxRecDepth 100000 in
/-- errors.Is(x, y), two different pointers to errors.errorString. -/
theorem is_other (a b : Addr) (ca cb : Array Value) (ta tb : TypeId) (w : World) (hne : a ≠ b) (ha : w.heap[a.block]? = some (.cells ca ta (0, 0))) (hb : w.heap[b.block]? = some (.cells cb tb (0, 0))) :
    Calls Tryd.prog 93 #[.iface 201 (.pointer (some a)), .iface 201 (.pointer (some b))] w fun e w' => e = .returned (.bool false) ∧ w = w' := by
  obtain ⟨i, hi, hcmp⟩ := Option.map_eq_some_iff.1 es_comp
  obtain ⟨j, hj, hjs⟩ := Option.map_eq_some_iff.1 es_size
  have h8 := typeOf_es
  have h32 := rt_comparable
  have nE := noIsE
  have uE := noUnwrapE
  have vE := noUnwrapsE
  have heq := run_eql_iface_ptr_other (P := Tryd.prog) w Tryd.underlying36 Tryd.underlying201 hi hcmp hj (by rw [hjs]; decide) hne ha hb
  clear ha hb hne
  go_enter Tryd.func93, Tryd.ntmps93
  go_wp2
  refine wp_loop_rounds 1 ?_
  rw [rounds_succ]
  go_wp2
  go_ret
  exact ⟨rfl, rfl⟩

set_option maxRecDepth 100000 in
theorem unwrap_any (n : Nat) (v : Value) (w : World) (h1 : w.cell? ⟨n, 1, none⟩ = some v) :
    Calls Tryd.prog 155 #[.pointer (some ⟨n, 0, none⟩)] w fun e w' => e = .returned v ∧ w = w' := by
  go_enter Tryd.func155, Tryd.ntmps155
  go_wp2
  go_ret
  exact ⟨rfl, rfl⟩

set_option maxRecDepth 100000 in
/-- errors.Is(f, x), f a fault that wraps x itself. -/
theorem is_fault_same (n : Nat) (b : Addr) (w : World) (h1 : w.cell? ⟨n, 1, none⟩ = some (.iface 201 (.pointer (some b)))) :
    Calls Tryd.prog 93 #[.iface 97 (.pointer (some ⟨n, 0, none⟩)), .iface 201 (.pointer (some b))] w fun e w' => e = .returned (.bool true) ∧ w = w' := by
  obtain ⟨i, hi, hcmp⟩ := Option.map_eq_some_iff.1 es_comp
  obtain ⟨j, hj, hjs⟩ := Option.map_eq_some_iff.1 es_size
  have h8 := typeOf_es
  have h32 := rt_comparable
  have nF := noIsF
  have uF := hasUnwrapF
  have heq := run_eql_iface_ptr_same (P := Tryd.prog) w b Tryd.underlying36 Tryd.underlying201 hi hcmp hj
  have hty := run_eql_iface_types (P := Tryd.prog) 97 201 (.pointer (some ⟨n, 0, none⟩)) (.pointer (some b)) Tryd.underlying36 (by decide) w
  go_enter Tryd.func93, Tryd.ntmps93
  go_wp2
  refine wp_loop_rounds 2 ?_
  rw [rounds_succ]
  go_wp2
  rw [rounds_succ]
  go_wp2
  go_ret
  exact ⟨rfl, rfl⟩

set_option maxRecDepth 100000 in
/-- errors.Is(f, x), f a fault that wraps another error of errors.New's make. -/
theorem is_fault_other (n : Nat) (a b : Addr) (ca cb : Array Value) (ta tb : TypeId) (w : World) (h1 : w.cell? ⟨n, 1, none⟩ = some (.iface 201 (.pointer (some a)))) (hne : a ≠ b) (ha : w.heap[a.block]? = some (.cells ca ta (0, 0))) (hb : w.heap[b.block]? = some (.cells cb tb (0, 0))) :
    Calls Tryd.prog 93 #[.iface 97 (.pointer (some ⟨n, 0, none⟩)), .iface 201 (.pointer (some b))] w fun e w' => e = .returned (.bool false) ∧ w = w' := by
  obtain ⟨i, hi, hcmp⟩ := Option.map_eq_some_iff.1 es_comp
  obtain ⟨j, hj, hjs⟩ := Option.map_eq_some_iff.1 es_size
  have h8 := typeOf_es
  have h32 := rt_comparable
  have nE := noIsE
  have uE := noUnwrapE
  have vE := noUnwrapsE
  have nF := noIsF
  have uF := hasUnwrapF
  have heq := run_eql_iface_ptr_other (P := Tryd.prog) w Tryd.underlying36 Tryd.underlying201 hi hcmp hj (by rw [hjs]; decide) hne ha hb
  have hty := run_eql_iface_types (P := Tryd.prog) 97 201 (.pointer (some ⟨n, 0, none⟩)) (.pointer (some b)) Tryd.underlying36 (by decide) w
  clear ha hb hne
  go_enter Tryd.func93, Tryd.ntmps93
  go_wp2
  refine wp_loop_rounds 2 ?_
  rw [rounds_succ]
  go_wp2
  rw [rounds_succ]
  go_wp2
  go_ret
  exact ⟨rfl, rfl⟩
end Go.Proofs.YtdceonkbckmjdaaDoor
/- Walks: errors.As(err, &f), f a *api.Fault. -/
namespace Go.Proofs.YtdceonkbckmjdaaDoor
open Go.RowKit Go.Extern.Stop Go.Stop Go.Extern

theorem as_valueOf (v : Value) (w : World) (hv : ∃ p, v = .pointer p) : (callFunc 106 #[.iface 137 v]).run Tryd.prog w = .ok (.value (.agg #[.pointer (some ⟨11, 137, none⟩), .pointer (some ⟨w.heap.size, 0, none⟩), .int .u64 150])) (w.alloc (.cells #[v] 137)) := by
  obtain ⟨p, rfl⟩ := hv
  kernel_rfl
theorem as_valueOfF (v : Value) (w : World) (hv : ∃ p, v = .pointer p) : (callFunc 106 #[.iface 97 v]).run Tryd.prog w = .ok (.value (.agg #[.pointer (some ⟨11, 97, none⟩), .pointer (some ⟨w.heap.size, 0, none⟩), .int .u64 150])) (w.alloc (.cells #[v] 97)) := by
  obtain ⟨p, rfl⟩ := hv
  kernel_rfl
theorem as_type (p : Value) (a : Addr) (hp : p = .pointer (some a)) (w : World) : (callFunc 107 #[.agg #[.pointer (some ⟨11, 137, none⟩), p, .int .u64 150]]).run Tryd.prog w = .ok (.value (.iface 173 (rty 137))) w := by
  subst hp; kernel_rfl
theorem as_kindPP (w : World) : (callFunc 150 #[.pointer (some ⟨11, 137, none⟩)]).run Tryd.prog w = .ok (.value (.int .u8 22)) w := by kernel_rfl
theorem as_kindP (w : World) : (callFunc 150 #[.pointer (some ⟨11, 97, none⟩)]).run Tryd.prog w = .ok (.value (.int .u8 22)) w := by kernel_rfl
theorem as_elem (w : World) : (callFunc 162 #[.agg #[.pointer (some ⟨11, 137, none⟩)]]).run Tryd.prog w = .ok (.value (.iface 173 (rty 97))) w := by kernel_rfl
theorem as_impl (w : World) : (callFunc 163 #[.agg #[.pointer (some ⟨11, 97, none⟩)], .iface 173 (.agg #[.pointer (some ⟨11, 36, none⟩)])]).run Tryd.prog w = .ok (.value (.bool true)) w := by kernel_rfl
theorem typeOf_f (v : Value) (w : World) : (callFunc 110 #[.iface 97 v]).run Tryd.prog w = .ok (.value (.iface 173 (rty 97))) w := by kernel_rfl
theorem as_assF (w : World) : (callFunc 160 #[.agg #[.pointer (some ⟨11, 97, none⟩)], .iface 173 (rty 97)]).run Tryd.prog w = .ok (.value (.bool true)) w := by kernel_rfl
theorem as_assE (w : World) : (callFunc 160 #[.agg #[.pointer (some ⟨11, 201, none⟩)], .iface 173 (rty 97)]).run Tryd.prog w = .ok (.value (.bool false)) w := by kernel_rfl
theorem oh_PP (w : World) : (Rtype.ofHandle (.pointer (some ⟨11, 137, none⟩))).run Tryd.prog w = .ok 137 w := by kernel_rfl
theorem oh_P (w : World) : (Rtype.ofHandle (.pointer (some ⟨11, 97, none⟩))).run Tryd.prog w = .ok 97 w := by kernel_rfl
theorem np_PP (w : World) : (Rtype.noPack "a Value asked or handed on" 137).run Tryd.prog w = .ok () w := by kernel_rfl
theorem np_P (w : World) : (Rtype.noPack "a Value asked or handed on" 97).run Tryd.prog w = .ok () w := by kernel_rfl
theorem el_PP (w : World) : (Rtype.elem? 137).run Tryd.prog w = .ok (some 97) w := by kernel_rfl
theorem kd_P (w : World) : (Rtype.kind 97).run Tryd.prog w = .ok 22 w := by kernel_rfl
theorem ha_P (w : World) : (Rtype.handle 97).run Tryd.prog w = .ok (.pointer (some ⟨11, 97, none⟩)) w := by kernel_rfl
theorem da_P (w : World) : (Rtype.directlyAssignable 97 97).run Tryd.prog w = .ok true w := by kernel_rfl
theorem lv_PP (a : Addr) (v : Value) (w : World) (hc : w.cell? a = some v) : (loadVar 137 a).run Tryd.prog w = .ok v w := by
  simp [loadVar, hc, go_sem, Tryd.isAgg137]
theorem lv_P (a : Addr) (v : Value) (w : World) (hc : w.cell? a = some v) : (loadVar 97 a).run Tryd.prog w = .ok v w := by
  simp [loadVar, hc, go_sem, Tryd.isAgg97]
theorem rv_method (zero : Sem Value) (f : TypeId → Addr → Nat → Nat → Sem Value) (v : Value) : ReflectliteValue.method zero f #[v] = (do
    match ← ReflectliteValue.parts v with
    | none => zero
    | some (t, a, fl) => f t a fl (fl % 32)) := rfl
theorem pt_PP (a : Addr) (w : World) : (ReflectliteValue.parts (.agg #[.pointer (some ⟨11, 137, none⟩), .pointer (some a), .int .u64 150])).run Tryd.prog w = .ok (some (137, a, 150)) w := by kernel_rfl
theorem pt_P (a : Addr) (w : World) : (ReflectliteValue.parts (.agg #[.pointer (some ⟨11, 97, none⟩), .pointer (some a), .int .u64 150])).run Tryd.prog w = .ok (some (97, a, 150)) w := by kernel_rfl
theorem pt_PA (a : Addr) (w : World) : (ReflectliteValue.parts (.agg #[.pointer (some ⟨11, 97, none⟩), .pointer (some a), .int .u64 406])).run Tryd.prog w = .ok (some (97, a, 406)) w := by kernel_rfl
theorem sv_P (a : Addr) (x v : Value) (w : World) (hx : w.cell? a = some x) (hf : w.frozen? a = false) (hv : ∃ p, v = .pointer p) : (storeVar 97 a v).run Tryd.prog w = .ok () (w.setCell a v) := by
  obtain ⟨p, rfl⟩ := hv
  simp [storeVar, storeCells, hx, hf, go_sem, Tryd.sizeOf97]
theorem mk_P (p : Addr) (w : World) : (ReflectliteValue.mk 97 p ReflectliteValue.flagAddr).run Tryd.prog w = .ok (.agg #[.pointer (some ⟨11, 97, none⟩), .pointer (some p), .int .u64 406]) w := by kernel_rfl
theorem as_isNil (V : Nat) (p : Addr) (w : World) (hc : w.cell? ⟨V, 0, none⟩ = some (.pointer (some p))) : (callFunc 108 #[.agg #[.pointer (some ⟨11, 137, none⟩), .pointer (some ⟨V, 0, none⟩), .int .u64 150]]).run Tryd.prog w = .ok (.value (.bool false)) w := by
  rw [run_callFunc_extern Tryd.func108 (by kernel_rfl) (by kernel_rfl) (by kernel_rfl) (e := ReflectliteValue.method (ReflectliteValue.valueError "reflectlite.Value.IsNil" 0) ReflectliteValue.isNil) (by kernel_rfl), rv_method]
  simp only [Sem.run_bind, pt_PP, Result.andThen_ok]
  show ((ReflectliteValue.isNil 137 ⟨V, 0, none⟩ 150 22).run Tryd.prog w).andThen _ = _
  unfold ReflectliteValue.isNil
  simp [lv_PP _ _ _ hc]
theorem as_velem (V : Nat) (p : Addr) (w : World) (hc : w.cell? ⟨V, 0, none⟩ = some (.pointer (some p))) : (callFunc 117 #[.agg #[.pointer (some ⟨11, 137, none⟩), .pointer (some ⟨V, 0, none⟩), .int .u64 150]]).run Tryd.prog w = .ok (.value (.agg #[.pointer (some ⟨11, 97, none⟩), .pointer (some p), .int .u64 406])) w := by
  rw [run_callFunc_extern Tryd.func117 (by kernel_rfl) (by kernel_rfl) (by kernel_rfl) (e := ReflectliteValue.method (ReflectliteValue.valueError "reflectlite.Value.Elem" 0) ReflectliteValue.elem) (by kernel_rfl), rv_method]
  simp only [Sem.run_bind, pt_PP, Result.andThen_ok]
  show ((ReflectliteValue.elem 137 ⟨V, 0, none⟩ 150 22).run Tryd.prog w).andThen _ = _
  unfold ReflectliteValue.elem
  simp [lv_PP _ _ _ hc, el_PP, mk_P]
theorem as_set (F V : Addr) (x v : Value) (w : World) (hv : w.cell? V = some v) (hp : ∃ p, v = .pointer p) (hx : w.cell? F = some x) (hf : w.frozen? F = false) :
    (callFunc 118 #[.agg #[.pointer (some ⟨11, 97, none⟩), .pointer (some F), .int .u64 406], .agg #[.pointer (some ⟨11, 97, none⟩), .pointer (some V), .int .u64 150]]).run Tryd.prog w = .ok (.value (.tuple #[])) (w.setCell F v) := by
  rw [run_callFunc_extern Tryd.func118 (by kernel_rfl) (by kernel_rfl) (by kernel_rfl) (e := ReflectliteValue.set) (by kernel_rfl)]
  have e : ∀ a b : Value, ReflectliteValue.set #[a, b] = (do
    let (some (dst, a, fl), some (src, b, _)) := (← ReflectliteValue.parts a, ← ReflectliteValue.parts b)
      | unsupported (.noEntry "extern/(internal/reflectlite.Value).Set.zeroValue")
    if fl / ReflectliteValue.flagAddr % 2 == 0 then unsupported (.noEntry "extern/(internal/reflectlite.Value).Set.unaddressable")
    let val ← loadVar src b
    if ← Rtype.directlyAssignable dst src then storeVar dst a val
    else if ← Rtype.implements dst src then
      if (← Rtype.kind src) == 20 then
        match val with
        | .nilIface => unsupported (.noEntry "extern/reflectlite: a nil value of one interface type handed on as a value of another")
        | _ => storeVar dst a val
      else storeVar dst a (.iface src val)
    else panicString ("reflectlite.Set: value of type " ++ (← Rtype.spelt src) ++ " is not assignable to type " ++ (← Rtype.spelt dst))
    pure (.tuple #[])) := fun _ _ => rfl
  rw [e]
  simp [pt_PA, pt_P, lv_P _ _ _ hv, da_P, sv_P _ _ _ _ hx hf hp, ReflectliteValue.flagAddr]
end Go.Proofs.YtdceonkbckmjdaaDoor
/- Walks: errors.As(err, &f), f a *api.Fault. -/
namespace Go.Proofs.YtdceonkbckmjdaaDoor
open Go.RowKit Go.Extern.Stop Go.Stop Go.Extern

/-- What is known of errors.errorType: its own call of reflectlite laid it. -/
def ErrTypeLaid (w : World) : Prop := w.cell? ⟨9, 0, none⟩ = some (.iface 173 (.agg #[.pointer (some ⟨11, 36, none⟩)]))

theorem frozen_past {w : World} (o : Obj) {n : Nat} (i : Nat) (h : n < w.heap.size) : (w.alloc o).frozen? ⟨n, i, none⟩ = w.frozen? ⟨n, i, none⟩ :=
  World.frozen?_of_block (w := w) (Below.heap_alloc w o n h)

set_option maxHeartbeats 1000000 in
set_option maxRecDepth 100000 in
/-- errors.as at a fault: it is assigned. -/
theorem as_fault (F : Nat) (a x : Value) (hav : ∃ p, a = .pointer p) (V : Nat) (w : World) (hv : w.cell? ⟨V, 0, none⟩ = some (.pointer (some ⟨F, 0, none⟩))) (hx : w.cell? ⟨F, 0, none⟩ = some x) (hf : w.frozen? ⟨F, 0, none⟩ = false) (hF : F < w.heap.size) (hV : V < w.heap.size) :
    Calls Tryd.prog 109 #[.iface 97 a, .iface 137 (.pointer (some ⟨F, 0, none⟩)), .agg #[.pointer (some ⟨11, 137, none⟩), .pointer (some ⟨V, 0, none⟩), .int .u64 150], .iface 173 (rty 97)] w
      fun e w' => e = .returned (.bool true) ∧ w'.cell? ⟨F, 0, none⟩ = some a ∧ w.heap.size ≤ w'.heap.size ∧ Below F w w' := by
  obtain ⟨p, rfl⟩ := hav
  have k1 := typeOf_f
  have k2 := as_assF
  have k3 := fun w => as_valueOfF (.pointer p) w ⟨p, rfl⟩
  have k4 := fun o => as_velem V ⟨F, 0, none⟩ (w.alloc o) (by rw [World.cell?_alloc_past _ _ _ hV]; exact hv)
  have k5 := fun o => as_set ⟨F, 0, none⟩ ⟨w.heap.size + 1, 0, none⟩ x (.pointer p) ((w.alloc o).alloc (.cells #[.pointer p] 97)) (by simp) ⟨p, rfl⟩ (by rw [World.cell?_alloc_past _ _ _ (by simp; omega), World.cell?_alloc_past _ _ _ hF]; exact hx) (by rw [frozen_past _ _ (by simp; omega), frozen_past _ _ hF]; exact hf)
  go_enter Tryd.func109, Tryd.ntmps109
  go_wp2_with fail
  refine wp_loop_rounds 1 ?_
  rw [rounds_succ]
  go_wp2_with fail
  go_ret
  have hs : (w.setCell ⟨F, 0, none⟩ (.pointer p)).heap.size = w.heap.size := World.size_setCell _ _ _
  refine ⟨rfl, ?_, by rw [World.size_alloc, World.size_alloc, hs]; omega, (((Below.refl F w).setCell (Nat.le_refl _) _).alloc (by rw [hs]; omega) _).alloc (by rw [World.size_alloc, hs]; omega) _⟩
  rw [World.cell?_alloc_past _ _ _ (by rw [World.size_alloc, hs]; omega), World.cell?_alloc_past _ _ _ (by rw [hs]; exact hF), World.cell?_setCell_same' _ _ _ (by rw [hx]; rfl)]

set_option maxHeartbeats 1000000 in
set_option maxRecDepth 100000 in
/-- errors.as at an error of errors.New's make: no. -/
theorem as_sent (F : Nat) (a : Value) (V : Nat) (w : World) :
    Calls Tryd.prog 109 #[.iface 201 a, .iface 137 (.pointer (some ⟨F, 0, none⟩)), .agg #[.pointer (some ⟨11, 137, none⟩), .pointer (some ⟨V, 0, none⟩), .int .u64 150], .iface 173 (rty 97)] w
      fun e w' => e = .returned (.bool false) ∧ Below w.heap.size w w' := by
  have k1 := typeOf_es
  have k2 := as_assE
  have nA := noAsE
  have uE := noUnwrapE
  have vE := noUnwrapsE
  go_enter Tryd.func109, Tryd.ntmps109
  go_wp2_with fail
  refine wp_loop_rounds 1 ?_
  rw [rounds_succ]
  go_wp2_with fail
  go_ret
  exact ⟨rfl, by go_grown⟩

set_option maxHeartbeats 1000000 in
set_option maxRecDepth 100000 in
/-- errors.As(err, &f) at a fault. -/
theorem As_fault (F : Nat) (a x : Value) (hav : ∃ p, a = .pointer p) (w : World) (hx : w.cell? ⟨F, 0, none⟩ = some x) (hf : w.frozen? ⟨F, 0, none⟩ = false) (hF : F < w.heap.size) (hE : ErrTypeLaid w) (hEg : 9 < w.heap.size) :
    Calls Tryd.prog 92 #[.iface 97 a, .iface 137 (.pointer (some ⟨F, 0, none⟩))] w
      fun e w' => e = .returned (.bool true) ∧ w'.cell? ⟨F, 0, none⟩ = some a ∧ w.heap.size ≤ w'.heap.size ∧ Below F w w' := by
  have j1 := fun w => as_valueOf (.pointer (some ⟨F, 0, none⟩)) w ⟨_, rfl⟩
  have j2 := fun V w => as_type (.pointer (some V)) V rfl w
  have j3 := as_kindPP
  have j4 := as_kindP
  have j5 := as_elem
  have j6 := as_impl
  have j7 := fun o => as_isNil w.heap.size ⟨F, 0, none⟩ ((w.alloc (.cells #[.pointer (some ⟨F, 0, none⟩)] 137)).alloc o) (by simp)
  unfold ErrTypeLaid at hE
  go_enter Tryd.func92, Tryd.ntmps92
  go_wp2_with fail
  have hW : ∀ o1 o2, ((w.alloc o1).alloc o2).heap.size = w.heap.size + 2 := fun o1 o2 => by rw [World.size_alloc, World.size_alloc]
  refine (as_fault F a x hav w.heap.size _ (by simp) (by rw [World.cell?_alloc_past _ _ _ (by rw [World.size_alloc]; omega), World.cell?_alloc_past _ _ _ hF]; exact hx) (by rw [frozen_past _ _ (by rw [World.size_alloc]; omega), frozen_past _ _ hF]; exact hf) (by rw [hW]; omega) (by rw [hW]; omega)).mono ?_
  rintro e w' ⟨rfl, h1, h2, h3⟩
  rw [hW] at h2
  have h4 : Below F w w' := (((Below.refl F w).alloc (Nat.le_of_lt hF) _).alloc (by rw [World.size_alloc]; omega) _).trans h3
  clear h3 hW
  go_wp2_with fail
  go_ret
  exact ⟨rfl, h1, by omega, h4⟩

set_option maxHeartbeats 1000000 in
set_option maxRecDepth 100000 in
/-- errors.As(err, &f) at an error of errors.New's make. -/
theorem As_sent (F : Nat) (a : Value) (w : World) (hE : ErrTypeLaid w) (hEg : 9 < w.heap.size) :
    Calls Tryd.prog 92 #[.iface 201 a, .iface 137 (.pointer (some ⟨F, 0, none⟩))] w
      fun e w' => e = .returned (.bool false) ∧ Below w.heap.size w w' := by
  have j1 := fun w => as_valueOf (.pointer (some ⟨F, 0, none⟩)) w ⟨_, rfl⟩
  have j2 := fun V w => as_type (.pointer (some V)) V rfl w
  have j3 := as_kindPP
  have j4 := as_kindP
  have j5 := as_elem
  have j6 := as_impl
  have j7 := fun o => as_isNil w.heap.size ⟨F, 0, none⟩ ((w.alloc (.cells #[.pointer (some ⟨F, 0, none⟩)] 137)).alloc o) (by simp)
  unfold ErrTypeLaid at hE
  go_enter Tryd.func92, Tryd.ntmps92
  go_wp2_with fail
  have hW : ∀ o1 o2, ((w.alloc o1).alloc o2).heap.size = w.heap.size + 2 := fun o1 o2 => by rw [World.size_alloc, World.size_alloc]
  refine (as_sent F a w.heap.size _).mono ?_
  rintro e w' ⟨rfl, h3⟩
  have h4 : Below w.heap.size w w' := (((Below.refl w.heap.size w).alloc (Nat.le_refl _) _).alloc (by rw [World.size_alloc]; omega) _).trans (h3.mono (by rw [hW]; omega))
  clear h3 hW
  go_wp2_with fail
  go_ret
  exact ⟨rfl, h4⟩
end Go.Proofs.YtdceonkbckmjdaaDoor
