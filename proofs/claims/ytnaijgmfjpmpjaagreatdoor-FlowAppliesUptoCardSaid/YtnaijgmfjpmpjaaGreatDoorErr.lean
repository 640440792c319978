/- Walks: errors.Is and errors.As at the errors of package api: sentinels, faults that wrap one, errors of errors.New's make. -/
import Derived.Test.YtnaijgmfjpmpjaaGreatDoorProg
import Derived.Test.YtnaijgmfjpmpjaaGreatDoorKn
import Derived.LaidEql
import Derived.Stop.Asserts
import Derived.RowKitTokens
import Derived.Laws.Externs
import Derived.Test.YtnaijgmfjpmpjaaGreatDoorSen
namespace Go.Proofs.YtnaijgmfjpmpjaaGreatDoor
set_option maxRecDepth 100000
set_option maxHeartbeats 16000000
open Go.RowKit Go.Extern.Stop Go.Stop Go.Extern
def rty (t : Nat) : Value := .agg #[.pointer (some ⟨11, t, none⟩)]
theorem rt_comparable (w : World) : (callFunc 149 #[.agg #[.pointer (some ⟨11, 211, none⟩)]]).run Tryz.prog w = .ok (.value (.bool true)) w := by kernel_rfl
theorem typeOf_es (v : Value) (w : World) : (callFunc 103 #[.iface 211 v]).run Tryz.prog w = .ok (.value (.iface 189 (rty 211))) w := by kernel_rfl
theorem es_comp : (Tryz.prog.info? 211).map (·.comparable) = some true := by kernel_rfl
theorem es_size : (Tryz.prog.info? 234).map (·.size) = some 1 := by kernel_rfl
theorem noIsE (v : Value) (xT : TypeId) (w : World) : (Instr.typeAssert (.iface 211 v) xT 200 true).run Tryz.prog w = .ok (.tuple #[.nilIface, .bool false]) w := run_typeAssert_lacksB Tryz.underlying200 (by kernel_rfl) (by kernel_rfl) v xT w
theorem noUnwrapE (v : Value) (xT : TypeId) (w : World) : (Instr.typeAssert (.iface 211 v) xT 196 true).run Tryz.prog w = .ok (.tuple #[.nilIface, .bool false]) w := run_typeAssert_lacksB Tryz.underlying196 (by kernel_rfl) (by kernel_rfl) v xT w
theorem noUnwrapsE (v : Value) (xT : TypeId) (w : World) : (Instr.typeAssert (.iface 211 v) xT 198 true).run Tryz.prog w = .ok (.tuple #[.nilIface, .bool false]) w := run_typeAssert_lacksB Tryz.underlying198 (by kernel_rfl) (by kernel_rfl) v xT w
theorem noAsE (v : Value) (xT : TypeId) (w : World) : (Instr.typeAssert (.iface 211 v) xT 193 true).run Tryz.prog w = .ok (.tuple #[.nilIface, .bool false]) w := run_typeAssert_lacksB Tryz.underlying193 (by kernel_rfl) (by kernel_rfl) v xT w
theorem noIsF (v : Value) (xT : TypeId) (w : World) : (Instr.typeAssert (.iface 90 v) xT 200 true).run Tryz.prog w = .ok (.tuple #[.nilIface, .bool false]) w := run_typeAssert_lacksB Tryz.underlying200 (by kernel_rfl) (by kernel_rfl) v xT w
theorem hasUnwrapF (v : Value) (xT : TypeId) (w : World) : (Instr.typeAssert (.iface 90 v) xT 196 true).run Tryz.prog w = .ok (.tuple #[.iface 90 v, .bool true]) w := run_typeAssert_hasB Tryz.underlying196 (by kernel_rfl) v xT w
theorem is_same (a : Addr) (w : World) :
  Calls Tryz.prog 69 #[.iface 211 (.pointer (some a)), .iface 211 (.pointer (some a))] w fun e w' => e = .returned (.bool true) ∧ w = w' := by
 obtain ⟨i, hi, hcmp⟩ := Option.map_eq_some_iff.1 es_comp
 obtain ⟨j, hj, hjs⟩ := Option.map_eq_some_iff.1 es_size
 have h8 := typeOf_es
 have h32 := rt_comparable
 have heq := run_eql_iface_ptr_same (P := Tryz.prog) w a Tryz.underlying27 Tryz.underlying211 hi hcmp hj
 go_enter Tryz.func69, Tryz.ntmps69
 go_wp2
 refine wp_loop_rounds 1 ?_
 rw [rounds_succ]
 go_wp2
 go_ret
 exact ⟨rfl, rfl⟩
theorem is_other (a b : Addr) (ca cb : Array Value) (ta tb : TypeId) (w : World) (hne : a ≠ b) (ha : w.heap[a.block]? = some (.cells ca ta (0, 0))) (hb : w.heap[b.block]? = some (.cells cb tb (0, 0))) :
  Calls Tryz.prog 69 #[.iface 211 (.pointer (some a)), .iface 211 (.pointer (some b))] w fun e w' => e = .returned (.bool false) ∧ w = w' := by
 obtain ⟨i, hi, hcmp⟩ := Option.map_eq_some_iff.1 es_comp
 obtain ⟨j, hj, hjs⟩ := Option.map_eq_some_iff.1 es_size
 have h8 := typeOf_es
 have h32 := rt_comparable
 have nE := noIsE
 have uE := noUnwrapE
 have vE := noUnwrapsE
 have heq := run_eql_iface_ptr_other (P := Tryz.prog) w Tryz.underlying27 Tryz.underlying211 hi hcmp hj (by rw [hjs]; decide) hne ha hb
 clear ha hb hne
 go_enter Tryz.func69, Tryz.ntmps69
 go_wp2
 refine wp_loop_rounds 1 ?_
 rw [rounds_succ]
 go_wp2
 go_ret
 exact ⟨rfl, rfl⟩
theorem is_fault_same (n : Nat) (b : Addr) (w : World) (h1 : w.cell? ⟨n, 1, none⟩ = some (.iface 211 (.pointer (some b)))) :
  Calls Tryz.prog 69 #[.iface 90 (.pointer (some ⟨n, 0, none⟩)), .iface 211 (.pointer (some b))] w fun e w' => e = .returned (.bool true) ∧ w = w' := by
 obtain ⟨i, hi, hcmp⟩ := Option.map_eq_some_iff.1 es_comp
 obtain ⟨j, hj, hjs⟩ := Option.map_eq_some_iff.1 es_size
 have h8 := typeOf_es
 have h32 := rt_comparable
 have nF := noIsF
 have uF := hasUnwrapF
 have heq := run_eql_iface_ptr_same (P := Tryz.prog) w b Tryz.underlying27 Tryz.underlying211 hi hcmp hj
 have hty := run_eql_iface_types (P := Tryz.prog) 90 211 (.pointer (some ⟨n, 0, none⟩)) (.pointer (some b)) Tryz.underlying27 (by decide) w
 go_enter Tryz.func69, Tryz.ntmps69
 go_wp2
 refine wp_loop_rounds 2 ?_
 rw [rounds_succ]
 go_wp2
 rw [rounds_succ]
 go_wp2
 go_ret
 exact ⟨rfl, rfl⟩
theorem is_fault_other (n : Nat) (a b : Addr) (ca cb : Array Value) (ta tb : TypeId) (w : World) (h1 : w.cell? ⟨n, 1, none⟩ = some (.iface 211 (.pointer (some a)))) (hne : a ≠ b) (ha : w.heap[a.block]? = some (.cells ca ta (0, 0))) (hb : w.heap[b.block]? = some (.cells cb tb (0, 0))) :
  Calls Tryz.prog 69 #[.iface 90 (.pointer (some ⟨n, 0, none⟩)), .iface 211 (.pointer (some b))] w fun e w' => e = .returned (.bool false) ∧ w = w' := by
 obtain ⟨i, hi, hcmp⟩ := Option.map_eq_some_iff.1 es_comp
 obtain ⟨j, hj, hjs⟩ := Option.map_eq_some_iff.1 es_size
 have h8 := typeOf_es
 have h32 := rt_comparable
 have nE := noIsE
 have uE := noUnwrapE
 have vE := noUnwrapsE
 have nF := noIsF
 have uF := hasUnwrapF
 have heq := run_eql_iface_ptr_other (P := Tryz.prog) w Tryz.underlying27 Tryz.underlying211 hi hcmp hj (by rw [hjs]; decide) hne ha hb
 have hty := run_eql_iface_types (P := Tryz.prog) 90 211 (.pointer (some ⟨n, 0, none⟩)) (.pointer (some b)) Tryz.underlying27 (by decide) w
 clear ha hb hne
 go_enter Tryz.func69, Tryz.ntmps69
 go_wp2
 refine wp_loop_rounds 2 ?_
 rw [rounds_succ]
 go_wp2
 rw [rounds_succ]
 go_wp2
 go_ret
 exact ⟨rfl, rfl⟩
end Go.Proofs.YtnaijgmfjpmpjaaGreatDoor
namespace Go.Proofs.YtnaijgmfjpmpjaaGreatDoor
set_option maxRecDepth 100000
set_option maxHeartbeats 16000000
open Go.RowKit Go.Extern.Stop Go.Stop Go.Extern
theorem as_valueOf (v : Value) (w : World) (hv : ∃ p, v = .pointer p) : (callFunc 99 #[.iface 137 v]).run Tryz.prog w = .ok (.value (.agg #[.pointer (some ⟨11, 137, none⟩), .pointer (some ⟨w.heap.size, 0, none⟩), .int .u64 150])) (w.alloc (.cells #[v] 137)) := by
 obtain ⟨p, rfl⟩ := hv
 kernel_rfl
theorem as_valueOfF (v : Value) (w : World) (hv : ∃ p, v = .pointer p) : (callFunc 99 #[.iface 90 v]).run Tryz.prog w = .ok (.value (.agg #[.pointer (some ⟨11, 90, none⟩), .pointer (some ⟨w.heap.size, 0, none⟩), .int .u64 150])) (w.alloc (.cells #[v] 90)) := by
 obtain ⟨p, rfl⟩ := hv
 kernel_rfl
theorem as_type (p : Value) (a : Addr) (hp : p = .pointer (some a)) (w : World) : (callFunc 100 #[.agg #[.pointer (some ⟨11, 137, none⟩), p, .int .u64 150]]).run Tryz.prog w = .ok (.value (.iface 189 (rty 137))) w := by
 subst hp; kernel_rfl
theorem as_kindPP (w : World) : (callFunc 138 #[.pointer (some ⟨11, 137, none⟩)]).run Tryz.prog w = .ok (.value (.int .u8 22)) w := by kernel_rfl
theorem as_kindP (w : World) : (callFunc 138 #[.pointer (some ⟨11, 90, none⟩)]).run Tryz.prog w = .ok (.value (.int .u8 22)) w := by kernel_rfl
theorem as_elem (w : World) : (callFunc 150 #[.agg #[.pointer (some ⟨11, 137, none⟩)]]).run Tryz.prog w = .ok (.value (.iface 189 (rty 90))) w := by kernel_rfl
theorem as_impl (w : World) : (callFunc 151 #[.agg #[.pointer (some ⟨11, 90, none⟩)], .iface 189 (.agg #[.pointer (some ⟨11, 27, none⟩)])]).run Tryz.prog w = .ok (.value (.bool true)) w := by kernel_rfl
theorem typeOf_f (v : Value) (w : World) : (callFunc 103 #[.iface 90 v]).run Tryz.prog w = .ok (.value (.iface 189 (rty 90))) w := by kernel_rfl
theorem as_assF (w : World) : (callFunc 148 #[.agg #[.pointer (some ⟨11, 90, none⟩)], .iface 189 (rty 90)]).run Tryz.prog w = .ok (.value (.bool true)) w := by kernel_rfl
theorem as_assE (w : World) : (callFunc 148 #[.agg #[.pointer (some ⟨11, 211, none⟩)], .iface 189 (rty 90)]).run Tryz.prog w = .ok (.value (.bool false)) w := by kernel_rfl
theorem el_PP (w : World) : (Rtype.elem? 137).run Tryz.prog w = .ok (some 90) w := by kernel_rfl
theorem da_P (w : World) : (Rtype.directlyAssignable 90 90).run Tryz.prog w = .ok true w := by kernel_rfl
theorem lv_PP (a : Addr) (v : Value) (w : World) (hc : w.cell? a = some v) : (loadVar 137 a).run Tryz.prog w = .ok v w := by
 simp [loadVar, hc, go_sem, Tryz.isAgg137]
theorem lv_P (a : Addr) (v : Value) (w : World) (hc : w.cell? a = some v) : (loadVar 90 a).run Tryz.prog w = .ok v w := by
 simp [loadVar, hc, go_sem, Tryz.isAgg90]
theorem rv_method (zero : Sem Value) (f : TypeId → Addr → Nat → Nat → Sem Value) (v : Value) : ReflectliteValue.method zero f #[v] = (do
  match ← ReflectliteValue.parts v with
  | none => zero
  | some (t, a, fl) => f t a fl (fl % 32)) := rfl
theorem pt_PP (a : Addr) (w : World) : (ReflectliteValue.parts (.agg #[.pointer (some ⟨11, 137, none⟩), .pointer (some a), .int .u64 150])).run Tryz.prog w = .ok (some (137, a, 150)) w := by kernel_rfl
theorem pt_P (a : Addr) (w : World) : (ReflectliteValue.parts (.agg #[.pointer (some ⟨11, 90, none⟩), .pointer (some a), .int .u64 150])).run Tryz.prog w = .ok (some (90, a, 150)) w := by kernel_rfl
theorem pt_PA (a : Addr) (w : World) : (ReflectliteValue.parts (.agg #[.pointer (some ⟨11, 90, none⟩), .pointer (some a), .int .u64 406])).run Tryz.prog w = .ok (some (90, a, 406)) w := by kernel_rfl
theorem sv_P (a : Addr) (x v : Value) (w : World) (hx : w.cell? a = some x) (hf : w.frozen? a = false) (hv : ∃ p, v = .pointer p) : (storeVar 90 a v).run Tryz.prog w = .ok () (w.setCell a v) := by
 obtain ⟨p, rfl⟩ := hv
 simp [storeVar, storeCells, hx, hf, go_sem, Tryz.sizeOf90]
theorem mk_P (p : Addr) (w : World) : (ReflectliteValue.mk 90 p ReflectliteValue.flagAddr).run Tryz.prog w = .ok (.agg #[.pointer (some ⟨11, 90, none⟩), .pointer (some p), .int .u64 406]) w := by kernel_rfl
theorem as_isNil (V : Nat) (p : Addr) (w : World) (hc : w.cell? ⟨V, 0, none⟩ = some (.pointer (some p))) : (callFunc 101 #[.agg #[.pointer (some ⟨11, 137, none⟩), .pointer (some ⟨V, 0, none⟩), .int .u64 150]]).run Tryz.prog w = .ok (.value (.bool false)) w := by
 rw [run_callFunc_extern Tryz.func101 (by kernel_rfl) (by kernel_rfl) (by kernel_rfl) (e := ReflectliteValue.method (ReflectliteValue.valueError "reflectlite.Value.IsNil" 0) ReflectliteValue.isNil) (by kernel_rfl), rv_method]
 simp only [Sem.run_bind, pt_PP, Result.andThen_ok]
 show ((ReflectliteValue.isNil 137 ⟨V, 0, none⟩ 150 22).run Tryz.prog w).andThen _ = _
 unfold ReflectliteValue.isNil
 simp [lv_PP _ _ _ hc]
theorem as_velem (V : Nat) (p : Addr) (w : World) (hc : w.cell? ⟨V, 0, none⟩ = some (.pointer (some p))) : (callFunc 112 #[.agg #[.pointer (some ⟨11, 137, none⟩), .pointer (some ⟨V, 0, none⟩), .int .u64 150]]).run Tryz.prog w = .ok (.value (.agg #[.pointer (some ⟨11, 90, none⟩), .pointer (some p), .int .u64 406])) w := by
 rw [run_callFunc_extern Tryz.func112 (by kernel_rfl) (by kernel_rfl) (by kernel_rfl) (e := ReflectliteValue.method (ReflectliteValue.valueError "reflectlite.Value.Elem" 0) ReflectliteValue.elem) (by kernel_rfl), rv_method]
 simp only [Sem.run_bind, pt_PP, Result.andThen_ok]
 show ((ReflectliteValue.elem 137 ⟨V, 0, none⟩ 150 22).run Tryz.prog w).andThen _ = _
 unfold ReflectliteValue.elem
 simp [lv_PP _ _ _ hc, el_PP, mk_P]
theorem as_set (F V : Addr) (x v : Value) (w : World) (hv : w.cell? V = some v) (hp : ∃ p, v = .pointer p) (hx : w.cell? F = some x) (hf : w.frozen? F = false) :
  (callFunc 113 #[.agg #[.pointer (some ⟨11, 90, none⟩), .pointer (some F), .int .u64 406], .agg #[.pointer (some ⟨11, 90, none⟩), .pointer (some V), .int .u64 150]]).run Tryz.prog w = .ok (.value (.tuple #[])) (w.setCell F v) := by
 rw [run_callFunc_extern Tryz.func113 (by kernel_rfl) (by kernel_rfl) (by kernel_rfl) (e := ReflectliteValue.set) (by kernel_rfl)]
 have e : ∀ a b : Value, ReflectliteValue.set #[a, b] = (do
  let (some (dst, a, fl), some (src, b, _)) := (← ReflectliteValue.parts a, ← ReflectliteValue.parts b)
   | unsupported (.noEntry "extern/(internal/reflectlite.Value).Set.zeroValue")
  if fl / ReflectliteValue.flagAddr % 2 == 0 then unsupported (.noEntry "extern/(internal/reflectlite.Value).Set.unaddressable")
  let val ← loadVar src b
  if ← Rtype.directlyAssignable dst src then storeVar dst a val
  else if ← Rtype.implements dst src then
   if (← Rtype.kind src) == 20 then
    match val with
    | .nilIface => unsupported (.noEntry "extern/reflectlite: a nil value of one interface type handed on as a value of another")
    | _ => storeVar dst a val
   else storeVar dst a (.iface src val)
  else panicString ("reflectlite.Set: value of type " ++ (← Rtype.spelt src) ++ " is not assignable to type " ++ (← Rtype.spelt dst))
  pure (.tuple #[])) := fun _ _ => rfl
 rw [e]
 simp [pt_PA, pt_P, lv_P _ _ _ hv, da_P, sv_P _ _ _ _ hx hf hp, ReflectliteValue.flagAddr]
end Go.Proofs.YtnaijgmfjpmpjaaGreatDoor
namespace Go.Proofs.YtnaijgmfjpmpjaaGreatDoor
set_option maxRecDepth 100000
set_option maxHeartbeats 16000000
open Go.RowKit Go.Extern.Stop Go.Stop Go.Extern
def ErrTypeLaid (w : World) : Prop := w.cell? ⟨10, 0, none⟩ = some (.iface 189 (.agg #[.pointer (some ⟨11, 27, none⟩)]))
theorem frozen_past {w : World} (o : Obj) {n : Nat} (i : Nat) (h : n < w.heap.size) : (w.alloc o).frozen? ⟨n, i, none⟩ = w.frozen? ⟨n, i, none⟩ :=
 World.frozen?_of_block (w := w) (Below.heap_alloc w o n h)
theorem as_fault (F : Nat) (a x : Value) (hav : ∃ p, a = .pointer p) (V : Nat) (w : World) (hv : w.cell? ⟨V, 0, none⟩ = some (.pointer (some ⟨F, 0, none⟩))) (hx : w.cell? ⟨F, 0, none⟩ = some x) (hf : w.frozen? ⟨F, 0, none⟩ = false) (hF : F < w.heap.size) (hV : V < w.heap.size) :
  Calls Tryz.prog 102 #[.iface 90 a, .iface 137 (.pointer (some ⟨F, 0, none⟩)), .agg #[.pointer (some ⟨11, 137, none⟩), .pointer (some ⟨V, 0, none⟩), .int .u64 150], .iface 189 (rty 90)] w
   fun e w' => e = .returned (.bool true) ∧ w'.cell? ⟨F, 0, none⟩ = some a ∧ w.heap.size ≤ w'.heap.size ∧ Below F w w' := by
 obtain ⟨p, rfl⟩ := hav
 have k1 := typeOf_f
 have k2 := as_assF
 have k3 := fun w => as_valueOfF (.pointer p) w ⟨p, rfl⟩
 have k4 := fun o => as_velem V ⟨F, 0, none⟩ (w.alloc o) (by rw [World.cell?_alloc_past _ _ _ hV]; exact hv)
 have k5 := fun o => as_set ⟨F, 0, none⟩ ⟨w.heap.size + 1, 0, none⟩ x (.pointer p) ((w.alloc o).alloc (.cells #[.pointer p] 90)) (by simp) ⟨p, rfl⟩ (by rw [World.cell?_alloc_past _ _ _ (by simp; omega), World.cell?_alloc_past _ _ _ hF]; exact hx) (by rw [frozen_past _ _ (by simp; omega), frozen_past _ _ hF]; exact hf)
 go_enter Tryz.func102, Tryz.ntmps102
 go_wp2_with fail
 refine wp_loop_rounds 1 ?_
 rw [rounds_succ]
 go_wp2_with fail
 go_ret
 have hs : (w.setCell ⟨F, 0, none⟩ (.pointer p)).heap.size = w.heap.size := World.size_setCell _ _ _
 refine ⟨rfl, ?_, by rw [World.size_alloc, World.size_alloc, hs]; omega, (((Below.refl F w).setCell (Nat.le_refl _) _).alloc (by rw [hs]; omega) _).alloc (by rw [World.size_alloc, hs]; omega) _⟩
 rw [World.cell?_alloc_past _ _ _ (by rw [World.size_alloc, hs]; omega), World.cell?_alloc_past _ _ _ (by rw [hs]; exact hF), World.cell?_setCell_same' _ _ _ (by rw [hx]; rfl)]
theorem as_sent (F : Nat) (a : Value) (V : Nat) (w : World) :
  Calls Tryz.prog 102 #[.iface 211 a, .iface 137 (.pointer (some ⟨F, 0, none⟩)), .agg #[.pointer (some ⟨11, 137, none⟩), .pointer (some ⟨V, 0, none⟩), .int .u64 150], .iface 189 (rty 90)] w
   fun e w' => e = .returned (.bool false) ∧ Below w.heap.size w w' := by
 have k1 := typeOf_es
 have k2 := as_assE
 have nA := noAsE
 have uE := noUnwrapE
 have vE := noUnwrapsE
 go_enter Tryz.func102, Tryz.ntmps102
 go_wp2_with fail
 refine wp_loop_rounds 1 ?_
 rw [rounds_succ]
 go_wp2_with fail
 go_ret
 exact ⟨rfl, by go_grown⟩
theorem As_fault (F : Nat) (a x : Value) (hav : ∃ p, a = .pointer p) (w : World) (hx : w.cell? ⟨F, 0, none⟩ = some x) (hf : w.frozen? ⟨F, 0, none⟩ = false) (hF : F < w.heap.size) (hE : ErrTypeLaid w) (hEg : 10 < w.heap.size) :
  Calls Tryz.prog 68 #[.iface 90 a, .iface 137 (.pointer (some ⟨F, 0, none⟩))] w
   fun e w' => e = .returned (.bool true) ∧ w'.cell? ⟨F, 0, none⟩ = some a ∧ w.heap.size ≤ w'.heap.size ∧ Below F w w' := by
 have j1 := fun w => as_valueOf (.pointer (some ⟨F, 0, none⟩)) w ⟨_, rfl⟩
 have j2 := fun V w => as_type (.pointer (some V)) V rfl w
 have j3 := as_kindPP
 have j4 := as_kindP
 have j5 := as_elem
 have j6 := as_impl
 have j7 := fun o => as_isNil w.heap.size ⟨F, 0, none⟩ ((w.alloc (.cells #[.pointer (some ⟨F, 0, none⟩)] 137)).alloc o) (by simp)
 unfold ErrTypeLaid at hE
 go_enter Tryz.func68, Tryz.ntmps68
 go_wp2_with fail
 have hW : ∀ o1 o2, ((w.alloc o1).alloc o2).heap.size = w.heap.size + 2 := fun o1 o2 => by rw [World.size_alloc, World.size_alloc]
 refine (as_fault F a x hav w.heap.size _ (by simp) (by rw [World.cell?_alloc_past _ _ _ (by rw [World.size_alloc]; omega), World.cell?_alloc_past _ _ _ hF]; exact hx) (by rw [frozen_past _ _ (by rw [World.size_alloc]; omega), frozen_past _ _ hF]; exact hf) (by rw [hW]; omega) (by rw [hW]; omega)).mono ?_
 rintro e w' ⟨rfl, h1, h2, h3⟩
 rw [hW] at h2
 have h4 : Below F w w' := (((Below.refl F w).alloc (Nat.le_of_lt hF) _).alloc (by rw [World.size_alloc]; omega) _).trans h3
 clear h3 hW
 go_wp2_with fail
 go_ret
 exact ⟨rfl, h1, by omega, h4⟩
theorem As_sent (F : Nat) (a : Value) (w : World) (hE : ErrTypeLaid w) (hEg : 10 < w.heap.size) :
  Calls Tryz.prog 68 #[.iface 211 a, .iface 137 (.pointer (some ⟨F, 0, none⟩))] w
   fun e w' => e = .returned (.bool false) ∧ Below w.heap.size w w' := by
 have j1 := fun w => as_valueOf (.pointer (some ⟨F, 0, none⟩)) w ⟨_, rfl⟩
 have j2 := fun V w => as_type (.pointer (some V)) V rfl w
 have j3 := as_kindPP
 have j4 := as_kindP
 have j5 := as_elem
 have j6 := as_impl
 have j7 := fun o => as_isNil w.heap.size ⟨F, 0, none⟩ ((w.alloc (.cells #[.pointer (some ⟨F, 0, none⟩)] 137)).alloc o) (by simp)
 unfold ErrTypeLaid at hE
 go_enter Tryz.func68, Tryz.ntmps68
 go_wp2_with fail
 have hW : ∀ o1 o2, ((w.alloc o1).alloc o2).heap.size = w.heap.size + 2 := fun o1 o2 => by rw [World.size_alloc, World.size_alloc]
 refine (as_sent F a w.heap.size _).mono ?_
 rintro e w' ⟨rfl, h3⟩
 have h4 : Below w.heap.size w w' := (((Below.refl w.heap.size w).alloc (Nat.le_refl _) _).alloc (by rw [World.size_alloc]; omega) _).trans (h3.mono (by rw [hW]; omega))
 clear h3 hW
 go_wp2_with fail
 go_ret
 exact ⟨rfl, h4⟩
end Go.Proofs.YtnaijgmfjpmpjaaGreatDoor
namespace Go.Proofs.YtnaijgmfjpmpjaaGreatDoor
set_option maxRecDepth 100000
set_option maxHeartbeats 16000000
open Go.RowKit
structure Sents (w : World) (p : Nat → Addr) : Prop where
 c0 : w.cell? ⟨4, 0, none⟩ = some (.iface 211 (.pointer (some (p 0))))
 c1 : w.cell? ⟨2, 0, none⟩ = some (.iface 211 (.pointer (some (p 1))))
 c2 : w.cell? ⟨0, 0, none⟩ = some (.iface 211 (.pointer (some (p 2))))
 c3 : w.cell? ⟨5, 0, none⟩ = some (.iface 211 (.pointer (some (p 3))))
 c4 : w.cell? ⟨1, 0, none⟩ = some (.iface 211 (.pointer (some (p 4))))
 c5 : w.cell? ⟨6, 0, none⟩ = some (.iface 211 (.pointer (some (p 5))))
 c6 : w.cell? ⟨7, 0, none⟩ = some (.iface 211 (.pointer (some (p 6))))
 c7 : w.cell? ⟨8, 0, none⟩ = some (.iface 211 (.pointer (some (p 7))))
 c8 : w.cell? ⟨9, 0, none⟩ = some (.iface 211 (.pointer (some (p 8))))
 row : ∀ i, i < 9 → ∃ c t, w.heap[(p i).block]? = some (.cells c t (0, 0))
 inj : ∀ i j, i < 9 → j < 9 → p i = p j → i = j
 big : 11 ≤ w.heap.size
theorem Sents.below {w w' : World} {p : Nat → Addr} (h : Sents w p) (hb : Below w.heap.size w w') : Sents w' p := by
 have hg := h.big
 have hc : ∀ b, b < 11 → w'.cell? ⟨b, 0, none⟩ = w.cell? ⟨b, 0, none⟩ := fun b hbl => hb.cell (p := ⟨b, 0, none⟩) (Nat.lt_of_lt_of_le hbl hg)
 refine ⟨?_, ?_, ?_, ?_, ?_, ?_, ?_, ?_, ?_, fun i hi => ?_, h.inj, Nat.le_trans hg hb.size⟩
 ·rw [hc _ (by decide)]; exact h.c0
 ·rw [hc _ (by decide)]; exact h.c1
 ·rw [hc _ (by decide)]; exact h.c2
 ·rw [hc _ (by decide)]; exact h.c3
 ·rw [hc _ (by decide)]; exact h.c4
 ·rw [hc _ (by decide)]; exact h.c5
 ·rw [hc _ (by decide)]; exact h.c6
 ·rw [hc _ (by decide)]; exact h.c7
 ·rw [hc _ (by decide)]; exact h.c8
 ·obtain ⟨c, t, hr⟩ := h.row i hi
  exact ⟨c, t, by rw [hb.block _ (Array.getElem?_eq_some_iff.1 hr).1]; exact hr⟩
theorem Sents.five {w : World} {p : Nat → Addr} (h : Sents w p) : Sen5 w p := ⟨h.c1, h.c2, h.c4, h.c5, h.c6, h.big⟩
theorem code_nil (w : World) : Calls Tryz.prog 30 #[.nilIface] w fun e w' => e = .returned (.tuple #[.int .i64 0, .int .i64 (-1)]) ∧ w = w' := by
 go_enter Tryz.func30, Tryz.ntmps30
 go_wp2_with fail
 go_ret2
 exact ⟨rfl, rfl⟩
theorem nine_get (p : Nat → Addr) (k : Nat) (hk : k < 9) : (#[esv (p 0), esv (p 1), esv (p 2), esv (p 3), esv (p 4), esv (p 5), esv (p 6), esv (p 7), esv (p 8)] : Array Value)[k]? = some (esv (p k)) := by
 match k, hk with
 | 0, _ => rfl
 | 1, _ => rfl
 | 2, _ => rfl
 | 3, _ => rfl
 | 4, _ => rfl
 | 5, _ => rfl
 | 6, _ => rfl
 | 7, _ => rfl
 | 8, _ => rfl
theorem code_sent (p : Nat → Addr) (i : Nat) (hi : i < 9) (w : World) (S : Sents w p) (hE : ErrTypeLaid w) :
  Calls Tryz.prog 30 #[esv (p i)] w fun e w' => e = .returned (.tuple #[.int .i64 (i + 1), .int .i64 (-1)]) ∧ Below w.heap.size w w' := by
 have hbig := S.big
 unfold esv
 go_enter Tryz.func30, Tryz.ntmps30
 go_wp2_with fail
 refine (As_sent w.heap.size (.pointer (some (p i))) _ (by unfold ErrTypeLaid; rw [World.cell?_alloc_past _ _ _ (by omega)]; exact hE) (by simp; omega)).mono ?_
 rintro e w1 ⟨rfl, hb⟩
 have hB : Below w.heap.size w w1 := ((Below.refl w.heap.size w).alloc (Nat.le_refl _) _).trans (hb.mono (by simp))
 have S1 := S.below hB
 obtain ⟨c0, c1, c2, c3, c4, c5, c6, c7, c8, _, _, hbig1⟩ := id S1
 go_wp2_with fail
 have SW := S1.below ((Below.refl _ _).alloc (Nat.le_refl _) (.cells #[esv (p 0), esv (p 1), esv (p 2), esv (p 3), esv (p 4), esv (p 5), esv (p 6), esv (p 7), esv (p 8)] 27))
 have hBW : Below w.heap.size w (w1.alloc (.cells #[esv (p 0), esv (p 1), esv (p 2), esv (p 3), esv (p 4), esv (p 5), esv (p 6), esv (p 7), esv (p 8)] 27)) := hB.alloc hB.size _
 have hnine : ∀ k, k < 9 → (w1.alloc (.cells #[esv (p 0), esv (p 1), esv (p 2), esv (p 3), esv (p 4), esv (p 5), esv (p 6), esv (p 7), esv (p 8)] 27)).cell? ⟨w1.heap.size, k, none⟩ = some (esv (p k)) := fun k hk => by
  rw [World.cell?_alloc_new]; exact nine_get p k hk
 have HN := Lib.hid hnine
 clear hnine c0 c1 c2 c3 c4 c5 c6 c7 c8
 change Code.wp _ _ _ _ (w1.alloc (.cells #[esv (p 0), esv (p 1), esv (p 2), esv (p 3), esv (p 4), esv (p 5), esv (p 6), esv (p 7), esv (p 8)] 27))
 generalize w1.alloc (.cells #[esv (p 0), esv (p 1), esv (p 2), esv (p 3), esv (p 4), esv (p 5), esv (p 6), esv (p 7), esv (p 8)] 27) = W at *
 generalize w1.heap.size = B at *
 go_loop [3, 27] (fun t v => ∃ k : Nat, v = .int .i64 k ∧ t = .int .i64 (-1) ∧ k ≤ i) (fun _ v => i + 1 - (intOf v).toNat)
 case atStart => exact ⟨0, rfl, rfl, Nat.zero_le _⟩
 case round =>
  obtain ⟨k, rfl, rfl, hk⟩ := hrel
  have hk9 : k < 9 := by omega
  have hc := HN.out k hk9
  unfold esv at hc
  by_cases hki : k = i
  ·subst hki
   go_wp2_with fail
   refine (is_same (p k) _).mono ?_
   rintro e w' ⟨rfl, rfl⟩
   go_wp2_with fail
   go_ret2
   exact ⟨rfl, hBW⟩
  ·obtain ⟨ca, ta, ha⟩ := SW.row i hi
   obtain ⟨cb, tb, hb'⟩ := SW.row k hk9
   have hne : p i ≠ p k := fun e => hki (SW.inj _ _ hi hk9 e).symm
   have HA := Lib.hid (And.intro ha hb')
   clear ha hb'
   go_wp2_with fail
   refine (is_other (p i) (p k) ca cb ta tb _ hne HA.out.1 HA.out.2).mono ?_
   rintro e w' ⟨rfl, rfl⟩
   go_wp2_with fail
   go_round
   case rel => exact ⟨k + 1, by go_num, rfl, by omega⟩
   case measure => simp [intOf]; omega
theorem code_fault (p : Nat → Addr) (i : Nat) (hi : i < 9) (N : Nat) (at_ : Int) (w : World) (hN0 : w.cell? ⟨N, 0, none⟩ = some (.int .i64 at_)) (hN1 : w.cell? ⟨N, 1, none⟩ = some (esv (p i))) (S : Sents w p) (hE : ErrTypeLaid w) :
  Calls Tryz.prog 30 #[.iface 90 (.pointer (some ⟨N, 0, none⟩))] w fun e w' => e = .returned (.tuple #[.int .i64 (i + 1), .int .i64 at_]) ∧ Below w.heap.size w w' := by
 have hbig := S.big
 unfold esv at hN1
 have hNlt : N < w.heap.size := World.block_lt_of_cell? w ⟨N, 0, none⟩ hN0
 go_enter Tryz.func30, Tryz.ntmps30
 go_wp2_with fail
 refine (As_fault w.heap.size (.pointer (some ⟨N, 0, none⟩)) (.pointer none) ⟨_, rfl⟩ _ (by simp) (by simp) (by simp) (by unfold ErrTypeLaid; rw [World.cell?_alloc_past _ _ _ (by omega)]; exact hE) (by simp; omega)).mono ?_
 rintro e w1 ⟨rfl, hF, hsz, hb⟩
 have hB : Below w.heap.size w w1 := ((Below.refl w.heap.size w).alloc (Nat.le_refl _) _).trans hb
 have hn0 : w1.cell? ⟨N, 0, none⟩ = some (.int .i64 at_) := (hB.cell (p := ⟨N, 0, none⟩) hNlt).trans hN0
 have hn1 : w1.cell? ⟨N, 1, none⟩ = some (.iface 211 (.pointer (some (p i)))) := (hB.cell (p := ⟨N, 1, none⟩) hNlt).trans hN1
 have HN01 := Lib.hid (And.intro hN0 hN1)
 clear hN0 hN1
 have hNlt1 : N < w1.heap.size := Nat.lt_of_lt_of_le hNlt hB.size
 have S1 := S.below hB
 obtain ⟨c0, c1, c2, c3, c4, c5, c6, c7, c8, _, _, hbig1⟩ := id S1
 go_wp2_with fail
 have SW := S1.below ((Below.refl _ _).alloc (Nat.le_refl _) (.cells #[esv (p 0), esv (p 1), esv (p 2), esv (p 3), esv (p 4), esv (p 5), esv (p 6), esv (p 7), esv (p 8)] 27))
 have hBW : Below w.heap.size w (w1.alloc (.cells #[esv (p 0), esv (p 1), esv (p 2), esv (p 3), esv (p 4), esv (p 5), esv (p 6), esv (p 7), esv (p 8)] 27)) := hB.alloc hB.size _
 have hnine : ∀ k, k < 9 → (w1.alloc (.cells #[esv (p 0), esv (p 1), esv (p 2), esv (p 3), esv (p 4), esv (p 5), esv (p 6), esv (p 7), esv (p 8)] 27)).cell? ⟨w1.heap.size, k, none⟩ = some (esv (p k)) := fun k hk => by
  rw [World.cell?_alloc_new]; exact nine_get p k hk
 have hm1 : (w1.alloc (.cells #[esv (p 0), esv (p 1), esv (p 2), esv (p 3), esv (p 4), esv (p 5), esv (p 6), esv (p 7), esv (p 8)] 27)).cell? ⟨N, 1, none⟩ = some (.iface 211 (.pointer (some (p i)))) := by rw [World.cell?_alloc_past _ _ _ hNlt1]; exact hn1
 clear hn0 hn1 hF hNlt1
 have HN := Lib.hid hnine
 clear hnine c0 c1 c2 c3 c4 c5 c6 c7 c8
 change Code.wp _ _ _ _ (w1.alloc (.cells #[esv (p 0), esv (p 1), esv (p 2), esv (p 3), esv (p 4), esv (p 5), esv (p 6), esv (p 7), esv (p 8)] 27))
 generalize w1.alloc (.cells #[esv (p 0), esv (p 1), esv (p 2), esv (p 3), esv (p 4), esv (p 5), esv (p 6), esv (p 7), esv (p 8)] 27) = W at *
 generalize w1.heap.size = B at *
 go_loop [3, 27] (fun t v => ∃ k : Nat, v = .int .i64 k ∧ t = .int .i64 at_ ∧ k ≤ i) (fun _ v => i + 1 - (intOf v).toNat)
 case atStart => exact ⟨0, rfl, rfl, Nat.zero_le _⟩
 case round =>
  obtain ⟨k, rfl, rfl, hk⟩ := hrel
  have hk9 : k < 9 := by omega
  have hc := HN.out k hk9
  unfold esv at hc
  by_cases hki : k = i
  ·subst hki
   go_wp2_with fail
   refine (is_fault_same N (p k) _ hm1).mono ?_
   rintro e w' ⟨rfl, rfl⟩
   go_wp2_with fail
   go_ret2
   exact ⟨rfl, hBW⟩
  ·obtain ⟨ca, ta, ha⟩ := SW.row i hi
   obtain ⟨cb, tb, hb'⟩ := SW.row k hk9
   have hne : p i ≠ p k := fun e => hki (SW.inj _ _ hi hk9 e).symm
   have HA := Lib.hid (And.intro ha hb')
   clear ha hb'
   go_wp2_with fail
   refine (is_fault_other N (p i) (p k) ca cb ta tb _ hm1 hne HA.out.1 HA.out.2).mono ?_
   rintro e w' ⟨rfl, rfl⟩
   go_wp2_with fail
   go_round
   case rel => exact ⟨k + 1, by go_num, rfl, by omega⟩
   case measure => simp [intOf]; omega
end Go.Proofs.YtnaijgmfjpmpjaaGreatDoor
