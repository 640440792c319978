/- Walks: errors.Is and errors.As at the errors of package api: sentinels, faults that wrap one, errors of errors.New's make. -/
import Derived.Test.YtpgailcmohojmaaDoorProg
import Derived.Test.YtpgailcmohojmaaDoorKn
import Derived.LaidEql
import Derived.Stop.Asserts
import Derived.RowKitTokens
namespace Go.Proofs.YtpgailcmohojmaaDoor
open Go.RowKit Go.Extern.Stop Go.Stop Go.Extern

/-- reflectlite's word for a type. -/
def rty (t : Nat) : Value := .agg #[.pointer (some ⟨25, t, none⟩)]
theorem rt_comparable (w : World) : (callFunc 270 #[.agg #[.pointer (some ⟨25, 129, none⟩)]]).run Tryd.prog w = .ok (.value (.bool true)) w := by kernel_rfl
theorem typeOf_es (v : Value) (w : World) : (callFunc 143 #[.iface 129 v]).run Tryd.prog w = .ok (.value (.iface 278 (rty 129))) w := by kernel_rfl
theorem es_comp : (Tryd.prog.info? 129).map (·.comparable) = some true := by kernel_rfl
theorem es_size : (Tryd.prog.info? 131).map (·.size) = some 1 := by kernel_rfl

theorem noIsE (v : Value) (xT : TypeId) (w : World) : (Instr.typeAssert (.iface 129 v) xT 289 true).run Tryd.prog w = .ok (.tuple #[.nilIface, .bool false]) w := run_typeAssert_lacksB Tryd.underlying289 (by kernel_rfl) (by kernel_rfl) v xT w
theorem noUnwrapE (v : Value) (xT : TypeId) (w : World) : (Instr.typeAssert (.iface 129 v) xT 285 true).run Tryd.prog w = .ok (.tuple #[.nilIface, .bool false]) w := run_typeAssert_lacksB Tryd.underlying285 (by kernel_rfl) (by kernel_rfl) v xT w
theorem noUnwrapsE (v : Value) (xT : TypeId) (w : World) : (Instr.typeAssert (.iface 129 v) xT 287 true).run Tryd.prog w = .ok (.tuple #[.nilIface, .bool false]) w := run_typeAssert_lacksB Tryd.underlying287 (by kernel_rfl) (by kernel_rfl) v xT w
theorem noAsE (v : Value) (xT : TypeId) (w : World) : (Instr.typeAssert (.iface 129 v) xT 282 true).run Tryd.prog w = .ok (.tuple #[.nilIface, .bool false]) w := run_typeAssert_lacksB Tryd.underlying282 (by kernel_rfl) (by kernel_rfl) v xT w
theorem noIsF (v : Value) (xT : TypeId) (w : World) : (Instr.typeAssert (.iface 30 v) xT 289 true).run Tryd.prog w = .ok (.tuple #[.nilIface, .bool false]) w := run_typeAssert_lacksB Tryd.underlying289 (by kernel_rfl) (by kernel_rfl) v xT w
theorem hasUnwrapF (v : Value) (xT : TypeId) (w : World) : (Instr.typeAssert (.iface 30 v) xT 285 true).run Tryd.prog w = .ok (.tuple #[.iface 30 v, .bool true]) w := run_typeAssert_hasB Tryd.underlying285 (by kernel_rfl) v xT w

set_option maxRecDepth 100000 in
/-- errors.Is(x, x), x a pointer to an errors.errorString. -/
theorem is_same (a : Addr) (w : World) :
    Calls Tryd.prog 68 #[.iface 129 (.pointer (some a)), .iface 129 (.pointer (some a))] w fun e w' => e = .returned (.bool true) ∧ w = w' := by
  obtain ⟨i, hi, hcmp⟩ := Option.map_eq_some_iff.1 es_comp
  obtain ⟨j, hj, hjs⟩ := Option.map_eq_some_iff.1 es_size
  have h8 := typeOf_es
  have h32 := rt_comparable
  have heq := run_eql_iface_ptr_same (P := Tryd.prog) w a Tryd.underlying25 Tryd.underlying129 hi hcmp hj
  go_enter Tryd.func68, Tryd.ntmps68
  go_wp2
  refine wp_loop_rounds 1 ?_
  rw [rounds_succ]
  go_wp2
  go_ret
  exact ⟨rfl, rfl⟩

set_option maxRecDepth 100000 in
/-- errors.Is(x, y), two different pointers to errors.errorString. -/
theorem is_other (a b : Addr) (ca cb : Array Value) (ta tb : TypeId) (w : World) (hne : a ≠ b) (ha : w.heap[a.block]? = some (.cells ca ta (0, 0))) (hb : w.heap[b.block]? = some (.cells cb tb (0, 0))) :
    Calls Tryd.prog 68 #[.iface 129 (.pointer (some a)), .iface 129 (.pointer (some b))] w fun e w' => e = .returned (.bool false) ∧ w = w' := by
  obtain ⟨i, hi, hcmp⟩ := Option.map_eq_some_iff.1 es_comp
  obtain ⟨j, hj, hjs⟩ := Option.map_eq_some_iff.1 es_size
  have h8 := typeOf_es
  have h32 := rt_comparable
  have nE := noIsE
  have uE := noUnwrapE
  have vE := noUnwrapsE
  have heq := run_eql_iface_ptr_other (P := Tryd.prog) w Tryd.underlying25 Tryd.underlying129 hi hcmp hj (by rw [hjs]; decide) hne ha hb
  clear ha hb hne
  go_enter Tryd.func68, Tryd.ntmps68
  go_wp2
  refine wp_loop_rounds 1 ?_
  rw [rounds_succ]
  go_wp2
  go_ret
  exact ⟨rfl, rfl⟩

set_option maxRecDepth 100000 in
theorem unwrap_any (n : Nat) (v : Value) (w : World) (h1 : w.cell? ⟨n, 1, none⟩ = some v) :
    Calls Tryd.prog 262 #[.pointer (some ⟨n, 0, none⟩)] w fun e w' => e = .returned v ∧ w = w' := by
  go_enter Tryd.func262, Tryd.ntmps262
  go_wp2
  go_ret
  exact ⟨rfl, rfl⟩

set_option maxRecDepth 100000 in
/-- errors.Is(f, x), f a fault that wraps x itself. -/
theorem is_fault_same (n : Nat) (b : Addr) (w : World) (h1 : w.cell? ⟨n, 1, none⟩ = some (.iface 129 (.pointer (some b)))) :
    Calls Tryd.prog 68 #[.iface 30 (.pointer (some ⟨n, 0, none⟩)), .iface 129 (.pointer (some b))] w fun e w' => e = .returned (.bool true) ∧ w = w' := by
  obtain ⟨i, hi, hcmp⟩ := Option.map_eq_some_iff.1 es_comp
  obtain ⟨j, hj, hjs⟩ := Option.map_eq_some_iff.1 es_size
  have h8 := typeOf_es
  have h32 := rt_comparable
  have nF := noIsF
  have uF := hasUnwrapF
  have heq := run_eql_iface_ptr_same (P := Tryd.prog) w b Tryd.underlying25 Tryd.underlying129 hi hcmp hj
  have hty := run_eql_iface_types (P := Tryd.prog) 30 129 (.pointer (some ⟨n, 0, none⟩)) (.pointer (some b)) Tryd.underlying25 (by decide) w
  go_enter Tryd.func68, Tryd.ntmps68
  go_wp2
  refine wp_loop_rounds 2 ?_
  rw [rounds_succ]
  go_wp2
  rw [rounds_succ]
  go_wp2
  go_ret
  exact ⟨rfl, rfl⟩

set_option maxRecDepth 100000 in
/-- errors.Is(f, x), f a fault that wraps another error of errors.New's make. -/
theorem is_fault_other (n : Nat) (a b : Addr) (ca cb : Array Value) (ta tb : TypeId) (w : World) (h1 : w.cell? ⟨n, 1, none⟩ = some (.iface 129 (.pointer (some a)))) (hne : a ≠ b) (ha : w.heap[a.block]? = some (.cells ca ta (0, 0))) (hb : w.heap[b.block]? = some (.cells cb tb (0, 0))) :
    Calls Tryd.prog 68 #[.iface 30 (.pointer (some ⟨n, 0, none⟩)), .iface 129 (.pointer (some b))] w fun e w' => e = .returned (.bool false) ∧ w = w' := by
  obtain ⟨i, hi, hcmp⟩ := Option.map_eq_some_iff.1 es_comp
  obtain ⟨j, hj, hjs⟩ := Option.map_eq_some_iff.1 es_size
  have h8 := typeOf_es
  have h32 := rt_comparable
  have nE := noIsE
  have uE := noUnwrapE
  have vE := noUnwrapsE
  have nF := noIsF
  have uF := hasUnwrapF
  have heq := run_eql_iface_ptr_other (P := Tryd.prog) w Tryd.underlying25 Tryd.underlying129 hi hcmp hj (by rw [hjs]; decide) hne ha hb
  have hty := run_eql_iface_types (P := Tryd.prog) 30 129 (.pointer (some ⟨n, 0, none⟩)) (.pointer (some b)) Tryd.underlying25 (by decide) w
  clear ha hb hne
  go_enter Tryd.func68, Tryd.ntmps68
  go_wp2
  refine wp_loop_rounds 2 ?_
  rw [rounds_succ]
  go_wp2
  rw [rounds_succ]
  go_wp2
  go_ret
  exact ⟨rfl, rfl⟩
end Go.Proofs.YtpgailcmohojmaaDoor
