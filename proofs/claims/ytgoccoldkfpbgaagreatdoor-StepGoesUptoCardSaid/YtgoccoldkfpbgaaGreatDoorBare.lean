/- Walks: lustrumlaw2.bare. -/
import Derived.Test.YtgoccoldkfpbgaaGreatDoorProg
import Derived.Test.YtgoccoldkfpbgaaGreatDoorEx
import Derived.Test.YtgoccoldkfpbgaaGreatDoorMx
import Derived.Lib.Hide
import Derived.WalkKit
import Derived.Test.YtgoccoldkfpbgaaGreatDoorRg
import Derived.LaidEql
import Derived.Stop.Asserts
import Derived.RowKitTokens
import Derived.Laws.Externs
import Derived.Test.YtgoccoldkfpbgaaGreatDoorRh
import Derived.ProofKit
import Derived.Stop.LaidErr
import Derived.SliceStrings
import Derived.LaidHandle
import Derived.OpenShut
import Derived.Test.YtgoccoldkfpbgaaGreatDoorRows
set_option linter.all false
namespace Go.Proofs.YtgoccoldkfpbgaaGreatDoor
set_option maxRecDepth 100000
set_option maxHeartbeats 16000000
open Mx
def Zet:Pr:=⟨[],[⟨#[120]⟩],[⟨⟨#[120]⟩,1,.mk Zc2 0 ⟨#[]⟩ []⟩],[],[]⟩
open Go.RowKit Mx
theorem lbare_any (w:World):
  Calls Tryz.prog 28 #[] w fun r w'=>∃ vi vo vl va vc,r = .returned (.agg #[vi,vo,vl,va,vc])∧PrP (Zag w') Zet vi vo vl va vc∧Below w.heap.size w w':=by
 go_enter Tryz.func28,Tryz.ntmps28
 go_wp2_with fail
 have hb:Below w.heap.size w (((w.alloc (.cells #[.slice none 0 0,.slice (some ⟨w.heap.size+1,0,none⟩) 1 1,.slice (some ⟨w.heap.size+1+1,0,none⟩) 1 1,.slice none 0 0,.slice none 0 0] 41)).alloc (.cells #[.string ⟨#[120]⟩] 9)).alloc (.cells #[.string ⟨#[120]⟩,.int .i64 1,.string ⟨#[116,114,117,101]⟩,.int .i64 0,.string ⟨#[]⟩,.slice none 0 0] 100)):=by go_grown
 have h1:∀ i,(((w.alloc (.cells #[.slice none 0 0,.slice (some ⟨w.heap.size+1,0,none⟩) 1 1,.slice (some ⟨w.heap.size+1+1,0,none⟩) 1 1,.slice none 0 0,.slice none 0 0] 41)).alloc (.cells #[.string ⟨#[120]⟩] 9)).alloc (.cells #[.string ⟨#[120]⟩,.int .i64 1,.string ⟨#[116,114,117,101]⟩,.int .i64 0,.string ⟨#[]⟩,.slice none 0 0] 100)).cell? ⟨w.heap.size,i,none⟩=(#[.slice none 0 0,.slice (some ⟨w.heap.size+1,0,none⟩) 1 1,.slice (some ⟨w.heap.size+1+1,0,none⟩) 1 1,.slice none 0 0,.slice none 0 0]:Array Value)[i]?:=fun i=>by
  rw [World.cell?_alloc_past _ _ _ (by simp;omega),World.cell?_alloc_past _ _ _ (by simp),World.cell?_alloc_new]
 have h2:∀ i,(((w.alloc (.cells #[.slice none 0 0,.slice (some ⟨w.heap.size+1,0,none⟩) 1 1,.slice (some ⟨w.heap.size+1+1,0,none⟩) 1 1,.slice none 0 0,.slice none 0 0] 41)).alloc (.cells #[.string ⟨#[120]⟩] 9)).alloc (.cells #[.string ⟨#[120]⟩,.int .i64 1,.string ⟨#[116,114,117,101]⟩,.int .i64 0,.string ⟨#[]⟩,.slice none 0 0] 100)).cell? ⟨w.heap.size+1,i,none⟩=(#[.string ⟨#[120]⟩]:Array Value)[i]?:=fun i=>by
  rw [World.cell?_alloc_past _ _ _ (by simp)]
  have:=World.cell?_alloc_new (w:=w.alloc (.cells #[.slice none 0 0,.slice (some ⟨w.heap.size+1,0,none⟩) 1 1,.slice (some ⟨w.heap.size+1+1,0,none⟩) 1 1,.slice none 0 0,.slice none 0 0] 41)) #[.string ⟨#[120]⟩] 9 i
  rw [World.size_alloc] at this
  exact this
 have h3:∀ i,(((w.alloc (.cells #[.slice none 0 0,.slice (some ⟨w.heap.size+1,0,none⟩) 1 1,.slice (some ⟨w.heap.size+1+1,0,none⟩) 1 1,.slice none 0 0,.slice none 0 0] 41)).alloc (.cells #[.string ⟨#[120]⟩] 9)).alloc (.cells #[.string ⟨#[120]⟩,.int .i64 1,.string ⟨#[116,114,117,101]⟩,.int .i64 0,.string ⟨#[]⟩,.slice none 0 0] 100)).cell? ⟨w.heap.size+1+1,i,none⟩=(#[.string ⟨#[120]⟩,.int .i64 1,.string ⟨#[116,114,117,101]⟩,.int .i64 0,.string ⟨#[]⟩,.slice none 0 0]:Array Value)[i]?:=fun i=>by
  have:=World.cell?_alloc_new (w:=(w.alloc (.cells #[.slice none 0 0,.slice (some ⟨w.heap.size+1,0,none⟩) 1 1,.slice (some ⟨w.heap.size+1+1,0,none⟩) 1 1,.slice none 0 0,.slice none 0 0] 41)).alloc (.cells #[.string ⟨#[120]⟩] 9)) #[.string ⟨#[120]⟩,.int .i64 1,.string ⟨#[116,114,117,101]⟩,.int .i64 0,.string ⟨#[]⟩,.slice none 0 0] 100 i
  rw [World.size_alloc,World.size_alloc] at this
  exact this
 generalize ((w.alloc (.cells #[.slice none 0 0,.slice (some ⟨w.heap.size+1,0,none⟩) 1 1,.slice (some ⟨w.heap.size+1+1,0,none⟩) 1 1,.slice none 0 0,.slice none 0 0] 41)).alloc (.cells #[.string ⟨#[120]⟩] 9)).alloc (.cells #[.string ⟨#[120]⟩,.int .i64 1,.string ⟨#[116,114,117,101]⟩,.int .i64 0,.string ⟨#[]⟩,.slice none 0 0] 100)=W at *
 have q0:=h1 0
 have q1:=h1 1
 have q2:=h1 2
 have q3:=h1 3
 have q4:=h1 4
 simp at q0 q1 q2 q3 q4
 refine bodyPost_ret (v := .agg #[.slice none 0 0,.slice (some ⟨w.heap.size+1,0,none⟩) 1 1,.slice (some ⟨w.heap.size+1+1,0,none⟩) 1 1,.slice none 0 0,.slice none 0 0]) (by simp [results,Tryz.results28,go_sem,q0,q1,q2,q3,q4]) rfl ?_
 refine⟨_,_,_,_,_,rfl,⟨.inl ⟨rfl,none,0,rfl⟩,.inr ⟨_,0,1,rfl,by simp [Zet],by unfold maxLen;omega,fun i hi=>?_⟩,.inr ⟨_,0,1,rfl,by simp [Zet],by unfold maxLen;omega,fun i hi=>?_⟩,.inl ⟨rfl,none,0,rfl⟩,.inl ⟨rfl,none,0,rfl⟩⟩,hb⟩
 ·obtain rfl:i=0:=by simpa [Zet] using hi
  show (Zag W).cell _ _=_
  rw [Zad,h2]
  rfl
 obtain rfl:i=0:=by simpa [Zet] using hi
 refine⟨?_,?_,?_,?_,?_,.inl ⟨rfl,none,0,?_⟩⟩
 all_goals show (Zag W).cell _ _=_
 all_goals rw [Zad,h3]
 all_goals rfl
open Go.RowKit Go.Extern.Stop Go.Stop Go.Extern
def rty (t:Nat):Value := .agg #[.pointer (some ⟨11,t,none⟩)]
theorem Zd6 (w:World):(callFunc 160 #[.agg #[.pointer (some ⟨11,232,none⟩)]]).run Tryz.prog w = .ok (.value (.bool true)) w:=by kernel_rfl
theorem Zfz (v:Value) (w:World):(callFunc 91 #[.iface 232 v]).run Tryz.prog w = .ok (.value (.iface 202 (rty 232))) w:=by kernel_rfl
theorem es_comp:(Tryz.prog.info? 232).map (·.comparable)=some true:=by kernel_rfl
theorem es_size:(Tryz.prog.info? 255).map (·.size)=some 1:=by kernel_rfl
theorem noIsE (v:Value) (xT:TypeId) (w:World):(Instr.typeAssert (.iface 232 v) xT 213 true).run Tryz.prog w = .ok (.tuple #[.nilIface,.bool false]) w:=run_typeAssert_lacksB Tryz.underlying213 (by kernel_rfl) (by kernel_rfl) v xT w
theorem noUnwrapE (v:Value) (xT:TypeId) (w:World):(Instr.typeAssert (.iface 232 v) xT 209 true).run Tryz.prog w = .ok (.tuple #[.nilIface,.bool false]) w:=run_typeAssert_lacksB Tryz.underlying209 (by kernel_rfl) (by kernel_rfl) v xT w
theorem Ziw (v:Value) (xT:TypeId) (w:World):(Instr.typeAssert (.iface 232 v) xT 211 true).run Tryz.prog w = .ok (.tuple #[.nilIface,.bool false]) w:=run_typeAssert_lacksB Tryz.underlying211 (by kernel_rfl) (by kernel_rfl) v xT w
theorem noAsE (v:Value) (xT:TypeId) (w:World):(Instr.typeAssert (.iface 232 v) xT 206 true).run Tryz.prog w = .ok (.tuple #[.nilIface,.bool false]) w:=run_typeAssert_lacksB Tryz.underlying206 (by kernel_rfl) (by kernel_rfl) v xT w
theorem noIsF (v:Value) (xT:TypeId) (w:World):(Instr.typeAssert (.iface 84 v) xT 213 true).run Tryz.prog w = .ok (.tuple #[.nilIface,.bool false]) w:=run_typeAssert_lacksB Tryz.underlying213 (by kernel_rfl) (by kernel_rfl) v xT w
theorem hasUnwrapF (v:Value) (xT:TypeId) (w:World):(Instr.typeAssert (.iface 84 v) xT 209 true).run Tryz.prog w = .ok (.tuple #[.iface 84 v,.bool true]) w:=run_typeAssert_hasB Tryz.underlying209 (by kernel_rfl) v xT w
theorem is_same (a:Addr) (w:World):
  Calls Tryz.prog 66 #[.iface 232 (.pointer (some a)),.iface 232 (.pointer (some a))] w fun e w'=>e = .returned (.bool true)∧w=w':=by
 obtain⟨i,hi,hcmp⟩:=Option.map_eq_some_iff.1 es_comp
 obtain⟨j,hj,hjs⟩:=Option.map_eq_some_iff.1 es_size
 have h8:=Zfz
 have h32:=Zd6
 have heq:=run_eql_iface_ptr_same (P:=Tryz.prog) w a Tryz.underlying34 Tryz.underlying232 hi hcmp hj
 go_enter Tryz.func66,Tryz.ntmps66
 go_wp2
 refine wp_loop_rounds 1 ?_
 rw [rounds_succ]
 go_wp2
 go_ret
 exact⟨rfl,rfl⟩
theorem is_other (a b:Addr) (ca cb:Array Value) (ta tb:TypeId) (w:World) (hne:a≠b) (ha:w.heap[a.block]?=some (.cells ca ta (0,0))) (hb:w.heap[b.block]?=some (.cells cb tb (0,0))):
  Calls Tryz.prog 66 #[.iface 232 (.pointer (some a)),.iface 232 (.pointer (some b))] w fun e w'=>e = .returned (.bool false)∧w=w':=by
 obtain⟨i,hi,hcmp⟩:=Option.map_eq_some_iff.1 es_comp
 obtain⟨j,hj,hjs⟩:=Option.map_eq_some_iff.1 es_size
 have h8:=Zfz
 have h32:=Zd6
 have nE:=noIsE
 have uE:=noUnwrapE
 have vE:=Ziw
 have heq:=run_eql_iface_ptr_other (P:=Tryz.prog) w Tryz.underlying34 Tryz.underlying232 hi hcmp hj (by rw [hjs];decide) hne ha hb
 clear ha hb hne
 go_enter Tryz.func66,Tryz.ntmps66
 go_wp2
 refine wp_loop_rounds 1 ?_
 rw [rounds_succ]
 go_wp2
 go_ret
 exact⟨rfl,rfl⟩
theorem is_fault_same (n:Nat) (b:Addr) (w:World) (h1:w.cell? ⟨n,1,none⟩=some (.iface 232 (.pointer (some b)))):
  Calls Tryz.prog 66 #[.iface 84 (.pointer (some ⟨n,0,none⟩)),.iface 232 (.pointer (some b))] w fun e w'=>e = .returned (.bool true)∧w=w':=by
 obtain⟨i,hi,hcmp⟩:=Option.map_eq_some_iff.1 es_comp
 obtain⟨j,hj,hjs⟩:=Option.map_eq_some_iff.1 es_size
 have h8:=Zfz
 have h32:=Zd6
 have nF:=noIsF
 have uF:=hasUnwrapF
 have heq:=run_eql_iface_ptr_same (P:=Tryz.prog) w b Tryz.underlying34 Tryz.underlying232 hi hcmp hj
 have hty:=run_eql_iface_types (P:=Tryz.prog) 84 232 (.pointer (some ⟨n,0,none⟩)) (.pointer (some b)) Tryz.underlying34 (by decide) w
 go_enter Tryz.func66,Tryz.ntmps66
 go_wp2
 refine wp_loop_rounds 2 ?_
 rw [rounds_succ]
 go_wp2
 rw [rounds_succ]
 go_wp2
 go_ret
 exact⟨rfl,rfl⟩
theorem is_fault_other (n:Nat) (a b:Addr) (ca cb:Array Value) (ta tb:TypeId) (w:World) (h1:w.cell? ⟨n,1,none⟩=some (.iface 232 (.pointer (some a)))) (hne:a≠b) (ha:w.heap[a.block]?=some (.cells ca ta (0,0))) (hb:w.heap[b.block]?=some (.cells cb tb (0,0))):
  Calls Tryz.prog 66 #[.iface 84 (.pointer (some ⟨n,0,none⟩)),.iface 232 (.pointer (some b))] w fun e w'=>e = .returned (.bool false)∧w=w':=by
 obtain⟨i,hi,hcmp⟩:=Option.map_eq_some_iff.1 es_comp
 obtain⟨j,hj,hjs⟩:=Option.map_eq_some_iff.1 es_size
 have h8:=Zfz
 have h32:=Zd6
 have nE:=noIsE
 have uE:=noUnwrapE
 have vE:=Ziw
 have nF:=noIsF
 have uF:=hasUnwrapF
 have heq:=run_eql_iface_ptr_other (P:=Tryz.prog) w Tryz.underlying34 Tryz.underlying232 hi hcmp hj (by rw [hjs];decide) hne ha hb
 have hty:=run_eql_iface_types (P:=Tryz.prog) 84 232 (.pointer (some ⟨n,0,none⟩)) (.pointer (some b)) Tryz.underlying34 (by decide) w
 clear ha hb hne
 go_enter Tryz.func66,Tryz.ntmps66
 go_wp2
 refine wp_loop_rounds 2 ?_
 rw [rounds_succ]
 go_wp2
 rw [rounds_succ]
 go_wp2
 go_ret
 exact⟨rfl,rfl⟩
theorem as_valueOf (v:Value) (w:World) (hv:∃ p,v = .pointer p):(callFunc 87 #[.iface 147 v]).run Tryz.prog w = .ok (.value (.agg #[.pointer (some ⟨11,147,none⟩),.pointer (some ⟨w.heap.size,0,none⟩),.int .u64 150])) (w.alloc (.cells #[v] 147)):=by
 obtain⟨p,rfl⟩:=hv
 kernel_rfl
theorem as_valueOfF (v:Value) (w:World) (hv:∃ p,v = .pointer p):(callFunc 87 #[.iface 84 v]).run Tryz.prog w = .ok (.value (.agg #[.pointer (some ⟨11,84,none⟩),.pointer (some ⟨w.heap.size,0,none⟩),.int .u64 150])) (w.alloc (.cells #[v] 84)):=by
 obtain⟨p,rfl⟩:=hv
 kernel_rfl
theorem as_type (p:Value) (a:Addr) (hp:p = .pointer (some a)) (w:World):(callFunc 88 #[.agg #[.pointer (some ⟨11,147,none⟩),p,.int .u64 150]]).run Tryz.prog w = .ok (.value (.iface 202 (rty 147))) w:=by
 subst hp;kernel_rfl
theorem as_kindPP (w:World):(callFunc 149 #[.pointer (some ⟨11,147,none⟩)]).run Tryz.prog w = .ok (.value (.int .u8 22)) w:=by kernel_rfl
theorem as_kindP (w:World):(callFunc 149 #[.pointer (some ⟨11,84,none⟩)]).run Tryz.prog w = .ok (.value (.int .u8 22)) w:=by kernel_rfl
theorem as_elem (w:World):(callFunc 161 #[.agg #[.pointer (some ⟨11,147,none⟩)]]).run Tryz.prog w = .ok (.value (.iface 202 (rty 84))) w:=by kernel_rfl
theorem as_impl (w:World):(callFunc 162 #[.agg #[.pointer (some ⟨11,84,none⟩)],.iface 202 (.agg #[.pointer (some ⟨11,34,none⟩)])]).run Tryz.prog w = .ok (.value (.bool true)) w:=by kernel_rfl
theorem typeOf_f (v:Value) (w:World):(callFunc 91 #[.iface 84 v]).run Tryz.prog w = .ok (.value (.iface 202 (rty 84))) w:=by kernel_rfl
theorem as_assF (w:World):(callFunc 159 #[.agg #[.pointer (some ⟨11,84,none⟩)],.iface 202 (rty 84)]).run Tryz.prog w = .ok (.value (.bool true)) w:=by kernel_rfl
theorem as_assE (w:World):(callFunc 159 #[.agg #[.pointer (some ⟨11,232,none⟩)],.iface 202 (rty 84)]).run Tryz.prog w = .ok (.value (.bool false)) w:=by kernel_rfl
theorem el_PP (w:World):(Rtype.elem? 147).run Tryz.prog w = .ok (some 84) w:=by kernel_rfl
theorem da_P (w:World):(Rtype.directlyAssignable 84 84).run Tryz.prog w = .ok true w:=by kernel_rfl
theorem lv_PP (a:Addr) (v:Value) (w:World) (hc:w.cell? a=some v):(loadVar 147 a).run Tryz.prog w = .ok v w:=by
 simp [loadVar,hc,go_sem,Tryz.isAgg147]
theorem lv_P (a:Addr) (v:Value) (w:World) (hc:w.cell? a=some v):(loadVar 84 a).run Tryz.prog w = .ok v w:=by
 simp [loadVar,hc,go_sem,Tryz.isAgg84]
theorem rv_method (zero:Sem Value) (f:TypeId→Addr→Nat→Nat→Sem Value) (v:Value):ReflectliteValue.method zero f #[v]=(do
  match ← ReflectliteValue.parts v with
  | none=>zero
  | some (t,a,fl)=>f t a fl (fl % 32)):=rfl
theorem pt_PP (a:Addr) (w:World):(ReflectliteValue.parts (.agg #[.pointer (some ⟨11,147,none⟩),.pointer (some a),.int .u64 150])).run Tryz.prog w = .ok (some (147,a,150)) w:=by kernel_rfl
theorem pt_P (a:Addr) (w:World):(ReflectliteValue.parts (.agg #[.pointer (some ⟨11,84,none⟩),.pointer (some a),.int .u64 150])).run Tryz.prog w = .ok (some (84,a,150)) w:=by kernel_rfl
theorem pt_PA (a:Addr) (w:World):(ReflectliteValue.parts (.agg #[.pointer (some ⟨11,84,none⟩),.pointer (some a),.int .u64 406])).run Tryz.prog w = .ok (some (84,a,406)) w:=by kernel_rfl
theorem sv_P (a:Addr) (x v:Value) (w:World) (hx:w.cell? a=some x) (hf:w.frozen? a=false) (hv:∃ p,v = .pointer p):(storeVar 84 a v).run Tryz.prog w = .ok () (w.setCell a v):=by
 obtain⟨p,rfl⟩:=hv
 simp [storeVar,storeCells,hx,hf,go_sem,Tryz.sizeOf84]
theorem mk_P (p:Addr) (w:World):(ReflectliteValue.mk 84 p ReflectliteValue.flagAddr).run Tryz.prog w = .ok (.agg #[.pointer (some ⟨11,84,none⟩),.pointer (some p),.int .u64 406]) w:=by kernel_rfl
theorem as_isNil (V:Nat) (p:Addr) (w:World) (hc:w.cell? ⟨V,0,none⟩=some (.pointer (some p))):(callFunc 89 #[.agg #[.pointer (some ⟨11,147,none⟩),.pointer (some ⟨V,0,none⟩),.int .u64 150]]).run Tryz.prog w = .ok (.value (.bool false)) w:=by
 rw [run_callFunc_extern Tryz.func89 (by kernel_rfl) (by kernel_rfl) (by kernel_rfl) (e:=ReflectliteValue.method (ReflectliteValue.valueError "reflectlite.Value.IsNil" 0) ReflectliteValue.isNil) (by kernel_rfl),rv_method]
 simp only [Sem.run_bind,pt_PP,Result.andThen_ok]
 show ((ReflectliteValue.isNil 147 ⟨V,0,none⟩ 150 22).run Tryz.prog w).andThen _=_
 unfold ReflectliteValue.isNil
 simp [lv_PP _ _ _ hc]
theorem as_velem (V:Nat) (p:Addr) (w:World) (hc:w.cell? ⟨V,0,none⟩=some (.pointer (some p))):(callFunc 109 #[.agg #[.pointer (some ⟨11,147,none⟩),.pointer (some ⟨V,0,none⟩),.int .u64 150]]).run Tryz.prog w = .ok (.value (.agg #[.pointer (some ⟨11,84,none⟩),.pointer (some p),.int .u64 406])) w:=by
 rw [run_callFunc_extern Tryz.func109 (by kernel_rfl) (by kernel_rfl) (by kernel_rfl) (e:=ReflectliteValue.method (ReflectliteValue.valueError "reflectlite.Value.Elem" 0) ReflectliteValue.elem) (by kernel_rfl),rv_method]
 simp only [Sem.run_bind,pt_PP,Result.andThen_ok]
 show ((ReflectliteValue.elem 147 ⟨V,0,none⟩ 150 22).run Tryz.prog w).andThen _=_
 unfold ReflectliteValue.elem
 simp [lv_PP _ _ _ hc,el_PP,mk_P]
theorem as_set (F V:Addr) (x v:Value) (w:World) (hv:w.cell? V=some v) (hp:∃ p,v = .pointer p) (hx:w.cell? F=some x) (hf:w.frozen? F=false):
  (callFunc 110 #[.agg #[.pointer (some ⟨11,84,none⟩),.pointer (some F),.int .u64 406],.agg #[.pointer (some ⟨11,84,none⟩),.pointer (some V),.int .u64 150]]).run Tryz.prog w = .ok (.value (.tuple #[])) (w.setCell F v):=by
 rw [run_callFunc_extern Tryz.func110 (by kernel_rfl) (by kernel_rfl) (by kernel_rfl) (e:=ReflectliteValue.set) (by kernel_rfl)]
 have e:∀ a b:Value,ReflectliteValue.set #[a,b]=(do
  let (some (dst,a,fl),some (src,b,_)):=(← ReflectliteValue.parts a,← ReflectliteValue.parts b)
   | unsupported (.noEntry "extern/(internal/reflectlite.Value).Set.zeroValue")
  if fl / ReflectliteValue.flagAddr % 2==0 then unsupported (.noEntry "extern/(internal/reflectlite.Value).Set.unaddressable")
  let val ← loadVar src b
  if ← Rtype.directlyAssignable dst src then storeVar dst a val
  else if ← Rtype.implements dst src then
   if (← Rtype.kind src)==20 then
    match val with
    | .nilIface=>unsupported (.noEntry "extern/reflectlite: a nil value of one interface type handed on as a value of another")
    | _=>storeVar dst a val
   else storeVar dst a (.iface src val)
  else panicString ("reflectlite.Set: value of type " ++ (← Rtype.spelt src) ++ " is not assignable to type " ++ (← Rtype.spelt dst))
  pure (.tuple #[])):=fun _ _=>rfl
 rw [e]
 simp [pt_PA,pt_P,lv_P _ _ _ hv,da_P,sv_P _ _ _ _ hx hf hp,ReflectliteValue.flagAddr]
def Za3 (w:World):Prop:=w.cell? ⟨9,0,none⟩=some (.iface 202 (.agg #[.pointer (some ⟨11,34,none⟩)]))
theorem Zfo {w:World} (o:Obj) {n:Nat} (i:Nat) (h:n<w.heap.size):(w.alloc o).frozen? ⟨n,i,none⟩=w.frozen? ⟨n,i,none⟩:=
 World.frozen?_of_block (w:=w) (Below.heap_alloc w o n h)
theorem as_fault (F:Nat) (a x:Value) (hav:∃ p,a = .pointer p) (V:Nat) (w:World) (hv:w.cell? ⟨V,0,none⟩=some (.pointer (some ⟨F,0,none⟩))) (hx:w.cell? ⟨F,0,none⟩=some x) (hf:w.frozen? ⟨F,0,none⟩=false) (hF:F<w.heap.size) (hV:V<w.heap.size):
  Calls Tryz.prog 90 #[.iface 84 a,.iface 147 (.pointer (some ⟨F,0,none⟩)),.agg #[.pointer (some ⟨11,147,none⟩),.pointer (some ⟨V,0,none⟩),.int .u64 150],.iface 202 (rty 84)] w
   fun e w'=>e = .returned (.bool true)∧w'.cell? ⟨F,0,none⟩=some a∧w.heap.size≤w'.heap.size∧Below F w w':=by
 obtain⟨p,rfl⟩:=hav
 have k1:=typeOf_f
 have k2:=as_assF
 have k3:=fun w=>as_valueOfF (.pointer p) w ⟨p,rfl⟩
 have k4:=fun o=>as_velem V ⟨F,0,none⟩ (w.alloc o) (by rw [World.cell?_alloc_past _ _ _ hV];exact hv)
 have k5:=fun o=>as_set ⟨F,0,none⟩ ⟨w.heap.size+1,0,none⟩ x (.pointer p) ((w.alloc o).alloc (.cells #[.pointer p] 84)) (by simp) ⟨p,rfl⟩ (by rw [World.cell?_alloc_past _ _ _ (by simp;omega),World.cell?_alloc_past _ _ _ hF];exact hx) (by rw [Zfo _ _ (by simp;omega),Zfo _ _ hF];exact hf)
 go_enter Tryz.func90,Tryz.ntmps90
 go_wp2_with fail
 refine wp_loop_rounds 1 ?_
 rw [rounds_succ]
 go_wp2_with fail
 go_ret
 have hs:(w.setCell ⟨F,0,none⟩ (.pointer p)).heap.size=w.heap.size:=World.size_setCell _ _ _
 refine⟨rfl,?_,by rw [World.size_alloc,World.size_alloc,hs];omega,(((Below.refl F w).setCell (Nat.le_refl _) _).alloc (by rw [hs];omega) _).alloc (by rw [World.size_alloc,hs];omega) _⟩
 rw [World.cell?_alloc_past _ _ _ (by rw [World.size_alloc,hs];omega),World.cell?_alloc_past _ _ _ (by rw [hs];exact hF),World.cell?_setCell_same' _ _ _ (by rw [hx];rfl)]
theorem as_sent (F:Nat) (a:Value) (V:Nat) (w:World):
  Calls Tryz.prog 90 #[.iface 232 a,.iface 147 (.pointer (some ⟨F,0,none⟩)),.agg #[.pointer (some ⟨11,147,none⟩),.pointer (some ⟨V,0,none⟩),.int .u64 150],.iface 202 (rty 84)] w
   fun e w'=>e = .returned (.bool false)∧Below w.heap.size w w':=by
 have k1:=Zfz
 have k2:=as_assE
 have nA:=noAsE
 have uE:=noUnwrapE
 have vE:=Ziw
 go_enter Tryz.func90,Tryz.ntmps90
 go_wp2_with fail
 refine wp_loop_rounds 1 ?_
 rw [rounds_succ]
 go_wp2_with fail
 go_ret
 exact⟨rfl,by go_grown⟩
theorem As_fault (F:Nat) (a x:Value) (hav:∃ p,a = .pointer p) (w:World) (hx:w.cell? ⟨F,0,none⟩=some x) (hf:w.frozen? ⟨F,0,none⟩=false) (hF:F<w.heap.size) (hE:Za3 w) (hEg:9<w.heap.size):
  Calls Tryz.prog 65 #[.iface 84 a,.iface 147 (.pointer (some ⟨F,0,none⟩))] w
   fun e w'=>e = .returned (.bool true)∧w'.cell? ⟨F,0,none⟩=some a∧w.heap.size≤w'.heap.size∧Below F w w':=by
 have j1:=fun w=>as_valueOf (.pointer (some ⟨F,0,none⟩)) w ⟨_,rfl⟩
 have j2:=fun V w=>as_type (.pointer (some V)) V rfl w
 have j3:=as_kindPP
 have j4:=as_kindP
 have j5:=as_elem
 have j6:=as_impl
 have j7:=fun o=>as_isNil w.heap.size ⟨F,0,none⟩ ((w.alloc (.cells #[.pointer (some ⟨F,0,none⟩)] 147)).alloc o) (by simp)
 unfold Za3 at hE
 go_enter Tryz.func65,Tryz.ntmps65
 go_wp2_with fail
 have hW:∀ o1 o2,((w.alloc o1).alloc o2).heap.size=w.heap.size+2:=fun o1 o2=>by rw [World.size_alloc,World.size_alloc]
 refine (as_fault F a x hav w.heap.size _ (by simp) (by rw [World.cell?_alloc_past _ _ _ (by rw [World.size_alloc];omega),World.cell?_alloc_past _ _ _ hF];exact hx) (by rw [Zfo _ _ (by rw [World.size_alloc];omega),Zfo _ _ hF];exact hf) (by rw [hW];omega) (by rw [hW];omega)).mono ?_
 rintro e w' ⟨rfl,h1,h2,h3⟩
 rw [hW] at h2
 have h4:Below F w w':=(((Below.refl F w).alloc (Nat.le_of_lt hF) _).alloc (by rw [World.size_alloc];omega) _).trans h3
 clear h3 hW
 go_wp2_with fail
 go_ret
 exact⟨rfl,h1,by omega,h4⟩
theorem As_sent (F:Nat) (a:Value) (w:World) (hE:Za3 w) (hEg:9<w.heap.size):
  Calls Tryz.prog 65 #[.iface 232 a,.iface 147 (.pointer (some ⟨F,0,none⟩))] w
   fun e w'=>e = .returned (.bool false)∧Below w.heap.size w w':=by
 have j1:=fun w=>as_valueOf (.pointer (some ⟨F,0,none⟩)) w ⟨_,rfl⟩
 have j2:=fun V w=>as_type (.pointer (some V)) V rfl w
 have j3:=as_kindPP
 have j4:=as_kindP
 have j5:=as_elem
 have j6:=as_impl
 have j7:=fun o=>as_isNil w.heap.size ⟨F,0,none⟩ ((w.alloc (.cells #[.pointer (some ⟨F,0,none⟩)] 147)).alloc o) (by simp)
 unfold Za3 at hE
 go_enter Tryz.func65,Tryz.ntmps65
 go_wp2_with fail
 have hW:∀ o1 o2,((w.alloc o1).alloc o2).heap.size=w.heap.size+2:=fun o1 o2=>by rw [World.size_alloc,World.size_alloc]
 refine (as_sent F a w.heap.size _).mono ?_
 rintro e w' ⟨rfl,h3⟩
 have h4:Below w.heap.size w w':=(((Below.refl w.heap.size w).alloc (Nat.le_refl _) _).alloc (by rw [World.size_alloc];omega) _).trans (h3.mono (by rw [hW];omega))
 clear h3 hW
 go_wp2_with fail
 go_ret
 exact⟨rfl,h4⟩
structure Zji (w:World) (p:Nat→Addr):Prop where
 c0:w.cell? ⟨2,0,none⟩=some (.iface 232 (.pointer (some (p 0))))
 c1:w.cell? ⟨0,0,none⟩=some (.iface 232 (.pointer (some (p 1))))
 c2:w.cell? ⟨3,0,none⟩=some (.iface 232 (.pointer (some (p 2))))
 c3:w.cell? ⟨4,0,none⟩=some (.iface 232 (.pointer (some (p 3))))
 c4:w.cell? ⟨1,0,none⟩=some (.iface 232 (.pointer (some (p 4))))
 c5:w.cell? ⟨5,0,none⟩=some (.iface 232 (.pointer (some (p 5))))
 c6:w.cell? ⟨6,0,none⟩=some (.iface 232 (.pointer (some (p 6))))
 c7:w.cell? ⟨7,0,none⟩=some (.iface 232 (.pointer (some (p 7))))
 c8:w.cell? ⟨8,0,none⟩=some (.iface 232 (.pointer (some (p 8))))
 row:∀ i,i<9→∃ c t,w.heap[(p i).block]?=some (.cells c t (0,0))
 inj:∀ i j,i<9→j<9→p i=p j→i=j
 big:10≤w.heap.size
theorem Zji.below {w w':World} {p:Nat→Addr} (h:Zji w p) (hb:Below w.heap.size w w'):Zji w' p:=by
 have hg:=h.big
 have hc:∀ b,b<10→w'.cell? ⟨b,0,none⟩=w.cell? ⟨b,0,none⟩:=fun b hbl=>hb.cell (p:=⟨b,0,none⟩) (Nat.lt_of_lt_of_le hbl hg)
 refine⟨?_,?_,?_,?_,?_,?_,?_,?_,?_,fun i hi=>?_,h.inj,Nat.le_trans hg hb.size⟩
 ·rw [hc _ (by decide)];exact h.c0
 ·rw [hc _ (by decide)];exact h.c1
 ·rw [hc _ (by decide)];exact h.c2
 ·rw [hc _ (by decide)];exact h.c3
 ·rw [hc _ (by decide)];exact h.c4
 ·rw [hc _ (by decide)];exact h.c5
 ·rw [hc _ (by decide)];exact h.c6
 ·rw [hc _ (by decide)];exact h.c7
 ·rw [hc _ (by decide)];exact h.c8
 obtain⟨c,t,hr⟩:=h.row i hi
 exact⟨c,t,by rw [hb.block _ (Zlt hr)];exact hr⟩
theorem Zji.five {w:World} {p:Nat→Addr} (h:Zji w p):Sen5 w p:=⟨h.c1,h.c2,h.c4,h.c5,h.c6,h.big⟩
theorem code_nil (w:World):Calls Tryz.prog 41 #[.nilIface] w fun e w'=>e = .returned (.tuple #[.int .i64 0,.int .i64 (-1)])∧w=w':=by
 go_enter Tryz.func41,Tryz.ntmps41
 go_wp2_with fail
 go_ret2
 exact⟨rfl,rfl⟩
theorem nine_get (p:Nat→Addr) (k:Nat) (hk:k<9):(#[esv (p 0),esv (p 1),esv (p 2),esv (p 3),esv (p 4),esv (p 5),esv (p 6),esv (p 7),esv (p 8)]:Array Value)[k]?=some (esv (p k)):=by
 match k,hk with
 | 0,_=>rfl
 | 1,_=>rfl
 | 2,_=>rfl
 | 3,_=>rfl
 | 4,_=>rfl
 | 5,_=>rfl
 | 6,_=>rfl
 | 7,_=>rfl
 | 8,_=>rfl
theorem code_sent (p:Nat→Addr) (i:Nat) (hi:i<9) (w:World) (S:Zji w p) (hE:Za3 w):
  Calls Tryz.prog 41 #[esv (p i)] w fun e w'=>e = .returned (.tuple #[.int .i64 (i+1),.int .i64 (-1)])∧Below w.heap.size w w':=by
 have hbig:=S.big
 unfold esv
 go_enter Tryz.func41,Tryz.ntmps41
 go_wp2_with fail
 refine (As_sent w.heap.size (.pointer (some (p i))) _ (by unfold Za3;rw [World.cell?_alloc_past _ _ _ (by omega)];exact hE) (by simp;omega)).mono ?_
 rintro e w1 ⟨rfl,hb⟩
 have hB:Below w.heap.size w w1:=((Below.refl w.heap.size w).alloc (Nat.le_refl _) _).trans (hb.mono (by simp))
 have S1:=S.below hB
 obtain⟨c0,c1,c2,c3,c4,c5,c6,c7,c8,_,_,hbig1⟩:=id S1
 go_wp2_with fail
 have SW:=S1.below ((Below.refl _ _).alloc (Nat.le_refl _) (.cells #[esv (p 0),esv (p 1),esv (p 2),esv (p 3),esv (p 4),esv (p 5),esv (p 6),esv (p 7),esv (p 8)] 34))
 have hBW:Below w.heap.size w (w1.alloc (.cells #[esv (p 0),esv (p 1),esv (p 2),esv (p 3),esv (p 4),esv (p 5),esv (p 6),esv (p 7),esv (p 8)] 34)):=hB.alloc hB.size _
 have hnine:∀ k,k<9→(w1.alloc (.cells #[esv (p 0),esv (p 1),esv (p 2),esv (p 3),esv (p 4),esv (p 5),esv (p 6),esv (p 7),esv (p 8)] 34)).cell? ⟨w1.heap.size,k,none⟩=some (esv (p k)):=fun k hk=>by
  rw [World.cell?_alloc_new];exact nine_get p k hk
 have HN:=Zhd hnine
 clear hnine c0 c1 c2 c3 c4 c5 c6 c7 c8
 change Code.wp _ _ _ _ (w1.alloc (.cells #[esv (p 0),esv (p 1),esv (p 2),esv (p 3),esv (p 4),esv (p 5),esv (p 6),esv (p 7),esv (p 8)] 34))
 generalize w1.alloc (.cells #[esv (p 0),esv (p 1),esv (p 2),esv (p 3),esv (p 4),esv (p 5),esv (p 6),esv (p 7),esv (p 8)] 34)=W at *
 generalize w1.heap.size=B at *
 go_loop [3,27] (fun t v=>∃ k:Nat,v = .int .i64 k∧t = .int .i64 (-1)∧k≤i) (fun _ v=>i+1 - (intOf v).toNat)
 case atStart=>exact⟨0,rfl,rfl,Nat.zero_le _⟩
 obtain⟨k,rfl,rfl,hk⟩:=hrel
 have hk9:k<9:=by omega
 have hc:=HN.out k hk9
 unfold esv at hc
 by_cases hki:k=i
 ·subst hki
  go_wp2_with fail
  refine (is_same (p k) _).mono ?_
  rintro e w' ⟨rfl,rfl⟩
  go_wp2_with fail
  go_ret2
  exact⟨rfl,hBW⟩
 obtain⟨ca,ta,ha⟩:=SW.row i hi
 obtain⟨cb,tb,hb'⟩:=SW.row k hk9
 have hne:p i≠p k:=fun e=>hki (SW.inj _ _ hi hk9 e).symm
 have HA:=Zhd (And.intro ha hb')
 clear ha hb'
 go_wp2_with fail
 refine (is_other (p i) (p k) ca cb ta tb _ hne HA.out.1 HA.out.2).mono ?_
 rintro e w' ⟨rfl,rfl⟩
 go_wp2_with fail
 go_round
 case rel=>exact⟨k+1,by go_num,rfl,by omega⟩
 simp [intOf];omega
theorem code_fault (p:Nat→Addr) (i:Nat) (hi:i<9) (N:Nat) (at_:Int) (w:World) (hN0:w.cell? ⟨N,0,none⟩=some (.int .i64 at_)) (hN1:w.cell? ⟨N,1,none⟩=some (esv (p i))) (S:Zji w p) (hE:Za3 w):
  Calls Tryz.prog 41 #[.iface 84 (.pointer (some ⟨N,0,none⟩))] w fun e w'=>e = .returned (.tuple #[.int .i64 (i+1),.int .i64 at_])∧Below w.heap.size w w':=by
 have hbig:=S.big
 unfold esv at hN1
 have hNlt:N<w.heap.size:=World.block_lt_of_cell? w ⟨N,0,none⟩ hN0
 go_enter Tryz.func41,Tryz.ntmps41
 go_wp2_with fail
 refine (As_fault w.heap.size (.pointer (some ⟨N,0,none⟩)) (.pointer none) ⟨_,rfl⟩ _ (by simp) (by simp) (by simp) (by unfold Za3;rw [World.cell?_alloc_past _ _ _ (by omega)];exact hE) (by simp;omega)).mono ?_
 rintro e w1 ⟨rfl,hF,hsz,hb⟩
 have hB:Below w.heap.size w w1:=((Below.refl w.heap.size w).alloc (Nat.le_refl _) _).trans hb
 have hn0:w1.cell? ⟨N,0,none⟩=some (.int .i64 at_):=(hB.cell (p:=⟨N,0,none⟩) hNlt).trans hN0
 have hn1:w1.cell? ⟨N,1,none⟩=some (.iface 232 (.pointer (some (p i)))):=(hB.cell (p:=⟨N,1,none⟩) hNlt).trans hN1
 have HN01:=Zhd (And.intro hN0 hN1)
 clear hN0 hN1
 have hNlt1:N<w1.heap.size:=Nat.lt_of_lt_of_le hNlt hB.size
 have S1:=S.below hB
 obtain⟨c0,c1,c2,c3,c4,c5,c6,c7,c8,_,_,hbig1⟩:=id S1
 go_wp2_with fail
 have SW:=S1.below ((Below.refl _ _).alloc (Nat.le_refl _) (.cells #[esv (p 0),esv (p 1),esv (p 2),esv (p 3),esv (p 4),esv (p 5),esv (p 6),esv (p 7),esv (p 8)] 34))
 have hBW:Below w.heap.size w (w1.alloc (.cells #[esv (p 0),esv (p 1),esv (p 2),esv (p 3),esv (p 4),esv (p 5),esv (p 6),esv (p 7),esv (p 8)] 34)):=hB.alloc hB.size _
 have hnine:∀ k,k<9→(w1.alloc (.cells #[esv (p 0),esv (p 1),esv (p 2),esv (p 3),esv (p 4),esv (p 5),esv (p 6),esv (p 7),esv (p 8)] 34)).cell? ⟨w1.heap.size,k,none⟩=some (esv (p k)):=fun k hk=>by
  rw [World.cell?_alloc_new];exact nine_get p k hk
 have hm1:(w1.alloc (.cells #[esv (p 0),esv (p 1),esv (p 2),esv (p 3),esv (p 4),esv (p 5),esv (p 6),esv (p 7),esv (p 8)] 34)).cell? ⟨N,1,none⟩=some (.iface 232 (.pointer (some (p i)))):=by rw [World.cell?_alloc_past _ _ _ hNlt1];exact hn1
 clear hn0 hn1 hF hNlt1
 have HN:=Zhd hnine
 clear hnine c0 c1 c2 c3 c4 c5 c6 c7 c8
 change Code.wp _ _ _ _ (w1.alloc (.cells #[esv (p 0),esv (p 1),esv (p 2),esv (p 3),esv (p 4),esv (p 5),esv (p 6),esv (p 7),esv (p 8)] 34))
 generalize w1.alloc (.cells #[esv (p 0),esv (p 1),esv (p 2),esv (p 3),esv (p 4),esv (p 5),esv (p 6),esv (p 7),esv (p 8)] 34)=W at *
 generalize w1.heap.size=B at *
 go_loop [3,27] (fun t v=>∃ k:Nat,v = .int .i64 k∧t = .int .i64 at_∧k≤i) (fun _ v=>i+1 - (intOf v).toNat)
 case atStart=>exact⟨0,rfl,rfl,Nat.zero_le _⟩
 obtain⟨k,rfl,rfl,hk⟩:=hrel
 have hk9:k<9:=by omega
 have hc:=HN.out k hk9
 unfold esv at hc
 by_cases hki:k=i
 ·subst hki
  go_wp2_with fail
  refine (is_fault_same N (p k) _ hm1).mono ?_
  rintro e w' ⟨rfl,rfl⟩
  go_wp2_with fail
  go_ret2
  exact⟨rfl,hBW⟩
 obtain⟨ca,ta,ha⟩:=SW.row i hi
 obtain⟨cb,tb,hb'⟩:=SW.row k hk9
 have hne:p i≠p k:=fun e=>hki (SW.inj _ _ hi hk9 e).symm
 have HA:=Zhd (And.intro ha hb')
 clear ha hb'
 go_wp2_with fail
 refine (is_fault_other N (p i) (p k) ca cb ta tb _ hm1 hne HA.out.1 HA.out.2).mono ?_
 rintro e w' ⟨rfl,rfl⟩
 go_wp2_with fail
 go_round
 case rel=>exact⟨k+1,by go_num,rfl,by omega⟩
 simp [intOf];omega
open Go.RowKit Go.ChangeShapes
def VarReads (P:Program) (w:World) (n:String) (d:DataW Unit):Prop:=
 ∃ g t cs fuel p,P.globalNamed n=some g∧(P.globals[g]?).map (·.type)=some t∧w.var? P n=some cs∧DataW.trod (fun _=>()) P w 0 (fun _=>true) false fuel t cs.toList=some (d,p)
theorem Zjq {P:Program} {w:World}:∀ {l:List (String×DataW Unit)} {ps:List MemPlace},DataW.LaidVars P w l ps→∀ x∈l,VarReads P w x.1 x.2
 | [],_,_,x,hx=>by cases hx
 | (n,d) :: r,ps,h,x,hx=>by
  obtain⟨g,t,cs,fuel,p,q,h1,h2,h3,h4,h5,_⟩:=h
  rcases List.mem_cons.1 hx with rfl | hx
  ·exact⟨g,t,cs,fuel,p,h1,h2,h3,h4⟩
  exact Zjq h5 x hx
theorem Zh5 {P:Program} {w:World} {l:List (String×DataW Unit)} (h:laidMet P l w) {n:String} {d:DataW Unit} (hx:(n,d)∈l):VarReads P w n d:=by
 obtain⟨ps,hv,_⟩:=h
 exact Zjq hv (n,d) hx
def sentE (x:String×List UInt8):String×DataW Unit:=(x.1,.iface "*errors.errorString" (.ptr (.agg [.lit (.string x.2)])))
theorem Zfb {a:Addr} {W:World} {s:ByteArray} (h:W.cell? a=some (.string s)):a.spot=none:=by
 unfold World.cell? at h
 split at h
 ·cases hsp:a.spot with
  | none=>rfl
  | some x=>rw [hsp] at h;simp at h
 cases h
theorem cell_spot {a:Addr} {W:World} {v:Value} (h:W.cell? a=some v):a.spot=none:=by
 unfold World.cell? at h
 split at h
 ·cases hsp:a.spot with
  | none=>rfl
  | some x=>rw [hsp] at h;simp at h
 cases h
theorem row_one {a:Addr}:MemPlace.row a 1=[MemPlace.cell a.block a.off]:=by
 simp [MemPlace.row]
theorem star:("*errors.errorString" : String) = "*" ++ "errors.errorString" := by decide
theorem name_sent:∀ u,Tryz.prog.typeName? 3 u=some "*errors.errorString" → u=232:=fun u h=>
 typeName_ptr_named (nm := "errors.errorString") (by rw [← star];kernel_rfl) (by kernel_rfl) (by decide) u (by rw [← star];exact h)
theorem sents_list {W:World}:∀ (L:List (String×List UInt8)) (ps:List MemPlace),DataW.LaidVars Tryz.prog W (L.map sentE) ps→ps.Nodup→
  (∀ b off,MemPlace.cell b off∈ps→(∃ c t,W.heap[b]?=some (.cells c t (0,0)))∧∀ u v,W.cell? ⟨b,off,none⟩=some (.iface u v)→Value.okWide Tryz.prog W .any 0 u v)→
  (∀ x∈L,∃ g,Tryz.prog.globalNamed x.1=some g∧(Tryz.prog.globals[g]?).map (·.type)=some 34)→
  ∃ p:Nat→Addr,(∀ i x,L[i]?=some x→W.var? Tryz.prog x.1=some #[.iface 232 (.pointer (some (p i)))]∧(∃ s,W.cell? (p i)=some (.string s)∧s.data.toList=x.2)∧
    (∃ c t,W.heap[(p i).block]?=some (.cells c t (0,0)))∧MemPlace.cell (p i).block (p i).off∈ps)∧
   ∀ i j,i<L.length→j<L.length→p i=p j→i=j
 | [],_,_,_,_,_=>⟨fun _=>⟨0,0,none⟩,fun i x h=>by simp at h,fun i _ h=>by simp at h⟩
 | x :: r,ps,hv,hnd,hrows,hg=>by
  obtain⟨g0,t0,cs0,f0,p0,q0,hg0,ht0,hv0,hd0,hq,e0⟩:=hv
  subst e0
  obtain⟨g,hg1,ht1⟩:=hg x (List.mem_cons_self ..)
  obtain rfl:=Option.some.inj (hg1.symm.trans hg0)
  obtain rfl:=Option.some.inj (ht1.symm.trans ht0)
  have ok0:∀ u v,cs0.toList=[.iface u v]→Value.okWide Tryz.prog W .any 0 u v:=fun u v e=>by
   obtain⟨l0⟩:=cs0
   simp only at e
   subst e
   exact (hrows g 0 (by simp [MemPlace.row])).2 u v (by simpa using World.var?_cell hg0 hv0 0)
  obtain⟨a,s,hcs,hc,hs,_,hp0⟩:=errorString_of_trod Tryz.underlying34 name_sent Tryz.underlying232 Tryz.underlying255 rfl rfl Tryz.underlying9 (by kernel_rfl) (by kernel_rfl) hd0 ok0
  subst hp0
  have hcs':cs0 = #[.iface 232 (.pointer (some a))]:=by
   obtain⟨l0⟩:=cs0
   simp only at hcs
   rw [hcs]
  subst hcs'
  rw [row_one] at hnd hrows
  obtain⟨p,hp,hinj⟩:=sents_list r q0 hq (List.Nodup.sublist (List.sublist_append_right _ _) hnd) (fun b off hm=>hrows b off (List.mem_append_right _ hm)) (fun y hy=>hg y (List.mem_cons_of_mem _ hy))
  have hna:MemPlace.cell a.block a.off∉q0:=by
   rw [List.append_assoc,List.nodup_append] at hnd
   have:=(List.nodup_append.1 hnd.2.1).2.2
   intro hm
   exact this _ (List.mem_singleton.2 rfl) _ hm rfl
  refine⟨fun | 0=>a | i+1=>p i,?_,?_⟩
  ·intro i y hy
   match i with
   | 0=>
    simp only [List.getElem?_cons_zero,Option.some.injEq] at hy
    subst hy
    exact⟨hv0,⟨s,hc,hs⟩,(hrows a.block a.off (by simp)).1,by simp [row_one]⟩
   | i+1=>
    have h:=hp i y (by simpa using hy)
    exact⟨h.1,h.2.1,h.2.2.1,List.mem_append_right _ h.2.2.2⟩
  intro i j hi hj hij
  match i,j with
  | 0,0=>rfl
  | 0,j+1=>
   have h:=(hp j _ (List.getElem?_eq_getElem (by simpa using hj))).2.2.2
   simp only at hij
   rw [← hij] at h
   exact absurd h hna
  | i+1,0=>
   have h:=(hp i _ (List.getElem?_eq_getElem (by simpa using hi))).2.2.2
   simp only at hij
   rw [hij] at h
   exact absurd h hna
  | i+1,j+1=>rw [hinj i j (by simpa using hi) (by simpa using hj) hij]
theorem laidVars_sub {P:Program} {w:World} {l' l:List (String×DataW Unit)} (hs:l'.Sublist l):∀ ps,DataW.LaidVars P w l ps→∃ qs,DataW.LaidVars P w l' qs∧qs.Sublist ps:=by
 induction hs with
 | slnil=>intro ps h;exact⟨ps,h,List.Sublist.refl _⟩
 | cons x _ ih=>
  intro ps h
  obtain⟨n,d⟩:=x
  obtain⟨g,t,cs,fuel,p,q,_,_,_,_,hq,rfl⟩:=h
  obtain⟨qs,h1,h2⟩:=ih q hq
  exact⟨qs,h1,h2.trans (List.sublist_append_right _ _)⟩
 | cons_cons x _ ih=>
  intro ps h
  obtain⟨n,d⟩:=x
  obtain⟨g,t,cs,fuel,p,q,h1,h2,h3,h4,hq,rfl⟩:=h
  obtain⟨qs,h5,h6⟩:=ih q hq
  exact⟨_,⟨g,t,cs,fuel,p,qs,h1,h2,h3,h4,h5,rfl⟩,(List.Sublist.refl _).append h6⟩
theorem laidMet_sub {P:Program} {w:World} {l' l:List (String×DataW Unit)} (hs:l'.Sublist l) (h:laidMet P l w):laidMet P l' w:=by
 obtain⟨ps,hv,hn,hr⟩:=h
 obtain⟨qs,h1,h2⟩:=laidVars_sub hs ps hv
 exact⟨qs,h1,hn.sublist h2,fun b off hm=>hr b off (h2.subset hm)⟩
theorem Zdu {P:Program} {w:World} {ls:List (List UInt8)} {t e fuel:Nat} {cs:List Value} {p:List MemPlace} (h4:DataW.trod (fun _=>()) P w 0 (fun _=>true) false fuel t cs=some (.slice (ls.map fun l => .lit (.string l)) [],p))
  (hs:P.underlying t=some (.slice e)) (he:P.underlying e=some .string) (hce:P.cellsOf e=1) (hne:ls≠[]):∃ v,cs=[v]∧Zfe (Zag w) v (ls.map fun l=>⟨l.toArray⟩):=by
 rcases open_strings hs he hce h4 with ⟨rfl,hx⟩ | ⟨a,len,cap,ss,rfl,_,hlc,hcm,hl,hx,hcell,hsz⟩
 ·simp at hx
 simp only [Prod.mk.injEq,DataW.slice.injEq] at hx
 obtain⟨⟨hx1,hx2⟩,_⟩:=hx
 have hlen:ss.length=cap:=by simpa using hl
 have hd:ss.drop len=[]:=by
  have:=congrArg List.length hx2
  simp [strs] at this
  exact List.drop_eq_nil_of_le (by omega)
 have hlen2:len=cap:=by
  have:=congrArg List.length hd
  simp at this
  omega
 have ht:ss.take len=ss:=by rw [List.take_of_length_le];omega
 rw [ht] at hx1
 have hmap:ls=ss.map fun s=>s.data.toList:=by
  have:=congrArg (List.map fun d:DataW Unit=>match d with | .lit (.string l)=>l | _=>[]) hx1
  simpa [strs,Function.comp_def] using this
 have hss:(ls.map fun l=>(⟨l.toArray⟩:ByteArray))=ss:=by
  rw [hmap,List.map_map]
  conv=>rhs;rw [← List.map_id ss]
  exact List.map_congr_left fun s _=>by simp
 rw [hss]
 refine⟨_,rfl,.inr ?_⟩
 have hpos:0<ss.length:=by
  cases ss with
  | nil=>simp at hmap;exact absurd hmap hne
  | cons a l=>simp
 have hspot:a.spot=none:=by
  have h0:=hcell 0 hpos
  have e0:a.add 0=a:=by unfold Addr.add;simp
  rw [e0] at h0
  unfold World.cell? at h0
  split at h0
  ·cases hsp:a.spot with
   | none=>rfl
   | some x=>rw [hsp] at h0;simp at h0
  cases h0
 obtain⟨b,off,sp⟩:=a
 dsimp only at hspot
 subst hspot
 refine⟨b,off,cap,by rw [hlen,hlen2],by omega,hcm,fun i hi=>?_⟩
 have h0:=hcell i hi
 have ea:(⟨b,off,none⟩:Addr).add i=⟨b,off+i,none⟩:=by unfold Addr.add;split<;>simp_all
 rw [ea] at h0
 show (Zag w).cell b (off+i * 1+0)=_
 rw [Zad,Nat.mul_one,Nat.add_zero,h0,List.getElem?_eq_getElem hi]
 simp [List.getD,List.getElem?_eq_getElem hi]
theorem levels_of {w:World} (h:VarReads Tryz.prog w "lustrum/tree.levels" Rows.laid_lustrum_tree_levels):Zbl (Zag w):=by
 obtain⟨g',t',cs,fuel,p,h1,h2,h3,h4⟩:=h
 have hg:Tryz.prog.globalNamed "lustrum/tree.levels" = some 10:=by kernel_rfl
 obtain rfl:=Option.some.inj (hg.symm.trans h1)
 have ht:(Tryz.prog.globals[10]?).map (·.type)=some 231:=by kernel_rfl
 obtain rfl:=Option.some.inj (ht.symm.trans h2)
 have hc:∀ i,w.cell? ⟨10,i,none⟩=cs[i]?:=fun i=>World.var?_cell hg h3 i
 obtain⟨xs,m,rfl,hx,hlen,hxl,hel⟩:=DataW.trod_array Tryz.underlying231 h4
 have hce:Tryz.prog.cellsOf 23=1:=by kernel_rfl
 have hcs:Tryz.prog.cellsOf 9=1:=by kernel_rfl
 have hca:Tryz.prog.cellsOf 231=5:=by kernel_rfl
 rw [hca] at hlen
 rw [hce] at hel
 have hmap:xs.map (·.1)=[.slice [.lit (.string [111,114]),.lit (.string [120,111,114])] [],.slice [.lit (.string [97,110,100])] [],.slice [.lit (.string [61]),.lit (.string [60,62]),.lit (.string [60]),.lit (.string [60,61]),.lit (.string [62]),.lit (.string [62,61]),.lit (.string [61,62])] [],.slice [.lit (.string [43]),.lit (.string [45])] [],.slice [.lit (.string [42]),.lit (.string [47]),.lit (.string [109,111,100])] []]:=by
  have:=congrArg Prod.fst hx
  simp only [Rows.laid_lustrum_tree_levels,DataW.agg.injEq] at this
  exact this.symm
 have hblk:∃ t fr,w.heap[10]?=some (.cells cs t fr):=by
  simp only [World.var?,hg,Option.bind_some] at h3
  split at h3
  ·rename_i c t fr he
   cases h3
   exact⟨t,fr,he⟩
  cases h3
 obtain⟨tb,fr,hblk⟩:=hblk
 clear hx h4 hc h3 h1 h2 ht hg
 obtain⟨cl⟩:=cs
 obtain⟨c0,c1,c2,c3,c4,rfl⟩:∃ c0 c1 c2 c3 c4,cl=[c0,c1,c2,c3,c4]:=by
  match cl,hlen with
  | [c0,c1,c2,c3,c4],_=>exact⟨_,_,_,_,_,rfl⟩
 obtain⟨⟨d0,p0⟩,⟨d1,p1⟩,⟨d2,p2⟩,⟨d3,p3⟩,⟨d4,p4⟩,rfl⟩:∃ x0 x1 x2 x3 x4,xs=[x0,x1,x2,x3,x4]:=by
  match xs,hxl with
  | [x0,x1,x2,x3,x4],_=>exact⟨_,_,_,_,_,rfl⟩
 simp only [List.map_cons,List.map_nil,List.cons.injEq,and_true] at hmap
 obtain⟨m0,m1,m2,m3,m4⟩:=hmap
 subst m0 m1 m2 m3 m4
 obtain⟨_,e0,s0⟩:=Zdu (ls:=[[111,114],[120,111,114]]) (hel 0 (by decide)) Tryz.underlying23 Tryz.underlying9 hcs (by simp)
 obtain⟨_,e1,s1⟩:=Zdu (ls:=[[97,110,100]]) (hel 1 (by decide)) Tryz.underlying23 Tryz.underlying9 hcs (by simp)
 obtain⟨_,e2,s2⟩:=Zdu (ls:=[[61],[60,62],[60],[60,61],[62],[62,61],[61,62]]) (hel 2 (by decide)) Tryz.underlying23 Tryz.underlying9 hcs (by simp)
 obtain⟨_,e3,s3⟩:=Zdu (ls:=[[43],[45]]) (hel 3 (by decide)) Tryz.underlying23 Tryz.underlying9 hcs (by simp)
 obtain⟨_,e4,s4⟩:=Zdu (ls:=[[42],[47],[109,111,100]]) (hel 4 (by decide)) Tryz.underlying23 Tryz.underlying9 hcs (by simp)
 simp at e0 e1 e2 e3 e4
 subst e0 e1 e2 e3 e4
 exact⟨_,_,_,_,_,_,_,hblk,s0,s1,s2,s3,s4⟩
def nm:Nat→ByteArray
 | 0=>⟨#[116,101,120,116]⟩
 | 1=>⟨#[98,111,117,110,100]⟩
 | 2=>⟨#[115,104,97,112,101]⟩
 | 3=>⟨#[110,97,109,101]⟩
 | 4=>⟨#[116,121,112,101]⟩
 | 5=>⟨#[99,121,99,108,101]⟩
 | 6=>⟨#[102,105,114,115,116]⟩
 | 7=>⟨#[112,114,111,111,102]⟩
 | _=>⟨#[110,111,110,101]⟩
def senT:Nat→String×List UInt8
 | 0=>("lustrum/api.ErrText",[108,117,115,116,114,117,109,58,32,116,101,120,116])
 | 1=>("lustrum/api.ErrBound",[108,117,115,116,114,117,109,58,32,98,111,117,110,100])
 | 2=>("lustrum/api.ErrShape",[108,117,115,116,114,117,109,58,32,115,104,97,112,101])
 | 3=>("lustrum/api.ErrName",[108,117,115,116,114,117,109,58,32,110,97,109,101])
 | 4=>("lustrum/api.ErrType",[108,117,115,116,114,117,109,58,32,116,121,112,101])
 | 5=>("lustrum/api.ErrCycle",[108,117,115,116,114,117,109,58,32,99,121,99,108,101])
 | 6=>("lustrum/api.ErrFirst",[108,117,115,116,114,117,109,58,32,102,105,114,115,116])
 | 7=>("lustrum/api.ErrProof",[108,117,115,116,114,117,109,58,32,112,114,111,111,102])
 | _=>("lustrum/api.ErrNone",[108,117,115,116,114,117,109,58,32,110,111,110,101])
def gErr:Nat→Nat
 | 0=>2
 | 1=>0
 | 2=>3
 | 3=>4
 | 4=>1
 | 5=>5
 | 6=>6
 | 7=>7
 | _=>8
theorem sen_glob (i:Nat) (hi:i<9):Tryz.prog.globalNamed (senT i).1=some (gErr i)∧(Tryz.prog.globals[gErr i]?).map (·.type)=some 34:=by
 match i,hi with
 | 0,_=>exact⟨by kernel_rfl,by kernel_rfl⟩
 | 1,_=>exact⟨by kernel_rfl,by kernel_rfl⟩
 | 2,_=>exact⟨by kernel_rfl,by kernel_rfl⟩
 | 3,_=>exact⟨by kernel_rfl,by kernel_rfl⟩
 | 4,_=>exact⟨by kernel_rfl,by kernel_rfl⟩
 | 5,_=>exact⟨by kernel_rfl,by kernel_rfl⟩
 | 6,_=>exact⟨by kernel_rfl,by kernel_rfl⟩
 | 7,_=>exact⟨by kernel_rfl,by kernel_rfl⟩
 | 8,_=>exact⟨by kernel_rfl,by kernel_rfl⟩
theorem sen_text (i:Nat) (hi:i<9):(senT i).2=((⟨#[108,117,115,116,114,117,109,58,32]⟩:ByteArray)++nm i).data.toList:=by
 match i,hi with
 | 0,_=>rfl
 | 1,_=>rfl
 | 2,_=>rfl
 | 3,_=>rfl
 | 4,_=>rfl
 | 5,_=>rfl
 | 6,_=>rfl
 | 7,_=>rfl
 | 8,_=>rfl
theorem sents_of {W:World} {l:List (String×DataW Unit)} (h:laidMet Tryz.prog l W) (ord:List Nat) (hord:ord.length=9) (hlt:∀ i∈ord,i<9) (hidx:∀ i,i<9→ord[ord.idxOf i]?=some i)
  (hs:((ord.map senT).map sentE).Sublist l) (hE:Za3 W):
  ∃ p,Zji W p∧∀ i,i<9→W.cell? (p i)=some (.string ((⟨#[108,117,115,116,114,117,109,58,32]⟩:ByteArray)++nm i)):=by
 obtain⟨ps,hv,hn,hr⟩:=laidMet_sub hs h
 obtain⟨p,hp,hinj⟩:=sents_list (ord.map senT) ps hv hn hr (fun x hx=>by
  obtain⟨i,hi,rfl⟩:=List.mem_map.1 hx
  exact⟨gErr i,sen_glob i (hlt i hi)⟩)
 have key:∀ i,i<9→W.cell? ⟨gErr i,0,none⟩=some (.iface 232 (.pointer (some (p (ord.idxOf i)))))∧(∃ s,W.cell? (p (ord.idxOf i))=some (.string s)∧s.data.toList=(senT i).2)∧(∃ c t,W.heap[(p (ord.idxOf i)).block]?=some (.cells c t (0,0))):=fun i hi=>by
  have h1:=hp (ord.idxOf i) (senT i) (by rw [List.getElem?_map,hidx i hi];rfl)
  refine⟨?_,h1.2.1,h1.2.2.1⟩
  have:=World.var?_cell (sen_glob i hi).1 h1.1 0
  simpa using this
 have hbig:10≤W.heap.size:=by
  have lt:∀ i,i<9→gErr i<W.heap.size:=fun i hi=>World.block_lt_of_cell? W _ (key i hi).1
  have a0:=lt 0 (by omega)
  have a1:=lt 1 (by omega)
  have a2:=lt 2 (by omega)
  have a3:=lt 3 (by omega)
  have a4:=lt 4 (by omega)
  have a5:=lt 5 (by omega)
  have a6:=lt 6 (by omega)
  have a7:=lt 7 (by omega)
  have a8:=lt 8 (by omega)
  have a9:=World.block_lt_of_cell? W _ hE
  simp only [gErr] at a0 a1 a2 a3 a4 a5 a6 a7 a8 a9
  omega
 refine⟨fun i=>p (ord.idxOf i),⟨(key 0 (by omega)).1,(key 1 (by omega)).1,(key 2 (by omega)).1,(key 3 (by omega)).1,(key 4 (by omega)).1,(key 5 (by omega)).1,(key 6 (by omega)).1,(key 7 (by omega)).1,(key 8 (by omega)).1,
  fun i hi=>(key i hi).2.2,fun i j hi hj e=>?_,hbig⟩,fun i hi=>?_⟩
 ·have hi':ord.idxOf i<9:=by
   have:=hidx i hi
   rcases Nat.lt_or_ge (ord.idxOf i) ord.length with h | h
   ·omega
   rw [List.getElem?_eq_none h] at this;cases this
  have hj':ord.idxOf j<9:=by
   have:=hidx j hj
   rcases Nat.lt_or_ge (ord.idxOf j) ord.length with h | h
   ·omega
   rw [List.getElem?_eq_none h] at this;cases this
  have e2:=hinj _ _ (by rw [List.length_map,hord];exact hi') (by rw [List.length_map,hord];exact hj') e
  have h1:=hidx i hi
  rw [e2,hidx j hj] at h1
  exact (Option.some.inj h1).symm
 obtain⟨s,h1,h2⟩:=(key i hi).2.1
 show W.cell? (p (ord.idxOf i))=_
 rw [h1]
 rw [sen_text i hi] at h2
 obtain⟨⟨sl⟩⟩:=s
 simp only at h2
 rw [h2]
theorem one_row:((List.range 267).filter fun t=>Tryz.prog.rowNamed t [101,114,114,111,114])=[34]:=by kernel_rfl
theorem types_size:Tryz.prog.types.size=267:=by kernel_rfl
theorem handle_of {W:World} {l:List (String×DataW Unit)} (h:handlesMet Tryz.prog l W) (hm:("errors.errorType",Rows.laid_errors_errorType)∈l):Za3 W:=by
 obtain⟨name,u,ty,e1,e2,e3,e4,e5⟩:=h _ hm
 have en:name=[101,114,114,111,114]:=(Option.some.inj e1).symm
 subst en
 have hrt:(Tryz.prog.cutTypes.find? (·.1 == "internal/reflectlite.rtype")).map (·.2)=some 202:=by kernel_rfl
 obtain rfl:=Option.some.inj (hrt.symm.trans e2)
 have hm:ty∈(List.range 267).filter fun t=>Tryz.prog.rowNamed t [101,114,114,111,114]:=List.mem_filter.2 ⟨List.mem_range.2 (by rw [← types_size];exact e3),e4⟩
 rw [one_row] at hm
 obtain rfl:=List.mem_singleton.1 hm
 have hh:typeHandle Tryz.prog 34 = .pointer (some ⟨11,34,none⟩):=by kernel_rfl
 rw [hh] at e5
 have hg:Tryz.prog.globalNamed "errors.errorType" = some 9:=by kernel_rfl
 have:=World.var?_cell hg e5 0
 unfold Za3
 simpa using this
end Go.Proofs.YtgoccoldkfpbgaaGreatDoor
