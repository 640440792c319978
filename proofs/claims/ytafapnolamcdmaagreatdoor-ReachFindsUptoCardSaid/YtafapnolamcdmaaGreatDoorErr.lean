/- Walks: errors.Is and errors.As at the errors of package api: sentinels, faults that wrap one, errors of errors.New's make. -/
import Derived.LaidEql
import Derived.Stop.Asserts
import Derived.RowKitTokens
import Derived.Laws.Externs
import Derived.Test.YtafapnolamcdmaaGreatDoorRh
import Derived.Test.YtafapnolamcdmaaGreatDoorBuild
import Derived.Lib.FrozenHead
import Derived.ProofKit
import Derived.Stop.LaidErr
import Derived.SliceStrings
import Derived.LaidHandle
import Derived.OpenShut
import Derived.Test.YtafapnolamcdmaaGreatDoorRows
set_option linter.all false
namespace Go.Proofs.YtafapnolamcdmaaGreatDoor
set_option maxRecDepth 100000
set_option maxHeartbeats 16000000
open Go.RowKit Go.Extern.Stop Go.Stop Go.Extern
def rty(t:Nat):Value:=.agg #[.pointer (some ⟨11,t,none⟩)]
theorem Zei(w:World):(callFunc 169 #[.agg #[.pointer (some ⟨11,256,none⟩)]]).run Tryz.prog w=.ok (.value (.bool true)) w:=by kernel_rfl
theorem Zgb(v:Value)(w:World):(callFunc 82 #[.iface 256 v]).run Tryz.prog w=.ok (.value (.iface 212 (rty 256))) w:=by kernel_rfl
theorem es_comp:(Tryz.prog.info? 256).map (·.comparable)=some true:=by kernel_rfl
theorem es_size:(Tryz.prog.info? 276).map (·.size)=some 1:=by kernel_rfl
theorem noIsE(v:Value)(xT:TypeId)(w:World):(Instr.typeAssert (.iface 256 v) xT 223 true).run Tryz.prog w=.ok (.tuple #[.nilIface,.bool false]) w:=run_typeAssert_lacksB Tryz.underlying223 (by kernel_rfl) (by kernel_rfl) v xT w
theorem noUnwrapE(v:Value)(xT:TypeId)(w:World):(Instr.typeAssert (.iface 256 v) xT 219 true).run Tryz.prog w=.ok (.tuple #[.nilIface,.bool false]) w:=run_typeAssert_lacksB Tryz.underlying219 (by kernel_rfl) (by kernel_rfl) v xT w
theorem Zji(v:Value)(xT:TypeId)(w:World):(Instr.typeAssert (.iface 256 v) xT 221 true).run Tryz.prog w=.ok (.tuple #[.nilIface,.bool false]) w:=run_typeAssert_lacksB Tryz.underlying221 (by kernel_rfl) (by kernel_rfl) v xT w
theorem noAsE(v:Value)(xT:TypeId)(w:World):(Instr.typeAssert (.iface 256 v) xT 216 true).run Tryz.prog w=.ok (.tuple #[.nilIface,.bool false]) w:=run_typeAssert_lacksB Tryz.underlying216 (by kernel_rfl) (by kernel_rfl) v xT w
theorem noIsF(v:Value)(xT:TypeId)(w:World):(Instr.typeAssert (.iface 71 v) xT 223 true).run Tryz.prog w=.ok (.tuple #[.nilIface,.bool false]) w:=run_typeAssert_lacksB Tryz.underlying223 (by kernel_rfl) (by kernel_rfl) v xT w
theorem hasUnwrapF(v:Value)(xT:TypeId)(w:World):(Instr.typeAssert (.iface 71 v) xT 219 true).run Tryz.prog w=.ok (.tuple #[.iface 71 v,.bool true]) w:=run_typeAssert_hasB Tryz.underlying219 (by kernel_rfl) v xT w
theorem is_same(a:Addr)(w:World):
  Calls Tryz.prog 57 #[.iface 256 (.pointer (some a)),.iface 256 (.pointer (some a))] w λe w'=>e=.returned (.bool true)/\w=w':=by
 obtain⟨i,hi,vP⟩:=Option.map_eq_some_iff.1 es_comp;obtain⟨j,hj,hjs⟩:=Option.map_eq_some_iff.1 es_size;have h8:=Zgb;have h32:=Zei;have heq:=run_eql_iface_ptr_same (P:=Tryz.prog) w a Tryz.underlying35 Tryz.underlying256 hi vP hj;go_enter Tryz.func57,Tryz.ntmps57;go_wp2
 refine wp_loop_rounds 1 ?_;rw[rounds_succ];go_wp2
 go_ret;exact⟨rfl,rfl⟩
theorem is_other(a b:Addr)(ca cb:Array Value)(ta tb:TypeId)(w:World)(Hs:a≠b)(ha:w.heap[a.block]?=some (.cells ca ta (0,0)))(hb:w.heap[b.block]?=some (.cells cb tb (0,0))):
  Calls Tryz.prog 57 #[.iface 256 (.pointer (some a)),.iface 256 (.pointer (some b))] w λe w'=>e=.returned (.bool false)/\w=w':=by
 obtain⟨i,hi,vP⟩:=Option.map_eq_some_iff.1 es_comp;obtain⟨j,hj,hjs⟩:=Option.map_eq_some_iff.1 es_size;have h8:=Zgb;have h32:=Zei;have nE:=noIsE;have uE:=noUnwrapE;have vE:=Zji;have heq:=run_eql_iface_ptr_other (P:=Tryz.prog) w Tryz.underlying35 Tryz.underlying256 hi vP hj (by rw[hjs];decide) Hs ha hb;clear ha hb Hs;go_enter Tryz.func57,Tryz.ntmps57;go_wp2
 refine wp_loop_rounds 1 ?_;rw[rounds_succ];go_wp2
 go_ret;exact⟨rfl,rfl⟩
theorem is_fault_same(n:Nat)(b:Addr)(w:World)(h1:w.cell? ⟨n,1,none⟩=some (.iface 256 (.pointer (some b)))):
  Calls Tryz.prog 57 #[.iface 71 (.pointer (some ⟨n,0,none⟩)),.iface 256 (.pointer (some b))] w λe w'=>e=.returned (.bool true)/\w=w':=by
 obtain⟨i,hi,vP⟩:=Option.map_eq_some_iff.1 es_comp;obtain⟨j,hj,hjs⟩:=Option.map_eq_some_iff.1 es_size;have h8:=Zgb;have h32:=Zei;have nF:=noIsF;have uF:=hasUnwrapF;have heq:=run_eql_iface_ptr_same (P:=Tryz.prog) w b Tryz.underlying35 Tryz.underlying256 hi vP hj;have kJ:=run_eql_iface_types (P:=Tryz.prog) 71 256 (.pointer (some ⟨n,0,none⟩)) (.pointer (some b)) Tryz.underlying35 (by decide) w;go_enter Tryz.func57,Tryz.ntmps57;go_wp2
 refine wp_loop_rounds 2 ?_;rw[rounds_succ];go_wp2
 rw[rounds_succ];go_wp2
 go_ret;exact⟨rfl,rfl⟩
theorem is_fault_other(n:Nat)(a b:Addr)(ca cb:Array Value)(ta tb:TypeId)(w:World)(h1:w.cell? ⟨n,1,none⟩=some (.iface 256 (.pointer (some a))))(Hs:a≠b)(ha:w.heap[a.block]?=some (.cells ca ta (0,0)))(hb:w.heap[b.block]?=some (.cells cb tb (0,0))):
  Calls Tryz.prog 57 #[.iface 71 (.pointer (some ⟨n,0,none⟩)),.iface 256 (.pointer (some b))] w λe w'=>e=.returned (.bool false)/\w=w':=by
 obtain⟨i,hi,vP⟩:=Option.map_eq_some_iff.1 es_comp;obtain⟨j,hj,hjs⟩:=Option.map_eq_some_iff.1 es_size;have h8:=Zgb;have h32:=Zei;have nE:=noIsE;have uE:=noUnwrapE;have vE:=Zji;have nF:=noIsF;have uF:=hasUnwrapF;have heq:=run_eql_iface_ptr_other (P:=Tryz.prog) w Tryz.underlying35 Tryz.underlying256 hi vP hj (by rw[hjs];decide) Hs ha hb;have kJ:=run_eql_iface_types (P:=Tryz.prog) 71 256 (.pointer (some ⟨n,0,none⟩)) (.pointer (some b)) Tryz.underlying35 (by decide) w;clear ha hb Hs;go_enter Tryz.func57,Tryz.ntmps57;go_wp2
 refine wp_loop_rounds 2 ?_;rw[rounds_succ];go_wp2
 rw[rounds_succ];go_wp2
 go_ret;exact⟨rfl,rfl⟩
theorem as_valueOf(v:Value)(w:World)(hv:∃p,v=.pointer p):(callFunc 78 #[.iface 147 v]).run Tryz.prog w=.ok (.value (.agg #[.pointer (some ⟨11,147,none⟩),.pointer (some ⟨w.heap.size,0,none⟩),.int .u64 150])) (w.alloc (.cells #[v] 147)):=by
 obtain⟨p,rfl⟩:=hv
 kernel_rfl
theorem as_valueOfF(v:Value)(w:World)(hv:∃p,v=.pointer p):(callFunc 78 #[.iface 71 v]).run Tryz.prog w=.ok (.value (.agg #[.pointer (some ⟨11,71,none⟩),.pointer (some ⟨w.heap.size,0,none⟩),.int .u64 150])) (w.alloc (.cells #[v] 71)):=by
 obtain⟨p,rfl⟩:=hv
 kernel_rfl
theorem as_type(p:Value)(a:Addr)(hp:p=.pointer (some a))(w:World):(callFunc 79 #[.agg #[.pointer (some ⟨11,147,none⟩),p,.int .u64 150]]).run Tryz.prog w=.ok (.value (.iface 212 (rty 147))) w:=by
 subst hp;kernel_rfl
theorem as_kindPP(w:World):(callFunc 158 #[.pointer (some ⟨11,147,none⟩)]).run Tryz.prog w=.ok (.value (.int .u8 22)) w:=by kernel_rfl
theorem as_kindP(w:World):(callFunc 158 #[.pointer (some ⟨11,71,none⟩)]).run Tryz.prog w=.ok (.value (.int .u8 22)) w:=by kernel_rfl
theorem as_elem(w:World):(callFunc 170 #[.agg #[.pointer (some ⟨11,147,none⟩)]]).run Tryz.prog w=.ok (.value (.iface 212 (rty 71))) w:=by kernel_rfl
theorem as_impl(w:World):(callFunc 171 #[.agg #[.pointer (some ⟨11,71,none⟩)],.iface 212 (.agg #[.pointer (some ⟨11,35,none⟩)])]).run Tryz.prog w=.ok (.value (.bool true)) w:=by kernel_rfl
theorem typeOf_f(v:Value)(w:World):(callFunc 82 #[.iface 71 v]).run Tryz.prog w=.ok (.value (.iface 212 (rty 71))) w:=by kernel_rfl
theorem as_assF(w:World):(callFunc 168 #[.agg #[.pointer (some ⟨11,71,none⟩)],.iface 212 (rty 71)]).run Tryz.prog w=.ok (.value (.bool true)) w:=by kernel_rfl
theorem as_assE(w:World):(callFunc 168 #[.agg #[.pointer (some ⟨11,256,none⟩)],.iface 212 (rty 71)]).run Tryz.prog w=.ok (.value (.bool false)) w:=by kernel_rfl
theorem el_PP(w:World):(Rtype.elem? 147).run Tryz.prog w=.ok (some 71) w:=by kernel_rfl
theorem da_P(w:World):(Rtype.directlyAssignable 71 71).run Tryz.prog w=.ok true w:=by kernel_rfl
theorem lv_PP(a:Addr)(v:Value)(w:World)(hc:w.cell? a=some v):(loadVar 147 a).run Tryz.prog w=.ok v w:=by
 simp[loadVar,hc,go_sem,Tryz.isAgg147]
theorem lv_P(a:Addr)(v:Value)(w:World)(hc:w.cell? a=some v):(loadVar 71 a).run Tryz.prog w=.ok v w:=by
 simp[loadVar,hc,go_sem,Tryz.isAgg71]
theorem rv_method(zero:Sem Value)(f:TypeId->Addr->Nat->Nat->Sem Value)(v:Value):ReflectliteValue.method zero f #[v]=(do
  match <- ReflectliteValue.parts v with
  |none=>zero
  |some (t,a,fl)=>f t a fl (fl % 32)):=rfl
theorem pt_PP(a:Addr)(w:World):(ReflectliteValue.parts (.agg #[.pointer (some ⟨11,147,none⟩),.pointer (some a),.int .u64 150])).run Tryz.prog w=.ok (some (147,a,150)) w:=by kernel_rfl
theorem pt_P(a:Addr)(w:World):(ReflectliteValue.parts (.agg #[.pointer (some ⟨11,71,none⟩),.pointer (some a),.int .u64 150])).run Tryz.prog w=.ok (some (71,a,150)) w:=by kernel_rfl
theorem pt_PA(a:Addr)(w:World):(ReflectliteValue.parts (.agg #[.pointer (some ⟨11,71,none⟩),.pointer (some a),.int .u64 406])).run Tryz.prog w=.ok (some (71,a,406)) w:=by kernel_rfl
theorem sv_P(a:Addr)(x v:Value)(w:World)(hx:w.cell? a=some x)(hf:w.frozen? a=false)(hv:∃p,v=.pointer p):(storeVar 71 a v).run Tryz.prog w=.ok () (w.setCell a v):=by
 obtain⟨p,rfl⟩:=hv;simp[storeVar,storeCells,hx,hf,go_sem,Tryz.sizeOf71]
theorem mk_P(p:Addr)(w:World):(ReflectliteValue.mk 71 p ReflectliteValue.flagAddr).run Tryz.prog w=.ok (.agg #[.pointer (some ⟨11,71,none⟩),.pointer (some p),.int .u64 406]) w:=by kernel_rfl
theorem as_isNil(V:Nat)(p:Addr)(w:World)(hc:w.cell? ⟨V,0,none⟩=some (.pointer (some p))):(callFunc 80 #[.agg #[.pointer (some ⟨11,147,none⟩),.pointer (some ⟨V,0,none⟩),.int .u64 150]]).run Tryz.prog w=.ok (.value (.bool false)) w:=by
 rw[run_callFunc_extern Tryz.func80 (by kernel_rfl) (by kernel_rfl) (by kernel_rfl) (e:=ReflectliteValue.method (ReflectliteValue.valueError "reflectlite.Value.IsNil" 0) ReflectliteValue.isNil) (by kernel_rfl),rv_method]
 simp only[Sem.run_bind,pt_PP,Result.andThen_ok];show((ReflectliteValue.isNil 147 ⟨V,0,none⟩ 150 22).run Tryz.prog w).andThen _=_;unfold ReflectliteValue.isNil;simp[lv_PP _ _ _ hc]
theorem as_velem(V:Nat)(p:Addr)(w:World)(hc:w.cell? ⟨V,0,none⟩=some (.pointer (some p))):(callFunc 105 #[.agg #[.pointer (some ⟨11,147,none⟩),.pointer (some ⟨V,0,none⟩),.int .u64 150]]).run Tryz.prog w=.ok (.value (.agg #[.pointer (some ⟨11,71,none⟩),.pointer (some p),.int .u64 406])) w:=by
 rw[run_callFunc_extern Tryz.func105 (by kernel_rfl) (by kernel_rfl) (by kernel_rfl) (e:=ReflectliteValue.method (ReflectliteValue.valueError "reflectlite.Value.Elem" 0) ReflectliteValue.elem) (by kernel_rfl),rv_method]
 simp only[Sem.run_bind,pt_PP,Result.andThen_ok];show((ReflectliteValue.elem 147 ⟨V,0,none⟩ 150 22).run Tryz.prog w).andThen _=_;unfold ReflectliteValue.elem;simp[lv_PP _ _ _ hc,el_PP,mk_P]
theorem as_set(F V:Addr)(x v:Value)(w:World)(hv:w.cell? V=some v)(hp:∃p,v=.pointer p)(hx:w.cell? F=some x)(hf:w.frozen? F=false):
  (callFunc 106 #[.agg #[.pointer (some ⟨11,71,none⟩),.pointer (some F),.int .u64 406],.agg #[.pointer (some ⟨11,71,none⟩),.pointer (some V),.int .u64 150]]).run Tryz.prog w=.ok (.value (.tuple #[])) (w.setCell F v):=by
 rw[run_callFunc_extern Tryz.func106 (by kernel_rfl) (by kernel_rfl) (by kernel_rfl) (e:=ReflectliteValue.set) (by kernel_rfl)];have e:∀a b:Value,ReflectliteValue.set #[a,b]=(do
  let (some (dst,a,fl),some (src,b,_)):=(<- ReflectliteValue.parts a,<- ReflectliteValue.parts b)
   |unsupported (.noEntry "extern/(internal/reflectlite.Value).Set.zeroValue")
  if fl / ReflectliteValue.flagAddr % 2==0 then unsupported (.noEntry "extern/(internal/reflectlite.Value).Set.unaddressable")
  let val <- loadVar src b
  if <- Rtype.directlyAssignable dst src then storeVar dst a val
  else if <- Rtype.implements dst src then
   if (<- Rtype.kind src)==20 then
    match val with
    | .nilIface=>unsupported (.noEntry "extern/reflectlite: a nil value of one interface type handed on as a value of another")
    |_=>storeVar dst a val
   else storeVar dst a (.iface src val)
  else panicString ("reflectlite.Set: value of type " ++ (<- Rtype.spelt src) ++ " is not assignable to type " ++ (<- Rtype.spelt dst))
  pure (.tuple #[])):=λ_ _=>rfl
 rw[e];simp[pt_PA,pt_P,lv_P _ _ _ hv,da_P,sv_P _ _ _ _ hx hf hp,ReflectliteValue.flagAddr]
def Zbc(w:World):Prop:=w.cell? ⟨9,0,none⟩=some (.iface 212 (.agg #[.pointer (some ⟨11,35,none⟩)]))
theorem Zfy{w:World}(o:Obj){n:Nat}(i:Nat)(h:n<w.heap.size):(w.alloc o).frozen? ⟨n,i,none⟩=w.frozen? ⟨n,i,none⟩:=
 World.frozen?_of_block (w:=w) (Below.heap_alloc w o n h)
theorem as_fault(F:Nat)(a x:Value)(hav:∃p,a=.pointer p)(V:Nat)(w:World)(hv:w.cell? ⟨V,0,none⟩=some (.pointer (some ⟨F,0,none⟩)))(hx:w.cell? ⟨F,0,none⟩=some x)(hf:w.frozen? ⟨F,0,none⟩=false)(hF:F<w.heap.size)(hV:V<w.heap.size):
  Calls Tryz.prog 81 #[.iface 71 a,.iface 147 (.pointer (some ⟨F,0,none⟩)),.agg #[.pointer (some ⟨11,147,none⟩),.pointer (some ⟨V,0,none⟩),.int .u64 150],.iface 212 (rty 71)] w
   λe w'=>e=.returned (.bool true)/\w'.cell? ⟨F,0,none⟩=some a/\w.heap.size<=w'.heap.size/\Below F w w':=by
 obtain⟨p,rfl⟩:=hav;have k1:=typeOf_f;have k2:=as_assF;have k3:=λw=>as_valueOfF (.pointer p) w ⟨p,rfl⟩;have k4:=λo=>as_velem V ⟨F,0,none⟩ (w.alloc o) (by rw[World.cell?_alloc_past _ _ _ hV];exact hv);have k5:=λo=>as_set ⟨F,0,none⟩ ⟨w.heap.size+1,0,none⟩ x (.pointer p) ((w.alloc o).alloc (.cells #[.pointer p] 71)) (by simp) ⟨p,rfl⟩ (by rw[World.cell?_alloc_past _ _ _ (by simp;omega),World.cell?_alloc_past _ _ _ hF];exact hx) (by rw[Zfy _ _ (by simp;omega),Zfy _ _ hF];exact hf);go_enter Tryz.func81,Tryz.ntmps81;go_wp2_with fail;refine wp_loop_rounds 1 ?_;rw[rounds_succ];go_wp2_with fail;go_ret;have hs:(w.setCell ⟨F,0,none⟩ (.pointer p)).heap.size=w.heap.size:=World.size_setCell _ _ _;refine⟨rfl,?_,by rw[World.size_alloc,World.size_alloc,hs];omega,(((Below.refl F w).setCell Ylr _).alloc (by rw[hs];omega) _).alloc (by rw[World.size_alloc,hs];omega) _⟩;rw[World.cell?_alloc_past _ _ _ (by rw[World.size_alloc,hs];omega),World.cell?_alloc_past _ _ _ (by rw[hs];exact hF),World.cell?_setCell_same' _ _ _ (by rw[hx];rfl)]
theorem as_sent(F:Nat)(a:Value)(V:Nat)(w:World):
  Calls Tryz.prog 81 #[.iface 256 a,.iface 147 (.pointer (some ⟨F,0,none⟩)),.agg #[.pointer (some ⟨11,147,none⟩),.pointer (some ⟨V,0,none⟩),.int .u64 150],.iface 212 (rty 71)] w
   λe w'=>e=.returned (.bool false)/\Ybw w w':=by
 have k1:=Zgb;have k2:=as_assE;have nA:=noAsE;have uE:=noUnwrapE;have vE:=Zji;go_enter Tryz.func81,Tryz.ntmps81;go_wp2_with fail;refine wp_loop_rounds 1 ?_;rw[rounds_succ];go_wp2_with fail;go_ret;exact⟨rfl,by go_grown⟩
theorem As_fault(F:Nat)(a x:Value)(hav:∃p,a=.pointer p)(w:World)(hx:w.cell? ⟨F,0,none⟩=some x)(hf:w.frozen? ⟨F,0,none⟩=false)(hF:F<w.heap.size)(hE:Zbc w)(hEg:9<w.heap.size):
  Calls Tryz.prog 56 #[.iface 71 a,.iface 147 (.pointer (some ⟨F,0,none⟩))] w
   λe w'=>e=.returned (.bool true)/\w'.cell? ⟨F,0,none⟩=some a/\w.heap.size<=w'.heap.size/\Below F w w':=by
 have j1:=λw=>as_valueOf (.pointer (some ⟨F,0,none⟩)) w ⟨_,rfl⟩;have j2:=λV w=>as_type (.pointer (some V)) V rfl w;have j3:=as_kindPP;have j4:=as_kindP;have j5:=as_elem;have j6:=as_impl;have j7:=λo=>as_isNil w.heap.size ⟨F,0,none⟩ ((w.alloc (.cells #[.pointer (some ⟨F,0,none⟩)] 147)).alloc o) (by simp);unfold Zbc at hE;go_enter Tryz.func56,Tryz.ntmps56;go_wp2_with fail;have hW:∀o1 o2,((w.alloc o1).alloc o2).heap.size=w.heap.size+2:=λo1 o2=>by rw[World.size_alloc,World.size_alloc]
 refine(as_fault F a x hav w.heap.size _ (by simp) (by rw[World.cell?_alloc_past _ _ _ (by rw[World.size_alloc];omega),World.cell?_alloc_past _ _ _ hF];exact hx) (by rw[Zfy _ _ (by rw[World.size_alloc];omega),Zfy _ _ hF];exact hf) (by rw[hW];omega) (by rw[hW];omega)).mono ?_;rintro e w' ⟨rfl,h1,h2,h3⟩;rw[hW] at h2;have h4:Below F w w':=(((Below.refl F w).alloc (Nat.le_of_lt hF) _).alloc (by rw[World.size_alloc];omega) _).trans h3;clear h3 hW;go_wp2_with fail;go_ret;exact⟨rfl,h1,by omega,h4⟩
theorem As_sent(F:Nat)(a:Value)(w:World)(hE:Zbc w)(hEg:9<w.heap.size):
  Calls Tryz.prog 56 #[.iface 256 a,.iface 147 (.pointer (some ⟨F,0,none⟩))] w
   λe w'=>e=.returned (.bool false)/\Ybw w w':=by
 have j1:=λw=>as_valueOf (.pointer (some ⟨F,0,none⟩)) w ⟨_,rfl⟩;have j2:=λV w=>as_type (.pointer (some V)) V rfl w;have j3:=as_kindPP;have j4:=as_kindP;have j5:=as_elem;have j6:=as_impl;have j7:=λo=>as_isNil w.heap.size ⟨F,0,none⟩ ((w.alloc (.cells #[.pointer (some ⟨F,0,none⟩)] 147)).alloc o) (by simp);unfold Zbc at hE;go_enter Tryz.func56,Tryz.ntmps56;go_wp2_with fail;have hW:∀o1 o2,((w.alloc o1).alloc o2).heap.size=w.heap.size+2:=λo1 o2=>by rw[World.size_alloc,World.size_alloc]
 refine(as_sent F a w.heap.size _).mono ?_;rintro e w' ⟨rfl,h3⟩;have h4:Ybw w w':=(((Below.refl w.heap.size w).alloc Ylr _).alloc (by rw[World.size_alloc];omega) _).trans (h3.mono (by rw[hW];omega));clear h3 hW;go_wp2_with fail;go_ret;exact⟨rfl,h4⟩
structure Zkr(w:World)(p:Nat->Addr):Prop where
 c0:w.cell? ⟨3,0,none⟩=some (.iface 256 (.pointer (some (p 0))))
 c1:w.cell? ⟨0,0,none⟩=some (.iface 256 (.pointer (some (p 1))))
 c2:w.cell? ⟨2,0,none⟩=some (.iface 256 (.pointer (some (p 2))))
 c3:w.cell? ⟨4,0,none⟩=some (.iface 256 (.pointer (some (p 3))))
 c4:w.cell? ⟨1,0,none⟩=some (.iface 256 (.pointer (some (p 4))))
 c5:w.cell? ⟨5,0,none⟩=some (.iface 256 (.pointer (some (p 5))))
 c6:w.cell? ⟨6,0,none⟩=some (.iface 256 (.pointer (some (p 6))))
 c7:w.cell? ⟨7,0,none⟩=some (.iface 256 (.pointer (some (p 7))))
 c8:w.cell? ⟨8,0,none⟩=some (.iface 256 (.pointer (some (p 8))))
 row:∀i,i<9->∃c t,w.heap[(p i).block]?=some (.cells c t (0,0))
 inj:∀i j,i<9->j<9->p i=p j->i=j
 big:10<=w.heap.size
theorem Zkr.below{w w':World}{p:Nat->Addr}(h:Zkr w p)(hb:Ybw w w'):Zkr w' p:=by
 have hg:=h.big;have hc:∀b,b<10->w'.cell? ⟨b,0,none⟩=w.cell? ⟨b,0,none⟩:=λb Ji=>hb.cell (p:=⟨b,0,none⟩) (Nat.lt_of_lt_of_le Ji hg);refine⟨?_,?_,?_,?_,?_,?_,?_,?_,?_,λi hi=>?_,h.inj,Nat.le_trans hg hb.size⟩
 .rw [hc _ (by decide)];exact h.c0
 .rw [hc _ (by decide)];exact h.c1
 .rw [hc _ (by decide)];exact h.c2
 .rw [hc _ (by decide)];exact h.c3
 .rw [hc _ (by decide)];exact h.c4
 .rw [hc _ (by decide)];exact h.c5
 .rw [hc _ (by decide)];exact h.c6
 .rw [hc _ (by decide)];exact h.c7
 .rw [hc _ (by decide)];exact h.c8
 obtain⟨c,t,hr⟩:=h.row i hi;exact⟨c,t,by rw[hb.block _ (Zlt hr)];exact hr⟩
theorem Zkr.five{w:World}{p:Nat->Addr}(h:Zkr w p):Sen5 w p:=⟨h.c1,h.c2,h.c4,h.c5,h.c6,h.big⟩
theorem code_nil(w:World):Calls Tryz.prog 34 #[.nilIface] w λe w'=>e=.returned (.tuple #[.int .i64 0,.int .i64 (-1)])/\w=w':=by
 go_enter Tryz.func34,Tryz.ntmps34;go_wp2_with fail;go_ret2
 exact⟨rfl,rfl⟩
theorem nine_get(p:Nat->Addr)(k:Nat)(hk:k<9):(#[esv (p 0),esv (p 1),esv (p 2),esv (p 3),esv (p 4),esv (p 5),esv (p 6),esv (p 7),esv (p 8)]:Array Value)[k]?=some (esv (p k)):=by
 match k,hk with
 |0,_=>rfl
 |1,_=>rfl
 |2,_=>rfl
 |3,_=>rfl
 |4,_=>rfl
 |5,_=>rfl
 |6,_=>rfl
 |7,_=>rfl
 |8,_=>rfl
theorem code_sent(p:Nat->Addr)(i:Nat)(hi:i<9)(w:World)(S:Zkr w p)(hE:Zbc w):
  Calls Tryz.prog 34 #[esv (p i)] w λe w'=>e=.returned (.tuple #[.int .i64 (i+1),.int .i64 (-1)])/\Ybw w w':=by
 have hbig:=S.big;unfold esv;go_enter Tryz.func34,Tryz.ntmps34;go_wp2_with fail;refine(As_sent w.heap.size (.pointer (some (p i))) _ (by unfold Zbc;rw[World.cell?_alloc_past _ _ _ (by omega)];exact hE) (by simp;omega)).mono ?_;rintro e w1 ⟨rfl,hb⟩;have hB:Ybw w w1:=((Below.refl w.heap.size w).alloc Ylr _).trans (hb.mono (by simp));have S1:=S.below hB;obtain⟨c0,c1,c2,c3,c4,c5,c6,c7,c8,_,_,hbig1⟩:=id S1;go_wp2_with fail;have SW:=S1.below ((Below.refl _ _).alloc Ylr (.cells #[esv (p 0),esv (p 1),esv (p 2),esv (p 3),esv (p 4),esv (p 5),esv (p 6),esv (p 7),esv (p 8)] 35));have hBW:Ybw w (w1.alloc (.cells #[esv (p 0),esv (p 1),esv (p 2),esv (p 3),esv (p 4),esv (p 5),esv (p 6),esv (p 7),esv (p 8)] 35)):=hB.alloc hB.size _;have yX:∀k,k<9->(w1.alloc (.cells #[esv (p 0),esv (p 1),esv (p 2),esv (p 3),esv (p 4),esv (p 5),esv (p 6),esv (p 7),esv (p 8)] 35)).cell? ⟨w1.heap.size,k,none⟩=some (esv (p k)):=λk hk=>by
  rw[World.cell?_alloc_new];exact nine_get p k hk
 have HN:=Zhd yX;clear yX c0 c1 c2 c3 c4 c5 c6 c7 c8;change Code.wp _ _ _ _ (w1.alloc (.cells #[esv (p 0),esv (p 1),esv (p 2),esv (p 3),esv (p 4),esv (p 5),esv (p 6),esv (p 7),esv (p 8)] 35));generalize w1.alloc (.cells #[esv (p 0),esv (p 1),esv (p 2),esv (p 3),esv (p 4),esv (p 5),esv (p 6),esv (p 7),esv (p 8)] 35)=W at *;generalize w1.heap.size=B at *;go_loop[3,27] (λt v=>∃k:Nat,v=.int .i64 k/\t=.int .i64 (-1)/\k<=i) (λ_ v=>i+1 - (intOf v).toNat)
 case atStart=>exact⟨0,rfl,rfl,Nat.zero_le _⟩
 obtain⟨k,rfl,rfl,hk⟩:=hrel;have yZ:k<9:=by omega
 have hc:=HN.out k yZ;unfold esv at hc;by_cases yl:k=i
 .subst yl;go_wp2_with fail;refine(is_same (p k) _).mono ?_;rintro e w' ⟨rfl,rfl⟩;go_wp2_with fail;go_ret2
  exact⟨rfl,hBW⟩
 obtain⟨ca,ta,ha⟩:=SW.row i hi;obtain⟨cb,tb,hb'⟩:=SW.row k yZ;have Hs:p i≠p k:=λe=>yl (SW.inj _ _ hi yZ e).symm;have HA:=Zhd (And.intro ha hb');clear ha hb';go_wp2_with fail;refine(is_other (p i) (p k) ca cb ta tb _ Hs HA.out.1 HA.out.2).mono ?_;rintro e w' ⟨rfl,rfl⟩;go_wp2_with fail;go_round
 case rel=>exact⟨k+1,by go_num,rfl,by omega⟩
 simp[intOf];omega
theorem code_fault(p:Nat->Addr)(i:Nat)(hi:i<9)(N:Nat)(at_:Int)(w:World)(zh:w.cell? ⟨N,0,none⟩=some (.int .i64 at_))(jM:w.cell? ⟨N,1,none⟩=some (esv (p i)))(S:Zkr w p)(hE:Zbc w):
  Calls Tryz.prog 34 #[.iface 71 (.pointer (some ⟨N,0,none⟩))] w λe w'=>e=.returned (.tuple #[.int .i64 (i+1),.int .i64 at_])/\Ybw w w':=by
 have hbig:=S.big;unfold esv at jM;have Q8:N<w.heap.size:=World.block_lt_of_cell? w ⟨N,0,none⟩ zh;go_enter Tryz.func34,Tryz.ntmps34;go_wp2_with fail;refine(As_fault w.heap.size (.pointer (some ⟨N,0,none⟩)) (.pointer none) ⟨_,rfl⟩ _ (by simp) (by simp) (by simp) (by unfold Zbc;rw[World.cell?_alloc_past _ _ _ (by omega)];exact hE) (by simp;omega)).mono ?_;rintro e w1 ⟨rfl,hF,J5,hb⟩;have hB:Ybw w w1:=((Below.refl w.heap.size w).alloc Ylr _).trans hb;have hn0:w1.cell? ⟨N,0,none⟩=some (.int .i64 at_):=(hB.cell (p:=⟨N,0,none⟩) Q8).trans zh;have hn1:w1.cell? ⟨N,1,none⟩=some (.iface 256 (.pointer (some (p i)))):=(hB.cell (p:=⟨N,1,none⟩) Q8).trans jM;have HN01:=Zhd (And.intro zh jM);clear zh jM;have hNlt1:N<w1.heap.size:=Nat.lt_of_lt_of_le Q8 hB.size;have S1:=S.below hB;obtain⟨c0,c1,c2,c3,c4,c5,c6,c7,c8,_,_,hbig1⟩:=id S1;go_wp2_with fail;have SW:=S1.below ((Below.refl _ _).alloc Ylr (.cells #[esv (p 0),esv (p 1),esv (p 2),esv (p 3),esv (p 4),esv (p 5),esv (p 6),esv (p 7),esv (p 8)] 35));have hBW:Ybw w (w1.alloc (.cells #[esv (p 0),esv (p 1),esv (p 2),esv (p 3),esv (p 4),esv (p 5),esv (p 6),esv (p 7),esv (p 8)] 35)):=hB.alloc hB.size _;have yX:∀k,k<9->(w1.alloc (.cells #[esv (p 0),esv (p 1),esv (p 2),esv (p 3),esv (p 4),esv (p 5),esv (p 6),esv (p 7),esv (p 8)] 35)).cell? ⟨w1.heap.size,k,none⟩=some (esv (p k)):=λk hk=>by
  rw[World.cell?_alloc_new];exact nine_get p k hk
 have gx:(w1.alloc (.cells #[esv (p 0),esv (p 1),esv (p 2),esv (p 3),esv (p 4),esv (p 5),esv (p 6),esv (p 7),esv (p 8)] 35)).cell? ⟨N,1,none⟩=some (.iface 256 (.pointer (some (p i)))):=by rw[World.cell?_alloc_past _ _ _ hNlt1];exact hn1
 clear hn0 hn1 hF hNlt1;have HN:=Zhd yX;clear yX c0 c1 c2 c3 c4 c5 c6 c7 c8;change Code.wp _ _ _ _ (w1.alloc (.cells #[esv (p 0),esv (p 1),esv (p 2),esv (p 3),esv (p 4),esv (p 5),esv (p 6),esv (p 7),esv (p 8)] 35));generalize w1.alloc (.cells #[esv (p 0),esv (p 1),esv (p 2),esv (p 3),esv (p 4),esv (p 5),esv (p 6),esv (p 7),esv (p 8)] 35)=W at *;generalize w1.heap.size=B at *;go_loop[3,27] (λt v=>∃k:Nat,v=.int .i64 k/\t=.int .i64 at_/\k<=i) (λ_ v=>i+1 - (intOf v).toNat)
 case atStart=>exact⟨0,rfl,rfl,Nat.zero_le _⟩
 obtain⟨k,rfl,rfl,hk⟩:=hrel;have yZ:k<9:=by omega
 have hc:=HN.out k yZ;unfold esv at hc;by_cases yl:k=i
 .subst yl;go_wp2_with fail;refine(is_fault_same N (p k) _ gx).mono ?_;rintro e w' ⟨rfl,rfl⟩;go_wp2_with fail;go_ret2
  exact⟨rfl,hBW⟩
 obtain⟨ca,ta,ha⟩:=SW.row i hi;obtain⟨cb,tb,hb'⟩:=SW.row k yZ;have Hs:p i≠p k:=λe=>yl (SW.inj _ _ hi yZ e).symm;have HA:=Zhd (And.intro ha hb');clear ha hb';go_wp2_with fail;refine(is_fault_other N (p i) (p k) ca cb ta tb _ gx Hs HA.out.1 HA.out.2).mono ?_;rintro e w' ⟨rfl,rfl⟩;go_wp2_with fail;go_round
 case rel=>exact⟨k+1,by go_num,rfl,by omega⟩
 simp[intOf];omega
theorem Tryz.infoBuilder:(Tryz.prog.info? 132).map (λi=>i.size)=some 2:=by kernel_rfl
theorem Tryz.infoByte:(Tryz.prog.info? 5).map (λi=>(i.zero,i.size,i.bytes))=some (some (.int .u8 0),1,1):=by kernel_rfl
theorem Tryz.liesBuilder:liesAt Tryz.prog Tryz.prog.depth 132 (2 / Tryz.prog.cellsOf 132) 0 132 1=true:=by kernel_rfl
theorem as_noEscape(x:Value)(w:World):(callFunc 100 #[x]).run Tryz.prog w=.ok (.value x) w:=by kernel_rfl
theorem copyCheck_used(b:Nat)(w:World)(h0:w.cell? ⟨b,0,none⟩=some (.pointer (some ⟨b,0,none⟩))):
  Calls Tryz.prog 73 #[.pointer (some ⟨b,0,none⟩)] w λe w'=>e=.returned (.tuple #[])/\w=w':=by
 obtain⟨j,hj,_⟩:=Option.map_eq_some_iff.1 Tryz.infoBuilder;go_enter Tryz.func73,Tryz.ntmps73;go_wp2
 rw[Lib.run_neq_ptr_same w _ Tryz.underlying129 hj];go_wp2
 go_end0
 exact⟨rfl,rfl⟩
theorem copyCheck_fresh(b:Nat)(w:World)(h0:w.cell? ⟨b,0,none⟩=some (.pointer none))(hsh:w.shape? b=some (132,2))(hfz:w.frozen? ⟨b,0,none⟩=false):
  Calls Tryz.prog 73 #[.pointer (some ⟨b,0,none⟩)] w λe w'=>e=.returned (.tuple #[])/\w.setCell ⟨b,0,none⟩ (.pointer (some ⟨b,0,none⟩))=w':=by
 obtain⟨j,hj,hjs⟩:=Option.map_eq_some_iff.1 Tryz.infoBuilder;go_enter Tryz.func73,Tryz.ntmps73;go_wp2
 rw[Lib.run_to_unsafe w ⟨b,0,none⟩ Tryz.underlying129 Tryz.underlying178 hj (by rw[hjs];decide) hsh (Nat.zero_lt_succ 1)];simp only[Result.andThen];rw[Oper.upon_value];go_wp2
 rw[as_noEscape];rw[Oper.upon_value];go_wp2
 rw[Lib.run_from_unsafe w ⟨b,0,none⟩ Tryz.underlying178 Tryz.underlying129 hj hsh Tryz.liesBuilder];simp only[Result.andThen];rw[Oper.upon_value];go_wp2
 go_end0
 exact⟨rfl,rfl⟩
def OthersK(b:Nat)(w w':World):Prop:=∀(k:Nat) (c:Array Value) (T:TypeId) (fr:Nat×Nat),w.heap[k]?=some (.cells c T fr)->k≠b->T≠5->w'.heap[k]?=some (.cells c T fr)
theorem copyCheck_any(B b:Nat)(bs:List Value)(w:World)(h:Lib.IsBuilderF 132 5 B b bs w):
  Calls Tryz.prog 73 #[.pointer (some ⟨b,0,none⟩)] w λe w'=>e=.returned (.tuple #[])/\(Lib.BuilderAtF 132 5 B b (.pointer (some ⟨b,0,none⟩)) bs w'/\Below B w w'/\OthersK b w w'):=by
 rcases h with h|h
 .refine (copyCheck_fresh b w h.cell0 h.shape h.frozen0).mono ?_;rintro e w' ⟨rfl,rfl⟩;exact⟨rfl,h.used _,(Below.refl B w).setCell (p:=⟨b,0,none⟩) h.1 _,λk c T fr hk Hs _=>by rw[Below.heap_setCell w ⟨b,0,none⟩ _ k Hs];exact hk⟩
 refine(copyCheck_used b w h.cell0).mono ?_;rintro e w' ⟨rfl,rfl⟩;exact⟨rfl,h,Below.refl B _,λk c T fr hk _ _=>hk⟩
open Go.RowKit Go.ChangeShapes
def VarReads(P:Program)(w:World)(n:String)(d:DataW Unit):Prop:=
 ∃g t cs fuel p,P.globalNamed n=some g/\(P.globals[g]?).map (·.type)=some t/\w.var? P n=some cs/\DataW.trod (λ_=>()) P w 0 (λ_=>true) false fuel t cs.toList=some (d,p)
theorem Zj8{P:Program}{w:World}:∀{l:List (String×DataW Unit)} {ps:List MemPlace},DataW.LaidVars P w l ps->∀x∈l,VarReads P w x.1 x.2
 | [],_,_,x,hx=>by cases hx
 |(n,d) :: r,ps,h,x,hx=>by
  obtain⟨g,t,cs,fuel,p,q,h1,h2,h3,h4,h5,_⟩:=h;rcases List.mem_cons.1 hx with rfl|hx
  .exact⟨g,t,cs,fuel,p,h1,h2,h3,h4⟩
  exact Zj8 h5 x hx
theorem laidMet_reads{P:Program}{w:World}{l:List (String×DataW Unit)}(h:laidMet P l w){n:String}{d:DataW Unit}(hx:(n,d)∈l):VarReads P w n d:=by
 obtain⟨ps,hv,_⟩:=h;exact Zj8 hv (n,d) hx
def sentE(x:String×List UInt8):String×DataW Unit:=(x.1,.iface "*errors.errorString" (.ptr (.agg [.lit (.string x.2)])))
theorem Zfm{a:Addr}{W:World}{s:ByteArray}(h:W.cell? a=some (.string s)):a.spot=none:=by
 unfold World.cell? at h
 split at h
 .cases hsp:a.spot with
  |none=>rfl
  |some x=>rw[hsp] at h;simp at h
 cases h
theorem cell_spot{a:Addr}{W:World}{v:Value}(h:W.cell? a=some v):a.spot=none:=by
 unfold World.cell? at h
 split at h
 .cases hsp:a.spot with
  |none=>rfl
  |some x=>rw[hsp] at h;simp at h
 cases h
theorem row_one{a:Addr}:MemPlace.row a 1=[MemPlace.cell a.block a.off]:=by
 simp[MemPlace.row]
theorem star:("*errors.errorString" : String) = "*" ++ "errors.errorString":=by decide
theorem name_sent:∀u,Tryz.prog.typeName? 3 u=some "*errors.errorString" -> u=256:=λu h=>
 typeName_ptr_named (nm := "errors.errorString") (by rw[<- star];kernel_rfl) (by kernel_rfl) (by decide) u (by rw[<- star];exact h)
theorem sents_list{W:World}:∀(L:List (String×List UInt8)) (ps:List MemPlace),DataW.LaidVars Tryz.prog W (L.map sentE) ps->ps.Nodup->
  (∀b off,MemPlace.cell b off∈ps->(∃c t,W.heap[b]?=some (.cells c t (0,0)))/\∀u v,W.cell? ⟨b,off,none⟩=some (.iface u v)->Value.okWide Tryz.prog W .any 0 u v)->
  (∀x∈L,∃g,Tryz.prog.globalNamed x.1=some g/\(Tryz.prog.globals[g]?).map (·.type)=some 35)->
  ∃p:Nat->Addr,(∀i x,L[i]?=some x->W.var? Tryz.prog x.1=some #[.iface 256 (.pointer (some (p i)))]/\(∃s,W.cell? (p i)=some (.string s)/\s.data.toList=x.2)/\
    (∃c t,W.heap[(p i).block]?=some (.cells c t (0,0)))/\MemPlace.cell (p i).block (p i).off∈ps)/\
   ∀i j,i<L.length->j<L.length->p i=p j->i=j
 | [],_,_,_,_,_=>⟨λ_=>⟨0,0,none⟩,λi x h=>by simp at h,λi _ h=>by simp at h⟩
 |x :: r,ps,hv,hnd,hrows,hg=>by
  obtain⟨g0,t0,cs0,f0,p0,q0,hg0,ht0,hv0,hd0,hq,e0⟩:=hv;subst e0;obtain⟨g,hg1,yV⟩:=hg x (List.mem_cons_self ..);obtain rfl:=Option.some.inj (hg1.symm.trans hg0);obtain rfl:=Option.some.inj (yV.symm.trans ht0);have ok0:∀u v,cs0.toList=[.iface u v]->Value.okWide Tryz.prog W .any 0 u v:=λu v e=>by
   obtain⟨l0⟩:=cs0;simp only at e;subst e;exact(hrows g 0 (by simp[MemPlace.row])).2 u v (by simpa using World.var?_cell hg0 hv0 0)
  obtain⟨a,s,JJ,hc,hs,_,hp0⟩:=errorString_of_trod Tryz.underlying35 name_sent Tryz.underlying256 Tryz.underlying276 rfl rfl Tryz.underlying9 (by kernel_rfl) (by kernel_rfl) hd0 ok0;subst hp0;have hcs':cs0 = #[.iface 256 (.pointer (some a))]:=by
   obtain⟨l0⟩:=cs0;simp only at JJ;rw[JJ]
  subst hcs';rw[row_one] at hnd hrows;obtain⟨p,hp,vJ⟩:=sents_list r q0 hq (List.Nodup.sublist (List.sublist_append_right _ _) hnd) (λb off hm=>hrows b off (List.mem_append_right _ hm)) (λy hy=>hg y (List.mem_cons_of_mem _ hy));have hna:MemPlace.cell a.block a.off∉q0:=by
   rw[List.append_assoc,List.nodup_append] at hnd;have:=(List.nodup_append.1 hnd.2.1).2.2;intro hm;exact this _ (List.mem_singleton.2 rfl) _ hm rfl
  refine⟨fun|0=>a|i+1=>p i,?_,?_⟩
  .intro i y hy
   match i with
   |0=>
    simp only[List.getElem?_cons_zero,Option.some.injEq] at hy;subst hy;exact⟨hv0,⟨s,hc,hs⟩,(hrows a.block a.off (by simp)).1,by simp[row_one]⟩
   |i+1=>
    have h:=hp i y (by simpa using hy);exact⟨h.1,h.2.1,h.2.2.1,List.mem_append_right _ h.2.2.2⟩
  intro i j hi hj hij
  match i,j with
  |0,0=>rfl
  |0,j+1=>
   have h:=(hp j _ (List.getElem?_eq_getElem (by simpa using hj))).2.2.2;simp only at hij;rw[<- hij] at h;exact absurd h hna
  |i+1,0=>
   have h:=(hp i _ (List.getElem?_eq_getElem (by simpa using hi))).2.2.2;simp only at hij;rw[hij] at h;exact absurd h hna
  |i+1,j+1=>rw[vJ i j (by simpa using hi) (by simpa using hj) hij]
theorem laidVars_sub{P:Program}{w:World}{l' l:List (String×DataW Unit)}(hs:l'.Sublist l):∀ps,DataW.LaidVars P w l ps->∃qs,DataW.LaidVars P w l' qs/\qs.Sublist ps:=by
 induction hs with
 |slnil=>intro ps h;exact⟨ps,h,List.Sublist.refl _⟩
 |cons x _ ih=>
  intro ps h;obtain⟨n,d⟩:=x;obtain⟨g,t,cs,fuel,p,q,_,_,_,_,hq,rfl⟩:=h;obtain⟨qs,h1,h2⟩:=ih q hq;exact⟨qs,h1,h2.trans (List.sublist_append_right _ _)⟩
 |cons_cons x _ ih=>
  intro ps h;obtain⟨n,d⟩:=x;obtain⟨g,t,cs,fuel,p,q,h1,h2,h3,h4,hq,rfl⟩:=h;obtain⟨qs,h5,h6⟩:=ih q hq;exact⟨_,⟨g,t,cs,fuel,p,qs,h1,h2,h3,h4,h5,rfl⟩,(List.Sublist.refl _).append h6⟩
theorem laidMet_sub{P:Program}{w:World}{l' l:List (String×DataW Unit)}(hs:l'.Sublist l)(h:laidMet P l w):laidMet P l' w:=by
 obtain⟨ps,hv,hn,hr⟩:=h;obtain⟨qs,h1,h2⟩:=laidVars_sub hs ps hv;exact⟨qs,h1,hn.sublist h2,λb off hm=>hr b off (h2.subset hm)⟩
open Go.RowKit Go.ChangeShapes Mx
theorem Zd7{P:Program}{w:World}{ls:List (List UInt8)}{t e fuel:Nat}{cs:List Value}{p:List MemPlace}(h4:DataW.trod (λ_=>()) P w 0 (λ_=>true) false fuel t cs=some (.slice (ls.map λl => .lit (.string l)) [],p))
  (hs:P.underlying t=some (.slice e)) (he:P.underlying e=some .string) (hce:P.cellsOf e=1) (Hs:ls≠[]):∃v,cs=[v]/\Zfp (Zan w) v (ls.map λl=>⟨l.toArray⟩):=by
 rcases open_strings hs he hce h4 with ⟨rfl,hx⟩|⟨a,len,Ha,ss,rfl,_,hlc,Qv,hl,hx,kS,J5⟩
 .simp at hx
 simp only[Prod.mk.injEq,DataW.slice.injEq] at hx;obtain⟨⟨jK,qt⟩,_⟩:=hx;have Ho:ss.length=Ha:=by simpa using hl
 have hd:ss.drop len=[]:=by
  have:=congrArg List.length qt;simp[strs] at this;exact List.drop_eq_nil_of_le (by omega)
 have hlen2:len=Ha:=by
  have:=congrArg List.length hd;simp at this;omega
 have ht:ss.take len=ss:=by rw[List.take_of_length_le];omega
 rw[ht] at jK;have gW:ls=ss.map λs=>s.data.toList:=by
  have:=congrArg (List.map λd:DataW Unit=>match d with|.lit (.string l)=>l|_=>[]) jK;simpa[strs,Function.comp_def] using this
 have hss:(ls.map λl=>(⟨l.toArray⟩:ByteArray))=ss:=by
  rw[gW,List.map_map]
  conv=>rhs;rw[<- List.map_id ss]
  exact List.map_congr_left λs _=>by simp
 rw[hss];refine⟨_,rfl,.inr ?_⟩;have hpos:0<ss.length:=by
  cases ss with
  |nil=>simp at gW;exact absurd gW Hs
  |cons a l=>simp
 have hspot:a.spot=none:=by
  have h0:=kS 0 hpos;have e0:a.add 0=a:=by unfold Addr.add;simp
  rw[e0] at h0;unfold World.cell? at h0
  split at h0
  .cases hsp:a.spot with
   |none=>rfl
   |some x=>rw[hsp] at h0;simp at h0
  cases h0
 obtain⟨b,off,sp⟩:=a;dsimp only at hspot;subst hspot;refine⟨b,off,Ha,by rw[Ho,hlen2],by omega,Qv,λi hi=>?_⟩;have h0:=kS i hi;have ea:(⟨b,off,none⟩:Addr).add i=⟨b,off+i,none⟩:=by unfold Addr.add;split<;>simp_all
 rw[ea] at h0;show(Zan w).cell b (off+i * 1+0)=_;rw[Zaj,Nat.mul_one,Nat.add_zero,h0,List.getElem?_eq_getElem hi];simp[List.getD,List.getElem?_eq_getElem hi]
theorem levels_of{w:World}(h:VarReads Tryz.prog w "lustrum/tree.levels" Rows.laid_lustrum_tree_levels):Zbv (Zan w):=by
 obtain⟨g',t',cs,fuel,p,h1,h2,h3,h4⟩:=h;have hg:Tryz.prog.globalNamed "lustrum/tree.levels" = some 10:=by kernel_rfl
 obtain rfl:=Option.some.inj (hg.symm.trans h1);have ht:(Tryz.prog.globals[10]?).map (·.type)=some 255:=by kernel_rfl
 obtain rfl:=Option.some.inj (ht.symm.trans h2);have hc:∀i,w.cell? ⟨10,i,none⟩=cs[i]?:=λi=>World.var?_cell hg h3 i;obtain⟨xs,m,rfl,hx,Ho,hxl,hel⟩:=DataW.trod_array Tryz.underlying255 h4;have hce:Tryz.prog.cellsOf 23=1:=by kernel_rfl
 have JJ:Tryz.prog.cellsOf 9=1:=by kernel_rfl
 have hca:Tryz.prog.cellsOf 255=5:=by kernel_rfl
 rw[hca] at Ho;rw[hce] at hel;have gW:xs.map (·.1)=[.slice [.lit (.string [111,114]),.lit (.string [120,111,114])] [],.slice [.lit (.string [97,110,100])] [],.slice [.lit (.string [61]),.lit (.string [60,62]),.lit (.string [60]),.lit (.string [60,61]),.lit (.string [62]),.lit (.string [62,61]),.lit (.string [61,62])] [],.slice [.lit (.string [43]),.lit (.string [45])] [],.slice [.lit (.string [42]),.lit (.string [47]),.lit (.string [109,111,100])] []]:=by
  have:=congrArg Prod.fst hx;simp only[Rows.laid_lustrum_tree_levels,DataW.agg.injEq] at this;exact this.symm
 have xh:∃t fr,w.heap[10]?=some (.cells cs t fr):=by
  simp only[World.var?,hg,Option.bind_some] at h3
  split at h3
  .rename_i c t fr he
   cases h3;exact⟨t,fr,he⟩
  cases h3
 obtain⟨tb,fr,xh⟩:=xh;clear hx h4 hc h3 h1 h2 ht hg;obtain⟨cl⟩:=cs;obtain⟨c0,c1,c2,c3,c4,rfl⟩:∃c0 c1 c2 c3 c4,cl=[c0,c1,c2,c3,c4]:=by
  match cl,Ho with
  | [c0,c1,c2,c3,c4],_=>exact⟨_,_,_,_,_,rfl⟩
 obtain⟨⟨d0,p0⟩,⟨d1,p1⟩,⟨d2,p2⟩,⟨d3,p3⟩,⟨d4,p4⟩,rfl⟩:∃x0 x1 x2 x3 x4,xs=[x0,x1,x2,x3,x4]:=by
  match xs,hxl with
  | [x0,x1,x2,x3,x4],_=>exact⟨_,_,_,_,_,rfl⟩
 simp only[List.map_cons,List.map_nil,List.cons.injEq,and_true] at gW;obtain⟨m0,m1,m2,m3,m4⟩:=gW;subst m0 m1 m2 m3 m4;obtain⟨_,e0,s0⟩:=Zd7 (ls:=[[111,114],[120,111,114]]) (hel 0 (by decide)) Tryz.underlying23 Tryz.underlying9 JJ (by simp);obtain⟨_,e1,s1⟩:=Zd7 (ls:=[[97,110,100]]) (hel 1 (by decide)) Tryz.underlying23 Tryz.underlying9 JJ (by simp);obtain⟨_,e2,s2⟩:=Zd7 (ls:=[[61],[60,62],[60],[60,61],[62],[62,61],[61,62]]) (hel 2 (by decide)) Tryz.underlying23 Tryz.underlying9 JJ (by simp);obtain⟨_,e3,s3⟩:=Zd7 (ls:=[[43],[45]]) (hel 3 (by decide)) Tryz.underlying23 Tryz.underlying9 JJ (by simp);obtain⟨_,e4,s4⟩:=Zd7 (ls:=[[42],[47],[109,111,100]]) (hel 4 (by decide)) Tryz.underlying23 Tryz.underlying9 JJ (by simp);simp at e0 e1 e2 e3 e4;subst e0 e1 e2 e3 e4;exact⟨_,_,_,_,_,_,_,xh,s0,s1,s2,s3,s4⟩
def nm:Nat->ByteArray
 |0=>⟨#[116,101,120,116]⟩
 |1=>⟨#[98,111,117,110,100]⟩
 |2=>⟨#[115,104,97,112,101]⟩
 |3=>⟨#[110,97,109,101]⟩
 |4=>⟨#[116,121,112,101]⟩
 |5=>⟨#[99,121,99,108,101]⟩
 |6=>⟨#[102,105,114,115,116]⟩
 |7=>⟨#[112,114,111,111,102]⟩
 |_=>⟨#[110,111,110,101]⟩
def senT:Nat->String×List UInt8
 |0=>("lustrum/api.ErrText",[108,117,115,116,114,117,109,58,32,116,101,120,116])
 |1=>("lustrum/api.ErrBound",[108,117,115,116,114,117,109,58,32,98,111,117,110,100])
 |2=>("lustrum/api.ErrShape",[108,117,115,116,114,117,109,58,32,115,104,97,112,101])
 |3=>("lustrum/api.ErrName",[108,117,115,116,114,117,109,58,32,110,97,109,101])
 |4=>("lustrum/api.ErrType",[108,117,115,116,114,117,109,58,32,116,121,112,101])
 |5=>("lustrum/api.ErrCycle",[108,117,115,116,114,117,109,58,32,99,121,99,108,101])
 |6=>("lustrum/api.ErrFirst",[108,117,115,116,114,117,109,58,32,102,105,114,115,116])
 |7=>("lustrum/api.ErrProof",[108,117,115,116,114,117,109,58,32,112,114,111,111,102])
 |_=>("lustrum/api.ErrNone",[108,117,115,116,114,117,109,58,32,110,111,110,101])
def gErr:Nat->Nat
 |0=>3
 |1=>0
 |2=>2
 |3=>4
 |4=>1
 |5=>5
 |6=>6
 |7=>7
 |_=>8
theorem sen_glob(i:Nat)(hi:i<9):Tryz.prog.globalNamed (senT i).1=some (gErr i)/\(Tryz.prog.globals[gErr i]?).map (·.type)=some 35:=by
 match i,hi with
 |0,_=>exact⟨by kernel_rfl,by kernel_rfl⟩
 |1,_=>exact⟨by kernel_rfl,by kernel_rfl⟩
 |2,_=>exact⟨by kernel_rfl,by kernel_rfl⟩
 |3,_=>exact⟨by kernel_rfl,by kernel_rfl⟩
 |4,_=>exact⟨by kernel_rfl,by kernel_rfl⟩
 |5,_=>exact⟨by kernel_rfl,by kernel_rfl⟩
 |6,_=>exact⟨by kernel_rfl,by kernel_rfl⟩
 |7,_=>exact⟨by kernel_rfl,by kernel_rfl⟩
 |8,_=>exact⟨by kernel_rfl,by kernel_rfl⟩
theorem sen_text(i:Nat)(hi:i<9):(senT i).2=((⟨#[108,117,115,116,114,117,109,58,32]⟩:ByteArray)++nm i).data.toList:=by
 match i,hi with
 |0,_=>rfl
 |1,_=>rfl
 |2,_=>rfl
 |3,_=>rfl
 |4,_=>rfl
 |5,_=>rfl
 |6,_=>rfl
 |7,_=>rfl
 |8,_=>rfl
theorem sents_of{W:World}{l:List (String×DataW Unit)}(h:laidMet Tryz.prog l W)(ord:List Nat)(qe:ord.length=9)(Hr:∀i∈ord,i<9)(hidx:∀i,i<9->ord[ord.idxOf i]?=some i)
  (hs:((ord.map senT).map sentE).Sublist l) (hE:Zbc W):
  ∃p,Zkr W p/\∀i,i<9->W.cell? (p i)=some (.string ((⟨#[108,117,115,116,114,117,109,58,32]⟩:ByteArray)++nm i)):=by
 obtain⟨ps,hv,hn,hr⟩:=laidMet_sub hs h;obtain⟨p,hp,vJ⟩:=sents_list (ord.map senT) ps hv hn hr (λx hx=>by
  obtain⟨i,hi,rfl⟩:=List.mem_map.1 hx;exact⟨gErr i,sen_glob i (Hr i hi)⟩)
 have key:∀i,i<9->W.cell? ⟨gErr i,0,none⟩=some (.iface 256 (.pointer (some (p (ord.idxOf i)))))/\(∃s,W.cell? (p (ord.idxOf i))=some (.string s)/\s.data.toList=(senT i).2)/\(∃c t,W.heap[(p (ord.idxOf i)).block]?=some (.cells c t (0,0))):=λi hi=>by
  have h1:=hp (ord.idxOf i) (senT i) (by rw[List.getElem?_map,hidx i hi];rfl);refine⟨?_,h1.2.1,h1.2.2.1⟩;have:=World.var?_cell (sen_glob i hi).1 h1.1 0;simpa using this
 have hbig:10<=W.heap.size:=by
  have lt:∀i,i<9->gErr i<W.heap.size:=λi hi=>World.block_lt_of_cell? W _ (key i hi).1;have a0:=lt 0 (by omega);have a1:=lt 1 (by omega);have a2:=lt 2 (by omega);have a3:=lt 3 (by omega);have a4:=lt 4 (by omega);have a5:=lt 5 (by omega);have a6:=lt 6 (by omega);have a7:=lt 7 (by omega);have a8:=lt 8 (by omega);have a9:=World.block_lt_of_cell? W _ hE;simp only[gErr] at a0 a1 a2 a3 a4 a5 a6 a7 a8 a9;omega
 refine⟨λi=>p (ord.idxOf i),⟨(key 0 (by omega)).1,(key 1 (by omega)).1,(key 2 (by omega)).1,(key 3 (by omega)).1,(key 4 (by omega)).1,(key 5 (by omega)).1,(key 6 (by omega)).1,(key 7 (by omega)).1,(key 8 (by omega)).1,
  λi hi=>(key i hi).2.2,λi j hi hj e=>?_,hbig⟩,λi hi=>?_⟩
 .have qK:ord.idxOf i<9:=by
   have:=hidx i hi;rcases Nat.lt_or_ge (ord.idxOf i) ord.length with h|h
   .omega
   rw[List.getElem?_eq_none h] at this;cases this
  have jB:ord.idxOf j<9:=by
   have:=hidx j hj;rcases Nat.lt_or_ge (ord.idxOf j) ord.length with h|h
   .omega
   rw[List.getElem?_eq_none h] at this;cases this
  have e2:=vJ _ _ (by rw[List.length_map,qe];exact qK) (by rw[List.length_map,qe];exact jB) e;have h1:=hidx i hi;rw[e2,hidx j hj] at h1;exact(Option.some.inj h1).symm
 obtain⟨s,h1,h2⟩:=(key i hi).2.1;show W.cell? (p (ord.idxOf i))=_;rw[h1];rw[sen_text i hi] at h2;obtain⟨⟨sl⟩⟩:=s;simp only at h2;rw[h2]
theorem one_row:((List.range 288).filter λt=>Tryz.prog.rowNamed t [101,114,114,111,114])=[35]:=by kernel_rfl
theorem types_size:Tryz.prog.types.size=288:=by kernel_rfl
theorem handle_of{W:World}{l:List (String×DataW Unit)}(h:handlesMet Tryz.prog l W)(hm:("errors.errorType",Rows.laid_errors_errorType)∈l):Zbc W:=by
 obtain⟨name,u,ty,e1,e2,e3,e4,e5⟩:=h _ hm;have en:name=[101,114,114,111,114]:=(Option.some.inj e1).symm;subst en;have qU:(Tryz.prog.cutTypes.find? (·.1 == "internal/reflectlite.rtype")).map (·.2)=some 212:=by kernel_rfl
 obtain rfl:=Option.some.inj (qU.symm.trans e2);have hm:ty∈(List.range 288).filter λt=>Tryz.prog.rowNamed t [101,114,114,111,114]:=List.mem_filter.2 ⟨List.mem_range.2 (by rw[<- types_size];exact e3),e4⟩;rw[one_row] at hm;obtain rfl:=List.mem_singleton.1 hm;have hh:typeHandle Tryz.prog 35=.pointer (some ⟨11,35,none⟩):=by kernel_rfl
 rw[hh] at e5;have hg:Tryz.prog.globalNamed "errors.errorType" = some 9:=by kernel_rfl
 have:=World.var?_cell hg e5 0;unfold Zbc;simpa using this
end Go.Proofs.YtafapnolamcdmaaGreatDoor
