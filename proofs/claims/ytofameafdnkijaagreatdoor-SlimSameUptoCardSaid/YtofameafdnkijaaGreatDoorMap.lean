/- Maps with string keys, as they lie in memory: a law on look-ups, a law on stores. -/
import Derived.Test.YtofameafdnkijaaGreatDoorRg
import Derived.Test.YtofameafdnkijaaGreatDoorMx
import Derived.Maps.OwnIn
import Derived.Test.YtofameafdnkijaaGreatDoorProg
set_option linter.all false
namespace Go.Proofs.YtofameafdnkijaaGreatDoor
open Go.RowKit Mx Go.MapKept
open Go.ChangeMaps (setBlock)
theorem Mx.Env.set_self {α:Type} (m:Env α) (k:ByteArray) (v:α):(m.set k v) k=some v:=by simp [Env.set]
theorem Mx.Env.set_other {α:Type} (m:Env α) {k x:ByteArray} (v:α) (h:x≠k):(m.set k v) x=m x:=by simp [Env.set,h]
def Zf6 (s:ByteArray):List MapEntry→Option Value
 | []=>none
 | e :: es=>match e.key with
  | .string k=>if k=s then some e.val else Zf6 s es
  | _=>Zf6 s es
def Zhb (l:List MapEntry):Prop:=∀ e∈l,∃ k,e.key = .string k
def Zaw {α:Type} (V:α→Value) (w:World) (b:Nat) (m:Env α):Prop:=
 ∃ es clock,w.heap[b]?=some (.map es clock)∧Zhb es.toList∧∀ s,Zf6 s es.toList=(m s).map V
theorem mfind_push (s:ByteArray) (l:List MapEntry) (k:ByteArray) (v:Value) (c:Nat) (h:Zhb l):Zf6 s (l++[⟨.string k,v,c⟩])=(Zf6 s l).or (if s=k then some v else none):=by
 induction l with
 | nil=>
  simp only [List.nil_append,Zf6]
  by_cases hk:k=s
  ·subst hk;simp
  simp [hk,Ne.symm hk]
 | cons e l ih=>
  obtain⟨q,hq⟩:=h e (List.mem_cons_self ..)
  simp only [List.cons_append,Zf6,hq]
  split
  ·simp
  exact ih (fun x hx=>h x (List.mem_cons_of_mem _ hx))
theorem Zh0 (s:ByteArray):∀ (l:List MapEntry) (i:Nat),Zhb l→
  (Instr.findNow .string (.string s) l i=some none∧Zf6 s l=none)∨
  ∃ j e,Instr.findNow .string (.string s) l i=some (some (i+j,e.val))∧Zf6 s l=some e.val∧l[j]?=some e∧e.key = .string s∧
   ∀ (f:MapEntry→MapEntry) (u:Value),(∀ x,x.key = .string s→(f x).key = .string s∧(f x).val=u)→Zhb (l.modify j f)∧∀ t,Zf6 t (l.modify j f)=if t=s then some u else Zf6 t l
 | [],i,_ => .inl ⟨rfl,rfl⟩
 | e :: es,i,h=>by
  obtain⟨q,hq⟩:=h e (List.mem_cons_self ..)
  have hes:Zhb es:=fun x hx=>h x (List.mem_cons_of_mem _ hx)
  by_cases hqs:q=s
  ·subst hqs
   refine .inr ⟨0,e,?_,?_,rfl,hq,fun f u hf=>?_⟩
   ·have:(q==q)=true:=(bytes_beq q q).2 rfl
    simp [Instr.findNow,Instr.sameNow,hq,this]
   ·simp [Zf6,hq]
   obtain⟨h1,h2⟩:=hf e hq
   refine⟨fun x hx=>?_,fun t=>?_⟩
   ·simp only [List.modify_zero_cons,List.mem_cons] at hx
    rcases hx with rfl | hx
    ·exact⟨_,h1⟩
    exact hes x hx
   simp only [List.modify_zero_cons,Zf6,h1,h2,hq]
   by_cases ht:t=q
   ·subst ht;simp
   simp [ht,Ne.symm ht]
  have hne:(s==q)=false:=by
   cases hc:(s==q) with
   | false=>rfl
   | true=>exact absurd ((bytes_beq _ _).1 hc).symm hqs
  rcases Zh0 s es (i+1) hes with ⟨h1,h2⟩ | ⟨j,e',h1,h2,h3,h4,h5⟩
  ·refine .inl ⟨?_,?_⟩
   ·simp [Instr.findNow,Instr.sameNow,hq,hne,h1]
   simp [Zf6,hq,hqs,h2]
  refine .inr ⟨j+1,e',?_,?_,by simpa using h3,h4,fun f u hf=>?_⟩
  ·simp [Instr.findNow,Instr.sameNow,hq,hne,h1];omega
  ·simp [Zf6,hq,hqs,h2]
  obtain⟨k1,k2⟩:=h5 f u hf
  refine⟨fun x hx=>?_,fun t=>?_⟩
  ·simp only [List.modify_succ_cons,List.mem_cons] at hx
   rcases hx with rfl | hx
   ·exact⟨_,hq⟩
   exact k1 x hx
  simp only [List.modify_succ_cons,Zf6,hq,k2 t]
  by_cases ht:q=t
  ·subst ht;simp [hqs]
  simp [ht]
section
variable {α : Type} {V : α → Value} {w : World} {b : Nat} {m : Env α}
theorem Zaw.lt (h:Zaw V w b m):b<w.heap.size:=by
 obtain⟨es,clock,hb,_⟩:=h
 exact (Zlt hb)
theorem Zaw.of_block {w':World} (h:Zaw V w b m) (hb:w'.heap[b]?=w.heap[b]?):Zaw V w' b m:=by
 obtain⟨es,clock,h1,h2⟩:=h
 exact⟨es,clock,hb.trans h1,h2⟩
theorem Zaw.below {w':World} (h:Zaw V w b m) (hb:Below w.heap.size w w'):Zaw V w' b m:=h.of_block (hb.block b h.lt)
theorem Zaw.alloc (h:Zaw V w b m) (o:Obj):Zaw V (w.alloc o) b m:=h.of_block (Below.heap_alloc w o b h.lt)
theorem Zaw.drewN (h:Zaw V w b m) (n:Nat):Zaw V (w.drewN n) b m:=h
theorem Zaw.made (V:α→Value) (w:World):Zaw V (w.alloc (.map #[] 0)) w.heap.size Env.none:=
 ⟨#[],0,(heap_alloc w _).1,fun e he=>by simp at he,fun s=>by simp [Zf6,Env.none]⟩
theorem Zaw.known {H:Kn} (h:∃ es clock,H b=some (.map es clock)∧Zhb es.toList∧∀ s,Zf6 s es.toList=(m s).map V) (hH:H.In w):Zaw V w b m:=by
 obtain⟨es,clock,h1,h2⟩:=h
 exact⟨es,clock,hH b _ h1,h2⟩
theorem Zaw.run {P:Program} {t k e:TypeId} (h:Zaw V w b m) (ht:P.underlying t=some (.map k e)) (hk:P.underlying k=some .string) {d:α} (hz:(zeroValue e).run P w = .ok (V d) w) (s:ByteArray) (c:Bool):
  (Instr.lookup t (.map (some b)) (.string s) c).run P w = .ok (if c then .tuple #[V ((m s).getD d),.bool (m s).isSome] else V ((m s).getD d)) w:=by
 obtain⟨es,clock,hb,hs,hm⟩:=h
 rcases Zh0 s es.toList 0 hs with ⟨h1,h2⟩ | ⟨j,e0,h1,h2,_⟩
 ·rw [hm] at h2
  have h2':m s=none:=by cases hms:m s<;>simp_all
  simp [Instr.lookup,run_underlying ht,MapKept.run_getObj_map hb,MapKept.run_checkKey hk (k := .string s) trivial,MapKept.run_findKey hk h1,hz,Result.andThen,h2']
 rw [hm] at h2
 obtain⟨x,hx,hv⟩:∃ x,m s=some x∧V x=e0.val:=by cases hms:m s<;>simp_all
 simp [Instr.lookup,run_underlying ht,MapKept.run_getObj_map hb,MapKept.run_checkKey hk (k := .string s) trivial,MapKept.run_findKey hk h1,Result.andThen,hx,hv]
theorem Zaw.run_set {P:Program} {t k e:TypeId} (h:Zaw V w b m) (ht:P.underlying t=some (.map k e)) (hk:P.underlying k=some .string) (s:ByteArray) (x:α):
  ∃ o,(Instr.mapUpdate t (.map (some b)) (.string s) (V x)).run P w = .ok () (setBlock w b o)∧Zaw V (setBlock w b o) b (m.set s x):=by
 obtain⟨es,clock,hb,hs,hm⟩:=h
 rcases Zh0 s es.toList 0 hs with ⟨h1,h2⟩ | ⟨j,e0,h1,h2,h3,h4,h5⟩
 ·refine⟨.map (es.push ⟨.string s,V x,clock⟩) (clock+1),?_,es.push ⟨.string s,V x,clock⟩,clock+1,(heap_set hb).1,fun y hy=>?_,fun u=>?_⟩
  ·simp [Instr.mapUpdate,run_underlying ht,MapKept.run_getObj_map hb,MapKept.run_checkKey hk (k := .string s) trivial,MapKept.run_findKey hk h1,MapKept.run_setObj_map _ hb,Result.andThen,setBlock]
  ·simp only [Array.toList_push,List.mem_append,List.mem_singleton] at hy
   rcases hy with hy | rfl
   ·exact hs y hy
   exact⟨s,rfl⟩
  rw [Array.toList_push,mfind_push _ _ _ _ _ hs]
  unfold Env.set
  by_cases hu:u=s
  ·subst hu;simp [h2]
  simp [hu,hm]
 have hj:es[j]?=some e0:=by simpa using h3
 obtain⟨k1,k2⟩:=h5 (fun e'=>{ e' with key := .string s,val:=V x }) (V x) (fun y _=>⟨rfl,rfl⟩)
 refine⟨.map (es.modify j fun e'=>{ e' with key := .string s,val:=V x }) clock,?_,_,clock,(heap_set hb).1,?_,fun u=>?_⟩
 ·simp [Instr.mapUpdate,run_underlying ht,MapKept.run_getObj_map hb,MapKept.run_checkKey hk (k := .string s) trivial,MapKept.run_findKey hk h1,hj,h4,MapKept.run_keyThatStays (d := .string) (k := .string s) trivial,MapKept.run_setObj_map _ hb,Result.andThen,setBlock]
 ·rw [Array.toList_modify];exact k1
 rw [Array.toList_modify,k2 u,hm]
 unfold Env.set
 by_cases hu:u=s<;>simp [hu]
end
def Zcp (w w':World) (b:Nat):Prop:=∃ o,w'=setBlock w b o
theorem Zcp.size {w w':World} {b:Nat} (h:Zcp w w' b):w'.heap.size=w.heap.size:=by obtain⟨o,rfl⟩:=h;simp [setBlock]
theorem Zcp.block {w w':World} {b:Nat} (h:Zcp w w' b) {i:Nat} (hi:i≠b):w'.heap[i]?=w.heap[i]?:=by
 obtain⟨o,rfl⟩:=h
 simp [setBlock,Ne.symm hi]
theorem Zcp.below {B:Nat} {a w w':World} {b:Nat} (h:Zcp w w' b) (ha:Below B a w) (hB:B≤b):Below B a w':=by
 refine⟨?_,?_,?_,by rw [h.size];exact ha.size,fun i hi=>by rw [h.block (by omega)];exact ha.block i hi⟩
 all_goals (obtain⟨o,rfl⟩:=h)
 ·exact ha.os
 ·exact ha.tape
 exact ha.output
theorem Zcp.cell {w w':World} {b:Nat} (h:Zcp w w' b) {p:Addr} (hp:p.block≠b):w'.cell? p=w.cell? p:=World.cell?_of_block (w:=w) (h.block hp)
theorem Zcp.frozen {w w':World} {b:Nat} (h:Zcp w w' b) {p:Addr} (hp:p.block≠b):w'.frozen? p=w.frozen? p:=World.frozen?_of_block (w:=w) (h.block hp)
theorem Zcp.isin {H:Kn} {w w':World} {b:Nat} (h:Zcp w w' b) (hH:H.In w) (hb:H b=none):H.In w':=hH.of_heap fun i hi=>h.block fun e=>hi (by rw [e];exact hb)
theorem Zcp.map {α:Type} {V:α→Value} {w w':World} {b c:Nat} {m:Env α} (h:Zcp w w' b) (hm:Zaw V w c m) (hc:c≠b):Zaw V w' c m:=hm.of_block (h.block hc)
theorem Zcp.cells {w w':World} {b:Nat} (h:Zcp w w' b):(∀ c o,c≠b→w'.cell? ⟨c,o,none⟩=w.cell? ⟨c,o,none⟩)∧∀ c o,c≠b→w'.frozen? ⟨c,o,none⟩=w.frozen? ⟨c,o,none⟩:=
 ⟨fun _ _ hc=>h.cell hc,fun _ _ hc=>h.frozen hc⟩
section
variable {α : Type} {P : Program} {w : World} {ops : Array Oper} {rest : List Oper} {o : Oper} {a : Act} {Q : Exit → Act → World → Prop}
theorem Zd2 (V:α→Value) (t k e:TypeId) (ht:P.underlying t=some (.map k e)) (hk:P.underlying k=some .string) (b:Nat) (m:Env α) (hM:Zaw V w b m)
  (x y z:Operand) (hg:o.guard=none) (hop:o.op=Op.mapUpdate t x y z) (hx:a.eval x = .map (some b)) (s:ByteArray) (hy:a.eval y = .string s) (u:α) (hz:a.eval z=V u)
  (hK:∀ w',Zaw V w' b (m.set s u)→Zcp w w' b→wpList P ops Q rest (a.put o.dst undef) w'):wpList P ops Q (o :: rest) a w:=by
 refine wpList_plain hg fun K' hK'=>?_
 obtain⟨ob,hrun,hM'⟩:=hM.run_set ht hk s u
 unfold Oper.wp
 simp [execOp,hop,hx,hy,hz,hrun,Result.andThen]
 exact hK' _ _ (hK _ hM' ⟨ob,rfl⟩)
end
theorem Zao {w w':World} {base:Nat} {e:TypeId} {k n:Nat} {v:Value} {xs:List Value} (h:w.ownsRow base e k v n xs) (hb:Below w.heap.size w w'):w'.ownsRow base e k v n xs:=by
 refine⟨h.1,h.2.imp id ?_⟩
 rintro⟨g,cap,cur,h1,h2,h3,h4⟩
 exact⟨g,cap,cur,h1,h2,by rw [hb.block _ (Zlt h3)];exact h3,h4⟩
theorem Ze6 {w w':World} {b base:Nat} {e:TypeId} {k n:Nat} {v:Value} {xs:List Value} (h:w.ownsRow base e k v n xs) (ht:Zcp w w' b) (hb:v.ownBlock≠some b):w'.ownsRow base e k v n xs:=by
 refine⟨h.1,h.2.imp id ?_⟩
 rintro⟨g,cap,cur,h1,h2,h3,h4⟩
 refine⟨g,cap,cur,h1,h2,?_,h4⟩
 rw [ht.block (fun e=>hb (by rw [h1];simp [Value.ownBlock,e]))]
 exact h3
theorem Tryz.infoInt:(Tryz.prog.info? 3).map (fun i=>(i.zero,i.size,i.bytes))=some (some (.int .i64 0),1,8):=by kernel_rfl
theorem cells1 (w:World) (x:Value) (t:TypeId):∀ j u,[x][j]?=some u→(w.alloc (.cells #[x] t)).cell? ((⟨w.heap.size,0,none⟩:Addr).add j)=some u:=by
 intro j u h
 have e:(⟨w.heap.size,0,none⟩:Addr).add j=⟨w.heap.size,j,none⟩:=by unfold Addr.add;split<;>simp_all
 rw [e,World.cell?_alloc_new]
 simpa using h
theorem Zbp {w:World} {base:Nat} {e:TypeId} {k n:Nat} {v:Value} {xs:List Value} (h:w.ownsRow base e k v n xs) (hn:0<n):∃ g cap,v = .slice (some ⟨g,0,none⟩) n cap∧n≤cap∧cap≤maxLen∧base≤g∧g<w.heap.size∧
  ∀ j u,xs[j]?=some u→w.cell? ⟨g,j,none⟩=some u:=by
 rcases h.2 with ⟨_,h0⟩ | ⟨g,cap,cur,h1,h2,h3,h4,h5,h6,h7⟩
 ·omega
 subst h1
 refine⟨g,cap,rfl,h4,h5,h2,(Zlt h3),fun j u hu=>?_⟩
 have e:(⟨g,0,none⟩:Addr).add j=⟨g,j,none⟩:=by unfold Addr.add;split<;>simp_all
 rw [← e]
 exact World.ownsRow.cells h rfl j u hu
theorem Zau {w:World} {base:Nat} {e:TypeId} {k n:Nat} {v:Value} {xs:List Value} (h:w.ownsRow base e k v n xs):∃ a cap,v = .slice a n cap∧cap≤maxLen∧n≤cap:=by
 rcases h.2 with ⟨h1,h0⟩ | ⟨g,cap,cur,h1,h2,h3,h4,h5,_⟩
 ·exact⟨none,0,by rw [h1,h0],Nat.zero_le _,by omega⟩
 exact⟨_,cap,h1,h5,h4⟩
theorem Zb1 {P:Program} {w:World} {ops:Array Oper} {rest:List Oper} {o:Oper} {a:Act} {Q:Exit→Act→World→Prop} (hg:o.guard=none) (t u:TypeId) (x y:Operand)
  (hop:o.op = .call { callee := .builtin .append,args := #[x,y],argTypes := #[t,u] }) (v1 v2:Value) (h1:a.eval x=v1) (h2:a.eval y=v2) (v:Value) (w':World)
  (hrun:∀ ty,(Builtin.append_ #[t,u] ty #[v1,v2]).run P w = .ok v w') (hK:wpList P ops Q rest (a.put o.dst v) w'):wpList P ops Q (o :: rest) a w:=by
 refine wpList_plain hg fun K' hK'=>?_
 have hr:=hrun o.type
 unfold Oper.wp
 simp [execOp,hop,resolve,invoke,builtin,h1,h2,hr,Result.andThen]
 exact hK' _ _ hK
theorem Zbz {P:Program} {w:World} (t e:TypeId) (i:TypeInfo) (ht:P.underlying t=some (.slice e)) (hi:P.info? e=some i) {base k n:Nat} {v:Value} {xs:List Value} (hown:w.ownsRow base e k v n xs) (A:Option Addr) (c:Nat) (ty:TypeId):
  (Builtin.append_ #[t,t] ty #[v,.slice A 0 c]).run P w = .ok v w:=by
 rcases hown.2 with ⟨rfl,rfl⟩ | ⟨g,cap,cur,rfl,hb,hg,hnc,hcm,hsz,htake⟩
 ·cases A<;>simp [Builtin.append_,run_underlying ht,sizeOf,typeInfo,hi,Builtin.lenOf,Builtin.firstCells,loadCells,loadCellsFrom,Result.andThen]
 cases A<;>simp [Builtin.append_,run_underlying ht,sizeOf,typeInfo,hi,Builtin.lenOf,Builtin.firstCells,loadCells,loadCellsFrom,Result.andThen,hnc,storeCells]
end Go.Proofs.YtofameafdnkijaaGreatDoor
