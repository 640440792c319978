/- Plain functions of runs of flat programs, as flow.Run has them; the law of FlowNil: no program in sight. -/
import Derived.Test.YtgoccoldkfpbgaaGreatDoorMx
import Derived.Test.YtgoccoldkfpbgaaGreatDoorLateA
import Derived.Test.YtgoccoldkfpbgaaGreatDoorGraph
import Derived.Test.YtgoccoldkfpbgaaGreatDoorRg
import Derived.Test.YtgoccoldkfpbgaaGreatDoorFormA
import Derived.Deep.AppendLies
import Derived.Test.YtgoccoldkfpbgaaGreatDoorKind
set_option linter.all false
namespace Go.Proofs.YtgoccoldkfpbgaaGreatDoor.Mx
set_option maxRecDepth 100000
set_option maxHeartbeats 16000000
structure REnv where
 ks:Env Int
 lt:ByteArray→Int
 nm:ByteArray→Int
 nb:Bool
 ni:Int
def nilV (nb:Bool) (ni:Int) (k:Int):Vl:=if k=1 then tv nb else ⟨k,ni⟩
structure Inst where
 first:Bool
 mem:List Vl
 inp:List Vl
 now:List Vl
mutual
def memN:Ex→Nat
 | .mk o _ _ l=>Zam l+(if o=oPre∨o=oFby then 1 else 0)
def Zam:List Ex→Nat
 | []=>0
 | e :: l=>memN e+Zam l
end
mutual
def Zg6:Nat→Ex→List (Ex×Nat)
 | m,.mk o n s l=>Zck m l++(if o=oPre∨o=oFby then [(l.getLastD (.mk o n s l),m+Zam l.dropLast)] else [])
def Zck:Nat→List Ex→List (Ex×Nat)
 | _,[]=>[]
 | m,e :: l=>Zg6 m e++Zck (m+memN e) l
end
def valM (R:REnv) (r:Inst) (m:Nat) (o:ByteArray) (n:Int) (s:ByteArray) (late:Bool) (vs:List Vl):Vl×Bool:=
 if o=oInt then (⟨2,n⟩,false)
 else if o=Zc2∨o=Zb9 then (tv (decide (o=Zc2)),false)
 else if o=Zb2 then (if R.nm s<0 then r.inp.getD (-1 - R.nm s).toNat vz else r.now.getD (R.nm s).toNat vz,false)
 else if o=oPre then (r.mem.getD m vz,false)
 else if o=oFby then (if r.first then vs.getD 0 vz else r.mem.getD m vz,false)
 else if o=Zbm then (if r.first then vs.getD 0 vz else vs.getD 1 vz,false)
 else if (appM o vs).2 then (⟨2,0⟩,!r.first || !late) else ((appM o vs).1,false)
mutual
def Zbo (R:REnv) (r:Inst):Nat→Ex→Vl×Bool
 | m,.mk o n s l=>
  let vs:=Za9 R r m (if o=oPre then 0 else if o=oFby then 1 else l.length) l
  let late:=decide (0<lateOf R.lt (.mk o n s l))
  let x:=valM R r (m+Zam l) o n s late vs.1
  (if r.first&&late then nilV R.nb R.ni (Zan R.ks (.mk o n s l)) else x.1,vs.2 || x.2)
def Za9 (R:REnv) (r:Inst):Nat→Nat→List Ex→List Vl×Bool
 | _,_,[]=>([],false)
 | _,0,_ :: _=>([],false)
 | m,k+1,e :: l=>
  let x:=Zbo R r m e
  let y:=Za9 R r (m+memN e) k l
  (x.1 :: y.1,x.2 || y.2)
end
structure Tk where
 out:List Vl
 asrt:Bool
 trap:Bool
 checks:List Bool
def trapT:Tk:=⟨[],false,true,[]⟩
def Zba:Nat→List Ex→List (Ex×Nat)
 | _,[]=>[]
 | m,e :: l=>(e,m) :: Zba (m+memN e) l
def nowM (R:REnv) (first:Bool) (mem inp:List Vl) (fs:List (Ex×Nat)):List Nat→List Vl→Bool→List Vl×Bool
 | [],now,t=>(now,t)
 | k :: r,now,t=>
  let x:=fs.getD k (.mk ⟨#[]⟩ 0 ⟨#[]⟩ [],0)
  let v:=Zbo R ⟨first,mem,inp,now⟩ x.2 x.1
  nowM R first mem inp fs r (now.set k v.1) (t || v.2)
def Zeh (R:REnv) (r:Inst) (l:List (Ex×Nat)):List Vl×Bool:=(l.map fun x=>(Zbo R r x.2 x.1).1,l.any fun x=>(Zbo R r x.2 x.1).2)
structure Cd where
 ord:List Nat
 fs:List (Ex×Nat)
 av:List (Ex×Nat)
 cv:List (Ex×Nat)
 outs:List Int
 ms:List (Ex×Nat)
def Zco (R:REnv) (c:Cd) (first:Bool) (mem inp:List Vl):Tk×List Vl:=
 let n:=nowM R first mem inp c.fs c.ord (List.replicate c.fs.length vz) false
 let r:Inst:=⟨first,mem,inp,n.1⟩
 let a:=Zeh R r c.av
 let k:=Zeh R r c.cv
 let x:=Zeh R r c.ms
 if n.2 || a.2 || k.2 || x.2 then (trapT,[])
 else (⟨c.outs.map fun i=>n.1.getD i.toNat vz,a.1.all fun v=>decide (v.n=1),false,k.1.map fun v=>decide (v.n=1)⟩,x.1)
def Zg3 (R:REnv) (c:Cd):Bool→List Vl→List (List Vl)→List Tk
 | _,_,[]=>[]
 | first,mem,l :: r=>
  let x:=Zco R c first mem l
  x.1 :: if x.1.trap then [] else Zg3 R c false x.2 r
theorem Zjp (lt:ByteArray→Int):∀ (l:List Ex) (k:Nat),(Za8 lt l).getD k 0=if h:k<l.length then lateOf lt l[k] else 0
 | [],k=>by simp [Za8]
 | e :: l,0=>by simp [Za8]
 | e :: l,k+1=>by
  have:=Zjp lt l k
  simp only [Za8,List.getD_cons_succ,this,List.length_cons,Nat.add_lt_add_iff_right]
  split<;>rfl
structure SameR (R R':REnv):Prop where
 ks:R.ks=R'.ks
 lt:R.lt=R'.lt
 nm:R.nm=R'.nm
theorem Zi8 (R:REnv) (r:Inst):∀ (l:List Ex) (m k:Nat),(Za9 R r m k l).1.length=min k l.length
 | [],m,k=>by simp [Za9]
 | e :: l,m,0=>by simp [Za9]
 | e :: l,m,k+1=>by simp [Za9,Zi8 R r l]
structure CdOk (R:REnv) (ks:Env Int) (nf:Nat→ByteArray) (c:Cd):Prop where
 bd:∀ s,0≤R.lt s∧R.lt s≤2
 ord:∀ k∈c.ord,k<c.fs.length
 nm:∀ s,(ks s).isSome=true→0≤R.nm s→s=nf (R.nm s).toNat
 fs:∀ k (h:k<c.fs.length),Zaf ks c.fs[k].1=true∧lateOf R.lt c.fs[k].1≤R.lt (nf k)
 av:∀ x∈c.av,Zaf ks x.1=true∧lateOf R.lt x.1=0
 cv:∀ x∈c.cv,Zaf ks x.1=true∧lateOf R.lt x.1=0
 ms:∀ x∈c.ms,Zaf ks x.1=true∧lateOf R.lt x.1=0
 outs:∀ i∈c.outs,R.lt (nf i.toNat)=0
def NowR (R:REnv) (nf:Nat→ByteArray) (a b:List Vl):Prop:=a.length=b.length∧∀ k,R.lt (nf k)=0→a.getD k vz=b.getD k vz
end Go.Proofs.YtgoccoldkfpbgaaGreatDoor.Mx
/- Plain: a right program's names; the sort always finds a flow: no walk in sight. -/
namespace Go.Proofs.YtgoccoldkfpbgaaGreatDoor
set_option maxRecDepth 100000
set_option maxHeartbeats 16000000
open Mx
theorem fresh_apart {s:ByteArray}:∀ (l:List (ByteArray×Int)) (m0 m:Env Int),Zap m0 l=some m→(m0 s).isSome=true→∀ x∈l,x.1≠s
 | [],_,_,_,_,x,hx=>by cases hx
 | y :: l,m0,m,h,hs,x,hx=>by
  simp only [Zap] at h
  split at h
  ·rename_i hc
   have hne:y.1≠s:=fun e=>by have h1:=hc.1;rw [e] at h1;cases hm:m0 s<;>simp_all
   rcases List.mem_cons.1 hx with rfl | hx
   ·exact hne
   refine fresh_apart l _ _ h ?_ x hx
   simp only [Env.set]
   rw [if_neg (Ne.symm hne)]
   exact hs
  cases h
theorem Zhn:∀ (l:List (ByteArray×Int)) (m0 m:Env Int),Zap m0 l=some m→(l.map (·.1)).Nodup
 | [],_,_,_=>by simp
 | y :: l,m0,m,h=>by
  simp only [Zap] at h
  split at h
  ·rw [List.map_cons,List.nodup_cons]
   refine⟨fun hm=>?_,Zhn l _ _ h⟩
   obtain⟨x,hx,he⟩:=List.mem_map.1 hm
   exact fresh_apart l _ _ h (s:=y.1) (by simp [Env.set]) x hx he
  cases h
theorem Zgv {p:Pr} (h:Zaj p=0):(p.fl.map (·.name)).Nodup:=by
 obtain⟨ks,hk,_⟩:=Zb4 h
 have:=Zhn _ _ _ hk
 simp only [Pr.vars,List.map_append,List.map_map] at this
 rw [List.nodup_append] at this
 exact this.2.1
theorem some_left (out:List Nat) (n:Nat) (h:out.length<n):∃ i,i<n∧i∉out:=by
 refine Classical.byContradiction fun hno=>?_
 have hall:∀ i,i<n→i∈out:=fun i hi=>Classical.byContradiction fun hm=>hno ⟨i,hi,hm⟩
 obtain⟨a,b,hab,hb,e⟩:=pigeon out.length (fun i=>out.idxOf i) (fun i hi=>List.idxOf_lt_length_of_mem (hall i (by omega)))
 have ha:=List.getElem_idxOf (List.idxOf_lt_length_of_mem (hall a (by omega)))
 have hb':=List.getElem_idxOf (List.idxOf_lt_length_of_mem (hall b (by omega)))
 have e':out.idxOf a=out.idxOf b:=e
 simp only [e'] at ha
 rw [hb'] at ha
 omega
theorem some_free {g:List (List Nat)} (hlow:∀ l∈g,∀ k∈l,k<g.length) (hno:∀ j,j<g.length→cyc g j=false) (out:List Nat) (h:out.length<g.length):∃ i,i<g.length∧Zho g out i=true:=by
 refine Classical.byContradiction fun hx=>?_
 obtain⟨i0,hi0,hm0⟩:=some_left out g.length h
 have step:∀ i,i<g.length→i∉out→∃ k,k<g.length∧k∉out∧edge g i k:=by
  intro i hi hm
  have hf:Zho g out i=false:=by
   cases hc:Zho g out i with
   | false=>rfl
   | true=>exact absurd ⟨i,hi,hc⟩ hx
  unfold Zho at hf
  have hc:out.contains i=false:=by simpa using hm
  rw [hc,Bool.not_false,Bool.true_and] at hf
  have hf':∃ k∈g.getD i [],¬ out.contains k=true:=by
   refine Classical.byContradiction fun hn=>?_
   have:(g.getD i []).all out.contains=true:=List.all_eq_true.2 fun k hk=>Classical.byContradiction fun hkk=>hn ⟨k,hk,hkk⟩
   rw [this] at hf;cases hf
  obtain⟨k,hk,hko⟩:=hf'
  refine⟨k,?_,by simpa using hko,hk⟩
  rw [List.getD_eq_getElem?_getD,List.getElem?_eq_getElem hi] at hk
  exact hlow _ (List.getElem_mem hi) _ hk
 classical
 let nx:Nat→Nat:=fun i=>if hh:∃ k,k<g.length∧k∉out∧edge g i k then Classical.choose hh else i
 have hnx:∀ i,i<g.length→i∉out→nx i<g.length∧nx i∉out∧edge g i (nx i):=by
  intro i hi hm
  have hh:=step i hi hm
  show (if hh:∃ k,k<g.length∧k∉out∧edge g i k then Classical.choose hh else i)<_∧_
  have e:nx i=Classical.choose hh:=dif_pos hh
  rw [show (if hh:∃ k,k<g.length∧k∉out∧edge g i k then Classical.choose hh else i)=Classical.choose hh from dif_pos hh,e]
  exact Classical.choose_spec hh
 have hit:∀ t,iter nx t i0<g.length∧iter nx t i0∉out:=by
  intro t
  induction t with
  | zero=>exact⟨hi0,hm0⟩
  | succ t ih=>have:=hnx _ ih.1 ih.2;exact⟨this.1,this.2.1⟩
 have hpath:∀ s t,Path g (iter nx s i0) (iter nx (s+t+1) i0):=by
  intro s t
  induction t with
  | zero=>exact .one (hnx _ (hit s).1 (hit s).2).2.2
  | succ t ih=>exact .snoc ih (hnx _ (hit (s+t+1)).1 (hit (s+t+1)).2).2.2
 obtain⟨a,b,hab,hb,e⟩:=pigeon g.length (fun t=>iter nx t i0) (fun t _=>(hit t).1)
 have e':iter nx a i0=iter nx b i0:=e
 have hp:=hpath a (b - a - 1)
 rw [show a+(b - a - 1)+1=b from by omega,← e'] at hp
 have:=(cyc_iff g _).2 hp
 rw [hno _ (hit a).1] at this
 cases this
theorem pick_lt {g:List (List Nat)} {out:List Nat} (h:∃ i,i<g.length∧Zho g out i=true):pick g out<g.length:=by
 obtain⟨i,hi,hf⟩:=h
 unfold pick
 have:(g.zipIdx.findIdx fun x => !out.contains x.2&&x.1.all out.contains)<g.zipIdx.length:=by
  refine List.findIdx_lt_length_of_exists ⟨(g[i],i),?_,?_⟩
  ·rw [List.mem_iff_getElem]
   exact⟨i,by simpa using hi,by simp⟩
  unfold Zho at hf
  rw [List.getD_eq_getElem?_getD,List.getElem?_eq_getElem hi] at hf
  exact hf
 simpa using this
theorem sort_pick {g:List (List Nat)} (hlow:∀ l∈g,∀ k∈l,k<g.length) (hno:∀ j,j<g.length→cyc g j=false):∀ j,j<g.length→pick g (Zcv g j [])<g.length:=fun j hj=>
 pick_lt (some_free hlow hno _ (by rw [sortN_len];simpa using hj))
theorem Zin (p:Pr):Zaj p=0→(∀ j,j<p.graph.length→cyc p.graph j=false)→∀ j,j<p.graph.length→pick p.graph (Zcv p.graph j [])<p.graph.length:=fun _ hno=>sort_pick (Zgb p) hno
open Go.RowKit Mx
theorem Kn.In.grown {K:Kn} {w w':World} {row:Option Nat} (h:K.In w) (hg:w.grownBy w' row) (hr:∀ g,row=some g→K g=none):K.In w':=fun b o e=>by
 rw [hg.block b (h.lt e) (fun e2=>by have:=hr b e2.symm;rw [this] at e;cases e)];exact h b o e
theorem exsV_of_own {K:Kn} {w:World} {base:Nat} {t:TypeId} {v:Value} {l:List Ex} {xs:List Value} (hK:K.In w) (h:w.ownsRow base t 4 v l.length xs) (hx:XsAt K l xs) (hr:∀ g,v.ownBlock=some g→K g=none):
  ∃ K',K.le K'∧K'.In w∧ExsV K' l v∧∀ b,b<base→K' b=K b:=by
 by_cases h0:l=[]
 ·obtain⟨a,c,h1,_⟩:=Zas h
  exact⟨K,Kn.le_refl K,hK,.inl ⟨h0,a,c,by rw [h1,h0];rfl⟩,fun _ _=>rfl⟩
 obtain⟨g,cap,h1,h2,h3,hb,hlt,h4⟩:=Zbz h (List.length_pos_iff.2 h0)
 have hg:K g=none:=hr g (by rw [h1];rfl)
 have ho:w.heap[g]?=some w.heap[g]:=Array.getElem?_eq_getElem hlt
 refine⟨K.add g w.heap[g],Kn.le_add hg,hK.add ho,.inr ⟨g,0,cap,h1,h2,h3,hx.at (Kn.le_add hg) fun j u hj=>?_⟩,fun b hbb=>Kn.add_other K _ (by omega)⟩
 have h5:=h4 j u hj
 unfold Kn.cell
 rw [Kn.add_self,Nat.zero_add]
 simp only [World.cell?,ho] at h5
 cases hc:w.heap[g]<;>simp_all
structure ExO (T:TypeId) (H:Kn) (w0 wr:World) (B:Nat) (e:Ex) (done:Nat) (u:Value) (xs:List Value) (K:Kn):Prop where
 le:H.le K
 fresh:∀ b,b≤B→K b=H b
 isin:K.In wr
 below:Below B w0 wr
 box:wr.heap[B]?=some (.cells #[.string e.op,.int .i64 e.n,.string e.s,u] T (0,0))
 row:wr.ownsRow (B+1) T 4 u done xs
 xs:XsAt K (e.l.take done) xs
 noR:∀ g,u.ownBlock=some g→K g=none
section
variable {T : TypeId} {H K : Kn} {w0 wr : World} {B : Nat} {e : Ex} {done : Nat} {u : Value} {xs : List Value}
theorem ExO.blt (h:ExO T H w0 wr B e done u xs K):B<wr.heap.size:=(Zlt h.box)
theorem ExO.cells (h:ExO T H w0 wr B e done u xs K):wr.cell? ⟨B,0,none⟩=some (.string e.op)∧wr.cell? ⟨B,1,none⟩=some (.int .i64 e.n)∧wr.cell? ⟨B,2,none⟩=some (.string e.s)∧wr.cell? ⟨B,3,none⟩=some u:=by
 simp [World.cell?,h.box]
theorem ExO.next {wc:World} {K2:Kn} (h:ExO T H w0 wr B e done u xs K) (hs:Kn.Step K wr K2 wc):ExO T H w0 wc B e done u xs K2:=by
 refine⟨Kn.le_trans h.le hs.le,fun b hb=>(hs.fresh b (Nat.lt_of_le_of_lt hb h.blt)).trans (h.fresh b hb),hs.isin,h.below.trans (hs.below.mono (Nat.le_of_lt h.blt)),?_,Za6 h.row hs.below,h.xs.le hs.le,fun g hg=>?_⟩
 ·rw [hs.below.block B h.blt];exact h.box
 rw [hs.fresh g (h.row.lt g hg).2];exact h.noR g hg
theorem ExO.later {wc:World} (h:ExO T H w0 wr B e done u xs K) (hb:Below wr.heap.size wr wc):ExO T H w0 wc B e done u xs K:=h.next (Kn.Step.of_below h.isin hb)
theorem ExO.alloc (h:ExO T H w0 wr B e done u xs K) (o:Obj):ExO T H w0 (wr.alloc o) B e done u xs K:=h.later ((Below.refl _ _).alloc (Nat.le_refl _) o)
theorem ExO.drew (h:ExO T H w0 wr B e done u xs K):ExO T H w0 wr.drew B e done u xs K:=h.later ((Below.refl _ _).drew)
theorem Zdt {α:Type} (l:List α) (k:Nat) (h:k<l.length):l.take (k+1)=l.take k++[l[k]]:=List.take_succ_eq_append_getElem h
theorem ExO.step {wc w3:World} {gg cap':Nat} (h:ExO T H w0 wc B e done u xs K) (hd:done<e.l.length) {x:Ex} (hx:e.l[done]=x) (hBn:H B=none) {a:Option Addr} {c:Nat} (hp:ExsV K x.l (.slice a x.l.length c))
  (hown:w3.ownsRow (B+1) T 4 (.slice (some ⟨gg,0,none⟩) (done+1) cap') (done+1) (xs++[.string x.op,.int .i64 x.n,.string x.s,.slice a x.l.length c])) (hg:wc.grownBy w3 u.ownBlock) (hat:u.ownBlock=some gg∨gg=wc.heap.size):
  w3.cell? ⟨B,3,none⟩=some u∧w3.frozen? ⟨B,3,none⟩=false∧ExO T H w0 (w3.setCell ⟨B,3,none⟩ (.slice (some ⟨gg,0,none⟩) (done+1) cap')) B e (done+1) (.slice (some ⟨gg,0,none⟩) (done+1) cap') (xs++[.string x.op,.int .i64 x.n,.string x.s,.slice a x.l.length c]) K:=by
 subst hx
 have hne:some B≠u.ownBlock:=fun e=>Zbi h.row (by omega) e.symm
 have hbx:w3.heap[B]?=_:=(hg.block B h.blt hne).trans h.box
 have hin:=(h.isin.grown hg h.noR)
 refine⟨by simp [World.cell?,hbx],by simp [World.frozen?,hbx],h.le,h.fresh,hin.setCell (a:=⟨B,3,none⟩) ((h.fresh B (Nat.le_refl B)).trans hBn) _,?_,?_,Zal hown (Zbi (b:=B) hown (by omega)) _,?_,fun g hgg=>?_⟩
 ·exact (h.below.grown hg (Nat.le_of_lt h.blt) (fun g hgg=>by have:=(h.row.lt g hgg).1;omega)).setCell (Nat.le_refl B) _
 ·rw [Zaa _ _ _ _ _ _ _ hbx];rfl
 ·rw [Zdt _ _ hd]
  exact h.xs.append ⟨a,c,[],rfl,hp,rfl⟩
 have hgg':gg=g:=by simpa [Value.ownBlock] using hgg
 subst hgg'
 rcases hat with h1 | h1
 ·exact h.noR gg h1
 rw [h1];exact h.isin.isNone (Nat.le_refl _)
end
theorem Zau:∀ (l:List Ex) (i:Nat) (hi:i<l.length),l[i].parts≤Ex.partsL l:=fun l i hi=>by
 induction l generalizing i with
 | nil=>simp at hi
 | cons x l ih=>
  cases i with
  | zero=>simp only [List.getElem_cons_zero,Ex.partsL];omega
  | succ i=>have:=ih i (by simpa using hi);simp only [List.getElem_cons_succ,Ex.partsL];omega
theorem ex_parts (e:Ex):e.parts=1+Ex.partsL e.l:=by cases e;simp only [Ex.parts,Ex.l]
theorem Zbr:∀ l:List Ex,l.length≤Ex.partsL l
 | []=>Nat.le_refl _
 | e :: l=>by have:=Zbr l;have:=ex_parts e;simp only [Ex.partsL,List.length_cons];omega
theorem Zd1 {W:World} {b:Nat} {x y z u:Value} {t:TypeId} (h:W.heap[b]?=some (.cells #[x,y,z,u] t (0,0))):
  W.cell? ⟨b,0,none⟩=some x∧W.cell? ⟨b,1,none⟩=some y∧W.cell? ⟨b,2,none⟩=some z∧W.cell? ⟨b,3,none⟩=some u∧W.frozen? ⟨b,0,none⟩=false∧W.frozen? ⟨b,1,none⟩=false∧W.frozen? ⟨b,2,none⟩=false∧W.frozen? ⟨b,3,none⟩=false∧b<W.heap.size:=
 ⟨by simp [World.cell?,h],by simp [World.cell?,h],by simp [World.cell?,h],by simp [World.cell?,h],by simp [World.frozen?,h],by simp [World.frozen?,h],by simp [World.frozen?,h],by simp [World.frozen?,h],(Zlt h)⟩
structure RwO {α:Type} (T k:Nat) (X:Kn→List α→List Value→Prop) (H:Kn) (w0 wr:World) (base:Nat) (l:List α) (done:Nat) (u:Value) (xs:List Value) (K:Kn):Prop where
 le:H.le K
 fresh:∀ b,b<base→K b=H b
 isin:K.In wr
 below:Below base w0 wr
 size:base≤wr.heap.size
 row:wr.ownsRow base T k u done xs
 xs:X K (l.take done) xs
 noR:∀ g,u.ownBlock=some g→K g=none
section
variable {α : Type} {T k : Nat} {X : Kn → List α → List Value → Prop} {H K : Kn} {w0 wr : World} {base : Nat} {l : List α} {done : Nat} {u : Value} {xs : List Value}
theorem RwO.next (hX:∀ K K' l xs,Kn.le K K'→X K l xs→X K' l xs) {wc:World} {K2:Kn} (h:RwO T k X H w0 wr base l done u xs K) (hs:Kn.Step K wr K2 wc):RwO T k X H w0 wc base l done u xs K2:=
 ⟨Kn.le_trans h.le hs.le,fun b hb=>(hs.fresh b (Nat.lt_of_lt_of_le hb h.size)).trans (h.fresh b hb),hs.isin,h.below.trans (hs.below.mono h.size),Nat.le_trans h.size hs.below.size,Za6 h.row hs.below,hX _ _ _ _ hs.le h.xs,fun g hg=>by
  rw [hs.fresh g (h.row.lt g hg).2];exact h.noR g hg⟩
theorem RwO.later {wc:World} (h:RwO T k X H w0 wr base l done u xs K) (hb:Below wr.heap.size wr wc):RwO T k X H w0 wc base l done u xs K:=
 ⟨h.le,h.fresh,h.isin.below hb,h.below.trans (hb.mono h.size),Nat.le_trans h.size hb.size,Za6 h.row hb,h.xs,h.noR⟩
theorem RwO.alloc (h:RwO T k X H w0 wr base l done u xs K) (o:Obj):RwO T k X H w0 (wr.alloc o) base l done u xs K:=h.later ((Below.refl _ _).alloc (Nat.le_refl _) o)
theorem RwO.drew (h:RwO T k X H w0 wr base l done u xs K):RwO T k X H w0 wr.drew base l done u xs K:=h.later ((Below.refl _ _).drew)
theorem RwO.step {wc w3:World} {gg cap' n':Nat} {ys:List Value} (h:RwO T k X H w0 wc base l done u xs K) (hx:X K (l.take (done+n')) (xs++ys))
  (hown:w3.ownsRow base T k (.slice (some ⟨gg,0,none⟩) (done+n') cap') (done+n') (xs++ys)) (hg:wc.grownBy w3 u.ownBlock) (hat:u.ownBlock=some gg∨gg=wc.heap.size):
  RwO T k X H w0 w3 base l (done+n') (.slice (some ⟨gg,0,none⟩) (done+n') cap') (xs++ys) K:=by
 refine⟨h.le,h.fresh,h.isin.grown hg h.noR,h.below.grown hg h.size (fun g hgg=>(h.row.lt g hgg).1),Nat.le_trans h.size hg.size,hown,hx,fun g hgg=>?_⟩
 have hgg':gg=g:=by simpa [Value.ownBlock] using hgg
 subst hgg'
 rcases hat with h1 | h1
 ·exact h.noR gg h1
 rw [h1];exact h.isin.isNone (Nat.le_refl _)
end
theorem Zcw {α:Type} {k:Nat} {R:Kn→α→(Nat→Option Value)→Prop} {K:Kn} {w:World} {base:Nat} {t:TypeId} {v:Value} {l:List α} {xs:List Value} (hK:K.In w) (h:w.ownsRow base t k v l.length xs) (hr:∀ g,v.ownBlock=some g→K g=none)
  (hR:∀ K',Kn.le K K'→∀ i (hi:i<l.length),∀ f:Nat→Option Value,(∀ j u,xs[i * k+j]?=some u→f j=some u)→R K' l[i] f):
  ∃ K',K.le K'∧K'.In w∧SlV K' k (R K') l v∧∀ b,b<base→K' b=K b:=by
 by_cases h0:l=[]
 ·obtain⟨a,c,h1,_⟩:=Zas h
  exact⟨K,Kn.le_refl K,hK,.inl ⟨h0,a,c,by rw [h1,h0];rfl⟩,fun _ _=>rfl⟩
 obtain⟨g,cap,h1,h2,h3,hb,hlt,h4⟩:=Zbz h (List.length_pos_iff.2 h0)
 have hg:K g=none:=hr g (by rw [h1];rfl)
 have ho:w.heap[g]?=some w.heap[g]:=Array.getElem?_eq_getElem hlt
 refine⟨K.add g w.heap[g],Kn.le_add hg,hK.add ho,.inr ⟨g,0,cap,h1,h2,h3,fun i hi=>hR _ (Kn.le_add hg) i hi _ fun j u hj=>?_⟩,fun b hbb=>Kn.add_other K _ (by omega)⟩
 have h5:=h4 _ u hj
 unfold Kn.cell
 rw [Kn.add_self,Nat.zero_add]
 simp only [World.cell?,ho] at h5
 cases hc:w.heap[g]<;>simp_all
theorem Zj7 {P:Program} (t e:TypeId) (k bytes:Nat) (z:Value) (ht:P.underlying t=some (.slice e)) (hinfo:(P.info? e).map (fun i=>(i.zero,i.size,i.bytes))=some (some z,k,bytes)) (hzs:z.cells.size=k) (hk:0<k)
  {w:World} {ops:Array Oper} {rest:List Oper} {o:Oper} {a:Act} {Q:Exit→Act→World→Prop} (s x:Operand) (hgd:o.guard=none)
  (ho:o.op = .call { callee := .builtin .append,args := #[s,x],argTypes := #[t,t] }) (base:Nat) (v:Value) (n:Nat) (xs:List Value) (hs:a.eval s=v) (hown:w.ownsRow base e k v n xs)
  (ad:Addr) (c:Nat) (news:List Value) (hx:a.eval x = .slice (some ad) 1 c) (hl:news.length=k) (hnews:∀ j u,news[j]?=some u→w.cell? (ad.add j)=some u) (h1:∀ u∈news,u.oneCell'=true)
  (hbytes:(n+1) * bytes≤140737488355328) (hn:n+1≤140737488355328) (hbase:base≤w.heap.size)
  (h:∀ g cap w',w'.ownsRow base e k (.slice (some ⟨g,0,none⟩) (n+1) cap) (n+1) (xs++news)→w.grownBy w' v.ownBlock→(v.ownBlock=some g∨g=w.heap.size)→wpList P ops Q rest (a.put o.dst (.slice (some ⟨g,0,none⟩) (n+1) cap)) w'):wpList P ops Q (o :: rest) a w:=by
 obtain⟨i,hi,h0,h2,h3⟩:=info_parts hinfo
 exact wpList_append_lies w hgd s x t ho base e i z k bytes ht hi h0 h2 h3 hzs hk v n xs hs hown ad 1 c news hx (by omega) hnews h1 (by omega) (by unfold maxLen;omega) hbytes hbase _ rfl (fun g cap w' a b c _=>h g cap w' a b c)
def VsX (_:Kn) (l:List Vr) (xs:List Value):Prop:=xs=l.flatMap fun v=>[.string v.name,.int .i64 v.kind]
def SsX (_:Kn) (l:List ByteArray) (xs:List Value):Prop:=xs=l.map .string
theorem VsX.at {K K':Kn} {l:List Vr} {xs:List Value} (h:VsX K l xs):∀ i (hi:i<l.length),∀ f:Nat→Option Value,(∀ j u,xs[i * 2+j]?=some u→f j=some u)→(fun _=>VrC) K' l[i] f:=by
 intro i hi f hf
 rw [show xs=_ from h] at hf
 have hg:=fun j hj=>Zie 2 (fun v:Vr=>[Value.string v.name,.int .i64 v.kind]) (fun _=>rfl) l i hi j hj
 exact⟨hf 0 _ (hg 0 (by decide)),hf 1 _ (hg 1 (by decide))⟩
theorem SsX.at {K K':Kn} {l:List ByteArray} {xs:List Value} (h:SsX K l xs):∀ i (hi:i<l.length),∀ f:Nat→Option Value,(∀ j u,xs[i * 1+j]?=some u→f j=some u)→(fun _=>StrC) K' l[i] f:=by
 intro i hi f hf
 rw [show xs=_ from h] at hf
 exact hf 0 _ (by simp [hi])
theorem set4_of {W:World} {b:Nat} {x y z u:Value} {t:TypeId} (h:W.heap[b]?=some (.cells #[x,y,z,u] t (0,0))) (p q r v:Value):
  ((((W.setCell ⟨b,0,none⟩ p).setCell ⟨b,1,none⟩ q).setCell ⟨b,2,none⟩ r).setCell ⟨b,3,none⟩ v).heap[b]?=some (.cells #[p,q,r,v] t (0,0)):=by
 have h1:=Zaa W b 0 p _ _ _ h
 have h2:=Zaa _ b 1 q _ _ _ h1
 have h3:=Zaa _ b 2 r _ _ _ h2
 have h4:=Zaa _ b 3 v _ _ _ h3
 simpa using h4
theorem mAyR2 {p:Prop} (h:p:=by
 clear HIF
 go_enter Tryz.func69,Tryz.ntmps69
 go_wp2_with fail
 go_ret
 exact⟨Zah (by rw [HK.out];unfold Zb1;simp [hc,U]),Below.refl _ _⟩):p:=h
theorem Zh1 {p:Prop} (h:p:=by
 clear HIF
 go_enter Tryz.func69,Tryz.ntmps69
 go_wp2_with fail
 go_ret
 exact⟨Zah (by rw [HK.out];unfold Zb1;simp [hc]),Below.refl _ _⟩):p:=h
theorem rarity_any (o:ByteArray) (w:World):
  Calls Tryz.prog 134 #[.string o] w fun e w'=>e = .returned (.tuple #[.int .i64 (arN o),.bool (arB o)])∧w=w':=by
 by_cases hk:o=oInt∨o=Zc2∨o=Zb9∨o=Zb2∨o=oNot∨o=oNeg∨o=oPre∨o=oIf∨o=Zj5∨o=oAnd∨o=oOr∨o=oXor∨o=oImp∨o=oEq∨o=oNe∨o=oLt∨o=oLe∨o=oGt∨o=oGe∨o=oAdd∨o=oSub∨o=oMul∨o=oDiv∨o=oMod∨o=Zbm∨o=oFby
 ·rcases hk with rfl | rfl | rfl | rfl | rfl | rfl | rfl | rfl | rfl | rfl | rfl | rfl | rfl | rfl | rfl | rfl | rfl | rfl | rfl | rfl | rfl | rfl | rfl | rfl | rfl | rfl
  all_goals
   go_enter Tryz.func134,Tryz.ntmps134
   go_wp2_with fail
   go_ret2
   exact⟨by rfl,rfl⟩
 simp only [not_or] at hk
 obtain⟨k0,k1,k2,k3,k4,k5,k6,k7,k8,k9,k10,k11,k12,k13,k14,k15,k16,k17,k18,k19,k20,k21,k22,k23,k24,k25⟩:=hk
 have hA:Zcm o=none:=by
  unfold Zcm
  rw [if_neg (by simp [k0,k1,k2,k3]),if_neg (by simp [k4,k5,k6]),if_neg k7,if_neg k8,if_neg (by simp [k24,k25])]
  rw [if_neg]
  simp [levels,k9,k10,k11,k12,k13,k14,k15,k16,k17,k18,k19,k20,k21,k22,k23]
 have h1:arN o=0:=by unfold arN;rw [hA];rfl
 have h2:arB o=false:=by unfold arB;rw [hA];rfl
 have e0:(o.toList==[105,110,116])=false:=Zat _ k0
 have e1:(o.toList==[116,114,117,101])=false:=Zat _ k1
 have e2:(o.toList==[102,97,108,115,101])=false:=Zat _ k2
 have e3:(o.toList==[110,97,109,101])=false:=Zat _ k3
 have e4:(o.toList==[110,111,116])=false:=Zat _ k4
 have e5:(o.toList==[110,101,103])=false:=Zat _ k5
 have e6:(o.toList==[112,114,101])=false:=Zat _ k6
 have e7:(o.toList==[105,102])=false:=Zat _ k7
 have e8:(o.toList==[99,97,108,108])=false:=Zat _ k8
 have e9:(o.toList==[97,110,100])=false:=Zat _ k9
 have e10:(o.toList==[111,114])=false:=Zat _ k10
 have e11:(o.toList==[120,111,114])=false:=Zat _ k11
 have e12:(o.toList==[61,62])=false:=Zat _ k12
 have e13:(o.toList==[61])=false:=Zat _ k13
 have e14:(o.toList==[60,62])=false:=Zat _ k14
 have e15:(o.toList==[60])=false:=Zat _ k15
 have e16:(o.toList==[60,61])=false:=Zat _ k16
 have e17:(o.toList==[62])=false:=Zat _ k17
 have e18:(o.toList==[62,61])=false:=Zat _ k18
 have e19:(o.toList==[43])=false:=Zat _ k19
 have e20:(o.toList==[45])=false:=Zat _ k20
 have e21:(o.toList==[42])=false:=Zat _ k21
 have e22:(o.toList==[47])=false:=Zat _ k22
 have e23:(o.toList==[109,111,100])=false:=Zat _ k23
 have e24:(o.toList==[45,62])=false:=Zat _ k24
 have e25:(o.toList==[102,98,121])=false:=Zat _ k25
 rw [h1,h2]
 clear h1 h2 hA k0 k1 k2 k3 k4 k5 k6 k7 k8 k9 k10 k11 k12 k13 k14 k15 k16 k17 k18 k19 k20 k21 k22 k23 k24 k25
 go_enter Tryz.func134,Tryz.ntmps134
 go_wp2_with fail
 go_ret2
 exact⟨rfl,rfl⟩
theorem rresult_any (o:ByteArray) (l0:(o.toList==[105,110,116])=false) (l1:(o.toList==[116,114,117,101])=false) (l2:(o.toList==[102,97,108,115,101])=false) (l3:(o.toList==[110,97,109,101])=false) (k r0 r1 r2 rl:Int) (g m cap:Nat) (w:World) (hm:m≤1000000000) (d0:w.cell? ⟨g,0,none⟩=some (.int .i64 r0)) (dl:w.cell? ⟨g,m,none⟩=some (.int .i64 rl))
  (hif:(o.toList==[105,102])=true→w.cell? ⟨g,1,none⟩=some (.int .i64 r1)∧w.cell? ⟨g,2,none⟩=some (.int .i64 r2)∧m=2):
  Calls Tryz.prog 69 #[.string o,.slice (some ⟨g,0,none⟩) (m+1) cap] w fun r w'=>r = .returned (.int .i64 (Zb1 o k r0 r1 r2 (r0==rl)))∧Below w.heap.size w w':=by
 have HIF:=Zhd hif
 have HF:=Zhd (show ∀ n,Below w.heap.size w (w.drewN n) from fun n=>Zbw (Below.refl _ _) n)
 clear hif
 obtain⟨kw,hkw⟩:∃ x,Zb1 o k r0 r1 r2 (r0==rl)=x:=⟨_,rfl⟩
 rw [hkw]
 have HK:=Zhd hkw.symm
 clear hkw
 rcases Bool.eq_false_or_eq_true (o.toList==[105,102]) with c0 | c0
 ·obtain⟨d1,d2,hm2⟩:=HIF.out c0
  subst hm2
  have hrr:r2=rl:=by rw [d2] at dl;cases dl;rfl
  subst hrr
  clear dl
  rcases Bool.eq_false_or_eq_true (r0==1) with t0 | t0
  ·rcases Bool.eq_false_or_eq_true (r1==r2) with t1 | t1
   ·have S0:r0=1:=by simpa using t0
    have S1:r1=r2:=by simpa using t1
    subst S0
    subst S1
    go_enter Tryz.func69,Tryz.ntmps69
    go_wp2_with fail
    go_quiet (fail)
    go_wp2_with fail
    go_ret
    exact⟨Zah (by rw [HK.out];unfold Zb1;simp [l0,l1,l2,l3,c0]),HF.out _⟩
   have S0:r0=1:=by simpa using t0
   have S1:¬ r1=r2:=by simpa using t1
   subst S0
   go_enter Tryz.func69,Tryz.ntmps69
   go_wp2_with fail
   go_quiet (fail)
   go_wp2_with fail
   go_ret
   exact⟨Zah (by rw [HK.out];unfold Zb1;simp [l0,l1,l2,l3,c0,S1]),HF.out _⟩
  have S0:¬ r0=1:=by simpa using t0
  go_enter Tryz.func69,Tryz.ntmps69
  go_wp2_with fail
  go_quiet (fail)
  go_wp2_with fail
  go_ret
  exact⟨Zah (by rw [HK.out];unfold Zb1;simp [l0,l1,l2,l3,c0,S0]),HF.out _⟩
 rcases Bool.eq_false_or_eq_true (r0==rl) with t | t
 ·have S:r0=rl:=by simpa using t
  subst S
  rw [t] at HK
  rcases Bool.eq_false_or_eq_true (o.toList==[112,114,101]) with c1 | c1
  ·have hc:o.toList=[112,114,101]:=by simpa using c1
   exact Zh1
  rcases Bool.eq_false_or_eq_true (o.toList==[45,62]) with c2 | c2
  ·have hc:o.toList=[45,62]:=by simpa using c2
   exact Zh1
  rcases Bool.eq_false_or_eq_true (o.toList==[102,98,121]) with c3 | c3
  ·have hc:o.toList=[102,98,121]:=by simpa using c3
   exact Zh1
  rcases Bool.eq_false_or_eq_true (o.toList==[61]) with c4 | c4
  ·have hc:o.toList=[61]:=by simpa using c4
   exact Zh1
  rcases Bool.eq_false_or_eq_true (o.toList==[60,62]) with c5 | c5
  ·have hc:o.toList=[60,62]:=by simpa using c5
   exact Zh1
  rcases Bool.eq_false_or_eq_true (o.toList==[110,111,116]) with c6 | c6
  ·rcases Bool.eq_false_or_eq_true (r0==1) with u | u
   ·have U:r0=1:=by simpa using u
    subst U
    have hc:o.toList=[110,111,116]:=by simpa using c6
    exact Zh1
   have U:¬ r0=1:=by simpa using u
   have hc:o.toList=[110,111,116]:=by simpa using c6
   exact mAyR2
  rcases Bool.eq_false_or_eq_true (o.toList==[97,110,100]) with c7 | c7
  ·rcases Bool.eq_false_or_eq_true (r0==1) with u | u
   ·have U:r0=1:=by simpa using u
    subst U
    have hc:o.toList=[97,110,100]:=by simpa using c7
    exact Zh1
   have U:¬ r0=1:=by simpa using u
   have hc:o.toList=[97,110,100]:=by simpa using c7
   exact mAyR2
  rcases Bool.eq_false_or_eq_true (o.toList==[111,114]) with c8 | c8
  ·rcases Bool.eq_false_or_eq_true (r0==1) with u | u
   ·have U:r0=1:=by simpa using u
    subst U
    have hc:o.toList=[111,114]:=by simpa using c8
    exact Zh1
   have U:¬ r0=1:=by simpa using u
   have hc:o.toList=[111,114]:=by simpa using c8
   exact mAyR2
  rcases Bool.eq_false_or_eq_true (o.toList==[120,111,114]) with c9 | c9
  ·rcases Bool.eq_false_or_eq_true (r0==1) with u | u
   ·have U:r0=1:=by simpa using u
    subst U
    have hc:o.toList=[120,111,114]:=by simpa using c9
    exact Zh1
   have U:¬ r0=1:=by simpa using u
   have hc:o.toList=[120,111,114]:=by simpa using c9
   exact mAyR2
  rcases Bool.eq_false_or_eq_true (o.toList==[61,62]) with c10 | c10
  ·rcases Bool.eq_false_or_eq_true (r0==1) with u | u
   ·have U:r0=1:=by simpa using u
    subst U
    have hc:o.toList=[61,62]:=by simpa using c10
    exact Zh1
   have U:¬ r0=1:=by simpa using u
   have hc:o.toList=[61,62]:=by simpa using c10
   exact mAyR2
  rcases Bool.eq_false_or_eq_true (o.toList==[60]) with c11 | c11
  ·rcases Bool.eq_false_or_eq_true (r0==2) with u | u
   ·have U:r0=2:=by simpa using u
    subst U
    have hc:o.toList=[60]:=by simpa using c11
    exact Zh1
   have U:¬ r0=2:=by simpa using u
   have hc:o.toList=[60]:=by simpa using c11
   exact mAyR2
  rcases Bool.eq_false_or_eq_true (o.toList==[60,61]) with c12 | c12
  ·rcases Bool.eq_false_or_eq_true (r0==2) with u | u
   ·have U:r0=2:=by simpa using u
    subst U
    have hc:o.toList=[60,61]:=by simpa using c12
    exact Zh1
   have U:¬ r0=2:=by simpa using u
   have hc:o.toList=[60,61]:=by simpa using c12
   exact mAyR2
  rcases Bool.eq_false_or_eq_true (o.toList==[62]) with c13 | c13
  ·rcases Bool.eq_false_or_eq_true (r0==2) with u | u
   ·have U:r0=2:=by simpa using u
    subst U
    have hc:o.toList=[62]:=by simpa using c13
    exact Zh1
   have U:¬ r0=2:=by simpa using u
   have hc:o.toList=[62]:=by simpa using c13
   exact mAyR2
  rcases Bool.eq_false_or_eq_true (o.toList==[62,61]) with c14 | c14
  ·rcases Bool.eq_false_or_eq_true (r0==2) with u | u
   ·have U:r0=2:=by simpa using u
    subst U
    have hc:o.toList=[62,61]:=by simpa using c14
    exact Zh1
   have U:¬ r0=2:=by simpa using u
   have hc:o.toList=[62,61]:=by simpa using c14
   exact mAyR2
  rcases Bool.eq_false_or_eq_true (r0==2) with u | u
  ·have U:r0=2:=by simpa using u
   subst U
   go_enter Tryz.func69,Tryz.ntmps69
   go_wp2_with fail
   go_ret
   exact⟨Zah (by rw [HK.out];unfold Zb1;simp [l0,l1,l2,l3,c0,c1,c2,c3,c4,c5,c6,c7,c8,c9,c10,c11,c12,c13,c14]),Below.refl _ _⟩
  have U:¬ r0=2:=by simpa using u
  go_enter Tryz.func69,Tryz.ntmps69
  go_wp2_with fail
  go_ret
  exact⟨Zah (by rw [HK.out];unfold Zb1;simp [l0,l1,l2,l3,c0,c1,c2,c3,c4,c5,c6,c7,c8,c9,c10,c11,c12,c13,c14,U]),Below.refl _ _⟩
 have S:¬ r0=rl:=by simpa using t
 have tn:(r0==rl)=false:=t
 rw [t] at HK
 go_enter Tryz.func69,Tryz.ntmps69
 go_wp2_with fail
 go_ret
 exact⟨Zah (by rw [HK.out];unfold Zb1;simp [l0,l1,l2,l3,c0]),Below.refl _ _⟩
end Go.Proofs.YtgoccoldkfpbgaaGreatDoor
