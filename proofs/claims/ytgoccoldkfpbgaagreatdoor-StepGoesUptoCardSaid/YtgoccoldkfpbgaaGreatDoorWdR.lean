/- Plain: a World's program: its parts, its names, its values are right ones: no function of the program in sight. -/
import Derived.Test.YtgoccoldkfpbgaaGreatDoorWdM
import Derived.Test.YtgoccoldkfpbgaaGreatDoorRg
import Derived.Test.YtgoccoldkfpbgaaGreatDoorTe
import Derived.Test.YtgoccoldkfpbgaaGreatDoorKi
import Derived.Deep.RegionLaw
import Derived.BigQuiet
import Derived.Test.YtgoccoldkfpbgaaGreatDoorRh
set_option linter.all false
namespace Go.Proofs.YtgoccoldkfpbgaaGreatDoor
set_option maxRecDepth 100000
set_option maxHeartbeats 16000000
open Go.RowKit Mx
structure WdP (x:WdW):Prop where
 ck:(Za2 x.p).1=0
 hks:Zap Env.none x.p.vars=some x.ks
 ho:Zbf x.p = .ok x.ord
 sz:x.p.fl.length≤400∧Ex.partsL x.p.terms≤4000∧x.p.ins.length≤1000∧x.ins.length≤1000
 osz:x.p.outs.length≤1000000
 A:x.A.length=x.p.fl.length∧Zbh x.p x.A=Zac x.p∧∀ y∈x.A,0≤y∧y≤2
 bd:x.B≠x.D∧x.B<x.base∧x.D<x.base
 ni : -128≤x.ni∧x.ni≤127
 inp:∀ l∈x.ins,Zav x.p.ins l l.length=true
 fv:x.fv=fvS x.R (cdOf x.p x.ord) (Zbb x.R (Zab 0 x.p.terms)) x.inp
theorem WdP.fix {x:WdW} (h:WdP x) (k i:Nat) (hk:k<x.p.fl.length):x.fv k i=x.V x.p.fl[k].e i:=by
 unfold WdW.V
 rw [h.fv]
 exact fv_fix h.ck h.hks h.ho x.nb x.ni _ x.inp k i hk
structure InP (x:WdW) (e:Ex):Prop where
 form:Zaf x.ks e=true
 kind:Zan x.ks e≠0
 parts:e.parts≤4000
 pl:∃ m,PlX x.p m e∧m+memN e≤Zam x.p.terms
 tr:∀ i,allT x.R x.inp x.fv e i=true→x.tr i=true
theorem InP.part {x:WdW} {o:ByteArray} {n:Int} {s:ByteArray} {l:List Ex} (h:InP x (.mk o n s l)):∀ j (hj:j<l.length),InP x l[j]:=fun j hj=>by
 have hm:=List.getElem_mem hj
 obtain⟨m,h1,h2⟩:=h.pl
 have h3:=Zau l j hj
 have h4:=h.parts
 simp only [Ex.parts] at h4
 refine⟨(Zax h.form).1 _ hm,(Zea h.kind).2 _ hm,by omega,⟨_,h1.parts.1.at j hj,?_⟩,fun i hi=>h.tr i ?_⟩
 ·rw [Zgw] at h2
  have:=Zdk l j hj
  have:=Zca l (j+1)
  omega
 simp only [allT,Bool.or_eq_true]
 right
 rw [Zfc,List.any_eq_true]
 exact⟨_,hm,hi⟩
theorem WdP.term {x:WdW} (h:WdP x):∀ e∈x.p.terms,InP x e:=fun e he=>by
 obtain⟨f1,f2⟩:=Zey (Zbk h.ho).1 h.hks e he
 obtain⟨j,hj,rfl⟩:=List.mem_iff_getElem.1 he
 have h3:=Zau _ j hj
 have h4:=h.sz.2.1
 refine⟨f1,f2,by omega,⟨_,(plX_all x.p).at j hj,?_⟩,fun i hi=>?_⟩
 ·have:=Zdk x.p.terms j hj
  have:=Zca x.p.terms (j+1)
  omega
 unfold WdW.tr
 rw [Zfc,List.any_eq_true]
 exact⟨_,he,hi⟩
theorem nm_case {p:Pr} (hck:Zaj p=0) {ks:Env Int} (hks:Zap Env.none p.vars=some ks) (s:ByteArray) (hs:(ks s).isSome=true):
  (∃ j,∃ h:j<p.ins.length,p.ins[j].name=s∧(∀ i (hi:i<p.ins.length),i<j→p.ins[i].name≠s)∧getI (Zai p) s = -1 - (j:Int))∨
  (∃ k,∃ h:k<p.fl.length,p.fl[k].name=s∧getI (Zai p) s=(k:Int)∧fIdx p s=some k∧∀ i (hi:i<p.ins.length),p.ins[i].name≠s):=by
 have hnd:=Zhn _ _ _ hks
 have e:p.vars.map (·.1)=p.ins.map (·.name)++p.fl.map (·.name):=by simp [Pr.vars,List.map_append,List.map_map,Function.comp_def]
 rw [e,List.nodup_append] at hnd
 obtain⟨n1,n2,n3⟩:=hnd
 by_cases h0:getI (Zai p) s<0
 ·left
  have hf:s∉p.fl.map (·.name):=fun hf=>by
   obtain⟨i,hi,e⟩:=List.mem_iff_getElem.1 hf
   have hi':i<p.fl.length:=by simpa using hi
   have:=Zhh hck i hi'
   have e':p.fl[i].name=s:=by simpa using e
   rw [e'] at this
   omega
  have hin:s∈p.ins.map (·.name):=by
   rcases Ze7 _ _ _ hks hs with h | h
   ·simp [Env.none] at h
   rw [e,List.mem_append] at h
   exact h.resolve_right hf
  obtain⟨j,hj⟩:=Zgy p.ins 0 Env.none s (.inl hin)
  have hnm:getI (Zai p) s = -1 - (j:Int):=by
   unfold getI Zai
   rw [Zdn _ _ _ _ hf,hj]
   rfl
  rcases Zi3 _ _ _ _ _ hj with h | ⟨j',hj',e1,e2⟩
  ·simp [Env.none] at h
  have hjj:j=j':=by omega
  subst hjj
  refine⟨j,hj',e1,fun i hi hij he=>?_,hnm⟩
  have h1:=(List.pairwise_iff_getElem.1 (List.nodup_iff_pairwise_ne.1 n1)) i j (by simpa using hi) (by simpa using hj') hij
  exact h1 (by simp [he,e1])
 right
 have hr:=(Zh0 hck hks s hs).2 (by omega)
 have h1:=nm_of hck hks s hs (by omega)
 have h2:getI (Zai p) s=((getI (Zai p) s).toNat:Int):=by omega
 generalize (getI (Zai p) s).toNat=k at *
 have h3:p.fl[k].name=s:=by rw [h1];simp [nfOf,List.getD_eq_getElem?_getD,hr]
 refine⟨k,hr,h3,h2,by rw [← h3];exact Zif n2 k hr,fun i hi he=>?_⟩
 exact n3 s (by rw [← he];exact List.mem_map_of_mem (List.getElem_mem hi)) s (by rw [← h3];exact List.mem_map_of_mem (List.getElem_mem hr)) rfl
section
variable {x : WdW} (h : WdP x)
include h
theorem WdP.inpR {i:Nat} (hi:i<x.ins.length):Zav x.p.ins (x.inp i) (x.inp i).length=true:=by
 have e:x.inp i=x.ins[i]:=by simp [WdW.inp,List.getD_eq_getElem?_getD,hi]
 rw [e]
 exact h.inp _ (List.getElem_mem hi)
theorem WdP.memR:∀ i,i≤x.ins.length→MemR x.ks x.p (memS x.R (cdOf x.p x.ord) (Zbb x.R (Zab 0 x.p.terms)) x.inp i)
 | 0,_=>start_right (Zbk h.ho).1 h.hks x.nb h.ni
 | i+1,hi=>by
  have hfls:(cdOf x.p x.ord).fs.length=x.p.fl.length:=by simp [cdOf,Zb8]
  have:=(inst_right h.ck h.hks h.ho x.nb h.ni (decide (i=0)) (WdP.memR i (by omega)) (h.inpR (i:=i) (by omega)) rfl).2.2
  simp only [memS,instOf]
  rw [hfls]
  exact this
theorem WdP.right {e:Ex} (he:InP x e) {i:Nat} (hi:i<x.ins.length):Zar (x.V e i) (Zan x.ks e)=true:=by
 obtain⟨m,h1,h2⟩:=he.pl
 have hfls:(cdOf x.p x.ord).fs.length=x.p.fl.length:=by simp [cdOf,Zb8]
 have hpl:Zeg x.ks (kmOf x.ks x.p) m e:=fun j y hy=>by
  unfold kmOf
  rw [List.getD_eq_getElem?_getD,h1 j y hy]
  rfl
 have h3:=(inst_right h.ck h.hks h.ho x.nb h.ni (decide (i=0)) (h.memR i (by omega)) (h.inpR hi) rfl).1 e m he.form he.kind hpl h2
 have h4:=wd_eval (p:=x.p) x.R x.ord (Zbb x.R (Zab 0 x.p.terms)) x.inp (Zd9 x.p).1 i e he.form m h1
 unfold WdW.V
 rw [h.fv,← h4]
 unfold Zdm instOf
 rw [hfls]
 exact h3
theorem WdP.app {o:ByteArray} {n:Int} {s:ByteArray} {l:List Ex} (he:InP x (.mk o n s l)) (ho:o≠oInt∧o≠Zc2∧o≠Zb9∧o≠Zb2∧o≠oPre∧o≠Zbm∧o≠oFby) {i:Nat} (hi:i<x.ins.length):isApp o (wdVs x.R x.inp x.fv l i)=0:=by
 obtain⟨a1,a2,a3,a4,a5,a6,a7⟩:=ho
 have hval:∀ v∈wdVs x.R x.inp x.fv l i,Zar v v.kind=true:=fun v hv=>by
  rw [Zd5] at hv
  obtain⟨e,hm,rfl⟩:=List.mem_map.1 hv
  obtain⟨j,hj,rfl⟩:=List.mem_iff_getElem.1 hm
  have:=h.right (he.part j hj) hi
  rw [← (Zd8 this).1] at this
  exact this
 have hkinds:(wdVs x.R x.inp x.fv l i).map (·.kind)=Zao x.ks l:=by
  rw [Zd5,Zc6,List.map_map]
  refine List.map_congr_left fun e hm=>?_
  obtain⟨j,hj,rfl⟩:=List.mem_iff_getElem.1 hm
  exact (Zd8 (h.right (he.part j hj) hi)).1
 have hlen:(wdVs x.R x.inp x.fv l i).length=l.length:=by rw [Zd5];simp
 have hf:=he.form
 simp only [Zaf,Bool.and_eq_true,decide_eq_true_eq] at hf
 have hfo:=hf.1.1.1
 have hcall:=hf.1.1.2
 simp only [form,Ex.op,Ex.l] at hfo
 have hk:=he.kind
 rw [(Zea hk).1] at hk
 unfold isApp
 cases ha:Zcm o with
 | none=>rw [ha] at hfo;simp at hfo
 | some k=>
  rw [ha] at hfo
  simp only [Bool.and_eq_true,Bool.or_eq_true,decide_eq_true_eq] at hfo
  have hk1:1≤k∧k=l.length:=by
   have h1:=hfo.1.1
   have h2:¬ k<1:=fun hlt=>by
    unfold Zcm at ha
    simp only [a1,a2,a3,a4,a5,a6,a7,hcall,or_false,if_false] at ha
    split at ha
    ·cases ha;omega
    split at ha
    ·cases ha;omega
    split at ha
    ·cases ha;omega
    cases ha
   rcases h1 with h1 | h1
   ·omega
   exact⟨by have:=of_decide_eq_true h1;omega,of_decide_eq_true h1⟩
  dsimp only
  rw [if_neg (by rw [hlen];rintro (h | h | h | h | h)<;>first | omega | exact absurd h ‹_›),if_neg (by
   simp only [Bool.not_eq_true',← Bool.not_eq_true,List.all_eq_true]
   exact fun h=>h hval),hkinds,if_neg]
  intro h0
  refine hk ?_
  have:∀ k k' L,Zch o k L=Zch o k' L:=fun k k' L=>by unfold Zch;simp only [if_neg a4]
  rw [this _ 0];exact h0
end
theorem mWf1 {p:Prop} (h:p:=by
 clear HM
 go_wp2_with fail
 go_round
 case rel=>
  rcases Nat.eq_zero_or_pos m with h0 | h0
  ·refine .inr ⟨by subst h0;go_num,fun z hz=>?_⟩
   obtain⟨j,hj,rfl⟩:=List.mem_iff_getElem.1 hz
   exact HM'.out j hj (by omega)
  exact .inl ⟨m - 1,congrArg (Value.int .i64) (by omega),by omega,fun j hj h=>HM'.out j hj (by omega)⟩
 simp [intOf]):p:=h
structure WdOk (x:WdW) (K:Kn):Prop where
 kn:KnW x K
 pr:PrP K x.p x.vi x.vo x.vl x.va x.vc
 late:Zeo K x.A x.vlt
 vars:VrsV K (Zc1 x.p) x.vvr
 ins:InsV K x.ins x.vin
theorem WdOk.le {x:WdW} {K K':Kn} (h:WdOk x K) (hle:K.le K') (hk:KnW x K'):WdOk x K':=⟨hk,h.pr.le hle,SlV.le h.late hle (fun _ _ _ h e=>h 0 _ e),SlV.le h.vars hle VrC.mono,InsV.le hle h.ins⟩
def Zj8 (x:WdW) (e:Ex) (i r:Nat):Prop:=∀ (K:Kn) (v:Value),WdOk x K→ExV K e v→∀ (w:World) (T:List Bool) (u:Value) (kl:List KE),WdS x K w T u kl→
 Calls Tryz.prog 47 #[ptrV x.B,v,.int .i64 i] w fun ret w'=>∃ T' u' kl',ret = .returned (vlV (x.V e i))∧WdN x K i r w T kl w' T' u' kl'∧(x.own e i=true→T'.getD i false=true)
def FlowC (x:WdW) (k i:Nat):Prop:=∀ (K:Kn),WdOk x K→∀ (w:World) (T:List Bool) (u:Value) (kl:List KE),WdS x K w T u kl→
 Calls Tryz.prog 52 #[ptrV x.B,.int .i64 k,.int .i64 i] w fun ret w'=>∃ T' u' kl',ret = .returned (vlV (x.fv k i))∧WdN x K i (x.rk k+1) w T kl w' T' u' kl'
theorem none_any {x:WdW} {K:Kn} {w:World} {T:List Bool} {u:Value} {kl:List KE} (hs:WdS x K w T u kl) (k:Int) (hk:k=1∨k=2):
  Calls Tryz.prog 45 #[ptrV x.B,.int .i64 k] w fun r w'=>r = .returned (vlV (nilV x.nb x.ni k))∧Below w.heap.size w w':=by
 have hb0:=(Below.refl w.heap.size w).alloc (Nat.le_refl _) (.cells #[.int .i64 0,.int .i64 0] 75)
 have hs0:=hs.below hb0
 have hR0:=heap_alloc_new w (.cells #[.int .i64 0,.int .i64 0] 75)
 have hs1:w.heap.size<(w.alloc (.cells #[.int .i64 0,.int .i64 0] 75)).heap.size:=by simp
 have c8:(w.alloc (.cells #[.int .i64 0,.int .i64 0] 75)).cell? ⟨x.B,8,none⟩=some (.bool x.nb):=by rw [hs0.cell];rfl
 have c9:(w.alloc (.cells #[.int .i64 0,.int .i64 0] 75)).cell? ⟨x.B,9,none⟩=some (.int .i64 x.ni):=by rw [hs0.cell];rfl
 generalize x.nb=nb at *
 generalize x.ni=ni at *
 clear hs hs0
 rcases hk with rfl | rfl
 ·obtain⟨z,hz⟩:∃ z:Int,tv nb=⟨1,z⟩:=⟨_,rfl⟩
  rw [show nilV nb ni 1=tv nb from rfl,hz]
  go_enter Tryz.func45,Tryz.ntmps45
  go_wp2_with fail
  have hcall:=fun w'=>Zdi nb w'
  rw [hz] at hcall
  refine (hcall _).mono ?_
  rintro r w3 ⟨rfl,hc3⟩
  have hRz:=(hc3.block w.heap.size hs1).trans hR0
  obtain⟨q0,q1,f0,f1,hlw⟩:=Zak hRz
  obtain⟨e0,e1,e2,e3⟩:=Za7 hRz (.int .i64 1) (.int .i64 z)
  have E0:=Zhd e0
  have E1:=Zhd e1
  have HBz:=Zhd (hb0.trans (hc3.mono (Nat.le_of_lt hs1)))
  clear e0 e1 e2 e3 hRz
  go_wp2_with fail
  have e0:=E0.out
  have e1:=E1.out
  refine bodyPost_ret (v:=vlV ⟨1,z⟩) (by simp [results,Tryz.results45,go_sem,e0,e1]) rfl ?_
  exact⟨rfl,Zbv HBz.out (Nat.le_refl _) _ _⟩
 go_enter Tryz.func45,Tryz.ntmps45
 go_wp2_with fail
 refine bodyPost_ret (v:=vlV ⟨2,ni⟩) (by simp [results,Tryz.results45,go_sem]) rfl ?_
 exact⟨rfl,(Below.refl _ _).alloc (Nat.le_refl _) _⟩
theorem Gr3.of_grown {x:WdW} {K:Kn} {w w3:World} {T:List Bool} {u:Value} {kl:List KE} (h:WdS x K w T u kl) (hg:w.grownBy w3 u.ownBlock) {b:Nat} {cs:Array Value} {t:TypeId} {fr:Nat×Nat} (hw:w.heap[b]?=some (.cells cs t fr)) (ht:t≠knT):w3.heap[b]?=some (.cells cs t fr):=by
 rw [hg.block b (Zlt hw) (fun e=>?_)]
 ·exact hw
 rcases h.row.2 with ⟨q1,_⟩ | ⟨g',cap,cur,q1,q2,q3,_⟩
 ·rw [q1] at e;cases e
 rw [q1] at e
 cases e
 rw [q3] at hw
 cases hw
 exact ht rfl
theorem Tryz.infoKe:(Tryz.prog.info? knT).map (fun i=>(i.zero,i.size,i.bytes))=some (some (.agg #[.int .i64 0,.int .i64 0,.int .i64 0,.int .i64 0]),4,32):=by kernel_rfl
theorem wflow_any {x:WdW} (hp:WdP x) {k i:Nat} (hk:k<x.p.fl.length) (hi:i<x.ins.length) (ht:Zj8 x x.p.fl[k].e i (x.rk k)):FlowC x k i:=by
 intro K hok w T u kl hs
 have hfew:kl.length≤400000:=by
  have:=hs.few
  have:=Nat.mul_le_mul hp.sz.2.2.2 hp.sz.1
  omega
 have hk4:=hp.sz.1
 have hi4:=hp.sz.2.2.2
 obtain⟨i0,hi0,hz0,hz1,hz2⟩:=info_parts Tryz.infoKe
 obtain⟨a,c,hu,_⟩:=Zas hs.row
 subst hu
 obtain⟨al,cl,hvl⟩:=hok.pr.fl.len
 obtain⟨bl,offl,hal,_,hfc⟩:=SlV.at (hvl▸hok.pr.fl) hk
 subst hal
 obtain⟨ul,p0,p1,p2,p3,p4,p5,hul⟩:=hfc.cells
 have hfix:=hp.fix k i hk
 generalize x.p.fl[k]=f at *
 obtain⟨⟨zk,zn⟩,hz⟩:∃ z,x.V f.e i=z:=⟨_,rfl⟩
 rw [hz] at hfix
 have HT:=Zhd (show ∀ (w:World) (T:List Bool) (u:Value) (kl:List KE),WdS x K w T u kl→Calls Tryz.prog 47 #[ptrV x.B,.agg #[.string f.e.op,.int .i64 f.e.n,.string f.e.s,ul],.int .i64 i] w fun ret w'=>∃ T' u' kl',ret = .returned (vlV ⟨zk,zn⟩)∧WdN x K i (x.rk k) w T kl w' T' u' kl'∧(x.own f.e i=true→T'.getD i false=true) from fun w T u kl h=>by
  have:=ht K _ hok ⟨ul,rfl,hul⟩ w T u kl h
  rw [hz] at this
  exact this)
 clear ht hfc hul
 rw [hfix]
 have hb0:=(Below.refl w.heap.size w).alloc (Nat.le_refl _) (.cells #[.int .i64 0,.int .i64 0] 75)
 have hR0:=heap_alloc_new w (.cells #[.int .i64 0,.int .i64 0] 75)
 have hs0:=hs.below hb0
 have hKR:K w.heap.size=none:=hs.isin.isNone (Nat.le_refl _)
 have hRB:x.B<w.heap.size∧x.D<w.heap.size:=by have:=hp.bd;have:=hs.low;omega
 have hN0:WdN x K i (x.rk k) w T kl (w.alloc (.cells #[.int .i64 0,.int .i64 0] 75)) T (.slice a kl.length c) kl:=(hs.refl i (x.rk k)).below hb0
 have hrow:=hs0.row
 have c11:(w.alloc (.cells #[.int .i64 0,.int .i64 0] 75)).cell? ⟨x.B,11,none⟩=some (.slice a kl.length c):=by rw [hs0.cell];rfl
 have c2:(w.alloc (.cells #[.int .i64 0,.int .i64 0] 75)).cell? ⟨x.B,2,none⟩=some (.slice (some ⟨bl,offl,none⟩) x.p.fl.length cl):=by rw [hs0.cell];show some x.vl=_;rw [hvl]
 have p2:=hs0.isin.cell p2
 have p3:=hs0.isin.cell p3
 have p4:=hs0.isin.cell p4
 have p5:=hs0.isin.cell p5
 have HP:=Zhd hp
 have HOK:=Zhd hok
 have HN0:=Zhd hN0
 have HROW:=Zhd hrow
 have HZ:=Zhd hfix
 clear hs hs0 hp hok hb0 hN0 hrow hfix
 go_enter Tryz.func52,Tryz.ntmps52
 go_wp2_with fail
 generalize w.alloc (.cells #[.int .i64 0,.int .i64 0] 75)=W0 at *
 go_loop [7] (fun z=>(∃ m:Nat,z = .int .i64 m∧m<kl.length∧∀ j (hj:j<kl.length),m<j→¬ (kl[j].1=k∧kl[j].2.1=i))∨(z = .int .i64 (-1)∧∀ y∈kl,¬ (y.1=k∧y.2.1=i))) (fun z=>(intOf z+1).toNat)
 case atStart=>
  by_cases h0:kl.length=0
  ·refine .inr ⟨by rw [h0];go_num,fun y hy=>?_⟩
   rw [List.eq_nil_of_length_eq_zero h0] at hy;cases hy
  exact .inl ⟨kl.length - 1,by go_num,by omega,fun j hj h=>by omega⟩
 rcases hrel with ⟨m,rfl,hm,hn⟩ | ⟨rfl,hn⟩
 ·have HNN:=Zhd hn
  clear hn
  obtain⟨g,cap,hsh,_,_,hgb,hgl,hcs⟩:=Zbz HROW.out (by omega)
  cases hsh
  obtain⟨t0,t1,t2,t3⟩:=knXs_at kl m hm
  have d0:=hcs _ _ t0
  have d1:=hcs _ _ t1
  have d2:=hcs _ _ t2
  have d3:=hcs _ _ t3
  clear t0 t1 t2 t3
  have hgood:=HN0.out.st.good _ (List.getElem_mem hm)
  have HM:=Zhd (show ∀ (h:¬ (kl[m].1=k∧kl[m].2.1=i)),∀ j (hj:j<kl.length),m≤j→¬ (kl[j].1=k∧kl[j].2.1=i) from fun h j hj hmj=>by
   by_cases e:m=j
   ·subst e;exact h
   exact HNN.out j hj (by omega))
  clear hcs
  generalize kl[m]=y at *
  obtain⟨yk,yi,yv,yn⟩:=y
  dsimp only at d0 d1 d2 d3 hgood HM
  by_cases h1:yk=k
  ·have q1:((yk:Int)==(k:Int))=true:=by simp [h1]
   by_cases h2:yi=i
   ·have q2:((yi:Int)==(i:Int))=true:=by simp [h2]
    clear HM
    subst h1 h2
    have hgood:(⟨yv,yn⟩:Vl)=x.fv yk yi:=hgood
    rw [HZ.out] at hgood
    cases hgood
    obtain⟨_,_,f0,f1,_⟩:=Zak hR0
    obtain⟨e0,e1,_,_⟩:=Za7 hR0 (.int .i64 zk) (.int .i64 zn)
    have E0:=Zhd e0
    have E1:=Zhd e1
    have HF:=Zhd ((HN0.out.more (Nat.le_succ _)).put2 (Nat.le_refl _) hRB.1 hRB.2 hKR hR0 (by decide) (.int .i64 zk) (.int .i64 zn))
    clear e0 e1
    go_wp2_with (guard_target =~ bodyPost _ _ _ _ _ _;have e0:=E0.out;have e1:=E1.out;refine bodyPost_ret (v:=vlV ⟨zk,zn⟩) (by simp [results,Tryz.results52,go_sem,e0,e1]) rfl ?_;exact⟨by rw [HZ.out],T,_,kl,HF.out⟩)
   have q2:((yi:Int)==(i:Int))=false:=by simp;omega
   have HM':=Zhd (HM.out fun h=>h2 h.2)
   exact mWf1
  have q1:((yk:Int)==(k:Int))=false:=by simp;omega
  have HM':=Zhd (HM.out fun h=>h1 h.1)
  exact mWf1
 have HNN:=Zhd hn
 clear hn
 go_wp2_with fail
 refine (HT.out W0 T _ kl HN0.out.st).mono ?_
 rintro r w1 ⟨T1,u1,kl1,rfl,hN,_⟩
 have hN1:=HN0.out.trans hN (.inr ⟨rfl,Nat.le_refl _⟩)
 have HFR:=Zhd (show ∀ z∈kl1,¬ (z.1=k∧z.2.1=i) from fun z hz=>by
  rcases hN.new z hz with h | h
  ·exact HNN.out z h
  unfold KLt at h
  rintro⟨e1,e2⟩
  rw [e1] at h
  omega)
 obtain⟨a1,c1,hu1,_⟩:=Zas hN1.st.row
 subst hu1
 have hR1:=hN.gr.heap hR0 hRB.1 hRB.2 (by decide)
 have hfew1:kl1.length≤400000:=by
  have:=hN1.st.few
  have:=Nat.mul_le_mul HP.out.sz.2.2.2 HP.out.sz.1
  omega
 have hlow1:=hN1.st.low
 have hNA:=hN1.alloc (.cells #[.int .i64 zk,.int .i64 zn] 75)
 have c11:(w1.alloc (.cells #[.int .i64 zk,.int .i64 zn] 75)).cell? ⟨x.B,11,none⟩=some (.slice a1 kl1.length c1):=by rw [hNA.st.cell];rfl
 have hV:=heap_alloc_new w1 (.cells #[.int .i64 zk,.int .i64 zn] 75)
 obtain⟨v0,v1,_,_,_⟩:=Zak hV
 have HN1:=Zhd hNA
 have HV:=Zhd hV
 have HR1:=Zhd (show (w1.alloc (.cells #[.int .i64 zk,.int .i64 zn] 75)).heap[w.heap.size]?=some (.cells #[.int .i64 0,.int .i64 0] 75 (0,0)) from by
  rw [Below.heap_alloc _ _ _ (Zlt hR1)];exact hR1)
 have hsz:w.heap.size<w1.heap.size:=(Zlt hR1)
 clear hN hN1 hNA hV hR1
 have hlt:w1.heap.size<(w1.alloc (.cells #[.int .i64 zk,.int .i64 zn] 75)).heap.size:=by simp
 go_wp2_with fail
 generalize w1.alloc (.cells #[.int .i64 zk,.int .i64 zn] 75)=W2 at *
 have HSD:=HN1.out.below ((Below.refl _ _).drew)
 have d11:W2.drew.cell? ⟨x.B,11,none⟩=some (.slice a1 kl1.length c1):=c11
 have e11:∀ o,(W2.alloc o).cell? ⟨x.B,11,none⟩=some (.slice a1 kl1.length c1):=fun o=>by rw [(HN1.out.alloc o).st.cell];rfl
 have g0:W2.drew.cell? ⟨w1.heap.size,0,none⟩=some (.int .i64 zk):=v0
 have g1:W2.drew.cell? ⟨w1.heap.size,1,none⟩=some (.int .i64 zn):=v1
 have r9:=fun o=>(HSD.alloc o).st.row
 have l9:=fun o=>(HSD.alloc o).st.low
 have n9:=fun o=>HSD.alloc o
 have v9:∀ o,(W2.drew.alloc o).heap[w1.heap.size]?=some (.cells #[.int .i64 zk,.int .i64 zn] 75 (0,0)):=fun o=>(Below.heap_alloc W2.drew o w1.heap.size (show w1.heap.size<W2.drew.heap.size from hlt)).trans HV.out
 have u9:∀ o,(W2.drew.alloc o).heap[w.heap.size]?=some (.cells #[.int .i64 0,.int .i64 0] 75 (0,0)):=fun o=>(Below.heap_alloc W2.drew o w.heap.size (show w.heap.size<W2.drew.heap.size from Nat.lt_trans hsz hlt)).trans HR1.out
 go_region_law (refine step_append_lies _ (by rfl) _ _ _ (by rfl) x.base knT i0 _ 4 32 Tryz.underlying112 hi0 hz0 hz1 hz2 rfl (by omega) _ kl1.length (knXs kl1) (by rfl) (r9 _) ⟨_,0,none⟩ 1 1 [.int .i64 (k:Nat),.int .i64 (i:Nat),.int .i64 zk,.int .i64 zn] (by rfl) (by rfl) (by exact World.news_of_block (heap_alloc_new _ _)) (by simp [Value.oneCell']) (by omega) (by unfold maxLen;omega) (by omega) (l9 _) _ rfl ?_;intro gg cap' w3 hown hgrow hat hltg;have hG:=(n9 _).grow HOK.out.kn HP.out.bd (y:=(k,i,⟨zk,zn⟩)) hown hgrow HZ.out.symm ⟨hk,hi⟩ HFR.out (Nat.le_succ _) (.inr ⟨rfl,Nat.lt_succ_self _⟩);have hB3:=Gr3.of_grown (n9 _).st hgrow (n9 _).st.box (by decide);have hV3:=Gr3.of_grown (n9 _).st hgrow (v9 _) (by decide);have hR3:=Gr3.of_grown (n9 _).st hgrow (u9 _) (by decide))
 all_goals
  have fB:w3.frozen? ⟨x.B,11,none⟩=false:=by simp [World.frozen?,hB3]
  have cB:w3.cell? ⟨x.B,11,none⟩=some (.slice a1 kl1.length c1):=by simp only [World.cell?,hB3];rfl
  have hV4:=(Below.heap_setCell w3 ⟨x.B,11,none⟩ (.slice (some ⟨gg,0,none⟩) (kl1.length+1) cap') w1.heap.size (by show w1.heap.size≠x.B;omega)).trans hV3
  have hR4:=(Below.heap_setCell w3 ⟨x.B,11,none⟩ (.slice (some ⟨gg,0,none⟩) (kl1.length+1) cap') w.heap.size (by show w.heap.size≠x.B;omega)).trans hR3
  have HG:=Zhd (hG.put2 (Nat.le_refl _) hRB.1 hRB.2 hKR hR4 (by decide) (.int .i64 zk) (.int .i64 zn))
  obtain⟨s0,s1,_,_,_⟩:=Zak hV4
  obtain⟨_,_,f0,f1,_⟩:=Zak hR4
  obtain⟨e0,e1,_,_⟩:=Za7 hR4 (.int .i64 zk) (.int .i64 zn)
  have E0:=Zhd e0
  have E1:=Zhd e1
  clear e0 e1 hG hown hgrow hV3 hR3 hB3 hV4 hR4 hat hltg r9 l9 n9 v9 u9 e11 d11 g0 g1 HSD
  go_wp2_with (guard_target =~ bodyPost _ _ _ _ _ _;have e0:=E0.out;have e1:=E1.out;refine bodyPost_ret (v:=vlV ⟨zk,zn⟩) (by simp [results,Tryz.results52,go_sem,e0,e1]) rfl ?_;exact⟨_,_,_,rfl,HG.out⟩)
theorem mWe2 {p:Prop} (h:p:=by
 go_wp2_with fail
 refine (HPL.out false (by simp) w1 T u kl HN1.out.st).mono ?_
 rintro r0 w2 ⟨⟨zk,zn⟩,T1,u1,kl1,rfl,hz,hN2,hown⟩
 have hR2:=hN2.gr.heap HR1.out hRB2.1 hRB2.2 (by decide)
 have hN2:=HN1.out.trans hN2 (.inr ⟨rfl,Nat.le_refl _⟩)
 have HZ:=Zhd hz
 have HOWN:=Zhd hown
 clear hz hown
 have hN:=hN2.alloc (.cells #[.int .i64 zk,.int .i64 zn] 75)
 have hR:=(Below.heap_alloc w2 (.cells #[.int .i64 zk,.int .i64 zn] 75) _ (Zlt hR2)).trans hR2
 have hlt2:=(Zlt hR2)
 obtain⟨s0,s1,_,_,_⟩:=Zak (heap_alloc_new w2 (.cells #[.int .i64 zk,.int .i64 zn] 75))
 clear hR2 hN2
 go_upto_region 5 with (fail)
 generalize w2.alloc (.cells #[.int .i64 zk,.int .i64 zn] 75)=W3 at *
 obtain⟨_,_,f0,f1,_⟩:=Zak hR
 obtain⟨e0,e1,_,_⟩:=Za7 hR (.int .i64 zk) (.int .i64 zn)
 have E0:=Zhd e0
 have E1:=Zhd e1
 have HF:=Zhd ((hN.put2 (Nat.le_succ _) hRB2.1 hRB2.2 hKR hR (by decide) (.int .i64 zk) (.int .i64 zn)).kn (HLE.out.inOf (hN.put2 (Nat.le_succ _) hRB2.1 hRB2.2 hKR hR (by decide) (.int .i64 zk) (.int .i64 zn)).st.isin))
 clear e0 e1 hN hR
 go_wp2_with (guard_target =~ bodyPost _ _ _ _ _ _;have e0:=E0.out;have e1:=E1.out;refine bodyPost_ret (v:=vlV ⟨zk,zn⟩) (by simp [results,Tryz.results47,go_sem,e0,e1]) rfl ?_;exact⟨_,_,_,by rw [HZ.out (by simp)],HF.out,HOWN.out⟩)):p:=h
theorem mWe1 {p:Prop} (h:p:=by
 intro w hSw;obtain⟨z0,z1,z2,z3,z4,z5,z6,z7,z8,z9,z10,z11⟩:=hSw.1.st.cs;have y0:=hSw.1.st.isin.cell j0;have y1:=hSw.1.st.isin.cell j1;have y2:=hSw.1.st.isin.cell j2;have y3:=hSw.1.st.isin.cell j3;go_simp<;>with_reducible rfl):p:=h
theorem WdS.cs {x:WdW} {K:Kn} {w:World} {T:List Bool} {u:Value} {kl:List KE} (h:WdS x K w T u kl):w.cell? ⟨x.B,0,none⟩=some x.vi∧w.cell? ⟨x.B,1,none⟩=some x.vo∧w.cell? ⟨x.B,2,none⟩=some x.vl∧w.cell? ⟨x.B,3,none⟩=some x.va∧w.cell? ⟨x.B,4,none⟩=some x.vc∧w.cell? ⟨x.B,5,none⟩=some x.vlt∧w.cell? ⟨x.B,6,none⟩=some x.vvr∧
  w.cell? ⟨x.B,7,none⟩=some x.vin∧w.cell? ⟨x.B,8,none⟩=some (.bool x.nb)∧w.cell? ⟨x.B,9,none⟩=some (.int .i64 x.ni)∧w.cell? ⟨x.B,10,none⟩=some (.slice (some ⟨x.D,0,none⟩) x.ins.length x.ins.length)∧w.cell? ⟨x.B,11,none⟩=some u:=
 ⟨h.cell 0,h.cell 1,h.cell 2,h.cell 3,h.cell 4,h.cell 5,h.cell 6,h.cell 7,h.cell 8,h.cell 9,h.cell 10,h.cell 11⟩
theorem Ze5 {W:World} {b:Nat} {x y:Value} {t:TypeId} (h:W.heap[b]?=some (.cells #[x,y] t (0,0))) (u v:Value):((W.setCell ⟨b,0,none⟩ u).setCell ⟨b,1,none⟩ v).heap[b]?=some (.cells #[u,v] t (0,0)):=
 Zaa _ b 1 v _ _ _ (Zaa W b 0 u _ _ _ h)
def WdR2 (x:WdW) (K:Kn) (i r:Nat) (w:World) (T:List Bool) (kl:List KE) (R:Nat) (T1:List Bool) (u1:Value) (kl1:List KE) (w':World):Prop:=WdN x K i r w T kl w' T1 u1 kl1∧∃ p q,w'.heap[R]?=some (.cells #[p,q] 75 (0,0))
theorem WdR2.below {x:WdW} {K:Kn} {i r:Nat} {w:World} {T:List Bool} {kl:List KE} {R:Nat} {T1:List Bool} {u1:Value} {kl1:List KE} {w1 w2:World} (h:WdR2 x K i r w T kl R T1 u1 kl1 w1) (hb:Below w1.heap.size w1 w2):WdR2 x K i r w T kl R T1 u1 kl1 w2:=
 ⟨h.1.below hb,h.2.imp fun _ h=>h.imp fun _ h=>(hb.block _ (Zlt h)).trans h⟩
theorem Kn.le.inOf {K K2:Kn} {w:World} (h:K.le K2) (hw:K2.In w):K.In w:=fun b o e=>hw b o (h b o e)
def PlainC (x:WdW) (e:Ex) (i r:Nat):Prop:=∀ (K:Kn) (v:Value) (b:Bool),b=(decide (i=0)&&decide (0<lateOf (Zac x.p) e))→WdOk x K→ExV K e v→∀ (w:World) (T:List Bool) (u:Value) (kl:List KE),WdS x K w T u kl→
 Calls Tryz.prog 70 #[ptrV x.B,v,.int .i64 i,.bool b] w fun ret w'=>∃ z T' u' kl',ret = .returned (vlV z)∧(b=false→z=x.V e i)∧WdN x K i r w T kl w' T' u' kl'∧(x.own e i=true→T'.getD i false=true)
theorem wterm_any {x:WdW} (hp:WdP x) {e:Ex} (he:InP x e) {i r:Nat} (hi:i<x.ins.length) (hpl:PlainC x e i r):Zj8 x e i r:=by
 intro K v hok hv w T u kl hs
 obtain⟨ue,rfl,hue⟩:=hv
 obtain⟨o,n,s,l⟩:=e
 simp only [Ex.op,Ex.n,Ex.s,Ex.l] at hue ⊢
 obtain⟨a,c,rfl⟩:=hue.len
 have hRB:x.B<w.heap.size∧x.D<w.heap.size:=by have:=hp.bd;have:=hs.low;omega
 have hRB2:x.B<w.heap.size+1∧x.D<w.heap.size+1:=by omega
 have hKE:K w.heap.size=none:=hs.isin.isNone (Nat.le_refl _)
 obtain⟨K2,hK2⟩:∃ K2,K2=K.add w.heap.size (.cells #[.string o,.int .i64 n,.string s,.slice a l.length c] 79 (0,0)):=⟨_,rfl⟩
 have hle:K.le K2:=hK2▸Kn.le_add hKE
 have hok2:WdOk x K2:=hok.le hle (hK2▸hok.kn.add hRB.1 hRB.2 (by decide))
 have hKR:K2 (w.heap.size+1)=none:=by rw [hK2,Kn.add_other _ _ (by omega)];exact hs.isin.isNone (by omega)
 have hb0:Below w.heap.size w ((w.alloc (.cells #[.string o,.int .i64 n,.string s,.slice a l.length c] 79)).alloc (.cells #[.int .i64 0,.int .i64 0] 75)):=((Below.refl _ _).alloc (Nat.le_refl _) _).alloc (by simp) _
 have hEB:((w.alloc (.cells #[.string o,.int .i64 n,.string s,.slice a l.length c] 79)).alloc (.cells #[.int .i64 0,.int .i64 0] 75)).heap[w.heap.size]?=some (.cells #[.string o,.int .i64 n,.string s,.slice a l.length c] 79 (0,0)):=by rw [Below.heap_alloc _ _ _ (by simp)];exact heap_alloc_new _ _
 have hR0:((w.alloc (.cells #[.string o,.int .i64 n,.string s,.slice a l.length c] 79)).alloc (.cells #[.int .i64 0,.int .i64 0] 75)).heap[w.heap.size+1]?=some (.cells #[.int .i64 0,.int .i64 0] 75 (0,0)):=by
  rw [show w.heap.size+1=(w.alloc (.cells #[.string o,.int .i64 n,.string s,.slice a l.length c] 79)).heap.size from by simp];exact heap_alloc_new _ _
 have hN0:WdN x K2 i r w T kl ((w.alloc (.cells #[.string o,.int .i64 n,.string s,.slice a l.length c] 79)).alloc (.cells #[.int .i64 0,.int .i64 0] 75)) T u kl:=((hs.refl i r).below hb0).kn (hK2▸(hs.isin.below hb0).add hEB)
 have hcE:∀ j,K2.cell w.heap.size j=(#[.string o,.int .i64 n,.string s,.slice a l.length c]:Array Value)[j]?:=fun j=>by unfold Kn.cell;rw [hK2,Kn.add_self]
 have j0:K2.cell w.heap.size 0=some (.string o):=hcE 0
 have j1:K2.cell w.heap.size 1=some (.int .i64 n):=hcE 1
 have j2:K2.cell w.heap.size 2=some (.string s):=hcE 2
 have j3:K2.cell w.heap.size 3=some (.slice a l.length c):=hcE 3
 have hv2:ExV K2 (.mk o n s l) (.agg #[.string o,.int .i64 n,.string s,.slice a l.length c]):=⟨_,rfl,hue.le hle⟩
 have hSD:WdR2 x K2 i r w T kl (w.heap.size+1) T u kl ((w.alloc (.cells #[.string o,.int .i64 n,.string s,.slice a l.length c] 79)).alloc (.cells #[.int .i64 0,.int .i64 0] 75)).drew:=⟨hN0.below ((Below.refl _ _).drew),_,_,hR0⟩
 have hlt:=(Zlt hR0)
 have HCL:=Zhd (fun (wz:World) (hz:K2.In wz)=>Zh3 x.p x.vi x.vo x.vl x.va x.vc x.A hp.A.1 hp.A.2.2 (by have:=hp.sz.1;omega) x.ks _ he.form (by have:=he.parts;omega) K2 _ _ hv2 hok2.pr hok2.late wz hz)
 rw [hp.A.2.1] at HCL
 have hksV:ksOf (Zc1 x.p)=x.ks:=(Zgz (V:=Zc1 x.p) (by rw [← hp.hks];unfold Zc1 Pr.vars;rw [List.map_append,List.map_map];rfl)).symm
 have HKD:=Zhd (fun (wz:World) (hz:K2.In wz)=>Zhy K2 (Zc1 x.p) x.vvr hok2.vars (by have:=hp.sz;simp [Zc1];omega) _ _ hv2 (by have:=he.parts;omega) (by rw [hksV];exact he.form) wz hz)
 rw [hksV] at HKD
 have HK2:=Zhd (Zd8 (hp.right he hi)).2
 have HPL:=Zhd (fun (b:Bool) (hb:b=(decide (i=0)&&decide (0<lateOf (Zac x.p) (.mk o n s l))))=>hpl K2 _ b hb hok2 hv2)
 have HLE:=Zhd hle
 clear hb0 hEB hcE hN0 hok hok2 hs hue hv2 hR0 hp he hK2 hle hpl hKE hksV
 by_cases hi0:i=0
 ·subst hi0
  rw [show ((0:Nat):Int)=0 from rfl] at HPL ⊢
  by_cases hL:0<lateOf (Zac x.p) (.mk o n s l)
  ·have hv:x.V (.mk o n s l) 0=nilV x.nb x.ni (Zan x.ks (.mk o n s l)):=by
    unfold WdW.V
    rw [wdV,if_pos ⟨rfl,hL⟩]
   rw [hv]
   clear hv
   go_enter Tryz.func47,Tryz.ntmps47
   go_wp2_with fail
   generalize (w.alloc (.cells #[.string o,.int .i64 n,.string s,.slice a l.length c] 79)).alloc (.cells #[.int .i64 0,.int .i64 0] 75)=W at *
   refine Zae (WdR2 x K2 0 r w T kl (w.heap.size+1) T u kl) (fun _=>True) 99 (by kernel_rfl) ?_
   refine w3 0 ?_
   iterate 12 ((first | (refine tk3 (v:=?_) rfl hSD Ztr ?hy ?_;(case hy=>exact mWe1)) | refine sk3 rfl hSD Ztr ?_ | refine no3 ?_);refine Zss ?_)
   refine w3e ?_
   refine Zwo 12 rfl fun K_ hK=>?_
   go_simp
   go_at_call 64
   refine (HCL.out _ hSD.1.st.isin).mono ?_
   rintro r0 w1 ⟨rfl,hb1⟩
   have hSE:=hSD.below hb1
   refine hK.out _ _ (hSE) Ztr ?_
   clear hK K_
   try simp only [tkS]
   refine w3 13 ?_
   iterate 3 ((first | (refine tk3 (v:=?_) rfl hSE Ztr ?hy ?_;(case hy=>exact mWe1)) | refine sk3 rfl hSE Ztr ?_ | refine no3 ?_);refine Zss ?_)
   refine w3e ?_
   refine Zwd ?_
   obtain⟨hN1,p0,p1,hR1⟩:=hSE
   have q0:=hN1.st.isin.cell j0
   have q1:=hN1.st.isin.cell j1
   have q2:=hN1.st.isin.cell j2
   have q3:=hN1.st.isin.cell j3
   have HN1:=Zhd hN1
   have HR1:=Zhd hR1
   clear hN1 hR1 hSD
   clear hb1
   go_wp2_with fail
   refine (HPL.out true (by simp [hL]) w1 T u kl HN1.out.st).mono ?_
   rintro r0 w2 ⟨⟨zk,zn⟩,T1,u1,kl1,rfl,hz,hN2,hown⟩
   have hR2:=hN2.gr.heap HR1.out hRB2.1 hRB2.2 (by decide)
   have hN2:=HN1.out.trans hN2 (.inr ⟨rfl,Nat.le_refl _⟩)
   have HZ:=Zhd hz
   have HOWN:=Zhd hown
   clear hz hown
   have hN:=hN2.alloc (.cells #[.int .i64 zk,.int .i64 zn] 75)
   have hR:=(Below.heap_alloc w2 (.cells #[.int .i64 zk,.int .i64 zn] 75) _ (Zlt hR2)).trans hR2
   have hlt2:=(Zlt hR2)
   obtain⟨s0,s1,_,_,_⟩:=Zak (heap_alloc_new w2 (.cells #[.int .i64 zk,.int .i64 zn] 75))
   clear hR2 hN2
   go_wp2_with fail
   generalize w2.alloc (.cells #[.int .i64 zk,.int .i64 zn] 75)=W3 at *
   have hSD:WdR2 x K2 0 r w T kl (w.heap.size+1) T1 u1 kl1 W3.drew:=⟨hN.below ((Below.refl _ _).drew),_,_,hR⟩
   refine Zae (WdR2 x K2 0 r w T kl (w.heap.size+1) T1 u1 kl1) (fun _=>True) 99 (by kernel_rfl) ?_
   refine w3 0 ?_
   iterate 6 ((first | (refine tk3 (v:=?_) rfl hSD Ztr ?hy ?_;(case hy=>exact mWe1)) | refine sk3 rfl hSD Ztr ?_ | refine no3 ?_);refine Zss ?_)
   refine w3e ?_
   refine Zwo 6 rfl fun K_ hK=>?_
   go_simp
   go_at_call 46
   refine (HKD.out _ hSD.1.st.isin).mono ?_
   rintro r0 w4 ⟨rfl,hb4⟩
   have hSE:=hSD.below hb4
   refine hK.out _ _ (hSE) Ztr ?_
   clear hK K_
   try simp only [tkS]
   refine Zwo 7 rfl fun K_ hK=>?_
   go_simp
   go_at_call 45
   refine (none_any hSE.1.st _ HK2.out).mono ?_
   rintro r0 w5 ⟨rfl,hb5⟩
   have hSG:=hSE.below hb5
   obtain⟨hN,p0,p1,hR⟩:=id hSG
   obtain⟨⟨nk,nn⟩,hnil⟩:∃ z,nilV x.nb x.ni (Zan x.ks (.mk o n s l))=z:=⟨_,rfl⟩
   rw [hnil]
   obtain⟨g0,g1,f0,f1,_⟩:=Zak hR
   obtain⟨e0,e1,_,_⟩:=Za7 hR (.int .i64 nk) (.int .i64 nn)
   have E0:=Zhd e0
   have E1:=Zhd e1
   have hF:=hN.put2 (Nat.le_succ _) hRB2.1 hRB2.2 hKR hR (by decide) (.int .i64 nk) (.int .i64 nn)
   have hSF:WdR2 x K2 0 r w T kl (w.heap.size+1) T1 u1 kl1 _:=⟨hF,_,_,Ze5 hR (.int .i64 nk) (.int .i64 nn)⟩
   have HF:=Zhd (hF.kn (HLE.out.inOf hF.st.isin))
   clear e0 e1 hF
   refine hK.out _ _ (hSG) Ztr ?_
   clear hK K_
   try simp only [tkS]
   refine Zwo 8 rfl fun K_ hK=>?_
   go_simp
   refine hK.out _ _ (hSF) Ztr ?_
   clear hK K_
   try simp only [tkS]
   refine Zwd ?_
   go_wp2_with (guard_target =~ bodyPost _ _ _ _ _ _;have e0:=E0.out;have e1:=E1.out;refine bodyPost_ret (v:=vlV ⟨nk,nn⟩) (by simp [results,Tryz.results47,go_sem,e0,e1]) rfl ?_;exact⟨_,_,_,by rw [hnil],HF.out,HOWN.out⟩)
  have hLd:decide (0<lateOf (Zac x.p) (.mk o n s l))=false:=by simp only [hL,decide_false]
  simp only [hL,decide_false,Bool.and_false] at HPL
  go_enter Tryz.func47,Tryz.ntmps47
  go_wp2_with fail
  generalize (w.alloc (.cells #[.string o,.int .i64 n,.string s,.slice a l.length c] 79)).alloc (.cells #[.int .i64 0,.int .i64 0] 75)=W at *
  refine Zae (WdR2 x K2 0 r w T kl (w.heap.size+1) T u kl) (fun _=>True) 99 (by kernel_rfl) ?_
  refine w3 0 ?_
  iterate 12 ((first | (refine tk3 (v:=?_) rfl hSD Ztr ?hy ?_;(case hy=>exact mWe1)) | refine sk3 rfl hSD Ztr ?_ | refine no3 ?_);refine Zss ?_)
  refine w3e ?_
  refine Zwo 12 rfl fun K_ hK=>?_
  go_simp
  go_at_call 64
  refine (HCL.out _ hSD.1.st.isin).mono ?_
  rintro r0 w1 ⟨rfl,hb1⟩
  have hSE:=hSD.below hb1
  refine hK.out _ _ (hSE) Ztr ?_
  clear hK K_
  try simp only [tkS]
  refine w3 13 ?_
  iterate 3 ((first | (refine tk3 (v:=?_) rfl hSE Ztr ?hy ?_;(case hy=>exact mWe1)) | refine sk3 rfl hSE Ztr ?_ | refine no3 ?_);refine Zss ?_)
  refine w3e ?_
  refine Zwd ?_
  obtain⟨hN1,p0,p1,hR1⟩:=hSE
  have q0:=hN1.st.isin.cell j0
  have q1:=hN1.st.isin.cell j1
  have q2:=hN1.st.isin.cell j2
  have q3:=hN1.st.isin.cell j3
  have HN1:=Zhd hN1
  have HR1:=Zhd hR1
  clear hN1 hR1 hSD
  clear hb1
  exact mWe2
 have hid:((i:Int)==0)=false:=by simp;omega
 simp only [hi0,decide_false,Bool.false_and] at HPL
 go_enter Tryz.func47,Tryz.ntmps47
 go_wp2_with fail
 generalize (w.alloc (.cells #[.string o,.int .i64 n,.string s,.slice a l.length c] 79)).alloc (.cells #[.int .i64 0,.int .i64 0] 75)=W at *
 refine Zae (WdR2 x K2 i r w T kl (w.heap.size+1) T u kl) (fun _=>True) 99 (by kernel_rfl) ?_
 refine w3 0 ?_
 iterate 16 ((first | (refine tk3 (v:=?_) rfl hSD Ztr ?hy ?_;(case hy=>exact mWe1)) | refine sk3 rfl hSD Ztr ?_ | refine no3 ?_);refine Zss ?_)
 refine w3e ?_
 refine Zwd ?_
 have hSE:=hSD
 generalize W.drew=w1 at *
 obtain⟨hN1,p0,p1,hR1⟩:=hSE
 have q0:=hN1.st.isin.cell j0
 have q1:=hN1.st.isin.cell j1
 have q2:=hN1.st.isin.cell j2
 have q3:=hN1.st.isin.cell j3
 have HN1:=Zhd hN1
 have HR1:=Zhd hR1
 clear hN1 hR1 hSD
 exact mWe2
end Go.Proofs.YtgoccoldkfpbgaaGreatDoor
