/- Plain: a World's program: its parts, its names, its values are right ones: no function of the program in sight. -/
import Derived.Test.YtafapnolamcdmaaGreatDoorWdM
import Derived.Test.YtafapnolamcdmaaGreatDoorAyA
import Derived.Test.YtafapnolamcdmaaGreatDoorVsA
set_option linter.all false
namespace Go.Proofs.YtafapnolamcdmaaGreatDoor
set_option maxRecDepth 100000
set_option maxHeartbeats 16000000
open Go.RowKit Mx
structure WdP(x:WdW):Prop where
 ck:(Za2 x.p).1=0
 hks:Zao Env.none x.p.vars=some x.ks
 ho:Za5 x.p=.ok x.ord
 sz:x.p.fl.length<=400/\Ex.partsL x.p.terms<=4000/\x.p.ins.length<=1000/\x.ins.length<=1000
 osz:x.p.outs.length<=1000000
 A:x.A.length=x.p.fl.length/\Zbh x.p x.A=Zac x.p/\∀y∈x.A,0<=y/\y<=2
 bd:x.B≠x.D/\x.B<x.base/\x.D<x.base
 ni : -128<=x.ni/\x.ni<=127
 inp:∀l∈x.ins,Zas x.p.ins l l.length=true
 fv:x.fv=fvS x.R (cdOf x.p x.ord) (Zba x.R (Zab 0 x.p.terms)) x.inp
theorem WdP.fix{x:WdW}(h:WdP x)(k i:Nat)(hk:k<x.p.fl.length):x.fv k i=x.V x.p.fl[k].e i:=by
 unfold WdW.V;rw[h.fv];exact fv_fix h.ck h.hks h.ho x.nb x.ni _ x.inp k i hk
structure InP(x:WdW)(e:Ex):Prop where
 form:Zad x.ks e=true
 kind:Zai x.ks e≠0
 parts:e.parts<=4000
 pl:∃m,PlX x.p m e/\m+memN e<=Zag x.p.terms
 tr:∀i,allT x.R x.inp x.fv e i=true->x.tr i=true
theorem InP.part{x:WdW}{o:ByteArray}{n:Int}{s:ByteArray}{l:List Ex}(h:InP x (.mk o n s l)):∀j (hj:j<l.length),InP x l[j]:=λj hj=>by
 have hm:=Ymm hj;obtain⟨m,h1,h2⟩:=h.pl;have h3:=Za0 l j hj;have h4:=h.parts;simp only[Ex.parts] at h4;refine⟨(Zax h.form).1 _ hm,(Zem h.kind).2 _ hm,by omega,⟨_,h1.parts.1.at j hj,?_⟩,λi hi=>h.tr i ?_⟩
 .rw [Zhc] at h2;have:=Zdy l j hj;have:=Zck l (j+1);omega
 simp only[allT,Bool.or_eq_true];right;rw[Zfn,List.any_eq_true];exact⟨_,hm,hi⟩
theorem WdP.term{x:WdW}(h:WdP x):∀e∈x.p.terms,InP x e:=λe he=>by
 obtain⟨f1,f2⟩:=Ze9 (Zbg h.ho).1 h.hks e he;obtain⟨j,hj,rfl⟩:=List.mem_iff_getElem.1 he;have h3:=Za0 _ j hj;have h4:=h.sz.2.1;refine⟨f1,f2,by omega,⟨_,(plX_all x.p).at j hj,?_⟩,λi hi=>?_⟩
 .have:=Zdy x.p.terms j hj;have:=Zck x.p.terms (j+1);omega
 unfold WdW.tr;rw[Zfn,List.any_eq_true];exact⟨_,he,hi⟩
theorem nm_case{p:Pr}(J0:Zak p=0){ks:Env Int}(hks:Zao Env.none p.vars=some ks)(s:ByteArray)(hs:(ks s).isSome=true):
  (∃j,∃h:j<p.ins.length,p.ins[j].name=s/\(∀i (hi:i<p.ins.length),i<j->p.ins[i].name≠s)/\getI (Zah p) s = -1 - (j:Int))\/
  (∃k,∃h:k<p.fl.length,p.fl[k].name=s/\getI (Zah p) s=(k:Int)/\fIdx p s=some k/\∀i (hi:i<p.ins.length),p.ins[i].name≠s):=by
 have hnd:=Zh7 _ _ _ hks;have e:p.vars.map (·.1)=p.ins.map (·.name)++p.fl.map (·.name):=by simp[Pr.vars,List.map_append,List.map_map,Function.comp_def]
 rw[e,List.nodup_append] at hnd;obtain⟨n1,n2,n3⟩:=hnd;by_cases h0:getI (Zah p) s<0
 .left;have hf:s∉p.fl.map (·.name):=λhf=>by
   obtain⟨i,hi,e⟩:=List.mem_iff_getElem.1 hf;have qK:i<p.fl.length:=by simpa using hi
   have:=Zgi J0 i qK;have e':p.fl[i].name=s:=by simpa using e
   rw[e'] at this;omega
  have Hk:s∈p.ins.map (·.name):=by
   rcases Zfh _ _ _ hks hs with h|h
   .simp [Env.none] at h
   rw[e,List.mem_append] at h;exact h.resolve_right hf
  obtain⟨j,hj⟩:=Zhf p.ins 0 Env.none s (.inl Hk);have jy:getI (Zah p) s = -1 - (j:Int):=by
   unfold getI Zah;rw[Zd1 _ _ _ _ hf,hj];rfl
  rcases Zjr _ _ _ _ _ hj with h|⟨j',jB,e1,e2⟩
  .simp [Env.none] at h
  have hjj:j=j':=by omega
  subst hjj;refine⟨j,jB,e1,λi hi hij he=>?_,jy⟩;have h1:=(List.pairwise_iff_getElem.1 (List.nodup_iff_pairwise_ne.1 n1)) i j (by simpa using hi) (by simpa using jB) hij;exact h1 (by simp[he,e1])
 right;have hr:=(Zik J0 hks s hs).2 (by omega);have h1:=nm_of J0 hks s hs (by omega);have h2:getI (Zah p) s=((getI (Zah p) s).toNat:Int):=by omega
 generalize (getI (Zah p) s).toNat=k at *;have h3:p.fl[k].name=s:=by rw[h1];simp[nfOf,Ygg,hr]
 refine⟨k,hr,h3,h2,by rw[<- h3];exact Zi2 n2 k hr,λi hi he=>?_⟩;exact n3 s (by rw[<- he];exact List.mem_map_of_mem (Ymm hi)) s (by rw[<- h3];exact List.mem_map_of_mem (Ymm hr)) rfl
section
variable {x : WdW} (h : WdP x)
include h
theorem WdP.inpR{i:Nat}(hi:i<x.ins.length):Zas x.p.ins (x.inp i) (x.inp i).length=true:=by
 have e:x.inp i=x.ins[i]:=by simp[WdW.inp,Ygg,hi]
 rw[e];exact h.inp _ (Ymm hi)
theorem WdP.memR:∀i,i<=x.ins.length->MemR x.ks x.p (memS x.R (cdOf x.p x.ord) (Zba x.R (Zab 0 x.p.terms)) x.inp i)
 |0,_=>start_right (Zbg h.ho).1 h.hks x.nb h.ni
 |i+1,hi=>by
  have qh:(cdOf x.p x.ord).fs.length=x.p.fl.length:=by simp[cdOf,Zb8]
  have:=(Zjp h.ck h.hks h.ho x.nb h.ni (decide (i=0)) (WdP.memR i (by omega)) (h.inpR (i:=i) (by omega)) rfl).2.2;simp only[memS,instOf];rw[qh];exact this
theorem WdP.right{e:Ex}(he:InP x e){i:Nat}(hi:i<x.ins.length):Zaq (x.V e i) (Zai x.ks e)=true:=by
 obtain⟨m,h1,h2⟩:=he.pl;have qh:(cdOf x.p x.ord).fs.length=x.p.fl.length:=by simp[cdOf,Zb8]
 have qn:Zet x.ks (kmOf x.ks x.p) m e:=λj y hy=>by
  unfold kmOf;rw[Ygg,h1 j y hy];rfl
 have h3:=(Zjp h.ck h.hks h.ho x.nb h.ni (decide (i=0)) (h.memR i (by omega)) (h.inpR hi) rfl).1 e m he.form he.kind qn h2;have h4:=wd_eval (p:=x.p) x.R x.ord (Zba x.R (Zab 0 x.p.terms)) x.inp (Zdx x.p).1 i e he.form m h1;unfold WdW.V;rw[h.fv,<- h4];unfold Zd0 instOf;rw[qh];exact h3
theorem WdP.app{o:ByteArray}{n:Int}{s:ByteArray}{l:List Ex}(he:InP x (.mk o n s l))(ho:o≠oInt/\o≠Zc9/\o≠Zch/\o≠Zb2/\o≠oPre/\o≠Zbk/\o≠oFby){i:Nat}(hi:i<x.ins.length):isApp o (wdVs x.R x.inp x.fv l i)=0:=by
 obtain⟨a1,a2,a3,a4,a5,a6,a7⟩:=ho;have hval:∀v∈wdVs x.R x.inp x.fv l i,Zaq v v.kind=true:=λv hv=>by
  rw[Zeg] at hv;obtain⟨e,hm,rfl⟩:=List.mem_map.1 hv;obtain⟨j,hj,rfl⟩:=List.mem_iff_getElem.1 hm;have:=h.right (he.part j hj) hi;rw[<- (Zel this).1] at this;exact this
 have hkinds:(wdVs x.R x.inp x.fv l i).map (·.kind)=Zap x.ks l:=by
  rw[Zeg,Zdg,List.map_map];refine List.map_congr_left λe hm=>?_;obtain⟨j,hj,rfl⟩:=List.mem_iff_getElem.1 hm;exact(Zel (h.right (he.part j hj) hi)).1
 have Ho:(wdVs x.R x.inp x.fv l i).length=l.length:=by rw[Zeg];simp
 have hf:=he.form;simp only[Zad,Bool.and_eq_true,decide_eq_true_eq] at hf;have j9:=hf.1.1.1;have Hf:=hf.1.1.2;simp only[form,Ex.op,Ex.l] at j9;have hk:=he.kind;rw[(Zem hk).1] at hk;unfold isApp;cases ha:Zcx o with
 |none=>rw[ha] at j9;simp at j9
 |some k=>
  rw[ha] at j9;simp only[Bool.and_eq_true,Bool.or_eq_true,decide_eq_true_eq] at j9;have qf:1<=k/\k=l.length:=by
   have h1:=j9.1.1;have h2:¬k<1:=λHr=>by
    unfold Zcx at ha;simp only[a1,a2,a3,a4,a5,a6,a7,Hf,or_false,if_false] at ha
    split at ha
    .cases ha;omega
    split at ha
    .cases ha;omega
    split at ha
    .cases ha;omega
    cases ha
   rcases h1 with h1|h1
   .omega
   exact⟨by have:=of_decide_eq_true h1;omega,of_decide_eq_true h1⟩
  dsimp only;rw[if_neg (by rw[Ho];rintro (h|h|h|h|h)<;>first|omega|exact absurd h ‹_›),if_neg (by
   simp only[Bool.not_eq_true',<- Bool.not_eq_true,List.all_eq_true];exact λh=>h hval),hkinds,if_neg]
  intro h0;refine hk ?_;have:∀k k' L,Zct o k L=Zct o k' L:=λk k' L=>by unfold Zct;simp only[if_neg a4]
  rw[this _ 0];exact h0
end
theorem mWf1{p:Prop}(h:p:=by
 clear HM;go_wp2_with fail;go_round
 case rel=>
  rcases Nat.eq_zero_or_pos m with h0|h0
  .refine .inr ⟨by subst h0;go_num,λz hz=>?_⟩;obtain⟨j,hj,rfl⟩:=List.mem_iff_getElem.1 hz;exact HM'.out j hj (by omega)
  exact .inl ⟨m - 1,congrArg (Value.int .i64) (by omega),by omega,λj hj h=>HM'.out j hj (by omega)⟩
 simp[intOf]):p:=h
structure WdOk(x:WdW)(K:Kn):Prop where
 kn:KnW x K
 pr:PrP K x.p x.vi x.vo x.vl x.va x.vc
 late:Ze1 K x.A x.vlt
 vars:VrsV K (Zdc x.p) x.vvr
 ins:InsV K x.ins x.vin
theorem WdOk.le{x:WdW}{K K':Kn}(h:WdOk x K)(He:K.le K')(hk:KnW x K'):WdOk x K':=⟨hk,h.pr.le He,SlV.le h.late He (λ_ _ _ h e=>h 0 _ e),SlV.le h.vars He VrC.mono,InsV.le He h.ins⟩
def Zkq(x:WdW)(e:Ex)(i r:Nat):Prop:=∀(K:Kn) (v:Value),WdOk x K->ExV K e v->∀(w:World) (T:List Bool) (u:Value) (kl:List KE),WdS x K w T u kl->
 Calls Tryz.prog 62 #[ptrV x.B,v,.int .i64 i] w λret w'=>∃T' u' kl',ret=.returned (vlV (x.V e i))/\WdN x K i r w T kl w' T' u' kl'/\(x.own e i=true->T'.getD i false=true)
def FlowC(x:WdW)(k i:Nat):Prop:=∀(K:Kn),WdOk x K->∀(w:World) (T:List Bool) (u:Value) (kl:List KE),WdS x K w T u kl->
 Calls Tryz.prog 65 #[ptrV x.B,.int .i64 k,.int .i64 i] w λret w'=>∃T' u' kl',ret=.returned (vlV (x.fv k i))/\WdN x K i (x.rk k+1) w T kl w' T' u' kl'
theorem none_any{x:WdW}{K:Kn}{w:World}{T:List Bool}{u:Value}{kl:List KE}(hs:WdS x K w T u kl)(k:Int)(hk:k=1\/k=2):
  Calls Tryz.prog 60 #[ptrV x.B,.int .i64 k] w λr w'=>r=.returned (vlV (nilV x.nb x.ni k))/\Ybw w w':=by
 have Hg:=(Below.refl w.heap.size w).alloc Ylr (.cells Yo2 101);have jN:=hs.below Hg;have Jr:=heap_alloc_new w (.cells Yo2 101);have jo:w.heap.size<(w.alloc (.cells Yo2 101)).heap.size:=by simp
 have c8:(w.alloc (.cells Yo2 101)).cell? ⟨x.B,8,none⟩=some (.bool x.nb):=by rw[jN.cell];rfl
 have c9:(w.alloc (.cells Yo2 101)).cell? ⟨x.B,9,none⟩=some (.int .i64 x.ni):=by rw[jN.cell];rfl
 generalize x.nb=nb at *;generalize x.ni=ni at *;clear hs jN;rcases hk with rfl|rfl
 .obtain⟨z,hz⟩:∃z:Int,tv nb=⟨1,z⟩:=⟨_,rfl⟩;rw[show nilV nb ni 1=tv nb from rfl,hz];go_enter Tryz.func60,Tryz.ntmps60;go_wp2_with fail;have Hf:=λw'=>Zdw nb w';rw[hz] at Hf;refine(Hf _).mono ?_;rintro r w3 ⟨rfl,jH⟩;have jf:=(jH.block w.heap.size jo).trans Jr;obtain⟨q0,q1,f0,f1,kt⟩:=Zal jf;obtain⟨e0,e1,e2,e3⟩:=Zbb jf (.int .i64 1) (.int .i64 z);have E0:=Zhd e0;have E1:=Zhd e1;have yG:=Zhd (Hg.trans (jH.mono (Nat.le_of_lt jo)));clear e0 e1 e2 e3 jf;go_wp2_with fail;have e0:=E0.out;have e1:=E1.out;refine bodyPost_ret (v:=vlV ⟨1,z⟩) (by simp[results,Tryz.results60,go_sem,e0,e1]) rfl ?_;exact⟨rfl,Zb0 yG.out Ylr _ _⟩
 go_enter Tryz.func60,Tryz.ntmps60;go_wp2_with fail;refine bodyPost_ret (v:=vlV ⟨2,ni⟩) (by simp[results,Tryz.results60,go_sem]) rfl ?_;exact⟨rfl,Yba⟩
theorem Gr3.of_grown{x:WdW}{K:Kn}{w w3:World}{T:List Bool}{u:Value}{kl:List KE}(h:WdS x K w T u kl)(hg:w.grownBy w3 u.ownBlock){b:Nat}{cs:Array Value}{t:TypeId}{fr:Nat×Nat}(hw:w.heap[b]?=some (.cells cs t fr))(ht:t≠knT):w3.heap[b]?=some (.cells cs t fr):=by
 rw[hg.block b (Zlt hw) (λe=>?_)]
 .exact hw
 rcases h.row.2 with ⟨q1,_⟩|⟨g',Ha,cur,q1,q2,q3,_⟩
 .rw [q1] at e;cases e
 rw[q1] at e;cases e;rw[q3] at hw;cases hw;exact ht rfl
theorem Tryz.infoKe:(Tryz.prog.info? knT).map (λi=>(i.zero,i.size,i.bytes))=some (some (.agg #[.int .i64 0,.int .i64 0,.int .i64 0,.int .i64 0]),4,32):=by kernel_rfl
theorem wflow_any{x:WdW}(hp:WdP x){k i:Nat}(hk:k<x.p.fl.length)(hi:i<x.ins.length)(ht:Zkq x x.p.fl[k].e i (x.rk k)):FlowC x k i:=by
 intro K J1 w T u kl hs;have hfew:kl.length<=400000:=by
  have:=hs.few;have:=Nat.mul_le_mul hp.sz.2.2.2 hp.sz.1;omega
 have hk4:=hp.sz.1;have hi4:=hp.sz.2.2.2;obtain⟨i0,JI,Jt,J6,Ju⟩:=info_parts Tryz.infoKe;obtain⟨a,c,hu,_⟩:=Zar hs.row;subst hu;obtain⟨al,cl,zq⟩:=J1.pr.fl.len;obtain⟨bl,offl,yt,_,kR⟩:=SlV.at (zq▸J1.pr.fl) hk;subst yt;obtain⟨ul,p0,p1,p2,p3,p4,p5,hul⟩:=kR.cells;have vO:=hp.fix k i hk;generalize x.p.fl[k]=f at *;obtain⟨⟨zk,zn⟩,hz⟩:∃z,x.V f.e i=z:=⟨_,rfl⟩;rw[hz] at vO;have HT:=Zhd (show ∀(w:World) (T:List Bool) (u:Value) (kl:List KE),WdS x K w T u kl->Calls Tryz.prog 62 #[ptrV x.B,.agg #[.string f.e.op,.int .i64 f.e.n,.string f.e.s,ul],.int .i64 i] w λret w'=>∃T' u' kl',ret=.returned (vlV ⟨zk,zn⟩)/\WdN x K i (x.rk k) w T kl w' T' u' kl'/\(x.own f.e i=true->T'.getD i false=true) from λw T u kl h=>by
  have:=ht K _ J1 ⟨ul,rfl,hul⟩ w T u kl h;rw[hz] at this;exact this)
 clear ht kR hul;rw[vO];have Hg:=(Below.refl w.heap.size w).alloc Ylr (.cells Yo2 101);have Jr:=heap_alloc_new w (.cells Yo2 101);have jN:=hs.below Hg;have JS:K w.heap.size=none:=hs.isin.isNone Ylr;have ko:x.B<w.heap.size/\x.D<w.heap.size:=by have:=hp.bd;have:=hs.low;omega
 have zh:WdN x K i (x.rk k) w T kl (w.alloc (.cells Yo2 101)) T (.slice a kl.length c) kl:=(hs.refl i (x.rk k)).below Hg;have Jd:=jN.row;have c11:(w.alloc (.cells Yo2 101)).cell? ⟨x.B,11,none⟩=some (.slice a kl.length c):=by rw[jN.cell];rfl
 have c2:(w.alloc (.cells Yo2 101)).cell? ⟨x.B,2,none⟩=some (.slice (some ⟨bl,offl,none⟩) x.p.fl.length cl):=by rw[jN.cell];show some x.vl=_;rw[zq]
 have p2:=jN.isin.cell p2;have p3:=jN.isin.cell p3;have p4:=jN.isin.cell p4;have p5:=jN.isin.cell p5;have HP:=Zhd hp;have jP:=Zhd J1;have HN0:=Zhd zh;have HROW:=Zhd Jd;have HZ:=Zhd vO;clear hs jN hp J1 Hg zh Jd vO;go_enter Tryz.func65,Tryz.ntmps65;go_wp2_with fail;generalize w.alloc (.cells Yo2 101)=W0 at *;go_loop[7] (λz=>(∃m:Nat,z=.int .i64 m/\m<kl.length/\∀j (hj:j<kl.length),m<j->¬(kl[j].1=k/\kl[j].2.1=i))\/(z=.int .i64 (-1)/\∀y∈kl,¬(y.1=k/\y.2.1=i))) (λz=>(intOf z+1).toNat)
 case atStart=>
  by_cases h0:kl.length=0
  .refine .inr ⟨by rw[h0];go_num,λy hy=>?_⟩;rw[List.eq_nil_of_length_eq_zero h0] at hy;cases hy
  exact .inl ⟨kl.length - 1,by go_num,by omega,λj hj h=>by omega⟩
 rcases hrel with ⟨m,rfl,hm,hn⟩|⟨rfl,hn⟩
 .have gL:=Zhd hn;clear hn;obtain⟨g,Ha,hsh,_,_,hgb,Qt,JJ⟩:=Zbr HROW.out (by omega);cases hsh;obtain⟨t0,t1,t2,t3⟩:=knXs_at kl m hm;have d0:=JJ _ _ t0;have d1:=JJ _ _ t1;have d2:=JJ _ _ t2;have d3:=JJ _ _ t3;clear t0 t1 t2 t3;have jW:=HN0.out.st.good _ (Ymm hm);have HM:=Zhd (show ∀(h:¬(kl[m].1=k/\kl[m].2.1=i)),∀j (hj:j<kl.length),m<=j->¬(kl[j].1=k/\kl[j].2.1=i) from λh j hj hmj=>by
   by_cases e:m=j
   .subst e;exact h
   exact gL.out j hj (by omega))
  clear JJ;generalize kl[m]=y at *;obtain⟨yk,yi,yv,yn⟩:=y;dsimp only at d0 d1 d2 d3 jW HM;by_cases h1:yk=k
  .have q1:((yk:Int)==(k:Int))=true:=by simp[h1]
   by_cases h2:yi=i
   .have q2:((yi:Int)==(i:Int))=true:=by simp[h2]
    clear HM;subst h1 h2;have jW:(⟨yv,yn⟩:Vl)=x.fv yk yi:=jW;rw[HZ.out] at jW;cases jW;obtain⟨_,_,f0,f1,_⟩:=Zal Jr;obtain⟨e0,e1,_,_⟩:=Zbb Jr (.int .i64 zk) (.int .i64 zn);have E0:=Zhd e0;have E1:=Zhd e1;have HF:=Zhd ((HN0.out.more (Nat.le_succ _)).put2 Ylr ko.1 ko.2 JS Jr (by decide) (.int .i64 zk) (.int .i64 zn));clear e0 e1;go_wp2_with(guard_target =~ bodyPost _ _ _ _ _ _;have e0:=E0.out;have e1:=E1.out;refine bodyPost_ret (v:=vlV ⟨zk,zn⟩) (by simp[results,Tryz.results65,go_sem,e0,e1]) rfl ?_;exact⟨by rw[HZ.out],T,_,kl,HF.out⟩)
   have q2:((yi:Int)==(i:Int))=false:=by simp;omega
   have HM':=Zhd (HM.out λh=>h2 h.2);exact mWf1
  have q1:((yk:Int)==(k:Int))=false:=by simp;omega
  have HM':=Zhd (HM.out λh=>h1 h.1);exact mWf1
 have gL:=Zhd hn;clear hn;go_wp2_with fail;refine(HT.out W0 T _ kl HN0.out.st).mono ?_;rintro r w1 ⟨T1,u1,Hz,rfl,hN,_⟩;have jM:=HN0.out.trans hN (.inr ⟨rfl,Nat.le_refl _⟩);have qQ:=Zhd (show ∀z∈Hz,¬(z.1=k/\z.2.1=i) from λz hz=>by
  rcases hN.new z hz with h|h
  .exact gL.out z h
  unfold KLt at h;rintro⟨e1,e2⟩;rw[e1] at h;omega)
 obtain⟨a1,c1,hu1,_⟩:=Zar jM.st.row;subst hu1;have kD:=hN.gr.heap Jr ko.1 ko.2 (by decide);have hfew1:Hz.length<=400000:=by
  have:=jM.st.few;have:=Nat.mul_le_mul HP.out.sz.2.2.2 HP.out.sz.1;omega
 have hlow1:=jM.st.low;have hNA:=jM.alloc (.cells #[.int .i64 zk,.int .i64 zn] 101);have c11:(w1.alloc (.cells #[.int .i64 zk,.int .i64 zn] 101)).cell? ⟨x.B,11,none⟩=some (.slice a1 Hz.length c1):=by rw[hNA.st.cell];rfl
 have hV:=heap_alloc_new w1 (.cells #[.int .i64 zk,.int .i64 zn] 101);obtain⟨v0,v1,_,_,_⟩:=Zal hV;have Qj:=Zhd hNA;have HV:=Zhd hV;have HR1:=Zhd (show(w1.alloc (.cells #[.int .i64 zk,.int .i64 zn] 101)).heap[w.heap.size]?=some (.cells Yo2 101 (0,0)) from by
  rw[Below.heap_alloc _ _ _ (Zlt kD)];exact kD)
 have J5:w.heap.size<w1.heap.size:=(Zlt kD);clear hN jM hNA hV kD;have Hr:w1.heap.size<(w1.alloc (.cells #[.int .i64 zk,.int .i64 zn] 101)).heap.size:=by simp
 go_wp2_with fail;generalize w1.alloc (.cells #[.int .i64 zk,.int .i64 zn] 101)=W2 at *;have gc:=Qj.out.below ((Below.refl _ _).drew);have d11:W2.drew.cell? ⟨x.B,11,none⟩=some (.slice a1 Hz.length c1):=c11;have qO:∀o,(W2.alloc o).cell? ⟨x.B,11,none⟩=some (.slice a1 Hz.length c1):=λo=>by rw[(Qj.out.alloc o).st.cell];rfl
 have g0:W2.drew.cell? ⟨w1.heap.size,0,none⟩=some (.int .i64 zk):=v0;have g1:W2.drew.cell? ⟨w1.heap.size,1,none⟩=some (.int .i64 zn):=v1;have r9:=λo=>(gc.alloc o).st.row;have l9:=λo=>(gc.alloc o).st.low;have n9:=λo=>gc.alloc o;have v9:∀o,(W2.drew.alloc o).heap[w1.heap.size]?=some (.cells #[.int .i64 zk,.int .i64 zn] 101 (0,0)):=λo=>(Below.heap_alloc W2.drew o w1.heap.size (show w1.heap.size<W2.drew.heap.size from Hr)).trans HV.out;have u9:∀o,(W2.drew.alloc o).heap[w.heap.size]?=some (.cells Yo2 101 (0,0)):=λo=>(Below.heap_alloc W2.drew o w.heap.size (show w.heap.size<W2.drew.heap.size from Nat.lt_trans J5 Hr)).trans HR1.out;go_region_law (refine step_append_lies _ (by rfl) _ _ _ (by rfl) x.base knT i0 _ 4 32 Tryz.underlying152 JI Jt J6 Ju rfl (by omega) _ Hz.length (knXs Hz) (by rfl) (r9 _) ⟨_,0,none⟩ 1 1 [.int .i64 (k:Nat),.int .i64 (i:Nat),.int .i64 zk,.int .i64 zn] (by rfl) (by rfl) (by exact World.news_of_block (heap_alloc_new _ _)) (by simp[Value.oneCell']) (by omega) (by unfold maxLen;omega) (by omega) (l9 _) _ rfl ?_;intro gg Hh w3 Hb Hj hJ jT;have hG:=(n9 _).grow jP.out.kn HP.out.bd (y:=(k,i,⟨zk,zn⟩)) Hb Hj HZ.out.symm ⟨hk,hi⟩ qQ.out (Nat.le_succ _) (.inr ⟨rfl,Nat.lt_succ_self _⟩);have xy:=Gr3.of_grown (n9 _).st Hj (n9 _).st.box (by decide);have hV3:=Gr3.of_grown (n9 _).st Hj (v9 _) (by decide);have qB:=Gr3.of_grown (n9 _).st Hj (u9 _) (by decide))
 all_goals
  have fB:w3.frozen? ⟨x.B,11,none⟩=false:=by simp[World.frozen?,xy]
  have cB:w3.cell? ⟨x.B,11,none⟩=some (.slice a1 Hz.length c1):=by simp only[World.cell?,xy];rfl
  have hV4:=(Below.heap_setCell w3 ⟨x.B,11,none⟩ (.slice (some ⟨gg,0,none⟩) (Hz.length+1) Hh) w1.heap.size (by show w1.heap.size≠x.B;omega)).trans hV3;have hR4:=(Below.heap_setCell w3 ⟨x.B,11,none⟩ (.slice (some ⟨gg,0,none⟩) (Hz.length+1) Hh) w.heap.size (by show w.heap.size≠x.B;omega)).trans qB;have HG:=Zhd (hG.put2 Ylr ko.1 ko.2 JS hR4 (by decide) (.int .i64 zk) (.int .i64 zn));obtain⟨s0,s1,_,_,_⟩:=Zal hV4;obtain⟨_,_,f0,f1,_⟩:=Zal hR4;obtain⟨e0,e1,_,_⟩:=Zbb hR4 (.int .i64 zk) (.int .i64 zn);have E0:=Zhd e0;have E1:=Zhd e1;clear e0 e1 hG Hb Hj hV3 qB xy hV4 hR4 hJ jT r9 l9 n9 v9 u9 qO d11 g0 g1 gc;go_wp2_with(guard_target =~ bodyPost _ _ _ _ _ _;have e0:=E0.out;have e1:=E1.out;refine bodyPost_ret (v:=vlV ⟨zk,zn⟩) (by simp[results,Tryz.results65,go_sem,e0,e1]) rfl ?_;exact⟨_,_,_,rfl,HG.out⟩)
theorem mWe2{p:Prop}(h:p:=by
 go_wp2_with fail;refine(HPL.out false (by simp) w1 T u kl Qj.out.st).mono ?_;rintro r0 w2 ⟨⟨zk,zn⟩,T1,u1,Hz,rfl,hz,Q9,Hb⟩;have zg:=Q9.gr.heap HR1.out Hp.1 Hp.2 (by decide);have Q9:=Qj.out.trans Q9 (.inr ⟨rfl,Nat.le_refl _⟩);have HZ:=Zhd hz;have HOWN:=Zhd Hb;clear hz Hb;have hN:=Q9.alloc (.cells #[.int .i64 zk,.int .i64 zn] 101);have hR:=(Below.heap_alloc w2 (.cells #[.int .i64 zk,.int .i64 zn] 101) _ (Zlt zg)).trans zg;have vB:=(Zlt zg);obtain⟨s0,s1,_,_,_⟩:=Zal (heap_alloc_new w2 (.cells #[.int .i64 zk,.int .i64 zn] 101));clear zg Q9;go_upto_region 5 with(fail)
 generalize w2.alloc (.cells #[.int .i64 zk,.int .i64 zn] 101)=W3 at *;obtain⟨_,_,f0,f1,_⟩:=Zal hR;obtain⟨e0,e1,_,_⟩:=Zbb hR (.int .i64 zk) (.int .i64 zn);have E0:=Zhd e0;have E1:=Zhd e1;have HF:=Zhd ((hN.put2 (Nat.le_succ _) Hp.1 Hp.2 JS hR (by decide) (.int .i64 zk) (.int .i64 zn)).kn (JZ.out.inOf (hN.put2 (Nat.le_succ _) Hp.1 Hp.2 JS hR (by decide) (.int .i64 zk) (.int .i64 zn)).st.isin));clear e0 e1 hN hR;go_wp2_with(guard_target =~ bodyPost _ _ _ _ _ _;have e0:=E0.out;have e1:=E1.out;refine bodyPost_ret (v:=vlV ⟨zk,zn⟩) (by simp[results,Tryz.results62,go_sem,e0,e1]) rfl ?_;exact⟨_,_,_,by rw[HZ.out (by simp)],HF.out,HOWN.out⟩)):p:=h
theorem mWe1{p:Prop}(h:p:=by
 intro w Hi;obtain⟨z0,z1,z2,z3,z4,z5,z6,z7,z8,z9,z10,z11⟩:=Hi.1.st.cs;have y0:=Hi.1.st.isin.cell j0;have y1:=Hi.1.st.isin.cell j1;have y2:=Hi.1.st.isin.cell j2;have y3:=Hi.1.st.isin.cell j3;go_simp<;>with_reducible rfl):p:=h
theorem WdS.cs{x:WdW}{K:Kn}{w:World}{T:List Bool}{u:Value}{kl:List KE}(h:WdS x K w T u kl):w.cell? ⟨x.B,0,none⟩=some x.vi/\w.cell? ⟨x.B,1,none⟩=some x.vo/\w.cell? ⟨x.B,2,none⟩=some x.vl/\w.cell? ⟨x.B,3,none⟩=some x.va/\w.cell? ⟨x.B,4,none⟩=some x.vc/\w.cell? ⟨x.B,5,none⟩=some x.vlt/\w.cell? ⟨x.B,6,none⟩=some x.vvr/\
  w.cell? ⟨x.B,7,none⟩=some x.vin/\w.cell? ⟨x.B,8,none⟩=some (.bool x.nb)/\w.cell? ⟨x.B,9,none⟩=some (.int .i64 x.ni)/\w.cell? ⟨x.B,10,none⟩=some (.slice (some ⟨x.D,0,none⟩) x.ins.length x.ins.length)/\w.cell? ⟨x.B,11,none⟩=some u:=
 ⟨h.cell 0,h.cell 1,h.cell 2,h.cell 3,h.cell 4,h.cell 5,h.cell 6,h.cell 7,h.cell 8,h.cell 9,h.cell 10,h.cell 11⟩
theorem Zff{W:World}{b:Nat}{x y:Value}{t:TypeId}(h:W.heap[b]?=some (.cells #[x,y] t (0,0)))(u v:Value):((W.setCell ⟨b,0,none⟩ u).setCell ⟨b,1,none⟩ v).heap[b]?=some (.cells #[u,v] t (0,0)):=
 Zaa _ b 1 v _ _ _ (Zaa W b 0 u _ _ _ h)
def WdR2(x:WdW)(K:Kn)(i r:Nat)(w:World)(T:List Bool)(kl:List KE)(R:Nat)(T1:List Bool)(u1:Value)(Hz:List KE)(w':World):Prop:=WdN x K i r w T kl w' T1 u1 Hz/\∃p q,w'.heap[R]?=some (.cells #[p,q] 101 (0,0))
theorem WdR2.below{x:WdW}{K:Kn}{i r:Nat}{w:World}{T:List Bool}{kl:List KE}{R:Nat}{T1:List Bool}{u1:Value}{Hz:List KE}{w1 w2:World}(h:WdR2 x K i r w T kl R T1 u1 Hz w1)(hb:Ybw w1 w2):WdR2 x K i r w T kl R T1 u1 Hz w2:=
 ⟨h.1.below hb,h.2.imp λ_ h=>h.imp λ_ h=>(hb.block _ (Zlt h)).trans h⟩
theorem Kn.le.inOf{K K2:Kn}{w:World}(h:K.le K2)(hw:K2.In w):K.In w:=λb o e=>hw b o (h b o e)
def PlainC(x:WdW)(e:Ex)(i r:Nat):Prop:=∀(K:Kn) (v:Value) (b:Bool),b=(decide (i=0)&&decide (0<lateOf (Zac x.p) e))->WdOk x K->ExV K e v->∀(w:World) (T:List Bool) (u:Value) (kl:List KE),WdS x K w T u kl->
 Calls Tryz.prog 87 #[ptrV x.B,v,.int .i64 i,.bool b] w λret w'=>∃z T' u' kl',ret=.returned (vlV z)/\(b=false->z=x.V e i)/\WdN x K i r w T kl w' T' u' kl'/\(x.own e i=true->T'.getD i false=true)
theorem wterm_any{x:WdW}(hp:WdP x){e:Ex}(he:InP x e){i r:Nat}(hi:i<x.ins.length)(qn:PlainC x e i r):Zkq x e i r:=by
 intro K v J1 hv w T u kl hs;obtain⟨ue,rfl,J9⟩:=hv;obtain⟨o,n,s,l⟩:=e;simp only[Ex.op,Ex.n,Ex.s,Ex.l] at J9 ⊢;obtain⟨a,c,rfl⟩:=J9.len;have ko:x.B<w.heap.size/\x.D<w.heap.size:=by have:=hp.bd;have:=hs.low;omega
 have Hp:x.B<w.heap.size+1/\x.D<w.heap.size+1:=by omega
 have hKE:K w.heap.size=none:=hs.isin.isNone Ylr;obtain⟨K2,yM⟩:∃K2,K2=K.add w.heap.size (.cells (Yqe o n s a l.length c) 61 (0,0)):=⟨_,rfl⟩;have He:K.le K2:=yM▸Kn.le_add hKE;have Ja:WdOk x K2:=J1.le He (yM▸J1.kn.add ko.1 ko.2 (by decide));have JS:K2 (w.heap.size+1)=none:=by rw[yM,Kn.add_other _ _ (by omega)];exact hs.isin.isNone (by omega)
 have Hg:Ybw w ((w.alloc (.cells (Yqe o n s a l.length c) 61)).alloc (.cells Yo2 101)):=Yba.alloc (by simp) _;have hEB:((w.alloc (.cells (Yqe o n s a l.length c) 61)).alloc (.cells Yo2 101)).heap[w.heap.size]?=some (.cells (Yqe o n s a l.length c) 61 (0,0)):=by rw[Below.heap_alloc _ _ _ (by simp)];exact heap_alloc_new _ _
 have Jr:((w.alloc (.cells (Yqe o n s a l.length c) 61)).alloc (.cells Yo2 101)).heap[w.heap.size+1]?=some (.cells Yo2 101 (0,0)):=by
  rw[show w.heap.size+1=(w.alloc (.cells (Yqe o n s a l.length c) 61)).heap.size from by simp];exact heap_alloc_new _ _
 have zh:WdN x K2 i r w T kl ((w.alloc (.cells (Yqe o n s a l.length c) 61)).alloc (.cells Yo2 101)) T u kl:=((hs.refl i r).below Hg).kn (yM▸(hs.isin.below Hg).add hEB);have jj:∀j,K2.cell w.heap.size j=((Yqe o n s a l.length c):Array Value)[j]?:=λj=>by unfold Kn.cell;rw[yM,Kn.add_self]
 have j0:K2.cell w.heap.size 0=some (.string o):=jj 0;have j1:K2.cell w.heap.size 1=some (.int .i64 n):=jj 1;have j2:K2.cell w.heap.size 2=some (.string s):=jj 2;have j3:K2.cell w.heap.size 3=some (.slice a l.length c):=jj 3;have Jx:ExV K2 (.mk o n s l) (.agg (Yqe o n s a l.length c)):=⟨_,rfl,J9.le He⟩;have J2:WdR2 x K2 i r w T kl (w.heap.size+1) T u kl ((w.alloc (.cells (Yqe o n s a l.length c) 61)).alloc (.cells Yo2 101)).drew:=⟨zh.below ((Below.refl _ _).drew),_,_,Jr⟩;have Hr:=(Zlt Jr);have vd:=Zhd (λ(wz:World) (hz:K2.In wz)=>Zio x.p x.vi x.vo x.vl x.va x.vc x.A hp.A.1 hp.A.2.2 (by have:=hp.sz.1;omega) x.ks _ he.form (by have:=he.parts;omega) K2 _ _ Jx Ja.pr Ja.late wz hz);rw[hp.A.2.1] at vd;have zG:ksOf (Zdc x.p)=x.ks:=(Zhg (V:=Zdc x.p) (by rw[<- hp.hks];unfold Zdc Pr.vars;rw[List.map_append,List.map_map];rfl)).symm;have QE:=Zhd (λ(wz:World) (hz:K2.In wz)=>Zii K2 (Zdc x.p) x.vvr Ja.vars (by have:=hp.sz;simp[Zdc];omega) _ _ Jx (by have:=he.parts;omega) (by rw[zG];exact he.form) wz hz);rw[zG] at QE;have HK2:=Zhd (Zel (hp.right he hi)).2;have HPL:=Zhd (λ(b:Bool) (hb:b=(decide (i=0)&&decide (0<lateOf (Zac x.p) (.mk o n s l))))=>qn K2 _ b hb Ja Jx);have JZ:=Zhd He;clear Hg hEB jj zh J1 Ja hs J9 Jx Jr hp he yM He qn hKE zG;by_cases JI:i=0
 .subst JI;rw[show((0:Nat):Int)=0 from rfl] at HPL ⊢;by_cases hL:0<lateOf (Zac x.p) (.mk o n s l)
  .have hv:x.V (.mk o n s l) 0=nilV x.nb x.ni (Zai x.ks (.mk o n s l)):=by
    unfold WdW.V;rw[wdV,if_pos ⟨rfl,hL⟩]
   rw[hv];clear hv;go_enter Tryz.func62,Tryz.ntmps62;go_wp2_with fail;generalize (w.alloc (.cells (Yqe o n s a l.length c) 61)).alloc (.cells Yo2 101)=W at *;refine Zae (WdR2 x K2 0 r w T kl (w.heap.size+1) T u kl) (λ_=>True) 99 (by kernel_rfl) ?_;refine w3 0 ?_
   iterate 12 ((first|(refine tk3 (v:=?_) rfl J2 Ztr ?hy ?_;(case hy=>exact mWe1))|refine sk3 rfl J2 Ztr ?_|refine no3 ?_);refine Zss ?_)
   refine w3e ?_;refine Zwo 12 rfl λK_ hK=>?_;go_simp;go_at_call 55;refine(vd.out _ J2.1.st.isin).mono ?_;rintro r0 w1 ⟨rfl,Hv⟩;have qA:=J2.below Hv;refine hK.out _ _ (qA) Ztr ?_;clear hK K_
   try simp only[tkS]
   refine w3 13 ?_
   iterate 3 ((first|(refine tk3 (v:=?_) rfl qA Ztr ?hy ?_;(case hy=>exact mWe1))|refine sk3 rfl qA Ztr ?_|refine no3 ?_);refine Zss ?_)
   refine w3e ?_;refine Zwd ?_;obtain⟨jM,p0,p1,kD⟩:=qA;have q0:=jM.st.isin.cell j0;have q1:=jM.st.isin.cell j1;have q2:=jM.st.isin.cell j2;have q3:=jM.st.isin.cell j3;have Qj:=Zhd jM;have HR1:=Zhd kD;clear jM kD J2;clear Hv;go_wp2_with fail;refine(HPL.out true (by simp[hL]) w1 T u kl Qj.out.st).mono ?_;rintro r0 w2 ⟨⟨zk,zn⟩,T1,u1,Hz,rfl,hz,Q9,Hb⟩;have zg:=Q9.gr.heap HR1.out Hp.1 Hp.2 (by decide);have Q9:=Qj.out.trans Q9 (.inr ⟨rfl,Nat.le_refl _⟩);have HZ:=Zhd hz;have HOWN:=Zhd Hb;clear hz Hb;have hN:=Q9.alloc (.cells #[.int .i64 zk,.int .i64 zn] 101);have hR:=(Below.heap_alloc w2 (.cells #[.int .i64 zk,.int .i64 zn] 101) _ (Zlt zg)).trans zg;have vB:=(Zlt zg);obtain⟨s0,s1,_,_,_⟩:=Zal (heap_alloc_new w2 (.cells #[.int .i64 zk,.int .i64 zn] 101));clear zg Q9;go_wp2_with fail;generalize w2.alloc (.cells #[.int .i64 zk,.int .i64 zn] 101)=W3 at *;have J2:WdR2 x K2 0 r w T kl (w.heap.size+1) T1 u1 Hz W3.drew:=⟨hN.below ((Below.refl _ _).drew),_,_,hR⟩;refine Zae (WdR2 x K2 0 r w T kl (w.heap.size+1) T1 u1 Hz) (λ_=>True) 99 (by kernel_rfl) ?_;refine w3 0 ?_
   iterate 6 ((first|(refine tk3 (v:=?_) rfl J2 Ztr ?hy ?_;(case hy=>exact mWe1))|refine sk3 rfl J2 Ztr ?_|refine no3 ?_);refine Zss ?_)
   refine w3e ?_;refine Zwo 6 rfl λK_ hK=>?_;go_simp;go_at_call 61;refine(QE.out _ J2.1.st.isin).mono ?_;rintro r0 w4 ⟨rfl,jw⟩;have qA:=J2.below jw;refine hK.out _ _ (qA) Ztr ?_;clear hK K_
   try simp only[tkS]
   refine Zwo 7 rfl λK_ hK=>?_;go_simp;go_at_call 60;refine(none_any qA.1.st _ HK2.out).mono ?_;rintro r0 w5 ⟨rfl,Jf⟩;have hSG:=qA.below Jf;obtain⟨hN,p0,p1,hR⟩:=id hSG;obtain⟨⟨nk,nn⟩,jS⟩:∃z,nilV x.nb x.ni (Zai x.ks (.mk o n s l))=z:=⟨_,rfl⟩;rw[jS];obtain⟨g0,g1,f0,f1,_⟩:=Zal hR;obtain⟨e0,e1,_,_⟩:=Zbb hR (.int .i64 nk) (.int .i64 nn);have E0:=Zhd e0;have E1:=Zhd e1;have hF:=hN.put2 (Nat.le_succ _) Hp.1 Hp.2 JS hR (by decide) (.int .i64 nk) (.int .i64 nn);have hSF:WdR2 x K2 0 r w T kl (w.heap.size+1) T1 u1 Hz _:=⟨hF,_,_,Zff hR (.int .i64 nk) (.int .i64 nn)⟩;have HF:=Zhd (hF.kn (JZ.out.inOf hF.st.isin));clear e0 e1 hF;refine hK.out _ _ (hSG) Ztr ?_;clear hK K_
   try simp only[tkS]
   refine Zwo 8 rfl λK_ hK=>?_;go_simp;refine hK.out _ _ (hSF) Ztr ?_;clear hK K_
   try simp only[tkS]
   refine Zwd ?_;go_wp2_with(guard_target =~ bodyPost _ _ _ _ _ _;have e0:=E0.out;have e1:=E1.out;refine bodyPost_ret (v:=vlV ⟨nk,nn⟩) (by simp[results,Tryz.results62,go_sem,e0,e1]) rfl ?_;exact⟨_,_,_,by rw[jS],HF.out,HOWN.out⟩)
  have hLd:decide (0<lateOf (Zac x.p) (.mk o n s l))=false:=by simp only[hL,decide_false]
  simp only[hL,decide_false,Bool.and_false] at HPL;go_enter Tryz.func62,Tryz.ntmps62;go_wp2_with fail;generalize (w.alloc (.cells (Yqe o n s a l.length c) 61)).alloc (.cells Yo2 101)=W at *;refine Zae (WdR2 x K2 0 r w T kl (w.heap.size+1) T u kl) (λ_=>True) 99 (by kernel_rfl) ?_;refine w3 0 ?_
  iterate 12 ((first|(refine tk3 (v:=?_) rfl J2 Ztr ?hy ?_;(case hy=>exact mWe1))|refine sk3 rfl J2 Ztr ?_|refine no3 ?_);refine Zss ?_)
  refine w3e ?_;refine Zwo 12 rfl λK_ hK=>?_;go_simp;go_at_call 55;refine(vd.out _ J2.1.st.isin).mono ?_;rintro r0 w1 ⟨rfl,Hv⟩;have qA:=J2.below Hv;refine hK.out _ _ (qA) Ztr ?_;clear hK K_
  try simp only[tkS]
  refine w3 13 ?_
  iterate 3 ((first|(refine tk3 (v:=?_) rfl qA Ztr ?hy ?_;(case hy=>exact mWe1))|refine sk3 rfl qA Ztr ?_|refine no3 ?_);refine Zss ?_)
  refine w3e ?_;refine Zwd ?_;obtain⟨jM,p0,p1,kD⟩:=qA;have q0:=jM.st.isin.cell j0;have q1:=jM.st.isin.cell j1;have q2:=jM.st.isin.cell j2;have q3:=jM.st.isin.cell j3;have Qj:=Zhd jM;have HR1:=Zhd kD;clear jM kD J2;clear Hv;exact mWe2
 have hid:((i:Int)==0)=false:=by simp;omega
 simp only[JI,decide_false,Bool.false_and] at HPL;go_enter Tryz.func62,Tryz.ntmps62;go_wp2_with fail;generalize (w.alloc (.cells (Yqe o n s a l.length c) 61)).alloc (.cells Yo2 101)=W at *;refine Zae (WdR2 x K2 i r w T kl (w.heap.size+1) T u kl) (λ_=>True) 99 (by kernel_rfl) ?_;refine w3 0 ?_
 iterate 16 ((first|(refine tk3 (v:=?_) rfl J2 Ztr ?hy ?_;(case hy=>exact mWe1))|refine sk3 rfl J2 Ztr ?_|refine no3 ?_);refine Zss ?_)
 refine w3e ?_;refine Zwd ?_;have qA:=J2;generalize W.drew=w1 at *;obtain⟨jM,p0,p1,kD⟩:=qA;have q0:=jM.st.isin.cell j0;have q1:=jM.st.isin.cell j1;have q2:=jM.st.isin.cell j2;have q3:=jM.st.isin.cell j3;have Qj:=Zhd jM;have HR1:=Zhd kD;clear jM kD J2;exact mWe2
end Go.Proofs.YtafapnolamcdmaaGreatDoor
