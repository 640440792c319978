/- A row of values that grows beside a World: no function of the program in sight. -/
import Derived.Test.YtafapnolamcdmaaGreatDoorWi
import Derived.Test.YtafapnolamcdmaaGreatDoorGpM
set_option linter.all false
namespace Go.Proofs.YtafapnolamcdmaaGreatDoor
set_option maxRecDepth 100000
set_option maxHeartbeats 16000000
open Go.RowKit Mx
theorem WdS.grownO{x:WdW}{K:Kn}{wr w3:World}{T:List Bool}{u:Value}{kl:List KE}(h:WdS x K wr T u kl){base k n:Nat}{TT:TypeId}{v:Value}{xs:List Value}(ho:wr.ownsRow base TT k v n xs)(hT:TT≠knT)(hb:x.B<base)(hd:x.D<base)(hK:∀g,v.ownBlock=some g->K g=none)(hg:wr.grownBy w3 v.ownBlock):WdS x K w3 T u kl:=by
 have Hs:∀g,v.ownBlock=some g->base<=g/\g<wr.heap.size:=λg hh=>ho.lt g hh;refine⟨h.isin.grown hg hK,?_,?_,h.good,h.lo,h.nd,?_,h.len,h.mark,Nat.le_trans h.low hg.size⟩
 .rw [hg.block _ (Zlt h.box) (λe=>by have:=(Hs _ e.symm).1;omega)];exact h.box
 .exact h.row.kept hg (by
   rcases h.row.2 with ⟨q1,_⟩|⟨g,Ha,cur,q1,q2,q3,_⟩
   .exact .inl (by rw[q1];rfl)
   right;rw[q1];intro e;rcases ho.2 with ⟨t1,_⟩|⟨g2,zl,cur2,t1,t2,t3,_⟩
   .rw [t1] at e;cases e
   rw[t1] at e;cases e;rw[q3] at t3;cases t3;exact hT rfl)
 rw[hg.block _ (Zlt h.trap) (λe=>by have:=(Hs _ e.symm).1;omega)];exact h.trap
structure OwS(x:WdW)(K:Kn)(w0 wr:World)(T:List Bool)(u:Value)(kl:List KE)(uo:Value)(l:List Vl):Prop where
 st:WdS x K wr T u kl
 row:wr.ownsRow x.base 101 2 uo l.length (vlX l)
 below:Ybw w0 wr
structure OwK(x:WdW)(K:Kn)(n:Nat):Prop where
 bd:x.B<x.base/\x.D<x.base
 lo:n<=x.B/\n<=x.D
 no:∀g cs fr,x.base<=g->K g≠some (.cells cs 101 fr)
section
variable {x : WdW} {K : Kn} {w0 wr : World} {T : List Bool} {u : Value} {kl : List KE} {uo : Value} {l : List Vl}
theorem OwS.later{i r:Nat}{w2:World}{T2:List Bool}{u2:Value}{zS:List KE}(h:OwS x K w0 wr T u kl uo l)(hk:OwK x K w0.heap.size)(hM:WdN x K i r wr T kl w2 T2 u2 zS):OwS x K w0 w2 T2 u2 zS uo l:=
 ⟨hM.st,hM.gr.own h.row hk.bd.1 hk.bd.2 (by decide),h.below.trans (hM.gr.below h.below.size hk.lo.1 hk.lo.2 (by have:=hk.bd;have:=hk.lo;omega))⟩
theorem OwS.next{w2:World}(h:OwS x K w0 wr T u kl uo l)(hb:Ybw wr w2):OwS x K w0 w2 T u kl uo l:=
 ⟨h.st.below hb,Za1 h.row hb,h.below.trans (hb.mono h.below.size)⟩
theorem OwS.alloc(h:OwS x K w0 wr T u kl uo l)(o:Obj):OwS x K w0 (wr.alloc o) T u kl uo l:=h.next ((Below.refl _ _).alloc Ylr o)
theorem OwS.newB(_:OwS x K w0 wr T u kl uo l)(o:Obj):(wr.alloc o).heap[wr.heap.size]?=some o:=heap_alloc_new wr o
theorem OwS.ownK(h:OwS x K w0 wr T u kl uo l)(hk:OwK x K w0.heap.size):∀g,uo.ownBlock=some g->K g=none:=λg hg=>by
 rcases h.row.2 with ⟨q1,_⟩|⟨g',Ha,cur,q1,q2,q3,_⟩
 .rw [q1] at hg;cases hg
 rw[q1] at hg;cases hg;cases hh:K g' with
 |none=>rfl
 |some ob=>
  have h1:=h.st.isin g' ob hh;rw[q3] at h1;cases h1;exact absurd hh (hk.no g' _ _ q2)
theorem OwS.put{w3:World}{gg Hh:Nat}{y:Vl}(h:OwS x K w0 wr T u kl uo l)(hk:OwK x K w0.heap.size)
  (Hb:w3.ownsRow x.base 101 2 (.slice (some ⟨gg,0,none⟩) (l.length+1) Hh) (l.length+1) (vlX l++[.int .i64 y.kind,.int .i64 y.n])) (hg:wr.grownBy w3 uo.ownBlock):
  OwS x K w0 w3 T u kl (.slice (some ⟨gg,0,none⟩) (l.length+1) Hh) (l++[y]):=
 ⟨h.st.grownO h.row (by decide) hk.bd.1 hk.bd.2 (h.ownK hk) hg,by rw[show(l++[y]).length=l.length+1 from by simp,Zgv];exact Hb,h.below.grown hg h.below.size (λg hh=>by have:=(h.row.lt g hh).1;have:=hk.bd;have:=hk.lo;omega)⟩
theorem OwS.box(h:OwS x K w0 wr T u kl uo l)(hk:OwK x K w0.heap.size){b:Nat}(hb:x.base<=b)(hK:K b=none)(Hs:uo.ownBlock≠some b){p q:Value}(Hu:wr.heap[b]?=some (.cells #[p,q] 101 (0,0)))(c v:Value):OwS x K w0 ((wr.setCell ⟨b,0,none⟩ c).setCell ⟨b,1,none⟩ v) T u kl uo l:=by
 have h1:=hk.bd;have h2:=hk.lo;exact⟨(h.st.setOwn (by omega) (by omega) hK Hu (by decide) 0 c).setOwn (by omega) (by omega) hK (Zaa wr b 0 c _ _ _ Hu) (by decide) 1 v,
  Zam (Zam h.row (a:=⟨b,0,none⟩) Hs c) (a:=⟨b,1,none⟩) Hs v,
  (h.below.setCell (p:=⟨b,0,none⟩) (by show w0.heap.size<=b;omega) c).setCell (p:=⟨b,1,none⟩) (by show w0.heap.size<=b;omega) v⟩
theorem OwS.told(h:OwS x K w0 wr T u kl uo l)(hk:OwK x K w0.heap.size):VlsV (Zb3 w0.heap.size wr) l uo:=SlV.le (vls_clean (n:=x.base) h.row Ylr hk.bd.1 hk.bd.2) (cleanKn_new x wr (by have:=hk.lo;have:=hk.bd;omega)) VlC.mono
end
theorem mWn3{p:Prop}(h:p:=by
 refine hK.out _ _ hS Ztr ?_;clear hK K_
 try simp only[tkS]
 refine Zwo 4 rfl λK_ hK=>?_;go_simp;go_at_call 63;refine(zN.out _ (HKH.out _ hS)).mono ?_;rintro r0 w3 ⟨vv,KV,rfl,zp,Hy⟩;have Jg:=Hy.below;obtain⟨av,cv,rfl⟩:=zp.len;have hS:=hS.below Jg;have hDB:=hB.size;have hB:=hB.trans (Jg.mono hB.size);have hKVD:=(Hy.fresh _ (Zlt hD)).trans (HHW.out.isNone hDw);have hD:=(Jg.block _ (Zlt hD)).trans hD;have zp:=zp.le (Zgg Hy.isin hKVD) VrC.mono;have qk:=Zkt qk (noKn_le Jg);exact mWn2):p:=h
theorem mWn2{p:Prop}(h:p:=by
 refine hK.out _ _ hS Ztr ?_;clear hK K_
 try simp only[tkS]
 refine Go.w3 11 ?_
 iterate 1 ((first|(refine tk3 (v:=?_) rfl hS Ztr ?hy ?_;(case hy=>exact mWn1))|refine sk3 rfl hS Ztr ?_|refine no3 ?_);refine Zss ?_)
 refine Go.w3e ?_;refine Zwo 12 rfl λK_ hK=>?_;go_simp;have zP:=HEND.out w _ HHW.out _ A _ _ hB hDw hD ⟨yH.out,hAf,hAb⟩ qk zp;refine hK.out _ _ (hS.alloc _) Ztr ?_;clear hK K_
 try simp only[tkS]
 refine Zwo 13 rfl λK_ hK=>?_;go_simp;refine hK.out _ _ (hS.alloc _) Ztr ?_;clear hK K_
 try simp only[tkS]
 refine Zwd ?_
 try simp only[World.size_alloc] at zP
 go_wp2_with fail;go_ret;exact zP):p:=h
theorem mWn1{p:Prop}(h:p:=by
 intro w Hi;obtain⟨z0,z1,z2,z3,z4⟩:=Hi.c5 k0 k1 k2 k3 k4;go_simp<;>with_reducible rfl):p:=h
theorem sints_no{w:World}{A:List Int}{v:Value}{D:Nat}(h:Ze1 (Zan w) A v)(hD:∀j n,w.cell? ⟨D,j,none⟩≠some (.int .i64 n)):Ze1 (noKn D w) A v:=by
 rcases h with ⟨h0,a,c,e⟩|⟨b,off,Ha,e,h1,h2,h3⟩
 .exact .inl ⟨h0,a,c,e⟩
 by_cases hl:0<A.length
 .have hb:b≠D:=λe2=>by
   have h4:=h3 0 hl;have h4:(Zan w).cell b (off+0 * 1+0)=some (.int .i64 A[0]):=h4;rw[Zaj,e2] at h4;exact hD _ _ h4
  exact .inr ⟨b,off,Ha,e,h1,h2,λi hi=>by
   have h4:(Zan w).cell b (off+i * 1+0)=some (.int .i64 A[i]):=h3 i hi;show(noKn D w).cell b (off+i * 1+0)=_;rw[Zep hb,<- Zaj];exact h4⟩
 have h0:A=[]:=List.eq_nil_of_length_eq_zero (by omega);subst h0;exact .inl ⟨rfl,_,_,e⟩
theorem Zkt{K K':Kn}{A:List Int}{v:Value}(h:Ze1 K A v)(He:K.le K'):Ze1 K' A v:=SlV.le h He (λ_ _ _ h e=>h 0 _ e)
theorem noKn_le{D:Nat}{w w':World}(hb:Ybw w w'):(noKn D w).le (noKn D w'):=λb o e=>by
 unfold noKn at e ⊢
 split at e
 .cases e
 rename_i Hs
 rw[if_neg Hs,hb.block b (Zlt e)];exact e
theorem madeB(n:Nat):madeCells #[.bool false] n=((List.replicate n false).map Value.bool).toArray:=by
 apply Array.ext_getElem?;intro j;by_cases hj:j<n
 .rw [Zgk n j hj];simp[hj]
 rw[Array.getElem?_eq_none (by simp[madeCells];omega),Array.getElem?_eq_none (by simp;omega)]
theorem madeB_no{w:World}{D n:Nat}(h:w.heap[D]?=some (.cells (madeCells #[.bool false] n) 4 (0,0))):∀j m,w.cell? ⟨D,j,none⟩≠some (.int .i64 m):=λj m e=>by
 simp only[World.cell?,h] at e;by_cases hj:j<n
 .have:=Zgk n j hj;simp_all
 rw[Array.getElem?_eq_none (by simp[madeCells];omega)] at e;simp at e
def NewW(H:Kn)(p:Pr)(ks:Env Int)(ord:List Nat)(nb:Bool)(ni:Int)(ins:List (List Vl))(w:World)(r:Ending)(w':World):Prop:=
 ∃(x:WdW) (K:Kn),r=.returned (ptrV x.B)/\(x.p=p/\x.ks=ks/\x.ord=ord/\x.nb=nb/\x.ni=ni/\x.ins=ins)/\WdP x/\WdOk x K/\WdS x K w' (List.replicate ins.length false) (Ys0) []/\H.le K/\
  (w.heap.size<=x.B/\w.heap.size<=x.D/\x.base=w'.heap.size)/\Ybw w w'
section
variable {H : Kn} {p : Pr} {vi vo vl va vc vin : Value} (hp : PrP H p vi vo vl va vc) (J0 : (Za2 p).1 = 0) {ks : Env Int} (hks : Zao Env.none p.vars = some ks) {ord : List Nat} (ho : Za5 p = .ok ord) (J5 : p.fl.length <= 400 ∧ Ex.partsL p.terms <= 4000 ∧ p.ins.length <= 1000) (zE : p.outs.length <= 1000000)
 {ins:List (List Vl)} (JN:ins.length<=1000) (hi:InsV H ins vin) (hr:∀l∈ins,Zas p.ins l l.length=true) (nb:Bool) {ni:Int} (qI : -128<=ni/\ni<=127)
include hp J0 hks ho J5 zE JN hi hr qI
theorem newW_of{w wz:World}(hH:H.In w){D:Nat}{A:List Int}{vA vv:Value}(hb:Ybw w wz)(hD:w.heap.size<=D)(hDz:wz.heap[D]?=some (.cells (madeCells #[.bool false] ins.length) 4 (0,0)))
  (hA:A.length=p.fl.length/\Zbh p A=Zac p/\∀y∈A,0<=y/\y<=2) (qk:Ze1 (noKn D wz) A vA) (zp:VrsV (noKn D wz) (Zdc p) vv):
  NewW H p ks ord nb ni ins w (.returned (ptrV wz.heap.size)) (wz.alloc (.cells #[vi,vo,vl,va,vc,vA,vv,vin,.bool nb,.int .i64 ni,.slice (some ⟨D,0,none⟩) ins.length ins.length,Ys0,.int .i64 0] wdT)):=by
 have hDl:=(Zlt hDz);have He:H.le (noKn D wz):=Zgg (hH.below hb) (hH.isNone hD);refine⟨mkW p ks ord nb ni ins A wz.heap.size D (wz.heap.size+1) vi vo vl va vc vA vv vin,noKn D wz,rfl,⟨rfl,rfl,rfl,rfl,rfl,rfl⟩,⟨J0,hks,ho,⟨J5.1,J5.2.1,J5.2.2,JN⟩,zE,hA,⟨by show wz.heap.size≠D;omega,by show wz.heap.size<wz.heap.size+1;omega,by show D<wz.heap.size+1;omega⟩,qI,hr,rfl⟩,
  ⟨⟨?_,Zfb D wz,λg cs fr hg e=>?_⟩,hp.le He,qk,zp,InsV.le He hi⟩,⟨?_,?_,World.ownsRow_nil _ _ _ _,(λy hy=>by cases hy),(λy hy=>by cases hy),List.nodup_nil,?_,by simp[mkW],λi h=>?_,?_⟩,He,⟨hb.size,hD,by simp[mkW]⟩,hb.alloc hb.size _⟩
 .exact (Zgh D wz).isNone Ylr
 .have:=(Zgh D wz).lt e;have hg:wz.heap.size+1<=g:=hg;omega
 .exact (Zgh D wz).alloc _
 .exact heap_alloc_new _ _
 .show (wz.alloc _).heap[D]?=_;rw[Below.heap_alloc _ _ _ hDl,hDz,madeB]
 .simp [Ygg,List.getElem?_replicate] at h
  split at h<;>simp at h
 show wz.heap.size+1<=_;simp
end
theorem Zj5(H:Kn)(p:Pr)(vi vo vl va vc:Value)(hp:PrP H p vi vo vl va vc)(J0:(Za2 p).1=0){ks:Env Int}(hks:Zao Env.none p.vars=some ks){ord:List Nat}(ho:Za5 p=.ok ord)(J5:p.fl.length<=400/\Ex.partsL p.terms<=4000/\p.ins.length<=1000)(zE:p.outs.length<=1000000)
  (ins:List (List Vl)) (vin:Value) (JN:ins.length<=1000) (hi:InsV H ins vin) (hr:∀l∈ins,Zas p.ins l l.length=true) (nb:Bool) (ni:Int) (qI : -128<=ni/\ni<=127) (w:World) (hH:H.In w):
  Calls Tryz.prog 36 #[.agg #[vi,vo,vl,va,vc],vin,.bool nb,.int .i64 ni] w (NewW H p ks ord nb ni ins w):=by
 obtain⟨z1,z2,z3⟩:=J5;have ji:∀f∈p.fl,Zad ks f.e=true:=λf hf=>Zfa hks ho _ (Zeh p hf);have hnd:=Zhb (Zbg ho).1;have HLF:=Zhd (λ(wz:World) (hz:H.In wz)=>Zip H p vi vo vl va vc hp ks ji hnd (by omega) (by omega) wz hz);have zN:=Zhd (λ(wz:World) (hz:H.In wz)=>rvars_any H p vi vo vl va vc hp ⟨by omega,by omega⟩ wz hz);have HEND:=Zhd (λ(w wz:World) (hH:H.In w) D A vA vv=>newW_of (vin:=vin) hp J0 hks ho ⟨z1,z2,z3⟩ zE JN hi hr nb qI (w:=w) (wz:=wz) hH (D:=D) (A:=A) (vA:=vA) (vv:=vv));have zt:=run_make_row' (P:=Tryz.prog) 81 4 (.bool false) 1 Tryz.underlying81 Tryz.infoBool rfl .i64 .i64 ins.length (by omega) (by omega);obtain⟨h1,h2,h3,h4,h5⟩:=hp;obtain⟨ai,ci,ao,co,al,cl,aa,ca,ac,cc,rfl,rfl,rfl,rfl,rfl⟩:=Ypo h1.len h2.len h3.len h4.len h5.len;obtain⟨an,cn,rfl⟩:=hi.len;clear h1 h2 h3 h4 h5 ji hnd hi hr;have HHW:=Zhd hH;have Hg:=(Below.refl w.heap.size w).alloc Ylr (.cells (Yq5 p ai ao al aa ac ci co cl ca cc) 27);have Hr:=(show w.heap.size<(w.alloc (.cells (Yq5 p ai ao al aa ac ci co cl ca cc) 27)).heap.size from by simp);obtain⟨K,JQ⟩:∃K,K=H.add w.heap.size (.cells (Yq5 p ai ao al aa ac ci co cl ca cc) 27 (0,0)):=⟨_,rfl⟩;have He:H.le K:=JQ▸Kn.le_add (hH.isNone Ylr);have Hk:K.In (w.alloc (.cells (Yq5 p ai ao al aa ac ci co cl ca cc) 27)):=JQ▸(hH.below Hg).add (heap_alloc_new _ _);have jj:∀j,K.cell w.heap.size j=((Yq5 p ai ao al aa ac ci co cl ca cc):Array Value)[j]?:=λj=>by unfold Kn.cell;rw[JQ,Kn.add_self]
 have k0:K.cell w.heap.size 0=some (.slice ai p.ins.length ci):=jj 0;have k1:K.cell w.heap.size 1=some (.slice ao p.outs.length co):=jj 1;have k2:K.cell w.heap.size 2=some (.slice al p.fl.length cl):=jj 2;have k3:K.cell w.heap.size 3=some (.slice aa p.as.length ca):=jj 3;have k4:K.cell w.heap.size 4=some (.slice ac p.cs.length cc):=jj 4;have hKH:∀wz:World,K.In wz->H.In wz:=λwz hz b o e=>hz b o (He b o e);have HKH:=Zhd hKH;clear jj JQ hH hKH;go_enter Tryz.func36,Tryz.ntmps36;go_upto_region 1 with(fail)
 generalize w.alloc (.cells (Yq5 p ai ao al aa ac ci co cl ca cc) 27)=W at *;have hS:K.In W.drew:=Hk;have hB:Ybw w W.drew:=Hg.trans ((Below.refl W.heap.size W).drew.mono Hg.size);have hWl:w.heap.size<=W.drew.heap.size:=hB.size;clear Hk Hg Hr;refine Zae (K.In) (λ_=>True) 99 (by kernel_rfl) ?_;refine Go.w3 0 ?_
 iterate 2 ((first|(refine tk3 (v:=?_) rfl hS Ztr ?hy ?_;(case hy=>exact mWn1))|refine sk3 rfl hS Ztr ?_|refine no3 ?_);refine Zss ?_)
 refine Go.w3e ?_;refine Go.w3 3 ?_
 iterate 1 ((first|(refine tk3 (v:=?_) rfl hS Ztr ?hy ?_;(case hy=>exact mWn1))|refine sk3 rfl hS Ztr ?_|refine no3 ?_);refine Zss ?_)
 refine Go.w3e ?_;refine Go.w3 5 ?_
 iterate 5 ((first|(refine tk3 (v:=?_) rfl hS Ztr ?hy ?_;(case hy=>exact mWn1))|refine sk3 rfl hS Ztr ?_|refine no3 ?_);refine Zss ?_)
 refine Go.w3e ?_;refine Zcj (i:=2) (j:=10) (o:=_) (o':=_) (by kernel_rfl) rfl rfl (λK_ hK=>?_) (λK_ hK=>?_)
 .skip;go_simp;go_at_call 53;refine(HLF.out _ (HKH.out _ hS)).mono ?_;rintro r0 w2 ⟨A,vA,rfl,hAl,hAf,hAb,qk,Hm⟩;obtain⟨aA,cA,rfl⟩:=qk.len;have yH:=Zhd hAl;clear hAl;have hS:=hS.below Hm;have hB:=hB.trans (Hm.mono hB.size);refine hK.out _ _ hS Ztr ?_;clear hK K_
  try simp only[tkS]
  refine Zcj (i:=4) (j:=10) (o:=_) (o':=_) (by kernel_rfl) rfl rfl (λK_ hK=>?_) (λK_ hK=>?_)
  .skip;go_simp;go_at_call 63;refine(zN.out _ (HKH.out _ hS)).mono ?_;rintro r0 w3 ⟨vv,KV,rfl,zp,Hy⟩;have Jg:=Hy.below;obtain⟨av,cv,rfl⟩:=zp.len;have hS:=hS.below Jg;have hDB:=hB.size;have hB:=hB.trans (Jg.mono hB.size);have qk:=Zkt qk (Zbl (Zca Jg));refine hK.out _ _ hS Ztr ?_;clear hK K_
   try simp only[tkS]
   refine Zwo 10 rfl λK_ hK=>?_;go_simp
   try simp only[zt]
   try go_simp
   have hD:=heap_alloc_new w3 (.cells (madeCells #[.bool false] ins.length) 4);have hDw:w.heap.size<=w3.heap.size:=hB.size;have xP:=(Below.refl w3.heap.size w3).alloc Ylr (.cells (madeCells #[.bool false] ins.length) 4);have hS:=hS.below xP;have hB:=hB.trans (xP.mono hB.size);have qk:=Zkt qk (Zgg (Zca xP) ((Za9 _).isNone Ylr));have zp:=zp.le (Zgg (Hy.isin.below xP) (Hy.isin.isNone Ylr)) VrC.mono;exact mWn2
  skip;go_simp
  try simp only[zt]
  try go_simp
  have hD:=heap_alloc_new w2 (.cells (madeCells #[.bool false] ins.length) 4);have hDw:w.heap.size<=w2.heap.size:=hB.size;have xP:=(Below.refl w2.heap.size w2).alloc Ylr (.cells (madeCells #[.bool false] ins.length) 4);have hS:=hS.below xP;have hB:=hB.trans (xP.mono hB.size);have qk:=Zkt qk (Zgg (Zca xP) ((Za9 _).isNone Ylr));exact mWn3
 skip;go_simp
 try simp only[zt]
 try go_simp
 have hD:=heap_alloc_new W.drew (.cells (madeCells #[.bool false] ins.length) 4);have hDw:w.heap.size<=W.drew.heap.size:=hB.size;have xP:=(Below.refl W.drew.heap.size W.drew).alloc Ylr (.cells (madeCells #[.bool false] ins.length) 4);have hS:=hS.below xP;have hB:=hB.trans (xP.mono hB.size);refine hK.out _ _ hS Ztr ?_;clear hK K_
 try simp only[tkS]
 refine Zwo 2 rfl λK_ hK=>?_;go_simp;go_at_call 53;refine(HLF.out _ (HKH.out _ hS)).mono ?_;rintro r0 w2 ⟨A,vA,rfl,hAl,hAf,hAb,qk,Hm⟩;obtain⟨aA,cA,rfl⟩:=qk.len;have yH:=Zhd hAl;clear hAl;have hS:=hS.below Hm;have hB:=hB.trans (Hm.mono hB.size);have hD:=(Hm.block _ (Zlt hD)).trans hD;have qk:=sints_no qk (madeB_no hD);exact mWn3
theorem mSto2{p:Prop}(h:p:=by
 refine hK.out _ _ J3.st Ztr ?_;clear hK K_
 try simp only[tkS]
 refine Zwo 10 rfl λK_ hK=>?_;go_simp;go_at_call 60;refine(JR.out _ _ _ _ J3.st).mono ?_;rintro r0 w7 ⟨rfl,zY⟩;have J3:=J3.next zY;have Hu:=(zY.block _ (Zlt Hu)).trans Hu;have jC:=Nat.le_trans jC zY.size;refine hK.out _ _ J3.st Ztr ?_;clear hK K_
 try simp only[tkS]
 refine Zwo 12 rfl λK_ hK=>?_;obtain⟨q0,q1,f0,f1,_⟩:=Zal Hu;have J3:=J3.box HKO.out (Nat.le_trans kt Ji) (J2.st.isin.isNone (by show wr.drew.heap.size<=_;exact Ji)) (λe=>by have:=(hRl _ e).2;omega) Hu (.int .i64 nk) (.int .i64 nn);have Hu:=Zff Hu (.int .i64 nk) (.int .i64 nn);go_simp;exact mSto1):p:=h
theorem mSto1{p:Prop}(h:p:=by
 refine hK.out _ _ J3.st Ztr ?_;clear hK K_
 try simp only[tkS]
 refine Zwd ?_;have hKB9:=J2.st.isin.isNone Ji;have hge9:=Nat.le_trans kt Ji;by_cases h0:x.ins.length=0
 .have Qs:decide (0<(x.ins.length:Int))=false:=decide_eq_false (by omega);obtain⟨s0,s1,_,_,_⟩:=Zal Hu;have yJ:=λo=>J3.alloc o;have qY:=J3.newB (.cells #[.int .i64 nk,.int .i64 nn] 101);simp only[World.size_alloc,World.size_setCell] at qY;have hr9:=λo=>(J3.alloc o).row;have hl8:=λo=>(J3.alloc o).st.low;go_wp2_with(at_builtin;have q:=hr9 (.cells #[.int .i64 nk,.int .i64 nn] 101);refine Zgs 31 101 2 16 _ Tryz.underlying31 Tryz.infoVl rfl (by decide) _ _ rfl rfl x.base _ _ _ rfl q ⟨_,0,none⟩ 1 [.int .i64 nk,.int .i64 nn] rfl rfl ?c1 ?c2 ?c3 ?c4 ?c5 ?_)
  case c1=>exact World.news_of_block qY
  case c2=>simp[Value.oneCell']
  case c3=>omega
  case c4=>omega
  case c5=>exact hl8 _
  intro gg Hh w9 Hb Hj hJ;have HG:=Zhd ((yJ (.cells #[.int .i64 nk,.int .i64 nn] 101)).put HKO.out (y:=⟨nk,nn⟩) Hb Hj);clear Hb Hj hJ yJ hr9 hl8 qY J3 Hu s0 s1;have HTE:=Zhd (show [(⟨rk,rn⟩:Vl)]++((Zbd x.p.terms).take (m+1)).map (stW x)=vs++[⟨nk,nn⟩] from by rw[zZ.out,<- List.append_assoc,HVS.out,HSTW.out,if_pos h0,gL.out]);go_wp2_with fail;go_roundw
  case rel=>simp only[h0];first|exact⟨m+1,_,_,_,by go_num,by omega,by rw[HTE.out];exact HG.out⟩|((repeat apply Exists.intro);refine⟨?_,rfl⟩;exact⟨m+1,_,_,_,by go_num,by omega,by rw[HTE.out];exact HG.out⟩)
  simp[intOf];omega
 have Qs:decide (0<(x.ins.length:Int))=true:=decide_eq_true (by omega);have qx:x.ins.length - 1<x.ins.length:=by omega
 have gI:=HT.out qx;rw[show((x.ins.length - 1:Nat):Int)=(x.ins.length:Int) - 1 from by omega] at gI;obtain⟨⟨zk,zn⟩,hzv⟩:∃z,x.V y (x.ins.length - 1)=z:=⟨_,rfl⟩;have HZV:=Zhd hzv;rw[hzv] at gI;clear hzv;have zs0:=J3.st.isin.cell c0;have zs1:=J3.st.isin.cell c1;have zs2:=J3.st.isin.cell c2;have zs3:=J3.st.isin.cell c3;go_wp2_with fail;refine(gI _ _ _ _ J3.st).mono ?_;rintro r0 w8 ⟨T3,u3,kl3,rfl,hM,_⟩;have J3:=J3.later HKO.out hM;have Hu:=hM.gr.heap Hu (by have:=ka;omega) (by have:=ka;omega) (by decide);obtain⟨q0,q1,f0,f1,_⟩:=Zal Hu;have J3:=J3.box HKO.out hge9 hKB9 (λe=>by have:=(hRl _ e).2;exact Nat.not_le_of_lt this Ji) Hu (.int .i64 zk) (.int .i64 zn);have Hu:=Zff Hu (.int .i64 zk) (.int .i64 zn);clear hM gI zs0 zs1 zs2 zs3;obtain⟨s0,s1,_,_,_⟩:=Zal Hu;have yJ:=λo=>J3.alloc o;have qY:=J3.newB (.cells #[.int .i64 zk,.int .i64 zn] 101);simp only[World.size_alloc,World.size_setCell] at qY;have hr9:=λo=>(J3.alloc o).row;have hl8:=λo=>(J3.alloc o).st.low;go_wp2_with(at_builtin;have q:=hr9 (.cells #[.int .i64 zk,.int .i64 zn] 101);refine Zgs 31 101 2 16 _ Tryz.underlying31 Tryz.infoVl rfl (by decide) _ _ rfl rfl x.base _ _ _ rfl q ⟨_,0,none⟩ 1 [.int .i64 zk,.int .i64 zn] rfl rfl ?c1 ?c2 ?c3 ?c4 ?c5 ?_)
 case c1=>exact World.news_of_block qY
 case c2=>simp[Value.oneCell']
 case c3=>omega
 case c4=>omega
 case c5=>exact hl8 _
 intro gg Hh w9 Hb Hj hJ;have HG:=Zhd ((yJ (.cells #[.int .i64 zk,.int .i64 zn] 101)).put HKO.out (y:=⟨zk,zn⟩) Hb Hj);clear Hb Hj hJ yJ hr9 hl8 qY J3 Hu s0 s1;have HTE:=Zhd (show [(⟨rk,rn⟩:Vl)]++((Zbd x.p.terms).take (m+1)).map (stW x)=vs++[⟨zk,zn⟩] from by rw[zZ.out,<- List.append_assoc,HVS.out,HSTW.out,if_neg h0,HZV.out]);go_wp2_with fail;go_roundw
 case rel=>first|exact⟨m+1,_,_,_,by go_num,by omega,by rw[HTE.out];exact HG.out⟩|((repeat apply Exists.intro);refine⟨?_,rfl⟩;exact⟨m+1,_,_,_,by go_num,by omega,by rw[HTE.out];exact HG.out⟩)
 simp[intOf];omega):p:=h
theorem stW_take(x:WdW)(l:List Ex)(m:Nat)(h:m<l.length):(l.take (m+1)).map (stW x)=(l.take m).map (stW x)++[stW x l[m]]:=by
 rw[List.take_succ_eq_append_getElem h,List.map_append];rfl
theorem stateOf_any(H:Kn)(p:Pr)(vi vo vl va vc:Value)(hp:PrP H p vi vo vl va vc)(J0:(Za2 p).1=0){ks:Env Int}(hks:Zao Env.none p.vars=some ks){ord:List Nat}(ho:Za5 p=.ok ord)(J5:p.fl.length<=400/\Ex.partsL p.terms<=4000/\p.ins.length<=1000)(zE:p.outs.length<=1000000)
  (ins:List (List Vl)) (vin:Value) (JN:ins.length<=1000) (hi:InsV H ins vin) (hr:∀l∈ins,Zas p.ins l l.length=true) (nb:Bool) (ni:Int) (qI : -128<=ni/\ni<=127) (w:World) (hH:H.In w):
  Calls Tryz.prog 35 #[.agg #[vi,vo,vl,va,vc],vin,.bool nb,.int .i64 ni] w λr w'=>∃v,r=.returned v/\VlsV (Zb3 w.heap.size w') (tv (decide (ins.length=0)) :: memS ⟨ks,Zac p,getI (Zah p),nb,ni⟩ (cdOf p ord) (Zba ⟨ks,Zac p,getI (Zah p),nb,ni⟩ (Zab 0 p.terms)) (λi=>ins.getD i []) ins.length) v/\Ybw w w':=by
 have HNW:=Zhd (λ(wz:World) (hz:H.In wz)=>Zj5 H p vi vo vl va vc hp J0 hks ho J5 zE ins vin JN hi hr nb ni qI wz hz);have htf:=Zfa hks ho;have HHP:=Zhd hp;obtain⟨h1,h2,h3,h4,h5⟩:=hp;obtain⟨ai,ci,ao,co,al,cl,aa,ca,ac,cc,rfl,rfl,rfl,rfl,rfl⟩:=Ypo h1.len h2.len h3.len h4.len h5.len;obtain⟨an,cn,rfl⟩:=hi.len;clear h1 h2 h3 h4 h5 hi hr;have Hg:=(Below.refl w.heap.size w).alloc Ylr (.cells (Yq5 p ai ao al aa ac ci co cl ca cc) 27);have kT:=heap_alloc_new w (.cells (Yq5 p ai ao al aa ac ci co cl ca cc) 27);have xU:=hH.below Hg;have hxl:w.heap.size<(w.alloc (.cells (Yq5 p ai ao al aa ac ci co cl ca cc) 27)).heap.size:=by simp
 go_enter Tryz.func35,Tryz.ntmps35;go_wp2_with fail;refine(HNW.out _ xU).mono ?_;rintro r w2 ⟨x,K,rfl,⟨rfl,rfl,rfl,rfl,rfl,rfl⟩,hP,J1,hs,He,⟨hxB,hxD,hxbase⟩,Hm⟩;have vX:=Hg.trans (Hm.mono Hg.size);have zw:=(Hm.block _ hxl).trans kT;have ka:x.B<x.base/\x.D<x.base:=hP.bd.2;obtain⟨rv,hrv⟩:∃rv,rv=tv (decide (x.ins.length=0)):=⟨_,rfl⟩;have HLO:=Zhd (show w.heap.size<=x.B/\w.heap.size<=x.D from⟨by omega,by omega⟩);have Qh:=Zhd (state_wd hP);have HPP:=Zhd hP;have HKB:=Zhd (show ∀g,x.base<=g->∀cs fr,K g≠some (.cells cs 101 fr) from λg hg cs fr e=>by rw[hs.isin.isNone (by omega)] at e;cases e);have jP:=Zhd J1;have HHS:=Zhd hs;have Jh:=Zhd vX;have HTF:=Zhd htf;have HRM:=Zhd (λ(wz:World) (hz:K.In wz)=>remAll_any K x.p _ _ _ _ _ (HHP.out.le He) htf (by omega) wz hz);clear hP J1 hs vX Hm Hg xU He HNW htf kT hxbase hxB hxD;have cP:=λj=>show w2.cell? ⟨w.heap.size,j,none⟩=((Yq5 x.p ai ao al aa ac ci co cl ca cc):Array Value)[j]? from by simp[World.cell?,zw]
 have p0:w2.cell? ⟨w.heap.size,0,none⟩=some (.slice ai x.p.ins.length ci):=cP 0;have p1:w2.cell? ⟨w.heap.size,1,none⟩=some (.slice ao x.p.outs.length co):=cP 1;have p2:w2.cell? ⟨w.heap.size,2,none⟩=some (.slice al x.p.fl.length cl):=cP 2;have p3:w2.cell? ⟨w.heap.size,3,none⟩=some (.slice aa x.p.as.length ca):=cP 3;have p4:w2.cell? ⟨w.heap.size,4,none⟩=some (.slice ac x.p.cs.length cc):=cP 4;obtain⟨⟨rk,rn⟩,hrk⟩:∃z,tv (decide (x.ins.length=0))=z:=⟨_,rfl⟩;have HRK:=Zhd hrk;have gH:=Zhd (λwz=>Zdw (decide (x.ins.length=0)) wz);rw[hrk] at gH;clear hrk hrv cP;have hzq:((x.ins.length:Int)==0)=decide (x.ins.length=0):=by
  rw[Bool.beq_eq_decide_eq]
  congr 1
  simp
 obtain⟨zb,hzb⟩:∃zb,decide (x.ins.length=0)=zb:=⟨_,rfl⟩;have HZB:=Zhd hzb;rw[hzb] at gH hzq;clear hzb;go_wp2_with fail;refine(gH.out _).mono ?_;rintro r w3 ⟨rfl,Jg⟩;have xy:=Jh.out.trans (Jg.mono Jh.out.size);have hs3:=HHS.out.below Jg;have hP3:=(Jg.block _ (Zlt zw)).trans zw;have jw:=(Below.refl w3.heap.size w3).alloc Ylr (.cells #[.int .i64 rk,.int .i64 rn] 101);have Jd:=World.ownsRow_lit (base:=x.base) (e:=101) (size:=2) w3 #[.int .i64 rk,.int .i64 rn] 1 (by have:=hs3.low;omega) (by decide) rfl;have xv:OwS x K w (w3.alloc (.cells #[.int .i64 rk,.int .i64 rn] 101)) (List.replicate x.ins.length false) (Ys0) [] (.slice (some ⟨w3.heap.size,0,none⟩) 1 1) [⟨rk,rn⟩]:=⟨hs3.below jw,Jd,xy.trans (jw.mono xy.size)⟩;have hP4:=(jw.block _ (Zlt hP3)).trans hP3;have cP:=λj=>show(w3.alloc (.cells #[.int .i64 rk,.int .i64 rn] 101)).cell? ⟨w.heap.size,j,none⟩=((Yq5 x.p ai ao al aa ac ci co cl ca cc):Array Value)[j]? from by simp only[World.cell?,hP4];rfl
 clear p0 p1 p2 p3 p4;have p0:(w3.alloc (.cells #[.int .i64 rk,.int .i64 rn] 101)).cell? ⟨w.heap.size,0,none⟩=some (.slice ai x.p.ins.length ci):=cP 0;have p1:(w3.alloc (.cells #[.int .i64 rk,.int .i64 rn] 101)).cell? ⟨w.heap.size,1,none⟩=some (.slice ao x.p.outs.length co):=cP 1;have p2:(w3.alloc (.cells #[.int .i64 rk,.int .i64 rn] 101)).cell? ⟨w.heap.size,2,none⟩=some (.slice al x.p.fl.length cl):=cP 2;have p3:(w3.alloc (.cells #[.int .i64 rk,.int .i64 rn] 101)).cell? ⟨w.heap.size,3,none⟩=some (.slice aa x.p.as.length ca):=cP 3;have p4:(w3.alloc (.cells #[.int .i64 rk,.int .i64 rn] 101)).cell? ⟨w.heap.size,4,none⟩=some (.slice ac x.p.cs.length cc):=cP 4;clear cP zw hP3 hP4 Jg jw Jd xy hs3 HHS;go_wp2_with fail;refine(HRM.out _ xv.st.isin).mono ?_;rintro r w5 ⟨vl5,K2,rfl,hv5,hst5,hty5⟩;obtain⟨a5,c5,rfl⟩:=hv5.len;have jA:KnW x K2:=⟨by rw[hst5.fresh _ (by have:=(Zlt xv.st.box);omega)];exact jP.out.kn.b,by rw[hst5.fresh _ (by have:=(Zlt xv.st.trap);omega)];exact jP.out.kn.d,λg cs fr hg e=>by
  rcases hty5 g _ e with h|⟨xW,h⟩
  .exact jP.out.kn.r g cs fr hg h
  cases h⟩
 have Ja:=jP.out.le hst5.le jA;have HKO:=Zhd (show OwK x K2 w.heap.size from⟨ka,HLO.out,λg cs fr hg e=>by
  rcases hty5 g _ e with h|⟨xW,h⟩
  .exact absurd h (HKB.out g hg cs fr)
  cases h⟩)
 have hOS5:OwS x K2 w w5 (List.replicate x.ins.length false) (Ys0) [] (.slice (some ⟨w3.heap.size,0,none⟩) 1 1) ([(⟨rk,rn⟩:Vl)]++((Zbd x.p.terms).take 0).map (stW x)):=⟨(xv.st.below hst5.below).kn hst5.isin,Za1 xv.row hst5.below,xv.below.trans (hst5.below.mono xv.below.size)⟩;have HOS:=Zhd hOS5;have HV5:=Zhd hv5;have HREM:=Zhd (WdP.rem HPP.out);have HVR:=Zhd Ja.vars;have HOK2:=Zhd Ja;have hrl:=Zeo x.p.terms;have hpz:=HPP.out.sz;have zG:ksOf (Zdc x.p)=x.ks:=(Zhg (V:=Zdc x.p) (by rw[<- HPP.out.hks];unfold Zdc Pr.vars;rw[List.map_append,List.map_map];rfl)).symm;obtain⟨avv,cvv,hvve⟩:=Ja.vars.len;have HVVE:=Zhd hvve;clear xv hOS5 hv5 hst5 hty5 jA Ja p0 p1 p2 p3 p4 hvve jP HKB;go_wp2_with fail;go_loopw[10,12] (λuo z wr=>∃(m:Nat) (T1:List Bool) (u1:Value) (Hz:List KE),z=.int .i64 m/\m<=(Zbd x.p.terms).length/\OwS x K2 w wr T1 u1 Hz uo ([(⟨rk,rn⟩:Vl)]++((Zbd x.p.terms).take m).map (stW x))) (λ_ z _=>(Zbd x.p.terms).length - (intOf z).toNat)
 case atStart=>exact⟨0,_,_,_,rfl,Nat.zero_le _,HOS.out⟩
 obtain⟨m,T1,u1,Hz,rfl,hm,hS⟩:=hrel;obtain⟨au,cu,J9,_⟩:=Zar hS.row;subst J9;by_cases JO:m<(Zbd x.p.terms).length
 .obtain⟨b,off,ax,cx,he5,c0,c1,c2,c3,hx⟩:=ExsV.at HV5.out JO;subst he5;have hxp:=HREM.out _ (Ymm JO);have zZ:=Zhd (stW_take x (Zbd x.p.terms) m JO);have QE:=Zhd (λ(wz:World) (hz:K2.In wz)=>Zii K2 (Zdc x.p) x.vvr HVR.out (by simp[Zdc];omega) _ _ hx (by have:=hxp.parts;omega) (by rw[zG];exact hxp.form) wz hz);rw[zG] at QE;have HK12:=Zhd ((kind_two (Zgq _ _ _ HPP.out.hks (λs k h=>by simp[Env.none] at h)) (Zbd x.p.terms)[m]).resolve_left hxp.kind);have HT:=Zhd (λ(hi:x.ins.length - 1<x.ins.length) w T u kl (h:WdS x K2 w T u kl)=>(world_all HPP.out _ hi).1 _ hxp K2 _ HOK2.out hx w T u kl h);have yh:((Zbd x.p.terms).take m).length<=4000:=by rw[List.length_take];omega
  have zq:([(⟨rk,rn⟩:Vl)]++((Zbd x.p.terms).take m).map (stW x)).length<=4001:=by rw[List.length_append,List.length_map,List.length_singleton];omega
  have HSTW:=Zhd (show stW x (Zbd x.p.terms)[m]=if x.ins.length=0 then nilV x.nb x.ni (Zai x.ks (Zbd x.p.terms)[m]) else x.V (Zbd x.p.terms)[m] (x.ins.length - 1) from rfl);generalize (Zbd x.p.terms)[m]=y at *;generalize hvls : [(⟨rk,rn⟩:Vl)]++((Zbd x.p.terms).take m).map (stW x)=vs at *;have HVS:=Zhd hvls;obtain⟨⟨nk,nn⟩,hnv⟩:∃z,nilV x.nb x.ni (Zai x.ks y)=z:=⟨_,rfl⟩;have gL:=Zhd hnv;have JR:=Zhd (λ(wz:World) (T u kl) (h:WdS x K2 wz T u kl)=>none_any h _ HK12.out);rw[hnv] at JR;have J2:=hS.next ((Below.refl _ _).drew);have kt:=hS.st.low;have hRl:=hS.row.lt;clear hvls hnv hx hxp yh;go_wp2_with fail;refine Zae (λwz=>WdS x K2 wz T1 u1 Hz) (λ_=>True) 99 (by kernel_rfl) ?_;refine Go.w3 0 ?_
  iterate 9 ((first|(refine tk3 (v:=?_) rfl J2.st Ztr ?hy ?_;(case hy=>intro w Hi;have zs0:=Hi.isin.cell c0;have zs1:=Hi.isin.cell c1;have zs2:=Hi.isin.cell c2;have zs3:=Hi.isin.cell c3;obtain⟨z0,z1,z2,z3,z4,z5,z6,z7,z8,z9,z10,z11⟩:=Hi.cs;go_simp<;>with_reducible rfl))|refine sk3 rfl J2.st Ztr ?_|refine no3 ?_);refine Zss ?_)
  refine Go.w3e ?_;have jC:wr.heap.size<=wr.drew.heap.size:=Nat.le_refl _;have J3:=J2;refine Zcj (i:=9) (j:=11) (o:=_) (o':=_) (by kernel_rfl) rfl rfl (λK_ hK=>?_) (λK_ hK=>?_)
  .skip;go_simp;go_at_call 61;refine(QE.out _ J3.st.isin).mono ?_;rintro r0 w6 ⟨rfl,JX⟩;have J3:=J3.next JX;have jC:=Nat.le_trans jC JX.size;refine hK.out _ _ J3.st Ztr ?_;clear hK K_
   try simp only[tkS]
   refine Zcj (i:=10) (j:=11) (o:=_) (o':=_) (by kernel_rfl) rfl rfl (λK_ hK=>?_) (λK_ hK=>?_)
   .skip;go_simp;go_at_call 60;refine(JR.out _ _ _ _ J3.st).mono ?_;rintro r0 w7 ⟨rfl,zY⟩;have J3:=J3.next zY;have jC:=Nat.le_trans jC zY.size;refine hK.out _ _ J3.st Ztr ?_;clear hK K_
    try simp only[tkS]
    refine Zwo 11 rfl λK_ hK=>?_;have hS9:=J3.next ((Below.refl _ _).alloc Ylr (.cells #[.int .i64 nk,.int .i64 nn] 101));have hb9:=heap_alloc_new w7 (.cells #[.int .i64 nk,.int .i64 nn] 101);go_simp;have J3:=J3.next ((Below.refl _ _).alloc Ylr (.cells Yo2 101));have Hu:=heap_alloc_new w7 (.cells Yo2 101);have Ji:=jC;have jC:=Nat.le_trans jC (Nat.le_of_lt (Zlt Hu));refine hK.out _ _ J3.st Ztr ?_;clear hK K_
    try simp only[tkS]
    refine Zwo 12 rfl λK_ hK=>?_;go_simp;have J3:=hS9;have Hu:=hb9;exact mSto1
   skip;go_simp;have J3:=J3.next ((Below.refl _ _).alloc Ylr (.cells Yo2 101));have Hu:=heap_alloc_new w6 (.cells Yo2 101);have Ji:=jC;have jC:=Nat.le_trans jC (Nat.le_of_lt (Zlt Hu));exact mSto2
  skip;go_simp;have J3:=J3.next ((Below.refl _ _).alloc Ylr (.cells Yo2 101));have Hu:=heap_alloc_new wr.drew (.cells Yo2 101);have Ji:=jC;have jC:=Nat.le_trans jC (Nat.le_of_lt (Zlt Hu));have Hu:(wr.drew.alloc (.cells Yo2 101)).heap[wr.heap.size]?=some (.cells Yo2 101 (0,0)):=Hu;have Ji:=Nat.le_refl wr.heap.size;refine hK.out _ _ J3.st Ztr ?_;clear hK K_
  try simp only[tkS]
  refine Zwo 9 rfl λK_ hK=>?_;go_simp;go_at_call 61;refine(QE.out _ J3.st.isin).mono ?_;rintro r0 w6 ⟨rfl,JX⟩;have J3:=J3.next JX;have Hu:=(JX.block _ (Zlt Hu)).trans Hu;have jC:=Nat.le_trans jC JX.size;exact mSto2
 obtain rfl:m=(Zbd x.p.terms).length:=by omega
 rw[List.take_length] at hS ⊢;have HVV:=Zhd (hS.told HKO.out);go_wp2_with fail;go_ret;exact⟨_,rfl,by
  show VlsV (Zb3 w.heap.size wr) (tv (decide (x.ins.length=0)) :: memS x.R (cdOf x.p x.ord) (Zba x.R (Zab 0 x.p.terms)) x.inp x.ins.length) _;rw[Qh.out,HRK.out];exact(HVV.out:VlsV (Zb3 w.heap.size wr) ([(⟨rk,rn⟩:Vl)]++(Zbd x.p.terms).map (stW x)) _),hS.below⟩
end Go.Proofs.YtafapnolamcdmaaGreatDoor
