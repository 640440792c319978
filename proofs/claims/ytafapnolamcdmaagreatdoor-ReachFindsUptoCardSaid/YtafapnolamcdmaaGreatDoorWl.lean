/- Walks: (*lustrumref2.World).TickAt. -/
import Derived.Test.YtafapnolamcdmaaGreatDoorWi
set_option linter.all false
namespace Go.Proofs.YtafapnolamcdmaaGreatDoor
set_option maxRecDepth 100000
set_option maxHeartbeats 16000000
open Go.RowKit Mx
theorem mWl3{p:Prop}(h:p:=by
 refine hK.out _ _ (⟨_,_,_,J3⟩) Ztr ?_;clear hK K_
 try simp only[tkS]
 refine Zwo 15 rfl λK_ hK=>?_;go_simp;go_at_call 65;refine(HFL.out _ _ _ _ J3.n.st).mono ?_;rintro r0 w5 ⟨T5,u5,kl5,rfl,hM⟩;have J3:=J3.later hM hrk;have jC:=Nat.le_trans jC hM.gr.size;have Hu:=hM.gr.heap Hu (by omega) (by omega) (by decide);refine hK.out _ _ (⟨_,_,_,J3⟩) Ztr ?_;clear hK K_
 try simp only[tkS]
 refine Zwo 17 rfl λK_ hK=>?_;obtain⟨q0,q1,f0,f1,_⟩:=Zal Hu;have J3:=JY.box J3 Ji Hu (.int .i64 zk) (.int .i64 zn);have Hu:=Zff Hu (.int .i64 zk) (.int .i64 zn);go_simp;exact mWl2):p:=h
theorem mWl2{p:Prop}(h:p:=by
 refine hK.out _ _ (⟨_,_,_,J3⟩) Ztr ?_;clear hK K_
 try simp only[tkS]
 refine Zwd ?_;obtain⟨s0,s1,_,_,_⟩:=Zal Hu;obtain⟨c0,_,_,_,c5⟩:=J3.cellsA;have c5:=c5 0;have yJ:=λo=>J3.alloc o;have qY:=J3.newB (.cells #[.int .i64 zk,.int .i64 zn] 101);simp only[World.size_alloc,World.size_setCell] at qY;have hr9:=λo=>(J3.alloc o).o;have hl9:=λo=>Nat.succ_le_of_lt (Array.getElem?_eq_some_iff.1 (J3.alloc o).a).1;go_wp2_with(at_builtin;have q:=hr9 (.cells #[.int .i64 zk,.int .i64 zn] 101);refine Zgs 31 101 2 16 _ Tryz.underlying31 Tryz.infoVl rfl (by decide) _ _ rfl rfl (A+1) _ _ _ rfl q ⟨_,0,none⟩ 1 [.int .i64 zk,.int .i64 zn] rfl rfl ?c1 ?c2 ?c3 ?c4 ?c5 ?_)
 case c1=>exact World.news_of_block qY
 case c2=>simp[Value.oneCell']
 case c3=>omega
 case c4=>omega
 case c5=>exact hl9 _
 intro gg Hh w7 Hb Hj hJ;have hG:=(yJ (.cells #[.int .i64 zk,.int .i64 zn] 101)).putO (y:=⟨zk,zn⟩) Hb Hj;have g3:=((yJ (.cells #[.int .i64 zk,.int .i64 zn] 101)).grown (hr9 (.cells #[.int .i64 zk,.int .i64 zn] 101)) (by decide) Hj).2.2.trans (yJ (.cells #[.int .i64 zk,.int .i64 zn] 101)).a;obtain⟨y0,_,_,_,y4,_,_,_,_⟩:=Zec g3;have HG:=Zhd hG;clear hG g3 Hb Hj hJ yJ hr9 hl9;go_wp2_with fail;go_roundw
 case rel=>exact⟨m+1,_,_,_,_,by go_num,by omega,by rw[gh.out];exact HG.out⟩
 simp[intOf];omega):p:=h
theorem mWl1{p:Prop}(h:p:=by
 intro w Hi;obtain⟨T9,u9,kl9,Hi⟩:=Hi;obtain⟨z0,z1,z2,z3,z4,z5,z6,z7,z8,z9,z10,z11⟩:=Hi.n.st.cs;rw[zN.out] at z1;have zs:=Hi.n.st.isin.cell hsc;go_simp<;>with_reducible rfl):p:=h
def TickC(x:WdW)(i:Nat):Prop:=∀(K:Kn),WdOk x K->∀(w:World) (T:List Bool) (u:Value) (kl:List KE),WdS x K w T u kl->
 Calls Tryz.prog 37 #[ptrV x.B,.int .i64 i] w λret w'=>∃T' u' kl' ov cv,ret=.returned (.agg #[ov,.bool (Ze8 x.R x.inp x.fv x.p i).asrt,.bool (Ze8 x.R x.inp x.fv x.p i).trap,cv])/\WdN x K i (x.p.fl.length+1) w T kl w' T' u' kl'/\VlsV (Zbx x w.heap.size w') (Ze8 x.R x.inp x.fv x.p i).out ov/\BlsV (Zbx x w.heap.size w') (Ze8 x.R x.inp x.fv x.p i).checks cv
theorem all_take(f:Ex->Bool)(l:List Ex)(m:Nat)(h:m<l.length):(l.take (m+1)).all f=((l.take m).all f&&f l[m]):=by
 rw[List.take_succ_eq_append_getElem h,List.all_append];simp
theorem outs_flow{x:WdW}(hp:WdP x)(s:ByteArray)(hs:s∈x.p.outs):∃k,∃h:k<x.p.fl.length,x.p.fl[k].name=s/\getI (Zah x.p) s=(k:Int)/\fIdx x.p s=some k:=by
 have J0:=(Zbg hp.ho).1;have Hn:Zce (x.p.fl.map (·.name)) [] x.p.outs=true:=by
  unfold Zak at J0;rw[hp.hks] at J0;dsimp only at J0
  split at J0
  .cases J0
  rename_i h;simpa using h
 have h1:=Zg8 _ _ _ Hn s hs;obtain⟨k,hk,e⟩:=List.mem_iff_getElem.1 h1;have qZ:k<x.p.fl.length:=by simpa using hk
 have e':x.p.fl[k].name=s:=by simpa using e
 refine⟨k,qZ,e',?_,?_⟩
 .rw [<- e'];exact Zgi J0 k qZ
 rw[<- e'];exact Zi2 (Zhb J0) k qZ
theorem map_take1{α β:Type}(f:α->β)(l:List α)(m:Nat)(h:m<l.length):(l.take (m+1)).map f=(l.take m).map f++[f l[m]]:=by
 rw[List.take_succ_eq_append_getElem h,List.map_append];rfl
theorem put4_own{W:World}{R base:Nat}{T:TypeId}{k n:Nat}{v:Value}{xs:List Value}(h:W.ownsRow base T k v n xs)(hR:R<base)(a b c d:Value):(put4 W R a b c d).ownsRow base T k v n xs:=
 Zam (Zam (Zam (Zam h (a:=⟨R,0,none⟩) (Zbj h hR) a) (a:=⟨R,1,none⟩) (Zbj h hR) b) (a:=⟨R,2,none⟩) (Zbj h hR) c) (a:=⟨R,3,none⟩) (Zbj h hR) d
theorem TaS.done{x:WdW}{K:Kn}{i:Nat}{w:World}{T:List Bool}{kl:List KE}{A:Nat}{T1:List Bool}{u1:Value}{Hz:List KE}{uo:Value}{outs:List Vl}{asr:Bool}{uc:Value}{J8:List Bool}{wr:World}(h:TaS x K i w T kl w.heap.size A T1 u1 Hz uo outs asr uc J8 wr)(JS:K w.heap.size=none):
  WdN x K i (x.p.fl.length+1) w T kl (put4 wr w.heap.size uo (.bool asr) (.bool false) uc) T1 u1 Hz/\VlsV (Zbx x w.heap.size (put4 wr w.heap.size uo (.bool asr) (.bool false) uc)) outs uo/\BlsV (Zbx x w.heap.size (put4 wr w.heap.size uo (.bool asr) (.bool false) uc)) J8 uc:=by
 obtain⟨l1,l2,l3,l4⟩:=h.lt;exact⟨h.n.setOwnR l2 l3 h.r JS _ _ _ _,vls_clean (put4_own h.o (by omega) _ _ _ _) (by omega) (by omega) (by omega),bls_clean (put4_own h.c (by omega) _ _ _ _) (by omega) (by omega) (by omega)⟩
theorem asr_term(p:Pr):∀e∈p.as,e∈p.terms:=λe he=>by
 unfold Pr.terms;exact List.mem_append_left _ (List.mem_append_right _ he)
theorem chk_term(p:Pr):∀e∈p.cs,e∈p.terms:=λe he=>by
 unfold Pr.terms;exact List.mem_append_right _ he
theorem wtick_any{x:WdW}(hp:WdP x){i:Nat}(hi:i<x.ins.length):TickC x i:=by
 intro K J1 w T u kl hs;have ko:x.B<w.heap.size/\x.D<w.heap.size:=by have:=hp.bd;have:=hs.low;omega
 have Hg:=(Below.refl w.heap.size w).alloc Ylr (.cells #[Ys0,.bool false,.bool false,Ys0] ftT);have Jr:=heap_alloc_new w (.cells #[Ys0,.bool false,.bool false,Ys0] ftT);have zh:=(hs.refl i (x.p.fl.length+1)).below Hg;have zV:x.p.terms.length<=4000:=by have:=Zbp x.p.terms;have:=hp.sz.2.1;omega
 have hlt0:w.heap.size<(w.alloc (.cells #[Ys0,.bool false,.bool false,Ys0] ftT)).heap.size:=by simp
 obtain⟨z0,z1,z2,z3,z4,_⟩:=zh.st.cs;have HTM:=Zhd (λ(wz:World) (hz:K.In wz)=>Zhz K x.p x.vi x.vo x.vl x.va x.vc J1.pr (by omega) wz hz);have HN0:=Zhd zh;have qp:=Zhd Jr;have HWA:=Zhd (λe he=>wall_any hp hi e he);have HWT:=Zhd (world_all hp i hi);have jp:x.ins.length<=1000:=hp.sz.2.2.2;have hfl4:x.p.fl.length<=400:=hp.sz.1;clear Hg Jr zh;go_enter Tryz.func37,Tryz.ntmps37;go_wp2_with fail;refine(HTM.out _ HN0.out.st.isin).mono ?_;rintro r0 w1 ⟨vt,K3,rfl,hvt,Hy,kJ⟩;have hwl:(w.alloc (.cells #[Ys0,.bool false,.bool false,Ys0] ftT)).heap.size=w.heap.size+1:=by simp
 have hkn3:KnW x K3:=⟨by rw[Hy.fresh _ (by omega)];exact J1.kn.b,by rw[Hy.fresh _ (by omega)];exact J1.kn.d,λg cs fr hg e=>by
  rcases kJ g _ e with h|⟨xW,h⟩
  .exact J1.kn.r g cs fr hg h
  cases h⟩
 have qW:=J1.le Hy.le hkn3;have hk3:∀g,w.heap.size<=g->(∃cs fr,K3 g=some (.cells cs ftT fr)\/K3 g=some (.cells cs 101 fr)\/K3 g=some (.cells cs 4 fr))->False:=λg hg ⟨cs,fr,h⟩=>by
  rcases h with h|h|h
  all_goals
   rcases kJ g _ h with h2|⟨xW,h2⟩
   .have:=hs.isin.lt h2;omega
   cases h2
 have jM:WdN x K3 i (x.p.fl.length+1) w T kl w1 T u kl:=(HN0.out.below Hy.below).kn Hy.isin;have kD:w1.heap[w.heap.size]?=some (.cells #[Ys0,.bool false,.bool false,Ys0] ftT (0,0)):=(Hy.below.block _ hlt0).trans qp.out;obtain⟨atm,ctm,rfl⟩:=hvt.len;have HVT:=Zhd hvt;have Qj:=Zhd jM;have HR1:=Zhd kD;have JZ:=Zhd Hy.le;have HTRM:=Zhd hp.term;clear kJ hvt jM kD Hy z0 z1 z2 z3 z4 hs;go_wp2_with fail;go_loopw[6] (λz wr=>∃(m:Nat) (T1:List Bool) (u1:Value) (Hz:List KE),z=.int .i64 m/\m<=x.p.terms.length/\WdN x K3 i (x.p.fl.length+1) w T kl wr T1 u1 Hz/\wr.heap[w.heap.size]?=some (.cells #[Ys0,.bool false,.bool false,Ys0] ftT (0,0))/\(Zfo x.R x.inp x.fv (x.p.terms.take m) i=true->T1.getD i false=true)) (λz _=>x.p.terms.length - (intOf z).toNat)
 case atStart=>exact⟨0,T,u,kl,rfl,Nat.zero_le _,Qj.out,HR1.out,λh=>by simp[Zfo] at h⟩
 obtain⟨m,T1,u1,Hz,rfl,hm,hN,hR,h2⟩:=hrel;have H2:=Zhd h2;clear h2;by_cases JO:m<x.p.terms.length
 .obtain⟨b0,o0,ax0,cx0,yp,c0,c1,c2,c3,jh⟩:=HVT.out.at (i:=m) JO;cases yp;have xJ:=Zhd (allTs_take x x.p.terms m JO i);have qq:=Zhd (λw T u kl (h:WdS x K3 w T u kl)=>HWA.out _ (HTRM.out _ (Ymm JO)) K3 _ qW jh w T u kl h);have d0:=hN.st.isin.cell c0;have d1:=hN.st.isin.cell c1;have d2:=hN.st.isin.cell c2;have d3:=hN.st.isin.cell c3;clear jh;generalize x.p.terms[m]=y at *;go_wp2_with fail;refine(qq.out _ _ _ _ hN.st).mono ?_;rintro r0 w2 ⟨rfl,T3,u3,kl3,hM,yt⟩;have yH:=Zhd yt;have HUP:=Zhd hM.up;have hR:=hM.gr.heap hR ko.1 ko.2 (by decide);have hN:=hN.trans hM (.inr ⟨rfl,Nat.le_refl _⟩);clear yt hM;go_wp2_with fail;go_roundw
  case rel=>
   refine⟨m+1,T3,u3,kl3,by go_num,by omega,hN,hR,λh=>?_⟩;rw[xJ.out,Bool.or_eq_true] at h;rcases h with h|h
   .exact HUP.out i (H2.out h)
   exact yH.out h
  simp[intOf];omega
 obtain rfl:m=x.p.terms.length:=by omega
 have JN:i<T1.length:=by rw[hN.st.len];exact hi
 have xL:T1[i]=x.tr i:=by
  have h1:=H2.out;rw[List.take_length] at h1;have h3:=hN.st.mark i;have e:T1.getD i false=T1[i]:=by simp[Ygg,JN]
  rw[e] at h1 h3;have h1:x.tr i=true->T1[i]=true:=h1;cases hc:x.tr i with
  |true=>exact h1 hc
  |false=>
   cases hd:T1[i] with
   |false=>rfl
   |true=>rw[h3 hd] at hc;cases hc
 have v10:wr.cell? ⟨x.B,10,none⟩=some (.slice (some ⟨x.D,0,none⟩) x.ins.length x.ins.length):=by rw[hN.st.cell];rfl
 have vD:wr.cell? ⟨x.D,i,none⟩=some (.bool (x.tr i)):=by rw[<- xL];simp[World.cell?,hN.st.trap,JN]
 clear xL JN;have JS:K3 w.heap.size=none:=by
  cases hk:K3 w.heap.size with
  |none=>rfl
  |some ob=>
   have h1:=hN.st.isin _ ob hk;rw[hR] at h1;cases h1;exact(hk3 _ Ylr ⟨_,_,.inl hk⟩).elim
 have zZ:=Zhd (show Ze8 x.R x.inp x.fv x.p i=if x.tr i then trapT else ⟨x.p.outs.map λs=>x.fv (getI (Zah x.p) s).toNat i,x.p.as.all λe=>decide ((x.V e i).n=1),false,x.p.cs.map λe=>decide ((x.V e i).n=1)⟩ from rfl);cases hti:x.tr i
 all_goals rw[hti] at vD zZ
 rotate_left
 .have HN:=Zhd ((hN.setOwnR ko.1 ko.2 hR JS (Ys0) (.bool false) (.bool true) (Ys0)).kn (JZ.out.inOf (hN.setOwnR ko.1 ko.2 hR JS (Ys0) (.bool false) (.bool true) (Ys0)).st.isin));go_upto_region 7 with(fail)
  obtain⟨_,_,_,_,f0,f1,f2,f3,_⟩:=Zec hR;obtain⟨e0,e1,e2,e3,_⟩:=Zec (Zd8 hR (Ys0) (.bool false) (.bool true) (Ys0));unfold put4 at e0 e1 e2 e3;have E0:=Zhd e0;have E1:=Zhd e1;have E2:=Zhd e2;have E3:=Zhd e3;clear e0 e1 e2 e3;go_wp2_with(guard_target =~ bodyPost _ _ _ _ _ _;have e0:=E0.out;have e1:=E1.out;have e2:=E2.out;have e3:=E3.out;refine bodyPost_ret (v:=.agg #[Ys0,.bool false,.bool true,Ys0]) (by simp[results,Tryz.results37,go_sem,e0,e1,e2,e3]) rfl ?_;exact⟨_,_,_,_,_,by rw[zZ.out];rfl,HN.out,by rw[zZ.out];exact .inl ⟨rfl,none,0,rfl⟩,by rw[zZ.out];exact .inl ⟨rfl,none,0,rfl⟩⟩)
 have JY:TaS x K3 i w T kl w.heap.size wr.heap.size T1 u1 Hz (Ys0) [] true (Ys0) [] (wr.alloc (.cells #[Ys0,.bool true,.bool false,Ys0] ftT)):=
  ⟨hN.alloc _,(Below.heap_alloc wr _ _ (Zlt hR)).trans hR,heap_alloc_new _ _,World.ownsRow_nil _ _ _ _,World.ownsRow_nil _ _ _ _,⟨(Zlt hR),ko.1,ko.2,Nat.le_refl _⟩,hk3⟩
 have hAw:w.heap.size<wr.heap.size:=(Zlt hR);obtain⟨ao,co,vq⟩:=qW.pr.outs.len;obtain⟨aa,ca,hva⟩:=qW.pr.asr.len;obtain⟨ac,cc,hvc⟩:=qW.pr.chk.len;have jF:=Zhd JY;obtain⟨i0,JI,Jt,J6,Ju⟩:=info_parts Tryz.infoVl;obtain⟨i1,qx,vp,zo,zU⟩:=info_parts Tryz.infoBool;have zN:=Zhd vq;have HVA:=Zhd hva;have HVC:=Zhd hvc;have HHP:=Zhd hp;clear JY vq hva hvc;go_upto_region 9 with(fail)
 clear hN hR v10 vD H2 hp;go_wp2_with fail;generalize wr.alloc (.cells #[Ys0,.bool true,.bool false,Ys0] ftT)=W2 at *;generalize wr.heap.size=A at *;go_loopw[8] (λz wr=>∃(m:Nat) (T1:List Bool) (u1:Value) (Hz:List KE) (uo:Value),z=.int .i64 m/\m<=x.p.outs.length/\TaS x K3 i w T kl w.heap.size A T1 u1 Hz uo ((x.p.outs.take m).map λs=>x.fv (getI (Zah x.p) s).toNat i) true (Ys0) [] wr) (λz _=>x.p.outs.length - (intOf z).toNat)
 case atStart=>exact⟨0,_,_,_,_,rfl,Nat.zero_le _,jF.out⟩
 obtain⟨m,T1,u1,Hz,uo,rfl,hm,hS⟩:=hrel;have v1:wr.cell? ⟨x.B,1,none⟩=some (.slice ao x.p.outs.length co):=by rw[hS.n.st.cell];show some x.vo=_;rw[zN.out]
 have HS:=Zhd hS;by_cases JO:m<x.p.outs.length
 .obtain⟨bs,os,has,_,hsc⟩:=SlV.at (zN.out▸qW.pr.outs) JO;subst has;simp only[Nat.mul_one,Nat.add_zero,StrC] at hsc;go_wp2_with fail;obtain⟨k,Hd,jA,hnk,Qu⟩:∃k,∃h:k<x.p.fl.length,x.p.fl[k].name=x.p.outs[m]/\getI (Zah x.p) x.p.outs[m]=(k:Int)/\fIdx x.p x.p.outs[m]=some k:=outs_flow HHP.out _ (Ymm JO);have gh:=Zhd (show(x.p.outs.take (m+1)).map (λs=>x.fv (getI (Zah x.p) s).toNat i)=(x.p.outs.take m).map (λs=>x.fv (getI (Zah x.p) s).toNat i)++[x.fv (getI (Zah x.p) x.p.outs[m]).toNat i] from map_take1 (λs=>x.fv (getI (Zah x.p) s).toNat i) x.p.outs m JO);obtain⟨⟨zk,zn⟩,hz⟩:∃z,x.fv k i=z:=⟨_,rfl⟩;have hmz:x.fv (getI (Zah x.p) x.p.outs[m]).toNat i=⟨zk,zn⟩:=by rw[hnk];exact hz
  have hfint:fInt x.p x.p.outs[m]=(k:Int):=by unfold fInt;rw[Qu]
  rw[hmz] at gh;have HFL:=Zhd (λw T u kl (h:WdS x K3 w T u kl)=>HWT.out.2 k Hd K3 qW w T u kl h);rw[hz] at HFL;have qr:=Zhd (λ(wz:World) (hz:K3.In wz)=>Zhh K3 x.p x.vi x.vo x.vl x.va x.vc qW.pr (by omega) x.p.outs[m] wz hz);rw[hfint,zN.out] at qr;have hrk:x.rk k+1<=x.p.fl.length+1:=by have:=rk_lt HHP.out Hd;omega
  obtain⟨au,cu,J9,_⟩:=Zar hS.o;subst J9;have JY:=hS.below ((Below.refl _ _).drew);have hszr:w.heap.size<wr.heap.size/\A<wr.heap.size:=⟨(Zlt hS.r),(Zlt hS.a)⟩;have hSX:TaE x K3 i w T kl w.heap.size A (.slice au ((x.p.outs.take m).map λs=>x.fv (getI (Zah x.p) s).toNat i).length cu) ((x.p.outs.take m).map λs=>x.fv (getI (Zah x.p) s).toNat i) true (Ys0) [] wr.drew:=⟨_,_,_,JY⟩;clear jA hnk Qu hz hmz hfint hS;generalize x.p.outs[m]=sn at *;generalize hov:((x.p.outs.take m).map λs=>x.fv (getI (Zah x.p) s).toNat i)=ov at *;have hmo:=HHP.out.osz;have gT:ov.length<=2000000:=by have:=HHP.out.osz;rw[<- hov];simp;omega
  clear hov;refine Zae (TaE x K3 i w T kl w.heap.size A (.slice au ov.length cu) ov true (Ys0) []) (λ_=>True) 99 (by kernel_rfl) ?_;refine Go.w3 0 ?_
  iterate 13 ((first|(refine tk3 (v:=?_) rfl hSX Ztr ?hy ?_;(case hy=>exact mWl1))|refine sk3 rfl hSX Ztr ?_|refine no3 ?_);refine Zss ?_)
  refine Go.w3e ?_;refine Go.w3 14 ?_
  iterate 1 ((first|(refine tk3 (v:=?_) rfl hSX Ztr ?hy ?_;(case hy=>exact mWl1))|refine sk3 rfl hSX Ztr ?_|refine no3 ?_);refine Zss ?_)
  refine Go.w3e ?_;have jC:wr.heap.size<=wr.drew.heap.size:=Nat.le_refl _;have J3:=JY;refine Zcj (i:=13) (j:=16) (o:=_) (o':=_) (by kernel_rfl) rfl rfl (λK_ hK=>?_) (λK_ hK=>?_)
  .skip;go_simp;go_at_call 66;refine(qr.out _ J3.n.st.isin).mono ?_;rintro r0 w4 ⟨rfl,jw⟩;have J3:=J3.below jw;have jC:=Nat.le_trans jC jw.size;refine hK.out _ _ (⟨_,_,_,J3⟩) Ztr ?_;clear hK K_
   try simp only[tkS]
   refine Zcj (i:=15) (j:=16) (o:=_) (o':=_) (by kernel_rfl) rfl rfl (λK_ hK=>?_) (λK_ hK=>?_)
   .skip;go_simp;go_at_call 65;refine(HFL.out _ _ _ _ J3.n.st).mono ?_;rintro r0 w5 ⟨T5,u5,kl5,rfl,hM⟩;have J3:=J3.later hM hrk;have jC:=Nat.le_trans jC hM.gr.size;refine hK.out _ _ (⟨_,_,_,J3⟩) Ztr ?_;clear hK K_
    try simp only[tkS]
    refine Zwo 16 rfl λK_ hK=>?_;have hS9:=J3.alloc (.cells #[.int .i64 zk,.int .i64 zn] 101);have hb9:=heap_alloc_new w5 (.cells #[.int .i64 zk,.int .i64 zn] 101);go_simp;have J3:=J3.alloc (.cells Yo2 101);have Hu:=heap_alloc_new w5 (.cells Yo2 101);have Ji:=jC;have jC:=Nat.le_trans jC (Nat.le_of_lt (Zlt Hu));refine hK.out _ _ (⟨_,_,_,J3⟩) Ztr ?_;clear hK K_
    try simp only[tkS]
    refine Zwo 17 rfl λK_ hK=>?_;go_simp;have J3:=hS9;have Hu:=hb9;exact mWl2
   skip;go_simp;have J3:=J3.alloc (.cells Yo2 101);have Hu:=heap_alloc_new w4 (.cells Yo2 101);have Ji:=jC;have jC:=Nat.le_trans jC (Nat.le_of_lt (Zlt Hu));exact mWl3
  skip;go_simp;have J3:=J3.alloc (.cells Yo2 101);have Hu:=heap_alloc_new wr.drew (.cells Yo2 101);have Ji:=jC;have jC:=Nat.le_trans jC (Nat.le_of_lt (Zlt Hu));have Hu:(wr.drew.alloc (.cells Yo2 101)).heap[wr.heap.size]?=some (.cells Yo2 101 (0,0)):=Hu;have Ji:=Nat.le_refl wr.heap.size;refine hK.out _ _ (⟨_,_,_,J3⟩) Ztr ?_;clear hK K_
  try simp only[tkS]
  refine Zwo 13 rfl λK_ hK=>?_;go_simp;go_at_call 66;refine(qr.out _ J3.n.st.isin).mono ?_;rintro r0 w4 ⟨rfl,jw⟩;have J3:=J3.below jw;have jC:=Nat.le_trans jC jw.size;have Hu:=(jw.block _ (Zlt Hu)).trans Hu;exact mWl3
 obtain rfl:m=x.p.outs.length:=by omega
 have kG:=Zhd (show TaS x K3 i w T kl w.heap.size A T1 u1 Hz uo (x.p.outs.map λs=>x.fv (getI (Zah x.p) s).toNat i) true (Ys0) [] wr from by
  have h:=HS.out;rw[List.take_length] at h;exact h)
 obtain⟨OUT,hOUT⟩:∃O,O=x.p.outs.map λs=>x.fv (getI (Zah x.p) s).toNat i:=⟨_,rfl⟩;rw[<- hOUT] at kG zZ;clear HS jF hOUT hm;go_wp2_with fail;clear v1;go_loopw[10] (λz wr=>∃(m:Nat) (T1:List Bool) (u1:Value) (Hz:List KE),z=.int .i64 m/\m<=x.p.as.length/\TaS x K3 i w T kl w.heap.size A T1 u1 Hz uo OUT ((x.p.as.take m).all λe=>decide ((x.V e i).n=1)) (Ys0) [] wr) (λz _=>x.p.as.length - (intOf z).toNat)
 case atStart=>exact⟨0,_,_,_,rfl,Nat.zero_le _,kG.out⟩
 obtain⟨m,T1,u1,Hz,rfl,hm,hS⟩:=hrel;have hal9:x.p.as.length<=x.p.terms.length:=by simp only[Pr.terms,List.length_append];omega
 have v3:wr.cell? ⟨x.B,3,none⟩=some (.slice aa x.p.as.length ca):=by rw[hS.n.st.cell];show some x.va=_;rw[HVA.out]
 by_cases JO:m<x.p.as.length
 .obtain⟨b0,o0,ax0,cx0,yp,c0,c1,c2,c3,jh⟩:=(HVA.out▸qW.pr.asr).at (i:=m) JO;subst yp;have d0:=hS.n.st.isin.cell c0;have d1:=hS.n.st.isin.cell c1;have d2:=hS.n.st.isin.cell c2;have d3:=hS.n.st.isin.cell c3;have yH:=Zhd (all_take (λe=>decide ((x.V e i).n=1)) x.p.as m JO);have qq:=Zhd (λw T u kl (h:WdS x K3 w T u kl)=>HWT.out.1 _ (HTRM.out _ (asr_term _ _ (Ymm JO))) K3 _ qW jh w T u kl h);clear jh c0 c1 c2 c3;generalize x.p.as[m]=y at *;generalize yt:(x.p.as.take m).all (λe=>decide ((x.V e i).n=1))=a at *;clear yt;obtain⟨⟨zk,zn⟩,hz⟩:∃z,x.V y i=z:=⟨_,rfl⟩;rw[hz] at yH qq;clear hz;dsimp only at yH;go_wp2_with fail;refine(qq.out _ _ _ _ hS.n.st).mono ?_;rintro r0 w2 ⟨T3,u3,kl3,rfl,hM,_⟩;have Jw:=(hS.later hM Ylr).alloc (.cells #[.int .i64 zk,.int .i64 zn] 101);obtain⟨s0,s1,_,_,_⟩:=Zal (heap_alloc_new w2 (.cells #[.int .i64 zk,.int .i64 zn] 101));obtain⟨_,c1,_,_,c5⟩:=Jw.cellsA;have c5:=c5 1;have HPA:=Zhd (λb=>Jw.putA b);clear hM hS v3 d0 d1 d2 d3 qq;cases a
  .go_wp2_with fail;go_roundw
   case rel=>exact⟨m+1,_,_,_,by go_num,by omega,by rw[yH.out];exact HPA.out false⟩
   simp[intOf];omega
  have hzd:(zn==1)=decide (zn=1):=Bool.beq_eq_decide_eq _ _;obtain⟨bb,zK⟩:∃bb,(zn==1)=bb:=⟨_,rfl⟩;rw[zK] at hzd;go_wp2_with fail;go_roundw
  case rel=>exact⟨m+1,_,_,_,by go_num,by omega,by rw[yH.out,<- hzd];exact HPA.out bb⟩
  simp[intOf];omega
 obtain rfl:m=x.p.as.length:=by omega
 rw[List.take_length] at hS;obtain⟨ASR,hASR⟩:∃O,O=x.p.as.all λe=>decide ((x.V e i).n=1):=⟨_,rfl⟩;rw[<- hASR] at hS zZ;have HS4:=Zhd hS;clear hS kG hASR hm;go_wp2_with fail;clear v3;go_loopw[12] (λz wr=>∃(m:Nat) (T1:List Bool) (u1:Value) (Hz:List KE) (uc:Value),z=.int .i64 m/\m<=x.p.cs.length/\TaS x K3 i w T kl w.heap.size A T1 u1 Hz uo OUT ASR uc ((x.p.cs.take m).map λe=>decide ((x.V e i).n=1)) wr) (λz _=>x.p.cs.length - (intOf z).toNat)
 case atStart=>exact⟨0,_,_,_,_,rfl,Nat.zero_le _,HS4.out⟩
 obtain⟨m,T1,u1,Hz,uc,rfl,hm,hS⟩:=hrel;have v4:wr.cell? ⟨x.B,4,none⟩=some (.slice ac x.p.cs.length cc):=by rw[hS.n.st.cell];show some x.vc=_;rw[HVC.out]
 by_cases JO:m<x.p.cs.length
 .obtain⟨b0,o0,ax0,cx0,yp,c0,c1,c2,c3,jh⟩:=(HVC.out▸qW.pr.chk).at (i:=m) JO;subst yp;have d0:=hS.n.st.isin.cell c0;have d1:=hS.n.st.isin.cell c1;have d2:=hS.n.st.isin.cell c2;have d3:=hS.n.st.isin.cell c3;have gh:=Zhd (map_take1 (λe=>decide ((x.V e i).n=1)) x.p.cs m JO);have qq:=Zhd (λw T u kl (h:WdS x K3 w T u kl)=>HWT.out.1 _ (HTRM.out _ (chk_term _ _ (Ymm JO))) K3 _ qW jh w T u kl h);have hcl:x.p.cs.length<=x.p.terms.length:=by simp only[Pr.terms,List.length_append];omega
  have hkl9:((x.p.cs.take m).map λe=>decide ((x.V e i).n=1)).length<=4000:=by simp;omega
  clear jh c0 c1 c2 c3;generalize x.p.cs[m]=y at *;generalize (x.p.cs.take m).map (λe=>decide ((x.V e i).n=1))=ks at *;obtain⟨⟨zk,zn⟩,hz⟩:∃z,x.V y i=z:=⟨_,rfl⟩;rw[hz] at gh qq;clear hz;dsimp only at gh;obtain⟨au,cu,J9,_⟩:=Zar hS.c;subst J9;go_wp2_with fail;refine(qq.out _ _ _ _ hS.n.st).mono ?_;rintro r0 w2 ⟨T3,u3,kl3,rfl,hM,_⟩;have Jw:=(hS.later hM Ylr).alloc (.cells #[.int .i64 zk,.int .i64 zn] 101);obtain⟨s0,s1,_,_,_⟩:=Zal (heap_alloc_new w2 (.cells #[.int .i64 zk,.int .i64 zn] 101));obtain⟨_,_,_,c3,c5⟩:=Jw.cellsA;have c5:=c5 3;clear hM hS v4 d0 d1 d2 d3 qq;have yJ:=Jw.alloc (.cells #[.bool (decide (zn=1))] 4);have qY:=World.news_of_block (heap_alloc_new (w2.alloc (.cells #[.int .i64 zk,.int .i64 zn] 101)) (.cells #[.bool (decide (zn=1))] 4));simp only[World.size_alloc] at qY;have hl9:=Nat.succ_le_of_lt (Zlt yJ.a);go_wp2_with(at_builtin;refine Zgs 81 4 1 1 _ Tryz.underlying81 Tryz.infoBool rfl (by decide) _ _ rfl rfl (A+1) _ _ _ rfl yJ.c ⟨_,0,none⟩ 1 [.bool (decide (zn=1))] rfl rfl ?c1 ?c2 ?c3 ?c4 ?c5 ?_)
  case c1=>exact qY
  case c2=>simp[Value.oneCell']
  case c3=>omega
  case c4=>omega
  case c5=>exact hl9
  intro gg Hh w7 Hb Hj hJ;have hG:=yJ.putC (y:=decide (zn=1)) Hb Hj;have g3:=((yJ.grown yJ.c (by decide) Hj).2.2).trans yJ.a;obtain⟨_,_,_,y0,_,_,_,y4,_⟩:=Zec g3;have HG:=Zhd hG;clear hG g3 Hb Hj hJ yJ hl9 qY;go_wp2_with fail;go_roundw
  case rel=>exact⟨m+1,_,_,_,_,by go_num,by omega,by rw[gh.out];exact HG.out⟩
  simp[intOf];omega
 obtain rfl:m=x.p.cs.length:=by omega
 rw[List.take_length] at hS;obtain⟨CKS,hCKS⟩:∃O,O=x.p.cs.map λe=>decide ((x.V e i).n=1):=⟨_,rfl⟩;rw[<- hCKS] at hS zZ;obtain⟨au,cu,J9,_⟩:=Zar hS.o;subst J9;obtain⟨av,cv,J9,_⟩:=Zar hS.c;subst J9;obtain⟨HF1,QF,HF3⟩:=hS.done JS;have HF1:=Zhd (HF1.kn (JZ.out.inOf HF1.st.isin));have QF:=Zhd QF;have HF3:=Zhd HF3;obtain⟨a0,a1,a2,a3,_⟩:=hS.cellsA;have hR:=hS.r;clear hS HS4 hm hCKS;go_upto_region 24 with(fail)
 obtain⟨_,_,_,_,f0,f1,f2,f3,_⟩:=Zec hR;obtain⟨e0,e1,e2,e3,_⟩:=Zec (Zd8 hR (.slice au OUT.length cu) (.bool ASR) (.bool false) (.slice av CKS.length cv));unfold put4 at e0 e1 e2 e3;have E0:=Zhd e0;have E1:=Zhd e1;have E2:=Zhd e2;have E3:=Zhd e3;clear e0 e1 e2 e3;go_wp2_with(guard_target =~ bodyPost _ _ _ _ _ _;have e0:=E0.out;have e1:=E1.out;have e2:=E2.out;have e3:=E3.out;refine bodyPost_ret (v:=.agg #[.slice au OUT.length cu,.bool ASR,.bool false,.slice av CKS.length cv]) (by simp[results,Tryz.results37,go_sem,e0,e1,e2,e3]) rfl ?_;exact⟨_,_,_,_,_,by rw[zZ.out];rfl,HF1.out,by rw[zZ.out];exact QF.out,by rw[zZ.out];exact HF3.out⟩)
end Go.Proofs.YtafapnolamcdmaaGreatDoor
