/- Walks: flow.instant.eval. -/
import Derived.Test.YtafapnolamcdmaaGreatDoorVa
import Derived.Test.YtafapnolamcdmaaGreatDoorBs
set_option linter.all false
namespace Go.Proofs.YtafapnolamcdmaaGreatDoor
set_option maxRecDepth 100000
set_option maxHeartbeats 16000000
open Go.RowKit Mx
theorem mEv3{p:Prop}(h:p:=by
 go_wp2_with fail;refine HVAL.out.mono ?_;rintro ret w3 ⟨rfl,JP,hi3⟩;have hRw:=HS.out.rlt;have hI3:w3.heap[I]?=_:=hi3;have qB:=(JP.block w.heap.size hRw (by intro e;cases e;omega)).trans HS.out.res;have hq3:w3.heap[q]?=_:=(HS.out.isin.grown JP (λg hg=>by cases hg;exact HS.out.noI)) _ _ hq;have hV:Ybw w3 (w3.alloc (.cells #[.int .i64 xk,.int .i64 xn] 101)):=Yba;have hI4:=(hV.block I (Zlt hI3)).trans hI3;have hR4:=(hV.block w.heap.size (Zlt qB)).trans qB;have hq4:=(hV.block q (Zlt hq3)).trans hq3;have Ql:=Zhd (show w.grownBy w3 (some I) from HS.out.gr.trans JP);have hw3:w.heap.size<w3.heap.size:=(Zlt qB);have x1:(w3.alloc (.cells #[.int .i64 xk,.int .i64 xn] 101)).cell? ⟨I,1,none⟩=some (.bool R.nb):=by simp[World.cell?,hI4,Zcu]
 have x2:(w3.alloc (.cells #[.int .i64 xk,.int .i64 xn] 101)).cell? ⟨I,2,none⟩=some (.int .i64 R.ni):=by simp[World.cell?,hI4,Zcu]
 have x3:(w3.alloc (.cells #[.int .i64 xk,.int .i64 xn] 101)).cell? ⟨I,3,none⟩=some (.bool r.first):=by simp[World.cell?,hI4,Zcu]
 have x5:(w3.alloc (.cells #[.int .i64 xk,.int .i64 xn] 101)).cell? ⟨q,5,none⟩=some (.int .i64 (Zai R.ks (.mk o n s l))):=by simp[World.cell?,hq4,Za3]
 have x6:(w3.alloc (.cells #[.int .i64 xk,.int .i64 xn] 101)).cell? ⟨q,6,none⟩=some (.bool (decide (0<lateOf R.lt (.mk o n s l)))):=by simp[World.cell?,hq4,Za3]
 have HR3:=Zhd qB;have HI3:=Zhd hI3;have hIw3:I<w3.heap.size:=(Zlt hI3);clear hI3 qB hq3 hi3 JP hq4;have HG4:=Zhd (Zfx Ql.out hV);clear hV;cases kQ:r.first
 .rw [kQ] at x3;have HLT:=Zhd (show(0:Nat)=0 from rfl);have HG:=Ql;have HIQ:=HI3;have hRq:=hR4;obtain⟨q0,q1,f0,f1,kt⟩:=Zal hRq;obtain⟨e0,e1,e2,e3⟩:=Zbb hRq (.int .i64 xk) (.int .i64 xn);have E0:=Zhd e0;have E1:=Zhd e1;clear e0 e1 e2 e3;obtain⟨y0,y1,yf0,yf1,_⟩:=Zal HR3.out;obtain⟨d0,d1,d2,d3⟩:=Zbb HR3.out (.int .i64 xk) (.int .i64 xn);have D0:=Zhd d0;have D1:=Zhd d1;have D2:=Zhd d2;have D3:=Zhd d3;clear hR4 hI4 d0 d1 d2 d3;go_wp2_with fail;have e0:=E0.out;have e1:=E1.out;have d0:=D0.out;have d1:=D1.out;have d2:=D2.out;have d3:=D3.out;refine bodyPost_ret (v:=.agg #[.int .i64 xk,.int .i64 xn]) (by simp[results,Tryz.results74,go_sem,d2,d3]) rfl ?_;refine⟨?_,Zfx (grown_put HG.out jb _ _) Yba,?_⟩
  .rw [HEV.out,kQ];simp only[Bool.false_and,Bool.false_eq_true,if_false]
  rw[Below.heap_alloc _ _ _ (by simpa using hIw3),Below.heap_setCell _ ⟨w.heap.size,1,none⟩ _ I (by show I≠w.heap.size;omega),Below.heap_setCell _ ⟨w.heap.size,0,none⟩ _ I (by show I≠w.heap.size;omega)];refine(HIQ.out).trans ?_;rw[HEV.out,Bool.or_assoc]
 rw[kQ] at x3;cases Hr:decide (0<lateOf R.lt (.mk o n s l))
 .rw [Hr] at x6;have HLT:=Zhd Hr;clear Hr;have HG:=Ql;have HIQ:=HI3;have hRq:=hR4;obtain⟨q0,q1,f0,f1,kt⟩:=Zal hRq;obtain⟨e0,e1,e2,e3⟩:=Zbb hRq (.int .i64 xk) (.int .i64 xn);have E0:=Zhd e0;have E1:=Zhd e1;clear e0 e1 e2 e3;obtain⟨y0,y1,yf0,yf1,_⟩:=Zal HR3.out;obtain⟨d0,d1,d2,d3⟩:=Zbb HR3.out (.int .i64 xk) (.int .i64 xn);have D0:=Zhd d0;have D1:=Zhd d1;have D2:=Zhd d2;have D3:=Zhd d3;clear hR4 hI4 d0 d1 d2 d3;go_wp2_with fail;have e0:=E0.out;have e1:=E1.out;have d0:=D0.out;have d1:=D1.out;have d2:=D2.out;have d3:=D3.out;refine bodyPost_ret (v:=.agg #[.int .i64 xk,.int .i64 xn]) (by simp[results,Tryz.results74,go_sem,d2,d3]) rfl ?_;refine⟨?_,Zfx (grown_put HG.out jb _ _) Yba,?_⟩
  .rw [HEV.out,kQ];simp only[HLT.out,Bool.true_and,Bool.false_eq_true,if_false]
  rw[Below.heap_alloc _ _ _ (by simpa using hIw3),Below.heap_setCell _ ⟨w.heap.size,1,none⟩ _ I (by show I≠w.heap.size;omega),Below.heap_setCell _ ⟨w.heap.size,0,none⟩ _ I (by show I≠w.heap.size;omega)];refine(HIQ.out).trans ?_;rw[HEV.out,Bool.or_assoc]
 rw[Hr] at x6;have HLT:=Zhd Hr;clear Hr;obtain⟨⟨nk,nn⟩,jS⟩:∃x,x=nilV R.nb R.ni (Zai R.ks (.mk o n s l)):=⟨_,rfl⟩;have Hf:=λw'=>nilOf_any R.nb R.ni (Zai R.ks (.mk o n s l)) w';rw[<- jS] at Hf;have HNIL:=Zhd jS;clear jS;go_wp2_with fail;generalize hWe:(w3.alloc (.cells #[.int .i64 xk,.int .i64 xn] 101))=W at *;clear hWe;have k1:=(Za8 (w:=W) (show I≠w.heap.size by omega) 1).trans x1;have k2:=(Za8 (w:=W) (show I≠w.heap.size by omega) 2).trans x2;have k5:=(Za8 (w:=W) (show q≠w.heap.size by omega) 5).trans x5;have hS:(Zci w.heap.size W).In W.drew:=Zkz w.heap.size W;have kW:(Zci w.heap.size W) w.heap.size=none:=by simp[Zci]
 clear x1 x2 x3 x5 x6;refine Zae (λw'=>(Zci w.heap.size W).In w') (λ_=>True) 99 (by kernel_rfl) ?_;refine tk2 (i:=0) (v:=?_) rfl hS Ztr ?hy ?_
 case hy=>exact mEv1
 refine Zst ?_;refine Go.w3 1 ?_
 iterate 7 ((first|(refine tk3 (v:=?_) rfl hS Ztr ?hy ?_;(case hy=>exact mEv2))|refine sk3 rfl hS Ztr ?_|refine no3 ?_);refine Zss ?_)
 refine Go.w3e ?_;refine Zwo 8 rfl λK_ hK=>?_;go_simp;go_at_call 72;refine(Hf _).mono ?_;rintro r5 w5 ⟨rfl,Jf⟩;have jr:=hS.below Jf;have Q6:Ybw W w5:=((Below.refl W.heap.size W).drew).trans Jf;have HG:=Zhd (Zfx HG4.out Q6);have HIQ:=Zhd ((Q6.block I (Zlt hI4)).trans hI4);have hRq:=(Q6.block w.heap.size (Zlt hR4)).trans hR4;obtain⟨q0,q1,f0,f1,kt⟩:=Zal hRq;obtain⟨e0,e1,e2,e3⟩:=Zbb hRq (.int .i64 nk) (.int .i64 nn);have E0:=Zhd e0;have E1:=Zhd e1;clear e0 e1 e2 e3;refine hK.out _ _ (jr) Ztr ?_;clear hK K_
 try simp only[tkS]
 refine Zwo 9 rfl λK_ hK=>?_;go_simp;refine hK.out _ _ (((jr.setCell (a:=⟨w.heap.size,0,none⟩) kW _).setCell (a:=⟨w.heap.size,1,none⟩) kW _)) Ztr ?_;clear hK K_
 try simp only[tkS]
 refine Zwd ?_;go_wp2_with fail;have e0:=E0.out;have e1:=E1.out;refine bodyPost_ret (v:=.agg #[.int .i64 nk,.int .i64 nn]) (by simp[results,Tryz.results74,go_sem,e0,e1]) rfl ?_;refine⟨?_,grown_put HG.out jb _ _,?_⟩
 .rw [HEV.out,kQ];simp only[HLT.out,Bool.true_and,if_true];rw[<- HNIL.out]
 rw[Below.heap_setCell _ ⟨w.heap.size,1,none⟩ _ I (by show I≠w.heap.size;omega),Below.heap_setCell _ ⟨w.heap.size,0,none⟩ _ I (by show I≠w.heap.size;omega)];refine(HIQ.out).trans ?_;rw[HEV.out,Bool.or_assoc]):p:=h
theorem mEv2{p:Prop}(h:p:=by
 intro w Hi;obtain⟨z0,z1,z2⟩:=Hi.c3 k1 k2 k5;go_simp<;>with_reducible rfl):p:=h
theorem mEv1{p:Prop}(h:p:=by
 intro w Hi;obtain⟨z0,z1,z2⟩:=Hi.c3 k1 k2 k5;first|(go_simp;done)|(go_simp;with_reducible rfl)):p:=h
theorem evalsM_zero(R:REnv)(r:Inst)(m:Nat):∀l:List Ex,Zaz R r m 0 l=([],false)
 | []=>by simp[Zaz]
 |e :: l=>by simp[Zaz]
theorem Tryz.infoVl:(Tryz.prog.info? 101).map (λi=>(i.zero,i.size,i.bytes))=some (some (.agg Yo2),2,16):=by kernel_rfl
theorem grown_put{w w3:World}{I:Nat}(h:w.grownBy w3 (some I))(_hI:I<w.heap.size)(u v:Value):w.grownBy ((w3.setCell ⟨w.heap.size,0,none⟩ u).setCell ⟨w.heap.size,1,none⟩ v) (some I):=
 ⟨h.os,h.tape,h.output,by simpa using h.size,λk hk Hs=>by
  rw[Below.heap_setCell _ ⟨w.heap.size,1,none⟩ _ k (by show k≠w.heap.size;omega),Below.heap_setCell _ ⟨w.heap.size,0,none⟩ _ k (by show k≠w.heap.size;omega)];exact h.block k hk Hs⟩
theorem Zfx{w w3 w5:World}{row:Option Nat}(h:w.grownBy w3 row)(hb:Ybw w3 w5):w.grownBy w5 row:=
 ⟨hb.os.trans h.os,hb.tape.trans h.tape,hb.output.trans h.output,Nat.le_trans h.size hb.size,λk hk Hs=>by rw[hb.block k (Nat.lt_of_lt_of_le hk h.size)];exact h.block k hk Hs⟩
theorem eval_any(R:REnv)(r:Inst)(I:Nat)(cp vm vi vn:Value)(hz:r.mem.length<=1000000000/\r.inp.length<=1000000000/\r.now.length<=1000000000):∀(e:Ex),Zad R.ks e=true->e.parts<=1000000000->∀(H:Kn) (m q:Nat),NdAt 168 R H e m q->VlsV H r.mem vm->VlsV H r.inp vi->VlsV H r.now vn->
  ∀(w:World) (t:Bool),H.In w->H I=none->w.heap[I]?=some (.cells (Zcu cp R r vm vi vn t) 172 (0,0))->EvOk R r e m->
  Calls Tryz.prog 74 #[.pointer (some ⟨I,0,none⟩),.pointer (some ⟨q,0,none⟩)] w (ValPost R r I cp vm vi vn t w (Za6 R r m e)):=by
 refine Ex.ind λo n s l ih j9 hpe H m q hnd hvm hvi hvn w t hH hI hb J1=>?_;obtain⟨lv,pv,hq,a,c,rfl,qd⟩:=hnd.open;simp only[Ex.l] at qd hq;have hlp:=Zbp l;simp only[Ex.parts] at hpe;simp only[EvOk] at J1;obtain⟨hok0,hokL⟩:=J1;obtain⟨JA,Jj,_,hZ,_⟩:=Zax j9;have HPT:=Zhd qd;have IH:=Zhd ih;have HSUB:=Zhd JA;have HOKL:=Zhd hokL;have qr:=Zhd j9;have HPRE:=Zhd hZ;have HFBY:=Zhd Jj;have gv:=hH _ _ hq;have jQ:q<w.heap.size:=(Zlt gv);have jb:I<w.heap.size:=(Zlt hb);have Hg:Ybw w (w.alloc (.cells Yo2 101)):=Yba;have JE:=(Hg.block q jQ).trans gv;have g4:(w.alloc (.cells Yo2 101)).cell? ⟨q,4,none⟩=some (.slice a l.length c):=by simp[World.cell?,JE,Za3]
 have jF:=Zhd (show EvS R r H I cp vm vi vn t w (w.alloc (.cells Yo2 101)) m 0 0 l (Ys0) from
  ⟨hH.below Hg,hI,jb,⟨Hg.os,Hg.tape,Hg.output,Hg.size,λk hk _=>Hg.block k hk⟩,by rw[Hg.block I jb,hb,evalsM_zero,Bool.or_false],by rw[evalsM_zero];exact World.ownsRow_nil _ _ _ _,heap_alloc_new _ _⟩)
 obtain⟨i0,JI,Jt,J6,Ju⟩:=info_parts Tryz.infoVl;clear qd ih JA hokL j9 hnd JE gv hb hZ Jj;go_enter Tryz.func74,Tryz.ntmps74;go_wp2_with fail;clear g4;generalize w.alloc (.cells Yo2 101)=W0 at *;go_loopw[5,14] (λu5 i wr=>∃k:Nat,i=.int .i64 k/\k<=evN o l/\EvS R r H I cp vm vi vn t w wr m k k l u5) (λ_ i _=>l.length - (intOf i).toNat)
 case atStart=>exact⟨0,rfl,Nat.zero_le _,jF.out⟩
 obtain⟨k,rfl,hk,hS⟩:=hrel;have HS:=Zhd hS;clear hS;have hqr:=HS.out.isin _ _ hq;have g0:wr.cell? ⟨q,0,none⟩=some (.string o):=by simp[World.cell?,hqr,Za3,Ex.op]
 by_cases jA:k<evN o l
 .have hnp:o≠oPre:=λe=>by unfold evN at jA;rw[if_pos e] at jA;omega
  have Hd:k<l.length:=by
   unfold evN at jA;rw[if_neg hnp] at jA
   split at jA
   .rename_i h;have:=HFBY.out h;omega
   exact jA
  have Q0:o=oFby->k=0:=λe=>by unfold evN at jA;rw[if_neg hnp,if_pos e] at jA;omega
  obtain⟨b,off,q',rfl,hc,hnd⟩:=HPT.out k Hd;have hc:=HS.out.isin.cell hc;obtain⟨x,jd⟩:∃x,l[k]=x:=⟨_,rfl⟩;have Jy:x.parts<=1000000000:=by have:=Za0 l k Hd;rw[jd] at this;omega
  have Hl:x∈l:=by rw[<- jd];exact Ymm Hd
  have hokx:=HOKL.out.get k Hd;rw[jd] at hnd hokx;have b1:(o.toList==[112,114,101])=false:=by have:=Zeb o [112,114,101];cases h:(o.toList==[112,114,101]) with|false=>rfl|true=>exact absurd (this.mpr h) hnp
  have qq:=Zhd (IH.out x Hl (HSUB.out x Hl) Jy H (m+Zag (l.take k)) q' hnd hvm hvi hvn wr (t || (Zaz R r m k l).2) HS.out.isin HS.out.noI HS.out.inst hokx);have HXE:=Zhd jd;clear hnd hokx hqr;obtain⟨au,cu,J9,_⟩:=Zar HS.out.row;subst J9;have Jl:w.heap.size+1<=wr.heap.size:=HS.out.rlt;rcases(show o=oFby\/(o.toList==[102,98,121])=false from by
   have:=Zeb o [102,98,121];cases h:(o.toList==[102,98,121]) with
   |false=>exact .inr rfl
   |true=>exact .inl (this.mpr h)) with qy|b2
  .subst qy;obtain rfl:=Q0 rfl;simp only[Nat.add_zero] at hc;go_wp2_with fail;refine qq.out.mono ?_;rintro ret w1 hp;have J3:=HS.out.child Hd (by rw[HXE.out];exact hp);obtain⟨hret,hg1,_⟩:=hp;obtain⟨⟨yk,yn⟩,hy⟩:∃y,y=(Za6 R r (m+Zag (l.take 0)) x).1:=⟨_,rfl⟩;rw[<- hy] at hret;subst hret;have HY:=Zhd hy;clear hy;have HA:=Zhd (J3.alloc (.cells #[.int .i64 yk,.int .i64 yn] 101));have Hv:w.heap.size+1<=w1.heap.size:=Nat.le_trans Jl hg1.size;have hkk:0<=1000000000:=by omega
   clear J3 hg1;go_wp2_with(refine wpList_append_lies _ (by rfl) _ _ _ (by rfl) (w.heap.size+1) 101 i0 _ 2 16 Tryz.underlying31 JI Jt J6 Ju rfl (by omega) _ 0 (vlX (Zaz R r m 0 l).1) (by rfl) HA.out.row ⟨_,0,none⟩ 1 1 [.int .i64 yk,.int .i64 yn] (by rfl) (by rfl) (by exact World.news_of_block (heap_alloc_new _ _)) (by simp[Value.oneCell']) (by omega) (by unfold maxLen;omega) (by omega) (by simp;omega) _ rfl ?_;intro gg Hh w3 Hb Hj hJ jT;have hf:=HA.out.app Hd hH (x:=⟨yk,yn⟩) (by rw[HXE.out];exact HY.out.symm) Hb Hj);go_roundw
   case rel=>exact⟨0+1,by go_num,by omega,hf⟩
   simp[intOf];omega
  skip;go_wp2_with fail;refine qq.out.mono ?_;rintro ret w1 hp;have J3:=HS.out.child Hd (by rw[HXE.out];exact hp);obtain⟨hret,hg1,_⟩:=hp;obtain⟨⟨yk,yn⟩,hy⟩:∃y,y=(Za6 R r (m+Zag (l.take k)) x).1:=⟨_,rfl⟩;rw[<- hy] at hret;subst hret;have HY:=Zhd hy;clear hy;have HA:=Zhd (J3.alloc (.cells #[.int .i64 yk,.int .i64 yn] 101));have Hv:w.heap.size+1<=w1.heap.size:=Nat.le_trans Jl hg1.size;have hkk:k<=1000000000:=by omega
  clear J3 hg1;go_wp2_with(refine wpList_append_lies _ (by rfl) _ _ _ (by rfl) (w.heap.size+1) 101 i0 _ 2 16 Tryz.underlying31 JI Jt J6 Ju rfl (by omega) _ k (vlX (Zaz R r m k l).1) (by rfl) HA.out.row ⟨_,0,none⟩ 1 1 [.int .i64 yk,.int .i64 yn] (by rfl) (by rfl) (by exact World.news_of_block (heap_alloc_new _ _)) (by simp[Value.oneCell']) (by omega) (by unfold maxLen;omega) (by omega) (by simp;omega) _ rfl ?_;intro gg Hh w3 Hb Hj hJ jT;have hf:=HA.out.app Hd hH (x:=⟨yk,yn⟩) (by rw[HXE.out];exact HY.out.symm) Hb Hj);go_roundw
  case rel=>exact⟨k+1,by go_num,by omega,hf⟩
  simp[intOf];omega
 have Qr:k=evN o l:=by omega
 have Hd:k<=l.length:=by
  rw[Qr];unfold evN
  split
  .omega
  split
  .rename_i h;have:=HFBY.out h;omega
  exact Nat.le_refl _
 have Ho:(Zaz R r m k l).1.length=k:=by rw[Zfj];omega
 obtain⟨K,He,JK,hKI,JS,hvals⟩:=HS.out.vals hH Ho;obtain⟨⟨⟨xk,xn⟩,xt⟩,hX⟩:∃X,X=valM R r (m+Zag l) o n s (decide (0<lateOf R.lt (.mk o n s l))) (Zaz R r m k l).1:=⟨_,rfl⟩;obtain⟨au,cu,J9,_⟩:=Zar HS.out.row;subst J9;have hval:=value_any R r K I q m cp lv (.slice a l.length c) vm vi vn (.slice au k cu) (t || (Zaz R r m k l).2) o n s l (Zaz R r m k l).1 wr JK hKI HS.out.inst (He _ _ hq) qr.out hvals (by rw[Ho,Qr];rfl) (SlV.le hvm He VlC.mono) (SlV.le hvi He VlC.mono) (SlV.le hvn He VlC.mono) ⟨hz.1,hz.2.1,hz.2.2,by omega⟩ hok0;rw[<- hX] at hval;have HEV:=Zhd (show Za6 R r m (.mk o n s l)=(if r.first&&decide (0<lateOf R.lt (.mk o n s l)) then nilV R.nb R.ni (Zai R.ks (.mk o n s l)) else ⟨xk,xn⟩,(Zaz R r m k l).2 || xt) from by
  simp only[Za6];rw[show(if o=oPre then 0 else if o=oFby then 1 else l.length)=k from Qr.symm,<- hX])
 have HVAL:=Zhd hval;clear hval hX hvals JS hKI JK He Ho;have hways:(o=oPre/\k=0/\l.length=1)\/(o=oFby/\k=1/\l.length=2)\/((o.toList==[112,114,101])=false/\k=l.length):=by
  by_cases e1:o=oPre
  .exact .inl ⟨e1,by rw[Qr];unfold evN;rw[if_pos e1],HPRE.out e1⟩
  by_cases e2:o=oFby
  .exact .inr (.inl ⟨e2,by rw[Qr];unfold evN;rw[if_neg e1,if_pos e2],HFBY.out e2⟩)
  refine .inr (.inr ⟨?_,by rw[Qr];unfold evN;rw[if_neg e1,if_neg e2]⟩);have:=Zeb o [112,114,101];cases h:(o.toList==[112,114,101]) with
  |false=>rfl
  |true=>exact absurd (this.mpr h) e1
 clear Qr Hd jA;rcases hways with ⟨he,j8,hl0⟩|⟨he,j8,hl0⟩|⟨b1,j8⟩
 .have b1:(o.toList==[112,114,101])=true:=by rw[he];kernel_rfl
  clear he;subst j8;obtain⟨b,off,q',rfl,hc,_⟩:=HPT.out 0 (by omega);have hc:=HS.out.isin.cell hc;simp only[Nat.add_zero] at hc;have hlI:(l.length:Int)=1:=by omega
  exact mEv3
 .have b1:(o.toList==[112,114,101])=false:=by rw[he];kernel_rfl
  have b2:(o.toList==[102,98,121])=true:=by rw[he];kernel_rfl
  clear he;subst j8;obtain⟨b,off,q',rfl,hc,_⟩:=HPT.out 1 (by omega);have hc:=HS.out.isin.cell hc;have hlI:(l.length:Int)=2:=by omega
  exact mEv3
 subst j8;exact mEv3
def Zba(R:REnv)(ms:List (Ex×Nat)):List Vl:=ms.map λx=>nilV R.nb R.ni (Zai R.ks x.1)
theorem Zgv(l:List Vl)(x:Vl):vlX (l++[x])=vlX l++[.int .i64 x.kind,.int .i64 x.n]:=by simp[vlX]
theorem start_any(R:REnv)(H:Kn)(B:Nat)(cs:Array Value)(ms:List (Ex×Nat))(vm:Value)(hB:H B=some (.cells cs 126 (0,0)))(jv:cs[10]?=some vm)(hm:NdsV 168 R H ms vm)(hl:ms.length<=1000000000)(w:World)(hH:H.In w):
  Calls Tryz.prog 42 #[.pointer (some ⟨B,0,none⟩),.agg #[.bool R.nb,.int .i64 R.ni]] w λr w'=>∃v,r=.returned v/\VlsV (Zan w') (Zba R ms) v/\Ybw w w':=by
 obtain⟨a,c,rfl⟩:=hm.len;have HM:=Zhd hm;have hBw:=hH _ _ hB;have zj:B<w.heap.size:=(Zlt hBw);have Hg:Ybw w (w.alloc (.cells #[.bool R.nb,.int .i64 R.ni] 68)):=Yba;have hB1:=(Hg.block B zj).trans hBw;have jM:=heap_alloc_new w (.cells #[.bool R.nb,.int .i64 R.ni] 68);have g10:(w.alloc (.cells #[.bool R.nb,.int .i64 R.ni] 68)).cell? ⟨B,10,none⟩=some (.slice a ms.length c):=by simp[World.cell?,hB1,jv]
 obtain⟨i0,JI,Jt,J6,Ju⟩:=info_parts Tryz.infoVl;go_enter Tryz.func42,Tryz.ntmps42;go_wp2_with fail;clear g10;have Qj:=Zhd jM;have J4:=Zhd Hg;have J5:(w.alloc (.cells #[.bool R.nb,.int .i64 R.ni] 68)).heap.size=w.heap.size+1:=by simp
 clear jM Hg hB1;generalize w.alloc (.cells #[.bool R.nb,.int .i64 R.ni] 68)=W0 at *;go_loopw[5,13] (λu i wr=>∃k:Nat,i=.int .i64 k/\k<=ms.length/\Ybw W0 wr/\wr.ownsRow (w.heap.size+1) 101 2 u k (vlX (Zba R (ms.take k)))) (λ_ i _=>ms.length - (intOf i).toNat)
 case atStart=>exact⟨0,rfl,Nat.zero_le _,Below.refl _ _,World.ownsRow_nil _ _ _ _⟩
 obtain⟨k,rfl,hk,hb,Jd⟩:=hrel;have HB:=Zhd hb;have HR:=Zhd Jd;clear hb Jd;by_cases Hd:k<ms.length
 .obtain⟨au,cu,J9,_⟩:=Zar HR.out;subst J9;obtain⟨b,off,rfl,_,q,JE,kY⟩:=SlV.at HM.out Hd;have JE:H.cell b (off+k * 1+0)=some (ptrV q):=JE;simp only[Nat.mul_one,Nat.add_zero] at JE;obtain⟨lv,pv,hqH,_⟩:=kY.open;obtain⟨K,JQ⟩:∃K,K=H.add w.heap.size (.cells #[.bool R.nb,.int .i64 R.ni] 68 (0,0)):=⟨_,rfl⟩;have He:H.le K:=by rw[JQ];exact Kn.le_add (hH.isNone Ylr)
  have Hw:H.In wr:=(hH.below J4.out).below HB.out;have hNr:=(HB.out.block w.heap.size (by omega)).trans Qj.out;have JK:K.In wr:=by rw[JQ];exact Hw.add hNr
  have hS:K.In wr.drew:=JK;have j0:K.cell w.heap.size 0=some (.bool R.nb):=by rw[JQ];unfold Kn.cell;rw[Kn.add_self];rfl
  have j1:K.cell w.heap.size 1=some (.int .i64 R.ni):=by rw[JQ];unfold Kn.cell;rw[Kn.add_self];rfl
  have j5:K.cell q 5=some (.int .i64 (Zai R.ks ms[k].1)):=He.cell (by unfold Kn.cell;rw[hqH];rfl);have hnoU:∀g,(Value.slice au k cu).ownBlock=some g->K g=none:=λg hg=>by
   have:=(HR.out.lt g hg).1;rw[JQ,Kn.add_other _ _ (by omega)];exact hH.isNone (by omega)
  have c0:=Hw.cell JE;have Hf:=λw'=>nilOf_any R.nb R.ni (Zai R.ks ms[k].1) w';have hsn:Zba R (ms.take (k+1))=Zba R (ms.take k)++[nilV R.nb R.ni (Zai R.ks ms[k].1)]:=by
   unfold Zba;rw[List.take_succ_eq_append_getElem Hd,List.map_append];rfl
  obtain⟨⟨yk,yn⟩,hy⟩:∃y,y=nilV R.nb R.ni (Zai R.ks ms[k].1):=⟨_,rfl⟩;rw[<- hy] at Hf hsn;have y9:=Zhd hsn;have Jl:w.heap.size+1<=wr.heap.size:=by have:=HB.out.size;omega
  clear hy hsn kY hqH hNr;generalize Zai R.ks ms[k].1=kd at *;go_wp2_with fail;refine Zae (λw'=>K.In w') (λ_=>True) 99 (by kernel_rfl) ?_;refine tk2 (i:=0) (v:=?_) rfl hS Ztr ?hy ?_
  case hy=>intro w Hi;obtain⟨z0,z1,z2⟩:=Hi.c3 j0 j1 j5;go_simp<;>with_reducible rfl
  refine Zst ?_;refine Go.w3 1 ?_
  iterate 5 ((first|(refine tk3 (v:=?_) rfl hS Ztr ?hy ?_;(case hy=>intro w Hi;obtain⟨z0,z1,z2⟩:=Hi.c3 j0 j1 j5;go_simp<;>with_reducible rfl))|refine sk3 rfl hS Ztr ?_|refine no3 ?_);refine Zss ?_)
  refine Go.w3e ?_;refine Zwo 6 rfl λK_ hK=>?_;go_simp;go_at_call 72;refine(Hf _).mono ?_;rintro r5 w5 ⟨rfl,Jf⟩;have jr:=hS.below Jf;have hr5:=Za1 (Za1 HR.out (Below.refl wr.heap.size wr).drew) Jf;have kM:Ybw w5 (w5.alloc (.cells #[.int .i64 yk,.int .i64 yn] 101)):=Yba;have hra:=Za1 hr5 kM;have Q6:Ybw wr w5:=((Below.refl wr.heap.size wr).drew).trans Jf;have hsz5:=Q6.size;refine hK.out _ _ (jr) Ztr ?_;clear hK K_
  try simp only[tkS]
  refine Zwo 7 rfl λK_ hK=>?_;go_simp;refine hK.out _ _ ((jr.alloc _)) Ztr ?_;clear hK K_
  try simp only[tkS]
  refine Zwo 8 rfl λK_ hK=>?_;refine step_append_lies _ (by rfl) _ _ _ (by rfl) (w.heap.size+1) 101 i0 _ 2 16 Tryz.underlying31 JI Jt J6 Ju rfl (by omega) (.slice au k cu) k (vlX (Zba R (ms.take k))) (by rfl) hra ⟨_,0,none⟩ 1 1 [.int .i64 yk,.int .i64 yn] (by rfl) (by rfl) (by exact World.news_of_block (heap_alloc_new _ _)) (by simp[Value.oneCell']) (by omega) (by unfold maxLen;omega) (by omega) (by simp;omega) _ rfl ?_;intro gg Hh w3 Hb Hj hJ jT;have hS6:=(jr.alloc (.cells #[.int .i64 yk,.int .i64 yn] 101)).grown Hj hnoU;refine hK.out _ _ (hS6) Ztr ?_;clear hK K_
  try simp only[tkS]
  refine tk2 (i:=9) (v:=?_) rfl hS6 Ztr ?hy ?_
  case hy=>intro w Hi;obtain⟨z0,z1,z2⟩:=Hi.c3 j0 j1 j5;go_simp<;>with_reducible rfl
  try simp only[tkS]
  refine Zwd ?_;go_wp2_with fail;go_roundw
  case rel=>
   refine⟨k+1,by go_num,by omega,?_,by rw[y9.out,Zgv];exact Hb⟩;refine(HB.out.trans (Q6.mono HB.out.size)).trans ((kM.mono (by have:=HB.out.size;omega)).trans ?_);exact⟨Hj.os,Hj.tape,Hj.output,Hj.size,λi hi=>Hj.block i (by simp;have:=HB.out.size;omega) (λe=>by have:=(HR.out.lt i e.symm).1;omega)⟩
  simp[intOf];omega
 obtain rfl:k=ms.length:=by omega
 obtain⟨au,cu,rfl,_⟩:=Zar HR.out;go_wp2_with fail;go_ret;refine⟨_,rfl,?_,J4.out.trans (HB.out.mono (by omega))⟩;have h:=HR.out;rw[List.take_length] at h;exact Zgz (l:=Zba R ms) (by simpa[Zba] using h) λi hi f hf=>by
  obtain⟨x0,x1⟩:=Zen _ i hi;refine⟨hf 0 _ ?_,hf 1 _ ?_⟩
  .rw [show i * 2+0=2 * i from by omega];exact x0
  rw[show i * 2+1=2 * i+1 from by omega];exact x1
end Go.Proofs.YtafapnolamcdmaaGreatDoor
