/- Walks: lustrumref2.CheckOf. -/
import Derived.Test.YtafapnolamcdmaaGreatDoorRfI
import Derived.Test.YtafapnolamcdmaaGreatDoorAyA
import Derived.Test.YtafapnolamcdmaaGreatDoorVsA
set_option linter.all false
namespace Go.Proofs.YtafapnolamcdmaaGreatDoor
set_option maxRecDepth 100000
set_option maxHeartbeats 16000000
open Go.RowKit Mx
theorem mRfL3{p:Prop}(h:p:=by
 obtain⟨q0,q1,f0,f1,kt⟩:=Zed kN;have hR6:=(HB.out.block (w.heap.size+1) (by omega)).trans HR4.out;obtain⟨q2,q3,f2,f3,hlw2⟩:=Zed hR6;obtain⟨e0,e1,e2,e3⟩:=Zhy hR6 (.int .i64 7) (.int .i64 k);have E0:=Zhd e0;have E1:=Zhd e1;clear e0 e1 e2 e3 kN;go_wp2_with fail;have e0:=E0.out;have e1:=E1.out;refine bodyPost_ret (v:=.agg #[.int .i64 7,.int .i64 k]) (by simp[results,Tryz.results31,go_sem,e0,e1]) rfl ?_;exact⟨by rw[HX.out];rfl,Zd2 (gn.out.trans (zQ.out.mono (by omega))) (by omega) _ _⟩):p:=h
theorem mRfL2{p:Prop}(h:p:=by
 go_wp2_with fail;refine Zae (λw'=>(Zan w2).In w') (λ_=>True) 99 (by kernel_rfl) ?_;refine Go.w3 0 ?_
 iterate 7 ((first|(refine tk3 (v:=?_) rfl Hq Ztr ?hy ?_;(case hy=>intro w Hi;obtain⟨z0,z1,z2,z3,z4,z5,z6,z7,z8⟩:=Hi.c9 k0 k1 k2 k3 k4 d0 d1 d2 d3;go_simp<;>with_reducible rfl))|refine sk3 rfl Hq Ztr ?_|refine no3 ?_);refine Zss ?_)
 refine Go.w3e ?_;refine Zwo 7 rfl λK_ hK=>?_;go_simp;go_at_call 55;refine(vd.out _ Hq).mono ?_;rintro r w3 ⟨rfl,Jg⟩;have Jw:=Hq.below Jg;refine hK.out _ _ (Jw) Ztr ?_;clear hK K_;refine Zst ?_;refine tk2 (i:=8) (v:=?_) rfl Jw Ztr ?hy ?_
 case hy=>exact mRfL1
 refine Zst ?_;refine Zwd ?_;have Js:=Zhd (HB.out.drew.trans (Jg.mono (by have:=HB.out.drew.size;omega)));by_cases hq:0<q
 .have HX:=Zhd (ke.out hq);go_wp2_with fail;refine(Zk1 7 _).mono ?_;rintro r w5 ⟨rfl,Jf⟩;have kg:=Zhd (Js.out.trans (Jf.mono Js.out.size));have kN:=(kg.out.block (w.heap.size+1) (by omega)).trans HR4.out;obtain⟨q0,q1,f0,f1,kt⟩:=Zed kN;obtain⟨e0,e1,e2,e3⟩:=Zhy kN (.int .i64 7) (.int .i64 (-1));have E0:=Zhd e0;have E1:=Zhd e1;clear e0 e1 e2 e3 kN;go_wp2_with fail;have e0:=E0.out;have e1:=E1.out;refine bodyPost_ret (v:=.agg #[.int .i64 7,.int .i64 (-1)]) (by simp[results,Tryz.results31,go_sem,e0,e1]) rfl ?_;exact⟨by rw[HX.out];rfl,Zd2 (gn.out.trans (kg.out.mono (by omega))) (by omega) _ _⟩
 have HX:=Zhd (kf.out (by omega));go_wp2_with fail;go_roundw
 case rel=>exact⟨k+1,by go_num,by omega,Js.out,HX.out⟩
 simp[intOf];omega):p:=h
theorem mRfL1{p:Prop}(h:p:=by
 intro w Hi;obtain⟨z0,z1,z2,z3,z4,z5,z6,z7,z8⟩:=Hi.c9 k0 k1 k2 k3 k4 d0 d1 d2 d3;first|(go_simp;done)|(go_simp;with_reducible rfl)):p:=h
theorem checkOf_any(H:Kn)(p:Pr)(vi vo vl va vc:Value)(hp:PrP H p vi vo vl va vc)(s1:p.fl.length<=1000000)(s2:Ex.partsL p.terms<=1000000000)(s3:p.ins.length<=100000000/\p.outs.length<=100000000/\p.as.length<=100000000/\p.cs.length<=100000000)(w:World)(hH:H.In w):
  Calls Tryz.prog 31 #[.agg #[vi,vo,vl,va,vc]] w λr w'=>r=.returned (.agg #[.int .i64 (Za2 p).1,.int .i64 (Za2 p).2])/\Ybw w w':=by
 have HP:=Zhd hp;obtain⟨h1,h2,h3,h4,h5⟩:=hp;obtain⟨ai,ci,ao,co,al,cl,aa,ca,ac,cc,rfl,rfl,rfl,rfl,rfl⟩:=Ypo h1.len h2.len h3.len h4.len h5.len;clear h1 h2 h3 h4 h5;have kT:=heap_alloc_new w (.cells (Yq5 p ai ao al aa ac ci co cl ca cc) 27);have Jr:=heap_alloc_new (w.alloc (.cells (Yq5 p ai ao al aa ac ci co cl ca cc) 27)) (.cells Yo2 46);have Hg:Ybw w ((w.alloc (.cells (Yq5 p ai ao al aa ac ci co cl ca cc) 27)).alloc (.cells Yo2 46)):=Yba.alloc (by simp) _;have J6:((w.alloc (.cells (Yq5 p ai ao al aa ac ci co cl ca cc) 27)).alloc (.cells Yo2 46)).heap.size=w.heap.size+2:=by simp
 have xu:=(Below.heap_alloc (w.alloc (.cells (Yq5 p ai ao al aa ac ci co cl ca cc) 27)) (.cells Yo2 46) w.heap.size (by simp)).trans kT;rw[World.size_alloc] at Jr;have HH1:=Zhd (hH.below Hg);have J4:=Zhd Hg;have yD:=Zhd xu;have qp:=Zhd Jr;clear kT Jr xu Hg;go_enter Tryz.func31,Tryz.ntmps31;go_wp2_with fail;generalize (w.alloc (.cells (Yq5 p ai ao al aa ac ci co cl ca cc) 27)).alloc (.cells Yo2 46)=W1 at *;refine(orderOf_any H p _ _ _ _ _ HP.out s1 s2 s3 W1 HH1.out).mono ?_;rintro r w1 ⟨Hv,v1,v2,rfl,qe⟩;have Jn:=Zhd (J4.out.trans (Hv.mono (by omega)));have xu:=(Hv.block w.heap.size (by omega)).trans yD.out;have kD:=(Hv.block (w.heap.size+1) (by omega)).trans qp.out;have Ju:w.heap.size+2<=w1.heap.size:=by have:=Hv.size;omega
 have HH2:=Zhd (HH1.out.below (Hv.mono (by omega)));have gK:=Zhd xu;have qc:=Zhd kD;clear Hv xu kD yD qp J4;unfold OrdRef at qe;cases hom:Za5 p with
 |error x=>
  rw[hom] at qe;obtain⟨rfl,rfl⟩:=qe;have HX:=Zhd (show Za2 p=x from by unfold Za2 Ze4;rw[hom]);have jh:(0:Int)<x.1:=by
   unfold Za5 at hom
   split at hom
   .rename_i h;cases hom;show(0:Int)<(Zak p:Nat);omega
   split at hom
   .cases hom;simp
   cases hom
  clear hom;obtain⟨c,at_⟩:=x;dsimp only at *;have HXC:=Zhd (show((Za2 p).1:Int)=c/\(Za2 p).2=at_ from by rw[HX.out];exact⟨rfl,rfl⟩);generalize (c:Int)=cI at *;have qB:=(Below.heap_alloc w1 (.cells #[.int .i64 cI,.int .i64 at_] 46) (w.heap.size+1) (by omega)).trans qc.out;obtain⟨q0,q1,f0,f1,kt⟩:=Zed qB;obtain⟨e0,e1,e2,e3⟩:=Zhy qB (.int .i64 cI) (.int .i64 at_);have E0:=Zhd e0;have E1:=Zhd e1;have ja:=Jn.out.alloc (by omega) (.cells #[.int .i64 cI,.int .i64 at_] 46);clear e0 e1 e2 e3 qB;go_wp2_with fail;have e0:=E0.out;have e1:=E1.out;refine bodyPost_ret (v:=.agg #[.int .i64 cI,.int .i64 at_]) (by simp[results,Tryz.results31,go_sem,e0,e1]) rfl ?_;exact⟨by rw[HXC.out.1,HXC.out.2],Zd2 ja (by omega) _ _⟩
 |ok l=>
  rw[hom] at qe;obtain⟨hv,rfl⟩:=qe;obtain⟨av,cv,rfl⟩:=hv.len;clear hv;have gO:=Zhd (show Ze4 p=.ok (p.fl.map λf=>Zac p f.name) from by unfold Ze4;rw[hom]);have J0:Zak p=0:=by
   unfold Za5 at hom
   split at hom
   .cases hom
   rename_i h;simpa using h
  obtain⟨ks,_,_,ji,jY,qH,_,_⟩:=Zb9 J0;have zm:=Zhd (show ∀e∈p.terms,Zad ks e=true from λe he=>by
   obtain⟨i,hi,h⟩:=List.mem_iff_getElem.1 he;rw[<- h];exact(Zbe ks _).1 ji i hi)
  have HPM:=Zhd (show ∀e∈p.terms,e.parts<=1000000000000 from λe he=>by
   obtain⟨i,hi,h⟩:=List.mem_iff_getElem.1 he;have:=Za0 _ i hi;rw[<- h];omega)
  have yO:=Zhd (show ∀f∈p.fl,Zad ks f.e=true from λf hf=>by
   obtain⟨i,hi,he⟩:=List.mem_iff_getElem.1 (Zeh p hf);rw[<- he];exact(Zbe ks _).1 ji i hi)
  have HND:=Zhd (Zhb J0);have hP3:=(Below.heap_alloc w1 (.cells #[.int .i64 0,.int .i64 (-1)] 46) w.heap.size (by omega)).trans gK.out;have qB:=(Below.heap_alloc w1 (.cells #[.int .i64 0,.int .i64 (-1)] 46) (w.heap.size+1) (by omega)).trans qc.out;have m0:(w1.alloc (.cells #[.int .i64 0,.int .i64 (-1)] 46)).cell? ⟨w.heap.size,0,none⟩=some (.slice ai p.ins.length ci):=by simp[World.cell?,hP3]
  have m1:(w1.alloc (.cells #[.int .i64 0,.int .i64 (-1)] 46)).cell? ⟨w.heap.size,1,none⟩=some (.slice ao p.outs.length co):=by simp[World.cell?,hP3]
  have m2:(w1.alloc (.cells #[.int .i64 0,.int .i64 (-1)] 46)).cell? ⟨w.heap.size,2,none⟩=some (.slice al p.fl.length cl):=by simp[World.cell?,hP3]
  have m3:(w1.alloc (.cells #[.int .i64 0,.int .i64 (-1)] 46)).cell? ⟨w.heap.size,3,none⟩=some (.slice aa p.as.length ca):=by simp[World.cell?,hP3]
  have m4:(w1.alloc (.cells #[.int .i64 0,.int .i64 (-1)] 46)).cell? ⟨w.heap.size,4,none⟩=some (.slice ac p.cs.length cc):=by simp[World.cell?,hP3]
  have HP3:=Zhd hP3;have HR3:=Zhd qB;have Js:=Zhd (Jn.out.alloc (by omega) (.cells #[.int .i64 0,.int .i64 (-1)] 46));have HH3:=Zhd (HH2.out.alloc (.cells #[.int .i64 0,.int .i64 (-1)] 46));clear hom J0 ji qH hP3 qB;go_wp2_with fail;refine(Zip H p _ _ _ _ _ HP.out ks yO.out HND.out s1 s2 _ HH3.out).mono ?_;rintro r w2 ⟨A,vA,rfl,hAl,hAf,hAb,qk,Hm⟩;obtain⟨aA,cA,rfl⟩:=qk.len;rw[hAl] at qk ⊢;have HVA:=Zhd qk;have HAF:=Zhd hAf;have yH:=Zhd hAl;have HAB:=Zhd hAb;have hz3:=Js.out.size;have hz4:=Hm.size;simp only[Ybw,World.size_alloc] at hz4 Hm;have gn:=Zhd (Js.out.trans (Hm.mono (by omega)));have QC:=Zhd ((Hm.block w.heap.size (by omega)).trans HP3.out);have HR4:=Zhd ((Hm.block (w.heap.size+1) (by omega)).trans HR3.out);have HH4:=Zhd (HH3.out.below (by simpa[Ybw] using Hm));have HPA:=Zhd (HP.out.le (show H.le (Zan w2) from HH4.out));clear qk hAf hAl hAb Hm HP3 HR3 Js HH3 gK qc Jn HH2 m0 m1 m2 m3 m4;go_wp2_with fail;go_loopw[6,7] (λi u7 wr=>∃k:Nat,i=.int .i64 k/\k<=p.fl.length/\Ybw w2 wr/\∀j (hj:j<p.fl.length),j<k->hit p p.fl[j].name=false) (λi _ _=>p.fl.length - (intOf i).toNat)
  case atStart=>exact⟨0,rfl,Nat.zero_le _,Below.refl _ _,λj _ h=>by omega⟩
  obtain⟨k,rfl,hk,hb,Jo⟩:=hrel;have HB:=Zhd hb;have JR:=Zhd Jo;clear hb Jo;have hP5:=(HB.out.block w.heap.size (by omega)).trans QC.out;have m1:wr.cell? ⟨w.heap.size,1,none⟩=some (.slice ao p.outs.length co):=by simp[World.cell?,hP5]
  have m2:wr.cell? ⟨w.heap.size,2,none⟩=some (.slice al p.fl.length cl):=by simp[World.cell?,hP5]
  have m3:wr.cell? ⟨w.heap.size,3,none⟩=some (.slice aa p.as.length ca):=by simp[World.cell?,hP5]
  by_cases Hd:k<p.fl.length
  .have vG:(k:Int)<p.fl.length:=by omega
   have zw:=QC.out;have k1:(Zan w2).cell w.heap.size 1=some (.slice ao p.outs.length co):=by rw[Zaj];simp[World.cell?,zw]
   have k2:(Zan w2).cell w.heap.size 2=some (.slice al p.fl.length cl):=by rw[Zaj];simp[World.cell?,zw]
   obtain⟨bb,off,Qd,he,_,_,JJ⟩:=FlsV.cell HPA.out.fl (λe=>by rw[e] at Hd;simp at Hd);cases he;obtain⟨ax,cx,d0,d1,d2,d3,d4,d5,hx⟩:=JJ k Hd;have Hq:(Zan w2).In wr.drew:=(Za9 w2).below HB.out.drew;have HIT:=Zhd (show hit p p.fl[k].name=(decide (Zac p p.fl[k].name=2) || decide (Zac p p.fl[k].name=1)&&p.outs.contains p.fl[k].name) from rfl);have ke:=Zhd (show hit p p.fl[k].name=true->Za2 p=(7,(k:Int)) from λh=>Zjx gO.out k Hd h JR.out);have kf:=Zhd (show hit p p.fl[k].name=false->∀j (hj:j<p.fl.length),j<k+1->hit p p.fl[j].name=false from λh j hj jV=>by
    by_cases hjk':j<k
    .exact JR.out j hj hjk'
    obtain rfl:j=k:=by omega
    exact h)
   clear JJ d1 d2 d3 d4 d5 hx zw hP5;have ge:=Zhd (fLate_get HND.out A yH.out k Hd);rw[HAF.out] at ge;have hkA:k<A.length:=by rw[yH.out];exact Hd
   have hvA2:Ze1 (Zan w2) A (.slice aA A.length cA):=by rw[yH.out];exact HVA.out
   obtain⟨bA,oA,xj,_,a0⟩:=SlV.at hvA2 hkA;cases xj;have a0:(Zan w2).cell bA (oA+k * 1+0)=some (.int .i64 A[k]):=a0;simp only[Nat.mul_one,Nat.add_zero] at a0;have n0:=((Za9 w2).below HB.out.drew).cell a0;clear a0 hvA2;generalize hak:A[k]=ak at *;clear hak;generalize p.fl[k]=x at *;rw[<- ge.out] at n0;obtain⟨hc,hhc⟩:∃b,b=p.outs.contains x.name:=⟨_,rfl⟩;have HCO:=Zhd (λ(wz:World) (hz:(Zan w2).In wz)=>(rhas_any _ _ p.outs x.name wz HPA.out.outs (by omega) hz));rw[<- hhc] at HCO HIT;clear hhc;generalize Zac p x.name=q at *;go_wp2_with fail;refine Zae (λw'=>(Zan w2).In w') (λ_=>True) 99 (by kernel_rfl) ?_;refine Go.w3 0 ?_
   iterate 8 ((first|(refine tk3 (v:=?_) rfl Hq Ztr ?hy ?_;(case hy=>intro w Hi;obtain⟨z0,z1,z2⟩:=Hi.c3 k1 k2 d0;go_simp<;>with_reducible rfl))|refine sk3 rfl Hq Ztr ?_|refine no3 ?_);refine Zss ?_)
   refine Go.w3e ?_;refine Zwo 8 rfl λK_ hK=>?_;go_simp;go_at_call 54;refine(HCO.out _ Hq).mono ?_;rintro r w3 ⟨rfl,rfl⟩;refine hK.out _ _ (Hq) Ztr ?_;clear hK K_;refine Zst ?_;refine tk2 (i:=9) (v:=?_) rfl Hq Ztr ?hy ?_
   case hy=>intro w Hi;obtain⟨z0,z1,z2⟩:=Hi.c3 k1 k2 d0;go_simp<;>with_reducible rfl
   refine Zst ?_;refine Zwd ?_;have zQ:=Zhd HB.out.drew;have kN:wr.drew.heap[w.heap.size+1]?=_:=(zQ.out.block (w.heap.size+1) (by omega)).trans HR4.out;have jm:q=2\/(q=1/\hc=true)\/(q=1/\hc=false)\/(q≠2/\q≠1):=by
    by_cases a:q=2
    .exact .inl a
    by_cases b:q=1
    .cases hc
     .exact .inr (.inr (.inl ⟨b,rfl⟩))
     exact .inr (.inl ⟨b,rfl⟩)
    exact .inr (.inr (.inr ⟨a,b⟩))
   rcases jm with rfl|⟨rfl,rfl⟩|⟨rfl,rfl⟩|⟨kY,JE⟩
   .have HX:=Zhd (ke.out (by rw[HIT.out];rfl));exact mRfL3
   .have HX:=Zhd (ke.out (by rw[HIT.out];rfl));exact mRfL3
   .have HX:=Zhd (kf.out (by rw[HIT.out];rfl));clear kN;go_wp2_with fail;go_roundw
    case rel=>exact⟨k+1,by go_num,by omega,zQ.out,HX.out⟩
    simp[intOf];omega
   have e2:(q==2)=false:=by simpa using kY
   have e1:(q==1)=false:=by simpa using JE
   have HX:=Zhd (kf.out (by rw[HIT.out];simp[kY,JE]));clear kN;go_wp2_with fail;go_roundw
   case rel=>exact⟨k+1,by go_num,by omega,zQ.out,HX.out⟩
   simp[intOf];omega
  obtain rfl:k=p.fl.length:=by omega
  have HE:=Zhd (Zjy gO.out λj hj=>JR.out j hj hj);clear JR Hd;have HBq:=HB;have HMA:=Zhd (show ∀e∈p.as,e∈p.terms from λe he=>by simp[Pr.terms,he]);have ya:=Zhd (show ∀e∈p.cs,e∈p.terms from λe he=>by simp[Pr.terms,he]);go_wp2_with fail;clear m1 m2 m3 hP5;go_loopw[8] (λi wr=>∃k:Nat,i=.int .i64 k/\k<=p.as.length/\Ybw w2 wr/\∀j (hj:j<p.as.length),j<k->lateOf (Zac p) p.as[j]<=0) (λi _=>p.as.length - (intOf i).toNat)
  case atStart=>exact⟨0,rfl,Nat.zero_le _,HBq.out,λj _ h=>by omega⟩
  obtain⟨k,rfl,hk,hb,Jo⟩:=hrel;have HB:=Zhd hb;have JR:=Zhd Jo;clear hb Jo;have hP5:=(HB.out.block w.heap.size (by omega)).trans QC.out;have m3:wr.cell? ⟨w.heap.size,3,none⟩=some (.slice aa p.as.length ca):=by simp[World.cell?,hP5]
  by_cases Hd:k<p.as.length
  .have vG:(k:Int)<p.as.length:=by omega
   have zw:=QC.out;have k0:(Zan w2).cell w.heap.size 0=some (.slice ai p.ins.length ci):=by rw[Zaj];simp[World.cell?,zw]
   have k1:(Zan w2).cell w.heap.size 1=some (.slice ao p.outs.length co):=by rw[Zaj];simp[World.cell?,zw]
   have k2:(Zan w2).cell w.heap.size 2=some (.slice al p.fl.length cl):=by rw[Zaj];simp[World.cell?,zw]
   have k3:(Zan w2).cell w.heap.size 3=some (.slice aa p.as.length ca):=by rw[Zaj];simp[World.cell?,zw]
   have k4:(Zan w2).cell w.heap.size 4=some (.slice ac p.cs.length cc):=by rw[Zaj];simp[World.cell?,zw]
   obtain⟨bb,off,ax,cx,he,d0,d1,d2,d3,hx⟩:=ExsV.at HPA.out.asr Hd;cases he;have Hq:(Zan w2).In wr.drew:=(Za9 w2).below HB.out.drew;have ke:=Zhd (show 0<lateOf (Zac p) p.as[k]->Za2 p=(7, -1) from λh=>by
    rw[HE.out,if_pos];rw[List.any_eq_true];exact⟨p.as[k],List.mem_append_left _ (Ymm Hd),by simpa using h⟩)
   have kf:=Zhd (show lateOf (Zac p) p.as[k]<=0->∀j (hj:j<p.as.length),j<k+1->lateOf (Zac p) p.as[j]<=0 from λh j hj jV=>by
    by_cases hjk':j<k
    .exact JR.out j hj hjk'
    obtain rfl:j=k:=by omega
    exact h)
   have jD:=zm.out _ (HMA.out _ (Ymm Hd));have Jy:=HPM.out _ (HMA.out _ (Ymm Hd));have vd:=Zhd (λ(wz:World) (hz:(Zan w2).In wz)=>Zio p _ _ _ _ _ A yH.out HAB.out s1 ks p.as[k] jD Jy (Zan w2) _ _ hx HPA.out HVA.out wz hz);rw[HAF.out] at vd;clear jD Jy hx zw hP5;generalize lateOf (Zac p) p.as[k]=q at *;generalize p.as[k]=x at *;exact mRfL2
  obtain rfl:k=p.as.length:=by omega
  have HNA:=Zhd (λj (hj:j<p.as.length)=>JR.out j hj hj);have HBr:=HB;clear JR Hd;go_wp2_with fail;go_loopw[9] (λi wr=>∃k:Nat,i=.int .i64 k/\k<=p.cs.length/\Ybw w2 wr/\∀j (hj:j<p.cs.length),j<k->lateOf (Zac p) p.cs[j]<=0) (λi _=>p.cs.length - (intOf i).toNat)
  case atStart=>exact⟨0,rfl,Nat.zero_le _,HBr.out,λj _ h=>by omega⟩
  obtain⟨k,rfl,hk,hb,Jo⟩:=hrel;have HB:=Zhd hb;have JR:=Zhd Jo;clear hb Jo;have hP5:=(HB.out.block w.heap.size (by omega)).trans QC.out;have m4:wr.cell? ⟨w.heap.size,4,none⟩=some (.slice ac p.cs.length cc):=by simp[World.cell?,hP5]
  by_cases Hd:k<p.cs.length
  .have vG:(k:Int)<p.cs.length:=by omega
   have zw:=QC.out;have k0:(Zan w2).cell w.heap.size 0=some (.slice ai p.ins.length ci):=by rw[Zaj];simp[World.cell?,zw]
   have k1:(Zan w2).cell w.heap.size 1=some (.slice ao p.outs.length co):=by rw[Zaj];simp[World.cell?,zw]
   have k2:(Zan w2).cell w.heap.size 2=some (.slice al p.fl.length cl):=by rw[Zaj];simp[World.cell?,zw]
   have k3:(Zan w2).cell w.heap.size 3=some (.slice aa p.as.length ca):=by rw[Zaj];simp[World.cell?,zw]
   have k4:(Zan w2).cell w.heap.size 4=some (.slice ac p.cs.length cc):=by rw[Zaj];simp[World.cell?,zw]
   obtain⟨bb,off,ax,cx,he,d0,d1,d2,d3,hx⟩:=ExsV.at HPA.out.chk Hd;cases he;have Hq:(Zan w2).In wr.drew:=(Za9 w2).below HB.out.drew;have ke:=Zhd (show 0<lateOf (Zac p) p.cs[k]->Za2 p=(7, -1) from λh=>by
    rw[HE.out,if_pos];rw[List.any_eq_true];exact⟨p.cs[k],List.mem_append_right _ (Ymm Hd),by simpa using h⟩)
   have kf:=Zhd (show lateOf (Zac p) p.cs[k]<=0->∀j (hj:j<p.cs.length),j<k+1->lateOf (Zac p) p.cs[j]<=0 from λh j hj jV=>by
    by_cases hjk':j<k
    .exact JR.out j hj hjk'
    obtain rfl:j=k:=by omega
    exact h)
   have jD:=zm.out _ (ya.out _ (Ymm Hd));have Jy:=HPM.out _ (ya.out _ (Ymm Hd));have vd:=Zhd (λ(wz:World) (hz:(Zan w2).In wz)=>Zio p _ _ _ _ _ A yH.out HAB.out s1 ks p.cs[k] jD Jy (Zan w2) _ _ hx HPA.out HVA.out wz hz);rw[HAF.out] at vd;clear jD Jy hx zw hP5;generalize lateOf (Zac p) p.cs[k]=q at *;generalize p.cs[k]=x at *;exact mRfL2
  obtain rfl:k=p.cs.length:=by omega
  have HNC:=Zhd (λj (hj:j<p.cs.length)=>JR.out j hj hj);have HBs:=HB;clear JR Hd;go_wp2_with fail;have HX:=Zhd (show Za2 p=(0, -1) from by
   rw[HE.out,if_neg];intro h;obtain⟨e,he,h0⟩:=List.any_eq_true.1 h;have h0:0<lateOf (Zac p) e:=by simpa using h0
   rcases List.mem_append.1 he with h1|h1
   .obtain⟨i,hi,rfl⟩:=List.mem_iff_getElem.1 h1;have:=HNA.out i hi;omega
   obtain⟨i,hi,rfl⟩:=List.mem_iff_getElem.1 h1;have:=HNC.out i hi;omega)
  refine(fine_any _).mono ?_;rintro r w5 ⟨rfl,Jf⟩;have kg:=Zhd (HBs.out.trans (Jf.mono HBs.out.size));have kN:=(kg.out.block (w.heap.size+1) (by omega)).trans HR4.out;obtain⟨q0,q1,f0,f1,kt⟩:=Zed kN;obtain⟨e0,e1,e2,e3⟩:=Zhy kN (.int .i64 0) (.int .i64 (-1));have E0:=Zhd e0;have E1:=Zhd e1;clear e0 e1 e2 e3 kN;go_wp2_with fail;have e0:=E0.out;have e1:=E1.out;refine bodyPost_ret (v:=.agg #[.int .i64 0,.int .i64 (-1)]) (by simp[results,Tryz.results31,go_sem,e0,e1]) rfl ?_;exact⟨by rw[HX.out];rfl,Zd2 (gn.out.trans (kg.out.mono (by omega))) (by omega) _ _⟩
theorem mRr1{p:Prop}(h:p:=by
 clear ka;go_wp2_with fail;refine(Zk1 _ _).mono ?_;rintro r0 w4 ⟨rfl,jw⟩;have hR:=(jw.block _ (Zlt hR)).trans hR;have hB:=hB.trans (jw.mono hB.size);clear s0 s1;obtain⟨_,_,f0,f1,_⟩:=Zal hR;obtain⟨e0,e1,_,_⟩:=Zbb hR (.int .i64 2) (.int .i64 (-1));have E0:=Zhd e0;have E1:=Zhd e1;have HBF:=Zhd (Zb0 hB (Nat.le_succ w.heap.size) (.int .i64 2) (.int .i64 (-1)));clear e0 e1;go_wp2_with(guard_target =~ bodyPost _ _ _ _ _ _;have e0:=E0.out;have e1:=E1.out;refine bodyPost_ret (v:=.agg #[.int .i64 2,.int .i64 (-1)]) (by simp[results,Tryz.results9,go_sem,e0,e1]) rfl ?_;exact⟨by rw[HE.out]<;>rfl,HBF.out⟩)):p:=h
theorem inpsTo_zero(ins:List Vr)(l:List Vl):Zas ins l 0=decide (l.length=ins.length):=by simp[Zas]
theorem inpsTo_len(ins:List Vr)(l:List Vl)(n:Nat)(h:¬l.length=ins.length):Zas ins l n=false:=by simp[Zas,h]
theorem rightIn_any(H:Kn)(p:Pr)(vi vo vl va vc:Value)(hp:PrP H p vi vo vl va vc)(l:List Vl)(vv:Value)(hv:VlsV H l vv)(hz:p.ins.length<=1000000000/\l.length<=1000000000)(w:World)(hH:H.In w):
  Calls Tryz.prog 11 #[.agg #[vi,vo,vl,va,vc],vv] w λr w'=>r=.returned (.bool (Zas p.ins l l.length))/\Ybw w w':=by
 obtain⟨z1,z2⟩:=hz;obtain⟨h1,h2,h3,h4,h5⟩:=hp;obtain⟨ai,ci,ao,co,al,cl,aa,ca,ac,cc,rfl,rfl,rfl,rfl,rfl⟩:=Ypo h1.len h2.len h3.len h4.len h5.len;obtain⟨av,cv,rfl⟩:=hv.len;have H1:=Zhd h1;have HV:=Zhd hv;clear h1 h2 h3 h4 h5 hv;have Hg:=(Below.refl w.heap.size w).alloc Ylr (.cells (Yq5 p ai ao al aa ac ci co cl ca cc) 27);have Hr:=(show w.heap.size<(w.alloc (.cells (Yq5 p ai ao al aa ac ci co cl ca cc) 27)).heap.size from by simp);obtain⟨K,JQ⟩:∃K,K=H.add w.heap.size (.cells (Yq5 p ai ao al aa ac ci co cl ca cc) 27 (0,0)):=⟨_,rfl⟩;have He:H.le K:=JQ▸Kn.le_add (hH.isNone Ylr);have Hk:K.In (w.alloc (.cells (Yq5 p ai ao al aa ac ci co cl ca cc) 27)):=JQ▸(hH.below Hg).add (heap_alloc_new _ _);have k0:K.cell w.heap.size 0=some (.slice ai p.ins.length ci):=by unfold Kn.cell;rw[JQ,Kn.add_self];rfl
 have q0:=Hk.cell k0;have HB:=Zhd Hg;have HI:=Zhd Hk;clear JQ Hg hH Hk;go_enter Tryz.func11,Tryz.ntmps11;by_cases Ho:l.length=p.ins.length
 .have hq:((l.length:Int) != (p.ins.length:Int))=false:=by simp[Ho]
  have HLN:=Zhd Ho;clear Ho;go_wp2_with fail;generalize w.alloc (.cells (Yq5 p ai ao al aa ac ci co cl ca cc) 27)=W at *;go_loopw[5] (λz wr=>∃m:Nat,z=.int .i64 m/\m<=l.length/\Ybw w wr/\K.In wr/\Zas p.ins l m=true) (λz _=>l.length - (intOf z).toNat)
  case atStart=>exact⟨0,rfl,Nat.zero_le _,HB.out,HI.out,by rw[inpsTo_zero];exact decide_eq_true HLN.out⟩
  obtain⟨m,rfl,hm,hb,hK,jW⟩:=hrel;have HGD:=Zhd jW;clear jW;by_cases JO:m<l.length
  .obtain⟨b1,o1,ha1,c0,c1⟩:=Zd4 HV.out JO;obtain⟨b2,o2,ha2,_,d0,d1⟩:=SlV.at H1.out (show m<p.ins.length from by rw[<- HLN.out];exact JO);subst ha1 ha2;have c0:=He.cell c0;have c1:=He.cell c1;have d1:=He.cell d1;have gV:m<p.ins.length:=by rw[<- HLN.out];exact JO
   have Jz:=Zhd (show Zas p.ins l (m+1)=(Zas p.ins l m&&Zaq l[m] p.ins[m].kind) from by
    rw[Zh6];simp[Ygg,JO,gV])
   generalize l[m]=y at *;generalize p.ins[m]=v at *;have hS:K.In wr.drew:=hK;go_wp2_with fail;refine Zae (K.In) (λ_=>True) 99 (by kernel_rfl) ?_;refine Go.w3 0 ?_
   iterate 10 ((first|(refine tk3 (v:=?_) rfl hS Ztr ?hy ?_;(case hy=>intro w Hi;obtain⟨z0,z1,z2,z3⟩:=Hi.c4 k0 c0 c1 d1;go_simp<;>with_reducible rfl))|refine sk3 rfl hS Ztr ?_|refine no3 ?_);refine Zss ?_)
   refine Go.w3e ?_;refine Zwo 10 rfl λK_ hK=>?_;go_simp;go_at_call 33;refine(rright_any y v.kind _).mono ?_;rintro r0 w2 ⟨rfl,Hm⟩;have Hq:=hS.below Hm;have zK:=hb.trans ((show Ybw wr w2 from(Below.refl _ _).drew.trans Hm).mono hb.size);refine hK.out _ _ (Hq) Ztr ?_;clear hK K_
   try simp only[tkS]
   refine Go.w3 11 ?_
   iterate 1 ((first|(refine tk3 (v:=?_) rfl Hq Ztr ?hy ?_;(case hy=>intro w Hi;obtain⟨z0,z1,z2,z3⟩:=Hi.c4 k0 c0 c1 d1;go_simp<;>with_reducible rfl))|refine sk3 rfl Hq Ztr ?_|refine no3 ?_);refine Zss ?_)
   refine Go.w3e ?_;refine Zwd ?_;cases qU:Zaq y v.kind
   .go_wp2_with fail;go_ret;exact⟨Za7 (Zka _ _ _ (by rw[Jz.out,qU,Bool.and_false]) _ (by omega)).symm,zK⟩
   go_wp2_with fail;go_roundw
   case rel=>exact⟨m+1,by go_num,by omega,zK,Hq,by rw[Jz.out,HGD.out,qU];rfl⟩
   simp[intOf];omega
  obtain rfl:m=l.length:=by omega
  go_wp2_with fail;go_ret;exact⟨Za7 HGD.out.symm,hb⟩
 have hq:((l.length:Int) != (p.ins.length:Int))=true:=by simp;omega
 have Jo:Zas p.ins l l.length=false:=inpsTo_len _ _ _ Ho;clear Ho;go_wp2_with fail;go_ret;exact⟨Za7 Jo.symm,HB.out⟩
theorem runFault_any(H:Kn)(p:Pr)(vi vo vl va vc:Value)(hp:PrP H p vi vo vl va vc)(s1:p.fl.length<=1000000)(s2:Ex.partsL p.terms<=1000000000)(s3:p.ins.length<=100000000/\p.outs.length<=100000000/\p.as.length<=100000000/\p.cs.length<=100000000)(ins:List (List Vl))(vin:Value)(hi:InsV H ins vin)(s4:ins.length<=1000000000/\∀l∈ins,l.length<=1000000000)(ni:Int)(w:World)(hH:H.In w):
  Calls Tryz.prog 9 #[.agg #[vi,vo,vl,va,vc],vin,.int .i64 ni] w λr w'=>r=.returned (.agg #[.int .i64 (runE p ins ni).1,.int .i64 (runE p ins ni).2])/\Ybw w w':=by
 have yQ:=Zhd (λK (He:H.le K) wz (hz:K.In wz)=>checkOf_any K p vi vo vl va vc (hp.le He) s1 s2 s3 wz hz);have HRI:=Zhd (λK (He:H.le K) l vv (hv:VlsV K l vv) (hl:l.length<=1000000000) wz (hz:K.In wz)=>rightIn_any K p vi vo vl va vc (hp.le He) l vv hv ⟨by omega,hl⟩ wz hz);obtain⟨h1,h2,h3,h4,h5⟩:=hp;obtain⟨ai,ci,ao,co,al,cl,aa,ca,ac,cc,rfl,rfl,rfl,rfl,rfl⟩:=Ypo h1.len h2.len h3.len h4.len h5.len;obtain⟨av,cv,rfl⟩:=hi.len;have HV:=Zhd hi;obtain⟨z1,z2⟩:=s4;have HZ:=Zhd z2;clear h1 h2 h3 h4 h5 hi z2 s2 s3;have Hg:Ybw w ((w.alloc (.cells (Yq5 p ai ao al aa ac ci co cl ca cc) 27)).alloc (.cells Yo2 46)):=Yba.alloc (by simp) _;obtain⟨K,JQ⟩:∃K,K=H.add w.heap.size (.cells (Yq5 p ai ao al aa ac ci co cl ca cc) 27 (0,0)):=⟨_,rfl⟩;have He:H.le K:=JQ▸Kn.le_add (hH.isNone Ylr);have Hk:K.In ((w.alloc (.cells (Yq5 p ai ao al aa ac ci co cl ca cc) 27)).alloc (.cells Yo2 46)):=JQ▸(hH.below Hg).add (by rw[Below.heap_alloc _ _ _ (by simp)];exact heap_alloc_new _ _);have JS:K (w.heap.size+1)=none:=by rw[JQ,Kn.add_other _ _ (by omega)];exact hH.isNone (by omega)
 have jj:∀j,K.cell w.heap.size j=((Yq5 p ai ao al aa ac ci co cl ca cc):Array Value)[j]?:=λj=>by unfold Kn.cell;rw[JQ,Kn.add_self]
 have k0:K.cell w.heap.size 0=some (.slice ai p.ins.length ci):=jj 0;have k1:K.cell w.heap.size 1=some (.slice ao p.outs.length co):=jj 1;have k2:K.cell w.heap.size 2=some (.slice al p.fl.length cl):=jj 2;have k3:K.cell w.heap.size 3=some (.slice aa p.as.length ca):=jj 3;have k4:K.cell w.heap.size 4=some (.slice ac p.cs.length cc):=jj 4;have hR:((w.alloc (.cells (Yq5 p ai ao al aa ac ci co cl ca cc) 27)).alloc (.cells Yo2 46)).heap[w.heap.size+1]?=some (.cells Yo2 46 (0,0)):=by
  rw[show w.heap.size+1=(w.alloc (.cells (Yq5 p ai ao al aa ac ci co cl ca cc) 27)).heap.size from by simp];exact heap_alloc_new _ _
 have q0:=Hk.cell k0;have q1:=Hk.cell k1;have q2:=Hk.cell k2;have q3:=Hk.cell k3;have q4:=Hk.cell k4;clear jj JQ hH;go_enter Tryz.func9,Tryz.ntmps9;go_upto_region 1 with(fail)
 generalize (w.alloc (.cells (Yq5 p ai ao al aa ac ci co cl ca cc) 27)).alloc (.cells Yo2 46)=W at *;go_wp2_with fail;refine(yQ.out K He _ Hk).mono ?_;rintro r0 w1 ⟨rfl,Hv⟩;obtain⟨⟨cn,ca'⟩,J0⟩:∃z,Za2 p=z:=⟨_,rfl⟩;have HE:=Zhd (show runE p ins ni=if (Za2 p).1≠0 then Za2 p else if 300<ins.length\/ni < -128\/127<ni then(2, -1) else match ins.findIdx? (λl => !Zas p.ins l l.length) with|some i=>(5,(i:Int))|none=>(0, -1) from rfl);rw[J0] at HE ⊢;dsimp only at HE ⊢;have hR:=(Hv.block _ (Zlt hR)).trans hR;have hR:=(Below.heap_alloc w1 (.cells #[.int .i64 (cn:Nat),.int .i64 ca'] 46) _ (Zlt hR)).trans hR;have Hk:=(Hk.below Hv).alloc (.cells #[.int .i64 (cn:Nat),.int .i64 ca'] 46);have hB:=(Hg.trans (Hv.mono Hg.size)).alloc (Nat.le_trans Hg.size Hv.size) (.cells #[.int .i64 (cn:Nat),.int .i64 ca'] 46);obtain⟨s0,s1,_,_,_⟩:=Zal (heap_alloc_new w1 (.cells #[.int .i64 (cn:Nat),.int .i64 ca'] 46));clear J0 q0 q1 q2 q3 q4 Hg Hv;by_cases ze:cn=0
 rotate_left
 .rw [if_pos ze] at HE;have Qs:decide ((0:Int)<(cn:Int))=true:=by simp;omega
  go_upto_region 3 with(fail)
  generalize w1.alloc (.cells #[.int .i64 (cn:Nat),.int .i64 ca'] 46)=W3 at *;obtain⟨_,_,f0,f1,_⟩:=Zal hR;obtain⟨e0,e1,_,_⟩:=Zbb hR (.int .i64 (cn:Nat)) (.int .i64 ca');have E0:=Zhd e0;have E1:=Zhd e1;have HBF:=Zhd (Zb0 hB (Nat.le_succ w.heap.size) (.int .i64 (cn:Nat)) (.int .i64 ca'));clear e0 e1;go_wp2_with(guard_target =~ bodyPost _ _ _ _ _ _;have e0:=E0.out;have e1:=E1.out;refine bodyPost_ret (v:=.agg #[.int .i64 (cn:Nat),.int .i64 ca']) (by simp[results,Tryz.results9,go_sem,e0,e1]) rfl ?_;exact⟨by rw[HE.out]<;>rfl,HBF.out⟩)
 subst ze;rw[if_neg (by simp)] at HE;by_cases ka:300<ins.length\/ni < -128\/127<ni
 .rw [if_pos ka] at HE;rcases(show(300<ins.length)\/(¬300<ins.length/\ni < -128)\/(¬300<ins.length/\¬ni < -128/\127<ni) from by omega) with g|⟨g,g2⟩|⟨g,g2,g3⟩
  .skip;exact mRr1
  .skip;exact mRr1
  skip;exact mRr1
 rw[if_neg ka] at HE;obtain⟨g1,g2,g3⟩:¬300<ins.length/\¬ni < -128/\¬127<ni:=by omega
 clear ka;go_wp2_with fail;generalize w1.alloc (.cells #[.int .i64 ((0:Nat):Int),.int .i64 ca'] 46)=W3 at *;have HIN:=Zhd Hk;have HB:=Zhd hB;have HR:=Zhd hR;clear Hk hB hR;go_loopw[8] (λz wr=>∃m:Nat,z=.int .i64 m/\m<=ins.length/\Ybw w wr/\K.In wr/\wr.heap[w.heap.size+1]?=some (.cells Yo2 46 (0,0))/\∀q (h:q<ins.length),q<m->Zas p.ins ins[q] ins[q].length=true) (λz _=>ins.length - (intOf z).toNat)
 case atStart=>exact⟨0,rfl,Nat.zero_le _,HB.out,HIN.out,HR.out,λq _ h=>by omega⟩
 obtain⟨m,rfl,hm,hB,hK,hR,jW⟩:=hrel;have HGD:=Zhd jW;clear jW;by_cases JO:m<ins.length
 .obtain⟨b1,o1,a2,c2,ha1,c0,zq⟩:=InsV.at HV.out JO;subst ha1;have c0:=He.cell c0;have vd:=Zhd (λwz hz=>HRI.out K He ins[m] (.slice a2 ins[m].length c2) (SlV.le zq He VlC.mono) (HZ.out _ (Ymm JO)) wz hz);have ge:=Zhd (show Zas p.ins ins[m] ins[m].length=true->∀q (h:q<ins.length),q<m+1->Zas p.ins ins[q] ins[q].length=true from λh q hq hqm=>by
   by_cases e:q=m
   .subst e;exact h
   exact HGD.out q hq (by omega))
  have xG:=Zhd (show Zas p.ins ins[m] ins[m].length=false->ins.findIdx? (λl => !Zas p.ins l l.length)=some m from λh=>by
   rw[List.findIdx?_eq_some_iff_getElem];exact⟨JO,by simp[h],λj hj=>by simp[HGD.out j (by omega) hj]⟩)
  have HGM:=Zhd HGD.out;clear zq;generalize ins[m]=y at *;have hS:K.In wr.drew:=hK;go_wp2_with fail;refine Zae (K.In) (λ_=>True) 99 (by kernel_rfl) ?_;refine Go.w3 0 ?_
  iterate 5 ((first|(refine tk3 (v:=?_) rfl hS Ztr ?hy ?_;(case hy=>intro w Hi;obtain⟨z0,z1,z2,z3,z4,z5⟩:=Hi.c6 k0 k1 k2 k3 k4 c0;go_simp<;>with_reducible rfl))|refine sk3 rfl hS Ztr ?_|refine no3 ?_);refine Zss ?_)
  refine Go.w3e ?_;refine Zwo 5 rfl λK_ hK=>?_;go_simp;go_at_call 11;refine(vd.out _ hS).mono ?_;rintro r0 w4 ⟨rfl,jw⟩;have yu:=hS.below jw;have hx4:=(show Ybw wr w4 from(Below.refl _ _).drew.trans jw);have hB:=hB.trans (hx4.mono hB.size);have hR:=(hx4.block _ (Zlt hR)).trans hR;refine hK.out _ _ (yu) Ztr ?_;clear hK K_
  try simp only[tkS]
  refine Go.w3 6 ?_
  iterate 1 ((first|(refine tk3 (v:=?_) rfl yu Ztr ?hy ?_;(case hy=>intro w Hi;obtain⟨z0,z1,z2,z3,z4,z5⟩:=Hi.c6 k0 k1 k2 k3 k4 c0;go_simp<;>with_reducible rfl))|refine sk3 rfl yu Ztr ?_|refine no3 ?_);refine Zss ?_)
  refine Go.w3e ?_;refine Zwd ?_;cases qU:Zas p.ins y y.length
  .rw [xG.out qU] at HE;dsimp only at HE;obtain⟨_,_,f0,f1,_⟩:=Zal hR;obtain⟨e0,e1,_,_⟩:=Zbb hR (.int .i64 5) (.int .i64 (m:Nat));have E0:=Zhd e0;have E1:=Zhd e1;have HBF:=Zhd (Zb0 hB (Nat.le_succ w.heap.size) (.int .i64 5) (.int .i64 (m:Nat)));clear e0 e1;go_wp2_with(guard_target =~ bodyPost _ _ _ _ _ _;have e0:=E0.out;have e1:=E1.out;refine bodyPost_ret (v:=.agg #[.int .i64 5,.int .i64 (m:Nat)]) (by simp[results,Tryz.results9,go_sem,e0,e1]) rfl ?_;exact⟨by rw[HE.out]<;>rfl,HBF.out⟩)
  have ge:=Zhd (ge.out qU);go_wp2_with fail;go_roundw
  case rel=>exact⟨m+1,by go_num,by omega,hB,yu,hR,ge.out⟩
  simp[intOf];omega
 obtain rfl:m=ins.length:=by omega
 rw[List.findIdx?_eq_none_iff.2 (λl hl=>by
  obtain⟨j,hj,rfl⟩:=List.mem_iff_getElem.1 hl;simp[HGD.out j hj hj])] at HE
 dsimp only at HE;go_wp2_with fail;refine(fine_any _).mono ?_;rintro r0 w4 ⟨rfl,jw⟩;have hR:=(jw.block _ (Zlt hR)).trans hR;have hB:=hB.trans (jw.mono hB.size);obtain⟨_,_,f0,f1,_⟩:=Zal hR;obtain⟨e0,e1,_,_⟩:=Zbb hR (.int .i64 0) (.int .i64 (-1));have E0:=Zhd e0;have E1:=Zhd e1;have HBF:=Zhd (Zb0 hB (Nat.le_succ w.heap.size) (.int .i64 0) (.int .i64 (-1)));clear e0 e1;go_wp2_with(guard_target =~ bodyPost _ _ _ _ _ _;have e0:=E0.out;have e1:=E1.out;refine bodyPost_ret (v:=.agg #[.int .i64 0,.int .i64 (-1)]) (by simp[results,Tryz.results9,go_sem,e0,e1]) rfl ?_;exact⟨by rw[HE.out]<;>rfl,HBF.out⟩)
end Go.Proofs.YtafapnolamcdmaaGreatDoor
