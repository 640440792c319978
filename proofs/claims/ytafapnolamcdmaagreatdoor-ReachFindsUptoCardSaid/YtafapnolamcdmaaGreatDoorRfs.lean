/- Walks: lustrumlaw2.ReachFinds. (Printed by gen_rfs.py.) -/
import Derived.Test.YtafapnolamcdmaaGreatDoorStG
import Derived.Test.YtafapnolamcdmaaGreatDoorSe
import Derived.Test.YtafapnolamcdmaaGreatDoorRfL
import Derived.Deep.CutBlock
set_option linter.all false
namespace Go.Proofs.YtafapnolamcdmaaGreatDoor
set_option maxRecDepth 100000
set_option maxHeartbeats 16000000
open Go.RowKit Mx
theorem searchE_le(p:Pr)(choices:List (List Vl))(most:Int):(Zcf p choices most).1<=9/\((Zcf p choices most).2 ≠ -1->1<=(Zcf p choices most).1):=by
 unfold Zcf
 split
 .exact runE_le p [] 0
 split
 .exact⟨by decide,λ_=>by decide⟩
 split
 .exact⟨by simp,λ_=>by simp⟩
 exact⟨by simp,λh=>absurd rfl h⟩
theorem reachFinds_any(H:Kn)(T:Zbv H)(sp:Nat->Addr)(p:Pr)(vi vo vl va vc:Value)(hp:PrP H p vi vo vl va vc)(ins:List (List Vl))(vin:Value)(hi:InsV H ins vin)(J5:p.ins.length<=1048576/\p.outs.length<=1048576/\Ex.weightL p.terms<=1048576/\ins.length<=1048576/\∀x∈ins,x.length<=1048576)(most:Int)(w:World)(hH:H.In w)(S:Zkr w sp)(hET:Zbc w):
  Calls Tryz.prog 3 #[.agg #[vi,vo,vl,va,vc],vin,.int .i64 most] w λr w'=>r=.returned (.bool true)/\Ybw w w':=by
 obtain⟨z1,z2,z3,z4,z5⟩:=J5;have He:∀w1,Ybw w w1->Zbv (Zan w1):=λw1 hb=>T.le (Zbl (hH.below hb));have JZ:=Zhd He;have qn:=Zjg p.terms;have kt:p.fl.length+p.as.length+p.cs.length<=Ex.weightL p.terms:=by
  have h:=Zfu p.terms;have h2:p.terms.length=p.fl.length+p.as.length+p.cs.length:=by simp only[Pr.terms,List.length_append,List.length_map]
  omega
 clear He;have HP:=Zhd hp;obtain⟨h1,h2,h3,h4,h5⟩:=hp;obtain⟨ai,ci,ao,co,al,cl,aa,ca,ac,cc,rfl,rfl,rfl,rfl,rfl⟩:=Ypo h1.len h2.len h3.len h4.len h5.len;obtain⟨an,cn,rfl⟩:=hi.len;have HI:=Zhd hi;have ZA:=Zhd (show ∀x∈ins,x.length<=100000000 from λx hx=>by have:=z5 x hx;omega);clear h1 h2 h3 h4 h5 hi z5;have kT:=heap_alloc_new w (.cells (Yq5 p ai ao al aa ac ci co cl ca cc) 27);have Hg:Ybw w (w.alloc (.cells (Yq5 p ai ao al aa ac ci co cl ca cc) 27)):=Yba;have J4:=Zhd Hg;have gd:=Zhd kT;clear kT Hg;go_enter Tryz.func3,Tryz.ntmps3;go_wp2_with fail;generalize w.alloc (.cells (Yq5 p ai ao al aa ac ci co cl ca cc) 27)=W1 at *;refine(still_any H T sp W1 (hH.below J4.out) (S.below J4.out).five).mono ?_;rintro r w1 ⟨rfl,Hv⟩;have Jn:=Zhd (J4.out.trans (Hv.mono J4.out.size));have yD:=Zhd ((Hv.block w.heap.size (Zlt gd.out)).trans gd.out);obtain⟨⟨m0,m1,m2,m3,m4⟩,_⟩:=Zbm yD.out;go_upto_region 2 with(fail)
 go_cut[37] from 18 to 37 (λc wx=>∃b,c=.bool b/\Ybw w1 wx/\(b=false->heavy p=false/\ins.length<=110/\¬(25<most/\most<=3000)))
 case first=>
  go_wp2_with fail;refine(heavy_any H p _ _ _ _ _ HP.out ⟨by omega,by omega,by omega⟩ w1 (hH.below Jn.out)).mono ?_;rintro r w2 ⟨rfl,Hm⟩;have Jh:=Zhd Hm;unfold heavyI;clear Hm;by_cases hh:heavy p=true
  .rw [if_pos hh];go_wp2_with fail;go_meet
   exact⟨true,rfl,Jh.out,λh=>by cases h⟩
  rw[if_neg hh];by_cases g1:110<ins.length
  .have q1:(110:Int)<ins.length:=by omega
   go_wp2_with fail;go_meet
   exact⟨true,rfl,Jh.out,λh=>by cases h⟩
  have q1:¬(110:Int)<ins.length:=by omega
  have hh2:heavy p=false:=by simpa using hh
  by_cases g2:25<most
  .by_cases g3:most<=3000
   .go_wp2_with fail;go_meet
    exact⟨true,rfl,Jh.out,λh=>by cases h⟩
   go_wp2_with fail;go_meet
   exact⟨false,by rw[decide_eq_false (show ¬(110:Int)<ins.length by omega),decide_eq_false (show ¬most<=3000 by omega)];rfl,Jh.out,λ_=>⟨hh2,by omega,by omega⟩⟩
  go_wp2_with fail;go_meet
  exact⟨false,by rw[decide_eq_false (show ¬(110:Int)<ins.length by omega)],Jh.out,λ_=>⟨hh2,by omega,by omega⟩⟩
 obtain⟨b2,rfl,Hm,hbf⟩:=hcut;obtain⟨w2,hw2⟩:∃w2,w2=wc:=⟨_,rfl⟩;subst hw2;cases b2 with
 |true=>
  have Jh:=Zhd (Jn.out.trans (Hm.mono Jn.out.size));clear Hm hbf;go_wp2_with fail;go_ret;exact⟨rfl,Jh.out⟩
 |false=>
  obtain⟨hh,g1,g2⟩:=hbf rfl;obtain⟨y1,y2,y3⟩:Ex.weightL p.terms<=1500/\p.fl.length<=100/\p.ins.length<=40:=by
   have hh:¬heavy p=true:=by simp[hh]
   unfold heavy at hh;simp only[Bool.or_eq_true,decide_eq_true_eq,not_or,Nat.not_lt] at hh;exact⟨hh.1.1,hh.1.2,hh.2⟩
  clear hh hbf;have Jh:=Zhd (Jn.out.trans (Hm.mono Jn.out.size));have gK:=Zhd ((Hm.block w.heap.size (Zlt yD.out)).trans yD.out);clear m0 m1 m2 m3 m4;obtain⟨⟨m0,m1,m2,m3,m4⟩,_⟩:=Zbm gK.out;go_wp2_with fail;go_loop[8] (λi=>∃k:Nat,k<=ins.length/\i=.int .i64 k/\∀j (hj:j<ins.length),j<k->ins[j].length<=50) (λi=>ins.length - (intOf i).toNat)
  case atStart=>exact⟨0,Nat.zero_le _,rfl,λj _ h=>by omega⟩
  obtain⟨k,hk,rfl,hn⟩:=hrel;have HN:=Zhd hn;clear hn;by_cases Hd:k<ins.length
  .obtain⟨b,off,a2,c2,jE,c0,hx⟩:=HI.out.at Hd;subst jE;have c0:=(hH.below Jh.out).cell c0;by_cases h50:50<ins[k].length
   .have q1:(50:Int)<ins[k].length:=by omega
    clear hx;generalize ins[k]=x at *;go_wp2_with fail;go_ret;exact⟨rfl,Jh.out⟩
   have q1:¬(50:Int)<ins[k].length:=by omega
   have yP:=Zhd (show ∀j (hj:j<ins.length),j<k+1->ins[j].length<=50 from λj hj jV=>by
    by_cases hjk':j<k
    .exact HN.out j hj hjk'
    obtain rfl:j=k:=by omega
    omega)
   clear hx;generalize ins[k]=x at *;go_wp2_with fail;go_round
   case rel=>exact⟨k+1,by omega,by go_num,yP.out⟩
   simp[intOf];omega
  obtain rfl:k=ins.length:=by omega
  have ZX:=Zhd (show ∀x∈ins,x.length<=50 from λx hx=>by
   obtain⟨j,hj,rfl⟩:=List.mem_iff_getElem.1 hx;exact HN.out j hj hj)
  clear HN hk Hd;go_wp2_with fail;refine(flatOf_any p _ _ _ _ _ H HP.out ⟨by omega,by omega,by omega,by omega⟩ _ (hH.below Jh.out)).mono ?_;rintro r w3 ⟨vi3,vo3,vl3,va3,vc3,K3,rfl,jG,hst3⟩;have Js:=Zhd (Jh.out.trans (hst3.below.mono Jh.out.size));have HP3:=Zhd ((hst3.below.block w.heap.size (Zlt gK.out)).trans gK.out);have HQ3:=Zhd (jG.le (Zbl hst3.isin));clear jG hst3;clear m0 m1 m2 m3 m4;obtain⟨⟨m0,m1,m2,m3,m4⟩,_⟩:=Zbm HP3.out;go_wp2_with fail;refine(in_big H ins _ HI.out ⟨by omega,ZA.out⟩ _ (hH.below Js.out)).mono ?_;rintro r w4 ⟨vi4,K4,rfl,yU,hst4⟩;have gn:=Zhd (Js.out.trans (hst4.below.mono Js.out.size));have QC:=Zhd ((hst4.below.block w.heap.size (Zlt HP3.out)).trans HP3.out);have HQ3:=Zhd (HQ3.out.le (Zbl (Zca hst4.below)));have HI4:=Zhd (InsV.le (Zbl hst4.isin) yU);clear yU hst4;clear m0 m1 m2 m3 m4;obtain⟨⟨m0,m1,m2,m3,m4⟩,_⟩:=Zbm QC.out;go_wp2_with fail;refine(search_any (Zan w4) (JZ.out _ gn.out) sp p _ _ _ _ _ HQ3.out ins _ HI4.out most w4 (Za9 w4) (S.below gn.out).five ⟨by omega,by omega,by omega,by omega,by omega⟩ (by omega) ⟨by omega,ZA.out⟩).mono ?_;rintro r w5 ⟨Jf,Hx⟩;have kg:=Zhd (gn.out.trans (Jf.mono gn.out.size));have HP5:=Zhd ((Jf.block w.heap.size (Zlt QC.out)).trans QC.out);clear HQ3 HI4 Jf;clear m0 m1 m2 m3 m4;obtain⟨⟨m0,m1,m2,m3,m4⟩,_⟩:=Zbm HP5.out;obtain⟨RX,Qx⟩:∃RX,Zcf p ins most=RX:=⟨_,rfl⟩;rw[Qx] at Hx;have Jb:∃(n:Int) (ta:Option Addr) (tn tc:Nat) (k:Int) (e:Value),r=.returned (.tuple #[.agg #[.int .i64 n,.slice ta tn tc,.int .i64 k],e])/\((RX.1≠0/\n=0/\tn=0/\k=0/\ErrW sp w5 RX.1 RX.2 e)\/(RX.1=0/\∃ks ord,Zao Env.none p.vars=some ks/\Za5 p=.ok ord/\
    ((Zdd ks ord p ins most.toNat=.over/\n=0/\tn=0/\k=0/\e=esv (sp 1))\/(∃l,Zdd ks ord p ins most.toNat=.ok l/\n=l.length/\InsV (Zan w5) [] (.slice ta tn tc)/\k = -2/\e=.nilIface)\/
    ∃i l c,Zdd ks ord p ins most.toNat=.found i l c k/\n=l.length/\InsV (Zan w5) (Bf.W l i++[c]) (.slice ta tn tc)/\e=.nilIface))):=by
   by_cases h0:RX.1=0
   .rw [if_pos h0] at Hx;obtain⟨ks,ord,h1,h2,h3⟩:=Hx
    split at h3
    .rename_i h4
     exact⟨0,none,0,0,0,_,h3,.inr ⟨h0,ks,ord,h1,h2,.inl ⟨h4,rfl,rfl,rfl,rfl⟩⟩⟩
    .rename_i l h4
     exact⟨_,none,0,0,_,_,h3,.inr ⟨h0,ks,ord,h1,h2,.inr (.inl ⟨l,h4,rfl,.inl ⟨rfl,none,0,rfl⟩,rfl,rfl⟩)⟩⟩
    rename_i i l c k h4
    obtain⟨v,rfl,hv⟩:=h3;obtain⟨ta,tc,rfl⟩:=hv.len;exact⟨_,ta,_,tc,k,_,rfl,.inr ⟨h0,ks,ord,h1,h2,.inr (.inr ⟨i,l,c,h4,rfl,hv,rfl⟩)⟩⟩
   rw[if_neg h0] at Hx;obtain⟨v,rfl,hv⟩:=Hx;exact⟨0,none,0,0,0,v,rfl,.inl ⟨h0,rfl,rfl,rfl,hv⟩⟩
  clear Hx;obtain⟨xn,ta,tn,tc,xk,e1,rfl,hx⟩:=Jb;have HX:=Zhd hx;have HRX:=Zhd Qx;clear hx Qx;have JX:Ybw w5 (w5.alloc (.cells #[.int .i64 xn,.slice ta tn tc,.int .i64 xk] 33)):=Yba;have HT:=Zhd (heap_alloc_new w5 (.cells #[.int .i64 xn,.slice ta tn tc,.int .i64 xk] 33));have ve:=Zhd (kg.out.trans (JX.mono kg.out.size));have HP6:=Zhd ((JX.block w.heap.size (Zlt HP5.out)).trans HP5.out);obtain⟨⟨m0,m1,m2,m3,m4⟩,_⟩:=Zbm HP6.out;have hwt:w5.heap.size<(w5.alloc (.cells #[.int .i64 xn,.slice ta tn tc,.int .i64 xk] 33)).heap.size:=by simp
  go_wp2_with fail;generalize w5.alloc (.cells #[.int .i64 xn,.slice ta tn tc,.int .i64 xk] 33)=W6 at *;obtain⟨tb,htb⟩:∃tb,tb=w5.heap.size:=⟨_,rfl⟩;rw[<- htb] at HT hwt ⊢;clear htb;refine(runFault_any H p _ _ _ _ _ HP.out (by omega) (by omega) ⟨by omega,by omega,by omega,by omega⟩ [] _ (.inl ⟨rfl,none,0,rfl⟩) ⟨by simp,λx hx=>by cases hx⟩ 0 W6 (hH.below ve.out)).mono ?_;rintro r w7 ⟨rfl,zY⟩;obtain⟨⟨c0,a0⟩,hz⟩:∃z,runE p [] 0=z:=⟨_,rfl⟩;rw[hz];dsimp only;have HZ:=Zhd (show RX=if c0≠0 then(c0,a0) else if most<1\/3000<most\/100<ins.length then(2, -1) else match ins.findIdx? (λl => !Zas p.ins l l.length) with|some i=>(5,(i:Int))|none=>(0, -1) from by rw[<- HRX.out];unfold Zcf;rw[hz];rfl);have HA0:=Zhd (show c0=0->a0 = -1 from λh=>by
   have h2:=runE_zero_all (p:=p) (ins:=[]) (ni:=0) (by rw[hz];exact h);rw[hz] at h2;exact congrArg Prod.snd h2)
  clear hz;have HT7:=Zhd ((zY.block tb hwt).trans HT.out);have HB7:=Zhd (ve.out.trans (zY.mono ve.out.size));have HP7:=Zhd ((zY.block w.heap.size (Zlt HP6.out)).trans HP6.out);have hb8:Ybw w7 (w7.alloc (.cells #[.int .i64 (c0:Nat),.int .i64 a0] 46)):=Yba;have HF:=Zhd (heap_alloc_new w7 (.cells #[.int .i64 (c0:Nat),.int .i64 a0] 46));have HT8:=Zhd ((hb8.block tb (Zlt HT7.out)).trans HT7.out);have HB8:=Zhd (HB7.out.trans (hb8.mono HB7.out.size));have HP8:=Zhd ((hb8.block w.heap.size (Zlt HP7.out)).trans HP7.out);have HE8:=Zhd (show ∀c a,ErrW sp w5 c a e1->ErrW sp w7 c a e1 from λc a h=>(h.below JX).below zY);have HI8:=Zhd (show ∀l v,InsV (Zan w5) l v->InsV (Zan w7) l v from λl v h=>InsV.le (Zbl (((Za9 w5).below JX).below zY)) h);have hb78:Ybw w7 (w7.alloc (.cells #[.int .i64 (c0:Nat),.int .i64 a0] 46)):=hb8;clear m0 m1 m2 m3 m4 JX zY hb8 HT;go_upto_region 11 with(fail)
  generalize w7.alloc (.cells #[.int .i64 (c0:Nat),.int .i64 a0] 46)=W8 at *;obtain⟨fb,qy⟩:∃fb,fb=w7.heap.size:=⟨_,rfl⟩;rw[<- qy] at HF ⊢;have hfw:w7.heap.size<=fb:=Nat.le_of_eq qy.symm;have hpf:w.heap.size<w7.heap.size:=(Zlt HP7.out);have HB78:=Zhd hb78;clear qy hb78;obtain⟨f0,f1,_,_,_⟩:=Zal HF.out;go_cut[77] from 62 to 77 (λc wx=>c=.bool (decide (c0=0/\(most<1\/3000<most\/100<ins.length)))/\wx=W8)
  case first=>
   by_cases q0:c0=0
   .have e0:(((c0:Nat):Int)==0)=true:=by simp[q0]
    have HQ:=Zhd q0;clear q0;by_cases q1:most<1
    .go_wp2_with fail;go_meet
     exact⟨congrArg Value.bool (decide_eq_true (p:=c0=0/\(most<1\/3000<most\/100<ins.length)) ⟨HQ.out,.inl q1⟩).symm,rfl⟩
    by_cases q2:3000<most
    .go_wp2_with fail;go_meet
     exact⟨congrArg Value.bool (decide_eq_true (p:=c0=0/\(most<1\/3000<most\/100<ins.length)) ⟨HQ.out,.inr (.inl q2)⟩).symm,rfl⟩
    by_cases q3:100<ins.length
    .have q4:(100:Int)<ins.length:=by omega
     go_wp2_with fail;go_meet
     exact⟨congrArg Value.bool (decide_eq_true (p:=c0=0/\(most<1\/3000<most\/100<ins.length)) ⟨HQ.out,.inr (.inr q3)⟩).symm,rfl⟩
    have q4:¬(100:Int)<ins.length:=by omega
    go_wp2_with fail;go_meet
    exact⟨congrArg Value.bool (decide_eq_false (p:=c0=0/\(most<1\/3000<most\/100<ins.length)) (by omega)).symm,rfl⟩
   have e0:(((c0:Nat):Int)==0)=false:=beq_false_of_ne (by omega);go_wp2_with fail;go_meet
   exact⟨congrArg Value.bool (decide_eq_false (p:=c0=0/\(most<1\/3000<most\/100<ins.length)) (λh=>q0 h.1)).symm,rfl⟩
  obtain⟨rfl,rfl⟩:=hcut;go_upto_if 77 with(fail)
  go_cut[] from 77 to 78 (λwx=>∃(fc:Nat) (fa:Int),wx.heap[fb]?=some (.cells #[.int .i64 (fc:Nat),.int .i64 fa] 46 (0,0))/\Ybw w7 wx/\((fc=0/\fa = -1/\RX=match ins.findIdx? (λl => !Zas p.ins l l.length) with|some i=>(5,(i:Int))|none=>(0, -1))\/(fc≠0/\RX=(fc,fa))))
  case first=>
   by_cases hbad:c0=0/\(most<1\/3000<most\/100<ins.length)
   .rw [decide_eq_true hbad];have hR:RX=(2, -1):=by rw[HZ.out,if_neg (by simp[hbad.1]),if_pos hbad.2]
    have HR:=Zhd hR;clear hbad hR;go_wp2_with fail;refine(Zk1 2 _).mono ?_;rintro r w9 ⟨rfl,hb9⟩;have hF9:=(hb9.block fb (Zlt HF.out)).trans HF.out;obtain⟨f0,f1,ff0,ff1,_⟩:=Zal hF9;have jo:=Zaa _ fb 0 (.int .i64 2) _ _ _ hF9;have qG:=Zaa _ fb 1 (.int .i64 (-1)) _ _ _ jo;have hB9:=((HB78.out.trans (hb9.mono HB78.out.size)).setCell (p:=⟨fb,0,none⟩) hfw (.int .i64 2)).setCell (p:=⟨fb,1,none⟩) hfw (.int .i64 (-1));have jc:=Zhd qG;have gm:=Zhd hB9;clear jo qG hB9 hF9 hb9;go_wp2_with fail;go_meet
    exact⟨2, -1,by simpa using jc.out,gm.out,.inr ⟨by decide,HR.out⟩⟩
   rw[decide_eq_false hbad];have gj:=Zhd hbad;clear hbad;go_wp2_with fail;go_meet
   refine⟨c0,a0,HF.out,HB78.out,?_⟩;by_cases q0:c0=0
   .refine .inl ⟨q0,HA0.out q0,?_⟩;rw[HZ.out,if_neg (by simp[q0]),if_neg (λh=>gj.out ⟨q0,h⟩)]
   refine .inr ⟨q0,?_⟩;rw[HZ.out,if_pos q0]
  obtain⟨fc,fa,hF,hB,hR⟩:=hcut;obtain⟨w9,hw9⟩:∃w9,w9=wc:=⟨_,rfl⟩;subst hw9;have HF9:=Zhd hF;have gm:=Zhd hB;have HR9:=Zhd hR;clear hF hB hR f0 f1;go_upto_block 2 with fail
  go_cut[] from 78 to 99 (λwx=>wx.heap[fb]?=some (.cells #[.int .i64 (RX.1:Nat),.int .i64 RX.2] 46 (0,0))/\Ybw w7 wx)
  case first=>
   go_wp2_with fail;go_loopw[12] (λi wr=>∃(k fc:Nat) (fa:Int),i=.int .i64 k/\k<=ins.length/\wr.heap[fb]?=some (.cells #[.int .i64 (fc:Nat),.int .i64 fa] 46 (0,0))/\Ybw w7 wr/\((fc=0/\fa = -1/\(RX=match ins.findIdx? (λl => !Zas p.ins l l.length) with|some i=>(5,(i:Int))|none=>(0, -1))/\∀j (hj:j<ins.length),j<k->Zas p.ins ins[j] ins[j].length=true)\/(fc≠0/\RX=(fc,fa)))) (λi _=>ins.length - (intOf i).toNat)
   case atStart=>exact⟨0,fc,fa,rfl,Nat.zero_le _,HF9.out,gm.out,HR9.out.imp (λ⟨h1,h2,h3⟩=>⟨h1,h2,h3,λj _ h=>by omega⟩) id⟩
   clear HF9 gm HR9 fc fa;obtain⟨k,fc,fa,rfl,hk,hF,hB,hR⟩:=hrel;obtain⟨f0,f1,ff0,ff1,jY⟩:=Zal hF;have HF:=Zhd hF;have HB:=Zhd hB;have HPr:=Zhd ((hB.block w.heap.size hpf).trans HP7.out);have Qk:=Zhd (hH.below (HB7.out.trans (hB.mono HB7.out.size)));clear hF hB;rcases hR with ⟨q0,rfl,Qx,hall⟩|⟨q0,Qx⟩
   .subst q0;have HRM:=Zhd Qx;have qF:=Zhd hall;clear Qx hall;by_cases Hd:k<ins.length
    .obtain⟨b,off,a2,c2,jE,c0x,hx⟩:=HI.out.at Hd;subst jE;have hx5:=ZX.out _ (Ymm Hd);have ke:=Zhd (show Zas p.ins ins[k] ins[k].length=false->RX=(5,(k:Int)) from λh=>by
      rw[HRM.out,show ins.findIdx? (λl => !Zas p.ins l l.length)=some k from List.findIdx?_eq_some_iff_getElem.2 ⟨Hd,by simp[h],λj hj=>by simp[qF.out j (by omega) hj]⟩])
     have kf:=Zhd (show Zas p.ins ins[k] ins[k].length=true->∀j (hj:j<ins.length),j<k+1->Zas p.ins ins[j] ins[j].length=true from λh j hj jV=>by
      by_cases hjk':j<k
      .exact qF.out j hj hjk'
      obtain rfl:j=k:=by omega
      exact h)
     generalize ins[k]=x at *;have HXV:=Zhd (SlV.le hx (Zbl Qk.out) VlC.mono);have cx:=Qk.out.cell c0x;obtain⟨⟨m0,m1,m2,m3,m4⟩,_⟩:=Zbm HPr.out;have k1:(k:Int)<ins.length:=by omega
     rw[<- Zaj] at m0 m1 m2 m3 m4 cx;have J2:(Zan wr).In wr.drew:=(Za9 wr).below (Below.refl _ _).drew;have zQ:=Zhd HB.out.drew;clear hx c0x;go_wp2_with fail;refine Zae (λw'=>(Zan wr).In w') (λ_=>True) 99 (by kernel_rfl) ?_;refine Go.w3 0 ?_
     iterate 5 ((first|(refine tk3 (v:=?_) rfl J2 Ztr ?hy ?_;(case hy=>intro w Hi;obtain⟨z0,z1,z2,z3,z4,z5⟩:=Hi.c6 m0 m1 m2 m3 m4 cx;go_simp<;>with_reducible rfl))|refine sk3 rfl J2 Ztr ?_|refine no3 ?_);refine Zss ?_)
     refine Go.w3e ?_;refine Zwo 5 rfl λK_ hK=>?_;go_simp;go_at_call 11;refine(rightIn_any (Zan wr) p _ _ _ _ _ (HP.out.le (Zbl Qk.out)) x _ HXV.out ⟨by omega,by omega⟩ _ J2).mono ?_;rintro r wg ⟨rfl,hbg⟩;have hSg:=J2.below hbg;refine hK.out _ _ (hSg) Ztr ?_;clear hK K_
     try simp only[tkS]
     refine Go.w3 6 ?_
     iterate 1 ((first|(refine tk3 (v:=?_) rfl hSg Ztr ?hy ?_;(case hy=>intro w Hi;obtain⟨z0,z1,z2,z3,z4,z5⟩:=Hi.c6 m0 m1 m2 m3 m4 cx;go_simp<;>with_reducible rfl))|refine sk3 rfl hSg Ztr ?_|refine no3 ?_);refine Zss ?_)
     refine Go.w3e ?_;refine Zwd ?_;have Hu:wg.heap[fb]?=_:=(hbg.block fb jY).trans HF.out;have xG:=Zhd Hu;have HBG:=Zhd (zQ.out.trans (hbg.mono zQ.out.size));clear f0 f1 ff0 ff1 J2 hSg hbg m0 m1 m2 m3 m4 cx;obtain⟨f0,f1,ff0,ff1,_⟩:=Zal Hu;clear Hu;obtain⟨ri,hri⟩:∃ri,Zas p.ins x x.length=ri:=⟨_,rfl⟩;rw[hri] at ke kf ⊢;cases ri with
     |true=>
      have yP:=Zhd (kf.out rfl);clear ke kf;go_wp2_with fail;go_roundw
      case rel=>exact⟨k+1,0, -1,by go_num,by omega,xG.out,HBG.out,.inl ⟨rfl,rfl,HRM.out,yP.out⟩⟩
      simp[intOf];omega
     |false=>
      have HY2:=Zhd (ke.out rfl);have jo:=Zaa _ fb 0 (.int .i64 5) _ _ _ xG.out;have qG:=Zaa _ fb 1 (.int .i64 k) _ _ _ jo;have jc:=Zhd qG;have Jh:=Zhd ((HBG.out.setCell (p:=⟨fb,0,none⟩) hfw (.int .i64 5)).setCell (p:=⟨fb,1,none⟩) hfw (.int .i64 k));clear ke kf jo qG;go_wp2_with fail;go_roundw
      case rel=>exact⟨k+1,5,k,by go_num,by omega,by simpa using jc.out,Jh.out,.inr ⟨by decide,HY2.out⟩⟩
      simp[intOf];omega
    obtain rfl:k=ins.length:=by omega
    have Qx:RX=(0, -1):=by
     rw[HRM.out,List.findIdx?_eq_none_iff.2 λl hl=>by
      obtain⟨j,hj,rfl⟩:=List.mem_iff_getElem.1 hl;simp[qF.out j hj hj]]
    have HRR:=Zhd Qx;clear Qx;go_wp2_with fail;go_meet
    exact⟨by rw[HRR.out];exact HF.out,HB.out⟩
   have HRR:=Zhd Qx;have q1:(((fc:Nat):Int)==0)=false:=beq_false_of_ne (by omega);clear Qx;by_cases Hd:k<ins.length
   .have k1:(k:Int)<ins.length:=by omega
    go_wp2_with fail;go_meet
    exact⟨by rw[HRR.out];exact HF.out,HB.out⟩
   obtain rfl:k=ins.length:=by omega
   go_wp2_with fail;go_meet
   exact⟨by rw[HRR.out];exact HF.out,HB.out⟩
  obtain⟨hF,hB⟩:=hcut;clear HF9 gm HR9 fc fa;obtain⟨w9,hw9⟩:∃w9,w9=wc:=⟨_,rfl⟩;subst hw9;have HF9:=Zhd hF;have gm:=Zhd hB;clear hF hB;have zV:=(Zlt HT7.out);have HT9:=Zhd ((gm.out.block tb zV).trans HT7.out);have HPw:=Zhd ((gm.out.block w.heap.size hpf).trans HP7.out);have JD:=Zhd (HB7.out.trans (gm.out.mono HB7.out.size));have HEW:=Zhd (λc a h=>(HE8.out c a h).below gm.out);have HIW:=Zhd (λl v h=>InsV.le (Zbl ((Za9 w7).below gm.out)) (HI8.out l v h));have htl9:=(Zlt HT9.out);obtain⟨t0,t1,t2,_⟩:=Zbu HT9.out;obtain⟨f0,f1,_,_,_⟩:=Zal HF9.out;clear HT7 HE8 HI8 zV gm;go_upto_region 19 with(fail)
  go_cut[14] from 100 to 113 (λc wx=>∃nb,c=.bool nb/\wx=w9/\(xn=0/\tn=0/\xk=0->nb=true))
  case first=>
   by_cases q0:xn=0
   .have e0:(xn==0)=true:=by simp[q0]
    by_cases q1:tn=0
    .have e1:(((tn:Nat):Int)==0)=true:=by simp[q1]
     by_cases q2:xk=0
     .have e2:(xk==0)=true:=by simp[q2]
      clear q0 q1 q2;go_wp2_with fail;go_meet
      exact⟨true,rfl,rfl,λ_=>rfl⟩
     have e2:(xk==0)=false:=beq_false_of_ne q2;have Q2:=Zhd q2;clear q0 q1 q2;go_wp2_with fail;go_meet
     exact⟨false,rfl,rfl,λh=>absurd h.2.2 Q2.out⟩
    have e1:(((tn:Nat):Int)==0)=false:=beq_false_of_ne (by omega);have Q2:=Zhd q1;clear q0 q1;go_wp2_with fail;go_meet
    exact⟨false,rfl,rfl,λh=>absurd h.2.1 Q2.out⟩
   have e0:(xn==0)=false:=beq_false_of_ne q0;have Q2:=Zhd q0;clear q0;go_wp2_with fail;go_meet
   exact⟨false,rfl,rfl,λh=>absurd h.1 Q2.out⟩
  obtain⟨nb,rfl,rfl,qY⟩:=hcut;have gf:=Zhd qY;clear qY;by_cases hc:RX.1=0
  case neg=>
   rcases HX.out with ⟨_,vZ,e2',e3',hE⟩|⟨h,_⟩
   case inr=>exact absurd h hc
   obtain rfl:=gf.out ⟨vZ,e2',e3'⟩;have He:=searchE_le p ins most;rw[HRX.out] at He;have HEE:=Zhd (HEW.out _ _ hE);have q:(0:Int)<((RX.1:Nat):Int):=by omega
   clear hE vZ e2' e3' HX HIW;go_wp2_with fail;refine(faulted_any sp RX.1 RX.2 e1 _ HEE.out He.1 He.2 (S.below JD.out) (errT_below hET JD.out) _ _).mono ?_;rintro r wz ⟨hr,hbz⟩;obtain rfl:r=.returned (.bool true):=by rw[hr];simp
   have HBZ:=Zhd (JD.out.trans (hbz.mono JD.out.size));clear hr hbz;go_wp2_with fail;go_ret;exact⟨rfl,HBZ.out⟩
  rcases HX.out with ⟨h,_⟩|⟨_,ks,ord,hks,ho,hx⟩
  case inl=>exact absurd hc h
  obtain⟨J0,gx,hm2,hl1,hr1⟩:=searchE_zero (p:=p) (choices:=ins) (most:=most) (by rw[HRX.out];exact hc);rw[hc] at f0;have HHX:=Zhd hx;have HHR:=Zhd hr1;have yQ:=Zhd J0;have gP:=Zhd hks;have HO:=Zhd ho;clear hx hr1 J0 hks ho HX hc;by_cases g8:8<ins.length
  .have q8:(8:Int)<ins.length:=by omega
   go_wp2_with fail;go_ret;exact⟨rfl,JD.out⟩
  have q8:¬(8:Int)<ins.length:=by omega
  obtain⟨mN,hmN⟩:∃mN:Nat,most=(mN:Int):=⟨most.toNat,by omega⟩;subst hmN;have hx:=HHX.out;simp only[Int.toNat_natCast] at hx;have HHX:=Zhd hx;clear hx;obtain⟨⟨m0,m1,m2,m3,m4⟩,_⟩:=Zbm HPw.out;go_wp2_with fail;refine(searchOf_any H p _ _ _ _ _ HP.out yQ.out gP.out HO.out ⟨by omega,by omega,by omega⟩ (by have:=outs_few yQ.out;omega) ins _ HI.out (by omega) HHR.out (λx hx=>by have:=ZX.out x hx;omega) mN (by omega) (by omega) _ (hH.below JD.out)).mono ?_;rintro r wy ⟨hby,Qq⟩;clear m0 m1 m2 m3 m4 t0 t1 t2 f0 f1 q8;have HTY:=Zhd ((hby.block tb htl9).trans HT9.out);have HBY:=Zhd (JD.out.trans (hby.mono JD.out.size));have HIY:=Zhd (λl v h=>InsV.le (Zbl ((Za9 _).below hby)) (HIW.out l v h));clear hby;rcases HHX.out with ⟨h4,vZ,e2',e3',rfl⟩|⟨l,h4,rfl,qv,rfl,rfl⟩|⟨i,l,c,h4,rfl,qv,rfl⟩
  .rw [h4] at Qq;obtain rfl:r=_:=Qq;obtain rfl:=gf.out ⟨vZ,e2',e3'⟩;have HBT:=Zhd (HBY.out.alloc HBY.out.size (.cells #[.int .i64 0,Ys0,.int .i64 0] 51));clear h4 vZ e2' e3' HHX;go_wp2_with fail;refine(coded2_any sp 2 (esv (sp 1)) _ (.inl ⟨rfl,rfl⟩) (by decide) (S.below HBT.out) (errT_below hET HBT.out) 2).mono ?_;rintro r wz ⟨hr,hbz⟩;obtain rfl:r=.returned (.bool true):=by rw[hr];simp
   have HBZ:=Zhd (HBT.out.trans (hbz.mono HBT.out.size));clear hr hbz;go_wp2_with fail;go_ret;exact⟨rfl,HBZ.out⟩
  .rw [h4] at Qq;obtain rfl:r=_:=Qq;have Qw:Ybw wy (wy.alloc (.cells #[.int .i64 l.length,Ys0,.int .i64 (-2)] 51)):=Yba;have Jv:=(Qw.block tb (Zlt HTY.out)).trans HTY.out;obtain⟨t0,t1,t2,_⟩:=Zbu Jv;obtain⟨d0,d1,d2,_⟩:=Zbu (heap_alloc_new wy (.cells #[.int .i64 l.length,Ys0,.int .i64 (-2)] 51));have HBT:=Zhd (HBY.out.alloc HBY.out.size (.cells #[.int .i64 l.length,Ys0,.int .i64 (-2)] 51));have HV1:=Zhd (InsV.le (Zbl ((Za9 wy).below Qw)) (HIY.out _ _ qv));have HV2:=Zhd (show InsV (Zan (wy.alloc (.cells #[.int .i64 l.length,Ys0,.int .i64 (-2)] 51))) [] (Ys0) from .inl ⟨rfl,none,0,rfl⟩);clear h4 HHX Jv Qw qv;go_wp2_with fail;refine(sameIn_any (Zan (wy.alloc (.cells #[.int .i64 l.length,Ys0,.int .i64 (-2)] 51))) [] _ _ HV1.out HV2.out ⟨by simp,λx hx=>by cases hx⟩ _ (Za9 _)).mono ?_;rintro r wz ⟨rfl,hbz⟩;have HBZ:=Zhd (HBT.out.trans (hbz.mono HBT.out.size));go_wp2_with fail;go_ret;exact⟨rfl,HBZ.out⟩
  rw[h4] at Qq;obtain⟨v,rfl,Jx⟩:=Qq;have htt:=traces_told yQ.out gP.out HO.out false 0 HHR.out (by omega) h4;have xY:=Zhd (show(Bf.W l i++[c]).length<=1000000000/\∀x∈Bf.W l i++[c],x.length<=1000000000 from⟨by have:=htt.1;simp;omega,λx hx=>by have:=ZX.out x (htt.2.1 x hx);omega⟩);clear htt;generalize Bf.W l i++[c]=WW at *;obtain⟨ta2,tc2,rfl⟩:=Jx.len;have Qw:Ybw wy (wy.alloc (.cells #[.int .i64 l.length,.slice ta2 WW.length tc2,.int .i64 xk] 51)):=Yba;have Jv:=(Qw.block tb (Zlt HTY.out)).trans HTY.out;obtain⟨t0,t1,t2,_⟩:=Zbu Jv;obtain⟨d0,d1,d2,_⟩:=Zbu (heap_alloc_new wy (.cells #[.int .i64 l.length,.slice ta2 WW.length tc2,.int .i64 xk] 51));have HBT:=Zhd (HBY.out.alloc HBY.out.size (.cells #[.int .i64 l.length,.slice ta2 WW.length tc2,.int .i64 xk] 51));have HV1:=Zhd (InsV.le (Zbl ((Za9 wy).below Qw)) (HIY.out _ _ qv));have HV2:=Zhd (InsV.le (Zbl ((Za9 wy).below Qw)) Jx);clear h4 HHX Jv Qw qv Jx;go_wp2_with fail;refine(sameIn_any (Zan (wy.alloc (.cells #[.int .i64 l.length,.slice ta2 WW.length tc2,.int .i64 xk] 51))) WW _ _ HV1.out HV2.out xY.out _ (Za9 _)).mono ?_;rintro r wz ⟨rfl,hbz⟩;have HBZ:=Zhd (HBT.out.trans (hbz.mono HBT.out.size));go_wp2_with fail;go_ret;exact⟨rfl,HBZ.out⟩
end Go.Proofs.YtafapnolamcdmaaGreatDoor
