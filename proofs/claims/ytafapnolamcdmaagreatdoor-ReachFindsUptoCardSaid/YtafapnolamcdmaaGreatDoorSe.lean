/- Walks: reach.Search. (Printed by gen_se.py.) -/
import Derived.Test.YtafapnolamcdmaaGreatDoorSaM
import Derived.Test.YtafapnolamcdmaaGreatDoorGpM
set_option linter.all false
namespace Go.Proofs.YtafapnolamcdmaaGreatDoor
set_option maxRecDepth 100000
set_option maxHeartbeats 16000000
open Go.RowKit Mx
theorem mSe1{p:Prop}(h:p:=by
 go_wp2_with fail;go_roundw
 case rel=>exact HFI.out
 simp[intOf];omega):p:=h
theorem ErrW.put3{sp:Nat->Addr}{W:World}{c:Nat}{a:Int}{v:Value}(h:ErrW sp W c a v){b:Nat}{x y z:Value}{x0 y0 z0:Value}{t:TypeId}(hb:W.heap[b]?=some (.cells #[x0,y0,z0] t (0,0)))(ht:t≠73):ErrW sp (put3 W b x y z) c a v:=
 h.imp id λ⟨h1,N,h2,h3⟩=>⟨h1,N,h2,by
  rw[Zg6 _ _ _ (λe=>by rw[e,hb] at h3;simp at h3)];exact h3⟩
theorem Tryz.infoSt:(Tryz.prog.info? 76).map (λi=>(i.zero,i.size,i.bytes))=some (some (.agg #[Ys0,.int .i64 0,Ys0]),3,56):=by kernel_rfl
theorem search_any(H:Kn)(T:Zbv H)(sp:Nat->Addr)(p:Pr)(vi vo vl va vc:Value)(hp:PrP H p vi vo vl va vc)(choices:List (List Vl))(vC:Value)(hC:InsV H choices vC)(most:Int)(w:World)(hH:H.In w)(S:Sen5 w sp)
  (J5:p.ins.length<=1000000/\p.fl.length<=1000000/\p.outs.length<=1000000000/\p.as.length<=1000000/\p.cs.length<=1000000) (kZ:Ex.partsL p.terms<=10000000) (hcz:choices.length<=100000000/\∀x∈choices,x.length<=100000000):
  Calls Tryz.prog 6 #[.agg #[vi,vo,vl,va,vc],vC,.int .i64 most] w (Zhl sp p choices most w):=by
 obtain⟨z1,z2,z3,z4,z5⟩:=J5;obtain⟨y1,y2⟩:=hcz;have HP:=Zhd hp;obtain⟨h1,h2,h3,h4,h5⟩:=hp;obtain⟨ai,ci,ao,co,al,cl,aa,ca,ac,cc,rfl,rfl,rfl,rfl,rfl⟩:=Ypo h1.len h2.len h3.len h4.len h5.len;obtain⟨an,cn,rfl⟩:=hC.len;have HC:=Zhd hC;have HCZ:=Zhd y2;clear h1 h2 h3 h4 h5 hC y2;have Hg:Ybw w ((w.alloc (.cells (Yq5 p ai ao al aa ac ci co cl ca cc) 42)).alloc (.cells #[.int .i64 0,Ys0,.int .i64 0] 33)):=Yba.alloc (by simp) _;have hr0:((w.alloc (.cells (Yq5 p ai ao al aa ac ci co cl ca cc) 42)).alloc (.cells #[.int .i64 0,Ys0,.int .i64 0] 33)).heap[w.heap.size+1]?=some (.cells #[.int .i64 0,Ys0,.int .i64 0] 33 (0,0)):=by
  have h:=heap_alloc_new (w.alloc (.cells (Yq5 p ai ao al aa ac ci co cl ca cc) 42)) (.cells #[.int .i64 0,Ys0,.int .i64 0] 33);rw[World.size_alloc] at h;exact h
 have hp0:((w.alloc (.cells (Yq5 p ai ao al aa ac ci co cl ca cc) 42)).alloc (.cells #[.int .i64 0,Ys0,.int .i64 0] 33)).heap[w.heap.size]?=some (.cells (Yq5 p ai ao al aa ac ci co cl ca cc) 42 (0,0)):=by
  rw[Below.heap_alloc _ _ _ (by simp)];exact heap_alloc_new w (.cells (Yq5 p ai ao al aa ac ci co cl ca cc) 42)
 have jN:((w.alloc (.cells (Yq5 p ai ao al aa ac ci co cl ca cc) 42)).alloc (.cells #[.int .i64 0,Ys0,.int .i64 0] 33)).heap.size=w.heap.size+2:=by simp
 have J4:=Zhd Hg;have qp:=Zhd hr0;have gd:=Zhd hp0;have jF:=Zhd jN;clear Hg hr0 hp0 jN;go_enter Tryz.func6,Tryz.ntmps6;have m0:((w.alloc (.cells (Yq5 p ai ao al aa ac ci co cl ca cc) 42)).alloc (.cells #[.int .i64 0,Ys0,.int .i64 0] 33)).cell? ⟨w.heap.size,0,none⟩=some (.slice ai p.ins.length ci):=by have h:=gd.out;simp only[World.cell?,h];rfl
 have m1:((w.alloc (.cells (Yq5 p ai ao al aa ac ci co cl ca cc) 42)).alloc (.cells #[.int .i64 0,Ys0,.int .i64 0] 33)).cell? ⟨w.heap.size,1,none⟩=some (.slice ao p.outs.length co):=by have h:=gd.out;simp only[World.cell?,h];rfl
 have m2:((w.alloc (.cells (Yq5 p ai ao al aa ac ci co cl ca cc) 42)).alloc (.cells #[.int .i64 0,Ys0,.int .i64 0] 33)).cell? ⟨w.heap.size,2,none⟩=some (.slice al p.fl.length cl):=by have h:=gd.out;simp only[World.cell?,h];rfl
 have m3:((w.alloc (.cells (Yq5 p ai ao al aa ac ci co cl ca cc) 42)).alloc (.cells #[.int .i64 0,Ys0,.int .i64 0] 33)).cell? ⟨w.heap.size,3,none⟩=some (.slice aa p.as.length ca):=by have h:=gd.out;simp only[World.cell?,h];rfl
 have m4:((w.alloc (.cells (Yq5 p ai ao al aa ac ci co cl ca cc) 42)).alloc (.cells #[.int .i64 0,Ys0,.int .i64 0] 33)).cell? ⟨w.heap.size,4,none⟩=some (.slice ac p.cs.length cc):=by have h:=gd.out;simp only[World.cell?,h];rfl
 go_wp2_with fail;generalize (w.alloc (.cells (Yq5 p ai ao al aa ac ci co cl ca cc) 42)).alloc (.cells #[.int .i64 0,Ys0,.int .i64 0] 33)=W0 at *;clear m0 m1 m2 m3 m4;have REST:∀W,Ybw W0 W->W.heap[w.heap.size+1]?=some (.cells #[.int .i64 0,Ys0,.int .i64 0] 33 (0,0)):=λW hb=>(hb.block _ (Zlt qp.out)).trans qp.out;have Qh:=Zhd REST;clear REST;refine(new_any H T sp p _ _ _ _ _ HP.out W0 (hH.below J4.out) (S.below J4.out) false 0 ⟨z1,z2,z3,z4,z5⟩ (by omega)).mono ?_;rintro r w1 ⟨Hv,Hx⟩;have Jn:=Zhd Hv;clear Hv;rcases Hx with ⟨hE,M,B,ks,ord,vm,hks,ho,rfl,hMw,hM,_⟩|⟨hE,t,u,rfl,he⟩
 case inr=>
  have HE:=Zhd he;have hs:Zcf p choices most=runE p [] 0:=by unfold Zcf;rw[if_pos hE]
  have HEE:=Zhd hE;have HSS:=Zhd hs;clear he hE hs;have Jb:=Qh.out w1 Jn.out;obtain⟨r0,r1,r2,yT,yS,yR,_⟩:=Zbu Jb;have jG:=Zdq Jb (.int .i64 0) (Ys0) (.int .i64 0);obtain⟨WW,jO⟩:∃WW,WW=put3 w1 (w.heap.size+1) (.int .i64 0) (Ys0) (.int .i64 0):=⟨_,rfl⟩;rw[<- jO] at jG;obtain⟨e0,e1,e2,_⟩:=Zbu jG;have Qe:=Zhd jO;have jx:=jO;unfold put3 at jx;have xC:=Zhd jx;have E0:=Zhd e0;have E1:=Zhd e1;have E2:=Zhd e2;clear e0 e1 e2 jG Jb jO jx
  try(simp only[];go_at_K)
  repeat(first|go_values|go_skip|go_guarded|go_step|go_upon)
  rw[<- xC.out];have e0:=E0.out;have e1:=E1.out;have e2:=E2.out;refine bodyPost_ret (v:=.tuple #[.agg #[.int .i64 0,Ys0,.int .i64 0],.iface t u]) (by simp[results,Tryz.results6,go_sem,e0,e1,e2]) rfl ?_;rw[Qe.out];refine⟨Zc8 (J4.out.trans (Jn.out.mono J4.out.size)) (Nat.le_succ _) _ _ _,?_⟩;rw[HSS.out,if_neg HEE.out];refine⟨_,rfl,?_⟩;exact HE.out.put3 (x:=.int .i64 0) (y:=Ys0) (z:=.int .i64 0) (Qh.out w1 Jn.out) (λe=>by cases e)
 have ze:=(Zih hE).1;have HCD:=Zhd (cd_ready ze hks ho false 0 (by omega) (by omega) (by omega));have Hy:=start_right (Zbg ho).1 hks false (ni:=0) ⟨by decide,by decide⟩;have hSR:=λ(l:List Vl) (s:Mc) (h:MemR ks p s.mem)=>step_right ze hks ho false (ni:=0) ⟨by decide,by decide⟩ h l;have yz:=Zhd (show Zcf p choices most=if most<1\/3000<most\/100<choices.length then(2, -1) else match choices.findIdx? (λl => !Zas p.ins l l.length) with|some i=>(5,(i:Int))|none=>(0, -1) from by unfold Zcf;rw[if_neg (λh=>h hE)];rfl);have gP:=Zhd hks;have HO:=Zhd ho;have hsm:∀mN,Zdd ks ord p choices mN=Bf.search (stR ⟨ks,Zac p,getI (Zah p),false,0⟩ (cdOf p ord) p.ins) (nxR ⟨ks,Zac p,getI (Zah p),false,0⟩ (cdOf p ord) p.ins) mN choices (Zby ⟨true,Zba ⟨ks,Zac p,getI (Zah p),false,0⟩ (Zab 0 p.terms),false⟩) []:=λ_=>rfl;obtain⟨R,hR⟩:∃R:REnv,R=⟨ks,Zac p,getI (Zah p),false,0⟩:=⟨_,rfl⟩;rw[<- hR] at hM HCD Hy hSR hsm;have Q7:ks=R.ks:=by rw[hR]
 have hkz:Zcm ks p=Zcm R.ks p:=by rw[Q7]
 rw[Q7] at Hy hSR;have HSR:=Zhd hSR;have yB:=Zhd hsm;obtain⟨s0,jN⟩:∃s:Mc,s=⟨true,Zba R (Zab 0 p.terms),false⟩:=⟨_,rfl⟩;rw[<- jN] at hM yB;have hr0:MemR R.ks p s0.mem:=by rw[jN];exact Hy
 have HR1:=Zhd hr0;have hHno:H M=none:=hH.isNone (Nat.le_trans J4.out.size hMw);have HHK:=Zhd (Zgg (hH.below (J4.out.trans (Jn.out.mono J4.out.size))) hHno);have HM:=Zhd hM;have HMW:=Zhd hMw;have hML:Zag p.terms<=10000000:=Nat.le_trans (Zil p.terms) kZ;have JO:=hM.len;clear hE ze Hy hSR hR Q7 hkz jN hr0 hHno hM hks ho hsm hMw;have c1:=(S.below (J4.out.trans (Jn.out.mono J4.out.size))).c1;have Jb:=Qh.out w1 Jn.out;obtain⟨r0,r1,r2,yT,yS,yR,_⟩:=Zbu Jb;by_cases hbad:most<1\/3000<most\/100<choices.length
 .have hs:Zcf p choices most=(2, -1):=by rw[yz.out,if_pos hbad]
  have HSS:=Zhd hs;have jG:=Zdq Jb (.int .i64 0) (Ys0) (.int .i64 0);obtain⟨e0,e1,e2,_⟩:=Zbu jG;unfold put3 at e0 e1 e2;have E0:=Zhd e0;have E1:=Zhd e1;have E2:=Zhd e2;have c1b:=(show(put3 w1 (w.heap.size+1) (.int .i64 0) (Ys0) (.int .i64 0)).cell? ⟨0,0,none⟩=_ from World.cell?_of_block (w:=w1) (Zg6 _ _ _ (by have:=S.big;show 0≠_;omega))).trans c1;unfold put3 at c1b;have gj:=Zhd hbad;clear e0 e1 e2 jG Jb hs hbad;go_wp2_with fail
  all_goals first|(exfalso;have:=gj.out;omega)|skip
  all_goals go_region
  all_goals go_wp2_with fail
  all_goals have e0:=E0.out
  all_goals have e1:=E1.out
  all_goals have e2:=E2.out
  all_goals refine bodyPost_ret (v:=.tuple #[toldZ,esv (sp 1)]) (by simp[results,Tryz.results6,go_sem,e0,e1,e2,esv]) rfl ?_
  all_goals refine⟨(Zc8 (J4.out.trans (Jn.out.mono J4.out.size)) (Nat.le_succ _) _ _ _).drew,?_⟩
  all_goals rw[HSS.out,if_neg (by decide)]
  all_goals exact⟨_,rfl,.inl ⟨rfl,rfl⟩⟩
 have gx:1<=most/\most<=3000/\choices.length<=100:=by omega
 clear hbad;have yz:=Zhd (show Zcf p choices most=match choices.findIdx? (λl => !Zas p.ins l l.length) with|some i=>(5,(i:Int))|none=>(0, -1) from by rw[yz.out,if_neg (by omega)]);obtain⟨mN,rfl⟩:∃mN:Nat,most=(mN:Int):=⟨most.toNat,by omega⟩;obtain⟨q1,q2,q3⟩:=gx;clear Jb r0 r1 r2 yT yS yR c1;go_wp2_with fail
 all_goals first|(exfalso;omega)|skip
 go_loopw[45] (λi wr=>∃k:Nat,i=.int .i64 k/\k<=choices.length/\Ybw w1 wr/\∀j (hj:j<choices.length),j<k->Zas p.ins choices[j] choices[j].length=true) (λi _=>choices.length - (intOf i).toNat)
 case atStart=>exact⟨0,rfl,Nat.zero_le _,Below.refl _ _,λj _ h=>by omega⟩
 obtain⟨k,rfl,hk,hb,Jo⟩:=hrel;have HB:=Zhd hb;have JR:=Zhd Jo;have JD:=Zhd (Jn.out.trans (hb.mono Jn.out.size));clear hb Jo;have km:=HM.out.below HB.out;have yE:=Zhd km;clear km;by_cases Hd:k<choices.length
 .obtain⟨b,off,a2,c2,jE,c0,hv⟩:=HC.out.at Hd;subst jE;have hlx:=HCZ.out _ (Ymm Hd);have ke:=Zhd (show Zas p.ins choices[k] choices[k].length=false->Zcf p choices mN=(5,(k:Int)) from λh=>by
   rw[yz.out,show choices.findIdx? (λl => !Zas p.ins l l.length)=some k from List.findIdx?_eq_some_iff_getElem.2 ⟨Hd,by simp[h],λj hj=>by simp[JR.out j (by omega) hj]⟩])
  have kf:=Zhd (show Zas p.ins choices[k] choices[k].length=true->∀j (hj:j<choices.length),j<k+1->Zas p.ins choices[j] choices[j].length=true from λh j hj jV=>by
   by_cases hjk':j<k
   .exact JR.out j hj hjk'
   obtain rfl:j=k:=by omega
   exact h)
  generalize choices[k]=x at *;have c0:=yE.out.isin.cell (HHK.out.cell c0);have hv:=SlV.le hv HHK.out VlC.mono;have n0:wr.cell? ⟨M,0,none⟩=some (ptrV B):=yE.out.cell 0;obtain⟨cs,vI,vo,vf,va,vc,vu,vM,kK,⟨e0,h0⟩,_,_,_,_,_,⟨js,jv⟩⟩:=yE.out.code.ex;have Hf:=Zjq (noKn M w1) B cs p.ins x vI _ kK e0 h0 hv ⟨by omega,by omega⟩ wr yE.out.isin;clear JR hv kK e0 h0 js jv;cases J1:Zas p.ins x x.length with
  |false=>
   rw[J1] at Hf;have HX:=Zhd (ke.out J1);clear J1;go_wp2_with(go_at_call 20;refine Hf.mono ?_;rintro ret w2 ⟨rfl,Hm⟩;have Jh:=Zhd (JD.out.trans (Hm.mono JD.out.size));have c4:=(S.below (J4.out.trans (Jh.out.mono J4.out.size))).c4;have Jb:=Qh.out w2 Jh.out;obtain⟨r0,r1,r2,yT,yS,yR,_⟩:=Zbu Jb;have c4b:=(show(put3 w2 (w.heap.size+1) (.int .i64 0) (Ys0) (.int .i64 0)).cell? ⟨1,0,none⟩=_ from World.cell?_of_block (w:=w2) (Zg6 _ _ _ (by have:=S.big;show 1≠_;omega))).trans c4;unfold put3 at c4b);go_region
   have jG:=Zdq Jb (.int .i64 0) (Ys0) (.int .i64 0);have yW:=(Below.heap_alloc (put3 w2 (w.heap.size+1) (.int .i64 0) (Ys0) (.int .i64 0)) (.cells #[.int .i64 k,esv (sp 4)] 73) _ (Zlt jG)).trans jG;obtain⟨e0,e1,e2,_⟩:=Zbu yW;have hbf:Ybw w (((put3 w2 (w.heap.size+1) (.int .i64 0) (Ys0) (.int .i64 0)).alloc (.cells #[.int .i64 k,esv (sp 4)] 73)).drew):=((Zc8 (J4.out.trans (Jh.out.mono J4.out.size)) (Nat.le_succ _) _ _ _).alloc (by rw[put3_size];have:=J4.out.size;have:=Jh.out.size;omega) _).drew;have kQ:((put3 w2 (w.heap.size+1) (.int .i64 0) (Ys0) (.int .i64 0)).alloc (.cells #[.int .i64 k,esv (sp 4)] 73)).heap[w2.heap.size]?=some (.cells #[.int .i64 k,esv (sp 4)] 73 (0,0)):=by
    have h:=heap_alloc_new (put3 w2 (w.heap.size+1) (.int .i64 0) (Ys0) (.int .i64 0)) (.cells #[.int .i64 k,esv (sp 4)] 73);rw[put3_size] at h;exact h
   unfold put3 at e0 e1 e2 hbf kQ;have HBF:=Zhd hbf;have HFF:=Zhd kQ;have E0:=Zhd e0;have E1:=Zhd e1;have E2:=Zhd e2;clear e0 e1 e2 jG yW Jb hbf kQ;go_wp2_with fail;have e0:=E0.out;have e1:=E1.out;have e2:=E2.out;dsimp only[esv] at e0 e1 e2 HBF HFF;refine bodyPost_ret (v:=.tuple #[toldZ,.iface 71 (.pointer (some ⟨w2.heap.size,0,none⟩))]) (by simp[results,Tryz.results6,go_sem,e0,e1,e2]) rfl ?_;refine⟨HBF.out,?_⟩;rw[HX.out,if_neg (by simp)];exact⟨_,rfl,.inr ⟨by omega,w2.heap.size,rfl,HFF.out⟩⟩
  |true=>
   rw[J1] at Hf;have yP:=Zhd (kf.out J1);clear J1;go_wp2_with(go_at_call 20;refine Hf.mono ?_;rintro ret w2 ⟨rfl,Hm⟩;have Jh:=Zhd (HB.out.trans (Hm.mono HB.out.size)));go_roundw
   case rel=>exact⟨k+1,by go_num,by omega,Jh.out,yP.out⟩
   simp[intOf];omega
 obtain rfl:k=choices.length:=by omega
 have qF:=Zhd (show ∀l∈choices,Zas p.ins l l.length=true from λl hl=>by
  obtain⟨j,hj,rfl⟩:=List.mem_iff_getElem.1 hl;exact JR.out j hj hj)
 have HX:=Zhd (show Zcf p choices mN=(0, -1) from by
  rw[yz.out,List.findIdx?_eq_none_iff.2 λl hl=>by simp[qF.out l hl]])
 have HIL:=Zhd (show ∀l∈choices,l.length<=1000000 from λl hl=>by
  have h:=qF.out l hl;unfold Zas at h;simp only[Bool.and_eq_true,decide_eq_true_eq] at h;omega)
 clear JR yz hk Hd HM HB HCZ;have n0:True:=trivial;clear n0;go_wp2_with fail;refine(state_any yE.out (by omega)).mono ?_;rintro r w3 ⟨v3,rfl,vr,Jg⟩;obtain⟨a3,c3,rfl⟩:=vr.len;have Qb:=yE.out.join Jg;have xy:=JD.out.trans (Jg.mono JD.out.size);have vr:=SlV.le vr (Zdk (noKn M w1) wr.heap.size w3) VlC.mono;have Jq:=Kn.le_trans HHK.out (Zb6 yE.out.isin w3);generalize Zbt (noKn M w1) wr.heap.size w3=K3 at *;have HM3:=Zhd Qb;have Js:=Zhd xy;have HV3:=Zhd vr;have HL3:=Zhd Jq;have HSR0:=Zhd (state_right HR1.out);obtain⟨S0,JY⟩:∃S0,S0=Zby s0:=⟨_,rfl⟩;rw[<- JY] at HV3 HSR0 yB ⊢;have HSL:=Zhd (show S0.length=Zag p.terms+1 from by rw[JY];simp[Zby,JO]);clear Qb xy vr Jq Jg JD yE JY;have zX:=@run_makeMap Tryz.prog;have xj:Ybw w3 ((w3.alloc (.cells #[.slice a3 S0.length c3,.int .i64 (-1),Ys0] 76)).alloc (.map #[] 0)):=Yba.alloc (by simp) _;have HBA:=Zhd xj;clear xj;go_wp2_with fail;refine(key_any K3 S0 _ HV3.out (by have:=HSL.out;omega) _ (HM3.out.isin.below HBA.out)).mono ?_;rintro r w6 ⟨rfl,JX⟩;have hmp:Zay Value.bool w6 (w3.heap.size+1) Env.none:=by
  have h:=(Zay.made Value.bool (w3.alloc (.cells #[.slice a3 S0.length c3,.int .i64 (-1),Ys0] 76))).below JX;rw[World.size_alloc] at h;exact h
 have gM:=Zhd hmp;have hM6:=(HM3.out.below HBA.out).below JX;have HM6:=Zhd hM6;have ve:=Zhd JX;clear hmp hM6 JX zX;go_wp2_with(refine Zie Value.bool 79 9 4 Tryz.underlying79 Tryz.underlying9 (w3.heap.size+1) _ gM.out _ _ _ rfl rfl rfl _ rfl true rfl ?_;intro w7 hm7 hT7);rw[seenE_one] at hm7;have hSS:=SeS.init (ST:=76) HM3.out.isin HL3.out Js.out HV3.out ve.out hT7 hm7 HMW.out HM3.out.lt;have hM7:=HM6.out.turned hT7 (by have:=HM3.out.lt;omega) (HM3.out.isin.isNone (by omega));obtain⟨sb,hsb⟩:∃sb,sb=w3.heap.size+1:=⟨_,rfl⟩;obtain⟨base,Jl⟩:∃base,base=w3.heap.size:=⟨_,rfl⟩;rw[<- hsb,<- Jl] at hSS ⊢;obtain⟨qD,vS⟩:∃f,f=stR R (cdOf p ord) p.ins:=⟨_,rfl⟩;obtain⟨qE,vV⟩:∃f,f=nxR R (cdOf p ord) p.ins:=⟨_,rfl⟩;obtain⟨gG,xr⟩:∃r,r=Zdd ks ord p choices mN:=⟨_,rfl⟩;have Hn:gG=Bf.outer qD qE mN choices (mN+1 - 0) ([((⟨S0, -1,[]⟩:StE),Value.slice a3 S0.length c3,Value.slice none 0 0)].map (·.1)) 0:=by rw[xr,yB.out,vS,vV];rfl
 have zR:=Zhd (show ∀(r:Ending) (W:World),Ybw w W->(match gG with
  | .over=>r=.returned (.tuple #[toldZ,esv (sp 1)])
  | .ok l=>r=.returned (.tuple #[.agg #[.int .i64 l.length,Ys0,.int .i64 (-2)],.nilIface])
  | .found i l c k=>∃v,r=.returned (.tuple #[.agg #[.int .i64 l.length,v,.int .i64 k],.nilIface])/\InsV (Zan W) (Bf.W l i++[c]) v)->Zhl sp p choices mN w r W from λr W hb h=>⟨hb,by
   rw[HX.out,if_pos rfl];rw[xr] at h;exact⟨ks,ord,gP.out,HO.out,by rw[Int.toNat_natCast];exact h⟩⟩)
 have vd:=Zhd (show ∀i l c k,gG=.found i l c k->∀y∈Bf.W l i++[c],y.length<=1000000 from λi l c k h y hy=>HIL.out y (found_mem (by omega) (xr.symm.trans h) y hy));have Jz:=Zhd vS;have ge:=Zhd vV;have JG:=Zhd Hn;have HSS:=Zhd hSS;have HM7:=Zhd hM7;clear hT7 hm7 hSS hM7 vS vV xr Hn yB ve HM6 gM HBA HM3 HL3 Js HX gP HO hsb Jl;go_wp2_with fail;obtain⟨RELO,hRELO⟩:∃REL:Value->Value->World->Prop,REL=(λu i wr=>∃(n:Nat) (os:List (StE×Value×Value)) (K:Kn) (vm':Value) (s:Mc),i=.int .i64 n/\SeS 76 H W0 wr base sb M os (os.map (·.1.s)) u K/\McAt 70 168 126 R p ord K wr M B s vm'/\gG=Bf.outer qD qE mN choices (mN+1 - n) (os.map (·.1)) n/\n<=os.length/\os.length<=mN/\Bf.WayOk (os.map (·.1))/\(∀x∈os,Zb5 (Zcm R.ks p) x.1.s x.1.s.length=true)):=⟨_,rfl⟩;have HRO:=Zhd hRELO;clear hRELO;go_loopw[12,14] (λu i wr=>RELO u i wr) (λ_ i _=>mN - (intOf i).toNat)
 case atStart=>
  rw[HRO.out];exact⟨0,_,_,_,_,rfl,HSS.out,HM7.out,JG.out,Nat.zero_le _,by simp;omega,Bf.WayOk.one _ _,λx hx=>by rw[List.mem_singleton.1 hx];exact HSR0.out⟩
 clear HSS HM7 JG HV3 HSR0 HSL;rw[HRO.out] at hrel;obtain⟨n,os,K,vm',s,rfl,hS,hMc,Hn,hn,JV,jm,qU⟩:=hrel;have HS:=Zhd hS;have ya:=Zhd hMc;have HWY:=Zhd jm;have Qg:=Zhd qU;obtain⟨au,cu,J9,hcu⟩:=Zar hS.row;subst J9;clear hS hMc jm qU hcu;by_cases jR:n<os.length
 .obtain⟨e,he⟩:∃e,os[n].1=e:=⟨_,rfl⟩;have hout2:gG=Bf.rest qD qE mN n e choices (mN - n) (os.map (·.1)) (choices.drop 0):=by
   rw[Hn,show mN+1 - n=(mN - n)+1 from by omega,List.drop_zero];exact Bf.outer_rest qD qE (by rw[List.getElem?_map,List.getElem?_eq_getElem jR];simp[he])
  have JG:=Zhd hout2;have HE:=Zhd (show os[n]?.map (·.1)=some e from by rw[List.getElem?_eq_getElem jR];simp[he]);have yO:=Zhd (show n<mN from by omega);clear Hn hout2 he hn;go_wp2_with fail;obtain⟨RELI,hRELI⟩:∃REL:Value->Value->World->Prop,REL=(λu j wr=>∃(k:Nat) (os:List (StE×Value×Value)) (K:Kn) (vm':Value) (s:Mc),j=.int .i64 k/\k<=choices.length/\SeS 76 H W0 wr base sb M os (os.map (·.1.s)) u K/\McAt 70 168 126 R p ord K wr M B s vm'/\gG=Bf.rest qD qE mN n e choices (mN - n) (os.map (·.1)) (choices.drop k)/\n<os.length/\os[n]?.map (·.1)=some e/\os.length<=mN/\Bf.WayOk (os.map (·.1))/\(∀x∈os,Zb5 (Zcm R.ks p) x.1.s x.1.s.length=true)):=⟨_,rfl⟩;have HRI:=Zhd hRELI;clear hRELI;go_loopw[12,83] (λu j wr=>RELI u j wr) (λ_ j _=>choices.length - (intOf j).toNat)
  case atStart=>
   rw[HRI.out];exact⟨0,os,K,vm',s,rfl,Nat.zero_le _,HS.out,ya.out,JG.out,jR,HE.out,JV,HWY.out,Qg.out⟩
  clear HS ya JG HE HWY Qg jR JV;rw[HRI.out] at hrel;obtain⟨k,os,K,vm',s,rfl,hk,hS,hMc,Hn,jR,he,JV,jm,qU⟩:=hrel;have HS:=Zhd hS;have ya:=Zhd hMc;have HWY:=Zhd jm;have Qg:=Zhd qU;have JG:=Zhd Hn;have HE:=Zhd he;obtain⟨au,cu,J9,hcu⟩:=Zar hS.row;subst J9;have hosz:(os.map (·.1)).length=os.length:=List.length_map _;have Qi:=Zhd hosz;clear hS hMc jm qU Hn hosz hcu;by_cases Hd:k<choices.length
  .obtain⟨b,off,a2,c2,jE,c0,hx⟩:=HC.out.at Hd;subst jE;have hix:=qF.out _ (Ymm Hd);have hlx:=HIL.out _ (Ymm Hd);have c0:=ya.out.isin.cell (HS.out.le.cell c0);have hx:=SlV.le hx HS.out.le VlC.mono;have Hn:=JG.out;rw[List.drop_eq_getElem_cons Hd] at Hn;have JG:=Zhd Hn;clear Hn;generalize choices[k]=x at *;obtain⟨g,Ha,J9,hcap,d0,d1,d2⟩:=HS.out.at jR;cases J9;have hes:os[n].1=e:=by rw[List.getElem?_eq_getElem jR] at he;simpa using he
   obtain⟨gS,_⟩:=HS.out.sts _ (Ymm jR);have hre:=Qg.out _ (Ymm jR);rw[hes] at gS hre;obtain⟨sv,hsve⟩:∃sv,sv=os[n].2.1:=⟨_,rfl⟩;rw[<- hsve] at gS d0;obtain⟨as_,cs_,rfl⟩:=gS.len;have yh:e.s.length=Zag p.terms+1:=by
    unfold Zb5 at hre;simp only[Bool.and_eq_true,decide_eq_true_eq] at hre;rw[hre.1];simp[Zcm,Zaw]
   have HSL:=Zhd yh;have HSV:=Zhd gS;have HX:=Zhd hx;have HRE:=Zhd hre;have HSTE:=Zhd (show qD e.s x=Zdm (Zcw R (cdOf p ord) p.ins (putM e.s) x).2.1 from by rw[Jz.out];rfl);have HNXE:=Zhd (show qE e.s x=if (Zcw R (cdOf p ord) p.ins (putM e.s) x).2.1.asrt=true then some (Zby (Zcw R (cdOf p ord) p.ins (putM e.s) x).2.2) else none from by rw[ge.out];rfl);have HNR:=Zhd (state_right (HSR.out x (putM e.s) (put_right hre)));have HCODE:=Zhd (step_fine (R:=R) (c:=cdOf p ord) (s:=putM e.s) rfl hix);have xY:=Zhd (stepM_sizes R p ord (putM e.s) x);have S5:=S.below (J4.out.trans (HS.out.below.mono J4.out.size));have n1:(n:Int)<os.length:=by omega
   clear hx gS hsve hes he hre yh d1 d2 hix;go_wp2_with fail;refine(load_any sp ya.out S5 e.s _ HSV.out (by have:=HSL.out;omega) (by omega)).mono ?_;rintro r w8 ⟨hg8,Hx⟩;rcases Hx with ⟨_,rfl,vm8,hM8⟩|⟨h,_⟩
   case inr=>rw[HRE.out] at h;cases h
   have hS8:=HS.out.gr ya.out.no hg8;have hx8:=SlV.le HX.out (Zb6 ya.out.isin w8) VlC.mono;generalize Zbt K wr.heap.size w8=K8 at *;have HM8:=Zhd hM8;have HS8:=Zhd hS8;have HX8:=Zhd hx8;clear hM8 hS8 hx8 hg8 d0 c0 S5;go_wp2_with fail;refine(mtick_any sp HM8.out HCD.out (S.below (J4.out.trans (HS8.out.below.mono J4.out.size))) x _ HX8.out hlx).mono ?_;rintro r w9 ⟨vm9,ov,cv,rfl,hg9,hM9,yZ⟩;have hS9:=HS8.out.gr HM8.out.no hg9;have hx9:=SlV.le HX8.out (Zb6 HM8.out.isin w9) VlC.mono;have yZ:=yZ.le (Zdk K8 w8.heap.size w9);generalize Zbt K8 w8.heap.size w9=K9 at *;rw[HCODE.out];generalize Zcw R (cdOf p ord) p.ins (putM e.s) x=X at *;obtain⟨xe,tk,s'⟩:=X;dsimp only at yZ hM9 HSTE HNXE HNR HCODE xY ⊢;obtain⟨kz,ky,rfl⟩:=yZ.outs.len;obtain⟨kF,kE,rfl⟩:=yZ.checks.len;obtain⟨WT,hWT⟩:∃WT,WT=w9.alloc (.cells #[.slice kz tk.out.length ky,.bool tk.asrt,.bool tk.trap,.slice kF tk.checks.length kE] 83):=⟨_,rfl⟩;have Qw:Ybw w9 WT:=by rw[hWT];exact Yba
   have hT:=heap_alloc_new w9 (.cells #[.slice kz tk.out.length ky,.bool tk.asrt,.bool tk.trap,.slice kF tk.checks.length kE] 83);rw[<- hWT] at hT;have hMT:=hM9.below Qw;have hST:=hS9.later Qw;obtain⟨t0,t1,t2,t3,_,zV⟩:=Zcd hT;have HT:=Zhd hT;have gh:=Zhd hMT;have HSTT:=Zhd hST;have HK9:=Zhd yZ;have HX9:=Zhd hx9;clear hM9 hS9 hx9 yZ hg9 Qw hT hMT hST;dsimp only[errV];rw[hWT] at t0 t1 t2 t3;go_wp2_with fail;rw[<- hWT] at *;refine(wrong_any K9 tk _ _ HK9.out (by have:=xY.out.2;omega) WT gh.out.isin).mono ?_;rintro r w10 ⟨rfl,hb10⟩;have hM10:=gh.out.below hb10;have hS10:=HSTT.out.later hb10;have t1:=(hb10.cell (p:=⟨w9.heap.size,1,none⟩) (by exact zV)).trans t1;have gi:=Zhd hM10;have Qf:=Zhd hS10;clear hM10 hS10 hb10 t0 t2 t3 gh HSTT hWT;by_cases qS : -2<Zcp tk
   .have Hn:=JG.out;rw[Bf.rest_found qD qE (HSTE.out.trans (wrongI_some qS))] at Hn;have zO:=Zhd Hn;obtain⟨KF,kf1,kf2,kf3,_⟩:=Qf.out.known;have HKF:=Zhd kf3;have gQ:=Zhd kf2;have xZ:=Zhd kf1;have jz:n<(os.map (·.1)).length:=by rw[Qi.out];exact jR
    have hshort:=HWY.out.short n jz;have hwI:=qS;clear Hn kf1 kf2 kf3 yZ t1;generalize Zcp tk=wi at *;go_wp2_with fail;refine(way_any KF (os.map (·.1)) _ HKF.out HWY.out n jz (by rw[Qi.out];omega) w10 gQ.out).mono ?_;rintro r w11 ⟨v11,xs,rfl,Jd,JC,hb11⟩;have qc:=Zhd (Za1 Jd ((Below.refl w11.heap.size w11).alloc Ylr (.cells #[.slice a2 x.length c2] 31)));have HXS:=Zhd JC;have HB11:=Zhd hb11;have hsz11:=hb11.size;clear Jd JC hb11;go_wp2_with(at_builtin;refine Zgs 28 31 1 24 _ Tryz.underlying28 Tryz.infoIs rfl (by decide) _ _ rfl rfl w10.heap.size _ _ _ rfl qc.out ⟨w11.heap.size,0,none⟩ 1 [.slice a2 x.length c2] rfl rfl ?c1 ?c2 ?c3 ?c4 ?c5 ?_)
    case c1=>exact Zf5 _ _ _
    case c2=>simp[Value.oneCell']
    case c3=>omega
    case c4=>omega
    case c5=>simp;omega
    intro g2 zl w12 ho hg12 _;have vQ:Ybw w10 w12:=(HB11.out.alloc hsz11 _).grown hg12 (by simp;omega) (λq hq=>(qc.out.lt q hq).1);have hin12:KF.In w12:=gQ.out.below vQ;have hx12:IsX KF (Bf.W (os.map (·.1)) n++[x]) (xs++[.slice a2 x.length c2]):=RowX.snoc IsC.pm HXS.out rfl ⟨_,rfl,SlV.le HX9.out xZ.out VlC.mono⟩;have hln:(Bf.W (os.map (·.1)) n++[x]).length=(Bf.W (os.map (·.1)) n).length+1:=by simp
    rw[<- hln] at ho ⊢;obtain⟨K12,_,Hk,hv,_⟩:=Zcn (R:=IsC) (l:=Bf.W (os.map (·.1)) n++[x]) hin12 ho (λq hq=>by
     have h:=(ho.lt q hq).1;exact gQ.out.isNone h) (RowX.at IsC.pm hx12)
    have HV12:=Zhd hv;have HI12:=Zhd Hk;have gp:=Zhd vQ;have kt:=vd.out _ _ _ _ zO.out;have HLW:=Zhd kt;have xN:(Bf.W (os.map (·.1)) n++[x]).length<=1000000:=by rw[hln];omega
    clear vQ hin12 hx12 ho hg12 Hk hv qc HXS kt hln;obtain⟨WX,hWX⟩:∃W,W=Bf.W (os.map (·.1)) n++[x]:=⟨_,rfl⟩;rw[<- hWX] at HV12 HLW xN ⊢;have HWX:=Zhd hWX;clear hWX;go_wp2_with fail;refine(own_any K12 WX _ HV12.out ⟨xN,HLW.out⟩ w12 HI12.out).mono ?_;rintro r w13 ⟨v13,K13,rfl,hv13,hst13⟩;obtain⟨xX,yy,rfl⟩:=hv13.len;have hB13:Ybw W0 w13:=Qf.out.below.trans ((gp.out.trans (hst13.below.mono gp.out.size)).mono Qf.out.below.size);have HB13:=Zhd hB13;have hK13:K13 (w.heap.size+1)=none:=by
     have h:=gp.out.size;have h1:=Qf.out.below.size;have h2:=jF.out;exact hst13.fresh _ (by omega)
    have HV13:=Zhd (show ∀x y z,InsV (Zan (put3 w13 (w.heap.size+1) x y z)) WX (.slice xX WX.length yy) from λx y z=>InsV.le (Zbl (hst13.isin.put3 hK13 x y z)) hv13);have hrl:=J4.out.size;clear hst13 hv13 hB13;have Jb:=Qh.out w13 HB13.out;obtain⟨r0,r1,r2,yT,yS,yR,_⟩:=Zbu Jb;have jG:=Zdq Jb (.int .i64 os.length) (.slice xX WX.length yy) (.int .i64 wi);obtain⟨WW,jO⟩:∃WW,WW=put3 w13 (w.heap.size+1) (.int .i64 os.length) (.slice xX WX.length yy) (.int .i64 wi):=⟨_,rfl⟩;rw[<- jO] at jG;obtain⟨e0,e1,e2,_⟩:=Zbu jG;have Qe:=Zhd jO;have jx:=jO;unfold put3 at jx;have xC:=Zhd jx;have E0:=Zhd e0;have E1:=Zhd e1;have E2:=Zhd e2;clear e0 e1 e2 jG Jb jO jx
    try(simp only[];go_at_K)
    repeat(first|go_values|go_skip|go_guarded|go_step|go_upon)
    rw[<- xC.out];have e0:=E0.out;have e1:=E1.out;have e2:=E2.out;refine bodyPost_ret (v:=.tuple #[.agg #[.int .i64 os.length,.slice xX WX.length yy,.int .i64 wi],.nilIface]) (by simp[results,Tryz.results6,go_sem,e0,e1,e2]) rfl ?_;rw[Qe.out];refine zR.out _ _ (Zc8 (J4.out.trans (HB13.out.mono J4.out.size)) (Nat.le_succ _) _ _ _) ?_;rw[zO.out];dsimp only;rw[Qi.out];refine⟨_,rfl,?_⟩;rw[<- HWX.out];exact HV13.out _ _ _
   have hwn:=wrongI_none qS;have hstn:=HSTE.out.trans hwn;have yA:=Zhd hstn;have hwI:=qS;generalize Zcp tk=wi at *;clear hwn hstn HSTE;go_wp2_with fail;refine(state_any gi.out (by have:=gi.out.len;omega)).mono ?_;rintro r w11 ⟨v11,rfl,hv11,hb11⟩;obtain⟨ga,c11,rfl⟩:=hv11.len;have hM11:=gi.out.join hb11;have hS11:=Qf.out.gr gi.out.no (Gr2.of_below hb11 M none);have hv11:=SlV.le hv11 (Zdk K9 w10.heap.size w11) VlC.mono;have hx11:=SlV.le HX9.out (Zb6 gi.out.isin w11) VlC.mono;have t1:=(hb11.cell (p:=⟨w9.heap.size,1,none⟩) (by have:=gi.out.isin;exact cell_lt t1)).trans t1;generalize Zbt K9 w10.heap.size w11=K11 at *;generalize Zby s'=S' at *;have HM11:=Zhd hM11;have HS11:=Zhd hS11;have HV11:=Zhd hv11;have HX11:=Zhd hx11;clear hM11 hS11 hv11 hx11 hb11 yZ HK9 HX9 gi Qf;have hSl':S'.length<=100000000:=by
    have h:=HNR.out;unfold Zb5 at h;simp only[Bool.and_eq_true,decide_eq_true_eq] at h;have h2:(Zcm R.ks p).length=Zag p.terms+1:=by simp[Zcm,Zaw]
    omega
   obtain⟨xo,xa,xt,xc⟩:=tk;dsimp only at t1 HNXE;cases xa with
   |false=>
    have zF:=HNXE.out;rw[if_neg (by simp)] at zF;have Hn:=JG.out;rw[Bf.rest_dead qD qE yA.out zF] at Hn;have jk:=Zhd Hn;have HFI:=Zhd (show RELI (.slice (some ⟨g,0,none⟩) os.length cu) (.int .i64 ((k+1:Nat):Int)) w11 from by
     rw[HRI.out];exact⟨k+1,os,_,_,_,rfl,by omega,HS11.out,HM11.out,jk.out,jR,HE.out,JV,HWY.out,Qg.out⟩)
    clear zF Hn;exact mSe1
   |true=>
    have zF:=HNXE.out;rw[if_pos rfl] at zF;have xE:=Zhd zF;clear zF;go_wp2_with fail;refine(key_any K11 S' _ HV11.out hSl' w11 HM11.out.isin).mono ?_;rintro r w12 ⟨rfl,vQ⟩;have hM12:=HM11.out.below vQ;have hS12:=HS11.out.later vQ;have hlk:=hS12.seen.run (P:=Tryz.prog) Tryz.underlying79 Tryz.underlying9 (d:=false) (by kernel_rfl) (keyB S') false;have hse:((seenE (os.map (·.1.s))) (keyB S')).getD false=decide (S'∈os.map (·.1.s)):=seenE_at (K:=Zcm R.ks p) (λy hy=>by
     obtain⟨z,hz,rfl⟩:=List.mem_map.1 hy;exact Qg.out z hz) HNR.out
    simp only[Bool.false_eq_true,if_false,hse] at hlk;have HM12:=Zhd hM12;have HS12:=Zhd hS12;clear hM12 hS12 vQ hse;have Hl:(S'∈os.map (·.1.s))=(S'∈(os.map (·.1)).map (·.s)):=by rw[List.map_map];rfl
    by_cases Hk:S'∈os.map (·.1.s)
    .have Hn:=JG.out;rw[Bf.rest_seen qD qE yA.out xE.out (Hl▸Hk)] at Hn;have jk:=Zhd Hn;have HFI:=Zhd (show RELI (.slice (some ⟨g,0,none⟩) os.length cu) (.int .i64 ((k+1:Nat):Int)) w12 from by
      rw[HRI.out];exact⟨k+1,os,_,_,_,rfl,by omega,HS12.out,HM12.out,jk.out,jR,HE.out,JV,HWY.out,Qg.out⟩)
     rw[decide_eq_true Hk] at hlk;clear Hn Hl;exact mSe1
    rw[decide_eq_false Hk] at hlk;have hnin:¬S'∈(os.map (·.1)).map (·.s):=λh=>Hk (by rw[Hl];exact h);have HNIN:=Zhd hnin;clear hnin Hl Hk;by_cases hfull:os.length=mN
    ·
     have q5:((os.length:Int)==(mN:Int))=true:=by rw[hfull];exact beq_self_eq_true _
     have Hn:=JG.out;rw[Bf.rest_over qD qE yA.out xE.out HNIN.out (by rw[Qi.out];exact hfull)] at Hn;have zO:=Zhd Hn;have gp:=Zhd HS12.out.below;have c1:=(S.below (J4.out.trans (gp.out.mono J4.out.size))).c1;have Jb:=Qh.out w12 gp.out;obtain⟨r0,r1,r2,yT,yS,yR,_⟩:=Zbu Jb;have jG:=Zdq Jb (.int .i64 0) (Ys0) (.int .i64 0);obtain⟨WW,jO⟩:∃WW,WW=(put3 w12 (w.heap.size+1) (.int .i64 0) (Ys0) (.int .i64 0)).drew:=⟨_,rfl⟩;have jG:WW.heap[w.heap.size+1]?=some (.cells #[.int .i64 0,Ys0,.int .i64 0] 33 (0,0)):=by rw[jO];exact jG
     obtain⟨e0,e1,e2,_⟩:=Zbu jG;have Qe:=Zhd jO;have jx:=jO;unfold put3 at jx;have xC:=Zhd jx;clear jO jx;have c1b:=(show(put3 w12 (w.heap.size+1) (.int .i64 0) (Ys0) (.int .i64 0)).cell? ⟨0,0,none⟩=_ from World.cell?_of_block (w:=w12) (Zg6 _ _ _ (by have:=S.big;show 0≠_;omega))).trans c1;unfold put3 at c1b;have E0:=Zhd e0;have E1:=Zhd e1;have E2:=Zhd e2;clear Hn e0 e1 e2 jG Jb;go_wp2_with fail;go_region
     try(simp only[];go_at_K)
     repeat(first|go_values|go_skip|go_guarded|go_step|go_upon)
     rw[<- xC.out];have e0:=E0.out;have e1:=E1.out;have e2:=E2.out;refine bodyPost_ret (v:=.tuple #[toldZ,esv (sp 1)]) (by simp[results,Tryz.results6,go_sem,e0,e1,e2,esv]) rfl ?_;rw[Qe.out];refine zR.out _ _ (Zc8 (J4.out.trans (gp.out.mono J4.out.size)) (Nat.le_succ _) _ _ _).drew ?_;rw[zO.out]
     first|done|rfl
    have q5:((os.length:Int)==(mN:Int))=false:=beq_false_of_ne (by omega);have Hn:=JG.out;rw[Bf.rest_push qD qE yA.out xE.out HNIN.out (by rw[Qi.out];exact hfull)] at Hn;have jk:=Zhd Hn;clear Hn;go_wp2_with fail;clear hlk;refine(key_any K11 S' _ HV11.out hSl' w12 HM12.out.isin).mono ?_;rintro r w13 ⟨rfl,hb13⟩;have hM13:=HM12.out.below hb13;have hS13:=HS12.out.later hb13;have HM13:=Zhd hM13;have HS13:=Zhd hS13;clear hM13 hS13 hb13;go_wp2_with(first|(at_mapUpdate;refine Zev Value.bool 79 9 4 Tryz.underlying79 Tryz.underlying9 sb _ HS13.out.seen _ _ _ rfl rfl rfl (keyB S') rfl true rfl ?_;intro w14 hm14 hT14;rw[seenE_snoc] at hm14;have hS14:=HS13.out.put hT14 hm14;have hM14:=HM13.out.turned hT14 HS13.out.ords.2.2.2.2 HS13.out.noS;have kM:Ybw w14 (w14.alloc (.cells #[.slice ga S'.length c11,.int .i64 n,.slice a2 x.length c2] 76)):=Yba;have HS15:=Zhd (hS14.later kM);have HM15:=Zhd (hM14.below kM);have Jm:=hS14.low;clear hT14 hm14 hS14 hM14 kM)|(at_builtin;refine Zgs 77 76 3 56 _ Tryz.underlying77 Tryz.infoSt rfl (by decide) _ _ rfl rfl base _ _ _ rfl HS15.out.row ⟨w14.heap.size,0,none⟩ 1 [.slice ga S'.length c11,.int .i64 n,.slice a2 x.length c2] rfl rfl ?d1 ?d2 ?d3 ?d4 ?d5 ?_))
    case d1=>exact cells3 _ _ _ _ _
    case d2=>simp[Value.oneCell']
    case d3=>omega
    case d4=>omega
    case d5=>simp;omega
    intro g3 cap3 w16 ho hg16 hJ;have hS16:=HS15.out.app (x:=⟨S',n,x⟩) HV11.out HX11.out ho hg16 (by rw[World.size_alloc];exact hJ);have hM16:=HM15.out.grown hg16 (λq hq=>⟨HS15.out.noU q hq,by have:=(HS15.out.row.lt q hq).1;have:=HS15.out.ords.2.2.1;omega⟩);have HFI:=Zhd (show RELI (.slice (some ⟨g3,0,none⟩) (os.length+1) cap3) (.int .i64 ((k+1:Nat):Int)) w16 from by
     rw[HRI.out];refine⟨k+1,os++[(⟨S',n,x⟩,.slice ga S'.length c11,.slice a2 x.length c2)],_,_,_,rfl,by omega,by rw[List.map_append];exact hS16,hM16,by rw[List.map_append];exact jk.out,by simp;omega,?_,by simp;omega,by rw[List.map_append];exact HWY.out.snoc (by rw[Qi.out];exact jR) _ _,λy hy=>?_⟩
     .rw [List.getElem?_append_left jR];exact HE.out
     rcases List.mem_append.1 hy with hy|hy
     .exact Qg.out y hy
     rw[List.mem_singleton.1 hy];exact HNR.out)
    clear ho hg16 hJ hS16 hM16;exact mSe1
  obtain rfl:k=choices.length:=by omega
  have Hn:=JG.out;rw[List.drop_eq_nil_of_le Ylr,Bf.rest_nil] at Hn;have qr:=Zhd (show RELO (.slice au os.length cu) (.int .i64 ((n+1:Nat):Int)) wr from by
   rw[HRO.out];exact⟨n+1,os,K,vm',s,rfl,HS.out,ya.out,by rw[Hn,show mN+1 - (n+1)=mN - n from by omega],by omega,JV,HWY.out,Qg.out⟩)
  have jy:=yO.out;clear Hn;go_wp2_with fail;go_roundw
  case rel=>exact qr.out
  simp[intOf];omega
 obtain rfl:n=os.length:=by omega
 have ja:gG=.ok (os.map (·.1)):=by
  rw[Hn,show mN+1 - os.length=(mN - os.length)+1 from by omega];exact Bf.outer_end qD qE (by rw[List.getElem?_eq_none (by simp)])
 have zP:=Zhd ja;have gT:(os.map (·.1)).length=os.length:=List.length_map _;have HOL:=Zhd gT;have gm:=Zhd HS.out.below;clear ja Hn gT;have Jb:=Qh.out wr gm.out;obtain⟨r0,r1,r2,yT,yS,yR,_⟩:=Zbu Jb;have jG:=Zdq Jb (.int .i64 os.length) (Ys0) (.int .i64 (-2));obtain⟨WW,jO⟩:∃WW,WW=put3 wr (w.heap.size+1) (.int .i64 os.length) (Ys0) (.int .i64 (-2)):=⟨_,rfl⟩;rw[<- jO] at jG;obtain⟨e0,e1,e2,_⟩:=Zbu jG;have Qe:=Zhd jO;have jx:=jO;unfold put3 at jx;have xC:=Zhd jx;have E0:=Zhd e0;have E1:=Zhd e1;have E2:=Zhd e2;clear e0 e1 e2 jG Jb jO jx
 try(simp only[];go_at_K)
 repeat(first|go_values|go_skip|go_guarded|go_step|go_upon)
 rw[<- xC.out];have e0:=E0.out;have e1:=E1.out;have e2:=E2.out;refine bodyPost_ret (v:=.tuple #[.agg #[.int .i64 os.length,Ys0,.int .i64 (-2)],.nilIface]) (by simp[results,Tryz.results6,go_sem,e0,e1,e2]) rfl ?_;rw[Qe.out];refine zR.out _ _ (Zc8 (J4.out.trans (gm.out.mono J4.out.size)) (Nat.le_succ _) _ _ _) ?_;rw[zP.out];dsimp only;rw[HOL.out]
theorem searchE_zero{p:Pr}{choices:List (List Vl)}{most:Int}(h:(Zcf p choices most).1=0):(Za2 p).1=0/\1<=most/\most<=3000/\choices.length<=100/\∀x∈choices,Zas p.ins x x.length=true:=by
 unfold Zcf at h
 split at h
 .exact absurd h ‹_›
 rename_i h0
 split at h
 .cases h
 rename_i h1
 refine⟨(Zih (Classical.not_not.1 h0)).1,by omega,by omega,by omega,λx hx=>?_⟩
 split at h
 .cases h
 rename_i h2
 have:=List.findIdx?_eq_none_iff.1 h2 x hx;simpa using this
theorem Zhl.told{sp:Nat->Addr}{p:Pr}{choices:List (List Vl)}{most:Int}{w:World}{r:Ending}{w':World}(h:Zhl sp p choices most w r w'):Ybw w w'/\((∃t u,r=.returned (.tuple #[toldZ,.iface t u]))\/((Zcf p choices most).1=0/\∃ks ord,Zao Env.none p.vars=some ks/\Za5 p=.ok ord/\
  ((∃l,Zdd ks ord p choices most.toNat=.ok l/\r=.returned (.tuple #[.agg #[.int .i64 l.length,Ys0,.int .i64 (-2)],.nilIface]))\/
   ∃i l c k v,Zdd ks ord p choices most.toNat=.found i l c k/\r=.returned (.tuple #[.agg #[.int .i64 l.length,v,.int .i64 k],.nilIface])/\InsV (Zan w') (Bf.W l i++[c]) v))):=by
 obtain⟨hb,h⟩:=h;refine⟨hb,?_⟩
 split at h
 .rename_i hz
  obtain⟨ks,ord,h1,h2,h3⟩:=h
  split at h3
  .exact .inl ⟨_,_,h3⟩
  .rename_i l e
   exact .inr ⟨hz,ks,ord,h1,h2,.inl ⟨l,e,h3⟩⟩
  rename_i i l c k e
  obtain⟨v,h4,h5⟩:=h3;exact .inr ⟨hz,ks,ord,h1,h2,.inr ⟨i,l,c,k,v,e,h4,h5⟩⟩
 rename_i hz
 obtain⟨v,h1,h2⟩:=h;rcases h2 with ⟨_,h2⟩|⟨_,N,h2,_⟩
 .obtain⟨c,hc⟩:∃c,(Zcf p choices most).1=c+1:=⟨(Zcf p choices most).1 - 1,by omega⟩;rw[hc] at h2;exact .inl ⟨_,_,by rw[h1,h2];rfl⟩
 exact .inl ⟨_,_,by rw[h1,h2]⟩
theorem still_ord:Za5 bareP=.ok [0]:=by kernel_rfl
theorem still_ks:Zao Env.none bareP.vars=some (Env.none.set ⟨#[120]⟩ 1):=by kernel_rfl
theorem still_E:Zcf bareP [[]] 5=(0, -1):=by kernel_rfl
theorem still_S:Zdd (Env.none.set ⟨#[120]⟩ 1) [0] bareP [[]] 5=.ok [⟨[⟨1,1⟩], -1,[]⟩,⟨[⟨1,0⟩],0,[]⟩]:=by kernel_rfl
theorem still_any(H:Kn)(T:Zbv H)(sp:Nat->Addr)(w:World)(hH:H.In w)(S:Sen5 w sp):
  Calls Tryz.prog 4 #[] w λr w'=>r=.returned (.bool true)/\Ybw w w':=by
 have He:∀w1,Ybw w w1->Zbv (Zan w1):=λw1 hb=>T.le (Zbl (hH.below hb));have JZ:=Zhd He;clear He;go_enter Tryz.func4,Tryz.ntmps4;go_wp2_with fail;refine(lbare_any _).mono ?_;rintro r w1 ⟨vi,vo,vl,va,vc,rfl,hp,Hv⟩;have Jn:=Zhd Hv;have yD:=Zhd hp;clear Hv hp;go_wp2_with fail;have Hm:Ybw w (w1.alloc (.cells #[Ys0] 31)):=Jn.out.alloc Jn.out.size _;have Hk:InsV (Zan (w1.alloc (.cells #[Ys0] 31))) [[]] (.slice (some ⟨w1.heap.size,0,none⟩) 1 1):=by
  refine .inr ⟨_,0,1,rfl,by simp,by unfold maxLen;omega,λi hi=>?_⟩;obtain rfl:i=0:=by simpa using hi
  refine⟨Ys0,?_,.inl ⟨rfl,none,0,rfl⟩⟩;show(Zan _).cell _ _=_;rw[Zaj];simp
 have hp2:PrP (Zan (w1.alloc (.cells #[Ys0] 31))) bareP vi vo vl va vc:=yD.out.le (Zbl ((Za9 w1).alloc _));refine(search_any _ (JZ.out _ Hm) sp bareP _ _ _ _ _ hp2 [[]] _ Hk 5 _ (Za9 _) (S.below Hm) ⟨by decide,by decide,by decide,by decide,by decide⟩ (by decide) ⟨by decide,λx hx=>by simp at hx;subst hx;decide⟩).mono ?_;rintro r w3 ⟨Jg,Hx⟩;have Js:=Zhd (Hm.trans (Jg.mono Hm.size));rw[still_E,if_pos rfl] at Hx;obtain⟨ks,ord,hks,ho,Hx⟩:=Hx;rw[still_ord] at ho;cases ho;rw[still_ks] at hks;cases hks;rw[show(5:Int).toNat=5 from rfl,still_S] at Hx;dsimp only at Hx;subst Hx;clear Hk hp2 Hm Jg;go_wp2_with fail;go_ret;exact⟨rfl,Js.out.alloc Js.out.size _⟩
end Go.Proofs.YtafapnolamcdmaaGreatDoor
