/- Walks: lustrumref2.CheckOf. -/
import Derived.Test.YtgoccoldkfpbgaaGreatDoorRg
import Derived.Test.YtgoccoldkfpbgaaGreatDoorRh
import Derived.Test.YtgoccoldkfpbgaaGreatDoorRfI
import Derived.Test.YtgoccoldkfpbgaaGreatDoorOrd
import Derived.Test.YtgoccoldkfpbgaaGreatDoorTe
import Derived.Test.YtgoccoldkfpbgaaGreatDoorKi
import Derived.Test.YtgoccoldkfpbgaaGreatDoorFlC
set_option linter.all false
namespace Go.Proofs.YtgoccoldkfpbgaaGreatDoor
set_option maxRecDepth 100000
set_option maxHeartbeats 16000000
open Go.RowKit Mx
theorem mRfL3 {p:Prop} (h:p:=by
 obtain⟨q0,q1,f0,f1,hlw⟩:=Zd2 hR5
 have hR6:=(HB.out.block (w.heap.size+1) (by omega)).trans HR4.out
 obtain⟨q2,q3,f2,f3,hlw2⟩:=Zd2 hR6
 obtain⟨e0,e1,e2,e3⟩:=Zhc hR6 (.int .i64 7) (.int .i64 k)
 have E0:=Zhd e0
 have E1:=Zhd e1
 clear e0 e1 e2 e3 hR5
 go_wp2_with fail
 have e0:=E0.out
 have e1:=E1.out
 refine bodyPost_ret (v := .agg #[.int .i64 7,.int .i64 k]) (by simp [results,Tryz.results38,go_sem,e0,e1]) rfl ?_
 exact⟨by rw [HX.out];rfl,Zdo (HB4.out.trans (HBD.out.mono (by omega))) (by omega) _ _⟩):p:=h
theorem mRfL2 {p:Prop} (h:p:=by
 go_wp2_with fail
 refine Zae (fun w'=>(Zag w2).In w') (fun _=>True) 99 (by kernel_rfl) ?_
 refine Go.w3 0 ?_
 iterate 7 ((first | (refine tk3 (v:=?_) rfl hS2 Ztr ?hy ?_;(case hy=>intro w hSw;obtain⟨z0,z1,z2,z3,z4,z5,z6,z7,z8⟩:=hSw.c9 k0 k1 k2 k3 k4 d0 d1 d2 d3;go_simp<;>with_reducible rfl)) | refine sk3 rfl hS2 Ztr ?_ | refine no3 ?_);refine Zss ?_)
 refine Go.w3e ?_
 refine Zwo 7 rfl fun K_ hK=>?_
 go_simp
 go_at_call 64
 refine (HCL.out _ hS2).mono ?_
 rintro r w3 ⟨rfl,hb3⟩
 have hS3:=hS2.below hb3
 refine hK.out _ _ (hS3) Ztr ?_
 clear hK K_
 refine Zst ?_
 refine tk2 (i:=8) (v:=?_) rfl hS3 Ztr ?hy ?_
 case hy=>exact mRfL1
 refine Zst ?_
 refine Zwd ?_
 have HB3:=Zhd (HB.out.drew.trans (hb3.mono (by have:=HB.out.drew.size;omega)))
 by_cases hq:0<q
 ·have HX:=Zhd (HYES.out hq)
  go_wp2_with fail
  refine (bare_any 7 _).mono ?_
  rintro r w5 ⟨rfl,hb5⟩
  have HB5:=Zhd (HB3.out.trans (hb5.mono HB3.out.size))
  have hR5:=(HB5.out.block (w.heap.size+1) (by omega)).trans HR4.out
  obtain⟨q0,q1,f0,f1,hlw⟩:=Zd2 hR5
  obtain⟨e0,e1,e2,e3⟩:=Zhc hR5 (.int .i64 7) (.int .i64 (-1))
  have E0:=Zhd e0
  have E1:=Zhd e1
  clear e0 e1 e2 e3 hR5
  go_wp2_with fail
  have e0:=E0.out
  have e1:=E1.out
  refine bodyPost_ret (v := .agg #[.int .i64 7,.int .i64 (-1)]) (by simp [results,Tryz.results38,go_sem,e0,e1]) rfl ?_
  exact⟨by rw [HX.out];rfl,Zdo (HB4.out.trans (HB5.out.mono (by omega))) (by omega) _ _⟩
 have HX:=Zhd (HNOT.out (by omega))
 go_wp2_with fail
 go_roundw
 case rel=>exact⟨k+1,by go_num,by omega,HB3.out,HX.out⟩
 simp [intOf];omega):p:=h
theorem mRfL1 {p:Prop} (h:p:=by
 intro w hSw;obtain⟨z0,z1,z2,z3,z4,z5,z6,z7,z8⟩:=hSw.c9 k0 k1 k2 k3 k4 d0 d1 d2 d3;first | (go_simp;done) | (go_simp;with_reducible rfl)):p:=h
theorem checkOf_any (H:Kn) (p:Pr) (vi vo vl va vc:Value) (hp:PrP H p vi vo vl va vc) (s1:p.fl.length≤1000000) (s2:Ex.partsL p.terms≤1000000000) (s3:p.ins.length≤100000000∧p.outs.length≤100000000∧p.as.length≤100000000∧p.cs.length≤100000000) (w:World) (hH:H.In w):
  Calls Tryz.prog 38 #[.agg #[vi,vo,vl,va,vc]] w fun r w'=>r = .returned (.agg #[.int .i64 (Za2 p).1,.int .i64 (Za2 p).2])∧Below w.heap.size w w':=by
 have HP:=Zhd hp
 obtain⟨h1,h2,h3,h4,h5⟩:=hp
 obtain⟨ai,ci,rfl⟩:=h1.len
 obtain⟨ao,co,rfl⟩:=h2.len
 obtain⟨al,cl,rfl⟩:=h3.len
 obtain⟨aa,ca,rfl⟩:=h4.len
 obtain⟨ac,cc,rfl⟩:=h5.len
 clear h1 h2 h3 h4 h5
 have hP0:=heap_alloc_new w (.cells #[.slice ai p.ins.length ci,.slice ao p.outs.length co,.slice al p.fl.length cl,.slice aa p.as.length ca,.slice ac p.cs.length cc] 27)
 have hR0:=heap_alloc_new (w.alloc (.cells #[.slice ai p.ins.length ci,.slice ao p.outs.length co,.slice al p.fl.length cl,.slice aa p.as.length ca,.slice ac p.cs.length cc] 27)) (.cells #[.int .i64 0,.int .i64 0] 45)
 have hb0:Below w.heap.size w ((w.alloc (.cells #[.slice ai p.ins.length ci,.slice ao p.outs.length co,.slice al p.fl.length cl,.slice aa p.as.length ca,.slice ac p.cs.length cc] 27)).alloc (.cells #[.int .i64 0,.int .i64 0] 45)):=((Below.refl _ _).alloc (Nat.le_refl _) _).alloc (by simp) _
 have hz1:((w.alloc (.cells #[.slice ai p.ins.length ci,.slice ao p.outs.length co,.slice al p.fl.length cl,.slice aa p.as.length ca,.slice ac p.cs.length cc] 27)).alloc (.cells #[.int .i64 0,.int .i64 0] 45)).heap.size=w.heap.size+2:=by simp
 have hP1:=(Below.heap_alloc (w.alloc (.cells #[.slice ai p.ins.length ci,.slice ao p.outs.length co,.slice al p.fl.length cl,.slice aa p.as.length ca,.slice ac p.cs.length cc] 27)) (.cells #[.int .i64 0,.int .i64 0] 45) w.heap.size (by simp)).trans hP0
 rw [World.size_alloc] at hR0
 have HH1:=Zhd (hH.below hb0)
 have HB0:=Zhd hb0
 have HP1:=Zhd hP1
 have HR0:=Zhd hR0
 clear hP0 hR0 hP1 hb0
 go_enter Tryz.func38,Tryz.ntmps38
 go_wp2_with fail
 generalize (w.alloc (.cells #[.slice ai p.ins.length ci,.slice ao p.outs.length co,.slice al p.fl.length cl,.slice aa p.as.length ca,.slice ac p.cs.length cc] 27)).alloc (.cells #[.int .i64 0,.int .i64 0] 45)=W1 at *
 refine (orderOf_any H p _ _ _ _ _ HP.out s1 s2 s3 W1 HH1.out).mono ?_
 rintro r w1 ⟨hb1,v1,v2,rfl,hord⟩
 have HB1:=Zhd (HB0.out.trans (hb1.mono (by omega)))
 have hP1:=(hb1.block w.heap.size (by omega)).trans HP1.out
 have hR1:=(hb1.block (w.heap.size+1) (by omega)).trans HR0.out
 have hz2:w.heap.size+2≤w1.heap.size:=by have:=hb1.size;omega
 have HH2:=Zhd (HH1.out.below (hb1.mono (by omega)))
 have HP2:=Zhd hP1
 have HR2:=Zhd hR1
 clear hb1 hP1 hR1 HP1 HR0 HB0
 unfold OrdRef at hord
 cases hom:Zbf p with
 | error x=>
  rw [hom] at hord
  obtain⟨rfl,rfl⟩:=hord
  have HX:=Zhd (show Za2 p=x from by unfold Za2 Zer;rw [hom])
  have hx0:(0:Int)<x.1:=by
   unfold Zbf at hom
   split at hom
   ·rename_i h;cases hom;show (0:Int)<(Zaj p:Nat);omega
   split at hom
   ·cases hom;simp
   cases hom
  clear hom
  obtain⟨c,at_⟩:=x
  dsimp only at *
  have HXC:=Zhd (show ((Za2 p).1:Int)=c∧(Za2 p).2=at_ from by rw [HX.out];exact⟨rfl,rfl⟩)
  generalize (c:Int)=cI at *
  have hR3:=(Below.heap_alloc w1 (.cells #[.int .i64 cI,.int .i64 at_] 45) (w.heap.size+1) (by omega)).trans HR2.out
  obtain⟨q0,q1,f0,f1,hlw⟩:=Zd2 hR3
  obtain⟨e0,e1,e2,e3⟩:=Zhc hR3 (.int .i64 cI) (.int .i64 at_)
  have E0:=Zhd e0
  have E1:=Zhd e1
  have hfin:=HB1.out.alloc (by omega) (.cells #[.int .i64 cI,.int .i64 at_] 45)
  clear e0 e1 e2 e3 hR3
  go_wp2_with fail
  have e0:=E0.out
  have e1:=E1.out
  refine bodyPost_ret (v := .agg #[.int .i64 cI,.int .i64 at_]) (by simp [results,Tryz.results38,go_sem,e0,e1]) rfl ?_
  exact⟨by rw [HXC.out.1,HXC.out.2],Zdo hfin (by omega) _ _⟩
 | ok l=>
  rw [hom] at hord
  obtain⟨hv,rfl⟩:=hord
  obtain⟨av,cv,rfl⟩:=hv.len
  clear hv
  have HLM:=Zhd (show Zer p = .ok (p.fl.map fun f=>Zac p f.name) from by unfold Zer;rw [hom])
  have hck:Zaj p=0:=by
   unfold Zbf at hom
   split at hom
   ·cases hom
   rename_i h;simpa using h
  obtain⟨ks,_,_,hfm,hfl,hpp,_,_⟩:=Zb4 hck
  have HFM:=Zhd (show ∀ e∈p.terms,Zaf ks e=true from fun e he=>by
   obtain⟨i,hi,h⟩:=List.mem_iff_getElem.1 he
   rw [← h];exact (Zbg ks _).1 hfm i hi)
  have HPM:=Zhd (show ∀ e∈p.terms,e.parts≤1000000000000 from fun e he=>by
   obtain⟨i,hi,h⟩:=List.mem_iff_getElem.1 he
   have:=Zau _ i hi
   rw [← h];omega)
  have HNM:=Zhd (show ∀ f∈p.fl,Zaf ks f.e=true from fun f hf=>by
   obtain⟨i,hi,he⟩:=List.mem_iff_getElem.1 (Zej p hf)
   rw [← he];exact (Zbg ks _).1 hfm i hi)
  have HND:=Zhd (Zgv hck)
  have hP3:=(Below.heap_alloc w1 (.cells #[.int .i64 0,.int .i64 (-1)] 45) w.heap.size (by omega)).trans HP2.out
  have hR3:=(Below.heap_alloc w1 (.cells #[.int .i64 0,.int .i64 (-1)] 45) (w.heap.size+1) (by omega)).trans HR2.out
  have m0:(w1.alloc (.cells #[.int .i64 0,.int .i64 (-1)] 45)).cell? ⟨w.heap.size,0,none⟩=some (.slice ai p.ins.length ci):=by simp [World.cell?,hP3]
  have m1:(w1.alloc (.cells #[.int .i64 0,.int .i64 (-1)] 45)).cell? ⟨w.heap.size,1,none⟩=some (.slice ao p.outs.length co):=by simp [World.cell?,hP3]
  have m2:(w1.alloc (.cells #[.int .i64 0,.int .i64 (-1)] 45)).cell? ⟨w.heap.size,2,none⟩=some (.slice al p.fl.length cl):=by simp [World.cell?,hP3]
  have m3:(w1.alloc (.cells #[.int .i64 0,.int .i64 (-1)] 45)).cell? ⟨w.heap.size,3,none⟩=some (.slice aa p.as.length ca):=by simp [World.cell?,hP3]
  have m4:(w1.alloc (.cells #[.int .i64 0,.int .i64 (-1)] 45)).cell? ⟨w.heap.size,4,none⟩=some (.slice ac p.cs.length cc):=by simp [World.cell?,hP3]
  have HP3:=Zhd hP3
  have HR3:=Zhd hR3
  have HB3:=Zhd (HB1.out.alloc (by omega) (.cells #[.int .i64 0,.int .i64 (-1)] 45))
  have HH3:=Zhd (HH2.out.alloc (.cells #[.int .i64 0,.int .i64 (-1)] 45))
  clear hom hck hfm hpp hP3 hR3
  go_wp2_with fail
  refine (Zh4 H p _ _ _ _ _ HP.out ks HNM.out HND.out s1 s2 _ HH3.out).mono ?_
  rintro r w2 ⟨A,vA,rfl,hAl,hAf,hAb,hvA,hb2⟩
  obtain⟨aA,cA,rfl⟩:=hvA.len
  rw [hAl] at hvA ⊢
  have HVA:=Zhd hvA
  have HAF:=Zhd hAf
  have HAL:=Zhd hAl
  have HAB:=Zhd hAb
  have hz3:=HB3.out.size
  have hz4:=hb2.size
  simp only [World.size_alloc] at hz4 hb2
  have HB4:=Zhd (HB3.out.trans (hb2.mono (by omega)))
  have HP4:=Zhd ((hb2.block w.heap.size (by omega)).trans HP3.out)
  have HR4:=Zhd ((hb2.block (w.heap.size+1) (by omega)).trans HR3.out)
  have HH4:=Zhd (HH3.out.below (by simpa using hb2))
  have HPA:=Zhd (HP.out.le (show H.le (Zag w2) from HH4.out))
  clear hvA hAf hAl hAb hb2 HP3 HR3 HB3 HH3 HP2 HR2 HB1 HH2 m0 m1 m2 m3 m4
  go_wp2_with fail
  go_loopw [6,7] (fun i u7 wr=>∃ k:Nat,i = .int .i64 k∧k≤p.fl.length∧Below w2.heap.size w2 wr∧∀ j (hj:j<p.fl.length),j<k→hit p p.fl[j].name=false) (fun i _ _=>p.fl.length - (intOf i).toNat)
  case atStart=>exact⟨0,rfl,Nat.zero_le _,Below.refl _ _,fun j _ h=>by omega⟩
  obtain⟨k,rfl,hk,hb,hno⟩:=hrel
  have HB:=Zhd hb
  have HNO:=Zhd hno
  clear hb hno
  have hP5:=(HB.out.block w.heap.size (by omega)).trans HP4.out
  have m1:wr.cell? ⟨w.heap.size,1,none⟩=some (.slice ao p.outs.length co):=by simp [World.cell?,hP5]
  have m2:wr.cell? ⟨w.heap.size,2,none⟩=some (.slice al p.fl.length cl):=by simp [World.cell?,hP5]
  have m3:wr.cell? ⟨w.heap.size,3,none⟩=some (.slice aa p.as.length ca):=by simp [World.cell?,hP5]
  by_cases hkl:k<p.fl.length
  ·have hkI:(k:Int)<p.fl.length:=by omega
   have hP2:=HP4.out
   have k1:(Zag w2).cell w.heap.size 1=some (.slice ao p.outs.length co):=by rw [Zad];simp [World.cell?,hP2]
   have k2:(Zag w2).cell w.heap.size 2=some (.slice al p.fl.length cl):=by rw [Zad];simp [World.cell?,hP2]
   obtain⟨bb,off,cap0,he,_,_,hcs⟩:=FlsV.cell HPA.out.fl (fun e=>by rw [e] at hkl;simp at hkl)
   cases he
   obtain⟨ax,cx,d0,d1,d2,d3,d4,d5,hx⟩:=hcs k hkl
   have hS2:(Zag w2).In wr.drew:=(Za0 w2).below HB.out.drew
   have HIT:=Zhd (show hit p p.fl[k].name=(decide (Zac p p.fl[k].name=2) || decide (Zac p p.fl[k].name=1)&&p.outs.contains p.fl[k].name) from rfl)
   have HYES:=Zhd (show hit p p.fl[k].name=true→Za2 p=(7,(k:Int)) from fun h=>Zje HLM.out k hkl h HNO.out)
   have HNOT:=Zhd (show hit p p.fl[k].name=false→∀ j (hj:j<p.fl.length),j<k+1→hit p p.fl[j].name=false from fun h j hj hjk=>by
    by_cases hjk':j<k
    ·exact HNO.out j hj hjk'
    obtain rfl:j=k:=by omega
    exact h)
   clear hcs d1 d2 d3 d4 d5 hx hP2 hP5
   have HNX:=Zhd (fLate_get HND.out A HAL.out k hkl)
   rw [HAF.out] at HNX
   have hkA:k<A.length:=by rw [HAL.out];exact hkl
   have hvA2:Zeo (Zag w2) A (.slice aA A.length cA):=by rw [HAL.out];exact HVA.out
   obtain⟨bA,oA,hbA,_,a0⟩:=SlV.at hvA2 hkA
   cases hbA
   have a0:(Zag w2).cell bA (oA+k * 1+0)=some (.int .i64 A[k]):=a0
   simp only [Nat.mul_one,Nat.add_zero] at a0
   have n0:=((Za0 w2).below HB.out.drew).cell a0
   clear a0 hvA2
   generalize hak:A[k]=ak at *
   clear hak
   generalize p.fl[k]=x at *
   rw [← HNX.out] at n0
   obtain⟨hc,hhc⟩:∃ b,b=p.outs.contains x.name:=⟨_,rfl⟩
   have HCO:=Zhd (fun (wz:World) (hz:(Zag w2).In wz)=>(rhas_any _ _ p.outs x.name wz HPA.out.outs (by omega) hz))
   rw [← hhc] at HCO HIT
   clear hhc
   generalize Zac p x.name=q at *
   go_wp2_with fail
   refine Zae (fun w'=>(Zag w2).In w') (fun _=>True) 99 (by kernel_rfl) ?_
   refine Go.w3 0 ?_
   iterate 8 ((first | (refine tk3 (v:=?_) rfl hS2 Ztr ?hy ?_;(case hy=>intro w hSw;obtain⟨z0,z1,z2⟩:=hSw.c3 k1 k2 d0;go_simp<;>with_reducible rfl)) | refine sk3 rfl hS2 Ztr ?_ | refine no3 ?_);refine Zss ?_)
   refine Go.w3e ?_
   refine Zwo 8 rfl fun K_ hK=>?_
   go_simp
   go_at_call 63
   refine (HCO.out _ hS2).mono ?_
   rintro r w3 ⟨rfl,rfl⟩
   refine hK.out _ _ (hS2) Ztr ?_
   clear hK K_
   refine Zst ?_
   refine tk2 (i:=9) (v:=?_) rfl hS2 Ztr ?hy ?_
   case hy=>intro w hSw;obtain⟨z0,z1,z2⟩:=hSw.c3 k1 k2 d0;go_simp<;>with_reducible rfl
   refine Zst ?_
   refine Zwd ?_
   have HBD:=Zhd HB.out.drew
   have hR5:wr.drew.heap[w.heap.size+1]?=_:=(HBD.out.block (w.heap.size+1) (by omega)).trans HR4.out
   have hway:q=2∨(q=1∧hc=true)∨(q=1∧hc=false)∨(q≠2∧q≠1):=by
    by_cases a:q=2
    ·exact .inl a
    by_cases b:q=1
    ·cases hc
     ·exact .inr (.inr (.inl ⟨b,rfl⟩))
     exact .inr (.inl ⟨b,rfl⟩)
    exact .inr (.inr (.inr ⟨a,b⟩))
   rcases hway with rfl | ⟨rfl,rfl⟩ | ⟨rfl,rfl⟩ | ⟨hq2,hq1⟩
   ·have HX:=Zhd (HYES.out (by rw [HIT.out];rfl))
    exact mRfL3
   ·have HX:=Zhd (HYES.out (by rw [HIT.out];rfl))
    exact mRfL3
   ·have HX:=Zhd (HNOT.out (by rw [HIT.out];rfl))
    clear hR5
    go_wp2_with fail
    go_roundw
    case rel=>exact⟨k+1,by go_num,by omega,HBD.out,HX.out⟩
    simp [intOf];omega
   have e2:(q==2)=false:=by simpa using hq2
   have e1:(q==1)=false:=by simpa using hq1
   have HX:=Zhd (HNOT.out (by rw [HIT.out];simp [hq2,hq1]))
   clear hR5
   go_wp2_with fail
   go_roundw
   case rel=>exact⟨k+1,by go_num,by omega,HBD.out,HX.out⟩
   simp [intOf];omega
  obtain rfl:k=p.fl.length:=by omega
  have HE:=Zhd (Zjf HLM.out fun j hj=>HNO.out j hj hj)
  clear HNO hkl
  have HBq:=HB
  have HMA:=Zhd (show ∀ e∈p.as,e∈p.terms from fun e he=>by simp [Pr.terms,he])
  have HMC:=Zhd (show ∀ e∈p.cs,e∈p.terms from fun e he=>by simp [Pr.terms,he])
  go_wp2_with fail
  clear m1 m2 m3 hP5
  go_loopw [8] (fun i wr=>∃ k:Nat,i = .int .i64 k∧k≤p.as.length∧Below w2.heap.size w2 wr∧∀ j (hj:j<p.as.length),j<k→lateOf (Zac p) p.as[j]≤0) (fun i _=>p.as.length - (intOf i).toNat)
  case atStart=>exact⟨0,rfl,Nat.zero_le _,HBq.out,fun j _ h=>by omega⟩
  obtain⟨k,rfl,hk,hb,hno⟩:=hrel
  have HB:=Zhd hb
  have HNO:=Zhd hno
  clear hb hno
  have hP5:=(HB.out.block w.heap.size (by omega)).trans HP4.out
  have m3:wr.cell? ⟨w.heap.size,3,none⟩=some (.slice aa p.as.length ca):=by simp [World.cell?,hP5]
  by_cases hkl:k<p.as.length
  ·have hkI:(k:Int)<p.as.length:=by omega
   have hP2:=HP4.out
   have k0:(Zag w2).cell w.heap.size 0=some (.slice ai p.ins.length ci):=by rw [Zad];simp [World.cell?,hP2]
   have k1:(Zag w2).cell w.heap.size 1=some (.slice ao p.outs.length co):=by rw [Zad];simp [World.cell?,hP2]
   have k2:(Zag w2).cell w.heap.size 2=some (.slice al p.fl.length cl):=by rw [Zad];simp [World.cell?,hP2]
   have k3:(Zag w2).cell w.heap.size 3=some (.slice aa p.as.length ca):=by rw [Zad];simp [World.cell?,hP2]
   have k4:(Zag w2).cell w.heap.size 4=some (.slice ac p.cs.length cc):=by rw [Zad];simp [World.cell?,hP2]
   obtain⟨bb,off,ax,cx,he,d0,d1,d2,d3,hx⟩:=ExsV.at HPA.out.asr hkl
   cases he
   have hS2:(Zag w2).In wr.drew:=(Za0 w2).below HB.out.drew
   have HYES:=Zhd (show 0<lateOf (Zac p) p.as[k]→Za2 p=(7, -1) from fun h=>by
    rw [HE.out,if_pos]
    rw [List.any_eq_true]
    exact⟨p.as[k],List.mem_append_left _ (List.getElem_mem hkl),by simpa using h⟩)
   have HNOT:=Zhd (show lateOf (Zac p) p.as[k]≤0→∀ j (hj:j<p.as.length),j<k+1→lateOf (Zac p) p.as[j]≤0 from fun h j hj hjk=>by
    by_cases hjk':j<k
    ·exact HNO.out j hj hjk'
    obtain rfl:j=k:=by omega
    exact h)
   have hfx:=HFM.out _ (HMA.out _ (List.getElem_mem hkl))
   have hpx:=HPM.out _ (HMA.out _ (List.getElem_mem hkl))
   have HCL:=Zhd (fun (wz:World) (hz:(Zag w2).In wz)=>Zh3 p _ _ _ _ _ A HAL.out HAB.out s1 ks p.as[k] hfx hpx (Zag w2) _ _ hx HPA.out HVA.out wz hz)
   rw [HAF.out] at HCL
   clear hfx hpx hx hP2 hP5
   generalize lateOf (Zac p) p.as[k]=q at *
   generalize p.as[k]=x at *
   exact mRfL2
  obtain rfl:k=p.as.length:=by omega
  have HNA:=Zhd (fun j (hj:j<p.as.length)=>HNO.out j hj hj)
  have HBr:=HB
  clear HNO hkl
  go_wp2_with fail
  go_loopw [9] (fun i wr=>∃ k:Nat,i = .int .i64 k∧k≤p.cs.length∧Below w2.heap.size w2 wr∧∀ j (hj:j<p.cs.length),j<k→lateOf (Zac p) p.cs[j]≤0) (fun i _=>p.cs.length - (intOf i).toNat)
  case atStart=>exact⟨0,rfl,Nat.zero_le _,HBr.out,fun j _ h=>by omega⟩
  obtain⟨k,rfl,hk,hb,hno⟩:=hrel
  have HB:=Zhd hb
  have HNO:=Zhd hno
  clear hb hno
  have hP5:=(HB.out.block w.heap.size (by omega)).trans HP4.out
  have m4:wr.cell? ⟨w.heap.size,4,none⟩=some (.slice ac p.cs.length cc):=by simp [World.cell?,hP5]
  by_cases hkl:k<p.cs.length
  ·have hkI:(k:Int)<p.cs.length:=by omega
   have hP2:=HP4.out
   have k0:(Zag w2).cell w.heap.size 0=some (.slice ai p.ins.length ci):=by rw [Zad];simp [World.cell?,hP2]
   have k1:(Zag w2).cell w.heap.size 1=some (.slice ao p.outs.length co):=by rw [Zad];simp [World.cell?,hP2]
   have k2:(Zag w2).cell w.heap.size 2=some (.slice al p.fl.length cl):=by rw [Zad];simp [World.cell?,hP2]
   have k3:(Zag w2).cell w.heap.size 3=some (.slice aa p.as.length ca):=by rw [Zad];simp [World.cell?,hP2]
   have k4:(Zag w2).cell w.heap.size 4=some (.slice ac p.cs.length cc):=by rw [Zad];simp [World.cell?,hP2]
   obtain⟨bb,off,ax,cx,he,d0,d1,d2,d3,hx⟩:=ExsV.at HPA.out.chk hkl
   cases he
   have hS2:(Zag w2).In wr.drew:=(Za0 w2).below HB.out.drew
   have HYES:=Zhd (show 0<lateOf (Zac p) p.cs[k]→Za2 p=(7, -1) from fun h=>by
    rw [HE.out,if_pos]
    rw [List.any_eq_true]
    exact⟨p.cs[k],List.mem_append_right _ (List.getElem_mem hkl),by simpa using h⟩)
   have HNOT:=Zhd (show lateOf (Zac p) p.cs[k]≤0→∀ j (hj:j<p.cs.length),j<k+1→lateOf (Zac p) p.cs[j]≤0 from fun h j hj hjk=>by
    by_cases hjk':j<k
    ·exact HNO.out j hj hjk'
    obtain rfl:j=k:=by omega
    exact h)
   have hfx:=HFM.out _ (HMC.out _ (List.getElem_mem hkl))
   have hpx:=HPM.out _ (HMC.out _ (List.getElem_mem hkl))
   have HCL:=Zhd (fun (wz:World) (hz:(Zag w2).In wz)=>Zh3 p _ _ _ _ _ A HAL.out HAB.out s1 ks p.cs[k] hfx hpx (Zag w2) _ _ hx HPA.out HVA.out wz hz)
   rw [HAF.out] at HCL
   clear hfx hpx hx hP2 hP5
   generalize lateOf (Zac p) p.cs[k]=q at *
   generalize p.cs[k]=x at *
   exact mRfL2
  obtain rfl:k=p.cs.length:=by omega
  have HNC:=Zhd (fun j (hj:j<p.cs.length)=>HNO.out j hj hj)
  have HBs:=HB
  clear HNO hkl
  go_wp2_with fail
  have HX:=Zhd (show Za2 p=(0, -1) from by
   rw [HE.out,if_neg]
   intro h
   obtain⟨e,he,h0⟩:=List.any_eq_true.1 h
   have h0:0<lateOf (Zac p) e:=by simpa using h0
   rcases List.mem_append.1 he with h1 | h1
   ·obtain⟨i,hi,rfl⟩:=List.mem_iff_getElem.1 h1
    have:=HNA.out i hi
    omega
   obtain⟨i,hi,rfl⟩:=List.mem_iff_getElem.1 h1
   have:=HNC.out i hi
   omega)
  refine (fine_any _).mono ?_
  rintro r w5 ⟨rfl,hb5⟩
  have HB5:=Zhd (HBs.out.trans (hb5.mono HBs.out.size))
  have hR5:=(HB5.out.block (w.heap.size+1) (by omega)).trans HR4.out
  obtain⟨q0,q1,f0,f1,hlw⟩:=Zd2 hR5
  obtain⟨e0,e1,e2,e3⟩:=Zhc hR5 (.int .i64 0) (.int .i64 (-1))
  have E0:=Zhd e0
  have E1:=Zhd e1
  clear e0 e1 e2 e3 hR5
  go_wp2_with fail
  have e0:=E0.out
  have e1:=E1.out
  refine bodyPost_ret (v := .agg #[.int .i64 0,.int .i64 (-1)]) (by simp [results,Tryz.results38,go_sem,e0,e1]) rfl ?_
  exact⟨by rw [HX.out];rfl,Zdo (HB4.out.trans (HB5.out.mono (by omega))) (by omega) _ _⟩
theorem mRr1 {p:Prop} (h:p:=by
 clear hbd
 go_wp2_with fail
 refine (bare_any _ _).mono ?_
 rintro r0 w4 ⟨rfl,hb4⟩
 have hR:=(hb4.block _ (Zlt hR)).trans hR
 have hB:=hB.trans (hb4.mono hB.size)
 clear s0 s1
 obtain⟨_,_,f0,f1,_⟩:=Zak hR
 obtain⟨e0,e1,_,_⟩:=Za7 hR (.int .i64 2) (.int .i64 (-1))
 have E0:=Zhd e0
 have E1:=Zhd e1
 have HBF:=Zhd (Zbv hB (Nat.le_succ w.heap.size) (.int .i64 2) (.int .i64 (-1)))
 clear e0 e1
 go_wp2_with (guard_target =~ bodyPost _ _ _ _ _ _;have e0:=E0.out;have e1:=E1.out;refine bodyPost_ret (v := .agg #[.int .i64 2,.int .i64 (-1)]) (by simp [results,Tryz.results11,go_sem,e0,e1]) rfl ?_;exact⟨by rw [HE.out]<;>rfl,HBF.out⟩)):p:=h
theorem inpsTo_zero (ins:List Vr) (l:List Vl):Zav ins l 0=decide (l.length=ins.length):=by simp [Zav]
theorem inpsTo_len (ins:List Vr) (l:List Vl) (n:Nat) (h:¬ l.length=ins.length):Zav ins l n=false:=by simp [Zav,h]
theorem rightIn_any (H:Kn) (p:Pr) (vi vo vl va vc:Value) (hp:PrP H p vi vo vl va vc) (l:List Vl) (vv:Value) (hv:VlsV H l vv) (hz:p.ins.length≤1000000000∧l.length≤1000000000) (w:World) (hH:H.In w):
  Calls Tryz.prog 23 #[.agg #[vi,vo,vl,va,vc],vv] w fun r w'=>r = .returned (.bool (Zav p.ins l l.length))∧Below w.heap.size w w':=by
 obtain⟨z1,z2⟩:=hz
 obtain⟨h1,h2,h3,h4,h5⟩:=hp
 obtain⟨ai,ci,rfl⟩:=h1.len
 obtain⟨ao,co,rfl⟩:=h2.len
 obtain⟨al,cl,rfl⟩:=h3.len
 obtain⟨aa,ca,rfl⟩:=h4.len
 obtain⟨ac,cc,rfl⟩:=h5.len
 obtain⟨av,cv,rfl⟩:=hv.len
 have H1:=Zhd h1
 have HV:=Zhd hv
 clear h1 h2 h3 h4 h5 hv
 have hb0:=(Below.refl w.heap.size w).alloc (Nat.le_refl _) (.cells #[.slice ai p.ins.length ci,.slice ao p.outs.length co,.slice al p.fl.length cl,.slice aa p.as.length ca,.slice ac p.cs.length cc] 27)
 have hlt:=(show w.heap.size<(w.alloc (.cells #[.slice ai p.ins.length ci,.slice ao p.outs.length co,.slice al p.fl.length cl,.slice aa p.as.length ca,.slice ac p.cs.length cc] 27)).heap.size from by simp)
 obtain⟨K,hKe⟩:∃ K,K=H.add w.heap.size (.cells #[.slice ai p.ins.length ci,.slice ao p.outs.length co,.slice al p.fl.length cl,.slice aa p.as.length ca,.slice ac p.cs.length cc] 27 (0,0)):=⟨_,rfl⟩
 have hle:H.le K:=hKe▸Kn.le_add (hH.isNone (Nat.le_refl _))
 have hin:K.In (w.alloc (.cells #[.slice ai p.ins.length ci,.slice ao p.outs.length co,.slice al p.fl.length cl,.slice aa p.as.length ca,.slice ac p.cs.length cc] 27)):=hKe▸(hH.below hb0).add (heap_alloc_new _ _)
 have k0:K.cell w.heap.size 0=some (.slice ai p.ins.length ci):=by unfold Kn.cell;rw [hKe,Kn.add_self];rfl
 have q0:=hin.cell k0
 have HB:=Zhd hb0
 have HI:=Zhd hin
 clear hKe hb0 hH hin
 go_enter Tryz.func23,Tryz.ntmps23
 by_cases hlen:l.length=p.ins.length
 ·have hq:((l.length:Int) != (p.ins.length:Int))=false:=by simp [hlen]
  have HLN:=Zhd hlen
  clear hlen
  go_wp2_with fail
  generalize w.alloc (.cells #[.slice ai p.ins.length ci,.slice ao p.outs.length co,.slice al p.fl.length cl,.slice aa p.as.length ca,.slice ac p.cs.length cc] 27)=W at *
  go_loopw [5] (fun z wr=>∃ m:Nat,z = .int .i64 m∧m≤l.length∧Below w.heap.size w wr∧K.In wr∧Zav p.ins l m=true) (fun z _=>l.length - (intOf z).toNat)
  case atStart=>exact⟨0,rfl,Nat.zero_le _,HB.out,HI.out,by rw [inpsTo_zero];exact decide_eq_true HLN.out⟩
  obtain⟨m,rfl,hm,hb,hK,hgood⟩:=hrel
  have HGD:=Zhd hgood
  clear hgood
  by_cases hml:m<l.length
  ·obtain⟨b1,o1,ha1,c0,c1⟩:=Zdr HV.out hml
   obtain⟨b2,o2,ha2,_,d0,d1⟩:=SlV.at H1.out (show m<p.ins.length from by rw [← HLN.out];exact hml)
   subst ha1 ha2
   have c0:=hle.cell c0
   have c1:=hle.cell c1
   have d1:=hle.cell d1
   have hmi:m<p.ins.length:=by rw [← HLN.out];exact hml
   have HST:=Zhd (show Zav p.ins l (m+1)=(Zav p.ins l m&&Zar l[m] p.ins[m].kind) from by
    rw [Zhm]
    simp [List.getD_eq_getElem?_getD,hml,hmi])
   generalize l[m]=y at *
   generalize p.ins[m]=v at *
   have hS:K.In wr.drew:=hK
   go_wp2_with fail
   refine Zae (K.In) (fun _=>True) 99 (by kernel_rfl) ?_
   refine Go.w3 0 ?_
   iterate 10 ((first | (refine tk3 (v:=?_) rfl hS Ztr ?hy ?_;(case hy=>intro w hSw;obtain⟨z0,z1,z2,z3⟩:=hSw.c4 k0 c0 c1 d1;go_simp<;>with_reducible rfl)) | refine sk3 rfl hS Ztr ?_ | refine no3 ?_);refine Zss ?_)
   refine Go.w3e ?_
   refine Zwo 10 rfl fun K_ hK=>?_
   go_simp
   go_at_call 48
   refine (rright_any y v.kind _).mono ?_
   rintro r0 w2 ⟨rfl,hb2⟩
   have hS2:=hS.below hb2
   have hbb:=hb.trans ((show Below wr.heap.size wr w2 from (Below.refl _ _).drew.trans hb2).mono hb.size)
   refine hK.out _ _ (hS2) Ztr ?_
   clear hK K_
   try simp only [tkS]
   refine Go.w3 11 ?_
   iterate 1 ((first | (refine tk3 (v:=?_) rfl hS2 Ztr ?hy ?_;(case hy=>intro w hSw;obtain⟨z0,z1,z2,z3⟩:=hSw.c4 k0 c0 c1 d1;go_simp<;>with_reducible rfl)) | refine sk3 rfl hS2 Ztr ?_ | refine no3 ?_);refine Zss ?_)
   refine Go.w3e ?_
   refine Zwd ?_
   cases hrt:Zar y v.kind
   ·go_wp2_with fail
    go_ret
    exact⟨Za4 (Zjs _ _ _ (by rw [HST.out,hrt,Bool.and_false]) _ (by omega)).symm,hbb⟩
   go_wp2_with fail
   go_roundw
   case rel=>exact⟨m+1,by go_num,by omega,hbb,hS2,by rw [HST.out,HGD.out,hrt];rfl⟩
   simp [intOf];omega
  obtain rfl:m=l.length:=by omega
  go_wp2_with fail
  go_ret
  exact⟨Za4 HGD.out.symm,hb⟩
 have hq:((l.length:Int) != (p.ins.length:Int))=true:=by simp;omega
 have hno:Zav p.ins l l.length=false:=inpsTo_len _ _ _ hlen
 clear hlen
 go_wp2_with fail
 go_ret
 exact⟨Za4 hno.symm,HB.out⟩
theorem Zek (H:Kn) (p:Pr) (vi vo vl va vc:Value) (hp:PrP H p vi vo vl va vc) (s1:p.fl.length≤1000000) (s2:Ex.partsL p.terms≤1000000000) (s3:p.ins.length≤100000000∧p.outs.length≤100000000∧p.as.length≤100000000∧p.cs.length≤100000000) (ins:List (List Vl)) (vin:Value) (hi:InsV H ins vin) (s4:ins.length≤1000000000∧∀ l∈ins,l.length≤1000000000) (ni:Int) (w:World) (hH:H.In w):
  Calls Tryz.prog 11 #[.agg #[vi,vo,vl,va,vc],vin,.int .i64 ni] w fun r w'=>r = .returned (.agg #[.int .i64 (runE p ins ni).1,.int .i64 (runE p ins ni).2])∧Below w.heap.size w w':=by
 have HCK:=Zhd (fun K (hle:H.le K) wz (hz:K.In wz)=>checkOf_any K p vi vo vl va vc (hp.le hle) s1 s2 s3 wz hz)
 have HRI:=Zhd (fun K (hle:H.le K) l vv (hv:VlsV K l vv) (hl:l.length≤1000000000) wz (hz:K.In wz)=>rightIn_any K p vi vo vl va vc (hp.le hle) l vv hv ⟨by omega,hl⟩ wz hz)
 obtain⟨h1,h2,h3,h4,h5⟩:=hp
 obtain⟨ai,ci,rfl⟩:=h1.len
 obtain⟨ao,co,rfl⟩:=h2.len
 obtain⟨al,cl,rfl⟩:=h3.len
 obtain⟨aa,ca,rfl⟩:=h4.len
 obtain⟨ac,cc,rfl⟩:=h5.len
 obtain⟨av,cv,rfl⟩:=hi.len
 have HV:=Zhd hi
 obtain⟨z1,z2⟩:=s4
 have HZ:=Zhd z2
 clear h1 h2 h3 h4 h5 hi z2 s2 s3
 have hb0:Below w.heap.size w ((w.alloc (.cells #[.slice ai p.ins.length ci,.slice ao p.outs.length co,.slice al p.fl.length cl,.slice aa p.as.length ca,.slice ac p.cs.length cc] 27)).alloc (.cells #[.int .i64 0,.int .i64 0] 45)):=((Below.refl _ _).alloc (Nat.le_refl _) _).alloc (by simp) _
 obtain⟨K,hKe⟩:∃ K,K=H.add w.heap.size (.cells #[.slice ai p.ins.length ci,.slice ao p.outs.length co,.slice al p.fl.length cl,.slice aa p.as.length ca,.slice ac p.cs.length cc] 27 (0,0)):=⟨_,rfl⟩
 have hle:H.le K:=hKe▸Kn.le_add (hH.isNone (Nat.le_refl _))
 have hin:K.In ((w.alloc (.cells #[.slice ai p.ins.length ci,.slice ao p.outs.length co,.slice al p.fl.length cl,.slice aa p.as.length ca,.slice ac p.cs.length cc] 27)).alloc (.cells #[.int .i64 0,.int .i64 0] 45)):=hKe▸(hH.below hb0).add (by rw [Below.heap_alloc _ _ _ (by simp)];exact heap_alloc_new _ _)
 have hKR:K (w.heap.size+1)=none:=by rw [hKe,Kn.add_other _ _ (by omega)];exact hH.isNone (by omega)
 have hcE:∀ j,K.cell w.heap.size j=(#[.slice ai p.ins.length ci,.slice ao p.outs.length co,.slice al p.fl.length cl,.slice aa p.as.length ca,.slice ac p.cs.length cc]:Array Value)[j]?:=fun j=>by unfold Kn.cell;rw [hKe,Kn.add_self]
 have k0:K.cell w.heap.size 0=some (.slice ai p.ins.length ci):=hcE 0
 have k1:K.cell w.heap.size 1=some (.slice ao p.outs.length co):=hcE 1
 have k2:K.cell w.heap.size 2=some (.slice al p.fl.length cl):=hcE 2
 have k3:K.cell w.heap.size 3=some (.slice aa p.as.length ca):=hcE 3
 have k4:K.cell w.heap.size 4=some (.slice ac p.cs.length cc):=hcE 4
 have hR:((w.alloc (.cells #[.slice ai p.ins.length ci,.slice ao p.outs.length co,.slice al p.fl.length cl,.slice aa p.as.length ca,.slice ac p.cs.length cc] 27)).alloc (.cells #[.int .i64 0,.int .i64 0] 45)).heap[w.heap.size+1]?=some (.cells #[.int .i64 0,.int .i64 0] 45 (0,0)):=by
  rw [show w.heap.size+1=(w.alloc (.cells #[.slice ai p.ins.length ci,.slice ao p.outs.length co,.slice al p.fl.length cl,.slice aa p.as.length ca,.slice ac p.cs.length cc] 27)).heap.size from by simp];exact heap_alloc_new _ _
 have q0:=hin.cell k0
 have q1:=hin.cell k1
 have q2:=hin.cell k2
 have q3:=hin.cell k3
 have q4:=hin.cell k4
 clear hcE hKe hH
 go_enter Tryz.func11,Tryz.ntmps11
 go_upto_region 1 with (fail)
 generalize (w.alloc (.cells #[.slice ai p.ins.length ci,.slice ao p.outs.length co,.slice al p.fl.length cl,.slice aa p.as.length ca,.slice ac p.cs.length cc] 27)).alloc (.cells #[.int .i64 0,.int .i64 0] 45)=W at *
 go_wp2_with fail
 refine (HCK.out K hle _ hin).mono ?_
 rintro r0 w1 ⟨rfl,hb1⟩
 obtain⟨⟨cn,ca'⟩,hck⟩:∃ z,Za2 p=z:=⟨_,rfl⟩
 have HE:=Zhd (show runE p ins ni=if (Za2 p).1≠0 then Za2 p else if 300<ins.length∨ni < -128∨127<ni then (2, -1) else match ins.findIdx? (fun l => !Zav p.ins l l.length) with | some i=>(5,(i:Int)) | none=>(0, -1) from rfl)
 rw [hck] at HE ⊢
 dsimp only at HE ⊢
 have hR:=(hb1.block _ (Zlt hR)).trans hR
 have hR:=(Below.heap_alloc w1 (.cells #[.int .i64 (cn:Nat),.int .i64 ca'] 45) _ (Zlt hR)).trans hR
 have hin:=(hin.below hb1).alloc (.cells #[.int .i64 (cn:Nat),.int .i64 ca'] 45)
 have hB:=(hb0.trans (hb1.mono hb0.size)).alloc (Nat.le_trans hb0.size hb1.size) (.cells #[.int .i64 (cn:Nat),.int .i64 ca'] 45)
 obtain⟨s0,s1,_,_,_⟩:=Zak (heap_alloc_new w1 (.cells #[.int .i64 (cn:Nat),.int .i64 ca'] 45))
 clear hck q0 q1 q2 q3 q4 hb0 hb1
 by_cases hc0:cn=0
 rotate_left
 ·rw [if_pos hc0] at HE
  have hgt:decide ((0:Int)<(cn:Int))=true:=by simp;omega
  go_upto_region 3 with (fail)
  generalize w1.alloc (.cells #[.int .i64 (cn:Nat),.int .i64 ca'] 45)=W3 at *
  obtain⟨_,_,f0,f1,_⟩:=Zak hR
  obtain⟨e0,e1,_,_⟩:=Za7 hR (.int .i64 (cn:Nat)) (.int .i64 ca')
  have E0:=Zhd e0
  have E1:=Zhd e1
  have HBF:=Zhd (Zbv hB (Nat.le_succ w.heap.size) (.int .i64 (cn:Nat)) (.int .i64 ca'))
  clear e0 e1
  go_wp2_with (guard_target =~ bodyPost _ _ _ _ _ _;have e0:=E0.out;have e1:=E1.out;refine bodyPost_ret (v := .agg #[.int .i64 (cn:Nat),.int .i64 ca']) (by simp [results,Tryz.results11,go_sem,e0,e1]) rfl ?_;exact⟨by rw [HE.out]<;>rfl,HBF.out⟩)
 subst hc0
 rw [if_neg (by simp)] at HE
 by_cases hbd:300<ins.length∨ni < -128∨127<ni
 ·rw [if_pos hbd] at HE
  rcases (show (300<ins.length)∨(¬ 300<ins.length∧ni < -128)∨(¬ 300<ins.length∧¬ ni < -128∧127<ni) from by omega) with g | ⟨g,g2⟩ | ⟨g,g2,g3⟩
  ·skip
   exact mRr1
  ·skip
   exact mRr1
  skip
  exact mRr1
 rw [if_neg hbd] at HE
 obtain⟨g1,g2,g3⟩:¬ 300<ins.length∧¬ ni < -128∧¬ 127<ni:=by omega
 clear hbd
 go_wp2_with fail
 generalize w1.alloc (.cells #[.int .i64 ((0:Nat):Int),.int .i64 ca'] 45)=W3 at *
 have HIN:=Zhd hin
 have HB:=Zhd hB
 have HR:=Zhd hR
 clear hin hB hR
 go_loopw [8] (fun z wr=>∃ m:Nat,z = .int .i64 m∧m≤ins.length∧Below w.heap.size w wr∧K.In wr∧wr.heap[w.heap.size+1]?=some (.cells #[.int .i64 0,.int .i64 0] 45 (0,0))∧∀ q (h:q<ins.length),q<m→Zav p.ins ins[q] ins[q].length=true) (fun z _=>ins.length - (intOf z).toNat)
 case atStart=>exact⟨0,rfl,Nat.zero_le _,HB.out,HIN.out,HR.out,fun q _ h=>by omega⟩
 obtain⟨m,rfl,hm,hB,hK,hR,hgood⟩:=hrel
 have HGD:=Zhd hgood
 clear hgood
 by_cases hml:m<ins.length
 ·obtain⟨b1,o1,a2,c2,ha1,c0,hvl⟩:=InsV.at HV.out hml
  subst ha1
  have c0:=hle.cell c0
  have HCL:=Zhd (fun wz hz=>HRI.out K hle ins[m] (.slice a2 ins[m].length c2) (SlV.le hvl hle VlC.mono) (HZ.out _ (List.getElem_mem hml)) wz hz)
  have HNX:=Zhd (show Zav p.ins ins[m] ins[m].length=true→∀ q (h:q<ins.length),q<m+1→Zav p.ins ins[q] ins[q].length=true from fun h q hq hqm=>by
   by_cases e:q=m
   ·subst e;exact h
   exact HGD.out q hq (by omega))
  have HBX:=Zhd (show Zav p.ins ins[m] ins[m].length=false→ins.findIdx? (fun l => !Zav p.ins l l.length)=some m from fun h=>by
   rw [List.findIdx?_eq_some_iff_getElem]
   exact⟨hml,by simp [h],fun j hj=>by simp [HGD.out j (by omega) hj]⟩)
  have HGM:=Zhd HGD.out
  clear hvl
  generalize ins[m]=y at *
  have hS:K.In wr.drew:=hK
  go_wp2_with fail
  refine Zae (K.In) (fun _=>True) 99 (by kernel_rfl) ?_
  refine Go.w3 0 ?_
  iterate 5 ((first | (refine tk3 (v:=?_) rfl hS Ztr ?hy ?_;(case hy=>intro w hSw;obtain⟨z0,z1,z2,z3,z4,z5⟩:=hSw.c6 k0 k1 k2 k3 k4 c0;go_simp<;>with_reducible rfl)) | refine sk3 rfl hS Ztr ?_ | refine no3 ?_);refine Zss ?_)
  refine Go.w3e ?_
  refine Zwo 5 rfl fun K_ hK=>?_
  go_simp
  go_at_call 23
  refine (HCL.out _ hS).mono ?_
  rintro r0 w4 ⟨rfl,hb4⟩
  have hS4:=hS.below hb4
  have hx4:=(show Below wr.heap.size wr w4 from (Below.refl _ _).drew.trans hb4)
  have hB:=hB.trans (hx4.mono hB.size)
  have hR:=(hx4.block _ (Zlt hR)).trans hR
  refine hK.out _ _ (hS4) Ztr ?_
  clear hK K_
  try simp only [tkS]
  refine Go.w3 6 ?_
  iterate 1 ((first | (refine tk3 (v:=?_) rfl hS4 Ztr ?hy ?_;(case hy=>intro w hSw;obtain⟨z0,z1,z2,z3,z4,z5⟩:=hSw.c6 k0 k1 k2 k3 k4 c0;go_simp<;>with_reducible rfl)) | refine sk3 rfl hS4 Ztr ?_ | refine no3 ?_);refine Zss ?_)
  refine Go.w3e ?_
  refine Zwd ?_
  cases hrt:Zav p.ins y y.length
  ·rw [HBX.out hrt] at HE
   dsimp only at HE
   obtain⟨_,_,f0,f1,_⟩:=Zak hR
   obtain⟨e0,e1,_,_⟩:=Za7 hR (.int .i64 5) (.int .i64 (m:Nat))
   have E0:=Zhd e0
   have E1:=Zhd e1
   have HBF:=Zhd (Zbv hB (Nat.le_succ w.heap.size) (.int .i64 5) (.int .i64 (m:Nat)))
   clear e0 e1
   go_wp2_with (guard_target =~ bodyPost _ _ _ _ _ _;have e0:=E0.out;have e1:=E1.out;refine bodyPost_ret (v := .agg #[.int .i64 5,.int .i64 (m:Nat)]) (by simp [results,Tryz.results11,go_sem,e0,e1]) rfl ?_;exact⟨by rw [HE.out]<;>rfl,HBF.out⟩)
  have HNX:=Zhd (HNX.out hrt)
  go_wp2_with fail
  go_roundw
  case rel=>exact⟨m+1,by go_num,by omega,hB,hS4,hR,HNX.out⟩
  simp [intOf];omega
 obtain rfl:m=ins.length:=by omega
 rw [List.findIdx?_eq_none_iff.2 (fun l hl=>by
  obtain⟨j,hj,rfl⟩:=List.mem_iff_getElem.1 hl
  simp [HGD.out j hj hj])] at HE
 dsimp only at HE
 go_wp2_with fail
 refine (fine_any _).mono ?_
 rintro r0 w4 ⟨rfl,hb4⟩
 have hR:=(hb4.block _ (Zlt hR)).trans hR
 have hB:=hB.trans (hb4.mono hB.size)
 obtain⟨_,_,f0,f1,_⟩:=Zak hR
 obtain⟨e0,e1,_,_⟩:=Za7 hR (.int .i64 0) (.int .i64 (-1))
 have E0:=Zhd e0
 have E1:=Zhd e1
 have HBF:=Zhd (Zbv hB (Nat.le_succ w.heap.size) (.int .i64 0) (.int .i64 (-1)))
 clear e0 e1
 go_wp2_with (guard_target =~ bodyPost _ _ _ _ _ _;have e0:=E0.out;have e1:=E1.out;refine bodyPost_ret (v := .agg #[.int .i64 0,.int .i64 (-1)]) (by simp [results,Tryz.results11,go_sem,e0,e1]) rfl ?_;exact⟨by rw [HE.out]<;>rfl,HBF.out⟩)
end Go.Proofs.YtgoccoldkfpbgaaGreatDoor
