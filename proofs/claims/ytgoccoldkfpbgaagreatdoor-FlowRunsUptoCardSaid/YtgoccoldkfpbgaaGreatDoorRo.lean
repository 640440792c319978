/- Walks: lustrumref2.RunOf. -/
import Derived.Test.YtgoccoldkfpbgaaGreatDoorRg
import Derived.Test.YtgoccoldkfpbgaaGreatDoorWn
import Derived.Test.YtgoccoldkfpbgaaGreatDoorWl
import Derived.Test.YtgoccoldkfpbgaaGreatDoorNu
import Derived.Test.YtgoccoldkfpbgaaGreatDoorOn
import Derived.Test.YtgoccoldkfpbgaaGreatDoorGof
import Derived.Test.YtgoccoldkfpbgaaGreatDoorRfL
import Derived.Test.YtgoccoldkfpbgaaGreatDoorBare
import Derived.Test.YtgoccoldkfpbgaaGreatDoorRh
set_option linter.all false
namespace Go.Proofs.YtgoccoldkfpbgaaGreatDoor
set_option maxRecDepth 100000
set_option maxHeartbeats 16000000
open Go.RowKit Mx
theorem runOf_any (H:Kn) (p:Pr) (vi vo vl va vc:Value) (hp:PrP H p vi vo vl va vc) (hck:(Za2 p).1=0) (hsz:p.fl.length≤400∧Ex.partsL p.terms≤4000∧p.ins.length≤1000) (hos:p.outs.length≤1000000)
  (ins:List (List Vl)) (vin:Value) (hil:ins.length≤1000) (hi:InsV H ins vin) (hr:∀ l∈ins,Zav p.ins l l.length=true) (nb:Bool) (ni:Int) (hni : -128≤ni∧ni≤127) (w:World) (hH:H.In w):
  Calls Tryz.prog 15 #[.agg #[vi,vo,vl,va,vc],vin,.bool nb,.int .i64 ni] w fun r w'=>∃ v,r = .returned v∧TksV (Zag w') (runM nb ni p ins) v∧Below w.heap.size w w':=by
 obtain⟨ks,ord,hks,ho⟩:=check_kinds hck
 have HNW:=Zhd (fun (wz:World) (hz:H.In wz)=>Zf6 H p vi vo vl va vc hp hck hks ho hsz hos ins vin hil hi hr nb ni hni wz hz)
 obtain⟨h1,h2,h3,h4,h5⟩:=hp
 obtain⟨ai,ci,rfl⟩:=h1.len
 obtain⟨ao,co,rfl⟩:=h2.len
 obtain⟨al,cl,rfl⟩:=h3.len
 obtain⟨aa,ca,rfl⟩:=h4.len
 obtain⟨ac,cc,rfl⟩:=h5.len
 obtain⟨an,cn,rfl⟩:=hi.len
 clear h1 h2 h3 h4 h5 hi hr
 have hb0:=(Below.refl w.heap.size w).alloc (Nat.le_refl _) (.cells #[.slice ai p.ins.length ci,.slice ao p.outs.length co,.slice al p.fl.length cl,.slice aa p.as.length ca,.slice ac p.cs.length cc] 27)
 have hH0:=hH.below hb0
 have hxl:w.heap.size<(w.alloc (.cells #[.slice ai p.ins.length ci,.slice ao p.outs.length co,.slice al p.fl.length cl,.slice aa p.as.length ca,.slice ac p.cs.length cc] 27)).heap.size:=by simp
 go_enter Tryz.func15,Tryz.ntmps15
 go_wp2_with fail
 refine (HNW.out _ hH0).mono ?_
 rintro r w2 ⟨x,K,rfl,⟨rfl,rfl,rfl,rfl,rfl,rfl⟩,hP,hok,hs,hle,⟨hxB,hxD,hxbase⟩,hb2⟩
 have hB2:=hb0.trans (hb2.mono hb0.size)
 have hbd:x.B<x.base∧x.D<x.base∧w.heap.size≤x.B∧w.heap.size≤x.D:=⟨hP.bd.2.1,hP.bd.2.2,by omega,by omega⟩
 have HKB:=Zhd (show ∀ g,x.base≤g→K g=none from fun g hg=>hs.isin.isNone (by omega))
 have HBD:=Zhd hbd
 have HTC:=Zhd (fun i (hi:i<x.ins.length)=>wtick_any hP hi K hok)
 have HRW:=Zhd (runM_wd hP)
 have HS0:=Zhd (show RoS x K w w2 (List.replicate x.ins.length false) (.slice none 0 0) [] (.slice none 0 0) (toldW (Zdq x.R x.inp x.fv x.p) 0) [] from⟨hs,World.ownsRow_nil _ _ _ _,RowX.nil,hB2⟩)
 obtain⟨f,hf⟩:∃ f,f=Zdq x.R x.inp x.fv x.p:=⟨_,rfl⟩
 have HF:=Zhd hf
 rw [← hf] at HRW HS0
 have hil:x.ins.length≤1000:=hil
 clear hf hs hP hok hB2 hb2 hb0 hH0 hbd hle hxB hxD hxbase hck hks ho HNW
 go_wp2_with fail
 go_loopw [10,11] (fun u z wr=>∃ (m:Nat) (T1:List Bool) (u1:Value) (kl1:List KE) (xs:List Value),z = .int .i64 m∧m≤x.ins.length∧RoS x K w wr T1 u1 kl1 u (toldW f m) xs∧∀ j,j<m→(f j).trap=false) (fun _ z _=>x.ins.length - (intOf z).toNat)
 case atStart=>exact⟨0,_,_,_,_,rfl,Nat.zero_le _,HS0.out,fun j hj=>by omega⟩
 obtain⟨m,T1,u1,kl1,xs,rfl,hm,hS,hnt⟩:=hrel
 obtain⟨au,cu,hue,_⟩:=Zas hS.row
 subst hue
 have HNT:=Zhd hnt
 clear hnt
 by_cases hml:m<x.ins.length
 ·have HSU:=Zhd (toldW_succ f m)
  have HTR:=Zhd (fun h=>toldW_trap f x.ins.length m hml HNT.out h)
  have HTM:=Zhd (HTC.out m hml)
  rw [← HF.out] at HTM
  have HNX:=Zhd (show (f m).trap=false→∀ j,j<m+1→(f j).trap=false from fun h j hj=>by
   by_cases e:j=m
   ·rw [e];exact h
   exact HNT.out j (by omega))
  have HLN:=Zhd (toldW_len f m)
  generalize f m=tk at *
  go_wp2_with fail
  refine (HTM.out _ _ _ _ hS.st).mono ?_
  rintro r0 w3 ⟨T3,u3,kl3,ov,cv,rfl,hM,hov,hcv⟩
  obtain⟨ao2,co2,rfl⟩:=hov.len
  obtain⟨ac2,cc2,rfl⟩:=hcv.len
  have hlow:=hS.st.low
  have hS3:=hS.later HBD.out hM
  have HX:=Zhd (show TkC (Zbt x x.base w3) tk (fun j=>[Value.slice ao2 tk.out.length co2,.bool tk.asrt,.bool tk.trap,.slice ac2 tk.checks.length cc2][j]?) from⟨_,_,rfl,rfl,rfl,rfl,⟨SlV.le hov (Zj0 w3 hlow) VlC.mono,SlV.le hcv (Zj0 w3 hlow) BlC.mono⟩⟩)
  have hb5:=((Below.refl w3.heap.size w3).alloc (Nat.le_refl _) (.cells #[.slice ao2 tk.out.length co2,.bool tk.asrt,.bool tk.trap,.slice ac2 tk.checks.length cc2] ftT)).alloc (by simp) (.cells #[.slice ao2 tk.out.length co2,.bool tk.asrt,.bool tk.trap,.slice ac2 tk.checks.length cc2] ftT)
  have hS5:=hS3.next hb5
  have HX5:=Zhd (TkC.mono (Zjb (x:=x) (n:=x.base) (.of_below hb5)) _ _ _ (fun _ _ h=>h) HX.out)
  have hbx:((w3.alloc (.cells #[.slice ao2 tk.out.length co2,.bool tk.asrt,.bool tk.trap,.slice ac2 tk.checks.length cc2] ftT)).alloc (.cells #[.slice ao2 tk.out.length co2,.bool tk.asrt,.bool tk.trap,.slice ac2 tk.checks.length cc2] ftT)).heap[w3.heap.size]?=some (.cells #[.slice ao2 tk.out.length co2,.bool tk.asrt,.bool tk.trap,.slice ac2 tk.checks.length cc2] ftT (0,0)):=(Below.heap_alloc _ _ _ (by simp)).trans (heap_alloc_new _ _)
  have hnb:=heap_alloc_new (w3.alloc (.cells #[.slice ao2 tk.out.length co2,.bool tk.asrt,.bool tk.trap,.slice ac2 tk.checks.length cc2] ftT)) (.cells #[.slice ao2 tk.out.length co2,.bool tk.asrt,.bool tk.trap,.slice ac2 tk.checks.length cc2] ftT)
  have hbl:x.base≤w3.heap.size:=by have:=hS3.st.low;omega
  have hsz5:((w3.alloc (.cells #[.slice ao2 tk.out.length co2,.bool tk.asrt,.bool tk.trap,.slice ac2 tk.checks.length cc2] ftT)).alloc (.cells #[.slice ao2 tk.out.length co2,.bool tk.asrt,.bool tk.trap,.slice ac2 tk.checks.length cc2] ftT)).heap.size=w3.heap.size+2:=by simp
  have hnw:=World.news_of_block hnb
  simp only [World.size_alloc] at hnw
  clear hov hcv hM hb5 HX HTM hS
  go_wp2_with (at_builtin;refine Zj7 49 ftT 4 56 _ Tryz.underlying49 Tryz.infoTkF rfl (by decide) _ _ rfl rfl x.base _ _ _ rfl hS5.row ⟨_,0,none⟩ 1 [.slice ao2 tk.out.length co2,.bool tk.asrt,.bool tk.trap,.slice ac2 tk.checks.length cc2] rfl rfl ?c1 ?c2 ?c3 ?c4 ?c5 ?_)
  case c1=>exact hnw
  case c2=>simp [Value.oneCell']
  case c3=>have:=HLN.out;omega
  case c4=>have:=HLN.out;omega
  case c5=>exact hS5.st.low
  intro gg cap' w7 hown hgrow hat
  have HG:=Zhd (hS5.put HBD.out HKB.out (t:=tk) rfl HX5.out hown hgrow)
  have hb7:w7.heap[w3.heap.size]?=some (.cells #[.slice ao2 tk.out.length co2,.bool tk.asrt,.bool tk.trap,.slice ac2 tk.checks.length cc2] ftT (0,0)):=(hgrow.block _ (Zlt hbx) (fun e=>by
   rcases hS5.row.2 with ⟨q1,_⟩ | ⟨g,cap,cur,q1,q2,q3,_⟩
   ·rw [q1] at e;cases e
   rw [q1] at e
   cases e
   have hlt:=(hS3.row.lt w3.heap.size (by rw [q1];rfl)).2
   omega)).trans hbx
  have c2:w7.cell? ⟨w3.heap.size,2,none⟩=some (.bool tk.trap):=by simp [World.cell?,hb7]
  clear hb7 hbx hown hgrow hat hS5 hS3 hnw hnb
  cases htr:tk.trap
  all_goals rw [htr] at c2
  ·go_wp2_with fail
   go_roundw
   case rel=>exact⟨m+1,_,_,_,_,by go_num,by omega,by rw [HSU.out];exact HG.out,HNX.out htr⟩
   simp [intOf];omega
  go_wp2_with fail
  go_ret
  exact⟨_,rfl,by rw [HRW.out,HTR.out htr,HSU.out];exact HG.out.told,HG.out.below⟩
 obtain rfl:m=x.ins.length:=by omega
 go_wp2_with fail
 go_ret
 exact⟨_,rfl,by rw [HRW.out,toldW_end f _ HNT.out];exact hS.told,hS.below⟩
theorem mFr1 {p:Prop} (h:p:=by
 intro w hSw;obtain⟨z0,z1,z2,z3,z4⟩:=hSw.c5 k0 k1 k2 k3 k4;go_simp<;>with_reducible rfl):p:=h
theorem Zfq {W:World} {b:Nat} {x y z u v:Value} {t:TypeId} {fr:Nat×Nat} (h:W.heap[b]?=some (.cells #[x,y,z,u,v] t fr)):W.cell? ⟨b,0,none⟩=some x∧W.cell? ⟨b,1,none⟩=some y∧W.cell? ⟨b,2,none⟩=some z∧W.cell? ⟨b,3,none⟩=some u∧W.cell? ⟨b,4,none⟩=some v:=by simp [World.cell?,h]
theorem runE_le (p:Pr) (ins:List (List Vl)) (ni:Int):(runE p ins ni).1≤9∧((runE p ins ni).2 ≠ -1→1≤(runE p ins ni).1):=by
 unfold runE
 split
 ·exact checkM_le p
 split
 ·exact⟨by decide,fun _=>by decide⟩
 split
 ·exact⟨by simp,fun _=>by simp⟩
 exact⟨by simp,fun h=>absurd rfl h⟩
theorem Zfh {p:Pr} {ins:List (List Vl)} {ni:Int} (h:(runE p ins ni).1=0):runE p ins ni=(0, -1):=by
 obtain⟨h0,h1,h2,h3⟩:=Ze0 h
 exact runE_of h0 h1 h2 h3
theorem flowRuns_any (H:Kn) (T:Zbl H) (sp:Nat→Addr) (p:Pr) (vi vo vl va vc:Value) (hp:PrP H p vi vo vl va vc) (ins:List (List Vl)) (vin:Value) (hi:InsV H ins vin) (hsz:p.ins.length≤1048576∧p.outs.length≤1048576∧Ex.weightL p.terms≤1048576∧ins.length≤1048576) (nb:Bool) (ni:Int) (w:World) (hH:H.In w) (S:Zji w sp) (hET:Za3 w):
  Calls Tryz.prog 3 #[.agg #[vi,vo,vl,va,vc],vin,.bool nb,.int .i64 ni] w fun r w'=>r = .returned (.bool true)∧Below w.heap.size w w':=by
 obtain⟨z1,z2,z3,z4⟩:=hsz
 have hle:∀ w1,Below w.heap.size w w1→Zbl (Zag w1):=fun w1 hb=>T.le (Zaz (hH.below hb))
 have HLE:=Zhd hle
 have hpl:=Ze1 p.terms
 have hlw:p.fl.length+p.as.length+p.cs.length≤Ex.weightL p.terms:=by
  have h:=Zee p.terms
  have h2:p.terms.length=p.fl.length+p.as.length+p.cs.length:=by simp only [Pr.terms,List.length_append,List.length_map]
  omega
 clear hle
 have HP:=Zhd hp
 obtain⟨h1,h2,h3,h4,h5⟩:=hp
 obtain⟨ai,ci,rfl⟩:=h1.len
 obtain⟨ao,co,rfl⟩:=h2.len
 obtain⟨al,cl,rfl⟩:=h3.len
 obtain⟨aa,ca,rfl⟩:=h4.len
 obtain⟨ac,cc,rfl⟩:=h5.len
 obtain⟨an,cn,rfl⟩:=hi.len
 have HI:=Zhd hi
 clear h1 h2 h3 h4 h5 hi
 have hP0:=heap_alloc_new w (.cells #[.slice ai p.ins.length ci,.slice ao p.outs.length co,.slice al p.fl.length cl,.slice aa p.as.length ca,.slice ac p.cs.length cc] 27)
 have hb0:Below w.heap.size w (w.alloc (.cells #[.slice ai p.ins.length ci,.slice ao p.outs.length co,.slice al p.fl.length cl,.slice aa p.as.length ca,.slice ac p.cs.length cc] 27)):=(Below.refl _ _).alloc (Nat.le_refl _) _
 have HB0:=Zhd hb0
 have HP0:=Zhd hP0
 clear hP0 hb0
 go_enter Tryz.func3,Tryz.ntmps3
 go_wp2_with fail
 generalize w.alloc (.cells #[.slice ai p.ins.length ci,.slice ao p.outs.length co,.slice al p.fl.length cl,.slice aa p.as.length ca,.slice ac p.cs.length cc] 27)=W1 at *
 refine (once_any H T sp W1 (hH.below HB0.out) (S.below HB0.out).five).mono ?_
 rintro r w1 ⟨rfl,hb1⟩
 have HB1:=Zhd (HB0.out.trans (hb1.mono HB0.out.size))
 have HP1:=Zhd ((hb1.block w.heap.size (Zlt HP0.out)).trans HP0.out)
 obtain⟨m0,m1,m2,m3,m4⟩:=Zfq HP1.out
 go_wp2_with fail
 refine (heavy_any H p _ _ _ _ _ HP.out ⟨by omega,by omega,by omega⟩ w1 (hH.below HB1.out)).mono ?_
 rintro r w2 ⟨rfl,hb2⟩
 have HB2:=Zhd (HB1.out.trans (hb2.mono HB1.out.size))
 have HP2:=Zhd ((hb2.block w.heap.size (Zlt HP1.out)).trans HP1.out)
 clear m0 m1 m2 m3 m4
 obtain⟨m0,m1,m2,m3,m4⟩:=Zfq HP2.out
 unfold heavyI
 by_cases hh:heavy p=true
 ·rw [if_pos hh]
  go_wp2_with fail
  go_ret
  exact⟨rfl,HB2.out⟩
 rw [if_neg hh]
 obtain⟨y1,y2,y3⟩:Ex.weightL p.terms≤1500∧p.fl.length≤100∧p.ins.length≤40:=by
  unfold heavy at hh
  simp only [Bool.or_eq_true,decide_eq_true_eq,not_or,Nat.not_lt] at hh
  exact⟨hh.1.1,hh.1.2,hh.2⟩
 clear hh
 go_wp2_with fail
 refine (long_any H ins _ HI.out (by omega) w2 (hH.below HB2.out)).mono ?_
 rintro r w3 ⟨rfl,hb3⟩
 have HB3:=Zhd (HB2.out.trans (hb3.mono HB2.out.size))
 have HP3:=Zhd ((hb3.block w.heap.size (Zlt HP2.out)).trans HP2.out)
 clear m0 m1 m2 m3 m4
 obtain⟨m0,m1,m2,m3,m4⟩:=Zfq HP3.out
 by_cases hl:0<longI ins
 ·go_wp2_with fail
  go_ret
  exact⟨rfl,HB3.out⟩
 obtain⟨q1,_,q3⟩:=long_zero hl
 have ZI:=Zhd (show ins.length≤1000000∧∀ x∈ins,x.length≤1000000 from⟨by omega,fun x hx=>by have:=q1 x hx;omega⟩)
 have ZR:=Zhd (show p.ins.length≤1000000∧p.fl.length≤1000000∧p.outs.length≤1000000000∧p.as.length≤1000000∧p.cs.length≤1000000∧∀ l∈ins,l.length≤1000000 from⟨by omega,by omega,by omega,by omega,by omega,fun x hx=>by have:=q1 x hx;omega⟩)
 have ZP:=Zhd (show Ex.partsL p.terms≤1000000000 from by omega)
 have ZT:=Zhd (show ∀ nb ni ins',∀ x∈runM nb ni p ins',x.out.length≤1000000000∧x.checks.length≤1000000000 from fun nb ni ins' x hx=>by have:=runM_sizes nb ni p ins' x hx;omega)
 clear q1
 go_wp2_with fail
 refine (flatOf_any p _ _ _ _ _ H HP.out ⟨by omega,by omega,by omega,by omega⟩ _ (hH.below HB3.out)).mono ?_
 rintro r w4 ⟨vi4,vo4,vl4,va4,vc4,K4,rfl,hp4,hst4⟩
 have HB4:=Zhd (HB3.out.trans (hst4.below.mono HB3.out.size))
 have HP4:=Zhd ((hst4.below.block w.heap.size (Zlt HP3.out)).trans HP3.out)
 have HQ4:=Zhd (hp4.le (Zaz hst4.isin))
 clear hp4 hst4
 clear m0 m1 m2 m3 m4
 obtain⟨m0,m1,m2,m3,m4⟩:=Zfq HP4.out
 go_wp2_with fail
 refine (in_any H ins _ HI.out ZI.out _ (hH.below HB4.out)).mono ?_
 rintro r w5 ⟨vi5,K5,rfl,hv5,hst5⟩
 have HB5:=Zhd (HB4.out.trans (hst5.below.mono HB4.out.size))
 have HP5:=Zhd ((hst5.below.block w.heap.size (Zlt HP4.out)).trans HP4.out)
 have HQ4:=Zhd (HQ4.out.le (Zaz (Zbe hst5.below)))
 have HI5:=Zhd (InsV.le (Zaz hst5.isin) hv5)
 clear hv5 hst5
 clear m0 m1 m2 m3 m4
 obtain⟨m0,m1,m2,m3,m4⟩:=Zfq HP5.out
 go_wp2_with fail
 refine (run_any (Zag w5) (HLE.out _ HB5.out) sp p _ _ _ _ _ HQ4.out ins _ HI5.out w5 (Za0 w5) (S.below HB5.out).five nb ni ZR.out ZP.out).mono ?_
 rintro r w6 hpost
 obtain⟨hb6,hpost⟩:=hpost.told
 have HB6:=Zhd (HB5.out.trans (hb6.mono HB5.out.size))
 have HP6:=Zhd ((hb6.block w.heap.size (Zlt HP5.out)).trans HP5.out)
 have HQ4:=Zhd (HQ4.out.le (Zaz (Zbe hb6)))
 have HI5:=Zhd (InsV.le (Zaz (Zbe hb6)) HI5.out)
 clear hb6 HQ4 HI5
 clear m0 m1 m2 m3 m4
 obtain⟨m0,m1,m2,m3,m4⟩:=Zfq HP6.out
 rcases hpost with ⟨hE,v6,rfl,hv6⟩ | ⟨hE,t6,u6,rfl,he6⟩
 case inr=>
  have HE6:=Zhd he6
  clear he6
  go_wp2_with fail
  refine (Zek H p _ _ _ _ _ HP.out (by omega) (by omega) ⟨by omega,by omega,by omega,by omega⟩ ins _ HI.out ⟨by omega,fun x hx=>Nat.le_trans (ZI.out.2 x hx) (by omega)⟩ ni w6 (hH.below HB6.out)).mono ?_
  rintro r w7 ⟨rfl,hb7⟩
  have HB7:=Zhd (HB6.out.trans (hb7.mono HB6.out.size))
  have HP7:=Zhd ((hb7.block w.heap.size (Zlt HP6.out)).trans HP6.out)
  have HE6:=Zhd (HE6.out.below hb7)
  clear m0 m1 m2 m3 m4
  obtain⟨m0,m1,m2,m3,m4⟩:=Zfq HP7.out
  obtain⟨⟨cn7,ca7⟩,hz⟩:∃ z,runE p ins ni=z:=⟨_,rfl⟩
  have HCL:=Zhd (runE_le p ins ni)
  rw [hz] at HE6 HCL hE ⊢
  dsimp only at HE6 hE ⊢
  have hgt:(0:Int)<(cn7:Int):=by omega
  have hb8:Below w7.heap.size w7 (w7.alloc (.cells #[.int .i64 (cn7:Nat),.int .i64 ca7] 45)):=(Below.refl _ _).alloc (Nat.le_refl _) _
  have HB8:=Zhd (HB7.out.trans (hb8.mono HB7.out.size))
  have HP8:=Zhd ((hb8.block w.heap.size (Zlt HP7.out)).trans HP7.out)
  have HE6:=Zhd (HE6.out.below hb8)
  have HF:=Zhd (show (w7.alloc (.cells #[.int .i64 (cn7:Nat),.int .i64 ca7] 45)).heap[w7.heap.size]?=_ from heap_alloc_new _ _)
  clear m0 m1 m2 m3 m4
  obtain⟨m0,m1,m2,m3,m4⟩:=Zfq HP8.out
  obtain⟨q0,q1,_,_,_⟩:=Zak HF.out
  go_wp2_with fail
  generalize w7.alloc (.cells #[.int .i64 (cn7:Nat),.int .i64 ca7] 45)=W8 at *
  refine (faulted_any sp cn7 ca7 _ W8 HE6.out HCL.out.1 HCL.out.2 (S.below HB8.out) (Zi9 hET HB8.out) _ _).mono ?_
  rintro r w9 ⟨hr,hb9⟩
  obtain rfl:r = .returned (.bool true):=by rw [hr];simp
  clear hr
  have HB9:=Zhd (HB8.out.trans (hb9.mono HB8.out.size))
  have HP9:=Zhd ((hb9.block w.heap.size (Zlt HP8.out)).trans HP8.out)
  have HE6:=Zhd (HE6.out.below hb9)
  go_wp2_with fail
  go_ret
  exact⟨rfl,HB9.out⟩
 have hrl:=runM_len nb ni p ins
 have HEZ:=Zhd (show runE p ins ni=(0, -1) from Zfh hE)
 have HE:=Zhd hE
 have HV6:=Zhd hv6
 obtain⟨a6,c6,rfl⟩:=hv6.len
 clear hv6 hE
 go_wp2_with fail
 refine (Zek H p _ _ _ _ _ HP.out (by omega) (by omega) ⟨by omega,by omega,by omega,by omega⟩ ins _ HI.out ⟨by omega,fun x hx=>Nat.le_trans (ZI.out.2 x hx) (by omega)⟩ ni w6 (hH.below HB6.out)).mono ?_
 rintro r w7 ⟨rfl,hb7⟩
 have HB7:=Zhd (HB6.out.trans (hb7.mono HB6.out.size))
 have HP7:=Zhd ((hb7.block w.heap.size (Zlt HP6.out)).trans HP6.out)
 have HV6:=Zhd (TksV.le (Zaz (Zbe hb7)) HV6.out)
 rw [HEZ.out]
 dsimp only
 try rw [show ((0:Nat):Int)=0 from rfl]
 have hb8:Below w7.heap.size w7 (w7.alloc (.cells #[.int .i64 0,.int .i64 (-1)] 45)):=(Below.refl _ _).alloc (Nat.le_refl _) _
 have HB8:=Zhd (HB7.out.trans (hb8.mono HB7.out.size))
 have HP8:=Zhd ((hb8.block w.heap.size (Zlt HP7.out)).trans HP7.out)
 have HV6:=Zhd (TksV.le (Zaz (Zbe hb8)) HV6.out)
 obtain⟨q0,q1,_,_,_⟩:=Zak (show (w7.alloc (.cells #[.int .i64 0,.int .i64 (-1)] 45)).heap[w7.heap.size]?=_ from heap_alloc_new _ _)
 clear m0 m1 m2 m3 m4
 obtain⟨m0,m1,m2,m3,m4⟩:=Zfq HP8.out
 by_cases h14:14<ins.length
 ·have hq9:decide (((runM nb ni p ins).length:Int)≤(ins.length:Int))=true:=by simp;omega
  go_wp2_with fail
  go_ret
  exact⟨by first | rfl | (rw [hq9]),HB8.out⟩
 obtain⟨hc0,_,hni,hri⟩:=Ze0 HE.out
 have HC0:=Zhd hc0
 have HNI:=Zhd hni
 have HRI:=Zhd hri
 clear hc0 hni hri q0 q1
 go_wp2_with fail
 generalize w7.alloc (.cells #[.int .i64 0,.int .i64 (-1)] 45)=W8 at *
 have k0:(Zag W8).cell w.heap.size 0=some (.slice ai p.ins.length ci):=by rw [Zad];exact m0
 have k1:(Zag W8).cell w.heap.size 1=some (.slice ao p.outs.length co):=by rw [Zad];exact m1
 have k2:(Zag W8).cell w.heap.size 2=some (.slice al p.fl.length cl):=by rw [Zad];exact m2
 have k3:(Zag W8).cell w.heap.size 3=some (.slice aa p.as.length ca):=by rw [Zad];exact m3
 have k4:(Zag W8).cell w.heap.size 4=some (.slice ac p.cs.length cc):=by rw [Zad];exact m4
 have hS:(Zag W8).In W8.drew:=(Za0 W8).below (Below.refl _ _).drew
 have hbD:Below W8.heap.size W8 W8.drew:=(Below.refl _ _).drew
 have HBD:=Zhd (HB8.out.trans (hbD.mono HB8.out.size))
 have HPD:=Zhd ((hbD.block w.heap.size (Zlt HP8.out)).trans HP8.out)
 have HV6:=Zhd (TksV.le (Zaz (Zbe hbD)) HV6.out)
 refine Zae (fun w'=>(Zag W8).In w') (fun _=>True) 99 (by kernel_rfl) ?_
 refine Go.w3 0 ?_
 iterate 1 ((first | (refine tk3 (v:=?_) rfl hS Ztr ?hy ?_;(case hy=>exact mFr1)) | refine sk3 rfl hS Ztr ?_ | refine no3 ?_);refine Zss ?_)
 refine Go.w3e ?_
 refine Go.w3 2 ?_
 iterate 4 ((first | (refine tk3 (v:=?_) rfl hS Ztr ?hy ?_;(case hy=>exact mFr1)) | refine sk3 rfl hS Ztr ?_ | refine no3 ?_);refine Zss ?_)
 refine Go.w3e ?_
 refine Zwo 1 rfl fun K_ hK=>?_
 go_simp
 go_at_call 14
 refine (ticksOf_any (Zag W8.drew) _ _ HV6.out (by omega) W8.drew (Za0 W8.drew)).mono ?_
 rintro r w9 ⟨vt9,K9,rfl,hv9,hst9⟩
 have HB9:=Zhd (HBD.out.trans (hst9.below.mono HBD.out.size))
 have HP9:=Zhd ((hst9.below.block w.heap.size (Zlt HPD.out)).trans HPD.out)
 have HT9:=Zhd (TksV.le (Zaz hst9.isin) hv9)
 have hS9:=hS.below hst9.below
 clear hv9 hst9
 refine hK.out _ _ (hS9) Ztr ?_
 clear hK K_
 try simp only [tkS]
 refine Zwo 6 rfl fun K_ hK=>?_
 go_simp
 go_at_call 15
 refine (runOf_any H p _ _ _ _ _ HP.out HC0.out ⟨by omega,by omega,by omega⟩ (by have:=outs_few HC0.out;omega) ins _ (by omega) HI.out HRI.out nb ni HNI.out w9 (hH.below HB9.out)).mono ?_
 rintro r w10 ⟨v10,rfl,hv10,hb10⟩
 have HB10:=Zhd (HB9.out.trans (hb10.mono HB9.out.size))
 have HP10:=Zhd ((hb10.block w.heap.size (Zlt HP9.out)).trans HP9.out)
 have HT9:=Zhd (TksV.le (Zaz (Zbe hb10)) HT9.out)
 have HV10:=Zhd hv10
 have hS10:=hS9.below hb10
 clear hv10 hb10
 refine hK.out _ _ (hS10) Ztr ?_
 clear hK K_
 try simp only [tkS]
 refine Zwo 7 rfl fun K_ hK=>?_
 go_simp
 go_at_call 13
 refine (sameTicks_any (Zag w10) _ _ _ HT9.out HV10.out ⟨by omega,ZT.out _ _ _⟩ w10 (Za0 w10)).mono ?_
 rintro r w11 ⟨rfl,hb11⟩
 have HB11:=Zhd (HB10.out.trans (hb11.mono HB10.out.size))
 have HP11:=Zhd ((hb11.block w.heap.size (Zlt HP10.out)).trans HP10.out)
 have hS11:=hS10.below hb11
 refine hK.out _ _ (hS11) Ztr ?_
 clear hK K_
 try simp only [tkS]
 refine Go.w3 8 ?_
 iterate 1 ((first | (refine tk3 (v:=?_) rfl hS11 Ztr ?hy ?_;(case hy=>exact mFr1)) | refine sk3 rfl hS11 Ztr ?_ | refine no3 ?_);refine Zss ?_)
 refine Go.w3e ?_
 refine Zwd ?_
 go_wp2_with fail
 go_ret
 exact⟨rfl,HB11.out⟩
end Go.Proofs.YtgoccoldkfpbgaaGreatDoor
