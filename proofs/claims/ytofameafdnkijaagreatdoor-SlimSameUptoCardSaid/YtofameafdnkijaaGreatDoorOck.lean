/- Walks: order.Check. -/
import Derived.Test.YtofameafdnkijaaGreatDoorRg
import Derived.Test.YtofameafdnkijaaGreatDoorOrd
import Derived.Test.YtofameafdnkijaaGreatDoorFormA
import Derived.Test.YtofameafdnkijaaGreatDoorProg
import Derived.Test.YtofameafdnkijaaGreatDoorEx
import Derived.Test.YtofameafdnkijaaGreatDoorMx
import Derived.Lib.Hide
import Derived.WalkKit
import Derived.Test.YtofameafdnkijaaGreatDoorEof
import Derived.ProofKit
import Derived.Stop.LaidErr
import Derived.SliceStrings
import Derived.LaidHandle
set_option linter.all false
namespace Go.Proofs.YtofameafdnkijaaGreatDoor
set_option maxRecDepth 100000
set_option maxHeartbeats 16000000
open Go.RowKit Mx
theorem mOck1 {p:Prop} (h:p:=by
 have HBN:=Zhd (Zce HBW.out nq)
 go_wp2_with fail
 all_goals go_ret
 all_goals unfold OckPost
 all_goals rw [HX.out]
 all_goals exact⟨by first | exact HBN.out.alloc HBN.out.size _ | exact (HBN.out.alloc HBN.out.size _).drew | exact (HBN.out.drew).alloc HBN.out.size _ | exact ((HBN.out.drew).alloc HBN.out.size _).drew,_,rfl,.inr ⟨by omega,_,rfl,heap_alloc_new _ _⟩⟩):p:=h
def OckPost (sp:Nat→Addr) (p:Pr) (w:World) (r:Ending) (w':World):Prop:=
 Below w.heap.size w w'∧∃ v,r = .returned v∧ErrW sp w' (Za0 p).1 (Za0 p).2 v
theorem Zgy (H:Kn) (T:Zbo H) (sp:Nat→Addr) (p:Pr) (vi vo vl va vc:Value) (hp:PrP H p vi vo vl va vc) (w:World) (hH:H.In w) (S:Sen5 w sp)
  (hsz:p.ins.length≤1000000∧p.fl.length≤1000000∧p.outs.length≤100000000000∧p.as.length≤1000000∧p.cs.length≤1000000) (hpt:Ex.partsL p.terms≤1000000000)
  (hpick:Zak p=0→(∀ j,j<p.graph.length→cyc p.graph j=false)→∀ j,j<p.graph.length→pick p.graph (Zdh p.graph j [])<p.graph.length):
  Calls Tryz.prog 35 #[.agg #[vi,vo,vl,va,vc]] w (OckPost sp p w):=by
 have HP:=Zhd hp
 obtain⟨h1,h2,h3,h4,h5⟩:=hp
 obtain⟨ai,ci,rfl⟩:=h1.len
 obtain⟨ao,co,rfl⟩:=h2.len
 obtain⟨al,cl,rfl⟩:=h3.len
 obtain⟨aa,ca,rfl⟩:=h4.len
 obtain⟨ac,cc,rfl⟩:=h5.len
 have H2:=Zhd h2
 have H3:=Zhd h3
 have H4:=Zhd h4
 have H5:=Zhd h5
 clear h1 h2 h3 h4 h5
 go_enter Tryz.func35,Tryz.ntmps35
 go_wp2_with fail
 have hb0:Below w.heap.size w (w.alloc (.cells #[.slice ai p.ins.length ci,.slice ao p.outs.length co,.slice al p.fl.length cl,.slice aa p.as.length ca,.slice ac p.cs.length cc] 41)):=(Below.refl _ _).alloc (Nat.le_refl _) _
 refine (lates_any H T sp p _ _ _ _ _ HP.out _ (hH.below hb0) (S.below hb0) hsz hpt hpick).mono ?_
 rintro r w1 ⟨hb1,hpost⟩
 have HB1:=Zhd (hb0.trans (hb1.mono (by simp)))
 have hq:∀ i,w1.cell? ⟨w.heap.size,i,none⟩=(#[.slice ai p.ins.length ci,.slice ao p.outs.length co,.slice al p.fl.length cl,.slice aa p.as.length ca,.slice ac p.cs.length cc]:Array Value)[i]?:=fun i=>by rw [hb1.cell (p:=⟨w.heap.size,i,none⟩) (by simp),World.cell?_alloc_new]
 have HQ:=Zhd hq
 have hz1:w.heap.size<w1.heap.size:=by have:=hb1.size;simp at this;omega
 clear hq hb0 hb1
 cases hlm:Zeo p with
 | error x=>
  rw [hlm] at hpost
  obtain⟨v,rfl,hv⟩:=hpost
  have HX:=Zhd (Zh5 hlm)
  have HV:=Zhd hv
  have hx0:=lateM_pos hlm
  obtain⟨tv,pv,rfl⟩:∃ tv pv,v = .iface tv pv:=by
   rcases hv with ⟨_,h⟩ | ⟨_,N,h,_⟩
   ·obtain⟨c,hc⟩:∃ c,x.1=c+1:=⟨x.1 - 1,by omega⟩
    rw [hc,Zfd] at h
    exact⟨_,_,h⟩
   exact⟨_,_,h⟩
  clear hlm hv
  go_wp2_with fail
  go_ret
  unfold OckPost
  rw [HX.out]
  exact⟨HB1.out,_,rfl,HV.out⟩
 | ok L=>
  rw [hlm] at hpost
  obtain⟨v,rfl,hv⟩:=hpost
  obtain⟨rfl,hck⟩:=lateM_ok hlm
  have HLM:=Zhd hlm
  obtain⟨av,cv,rfl⟩:=hv.len
  have HV:=Zhd hv
  rw [List.length_map]
  obtain⟨ks,_,_,hfm,hfl,hpp,_,_⟩:=Zbs hck
  have HFM:=Zhd hfm
  have S1:=S.below HB1.out
  clear hck hfm hpp hlm hv
  go_wp2_with fail
  go_loopw [2,18] (fun u2 i wr=>∃ k:Nat,i = .int .i64 k∧k≤p.fl.length∧Below w1.heap.size w1 wr∧∀ j (hj:j<p.fl.length),j<k→hit p p.fl[j].name=false) (fun _ i _=>p.fl.length - (intOf i).toNat)
  case atStart=>exact⟨0,rfl,Nat.zero_le _,Below.refl _ _,fun j _ h=>by omega⟩
  obtain⟨k,rfl,hk,hb,hno⟩:=hrel
  have HB:=Zhd hb
  have HNO:=Zhd hno
  have hq:∀ i,wr.cell? ⟨w.heap.size,i,none⟩=(#[.slice ai p.ins.length ci,.slice ao p.outs.length co,.slice al p.fl.length cl,.slice aa p.as.length ca,.slice ac p.cs.length cc]:Array Value)[i]?:=fun i=>by rw [hb.cell (p:=⟨w.heap.size,i,none⟩) hz1];exact HQ.out i
  have q0:=hq 0
  have q1:=hq 1
  have q2:=hq 2
  have q3:=hq 3
  have q4:=hq 4
  simp at q0 q1 q2 q3 q4
  clear hb hno hq
  by_cases hkl:k<p.fl.length
  ·obtain⟨b1,off,rfl,_,hfc⟩:=SlV.at H3.out hkl
   obtain⟨u,c0,c1,c2,c3,c4,c5,hu⟩:=hfc.cells
   have HBW:=Zhd (HB1.out.trans (HB.out.mono (by omega)))
   have hHr:=hH.below HBW.out
   have c0:=hHr.cell c0
   simp only [Nat.add_zero] at c0
   obtain⟨b2,off2,rfl,_,d0⟩:=SlV.at HV.out (show k<(p.fl.map fun f=>Zaa p f.name).length by simpa using hkl)
   have d0:(Zai w1).cell b2 (off2+k * 1+0)=some (.int .i64 ((p.fl.map fun f=>Zaa p f.name)[k]'(by simpa using hkl))):=d0
   simp only [Nat.mul_one,Nat.add_zero,List.getElem_map] at d0
   have d0:=((Za8 w1).below HB.out).cell d0
   have c6:=(S.below HBW.out).c6
   have HIT:=Zhd (show hit p p.fl[k].name=(decide (Zaa p p.fl[k].name=2) || decide (Zaa p p.fl[k].name=1)&&p.outs.contains p.fl[k].name) from rfl)
   have HYES:=Zhd (show hit p p.fl[k].name=true→Za0 p=(7,(k:Int)) from fun h=>checkM_hit HLM.out k hkl h HNO.out)
   have HNOT:=Zhd (show hit p p.fl[k].name=false→∀ j (hj:j<p.fl.length),j<k+1→hit p p.fl[j].name=false from fun h j hj hjk=>by
    by_cases hjk':j<k
    ·exact HNO.out j hj hjk'
    obtain rfl:j=k:=by omega
    exact h)
   have HCON:=Zhd (fun (wz:World) (hz:H.In wz)=>Zil H _ p.outs p.fl[k].name wz H2.out hz)
   have HHR:=Zhd hHr
   clear hu hfc c1 c2 c3 c4 c5 hHr HNO
   generalize p.fl[k].name=xn at *
   generalize Zaa p xn=q at *
   by_cases e2:q=2
   ·subst e2
    have hh:hit p xn=true:=by rw [HIT.out];rfl
    have HX:=Zhd (HYES.out hh)
    clear hh
    go_wp2_with fail
    go_quiet (fail)
    exact mOck1
   by_cases e1:q=1
   ·subst e1
    cases hc:p.outs.contains xn
    ·have HC:=Zhd hc
     have hh:hit p xn=false:=by rw [HIT.out,hc];rfl
     have HX:=Zhd (HNOT.out hh)
     clear hh
     rw [hc] at HCON
     clear hc
     go_wp2_with fail
     go_quiet ((go_at_call 54;exact quiet_eq (HCON.out _ (HHR.out.drewN _))))
     have HBN:=Zhd (Zce HB.out nq)
     go_wp2_with fail
     go_roundw
     case rel=>exact⟨k+1,by go_num,by omega,HBN.out,HX.out⟩
     simp [intOf];omega
    have HC:=Zhd hc
    have hh:hit p xn=true:=by rw [HIT.out,hc];rfl
    have HX:=Zhd (HYES.out hh)
    clear hh
    rw [hc] at HCON
    clear hc
    go_wp2_with fail
    go_quiet ((go_at_call 54;exact quiet_eq (HCON.out _ (HHR.out.drewN _))))
    exact mOck1
   have t2:(q==2)=false:=by simpa using e2
   have t1:(q==1)=false:=by simpa using e1
   have hh:hit p xn=false:=by rw [HIT.out];simp [e1,e2]
   have HX:=Zhd (HNOT.out hh)
   clear hh e1 e2
   go_wp2_with fail
   go_quiet (fail)
   have HBN:=Zhd (Zce HB.out nq)
   go_wp2_with fail
   go_roundw
   case rel=>exact⟨k+1,by go_num,by omega,HBN.out,HX.out⟩
   simp [intOf];omega
  obtain rfl:k=p.fl.length:=by omega
  have HEND:=Zhd (Zha HLM.out fun j hj=>HNO.out j hj hj)
  have HBW:=Zhd (HB1.out.trans (HB.out.mono (by omega)))
  clear HNO
  go_wp2_with fail
  refine (names_any H p _ _ _ _ _ HP.out ks (fun f hf=>?_) (by omega) wr (hH.below HBW.out)).mono ?_
  ·obtain⟨i,hi,he⟩:=List.mem_iff_getElem.1 (Zcg p hf)
   rw [← he];exact (Zbk ks _).1 HFM.out i hi
  rintro r w2 ⟨bm,m,rfl,hM,hnm,hbd,hb2⟩
  have hwr:w.heap.size<wr.heap.size:=by have:=HB.out.size;omega
  have hq:∀ i,w2.cell? ⟨w.heap.size,i,none⟩=(#[.slice ai p.ins.length ci,.slice ao p.outs.length co,.slice al p.fl.length cl,.slice aa p.as.length ca,.slice ac p.cs.length cc]:Array Value)[i]?:=fun i=>by
   rw [hb2.cell (p:=⟨w.heap.size,i,none⟩) hwr,HB.out.cell (p:=⟨w.heap.size,i,none⟩) hz1];exact HQ.out i
  have q3:=hq 3
  have q4:=hq 4
  simp at q3 q4
  have HB2:=Zhd (HBW.out.trans (hb2.mono (by omega)))
  have hz2:w.heap.size<w2.heap.size:=by have:=hb2.size;omega
  have HM:=Zhd hM
  have HBD:=Zhd hbd
  have HFA:=Zhd (show ∀ e∈[p.as,p.cs].flatten,Zad ks e=true from fun e he=>by
   have hmem:e∈p.terms:=by
    simp at he
    unfold Pr.terms
    rcases he with he | he<;>simp [he]
   obtain⟨i,hi,hx⟩:=List.mem_iff_getElem.1 hmem
   rw [← hx];exact (Zbk ks _).1 HFM.out i hi)
  have HEND':=Zhd (show Za0 p=if ([p.as,p.cs].flatten.any fun e=>decide (0<Zac (getI m) e))=true then (7, -1) else (0, -1) from by
   rw [hnm,HEND.out];simp)
  clear hM hbd hb2 hq q0 q1 q2 hnm
  go_wp2_with fail
  have hB3:Below w.heap.size w ((w2.alloc (.cells #[.map (some bm)] 97)).alloc (.cells #[.slice aa p.as.length ca,.slice ac p.cs.length cc] 39)):=(HB2.out.alloc HB2.out.size _).alloc (by simp;omega) _
  have HB3:=Zhd hB3
  have hC3:((w2.alloc (.cells #[.map (some bm)] 97)).alloc (.cells #[.slice aa p.as.length ca,.slice ac p.cs.length cc] 39)).cell? ⟨w2.heap.size,0,none⟩=some (.map (some bm)):=by
   rw [World.cell?_alloc_past _ _ _ (by simp),World.cell?_alloc_new];rfl
  have hI3:OckI H w2.heap.size bm m ((w2.alloc (.cells #[.map (some bm)] 97)).alloc (.cells #[.slice aa p.as.length ca,.slice ac p.cs.length cc] 39)):=⟨hH.below hB3,hC3,by simp;omega,(HM.out.alloc _).alloc _⟩
  have hA3:∀ i,((w2.alloc (.cells #[.map (some bm)] 97)).alloc (.cells #[.slice aa p.as.length ca,.slice ac p.cs.length cc] 39)).cell? ⟨w2.heap.size+1,i,none⟩=(#[.slice aa p.as.length ca,.slice ac p.cs.length cc]:Array Value)[i]?:=fun i=>by
   have:=World.cell?_alloc_new (w:=w2.alloc (.cells #[.map (some bm)] 97)) #[.slice aa p.as.length ca,.slice ac p.cs.length cc] 39 i
   rw [World.size_alloc] at this
   exact this
  have hz3:((w2.alloc (.cells #[.map (some bm)] 97)).alloc (.cells #[.slice aa p.as.length ca,.slice ac p.cs.length cc] 39)).heap.size=w2.heap.size+2:=by simp
  generalize (w2.alloc (.cells #[.map (some bm)] 97)).alloc (.cells #[.slice aa p.as.length ca,.slice ac p.cs.length cc] 39)=W3 at *
  clear hB3
  refine (Zi6 H [p.as,p.cs] [.slice aa p.as.length ca,.slice ac p.cs.length cc] (w2.heap.size+1) 2 W3 hI3.kn rfl (by omega) rfl (by omega) (fun i hi=>?_) (fun i hi hi'=>?_) ?_).mono ?_
  ·rw [hA3 i];simp at hi ⊢
  ·match i,hi with
   | 0,_=>exact H4.out
   | 1,_=>exact H5.out
  ·simp [Zdq];omega
  rintro r w4 ⟨v,xs,rfl,ho,hx,hb4⟩
  generalize [p.as,p.cs].flatten=fe at *
  have hv4:=Zh1 (hI3.kn.below hb4) ho hx
  obtain⟨av4,cv4,rfl⟩:=hv4.len
  have HV4:=Zhd hv4
  have hI4:OckI (Zai w4) w2.heap.size bm m w4:=by
   have:=hI3.next hb4
   exact⟨Za8 w4,this.cell,this.size,this.mp⟩
  have HI4:=Zhd hI4
  have HB4:=Zhd (HB3.out.trans (hb4.mono (by omega)))
  clear hv4 ho hx hb4 hI4 hI3 hA3 hC3
  go_wp2_with fail
  refine (Zf1 _ _ _ (Zai w4) _ fe _ (check1_pred (Zai w4) w2.heap.size bm m HBD.out ks _ HFA.out) HV4.out w4 (Za8 w4) HI4.out).mono ?_
  rintro r w5 ⟨rfl,hb5⟩
  have HB5:=Zhd (HB4.out.trans (hb5.mono HB4.out.size))
  have c6:=(S.below HB5.out).c6
  clear hb5
  cases hany:(fe.any fun e=>decide (0<Zac (getI m) e))
  ·have HX:=Zhd (show Za0 p=(0, -1) from by rw [HEND'.out,hany];rfl)
   clear hany
   go_wp2_with fail
   go_ret
   unfold OckPost
   rw [HX.out]
   exact⟨HB5.out,_,rfl,.inl ⟨rfl,rfl⟩⟩
  have HX:=Zhd (show Za0 p=(7, -1) from by rw [HEND'.out,hany];rfl)
  clear hany
  go_wp2_with fail
  go_ret
  unfold OckPost
  rw [HX.out]
  exact⟨HB5.out,_,rfl,.inl ⟨rfl,rfl⟩⟩
def Zi8:Pr:=⟨[],[⟨#[120]⟩],[⟨⟨#[120]⟩,1,.mk Zcn 0 ⟨#[]⟩ []⟩],[],[]⟩
theorem bare_checkM:Za0 Zi8=(0, -1):=by kernel_rfl
theorem lbare_any (w:World):
  Calls Tryz.prog 25 #[] w fun r w'=>∃ vi vo vl va vc,r = .returned (.agg #[vi,vo,vl,va,vc])∧PrP (Zai w') Zi8 vi vo vl va vc∧Below w.heap.size w w':=by
 go_enter Tryz.func25,Tryz.ntmps25
 go_wp2_with fail
 have hb:Below w.heap.size w (((w.alloc (.cells #[.slice none 0 0,.slice (some ⟨w.heap.size+1,0,none⟩) 1 1,.slice (some ⟨w.heap.size+1+1,0,none⟩) 1 1,.slice none 0 0,.slice none 0 0] 41)).alloc (.cells #[.string ⟨#[120]⟩] 9)).alloc (.cells #[.string ⟨#[120]⟩,.int .i64 1,.string ⟨#[116,114,117,101]⟩,.int .i64 0,.string ⟨#[]⟩,.slice none 0 0] 71)):=by go_grown
 have h1:∀ i,(((w.alloc (.cells #[.slice none 0 0,.slice (some ⟨w.heap.size+1,0,none⟩) 1 1,.slice (some ⟨w.heap.size+1+1,0,none⟩) 1 1,.slice none 0 0,.slice none 0 0] 41)).alloc (.cells #[.string ⟨#[120]⟩] 9)).alloc (.cells #[.string ⟨#[120]⟩,.int .i64 1,.string ⟨#[116,114,117,101]⟩,.int .i64 0,.string ⟨#[]⟩,.slice none 0 0] 71)).cell? ⟨w.heap.size,i,none⟩=(#[.slice none 0 0,.slice (some ⟨w.heap.size+1,0,none⟩) 1 1,.slice (some ⟨w.heap.size+1+1,0,none⟩) 1 1,.slice none 0 0,.slice none 0 0]:Array Value)[i]?:=fun i=>by
  rw [World.cell?_alloc_past _ _ _ (by simp;omega),World.cell?_alloc_past _ _ _ (by simp),World.cell?_alloc_new]
 have h2:∀ i,(((w.alloc (.cells #[.slice none 0 0,.slice (some ⟨w.heap.size+1,0,none⟩) 1 1,.slice (some ⟨w.heap.size+1+1,0,none⟩) 1 1,.slice none 0 0,.slice none 0 0] 41)).alloc (.cells #[.string ⟨#[120]⟩] 9)).alloc (.cells #[.string ⟨#[120]⟩,.int .i64 1,.string ⟨#[116,114,117,101]⟩,.int .i64 0,.string ⟨#[]⟩,.slice none 0 0] 71)).cell? ⟨w.heap.size+1,i,none⟩=(#[.string ⟨#[120]⟩]:Array Value)[i]?:=fun i=>by
  rw [World.cell?_alloc_past _ _ _ (by simp)]
  have:=World.cell?_alloc_new (w:=w.alloc (.cells #[.slice none 0 0,.slice (some ⟨w.heap.size+1,0,none⟩) 1 1,.slice (some ⟨w.heap.size+1+1,0,none⟩) 1 1,.slice none 0 0,.slice none 0 0] 41)) #[.string ⟨#[120]⟩] 9 i
  rw [World.size_alloc] at this
  exact this
 have h3:∀ i,(((w.alloc (.cells #[.slice none 0 0,.slice (some ⟨w.heap.size+1,0,none⟩) 1 1,.slice (some ⟨w.heap.size+1+1,0,none⟩) 1 1,.slice none 0 0,.slice none 0 0] 41)).alloc (.cells #[.string ⟨#[120]⟩] 9)).alloc (.cells #[.string ⟨#[120]⟩,.int .i64 1,.string ⟨#[116,114,117,101]⟩,.int .i64 0,.string ⟨#[]⟩,.slice none 0 0] 71)).cell? ⟨w.heap.size+1+1,i,none⟩=(#[.string ⟨#[120]⟩,.int .i64 1,.string ⟨#[116,114,117,101]⟩,.int .i64 0,.string ⟨#[]⟩,.slice none 0 0]:Array Value)[i]?:=fun i=>by
  have:=World.cell?_alloc_new (w:=(w.alloc (.cells #[.slice none 0 0,.slice (some ⟨w.heap.size+1,0,none⟩) 1 1,.slice (some ⟨w.heap.size+1+1,0,none⟩) 1 1,.slice none 0 0,.slice none 0 0] 41)).alloc (.cells #[.string ⟨#[120]⟩] 9)) #[.string ⟨#[120]⟩,.int .i64 1,.string ⟨#[116,114,117,101]⟩,.int .i64 0,.string ⟨#[]⟩,.slice none 0 0] 71 i
  rw [World.size_alloc,World.size_alloc] at this
  exact this
 generalize ((w.alloc (.cells #[.slice none 0 0,.slice (some ⟨w.heap.size+1,0,none⟩) 1 1,.slice (some ⟨w.heap.size+1+1,0,none⟩) 1 1,.slice none 0 0,.slice none 0 0] 41)).alloc (.cells #[.string ⟨#[120]⟩] 9)).alloc (.cells #[.string ⟨#[120]⟩,.int .i64 1,.string ⟨#[116,114,117,101]⟩,.int .i64 0,.string ⟨#[]⟩,.slice none 0 0] 71)=W at *
 have q0:=h1 0
 have q1:=h1 1
 have q2:=h1 2
 have q3:=h1 3
 have q4:=h1 4
 simp at q0 q1 q2 q3 q4
 refine bodyPost_ret (v := .agg #[.slice none 0 0,.slice (some ⟨w.heap.size+1,0,none⟩) 1 1,.slice (some ⟨w.heap.size+1+1,0,none⟩) 1 1,.slice none 0 0,.slice none 0 0]) (by simp [results,Tryz.results25,go_sem,q0,q1,q2,q3,q4]) rfl ?_
 refine⟨_,_,_,_,_,rfl,⟨.inl ⟨rfl,none,0,rfl⟩,.inr ⟨_,0,1,rfl,by simp [Zi8],by unfold maxLen;omega,fun i hi=>?_⟩,.inr ⟨_,0,1,rfl,by simp [Zi8],by unfold maxLen;omega,fun i hi=>?_⟩,.inl ⟨rfl,none,0,rfl⟩,.inl ⟨rfl,none,0,rfl⟩⟩,hb⟩
 ·obtain rfl:i=0:=by simpa [Zi8] using hi
  show (Zai W).cell _ _=_
  rw [Zap,h2]
  rfl
 obtain rfl:i=0:=by simpa [Zi8] using hi
 refine⟨?_,?_,?_,?_,?_,.inl ⟨rfl,none,0,?_⟩⟩
 all_goals show (Zai W).cell _ _=_
 all_goals rw [Zap,h3]
 all_goals rfl
theorem mHof5 {p:Prop} (h:p:=by
 clear hK K_
 try simp only [tkS]
 refine Zwo 5 rfl fun K_ hK=>?_
 go_simp
 go_at_call 33
 refine (Zfz p.as _ K1 (G4.out.le hS.le) (by omega) _ hS.isin).mono ?_
 rintro r wc2 ⟨v2,K2,rfl,hv2,hst⟩
 obtain⟨x2,y2,rfl⟩:=hv2.len
 have hKB:K2 B=none:=(hst.fresh B hlt).trans hKB
 have hbx:=(hst.below.block B hlt).trans hbx
 have hlt:B<wc2.heap.size:=Nat.lt_of_lt_of_le hlt hst.below.size
 have hv1:=hv1.le hst.le VrC.mono
 have hS:=hS.trans hst
 have hS2:K0.In wc2:=fun b o e=>hS.isin b o (hS.le b o e)
 refine hK.out _ _ hS2 Ztr ?_
 clear hst
 exact mHof4):p:=h
theorem mHof4 {p:Prop} (h:p:=by
 clear hK K_
 try simp only [tkS]
 refine Zwo 8 rfl fun K_ hK=>?_
 go_simp
 go_at_call 33
 refine (Zfz p.cs _ K2 (G5.out.le hS.le) (by omega) _ hS.isin).mono ?_
 rintro r wc3 ⟨v3,K3,rfl,hv3,hst⟩
 obtain⟨x3,y3,rfl⟩:=hv3.len
 have hKB:K3 B=none:=(hst.fresh B hlt).trans hKB
 have hbx:=(hst.below.block B hlt).trans hbx
 have hlt:B<wc3.heap.size:=Nat.lt_of_lt_of_le hlt hst.below.size
 have hv1:=hv1.le hst.le VrC.mono
 have hv2:=hv2.le hst.le
 have hS:=hS.trans hst
 have hS2:K0.In wc3:=fun b o e=>hS.isin b o (hS.le b o e)
 refine hK.out _ _ hS2 Ztr ?_
 clear hst
 clear hK K_
 try simp only [tkS]
 refine tk2 (i:=9) (v:=?_) rfl hS2 Ztr ?hy ?_
 case hy=>exact mHof3
 try simp only [Act.put,List.setIfInBounds_toArray]
 obtain⟨⟨z0,z1,z2,z3,z4⟩,f0,f1,f2,f3,f4⟩:=Zae hbx
 refine Zwo 11 rfl fun K_ hK=>?_
 go_simp
 refine hK.out _ _ (fun b o e=>in5 hS.isin hKB _ _ _ _ _ b o (hS.le b o e)) Ztr ?_
 clear hK K_
 try simp only [tkS]
 have hF:=foo_start (F:=71) HST.out hS hbx hKB hBge HR0.out HHR.out (Nat.le_succ _) hv1 hv2 hv3
 exact Zei (by kernel_rfl) ⟨_,_,_,_,_,_,_,_,rfl,hS.le,hF⟩ _):p:=h
theorem mHof3 {p:Prop} (h:p:=by
 intro w hSw;first | (go_simp;done) | (go_simp;with_reducible rfl)):p:=h
theorem mHof2 {p:Prop} (h:p:=by
 intro w hSw;have z0:=hSw.cell k0;have z1:=hSw.cell k3;have z2:=hSw.cell k4;first | (go_simp;done) | (go_simp;with_reducible rfl)):p:=h
theorem Zez {p:Prop} (h:p:=by
 intro w hSw;have z0:=hSw.cell hl3;have z1:=hSw.cell d0;have z2:=hSw.cell d1;have z3:=hSw.cell d2;have z4:=hSw.cell d3;have z5:=hSw.cell d4;have z6:=hSw.cell d5;first | (go_simp;done) | (go_simp;with_reducible rfl)):p:=h
theorem Zex:∀ (a b:List Ex),Ex.partsL (a++b)=Ex.partsL a+Ex.partsL b
 | [],b=>by simp [Ex.partsL]
 | x :: a,b=>by simp only [List.cons_append,Ex.partsL,Zex a b];omega
theorem flatOf_any (p:Pr) (vi vo vl va vc:Value) (H:Kn) (hp:PrP H p vi vo vl va vc) (hsz:p.ins.length≤1000000000∧p.outs.length≤1000000000∧p.fl.length≤1000000000∧Ex.partsL p.terms≤1000000000) (w:World) (hH:H.In w):
  Calls Tryz.prog 9 #[.agg #[vi,vo,vl,va,vc]] w fun r w'=>∃ vi' vo' vl' va' vc' K,r = .returned (.agg #[vi',vo',vl',va',vc'])∧PrP K p vi' vo' vl' va' vc'∧Kn.Step H w K w':=by
 obtain⟨h1,h2,h3,h4,h5⟩:=hp
 obtain⟨ai,ci,rfl⟩:=h1.len
 obtain⟨ao,co,rfl⟩:=h2.len
 obtain⟨al,cl,rfl⟩:=h3.len
 obtain⟨aa,ca,rfl⟩:=h4.len
 obtain⟨ac,cc,rfl⟩:=h5.len
 obtain⟨s1,s2,s3,s4⟩:=hsz
 have hpt:Ex.partsL (p.fl.map (·.e))≤1000000000∧Ex.partsL p.as≤1000000000∧Ex.partsL p.cs≤1000000000:=by
  unfold Pr.terms at s4
  rw [Zex,Zex] at s4
  omega
 obtain⟨t1,t2,t3⟩:=hpt
 obtain⟨i0,hi0,hz0,hz1,hz2⟩:=info_parts Tryz.infoFlow
 obtain⟨i1,hi1,hy0,hy1,hy2⟩:=info_parts Tryz.infoStr1
 have H1:=Zhd h1
 have H2:=Zhd h2
 have H3:=Zhd h3
 have H4:=Zhd h4
 have H5:=Zhd h5
 clear h1 h2 h3 h4 h5 s4
 go_enter Tryz.func9,Tryz.ntmps9
 go_wp2_with fail
 have hP0:((w.alloc (.cells #[.slice ai p.ins.length ci,.slice ao p.outs.length co,.slice al p.fl.length cl,.slice aa p.as.length ca,.slice ac p.cs.length cc] 27)).alloc (.cells #[.slice none 0 0,.slice none 0 0,.slice none 0 0,.slice none 0 0,.slice none 0 0] 41)).heap[w.heap.size]?=some (.cells #[.slice ai p.ins.length ci,.slice ao p.outs.length co,.slice al p.fl.length cl,.slice aa p.as.length ca,.slice ac p.cs.length cc] 27 (0,0)):=by
  rw [Below.heap_alloc _ _ _ (by simp)];exact heap_alloc_new _ _
 have hR0:((w.alloc (.cells #[.slice ai p.ins.length ci,.slice ao p.outs.length co,.slice al p.fl.length cl,.slice aa p.as.length ca,.slice ac p.cs.length cc] 27)).alloc (.cells #[.slice none 0 0,.slice none 0 0,.slice none 0 0,.slice none 0 0,.slice none 0 0] 41)).heap[w.heap.size+1]?=some (.cells #[.slice none 0 0,.slice none 0 0,.slice none 0 0,.slice none 0 0,.slice none 0 0] 41 (0,0)):=by
  rw [show w.heap.size+1=(w.alloc (.cells #[.slice ai p.ins.length ci,.slice ao p.outs.length co,.slice al p.fl.length cl,.slice aa p.as.length ca,.slice ac p.cs.length cc] 27)).heap.size from by simp];exact heap_alloc_new _ _
 have hb0:Below w.heap.size w ((w.alloc (.cells #[.slice ai p.ins.length ci,.slice ao p.outs.length co,.slice al p.fl.length cl,.slice aa p.as.length ca,.slice ac p.cs.length cc] 27)).alloc (.cells #[.slice none 0 0,.slice none 0 0,.slice none 0 0,.slice none 0 0,.slice none 0 0] 41)):=
  ((Below.refl _ _).alloc (Nat.le_refl _) _).alloc (by simp) _
 generalize (w.alloc (.cells #[.slice ai p.ins.length ci,.slice ao p.outs.length co,.slice al p.fl.length cl,.slice aa p.as.length ca,.slice ac p.cs.length cc] 27)).alloc (.cells #[.slice none 0 0,.slice none 0 0,.slice none 0 0,.slice none 0 0,.slice none 0 0] 41)=W1 at *
 obtain⟨K0,hK0⟩:∃ K,K=H.add w.heap.size (.cells #[.slice ai p.ins.length ci,.slice ao p.outs.length co,.slice al p.fl.length cl,.slice aa p.as.length ca,.slice ac p.cs.length cc] 27 (0,0)):=⟨_,rfl⟩
 have hSt:Kn.Step H w K0 W1:=⟨by rw [hK0];exact Kn.le_add (hH.isNone (Nat.le_refl _)),fun b hb=>by rw [hK0,Kn.add_other _ _ (by omega)],by rw [hK0];exact (hH.below hb0).add hP0,hb0⟩
 have hHR:K0 (w.heap.size+1)=none:=by rw [hK0,Kn.add_other _ _ (by omega)];exact hH.isNone (by omega)
 have hc:∀ i,K0.cell w.heap.size i=(#[.slice ai p.ins.length ci,.slice ao p.outs.length co,.slice al p.fl.length cl,.slice aa p.as.length ca,.slice ac p.cs.length cc]:Array Value)[i]?:=fun i=>by unfold Kn.cell;rw [hK0,Kn.add_self]
 have k0:K0.cell w.heap.size 0=some (.slice ai p.ins.length ci):=hc 0
 have k1:K0.cell w.heap.size 1=some (.slice ao p.outs.length co):=hc 1
 have k2:K0.cell w.heap.size 2=some (.slice al p.fl.length cl):=hc 2
 have k3:K0.cell w.heap.size 3=some (.slice aa p.as.length ca):=hc 3
 have k4:K0.cell w.heap.size 4=some (.slice ac p.cs.length cc):=hc 4
 have G1:=Zhd (H1.out.le hSt.le VrC.mono)
 have G2:=Zhd (H2.out.le hSt.le StrC.mono)
 have G3:=Zhd (H3.out.le hSt.le (FlC.mono hSt.le))
 have G4:=Zhd (H4.out.le hSt.le)
 have G5:=Zhd (H5.out.le hSt.le)
 have hs:=Kn.Step.of_below hSt.isin ((Below.refl W1.heap.size W1).drew)
 have HST:=Zhd hSt
 have HR0:=Zhd hR0
 have HHR:=Zhd hHR
 have hwlt:w.heap.size≤W1.heap.size:=hb0.size
 clear hc hK0 hP0 hb0 hR0 hHR H1 H2 H3 H4 H5
 refine Code.wp_mono (Q:=fun e a' w'=>match e with | .normal=>∃ (B:Nat) (x1:Option Addr) (y1:Nat) (x2:Option Addr) (y2:Nat) (x3:Option Addr) (y3:Nat) (K3:Kn),a'={ tmps := #[.agg #[.slice ai p.ins.length ci,.slice ao p.outs.length co,.slice al p.fl.length cl,.slice aa p.as.length ca,.slice ac p.cs.length cc],.pointer (some ⟨w.heap.size,0,none⟩),.pointer (some ⟨w.heap.size+1,0,none⟩),.pointer (some ⟨B,0,none⟩),undef,.pointer (some ⟨w.heap.size,0,none⟩),.slice ai p.ins.length ci,.slice x1 p.ins.length y1,.pointer (some ⟨w.heap.size,3,none⟩),.slice aa p.as.length ca,.slice x2 p.as.length y2,.pointer (some ⟨w.heap.size,4,none⟩),.slice ac p.cs.length cc,.slice x3 p.cs.length y3,.agg #[.slice x1 p.ins.length y1,.slice none 0 0,.slice none 0 0,.slice x2 p.as.length y2,.slice x3 p.cs.length y3],undef,undef,undef,undef,undef,undef,undef,undef,undef,undef,undef,undef,undef,undef,undef,undef,undef,undef,undef,undef,undef,undef,undef,undef,undef,undef,undef,undef,undef,undef,undef,undef,undef,undef,undef,undef,undef,undef,undef],defers:=[] }∧K0.le K3∧FoO 41 71 H w (w.heap.size+1) B w' (.slice x1 p.ins.length y1) (.slice none 0 0) (.slice none 0 0) (.slice x2 p.as.length y2) (.slice x3 p.cs.length y3) p [] 0 [] K3 | _=>False) ?rest ?reg
 case' reg=>
  have hS2:K0.In W1.drew:=hs.isin
  have hT2:∀ {q:Prop},q→True:=fun _=>trivial
  refine Za2 (fun w'=>K0.In w') (fun _=>True) 11 (by kernel_rfl) ?_
  generalize W1.drew=Wd at hs hS2 ⊢
  refine tk2 (i:=0) (v:=?_) rfl hS2 Ztr ?hy ?_
  case hy=>exact mHof2
  try simp only [Act.put,List.setIfInBounds_toArray]
  refine tk2 (i:=3) (v:=?_) rfl hS2 Ztr ?hy ?_
  case hy=>exact mHof2
  try simp only [Act.put]
  refine tk2 (i:=6) (v:=?_) rfl hS2 Ztr ?hy ?_
  case hy=>exact mHof2
  try simp only [Act.put]
  refine tk2 (i:=1) (v:=?_) rfl hS2 Ztr ?hy ?_
  case hy=>exact mHof2
  try simp only [Act.put]
  refine tk2 (i:=4) (v:=?_) rfl hS2 Ztr ?hy ?_
  case hy=>exact mHof2
  try simp only [Act.put]
  refine tk2 (i:=7) (v:=?_) rfl hS2 Ztr ?hy ?_
  case hy=>exact mHof2
  try simp only [Act.put]
  have hS:=hs
  refine Zds (i:=2) (j:=10) (o:=_) (o':=_) (by kernel_rfl) rfl rfl (fun K_ hK=>?g0) (fun K_ hK=>?g1)
  case' g0=>
   go_simp
   go_at_call 32
   refine (varsOf_any p.ins _ K0 (G1.out.le hS.le VrC.mono) (by omega) _ hS.isin).mono ?_
   rintro r wc1 ⟨v1,K1,rfl,hv1,hst⟩
   obtain⟨x1,y1,rfl⟩:=hv1.len
   have hS:=hS.trans hst
   have hS2:K0.In wc1:=fun b o e=>hS.isin b o (hS.le b o e)
   refine hK.out _ _ hS2 Ztr ?_
   clear hst
   clear hK K_
   try simp only [tkS]
   refine Zds (i:=5) (j:=10) (o:=_) (o':=_) (by kernel_rfl) rfl rfl (fun K_ hK=>?g2) (fun K_ hK=>?g3)
   case' g2=>
    go_simp
    go_at_call 33
    refine (Zfz p.as _ K1 (G4.out.le hS.le) (by omega) _ hS.isin).mono ?_
    rintro r wc2 ⟨v2,K2,rfl,hv2,hst⟩
    obtain⟨x2,y2,rfl⟩:=hv2.len
    have hv1:=hv1.le hst.le VrC.mono
    have hS:=hS.trans hst
    have hS2:K0.In wc2:=fun b o e=>hS.isin b o (hS.le b o e)
    refine hK.out _ _ hS2 Ztr ?_
    clear hst
    clear hK K_
    try simp only [tkS]
    refine Zds (i:=8) (j:=10) (o:=_) (o':=_) (by kernel_rfl) rfl rfl (fun K_ hK=>?g4) (fun K_ hK=>?g5)
    case' g4=>
     go_simp
     go_at_call 33
     refine (Zfz p.cs _ K2 (G5.out.le hS.le) (by omega) _ hS.isin).mono ?_
     rintro r wc3 ⟨v3,K3,rfl,hv3,hst⟩
     obtain⟨x3,y3,rfl⟩:=hv3.len
     have hv1:=hv1.le hst.le VrC.mono
     have hv2:=hv2.le hst.le
     have hS:=hS.trans hst
     have hS2:K0.In wc3:=fun b o e=>hS.isin b o (hS.le b o e)
     refine hK.out _ _ hS2 Ztr ?_
     clear hst
     clear hK K_
     try simp only [tkS]
     refine tk2 (i:=9) (v:=?_) rfl hS2 Ztr ?hy ?_
     case hy=>exact mHof3
     try simp only [Act.put,List.setIfInBounds_toArray]
     refine Zwo 10 rfl fun K_ hK=>?_
     go_simp
     refine hK.out _ _ (hS2.alloc _) Ztr ?_
     have hKB:K3 wc3.heap.size=none:=hS.isin.isNone (Nat.le_refl _)
     have hBge:W1.heap.size≤wc3.heap.size:=hS.below.size
     have hS:=Zdv hS (.cells #[.slice none 0 0,.slice none 0 0,.slice none 0 0,.slice none 0 0,.slice none 0 0] 41)
     have hS2:=hS2.alloc (.cells #[.slice none 0 0,.slice none 0 0,.slice none 0 0,.slice none 0 0,.slice none 0 0] 41)
     have hbx:(wc3.alloc (.cells #[.slice none 0 0,.slice none 0 0,.slice none 0 0,.slice none 0 0,.slice none 0 0] 41)).heap[wc3.heap.size]?=some (.cells #[.slice none 0 0,.slice none 0 0,.slice none 0 0,.slice none 0 0,.slice none 0 0] 41 (0,0)):=heap_alloc_new _ _
     have hlt:wc3.heap.size<(wc3.alloc (.cells #[.slice none 0 0,.slice none 0 0,.slice none 0 0,.slice none 0 0,.slice none 0 0] 41)).heap.size:=by simp
     generalize World.alloc wc3 (.cells #[.slice none 0 0,.slice none 0 0,.slice none 0 0,.slice none 0 0,.slice none 0 0] 41)=WA at hS hS2 hbx hlt ⊢
     generalize hBB:wc3.heap.size=B at hKB hBge hbx hlt ⊢
     clear hK K_
     try simp only [tkS]
     obtain⟨⟨z0,z1,z2,z3,z4⟩,f0,f1,f2,f3,f4⟩:=Zae hbx
     refine Zwo 11 rfl fun K_ hK=>?_
     go_simp
     refine hK.out _ _ (fun b o e=>in5 hS.isin hKB _ _ _ _ _ b o (hS.le b o e)) Ztr ?_
     clear hK K_
     try simp only [tkS]
     have hF:=foo_start (F:=71) HST.out hS hbx hKB hBge HR0.out HHR.out (Nat.le_succ _) hv1 hv2 hv3
     exact Zei (by kernel_rfl) ⟨_,_,_,_,_,_,_,_,rfl,hS.le,hF⟩ _
    case' g5=>
     go_simp
     refine hK.out _ _ (hS2.alloc _) Ztr ?_
     have hKB:K2 wc2.heap.size=none:=hS.isin.isNone (Nat.le_refl _)
     have hBge:W1.heap.size≤wc2.heap.size:=hS.below.size
     have hS:=Zdv hS (.cells #[.slice none 0 0,.slice none 0 0,.slice none 0 0,.slice none 0 0,.slice none 0 0] 41)
     have hS2:=hS2.alloc (.cells #[.slice none 0 0,.slice none 0 0,.slice none 0 0,.slice none 0 0,.slice none 0 0] 41)
     have hbx:(wc2.alloc (.cells #[.slice none 0 0,.slice none 0 0,.slice none 0 0,.slice none 0 0,.slice none 0 0] 41)).heap[wc2.heap.size]?=some (.cells #[.slice none 0 0,.slice none 0 0,.slice none 0 0,.slice none 0 0,.slice none 0 0] 41 (0,0)):=heap_alloc_new _ _
     have hlt:wc2.heap.size<(wc2.alloc (.cells #[.slice none 0 0,.slice none 0 0,.slice none 0 0,.slice none 0 0,.slice none 0 0] 41)).heap.size:=by simp
     generalize World.alloc wc2 (.cells #[.slice none 0 0,.slice none 0 0,.slice none 0 0,.slice none 0 0,.slice none 0 0] 41)=WA at hS hS2 hbx hlt ⊢
     generalize hBB:wc2.heap.size=B at hKB hBge hbx hlt ⊢
     exact mHof4
   case' g3=>
    go_simp
    refine hK.out _ _ (hS2.alloc _) Ztr ?_
    have hKB:K1 wc1.heap.size=none:=hS.isin.isNone (Nat.le_refl _)
    have hBge:W1.heap.size≤wc1.heap.size:=hS.below.size
    have hS:=Zdv hS (.cells #[.slice none 0 0,.slice none 0 0,.slice none 0 0,.slice none 0 0,.slice none 0 0] 41)
    have hS2:=hS2.alloc (.cells #[.slice none 0 0,.slice none 0 0,.slice none 0 0,.slice none 0 0,.slice none 0 0] 41)
    have hbx:(wc1.alloc (.cells #[.slice none 0 0,.slice none 0 0,.slice none 0 0,.slice none 0 0,.slice none 0 0] 41)).heap[wc1.heap.size]?=some (.cells #[.slice none 0 0,.slice none 0 0,.slice none 0 0,.slice none 0 0,.slice none 0 0] 41 (0,0)):=heap_alloc_new _ _
    have hlt:wc1.heap.size<(wc1.alloc (.cells #[.slice none 0 0,.slice none 0 0,.slice none 0 0,.slice none 0 0,.slice none 0 0] 41)).heap.size:=by simp
    generalize World.alloc wc1 (.cells #[.slice none 0 0,.slice none 0 0,.slice none 0 0,.slice none 0 0,.slice none 0 0] 41)=WA at hS hS2 hbx hlt ⊢
    generalize hBB:wc1.heap.size=B at hKB hBge hbx hlt ⊢
    exact mHof5
  case' g1=>
   go_simp
   refine hK.out _ _ (hS2.alloc _) Ztr ?_
   have hKB:K0 Wd.heap.size=none:=hS.isin.isNone (Nat.le_refl _)
   have hBge:W1.heap.size≤Wd.heap.size:=hS.below.size
   have hS:=Zdv hS (.cells #[.slice none 0 0,.slice none 0 0,.slice none 0 0,.slice none 0 0,.slice none 0 0] 41)
   have hS2:=hS2.alloc (.cells #[.slice none 0 0,.slice none 0 0,.slice none 0 0,.slice none 0 0,.slice none 0 0] 41)
   have hbx:(Wd.alloc (.cells #[.slice none 0 0,.slice none 0 0,.slice none 0 0,.slice none 0 0,.slice none 0 0] 41)).heap[Wd.heap.size]?=some (.cells #[.slice none 0 0,.slice none 0 0,.slice none 0 0,.slice none 0 0,.slice none 0 0] 41 (0,0)):=heap_alloc_new _ _
   have hlt:Wd.heap.size<(Wd.alloc (.cells #[.slice none 0 0,.slice none 0 0,.slice none 0 0,.slice none 0 0,.slice none 0 0] 41)).heap.size:=by simp
   generalize World.alloc Wd (.cells #[.slice none 0 0,.slice none 0 0,.slice none 0 0,.slice none 0 0,.slice none 0 0] 41)=WA at hS hS2 hbx hlt ⊢
   generalize hBB:Wd.heap.size=B at hKB hBge hbx hlt ⊢
   clear hK K_
   try simp only [tkS]
   refine Zwo 2 rfl fun K_ hK=>?_
   go_simp
   go_at_call 32
   refine (varsOf_any p.ins _ K0 (G1.out.le hS.le VrC.mono) (by omega) _ hS.isin).mono ?_
   rintro r wc1 ⟨v1,K1,rfl,hv1,hst⟩
   obtain⟨x1,y1,rfl⟩:=hv1.len
   have hKB:K1 B=none:=(hst.fresh B hlt).trans hKB
   have hbx:=(hst.below.block B hlt).trans hbx
   have hlt:B<wc1.heap.size:=Nat.lt_of_lt_of_le hlt hst.below.size
   have hS:=hS.trans hst
   have hS2:K0.In wc1:=fun b o e=>hS.isin b o (hS.le b o e)
   refine hK.out _ _ hS2 Ztr ?_
   clear hst
   exact mHof5
 intro e a' w' h
 cases e with
 | normal=>
  obtain⟨B,x1,y1,x2,y2,x3,y3,K3,rfl,hle3,hF⟩:=h
  have hk1:K3.cell w.heap.size 1=some (.slice ao p.outs.length co):=hle3.cell k1
  have hk2:K3.cell w.heap.size 2=some (.slice al p.fl.length cl):=hle3.cell k2
  have GO:=Zhd (G2.out.le hle3 StrC.mono)
  have GF:=Zhd (G3.out.le hle3 (FlC.mono hle3))
  generalize hWF:w'=WF at *
  have HF:=Zhd hF
  clear hF hs k0 k1 k2 k3 k4 G1 G2 G3 G4 G5 HST HR0 HHR
  clear hWF
  obtain⟨q0,q1,q2,q3,q4⟩:=(Zae HF.out.box).1
  have f1:=(Zae HF.out.box).2.2.1
  have e1:=HF.out.step.isin.cell hk1
  obtain⟨v',WO,KO,hrun,hso,hvo⟩:=run_append_strs HF.out.step.isin GO.out s2
  have HFO:=Zhd (HF.out.next hso)
  have p1:=(Zae HFO.out.box).1.2.1
  have g1:=(Zae HFO.out.box).2.2.1
  have hl2:KO.cell w.heap.size 2=some (.slice al p.fl.length cl):=hso.le.cell hk2
  have GF2:=Zhd (GF.out.le hso.le (FlC.mono hso.le))
  have HVO:=Zhd hvo
  obtain⟨xo,yo,rfl⟩:=hvo.len
  clear hso hvo
  go_wp2_with (at_builtin;refine Zb1 rfl _ _ _ _ rfl _ _ rfl rfl _ _ hrun ?_)
  have HF2:=Zhd (HFO.out.set1 (by decide) HVO.out)
  generalize World.setCell _ _ _=WL at HF2 ⊢
  clear HFO HF p1 g1 q0 q1 q2 q3 q4 f1 e1 hrun
  go_loopw [4] (fun i wr=>∃ (k:Nat) (u:Value) (xs:List Value) (K:Kn),i = .int .i64 k∧k≤p.fl.length∧KO.le K∧FoO 41 71 H w (w.heap.size+1) B wr (.slice x1 p.ins.length y1) (.slice xo p.outs.length yo) u (.slice x2 p.as.length y2) (.slice x3 p.cs.length y3) p p.outs k xs K) (fun i _=>p.fl.length - (intOf i).toNat)
  case atStart=>exact⟨0,_,_,_,rfl,Nat.zero_le _,Kn.le_refl _,HF2.out⟩
  obtain⟨k,u,xs,K,rfl,hk,hle,hS⟩:=hrel
  have HS:=Zhd hS
  obtain⟨au,cu,rfl,_⟩:=Zau hS.row
  clear hS
  have hl3:K.cell w.heap.size 2=some (.slice al p.fl.length cl):=hle.cell hl2
  have m2:=HS.out.step.isin.cell hl3
  by_cases hkl:k<p.fl.length
  ·obtain⟨b,off,cap0,he,_,_,hcs⟩:=FlsV.cell GF2.out (fun e=>by rw [e] at hkl;simp at hkl)
   cases he
   obtain⟨ax,cx,d0,d1,d2,d3,d4,d5,hx⟩:=hcs k hkl
   have hpx:p.fl[k].e.parts≤1000000000000:=by
    have:=Za5 (p.fl.map (·.e)) k (by simpa using hkl)
    simp at this
    omega
   have d0:=hle.cell d0
   have d1:=hle.cell d1
   have d2:=hle.cell d2
   have d3:=hle.cell d3
   have d4:=hle.cell d4
   have d5:=hle.cell d5
   have hx:=hx.le hle
   have hxe:∃ x,p.fl[k]=x:=⟨_,rfl⟩
   obtain⟨x,hxe⟩:=hxe
   rw [hxe] at d0 d1 d2 d3 d4 d5 hx hpx
   have HXE:=Zhd hxe
   have HCS:=Zhd hx
   clear hxe hcs hx
   go_wp2_with fail
   have hSD:=HS.out.drew
   have hS2:K.In wr.drew:=hSD.step.isin
   have hT2:wr.drew.cell? ⟨B,2,none⟩=some (.slice au k cu):=hSD.c2
   refine Za2 (fun w'=>K.In w') (fun w'=>w'.cell? ⟨B,2,none⟩=some (.slice au k cu)) 23 (by kernel_rfl) ?_
   refine tk2 (i:=0) (v:=?_) rfl hS2 (fun _=>hT2) ?hy ?_
   case hy=>exact Zez
   try simp only [Act.put,List.setIfInBounds_toArray]
   refine wpAny2_load (i:=1) (oi:=_) (om:=_) (v:=?_) rfl (by decide) (by kernel_rfl) (by kernel_rfl) (by kernel_rfl) (by kernel_rfl) rfl (by kernel_rfl) (by kernel_rfl) (fun _ _ _ h=>h) hS2 hT2 (Or.inl ⟨by rfl,?hy⟩) ?_
   case hy=>intro w hTw;go_simp<;>with_reducible rfl
   try simp only [Act.put]
   refine tk2 (i:=2) (v:=?_) rfl hS2 (fun _=>hT2) ?hy ?_
   case hy=>exact Zez
   try simp only [Act.put]
   refine tk2 (i:=3) (v:=?_) rfl hS2 (fun _=>hT2) ?hy ?_
   case hy=>exact Zez
   try simp only [Act.put]
   refine tk2 (i:=4) (v:=?_) rfl hS2 (fun _=>hT2) ?hy ?_
   case hy=>exact Zez
   try simp only [Act.put]
   refine tk2 (i:=5) (v:=?_) rfl hS2 (fun _=>hT2) ?hy ?_
   case hy=>exact Zez
   try simp only [Act.put]
   refine tk2 (i:=6) (v:=?_) rfl hS2 (fun _=>hT2) ?hy ?_
   case hy=>exact Zez
   try simp only [Act.put]
   refine tk2 (i:=7) (v:=?_) rfl hS2 (fun _=>hT2) ?hy ?_
   case hy=>exact Zez
   try simp only [Act.put]
   refine tk2 (i:=8) (v:=?_) rfl hS2 (fun _=>hT2) ?hy ?_
   case hy=>exact Zez
   try simp only [Act.put]
   refine tk2 (i:=9) (v:=?_) rfl hS2 (fun _=>hT2) ?hy ?_
   case hy=>exact Zez
   try simp only [Act.put]
   refine tk2 (i:=10) (v:=?_) rfl hS2 (fun _=>hT2) ?hy ?_
   case hy=>exact Zez
   try simp only [Act.put]
   refine tk2 (i:=11) (v:=?_) rfl hS2 (fun _=>hT2) ?hy ?_
   case hy=>exact Zez
   try simp only [Act.put]
   refine tk2 (i:=12) (v:=?_) rfl hS2 (fun _=>hT2) ?hy ?_
   case hy=>exact Zez
   try simp only [Act.put]
   refine tk2 (i:=13) (v:=?_) rfl hS2 (fun _=>hT2) ?hy ?_
   case hy=>exact Zez
   try simp only [Act.put]
   refine tk2 (i:=14) (v:=?_) rfl hS2 (fun _=>hT2) ?hy ?_
   case hy=>exact Zez
   try simp only [Act.put]
   refine tk2 (i:=15) (v:=?_) rfl hS2 (fun _=>hT2) ?hy ?_
   case hy=>exact Zez
   try simp only [Act.put]
   refine tk2 (i:=16) (v:=?_) rfl hS2 (fun _=>hT2) ?hy ?_
   case hy=>exact Zez
   try simp only [Act.put]
   refine tk2 (i:=17) (v:=?_) rfl hS2 (fun _=>hT2) ?hy ?_
   case hy=>exact Zez
   try simp only [Act.put]
   refine tk2 (i:=18) (v:=?_) rfl hS2 (fun _=>hT2) ?hy ?_
   case hy=>exact Zez
   try simp only [Act.put]
   refine tk2 (i:=19) (v:=?_) rfl hS2 (fun _=>hT2) ?hy ?_
   case hy=>exact Zez
   try simp only [Act.put]
   refine Zwo 20 rfl fun K_ hK=>?_
   go_simp
   go_at_call 34
   refine (exprOf_any x.e _ K ⟨_,rfl,HCS.out⟩ hpx _ hS2).mono ?_
   rintro r wc ⟨v',K2,rfl,hv2,hst⟩
   obtain⟨u2,rfl,hu2⟩:=hv2
   obtain⟨ax2,cx2,rfl⟩:=hu2.len
   have hSE:=hSD.next hst
   have hS2:K.In wc:=fun b o e=>hst.isin b o (hst.le b o e)
   have hT2:=hSE.c2
   refine hK.out _ _ hS2 (fun _=>hT2) ?_
   clear hK K_
   try simp only [tkS]
   refine tk2 (i:=21) (v:=?_) rfl hS2 (fun _=>hT2) ?hy ?_
   case hy=>exact Zez
   try simp only [Act.put,List.setIfInBounds_toArray]
   refine Zwo 22 rfl fun K_ hK=>?_
   go_simp
   have hSF:=hSE.alloc (.cells #[.string x.name,.int .i64 x.kind,.string x.e.op,.int .i64 x.e.n,.string x.e.s,.slice ax2 x.e.l.length cx2] 71)
   refine hK.out _ _ (hS2.alloc _) (fun _=>hSF.c2) ?_
   clear hK K_
   try simp only [tkS]
   refine Zwo 23 rfl fun K_ hK=>?_
   refine step_append_lies _ (by rfl) _ _ _ (by rfl) w.heap.size 71 i0 _ 6 88 Tryz.underlying38 hi0 hz0 hz1 hz2 rfl (by omega) _ k xs (by rfl) hSF.row ⟨_,0,none⟩ 1 1 [.string x.name,.int .i64 x.kind,.string x.e.op,.int .i64 x.e.n,.string x.e.s,.slice ax2 x.e.l.length cx2] (by rfl) (by rfl) (by exact World.news_of_block (heap_alloc_new _ _)) (by simp [Value.oneCell']) (by omega) (by unfold maxLen;omega) (by omega) hSF.step.below.size _ rfl ?_
   intro gg cap' w3 hown hgrow hat hltg
   obtain⟨hf1,hf2,hin3,hf3⟩:=FoO.more hSF (by decide) hkl HXE.out hu2 hown hgrow hat
   have hS3:K.In w3:=fun b o e=>hin3 b o (hst.le b o e)
   refine hK.out _ _ hS3 (fun h=>absurd h (by decide)) ?_
   clear hK K_
   try simp only [Act.put,List.setIfInBounds_toArray]
   refine tk2 (i:=24) (v:=?_) rfl hS3 (fun h=>absurd h (by decide)) ?hy ?_
   case hy=>exact Zez
   try simp only [Act.put]
   refine Zwo 25 rfl fun K_ hK=>?_
   go_simp
   refine hK.out _ _ (fun b o e=>hf3.step.isin b o (hst.le b o e)) (fun h=>absurd h (by decide)) ?_
   clear hK K_
   try simp only [tkS]
   refine Zwd ?_
   generalize World.setCell _ _ _=W9 at hf3 ⊢
   go_wp2_with fail
   go_roundw
   case rel=>exact⟨k+1,_,_,_,by go_num,by omega,Kn.le_trans hle hst.le,hf3⟩
   simp [intOf];omega
  obtain rfl:k=p.fl.length:=by omega
  have hxs:FsX K (List.take p.fl.length p.fl) xs:=HS.out.xs
  rw [List.take_of_length_le (Nat.le_refl _)] at hxs
  obtain⟨K',hle',hin,hv,hfr⟩:=slv_of_own2 (R:=FlC) HS.out.step.isin HS.out.row HS.out.noU (fun K' hle i hi f hf=>hxs.flc hle i hi f hf)
  obtain⟨⟨q0,q1,q2,q3,q4⟩,_⟩:=Zae HS.out.box
  obtain⟨⟨r0,r1,r2,r3,r4⟩,f0,f1,f2,f3,f4⟩:=Zae HS.out.res
  have HR2:=Zhd (Zdd HS.out.res (.slice x1 p.ins.length y1) (.slice xo p.outs.length yo) (.slice au p.fl.length cu) (.slice x2 p.as.length y2) (.slice x3 p.cs.length y3))
  have hKR:K' (w.heap.size+1)=none:=by rw [hfr _ (Zd3 HS.out.row HS.out.res (by decide))];exact HS.out.noR
  have HST:=Zhd (show Kn.Step H w K' (((((wr.setCell ⟨w.heap.size+1,0,none⟩ (.slice x1 p.ins.length y1)).setCell ⟨w.heap.size+1,1,none⟩ (.slice xo p.outs.length yo)).setCell ⟨w.heap.size+1,2,none⟩ (.slice au p.fl.length cu)).setCell ⟨w.heap.size+1,3,none⟩ (.slice x2 p.as.length y2)).setCell ⟨w.heap.size+1,4,none⟩ (.slice x3 p.cs.length y3)) from
   ⟨Kn.le_trans HS.out.step.le hle',fun b hb=>(hfr b (Zbn HS.out.row hb)).trans (HS.out.step.fresh b hb),in5 hin hKR _ _ _ _ _,Zes HS.out.step.below (Nat.le_succ _) _ _ _ _ _⟩)
  have HPP:=Zhd (show PrP K' p (.slice x1 p.ins.length y1) (.slice xo p.outs.length yo) (.slice au p.fl.length cu) (.slice x2 p.as.length y2) (.slice x3 p.cs.length y3) from
   ⟨HS.out.ins.le hle' VrC.mono,HS.out.outs.le hle' StrC.mono,hv,HS.out.asr.le hle',HS.out.chk.le hle'⟩)
  clear hin hv hfr hxs hKR hle' HVO GF2 hl2 hl3
  go_wp2_with fail
  obtain⟨⟨e0,e1,e2,e3,e4⟩,_⟩:=Zae HR2.out
  refine bodyPost_ret (v := .agg #[.slice x1 p.ins.length y1,.slice xo p.outs.length yo,.slice au p.fl.length cu,.slice x2 p.as.length y2,.slice x3 p.cs.length y3]) (by simp [results,Tryz.results9,go_sem,e0,e1,e2,e3,e4]) rfl ?_
  exact⟨_,_,_,_,_,K',rfl,HPP.out,HST.out⟩
 | _=>exact h.elim
open Go.RowKit Go.ChangeShapes
def VarReads (P:Program) (w:World) (n:String) (d:DataW Unit):Prop:=
 ∃ g t cs fuel p,P.globalNamed n=some g∧(P.globals[g]?).map (·.type)=some t∧w.var? P n=some cs∧DataW.trod (fun _=>()) P w 0 (fun _=>true) false fuel t cs.toList=some (d,p)
theorem Zji {P:Program} {w:World}:∀ {l:List (String×DataW Unit)} {ps:List MemPlace},DataW.LaidVars P w l ps→∀ x∈l,VarReads P w x.1 x.2
 | [],_,_,x,hx=>by cases hx
 | (n,d) :: r,ps,h,x,hx=>by
  obtain⟨g,t,cs,fuel,p,q,h1,h2,h3,h4,h5,_⟩:=h
  rcases List.mem_cons.1 hx with rfl | hx
  ·exact⟨g,t,cs,fuel,p,h1,h2,h3,h4⟩
  exact Zji h5 x hx
theorem laidMet_reads {P:Program} {w:World} {l:List (String×DataW Unit)} (h:laidMet P l w) {n:String} {d:DataW Unit} (hx:(n,d)∈l):VarReads P w n d:=by
 obtain⟨ps,hv,_⟩:=h
 exact Zji hv (n,d) hx
theorem laidMetH_met {P:Program} {w:World} {l:List (String×DataW Unit)} (h:laidMetH P l w):laidMet P (l.filter fun x=>x.2.handleName?.isNone) w:=by
 unfold laidMetH at h
 split at h
 ·rename_i he
  have:l.filter (fun x=>x.2.handleName?.isNone)=l:=by
   rw [List.filter_eq_self]
   intro a ha
   rw [List.filter_eq_nil_iff] at he
   have:=he a ha
   simpa using this
  rw [this];exact h
 exact h.1
def sentE (x:String×List UInt8):String×DataW Unit:=(x.1,.iface "*errors.errorString" (.ptr (.agg [.lit (.string x.2)])))
theorem Zff {a:Addr} {W:World} {s:ByteArray} (h:W.cell? a=some (.string s)):a.spot=none:=by
 unfold World.cell? at h
 split at h
 ·cases hsp:a.spot with
  | none=>rfl
  | some x=>rw [hsp] at h;simp at h
 cases h
theorem cell_spot {a:Addr} {W:World} {v:Value} (h:W.cell? a=some v):a.spot=none:=by
 unfold World.cell? at h
 split at h
 ·cases hsp:a.spot with
  | none=>rfl
  | some x=>rw [hsp] at h;simp at h
 cases h
theorem row_one {a:Addr}:MemPlace.row a 1=[MemPlace.cell a.block a.off]:=by
 simp [MemPlace.row]
theorem star:("*errors.errorString" : String) = "*" ++ "errors.errorString" := by decide
theorem name_sent:∀ u,Tryz.prog.typeName? 3 u=some "*errors.errorString" → u=283:=fun u h=>
 typeName_ptr_named (nm := "errors.errorString") (by rw [← star];kernel_rfl) (by kernel_rfl) (by decide) u (by rw [← star];exact h)
theorem sents_list {W:World}:∀ (L:List (String×List UInt8)) (ps:List MemPlace),DataW.LaidVars Tryz.prog W (L.map sentE) ps→ps.Nodup→
  (∀ b off,MemPlace.cell b off∈ps→(∃ c t,W.heap[b]?=some (.cells c t (0,0)))∧∀ u v,W.cell? ⟨b,off,none⟩=some (.iface u v)→Value.okWide Tryz.prog W .any 0 u v)→
  (∀ x∈L,∃ g,Tryz.prog.globalNamed x.1=some g∧(Tryz.prog.globals[g]?).map (·.type)=some 34)→
  ∃ p:Nat→Addr,(∀ i x,L[i]?=some x→W.var? Tryz.prog x.1=some #[.iface 283 (.pointer (some (p i)))]∧(∃ s,W.cell? (p i)=some (.string s)∧s.data.toList=x.2)∧
    (∃ c t,W.heap[(p i).block]?=some (.cells c t (0,0)))∧MemPlace.cell (p i).block (p i).off∈ps)∧
   ∀ i j,i<L.length→j<L.length→p i=p j→i=j
 | [],_,_,_,_,_=>⟨fun _=>⟨0,0,none⟩,fun i x h=>by simp at h,fun i _ h=>by simp at h⟩
 | x :: r,ps,hv,hnd,hrows,hg=>by
  obtain⟨g0,t0,cs0,f0,p0,q0,hg0,ht0,hv0,hd0,hq,e0⟩:=hv
  subst e0
  obtain⟨g,hg1,ht1⟩:=hg x (List.mem_cons_self ..)
  obtain rfl:=Option.some.inj (hg1.symm.trans hg0)
  obtain rfl:=Option.some.inj (ht1.symm.trans ht0)
  have ok0:∀ u v,cs0.toList=[.iface u v]→Value.okWide Tryz.prog W .any 0 u v:=fun u v e=>by
   obtain⟨l0⟩:=cs0
   simp only at e
   subst e
   exact (hrows g 0 (by simp [MemPlace.row])).2 u v (by simpa using World.var?_cell hg0 hv0 0)
  obtain⟨a,s,hcs,hc,hs,_,hp0⟩:=errorString_of_trod Tryz.underlying34 name_sent Tryz.underlying283 Tryz.underlying303 rfl rfl Tryz.underlying9 (by kernel_rfl) (by kernel_rfl) hd0 ok0
  subst hp0
  have hcs':cs0 = #[.iface 283 (.pointer (some a))]:=by
   obtain⟨l0⟩:=cs0
   simp only at hcs
   rw [hcs]
  subst hcs'
  rw [row_one] at hnd hrows
  obtain⟨p,hp,hinj⟩:=sents_list r q0 hq (List.Nodup.sublist (List.sublist_append_right _ _) hnd) (fun b off hm=>hrows b off (List.mem_append_right _ hm)) (fun y hy=>hg y (List.mem_cons_of_mem _ hy))
  have hna:MemPlace.cell a.block a.off∉q0:=by
   rw [List.append_assoc,List.nodup_append] at hnd
   have:=(List.nodup_append.1 hnd.2.1).2.2
   intro hm
   exact this _ (List.mem_singleton.2 rfl) _ hm rfl
  refine⟨fun | 0=>a | i+1=>p i,?_,?_⟩
  ·intro i y hy
   match i with
   | 0=>
    simp only [List.getElem?_cons_zero,Option.some.injEq] at hy
    subst hy
    exact⟨hv0,⟨s,hc,hs⟩,(hrows a.block a.off (by simp)).1,by simp [row_one]⟩
   | i+1=>
    have h:=hp i y (by simpa using hy)
    exact⟨h.1,h.2.1,h.2.2.1,List.mem_append_right _ h.2.2.2⟩
  intro i j hi hj hij
  match i,j with
  | 0,0=>rfl
  | 0,j+1=>
   have h:=(hp j _ (List.getElem?_eq_getElem (by simpa using hj))).2.2.2
   simp only at hij
   rw [← hij] at h
   exact absurd h hna
  | i+1,0=>
   have h:=(hp i _ (List.getElem?_eq_getElem (by simpa using hi))).2.2.2
   simp only at hij
   rw [hij] at h
   exact absurd h hna
  | i+1,j+1=>rw [hinj i j (by simpa using hi) (by simpa using hj) hij]
theorem laidVars_sub {P:Program} {w:World} {l' l:List (String×DataW Unit)} (hs:l'.Sublist l):∀ ps,DataW.LaidVars P w l ps→∃ qs,DataW.LaidVars P w l' qs∧qs.Sublist ps:=by
 induction hs with
 | slnil=>intro ps h;exact⟨ps,h,List.Sublist.refl _⟩
 | cons x _ ih=>
  intro ps h
  obtain⟨n,d⟩:=x
  obtain⟨g,t,cs,fuel,p,q,_,_,_,_,hq,rfl⟩:=h
  obtain⟨qs,h1,h2⟩:=ih q hq
  exact⟨qs,h1,h2.trans (List.sublist_append_right _ _)⟩
 | cons_cons x _ ih=>
  intro ps h
  obtain⟨n,d⟩:=x
  obtain⟨g,t,cs,fuel,p,q,h1,h2,h3,h4,hq,rfl⟩:=h
  obtain⟨qs,h5,h6⟩:=ih q hq
  exact⟨_,⟨g,t,cs,fuel,p,qs,h1,h2,h3,h4,h5,rfl⟩,(List.Sublist.refl _).append h6⟩
theorem laidMet_sub {P:Program} {w:World} {l' l:List (String×DataW Unit)} (hs:l'.Sublist l) (h:laidMet P l w):laidMet P l' w:=by
 obtain⟨ps,hv,hn,hr⟩:=h
 obtain⟨qs,h1,h2⟩:=laidVars_sub hs ps hv
 exact⟨qs,h1,hn.sublist h2,fun b off hm=>hr b off (h2.subset hm)⟩
end Go.Proofs.YtofameafdnkijaaGreatDoor
