/- Walks: slim.Fold. -/
import Derived.Test.YtofameafdnkijaaGreatDoorRg
import Derived.Test.YtofameafdnkijaaGreatDoorFld
import Derived.Test.YtofameafdnkijaaGreatDoorSam
import Derived.Test.YtofameafdnkijaaGreatDoorLateA
set_option linter.all false
namespace Go.Proofs.YtofameafdnkijaaGreatDoor
set_option maxRecDepth 100000
set_option maxHeartbeats 16000000
open Go.RowKit Mx
theorem Sen5.of_kn {w w':World} {p:Nat→Addr} (S:Sen5 w p) (h:(Zai w).In w'):Sen5 w' p:=by
 have hc:∀ b u,w.cell? ⟨b,0,none⟩=some u→w'.cell? ⟨b,0,none⟩=some u:=fun b u e=>h.cell (by rw [Zap];exact e)
 refine⟨hc _ _ S.c1,hc _ _ S.c2,hc _ _ S.c4,hc _ _ S.c5,hc _ _ S.c6,?_⟩
 have hb:=S.big
 have hl:10 - 1<w.heap.size:=by omega
 have h1:=h (10 - 1) _ (show Zai w (10 - 1)=some w.heap[10 - 1] from Array.getElem?_eq_getElem hl)
 have:=(Zlt h1)
 omega
theorem Zaw.of_kn {w w':World} {bm:Nat} {m:Env Int} (h:Zaw (Value.int .i64) w bm m) (hw:(Zai w).In w'):Zaw (Value.int .i64) w' bm m:=by
 have hl:=h.lt
 have e:w.heap[bm]?=some w.heap[bm]:=Array.getElem?_eq_getElem hl
 exact h.of_block ((hw bm _ e).trans e.symm)
theorem fold_how (HL:Kn) (T:Zbo HL) (sp:Nat→Addr) (ks m:Env Int) (bm:Nat) (hl:∀ s,0≤getI m s∧getI m s≤2) (lt:ByteArray→Int) (hlt:lt=getI m) (T5:Nat) (KH:Kn)
  (hKHI:∀ w,KH.In w→HL.In w∧Sen5 w sp∧Zaw (Value.int .i64) w bm m∧w.heap[T5]?=some (.cells #[.map (some bm)] 97 (0,0))):
  HowOk 38 #[.pointer (some ⟨T5,0,none⟩)] KH (Za6 lt) (fun e=>Zad ks e=true∧Zam ks e≠0∧e.parts≤1000000000):=by
 refine⟨fun _ _=>by kernel_rfl,fun e v n w hP hv hn hKH hno=>?_⟩
 obtain⟨hf,hk,hp⟩:=hP
 obtain⟨h1,h2,h3,h4⟩:=hKHI w hKH
 obtain⟨u,rfl,hu⟩:=hv
 obtain⟨a,c,rfl⟩:=hu.len
 have hb1:Below w.heap.size w ((w.alloc (.cells #[.string e.op,.int .i64 e.n,.string e.s,.slice a e.l.length c] 69)).alloc (.cells #[.string ⟨#[]⟩,.int .i64 0,.string ⟨#[]⟩,.slice none 0 0] 69)):=((Below.refl _ _).alloc (Nat.le_refl _) _).alloc (by simp) _
 have hR0:((w.alloc (.cells #[.string e.op,.int .i64 e.n,.string e.s,.slice a e.l.length c] 69)).alloc (.cells #[.string ⟨#[]⟩,.int .i64 0,.string ⟨#[]⟩,.slice none 0 0] 69)).heap[w.heap.size+1]?=some (.cells #[.string ⟨#[]⟩,.int .i64 0,.string ⟨#[]⟩,.slice none 0 0] 69 (0,0)):=by
  rw [show w.heap.size+1=(w.alloc (.cells #[.string e.op,.int .i64 e.n,.string e.s,.slice a e.l.length c] 69)).heap.size from by simp];exact heap_alloc_new _ _
 have hC:=fold_any HL T sp ks m bm hl lt hlt e hf hk hp (.agg #[.string e.op,.int .i64 e.n,.string e.s,.slice a e.l.length c]) (newU n w) ⟨_,rfl,hu⟩ _ ((Zhv n w).below hb1) (h1.below hb1) (h2.below hb1) (h3.below hb1)
 have hm0:w.cell? ⟨T5,0,none⟩=some (.map (some bm)):=by simp [World.cell?,h4]
 have hTl:=(Zlt h4)
 have m0:=hb1.cell (p:=⟨T5,0,none⟩) hTl
 rw [hm0] at m0
 have HB:=Zhd hb1
 have HN:=Zhd hn
 have HC:=Zhd hC
 have HR0:=Zhd hR0
 clear hb1 hu hC hR0 h1 h2 h3 h4 hm0 hKHI hlt hno hn
 generalize hg:Za6 lt e=g at *
 have hg:=Zhd hg
 go_enter Tryz.func38,Tryz.ntmps38
 go_wp2_with fail
 generalize (w.alloc (.cells #[.string e.op,.int .i64 e.n,.string e.s,.slice a e.l.length c] 69)).alloc (.cells #[.string ⟨#[]⟩,.int .i64 0,.string ⟨#[]⟩,.slice none 0 0] 69)=W at *
 refine HC.out.mono ?_
 rintro r w' ⟨v',rfl,hx,hb⟩
 obtain⟨u',rfl,hu'⟩:=hx
 obtain⟨a',c',rfl⟩:=hu'.len
 have hRl:=(Zlt HR0.out)
 have hR:=(hb.block (w.heap.size+1) hRl).trans HR0.out
 obtain⟨r0,r1,r2,r3,f0,f1,f2,f3,_⟩:=Zag hR
 have HR2:=Zhd (Zdx hR (.string g.op) (.int .i64 g.n) (.string g.s) (.slice a' g.l.length c'))
 have hKR:newU W.heap.size w' (w.heap.size+1)=none:=Zgz hRl
 have hin2:=(((((Zhv W.heap.size w').setCell (a:=⟨w.heap.size+1,0,none⟩) hKR (.string g.op)).setCell (a:=⟨w.heap.size+1,1,none⟩) hKR (.int .i64 g.n)).setCell (a:=⟨w.heap.size+1,2,none⟩) hKR (.string g.s)).setCell (a:=⟨w.heap.size+1,3,none⟩) hKR (.slice a' g.l.length c'))
 have hbb:=HB.out.trans (hb.mono HB.out.size)
 have HB2:=Zhd (((((hbb.setCell (p:=⟨w.heap.size+1,0,none⟩) (Nat.le_succ _) (.string g.op)).setCell (p:=⟨w.heap.size+1,1,none⟩) (Nat.le_succ _) (.int .i64 g.n)).setCell (p:=⟨w.heap.size+1,2,none⟩) (Nat.le_succ _) (.string g.s)).setCell (p:=⟨w.heap.size+1,3,none⟩) (Nat.le_succ _) (.slice a' g.l.length c')).mono HN.out)
 have HV2:=Zhd (hu'.le (Zfq hin2 (n:=n) (fun b hbn=>Zgz (by have:=HN.out;have:=HB.out.size;omega)) (newU_uf _ _)))
 clear hin2 hKR hbb hb hR hRl hu'
 go_wp2_with (guard_target =~ bodyPost _ _ _ _ _ _;obtain⟨e0,e1,e2,e3,_⟩:=Zag HR2.out;refine bodyPost_ret (v := .agg #[.string g.op,.int .i64 g.n,.string g.s,.slice a' g.l.length c']) (by simp [results,Tryz.results38,go_sem,e0,e1,e2,e3]) rfl ?_;exact⟨_,rfl,⟨_,rfl,HV2.out⟩,HB2.out⟩)
theorem foldP_any (H:Kn) (T:Zbo H) (sp:Nat→Addr) (p:Pr) (vi vo vl va vc:Value) (hp:PrP H p vi vo vl va vc)
  (hsz:p.ins.length≤1000000∧p.fl.length≤1000000∧p.outs.length≤1048576∧p.as.length≤1000000∧p.cs.length≤1000000∧Ex.partsL p.terms≤1000000)
  (hpick:Zak p=0→(∀ j,j<p.graph.length→cyc p.graph j=false)→∀ j,j<p.graph.length→pick p.graph (Zdh p.graph j [])<p.graph.length)
  (w:World) (hH:H.In w) (S:Sen5 w sp):
  Calls Tryz.prog 11 #[.agg #[vi,vo,vl,va,vc]] w fun r w'=>MadePost p (Zcc p) w r w':=by
 have HP:=Zhd hp
 obtain⟨h1,h2,h3,h4,h5⟩:=hp
 obtain⟨ai,ci,rfl⟩:=h1.len
 obtain⟨ao,co,rfl⟩:=h2.len
 obtain⟨al,cl,rfl⟩:=h3.len
 obtain⟨aa,ca,rfl⟩:=h4.len
 obtain⟨ac,cc,rfl⟩:=h5.len
 obtain⟨s1,s2,s3,s4,s5,s6⟩:=hsz
 clear h1 h2 h3 h4 h5
 have hP0:((w.alloc (.cells #[.slice ai p.ins.length ci,.slice ao p.outs.length co,.slice al p.fl.length cl,.slice aa p.as.length ca,.slice ac p.cs.length cc] 41)).alloc (.cells #[.slice none 0 0,.slice none 0 0,.slice none 0 0,.slice none 0 0,.slice none 0 0] 41)).heap[w.heap.size]?=some (.cells #[.slice ai p.ins.length ci,.slice ao p.outs.length co,.slice al p.fl.length cl,.slice aa p.as.length ca,.slice ac p.cs.length cc] 41 (0,0)):=by
  rw [Below.heap_alloc _ _ _ (by simp)];exact heap_alloc_new _ _
 have hR0:((w.alloc (.cells #[.slice ai p.ins.length ci,.slice ao p.outs.length co,.slice al p.fl.length cl,.slice aa p.as.length ca,.slice ac p.cs.length cc] 41)).alloc (.cells #[.slice none 0 0,.slice none 0 0,.slice none 0 0,.slice none 0 0,.slice none 0 0] 41)).heap[w.heap.size+1]?=some (.cells #[.slice none 0 0,.slice none 0 0,.slice none 0 0,.slice none 0 0,.slice none 0 0] 41 (0,0)):=by
  rw [show w.heap.size+1=(w.alloc (.cells #[.slice ai p.ins.length ci,.slice ao p.outs.length co,.slice al p.fl.length cl,.slice aa p.as.length ca,.slice ac p.cs.length cc] 41)).heap.size from by simp];exact heap_alloc_new _ _
 have hb0:Below w.heap.size w ((w.alloc (.cells #[.slice ai p.ins.length ci,.slice ao p.outs.length co,.slice al p.fl.length cl,.slice aa p.as.length ca,.slice ac p.cs.length cc] 41)).alloc (.cells #[.slice none 0 0,.slice none 0 0,.slice none 0 0,.slice none 0 0,.slice none 0 0] 41)):=((Below.refl _ _).alloc (Nat.le_refl _) _).alloc (by simp) _
 have hz1:((w.alloc (.cells #[.slice ai p.ins.length ci,.slice ao p.outs.length co,.slice al p.fl.length cl,.slice aa p.as.length ca,.slice ac p.cs.length cc] 41)).alloc (.cells #[.slice none 0 0,.slice none 0 0,.slice none 0 0,.slice none 0 0,.slice none 0 0] 41)).heap.size=w.heap.size+1+1:=by simp
 obtain⟨⟨m0,m1,m2,m3,m4⟩,_⟩:=Zae hP0
 have HP0:=Zhd hP0
 have HR0:=Zhd hR0
 have HB0:=Zhd hb0
 have HZ1:=Zhd hz1
 clear hP0 hR0 hb0 hz1
 go_enter Tryz.func11,Tryz.ntmps11
 go_wp2_with fail
 generalize (w.alloc (.cells #[.slice ai p.ins.length ci,.slice ao p.outs.length co,.slice al p.fl.length cl,.slice aa p.as.length ca,.slice ac p.cs.length cc] 41)).alloc (.cells #[.slice none 0 0,.slice none 0 0,.slice none 0 0,.slice none 0 0,.slice none 0 0] 41)=W1 at *
 refine (Zgy H T sp p _ _ _ _ _ HP.out W1 (hH.below HB0.out) (S.below HB0.out) ⟨by omega,by omega,by omega,by omega,by omega⟩ (by omega) hpick).mono ?_
 rintro r w2 ⟨hb2,v2,rfl,he2⟩
 have HE2:=Zhd he2
 have HB2:=Zhd (HB0.out.trans (hb2.mono HB0.out.size))
 have HP2:=Zhd ((hb2.block w.heap.size (by have:=HZ1.out;omega)).trans HP0.out)
 have HR2:=Zhd ((hb2.block (w.heap.size+1) (by have:=HZ1.out;omega)).trans HR0.out)
 clear hb2 he2 HP0 HR0 HB0 HZ1 m0 m1 m2 m3 m4
 have hcase:=errW_nil HE2.out
 rcases hcase with ⟨rfl,hc0⟩ | ⟨hnil,hc1⟩
 case inr=>
  obtain⟨⟨r0,r1,r2,r3,r4⟩,f0,f1,f2,f3,f4⟩:=Zae HR2.out
  have HR3:=Zhd (Zdd HR2.out (.slice none 0 0) (.slice none 0 0) (.slice none 0 0) (.slice none 0 0) (.slice none 0 0))
  have HB3:=Zhd (Zes HB2.out (Nat.le_succ _) (.slice none 0 0) (.slice none 0 0) (.slice none 0 0) (.slice none 0 0) (.slice none 0 0))
  have HNE:=Zhd hc1
  obtain⟨ty,pv,rfl⟩:=hnil
  go_wp2_with (guard_target =~ bodyPost _ _ _ _ _ _;obtain⟨⟨e0,e1,e2,e3,e4⟩,_⟩:=Zae HR3.out;refine bodyPost_ret (v := .tuple #[.agg #[.slice none 0 0,.slice none 0 0,.slice none 0 0,.slice none 0 0,.slice none 0 0],.iface ty (.pointer (some pv))]) (by simp [results,Tryz.results11,go_sem,e0,e1,e2,e3,e4]) rfl ?_;exact⟨HB3.out,.inr ⟨HNE.out,ty,pv,rfl⟩⟩)
 have HC0:=Zhd hc0
 have hck:Zak p=0:=by
  obtain⟨l,ho,_⟩:=Zbx hc0
  exact (Zbe ho).1
 obtain⟨ks,hks,_,hfm,_⟩:=Zbs hck
 have HT:=Zhd (Ze2 hck hks)
 have HFF:=Zhd (show ∀ f∈p.fl,Zad ks f.e=true from fun f hf=>(Ze2 hck hks f.e (by unfold Pr.terms;simp only [List.mem_append,List.mem_map];exact .inl (.inl ⟨f,hf,rfl⟩))).1)
 clear hc0 HE2 hck hks hfm
 obtain⟨⟨m0,m1,m2,m3,m4⟩,_⟩:=Zae HP2.out
 go_wp2_with fail
 refine (names_any H p _ _ _ _ _ HP.out ks HFF.out s2 w2 (hH.below HB2.out)).mono ?_
 rintro r w3 ⟨bm,mm,rfl,hM,hget,hlo,hb3⟩
 have hbA:=hb3.trans ((Below.refl w3.heap.size w3).alloc (Nat.le_refl _) (.cells #[.map (some bm)] 97) |>.mono hb3.size)
 have hbX:=(Below.refl w3.heap.size w3).alloc (Nat.le_refl _) (.cells #[.map (some bm)] 97)
 have HB4:=Zhd (HB2.out.trans (hbA.mono HB2.out.size))
 have HP4:=Zhd ((hbA.block _ (Zlt HP2.out)).trans HP2.out)
 have HR4:=Zhd ((hbA.block _ (Zlt HR2.out)).trans HR2.out)
 have HT5:=Zhd (heap_alloc_new w3 (.cells #[.map (some bm)] 97))
 have HM:=Zhd (hM.below hbX)
 have HLO:=Zhd hlo
 have HGE:=Zhd hget
 obtain⟨⟨m0,m1,m2,m3,m4⟩,_⟩:=Zae HP4.out
 clear hM hget hlo hb3 hbA hbX HP2 HR2 HB2
 go_upto_region 5 with (fail)
 --STOP1
 generalize w3.alloc (.cells #[.map (some bm)] 97)=w4 at *
 generalize w3.heap.size=T5 at *
 have HH:=Zhd (fold_how H T sp ks mm bm HLO.out (Zaa p) HGE.out.symm T5 (Zai w4) (fun w' hw'=>⟨fun b o e=>hw' b o (hH.below HB4.out b o e),(S.below HB4.out).of_kn hw',HM.out.of_kn hw',hw' _ _ HT5.out⟩))
 have HEA:=Zhd (Zj5 _ _ _ _ _ HH.out p _ _ _ _ _ H HP.out ⟨by omega,by omega,by omega,by omega⟩ (fun e he=>⟨(HT.out e he).1,(HT.out e he).2,by have:=Zc3 he;omega⟩) w4 (hH.below HB4.out) (Za8 w4))
 go_wp2_with fail
 --STOP2
 refine HEA.out.mono ?_
 rintro r we ⟨vi',vo',uL,va',vc',xL,K,rfl,hbe,hKe,hlo,hin,hou,hrL,hxL,hnL,hva,hvc,huf⟩
 have hln:(p.fl.map (mapF (Za6 (Zaa p)))).length=p.fl.length:=List.length_map ..
 rw [← hln] at hrL
 obtain⟨K2,hfl,hle,hK2,hfr⟩:=fls_of_own hKe hrL hxL hnL
 obtain⟨a1,c1,rfl⟩:=hin.len
 obtain⟨a2,c2,rfl⟩:=hou.len
 obtain⟨a3,c3,rfl⟩:=hfl.len
 obtain⟨a4,c4,rfl⟩:=hva.len
 obtain⟨a5,c5,rfl⟩:=hvc.len
 rw [hln] at *
 have hRl:=(Zlt HR4.out)
 have hR5:=(hbe.block _ hRl).trans HR4.out
 obtain⟨⟨r0,r1,r2,r3,r4⟩,f0,f1,f2,f3,f4⟩:=Zae hR5
 simp only [List.length_map] at *
 have hno:∀ b,b<w4.heap.size→K2 b=none:=fun b hb=>(hfr b hb).trans (hlo b hb)
 have HR6:=Zhd (Zdd hR5 (.slice a1 p.ins.length c1) (.slice a2 p.outs.length c2) (.slice a3 p.fl.length c3) (.slice a4 p.as.length c4) (.slice a5 p.cs.length c5))
 have HB6:=Zhd (Zes (HB4.out.trans (hbe.mono HB4.out.size)) (Nat.le_succ _) (.slice a1 p.ins.length c1) (.slice a2 p.outs.length c2) (.slice a3 p.fl.length c3) (.slice a4 p.as.length c4) (.slice a5 p.cs.length c5))
 have HK6:=Zhd (in5 hK2 (hno _ hRl) (.slice a1 p.ins.length c1) (.slice a2 p.outs.length c2) (.slice a3 p.fl.length c3) (.slice a4 p.as.length c4) (.slice a5 p.cs.length c5))
 have HNO:=Zhd (show ∀ b,b<w.heap.size→K2 b=none from fun b hb=>hno b (by have:=HB4.out.size;omega))
 have HPP:=Zhd (show PrP K2 (Zcc p) (.slice a1 p.ins.length c1) (.slice a2 p.outs.length c2) (.slice a3 p.fl.length c3) (.slice a4 p.as.length c4) (.slice a5 p.cs.length c5) from⟨SlV.le hin hle VrC.mono,(hou.le hle).1,hfl,hva.le hle,hvc.le hle⟩)
 clear hbe hKe hlo hin hou hrL hxL hnL hva hvc huf hfl hle hK2 hfr hR5 hno hRl hln
 go_wp2_with (guard_target =~ bodyPost _ _ _ _ _ _;obtain⟨⟨e0,e1,e2,e3,e4⟩,_⟩:=Zae HR6.out;refine bodyPost_ret (v := .tuple #[.agg #[.slice a1 p.ins.length c1,.slice a2 p.outs.length c2,.slice a3 p.fl.length c3,.slice a4 p.as.length c4,.slice a5 p.cs.length c5],.nilIface]) (by simp [results,Tryz.results11,go_sem,e0,e1,e2,e3,e4]) rfl ?_;exact⟨HB6.out,.inl ⟨HC0.out,_,_,_,_,_,K2,rfl,HPP.out,HK6.out,HNO.out⟩⟩)
end Go.Proofs.YtofameafdnkijaaGreatDoor
