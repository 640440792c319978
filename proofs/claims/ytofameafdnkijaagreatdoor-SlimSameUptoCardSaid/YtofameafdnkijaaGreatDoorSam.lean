/- Walks: slim.Same. (Printed by gen_sam.py.) -/
import Derived.Test.YtofameafdnkijaaGreatDoorRg
import Derived.Test.YtofameafdnkijaaGreatDoorSmA
import Derived.Test.YtofameafdnkijaaGreatDoorSlI
import Derived.Deep.LoopGhost
import Derived.Laws.EntriesVeiled
set_option linter.all false
namespace Go.Proofs.YtofameafdnkijaaGreatDoor
set_option maxRecDepth 100000
set_option maxHeartbeats 16000000
open Go.RowKit Mx
theorem mSam1 {p:Prop} (h:p:=by
 intro gN capN wN hoN hgN _
 have HSN:=Zhd (HSJ.out.app FX.out (Zfk HI.out.idem f.e.op f.e.s) HX.out hoN hgN)
 clear hoN hgN HSJ hba2 z0 z1 z2 z3 z4 z5
 go_wp2_with fail
 go_roundw
 case rel=>exact⟨q+1,ot,ko++[f],_,by go_num,by omega,HSN.out,HGN.out,(show SgI ot (p.fl.drop (q+1)) (ko++[f]) from by have h:=HI.out;rw [HDR.out] at h;exact h.keep),by rw [HTK.out];exact HSUB.out.append (List.Sublist.refl _)⟩
 simp [intOf];omega):p:=h
def MadePost (p q:Pr) (w:World) (r:Ending) (w':World):Prop:=
 Below w.heap.size w w'∧(((Za0 p).1=0∧∃ vi vo vl va vc K,r = .returned (.tuple #[.agg #[vi,vo,vl,va,vc],.nilIface])∧PrP K q vi vo vl va vc∧K.In w'∧∀ b,b<w.heap.size→K b=none)∨
  (((Za0 p).1≠0∨(Za0 p).2 ≠ -1)∧∃ ty pv,r = .returned (.tuple #[.agg #[.slice none 0 0,.slice none 0 0,.slice none 0 0,.slice none 0 0,.slice none 0 0],.iface ty (.pointer (some pv))])))
theorem same_any (H:Kn) (T:Zbo H) (sp:Nat→Addr) (p:Pr) (vi vo vl va vc:Value) (hp:PrP H p vi vo vl va vc)
  (hsz:p.ins.length≤1000000∧p.fl.length≤1000000∧p.outs.length≤1048576∧p.as.length≤1000000∧p.cs.length≤1000000∧Ex.partsL p.terms≤1000000)
  (hpick:Zak p=0→(∀ j,j<p.graph.length→cyc p.graph j=false)→∀ j,j<p.graph.length→pick p.graph (Zdh p.graph j [])<p.graph.length)
  (w:World) (hH:H.In w) (S:Sen5 w sp):
  Calls Tryz.prog 13 #[.agg #[vi,vo,vl,va,vc]] w fun r w'=>MadePost p (Zdb p) w r w':=by
 have HP:=Zhd hp
 obtain⟨h1,h2,h3,h4,h5⟩:=hp
 obtain⟨ai,ci,rfl⟩:=h1.len
 obtain⟨ao,co,rfl⟩:=h2.len
 obtain⟨al,cl,rfl⟩:=h3.len
 obtain⟨aa,ca,rfl⟩:=h4.len
 obtain⟨ac,cc,rfl⟩:=h5.len
 obtain⟨s1,s2,s3,s4,s5,s6⟩:=hsz
 have H2:=Zhd h2
 have hmm:=@run_makeMap Tryz.prog
 clear h1 h2 h3 h4 h5
 have hP0:((w.alloc (.cells #[.slice ai p.ins.length ci,.slice ao p.outs.length co,.slice al p.fl.length cl,.slice aa p.as.length ca,.slice ac p.cs.length cc] 41)).alloc (.cells #[.slice none 0 0,.slice none 0 0,.slice none 0 0,.slice none 0 0,.slice none 0 0] 41)).heap[w.heap.size]?=some (.cells #[.slice ai p.ins.length ci,.slice ao p.outs.length co,.slice al p.fl.length cl,.slice aa p.as.length ca,.slice ac p.cs.length cc] 41 (0,0)):=by
  rw [Below.heap_alloc _ _ _ (by simp)];exact heap_alloc_new _ _
 have hR0:((w.alloc (.cells #[.slice ai p.ins.length ci,.slice ao p.outs.length co,.slice al p.fl.length cl,.slice aa p.as.length ca,.slice ac p.cs.length cc] 41)).alloc (.cells #[.slice none 0 0,.slice none 0 0,.slice none 0 0,.slice none 0 0,.slice none 0 0] 41)).heap[w.heap.size+1]?=some (.cells #[.slice none 0 0,.slice none 0 0,.slice none 0 0,.slice none 0 0,.slice none 0 0] 41 (0,0)):=by
  rw [show w.heap.size+1=(w.alloc (.cells #[.slice ai p.ins.length ci,.slice ao p.outs.length co,.slice al p.fl.length cl,.slice aa p.as.length ca,.slice ac p.cs.length cc] 41)).heap.size from by simp];exact heap_alloc_new _ _
 have hb0:Below w.heap.size w ((w.alloc (.cells #[.slice ai p.ins.length ci,.slice ao p.outs.length co,.slice al p.fl.length cl,.slice aa p.as.length ca,.slice ac p.cs.length cc] 41)).alloc (.cells #[.slice none 0 0,.slice none 0 0,.slice none 0 0,.slice none 0 0,.slice none 0 0] 41)):=((Below.refl _ _).alloc (Nat.le_refl _) _).alloc (by simp) _
 have hz1:((w.alloc (.cells #[.slice ai p.ins.length ci,.slice ao p.outs.length co,.slice al p.fl.length cl,.slice aa p.as.length ca,.slice ac p.cs.length cc] 41)).alloc (.cells #[.slice none 0 0,.slice none 0 0,.slice none 0 0,.slice none 0 0,.slice none 0 0] 41)).heap.size=w.heap.size+1+1:=by simp
 obtain⟨⟨m0,m1,m2,m3,m4⟩,_⟩:=Zae hP0
 have HP0:=Zhd hP0
 have HR0:=Zhd hR0
 have HB0:=Zhd hb0
 have HZ1:=Zhd hz1
 clear hP0 hR0 hb0 hz1
 go_enter Tryz.func13,Tryz.ntmps13
 go_wp2_with fail
 generalize (w.alloc (.cells #[.slice ai p.ins.length ci,.slice ao p.outs.length co,.slice al p.fl.length cl,.slice aa p.as.length ca,.slice ac p.cs.length cc] 41)).alloc (.cells #[.slice none 0 0,.slice none 0 0,.slice none 0 0,.slice none 0 0,.slice none 0 0] 41)=W1 at *
 refine (Zgy H T sp p _ _ _ _ _ HP.out W1 (hH.below HB0.out) (S.below HB0.out) ⟨by omega,by omega,by omega,by omega,by omega⟩ (by omega) hpick).mono ?_
 rintro r w2 ⟨hb2,v2,rfl,he2⟩
 have HE2:=Zhd he2
 have HB2:=Zhd (HB0.out.trans (hb2.mono HB0.out.size))
 have HP2:=Zhd ((hb2.block w.heap.size (by have:=HZ1.out;omega)).trans HP0.out)
 have HR2:=Zhd ((hb2.block (w.heap.size+1) (by have:=HZ1.out;omega)).trans HR0.out)
 have hs2:w.heap.size+1+1≤w2.heap.size:=by have:=hb2.size;have:=HZ1.out;omega
 clear hb2 he2 HP0 HR0 HB0 HZ1 m0 m1 m2 m3 m4
 have hcase:=errW_nil HE2.out
 rcases hcase with ⟨rfl,hc0⟩ | ⟨hnil,hc1⟩
 case inr=>
  obtain⟨⟨r0,r1,r2,r3,r4⟩,f0,f1,f2,f3,f4⟩:=Zae HR2.out
  have HR3:=Zhd (Zdd HR2.out (.slice none 0 0) (.slice none 0 0) (.slice none 0 0) (.slice none 0 0) (.slice none 0 0))
  have HB3:=Zhd (Zes HB2.out (Nat.le_succ _) (.slice none 0 0) (.slice none 0 0) (.slice none 0 0) (.slice none 0 0) (.slice none 0 0))
  have HNE:=Zhd hc1
  obtain⟨ty,pv,rfl⟩:=hnil
  go_wp2_with fail
  obtain⟨⟨e0,e1,e2,e3,e4⟩,_⟩:=Zae HR3.out
  refine bodyPost_ret (v := .tuple #[.agg #[.slice none 0 0,.slice none 0 0,.slice none 0 0,.slice none 0 0,.slice none 0 0],.iface ty (.pointer (some pv))]) (by simp [results,Tryz.results13,go_sem,e0,e1,e2,e3,e4]) rfl ?_
  exact⟨HB3.out,.inr ⟨HNE.out,ty,pv,rfl⟩⟩
 have HC0:=Zhd hc0
 have hnd0:(p.fl.map (·.name)).Nodup:=by
  obtain⟨l,ho,_⟩:=Zbx hc0
  exact Zct (Zbe ho).1
 clear hc0 HE2
 obtain⟨⟨m0,m1,m2,m3,m4⟩,_⟩:=Zae HP2.out
 have hmp:w.heap.size<w2.heap.size:=by omega
 have hbV:Below w2.heap.size w2 (((w2.alloc (.map #[] 0)).alloc (.cells #[.map (some w2.heap.size)] 111)).alloc (.cells #[.func (.func 49) #[] #[.pointer (some ⟨w2.heap.size+1,0,none⟩),.pointer (some ⟨w2.heap.size+1+1,0,none⟩)]] 101)):=(((Below.refl _ _).alloc (Nat.le_refl _) _).alloc (by simp) _).alloc (by simp;omega) _
 have hF0:(((w2.alloc (.map #[] 0)).alloc (.cells #[.map (some w2.heap.size)] 111)).alloc (.cells #[.func (.func 49) #[] #[.pointer (some ⟨w2.heap.size+1,0,none⟩),.pointer (some ⟨w2.heap.size+1+1,0,none⟩)]] 101)).heap[w2.heap.size+1+1]?=some (.cells #[.func (.func 49) #[] #[.pointer (some ⟨w2.heap.size+1,0,none⟩),.pointer (some ⟨w2.heap.size+1+1,0,none⟩)]] 101 (0,0)):=by
  rw [show w2.heap.size+1+1=((w2.alloc (.map #[] 0)).alloc (.cells #[.map (some w2.heap.size)] 111)).heap.size from by simp];exact heap_alloc_new _ _
 have hT0:(((w2.alloc (.map #[] 0)).alloc (.cells #[.map (some w2.heap.size)] 111)).alloc (.cells #[.func (.func 49) #[] #[.pointer (some ⟨w2.heap.size+1,0,none⟩),.pointer (some ⟨w2.heap.size+1+1,0,none⟩)]] 101)).heap[w2.heap.size+1]?=some (.cells #[.map (some w2.heap.size)] 111 (0,0)):=by
  rw [Below.heap_alloc _ _ _ (by simp),show w2.heap.size+1=(w2.alloc (.map #[] 0)).heap.size from by simp];exact heap_alloc_new _ _
 have hM0:=((Zaw.made Value.string w2).alloc (.cells #[.map (some w2.heap.size)] 111)).alloc (.cells #[.func (.func 49) #[] #[.pointer (some ⟨w2.heap.size+1,0,none⟩),.pointer (some ⟨w2.heap.size+1+1,0,none⟩)]] 101)
 have hzW:(((w2.alloc (.map #[] 0)).alloc (.cells #[.map (some w2.heap.size)] 111)).alloc (.cells #[.func (.func 49) #[] #[.pointer (some ⟨w2.heap.size+1,0,none⟩),.pointer (some ⟨w2.heap.size+1+1,0,none⟩)]] 101)).heap.size=w2.heap.size+1+1+1:=by simp
 obtain⟨⟨m0,m1,m2,m3,m4⟩,_⟩:=Zae ((hbV.block w.heap.size (by omega)).trans HP2.out)
 have HBV:=Zhd (HB2.out.trans (hbV.mono HB2.out.size))
 have HQW:=Zhd ((hbV.block w.heap.size (by omega)).trans HP2.out)
 have HRV:=Zhd ((hbV.block (w.heap.size+1) (by omega)).trans HR2.out)
 have HRI:=Zhd (show RenI Env.none (w2.heap.size+1) w2.heap.size (w2.heap.size+1+1) (((w2.alloc (.map #[] 0)).alloc (.cells #[.map (some w2.heap.size)] 111)).alloc (.cells #[.func (.func 49) #[] #[.pointer (some ⟨w2.heap.size+1,0,none⟩),.pointer (some ⟨w2.heap.size+1+1,0,none⟩)]] 101)) from⟨hT0,hM0,hF0⟩)
 clear hbV hF0 hT0 hM0 HP2 HR2 HB2
 go_wp2_with fail
 generalize ((w2.alloc (.map #[] 0)).alloc (.cells #[.map (some w2.heap.size)] 111)).alloc (.cells #[.func (.func 49) #[] #[.pointer (some ⟨w2.heap.size+1,0,none⟩),.pointer (some ⟨w2.heap.size+1+1,0,none⟩)]] 101)=V0 at *
 generalize w2.heap.size=M5 at *
 refine (Zj5 50 #[] (fun _=>none) id (fun _=>True) (sameId_how _) p _ _ _ _ _ H HP.out ⟨by omega,by omega,by omega,by omega⟩ (fun _ _=>trivial) V0 (hH.below HBV.out) (fun b o e=>by cases e)).mono ?_
 rintro r we ⟨vi',vo',uL,va',vc',xL,K,rfl,hbe,hKe,hlo,hin,hou,hrL,hxL,hnL,hva,hvc,huf⟩
 rw [mapF_id,List.map_id] at hxL
 rw [List.map_id] at hva hvc
 obtain⟨a1,c1,rfl⟩:=hin.len
 obtain⟨a2,c2,rfl⟩:=hou.len
 obtain⟨aL,cL,rfl,hcL,hcL2⟩:=Zau hrL
 obtain⟨a4,c4,rfl⟩:=hva.len
 obtain⟨a5,c5,rfl⟩:=hvc.len
 obtain⟨rsL,hrsL,rfl⟩:=RowF.of hxL
 have hbx:=(Below.refl we.heap.size we).alloc (Nat.le_refl _) (.cells #[.slice a1 p.ins.length c1,.slice a2 p.outs.length c2,.slice aL p.fl.length cL,.slice a4 p.as.length c4,.slice a5 p.cs.length c5] 41)
 have hzX:(we.alloc (.cells #[.slice a1 p.ins.length c1,.slice a2 p.outs.length c2,.slice aL p.fl.length cL,.slice a4 p.as.length c4,.slice a5 p.cs.length c5] 41)).heap.size=we.heap.size+1:=by simp
 have hze:=hbe.size
 have FX:SmF w (M5+1) M5 (M5+1+1) we.heap.size V0.heap.size (we.heap.size+1) K (.slice aL p.fl.length cL):=
  ⟨⟨by omega,by omega,by omega,by omega,by omega,by omega,by omega,by omega,by omega,by omega,by omega,by omega⟩,hlo,fun b hb=>hKe.isNone (by omega),huf,hKe.isNone (Nat.le_refl _),fun b e=>⟨hnL b e,by have:=(hrL.lt b e).2;omega⟩⟩
 have HS0:=Zhd (show SmS w (M5+1) M5 (M5+1+1) we.heap.size V0.heap.size (we.heap.size+1) p.fl.length #[.slice ai p.ins.length ci,.slice ao p.outs.length co,.slice al p.fl.length cl,.slice aa p.as.length ca,.slice ac p.cs.length cc] #[.slice a1 p.ins.length c1,.slice a2 p.outs.length c2,.slice aL p.fl.length cL,.slice a4 p.as.length c4,.slice a5 p.cs.length c5] K (.slice aL p.fl.length cL) (frX rsL) Env.none [] [] (.slice none 0 0) (we.alloc (.cells #[.slice a1 p.ins.length c1,.slice a2 p.outs.length c2,.slice aL p.fl.length cL,.slice a4 p.as.length c4,.slice a5 p.cs.length c5] 41)) from
  ⟨HBV.out.trans ((hbe.trans (hbx.mono hze)).mono HBV.out.size),((hbe.trans (hbx.mono hze)).block _ (by omega)).trans HQW.out,((hbe.trans (hbx.mono hze)).block _ (by omega)).trans HRV.out,heap_alloc_new _ _,HRI.out.frame (K:=fun _=>none) (FrK.of_below (hbe.trans (hbx.mono hze))) ⟨rfl,rfl,rfl⟩,Zao hrL hbx,World.ownsRow_nil _ _ _ _,KnM.of_in (hKe.below hbx),by omega,RowG.nil _ _⟩)
 have HIN:=Zhd (And.intro hin (And.intro hou (And.intro hva hvc)))
 have HRS:=Zhd hrsL
 have hn1:V0.heap.size≤we.heap.size:=hze
 obtain⟨n2,hn2⟩:∃ n2,n2=we.heap.size+1:=⟨_,rfl⟩
 obtain⟨⟨o0,o1,o2,o3,o4⟩,_⟩:=Zae HS0.out.out
 rw [← hn2] at FX HS0
 have FX:=Zhd FX
 clear hbe hKe hlo hin hou hrL hxL hnL hva hvc hbx hrsL huf HBV HQW HRV HRI hze hn2 hzX m0 m1 m2 m3 m4
 go_wp2_with fail
 go_loopw [8,26] (fun uk i wr=>∃ (q:Nat) (ot:Env ByteArray) (ko:List Fl) (rs:List FR),i = .int .i64 q∧q≤p.fl.length∧SmS w (M5+1) M5 (M5+1+1) we.heap.size V0.heap.size n2 p.fl.length #[.slice ai p.ins.length ci,.slice ao p.outs.length co,.slice al p.fl.length cl,.slice aa p.as.length ca,.slice ac p.cs.length cc] #[.slice a1 p.ins.length c1,.slice a2 p.outs.length c2,.slice aL p.fl.length cL,.slice a4 p.as.length c4,.slice a5 p.cs.length c5] K (.slice aL p.fl.length cL) (frX rsL) ot ko rs uk wr∧Zcd p.outs (p.fl.drop q) ot ko=Zcd p.outs p.fl Env.none []∧SgI ot (p.fl.drop q) ko∧ko.Sublist (p.fl.take q)) (fun _ i _=>p.fl.length - (intOf i).toNat)
 case atStart=>exact⟨0,Env.none,[],[],rfl,Nat.zero_le _,HS0.out,rfl,⟨fun s t e=>by simp [Env.none] at e,hnd0,fun _ _=>⟨rfl,by simp⟩,fun s t e=>by simp [Env.none] at e,(fun g hg=>by cases hg),(by simp)⟩,List.nil_sublist _⟩
 clear HS0 o0 o1 o2 o3 o4
 obtain⟨q,ot,ko,rs,rfl,hq,hS,hgo,hI,hsub⟩:=hrel
 have HS:=Zhd hS
 have HGO:=Zhd hgo
 have HI:=Zhd hI
 have HSUB:=Zhd hsub
 obtain⟨ak,ck,rfl,_⟩:=Zau hS.rowK
 have hkl:ko.length≤q:=by have:=hsub.length_le;rw [List.length_take] at this;omega
 clear hS hgo hI hsub
 by_cases hql:q<p.fl.length
 ·obtain⟨g,cap,he,_,_,hgn1,hgwr,hgc⟩:=Zbp HS.out.rowL (by omega)
  simp only [Value.slice.injEq] at he
  obtain⟨rfl,_,rfl⟩:=he
  have hqr:q<rsL.length:=by rw [HRS.out.len];exact hql
  obtain⟨e0,e1,e2,e3,e4,e5,e6⟩:=HRS.out.get q hql hqr
  have hcell:=fun j (hj:j<6) u (h:rsL[q].cells[j]?=some u)=>hgc (q * 6+j) u ((Zgk rsL q hqr j hj).trans h)
  obtain⟨f,hf⟩:∃ f,p.fl[q]=f:=⟨_,rfl⟩
  obtain⟨ax,hax⟩:∃ ax,rsL[q].a=ax:=⟨_,rfl⟩
  obtain⟨cx,hcx⟩:∃ cx,rsL[q].c=cx:=⟨_,rfl⟩
  have d0:wr.cell? ⟨g,q * 6,none⟩=some (.string f.name):=by rw [← hf,← e0];exact hcell 0 (by decide) _ rfl
  have d1:wr.cell? ⟨g,q * 6+1,none⟩=some (.int .i64 f.kind):=by rw [← hf,← e1];exact hcell 1 (by decide) _ rfl
  have d2:wr.cell? ⟨g,q * 6+2,none⟩=some (.string f.e.op):=by rw [← hf,← e2];exact hcell 2 (by decide) _ rfl
  have d3:wr.cell? ⟨g,q * 6+3,none⟩=some (.int .i64 f.e.n):=by rw [← hf,← e3];exact hcell 3 (by decide) _ rfl
  have d4:wr.cell? ⟨g,q * 6+4,none⟩=some (.string f.e.s):=by rw [← hf,← e4];exact hcell 4 (by decide) _ rfl
  have d5:wr.cell? ⟨g,q * 6+5,none⟩=some (.slice ax f.e.l.length cx):=by rw [← hf,← e5,← hax,← hcx];exact hcell 5 (by decide) _ rfl
  have hx:ExsV K f.e.l (.slice ax f.e.l.length cx):=by rw [e5,hax,hcx,hf] at e6;exact e6
  have hpf:f.e.parts≤1000000000000:=by
   have h1:Ex.partsL (p.fl.map (·.e))≤Ex.partsL p.terms:=by unfold Pr.terms;rw [Zbi,Zbi];omega
   have:=Za5 (p.fl.map (·.e)) q (by simpa using hql)
   simp at this
   rw [hf] at this
   omega
  have HDR:=Zhd (show p.fl.drop q=f :: p.fl.drop (q+1) from by rw [List.drop_eq_getElem_cons hql,hf])
  have HTK:=Zhd (show p.fl.take (q+1)=p.fl.take q++[f] from by rw [Zb2 _ _ hql,hf])
  have hba:=(Below.refl wr.heap.size wr).alloc (Nat.le_refl _) (.cells #[.string f.name,.int .i64 f.kind,.string f.e.op,.int .i64 f.e.n,.string f.e.s,.slice ax f.e.l.length cx] 71)
  have HSA:=Zhd (HS.out.later FX.out hba)
  have HFB:=Zhd (heap_alloc_new wr (.cells #[.string f.name,.int .i64 f.kind,.string f.e.op,.int .i64 f.e.n,.string f.e.s,.slice ax f.e.l.length cx] 71))
  obtain⟨⟨z0,z1,z2,z3,z4,z5⟩,_⟩:=Zdl HFB.out
  have tr:(wr.alloc (.cells #[.string f.name,.int .i64 f.kind,.string f.e.op,.int .i64 f.e.n,.string f.e.s,.slice ax f.e.l.length cx] 71)).cell? ⟨M5+1+1,0,none⟩=some (.func (.func 49) #[] #[.pointer (some ⟨M5+1,0,none⟩),.pointer (some ⟨M5+1+1,0,none⟩)]):=by have h:=HSA.out.ren.fn;simp [World.cell?,h]
  have hwn:n2≤wr.heap.size:=HS.out.sz
  have HX:=Zhd hx
  have huT:(Value.slice ak ko.length ck).ownBlock≠some wr.heap.size:=fun e=>by have:=(HS.out.rowK.lt _ e).2;omega
  clear e0 e1 e2 e3 e4 e5 e6 hgc hcell hf hax hcx hx hba
  go_wp2_with fail
  have hKN:∀ b,n2≤b→K b=none:=FX.out.hi
  have hKL:∀ b,b<V0.heap.size→K b=none:=FX.out.low
  have hlw:=FX.out.lows
  generalize hA:wr.alloc (.cells #[.string f.name,.int .i64 f.kind,.string f.e.op,.int .i64 f.e.n,.string f.e.s,.slice ax f.e.l.length cx] 71)=wA at *
  have hTA:wr.heap.size<wA.heap.size:=by rw [← hA];simp
  clear hA
  generalize hT10:wr.heap.size=T10 at *
  refine (ren_any ot HI.out.idem K FX.out.uf V0.heap.size hKL (M5+1) M5 (M5+1+1) ⟨hKL _ (by omega),hKL _ (by omega),hKL _ (by omega)⟩ f.e _ HX.out hpf f.e.s (Zdi.refl ..) wA (by omega) HSA.out.kn HSA.out.ren).mono ?_
  rintro r wB ⟨rfl,hk,hfr,hb,_,ht⟩
  have HSB:=Zhd (HSA.out.ren_ FX.out hk hfr hb)
  have HFB2:=Zhd ((hfr T10 hTA (hKN _ hwn)).trans HFB.out)
  obtain⟨⟨y0,y1,y2,y3,y4,y5⟩,fy2,fy3,fy4,fy5,_⟩:=Zdl HFB2.out
  have HTX:=Zhd ht
  have HFC:=Zhd (set6e HFB2.out (.string f.e.op) (.int .i64 f.e.n) (.string (rnS ot f.e.op f.e.s)) (.slice ax f.e.l.length cx))
  have hbC:Below V0.heap.size wB ((((wB.setCell ⟨T10,2,none⟩ (.string f.e.op)).setCell ⟨T10,3,none⟩ (.int .i64 f.e.n)).setCell ⟨T10,4,none⟩ (.string (rnS ot f.e.op f.e.s))).setCell ⟨T10,5,none⟩ (.slice ax f.e.l.length cx)):=((((Below.refl _ wB).setCell (p:=⟨T10,2,none⟩) (by show V0.heap.size≤T10;omega) _).setCell (p:=⟨T10,3,none⟩) (by show V0.heap.size≤T10;omega) _).setCell (p:=⟨T10,4,none⟩) (by show V0.heap.size≤T10;omega) _).setCell (p:=⟨T10,5,none⟩) (by show V0.heap.size≤T10;omega) _
  have hfC:∀ b,b≠T10→((((wB.setCell ⟨T10,2,none⟩ (.string f.e.op)).setCell ⟨T10,3,none⟩ (.int .i64 f.e.n)).setCell ⟨T10,4,none⟩ (.string (rnS ot f.e.op f.e.s))).setCell ⟨T10,5,none⟩ (.slice ax f.e.l.length cx)).heap[b]?=wB.heap[b]?:=fun b hb=>by
   rw [Below.heap_setCell _ ⟨T10,5,none⟩ _ b hb,Below.heap_setCell _ ⟨T10,4,none⟩ _ b hb,Below.heap_setCell _ ⟨T10,3,none⟩ _ b hb,Below.heap_setCell _ ⟨T10,2,none⟩ _ b hb]
  have HSC:=Zhd (HSB.out.past FX.out hwn huT hbC hfC)
  have HTC:=Zhd (TrX.mono (FxM.of_heap fun b hb=>hfC b fun e=>hb (by rw [e];exact hKN _ hwn)) HTX.out)
  clear hk hfr hb ht hbC hfC HSA HFB tr z0 z1 z2 z3 z4 z5 d0 d1 d2 d3 d4 d5
  go_wp2_with fail
  generalize (((wB.setCell ⟨T10,2,none⟩ (.string f.e.op)).setCell ⟨T10,3,none⟩ (.int .i64 f.e.n)).setCell ⟨T10,4,none⟩ (.string (rnS ot f.e.op f.e.s))).setCell ⟨T10,5,none⟩ (.slice ax f.e.l.length cx)=wC at *
  have hTC:T10<wC.heap.size:=(Zlt HFC.out)
  clear HSB HFB2 HTX y0 y1 y2 y3 y4 y5 fy2 fy3 fy4 fy5
  go_loopw [37] (fun i wr=>∃ (m:Nat) (rs':List FR),i = .int .i64 m∧m≤ko.length∧SmS w (M5+1) M5 (M5+1+1) we.heap.size V0.heap.size n2 p.fl.length #[.slice ai p.ins.length ci,.slice ao p.outs.length co,.slice al p.fl.length cl,.slice aa p.as.length ca,.slice ac p.cs.length cc] #[.slice a1 p.ins.length c1,.slice a2 p.outs.length c2,.slice (some ⟨g,0,none⟩) p.fl.length cL,.slice a4 p.as.length c4,.slice a5 p.cs.length c5] K (.slice (some ⟨g,0,none⟩) p.fl.length cL) (frX rsL) ot ko rs' (Value.slice ak ko.length ck) wr∧DnK ot K ko rs' wr m∧TrX ot K wr f.e.l (.slice ax f.e.l.length cx)∧wr.heap[T10]?=some (.cells #[.string f.name,.int .i64 f.kind,.string f.e.op,.int .i64 f.e.n,.string (rnS ot f.e.op f.e.s),.slice ax f.e.l.length cx] 71 (0,0))) (fun i _=>ko.length - (intOf i).toNat)
  case atStart=>exact⟨0,rs,rfl,Nat.zero_le _,HSC.out,fun m _ _ h=>absurd h (Nat.not_lt_zero m),HTC.out,HFC.out⟩
  clear HSC HTC HFC
  obtain⟨m,rs',rfl,hm,hS,hD,hT,hF⟩:=hrel
  have HT:=Zhd hT
  have HF:=Zhd hF
  have HS':=Zhd hS
  have HD:=Zhd hD
  have hKl:rs'.length=ko.length:=hS.rg.1
  clear hS hD hT hF
  by_cases hmk:m<ko.length
  ·obtain⟨g2,cap2,he,_,_,hgn2,hgw2,hgc2⟩:=Zbp HS'.out.rowK (by omega)
   simp only [Value.slice.injEq] at he
   obtain⟨rfl,_,rfl⟩:=he
   have hmr:m<rs'.length:=by omega
   obtain⟨e0,e1,e2,e3,e4,e5,e6⟩:=HS'.out.rg.2 m hmk hmr
   have hcell:=fun j (hj:j<6) u (h:rs'[m].cells[j]?=some u)=>hgc2 (m * 6+j) u ((Zgk rs' m hmr j hj).trans h)
   obtain⟨x,hxe⟩:∃ x,ko[m].e=x:=⟨_,rfl⟩
   obtain⟨ra,hra⟩:∃ ra,rs'[m].a=ra:=⟨_,rfl⟩
   obtain⟨rc,hrc⟩:∃ rc,rs'[m].c=rc:=⟨_,rfl⟩
   obtain⟨s0,hs0⟩:∃ s0,rs'[m].s=s0:=⟨_,rfl⟩
   rw [hxe] at e2 e3 e4 e5 e6
   rw [hs0] at e4
   rw [e5,hra,hrc] at e6
   have d2:wr.cell? ⟨g2,m * 6+2,none⟩=some (.string x.op):=by rw [← e2];exact hcell 2 (by decide) _ rfl
   have d3:wr.cell? ⟨g2,m * 6+3,none⟩=some (.int .i64 x.n):=by rw [← e3];exact hcell 3 (by decide) _ rfl
   have d4:wr.cell? ⟨g2,m * 6+4,none⟩=some (.string s0):=by rw [← hs0];exact hcell 4 (by decide) _ rfl
   have d5:wr.cell? ⟨g2,m * 6+5,none⟩=some (.slice ra x.l.length rc):=by rw [← e5,← hra,← hrc];exact hcell 5 (by decide) _ rfl
   have tr:wr.cell? ⟨M5+1+1,0,none⟩=some (.func (.func 49) #[] #[.pointer (some ⟨M5+1,0,none⟩),.pointer (some ⟨M5+1+1,0,none⟩)]):=by have h:=HS'.out.ren.fn;simp [World.cell?,h]
   have hpx:x.parts≤1000000000000:=by
    have h1:Ex.partsL (p.fl.map (·.e))≤Ex.partsL p.terms:=by unfold Pr.terms;rw [Zbi,Zbi];omega
    have h2:ko[m]∈p.fl:=(List.take_subset q p.fl) (HSUB.out.subset (List.getElem_mem hmk))
    have h3:=Zc3 (List.mem_map.2 ⟨ko[m],h2,rfl⟩:ko[m].e∈p.fl.map (·.e))
    rw [hxe] at h3
    omega
   have HXE:=Zhd (And.intro hxe (And.intro hra (And.intro hrc hs0)))
   have HG:=Zhd (And.intro e4 e6)
   have HD2:=Zhd (And.intro d2 (And.intro d3 (And.intro d4 d5)))
   have HSD:=Zhd (HS'.out.later FX.out (w':=wr.drew) (Below.refl _ _).drew)
   have HC:=Zhd (ren_any ot HI.out.idem K FX.out.uf V0.heap.size hKL (M5+1) M5 (M5+1+1) ⟨hKL _ (by omega),hKL _ (by omega),hKL _ (by omega)⟩ x _ HG.out.2 hpx s0 HG.out.1 wr.drew (by have:=HS'.out.sz;show V0.heap.size≤wr.heap.size;omega) HSD.out.kn HSD.out.ren)
   clear e0 e1 e2 e3 e4 e5 e6 hxe hra hrc hs0 hcell hgc2
   go_wp2_with fail
   have hgT:T10≠g2:=fun e=>huT (by rw [e];rfl)
   go_region_law ((go_simp;go_at_call 49;refine HC.out.mono ?_;rintro r wc ⟨rfl,hk3,hf3,hb3,hm3,ht3⟩;have hgK:=HSD.out.ren_ FX.out hk3 hf3 hb3;have hdd:=(HD.out.mono (FxM.of_heap (w:=wr) (w':=wr.drew) fun _ _=>rfl)).mono hm3;have hfx:=(TrX.mono (FxM.of_heap (w:=wr) (w':=wr.drew) fun _ _=>rfl) HT.out).mono hm3;have hbf:=(hf3 T10 (Zlt HF.out) (hKN _ hwn)).trans HF.out;obtain⟨f1,f2,f3⟩:=hgK.strX FX.out HI.out.idem hmk HXE.out.1 (fun _=>HXE.out.2.1) (fun _=>HXE.out.2.2.1) hdd ht3;have hcl:=hgK.cells4 hmk HXE.out.1 (fun _=>HXE.out.2.1) (fun _=>HXE.out.2.2.1);obtain⟨⟨s4,e0,e1,e2,e3⟩,hz0,hz1,hz2,hz3⟩:=hcl))
   all_goals go_wp2_with fail
   all_goals go_roundw
   all_goals first | (simp [intOf];omega) | exact⟨m+1,_,by go_num,by omega,f1,f3,hfx.mono f2,(far4 hgT _ _ _ _).trans hbf⟩
  obtain rfl:m=ko.length:=by omega
  have HEX:=Zhd (show ExV (newU V0.heap.size wr) (renE ot f.e) (.agg #[.string f.e.op,.int .i64 f.e.n,.string (rnS ot f.e.op f.e.s),.slice ax f.e.l.length cx]) from
   ⟨_,by rw [renE_op,renE_n,renE_s],by rw [renE_l];exact exsX_of HS'.out.kn FX.out.uf FX.out.low HX.out HT.out⟩)
  have hpf2:(renE ot f.e).parts≤1000000000000:=by rw [ren_parts];exact hpf
  have hfind:=HS'.out.find FX.out HI.out.kn HD.out HX.out HT.out hpf (by omega) HF.out
  clear HD HT
  go_wp2_with fail
  refine hfind.mono ?_
  rintro r wt ⟨hbt,hcs⟩
  have HST:=Zhd (HS'.out.later FX.out hbt)
  have H71:=Zhd ((hbt.block T10 (Zlt HF.out)).trans HF.out)
  have HKT:=Zhd ((Zhv V0.heap.size wr).below hbt)
  clear hbt hfind HS' HF
  rcases hcs with ⟨rfl,hfn⟩ | ⟨kk,hkk,rfl,hfn⟩
  ·have HGN:=Zhd (show Zcd p.outs (p.fl.drop (q+1)) ot (ko++[f])=Zcd p.outs p.fl Env.none [] from by have h:=HGO.out;rw [HDR.out,same2_none hfn] at h;exact h)
   clear hfn
   obtain⟨wv,hwv⟩:∃ wv,wv=wt:=⟨_,rfl⟩
   subst hwv
   have HSV:=HST
   have HFV:=H71
   have hba2:=(Below.refl wv.heap.size wv).alloc (Nat.le_refl _) (.cells #[.string f.name,.int .i64 f.kind,.string f.e.op,.int .i64 f.e.n,.string (rnS ot f.e.op f.e.s),.slice ax f.e.l.length cx] 71)
   have HSJ:=Zhd (HSV.out.later FX.out hba2)
   obtain⟨⟨z0,z1,z2,z3,z4,z5⟩,_⟩:=Zdl HFV.out
   have hkb:((Value.slice ak ko.length ck)).ownBlock≠some wv.heap.size:=fun e=>by have:=(HSV.out.rowK.lt _ e).2;omega
   go_wp2_with (at_builtin;refine Zi9 38 71 6 88 _ Tryz.underlying38 Tryz.infoFlow rfl (by decide) _ _ rfl rfl n2 _ _ _ rfl HSJ.out.rowK ⟨wv.heap.size,0,none⟩ 1 [.string f.name,.int .i64 f.kind,.string f.e.op,.int .i64 f.e.n,.string (rnS ot f.e.op f.e.s),.slice ax f.e.l.length cx] rfl rfl ?c11 ?c12 ?c13 ?c14 ?c15 ?_)
   case c11=>exact cells6 _ _ _ _ _ _ _ _
   case c12=>simp [Value.oneCell']
   case c13=>omega
   case c14=>omega
   case c15=>exact HSJ.out.sz
   exact mSam1
  obtain⟨⟨z0,z1,z2,z3,z4,z5⟩,_⟩:=Zdl H71.out
  obtain⟨⟨m0,m1,m2,m3,m4⟩,_⟩:=Zae HST.out.pbox
  go_wp2_with fail
  refine (Zf0 (renE ot f.e) hpf2 _ _ HEX.out wt HKT.out).mono ?_
  rintro r wu ⟨rfl,hbu⟩
  have HSU:=Zhd (HST.out.later FX.out hbu)
  have HFU:=Zhd ((hbu.block T10 (Zlt H71.out)).trans H71.out)
  clear hbu HST H71 HKT z0 z1 z2 z3 z4 z5 m0 m1 m2 m3 m4
  cases hdv:Zax (renE ot f.e)
  case true=>
   have HGN:=Zhd (show Zcd p.outs (p.fl.drop (q+1)) ot (ko++[f])=Zcd p.outs p.fl Env.none [] from by have h:=HGO.out;rw [HDR.out,same2_keep hfn (by rw [hdv];simp)] at h;exact h)
   clear hfn
   obtain⟨wv,hwv⟩:∃ wv,wv=wu:=⟨_,rfl⟩
   subst hwv
   have HSV:=HSU
   have HFV:=HFU
   have hba2:=(Below.refl wv.heap.size wv).alloc (Nat.le_refl _) (.cells #[.string f.name,.int .i64 f.kind,.string f.e.op,.int .i64 f.e.n,.string (rnS ot f.e.op f.e.s),.slice ax f.e.l.length cx] 71)
   have HSJ:=Zhd (HSV.out.later FX.out hba2)
   obtain⟨⟨z0,z1,z2,z3,z4,z5⟩,_⟩:=Zdl HFV.out
   have hkb:((Value.slice ak ko.length ck)).ownBlock≠some wv.heap.size:=fun e=>by have:=(HSV.out.rowK.lt _ e).2;omega
   go_wp2_with (at_builtin;refine Zi9 38 71 6 88 _ Tryz.underlying38 Tryz.infoFlow rfl (by decide) _ _ rfl rfl n2 _ _ _ rfl HSJ.out.rowK ⟨wv.heap.size,0,none⟩ 1 [.string f.name,.int .i64 f.kind,.string f.e.op,.int .i64 f.e.n,.string (rnS ot f.e.op f.e.s),.slice ax f.e.l.length cx] rfl rfl ?c21 ?c22 ?c23 ?c24 ?c25 ?_)
   case c21=>exact cells6 _ _ _ _ _ _ _ _
   case c22=>simp [Value.oneCell']
   case c23=>omega
   case c24=>omega
   case c25=>exact HSJ.out.sz
   exact mSam1
  obtain⟨⟨z0,z1,z2,z3,z4,z5⟩,_⟩:=Zdl HFU.out
  obtain⟨⟨m0,m1,m2,m3,m4⟩,_⟩:=Zae HSU.out.pbox
  go_wp2_with fail
  refine (Zil H _ _ f.name wu H2.out (hH.below HSU.out.below)).mono ?_
  rintro r wu' ⟨rfl,rfl⟩
  cases hct:p.outs.contains f.name
  case true=>
   have HGN:=Zhd (show Zcd p.outs (p.fl.drop (q+1)) ot (ko++[f])=Zcd p.outs p.fl Env.none [] from by have h:=HGO.out;rw [HDR.out,same2_keep hfn (fun hc=>hc.2 (by simpa using hct))] at h;exact h)
   clear hfn z0 z1 z2 z3 z4 z5 m0 m1 m2 m3 m4
   obtain⟨wv,hwv⟩:∃ wv,wv=wu:=⟨_,rfl⟩
   subst hwv
   have HSV:=HSU
   have HFV:=HFU
   have hba2:=(Below.refl wv.heap.size wv).alloc (Nat.le_refl _) (.cells #[.string f.name,.int .i64 f.kind,.string f.e.op,.int .i64 f.e.n,.string (rnS ot f.e.op f.e.s),.slice ax f.e.l.length cx] 71)
   have HSJ:=Zhd (HSV.out.later FX.out hba2)
   obtain⟨⟨z0,z1,z2,z3,z4,z5⟩,_⟩:=Zdl HFV.out
   have hkb:((Value.slice ak ko.length ck)).ownBlock≠some wv.heap.size:=fun e=>by have:=(HSV.out.rowK.lt _ e).2;omega
   go_wp2_with (at_builtin;refine Zi9 38 71 6 88 _ Tryz.underlying38 Tryz.infoFlow rfl (by decide) _ _ rfl rfl n2 _ _ _ rfl HSJ.out.rowK ⟨wv.heap.size,0,none⟩ 1 [.string f.name,.int .i64 f.kind,.string f.e.op,.int .i64 f.e.n,.string (rnS ot f.e.op f.e.s),.slice ax f.e.l.length cx] rfl rfl ?c31 ?c32 ?c33 ?c34 ?c35 ?_)
   case c31=>exact cells6 _ _ _ _ _ _ _ _
   case c32=>simp [Value.oneCell']
   case c33=>omega
   case c34=>omega
   case c35=>exact HSJ.out.sz
   exact mSam1
  have HGN:=Zhd (show Zcd p.outs (p.fl.drop (q+1)) (ot.set f.name ko[kk].name) ko=Zcd p.outs p.fl Env.none [] from by have h:=HGO.out;rw [HDR.out,same2_turn hfn hdv (fun hc=>by rw [List.contains_iff_mem.2 hc] at hct;cases hct)] at h;exact h)
  have HFN:=Zhd (List.mem_of_find?_eq_some hfn)
  clear hfn m0 m1 m2 m3 m4
  obtain⟨g2,cap2,he,_,_,hgn2,hgw2,hgc2⟩:=Zbp HSU.out.rowK (by omega)
  simp only [Value.slice.injEq] at he
  obtain⟨rfl,_,rfl⟩:=he
  have hkr:kk<rs'.length:=by omega
  obtain⟨e0,_⟩:=HSU.out.rg.2 kk hkk hkr
  have d0:wu.cell? ⟨g2,kk * 6,none⟩=some (.string ko[kk].name):=by rw [← e0];exact hgc2 (kk * 6+0) _ ((Zgk rs' kk hkr 0 (by decide)).trans rfl)
  have mo0:wu.cell? ⟨M5+1,0,none⟩=some (.map (some M5)):=by have h:=HSU.out.ren.box;simp [World.cell?,h]
  obtain⟨hfr1,hfr2⟩:=(show SgI ot (f :: p.fl.drop (q+1)) ko from by have h:=HI.out;rw [HDR.out] at h;exact h).fresh
  have HSD2:=Zhd (HSU.out.later FX.out (w':=wu.drew) (Below.refl _ _).drew)
  obtain⟨ob,hrun,hM'⟩:=HSD2.out.ren.map.run_set (P:=Tryz.prog) Tryz.underlying111 Tryz.underlying9 f.name ko[kk].name
  have HST2:=Zhd (HSD2.out.turn FX.out ⟨ob,rfl⟩ hM' hfr1 hfr2)
  have HI2:=Zhd (show SgI (ot.set f.name ko[kk].name) (p.fl.drop (q+1)) ko from by have h:=HI.out;rw [HDR.out] at h;exact h.set HFN.out)
  generalize ko[kk].name=kn at *
  have hkq:(kk:Int)<(ko.length:Int):=by omega
  clear e0 hgc2 hM' hfr1 hfr2 HFN
  go_wp2_with fail
  go_region_law (fail)
  all_goals go_wp2_with fail
  all_goals go_roundw
  all_goals first | (simp [intOf];omega) | exact⟨q+1,_,ko,rs',by go_num,by omega,HST2.out,HGN.out,HI2.out,by rw [HTK.out];exact HSUB.out.trans (List.sublist_append_left _ _)⟩
 obtain rfl:q=p.fl.length:=by omega
 have hgo:=HGO.out
 have hI:=HI.out
 rw [List.drop_of_length_le (Nat.le_refl _)] at hgo hI
 have hgo:(ot,ko)=Zcd p.outs p.fl Env.none []:=hgo
 obtain⟨hsm,_⟩:=same_is2 (p:=p) hnd0
 rw [← hgo] at hsm
 dsimp only at hsm
 obtain⟨kf,as1,cs,hpr,hkf,has,hcs⟩:=HS.out.now FX.out HIN.out.1 HIN.out.2.1 HIN.out.2.2.1 HIN.out.2.2.2
 have hlk:kf.length=ko.length:=by simpa using congrArg List.length hkf
 have hla:as1.length=p.as.length:=by simpa using congrArg List.length has
 have hlc:cs.length=p.cs.length:=by simpa using congrArg List.length hcs
 have hpt:Ex.partsL (⟨p.ins,p.outs,kf,as1,cs⟩:Pr).terms≤1000000:=by
  have g1:Ex.partsL (kf.map (·.e))=Ex.partsL (ko.map (·.e)):=Zhs (ot:=ot) (by
   have:=congrArg (List.map (·.e)) hkf
   rw [List.map_map,List.map_map] at this
   rw [List.map_map,List.map_map]
   exact this)
  have g2:=Ze5 ((HSUB.out.trans (List.take_sublist _ _)).map (·.e))
  have g3:Ex.partsL p.terms=Ex.partsL (p.fl.map (·.e))+Ex.partsL p.as+Ex.partsL p.cs:=by unfold Pr.terms;rw [Zbi,Zbi]
  unfold Pr.terms
  rw [Zbi,Zbi,Zhs has,Zhs hcs]
  dsimp only
  omega
 have hbx:=HS.out.out
 obtain⟨⟨o0,o1,o2,o3,o4⟩,fo0,fo1,fo2,fo3,fo4⟩:=Zae hbx
 have hlw:=FX.out.lows
 have hbC:Below w.heap.size w (wr.setCell ⟨we.heap.size,2,none⟩ ((Value.slice ak ko.length ck))):=HS.out.below.setCell (p:=⟨we.heap.size,2,none⟩) (by show w.heap.size≤we.heap.size;omega) _
 have hRI:=HS.out.ren
 have hRC:RenI ot (M5+1) M5 (M5+1+1) (wr.setCell ⟨we.heap.size,2,none⟩ ((Value.slice ak ko.length ck))):=⟨(Below.heap_setCell wr ⟨we.heap.size,2,none⟩ ((Value.slice ak ko.length ck)) (M5+1) (by show M5+1≠we.heap.size;omega)).trans hRI.box,hRI.map.of_block (Below.heap_setCell wr ⟨we.heap.size,2,none⟩ ((Value.slice ak ko.length ck)) M5 (by show M5≠we.heap.size;omega)),(Below.heap_setCell wr ⟨we.heap.size,2,none⟩ ((Value.slice ak ko.length ck)) (M5+1+1) (by show M5+1+1≠we.heap.size;omega)).trans hRI.fn⟩
 have HRS9:=Zhd ((Below.heap_setCell wr ⟨we.heap.size,2,none⟩ ((Value.slice ak ko.length ck)) (w.heap.size+1) (by show w.heap.size+1≠we.heap.size;omega)).trans HS.out.res)
 obtain⟨⟨k0,k1,k2,k3,k4⟩,_⟩:=Zae (show (wr.setCell ⟨we.heap.size,2,none⟩ ((Value.slice ak ko.length ck))).heap[we.heap.size]?=some (.cells #[.slice a1 p.ins.length c1,.slice a2 p.outs.length c2,(Value.slice ak ko.length ck),.slice a4 p.as.length c4,.slice a5 p.cs.length c5] 41 (0,0)) from Zab wr we.heap.size 2 ((Value.slice ak ko.length ck)) _ _ _ hbx)
 have tr:(wr.setCell ⟨we.heap.size,2,none⟩ ((Value.slice ak ko.length ck))).cell? ⟨M5+1+1,0,none⟩=some (.func (.func 49) #[] #[.pointer (some ⟨M5+1,0,none⟩),.pointer (some ⟨M5+1+1,0,none⟩)]):=by have h:=hRC.fn;simp [World.cell?,h]
 have HPR:=Zhd hpr
 have HBC:=Zhd hbC
 have HRC:=Zhd hRC
 have HSM:=Zhd hsm
 have HI9:=Zhd hI.idem
 have hRlt:w.heap.size+1<wr.heap.size:=(Zlt HS.out.res)
 clear hpr hbC hRC hRI hsm hI hbx hgo HGO HI HS
 go_wp2_with fail
 have hzC:(wr.setCell ⟨we.heap.size,2,none⟩ ((Value.slice ak ko.length ck))).heap.size=wr.heap.size:=by simp [World.setCell]
 generalize wr.setCell ⟨we.heap.size,2,none⟩ ((Value.slice ak ko.length ck))=wC at *
 refine (Zj5 49 #[.pointer (some ⟨M5+1,0,none⟩),.pointer (some ⟨M5+1+1,0,none⟩)] (renKn (M5+1) M5 (M5+1+1) wC) (renE ot) _ (ren_howIn ot HI9.out (M5+1) M5 (M5+1+1) wC HRC.out) ⟨p.ins,p.outs,kf,as1,cs⟩ _ _ _ _ _ (newU V0.heap.size wC) HPR.out ⟨by show p.ins.length≤_;omega,by show p.outs.length≤_;omega,by show kf.length≤_;omega,by omega⟩ (fun e he=>by have:=Zc3 he;omega) wC (Zhv _ _) (renKn_in _ _ _ _)).mono ?_
 rintro r wd ⟨vi2,vo2,uL2,va2,vc2,xL2,K2,rfl,hbe,hKe,hlo,hin,⟨hou,_⟩,hrL,hxL,hnL,hva,hvc,huf⟩
 dsimp only at hin hou hrL hxL hva hvc
 rw [has] at hva
 rw [hcs] at hvc
 have hmf:kf.map (mapF (renE ot))=ko.map (renF ot):=hkf
 rw [hmf] at hxL
 have hll:kf.length=(ko.map (renF ot)).length:=by rw [hlk,List.length_map]
 rw [hll] at hrL
 obtain⟨K3,hF3,hle3,hin3,hfr3⟩:=fls_of_own hKe hrL hxL hnL
 obtain⟨b1,e1,rfl⟩:=hin.len
 obtain⟨b2,e2,rfl⟩:=hou.len
 obtain⟨b3,e3,rfl⟩:=hF3.len
 obtain⟨b4,e4,rfl⟩:=hva.len
 obtain⟨b5,e5,rfl⟩:=hvc.len
 have HPQ:=Zhd (show PrP K3 (Zdb p) (.slice b1 p.ins.length e1) (.slice b2 p.outs.length e2) (.slice b3 (ko.map (renF ot)).length e3) (.slice b4 (p.as.map (renE ot)).length e4) (.slice b5 (p.cs.map (renE ot)).length e5) from by
  rw [HSM.out]
  exact⟨SlV.le hin hle3 VrC.mono,SlV.le hou hle3 StrC.mono,hF3,hva.le hle3,hvc.le hle3⟩)
 have hbr:=(hbe.block (w.heap.size+1) (by omega)).trans HRS9.out
 obtain⟨⟨r0,r1,r2,r3,r4⟩,f0,f1,f2,f3,f4⟩:=Zae hbr
 have hKR:K3 (w.heap.size+1)=none:=(hfr3 _ (by omega)).trans (hlo _ (by omega))
 have HR9:=Zhd (Zdd hbr (.slice b1 p.ins.length e1) (.slice b2 p.outs.length e2) (.slice b3 (ko.map (renF ot)).length e3) (.slice b4 (p.as.map (renE ot)).length e4) (.slice b5 (p.cs.map (renE ot)).length e5))
 have HIN9:=Zhd (in5 hin3 hKR (.slice b1 p.ins.length e1) (.slice b2 p.outs.length e2) (.slice b3 (ko.map (renF ot)).length e3) (.slice b4 (p.as.map (renE ot)).length e4) (.slice b5 (p.cs.map (renE ot)).length e5))
 have HB9:=Zhd (Zes (HBC.out.trans (hbe.mono HBC.out.size)) (Nat.le_succ w.heap.size) (.slice b1 p.ins.length e1) (.slice b2 p.outs.length e2) (.slice b3 (ko.map (renF ot)).length e3) (.slice b4 (p.as.map (renE ot)).length e4) (.slice b5 (p.cs.map (renE ot)).length e5))
 have HLF:=Zhd (show ∀ b,b<w.heap.size→K3 b=none from fun b hb=>(hfr3 b (by omega)).trans (hlo b (by omega)))
 generalize (ko.map (renF ot)).length=nF at *
 generalize (p.as.map (renE ot)).length=nA at *
 generalize (p.cs.map (renE ot)).length=nC at *
 clear hF3 hle3 hin3 hfr3 hbr hKR hxL hrL hnL hva hvc hin hou hKe hlo hbe huf
 go_wp2_with fail
 obtain⟨⟨e0',e1',e2',e3',e4'⟩,_⟩:=Zae HR9.out
 refine bodyPost_ret (v := .tuple #[.agg #[.slice b1 p.ins.length e1,.slice b2 p.outs.length e2,.slice b3 nF e3,.slice b4 nA e4,.slice b5 nC e5],.nilIface]) (by simp [results,Tryz.results13,go_sem,e0',e1',e2',e3',e4']) rfl ?_
 exact⟨HB9.out,.inl ⟨HC0.out,_,_,_,_,_,K3,rfl,HPQ.out,HIN9.out,HLF.out⟩⟩
end Go.Proofs.YtofameafdnkijaaGreatDoor
