/- Walks: slim.Drop. (Printed by gen_sli.py.) -/
import Derived.Test.YtofameafdnkijaaGreatDoorRg
import Derived.Test.YtofameafdnkijaaGreatDoorSlG
import Derived.Test.YtofameafdnkijaaGreatDoorOck
import Derived.Deep.LoopGhost
import Derived.Test.YtofameafdnkijaaGreatDoorOiP
set_option linter.all false
namespace Go.Proofs.YtofameafdnkijaaGreatDoor
set_option maxRecDepth 100000
set_option maxHeartbeats 16000000
open Go.RowKit Mx
theorem errW_nil {sp:Nat→Addr} {w:World} {c:Nat} {a:Int} {v:Value} (h:ErrW sp w c a v):(v = .nilIface∧c=0)∨((∃ ty pv,v = .iface ty (.pointer (some pv)))∧(c≠0∨a ≠ -1)):=by
 rcases h with ⟨ha,rfl⟩ | ⟨ha,N,rfl,_⟩
 ·cases c with
  | zero=>exact .inl ⟨rfl,rfl⟩
  | succ c=>exact .inr ⟨⟨_,_,rfl⟩,.inl (by omega)⟩
 exact .inr ⟨⟨_,_,rfl⟩,.inr ha⟩
theorem mapF_id:mapF id=(id:Fl→Fl):=rfl
def DropPost (p:Pr) (w:World) (r:Ending) (w':World):Prop:=
 Below w.heap.size w w'∧(((Za0 p).1=0∧∃ vi vo vl va vc K,r = .returned (.tuple #[.agg #[vi,vo,vl,va,vc],.nilIface])∧PrP K (Zb8 p) vi vo vl va vc∧K.In w'∧∀ b,b<w.heap.size→K b=none)∨
  (((Za0 p).1≠0∨(Za0 p).2 ≠ -1)∧∃ ty pv,r = .returned (.tuple #[.agg #[.slice none 0 0,.slice none 0 0,.slice none 0 0,.slice none 0 0,.slice none 0 0],.iface ty (.pointer (some pv))])))
theorem TdI.rebase {w0 u:World} {T base:Nat} {acc:List ByteArray} (h:TdI w0 u T base acc):TdI u u T base acc:=⟨Below.refl _ _,h.tlt,h.box⟩
theorem todoA_seerK (K:Kn) (w0:World) (T base:Nat) (hK:K.In w0) (hs:∀ b o,K b=some o→b<base∨∃ c fr,o = .cells c 69 fr):SeerN 44 #[.pointer (some ⟨T,0,none⟩)] K (fun acc u=>TdI w0 u T base acc∧FrE w0 u):=
 ⟨fun _ _=>by kernel_rfl,fun _ _ _ h hb=>⟨h.1.next hb,h.2.trans (FrE.of_below hb)⟩,fun _ u h b o e=>(hs b o e).elim (fun h1=>(h.1.below.block b h1).trans (hK b o e)) (fun⟨c,fr,h1⟩=>by have h2:=hK b o e;rw [h1] at h2 ⊢;exact h.2 b c fr h2),fun acc w s hn h=>(todoA_any w0 T base acc s w hn h.1).mono fun _ _ ⟨h1,h2,h3⟩=>⟨h1,⟨h2,h.2.trans h3⟩,h3⟩⟩
theorem todoB_seerK (K:Kn) (w0:World) (T base:Nat) (hK:K.In w0) (hs:∀ b o,K b=some o→b<base∨∃ c fr,o = .cells c 69 fr):SeerN 45 #[.pointer (some ⟨T,0,none⟩)] K (fun acc u=>TdI w0 u T base acc∧FrE w0 u):=
 ⟨fun _ _=>by kernel_rfl,fun _ _ _ h hb=>⟨h.1.next hb,h.2.trans (FrE.of_below hb)⟩,fun _ u h b o e=>(hs b o e).elim (fun h1=>(h.1.below.block b h1).trans (hK b o e)) (fun⟨c,fr,h1⟩=>by have h2:=hK b o e;rw [h1] at h2 ⊢;exact h.2 b c fr h2),fun acc w s hn h=>(todoB_any w0 T base acc s w hn h.1).mono fun _ _ ⟨h1,h2,h3⟩=>⟨h1,⟨h2,h.2.trans h3⟩,h3⟩⟩
theorem exsV_row {K:Kn} {w:World} {base:Nat} {v:Value} {l:List Ex} {xs:List Value} (hK:K.In w) (h:w.ownsRow base 69 4 v l.length xs) (hx:XsAt K l xs) (hr:∀ g,v.ownBlock=some g→K g=none):
  ∃ K',K.le K'∧K'.In w∧ExsV K' l v∧∀ b o,K' b=some o→K b=some o∨∃ c fr,o = .cells c 69 fr:=by
 by_cases h0:l=[]
 ·obtain⟨a,c,h1,_⟩:=Zau h
  exact⟨K,Kn.le_refl K,hK,.inl ⟨h0,a,c,by rw [h1,h0];rfl⟩,fun _ _ e => .inl e⟩
 rcases h.2 with ⟨_,h2⟩ | ⟨g,cap,cur,h1,h2,h3,h4,h5,h6,h7⟩
 ·exact absurd (List.eq_nil_of_length_eq_zero h2) h0
 have hg:K g=none:=hr g (by rw [h1];rfl)
 obtain⟨g',cap',e1,e2,e3,_,_,e4⟩:=Zbp h (List.length_pos_iff.2 h0)
 rw [h1] at e1
 simp only [Value.slice.injEq,Option.some.injEq,Addr.mk.injEq,true_and,and_true] at e1
 obtain⟨rfl,rfl⟩:=e1
 refine⟨K.add g (.cells cur 69 (0,0)),Kn.le_add hg,hK.add h3,.inr ⟨g,0,cap,h1,h4,h5,hx.at (Kn.le_add hg) fun j u hj=>?_⟩,fun b o e=>?_⟩
 ·have h8:=e4 j u hj
  unfold Kn.cell
  rw [Kn.add_self,Nat.zero_add]
  simp only [World.cell?,h3] at h8
  exact h8
 by_cases hb:b=g
 ·rw [hb,Kn.add_self] at e
  exact .inr ⟨cur,(0,0),(Option.some.inj e).symm⟩
 rw [Kn.add_other _ _ hb] at e
 exact .inl e
theorem own_pop {w:World} {base m g cap:Nat} {xs:List Value} {x:Value} {e:TypeId} (h:w.ownsRow base e 1 (.slice (some ⟨g,0,none⟩) (m+1) cap) (m+1) (xs++[x])):w.ownsRow base e 1 (.slice (some ⟨g,0,none⟩) m cap) m xs:=by
 obtain⟨h1,h2⟩:=h
 have hl:xs.length=m:=by simp at h1;omega
 refine⟨by omega,.inr ?_⟩
 rcases h2 with ⟨h2,_⟩ | ⟨g',cap',cur,e1,e2,e3,e4,e5,e6,e7⟩
 ·cases h2
 simp only [Value.slice.injEq,Option.some.injEq,Addr.mk.injEq,true_and,and_true] at e1
 obtain⟨rfl,rfl⟩:=e1
 refine⟨g,cap,cur,rfl,e2,e3,by omega,e5,e6,?_⟩
 have h3:=congrArg (List.take m) e7
 rw [List.take_take,List.take_append_of_le_length (by omega),List.take_of_length_le (by omega:xs.length≤m)] at h3
 rw [← h3]
 congr 1
 omega
theorem td_push {u w3:World} {T base g cap':Nat} {acc:List ByteArray} {s:ByteArray} {v:Value} (hT:u.heap[T]?=some (.cells #[v] 23 (0,0))) (hrow:u.ownsRow base 9 1 v acc.length (acc.map .string)) (hle:base≤T) (hbu:base≤u.heap.size)
  (ho:w3.ownsRow base 9 1 (.slice (some ⟨g,0,none⟩) (acc.length+1) cap') (acc.length+1) (acc.map .string++[.string s])) (hg:u.grownBy w3 v.ownBlock):
  w3.cell? ⟨T,0,none⟩=some v∧w3.frozen? ⟨T,0,none⟩=false∧TdI (w3.setCell ⟨T,0,none⟩ (.slice (some ⟨g,0,none⟩) (acc.length+1) cap')) (w3.setCell ⟨T,0,none⟩ (.slice (some ⟨g,0,none⟩) (acc.length+1) cap')) T base (acc++[s])∧
   Below base u (w3.setCell ⟨T,0,none⟩ (.slice (some ⟨g,0,none⟩) (acc.length+1) cap')):=by
 have hne:v.ownBlock≠some T:=Zem hrow hT (by decide)
 have h3:=(hg.block T (Zlt hT) (Ne.symm hne)).trans hT
 have hgt:(Value.slice (some ⟨g,0,none⟩) (acc.length+1) cap').ownBlock≠some T:=Zem ho h3 (by decide)
 refine⟨by simp [World.cell?,h3],by simp [World.frozen?,h3],⟨Below.refl _ _,hle,_,Zab w3 T 0 (.slice (some ⟨g,0,none⟩) (acc.length+1) cap') _ _ _ h3,?_⟩,?_⟩
 ·rw [List.length_append,List.map_append]
  exact Zaq ho (a:=⟨T,0,none⟩) hgt (.slice (some ⟨g,0,none⟩) (acc.length+1) cap')
 exact ((Below.refl base u).grown hg hbu (fun q hq=>(hrow.lt q hq).1)).setCell (p:=⟨T,0,none⟩) (by show base≤T;exact hle) _
structure DrI (w wr:World) (B M5 M6 T6:Nat) (pv:Array Value) (atm:Env Nat) (nd:List ByteArray):Prop where
 below:Below w.heap.size w wr
 pbox:wr.heap[B]?=some (.cells pv 41 (0,0))
 res:wr.heap[B+1]?=some (.cells #[.slice none 0 0,.slice none 0 0,.slice none 0 0,.slice none 0 0,.slice none 0 0] 41 (0,0))
 at_:Zaw natV wr M5 atm
 need:NeedI T6 M6 nd wr
section
variable {w wr w' : World} {B M5 M6 T6 : Nat} {pv : Array Value} {atm : Env Nat} {nd : List ByteArray}
def DrLow (w:World) (n B M5 M6 T6:Nat):Prop:=w.heap.size≤n∧B+1<n∧M5<n∧M6<n∧T6<n
theorem DrI.under {n:Nat} (h:DrI w wr B M5 M6 T6 pv atm nd) (hn:DrLow w n B M5 M6 T6) (hb:Below n wr w'):DrI w w' B M5 M6 T6 pv atm nd:=
 ⟨h.below.trans (hb.mono hn.1),(hb.block _ (by have:=hn.2.1;omega)).trans h.pbox,(hb.block _ hn.2.1).trans h.res,h.at_.of_block (hb.block _ hn.2.2.1),(hb.block _ hn.2.2.2.2).trans h.need.1,h.need.2.of_block (hb.block _ hn.2.2.2.1)⟩
theorem DrI.low (h:DrI w wr B M5 M6 T6 pv atm nd):DrLow w wr.heap.size B M5 M6 T6:=
 ⟨h.below.size,(Zlt h.res),h.at_.lt,h.need.2.lt,(Zlt h.need.1)⟩
theorem DrI.later (h:DrI w wr B M5 M6 T6 pv atm nd) (hb:Below wr.heap.size wr w'):DrI w w' B M5 M6 T6 pv atm nd:=h.under h.low hb
theorem DrI.needTurn {nd':List ByteArray} (h:DrI w wr B M5 M6 T6 pv atm nd) (hne:w.heap.size≤M6∧B≠M6∧B+1≠M6∧M5≠M6∧T6≠M6) (ht:Zcp wr w' M6) (hm:Zaw Value.bool w' M6 (ndEnv nd')):DrI w w' B M5 M6 T6 pv atm nd':=
 ⟨ht.below h.below hne.1,(ht.block hne.2.1).trans h.pbox,(ht.block hne.2.2.1).trans h.res,ht.map h.at_ hne.2.2.2.1,(ht.block hne.2.2.2.2).trans h.need.1,hm⟩
theorem DrI.atTurn {atm':Env Nat} (h:DrI w wr B M5 M6 T6 pv atm nd) (hne:w.heap.size≤M5∧B≠M5∧B+1≠M5∧M6≠M5∧T6≠M5) (ht:Zcp wr w' M5) (hm:Zaw natV w' M5 atm'):DrI w w' B M5 M6 T6 pv atm' nd:=
 ⟨ht.below h.below hne.1,(ht.block hne.2.1).trans h.pbox,(ht.block hne.2.2.1).trans h.res,hm,(ht.block hne.2.2.2.2).trans h.need.1,ht.map h.need.2 hne.2.2.2.1⟩
end
theorem drop_any (H:Kn) (T:Zbo H) (sp:Nat→Addr) (p:Pr) (vi vo vl va vc:Value) (hp:PrP H p vi vo vl va vc)
  (hsz:p.ins.length≤1000000∧p.fl.length≤900000∧p.outs.length≤1048576∧p.as.length≤1000000∧p.cs.length≤1000000∧Ex.partsL p.terms≤1000000∧(Zd8 p).length+Zgb [] p.fl≤100000000)
  (hpick:Zak p=0→(∀ j,j<p.graph.length→cyc p.graph j=false)→∀ j,j<p.graph.length→pick p.graph (Zdh p.graph j [])<p.graph.length)
  (w:World) (hH:H.In w) (S:Sen5 w sp):
  Calls Tryz.prog 12 #[.agg #[vi,vo,vl,va,vc]] w fun r w'=>DropPost p w r w':=by
 have HP:=Zhd hp
 obtain⟨h1,h2,h3,h4,h5⟩:=hp
 obtain⟨ai,ci,rfl⟩:=h1.len
 obtain⟨ao,co,rfl⟩:=h2.len
 obtain⟨al,cl,rfl⟩:=h3.len
 obtain⟨aa,ca,rfl⟩:=h4.len
 obtain⟨ac,cc,rfl⟩:=h5.len
 obtain⟨s1,s2,s3,s4,s5,s6,s7⟩:=hsz
 have H2:=Zhd h2
 have H3:=Zhd h3
 have H4:=Zhd h4
 have H5:=Zhd h5
 have hmm:=@run_makeMap Tryz.prog
 clear h1 h2 h3 h4 h5
 have hP0:((w.alloc (.cells #[.slice ai p.ins.length ci,.slice ao p.outs.length co,.slice al p.fl.length cl,.slice aa p.as.length ca,.slice ac p.cs.length cc] 41)).alloc (.cells #[.slice none 0 0,.slice none 0 0,.slice none 0 0,.slice none 0 0,.slice none 0 0] 41)).heap[w.heap.size]?=some (.cells #[.slice ai p.ins.length ci,.slice ao p.outs.length co,.slice al p.fl.length cl,.slice aa p.as.length ca,.slice ac p.cs.length cc] 41 (0,0)):=by
  rw [Below.heap_alloc _ _ _ (by simp)];exact heap_alloc_new _ _
 have hR0:((w.alloc (.cells #[.slice ai p.ins.length ci,.slice ao p.outs.length co,.slice al p.fl.length cl,.slice aa p.as.length ca,.slice ac p.cs.length cc] 41)).alloc (.cells #[.slice none 0 0,.slice none 0 0,.slice none 0 0,.slice none 0 0,.slice none 0 0] 41)).heap[w.heap.size+1]?=some (.cells #[.slice none 0 0,.slice none 0 0,.slice none 0 0,.slice none 0 0,.slice none 0 0] 41 (0,0)):=by
  rw [show w.heap.size+1=(w.alloc (.cells #[.slice ai p.ins.length ci,.slice ao p.outs.length co,.slice al p.fl.length cl,.slice aa p.as.length ca,.slice ac p.cs.length cc] 41)).heap.size from by simp];exact heap_alloc_new _ _
 have hb0:Below w.heap.size w ((w.alloc (.cells #[.slice ai p.ins.length ci,.slice ao p.outs.length co,.slice al p.fl.length cl,.slice aa p.as.length ca,.slice ac p.cs.length cc] 41)).alloc (.cells #[.slice none 0 0,.slice none 0 0,.slice none 0 0,.slice none 0 0,.slice none 0 0] 41)):=((Below.refl _ _).alloc (Nat.le_refl _) _).alloc (by simp) _
 have hz1:((w.alloc (.cells #[.slice ai p.ins.length ci,.slice ao p.outs.length co,.slice al p.fl.length cl,.slice aa p.as.length ca,.slice ac p.cs.length cc] 41)).alloc (.cells #[.slice none 0 0,.slice none 0 0,.slice none 0 0,.slice none 0 0,.slice none 0 0] 41)).heap.size=w.heap.size+1+1:=by simp
 obtain⟨⟨m0,m1,m2,m3,m4⟩,_⟩:=Zae hP0
 have HP0:=Zhd hP0
 have HR0:=Zhd hR0
 have HB0:=Zhd hb0
 have HZ1:=Zhd hz1
 clear hP0 hR0 hb0 hz1
 go_enter Tryz.func12,Tryz.ntmps12
 go_wp2_with fail
 generalize (w.alloc (.cells #[.slice ai p.ins.length ci,.slice ao p.outs.length co,.slice al p.fl.length cl,.slice aa p.as.length ca,.slice ac p.cs.length cc] 41)).alloc (.cells #[.slice none 0 0,.slice none 0 0,.slice none 0 0,.slice none 0 0,.slice none 0 0] 41)=W1 at *
 refine (Zgy H T sp p _ _ _ _ _ HP.out W1 (hH.below HB0.out) (S.below HB0.out) ⟨by omega,by omega,by omega,by omega,by omega⟩ (by omega) hpick).mono ?_
 rintro r w2 ⟨hb2,v2,rfl,he2⟩
 have HE2:=Zhd he2
 have HB2:=Zhd (HB0.out.trans (hb2.mono HB0.out.size))
 have HP2:=Zhd ((hb2.block w.heap.size (by have:=HZ1.out;omega)).trans HP0.out)
 have HR2:=Zhd ((hb2.block (w.heap.size+1) (by have:=HZ1.out;omega)).trans HR0.out)
 have hs2:w.heap.size+1+1≤w2.heap.size:=by have:=hb2.size;have:=HZ1.out;omega
 clear hb2 he2 HP0 HR0 HB0 HZ1 m0 m1 m2 m3 m4
 have hcase:=errW_nil HE2.out
 rcases hcase with ⟨rfl,hc0⟩ | ⟨hnil,hc1⟩
 case inr=>
  obtain⟨⟨r0,r1,r2,r3,r4⟩,f0,f1,f2,f3,f4⟩:=Zae HR2.out
  have HR3:=Zhd (Zdd HR2.out (.slice none 0 0) (.slice none 0 0) (.slice none 0 0) (.slice none 0 0) (.slice none 0 0))
  have HB3:=Zhd (Zes HB2.out (Nat.le_succ _) (.slice none 0 0) (.slice none 0 0) (.slice none 0 0) (.slice none 0 0) (.slice none 0 0))
  have HNE:=Zhd hc1
  obtain⟨ty,pv,rfl⟩:=hnil
  go_wp2_with fail
  obtain⟨⟨e0,e1,e2,e3,e4⟩,_⟩:=Zae HR3.out
  refine bodyPost_ret (v := .tuple #[.agg #[.slice none 0 0,.slice none 0 0,.slice none 0 0,.slice none 0 0,.slice none 0 0],.iface ty (.pointer (some pv))]) (by simp [results,Tryz.results12,go_sem,e0,e1,e2,e3,e4]) rfl ?_
  exact⟨HB3.out,.inr ⟨HNE.out,ty,pv,rfl⟩⟩
 have HC0:=Zhd hc0
 have hnd0:(p.fl.map (·.name)).Nodup:=by
  obtain⟨l,ho,_⟩:=Zbx hc0
  exact Zct (Zbe ho).1
 clear hc0 HE2
 have hbV:Below w2.heap.size w2 (((w2.alloc (.map #[] 0)).alloc (.map #[] 0)).alloc (.cells #[.map (some (w2.heap.size+1))] 102)):=(((Below.refl _ _).alloc (Nat.le_refl _) _).alloc (by simp) _).alloc (by simp;omega) _
 have hpx:=(hbV.block w.heap.size (by omega)).trans HP2.out
 obtain⟨⟨m0,m1,m2,m3,m4⟩,_⟩:=Zae hpx
 have HD:=Zhd (show DrI w (((w2.alloc (.map #[] 0)).alloc (.map #[] 0)).alloc (.cells #[.map (some (w2.heap.size+1))] 102)) w.heap.size w2.heap.size (w2.heap.size+1) (w2.heap.size+1+1) #[.slice ai p.ins.length ci,.slice ao p.outs.length co,.slice al p.fl.length cl,.slice aa p.as.length ca,.slice ac p.cs.length cc] Env.none [] from
  ⟨HB2.out.trans (hbV.mono HB2.out.size),hpx,(hbV.block _ (by omega)).trans HR2.out,
   (((Zaw.made natV w2).alloc _).alloc _),
   ⟨by rw [show w2.heap.size+1+1=((w2.alloc (.map #[] 0)).alloc (.map #[] 0)).heap.size from by simp];exact heap_alloc_new _ _,
   by have h:=(Zaw.made Value.bool (w2.alloc (.map #[] 0))).alloc (.cells #[.map (some (w2.heap.size+1))] 102);rw [show (w2.alloc (.map #[] 0)).heap.size=w2.heap.size+1 from by simp] at h;exact h⟩⟩)
 have hzV:(((w2.alloc (.map #[] 0)).alloc (.map #[] 0)).alloc (.cells #[.map (some (w2.heap.size+1))] 102)).heap.size=w2.heap.size+1+1+1:=by simp
 clear hbV hpx HP2 HR2 HB2
 go_wp2_with fail
 generalize ((w2.alloc (.map #[] 0)).alloc (.map #[] 0)).alloc (.cells #[.map (some (w2.heap.size+1))] 102)=V0 at *
 generalize w2.heap.size=M5 at *
 refine (cloneS_any H p.outs _ H2.out (by omega) V0 (hH.below HD.out.below)).mono ?_
 rintro r w3 ⟨v3,rfl,hown3,hb3⟩
 obtain⟨a3,c3,rfl,_⟩:=Zau hown3
 have HD3:=Zhd ((HD.out.later hb3).later ((Below.refl _ _).alloc (Nat.le_refl _) (.cells #[.slice a3 p.outs.length c3] 23)))
 have HT3:=Zhd (show TdI (w3.alloc (.cells #[.slice a3 p.outs.length c3] 23)) (w3.alloc (.cells #[.slice a3 p.outs.length c3] 23)) w3.heap.size V0.heap.size p.outs from
  ⟨Below.refl _ _,hb3.size,_,heap_alloc_new _ _,Zao hown3 ((Below.refl _ _).alloc (Nat.le_refl _) _)⟩)
 have hs3:=hb3.size
 obtain⟨⟨m0,m1,m2,m3,m4⟩,_⟩:=Zae HD3.out.pbox
 clear hown3 hb3 HD
 go_wp2_with fail
 generalize w3.alloc (.cells #[.slice a3 p.outs.length c3] 23)=W3 at *
 generalize w3.heap.size=TB at *
 generalize hNB:V0.heap.size=NB at *
 have hnb0:M5+1+1+1≤NB:=by omega
 clear hNB hzV
 go_loopw [30] (fun i wr=>∃ (q:Nat) (acc:List ByteArray),i = .int .i64 q∧q≤p.fl.length∧acc=p.outs++((p.fl.take q).filter fun f=>Zax f.e).map (·.name)∧NB≤wr.heap.size∧DrI w wr w.heap.size M5 (M5+1) (M5+1+1) #[.slice ai p.ins.length ci,.slice ao p.outs.length co,.slice al p.fl.length cl,.slice aa p.as.length ca,.slice ac p.cs.length cc] (Zcs 0 Env.none (p.fl.take q)) []∧TdI wr wr TB NB acc) (fun i _=>p.fl.length - (intOf i).toNat)
 case atStart=>exact⟨0,_,rfl,Nat.zero_le _,by simp,by have:=HD3.out.low;have h:=HT3.out.tlt;obtain⟨v,hv,_⟩:=HT3.out.box;have:=(Zlt hv);omega,HD3.out,HT3.out⟩
 clear HD3 HT3 m0 m1 m2 m3 m4
 obtain⟨q,acc,rfl,hq,hacc,hnb,hD,hT⟩:=hrel
 have HD:=Zhd hD
 have HT:=Zhd hT
 have HA:=Zhd hacc
 obtain⟨vt,htb,hrw⟩:=hT.box
 obtain⟨at_,ct,rfl,_⟩:=Zau hrw
 have HTB:=Zhd htb
 have HRW:=Zhd hrw
 have haccl:acc.length≤2000000:=by
  rw [hacc]
  simp only [List.length_append,List.length_map]
  have:=List.length_filter_le (fun f:Fl=>Zax f.e) (p.fl.take q)
  simp only [List.length_take] at this
  omega
 clear hD hT hacc htb hrw
 by_cases hql:q<p.fl.length
 ·obtain⟨b,off,cap0,he,_,_,hcs⟩:=FlsV.cell H3.out (fun e=>by rw [e] at hql;simp at hql)
  cases he
  obtain⟨ax,cx,d0,d1,d2,d3,d4,d5,hx⟩:=hcs q hql
  obtain⟨f,hf⟩:∃ f,p.fl[q]=f:=⟨_,rfl⟩
  have hpf:f.e.parts≤1000000000000:=by
   have h1:Ex.partsL (p.fl.map (·.e))≤Ex.partsL p.terms:=by unfold Pr.terms;rw [Zbi,Zbi];omega
   have:=Za5 (p.fl.map (·.e)) q (by simpa using hql)
   simp at this
   rw [hf] at this
   omega
  rw [hf] at d0 d1 d2 d3 d4 d5 hx
  have hHr:=hH.below HD.out.below
  have d0:=hHr.cell d0
  have d1:=hHr.cell d1
  have d2:=hHr.cell d2
  have d3:=hHr.cell d3
  have d4:=hHr.cell d4
  have d5:=hHr.cell d5
  have HEX:=Zhd (show ExV H f.e (.agg #[.string f.e.op,.int .i64 f.e.n,.string f.e.s,.slice ax f.e.l.length cx]) from⟨_,rfl,hx⟩)
  have HSN:=Zhd (show Zcs 0 Env.none (p.fl.take (q+1))=(Zcs 0 Env.none (p.fl.take q)).set f.name q from by
   rw [Zb2 _ _ hql,Zh6,hf,List.length_take,Nat.zero_add,Nat.min_eq_left (by omega)])
  have HSF:=Zhd (show ((p.fl.take (q+1)).filter fun f=>Zax f.e).map (·.name)=((p.fl.take q).filter fun f=>Zax f.e).map (·.name)++(if Zax f.e=true then [f.name] else []) from by
   rw [Zb2 _ _ hql,List.filter_append,List.map_append,hf]
   congr 1
   cases h:Zax f.e<;>simp [h])
  have hba:=(Below.refl wr.heap.size wr).alloc (Nat.le_refl _) (.cells #[.string f.name,.int .i64 f.kind,.string f.e.op,.int .i64 f.e.n,.string f.e.s,.slice ax f.e.l.length cx] 71)
  have HDA:=Zhd (HD.out.later hba)
  have HFB:=Zhd (heap_alloc_new wr (.cells #[.string f.name,.int .i64 f.kind,.string f.e.op,.int .i64 f.e.n,.string f.e.s,.slice ax f.e.l.length cx] 71))
  have HTBA:=Zhd ((hba.block TB (Zlt HTB.out)).trans HTB.out)
  have HRWA:=Zhd (Zao HRW.out hba)
  obtain⟨⟨z0,z1,z2,z3,z4,z5⟩,_⟩:=Zdl HFB.out
  have hlow:=HD.out.low
  obtain⟨l1,l2,l3,l4,l5⟩:=hlow
  have htn:=HT.out.tlt
  clear hf hx hcs hHr hba
  go_wp2_with (at_mapUpdate;refine Zd2 natV 97 9 3 Tryz.underlying97 Tryz.underlying9 M5 _ HDA.out.at_ _ _ _ rfl rfl rfl f.name rfl q rfl ?_;intro w7 hM7 hT7;rw [← HSN.out] at hM7;have hD7:=HDA.out.atTurn (by omega) hT7 hM7;have hF7:=(hT7.block (by omega)).trans HFB.out;have y0:=(Zdl hF7).1.1;have y2:=(Zdl hF7).1.2.2.1;have y3:=(Zdl hF7).1.2.2.2.1;have y4:=(Zdl hF7).1.2.2.2.2.1;have y5:=(Zdl hF7).1.2.2.2.2.2)
  have hlow:DrLow w NB w.heap.size M5 (M5+1) (M5+1+1):=⟨by omega,by omega,by omega,by omega,by omega⟩
  refine (Zf0 f.e hpf H _ HEX.out w7 (hH.below hD7.below)).mono ?_
  rintro r w8 ⟨rfl,hb8⟩
  have HD8:=Zhd (hD7.later hb8)
  have h7:=(hT7.block (by omega)).trans HTBA.out
  have HT8:=Zhd ((hb8.block TB (Zlt h7)).trans h7)
  have HR8:=Zhd (Zao (Ze6 HRWA.out hT7 (Zbn HRWA.out (by omega))) hb8)
  obtain⟨⟨x0,_⟩,_⟩:=Zdl ((hb8.block _ (Zlt hF7)).trans hF7)
  have t8:w8.cell? ⟨TB,0,none⟩=some (.slice at_ acc.length ct):=by simp [World.cell?,HT8.out]
  have htb8:=(Zlt HT8.out)
  have hnb8:NB≤w8.heap.size:=by have:=(Zlt HT8.out);omega
  clear hb8 hM7 hD7 hF7 h7 HTBA HRWA HDA HFB hT7 y0 y2 y3 y4 y5 z0 z1 z2 z3 z4 z5 d0 d1 d2 d3 d4 d5
  cases hd:Zax f.e
  ·have HAN:=Zhd (show acc=p.outs++((p.fl.take (q+1)).filter fun f=>Zax f.e).map (·.name) from by rw [HSF.out,hd,HA.out];simp)
   go_wp2_with fail
   go_roundw
   case rel=>exact⟨q+1,acc,by go_num,by omega,HAN.out,hnb8,HD8.out,⟨Below.refl _ _,htn,_,HT8.out,HR8.out⟩⟩
   simp [intOf];omega
  have HAN:=Zhd (show acc++[f.name]=p.outs++((p.fl.take (q+1)).filter fun f=>Zax f.e).map (·.name) from by rw [HSF.out,hd,HA.out];simp)
  have hba:=(Below.refl w8.heap.size w8).alloc (Nat.le_refl _) (.cells #[.string f.name] 9)
  have HR9:=Zhd (Zao HR8.out hba)
  have HT9:=Zhd ((hba.block TB (by omega)).trans HT8.out)
  have HD9:=Zhd (HD8.out.later hba)
  clear hba
  go_wp2_with (at_builtin;refine Zi9 23 9 1 16 _ Tryz.underlying23 Tryz.infoStr1 rfl (by decide) _ _ rfl rfl NB _ _ _ rfl HR9.out ⟨w8.heap.size,0,none⟩ 1 [.string f.name] rfl rfl ?c1 ?c2 ?c3 ?c4 ?c5 ?_)
  case c1=>exact cells1 _ _ _
  case c2=>simp [Value.oneCell']
  case c3=>omega
  case c4=>omega
  case c5=>simp;omega
  intro g cap' wb ho hg hat
  obtain⟨n1,n2,hTd,hBl⟩:=td_push HT9.out HR9.out htn (by simp;omega) ho hg
  have HTD:=Zhd hTd
  have HDD:=Zhd (HD9.out.under hlow hBl)
  have HSZ:=Zhd (hBl.size)
  clear ho hg hat hTd hBl
  go_wp2_with fail
  go_roundw
  case rel=>exact⟨q+1,acc++[f.name],by go_num,by omega,HAN.out,Nat.le_trans (by simp;omega) HSZ.out,HDD.out,HTD.out⟩
  simp [intOf];omega
 obtain rfl:q=p.fl.length:=by omega
 obtain⟨wa,hwa⟩:∃ wa,wa=wr:=⟨_,rfl⟩
 subst hwa
 obtain⟨r1,hr1⟩:∃ r1,r1=acc:=⟨_,rfl⟩
 have HAR:=Zhd (show acc=p.outs++(p.fl.filter fun f=>Zax f.e).map (·.name) from by have h:=HA.out;rwa [List.take_of_length_le (Nat.le_refl _)] at h)
 have hatl:=HD.out.at_
 rw [List.take_of_length_le (Nat.le_refl _)] at hatl
 have hDA:DrI w wa w.heap.size M5 (M5+1) (M5+1+1) #[.slice ai p.ins.length ci,.slice ao p.outs.length co,.slice al p.fl.length cl,.slice aa p.as.length ca,.slice ac p.cs.length cc] p.atOf []:=⟨HD.out.below,HD.out.pbox,HD.out.res,hatl,HD.out.need⟩
 have hba:=(Below.refl wa.heap.size wa).alloc (Nat.le_refl _) (.cells #[.slice aa p.as.length ca,.slice ac p.cs.length cc] 39)
 have HDB:=Zhd (hDA.later hba)
 have HTD:=Zhd (HT.out.next hba)
 obtain⟨⟨m0,m1,m2,m3,m4⟩,_⟩:=Zae hDA.pbox
 have hA3:∀ i,(wa.alloc (.cells #[.slice aa p.as.length ca,.slice ac p.cs.length cc] 39)).cell? ⟨wa.heap.size,i,none⟩=(#[.slice aa p.as.length ca,.slice ac p.cs.length cc]:Array Value)[i]?:=fun i=>World.cell?_alloc_new (w:=wa) #[.slice aa p.as.length ca,.slice ac p.cs.length cc] 39 i
 have hzB:wa.heap.size<(wa.alloc (.cells #[.slice aa p.as.length ca,.slice ac p.cs.length cc] 39)).heap.size:=by simp
 have HA3:=Zhd hA3
 clear hatl hDA hba HD HT HTB HRW HA hA3 hql
 go_wp2_with fail
 generalize wa.alloc (.cells #[.slice aa p.as.length ca,.slice ac p.cs.length cc] 39)=wb at *
 refine (Zi6 H [p.as,p.cs] [.slice aa p.as.length ca,.slice ac p.cs.length cc] wa.heap.size 2 wb (hH.below HDB.out.below) rfl (by omega) rfl (by omega) (fun i hi=>?_) (fun i hi hi'=>?_) ?_).mono ?_
 ·rw [HA3.out i];simp at hi ⊢
 ·match i,hi with
  | 0,_=>exact H4.out
  | 1,_=>exact H5.out
 ·simp [Zdq];omega
 rintro r wc ⟨vC,xsC,rfl,hoC,hxC,hbC⟩
 have hfe : [p.as,p.cs].flatten=p.as++p.cs:=by simp
 rw [hfe] at hoC hxC
 have HDC:=Zhd (HDB.out.later hbC)
 have HTC:=Zhd (HTD.out.next hbC)
 obtain⟨KC,hleC,hinC,hvC,hknC⟩:=exsV_row (hH.below HDC.out.below) hoC hxC (fun g hg=>hH.isNone (by have:=(hoC.lt g hg).1;have:=HDB.out.below.size;omega))
 obtain⟨aC,cC,rfl⟩:=hvC.len
 have HVC:=Zhd hvC
 have HKC:=Zhd hknC
 have HINC:=Zhd hinC
 have hlenC:(p.as++p.cs).length≤2000000:=by rw [List.length_append];omega
 have hptC:Ex.partsL (p.as++p.cs)≤1000000:=by
  have h:Ex.partsL p.terms=Ex.partsL (p.fl.map (·.e))+Ex.partsL p.as+Ex.partsL p.cs:=by unfold Pr.terms;rw [Zbi,Zbi]
  rw [Zbi];omega
 have hseer:=fun (w0:World) (h0:KC.In w0)=>todoA_seerK KC w0 TB NB h0 (fun b o e=>(HKC.out b o e).imp (fun e2=>by have:=hH.lt e2;omega) id)
 have HSEER:=Zhd hseer
 have HFE:=Zhd hfe
 obtain⟨LC,hLC⟩:∃ LC,LC=p.as++p.cs:=⟨_,rfl⟩
 rw [← hLC] at HVC hlenC hptC
 have HLC:=Zhd hLC
 rw [← hLC]
 clear hbC hoC hxC hleC hinC hvC hknC HDB HTD HA3 hseer m0 m1 m2 m3 m4 hfe hLC HFE hzB
 go_wp2_with fail
 go_loopw [55] (fun i wr=>∃ (q:Nat) (ac2:List ByteArray),i = .int .i64 q∧q≤LC.length∧ac2=acc++Zb0 (LC.take q)∧KC.In wr∧DrI w wr w.heap.size M5 (M5+1) (M5+1+1) #[.slice ai p.ins.length ci,.slice ao p.outs.length co,.slice al p.fl.length cl,.slice aa p.as.length ca,.slice ac p.cs.length cc] p.atOf []∧TdI wr wr TB NB ac2) (fun i _=>LC.length - (intOf i).toNat)
 case atStart=>exact⟨0,_,rfl,Nat.zero_le _,by simp [Zb0],HINC.out,HDC.out,HTC.out.rebase⟩
 clear HDC HTC HINC
 obtain⟨q,ac2,rfl,hq,hac,hkin,hD,hT⟩:=hrel
 have HD:=Zhd hD
 have HT:=Zhd hT
 have HA:=Zhd hac
 have HK:=Zhd hkin
 have hnl2:=Zdz (LC.take q)
 have hacl:ac2.length+Ex.partsL LC≤10000000:=by
  have h2:=partsL_tk LC q
  rw [hac,List.length_append]
  omega
 clear hD hT hac hkin hnl2
 by_cases hql:q<LC.length
 ·obtain⟨b,off,ax,cx,rfl,c0,c1,c2,c3,hx⟩:=ExsV.at HVC.out hql
  obtain⟨x,hxe⟩:∃ x,LC[q]=x:=⟨_,rfl⟩
  have hxp:=Zgu LC q hql
  rw [hxe] at c0 c1 c2 c3 hx hxp
  have c0:=HK.out.cell c0
  have c1:=HK.out.cell c1
  have c2:=HK.out.cell c2
  have c3:=HK.out.cell c3
  have HNX:=Zhd (show acc++Zb0 (LC.take (q+1))=ac2++Za7 x from by rw [Zeu _ _ hql,hxe,HA.out,List.append_assoc])
  have hba:=(Below.refl wr.heap.size wr).alloc (Nat.le_refl _) (.cells #[.string x.op,.int .i64 x.n,.string x.s,.slice ax x.l.length cx] 69)
  have HDA:=Zhd (HD.out.later hba)
  have HTA:=Zhd (HT.out.next hba).rebase
  have HKA:=Zhd (HK.out.below hba)
  have HBX:=Zhd (heap_alloc_new wr (.cells #[.string x.op,.int .i64 x.n,.string x.s,.slice ax x.l.length cx] 69))
  obtain⟨z0,z1,z2,z3,_⟩:=Zag HBX.out
  have HEX:=Zhd hx
  have hlow:DrLow w NB w.heap.size M5 (M5+1) (M5+1+1):=⟨by omega,by omega,by omega,by omega,by omega⟩
  clear hxe hx hba
  go_wp2_with fail
  generalize wr.alloc (.cells #[.string x.op,.int .i64 x.n,.string x.s,.slice ax x.l.length cx] 69)=wA at *
  refine (snames_any _ _ KC _ (HSEER.out wA HKA.out) x _ HEX.out ac2 wA (by omega) ⟨HTA.out,fun _ _ _ h=>h⟩).mono ?_
  rintro r wn ⟨rfl,⟨hTn,hFn⟩,_⟩
  have HDN:=Zhd (HDA.out.under hlow hTn.below)
  have HKN:=Zhd ((HSEER.out wA HKA.out).isin _ _ ⟨hTn,hFn⟩)
  have HTN:=Zhd hTn.rebase
  clear hTn hFn
  go_wp2_with fail
  go_roundw
  case rel=>exact⟨q+1,ac2++Za7 x,by go_num,by omega,HNX.out.symm,HKN.out,HDN.out,HTN.out⟩
  simp [intOf];omega
 obtain rfl:q=LC.length:=by omega
 obtain⟨wd,hwd⟩:∃ wd,wd=wr:=⟨_,rfl⟩
 subst hwd
 have hroot:ac2=Zd8 p:=by
  have h:=HA.out
  rw [List.take_of_length_le (Nat.le_refl _)] at h
  rw [h,HAR.out,HLC.out]
  rfl
 obtain⟨FU,hFU⟩:∃ FU,FU=1+(Zd8 p).length+Zgb [] p.fl:=⟨_,rfl⟩
 have HND:=Zhd (show Zhf p.fl FU (Zd8 p).reverse []=Zdn p from by rw [hFU];rfl)
 have hfub:FU≤200000000:=by omega
 have hfu2:(Zd8 p).length+Zgb [] p.fl<FU:=by omega
 rw [hroot] at HT
 clear HK HA HAR HLC HVC HKC HSEER hFU hql hroot
 go_wp2_with fail
 go_loopg [12] FU (fun f u12 wr=>∃ td nd,DrI w wr w.heap.size M5 (M5+1) (M5+1+1) #[.slice ai p.ins.length ci,.slice ao p.outs.length co,.slice al p.fl.length cl,.slice aa p.as.length ca,.slice ac p.cs.length cc] p.atOf nd∧TdI wr wr TB NB td∧Zhf p.fl f td.reverse nd=Zdn p∧td.length+Zgb nd p.fl<f∧f≤FU)
 case atStart=>exact⟨Zd8 p,[],HD.out,HT.out,HND.out,hfu2,Nat.le_refl _⟩
 clear HD HT HND hfu2
 obtain⟨td,nd,hD,hT,hnd,hlt,hfu⟩:=hrel
 have HD:=Zhd hD
 have HT:=Zhd hT
 have HN:=Zhd hnd
 have HLT:=Zhd hlt
 obtain⟨vt,htb,hrw⟩:=hT.box
 have htd:td.length≤200000000:=by omega
 clear hD hT hnd hlt
 rcases List.eq_nil_or_concat td with rfl | ⟨t0,s,rfl⟩
 ·obtain⟨av,cv,rfl,_⟩:=Zau hrw
  have ht0:wr.cell? ⟨TB,0,none⟩=some (.slice av 0 cv):=by simp [World.cell?,htb]
  have HNE:=Zhd (show nd=Zdn p from by
   have h:=HN.out
   obtain⟨f0,hf0⟩:∃ f0,gk=f0+1:=⟨gk - 1,by have:=HLT.out;omega⟩
   rw [hf0] at h
   exact h)
  obtain⟨⟨m0,m1,m2,m3,m4⟩,_⟩:=Zae HD.out.pbox
  clear htb hrw HT HN HLT
  go_wp2_with fail
  refine (Zj5 46 #[] (fun _=>none) id (fun _=>True) (dropId_how _) p _ _ _ _ _ H HP.out ⟨by omega,by omega,by omega,by omega⟩ (fun _ _=>trivial) wr (hH.below HD.out.below) (fun b o e=>by cases e)).mono ?_
  rintro r we ⟨vi',vo',uL,va',vc',xL,Ke,rfl,hbe,hKe,hlo,hin,⟨hou,_⟩,hrL,hxL,hnL,hva,hvc,huf⟩
  rw [mapF_id,List.map_id] at hxL
  rw [List.map_id] at hva hvc
  obtain⟨a1,c1,rfl⟩:=hin.len
  obtain⟨a2,c2,rfl⟩:=hou.len
  obtain⟨aL,cL,rfl,hcL,hcL2⟩:=Zau hrL
  obtain⟨a4,c4,rfl⟩:=hva.len
  obtain⟨a5,c5,rfl⟩:=hvc.len
  obtain⟨rs,hrs,rfl⟩:=RowF.of hxL
  have hbx:=(Below.refl we.heap.size we).alloc (Nat.le_refl _) (.cells #[.slice a1 p.ins.length c1,.slice a2 p.outs.length c2,.slice aL p.fl.length cL,.slice a4 p.as.length c4,.slice a5 p.cs.length c5] 41)
  have HDX:=Zhd ((HD.out.later hbe).later hbx)
  have HBX:=Zhd (heap_alloc_new we (.cells #[.slice a1 p.ins.length c1,.slice a2 p.outs.length c2,.slice aL p.fl.length cL,.slice a4 p.as.length c4,.slice a5 p.cs.length c5] 41))
  have HKX:=Zhd (hKe.below hbx)
  have HRL:=Zhd (Zao hrL hbx)
  have HIN:=Zhd (And.intro hin (And.intro hou (And.intro hva hvc)))
  have HRS:=Zhd hrs
  have HNL:=Zhd hnL
  have hbw:=HD.out.below.size
  have HLO:=Zhd (show ∀ b,b<w.heap.size→Ke b=none from fun b hb=>hlo b (by omega))
  have hzX:we.heap.size<(we.alloc (.cells #[.slice a1 p.ins.length c1,.slice a2 p.outs.length c2,.slice aL p.fl.length cL,.slice a4 p.as.length c4,.slice a5 p.cs.length c5] 41)).heap.size:=by simp
  have hKE:Ke we.heap.size=none:=hKe.isNone (Nat.le_refl _)
  have HLW:=Zhd hlo
  have hwe:=hbe.size
  have hRlt:=HD.out.low.2.1
  clear hbe hKe hlo hin hou hrL hxL hnL hva hvc hbx hrs HD
  go_wp2_with fail
  generalize we.alloc (.cells #[.slice a1 p.ins.length c1,.slice a2 p.outs.length c2,.slice aL p.fl.length cL,.slice a4 p.as.length c4,.slice a5 p.cs.length c5] 41)=wX at *
  generalize we.heap.size=E15 at *
  have hneed:NeedI (M5+1+1) (M5+1) (Zdn p) wX:=by rw [← HNE.out];exact HDX.out.need
  refine (delFl_any Ke (M5+1+1) (M5+1) (Zdn p) p.fl rs HRS.out _ wr.heap.size wX HRL.out HKX.out HNL.out hneed (by omega) (by omega)).mono ?_
  rintro r wf ⟨u',KF,rfl,hFl,hle,hinF,hkn,hkF,hbF⟩
  obtain⟨aF,cF,rfl⟩:=hFl.len
  have hneE:(Value.slice aL p.fl.length cL).ownBlock≠some E15:=Zem HRL.out HBX.out (by decide)
  have hbE:=(hkF E15 hzX hneE).trans HBX.out
  have hbR:=(hbF.block (w.heap.size+1) hRlt).trans HDX.out.res
  have hKFE:KF E15=none:=(hkn E15 hneE).trans hKE
  have hKFR:KF (w.heap.size+1)=none:=(hkn _ (Zbn HRL.out hRlt)).trans (HLW.out _ hRlt)
  obtain⟨⟨j0,j1,j2,j3,j4⟩,fj0,fj1,fj2,fj3,fj4⟩:=Zae hbE
  have hbE2:=Zab wf E15 2 (.slice aF (p.fl.filter fun f=>decide (f.name∈Zdn p)).length cF) _ _ _ hbE
  have hbE3:(wf.setCell ⟨E15,2,none⟩ (.slice aF (p.fl.filter fun f=>decide (f.name∈Zdn p)).length cF)).heap[E15]?=some (.cells #[.slice a1 p.ins.length c1,.slice a2 p.outs.length c2,.slice aF (p.fl.filter fun f=>decide (f.name∈Zdn p)).length cF,.slice a4 p.as.length c4,.slice a5 p.cs.length c5] 41 (0,0)):=hbE2
  have hbR2:=(Below.heap_setCell wf ⟨E15,2,none⟩ (.slice aF (p.fl.filter fun f=>decide (f.name∈Zdn p)).length cF) (w.heap.size+1) (by show w.heap.size+1≠E15;omega)).trans hbR
  obtain⟨⟨k0,k1,k2,k3,k4⟩,_⟩:=Zae hbE3
  obtain⟨⟨r0,r1,r2,r3,r4⟩,f0,f1,f2,f3,f4⟩:=Zae hbR2
  have HR9:=Zhd (Zdd hbR2 (.slice a1 p.ins.length c1) (.slice a2 p.outs.length c2) (.slice aF (p.fl.filter fun f=>decide (f.name∈Zdn p)).length cF) (.slice a4 p.as.length c4) (.slice a5 p.cs.length c5))
  have HIN9:=Zhd (in5 (hinF.setCell (a:=⟨E15,2,none⟩) hKFE (.slice aF (p.fl.filter fun f=>decide (f.name∈Zdn p)).length cF)) hKFR (.slice a1 p.ins.length c1) (.slice a2 p.outs.length c2) (.slice aF (p.fl.filter fun f=>decide (f.name∈Zdn p)).length cF) (.slice a4 p.as.length c4) (.slice a5 p.cs.length c5))
  have HB9:=Zhd (Zes ((HDX.out.below.trans (hbF.mono (by omega))).setCell (p:=⟨E15,2,none⟩) (by show w.heap.size≤E15;omega) (.slice aF (p.fl.filter fun f=>decide (f.name∈Zdn p)).length cF)) (Nat.le_succ w.heap.size) (.slice a1 p.ins.length c1) (.slice a2 p.outs.length c2) (.slice aF (p.fl.filter fun f=>decide (f.name∈Zdn p)).length cF) (.slice a4 p.as.length c4) (.slice a5 p.cs.length c5))
  have HPR:=Zhd (show PrP KF (Zb8 p) (.slice a1 p.ins.length c1) (.slice a2 p.outs.length c2) (.slice aF (p.fl.filter fun f=>decide (f.name∈Zdn p)).length cF) (.slice a4 p.as.length c4) (.slice a5 p.cs.length c5) from
   ⟨SlV.le HIN.out.1 hle VrC.mono,SlV.le HIN.out.2.1 hle StrC.mono,hFl,HIN.out.2.2.1.le hle,HIN.out.2.2.2.le hle⟩)
  have HLF:=Zhd (show ∀ b,b<w.heap.size→KF b=none from fun b hb=>(hkn b (Zbn HRL.out (by omega))).trans (HLO.out b hb))
  generalize (p.fl.filter fun f=>decide (f.name∈Zdn p)).length=nF at *
  clear hFl hle hinF hkn hkF hbF hneE hbE hbR hKFE hKFR hbE2 hbE3 hbR2 hneed
  go_wp2_with fail
  obtain⟨⟨e0,e1,e2,e3,e4⟩,_⟩:=Zae HR9.out
  refine bodyPost_ret (v := .tuple #[.agg #[.slice a1 p.ins.length c1,.slice a2 p.outs.length c2,.slice aF nF cF,.slice a4 p.as.length c4,.slice a5 p.cs.length c5],.nilIface]) (by simp [results,Tryz.results12,go_sem,e0,e1,e2,e3,e4]) rfl ?_
  exact⟨HB9.out,.inl ⟨HC0.out,_,_,_,_,_,KF,rfl,HPR.out,HIN9.out,HLF.out⟩⟩
 have hnd:=HN.out
 have hlt:=HLT.out
 simp only [List.concat_eq_append,List.reverse_append,List.reverse_cons,List.reverse_nil,List.nil_append,List.singleton_append,List.length_append,List.length_cons,List.length_nil,Nat.zero_add,List.map_append,List.map_cons,List.map_nil] at hnd hlt hrw htd
 obtain⟨g,cap,rfl,hcap1,hcap2,hgb,hgl,hgc⟩:=Zbp hrw (by omega)
 have ht0:wr.cell? ⟨TB,0,none⟩=some (.slice (some ⟨g,0,none⟩) (t0.length+1) cap):=by simp [World.cell?,htb]
 have hft:wr.frozen? ⟨TB,0,none⟩=false:=by simp [World.frozen?,htb]
 have hs:wr.cell? ⟨g,t0.length,none⟩=some (.string s):=hgc t0.length (.string s) (by simp)
 have hpop:=own_pop hrw
 have hgT:g≠TB:=fun e=>Zem hrw htb (by decide) (by rw [e];rfl)
 have HTP:=Zhd (show TdI (wr.setCell ⟨TB,0,none⟩ (.slice (some ⟨g,0,none⟩) t0.length cap)) (wr.setCell ⟨TB,0,none⟩ (.slice (some ⟨g,0,none⟩) t0.length cap)) TB NB t0 from
  ⟨Below.refl _ _,HT.out.tlt,_,Zab wr TB 0 (.slice (some ⟨g,0,none⟩) t0.length cap) _ _ _ htb,Zaq hpop (a:=⟨TB,0,none⟩) (by show (Value.slice (some ⟨g,0,none⟩) t0.length cap).ownBlock≠some TB;simp [Value.ownBlock];exact hgT) _⟩)
 have hlow:DrLow w NB w.heap.size M5 (M5+1) (M5+1+1):=by
  have h1:=HD.out.below.size
  exact⟨by omega,by omega,by omega,by omega,by omega⟩
 have HDP:=Zhd (HD.out.under hlow ((Below.refl NB wr).setCell (p:=⟨TB,0,none⟩) HT.out.tlt (.slice (some ⟨g,0,none⟩) t0.length cap)))
 have HNB:=Zhd hnd
 have HLB:=Zhd hlt
 clear hnd hlt hrw hgc hpop hgT HN HLT HT HD
 go_wp2_with fail
 generalize wr.setCell ⟨TB,0,none⟩ (.slice (some ⟨g,0,none⟩) t0.length cap)=wp at *
 have hrun1:=HDP.out.at_.run (P:=Tryz.prog) Tryz.underlying97 Tryz.underlying9 (d:=0) (by kernel_rfl) s true
 simp only [if_true,natV] at hrun1
 have hrun2:=HDP.out.need.2.run (P:=Tryz.prog) Tryz.underlying102 Tryz.underlying9 (d:=false) (by kernel_rfl) s false
 rw [ndEnv_get] at hrun2
 simp only [Bool.false_eq_true,if_false] at hrun2
 have t6:wp.cell? ⟨M5+1+1,0,none⟩=some (.map (some (M5+1))):=by have h:=HDP.out.need.1;simp [World.cell?,h]
 clear ht0 hft hs htb
 cases hat:p.atOf s with
 | none=>
  rw [hat] at hrun1
  simp only [Option.getD_none,Option.isSome_none] at hrun1
  have HNX:=Zhd (at_none hat)
  clear hat hrun2
  rw [hrun1]
  go_wp2_with fail
  go_roundg (gk - 1)
  case rel=>
   obtain⟨f0,rfl⟩:∃ f0,gk=f0+1:=⟨gk - 1,by have:=HLB.out;omega⟩
   exact⟨t0,nd,HDP.out,HTP.out,by rw [← HNB.out];simp [Zhf,HNX.out],by have:=HLB.out;omega,by omega⟩
  have:=HLB.out;omega
 | some i=>
  rw [hat] at hrun1
  simp only [Option.getD_some,Option.isSome_some] at hrun1
  obtain⟨hi,hnm,hex⟩:=at_some hnd0 hat
  have HEX0:=Zhd hex
  clear hat hnm hex
  by_cases hin:s∈nd
  ·rw [decide_eq_true hin] at hrun2
   rw [hrun1]
   go_wp2_with fail
   go_roundg (gk - 1)
   case rel=>
    obtain⟨f0,rfl⟩:∃ f0,gk=f0+1:=⟨gk - 1,by have:=HLB.out;omega⟩
    exact⟨t0,nd,HDP.out,HTP.out,by rw [← HNB.out];simp [Zhf,HEX0.out,hin],by have:=HLB.out;omega,by omega⟩
   have:=HLB.out;omega
  rw [decide_eq_false hin] at hrun2
  obtain⟨⟨m0,m1,m2,m3,m4⟩,_⟩:=Zae HDP.out.pbox
  have hHp:=hH.below HDP.out.below
  have hl1:=HDP.out.low
  obtain⟨l1,l2,l3,l4,l5⟩:=hl1
  have htn:=HTP.out.tlt
  obtain⟨vt,htb,hrw⟩:=HTP.out.box
  have HTB:=Zhd htb
  have HRW:=Zhd hrw
  obtain⟨b,off,cap0,he,_,_,hcs⟩:=FlsV.cell H3.out (fun e=>by rw [e] at hi;simp at hi)
  cases he
  obtain⟨ax,cx,_,_,d2,d3,d4,d5,hx⟩:=hcs i hi
  have hiI:(i:Int)<p.fl.length:=by omega
  have hpx:p.fl[i].e.parts≤1000000:=by
   have h1:Ex.partsL (p.fl.map (·.e))≤Ex.partsL p.terms:=by unfold Pr.terms;rw [Zbi,Zbi];omega
   have:=Za5 (p.fl.map (·.e)) i (by simpa using hi)
   simp at this
   omega
  generalize p.fl[i].e=x at *
  have HEX:=Zhd (show ExV H x (.agg #[.string x.op,.int .i64 x.n,.string x.s,.slice ax x.l.length cx]) from⟨_,rfl,hx⟩)
  clear htb hrw hcs hx
  rw [hrun1]
  go_wp2_with (at_mapUpdate;refine Zd2 Value.bool 102 9 4 Tryz.underlying102 Tryz.underlying9 (M5+1) _ HDP.out.need.2 _ _ _ rfl rfl rfl s rfl true rfl ?_;intro w7 hM7 hT7;rw [ndEnv_set] at hM7;have hD7:=HDP.out.needTurn (by omega) hT7 hM7;have hPB:=(Zae hD7.pbox).1;obtain⟨m0,m1,m2,m3,m4⟩:=hPB;have hH7:=hH.below hD7.below;have d2:=hH7.cell d2;have d3:=hH7.cell d3;have d4:=hH7.cell d4;have d5:=hH7.cell d5)
  have hT7d:TdI w7 w7 TB NB t0:=⟨Below.refl _ _,htn,vt,(hT7.block (by omega)).trans HTB.out,Ze6 HRW.out hT7 (Zbn HRW.out (by omega))⟩
  refine (snames_any _ _ H _ (todoB_seerK H w7 TB NB hH7 (fun b o e => .inl (by have:=hH.lt e;omega))) x _ HEX.out t0 w7 (by omega) ⟨hT7d,fun _ _ _ h=>h⟩).mono ?_
  rintro r wn ⟨rfl,⟨hTn,_⟩,_⟩
  have HDN:=Zhd (hD7.under hlow hTn.below)
  have HTN:=Zhd hTn.rebase
  clear hTn hT7d hD7 hM7 hT7 m0 m1 m2 m3 m4 d2 d3 d4 d5 HTB HRW HDP HTP
  go_wp2_with fail
  go_roundg (gk - 1)
  case rel=>
   obtain⟨f0,rfl⟩:∃ f0,gk=f0+1:=⟨gk - 1,by have:=HLB.out;omega⟩
   have hrs:=Zit HEX0.out hin
   exact⟨t0++Za7 x,s :: nd,HDN.out,HTN.out,by rw [← HNB.out];simp [Zhf,HEX0.out,hin],by have:=HLB.out;rw [List.length_append];omega,by omega⟩
  have:=HLB.out;omega
theorem Zi7 {p:Pr} (h:(Za0 p).1=0):Za0 p=(0, -1):=by
 obtain⟨l,ho,hh,hl⟩:=Zbx h
 revert h
 unfold Za0
 cases hlm:Zeo p with
 | error e => 
  unfold Zeo at hlm
  rw [ho] at hlm
  cases hlm
 | ok l=>
  dsimp only
  split
  ·intro h;cases h
  split
  ·intro h;cases h
  intro _;rfl
theorem restN_le (nd:List ByteArray):∀ fl:List Fl,Zgb nd fl≤fl.length+Ex.partsL (fl.map (·.e))
 | []=>Nat.le_refl _
 | f :: l=>by
  have h1:=restN_le nd l
  have h2:=namesX_len f.e
  simp only [Zgb,List.length_cons,List.map_cons,Ex.partsL]
  split<;>omega
theorem rootsM_le (p:Pr):(Zd8 p).length≤p.outs.length+p.fl.length+Ex.partsL p.as+Ex.partsL p.cs:=by
 have h1:=Zdz (p.as++p.cs)
 have h2:=List.length_filter_le (fun f:Fl=>Zax f.e) p.fl
 rw [Zbi] at h1
 unfold Zd8
 rw [List.length_append,List.length_append,List.length_map]
 omega
theorem drop_sz {p:Pr} (h1:p.outs.length≤1048576) (h2:p.fl.length≤1000000) (h3:Ex.partsL p.terms≤1000000):(Zd8 p).length+Zgb [] p.fl≤100000000:=by
 have a:=restN_le [] p.fl
 have b:=rootsM_le p
 unfold Pr.terms at h3
 rw [Zbi,Zbi] at h3
 omega
theorem bare_drop:Zb8 Zi8=Zi8:=by kernel_rfl
theorem thin_any (H:Kn) (T:Zbo H) (sp:Nat→Addr) (w:World) (hH:H.In w) (S:Sen5 w sp):
  Calls Tryz.prog 5 #[] w fun r w'=>r = .returned (.bool true)∧Below w.heap.size w w':=by
 have hle:∀ w1,Below w.heap.size w w1→Zbo (Zai w1):=fun w1 hb=>T.le (Zbl (hH.below hb))
 have HLE:=Zhd hle
 clear hle
 go_enter Tryz.func5,Tryz.ntmps5
 go_wp2_with fail
 refine (lbare_any _).mono ?_
 rintro r w1 ⟨vi,vo,vl,va,vc,rfl,hp,hb1⟩
 have HB1:=Zhd hb1
 have HP1:=Zhd hp
 clear hb1 hp
 go_wp2_with fail
 refine (drop_any _ (HLE.out _ HB1.out) sp Zi8 _ _ _ _ _ HP1.out ⟨by decide,by decide,by decide,by decide,by decide,by decide,drop_sz (by decide) (by decide) (by decide)⟩ (Zec _) w1 (Za8 _) (S.below HB1.out)).mono ?_
 rintro r w2 ⟨hb2,hpost⟩
 have HB2:=Zhd (HB1.out.trans (hb2.mono HB1.out.size))
 rw [bare_drop,bare_checkM] at hpost
 rcases hpost with ⟨_,ui,uo,ul,ua,uc,K,rfl,hpr,hK,hlo⟩ | ⟨h,_⟩
 case inr=>rcases h with h | h<;>exact absurd rfl h
 obtain⟨b,off,cap,rfl,_,_,hcs⟩:=FlsV.cell hpr.fl (by simp [Zi8])
 obtain⟨ax,cx,d0,_⟩:=hcs 0 (by simp [Zi8])
 have d0:K.cell b off=some (.string ⟨#[120]⟩):=by simpa [Zi8] using d0
 obtain⟨a1,c1,rfl⟩:=hpr.ins.len
 obtain⟨a2,c2,rfl⟩:=hpr.outs.len
 obtain⟨a4,c4,rfl⟩:=hpr.asr.len
 obtain⟨a5,c5,rfl⟩:=hpr.chk.len
 have d0:=hK.cell d0
 have hbl:b<w2.heap.size:=World.block_lt_of_cell? w2 _ d0
 clear hcs hpr hK hlo hb2
 simp only [Zi8,List.length_cons,List.length_nil]
 go_wp2_with fail
 go_ret
 exact⟨rfl,HB2.out.alloc HB2.out.size _⟩
end Go.Proofs.YtofameafdnkijaaGreatDoor
