/- Walks: (*lustrumref2.World).TickAt. -/
import Derived.Test.YtgoccoldkfpbgaaGreatDoorRg
import Derived.Test.YtgoccoldkfpbgaaGreatDoorWi
set_option linter.all false
namespace Go.Proofs.YtgoccoldkfpbgaaGreatDoor
set_option maxRecDepth 100000
set_option maxHeartbeats 16000000
open Go.RowKit Mx
theorem mWl3 {p:Prop} (h:p:=by
 refine hK.out _ _ (⟨_,_,_,hS1⟩) Ztr ?_
 clear hK K_
 try simp only [tkS]
 refine Zwo 15 rfl fun K_ hK=>?_
 go_simp
 go_at_call 52
 refine (HFL.out _ _ _ _ hS1.n.st).mono ?_
 rintro r0 w5 ⟨T5,u5,kl5,rfl,hM⟩
 have hS1:=hS1.later hM hrk
 have hge:=Nat.le_trans hge hM.gr.size
 have hbx:=hM.gr.heap hbx (by omega) (by omega) (by decide)
 refine hK.out _ _ (⟨_,_,_,hS1⟩) Ztr ?_
 clear hK K_
 try simp only [tkS]
 refine Zwo 17 rfl fun K_ hK=>?_
 obtain⟨q0,q1,f0,f1,_⟩:=Zak hbx
 have hS1:=hS0.box hS1 hbl hbx (.int .i64 zk) (.int .i64 zn)
 have hbx:=Ze5 hbx (.int .i64 zk) (.int .i64 zn)
 go_simp
 exact mWl2):p:=h
theorem mWl2 {p:Prop} (h:p:=by
 refine hK.out _ _ (⟨_,_,_,hS1⟩) Ztr ?_
 clear hK K_
 try simp only [tkS]
 refine Zwd ?_
 obtain⟨s0,s1,_,_,_⟩:=Zak hbx
 obtain⟨c0,_,_,_,c5⟩:=hS1.cellsA
 have c5:=c5 0
 have hn9:=fun o=>hS1.alloc o
 have hnb:=hS1.newB (.cells #[.int .i64 zk,.int .i64 zn] 75)
 simp only [World.size_alloc,World.size_setCell] at hnb
 have hr9:=fun o=>(hS1.alloc o).o
 have hl9:=fun o=>Nat.succ_le_of_lt (Array.getElem?_eq_some_iff.1 (hS1.alloc o).a).1
 go_wp2_with (at_builtin;have q:=hr9 (.cells #[.int .i64 zk,.int .i64 zn] 75);refine Zj7 57 75 2 16 _ Tryz.underlying57 Tryz.infoVl rfl (by decide) _ _ rfl rfl (A+1) _ _ _ rfl q ⟨_,0,none⟩ 1 [.int .i64 zk,.int .i64 zn] rfl rfl ?c1 ?c2 ?c3 ?c4 ?c5 ?_)
 case c1=>exact World.news_of_block hnb
 case c2=>simp [Value.oneCell']
 case c3=>omega
 case c4=>omega
 case c5=>exact hl9 _
 intro gg cap' w7 hown hgrow hat
 have hG:=(hn9 (.cells #[.int .i64 zk,.int .i64 zn] 75)).putO (y:=⟨zk,zn⟩) hown hgrow
 have g3:=((hn9 (.cells #[.int .i64 zk,.int .i64 zn] 75)).grown (hr9 (.cells #[.int .i64 zk,.int .i64 zn] 75)) (by decide) hgrow).2.2.trans (hn9 (.cells #[.int .i64 zk,.int .i64 zn] 75)).a
 obtain⟨y0,_,_,_,y4,_,_,_,_⟩:=Zd1 g3
 have HG:=Zhd hG
 clear hG g3 hown hgrow hat hn9 hr9 hl9
 go_wp2_with fail
 go_roundw
 case rel=>exact⟨m+1,_,_,_,_,by go_num,by omega,by rw [HMT.out];exact HG.out⟩
 simp [intOf];omega):p:=h
theorem mWl1 {p:Prop} (h:p:=by
 intro w hSw;obtain⟨T9,u9,kl9,hSw⟩:=hSw;obtain⟨z0,z1,z2,z3,z4,z5,z6,z7,z8,z9,z10,z11⟩:=hSw.n.st.cs;rw [HVO.out] at z1;have zs:=hSw.n.st.isin.cell hsc;go_simp<;>with_reducible rfl):p:=h
def TickC (x:WdW) (i:Nat):Prop:=∀ (K:Kn),WdOk x K→∀ (w:World) (T:List Bool) (u:Value) (kl:List KE),WdS x K w T u kl→
 Calls Tryz.prog 26 #[ptrV x.B,.int .i64 i] w fun ret w'=>∃ T' u' kl' ov cv,ret = .returned (.agg #[ov,.bool (Zdq x.R x.inp x.fv x.p i).asrt,.bool (Zdq x.R x.inp x.fv x.p i).trap,cv])∧WdN x K i (x.p.fl.length+1) w T kl w' T' u' kl'∧VlsV (Zbt x w.heap.size w') (Zdq x.R x.inp x.fv x.p i).out ov∧BlsV (Zbt x w.heap.size w') (Zdq x.R x.inp x.fv x.p i).checks cv
theorem all_take (f:Ex→Bool) (l:List Ex) (m:Nat) (h:m<l.length):(l.take (m+1)).all f=((l.take m).all f&&f l[m]):=by
 rw [List.take_succ_eq_append_getElem h,List.all_append]
 simp
theorem outs_flow {x:WdW} (hp:WdP x) (s:ByteArray) (hs:s∈x.p.outs):∃ k,∃ h:k<x.p.fl.length,x.p.fl[k].name=s∧getI (Zai x.p) s=(k:Int)∧fIdx x.p s=some k:=by
 have hck:=(Zbk hp.ho).1
 have hout:Zb3 (x.p.fl.map (·.name)) [] x.p.outs=true:=by
  unfold Zaj at hck
  rw [hp.hks] at hck
  dsimp only at hck
  split at hck
  ·cases hck
  rename_i h;simpa using h
 have h1:=Ziu _ _ _ hout s hs
 obtain⟨k,hk,e⟩:=List.mem_iff_getElem.1 h1
 have hk':k<x.p.fl.length:=by simpa using hk
 have e':x.p.fl[k].name=s:=by simpa using e
 refine⟨k,hk',e',?_,?_⟩
 ·rw [← e'];exact Zhh hck k hk'
 rw [← e'];exact Zif (Zgv hck) k hk'
theorem map_take1 {α β:Type} (f:α→β) (l:List α) (m:Nat) (h:m<l.length):(l.take (m+1)).map f=(l.take m).map f++[f l[m]]:=by
 rw [List.take_succ_eq_append_getElem h,List.map_append]
 rfl
theorem put4_own {W:World} {R base:Nat} {T:TypeId} {k n:Nat} {v:Value} {xs:List Value} (h:W.ownsRow base T k v n xs) (hR:R<base) (a b c d:Value):(put4 W R a b c d).ownsRow base T k v n xs:=
 Zal (Zal (Zal (Zal h (a:=⟨R,0,none⟩) (Zbi h hR) a) (a:=⟨R,1,none⟩) (Zbi h hR) b) (a:=⟨R,2,none⟩) (Zbi h hR) c) (a:=⟨R,3,none⟩) (Zbi h hR) d
theorem TaS.done {x:WdW} {K:Kn} {i:Nat} {w:World} {T:List Bool} {kl:List KE} {A:Nat} {T1:List Bool} {u1:Value} {kl1:List KE} {uo:Value} {outs:List Vl} {asr:Bool} {uc:Value} {cks:List Bool} {wr:World} (h:TaS x K i w T kl w.heap.size A T1 u1 kl1 uo outs asr uc cks wr) (hKR:K w.heap.size=none):
  WdN x K i (x.p.fl.length+1) w T kl (put4 wr w.heap.size uo (.bool asr) (.bool false) uc) T1 u1 kl1∧VlsV (Zbt x w.heap.size (put4 wr w.heap.size uo (.bool asr) (.bool false) uc)) outs uo∧BlsV (Zbt x w.heap.size (put4 wr w.heap.size uo (.bool asr) (.bool false) uc)) cks uc:=by
 obtain⟨l1,l2,l3,l4⟩:=h.lt
 exact⟨h.n.setOwnR l2 l3 h.r hKR _ _ _ _,vls_clean (put4_own h.o (by omega) _ _ _ _) (by omega) (by omega) (by omega),bls_clean (put4_own h.c (by omega) _ _ _ _) (by omega) (by omega) (by omega)⟩
theorem asr_term (p:Pr):∀ e∈p.as,e∈p.terms:=fun e he=>by
 unfold Pr.terms
 exact List.mem_append_left _ (List.mem_append_right _ he)
theorem chk_term (p:Pr):∀ e∈p.cs,e∈p.terms:=fun e he=>by
 unfold Pr.terms
 exact List.mem_append_right _ he
theorem wtick_any {x:WdW} (hp:WdP x) {i:Nat} (hi:i<x.ins.length):TickC x i:=by
 intro K hok w T u kl hs
 have hRB:x.B<w.heap.size∧x.D<w.heap.size:=by have:=hp.bd;have:=hs.low;omega
 have hb0:=(Below.refl w.heap.size w).alloc (Nat.le_refl _) (.cells #[.slice none 0 0,.bool false,.bool false,.slice none 0 0] ftT)
 have hR0:=heap_alloc_new w (.cells #[.slice none 0 0,.bool false,.bool false,.slice none 0 0] ftT)
 have hN0:=(hs.refl i (x.p.fl.length+1)).below hb0
 have htl:x.p.terms.length≤4000:=by have:=Zbr x.p.terms;have:=hp.sz.2.1;omega
 have hlt0:w.heap.size<(w.alloc (.cells #[.slice none 0 0,.bool false,.bool false,.slice none 0 0] ftT)).heap.size:=by simp
 obtain⟨z0,z1,z2,z3,z4,_⟩:=hN0.st.cs
 have HTM:=Zhd (fun (wz:World) (hz:K.In wz)=>Zhe K x.p x.vi x.vo x.vl x.va x.vc hok.pr (by omega) wz hz)
 have HN0:=Zhd hN0
 have HR0:=Zhd hR0
 have HWA:=Zhd (fun e he=>wall_any hp hi e he)
 have HWT:=Zhd (world_all hp i hi)
 have hik:x.ins.length≤1000:=hp.sz.2.2.2
 have hfl4:x.p.fl.length≤400:=hp.sz.1
 clear hb0 hR0 hN0
 go_enter Tryz.func26,Tryz.ntmps26
 go_wp2_with fail
 refine (HTM.out _ HN0.out.st.isin).mono ?_
 rintro r0 w1 ⟨vt,K3,rfl,hvt,hst,hty⟩
 have hwl:(w.alloc (.cells #[.slice none 0 0,.bool false,.bool false,.slice none 0 0] ftT)).heap.size=w.heap.size+1:=by simp
 have hkn3:KnW x K3:=⟨by rw [hst.fresh _ (by omega)];exact hok.kn.b,by rw [hst.fresh _ (by omega)];exact hok.kn.d,fun g cs fr hg e=>by
  rcases hty g _ e with h | ⟨cs',h⟩
  ·exact hok.kn.r g cs fr hg h
  cases h⟩
 have hok3:=hok.le hst.le hkn3
 have hk3:∀ g,w.heap.size≤g→(∃ cs fr,K3 g=some (.cells cs ftT fr)∨K3 g=some (.cells cs 75 fr)∨K3 g=some (.cells cs 4 fr))→False:=fun g hg ⟨cs,fr,h⟩=>by
  rcases h with h | h | h
  all_goals
   rcases hty g _ h with h2 | ⟨cs',h2⟩
   ·have:=hs.isin.lt h2;omega
   cases h2
 have hN1:WdN x K3 i (x.p.fl.length+1) w T kl w1 T u kl:=(HN0.out.below hst.below).kn hst.isin
 have hR1:w1.heap[w.heap.size]?=some (.cells #[.slice none 0 0,.bool false,.bool false,.slice none 0 0] ftT (0,0)):=(hst.below.block _ hlt0).trans HR0.out
 obtain⟨atm,ctm,rfl⟩:=hvt.len
 have HVT:=Zhd hvt
 have HN1:=Zhd hN1
 have HR1:=Zhd hR1
 have HLE:=Zhd hst.le
 have HTRM:=Zhd hp.term
 clear hty hvt hN1 hR1 hst z0 z1 z2 z3 z4 hs
 go_wp2_with fail
 go_loopw [6] (fun z wr=>∃ (m:Nat) (T1:List Bool) (u1:Value) (kl1:List KE),z = .int .i64 m∧m≤x.p.terms.length∧WdN x K3 i (x.p.fl.length+1) w T kl wr T1 u1 kl1∧wr.heap[w.heap.size]?=some (.cells #[.slice none 0 0,.bool false,.bool false,.slice none 0 0] ftT (0,0))∧(Zfd x.R x.inp x.fv (x.p.terms.take m) i=true→T1.getD i false=true)) (fun z _=>x.p.terms.length - (intOf z).toNat)
 case atStart=>exact⟨0,T,u,kl,rfl,Nat.zero_le _,HN1.out,HR1.out,fun h=>by simp [Zfd] at h⟩
 obtain⟨m,T1,u1,kl1,rfl,hm,hN,hR,h2⟩:=hrel
 have H2:=Zhd h2
 clear h2
 by_cases hml:m<x.p.terms.length
 ·obtain⟨b0,o0,ax0,cx0,he0,c0,c1,c2,c3,hx0⟩:=HVT.out.at (i:=m) hml
  cases he0
  have HAT:=Zhd (allTs_take x x.p.terms m hml i)
  have HIH:=Zhd (fun w T u kl (h:WdS x K3 w T u kl)=>HWA.out _ (HTRM.out _ (List.getElem_mem hml)) K3 _ hok3 hx0 w T u kl h)
  have d0:=hN.st.isin.cell c0
  have d1:=hN.st.isin.cell c1
  have d2:=hN.st.isin.cell c2
  have d3:=hN.st.isin.cell c3
  clear hx0
  generalize x.p.terms[m]=y at *
  go_wp2_with fail
  refine (HIH.out _ _ _ _ hN.st).mono ?_
  rintro r0 w2 ⟨rfl,T3,u3,kl3,hM,hal⟩
  have HAL:=Zhd hal
  have HUP:=Zhd hM.up
  have hR:=hM.gr.heap hR hRB.1 hRB.2 (by decide)
  have hN:=hN.trans hM (.inr ⟨rfl,Nat.le_refl _⟩)
  clear hal hM
  go_wp2_with fail
  go_roundw
  case rel=>
   refine⟨m+1,T3,u3,kl3,by go_num,by omega,hN,hR,fun h=>?_⟩
   rw [HAT.out,Bool.or_eq_true] at h
   rcases h with h | h
   ·exact HUP.out i (H2.out h)
   exact HAL.out h
  simp [intOf];omega
 obtain rfl:m=x.p.terms.length:=by omega
 have hil:i<T1.length:=by rw [hN.st.len];exact hi
 have htr:T1[i]=x.tr i:=by
  have h1:=H2.out
  rw [List.take_length] at h1
  have h3:=hN.st.mark i
  have e:T1.getD i false=T1[i]:=by simp [List.getD_eq_getElem?_getD,hil]
  rw [e] at h1 h3
  have h1:x.tr i=true→T1[i]=true:=h1
  cases hc:x.tr i with
  | true=>exact h1 hc
  | false=>
   cases hd:T1[i] with
   | false=>rfl
   | true=>rw [h3 hd] at hc;cases hc
 have v10:wr.cell? ⟨x.B,10,none⟩=some (.slice (some ⟨x.D,0,none⟩) x.ins.length x.ins.length):=by rw [hN.st.cell];rfl
 have vD:wr.cell? ⟨x.D,i,none⟩=some (.bool (x.tr i)):=by rw [← htr];simp [World.cell?,hN.st.trap,hil]
 clear htr hil
 have hKR:K3 w.heap.size=none:=by
  cases hk:K3 w.heap.size with
  | none=>rfl
  | some ob=>
   have h1:=hN.st.isin _ ob hk
   rw [hR] at h1
   cases h1
   exact (hk3 _ (Nat.le_refl _) ⟨_,_,.inl hk⟩).elim
 have HTK:=Zhd (show Zdq x.R x.inp x.fv x.p i=if x.tr i then trapT else ⟨x.p.outs.map fun s=>x.fv (getI (Zai x.p) s).toNat i,x.p.as.all fun e=>decide ((x.V e i).n=1),false,x.p.cs.map fun e=>decide ((x.V e i).n=1)⟩ from rfl)
 cases hti:x.tr i
 all_goals rw [hti] at vD HTK
 rotate_left
 ·have HN:=Zhd ((hN.setOwnR hRB.1 hRB.2 hR hKR (.slice none 0 0) (.bool false) (.bool true) (.slice none 0 0)).kn (HLE.out.inOf (hN.setOwnR hRB.1 hRB.2 hR hKR (.slice none 0 0) (.bool false) (.bool true) (.slice none 0 0)).st.isin))
  go_upto_region 7 with (fail)
  obtain⟨_,_,_,_,f0,f1,f2,f3,_⟩:=Zd1 hR
  obtain⟨e0,e1,e2,e3,_⟩:=Zd1 (Zdv hR (.slice none 0 0) (.bool false) (.bool true) (.slice none 0 0))
  unfold put4 at e0 e1 e2 e3
  have E0:=Zhd e0
  have E1:=Zhd e1
  have E2:=Zhd e2
  have E3:=Zhd e3
  clear e0 e1 e2 e3
  go_wp2_with (guard_target =~ bodyPost _ _ _ _ _ _;have e0:=E0.out;have e1:=E1.out;have e2:=E2.out;have e3:=E3.out;refine bodyPost_ret (v := .agg #[.slice none 0 0,.bool false,.bool true,.slice none 0 0]) (by simp [results,Tryz.results26,go_sem,e0,e1,e2,e3]) rfl ?_;exact⟨_,_,_,_,_,by rw [HTK.out];rfl,HN.out,by rw [HTK.out];exact .inl ⟨rfl,none,0,rfl⟩,by rw [HTK.out];exact .inl ⟨rfl,none,0,rfl⟩⟩)
 have hS0:TaS x K3 i w T kl w.heap.size wr.heap.size T1 u1 kl1 (.slice none 0 0) [] true (.slice none 0 0) [] (wr.alloc (.cells #[.slice none 0 0,.bool true,.bool false,.slice none 0 0] ftT)):=
  ⟨hN.alloc _,(Below.heap_alloc wr _ _ (Zlt hR)).trans hR,heap_alloc_new _ _,World.ownsRow_nil _ _ _ _,World.ownsRow_nil _ _ _ _,⟨(Zlt hR),hRB.1,hRB.2,Nat.le_refl _⟩,hk3⟩
 have hAw:w.heap.size<wr.heap.size:=(Zlt hR)
 obtain⟨ao,co,hvo⟩:=hok3.pr.outs.len
 obtain⟨aa,ca,hva⟩:=hok3.pr.asr.len
 obtain⟨ac,cc,hvc⟩:=hok3.pr.chk.len
 have HS0:=Zhd hS0
 obtain⟨i0,hi0,hz0,hz1,hz2⟩:=info_parts Tryz.infoVl
 obtain⟨i1,hi1,hy0,hy1,hy2⟩:=info_parts Tryz.infoBool
 have HVO:=Zhd hvo
 have HVA:=Zhd hva
 have HVC:=Zhd hvc
 have HHP:=Zhd hp
 clear hS0 hvo hva hvc
 go_upto_region 9 with (fail)
 clear hN hR v10 vD H2 hp
 go_wp2_with fail
 generalize wr.alloc (.cells #[.slice none 0 0,.bool true,.bool false,.slice none 0 0] ftT)=W2 at *
 generalize wr.heap.size=A at *
 go_loopw [8] (fun z wr=>∃ (m:Nat) (T1:List Bool) (u1:Value) (kl1:List KE) (uo:Value),z = .int .i64 m∧m≤x.p.outs.length∧TaS x K3 i w T kl w.heap.size A T1 u1 kl1 uo ((x.p.outs.take m).map fun s=>x.fv (getI (Zai x.p) s).toNat i) true (.slice none 0 0) [] wr) (fun z _=>x.p.outs.length - (intOf z).toNat)
 case atStart=>exact⟨0,_,_,_,_,rfl,Nat.zero_le _,HS0.out⟩
 obtain⟨m,T1,u1,kl1,uo,rfl,hm,hS⟩:=hrel
 have v1:wr.cell? ⟨x.B,1,none⟩=some (.slice ao x.p.outs.length co):=by rw [hS.n.st.cell];show some x.vo=_;rw [HVO.out]
 have HS:=Zhd hS
 by_cases hml:m<x.p.outs.length
 ·obtain⟨bs,os,has,_,hsc⟩:=SlV.at (HVO.out▸hok3.pr.outs) hml
  subst has
  simp only [Nat.mul_one,Nat.add_zero,StrC] at hsc
  go_wp2_with fail
  obtain⟨k,hkl,hkn,hnk,hfi⟩:∃ k,∃ h:k<x.p.fl.length,x.p.fl[k].name=x.p.outs[m]∧getI (Zai x.p) x.p.outs[m]=(k:Int)∧fIdx x.p x.p.outs[m]=some k:=outs_flow HHP.out _ (List.getElem_mem hml)
  have HMT:=Zhd (show (x.p.outs.take (m+1)).map (fun s=>x.fv (getI (Zai x.p) s).toNat i)=(x.p.outs.take m).map (fun s=>x.fv (getI (Zai x.p) s).toNat i)++[x.fv (getI (Zai x.p) x.p.outs[m]).toNat i] from map_take1 (fun s=>x.fv (getI (Zai x.p) s).toNat i) x.p.outs m hml)
  obtain⟨⟨zk,zn⟩,hz⟩:∃ z,x.fv k i=z:=⟨_,rfl⟩
  have hmz:x.fv (getI (Zai x.p) x.p.outs[m]).toNat i=⟨zk,zn⟩:=by rw [hnk];exact hz
  have hfint:fInt x.p x.p.outs[m]=(k:Int):=by unfold fInt;rw [hfi]
  rw [hmz] at HMT
  have HFL:=Zhd (fun w T u kl (h:WdS x K3 w T u kl)=>HWT.out.2 k hkl K3 hok3 w T u kl h)
  rw [hz] at HFL
  have HFO:=Zhd (fun (wz:World) (hz:K3.In wz)=>Zg0 K3 x.p x.vi x.vo x.vl x.va x.vc hok3.pr (by omega) x.p.outs[m] wz hz)
  rw [hfint,HVO.out] at HFO
  have hrk:x.rk k+1≤x.p.fl.length+1:=by have:=rk_lt HHP.out hkl;omega
  obtain⟨au,cu,hue,_⟩:=Zas hS.o
  subst hue
  have hS0:=hS.below ((Below.refl _ _).drew)
  have hszr:w.heap.size<wr.heap.size∧A<wr.heap.size:=⟨(Zlt hS.r),(Zlt hS.a)⟩
  have hSX:TaE x K3 i w T kl w.heap.size A (.slice au ((x.p.outs.take m).map fun s=>x.fv (getI (Zai x.p) s).toNat i).length cu) ((x.p.outs.take m).map fun s=>x.fv (getI (Zai x.p) s).toNat i) true (.slice none 0 0) [] wr.drew:=⟨_,_,_,hS0⟩
  clear hkn hnk hfi hz hmz hfint hS
  generalize x.p.outs[m]=sn at *
  generalize hov:((x.p.outs.take m).map fun s=>x.fv (getI (Zai x.p) s).toNat i)=ov at *
  have hmo:=HHP.out.osz
  have hol:ov.length≤2000000:=by have:=HHP.out.osz;rw [← hov];simp;omega
  clear hov
  refine Zae (TaE x K3 i w T kl w.heap.size A (.slice au ov.length cu) ov true (.slice none 0 0) []) (fun _=>True) 99 (by kernel_rfl) ?_
  refine Go.w3 0 ?_
  iterate 13 ((first | (refine tk3 (v:=?_) rfl hSX Ztr ?hy ?_;(case hy=>exact mWl1)) | refine sk3 rfl hSX Ztr ?_ | refine no3 ?_);refine Zss ?_)
  refine Go.w3e ?_
  refine Go.w3 14 ?_
  iterate 1 ((first | (refine tk3 (v:=?_) rfl hSX Ztr ?hy ?_;(case hy=>exact mWl1)) | refine sk3 rfl hSX Ztr ?_ | refine no3 ?_);refine Zss ?_)
  refine Go.w3e ?_
  have hge:wr.heap.size≤wr.drew.heap.size:=Nat.le_refl _
  have hS1:=hS0
  refine Zb7 (i:=13) (j:=16) (o:=_) (o':=_) (by kernel_rfl) rfl rfl (fun K_ hK=>?_) (fun K_ hK=>?_)
  ·skip
   go_simp
   go_at_call 53
   refine (HFO.out _ hS1.n.st.isin).mono ?_
   rintro r0 w4 ⟨rfl,hb4⟩
   have hS1:=hS1.below hb4
   have hge:=Nat.le_trans hge hb4.size
   refine hK.out _ _ (⟨_,_,_,hS1⟩) Ztr ?_
   clear hK K_
   try simp only [tkS]
   refine Zb7 (i:=15) (j:=16) (o:=_) (o':=_) (by kernel_rfl) rfl rfl (fun K_ hK=>?_) (fun K_ hK=>?_)
   ·skip
    go_simp
    go_at_call 52
    refine (HFL.out _ _ _ _ hS1.n.st).mono ?_
    rintro r0 w5 ⟨T5,u5,kl5,rfl,hM⟩
    have hS1:=hS1.later hM hrk
    have hge:=Nat.le_trans hge hM.gr.size
    refine hK.out _ _ (⟨_,_,_,hS1⟩) Ztr ?_
    clear hK K_
    try simp only [tkS]
    refine Zwo 16 rfl fun K_ hK=>?_
    have hS9:=hS1.alloc (.cells #[.int .i64 zk,.int .i64 zn] 75)
    have hb9:=heap_alloc_new w5 (.cells #[.int .i64 zk,.int .i64 zn] 75)
    go_simp
    have hS1:=hS1.alloc (.cells #[.int .i64 0,.int .i64 0] 75)
    have hbx:=heap_alloc_new w5 (.cells #[.int .i64 0,.int .i64 0] 75)
    have hbl:=hge
    have hge:=Nat.le_trans hge (Nat.le_of_lt (Zlt hbx))
    refine hK.out _ _ (⟨_,_,_,hS1⟩) Ztr ?_
    clear hK K_
    try simp only [tkS]
    refine Zwo 17 rfl fun K_ hK=>?_
    go_simp
    have hS1:=hS9
    have hbx:=hb9
    exact mWl2
   skip
   go_simp
   have hS1:=hS1.alloc (.cells #[.int .i64 0,.int .i64 0] 75)
   have hbx:=heap_alloc_new w4 (.cells #[.int .i64 0,.int .i64 0] 75)
   have hbl:=hge
   have hge:=Nat.le_trans hge (Nat.le_of_lt (Zlt hbx))
   exact mWl3
  skip
  go_simp
  have hS1:=hS1.alloc (.cells #[.int .i64 0,.int .i64 0] 75)
  have hbx:=heap_alloc_new wr.drew (.cells #[.int .i64 0,.int .i64 0] 75)
  have hbl:=hge
  have hge:=Nat.le_trans hge (Nat.le_of_lt (Zlt hbx))
  have hbx:(wr.drew.alloc (.cells #[.int .i64 0,.int .i64 0] 75)).heap[wr.heap.size]?=some (.cells #[.int .i64 0,.int .i64 0] 75 (0,0)):=hbx
  have hbl:=Nat.le_refl wr.heap.size
  refine hK.out _ _ (⟨_,_,_,hS1⟩) Ztr ?_
  clear hK K_
  try simp only [tkS]
  refine Zwo 13 rfl fun K_ hK=>?_
  go_simp
  go_at_call 53
  refine (HFO.out _ hS1.n.st.isin).mono ?_
  rintro r0 w4 ⟨rfl,hb4⟩
  have hS1:=hS1.below hb4
  have hge:=Nat.le_trans hge hb4.size
  have hbx:=(hb4.block _ (Zlt hbx)).trans hbx
  exact mWl3
 obtain rfl:m=x.p.outs.length:=by omega
 have HS3:=Zhd (show TaS x K3 i w T kl w.heap.size A T1 u1 kl1 uo (x.p.outs.map fun s=>x.fv (getI (Zai x.p) s).toNat i) true (.slice none 0 0) [] wr from by
  have h:=HS.out
  rw [List.take_length] at h
  exact h)
 obtain⟨OUT,hOUT⟩:∃ O,O=x.p.outs.map fun s=>x.fv (getI (Zai x.p) s).toNat i:=⟨_,rfl⟩
 rw [← hOUT] at HS3 HTK
 clear HS HS0 hOUT hm
 go_wp2_with fail
 clear v1
 go_loopw [10] (fun z wr=>∃ (m:Nat) (T1:List Bool) (u1:Value) (kl1:List KE),z = .int .i64 m∧m≤x.p.as.length∧TaS x K3 i w T kl w.heap.size A T1 u1 kl1 uo OUT ((x.p.as.take m).all fun e=>decide ((x.V e i).n=1)) (.slice none 0 0) [] wr) (fun z _=>x.p.as.length - (intOf z).toNat)
 case atStart=>exact⟨0,_,_,_,rfl,Nat.zero_le _,HS3.out⟩
 obtain⟨m,T1,u1,kl1,rfl,hm,hS⟩:=hrel
 have hal9:x.p.as.length≤x.p.terms.length:=by simp only [Pr.terms,List.length_append];omega
 have v3:wr.cell? ⟨x.B,3,none⟩=some (.slice aa x.p.as.length ca):=by rw [hS.n.st.cell];show some x.va=_;rw [HVA.out]
 by_cases hml:m<x.p.as.length
 ·obtain⟨b0,o0,ax0,cx0,he0,c0,c1,c2,c3,hx0⟩:=(HVA.out▸hok3.pr.asr).at (i:=m) hml
  subst he0
  have d0:=hS.n.st.isin.cell c0
  have d1:=hS.n.st.isin.cell c1
  have d2:=hS.n.st.isin.cell c2
  have d3:=hS.n.st.isin.cell c3
  have HAL:=Zhd (all_take (fun e=>decide ((x.V e i).n=1)) x.p.as m hml)
  have HIH:=Zhd (fun w T u kl (h:WdS x K3 w T u kl)=>HWT.out.1 _ (HTRM.out _ (asr_term _ _ (List.getElem_mem hml))) K3 _ hok3 hx0 w T u kl h)
  clear hx0 c0 c1 c2 c3
  generalize x.p.as[m]=y at *
  generalize hal:(x.p.as.take m).all (fun e=>decide ((x.V e i).n=1))=a at *
  clear hal
  obtain⟨⟨zk,zn⟩,hz⟩:∃ z,x.V y i=z:=⟨_,rfl⟩
  rw [hz] at HAL HIH
  clear hz
  dsimp only at HAL
  go_wp2_with fail
  refine (HIH.out _ _ _ _ hS.n.st).mono ?_
  rintro r0 w2 ⟨T3,u3,kl3,rfl,hM,_⟩
  have hS3:=(hS.later hM (Nat.le_refl _)).alloc (.cells #[.int .i64 zk,.int .i64 zn] 75)
  obtain⟨s0,s1,_,_,_⟩:=Zak (heap_alloc_new w2 (.cells #[.int .i64 zk,.int .i64 zn] 75))
  obtain⟨_,c1,_,_,c5⟩:=hS3.cellsA
  have c5:=c5 1
  have HPA:=Zhd (fun b=>hS3.putA b)
  clear hM hS v3 d0 d1 d2 d3 HIH
  cases a
  ·go_wp2_with fail
   go_roundw
   case rel=>exact⟨m+1,_,_,_,by go_num,by omega,by rw [HAL.out];exact HPA.out false⟩
   simp [intOf];omega
  have hzd:(zn==1)=decide (zn=1):=Bool.beq_eq_decide_eq _ _
  obtain⟨bb,hbb⟩:∃ bb,(zn==1)=bb:=⟨_,rfl⟩
  rw [hbb] at hzd
  go_wp2_with fail
  go_roundw
  case rel=>exact⟨m+1,_,_,_,by go_num,by omega,by rw [HAL.out,← hzd];exact HPA.out bb⟩
  simp [intOf];omega
 obtain rfl:m=x.p.as.length:=by omega
 rw [List.take_length] at hS
 obtain⟨ASR,hASR⟩:∃ O,O=x.p.as.all fun e=>decide ((x.V e i).n=1):=⟨_,rfl⟩
 rw [← hASR] at hS HTK
 have HS4:=Zhd hS
 clear hS HS3 hASR hm
 go_wp2_with fail
 clear v3
 go_loopw [12] (fun z wr=>∃ (m:Nat) (T1:List Bool) (u1:Value) (kl1:List KE) (uc:Value),z = .int .i64 m∧m≤x.p.cs.length∧TaS x K3 i w T kl w.heap.size A T1 u1 kl1 uo OUT ASR uc ((x.p.cs.take m).map fun e=>decide ((x.V e i).n=1)) wr) (fun z _=>x.p.cs.length - (intOf z).toNat)
 case atStart=>exact⟨0,_,_,_,_,rfl,Nat.zero_le _,HS4.out⟩
 obtain⟨m,T1,u1,kl1,uc,rfl,hm,hS⟩:=hrel
 have v4:wr.cell? ⟨x.B,4,none⟩=some (.slice ac x.p.cs.length cc):=by rw [hS.n.st.cell];show some x.vc=_;rw [HVC.out]
 by_cases hml:m<x.p.cs.length
 ·obtain⟨b0,o0,ax0,cx0,he0,c0,c1,c2,c3,hx0⟩:=(HVC.out▸hok3.pr.chk).at (i:=m) hml
  subst he0
  have d0:=hS.n.st.isin.cell c0
  have d1:=hS.n.st.isin.cell c1
  have d2:=hS.n.st.isin.cell c2
  have d3:=hS.n.st.isin.cell c3
  have HMT:=Zhd (map_take1 (fun e=>decide ((x.V e i).n=1)) x.p.cs m hml)
  have HIH:=Zhd (fun w T u kl (h:WdS x K3 w T u kl)=>HWT.out.1 _ (HTRM.out _ (chk_term _ _ (List.getElem_mem hml))) K3 _ hok3 hx0 w T u kl h)
  have hcl:x.p.cs.length≤x.p.terms.length:=by simp only [Pr.terms,List.length_append];omega
  have hkl9:((x.p.cs.take m).map fun e=>decide ((x.V e i).n=1)).length≤4000:=by simp;omega
  clear hx0 c0 c1 c2 c3
  generalize x.p.cs[m]=y at *
  generalize (x.p.cs.take m).map (fun e=>decide ((x.V e i).n=1))=ks at *
  obtain⟨⟨zk,zn⟩,hz⟩:∃ z,x.V y i=z:=⟨_,rfl⟩
  rw [hz] at HMT HIH
  clear hz
  dsimp only at HMT
  obtain⟨au,cu,hue,_⟩:=Zas hS.c
  subst hue
  go_wp2_with fail
  refine (HIH.out _ _ _ _ hS.n.st).mono ?_
  rintro r0 w2 ⟨T3,u3,kl3,rfl,hM,_⟩
  have hS3:=(hS.later hM (Nat.le_refl _)).alloc (.cells #[.int .i64 zk,.int .i64 zn] 75)
  obtain⟨s0,s1,_,_,_⟩:=Zak (heap_alloc_new w2 (.cells #[.int .i64 zk,.int .i64 zn] 75))
  obtain⟨_,_,_,c3,c5⟩:=hS3.cellsA
  have c5:=c5 3
  clear hM hS v4 d0 d1 d2 d3 HIH
  have hn9:=hS3.alloc (.cells #[.bool (decide (zn=1))] 4)
  have hnb:=World.news_of_block (heap_alloc_new (w2.alloc (.cells #[.int .i64 zk,.int .i64 zn] 75)) (.cells #[.bool (decide (zn=1))] 4))
  simp only [World.size_alloc] at hnb
  have hl9:=Nat.succ_le_of_lt (Zlt hn9.a)
  go_wp2_with (at_builtin;refine Zj7 60 4 1 1 _ Tryz.underlying60 Tryz.infoBool rfl (by decide) _ _ rfl rfl (A+1) _ _ _ rfl hn9.c ⟨_,0,none⟩ 1 [.bool (decide (zn=1))] rfl rfl ?c1 ?c2 ?c3 ?c4 ?c5 ?_)
  case c1=>exact hnb
  case c2=>simp [Value.oneCell']
  case c3=>omega
  case c4=>omega
  case c5=>exact hl9
  intro gg cap' w7 hown hgrow hat
  have hG:=hn9.putC (y:=decide (zn=1)) hown hgrow
  have g3:=((hn9.grown hn9.c (by decide) hgrow).2.2).trans hn9.a
  obtain⟨_,_,_,y0,_,_,_,y4,_⟩:=Zd1 g3
  have HG:=Zhd hG
  clear hG g3 hown hgrow hat hn9 hl9 hnb
  go_wp2_with fail
  go_roundw
  case rel=>exact⟨m+1,_,_,_,_,by go_num,by omega,by rw [HMT.out];exact HG.out⟩
  simp [intOf];omega
 obtain rfl:m=x.p.cs.length:=by omega
 rw [List.take_length] at hS
 obtain⟨CKS,hCKS⟩:∃ O,O=x.p.cs.map fun e=>decide ((x.V e i).n=1):=⟨_,rfl⟩
 rw [← hCKS] at hS HTK
 obtain⟨au,cu,hue,_⟩:=Zas hS.o
 subst hue
 obtain⟨av,cv,hue,_⟩:=Zas hS.c
 subst hue
 obtain⟨HF1,HF2,HF3⟩:=hS.done hKR
 have HF1:=Zhd (HF1.kn (HLE.out.inOf HF1.st.isin))
 have HF2:=Zhd HF2
 have HF3:=Zhd HF3
 obtain⟨a0,a1,a2,a3,_⟩:=hS.cellsA
 have hR:=hS.r
 clear hS HS4 hm hCKS
 go_upto_region 24 with (fail)
 obtain⟨_,_,_,_,f0,f1,f2,f3,_⟩:=Zd1 hR
 obtain⟨e0,e1,e2,e3,_⟩:=Zd1 (Zdv hR (.slice au OUT.length cu) (.bool ASR) (.bool false) (.slice av CKS.length cv))
 unfold put4 at e0 e1 e2 e3
 have E0:=Zhd e0
 have E1:=Zhd e1
 have E2:=Zhd e2
 have E3:=Zhd e3
 clear e0 e1 e2 e3
 go_wp2_with (guard_target =~ bodyPost _ _ _ _ _ _;have e0:=E0.out;have e1:=E1.out;have e2:=E2.out;have e3:=E3.out;refine bodyPost_ret (v := .agg #[.slice au OUT.length cu,.bool ASR,.bool false,.slice av CKS.length cv]) (by simp [results,Tryz.results26,go_sem,e0,e1,e2,e3]) rfl ?_;exact⟨_,_,_,_,_,by rw [HTK.out];rfl,HF1.out,by rw [HTK.out];exact HF2.out,by rw [HTK.out];exact HF3.out⟩)
end Go.Proofs.YtgoccoldkfpbgaaGreatDoor
