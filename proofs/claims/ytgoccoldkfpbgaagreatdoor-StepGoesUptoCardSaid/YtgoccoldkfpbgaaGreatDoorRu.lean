/- Walks: flow.Run. -/
import Derived.Test.YtgoccoldkfpbgaaGreatDoorRg
import Derived.Test.YtgoccoldkfpbgaaGreatDoorTk
import Derived.Test.YtgoccoldkfpbgaaGreatDoorCo
import Derived.Test.YtgoccoldkfpbgaaGreatDoorTkM
import Derived.Test.YtgoccoldkfpbgaaGreatDoorKi
import Derived.Test.YtgoccoldkfpbgaaGreatDoorWdR
import Derived.Test.YtgoccoldkfpbgaaGreatDoorEof
set_option linter.all false
namespace Go.Proofs.YtgoccoldkfpbgaaGreatDoor
set_option maxRecDepth 100000
set_option maxHeartbeats 16000000
open Go.RowKit Mx
theorem mRu1 {p:Prop} (h:p:=by
 go_wp2_with fail
 go_quiet (fail)
 go_wp2_with fail
 all_goals go_ret2
 all_goals unfold Zgf
 all_goals rw [HX.out]
 all_goals exact⟨by first | exact HB1.out.drew | exact Zbw HB1.out _,_,rfl,.inl ⟨rfl,rfl⟩⟩):p:=h
theorem Tryz.infoTk:(Tryz.prog.info? 62).map (fun i=>(i.zero,i.size,i.bytes))=some (some (.agg #[.slice none 0 0,.bool false,.bool false,.slice none 0 0]),4,56):=by kernel_rfl
theorem run_any (H:Kn) (T:Zbl H) (sp:Nat→Addr) (p:Pr) (vi vo vl va vc:Value) (hp:PrP H p vi vo vl va vc) (ins:List (List Vl)) (vin:Value) (hi:InsV H ins vin) (w:World) (hH:H.In w) (S:Sen5 w sp) (nb:Bool) (ni:Int)
  (hsz:p.ins.length≤1000000∧p.fl.length≤1000000∧p.outs.length≤1000000000∧p.as.length≤1000000∧p.cs.length≤1000000∧∀ l∈ins,l.length≤1000000) (hpt:Ex.partsL p.terms≤1000000000):
  Calls Tryz.prog 8 #[.agg #[vi,vo,vl,va,vc],vin,.bool nb,.int .i64 ni] w (Zgf sp nb ni p ins w):=by
 obtain⟨z1,z2,z3,z4,z5,z6⟩:=hsz
 have HP:=Zhd hp
 obtain⟨h1,h2,h3,h4,h5⟩:=hp
 obtain⟨ai,ci,rfl⟩:=h1.len
 obtain⟨ao,co,rfl⟩:=h2.len
 obtain⟨al,cl,rfl⟩:=h3.len
 obtain⟨aa,ca,rfl⟩:=h4.len
 obtain⟨ac,cc,rfl⟩:=h5.len
 obtain⟨an,cn,rfl⟩:=hi.len
 have HI:=Zhd hi
 clear h1 h2 h3 h4 h5 hi
 go_enter Tryz.func8,Tryz.ntmps8
 go_wp2_with fail
 have hb0:Below w.heap.size w (w.alloc (.cells #[.slice ai p.ins.length ci,.slice ao p.outs.length co,.slice al p.fl.length cl,.slice aa p.as.length ca,.slice ac p.cs.length cc] 41)):=(Below.refl _ _).alloc (Nat.le_refl _) _
 refine (compile_any H T sp p _ _ _ _ _ HP.out _ (hH.below hb0) (S.below hb0) nb ni ⟨z1,z2,z3,z4,z5⟩ hpt).mono ?_
 rintro r w1 ⟨hb1,hpost⟩
 have HB1:=Zhd (hb0.trans (hb1.mono (by simp)))
 have hz1:w.heap.size+1≤w1.heap.size:=by have:=hb1.size;simp at this;omega
 have S1:=S.below HB1.out
 clear hb0 hb1
 by_cases hc0:(Za2 p).1=0
 case neg=>
  rw [if_neg hc0] at hpost
  obtain⟨v,rfl,hv⟩:=hpost
  have HV:=Zhd hv
  have HX:=Zhd (show runE p ins ni=Za2 p from by unfold runE;rw [if_pos hc0])
  obtain⟨tv,pv,hve⟩:∃ tv pv,v = .iface tv pv:=by
   rcases hv with ⟨_,h⟩ | ⟨_,N,h,_⟩
   ·obtain⟨c,hc⟩:∃ c,(Za2 p).1=c+1:=⟨(Za2 p).1 - 1,by omega⟩
    rw [hc,Ze9] at h
    exact⟨_,_,h⟩
   exact⟨_,_,h⟩
  subst hve
  clear hv
  go_wp2_with fail
  go_ret2
  unfold Zgf
  rw [HX.out,if_neg hc0]
  exact⟨HB1.out,_,rfl,HV.out⟩
 rw [if_pos hc0] at hpost
 obtain⟨B,ks,ord,hks,ho,rfl,hC,hgB⟩:=hpost
 have HKS:=Zhd hks
 have HO:=Zhd ho
 have HC:=Zhd hC
 have HX0:=Zhd (show runE p ins ni=if 300<ins.length∨ni < -128∨127<ni then (2, -1) else match ins.findIdx? (fun l => !Zav p.ins l l.length) with | some i=>(5,(i:Int)) | none=>(0, -1) from by unfold runE;rw [if_neg (fun h=>h hc0)]<;>rfl)
 have HC0:=Zhd hc0
 clear hks ho hC hc0
 have c1:=S1.c1
 by_cases hx1:300<ins.length
 ·have q1:(300:Int)<ins.length:=by omega
  have HX:=Zhd (show runE p ins ni=(2, -1) from by rw [HX0.out,if_pos (.inl hx1)])
  exact mRu1
 by_cases hx2:ni < -128
 ·have q1:¬ (300:Int)<ins.length:=by omega
  have HX:=Zhd (show runE p ins ni=(2, -1) from by rw [HX0.out,if_pos (.inr (.inl hx2))])
  exact mRu1
 by_cases hx3:127<ni
 ·have q1:¬ (300:Int)<ins.length:=by omega
  have HX:=Zhd (show runE p ins ni=(2, -1) from by rw [HX0.out,if_pos (.inr (.inr hx3))])
  exact mRu1
 have q1:¬ (300:Int)<ins.length:=by omega
 have HX0:=Zhd (show runE p ins ni=match ins.findIdx? (fun l => !Zav p.ins l l.length) with | some i=>(5,(i:Int)) | none=>(0, -1) from by rw [HX0.out,if_neg (by omega)])
 have HK0:=Zhd (show H.le (Zag w1) from all_of (hH.below HB1.out))
 clear c1
 go_wp2_with fail
 clear q1 hx2 hx3
 go_loopw [43] (fun i wr=>∃ k:Nat,i = .int .i64 k∧k≤ins.length∧Below w1.heap.size w1 wr∧∀ j (hj:j<ins.length),j<k→Zav p.ins ins[j] ins[j].length=true) (fun i _=>ins.length - (intOf i).toNat)
 case atStart=>exact⟨0,rfl,Nat.zero_le _,Below.refl _ _,fun j _ h=>by omega⟩
 obtain⟨k,rfl,hk,hb,hno⟩:=hrel
 have HB:=Zhd hb
 have HNO:=Zhd hno
 have HBW:=Zhd (HB1.out.trans (hb.mono (by omega)))
 clear hb hno
 by_cases hkl:k<ins.length
 ·obtain⟨b,off,haf,_,v,c0,hv⟩:=SlV.at HI.out hkl
  have c0:H.cell b (off+k * 1+0)=some v:=c0
  simp only [Nat.mul_one,Nat.add_zero] at c0
  have HLN:=Zhd (show ins[k].length≤1000000 from z6 _ (List.getElem_mem hkl))
  have HYES:=Zhd (show Zav p.ins ins[k] ins[k].length=false→runE p ins ni=(5,(k:Int)) from fun h=>by
   rw [HX0.out,show ins.findIdx? (fun l => !Zav p.ins l l.length)=some k from List.findIdx?_eq_some_iff_getElem.2 ⟨hkl,by simp [h],fun j hj=>by simp [HNO.out j (by omega) hj]⟩])
  have HNOT:=Zhd (show Zav p.ins ins[k] ins[k].length=true→∀ j (hj:j<ins.length),j<k+1→Zav p.ins ins[j] ins[j].length=true from fun h j hj hjk=>by
   by_cases hjk':j<k
   ·exact HNO.out j hj hjk'
   obtain rfl:j=k:=by omega
   exact h)
  generalize ins[k]=l at *
  obtain⟨av,cv,rfl⟩:=hv.len
  have c0:=(hH.below HBW.out).cell c0
  have HV:=Zhd hv
  subst haf
  obtain⟨cs,vI,vo,vf,va,vc,vu,vM,hcb,⟨e0,h0⟩,_,_,_,_,_,⟨e10,h10⟩⟩:=HC.out.ex
  have c4:=(S.below HBW.out).c4
  have hcall:=inputs_any (Zag w1) B cs p.ins l vI _ hcb e0 h0 (SlV.le hv HK0.out VlC.mono) ⟨by have:=HLN.out;omega,by omega⟩ wr ((Za0 w1).below HB.out)
  clear HNO hv hcb e0 h0 e10 h10
  cases hok:Zav p.ins l l.length with
  | false=>
   rw [hok] at hcall
   have HX:=Zhd (HYES.out hok)
   clear hok
   go_wp2_with (go_at_call 32;refine hcall.mono ?_;rintro ret w2 ⟨rfl,hb2⟩;have HB2:=Zhd (HBW.out.trans (hb2.mono HBW.out.size));have c4:=(S.below HB2.out).c4)
   go_region
   all_goals go_wp2_with fail
   all_goals go_ret2
   all_goals unfold Zgf
   all_goals rw [HX.out]
   all_goals exact⟨by first | exact (HB2.out.alloc HB2.out.size _).drew | exact (HB2.out.drew).alloc HB2.out.size _ | exact ((HB2.out.drew).alloc HB2.out.size _).drew | exact HB2.out.alloc HB2.out.size _,_,rfl,.inr ⟨by omega,w2.heap.size,rfl,heap_alloc_new _ _⟩⟩
  | true=>
   rw [hok] at hcall
   have HN2:=Zhd (HNOT.out hok)
   clear hok
   go_wp2_with (go_at_call 32;refine hcall.mono ?_;rintro ret w2 ⟨rfl,hb2⟩;have HB2:=Zhd (HB.out.trans (hb2.mono HB.out.size)))
   go_roundw
   case rel=>exact⟨k+1,by go_num,by omega,HB2.out,HN2.out⟩
   simp [intOf];omega
 obtain rfl:k=ins.length:=by omega
 have HALL:=Zhd (show ∀ l∈ins,Zav p.ins l l.length=true from fun l hl=>by
  obtain⟨j,hj,rfl⟩:=List.mem_iff_getElem.1 hl
  exact HNO.out j hj hj)
 have HX:=Zhd (show runE p ins ni=(0, -1) from by
  rw [HX0.out,List.findIdx?_eq_none_iff.2 fun l hl=>by simp [HALL.out l hl]])
 clear HNO HX0 hk hkl
 obtain⟨cs,vI,vo,vf,va,vc,vu,vM,hcb,_,_,_,_,_,_,⟨e10,h10⟩⟩:=HC.out.ex
 have HCD:=Zhd (Zkg HC0.out HKS.out HO.out nb ni z3 z4 z5)
 obtain⟨R,hR⟩:∃ R:REnv,R=⟨ks,Zac p,getI (Zai p),nb,ni⟩:=⟨_,rfl⟩
 have hnb:R.nb=nb:=by rw [hR]
 have hni:R.ni=ni:=by rw [hR]
 have HR:=Zhd hR
 rw [← hR] at HC HCD h10
 have hst:=start_any R (Zag w1) B cs (Zab 0 p.terms) vM hcb e10 h10 (by rw [Za1];exact HCD.out.z6) (wr.alloc (.cells #[.bool nb,.int .i64 ni] 88)) ((((Za0 w1).below HB.out)).alloc _)
 rw [hnb,hni] at hst
 clear hcb e10 h10 hR
 go_wp2_with (go_at_call 33;refine hst.mono ?_;rintro ret w3 ⟨vm0,rfl,hm0,hb3⟩;have hN3:=(hb3.block wr.heap.size (by simp)).trans (heap_alloc_new wr (.cells #[.bool nb,.int .i64 ni] 88));have HB3:=Zhd ((HBW.out.alloc HBW.out.size (.cells #[.bool nb,.int .i64 ni] 88)).trans (hb3.mono (by have:=HBW.out.size;simp;omega)));have HB13:=Zhd ((HB.out.alloc HB.out.size (.cells #[.bool nb,.int .i64 ni] 88)).trans (hb3.mono (by have:=HB.out.size;simp;omega))))
 have n0:(Zag w3).cell wr.heap.size 0=some (.bool nb):=by rw [Zad];simp [World.cell?,hN3]
 have n1:(Zag w3).cell wr.heap.size 1=some (.int .i64 ni):=by rw [Zad];simp [World.cell?,hN3]
 have N0:=Zhd n0
 have N1:=Zhd n1
 have hle13:(Zag w1).le (Zag w3):=all_of ((Za0 w1).below HB13.out)
 have HCK:=Zhd (HC.out.le hle13)
 have HIK:=Zhd (InsV.le (Kn.le_trans HK0.out hle13) HI.out)
 have HS0:=Zhd (RuS.init (DT:=62) HB3.out hm0)
 have HML:=Zhd (show (Zbb R (Zab 0 p.terms)).length=Zam p.terms from by unfold Zbb;rw [List.length_map,Za1])
 have FIN:=Zhd (show ∀ (os:List (Tk×Value×Value)) (u:Value) (K:Kn) (ms:List Vl) (vm:Value) (wx:World),RuS 62 (Zag w3) w wx w3.heap.size os u K ms vm→os.map (·.1)=Zg3 R (cdOf p ord) true (Zbb R (Zab 0 p.terms)) ins→Zgf sp nb ni p ins w (.returned (.tuple #[u,.nilIface])) wx from fun os u K ms vm wx hS he=>by
  unfold Zgf
  rw [HX.out,if_pos rfl]
  refine⟨hS.below,ks,ord,u,HKS.out,HO.out,rfl,?_⟩
  rw [← HR.out,← he]
  exact hS.fin)
 clear hm0 hb3 hN3 n0 n1 hle13 hst HB HBW HB1 HB13 HK0 HX HC HI S1 hgB
 generalize hN14:wr.heap.size=N14 at *
 clear hN14
 obtain⟨ks1,hks1⟩:∃ x,x=Zbb R (Zab 0 p.terms):=⟨_,rfl⟩
 rw [← hks1] at HS0 HML FIN
 clear hks1
 go_wp2_with fail
 go_loopw [15,16,66] (fun vm u i wr=>∃ (k:Nat) (os:List (Tk×Value×Value)) (K:Kn) (ms:List Vl),i = .int .i64 k∧k≤ins.length∧RuS 62 (Zag w3) w wr w3.heap.size os u K ms vm∧ms.length=Zam p.terms∧os.map (·.1)++Zg3 R (cdOf p ord) (decide (k=0)) ms (ins.drop k)=Zg3 R (cdOf p ord) true ks1 ins∧os.length=k) (fun _ _ i _=>ins.length - (intOf i).toNat)
 case atStart=>exact⟨0,[],_,_,rfl,Nat.zero_le _,HS0.out,HML.out,by simp,rfl⟩
 obtain⟨k,os,K,ms,rfl,hk,hS,hml,hgo,hol⟩:=hrel
 subst hol
 have HS:=Zhd hS
 have HMS:=Zhd hml
 have HGO:=Zhd hgo
 obtain⟨au,cu,hue,_⟩:=Zas hS.row
 subst hue
 clear hS hml hgo
 by_cases hkl:os.length<ins.length
 ·obtain⟨b,off,haf,_,v,c0,hv⟩:=SlV.at HIK.out hkl
  have c0:(Zag w3).cell b (off+os.length * 1+0)=some v:=c0
  simp only [Nat.mul_one,Nat.add_zero] at c0
  have hil:=HALL.out _ (List.getElem_mem hkl)
  have hgo:=HGO.out
  rw [List.drop_eq_getElem_cons hkl] at hgo
  simp only [Zg3] at hgo
  generalize ins[os.length]=l at *
  obtain⟨av,cv0,rfl⟩:=hv.len
  have hil2:l.length=p.ins.length:=by
   unfold Zav at hil
   simp only [Bool.and_eq_true,decide_eq_true_eq] at hil
   exact hil.1
  have c0:=HS.out.isin.cell (HS.out.le.cell c0)
  have n0:=HS.out.isin.cell (HS.out.le.cell N0.out)
  have n1:=HS.out.isin.cell (HS.out.le.cell N1.out)
  subst haf
  obtain⟨fb,hfb⟩:∃ fb:Bool,fb=decide (os.length=0):=⟨_,rfl⟩
  have hf2:((os.length:Int)==0)=fb:=by rw [hfb];by_cases h:os.length=0<;>simp [h]
  have hcd:=HCD.out
  have hcall:=tick_any R K p ord B (HCK.out.le HS.out.le) hcd.f hcd.pa hcd.nm hcd.od hcd.ou ⟨hcd.z1,hcd.z2,hcd.z3,hcd.z4,hcd.z5,hcd.z6,hcd.z7⟩ hcd.ps fb ms l _ _ HS.out.mem (SlV.le hv HS.out.le VlC.mono) HMS.out hil2 wr HS.out.isin
  rw [hnb,hni] at hcall
  rw [← hfb] at hgo
  have hnl:=tickM_len R (cdOf p ord) fb ms l
  rw [show (cdOf p ord).ms.length=Zam p.terms from hcd.ml] at hnl
  generalize Zco R (cdOf p ord) fb ms l=X at *
  obtain⟨⟨xo,xa,xt,xc⟩,xm⟩:=X
  dsimp only at hcall hgo hnl
  have HG2:=Zhd hgo
  have HNL:=Zhd hnl
  obtain⟨i0,hi0,hz0,hz1,hz2⟩:=info_parts Tryz.infoTk
  have hfb0:fb=decide (os.length=0):=hfb
  have HFB:=Zhd hfb0
  clear hgo hnl hfb hfb0 hil hil2 hv hcd
  go_wp2_with fail
  refine hcall.mono ?_
  rintro ret w5 ⟨ov,cv,u5,rfl,hk5,hm5,hb5⟩
  obtain⟨aov,cov,rfl⟩:=hk5.outs.len
  obtain⟨acv,ccv,rfl⟩:=hk5.checks.len
  obtain⟨a5,c5,rfl⟩:=hm5.len
  obtain⟨hS5,hK5⟩:=HS.out.tick hb5 hk5 hm5
  have HLT:=Zhd (fun g hg=>(hS5.row.lt g hg).2)
  have HS5:=Zhd (hS5.alloc (.cells #[.slice aov xo.length cov,.bool xa,.bool xt,.slice acv xc.length ccv] 62))
  have HK5:=Zhd hK5
  have HBX:=Zhd (heap_alloc_new w5 (.cells #[.slice aov xo.length cov,.bool xa,.bool xt,.slice acv xc.length ccv] 62))
  clear hS5 hK5 hk5 hm5 hcall hb5 c0 n0 n1
  go_wp2_with (at_builtin;refine Zj7 32 62 4 56 _ Tryz.underlying32 Tryz.infoTk rfl (by decide) _ _ rfl rfl w3.heap.size _ _ _ rfl (HS5.out.alloc _).row ⟨_,0,none⟩ 1 [.slice aov xo.length cov,.bool xa,.bool xt,.slice acv xc.length ccv] rfl rfl ?c1 ?c2 ?c3 ?c4 ?c5 ?_)
  case c1=>
   have h:=heap_alloc_new (w5.alloc (.cells #[.slice aov xo.length cov,.bool xa,.bool xt,.slice acv xc.length ccv] 62)) (.cells #[.slice aov xo.length cov,.bool xa,.bool xt,.slice acv xc.length ccv] 62)
   rw [World.size_alloc] at h
   exact World.news_of_block h
  case c2=>simp [Value.oneCell']
  case c3=>omega
  case c4=>omega
  case c5=>exact (HS5.out.alloc _).low
  intro gg cap' w6 hown hgrow hat
  have hbx6:w6.heap[w5.heap.size]?=some (.cells #[.slice aov xo.length cov,.bool xa,.bool xt,.slice acv xc.length ccv] 62 (0,0)):=by
   rw [hgrow.block _ (by simp;omega) (fun e=>by have:=HLT.out _ e.symm;omega)]
   rw [((Below.refl _ (w5.alloc (.cells #[.slice aov xo.length cov,.bool xa,.bool xt,.slice acv xc.length ccv] 62))).alloc (Nat.le_refl _) (.cells #[.slice aov xo.length cov,.bool xa,.bool xt,.slice acv xc.length ccv] 62)).block _ (by simp)]
   exact HBX.out
  have t2:w6.cell? ⟨w5.heap.size,2,none⟩=some (.bool xt):=by simp [World.cell?,hbx6]
  have HS6:=Zhd ((HS5.out.alloc _).app HK5.out hown hgrow (by rw [World.size_alloc,World.size_alloc];exact hat))
  clear hown hgrow hat hbx6
  cases xt with
  | true=>
   go_wp2_with fail
   go_ret2
   refine FIN.out _ _ _ _ _ _ HS6.out ?_
   have h:=HG2.out
   simp only [if_true] at h
   rw [List.map_append]
   exact h
  | false=>
   go_wp2_with fail
   refine⟨⟨os.length+1,_,_,_,rfl,by omega,HS6.out,HNL.out rfl,?_,by simp⟩,by simp [intOf];omega⟩
   have h:=HG2.out
   simp only [Bool.false_eq_true,if_false] at h
   rw [List.map_append,show decide (os.length+1=0)=false from by simp,List.append_assoc]
   exact h
 have hl:os.length=ins.length:=by omega
 have h:=HGO.out
 rw [List.drop_of_length_le (by omega)] at h
 simp only [Zg3,List.append_nil] at h
 have HFIN:=Zhd (FIN.out _ _ _ _ _ _ HS.out h)
 clear h FIN HGO
 go_wp2_with fail
 go_ret2
 exact HFIN.out
theorem step_append_run {P:Program} {w:World} {ops:Array Oper} {o:Oper} {a:Act} {K:Act→World→Prop} {Q:Exit→Act→World→Prop} {E:Prop} (hg:o.guard=none) (t u:TypeId) (x y:Operand)
  (hop:o.op = .call { callee := .builtin .append,args := #[x,y],argTypes := #[t,u] }) (v1 v2:Value) (h1:a.eval x=v1) (h2:a.eval y=v2) (v:Value) (w':World)
  (hrun:∀ ty,(Builtin.append_ #[t,u] ty #[v1,v2]).run P w = .ok v w') (hK:K (a.put o.dst v) w'):if Region.wanted o (yielded ops a.tmps)=true then Oper.wp P o a w K Q else E:=by
 have hw:Region.wanted o (yielded ops a.tmps)=true:=by simp [Region.wanted,hg]
 rw [if_pos hw]
 have hr:=hrun o.type
 unfold Oper.wp
 simp [execOp,hop,resolve,invoke,builtin,h1,h2,hr,Result.andThen]
 exact hK
def mcV (R:REnv) (B:Nat) (s:Mc) (vm:Value):Array Value := #[ptrV B,.bool R.nb,.int .i64 R.ni,.bool s.first,vm,.bool s.trapped]
structure McAt (MT NT CT:TypeId) (R:REnv) (p:Pr) (ord:List Nat) (K:Kn) (w:World) (M B:Nat) (s:Mc) (vm:Value):Prop where
 box:w.heap[M]?=some (.cells (mcV R B s vm) MT (0,0))
 isin:K.In w
 no:K M=none
 code:CodeAt NT CT R K p ord B
 mem:VlsV K s.mem vm
 len:s.mem.length=Zam p.terms
theorem joinKn_gr {K:Kn} {w w':World} {M:Nat} (h:K.In w) (g:Gr2 w w' M none) (hM:K M=none):(Zcz K w.heap.size w').In w':=fun b o e=>by
 unfold Zcz at e
 split at e
 ·rename_i hb
  rw [g.block b hb (fun e2=>by rw [e2,hM] at e;cases e) (by simp)]
  exact h b o e
 exact e
theorem joinKn_at {K:Kn} {n:Nat} {w:World} {M:Nat} (h:M<n):Zcz K n w M=K M:=by unfold Zcz;rw [if_pos h]
section
variable {MT NT CT : TypeId} {R : REnv} {p : Pr} {ord : List Nat} {K : Kn} {w : World} {M B : Nat} {s : Mc} {vm : Value}
theorem McAt.lt (h:McAt MT NT CT R p ord K w M B s vm):M<w.heap.size:=(Zlt h.box)
theorem McAt.cell (h:McAt MT NT CT R p ord K w M B s vm) (i:Nat):w.cell? ⟨M,i,none⟩=(mcV R B s vm)[i]?:=by simp [World.cell?,h.box]
theorem McAt.below {w':World} (h:McAt MT NT CT R p ord K w M B s vm) (hb:Below w.heap.size w w'):McAt MT NT CT R p ord K w' M B s vm:=
 ⟨(hb.block M h.lt).trans h.box,h.isin.below hb,h.no,h.code,h.mem,h.len⟩
theorem McAt.join {w':World} (h:McAt MT NT CT R p ord K w M B s vm) (hb:Below w.heap.size w w'):McAt MT NT CT R p ord (Zcz K w.heap.size w') w' M B s vm:=
 ⟨(hb.block M h.lt).trans h.box,joinKn_in h.isin hb,by rw [joinKn_at h.lt];exact h.no,h.code.le (Zdy h.isin w'),SlV.le h.mem (Zdy h.isin w') VlC.mono,h.len⟩
theorem McAt.grown {w':World} {u:Value} (h:McAt MT NT CT R p ord K w M B s vm) (hg:w.grownBy w' u.ownBlock) (hu:∀ g,u.ownBlock=some g→K g=none∧g≠M):McAt MT NT CT R p ord K w' M B s vm:=
 ⟨(hg.block M h.lt (fun e=>(hu M e.symm).2 rfl)).trans h.box,h.isin.grown hg (fun g e=>(hu g e).1),h.no,h.code,h.mem,h.len⟩
def mcKn (K:Kn) (MT:TypeId) (R:REnv) (M B:Nat) (s:Mc) (vm:Value):Kn:=K.add M (.cells (mcV R B s vm) MT (0,0))
theorem McAt.kn (h:McAt MT NT CT R p ord K w M B s vm):(mcKn K MT R M B s vm).In w:=h.isin.add h.box
theorem mcKn_le (hM:K M=none):K.le (mcKn K MT R M B s vm):=Kn.le_add hM
theorem Zed (i:Nat):(mcKn K MT R M B s vm).cell M i=(mcV R B s vm)[i]?:=by unfold mcKn Kn.cell;rw [Kn.add_self]
end
theorem Gr2.below {a w w':World} {base M:Nat} (h:Below base a w) (g:Gr2 w w' M none) (hM:base≤M) (hb:base≤w.heap.size):Below base a w':=
 ⟨g.os.trans h.os,g.tape.trans h.tape,g.output.trans h.output,Nat.le_trans h.size g.size,fun i hi=>by
  rw [g.block i (by omega) (by omega) (by simp)]
  exact h.block i hi⟩
mutual
def remE:Ex→List Ex
 | .mk o n s l=>Zbc l++(if o=oPre∨o=oFby then [l.getLastD (.mk o n s l)] else [])
def Zbc:List Ex→List Ex
 | []=>[]
 | e :: l=>remE e++Zbc l
end
theorem rem_nds:∀ (e:Ex) (m:Nat),(Zbs m e).map (fun y=>(Zdl y).1)=remE e:=by
 refine Ex.ind fun o n s l ih m=>?_
 have hL:∀ (l:List Ex),(∀ e∈l,∀ m,(Zbs m e).map (fun y=>(Zdl y).1)=remE e)→∀ m,(Zab m l).map (fun y=>(Zdl y).1)=Zbc l:=by
  intro l
  induction l with
  | nil=>intro _ m;rfl
  | cons e l ihl=>
   intro hh m
   simp only [Zab,Zbc,List.map_append]
   rw [hh e (List.mem_cons_self ..),ihl fun y hy=>hh y (List.mem_cons_of_mem _ hy)]
 simp only [Zbs,remE,List.map_append]
 rw [hL l (fun e he m=>ih e he m)]
 congr 1
 split<;>rfl
theorem rem_ndsL:∀ (l:List Ex) (m:Nat),(Zab m l).map (fun y=>(Zdl y).1)=Zbc l
 | [],_=>rfl
 | e :: l,m=>by simp only [Zab,Zbc,List.map_append];rw [rem_nds,rem_ndsL l]
theorem PlX.nds {p:Pr}:∀ (e:Ex) (m:Nat),PlX p m e→∀ y∈Zbs m e,PlX p y.2 y.1:=by
 refine Ex.ind fun o n s l ih m h y hy=>?_
 simp only [Zbs,List.mem_append] at hy
 rcases hy with hy | hy
 ·obtain⟨i,hi,hy⟩:=Zcx hy
  exact ih _ (List.getElem_mem hi) _ (h.parts.1.at i hi) y hy
 split at hy
 ·rw [List.mem_singleton.1 hy];exact h
 cases hy
theorem memS_congr (R:REnv) (c:Cd) (mem0:List Vl) {inp inp':Nat→List Vl}:∀ n,(∀ j,j<n→inp j=inp' j)→memS R c mem0 inp n=memS R c mem0 inp' n
 | 0,_=>rfl
 | n+1,h=>by
  simp only [memS]
  rw [memS_congr R c mem0 n (fun j hj=>h j (by omega)),h n (by omega)]
theorem InP.rem {x:WdW}:∀ (e:Ex),InP x e→∀ y∈remE e,InP x y:=by
 refine Ex.ind fun o n s l ih h y hy=>?_
 simp only [remE,List.mem_append] at hy
 rcases hy with hy | hy
 ·have hL:∀ (l:List Ex),(∀ e∈l,InP x e→∀ y∈remE e,InP x y)→(∀ e∈l,InP x e)→∀ y∈Zbc l,InP x y:=by
   intro l
   induction l with
   | nil=>intro _ _ y hy;simp [Zbc] at hy
   | cons e l ihl=>
    intro h1 h2 y hy
    simp only [Zbc,List.mem_append] at hy
    rcases hy with hy | hy
    ·exact h1 e (List.mem_cons_self ..) (h2 e (List.mem_cons_self ..)) y hy
    exact ihl (fun z hz=>h1 z (List.mem_cons_of_mem _ hz)) (fun z hz=>h2 z (List.mem_cons_of_mem _ hz)) y hy
  exact hL l ih (fun e he=>by
   obtain⟨j,hj,rfl⟩:=List.mem_iff_getElem.1 he
   exact h.part j hj) y hy
 split at hy
 ·rw [List.mem_singleton.1 hy]
  by_cases hl:l=[]
  ·subst hl;exact h
  have h1:l.length - 1<l.length:=by have:=List.length_pos_iff.2 hl;omega
  rw [(Zi1 l (.mk o n s l) (l.length - 1) h1 (by omega)).1]
  exact h.part _ h1
 cases hy
theorem remEs_mem:∀ (l:List Ex) (y:Ex),y∈Zbc l→∃ e∈l,y∈remE e
 | [],y,h=>by simp [Zbc] at h
 | e :: l,y,h=>by
  simp only [Zbc,List.mem_append] at h
  rcases h with h | h
  ·exact⟨e,List.mem_cons_self ..,h⟩
  obtain⟨z,h1,h2⟩:=remEs_mem l y h
  exact⟨z,List.mem_cons_of_mem _ h1,h2⟩
theorem WdP.rem {x:WdW} (h:WdP x):∀ y∈Zbc x.p.terms,InP x y:=fun y hy=>by
 obtain⟨e,h1,h2⟩:=remEs_mem _ _ hy
 exact InP.rem e (h.term e h1) y h2
def stW (x:WdW) (e:Ex):Vl:=if x.ins.length=0 then nilV x.nb x.ni (Zan x.ks e) else x.V e (x.ins.length - 1)
def stateW (x:WdW):List Vl:=tv (decide (x.ins.length=0)) :: (Zbc x.p.terms).map (stW x)
theorem state_wd {x:WdW} (hp:WdP x):memS x.R (cdOf x.p x.ord) (Zbb x.R (Zab 0 x.p.terms)) x.inp x.ins.length=(Zbc x.p.terms).map (stW x):=by
 rw [← rem_ndsL x.p.terms 0,List.map_map]
 have hterm:=Zez hp.hks hp.ho
 have htk:=Zey (Zbk hp.ho).1 hp.hks
 cases hn:x.ins.length with
 | zero=>
  simp only [memS,Zbb]
  refine List.map_congr_left fun y hy=>?_
  simp only [Function.comp,stW,if_pos hn]
  obtain⟨k,hk1,hk,hlast⟩:=ms_last (ks:=x.ks) hterm hy
  obtain⟨i,hi,hyi⟩:=Zcx hy
  have hk0:=mem_kind _ (htk _ (List.getElem_mem hi)).2 _ y hyi
  have hop:=(Zdw x.ks x.p.terms hterm 0 y hy).2
  rw [(hlast (by omega)).1]
  obtain⟨⟨o,n,s,l⟩,m⟩:=y
  have hk:l.length=k+1:=hk
  have hk0:Zan x.ks (.mk o n s l)≠0:=hk0
  have hop:o=oPre∨o=oFby:=hop
  exact congrArg (nilV x.nb x.ni) (last_kind hop hk0 hk1 hk).symm
 | succ k=>
  have hms:(cdOf x.p x.ord).ms=(Zab 0 x.p.terms).map Zdl:=Zdj _ _
  simp only [memS,Zeh,hms,List.map_map]
  refine List.map_congr_left fun y hy=>?_
  simp only [Function.comp,stW,hn,if_neg (Nat.succ_ne_zero k),Nat.add_sub_cancel]
  obtain⟨j,hj1,hj,hlast⟩:=ms_last (ks:=x.ks) hterm hy
  obtain⟨i,hi,hyi⟩:=Zcx hy
  have hpl:=PlX.nds _ _ ((plX_all x.p).at i hi) y hyi
  obtain⟨g1,g2,_,_⟩:=hlast (by omega)
  rw [g1]
  obtain⟨⟨o,n,s,l⟩,m⟩:=y
  have hj:l.length=j+1:=hj
  have:=wd_eval (p:=x.p) x.R x.ord (Zbb x.R (Zab 0 x.p.terms)) x.inp (Zd9 x.p).1 k (l[j]'(by omega)) g2 _ (hpl.parts.1.at j (by omega))
  unfold WdW.V
  rw [hp.fv]
  exact this
theorem step_wd {x:WdW} (hp:WdP x) {good:List (List Vl)} {v:List Vl} (hx:x.ins=good++[v]):
  (Zco x.R (cdOf x.p x.ord) (decide (good.length=0)) (memS x.R (cdOf x.p x.ord) (Zbb x.R (Zab 0 x.p.terms)) (fun i=>good.getD i []) good.length) v).1=Zdq x.R x.inp x.fv x.p good.length∧
  ((Zdq x.R x.inp x.fv x.p good.length).trap=false→(Zco x.R (cdOf x.p x.ord) (decide (good.length=0)) (memS x.R (cdOf x.p x.ord) (Zbb x.R (Zab 0 x.p.terms)) (fun i=>good.getD i []) good.length) v).2=memS x.R (cdOf x.p x.ord) (Zbb x.R (Zab 0 x.p.terms)) x.inp (good++[v]).length):=by
 have h1:=tick_wd hp.ck hp.hks hp.ho x.nb x.ni (Zbb x.R (Zab 0 x.p.terms)) x.inp good.length
 have e1:x.inp good.length=v:=by simp [WdW.inp,hx]
 have e2:memS x.R (cdOf x.p x.ord) (Zbb x.R (Zab 0 x.p.terms)) (fun i=>good.getD i []) good.length=memS x.R (cdOf x.p x.ord) (Zbb x.R (Zab 0 x.p.terms)) x.inp good.length:=
  memS_congr _ _ _ _ fun j hj=>by simp [WdW.inp,hx,List.getD_eq_getElem?_getD,List.getElem?_append,hj]
 rw [e1] at h1
 rw [e2,hp.fv]
 obtain⟨h1,h2⟩:=h1
 refine⟨h1,fun ht=>?_⟩
 rw [show (good++[v]).length=good.length+1 from by simp]
 exact h2 (by rw [h1];exact ht)
theorem mRem1 {p:Prop} (h:p:=by
 have HST:=Zhd (show Kn.Step H w K' w3 from⟨Kn.le_trans HLE.out (Kn.le_trans hS3.le hle),fun b hb=>(hfr b (by omega)).trans ((hS3.fresh b (by omega)).trans (HFR.out b hb)),hin,HB1.out.trans (hS3.below.mono HB1.out.size)⟩)
 have HV:=Zhd hv
 have HTZ:=Zhd (show TyX H K' from (HTY.out.trans hty).trans hty')
 clear hv hin hfr hle hxs hS3 hty' hty
 go_wp2_with fail
 go_ret
 exact⟨_,K',rfl,HV.out,HST.out,HTZ.out⟩):p:=h
def TyX (H K:Kn):Prop:=∀ g ob,K g=some ob→H g=some ob∨∃ cs,ob = .cells cs 79 (0,0)
theorem TyX.trans {H K L:Kn} (h:TyX H K) (k:TyX K L):TyX H L:=fun g ob e=>by
 rcases k g ob e with h1 | h1
 ·exact h g ob h1
 exact .inr h1
theorem Zgo:∀ (l:List Ex) (k:Nat) (h:k<l.length),Zbc (l.take (k+1))=Zbc (l.take k)++remE l[k]
 | e :: l,0,_=>by simp [Zbc]
 | e :: l,k+1,h=>by
  have:=Zgo l k (by simpa using h)
  simp only [List.take_succ_cons,Zbc,List.getElem_cons_succ]
  rw [this,List.append_assoc]
theorem Zhf:∀ (l:List Ex) (k:Nat),Zbc l=Zbc (l.take k)++Zbc (l.drop k)
 | [],k=>by simp [Zbc]
 | e :: l,0=>by simp [Zbc]
 | e :: l,k+1=>by
  have:=Zhf l k
  simp only [List.take_succ_cons,List.drop_succ_cons,Zbc]
  rw [List.append_assoc,← this]
theorem rem_take (l:List Ex) (t:List Ex) (k:Nat) (h:k<l.length):(Zbc l++t).take ((Zbc (l.take k)).length+(remE l[k]).length)=(Zbc l++t).take (Zbc (l.take k)).length++remE l[k]:=by
 have e1:=Zhf l k
 have e2:=Zhf l (k+1)
 have e3:=Zgo l k h
 have h1:(Zbc l++t).take (Zbc (l.take k)).length=Zbc (l.take k):=by
  rw [e1,List.append_assoc,List.take_left]
 have h2:(Zbc l++t).take (Zbc (l.take (k+1))).length=Zbc (l.take (k+1)):=by
  rw [e2,List.append_assoc,List.take_left]
 rw [h1,← e3,← h2,e3,List.length_append]
mutual
theorem remE_len:∀ e:Ex,(remE e).length≤e.parts
 | .mk o n s l=>by
  have h:=Zec l
  simp only [remE,Ex.parts,List.length_append]
  split
  ·simp;omega
  simp;omega
theorem Zec:∀ l:List Ex,(Zbc l).length≤Ex.partsL l
 | []=>by simp [Zbc]
 | e :: l=>by
  have h1:=remE_len e
  have h2:=Zec l
  simp only [Zbc,Ex.partsL,List.length_append]
  omega
end
theorem Zit:∀ (l:List Ex) (k:Nat),Ex.partsL (l.take k)≤Ex.partsL l
 | [],k=>by simp
 | e :: l,0=>by simp [Ex.partsL]
 | e :: l,k+1=>by have:=Zit l k;simp only [List.take_succ_cons,Ex.partsL];omega
theorem remembered_any {ks:Env Int}:∀ (e:Ex),Zaf ks e=true→∀ (H:Kn) (v:Value),ExV H e v→e.parts≤1000000000→∀ w:World,H.In w→
  Calls Tryz.prog 67 #[v] w fun r w'=>∃ v' K,r = .returned v'∧ExsV K (remE e) v'∧Kn.Step H w K w'∧TyX H K:=by
 refine Ex.ind fun o n s l ih hfo H v hv hsz w hH=>?_
 obtain⟨hsub,hfby,_,hpre,_⟩:=Zax hfo
 obtain⟨u,rfl,hu⟩:=hv
 simp only [Ex.op,Ex.n,Ex.s,Ex.l] at hu ⊢
 obtain⟨a,c,rfl⟩:=hu.len
 simp only [Ex.parts] at hsz
 have hll:=Zbr l
 have hb1:Below w.heap.size w (w.alloc (.cells #[.string o,.int .i64 n,.string s,.slice a l.length c] 79)):=(Below.refl _ _).alloc (Nat.le_refl _) _
 obtain⟨K0,hK0⟩:∃ K0,K0=H.add w.heap.size (.cells #[.string o,.int .i64 n,.string s,.slice a l.length c] 79 (0,0)):=⟨_,rfl⟩
 have hle:H.le K0:=hK0▸Kn.le_add (hH.isNone (Nat.le_refl _))
 have hin:K0.In (w.alloc (.cells #[.string o,.int .i64 n,.string s,.slice a l.length c] 79)):=hK0▸(hH.below hb1).add (heap_alloc_new _ _)
 have hty0:TyX H K0:=fun g ob e=>by
  by_cases hg:g=w.heap.size
  ·subst hg
   rw [hK0,Kn.add_self] at e
   cases e
   exact .inr ⟨_,rfl⟩
  rw [hK0,Kn.add_other _ _ hg] at e
  exact .inl e
 have hfr0:∀ b,b<w.heap.size→K0 b=H b:=fun b hb=>by rw [hK0,Kn.add_other _ _ (by omega)]
 have hcE:∀ j,K0.cell w.heap.size j=(#[.string o,.int .i64 n,.string s,.slice a l.length c]:Array Value)[j]?:=fun j=>by unfold Kn.cell;rw [hK0,Kn.add_self]
 have j0:K0.cell w.heap.size 0=some (.string o):=hcE 0
 have j3:K0.cell w.heap.size 3=some (.slice a l.length c):=hcE 3
 have HU:=Zhd (hu.le hle)
 have HIH:=Zhd (fun e he=>ih e he (hsub e he))
 have HB1:=Zhd hb1
 have HLE:=Zhd hle
 have HTY:=Zhd hty0
 have HFR:=Zhd hfr0
 have hl1:w.heap.size<(w.alloc (.cells #[.string o,.int .i64 n,.string s,.slice a l.length c] 79)).heap.size:=by simp
 obtain⟨tl,htl⟩:∃ tl,tl=(if o=oPre∨o=oFby then [l.getLastD (.mk o n s l)] else []):=⟨_,rfl⟩
 have hrem:remE (.mk o n s l)=Zbc l++tl:=by rw [remE,htl]
 have HTL:=Zhd htl
 rw [hrem]
 go_enter Tryz.func67,Tryz.ntmps67
 go_wp2_with fail
 generalize w.alloc (.cells #[.string o,.int .i64 n,.string s,.slice a l.length c] 79)=W1 at *
 have HS0:=Zhd (show RwO 79 4 XsAt K0 W1 W1 W1.heap.size (Zbc l++tl) 0 (.slice none 0 0) [] K0 from
  ⟨Kn.le_refl K0,fun _ _=>rfl,hin,Below.refl _ _,Nat.le_refl _,World.ownsRow_nil _ _ _ _,rfl,fun g hg=>by simp [Value.ownBlock] at hg⟩)
 clear hK0 hcE hu ih hin hle hb1 hty0 hfr0 hrem htl
 go_loopw [3,4] (fun u i wr=>∃ (k:Nat) (xs:List Value) (K:Kn),i = .int .i64 k∧k≤l.length∧RwO 79 4 XsAt K0 W1 wr W1.heap.size (Zbc l++tl) (Zbc (l.take k)).length u xs K∧TyX K0 K) (fun _ i _=>l.length - (intOf i).toNat)
 case atStart=>exact⟨0,_,_,rfl,Nat.zero_le _,HS0.out,fun g ob h => .inl h⟩
 obtain⟨k,xs,K,rfl,hk,hS,hty⟩:=hrel
 have HS:=Zhd hS
 obtain⟨au,cu,rfl,_⟩:=Zas hS.row
 have z0:=hS.isin.cell (hS.le.cell j0)
 have z3:=hS.isin.cell (hS.le.cell j3)
 by_cases hkl:k<l.length
 ·obtain⟨b,off,ax,cx,rfl,c0,c1,c2,c3,hx⟩:=ExsV.at HU.out hkl
  have c0:=hS.isin.cell (hS.le.cell c0)
  have c1:=hS.isin.cell (hS.le.cell c1)
  have c2:=hS.isin.cell (hS.le.cell c2)
  have c3:=hS.isin.cell (hS.le.cell c3)
  have hpt:=Zau l k hkl
  have HT:=Zhd (rem_take l tl k hkl)
  have HN:=Zhd (Zgo l k hkl)
  have HX:=Zhd (HIH.out _ (List.getElem_mem hkl) K _ (hx.le hS.le) (by omega) wr hS.isin)
  have hn1:=Zec (l.take k)
  have hn2:=remE_len l[k]
  have hn3:=Zit l k
  have hq:=hS.below.size
  clear hS hx
  generalize l[k]=x at *
  go_wp2_with fail
  refine HX.out.mono ?_
  rintro r w2 ⟨v2,K2,rfl,hv2,hst2,hty2⟩
  have HS2:=Zhd (RwO.next (X:=XsAt) (fun _ _ _ _ hle h=>XsAt.le hle h) HS.out hst2)
  obtain⟨a2,c2,rfl⟩:=hv2.len
  obtain⟨v3,w3,xs3,hr3,hS3⟩:=Zgm Tryz.underlying25 Tryz.infoREx rfl HS2.out hv2 HT.out (by omega)
  have HS3:=Zhd (show RwO 79 4 XsAt K0 W1 w3 W1.heap.size (Zbc l++tl) (Zbc (l.take (k+1))).length v3 xs3 K2 from by rw [HN.out,List.length_append];exact hS3)
  have HT3:=Zhd (hty.trans hty2)
  clear hS3 hst2 hty2 hty hv2 z0 z3 c0 c1 c3
  go_wp2_with (at_builtin;refine Zbj rfl _ _ _ _ rfl _ _ rfl rfl _ _ hr3 ?_)
  go_roundw
  case rel=>exact⟨k+1,_,_,by go_num,by omega,HS3.out,HT3.out⟩
  simp [intOf];omega
 obtain rfl:k=l.length:=by omega
 rw [List.take_of_length_le (Nat.le_refl _)] at hS HS ⊢
 have hB:=HB1.out.trans (hS.below.mono HB1.out.size)
 by_cases h1:o=oPre
 rotate_left
 ·have t1:(o.toList==[112,114,101])=false:=Zat _ h1
  by_cases h2:o=oFby
  rotate_left
  ·have t2:(o.toList==[102,98,121])=false:=Zat _ h2
   obtain rfl:tl=[]:=by rw [HTL.out,if_neg (fun h=>h.elim h1 h2)]
   rw [List.append_nil] at hS HS ⊢
   have hxs:=hS.xs
   rw [List.take_of_length_le (Nat.le_refl _)] at hxs
   obtain⟨K',hle,hin,hv,hfr,hty'⟩:=Ze8 (l:=Zbc l) hS.isin hS.row hxs hS.noR
   have HST:=Zhd (show Kn.Step H w K' wr from⟨Kn.le_trans HLE.out (Kn.le_trans hS.le hle),fun b hb=>(hfr b (by omega)).trans ((hS.fresh b (by omega)).trans (HFR.out b hb)),hin,hB⟩)
   have HV:=Zhd hv
   have HTZ:=Zhd (show TyX H K' from (HTY.out.trans hty).trans hty')
   clear hv hin hfr hle hxs hS hty' hty
   go_wp2_with fail
   go_ret
   exact⟨_,K',rfl,by rw [List.append_nil];exact HV.out,HST.out,HTZ.out⟩
  have t2:(o.toList==[102,98,121])=true:=by rw [← dLit];simpa using h2
  obtain⟨x,y,rfl⟩:∃ x y,l=[x,y]:=by
   have:=hfby h2
   match l,this with
   | [x,y],_=>exact⟨x,y,rfl⟩
  have HH:=Zhd h2
  clear h2 h1 hfby hpre
  obtain⟨b,off,ax,cx,rfl,c0,c1,c2,c3,hx⟩:=ExsV.at HU.out (show 1<[x,y].length from by simp)
  have c0:=hS.isin.cell (hS.le.cell c0)
  have c1:=hS.isin.cell (hS.le.cell c1)
  have c2:=hS.isin.cell (hS.le.cell c2)
  have c3:=hS.isin.cell (hS.le.cell c3)
  simp only [List.getElem_cons_succ,List.getElem_cons_zero,Nat.zero_mul,Nat.one_mul,Nat.add_zero] at c0 c1 c2 c3 hx
  have z3:wr.cell? ⟨w.heap.size,3,none⟩=some (.slice (some ⟨b,off,none⟩) 2 c):=z3
  have HXX:=Zhd (show ExsV K y.l (.slice ax y.l.length cx) from by
   obtain⟨u9,e9,h9⟩:=hx.le hS.le
   cases e9
   exact h9)
  have hbx:=(Below.refl wr.heap.size wr).alloc (Nat.le_refl _) (.cells #[.string y.op,.int .i64 y.n,.string y.s,.slice ax y.l.length cx] 79)
  have HS2:=Zhd (HS.out.alloc (.cells #[.string y.op,.int .i64 y.n,.string y.s,.slice ax y.l.length cx] 79))
  have hq:=hS.below.size
  have hnl:=Zec [x,y]
  have htl:tl=[y]:=HTL.out.trans (if_pos (.inr HH.out))
  have htk:(Zbc [x,y]++tl).take ((Zbc [x,y]).length+1)=(Zbc [x,y]++tl).take (Zbc [x,y]).length++[y]:=by
   rw [htl,List.take_left,List.take_of_length_le (by simp)]
  clear hx hS
  go_wp2_with (at_builtin;refine Zj7 25 79 4 64 _ Tryz.underlying25 Tryz.infoREx rfl (by decide) _ _ rfl rfl W1.heap.size _ _ _ rfl HS2.out.row ⟨wr.heap.size,0,none⟩ 1 [.string y.op,.int .i64 y.n,.string y.s,.slice ax y.l.length cx] rfl rfl ?c1 ?c2 ?c3 ?c4 ?c5 ?_)
  case c1=>exact cells4 _ _ _ _ _ _
  case c2=>simp [Value.oneCell']
  case c3=>omega
  case c4=>omega
  case c5=>exact HS2.out.size
  intro g cap' w3 ho hg3 hat
  have hS3:=RwO.step (n':=1) HS2.out (by rw [htk];exact HS2.out.xs.append ⟨ax,cx,[],rfl,HXX.out,rfl⟩) ho hg3 (by rw [World.size_alloc];exact hat)
  have hxs:=hS3.xs
  rw [List.take_of_length_le (by rw [htl];simp)] at hxs
  obtain⟨K',hle,hin,hv,hfr,hty'⟩:=Ze8 (l:=Zbc [x,y]++tl) hS3.isin (by rw [htl,List.length_append];exact hS3.row) hxs hS3.noR
  exact mRem1
 have t1:(o.toList==[112,114,101])=true:=by rw [← dLit];simpa using h1
 obtain⟨x,rfl⟩:∃ x,l=[x]:=by
  have:=hpre h1
  match l,this with
  | [x],_=>exact⟨x,rfl⟩
 have HH:=Zhd h1
 clear h1 hfby hpre
 obtain⟨b,off,ax,cx,rfl,c0,c1,c2,c3,hx⟩:=ExsV.at HU.out (show 0<[x].length from by simp)
 have c0:=hS.isin.cell (hS.le.cell c0)
 have c1:=hS.isin.cell (hS.le.cell c1)
 have c2:=hS.isin.cell (hS.le.cell c2)
 have c3:=hS.isin.cell (hS.le.cell c3)
 simp only [List.getElem_cons_succ,List.getElem_cons_zero,Nat.zero_mul,Nat.one_mul,Nat.add_zero] at c0 c1 c2 c3 hx
 have z3:wr.cell? ⟨w.heap.size,3,none⟩=some (.slice (some ⟨b,off,none⟩) 1 c):=z3
 have HXX:=Zhd (show ExsV K x.l (.slice ax x.l.length cx) from by
  obtain⟨u9,e9,h9⟩:=hx.le hS.le
  cases e9
  exact h9)
 have hbx:=(Below.refl wr.heap.size wr).alloc (Nat.le_refl _) (.cells #[.string x.op,.int .i64 x.n,.string x.s,.slice ax x.l.length cx] 79)
 have HS2:=Zhd (HS.out.alloc (.cells #[.string x.op,.int .i64 x.n,.string x.s,.slice ax x.l.length cx] 79))
 have hq:=hS.below.size
 have hnl:=Zec [x]
 have htl:tl=[x]:=HTL.out.trans (if_pos (.inl HH.out))
 have htk:(Zbc [x]++tl).take ((Zbc [x]).length+1)=(Zbc [x]++tl).take (Zbc [x]).length++[x]:=by
  rw [htl,List.take_left,List.take_of_length_le (by simp)]
 clear hx hS
 go_wp2_with (at_builtin;refine Zj7 25 79 4 64 _ Tryz.underlying25 Tryz.infoREx rfl (by decide) _ _ rfl rfl W1.heap.size _ _ _ rfl HS2.out.row ⟨wr.heap.size,0,none⟩ 1 [.string x.op,.int .i64 x.n,.string x.s,.slice ax x.l.length cx] rfl rfl ?c1 ?c2 ?c3 ?c4 ?c5 ?_)
 case c1=>exact cells4 _ _ _ _ _ _
 case c2=>simp [Value.oneCell']
 case c3=>omega
 case c4=>omega
 case c5=>exact HS2.out.size
 intro g cap' w3 ho hg3 hat
 have hS3:=RwO.step (n':=1) HS2.out (by rw [htk];exact HS2.out.xs.append ⟨ax,cx,[],rfl,HXX.out,rfl⟩) ho hg3 (by rw [World.size_alloc];exact hat)
 have hxs:=hS3.xs
 rw [List.take_of_length_le (by rw [htl];simp)] at hxs
 obtain⟨K',hle,hin,hv,hfr,hty'⟩:=Ze8 (l:=Zbc [x]++tl) hS3.isin (by rw [htl,List.length_append];exact hS3.row) hxs hS3.noR
 exact mRem1
theorem remAll_any (H:Kn) (p:Pr) (vi vo vl va vc:Value) (hp:PrP H p vi vo vl va vc) {ks:Env Int} (hf:∀ e∈p.terms,Zaf ks e=true) (hsz:Ex.partsL p.terms≤1000000000) (w:World) (hH:H.In w):
  Calls Tryz.prog 44 #[.agg #[vi,vo,vl,va,vc]] w fun r w'=>∃ v K,r = .returned v∧ExsV K (Zbc p.terms) v∧Kn.Step H w K w'∧TyX H K:=by
 have htl:p.terms.length≤1000000000:=by have:=Zbr p.terms;omega
 have HTM:=Zhd (fun (wz:World) (hz:H.In wz)=>Zhe H p vi vo vl va vc hp htl wz hz)
 obtain⟨h1,h2,h3,h4,h5⟩:=hp
 obtain⟨ai,ci,rfl⟩:=h1.len
 obtain⟨ao,co,rfl⟩:=h2.len
 obtain⟨al,cl,rfl⟩:=h3.len
 obtain⟨aa,ca,rfl⟩:=h4.len
 obtain⟨ac,cc,rfl⟩:=h5.len
 clear h1 h2 h3 h4 h5
 have hb0:=(Below.refl w.heap.size w).alloc (Nat.le_refl _) (.cells #[.slice ai p.ins.length ci,.slice ao p.outs.length co,.slice al p.fl.length cl,.slice aa p.as.length ca,.slice ac p.cs.length cc] 27)
 have HF:=Zhd hf
 clear hf
 go_enter Tryz.func44,Tryz.ntmps44
 go_wp2_with fail
 refine (HTM.out _ (hH.below hb0)).mono ?_
 rintro r0 W1 ⟨vt,K0,rfl,hvt,hst,hty⟩
 have hst:=(Kn.Step.of_below (hH) hb0).trans hst
 obtain⟨at',ct,rfl⟩:=hvt.len
 have HV:=Zhd hvt
 have HST0:=Zhd hst
 have HTY:=Zhd (show TyX H K0 from hty)
 have HS0:=Zhd (show RwO 79 4 XsAt K0 W1 W1 W1.heap.size (Zbc p.terms++[]) 0 (.slice none 0 0) [] K0 from
  ⟨Kn.le_refl K0,fun _ _=>rfl,hst.isin,Below.refl _ _,Nat.le_refl _,World.ownsRow_nil _ _ _ _,rfl,fun g hg=>by simp [Value.ownBlock] at hg⟩)
 clear hvt hst hty hb0 HTM
 go_wp2_with fail
 go_loopw [3,5] (fun u i wr=>∃ (k:Nat) (xs:List Value) (K:Kn),i = .int .i64 k∧k≤p.terms.length∧RwO 79 4 XsAt K0 W1 wr W1.heap.size (Zbc p.terms++[]) (Zbc (p.terms.take k)).length u xs K∧TyX K0 K) (fun _ i _=>p.terms.length - (intOf i).toNat)
 case atStart=>exact⟨0,_,_,rfl,Nat.zero_le _,HS0.out,fun g ob h => .inl h⟩
 obtain⟨k,xs,K,rfl,hk,hS,hty⟩:=hrel
 have HS:=Zhd hS
 obtain⟨au,cu,rfl,_⟩:=Zas hS.row
 by_cases hkl:k<p.terms.length
 ·obtain⟨b,off,ax,cx,rfl,c0,c1,c2,c3,hx⟩:=ExsV.at HV.out hkl
  have c0:=hS.isin.cell (hS.le.cell c0)
  have c1:=hS.isin.cell (hS.le.cell c1)
  have c2:=hS.isin.cell (hS.le.cell c2)
  have c3:=hS.isin.cell (hS.le.cell c3)
  have hpt:=Zau p.terms k hkl
  have HT:=Zhd (rem_take p.terms [] k hkl)
  have HN:=Zhd (Zgo p.terms k hkl)
  have HX:=Zhd (remembered_any p.terms[k] (HF.out _ (List.getElem_mem hkl)) K _ (hx.le hS.le) (by omega) wr hS.isin)
  have hn1:=Zec (p.terms.take k)
  have hn2:=remE_len p.terms[k]
  have hn3:=Zit p.terms k
  have hq:=hS.below.size
  clear hS hx
  generalize p.terms[k]=x at *
  go_wp2_with fail
  refine HX.out.mono ?_
  rintro r w2 ⟨v2,K2,rfl,hv2,hst2,hty2⟩
  have HS2:=Zhd (RwO.next (X:=XsAt) (fun _ _ _ _ hle h=>XsAt.le hle h) HS.out hst2)
  obtain⟨a2,c2,rfl⟩:=hv2.len
  obtain⟨v3,w3,xs3,hr3,hS3⟩:=Zgm Tryz.underlying25 Tryz.infoREx rfl HS2.out hv2 HT.out (by omega)
  have HS3:=Zhd (show RwO 79 4 XsAt K0 W1 w3 W1.heap.size (Zbc p.terms++[]) (Zbc (p.terms.take (k+1))).length v3 xs3 K2 from by rw [HN.out,List.length_append];exact hS3)
  have HT3:=Zhd (hty.trans hty2)
  clear hS3 hst2 hty2 hty hv2 c0 c1 c3
  go_wp2_with (at_builtin;refine Zbj rfl _ _ _ _ rfl _ _ rfl rfl _ _ hr3 ?_)
  go_roundw
  case rel=>exact⟨k+1,_,_,by go_num,by omega,HS3.out,HT3.out⟩
  simp [intOf];omega
 obtain rfl:k=p.terms.length:=by omega
 rw [List.take_of_length_le (Nat.le_refl _)] at hS ⊢
 rw [List.append_nil] at hS
 have hxs:=hS.xs
 rw [List.take_of_length_le (Nat.le_refl _)] at hxs
 obtain⟨K',hle,hin,hv,hfr,hty'⟩:=Ze8 (l:=Zbc p.terms) hS.isin hS.row hxs hS.noR
 have h0:=HST0.out.below.size
 have HST:=Zhd (show Kn.Step H w K' wr from⟨Kn.le_trans HST0.out.le (Kn.le_trans hS.le hle),fun b hb=>(hfr b (by omega)).trans ((hS.fresh b (by omega)).trans (HST0.out.fresh b hb)),hin,HST0.out.below.trans (hS.below.mono HST0.out.below.size)⟩)
 have HVV:=Zhd hv
 have HTZ:=Zhd (show TyX H K' from (HTY.out.trans hty).trans hty')
 clear hv hin hfr hle hxs hS hty' hty
 go_wp2_with fail
 go_ret
 exact⟨_,K',rfl,HVV.out,HST.out,HTZ.out⟩
end Go.Proofs.YtgoccoldkfpbgaaGreatDoor
