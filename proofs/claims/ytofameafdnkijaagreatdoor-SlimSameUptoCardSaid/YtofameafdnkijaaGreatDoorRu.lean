/- Walks: flow.Run. -/
import Derived.Test.YtofameafdnkijaaGreatDoorRg
import Derived.Test.YtofameafdnkijaaGreatDoorTk
import Derived.Test.YtofameafdnkijaaGreatDoorCo
import Derived.Test.YtofameafdnkijaaGreatDoorRuM
import Derived.Test.YtofameafdnkijaaGreatDoorOck
import Derived.Test.YtofameafdnkijaaGreatDoorWt
set_option linter.all false
namespace Go.Proofs.YtofameafdnkijaaGreatDoor
set_option maxRecDepth 100000
set_option maxHeartbeats 16000000
open Go.RowKit Mx
theorem mRu1 {p:Prop} (h:p:=by
 go_wp2_with fail
 go_quiet (fail)
 go_wp2_with fail
 all_goals go_ret2
 all_goals unfold Zgp
 all_goals rw [HX.out]
 all_goals exact⟨by first | exact HB1.out.drew | exact Zce HB1.out _,_,rfl,.inl ⟨rfl,rfl⟩⟩):p:=h
theorem Tryz.infoTk:(Tryz.prog.info? 88).map (fun i=>(i.zero,i.size,i.bytes))=some (some (.agg #[.slice none 0 0,.bool false,.bool false,.slice none 0 0]),4,56):=by kernel_rfl
theorem run_any (H:Kn) (T:Zbo H) (sp:Nat→Addr) (p:Pr) (vi vo vl va vc:Value) (hp:PrP H p vi vo vl va vc) (ins:List (List Vl)) (vin:Value) (hi:InsV H ins vin) (w:World) (hH:H.In w) (S:Sen5 w sp) (nb:Bool) (ni:Int)
  (hsz:p.ins.length≤1000000∧p.fl.length≤1000000∧p.outs.length≤1000000000∧p.as.length≤1000000∧p.cs.length≤1000000∧∀ l∈ins,l.length≤1000000) (hpt:Ex.partsL p.terms≤1000000000):
  Calls Tryz.prog 8 #[.agg #[vi,vo,vl,va,vc],vin,.bool nb,.int .i64 ni] w (Zgp sp nb ni p ins w):=by
 obtain⟨z1,z2,z3,z4,z5,z6⟩:=hsz
 have HP:=Zhd hp
 obtain⟨h1,h2,h3,h4,h5⟩:=hp
 obtain⟨ai,ci,rfl⟩:=h1.len
 obtain⟨ao,co,rfl⟩:=h2.len
 obtain⟨al,cl,rfl⟩:=h3.len
 obtain⟨aa,ca,rfl⟩:=h4.len
 obtain⟨ac,cc,rfl⟩:=h5.len
 obtain⟨an,cn,rfl⟩:=hi.len
 have HI:=Zhd hi
 clear h1 h2 h3 h4 h5 hi
 go_enter Tryz.func8,Tryz.ntmps8
 go_wp2_with fail
 have hb0:Below w.heap.size w (w.alloc (.cells #[.slice ai p.ins.length ci,.slice ao p.outs.length co,.slice al p.fl.length cl,.slice aa p.as.length ca,.slice ac p.cs.length cc] 41)):=(Below.refl _ _).alloc (Nat.le_refl _) _
 refine (compile_any H T sp p _ _ _ _ _ HP.out _ (hH.below hb0) (S.below hb0) nb ni ⟨z1,z2,z3,z4,z5⟩ hpt).mono ?_
 rintro r w1 ⟨hb1,hpost⟩
 have HB1:=Zhd (hb0.trans (hb1.mono (by simp)))
 have hz1:w.heap.size+1≤w1.heap.size:=by have:=hb1.size;simp at this;omega
 have S1:=S.below HB1.out
 clear hb0 hb1
 by_cases hc0:(Za0 p).1=0
 case neg=>
  rw [if_neg hc0] at hpost
  obtain⟨v,rfl,hv⟩:=hpost
  have HV:=Zhd hv
  have HX:=Zhd (show runE p ins ni=Za0 p from by unfold runE;rw [if_pos hc0])
  obtain⟨tv,pv,hve⟩:∃ tv pv,v = .iface tv pv:=by
   rcases hv with ⟨_,h⟩ | ⟨_,N,h,_⟩
   ·obtain⟨c,hc⟩:∃ c,(Za0 p).1=c+1:=⟨(Za0 p).1 - 1,by omega⟩
    rw [hc,Zfd] at h
    exact⟨_,_,h⟩
   exact⟨_,_,h⟩
  subst hve
  clear hv
  go_wp2_with fail
  go_ret2
  unfold Zgp
  rw [HX.out,if_neg hc0]
  exact⟨HB1.out,_,rfl,HV.out⟩
 rw [if_pos hc0] at hpost
 obtain⟨B,ks,ord,hks,ho,rfl,hC,hgB⟩:=hpost
 have HKS:=Zhd hks
 have HO:=Zhd ho
 have HC:=Zhd hC
 have HX0:=Zhd (show runE p ins ni=if 300<ins.length∨ni < -128∨127<ni then (2, -1) else match ins.findIdx? (fun l => !Zc0 p.ins l l.length) with | some i=>(5,(i:Int)) | none=>(0, -1) from by unfold runE;rw [if_neg (fun h=>h hc0)]<;>rfl)
 have HC0:=Zhd hc0
 clear hks ho hC hc0
 have c1:=S1.c1
 by_cases hx1:300<ins.length
 ·have q1:(300:Int)<ins.length:=by omega
  have HX:=Zhd (show runE p ins ni=(2, -1) from by rw [HX0.out,if_pos (.inl hx1)])
  exact mRu1
 by_cases hx2:ni < -128
 ·have q1:¬ (300:Int)<ins.length:=by omega
  have HX:=Zhd (show runE p ins ni=(2, -1) from by rw [HX0.out,if_pos (.inr (.inl hx2))])
  exact mRu1
 by_cases hx3:127<ni
 ·have q1:¬ (300:Int)<ins.length:=by omega
  have HX:=Zhd (show runE p ins ni=(2, -1) from by rw [HX0.out,if_pos (.inr (.inr hx3))])
  exact mRu1
 have q1:¬ (300:Int)<ins.length:=by omega
 have HX0:=Zhd (show runE p ins ni=match ins.findIdx? (fun l => !Zc0 p.ins l l.length) with | some i=>(5,(i:Int)) | none=>(0, -1) from by rw [HX0.out,if_neg (by omega)])
 have HK0:=Zhd (show H.le (Zai w1) from all_of (hH.below HB1.out))
 clear c1
 go_wp2_with fail
 clear q1 hx2 hx3
 go_loopw [43] (fun i wr=>∃ k:Nat,i = .int .i64 k∧k≤ins.length∧Below w1.heap.size w1 wr∧∀ j (hj:j<ins.length),j<k→Zc0 p.ins ins[j] ins[j].length=true) (fun i _=>ins.length - (intOf i).toNat)
 case atStart=>exact⟨0,rfl,Nat.zero_le _,Below.refl _ _,fun j _ h=>by omega⟩
 obtain⟨k,rfl,hk,hb,hno⟩:=hrel
 have HB:=Zhd hb
 have HNO:=Zhd hno
 have HBW:=Zhd (HB1.out.trans (hb.mono (by omega)))
 clear hb hno
 by_cases hkl:k<ins.length
 ·obtain⟨b,off,haf,_,v,c0,hv⟩:=SlV.at HI.out hkl
  have c0:H.cell b (off+k * 1+0)=some v:=c0
  simp only [Nat.mul_one,Nat.add_zero] at c0
  have HLN:=Zhd (show ins[k].length≤1000000 from z6 _ (List.getElem_mem hkl))
  have HYES:=Zhd (show Zc0 p.ins ins[k] ins[k].length=false→runE p ins ni=(5,(k:Int)) from fun h=>by
   rw [HX0.out,show ins.findIdx? (fun l => !Zc0 p.ins l l.length)=some k from List.findIdx?_eq_some_iff_getElem.2 ⟨hkl,by simp [h],fun j hj=>by simp [HNO.out j (by omega) hj]⟩])
  have HNOT:=Zhd (show Zc0 p.ins ins[k] ins[k].length=true→∀ j (hj:j<ins.length),j<k+1→Zc0 p.ins ins[j] ins[j].length=true from fun h j hj hjk=>by
   by_cases hjk':j<k
   ·exact HNO.out j hj hjk'
   obtain rfl:j=k:=by omega
   exact h)
  generalize ins[k]=l at *
  obtain⟨av,cv,rfl⟩:=hv.len
  have c0:=(hH.below HBW.out).cell c0
  have HV:=Zhd hv
  subst haf
  obtain⟨cs,vI,vo,vf,va,vc,vu,vM,hcb,⟨e0,h0⟩,_,_,_,_,_,⟨e10,h10⟩⟩:=HC.out.ex
  have c4:=(S.below HBW.out).c4
  have hcall:=inputs_any (Zai w1) B cs p.ins l vI _ hcb e0 h0 (SlV.le hv HK0.out VlC.mono) ⟨by have:=HLN.out;omega,by omega⟩ wr ((Za8 w1).below HB.out)
  clear HNO hv hcb e0 h0 e10 h10
  cases hok:Zc0 p.ins l l.length with
  | false=>
   rw [hok] at hcall
   have HX:=Zhd (HYES.out hok)
   clear hok
   go_wp2_with (go_at_call 29;refine hcall.mono ?_;rintro ret w2 ⟨rfl,hb2⟩;have HB2:=Zhd (HBW.out.trans (hb2.mono HBW.out.size));have c4:=(S.below HB2.out).c4)
   go_region
   all_goals go_wp2_with fail
   all_goals go_ret2
   all_goals unfold Zgp
   all_goals rw [HX.out]
   all_goals exact⟨by first | exact (HB2.out.alloc HB2.out.size _).drew | exact (HB2.out.drew).alloc HB2.out.size _ | exact ((HB2.out.drew).alloc HB2.out.size _).drew | exact HB2.out.alloc HB2.out.size _,_,rfl,.inr ⟨by omega,w2.heap.size,rfl,heap_alloc_new _ _⟩⟩
  | true=>
   rw [hok] at hcall
   have HN2:=Zhd (HNOT.out hok)
   clear hok
   go_wp2_with (go_at_call 29;refine hcall.mono ?_;rintro ret w2 ⟨rfl,hb2⟩;have HB2:=Zhd (HB.out.trans (hb2.mono HB.out.size)))
   go_roundw
   case rel=>exact⟨k+1,by go_num,by omega,HB2.out,HN2.out⟩
   simp [intOf];omega
 obtain rfl:k=ins.length:=by omega
 have HALL:=Zhd (show ∀ l∈ins,Zc0 p.ins l l.length=true from fun l hl=>by
  obtain⟨j,hj,rfl⟩:=List.mem_iff_getElem.1 hl
  exact HNO.out j hj hj)
 have HX:=Zhd (show runE p ins ni=(0, -1) from by
  rw [HX0.out,List.findIdx?_eq_none_iff.2 fun l hl=>by simp [HALL.out l hl]])
 clear HNO HX0 hk hkl
 obtain⟨cs,vI,vo,vf,va,vc,vu,vM,hcb,_,_,_,_,_,_,⟨e10,h10⟩⟩:=HC.out.ex
 have HCD:=Zhd (cd_ready HC0.out HKS.out HO.out nb ni z3 z4 z5)
 obtain⟨R,hR⟩:∃ R:REnv,R=⟨ks,Zaa p,getI (Zaj p),nb,ni⟩:=⟨_,rfl⟩
 have hnb:R.nb=nb:=by rw [hR]
 have hni:R.ni=ni:=by rw [hR]
 have HR:=Zhd hR
 rw [← hR] at HC HCD h10
 have hst:=start_any R (Zai w1) B cs (Zah 0 p.terms) vM hcb e10 h10 (by rw [Zbh];exact HCD.out.z6) (wr.alloc (.cells #[.bool nb,.int .i64 ni] 84)) ((((Za8 w1).below HB.out)).alloc _)
 rw [hnb,hni] at hst
 clear hcb e10 h10 hR
 go_wp2_with (go_at_call 30;refine hst.mono ?_;rintro ret w3 ⟨vm0,rfl,hm0,hb3⟩;have hN3:=(hb3.block wr.heap.size (by simp)).trans (heap_alloc_new wr (.cells #[.bool nb,.int .i64 ni] 84));have HB3:=Zhd ((HBW.out.alloc HBW.out.size (.cells #[.bool nb,.int .i64 ni] 84)).trans (hb3.mono (by have:=HBW.out.size;simp;omega)));have HB13:=Zhd ((HB.out.alloc HB.out.size (.cells #[.bool nb,.int .i64 ni] 84)).trans (hb3.mono (by have:=HB.out.size;simp;omega))))
 have n0:(Zai w3).cell wr.heap.size 0=some (.bool nb):=by rw [Zap];simp [World.cell?,hN3]
 have n1:(Zai w3).cell wr.heap.size 1=some (.int .i64 ni):=by rw [Zap];simp [World.cell?,hN3]
 have N0:=Zhd n0
 have N1:=Zhd n1
 have hle13:(Zai w1).le (Zai w3):=all_of ((Za8 w1).below HB13.out)
 have HCK:=Zhd (HC.out.le hle13)
 have HIK:=Zhd (InsV.le (Kn.le_trans HK0.out hle13) HI.out)
 have HS0:=Zhd (RuS.init (DT:=88) HB3.out hm0)
 have HML:=Zhd (show (Zde R (Zah 0 p.terms)).length=Zal p.terms from by unfold Zde;rw [List.length_map,Zbh])
 have FIN:=Zhd (show ∀ (os:List (Tk×Value×Value)) (u:Value) (K:Kn) (ms:List Vl) (vm:Value) (wx:World),RuS 88 (Zai w3) w wx w3.heap.size os u K ms vm→os.map (·.1)=Zet R (cdOf p ord) true (Zde R (Zah 0 p.terms)) ins→Zgp sp nb ni p ins w (.returned (.tuple #[u,.nilIface])) wx from fun os u K ms vm wx hS he=>by
  unfold Zgp
  rw [HX.out,if_pos rfl]
  refine⟨hS.below,ks,ord,u,HKS.out,HO.out,rfl,?_⟩
  rw [← HR.out,← he]
  exact hS.fin)
 clear hm0 hb3 hN3 n0 n1 hle13 hst HB HBW HB1 HB13 HK0 HX HC HI S1 hgB
 generalize hN14:wr.heap.size=N14 at *
 clear hN14
 obtain⟨ks1,hks1⟩:∃ x,x=Zde R (Zah 0 p.terms):=⟨_,rfl⟩
 rw [← hks1] at HS0 HML FIN
 clear hks1
 go_wp2_with fail
 go_loopw [15,16,66] (fun vm u i wr=>∃ (k:Nat) (os:List (Tk×Value×Value)) (K:Kn) (ms:List Vl),i = .int .i64 k∧k≤ins.length∧RuS 88 (Zai w3) w wr w3.heap.size os u K ms vm∧ms.length=Zal p.terms∧os.map (·.1)++Zet R (cdOf p ord) (decide (k=0)) ms (ins.drop k)=Zet R (cdOf p ord) true ks1 ins∧os.length=k) (fun _ _ i _=>ins.length - (intOf i).toNat)
 case atStart=>exact⟨0,[],_,_,rfl,Nat.zero_le _,HS0.out,HML.out,by simp,rfl⟩
 obtain⟨k,os,K,ms,rfl,hk,hS,hml,hgo,hol⟩:=hrel
 subst hol
 have HS:=Zhd hS
 have HMS:=Zhd hml
 have HGO:=Zhd hgo
 obtain⟨au,cu,hue,_⟩:=Zau hS.row
 subst hue
 clear hS hml hgo
 by_cases hkl:os.length<ins.length
 ·obtain⟨b,off,haf,_,v,c0,hv⟩:=SlV.at HIK.out hkl
  have c0:(Zai w3).cell b (off+os.length * 1+0)=some v:=c0
  simp only [Nat.mul_one,Nat.add_zero] at c0
  have hil:=HALL.out _ (List.getElem_mem hkl)
  have hgo:=HGO.out
  rw [List.drop_eq_getElem_cons hkl] at hgo
  simp only [Zet] at hgo
  generalize ins[os.length]=l at *
  obtain⟨av,cv0,rfl⟩:=hv.len
  have hil2:l.length=p.ins.length:=by
   unfold Zc0 at hil
   simp only [Bool.and_eq_true,decide_eq_true_eq] at hil
   exact hil.1
  have c0:=HS.out.isin.cell (HS.out.le.cell c0)
  have n0:=HS.out.isin.cell (HS.out.le.cell N0.out)
  have n1:=HS.out.isin.cell (HS.out.le.cell N1.out)
  subst haf
  obtain⟨fb,hfb⟩:∃ fb:Bool,fb=decide (os.length=0):=⟨_,rfl⟩
  have hf2:((os.length:Int)==0)=fb:=by rw [hfb];by_cases h:os.length=0<;>simp [h]
  have hcd:=HCD.out
  have hcall:=tick_any R K p ord B (HCK.out.le HS.out.le) hcd.f hcd.pa hcd.nm hcd.od hcd.ou ⟨hcd.z1,hcd.z2,hcd.z3,hcd.z4,hcd.z5,hcd.z6,hcd.z7⟩ hcd.ps fb ms l _ _ HS.out.mem (SlV.le hv HS.out.le VlC.mono) HMS.out hil2 wr HS.out.isin
  rw [hnb,hni] at hcall
  rw [← hfb] at hgo
  have hnl:=tickM_len R (cdOf p ord) fb ms l
  rw [show (cdOf p ord).ms.length=Zal p.terms from hcd.ml] at hnl
  generalize Zdg R (cdOf p ord) fb ms l=X at *
  obtain⟨⟨xo,xa,xt,xc⟩,xm⟩:=X
  dsimp only at hcall hgo hnl
  have HG2:=Zhd hgo
  have HNL:=Zhd hnl
  obtain⟨i0,hi0,hz0,hz1,hz2⟩:=info_parts Tryz.infoTk
  have hfb0:fb=decide (os.length=0):=hfb
  have HFB:=Zhd hfb0
  clear hgo hnl hfb hfb0 hil hil2 hv hcd
  go_wp2_with fail
  refine hcall.mono ?_
  rintro ret w5 ⟨ov,cv,u5,rfl,hk5,hm5,hb5⟩
  obtain⟨aov,cov,rfl⟩:=hk5.outs.len
  obtain⟨acv,ccv,rfl⟩:=hk5.checks.len
  obtain⟨a5,c5,rfl⟩:=hm5.len
  obtain⟨hS5,hK5⟩:=HS.out.tick hb5 hk5 hm5
  have HLT:=Zhd (fun g hg=>(hS5.row.lt g hg).2)
  have HS5:=Zhd (hS5.alloc (.cells #[.slice aov xo.length cov,.bool xa,.bool xt,.slice acv xc.length ccv] 88))
  have HK5:=Zhd hK5
  have HBX:=Zhd (heap_alloc_new w5 (.cells #[.slice aov xo.length cov,.bool xa,.bool xt,.slice acv xc.length ccv] 88))
  clear hS5 hK5 hk5 hm5 hcall hb5 c0 n0 n1
  go_wp2_with (at_builtin;refine Zi9 32 88 4 56 _ Tryz.underlying32 Tryz.infoTk rfl (by decide) _ _ rfl rfl w3.heap.size _ _ _ rfl (HS5.out.alloc _).row ⟨_,0,none⟩ 1 [.slice aov xo.length cov,.bool xa,.bool xt,.slice acv xc.length ccv] rfl rfl ?c1 ?c2 ?c3 ?c4 ?c5 ?_)
  case c1=>
   have h:=heap_alloc_new (w5.alloc (.cells #[.slice aov xo.length cov,.bool xa,.bool xt,.slice acv xc.length ccv] 88)) (.cells #[.slice aov xo.length cov,.bool xa,.bool xt,.slice acv xc.length ccv] 88)
   rw [World.size_alloc] at h
   exact World.news_of_block h
  case c2=>simp [Value.oneCell']
  case c3=>omega
  case c4=>omega
  case c5=>exact (HS5.out.alloc _).low
  intro gg cap' w6 hown hgrow hat
  have hbx6:w6.heap[w5.heap.size]?=some (.cells #[.slice aov xo.length cov,.bool xa,.bool xt,.slice acv xc.length ccv] 88 (0,0)):=by
   rw [hgrow.block _ (by simp;omega) (fun e=>by have:=HLT.out _ e.symm;omega)]
   rw [((Below.refl _ (w5.alloc (.cells #[.slice aov xo.length cov,.bool xa,.bool xt,.slice acv xc.length ccv] 88))).alloc (Nat.le_refl _) (.cells #[.slice aov xo.length cov,.bool xa,.bool xt,.slice acv xc.length ccv] 88)).block _ (by simp)]
   exact HBX.out
  have t2:w6.cell? ⟨w5.heap.size,2,none⟩=some (.bool xt):=by simp [World.cell?,hbx6]
  have HS6:=Zhd ((HS5.out.alloc _).app HK5.out hown hgrow (by rw [World.size_alloc,World.size_alloc];exact hat))
  clear hown hgrow hat hbx6
  cases xt with
  | true=>
   go_wp2_with fail
   go_ret2
   refine FIN.out _ _ _ _ _ _ HS6.out ?_
   have h:=HG2.out
   simp only [if_true] at h
   rw [List.map_append]
   exact h
  | false=>
   go_wp2_with fail
   refine⟨⟨os.length+1,_,_,_,rfl,by omega,HS6.out,HNL.out rfl,?_,by simp⟩,by simp [intOf];omega⟩
   have h:=HG2.out
   simp only [Bool.false_eq_true,if_false] at h
   rw [List.map_append,show decide (os.length+1=0)=false from by simp,List.append_assoc]
   exact h
 have hl:os.length=ins.length:=by omega
 have h:=HGO.out
 rw [List.drop_of_length_le (by omega)] at h
 simp only [Zet,List.append_nil] at h
 have HFIN:=Zhd (FIN.out _ _ _ _ _ _ HS.out h)
 clear h FIN HGO
 go_wp2_with fail
 go_ret2
 exact HFIN.out
open Go.ChangeShapes Go.WideShapes Go.ChangeAt Go.RowKit Go.Deep Mx
instance:Inhabited Vl:=⟨⟨0,0⟩⟩
section
variable {H : Type} {enc : TypeId × Value → H} {W : World} {spare : Nat → Bool} {held : Bool}
theorem cellsVl:Tryz.prog.cellsOf 137=2:=by kernel_rfl
theorem cellsVls:Tryz.prog.cellsOf 51=1:=by kernel_rfl
theorem read_vl (n:Nat) (cs:List Value) (y:DataW H×List MemPlace) (h:DataW.trod enc Tryz.prog W 0 spare held n 137 cs=some y):∃ x:Vl,VlC x (fun j=>cs[j]?)∧1≤Rows.uptoBulk y.1:=by
 obtain⟨y0,y1,m,rfl,hl,h0,h1⟩:=trod_struct2 Tryz.underlying137 h
 rw [cellsVl] at hl
 match cs,hl with
 | [a,b],_=>
  dsimp only at h0 h1
  rw [Zin] at h0 h1
  obtain⟨k0,e0,f0,_⟩:=DataW.trod_int Tryz.underlying3 h0
  obtain⟨k1,e1,f1,_⟩:=DataW.trod_int Tryz.underlying3 h1
  have e0' : [a]=[Value.int .i64 k0]:=e0
  have e1' : [b]=[Value.int .i64 k1]:=e1
  cases e0'
  cases e1'
  exact⟨⟨k0,k1⟩,⟨rfl,rfl⟩,Zio _⟩
theorem read_vls (n:Nat) (cs:List Value) (y:DataW H×List MemPlace) (h:DataW.trod enc Tryz.prog W 0 spare held n 51 cs=some y):∃ l v,cs=[v]∧VlsV (Zai W) l v∧l.length<Rows.uptoBulk y.1:=by
 obtain⟨l,v,e,hs,hw⟩:=Zdf Tryz.underlying51 cellsVl (by omega) VlC VlC.mono (fun x f hx a W h=>cell_spot (h.trans hx.1)) (fun _=>1) _ (fun n cs y hy _=>read_vl n cs y hy) h (Nat.le_refl _)
 rw [Zjv] at hw
 exact⟨l,v,e,hs,hw⟩
theorem read_ins (n:Nat) (cs:List Value) (y:DataW H×List MemPlace) (h:DataW.trod enc Tryz.prog W 0 spare held n 28 cs=some y):∃ l v,cs=[v]∧InsV (Zai W) l v∧l.length<Rows.uptoBulk y.1:=by
 obtain⟨l,v,e,hs,hw⟩:=Zdf Tryz.underlying28 cellsVls (by omega) (fun l f=>∃ u,f 0=some u∧VlsV (Zai W) l u) (fun x f g hfg ⟨u,h1,h2⟩=>⟨u,hfg _ _ h1,h2⟩) (fun x f ⟨u,h1,_⟩ a W h=>cell_spot (h.trans h1)) (fun _=>1) _ (fun n cs y hy _=>by
  obtain⟨l,v,e,h1,_⟩:=read_vls n cs y hy
  subst e
  exact⟨l,⟨v,rfl,h1⟩,Zio _⟩) h (Nat.le_refl _)
 rw [Zjv] at hw
 exact⟨l,v,e,hs,hw⟩
theorem read_insV {r:Reach} {b0:Nat} {v:Value} {d:DataW H} {ps:List MemPlace} (hval:Value.okWide Tryz.prog W r b0 28 v) (h:DataW.Trod enc Tryz.prog W 0 spare held 28 v d ps):∃ l,InsV (Zai W) l v∧l.length<Rows.uptoBulk d:=by
 obtain⟨a,n,c,rfl⟩:=okWide_slice Tryz.underlying28 hval
 obtain⟨fuel,hf⟩:=h
 have hf':DataW.trod enc Tryz.prog W 0 spare held fuel 28 [.slice a n c]=some (d,ps):=hf
 obtain⟨l,v,e,hs,hw⟩:=read_ins _ _ _ hf'
 cases e
 exact⟨l,hs,hw⟩
end
end Go.Proofs.YtofameafdnkijaaGreatDoor
