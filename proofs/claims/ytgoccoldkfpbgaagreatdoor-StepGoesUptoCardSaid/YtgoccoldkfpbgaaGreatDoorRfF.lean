/- Walks: lustrumref1.FlatError. -/
import Derived.Test.YtgoccoldkfpbgaaGreatDoorRg
import Derived.Test.YtgoccoldkfpbgaaGreatDoorRh
import Derived.Test.YtgoccoldkfpbgaaGreatDoorRfA
import Derived.Test.YtgoccoldkfpbgaaGreatDoorMx
set_option linter.all false
namespace Go.Proofs.YtgoccoldkfpbgaaGreatDoor
set_option maxRecDepth 100000
set_option maxHeartbeats 16000000
open Go.RowKit Mx
theorem mRfF3 {p:Prop} (h:p:=by
 go_wp2_with fail
 refine HKI.out.mono ?_
 rintro r w8 ⟨rfl,hb8⟩
 go_wp2_with fail
 go_ret
 exact⟨Zah (by rw [HC.out];rfl),HBW7.out.trans (hb8.mono HBW7.out.size)⟩):p:=h
theorem mRfF2 {p:Prop} (h:p:=by
 go_wp2_with fail
 refine HKI.out.mono ?_
 rintro r w8 ⟨rfl,hb8⟩
 have hb9:=HB7.out.trans (hb8.mono HB7.out.size)
 go_wp2_with fail
 go_roundw
 case rel=>exact⟨k+1,by go_num,by omega,HX.out,hb9⟩
 simp [intOf];omega):p:=h
theorem mRfF1 {p:Prop} (h:p:=by
 intro w hSw;obtain⟨z0,z1,z2⟩:=hSw.c3 k0 k1 d0;go_simp<;>with_reducible rfl):p:=h
theorem fresh_keep {m:Env Int} {s:ByteArray}:∀ (l:List (ByteArray×Int)) (m0:Env Int),Zap m0 l=some m→(m0 s).isSome=true→m s=m0 s
 | [],m0,h,_=>by simp only [Zap] at h;cases h;rfl
 | x :: l,m0,h,hs=>by
  simp only [Zap] at h
  split at h
  ·rename_i hc
   have hne:s≠x.1:=fun e=>by have h1:=hc.1;rw [← e] at h1;cases hm:m0 s<;>simp_all
   have h1:(m0.set x.1 x.2) s=m0 s:=by simp [Env.set,hne]
   rw [fresh_keep l _ h (by rw [h1];exact hs),h1]
  cases h
def prOf (v:Vr):ByteArray×Int:=(v.name,v.kind)
theorem fresh_kin {m:Env Int} {s:ByteArray}:∀ (V:List Vr) (m0:Env Int),Zap m0 (V.map prOf)=some m→m0 s=none→m s=ksOf V s
 | [],m0,h,hs=>by simp only [List.map_nil,Zap] at h;cases h;rw [hs];rfl
 | x :: V,m0,h,hs=>by
  simp only [List.map_cons,Zap] at h
  split at h
  ·rename_i hc
   have hk:x.kind=1∨x.kind=2:=hc.2.2
   by_cases he:x.name=s
   ·have h1:(m0.set (prOf x).1 (prOf x).2) s=some x.kind:=by simp [Env.set,prOf,he]
    rw [fresh_keep _ _ h (by rw [h1];rfl),h1]
    unfold ksOf
    simp only [Zbn,he,if_true]
    rw [if_neg (by omega)]
   have h1:(m0.set (prOf x).1 (prOf x).2) s=none:=by simp [Env.set,prOf,Ne.symm he,hs]
   rw [fresh_kin V _ h h1]
   unfold ksOf
   simp only [Zbn,if_neg he]
  cases h
theorem Zgz {V:List Vr} {m:Env Int} (h:Zap Env.none (V.map prOf)=some m):m=ksOf V:=funext fun _=>fresh_kin V _ h rfl
theorem fresh_kinds:∀ (V:List Vr) (m0 m:Env Int),Zap m0 (V.map prOf)=some m→∀ x∈V,x.kind=1∨x.kind=2
 | [],_,_,_,x,hx=>by cases hx
 | y :: V,m0,m,h,x,hx=>by
  simp only [List.map_cons,Zap] at h
  split at h
  ·rename_i hc
   rcases List.mem_cons.1 hx with rfl | hx
   ·exact hc.2.2
   exact fresh_kinds V _ _ h x hx
  cases h
theorem kindIn_zero (s:ByteArray):∀ (V:List Vr),(∀ x∈V,x.kind=1∨x.kind=2)→((Zbn V s=0)↔(V.map (·.name)).contains s=false)
 | [],_=>by simp [Zbn]
 | x :: V,h=>by
  have hx:=h x (List.mem_cons_self ..)
  have ih:=kindIn_zero s V (fun y hy=>h y (List.mem_cons_of_mem _ hy))
  simp only [Zbn,List.map_cons,List.contains_cons]
  by_cases he:x.name=s
  ·subst he
   simp;omega
  rw [if_neg he,ih]
  have:(s==x.name)=false:=by simpa using fun e:s=x.name=>he e.symm
  rw [this,Bool.false_or]
theorem Zh8 (s:ByteArray):∀ (V:List Vr),(∀ x∈V,x.kind=1∨x.kind=2)→0≤Zbn V s
 | [],_=>Int.le_refl _
 | x :: V,h=>by
  have hx:=h x (List.mem_cons_self ..)
  simp only [Zbn]
  split
  ·omega
  exact Zh8 s V (fun y hy=>h y (List.mem_cons_of_mem _ hy))
theorem vars_vrs (p:Pr):p.vars=(Zc1 p).map prOf:=by simp [Pr.vars,Zc1,prOf,Function.comp_def]
theorem SlV.capl {α:Type} {H:Kn} {k:Nat} {R:α→(Nat→Option Value)→Prop} {l:List α} {a:Option Addr} {cap n:Nat} (h:SlV H k R l (.slice a n cap)):l.length≤cap:=by
 rcases h with ⟨rfl,_⟩ | ⟨b,off,cap',h1,h2,h3,h4⟩
 ·simp
 cases h1;exact h2
theorem SlV.take {α:Type} {H:Kn} {k:Nat} {R:α→(Nat→Option Value)→Prop} {l:List α} {a:Option Addr} {cap n:Nat} (h:SlV H k R l (.slice a n cap)) {i:Nat} (hi:i≤l.length):SlV H k R (l.take i) (.slice a i cap):=by
 by_cases h0:i=0
 ·subst h0
  exact .inl ⟨by simp,a,cap,rfl⟩
 rcases h with ⟨rfl,_⟩ | ⟨b,off,cap',h1,h2,h3,h4⟩
 ·simp at hi;omega
 cases h1
 refine .inr ⟨b,off,cap,by simp [hi],by simp;omega,h3,fun j hj=>?_⟩
 have hj':j<l.length:=by simp at hj;omega
 have:=h4 j hj'
 rw [List.getElem_take]
 exact this
theorem SlV.drop {α:Type} {H:Kn} {k:Nat} {R:α→(Nat→Option Value)→Prop} {l:List α} {b off cap n:Nat} (h:SlV H k R l (.slice (some ⟨b,off,none⟩) n cap)) {i:Nat} (hi:i≤l.length) (hn:n=l.length):SlV H k R (l.drop i) (.slice (some ⟨b,off+i * k,none⟩) (n - i) (cap - i)):=by
 subst hn
 by_cases h0:l.drop i=[]
 ·have:l.length - i=0:=by have:=congrArg List.length h0;simpa using this
  rw [this]
  exact .inl ⟨h0,_,_,rfl⟩
 rcases h with ⟨rfl,_⟩ | ⟨b',off',cap',h1,h2,h3,h4⟩
 ·simp at h0
 cases h1
 refine .inr ⟨b,off+i * k,cap - i,by simp,by simp;omega,by omega,fun j hj=>?_⟩
 have hj':i+j<l.length:=by simp at hj;omega
 have:=h4 (i+j) hj'
 rw [List.getElem_drop]
 have e:∀ q,off+(i+j) * k+q=off+i * k+j * k+q:=fun q=>by rw [Nat.add_mul];omega
 simpa only [e] using this
theorem SlV.dropIf {α:Type} {H:Kn} {k:Nat} {R:α→(Nat→Option Value)→Prop} {l:List α} {b off cap n:Nat} (h:SlV H k R l (.slice (some ⟨b,off,none⟩) n cap)) {i:Nat} (hi:i≤l.length) (hn:n=l.length):SlV H k R (l.drop i) (.slice (if cap=i then some ⟨b,off,none⟩ else some ⟨b,off+i * k,none⟩) (n - i) (cap - i)):=by
 by_cases hc:cap=i
 ·have:=h.capl
  have h0:l.drop i=[]:=List.drop_eq_nil_of_le (by omega)
  rw [if_pos hc,show n - i=0 by omega]
  exact .inl ⟨h0,_,_,rfl⟩
 rw [if_neg hc]
 exact h.drop hi hn
theorem flatError_any (H:Kn) (p:Pr) (vi vo vl va vc:Value) (hp:PrP H p vi vo vl va vc) (hsz:Ex.partsL p.terms≤1000000000∧p.fl.length≤100000000∧p.ins.length≤100000000∧p.outs.length≤100000000) (w:World) (hH:H.In w):
  Calls Tryz.prog 84 #[.agg #[vi,vo,vl,va,vc]] w fun r w'=>r = .returned (.int .i64 (Zaj p))∧Below w.heap.size w w':=by
 have HP:=Zhd hp
 obtain⟨h1,h2,h3,h4,h5⟩:=hp
 obtain⟨ai,ci,rfl⟩:=h1.len
 obtain⟨ao,co,rfl⟩:=h2.len
 obtain⟨al,cl,rfl⟩:=h3.len
 obtain⟨aa,ca,rfl⟩:=h4.len
 obtain⟨ac,cc,rfl⟩:=h5.len
 obtain⟨s1,s2,s3,s4⟩:=hsz
 have hll:=Zbr p.terms
 have hvl:=vrsOf_len p
 have H2:=Zhd h2
 have H3:=Zhd h3
 clear h1 h2 h3 h4 h5
 go_enter Tryz.func84,Tryz.ntmps84
 have hb0:Below w.heap.size w (w.alloc (.cells #[.slice ai p.ins.length ci,.slice ao p.outs.length co,.slice al p.fl.length cl,.slice aa p.as.length ca,.slice ac p.cs.length cc] 27)):=(Below.refl _ _).alloc (Nat.le_refl _) _
 have hP0:=heap_alloc_new w (.cells #[.slice ai p.ins.length ci,.slice ao p.outs.length co,.slice al p.fl.length cl,.slice aa p.as.length ca,.slice ac p.cs.length cc] 27)
 obtain⟨H1,hH1⟩:∃ K,K=H.add w.heap.size (.cells #[.slice ai p.ins.length ci,.slice ao p.outs.length co,.slice al p.fl.length cl,.slice aa p.as.length ca,.slice ac p.cs.length cc] 27 (0,0)):=⟨_,rfl⟩
 have hSt:Kn.Step H w H1 (w.alloc (.cells #[.slice ai p.ins.length ci,.slice ao p.outs.length co,.slice al p.fl.length cl,.slice aa p.as.length ca,.slice ac p.cs.length cc] 27)):=⟨by rw [hH1];exact Kn.le_add (hH.isNone (Nat.le_refl _)),fun b hb=>by rw [hH1,Kn.add_other _ _ (by omega)],by rw [hH1];exact (hH.below hb0).add hP0,hb0⟩
 have hc:∀ i,H1.cell w.heap.size i=(#[.slice ai p.ins.length ci,.slice ao p.outs.length co,.slice al p.fl.length cl,.slice aa p.as.length ca,.slice ac p.cs.length cc]:Array Value)[i]?:=fun i=>by unfold Kn.cell;rw [hH1,Kn.add_self]
 have k0:H1.cell w.heap.size 0=some (.slice ai p.ins.length ci):=hc 0
 have k1:H1.cell w.heap.size 1=some (.slice ao p.outs.length co):=hc 1
 have k2:H1.cell w.heap.size 2=some (.slice al p.fl.length cl):=hc 2
 have k3:H1.cell w.heap.size 3=some (.slice aa p.as.length ca):=hc 3
 have k4:H1.cell w.heap.size 4=some (.slice ac p.cs.length cc):=hc 4
 go_wp2_with fail
 generalize w.alloc (.cells #[.slice ai p.ins.length ci,.slice ao p.outs.length co,.slice al p.fl.length cl,.slice aa p.as.length ca,.slice ac p.cs.length cc] 27)=W1 at *
 refine (rvars_any H1 p _ _ _ _ _ (HP.out.le hSt.le) (by omega) W1 hSt.isin).mono ?_
 rintro r w2 ⟨v,K,rfl,hv,hst⟩
 obtain⟨av,cv,rfl⟩:=hv.len
 have HST:=Zhd (hSt.trans hst)
 have hin2:=hst.isin
 have hle2:=hst.le
 have k0:=hle2.cell k0
 have k1:=hle2.cell k1
 have k2:=hle2.cell k2
 have k3:=hle2.cell k3
 have k4:=hle2.cell k4
 have H2:=Zhd (H2.out.le (Kn.le_trans hSt.le hle2) StrC.mono)
 have H3:=Zhd (H3.out.le (Kn.le_trans hSt.le hle2) (FlC.mono (Kn.le_trans hSt.le hle2)))
 have HP:=Zhd (HP.out.le (Kn.le_trans hSt.le hle2))
 have HV:=Zhd hv
 have hvv:=Zhd (vars_vrs p)
 rw [hvl] at HV
 have hVl:(Zc1 p).length=p.ins.length+p.fl.length:=hvl
 have hfln:=Zhd (show ((Zc1 p).drop p.ins.length).map (·.name)=p.fl.map (·.name) from by simp [Zc1,List.drop_left,Function.comp_def])
 clear hc hH1 hP0 hb0 hSt hst hv hvl
 generalize hVV:Zc1 p=V at *
 have HVV:=Zhd hVV
 clear hVV
 go_wp2_with fail
 go_loopw [2,4] (fun _ i wr=>∃ (k:Nat),i = .int .i64 k∧k≤p.ins.length+p.fl.length∧(Zap Env.none (p.vars.take k)).isSome=true∧Below w2.heap.size w2 wr) (fun _ i _=>p.ins.length+p.fl.length - (intOf i).toNat)
 case atStart=>exact⟨0,rfl,Nat.zero_le _,rfl,Below.refl _ _⟩
 obtain⟨k,rfl,hk,hfr,hb⟩:=hrel
 obtain⟨m,hm⟩:=Option.isSome_iff_exists.1 hfr
 have HM:=Zhd hm
 have HB:=Zhd hb
 have HBW:=Zhd (HST.out.below.trans (hb.mono HST.out.below.size))
 clear hfr hm hb
 have hinr:=hin2.below HB.out
 have hmk:m=ksOf (V.take k):=by
  have:=HM.out
  rw [hvv.out,← List.map_take] at this
  exact Zgz this
 have HMK:=Zhd hmk
 have HKIN:=Zhd (show ∀ x∈V.take k,x.kind=1∨x.kind=2 from by
  have:=HM.out
  rw [hvv.out,← List.map_take] at this
  exact fresh_kinds _ _ _ this)
 clear hmk
 by_cases hkl:k<p.ins.length+p.fl.length
 ·obtain⟨b,off,rfl,_,c0,c1⟩:=SlV.at HV.out (show k<V.length by omega)
  have hpre:=SlV.take HV.out (show k≤V.length by omega)
  have hvk:k<p.vars.length:=by rw [hvv.out];simp;omega
  have FS:=Zhd (Zi5 hvk HM.out)
  have FN:=Zhd (fun h:Zap Env.none (p.vars.take (k+1))=none=>Zjd (Zi6 h))
  have hpv:p.vars[k]=(V[k].name,V[k].kind):=by
   have:p.vars[k]?=(V.map prOf)[k]?:=by rw [hvv.out]
   simp [hvk,show k<V.length by omega,prOf] at this
   exact this
  rw [hpv] at FS
  have hcap:=SlV.capl HV.out
  have hkc:k≤cv:=by omega
  simp only [Nat.add_zero] at c0
  generalize hxx:V[k]=x at *
  have e0:=hinr.cell c0
  have e1:=hinr.cell c1
  have hR:(Zfu m x.name x.kind)=((Zbn (V.take k) x.name==0) && !x.name.toList.isEmpty&&(decide (x.kind=1) || decide (x.kind=2))):=by
   unfold Zfu
   rw [← dEmp,HMK.out]
   unfold ksOf
   by_cases hz:Zbn (V.take k) x.name=0<;>simp [hz]
  have HR:=Zhd hR
  have hnn:=Zh8 x.name (V.take k) HKIN.out
  clear hR hxx hpv
  obtain⟨fb,hfb⟩:∃ b,Zfu m x.name x.kind=b:=⟨_,rfl⟩
  rw [hfb] at HR FS
  have bad:fb=false→Zaj p=3:=fun h=>FN.out (by rw [FS.out,h];rfl)
  have good:fb=true→(Zap Env.none (p.vars.take (k+1))).isSome=true:=fun h=>by rw [FS.out,h];rfl
  have BAD:=Zhd bad
  have GOOD:=Zhd good
  clear bad good hfb FS FN
  rcases Bool.eq_false_or_eq_true (x.name.toList.isEmpty) with n0 | n0
  ·have:=BAD.out (by rw [HR.out,n0];simp)
   have HC:=Zhd this
   clear this
   go_wp2_with fail
   go_ret
   exact⟨Zah (by rw [HC.out];rfl),HBW.out⟩
  generalize x.kind=q at *
  generalize x.name=nm at *
  have hkk:q=1∨q=2∨((q != 1)=true∧(q != 2)=true∧(q==1)=false∧(q==2)=false):=by
   by_cases h1:q=1
   ·exact .inl h1
   by_cases h2:q=2
   ·exact .inr (.inl h2)
   exact .inr (.inr (by simp [h1,h2]))
  rcases hkk with rfl | rfl | ⟨m1,m2,m3,m4⟩
  case inr.inr=>
   have HC:=Zhd (BAD.out (by rw [HR.out];have h1:¬ q=1:=(by simpa using m3);have h2:¬ q=2:=(by simpa using m4);simp [h1,h2]))
   go_wp2_with fail
   go_ret
   exact⟨Zah (by rw [HC.out];rfl),HBW.out⟩
  all_goals
   have HR2:=Zhd (show fb=(Zbn (V.take k) nm==0) by rw [HR.out,n0];simp)
   clear HR
   have hinrd:K.In wr.drew:=hinr
   have hS2:K.In wr.drew:=hinr
   have hkI:(k:Int)≤(p.ins.length+p.fl.length:Nat):=by omega
   go_wp2_with fail
   refine Zae (fun w'=>K.In w') (fun _=>True) 99 (by kernel_rfl) ?_
   refine Go.w3 0 ?_
   iterate 8 ((first | (refine tk3 (v:=?_) rfl hS2 Ztr ?hy ?_;(case hy=>intro w hSw;obtain⟨z0,z1⟩:=hSw.c2 c0 c1;go_simp<;>with_reducible rfl)) | refine sk3 rfl hS2 Ztr ?_ | refine no3 ?_);refine Zss ?_)
   refine Go.w3e ?_
   refine Zwo 8 rfl fun K_ hK=>?_
   go_simp
   go_at_call 68
   refine (Ze4 K _ (V.take k) nm _ hpre (by simp;omega) hS2).mono ?_
   rintro r wz ⟨rfl,rfl⟩
   refine hK.out _ _ (hS2) Ztr ?_
   clear hK K_
   try simp only [tkS]
   refine tk2 (i:=9) (v:=?_) rfl hS2 Ztr ?hy ?_
   case hy=>intro w hSw;obtain⟨z0,z1⟩:=hSw.c2 c0 c1;go_simp<;>with_reducible rfl
   try simp only [tkS]
   refine Zwd ?_
   generalize hkq:Zbn (V.take k) nm=kq at *
   by_cases hq:kq=0
   ·have hG:=GOOD.out (by rw [HR2.out,hq];rfl)
    have HG:=Zhd hG
    subst hq
    clear hG
    go_wp2_with fail
    go_roundw
    case rel=>exact⟨k+1,by go_num,by omega,HG.out,HB.out.drew⟩
    simp [intOf];omega
   have hpos:0<kq:=by omega
   have HC:=Zhd (BAD.out (by rw [HR2.out];simpa using hq))
   go_wp2_with fail
   go_ret
   exact⟨Zah (by rw [HC.out];rfl),HBW.out.drew⟩
 obtain rfl:k=p.ins.length+p.fl.length:=by omega
 have hpv:p.vars.length=p.ins.length+p.fl.length:=by rw [hvv.out,List.length_map];exact hVl
 have htk:V.take (p.ins.length+p.fl.length)=V:=by rw [← hVl];exact List.take_length
 have HFR:=Zhd (show Zap Env.none p.vars=some (ksOf V) from by have:=HM.out;rw [← hpv,List.take_length,HMK.out,htk] at this;exact this)
 rw [htk] at HKIN
 have HKD:=Zhd (show ∀ x∈V.drop p.ins.length,x.kind=1∨x.kind=2 from fun x hx=>HKIN.out x (List.mem_of_mem_drop hx))
 have HZ:=Zhd (fun s=>kindIn_zero s (V.drop p.ins.length) HKD.out)
 clear HMK HM htk hpv
 generalize hnn:p.ins.length+p.fl.length=n at *
 have hin3:=Zhd hinr
 generalize hN:p.fl.map (·.name)=N at *
 rw [hfln.out] at HZ
 have HNN:=Zhd hN
 clear hN hinr
 go_wp2_with fail
 go_loopw [2,5] (fun _ i wx=>∃ (k:Nat),i = .int .i64 k∧k≤p.outs.length∧Zb3 N [] p.outs=Zb3 N (p.outs.take k) (p.outs.drop k)∧Below wr.heap.size wr wx) (fun _ i _=>p.outs.length - (intOf i).toNat)
 case atStart=>exact⟨0,rfl,Nat.zero_le _,rfl,Below.refl _ _⟩
 obtain⟨k,rfl,hk,hos,hbx⟩:=hrel
 have HOS:=Zhd hos
 have HBX:=Zhd hbx
 have HBW2:=Zhd (HBW.out.trans (hbx.mono HBW.out.size))
 clear hos hbx
 have hinx:=hin3.out.below HBX.out
 have m1:=hinx.cell k1
 by_cases hkl:k<p.outs.length
 ·obtain⟨bo,oo,rfl,_,d0⟩:=SlV.at H2.out hkl
  have hcapo:=SlV.capl H2.out
  have hkc:k≤co:=by omega
  have hpre:=SlV.take H2.out (show k≤p.outs.length by omega)
  have HST2:=Zhd (Mx.outs_step N p.outs [] k hkl)
  have d0:K.cell bo (oo+k)=some (.string p.outs[k]):=by have:=d0;simpa [StrC] using d0
  generalize p.outs[k]=so at *
  have hS2:K.In wr.drew:=hinx
  have e0:=hinx.cell k0
  have hkI:(k:Int)<p.outs.length:=by omega
  by_cases hV0:V.length=0
  ·have hVn:V=[]:=List.eq_nil_of_length_eq_zero hV0
   have hn0:n=0:=by omega
   have hin0:p.ins.length=0:=by omega
   have hN0:N=[]:=by rw [← hfln.out,hVn];simp
   have HC:=Zhd (show Zaj p=3 from Zfa HFR.out (by
     rw [HNN.out,HOS.out]
     have:=HST2.out
     simp only [List.nil_append] at this
     rw [this,hN0];rfl))
   have KI:=Zhd (fun w2 (h:K.In w2) (a:Option Addr) (c:Nat)=>Ze4 K (.slice a 0 c) [] so w2 (.inl ⟨rfl,_,_,rfl⟩) (by simp) h)
   have hkz:Zbn [] so=0:=rfl
   clear hVn hN0
   subst hn0
   rw [hin0] at k0 e0
   cases av
   all_goals
    go_wp2_with fail
    refine Zae (fun w'=>K.In w') (fun _=>True) 99 (by kernel_rfl) ?_
    refine Go.w3 0 ?_
    iterate 10 ((first | (refine tk3 (v:=?_) rfl hS2 Ztr ?hy ?_;(case hy=>exact mRfF1)) | refine sk3 rfl hS2 Ztr ?_ | refine no3 ?_);refine Zss ?_)
    refine Go.w3e ?_
    refine Zwo 10 rfl fun K_ hK=>?_
    go_simp
    go_at_call 68
    refine (KI.out _ hS2 _ _).mono ?_
    rw [hkz]
    rintro r wz ⟨rfl,rfl⟩
    refine hK.out _ _ (hS2) Ztr ?_
    clear hK K_
    try simp only [tkS]
    refine Go.w3 11 ?_
    iterate 13 ((first | (refine tk3 (v:=?_) rfl hS2 Ztr ?hy ?_;(case hy=>exact mRfF1)) | refine sk3 rfl hS2 Ztr ?_ | refine no3 ?_);refine Zss ?_)
    refine Go.w3e ?_
    refine Zwd ?_
    go_wp2_with fail
    all_goals go_ret
    all_goals exact⟨Zah (by rw [HC.out];rfl),HBW2.out.drew⟩
  obtain⟨b,off,rfl,_,_⟩:=SlV.at HV.out (show 0<V.length by omega)
  have HNL:=Zhd hnn
  have hdrop:=SlV.dropIf HV.out (show p.ins.length≤V.length by omega) (by omega)
  have hcapv:=SlV.capl HV.out
  have hc1:p.ins.length≤cv:=by omega
  have hc2:n≤cv:=by omega
  have hsI:(p.ins.length:Int)≤(n:Int):=by omega
  have KI:=Zhd (fun w2 (h:K.In w2)=>Ze4 K _ (V.drop p.ins.length) so w2 hdrop (by simp;omega) h)
  have HZS:=Zhd (HZ.out so)
  generalize Zbn (V.drop p.ins.length) so=kq at *
  by_cases hz:kq=0
  ·have HC:=Zhd (show Zaj p=3 from Zfa HFR.out (by
    rw [HNN.out,HOS.out]
    have:=HST2.out
    simp only [List.nil_append] at this
    rw [this,HZS.out.1 hz];rfl))
   subst hz
   go_wp2_with fail
   refine Zae (fun w'=>K.In w') (fun _=>True) 99 (by kernel_rfl) ?_
   refine Go.w3 0 ?_
   iterate 10 ((first | (refine tk3 (v:=?_) rfl hS2 Ztr ?hy ?_;(case hy=>exact mRfF1)) | refine sk3 rfl hS2 Ztr ?_ | refine no3 ?_);refine Zss ?_)
   refine Go.w3e ?_
   refine Zwo 10 rfl fun K_ hK=>?_
   go_simp
   go_at_call 68
   refine (KI.out _ hS2).mono ?_
   rintro r wz ⟨rfl,rfl⟩
   refine hK.out _ _ (hS2) Ztr ?_
   clear hK K_
   try simp only [tkS]
   refine Go.w3 11 ?_
   iterate 13 ((first | (refine tk3 (v:=?_) rfl hS2 Ztr ?hy ?_;(case hy=>exact mRfF1)) | refine sk3 rfl hS2 Ztr ?_ | refine no3 ?_);refine Zss ?_)
   refine Go.w3e ?_
   refine Zwd ?_
   generalize (if cv=p.ins.length then (some ⟨b,off,none⟩:Option Addr) else some ⟨b,off+p.ins.length * 2,none⟩)=adr
   go_wp2_with fail
   go_ret
   exact⟨Zah (by rw [HC.out];rfl),HBW2.out.drew⟩
  have hz':(kq==0)=false:=by simpa using hz
  have hNc:N.contains so=true:=by
   cases hx:N.contains so with
   | true=>rfl
   | false=>exact absurd (HZS.out.2 hx) hz
  have hstep:Zb3 N [] p.outs=(!(p.outs.take k).contains so&&Zb3 N (p.outs.take (k+1)) (p.outs.drop (k+1))):=by
   rw [HOS.out]
   have:=HST2.out
   simp only [List.nil_append] at this
   rw [this,hNc,Bool.true_and]
  have HS:=Zhd hstep
  have hzz:=Zhd hz
  clear hz hNc hstep
  have HI:=Zhd (fun w2 (h:K.In w2)=>rhas_any K _ (p.outs.take k) so w2 hpre (by simp;omega) h)
  generalize (p.outs.take k).contains so=cb at *
  go_wp2_with fail
  refine Zae (fun w'=>K.In w') (fun _=>True) 99 (by kernel_rfl) ?_
  refine Go.w3 0 ?_
  iterate 10 ((first | (refine tk3 (v:=?_) rfl hS2 Ztr ?hy ?_;(case hy=>exact mRfF1)) | refine sk3 rfl hS2 Ztr ?_ | refine no3 ?_);refine Zss ?_)
  refine Go.w3e ?_
  refine Zwo 10 rfl fun K_ hK=>?_
  go_simp
  go_at_call 68
  refine (KI.out _ hS2).mono ?_
  rintro r wz ⟨rfl,rfl⟩
  refine hK.out _ _ (hS2) Ztr ?_
  clear hK K_
  try simp only [tkS]
  refine Go.w3 11 ?_
  iterate 11 ((first | (refine tk3 (v:=?_) rfl hS2 Ztr ?hy ?_;(case hy=>exact mRfF1)) | refine sk3 rfl hS2 Ztr ?_ | refine no3 ?_);refine Zss ?_)
  refine Go.w3e ?_
  refine Zwo 22 rfl fun K_ hK=>?_
  go_simp
  go_at_call 63
  refine (HI.out _ hS2).mono ?_
  rintro r wz ⟨rfl,rfl⟩
  refine hK.out _ _ (hS2) Ztr ?_
  clear hK K_
  try simp only [tkS]
  refine tk2 (i:=23) (v:=?_) rfl hS2 Ztr ?hy ?_
  case hy=>intro w hSw;obtain⟨z0,z1,z2⟩:=hSw.c3 k0 k1 d0;go_simp<;>with_reducible rfl
  try simp only [tkS]
  refine Zwd ?_
  generalize (if cv=p.ins.length then (some ⟨b,off,none⟩:Option Addr) else some ⟨b,off+p.ins.length * 2,none⟩)=adr
  cases cb
  ·have HX:=Zhd (show Zb3 N [] p.outs=Zb3 N (p.outs.take (k+1)) (p.outs.drop (k+1)) by rw [HS.out];rfl)
   go_wp2_with fail
   go_roundw
   case rel=>exact⟨k+1,by go_num,by omega,HX.out,HBX.out.drew⟩
   simp [intOf];omega
  have HC:=Zhd (show Zaj p=3 from Zfa HFR.out (by rw [HNN.out,HS.out];rfl))
  go_wp2_with fail
  go_ret
  exact⟨Zah (by rw [HC.out];rfl),HBW2.out.drew⟩
 obtain rfl:k=p.outs.length:=by omega
 have HOK:=Zhd (show Zb3 (p.fl.map (·.name)) [] p.outs=true by rw [HNN.out,HOS.out,List.drop_length];rfl)
 clear HZ HKD HOS HBX
 have m0:=hinx.cell k0
 have m2:=hinx.cell k2
 have m3:=hinx.cell k3
 have m4:=hinx.cell k4
 have HLN:=Zhd hVl
 have HNL:=Zhd hnn
 go_wp2_with fail
 refine (Zir K p _ _ _ _ _ HP.out (by omega) _ hinx).mono ?_
 rintro r w4 ⟨v4,K4,rfl,hv4,hst4⟩
 obtain⟨a4,c4,rfl⟩:=hv4.len
 have HT:=Zhd hv4
 have hle4:=hst4.le
 have hin4:=Zhd hst4.isin
 have HBW4:=Zhd (HBW2.out.trans (hst4.below.mono HBW2.out.size))
 have HV4:=Zhd (show VrsV K4 V (.slice av n cv) from HV.out.le hle4 VrC.mono)
 have HP4:=Zhd (HP.out.le hle4)
 have H34:=Zhd (H3.out.le hle4 (FlC.mono hle4))
 have k0:=hle4.cell k0
 have k1:=hle4.cell k1
 have k2:=hle4.cell k2
 have k3:=hle4.cell k3
 have k4:=hle4.cell k4
 have hVb:V.length≤1000000000:=by omega
 clear hv4 hst4 m0 m2 m3 m4
 go_wp2_with fail
 go_loopw [2,7,8] (fun _ i _ wx=>∃ (k:Nat),i = .int .i64 k∧k≤p.terms.length∧(∀ j (hj:j<p.terms.length),j<k→Zaf (ksOf V) p.terms[j]=true)∧Below w4.heap.size w4 wx) (fun _ i _ _=>p.terms.length - (intOf i).toNat)
 case atStart=>exact⟨0,rfl,Nat.zero_le _,fun j _ h=>by omega,Below.refl _ _⟩
 obtain⟨k,rfl,hk,hno,hbx⟩:=hrel
 have HNO:=Zhd hno
 have HBX:=Zhd hbx
 have HBW5:=Zhd (HBW4.out.trans (hbx.mono HBW4.out.size))
 have hin5:=hin4.out.below hbx
 clear hno hbx
 by_cases hkl:k<p.terms.length
 ·obtain⟨b,off,ax,cx,rfl,d0,d1,d2,d3,hx⟩:=HT.out.at hkl
  have d0:=hin5.cell d0
  have d1:=hin5.cell d1
  have d2:=hin5.cell d2
  have d3:=hin5.cell d3
  have hpx:p.terms[k].parts≤1000000000000:=by have:=Zau p.terms k hkl;omega
  cases he:Zaf (ksOf V) p.terms[k]
  ·have HC:=Zhd (show Zaj p=3 from check_form HFR.out HOK.out (Zg9 _ _ k hkl he))
   have HE:=Zhd he
   generalize p.terms[k]=x at *
   clear he
   go_wp2_with fail
   refine (Zjw K4 V _ HV4.out hVb x _ hx hpx _ hin5).mono ?_
   rw [HE.out]
   rintro r w5 ⟨rfl,hb5⟩
   go_wp2_with fail
   go_ret
   exact⟨Zah (by rw [HC.out];rfl),HBW5.out.trans (hb5.mono HBW5.out.size)⟩
  have HX:=Zhd (show ∀ j (hj:j<p.terms.length),j<k+1→Zaf (ksOf V) p.terms[j]=true from fun j hj hjk=>by
   by_cases hjk':j<k
   ·exact HNO.out j hj hjk'
   obtain rfl:j=k:=by omega
   exact he)
  have HE:=Zhd he
  generalize p.terms[k]=x at *
  clear he
  go_wp2_with fail
  refine (Zjw K4 V _ HV4.out hVb x _ hx hpx _ hin5).mono ?_
  rw [HE.out]
  rintro r w5 ⟨rfl,hb5⟩
  have hb6:=HBX.out.trans (hb5.mono HBX.out.size)
  go_wp2_with fail
  go_roundw
  case rel=>exact⟨k+1,by go_num,by omega,HX.out,hb6⟩
  simp [intOf];omega
 obtain rfl:k=p.terms.length:=by omega
 have HFA:=Zhd (show ∀ j (hj:j<p.terms.length),Zaf (ksOf V) p.terms[j]=true from fun j hj=>HNO.out j hj hj)
 have HFO:=Zhd (Zic _ _ HFA.out)
 have m0:=hin5.cell k0
 have m1:=hin5.cell k1
 have m2:=hin5.cell k2
 have m3:=hin5.cell k3
 have m4:=hin5.cell k4
 clear HNO
 by_cases hbig1:400<p.fl.length
 ·have HC:=Zhd (show Zaj p=2 from Zii HFR.out HOK.out HFO.out (.inl hbig1))
  go_wp2_with fail
  go_ret
  exact⟨Zah (by rw [HC.out];rfl),HBW5.out⟩
 have HPO:=Zhd (rpartsOf_any K4 p _ _ _ _ _ HP4.out s1 _ hin5)
 have hCB:=Zhd (fun h:4000<Ex.partsL p.terms=>(show Zaj p=2 from Zii HFR.out HOK.out HFO.out (.inr (.inl h))))
 have hCI:=Zhd (fun h:30<p.ins.length=>(show Zaj p=2 from Zii HFR.out HOK.out HFO.out (.inr (.inr h))))
 have hKK:=Zhd (fun (h2:¬ 4000<Ex.partsL p.terms) (h3:¬ 30<p.ins.length) (h:Zde (ksOf V) (p.fl.map (·.kind)) p.terms=false)=>(show Zaj p=5 from check_kind HFR.out HOK.out HFO.out (by omega) h))
 have hOO:=Zhd (fun (h2:¬ 4000<Ex.partsL p.terms) (h3:¬ 30<p.ins.length) (h:Zde (ksOf V) (p.fl.map (·.kind)) p.terms=true)=>(show Zaj p=0 from check_ok HFR.out HOK.out HFO.out (by omega) h))
 have hpm:=Zhd (fun (j:Nat) (hj:j<p.terms.length)=>Zau p.terms j hj)
 generalize hpp:Ex.partsL p.terms=pp at *
 go_wp2_with fail
 refine HPO.out.mono ?_
 rintro r w6 ⟨rfl,hb6⟩
 have HBW6:=Zhd (HBW5.out.trans (hb6.mono HBW5.out.size))
 have hin6:=Zhd (hin5.below hb6)
 have g0:=hin6.out.cell k0
 clear hb6 m0 m1 m2 m3 m4
 by_cases hbig2:4000<pp
 ·have HC:=Zhd (hCB.out hbig2)
  go_wp2_with fail
  go_ret
  exact⟨Zah (by rw [HC.out];rfl),HBW6.out⟩
 by_cases hbig3:30<p.ins.length
 ·have HC:=Zhd (hCI.out hbig3)
  go_wp2_with fail
  go_ret
  exact⟨Zah (by rw [HC.out];rfl),HBW6.out⟩
 have HKF:=Zhd (hKK.out hbig2 hbig3)
 have HOF:=Zhd (hOO.out hbig2 hbig3)
 clear hKK hOO hCI hCB
 go_wp2_with fail
 go_loopw [2,9,10] (fun _ i _ wx=>∃ (k:Nat),i = .int .i64 k∧k≤p.terms.length∧(∀ j (hj:j<p.terms.length),j<k→Zan (ksOf V) p.terms[j]=(p.fl.map (·.kind)).getD j 1)∧Below w6.heap.size w6 wx) (fun _ i _ _=>p.terms.length - (intOf i).toNat)
 case atStart=>exact⟨0,rfl,Nat.zero_le _,fun j _ h=>by omega,Below.refl _ _⟩
 obtain⟨k,rfl,hk,hno,hbx⟩:=hrel
 have HNO:=Zhd hno
 have HB7:=Zhd hbx
 have HBW7:=Zhd (HBW6.out.trans (hbx.mono HBW6.out.size))
 have hin7:=hin6.out.below hbx
 clear hno hbx
 by_cases hkl:k<p.terms.length
 ·obtain⟨b,off,ax,cx,rfl,d0,d1,d2,d3,hx⟩:=HT.out.at hkl
  have d0:=hin7.cell d0
  have d1:=hin7.cell d1
  have d2:=hin7.cell d2
  have d3:=hin7.cell d3
  have m2:=hin7.cell k2
  have hpx:p.terms[k].parts≤1000000000:=by have:=hpm.out k hkl;omega
  have hfx:=HFA.out k hkl
  have HBAD:=Zhd (fun h:¬ Zan (ksOf V) p.terms[k]=(p.fl.map (·.kind)).getD k 1=>HKF.out (by
   cases hg:Zde (ksOf V) (p.fl.map (·.kind)) p.terms with
   | false=>rfl
   | true=>exact absurd ((Zct _ _ _).1 hg k hkl) h))
  have HNXT:=Zhd (fun h:Zan (ksOf V) p.terms[k]=(p.fl.map (·.kind)).getD k 1=>(show ∀ j (hj:j<p.terms.length),j<k+1→Zan (ksOf V) p.terms[j]=(p.fl.map (·.kind)).getD j 1 from fun j hj hjk=>by
   by_cases hjk':j<k
   ·exact HNO.out j hj hjk'
   obtain rfl:j=k:=by omega
   exact h))
  have HKI:=Zhd (Zhy K4 V _ HV4.out hVb p.terms[k] _ hx hpx hfx _ hin7)
  have hwk:∃ wk,(p.fl.map (·.kind)).getD k 1=wk:=⟨_,rfl⟩
  obtain⟨wk,hwk⟩:=hwk
  have HWK:=Zhd hwk
  rw [hwk] at HBAD HNXT
  clear hwk hpx hfx hx
  generalize Zan (ksOf V) p.terms[k]=kx at *
  generalize p.terms[k]=x at *
  by_cases hkf:k<p.fl.length
  ·obtain⟨bf,of,cf,hef,_,_,hcs⟩:=FlsV.cell H34.out (fun e=>by rw [e] at hkf;simp at hkf)
   cases hef
   obtain⟨_,_,f0,f1,_⟩:=hcs k hkf
   have f1:=hin7.cell f1
   have hwf:p.fl[k].kind=wk:=by have:=HWK.out;simpa [List.getD_eq_getElem?_getD,hkf] using this
   rw [hwf] at f1
   clear hcs f0 hwf
   rcases Bool.eq_false_or_eq_true (kx==wk) with e | e
   ·have HX:=Zhd (HNXT.out (by simpa using e))
    have hne:(kx != wk)=false:=by simp [bne,e]
    exact mRfF2
   have HC:=Zhd (HBAD.out (by simpa using e))
   have hne:(kx != wk)=true:=by simp [bne,e]
   exact mRfF3
  have hwf:wk=1:=by rw [← HWK.out];simp [List.getD_eq_getElem?_getD,List.getElem?_eq_none (show (p.fl.map (·.kind)).length≤k by simp;omega)]
  subst hwf
  rcases Bool.eq_false_or_eq_true (kx==1) with e | e
  ·have HX:=Zhd (HNXT.out (by simpa using e))
   have hne:(kx != 1)=false:=by simp [bne,e]
   exact mRfF2
  have HC:=Zhd (HBAD.out (by simpa using e))
  have hne:(kx != 1)=true:=by simp [bne,e]
  exact mRfF3
 have HC:=Zhd (HOF.out ((Zct _ _ _).2 fun j hj=>HNO.out j hj (by omega)))
 go_wp2_with fail
 go_ret
 exact⟨Zah (by rw [HC.out];rfl),HBW7.out⟩
end Go.Proofs.YtgoccoldkfpbgaaGreatDoor
