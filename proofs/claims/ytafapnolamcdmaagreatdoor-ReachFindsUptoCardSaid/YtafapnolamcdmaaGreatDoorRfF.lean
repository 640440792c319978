/- Walks: lustrumref1.FlatError. -/
import Derived.Test.YtafapnolamcdmaaGreatDoorRfA
set_option linter.all false
namespace Go.Proofs.YtafapnolamcdmaaGreatDoor
set_option maxRecDepth 100000
set_option maxHeartbeats 16000000
open Go.RowKit Mx
theorem mRfF3{p:Prop}(h:p:=by
 go_wp2_with fail;refine gQ.out.mono ?_;rintro r w8 ⟨rfl,hb8⟩;go_wp2_with fail;go_ret;exact⟨Zaf (by rw[HC.out];rfl),HBW7.out.trans (hb8.mono HBW7.out.size)⟩):p:=h
theorem mRfF2{p:Prop}(h:p:=by
 go_wp2_with fail;refine gQ.out.mono ?_;rintro r w8 ⟨rfl,hb8⟩;have hb9:=HB7.out.trans (hb8.mono HB7.out.size);go_wp2_with fail;go_roundw
 case rel=>exact⟨k+1,by go_num,by omega,HX.out,hb9⟩
 simp[intOf];omega):p:=h
theorem mRfF1{p:Prop}(h:p:=by
 intro w Hi;obtain⟨z0,z1,z2⟩:=Hi.c3 k0 k1 d0;go_simp<;>with_reducible rfl):p:=h
theorem fresh_keep{m:Env Int}{s:ByteArray}:∀(l:List (ByteArray×Int)) (m0:Env Int),Zao m0 l=some m->(m0 s).isSome=true->m s=m0 s
 | [],m0,h,_=>by simp only[Zao] at h;cases h;rfl
 |x :: l,m0,h,hs=>by
  simp only[Zao] at h
  split at h
  .rename_i hc
   have Hs:s≠x.1:=λe=>by have h1:=hc.1;rw[<- e] at h1;cases hm:m0 s<;>simp_all
   have h1:(m0.set x.1 x.2) s=m0 s:=by simp[Env.set,Hs]
   rw[fresh_keep l _ h (by rw[h1];exact hs),h1]
  cases h
def prOf(v:Vr):ByteArray×Int:=(v.name,v.kind)
theorem fresh_kin{m:Env Int}{s:ByteArray}:∀(V:List Vr) (m0:Env Int),Zao m0 (V.map prOf)=some m->m0 s=none->m s=ksOf V s
 | [],m0,h,hs=>by simp only[List.map_nil,Zao] at h;cases h;rw[hs];rfl
 |x :: V,m0,h,hs=>by
  simp only[List.map_cons,Zao] at h
  split at h
  .rename_i hc
   have hk:x.kind=1\/x.kind=2:=hc.2.2;by_cases he:x.name=s
   .have h1:(m0.set (prOf x).1 (prOf x).2) s=some x.kind:=by simp[Env.set,prOf,he]
    rw[fresh_keep _ _ h (by rw[h1];rfl),h1];unfold ksOf;simp only[Zbo,he,if_true];rw[if_neg (by omega)]
   have h1:(m0.set (prOf x).1 (prOf x).2) s=none:=by simp[Env.set,prOf,Ne.symm he,hs]
   rw[fresh_kin V _ h h1];unfold ksOf;simp only[Zbo,if_neg he]
  cases h
theorem Zhg{V:List Vr}{m:Env Int}(h:Zao Env.none (V.map prOf)=some m):m=ksOf V:=funext λ_=>fresh_kin V _ h rfl
theorem fresh_kinds:∀(V:List Vr) (m0 m:Env Int),Zao m0 (V.map prOf)=some m->∀x∈V,x.kind=1\/x.kind=2
 | [],_,_,_,x,hx=>by cases hx
 |y :: V,m0,m,h,x,hx=>by
  simp only[List.map_cons,Zao] at h
  split at h
  .rename_i hc
   rcases List.mem_cons.1 hx with rfl|hx
   .exact hc.2.2
   exact fresh_kinds V _ _ h x hx
  cases h
theorem kindIn_zero(s:ByteArray):∀(V:List Vr),(∀x∈V,x.kind=1\/x.kind=2)->((Zbo V s=0)↔(V.map (·.name)).contains s=false)
 | [],_=>by simp[Zbo]
 |x :: V,h=>by
  have hx:=h x (List.mem_cons_self ..);have ih:=kindIn_zero s V (λy hy=>h y (List.mem_cons_of_mem _ hy));simp only[Zbo,List.map_cons,List.contains_cons];by_cases he:x.name=s
  .subst he;simp;omega
  rw[if_neg he,ih];have:(s==x.name)=false:=by simpa using λe:s=x.name=>he e.symm
  rw[this,Bool.false_or]
theorem Zis(s:ByteArray):∀(V:List Vr),(∀x∈V,x.kind=1\/x.kind=2)->0<=Zbo V s
 | [],_=>Int.le_refl _
 |x :: V,h=>by
  have hx:=h x (List.mem_cons_self ..);simp only[Zbo]
  split
  .omega
  exact Zis s V (λy hy=>h y (List.mem_cons_of_mem _ hy))
theorem vars_vrs(p:Pr):p.vars=(Zdc p).map prOf:=by simp[Pr.vars,Zdc,prOf,Function.comp_def]
theorem SlV.capl{α:Type}{H:Kn}{k:Nat}{R:α->(Nat->Option Value)->Prop}{l:List α}{a:Option Addr}{Ha n:Nat}(h:SlV H k R l (.slice a n Ha)):l.length<=Ha:=by
 rcases h with ⟨rfl,_⟩|⟨b,off,Hh,h1,h2,h3,h4⟩
 .simp
 cases h1;exact h2
theorem SlV.take{α:Type}{H:Kn}{k:Nat}{R:α->(Nat->Option Value)->Prop}{l:List α}{a:Option Addr}{Ha n:Nat}(h:SlV H k R l (.slice a n Ha)){i:Nat}(hi:i<=l.length):SlV H k R (l.take i) (.slice a i Ha):=by
 by_cases h0:i=0
 .subst h0;exact .inl ⟨by simp,a,Ha,rfl⟩
 rcases h with ⟨rfl,_⟩|⟨b,off,Hh,h1,h2,h3,h4⟩
 .simp at hi;omega
 cases h1;refine .inr ⟨b,off,Ha,by simp[hi],by simp;omega,h3,λj hj=>?_⟩;have jB:j<l.length:=by simp at hj;omega
 have:=h4 j jB;rw[List.getElem_take];exact this
theorem SlV.drop{α:Type}{H:Kn}{k:Nat}{R:α->(Nat->Option Value)->Prop}{l:List α}{b off Ha n:Nat}(h:SlV H k R l (.slice (some ⟨b,off,none⟩) n Ha)){i:Nat}(hi:i<=l.length)(hn:n=l.length):SlV H k R (l.drop i) (.slice (some ⟨b,off+i * k,none⟩) (n - i) (Ha - i)):=by
 subst hn;by_cases h0:l.drop i=[]
 .have:l.length - i=0:=by have:=congrArg List.length h0;simpa using this
  rw[this];exact .inl ⟨h0,_,_,rfl⟩
 rcases h with ⟨rfl,_⟩|⟨b',off',Hh,h1,h2,h3,h4⟩
 .simp at h0
 cases h1;refine .inr ⟨b,off+i * k,Ha - i,by simp,by simp;omega,by omega,λj hj=>?_⟩;have jB:i+j<l.length:=by simp at hj;omega
 have:=h4 (i+j) jB;rw[List.getElem_drop];have e:∀q,off+(i+j) * k+q=off+i * k+j * k+q:=λq=>by rw[Nat.add_mul];omega
 simpa only[e] using this
theorem SlV.dropIf{α:Type}{H:Kn}{k:Nat}{R:α->(Nat->Option Value)->Prop}{l:List α}{b off Ha n:Nat}(h:SlV H k R l (.slice (some ⟨b,off,none⟩) n Ha)){i:Nat}(hi:i<=l.length)(hn:n=l.length):SlV H k R (l.drop i) (.slice (if Ha=i then some ⟨b,off,none⟩ else some ⟨b,off+i * k,none⟩) (n - i) (Ha - i)):=by
 by_cases hc:Ha=i
 .have:=h.capl;have h0:l.drop i=[]:=List.drop_eq_nil_of_le (by omega);rw[if_pos hc,show n - i=0 by omega];exact .inl ⟨h0,_,_,rfl⟩
 rw[if_neg hc];exact h.drop hi hn
theorem flatError_any(H:Kn)(p:Pr)(vi vo vl va vc:Value)(hp:PrP H p vi vo vl va vc)(J5:Ex.partsL p.terms<=1000000000/\p.fl.length<=100000000/\p.ins.length<=100000000/\p.outs.length<=100000000)(w:World)(hH:H.In w):
  Calls Tryz.prog 75 #[.agg #[vi,vo,vl,va,vc]] w λr w'=>r=.returned (.int .i64 (Zak p))/\Ybw w w':=by
 have HP:=Zhd hp;obtain⟨h1,h2,h3,h4,h5⟩:=hp;obtain⟨ai,ci,ao,co,al,cl,aa,ca,ac,cc,rfl,rfl,rfl,rfl,rfl⟩:=Ypo h1.len h2.len h3.len h4.len h5.len;obtain⟨s1,s2,s3,s4⟩:=J5;have xN:=Zbp p.terms;have zq:=vrsOf_len p;have H2:=Zhd h2;have H3:=Zhd h3;clear h1 h2 h3 h4 h5;go_enter Tryz.func75,Tryz.ntmps75;have Hg:Ybw w (w.alloc (.cells (Yq5 p ai ao al aa ac ci co cl ca cc) 27)):=Yba;have kT:=heap_alloc_new w (.cells (Yq5 p ai ao al aa ac ci co cl ca cc) 27);obtain⟨H1,kp⟩:∃K,K=H.add w.heap.size (.cells (Yq5 p ai ao al aa ac ci co cl ca cc) 27 (0,0)):=⟨_,rfl⟩;have qz:Kn.Step H w H1 (w.alloc (.cells (Yq5 p ai ao al aa ac ci co cl ca cc) 27)):=⟨by rw[kp];exact Kn.le_add (hH.isNone Ylr),λb hb=>by rw[kp,Kn.add_other _ _ (by omega)],by rw[kp];exact(hH.below Hg).add kT,Hg⟩;have hc:∀i,H1.cell w.heap.size i=((Yq5 p ai ao al aa ac ci co cl ca cc):Array Value)[i]?:=λi=>by unfold Kn.cell;rw[kp,Kn.add_self]
 have k0:H1.cell w.heap.size 0=some (.slice ai p.ins.length ci):=hc 0;have k1:H1.cell w.heap.size 1=some (.slice ao p.outs.length co):=hc 1;have k2:H1.cell w.heap.size 2=some (.slice al p.fl.length cl):=hc 2;have k3:H1.cell w.heap.size 3=some (.slice aa p.as.length ca):=hc 3;have k4:H1.cell w.heap.size 4=some (.slice ac p.cs.length cc):=hc 4;go_wp2_with fail;generalize w.alloc (.cells (Yq5 p ai ao al aa ac ci co cl ca cc) 27)=W1 at *;refine(rvars_any H1 p _ _ _ _ _ (HP.out.le qz.le) (by omega) W1 qz.isin).mono ?_;rintro r w2 ⟨v,K,rfl,hv,Hy⟩;obtain⟨av,cv,rfl⟩:=hv.len;have Jz:=Zhd (qz.trans Hy);have hin2:=Hy.isin;have JB:=Hy.le;have k0:=JB.cell k0;have k1:=JB.cell k1;have k2:=JB.cell k2;have k3:=JB.cell k3;have k4:=JB.cell k4;have H2:=Zhd (H2.out.le (Kn.le_trans qz.le JB) StrC.mono);have H3:=Zhd (H3.out.le (Kn.le_trans qz.le JB) (FlC.mono (Kn.le_trans qz.le JB)));have HP:=Zhd (HP.out.le (Kn.le_trans qz.le JB));have HV:=Zhd hv;have zp:=Zhd (vars_vrs p);rw[zq] at HV;have hVl:(Zdc p).length=p.ins.length+p.fl.length:=zq;have hfln:=Zhd (show((Zdc p).drop p.ins.length).map (·.name)=p.fl.map (·.name) from by simp[Zdc,List.drop_left,Function.comp_def]);clear hc kp kT Hg qz Hy hv zq;generalize hVV:Zdc p=V at *;have HVV:=Zhd hVV;clear hVV;go_wp2_with fail;go_loopw[2,4] (λ_ i wr=>∃(k:Nat),i=.int .i64 k/\k<=p.ins.length+p.fl.length/\(Zao Env.none (p.vars.take k)).isSome=true/\Ybw w2 wr) (λ_ i _=>p.ins.length+p.fl.length - (intOf i).toNat)
 case atStart=>exact⟨0,rfl,Nat.zero_le _,rfl,Below.refl _ _⟩
 obtain⟨k,rfl,hk,je,hb⟩:=hrel;obtain⟨m,hm⟩:=Option.isSome_iff_exists.1 je;have HM:=Zhd hm;have HB:=Zhd hb;have JD:=Zhd (Jz.out.below.trans (hb.mono Jz.out.below.size));clear je hm hb;have gY:=hin2.below HB.out;have zt:m=ksOf (V.take k):=by
  have:=HM.out;rw[zp.out,<- List.map_take] at this;exact Zhg this
 have HMK:=Zhd zt;have HKIN:=Zhd (show ∀x∈V.take k,x.kind=1\/x.kind=2 from by
  have:=HM.out;rw[zp.out,<- List.map_take] at this;exact fresh_kinds _ _ _ this)
 clear zt;by_cases Hd:k<p.ins.length+p.fl.length
 .obtain⟨b,off,rfl,_,c0,c1⟩:=SlV.at HV.out (show k<V.length by omega);have hZ:=SlV.take HV.out (show k<=V.length by omega);have hvk:k<p.vars.length:=by rw[zp.out];simp;omega
  have FS:=Zhd (Zjt hvk HM.out);have FN:=Zhd (λh:Zao Env.none (p.vars.take (k+1))=none=>Zjw (Zju h));have hpv:p.vars[k]=(V[k].name,V[k].kind):=by
   have:p.vars[k]?=(V.map prOf)[k]?:=by rw[zp.out]
   simp[hvk,show k<V.length by omega,prOf] at this;exact this
  rw[hpv] at FS;have hcap:=SlV.capl HV.out;have vF:k<=cv:=by omega
  simp only[Nat.add_zero] at c0;generalize hxx:V[k]=x at *;have e0:=gY.cell c0;have e1:=gY.cell c1;have hR:(Zf4 m x.name x.kind)=((Zbo (V.take k) x.name==0) && !x.name.toList.isEmpty&&(decide (x.kind=1) || decide (x.kind=2))):=by
   unfold Zf4;rw[<- dEmp,HMK.out];unfold ksOf;by_cases hz:Zbo (V.take k) x.name=0<;>simp[hz]
  have HR:=Zhd hR;have hnn:=Zis x.name (V.take k) HKIN.out;clear hR hxx hpv;obtain⟨fb,qy⟩:∃b,Zf4 m x.name x.kind=b:=⟨_,rfl⟩;rw[qy] at HR FS;have bad:fb=false->Zak p=3:=λh=>FN.out (by rw[FS.out,h];rfl);have good:fb=true->(Zao Env.none (p.vars.take (k+1))).isSome=true:=λh=>by rw[FS.out,h];rfl
  have BAD:=Zhd bad;have GOOD:=Zhd good;clear bad good qy FS FN;rcases Ybb (x.name.toList.isEmpty) with n0|n0
  .have:=BAD.out (by rw[HR.out,n0];simp);have HC:=Zhd this;clear this;go_wp2_with fail;go_ret;exact⟨Zaf (by rw[HC.out];rfl),JD.out⟩
  generalize x.kind=q at *;generalize x.name=nm at *;have hkk:q=1\/q=2\/((q != 1)=true/\(q != 2)=true/\(q==1)=false/\(q==2)=false):=by
   by_cases h1:q=1
   .exact .inl h1
   by_cases h2:q=2
   .exact .inr (.inl h2)
   exact .inr (.inr (by simp[h1,h2]))
  rcases hkk with rfl|rfl|⟨m1,m2,m3,m4⟩
  case inr.inr=>
   have HC:=Zhd (BAD.out (by rw[HR.out];have h1:¬q=1:=(by simpa using m3);have h2:¬q=2:=(by simpa using m4);simp[h1,h2]));go_wp2_with fail;go_ret;exact⟨Zaf (by rw[HC.out];rfl),JD.out⟩
  all_goals
   have qc:=Zhd (show fb=(Zbo (V.take k) nm==0) by rw[HR.out,n0];simp);clear HR;have hinrd:K.In wr.drew:=gY;have Hq:K.In wr.drew:=gY;have vG:(k:Int)<=(p.ins.length+p.fl.length:Nat):=by omega
   go_wp2_with fail;refine Zae (λw'=>K.In w') (λ_=>True) 99 (by kernel_rfl) ?_;refine Go.w3 0 ?_
   iterate 8 ((first|(refine tk3 (v:=?_) rfl Hq Ztr ?hy ?_;(case hy=>intro w Hi;obtain⟨z0,z1⟩:=Hi.c2 c0 c1;go_simp<;>with_reducible rfl))|refine sk3 rfl Hq Ztr ?_|refine no3 ?_);refine Zss ?_)
   refine Go.w3e ?_;refine Zwo 8 rfl λK_ hK=>?_;go_simp;go_at_call 85;refine(Zfe K _ (V.take k) nm _ hZ (by simp;omega) Hq).mono ?_;rintro r wz ⟨rfl,rfl⟩;refine hK.out _ _ (Hq) Ztr ?_;clear hK K_
   try simp only[tkS]
   refine tk2 (i:=9) (v:=?_) rfl Hq Ztr ?hy ?_
   case hy=>intro w Hi;obtain⟨z0,z1⟩:=Hi.c2 c0 c1;go_simp<;>with_reducible rfl
   try simp only[tkS]
   refine Zwd ?_;generalize hkq:Zbo (V.take k) nm=kq at *;by_cases hq:kq=0
   .have hG:=GOOD.out (by rw[qc.out,hq];rfl);have HG:=Zhd hG;subst hq;clear hG;go_wp2_with fail;go_roundw
    case rel=>exact⟨k+1,by go_num,by omega,HG.out,HB.out.drew⟩
    simp[intOf];omega
   have hpos:0<kq:=by omega
   have HC:=Zhd (BAD.out (by rw[qc.out];simpa using hq));go_wp2_with fail;go_ret;exact⟨Zaf (by rw[HC.out];rfl),JD.out.drew⟩
 obtain rfl:k=p.ins.length+p.fl.length:=by omega
 have hpv:p.vars.length=p.ins.length+p.fl.length:=by rw[zp.out,List.length_map];exact hVl
 have kB:V.take (p.ins.length+p.fl.length)=V:=by rw[<- hVl];exact List.take_length
 have qQ:=Zhd (show Zao Env.none p.vars=some (ksOf V) from by have:=HM.out;rw[<- hpv,List.take_length,HMK.out,kB] at this;exact this);rw[kB] at HKIN;have QE:=Zhd (show ∀x∈V.drop p.ins.length,x.kind=1\/x.kind=2 from λx hx=>HKIN.out x (List.mem_of_mem_drop hx));have HZ:=Zhd (λs=>kindIn_zero s (V.drop p.ins.length) QE.out);clear HMK HM kB hpv;generalize hnn:p.ins.length+p.fl.length=n at *;have gZ:=Zhd gY;generalize hN:p.fl.map (·.name)=N at *;rw[hfln.out] at HZ;have gL:=Zhd hN;clear hN gY;go_wp2_with fail;go_loopw[2,5] (λ_ i wx=>∃(k:Nat),i=.int .i64 k/\k<=p.outs.length/\Zce N [] p.outs=Zce N (p.outs.take k) (p.outs.drop k)/\Ybw wr wx) (λ_ i _=>p.outs.length - (intOf i).toNat)
 case atStart=>exact⟨0,rfl,Nat.zero_le _,rfl,Below.refl _ _⟩
 obtain⟨k,rfl,hk,zE,Hu⟩:=hrel;have HOS:=Zhd zE;have xG:=Zhd Hu;have xH:=Zhd (JD.out.trans (Hu.mono JD.out.size));clear zE Hu;have x9:=gZ.out.below xG.out;have m1:=x9.cell k1;by_cases Hd:k<p.outs.length
 .obtain⟨bo,oo,rfl,_,d0⟩:=SlV.at H2.out Hd;have hcapo:=SlV.capl H2.out;have vF:k<=co:=by omega
  have hZ:=SlV.take H2.out (show k<=p.outs.length by omega);have HST2:=Zhd (Mx.outs_step N p.outs [] k Hd);have d0:K.cell bo (oo+k)=some (.string p.outs[k]):=by have:=d0;simpa[StrC] using d0
  generalize p.outs[k]=so at *;have Hq:K.In wr.drew:=x9;have e0:=x9.cell k0;have vG:(k:Int)<p.outs.length:=by omega
  by_cases hV0:V.length=0
  .have hVn:V=[]:=List.eq_nil_of_length_eq_zero hV0;have hn0:n=0:=by omega
   have vL:p.ins.length=0:=by omega
   have zh:N=[]:=by rw[<- hfln.out,hVn];simp
   have HC:=Zhd (show Zak p=3 from Zfl qQ.out (by
     rw[gL.out,HOS.out];have:=HST2.out;simp only[List.nil_append] at this;rw[this,zh];rfl))
   have KI:=Zhd (λw2 (h:K.In w2) (a:Option Addr) (c:Nat)=>Zfe K (.slice a 0 c) [] so w2 (.inl ⟨rfl,_,_,rfl⟩) (by simp) h);have hkz:Zbo [] so=0:=rfl;clear hVn zh;subst hn0;rw[vL] at k0 e0;cases av
   all_goals
    go_wp2_with fail;refine Zae (λw'=>K.In w') (λ_=>True) 99 (by kernel_rfl) ?_;refine Go.w3 0 ?_
    iterate 10 ((first|(refine tk3 (v:=?_) rfl Hq Ztr ?hy ?_;(case hy=>exact mRfF1))|refine sk3 rfl Hq Ztr ?_|refine no3 ?_);refine Zss ?_)
    refine Go.w3e ?_;refine Zwo 10 rfl λK_ hK=>?_;go_simp;go_at_call 85;refine(KI.out _ Hq _ _).mono ?_;rw[hkz];rintro r wz ⟨rfl,rfl⟩;refine hK.out _ _ (Hq) Ztr ?_;clear hK K_
    try simp only[tkS]
    refine Go.w3 11 ?_
    iterate 13 ((first|(refine tk3 (v:=?_) rfl Hq Ztr ?hy ?_;(case hy=>exact mRfF1))|refine sk3 rfl Hq Ztr ?_|refine no3 ?_);refine Zss ?_)
    refine Go.w3e ?_;refine Zwd ?_;go_wp2_with fail
    all_goals go_ret
    all_goals exact⟨Zaf (by rw[HC.out];rfl),xH.out.drew⟩
  obtain⟨b,off,rfl,_,_⟩:=SlV.at HV.out (show 0<V.length by omega);have HNL:=Zhd hnn;have xg:=SlV.dropIf HV.out (show p.ins.length<=V.length by omega) (by omega);have hcapv:=SlV.capl HV.out;have qM:p.ins.length<=cv:=by omega
  have zI:n<=cv:=by omega
  have hsI:(p.ins.length:Int)<=(n:Int):=by omega
  have KI:=Zhd (λw2 (h:K.In w2)=>Zfe K _ (V.drop p.ins.length) so w2 xg (by simp;omega) h);have HZS:=Zhd (HZ.out so);generalize Zbo (V.drop p.ins.length) so=kq at *;by_cases hz:kq=0
  .have HC:=Zhd (show Zak p=3 from Zfl qQ.out (by
    rw[gL.out,HOS.out];have:=HST2.out;simp only[List.nil_append] at this;rw[this,HZS.out.1 hz];rfl))
   subst hz;go_wp2_with fail;refine Zae (λw'=>K.In w') (λ_=>True) 99 (by kernel_rfl) ?_;refine Go.w3 0 ?_
   iterate 10 ((first|(refine tk3 (v:=?_) rfl Hq Ztr ?hy ?_;(case hy=>exact mRfF1))|refine sk3 rfl Hq Ztr ?_|refine no3 ?_);refine Zss ?_)
   refine Go.w3e ?_;refine Zwo 10 rfl λK_ hK=>?_;go_simp;go_at_call 85;refine(KI.out _ Hq).mono ?_;rintro r wz ⟨rfl,rfl⟩;refine hK.out _ _ (Hq) Ztr ?_;clear hK K_
   try simp only[tkS]
   refine Go.w3 11 ?_
   iterate 13 ((first|(refine tk3 (v:=?_) rfl Hq Ztr ?hy ?_;(case hy=>exact mRfF1))|refine sk3 rfl Hq Ztr ?_|refine no3 ?_);refine Zss ?_)
   refine Go.w3e ?_;refine Zwd ?_;generalize (if cv=p.ins.length then(some ⟨b,off,none⟩:Option Addr) else some ⟨b,off+p.ins.length * 2,none⟩)=adr;go_wp2_with fail;go_ret;exact⟨Zaf (by rw[HC.out];rfl),xH.out.drew⟩
  have hz':(kq==0)=false:=by simpa using hz
  have hNc:N.contains so=true:=by
   cases hx:N.contains so with
   |true=>rfl
   |false=>exact absurd (HZS.out.2 hx) hz
  have Jp:Zce N [] p.outs=(!(p.outs.take k).contains so&&Zce N (p.outs.take (k+1)) (p.outs.drop (k+1))):=by
   rw[HOS.out];have:=HST2.out;simp only[List.nil_append] at this;rw[this,hNc,Bool.true_and]
  have HS:=Zhd Jp;have hzz:=Zhd hz;clear hz hNc Jp;have HI:=Zhd (λw2 (h:K.In w2)=>rhas_any K _ (p.outs.take k) so w2 hZ (by simp;omega) h);generalize (p.outs.take k).contains so=cb at *;go_wp2_with fail;refine Zae (λw'=>K.In w') (λ_=>True) 99 (by kernel_rfl) ?_;refine Go.w3 0 ?_
  iterate 10 ((first|(refine tk3 (v:=?_) rfl Hq Ztr ?hy ?_;(case hy=>exact mRfF1))|refine sk3 rfl Hq Ztr ?_|refine no3 ?_);refine Zss ?_)
  refine Go.w3e ?_;refine Zwo 10 rfl λK_ hK=>?_;go_simp;go_at_call 85;refine(KI.out _ Hq).mono ?_;rintro r wz ⟨rfl,rfl⟩;refine hK.out _ _ (Hq) Ztr ?_;clear hK K_
  try simp only[tkS]
  refine Go.w3 11 ?_
  iterate 11 ((first|(refine tk3 (v:=?_) rfl Hq Ztr ?hy ?_;(case hy=>exact mRfF1))|refine sk3 rfl Hq Ztr ?_|refine no3 ?_);refine Zss ?_)
  refine Go.w3e ?_;refine Zwo 22 rfl λK_ hK=>?_;go_simp;go_at_call 54;refine(HI.out _ Hq).mono ?_;rintro r wz ⟨rfl,rfl⟩;refine hK.out _ _ (Hq) Ztr ?_;clear hK K_
  try simp only[tkS]
  refine tk2 (i:=23) (v:=?_) rfl Hq Ztr ?hy ?_
  case hy=>intro w Hi;obtain⟨z0,z1,z2⟩:=Hi.c3 k0 k1 d0;go_simp<;>with_reducible rfl
  try simp only[tkS]
  refine Zwd ?_;generalize (if cv=p.ins.length then(some ⟨b,off,none⟩:Option Addr) else some ⟨b,off+p.ins.length * 2,none⟩)=adr;cases cb
  .have HX:=Zhd (show Zce N [] p.outs=Zce N (p.outs.take (k+1)) (p.outs.drop (k+1)) by rw[HS.out];rfl);go_wp2_with fail;go_roundw
   case rel=>exact⟨k+1,by go_num,by omega,HX.out,xG.out.drew⟩
   simp[intOf];omega
  have HC:=Zhd (show Zak p=3 from Zfl qQ.out (by rw[gL.out,HS.out];rfl));go_wp2_with fail;go_ret;exact⟨Zaf (by rw[HC.out];rfl),xH.out.drew⟩
 obtain rfl:k=p.outs.length:=by omega
 have jP:=Zhd (show Zce (p.fl.map (·.name)) [] p.outs=true by rw[gL.out,HOS.out,List.drop_length];rfl);clear HZ QE HOS xG;have m0:=x9.cell k0;have m2:=x9.cell k2;have m3:=x9.cell k3;have m4:=x9.cell k4;have HLN:=Zhd hVl;have HNL:=Zhd hnn;go_wp2_with fail;refine(Zjd K p _ _ _ _ _ HP.out (by omega) _ x9).mono ?_;rintro r w4 ⟨v4,K4,rfl,yU,hst4⟩;obtain⟨a4,c4,rfl⟩:=yU.len;have HT:=Zhd yU;have yj:=hst4.le;have hin4:=Zhd hst4.isin;have HBW4:=Zhd (xH.out.trans (hst4.below.mono xH.out.size));have HV4:=Zhd (show VrsV K4 V (.slice av n cv) from HV.out.le yj VrC.mono);have QC:=Zhd (HP.out.le yj);have H34:=Zhd (H3.out.le yj (FlC.mono yj));have k0:=yj.cell k0;have k1:=yj.cell k1;have k2:=yj.cell k2;have k3:=yj.cell k3;have k4:=yj.cell k4;have ku:V.length<=1000000000:=by omega
 clear yU hst4 m0 m2 m3 m4;go_wp2_with fail;go_loopw[2,7,8] (λ_ i _ wx=>∃(k:Nat),i=.int .i64 k/\k<=p.terms.length/\(∀j (hj:j<p.terms.length),j<k->Zad (ksOf V) p.terms[j]=true)/\Ybw w4 wx) (λ_ i _ _=>p.terms.length - (intOf i).toNat)
 case atStart=>exact⟨0,rfl,Nat.zero_le _,λj _ h=>by omega,Below.refl _ _⟩
 obtain⟨k,rfl,hk,Jo,Hu⟩:=hrel;have JR:=Zhd Jo;have xG:=Zhd Hu;have HBW5:=Zhd (HBW4.out.trans (Hu.mono HBW4.out.size));have qg:=hin4.out.below Hu;clear Jo Hu;by_cases Hd:k<p.terms.length
 .obtain⟨b,off,ax,cx,rfl,d0,d1,d2,d3,hx⟩:=HT.out.at Hd;have d0:=qg.cell d0;have d1:=qg.cell d1;have d2:=qg.cell d2;have d3:=qg.cell d3;have Jy:p.terms[k].parts<=1000000000000:=by have:=Za0 p.terms k Hd;omega
  cases he:Zad (ksOf V) p.terms[k]
  .have HC:=Zhd (show Zak p=3 from check_form qQ.out jP.out (Zhs _ _ k Hd he));have HE:=Zhd he;generalize p.terms[k]=x at *;clear he;go_wp2_with fail;refine(Zkf K4 V _ HV4.out ku x _ hx Jy _ qg).mono ?_;rw[HE.out];rintro r w5 ⟨rfl,Jf⟩;go_wp2_with fail;go_ret;exact⟨Zaf (by rw[HC.out];rfl),HBW5.out.trans (Jf.mono HBW5.out.size)⟩
  have HX:=Zhd (show ∀j (hj:j<p.terms.length),j<k+1->Zad (ksOf V) p.terms[j]=true from λj hj jV=>by
   by_cases hjk':j<k
   .exact JR.out j hj hjk'
   obtain rfl:j=k:=by omega
   exact he)
  have HE:=Zhd he;generalize p.terms[k]=x at *;clear he;go_wp2_with fail;refine(Zkf K4 V _ HV4.out ku x _ hx Jy _ qg).mono ?_;rw[HE.out];rintro r w5 ⟨rfl,Jf⟩;have JX:=xG.out.trans (Jf.mono xG.out.size);go_wp2_with fail;go_roundw
  case rel=>exact⟨k+1,by go_num,by omega,HX.out,JX⟩
  simp[intOf];omega
 obtain rfl:k=p.terms.length:=by omega
 have HFA:=Zhd (show ∀j (hj:j<p.terms.length),Zad (ksOf V) p.terms[j]=true from λj hj=>JR.out j hj hj);have qr:=Zhd (Zi0 _ _ HFA.out);have m0:=qg.cell k0;have m1:=qg.cell k1;have m2:=qg.cell k2;have m3:=qg.cell k3;have m4:=qg.cell k4;clear JR;by_cases hbig1:400<p.fl.length
 .have HC:=Zhd (show Zak p=2 from Zi5 qQ.out jP.out qr.out (.inl hbig1));go_wp2_with fail;go_ret;exact⟨Zaf (by rw[HC.out];rfl),HBW5.out⟩
 have HPO:=Zhd (rpartsOf_any K4 p _ _ _ _ _ QC.out s1 _ qg);have hCB:=Zhd (λh:4000<Ex.partsL p.terms=>(show Zak p=2 from Zi5 qQ.out jP.out qr.out (.inr (.inl h))));have hCI:=Zhd (λh:30<p.ins.length=>(show Zak p=2 from Zi5 qQ.out jP.out qr.out (.inr (.inr h))));have hKK:=Zhd (λ(h2:¬4000<Ex.partsL p.terms) (h3:¬30<p.ins.length) (h:Zdr (ksOf V) (p.fl.map (·.kind)) p.terms=false)=>(show Zak p=5 from check_kind qQ.out jP.out qr.out (by omega) h));have hOO:=Zhd (λ(h2:¬4000<Ex.partsL p.terms) (h3:¬30<p.ins.length) (h:Zdr (ksOf V) (p.fl.map (·.kind)) p.terms=true)=>(show Zak p=0 from check_ok qQ.out jP.out qr.out (by omega) h));have hpm:=Zhd (λ(j:Nat) (hj:j<p.terms.length)=>Za0 p.terms j hj);generalize qH:Ex.partsL p.terms=pp at *;go_wp2_with fail;refine HPO.out.mono ?_;rintro r w6 ⟨rfl,JX⟩;have HBW6:=Zhd (HBW5.out.trans (JX.mono HBW5.out.size));have hin6:=Zhd (qg.below JX);have g0:=hin6.out.cell k0;clear JX m0 m1 m2 m3 m4;by_cases hbig2:4000<pp
 .have HC:=Zhd (hCB.out hbig2);go_wp2_with fail;go_ret;exact⟨Zaf (by rw[HC.out];rfl),HBW6.out⟩
 by_cases hbig3:30<p.ins.length
 .have HC:=Zhd (hCI.out hbig3);go_wp2_with fail;go_ret;exact⟨Zaf (by rw[HC.out];rfl),HBW6.out⟩
 have HKF:=Zhd (hKK.out hbig2 hbig3);have HOF:=Zhd (hOO.out hbig2 hbig3);clear hKK hOO hCI hCB;go_wp2_with fail;go_loopw[2,9,10] (λ_ i _ wx=>∃(k:Nat),i=.int .i64 k/\k<=p.terms.length/\(∀j (hj:j<p.terms.length),j<k->Zai (ksOf V) p.terms[j]=(p.fl.map (·.kind)).getD j 1)/\Ybw w6 wx) (λ_ i _ _=>p.terms.length - (intOf i).toNat)
 case atStart=>exact⟨0,rfl,Nat.zero_le _,λj _ h=>by omega,Below.refl _ _⟩
 obtain⟨k,rfl,hk,Jo,Hu⟩:=hrel;have JR:=Zhd Jo;have HB7:=Zhd Hu;have HBW7:=Zhd (HBW6.out.trans (Hu.mono HBW6.out.size));have vK:=hin6.out.below Hu;clear Jo Hu;by_cases Hd:k<p.terms.length
 .obtain⟨b,off,ax,cx,rfl,d0,d1,d2,d3,hx⟩:=HT.out.at Hd;have d0:=vK.cell d0;have d1:=vK.cell d1;have d2:=vK.cell d2;have d3:=vK.cell d3;have m2:=vK.cell k2;have Jy:p.terms[k].parts<=1000000000:=by have:=hpm.out k Hd;omega
  have jD:=HFA.out k Hd;have gj:=Zhd (λh:¬Zai (ksOf V) p.terms[k]=(p.fl.map (·.kind)).getD k 1=>HKF.out (by
   cases hg:Zdr (ksOf V) (p.fl.map (·.kind)) p.terms with
   |false=>rfl
   |true=>exact absurd ((Zc4 _ _ _).1 hg k Hd) h))
  have HNXT:=Zhd (λh:Zai (ksOf V) p.terms[k]=(p.fl.map (·.kind)).getD k 1=>(show ∀j (hj:j<p.terms.length),j<k+1->Zai (ksOf V) p.terms[j]=(p.fl.map (·.kind)).getD j 1 from λj hj jV=>by
   by_cases hjk':j<k
   .exact JR.out j hj hjk'
   obtain rfl:j=k:=by omega
   exact h))
  have gQ:=Zhd (Zii K4 V _ HV4.out ku p.terms[k] _ hx Jy jD _ vK);have hwk:∃wk,(p.fl.map (·.kind)).getD k 1=wk:=⟨_,rfl⟩;obtain⟨wk,hwk⟩:=hwk;have HWK:=Zhd hwk;rw[hwk] at gj HNXT;clear hwk Jy jD hx;generalize Zai (ksOf V) p.terms[k]=kx at *;generalize p.terms[k]=x at *;by_cases qJ:k<p.fl.length
  .obtain⟨bf,of,cf,hef,_,_,JJ⟩:=FlsV.cell H34.out (λe=>by rw[e] at qJ;simp at qJ);cases hef;obtain⟨_,_,f0,f1,_⟩:=JJ k qJ;have f1:=vK.cell f1;have hwf:p.fl[k].kind=wk:=by have:=HWK.out;simpa[Ygg,qJ] using this
   rw[hwf] at f1;clear JJ f0 hwf;rcases Ybb (kx==wk) with e|e
   .have HX:=Zhd (HNXT.out (by simpa using e));have Hs:(kx != wk)=false:=by simp[bne,e]
    exact mRfF2
   have HC:=Zhd (gj.out (by simpa using e));have Hs:(kx != wk)=true:=by simp[bne,e]
   exact mRfF3
  have hwf:wk=1:=by rw[<- HWK.out];simp[Ygg,List.getElem?_eq_none (show(p.fl.map (·.kind)).length<=k by simp;omega)]
  subst hwf;rcases Ybb (kx==1) with e|e
  .have HX:=Zhd (HNXT.out (by simpa using e));have Hs:(kx != 1)=false:=by simp[bne,e]
   exact mRfF2
  have HC:=Zhd (gj.out (by simpa using e));have Hs:(kx != 1)=true:=by simp[bne,e]
  exact mRfF3
 have HC:=Zhd (HOF.out ((Zc4 _ _ _).2 λj hj=>JR.out j hj (by omega)));go_wp2_with fail;go_ret;exact⟨Zaf (by rw[HC.out];rfl),HBW7.out⟩
end Go.Proofs.YtafapnolamcdmaaGreatDoor
