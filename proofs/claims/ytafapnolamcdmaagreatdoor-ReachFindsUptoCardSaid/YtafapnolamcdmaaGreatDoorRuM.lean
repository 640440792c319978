/- Plain: what flow.Run answers; ticks that were told, in memory. -/
import Derived.Test.YtafapnolamcdmaaGreatDoorTkM
import Derived.Test.YtafapnolamcdmaaGreatDoorFxM
set_option linter.all false
namespace Go.Proofs.YtafapnolamcdmaaGreatDoor
open Go.RowKit Mx
abbrev InsV(H:Kn):List (List Vl)->Value->Prop:=SlV H 1 λl f=>∃u,f 0=some u/\VlsV H l u
theorem InsV.le{H H':Kn}(He:H.le H'){l:List (List Vl)}{v:Value}(h:InsV H l v):InsV H' l v:=
 SlV.le h He λ_x _f _g hfg ⟨u,h1,h2⟩=>⟨u,hfg _ _ h1,SlV.le h2 He VlC.mono⟩
def TkC(H:Kn)(k:Tk)(f:Nat->Option Value):Prop:=∃ov cv,f 0=some ov/\f 1=some (.bool k.asrt)/\f 2=some (.bool k.trap)/\f 3=some cv/\TkV H k ov cv
abbrev TksV(H:Kn):List Tk->Value->Prop:=SlV H 4 (TkC H)
theorem TkC.mono{H H':Kn}(He:H.le H')(x:Tk)(f g:Nat->Option Value)(h:∀j u,f j=some u->g j=some u)(hx:TkC H x f):TkC H' x g:=by
 obtain⟨ov,cv,h0,h1,h2,h3,h4⟩:=hx;exact⟨ov,cv,h _ _ h0,h _ _ h1,h _ _ h2,h _ _ h3,h4.le He⟩
theorem TksV.le{H H':Kn}(He:H.le H'){l:List Tk}{v:Value}(h:TksV H l v):TksV H' l v:=SlV.le h He (TkC.mono He)
theorem CodeAt.le{NT CT:TypeId}{R:REnv}{K K':Kn}(He:K.le K'){p:Pr}{ord:List Nat}{B:Nat}(h:CodeAt NT CT R K p ord B):CodeAt NT CT R K' p ord B:=by
 obtain⟨cs,vI,vo,vf,va,vc,vu,vM,kK,⟨e0,h0⟩,⟨e5,h5⟩,⟨e6,h6⟩,⟨e7,h7⟩,⟨e8,h8⟩,⟨e9,h9⟩,⟨js,jv⟩⟩:=h.ex;exact⟨cs,vI,vo,vf,va,vc,vu,vM,He _ _ kK,⟨e0,h0.le He VrC.mono⟩,⟨e5,Zco.le He h5⟩,⟨e6,h6.le He⟩,⟨e7,h7.le He⟩,⟨e8,h8.le He⟩,⟨e9,h9.le He⟩,⟨js,jv.le He⟩⟩
structure CdR(R:REnv)(p:Pr)(ord:List Nat):Prop where
 f:∀e∈p.terms,Zad R.ks e=true
 pa:∀e∈p.terms,e.parts<=1000000000
 nm:∀s,(R.ks s).isSome=true->(R.nm s<0->(-1 - R.nm s).toNat<p.ins.length)/\(0<=R.nm s->(R.nm s).toNat<p.fl.length)
 od:∀k∈ord,k<p.fl.length
 ou:∀i∈(cdOf p ord).outs,0<=i/\i.toNat<p.fl.length
 z1:ord.length<=1000000
 z2:p.fl.length<=1000000
 z3:p.as.length<=1000000
 z4:p.cs.length<=1000000
 z5:p.outs.length<=1000000000
 z6:Zag p.terms<=1000000000
 z7:p.ins.length<=1000000
 ps:Ex.partsL p.terms<=1000000000
 ml:(cdOf p ord).ms.length=Zag p.terms
theorem cd_ready{p:Pr}(_h0:(Za2 p).1=0){ks:Env Int}(hks:Zao Env.none p.vars=some ks){ord:List Nat}(ho:Za5 p=.ok ord)(nb:Bool)(ni:Int)(z5:p.outs.length<=1000000000)(z3:p.as.length<=1000000)(z4:p.cs.length<=1000000):CdR ⟨ks,Zac p,getI (Zah p),nb,ni⟩ p ord:=by
 obtain⟨J0,Ho,Jm⟩:=Zbg ho;obtain⟨ks',kP,Hn,ji,jY,qH,Hk,_⟩:=Zb9 J0;rw[hks] at kP;cases kP;have hm:=Zil p.terms;refine⟨λe he=>?_,λe he=>?_,λs hs=>Zik J0 hks s hs,Jm,λi hi=>?_,by omega,by omega,z3,z4,z5,by omega,by omega,by omega,?_⟩
 .obtain⟨i,hi,rfl⟩:=List.mem_iff_getElem.1 he;exact(Zbe ks _).1 ji i hi
 .have:=partsL_mem he;omega
 .obtain⟨s,hs,rfl⟩:=List.mem_map.1 hi;have zX:=Zg8 _ _ _ Hn s hs;obtain⟨k,hk,e⟩:=List.mem_iff_getElem.1 zX;have qZ:k<p.fl.length:=by simpa using hk
  have e':p.fl[k].name=s:=by simpa using e
  have h5:=Zgi J0 k qZ;rw[e'] at h5;rw[h5];exact⟨by omega,by simpa using qZ⟩
 show(Zcc 0 p.terms).length=_;rw[Zdf,List.length_map,Zaw]
theorem tickM_len(R:REnv)(c:Cd)(first:Bool)(mem inp:List Vl):(Zb7 R c first mem inp).1.trap=false->(Zb7 R c first mem inp).2.length=c.ms.length:=by
 unfold Zb7;dsimp only
 split
 .intro h;cases h
 intro _;simp[Zdn]
def osX(os:List (Tk×Value×Value)):List Value:=os.flatMap λx=>[x.2.1,.bool x.1.asrt,.bool x.1.trap,x.2.2]
structure RuS(DT:TypeId)(H:Kn)(w0 wr:World)(base:Nat)(os:List (Tk×Value×Value))(u:Value)(K:Kn)(ms:List Vl)(vm:Value):Prop where
 le:H.le K
 isin:K.In wr
 below:Ybw w0 wr
 row:wr.ownsRow base DT 4 u os.length (osX os)
 noU:∀g,u.ownBlock=some g->K g=none
 tks:∀x∈os,TkV K x.1 x.2.1 x.2.2
 mem:VlsV K ms vm
 hb:w0.heap.size<=base
 low:base<=wr.heap.size
section
variable {DT : TypeId} {H : Kn} {w0 wr : World} {base : Nat} {os : List (Tk × Value × Value)} {u : Value} {K : Kn} {ms : List Vl} {vm : Value}
theorem RuS.init{w3:World}(hb:Ybw w0 w3)(hm:VlsV (Zan w3) ms vm):RuS DT (Zan w3) w0 w3 w3.heap.size [] (Ys0) (Zan w3) ms vm:=
 ⟨Kn.le_refl _,Za9 w3,hb,World.ownsRow_nil _ _ _ _,λg hg=>by simp[Value.ownBlock] at hg,(λx hx=>by cases hx),hm,hb.size,Nat.le_refl _⟩
theorem RuS.next{w':World}(h:RuS DT H w0 wr base os u K ms vm)(hb:Ybw wr w'):RuS DT H w0 w' base os u K ms vm:=
 ⟨h.le,h.isin.below hb,h.below.trans (hb.mono h.below.size),Za1 h.row hb,h.noU,h.tks,h.mem,h.hb,Nat.le_trans h.low hb.size⟩
theorem RuS.alloc(h:RuS DT H w0 wr base os u K ms vm)(o:Obj):RuS DT H w0 (wr.alloc o) base os u K ms vm:=h.next ((Below.refl _ _).alloc Ylr o)
theorem RuS.low'(h:RuS DT H w0 wr base os u K ms vm):base<=wr.heap.size:=h.low
theorem RuS.tick{w5:World}{k:Tk}{ov cv u5:Value}{ms':List Vl}(h:RuS DT H w0 wr base os u K ms vm)(hb:Ybw wr w5)(hk:TkV (Zb3 wr.heap.size w5) k ov cv)(hm:VlsV (Zb3 wr.heap.size w5) ms' u5):
  RuS DT H w0 w5 base os u (Zbt K wr.heap.size w5) ms' u5/\TkV (Zbt K wr.heap.size w5) k ov cv:=by
 have h1:=Zb6 h.isin w5;have h2:=Zdk K wr.heap.size w5;exact⟨⟨Kn.le_trans h.le h1,Ziu h.isin hb,h.below.trans (hb.mono h.below.size),Za1 h.row hb,λg hg=>by unfold Zbt;rw[if_pos (h.row.lt g hg).2];exact h.noU g hg,λx hx=>(h.tks x hx).le h1,SlV.le hm h2 VlC.mono,h.hb,Nat.le_trans h.low hb.size⟩,hk.le h2⟩
theorem RuS.app{w6:World}{gg Hh:Nat}{k:Tk}{ov cv:Value}(h:RuS DT H w0 wr base os u K ms vm)(hk:TkV K k ov cv)
  (Hb:w6.ownsRow base DT 4 (.slice (some ⟨gg,0,none⟩) (os.length+1) Hh) (os.length+1) (osX os++[ov,.bool k.asrt,.bool k.trap,cv])) (hg:wr.grownBy w6 u.ownBlock) (hJ:u.ownBlock=some gg\/gg=wr.heap.size):
  RuS DT H w0 w6 base (os++[(k,ov,cv)]) (.slice (some ⟨gg,0,none⟩) (os.length+1) Hh) K ms vm:=by
 have hb:=h.hb;refine⟨h.le,h.isin.grown hg h.noU,⟨hg.os.trans h.below.os,hg.tape.trans h.below.tape,hg.output.trans h.below.output,Nat.le_trans h.below.size hg.size,λi hi=>?_⟩,?_,λg JH=>?_,λx hx=>?_,h.mem,hb,Nat.le_trans h.low hg.size⟩
 .rw [hg.block i (Nat.lt_of_lt_of_le hi h.below.size) (λe=>by have:=(h.row.lt i e.symm).1;omega)];exact h.below.block i hi
 .rw [List.length_append];have e:osX (os++[(k,ov,cv)])=osX os++[ov,.bool k.asrt,.bool k.trap,cv]:=by simp[osX]
  rw[e];exact Hb
 .have e:gg=g:=by simpa[Value.ownBlock] using JH
  subst e;rcases hJ with h1|rfl
  .exact h.noU gg h1
  exact h.isin.isNone Ylr
 rcases List.mem_append.1 hx with hx|hx
 .exact h.tks x hx
 rw[List.mem_singleton.1 hx];exact hk
theorem RuS.fin(h:RuS DT H w0 wr base os u K ms vm):TksV (Zan wr) (os.map (·.1)) u:=by
 have hr:wr.ownsRow base DT 4 u (os.map (·.1)).length (osX os):=by rw[List.length_map];exact h.row
 refine Zgz hr λi hi f hf=>?_;have za:i<os.length:=by simpa using hi
 have hc:∀j,j<4->(osX os)[i * 4+j]?=[os[i].2.1,Value.bool os[i].1.asrt,.bool os[i].1.trap,os[i].2.2][j]?:=λj hj=>Zhi 4 (λx:Tk×Value×Value=>[x.2.1,.bool x.1.asrt,.bool x.1.trap,x.2.2]) (λ_=>rfl) os i za j hj;rw[List.getElem_map];exact⟨os[i].2.1,os[i].2.2,hf 0 _ (by rw[hc 0 (by omega)];rfl),hf 1 _ (by rw[hc 1 (by omega)];rfl),hf 2 _ (by rw[hc 2 (by omega)];rfl),hf 3 _ (by rw[hc 3 (by omega)];rfl),(h.tks _ (Ymm za)).le (all_of h.isin)⟩
end
def runE(p:Pr)(ins:List (List Vl))(ni:Int):Nat×Int:=
 if (Za2 p).1≠0 then Za2 p else if 300<ins.length\/ni < -128\/127<ni then(2, -1) else match ins.findIdx? (λl => !Zas p.ins l l.length) with|some i=>(5,(i:Int))|none=>(0, -1)
def Zgt(sp:Nat->Addr)(nb:Bool)(ni:Int)(p:Pr)(ins:List (List Vl))(w:World)(r:Ending)(w':World):Prop:=
 Ybw w w'/\if (runE p ins ni).1=0 then ∃ks ord v,Zao Env.none p.vars=some ks/\Za5 p=.ok ord/\r=.returned (.tuple #[v,.nilIface])/\
   TksV (Zan w') (Zf6 ⟨ks,Zac p,getI (Zah p),nb,ni⟩ (cdOf p ord) true (Zba ⟨ks,Zac p,getI (Zah p),nb,ni⟩ (Zab 0 p.terms)) ins) v
  else ∃v,r=.returned (.tuple #[Ys0,v])/\ErrW sp w' (runE p ins ni).1 (runE p ins ni).2 v
def runM(nb:Bool)(ni:Int)(p:Pr)(ins:List (List Vl)):List Tk:=
 match Zao Env.none p.vars,Za5 p with
 |some ks,.ok ord=>Zf6 ⟨ks,Zac p,getI (Zah p),nb,ni⟩ (cdOf p ord) true (Zba ⟨ks,Zac p,getI (Zah p),nb,ni⟩ (Zab 0 p.terms)) ins
 |_,_=>[]
theorem Zgt.told{sp:Nat->Addr}{nb:Bool}{ni:Int}{p:Pr}{ins:List (List Vl)}{w w':World}{r:Ending}(h:Zgt sp nb ni p ins w r w'):
  Ybw w w'/\(((runE p ins ni).1=0/\∃v,r=.returned (.tuple #[v,.nilIface])/\TksV (Zan w') (runM nb ni p ins) v)\/((runE p ins ni).1≠0/\∃t v,r=.returned (.tuple #[Ys0,.iface t v])/\ErrW sp w' (runE p ins ni).1 (runE p ins ni).2 (.iface t v))):=by
 obtain⟨h1,h2⟩:=h;refine⟨h1,?_⟩;by_cases h0:(runE p ins ni).1=0
 .rw [if_pos h0] at h2;obtain⟨ks,ord,v,e1,e2,rfl,h3⟩:=h2;refine .inl ⟨h0,v,rfl,?_⟩;unfold runM;rw[e1,e2];exact h3
 rw[if_neg h0] at h2;obtain⟨v,rfl,hv⟩:=h2;refine .inr ⟨h0,?_⟩;obtain⟨t,u,rfl⟩:∃t u,v=.iface t u:=by
  rcases hv with ⟨_,h⟩|⟨_,N,h,_⟩
  .obtain⟨c,hc⟩:∃c,(runE p ins ni).1=c+1:=⟨(runE p ins ni).1 - 1,by omega⟩;rw[hc,Zfk] at h;exact⟨_,_,h⟩
  exact⟨_,_,h⟩
 exact⟨t,u,rfl,hv⟩
theorem Zih{p:Pr}{ins:List (List Vl)}{ni:Int}(h:(runE p ins ni).1=0):(Za2 p).1=0/\ins.length<=300/\(-128<=ni/\ni<=127)/\∀l∈ins,Zas p.ins l l.length=true:=by
 unfold runE at h
 split at h
 .exact absurd h ‹_›
 rename_i h0
 split at h
 .cases h
 rename_i h1
 refine⟨by omega,by omega,by omega,λl hl=>?_⟩
 split at h
 .cases h
 rename_i h2
 have:=List.findIdx?_eq_none_iff.1 h2 l hl;simpa using this
theorem runE_of{p:Pr}{ins:List (List Vl)}{ni:Int}(h0:(Za2 p).1=0)(h1:ins.length<=300)(h2 : -128<=ni/\ni<=127)(h3:∀l∈ins,Zas p.ins l l.length=true):runE p ins ni=(0, -1):=by
 unfold runE;rw[if_neg (λh=>h h0),if_neg (by omega)];rw[List.findIdx?_eq_none_iff.2 λl hl=>by simp[h3 l hl]]
theorem check_kinds{p:Pr}(h:(Za2 p).1=0):∃ks ord,Zao Env.none p.vars=some ks/\Za5 p=.ok ord:=by
 obtain⟨l,ho,_⟩:=Zf0 h;obtain⟨J0,_,_⟩:=Zbg ho;obtain⟨ks,hks,_⟩:=Zb9 J0;exact⟨ks,l,hks,ho⟩
theorem runM_nils{p:Pr}(h:(Za2 p).1=0)(nb nb':Bool)(ni ni':Int)(ins:List (List Vl)):runM nb ni p ins=runM nb' ni' p ins:=by
 obtain⟨ks,ord,hks,ho⟩:=check_kinds h;unfold runM;rw[hks,ho];exact go_first (R:=⟨ks,Zac p,getI (Zah p),nb,ni⟩) (R':=⟨ks,Zac p,getI (Zah p),nb',ni'⟩) ⟨rfl,rfl,rfl⟩ (cd_ok h hks ho nb ni) _ _ ins
theorem tickM_sizes(R:REnv)(c:Cd)(first:Bool)(mem inp:List Vl):(Zb7 R c first mem inp).1.out.length<=c.outs.length/\(Zb7 R c first mem inp).1.checks.length<=c.cv.length:=by
 unfold Zb7;dsimp only
 split
 .simp [trapT]
 simp[Zdn]
theorem Zjr:∀(l:List Vr) (i:Nat) (m:Env Int) (s:ByteArray) (v:Int),Zcs i m l s=some v->m s=some v\/∃j,∃h:j<l.length,l[j].name=s/\v = -1 - ((i+j:Nat):Int)
 | [],i,m,s,v,h => .inl h
 |x :: l,i,m,s,v,h=>by
  rw[Zcs] at h;rcases Zjr l (i+1) _ s v h with h1|⟨j,hj,h1,h2⟩
  .by_cases e:s=x.name
   .rw [e,Env.set_self] at h1;cases h1;exact .inr ⟨0,by simp,by simp[e],by simp⟩
   rw[Env.set_other _ _ e] at h1;exact .inl h1
  exact .inr ⟨j+1,by simpa using hj,by simpa using h1,by rw[h2];omega⟩
theorem ty_of{p:Pr}(J0:Zak p=0){ks:Env Int}(hks:Zao Env.none p.vars=some ks){nb:Bool}{ni:Int}(qI : -128<=ni/\ni<=127){inp:List Vl}(hi:Zas p.ins inp inp.length=true):
  TyR ⟨ks,Zac p,getI (Zah p),nb,ni⟩ ks p.atOf (λk=>(p.fl.map (·.kind)).getD k 0) p.fl.length inp:=by
 have hh:=fresh_has _ _ _ hks;refine⟨rfl,qI,Zgq _ _ _ hks (λs k h=>by simp[Env.none] at h),λs k hk h0=>?_,λs k hk h0=>?_⟩
 .have hs:(ks s).isSome=true:=by rw[hk];rfl
  have hr:=(Zik J0 hks s hs).1 h0;have hf:s∉p.fl.map (·.name):=λhf=>by
   obtain⟨i,hi,e⟩:=List.mem_iff_getElem.1 hf;have qK:i<p.fl.length:=by simpa using hi
   have:=Zgi J0 i qK;have e':p.fl[i].name=s:=by simpa using e
   rw[e'] at this;have h0:getI (Zah p) s<0:=h0;omega
  rcases Zfh _ _ _ hks hs with h|h
  .simp [Env.none] at h
  have Hk:s∈p.ins.map (·.name):=by
   simp only[Pr.vars,List.map_append,List.map_map,List.mem_append] at h;exact h.resolve_right hf
  obtain⟨j,hj⟩:=Zhf p.ins 0 Env.none s (.inl Hk);have jy:getI (Zah p) s = -1 - (j:Int):=by
   unfold getI Zah;rw[Zd1 _ _ _ _ hf,hj];rfl
  rcases Zjr _ _ _ _ _ hj with h|⟨j',jB,e1,e2⟩
  .simp [Env.none] at h
  have hjj:j=j':=by omega
  subst hjj;have hkk:ks s=some p.ins[j].kind:=by
   have:=hh.2 (p.ins[j].name,p.ins[j].kind) (by
    simp only[Pr.vars,List.mem_append,List.mem_map];exact .inl ⟨p.ins[j],Ymm _,rfl⟩)
   rw[e1] at this;exact this
  rw[hk] at hkk;cases hkk;show Zaq (inp.getD (-1 - getI (Zah p) s).toNat vz) _=true;rw[jy,show(-1 - (-1 - (j:Int))).toNat=j from by omega];unfold Zas at hi;simp only[Bool.and_eq_true,decide_eq_true_eq,List.all_eq_true,List.mem_range] at hi;have:=hi.2 j (by omega);simpa[Ygg,jB] using this
 have hs:(ks s).isSome=true:=by rw[hk];rfl
 have hr:=(Zik J0 hks s hs).2 h0;have hs':=nm_of J0 hks s hs h0;refine⟨nm_at J0 hks s hs h0,?_,hr⟩;show(p.fl.map (·.kind)).getD (getI (Zah p) s).toNat 0=k;generalize (getI (Zah p) s).toNat=i at hr hs';have:=hh.2 (p.fl[i].name,p.fl[i].kind) (by
  simp only[Pr.vars,List.mem_append,List.mem_map];exact .inr ⟨p.fl[i],Ymm _,rfl⟩)
 have e:s=p.fl[i].name:=by rw[hs'];simp[nfOf,Ygg,hr]
 rw[<- e,hk] at this;cases this;simp[Ygg,hr]
def MemR(ks:Env Int)(p:Pr)(mem:List Vl):Prop:=mem.length=(Zab 0 p.terms).length/\∀j (h:j<(Zab 0 p.terms).length),Zaq (mem.getD j vz) (Zai ks (Zab 0 p.terms)[j].1)=true
def kmOf(ks:Env Int)(p:Pr)(j:Nat):Int:=Zai ks ((Zab 0 p.terms).getD j d0).1
theorem placed_all(ks:Env Int)(p:Pr):Zf2 ks (kmOf ks p) 0 p.terms:=λj x hx=>by
 unfold kmOf;rw[Nat.zero_add,Ygg,hx];rfl
theorem placed_with{ks:Env Int}{KM:Nat->Int}:∀{l:List Ex} {m:Nat},Zf2 ks KM m l->∀x∈Za4 m l,Zet ks KM x.2 x.1
 | [],_,_,x,hx=>by simp[Za4] at hx
 |e :: l,m,h,x,hx=>by
  simp only[Za4,List.mem_cons] at hx;rcases hx with rfl|hx
  .exact h.cons.1
  exact placed_with h.cons.2 x hx
theorem Zfq:∀(a b:List Ex) (m:Nat),Za4 m (a++b)=Za4 m a++Za4 (m+Zag a) b
 | [],b,m=>by simp[Za4,Zag]
 |e :: a,b,m=>by simp only[List.cons_append,Za4,Zag,Zfq a b,Nat.add_assoc]
theorem cd_with(p:Pr)(ord:List Nat):Za4 0 p.terms=(cdOf p ord).fs++(cdOf p ord).av++(cdOf p ord).cv:=by
 unfold Pr.terms cdOf;rw[Zfq,Zfq,Zcl,Nat.zero_add,Nat.zero_add]
theorem memR_get{ks:Env Int}{p:Pr}{mem:List Vl}(h:MemR ks p mem)(j:Nat)(hj:j<Zag p.terms):Zaq (mem.getD j vz) (kmOf ks p j)=true:=by
 have jB:j<(Zab 0 p.terms).length:=by rw[Zaw];exact hj
 have:=h.2 j jB;unfold kmOf;rw[show(Zab 0 p.terms).getD j d0=(Zab 0 p.terms)[j] from by simp[Ygg,jB]];exact this
theorem last_kind{ks:Env Int}{o:ByteArray}{n:Int}{s:ByteArray}{l:List Ex}(ho:o=oPre\/o=oFby)(h:Zai ks (.mk o n s l)≠0){k:Nat}(hk:k<=1)(hl:l.length=k+1):Zai ks (l[k]'(by omega))=Zai ks (.mk o n s l):=by
 obtain⟨kh,_⟩:=Zem h;rw[kh] at h ⊢;have e:Zct o ((ks s).getD 0) (Zap ks l)=(if (decide (0<(Zap ks l).length)&&decide ((Zap ks l).headD 0=(Zap ks l).getLastD 0))=true then(Zap ks l).headD 0 else 0):=by
  rcases ho with rfl|rfl<;>rfl
 rw[e] at h ⊢
 split
 .rename_i hc
  rw[Zdg] at hc ⊢;have qZ:k=0\/k=1:=by omega
  rcases qZ with rfl|rfl
  .match l,hl with
   | [a],_=>rfl
  simp only[Bool.and_eq_true,decide_eq_true_eq] at hc;obtain⟨q1,q2⟩:=two_ends (Zai ks) hl;rw[hc.2];exact q2.symm
 rename_i hc;rw[if_neg hc] at h;exact absurd rfl h
theorem mem_kind{ks:Env Int}:∀(e:Ex),Zai ks e≠0->∀m,∀x∈Zbs m e,Zai ks x.1≠0:=by
 refine Ex.ind λo n s l ih h m x hx=>?_;have hp:=(Zem h).2;simp only[Zbs,List.mem_append] at hx;rcases hx with hx|hx
 .obtain⟨i,hi,hx⟩:=Zda hx;exact ih _ (Ymm hi) (hp _ (Ymm hi)) _ x hx
 split at hx
 .rw [List.mem_singleton.1 hx];exact h
 cases hx
theorem fl_term(p:Pr)(k:Nat)(hk:k<p.fl.length):∃h:k<p.terms.length,p.terms[k]=p.fl[k].e:=by
 have h:k<p.terms.length:=by unfold Pr.terms;simp;omega
 exact⟨h,by simp[Pr.terms,List.getElem_append,hk]⟩
theorem Zjp{p:Pr}(h:(Za2 p).1=0){ks:Env Int}(hks:Zao Env.none p.vars=some ks){ord:List Nat}(ho:Za5 p=.ok ord)(nb:Bool){ni:Int}(qI : -128<=ni/\ni<=127)(first:Bool){mem inp:List Vl}(hm:MemR ks p mem)(hi:Zas p.ins inp inp.length=true){N:List Vl×Bool}
  (hN:N=nowM ⟨ks,Zac p,getI (Zah p),nb,ni⟩ first mem inp (cdOf p ord).fs ord (List.replicate p.fl.length vz) false):
  (∀e m,Zad ks e=true->Zai ks e≠0->Zet ks (kmOf ks p) m e->m+memN e<=Zag p.terms->Zaq (Za6 ⟨ks,Zac p,getI (Zah p),nb,ni⟩ ⟨first,mem,inp,N.1⟩ m e).1 (Zai ks e)=true)/\
  (∀k,k<p.fl.length->Zaq (N.1.getD k vz) ((p.fl.map (·.kind)).getD k 0)=true)/\MemR ks p (Zdn ⟨ks,Zac p,getI (Zah p),nb,ni⟩ ⟨first,mem,inp,N.1⟩ (cdOf p ord).ms).1:=by
 obtain⟨J0,Ho,Jm⟩:=Zbg ho;have jt:=Ze9 J0 hks;have hR:=ty_of J0 hks (nb:=nb) qI hi;have qh:(cdOf p ord).fs.length=p.fl.length:=by simp[cdOf,Zb8]
 obtain⟨f1,f2,_⟩:=now_fix h hks ho ⟨ks,Zac p,getI (Zah p),nb,ni⟩ rfl first mem inp;have qe:=Zfs ho;have hall:=Zgf ho;rw[<- hN] at f1 f2;have hE:∀e m,Zad ks e=true->Zai ks e≠0->Zet ks (kmOf ks p) m e->m+memN e<=Zag p.terms->(∀k∈needs p.atOf e,k<p.fl.length->Zaq (N.1.getD k vz) ((p.fl.map (·.kind)).getD k 0)=true)->Zaq (Za6 ⟨ks,Zac p,getI (Zah p),nb,ni⟩ ⟨first,mem,inp,N.1⟩ m e).1 (Zai ks e)=true:=λe m h1 h2 h3 h4 h5=>
  ty_eval (r:=⟨first,mem,inp,N.1⟩) hR e h1 h2 m h3 (λj hj=>memR_get hm _ (by omega)) h5
 have jY:∀i (hi:i<ord.length),Zaq (N.1.getD ord[i] vz) ((p.fl.map (·.kind)).getD ord[i] 0)=true:=by
  intro i
  induction i using Nat.strongRecOn with
  |ind i ih=>
   intro hi;have hk:=Jm _ (Ymm hi);obtain⟨hkt,Qr⟩:=fl_term p _ hk;have hx:(p.fl[ord[i]].e,flAt p ord[i])∈(cdOf p ord).fs:=by
    have:=Ziz p ord ord[i] hk;rw[<- this,Ygg,List.getElem?_eq_getElem (by omega)];exact Ymm _
   have Hl:p.fl[ord[i]].e∈p.terms:=Qr▸Ymm hkt;obtain⟨t1,t2⟩:=jt _ Hl;have:=hE p.fl[ord[i]].e (flAt p ord[i]) t1 t2 (placed_with (placed_all ks p) _ (by rw[cd_with p ord];exact List.mem_append_left _ (List.mem_append_left _ hx))) (cd_terms (.inl hx)).2 (λk jA Hd=>by
    have ht:=(qe i hi).2 k (by
     have:p.graph.getD ord[i] []=needs p.atOf p.fl[ord[i]].e:=by simp[Pr.graph,Ygg,hk]
     rw[this];exact jA)
    obtain⟨j,hj,e⟩:=List.mem_iff_getElem.1 ht;have vH:j<i:=by simp at hj;omega
    have hjo:j<ord.length:=by omega
    have e':ord[j]=k:=by simpa using e
    rw[<- e'];exact ih j vH hjo)
   rw[<- f2 _ hk] at this;have hkk:Zai ks p.fl[ord[i]].e=(p.fl.map (·.kind)).getD ord[i] 0:=by
    obtain⟨ks',kP,_,_,_,_,_,hkg⟩:=Zb9 J0;rw[hks] at kP;cases kP;have:=(Zc4 ks _ _).1 hkg _ hkt;rw[Qr] at this;rw[this];simp[Ygg,hk]
   rw[hkk] at this;exact this
 have hN:∀k,k<p.fl.length->Zaq (N.1.getD k vz) ((p.fl.map (·.kind)).getD k 0)=true:=λk hk=>by
  obtain⟨i,hi,e⟩:=List.mem_iff_getElem.1 (hall k hk);rw[<- e];exact jY i hi
 refine⟨λe m h1 h2 h3 h4=>hE e m h1 h2 h3 h4 λk _ hk=>hN k hk,hN,?_⟩;have vy:(cdOf p ord).ms=(Zab 0 p.terms).map Zdz:=Zdf _ _;have hl3:(cdOf p ord).ms.length=(Zab 0 p.terms).length:=by rw[vy,List.length_map]
 refine⟨by simp[Zdn,hl3],λj hj=>?_⟩;have hx:=Ymm hj;have j8:Zai ks (Zab 0 p.terms)[j].1≠0:=by
  obtain⟨i,hi,hxi⟩:=Zda hx;exact mem_kind _ (jt _ (Ymm hi)).2 _ _ hxi
 have qn:Zet ks (kmOf ks p) (Zab 0 p.terms)[j].2 (Zab 0 p.terms)[j].1:=by
  obtain⟨i,hi,hxi⟩:=Zda hx;exact Zet.nds _ _ ((placed_all ks p).at i hi) _ hxi
 obtain⟨k,qf,hk,JM⟩:=ms_last (ks:=ks) (λe he=>(jt e he).1) hx;have yI:=(Zd9 ks p.terms (λe he=>(jt e he).1) 0 _ hx).2;have hgd:(Zdn ⟨ks,Zac p,getI (Zah p),nb,ni⟩ ⟨first,mem,inp,N.1⟩ (cdOf p ord).ms).1.getD j vz=(Za6 ⟨ks,Zac p,getI (Zah p),nb,ni⟩ ⟨first,mem,inp,N.1⟩ (Zdz (Zab 0 p.terms)[j]).2 (Zdz (Zab 0 p.terms)[j]).1).1:=by
  simp[Zdn,vy,Ygg,hj]
 rw[hgd];generalize (Zab 0 p.terms)[j]=x at *;obtain⟨g1,g2,_,g4⟩:=JM (by omega);rw[g1];obtain⟨⟨o,n,s,l⟩,m⟩:=x;have hk:l.length=k+1:=hk;have yI:o=oPre\/o=oFby:=yI;have Hd:Zai ks (l[k]'(by omega))=Zai ks (.mk o n s l):=last_kind yI j8 qf hk;have:=hE (l[k]'(by omega)) (m+Zag (l.take k)) g2 (by rw[Hd];exact j8) (qn.parts.1.at k (by omega)) g4 λy _ hy=>hN y hy;rw[Hd] at this;exact this
theorem tick_right{p:Pr}(h:(Za2 p).1=0){ks:Env Int}(hks:Zao Env.none p.vars=some ks){ord:List Nat}(ho:Za5 p=.ok ord)(nb:Bool){ni:Int}(qI : -128<=ni/\ni<=127)(first:Bool){mem inp:List Vl}(hm:MemR ks p mem)(hi:Zas p.ins inp inp.length=true)
  (ht:(Zb7 ⟨ks,Zac p,getI (Zah p),nb,ni⟩ (cdOf p ord) first mem inp).1.trap=false):MemR ks p (Zb7 ⟨ks,Zac p,getI (Zah p),nb,ni⟩ (cdOf p ord) first mem inp).2:=by
 have qh:(cdOf p ord).fs.length=p.fl.length:=by simp[cdOf,Zb8]
 obtain⟨_,_,h3⟩:=Zjp h hks ho nb qI first hm hi rfl;unfold Zb7 at ht ⊢;dsimp only at ht ⊢;rw[show(cdOf p ord).ord=ord from rfl,qh] at ht ⊢
 split at ht
 .cases ht
 rename_i hc
 rw[if_neg hc];exact h3
theorem start_right{p:Pr}(J0:Zak p=0){ks:Env Int}(hks:Zao Env.none p.vars=some ks)(nb:Bool){ni:Int}(qI : -128<=ni/\ni<=127):MemR ks p (Zba ⟨ks,Zac p,getI (Zah p),nb,ni⟩ (Zab 0 p.terms)):=by
 refine⟨by simp[Zba],λj hj=>?_⟩;have hx:=Ymm hj;have jt:=Ze9 J0 hks;have j8:Zai ks (Zab 0 p.terms)[j].1≠0:=by
  obtain⟨i,hi,hxi⟩:=Zda hx;exact mem_kind _ (jt _ (Ymm hi)).2 _ _ hxi
 have e:(Zba ⟨ks,Zac p,getI (Zah p),nb,ni⟩ (Zab 0 p.terms)).getD j vz=nilV nb ni (Zai ks (Zab 0 p.terms)[j].1):=by simp[Zba,Ygg,hj]
 rw[e];exact right_nil qI.1 qI.2 ((kind_two (Zgq _ _ _ hks (λs k h=>by simp[Env.none] at h)) _).resolve_left j8)
structure Mc where
 first:Bool
 mem:List Vl
 trapped:Bool
def noT:Tk:=⟨[],false,false,[]⟩
def Zcw(R:REnv)(c:Cd)(ins:List Vr)(s:Mc)(inp:List Vl):Nat×Tk×Mc:=
 if s.trapped then(0,trapT,s)
 else if Zas ins inp inp.length=true then(if (Zb7 R c s.first s.mem inp).1.trap=true then(0,(Zb7 R c s.first s.mem inp).1,⟨s.first,s.mem,true⟩) else(0,(Zb7 R c s.first s.mem inp).1,⟨false,(Zb7 R c s.first s.mem inp).2,false⟩))
 else(5,noT,s)
def Zby(s:Mc):List Vl:=tv s.first :: s.mem
def Zcm(ks:Env Int)(p:Pr):List Int:=1 :: (Zab 0 p.terms).map λx=>Zai ks x.1
def Zb5(K:List Int)(l:List Vl)(k:Nat):Bool:=decide (l.length=K.length)&&(List.range k).all λi=>Zaq (l.getD i vz) (K.getD i 0)
theorem Zj3(K:List Int)(l:List Vl)(k:Nat):Zb5 K l (k+1)=(Zb5 K l k&&Zaq (l.getD k vz) (K.getD k 0)):=by
 unfold Zb5;rw[List.range_succ,List.all_append,Bool.and_assoc];simp
theorem rightTo_false(K:List Int)(l:List Vl)(k:Nat)(h:Zb5 K l k=false):∀n,k<=n->Zb5 K l n=false:=λn hn=>by
 induction n with
 |zero=>
  obtain rfl:k=0:=by omega
  exact h
 |succ n ih=>
  by_cases e:k=n+1
  .rw [<- e];exact h
  rw[Zj3,ih (by omega)];rfl
def putM(l:List Vl):Mc:=⟨decide ((l.getD 0 vz).n=1),l.drop 1,false⟩
theorem state_right{ks:Env Int}{p:Pr}{s:Mc}(h:MemR ks p s.mem):Zb5 (Zcm ks p) (Zby s) (Zby s).length=true:=by
 unfold Zb5;simp only[Bool.and_eq_true,decide_eq_true_eq,List.all_eq_true,List.mem_range];refine⟨by simp[Zby,Zcm,h.1],λi hi=>?_⟩;cases i with
 |zero=>exact Zkv _
 |succ i=>
  have qK:i<(Zab 0 p.terms).length:=by have:=h.1;simp[Zby] at hi;omega
  have:=h.2 i qK;simpa[Zby,Zcm,Ygg,qK] using this
theorem put_state(s:Mc):putM (Zby s)=⟨s.first,s.mem,false⟩:=by
 unfold putM Zby;cases hf:s.first<;>simp[tv]
def goM(R:REnv)(c:Cd)(ins:List Vr):Mc->List (List Vl)->Mc
 |s,[]=>s
 |s,l :: r=>goM R c ins (Zcw R c ins s l).2.2 r
def toldM(R:REnv)(c:Cd)(ins:List Vr):Mc->List (List Vl)->List Tk
 |_,[]=>[]
 |s,l :: r=>(if (Zcw R c ins s l).1=0 then [(Zcw R c ins s l).2.1] else [])++toldM R c ins (Zcw R c ins s l).2.2 r
theorem step_right{p:Pr}(h:(Za2 p).1=0){ks:Env Int}(hks:Zao Env.none p.vars=some ks){ord:List Nat}(ho:Za5 p=.ok ord)(nb:Bool){ni:Int}(qI : -128<=ni/\ni<=127){s:Mc}(hm:MemR ks p s.mem)(inp:List Vl):
  MemR ks p (Zcw ⟨ks,Zac p,getI (Zah p),nb,ni⟩ (cdOf p ord) p.ins s inp).2.2.mem:=by
 unfold Zcw
 split
 .exact hm
 split
 .rename_i hi
  split
  .exact hm
  rename_i ht
  exact tick_right h hks ho nb qI s.first hm hi (by simpa using ht)
 exact hm
end Go.Proofs.YtafapnolamcdmaaGreatDoor
