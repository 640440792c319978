/- Plain: what flow.Run answers; ticks that were told, in memory. -/
import Derived.Test.YtofameafdnkijaaGreatDoorTkM
import Derived.Test.YtofameafdnkijaaGreatDoorOrd
import Derived.Test.YtofameafdnkijaaGreatDoorFxM
set_option linter.all false
namespace Go.Proofs.YtofameafdnkijaaGreatDoor
open Go.RowKit Mx
abbrev InsV (H:Kn):List (List Vl)→Value→Prop:=SlV H 1 fun l f=>∃ u,f 0=some u∧VlsV H l u
theorem InsV.le {H H':Kn} (hle:H.le H') {l:List (List Vl)} {v:Value} (h:InsV H l v):InsV H' l v:=
 SlV.le h hle fun _x _f _g hfg ⟨u,h1,h2⟩=>⟨u,hfg _ _ h1,SlV.le h2 hle VlC.mono⟩
def TkC (H:Kn) (k:Tk) (f:Nat→Option Value):Prop:=∃ ov cv,f 0=some ov∧f 1=some (.bool k.asrt)∧f 2=some (.bool k.trap)∧f 3=some cv∧TkV H k ov cv
abbrev TksV (H:Kn):List Tk→Value→Prop:=SlV H 4 (TkC H)
theorem TkC.mono {H H':Kn} (hle:H.le H') (x:Tk) (f g:Nat→Option Value) (h:∀ j u,f j=some u→g j=some u) (hx:TkC H x f):TkC H' x g:=by
 obtain⟨ov,cv,h0,h1,h2,h3,h4⟩:=hx
 exact⟨ov,cv,h _ _ h0,h _ _ h1,h _ _ h2,h _ _ h3,h4.le hle⟩
theorem TksV.le {H H':Kn} (hle:H.le H') {l:List Tk} {v:Value} (h:TksV H l v):TksV H' l v:=SlV.le h hle (TkC.mono hle)
theorem CodeAt.le {NT CT:TypeId} {R:REnv} {K K':Kn} (hle:K.le K') {p:Pr} {ord:List Nat} {B:Nat} (h:CodeAt NT CT R K p ord B):CodeAt NT CT R K' p ord B:=by
 obtain⟨cs,vI,vo,vf,va,vc,vu,vM,hcb,⟨e0,h0⟩,⟨e5,h5⟩,⟨e6,h6⟩,⟨e7,h7⟩,⟨e8,h8⟩,⟨e9,h9⟩,⟨e10,h10⟩⟩:=h.ex
 exact⟨cs,vI,vo,vf,va,vc,vu,vM,hle _ _ hcb,⟨e0,h0.le hle VrC.mono⟩,⟨e5,Zc2.le hle h5⟩,⟨e6,h6.le hle⟩,⟨e7,h7.le hle⟩,⟨e8,h8.le hle⟩,⟨e9,h9.le hle⟩,⟨e10,h10.le hle⟩⟩
structure CdR (R:REnv) (p:Pr) (ord:List Nat):Prop where
 f:∀ e∈p.terms,Zad R.ks e=true
 pa:∀ e∈p.terms,e.parts≤1000000000
 nm:∀ s,(R.ks s).isSome=true→(R.nm s<0→(-1 - R.nm s).toNat<p.ins.length)∧(0≤R.nm s→(R.nm s).toNat<p.fl.length)
 od:∀ k∈ord,k<p.fl.length
 ou:∀ i∈(cdOf p ord).outs,0≤i∧i.toNat<p.fl.length
 z1:ord.length≤1000000
 z2:p.fl.length≤1000000
 z3:p.as.length≤1000000
 z4:p.cs.length≤1000000
 z5:p.outs.length≤1000000000
 z6:Zal p.terms≤1000000000
 z7:p.ins.length≤1000000
 ps:Ex.partsL p.terms≤1000000000
 ml:(cdOf p ord).ms.length=Zal p.terms
theorem cd_ready {p:Pr} (_h0:(Za0 p).1=0) {ks:Env Int} (hks:Zas Env.none p.vars=some ks) {ord:List Nat} (ho:Zbu p = .ok ord) (nb:Bool) (ni:Int) (z5:p.outs.length≤1000000000) (z3:p.as.length≤1000000) (z4:p.cs.length≤1000000):CdR ⟨ks,Zaa p,getI (Zaj p),nb,ni⟩ p ord:=by
 obtain⟨hck,hlen,hlow⟩:=Zbe ho
 obtain⟨ks',hks',hout,hfm,hfl,hpp,hin,_⟩:=Zbs hck
 rw [hks] at hks'
 cases hks'
 have hm:=Zj1 p.terms
 refine⟨fun e he=>?_,fun e he=>?_,fun s hs=>nm_range hck hks s hs,hlow,fun i hi=>?_,by omega,by omega,z3,z4,z5,by omega,by omega,by omega,?_⟩
 ·obtain⟨i,hi,rfl⟩:=List.mem_iff_getElem.1 he
  exact (Zbk ks _).1 hfm i hi
 ·have:=partsL_mem he;omega
 ·obtain⟨s,hs,rfl⟩:=List.mem_map.1 hi
  have hmm:=Zgx _ _ _ hout s hs
  obtain⟨k,hk,e⟩:=List.mem_iff_getElem.1 hmm
  have hk':k<p.fl.length:=by simpa using hk
  have e':p.fl[k].name=s:=by simpa using e
  have h5:=Zey hck k hk'
  rw [e'] at h5
  rw [h5]
  exact⟨by omega,by simpa using hk'⟩
 show (Zb9 0 p.terms).length=_
 rw [Zfn,List.length_map,Zbh]
theorem tickM_len (R:REnv) (c:Cd) (first:Bool) (mem inp:List Vl):(Zdg R c first mem inp).1.trap=false→(Zdg R c first mem inp).2.length=c.ms.length:=by
 unfold Zdg
 dsimp only
 split
 ·intro h;cases h
 intro _;simp [Zej]
def osX (os:List (Tk×Value×Value)):List Value:=os.flatMap fun x=>[x.2.1,.bool x.1.asrt,.bool x.1.trap,x.2.2]
structure RuS (DT:TypeId) (H:Kn) (w0 wr:World) (base:Nat) (os:List (Tk×Value×Value)) (u:Value) (K:Kn) (ms:List Vl) (vm:Value):Prop where
 le:H.le K
 isin:K.In wr
 below:Below w0.heap.size w0 wr
 row:wr.ownsRow base DT 4 u os.length (osX os)
 noU:∀ g,u.ownBlock=some g→K g=none
 tks:∀ x∈os,TkV K x.1 x.2.1 x.2.2
 mem:VlsV K ms vm
 hb:w0.heap.size≤base
 low:base≤wr.heap.size
section
variable {DT : TypeId} {H : Kn} {w0 wr : World} {base : Nat} {os : List (Tk × Value × Value)} {u : Value} {K : Kn} {ms : List Vl} {vm : Value}
theorem RuS.init {w3:World} (hb:Below w0.heap.size w0 w3) (hm:VlsV (Zai w3) ms vm):RuS DT (Zai w3) w0 w3 w3.heap.size [] (.slice none 0 0) (Zai w3) ms vm:=
 ⟨Kn.le_refl _,Za8 w3,hb,World.ownsRow_nil _ _ _ _,fun g hg=>by simp [Value.ownBlock] at hg,(fun x hx=>by cases hx),hm,hb.size,Nat.le_refl _⟩
theorem RuS.next {w':World} (h:RuS DT H w0 wr base os u K ms vm) (hb:Below wr.heap.size wr w'):RuS DT H w0 w' base os u K ms vm:=
 ⟨h.le,h.isin.below hb,h.below.trans (hb.mono h.below.size),Zao h.row hb,h.noU,h.tks,h.mem,h.hb,Nat.le_trans h.low hb.size⟩
theorem RuS.alloc (h:RuS DT H w0 wr base os u K ms vm) (o:Obj):RuS DT H w0 (wr.alloc o) base os u K ms vm:=h.next ((Below.refl _ _).alloc (Nat.le_refl _) o)
theorem RuS.low' (h:RuS DT H w0 wr base os u K ms vm):base≤wr.heap.size:=h.low
theorem RuS.tick {w5:World} {k:Tk} {ov cv u5:Value} {ms':List Vl} (h:RuS DT H w0 wr base os u K ms vm) (hb:Below wr.heap.size wr w5) (hk:TkV (Zed wr.heap.size w5) k ov cv) (hm:VlsV (Zed wr.heap.size w5) ms' u5):
  RuS DT H w0 w5 base os u (Zig K wr.heap.size w5) ms' u5∧TkV (Zig K wr.heap.size w5) k ov cv:=by
 have h1:=joinKn_le h.isin w5
 have h2:=joinKn_new K wr.heap.size w5
 exact⟨⟨Kn.le_trans h.le h1,joinKn_in h.isin hb,h.below.trans (hb.mono h.below.size),Zao h.row hb,fun g hg=>by unfold Zig;rw [if_pos (h.row.lt g hg).2];exact h.noU g hg,fun x hx=>(h.tks x hx).le h1,SlV.le hm h2 VlC.mono,h.hb,Nat.le_trans h.low hb.size⟩,hk.le h2⟩
theorem RuS.app {w6:World} {gg cap':Nat} {k:Tk} {ov cv:Value} (h:RuS DT H w0 wr base os u K ms vm) (hk:TkV K k ov cv)
  (hown:w6.ownsRow base DT 4 (.slice (some ⟨gg,0,none⟩) (os.length+1) cap') (os.length+1) (osX os++[ov,.bool k.asrt,.bool k.trap,cv])) (hg:wr.grownBy w6 u.ownBlock) (hat:u.ownBlock=some gg∨gg=wr.heap.size):
  RuS DT H w0 w6 base (os++[(k,ov,cv)]) (.slice (some ⟨gg,0,none⟩) (os.length+1) cap') K ms vm:=by
 have hb:=h.hb
 refine⟨h.le,h.isin.grown hg h.noU,⟨hg.os.trans h.below.os,hg.tape.trans h.below.tape,hg.output.trans h.below.output,Nat.le_trans h.below.size hg.size,fun i hi=>?_⟩,?_,fun g hgg=>?_,fun x hx=>?_,h.mem,hb,Nat.le_trans h.low hg.size⟩
 ·rw [hg.block i (Nat.lt_of_lt_of_le hi h.below.size) (fun e=>by have:=(h.row.lt i e.symm).1;omega)];exact h.below.block i hi
 ·rw [List.length_append]
  have e:osX (os++[(k,ov,cv)])=osX os++[ov,.bool k.asrt,.bool k.trap,cv]:=by simp [osX]
  rw [e];exact hown
 ·have e:gg=g:=by simpa [Value.ownBlock] using hgg
  subst e
  rcases hat with h1 | rfl
  ·exact h.noU gg h1
  exact h.isin.isNone (Nat.le_refl _)
 rcases List.mem_append.1 hx with hx | hx
 ·exact h.tks x hx
 rw [List.mem_singleton.1 hx];exact hk
theorem RuS.fin (h:RuS DT H w0 wr base os u K ms vm):TksV (Zai wr) (os.map (·.1)) u:=by
 have hr:wr.ownsRow base DT 4 u (os.map (·.1)).length (osX os):=by rw [List.length_map];exact h.row
 refine Zgt hr fun i hi f hf=>?_
 have hi2:i<os.length:=by simpa using hi
 have hc:∀ j,j<4→(osX os)[i * 4+j]?=[os[i].2.1,Value.bool os[i].1.asrt,.bool os[i].1.trap,os[i].2.2][j]?:=fun j hj=>Zfx 4 (fun x:Tk×Value×Value=>[x.2.1,.bool x.1.asrt,.bool x.1.trap,x.2.2]) (fun _=>rfl) os i hi2 j hj
 rw [List.getElem_map]
 exact⟨os[i].2.1,os[i].2.2,hf 0 _ (by rw [hc 0 (by omega)];rfl),hf 1 _ (by rw [hc 1 (by omega)];rfl),hf 2 _ (by rw [hc 2 (by omega)];rfl),hf 3 _ (by rw [hc 3 (by omega)];rfl),(h.tks _ (List.getElem_mem hi2)).le (all_of h.isin)⟩
end
def runE (p:Pr) (ins:List (List Vl)) (ni:Int):Nat×Int:=
 if (Za0 p).1≠0 then Za0 p else if 300<ins.length∨ni < -128∨127<ni then (2, -1) else match ins.findIdx? (fun l => !Zc0 p.ins l l.length) with | some i=>(5,(i:Int)) | none=>(0, -1)
def Zgp (sp:Nat→Addr) (nb:Bool) (ni:Int) (p:Pr) (ins:List (List Vl)) (w:World) (r:Ending) (w':World):Prop:=
 Below w.heap.size w w'∧if (runE p ins ni).1=0 then ∃ ks ord v,Zas Env.none p.vars=some ks∧Zbu p = .ok ord∧r = .returned (.tuple #[v,.nilIface])∧
   TksV (Zai w') (Zet ⟨ks,Zaa p,getI (Zaj p),nb,ni⟩ (cdOf p ord) true (Zde ⟨ks,Zaa p,getI (Zaj p),nb,ni⟩ (Zah 0 p.terms)) ins) v
  else ∃ v,r = .returned (.tuple #[.slice none 0 0,v])∧ErrW sp w' (runE p ins ni).1 (runE p ins ni).2 v
def runM (nb:Bool) (ni:Int) (p:Pr) (ins:List (List Vl)):List Tk:=
 match Zas Env.none p.vars,Zbu p with
 | some ks,.ok ord=>Zet ⟨ks,Zaa p,getI (Zaj p),nb,ni⟩ (cdOf p ord) true (Zde ⟨ks,Zaa p,getI (Zaj p),nb,ni⟩ (Zah 0 p.terms)) ins
 | _,_=>[]
theorem Zgp.told {sp:Nat→Addr} {nb:Bool} {ni:Int} {p:Pr} {ins:List (List Vl)} {w w':World} {r:Ending} (h:Zgp sp nb ni p ins w r w'):
  Below w.heap.size w w'∧(((runE p ins ni).1=0∧∃ v,r = .returned (.tuple #[v,.nilIface])∧TksV (Zai w') (runM nb ni p ins) v)∨((runE p ins ni).1≠0∧∃ t v,r = .returned (.tuple #[.slice none 0 0,.iface t v])∧ErrW sp w' (runE p ins ni).1 (runE p ins ni).2 (.iface t v))):=by
 obtain⟨h1,h2⟩:=h
 refine⟨h1,?_⟩
 by_cases h0:(runE p ins ni).1=0
 ·rw [if_pos h0] at h2
  obtain⟨ks,ord,v,e1,e2,rfl,h3⟩:=h2
  refine .inl ⟨h0,v,rfl,?_⟩
  unfold runM
  rw [e1,e2]
  exact h3
 rw [if_neg h0] at h2
 obtain⟨v,rfl,hv⟩:=h2
 refine .inr ⟨h0,?_⟩
 obtain⟨t,u,rfl⟩:∃ t u,v = .iface t u:=by
  rcases hv with ⟨_,h⟩ | ⟨_,N,h,_⟩
  ·obtain⟨c,hc⟩:∃ c,(runE p ins ni).1=c+1:=⟨(runE p ins ni).1 - 1,by omega⟩
   rw [hc,Zfd] at h
   exact⟨_,_,h⟩
  exact⟨_,_,h⟩
 exact⟨t,u,rfl,hv⟩
theorem runE_zero {p:Pr} {ins:List (List Vl)} {ni:Int} (h:(runE p ins ni).1=0):(Za0 p).1=0∧ins.length≤300∧(-128≤ni∧ni≤127)∧∀ l∈ins,Zc0 p.ins l l.length=true:=by
 unfold runE at h
 split at h
 ·exact absurd h ‹_›
 rename_i h0
 split at h
 ·cases h
 rename_i h1
 refine⟨by omega,by omega,by omega,fun l hl=>?_⟩
 split at h
 ·cases h
 rename_i h2
 have:=List.findIdx?_eq_none_iff.1 h2 l hl
 simpa using this
theorem runE_of {p:Pr} {ins:List (List Vl)} {ni:Int} (h0:(Za0 p).1=0) (h1:ins.length≤300) (h2 : -128≤ni∧ni≤127) (h3:∀ l∈ins,Zc0 p.ins l l.length=true):runE p ins ni=(0, -1):=by
 unfold runE
 rw [if_neg (fun h=>h h0),if_neg (by omega)]
 rw [List.findIdx?_eq_none_iff.2 fun l hl=>by simp [h3 l hl]]
theorem Zh4 {p:Pr} (h:(Za0 p).1=0):∃ ks ord,Zas Env.none p.vars=some ks∧Zbu p = .ok ord:=by
 obtain⟨l,ho,_⟩:=Zbx h
 obtain⟨hck,_,_⟩:=Zbe ho
 obtain⟨ks,hks,_⟩:=Zbs hck
 exact⟨ks,l,hks,ho⟩
theorem runM_nils {p:Pr} (h:(Za0 p).1=0) (nb nb':Bool) (ni ni':Int) (ins:List (List Vl)):runM nb ni p ins=runM nb' ni' p ins:=by
 obtain⟨ks,ord,hks,ho⟩:=Zh4 h
 unfold runM
 rw [hks,ho]
 exact go_first (R:=⟨ks,Zaa p,getI (Zaj p),nb,ni⟩) (R':=⟨ks,Zaa p,getI (Zaj p),nb',ni'⟩) ⟨rfl,rfl,rfl⟩ (cd_ok h hks ho nb ni) _ _ ins
theorem runGo_len (R:REnv) (c:Cd):∀ (l:List (List Vl)) (first:Bool) (mem:List Vl),(Zet R c first mem l).length≤l.length
 | [],_,_=>by simp [Zet]
 | x :: l,first,mem=>by
  simp only [Zet,List.length_cons]
  split
  ·simp
  have:=runGo_len R c l false (Zdg R c first mem x).2;omega
theorem runM_len (nb:Bool) (ni:Int) (p:Pr) (ins:List (List Vl)):(runM nb ni p ins).length≤ins.length:=by
 unfold runM
 split
 ·exact runGo_len _ _ _ _ _
 simp
theorem tickM_sizes (R:REnv) (c:Cd) (first:Bool) (mem inp:List Vl):(Zdg R c first mem inp).1.out.length≤c.outs.length∧(Zdg R c first mem inp).1.checks.length≤c.cv.length:=by
 unfold Zdg
 dsimp only
 split
 ·simp [trapT]
 simp [Zej]
theorem runGo_sizes (R:REnv) (c:Cd):∀ (l:List (List Vl)) (first:Bool) (mem:List Vl),∀ x∈Zet R c first mem l,x.out.length≤c.outs.length∧x.checks.length≤c.cv.length
 | [],_,_,x,hx=>by simp [Zet] at hx
 | y :: l,first,mem,x,hx=>by
  simp only [Zet,List.mem_cons] at hx
  rcases hx with rfl | hx
  ·exact tickM_sizes R c first mem y
  split at hx
  ·cases hx
  exact runGo_sizes R c l false _ x hx
theorem runM_sizes (nb:Bool) (ni:Int) (p:Pr) (ins:List (List Vl)):∀ x∈runM nb ni p ins,x.out.length≤p.outs.length∧x.checks.length≤p.cs.length:=by
 intro x hx
 unfold runM at hx
 split at hx
 ·rename_i ks ord _ _
  have h:=runGo_sizes _ _ _ _ _ x hx
  have e1:(cdOf p ord).outs.length=p.outs.length:=List.length_map _
  have e2:(cdOf p ord).cv.length=p.cs.length:=Zc1 _ _
  omega
 cases hx
theorem inNames_at:∀ (l:List Vr) (i:Nat) (m:Env Int) (s:ByteArray) (v:Int),Zcu i m l s=some v→m s=some v∨∃ j,∃ h:j<l.length,l[j].name=s∧v = -1 - ((i+j:Nat):Int)
 | [],i,m,s,v,h => .inl h
 | x :: l,i,m,s,v,h=>by
  rw [Zcu] at h
  rcases inNames_at l (i+1) _ s v h with h1 | ⟨j,hj,h1,h2⟩
  ·by_cases e:s=x.name
   ·rw [e,Env.set_self] at h1
    cases h1
    exact .inr ⟨0,by simp,by simp [e],by simp⟩
   rw [Env.set_other _ _ e] at h1;exact .inl h1
  exact .inr ⟨j+1,by simpa using hj,by simpa using h1,by rw [h2];omega⟩
def MemR (ks:Env Int) (p:Pr) (mem:List Vl):Prop:=mem.length=(Zah 0 p.terms).length∧∀ j (h:j<(Zah 0 p.terms).length),Zba (mem.getD j vz) (Zam ks (Zah 0 p.terms)[j].1)=true
def kmOf (ks:Env Int) (p:Pr) (j:Nat):Int:=Zam ks ((Zah 0 p.terms).getD j d0).1
theorem Zfh:∀ (a b:List Ex) (m:Nat),Zbb m (a++b)=Zbb m a++Zbb (m+Zal a) b
 | [],b,m=>by simp [Zbb,Zal]
 | e :: a,b,m=>by simp only [List.cons_append,Zbb,Zal,Zfh a b,Nat.add_assoc]
theorem cd_with (p:Pr) (ord:List Nat):Zbb 0 p.terms=(cdOf p ord).fs++(cdOf p ord).av++(cdOf p ord).cv:=by
 unfold Pr.terms cdOf
 rw [Zfh,Zfh,Zch,Nat.zero_add,Nat.zero_add]
theorem fl_term (p:Pr) (k:Nat) (hk:k<p.fl.length):∃ h:k<p.terms.length,p.terms[k]=p.fl[k].e:=by
 have h:k<p.terms.length:=by unfold Pr.terms;simp;omega
 exact⟨h,by simp [Pr.terms,List.getElem_append,hk]⟩
structure Mc where
 first:Bool
 mem:List Vl
 trapped:Bool
def noT:Tk:=⟨[],false,false,[]⟩
def stepM (R:REnv) (c:Cd) (ins:List Vr) (s:Mc) (inp:List Vl):Nat×Tk×Mc:=
 if s.trapped then (0,trapT,s)
 else if Zc0 ins inp inp.length=true then (if (Zdg R c s.first s.mem inp).1.trap=true then (0,(Zdg R c s.first s.mem inp).1,⟨s.first,s.mem,true⟩) else (0,(Zdg R c s.first s.mem inp).1,⟨false,(Zdg R c s.first s.mem inp).2,false⟩))
 else (5,noT,s)
def stateM (s:Mc):List Vl:=tv s.first :: s.mem
def kindsL (ks:Env Int) (p:Pr):List Int:=1 :: (Zah 0 p.terms).map fun x=>Zam ks x.1
def rightTo (K:List Int) (l:List Vl) (k:Nat):Bool:=decide (l.length=K.length)&&(List.range k).all fun i=>Zba (l.getD i vz) (K.getD i 0)
def putM (l:List Vl):Mc:=⟨decide ((l.getD 0 vz).n=1),l.drop 1,false⟩
def goM (R:REnv) (c:Cd) (ins:List Vr):Mc→List (List Vl)→Mc
 | s,[]=>s
 | s,l :: r=>goM R c ins (stepM R c ins s l).2.2 r
def toldM (R:REnv) (c:Cd) (ins:List Vr):Mc→List (List Vl)→List Tk
 | _,[]=>[]
 | s,l :: r=>(if (stepM R c ins s l).1=0 then [(stepM R c ins s l).2.1] else [])++toldM R c ins (stepM R c ins s l).2.2 r
mutual
def wdV (R:REnv) (inp:Nat→List Vl) (fv:Nat→Nat→Vl):Ex→Nat→Vl
 | .mk o n s l,i=>
  if i=0∧0<Zac R.lt (.mk o n s l) then nilV R.nb R.ni (Zam R.ks (.mk o n s l))
  else if o=oInt then ⟨2,n⟩
  else if o=Zcn∨o=Zb3 then tv (decide (o=Zcn))
  else if o=Zbg then (if R.nm s<0 then (inp i).getD (-1 - R.nm s).toNat vz else fv (R.nm s).toNat i)
  else if o=oPre then (wdVs R inp fv l (i - 1)).getD 0 vz
  else if o=oFby then (if i=0 then (wdVs R inp fv l i).getD 0 vz else (wdVs R inp fv l (i - 1)).getD 1 vz)
  else if o=Zbq then (if i=0 then (wdVs R inp fv l i).getD 0 vz else (wdVs R inp fv l i).getD 1 vz)
  else if (appM o (wdVs R inp fv l i)).2 then ⟨2,0⟩ else (appM o (wdVs R inp fv l i)).1
def wdVs (R:REnv) (inp:Nat→List Vl) (fv:Nat→Nat→Vl):List Ex→Nat→List Vl
 | [],_=>[]
 | e :: l,i=>wdV R inp fv e i :: wdVs R inp fv l i
end
def ownT (R:REnv) (inp:Nat→List Vl) (fv:Nat→Nat→Vl) (e:Ex) (i:Nat):Bool:=(appM e.op (wdVs R inp fv e.l i)).2 && !(decide (i=0)&&decide (0<Zac R.lt e))
mutual
def allT (R:REnv) (inp:Nat→List Vl) (fv:Nat→Nat→Vl):Ex→Nat→Bool
 | .mk o n s l,i=>ownT R inp fv (.mk o n s l) i || Zdp R inp fv l i
def Zdp (R:REnv) (inp:Nat→List Vl) (fv:Nat→Nat→Vl):List Ex→Nat→Bool
 | [],_=>false
 | e :: l,i=>allT R inp fv e i || Zdp R inp fv l i
end
theorem Zc7 (R:REnv) (inp:Nat→List Vl) (fv:Nat→Nat→Vl) (i:Nat):∀ l,wdVs R inp fv l i=l.map fun e=>wdV R inp fv e i
 | []=>rfl
 | e :: l=>by simp only [wdVs,List.map_cons,Zc7 R inp fv i l]
theorem Zc6 (R:REnv) (inp:Nat→List Vl) (fv:Nat→Nat→Vl) (i:Nat):∀ l,Zdp R inp fv l i=l.any fun e=>allT R inp fv e i
 | []=>rfl
 | e :: l=>by simp only [Zdp,List.any_cons,Zc6 R inp fv i l]
theorem ite2 {c:Prop} [Decidable c] {a b:Vl×Bool} {p:Prop} (ha:c→a.2=true→p) (hb:b.2=true→p):(if c then a else b).2=true→p:=by
 by_cases h:c
 ·rw [if_pos h];exact ha h
 rw [if_neg h];exact hb
theorem Zj9 {o:ByteArray} {vs:List Vl}:(appM o vs).2=true→o=oDiv∨o=oMod:=by
 unfold appM
 dsimp only
 repeat (refine ite2 (by first | exact fun _ h=>Bool.noConfusion h | exact fun hc _=>hc.1) ?_)
 exact fun h=>Bool.noConfusion h
def instOf (R:REnv) (c:Cd) (first:Bool) (mem inp:List Vl):Inst:=⟨first,mem,inp,(nowM R first mem inp c.fs c.ord (List.replicate c.fs.length vz) false).1⟩
def memS (R:REnv) (c:Cd) (mem0:List Vl) (inp:Nat→List Vl):Nat→List Vl
 | 0=>mem0
 | i+1=>(Zej R (instOf R c (decide (i=0)) (memS R c mem0 inp i) (inp i)) c.ms).1
def Zea (R:REnv) (c:Cd) (mem0:List Vl) (inp:Nat→List Vl) (i:Nat):Inst:=instOf R c (decide (i=0)) (memS R c mem0 inp i) (inp i)
def fvS (R:REnv) (c:Cd) (mem0:List Vl) (inp:Nat→List Vl) (k i:Nat):Vl:=(Zea R c mem0 inp i).now.getD k vz
def PlX (p:Pr) (m:Nat) (e:Ex):Prop:=∀ (j:Nat) (x:Ex×Nat),(Zca m e)[j]?=some x→(Zah 0 p.terms)[m+j]?=some x
def PlXL (p:Pr) (m:Nat) (l:List Ex):Prop:=∀ (j:Nat) (x:Ex×Nat),(Zah m l)[j]?=some x→(Zah 0 p.terms)[m+j]?=some x
theorem PlXL.cons {p:Pr} {m:Nat} {e:Ex} {l:List Ex} (h:PlXL p m (e :: l)):PlX p m e∧PlXL p (m+memN e) l:=by
 refine⟨fun j x hx=>h j x ?_,fun j x hx=>?_⟩
 ·rw [Zah,List.getElem?_append_left]
  ·exact hx
  exact (List.getElem?_eq_some_iff.1 hx).1
 have:=h (memN e+j) x (by
  rw [Zah,List.getElem?_append_right (by rw [Ze9];omega),Ze9,Nat.add_sub_cancel_left]
  exact hx)
 rw [Nat.add_assoc];exact this
theorem PlXL.at {p:Pr}:∀ {l:List Ex} {m:Nat},PlXL p m l→∀ i (h:i<l.length),PlX p (m+Zal (l.take i)) l[i]
 | [],_,_,i,hi=>by simp at hi
 | e :: l,m,h,0,_=>by simpa [Zal] using h.cons.1
 | e :: l,m,h,i+1,hi=>by
  have:=h.cons.2.at i (by simpa using hi)
  simp only [List.take_succ_cons,Zal,List.getElem_cons_succ]
  rw [← Nat.add_assoc]
  exact this
theorem PlX.parts {p:Pr} {m:Nat} {o:ByteArray} {n:Int} {s:ByteArray} {l:List Ex} (h:PlX p m (.mk o n s l)):PlXL p m l∧(o=oPre∨o=oFby→(Zah 0 p.terms)[m+Zal l]?=some (.mk o n s l,m)):=by
 refine⟨fun j x hx=>h j x ?_,fun ho=>h (Zal l) (.mk o n s l,m) ?_⟩
 ·rw [Zca,List.getElem?_append_left]
  ·exact hx
  exact (List.getElem?_eq_some_iff.1 hx).1
 rw [Zca,List.getElem?_append_right (by rw [Zbh];omega),Zbh,Nat.sub_self,if_pos ho]
 rfl
theorem plX_all (p:Pr):PlXL p 0 p.terms:=fun j x hx=>by rw [Nat.zero_add];exact hx
theorem Zjx {p:Pr}:∀ {l:List Ex} {m:Nat},PlXL p m l→∀ x∈Zbb m l,PlX p x.2 x.1
 | [],_,_,x,hx=>by simp [Zbb] at hx
 | e :: l,m,h,x,hx=>by
  simp only [Zbb,List.mem_cons] at hx
  rcases hx with rfl | hx
  ·exact h.cons.1
  exact Zjx h.cons.2 x hx
section
variable {p : Pr} (R : REnv) (ord : List Nat) (mem0 : List Vl) (inp : Nat → List Vl)
theorem mem_at {o:ByteArray} {n:Int} {s:ByteArray} {l:List Ex} {m:Nat} (h:PlX p m (.mk o n s l)) (ho:o=oPre∨o=oFby) {k:Nat} (hl:l.length=k+1) (hk:k<l.length) (i:Nat):
  (memS R (cdOf p ord) mem0 inp (i+1)).getD (m+Zal l) vz=(Zbd R (Zea R (cdOf p ord) mem0 inp i) (m+Zal (l.take k)) l[k]).1:=by
 have h1:=h.parts.2 ho
 have hms:(cdOf p ord).ms=(Zah 0 p.terms).map Zft:=Zfn _ _
 obtain⟨g1,g2⟩:=lastD_take l (.mk o n s l) k hk hl
 simp only [memS,Zej,hms,List.getD_eq_getElem?_getD,List.getElem?_map,h1,Option.map_some,Option.getD_some,Zft,Ex.l,g1,g2]
 rfl
theorem pre_late {lt:ByteArray→Int} (hb:∀ s,0≤lt s∧lt s≤2) (n:Int) (s:ByteArray) (l:List Ex):0<Zac lt (.mk oPre n s l):=by
 have e:Zac lt (.mk oPre n s l)=min 2 ((Zan lt l).getD 0 0+1):=by rw [Zac];rfl
 rw [e,Zbm]
 split
 ·have:=(Zbj lt hb l[0]).1;omega
 omega
theorem wd_eval (hb:∀ s,0≤R.lt s∧R.lt s≤2) {ks:Env Int}:∀ (i:Nat) (e:Ex),Zad ks e=true→∀ m,PlX p m e→(Zbd R (Zea R (cdOf p ord) mem0 inp i) m e).1=wdV R inp (fvS R (cdOf p ord) mem0 inp) e i:=by
 intro i
 induction i using Nat.strongRecOn with
 | ind i IH=>
 refine Ex.ind fun o n s l ih hfo m hpl=>?_
 obtain⟨hsub,hfby,harr,hpre,_⟩:=Zaz hfo
 have hpp:=hpl.parts.1
 have hL:∀ (l:List Ex) (m k:Nat),(∀ e∈l,Zad ks e=true→∀ m,PlX p m e→(Zbd R (Zea R (cdOf p ord) mem0 inp i) m e).1=wdV R inp (fvS R (cdOf p ord) mem0 inp) e i)→(∀ e∈l,Zad ks e=true)→PlXL p m l→
   (Za1 R (Zea R (cdOf p ord) mem0 inp i) m k l).1=(wdVs R inp (fvS R (cdOf p ord) mem0 inp) l i).take k:=by
  intro l
  induction l with
  | nil=>intro m k _ _ _;simp [Za1,wdVs]
  | cons e l ihl=>
   intro m k hh hff hp
   cases k with
   | zero=>simp [Za1]
   | succ k=>
    simp only [Za1,wdVs,List.take_succ_cons]
    rw [hh e (List.mem_cons_self ..) (hff e (List.mem_cons_self ..)) m hp.cons.1,ihl _ k (fun y hy=>hh y (List.mem_cons_of_mem _ hy)) (fun y hy=>hff y (List.mem_cons_of_mem _ hy)) hp.cons.2]
 have hvs:=hL l m (if o=oPre then 0 else if o=oFby then 1 else l.length) (fun e he=>ih e he) hsub hpp
 have hlen:(wdVs R inp (fvS R (cdOf p ord) mem0 inp) l i).length=l.length:=by rw [Zc7];simp
 have hlast:∀ (k j:Nat) (hk:k<l.length),l.length=k+1→(o=oPre∨o=oFby)→i=j+1→(Zea R (cdOf p ord) mem0 inp i).mem.getD (m+Zal l) vz=(wdVs R inp (fvS R (cdOf p ord) mem0 inp) l (i - 1)).getD k vz:=by
  intro k j hk hl ho hi
  subst hi
  have h1:=mem_at R ord mem0 inp hpl ho hl hk j
  rw [IH j (by omega) l[k] (hsub _ (List.getElem_mem hk)) _ (hpp.at k hk)] at h1
  rw [Zc7]
  refine Eq.trans h1 ?_
  simp [List.getD_eq_getElem?_getD,hk]
 simp only [Zbd]
 rw [wdV]
 generalize hr:Zea R (cdOf p ord) mem0 inp i=r at *
 have hrf:r.first=decide (i=0):=by rw [← hr];rfl
 have hri:r.inp=inp i:=by rw [← hr];rfl
 have hrn:∀ k,r.now.getD k vz=fvS R (cdOf p ord) mem0 inp k i:=fun k=>by rw [← hr];rfl
 by_cases hlate:i=0∧0<Zac R.lt (.mk o n s l)
 ·rw [if_pos hlate,if_pos (by rw [hrf];simp [hlate.1,hlate.2])]
 rw [if_neg hlate,if_neg (by rw [hrf];simpa using hlate)]
 generalize decide (0<Zac R.lt (.mk o n s l))=late at *
 unfold valM
 by_cases e1:o=oInt
 ·rw [if_pos e1,if_pos e1]
 rw [if_neg e1,if_neg e1]
 by_cases e2:o=Zcn∨o=Zb3
 ·rw [if_pos e2,if_pos e2]
 rw [if_neg e2,if_neg e2]
 by_cases e3:o=Zbg
 ·rw [if_pos e3,if_pos e3,hri,hrn]
 rw [if_neg e3,if_neg e3]
 by_cases e4:o=oPre
 ·simp only [if_pos e4]
  have hi:i≠0:=fun h0=>hlate ⟨h0,by rw [e4];exact pre_late hb n s l⟩
  have hl1:=hpre e4
  exact hlast 0 (i - 1) (by omega) hl1 (.inl e4) (by omega)
 simp only [if_neg e4] at hvs ⊢
 by_cases e5:o=oFby
 ·simp only [if_pos e5] at hvs ⊢
  have hl2:=hfby e5
  by_cases h0:i=0
  ·rw [if_pos h0,if_pos (by rw [hrf];simp [h0]),hvs]
   generalize wdVs R inp (fvS R (cdOf p ord) mem0 inp) l i=L at *
   cases L<;>rfl
  rw [if_neg h0,if_neg (by rw [hrf];simp [h0])]
  exact hlast 1 (i - 1) (by omega) hl2 (.inr e5) (by omega)
 simp only [if_neg e5] at hvs ⊢
 rw [← hlen,List.take_length] at hvs
 rw [← hlen,hvs]
 by_cases e6:o=Zbq
 ·rw [if_pos e6,if_pos e6]
  by_cases h0:i=0
  ·rw [if_pos h0,if_pos (by rw [hrf];simp [h0])]
  rw [if_neg h0,if_neg (by rw [hrf];simp [h0])]
 rw [if_neg e6,if_neg e6]
 split<;>rfl
theorem wd_trap (hb:∀ s,0≤R.lt s∧R.lt s≤2) {ks:Env Int} (i:Nat):∀ (e:Ex),Zad ks e=true→∀ m,PlX p m e→
  ((Zbd R (Zea R (cdOf p ord) mem0 inp i) m e).2 || (Ze8 m e).any fun x=>(Zbd R (Zea R (cdOf p ord) mem0 inp i) x.2 x.1).2)=allT R inp (fvS R (cdOf p ord) mem0 inp) e i:=by
 refine Ex.ind fun o n s l ih hfo m hpl=>?_
 obtain⟨hsub,hfby,harr,hpre,_⟩:=Zaz hfo
 have hpp:=hpl.parts.1
 have hL:∀ (l:List Ex) (m:Nat),(∀ e∈l,Zad ks e=true→∀ m,PlX p m e→((Zbd R (Zea R (cdOf p ord) mem0 inp i) m e).2 || (Ze8 m e).any fun x=>(Zbd R (Zea R (cdOf p ord) mem0 inp i) x.2 x.1).2)=allT R inp (fvS R (cdOf p ord) mem0 inp) e i)→(∀ e∈l,Zad ks e=true)→PlXL p m l→
   ∀ k,l.length≤k→((Za1 R (Zea R (cdOf p ord) mem0 inp i) m k l).2 || (Zb9 m l).any fun x=>(Zbd R (Zea R (cdOf p ord) mem0 inp i) x.2 x.1).2)=Zdp R inp (fvS R (cdOf p ord) mem0 inp) l i:=by
  intro l
  induction l with
  | nil=>intro m _ _ _ k _;simp [Za1,Zb9,Zdp]
  | cons e l ihl=>
   intro m hh hff hp k hk
   cases k with
   | zero=>simp at hk
   | succ k=>
    simp only [Za1,Zb9,Zdp,List.any_append]
    rw [← hh e (List.mem_cons_self ..) (hff e (List.mem_cons_self ..)) m hp.cons.1,← ihl _ (fun y hy=>hh y (List.mem_cons_of_mem _ hy)) (fun y hy=>hff y (List.mem_cons_of_mem _ hy)) hp.cons.2 k (by simpa using hk)]
    simp only [Bool.or_assoc]
    congr 1
    rw [Bool.or_left_comm]
 have hx:=fun (e:Ex) (he:e∈l)=>ih e he (hsub e he)
 have hval:∀ (hn:o≠oPre∧o≠oFby),(Za1 R (Zea R (cdOf p ord) mem0 inp i) m l.length l).1=wdVs R inp (fvS R (cdOf p ord) mem0 inp) l i:=fun hn=>by
  have:∀ (l:List Ex) (m:Nat),(∀ e∈l,Zad ks e=true)→PlXL p m l→(Za1 R (Zea R (cdOf p ord) mem0 inp i) m l.length l).1=wdVs R inp (fvS R (cdOf p ord) mem0 inp) l i:=by
   intro l
   induction l with
   | nil=>intro m _ _;rfl
   | cons e l ihl=>
    intro m hff hp
    simp only [Za1,wdVs,List.length_cons]
    rw [wd_eval R ord mem0 inp hb i e (hff e (List.mem_cons_self ..)) m hp.cons.1,ihl _ (fun y hy=>hff y (List.mem_cons_of_mem _ hy)) hp.cons.2]
  exact this l m hsub hpp
 simp only [Zbd,Ze8,allT,List.any_append]
 by_cases ho:o=oPre∨o=oFby
 ·rw [if_pos ho]
  have hown:ownT R inp (fvS R (cdOf p ord) mem0 inp) (.mk o n s l) i=false:=by
   unfold ownT
   cases hc:(appM o (wdVs R inp (fvS R (cdOf p ord) mem0 inp) l i)).2 with
   | false=>simp only [Ex.op,Ex.l,hc,Bool.false_and]
   | true=>
    rcases Zj9 hc with e | e<;>rcases ho with h | h<;>rw [e] at h<;>exact absurd h (by decide)
  have hv:∀ m late vs,(valM R (Zea R (cdOf p ord) mem0 inp i) m o n s late vs).2=false:=by
   intro m late vs
   unfold valM
   rcases ho with rfl | rfl
   ·rfl
   rfl
  rw [hown,hv,Bool.false_or,Bool.or_false]
  rcases ho with e | e
  ·have hl:=hpre e
   match l,hl with
   | [a],_=>
    have h1:=hx a (by simp) m (by simpa [Zal] using hpp.at 0 (by simp))
    rw [if_pos e]
    simp only [Za1,Zb9,Zdp,List.any_append,List.any_nil,Bool.or_false,Bool.false_or,List.any_cons,List.getLastD,List.getLast,List.dropLast,Zal,Nat.add_zero]
    rw [← h1,Bool.or_comm]
  have hl:=hfby e
  match l,hl with
  | [a,b],_=>
   have h1:=hx a (by simp) m (by simpa [Zal] using hpp.at 0 (by simp))
   have h2:=hx b (by simp) (m+memN a) (by simpa [Zal] using hpp.at 1 (by simp))
   rw [if_neg (by rw [e];decide),if_pos e]
   simp only [Za1,Zb9,Zdp,List.any_append,List.any_nil,Bool.or_false,Bool.false_or,List.any_cons,List.getLastD,List.getLast,List.dropLast,Zal,Nat.add_zero]
   rw [← h1,← h2]
   simp only [Bool.or_assoc]
   congr 2
   rw [Bool.or_comm]
 rw [if_neg ho,List.any_nil,Bool.or_false]
 have hp:o≠oPre:=fun e=>ho (.inl e)
 have hf:o≠oFby:=fun e=>ho (.inr e)
 rw [if_neg hp,if_neg hf,hval ⟨hp,hf⟩]
 rw [← hL l m (fun e he=>ih e he) hsub hpp l.length (Nat.le_refl _)]
 have:(valM R (Zea R (cdOf p ord) mem0 inp i) (m+Zal l) o n s (decide (0<Zac R.lt (.mk o n s l))) (wdVs R inp (fvS R (cdOf p ord) mem0 inp) l i)).2=ownT R inp (fvS R (cdOf p ord) mem0 inp) (.mk o n s l) i:=by
  unfold ownT
  simp only [Ex.op,Ex.l]
  cases hc:(appM o (wdVs R inp (fvS R (cdOf p ord) mem0 inp) l i)).2 with
  | false=>
   rw [Bool.false_and]
   unfold valM
   rw [hc]
   repeat' split
   all_goals first | rfl | contradiction
  | true=>
   have h1:=Zj9 hc
   unfold valM
   rw [if_neg (by rcases h1 with h | h<;>rw [h]<;>decide),if_neg (by rcases h1 with h | h<;>rw [h]<;>decide),if_neg (by rcases h1 with h | h<;>rw [h]<;>decide),if_neg hp,if_neg hf,if_neg (by rcases h1 with h | h<;>rw [h]<;>decide),if_pos hc]
   have hrf:(Zea R (cdOf p ord) mem0 inp i).first=decide (i=0):=rfl
   rw [hrf]
   simp only [Bool.true_and,Bool.not_and]
 rw [this]
 generalize ownT R inp (fvS R (cdOf p ord) mem0 inp) (.mk o n s l) i=a
 generalize (Za1 R (Zea R (cdOf p ord) mem0 inp i) m l.length l).2=b
 generalize ((Zb9 m l).any fun x=>(Zbd R (Zea R (cdOf p ord) mem0 inp i) x.2 x.1).2)=c
 cases a<;>cases b<;>cases c<;>rfl
end
def wdTick (R:REnv) (inp:Nat→List Vl) (fv:Nat→Nat→Vl) (p:Pr) (i:Nat):Tk:=
 if Zdp R inp fv p.terms i then trapT else ⟨p.outs.map fun s=>fv (R.nm s).toNat i,p.as.all fun e=>decide ((wdV R inp fv e i).n=1),false,p.cs.map fun e=>decide ((wdV R inp fv e i).n=1)⟩
def wdRun (f:Nat→Tk):Nat→Nat→List Tk
 | 0,_=>[]
 | n+1,i=>f i :: if (f i).trap then [] else wdRun f n (i+1)
theorem Zje:∀ (l:List Ex) (m:Nat),Zb9 m l=(Zbb m l).flatMap fun x=>Ze8 x.2 x.1
 | [],m=>by simp [Zb9,Zbb]
 | e :: l,m=>by simp only [Zb9,Zbb,List.flatMap_cons,Zje l]
theorem Ze3 {p:Pr} {ks:Env Int} (hks:Zas Env.none p.vars=some ks) {ord:List Nat} (ho:Zbu p = .ok ord):∀ e∈p.terms,Zad ks e=true:=fun e he=>(Ze2 (Zbe ho).1 hks e he).1
section
variable {p : Pr} (h : (Za0 p).1 = 0) {ks : Env Int} (hks : Zas Env.none p.vars = some ks) {ord : List Nat} (ho : Zbu p = .ok ord) (nb : Bool) (ni : Int) (mem0 : List Vl) (inp : Nat → List Vl)
include h hks ho
theorem fv_fix (k i:Nat) (hk:k<p.fl.length):fvS ⟨ks,Zaa p,getI (Zaj p),nb,ni⟩ (cdOf p ord) mem0 inp k i=wdV ⟨ks,Zaa p,getI (Zaj p),nb,ni⟩ inp (fvS ⟨ks,Zaa p,getI (Zaj p),nb,ni⟩ (cdOf p ord) mem0 inp) p.fl[k].e i:=by
 obtain⟨f1,f2,_⟩:=now_fix h hks ho ⟨ks,Zaa p,getI (Zaj p),nb,ni⟩ rfl (decide (i=0)) (memS ⟨ks,Zaa p,getI (Zaj p),nb,ni⟩ (cdOf p ord) mem0 inp i) (inp i)
 have hfls:(cdOf p ord).fs.length=p.fl.length:=by simp [cdOf,Zc1]
 obtain⟨hkt,hke⟩:=fl_term p k hk
 have hx:(p.fl[k].e,flAt p k)∈(cdOf p ord).fs:=by
  have:=Zjm p ord k hk
  rw [← this,List.getD_eq_getElem?_getD,List.getElem?_eq_getElem (by omega)]
  exact List.getElem_mem _
 have h3:=f2 k hk
 rw [← wd_eval ⟨ks,Zaa p,getI (Zaj p),nb,ni⟩ ord mem0 inp (Zbc p).1 i p.fl[k].e (Ze3 hks ho _ (hke▸List.getElem_mem hkt)) (flAt p k) (Zjx (plX_all p) _ (by rw [cd_with p ord];exact List.mem_append_left _ (List.mem_append_left _ hx)))]
 unfold fvS Zea instOf
 rw [hfls,show (cdOf p ord).ord=ord from rfl]
 exact h3
theorem tick_wd (i:Nat):(Zdg ⟨ks,Zaa p,getI (Zaj p),nb,ni⟩ (cdOf p ord) (decide (i=0)) (memS ⟨ks,Zaa p,getI (Zaj p),nb,ni⟩ (cdOf p ord) mem0 inp i) (inp i)).1=wdTick ⟨ks,Zaa p,getI (Zaj p),nb,ni⟩ inp (fvS ⟨ks,Zaa p,getI (Zaj p),nb,ni⟩ (cdOf p ord) mem0 inp) p i∧
  ((Zdg ⟨ks,Zaa p,getI (Zaj p),nb,ni⟩ (cdOf p ord) (decide (i=0)) (memS ⟨ks,Zaa p,getI (Zaj p),nb,ni⟩ (cdOf p ord) mem0 inp i) (inp i)).1.trap=false→(Zdg ⟨ks,Zaa p,getI (Zaj p),nb,ni⟩ (cdOf p ord) (decide (i=0)) (memS ⟨ks,Zaa p,getI (Zaj p),nb,ni⟩ (cdOf p ord) mem0 inp i) (inp i)).2=memS ⟨ks,Zaa p,getI (Zaj p),nb,ni⟩ (cdOf p ord) mem0 inp (i+1)):=by
 have hterm:=Ze3 hks ho
 have hb:=(Zbc p).1
 obtain⟨f1,f2,f3⟩:=now_fix h hks ho ⟨ks,Zaa p,getI (Zaj p),nb,ni⟩ rfl (decide (i=0)) (memS ⟨ks,Zaa p,getI (Zaj p),nb,ni⟩ (cdOf p ord) mem0 inp i) (inp i)
 have hfls:(cdOf p ord).fs.length=p.fl.length:=by simp [cdOf,Zc1]
 have hwith:=cd_with p ord
 have hE:=fun (x:Ex×Nat) (hx:x∈Zbb 0 p.terms)=>wd_eval ⟨ks,Zaa p,getI (Zaj p),nb,ni⟩ ord mem0 inp hb i x.1 (hterm _ (Zdt hx)) x.2 (Zjx (plX_all p) x hx)
 have hT:=fun (x:Ex×Nat) (hx:x∈Zbb 0 p.terms)=>wd_trap ⟨ks,Zaa p,getI (Zaj p),nb,ni⟩ ord mem0 inp hb i x.1 (hterm _ (Zdt hx)) x.2 (Zjx (plX_all p) x hx)
 have hnow:∀ k,(nowM ⟨ks,Zaa p,getI (Zaj p),nb,ni⟩ (decide (i=0)) (memS ⟨ks,Zaa p,getI (Zaj p),nb,ni⟩ (cdOf p ord) mem0 inp i) (inp i) (cdOf p ord).fs ord (List.replicate p.fl.length vz) false).1.getD k vz=fvS ⟨ks,Zaa p,getI (Zaj p),nb,ni⟩ (cdOf p ord) mem0 inp k i:=fun k=>by
  unfold fvS Zea instOf
  rw [hfls];rfl
 have hinst:(⟨decide (i=0),memS ⟨ks,Zaa p,getI (Zaj p),nb,ni⟩ (cdOf p ord) mem0 inp i,inp i,(nowM ⟨ks,Zaa p,getI (Zaj p),nb,ni⟩ (decide (i=0)) (memS ⟨ks,Zaa p,getI (Zaj p),nb,ni⟩ (cdOf p ord) mem0 inp i) (inp i) (cdOf p ord).fs ord (List.replicate p.fl.length vz) false).1⟩:Inst)=Zea ⟨ks,Zaa p,getI (Zaj p),nb,ni⟩ (cdOf p ord) mem0 inp i:=by
  unfold Zea instOf
  rw [hfls];rfl
 unfold Zdg
 dsimp only
 rw [show (cdOf p ord).ord=ord from rfl,hfls]
 rw [hinst] at f3 ⊢
 have hmS:memS ⟨ks,Zaa p,getI (Zaj p),nb,ni⟩ (cdOf p ord) mem0 inp (i+1)=(Zej ⟨ks,Zaa p,getI (Zaj p),nb,ni⟩ (Zea ⟨ks,Zaa p,getI (Zaj p),nb,ni⟩ (cdOf p ord) mem0 inp i) (cdOf p ord).ms).1:=rfl
 rw [hmS]
 generalize nowM ⟨ks,Zaa p,getI (Zaj p),nb,ni⟩ (decide (i=0)) (memS ⟨ks,Zaa p,getI (Zaj p),nb,ni⟩ (cdOf p ord) mem0 inp i) (inp i) (cdOf p ord).fs ord (List.replicate p.fl.length vz) false=N at *
 generalize fvS ⟨ks,Zaa p,getI (Zaj p),nb,ni⟩ (cdOf p ord) mem0 inp=fv at *
 generalize Zea ⟨ks,Zaa p,getI (Zaj p),nb,ni⟩ (cdOf p ord) mem0 inp i=r at *
 have hfs:(cdOf p ord).fs=(List.range p.fl.length).map fun k=>(cdOf p ord).fs.getD k d0:=by
  apply List.ext_getElem (by simp [hfls])
  intro j h1 h2
  simp [List.getD_eq_getElem?_getD,h1]
 have hn2:N.2=(cdOf p ord).fs.any fun x=>(Zbd ⟨ks,Zaa p,getI (Zaj p),nb,ni⟩ r x.2 x.1).2:=by
  rw [Bool.eq_iff_iff,f3,hfs,List.any_map,List.any_eq_true]
  constructor
  ·rintro⟨k,hk,hh⟩
   refine⟨k,by simpa using hk,?_⟩
   simp only [Function.comp]
   rw [Zjm p ord k hk];exact hh
  rintro⟨k,hk,hh⟩
  have hk:k<p.fl.length:=by simpa using hk
  simp only [Function.comp] at hh
  rw [Zjm p ord k hk] at hh
  exact⟨k,hk,hh⟩
 have htrap:(N.2 || (Zej ⟨ks,Zaa p,getI (Zaj p),nb,ni⟩ r (cdOf p ord).av).2 || (Zej ⟨ks,Zaa p,getI (Zaj p),nb,ni⟩ r (cdOf p ord).cv).2 || (Zej ⟨ks,Zaa p,getI (Zaj p),nb,ni⟩ r (cdOf p ord).ms).2)=Zdp ⟨ks,Zaa p,getI (Zaj p),nb,ni⟩ inp fv p.terms i:=by
  have e1:Zdp ⟨ks,Zaa p,getI (Zaj p),nb,ni⟩ inp fv p.terms i=(Zbb 0 p.terms).any fun x=>allT ⟨ks,Zaa p,getI (Zaj p),nb,ni⟩ inp fv x.1 i:=by
   rw [Zc6]
   conv=>lhs;rw [← Zef p.terms 0]
   rw [List.any_map];rfl
  have e2:((Zbb 0 p.terms).any fun x=>allT ⟨ks,Zaa p,getI (Zaj p),nb,ni⟩ inp fv x.1 i)=(Zbb 0 p.terms).any fun x=>((Zbd ⟨ks,Zaa p,getI (Zaj p),nb,ni⟩ r x.2 x.1).2 || (Ze8 x.2 x.1).any fun y=>(Zbd ⟨ks,Zaa p,getI (Zaj p),nb,ni⟩ r y.2 y.1).2):=by
   rw [Bool.eq_iff_iff,List.any_eq_true,List.any_eq_true]
   constructor
   ·rintro⟨x,hx,hh⟩;exact⟨x,hx,by rw [hT x hx];exact hh⟩
   rintro⟨x,hx,hh⟩;exact⟨x,hx,by rw [hT x hx] at hh;exact hh⟩
  have e3:(Zej ⟨ks,Zaa p,getI (Zaj p),nb,ni⟩ r (cdOf p ord).ms).2=(Zbb 0 p.terms).any fun x=>(Ze8 x.2 x.1).any fun y=>(Zbd ⟨ks,Zaa p,getI (Zaj p),nb,ni⟩ r y.2 y.1).2:=by
   show ((Zb9 0 p.terms).any fun x=>(Zbd ⟨ks,Zaa p,getI (Zaj p),nb,ni⟩ r x.2 x.1).2)=_
   rw [Zje,List.any_flatMap]
  have e4:(N.2 || (Zej ⟨ks,Zaa p,getI (Zaj p),nb,ni⟩ r (cdOf p ord).av).2 || (Zej ⟨ks,Zaa p,getI (Zaj p),nb,ni⟩ r (cdOf p ord).cv).2)=(Zbb 0 p.terms).any fun x=>(Zbd ⟨ks,Zaa p,getI (Zaj p),nb,ni⟩ r x.2 x.1).2:=by
   rw [hn2,hwith,List.any_append,List.any_append]
   rfl
  rw [e1,e2,e3,e4]
  rw [Bool.eq_iff_iff]
  simp only [Bool.or_eq_true,List.any_eq_true]
  constructor
  ·rintro (⟨x,hx,hh⟩ | ⟨x,hx,hh⟩)
   ·exact⟨x,hx,.inl hh⟩
   exact⟨x,hx,.inr hh⟩
  rintro⟨x,hx,hh | hh⟩
  ·exact .inl ⟨x,hx,hh⟩
  exact .inr ⟨x,hx,hh⟩
 rw [htrap]
 unfold wdTick
 by_cases hc:Zdp ⟨ks,Zaa p,getI (Zaj p),nb,ni⟩ inp fv p.terms i=true
 ·rw [if_pos hc,if_pos hc]
  exact⟨rfl,fun hh=>by cases hh⟩
 rw [if_neg hc,if_neg hc]
 refine⟨?_,fun _=>rfl⟩
 have hav:(Zej ⟨ks,Zaa p,getI (Zaj p),nb,ni⟩ r (cdOf p ord).av).1=p.as.map fun e=>wdV ⟨ks,Zaa p,getI (Zaj p),nb,ni⟩ inp fv e i:=by
  show (Zbb (Zal (p.fl.map (·.e))) p.as).map _=_
  have e1:∀ x∈Zbb (Zal (p.fl.map (·.e))) p.as,(Zbd ⟨ks,Zaa p,getI (Zaj p),nb,ni⟩ r x.2 x.1).1=wdV ⟨ks,Zaa p,getI (Zaj p),nb,ni⟩ inp fv x.1 i:=fun x hx=>hE x (by rw [hwith];exact List.mem_append_left _ (List.mem_append_right _ hx))
  rw [List.map_congr_left e1]
  conv=>rhs;rw [← Zef p.as (Zal (p.fl.map (·.e)))]
  rw [List.map_map];rfl
 have hcv:(Zej ⟨ks,Zaa p,getI (Zaj p),nb,ni⟩ r (cdOf p ord).cv).1=p.cs.map fun e=>wdV ⟨ks,Zaa p,getI (Zaj p),nb,ni⟩ inp fv e i:=by
  show (Zbb (Zal (p.fl.map (·.e))+Zal p.as) p.cs).map _=_
  have e1:∀ x∈Zbb (Zal (p.fl.map (·.e))+Zal p.as) p.cs,(Zbd ⟨ks,Zaa p,getI (Zaj p),nb,ni⟩ r x.2 x.1).1=wdV ⟨ks,Zaa p,getI (Zaj p),nb,ni⟩ inp fv x.1 i:=fun x hx=>hE x (by rw [hwith];exact List.mem_append_right _ hx)
  rw [List.map_congr_left e1]
  conv=>rhs;rw [← Zef p.cs (Zal (p.fl.map (·.e))+Zal p.as)]
  rw [List.map_map];rfl
 rw [hav,hcv]
 have houts:((cdOf p ord).outs.map fun i=>N.1.getD i.toNat vz)=p.outs.map fun s=>fv (getI (Zaj p) s).toNat i:=by
  show (p.outs.map (getI (Zaj p))).map _=_
  rw [List.map_map]
  exact List.map_congr_left fun s _=>hnow _
 rw [houts,List.all_map,List.map_map]
 rfl
theorem go_wd:∀ (n i:Nat),Zet ⟨ks,Zaa p,getI (Zaj p),nb,ni⟩ (cdOf p ord) (decide (i=0)) (memS ⟨ks,Zaa p,getI (Zaj p),nb,ni⟩ (cdOf p ord) mem0 inp i) ((List.range' i n).map inp)=
  wdRun (wdTick ⟨ks,Zaa p,getI (Zaj p),nb,ni⟩ inp (fvS ⟨ks,Zaa p,getI (Zaj p),nb,ni⟩ (cdOf p ord) mem0 inp) p) n i
 | 0,i=>rfl
 | n+1,i=>by
  obtain⟨t1,t2⟩:=tick_wd h hks ho nb ni mem0 inp i
  simp only [List.range'_succ,List.map_cons,Zet,wdRun]
  rw [← t1]
  congr 1
  cases ht:(Zdg ⟨ks,Zaa p,getI (Zaj p),nb,ni⟩ (cdOf p ord) (decide (i=0)) (memS ⟨ks,Zaa p,getI (Zaj p),nb,ni⟩ (cdOf p ord) mem0 inp i) (inp i)).1.trap with
  | true=>rw [if_pos rfl,if_pos rfl]
  | false=>
   rw [if_neg (by simp),if_neg (by simp),t2 ht]
   have:=go_wd n (i+1)
   rw [show decide (i+1=0)=false from by simp] at this
   exact this
end
end Go.Proofs.YtofameafdnkijaaGreatDoor
