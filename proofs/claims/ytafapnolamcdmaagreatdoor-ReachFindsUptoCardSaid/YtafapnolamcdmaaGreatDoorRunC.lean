/- A right flat program, made ready: names, lates, what is remembered: no program in sight. -/
import Derived.Test.YtafapnolamcdmaaGreatDoorOiP
import Derived.Test.YtafapnolamcdmaaGreatDoorOrd
set_option linter.all false
namespace Go.Proofs.YtafapnolamcdmaaGreatDoor
set_option maxRecDepth 100000
set_option maxHeartbeats 16000000
open Mx
theorem Zku:∀(l:List Fl) (late:ByteArray->Int) (b:Bool) (s:ByteArray),late s<=(Zat l late b).1 s
 | [],late,b,s=>Int.le_refl _
 |f :: l,late,b,s=>by
  simp only[Zat]
  split
  .refine Int.le_trans ?_ (Zku l _ _ s);unfold setL
   split
   .rename_i h e;rw[e];omega
   omega
  exact Zku l late b s
theorem setL_bound{late:ByteArray->Int}(hb:∀s,0<=late s/\late s<=2)(e:Ex)(k:ByteArray):∀s,0<=setL late k (lateOf late e) s/\setL late k (lateOf late e) s<=2:=λs=>by
 unfold setL
 split
 .exact Zbw late hb e
 exact hb s
theorem Zfr:∀(l:List Fl) (late:ByteArray->Int) (b:Bool),(∀s,0<=late s/\late s<=2)->∀s,0<=(Zat l late b).1 s/\(Zat l late b).1 s<=2
 | [],late,b,hb,s=>hb s
 |f :: l,late,b,hb,s=>by
  simp only[Zat]
  split
  .exact Zfr l _ _ (setL_bound hb f.e f.name) s
  exact Zfr l late b hb s
theorem round_gain:∀(l:List Fl) (late:ByteArray->Int),(Zat l late false).2=true->∃f∈l,late f.name<(Zat l late false).1 f.name
 | [],late,h=>by simp[Zat] at h
 |f :: l,late,h=>by
  simp only[Zat] at h ⊢
  split
  .rename_i Hr
   refine⟨f,List.mem_cons_self ..,Int.lt_of_lt_of_le Hr ?_⟩;have:=Zku l (setL late f.name (lateOf late f.e)) true f.name;simpa[setL] using this
  rename_i Hr
  rw[if_neg Hr] at h;obtain⟨g,hg,h2⟩:=round_gain l late h;exact⟨g,List.mem_cons_of_mem _ hg,h2⟩
theorem round_none:∀(l:List Fl) (late:ByteArray->Int),(Zat l late false).2=false->(Zat l late false).1=late/\∀f∈l,lateOf late f.e<=late f.name
 | [],late,_=>⟨rfl,λf hf=>by cases hf⟩
 |f :: l,late,h=>by
  simp only[Zat] at h ⊢
  split
  .rename_i Hr
   rw[if_pos Hr,namesRound_more] at h;cases h
  rename_i Hr
  rw[if_neg Hr] at h;obtain⟨a,b⟩:=round_none l late h;refine⟨a,λg hg=>?_⟩;rcases List.mem_cons.1 hg with rfl|hg
  .omega
  exact b g hg
theorem namesN_fix(l:List Fl):∀(f:Nat) (late:ByteArray->Int),(∀s,0<=late s/\late s<=2)->mu late l<f->(∀s,0<=Zf3 l f late s/\Zf3 l f late s<=2)/\∀g∈l,lateOf (Zf3 l f late) g.e<=Zf3 l f late g.name
 |0,late,_,h=>by omega
 |f+1,late,hb,h=>by
  rw[Zh3];cases hr:(Zat l late false).2 with
  |true=>
   simp only[if_true];obtain⟨g,hg,Hr⟩:=round_gain l late hr;have:=mu_lt late _ (Zku l late false) (λs=>(Zfr l late false hb s).2) l g hg Hr;exact namesN_fix l f _ (Zfr l late false hb) (by omega)
  |false=>
   simp only[Bool.false_eq_true,if_false];obtain⟨a,b⟩:=round_none l late hr;rw[a];exact⟨hb,b⟩
theorem Zdx(p:Pr):(∀s,0<=Zac p s/\Zac p s<=2)/\∀g∈p.fl,lateOf (Zac p) g.e<=Zac p g.name:=
 namesN_fix p.fl _ _ (λs=>⟨by simp,by simp⟩) (by rw[mu_zero];omega)
def Zcs:Nat->Env Int->List Vr->Env Int
 |_,m,[]=>m
 |i,m,v :: l=>Zcs (i+1) (m.set v.name (-1 - (i:Int))) l
def Zds:Nat->Env Int->List Fl->Env Int
 |_,m,[]=>m
 |i,m,f :: l=>Zds (i+1) (m.set f.name (i:Int)) l
def Zah(p:Pr):Env Int:=Zds 0 (Zcs 0 Env.none p.ins) p.fl
theorem Zd1:∀(l:List Fl) (i:Nat) (m:Env Int) (s:ByteArray),s∉l.map (·.name)->Zds i m l s=m s
 | [],i,m,s,_=>rfl
 |f :: l,i,m,s,h=>by
  simp only[List.map_cons,List.mem_cons,not_or] at h;rw[Zds,Zd1 l _ _ s h.2,Env.set_other _ _ h.1]
theorem flNames_in:∀(l:List Fl) (i:Nat) (m:Env Int),(l.map (·.name)).Nodup->∀k (h:k<l.length),Zds i m l l[k].name=some ((i+k:Nat):Int)
 | [],i,m,_,k,h=>by simp at h
 |f :: l,i,m,hn,0,h=>by
  rw[List.map_cons,List.nodup_cons] at hn;simp only[List.getElem_cons_zero,Zds];rw[Zd1 l _ _ _ hn.1,Env.set_self];rfl
 |f :: l,i,m,hn,k+1,h=>by
  rw[List.map_cons,List.nodup_cons] at hn;simp only[List.getElem_cons_succ,Zds];rw[flNames_in l (i+1) _ hn.2 k (by simpa using h),show i+1+k=i+(k+1) from by omega]
theorem Zhf:∀(l:List Vr) (i:Nat) (m:Env Int) (s:ByteArray),(s∈l.map (·.name)\/∃j:Nat,m s=some (-1 - (j:Int)))->∃j:Nat,Zcs i m l s=some (-1 - (j:Int))
 | [],i,m,s,h=>h.elim (λh=>by simp at h) id
 |v :: l,i,m,s,h=>by
  rw[Zcs];refine Zhf l (i+1) _ s ?_;by_cases e:s=v.name
  .exact .inr ⟨i,by rw[e,Env.set_self]⟩
  rcases h with h|⟨j,h⟩
  .simp only[List.map_cons,List.mem_cons] at h;exact .inl (h.resolve_left e)
  exact .inr ⟨j,by rw[Env.set_other _ _ e];exact h⟩
theorem Zfh{s:ByteArray}:∀(l:List (ByteArray×Int)) (m0 m:Env Int),Zao m0 l=some m->(m s).isSome=true->(m0 s).isSome=true\/s∈l.map (·.1)
 | [],m0,m,h,hs=>by simp only[Zao] at h;cases h;exact .inl hs
 |y :: l,m0,m,h,hs=>by
  simp only[Zao] at h
  split at h
  .rcases Zfh l _ _ h hs with h1|h1
   .by_cases e:s=y.1
    .exact .inr (by simp[e])
    rw[Env.set_other _ _ e] at h1;exact .inl h1
   exact .inr (List.mem_cons_of_mem _ h1)
  cases h
def nfOf(p:Pr)(k:Nat):ByteArray:=(p.fl.map (·.name)).getD k ⟨#[]⟩
theorem Zgi{p:Pr}(J0:Zak p=0)(k:Nat)(h:k<p.fl.length):getI (Zah p) p.fl[k].name=(k:Int):=by
 unfold getI Zah;rw[flNames_in p.fl 0 _ (Zhb J0) k h];simp
theorem nm_of{p:Pr}(J0:Zak p=0){ks:Env Int}(hks:Zao Env.none p.vars=some ks)(s:ByteArray)(h1:(ks s).isSome=true)(h2:0<=getI (Zah p) s):s=nfOf p (getI (Zah p) s).toNat:=by
 rcases Zfh _ _ _ hks h1 with h|h
 .simp [Env.none] at h
 by_cases hf:s∈p.fl.map (·.name)
 .obtain⟨k,hk,e⟩:=List.mem_iff_getElem.1 hf;have qZ:k<p.fl.length:=by simpa using hk
  have e':p.fl[k].name=s:=by simpa using e
  have:=Zgi J0 k qZ;rw[e'] at this;rw[this];simp[nfOf,Ygg,qZ,e']
 have hi:s∈p.ins.map (·.name):=by
  simp only[Pr.vars,List.map_append,List.map_map,List.mem_append] at h;rcases h with h|h
  .exact h
  exact absurd h hf
 obtain⟨j,hj⟩:=Zhf p.ins 0 Env.none s (.inl hi);unfold getI Zah at h2;rw[Zd1 _ _ _ _ hf,hj] at h2;simp at h2;omega
theorem late_parts{lt:ByteArray->Int}(hb:∀s,0<=lt s/\lt s<=2){ks:Env Int}{o:ByteArray}{n:Int}{s:ByteArray}{l:List Ex}(hf:Zad ks (.mk o n s l)=true)(h:lateOf lt (.mk o n s l)<=1):
  (∀e∈l,lateOf lt e<=1)/\(o=oPre\/o=oFby->∀d,lateOf lt (l.getLastD d)=0):=by
 obtain⟨_,Jj,jq,hZ,_⟩:=Zax hf;have HJ:lateOf lt (.mk o n s l)=if o=Zb2 then lt s else if o=oPre then min 2 ((Zau lt l).getD 0 0+1) else if o=Zbk\/o=oFby then(let b:=if o=oFby then min 2 ((Zau lt l).getD 1 0+1) else(Zau lt l).getD 1 0;if b=2 then 2 else(Zau lt l).getD 0 0) else(Zau lt l).foldl max 0:=by rw[lateOf]
 rw[HJ] at h;by_cases e3:o=Zb2
 .subst e3;have hl:l=[]:=by
   cases l with
   |nil=>rfl
   |cons a t=>
    have h9:Zcx Zb2=some 0:=by decide
    simp only[Zad,form,Ex.op,Ex.l,h9,Bool.and_eq_true,List.length_cons] at hf;have h8:=hf.1.1.1.1.1;rw[Bool.or_eq_true] at h8;rcases h8 with h7|h7
    .have:=of_decide_eq_true h7;omega
    have:=of_decide_eq_true h7;omega
  subst hl;exact⟨λe he=>(by cases he),λh=>absurd h (by decide)⟩
 rw[if_neg e3] at h;by_cases e4:o=oPre
 .have h1:=hZ e4
  match l,h1 with
  | [a],_=>
   rw[if_pos e4] at h;have Hv:=Zbw lt hb a;have ha:lateOf lt a=0:=by
    simp only[Zau,List.getD_cons_zero] at h;omega
   exact⟨λe he=>by rw[List.mem_singleton.1 he];omega,λ_ d=>by simpa using ha⟩
 rw[if_neg e4] at h;by_cases e5:o=oFby
 .have h1:=Jj e5
  match l,h1 with
  | [a,b],_=>
   rw[if_pos (.inr e5)] at h;dsimp only at h;rw[if_pos e5] at h;have Hv:=Zbw lt hb a;have Hm:=Zbw lt hb b;simp only[Zau,List.getD_cons_zero,List.getD_cons_succ] at h;by_cases hc:min 2 (lateOf lt b+1)=2
   .rw [if_pos hc] at h;omega
   rw[if_neg hc] at h;have Hg:lateOf lt b=0:=by omega
   refine⟨λe he=>?_,λ_ d=>by simpa using Hg⟩;simp only[List.mem_cons,List.not_mem_nil,or_false] at he;rcases he with rfl|rfl<;>omega
 have jy:¬(o=oPre\/o=oFby):=λh=>h.elim e4 e5;by_cases e6:o=Zbk
 .have h1:=jq e6
  match l,h1 with
  | [a,b],_=>
   rw[if_pos (.inl e6)] at h;dsimp only at h;rw[if_neg e5] at h;have Hm:=Zbw lt hb b;simp only[Zau,List.getD_cons_zero,List.getD_cons_succ] at h;by_cases hc:lateOf lt b=2
   .rw [if_pos hc] at h;omega
   rw[if_neg hc] at h;refine⟨λe he=>?_,λh=>absurd h jy⟩;simp only[List.mem_cons,List.not_mem_nil,or_false] at he;rcases he with rfl|rfl<;>omega
 rw[if_neg (λh=>h.elim e6 e5)] at h;have hall:=(Zkg _ _ _ h).2;exact⟨λe he=>hall _ (Zgm lt l e he),λh=>absurd h jy⟩
theorem Zkd{α:Type}:∀{l:List α} {d:α},l≠[]->l.getLastD d∈l
 | [],_,h=>absurd rfl h
 |a :: l,d,_=>by
  rw[List.getLastD_cons];cases l with
  |nil=>simp
  |cons b l=>exact List.mem_cons_of_mem _ (Zkd (by simp))
theorem memsAt_ok{lt:ByteArray->Int}(hb:∀s,0<=lt s/\lt s<=2){ks:Env Int}:∀(e:Ex),Zad ks e=true->lateOf lt e<=1->∀m,∀x∈Zfc m e,Zad ks x.1=true/\lateOf lt x.1=0:=by
 refine Ex.ind λo n s l ih hf h m x hx=>?_;obtain⟨JA,Jj,jq,hZ,_⟩:=Zax hf;obtain⟨hp1,hp2⟩:=late_parts hb hf h;have hL:∀(l:List Ex),(∀e∈l,∀m,∀x∈Zfc m e,Zad ks x.1=true/\lateOf lt x.1=0)->∀m,∀x∈Zcc m l,Zad ks x.1=true/\lateOf lt x.1=0:=by
  intro l
  induction l with
  |nil=>intro _ m x hx;simp[Zcc] at hx
  |cons e l ihl=>
   intro hh m x hx;simp only[Zcc,List.mem_append] at hx;rcases hx with hx|hx
   .exact hh e (List.mem_cons_self ..) m x hx
   exact ihl (λy hy=>hh y (List.mem_cons_of_mem _ hy)) _ x hx
 simp only[Zfc,List.mem_append] at hx;rcases hx with hx|hx
 .exact hL l (λe he=>ih e he (JA e he) (hp1 e he)) m x hx
 split at hx
 .rename_i ho
  rw[List.mem_singleton.1 hx];refine⟨JA _ (Zkd λe=>?_),hp2 ho _⟩;rcases ho with ho|ho
  .have:=hZ ho;rw[e] at this;simp at this
  have:=Jj ho;rw[e] at this;simp at this
 cases hx
theorem memsAtL_ok{lt:ByteArray->Int}(hb:∀s,0<=lt s/\lt s<=2){ks:Env Int}:∀(l:List Ex),(∀e∈l,Zad ks e=true/\lateOf lt e<=1)->∀m,∀x∈Zcc m l,Zad ks x.1=true/\lateOf lt x.1=0
 | [],_,m,x,hx=>by simp[Zcc] at hx
 |e :: l,hh,m,x,hx=>by
  simp only[Zcc,List.mem_append] at hx;rcases hx with hx|hx
  .exact memsAt_ok hb e (hh e (List.mem_cons_self ..)).1 (hh e (List.mem_cons_self ..)).2 m x hx
  exact memsAtL_ok hb l (λy hy=>hh y (List.mem_cons_of_mem _ hy)) _ x hx
theorem Zb8:∀(l:List Ex) (m:Nat),(Za4 m l).length=l.length
 | [],_=>rfl
 |e :: l,m=>by simp[Za4,Zb8 l]
theorem Zek:∀(l:List Ex) (m:Nat),(Za4 m l).map (·.1)=l
 | [],_=>rfl
 |e :: l,m=>by simp[Za4,Zek l]
theorem Zdv{l:List Ex}{m:Nat}{x:Ex×Nat}(h:x∈Za4 m l):x.1∈l:=by
 have:=List.mem_map_of_mem (f:=(·.1)) h
 rwa [Zek] at this
def cdOf(p:Pr)(ord:List Nat):Cd where
 ord:=ord
 fs:=Za4 0 (p.fl.map (·.e))
 av:=Za4 (Zag (p.fl.map (·.e))) p.as
 cv:=Za4 (Zag (p.fl.map (·.e))+Zag p.as) p.cs
 outs:=p.outs.map (getI (Zah p))
 ms:=Zcc 0 p.terms
theorem Zg8(fl:List ByteArray):∀(l seen:List ByteArray),Zce fl seen l=true->∀s∈l,s∈fl
 | [],_,_,s,hs=>by cases hs
 |x :: l,seen,h,s,hs=>by
  simp only[Zce,Bool.and_eq_true] at h;rcases List.mem_cons.1 hs with rfl|hs
  .simpa using h.1.1
  exact Zg8 fl l _ h.2 s hs
theorem Zf0{p:Pr}(h:(Za2 p).1=0):∃l,Za5 p=.ok l/\(∀k (hk:k<p.fl.length),hit p p.fl[k].name=false)/\∀e∈p.as++p.cs,lateOf (Zac p) e=0:=by
 cases hl:Ze4 p with
 |error x=>
  rw[Zid hl] at h;exact absurd h (lateM_pos hl)
 |ok r=>
  obtain⟨hr,_⟩:=lateM_ok hl;subst hr;have Jo:∀k (hk:k<p.fl.length),hit p p.fl[k].name=false:=by
   intro k
   induction k using Nat.strongRecOn with
   |ind k ih=>
    intro hk;cases hh:hit p p.fl[k].name with
    |false=>rfl
    |true=>
     rw[Zjx hl k hk hh λj hj jV=>ih j jV hj] at h;cases h
  have he:=Zjy hl Jo;rw[he] at h
  split at h
  .cases h
  rename_i zf
  unfold Ze4 at hl
  split at hl
  .cases hl
  rename_i l ho
  refine⟨l,ho,Jo,λe hm=>?_⟩;have:=(Zbw (Zac p) (Zdx p).1 e).1;by_cases h0:0<lateOf (Zac p) e
  .exact absurd (List.any_eq_true.2 ⟨e,hm,by simpa using h0⟩) zf
  omega
theorem sortN_low{g:List (List Nat)}(hp:∀j,j<g.length->pick g (Zc7 g j [])<g.length):∀j,j<=g.length->∀k∈Zc7 g j [],k<g.length
 |0,_,k,hk=>by simp[Zc7] at hk
 |j+1,hj,k,hk=>by
  rw[Zgc,List.mem_append,List.mem_singleton] at hk;rcases hk with hk|rfl
  .exact sortN_low hp j (by omega) k hk
  exact hp j (by omega)
theorem Zbg{p:Pr}{l:List Nat}(h:Za5 p=.ok l):Zak p=0/\l.length=p.fl.length/\∀k∈l,k<p.fl.length:=by
 unfold Za5 at h
 split at h
 .cases h
 rename_i h0
 have hc:Zak p=0:=by simpa using h0
 split at h
 .cases h
 rename_i hf
 cases h;refine⟨hc,by rw[sortN_len,Zfg];simp,λk hk=>?_⟩;rw[<- Zfg];refine sortN_low (Zi8 p hc λj hj=>?_) _ Ylr k hk;have:=List.find?_eq_none.1 hf j (by simpa using hj);simpa using this
theorem cd_ok{p:Pr}(h:(Za2 p).1=0){ks:Env Int}(hks:Zao Env.none p.vars=some ks){l:List Nat}(ho:Za5 p=.ok l)(nb:Bool)(ni:Int):CdOk ⟨ks,Zac p,getI (Zah p),nb,ni⟩ ks (nfOf p) (cdOf p l):=by
 obtain⟨l',ho',Jo,hac⟩:=Zf0 h;obtain⟨J0,_,Jm⟩:=Zbg ho;obtain⟨ks',kP,Hn,ji,_,_,_,_⟩:=Zb9 J0;rw[hks] at kP;cases kP;obtain⟨hb,vO⟩:=Zdx p;have jX:∀e∈p.terms,Zad ks e=true:=λe he=>by
  obtain⟨i,hi,rfl⟩:=List.mem_iff_getElem.1 he;exact(Zbe ks _).1 ji i hi
 have hone:∀k (hk:k<p.fl.length),Zac p p.fl[k].name<=1/\(p.outs.contains p.fl[k].name=true->Zac p p.fl[k].name=0):=λk hk=>by
  have h1:=Jo k hk;unfold hit at h1;simp only[Bool.or_eq_false_iff,Bool.and_eq_false_iff,decide_eq_false_iff_not] at h1;have h2:=hb p.fl[k].name;refine⟨by omega,λhc=>?_⟩;rcases h1.2 with h3|h3
  .omega
  rw[hc] at h3;cases h3
 have HJ:∀e∈p.terms,lateOf (Zac p) e<=1:=λe he=>by
  simp only[Pr.terms,List.mem_append,List.mem_map] at he;rcases he with(⟨f,hf,rfl⟩|he)|he
  .obtain⟨k,hk,rfl⟩:=List.mem_iff_getElem.1 hf;have:=vO _ hf;have:=(hone k hk).1;omega
  .rw [hac e (List.mem_append_left _ he)];omega
  rw[hac e (List.mem_append_right _ he)];omega
 refine⟨hb,λk hk=>?_,λs h1 h2=>nm_of J0 hks s h1 h2,λk hk=>?_,λx hx=>?_,λx hx=>?_,memsAtL_ok hb _ (λe he=>⟨jX e he,HJ e he⟩) 0,λi hi=>?_⟩
 .show k<(Za4 0 _).length;rw[Zb8];simpa using Jm k hk
 .have qZ:k<p.fl.length:=by have h2:k<(Za4 0 (p.fl.map (·.e))).length:=hk;rw[Zb8] at h2;simpa using h2
  have he:((cdOf p l).fs[k]).1=p.fl[k].e:=by
   have h3:=Zek (p.fl.map (·.e)) 0;have h4:((Za4 0 (p.fl.map (·.e))).map (·.1))[k]?=(p.fl.map (·.e))[k]?:=by rw[h3]
   simp only[List.getElem?_map] at h4;rw[List.getElem?_eq_getElem (show k<(Za4 0 (p.fl.map (·.e))).length from hk),List.getElem?_eq_getElem qZ] at h4;have h5:=Option.some.inj h4;exact h5
  rw[he];refine⟨jX _ (Zeh p (Ymm qZ)),?_⟩;have:nfOf p k=p.fl[k].name:=by simp[nfOf,Ygg,qZ]
  rw[this];exact vO _ (Ymm qZ)
 .have:=Zdv hx;exact⟨jX _ (by simp[Pr.terms,this]),hac _ (List.mem_append_left _ this)⟩
 .have:=Zdv hx;exact⟨jX _ (by simp[Pr.terms,this]),hac _ (List.mem_append_right _ this)⟩
 obtain⟨s,hs,rfl⟩:=List.mem_map.1 hi;have hm:=Zg8 _ _ _ Hn s hs;obtain⟨k,hk,e⟩:=List.mem_iff_getElem.1 hm;have qZ:k<p.fl.length:=by simpa using hk
 have e':p.fl[k].name=s:=by simpa using e
 have h5:=Zgi J0 k qZ;rw[e'] at h5;rw[h5];have:nfOf p (k:Int).toNat=p.fl[k].name:=by simp[nfOf,Ygg,qZ]
 rw[this];exact(hone k qZ).2 (by rw[e'];simpa using hs)
open Go.RowKit Mx
mutual
def Zbs:Nat->Ex->List (Ex×Nat)
 |m,.mk o n s l=>Zab m l++(if o=oPre\/o=oFby then [(.mk o n s l,m)] else [])
def Zab:Nat->List Ex->List (Ex×Nat)
 |_,[]=>[]
 |m,e :: l=>Zbs m e++Zab (m+memN e) l
end
def Zdz(x:Ex×Nat):Ex×Nat:=(x.1.l.getLastD x.1,x.2+Zag x.1.l.dropLast)
theorem Zfd:∀(e:Ex) (m:Nat),(Zbs m e).length=memN e:=by
 refine Ex.ind λo n s l ih m=>?_;have hL:∀(l:List Ex),(∀e∈l,∀m,(Zbs m e).length=memN e)->∀m,(Zab m l).length=Zag l:=by
  intro l
  induction l with
  |nil=>intro _ m;rfl
  |cons e l ihl=>
   intro hh m;simp only[Zab,Zag,List.length_append];rw[hh e (List.mem_cons_self ..),ihl λy hy=>hh y (List.mem_cons_of_mem _ hy)]
 simp only[Zbs,memN,List.length_append];rw[hL l ih]
 congr 1
 split<;>rfl
theorem Zaw:∀(l:List Ex) (m:Nat),(Zab m l).length=Zag l
 | [],_=>rfl
 |e :: l,m=>by simp only[Zab,Zag,List.length_append];rw[Zfd,Zaw l]
theorem memsAt_nds:∀(e:Ex) (m:Nat),Zfc m e=(Zbs m e).map Zdz:=by
 refine Ex.ind λo n s l ih m=>?_;have hL:∀(l:List Ex),(∀e∈l,∀m,Zfc m e=(Zbs m e).map Zdz)->∀m,Zcc m l=(Zab m l).map Zdz:=by
  intro l
  induction l with
  |nil=>intro _ m;rfl
  |cons e l ihl=>
   intro hh m;simp only[Zab,Zcc,List.map_append];rw[hh e (List.mem_cons_self ..),ihl λy hy=>hh y (List.mem_cons_of_mem _ hy)]
 simp only[Zbs,Zfc,List.map_append];rw[hL l ih]
 congr 1
 split<;>rfl
theorem Zdf:∀(l:List Ex) (m:Nat),Zcc m l=(Zab m l).map Zdz
 | [],_=>rfl
 |e :: l,m=>by simp only[Zab,Zcc,List.map_append];rw[memsAt_nds,Zdf l]
theorem Zcl:∀(a b:List Ex),Zag (a++b)=Zag a+Zag b
 | [],b=>by simp[Zag]
 |x :: a,b=>by simp only[List.cons_append,Zag,Zcl a b];omega
theorem Zdy(l:List Ex)(k:Nat)(h:k<l.length):Zag (l.take (k+1))=Zag (l.take k)+memN l[k]:=by
 rw[List.take_succ_eq_append_getElem h,Zcl];simp[Zag]
theorem Zck:∀(l:List Ex) (k:Nat),Zag (l.take k)<=Zag l:=λl k=>by
 have:=Zcl (l.take k) (l.drop k);rw[List.take_append_drop] at this;omega
theorem Zd3:∀(a b:List Ex) (m:Nat),Zab m (a++b)=Zab m a++Zab (m+Zag a) b
 | [],b,m=>by simp[Zab,Zag]
 |x :: a,b,m=>by simp only[List.cons_append,Zab,Zag,Zd3 a b,List.append_assoc,Nat.add_assoc]
theorem Zj7(l:List Ex)(k m:Nat)(h:k<l.length):Zab m (l.take (k+1))=Zab m (l.take k)++Zbs (m+Zag (l.take k)) l[k]:=by
 rw[List.take_succ_eq_append_getElem h,Zd3];simp[Zab]
structure Gr2(w w':World)(B:Nat)(row:Option Nat):Prop where
 os:w'.os=w.os
 tape:w'.tape=w.tape
 output:w'.output=w.output
 size:w.heap.size<=w'.heap.size
 block:∀i,i<w.heap.size->i≠B->some i≠row->w'.heap[i]?=w.heap[i]?
theorem Gr2.refl(w:World)(B:Nat)(row:Option Nat):Gr2 w w B row:=⟨rfl,rfl,rfl,Nat.le_refl _,λ_ _ _ _=>rfl⟩
theorem Gr2.trans{a b c:World}{B:Nat}{row row':Option Nat}(h:Gr2 a b B row)(k:Gr2 b c B row')(hr:∀j,row'=some j->a.heap.size<=j\/row=some j):Gr2 a c B row:=
 ⟨k.os.trans h.os,k.tape.trans h.tape,k.output.trans h.output,Nat.le_trans h.size k.size,λi hi h1 h2=>by
  rw[k.block i (Nat.lt_of_lt_of_le hi h.size) h1 (λe=>by
   rcases hr i e.symm with h3|h3
   .omega
   exact h2 h3.symm)]
  exact h.block i hi h1 h2⟩
theorem Gr2.of_below{w w':World}(h:Ybw w w')(B:Nat)(row:Option Nat):Gr2 w w' B row:=⟨h.os,h.tape,h.output,h.size,λi hi _ _=>h.block i hi⟩
theorem Gr2.setCell{a w:World}{B:Nat}{row:Option Nat}(h:Gr2 a w B row)(i:Nat)(v:Value):Gr2 a (w.setCell ⟨B,i,none⟩ v) B row:=
 ⟨h.os,h.tape,h.output,by simpa using h.size,λj hj h1 h2=>by rw[Below.heap_setCell w ⟨B,i,none⟩ v j h1];exact h.block j hj h1 h2⟩
theorem Gr2.grown{a w w':World}{B:Nat}{row row':Option Nat}(h:Gr2 a w B row)(hg:w.grownBy w' row')(hr:∀j,row'=some j->a.heap.size<=j\/row=some j):Gr2 a w' B row:=
 ⟨hg.os.trans h.os,hg.tape.trans h.tape,hg.output.trans h.output,Nat.le_trans h.size hg.size,λi hi h1 h2=>by
  rw[hg.block i (Nat.lt_of_lt_of_le hi h.size) (λe=>by
   rcases hr i e.symm with h3|h3
   .omega
   exact h2 h3.symm)]
  exact h.block i hi h1 h2⟩
theorem Gr2.isin{K:Kn}{w w':World}{B:Nat}{row:Option Nat}(h:Gr2 w w' B row)(hK:K.In w)(hB:K B=none)(hr:∀g,row=some g->K g=none):K.In w':=λb o e=>by
 rw[h.block b (hK.lt e) (λe2=>by rw[e2,hB] at e;cases e) (λe2=>by rw[hr b e2.symm] at e;cases e)];exact hK b o e
theorem Zic(R:REnv)(r:Inst):∀(l:List Ex) (m k:Nat) (h:k<l.length),Zaz R r m (k+1) l=((Zaz R r m k l).1++[(Za6 R r (m+Zag (l.take k)) l[k]).1],(Zaz R r m k l).2 || (Za6 R r (m+Zag (l.take k)) l[k]).2)
 | [],m,k,h=>by simp at h
 |e :: l,m,0,_=>by cases l<;>simp[Zaz,Zag]
 |e :: l,m,k+1,h=>by
  have:=Zic R r l (m+memN e) k (by simpa using h);simp only[Zaz,this,List.take_succ_cons,Zag,List.getElem_cons_succ,List.cons_append,Bool.or_assoc,Nat.add_assoc]
abbrev ptrV(q:Nat):Value:=.pointer (some ⟨q,0,none⟩)
def Zkp(e:Ex)(m:Nat):Int:=if e.op=oPre\/e.op=oFby then((m+Zag e.l:Nat):Int) else 0
def Za3(R:REnv)(e:Ex)(mem:Int)(lv pv:Value):Array Value:=
 #[.string e.op,.int .i64 e.n,.string e.s,lv,pv,.int .i64 (Zai R.ks e),.bool (decide (0<lateOf R.lt e)),.int .i64 (R.nm e.s),.int .i64 mem]
mutual
def NdAt(T:TypeId)(R:REnv)(H:Kn):Ex->Nat->Nat->Prop
 | .mk o n s l,m,q=>∃lv pv,H q=some (.cells (Za3 R (.mk o n s l) (Zkp (.mk o n s l) m) lv pv) T (0,0))/\
   ((l=[]/\∃a c,pv=.slice a 0 c)\/∃b off Ha,pv=.slice (some ⟨b,off,none⟩) l.length Ha/\l.length<=Ha/\Ha<=maxLen/\Zf8 T R H l m b off)
def Zf8(T:TypeId)(R:REnv)(H:Kn):List Ex->Nat->Nat->Nat->Prop
 | [],_,_,_=>True
 |e :: l,m,b,off=>(∃q,H.cell b off=some (ptrV q)/\NdAt T R H e m q)/\Zf8 T R H l (m+memN e) b (off+1)
end
theorem ndsAt_of{T:TypeId}{R:REnv}{H H':Kn}{l:List Ex}(He:H.le H')(h:∀e∈l,∀m q,NdAt T R H e m q->NdAt T R H' e m q):∀m b off,Zf8 T R H l m b off->Zf8 T R H' l m b off:=by
 induction l with
 |nil=>intro m b off _;simp only[Zf8]
 |cons e l ih=>
  intro m b off hh;simp only[Zf8] at hh ⊢;obtain⟨⟨q,h1,h2⟩,h3⟩:=hh;exact⟨⟨q,He.cell h1,h e (List.mem_cons_self ..) m q h2⟩,ih (λx hx=>h x (List.mem_cons_of_mem _ hx)) _ b _ h3⟩
theorem NdAt.le{T:TypeId}{R:REnv}{H H':Kn}(He:H.le H'):∀(e:Ex) (m q:Nat),NdAt T R H e m q->NdAt T R H' e m q:=by
 refine Ex.ind λo n s l ih m q h=>?_;simp only[NdAt] at h ⊢;obtain⟨lv,pv,h1,h2⟩:=h;refine⟨lv,pv,He _ _ h1,?_⟩;rcases h2 with ⟨hl,a,c,hp⟩|⟨b,off,Ha,hp,h3,h4,h5⟩
 .exact .inl ⟨hl,a,c,hp⟩
 exact .inr ⟨b,off,Ha,hp,h3,h4,ndsAt_of He ih m b off h5⟩
theorem Zf8.get{T:TypeId}{R:REnv}{H:Kn}:∀{l:List Ex} {m b off:Nat},Zf8 T R H l m b off->∀i (h:i<l.length),∃q,H.cell b (off+i)=some (ptrV q)/\NdAt T R H l[i] (m+Zag (l.take i)) q
 | [],_,_,_,_,i,h=>by simp at h
 |e :: l,m,b,off,hh,0,_=>by
  simp only[Zf8] at hh;simpa[Zag] using hh.1
 |e :: l,m,b,off,hh,i+1,h=>by
  simp only[Zf8] at hh;have:=Zf8.get hh.2 i (by simpa using h);simp only[List.take_succ_cons,Zag,List.getElem_cons_succ];rw[show off+(i+1)=off+1+i from by omega,<- Nat.add_assoc];exact this
theorem Zf8.mk{T:TypeId}{R:REnv}{H:Kn}:∀{l:List Ex} {m b off:Nat},(∀i (h:i<l.length),∃q,H.cell b (off+i)=some (ptrV q)/\NdAt T R H l[i] (m+Zag (l.take i)) q)->Zf8 T R H l m b off
 | [],_,_,_,_=>by simp only[Zf8]
 |e :: l,m,b,off,h=>by
  simp only[Zf8];refine⟨by have h0:=h 0 (by simp);simp only[List.take_zero,Zag,Nat.add_zero] at h0;exact h0,Zf8.mk λi hi=>?_⟩;have:=h (i+1) (by simpa using hi);simp only[List.take_succ_cons,Zag,List.getElem_cons_succ] at this;rw[show off+1+i=off+(i+1) from by omega,Nat.add_assoc];exact this
theorem NdAt.open{T:TypeId}{R:REnv}{H:Kn}{e:Ex}{m q:Nat}(h:NdAt T R H e m q):∃lv pv,H q=some (.cells (Za3 R e (Zkp e m) lv pv) T (0,0))/\∃a c,pv=.slice a e.l.length c/\
  ∀i (hi:i<e.l.length),∃b off q',a=some ⟨b,off,none⟩/\H.cell b (off+i)=some (ptrV q')/\NdAt T R H e.l[i] (m+Zag (e.l.take i)) q':=by
 obtain⟨o,n,s,l⟩:=e;simp only[NdAt] at h;obtain⟨lv,pv,h1,h2⟩:=h;refine⟨lv,pv,h1,?_⟩;simp only[Ex.l];rcases h2 with ⟨rfl,a,c,hp⟩|⟨b,off,Ha,hp,h3,h4,h5⟩
 .exact⟨a,c,hp,λi hi=>by simp at hi⟩
 refine⟨_,Ha,hp,λi hi=>?_⟩;obtain⟨q',h6,h7⟩:=h5.get i hi;exact⟨b,off,q',rfl,h6,h7⟩
abbrev NdsV(T:TypeId)(R:REnv)(H:Kn):List (Ex×Nat)->Value->Prop:=SlV H 1 λx f=>∃q,f 0=some (ptrV q)/\NdAt T R H x.1 x.2 q
theorem NdsV.le{T:TypeId}{R:REnv}{H H':Kn}(He:H.le H'){l:List (Ex×Nat)}{v:Value}(h:NdsV T R H l v):NdsV T R H' l v:=
 SlV.le h He λx f g hfg ⟨q,h1,h2⟩=>⟨q,hfg _ _ h1,NdAt.le He _ _ _ h2⟩
def VlC(x:Vl)(f:Nat->Option Value):Prop:=f 0=some (.int .i64 x.kind)/\f 1=some (.int .i64 x.n)
abbrev VlsV(H:Kn):List Vl->Value->Prop:=SlV H 2 VlC
abbrev vlV(x:Vl):Value:=.agg #[.int .i64 x.kind,.int .i64 x.n]
theorem VlC.mono(x:Vl)(f g:Nat->Option Value)(h:∀j u,f j=some u->g j=some u)(hx:VlC x f):VlC x g:=⟨h _ _ hx.1,h _ _ hx.2⟩
def vlX(l:List Vl):List Value:=l.flatMap λv=>[.int .i64 v.kind,.int .i64 v.n]
theorem Zja(l:List Vl):(vlX l).length=2 * l.length:=by
 unfold vlX
 induction l with
 |nil=>rfl
 |cons a l ih=>simp only[List.flatMap_cons,List.length_append,List.length_cons,List.length_nil,ih];omega
theorem Zen:∀(l:List Vl) (i:Nat) (h:i<l.length),(vlX l)[2 * i]?=some (.int .i64 l[i].kind)/\(vlX l)[2 * i+1]?=some (.int .i64 l[i].n)
 |a :: l,0,_=>by simp[vlX]
 |a :: l,i+1,h=>by
  have:=Zen l i (by simpa using h);simp only[vlX,List.flatMap_cons,List.getElem_cons_succ] at this ⊢;rw[show 2 * (i+1)=2 * i+2 from by omega];simpa using this
theorem Zal{W:World}{b:Nat}{x y:Value}{t:TypeId}(h:W.heap[b]?=some (.cells #[x,y] t (0,0))):
  W.cell? ⟨b,0,none⟩=some x/\W.cell? ⟨b,1,none⟩=some y/\W.frozen? ⟨b,0,none⟩=false/\W.frozen? ⟨b,1,none⟩=false/\b<W.heap.size:=
 ⟨by simp[World.cell?,h],by simp[World.cell?,h],by simp[World.frozen?,h],by simp[World.frozen?,h],(Zlt h)⟩
theorem Zbb{W:World}{b:Nat}{x y:Value}{t:TypeId}(h:W.heap[b]?=some (.cells #[x,y] t (0,0)))(u v:Value):
  (W.setCell ⟨b,0,none⟩ u).cell? ⟨b,0,none⟩=some u/\((W.setCell ⟨b,0,none⟩ u).setCell ⟨b,1,none⟩ v).cell? ⟨b,1,none⟩=some v/\
  (∀o,(((W.setCell ⟨b,0,none⟩ u).setCell ⟨b,1,none⟩ v).alloc o).cell? ⟨b,0,none⟩=some u)/\(∀o,(((W.setCell ⟨b,0,none⟩ u).setCell ⟨b,1,none⟩ v).alloc o).cell? ⟨b,1,none⟩=some v):=by
 have h1:(W.setCell ⟨b,0,none⟩ u).heap[b]?=some (.cells #[u,y] t (0,0)):=by
  show(W.heap.modify b _)[b]?=_;rw[Array.getElem?_modify,if_pos rfl,h];rfl
 have h2:((W.setCell ⟨b,0,none⟩ u).setCell ⟨b,1,none⟩ v).heap[b]?=some (.cells #[u,v] t (0,0)):=by
  generalize W.setCell ⟨b,0,none⟩ u=W1 at *;show(W1.heap.modify b _)[b]?=_;rw[Array.getElem?_modify,if_pos rfl,h1];rfl
 refine⟨by simp[World.cell?,h1],by simp[World.cell?,h2],λo=>?_,λo=>?_⟩
 .rw [World.cell?_alloc_past _ _ _ (Zlt h2)];simp[World.cell?,h2]
 rw[World.cell?_alloc_past _ _ _ (Zlt h2)];simp[World.cell?,h2]
theorem Zb0{base b:Nat}{w W:World}(h:Below base w W)(hb:base<=b)(u v:Value):Below base w ((W.setCell ⟨b,0,none⟩ u).setCell ⟨b,1,none⟩ v):=
 (h.setCell (p:=⟨b,0,none⟩) hb u).setCell (p:=⟨b,1,none⟩) hb v
theorem mFlA1{p:Prop}(h:p:=by
 rw[hr];go_enter Tryz.func43,Tryz.ntmps43;go_wp2_with fail;go_ret
 first|exact⟨rfl,hb⟩|exact⟨Za7 (by simp_all),hb⟩):p:=h
theorem Zd5(b:Bool)(w:World):Calls Tryz.prog 44 #[.bool b] w λe w'=>e=.returned (vlV (tv b))/\Ybw w w':=by
 cases b
 all_goals
  go_enter Tryz.func44,Tryz.ntmps44;go_wp2_with fail
 .refine bodyPost_ret (v:=.agg #[.int .i64 1,.int .i64 0]) (by simp[results,Tryz.results44,go_sem]) rfl ?_;exact⟨rfl,Yba⟩
 refine bodyPost_ret (v:=.agg #[.int .i64 1,.int .i64 1]) (by simp[results,Tryz.results44,go_sem]) rfl ?_;exact⟨rfl,Yba⟩
theorem wrap8(n:Int):IntKind.wrap .i8 n=Zdt n:=by
 show(if (true&&decide (n % 256≥128))=true then n % 256 - 256 else n % 256)=Zdt n;unfold Zdt;simp
theorem wrap64(n:Int):IntKind.wrap .i64 n=if 9223372036854775808<=n % 18446744073709551616 then n % 18446744073709551616 - 18446744073709551616 else n % 18446744073709551616:=by
 show(if (true&&decide (n % 18446744073709551616≥9223372036854775808))=true then n % 18446744073709551616 - 18446744073709551616 else n % 18446744073709551616)=_;simp
abbrev fnV(f:Nat):Value:=.func (.func f) #[] #[]
theorem Zie{P:Program}{w:World}{ops:Array Oper}{rest:List Oper}{o:Oper}{a:Act}{Q:Exit->Act->World->Prop}{α:Type}(V:α->Value)(t k e:TypeId)(ht:P.underlying t=some (.map k e))(hk:P.underlying k=some .string)(b:Nat)(m:Env α)(hM:Zay V w b m)
  (x y z:Operand) (hg:o.guard=none) (yI:o.op=Op.insert t x y z) (hx:a.eval x=.map (some b)) (s:ByteArray) (hy:a.eval y=.string s) (u:α) (hz:a.eval z=V u)
  (hK:∀w',Zay V w' b (m.set s u)->Zcq w w' b->wpList P ops Q rest (a.put o.dst undef) w'):wpList P ops Q (o :: rest) a w:=by
 refine wpList_plain hg λK' hK'=>?_;obtain⟨ob,Ht,hM'⟩:=hM.run_set ht hk s u;unfold Oper.wp;simp[execOp,yI,hx,hy,hz,Ht,Result.andThen];exact hK' _ _ (hK _ hM' ⟨ob,rfl⟩)
def Zgx:Env Value:=((((Env.none.set oLt (fnV 131)).set oLe (fnV 132)).set oGt (fnV 133)).set oGe (fnV 134))
theorem Zif(w:World):Calls Tryz.prog 126 #[] w λe w'=>∃b,e=.returned (.map (some b))/\Zay (λx=>x) w' b Zgx/\Ybw w w':=by
 have zX:=@run_makeMap Tryz.prog;have hM0:=Zay.made (λx:Value=>x) w;have hB0:Ybw w (w.alloc (.map #[] 0)):=Yba;go_enter Tryz.func126,Tryz.ntmps126;go_wp2_with(refine Zie (λx=>x) 244 9 242 Tryz.underlying244 Tryz.underlying9 w.heap.size _ (by assumption) _ _ _ rfl rfl rfl _ rfl _ rfl ?_;intro wn yL hTn;have hBn:=hTn.below (by assumption) Ylr);go_ret;exact⟨_,rfl,by assumption,by assumption⟩
def Zi7:Env Value:=((((Env.none.set oAnd (fnV 135)).set oOr (fnV 136)).set oXor (fnV 137)).set oImp (fnV 138))
theorem bools_any(w:World):Calls Tryz.prog 127 #[] w λe w'=>∃b,e=.returned (.map (some b))/\Zay (λx=>x) w' b Zi7/\Ybw w w':=by
 have zX:=@run_makeMap Tryz.prog;have hM0:=Zay.made (λx:Value=>x) w;have hB0:Ybw w (w.alloc (.map #[] 0)):=Yba;go_enter Tryz.func127,Tryz.ntmps127;go_wp2_with(refine Zie (λx=>x) 248 9 246 Tryz.underlying248 Tryz.underlying9 w.heap.size _ (by assumption) _ _ _ rfl rfl rfl _ rfl _ rfl ?_;intro wn yL hTn;have hBn:=hTn.below (by assumption) Ylr);go_ret;exact⟨_,rfl,by assumption,by assumption⟩
def intsEnv:Env Value:=(((((Env.none.set oAdd (fnV 139)).set oSub (fnV 140)).set oMul (fnV 141)).set oDiv (fnV 142)).set oMod (fnV 143))
theorem ints_any(w:World):Calls Tryz.prog 128 #[] w λe w'=>∃b,e=.returned (.map (some b))/\Zay (λx=>x) w' b intsEnv/\Ybw w w':=by
 have zX:=@run_makeMap Tryz.prog;have hM0:=Zay.made (λx:Value=>x) w;have hB0:Ybw w (w.alloc (.map #[] 0)):=Yba;go_enter Tryz.func128,Tryz.ntmps128;go_wp2_with(refine Zie (λx=>x) 251 9 250 Tryz.underlying251 Tryz.underlying9 w.heap.size _ (by assumption) _ _ _ rfl rfl rfl _ rfl _ rfl ?_;intro wn yL hTn;have hBn:=hTn.below (by assumption) Ylr);go_ret;exact⟨_,rfl,by assumption,by assumption⟩
theorem whole_any(n:Int)(w:World):Calls Tryz.prog 125 #[.int .i64 n] w λe w'=>e=.returned (vlV (wv n))/\Ybw w w':=by
 have hr:IntKind.wrap .i64 (IntKind.wrap .i8 n)=Zdt n:=by
  rw[wrap8,wrap64];unfold Zdt
  split<;>split<;>omega
 go_enter Tryz.func125,Tryz.ntmps125;go_wp2_with fail;refine bodyPost_ret (v:=vlV (wv n)) (by simp[results,Tryz.results125,go_sem,hr,wv]) rfl ?_;exact⟨rfl,Yba⟩
theorem right_any(v:Vl)(k:Int)(w:World):Calls Tryz.prog 43 #[vlV v,.int .i64 k] w λe w'=>e=.returned (.bool (Zaq v k))/\Ybw w w':=by
 obtain⟨vk,vn⟩:=v;have hb:Ybw w (w.alloc (.cells #[.int .i64 vk,.int .i64 vn] 101)):=Yba;by_cases h1:vk=k
 .subst h1;by_cases h2:vk=1
  .subst h2;by_cases h3:vn=0
   .subst h3;have hr:Zaq ⟨1,0⟩ 1=true:=by simp[Zaq]
    exact mFlA1
   by_cases h4:vn=1
   .subst h4;have hr:Zaq ⟨1,1⟩ 1=true:=by simp[Zaq]
    exact mFlA1
   have hr:Zaq ⟨1,vn⟩ 1=false:=by simp[Zaq,h3,h4]
   exact mFlA1
  by_cases h3:vk=2
  .subst h3;by_cases h4 : -128<=vn
   .by_cases h5:vn<=127
    .have hr:Zaq ⟨2,vn⟩ 2=true:=by simp[Zaq,h4,h5]
     exact mFlA1
    have hr:Zaq ⟨2,vn⟩ 2=false:=by simp[Zaq,h5]
    exact mFlA1
   have hr:Zaq ⟨2,vn⟩ 2=false:=by simp[Zaq,h4]
   exact mFlA1
  have hr:Zaq ⟨vk,vn⟩ vk=false:=by simp[Zaq,h2,h3]
  exact mFlA1
 have hr:Zaq ⟨vk,vn⟩ k=false:=by simp[Zaq,h1]
 exact mFlA1
theorem fn_lt(a b:Int)(w:World):Calls Tryz.prog 131 #[.int .i64 a,.int .i64 b] w λe w'=>e=.returned (.bool (decide (a<b)))/\w=w':=by
 go_enter Tryz.func131,Tryz.ntmps131;go_wp2
 go_ret;exact⟨rfl,rfl⟩
theorem fn_le(a b:Int)(w:World):Calls Tryz.prog 132 #[.int .i64 a,.int .i64 b] w λe w'=>e=.returned (.bool (decide (a<=b)))/\w=w':=by
 go_enter Tryz.func132,Tryz.ntmps132;go_wp2
 go_ret;exact⟨rfl,rfl⟩
theorem fn_gt(a b:Int)(w:World):Calls Tryz.prog 133 #[.int .i64 a,.int .i64 b] w λe w'=>e=.returned (.bool (decide (b<a)))/\w=w':=by
 go_enter Tryz.func133,Tryz.ntmps133;go_wp2
 go_ret;exact⟨rfl,rfl⟩
theorem fn_ge(a b:Int)(w:World):Calls Tryz.prog 134 #[.int .i64 a,.int .i64 b] w λe w'=>e=.returned (.bool (decide (b<=a)))/\w=w':=by
 go_enter Tryz.func134,Tryz.ntmps134;go_wp2
 go_ret;exact⟨rfl,rfl⟩
theorem fn_add(a b:Int)(w:World):Calls Tryz.prog 139 #[.int .i64 a,.int .i64 b] w λe w'=>e=.returned (.int .i64 (RowKit.wrap64 (a+b)))/\w=w':=by
 go_enter Tryz.func139,Tryz.ntmps139;go_wp2
 go_ret;exact⟨rfl,rfl⟩
theorem fn_sub(a b:Int)(w:World):Calls Tryz.prog 140 #[.int .i64 a,.int .i64 b] w λe w'=>e=.returned (.int .i64 (RowKit.wrap64 (a - b)))/\w=w':=by
 go_enter Tryz.func140,Tryz.ntmps140;go_wp2
 go_ret;exact⟨rfl,rfl⟩
theorem fn_mul(a b:Int)(w:World):Calls Tryz.prog 141 #[.int .i64 a,.int .i64 b] w λe w'=>e=.returned (.int .i64 (RowKit.wrap64 (a * b)))/\w=w':=by
 go_enter Tryz.func141,Tryz.ntmps141;go_wp2
 go_ret;exact⟨rfl,rfl⟩
theorem fn_div(a b:Int)(h:b≠0)(w:World):Calls Tryz.prog 142 #[.int .i64 a,.int .i64 b] w λe w'=>e=.returned (.int .i64 (RowKit.wrap64 (a.tdiv b)))/\w=w':=by
 go_enter Tryz.func142,Tryz.ntmps142;go_wp2
 go_ret;exact⟨rfl,rfl⟩
theorem fn_mod(a b:Int)(h:b≠0)(w:World):Calls Tryz.prog 143 #[.int .i64 a,.int .i64 b] w λe w'=>e=.returned (.int .i64 (a.tmod b))/\w=w':=by
 go_enter Tryz.func143,Tryz.ntmps143;go_wp2
 go_ret;exact⟨rfl,rfl⟩
theorem fn_and(a b:Bool)(w:World):Calls Tryz.prog 135 #[.bool a,.bool b] w λe w'=>e=.returned (.bool (a&&b))/\w=w':=by
 cases a<;>cases b
 all_goals
  go_enter Tryz.func135,Tryz.ntmps135;go_wp2
  go_ret;exact⟨rfl,rfl⟩
theorem fn_or(a b:Bool)(w:World):Calls Tryz.prog 136 #[.bool a,.bool b] w λe w'=>e=.returned (.bool (a || b))/\w=w':=by
 cases a<;>cases b
 all_goals
  go_enter Tryz.func136,Tryz.ntmps136;go_wp2
  go_ret;exact⟨rfl,rfl⟩
theorem fn_xor(a b:Bool)(w:World):Calls Tryz.prog 137 #[.bool a,.bool b] w λe w'=>e=.returned (.bool (a != b))/\w=w':=by
 cases a<;>cases b
 all_goals
  go_enter Tryz.func137,Tryz.ntmps137;go_wp2
  go_ret;exact⟨rfl,rfl⟩
theorem fn_imp(a b:Bool)(w:World):Calls Tryz.prog 138 #[.bool a,.bool b] w λe w'=>e=.returned (.bool (!a || b))/\w=w':=by
 cases a<;>cases b
 all_goals
  go_enter Tryz.func138,Tryz.ntmps138;go_wp2
  go_ret;exact⟨rfl,rfl⟩
theorem around_wrap64(n:Int):Zdt (RowKit.wrap64 n)=Zdt n:=by
 unfold Zdt RowKit.wrap64;have:((n+9223372036854775808) % 18446744073709551616 - 9223372036854775808) % 256=n % 256:=by omega
 rw[this]
end Go.Proofs.YtafapnolamcdmaaGreatDoor
