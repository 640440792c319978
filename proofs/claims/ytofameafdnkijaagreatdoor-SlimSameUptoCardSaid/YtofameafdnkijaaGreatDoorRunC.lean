/- A right flat program, made ready: names, lates, what is remembered: no program in sight. -/
import Derived.Test.YtofameafdnkijaaGreatDoorLateA
import Derived.Test.YtofameafdnkijaaGreatDoorOiP
import Derived.Test.YtofameafdnkijaaGreatDoorOrd
import Derived.Test.YtofameafdnkijaaGreatDoorRg
import Derived.Test.YtofameafdnkijaaGreatDoorMap
import Derived.WalkSpells
set_option linter.all false
namespace Go.Proofs.YtofameafdnkijaaGreatDoor
set_option maxRecDepth 100000
set_option maxHeartbeats 16000000
open Mx
theorem Zjw:∀ (l:List Fl) (late:ByteArray→Int) (b:Bool) (s:ByteArray),late s≤(Zar l late b).1 s
 | [],late,b,s=>Int.le_refl _
 | f :: l,late,b,s=>by
  simp only [Zar]
  split
  ·refine Int.le_trans ?_ (Zjw l _ _ s)
   unfold setL
   split
   ·rename_i h e;rw [e];omega
   omega
  exact Zjw l late b s
theorem setL_bound {late:ByteArray→Int} (hb:∀ s,0≤late s∧late s≤2) (e:Ex) (k:ByteArray):∀ s,0≤setL late k (Zac late e) s∧setL late k (Zac late e) s≤2:=fun s=>by
 unfold setL
 split
 ·exact Zbj late hb e
 exact hb s
theorem Zfj:∀ (l:List Fl) (late:ByteArray→Int) (b:Bool),(∀ s,0≤late s∧late s≤2)→∀ s,0≤(Zar l late b).1 s∧(Zar l late b).1 s≤2
 | [],late,b,hb,s=>hb s
 | f :: l,late,b,hb,s=>by
  simp only [Zar]
  split
  ·exact Zfj l _ _ (setL_bound hb f.e f.name) s
  exact Zfj l late b hb s
theorem round_gain:∀ (l:List Fl) (late:ByteArray→Int),(Zar l late false).2=true→∃ f∈l,late f.name<(Zar l late false).1 f.name
 | [],late,h=>by simp [Zar] at h
 | f :: l,late,h=>by
  simp only [Zar] at h ⊢
  split
  ·rename_i hlt
   refine⟨f,List.mem_cons_self ..,Int.lt_of_lt_of_le hlt ?_⟩
   have:=Zjw l (setL late f.name (Zac late f.e)) true f.name
   simpa [setL] using this
  rename_i hlt
  rw [if_neg hlt] at h
  obtain⟨g,hg,h2⟩:=round_gain l late h
  exact⟨g,List.mem_cons_of_mem _ hg,h2⟩
theorem round_none:∀ (l:List Fl) (late:ByteArray→Int),(Zar l late false).2=false→(Zar l late false).1=late∧∀ f∈l,Zac late f.e≤late f.name
 | [],late,_=>⟨rfl,fun f hf=>by cases hf⟩
 | f :: l,late,h=>by
  simp only [Zar] at h ⊢
  split
  ·rename_i hlt
   rw [if_pos hlt,namesRound_more] at h
   cases h
  rename_i hlt
  rw [if_neg hlt] at h
  obtain⟨a,b⟩:=round_none l late h
  refine⟨a,fun g hg=>?_⟩
  rcases List.mem_cons.1 hg with rfl | hg
  ·omega
  exact b g hg
theorem namesN_fix (l:List Fl):∀ (f:Nat) (late:ByteArray→Int),(∀ s,0≤late s∧late s≤2)→mu late l<f→(∀ s,0≤Zf3 l f late s∧Zf3 l f late s≤2)∧∀ g∈l,Zac (Zf3 l f late) g.e≤Zf3 l f late g.name
 | 0,late,_,h=>by omega
 | f+1,late,hb,h=>by
  rw [namesN_step]
  cases hr:(Zar l late false).2 with
  | true=>
   simp only [if_true]
   obtain⟨g,hg,hlt⟩:=round_gain l late hr
   have:=mu_lt late _ (Zjw l late false) (fun s=>(Zfj l late false hb s).2) l g hg hlt
   exact namesN_fix l f _ (Zfj l late false hb) (by omega)
  | false=>
   simp only [Bool.false_eq_true,if_false]
   obtain⟨a,b⟩:=round_none l late hr
   rw [a]
   exact⟨hb,b⟩
theorem Zbc (p:Pr):(∀ s,0≤Zaa p s∧Zaa p s≤2)∧∀ g∈p.fl,Zac (Zaa p) g.e≤Zaa p g.name:=
 namesN_fix p.fl _ _ (fun s=>⟨by simp,by simp⟩) (by rw [mu_zero];omega)
def Zcu:Nat→Env Int→List Vr→Env Int
 | _,m,[]=>m
 | i,m,v :: l=>Zcu (i+1) (m.set v.name (-1 - (i:Int))) l
def Zc5:Nat→Env Int→List Fl→Env Int
 | _,m,[]=>m
 | i,m,f :: l=>Zc5 (i+1) (m.set f.name (i:Int)) l
def Zaj (p:Pr):Env Int:=Zc5 0 (Zcu 0 Env.none p.ins) p.fl
theorem Zeq:∀ (l:List Fl) (i:Nat) (m:Env Int) (s:ByteArray),s∉l.map (·.name)→Zc5 i m l s=m s
 | [],i,m,s,_=>rfl
 | f :: l,i,m,s,h=>by
  simp only [List.map_cons,List.mem_cons,not_or] at h
  rw [Zc5,Zeq l _ _ s h.2,Env.set_other _ _ h.1]
theorem flNames_in:∀ (l:List Fl) (i:Nat) (m:Env Int),(l.map (·.name)).Nodup→∀ k (h:k<l.length),Zc5 i m l l[k].name=some ((i+k:Nat):Int)
 | [],i,m,_,k,h=>by simp at h
 | f :: l,i,m,hn,0,h=>by
  rw [List.map_cons,List.nodup_cons] at hn
  simp only [List.getElem_cons_zero,Zc5]
  rw [Zeq l _ _ _ hn.1,Env.set_self]
  rfl
 | f :: l,i,m,hn,k+1,h=>by
  rw [List.map_cons,List.nodup_cons] at hn
  simp only [List.getElem_cons_succ,Zc5]
  rw [flNames_in l (i+1) _ hn.2 k (by simpa using h),show i+1+k=i+(k+1) from by omega]
theorem Zi2:∀ (l:List Vr) (i:Nat) (m:Env Int) (s:ByteArray),(s∈l.map (·.name)∨∃ j:Nat,m s=some (-1 - (j:Int)))→∃ j:Nat,Zcu i m l s=some (-1 - (j:Int))
 | [],i,m,s,h=>h.elim (fun h=>by simp at h) id
 | v :: l,i,m,s,h=>by
  rw [Zcu]
  refine Zi2 l (i+1) _ s ?_
  by_cases e:s=v.name
  ·exact .inr ⟨i,by rw [e,Env.set_self]⟩
  rcases h with h | ⟨j,h⟩
  ·simp only [List.map_cons,List.mem_cons] at h
   exact .inl (h.resolve_left e)
  exact .inr ⟨j,by rw [Env.set_other _ _ e];exact h⟩
theorem Zeh {s:ByteArray}:∀ (l:List (ByteArray×Int)) (m0 m:Env Int),Zas m0 l=some m→(m s).isSome=true→(m0 s).isSome=true∨s∈l.map (·.1)
 | [],m0,m,h,hs=>by simp only [Zas] at h;cases h;exact .inl hs
 | y :: l,m0,m,h,hs=>by
  simp only [Zas] at h
  split at h
  ·rcases Zeh l _ _ h hs with h1 | h1
   ·by_cases e:s=y.1
    ·exact .inr (by simp [e])
    rw [Env.set_other _ _ e] at h1;exact .inl h1
   exact .inr (List.mem_cons_of_mem _ h1)
  cases h
def nfOf (p:Pr) (k:Nat):ByteArray:=(p.fl.map (·.name)).getD k ⟨#[]⟩
theorem Zey {p:Pr} (hck:Zak p=0) (k:Nat) (h:k<p.fl.length):getI (Zaj p) p.fl[k].name=(k:Int):=by
 unfold getI Zaj
 rw [flNames_in p.fl 0 _ (Zct hck) k h]
 simp
theorem nm_of {p:Pr} (hck:Zak p=0) {ks:Env Int} (hks:Zas Env.none p.vars=some ks) (s:ByteArray) (h1:(ks s).isSome=true) (h2:0≤getI (Zaj p) s):s=nfOf p (getI (Zaj p) s).toNat:=by
 rcases Zeh _ _ _ hks h1 with h | h
 ·simp [Env.none] at h
 by_cases hf:s∈p.fl.map (·.name)
 ·obtain⟨k,hk,e⟩:=List.mem_iff_getElem.1 hf
  have hk':k<p.fl.length:=by simpa using hk
  have e':p.fl[k].name=s:=by simpa using e
  have:=Zey hck k hk'
  rw [e'] at this
  rw [this]
  simp [nfOf,List.getD_eq_getElem?_getD,hk',e']
 have hi:s∈p.ins.map (·.name):=by
  simp only [Pr.vars,List.map_append,List.map_map,List.mem_append] at h
  rcases h with h | h
  ·exact h
  exact absurd h hf
 obtain⟨j,hj⟩:=Zi2 p.ins 0 Env.none s (.inl hi)
 unfold getI Zaj at h2
 rw [Zeq _ _ _ _ hf,hj] at h2
 simp at h2
 omega
theorem late_parts {lt:ByteArray→Int} (hb:∀ s,0≤lt s∧lt s≤2) {ks:Env Int} {o:ByteArray} {n:Int} {s:ByteArray} {l:List Ex} (hf:Zad ks (.mk o n s l)=true) (h:Zac lt (.mk o n s l)≤1):
  (∀ e∈l,Zac lt e≤1)∧(o=oPre∨o=oFby→∀ d,Zac lt (l.getLastD d)=0):=by
 obtain⟨_,hfby,harr,hpre,_⟩:=Zaz hf
 have hlate:Zac lt (.mk o n s l)=if o=Zbg then lt s else if o=oPre then min 2 ((Zan lt l).getD 0 0+1) else if o=Zbq∨o=oFby then (let b:=if o=oFby then min 2 ((Zan lt l).getD 1 0+1) else (Zan lt l).getD 1 0;if b=2 then 2 else (Zan lt l).getD 0 0) else (Zan lt l).foldl max 0:=by rw [Zac]
 rw [hlate] at h
 by_cases e3:o=Zbg
 ·subst e3
  have hl:l=[]:=by
   cases l with
   | nil=>rfl
   | cons a t=>
    have h9:Zcv Zbg=some 0:=by decide
    simp only [Zad,form,Ex.op,Ex.l,h9,Bool.and_eq_true,List.length_cons] at hf
    have h8:=hf.1.1.1.1.1
    rw [Bool.or_eq_true] at h8
    rcases h8 with h7 | h7
    ·have:=of_decide_eq_true h7;omega
    have:=of_decide_eq_true h7;omega
  subst hl
  exact⟨fun e he=>(by cases he),fun h=>absurd h (by decide)⟩
 rw [if_neg e3] at h
 by_cases e4:o=oPre
 ·have h1:=hpre e4
  match l,h1 with
  | [a],_=>
   rw [if_pos e4] at h
   have hb1:=Zbj lt hb a
   have ha:Zac lt a=0:=by
    simp only [Zan,List.getD_cons_zero] at h
    omega
   exact⟨fun e he=>by rw [List.mem_singleton.1 he];omega,fun _ d=>by simpa using ha⟩
 rw [if_neg e4] at h
 by_cases e5:o=oFby
 ·have h1:=hfby e5
  match l,h1 with
  | [a,b],_=>
   rw [if_pos (.inr e5)] at h
   dsimp only at h
   rw [if_pos e5] at h
   have hb1:=Zbj lt hb a
   have hb2:=Zbj lt hb b
   simp only [Zan,List.getD_cons_zero,List.getD_cons_succ] at h
   by_cases hc:min 2 (Zac lt b+1)=2
   ·rw [if_pos hc] at h;omega
   rw [if_neg hc] at h
   have hb0:Zac lt b=0:=by omega
   refine⟨fun e he=>?_,fun _ d=>by simpa using hb0⟩
   simp only [List.mem_cons,List.not_mem_nil,or_false] at he
   rcases he with rfl | rfl<;>omega
 have hnm:¬ (o=oPre∨o=oFby):=fun h=>h.elim e4 e5
 by_cases e6:o=Zbq
 ·have h1:=harr e6
  match l,h1 with
  | [a,b],_=>
   rw [if_pos (.inl e6)] at h
   dsimp only at h
   rw [if_neg e5] at h
   have hb2:=Zbj lt hb b
   simp only [Zan,List.getD_cons_zero,List.getD_cons_succ] at h
   by_cases hc:Zac lt b=2
   ·rw [if_pos hc] at h;omega
   rw [if_neg hc] at h
   refine⟨fun e he=>?_,fun h=>absurd h hnm⟩
   simp only [List.mem_cons,List.not_mem_nil,or_false] at he
   rcases he with rfl | rfl<;>omega
 rw [if_neg (fun h=>h.elim e6 e5)] at h
 have hall:=(Zjn _ _ _ h).2
 exact⟨fun e he=>hall _ (Zgh lt l e he),fun h=>absurd h hnm⟩
theorem Zjl {α:Type}:∀ {l:List α} {d:α},l≠[]→l.getLastD d∈l
 | [],_,h=>absurd rfl h
 | a :: l,d,_=>by
  rw [List.getLastD_cons]
  cases l with
  | nil=>simp
  | cons b l=>exact List.mem_cons_of_mem _ (Zjl (by simp))
theorem memsAt_ok {lt:ByteArray→Int} (hb:∀ s,0≤lt s∧lt s≤2) {ks:Env Int}:∀ (e:Ex),Zad ks e=true→Zac lt e≤1→∀ m,∀ x∈Ze8 m e,Zad ks x.1=true∧Zac lt x.1=0:=by
 refine Ex.ind fun o n s l ih hf h m x hx=>?_
 obtain⟨hsub,hfby,harr,hpre,_⟩:=Zaz hf
 obtain⟨hp1,hp2⟩:=late_parts hb hf h
 have hL:∀ (l:List Ex),(∀ e∈l,∀ m,∀ x∈Ze8 m e,Zad ks x.1=true∧Zac lt x.1=0)→∀ m,∀ x∈Zb9 m l,Zad ks x.1=true∧Zac lt x.1=0:=by
  intro l
  induction l with
  | nil=>intro _ m x hx;simp [Zb9] at hx
  | cons e l ihl=>
   intro hh m x hx
   simp only [Zb9,List.mem_append] at hx
   rcases hx with hx | hx
   ·exact hh e (List.mem_cons_self ..) m x hx
   exact ihl (fun y hy=>hh y (List.mem_cons_of_mem _ hy)) _ x hx
 simp only [Ze8,List.mem_append] at hx
 rcases hx with hx | hx
 ·exact hL l (fun e he=>ih e he (hsub e he) (hp1 e he)) m x hx
 split at hx
 ·rename_i ho
  rw [List.mem_singleton.1 hx]
  refine⟨hsub _ (Zjl fun e=>?_),hp2 ho _⟩
  rcases ho with ho | ho
  ·have:=hpre ho;rw [e] at this;simp at this
  have:=hfby ho;rw [e] at this;simp at this
 cases hx
theorem memsAtL_ok {lt:ByteArray→Int} (hb:∀ s,0≤lt s∧lt s≤2) {ks:Env Int}:∀ (l:List Ex),(∀ e∈l,Zad ks e=true∧Zac lt e≤1)→∀ m,∀ x∈Zb9 m l,Zad ks x.1=true∧Zac lt x.1=0
 | [],_,m,x,hx=>by simp [Zb9] at hx
 | e :: l,hh,m,x,hx=>by
  simp only [Zb9,List.mem_append] at hx
  rcases hx with hx | hx
  ·exact memsAt_ok hb e (hh e (List.mem_cons_self ..)).1 (hh e (List.mem_cons_self ..)).2 m x hx
  exact memsAtL_ok hb l (fun y hy=>hh y (List.mem_cons_of_mem _ hy)) _ x hx
theorem Zc1:∀ (l:List Ex) (m:Nat),(Zbb m l).length=l.length
 | [],_=>rfl
 | e :: l,m=>by simp [Zbb,Zc1 l]
theorem Zef:∀ (l:List Ex) (m:Nat),(Zbb m l).map (·.1)=l
 | [],_=>rfl
 | e :: l,m=>by simp [Zbb,Zef l]
theorem Zdt {l:List Ex} {m:Nat} {x:Ex×Nat} (h:x∈Zbb m l):x.1∈l:=by
 have:=List.mem_map_of_mem (f:=(·.1)) h
 rwa [Zef] at this
def cdOf (p:Pr) (ord:List Nat):Cd where
 ord:=ord
 fs:=Zbb 0 (p.fl.map (·.e))
 av:=Zbb (Zal (p.fl.map (·.e))) p.as
 cv:=Zbb (Zal (p.fl.map (·.e))+Zal p.as) p.cs
 outs:=p.outs.map (getI (Zaj p))
 ms:=Zb9 0 p.terms
theorem Zgx (fl:List ByteArray):∀ (l seen:List ByteArray),Zcy fl seen l=true→∀ s∈l,s∈fl
 | [],_,_,s,hs=>by cases hs
 | x :: l,seen,h,s,hs=>by
  simp only [Zcy,Bool.and_eq_true] at h
  rcases List.mem_cons.1 hs with rfl | hs
  ·simpa using h.1.1
  exact Zgx fl l _ h.2 s hs
theorem Zbx {p:Pr} (h:(Za0 p).1=0):∃ l,Zbu p = .ok l∧(∀ k (hk:k<p.fl.length),hit p p.fl[k].name=false)∧∀ e∈p.as++p.cs,Zac (Zaa p) e=0:=by
 cases hl:Zeo p with
 | error x=>
  rw [Zh5 hl] at h
  exact absurd h (lateM_pos hl)
 | ok r=>
  obtain⟨hr,_⟩:=lateM_ok hl
  subst hr
  have hno:∀ k (hk:k<p.fl.length),hit p p.fl[k].name=false:=by
   intro k
   induction k using Nat.strongRecOn with
   | ind k ih=>
    intro hk
    cases hh:hit p p.fl[k].name with
    | false=>rfl
    | true=>
     rw [checkM_hit hl k hk hh fun j hj hjk=>ih j hjk hj] at h
     cases h
  have he:=Zha hl hno
  rw [he] at h
  split at h
  ·cases h
  rename_i hany
  unfold Zeo at hl
  split at hl
  ·cases hl
  rename_i l ho
  refine⟨l,ho,hno,fun e hm=>?_⟩
  have:=(Zbj (Zaa p) (Zbc p).1 e).1
  by_cases h0:0<Zac (Zaa p) e
  ·exact absurd (List.any_eq_true.2 ⟨e,hm,by simpa using h0⟩) hany
  omega
theorem sortN_low {g:List (List Nat)} (hp:∀ j,j<g.length→pick g (Zdh g j [])<g.length):∀ j,j≤g.length→∀ k∈Zdh g j [],k<g.length
 | 0,_,k,hk=>by simp [Zdh] at hk
 | j+1,hj,k,hk=>by
  rw [Zh8,List.mem_append,List.mem_singleton] at hk
  rcases hk with hk | rfl
  ·exact sortN_low hp j (by omega) k hk
  exact hp j (by omega)
theorem Zbe {p:Pr} {l:List Nat} (h:Zbu p = .ok l):Zak p=0∧l.length=p.fl.length∧∀ k∈l,k<p.fl.length:=by
 unfold Zbu at h
 split at h
 ·cases h
 rename_i h0
 have hc:Zak p=0:=by simpa using h0
 split at h
 ·cases h
 rename_i hf
 cases h
 refine⟨hc,by rw [sortN_len,Zfb];simp,fun k hk=>?_⟩
 rw [← Zfb]
 refine sortN_low (Zec p hc fun j hj=>?_) _ (Nat.le_refl _) k hk
 have:=List.find?_eq_none.1 hf j (by simpa using hj)
 simpa using this
theorem cd_ok {p:Pr} (h:(Za0 p).1=0) {ks:Env Int} (hks:Zas Env.none p.vars=some ks) {l:List Nat} (ho:Zbu p = .ok l) (nb:Bool) (ni:Int):CdOk ⟨ks,Zaa p,getI (Zaj p),nb,ni⟩ ks (nfOf p) (cdOf p l):=by
 obtain⟨l',ho',hno,hac⟩:=Zbx h
 obtain⟨hck,_,hlow⟩:=Zbe ho
 obtain⟨ks',hks',hout,hfm,_,_,_,_⟩:=Zbs hck
 rw [hks] at hks'
 cases hks'
 obtain⟨hb,hfix⟩:=Zbc p
 have hform:∀ e∈p.terms,Zad ks e=true:=fun e he=>by
  obtain⟨i,hi,rfl⟩:=List.mem_iff_getElem.1 he
  exact (Zbk ks _).1 hfm i hi
 have hone:∀ k (hk:k<p.fl.length),Zaa p p.fl[k].name≤1∧(p.outs.contains p.fl[k].name=true→Zaa p p.fl[k].name=0):=fun k hk=>by
  have h1:=hno k hk
  unfold hit at h1
  simp only [Bool.or_eq_false_iff,Bool.and_eq_false_iff,decide_eq_false_iff_not] at h1
  have h2:=hb p.fl[k].name
  refine⟨by omega,fun hc=>?_⟩
  rcases h1.2 with h3 | h3
  ·omega
  rw [hc] at h3;cases h3
 have hlate:∀ e∈p.terms,Zac (Zaa p) e≤1:=fun e he=>by
  simp only [Pr.terms,List.mem_append,List.mem_map] at he
  rcases he with (⟨f,hf,rfl⟩ | he) | he
  ·obtain⟨k,hk,rfl⟩:=List.mem_iff_getElem.1 hf
   have:=hfix _ hf
   have:=(hone k hk).1
   omega
  ·rw [hac e (List.mem_append_left _ he)];omega
  rw [hac e (List.mem_append_right _ he)];omega
 refine⟨hb,fun k hk=>?_,fun s h1 h2=>nm_of hck hks s h1 h2,fun k hk=>?_,fun x hx=>?_,fun x hx=>?_,memsAtL_ok hb _ (fun e he=>⟨hform e he,hlate e he⟩) 0,fun i hi=>?_⟩
 ·show k<(Zbb 0 _).length
  rw [Zc1]
  simpa using hlow k hk
 ·have hk':k<p.fl.length:=by have h2:k<(Zbb 0 (p.fl.map (·.e))).length:=hk;rw [Zc1] at h2;simpa using h2
  have he:((cdOf p l).fs[k]).1=p.fl[k].e:=by
   have h3:=Zef (p.fl.map (·.e)) 0
   have h4:((Zbb 0 (p.fl.map (·.e))).map (·.1))[k]?=(p.fl.map (·.e))[k]?:=by rw [h3]
   simp only [List.getElem?_map] at h4
   rw [List.getElem?_eq_getElem (show k<(Zbb 0 (p.fl.map (·.e))).length from hk),List.getElem?_eq_getElem hk'] at h4
   have h5:=Option.some.inj h4
   exact h5
  rw [he]
  refine⟨hform _ (Zcg p (List.getElem_mem hk')),?_⟩
  have:nfOf p k=p.fl[k].name:=by simp [nfOf,List.getD_eq_getElem?_getD,hk']
  rw [this]
  exact hfix _ (List.getElem_mem hk')
 ·have:=Zdt hx
  exact⟨hform _ (by simp [Pr.terms,this]),hac _ (List.mem_append_left _ this)⟩
 ·have:=Zdt hx
  exact⟨hform _ (by simp [Pr.terms,this]),hac _ (List.mem_append_right _ this)⟩
 obtain⟨s,hs,rfl⟩:=List.mem_map.1 hi
 have hm:=Zgx _ _ _ hout s hs
 obtain⟨k,hk,e⟩:=List.mem_iff_getElem.1 hm
 have hk':k<p.fl.length:=by simpa using hk
 have e':p.fl[k].name=s:=by simpa using e
 have h5:=Zey hck k hk'
 rw [e'] at h5
 rw [h5]
 have:nfOf p (k:Int).toNat=p.fl[k].name:=by simp [nfOf,List.getD_eq_getElem?_getD,hk']
 rw [this]
 exact (hone k hk').2 (by rw [e'];simpa using hs)
open Go.RowKit Mx
mutual
def Zca:Nat→Ex→List (Ex×Nat)
 | m,.mk o n s l=>Zah m l++(if o=oPre∨o=oFby then [(.mk o n s l,m)] else [])
def Zah:Nat→List Ex→List (Ex×Nat)
 | _,[]=>[]
 | m,e :: l=>Zca m e++Zah (m+memN e) l
end
def Zft (x:Ex×Nat):Ex×Nat:=(x.1.l.getLastD x.1,x.2+Zal x.1.l.dropLast)
theorem Ze9:∀ (e:Ex) (m:Nat),(Zca m e).length=memN e:=by
 refine Ex.ind fun o n s l ih m=>?_
 have hL:∀ (l:List Ex),(∀ e∈l,∀ m,(Zca m e).length=memN e)→∀ m,(Zah m l).length=Zal l:=by
  intro l
  induction l with
  | nil=>intro _ m;rfl
  | cons e l ihl=>
   intro hh m
   simp only [Zah,Zal,List.length_append]
   rw [hh e (List.mem_cons_self ..),ihl fun y hy=>hh y (List.mem_cons_of_mem _ hy)]
 simp only [Zca,memN,List.length_append]
 rw [hL l ih]
 congr 1
 split<;>rfl
theorem Zbh:∀ (l:List Ex) (m:Nat),(Zah m l).length=Zal l
 | [],_=>rfl
 | e :: l,m=>by simp only [Zah,Zal,List.length_append];rw [Ze9,Zbh l]
theorem memsAt_nds:∀ (e:Ex) (m:Nat),Ze8 m e=(Zca m e).map Zft:=by
 refine Ex.ind fun o n s l ih m=>?_
 have hL:∀ (l:List Ex),(∀ e∈l,∀ m,Ze8 m e=(Zca m e).map Zft)→∀ m,Zb9 m l=(Zah m l).map Zft:=by
  intro l
  induction l with
  | nil=>intro _ m;rfl
  | cons e l ihl=>
   intro hh m
   simp only [Zah,Zb9,List.map_append]
   rw [hh e (List.mem_cons_self ..),ihl fun y hy=>hh y (List.mem_cons_of_mem _ hy)]
 simp only [Zca,Ze8,List.map_append]
 rw [hL l ih]
 congr 1
 split<;>rfl
theorem Zfn:∀ (l:List Ex) (m:Nat),Zb9 m l=(Zah m l).map Zft
 | [],_=>rfl
 | e :: l,m=>by simp only [Zah,Zb9,List.map_append];rw [memsAt_nds,Zfn l]
theorem Zch:∀ (a b:List Ex),Zal (a++b)=Zal a+Zal b
 | [],b=>by simp [Zal]
 | x :: a,b=>by simp only [List.cons_append,Zal,Zch a b];omega
theorem Zfa (l:List Ex) (k:Nat) (h:k<l.length):Zal (l.take (k+1))=Zal (l.take k)+memN l[k]:=by
 rw [List.take_succ_eq_append_getElem h,Zch]
 simp [Zal]
theorem Zc8:∀ (l:List Ex) (k:Nat),Zal (l.take k)≤Zal l:=fun l k=>by
 have:=Zch (l.take k) (l.drop k)
 rw [List.take_append_drop] at this
 omega
theorem Zd5:∀ (a b:List Ex) (m:Nat),Zah m (a++b)=Zah m a++Zah (m+Zal a) b
 | [],b,m=>by simp [Zah,Zal]
 | x :: a,b,m=>by simp only [List.cons_append,Zah,Zal,Zd5 a b,List.append_assoc,Nat.add_assoc]
theorem Zjf (l:List Ex) (k m:Nat) (h:k<l.length):Zah m (l.take (k+1))=Zah m (l.take k)++Zca (m+Zal (l.take k)) l[k]:=by
 rw [List.take_succ_eq_append_getElem h,Zd5]
 simp [Zah]
structure Gr2 (w w':World) (B:Nat) (row:Option Nat):Prop where
 os:w'.os=w.os
 tape:w'.tape=w.tape
 output:w'.output=w.output
 size:w.heap.size≤w'.heap.size
 block:∀ i,i<w.heap.size→i≠B→some i≠row→w'.heap[i]?=w.heap[i]?
theorem Gr2.refl (w:World) (B:Nat) (row:Option Nat):Gr2 w w B row:=⟨rfl,rfl,rfl,Nat.le_refl _,fun _ _ _ _=>rfl⟩
theorem Gr2.trans {a b c:World} {B:Nat} {row row':Option Nat} (h:Gr2 a b B row) (k:Gr2 b c B row') (hr:∀ j,row'=some j→a.heap.size≤j∨row=some j):Gr2 a c B row:=
 ⟨k.os.trans h.os,k.tape.trans h.tape,k.output.trans h.output,Nat.le_trans h.size k.size,fun i hi h1 h2=>by
  rw [k.block i (Nat.lt_of_lt_of_le hi h.size) h1 (fun e=>by
   rcases hr i e.symm with h3 | h3
   ·omega
   exact h2 h3.symm)]
  exact h.block i hi h1 h2⟩
theorem Gr2.of_below {w w':World} (h:Below w.heap.size w w') (B:Nat) (row:Option Nat):Gr2 w w' B row:=⟨h.os,h.tape,h.output,h.size,fun i hi _ _=>h.block i hi⟩
theorem Gr2.setCell {a w:World} {B:Nat} {row:Option Nat} (h:Gr2 a w B row) (i:Nat) (v:Value):Gr2 a (w.setCell ⟨B,i,none⟩ v) B row:=
 ⟨h.os,h.tape,h.output,by simpa using h.size,fun j hj h1 h2=>by rw [Below.heap_setCell w ⟨B,i,none⟩ v j h1];exact h.block j hj h1 h2⟩
theorem Gr2.grown {a w w':World} {B:Nat} {row row':Option Nat} (h:Gr2 a w B row) (hg:w.grownBy w' row') (hr:∀ j,row'=some j→a.heap.size≤j∨row=some j):Gr2 a w' B row:=
 ⟨hg.os.trans h.os,hg.tape.trans h.tape,hg.output.trans h.output,Nat.le_trans h.size hg.size,fun i hi h1 h2=>by
  rw [hg.block i (Nat.lt_of_lt_of_le hi h.size) (fun e=>by
   rcases hr i e.symm with h3 | h3
   ·omega
   exact h2 h3.symm)]
  exact h.block i hi h1 h2⟩
theorem Gr2.isin {K:Kn} {w w':World} {B:Nat} {row:Option Nat} (h:Gr2 w w' B row) (hK:K.In w) (hB:K B=none) (hr:∀ g,row=some g→K g=none):K.In w':=fun b o e=>by
 rw [h.block b (hK.lt e) (fun e2=>by rw [e2,hB] at e;cases e) (fun e2=>by rw [hr b e2.symm] at e;cases e)]
 exact hK b o e
theorem Zh3 (R:REnv) (r:Inst):∀ (l:List Ex) (m k:Nat) (h:k<l.length),Za1 R r m (k+1) l=((Za1 R r m k l).1++[(Zbd R r (m+Zal (l.take k)) l[k]).1],(Za1 R r m k l).2 || (Zbd R r (m+Zal (l.take k)) l[k]).2)
 | [],m,k,h=>by simp at h
 | e :: l,m,0,_=>by cases l<;>simp [Za1,Zal]
 | e :: l,m,k+1,h=>by
  have:=Zh3 R r l (m+memN e) k (by simpa using h)
  simp only [Za1,this,List.take_succ_cons,Zal,List.getElem_cons_succ,List.cons_append,Bool.or_assoc,Nat.add_assoc]
abbrev ptrV (q:Nat):Value := .pointer (some ⟨q,0,none⟩)
def Zju (e:Ex) (m:Nat):Int:=if e.op=oPre∨e.op=oFby then ((m+Zal e.l:Nat):Int) else 0
def Za4 (R:REnv) (e:Ex) (mem:Int) (lv pv:Value):Array Value:=
 #[.string e.op,.int .i64 e.n,.string e.s,lv,pv,.int .i64 (Zam R.ks e),.bool (decide (0<Zac R.lt e)),.int .i64 (R.nm e.s),.int .i64 mem]
mutual
def NdAt (T:TypeId) (R:REnv) (H:Kn):Ex→Nat→Nat→Prop
 | .mk o n s l,m,q=>∃ lv pv,H q=some (.cells (Za4 R (.mk o n s l) (Zju (.mk o n s l) m) lv pv) T (0,0))∧
   ((l=[]∧∃ a c,pv = .slice a 0 c)∨∃ b off cap,pv = .slice (some ⟨b,off,none⟩) l.length cap∧l.length≤cap∧cap≤maxLen∧Zf7 T R H l m b off)
def Zf7 (T:TypeId) (R:REnv) (H:Kn):List Ex→Nat→Nat→Nat→Prop
 | [],_,_,_=>True
 | e :: l,m,b,off=>(∃ q,H.cell b off=some (ptrV q)∧NdAt T R H e m q)∧Zf7 T R H l (m+memN e) b (off+1)
end
theorem ndsAt_of {T:TypeId} {R:REnv} {H H':Kn} {l:List Ex} (hle:H.le H') (h:∀ e∈l,∀ m q,NdAt T R H e m q→NdAt T R H' e m q):∀ m b off,Zf7 T R H l m b off→Zf7 T R H' l m b off:=by
 induction l with
 | nil=>intro m b off _;simp only [Zf7]
 | cons e l ih=>
  intro m b off hh
  simp only [Zf7] at hh ⊢
  obtain⟨⟨q,h1,h2⟩,h3⟩:=hh
  exact⟨⟨q,hle.cell h1,h e (List.mem_cons_self ..) m q h2⟩,ih (fun x hx=>h x (List.mem_cons_of_mem _ hx)) _ b _ h3⟩
theorem NdAt.le {T:TypeId} {R:REnv} {H H':Kn} (hle:H.le H'):∀ (e:Ex) (m q:Nat),NdAt T R H e m q→NdAt T R H' e m q:=by
 refine Ex.ind fun o n s l ih m q h=>?_
 simp only [NdAt] at h ⊢
 obtain⟨lv,pv,h1,h2⟩:=h
 refine⟨lv,pv,hle _ _ h1,?_⟩
 rcases h2 with ⟨hl,a,c,hp⟩ | ⟨b,off,cap,hp,h3,h4,h5⟩
 ·exact .inl ⟨hl,a,c,hp⟩
 exact .inr ⟨b,off,cap,hp,h3,h4,ndsAt_of hle ih m b off h5⟩
theorem Zf7.get {T:TypeId} {R:REnv} {H:Kn}:∀ {l:List Ex} {m b off:Nat},Zf7 T R H l m b off→∀ i (h:i<l.length),∃ q,H.cell b (off+i)=some (ptrV q)∧NdAt T R H l[i] (m+Zal (l.take i)) q
 | [],_,_,_,_,i,h=>by simp at h
 | e :: l,m,b,off,hh,0,_=>by
  simp only [Zf7] at hh
  simpa [Zal] using hh.1
 | e :: l,m,b,off,hh,i+1,h=>by
  simp only [Zf7] at hh
  have:=Zf7.get hh.2 i (by simpa using h)
  simp only [List.take_succ_cons,Zal,List.getElem_cons_succ]
  rw [show off+(i+1)=off+1+i from by omega,← Nat.add_assoc]
  exact this
theorem Zf7.mk {T:TypeId} {R:REnv} {H:Kn}:∀ {l:List Ex} {m b off:Nat},(∀ i (h:i<l.length),∃ q,H.cell b (off+i)=some (ptrV q)∧NdAt T R H l[i] (m+Zal (l.take i)) q)→Zf7 T R H l m b off
 | [],_,_,_,_=>by simp only [Zf7]
 | e :: l,m,b,off,h=>by
  simp only [Zf7]
  refine⟨by have h0:=h 0 (by simp);simp only [List.take_zero,Zal,Nat.add_zero] at h0;exact h0,Zf7.mk fun i hi=>?_⟩
  have:=h (i+1) (by simpa using hi)
  simp only [List.take_succ_cons,Zal,List.getElem_cons_succ] at this
  rw [show off+1+i=off+(i+1) from by omega,Nat.add_assoc]
  exact this
theorem NdAt.open {T:TypeId} {R:REnv} {H:Kn} {e:Ex} {m q:Nat} (h:NdAt T R H e m q):∃ lv pv,H q=some (.cells (Za4 R e (Zju e m) lv pv) T (0,0))∧∃ a c,pv = .slice a e.l.length c∧
  ∀ i (hi:i<e.l.length),∃ b off q',a=some ⟨b,off,none⟩∧H.cell b (off+i)=some (ptrV q')∧NdAt T R H e.l[i] (m+Zal (e.l.take i)) q':=by
 obtain⟨o,n,s,l⟩:=e
 simp only [NdAt] at h
 obtain⟨lv,pv,h1,h2⟩:=h
 refine⟨lv,pv,h1,?_⟩
 simp only [Ex.l]
 rcases h2 with ⟨rfl,a,c,hp⟩ | ⟨b,off,cap,hp,h3,h4,h5⟩
 ·exact⟨a,c,hp,fun i hi=>by simp at hi⟩
 refine⟨_,cap,hp,fun i hi=>?_⟩
 obtain⟨q',h6,h7⟩:=h5.get i hi
 exact⟨b,off,q',rfl,h6,h7⟩
abbrev NdsV (T:TypeId) (R:REnv) (H:Kn):List (Ex×Nat)→Value→Prop:=SlV H 1 fun x f=>∃ q,f 0=some (ptrV q)∧NdAt T R H x.1 x.2 q
theorem NdsV.le {T:TypeId} {R:REnv} {H H':Kn} (hle:H.le H') {l:List (Ex×Nat)} {v:Value} (h:NdsV T R H l v):NdsV T R H' l v:=
 SlV.le h hle fun x f g hfg ⟨q,h1,h2⟩=>⟨q,hfg _ _ h1,NdAt.le hle _ _ _ h2⟩
def VlC (x:Vl) (f:Nat→Option Value):Prop:=f 0=some (.int .i64 x.kind)∧f 1=some (.int .i64 x.n)
abbrev VlsV (H:Kn):List Vl→Value→Prop:=SlV H 2 VlC
abbrev vlV (x:Vl):Value := .agg #[.int .i64 x.kind,.int .i64 x.n]
theorem VlC.mono (x:Vl) (f g:Nat→Option Value) (h:∀ j u,f j=some u→g j=some u) (hx:VlC x f):VlC x g:=⟨h _ _ hx.1,h _ _ hx.2⟩
def vlX (l:List Vl):List Value:=l.flatMap fun v=>[.int .i64 v.kind,.int .i64 v.n]
theorem vlX_len (l:List Vl):(vlX l).length=2 * l.length:=by
 unfold vlX
 induction l with
 | nil=>rfl
 | cons a l ih=>simp only [List.flatMap_cons,List.length_append,List.length_cons,List.length_nil,ih];omega
theorem Zfi:∀ (l:List Vl) (i:Nat) (h:i<l.length),(vlX l)[2 * i]?=some (.int .i64 l[i].kind)∧(vlX l)[2 * i+1]?=some (.int .i64 l[i].n)
 | a :: l,0,_=>by simp [vlX]
 | a :: l,i+1,h=>by
  have:=Zfi l i (by simpa using h)
  simp only [vlX,List.flatMap_cons,List.getElem_cons_succ] at this ⊢
  rw [show 2 * (i+1)=2 * i+2 from by omega]
  simpa using this
theorem Zay {W:World} {b:Nat} {x y:Value} {t:TypeId} (h:W.heap[b]?=some (.cells #[x,y] t (0,0))):
  W.cell? ⟨b,0,none⟩=some x∧W.cell? ⟨b,1,none⟩=some y∧W.frozen? ⟨b,0,none⟩=false∧W.frozen? ⟨b,1,none⟩=false∧b<W.heap.size:=
 ⟨by simp [World.cell?,h],by simp [World.cell?,h],by simp [World.frozen?,h],by simp [World.frozen?,h],(Zlt h)⟩
theorem Zcm {W:World} {b:Nat} {x y:Value} {t:TypeId} (h:W.heap[b]?=some (.cells #[x,y] t (0,0))) (u v:Value):
  (W.setCell ⟨b,0,none⟩ u).cell? ⟨b,0,none⟩=some u∧((W.setCell ⟨b,0,none⟩ u).setCell ⟨b,1,none⟩ v).cell? ⟨b,1,none⟩=some v∧
  (∀ o,(((W.setCell ⟨b,0,none⟩ u).setCell ⟨b,1,none⟩ v).alloc o).cell? ⟨b,0,none⟩=some u)∧(∀ o,(((W.setCell ⟨b,0,none⟩ u).setCell ⟨b,1,none⟩ v).alloc o).cell? ⟨b,1,none⟩=some v):=by
 have h1:(W.setCell ⟨b,0,none⟩ u).heap[b]?=some (.cells #[u,y] t (0,0)):=by
  show (W.heap.modify b _)[b]?=_
  rw [Array.getElem?_modify,if_pos rfl,h];rfl
 have h2:((W.setCell ⟨b,0,none⟩ u).setCell ⟨b,1,none⟩ v).heap[b]?=some (.cells #[u,v] t (0,0)):=by
  generalize W.setCell ⟨b,0,none⟩ u=W1 at *
  show (W1.heap.modify b _)[b]?=_
  rw [Array.getElem?_modify,if_pos rfl,h1];rfl
 refine⟨by simp [World.cell?,h1],by simp [World.cell?,h2],fun o=>?_,fun o=>?_⟩
 ·rw [World.cell?_alloc_past _ _ _ (Zlt h2)];simp [World.cell?,h2]
 rw [World.cell?_alloc_past _ _ _ (Zlt h2)];simp [World.cell?,h2]
theorem Zby {base b:Nat} {w W:World} (h:Below base w W) (hb:base≤b) (u v:Value):Below base w ((W.setCell ⟨b,0,none⟩ u).setCell ⟨b,1,none⟩ v):=
 (h.setCell (p:=⟨b,0,none⟩) hb u).setCell (p:=⟨b,1,none⟩) hb v
theorem mFlA1 {p:Prop} (h:p:=by
 rw [hr]
 go_enter Tryz.func76,Tryz.ntmps76
 go_wp2_with fail
 go_ret
 first | exact⟨rfl,hb⟩ | exact⟨Zb6 (by simp_all),hb⟩):p:=h
theorem Zdk (b:Bool) (w:World):Calls Tryz.prog 91 #[.bool b] w fun e w'=>e = .returned (vlV (tv b))∧Below w.heap.size w w':=by
 cases b
 all_goals
  go_enter Tryz.func91,Tryz.ntmps91
  go_wp2_with fail
 ·refine bodyPost_ret (v := .agg #[.int .i64 1,.int .i64 0]) (by simp [results,Tryz.results91,go_sem]) rfl ?_
  exact⟨rfl,(Below.refl _ _).alloc (Nat.le_refl _) _⟩
 refine bodyPost_ret (v := .agg #[.int .i64 1,.int .i64 1]) (by simp [results,Tryz.results91,go_sem]) rfl ?_
 exact⟨rfl,(Below.refl _ _).alloc (Nat.le_refl _) _⟩
theorem wrap8 (n:Int):IntKind.wrap .i8 n=Zf4 n:=by
 show (if (true&&decide (n % 256≥128))=true then n % 256 - 256 else n % 256)=Zf4 n
 unfold Zf4
 simp
theorem wrap64 (n:Int):IntKind.wrap .i64 n=if 9223372036854775808≤n % 18446744073709551616 then n % 18446744073709551616 - 18446744073709551616 else n % 18446744073709551616:=by
 show (if (true&&decide (n % 18446744073709551616≥9223372036854775808))=true then n % 18446744073709551616 - 18446744073709551616 else n % 18446744073709551616)=_
 simp
abbrev fnV (f:Nat):Value := .func (.func f) #[] #[]
theorem wp_insert {P:Program} {w:World} {ops:Array Oper} {rest:List Oper} {o:Oper} {a:Act} {Q:Exit→Act→World→Prop} {α:Type} (V:α→Value) (t k e:TypeId) (ht:P.underlying t=some (.map k e)) (hk:P.underlying k=some .string) (b:Nat) (m:Env α) (hM:Zaw V w b m)
  (x y z:Operand) (hg:o.guard=none) (hop:o.op=Op.insert t x y z) (hx:a.eval x = .map (some b)) (s:ByteArray) (hy:a.eval y = .string s) (u:α) (hz:a.eval z=V u)
  (hK:∀ w',Zaw V w' b (m.set s u)→Zcp w w' b→wpList P ops Q rest (a.put o.dst undef) w'):wpList P ops Q (o :: rest) a w:=by
 refine wpList_plain hg fun K' hK'=>?_
 obtain⟨ob,hrun,hM'⟩:=hM.run_set ht hk s u
 unfold Oper.wp
 simp [execOp,hop,hx,hy,hz,hrun,Result.andThen]
 exact hK' _ _ (hK _ hM' ⟨ob,rfl⟩)
def Zgs:Env Value:=((((Env.none.set oLt (fnV 158)).set oLe (fnV 159)).set oGt (fnV 160)).set oGe (fnV 161))
theorem Zh7 (w:World):Calls Tryz.prog 146 #[] w fun e w'=>∃ b,e = .returned (.map (some b))∧Zaw (fun x=>x) w' b Zgs∧Below w.heap.size w w':=by
 have hmm:=@run_makeMap Tryz.prog
 have hM0:=Zaw.made (fun x:Value=>x) w
 have hB0:Below w.heap.size w (w.alloc (.map #[] 0)):=(Below.refl _ _).alloc (Nat.le_refl _) _
 go_enter Tryz.func146,Tryz.ntmps146
 go_wp2_with (refine wp_insert (fun x=>x) 253 9 251 Tryz.underlying253 Tryz.underlying9 w.heap.size _ (by assumption) _ _ _ rfl rfl rfl _ rfl _ rfl ?_;intro wn hMn hTn;have hBn:=hTn.below (by assumption) (Nat.le_refl _))
 go_ret
 exact⟨_,rfl,by assumption,by assumption⟩
def Zip:Env Value:=((((Env.none.set oAnd (fnV 162)).set oOr (fnV 163)).set oXor (fnV 164)).set oImp (fnV 165))
theorem bools_any (w:World):Calls Tryz.prog 147 #[] w fun e w'=>∃ b,e = .returned (.map (some b))∧Zaw (fun x=>x) w' b Zip∧Below w.heap.size w w':=by
 have hmm:=@run_makeMap Tryz.prog
 have hM0:=Zaw.made (fun x:Value=>x) w
 have hB0:Below w.heap.size w (w.alloc (.map #[] 0)):=(Below.refl _ _).alloc (Nat.le_refl _) _
 go_enter Tryz.func147,Tryz.ntmps147
 go_wp2_with (refine wp_insert (fun x=>x) 257 9 255 Tryz.underlying257 Tryz.underlying9 w.heap.size _ (by assumption) _ _ _ rfl rfl rfl _ rfl _ rfl ?_;intro wn hMn hTn;have hBn:=hTn.below (by assumption) (Nat.le_refl _))
 go_ret
 exact⟨_,rfl,by assumption,by assumption⟩
def intsEnv:Env Value:=(((((Env.none.set oAdd (fnV 166)).set oSub (fnV 167)).set oMul (fnV 168)).set oDiv (fnV 169)).set oMod (fnV 170))
theorem ints_any (w:World):Calls Tryz.prog 148 #[] w fun e w'=>∃ b,e = .returned (.map (some b))∧Zaw (fun x=>x) w' b intsEnv∧Below w.heap.size w w':=by
 have hmm:=@run_makeMap Tryz.prog
 have hM0:=Zaw.made (fun x:Value=>x) w
 have hB0:Below w.heap.size w (w.alloc (.map #[] 0)):=(Below.refl _ _).alloc (Nat.le_refl _) _
 go_enter Tryz.func148,Tryz.ntmps148
 go_wp2_with (refine wp_insert (fun x=>x) 260 9 259 Tryz.underlying260 Tryz.underlying9 w.heap.size _ (by assumption) _ _ _ rfl rfl rfl _ rfl _ rfl ?_;intro wn hMn hTn;have hBn:=hTn.below (by assumption) (Nat.le_refl _))
 go_ret
 exact⟨_,rfl,by assumption,by assumption⟩
theorem whole_any (n:Int) (w:World):Calls Tryz.prog 145 #[.int .i64 n] w fun e w'=>e = .returned (vlV (wv n))∧Below w.heap.size w w':=by
 have hr:IntKind.wrap .i64 (IntKind.wrap .i8 n)=Zf4 n:=by
  rw [wrap8,wrap64]
  unfold Zf4
  split<;>split<;>omega
 go_enter Tryz.func145,Tryz.ntmps145
 go_wp2_with fail
 refine bodyPost_ret (v:=vlV (wv n)) (by simp [results,Tryz.results145,go_sem,hr,wv]) rfl ?_
 exact⟨rfl,(Below.refl _ _).alloc (Nat.le_refl _) _⟩
theorem right_any (v:Vl) (k:Int) (w:World):Calls Tryz.prog 76 #[vlV v,.int .i64 k] w fun e w'=>e = .returned (.bool (Zba v k))∧Below w.heap.size w w':=by
 obtain⟨vk,vn⟩:=v
 have hb:Below w.heap.size w (w.alloc (.cells #[.int .i64 vk,.int .i64 vn] 137)):=(Below.refl _ _).alloc (Nat.le_refl _) _
 by_cases h1:vk=k
 ·subst h1
  by_cases h2:vk=1
  ·subst h2
   by_cases h3:vn=0
   ·subst h3
    have hr:Zba ⟨1,0⟩ 1=true:=by simp [Zba]
    exact mFlA1
   by_cases h4:vn=1
   ·subst h4
    have hr:Zba ⟨1,1⟩ 1=true:=by simp [Zba]
    exact mFlA1
   have hr:Zba ⟨1,vn⟩ 1=false:=by simp [Zba,h3,h4]
   exact mFlA1
  by_cases h3:vk=2
  ·subst h3
   by_cases h4 : -128≤vn
   ·by_cases h5:vn≤127
    ·have hr:Zba ⟨2,vn⟩ 2=true:=by simp [Zba,h4,h5]
     exact mFlA1
    have hr:Zba ⟨2,vn⟩ 2=false:=by simp [Zba,h5]
    exact mFlA1
   have hr:Zba ⟨2,vn⟩ 2=false:=by simp [Zba,h4]
   exact mFlA1
  have hr:Zba ⟨vk,vn⟩ vk=false:=by simp [Zba,h2,h3]
  exact mFlA1
 have hr:Zba ⟨vk,vn⟩ k=false:=by simp [Zba,h1]
 exact mFlA1
theorem fn_lt (a b:Int) (w:World):Calls Tryz.prog 158 #[.int .i64 a,.int .i64 b] w fun e w'=>e = .returned (.bool (decide (a<b)))∧w=w':=by
 go_enter Tryz.func158,Tryz.ntmps158
 go_wp2
 go_ret
 exact⟨rfl,rfl⟩
theorem fn_le (a b:Int) (w:World):Calls Tryz.prog 159 #[.int .i64 a,.int .i64 b] w fun e w'=>e = .returned (.bool (decide (a≤b)))∧w=w':=by
 go_enter Tryz.func159,Tryz.ntmps159
 go_wp2
 go_ret
 exact⟨rfl,rfl⟩
theorem fn_gt (a b:Int) (w:World):Calls Tryz.prog 160 #[.int .i64 a,.int .i64 b] w fun e w'=>e = .returned (.bool (decide (b<a)))∧w=w':=by
 go_enter Tryz.func160,Tryz.ntmps160
 go_wp2
 go_ret
 exact⟨rfl,rfl⟩
theorem fn_ge (a b:Int) (w:World):Calls Tryz.prog 161 #[.int .i64 a,.int .i64 b] w fun e w'=>e = .returned (.bool (decide (b≤a)))∧w=w':=by
 go_enter Tryz.func161,Tryz.ntmps161
 go_wp2
 go_ret
 exact⟨rfl,rfl⟩
theorem fn_add (a b:Int) (w:World):Calls Tryz.prog 166 #[.int .i64 a,.int .i64 b] w fun e w'=>e = .returned (.int .i64 (RowKit.wrap64 (a+b)))∧w=w':=by
 go_enter Tryz.func166,Tryz.ntmps166
 go_wp2
 go_ret
 exact⟨rfl,rfl⟩
theorem fn_sub (a b:Int) (w:World):Calls Tryz.prog 167 #[.int .i64 a,.int .i64 b] w fun e w'=>e = .returned (.int .i64 (RowKit.wrap64 (a - b)))∧w=w':=by
 go_enter Tryz.func167,Tryz.ntmps167
 go_wp2
 go_ret
 exact⟨rfl,rfl⟩
theorem fn_mul (a b:Int) (w:World):Calls Tryz.prog 168 #[.int .i64 a,.int .i64 b] w fun e w'=>e = .returned (.int .i64 (RowKit.wrap64 (a * b)))∧w=w':=by
 go_enter Tryz.func168,Tryz.ntmps168
 go_wp2
 go_ret
 exact⟨rfl,rfl⟩
theorem fn_div (a b:Int) (h:b≠0) (w:World):Calls Tryz.prog 169 #[.int .i64 a,.int .i64 b] w fun e w'=>e = .returned (.int .i64 (RowKit.wrap64 (a.tdiv b)))∧w=w':=by
 go_enter Tryz.func169,Tryz.ntmps169
 go_wp2
 go_ret
 exact⟨rfl,rfl⟩
theorem fn_mod (a b:Int) (h:b≠0) (w:World):Calls Tryz.prog 170 #[.int .i64 a,.int .i64 b] w fun e w'=>e = .returned (.int .i64 (a.tmod b))∧w=w':=by
 go_enter Tryz.func170,Tryz.ntmps170
 go_wp2
 go_ret
 exact⟨rfl,rfl⟩
theorem fn_and (a b:Bool) (w:World):Calls Tryz.prog 162 #[.bool a,.bool b] w fun e w'=>e = .returned (.bool (a&&b))∧w=w':=by
 cases a<;>cases b
 all_goals
  go_enter Tryz.func162,Tryz.ntmps162
  go_wp2
  go_ret
  exact⟨rfl,rfl⟩
theorem fn_or (a b:Bool) (w:World):Calls Tryz.prog 163 #[.bool a,.bool b] w fun e w'=>e = .returned (.bool (a || b))∧w=w':=by
 cases a<;>cases b
 all_goals
  go_enter Tryz.func163,Tryz.ntmps163
  go_wp2
  go_ret
  exact⟨rfl,rfl⟩
theorem fn_xor (a b:Bool) (w:World):Calls Tryz.prog 164 #[.bool a,.bool b] w fun e w'=>e = .returned (.bool (a != b))∧w=w':=by
 cases a<;>cases b
 all_goals
  go_enter Tryz.func164,Tryz.ntmps164
  go_wp2
  go_ret
  exact⟨rfl,rfl⟩
theorem fn_imp (a b:Bool) (w:World):Calls Tryz.prog 165 #[.bool a,.bool b] w fun e w'=>e = .returned (.bool (!a || b))∧w=w':=by
 cases a<;>cases b
 all_goals
  go_enter Tryz.func165,Tryz.ntmps165
  go_wp2
  go_ret
  exact⟨rfl,rfl⟩
theorem around_wrap64 (n:Int):Zf4 (RowKit.wrap64 n)=Zf4 n:=by
 unfold Zf4 RowKit.wrap64
 have:((n+9223372036854775808) % 18446744073709551616 - 9223372036854775808) % 256=n % 256:=by omega
 rw [this]
end Go.Proofs.YtofameafdnkijaaGreatDoor
