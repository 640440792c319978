/- A right flat program, made ready: names, lates, what is remembered: no program in sight. -/
import Derived.Test.YtgoccoldkfpbgaaGreatDoorRunM
import Derived.Test.YtgoccoldkfpbgaaGreatDoorOrd
import Derived.Test.YtgoccoldkfpbgaaGreatDoorRg
import Derived.Test.YtgoccoldkfpbgaaGreatDoorEx
import Derived.WalkSpells
set_option linter.all false
namespace Go.Proofs.YtgoccoldkfpbgaaGreatDoor
set_option maxRecDepth 100000
set_option maxHeartbeats 16000000
open Mx
theorem Zkb:∀ (l:List Fl) (late:ByteArray→Int) (b:Bool) (s:ByteArray),late s≤(Zaq l late b).1 s
 | [],late,b,s=>Int.le_refl _
 | f :: l,late,b,s=>by
  simp only [Zaq]
  split
  ·refine Int.le_trans ?_ (Zkb l _ _ s)
   unfold setL
   split
   ·rename_i h e;rw [e];omega
   omega
  exact Zkb l late b s
theorem setL_bound {late:ByteArray→Int} (hb:∀ s,0≤late s∧late s≤2) (e:Ex) (k:ByteArray):∀ s,0≤setL late k (lateOf late e) s∧setL late k (lateOf late e) s≤2:=fun s=>by
 unfold setL
 split
 ·exact Zda late hb e
 exact hb s
theorem Zfi:∀ (l:List Fl) (late:ByteArray→Int) (b:Bool),(∀ s,0≤late s∧late s≤2)→∀ s,0≤(Zaq l late b).1 s∧(Zaq l late b).1 s≤2
 | [],late,b,hb,s=>hb s
 | f :: l,late,b,hb,s=>by
  simp only [Zaq]
  split
  ·exact Zfi l _ _ (setL_bound hb f.e f.name) s
  exact Zfi l late b hb s
theorem round_gain:∀ (l:List Fl) (late:ByteArray→Int),(Zaq l late false).2=true→∃ f∈l,late f.name<(Zaq l late false).1 f.name
 | [],late,h=>by simp [Zaq] at h
 | f :: l,late,h=>by
  simp only [Zaq] at h ⊢
  split
  ·rename_i hlt
   refine⟨f,List.mem_cons_self ..,Int.lt_of_lt_of_le hlt ?_⟩
   have:=Zkb l (setL late f.name (lateOf late f.e)) true f.name
   simpa [setL] using this
  rename_i hlt
  rw [if_neg hlt] at h
  obtain⟨g,hg,h2⟩:=round_gain l late h
  exact⟨g,List.mem_cons_of_mem _ hg,h2⟩
theorem round_none:∀ (l:List Fl) (late:ByteArray→Int),(Zaq l late false).2=false→(Zaq l late false).1=late∧∀ f∈l,lateOf late f.e≤late f.name
 | [],late,_=>⟨rfl,fun f hf=>by cases hf⟩
 | f :: l,late,h=>by
  simp only [Zaq] at h ⊢
  split
  ·rename_i hlt
   rw [if_pos hlt,namesRound_more] at h
   cases h
  rename_i hlt
  rw [if_neg hlt] at h
  obtain⟨a,b⟩:=round_none l late h
  refine⟨a,fun g hg=>?_⟩
  rcases List.mem_cons.1 hg with rfl | hg
  ·omega
  exact b g hg
theorem namesN_fix (l:List Fl):∀ (f:Nat) (late:ByteArray→Int),(∀ s,0≤late s∧late s≤2)→mu late l<f→(∀ s,0≤Zft l f late s∧Zft l f late s≤2)∧∀ g∈l,lateOf (Zft l f late) g.e≤Zft l f late g.name
 | 0,late,_,h=>by omega
 | f+1,late,hb,h=>by
  rw [Zhj]
  cases hr:(Zaq l late false).2 with
  | true=>
   simp only [if_true]
   obtain⟨g,hg,hlt⟩:=round_gain l late hr
   have:=mu_lt late _ (Zkb l late false) (fun s=>(Zfi l late false hb s).2) l g hg hlt
   exact namesN_fix l f _ (Zfi l late false hb) (by omega)
  | false=>
   simp only [Bool.false_eq_true,if_false]
   obtain⟨a,b⟩:=round_none l late hr
   rw [a]
   exact⟨hb,b⟩
theorem Zd9 (p:Pr):(∀ s,0≤Zac p s∧Zac p s≤2)∧∀ g∈p.fl,lateOf (Zac p) g.e≤Zac p g.name:=
 namesN_fix p.fl _ _ (fun s=>⟨by simp,by simp⟩) (by rw [mu_zero];omega)
def Zcf:Nat→Env Int→List Vr→Env Int
 | _,m,[]=>m
 | i,m,v :: l=>Zcf (i+1) (m.set v.name (-1 - (i:Int))) l
def Zdf:Nat→Env Int→List Fl→Env Int
 | _,m,[]=>m
 | i,m,f :: l=>Zdf (i+1) (m.set f.name (i:Int)) l
def Zai (p:Pr):Env Int:=Zdf 0 (Zcf 0 Env.none p.ins) p.fl
theorem Zdn:∀ (l:List Fl) (i:Nat) (m:Env Int) (s:ByteArray),s∉l.map (·.name)→Zdf i m l s=m s
 | [],i,m,s,_=>rfl
 | f :: l,i,m,s,h=>by
  simp only [List.map_cons,List.mem_cons,not_or] at h
  rw [Zdf,Zdn l _ _ s h.2,Env.set_other _ _ h.1]
theorem flNames_in:∀ (l:List Fl) (i:Nat) (m:Env Int),(l.map (·.name)).Nodup→∀ k (h:k<l.length),Zdf i m l l[k].name=some ((i+k:Nat):Int)
 | [],i,m,_,k,h=>by simp at h
 | f :: l,i,m,hn,0,h=>by
  rw [List.map_cons,List.nodup_cons] at hn
  simp only [List.getElem_cons_zero,Zdf]
  rw [Zdn l _ _ _ hn.1,Env.set_self]
  rfl
 | f :: l,i,m,hn,k+1,h=>by
  rw [List.map_cons,List.nodup_cons] at hn
  simp only [List.getElem_cons_succ,Zdf]
  rw [flNames_in l (i+1) _ hn.2 k (by simpa using h),show i+1+k=i+(k+1) from by omega]
theorem Zgy:∀ (l:List Vr) (i:Nat) (m:Env Int) (s:ByteArray),(s∈l.map (·.name)∨∃ j:Nat,m s=some (-1 - (j:Int)))→∃ j:Nat,Zcf i m l s=some (-1 - (j:Int))
 | [],i,m,s,h=>h.elim (fun h=>by simp at h) id
 | v :: l,i,m,s,h=>by
  rw [Zcf]
  refine Zgy l (i+1) _ s ?_
  by_cases e:s=v.name
  ·exact .inr ⟨i,by rw [e,Env.set_self]⟩
  rcases h with h | ⟨j,h⟩
  ·simp only [List.map_cons,List.mem_cons] at h
   exact .inl (h.resolve_left e)
  exact .inr ⟨j,by rw [Env.set_other _ _ e];exact h⟩
theorem Ze7 {s:ByteArray}:∀ (l:List (ByteArray×Int)) (m0 m:Env Int),Zap m0 l=some m→(m s).isSome=true→(m0 s).isSome=true∨s∈l.map (·.1)
 | [],m0,m,h,hs=>by simp only [Zap] at h;cases h;exact .inl hs
 | y :: l,m0,m,h,hs=>by
  simp only [Zap] at h
  split at h
  ·rcases Ze7 l _ _ h hs with h1 | h1
   ·by_cases e:s=y.1
    ·exact .inr (by simp [e])
    rw [Env.set_other _ _ e] at h1;exact .inl h1
   exact .inr (List.mem_cons_of_mem _ h1)
  cases h
def nfOf (p:Pr) (k:Nat):ByteArray:=(p.fl.map (·.name)).getD k ⟨#[]⟩
theorem Zhh {p:Pr} (hck:Zaj p=0) (k:Nat) (h:k<p.fl.length):getI (Zai p) p.fl[k].name=(k:Int):=by
 unfold getI Zai
 rw [flNames_in p.fl 0 _ (Zgv hck) k h]
 simp
theorem nm_of {p:Pr} (hck:Zaj p=0) {ks:Env Int} (hks:Zap Env.none p.vars=some ks) (s:ByteArray) (h1:(ks s).isSome=true) (h2:0≤getI (Zai p) s):s=nfOf p (getI (Zai p) s).toNat:=by
 rcases Ze7 _ _ _ hks h1 with h | h
 ·simp [Env.none] at h
 by_cases hf:s∈p.fl.map (·.name)
 ·obtain⟨k,hk,e⟩:=List.mem_iff_getElem.1 hf
  have hk':k<p.fl.length:=by simpa using hk
  have e':p.fl[k].name=s:=by simpa using e
  have:=Zhh hck k hk'
  rw [e'] at this
  rw [this]
  simp [nfOf,List.getD_eq_getElem?_getD,hk',e']
 have hi:s∈p.ins.map (·.name):=by
  simp only [Pr.vars,List.map_append,List.map_map,List.mem_append] at h
  rcases h with h | h
  ·exact h
  exact absurd h hf
 obtain⟨j,hj⟩:=Zgy p.ins 0 Env.none s (.inl hi)
 unfold getI Zai at h2
 rw [Zdn _ _ _ _ hf,hj] at h2
 simp at h2
 omega
theorem Zb8:∀ (l:List Ex) (m:Nat),(Zba m l).length=l.length
 | [],_=>rfl
 | e :: l,m=>by simp [Zba,Zb8 l]
theorem Zew:∀ (l:List Ex) (m:Nat),(Zba m l).map (·.1)=l
 | [],_=>rfl
 | e :: l,m=>by simp [Zba,Zew l]
theorem Zev {l:List Ex} {m:Nat} {x:Ex×Nat} (h:x∈Zba m l):x.1∈l:=by
 have:=List.mem_map_of_mem (f:=(·.1)) h
 rwa [Zew] at this
def cdOf (p:Pr) (ord:List Nat):Cd where
 ord:=ord
 fs:=Zba 0 (p.fl.map (·.e))
 av:=Zba (Zam (p.fl.map (·.e))) p.as
 cv:=Zba (Zam (p.fl.map (·.e))+Zam p.as) p.cs
 outs:=p.outs.map (getI (Zai p))
 ms:=Zck 0 p.terms
theorem Ziu (fl:List ByteArray):∀ (l seen:List ByteArray),Zb3 fl seen l=true→∀ s∈l,s∈fl
 | [],_,_,s,hs=>by cases hs
 | x :: l,seen,h,s,hs=>by
  simp only [Zb3,Bool.and_eq_true] at h
  rcases List.mem_cons.1 hs with rfl | hs
  ·simpa using h.1.1
  exact Ziu fl l _ h.2 s hs
theorem Zhu {p:Pr} (h:(Za2 p).1=0):∃ l,Zbf p = .ok l∧(∀ k (hk:k<p.fl.length),hit p p.fl[k].name=false)∧∀ e∈p.as++p.cs,lateOf (Zac p) e=0:=by
 cases hl:Zer p with
 | error x=>
  rw [Zhv hl] at h
  exact absurd h (lateM_pos hl)
 | ok r=>
  obtain⟨hr,_⟩:=lateM_ok hl
  subst hr
  have hno:∀ k (hk:k<p.fl.length),hit p p.fl[k].name=false:=by
   intro k
   induction k using Nat.strongRecOn with
   | ind k ih=>
    intro hk
    cases hh:hit p p.fl[k].name with
    | false=>rfl
    | true=>
     rw [Zje hl k hk hh fun j hj hjk=>ih j hjk hj] at h
     cases h
  have he:=Zjf hl hno
  rw [he] at h
  split at h
  ·cases h
  rename_i hany
  unfold Zer at hl
  split at hl
  ·cases hl
  rename_i l ho
  refine⟨l,ho,hno,fun e hm=>?_⟩
  have:=(Zda (Zac p) (Zd9 p).1 e).1
  by_cases h0:0<lateOf (Zac p) e
  ·exact absurd (List.any_eq_true.2 ⟨e,hm,by simpa using h0⟩) hany
  omega
theorem sortN_low {g:List (List Nat)} (hp:∀ j,j<g.length→pick g (Zcv g j [])<g.length):∀ j,j≤g.length→∀ k∈Zcv g j [],k<g.length
 | 0,_,k,hk=>by simp [Zcv] at hk
 | j+1,hj,k,hk=>by
  rw [Zf0,List.mem_append,List.mem_singleton] at hk
  rcases hk with hk | rfl
  ·exact sortN_low hp j (by omega) k hk
  exact hp j (by omega)
theorem Zbk {p:Pr} {l:List Nat} (h:Zbf p = .ok l):Zaj p=0∧l.length=p.fl.length∧∀ k∈l,k<p.fl.length:=by
 unfold Zbf at h
 split at h
 ·cases h
 rename_i h0
 have hc:Zaj p=0:=by simpa using h0
 split at h
 ·cases h
 rename_i hf
 cases h
 refine⟨hc,by rw [sortN_len,Ze6];simp,fun k hk=>?_⟩
 rw [← Ze6]
 refine sortN_low (Zin p hc fun j hj=>?_) _ (Nat.le_refl _) k hk
 have:=List.find?_eq_none.1 hf j (by simpa using hj)
 simpa using this
open Go.RowKit Mx
mutual
def Zbs:Nat→Ex→List (Ex×Nat)
 | m,.mk o n s l=>Zab m l++(if o=oPre∨o=oFby then [(.mk o n s l,m)] else [])
def Zab:Nat→List Ex→List (Ex×Nat)
 | _,[]=>[]
 | m,e :: l=>Zbs m e++Zab (m+memN e) l
end
def Zdl (x:Ex×Nat):Ex×Nat:=(x.1.l.getLastD x.1,x.2+Zam x.1.l.dropLast)
theorem Ze3:∀ (e:Ex) (m:Nat),(Zbs m e).length=memN e:=by
 refine Ex.ind fun o n s l ih m=>?_
 have hL:∀ (l:List Ex),(∀ e∈l,∀ m,(Zbs m e).length=memN e)→∀ m,(Zab m l).length=Zam l:=by
  intro l
  induction l with
  | nil=>intro _ m;rfl
  | cons e l ihl=>
   intro hh m
   simp only [Zab,Zam,List.length_append]
   rw [hh e (List.mem_cons_self ..),ihl fun y hy=>hh y (List.mem_cons_of_mem _ hy)]
 simp only [Zbs,memN,List.length_append]
 rw [hL l ih]
 congr 1
 split<;>rfl
theorem Za1:∀ (l:List Ex) (m:Nat),(Zab m l).length=Zam l
 | [],_=>rfl
 | e :: l,m=>by simp only [Zab,Zam,List.length_append];rw [Ze3,Za1 l]
theorem memsAt_nds:∀ (e:Ex) (m:Nat),Zg6 m e=(Zbs m e).map Zdl:=by
 refine Ex.ind fun o n s l ih m=>?_
 have hL:∀ (l:List Ex),(∀ e∈l,∀ m,Zg6 m e=(Zbs m e).map Zdl)→∀ m,Zck m l=(Zab m l).map Zdl:=by
  intro l
  induction l with
  | nil=>intro _ m;rfl
  | cons e l ihl=>
   intro hh m
   simp only [Zab,Zck,List.map_append]
   rw [hh e (List.mem_cons_self ..),ihl fun y hy=>hh y (List.mem_cons_of_mem _ hy)]
 simp only [Zbs,Zg6,List.map_append]
 rw [hL l ih]
 congr 1
 split<;>rfl
theorem Zdj:∀ (l:List Ex) (m:Nat),Zck m l=(Zab m l).map Zdl
 | [],_=>rfl
 | e :: l,m=>by simp only [Zab,Zck,List.map_append];rw [memsAt_nds,Zdj l]
theorem Zcb:∀ (a b:List Ex),Zam (a++b)=Zam a+Zam b
 | [],b=>by simp [Zam]
 | x :: a,b=>by simp only [List.cons_append,Zam,Zcb a b];omega
theorem Zdk (l:List Ex) (k:Nat) (h:k<l.length):Zam (l.take (k+1))=Zam (l.take k)+memN l[k]:=by
 rw [List.take_succ_eq_append_getElem h,Zcb]
 simp [Zam]
theorem Zca:∀ (l:List Ex) (k:Nat),Zam (l.take k)≤Zam l:=fun l k=>by
 have:=Zcb (l.take k) (l.drop k)
 rw [List.take_append_drop] at this
 omega
theorem Zdp:∀ (a b:List Ex) (m:Nat),Zab m (a++b)=Zab m a++Zab (m+Zam a) b
 | [],b,m=>by simp [Zab,Zam]
 | x :: a,b,m=>by simp only [List.cons_append,Zab,Zam,Zdp a b,List.append_assoc,Nat.add_assoc]
theorem Zjo (l:List Ex) (k m:Nat) (h:k<l.length):Zab m (l.take (k+1))=Zab m (l.take k)++Zbs (m+Zam (l.take k)) l[k]:=by
 rw [List.take_succ_eq_append_getElem h,Zdp]
 simp [Zab]
structure Gr2 (w w':World) (B:Nat) (row:Option Nat):Prop where
 os:w'.os=w.os
 tape:w'.tape=w.tape
 output:w'.output=w.output
 size:w.heap.size≤w'.heap.size
 block:∀ i,i<w.heap.size→i≠B→some i≠row→w'.heap[i]?=w.heap[i]?
theorem Gr2.refl (w:World) (B:Nat) (row:Option Nat):Gr2 w w B row:=⟨rfl,rfl,rfl,Nat.le_refl _,fun _ _ _ _=>rfl⟩
theorem Gr2.trans {a b c:World} {B:Nat} {row row':Option Nat} (h:Gr2 a b B row) (k:Gr2 b c B row') (hr:∀ j,row'=some j→a.heap.size≤j∨row=some j):Gr2 a c B row:=
 ⟨k.os.trans h.os,k.tape.trans h.tape,k.output.trans h.output,Nat.le_trans h.size k.size,fun i hi h1 h2=>by
  rw [k.block i (Nat.lt_of_lt_of_le hi h.size) h1 (fun e=>by
   rcases hr i e.symm with h3 | h3
   ·omega
   exact h2 h3.symm)]
  exact h.block i hi h1 h2⟩
theorem Gr2.of_below {w w':World} (h:Below w.heap.size w w') (B:Nat) (row:Option Nat):Gr2 w w' B row:=⟨h.os,h.tape,h.output,h.size,fun i hi _ _=>h.block i hi⟩
theorem Gr2.setCell {a w:World} {B:Nat} {row:Option Nat} (h:Gr2 a w B row) (i:Nat) (v:Value):Gr2 a (w.setCell ⟨B,i,none⟩ v) B row:=
 ⟨h.os,h.tape,h.output,by simpa using h.size,fun j hj h1 h2=>by rw [Below.heap_setCell w ⟨B,i,none⟩ v j h1];exact h.block j hj h1 h2⟩
theorem Gr2.grown {a w w':World} {B:Nat} {row row':Option Nat} (h:Gr2 a w B row) (hg:w.grownBy w' row') (hr:∀ j,row'=some j→a.heap.size≤j∨row=some j):Gr2 a w' B row:=
 ⟨hg.os.trans h.os,hg.tape.trans h.tape,hg.output.trans h.output,Nat.le_trans h.size hg.size,fun i hi h1 h2=>by
  rw [hg.block i (Nat.lt_of_lt_of_le hi h.size) (fun e=>by
   rcases hr i e.symm with h3 | h3
   ·omega
   exact h2 h3.symm)]
  exact h.block i hi h1 h2⟩
theorem Gr2.isin {K:Kn} {w w':World} {B:Nat} {row:Option Nat} (h:Gr2 w w' B row) (hK:K.In w) (hB:K B=none) (hr:∀ g,row=some g→K g=none):K.In w':=fun b o e=>by
 rw [h.block b (hK.lt e) (fun e2=>by rw [e2,hB] at e;cases e) (fun e2=>by rw [hr b e2.symm] at e;cases e)]
 exact hK b o e
theorem Zhs (R:REnv) (r:Inst):∀ (l:List Ex) (m k:Nat) (h:k<l.length),Za9 R r m (k+1) l=((Za9 R r m k l).1++[(Zbo R r (m+Zam (l.take k)) l[k]).1],(Za9 R r m k l).2 || (Zbo R r (m+Zam (l.take k)) l[k]).2)
 | [],m,k,h=>by simp at h
 | e :: l,m,0,_=>by cases l<;>simp [Za9,Zam]
 | e :: l,m,k+1,h=>by
  have:=Zhs R r l (m+memN e) k (by simpa using h)
  simp only [Za9,this,List.take_succ_cons,Zam,List.getElem_cons_succ,List.cons_append,Bool.or_assoc,Nat.add_assoc]
abbrev ptrV (q:Nat):Value := .pointer (some ⟨q,0,none⟩)
def Zj6 (e:Ex) (m:Nat):Int:=if e.op=oPre∨e.op=oFby then ((m+Zam e.l:Nat):Int) else 0
def Zay (R:REnv) (e:Ex) (mem:Int) (lv pv:Value):Array Value:=
 #[.string e.op,.int .i64 e.n,.string e.s,lv,pv,.int .i64 (Zan R.ks e),.bool (decide (0<lateOf R.lt e)),.int .i64 (R.nm e.s),.int .i64 mem]
mutual
def NdAt (T:TypeId) (R:REnv) (H:Kn):Ex→Nat→Nat→Prop
 | .mk o n s l,m,q=>∃ lv pv,H q=some (.cells (Zay R (.mk o n s l) (Zj6 (.mk o n s l) m) lv pv) T (0,0))∧
   ((l=[]∧∃ a c,pv = .slice a 0 c)∨∃ b off cap,pv = .slice (some ⟨b,off,none⟩) l.length cap∧l.length≤cap∧cap≤maxLen∧Zfw T R H l m b off)
def Zfw (T:TypeId) (R:REnv) (H:Kn):List Ex→Nat→Nat→Nat→Prop
 | [],_,_,_=>True
 | e :: l,m,b,off=>(∃ q,H.cell b off=some (ptrV q)∧NdAt T R H e m q)∧Zfw T R H l (m+memN e) b (off+1)
end
theorem ndsAt_of {T:TypeId} {R:REnv} {H H':Kn} {l:List Ex} (hle:H.le H') (h:∀ e∈l,∀ m q,NdAt T R H e m q→NdAt T R H' e m q):∀ m b off,Zfw T R H l m b off→Zfw T R H' l m b off:=by
 induction l with
 | nil=>intro m b off _;simp only [Zfw]
 | cons e l ih=>
  intro m b off hh
  simp only [Zfw] at hh ⊢
  obtain⟨⟨q,h1,h2⟩,h3⟩:=hh
  exact⟨⟨q,hle.cell h1,h e (List.mem_cons_self ..) m q h2⟩,ih (fun x hx=>h x (List.mem_cons_of_mem _ hx)) _ b _ h3⟩
theorem NdAt.le {T:TypeId} {R:REnv} {H H':Kn} (hle:H.le H'):∀ (e:Ex) (m q:Nat),NdAt T R H e m q→NdAt T R H' e m q:=by
 refine Ex.ind fun o n s l ih m q h=>?_
 simp only [NdAt] at h ⊢
 obtain⟨lv,pv,h1,h2⟩:=h
 refine⟨lv,pv,hle _ _ h1,?_⟩
 rcases h2 with ⟨hl,a,c,hp⟩ | ⟨b,off,cap,hp,h3,h4,h5⟩
 ·exact .inl ⟨hl,a,c,hp⟩
 exact .inr ⟨b,off,cap,hp,h3,h4,ndsAt_of hle ih m b off h5⟩
theorem Zfw.get {T:TypeId} {R:REnv} {H:Kn}:∀ {l:List Ex} {m b off:Nat},Zfw T R H l m b off→∀ i (h:i<l.length),∃ q,H.cell b (off+i)=some (ptrV q)∧NdAt T R H l[i] (m+Zam (l.take i)) q
 | [],_,_,_,_,i,h=>by simp at h
 | e :: l,m,b,off,hh,0,_=>by
  simp only [Zfw] at hh
  simpa [Zam] using hh.1
 | e :: l,m,b,off,hh,i+1,h=>by
  simp only [Zfw] at hh
  have:=Zfw.get hh.2 i (by simpa using h)
  simp only [List.take_succ_cons,Zam,List.getElem_cons_succ]
  rw [show off+(i+1)=off+1+i from by omega,← Nat.add_assoc]
  exact this
theorem Zfw.mk {T:TypeId} {R:REnv} {H:Kn}:∀ {l:List Ex} {m b off:Nat},(∀ i (h:i<l.length),∃ q,H.cell b (off+i)=some (ptrV q)∧NdAt T R H l[i] (m+Zam (l.take i)) q)→Zfw T R H l m b off
 | [],_,_,_,_=>by simp only [Zfw]
 | e :: l,m,b,off,h=>by
  simp only [Zfw]
  refine⟨by have h0:=h 0 (by simp);simp only [List.take_zero,Zam,Nat.add_zero] at h0;exact h0,Zfw.mk fun i hi=>?_⟩
  have:=h (i+1) (by simpa using hi)
  simp only [List.take_succ_cons,Zam,List.getElem_cons_succ] at this
  rw [show off+1+i=off+(i+1) from by omega,Nat.add_assoc]
  exact this
theorem NdAt.open {T:TypeId} {R:REnv} {H:Kn} {e:Ex} {m q:Nat} (h:NdAt T R H e m q):∃ lv pv,H q=some (.cells (Zay R e (Zj6 e m) lv pv) T (0,0))∧∃ a c,pv = .slice a e.l.length c∧
  ∀ i (hi:i<e.l.length),∃ b off q',a=some ⟨b,off,none⟩∧H.cell b (off+i)=some (ptrV q')∧NdAt T R H e.l[i] (m+Zam (e.l.take i)) q':=by
 obtain⟨o,n,s,l⟩:=e
 simp only [NdAt] at h
 obtain⟨lv,pv,h1,h2⟩:=h
 refine⟨lv,pv,h1,?_⟩
 simp only [Ex.l]
 rcases h2 with ⟨rfl,a,c,hp⟩ | ⟨b,off,cap,hp,h3,h4,h5⟩
 ·exact⟨a,c,hp,fun i hi=>by simp at hi⟩
 refine⟨_,cap,hp,fun i hi=>?_⟩
 obtain⟨q',h6,h7⟩:=h5.get i hi
 exact⟨b,off,q',rfl,h6,h7⟩
abbrev NdsV (T:TypeId) (R:REnv) (H:Kn):List (Ex×Nat)→Value→Prop:=SlV H 1 fun x f=>∃ q,f 0=some (ptrV q)∧NdAt T R H x.1 x.2 q
theorem NdsV.le {T:TypeId} {R:REnv} {H H':Kn} (hle:H.le H') {l:List (Ex×Nat)} {v:Value} (h:NdsV T R H l v):NdsV T R H' l v:=
 SlV.le h hle fun x f g hfg ⟨q,h1,h2⟩=>⟨q,hfg _ _ h1,NdAt.le hle _ _ _ h2⟩
def VlC (x:Vl) (f:Nat→Option Value):Prop:=f 0=some (.int .i64 x.kind)∧f 1=some (.int .i64 x.n)
abbrev VlsV (H:Kn):List Vl→Value→Prop:=SlV H 2 VlC
abbrev vlV (x:Vl):Value := .agg #[.int .i64 x.kind,.int .i64 x.n]
theorem VlC.mono (x:Vl) (f g:Nat→Option Value) (h:∀ j u,f j=some u→g j=some u) (hx:VlC x f):VlC x g:=⟨h _ _ hx.1,h _ _ hx.2⟩
def vlX (l:List Vl):List Value:=l.flatMap fun v=>[.int .i64 v.kind,.int .i64 v.n]
theorem Zip (l:List Vl):(vlX l).length=2 * l.length:=by
 unfold vlX
 induction l with
 | nil=>rfl
 | cons a l ih=>simp only [List.flatMap_cons,List.length_append,List.length_cons,List.length_nil,ih];omega
theorem Zeb:∀ (l:List Vl) (i:Nat) (h:i<l.length),(vlX l)[2 * i]?=some (.int .i64 l[i].kind)∧(vlX l)[2 * i+1]?=some (.int .i64 l[i].n)
 | a :: l,0,_=>by simp [vlX]
 | a :: l,i+1,h=>by
  have:=Zeb l i (by simpa using h)
  simp only [vlX,List.flatMap_cons,List.getElem_cons_succ] at this ⊢
  rw [show 2 * (i+1)=2 * i+2 from by omega]
  simpa using this
theorem Zak {W:World} {b:Nat} {x y:Value} {t:TypeId} (h:W.heap[b]?=some (.cells #[x,y] t (0,0))):
  W.cell? ⟨b,0,none⟩=some x∧W.cell? ⟨b,1,none⟩=some y∧W.frozen? ⟨b,0,none⟩=false∧W.frozen? ⟨b,1,none⟩=false∧b<W.heap.size:=
 ⟨by simp [World.cell?,h],by simp [World.cell?,h],by simp [World.frozen?,h],by simp [World.frozen?,h],(Zlt h)⟩
theorem Za7 {W:World} {b:Nat} {x y:Value} {t:TypeId} (h:W.heap[b]?=some (.cells #[x,y] t (0,0))) (u v:Value):
  (W.setCell ⟨b,0,none⟩ u).cell? ⟨b,0,none⟩=some u∧((W.setCell ⟨b,0,none⟩ u).setCell ⟨b,1,none⟩ v).cell? ⟨b,1,none⟩=some v∧
  (∀ o,(((W.setCell ⟨b,0,none⟩ u).setCell ⟨b,1,none⟩ v).alloc o).cell? ⟨b,0,none⟩=some u)∧(∀ o,(((W.setCell ⟨b,0,none⟩ u).setCell ⟨b,1,none⟩ v).alloc o).cell? ⟨b,1,none⟩=some v):=by
 have h1:(W.setCell ⟨b,0,none⟩ u).heap[b]?=some (.cells #[u,y] t (0,0)):=by
  show (W.heap.modify b _)[b]?=_
  rw [Array.getElem?_modify,if_pos rfl,h];rfl
 have h2:((W.setCell ⟨b,0,none⟩ u).setCell ⟨b,1,none⟩ v).heap[b]?=some (.cells #[u,v] t (0,0)):=by
  generalize W.setCell ⟨b,0,none⟩ u=W1 at *
  show (W1.heap.modify b _)[b]?=_
  rw [Array.getElem?_modify,if_pos rfl,h1];rfl
 refine⟨by simp [World.cell?,h1],by simp [World.cell?,h2],fun o=>?_,fun o=>?_⟩
 ·rw [World.cell?_alloc_past _ _ _ (Zlt h2)];simp [World.cell?,h2]
 rw [World.cell?_alloc_past _ _ _ (Zlt h2)];simp [World.cell?,h2]
theorem Zbv {base b:Nat} {w W:World} (h:Below base w W) (hb:base≤b) (u v:Value):Below base w ((W.setCell ⟨b,0,none⟩ u).setCell ⟨b,1,none⟩ v):=
 (h.setCell (p:=⟨b,0,none⟩) hb u).setCell (p:=⟨b,1,none⟩) hb v
theorem mFlA1 {p:Prop} (h:p:=by
 rw [hr]
 go_enter Tryz.func59,Tryz.ntmps59
 go_wp2_with fail
 go_ret
 first | exact⟨rfl,hb⟩ | exact⟨Za4 (by simp_all),hb⟩):p:=h
theorem Zds (b:Bool) (w:World):Calls Tryz.prog 42 #[.bool b] w fun e w'=>e = .returned (vlV (tv b))∧Below w.heap.size w w':=by
 cases b
 all_goals
  go_enter Tryz.func42,Tryz.ntmps42
  go_wp2_with fail
 ·refine bodyPost_ret (v := .agg #[.int .i64 1,.int .i64 0]) (by simp [results,Tryz.results42,go_sem]) rfl ?_
  exact⟨rfl,(Below.refl _ _).alloc (Nat.le_refl _) _⟩
 refine bodyPost_ret (v := .agg #[.int .i64 1,.int .i64 1]) (by simp [results,Tryz.results42,go_sem]) rfl ?_
 exact⟨rfl,(Below.refl _ _).alloc (Nat.le_refl _) _⟩
theorem wrap8 (n:Int):IntKind.wrap .i8 n=Zdg n:=by
 show (if (true&&decide (n % 256≥128))=true then n % 256 - 256 else n % 256)=Zdg n
 unfold Zdg
 simp
theorem wrap64 (n:Int):IntKind.wrap .i64 n=if 9223372036854775808≤n % 18446744073709551616 then n % 18446744073709551616 - 18446744073709551616 else n % 18446744073709551616:=by
 show (if (true&&decide (n % 18446744073709551616≥9223372036854775808))=true then n % 18446744073709551616 - 18446744073709551616 else n % 18446744073709551616)=_
 simp
abbrev fnV (f:Nat):Value := .func (.func f) #[] #[]
theorem wp_insert {P:Program} {w:World} {ops:Array Oper} {rest:List Oper} {o:Oper} {a:Act} {Q:Exit→Act→World→Prop} {α:Type} (V:α→Value) (t k e:TypeId) (ht:P.underlying t=some (.map k e)) (hk:P.underlying k=some .string) (b:Nat) (m:Env α) (hM:Zaw V w b m)
  (x y z:Operand) (hg:o.guard=none) (hop:o.op=Op.insert t x y z) (hx:a.eval x = .map (some b)) (s:ByteArray) (hy:a.eval y = .string s) (u:α) (hz:a.eval z=V u)
  (hK:∀ w',Zaw V w' b (m.set s u)→Zc0 w w' b→wpList P ops Q rest (a.put o.dst undef) w'):wpList P ops Q (o :: rest) a w:=by
 refine wpList_plain hg fun K' hK'=>?_
 obtain⟨ob,hrun,hM'⟩:=hM.run_set ht hk s u
 unfold Oper.wp
 simp [execOp,hop,hx,hy,hz,hrun,Result.andThen]
 exact hK' _ _ (hK _ hM' ⟨ob,rfl⟩)
def Zgj:Env Value:=((((Env.none.set oLt (fnV 121)).set oLe (fnV 122)).set oGt (fnV 123)).set oGe (fnV 124))
theorem Zhw (w:World):Calls Tryz.prog 115 #[] w fun e w'=>∃ b,e = .returned (.map (some b))∧Zaw (fun x=>x) w' b Zgj∧Below w.heap.size w w':=by
 have hmm:=@run_makeMap Tryz.prog
 have hM0:=Zaw.made (fun x:Value=>x) w
 have hB0:Below w.heap.size w (w.alloc (.map #[] 0)):=(Below.refl _ _).alloc (Nat.le_refl _) _
 go_enter Tryz.func115,Tryz.ntmps115
 go_wp2_with (refine wp_insert (fun x=>x) 219 9 217 Tryz.underlying219 Tryz.underlying9 w.heap.size _ (by assumption) _ _ _ rfl rfl rfl _ rfl _ rfl ?_;intro wn hMn hTn;have hBn:=hTn.below (by assumption) (Nat.le_refl _))
 go_ret
 exact⟨_,rfl,by assumption,by assumption⟩
def Zim:Env Value:=((((Env.none.set oAnd (fnV 125)).set oOr (fnV 126)).set oXor (fnV 127)).set oImp (fnV 128))
theorem bools_any (w:World):Calls Tryz.prog 116 #[] w fun e w'=>∃ b,e = .returned (.map (some b))∧Zaw (fun x=>x) w' b Zim∧Below w.heap.size w w':=by
 have hmm:=@run_makeMap Tryz.prog
 have hM0:=Zaw.made (fun x:Value=>x) w
 have hB0:Below w.heap.size w (w.alloc (.map #[] 0)):=(Below.refl _ _).alloc (Nat.le_refl _) _
 go_enter Tryz.func116,Tryz.ntmps116
 go_wp2_with (refine wp_insert (fun x=>x) 223 9 221 Tryz.underlying223 Tryz.underlying9 w.heap.size _ (by assumption) _ _ _ rfl rfl rfl _ rfl _ rfl ?_;intro wn hMn hTn;have hBn:=hTn.below (by assumption) (Nat.le_refl _))
 go_ret
 exact⟨_,rfl,by assumption,by assumption⟩
def intsEnv:Env Value:=(((((Env.none.set oAdd (fnV 129)).set oSub (fnV 130)).set oMul (fnV 131)).set oDiv (fnV 132)).set oMod (fnV 133))
theorem ints_any (w:World):Calls Tryz.prog 117 #[] w fun e w'=>∃ b,e = .returned (.map (some b))∧Zaw (fun x=>x) w' b intsEnv∧Below w.heap.size w w':=by
 have hmm:=@run_makeMap Tryz.prog
 have hM0:=Zaw.made (fun x:Value=>x) w
 have hB0:Below w.heap.size w (w.alloc (.map #[] 0)):=(Below.refl _ _).alloc (Nat.le_refl _) _
 go_enter Tryz.func117,Tryz.ntmps117
 go_wp2_with (refine wp_insert (fun x=>x) 226 9 225 Tryz.underlying226 Tryz.underlying9 w.heap.size _ (by assumption) _ _ _ rfl rfl rfl _ rfl _ rfl ?_;intro wn hMn hTn;have hBn:=hTn.below (by assumption) (Nat.le_refl _))
 go_ret
 exact⟨_,rfl,by assumption,by assumption⟩
theorem whole_any (n:Int) (w:World):Calls Tryz.prog 114 #[.int .i64 n] w fun e w'=>e = .returned (vlV (wv n))∧Below w.heap.size w w':=by
 have hr:IntKind.wrap .i64 (IntKind.wrap .i8 n)=Zdg n:=by
  rw [wrap8,wrap64]
  unfold Zdg
  split<;>split<;>omega
 go_enter Tryz.func114,Tryz.ntmps114
 go_wp2_with fail
 refine bodyPost_ret (v:=vlV (wv n)) (by simp [results,Tryz.results114,go_sem,hr,wv]) rfl ?_
 exact⟨rfl,(Below.refl _ _).alloc (Nat.le_refl _) _⟩
theorem right_any (v:Vl) (k:Int) (w:World):Calls Tryz.prog 59 #[vlV v,.int .i64 k] w fun e w'=>e = .returned (.bool (Zar v k))∧Below w.heap.size w w':=by
 obtain⟨vk,vn⟩:=v
 have hb:Below w.heap.size w (w.alloc (.cells #[.int .i64 vk,.int .i64 vn] 75)):=(Below.refl _ _).alloc (Nat.le_refl _) _
 by_cases h1:vk=k
 ·subst h1
  by_cases h2:vk=1
  ·subst h2
   by_cases h3:vn=0
   ·subst h3
    have hr:Zar ⟨1,0⟩ 1=true:=by simp [Zar]
    exact mFlA1
   by_cases h4:vn=1
   ·subst h4
    have hr:Zar ⟨1,1⟩ 1=true:=by simp [Zar]
    exact mFlA1
   have hr:Zar ⟨1,vn⟩ 1=false:=by simp [Zar,h3,h4]
   exact mFlA1
  by_cases h3:vk=2
  ·subst h3
   by_cases h4 : -128≤vn
   ·by_cases h5:vn≤127
    ·have hr:Zar ⟨2,vn⟩ 2=true:=by simp [Zar,h4,h5]
     exact mFlA1
    have hr:Zar ⟨2,vn⟩ 2=false:=by simp [Zar,h5]
    exact mFlA1
   have hr:Zar ⟨2,vn⟩ 2=false:=by simp [Zar,h4]
   exact mFlA1
  have hr:Zar ⟨vk,vn⟩ vk=false:=by simp [Zar,h2,h3]
  exact mFlA1
 have hr:Zar ⟨vk,vn⟩ k=false:=by simp [Zar,h1]
 exact mFlA1
theorem fn_lt (a b:Int) (w:World):Calls Tryz.prog 121 #[.int .i64 a,.int .i64 b] w fun e w'=>e = .returned (.bool (decide (a<b)))∧w=w':=by
 go_enter Tryz.func121,Tryz.ntmps121
 go_wp2
 go_ret
 exact⟨rfl,rfl⟩
theorem fn_le (a b:Int) (w:World):Calls Tryz.prog 122 #[.int .i64 a,.int .i64 b] w fun e w'=>e = .returned (.bool (decide (a≤b)))∧w=w':=by
 go_enter Tryz.func122,Tryz.ntmps122
 go_wp2
 go_ret
 exact⟨rfl,rfl⟩
theorem fn_gt (a b:Int) (w:World):Calls Tryz.prog 123 #[.int .i64 a,.int .i64 b] w fun e w'=>e = .returned (.bool (decide (b<a)))∧w=w':=by
 go_enter Tryz.func123,Tryz.ntmps123
 go_wp2
 go_ret
 exact⟨rfl,rfl⟩
theorem fn_ge (a b:Int) (w:World):Calls Tryz.prog 124 #[.int .i64 a,.int .i64 b] w fun e w'=>e = .returned (.bool (decide (b≤a)))∧w=w':=by
 go_enter Tryz.func124,Tryz.ntmps124
 go_wp2
 go_ret
 exact⟨rfl,rfl⟩
theorem fn_add (a b:Int) (w:World):Calls Tryz.prog 129 #[.int .i64 a,.int .i64 b] w fun e w'=>e = .returned (.int .i64 (RowKit.wrap64 (a+b)))∧w=w':=by
 go_enter Tryz.func129,Tryz.ntmps129
 go_wp2
 go_ret
 exact⟨rfl,rfl⟩
theorem fn_sub (a b:Int) (w:World):Calls Tryz.prog 130 #[.int .i64 a,.int .i64 b] w fun e w'=>e = .returned (.int .i64 (RowKit.wrap64 (a - b)))∧w=w':=by
 go_enter Tryz.func130,Tryz.ntmps130
 go_wp2
 go_ret
 exact⟨rfl,rfl⟩
theorem fn_mul (a b:Int) (w:World):Calls Tryz.prog 131 #[.int .i64 a,.int .i64 b] w fun e w'=>e = .returned (.int .i64 (RowKit.wrap64 (a * b)))∧w=w':=by
 go_enter Tryz.func131,Tryz.ntmps131
 go_wp2
 go_ret
 exact⟨rfl,rfl⟩
theorem fn_div (a b:Int) (h:b≠0) (w:World):Calls Tryz.prog 132 #[.int .i64 a,.int .i64 b] w fun e w'=>e = .returned (.int .i64 (RowKit.wrap64 (a.tdiv b)))∧w=w':=by
 go_enter Tryz.func132,Tryz.ntmps132
 go_wp2
 go_ret
 exact⟨rfl,rfl⟩
theorem fn_mod (a b:Int) (h:b≠0) (w:World):Calls Tryz.prog 133 #[.int .i64 a,.int .i64 b] w fun e w'=>e = .returned (.int .i64 (a.tmod b))∧w=w':=by
 go_enter Tryz.func133,Tryz.ntmps133
 go_wp2
 go_ret
 exact⟨rfl,rfl⟩
theorem fn_and (a b:Bool) (w:World):Calls Tryz.prog 125 #[.bool a,.bool b] w fun e w'=>e = .returned (.bool (a&&b))∧w=w':=by
 cases a<;>cases b
 all_goals
  go_enter Tryz.func125,Tryz.ntmps125
  go_wp2
  go_ret
  exact⟨rfl,rfl⟩
theorem fn_or (a b:Bool) (w:World):Calls Tryz.prog 126 #[.bool a,.bool b] w fun e w'=>e = .returned (.bool (a || b))∧w=w':=by
 cases a<;>cases b
 all_goals
  go_enter Tryz.func126,Tryz.ntmps126
  go_wp2
  go_ret
  exact⟨rfl,rfl⟩
theorem fn_xor (a b:Bool) (w:World):Calls Tryz.prog 127 #[.bool a,.bool b] w fun e w'=>e = .returned (.bool (a != b))∧w=w':=by
 cases a<;>cases b
 all_goals
  go_enter Tryz.func127,Tryz.ntmps127
  go_wp2
  go_ret
  exact⟨rfl,rfl⟩
theorem fn_imp (a b:Bool) (w:World):Calls Tryz.prog 128 #[.bool a,.bool b] w fun e w'=>e = .returned (.bool (!a || b))∧w=w':=by
 cases a<;>cases b
 all_goals
  go_enter Tryz.func128,Tryz.ntmps128
  go_wp2
  go_ret
  exact⟨rfl,rfl⟩
theorem around_wrap64 (n:Int):Zdg (RowKit.wrap64 n)=Zdg n:=by
 unfold Zdg RowKit.wrap64
 have:((n+9223372036854775808) % 18446744073709551616 - 9223372036854775808) % 256=n % 256:=by omega
 rw [this]
end Go.Proofs.YtgoccoldkfpbgaaGreatDoor
