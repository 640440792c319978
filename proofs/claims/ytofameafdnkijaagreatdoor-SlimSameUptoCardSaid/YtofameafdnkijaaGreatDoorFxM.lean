/- Plain: an instant's flows are a fixed point: each flow is what its term is among all flows of the instant; no program in sight. -/
import Derived.Test.YtofameafdnkijaaGreatDoorCpM
import Derived.Test.YtofameafdnkijaaGreatDoorBs
import Derived.Test.YtofameafdnkijaaGreatDoorRg
import Derived.Test.YtofameafdnkijaaGreatDoorRh
import Derived.Test.YtofameafdnkijaaGreatDoorEv
set_option linter.all false
namespace Go.Proofs.YtofameafdnkijaaGreatDoor
set_option maxRecDepth 100000
set_option maxHeartbeats 16000000
open Mx
theorem memN_parts (o:ByteArray) (n:Int) (s:ByteArray) (l:List Ex):memN (.mk o n s l)=Zal l+(if o=oPre∨o=oFby then 1 else 0):=by rw [memN]
theorem Ziz {at_:Env Nat}:∀ {l:List Ex} {e:Ex} {k:Nat},e∈l→k∈needs at_ e→k∈Zco at_ l
 | x :: l,e,k,he,hk=>by
  simp only [Zco,List.mem_append]
  rcases List.mem_cons.1 he with rfl | he
  ·exact .inl hk
  exact .inr (Ziz he hk)
theorem eval_agree {R:REnv} {ks:Env Int} {at_:Env Nat} (hnm:∀ s,(ks s).isSome=true→0≤R.nm s→at_ s=some (R.nm s).toNat) {r r':Inst} (hf:r.first=r'.first) (hi:r.inp=r'.inp):
  ∀ e:Ex,Zad ks e=true→∀ m m',(∀ j,j<memN e→r.mem.getD (m+j) vz=r'.mem.getD (m'+j) vz)→(∀ k∈needs at_ e,r.now.getD k vz=r'.now.getD k vz)→Zbd R r m e=Zbd R r' m' e:=by
 refine Ex.ind fun o n s l ih hfo m m' hm hn=>?_
 obtain⟨hsub,hfby,harr,hpre,_⟩:=Zaz hfo
 rw [memN_parts] at hm
 have hL:∀ (l:List Ex),(∀ e∈l,Zad ks e=true→∀ m m',(∀ j,j<memN e→r.mem.getD (m+j) vz=r'.mem.getD (m'+j) vz)→(∀ k∈needs at_ e,r.now.getD k vz=r'.now.getD k vz)→Zbd R r m e=Zbd R r' m' e)→
   (∀ e∈l,Zad ks e=true)→∀ (k m m':Nat),(∀ j,j<Zal l→r.mem.getD (m+j) vz=r'.mem.getD (m'+j) vz)→(∀ i (h:i<l.length),i<k→∀ x∈needs at_ l[i],r.now.getD x vz=r'.now.getD x vz)→Za1 R r m k l=Za1 R r' m' k l:=by
  intro l
  induction l with
  | nil=>intro _ _ k m m' _ _;simp [Za1]
  | cons e l ihl=>
   intro hh hff k m m' hmm hnn
   cases k with
   | zero=>simp [Za1]
   | succ k=>
    simp only [Za1]
    simp only [Zal] at hmm
    have e1:=hh e (List.mem_cons_self ..) (hff e (List.mem_cons_self ..)) m m' (fun j hj=>hmm j (by omega)) (fun x hx=>hnn 0 (by simp) (by omega) x (by simpa using hx))
    have e2:=ihl (fun y hy=>hh y (List.mem_cons_of_mem _ hy)) (fun y hy=>hff y (List.mem_cons_of_mem _ hy)) k (m+memN e) (m'+memN e) (fun j hj=>by
     have:=hmm (memN e+j) (by omega)
     rw [← Nat.add_assoc,← Nat.add_assoc] at this
     exact this) (fun i h hik x hx=>hnn (i+1) (by simpa using h) (by omega) x (by simpa using hx))
    rw [e1,e2]
 have hvs:Za1 R r m (if o=oPre then 0 else if o=oFby then 1 else l.length) l=Za1 R r' m' (if o=oPre then 0 else if o=oFby then 1 else l.length) l:=by
  refine hL l (fun e he=>ih e he) hsub _ m m' (fun j hj=>hm j (by omega)) fun i h hik x hx=>hn x ?_
  simp only [needs]
  by_cases e1:o=oPre
  ·rw [if_pos e1] at hik;omega
  rw [if_neg e1] at hik ⊢
  by_cases e2:o=oFby
  ·rw [if_pos e2] at hik ⊢
   obtain rfl:i=0:=by omega
   cases l with
   | nil=>simp at h
   | cons y l=>simpa [Zf2] using hx
  rw [if_neg e2]
  exact List.mem_append_right _ (Ziz (List.getElem_mem h) hx)
 simp only [Zbd]
 rw [hvs,hf]
 suffices hs:∀ late vs,valM R r (m+Zal l) o n s late vs=valM R r' (m'+Zal l) o n s late vs by rw [hs]
 intro late vs
 unfold valM
 rw [hf,hi]
 by_cases e1:o=oInt
 ·rw [if_pos e1,if_pos e1]
 rw [if_neg e1,if_neg e1]
 by_cases e2:o=Zcn∨o=Zb3
 ·rw [if_pos e2,if_pos e2]
 rw [if_neg e2,if_neg e2]
 by_cases e3:o=Zbg
 ·rw [if_pos e3,if_pos e3]
  by_cases h5:R.nm s<0
  ·rw [if_pos h5,if_pos h5]
  have hks:(ks s).isSome=true:=by
   simp only [Zad,Bool.and_eq_true,Bool.or_eq_true,decide_eq_true_eq] at hfo
   exact hfo.1.2.resolve_left (fun h=>h e3)
  rw [if_neg h5,if_neg h5,hn (R.nm s).toNat ?_]
  simp only [needs]
  rw [if_neg (by rw [e3];decide),if_neg (by rw [e3];decide),if_pos e3,hnm s hks (by omega)]
  simp
 rw [if_neg e3,if_neg e3]
 by_cases e4:o=oPre
 ·rw [if_pos e4,if_pos e4,hm (Zal l) (by rw [if_pos (.inl e4)];omega)]
 rw [if_neg e4,if_neg e4]
 by_cases e5:o=oFby
 ·rw [if_pos e5,if_pos e5,hm (Zal l) (by rw [if_pos (.inr e5)];omega)]
 rw [if_neg e5,if_neg e5]
theorem nm_at {p:Pr} (hck:Zak p=0) {ks:Env Int} (hks:Zas Env.none p.vars=some ks) (s:ByteArray) (h1:(ks s).isSome=true) (h2:0≤getI (Zaj p) s):p.atOf s=some (getI (Zaj p) s).toNat:=by
 have hk:=(nm_range hck hks s h1).2 h2
 have h3:=nm_of hck hks s h1 h2
 generalize (getI (Zaj p) s).toNat=k at h3 hk ⊢
 have h6:nfOf p k=p.fl[k].name:=by simp [nfOf,List.getD_eq_getElem?_getD,hk]
 have h5:=at_get p.fl 0 Env.none (Zct hck) k hk
 rw [h3,h6]
 unfold Pr.atOf
 rw [h5]
 simp
def Topo (g:List (List Nat)) (ord:List Nat):Prop:=∀ i (h:i<ord.length),ord[i]∉ord.take i∧∀ x∈g.getD ord[i] [],x∈ord.take i
theorem topo_snoc {g:List (List Nat)} {l:List Nat} {k:Nat} (h:Topo g l) (h1:k∉l) (h2:∀ x∈g.getD k [],x∈l):Topo g (l++[k]):=fun i hi=>by
 by_cases hil:i<l.length
 ·rw [List.getElem_append_left hil,List.take_append_of_le_length (by omega)]
  exact h i hil
 simp only [List.length_append,List.length_singleton] at hi
 obtain rfl:i=l.length:=by omega
 rw [List.take_left,show (l++[k])[l.length]=k from by simp]
 exact⟨h1,h2⟩
theorem sort_topo {g:List (List Nat)} (hp:∀ j,j<g.length→pick g (Zdh g j [])<g.length):∀ j,j≤g.length→Topo g (Zdh g j [])
 | 0,_=>fun i hi=>by simp [Zdh] at hi
 | j+1,hj=>by
  rw [Zh8]
  have h:=pick_free (hp j (by omega))
  unfold Zi3 at h
  simp only [Bool.and_eq_true,Bool.not_eq_true',List.all_eq_true] at h
  refine topo_snoc (sort_topo hp j (by omega)) (fun hm=>?_) fun x hx=>?_
  ·have:=List.contains_iff_mem.2 hm
   rw [h.1] at this;cases this
  exact List.contains_iff_mem.1 (h.2 x hx)
theorem Zfm {p:Pr} {l:List Nat} (h:Zbu p = .ok l):Topo p.graph l:=by
 unfold Zbu at h
 split at h
 ·cases h
 rename_i h0
 have hc:Zak p=0:=by simpa using h0
 split at h
 ·cases h
 rename_i hf
 cases h
 refine sort_topo (Zec p hc fun j hj=>?_) _ (Nat.le_refl _)
 have:=List.find?_eq_none.1 hf j (by simpa using hj)
 simpa using this
theorem nodup_len:∀ (n:Nat) (l:List Nat),l.Nodup→(∀ x∈l,x<n)→l.length≤n
 | 0,l,_,h=>by
  cases l with
  | nil=>simp
  | cons x l=>exact absurd (h x (List.mem_cons_self ..)) (by omega)
 | n+1,l,hn,h=>by
  have h1:=nodup_len n (l.erase n) (hn.erase n) fun x hx=>by
   have h2:=(List.Nodup.mem_erase_iff hn).1 hx
   have:=h x h2.2
   omega
  have h3:=List.length_erase (a:=n) (l:=l)
  split at h3<;>omega
theorem topo_nodup {g:List (List Nat)} {ord:List Nat} (h:Topo g ord):ord.Nodup:=by
 rw [List.nodup_iff_pairwise_ne,List.pairwise_iff_getElem]
 intro i j hi hj hij e
 refine (h j hj).1 ?_
 rw [← e]
 exact List.mem_take_iff_getElem.2 ⟨i,by omega,rfl⟩
theorem Zib {p:Pr} {l:List Nat} (h:Zbu p = .ok l):∀ k,k<p.fl.length→k∈l:=by
 obtain⟨_,hlen,hlow⟩:=Zbe h
 intro k hk
 refine Classical.byContradiction fun hn=>?_
 have:=nodup_len p.fl.length (k :: l) (List.nodup_cons.2 ⟨hn,topo_nodup (Zfm h)⟩) fun x hx=>by
  rcases List.mem_cons.1 hx with rfl | hx
  ·exact hk
  exact hlow x hx
 simp at this
 omega
abbrev d0:Ex×Nat:=(.mk ⟨#[]⟩ 0 ⟨#[]⟩ [],0)
def evAt (R:REnv) (first:Bool) (mem inp:List Vl) (fs:List (Ex×Nat)) (now:List Vl) (k:Nat):Vl×Bool:=Zbd R ⟨first,mem,inp,now⟩ (fs.getD k d0).2 (fs.getD k d0).1
theorem now_go {R:REnv} {ks:Env Int} {at_:Env Nat} (hnm:∀ s,(ks s).isSome=true→0≤R.nm s→at_ s=some (R.nm s).toNat) (first:Bool) (mem inp:List Vl) (fs:List (Ex×Nat)) (g:List (List Nat)):
  ∀ (rest done:List Nat) (now:List Vl) (t:Bool),Topo g (done++rest)→(∀ k∈done++rest,k<now.length∧Zad ks (fs.getD k d0).1=true∧∀ x∈needs at_ (fs.getD k d0).1,x∈g.getD k [])→
   (∀ k∈done,now.getD k vz=(evAt R first mem inp fs now k).1)→(t=done.any fun k=>(evAt R first mem inp fs now k).2)→
   (nowM R first mem inp fs rest now t).1.length=now.length∧(∀ k∈done++rest,(nowM R first mem inp fs rest now t).1.getD k vz=(evAt R first mem inp fs (nowM R first mem inp fs rest now t).1 k).1)∧
    (nowM R first mem inp fs rest now t).2=(done++rest).any fun k=>(evAt R first mem inp fs (nowM R first mem inp fs rest now t).1 k).2
 | [],done,now,t,_,_,h1,h2=>by simpa [nowM] using ⟨h1,h2⟩
 | k :: rest,done,now,t,ht,hk,h1,h2=>by
  have hkk:=ht done.length (by simp)
  have e0:(done++k :: rest)[done.length]=k:=by simp
  rw [e0,List.take_left] at hkk
  obtain⟨hnk,hneed⟩:=hkk
  have hkl:=(hk k (by simp)).1
  have hx:∀ x∈done,∀ v,(now.set k v).getD x vz=now.getD x vz:=fun x hxd v=>by
   have:k≠x:=fun e=>hnk (e▸hxd)
   simp [List.getD_eq_getElem?_getD,List.getElem?_set_ne this]
  have hev:∀ y∈done++k :: rest,(∀ x∈g.getD y [],x∈done)→∀ v,evAt R first mem inp fs (now.set k v) y=evAt R first mem inp fs now y:=fun y hy hsub v=>by
   unfold evAt
   exact eval_agree (at_:=at_) (r:=⟨first,mem,inp,now.set k v⟩) (r':=⟨first,mem,inp,now⟩) hnm rfl rfl _ (hk y hy).2.1 _ _ (fun _ _=>rfl) fun x hx'=>hx x (hsub x ((hk y hy).2.2 x hx')) v
  have hsubd:∀ y∈done,∀ x∈g.getD y [],x∈done:=fun y hy x hxg=>by
   obtain⟨i,hi,rfl⟩:=List.mem_iff_getElem.1 hy
   have h3:=(ht i (by simp;omega)).2
   rw [List.getElem_append_left hi,List.take_append_of_le_length (by omega)] at h3
   exact List.mem_of_mem_take (h3 x hxg)
  have hstep:nowM R first mem inp fs (k :: rest) now t=nowM R first mem inp fs rest (now.set k (evAt R first mem inp fs now k).1) (t || (evAt R first mem inp fs now k).2):=rfl
  rw [hstep]
  have hgo:=now_go hnm first mem inp fs g rest (done++[k]) (now.set k (evAt R first mem inp fs now k).1) (t || (evAt R first mem inp fs now k).2) (by simpa using ht) (fun y hy=>by simpa using hk y (by simpa using hy)) (fun y hy=>by
   rcases List.mem_append.1 hy with hy | hy
   ·rw [hx y hy,h1 y hy,hev y (List.mem_append_left _ hy) (hsubd y hy)]
   ·obtain rfl:=List.mem_singleton.1 hy
    rw [hev y (by simp) hneed]
    simp [List.getD_eq_getElem?_getD,hkl]) (by
   rw [List.any_append,h2]
   congr 1
   ·rw [Bool.eq_iff_iff]
    simp only [List.any_eq_true]
    constructor
    ·rintro⟨y,hy,h⟩;exact⟨y,hy,by rw [hev y (List.mem_append_left _ hy) (hsubd y hy)];exact h⟩
    rintro⟨y,hy,h⟩;exact⟨y,hy,by rw [hev y (List.mem_append_left _ hy) (hsubd y hy)] at h;exact h⟩
   simp [hev k (by simp) hneed])
  simpa using hgo
theorem withAt_get?:∀ (l:List Ex) (m k:Nat) (h:k<l.length),(Zbb m l)[k]?=some (l[k],m+Zal (l.take k))
 | [],m,k,h=>by simp at h
 | e :: l,m,0,_=>by simp [Zbb,Zal]
 | e :: l,m,k+1,h=>by
  simp only [Zbb,List.getElem?_cons_succ,List.getElem_cons_succ,List.take_succ_cons,Zal]
  rw [withAt_get? l (m+memN e) k (by simpa using h),Nat.add_assoc]
def flAt (p:Pr) (k:Nat):Nat:=Zal ((p.fl.map (·.e)).take k)
theorem Zjm (p:Pr) (ord:List Nat) (k:Nat) (h:k<p.fl.length):(cdOf p ord).fs.getD k d0=(p.fl[k].e,flAt p k):=by
 have:=withAt_get? (p.fl.map (·.e)) 0 k (by simpa using h)
 show (Zbb 0 (p.fl.map (·.e))).getD k d0=_
 rw [List.getD_eq_getElem?_getD,this]
 simp [flAt]
theorem now_fix {p:Pr} (h:(Za0 p).1=0) {ks:Env Int} (hks:Zas Env.none p.vars=some ks) {ord:List Nat} (ho:Zbu p = .ok ord) (R:REnv) (hnmR:R.nm=getI (Zaj p)) (first:Bool) (mem inp:List Vl):
  (nowM R first mem inp (cdOf p ord).fs ord (List.replicate p.fl.length vz) false).1.length=p.fl.length∧
  (∀ k (hk:k<p.fl.length),(nowM R first mem inp (cdOf p ord).fs ord (List.replicate p.fl.length vz) false).1.getD k vz=(Zbd R ⟨first,mem,inp,(nowM R first mem inp (cdOf p ord).fs ord (List.replicate p.fl.length vz) false).1⟩ (flAt p k) p.fl[k].e).1)∧
  ((nowM R first mem inp (cdOf p ord).fs ord (List.replicate p.fl.length vz) false).2=true↔∃ k,∃ hk:k<p.fl.length,(Zbd R ⟨first,mem,inp,(nowM R first mem inp (cdOf p ord).fs ord (List.replicate p.fl.length vz) false).1⟩ (flAt p k) p.fl[k].e).2=true):=by
 obtain⟨hck,hlen,hlow⟩:=Zbe ho
 obtain⟨ks',hks',_,hfm,_⟩:=Zbs hck
 rw [hks] at hks'
 cases hks'
 have hform:∀ k (hk:k<p.fl.length),Zad ks p.fl[k].e=true:=fun k hk=>by
  obtain⟨i,hi,e⟩:=List.mem_iff_getElem.1 (Zcg p (List.getElem_mem hk))
  rw [← e]
  exact (Zbk ks _).1 hfm i hi
 have hgo:=now_go (R:=R) (ks:=ks) (at_:=p.atOf) (fun s h1 h2=>by rw [hnmR] at h2 ⊢;exact nm_at hck hks s h1 h2) first mem inp (cdOf p ord).fs p.graph ord [] (List.replicate p.fl.length vz) false (by simpa using Zfm ho) (fun k hk=>by
  have hkl:=hlow k (by simpa using hk)
  refine⟨by simpa using hkl,by rw [Zjm p ord k hkl];exact hform k hkl,fun x hx=>?_⟩
  rw [Zjm p ord k hkl] at hx
  have:p.graph.getD k []=needs p.atOf p.fl[k].e:=by simp [Pr.graph,List.getD_eq_getElem?_getD,hkl]
  rw [this]
  exact hx) (fun k hk=>by cases hk) (by simp)
 generalize nowM R first mem inp (cdOf p ord).fs ord (List.replicate p.fl.length vz) false=N at *
 obtain⟨g1,g2,g3⟩:=hgo
 refine⟨by simpa using g1,fun k hk=>?_,?_⟩
 ·have:=g2 k (by simpa using Zib ho k hk)
  unfold evAt at this
  rw [Zjm p ord k hk] at this
  exact this
 rw [g3,List.any_eq_true]
 constructor
 ·rintro⟨k,hk,h⟩
  have hkl:=hlow k (by simpa using hk)
  unfold evAt at h
  rw [Zjm p ord k hkl] at h
  exact⟨k,hkl,h⟩
 rintro⟨k,hk,h⟩
 refine⟨k,by simpa using Zib ho k hk,?_⟩
 unfold evAt
 rw [Zjm p ord k hk]
 exact h
def Placed (ks:Env Int) (KM:Nat→Int) (m:Nat) (e:Ex):Prop:=∀ (j:Nat) (x:Ex×Nat),(Zca m e)[j]?=some x→KM (m+j)=Zam ks x.1
def Zja (ks:Env Int) (KM:Nat→Int) (m:Nat) (l:List Ex):Prop:=∀ (j:Nat) (x:Ex×Nat),(Zah m l)[j]?=some x→KM (m+j)=Zam ks x.1
theorem Zja.cons {ks:Env Int} {KM:Nat→Int} {m:Nat} {e:Ex} {l:List Ex} (h:Zja ks KM m (e :: l)):Placed ks KM m e∧Zja ks KM (m+memN e) l:=by
 refine⟨fun j x hx=>h j x ?_,fun j x hx=>?_⟩
 ·rw [Zah,List.getElem?_append_left]
  ·exact hx
  exact (List.getElem?_eq_some_iff.1 hx).1
 have:=h (memN e+j) x (by
  rw [Zah,List.getElem?_append_right (by rw [Ze9];omega),Ze9,Nat.add_sub_cancel_left]
  exact hx)
 rw [Nat.add_assoc];exact this
theorem Zja.at {ks:Env Int} {KM:Nat→Int}:∀ {l:List Ex} {m:Nat},Zja ks KM m l→∀ i (h:i<l.length),Placed ks KM (m+Zal (l.take i)) l[i]
 | [],_,_,i,hi=>by simp at hi
 | e :: l,m,h,0,_=>by simpa [Zal] using h.cons.1
 | e :: l,m,h,i+1,hi=>by
  have:=h.cons.2.at i (by simpa using hi)
  simp only [List.take_succ_cons,Zal,List.getElem_cons_succ]
  rw [← Nat.add_assoc]
  exact this
theorem Placed.parts {ks:Env Int} {KM:Nat→Int} {m:Nat} {o:ByteArray} {n:Int} {s:ByteArray} {l:List Ex} (h:Placed ks KM m (.mk o n s l)):Zja ks KM m l∧(o=oPre∨o=oFby→KM (m+Zal l)=Zam ks (.mk o n s l)):=by
 refine⟨fun j x hx=>h j x ?_,fun ho=>h (Zal l) (.mk o n s l,m) ?_⟩
 ·rw [Zca,List.getElem?_append_left]
  ·exact hx
  exact (List.getElem?_eq_some_iff.1 hx).1
 rw [Zca,List.getElem?_append_right (by rw [Zbh];omega),Zbh,Nat.sub_self,if_pos ho]
 rfl
theorem memNdsL_at:∀ {l:List Ex} {m:Nat} {x:Ex×Nat},x∈Zah m l→∃ i,∃ h:i<l.length,x∈Zca (m+Zal (l.take i)) l[i]
 | [],_,_,h=>by simp [Zah] at h
 | e :: l,m,x,h=>by
  simp only [Zah,List.mem_append] at h
  rcases h with h | h
  ·exact⟨0,by simp,by simpa [Zal] using h⟩
  obtain⟨i,hi,hx⟩:=memNdsL_at h
  exact⟨i+1,by simpa using hi,by simpa [Zal,Nat.add_assoc] using hx⟩
theorem Placed.nds {ks:Env Int} {KM:Nat→Int}:∀ (e:Ex) (m:Nat),Placed ks KM m e→∀ x∈Zca m e,Placed ks KM x.2 x.1:=by
 refine Ex.ind fun o n s l ih m h x hx=>?_
 simp only [Zca,List.mem_append] at hx
 rcases hx with hx | hx
 ·obtain⟨i,hi,hx⟩:=memNdsL_at hx
  exact ih _ (List.getElem_mem hi) _ (h.parts.1.at i hi) x hx
 split at hx
 ·rw [List.mem_singleton.1 hx];exact h
 cases hx
structure TyR (R:REnv) (ks:Env Int) (at_:Env Nat) (K:Nat→Int) (L:Nat) (inp:List Vl):Prop where
 kse:R.ks=ks
 nil : -128≤R.ni∧R.ni≤127
 two:∀ s k,ks s=some k→k=1∨k=2
 inp:∀ s k,ks s=some k→R.nm s<0→Zba (inp.getD (-1 - R.nm s).toNat vz) k=true
 flow:∀ s k,ks s=some k→0≤R.nm s→at_ s=some (R.nm s).toNat∧K (R.nm s).toNat=k∧(R.nm s).toNat<L
open Go.RowKit Mx
def Zc0 (ins:List Vr) (l:List Vl) (k:Nat):Bool:=decide (l.length=ins.length)&&(List.range k).all fun i=>Zba (l.getD i vz) ((ins.map (·.kind)).getD i 0)
theorem inpsTo_succ (ins:List Vr) (l:List Vl) (k:Nat):Zc0 ins l (k+1)=(Zc0 ins l k&&Zba (l.getD k vz) ((ins.map (·.kind)).getD k 0)):=by
 unfold Zc0
 rw [List.range_succ,List.all_append,Bool.and_assoc]
 simp
theorem inpsTo_false (ins:List Vr) (l:List Vl) (k:Nat) (h:Zc0 ins l k=false):∀ n,k≤n→Zc0 ins l n=false:=fun n hn=>by
 induction n with
 | zero=>
  obtain rfl:k=0:=by omega
  exact h
 | succ n ih=>
  by_cases e:k=n+1
  ·rw [← e];exact h
  rw [inpsTo_succ,ih (by omega)];rfl
theorem inputs_any (H:Kn) (B:Nat) (cs:Array Value) (ins:List Vr) (l:List Vl) (vi v:Value) (hB:H B=some (.cells cs 155 (0,0))) (h0:cs[0]?=some vi) (hi:VrsV H ins vi) (hv:VlsV H l v) (hl:l.length≤1000000000∧ins.length≤1000000000) (w:World) (hH:H.In w):
  Calls Tryz.prog 29 #[.pointer (some ⟨B,0,none⟩),v] w fun r w'=>r = .returned (.bool (Zc0 ins l l.length))∧Below w.heap.size w w':=by
 obtain⟨hl1,hl2⟩:=hl
 obtain⟨a,c,rfl⟩:=hi.len
 obtain⟨a2,c2,rfl⟩:=hv.len
 have HI:=Zhd hi
 have HV:=Zhd hv
 have j0:H.cell B 0=some (.slice a ins.length c):=by unfold Kn.cell;rw [hB];exact h0
 have g0:=hH.cell j0
 have hlen:((l.length:Int)==(ins.length:Int))=decide (l.length=ins.length):=by
  by_cases h:l.length=ins.length
  ·simp [h]
  have:¬ ((l.length:Int)=ins.length):=by omega
  simp [h,this]
 have HL:=Zhd hlen
 clear hi hv hlen
 go_enter Tryz.func29,Tryz.ntmps29
 go_wp2_with fail
 clear g0
 go_loopw [5,6] (fun u i wr=>∃ k:Nat,i = .int .i64 k∧u = .bool (Zc0 ins l k)∧k≤l.length∧Below w.heap.size w wr) (fun _ i _=>l.length - (intOf i).toNat)
 case atStart=>exact⟨0,rfl,by simp [Zc0,HL.out],Nat.zero_le _,Below.refl _ _⟩
 obtain⟨k,rfl,rfl,hk,hb⟩:=hrel
 have HB:=Zhd hb
 clear hb
 cases hok:Zc0 ins l k with
 | false=>
  go_wp2_with fail
  go_ret
  exact⟨Zb6 (by rw [inpsTo_false ins l k hok _ hk]),HB.out⟩
 | true=>
  by_cases hkl:k<l.length
  ·have hli:l.length=ins.length:=by
    unfold Zc0 at hok
    simp only [Bool.and_eq_true,decide_eq_true_eq] at hok
    exact hok.1
   have hki:k<ins.length:=by omega
   have hkI:(k:Int)<l.length:=by omega
   have hkI2:(k:Int)<ins.length:=by omega
   clear hli
   obtain⟨b,off,rfl,e0,e1⟩:=Zga HV.out hkl
   obtain⟨b2,off2,rfl,_,d0,d1⟩:=SlV.at HI.out hki
   have d1:H.cell b2 (off2+k * 2+1)=some (.int .i64 ins[k].kind):=d1
   have hS:H.In wr.drew:=hH.below HB.out.drew
   have HSN:=Zhd (show Zc0 ins l (k+1)=Zba l[k] ins[k].kind from by
    rw [inpsTo_succ,hok,Bool.true_and]
    simp [List.getD_eq_getElem?_getD,hkl,hki])
   clear hok d0
   generalize ins[k].kind=kd at *
   generalize l[k]=x at *
   obtain⟨xk,xn⟩:=x
   dsimp only at e0 e1
   go_wp2_with fail
   refine Za2 (fun w'=>H.In w') (fun _=>True) 99 (by kernel_rfl) ?_
   refine tk2 (i:=0) (v:=?_) rfl hS Ztr ?hy ?_
   case hy=>intro w hSw;obtain⟨z0,z1,z2,z3⟩:=hSw.c4 j0 e0 e1 d1;go_simp<;>with_reducible rfl
   refine Zst ?_
   refine Go.w3 1 ?_
   iterate 12 ((first | (refine tk3 (v:=?_) rfl hS Ztr ?hy ?_;(case hy=>intro w hSw;obtain⟨z0,z1,z2,z3⟩:=hSw.c4 j0 e0 e1 d1;go_simp<;>with_reducible rfl)) | refine sk3 rfl hS Ztr ?_ | refine no3 ?_);refine Zss ?_)
   refine Go.w3e ?_
   refine Zwo 13 rfl fun K_ hK=>?_
   go_simp
   go_at_call 76
   refine (right_any ⟨xk,xn⟩ kd _).mono ?_
   rintro r5 w5 ⟨rfl,hb5⟩
   have hS5:=hS.below hb5
   refine hK.out _ _ (hS5) Ztr ?_
   clear hK K_
   try simp only [tkS]
   refine tk2 (i:=14) (v:=?_) rfl hS5 Ztr ?hy ?_
   case hy=>intro w hSw;obtain⟨z0,z1,z2,z3⟩:=hSw.c4 j0 e0 e1 d1;go_simp<;>with_reducible rfl
   try simp only [tkS]
   refine Zwd ?_
   have HB5:=Zhd (HB.out.drew.trans (hb5.mono (by have:=HB.out.drew.size;omega)))
   go_wp2_with fail
   go_roundw
   case rel=>first | exact⟨k+1,by go_num,by rw [HSN.out],by omega,HB5.out⟩ | ((repeat apply Exists.intro);refine⟨?_,rfl⟩;exact⟨k+1,by go_num,by rw [HSN.out],by omega,HB5.out⟩)
   simp [intOf];omega
  obtain rfl:k=l.length:=by omega
  go_wp2_with fail
  go_ret
  exact⟨Zb6 (by rw [hok]),HB.out⟩
end Go.Proofs.YtofameafdnkijaaGreatDoor
