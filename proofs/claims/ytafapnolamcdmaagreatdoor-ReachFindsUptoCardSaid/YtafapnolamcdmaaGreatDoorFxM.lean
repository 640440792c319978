/- Plain: an instant's flows are a fixed point: each flow is what its term is among all flows of the instant; no program in sight. -/
import Derived.Test.YtafapnolamcdmaaGreatDoorCpM
set_option linter.all false
namespace Go.Proofs.YtafapnolamcdmaaGreatDoor
open Mx
theorem Zhc(o:ByteArray)(n:Int)(s:ByteArray)(l:List Ex):memN (.mk o n s l)=Zag l+(if o=oPre\/o=oFby then 1 else 0):=by rw[memN]
theorem Zg9{at_:Env Nat}:∀{l:List Ex} {e:Ex} {k:Nat},e∈l->k∈needs at_ e->k∈Zcy at_ l
 |x :: l,e,k,he,hk=>by
  simp only[Zcy,List.mem_append];rcases List.mem_cons.1 he with rfl|he
  .exact .inl hk
  exact .inr (Zg9 he hk)
theorem eval_agree{R:REnv}{ks:Env Int}{at_:Env Nat}(jy:∀s,(ks s).isSome=true->0<=R.nm s->at_ s=some (R.nm s).toNat){r r':Inst}(hf:r.first=r'.first)(hi:r.inp=r'.inp):
  ∀e:Ex,Zad ks e=true->∀m m',(∀j,j<memN e->r.mem.getD (m+j) vz=r'.mem.getD (m'+j) vz)->(∀k∈needs at_ e,r.now.getD k vz=r'.now.getD k vz)->Za6 R r m e=Za6 R r' m' e:=by
 refine Ex.ind λo n s l ih j9 m m' hm hn=>?_;obtain⟨JA,Jj,jq,hZ,_⟩:=Zax j9;rw[Zhc] at hm;have hL:∀(l:List Ex),(∀e∈l,Zad ks e=true->∀m m',(∀j,j<memN e->r.mem.getD (m+j) vz=r'.mem.getD (m'+j) vz)->(∀k∈needs at_ e,r.now.getD k vz=r'.now.getD k vz)->Za6 R r m e=Za6 R r' m' e)->
   (∀e∈l,Zad ks e=true)->∀(k m m':Nat),(∀j,j<Zag l->r.mem.getD (m+j) vz=r'.mem.getD (m'+j) vz)->(∀i (h:i<l.length),i<k->∀x∈needs at_ l[i],r.now.getD x vz=r'.now.getD x vz)->Zaz R r m k l=Zaz R r' m' k l:=by
  intro l
  induction l with
  |nil=>intro _ _ k m m' _ _;simp[Zaz]
  |cons e l ihl=>
   intro hh kQ k m m' zX hnn;cases k with
   |zero=>simp[Zaz]
   |succ k=>
    simp only[Zaz];simp only[Zag] at zX;have e1:=hh e (List.mem_cons_self ..) (kQ e (List.mem_cons_self ..)) m m' (λj hj=>zX j (by omega)) (λx hx=>hnn 0 (by simp) (by omega) x (by simpa using hx));have e2:=ihl (λy hy=>hh y (List.mem_cons_of_mem _ hy)) (λy hy=>kQ y (List.mem_cons_of_mem _ hy)) k (m+memN e) (m'+memN e) (λj hj=>by
     have:=zX (memN e+j) (by omega);rw[<- Nat.add_assoc,<- Nat.add_assoc] at this;exact this) (λi h jp x hx=>hnn (i+1) (by simpa using h) (by omega) x (by simpa using hx))
    rw[e1,e2]
 have yd:Zaz R r m (if o=oPre then 0 else if o=oFby then 1 else l.length) l=Zaz R r' m' (if o=oPre then 0 else if o=oFby then 1 else l.length) l:=by
  refine hL l (λe he=>ih e he) JA _ m m' (λj hj=>hm j (by omega)) λi h jp x hx=>hn x ?_;simp only[needs];by_cases e1:o=oPre
  .rw [if_pos e1] at jp;omega
  rw[if_neg e1] at jp ⊢;by_cases e2:o=oFby
  .rw [if_pos e2] at jp ⊢;obtain rfl:i=0:=by omega
   cases l with
   |nil=>simp at h
   |cons y l=>simpa[Zgj] using hx
  rw[if_neg e2];exact List.mem_append_right _ (Zg9 (Ymm h) hx)
 simp only[Za6];rw[yd,hf]
 suffices hs:∀late vs,valM R r (m+Zag l) o n s late vs=valM R r' (m'+Zag l) o n s late vs by rw[hs]
 intro late vs;unfold valM;rw[hf,hi];by_cases e1:o=oInt
 .rw [if_pos e1,if_pos e1]
 rw[if_neg e1,if_neg e1];by_cases e2:o=Zc9\/o=Zch
 .rw [if_pos e2,if_pos e2]
 rw[if_neg e2,if_neg e2];by_cases e3:o=Zb2
 .rw [if_pos e3,if_pos e3];by_cases h5:R.nm s<0
  .rw [if_pos h5,if_pos h5]
  have hks:(ks s).isSome=true:=by
   simp only[Zad,Bool.and_eq_true,Bool.or_eq_true,decide_eq_true_eq] at j9;exact j9.1.2.resolve_left (λh=>h e3)
  rw[if_neg h5,if_neg h5,hn (R.nm s).toNat ?_];simp only[needs];rw[if_neg (by rw[e3];decide),if_neg (by rw[e3];decide),if_pos e3,jy s hks (by omega)];simp
 rw[if_neg e3,if_neg e3];by_cases e4:o=oPre
 .rw [if_pos e4,if_pos e4,hm (Zag l) (by rw[if_pos (.inl e4)];omega)]
 rw[if_neg e4,if_neg e4];by_cases e5:o=oFby
 .rw [if_pos e5,if_pos e5,hm (Zag l) (by rw[if_pos (.inr e5)];omega)]
 rw[if_neg e5,if_neg e5]
theorem nm_at{p:Pr}(J0:Zak p=0){ks:Env Int}(hks:Zao Env.none p.vars=some ks)(s:ByteArray)(h1:(ks s).isSome=true)(h2:0<=getI (Zah p) s):p.atOf s=some (getI (Zah p) s).toNat:=by
 have hk:=(Zik J0 hks s h1).2 h2;have h3:=nm_of J0 hks s h1 h2;generalize (getI (Zah p) s).toNat=k at h3 hk ⊢;have h6:nfOf p k=p.fl[k].name:=by simp[nfOf,Ygg,hk]
 have h5:=at_get p.fl 0 Env.none (Zhb J0) k hk;rw[h3,h6];unfold Pr.atOf;rw[h5];simp
def Topo(g:List (List Nat))(ord:List Nat):Prop:=∀i (h:i<ord.length),ord[i]∉ord.take i/\∀x∈g.getD ord[i] [],x∈ord.take i
theorem topo_snoc{g:List (List Nat)}{l:List Nat}{k:Nat}(h:Topo g l)(h1:k∉l)(h2:∀x∈g.getD k [],x∈l):Topo g (l++[k]):=λi hi=>by
 by_cases JN:i<l.length
 .rw [List.getElem_append_left JN,List.take_append_of_le_length (by omega)];exact h i JN
 simp only[List.length_append,List.length_singleton] at hi;obtain rfl:i=l.length:=by omega
 rw[List.take_left,show(l++[k])[l.length]=k from by simp];exact⟨h1,h2⟩
theorem sort_topo{g:List (List Nat)}(hp:∀j,j<g.length->pick g (Zc7 g j [])<g.length):∀j,j<=g.length->Topo g (Zc7 g j [])
 |0,_=>λi hi=>by simp[Zc7] at hi
 |j+1,hj=>by
  rw[Zgc];have h:=pick_free (hp j (by omega));unfold Zh8 at h;simp only[Bool.and_eq_true,Bool.not_eq_true',List.all_eq_true] at h;refine topo_snoc (sort_topo hp j (by omega)) (λhm=>?_) λx hx=>?_
  .have:=List.contains_iff_mem.2 hm;rw[h.1] at this;cases this
  exact List.contains_iff_mem.1 (h.2 x hx)
theorem Zfs{p:Pr}{l:List Nat}(h:Za5 p=.ok l):Topo p.graph l:=by
 unfold Za5 at h
 split at h
 .cases h
 rename_i h0
 have hc:Zak p=0:=by simpa using h0
 split at h
 .cases h
 rename_i hf
 cases h;refine sort_topo (Zi8 p hc λj hj=>?_) _ Ylr;have:=List.find?_eq_none.1 hf j (by simpa using hj);simpa using this
theorem Zij:∀(n:Nat) (l:List Nat),l.Nodup->(∀x∈l,x<n)->l.length<=n
 |0,l,_,h=>by
  cases l with
  |nil=>simp
  |cons x l=>exact absurd (h x (List.mem_cons_self ..)) (by omega)
 |n+1,l,hn,h=>by
  have h1:=Zij n (l.erase n) (hn.erase n) λx hx=>by
   have h2:=(List.Nodup.mem_erase_iff hn).1 hx;have:=h x h2.2;omega
  have h3:=List.length_erase (a:=n) (l:=l)
  split at h3<;>omega
theorem topo_nodup{g:List (List Nat)}{ord:List Nat}(h:Topo g ord):ord.Nodup:=by
 rw[List.nodup_iff_pairwise_ne,List.pairwise_iff_getElem];intro i j hi hj hij e;refine(h j hj).1 ?_;rw[<- e];exact List.mem_take_iff_getElem.2 ⟨i,by omega,rfl⟩
theorem Zgf{p:Pr}{l:List Nat}(h:Za5 p=.ok l):∀k,k<p.fl.length->k∈l:=by
 obtain⟨_,Ho,Jm⟩:=Zbg h;intro k hk;refine Classical.byContradiction λhn=>?_;have:=Zij p.fl.length (k :: l) (List.nodup_cons.2 ⟨hn,topo_nodup (Zfs h)⟩) λx hx=>by
  rcases List.mem_cons.1 hx with rfl|hx
  .exact hk
  exact Jm x hx
 simp at this;omega
abbrev d0:Ex×Nat:=(.mk ⟨#[]⟩ 0 ⟨#[]⟩ [],0)
def evAt(R:REnv)(first:Bool)(mem inp:List Vl)(fs:List (Ex×Nat))(now:List Vl)(k:Nat):Vl×Bool:=Za6 R ⟨first,mem,inp,now⟩ (fs.getD k d0).2 (fs.getD k d0).1
theorem now_go{R:REnv}{ks:Env Int}{at_:Env Nat}(jy:∀s,(ks s).isSome=true->0<=R.nm s->at_ s=some (R.nm s).toNat)(first:Bool)(mem inp:List Vl)(fs:List (Ex×Nat))(g:List (List Nat)):
  ∀(rest done:List Nat) (now:List Vl) (t:Bool),Topo g (done++rest)->(∀k∈done++rest,k<now.length/\Zad ks (fs.getD k d0).1=true/\∀x∈needs at_ (fs.getD k d0).1,x∈g.getD k [])->
   (∀k∈done,now.getD k vz=(evAt R first mem inp fs now k).1)->(t=done.any λk=>(evAt R first mem inp fs now k).2)->
   (nowM R first mem inp fs rest now t).1.length=now.length/\(∀k∈done++rest,(nowM R first mem inp fs rest now t).1.getD k vz=(evAt R first mem inp fs (nowM R first mem inp fs rest now t).1 k).1)/\
    (nowM R first mem inp fs rest now t).2=(done++rest).any λk=>(evAt R first mem inp fs (nowM R first mem inp fs rest now t).1 k).2
 | [],done,now,t,_,_,h1,h2=>by simpa[nowM] using ⟨h1,h2⟩
 |k :: rest,done,now,t,ht,hk,h1,h2=>by
  have hkk:=ht done.length (by simp);have e0:(done++k :: rest)[done.length]=k:=by simp
  rw[e0,List.take_left] at hkk;obtain⟨hnk,hneed⟩:=hkk;have Hd:=(hk k (by simp)).1;have hx:∀x∈done,∀v,(now.set k v).getD x vz=now.getD x vz:=λx hxd v=>by
   have:k≠x:=λe=>hnk (e▸hxd);simp[Ygg,List.getElem?_set_ne this]
  have zH:∀y∈done++k :: rest,(∀x∈g.getD y [],x∈done)->∀v,evAt R first mem inp fs (now.set k v) y=evAt R first mem inp fs now y:=λy hy JA v=>by
   unfold evAt;exact eval_agree (at_:=at_) (r:=⟨first,mem,inp,now.set k v⟩) (r':=⟨first,mem,inp,now⟩) jy rfl rfl _ (hk y hy).2.1 _ _ (λ_ _=>rfl) λx hx'=>hx x (JA x ((hk y hy).2.2 x hx')) v
  have hsubd:∀y∈done,∀x∈g.getD y [],x∈done:=λy hy x hxg=>by
   obtain⟨i,hi,rfl⟩:=List.mem_iff_getElem.1 hy;have h3:=(ht i (by simp;omega)).2;rw[List.getElem_append_left hi,List.take_append_of_le_length (by omega)] at h3;exact List.mem_of_mem_take (h3 x hxg)
  have Jp:nowM R first mem inp fs (k :: rest) now t=nowM R first mem inp fs rest (now.set k (evAt R first mem inp fs now k).1) (t || (evAt R first mem inp fs now k).2):=rfl;rw[Jp];have xO:=now_go jy first mem inp fs g rest (done++[k]) (now.set k (evAt R first mem inp fs now k).1) (t || (evAt R first mem inp fs now k).2) (by simpa using ht) (λy hy=>by simpa using hk y (by simpa using hy)) (λy hy=>by
   rcases List.mem_append.1 hy with hy|hy
   .rw [hx y hy,h1 y hy,zH y (List.mem_append_left _ hy) (hsubd y hy)]
   .obtain rfl:=List.mem_singleton.1 hy;rw[zH y (by simp) hneed];simp[Ygg,Hd]) (by
   rw[List.any_append,h2]
   congr 1
   .rw [Bool.eq_iff_iff];simp only[List.any_eq_true];constructor
    .rintro⟨y,hy,h⟩;exact⟨y,hy,by rw[zH y (List.mem_append_left _ hy) (hsubd y hy)];exact h⟩
    rintro⟨y,hy,h⟩;exact⟨y,hy,by rw[zH y (List.mem_append_left _ hy) (hsubd y hy)] at h;exact h⟩
   simp[zH k (by simp) hneed])
  simpa using xO
theorem withAt_get?:∀(l:List Ex) (m k:Nat) (h:k<l.length),(Za4 m l)[k]?=some (l[k],m+Zag (l.take k))
 | [],m,k,h=>by simp at h
 |e :: l,m,0,_=>by simp[Za4,Zag]
 |e :: l,m,k+1,h=>by
  simp only[Za4,List.getElem?_cons_succ,List.getElem_cons_succ,List.take_succ_cons,Zag];rw[withAt_get? l (m+memN e) k (by simpa using h),Nat.add_assoc]
def flAt(p:Pr)(k:Nat):Nat:=Zag ((p.fl.map (·.e)).take k)
theorem Ziz(p:Pr)(ord:List Nat)(k:Nat)(h:k<p.fl.length):(cdOf p ord).fs.getD k d0=(p.fl[k].e,flAt p k):=by
 have:=withAt_get? (p.fl.map (·.e)) 0 k (by simpa using h);show(Za4 0 (p.fl.map (·.e))).getD k d0=_;rw[Ygg,this];simp[flAt]
theorem now_fix{p:Pr}(h:(Za2 p).1=0){ks:Env Int}(hks:Zao Env.none p.vars=some ks){ord:List Nat}(ho:Za5 p=.ok ord)(R:REnv)(hnmR:R.nm=getI (Zah p))(first:Bool)(mem inp:List Vl):
  (nowM R first mem inp (cdOf p ord).fs ord (List.replicate p.fl.length vz) false).1.length=p.fl.length/\
  (∀k (hk:k<p.fl.length),(nowM R first mem inp (cdOf p ord).fs ord (List.replicate p.fl.length vz) false).1.getD k vz=(Za6 R ⟨first,mem,inp,(nowM R first mem inp (cdOf p ord).fs ord (List.replicate p.fl.length vz) false).1⟩ (flAt p k) p.fl[k].e).1)/\
  ((nowM R first mem inp (cdOf p ord).fs ord (List.replicate p.fl.length vz) false).2=true↔∃k,∃hk:k<p.fl.length,(Za6 R ⟨first,mem,inp,(nowM R first mem inp (cdOf p ord).fs ord (List.replicate p.fl.length vz) false).1⟩ (flAt p k) p.fl[k].e).2=true):=by
 obtain⟨J0,Ho,Jm⟩:=Zbg ho;obtain⟨ks',kP,_,ji,_⟩:=Zb9 J0;rw[hks] at kP;cases kP;have jX:∀k (hk:k<p.fl.length),Zad ks p.fl[k].e=true:=λk hk=>by
  obtain⟨i,hi,e⟩:=List.mem_iff_getElem.1 (Zeh p (Ymm hk));rw[<- e];exact(Zbe ks _).1 ji i hi
 have xO:=now_go (R:=R) (ks:=ks) (at_:=p.atOf) (λs h1 h2=>by rw[hnmR] at h2 ⊢;exact nm_at J0 hks s h1 h2) first mem inp (cdOf p ord).fs p.graph ord [] (List.replicate p.fl.length vz) false (by simpa using Zfs ho) (λk hk=>by
  have Hd:=Jm k (by simpa using hk);refine⟨by simpa using Hd,by rw[Ziz p ord k Hd];exact jX k Hd,λx hx=>?_⟩;rw[Ziz p ord k Hd] at hx;have:p.graph.getD k []=needs p.atOf p.fl[k].e:=by simp[Pr.graph,Ygg,Hd]
  rw[this];exact hx) (λk hk=>by cases hk) (by simp)
 generalize nowM R first mem inp (cdOf p ord).fs ord (List.replicate p.fl.length vz) false=N at *;obtain⟨g1,g2,g3⟩:=xO;refine⟨by simpa using g1,λk hk=>?_,?_⟩
 .have:=g2 k (by simpa using Zgf ho k hk);unfold evAt at this;rw[Ziz p ord k hk] at this;exact this
 rw[g3,List.any_eq_true];constructor
 .rintro⟨k,hk,h⟩;have Hd:=Jm k (by simpa using hk);unfold evAt at h;rw[Ziz p ord k Hd] at h;exact⟨k,Hd,h⟩
 rintro⟨k,hk,h⟩;refine⟨k,by simpa using Zgf ho k hk,?_⟩;unfold evAt;rw[Ziz p ord k hk];exact h
def Zet(ks:Env Int)(KM:Nat->Int)(m:Nat)(e:Ex):Prop:=∀(j:Nat) (x:Ex×Nat),(Zbs m e)[j]?=some x->KM (m+j)=Zai ks x.1
def Zf2(ks:Env Int)(KM:Nat->Int)(m:Nat)(l:List Ex):Prop:=∀(j:Nat) (x:Ex×Nat),(Zab m l)[j]?=some x->KM (m+j)=Zai ks x.1
theorem Zf2.cons{ks:Env Int}{KM:Nat->Int}{m:Nat}{e:Ex}{l:List Ex}(h:Zf2 ks KM m (e :: l)):Zet ks KM m e/\Zf2 ks KM (m+memN e) l:=by
 refine⟨λj x hx=>h j x ?_,λj x hx=>?_⟩
 .rw [Zab,List.getElem?_append_left]
  .exact hx
  exact(List.getElem?_eq_some_iff.1 hx).1
 have:=h (memN e+j) x (by
  rw[Zab,List.getElem?_append_right (by rw[Zfd];omega),Zfd,Nat.add_sub_cancel_left];exact hx)
 rw[Nat.add_assoc];exact this
theorem Zf2.at{ks:Env Int}{KM:Nat->Int}:∀{l:List Ex} {m:Nat},Zf2 ks KM m l->∀i (h:i<l.length),Zet ks KM (m+Zag (l.take i)) l[i]
 | [],_,_,i,hi=>by simp at hi
 |e :: l,m,h,0,_=>by simpa[Zag] using h.cons.1
 |e :: l,m,h,i+1,hi=>by
  have:=h.cons.2.at i (by simpa using hi);simp only[List.take_succ_cons,Zag,List.getElem_cons_succ];rw[<- Nat.add_assoc];exact this
theorem Zet.parts{ks:Env Int}{KM:Nat->Int}{m:Nat}{o:ByteArray}{n:Int}{s:ByteArray}{l:List Ex}(h:Zet ks KM m (.mk o n s l)):Zf2 ks KM m l/\(o=oPre\/o=oFby->KM (m+Zag l)=Zai ks (.mk o n s l)):=by
 refine⟨λj x hx=>h j x ?_,λho=>h (Zag l) (.mk o n s l,m) ?_⟩
 .rw [Zbs,List.getElem?_append_left]
  .exact hx
  exact(List.getElem?_eq_some_iff.1 hx).1
 rw[Zbs,List.getElem?_append_right (by rw[Zaw];omega),Zaw,Nat.sub_self,if_pos ho];rfl
theorem Zda:∀{l:List Ex} {m:Nat} {x:Ex×Nat},x∈Zab m l->∃i,∃h:i<l.length,x∈Zbs (m+Zag (l.take i)) l[i]
 | [],_,_,h=>by simp[Zab] at h
 |e :: l,m,x,h=>by
  simp only[Zab,List.mem_append] at h;rcases h with h|h
  .exact⟨0,by simp,by simpa[Zag] using h⟩
  obtain⟨i,hi,hx⟩:=Zda h;exact⟨i+1,by simpa using hi,by simpa[Zag,Nat.add_assoc] using hx⟩
theorem Zet.nds{ks:Env Int}{KM:Nat->Int}:∀(e:Ex) (m:Nat),Zet ks KM m e->∀x∈Zbs m e,Zet ks KM x.2 x.1:=by
 refine Ex.ind λo n s l ih m h x hx=>?_;simp only[Zbs,List.mem_append] at hx;rcases hx with hx|hx
 .obtain⟨i,hi,hx⟩:=Zda hx;exact ih _ (Ymm hi) _ (h.parts.1.at i hi) x hx
 split at hx
 .rw [List.mem_singleton.1 hx];exact h
 cases hx
structure TyR(R:REnv)(ks:Env Int)(at_:Env Nat)(K:Nat->Int)(L:Nat)(inp:List Vl):Prop where
 kse:R.ks=ks
 nil : -128<=R.ni/\R.ni<=127
 two:∀s k,ks s=some k->k=1\/k=2
 inp:∀s k,ks s=some k->R.nm s<0->Zaq (inp.getD (-1 - R.nm s).toNat vz) k=true
 flow:∀s k,ks s=some k->0<=R.nm s->at_ s=some (R.nm s).toNat/\K (R.nm s).toNat=k/\(R.nm s).toNat<L
theorem kind_two{ks:Env Int}(h:∀s k,ks s=some k->k=1\/k=2):∀e:Ex,Zai ks e=0\/Zai ks e=1\/Zai ks e=2:=by
 refine Ex.ind λo n s l ih=>?_;by_cases h0:Zai ks (.mk o n s l)=0
 .exact .inl h0
 obtain⟨hk,hp⟩:=Zem h0;have hg:∀x∈Zap ks l,x=1\/x=2:=λx hx=>by
  rw[Zdg] at hx;obtain⟨e,he,rfl⟩:=List.mem_map.1 hx;exact(ih e he).resolve_left (hp e he)
 have hd:∀j,(Zap ks l).getD j 0=0\/(Zap ks l).getD j 0=1\/(Zap ks l).getD j 0=2:=λj=>by
  by_cases hj:j<(Zap ks l).length
  .have:(Zap ks l).getD j 0=(Zap ks l)[j]:=by simp[Ygg,hj]
   rw[this];exact .inr (hg _ (Ymm hj))
  exact .inl (by simp[Ygg,hj])
 have hs:(ks s).getD 0=0\/(ks s).getD 0=1\/(ks s).getD 0=2:=by
  cases e:ks s with
  |none=>exact .inl rfl
  |some k=>exact .inr (h s k e)
 have hh:(Zap ks l).headD 0=(Zap ks l).getD 0 0:=by cases Zap ks l<;>rfl
 rw[hk];unfold Zct;rw[hh];dsimp only
 repeat' split
 all_goals first
  |exact .inl rfl
  |exact .inr (.inl rfl)
  |exact .inr (.inr rfl)
  |exact hs
  |exact hd _
theorem form_op{o:ByteArray}{n:Int}{s:ByteArray}{l:List Ex}(h:form (.mk o n s l)=true):o∈opsL:=by
 unfold form at h;simp only[Ex.op] at h;cases e:Zcx o with
 |none=>rw[e] at h;cases h
 |some k=>exact arity_ops e
theorem two_ends(f:Ex->Int):∀{l:List Ex} (h:l.length=2),(l.map f).headD 0=f (l[0]'(by omega))/\(l.map f).getLastD 0=f (l[1]'(by omega))
 | [a,b],_=>⟨rfl,rfl⟩
theorem ty_eval{R:REnv}{ks:Env Int}{at_:Env Nat}{K KM:Nat->Int}{L:Nat}{r:Inst}(hR:TyR R ks at_ K L r.inp):
  ∀e:Ex,Zad ks e=true->Zai ks e≠0->∀m,Zet ks KM m e->(∀j,j<memN e->Zaq (r.mem.getD (m+j) vz) (KM (m+j))=true)->(∀k∈needs at_ e,k<L->Zaq (r.now.getD k vz) (K k)=true)->
   Zaq (Za6 R r m e).1 (Zai ks e)=true:=by
 refine Ex.ind λo n s l ih j9 j8 m qn hm hn=>?_;obtain⟨JA,Jj,jq,hZ,_⟩:=Zax j9;obtain⟨kh,hkp⟩:=Zem j8;obtain⟨hplL,hplO⟩:=qn.parts;rw[Zhc] at hm;have jX:form (.mk o n s l)=true/\o≠Zko/\(o=Zb2->(ks s).isSome=true):=by
  simp only[Zad,Bool.and_eq_true,Bool.or_eq_true,decide_eq_true_eq] at j9;exact⟨j9.1.1.1,j9.1.1.2,λe=>j9.1.2.resolve_left (λh=>h e)⟩
 have hL:∀(l:List Ex) (m k:Nat),(∀e∈l,Zad ks e=true->Zai ks e≠0->∀m,Zet ks KM m e->(∀j,j<memN e->Zaq (r.mem.getD (m+j) vz) (KM (m+j))=true)->(∀k∈needs at_ e,k<L->Zaq (r.now.getD k vz) (K k)=true)->Zaq (Za6 R r m e).1 (Zai ks e)=true)->
   (∀e∈l,Zad ks e=true)->(∀e∈l,Zai ks e≠0)->Zf2 ks KM m l->(∀j,j<Zag l->Zaq (r.mem.getD (m+j) vz) (KM (m+j))=true)->(∀i (h:i<l.length),i<k->∀x∈needs at_ l[i],x<L->Zaq (r.now.getD x vz) (K x)=true)->
   ∀i (h:i<l.length),i<k->Zaq ((Zaz R r m k l).1.getD i vz) (Zai ks l[i])=true:=by
  intro l
  induction l with
  |nil=>intro m k _ _ _ _ _ _ i hi;simp at hi
  |cons e l ihl=>
   intro m k hh kQ hkk hp zX hnn i hi jp;cases k with
   |zero=>omega
   |succ k=>
    simp only[Zaz];simp only[Zag] at zX;cases i with
    |zero=>exact hh e (List.mem_cons_self ..) (kQ e (List.mem_cons_self ..)) (hkk e (List.mem_cons_self ..)) m hp.cons.1 (λj hj=>zX j (by omega)) (λx hx=>hnn 0 (by simp) (by omega) x (by simpa using hx))
    |succ i=>
     have:=ihl (m+memN e) k (λy hy=>hh y (List.mem_cons_of_mem _ hy)) (λy hy=>kQ y (List.mem_cons_of_mem _ hy)) (λy hy=>hkk y (List.mem_cons_of_mem _ hy)) hp.cons.2 (λj hj=>by
      have:=zX (memN e+j) (by omega);rw[<- Nat.add_assoc] at this;exact this) (λi h jp x hx=>hnn (i+1) (by simpa using h) (by omega) x (by simpa using hx)) i (by simpa using hi) (by omega)
     simpa using this
 have yd:∀i (h:i<l.length),i<(if o=oPre then 0 else if o=oFby then 1 else l.length)->Zaq ((Zaz R r m (if o=oPre then 0 else if o=oFby then 1 else l.length) l).1.getD i vz) (Zai ks l[i])=true:=by
  refine hL l m _ (λe he=>ih e he) JA hkp hplL (λj hj=>hm j (by omega)) λi h jp x hx=>hn x ?_;simp only[needs];by_cases e1:o=oPre
  .rw [if_pos e1] at jp;omega
  rw[if_neg e1] at jp ⊢;by_cases e2:o=oFby
  .rw [if_pos e2] at jp ⊢;obtain rfl:i=0:=by omega
   cases l with
   |nil=>simp at h
   |cons y l=>simpa[Zgj] using hx
  rw[if_neg e2];exact List.mem_append_right _ (Zg9 (Ymm h) hx)
 have zq:=Zfj R r l m (if o=oPre then 0 else if o=oFby then 1 else l.length);have hk12:Zai ks (.mk o n s l)=1\/Zai ks (.mk o n s l)=2:=(kind_two hR.two _).resolve_left j8;have Hl:o=oPre\/o=oFby->Zaq (r.mem.getD (m+Zag l) vz) (Zai ks (.mk o n s l))=true:=λho=>by
  rw[<- hplO ho];exact hm _ (by rw[if_pos ho];omega)
 simp only[Za6];by_cases HJ:(r.first&&decide (0<lateOf R.lt (.mk o n s l)))=true
 .rw [if_pos HJ,hR.kse];exact right_nil hR.nil.1 hR.nil.2 hk12
 rw[if_neg HJ];generalize decide (0<lateOf R.lt (.mk o n s l))=late at *;generalize hvsE:Zaz R r m (if o=oPre then 0 else if o=oFby then 1 else l.length) l=V at *;unfold valM;by_cases e1:o=oInt
 .subst e1;rw[if_pos rfl,kh];have h2:=form_int jX.1;have:Zct oInt ((ks s).getD 0) (Zap ks l)=2:=rfl;rw[this];simp[Zaq];omega
 rw[if_neg e1];by_cases e2:o=Zc9\/o=Zch
 .rw [if_pos e2,kh];have:Zct o ((ks s).getD 0) (Zap ks l)=1:=by unfold Zct;rw[if_neg e1,if_pos e2]
  rw[this];exact Zkv _
 rw[if_neg e2];by_cases e3:o=Zb2
 .rw [if_pos e3];have h5:=jX.2.2 e3;obtain⟨k,hk⟩:=Option.isSome_iff_exists.1 h5;have:Zct o ((ks s).getD 0) (Zap ks l)=k:=by unfold Zct;rw[if_neg e1,if_neg e2,if_pos e3,hk];rfl
  rw[kh,this];by_cases h5:R.nm s<0
  .rw [if_pos h5];exact hR.inp s k hk h5
  rw[if_neg h5];obtain⟨a1,a2,a3⟩:=hR.flow s k hk (by omega);have:=hn (R.nm s).toNat (by
   simp only[needs];rw[if_neg (by rw[e3];decide),if_neg (by rw[e3];decide),if_pos e3,a1];simp) a3
  rw[a2] at this;exact this
 rw[if_neg e3];by_cases e4:o=oPre
 .rw [if_pos e4];exact Hl (.inl e4)
 rw[if_neg e4];rw[if_neg e4] at yd zq;by_cases e5:o=oFby
 .rw [if_pos e5];rw[if_pos e5] at yd zq;by_cases hf:r.first=true
  .rw [if_pos hf];have jU:=Jj e5;have h0:=yd 0 (by omega) (by omega);have:Zai ks (.mk o n s l)=Zai ks (l[0]'(by omega)):=by
    rw[kh] at j8 ⊢;subst e5;have e:Zct oFby ((ks s).getD 0) (Zap ks l)=(if (decide (0<(Zap ks l).length)&&decide ((Zap ks l).headD 0=(Zap ks l).getLastD 0))=true then(Zap ks l).headD 0 else 0):=rfl;rw[e] at j8 ⊢
    split
    .rw [Zdg]
     match l,jU with
     | [a,b],_=>rfl
    rename_i hc;rw[if_neg hc] at j8;exact absurd rfl j8
   rw[this];exact h0
  rw[if_neg hf];exact Hl (.inr e5)
 rw[if_neg e5];rw[if_neg e5] at yd zq;by_cases e6:o=Zbk
 .rw [if_pos e6];have jU:=jq e6;have h0:=yd 0 (by omega) (by omega);have h1:=yd 1 (by omega) (by omega);have:Zai ks (.mk o n s l)=Zai ks (l[0]'(by omega))/\Zai ks (.mk o n s l)=Zai ks (l[1]'(by omega)):=by
   rw[kh] at j8 ⊢;subst e6;have e:Zct Zbk ((ks s).getD 0) (Zap ks l)=(if (decide (0<(Zap ks l).length)&&decide ((Zap ks l).headD 0=(Zap ks l).getLastD 0))=true then(Zap ks l).headD 0 else 0):=rfl;rw[e] at j8 ⊢
   split
   .rename_i hc
    rw[Zdg] at hc ⊢;simp only[Bool.and_eq_true,decide_eq_true_eq] at hc;obtain⟨q1,q2⟩:=two_ends (Zai ks) jU;have zI:=hc.2;rw[q1,q2] at zI;rw[q1];exact⟨rfl,zI⟩
   rename_i hc;rw[if_neg hc] at j8;exact absurd rfl j8
  by_cases hf:r.first=true
  .rw [if_pos hf,this.1];exact h0
  rw[if_neg hf,this.2];exact h1
 rw[if_neg e6];have Ho:V.1.length=l.length:=by rw[zq];omega
 have hmapk:V.1.map (·.kind)=Zap ks l:=by
  rw[Zdg];apply List.ext_getElem (by simp[Ho]);intro i h1 h2;have hi:i<l.length:=by simpa using h2
  have:=yd i hi (by omega);have e:V.1.getD i vz=V.1[i]'(by omega):=by simp[Ygg,show i<V.1.length from by omega]
  rw[e] at this;simpa using(Zel this).1
 have hvr:∀v∈V.1,Zaq v v.kind=true:=λv hv=>by
  obtain⟨i,hi,rfl⟩:=List.mem_iff_getElem.1 hv;have:=yd i (by omega) (by omega);have e:V.1.getD i vz=V.1[i]:=by simp[Ygg,hi]
  rw[e] at this;rw[(Zel this).1];exact this
 have ha:=app_right (k:=(ks s).getD 0) (form_op jX.1) ⟨e1,λe=>e2 (.inl e),λe=>e2 (.inr e),e3,e4,e6,e5,jX.2.1⟩ hvr (by rw[hmapk,<- kh];exact j8);rw[hmapk,<- kh] at ha
 split at ha
 .rename_i ht
  rw[if_pos ht,ha];exact right_wv 0
 rename_i ht
 rw[if_neg ht];exact ha
end Go.Proofs.YtafapnolamcdmaaGreatDoor
