/- Plain: flat.Program.Kinds, the names of flow.Compile; what a run reads lies there: no program in sight. -/
import Derived.Test.YtafapnolamcdmaaGreatDoorVa
import Derived.Test.YtafapnolamcdmaaGreatDoorBs
set_option linter.all false
namespace Go.Proofs.YtafapnolamcdmaaGreatDoor
open Go.RowKit Mx
def Zdb:Env Int->List (ByteArray×Int)->Env Int
 |m,[]=>m
 |m,x :: r=>Zdb (m.set x.1 x.2) r
def kindsM(p:Pr):Env Int:=Zdb Env.none p.vars
theorem Zhq:∀(l:List (ByteArray×Int)) (m ks:Env Int),Zao m l=some ks->Zdb m l=ks
 | [],m,ks,h=>by simp only[Zao] at h;cases h;rfl
 |x :: l,m,ks,h=>by
  simp only[Zao] at h
  split at h
  .exact Zhq l _ ks h
  cases h
theorem Zfw:∀(l:List (ByteArray×Int)) (m:Env Int) (x:ByteArray×Int),Zdb m (l++[x])=(Zdb m l).set x.1 x.2
 | [],m,x=>rfl
 |y :: l,m,x=>by simp only[List.cons_append,Zdb];exact Zfw l _ x
theorem kinds_in(p:Pr)(k:Nat)(h:k<p.ins.length):Zdb Env.none (p.vars.take (k+1))=(Zdb Env.none (p.vars.take k)).set p.ins[k].name p.ins[k].kind:=by
 have hv:k<p.vars.length:=by rw[Zgw];omega
 rw[List.take_succ_eq_append_getElem hv,Zfw,vars_in p k h hv]
theorem kinds_fl(p:Pr)(k:Nat)(h:k<p.fl.length):Zdb Env.none (p.vars.take (p.ins.length+(k+1)))=(Zdb Env.none (p.vars.take (p.ins.length+k))).set p.fl[k].name p.fl[k].kind:=by
 have hv:p.ins.length+k<p.vars.length:=by rw[Zgw];omega
 rw[<- Nat.add_assoc,List.take_succ_eq_append_getElem hv,Zfw,vars_fl p k h hv]
theorem kinds_end(p:Pr):Zdb Env.none (p.vars.take (p.ins.length+p.fl.length))=kindsM p:=by
 rw[<- Zgw,List.take_length];rfl
theorem Zkb:∀(l:List Vr) (i:Nat) (m:Env Int) (v:Vr),Zcs i m (l++[v])=(Zcs i m l).set v.name (-1 - ((i+l.length:Nat):Int))
 | [],i,m,v=>rfl
 |x :: l,i,m,v=>by
  simp only[List.cons_append,Zcs,List.length_cons];rw[Zkb l (i+1),show i+1+l.length=i+(l.length+1) from by omega]
theorem Zkh:∀(l:List Fl) (i:Nat) (m:Env Int) (f:Fl),Zds i m (l++[f])=(Zds i m l).set f.name ((i+l.length:Nat):Int)
 | [],i,m,f=>rfl
 |x :: l,i,m,f=>by
  simp only[List.cons_append,Zds,List.length_cons];rw[Zkh l (i+1),show i+1+l.length=i+(l.length+1) from by omega]
theorem inNames_take(l:List Vr)(k:Nat)(h:k<l.length):Zcs 0 Env.none (l.take (k+1))=(Zcs 0 Env.none (l.take k)).set l[k].name (-1 - (k:Int)):=by
 rw[List.take_succ_eq_append_getElem h,Zkb];simp only[List.length_take,Nat.min_eq_left (Nat.le_of_lt h),Nat.zero_add]
theorem flNames_take(m:Env Int)(l:List Fl)(k:Nat)(h:k<l.length):Zds 0 m (l.take (k+1))=(Zds 0 m (l.take k)).set l[k].name (k:Int):=by
 rw[List.take_succ_eq_append_getElem h,Zkh];simp only[List.length_take,Nat.min_eq_left (Nat.le_of_lt h),Nat.zero_add]
theorem inNames_lt:∀(l:List Vr) (i:Nat) (m:Env Int) (s:ByteArray),(s∈l.map (·.name)\/∃j:Nat,j<i+l.length/\m s=some (-1 - (j:Int)))->∃j:Nat,j<i+l.length/\Zcs i m l s=some (-1 - (j:Int))
 | [],i,m,s,h=>h.elim (λh=>by simp at h) id
 |v :: l,i,m,s,h=>by
  rw[Zcs];have hs:i+1+l.length=i+(v :: l).length:=by simp;omega
  rw[<- hs];refine inNames_lt l (i+1) _ s ?_;by_cases e:s=v.name
  .exact .inr ⟨i,by omega,by rw[e,Env.set_self]⟩
  rcases h with h|⟨j,hj,h⟩
  .simp only[List.map_cons,List.mem_cons] at h;exact .inl (h.resolve_left e)
  exact .inr ⟨j,by rw[hs];exact hj,by rw[Env.set_other _ _ e];exact h⟩
theorem Zik{p:Pr}(J0:Zak p=0){ks:Env Int}(hks:Zao Env.none p.vars=some ks)(s:ByteArray)(h1:(ks s).isSome=true):
  (getI (Zah p) s<0->(-1 - getI (Zah p) s).toNat<p.ins.length)/\(0<=getI (Zah p) s->(getI (Zah p) s).toNat<p.fl.length):=by
 rcases Zfh _ _ _ hks h1 with h|h
 .simp [Env.none] at h
 by_cases hf:s∈p.fl.map (·.name)
 .obtain⟨k,hk,e⟩:=List.mem_iff_getElem.1 hf;have qZ:k<p.fl.length:=by simpa using hk
  have e':p.fl[k].name=s:=by simpa using e
  have:=Zgi J0 k qZ;rw[e'] at this;rw[this];exact⟨λh=>by omega,λ_=>by simpa using qZ⟩
 have hi:s∈p.ins.map (·.name):=by
  simp only[Pr.vars,List.map_append,List.map_map,List.mem_append] at h;rcases h with h|h
  .exact h
  exact absurd h hf
 obtain⟨j,hj,he⟩:=inNames_lt p.ins 0 Env.none s (.inl hi);have:getI (Zah p) s = -1 - (j:Int):=by
  unfold getI Zah;rw[Zd1 _ _ _ _ hf,he];rfl
 rw[this];exact⟨λ_=>by omega,λh=>by omega⟩
theorem evOk_of{R:REnv}{r:Inst}(jy:∀s,(R.ks s).isSome=true->(R.nm s<0->(-1 - R.nm s).toNat<r.inp.length)/\(0<=R.nm s->(R.nm s).toNat<r.now.length)):
  ∀(e:Ex),Zad R.ks e=true->∀m,m+memN e<=r.mem.length->EvOk R r e m:=by
 refine Ex.ind λo n s l ih hf m hm=>?_;have JA:=(Zax hf).1;simp only[memN] at hm;simp only[EvOk];refine⟨⟨λho h=>?_,λho h=>?_,λho=>by rw[if_pos ho] at hm;omega⟩,?_⟩
 .have hks:(R.ks s).isSome=true:=by
   simp only[Zad,Bool.and_eq_true,Bool.or_eq_true,decide_eq_true_eq] at hf;exact hf.1.2.resolve_left (λh=>h ho)
  exact(jy s hks).1 h
 .have hks:(R.ks s).isSome=true:=by
   simp only[Zad,Bool.and_eq_true,Bool.or_eq_true,decide_eq_true_eq] at hf;exact hf.1.2.resolve_left (λh=>h ho)
  exact(jy s hks).2 h
 have hL:∀(l:List Ex),(∀e∈l,∀m,m+memN e<=r.mem.length->EvOk R r e m)->∀m,m+Zag l<=r.mem.length->EvOkL R r l m:=by
  intro l
  induction l with
  |nil=>intro _ m _;simp only[EvOkL]
  |cons e l ihl=>
   intro hh m hm;simp only[Zag] at hm;simp only[EvOkL];exact⟨hh e (List.mem_cons_self ..) m (by omega),ihl (λy hy=>hh y (List.mem_cons_of_mem _ hy)) _ (by omega)⟩
 exact hL l (λe he m hm=>ih e he (JA e he) m hm) m (by omega)
theorem Zgu:∀(l:List Ex) (m:Nat),∀x∈Za4 m l,m<=x.2/\x.2+memN x.1<=m+Zag l
 | [],m,x,h=>by cases h
 |e :: l,m,x,h=>by
  simp only[Za4,List.mem_cons,Zag] at h ⊢;rcases h with rfl|h
  .exact⟨Nat.le_refl _,by dsimp only;omega⟩
  have:=Zgu l (m+memN e) x h;omega
theorem withAt_get:∀(l:List Ex) (m i:Nat) (h:i<l.length) (h':i<(Za4 m l).length),(Za4 m l)[i]=(l[i],m+Zag (l.take i))
 |e :: l,m,0,_,_=>by simp[Za4,Zag]
 |e :: l,m,i+1,h,h'=>by
  simp only[Za4,List.getElem_cons_succ,List.take_succ_cons,Zag];rw[withAt_get l (m+memN e) i (by simpa using h)];rw[Nat.add_assoc]
mutual
theorem memNds_fit:∀(e:Ex) (m:Nat),∀x∈Zbs m e,m<=x.2/\x.2+memN x.1<=m+memN e
 | .mk o n s l,m,x,h=>by
  simp only[Zbs,List.mem_append] at h;simp only[memN];rcases h with h|h
  .have:=Zh4 l m x h;omega
  split at h
  .rename_i ho
   rw[List.mem_singleton.1 h];simp only[memN];rw[if_pos ho];exact⟨Nat.le_refl _,by omega⟩
  cases h
theorem Zh4:∀(l:List Ex) (m:Nat),∀x∈Zab m l,m<=x.2/\x.2+memN x.1<=m+Zag l
 | [],m,x,h=>by simp[Zab] at h
 |e :: l,m,x,h=>by
  simp only[Zab,List.mem_append] at h;simp only[Zag];rcases h with h|h
  .have:=memNds_fit e m x h;omega
  have:=Zh4 l (m+memN e) x h;omega
end
mutual
theorem memNds_form(ks:Env Int):∀(e:Ex),Zad ks e=true->∀(m:Nat),∀x∈Zbs m e,Zad ks x.1=true/\(x.1.op=oPre\/x.1.op=oFby)
 | .mk o n s l,hf,m,x,h=>by
  simp only[Zbs,List.mem_append] at h;rcases h with h|h
  .exact Zd9 ks l (Zax hf).1 m x h
  split at h
  .rename_i ho
   rw[List.mem_singleton.1 h];exact⟨hf,ho⟩
  cases h
theorem Zd9(ks:Env Int):∀(l:List Ex),(∀e∈l,Zad ks e=true)->∀(m:Nat),∀x∈Zab m l,Zad ks x.1=true/\(x.1.op=oPre\/x.1.op=oFby)
 | [],_,m,x,h=>by simp[Zab] at h
 |e :: l,hf,m,x,h=>by
  simp only[Zab,List.mem_append] at h;rcases h with h|h
  .exact memNds_form ks e (hf e (List.mem_cons_self ..)) m x h
  exact Zd9 ks l (λy hy=>hf y (List.mem_cons_of_mem _ hy)) _ x h
end
mutual
theorem memN_le:∀e:Ex,memN e<=e.parts
 | .mk o n s l=>by
  have:=Zil l;simp only[memN,Ex.parts]
  split<;>omega
theorem Zil:∀l:List Ex,Zag l<=Ex.partsL l
 | []=>by simp[Zag,Ex.partsL]
 |e :: l=>by
  have:=memN_le e;have:=Zil l;simp only[Zag,Ex.partsL];omega
end
theorem all_of{w:World}{K:Kn}(h:K.In w):K.le (Zan w):=λb o e=>h b o e
structure CoS(NT PT CT:TypeId)(R:REnv)(H:Kn)(w0 wr:World)(B base:Nat)(cs:Array Value)(j:Nat)(M0:List (Ex×Nat))(l:List Ex)(dm done:Nat)(pu:Value)(qs:List Nat)(K:Kn)(u:Value)(ps:List Nat):Prop where
 le:H.le K
 isin:K.In wr
 below:Ybw w0 wr
 noB:K B=none
 hB:w0.heap.size<=B
 cd:CdS PT CT wr B base (cs.setIfInBounds j pu) u ps
 mem:PsAt NT R K (M0++Zab M0.length (l.take dm)) ps
 noM:∀g,u.ownBlock=some g->K g=none
 row:wr.ownsRow base PT 1 pu done (qs.map ptrV)
 noP:∀g,pu.ownBlock=some g->K g=none
 ql:qs.length=done
 nds:∀i (h:i<qs.length) (h2:i<l.length),NdAt NT R K l[i] (M0.length+Zag (l.take i)) qs[i]
 apart:∀g,pu.ownBlock=some g->u.ownBlock≠some g
 low:base<=wr.heap.size
section
variable {NT PT CT : TypeId} {R : REnv} {H K : Kn} {w0 wr : World} {B base j : Nat} {cs : Array Value} {M0 : List (Ex × Nat)} {l : List Ex} {dm done : Nat} {pu : Value} {qs : List Nat} {u : Value} {ps : List Nat}
theorem CoS.bb(h:CoS NT PT CT R H w0 wr B base cs j M0 l dm done pu qs K u ps):B<base:=h.cd.low
theorem CoS.pB(h:CoS NT PT CT R H w0 wr B base cs j M0 l dm done pu qs K u ps):pu.ownBlock≠some B:=Zbj h.row h.bb
theorem CoS.mlen(h:CoS NT PT CT R H w0 wr B base cs j M0 l dm done pu qs K u ps):ps.length=M0.length+Zag (l.take dm):=by
 rw[h.mem.len,List.length_append,Zaw]
theorem CoS.next{w':World}(h:CoS NT PT CT R H w0 wr B base cs j M0 l dm done pu qs K u ps)(hb:Ybw wr w'):CoS NT PT CT R H w0 w' B base cs j M0 l dm done pu qs K u ps:=
 ⟨h.le,h.isin.below hb,h.below.trans (hb.mono h.below.size),h.noB,h.hB,h.cd.below hb,h.mem,h.noM,Za1 h.row hb,h.noP,h.ql,h.nds,h.apart,Nat.le_trans h.low hb.size⟩
theorem CoS.alloc(h:CoS NT PT CT R H w0 wr B base cs j M0 l dm done pu qs K u ps)(o:Obj):CoS NT PT CT R H w0 (wr.alloc o) B base cs j M0 l dm done pu qs K u ps:=h.next ((Below.refl _ _).alloc Ylr o)
theorem CoS.cell(h:CoS NT PT CT R H w0 wr B base cs j M0 l dm done pu qs K u ps)(hj:j<cs.size)(jv:j≠10):wr.cell? ⟨B,j,none⟩=some pu:=by
 have hb:=h.cd.box;simp[World.cell?,hb,hj,Ne.symm jv]
theorem CoS.other(h:CoS NT PT CT R H w0 wr B base cs j M0 l dm done pu qs K u ps){i:Nat}(hi:i≠j)(jv:i≠10):wr.cell? ⟨B,i,none⟩=cs[i]?:=by
 have hb:=h.cd.box;simp[World.cell?,hb,Ne.symm hi,Ne.symm jv]
theorem CoS.child{w':World}{K':Kn}{u':Value}{kX:List Nat}{x:Ex}{q:Nat}(h:CoS NT PT CT R H w0 wr B base cs j M0 l done done pu qs K u ps)(hd:done<l.length)(hx:l[done]=x)
  (k:TeD NT PT CT R K wr w' B base (cs.setIfInBounds j pu) u (M0++Zab M0.length (l.take done)++Zbs (M0++Zab M0.length (l.take done)).length x) K' u' kX) (hq:NdAt NT R K' x (M0++Zab M0.length (l.take done)).length q):
  CoS NT PT CT R H w0 w' B base cs j M0 l (done+1) done pu qs K' u' kX/\NdAt NT R K' x (M0.length+Zag (l.take done)) q:=by
 subst hx;have hbs:=h.below.size;have zK:=h.bb;have Jm:=h.low;have hhB:=h.hB;have J5:=k.gr.size;have JO:(M0++Zab M0.length (l.take done)).length=M0.length+Zag (l.take done):=by rw[List.length_append,Zaw]
 refine⟨⟨Kn.le_trans h.le k.le,k.isin,⟨k.gr.os.trans h.below.os,k.gr.tape.trans h.below.tape,k.gr.output.trans h.below.output,Nat.le_trans hbs J5,λi hi=>?_⟩,(k.fresh B (by omega)).trans h.noB,hhB,k.cd,?_,k.noM,own_gr2 h.row k.gr h.pB h.apart,λg hg=>?_,h.ql,λi h1 h2=>NdAt.le k.le _ _ _ (h.nds i h1 h2),λg hg hu=>?_,Nat.le_trans Jm J5⟩,?_⟩
 .rw [k.gr.block i (by omega) (by omega) (λe=>by have:=(h.cd.row.lt i e.symm).1;omega)];exact h.below.block i hi
 .have:=k.mem;rw[JO,List.append_assoc,<- Zj7 _ _ _ hd] at this;exact this
 .rw [k.fresh g (h.row.lt g hg).2];exact h.noP g hg
 .have Hr:=(h.row.lt g hg).2;rcases k.own g hu with h1|h1
  .omega
  exact h.apart g hg h1
 rw[JO] at hq;exact hq
theorem CoS.app{w3:World}{gg Hh q:Nat}{x:Ex}(h:CoS NT PT CT R H w0 wr B base cs j M0 l (done+1) done pu qs K u ps)(hj:j<cs.size)(jv:j≠10)(hd:done<l.length)(hx:l[done]=x)(hq:NdAt NT R K x (M0.length+Zag (l.take done)) q)
  (Hb:w3.ownsRow base PT 1 (.slice (some ⟨gg,0,none⟩) (done+1) Hh) (done+1) (qs.map ptrV++[ptrV q])) (hg:wr.grownBy w3 pu.ownBlock) (hJ:pu.ownBlock=some gg\/gg=wr.heap.size):
  w3.cell? ⟨B,j,none⟩=some pu/\w3.frozen? ⟨B,j,none⟩=false/\
   CoS NT PT CT R H w0 (w3.setCell ⟨B,j,none⟩ (.slice (some ⟨gg,0,none⟩) (done+1) Hh)) B base cs j M0 l (done+1) (done+1) (.slice (some ⟨gg,0,none⟩) (done+1) Hh) (qs++[q]) K u ps:=by
 subst hx;have hbs:=h.below.size;have zK:=h.bb;have Jm:=h.low;have hhB:=h.hB;have zj:B<wr.heap.size:=h.cd.blt;have xV:w3.heap[B]?=_:=(hg.block B zj (λe=>h.pB e.symm)).trans h.cd.box;have gy:gg≠B:=by
  have:=Zbj (b:=B) Hb zK;simpa[Value.ownBlock] using this
 have xx:K gg=none:=by
  rcases hJ with h1|rfl
  .exact h.noP gg h1
  exact h.isin.isNone Ylr
 have hug:u.ownBlock≠some gg:=by
  rcases hJ with h1|rfl
  .exact h.apart gg h1
  intro hu;have:=(h.cd.row.lt _ hu).2;omega
 have Hk:=h.isin.grown hg h.noP;have Jd:w3.ownsRow base PT 1 u ps.length (ps.map ptrV):=Zc2 h.cd.row hg λg hu hp=>h.apart g hp hu;refine⟨by simp[World.cell?,xV,hj,Ne.symm jv],by simp[World.frozen?,xV],h.le,Hk.setCell (a:=⟨B,j,none⟩) h.noB _,?_,h.noB,hhB,⟨?_,Zam Jd (h.cd.ne) _,zK⟩,h.mem,h.noM,?_,λg JH=>?_,by simp[h.ql],λi h1 h2=>?_,λg JH=>?_,?_⟩
 .refine⟨hg.os.trans h.below.os,hg.tape.trans h.below.tape,hg.output.trans h.below.output,by simp;have:=hg.size;omega,λi hi=>?_⟩;rw[Below.heap_setCell w3 ⟨B,j,none⟩ _ i (by show i≠B;omega),hg.block i (by omega) (λe=>by have:=(h.row.lt i e.symm).1;omega)];exact h.below.block i hi
 .rw [Zaa _ _ _ _ _ _ _ xV]
  congr 2
  refine Array.ext_getElem? λi=>?_;simp only[Array.getElem?_setIfInBounds,Array.size_setIfInBounds];by_cases e1:j=i
  .subst e1;simp[Ne.symm jv]
  by_cases e2:10=i
  .subst e2;simp[e1]
  simp[e1,e2]
 .rw [List.map_append];exact Zam Hb (by simpa[Value.ownBlock] using gy) _
 .have e:gg=g:=by simpa[Value.ownBlock] using JH
  rw[<- e];exact xx
 .by_cases hi:i<qs.length
  .rw [List.getElem_append_left hi];exact h.nds i hi h2
  have qK:i=qs.length:=by simp at h1;omega
  rw[List.getElem_append_right (by omega)];have hqd:=h.ql;obtain rfl:i=done:=by omega
  simpa using hq
 .have e:gg=g:=by simpa[Value.ownBlock] using JH
  rw[<- e];exact hug
 simp;have:=hg.size;omega
theorem CoS.fin(h:CoS NT PT CT R H w0 wr B base cs j M0 l l.length l.length pu qs K u ps){j':Nat}{l':List Ex}(jB:cs[j']?=some (Ys0))(Hs:j'≠j)(_h10:j'≠10):
  ∃K',K.le K'/\NdsV NT R K' (Za4 M0.length l) pu/\CoS NT PT CT R H w0 wr B base (cs.setIfInBounds j pu) j' (M0++Zab M0.length l) l' 0 0 (Ys0) [] K' u ps:=by
 have Hl:=h.mem;rw[List.take_length] at Hl;have JJ:(cs.setIfInBounds j pu).setIfInBounds j' (Ys0)=cs.setIfInBounds j pu:=by
  refine Array.ext_getElem? λi=>?_;simp only[Array.getElem?_setIfInBounds,Array.size_setIfInBounds];by_cases e1:j'=i
  .subst e1;obtain⟨h1,h2⟩:=Array.getElem?_eq_some_iff.1 jB;simp[h1,Ne.symm Hs,h2]
  simp[e1]
 have hw:(Za4 M0.length l).length=l.length:=Zb8 l _;have key:∀K',K.le K'->K'.In wr->K' B=none->(∀g,u.ownBlock=some g->K' g=none)->CoS NT PT CT R H w0 wr B base (cs.setIfInBounds j pu) j' (M0++Zab M0.length l) l' 0 0 (Ys0) [] K' u ps:=λK' He Hk hnB hnu=>
  ⟨Kn.le_trans h.le He,Hk,h.below,hnB,h.hB,by rw[JJ];exact h.cd,by simpa[Zab] using Hl.le He,hnu,World.ownsRow_nil _ _ _ _,λg hg=>by simp[Value.ownBlock] at hg,rfl,λi h1=>by simp at h1,λg hg=>by simp[Value.ownBlock] at hg,h.low⟩
 by_cases h0:l.length=0
 .obtain⟨a,c,hp,_⟩:=Zar h.row;refine⟨K,Kn.le_refl K,.inl ⟨List.eq_nil_of_length_eq_zero (by omega),a,c,by rw[hp,h0]⟩,key K (Kn.le_refl K) h.isin h.noB h.noM⟩
 obtain⟨g,Ha,hp,h1,h2,h3,h4,h5⟩:=Zbr h.row (by omega);have hpg:pu.ownBlock=some g:=by rw[hp];rfl
 have zK:=h.bb;have gy:B≠g:=by omega
 have xx:K g=none:=h.noP g hpg;have ho:wr.heap[g]?=some wr.heap[g]:=Array.getElem?_eq_getElem h4;have He:=Kn.le_add (o:=wr.heap[g]) xx;refine⟨_,He,.inr ⟨g,0,Ha,by rw[hp,hw],by rw[hw];exact h1,h2,λi hi=>?_⟩,key _ He (h.isin.add ho) (by rw[Kn.add_other _ _ gy];exact h.noB) λx hx=>by rw[Kn.add_other _ _ (λe=>h.apart g hpg (by rw[<- e];exact hx))];exact h.noM x hx⟩;have JN:i<l.length:=by omega
 have hq:i<qs.length:=by rw[h.ql];exact JN
 rw[withAt_get l _ i JN hi];refine⟨qs[i],?_,NdAt.le He _ _ _ (h.nds i hq JN)⟩;show(K.add g wr.heap[g]).cell g (0+i * 1+0)=some (ptrV qs[i]);have h6:=h5 i (ptrV qs[i]) (by simp[hq]);unfold Kn.cell;rw[Kn.add_self];simp only[World.cell?,ho] at h6;simp only[Nat.zero_add,Nat.mul_one,Nat.add_zero];cases hc:wr.heap[g]<;>simp_all
end
theorem CoS.rebase{NT PT CT:TypeId}{R:REnv}{H K:Kn}{w0 wr:World}{B base j:Nat}{cs:Array Value}{M0:List (Ex×Nat)}{l:List Ex}{dm done:Nat}{pu:Value}{qs:List Nat}{u:Value}{ps:List Nat}(h:CoS NT PT CT R H w0 wr B base cs j M0 l dm done pu qs K u ps):CoS NT PT CT R K w0 wr B base cs j M0 l dm done pu qs K u ps:=
 ⟨Kn.le_refl K,h.isin,h.below,h.noB,h.hB,h.cd,h.mem,h.noM,h.row,h.noP,h.ql,h.nds,h.apart,h.low⟩
theorem set_self{cs:Array Value}{j:Nat}{v:Value}(h:cs[j]?=some v):cs.setIfInBounds j v=cs:=by
 refine Array.ext_getElem? λi=>?_;simp only[Array.getElem?_setIfInBounds];by_cases e1:j=i
 .subst e1;obtain⟨h1,h2⟩:=Array.getElem?_eq_some_iff.1 h;simp[h1,h2]
 simp[e1]
theorem CoS.init{NT PT CT:TypeId}{R:REnv}{H:Kn}{w0 wr:World}{B j:Nat}{cs:Array Value}{l:List Ex}(Hk:H.In wr)(hb:Ybw w0 wr)(hHB:H B=none)(hB:w0.heap.size<=B)(zJ:wr.heap[B]?=some (.cells cs CT (0,0)))(jv:cs[10]?=some (Ys0))(hj:cs[j]?=some (Ys0)):
  CoS NT PT CT R H w0 wr B wr.heap.size cs j [] l 0 0 (Ys0) [] H (Ys0) []:=
 ⟨Kn.le_refl H,Hk,hb,hHB,hB,⟨by rw[set_self hj,set_self jv];exact zJ,World.ownsRow_nil _ _ _ _,(Zlt zJ)⟩,⟨by simp[Zab],λi h1 h2=>by simp at h2⟩,λg hg=>by simp[Value.ownBlock] at hg,World.ownsRow_nil _ _ _ _,λg hg=>by simp[Value.ownBlock] at hg,rfl,λi h1=>by simp at h1,λg hg=>by simp[Value.ownBlock] at hg,Nat.le_refl _⟩
theorem map_known{α:Type}{V:α->Value}{w:World}{b R:Nat}{m:Env α}(h:Zay V w b m)(hb:b≠R):∀w',(noKn R w).In w'->Zay V w' b m:=λw' hw=>by
 obtain⟨es,ck,h1,h2⟩:=h;exact⟨es,ck,hw b _ (by unfold noKn;rw[if_neg hb];exact h1),h2⟩
theorem partsL_mem{l:List Ex}{e:Ex}(h:e∈l):e.parts<=Ex.partsL l:=by
 obtain⟨i,hi,rfl⟩:=List.mem_iff_getElem.1 h;exact Za0 l i hi
def OutC(x:Int)(f:Nat->Option Value):Prop:=f 0=some (.int .i64 x)
abbrev Zks(H:Kn):List Int->Value->Prop:=SlV H 1 OutC
theorem OutC.mono(x:Int)(f g:Nat->Option Value)(h:∀j u,f j=some u->g j=some u)(hx:OutC x f):OutC x g:=h _ _ hx
theorem Zks.le{H H':Kn}(He:H.le H'){l:List Int}{v:Value}(h:Zks H l v):Zks H' l v:=SlV.le h He OutC.mono
structure OuS(IT PT CT:TypeId)(w0 wr:World)(B base:Nat)(cs:Array Value)(outs:List Int)(k:Nat)(pu:Value)(K:Kn)(u:Value)(ps:List Nat):Prop where
 isin:K.In wr
 below:Ybw w0 wr
 box:wr.heap[B]?=some (.cells (cs.setIfInBounds 9 pu) CT (0,0))
 ms:wr.ownsRow base PT 1 u ps.length (ps.map ptrV)
 row:wr.ownsRow base IT 1 pu k ((outs.take k).map λx => .int .i64 x)
 noB:K B=none
 noP:∀g,pu.ownBlock=some g->K g=none
 hB:w0.heap.size<=B
 bb:B<base
 low:base<=wr.heap.size
 ne:PT≠IT
section
variable {IT PT CT : TypeId} {w0 wr : World} {B base : Nat} {cs : Array Value} {outs : List Int} {k : Nat} {pu : Value} {K : Kn} {u : Value} {ps : List Nat}
theorem OuS.next{w':World}(h:OuS IT PT CT w0 wr B base cs outs k pu K u ps)(hb:Ybw wr w'):OuS IT PT CT w0 w' B base cs outs k pu K u ps:=
 ⟨h.isin.below hb,h.below.trans (hb.mono h.below.size),by rw[hb.block B (Zlt h.box)];exact h.box,Za1 h.ms hb,Za1 h.row hb,h.noB,h.noP,h.hB,h.bb,Nat.le_trans h.low hb.size,h.ne⟩
theorem OuS.alloc(h:OuS IT PT CT w0 wr B base cs outs k pu K u ps)(o:Obj):OuS IT PT CT w0 (wr.alloc o) B base cs outs k pu K u ps:=h.next ((Below.refl _ _).alloc Ylr o)
theorem OuS.cell(h:OuS IT PT CT w0 wr B base cs outs k pu K u ps)(hj:9<cs.size):wr.cell? ⟨B,9,none⟩=some pu:=by
 have hb:=h.box;simp[World.cell?,hb,hj]
theorem OuS.other(h:OuS IT PT CT w0 wr B base cs outs k pu K u ps){i:Nat}(hi:i≠9):wr.cell? ⟨B,i,none⟩=cs[i]?:=by
 have hb:=h.box;simp[World.cell?,hb,Ne.symm hi]
theorem OuS.low'(h:OuS IT PT CT w0 wr B base cs outs k pu K u ps):base<=wr.heap.size:=h.low
theorem OuS.app{w3:World}{gg Hh:Nat}{x:Int}(h:OuS IT PT CT w0 wr B base cs outs k pu K u ps)(hj:9<cs.size)(hk:k<outs.length)(hx:outs[k]=x)
  (Hb:w3.ownsRow base IT 1 (.slice (some ⟨gg,0,none⟩) (k+1) Hh) (k+1) (((outs.take k).map λx => .int .i64 x)++[.int .i64 x])) (hg:wr.grownBy w3 pu.ownBlock) (hJ:pu.ownBlock=some gg\/gg=wr.heap.size):
  w3.cell? ⟨B,9,none⟩=some pu/\w3.frozen? ⟨B,9,none⟩=false/\OuS IT PT CT w0 (w3.setCell ⟨B,9,none⟩ (.slice (some ⟨gg,0,none⟩) (k+1) Hh)) B base cs outs (k+1) (.slice (some ⟨gg,0,none⟩) (k+1) Hh) K u ps:=by
 subst hx;have hbs:=h.below.size;have zK:=h.bb;have Jm:=h.low;have hhB:=h.hB;have hpB:pu.ownBlock≠some B:=Zbj h.row zK;have zj:B<wr.heap.size:=(Zlt h.box);have xV:w3.heap[B]?=_:=(hg.block B zj (λe=>hpB e.symm)).trans h.box;have gy:gg≠B:=by
  have:=Zbj (b:=B) Hb zK;simpa[Value.ownBlock] using this
 have xx:K gg=none:=by
  rcases hJ with h1|rfl
  .exact h.noP gg h1
  exact h.isin.isNone Ylr
 have vy:w3.ownsRow base PT 1 u ps.length (ps.map ptrV):=Zc2 h.ms hg λg hu hp=>Zge h.ms h.row h.ne g hu hp;refine⟨by simp[World.cell?,xV,hj],by simp[World.frozen?,xV],(h.isin.grown hg h.noP).setCell (a:=⟨B,9,none⟩) h.noB _,?_,?_,Zam vy (Zbj vy zK) _,?_,h.noB,λg JH=>?_,hhB,zK,by simp;have:=hg.size;omega,h.ne⟩
 .refine⟨hg.os.trans h.below.os,hg.tape.trans h.below.tape,hg.output.trans h.below.output,by simp;have:=hg.size;omega,λi hi=>?_⟩;rw[Below.heap_setCell w3 ⟨B,9,none⟩ _ i (by show i≠B;omega),hg.block i (by omega) (λe=>by have:=(h.row.lt i e.symm).1;omega)];exact h.below.block i hi
 .rw [Zaa _ _ _ _ _ _ _ xV];simp
 .rw [List.take_succ_eq_append_getElem hk,List.map_append];exact Zam Hb (by simpa[Value.ownBlock] using gy) _
 have e:gg=g:=by simpa[Value.ownBlock] using JH
 rw[<- e];exact xx
end
structure CodeAt(NT CT:TypeId)(R:REnv)(K:Kn)(p:Pr)(ord:List Nat)(B:Nat):Prop where
 ex:∃cs vi vo vf va vc vu vm,K B=some (.cells cs CT (0,0))/\(cs[0]?=some vi/\VrsV K p.ins vi)/\(cs[5]?=some vo/\Zco K ord vo)/\(cs[6]?=some vf/\NdsV NT R K (cdOf p ord).fs vf)/\(cs[7]?=some va/\NdsV NT R K (cdOf p ord).av va)/\
  (cs[8]?=some vc/\NdsV NT R K (cdOf p ord).cv vc)/\(cs[9]?=some vu/\Zks K (cdOf p ord).outs vu)/\(cs[10]?=some vm/\NdsV NT R K (Zab 0 p.terms) vm)
end Go.Proofs.YtafapnolamcdmaaGreatDoor
