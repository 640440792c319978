/- Small things that several families lean on: literals, cells of two. -/
import Derived.Test.YtafapnolamcdmaaGreatDoorRunC
set_option linter.all false
namespace Go.Proofs.YtafapnolamcdmaaGreatDoor
open Go.RowKit Mx
theorem set2A{W:World}{b:Nat}{x y:Value}{t:TypeId}(h:W.heap[b]?=some (.cells #[x,y] t (0,0)))(u v:Value):((W.setCell ⟨b,0,none⟩ u).setCell ⟨b,1,none⟩ v).cell? ⟨b,0,none⟩=some u/\((W.setCell ⟨b,0,none⟩ u).setCell ⟨b,1,none⟩ v).cell? ⟨b,1,none⟩=some v:=by
 have h1:=Zaa W b 0 u _ _ _ h;have h2:=Zaa _ b 1 v _ _ _ h1;obtain⟨g0,g1,_⟩:=Zal (W:=(W.setCell ⟨b,0,none⟩ u).setCell ⟨b,1,none⟩ v) h2;exact⟨g0,g1⟩
theorem own_gr2{w w':World}{base:Nat}{e:TypeId}{k n:Nat}{v:Value}{xs:List Value}(h:w.ownsRow base e k v n xs){B:Nat}{row:Option Nat}(hg:Gr2 w w' B row)(hB:v.ownBlock≠some B)(ha:∀g,v.ownBlock=some g->row≠some g):w'.ownsRow base e k v n xs:=by
 refine⟨h.1,h.2.imp id ?_⟩;rintro⟨g,Ha,cur,h1,h2,h3,h4⟩;have hv:v.ownBlock=some g:=by rw[h1];rfl
 exact⟨g,Ha,cur,h1,h2,by rw[hg.block g (Zlt h3) (λe=>hB (by rw[hv,e])) (λe=>ha g hv e.symm)];exact h3,h4⟩
structure PsAt(T:TypeId)(R:REnv)(K:Kn)(MS:List (Ex×Nat))(ps:List Nat):Prop where
 len:ps.length=MS.length
 nd:∀i (h:i<MS.length) (h2:i<ps.length),NdAt T R K MS[i].1 MS[i].2 ps[i]
theorem PsAt.le{T:TypeId}{R:REnv}{K K':Kn}(He:K.le K'){MS:List (Ex×Nat)}{ps:List Nat}(h:PsAt T R K MS ps):PsAt T R K' MS ps:=⟨h.len,λi h1 h2=>NdAt.le He _ _ _ (h.nd i h1 h2)⟩
theorem PsAt.snoc{T:TypeId}{R:REnv}{K:Kn}{MS:List (Ex×Nat)}{ps:List Nat}(h:PsAt T R K MS ps){x:Ex×Nat}{q:Nat}(hx:NdAt T R K x.1 x.2 q):PsAt T R K (MS++[x]) (ps++[q]):=
 ⟨by simp[h.len],λi h1 h2=>by
  have hl:=h.len;by_cases hi:i<MS.length
  .rw [List.getElem_append_left hi,List.getElem_append_left (by omega)];exact h.nd i hi (by omega)
  have qK:i=MS.length:=by simp at h1;omega
  rw[List.getElem_append_right (by omega),List.getElem_append_right (by omega)];simpa using hx⟩
structure CdS(PT CT:TypeId)(w:World)(B base:Nat)(cs:Array Value)(u:Value)(ps:List Nat):Prop where
 box:w.heap[B]?=some (.cells (cs.setIfInBounds 10 u) CT (0,0))
 row:w.ownsRow base PT 1 u ps.length (ps.map ptrV)
 low:B<base
theorem CdS.blt{PT CT:TypeId}{w:World}{B base:Nat}{cs:Array Value}{u:Value}{ps:List Nat}(h:CdS PT CT w B base cs u ps):B<w.heap.size:=(Zlt h.box)
theorem CdS.ne{PT CT:TypeId}{w:World}{B base:Nat}{cs:Array Value}{u:Value}{ps:List Nat}(h:CdS PT CT w B base cs u ps):u.ownBlock≠some B:=Zbj h.row h.low
theorem CdS.below{PT CT:TypeId}{w w':World}{B base:Nat}{cs:Array Value}{u:Value}{ps:List Nat}(h:CdS PT CT w B base cs u ps)(hb:Ybw w w'):CdS PT CT w' B base cs u ps:=
 ⟨by rw[hb.block B h.blt];exact h.box,Za1 h.row hb,h.low⟩
structure TeD(NT PT CT:TypeId)(R:REnv)(H:Kn)(w w':World)(B base:Nat)(cs:Array Value)(u:Value)(MS:List (Ex×Nat))(K:Kn)(u':Value)(kX:List Nat):Prop where
 le:H.le K
 fresh:∀b,b<w.heap.size->K b=H b
 isin:K.In w'
 cd:CdS PT CT w' B base cs u' kX
 mem:PsAt NT R K MS kX
 gr:Gr2 w w' B u.ownBlock
 own:∀g,u'.ownBlock=some g->w.heap.size<=g\/u.ownBlock=some g
 noM:∀g,u'.ownBlock=some g->K g=none
structure TeS(NT PT CT:TypeId)(R:REnv)(H:Kn)(w0 wr:World)(B N base:Nat)(cs:Array Value)(e:Ex)(lv:Value)(u0:Value)(MS:List (Ex×Nat))(dm done:Nat)(pu:Value)(qs:List Nat)(K:Kn)(u:Value)(ps:List Nat):Prop where
 d:TeD NT PT CT R H w0 wr B base cs u0 (MS++Zab MS.length (e.l.take dm)) K u ps
 nt:NT≠PT
 noB:H B=none
 hB:B<w0.heap.size
 hN:w0.heap.size<=N
 box:wr.heap[N]?=some (.cells (Za3 R e 0 lv pu) NT (0,0))
 noN:K N=none
 row:wr.ownsRow (N+1) PT 1 pu done (qs.map ptrV)
 noP:∀g,pu.ownBlock=some g->K g=none
 ql:qs.length=done
 nds:∀i (h:i<qs.length) (h2:i<e.l.length),NdAt NT R K e.l[i] (MS.length+Zag (e.l.take i)) qs[i]
 apart:∀g,pu.ownBlock=some g->u.ownBlock≠some g
section
variable {NT PT CT : TypeId} {R : REnv} {H K : Kn} {w0 wr : World} {B N base : Nat} {cs : Array Value} {e : Ex} {lv u0 : Value} {MS : List (Ex × Nat)} {dm done : Nat} {pu : Value} {qs : List Nat} {u : Value} {ps : List Nat}
theorem TeS.nlt(h:TeS NT PT CT R H w0 wr B N base cs e lv u0 MS dm done pu qs K u ps):N<wr.heap.size:=(Zlt h.box)
theorem TeS.kB(h:TeS NT PT CT R H w0 wr B N base cs e lv u0 MS dm done pu qs K u ps):K B=none:=by rw[h.d.fresh B h.hB];exact h.noB
theorem TeS.uN(h:TeS NT PT CT R H w0 wr B N base cs e lv u0 MS dm done pu qs K u ps):u.ownBlock≠some N:=Zew h.d.cd.row h.box h.nt
theorem TeS.pN(h:TeS NT PT CT R H w0 wr B N base cs e lv u0 MS dm done pu qs K u ps):pu.ownBlock≠some N:=Zbj h.row (by omega)
theorem TeS.pB(h:TeS NT PT CT R H w0 wr B N base cs e lv u0 MS dm done pu qs K u ps):pu.ownBlock≠some B:=Zbj h.row (by have:=h.hB;have:=h.hN;omega)
theorem TeS.mlen(h:TeS NT PT CT R H w0 wr B N base cs e lv u0 MS dm done pu qs K u ps):ps.length=MS.length+Zag (e.l.take dm):=by
 rw[h.d.mem.len,List.length_append,Zaw]
theorem TeS.below{w':World}(h:TeS NT PT CT R H w0 wr B N base cs e lv u0 MS dm done pu qs K u ps)(hb:Ybw wr w'):TeS NT PT CT R H w0 w' B N base cs e lv u0 MS dm done pu qs K u ps:=
 ⟨⟨h.d.le,h.d.fresh,h.d.isin.below hb,h.d.cd.below hb,h.d.mem,h.d.gr.trans (Gr2.of_below hb B none) (λ_ e=>by cases e),h.d.own,h.d.noM⟩,
  h.nt,h.noB,h.hB,h.hN,by rw[hb.block N h.nlt];exact h.box,h.noN,Za1 h.row hb,h.noP,h.ql,h.nds,h.apart⟩
theorem Gr2.setFar{a w:World}{B:Nat}{row:Option Nat}(h:Gr2 a w B row){N:Nat}(hN:a.heap.size<=N)(i:Nat)(v:Value):Gr2 a (w.setCell ⟨N,i,none⟩ v) B row:=
 ⟨h.os,h.tape,h.output,by simpa using h.size,λj hj h1 h2=>by rw[Below.heap_setCell w ⟨N,i,none⟩ v j (by show j≠N;omega)];exact h.block j hj h1 h2⟩
theorem TeS.child{w':World}{K':Kn}{u':Value}{kX:List Nat}(h:TeS NT PT CT R H w0 wr B N base cs e lv u0 MS done done pu qs K u ps)(hd:done<e.l.length)
  (k:TeD NT PT CT R K wr w' B base cs u (MS++Zab MS.length (e.l.take done)++Zbs ps.length e.l[done]) K' u' kX):
  TeS NT PT CT R H w0 w' B N base cs e lv u0 MS (done+1) done pu qs K' u' kX:=by
 have J5:=h.d.gr.size;have zr:=h.mlen;refine⟨⟨Kn.le_trans h.d.le k.le,λb hb=>(k.fresh b (by omega)).trans (h.d.fresh b hb),k.isin,k.cd,?_,h.d.gr.trans k.gr h.d.own,λg hg=>?_,k.noM⟩,h.nt,h.noB,h.hB,h.hN,?_,(k.fresh N h.nlt).trans h.noN,own_gr2 h.row k.gr h.pB h.apart,λg hg=>?_,h.ql,λi h1 h2=>NdAt.le k.le _ _ _ (h.nds i h1 h2),λg hg hu=>?_⟩
 .have:=k.mem;rw[zr,List.append_assoc,<- Zj7 _ _ _ hd] at this;exact this
 .rcases k.own g hg with h1|h1
  .exact .inl (by omega)
  exact h.d.own g h1
 .rw [k.gr.block N h.nlt (by have:=h.hB;have:=h.hN;omega) (λe=>h.uN e.symm)];exact h.box
 .rw [k.fresh g (h.row.lt g hg).2];exact h.noP g hg
 have Hr:=(h.row.lt g hg).2;rcases k.own g hu with h1|h1
 .omega
 exact h.apart g hg h1
theorem TeS.app{w3:World}{gg Hh q:Nat}(h:TeS NT PT CT R H w0 wr B N base cs e lv u0 MS (done+1) done pu qs K u ps)(hd:done<e.l.length)(hq:NdAt NT R K e.l[done] (MS.length+Zag (e.l.take done)) q)
  (Hb:w3.ownsRow (N+1) PT 1 (.slice (some ⟨gg,0,none⟩) (done+1) Hh) (done+1) (qs.map ptrV++[ptrV q])) (hg:wr.grownBy w3 pu.ownBlock) (hJ:pu.ownBlock=some gg\/gg=wr.heap.size):
  w3.cell? ⟨N,4,none⟩=some pu/\w3.frozen? ⟨N,4,none⟩=false/\
   TeS NT PT CT R H w0 (w3.setCell ⟨N,4,none⟩ (.slice (some ⟨gg,0,none⟩) (done+1) Hh)) B N base cs e lv u0 MS (done+1) (done+1) (.slice (some ⟨gg,0,none⟩) (done+1) Hh) (qs++[q]) K u ps:=by
 have Q8:=h.nlt;have J5:=h.d.gr.size;have Hu:w3.heap[N]?=_:=(hg.block N Q8 (λe=>h.pN e.symm)).trans h.box;have xV:w3.heap[B]?=_:=(hg.block B h.d.cd.blt (λe=>h.pB e.symm)).trans h.d.cd.box;have hBN:B≠N:=by have:=h.hB;have:=h.hN;omega
 have Hk:=h.d.isin.grown hg h.noP;have hgN:gg≠N:=by
  have:=Zbj (b:=N) Hb (by omega);simpa[Value.ownBlock] using this
 have xx:K gg=none:=by
  rcases hJ with h1|rfl
  .exact h.noP gg h1
  exact h.d.isin.isNone Ylr
 refine⟨by simp[World.cell?,Hu,Za3],by simp[World.frozen?,Hu],⟨h.d.le,h.d.fresh,Hk.setCell (a:=⟨N,4,none⟩) h.noN _,⟨?_,?_,h.d.cd.low⟩,h.d.mem,(h.d.gr.grown hg λj hj => .inl ?_).setFar h.hN _ _,h.d.own,h.d.noM⟩,h.nt,h.noB,h.hB,h.hN,?_,h.noN,?_,λg JH=>?_,by simp[h.ql],λi h1 h2=>?_,λg JH hu=>?_⟩
 .rw [Below.heap_setCell w3 _ _ B hBN];exact xV
 .exact Zam (Zc2 h.d.cd.row hg λg hu hp=>h.apart g hp hu) h.uN _
 .have:=(h.row.lt j hj).1;have:=h.hN;omega
 .rw [Zaa _ _ _ _ _ _ _ Hu];rfl
 .rw [List.map_append];exact Zam Hb (by simpa[Value.ownBlock] using hgN) _
 .have:gg=g:=by simpa[Value.ownBlock] using JH
  rw[<- this];exact xx
 .by_cases hi:i<qs.length
  .rw [List.getElem_append_left hi];exact h.nds i hi h2
  have qK:i=qs.length:=by simp at h1;omega
  rw[List.getElem_append_right (by omega)];have hqd:=h.ql;obtain rfl:i=done:=by omega
  simpa using hq
 have:gg=g:=by simpa[Value.ownBlock] using JH
 subst this;rcases hJ with h1|rfl
 .exact h.apart gg h1 hu
 have:=(h.d.cd.row.lt _ hu).2;omega
theorem TeS.c4(h:TeS NT PT CT R H w0 wr B N base cs e lv u0 MS dm done pu qs K u ps):wr.cell? ⟨N,4,none⟩=some pu:=by
 have hb:=h.box;simp[World.cell?,hb,Za3]
theorem TeS.alloc(h:TeS NT PT CT R H w0 wr B N base cs e lv u0 MS dm done pu qs K u ps)(o:Obj):TeS NT PT CT R H w0 (wr.alloc o) B N base cs e lv u0 MS dm done pu qs K u ps:=h.below ((Below.refl _ _).alloc Ylr o)
theorem TeS.nlt'(h:TeS NT PT CT R H w0 wr B N base cs e lv u0 MS dm done pu qs K u ps):N+1<=wr.heap.size:=h.nlt
theorem TeS.child2{w':World}{K':Kn}{u':Value}{kX:List Nat}{x:Ex}{q:Nat}(h:TeS NT PT CT R H w0 wr B N base cs e lv u0 MS done done pu qs K u ps)(hd:done<e.l.length)(hx:e.l[done]=x)
  (k:TeD NT PT CT R K wr w' B base cs u (MS++Zab MS.length (e.l.take done)++Zbs (MS++Zab MS.length (e.l.take done)).length x) K' u' kX) (hq:NdAt NT R K' x (MS++Zab MS.length (e.l.take done)).length q):
  TeS NT PT CT R H w0 w' B N base cs e lv u0 MS (done+1) done pu qs K' u' kX/\NdAt NT R K' x (MS.length+Zag (e.l.take done)) q:=by
 subst hx;refine⟨h.child hd (by rw[h.d.mem.len];exact k),?_⟩;rw[List.length_append,Zaw] at hq;exact hq
theorem TeS.app2{w3:World}{gg Hh q:Nat}{x:Ex}(h:TeS NT PT CT R H w0 wr B N base cs e lv u0 MS (done+1) done pu qs K u ps)(hd:done<e.l.length)(hx:e.l[done]=x)(hq:NdAt NT R K x (MS.length+Zag (e.l.take done)) q)
  (Hb:w3.ownsRow (N+1) PT 1 (.slice (some ⟨gg,0,none⟩) (done+1) Hh) (done+1) (qs.map ptrV++[ptrV q])) (hg:wr.grownBy w3 pu.ownBlock) (hJ:pu.ownBlock=some gg\/gg=wr.heap.size):
  w3.cell? ⟨N,4,none⟩=some pu/\w3.frozen? ⟨N,4,none⟩=false/\
   TeS NT PT CT R H w0 (w3.setCell ⟨N,4,none⟩ (.slice (some ⟨gg,0,none⟩) (done+1) Hh)) B N base cs e lv u0 MS (done+1) (done+1) (.slice (some ⟨gg,0,none⟩) (done+1) Hh) (qs++[q]) K u ps:=by
 subst hx;exact h.app hd hq Hb hg hJ
theorem TeS.fin{w2:World}(h:TeS NT PT CT R H w0 wr B N base cs e lv u0 MS e.l.length e.l.length pu qs K u ps)
  (zJ:w2.heap[N]?=some (.cells (Za3 R e (Zkp e MS.length) lv pu) NT (0,0))) (zW:∀b,b≠N->w2.heap[b]?=wr.heap[b]?) (zE:w2.os=wr.os/\w2.tape=wr.tape/\w2.output=wr.output/\w2.heap.size=wr.heap.size):
  ∃K',TeD NT PT CT R H w0 w2 B base cs u0 (MS++Zab MS.length e.l) K' u ps/\NdAt NT R K' e MS.length N:=by
 have Q8:=h.nlt;have hBN:B≠N:=by have:=h.hB;have:=h.hN;omega
 have J5:=h.d.gr.size;have Hl:=h.d.mem;rw[List.take_length] at Hl;have hgr:Gr2 w0 w2 B u0.ownBlock:=⟨zE.1.trans h.d.gr.os,zE.2.1.trans h.d.gr.tape,zE.2.2.1.trans h.d.gr.output,by rw[zE.2.2.2];exact J5,λi hi h1 h2=>by
  rw[zW i (by have:=h.hN;omega)];exact h.d.gr.block i hi h1 h2⟩
 have Hk:K.In w2:=h.d.isin.of_heap λb hb=>zW b λe=>hb (by rw[e];exact h.noN);have hin1:=Hk.add zJ;have yY:K.le (K.add N (.cells (Za3 R e (Zkp e MS.length) lv pu) NT (0,0))):=Kn.le_add h.noN;have qL:CdS PT CT w2 B base cs u ps:=⟨by rw[zW B hBN];exact h.d.cd.box,by
  have hr:=h.d.cd.row;refine⟨hr.1,hr.2.imp id ?_⟩;rintro⟨g,Ha,cur,h1,h2,h3,h4⟩;exact⟨g,Ha,cur,h1,h2,by rw[zW g (λe=>h.uN (by rw[h1,e];rfl))];exact h3,h4⟩,h.d.cd.low⟩
 by_cases h0:e.l.length=0
 .refine⟨_,⟨Kn.le_trans h.d.le yY,λb hb=>?_,hin1,qL,Hl.le yY,hgr,h.d.own,λg hg=>?_⟩,?_⟩
  .rw [Kn.add_other _ _ (by have:=h.hN;omega)];exact h.d.fresh b hb
  .rw [Kn.add_other _ _ (λe=>h.uN (by rw[<- e];exact hg))];exact h.d.noM g hg
  obtain⟨a,Ha,hp,_⟩:=Zar h.row;obtain⟨o,n,s,l⟩:=e;simp only[Ex.l] at h0 hp;simp only[NdAt];exact⟨lv,pu,Kn.add_self _ _ _,.inl ⟨List.eq_nil_of_length_eq_zero h0,a,Ha,by rw[hp,h0]⟩⟩
 obtain⟨g,Ha,hp,h1,h2,h3,h4,h5⟩:=Zbr h.row (by omega);have hgN:g≠N:=by omega
 have gy:g≠B:=by have:=h.hB;have:=h.hN;omega
 have hpg:pu.ownBlock=some g:=by rw[hp];rfl
 have xx:K g=none:=h.noP g hpg;have ho:w2.heap[g]?=some wr.heap[g]:=by rw[zW g hgN];exact Array.getElem?_eq_getElem h4
 have hK1g:(K.add N (.cells (Za3 R e (Zkp e MS.length) lv pu) NT (0,0))) g=none:=by rw[Kn.add_other _ _ hgN];exact xx
 have JB:=Kn.le_trans yY (Kn.le_add (o:=wr.heap[g]) hK1g);refine⟨_,⟨Kn.le_trans h.d.le JB,λb hb=>?_,hin1.add ho,qL,Hl.le JB,hgr,h.d.own,λj hj=>?_⟩,?_⟩
 .rw [Kn.add_other _ _ (by have:=h.hN;omega),Kn.add_other _ _ (by have:=h.hN;omega)];exact h.d.fresh b hb
 .rw [Kn.add_other _ _ (λe=>h.apart g hpg (by rw[<- e];exact hj)),Kn.add_other _ _ (λe=>h.uN (by rw[<- e];exact hj))];exact h.d.noM j hj
 have Q9:(Kn.add (K.add N (.cells (Za3 R e (Zkp e MS.length) lv pu) NT (0,0))) g wr.heap[g]) N=some (.cells (Za3 R e (Zkp e MS.length) lv pu) NT (0,0)):=by rw[Kn.add_other _ _ (Ne.symm hgN)];exact Kn.add_self _ _ _
 have kS:∀i (hi:i<qs.length),(Kn.add (K.add N (.cells (Za3 R e (Zkp e MS.length) lv pu) NT (0,0))) g wr.heap[g]).cell g i=some (ptrV qs[i]):=λi hi=>by
  have h6:=h5 i (ptrV qs[i]) (by simp[hi]);unfold Kn.cell;rw[Kn.add_self];simp only[World.cell?,Array.getElem?_eq_getElem h4] at h6;cases hc:wr.heap[g]<;>simp_all
 have hnd:Zf8 NT R (Kn.add (K.add N (.cells (Za3 R e (Zkp e MS.length) lv pu) NT (0,0))) g wr.heap[g]) e.l MS.length g 0:=Zf8.mk λi hi=>by
  have hq:i<qs.length:=by rw[h.ql];exact hi
  exact⟨qs[i],by rw[Nat.zero_add];exact kS i hq,NdAt.le JB _ _ _ (h.nds i hq hi)⟩
 clear kS;obtain⟨o,n,s,l⟩:=e;simp only[Ex.l] at hnd hp h1;simp only[NdAt];exact⟨lv,pu,Q9,.inr ⟨g,0,Ha,hp,h1,h2,hnd⟩⟩
theorem TeD.below{w w2 w3:World}(h:TeD NT PT CT R H w w2 B base cs u0 MS K u ps)(hb:Ybw w2 w3):TeD NT PT CT R H w w3 B base cs u0 MS K u ps:=
 ⟨h.le,h.fresh,h.isin.below hb,h.cd.below hb,h.mem,h.gr.trans (Gr2.of_below hb B none) (λ_ e=>by cases e),h.own,h.noM⟩
theorem TeD.forget{w w2:World}{H0:Kn}(h:TeD NT PT CT R H0 w w2 B base cs u0 MS K u ps)(He:H.le H0)(je:∀b,b<w.heap.size->H0 b=H b):TeD NT PT CT R H w w2 B base cs u0 MS K u ps:=
 ⟨Kn.le_trans He h.le,λb hb=>(h.fresh b hb).trans (je b hb),h.isin,h.cd,h.mem,h.gr,h.own,h.noM⟩
theorem TeS.c8(h:TeS NT PT CT R H w0 wr B N base cs e lv u0 MS dm done pu qs K u ps):wr.cell? ⟨N,8,none⟩=some (.int .i64 0)/\wr.frozen? ⟨N,8,none⟩=false:=by
 have hb:=h.box;exact⟨by simp[World.cell?,hb,Za3],by simp[World.frozen?,hb]⟩
theorem CdS.c10{w:World}(h:CdS PT CT w B base cs u ps)(jv:10<cs.size):w.cell? ⟨B,10,none⟩=some u:=by
 have hb:=h.box;simp[World.cell?,hb,jv]
theorem memNds_mem{e:Ex}{m:Nat}{MS:List (Ex×Nat)}(ho:e.op=oPre\/e.op=oFby):MS++Zab m e.l++[(e,m)]=MS++Zbs m e:=by
 obtain⟨o,n,s,l⟩:=e;simp only[Ex.op,Ex.l] at ho ⊢;simp only[Zbs];rw[if_pos ho,List.append_assoc]
theorem TeS.fin0(h:TeS NT PT CT R H w0 wr B N base cs e lv u0 MS e.l.length e.l.length pu qs K u ps)(ho:¬(e.op=oPre\/e.op=oFby)):
  ∃K',TeD NT PT CT R H w0 wr B base cs u0 (MS++Zbs MS.length e) K' u ps/\NdAt NT R K' e MS.length N:=by
 obtain⟨K',h1,h2⟩:=h.fin (w2:=wr) (by have:=h.box;unfold Zkp;rw[if_neg ho];exact this) (λ_ _=>rfl) ⟨rfl,rfl,rfl,rfl⟩;refine⟨K',?_,h2⟩;have:Zbs MS.length e=Zab MS.length e.l:=by
  obtain⟨o,n,s,l⟩:=e;simp only[Zbs,Ex.l,Ex.op] at ho ⊢;rw[if_neg ho,List.append_nil]
 rw[this];exact h1
theorem TeS.fin1(h:TeS NT PT CT R H w0 wr B N base cs e lv u0 MS e.l.length e.l.length pu qs K u ps)(ho:e.op=oPre\/e.op=oFby):
  ∃K',TeD NT PT CT R H w0 (wr.setCell ⟨N,8,none⟩ (.int .i64 ps.length)) B base cs u0 (MS++Zab MS.length e.l) K' u ps/\NdAt NT R K' e MS.length N:=by
 have hb:=h.box;have hm:=h.mlen;rw[List.take_length] at hm;refine h.fin ?_ (λb hb=>Below.heap_setCell wr ⟨N,8,none⟩ _ b hb) ⟨rfl,rfl,rfl,by simp⟩;rw[Zaa _ _ _ _ _ _ _ hb];unfold Zkp;rw[if_pos ho,<- hm];rfl
theorem TeD.push{w w2 w3:World}{gg Hh q:Nat}{x:Ex×Nat}(h:TeD NT PT CT R H w w2 B base cs u0 MS K u ps)(hB:B<w.heap.size)(qo:K B=none)(hx:NdAt NT R K x.1 x.2 q)
  (Hb:w3.ownsRow base PT 1 (.slice (some ⟨gg,0,none⟩) (ps.length+1) Hh) (ps.length+1) (ps.map ptrV++[ptrV q])) (hg:w2.grownBy w3 u.ownBlock) (hJ:u.ownBlock=some gg\/gg=w2.heap.size) (jv:10<cs.size):
  w3.cell? ⟨B,10,none⟩=some u/\w3.frozen? ⟨B,10,none⟩=false/\
   TeD NT PT CT R H w (w3.setCell ⟨B,10,none⟩ (.slice (some ⟨gg,0,none⟩) (ps.length+1) Hh)) B base cs u0 (MS++[x]) K (.slice (some ⟨gg,0,none⟩) (ps.length+1) Hh) (ps++[q]):=by
 have xV:w3.heap[B]?=_:=(hg.block B h.cd.blt (λe=>h.cd.ne e.symm)).trans h.cd.box;have Hk:=h.isin.grown hg h.noM;have J5:=h.gr.size;have gy:gg≠B:=by
  have:=Zbj (b:=B) Hb h.cd.low;simpa[Value.ownBlock] using this
 have xx:K gg=none:=by
  rcases hJ with h1|rfl
  .exact h.noM gg h1
  exact h.isin.isNone Ylr
 refine⟨by simp[World.cell?,xV,jv],by simp[World.frozen?,xV],h.le,h.fresh,Hk.setCell (a:=⟨B,10,none⟩) qo _,⟨?_,?_,h.cd.low⟩,h.mem.snoc hx,(h.gr.grown hg h.own).setCell _ _,λg JH=>?_,λg JH=>?_⟩
 .rw [Zaa _ _ _ _ _ _ _ xV];simp
 .rw [List.map_append,List.length_append];exact Zam Hb (by simpa[Value.ownBlock] using gy) _
 .have e:gg=g:=by simpa[Value.ownBlock] using JH
  subst e;rcases hJ with h1|rfl
  .exact h.own gg h1
  exact .inl J5
 have e:gg=g:=by simpa[Value.ownBlock] using JH
 rw[<- e];exact xx
end
end Go.Proofs.YtafapnolamcdmaaGreatDoor
