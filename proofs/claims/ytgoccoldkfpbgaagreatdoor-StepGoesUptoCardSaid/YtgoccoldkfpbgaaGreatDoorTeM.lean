/- The state of flow.Code.term: a node that gets its parts, and the row of what is remembered: no function of the program in sight. -/
import Derived.Test.YtgoccoldkfpbgaaGreatDoorRg
import Derived.Test.YtgoccoldkfpbgaaGreatDoorRunC
import Derived.Test.YtgoccoldkfpbgaaGreatDoorEx
import Derived.Test.YtgoccoldkfpbgaaGreatDoorFormA
set_option linter.all false
namespace Go.Proofs.YtgoccoldkfpbgaaGreatDoor
open Go.RowKit Mx
theorem own_gr2 {w w':World} {base:Nat} {e:TypeId} {k n:Nat} {v:Value} {xs:List Value} (h:w.ownsRow base e k v n xs) {B:Nat} {row:Option Nat} (hg:Gr2 w w' B row) (hB:v.ownBlock≠some B) (ha:∀ g,v.ownBlock=some g→row≠some g):w'.ownsRow base e k v n xs:=by
 refine⟨h.1,h.2.imp id ?_⟩
 rintro⟨g,cap,cur,h1,h2,h3,h4⟩
 have hv:v.ownBlock=some g:=by rw [h1];rfl
 exact⟨g,cap,cur,h1,h2,by rw [hg.block g (Zlt h3) (fun e=>hB (by rw [hv,e])) (fun e=>ha g hv e.symm)];exact h3,h4⟩
structure PsAt (T:TypeId) (R:REnv) (K:Kn) (MS:List (Ex×Nat)) (ps:List Nat):Prop where
 len:ps.length=MS.length
 nd:∀ i (h:i<MS.length) (h2:i<ps.length),NdAt T R K MS[i].1 MS[i].2 ps[i]
theorem PsAt.le {T:TypeId} {R:REnv} {K K':Kn} (hle:K.le K') {MS:List (Ex×Nat)} {ps:List Nat} (h:PsAt T R K MS ps):PsAt T R K' MS ps:=⟨h.len,fun i h1 h2=>NdAt.le hle _ _ _ (h.nd i h1 h2)⟩
theorem PsAt.snoc {T:TypeId} {R:REnv} {K:Kn} {MS:List (Ex×Nat)} {ps:List Nat} (h:PsAt T R K MS ps) {x:Ex×Nat} {q:Nat} (hx:NdAt T R K x.1 x.2 q):PsAt T R K (MS++[x]) (ps++[q]):=
 ⟨by simp [h.len],fun i h1 h2=>by
  have hl:=h.len
  by_cases hi:i<MS.length
  ·rw [List.getElem_append_left hi,List.getElem_append_left (by omega)]
   exact h.nd i hi (by omega)
  have hi':i=MS.length:=by simp at h1;omega
  rw [List.getElem_append_right (by omega),List.getElem_append_right (by omega)]
  simpa using hx⟩
structure CdS (PT CT:TypeId) (w:World) (B base:Nat) (cs:Array Value) (u:Value) (ps:List Nat):Prop where
 box:w.heap[B]?=some (.cells (cs.setIfInBounds 10 u) CT (0,0))
 row:w.ownsRow base PT 1 u ps.length (ps.map ptrV)
 low:B<base
theorem CdS.blt {PT CT:TypeId} {w:World} {B base:Nat} {cs:Array Value} {u:Value} {ps:List Nat} (h:CdS PT CT w B base cs u ps):B<w.heap.size:=(Zlt h.box)
theorem CdS.ne {PT CT:TypeId} {w:World} {B base:Nat} {cs:Array Value} {u:Value} {ps:List Nat} (h:CdS PT CT w B base cs u ps):u.ownBlock≠some B:=Zbi h.row h.low
theorem CdS.below {PT CT:TypeId} {w w':World} {B base:Nat} {cs:Array Value} {u:Value} {ps:List Nat} (h:CdS PT CT w B base cs u ps) (hb:Below w.heap.size w w'):CdS PT CT w' B base cs u ps:=
 ⟨by rw [hb.block B h.blt];exact h.box,Za6 h.row hb,h.low⟩
structure TeD (NT PT CT:TypeId) (R:REnv) (H:Kn) (w w':World) (B base:Nat) (cs:Array Value) (u:Value) (MS:List (Ex×Nat)) (K:Kn) (u':Value) (ps':List Nat):Prop where
 le:H.le K
 fresh:∀ b,b<w.heap.size→K b=H b
 isin:K.In w'
 cd:CdS PT CT w' B base cs u' ps'
 mem:PsAt NT R K MS ps'
 gr:Gr2 w w' B u.ownBlock
 own:∀ g,u'.ownBlock=some g→w.heap.size≤g∨u.ownBlock=some g
 noM:∀ g,u'.ownBlock=some g→K g=none
structure TeS (NT PT CT:TypeId) (R:REnv) (H:Kn) (w0 wr:World) (B N base:Nat) (cs:Array Value) (e:Ex) (lv:Value) (u0:Value) (MS:List (Ex×Nat)) (dm done:Nat) (pu:Value) (qs:List Nat) (K:Kn) (u:Value) (ps:List Nat):Prop where
 d:TeD NT PT CT R H w0 wr B base cs u0 (MS++Zab MS.length (e.l.take dm)) K u ps
 nt:NT≠PT
 noB:H B=none
 hB:B<w0.heap.size
 hN:w0.heap.size≤N
 box:wr.heap[N]?=some (.cells (Zay R e 0 lv pu) NT (0,0))
 noN:K N=none
 row:wr.ownsRow (N+1) PT 1 pu done (qs.map ptrV)
 noP:∀ g,pu.ownBlock=some g→K g=none
 ql:qs.length=done
 nds:∀ i (h:i<qs.length) (h2:i<e.l.length),NdAt NT R K e.l[i] (MS.length+Zam (e.l.take i)) qs[i]
 apart:∀ g,pu.ownBlock=some g→u.ownBlock≠some g
section
variable {NT PT CT : TypeId} {R : REnv} {H K : Kn} {w0 wr : World} {B N base : Nat} {cs : Array Value} {e : Ex} {lv u0 : Value} {MS : List (Ex × Nat)} {dm done : Nat} {pu : Value} {qs : List Nat} {u : Value} {ps : List Nat}
theorem TeS.nlt (h:TeS NT PT CT R H w0 wr B N base cs e lv u0 MS dm done pu qs K u ps):N<wr.heap.size:=(Zlt h.box)
theorem TeS.kB (h:TeS NT PT CT R H w0 wr B N base cs e lv u0 MS dm done pu qs K u ps):K B=none:=by rw [h.d.fresh B h.hB];exact h.noB
theorem TeS.uN (h:TeS NT PT CT R H w0 wr B N base cs e lv u0 MS dm done pu qs K u ps):u.ownBlock≠some N:=Zel h.d.cd.row h.box h.nt
theorem TeS.pN (h:TeS NT PT CT R H w0 wr B N base cs e lv u0 MS dm done pu qs K u ps):pu.ownBlock≠some N:=Zbi h.row (by omega)
theorem TeS.pB (h:TeS NT PT CT R H w0 wr B N base cs e lv u0 MS dm done pu qs K u ps):pu.ownBlock≠some B:=Zbi h.row (by have:=h.hB;have:=h.hN;omega)
theorem TeS.mlen (h:TeS NT PT CT R H w0 wr B N base cs e lv u0 MS dm done pu qs K u ps):ps.length=MS.length+Zam (e.l.take dm):=by
 rw [h.d.mem.len,List.length_append,Za1]
theorem TeS.below {w':World} (h:TeS NT PT CT R H w0 wr B N base cs e lv u0 MS dm done pu qs K u ps) (hb:Below wr.heap.size wr w'):TeS NT PT CT R H w0 w' B N base cs e lv u0 MS dm done pu qs K u ps:=
 ⟨⟨h.d.le,h.d.fresh,h.d.isin.below hb,h.d.cd.below hb,h.d.mem,h.d.gr.trans (Gr2.of_below hb B none) (fun _ e=>by cases e),h.d.own,h.d.noM⟩,
  h.nt,h.noB,h.hB,h.hN,by rw [hb.block N h.nlt];exact h.box,h.noN,Za6 h.row hb,h.noP,h.ql,h.nds,h.apart⟩
theorem Gr2.setFar {a w:World} {B:Nat} {row:Option Nat} (h:Gr2 a w B row) {N:Nat} (hN:a.heap.size≤N) (i:Nat) (v:Value):Gr2 a (w.setCell ⟨N,i,none⟩ v) B row:=
 ⟨h.os,h.tape,h.output,by simpa using h.size,fun j hj h1 h2=>by rw [Below.heap_setCell w ⟨N,i,none⟩ v j (by show j≠N;omega)];exact h.block j hj h1 h2⟩
theorem TeS.child {w':World} {K':Kn} {u':Value} {ps':List Nat} (h:TeS NT PT CT R H w0 wr B N base cs e lv u0 MS done done pu qs K u ps) (hd:done<e.l.length)
  (k:TeD NT PT CT R K wr w' B base cs u (MS++Zab MS.length (e.l.take done)++Zbs ps.length e.l[done]) K' u' ps'):
  TeS NT PT CT R H w0 w' B N base cs e lv u0 MS (done+1) done pu qs K' u' ps':=by
 have hsz:=h.d.gr.size
 have hps:=h.mlen
 refine⟨⟨Kn.le_trans h.d.le k.le,fun b hb=>(k.fresh b (by omega)).trans (h.d.fresh b hb),k.isin,k.cd,?_,h.d.gr.trans k.gr h.d.own,fun g hg=>?_,k.noM⟩,h.nt,h.noB,h.hB,h.hN,?_,(k.fresh N h.nlt).trans h.noN,own_gr2 h.row k.gr h.pB h.apart,fun g hg=>?_,h.ql,fun i h1 h2=>NdAt.le k.le _ _ _ (h.nds i h1 h2),fun g hg hu=>?_⟩
 ·have:=k.mem
  rw [hps,List.append_assoc,← Zjo _ _ _ hd] at this
  exact this
 ·rcases k.own g hg with h1 | h1
  ·exact .inl (by omega)
  exact h.d.own g h1
 ·rw [k.gr.block N h.nlt (by have:=h.hB;have:=h.hN;omega) (fun e=>h.uN e.symm)]
  exact h.box
 ·rw [k.fresh g (h.row.lt g hg).2];exact h.noP g hg
 have hlt:=(h.row.lt g hg).2
 rcases k.own g hu with h1 | h1
 ·omega
 exact h.apart g hg h1
theorem TeS.app {w3:World} {gg cap' q:Nat} (h:TeS NT PT CT R H w0 wr B N base cs e lv u0 MS (done+1) done pu qs K u ps) (hd:done<e.l.length) (hq:NdAt NT R K e.l[done] (MS.length+Zam (e.l.take done)) q)
  (hown:w3.ownsRow (N+1) PT 1 (.slice (some ⟨gg,0,none⟩) (done+1) cap') (done+1) (qs.map ptrV++[ptrV q])) (hg:wr.grownBy w3 pu.ownBlock) (hat:pu.ownBlock=some gg∨gg=wr.heap.size):
  w3.cell? ⟨N,4,none⟩=some pu∧w3.frozen? ⟨N,4,none⟩=false∧
   TeS NT PT CT R H w0 (w3.setCell ⟨N,4,none⟩ (.slice (some ⟨gg,0,none⟩) (done+1) cap')) B N base cs e lv u0 MS (done+1) (done+1) (.slice (some ⟨gg,0,none⟩) (done+1) cap') (qs++[q]) K u ps:=by
 have hNlt:=h.nlt
 have hsz:=h.d.gr.size
 have hbx:w3.heap[N]?=_:=(hg.block N hNlt (fun e=>h.pN e.symm)).trans h.box
 have hBx:w3.heap[B]?=_:=(hg.block B h.d.cd.blt (fun e=>h.pB e.symm)).trans h.d.cd.box
 have hBN:B≠N:=by have:=h.hB;have:=h.hN;omega
 have hin:=h.d.isin.grown hg h.noP
 have hgN:gg≠N:=by
  have:=Zbi (b:=N) hown (by omega)
  simpa [Value.ownBlock] using this
 have hKg:K gg=none:=by
  rcases hat with h1 | rfl
  ·exact h.noP gg h1
  exact h.d.isin.isNone (Nat.le_refl _)
 refine⟨by simp [World.cell?,hbx,Zay],by simp [World.frozen?,hbx],⟨h.d.le,h.d.fresh,hin.setCell (a:=⟨N,4,none⟩) h.noN _,⟨?_,?_,h.d.cd.low⟩,h.d.mem,(h.d.gr.grown hg fun j hj => .inl ?_).setFar h.hN _ _,h.d.own,h.d.noM⟩,h.nt,h.noB,h.hB,h.hN,?_,h.noN,?_,fun g hgg=>?_,by simp [h.ql],fun i h1 h2=>?_,fun g hgg hu=>?_⟩
 ·rw [Below.heap_setCell w3 _ _ B hBN];exact hBx
 ·exact Zal (Zcr h.d.cd.row hg fun g hu hp=>h.apart g hp hu) h.uN _
 ·have:=(h.row.lt j hj).1
  have:=h.hN
  omega
 ·rw [Zaa _ _ _ _ _ _ _ hbx];rfl
 ·rw [List.map_append]
  exact Zal hown (by simpa [Value.ownBlock] using hgN) _
 ·have:gg=g:=by simpa [Value.ownBlock] using hgg
  rw [← this];exact hKg
 ·by_cases hi:i<qs.length
  ·rw [List.getElem_append_left hi]
   exact h.nds i hi h2
  have hi':i=qs.length:=by simp at h1;omega
  rw [List.getElem_append_right (by omega)]
  have hqd:=h.ql
  obtain rfl:i=done:=by omega
  simpa using hq
 have:gg=g:=by simpa [Value.ownBlock] using hgg
 subst this
 rcases hat with h1 | rfl
 ·exact h.apart gg h1 hu
 have:=(h.d.cd.row.lt _ hu).2
 omega
theorem TeS.c4 (h:TeS NT PT CT R H w0 wr B N base cs e lv u0 MS dm done pu qs K u ps):wr.cell? ⟨N,4,none⟩=some pu:=by
 have hb:=h.box
 simp [World.cell?,hb,Zay]
theorem TeS.alloc (h:TeS NT PT CT R H w0 wr B N base cs e lv u0 MS dm done pu qs K u ps) (o:Obj):TeS NT PT CT R H w0 (wr.alloc o) B N base cs e lv u0 MS dm done pu qs K u ps:=h.below ((Below.refl _ _).alloc (Nat.le_refl _) o)
theorem TeS.nlt' (h:TeS NT PT CT R H w0 wr B N base cs e lv u0 MS dm done pu qs K u ps):N+1≤wr.heap.size:=h.nlt
theorem TeS.child2 {w':World} {K':Kn} {u':Value} {ps':List Nat} {x:Ex} {q:Nat} (h:TeS NT PT CT R H w0 wr B N base cs e lv u0 MS done done pu qs K u ps) (hd:done<e.l.length) (hx:e.l[done]=x)
  (k:TeD NT PT CT R K wr w' B base cs u (MS++Zab MS.length (e.l.take done)++Zbs (MS++Zab MS.length (e.l.take done)).length x) K' u' ps') (hq:NdAt NT R K' x (MS++Zab MS.length (e.l.take done)).length q):
  TeS NT PT CT R H w0 w' B N base cs e lv u0 MS (done+1) done pu qs K' u' ps'∧NdAt NT R K' x (MS.length+Zam (e.l.take done)) q:=by
 subst hx
 refine⟨h.child hd (by rw [h.d.mem.len];exact k),?_⟩
 rw [List.length_append,Za1] at hq
 exact hq
theorem TeS.app2 {w3:World} {gg cap' q:Nat} {x:Ex} (h:TeS NT PT CT R H w0 wr B N base cs e lv u0 MS (done+1) done pu qs K u ps) (hd:done<e.l.length) (hx:e.l[done]=x) (hq:NdAt NT R K x (MS.length+Zam (e.l.take done)) q)
  (hown:w3.ownsRow (N+1) PT 1 (.slice (some ⟨gg,0,none⟩) (done+1) cap') (done+1) (qs.map ptrV++[ptrV q])) (hg:wr.grownBy w3 pu.ownBlock) (hat:pu.ownBlock=some gg∨gg=wr.heap.size):
  w3.cell? ⟨N,4,none⟩=some pu∧w3.frozen? ⟨N,4,none⟩=false∧
   TeS NT PT CT R H w0 (w3.setCell ⟨N,4,none⟩ (.slice (some ⟨gg,0,none⟩) (done+1) cap')) B N base cs e lv u0 MS (done+1) (done+1) (.slice (some ⟨gg,0,none⟩) (done+1) cap') (qs++[q]) K u ps:=by
 subst hx
 exact h.app hd hq hown hg hat
theorem TeS.fin {w2:World} (h:TeS NT PT CT R H w0 wr B N base cs e lv u0 MS e.l.length e.l.length pu qs K u ps)
  (hbox:w2.heap[N]?=some (.cells (Zay R e (Zj6 e MS.length) lv pu) NT (0,0))) (hot:∀ b,b≠N→w2.heap[b]?=wr.heap[b]?) (hos:w2.os=wr.os∧w2.tape=wr.tape∧w2.output=wr.output∧w2.heap.size=wr.heap.size):
  ∃ K',TeD NT PT CT R H w0 w2 B base cs u0 (MS++Zab MS.length e.l) K' u ps∧NdAt NT R K' e MS.length N:=by
 have hNlt:=h.nlt
 have hBN:B≠N:=by have:=h.hB;have:=h.hN;omega
 have hsz:=h.d.gr.size
 have hmem:=h.d.mem
 rw [List.take_length] at hmem
 have hgr:Gr2 w0 w2 B u0.ownBlock:=⟨hos.1.trans h.d.gr.os,hos.2.1.trans h.d.gr.tape,hos.2.2.1.trans h.d.gr.output,by rw [hos.2.2.2];exact hsz,fun i hi h1 h2=>by
  rw [hot i (by have:=h.hN;omega)];exact h.d.gr.block i hi h1 h2⟩
 have hin:K.In w2:=h.d.isin.of_heap fun b hb=>hot b fun e=>hb (by rw [e];exact h.noN)
 have hin1:=hin.add hbox
 have hle1:K.le (K.add N (.cells (Zay R e (Zj6 e MS.length) lv pu) NT (0,0))):=Kn.le_add h.noN
 have hcd:CdS PT CT w2 B base cs u ps:=⟨by rw [hot B hBN];exact h.d.cd.box,by
  have hr:=h.d.cd.row
  refine⟨hr.1,hr.2.imp id ?_⟩
  rintro⟨g,cap,cur,h1,h2,h3,h4⟩
  exact⟨g,cap,cur,h1,h2,by rw [hot g (fun e=>h.uN (by rw [h1,e];rfl))];exact h3,h4⟩,h.d.cd.low⟩
 by_cases h0:e.l.length=0
 ·refine⟨_,⟨Kn.le_trans h.d.le hle1,fun b hb=>?_,hin1,hcd,hmem.le hle1,hgr,h.d.own,fun g hg=>?_⟩,?_⟩
  ·rw [Kn.add_other _ _ (by have:=h.hN;omega)];exact h.d.fresh b hb
  ·rw [Kn.add_other _ _ (fun e=>h.uN (by rw [← e];exact hg))];exact h.d.noM g hg
  obtain⟨a,cap,hp,_⟩:=Zas h.row
  obtain⟨o,n,s,l⟩:=e
  simp only [Ex.l] at h0 hp
  simp only [NdAt]
  exact⟨lv,pu,Kn.add_self _ _ _,.inl ⟨List.eq_nil_of_length_eq_zero h0,a,cap,by rw [hp,h0]⟩⟩
 obtain⟨g,cap,hp,h1,h2,h3,h4,h5⟩:=Zbz h.row (by omega)
 have hgN:g≠N:=by omega
 have hgB:g≠B:=by have:=h.hB;have:=h.hN;omega
 have hpg:pu.ownBlock=some g:=by rw [hp];rfl
 have hKg:K g=none:=h.noP g hpg
 have ho:w2.heap[g]?=some wr.heap[g]:=by rw [hot g hgN];exact Array.getElem?_eq_getElem h4
 have hK1g:(K.add N (.cells (Zay R e (Zj6 e MS.length) lv pu) NT (0,0))) g=none:=by rw [Kn.add_other _ _ hgN];exact hKg
 have hle2:=Kn.le_trans hle1 (Kn.le_add (o:=wr.heap[g]) hK1g)
 refine⟨_,⟨Kn.le_trans h.d.le hle2,fun b hb=>?_,hin1.add ho,hcd,hmem.le hle2,hgr,h.d.own,fun j hj=>?_⟩,?_⟩
 ·rw [Kn.add_other _ _ (by have:=h.hN;omega),Kn.add_other _ _ (by have:=h.hN;omega)];exact h.d.fresh b hb
 ·rw [Kn.add_other _ _ (fun e=>h.apart g hpg (by rw [← e];exact hj)),Kn.add_other _ _ (fun e=>h.uN (by rw [← e];exact hj))];exact h.d.noM j hj
 have hN2:(Kn.add (K.add N (.cells (Zay R e (Zj6 e MS.length) lv pu) NT (0,0))) g wr.heap[g]) N=some (.cells (Zay R e (Zj6 e MS.length) lv pu) NT (0,0)):=by rw [Kn.add_other _ _ (Ne.symm hgN)];exact Kn.add_self _ _ _
 have hcell:∀ i (hi:i<qs.length),(Kn.add (K.add N (.cells (Zay R e (Zj6 e MS.length) lv pu) NT (0,0))) g wr.heap[g]).cell g i=some (ptrV qs[i]):=fun i hi=>by
  have h6:=h5 i (ptrV qs[i]) (by simp [hi])
  unfold Kn.cell
  rw [Kn.add_self]
  simp only [World.cell?,Array.getElem?_eq_getElem h4] at h6
  cases hc:wr.heap[g]<;>simp_all
 have hnd:Zfw NT R (Kn.add (K.add N (.cells (Zay R e (Zj6 e MS.length) lv pu) NT (0,0))) g wr.heap[g]) e.l MS.length g 0:=Zfw.mk fun i hi=>by
  have hq:i<qs.length:=by rw [h.ql];exact hi
  exact⟨qs[i],by rw [Nat.zero_add];exact hcell i hq,NdAt.le hle2 _ _ _ (h.nds i hq hi)⟩
 clear hcell
 obtain⟨o,n,s,l⟩:=e
 simp only [Ex.l] at hnd hp h1
 simp only [NdAt]
 exact⟨lv,pu,hN2,.inr ⟨g,0,cap,hp,h1,h2,hnd⟩⟩
theorem TeD.below {w w2 w3:World} (h:TeD NT PT CT R H w w2 B base cs u0 MS K u ps) (hb:Below w2.heap.size w2 w3):TeD NT PT CT R H w w3 B base cs u0 MS K u ps:=
 ⟨h.le,h.fresh,h.isin.below hb,h.cd.below hb,h.mem,h.gr.trans (Gr2.of_below hb B none) (fun _ e=>by cases e),h.own,h.noM⟩
theorem TeD.forget {w w2:World} {H0:Kn} (h:TeD NT PT CT R H0 w w2 B base cs u0 MS K u ps) (hle:H.le H0) (hfr:∀ b,b<w.heap.size→H0 b=H b):TeD NT PT CT R H w w2 B base cs u0 MS K u ps:=
 ⟨Kn.le_trans hle h.le,fun b hb=>(h.fresh b hb).trans (hfr b hb),h.isin,h.cd,h.mem,h.gr,h.own,h.noM⟩
theorem TeS.c8 (h:TeS NT PT CT R H w0 wr B N base cs e lv u0 MS dm done pu qs K u ps):wr.cell? ⟨N,8,none⟩=some (.int .i64 0)∧wr.frozen? ⟨N,8,none⟩=false:=by
 have hb:=h.box
 exact⟨by simp [World.cell?,hb,Zay],by simp [World.frozen?,hb]⟩
theorem CdS.c10 {w:World} (h:CdS PT CT w B base cs u ps) (h10:10<cs.size):w.cell? ⟨B,10,none⟩=some u:=by
 have hb:=h.box
 simp [World.cell?,hb,h10]
theorem memNds_mem {e:Ex} {m:Nat} {MS:List (Ex×Nat)} (ho:e.op=oPre∨e.op=oFby):MS++Zab m e.l++[(e,m)]=MS++Zbs m e:=by
 obtain⟨o,n,s,l⟩:=e
 simp only [Ex.op,Ex.l] at ho ⊢
 simp only [Zbs]
 rw [if_pos ho,List.append_assoc]
theorem TeS.fin0 (h:TeS NT PT CT R H w0 wr B N base cs e lv u0 MS e.l.length e.l.length pu qs K u ps) (ho:¬ (e.op=oPre∨e.op=oFby)):
  ∃ K',TeD NT PT CT R H w0 wr B base cs u0 (MS++Zbs MS.length e) K' u ps∧NdAt NT R K' e MS.length N:=by
 obtain⟨K',h1,h2⟩:=h.fin (w2:=wr) (by have:=h.box;unfold Zj6;rw [if_neg ho];exact this) (fun _ _=>rfl) ⟨rfl,rfl,rfl,rfl⟩
 refine⟨K',?_,h2⟩
 have:Zbs MS.length e=Zab MS.length e.l:=by
  obtain⟨o,n,s,l⟩:=e
  simp only [Zbs,Ex.l,Ex.op] at ho ⊢
  rw [if_neg ho,List.append_nil]
 rw [this]
 exact h1
theorem TeS.fin1 (h:TeS NT PT CT R H w0 wr B N base cs e lv u0 MS e.l.length e.l.length pu qs K u ps) (ho:e.op=oPre∨e.op=oFby):
  ∃ K',TeD NT PT CT R H w0 (wr.setCell ⟨N,8,none⟩ (.int .i64 ps.length)) B base cs u0 (MS++Zab MS.length e.l) K' u ps∧NdAt NT R K' e MS.length N:=by
 have hb:=h.box
 have hm:=h.mlen
 rw [List.take_length] at hm
 refine h.fin ?_ (fun b hb=>Below.heap_setCell wr ⟨N,8,none⟩ _ b hb) ⟨rfl,rfl,rfl,by simp⟩
 rw [Zaa _ _ _ _ _ _ _ hb]
 unfold Zj6
 rw [if_pos ho,← hm]
 rfl
theorem TeD.push {w w2 w3:World} {gg cap' q:Nat} {x:Ex×Nat} (h:TeD NT PT CT R H w w2 B base cs u0 MS K u ps) (hB:B<w.heap.size) (hKB:K B=none) (hx:NdAt NT R K x.1 x.2 q)
  (hown:w3.ownsRow base PT 1 (.slice (some ⟨gg,0,none⟩) (ps.length+1) cap') (ps.length+1) (ps.map ptrV++[ptrV q])) (hg:w2.grownBy w3 u.ownBlock) (hat:u.ownBlock=some gg∨gg=w2.heap.size) (h10:10<cs.size):
  w3.cell? ⟨B,10,none⟩=some u∧w3.frozen? ⟨B,10,none⟩=false∧
   TeD NT PT CT R H w (w3.setCell ⟨B,10,none⟩ (.slice (some ⟨gg,0,none⟩) (ps.length+1) cap')) B base cs u0 (MS++[x]) K (.slice (some ⟨gg,0,none⟩) (ps.length+1) cap') (ps++[q]):=by
 have hBx:w3.heap[B]?=_:=(hg.block B h.cd.blt (fun e=>h.cd.ne e.symm)).trans h.cd.box
 have hin:=h.isin.grown hg h.noM
 have hsz:=h.gr.size
 have hgB:gg≠B:=by
  have:=Zbi (b:=B) hown h.cd.low
  simpa [Value.ownBlock] using this
 have hKg:K gg=none:=by
  rcases hat with h1 | rfl
  ·exact h.noM gg h1
  exact h.isin.isNone (Nat.le_refl _)
 refine⟨by simp [World.cell?,hBx,h10],by simp [World.frozen?,hBx],h.le,h.fresh,hin.setCell (a:=⟨B,10,none⟩) hKB _,⟨?_,?_,h.cd.low⟩,h.mem.snoc hx,(h.gr.grown hg h.own).setCell _ _,fun g hgg=>?_,fun g hgg=>?_⟩
 ·rw [Zaa _ _ _ _ _ _ _ hBx]
  simp
 ·rw [List.map_append,List.length_append]
  exact Zal hown (by simpa [Value.ownBlock] using hgB) _
 ·have e:gg=g:=by simpa [Value.ownBlock] using hgg
  subst e
  rcases hat with h1 | rfl
  ·exact h.own gg h1
  exact .inl hsz
 have e:gg=g:=by simpa [Value.ownBlock] using hgg
 rw [← e];exact hKg
end
def noKn (R:Nat) (w:World):Kn:=fun b=>if b=R then none else w.heap[b]?
theorem Zf5 (R:Nat) (w:World):(noKn R w).In w:=fun b o e=>by
 unfold noKn at e
 split at e
 ·cases e
 exact e
theorem Ze2 (R:Nat) (w:World):noKn R w R=none:=by simp [noKn]
theorem Zf4 {R:Nat} {w:World} {K:Kn} (h:K.In w) (hR:K R=none):K.le (noKn R w):=fun b o e=>by
 unfold noKn
 rw [if_neg (fun e2=>by rw [e2,hR] at e;cases e)]
 exact h b o e
theorem Zcg {R:Nat} {w:World} {b:Nat} (h:b≠R) (i:Nat):(noKn R w).cell b i=w.cell? ⟨b,i,none⟩:=by
 rw [← Zad]
 simp [Kn.cell,noKn,Zag,h]
theorem Zgd:∀ (l:List (ByteArray×Int)) (m ks:Env Int),Zap m l=some ks→(∀ s k,m s=some k→k=1∨k=2)→∀ s k,ks s=some k→k=1∨k=2
 | [],m,ks,h,hm,s,k,hk=>by simp only [Zap] at h;cases h;exact hm s k hk
 | y :: l,m,ks,h,hm,s,k,hk=>by
  simp only [Zap] at h
  split at h
  ·rename_i hc
   refine Zgd l _ ks h (fun s' k' h'=>?_) s k hk
   by_cases e:s'=y.1
   ·rw [e,Env.set_self] at h';cases h';exact hc.2.2
   rw [Env.set_other _ _ e] at h';exact hm s' k' h'
  cases h
theorem fresh_has:∀ (l:List (ByteArray×Int)) (m ks:Env Int),Zap m l=some ks→(∀ s k,m s=some k→ks s=some k)∧∀ x∈l,ks x.1=some x.2
 | [],m,ks,h=>by simp only [Zap] at h;cases h;exact⟨fun _ _ h=>h,fun x hx=>by cases hx⟩
 | y :: l,m,ks,h=>by
  simp only [Zap] at h
  split at h
  ·rename_i hc
   obtain⟨h1,h2⟩:=fresh_has l _ ks h
   refine⟨fun s k hk=>h1 s k ?_,fun x hx=>?_⟩
   ·have hne:s≠y.1:=fun e=>by
     have h3:=hc.1
     rw [← e,hk] at h3
     cases h3
    rw [Env.set_other _ _ hne];exact hk
   rcases List.mem_cons.1 hx with rfl | hx
   ·exact h1 _ _ (Env.set_self ..)
   exact h2 x hx
  cases h
theorem Zc6 (ks:Env Int):∀ l:List Ex,Zao ks l=l.map (Zan ks)
 | []=>rfl
 | e :: l=>by rw [Zao,Zc6 ks l];rfl
theorem set2A {W:World} {b:Nat} {x y:Value} {t:TypeId} (h:W.heap[b]?=some (.cells #[x,y] t (0,0))) (u v:Value):((W.setCell ⟨b,0,none⟩ u).setCell ⟨b,1,none⟩ v).cell? ⟨b,0,none⟩=some u∧((W.setCell ⟨b,0,none⟩ u).setCell ⟨b,1,none⟩ v).cell? ⟨b,1,none⟩=some v:=by
 have h1:=Zaa W b 0 u _ _ _ h
 have h2:=Zaa _ b 1 v _ _ _ h1
 obtain⟨g0,g1,_⟩:=Zak (W:=(W.setCell ⟨b,0,none⟩ u).setCell ⟨b,1,none⟩ v) h2
 exact⟨g0,g1⟩
theorem nilOf_any (nb:Bool) (ni k:Int) (w:World):Calls Tryz.prog 60 #[.agg #[.bool nb,.int .i64 ni],.int .i64 k] w fun e w'=>e = .returned (vlV (nilV nb ni k))∧Below w.heap.size w w':=by
 have hN:=heap_alloc_new w (.cells #[.bool nb,.int .i64 ni] 88)
 have hb0:Below w.heap.size w (w.alloc (.cells #[.bool nb,.int .i64 ni] 88)):=(Below.refl _ _).alloc (Nat.le_refl _) _
 by_cases hk:k=1
 ·subst hk
  obtain⟨x,hx⟩:∃ x:Int,x=if nb then 1 else 0:=⟨_,rfl⟩
  have hnil:nilV nb ni 1=⟨1,x⟩:=by simp [nilV,tv,hx]
  have htv:tv nb=⟨1,x⟩:=by simp [tv,hx]
  rw [hnil]
  clear hnil
  go_enter Tryz.func60,Tryz.ntmps60
  go_wp2_with fail
  have hb1:Below w.heap.size w ((w.alloc (.cells #[.bool nb,.int .i64 ni] 88)).alloc (.cells #[.int .i64 0,.int .i64 0] 75)):=hb0.alloc (by simp) _
  have hR:=heap_alloc_new (w.alloc (.cells #[.bool nb,.int .i64 ni] 88)) (.cells #[.int .i64 0,.int .i64 0] 75)
  have hsz:((w.alloc (.cells #[.bool nb,.int .i64 ni] 88)).alloc (.cells #[.int .i64 0,.int .i64 0] 75)).heap.size=w.heap.size+2:=by simp
  rw [World.size_alloc] at hR
  generalize (w.alloc (.cells #[.bool nb,.int .i64 ni] 88)).alloc (.cells #[.int .i64 0,.int .i64 0] 75)=W at *
  have hcall:=Zds nb W
  rw [htv] at hcall
  clear htv hx
  refine hcall.mono ?_
  rintro r w3 ⟨rfl,hb3⟩
  have HB3:=Zhd (hb1.trans (hb3.mono (by omega)))
  have hR3:=(hb3.block (w.heap.size+1) (by omega)).trans hR
  obtain⟨q0,q1,f0,f1,hlw⟩:=Zak hR3
  obtain⟨e0,e1,e2,e3⟩:=Za7 hR3 (.int .i64 1) (.int .i64 x)
  have E0:=Zhd e0
  have E1:=Zhd e1
  clear e0 e1 e2 e3 hR3 hN hR
  go_wp2_with fail
  have e0:=E0.out
  have e1:=E1.out
  refine bodyPost_ret (v:=vlV ⟨1,x⟩) (by simp [results,Tryz.results60,go_sem,e0,e1]) rfl ?_
  exact⟨rfl,Zbv HB3.out (by omega) _ _⟩
 go_enter Tryz.func60,Tryz.ntmps60
 go_wp2_with fail
 refine bodyPost_ret (v:=vlV (nilV nb ni k)) (by simp [results,Tryz.results60,go_sem,nilV,hk]) rfl ?_
 exact⟨rfl,((Below.refl _ _).alloc (Nat.le_refl _) _).alloc (by simp) _⟩
theorem right_tv (b:Bool):Zar (tv b) 1=true:=by cases b<;>decide
theorem right_wv (n:Int):Zar (wv n) 2=true:=by
 have h1:=Int.emod_nonneg n (show (256:Int)≠0 by decide)
 have h2:=Int.emod_lt_of_pos n (show (0:Int)<256 by decide)
 unfold Zar wv Zdg
 simp only [decide_true,Bool.true_and]
 split<;>simp<;>omega
theorem right_nil {nb:Bool} {ni:Int} (h1 : -128≤ni) (h2:ni≤127) {k:Int} (hk:k=1∨k=2):Zar (nilV nb ni k) k=true:=by
 unfold nilV
 rcases hk with rfl | rfl
 ·exact right_tv nb
 simp [Zar,h1,h2]
theorem Zd8 {v:Vl} {k:Int} (h:Zar v k=true):v.kind=k∧(k=1∨k=2):=by
 unfold Zar at h
 simp only [Bool.and_eq_true,decide_eq_true_eq] at h
 refine⟨h.1,?_⟩
 by_cases e:k=1
 ·exact .inl e
 rw [if_neg e] at h
 simp only [Bool.and_eq_true,decide_eq_true_eq] at h
 exact .inr h.2.1.1
def opsL:List ByteArray:=[oInt,Zc2,Zb9,Zb2,oNot,oNeg,oPre,oIf,Zj5,Zbm,oFby,oOr,oXor,oAnd,oEq,oNe,oLt,oLe,oGt,oGe,oImp,oAdd,oSub,oMul,oDiv,oMod]
theorem arity_ops {o:ByteArray} {k:Int} (h:Zcm o=some k):o∈opsL:=by
 unfold Zcm at h
 unfold opsL
 simp only [List.mem_cons,List.not_mem_nil,or_false]
 split at h
 ·rename_i e;rcases e with e | e | e | e<;>simp [e]
 split at h
 ·rename_i e;rcases e with e | e | e<;>simp [e]
 split at h
 ·rename_i e;simp [e]
 split at h
 ·rename_i e;simp [e]
 split at h
 ·rename_i e;rcases e with e | e<;>simp [e]
 split at h
 ·rename_i e
  simp only [levels,List.any_cons,List.any_nil,List.contains_cons,List.contains_nil,Bool.or_false,Bool.or_eq_true,beq_iff_eq] at e
  rcases e with ((e | e) | e | (e | e | e | e | e | e | e) | (e | e) | (e | e | e))<;>simp [e]
 cases h
theorem app_right {o:ByteArray} {k:Int} (ho:o∈opsL) (n1:o≠oInt∧o≠Zc2∧o≠Zb9∧o≠Zb2∧o≠oPre∧o≠Zbm∧o≠oFby∧o≠Zj5) {vs:List Vl} (hv:∀ v∈vs,Zar v v.kind=true)
  (hk:Zch o k (vs.map (·.kind))≠0):if (appM o vs).2=true then Zch o k (vs.map (·.kind))=2 else Zar (appM o vs).1 (Zch o k (vs.map (·.kind)))=true:=by
 obtain⟨a1,a2,a3,a4,a5,a6,a7,a8⟩:=n1
 unfold opsL at ho
 simp only [List.mem_cons,List.not_mem_nil,or_false,a1,a2,a3,a4,a5,a6,a7,a8,false_or] at ho
 by_cases hif:o=oIf
 ·subst hif
  have e:Zch oIf k (vs.map (·.kind))=(if (vs.map (·.kind)).getD 0 0=1∧(vs.map (·.kind)).getD 1 0=(vs.map (·.kind)).getD 2 0 then (vs.map (·.kind)).getD 1 0 else 0):=rfl
  have e2:appM oIf vs=(if (vs.getD 0 vz).n=1 then vs.getD 1 vz else vs.getD 2 vz,false):=rfl
  rw [e] at hk ⊢
  rw [e2]
  by_cases hc:(vs.map (·.kind)).getD 0 0=1∧(vs.map (·.kind)).getD 1 0=(vs.map (·.kind)).getD 2 0
  ·rw [if_pos hc] at hk ⊢
   have hg:∀ j,(vs.map (·.kind)).getD j 0=(vs.getD j vz).kind:=fun j=>by
    simp only [List.getD_eq_getElem?_getD,List.getElem?_map]
    cases vs[j]?<;>rfl
   have hr:∀ j,(vs.getD j vz).kind≠0→Zar (vs.getD j vz) (vs.getD j vz).kind=true:=fun j hj=>by
    by_cases hl:j<vs.length
    ·have:vs.getD j vz=vs[j]:=by simp [List.getD_eq_getElem?_getD,hl]
     rw [this]
     exact hv _ (List.getElem_mem hl)
    have:vs.getD j vz=vz:=by simp [List.getD_eq_getElem?_getD,hl]
    rw [this] at hj
    exact absurd rfl hj
   rw [hg 1,hg 2] at hc
   rw [hg 1] at hk ⊢
   simp only [Bool.false_eq_true,if_false]
   split
   ·exact hr 1 hk
   rw [hc.2]
   exact hr 2 (by rw [← hc.2];exact hk)
  rw [if_neg hc] at hk
  exact absurd rfl hk
 have hs:∀ c d:Bool,(if (c&&d)=true then (1:Int) else 0)≠0→(if (c&&d)=true then (1:Int) else 0)=1:=by intro c d;cases c<;>cases d<;>simp
 have hs1:∀ c:Bool,(if c=true then (1:Int) else 0)≠0→(if c=true then (1:Int) else 0)=1:=by intro c;cases c<;>simp
 have hs2:∀ c d:Bool,(if (c&&d)=true then (2:Int) else 0)≠0→(if (c&&d)=true then (2:Int) else 0)=2:=by intro c d;cases c<;>cases d<;>simp
 have T:∀ {b:Bool} {x:Int},appM o vs=(tv b,false)→x=1→if (appM o vs).2=true then x=2 else Zar (appM o vs).1 x=true:=fun e ex=>by
  rw [e,ex]
  exact right_tv _
 have W:∀ {n:Int} {x:Int},appM o vs=(wv n,false)→x=2→if (appM o vs).2=true then x=2 else Zar (appM o vs).1 x=true:=fun e ex=>by
  rw [e,ex]
  exact right_wv _
 generalize hK:vs.map (·.kind)=K at *
 rcases ho with rfl | rfl | rfl | rfl | rfl | rfl | rfl | rfl | rfl | rfl | rfl | rfl | rfl | rfl | rfl | rfl | rfl | rfl
 ·exact T rfl (hs _ _ hk)
 ·exact W rfl (hs2 _ _ hk)
 ·exact absurd rfl hif
 ·exact T rfl (hs _ _ hk)
 ·exact T rfl (hs _ _ hk)
 ·exact T rfl (hs _ _ hk)
 ·exact T rfl (hs1 _ hk)
 ·exact T rfl (hs1 _ hk)
 ·exact T rfl (hs _ _ hk)
 ·exact T rfl (hs _ _ hk)
 ·exact T rfl (hs _ _ hk)
 ·exact T rfl (hs _ _ hk)
 ·exact T rfl (hs _ _ hk)
 ·exact W rfl (hs2 _ _ hk)
 ·exact W rfl (hs2 _ _ hk)
 ·exact W rfl (hs2 _ _ hk)
 ·by_cases h0:(vs.getD 1 vz).n=0
  ·have e:appM oDiv vs=(vz,true):=by unfold appM;generalize vs.getD 1 vz=b at h0 ⊢;simp [h0]
   rw [e]
   exact hs2 _ _ hk
  exact W (show appM oDiv vs=(wv ((vs.getD 0 vz).n.tdiv (vs.getD 1 vz).n),false) from by unfold appM;generalize vs.getD 1 vz=b at h0 ⊢;generalize vs.getD 0 vz=a;simp [h0]) (hs2 _ _ hk)
 by_cases h0:(vs.getD 1 vz).n=0
 ·have e:appM oMod vs=(vz,true):=by unfold appM;generalize vs.getD 1 vz=b at h0 ⊢;simp [h0]
  rw [e]
  exact hs2 _ _ hk
 exact W (show appM oMod vs=(wv ((vs.getD 0 vz).n.tmod (vs.getD 1 vz).n),false) from by unfold appM;generalize vs.getD 1 vz=b at h0 ⊢;generalize vs.getD 0 vz=a;simp [h0]) (hs2 _ _ hk)
theorem Zea {ks:Env Int} {o:ByteArray} {n:Int} {s:ByteArray} {l:List Ex} (h:Zan ks (.mk o n s l)≠0):Zan ks (.mk o n s l)=Zch o ((ks s).getD 0) (Zao ks l)∧∀ e∈l,Zan ks e≠0:=by
 simp only [Zan] at h ⊢
 by_cases hc:(Zao ks l).contains 0=true
 ·rw [if_pos hc] at h;exact absurd rfl h
 rw [if_neg hc]
 refine⟨rfl,fun e he h0=>hc ?_⟩
 rw [List.contains_iff_mem]
 clear h hc
 induction l with
 | nil=>cases he
 | cons x l ih=>
  simp only [Zao,List.mem_cons]
  rcases List.mem_cons.1 he with rfl | he
  ·exact .inl h0.symm
  exact .inr (ih he)
theorem Zey {p:Pr} (hck:Zaj p=0) {ks:Env Int} (hks:Zap Env.none p.vars=some ks):∀ e∈p.terms,Zaf ks e=true∧Zan ks e≠0:=by
 obtain⟨ks',hks',_,hfm,_,_,_,hkg⟩:=Zb4 hck
 rw [hks] at hks'
 cases hks'
 intro e he
 obtain⟨i,hi,rfl⟩:=List.mem_iff_getElem.1 he
 refine⟨(Zbg ks _).1 hfm i hi,?_⟩
 rw [(Zct ks _ _).1 hkg i hi]
 by_cases hf:i<p.fl.length
 ·have:=(fresh_has _ _ _ hks).2 (p.fl[i].name,p.fl[i].kind) (by
   simp only [Pr.vars,List.mem_append,List.mem_map]
   exact .inr ⟨p.fl[i],List.getElem_mem _,rfl⟩)
  have h2:=Zgd _ _ _ hks (fun s k h=>by simp [Env.none] at h) _ _ this
  have e:(p.fl.map (·.kind)).getD i 1=p.fl[i].kind:=by simp [List.getD_eq_getElem?_getD,hf]
  rw [e]
  simp only at h2
  omega
 have e:(p.fl.map (·.kind)).getD i 1=1:=by simp [List.getD_eq_getElem?_getD,hf]
 rw [e];decide
theorem form_int {n:Int} {s:ByteArray} {l:List Ex} (h:form (.mk oInt n s l)=true):0≤n∧n≤127:=by
 have:Zcm oInt=some 0:=rfl
 simp only [form,Ex.op,this,Ex.n,Bool.and_eq_true,Bool.or_eq_true,decide_eq_true_eq] at h
 rcases h.1.2 with h | h
 ·have:=of_decide_eq_true h;omega
 have h1:=of_decide_eq_true h.1.2;have h2:=of_decide_eq_true h.2;omega
end Go.Proofs.YtgoccoldkfpbgaaGreatDoor
