/- Small things that several families lean on: literals, cells of two. -/
import Derived.Test.YtofameafdnkijaaGreatDoorRunC
import Derived.Test.YtofameafdnkijaaGreatDoorFormA
import Derived.Test.YtofameafdnkijaaGreatDoorRg
set_option linter.all false
namespace Go.Proofs.YtofameafdnkijaaGreatDoor
open Go.RowKit Mx
theorem Zjg {o:ByteArray} {s:List UInt8} (h:(o.toList==s)=true):o=⟨⟨s⟩⟩:=by
 refine Classical.byContradiction fun hn=>?_
 rw [Zb4 s hn] at h
 cases h
theorem set2A {W:World} {b:Nat} {x y:Value} {t:TypeId} (h:W.heap[b]?=some (.cells #[x,y] t (0,0))) (u v:Value):((W.setCell ⟨b,0,none⟩ u).setCell ⟨b,1,none⟩ v).cell? ⟨b,0,none⟩=some u∧((W.setCell ⟨b,0,none⟩ u).setCell ⟨b,1,none⟩ v).cell? ⟨b,1,none⟩=some v:=by
 have h1:=Zab W b 0 u _ _ _ h
 have h2:=Zab _ b 1 v _ _ _ h1
 obtain⟨g0,g1,_⟩:=Zay (W:=(W.setCell ⟨b,0,none⟩ u).setCell ⟨b,1,none⟩ v) h2
 exact⟨g0,g1⟩
theorem own_gr2 {w w':World} {base:Nat} {e:TypeId} {k n:Nat} {v:Value} {xs:List Value} (h:w.ownsRow base e k v n xs) {B:Nat} {row:Option Nat} (hg:Gr2 w w' B row) (hB:v.ownBlock≠some B) (ha:∀ g,v.ownBlock=some g→row≠some g):w'.ownsRow base e k v n xs:=by
 refine⟨h.1,h.2.imp id ?_⟩
 rintro⟨g,cap,cur,h1,h2,h3,h4⟩
 have hv:v.ownBlock=some g:=by rw [h1];rfl
 exact⟨g,cap,cur,h1,h2,by rw [hg.block g (Zlt h3) (fun e=>hB (by rw [hv,e])) (fun e=>ha g hv e.symm)];exact h3,h4⟩
structure PsAt (T:TypeId) (R:REnv) (K:Kn) (MS:List (Ex×Nat)) (ps:List Nat):Prop where
 len:ps.length=MS.length
 nd:∀ i (h:i<MS.length) (h2:i<ps.length),NdAt T R K MS[i].1 MS[i].2 ps[i]
theorem PsAt.le {T:TypeId} {R:REnv} {K K':Kn} (hle:K.le K') {MS:List (Ex×Nat)} {ps:List Nat} (h:PsAt T R K MS ps):PsAt T R K' MS ps:=⟨h.len,fun i h1 h2=>NdAt.le hle _ _ _ (h.nd i h1 h2)⟩
theorem PsAt.snoc {T:TypeId} {R:REnv} {K:Kn} {MS:List (Ex×Nat)} {ps:List Nat} (h:PsAt T R K MS ps) {x:Ex×Nat} {q:Nat} (hx:NdAt T R K x.1 x.2 q):PsAt T R K (MS++[x]) (ps++[q]):=
 ⟨by simp [h.len],fun i h1 h2=>by
  have hl:=h.len
  by_cases hi:i<MS.length
  ·rw [List.getElem_append_left hi,List.getElem_append_left (by omega)]
   exact h.nd i hi (by omega)
  have hi':i=MS.length:=by simp at h1;omega
  rw [List.getElem_append_right (by omega),List.getElem_append_right (by omega)]
  simpa using hx⟩
structure CdS (PT CT:TypeId) (w:World) (B base:Nat) (cs:Array Value) (u:Value) (ps:List Nat):Prop where
 box:w.heap[B]?=some (.cells (cs.setIfInBounds 10 u) CT (0,0))
 row:w.ownsRow base PT 1 u ps.length (ps.map ptrV)
 low:B<base
theorem CdS.blt {PT CT:TypeId} {w:World} {B base:Nat} {cs:Array Value} {u:Value} {ps:List Nat} (h:CdS PT CT w B base cs u ps):B<w.heap.size:=(Zlt h.box)
theorem CdS.ne {PT CT:TypeId} {w:World} {B base:Nat} {cs:Array Value} {u:Value} {ps:List Nat} (h:CdS PT CT w B base cs u ps):u.ownBlock≠some B:=Zbn h.row h.low
theorem CdS.below {PT CT:TypeId} {w w':World} {B base:Nat} {cs:Array Value} {u:Value} {ps:List Nat} (h:CdS PT CT w B base cs u ps) (hb:Below w.heap.size w w'):CdS PT CT w' B base cs u ps:=
 ⟨by rw [hb.block B h.blt];exact h.box,Zao h.row hb,h.low⟩
structure TeD (NT PT CT:TypeId) (R:REnv) (H:Kn) (w w':World) (B base:Nat) (cs:Array Value) (u:Value) (MS:List (Ex×Nat)) (K:Kn) (u':Value) (ps':List Nat):Prop where
 le:H.le K
 fresh:∀ b,b<w.heap.size→K b=H b
 isin:K.In w'
 cd:CdS PT CT w' B base cs u' ps'
 mem:PsAt NT R K MS ps'
 gr:Gr2 w w' B u.ownBlock
 own:∀ g,u'.ownBlock=some g→w.heap.size≤g∨u.ownBlock=some g
 noM:∀ g,u'.ownBlock=some g→K g=none
structure TeS (NT PT CT:TypeId) (R:REnv) (H:Kn) (w0 wr:World) (B N base:Nat) (cs:Array Value) (e:Ex) (lv:Value) (u0:Value) (MS:List (Ex×Nat)) (dm done:Nat) (pu:Value) (qs:List Nat) (K:Kn) (u:Value) (ps:List Nat):Prop where
 d:TeD NT PT CT R H w0 wr B base cs u0 (MS++Zah MS.length (e.l.take dm)) K u ps
 nt:NT≠PT
 noB:H B=none
 hB:B<w0.heap.size
 hN:w0.heap.size≤N
 box:wr.heap[N]?=some (.cells (Za4 R e 0 lv pu) NT (0,0))
 noN:K N=none
 row:wr.ownsRow (N+1) PT 1 pu done (qs.map ptrV)
 noP:∀ g,pu.ownBlock=some g→K g=none
 ql:qs.length=done
 nds:∀ i (h:i<qs.length) (h2:i<e.l.length),NdAt NT R K e.l[i] (MS.length+Zal (e.l.take i)) qs[i]
 apart:∀ g,pu.ownBlock=some g→u.ownBlock≠some g
section
variable {NT PT CT : TypeId} {R : REnv} {H K : Kn} {w0 wr : World} {B N base : Nat} {cs : Array Value} {e : Ex} {lv u0 : Value} {MS : List (Ex × Nat)} {dm done : Nat} {pu : Value} {qs : List Nat} {u : Value} {ps : List Nat}
theorem TeS.nlt (h:TeS NT PT CT R H w0 wr B N base cs e lv u0 MS dm done pu qs K u ps):N<wr.heap.size:=(Zlt h.box)
theorem TeS.kB (h:TeS NT PT CT R H w0 wr B N base cs e lv u0 MS dm done pu qs K u ps):K B=none:=by rw [h.d.fresh B h.hB];exact h.noB
theorem TeS.uN (h:TeS NT PT CT R H w0 wr B N base cs e lv u0 MS dm done pu qs K u ps):u.ownBlock≠some N:=Zd3 h.d.cd.row h.box h.nt
theorem TeS.pN (h:TeS NT PT CT R H w0 wr B N base cs e lv u0 MS dm done pu qs K u ps):pu.ownBlock≠some N:=Zbn h.row (by omega)
theorem TeS.pB (h:TeS NT PT CT R H w0 wr B N base cs e lv u0 MS dm done pu qs K u ps):pu.ownBlock≠some B:=Zbn h.row (by have:=h.hB;have:=h.hN;omega)
theorem TeS.mlen (h:TeS NT PT CT R H w0 wr B N base cs e lv u0 MS dm done pu qs K u ps):ps.length=MS.length+Zal (e.l.take dm):=by
 rw [h.d.mem.len,List.length_append,Zbh]
theorem TeS.below {w':World} (h:TeS NT PT CT R H w0 wr B N base cs e lv u0 MS dm done pu qs K u ps) (hb:Below wr.heap.size wr w'):TeS NT PT CT R H w0 w' B N base cs e lv u0 MS dm done pu qs K u ps:=
 ⟨⟨h.d.le,h.d.fresh,h.d.isin.below hb,h.d.cd.below hb,h.d.mem,h.d.gr.trans (Gr2.of_below hb B none) (fun _ e=>by cases e),h.d.own,h.d.noM⟩,
  h.nt,h.noB,h.hB,h.hN,by rw [hb.block N h.nlt];exact h.box,h.noN,Zao h.row hb,h.noP,h.ql,h.nds,h.apart⟩
theorem Gr2.setFar {a w:World} {B:Nat} {row:Option Nat} (h:Gr2 a w B row) {N:Nat} (hN:a.heap.size≤N) (i:Nat) (v:Value):Gr2 a (w.setCell ⟨N,i,none⟩ v) B row:=
 ⟨h.os,h.tape,h.output,by simpa using h.size,fun j hj h1 h2=>by rw [Below.heap_setCell w ⟨N,i,none⟩ v j (by show j≠N;omega)];exact h.block j hj h1 h2⟩
theorem TeS.child {w':World} {K':Kn} {u':Value} {ps':List Nat} (h:TeS NT PT CT R H w0 wr B N base cs e lv u0 MS done done pu qs K u ps) (hd:done<e.l.length)
  (k:TeD NT PT CT R K wr w' B base cs u (MS++Zah MS.length (e.l.take done)++Zca ps.length e.l[done]) K' u' ps'):
  TeS NT PT CT R H w0 w' B N base cs e lv u0 MS (done+1) done pu qs K' u' ps':=by
 have hsz:=h.d.gr.size
 have hps:=h.mlen
 refine⟨⟨Kn.le_trans h.d.le k.le,fun b hb=>(k.fresh b (by omega)).trans (h.d.fresh b hb),k.isin,k.cd,?_,h.d.gr.trans k.gr h.d.own,fun g hg=>?_,k.noM⟩,h.nt,h.noB,h.hB,h.hN,?_,(k.fresh N h.nlt).trans h.noN,own_gr2 h.row k.gr h.pB h.apart,fun g hg=>?_,h.ql,fun i h1 h2=>NdAt.le k.le _ _ _ (h.nds i h1 h2),fun g hg hu=>?_⟩
 ·have:=k.mem
  rw [hps,List.append_assoc,← Zjf _ _ _ hd] at this
  exact this
 ·rcases k.own g hg with h1 | h1
  ·exact .inl (by omega)
  exact h.d.own g h1
 ·rw [k.gr.block N h.nlt (by have:=h.hB;have:=h.hN;omega) (fun e=>h.uN e.symm)]
  exact h.box
 ·rw [k.fresh g (h.row.lt g hg).2];exact h.noP g hg
 have hlt:=(h.row.lt g hg).2
 rcases k.own g hu with h1 | h1
 ·omega
 exact h.apart g hg h1
theorem TeS.app {w3:World} {gg cap' q:Nat} (h:TeS NT PT CT R H w0 wr B N base cs e lv u0 MS (done+1) done pu qs K u ps) (hd:done<e.l.length) (hq:NdAt NT R K e.l[done] (MS.length+Zal (e.l.take done)) q)
  (hown:w3.ownsRow (N+1) PT 1 (.slice (some ⟨gg,0,none⟩) (done+1) cap') (done+1) (qs.map ptrV++[ptrV q])) (hg:wr.grownBy w3 pu.ownBlock) (hat:pu.ownBlock=some gg∨gg=wr.heap.size):
  w3.cell? ⟨N,4,none⟩=some pu∧w3.frozen? ⟨N,4,none⟩=false∧
   TeS NT PT CT R H w0 (w3.setCell ⟨N,4,none⟩ (.slice (some ⟨gg,0,none⟩) (done+1) cap')) B N base cs e lv u0 MS (done+1) (done+1) (.slice (some ⟨gg,0,none⟩) (done+1) cap') (qs++[q]) K u ps:=by
 have hNlt:=h.nlt
 have hsz:=h.d.gr.size
 have hbx:w3.heap[N]?=_:=(hg.block N hNlt (fun e=>h.pN e.symm)).trans h.box
 have hBx:w3.heap[B]?=_:=(hg.block B h.d.cd.blt (fun e=>h.pB e.symm)).trans h.d.cd.box
 have hBN:B≠N:=by have:=h.hB;have:=h.hN;omega
 have hin:=h.d.isin.grown hg h.noP
 have hgN:gg≠N:=by
  have:=Zbn (b:=N) hown (by omega)
  simpa [Value.ownBlock] using this
 have hKg:K gg=none:=by
  rcases hat with h1 | rfl
  ·exact h.noP gg h1
  exact h.d.isin.isNone (Nat.le_refl _)
 refine⟨by simp [World.cell?,hbx,Za4],by simp [World.frozen?,hbx],⟨h.d.le,h.d.fresh,hin.setCell (a:=⟨N,4,none⟩) h.noN _,⟨?_,?_,h.d.cd.low⟩,h.d.mem,(h.d.gr.grown hg fun j hj => .inl ?_).setFar h.hN _ _,h.d.own,h.d.noM⟩,h.nt,h.noB,h.hB,h.hN,?_,h.noN,?_,fun g hgg=>?_,by simp [h.ql],fun i h1 h2=>?_,fun g hgg hu=>?_⟩
 ·rw [Below.heap_setCell w3 _ _ B hBN];exact hBx
 ·exact Zaq (Zc4 h.d.cd.row hg fun g hu hp=>h.apart g hp hu) h.uN _
 ·have:=(h.row.lt j hj).1
  have:=h.hN
  omega
 ·rw [Zab _ _ _ _ _ _ _ hbx];rfl
 ·rw [List.map_append]
  exact Zaq hown (by simpa [Value.ownBlock] using hgN) _
 ·have:gg=g:=by simpa [Value.ownBlock] using hgg
  rw [← this];exact hKg
 ·by_cases hi:i<qs.length
  ·rw [List.getElem_append_left hi]
   exact h.nds i hi h2
  have hi':i=qs.length:=by simp at h1;omega
  rw [List.getElem_append_right (by omega)]
  have hqd:=h.ql
  obtain rfl:i=done:=by omega
  simpa using hq
 have:gg=g:=by simpa [Value.ownBlock] using hgg
 subst this
 rcases hat with h1 | rfl
 ·exact h.apart gg h1 hu
 have:=(h.d.cd.row.lt _ hu).2
 omega
theorem TeS.c4 (h:TeS NT PT CT R H w0 wr B N base cs e lv u0 MS dm done pu qs K u ps):wr.cell? ⟨N,4,none⟩=some pu:=by
 have hb:=h.box
 simp [World.cell?,hb,Za4]
theorem TeS.alloc (h:TeS NT PT CT R H w0 wr B N base cs e lv u0 MS dm done pu qs K u ps) (o:Obj):TeS NT PT CT R H w0 (wr.alloc o) B N base cs e lv u0 MS dm done pu qs K u ps:=h.below ((Below.refl _ _).alloc (Nat.le_refl _) o)
theorem TeS.nlt' (h:TeS NT PT CT R H w0 wr B N base cs e lv u0 MS dm done pu qs K u ps):N+1≤wr.heap.size:=h.nlt
theorem TeS.child2 {w':World} {K':Kn} {u':Value} {ps':List Nat} {x:Ex} {q:Nat} (h:TeS NT PT CT R H w0 wr B N base cs e lv u0 MS done done pu qs K u ps) (hd:done<e.l.length) (hx:e.l[done]=x)
  (k:TeD NT PT CT R K wr w' B base cs u (MS++Zah MS.length (e.l.take done)++Zca (MS++Zah MS.length (e.l.take done)).length x) K' u' ps') (hq:NdAt NT R K' x (MS++Zah MS.length (e.l.take done)).length q):
  TeS NT PT CT R H w0 w' B N base cs e lv u0 MS (done+1) done pu qs K' u' ps'∧NdAt NT R K' x (MS.length+Zal (e.l.take done)) q:=by
 subst hx
 refine⟨h.child hd (by rw [h.d.mem.len];exact k),?_⟩
 rw [List.length_append,Zbh] at hq
 exact hq
theorem TeS.app2 {w3:World} {gg cap' q:Nat} {x:Ex} (h:TeS NT PT CT R H w0 wr B N base cs e lv u0 MS (done+1) done pu qs K u ps) (hd:done<e.l.length) (hx:e.l[done]=x) (hq:NdAt NT R K x (MS.length+Zal (e.l.take done)) q)
  (hown:w3.ownsRow (N+1) PT 1 (.slice (some ⟨gg,0,none⟩) (done+1) cap') (done+1) (qs.map ptrV++[ptrV q])) (hg:wr.grownBy w3 pu.ownBlock) (hat:pu.ownBlock=some gg∨gg=wr.heap.size):
  w3.cell? ⟨N,4,none⟩=some pu∧w3.frozen? ⟨N,4,none⟩=false∧
   TeS NT PT CT R H w0 (w3.setCell ⟨N,4,none⟩ (.slice (some ⟨gg,0,none⟩) (done+1) cap')) B N base cs e lv u0 MS (done+1) (done+1) (.slice (some ⟨gg,0,none⟩) (done+1) cap') (qs++[q]) K u ps:=by
 subst hx
 exact h.app hd hq hown hg hat
theorem TeS.fin {w2:World} (h:TeS NT PT CT R H w0 wr B N base cs e lv u0 MS e.l.length e.l.length pu qs K u ps)
  (hbox:w2.heap[N]?=some (.cells (Za4 R e (Zju e MS.length) lv pu) NT (0,0))) (hot:∀ b,b≠N→w2.heap[b]?=wr.heap[b]?) (hos:w2.os=wr.os∧w2.tape=wr.tape∧w2.output=wr.output∧w2.heap.size=wr.heap.size):
  ∃ K',TeD NT PT CT R H w0 w2 B base cs u0 (MS++Zah MS.length e.l) K' u ps∧NdAt NT R K' e MS.length N:=by
 have hNlt:=h.nlt
 have hBN:B≠N:=by have:=h.hB;have:=h.hN;omega
 have hsz:=h.d.gr.size
 have hmem:=h.d.mem
 rw [List.take_length] at hmem
 have hgr:Gr2 w0 w2 B u0.ownBlock:=⟨hos.1.trans h.d.gr.os,hos.2.1.trans h.d.gr.tape,hos.2.2.1.trans h.d.gr.output,by rw [hos.2.2.2];exact hsz,fun i hi h1 h2=>by
  rw [hot i (by have:=h.hN;omega)];exact h.d.gr.block i hi h1 h2⟩
 have hin:K.In w2:=h.d.isin.of_heap fun b hb=>hot b fun e=>hb (by rw [e];exact h.noN)
 have hin1:=hin.add hbox
 have hle1:K.le (K.add N (.cells (Za4 R e (Zju e MS.length) lv pu) NT (0,0))):=Kn.le_add h.noN
 have hcd:CdS PT CT w2 B base cs u ps:=⟨by rw [hot B hBN];exact h.d.cd.box,by
  have hr:=h.d.cd.row
  refine⟨hr.1,hr.2.imp id ?_⟩
  rintro⟨g,cap,cur,h1,h2,h3,h4⟩
  exact⟨g,cap,cur,h1,h2,by rw [hot g (fun e=>h.uN (by rw [h1,e];rfl))];exact h3,h4⟩,h.d.cd.low⟩
 by_cases h0:e.l.length=0
 ·refine⟨_,⟨Kn.le_trans h.d.le hle1,fun b hb=>?_,hin1,hcd,hmem.le hle1,hgr,h.d.own,fun g hg=>?_⟩,?_⟩
  ·rw [Kn.add_other _ _ (by have:=h.hN;omega)];exact h.d.fresh b hb
  ·rw [Kn.add_other _ _ (fun e=>h.uN (by rw [← e];exact hg))];exact h.d.noM g hg
  obtain⟨a,cap,hp,_⟩:=Zau h.row
  obtain⟨o,n,s,l⟩:=e
  simp only [Ex.l] at h0 hp
  simp only [NdAt]
  exact⟨lv,pu,Kn.add_self _ _ _,.inl ⟨List.eq_nil_of_length_eq_zero h0,a,cap,by rw [hp,h0]⟩⟩
 obtain⟨g,cap,hp,h1,h2,h3,h4,h5⟩:=Zbp h.row (by omega)
 have hgN:g≠N:=by omega
 have hgB:g≠B:=by have:=h.hB;have:=h.hN;omega
 have hpg:pu.ownBlock=some g:=by rw [hp];rfl
 have hKg:K g=none:=h.noP g hpg
 have ho:w2.heap[g]?=some wr.heap[g]:=by rw [hot g hgN];exact Array.getElem?_eq_getElem h4
 have hK1g:(K.add N (.cells (Za4 R e (Zju e MS.length) lv pu) NT (0,0))) g=none:=by rw [Kn.add_other _ _ hgN];exact hKg
 have hle2:=Kn.le_trans hle1 (Kn.le_add (o:=wr.heap[g]) hK1g)
 refine⟨_,⟨Kn.le_trans h.d.le hle2,fun b hb=>?_,hin1.add ho,hcd,hmem.le hle2,hgr,h.d.own,fun j hj=>?_⟩,?_⟩
 ·rw [Kn.add_other _ _ (by have:=h.hN;omega),Kn.add_other _ _ (by have:=h.hN;omega)];exact h.d.fresh b hb
 ·rw [Kn.add_other _ _ (fun e=>h.apart g hpg (by rw [← e];exact hj)),Kn.add_other _ _ (fun e=>h.uN (by rw [← e];exact hj))];exact h.d.noM j hj
 have hN2:(Kn.add (K.add N (.cells (Za4 R e (Zju e MS.length) lv pu) NT (0,0))) g wr.heap[g]) N=some (.cells (Za4 R e (Zju e MS.length) lv pu) NT (0,0)):=by rw [Kn.add_other _ _ (Ne.symm hgN)];exact Kn.add_self _ _ _
 have hcell:∀ i (hi:i<qs.length),(Kn.add (K.add N (.cells (Za4 R e (Zju e MS.length) lv pu) NT (0,0))) g wr.heap[g]).cell g i=some (ptrV qs[i]):=fun i hi=>by
  have h6:=h5 i (ptrV qs[i]) (by simp [hi])
  unfold Kn.cell
  rw [Kn.add_self]
  simp only [World.cell?,Array.getElem?_eq_getElem h4] at h6
  cases hc:wr.heap[g]<;>simp_all
 have hnd:Zf7 NT R (Kn.add (K.add N (.cells (Za4 R e (Zju e MS.length) lv pu) NT (0,0))) g wr.heap[g]) e.l MS.length g 0:=Zf7.mk fun i hi=>by
  have hq:i<qs.length:=by rw [h.ql];exact hi
  exact⟨qs[i],by rw [Nat.zero_add];exact hcell i hq,NdAt.le hle2 _ _ _ (h.nds i hq hi)⟩
 clear hcell
 obtain⟨o,n,s,l⟩:=e
 simp only [Ex.l] at hnd hp h1
 simp only [NdAt]
 exact⟨lv,pu,hN2,.inr ⟨g,0,cap,hp,h1,h2,hnd⟩⟩
theorem TeD.below {w w2 w3:World} (h:TeD NT PT CT R H w w2 B base cs u0 MS K u ps) (hb:Below w2.heap.size w2 w3):TeD NT PT CT R H w w3 B base cs u0 MS K u ps:=
 ⟨h.le,h.fresh,h.isin.below hb,h.cd.below hb,h.mem,h.gr.trans (Gr2.of_below hb B none) (fun _ e=>by cases e),h.own,h.noM⟩
theorem TeD.forget {w w2:World} {H0:Kn} (h:TeD NT PT CT R H0 w w2 B base cs u0 MS K u ps) (hle:H.le H0) (hfr:∀ b,b<w.heap.size→H0 b=H b):TeD NT PT CT R H w w2 B base cs u0 MS K u ps:=
 ⟨Kn.le_trans hle h.le,fun b hb=>(h.fresh b hb).trans (hfr b hb),h.isin,h.cd,h.mem,h.gr,h.own,h.noM⟩
theorem TeS.c8 (h:TeS NT PT CT R H w0 wr B N base cs e lv u0 MS dm done pu qs K u ps):wr.cell? ⟨N,8,none⟩=some (.int .i64 0)∧wr.frozen? ⟨N,8,none⟩=false:=by
 have hb:=h.box
 exact⟨by simp [World.cell?,hb,Za4],by simp [World.frozen?,hb]⟩
theorem CdS.c10 {w:World} (h:CdS PT CT w B base cs u ps) (h10:10<cs.size):w.cell? ⟨B,10,none⟩=some u:=by
 have hb:=h.box
 simp [World.cell?,hb,h10]
theorem memNds_mem {e:Ex} {m:Nat} {MS:List (Ex×Nat)} (ho:e.op=oPre∨e.op=oFby):MS++Zah m e.l++[(e,m)]=MS++Zca m e:=by
 obtain⟨o,n,s,l⟩:=e
 simp only [Ex.op,Ex.l] at ho ⊢
 simp only [Zca]
 rw [if_pos ho,List.append_assoc]
theorem TeS.fin0 (h:TeS NT PT CT R H w0 wr B N base cs e lv u0 MS e.l.length e.l.length pu qs K u ps) (ho:¬ (e.op=oPre∨e.op=oFby)):
  ∃ K',TeD NT PT CT R H w0 wr B base cs u0 (MS++Zca MS.length e) K' u ps∧NdAt NT R K' e MS.length N:=by
 obtain⟨K',h1,h2⟩:=h.fin (w2:=wr) (by have:=h.box;unfold Zju;rw [if_neg ho];exact this) (fun _ _=>rfl) ⟨rfl,rfl,rfl,rfl⟩
 refine⟨K',?_,h2⟩
 have:Zca MS.length e=Zah MS.length e.l:=by
  obtain⟨o,n,s,l⟩:=e
  simp only [Zca,Ex.l,Ex.op] at ho ⊢
  rw [if_neg ho,List.append_nil]
 rw [this]
 exact h1
theorem TeS.fin1 (h:TeS NT PT CT R H w0 wr B N base cs e lv u0 MS e.l.length e.l.length pu qs K u ps) (ho:e.op=oPre∨e.op=oFby):
  ∃ K',TeD NT PT CT R H w0 (wr.setCell ⟨N,8,none⟩ (.int .i64 ps.length)) B base cs u0 (MS++Zah MS.length e.l) K' u ps∧NdAt NT R K' e MS.length N:=by
 have hb:=h.box
 have hm:=h.mlen
 rw [List.take_length] at hm
 refine h.fin ?_ (fun b hb=>Below.heap_setCell wr ⟨N,8,none⟩ _ b hb) ⟨rfl,rfl,rfl,by simp⟩
 rw [Zab _ _ _ _ _ _ _ hb]
 unfold Zju
 rw [if_pos ho,← hm]
 rfl
theorem TeD.push {w w2 w3:World} {gg cap' q:Nat} {x:Ex×Nat} (h:TeD NT PT CT R H w w2 B base cs u0 MS K u ps) (hB:B<w.heap.size) (hKB:K B=none) (hx:NdAt NT R K x.1 x.2 q)
  (hown:w3.ownsRow base PT 1 (.slice (some ⟨gg,0,none⟩) (ps.length+1) cap') (ps.length+1) (ps.map ptrV++[ptrV q])) (hg:w2.grownBy w3 u.ownBlock) (hat:u.ownBlock=some gg∨gg=w2.heap.size) (h10:10<cs.size):
  w3.cell? ⟨B,10,none⟩=some u∧w3.frozen? ⟨B,10,none⟩=false∧
   TeD NT PT CT R H w (w3.setCell ⟨B,10,none⟩ (.slice (some ⟨gg,0,none⟩) (ps.length+1) cap')) B base cs u0 (MS++[x]) K (.slice (some ⟨gg,0,none⟩) (ps.length+1) cap') (ps++[q]):=by
 have hBx:w3.heap[B]?=_:=(hg.block B h.cd.blt (fun e=>h.cd.ne e.symm)).trans h.cd.box
 have hin:=h.isin.grown hg h.noM
 have hsz:=h.gr.size
 have hgB:gg≠B:=by
  have:=Zbn (b:=B) hown h.cd.low
  simpa [Value.ownBlock] using this
 have hKg:K gg=none:=by
  rcases hat with h1 | rfl
  ·exact h.noM gg h1
  exact h.isin.isNone (Nat.le_refl _)
 refine⟨by simp [World.cell?,hBx,h10],by simp [World.frozen?,hBx],h.le,h.fresh,hin.setCell (a:=⟨B,10,none⟩) hKB _,⟨?_,?_,h.cd.low⟩,h.mem.snoc hx,(h.gr.grown hg h.own).setCell _ _,fun g hgg=>?_,fun g hgg=>?_⟩
 ·rw [Zab _ _ _ _ _ _ _ hBx]
  simp
 ·rw [List.map_append,List.length_append]
  exact Zaq hown (by simpa [Value.ownBlock] using hgB) _
 ·have e:gg=g:=by simpa [Value.ownBlock] using hgg
  subst e
  rcases hat with h1 | rfl
  ·exact h.own gg h1
  exact .inl hsz
 have e:gg=g:=by simpa [Value.ownBlock] using hgg
 rw [← e];exact hKg
end
theorem nilOf_any (nb:Bool) (ni k:Int) (w:World):Calls Tryz.prog 77 #[.agg #[.bool nb,.int .i64 ni],.int .i64 k] w fun e w'=>e = .returned (vlV (nilV nb ni k))∧Below w.heap.size w w':=by
 have hN:=heap_alloc_new w (.cells #[.bool nb,.int .i64 ni] 84)
 have hb0:Below w.heap.size w (w.alloc (.cells #[.bool nb,.int .i64 ni] 84)):=(Below.refl _ _).alloc (Nat.le_refl _) _
 by_cases hk:k=1
 ·subst hk
  obtain⟨x,hx⟩:∃ x:Int,x=if nb then 1 else 0:=⟨_,rfl⟩
  have hnil:nilV nb ni 1=⟨1,x⟩:=by simp [nilV,tv,hx]
  have htv:tv nb=⟨1,x⟩:=by simp [tv,hx]
  rw [hnil]
  clear hnil
  go_enter Tryz.func77,Tryz.ntmps77
  go_wp2_with fail
  have hb1:Below w.heap.size w ((w.alloc (.cells #[.bool nb,.int .i64 ni] 84)).alloc (.cells #[.int .i64 0,.int .i64 0] 137)):=hb0.alloc (by simp) _
  have hR:=heap_alloc_new (w.alloc (.cells #[.bool nb,.int .i64 ni] 84)) (.cells #[.int .i64 0,.int .i64 0] 137)
  have hsz:((w.alloc (.cells #[.bool nb,.int .i64 ni] 84)).alloc (.cells #[.int .i64 0,.int .i64 0] 137)).heap.size=w.heap.size+2:=by simp
  rw [World.size_alloc] at hR
  generalize (w.alloc (.cells #[.bool nb,.int .i64 ni] 84)).alloc (.cells #[.int .i64 0,.int .i64 0] 137)=W at *
  have hcall:=Zdk nb W
  rw [htv] at hcall
  clear htv hx
  refine hcall.mono ?_
  rintro r w3 ⟨rfl,hb3⟩
  have HB3:=Zhd (hb1.trans (hb3.mono (by omega)))
  have hR3:=(hb3.block (w.heap.size+1) (by omega)).trans hR
  obtain⟨q0,q1,f0,f1,hlw⟩:=Zay hR3
  obtain⟨e0,e1,e2,e3⟩:=Zcm hR3 (.int .i64 1) (.int .i64 x)
  have E0:=Zhd e0
  have E1:=Zhd e1
  clear e0 e1 e2 e3 hR3 hN hR
  go_wp2_with fail
  have e0:=E0.out
  have e1:=E1.out
  refine bodyPost_ret (v:=vlV ⟨1,x⟩) (by simp [results,Tryz.results77,go_sem,e0,e1]) rfl ?_
  exact⟨rfl,Zby HB3.out (by omega) _ _⟩
 go_enter Tryz.func77,Tryz.ntmps77
 go_wp2_with fail
 refine bodyPost_ret (v:=vlV (nilV nb ni k)) (by simp [results,Tryz.results77,go_sem,nilV,hk]) rfl ?_
 exact⟨rfl,((Below.refl _ _).alloc (Nat.le_refl _) _).alloc (by simp) _⟩
end Go.Proofs.YtofameafdnkijaaGreatDoor
