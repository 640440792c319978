/- Walks: lustrumref2.NewWorld. -/
import Derived.Test.YtgoccoldkfpbgaaGreatDoorRg
import Derived.Test.YtgoccoldkfpbgaaGreatDoorWi
import Derived.Test.YtgoccoldkfpbgaaGreatDoorGraph
import Derived.Test.YtgoccoldkfpbgaaGreatDoorRu
set_option linter.all false
namespace Go.Proofs.YtgoccoldkfpbgaaGreatDoor
set_option maxRecDepth 100000
set_option maxHeartbeats 16000000
open Go.RowKit Mx
theorem mWn3 {p:Prop} (h:p:=by
 refine hK.out _ _ hS Ztr ?_
 clear hK K_
 try simp only [tkS]
 refine Zwo 4 rfl fun K_ hK=>?_
 go_simp
 go_at_call 50
 refine (HVO.out _ (HKH.out _ hS)).mono ?_
 rintro r0 w3 ⟨vv,KV,rfl,hvv,hst⟩
 have hb3:=hst.below
 obtain⟨av,cv,rfl⟩:=hvv.len
 have hS:=hS.below hb3
 have hDB:=hB.size
 have hB:=hB.trans (hb3.mono hB.size)
 have hKVD:=(hst.fresh _ (Zlt hD)).trans (HHW.out.isNone hDw)
 have hD:=(hb3.block _ (Zlt hD)).trans hD
 have hvv:=hvv.le (Zf4 hst.isin hKVD) VrC.mono
 have hvA:=Zka hvA (noKn_le hb3)
 exact mWn2):p:=h
theorem mWn2 {p:Prop} (h:p:=by
 refine hK.out _ _ hS Ztr ?_
 clear hK K_
 try simp only [tkS]
 refine Go.w3 11 ?_
 iterate 1 ((first | (refine tk3 (v:=?_) rfl hS Ztr ?hy ?_;(case hy=>exact mWn1)) | refine sk3 rfl hS Ztr ?_ | refine no3 ?_);refine Zss ?_)
 refine Go.w3e ?_
 refine Zwo 12 rfl fun K_ hK=>?_
 go_simp
 have HFIN:=HEND.out w _ HHW.out _ A _ _ hB hDw hD ⟨HAL.out,hAf,hAb⟩ hvA hvv
 refine hK.out _ _ (hS.alloc _) Ztr ?_
 clear hK K_
 try simp only [tkS]
 refine Zwo 13 rfl fun K_ hK=>?_
 go_simp
 refine hK.out _ _ (hS.alloc _) Ztr ?_
 clear hK K_
 try simp only [tkS]
 refine Zwd ?_
 try simp only [World.size_alloc] at HFIN
 go_wp2_with fail
 go_ret
 exact HFIN):p:=h
theorem mWn1 {p:Prop} (h:p:=by
 intro w hSw;obtain⟨z0,z1,z2,z3,z4⟩:=hSw.c5 k0 k1 k2 k3 k4;go_simp<;>with_reducible rfl):p:=h
theorem sints_no {w:World} {A:List Int} {v:Value} {D:Nat} (h:Zeo (Zag w) A v) (hD:∀ j n,w.cell? ⟨D,j,none⟩≠some (.int .i64 n)):Zeo (noKn D w) A v:=by
 rcases h with ⟨h0,a,c,e⟩ | ⟨b,off,cap,e,h1,h2,h3⟩
 ·exact .inl ⟨h0,a,c,e⟩
 by_cases hl:0<A.length
 ·have hb:b≠D:=fun e2=>by
   have h4:=h3 0 hl
   have h4:(Zag w).cell b (off+0 * 1+0)=some (.int .i64 A[0]):=h4
   rw [Zad,e2] at h4
   exact hD _ _ h4
  exact .inr ⟨b,off,cap,e,h1,h2,fun i hi=>by
   have h4:(Zag w).cell b (off+i * 1+0)=some (.int .i64 A[i]):=h3 i hi
   show (noKn D w).cell b (off+i * 1+0)=_
   rw [Zcg hb,← Zad]
   exact h4⟩
 have h0:A=[]:=List.eq_nil_of_length_eq_zero (by omega)
 subst h0
 exact .inl ⟨rfl,_,_,e⟩
theorem Zka {K K':Kn} {A:List Int} {v:Value} (h:Zeo K A v) (hle:K.le K'):Zeo K' A v:=SlV.le h hle (fun _ _ _ h e=>h 0 _ e)
theorem noKn_le {D:Nat} {w w':World} (hb:Below w.heap.size w w'):(noKn D w).le (noKn D w'):=fun b o e=>by
 unfold noKn at e ⊢
 split at e
 ·cases e
 rename_i hne
 rw [if_neg hne,hb.block b (Zlt e)]
 exact e
theorem madeB (n:Nat):madeCells #[.bool false] n=((List.replicate n false).map Value.bool).toArray:=by
 apply Array.ext_getElem?
 intro j
 by_cases hj:j<n
 ·rw [Zf8 n j hj]
  simp [hj]
 rw [Array.getElem?_eq_none (by simp [madeCells];omega),Array.getElem?_eq_none (by simp;omega)]
theorem madeB_no {w:World} {D n:Nat} (h:w.heap[D]?=some (.cells (madeCells #[.bool false] n) 4 (0,0))):∀ j m,w.cell? ⟨D,j,none⟩≠some (.int .i64 m):=fun j m e=>by
 simp only [World.cell?,h] at e
 by_cases hj:j<n
 ·have:=Zf8 n j hj
  simp_all
 rw [Array.getElem?_eq_none (by simp [madeCells];omega)] at e
 simp at e
def NewW (H:Kn) (p:Pr) (ks:Env Int) (ord:List Nat) (nb:Bool) (ni:Int) (ins:List (List Vl)) (w:World) (r:Ending) (w':World):Prop:=
 ∃ (x:WdW) (K:Kn),r = .returned (ptrV x.B)∧(x.p=p∧x.ks=ks∧x.ord=ord∧x.nb=nb∧x.ni=ni∧x.ins=ins)∧WdP x∧WdOk x K∧WdS x K w' (List.replicate ins.length false) (.slice none 0 0) []∧H.le K∧
  (w.heap.size≤x.B∧w.heap.size≤x.D∧x.base=w'.heap.size)∧Below w.heap.size w w'
section
variable {H : Kn} {p : Pr} {vi vo vl va vc vin : Value} (hp : PrP H p vi vo vl va vc) (hck : (Za2 p).1 = 0) {ks : Env Int} (hks : Zap Env.none p.vars = some ks) {ord : List Nat} (ho : Zbf p = .ok ord) (hsz : p.fl.length ≤ 400 ∧ Ex.partsL p.terms ≤ 4000 ∧ p.ins.length ≤ 1000) (hos : p.outs.length ≤ 1000000)
 {ins:List (List Vl)} (hil:ins.length≤1000) (hi:InsV H ins vin) (hr:∀ l∈ins,Zav p.ins l l.length=true) (nb:Bool) {ni:Int} (hni : -128≤ni∧ni≤127)
include hp hck hks ho hsz hos hil hi hr hni
theorem newW_of {w wz:World} (hH:H.In w) {D:Nat} {A:List Int} {vA vv:Value} (hb:Below w.heap.size w wz) (hD:w.heap.size≤D) (hDz:wz.heap[D]?=some (.cells (madeCells #[.bool false] ins.length) 4 (0,0)))
  (hA:A.length=p.fl.length∧Zbh p A=Zac p∧∀ y∈A,0≤y∧y≤2) (hvA:Zeo (noKn D wz) A vA) (hvv:VrsV (noKn D wz) (Zc1 p) vv):
  NewW H p ks ord nb ni ins w (.returned (ptrV wz.heap.size)) (wz.alloc (.cells #[vi,vo,vl,va,vc,vA,vv,vin,.bool nb,.int .i64 ni,.slice (some ⟨D,0,none⟩) ins.length ins.length,.slice none 0 0,.int .i64 0] wdT)):=by
 have hDl:=(Zlt hDz)
 have hle:H.le (noKn D wz):=Zf4 (hH.below hb) (hH.isNone hD)
 refine⟨mkW p ks ord nb ni ins A wz.heap.size D (wz.heap.size+1) vi vo vl va vc vA vv vin,noKn D wz,rfl,⟨rfl,rfl,rfl,rfl,rfl,rfl⟩,⟨hck,hks,ho,⟨hsz.1,hsz.2.1,hsz.2.2,hil⟩,hos,hA,⟨by show wz.heap.size≠D;omega,by show wz.heap.size<wz.heap.size+1;omega,by show D<wz.heap.size+1;omega⟩,hni,hr,rfl⟩,
  ⟨⟨?_,Ze2 D wz,fun g cs fr hg e=>?_⟩,hp.le hle,hvA,hvv,InsV.le hle hi⟩,⟨?_,?_,World.ownsRow_nil _ _ _ _,(fun y hy=>by cases hy),(fun y hy=>by cases hy),List.nodup_nil,?_,by simp [mkW],fun i h=>?_,?_⟩,hle,⟨hb.size,hD,by simp [mkW]⟩,hb.alloc hb.size _⟩
 ·exact (Zf5 D wz).isNone (Nat.le_refl _)
 ·have:=(Zf5 D wz).lt e
  have hg:wz.heap.size+1≤g:=hg
  omega
 ·exact (Zf5 D wz).alloc _
 ·exact heap_alloc_new _ _
 ·show (wz.alloc _).heap[D]?=_
  rw [Below.heap_alloc _ _ _ hDl,hDz,madeB]
 ·simp [List.getD_eq_getElem?_getD,List.getElem?_replicate] at h
  split at h<;>simp at h
 show wz.heap.size+1≤_
 simp
end
theorem Zf6 (H:Kn) (p:Pr) (vi vo vl va vc:Value) (hp:PrP H p vi vo vl va vc) (hck:(Za2 p).1=0) {ks:Env Int} (hks:Zap Env.none p.vars=some ks) {ord:List Nat} (ho:Zbf p = .ok ord) (hsz:p.fl.length≤400∧Ex.partsL p.terms≤4000∧p.ins.length≤1000) (hos:p.outs.length≤1000000)
  (ins:List (List Vl)) (vin:Value) (hil:ins.length≤1000) (hi:InsV H ins vin) (hr:∀ l∈ins,Zav p.ins l l.length=true) (nb:Bool) (ni:Int) (hni : -128≤ni∧ni≤127) (w:World) (hH:H.In w):
  Calls Tryz.prog 25 #[.agg #[vi,vo,vl,va,vc],vin,.bool nb,.int .i64 ni] w (NewW H p ks ord nb ni ins w):=by
 obtain⟨z1,z2,z3⟩:=hsz
 have hfm:∀ f∈p.fl,Zaf ks f.e=true:=fun f hf=>Zez hks ho _ (Zej p hf)
 have hnd:=Zgv (Zbk ho).1
 have HLF:=Zhd (fun (wz:World) (hz:H.In wz)=>Zh4 H p vi vo vl va vc hp ks hfm hnd (by omega) (by omega) wz hz)
 have HVO:=Zhd (fun (wz:World) (hz:H.In wz)=>rvars_any H p vi vo vl va vc hp ⟨by omega,by omega⟩ wz hz)
 have HEND:=Zhd (fun (w wz:World) (hH:H.In w) D A vA vv=>newW_of (vin:=vin) hp hck hks ho ⟨z1,z2,z3⟩ hos hil hi hr nb hni (w:=w) (wz:=wz) hH (D:=D) (A:=A) (vA:=vA) (vv:=vv))
 have hmk:=run_make_row' (P:=Tryz.prog) 60 4 (.bool false) 1 Tryz.underlying60 Tryz.infoBool rfl .i64 .i64 ins.length (by omega) (by omega)
 obtain⟨h1,h2,h3,h4,h5⟩:=hp
 obtain⟨ai,ci,rfl⟩:=h1.len
 obtain⟨ao,co,rfl⟩:=h2.len
 obtain⟨al,cl,rfl⟩:=h3.len
 obtain⟨aa,ca,rfl⟩:=h4.len
 obtain⟨ac,cc,rfl⟩:=h5.len
 obtain⟨an,cn,rfl⟩:=hi.len
 clear h1 h2 h3 h4 h5 hfm hnd hi hr
 have HHW:=Zhd hH
 have hb0:=(Below.refl w.heap.size w).alloc (Nat.le_refl _) (.cells #[.slice ai p.ins.length ci,.slice ao p.outs.length co,.slice al p.fl.length cl,.slice aa p.as.length ca,.slice ac p.cs.length cc] 27)
 have hlt:=(show w.heap.size<(w.alloc (.cells #[.slice ai p.ins.length ci,.slice ao p.outs.length co,.slice al p.fl.length cl,.slice aa p.as.length ca,.slice ac p.cs.length cc] 27)).heap.size from by simp)
 obtain⟨K,hKe⟩:∃ K,K=H.add w.heap.size (.cells #[.slice ai p.ins.length ci,.slice ao p.outs.length co,.slice al p.fl.length cl,.slice aa p.as.length ca,.slice ac p.cs.length cc] 27 (0,0)):=⟨_,rfl⟩
 have hle:H.le K:=hKe▸Kn.le_add (hH.isNone (Nat.le_refl _))
 have hin:K.In (w.alloc (.cells #[.slice ai p.ins.length ci,.slice ao p.outs.length co,.slice al p.fl.length cl,.slice aa p.as.length ca,.slice ac p.cs.length cc] 27)):=hKe▸(hH.below hb0).add (heap_alloc_new _ _)
 have hcE:∀ j,K.cell w.heap.size j=(#[.slice ai p.ins.length ci,.slice ao p.outs.length co,.slice al p.fl.length cl,.slice aa p.as.length ca,.slice ac p.cs.length cc]:Array Value)[j]?:=fun j=>by unfold Kn.cell;rw [hKe,Kn.add_self]
 have k0:K.cell w.heap.size 0=some (.slice ai p.ins.length ci):=hcE 0
 have k1:K.cell w.heap.size 1=some (.slice ao p.outs.length co):=hcE 1
 have k2:K.cell w.heap.size 2=some (.slice al p.fl.length cl):=hcE 2
 have k3:K.cell w.heap.size 3=some (.slice aa p.as.length ca):=hcE 3
 have k4:K.cell w.heap.size 4=some (.slice ac p.cs.length cc):=hcE 4
 have hKH:∀ wz:World,K.In wz→H.In wz:=fun wz hz b o e=>hz b o (hle b o e)
 have HKH:=Zhd hKH
 clear hcE hKe hH hKH
 go_enter Tryz.func25,Tryz.ntmps25
 go_upto_region 1 with (fail)
 generalize w.alloc (.cells #[.slice ai p.ins.length ci,.slice ao p.outs.length co,.slice al p.fl.length cl,.slice aa p.as.length ca,.slice ac p.cs.length cc] 27)=W at *
 have hS:K.In W.drew:=hin
 have hB:Below w.heap.size w W.drew:=hb0.trans ((Below.refl W.heap.size W).drew.mono hb0.size)
 have hWl:w.heap.size≤W.drew.heap.size:=hB.size
 clear hin hb0 hlt
 refine Zae (K.In) (fun _=>True) 99 (by kernel_rfl) ?_
 refine Go.w3 0 ?_
 iterate 2 ((first | (refine tk3 (v:=?_) rfl hS Ztr ?hy ?_;(case hy=>exact mWn1)) | refine sk3 rfl hS Ztr ?_ | refine no3 ?_);refine Zss ?_)
 refine Go.w3e ?_
 refine Go.w3 3 ?_
 iterate 1 ((first | (refine tk3 (v:=?_) rfl hS Ztr ?hy ?_;(case hy=>exact mWn1)) | refine sk3 rfl hS Ztr ?_ | refine no3 ?_);refine Zss ?_)
 refine Go.w3e ?_
 refine Go.w3 5 ?_
 iterate 5 ((first | (refine tk3 (v:=?_) rfl hS Ztr ?hy ?_;(case hy=>exact mWn1)) | refine sk3 rfl hS Ztr ?_ | refine no3 ?_);refine Zss ?_)
 refine Go.w3e ?_
 refine Zb7 (i:=2) (j:=10) (o:=_) (o':=_) (by kernel_rfl) rfl rfl (fun K_ hK=>?_) (fun K_ hK=>?_)
 ·skip
  go_simp
  go_at_call 49
  refine (HLF.out _ (HKH.out _ hS)).mono ?_
  rintro r0 w2 ⟨A,vA,rfl,hAl,hAf,hAb,hvA,hb2⟩
  obtain⟨aA,cA,rfl⟩:=hvA.len
  have HAL:=Zhd hAl
  clear hAl
  have hS:=hS.below hb2
  have hB:=hB.trans (hb2.mono hB.size)
  refine hK.out _ _ hS Ztr ?_
  clear hK K_
  try simp only [tkS]
  refine Zb7 (i:=4) (j:=10) (o:=_) (o':=_) (by kernel_rfl) rfl rfl (fun K_ hK=>?_) (fun K_ hK=>?_)
  ·skip
   go_simp
   go_at_call 50
   refine (HVO.out _ (HKH.out _ hS)).mono ?_
   rintro r0 w3 ⟨vv,KV,rfl,hvv,hst⟩
   have hb3:=hst.below
   obtain⟨av,cv,rfl⟩:=hvv.len
   have hS:=hS.below hb3
   have hDB:=hB.size
   have hB:=hB.trans (hb3.mono hB.size)
   have hvA:=Zka hvA (Zaz (Zbe hb3))
   refine hK.out _ _ hS Ztr ?_
   clear hK K_
   try simp only [tkS]
   refine Zwo 10 rfl fun K_ hK=>?_
   go_simp
   try simp only [hmk]
   try go_simp
   have hD:=heap_alloc_new w3 (.cells (madeCells #[.bool false] ins.length) 4)
   have hDw:w.heap.size≤w3.heap.size:=hB.size
   have hbm:=(Below.refl w3.heap.size w3).alloc (Nat.le_refl _) (.cells (madeCells #[.bool false] ins.length) 4)
   have hS:=hS.below hbm
   have hB:=hB.trans (hbm.mono hB.size)
   have hvA:=Zka hvA (Zf4 (Zbe hbm) ((Za0 _).isNone (Nat.le_refl _)))
   have hvv:=hvv.le (Zf4 (hst.isin.below hbm) (hst.isin.isNone (Nat.le_refl _))) VrC.mono
   exact mWn2
  skip
  go_simp
  try simp only [hmk]
  try go_simp
  have hD:=heap_alloc_new w2 (.cells (madeCells #[.bool false] ins.length) 4)
  have hDw:w.heap.size≤w2.heap.size:=hB.size
  have hbm:=(Below.refl w2.heap.size w2).alloc (Nat.le_refl _) (.cells (madeCells #[.bool false] ins.length) 4)
  have hS:=hS.below hbm
  have hB:=hB.trans (hbm.mono hB.size)
  have hvA:=Zka hvA (Zf4 (Zbe hbm) ((Za0 _).isNone (Nat.le_refl _)))
  exact mWn3
 skip
 go_simp
 try simp only [hmk]
 try go_simp
 have hD:=heap_alloc_new W.drew (.cells (madeCells #[.bool false] ins.length) 4)
 have hDw:w.heap.size≤W.drew.heap.size:=hB.size
 have hbm:=(Below.refl W.drew.heap.size W.drew).alloc (Nat.le_refl _) (.cells (madeCells #[.bool false] ins.length) 4)
 have hS:=hS.below hbm
 have hB:=hB.trans (hbm.mono hB.size)
 refine hK.out _ _ hS Ztr ?_
 clear hK K_
 try simp only [tkS]
 refine Zwo 2 rfl fun K_ hK=>?_
 go_simp
 go_at_call 49
 refine (HLF.out _ (HKH.out _ hS)).mono ?_
 rintro r0 w2 ⟨A,vA,rfl,hAl,hAf,hAb,hvA,hb2⟩
 obtain⟨aA,cA,rfl⟩:=hvA.len
 have HAL:=Zhd hAl
 clear hAl
 have hS:=hS.below hb2
 have hB:=hB.trans (hb2.mono hB.size)
 have hD:=(hb2.block _ (Zlt hD)).trans hD
 have hvA:=sints_no hvA (madeB_no hD)
 exact mWn3
theorem WdS.grownO {x:WdW} {K:Kn} {wr w3:World} {T:List Bool} {u:Value} {kl:List KE} (h:WdS x K wr T u kl) {base k n:Nat} {TT:TypeId} {v:Value} {xs:List Value} (ho:wr.ownsRow base TT k v n xs) (hT:TT≠knT) (hb:x.B<base) (hd:x.D<base) (hK:∀ g,v.ownBlock=some g→K g=none) (hg:wr.grownBy w3 v.ownBlock):WdS x K w3 T u kl:=by
 have hne:∀ g,v.ownBlock=some g→base≤g∧g<wr.heap.size:=fun g hh=>ho.lt g hh
 refine⟨h.isin.grown hg hK,?_,?_,h.good,h.lo,h.nd,?_,h.len,h.mark,Nat.le_trans h.low hg.size⟩
 ·rw [hg.block _ (Zlt h.box) (fun e=>by have:=(hne _ e.symm).1;omega)];exact h.box
 ·exact h.row.kept hg (by
   rcases h.row.2 with ⟨q1,_⟩ | ⟨g,cap,cur,q1,q2,q3,_⟩
   ·exact .inl (by rw [q1];rfl)
   right
   rw [q1]
   intro e
   rcases ho.2 with ⟨t1,_⟩ | ⟨g2,cap2,cur2,t1,t2,t3,_⟩
   ·rw [t1] at e;cases e
   rw [t1] at e
   cases e
   rw [q3] at t3
   cases t3
   exact hT rfl)
 rw [hg.block _ (Zlt h.trap) (fun e=>by have:=(hne _ e.symm).1;omega)];exact h.trap
structure OwS (x:WdW) (K:Kn) (w0 wr:World) (T:List Bool) (u:Value) (kl:List KE) (uo:Value) (l:List Vl):Prop where
 st:WdS x K wr T u kl
 row:wr.ownsRow x.base 75 2 uo l.length (vlX l)
 below:Below w0.heap.size w0 wr
structure OwK (x:WdW) (K:Kn) (n:Nat):Prop where
 bd:x.B<x.base∧x.D<x.base
 lo:n≤x.B∧n≤x.D
 no:∀ g cs fr,x.base≤g→K g≠some (.cells cs 75 fr)
section
variable {x : WdW} {K : Kn} {w0 wr : World} {T : List Bool} {u : Value} {kl : List KE} {uo : Value} {l : List Vl}
theorem OwS.later {i r:Nat} {w2:World} {T2:List Bool} {u2:Value} {kl2:List KE} (h:OwS x K w0 wr T u kl uo l) (hk:OwK x K w0.heap.size) (hM:WdN x K i r wr T kl w2 T2 u2 kl2):OwS x K w0 w2 T2 u2 kl2 uo l:=
 ⟨hM.st,hM.gr.own h.row hk.bd.1 hk.bd.2 (by decide),h.below.trans (hM.gr.below h.below.size hk.lo.1 hk.lo.2 (by have:=hk.bd;have:=hk.lo;omega))⟩
theorem OwS.next {w2:World} (h:OwS x K w0 wr T u kl uo l) (hb:Below wr.heap.size wr w2):OwS x K w0 w2 T u kl uo l:=
 ⟨h.st.below hb,Za6 h.row hb,h.below.trans (hb.mono h.below.size)⟩
theorem OwS.alloc (h:OwS x K w0 wr T u kl uo l) (o:Obj):OwS x K w0 (wr.alloc o) T u kl uo l:=h.next ((Below.refl _ _).alloc (Nat.le_refl _) o)
theorem OwS.newB (_:OwS x K w0 wr T u kl uo l) (o:Obj):(wr.alloc o).heap[wr.heap.size]?=some o:=heap_alloc_new wr o
theorem OwS.ownK (h:OwS x K w0 wr T u kl uo l) (hk:OwK x K w0.heap.size):∀ g,uo.ownBlock=some g→K g=none:=fun g hg=>by
 rcases h.row.2 with ⟨q1,_⟩ | ⟨g',cap,cur,q1,q2,q3,_⟩
 ·rw [q1] at hg;cases hg
 rw [q1] at hg
 cases hg
 cases hh:K g' with
 | none=>rfl
 | some ob=>
  have h1:=h.st.isin g' ob hh
  rw [q3] at h1
  cases h1
  exact absurd hh (hk.no g' _ _ q2)
theorem OwS.put {w3:World} {gg cap':Nat} {y:Vl} (h:OwS x K w0 wr T u kl uo l) (hk:OwK x K w0.heap.size)
  (hown:w3.ownsRow x.base 75 2 (.slice (some ⟨gg,0,none⟩) (l.length+1) cap') (l.length+1) (vlX l++[.int .i64 y.kind,.int .i64 y.n])) (hg:wr.grownBy w3 uo.ownBlock):
  OwS x K w0 w3 T u kl (.slice (some ⟨gg,0,none⟩) (l.length+1) cap') (l++[y]):=
 ⟨h.st.grownO h.row (by decide) hk.bd.1 hk.bd.2 (h.ownK hk) hg,by rw [show (l++[y]).length=l.length+1 from by simp,Zgh];exact hown,h.below.grown hg h.below.size (fun g hh=>by have:=(h.row.lt g hh).1;have:=hk.bd;have:=hk.lo;omega)⟩
theorem OwS.box (h:OwS x K w0 wr T u kl uo l) (hk:OwK x K w0.heap.size) {b:Nat} (hb:x.base≤b) (hK:K b=none) (hne:uo.ownBlock≠some b) {p q:Value} (hbx:wr.heap[b]?=some (.cells #[p,q] 75 (0,0))) (c v:Value):OwS x K w0 ((wr.setCell ⟨b,0,none⟩ c).setCell ⟨b,1,none⟩ v) T u kl uo l:=by
 have h1:=hk.bd
 have h2:=hk.lo
 exact⟨(h.st.setOwn (by omega) (by omega) hK hbx (by decide) 0 c).setOwn (by omega) (by omega) hK (Zaa wr b 0 c _ _ _ hbx) (by decide) 1 v,
  Zal (Zal h.row (a:=⟨b,0,none⟩) hne c) (a:=⟨b,1,none⟩) hne v,
  (h.below.setCell (p:=⟨b,0,none⟩) (by show w0.heap.size≤b;omega) c).setCell (p:=⟨b,1,none⟩) (by show w0.heap.size≤b;omega) v⟩
theorem OwS.told (h:OwS x K w0 wr T u kl uo l) (hk:OwK x K w0.heap.size):VlsV (Zag wr) l uo:=SlV.le (vls_clean (n:=x.base) h.row (Nat.le_refl _) hk.bd.1 hk.bd.2) (Zht x x.base wr) VlC.mono
end
theorem mSto2 {p:Prop} (h:p:=by
 refine hK.out _ _ hS1.st Ztr ?_
 clear hK K_
 try simp only [tkS]
 refine Zwo 10 rfl fun K_ hK=>?_
 go_simp
 go_at_call 45
 refine (HNO.out _ _ _ _ hS1.st).mono ?_
 rintro r0 w7 ⟨rfl,hb7⟩
 have hS1:=hS1.next hb7
 have hbx:=(hb7.block _ (Zlt hbx)).trans hbx
 have hge:=Nat.le_trans hge hb7.size
 refine hK.out _ _ hS1.st Ztr ?_
 clear hK K_
 try simp only [tkS]
 refine Zwo 12 rfl fun K_ hK=>?_
 obtain⟨q0,q1,f0,f1,_⟩:=Zak hbx
 have hS1:=hS1.box HKO.out (Nat.le_trans hlw hbl) (hSD.st.isin.isNone (by show wr.drew.heap.size≤_;exact hbl)) (fun e=>by have:=(hRl _ e).2;omega) hbx (.int .i64 nk) (.int .i64 nn)
 have hbx:=Ze5 hbx (.int .i64 nk) (.int .i64 nn)
 go_simp
 exact mSto1):p:=h
theorem mSto1 {p:Prop} (h:p:=by
 refine hK.out _ _ hS1.st Ztr ?_
 clear hK K_
 try simp only [tkS]
 refine Zwd ?_
 have hKB9:=hSD.st.isin.isNone hbl
 have hge9:=Nat.le_trans hlw hbl
 by_cases h0:x.ins.length=0
 ·have hgt:decide (0<(x.ins.length:Int))=false:=decide_eq_false (by omega)
  obtain⟨s0,s1,_,_,_⟩:=Zak hbx
  have hn9:=fun o=>hS1.alloc o
  have hnb:=hS1.newB (.cells #[.int .i64 nk,.int .i64 nn] 75)
  simp only [World.size_alloc,World.size_setCell] at hnb
  have hr9:=fun o=>(hS1.alloc o).row
  have hl8:=fun o=>(hS1.alloc o).st.low
  go_wp2_with (at_builtin;have q:=hr9 (.cells #[.int .i64 nk,.int .i64 nn] 75);refine Zj7 57 75 2 16 _ Tryz.underlying57 Tryz.infoVl rfl (by decide) _ _ rfl rfl x.base _ _ _ rfl q ⟨_,0,none⟩ 1 [.int .i64 nk,.int .i64 nn] rfl rfl ?c1 ?c2 ?c3 ?c4 ?c5 ?_)
  case c1=>exact World.news_of_block hnb
  case c2=>simp [Value.oneCell']
  case c3=>omega
  case c4=>omega
  case c5=>exact hl8 _
  intro gg cap' w9 hown hgrow hat
  have HG:=Zhd ((hn9 (.cells #[.int .i64 nk,.int .i64 nn] 75)).put HKO.out (y:=⟨nk,nn⟩) hown hgrow)
  clear hown hgrow hat hn9 hr9 hl8 hnb hS1 hbx s0 s1
  have HTE:=Zhd (show [(⟨rk,rn⟩:Vl)]++((Zbc x.p.terms).take (m+1)).map (stW x)=vs++[⟨nk,nn⟩] from by rw [HTK.out,← List.append_assoc,HVS.out,HSTW.out,if_pos h0,HNN.out])
  go_wp2_with fail
  go_roundw
  case rel=>simp only [h0];first | exact⟨m+1,_,_,_,by go_num,by omega,by rw [HTE.out];exact HG.out⟩ | ((repeat apply Exists.intro);refine⟨?_,rfl⟩;exact⟨m+1,_,_,_,by go_num,by omega,by rw [HTE.out];exact HG.out⟩)
  simp [intOf];omega
 have hgt:decide (0<(x.ins.length:Int))=true:=decide_eq_true (by omega)
 have hi1:x.ins.length - 1<x.ins.length:=by omega
 have HT1:=HT.out hi1
 rw [show ((x.ins.length - 1:Nat):Int)=(x.ins.length:Int) - 1 from by omega] at HT1
 obtain⟨⟨zk,zn⟩,hzv⟩:∃ z,x.V y (x.ins.length - 1)=z:=⟨_,rfl⟩
 have HZV:=Zhd hzv
 rw [hzv] at HT1
 clear hzv
 have zs0:=hS1.st.isin.cell c0
 have zs1:=hS1.st.isin.cell c1
 have zs2:=hS1.st.isin.cell c2
 have zs3:=hS1.st.isin.cell c3
 go_wp2_with fail
 refine (HT1 _ _ _ _ hS1.st).mono ?_
 rintro r0 w8 ⟨T3,u3,kl3,rfl,hM,_⟩
 have hS1:=hS1.later HKO.out hM
 have hbx:=hM.gr.heap hbx (by have:=hbd;omega) (by have:=hbd;omega) (by decide)
 obtain⟨q0,q1,f0,f1,_⟩:=Zak hbx
 have hS1:=hS1.box HKO.out hge9 hKB9 (fun e=>by have:=(hRl _ e).2;exact Nat.not_le_of_lt this hbl) hbx (.int .i64 zk) (.int .i64 zn)
 have hbx:=Ze5 hbx (.int .i64 zk) (.int .i64 zn)
 clear hM HT1 zs0 zs1 zs2 zs3
 obtain⟨s0,s1,_,_,_⟩:=Zak hbx
 have hn9:=fun o=>hS1.alloc o
 have hnb:=hS1.newB (.cells #[.int .i64 zk,.int .i64 zn] 75)
 simp only [World.size_alloc,World.size_setCell] at hnb
 have hr9:=fun o=>(hS1.alloc o).row
 have hl8:=fun o=>(hS1.alloc o).st.low
 go_wp2_with (at_builtin;have q:=hr9 (.cells #[.int .i64 zk,.int .i64 zn] 75);refine Zj7 57 75 2 16 _ Tryz.underlying57 Tryz.infoVl rfl (by decide) _ _ rfl rfl x.base _ _ _ rfl q ⟨_,0,none⟩ 1 [.int .i64 zk,.int .i64 zn] rfl rfl ?c1 ?c2 ?c3 ?c4 ?c5 ?_)
 case c1=>exact World.news_of_block hnb
 case c2=>simp [Value.oneCell']
 case c3=>omega
 case c4=>omega
 case c5=>exact hl8 _
 intro gg cap' w9 hown hgrow hat
 have HG:=Zhd ((hn9 (.cells #[.int .i64 zk,.int .i64 zn] 75)).put HKO.out (y:=⟨zk,zn⟩) hown hgrow)
 clear hown hgrow hat hn9 hr9 hl8 hnb hS1 hbx s0 s1
 have HTE:=Zhd (show [(⟨rk,rn⟩:Vl)]++((Zbc x.p.terms).take (m+1)).map (stW x)=vs++[⟨zk,zn⟩] from by rw [HTK.out,← List.append_assoc,HVS.out,HSTW.out,if_neg h0,HZV.out])
 go_wp2_with fail
 go_roundw
 case rel=>first | exact⟨m+1,_,_,_,by go_num,by omega,by rw [HTE.out];exact HG.out⟩ | ((repeat apply Exists.intro);refine⟨?_,rfl⟩;exact⟨m+1,_,_,_,by go_num,by omega,by rw [HTE.out];exact HG.out⟩)
 simp [intOf];omega):p:=h
theorem stW_take (x:WdW) (l:List Ex) (m:Nat) (h:m<l.length):(l.take (m+1)).map (stW x)=(l.take m).map (stW x)++[stW x l[m]]:=by
 rw [List.take_succ_eq_append_getElem h,List.map_append]
 rfl
theorem stateOf_any (H:Kn) (p:Pr) (vi vo vl va vc:Value) (hp:PrP H p vi vo vl va vc) (hck:(Za2 p).1=0) {ks:Env Int} (hks:Zap Env.none p.vars=some ks) {ord:List Nat} (ho:Zbf p = .ok ord) (hsz:p.fl.length≤400∧Ex.partsL p.terms≤4000∧p.ins.length≤1000) (hos:p.outs.length≤1000000)
  (ins:List (List Vl)) (vin:Value) (hil:ins.length≤1000) (hi:InsV H ins vin) (hr:∀ l∈ins,Zav p.ins l l.length=true) (nb:Bool) (ni:Int) (hni : -128≤ni∧ni≤127) (w:World) (hH:H.In w):
  Calls Tryz.prog 20 #[.agg #[vi,vo,vl,va,vc],vin,.bool nb,.int .i64 ni] w fun r w'=>∃ v,r = .returned v∧VlsV (Zag w') (tv (decide (ins.length=0)) :: memS ⟨ks,Zac p,getI (Zai p),nb,ni⟩ (cdOf p ord) (Zbb ⟨ks,Zac p,getI (Zai p),nb,ni⟩ (Zab 0 p.terms)) (fun i=>ins.getD i []) ins.length) v∧Below w.heap.size w w':=by
 have HNW:=Zhd (fun (wz:World) (hz:H.In wz)=>Zf6 H p vi vo vl va vc hp hck hks ho hsz hos ins vin hil hi hr nb ni hni wz hz)
 have htf:=Zez hks ho
 have HHP:=Zhd hp
 obtain⟨h1,h2,h3,h4,h5⟩:=hp
 obtain⟨ai,ci,rfl⟩:=h1.len
 obtain⟨ao,co,rfl⟩:=h2.len
 obtain⟨al,cl,rfl⟩:=h3.len
 obtain⟨aa,ca,rfl⟩:=h4.len
 obtain⟨ac,cc,rfl⟩:=h5.len
 obtain⟨an,cn,rfl⟩:=hi.len
 clear h1 h2 h3 h4 h5 hi hr
 have hb0:=(Below.refl w.heap.size w).alloc (Nat.le_refl _) (.cells #[.slice ai p.ins.length ci,.slice ao p.outs.length co,.slice al p.fl.length cl,.slice aa p.as.length ca,.slice ac p.cs.length cc] 27)
 have hP0:=heap_alloc_new w (.cells #[.slice ai p.ins.length ci,.slice ao p.outs.length co,.slice al p.fl.length cl,.slice aa p.as.length ca,.slice ac p.cs.length cc] 27)
 have hH0:=hH.below hb0
 have hxl:w.heap.size<(w.alloc (.cells #[.slice ai p.ins.length ci,.slice ao p.outs.length co,.slice al p.fl.length cl,.slice aa p.as.length ca,.slice ac p.cs.length cc] 27)).heap.size:=by simp
 go_enter Tryz.func20,Tryz.ntmps20
 go_wp2_with fail
 refine (HNW.out _ hH0).mono ?_
 rintro r w2 ⟨x,K,rfl,⟨rfl,rfl,rfl,rfl,rfl,rfl⟩,hP,hok,hs,hle,⟨hxB,hxD,hxbase⟩,hb2⟩
 have hB2:=hb0.trans (hb2.mono hb0.size)
 have hP2:=(hb2.block _ hxl).trans hP0
 have hbd:x.B<x.base∧x.D<x.base:=hP.bd.2
 obtain⟨rv,hrv⟩:∃ rv,rv=tv (decide (x.ins.length=0)):=⟨_,rfl⟩
 have HLO:=Zhd (show w.heap.size≤x.B∧w.heap.size≤x.D from⟨by omega,by omega⟩)
 have HRS:=Zhd (state_wd hP)
 have HPP:=Zhd hP
 have HKB:=Zhd (show ∀ g,x.base≤g→∀ cs fr,K g≠some (.cells cs 75 fr) from fun g hg cs fr e=>by rw [hs.isin.isNone (by omega)] at e;cases e)
 have HOK:=Zhd hok
 have HHS:=Zhd hs
 have HB2:=Zhd hB2
 have HTF:=Zhd htf
 have HRM:=Zhd (fun (wz:World) (hz:K.In wz)=>remAll_any K x.p _ _ _ _ _ (HHP.out.le hle) htf (by omega) wz hz)
 clear hP hok hs hB2 hb2 hb0 hH0 hle HNW htf hP0 hxbase hxB hxD
 have cP:=fun j=>show w2.cell? ⟨w.heap.size,j,none⟩=(#[.slice ai x.p.ins.length ci,.slice ao x.p.outs.length co,.slice al x.p.fl.length cl,.slice aa x.p.as.length ca,.slice ac x.p.cs.length cc]:Array Value)[j]? from by simp [World.cell?,hP2]
 have p0:w2.cell? ⟨w.heap.size,0,none⟩=some (.slice ai x.p.ins.length ci):=cP 0
 have p1:w2.cell? ⟨w.heap.size,1,none⟩=some (.slice ao x.p.outs.length co):=cP 1
 have p2:w2.cell? ⟨w.heap.size,2,none⟩=some (.slice al x.p.fl.length cl):=cP 2
 have p3:w2.cell? ⟨w.heap.size,3,none⟩=some (.slice aa x.p.as.length ca):=cP 3
 have p4:w2.cell? ⟨w.heap.size,4,none⟩=some (.slice ac x.p.cs.length cc):=cP 4
 obtain⟨⟨rk,rn⟩,hrk⟩:∃ z,tv (decide (x.ins.length=0))=z:=⟨_,rfl⟩
 have HRK:=Zhd hrk
 have HTR:=Zhd (fun wz=>Zdi (decide (x.ins.length=0)) wz)
 rw [hrk] at HTR
 clear hrk hrv cP
 have hzq:((x.ins.length:Int)==0)=decide (x.ins.length=0):=by
  rw [Bool.beq_eq_decide_eq]
  congr 1
  simp
 obtain⟨zb,hzb⟩:∃ zb,decide (x.ins.length=0)=zb:=⟨_,rfl⟩
 have HZB:=Zhd hzb
 rw [hzb] at HTR hzq
 clear hzb
 go_wp2_with fail
 refine (HTR.out _).mono ?_
 rintro r w3 ⟨rfl,hb3⟩
 have hB3:=HB2.out.trans (hb3.mono HB2.out.size)
 have hs3:=HHS.out.below hb3
 have hP3:=(hb3.block _ (Zlt hP2)).trans hP2
 have hb4:=(Below.refl w3.heap.size w3).alloc (Nat.le_refl _) (.cells #[.int .i64 rk,.int .i64 rn] 75)
 have hrow:=World.ownsRow_lit (base:=x.base) (e:=75) (size:=2) w3 #[.int .i64 rk,.int .i64 rn] 1 (by have:=hs3.low;omega) (by decide) rfl
 have hOS0:OwS x K w (w3.alloc (.cells #[.int .i64 rk,.int .i64 rn] 75)) (List.replicate x.ins.length false) (.slice none 0 0) [] (.slice (some ⟨w3.heap.size,0,none⟩) 1 1) [⟨rk,rn⟩]:=⟨hs3.below hb4,hrow,hB3.trans (hb4.mono hB3.size)⟩
 have hP4:=(hb4.block _ (Zlt hP3)).trans hP3
 have cP:=fun j=>show (w3.alloc (.cells #[.int .i64 rk,.int .i64 rn] 75)).cell? ⟨w.heap.size,j,none⟩=(#[.slice ai x.p.ins.length ci,.slice ao x.p.outs.length co,.slice al x.p.fl.length cl,.slice aa x.p.as.length ca,.slice ac x.p.cs.length cc]:Array Value)[j]? from by simp only [World.cell?,hP4];rfl
 clear p0 p1 p2 p3 p4
 have p0:(w3.alloc (.cells #[.int .i64 rk,.int .i64 rn] 75)).cell? ⟨w.heap.size,0,none⟩=some (.slice ai x.p.ins.length ci):=cP 0
 have p1:(w3.alloc (.cells #[.int .i64 rk,.int .i64 rn] 75)).cell? ⟨w.heap.size,1,none⟩=some (.slice ao x.p.outs.length co):=cP 1
 have p2:(w3.alloc (.cells #[.int .i64 rk,.int .i64 rn] 75)).cell? ⟨w.heap.size,2,none⟩=some (.slice al x.p.fl.length cl):=cP 2
 have p3:(w3.alloc (.cells #[.int .i64 rk,.int .i64 rn] 75)).cell? ⟨w.heap.size,3,none⟩=some (.slice aa x.p.as.length ca):=cP 3
 have p4:(w3.alloc (.cells #[.int .i64 rk,.int .i64 rn] 75)).cell? ⟨w.heap.size,4,none⟩=some (.slice ac x.p.cs.length cc):=cP 4
 clear cP hP2 hP3 hP4 hb3 hb4 hrow hB3 hs3 HHS
 go_wp2_with fail
 refine (HRM.out _ hOS0.st.isin).mono ?_
 rintro r w5 ⟨vl5,K2,rfl,hv5,hst5,hty5⟩
 obtain⟨a5,c5,rfl⟩:=hv5.len
 have hkn:KnW x K2:=⟨by rw [hst5.fresh _ (by have:=(Zlt hOS0.st.box);omega)];exact HOK.out.kn.b,by rw [hst5.fresh _ (by have:=(Zlt hOS0.st.trap);omega)];exact HOK.out.kn.d,fun g cs fr hg e=>by
  rcases hty5 g _ e with h | ⟨cs',h⟩
  ·exact HOK.out.kn.r g cs fr hg h
  cases h⟩
 have hok2:=HOK.out.le hst5.le hkn
 have HKO:=Zhd (show OwK x K2 w.heap.size from⟨hbd,HLO.out,fun g cs fr hg e=>by
  rcases hty5 g _ e with h | ⟨cs',h⟩
  ·exact absurd h (HKB.out g hg cs fr)
  cases h⟩)
 have hOS5:OwS x K2 w w5 (List.replicate x.ins.length false) (.slice none 0 0) [] (.slice (some ⟨w3.heap.size,0,none⟩) 1 1) ([(⟨rk,rn⟩:Vl)]++((Zbc x.p.terms).take 0).map (stW x)):=⟨(hOS0.st.below hst5.below).kn hst5.isin,Za6 hOS0.row hst5.below,hOS0.below.trans (hst5.below.mono hOS0.below.size)⟩
 have HOS:=Zhd hOS5
 have HV5:=Zhd hv5
 have HREM:=Zhd (WdP.rem HPP.out)
 have HVR:=Zhd hok2.vars
 have HOK2:=Zhd hok2
 have hrl:=Zec x.p.terms
 have hpz:=HPP.out.sz
 have hksV:ksOf (Zc1 x.p)=x.ks:=(Zgz (V:=Zc1 x.p) (by rw [← HPP.out.hks];unfold Zc1 Pr.vars;rw [List.map_append,List.map_map];rfl)).symm
 obtain⟨avv,cvv,hvve⟩:=hok2.vars.len
 have HVVE:=Zhd hvve
 clear hOS0 hOS5 hv5 hst5 hty5 hkn hok2 p0 p1 p2 p3 p4 hvve HOK HKB
 go_wp2_with fail
 go_loopw [10,12] (fun uo z wr=>∃ (m:Nat) (T1:List Bool) (u1:Value) (kl1:List KE),z = .int .i64 m∧m≤(Zbc x.p.terms).length∧OwS x K2 w wr T1 u1 kl1 uo ([(⟨rk,rn⟩:Vl)]++((Zbc x.p.terms).take m).map (stW x))) (fun _ z _=>(Zbc x.p.terms).length - (intOf z).toNat)
 case atStart=>exact⟨0,_,_,_,rfl,Nat.zero_le _,HOS.out⟩
 obtain⟨m,T1,u1,kl1,rfl,hm,hS⟩:=hrel
 obtain⟨au,cu,hue,_⟩:=Zas hS.row
 subst hue
 by_cases hml:m<(Zbc x.p.terms).length
 ·obtain⟨b,off,ax,cx,he5,c0,c1,c2,c3,hx⟩:=ExsV.at HV5.out hml
  subst he5
  have hxp:=HREM.out _ (List.getElem_mem hml)
  have HTK:=Zhd (stW_take x (Zbc x.p.terms) m hml)
  have HKD:=Zhd (fun (wz:World) (hz:K2.In wz)=>Zhy K2 (Zc1 x.p) x.vvr HVR.out (by simp [Zc1];omega) _ _ hx (by have:=hxp.parts;omega) (by rw [hksV];exact hxp.form) wz hz)
  rw [hksV] at HKD
  have HK12:=Zhd ((kind_two (Zgd _ _ _ HPP.out.hks (fun s k h=>by simp [Env.none] at h)) (Zbc x.p.terms)[m]).resolve_left hxp.kind)
  have HT:=Zhd (fun (hi:x.ins.length - 1<x.ins.length) w T u kl (h:WdS x K2 w T u kl)=>(world_all HPP.out _ hi).1 _ hxp K2 _ HOK2.out hx w T u kl h)
  have hsl:((Zbc x.p.terms).take m).length≤4000:=by rw [List.length_take];omega
  have hvl:([(⟨rk,rn⟩:Vl)]++((Zbc x.p.terms).take m).map (stW x)).length≤4001:=by rw [List.length_append,List.length_map,List.length_singleton];omega
  have HSTW:=Zhd (show stW x (Zbc x.p.terms)[m]=if x.ins.length=0 then nilV x.nb x.ni (Zan x.ks (Zbc x.p.terms)[m]) else x.V (Zbc x.p.terms)[m] (x.ins.length - 1) from rfl)
  generalize (Zbc x.p.terms)[m]=y at *
  generalize hvls : [(⟨rk,rn⟩:Vl)]++((Zbc x.p.terms).take m).map (stW x)=vs at *
  have HVS:=Zhd hvls
  obtain⟨⟨nk,nn⟩,hnv⟩:∃ z,nilV x.nb x.ni (Zan x.ks y)=z:=⟨_,rfl⟩
  have HNN:=Zhd hnv
  have HNO:=Zhd (fun (wz:World) (T u kl) (h:WdS x K2 wz T u kl)=>none_any h _ HK12.out)
  rw [hnv] at HNO
  have hSD:=hS.next ((Below.refl _ _).drew)
  have hlw:=hS.st.low
  have hRl:=hS.row.lt
  clear hvls hnv hx hxp hsl
  go_wp2_with fail
  refine Zae (fun wz=>WdS x K2 wz T1 u1 kl1) (fun _=>True) 99 (by kernel_rfl) ?_
  refine Go.w3 0 ?_
  iterate 9 ((first | (refine tk3 (v:=?_) rfl hSD.st Ztr ?hy ?_;(case hy=>intro w hSw;have zs0:=hSw.isin.cell c0;have zs1:=hSw.isin.cell c1;have zs2:=hSw.isin.cell c2;have zs3:=hSw.isin.cell c3;obtain⟨z0,z1,z2,z3,z4,z5,z6,z7,z8,z9,z10,z11⟩:=hSw.cs;go_simp<;>with_reducible rfl)) | refine sk3 rfl hSD.st Ztr ?_ | refine no3 ?_);refine Zss ?_)
  refine Go.w3e ?_
  have hge:wr.heap.size≤wr.drew.heap.size:=Nat.le_refl _
  have hS1:=hSD
  refine Zb7 (i:=9) (j:=11) (o:=_) (o':=_) (by kernel_rfl) rfl rfl (fun K_ hK=>?_) (fun K_ hK=>?_)
  ·skip
   go_simp
   go_at_call 46
   refine (HKD.out _ hS1.st.isin).mono ?_
   rintro r0 w6 ⟨rfl,hb6⟩
   have hS1:=hS1.next hb6
   have hge:=Nat.le_trans hge hb6.size
   refine hK.out _ _ hS1.st Ztr ?_
   clear hK K_
   try simp only [tkS]
   refine Zb7 (i:=10) (j:=11) (o:=_) (o':=_) (by kernel_rfl) rfl rfl (fun K_ hK=>?_) (fun K_ hK=>?_)
   ·skip
    go_simp
    go_at_call 45
    refine (HNO.out _ _ _ _ hS1.st).mono ?_
    rintro r0 w7 ⟨rfl,hb7⟩
    have hS1:=hS1.next hb7
    have hge:=Nat.le_trans hge hb7.size
    refine hK.out _ _ hS1.st Ztr ?_
    clear hK K_
    try simp only [tkS]
    refine Zwo 11 rfl fun K_ hK=>?_
    have hS9:=hS1.next ((Below.refl _ _).alloc (Nat.le_refl _) (.cells #[.int .i64 nk,.int .i64 nn] 75))
    have hb9:=heap_alloc_new w7 (.cells #[.int .i64 nk,.int .i64 nn] 75)
    go_simp
    have hS1:=hS1.next ((Below.refl _ _).alloc (Nat.le_refl _) (.cells #[.int .i64 0,.int .i64 0] 75))
    have hbx:=heap_alloc_new w7 (.cells #[.int .i64 0,.int .i64 0] 75)
    have hbl:=hge
    have hge:=Nat.le_trans hge (Nat.le_of_lt (Zlt hbx))
    refine hK.out _ _ hS1.st Ztr ?_
    clear hK K_
    try simp only [tkS]
    refine Zwo 12 rfl fun K_ hK=>?_
    go_simp
    have hS1:=hS9
    have hbx:=hb9
    exact mSto1
   skip
   go_simp
   have hS1:=hS1.next ((Below.refl _ _).alloc (Nat.le_refl _) (.cells #[.int .i64 0,.int .i64 0] 75))
   have hbx:=heap_alloc_new w6 (.cells #[.int .i64 0,.int .i64 0] 75)
   have hbl:=hge
   have hge:=Nat.le_trans hge (Nat.le_of_lt (Zlt hbx))
   exact mSto2
  skip
  go_simp
  have hS1:=hS1.next ((Below.refl _ _).alloc (Nat.le_refl _) (.cells #[.int .i64 0,.int .i64 0] 75))
  have hbx:=heap_alloc_new wr.drew (.cells #[.int .i64 0,.int .i64 0] 75)
  have hbl:=hge
  have hge:=Nat.le_trans hge (Nat.le_of_lt (Zlt hbx))
  have hbx:(wr.drew.alloc (.cells #[.int .i64 0,.int .i64 0] 75)).heap[wr.heap.size]?=some (.cells #[.int .i64 0,.int .i64 0] 75 (0,0)):=hbx
  have hbl:=Nat.le_refl wr.heap.size
  refine hK.out _ _ hS1.st Ztr ?_
  clear hK K_
  try simp only [tkS]
  refine Zwo 9 rfl fun K_ hK=>?_
  go_simp
  go_at_call 46
  refine (HKD.out _ hS1.st.isin).mono ?_
  rintro r0 w6 ⟨rfl,hb6⟩
  have hS1:=hS1.next hb6
  have hbx:=(hb6.block _ (Zlt hbx)).trans hbx
  have hge:=Nat.le_trans hge hb6.size
  exact mSto2
 obtain rfl:m=(Zbc x.p.terms).length:=by omega
 rw [List.take_length] at hS ⊢
 have HVV:=Zhd (hS.told HKO.out)
 go_wp2_with fail
 go_ret
 exact⟨_,rfl,by
  show VlsV (Zag wr) (tv (decide (x.ins.length=0)) :: memS x.R (cdOf x.p x.ord) (Zbb x.R (Zab 0 x.p.terms)) x.inp x.ins.length) _
  rw [HRS.out,HRK.out]
  exact (HVV.out:VlsV (Zag wr) ([(⟨rk,rn⟩:Vl)]++(Zbc x.p.terms).map (stW x)) _),hS.below⟩
end Go.Proofs.YtgoccoldkfpbgaaGreatDoor
