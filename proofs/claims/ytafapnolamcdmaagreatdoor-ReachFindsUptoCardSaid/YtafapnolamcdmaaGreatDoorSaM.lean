/- Plain, and known memory: machines in rows of ticks that grow; put back into a state a machine does again what it did. -/
import Derived.Test.YtafapnolamcdmaaGreatDoorSp
set_option linter.all false
namespace Go.Proofs.YtafapnolamcdmaaGreatDoor
set_option maxRecDepth 100000
set_option maxHeartbeats 16000000
open Go.RowKit Mx
theorem own_gr{w w':World}{base M:Nat}{e:TypeId}{k n:Nat}{v:Value}{xs:List Value}(h:w.ownsRow base e k v n xs)(g:Gr2 w w' M none)(hM:M<base):w'.ownsRow base e k v n xs:=by
 obtain⟨h1,h2⟩:=h;refine⟨h1,?_⟩;rcases h2 with h2|⟨q,Ha,cur,e1,hb,hg,h3⟩
 .exact .inl h2
 exact .inr ⟨q,Ha,cur,e1,hb,(g.block q (Zlt hg) (by omega) (by simp)).trans hg,h3⟩
theorem RuS.gr{DT:TypeId}{H:Kn}{w0 wr w5:World}{base M:Nat}{os:List (Tk×Value×Value)}{u:Value}{K:Kn}{ms:List Vl}{vm:Value}(h:RuS DT H w0 wr base os u K ms vm)(hM:K M=none)(hw:w0.heap.size<=M)(hb:M<base)(g:Gr2 wr w5 M none):
  RuS DT H w0 w5 base os u (Zbt K wr.heap.size w5) ms vm:=by
 have h1:=Zb6 h.isin w5;have Jm:=h.low;exact⟨Kn.le_trans h.le h1,Ziv h.isin g hM,Gr2.below h.below g hw (by have:=h.below.size;omega),own_gr h.row g hb,λq hq=>by unfold Zbt;rw[if_pos (h.row.lt q hq).2];exact h.noU q hq,λx hx=>(h.tks x hx).le h1,SlV.le h.mem h1 VlC.mono,h.hb,Nat.le_trans h.low g.size⟩
theorem RuS.known{DT:TypeId}{H:Kn}{w0 wr:World}{base:Nat}{os:List (Tk×Value×Value)}{u:Value}{K:Kn}{ms:List Vl}{vm:Value}(h:RuS DT H w0 wr base os u K ms vm):∃K',K.le K'/\K'.In wr/\TksV K' (os.map (·.1)) u/\∀b,b<base->K' b=K b:=by
 have hr:wr.ownsRow base DT 4 u (os.map (·.1)).length (osX os):=by rw[List.length_map];exact h.row
 exact Zcn (R:=TkC) h.isin hr h.noU λK' He i hi f hf=>by
  have za:i<os.length:=by simpa using hi
  have hc:∀j,j<4->(osX os)[i * 4+j]?=[os[i].2.1,Value.bool os[i].1.asrt,.bool os[i].1.trap,os[i].2.2][j]?:=λj hj=>Zhi 4 (λx:Tk×Value×Value=>[x.2.1,.bool x.1.asrt,.bool x.1.trap,x.2.2]) (λ_=>rfl) os i za j hj;rw[List.getElem_map];exact⟨os[i].2.1,os[i].2.2,hf 0 _ (by rw[hc 0 (by omega)];rfl),hf 1 _ (by rw[hc 1 (by omega)];rfl),hf 2 _ (by rw[hc 2 (by omega)];rfl),hf 3 _ (by rw[hc 3 (by omega)];rfl),(h.tks _ (Ymm za)).le He⟩
theorem stepM_sizes(R:REnv)(p:Pr)(ord:List Nat)(s:Mc)(l:List Vl):(Zcw R (cdOf p ord) p.ins s l).2.1.out.length<=p.outs.length/\(Zcw R (cdOf p ord) p.ins s l).2.1.checks.length<=p.cs.length:=by
 have h:=tickM_sizes R (cdOf p ord) s.first s.mem l;have e1:(cdOf p ord).outs.length=p.outs.length:=List.length_map _;have e2:(cdOf p ord).cv.length=p.cs.length:=Zb8 _ _;unfold Zcw
 split
 .simp [trapT]
 split
 .split<;>(dsimp only;omega)
 simp[noT]
namespace Bf
section
variable {S C : Type} [DecidableEq S] (st : S -> C -> Option Int) (nx : S -> C -> Option S)
def rest(most i:Nat)(e:En S C)(all:List C)(f:Nat)(l:List (En S C))(cs:List C):Res S C:=
 match Zix st nx most i e l cs with
 | .ok l'=>outer st nx most all f l' (i+1)
 |r=>r
theorem rest_nil(most i:Nat)(e:En S C)(all:List C)(f:Nat)(l:List (En S C)):rest st nx most i e all f l []=outer st nx most all f l (i+1):=rfl
theorem rest_found{most i:Nat}{e:En S C}{all:List C}{f:Nat}{l:List (En S C)}{c:C}{cs:List C}{k:Int}(h:st e.s c=some k):rest st nx most i e all f l (c :: cs)=.found i l c k:=by
 unfold rest Zix;rw[h]
theorem rest_dead{most i:Nat}{e:En S C}{all:List C}{f:Nat}{l:List (En S C)}{c:C}{cs:List C}(h:st e.s c=none)(h2:nx e.s c=none):rest st nx most i e all f l (c :: cs)=rest st nx most i e all f l cs:=by
 unfold rest;rw[Zix,h];dsimp only;rw[h2]
theorem rest_seen{most i:Nat}{e:En S C}{all:List C}{f:Nat}{l:List (En S C)}{c:C}{cs:List C}{s':S}(h:st e.s c=none)(h2:nx e.s c=some s')(h3:s'∈l.map (·.s)):rest st nx most i e all f l (c :: cs)=rest st nx most i e all f l cs:=by
 unfold rest;rw[Zix,h];dsimp only;rw[h2];dsimp only;rw[if_pos h3]
theorem rest_over{most i:Nat}{e:En S C}{all:List C}{f:Nat}{l:List (En S C)}{c:C}{cs:List C}{s':S}(h:st e.s c=none)(h2:nx e.s c=some s')(h3:¬s'∈l.map (·.s))(h4:l.length=most):rest st nx most i e all f l (c :: cs)=.over:=by
 unfold rest;rw[Zix,h];dsimp only;rw[h2];dsimp only;rw[if_neg h3,if_pos h4]
theorem rest_push{most i:Nat}{e:En S C}{all:List C}{f:Nat}{l:List (En S C)}{c:C}{cs:List C}{s':S}(h:st e.s c=none)(h2:nx e.s c=some s')(h3:¬s'∈l.map (·.s))(h4:l.length≠most):rest st nx most i e all f l (c :: cs)=rest st nx most i e all f (l++[⟨s',i,c⟩]) cs:=by
 unfold rest;rw[Zix,h];dsimp only;rw[h2];dsimp only;rw[if_neg h3,if_neg h4]
theorem outer_rest{most i:Nat}{e:En S C}{all:List C}{f:Nat}{l:List (En S C)}(h:l[i]?=some e):outer st nx most all (f+1) l i=rest st nx most i e all f l all:=by
 rw[outer,h];rfl
theorem outer_end{most i:Nat}{all:List C}{f:Nat}{l:List (En S C)}(h:l[i]?=none):outer st nx most all (f+1) l i=.ok l:=by
 rw[outer,h]
end
section
variable {S C : Type}
def WayOk(l:List (En S C)):Prop:=∀j (hj:j<l.length),l[j].frm<0\/∃f:Nat,l[j].frm=(f:Int)/\f<j
theorem WayOk.one(s:S)(c:C):WayOk [⟨s, -1,c⟩]:=λj hj=>by
 obtain rfl:j=0:=by simpa using hj
 exact .inl (show(-1:Int)<0 by decide)
theorem WayOk.snoc{l:List (En S C)}(h:WayOk l){i:Nat}(hi:i<l.length)(s:S)(c:C):WayOk (l++[⟨s,i,c⟩]):=λj hj=>by
 by_cases kj:j<l.length
 .rw [List.getElem_append_left kj];exact h j kj
 simp only[List.length_append,List.length_singleton] at hj;obtain rfl:j=l.length:=by omega
 refine .inr ⟨i,?_,hi⟩;simp
theorem WayOk.fuel{l:List (En S C)}(h:WayOk l):∀(j f f':Nat),j<f->j<f'->j<l.length->way l f j=way l f' j:=by
 intro j
 induction j using Nat.strongRecOn with
 |ind j ih=>
  intro f f' hf hf' hj;cases f with
  |zero=>omega
  |succ f=>
   cases f' with
   |zero=>omega
   |succ f'=>
    simp only[way];rw[List.getElem?_eq_getElem hj];dsimp only;rcases h j hj with h0|⟨q,e,q1⟩
    .rw [if_pos h0,if_pos h0]
    rw[e,if_neg (by omega),if_neg (by omega),Int.toNat_natCast,ih q q1 f f' (by omega) (by omega) (by omega)]
theorem W_neg{l:List (En S C)}{j:Nat}(hj:j<l.length)(h:l[j].frm<0):W l j=[]:=by
 unfold W;simp only[way];rw[List.getElem?_eq_getElem hj];dsimp only;rw[if_pos h]
theorem WayOk.pos{l:List (En S C)}(h:WayOk l){j:Nat}(hj:j<l.length){f:Nat}(e:l[j].frm=(f:Int))(hf:f<j):W l j=W l f++[l[j].c]:=by
 unfold W;rw[way,List.getElem?_eq_getElem hj];dsimp only;rw[e,if_neg (by omega),Int.toNat_natCast,h.fuel f j (f+1) hf (by omega) (by omega)]
theorem WayOk.short{l:List (En S C)}(h:WayOk l):∀(j:Nat),j<l.length->(W l j).length<=j:=by
 intro j
 induction j using Nat.strongRecOn with
 |ind j ih=>
  intro hj;rcases h j hj with h0|⟨q,e,q1⟩
  .rw [W_neg hj h0];exact Nat.zero_le _
  rw[h.pos hj e q1];have:=ih q q1 (by omega);simp;omega
end
end Bf
abbrev StE:=Bf.En (List Vl) (List Vl)
def seX(os:List (StE×Value×Value)):List Value:=os.flatMap λx=>[x.2.1,.int .i64 x.1.frm,x.2.2]
def StC(H:Kn)(x:StE)(f:Nat->Option Value):Prop:=∃sv cv,f 0=some sv/\f 1=some (.int .i64 x.frm)/\f 2=some cv/\VlsV H x.s sv/\VlsV H x.c cv
abbrev StsV(H:Kn):List StE->Value->Prop:=SlV H 3 (StC H)
structure SeS(ST:TypeId)(H:Kn)(w0 wr:World)(base sb M:Nat)(os:List (StE×Value×Value))(se:List (List Vl))(u:Value)(K:Kn):Prop where
 le:H.le K
 isin:K.In wr
 below:Ybw w0 wr
 row:wr.ownsRow base ST 3 u os.length (seX os)
 noU:∀g,u.ownBlock=some g->K g=none
 sts:∀x∈os,VlsV K x.1.s x.2.1/\VlsV K x.1.c x.2.2
 seen:Zay Value.bool wr sb (seenE se)
 noS:K sb=none
 low:base<=wr.heap.size
 ords:w0.heap.size<=M/\w0.heap.size<=sb/\M<base/\w0.heap.size<=base/\sb≠M
 neS:u.ownBlock≠some sb
section
variable {ST : TypeId} {H : Kn} {w0 wr : World} {base sb M : Nat} {os : List (StE × Value × Value)} {se : List (List Vl)} {u : Value} {K : Kn}
theorem SeS.gr{w5:World}(h:SeS ST H w0 wr base sb M os se u K)(hM:K M=none)(g:Gr2 wr w5 M none):SeS ST H w0 w5 base sb M os se u (Zbt K wr.heap.size w5):=by
 have h1:=Zb6 h.isin w5;obtain⟨o1,o2,o3,o4,o5⟩:=h.ords;have Jm:=h.low;refine⟨Kn.le_trans h.le h1,Ziv h.isin g hM,Gr2.below h.below g o1 h.below.size,own_gr h.row g o3,λq hq=>?_,λx hx=>⟨SlV.le (h.sts x hx).1 h1 VlC.mono,SlV.le (h.sts x hx).2 h1 VlC.mono⟩,h.seen.of_block (g.block sb h.seen.lt o5 (by simp)),?_,Nat.le_trans h.low g.size,h.ords,h.neS⟩
 .unfold Zbt;rw[if_pos (h.row.lt q hq).2];exact h.noU q hq
 rw[Ziw h.seen.lt];exact h.noS
theorem SeS.later{w5:World}(h:SeS ST H w0 wr base sb M os se u K)(hb:Ybw wr w5):SeS ST H w0 w5 base sb M os se u K:=
 ⟨h.le,h.isin.below hb,h.below.trans (hb.mono h.below.size),Za1 h.row hb,h.noU,h.sts,h.seen.below hb,h.noS,Nat.le_trans h.low hb.size,h.ords,h.neS⟩
theorem SeS.alloc(h:SeS ST H w0 wr base sb M os se u K)(o:Obj):SeS ST H w0 (wr.alloc o) base sb M os se u K:=h.later ((Below.refl _ _).alloc Ylr o)
theorem SeS.put{w5:World}{se':List (List Vl)}(h:SeS ST H w0 wr base sb M os se u K)(ht:Zcq wr w5 sb)(hm:Zay Value.bool w5 sb (seenE se')):SeS ST H w0 w5 base sb M os se' u K:=by
 obtain⟨o1,o2,o3,o4,o5⟩:=h.ords;exact⟨h.le,ht.isin h.isin h.noS,ht.below h.below o2,own_turned h.row ht h.neS,h.noU,h.sts,hm,h.noS,by rw[ht.size];exact h.low,h.ords,h.neS⟩
theorem McAt.turned{MT NT CT:TypeId}{R:REnv}{p:Pr}{ord:List Nat}{w w':World}{B:Nat}{s:Mc}{vm:Value}(h:McAt MT NT CT R p ord K w M B s vm)(ht:Zcq w w' sb)(hs:sb≠M)(hn:K sb=none):McAt MT NT CT R p ord K w' M B s vm:=
 ⟨(ht.block (Ne.symm hs)).trans h.box,ht.isin h.isin hn,h.no,h.code,h.mem,h.len⟩
theorem seX_snoc(os:List (StE×Value×Value))(x:StE)(sv cv:Value):seX (os++[(x,sv,cv)])=seX os++[sv,.int .i64 x.frm,cv]:=by simp[seX]
theorem SeS.app{w3:World}{gg Hh:Nat}{x:StE}{sv cv:Value}(h:SeS ST H w0 wr base sb M os se u K)(hs:VlsV K x.s sv)(hc:VlsV K x.c cv)
  (Hb:w3.ownsRow base ST 3 (.slice (some ⟨gg,0,none⟩) (os.length+1) Hh) (os.length+1) (seX os++[sv,.int .i64 x.frm,cv])) (hg:wr.grownBy w3 u.ownBlock) (hJ:u.ownBlock=some gg\/gg=wr.heap.size):
  SeS ST H w0 w3 base sb M (os++[(x,sv,cv)]) se (.slice (some ⟨gg,0,none⟩) (os.length+1) Hh) K:=by
 obtain⟨o1,o2,o3,o4,o5⟩:=h.ords;have Hs:=h.neS;refine⟨h.le,h.isin.grown hg h.noU,h.below.grown hg h.below.size (λg JH=>by have:=(h.row.lt g JH).1;omega),?_,λg JH=>?_,λy hy=>?_,h.seen.of_block (hg.block sb h.seen.lt (λe=>Hs e.symm)),h.noS,Nat.le_trans h.low hg.size,h.ords,λe=>?_⟩
 .rw [List.length_append,seX_snoc];exact Hb
 .have e:gg=g:=by simpa[Value.ownBlock] using JH
  subst e;rcases hJ with h1|rfl
  .exact h.noU gg h1
  exact h.isin.isNone Ylr
 .rcases List.mem_append.1 hy with hy|hy
  .exact h.sts y hy
  rw[List.mem_singleton.1 hy];exact⟨hs,hc⟩
 have e2:gg=sb:=by simpa[Value.ownBlock] using e
 rcases hJ with h1|h1
 .exact Hs (by rw[h1,e2])
 have:=h.seen.lt;omega
theorem Zjc(os:List (StE×Value×Value))(i:Nat)(hi:i<os.length)(j:Nat)(hj:j<3):(seX os)[i * 3+j]?=[os[i].2.1,Value.int .i64 os[i].1.frm,os[i].2.2][j]?:=
 Zhi 3 (λx:StE×Value×Value=>[x.2.1,.int .i64 x.1.frm,x.2.2]) (λ_=>rfl) os i hi j hj
theorem SeS.at(h:SeS ST H w0 wr base sb M os se u K){i:Nat}(hi:i<os.length):∃g Ha,u=.slice (some ⟨g,0,none⟩) os.length Ha/\os.length<=Ha/\wr.cell? ⟨g,i * 3,none⟩=some os[i].2.1/\wr.cell? ⟨g,i * 3+1,none⟩=some (.int .i64 os[i].1.frm)/\wr.cell? ⟨g,i * 3+2,none⟩=some os[i].2.2:=by
 obtain⟨g,Ha,h1,h2,_,_,_,h5⟩:=Zbr h.row (Nat.lt_of_le_of_lt (Nat.zero_le _) hi);exact⟨g,Ha,h1,h2,h5 _ _ (by have:=Zjc os i hi 0 (by omega);simpa using this),h5 _ _ (by rw[Zjc os i hi 1 (by omega)];rfl),h5 _ _ (by rw[Zjc os i hi 2 (by omega)];rfl)⟩
theorem SeS.known(h:SeS ST H w0 wr base sb M os se u K):∃K',K.le K'/\K'.In wr/\StsV K' (os.map (·.1)) u/\∀b,b<base->K' b=K b:=by
 have hr:wr.ownsRow base ST 3 u (os.map (·.1)).length (seX os):=by rw[List.length_map];exact h.row
 exact Zcn (R:=StC) h.isin hr h.noU λK' He i hi f hf=>by
  have za:i<os.length:=by simpa using hi
  rw[List.getElem_map];obtain⟨h1,h2⟩:=h.sts _ (Ymm za);exact⟨os[i].2.1,os[i].2.2,hf 0 _ (by rw[Zjc os i za 0 (by omega)];rfl),hf 1 _ (by rw[Zjc os i za 1 (by omega)];rfl),hf 2 _ (by rw[Zjc os i za 2 (by omega)];rfl),SlV.le h1 He VlC.mono,SlV.le h2 He VlC.mono⟩
end
theorem StsV.at{H:Kn}{l:List StE}{a:Option Addr}{n c:Nat}(h:StsV H l (.slice a n c)){k:Nat}(hk:k<l.length):∃b off a1 c1 a2 c2,a=some ⟨b,off,none⟩/\H.cell b (off+k * 3)=some (.slice a1 l[k].s.length c1)/\H.cell b (off+k * 3+1)=some (.int .i64 l[k].frm)/\H.cell b (off+k * 3+2)=some (.slice a2 l[k].c.length c2)/\VlsV H l[k].s (.slice a1 l[k].s.length c1)/\VlsV H l[k].c (.slice a2 l[k].c.length c2):=by
 obtain⟨b,off,jE,_,sv,cv,c0,c1,c2,h1,h2⟩:=SlV.at h hk;obtain⟨a1,k1,rfl⟩:=h1.len;obtain⟨a2,k2,rfl⟩:=h2.len;exact⟨b,off,a1,k1,a2,k2,jE,c0,c1,c2,h1,h2⟩
def Zcf(p:Pr)(choices:List (List Vl))(most:Int):Nat×Int:=
 if (runE p [] 0).1≠0 then runE p [] 0 else if most<1\/3000<most\/100<choices.length then(2, -1) else match choices.findIdx? (λl => !Zas p.ins l l.length) with|some i=>(5,(i:Int))|none=>(0, -1)
abbrev toldZ:Value:=.agg #[.int .i64 0,Ys0,.int .i64 0]
def Zhl(sp:Nat->Addr)(p:Pr)(choices:List (List Vl))(most:Int)(w:World)(r:Ending)(w':World):Prop:=
 Ybw w w'/\if (Zcf p choices most).1=0 then ∃ks ord,Zao Env.none p.vars=some ks/\Za5 p=.ok ord/\
   (match Zdd ks ord p choices most.toNat with
   | .over=>r=.returned (.tuple #[toldZ,esv (sp 1)])
   | .ok l=>r=.returned (.tuple #[.agg #[.int .i64 l.length,Ys0,.int .i64 (-2)],.nilIface])
   | .found i l c k=>∃v,r=.returned (.tuple #[.agg #[.int .i64 l.length,v,.int .i64 k],.nilIface])/\InsV (Zan w') (Bf.W l i++[c]) v)
  else ∃v,r=.returned (.tuple #[toldZ,v])/\ErrW sp w' (Zcf p choices most).1 (Zcf p choices most).2 v
theorem SeS.init{ST:TypeId}{H:Kn}{w0 w3 w6 w7:World}{M:Nat}{K:Kn}{s:List Vl}{a:Option Addr}{n c:Nat}(Hk:K.In w3)(He:H.le K)(hb:Ybw w0 w3)(hv:VlsV K s (.slice a n c))
  (JX:Below ((w3.alloc (.cells #[.slice a n c,.int .i64 (-1),Ys0] ST)).alloc (.map #[] 0)).heap.size ((w3.alloc (.cells #[.slice a n c,.int .i64 (-1),Ys0] ST)).alloc (.map #[] 0)) w6) (ht:Zcq w6 w7 (w3.heap.size+1)) (hm:Zay Value.bool w7 (w3.heap.size+1) (seenE [s])) (hM:w0.heap.size<=M) (km:M<w3.heap.size):
  SeS ST H w0 w7 w3.heap.size (w3.heap.size+1) M [(⟨s, -1,[]⟩,.slice a n c,Ys0)] [s] (.slice (some ⟨w3.heap.size,0,none⟩) 1 1) K:=by
 have kM:Ybw w3 ((w3.alloc (.cells #[.slice a n c,.int .i64 (-1),Ys0] ST)).alloc (.map #[] 0)):=Yba.alloc (by simp) _;have Hm:=kM.trans (JX.mono kM.size);have Jo:∀b,w3.heap.size<=b->K b=none:=λb h=>Hk.isNone h;have xh:w7.heap[w3.heap.size]?=some (.cells #[.slice a n c,.int .i64 (-1),Ys0] ST (0,0)):=by
  rw[ht.block (by omega),JX.block _ (by simp;omega),Below.heap_alloc _ _ _ (by simp)];exact heap_alloc_new w3 _
 have hs:=ht.size;refine⟨He,ht.isin (Hk.below Hm) (Jo _ (by omega)),ht.below (hb.trans (Hm.mono hb.size)) (by have:=hb.size;omega),⟨by simp[seX],.inr ⟨w3.heap.size,1,_,rfl,Nat.le_refl _,xh,Nat.le_refl _,by unfold maxLen;omega,rfl,rfl⟩⟩,λg hg=>?_,λx hx=>?_,hm,Jo _ (by omega),by rw[hs];exact Hm.size,⟨hM,by have:=hb.size;omega,km,hb.size,by omega⟩,?_⟩
 .have e:w3.heap.size=g:=by simpa[Value.ownBlock] using hg
  exact Jo g (by omega)
 .rw [List.mem_singleton.1 hx];exact⟨hv,.inl ⟨rfl,none,0,rfl⟩⟩
 simp[Value.ownBlock]
theorem put_right{ks:Env Int}{p:Pr}{s:List Vl}(h:Zb5 (Zcm ks p) s s.length=true):MemR ks p (putM s).mem:=by
 unfold Zb5 at h;simp only[Bool.and_eq_true,decide_eq_true_eq,List.all_eq_true,List.mem_range] at h;obtain⟨h1,h2⟩:=h;have hl:(Zcm ks p).length=(Zab 0 p.terms).length+1:=by simp[Zcm]
 refine⟨by show(s.drop 1).length=_;rw[List.length_drop];omega,λj hj=>?_⟩;have:=h2 (j+1) (by omega);show Zaq ((s.drop 1).getD j vz) _=true;rw[Ygg,List.getElem?_drop,Nat.add_comm 1 j,<- Ygg];have e:(Zcm ks p).getD (j+1) 0=Zai ks (Zab 0 p.terms)[j].1:=by
  simp[Zcm,Ygg,hj]
 rw[e] at this;exact this
theorem step_fine{R:REnv}{c:Cd}{ins:List Vr}{s:Mc}{x:List Vl}(ht:s.trapped=false)(hx:Zas ins x x.length=true):(Zcw R c ins s x).1=0:=by
 unfold Zcw;rw[if_neg (by simp[ht]),if_pos hx]
 split<;>rfl
theorem Zbu{W:World}{b:Nat}{x y z:Value}{t:TypeId}(h:W.heap[b]?=some (.cells #[x,y,z] t (0,0))):
  W.cell? ⟨b,0,none⟩=some x/\W.cell? ⟨b,1,none⟩=some y/\W.cell? ⟨b,2,none⟩=some z/\W.frozen? ⟨b,0,none⟩=false/\W.frozen? ⟨b,1,none⟩=false/\W.frozen? ⟨b,2,none⟩=false/\b<W.heap.size:=
 ⟨by simp[World.cell?,h],by simp[World.cell?,h],by simp[World.cell?,h],by simp[World.frozen?,h],by simp[World.frozen?,h],by simp[World.frozen?,h],(Zlt h)⟩
def put3(W:World)(b:Nat)(x y z:Value):World:=((W.setCell ⟨b,0,none⟩ x).setCell ⟨b,1,none⟩ y).setCell ⟨b,2,none⟩ z
theorem Zdq{W:World}{b:Nat}{x y z:Value}{t:TypeId}(h:W.heap[b]?=some (.cells #[x,y,z] t (0,0)))(p q r:Value):(put3 W b p q r).heap[b]?=some (.cells #[p,q,r] t (0,0)):=by
 have h1:=Zaa W b 0 p _ _ _ h;have h2:=Zaa _ b 1 q _ _ _ h1;have h3:=Zaa _ b 2 r _ _ _ h2;simpa[put3] using h3
theorem Zc8{base b:Nat}{w W:World}(h:Below base w W)(hb:base<=b)(p q r:Value):Below base w (put3 W b p q r):=
 ((h.setCell (p:=⟨b,0,none⟩) hb p).setCell (p:=⟨b,1,none⟩) hb q).setCell (p:=⟨b,2,none⟩) hb r
theorem put3_size(W:World)(b:Nat)(x y z:Value):(put3 W b x y z).heap.size=W.heap.size:=by simp[put3]
theorem Zg6{W:World}{b:Nat}(x y z:Value){k:Nat}(hk:k≠b):(put3 W b x y z).heap[k]?=W.heap[k]?:=by
 unfold put3;rw[Below.heap_setCell _ ⟨b,2,none⟩ _ k hk,Below.heap_setCell _ ⟨b,1,none⟩ _ k hk,Below.heap_setCell _ ⟨b,0,none⟩ _ k hk]
theorem found_mem{ks:Env Int}{ord:List Nat}{p:Pr}{choices:List (List Vl)}{most:Nat}(hm:1<=most){i:Nat}{l:List StE}{c:List Vl}{k:Int}(h:Zdd ks ord p choices most=.found i l c k):∀x∈Bf.W l i++[c],x∈choices:=by
 have hp:=Bf.search_post (stR (RP false 0 ks p) (cdOf p ord) p.ins) (nxR (RP false 0 ks p) (cdOf p ord) p.ins) (cs:=choices) (s0:=startS (RP false 0 ks p) p) (c0:=[]) hm;unfold Zdd at h;rw[h] at hp;obtain⟨hI,hi,hc,_,_⟩:=hp;obtain⟨_,g2,_⟩:=hI.goes i hi;intro x hx;rcases List.mem_append.1 hx with hx|hx
 .exact g2 x hx
 rw[List.mem_singleton.1 hx];exact hc
theorem Kn.In.put3{K:Kn}{W:World}(h:K.In W){b:Nat}(hb:K b=none)(x y z:Value):K.In (put3 W b x y z):=
 ((h.setCell (a:=⟨b,0,none⟩) hb x).setCell (a:=⟨b,1,none⟩) hb y).setCell (a:=⟨b,2,none⟩) hb z
open Go.RowKit Mx
def idxN(l:List Bool):Int:=match l.findIdx? (λb => !b) with|some k=>(k:Int)|none => -1
theorem idxB_any(H:Kn)(l:List Bool)(v:Value)(hv:BlsV H l v)(hl:l.length<=1000000000)(w:World)(hH:H.In w):
  Calls Tryz.prog 50 #[v,.bool false] w λr w'=>r=.returned (.int .i64 (idxN l))/\w=w':=by
 obtain⟨a,c,rfl⟩:=hv.len;have HV:=Zhd hv;clear hv;go_enter Tryz.func50,Tryz.ntmps50;go_wp2_with fail;go_loop[8] (λi=>∃k:Nat,k<=l.length/\i=.int .i64 k/\(∀j (hj:j<l.length),j<k->l[j]=true)) (λi=>l.length - (intOf i).toNat)
 case atStart=>exact⟨0,Nat.zero_le _,rfl,λj _ h=>by omega⟩
 obtain⟨k,hk,rfl,hn⟩:=hrel;have HN:=Zhd hn;clear hn;by_cases Hr:k<l.length
 .obtain⟨b,off,jE,_,c0⟩:=SlV.at HV.out Hr;subst jE;have c0:H.cell b (off+k * 1+0)=some (.bool l[k]):=c0;simp only[Nat.mul_one,Nat.add_zero] at c0;have c0:=hH.cell c0;cases he:l[k] with
  |true=>
   rw[he] at c0;have yP:=Zhd (show ∀j (hj:j<l.length),j<k+1->l[j]=true from λj hj jV=>by
    by_cases hjk':j<k
    .exact HN.out j hj hjk'
    obtain rfl:j=k:=by omega
    exact he)
   clear he;go_wp2_with fail;go_round
   case rel=>exact⟨k+1,by omega,by go_num,yP.out⟩
   simp[intOf];omega
  |false=>
   rw[he] at c0;have HF:=Zhd (show idxN l=(k:Int) from by
    unfold idxN;rw[show l.findIdx? (λb => !b)=some k from List.findIdx?_eq_some_iff_getElem.2 ⟨Hr,by simp[he],λj hj=>by simp[HN.out j (by omega) hj]⟩])
   clear he;go_wp2_with fail;go_ret;exact⟨Zaf HF.out.symm,rfl⟩
 have HF:=Zhd (show idxN l = -1 from by
  unfold idxN;rw[show l.findIdx? (λb => !b)=none from List.findIdx?_eq_none_iff.2 λx hx=>by
   obtain⟨j,hj,rfl⟩:=List.mem_iff_getElem.1 hx;simp[HN.out j hj (by omega)]])
 obtain rfl:k=l.length:=by omega
 go_wp2_with fail;go_ret;exact⟨Zaf HF.out.symm,rfl⟩
def Zcp(t:Tk):Int:=match Zdm t with|some k=>k|none => -2
theorem wrongI_some{t:Tk}(h : -2<Zcp t):Zdm t=some (Zcp t):=by
 unfold Zcp at h ⊢;cases e:Zdm t with
 |some k=>rfl
 |none=>rw[e] at h;exact absurd h (by decide)
theorem wrongI_none{t:Tk}(h:¬ -2<Zcp t):Zdm t=none:=by
 cases e:Zdm t with
 |none=>rfl
 |some k=>
  have h2:=wrongK_last e;unfold Zcp at h;rw[e] at h;dsimp only at h;omega
theorem wrongI_at(t:Tk)(ht:t.trap=false):Zcp t=if 0<=idxN t.checks/\t.asrt=true then idxN t.checks else -2:=by
 unfold Zcp Zdm idxN;rw[if_neg (by simp[ht])];by_cases ha:t.asrt=true
 .rw [if_pos ha];cases e:t.checks.findIdx? (λb => !b) with
  |some k=>simp[ha]
  |none=>simp
 rw[if_neg ha,if_neg (λh=>ha h.2)]
theorem wrong_any(H:Kn)(t:Tk)(ov cv:Value)(hk:TkV H t ov cv)(hl:t.checks.length<=1000000000)(w:World)(hH:H.In w):
  Calls Tryz.prog 25 #[.agg #[ov,.bool t.asrt,.bool t.trap,cv]] w λr w'=>r=.returned (.int .i64 (Zcp t))/\Ybw w w':=by
 obtain⟨a1,c1,rfl⟩:=hk.outs.len;obtain⟨a2,c2,rfl⟩:=hk.checks.len;obtain⟨xo,xa,xt,xc⟩:=t;have hC:BlsV H xc (.slice a2 xc.length c2):=hk.checks;have hJ:xt=false->Zcp ⟨xo,xa,xt,xc⟩=if 0<=idxN xc/\xa=true then idxN xc else -2:=wrongI_at ⟨xo,xa,xt,xc⟩
 have xL:xt=true->Zcp ⟨xo,xa,xt,xc⟩ = -1:=λh=>by unfold Zcp Zdm;rw[if_pos h]
 have xJ:=Zhd hJ;have gH:=Zhd xL;have HC:=Zhd hC;generalize Zcp ⟨xo,xa,xt,xc⟩=wi at *;clear hk hJ xL hC;dsimp only at hl ⊢;have hX:=heap_alloc_new w (.cells #[.slice a1 xo.length c1,.bool xa,.bool xt,.slice a2 xc.length c2] 83);have hb:Ybw w (w.alloc (.cells #[.slice a1 xo.length c1,.bool xa,.bool xt,.slice a2 xc.length c2] 83)):=Yba;obtain⟨k0,k1,k2,k3,_,_⟩:=Zcd hX;have HB:=Zhd hb;have HH:=Zhd (hH.below hb);clear hX hb;go_enter Tryz.func25,Tryz.ntmps25;cases xt with
 |true=>
  go_wp2_with fail;go_ret;exact⟨Zaf (gH.out (by simp)).symm,HB.out⟩
 |false=>
  go_wp2_with fail;refine(idxB_any H xc _ HC.out hl _ HH.out).mono ?_;rintro r w2 ⟨rfl,rfl⟩;have HA2:=Zhd (xJ.out (by simp));clear xJ gH;generalize idxN xc=ix at *;by_cases h0:0<=ix
  .cases xa with
   |true=>
    go_wp2_with fail;go_ret;exact⟨Zaf (by rw[HA2.out,if_pos ⟨by omega,by simp⟩]),HB.out⟩
   |false=>
    go_wp2_with fail;go_ret;exact⟨Zaf (by rw[HA2.out,if_neg (by simp)]),HB.out⟩
  go_wp2_with fail;go_ret;exact⟨Zaf (by rw[HA2.out,if_neg (by omega)]),HB.out⟩
theorem reverse_nil(a:Option Addr)(c:Nat)(w:World):
  Calls Tryz.prog 51 #[.slice a 0 c] w λr w'=>r=.returned (.tuple #[])/\w=w':=by
 go_enter Tryz.func51,Tryz.ntmps51;go_wp2_with fail;refine wp_loop_rounds 1 ?_;rw[rounds_succ];go_wp2_with fail;go_end0
 exact⟨rfl,rfl⟩
theorem reverse_any(l:List Value)(n:Nat)(hn:n=l.length)(hsh:∀x∈l,∃a n c,x=.slice a n c)(g Ha:Nat)(T:TypeId)(cur:Array Value)(w:World)(hg:w.heap[g]?=some (.cells cur T (0,0)))(hc:∀i (h:i<l.length),cur[i]?=some l[i])(hl:l.length<=Ha/\Ha<=maxLen):
  Calls Tryz.prog 51 #[.slice (some ⟨g,0,none⟩) n Ha] w λr w'=>r=.returned (.tuple #[])/\Gr2 w w' g none/\∃JL,w'.heap[g]?=some (.cells JL T (0,0))/\JL.size=cur.size/\∀i (h:i<l.length),JL[i]?=some (l[l.length - 1 - i]'(by omega)):=by
 subst hn;obtain⟨hl1,jU⟩:=hl;unfold maxLen at jU;have HSH:=Zhd hsh;clear hsh;have Hy:Gr2 w w g none/\∃JL,w.heap[g]?=some (.cells JL T (0,0))/\JL.size=cur.size/\∀t (h:t<l.length),JL[t]?=some (if (t:Int)<0\/(l.length:Int) - 1<t then l[l.length - 1 - t]'(by omega) else l[t]):=
  ⟨Gr2.refl _ _ _,cur,hg,rfl,λt ht=>by rw[if_neg (by omega)];exact hc t ht⟩
 have Jz:=Zhd Hy;clear Hy hg hc;go_enter Tryz.func51,Tryz.ntmps51;go_wp2_with fail;go_loopw[2,3] (λi j wr=>∃(k:Nat) (m:Int),i=.int .i64 k/\j=.int .i64 m/\(k:Int)+m=(l.length:Int) - 1/\k<=l.length/\Gr2 w wr g none/\∃JL,wr.heap[g]?=some (.cells JL T (0,0))/\JL.size=cur.size/\∀t (h:t<l.length),JL[t]?=some (if (t:Int)<k\/m<t then l[l.length - 1 - t]'(by omega) else l[t])) (λi _ _=>l.length - (intOf i).toNat)
 case atStart=>exact⟨0,(l.length:Int) - 1,rfl,rfl,by omega,Nat.zero_le _,Jz.out⟩
 clear Jz;obtain⟨k,m,rfl,rfl,hkm,Hd,hgr,JL,JH,J5,hJ⟩:=hrel;have HG:=Zhd hgr;have HGG:=Zhd JH;have xJ:=Zhd hJ;have xY:=Zhd J5;clear hgr JH hJ J5;by_cases Hr:(k:Int)<m
 .obtain⟨mn,rfl⟩:∃mn:Nat,m=(mn:Int):=⟨m.toNat,by omega⟩;have hkl2:k<l.length:=by omega
  have gU:mn<l.length:=by omega
  obtain⟨a1,n1,c1,h1⟩:=HSH.out _ (Ymm hkl2);obtain⟨a2,n2,c2,h2⟩:=HSH.out _ (Ymm gU);have p1:=xJ.out k hkl2;have p2:=xJ.out mn gU;rw[if_neg (by omega),h1] at p1;rw[if_neg (by omega),h2] at p2;have JH:=HGG.out;have c1':wr.cell? ⟨g,k,none⟩=some (.slice a1 n1 c1):=by
   have:wr.heap[g]?=some (.cells JL T (0,0)):=JH;simp[World.cell?,this,p1]
  have c2':wr.cell? ⟨g,mn,none⟩=some (.slice a2 n2 c2):=by
   have:wr.heap[g]?=some (.cells JL T (0,0)):=JH;simp[World.cell?,this,p2]
  clear JH p1 p2;have f1:wr.frozen? ⟨g,k,none⟩=false:=by
   have:wr.heap[g]?=some (.cells JL T (0,0)):=HGG.out;simp[World.frozen?,this]
  have f2:wr.frozen? ⟨g,mn,none⟩=false:=by
   have:wr.heap[g]?=some (.cells JL T (0,0)):=HGG.out;simp[World.frozen?,this]
  go_wp2_with fail;go_region
  all_goals go_wp2_with fail
  have jo:=Zaa wr g k (.slice a2 n2 c2) _ _ _ HGG.out;have qG:=Zaa _ g mn (.slice a1 n1 c1) _ _ _ jo;have hgr2:Gr2 w ((wr.setCell ⟨g,k,none⟩ (.slice a2 n2 c2)).setCell ⟨g,mn,none⟩ (.slice a1 n1 c1)).drew g none:=by
   have h:Gr2 w ((wr.setCell ⟨g,k,none⟩ (.slice a2 n2 c2)).setCell ⟨g,mn,none⟩ (.slice a1 n1 c1)) g none:=(HG.out.setCell k _).setCell mn _;exact⟨h.os,h.tape,h.output,h.size,h.block⟩
  have hks:k<JL.size:=by
   have h:=xJ.out k hkl2;rcases Nat.lt_or_ge k JL.size with h3|h3
   .exact h3
   rw[Array.getElem?_eq_none h3] at h;cases h
  have vy:mn<JL.size:=by
   have h:=xJ.out mn gU;rcases Nat.lt_or_ge mn JL.size with h3|h3
   .exact h3
   rw[Array.getElem?_eq_none h3] at h;cases h
  have hJ:∀t (h:t<l.length),((JL.setIfInBounds k (.slice a2 n2 c2)).setIfInBounds mn (.slice a1 n1 c1))[t]?=some (if (t:Int)<((k+1:Nat):Int)\/(mn:Int) - 1<t then l[l.length - 1 - t]'(by omega) else l[t]):=λt ht=>by
   rw[Array.getElem?_setIfInBounds,Array.getElem?_setIfInBounds];by_cases e1:mn=t
   .subst e1;rw[if_pos rfl,if_pos (by simpa using vy),if_pos (by omega),<- h1]
    congr 2
    omega
   rw[if_neg e1];by_cases e2:k=t
   .subst e2;rw[if_pos rfl,if_pos hks,if_pos (by omega),<- h2]
    congr 2
    omega
   rw[if_neg e2,xJ.out t ht];by_cases e3:(t:Int)<k\/(mn:Int)<t
   .rw [if_pos e3,if_pos (by omega)]
   rw[if_neg e3,if_neg (by omega)]
  have HX:=Zhd (And.intro hgr2 (And.intro qG hJ));go_roundw
  case rel=>exact⟨k+1,(mn:Int) - 1,by go_num,rfl,by omega,by omega,HX.out.1,_,HX.out.2.1,by simp[xY.out],HX.out.2.2⟩
  simp[intOf];omega
 go_wp2_with fail;go_end0
 refine⟨rfl,HG.out,JL,HGG.out,xY.out,λt ht=>?_⟩;rw[xJ.out t ht];by_cases e3:(t:Int)<k\/m<t
 .rw [if_pos e3]
 rw[if_neg e3]
 congr 2
 omega
theorem IsX.rev{K:Kn}{l:List (List Vl)}{xs ys:List Value}(h:IsX K l xs)(hl:ys.length=xs.length)(hy:∀i (hi:i<xs.length),ys[i]?=some (xs[xs.length - 1 - i]'(by omega))):IsX K l.reverse ys:=by
 obtain⟨h1,h2⟩:=h;rw[Nat.mul_one] at h1;refine⟨by rw[hl,h1,List.length_reverse,Nat.mul_one],λi hi=>?_⟩;have za:i<l.length:=by simpa using hi
 obtain⟨u,a1,a2⟩:=h2 (l.length - 1 - i) (by omega);have a1:(if 0<1 then xs[(l.length - 1 - i) * 1+0]? else none)=some u:=a1;rw[if_pos (by decide),Nat.mul_one,Nat.add_zero] at a1;rw[List.getElem_reverse];refine⟨u,?_,a2⟩;show(if 0<1 then ys[i * 1+0]? else none)=some u;rw[if_pos (by decide),Nat.mul_one,Nat.add_zero,hy i (by omega),<- a1,List.getElem?_eq_getElem (by omega)];simp only[h1]
theorem way_any(K:Kn)(l:List StE)(v:Value)(hv:StsV K l v)(hw:Bf.WayOk l)(at_:Nat)(ha:at_<l.length)(hl:l.length<=100000)(w:World)(hH:K.In w):
  Calls Tryz.prog 27 #[v,.int .i64 at_] w λr w'=>∃v' xs,r=.returned v'/\w'.ownsRow w.heap.size 31 1 v' (Bf.W l at_).length xs/\IsX K (Bf.W l at_) xs/\Ybw w w':=by
 obtain⟨a,c,rfl⟩:=hv.len;have HV:=Zhd hv;have HW:=Zhd hw;clear hv hw;go_enter Tryz.func27,Tryz.ntmps27;go_wp2_with fail;go_loopw[1,5] (λi u wr=>∃(j:Nat) (ws:List (List Vl)) (xs:List Value),i=.int .i64 j/\j<l.length/\ws.length+j<=at_/\Bf.W l at_=Bf.W l j++ws.reverse/\wr.ownsRow w.heap.size 31 1 u ws.length xs/\IsX K ws xs/\Ybw w wr) (λi _ _=>(intOf i).toNat)
 case atStart=>exact⟨at_,[],[],rfl,ha,by simp,by simp,World.ownsRow_nil _ _ _ _,RowX.nil,Below.refl _ _⟩
 obtain⟨j,ws,xs,rfl,hj,Ho,jm,Jd,JC,hb⟩:=hrel;have HR:=Zhd Jd;have HX:=Zhd JC;have HB:=Zhd hb;have xA:=Zhd jm;obtain⟨au,cu,rfl,_⟩:=Zar Jd;clear Jd JC hb jm;obtain⟨b,off,a1,c1,a2,c2,jE,d0,d1,d2,_,hc⟩:=StsV.at HV.out hj;subst jE;have D1:=Zhd d1;have d1:=(hH.below HB.out).cell d1;have d2:=(hH.below HB.out).cell d2;have HC:=Zhd hc;have hor:=HW.out j hj;have HP:=Zhd (λf e hf=>HW.out.pos hj (f:=f) e hf);have HN:=Zhd (λh=>Bf.W_neg (l:=l) hj h);clear hc d0;generalize l[j].frm=fr at *;generalize l[j].c=x at *;rcases hor with h0|⟨f,rfl,hf⟩
 .have HW0:=Zhd (show Bf.W l at_=ws.reverse from by rw[xA.out,HN.out h0,List.nil_append]);have q:¬0<=fr:=by omega
  clear xA HN HP HC;go_wp2_with fail;by_cases hws:ws.length=0
  .have hws2:ws=[]:=List.eq_nil_of_length_eq_zero hws;subst hws2;refine(reverse_nil au cu wr).mono ?_;rintro r w2 ⟨rfl,rfl⟩;go_wp2_with fail;go_ret;exact⟨_,xs,rfl,by rw[HW0.out];exact HR.out,by rw[HW0.out];exact HX.out,HB.out⟩
  have Jd:=HR.out;rcases Jd.2 with ⟨_,h1⟩|⟨g,Ha,cur,e1,hbg,hg,hnc,Qv,J5,htake⟩
  .exact absurd h1 hws
  cases e1;have hxl:xs.length=ws.length:=by have:=HX.out.1;omega
  have hcur:∀i (h:i<xs.length),cur[i]?=some xs[i]:=λi hi=>by
   have h3:(cur.toList.take (ws.length * 1))[i]?=xs[i]?:=by rw[htake]
   rw[List.getElem?_take_of_lt (by omega),List.getElem?_eq_getElem hi] at h3;simpa using h3
  have hsh:∀x∈xs,∃a n c,x=.slice a n c:=λx hx=>by
   obtain⟨i,hi,rfl⟩:=List.mem_iff_getElem.1 hx;obtain⟨u,g1,g2⟩:=HX.out.2 i (by omega);have g1:(if 0<1 then xs[i * 1+0]? else none)=some u:=g1;rw[if_pos (by decide),Nat.mul_one,Nat.add_zero,List.getElem?_eq_getElem hi] at g1;cases g1;obtain⟨a,c,e⟩:=g2.len;exact⟨a,_,c,e⟩
  have hrev:=reverse_any xs ws.length hxl.symm hsh g cu 31 cur wr hg hcur ⟨by omega,Qv⟩;refine hrev.mono ?_;rintro r w2 ⟨rfl,zc,JL,JH,hsz2,hJ⟩;have Hm:Ybw w w2:=⟨zc.os.trans HB.out.os,zc.tape.trans HB.out.tape,zc.output.trans HB.out.output,Nat.le_trans HB.out.size zc.size,λi hi=>by
   rw[zc.block i (Nat.lt_of_lt_of_le hi HB.out.size) (by omega) (by simp)];exact HB.out.block i hi⟩
  have hys:((JL.toList.take ws.length)).length=xs.length:=by
   have:ws.length<=JL.size:=by rw[hsz2,J5];omega
   simp[hxl,this]
  have hyx:∀i (hi:i<xs.length),(JL.toList.take ws.length)[i]?=some (xs[xs.length - 1 - i]'(by omega)):=λi hi=>by
   rw[List.getElem?_take_of_lt (by omega)];have:=hJ i (by omega);simpa[hxl] using this
  have qt:=IsX.rev HX.out hys hyx;have hrow2:w2.ownsRow w.heap.size 31 1 (.slice (some ⟨g,0,none⟩) ws.length cu) ws.length (JL.toList.take ws.length):=⟨by rw[hys,hxl,Nat.mul_one],.inr ⟨g,cu,JL,rfl,hbg,JH,hnc,Qv,by rw[hsz2];exact J5,by rw[Nat.mul_one]⟩⟩;have HF:=Zhd (And.intro hrow2 (And.intro qt Hm));clear Jd hg hcur hsh hrev zc JH hJ Hm hys hyx qt hrow2 htake J5;go_wp2_with fail;go_ret;refine⟨_,_,rfl,?_,by rw[HW0.out];exact HF.out.2.1,HF.out.2.2⟩;rw[HW0.out,List.length_reverse];exact HF.out.1
 have xC:=Zhd (show Bf.W l at_=Bf.W l f++(ws++[x]).reverse from by rw[xA.out,HP.out f rfl hf];simp);have q:(0:Int)<=f:=by omega
 clear xA HN HP;have qc:=Zhd (Za1 HR.out ((Below.refl wr.heap.size wr).alloc Ylr (.cells #[.slice a2 x.length c2] 31)));have J5:=HB.out.size;go_wp2_with(at_builtin;refine Zgs 28 31 1 24 _ Tryz.underlying28 Tryz.infoIs rfl (by decide) _ _ rfl rfl w.heap.size _ _ _ rfl qc.out ⟨wr.heap.size,0,none⟩ 1 [.slice a2 x.length c2] rfl rfl ?c1 ?c2 ?c3 ?c4 ?c5 ?_)
 case c1=>exact Zf5 _ _ _
 case c2=>simp[Value.oneCell']
 case c3=>omega
 case c4=>omega
 case c5=>simp;omega
 intro g Hh w3 ho JP hJ;have Jg:Ybw w w3:=(HB.out.alloc J5 _).grown JP (by simp;omega) (λq hq=>(qc.out.lt q hq).1);have HF:=Zhd (And.intro ho (And.intro (show IsX K (ws++[x]) (xs++[.slice a2 x.length c2]) from RowX.snoc IsC.pm HX.out rfl ⟨_,rfl,HC.out⟩) Jg));have d1':=(hH.below Jg).cell D1.out;clear ho JP hJ Jg;go_wp2_with fail;go_roundw
 case rel=>exact⟨f,ws++[x],_,by go_num,by omega,by simp;omega,xC.out,by rw[List.length_append];exact HF.out.1,HF.out.2.1,HF.out.2.2⟩
 simp[intOf];omega
theorem Kn.Step.join{K:Kn}{w w':World}(h:K.In w)(hb:Ybw w w'):Kn.Step K w (Zbt K w.heap.size w') w':=
 ⟨Zb6 h w',λb Ji=>by unfold Zbt;rw[if_pos Ji],Ziu h hb,hb⟩
theorem own_any(H:Kn)(l:List (List Vl))(v:Value)(hv:InsV H l v)(hz:l.length<=1000000/\∀x∈l,x.length<=1000000)(w:World)(hH:H.In w):
  Calls Tryz.prog 26 #[v] w λr w'=>∃v' K,r=.returned v'/\InsV K l v'/\Kn.Step (λ_=>none) w K w':=by
 obtain⟨a,Ha,rfl⟩:=hv.len;have HU:=Zhd hv;obtain⟨z1,z2⟩:=hz;have HZ:=Zhd z2;clear hv z2;go_enter Tryz.func26,Tryz.ntmps26;go_wp2_with fail;have jF:=Zhd (show RwO 31 1 IsX (λ_=>none) w w w.heap.size l 0 (Ys0) [] (λ_=>none) from
  ⟨Kn.le_refl _,λ_ _=>rfl,(λb o e=>by cases e),Below.refl _ _,Nat.le_refl _,World.ownsRow_nil _ _ _ _,RowX.nil,λg hg=>by simp[Value.ownBlock] at hg⟩)
 go_loopw[3,8] (λu i wr=>∃(k:Nat) (xs:List Value) (K:Kn),i=.int .i64 k/\k<=l.length/\RwO 31 1 IsX (λ_=>none) w wr w.heap.size l k u xs K) (λ_ i _=>l.length - (intOf i).toNat)
 case atStart=>exact⟨0,_,_,rfl,Nat.zero_le _,jF.out⟩
 obtain⟨k,xs,K,rfl,hk,hS⟩:=hrel;have HS:=Zhd hS;obtain⟨au,cu,rfl,_⟩:=Zar hS.row;clear hS;by_cases Hd:k<l.length
 .obtain⟨b,off,a2,c2,jE,c0,hx⟩:=HU.out.at Hd;subst jE;have hlx:=HZ.out _ (Ymm Hd);have c0:=(hH.below HS.out.below).cell c0;have HT:=Zhd (Zd6 l k Hd);generalize l[k]=x at *;have HX:=Zhd hx;clear hx;go_wp2_with fail;refine(cloneV_any H x _ HX.out (by omega) wr (hH.below HS.out.below)).mono ?_;rintro r W2 ⟨v',rfl,Jx,Hm⟩;obtain⟨a3,c3,rfl⟩:=Jx.len;have jc:=Zhd ((RwO.next (RowX.mono IsC.pm) HS.out (Kn.Step.join HS.out.isin Hm)).alloc (.cells #[.slice a3 x.length c3] 31));have HU2:=Zhd (SlV.le Jx (Zdk K wr.heap.size W2) VlC.mono);clear Jx Hm c0;generalize Zbt K wr.heap.size W2=K2 at *;go_wp2_with(at_builtin;refine Zgs 28 31 1 24 _ Tryz.underlying28 Tryz.infoIs rfl (by decide) _ _ rfl rfl w.heap.size _ _ _ rfl jc.out.row ⟨W2.heap.size,0,none⟩ 1 [.slice a3 x.length c3] rfl rfl ?c1 ?c2 ?c3 ?c4 ?c5 ?_)
  case c1=>exact Zf5 _ _ _
  case c2=>simp[Value.oneCell']
  case c3=>omega
  case c4=>omega
  case c5=>exact jc.out.size
  intro g Hh w3 ho JP hJ;have kG:=Zhd (RwO.step (n':=1) jc.out (by rw[HT.out];exact RowX.snoc IsC.pm jc.out.xs rfl ⟨_,rfl,HU2.out⟩) ho JP (by rw[World.size_alloc];exact hJ));go_wp2_with fail;go_roundw
  case rel=>exact⟨k+1,_,K2,by go_num,by omega,kG.out⟩
  simp[intOf];omega
 obtain rfl:k=l.length:=by omega
 have JC:IsX K (List.take l.length l) xs:=HS.out.xs;rw[List.take_of_length_le Ylr] at JC;obtain⟨K',He,Hk,hv,je⟩:=Zcn (R:=IsC) HS.out.isin HS.out.row HS.out.noR (RowX.at IsC.pm JC);have Jz:=Zhd (show Kn.Step (λ_=>none) w K' wr from⟨Kn.le_trans HS.out.le He,λb hb=>(je b hb).trans (HS.out.fresh b hb),Hk,HS.out.below⟩);have HV:=Zhd hv;clear hv Hk je He;go_wp2_with fail;go_ret
 first|exact⟨_,K',rfl,HV.out,Jz.out⟩|exact⟨_,rfl,K',HV.out,Jz.out⟩
theorem wrongI_is(xo:List Vl)(xa:Bool)(xc:List Bool):(∀k,xa=true->(hk:k<xc.length)->xc[k]=false->(∀j (hj:j<xc.length),j<k->xc[j]=true)->Zcp ⟨xo,xa,false,xc⟩=(k:Int))/\
  ((xa=true->∀j (hj:j<xc.length),xc[j]=true)->Zcp ⟨xo,xa,false,xc⟩ = -2):=by
 refine⟨λk ha hk he hj=>?_,λh=>?_⟩
 .unfold Zcp Zdm;rw[if_neg (by simp),if_pos ha];dsimp only;rw[show xc.findIdx? (λb => !b)=some k from List.findIdx?_eq_some_iff_getElem.2 ⟨hk,by simp[he],λj jV=>by simp[hj j (by omega) jV]⟩]
 unfold Zcp Zdm;rw[if_neg (by simp)];by_cases ha:xa=true
 .rw [if_pos ha];dsimp only;rw[List.findIdx?_eq_none_iff.2 λb hb=>by
   obtain⟨j,hj,rfl⟩:=List.mem_iff_getElem.1 hb;simp[h ha j hj]]
 rw[if_neg ha]
theorem wrongAt_any(H:Kn)(t:Tk)(ov cv:Value)(hk:TkV H t ov cv)(hl:t.checks.length<=1000000000)(w:World)(hH:H.In w):
  Calls Tryz.prog 38 #[.agg #[ov,.bool t.asrt,.bool t.trap,cv]] w λr w'=>r=.returned (.int .i64 (Zcp t))/\Ybw w w':=by
 obtain⟨a1,c1,rfl⟩:=hk.outs.len;obtain⟨a2,c2,rfl⟩:=hk.checks.len;obtain⟨xo,xa,xt,xc⟩:=t;have hC:BlsV H xc (.slice a2 xc.length c2):=hk.checks;have gH:=Zhd (show xt=true->Zcp ⟨xo,xa,xt,xc⟩ = -1 from λh=>by unfold Zcp Zdm;rw[if_pos h]);have xJ:=Zhd (show xt=false->_ from λh=>by subst h;exact wrongI_is xo xa xc);have HC:=Zhd hC;clear hk hC;dsimp only at hl ⊢;have hX:=heap_alloc_new w (.cells #[.slice a1 xo.length c1,.bool xa,.bool xt,.slice a2 xc.length c2] 110);have hb:Ybw w (w.alloc (.cells #[.slice a1 xo.length c1,.bool xa,.bool xt,.slice a2 xc.length c2] 110)):=Yba;obtain⟨k0,k1,k2,k3,_,_⟩:=Zcd hX;have HB:=Zhd hb;have HH:=Zhd (hH.below hb);clear hX hb;go_enter Tryz.func38,Tryz.ntmps38;cases xt with
 |true=>
  go_wp2_with fail;go_ret;exact⟨Zaf (gH.out (by simp)).symm,HB.out⟩
 |false=>
  obtain⟨QA,hA2⟩:=xJ.out (by simp);have HA1:=Zhd QA;have HA2:=Zhd hA2;clear gH xJ QA hA2;generalize Zcp ⟨xo,xa,false,xc⟩=wi at *;go_wp2_with fail;go_loop[3] (λi=>∃k:Nat,k<=xc.length/\i=.int .i64 k/\(xa=true->∀j (hj:j<xc.length),j<k->xc[j]=true)) (λi=>xc.length - (intOf i).toNat)
  case atStart=>exact⟨0,Nat.zero_le _,rfl,λ_ j _ h=>by omega⟩
  obtain⟨k,hk,rfl,hn⟩:=hrel;have HN:=Zhd hn;clear hn;by_cases Hr:k<xc.length
  .obtain⟨b,off,jE,_,c0⟩:=SlV.at HC.out Hr;subst jE;have c0:H.cell b (off+k * 1+0)=some (.bool xc[k]):=c0;simp only[Nat.mul_one,Nat.add_zero] at c0;have c0:=HH.out.cell c0;cases he:xc[k] with
   |true=>
    rw[he] at c0;have yP:=Zhd (show xa=true->∀j (hj:j<xc.length),j<k+1->xc[j]=true from λha j hj jV=>by
     by_cases hjk':j<k
     .exact HN.out ha j hj hjk'
     obtain rfl:j=k:=by omega
     exact he)
    clear he;go_wp2_with fail;go_round
    case rel=>exact⟨k+1,by omega,by go_num,yP.out⟩
    simp[intOf];omega
   |false=>
    rw[he] at c0;have HE:=Zhd he;clear he;cases xa with
    |true=>
     go_wp2_with fail;go_ret;exact⟨Zaf (HA1.out k (by simp) Hr HE.out (λj hj jV=>HN.out (by simp) j hj jV)).symm,HB.out⟩
    |false=>
     go_wp2_with fail;go_round
     case rel=>exact⟨k+1,by omega,by go_num,λh=>by cases h⟩
     simp[intOf];omega
  obtain rfl:k=xc.length:=by omega
  go_wp2_with fail;go_ret;exact⟨Zaf (HA2.out (λha j hj=>HN.out ha j hj hj)).symm,HB.out⟩
end Go.Proofs.YtafapnolamcdmaaGreatDoor
