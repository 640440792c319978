/- Walks: plain.Code at any error. -/
import Derived.Test.YtafapnolamcdmaaGreatDoorAyA
set_option linter.all false
namespace Go.Proofs.YtafapnolamcdmaaGreatDoor
set_option maxRecDepth 100000
set_option maxHeartbeats 16000000
open Go.RowKit Mx
theorem code_any(sp:Nat->Addr)(c:Nat)(a:Int)(v:Value)(w:World)(hv:ErrW sp w c a v)(hc:c<=9)(h0:a ≠ -1->1<=c)(S:Zkr w sp)(hE:Zbc w):
  Calls Tryz.prog 34 #[v] w λe w'=>e=.returned (.tuple #[.int .i64 c,.int .i64 a])/\Ybw w w':=by
 rcases hv with ⟨rfl,rfl⟩|⟨ha,N,rfl,hN⟩
 .cases c with
  |zero=>exact(code_nil w).mono λe w' ⟨h1,h2⟩=>⟨h1,by subst h2;exact Below.refl _ _⟩
  |succ c=>
   refine(code_sent sp c (by omega) w S hE).mono λe w' ⟨h1,h2⟩=>⟨?_,h2⟩;rw[h1];simp
 have h1:=h0 ha;have n0:w.cell? ⟨N,0,none⟩=some (.int .i64 a):=by simp[World.cell?,hN]
 have n1:w.cell? ⟨N,1,none⟩=some (esv (sp (c - 1))):=by simp[World.cell?,hN]
 refine(code_fault sp (c - 1) (by omega) N a w n0 n1 S hE).mono λe w' ⟨h1',h2⟩=>⟨?_,h2⟩;rw[h1'];have:((c - 1:Nat):Int)+1=c:=by omega
 rw[this]
theorem faulted_any(sp:Nat->Addr)(c:Nat)(a:Int)(v:Value)(w:World)(hv:ErrW sp w c a v)(hc:c<=9)(h0:a ≠ -1->1<=c)(S:Zkr w sp)(hE:Zbc w)(c' a':Int):
  Calls Tryz.prog 12 #[v,.agg #[.int .i64 c',.int .i64 a']] w λe w'=>e=.returned (.bool (decide ((c:Int)=c')&&(decide ((c:Int)=0) || decide (a=a'))))/\Ybw w w':=by
 have Hg:Ybw w (w.alloc (.cells #[.int .i64 c',.int .i64 a'] 46)):=Yba;have J4:=Zhd Hg;have HV:=Zhd (hv.below Hg);have S0:=S.below Hg;have hbig:=S.big;have HE0:=Zhd (show Zbc (w.alloc (.cells #[.int .i64 c',.int .i64 a'] 46)) from by unfold Zbc;rw[World.cell?_alloc_past _ _ _ (by omega)];exact hE);clear hv Hg S hE;go_enter Tryz.func12,Tryz.ntmps12;go_wp2_with fail;refine(code_any sp c a v _ HV.out hc h0 S0 HE0.out).mono ?_;rintro r w1 ⟨rfl,Hv⟩;have HB:=Zhd (J4.out.trans (Hv.mono (by simp)));have q0:w1.cell? ⟨w.heap.size,0,none⟩=some (.int .i64 c'):=by rw[Hv.cell (p:=⟨w.heap.size,0,none⟩) (by simp),World.cell?_alloc_new];rfl
 have q1:w1.cell? ⟨w.heap.size,1,none⟩=some (.int .i64 a'):=by rw[Hv.cell (p:=⟨w.heap.size,1,none⟩) (by simp),World.cell?_alloc_new];rfl
 clear Hv HV HE0 S0;by_cases h1:(c:Int)=c'
 .subst h1;by_cases h2:(c:Int)=0
  .go_wp2_with fail;go_ret;exact⟨Za7 (by simp[h2]),HB.out⟩
  by_cases h3:a=a'
  .go_wp2_with fail;go_ret;exact⟨Za7 (by simp[h2,h3]<;>omega),HB.out⟩
  go_wp2_with fail;go_ret;exact⟨Za7 (by simp[h2,h3]<;>omega),HB.out⟩
 go_wp2_with fail;go_ret;exact⟨Za7 (by simp[h1]),HB.out⟩
theorem checkFlat_le(p:Pr):Zak p<=9:=by
 unfold Zak
 repeat' split
 all_goals omega
theorem orderM_err{p:Pr}{x:Nat×Int}(h:Za5 p=.error x):1<=x.1/\x.1<=9:=by
 unfold Za5 at h
 split at h
 .cases h;exact⟨by show 1<=Zak p;omega,checkFlat_le p⟩
 split at h
 .cases h;exact⟨by simp,by simp⟩
 cases h
theorem checkM_le(p:Pr):(Za2 p).1<=9/\((Za2 p).2 ≠ -1->1<=(Za2 p).1):=by
 unfold Za2 Ze4;cases h:Za5 p with
 |error x=>exact⟨(orderM_err h).2,λ_=>(orderM_err h).1⟩
 |ok l=>
  dsimp only
  split
  .exact⟨by simp,λ_=>by simp⟩
  split<;>simp
theorem errT_below{w w':World}(h:Zbc w)(hb:Ybw w w'):Zbc w':=by
 unfold Zbc at h ⊢;rw[hb.cell (p:=⟨9,0,none⟩) (World.block_lt_of_cell? w _ h)];exact h
def FsX(H:Kn):List Fl->List Value->Prop
 | [],xs=>xs=[]
 |f :: l,xs=>∃a c r,xs=.string f.name :: .int .i64 f.kind :: .string f.e.op :: .int .i64 f.e.n :: .string f.e.s :: .slice a f.e.l.length c :: r/\ExsV H f.e.l (.slice a f.e.l.length c)/\FsX H l r
theorem FsX.append{H:Kn}:∀{l m:List Fl} {xs ys:List Value},FsX H l xs->FsX H m ys->FsX H (l++m) (xs++ys)
 | [],_,_,_,h,k=>by rw[show _=[] from h];exact k
 |e :: l,m,xs,ys,h,k=>by
  obtain⟨a,c,r,rfl,h1,h2⟩:=h;exact⟨a,c,r++ys,rfl,h1,h2.append k⟩
theorem FsX.le{H H':Kn}(He:H.le H'):∀{l:List Fl} {xs:List Value},FsX H l xs->FsX H' l xs
 | [],_,h=>h
 |_e :: _l,_xs,⟨a,c,r,h0,h1,h2⟩=>⟨a,c,r,h0,h1.le He,h2.le He⟩
theorem FsX.flc{K K':Kn}(He:K.le K'):∀{l:List Fl} {xs:List Value},FsX K l xs->∀i (hi:i<l.length) (f:Nat->Option Value),(∀j u,xs[i * 6+j]?=some u->f j=some u)->FlC K' l[i] f
 | [],_,_,i,hi,_,_=>by simp at hi
 |e :: l,xs,h,0,_,f,hf=>by
  obtain⟨a,c,r,rfl,h1,h2⟩:=h;exact⟨hf 0 _ rfl,hf 1 _ rfl,ExAt.mk (hf 2 _ rfl) (hf 3 _ rfl) (hf 4 _ rfl) (hf 5 _ rfl) (h1.le He)⟩
 |e :: l,xs,h,i+1,hi,f,hf=>by
  obtain⟨a,c,r,rfl,h1,h2⟩:=h;simp only[List.getElem_cons_succ];refine FsX.flc He h2 i (by simpa using hi) f λj u hj=>hf j u ?_;rw[show(i+1) * 6+j=(i * 6+j)+6 from by omega];simpa using hj
theorem Zbm{W:World}{b:Nat}{x y z u v:Value}{t:TypeId}(h:W.heap[b]?=some (.cells #[x,y,z,u,v] t (0,0))):
  (W.cell? ⟨b,0,none⟩=some x/\W.cell? ⟨b,1,none⟩=some y/\W.cell? ⟨b,2,none⟩=some z/\W.cell? ⟨b,3,none⟩=some u/\W.cell? ⟨b,4,none⟩=some v)/\
   W.frozen? ⟨b,0,none⟩=false/\W.frozen? ⟨b,1,none⟩=false/\W.frozen? ⟨b,2,none⟩=false/\W.frozen? ⟨b,3,none⟩=false/\W.frozen? ⟨b,4,none⟩=false:=by
 refine⟨⟨?_,?_,?_,?_,?_⟩,?_,?_,?_,?_,?_⟩<;>simp[World.cell?,World.frozen?,h]
theorem set5_of{W:World}{b:Nat}{x0 x1 x2 x3 x4:Value}{t:TypeId}(h:W.heap[b]?=some (.cells #[x0,x1,x2,x3,x4] t (0,0)))(y0 y1 y2 y3 y4:Value):
  (((((W.setCell ⟨b,0,none⟩ y0).setCell ⟨b,1,none⟩ y1).setCell ⟨b,2,none⟩ y2).setCell ⟨b,3,none⟩ y3).setCell ⟨b,4,none⟩ y4).heap[b]?=some (.cells #[y0,y1,y2,y3,y4] t (0,0)):=by
 have h1:=Zaa W b 0 y0 _ _ _ h;have h2:=Zaa _ b 1 y1 _ _ _ h1;have h3:=Zaa _ b 2 y2 _ _ _ h2;have h4:=Zaa _ b 3 y3 _ _ _ h3;have h5:=Zaa _ b 4 y4 _ _ _ h4;simpa using h5
theorem in5{K:Kn}{W:World}{b:Nat}(h:K.In W)(hb:K b=none)(y0 y1 y2 y3 y4:Value):K.In (((((W.setCell ⟨b,0,none⟩ y0).setCell ⟨b,1,none⟩ y1).setCell ⟨b,2,none⟩ y2).setCell ⟨b,3,none⟩ y3).setCell ⟨b,4,none⟩ y4):=
 ((((h.setCell (a:=⟨b,0,none⟩) hb _).setCell (a:=⟨b,1,none⟩) hb _).setCell (a:=⟨b,2,none⟩) hb _).setCell (a:=⟨b,3,none⟩) hb _).setCell (a:=⟨b,4,none⟩) hb _
theorem below5{n:Nat}{w W:World}{b:Nat}(h:Below n w W)(hb:n<=b)(y0 y1 y2 y3 y4:Value):Below n w (((((W.setCell ⟨b,0,none⟩ y0).setCell ⟨b,1,none⟩ y1).setCell ⟨b,2,none⟩ y2).setCell ⟨b,3,none⟩ y3).setCell ⟨b,4,none⟩ y4):=
 ((((h.setCell (p:=⟨b,0,none⟩) hb _).setCell (p:=⟨b,1,none⟩) hb _).setCell (p:=⟨b,2,none⟩) hb _).setCell (p:=⟨b,3,none⟩) hb _).setCell (p:=⟨b,4,none⟩) hb _
theorem heap5_far{W:World}{b c:Nat}(h:c≠b)(y0 y1 y2 y3 y4:Value):(((((W.setCell ⟨b,0,none⟩ y0).setCell ⟨b,1,none⟩ y1).setCell ⟨b,2,none⟩ y2).setCell ⟨b,3,none⟩ y3).setCell ⟨b,4,none⟩ y4).heap[c]?=W.heap[c]?:=by
 rw[Below.heap_setCell _ _ _ _ h,Below.heap_setCell _ _ _ _ h,Below.heap_setCell _ _ _ _ h,Below.heap_setCell _ _ _ _ h,Below.heap_setCell _ _ _ _ h]
structure FoO(T F:TypeId)(H:Kn)(w:World)(R B:Nat)(wr:World)(v1 uo u v2 v3:Value)(p:Pr)(os:List ByteArray)(done:Nat)(xs:List Value)(K:Kn):Prop where
 step:Kn.Step H w K wr
 noB:K B=none
 noR:K R=none
 hB:w.heap.size<=B
 hR:w.heap.size<=R
 ne:R≠B
 box:wr.heap[B]?=some (.cells #[v1,uo,u,v2,v3] T (0,0))
 res:wr.heap[R]?=some (.cells Yn5 T (0,0))
 ins:VrsV K p.ins v1
 asr:ExsV K p.as v2
 chk:ExsV K p.cs v3
 outs:StrsV K os uo
 row:wr.ownsRow w.heap.size F 6 u done xs
 noU:∀g,u.ownBlock=some g->K g=none
 xs:FsX K (p.fl.take done) xs
section
variable {T F : TypeId} {H K : Kn} {w wr : World} {R B : Nat} {v1 uo u v2 v3 : Value} {p : Pr} {os : List ByteArray} {done : Nat} {xs : List Value}
theorem FoO.blt(h:FoO T F H w R B wr v1 uo u v2 v3 p os done xs K):B<wr.heap.size:=(Zlt h.box)
theorem FoO.rlt(h:FoO T F H w R B wr v1 uo u v2 v3 p os done xs K):R<wr.heap.size:=(Zlt h.res)
theorem FoO.c2(h:FoO T F H w R B wr v1 uo u v2 v3 p os done xs K):wr.cell? ⟨B,2,none⟩=some u:=(Zbm h.box).1.2.2.1
theorem FoO.next{wc:World}{K2:Kn}(h:FoO T F H w R B wr v1 uo u v2 v3 p os done xs K)(hs:Kn.Step K wr K2 wc):FoO T F H w R B wc v1 uo u v2 v3 p os done xs K2:=
 ⟨h.step.trans hs,(hs.fresh B h.blt).trans h.noB,(hs.fresh R h.rlt).trans h.noR,h.hB,h.hR,h.ne,(hs.below.block B h.blt).trans h.box,(hs.below.block R h.rlt).trans h.res,h.ins.le hs.le VrC.mono,h.asr.le hs.le,h.chk.le hs.le,h.outs.le hs.le StrC.mono,
  Za1 h.row hs.below,λg hg=>(hs.fresh g (h.row.lt g hg).2).trans (h.noU g hg),h.xs.le hs.le⟩
theorem FoO.later{wc:World}(h:FoO T F H w R B wr v1 uo u v2 v3 p os done xs K)(hb:Ybw wr wc):FoO T F H w R B wc v1 uo u v2 v3 p os done xs K:=h.next (Kn.Step.of_below h.step.isin hb)
theorem FoO.alloc(h:FoO T F H w R B wr v1 uo u v2 v3 p os done xs K)(o:Obj):FoO T F H w R B (wr.alloc o) v1 uo u v2 v3 p os done xs K:=h.later ((Below.refl _ _).alloc Ylr o)
theorem FoO.drew(h:FoO T F H w R B wr v1 uo u v2 v3 p os done xs K):FoO T F H w R B wr.drew v1 uo u v2 v3 p os done xs K:=h.later ((Below.refl _ _).drew)
theorem FoO.more{wc w3:World}{gg Hh:Nat}(h:FoO T F H w R B wc v1 uo u v2 v3 p os done xs K)(Hs:T≠F)(hd:done<p.fl.length){x:Fl}(hx:p.fl[done]=x){a:Option Addr}{c:Nat}(hp:ExsV K x.e.l (.slice a x.e.l.length c))
  (Hb:w3.ownsRow w.heap.size F 6 (.slice (some ⟨gg,0,none⟩) (done+1) Hh) (done+1) (xs++[.string x.name,.int .i64 x.kind,.string x.e.op,.int .i64 x.e.n,.string x.e.s,.slice a x.e.l.length c])) (hg:wc.grownBy w3 u.ownBlock) (hJ:u.ownBlock=some gg\/gg=wc.heap.size):
  w3.cell? ⟨B,2,none⟩=some u/\w3.frozen? ⟨B,2,none⟩=false/\K.In w3/\FoO T F H w R B (w3.setCell ⟨B,2,none⟩ (.slice (some ⟨gg,0,none⟩) (done+1) Hh)) v1 uo (.slice (some ⟨gg,0,none⟩) (done+1) Hh) v2 v3 p os (done+1) (xs++[.string x.name,.int .i64 x.kind,.string x.e.op,.int .i64 x.e.n,.string x.e.s,.slice a x.e.l.length c]) K:=by
 subst hx;have hnB:some B≠u.ownBlock:=λe=>Zew h.row h.box Hs e.symm;have hnR:some R≠u.ownBlock:=λe=>Zew h.row h.res Hs e.symm;have Hu:w3.heap[B]?=_:=(hg.block B h.blt hnB).trans h.box;have hrx:w3.heap[R]?=_:=(hg.block R h.rlt hnR).trans h.res;have Hk:=(h.step.isin.grown hg h.noU);have hggB:gg≠B:=λe=>Zew Hb Hu Hs (by rw[e];rfl);refine⟨(Zbm Hu).1.2.2.1,(Zbm Hu).2.2.2.1,Hk,⟨h.step.le,h.step.fresh,Hk.setCell (a:=⟨B,2,none⟩) h.noB _,?_⟩,h.noB,h.noR,h.hB,h.hR,h.ne,?_,?_,h.ins,h.asr,h.chk,h.outs,Zam Hb (a:=⟨B,2,none⟩) (λe=>hggB (by simpa[Value.ownBlock] using e)) _,λg JH=>?_,?_⟩
 .exact (h.step.below.grown hg h.step.below.size (λg JH=>(h.row.lt g JH).1)).setCell h.hB _
 .rw [Zaa _ _ _ _ _ _ _ Hu];rfl
 .rw [Below.heap_setCell _ _ _ _ h.ne];exact hrx
 .have hgg':gg=g:=by simpa[Value.ownBlock] using JH
  subst hgg';rcases hJ with h1|h1
  .exact h.noU gg h1
  rw[h1];exact h.step.isin.isNone Ylr
 rw[Zd6 _ _ hd];exact h.xs.append ⟨a,c,[],rfl,hp,rfl⟩
theorem FoO.set1{os':List ByteArray}{v':Value}(h:FoO T F H w R B wr v1 uo u v2 v3 p os done xs K)(Hs:T≠F)(hv:StrsV K os' v'):FoO T F H w R B (wr.setCell ⟨B,1,none⟩ v') v1 v' u v2 v3 p os' done xs K:=by
 refine⟨⟨h.step.le,h.step.fresh,h.step.isin.setCell (a:=⟨B,1,none⟩) h.noB _,h.step.below.setCell h.hB _⟩,h.noB,h.noR,h.hB,h.hR,h.ne,?_,?_,h.ins,h.asr,h.chk,hv,Zam h.row (a:=⟨B,1,none⟩) (Zew h.row h.box Hs) _,h.noU,h.xs⟩
 .rw [Zaa _ _ _ _ _ _ _ h.box];rfl
 rw[Below.heap_setCell _ _ _ _ h.ne];exact h.res
end
theorem foo_start{T F:TypeId}{H H1 K:Kn}{w W1 Wc:World}{R B:Nat}{v1 v2 v3:Value}{p:Pr}(h0:Kn.Step H w H1 W1)(h:Kn.Step H1 W1 K Wc)(Hu:Wc.heap[B]?=some (.cells Yn5 T (0,0)))
  (qo:K B=none) (hB:W1.heap.size<=B) (Jb:W1.heap[R]?=some (.cells Yn5 T (0,0))) (hHR:H1 R=none) (hR:w.heap.size<=R)
  (h1:VrsV K p.ins v1) (h2:ExsV K p.as v2) (h3:ExsV K p.cs v3):
  FoO T F H w R B (((((Wc.setCell ⟨B,0,none⟩ v1).setCell ⟨B,1,none⟩ (Ys0)).setCell ⟨B,2,none⟩ (Ys0)).setCell ⟨B,3,none⟩ v2).setCell ⟨B,4,none⟩ v3) v1 (Ys0) (Ys0) v2 v3 p [] 0 [] K:=by
 have vU:R<W1.heap.size:=(Zlt Jb);have hBw:w.heap.size<=B:=Nat.le_trans h0.below.size hB;have Hs:R≠B:=by omega
 have hs:=h0.trans h;exact⟨⟨hs.le,hs.fresh,in5 hs.isin qo _ _ _ _ _,below5 hs.below hBw _ _ _ _ _⟩,qo,(h.fresh R vU).trans hHR,hBw,hR,Hs,set5_of Hu _ _ _ _ _,(heap5_far Hs _ _ _ _ _).trans ((h.below.block R vU).trans Jb),h1,h2,h3,.inl ⟨rfl,none,0,rfl⟩,World.ownsRow_nil _ _ _ _,λg hg=>by simp[Value.ownBlock] at hg,rfl⟩
theorem Zgy{H K:Kn}{w wr:World}(h:Kn.Step H w K wr)(o:Obj):Kn.Step H w K (wr.alloc o):=h.trans (Kn.Step.of_below h.isin ((Below.refl _ _).alloc Ylr o))
theorem StrsV.strs{H:Kn}{l:List ByteArray}{v:Value}(h:StrsV H l v)(Hs:l≠[]):∃b off Ha,v=.slice (some ⟨b,off,none⟩) l.length Ha/\∀j u,(l.map Value.string)[j]?=some u->H.cell b (off+j)=some u:=by
 rcases h with ⟨h,_⟩|⟨b,off,Ha,h1,h2,h3,h4⟩
 .exact absurd h Hs
 refine⟨b,off,Ha,h1,λj u hu=>?_⟩;rw[List.getElem?_map] at hu;obtain⟨s,hs,rfl⟩:=Option.map_eq_some_iff.1 hu;obtain⟨hj,rfl⟩:=List.getElem?_eq_some_iff.1 hs;have:=h4 j hj;rw[Nat.mul_one] at this;exact this
theorem slv_of_own2{α:Type}{k:Nat}{R:Kn->α->(Nat->Option Value)->Prop}{K:Kn}{w:World}{base:Nat}{t:TypeId}{v:Value}{l:List α}{xs:List Value}(hK:K.In w)(h:w.ownsRow base t k v l.length xs)(hr:∀g,v.ownBlock=some g->K g=none)
  (hR:∀K',Kn.le K K'->∀i (hi:i<l.length),∀f:Nat->Option Value,(∀j u,xs[i * k+j]?=some u->f j=some u)->R K' l[i] f):
  ∃K',K.le K'/\K'.In w/\SlV K' k (R K') l v/\∀b,v.ownBlock≠some b->K' b=K b:=by
 by_cases h0:l=[]
 .obtain⟨a,c,h1,_⟩:=Zar h;exact⟨K,Kn.le_refl K,hK,.inl ⟨h0,a,c,by rw[h1,h0];rfl⟩,λ_ _=>rfl⟩
 obtain⟨g,Ha,h1,h2,h3,hb,Hr,h4⟩:=Zbr h (List.length_pos_iff.2 h0);have hg:K g=none:=hr g (by rw[h1];rfl);have ho:w.heap[g]?=some w.heap[g]:=Array.getElem?_eq_getElem Hr;refine⟨K.add g w.heap[g],Kn.le_add hg,hK.add ho,.inr ⟨g,0,Ha,h1,h2,h3,λi hi=>hR _ (Kn.le_add hg) i hi _ λj u hj=>?_⟩,λb zK=>Kn.add_other K _ (λe=>zK (by rw[h1,e];rfl))⟩;have h5:=h4 _ u hj;unfold Kn.cell;rw[Kn.add_self,Nat.zero_add];simp only[World.cell?,ho] at h5;cases hc:w.heap[g]<;>simp_all
theorem run_append_strs{K:Kn}{W:World}(hK:K.In W){l:List ByteArray}{a:Option Addr}{c:Nat}(h:StrsV K l (.slice a l.length c))(hl:l.length<=1000000000):
  ∃v' W' K',(∀ty,(Builtin.append_ #[23,23] ty #[Ys0,.slice a l.length c]).run Tryz.prog W=.ok v' W')/\Kn.Step K W K' W'/\StrsV K' l v':=by
 obtain⟨i1,qx,vp,zo,zU⟩:=info_parts Tryz.infoStr1;by_cases h0:l=[]
 .subst h0;exact⟨Ys0,W,K,λty=>Zbn 23 9 i1 Tryz.underlying23 qx (World.ownsRow_nil W W.heap.size 9 1) a c ty,Kn.Step.refl hK,.inl ⟨rfl,none,0,rfl⟩⟩
 obtain⟨b,off,Ha,he,JJ⟩:=h.strs h0;cases he;have Ho:0<l.length:=List.length_pos_iff.2 h0;have qX:∀j u,(l.map Value.string)[j]?=some u->W.cell? ((⟨b,off,none⟩:Addr).add j)=some u:=λj u hu=>by rw[Zc6];exact hK.cell (JJ j u hu)
 have Ht:=λty=>run_append_lies (P:=Tryz.prog) W 23 ty W.heap.size 9 i1 _ 1 16 Tryz.underlying23 qx vp zo zU rfl (by omega) (Ys0) 0 [] (World.ownsRow_nil W W.heap.size 9 1) ⟨b,off,none⟩ l.length c (l.map Value.string) (by simp) qX (by intro u hu;obtain⟨s,_,rfl⟩:=List.mem_map.1 hu;rfl) Ho (by unfold maxLen;omega) (by omega) Ylr W.heap.size rfl;obtain⟨g,Hh,W',h1,h2,h3,h4,h5⟩:=Ht 0;have hb:Ybw W W':=⟨h3.os,h3.tape,h3.output,h3.size,λk hk=>h3.block k hk (by simp[Value.ownBlock])⟩;have JH:g=W.heap.size:=by
   rcases h4 with h4|h4
   .simp [Value.ownBlock] at h4
   .exact h4
 have Hb:W'.ownsRow W.heap.size 9 1 (.slice (some ⟨g,0,none⟩) (0+l.length) Hh) l.length (l.map Value.string):=by simpa using h2
 have Hk:=hK.below hb;obtain⟨K',k1,k2,k3,k4⟩:=Zcn (R:=λ_=>StrC) Hk Hb (λq hq=>by
  have:g=q:=by simpa[Value.ownBlock] using hq
  rw[<- this,JH];exact hK.isNone Ylr) (λK' _=>SsX.at (K:=K') (K':=K') (show SsX K' l (l.map Value.string) from rfl))
 refine⟨_,W',K',λty=>?_,⟨k1,k4,k2,hb⟩,k3⟩;obtain⟨g2,zl,W2,e1,e2,e3,e4,e5⟩:=Ht ty;have kJ:(Builtin.append_ #[23,23] ty #[Ys0,.slice (some ⟨b,off,none⟩) l.length c]).run Tryz.prog W=(Builtin.append_ #[23,23] 0 #[Ys0,.slice (some ⟨b,off,none⟩) l.length c]).run Tryz.prog W:=rfl;rw[kJ];exact h1
theorem mHof5{p:Prop}(h:p:=by
 clear hK K_
 try simp only[tkS]
 refine Zwo 5 rfl λK_ hK=>?_;go_simp;go_at_call 29;refine(Zfz p.as _ K1 (G4.out.le hS.le) (by omega) _ hS.isin).mono ?_;rintro r Qn ⟨v2,K2,rfl,Jx,Hy⟩;obtain⟨x2,y2,rfl⟩:=Jx.len;have qo:K2 B=none:=(Hy.fresh B Hr).trans qo;have Hu:=(Hy.below.block B Hr).trans Hu;have Hr:B<Qn.heap.size:=Nat.lt_of_lt_of_le Hr Hy.below.size;have qv:=qv.le Hy.le VrC.mono;have hS:=hS.trans Hy;have Hq:K0.In Qn:=λb o e=>hS.isin b o (hS.le b o e);refine hK.out _ _ Hq Ztr ?_;clear Hy;exact mHof4):p:=h
theorem mHof4{p:Prop}(h:p:=by
 clear hK K_
 try simp only[tkS]
 refine Zwo 8 rfl λK_ hK=>?_;go_simp;go_at_call 29;refine(Zfz p.cs _ K2 (G5.out.le hS.le) (by omega) _ hS.isin).mono ?_;rintro r Qm ⟨v3,K3,rfl,vr,Hy⟩;obtain⟨x3,y3,rfl⟩:=vr.len;have qo:K3 B=none:=(Hy.fresh B Hr).trans qo;have Hu:=(Hy.below.block B Hr).trans Hu;have Hr:B<Qm.heap.size:=Nat.lt_of_lt_of_le Hr Hy.below.size;have qv:=qv.le Hy.le VrC.mono;have Jx:=Jx.le Hy.le;have hS:=hS.trans Hy;have Hq:K0.In Qm:=λb o e=>hS.isin b o (hS.le b o e);refine hK.out _ _ Hq Ztr ?_;clear Hy;clear hK K_
 try simp only[tkS]
 refine tk2 (i:=9) (v:=?_) rfl Hq Ztr ?hy ?_
 case hy=>exact mHof3
 try simp only[Act.put,List.setIfInBounds_toArray]
 obtain⟨⟨z0,z1,z2,z3,z4⟩,f0,f1,f2,f3,f4⟩:=Zbm Hu;refine Zwo 11 rfl λK_ hK=>?_;go_simp;refine hK.out _ _ (λb o e=>in5 hS.isin qo _ _ _ _ _ b o (hS.le b o e)) Ztr ?_;clear hK K_
 try simp only[tkS]
 have hF:=foo_start (F:=96) Jz.out hS Hu qo yw qp.out HHR.out (Nat.le_succ _) qv Jx vr;exact Zhv (by kernel_rfl) ⟨_,_,_,_,_,_,_,_,rfl,hS.le,hF⟩ _):p:=h
theorem mHof3{p:Prop}(h:p:=by
 intro w Hi;first|(go_simp;done)|(go_simp;with_reducible rfl)):p:=h
theorem mHof2{p:Prop}(h:p:=by
 intro w Hi;have z0:=Hi.cell k0;have z1:=Hi.cell k3;have z2:=Hi.cell k4;first|(go_simp;done)|(go_simp;with_reducible rfl)):p:=h
theorem Ze3{p:Prop}(h:p:=by
 intro w Hi;have z0:=Hi.cell hl3;have z1:=Hi.cell d0;have z2:=Hi.cell d1;have z3:=Hi.cell d2;have z4:=Hi.cell d3;have z5:=Hi.cell d4;have z6:=Hi.cell d5;first|(go_simp;done)|(go_simp;with_reducible rfl)):p:=h
theorem Ze2:∀(a b:List Ex),Ex.partsL (a++b)=Ex.partsL a+Ex.partsL b
 | [],b=>by simp[Ex.partsL]
 |x :: a,b=>by simp only[List.cons_append,Ex.partsL,Ze2 a b];omega
theorem flatOf_any(p:Pr)(vi vo vl va vc:Value)(H:Kn)(hp:PrP H p vi vo vl va vc)(J5:p.ins.length<=1000000000/\p.outs.length<=1000000000/\p.fl.length<=1000000000/\Ex.partsL p.terms<=1000000000)(w:World)(hH:H.In w):
  Calls Tryz.prog 7 #[.agg #[vi,vo,vl,va,vc]] w λr w'=>∃vi' vo' vl' va' vc' K,r=.returned (.agg #[vi',vo',vl',va',vc'])/\PrP K p vi' vo' vl' va' vc'/\Kn.Step H w K w':=by
 obtain⟨h1,h2,h3,h4,h5⟩:=hp;obtain⟨ai,ci,ao,co,al,cl,aa,ca,ac,cc,rfl,rfl,rfl,rfl,rfl⟩:=Ypo h1.len h2.len h3.len h4.len h5.len;obtain⟨s1,s2,s3,s4⟩:=J5;have kZ:Ex.partsL (p.fl.map (·.e))<=1000000000/\Ex.partsL p.as<=1000000000/\Ex.partsL p.cs<=1000000000:=by
  unfold Pr.terms at s4;rw[Ze2,Ze2] at s4;omega
 obtain⟨t1,t2,t3⟩:=kZ;obtain⟨i0,JI,Jt,J6,Ju⟩:=info_parts Tryz.infoFlow;obtain⟨i1,qx,vp,zo,zU⟩:=info_parts Tryz.infoStr1;have H1:=Zhd h1;have H2:=Zhd h2;have H3:=Zhd h3;have H4:=Zhd h4;have H5:=Zhd h5;clear h1 h2 h3 h4 h5 s4;go_enter Tryz.func7,Tryz.ntmps7;go_wp2_with fail;have kT:((w.alloc (.cells (Yq5 p ai ao al aa ac ci co cl ca cc) 27)).alloc (.cells Yn5 42)).heap[w.heap.size]?=some (.cells (Yq5 p ai ao al aa ac ci co cl ca cc) 27 (0,0)):=by
  rw[Below.heap_alloc _ _ _ (by simp)];exact heap_alloc_new _ _
 have Jr:((w.alloc (.cells (Yq5 p ai ao al aa ac ci co cl ca cc) 27)).alloc (.cells Yn5 42)).heap[w.heap.size+1]?=some (.cells Yn5 42 (0,0)):=by
  rw[show w.heap.size+1=(w.alloc (.cells (Yq5 p ai ao al aa ac ci co cl ca cc) 27)).heap.size from by simp];exact heap_alloc_new _ _
 have Hg:Ybw w ((w.alloc (.cells (Yq5 p ai ao al aa ac ci co cl ca cc) 27)).alloc (.cells Yn5 42)):=
  Yba.alloc (by simp) _
 generalize (w.alloc (.cells (Yq5 p ai ao al aa ac ci co cl ca cc) 27)).alloc (.cells Yn5 42)=W1 at *;obtain⟨K0,kW⟩:∃K,K=H.add w.heap.size (.cells (Yq5 p ai ao al aa ac ci co cl ca cc) 27 (0,0)):=⟨_,rfl⟩;have qz:Kn.Step H w K0 W1:=⟨by rw[kW];exact Kn.le_add (hH.isNone Ylr),λb hb=>by rw[kW,Kn.add_other _ _ (by omega)],by rw[kW];exact(hH.below Hg).add kT,Hg⟩;have hHR:K0 (w.heap.size+1)=none:=by rw[kW,Kn.add_other _ _ (by omega)];exact hH.isNone (by omega)
 have hc:∀i,K0.cell w.heap.size i=((Yq5 p ai ao al aa ac ci co cl ca cc):Array Value)[i]?:=λi=>by unfold Kn.cell;rw[kW,Kn.add_self]
 have k0:K0.cell w.heap.size 0=some (.slice ai p.ins.length ci):=hc 0;have k1:K0.cell w.heap.size 1=some (.slice ao p.outs.length co):=hc 1;have k2:K0.cell w.heap.size 2=some (.slice al p.fl.length cl):=hc 2;have k3:K0.cell w.heap.size 3=some (.slice aa p.as.length ca):=hc 3;have k4:K0.cell w.heap.size 4=some (.slice ac p.cs.length cc):=hc 4;have G1:=Zhd (H1.out.le qz.le VrC.mono);have G2:=Zhd (H2.out.le qz.le StrC.mono);have G3:=Zhd (H3.out.le qz.le (FlC.mono qz.le));have G4:=Zhd (H4.out.le qz.le);have G5:=Zhd (H5.out.le qz.le);have hs:=Kn.Step.of_below qz.isin ((Below.refl W1.heap.size W1).drew);have Jz:=Zhd qz;have qp:=Zhd Jr;have HHR:=Zhd hHR;have hwlt:w.heap.size<=W1.heap.size:=Hg.size;clear hc kW kT Hg Jr hHR H1 H2 H3 H4 H5
 refine Code.wp_mono (Q:=λe a' w'=>match e with|.normal=>∃(B:Nat) (x1:Option Addr) (y1:Nat) (x2:Option Addr) (y2:Nat) (x3:Option Addr) (y3:Nat) (K3:Kn),a'={ tmps := #[.agg (Yq5 p ai ao al aa ac ci co cl ca cc),.pointer (some ⟨w.heap.size,0,none⟩),.pointer (some ⟨w.heap.size+1,0,none⟩),.pointer (some ⟨B,0,none⟩),undef,.pointer (some ⟨w.heap.size,0,none⟩),.slice ai p.ins.length ci,.slice x1 p.ins.length y1,.pointer (some ⟨w.heap.size,3,none⟩),.slice aa p.as.length ca,.slice x2 p.as.length y2,.pointer (some ⟨w.heap.size,4,none⟩),.slice ac p.cs.length cc,.slice x3 p.cs.length y3,.agg #[.slice x1 p.ins.length y1,Ys0,Ys0,.slice x2 p.as.length y2,.slice x3 p.cs.length y3],undef,undef,undef,undef,undef,undef,undef,undef,undef,undef,undef,undef,undef,undef,undef,undef,undef,undef,undef,undef,undef,undef,undef,undef,undef,undef,undef,undef,undef,undef,undef,undef,undef,undef,undef,undef,undef,undef,undef],defers:=[] }/\K0.le K3/\FoO 42 96 H w (w.heap.size+1) B w' (.slice x1 p.ins.length y1) (Ys0) (Ys0) (.slice x2 p.as.length y2) (.slice x3 p.cs.length y3) p [] 0 [] K3|_=>False) ?rest ?reg
 case' reg=>
  have Hq:K0.In W1.drew:=hs.isin;have Jv:∀{q:Prop},q->True:=λ_=>trivial;refine Zae (λw'=>K0.In w') (λ_=>True) 11 (by kernel_rfl) ?_;generalize W1.drew=Wd at hs Hq ⊢;refine tk2 (i:=0) (v:=?_) rfl Hq Ztr ?hy ?_
  case hy=>exact mHof2
  try simp only[Act.put,List.setIfInBounds_toArray]
  refine tk2 (i:=3) (v:=?_) rfl Hq Ztr ?hy ?_
  case hy=>exact mHof2
  try simp only[Act.put]
  refine tk2 (i:=6) (v:=?_) rfl Hq Ztr ?hy ?_
  case hy=>exact mHof2
  try simp only[Act.put]
  refine tk2 (i:=1) (v:=?_) rfl Hq Ztr ?hy ?_
  case hy=>exact mHof2
  try simp only[Act.put]
  refine tk2 (i:=4) (v:=?_) rfl Hq Ztr ?hy ?_
  case hy=>exact mHof2
  try simp only[Act.put]
  refine tk2 (i:=7) (v:=?_) rfl Hq Ztr ?hy ?_
  case hy=>exact mHof2
  try simp only[Act.put]
  have hS:=hs;refine Zcj (i:=2) (j:=10) (o:=_) (o':=_) (by kernel_rfl) rfl rfl (λK_ hK=>?g0) (λK_ hK=>?g1)
  case' g0=>
   go_simp;go_at_call 28;refine(varsOf_any p.ins _ K0 (G1.out.le hS.le VrC.mono) (by omega) _ hS.isin).mono ?_;rintro r Qo ⟨v1,K1,rfl,qv,Hy⟩;obtain⟨x1,y1,rfl⟩:=qv.len;have hS:=hS.trans Hy;have Hq:K0.In Qo:=λb o e=>hS.isin b o (hS.le b o e);refine hK.out _ _ Hq Ztr ?_;clear Hy;clear hK K_
   try simp only[tkS]
   refine Zcj (i:=5) (j:=10) (o:=_) (o':=_) (by kernel_rfl) rfl rfl (λK_ hK=>?g2) (λK_ hK=>?g3)
   case' g2=>
    go_simp;go_at_call 29;refine(Zfz p.as _ K1 (G4.out.le hS.le) (by omega) _ hS.isin).mono ?_;rintro r Qn ⟨v2,K2,rfl,Jx,Hy⟩;obtain⟨x2,y2,rfl⟩:=Jx.len;have qv:=qv.le Hy.le VrC.mono;have hS:=hS.trans Hy;have Hq:K0.In Qn:=λb o e=>hS.isin b o (hS.le b o e);refine hK.out _ _ Hq Ztr ?_;clear Hy;clear hK K_
    try simp only[tkS]
    refine Zcj (i:=8) (j:=10) (o:=_) (o':=_) (by kernel_rfl) rfl rfl (λK_ hK=>?g4) (λK_ hK=>?g5)
    case' g4=>
     go_simp;go_at_call 29;refine(Zfz p.cs _ K2 (G5.out.le hS.le) (by omega) _ hS.isin).mono ?_;rintro r Qm ⟨v3,K3,rfl,vr,Hy⟩;obtain⟨x3,y3,rfl⟩:=vr.len;have qv:=qv.le Hy.le VrC.mono;have Jx:=Jx.le Hy.le;have hS:=hS.trans Hy;have Hq:K0.In Qm:=λb o e=>hS.isin b o (hS.le b o e);refine hK.out _ _ Hq Ztr ?_;clear Hy;clear hK K_
     try simp only[tkS]
     refine tk2 (i:=9) (v:=?_) rfl Hq Ztr ?hy ?_
     case hy=>exact mHof3
     try simp only[Act.put,List.setIfInBounds_toArray]
     refine Zwo 10 rfl λK_ hK=>?_;go_simp;refine hK.out _ _ (Hq.alloc _) Ztr ?_;have qo:K3 Qm.heap.size=none:=hS.isin.isNone Ylr;have yw:W1.heap.size<=Qm.heap.size:=hS.below.size;have hS:=Zgy hS (.cells Yn5 42);have Hq:=Hq.alloc (.cells Yn5 42);have Hu:(Qm.alloc (.cells Yn5 42)).heap[Qm.heap.size]?=some (.cells Yn5 42 (0,0)):=heap_alloc_new _ _;have Hr:Qm.heap.size<(Qm.alloc (.cells Yn5 42)).heap.size:=by simp
     generalize World.alloc Qm (.cells Yn5 42)=WA at hS Hq Hu Hr ⊢;generalize hBB:Qm.heap.size=B at qo yw Hu Hr ⊢;clear hK K_
     try simp only[tkS]
     obtain⟨⟨z0,z1,z2,z3,z4⟩,f0,f1,f2,f3,f4⟩:=Zbm Hu;refine Zwo 11 rfl λK_ hK=>?_;go_simp;refine hK.out _ _ (λb o e=>in5 hS.isin qo _ _ _ _ _ b o (hS.le b o e)) Ztr ?_;clear hK K_
     try simp only[tkS]
     have hF:=foo_start (F:=96) Jz.out hS Hu qo yw qp.out HHR.out (Nat.le_succ _) qv Jx vr;exact Zhv (by kernel_rfl) ⟨_,_,_,_,_,_,_,_,rfl,hS.le,hF⟩ _
    case' g5=>
     go_simp;refine hK.out _ _ (Hq.alloc _) Ztr ?_;have qo:K2 Qn.heap.size=none:=hS.isin.isNone Ylr;have yw:W1.heap.size<=Qn.heap.size:=hS.below.size;have hS:=Zgy hS (.cells Yn5 42);have Hq:=Hq.alloc (.cells Yn5 42);have Hu:(Qn.alloc (.cells Yn5 42)).heap[Qn.heap.size]?=some (.cells Yn5 42 (0,0)):=heap_alloc_new _ _;have Hr:Qn.heap.size<(Qn.alloc (.cells Yn5 42)).heap.size:=by simp
     generalize World.alloc Qn (.cells Yn5 42)=WA at hS Hq Hu Hr ⊢;generalize hBB:Qn.heap.size=B at qo yw Hu Hr ⊢;exact mHof4
   case' g3=>
    go_simp;refine hK.out _ _ (Hq.alloc _) Ztr ?_;have qo:K1 Qo.heap.size=none:=hS.isin.isNone Ylr;have yw:W1.heap.size<=Qo.heap.size:=hS.below.size;have hS:=Zgy hS (.cells Yn5 42);have Hq:=Hq.alloc (.cells Yn5 42);have Hu:(Qo.alloc (.cells Yn5 42)).heap[Qo.heap.size]?=some (.cells Yn5 42 (0,0)):=heap_alloc_new _ _;have Hr:Qo.heap.size<(Qo.alloc (.cells Yn5 42)).heap.size:=by simp
    generalize World.alloc Qo (.cells Yn5 42)=WA at hS Hq Hu Hr ⊢;generalize hBB:Qo.heap.size=B at qo yw Hu Hr ⊢;exact mHof5
  case' g1=>
   go_simp;refine hK.out _ _ (Hq.alloc _) Ztr ?_;have qo:K0 Wd.heap.size=none:=hS.isin.isNone Ylr;have yw:W1.heap.size<=Wd.heap.size:=hS.below.size;have hS:=Zgy hS (.cells Yn5 42);have Hq:=Hq.alloc (.cells Yn5 42);have Hu:(Wd.alloc (.cells Yn5 42)).heap[Wd.heap.size]?=some (.cells Yn5 42 (0,0)):=heap_alloc_new _ _;have Hr:Wd.heap.size<(Wd.alloc (.cells Yn5 42)).heap.size:=by simp
   generalize World.alloc Wd (.cells Yn5 42)=WA at hS Hq Hu Hr ⊢;generalize hBB:Wd.heap.size=B at qo yw Hu Hr ⊢;clear hK K_
   try simp only[tkS]
   refine Zwo 2 rfl λK_ hK=>?_;go_simp;go_at_call 28;refine(varsOf_any p.ins _ K0 (G1.out.le hS.le VrC.mono) (by omega) _ hS.isin).mono ?_;rintro r Qo ⟨v1,K1,rfl,qv,Hy⟩;obtain⟨x1,y1,rfl⟩:=qv.len;have qo:K1 B=none:=(Hy.fresh B Hr).trans qo;have Hu:=(Hy.below.block B Hr).trans Hu;have Hr:B<Qo.heap.size:=Nat.lt_of_lt_of_le Hr Hy.below.size;have hS:=hS.trans Hy;have Hq:K0.In Qo:=λb o e=>hS.isin b o (hS.le b o e);refine hK.out _ _ Hq Ztr ?_;clear Hy;exact mHof5
 intro e a' w' h;cases e with
 |normal=>
  obtain⟨B,x1,y1,x2,y2,x3,y3,K3,rfl,Jq,hF⟩:=h;have qf:K3.cell w.heap.size 1=some (.slice ao p.outs.length co):=Jq.cell k1;have hk2:K3.cell w.heap.size 2=some (.slice al p.fl.length cl):=Jq.cell k2;have GO:=Zhd (G2.out.le Jq StrC.mono);have GF:=Zhd (G3.out.le Jq (FlC.mono Jq));generalize hWF:w'=WF at *;have HF:=Zhd hF;clear hF hs k0 k1 k2 k3 k4 G1 G2 G3 G4 G5 Jz qp HHR;clear hWF;obtain⟨q0,q1,q2,q3,q4⟩:=(Zbm HF.out.box).1;have f1:=(Zbm HF.out.box).2.2.1;have e1:=HF.out.step.isin.cell qf;obtain⟨v',WO,KO,Ht,Qq,vq⟩:=run_append_strs HF.out.step.isin GO.out s2;have qr:=Zhd (HF.out.next Qq);have p1:=(Zbm qr.out.box).1.2.1;have g1:=(Zbm qr.out.box).2.2.1;have jU:KO.cell w.heap.size 2=some (.slice al p.fl.length cl):=Qq.le.cell hk2;have GF2:=Zhd (GF.out.le Qq.le (FlC.mono Qq.le));have zN:=Zhd vq;obtain⟨xo,yo,rfl⟩:=vq.len;clear Qq vq;go_wp2_with(at_builtin;refine Zbi rfl _ _ _ _ rfl _ _ rfl rfl _ _ Ht ?_);have QF:=Zhd (qr.out.set1 (by decide) zN.out);generalize World.setCell _ _ _=WL at QF ⊢;clear qr HF p1 g1 q0 q1 q2 q3 q4 f1 e1 Ht;go_loopw[4] (λi wr=>∃(k:Nat) (u:Value) (xs:List Value) (K:Kn),i=.int .i64 k/\k<=p.fl.length/\KO.le K/\FoO 42 96 H w (w.heap.size+1) B wr (.slice x1 p.ins.length y1) (.slice xo p.outs.length yo) u (.slice x2 p.as.length y2) (.slice x3 p.cs.length y3) p p.outs k xs K) (λi _=>p.fl.length - (intOf i).toNat)
  case atStart=>exact⟨0,_,_,_,rfl,Nat.zero_le _,Kn.le_refl _,QF.out⟩
  obtain⟨k,u,xs,K,rfl,hk,He,hS⟩:=hrel;have HS:=Zhd hS;obtain⟨au,cu,rfl,_⟩:=Zar hS.row;clear hS;have hl3:K.cell w.heap.size 2=some (.slice al p.fl.length cl):=He.cell jU;have m2:=HS.out.step.isin.cell hl3;by_cases Hd:k<p.fl.length
  .obtain⟨b,off,Qd,he,_,_,JJ⟩:=FlsV.cell GF2.out (λe=>by rw[e] at Hd;simp at Hd);cases he;obtain⟨ax,cx,d0,d1,d2,d3,d4,d5,hx⟩:=JJ k Hd;have Jy:p.fl[k].e.parts<=1000000000000:=by
    have:=Za0 (p.fl.map (·.e)) k (by simpa using Hd);simp at this;omega
   have d0:=He.cell d0;have d1:=He.cell d1;have d2:=He.cell d2;have d3:=He.cell d3;have d4:=He.cell d4;have d5:=He.cell d5;have hx:=hx.le He;have jd:∃x,p.fl[k]=x:=⟨_,rfl⟩;obtain⟨x,jd⟩:=jd;rw[jd] at d0 d1 d2 d3 d4 d5 hx Jy;have HXE:=Zhd jd;have HCS:=Zhd hx;clear jd JJ hx;go_wp2_with fail;have J2:=HS.out.drew;have Hq:K.In wr.drew:=J2.step.isin;have Jv:wr.drew.cell? ⟨B,2,none⟩=some (.slice au k cu):=J2.c2;refine Zae (λw'=>K.In w') (λw'=>w'.cell? ⟨B,2,none⟩=some (.slice au k cu)) 23 (by kernel_rfl) ?_;refine tk2 (i:=0) (v:=?_) rfl Hq (λ_=>Jv) ?hy ?_
   case hy=>exact Ze3
   try simp only[Act.put,List.setIfInBounds_toArray]
   refine Zcr (i:=1) (oi:=_) (om:=_) (v:=?_) rfl (by decide) (by kernel_rfl) (by kernel_rfl) (by kernel_rfl) (by kernel_rfl) rfl (by kernel_rfl) (by kernel_rfl) (λ_ _ _ h=>h) Hq Jv (Or.inl ⟨by rfl,?hy⟩) ?_
   case hy=>intro w xQ;go_simp<;>with_reducible rfl
   try simp only[Act.put]
   refine tk2 (i:=2) (v:=?_) rfl Hq (λ_=>Jv) ?hy ?_
   case hy=>exact Ze3
   try simp only[Act.put]
   refine tk2 (i:=3) (v:=?_) rfl Hq (λ_=>Jv) ?hy ?_
   case hy=>exact Ze3
   try simp only[Act.put]
   refine tk2 (i:=4) (v:=?_) rfl Hq (λ_=>Jv) ?hy ?_
   case hy=>exact Ze3
   try simp only[Act.put]
   refine tk2 (i:=5) (v:=?_) rfl Hq (λ_=>Jv) ?hy ?_
   case hy=>exact Ze3
   try simp only[Act.put]
   refine tk2 (i:=6) (v:=?_) rfl Hq (λ_=>Jv) ?hy ?_
   case hy=>exact Ze3
   try simp only[Act.put]
   refine tk2 (i:=7) (v:=?_) rfl Hq (λ_=>Jv) ?hy ?_
   case hy=>exact Ze3
   try simp only[Act.put]
   refine tk2 (i:=8) (v:=?_) rfl Hq (λ_=>Jv) ?hy ?_
   case hy=>exact Ze3
   try simp only[Act.put]
   refine tk2 (i:=9) (v:=?_) rfl Hq (λ_=>Jv) ?hy ?_
   case hy=>exact Ze3
   try simp only[Act.put]
   refine tk2 (i:=10) (v:=?_) rfl Hq (λ_=>Jv) ?hy ?_
   case hy=>exact Ze3
   try simp only[Act.put]
   refine tk2 (i:=11) (v:=?_) rfl Hq (λ_=>Jv) ?hy ?_
   case hy=>exact Ze3
   try simp only[Act.put]
   refine tk2 (i:=12) (v:=?_) rfl Hq (λ_=>Jv) ?hy ?_
   case hy=>exact Ze3
   try simp only[Act.put]
   refine tk2 (i:=13) (v:=?_) rfl Hq (λ_=>Jv) ?hy ?_
   case hy=>exact Ze3
   try simp only[Act.put]
   refine tk2 (i:=14) (v:=?_) rfl Hq (λ_=>Jv) ?hy ?_
   case hy=>exact Ze3
   try simp only[Act.put]
   refine tk2 (i:=15) (v:=?_) rfl Hq (λ_=>Jv) ?hy ?_
   case hy=>exact Ze3
   try simp only[Act.put]
   refine tk2 (i:=16) (v:=?_) rfl Hq (λ_=>Jv) ?hy ?_
   case hy=>exact Ze3
   try simp only[Act.put]
   refine tk2 (i:=17) (v:=?_) rfl Hq (λ_=>Jv) ?hy ?_
   case hy=>exact Ze3
   try simp only[Act.put]
   refine tk2 (i:=18) (v:=?_) rfl Hq (λ_=>Jv) ?hy ?_
   case hy=>exact Ze3
   try simp only[Act.put]
   refine tk2 (i:=19) (v:=?_) rfl Hq (λ_=>Jv) ?hy ?_
   case hy=>exact Ze3
   try simp only[Act.put]
   refine Zwo 20 rfl λK_ hK=>?_;go_simp;go_at_call 30;refine(exprOf_any x.e _ K ⟨_,rfl,HCS.out⟩ Jy _ Hq).mono ?_;rintro r wc ⟨v',K2,rfl,Jx,Hy⟩;obtain⟨u2,rfl,hu2⟩:=Jx;obtain⟨ax2,cx2,rfl⟩:=hu2.len;have qA:=J2.next Hy;have Hq:K.In wc:=λb o e=>Hy.isin b o (Hy.le b o e);have Jv:=qA.c2;refine hK.out _ _ Hq (λ_=>Jv) ?_;clear hK K_
   try simp only[tkS]
   refine tk2 (i:=21) (v:=?_) rfl Hq (λ_=>Jv) ?hy ?_
   case hy=>exact Ze3
   try simp only[Act.put,List.setIfInBounds_toArray]
   refine Zwo 22 rfl λK_ hK=>?_;go_simp;have hSF:=qA.alloc (.cells #[.string x.name,.int .i64 x.kind,.string x.e.op,.int .i64 x.e.n,.string x.e.s,.slice ax2 x.e.l.length cx2] 96);refine hK.out _ _ (Hq.alloc _) (λ_=>hSF.c2) ?_;clear hK K_
   try simp only[tkS]
   refine Zwo 23 rfl λK_ hK=>?_;refine step_append_lies _ (by rfl) _ _ _ (by rfl) w.heap.size 96 i0 _ 6 88 Tryz.underlying39 JI Jt J6 Ju rfl (by omega) _ k xs (by rfl) hSF.row ⟨_,0,none⟩ 1 1 [.string x.name,.int .i64 x.kind,.string x.e.op,.int .i64 x.e.n,.string x.e.s,.slice ax2 x.e.l.length cx2] (by rfl) (by rfl) (by exact World.news_of_block (heap_alloc_new _ _)) (by simp[Value.oneCell']) (by omega) (by unfold maxLen;omega) (by omega) hSF.step.below.size _ rfl ?_;intro gg Hh w3 Hb Hj hJ jT;obtain⟨Q0,zd,gZ,jZ⟩:=FoO.more hSF (by decide) Hd HXE.out hu2 Hb Hj hJ;have Jw:K.In w3:=λb o e=>gZ b o (Hy.le b o e);refine hK.out _ _ Jw (λh=>absurd h (by decide)) ?_;clear hK K_
   try simp only[Act.put,List.setIfInBounds_toArray]
   refine tk2 (i:=24) (v:=?_) rfl Jw (λh=>absurd h (by decide)) ?hy ?_
   case hy=>exact Ze3
   try simp only[Act.put]
   refine Zwo 25 rfl λK_ hK=>?_;go_simp;refine hK.out _ _ (λb o e=>jZ.step.isin b o (Hy.le b o e)) (λh=>absurd h (by decide)) ?_;clear hK K_
   try simp only[tkS]
   refine Zwd ?_;generalize World.setCell _ _ _=W9 at jZ ⊢;go_wp2_with fail;go_roundw
   case rel=>exact⟨k+1,_,_,_,by go_num,by omega,Kn.le_trans He Hy.le,jZ⟩
   simp[intOf];omega
  obtain rfl:k=p.fl.length:=by omega
  have JC:FsX K (List.take p.fl.length p.fl) xs:=HS.out.xs;rw[List.take_of_length_le Ylr] at JC;obtain⟨K',gX,Hk,hv,je⟩:=slv_of_own2 (R:=FlC) HS.out.step.isin HS.out.row HS.out.noU (λK' He i hi f hf=>JC.flc He i hi f hf);obtain⟨⟨q0,q1,q2,q3,q4⟩,_⟩:=Zbm HS.out.box;obtain⟨⟨r0,r1,r2,r3,r4⟩,f0,f1,f2,f3,f4⟩:=Zbm HS.out.res;have qc:=Zhd (set5_of HS.out.res (.slice x1 p.ins.length y1) (.slice xo p.outs.length yo) (.slice au p.fl.length cu) (.slice x2 p.as.length y2) (.slice x3 p.cs.length y3));have JS:K' (w.heap.size+1)=none:=by rw[je _ (Zew HS.out.row HS.out.res (by decide))];exact HS.out.noR
  have Jz:=Zhd (show Kn.Step H w K' (((((wr.setCell ⟨w.heap.size+1,0,none⟩ (.slice x1 p.ins.length y1)).setCell ⟨w.heap.size+1,1,none⟩ (.slice xo p.outs.length yo)).setCell ⟨w.heap.size+1,2,none⟩ (.slice au p.fl.length cu)).setCell ⟨w.heap.size+1,3,none⟩ (.slice x2 p.as.length y2)).setCell ⟨w.heap.size+1,4,none⟩ (.slice x3 p.cs.length y3)) from
   ⟨Kn.le_trans HS.out.step.le gX,λb hb=>(je b (Zbj HS.out.row hb)).trans (HS.out.step.fresh b hb),in5 Hk JS _ _ _ _ _,below5 HS.out.step.below (Nat.le_succ _) _ _ _ _ _⟩)
  have HPP:=Zhd (show PrP K' p (.slice x1 p.ins.length y1) (.slice xo p.outs.length yo) (.slice au p.fl.length cu) (.slice x2 p.as.length y2) (.slice x3 p.cs.length y3) from
   ⟨HS.out.ins.le gX VrC.mono,HS.out.outs.le gX StrC.mono,hv,HS.out.asr.le gX,HS.out.chk.le gX⟩)
  clear Hk hv je JC JS gX zN GF2 jU hl3;go_wp2_with fail;obtain⟨⟨e0,e1,e2,e3,e4⟩,_⟩:=Zbm qc.out;refine bodyPost_ret (v:=.agg (Yq5 p x1 xo au x2 x3 y1 yo cu y2 y3)) (by simp[results,Tryz.results7,go_sem,e0,e1,e2,e3,e4]) rfl ?_;exact⟨_,_,_,_,_,K',rfl,HPP.out,Jz.out⟩
 |_=>exact h.elim
theorem coded2_any(sp:Nat->Addr)(c:Nat)(v:Value)(w:World)(hv:ErrW sp w c (-1) v)(hc:c<=9)(S:Zkr w sp)(hE:Zbc w)(c':Int):
  Calls Tryz.prog 14 #[v,.int .i64 c'] w λe w'=>e=.returned (.bool (decide ((c:Int)=c')))/\Ybw w w':=by
 have hcode:=code_any sp c (-1) v w hv hc (λh=>absurd rfl h) S hE;go_enter Tryz.func14,Tryz.ntmps14;go_wp2_with fail;refine hcode.mono ?_;rintro r w1 ⟨rfl,Hv⟩;by_cases h1:(c:Int)=c'
 .subst h1;go_wp2_with fail;go_ret;exact⟨Za7 (by simp),Hv⟩
 go_wp2_with fail;go_ret;exact⟨Za7 (by simp[h1]),Hv⟩
end Go.Proofs.YtafapnolamcdmaaGreatDoor
