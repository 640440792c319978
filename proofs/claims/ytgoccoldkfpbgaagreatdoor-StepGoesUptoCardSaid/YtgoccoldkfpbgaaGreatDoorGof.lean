/- What lustrumlaw1.FlatOf builds, piece by piece. -/
import Derived.Test.YtgoccoldkfpbgaaGreatDoorRg
import Derived.Test.YtgoccoldkfpbgaaGreatDoorEof
set_option linter.all false
namespace Go.Proofs.YtgoccoldkfpbgaaGreatDoor
set_option maxRecDepth 100000
set_option maxHeartbeats 16000000
open Go.RowKit Mx
def FsX (H:Kn):List Fl→List Value→Prop
 | [],xs=>xs=[]
 | f :: l,xs=>∃ a c r,xs = .string f.name :: .int .i64 f.kind :: .string f.e.op :: .int .i64 f.e.n :: .string f.e.s :: .slice a f.e.l.length c :: r∧ExsV H f.e.l (.slice a f.e.l.length c)∧FsX H l r
theorem FsX.append {H:Kn}:∀ {l m:List Fl} {xs ys:List Value},FsX H l xs→FsX H m ys→FsX H (l++m) (xs++ys)
 | [],_,_,_,h,k=>by rw [show _=[] from h];exact k
 | e :: l,m,xs,ys,h,k=>by
  obtain⟨a,c,r,rfl,h1,h2⟩:=h
  exact⟨a,c,r++ys,rfl,h1,h2.append k⟩
theorem FsX.le {H H':Kn} (hle:H.le H'):∀ {l:List Fl} {xs:List Value},FsX H l xs→FsX H' l xs
 | [],_,h=>h
 | _e :: _l,_xs,⟨a,c,r,h0,h1,h2⟩=>⟨a,c,r,h0,h1.le hle,h2.le hle⟩
theorem FsX.flc {K K':Kn} (hle:K.le K'):∀ {l:List Fl} {xs:List Value},FsX K l xs→∀ i (hi:i<l.length) (f:Nat→Option Value),(∀ j u,xs[i * 6+j]?=some u→f j=some u)→FlC K' l[i] f
 | [],_,_,i,hi,_,_=>by simp at hi
 | e :: l,xs,h,0,_,f,hf=>by
  obtain⟨a,c,r,rfl,h1,h2⟩:=h
  exact⟨hf 0 _ rfl,hf 1 _ rfl,ExAt.mk (hf 2 _ rfl) (hf 3 _ rfl) (hf 4 _ rfl) (hf 5 _ rfl) (h1.le hle)⟩
 | e :: l,xs,h,i+1,hi,f,hf=>by
  obtain⟨a,c,r,rfl,h1,h2⟩:=h
  simp only [List.getElem_cons_succ]
  refine FsX.flc hle h2 i (by simpa using hi) f fun j u hj=>hf j u ?_
  rw [show (i+1) * 6+j=(i * 6+j)+6 from by omega]
  simpa using hj
theorem Zbp {W:World} {b:Nat} {x y z u v:Value} {t:TypeId} (h:W.heap[b]?=some (.cells #[x,y,z,u,v] t (0,0))):
  (W.cell? ⟨b,0,none⟩=some x∧W.cell? ⟨b,1,none⟩=some y∧W.cell? ⟨b,2,none⟩=some z∧W.cell? ⟨b,3,none⟩=some u∧W.cell? ⟨b,4,none⟩=some v)∧
   W.frozen? ⟨b,0,none⟩=false∧W.frozen? ⟨b,1,none⟩=false∧W.frozen? ⟨b,2,none⟩=false∧W.frozen? ⟨b,3,none⟩=false∧W.frozen? ⟨b,4,none⟩=false:=by
 refine⟨⟨?_,?_,?_,?_,?_⟩,?_,?_,?_,?_,?_⟩<;>simp [World.cell?,World.frozen?,h]
theorem set5_of {W:World} {b:Nat} {x0 x1 x2 x3 x4:Value} {t:TypeId} (h:W.heap[b]?=some (.cells #[x0,x1,x2,x3,x4] t (0,0))) (y0 y1 y2 y3 y4:Value):
  (((((W.setCell ⟨b,0,none⟩ y0).setCell ⟨b,1,none⟩ y1).setCell ⟨b,2,none⟩ y2).setCell ⟨b,3,none⟩ y3).setCell ⟨b,4,none⟩ y4).heap[b]?=some (.cells #[y0,y1,y2,y3,y4] t (0,0)):=by
 have h1:=Zaa W b 0 y0 _ _ _ h
 have h2:=Zaa _ b 1 y1 _ _ _ h1
 have h3:=Zaa _ b 2 y2 _ _ _ h2
 have h4:=Zaa _ b 3 y3 _ _ _ h3
 have h5:=Zaa _ b 4 y4 _ _ _ h4
 simpa using h5
theorem in5 {K:Kn} {W:World} {b:Nat} (h:K.In W) (hb:K b=none) (y0 y1 y2 y3 y4:Value):K.In (((((W.setCell ⟨b,0,none⟩ y0).setCell ⟨b,1,none⟩ y1).setCell ⟨b,2,none⟩ y2).setCell ⟨b,3,none⟩ y3).setCell ⟨b,4,none⟩ y4):=
 ((((h.setCell (a:=⟨b,0,none⟩) hb _).setCell (a:=⟨b,1,none⟩) hb _).setCell (a:=⟨b,2,none⟩) hb _).setCell (a:=⟨b,3,none⟩) hb _).setCell (a:=⟨b,4,none⟩) hb _
theorem below5 {n:Nat} {w W:World} {b:Nat} (h:Below n w W) (hb:n≤b) (y0 y1 y2 y3 y4:Value):Below n w (((((W.setCell ⟨b,0,none⟩ y0).setCell ⟨b,1,none⟩ y1).setCell ⟨b,2,none⟩ y2).setCell ⟨b,3,none⟩ y3).setCell ⟨b,4,none⟩ y4):=
 ((((h.setCell (p:=⟨b,0,none⟩) hb _).setCell (p:=⟨b,1,none⟩) hb _).setCell (p:=⟨b,2,none⟩) hb _).setCell (p:=⟨b,3,none⟩) hb _).setCell (p:=⟨b,4,none⟩) hb _
theorem heap5_far {W:World} {b c:Nat} (h:c≠b) (y0 y1 y2 y3 y4:Value):(((((W.setCell ⟨b,0,none⟩ y0).setCell ⟨b,1,none⟩ y1).setCell ⟨b,2,none⟩ y2).setCell ⟨b,3,none⟩ y3).setCell ⟨b,4,none⟩ y4).heap[c]?=W.heap[c]?:=by
 rw [Below.heap_setCell _ _ _ _ h,Below.heap_setCell _ _ _ _ h,Below.heap_setCell _ _ _ _ h,Below.heap_setCell _ _ _ _ h,Below.heap_setCell _ _ _ _ h]
structure FoO (T F:TypeId) (H:Kn) (w:World) (R B:Nat) (wr:World) (v1 uo u v2 v3:Value) (p:Pr) (os:List ByteArray) (done:Nat) (xs:List Value) (K:Kn):Prop where
 step:Kn.Step H w K wr
 noB:K B=none
 noR:K R=none
 hB:w.heap.size≤B
 hR:w.heap.size≤R
 ne:R≠B
 box:wr.heap[B]?=some (.cells #[v1,uo,u,v2,v3] T (0,0))
 res:wr.heap[R]?=some (.cells #[.slice none 0 0,.slice none 0 0,.slice none 0 0,.slice none 0 0,.slice none 0 0] T (0,0))
 ins:VrsV K p.ins v1
 asr:ExsV K p.as v2
 chk:ExsV K p.cs v3
 outs:StrsV K os uo
 row:wr.ownsRow w.heap.size F 6 u done xs
 noU:∀ g,u.ownBlock=some g→K g=none
 xs:FsX K (p.fl.take done) xs
section
variable {T F : TypeId} {H K : Kn} {w wr : World} {R B : Nat} {v1 uo u v2 v3 : Value} {p : Pr} {os : List ByteArray} {done : Nat} {xs : List Value}
theorem FoO.blt (h:FoO T F H w R B wr v1 uo u v2 v3 p os done xs K):B<wr.heap.size:=(Zlt h.box)
theorem FoO.rlt (h:FoO T F H w R B wr v1 uo u v2 v3 p os done xs K):R<wr.heap.size:=(Zlt h.res)
theorem FoO.c2 (h:FoO T F H w R B wr v1 uo u v2 v3 p os done xs K):wr.cell? ⟨B,2,none⟩=some u:=(Zbp h.box).1.2.2.1
theorem FoO.next {wc:World} {K2:Kn} (h:FoO T F H w R B wr v1 uo u v2 v3 p os done xs K) (hs:Kn.Step K wr K2 wc):FoO T F H w R B wc v1 uo u v2 v3 p os done xs K2:=
 ⟨h.step.trans hs,(hs.fresh B h.blt).trans h.noB,(hs.fresh R h.rlt).trans h.noR,h.hB,h.hR,h.ne,(hs.below.block B h.blt).trans h.box,(hs.below.block R h.rlt).trans h.res,h.ins.le hs.le VrC.mono,h.asr.le hs.le,h.chk.le hs.le,h.outs.le hs.le StrC.mono,
  Za6 h.row hs.below,fun g hg=>(hs.fresh g (h.row.lt g hg).2).trans (h.noU g hg),h.xs.le hs.le⟩
theorem FoO.later {wc:World} (h:FoO T F H w R B wr v1 uo u v2 v3 p os done xs K) (hb:Below wr.heap.size wr wc):FoO T F H w R B wc v1 uo u v2 v3 p os done xs K:=h.next (Kn.Step.of_below h.step.isin hb)
theorem FoO.alloc (h:FoO T F H w R B wr v1 uo u v2 v3 p os done xs K) (o:Obj):FoO T F H w R B (wr.alloc o) v1 uo u v2 v3 p os done xs K:=h.later ((Below.refl _ _).alloc (Nat.le_refl _) o)
theorem FoO.drew (h:FoO T F H w R B wr v1 uo u v2 v3 p os done xs K):FoO T F H w R B wr.drew v1 uo u v2 v3 p os done xs K:=h.later ((Below.refl _ _).drew)
theorem FoO.more {wc w3:World} {gg cap':Nat} (h:FoO T F H w R B wc v1 uo u v2 v3 p os done xs K) (hne:T≠F) (hd:done<p.fl.length) {x:Fl} (hx:p.fl[done]=x) {a:Option Addr} {c:Nat} (hp:ExsV K x.e.l (.slice a x.e.l.length c))
  (hown:w3.ownsRow w.heap.size F 6 (.slice (some ⟨gg,0,none⟩) (done+1) cap') (done+1) (xs++[.string x.name,.int .i64 x.kind,.string x.e.op,.int .i64 x.e.n,.string x.e.s,.slice a x.e.l.length c])) (hg:wc.grownBy w3 u.ownBlock) (hat:u.ownBlock=some gg∨gg=wc.heap.size):
  w3.cell? ⟨B,2,none⟩=some u∧w3.frozen? ⟨B,2,none⟩=false∧K.In w3∧FoO T F H w R B (w3.setCell ⟨B,2,none⟩ (.slice (some ⟨gg,0,none⟩) (done+1) cap')) v1 uo (.slice (some ⟨gg,0,none⟩) (done+1) cap') v2 v3 p os (done+1) (xs++[.string x.name,.int .i64 x.kind,.string x.e.op,.int .i64 x.e.n,.string x.e.s,.slice a x.e.l.length c]) K:=by
 subst hx
 have hnB:some B≠u.ownBlock:=fun e=>Zel h.row h.box hne e.symm
 have hnR:some R≠u.ownBlock:=fun e=>Zel h.row h.res hne e.symm
 have hbx:w3.heap[B]?=_:=(hg.block B h.blt hnB).trans h.box
 have hrx:w3.heap[R]?=_:=(hg.block R h.rlt hnR).trans h.res
 have hin:=(h.step.isin.grown hg h.noU)
 have hggB:gg≠B:=fun e=>Zel hown hbx hne (by rw [e];rfl)
 refine⟨(Zbp hbx).1.2.2.1,(Zbp hbx).2.2.2.1,hin,⟨h.step.le,h.step.fresh,hin.setCell (a:=⟨B,2,none⟩) h.noB _,?_⟩,h.noB,h.noR,h.hB,h.hR,h.ne,?_,?_,h.ins,h.asr,h.chk,h.outs,Zal hown (a:=⟨B,2,none⟩) (fun e=>hggB (by simpa [Value.ownBlock] using e)) _,fun g hgg=>?_,?_⟩
 ·exact (h.step.below.grown hg h.step.below.size (fun g hgg=>(h.row.lt g hgg).1)).setCell h.hB _
 ·rw [Zaa _ _ _ _ _ _ _ hbx];rfl
 ·rw [Below.heap_setCell _ _ _ _ h.ne];exact hrx
 ·have hgg':gg=g:=by simpa [Value.ownBlock] using hgg
  subst hgg'
  rcases hat with h1 | h1
  ·exact h.noU gg h1
  rw [h1];exact h.step.isin.isNone (Nat.le_refl _)
 rw [Zdt _ _ hd]
 exact h.xs.append ⟨a,c,[],rfl,hp,rfl⟩
theorem FoO.set1 {os':List ByteArray} {v':Value} (h:FoO T F H w R B wr v1 uo u v2 v3 p os done xs K) (hne:T≠F) (hv:StrsV K os' v'):FoO T F H w R B (wr.setCell ⟨B,1,none⟩ v') v1 v' u v2 v3 p os' done xs K:=by
 refine⟨⟨h.step.le,h.step.fresh,h.step.isin.setCell (a:=⟨B,1,none⟩) h.noB _,h.step.below.setCell h.hB _⟩,h.noB,h.noR,h.hB,h.hR,h.ne,?_,?_,h.ins,h.asr,h.chk,hv,Zal h.row (a:=⟨B,1,none⟩) (Zel h.row h.box hne) _,h.noU,h.xs⟩
 ·rw [Zaa _ _ _ _ _ _ _ h.box];rfl
 rw [Below.heap_setCell _ _ _ _ h.ne];exact h.res
end
theorem foo_start {T F:TypeId} {H H1 K:Kn} {w W1 Wc:World} {R B:Nat} {v1 v2 v3:Value} {p:Pr} (h0:Kn.Step H w H1 W1) (h:Kn.Step H1 W1 K Wc) (hbx:Wc.heap[B]?=some (.cells #[.slice none 0 0,.slice none 0 0,.slice none 0 0,.slice none 0 0,.slice none 0 0] T (0,0)))
  (hKB:K B=none) (hB:W1.heap.size≤B) (hres:W1.heap[R]?=some (.cells #[.slice none 0 0,.slice none 0 0,.slice none 0 0,.slice none 0 0,.slice none 0 0] T (0,0))) (hHR:H1 R=none) (hR:w.heap.size≤R)
  (h1:VrsV K p.ins v1) (h2:ExsV K p.as v2) (h3:ExsV K p.cs v3):
  FoO T F H w R B (((((Wc.setCell ⟨B,0,none⟩ v1).setCell ⟨B,1,none⟩ (.slice none 0 0)).setCell ⟨B,2,none⟩ (.slice none 0 0)).setCell ⟨B,3,none⟩ v2).setCell ⟨B,4,none⟩ v3) v1 (.slice none 0 0) (.slice none 0 0) v2 v3 p [] 0 [] K:=by
 have hRlt:R<W1.heap.size:=(Zlt hres)
 have hBw:w.heap.size≤B:=Nat.le_trans h0.below.size hB
 have hne:R≠B:=by omega
 have hs:=h0.trans h
 exact⟨⟨hs.le,hs.fresh,in5 hs.isin hKB _ _ _ _ _,below5 hs.below hBw _ _ _ _ _⟩,hKB,(h.fresh R hRlt).trans hHR,hBw,hR,hne,set5_of hbx _ _ _ _ _,(heap5_far hne _ _ _ _ _).trans ((h.below.block R hRlt).trans hres),h1,h2,h3,.inl ⟨rfl,none,0,rfl⟩,World.ownsRow_nil _ _ _ _,fun g hg=>by simp [Value.ownBlock] at hg,rfl⟩
theorem Zgk {H K:Kn} {w wr:World} (h:Kn.Step H w K wr) (o:Obj):Kn.Step H w K (wr.alloc o):=h.trans (Kn.Step.of_below h.isin ((Below.refl _ _).alloc (Nat.le_refl _) o))
theorem StrsV.strs {H:Kn} {l:List ByteArray} {v:Value} (h:StrsV H l v) (hne:l≠[]):∃ b off cap,v = .slice (some ⟨b,off,none⟩) l.length cap∧∀ j u,(l.map Value.string)[j]?=some u→H.cell b (off+j)=some u:=by
 rcases h with ⟨h,_⟩ | ⟨b,off,cap,h1,h2,h3,h4⟩
 ·exact absurd h hne
 refine⟨b,off,cap,h1,fun j u hu=>?_⟩
 rw [List.getElem?_map] at hu
 obtain⟨s,hs,rfl⟩:=Option.map_eq_some_iff.1 hu
 obtain⟨hj,rfl⟩:=List.getElem?_eq_some_iff.1 hs
 have:=h4 j hj
 rw [Nat.mul_one] at this
 exact this
theorem slv_of_own2 {α:Type} {k:Nat} {R:Kn→α→(Nat→Option Value)→Prop} {K:Kn} {w:World} {base:Nat} {t:TypeId} {v:Value} {l:List α} {xs:List Value} (hK:K.In w) (h:w.ownsRow base t k v l.length xs) (hr:∀ g,v.ownBlock=some g→K g=none)
  (hR:∀ K',Kn.le K K'→∀ i (hi:i<l.length),∀ f:Nat→Option Value,(∀ j u,xs[i * k+j]?=some u→f j=some u)→R K' l[i] f):
  ∃ K',K.le K'∧K'.In w∧SlV K' k (R K') l v∧∀ b,v.ownBlock≠some b→K' b=K b:=by
 by_cases h0:l=[]
 ·obtain⟨a,c,h1,_⟩:=Zas h
  exact⟨K,Kn.le_refl K,hK,.inl ⟨h0,a,c,by rw [h1,h0];rfl⟩,fun _ _=>rfl⟩
 obtain⟨g,cap,h1,h2,h3,hb,hlt,h4⟩:=Zbz h (List.length_pos_iff.2 h0)
 have hg:K g=none:=hr g (by rw [h1];rfl)
 have ho:w.heap[g]?=some w.heap[g]:=Array.getElem?_eq_getElem hlt
 refine⟨K.add g w.heap[g],Kn.le_add hg,hK.add ho,.inr ⟨g,0,cap,h1,h2,h3,fun i hi=>hR _ (Kn.le_add hg) i hi _ fun j u hj=>?_⟩,fun b hbb=>Kn.add_other K _ (fun e=>hbb (by rw [h1,e];rfl))⟩
 have h5:=h4 _ u hj
 unfold Kn.cell
 rw [Kn.add_self,Nat.zero_add]
 simp only [World.cell?,ho] at h5
 cases hc:w.heap[g]<;>simp_all
theorem run_append_strs {K:Kn} {W:World} (hK:K.In W) {l:List ByteArray} {a:Option Addr} {c:Nat} (h:StrsV K l (.slice a l.length c)) (hl:l.length≤1000000000):
  ∃ v' W' K',(∀ ty,(Builtin.append_ #[23,23] ty #[.slice none 0 0,.slice a l.length c]).run Tryz.prog W = .ok v' W')∧Kn.Step K W K' W'∧StrsV K' l v':=by
 obtain⟨i1,hi1,hy0,hy1,hy2⟩:=info_parts Tryz.infoStr1
 by_cases h0:l=[]
 ·subst h0
  exact⟨.slice none 0 0,W,K,fun ty=>Zbq 23 9 i1 Tryz.underlying23 hi1 (World.ownsRow_nil W W.heap.size 9 1) a c ty,Kn.Step.refl hK,.inl ⟨rfl,none,0,rfl⟩⟩
 obtain⟨b,off,cap,he,hcs⟩:=h.strs h0
 cases he
 have hlen:0<l.length:=List.length_pos_iff.2 h0
 have hnews:∀ j u,(l.map Value.string)[j]?=some u→W.cell? ((⟨b,off,none⟩:Addr).add j)=some u:=fun j u hu=>by rw [Zc4];exact hK.cell (hcs j u hu)
 have hrun:=fun ty=>run_append_lies (P:=Tryz.prog) W 23 ty W.heap.size 9 i1 _ 1 16 Tryz.underlying23 hi1 hy0 hy1 hy2 rfl (by omega) (.slice none 0 0) 0 [] (World.ownsRow_nil W W.heap.size 9 1) ⟨b,off,none⟩ l.length c (l.map Value.string) (by simp) hnews (by intro u hu;obtain⟨s,_,rfl⟩:=List.mem_map.1 hu;rfl) hlen (by unfold maxLen;omega) (by omega) (Nat.le_refl _) W.heap.size rfl
 obtain⟨g,cap',W',h1,h2,h3,h4,h5⟩:=hrun 0
 have hb:Below W.heap.size W W':=⟨h3.os,h3.tape,h3.output,h3.size,fun k hk=>h3.block k hk (by simp [Value.ownBlock])⟩
 have hgg:g=W.heap.size:=by
   rcases h4 with h4 | h4
   ·simp [Value.ownBlock] at h4
   ·exact h4
 have hown:W'.ownsRow W.heap.size 9 1 (.slice (some ⟨g,0,none⟩) (0+l.length) cap') l.length (l.map Value.string):=by simpa using h2
 have hin:=hK.below hb
 obtain⟨K',k1,k2,k3,k4⟩:=Zcw (R:=fun _=>StrC) hin hown (fun q hq=>by
  have:g=q:=by simpa [Value.ownBlock] using hq
  rw [← this,hgg];exact hK.isNone (Nat.le_refl _)) (fun K' _=>SsX.at (K:=K') (K':=K') (show SsX K' l (l.map Value.string) from rfl))
 refine⟨_,W',K',fun ty=>?_,⟨k1,k4,k2,hb⟩,k3⟩
 obtain⟨g2,cap2,W2,e1,e2,e3,e4,e5⟩:=hrun ty
 have hty:(Builtin.append_ #[23,23] ty #[.slice none 0 0,.slice (some ⟨b,off,none⟩) l.length c]).run Tryz.prog W=(Builtin.append_ #[23,23] 0 #[.slice none 0 0,.slice (some ⟨b,off,none⟩) l.length c]).run Tryz.prog W:=rfl
 rw [hty];exact h1
theorem mHof5 {p:Prop} (h:p:=by
 clear hK K_
 try simp only [tkS]
 refine Zwo 5 rfl fun K_ hK=>?_
 go_simp
 go_at_call 36
 refine (Zfp p.as _ K1 (G4.out.le hS.le) (by omega) _ hS.isin).mono ?_
 rintro r wc2 ⟨v2,K2,rfl,hv2,hst⟩
 obtain⟨x2,y2,rfl⟩:=hv2.len
 have hKB:K2 B=none:=(hst.fresh B hlt).trans hKB
 have hbx:=(hst.below.block B hlt).trans hbx
 have hlt:B<wc2.heap.size:=Nat.lt_of_lt_of_le hlt hst.below.size
 have hv1:=hv1.le hst.le VrC.mono
 have hS:=hS.trans hst
 have hS2:K0.In wc2:=fun b o e=>hS.isin b o (hS.le b o e)
 refine hK.out _ _ hS2 Ztr ?_
 clear hst
 exact mHof4):p:=h
theorem mHof4 {p:Prop} (h:p:=by
 clear hK K_
 try simp only [tkS]
 refine Zwo 8 rfl fun K_ hK=>?_
 go_simp
 go_at_call 36
 refine (Zfp p.cs _ K2 (G5.out.le hS.le) (by omega) _ hS.isin).mono ?_
 rintro r wc3 ⟨v3,K3,rfl,hv3,hst⟩
 obtain⟨x3,y3,rfl⟩:=hv3.len
 have hKB:K3 B=none:=(hst.fresh B hlt).trans hKB
 have hbx:=(hst.below.block B hlt).trans hbx
 have hlt:B<wc3.heap.size:=Nat.lt_of_lt_of_le hlt hst.below.size
 have hv1:=hv1.le hst.le VrC.mono
 have hv2:=hv2.le hst.le
 have hS:=hS.trans hst
 have hS2:K0.In wc3:=fun b o e=>hS.isin b o (hS.le b o e)
 refine hK.out _ _ hS2 Ztr ?_
 clear hst
 clear hK K_
 try simp only [tkS]
 refine tk2 (i:=9) (v:=?_) rfl hS2 Ztr ?hy ?_
 case hy=>exact mHof3
 try simp only [Act.put,List.setIfInBounds_toArray]
 obtain⟨⟨z0,z1,z2,z3,z4⟩,f0,f1,f2,f3,f4⟩:=Zbp hbx
 refine Zwo 11 rfl fun K_ hK=>?_
 go_simp
 refine hK.out _ _ (fun b o e=>in5 hS.isin hKB _ _ _ _ _ b o (hS.le b o e)) Ztr ?_
 clear hK K_
 try simp only [tkS]
 have hF:=foo_start (F:=100) HST.out hS hbx hKB hBge HR0.out HHR.out (Nat.le_succ _) hv1 hv2 hv3
 exact Zhb (by kernel_rfl) ⟨_,_,_,_,_,_,_,_,rfl,hS.le,hF⟩ _):p:=h
theorem mHof3 {p:Prop} (h:p:=by
 intro w hSw;first | (go_simp;done) | (go_simp;with_reducible rfl)):p:=h
theorem mHof2 {p:Prop} (h:p:=by
 intro w hSw;have z0:=hSw.cell k0;have z1:=hSw.cell k3;have z2:=hSw.cell k4;first | (go_simp;done) | (go_simp;with_reducible rfl)):p:=h
theorem Zeq {p:Prop} (h:p:=by
 intro w hSw;have z0:=hSw.cell hl3;have z1:=hSw.cell d0;have z2:=hSw.cell d1;have z3:=hSw.cell d2;have z4:=hSw.cell d3;have z5:=hSw.cell d4;have z6:=hSw.cell d5;first | (go_simp;done) | (go_simp;with_reducible rfl)):p:=h
theorem Zep:∀ (a b:List Ex),Ex.partsL (a++b)=Ex.partsL a+Ex.partsL b
 | [],b=>by simp [Ex.partsL]
 | x :: a,b=>by simp only [List.cons_append,Ex.partsL,Zep a b];omega
theorem flatOf_any (p:Pr) (vi vo vl va vc:Value) (H:Kn) (hp:PrP H p vi vo vl va vc) (hsz:p.ins.length≤1000000000∧p.outs.length≤1000000000∧p.fl.length≤1000000000∧Ex.partsL p.terms≤1000000000) (w:World) (hH:H.In w):
  Calls Tryz.prog 9 #[.agg #[vi,vo,vl,va,vc]] w fun r w'=>∃ vi' vo' vl' va' vc' K,r = .returned (.agg #[vi',vo',vl',va',vc'])∧PrP K p vi' vo' vl' va' vc'∧Kn.Step H w K w':=by
 obtain⟨h1,h2,h3,h4,h5⟩:=hp
 obtain⟨ai,ci,rfl⟩:=h1.len
 obtain⟨ao,co,rfl⟩:=h2.len
 obtain⟨al,cl,rfl⟩:=h3.len
 obtain⟨aa,ca,rfl⟩:=h4.len
 obtain⟨ac,cc,rfl⟩:=h5.len
 obtain⟨s1,s2,s3,s4⟩:=hsz
 have hpt:Ex.partsL (p.fl.map (·.e))≤1000000000∧Ex.partsL p.as≤1000000000∧Ex.partsL p.cs≤1000000000:=by
  unfold Pr.terms at s4
  rw [Zep,Zep] at s4
  omega
 obtain⟨t1,t2,t3⟩:=hpt
 obtain⟨i0,hi0,hz0,hz1,hz2⟩:=info_parts Tryz.infoFlow
 obtain⟨i1,hi1,hy0,hy1,hy2⟩:=info_parts Tryz.infoStr1
 have H1:=Zhd h1
 have H2:=Zhd h2
 have H3:=Zhd h3
 have H4:=Zhd h4
 have H5:=Zhd h5
 clear h1 h2 h3 h4 h5 s4
 go_enter Tryz.func9,Tryz.ntmps9
 go_wp2_with fail
 have hP0:((w.alloc (.cells #[.slice ai p.ins.length ci,.slice ao p.outs.length co,.slice al p.fl.length cl,.slice aa p.as.length ca,.slice ac p.cs.length cc] 27)).alloc (.cells #[.slice none 0 0,.slice none 0 0,.slice none 0 0,.slice none 0 0,.slice none 0 0] 41)).heap[w.heap.size]?=some (.cells #[.slice ai p.ins.length ci,.slice ao p.outs.length co,.slice al p.fl.length cl,.slice aa p.as.length ca,.slice ac p.cs.length cc] 27 (0,0)):=by
  rw [Below.heap_alloc _ _ _ (by simp)];exact heap_alloc_new _ _
 have hR0:((w.alloc (.cells #[.slice ai p.ins.length ci,.slice ao p.outs.length co,.slice al p.fl.length cl,.slice aa p.as.length ca,.slice ac p.cs.length cc] 27)).alloc (.cells #[.slice none 0 0,.slice none 0 0,.slice none 0 0,.slice none 0 0,.slice none 0 0] 41)).heap[w.heap.size+1]?=some (.cells #[.slice none 0 0,.slice none 0 0,.slice none 0 0,.slice none 0 0,.slice none 0 0] 41 (0,0)):=by
  rw [show w.heap.size+1=(w.alloc (.cells #[.slice ai p.ins.length ci,.slice ao p.outs.length co,.slice al p.fl.length cl,.slice aa p.as.length ca,.slice ac p.cs.length cc] 27)).heap.size from by simp];exact heap_alloc_new _ _
 have hb0:Below w.heap.size w ((w.alloc (.cells #[.slice ai p.ins.length ci,.slice ao p.outs.length co,.slice al p.fl.length cl,.slice aa p.as.length ca,.slice ac p.cs.length cc] 27)).alloc (.cells #[.slice none 0 0,.slice none 0 0,.slice none 0 0,.slice none 0 0,.slice none 0 0] 41)):=
  ((Below.refl _ _).alloc (Nat.le_refl _) _).alloc (by simp) _
 generalize (w.alloc (.cells #[.slice ai p.ins.length ci,.slice ao p.outs.length co,.slice al p.fl.length cl,.slice aa p.as.length ca,.slice ac p.cs.length cc] 27)).alloc (.cells #[.slice none 0 0,.slice none 0 0,.slice none 0 0,.slice none 0 0,.slice none 0 0] 41)=W1 at *
 obtain⟨K0,hK0⟩:∃ K,K=H.add w.heap.size (.cells #[.slice ai p.ins.length ci,.slice ao p.outs.length co,.slice al p.fl.length cl,.slice aa p.as.length ca,.slice ac p.cs.length cc] 27 (0,0)):=⟨_,rfl⟩
 have hSt:Kn.Step H w K0 W1:=⟨by rw [hK0];exact Kn.le_add (hH.isNone (Nat.le_refl _)),fun b hb=>by rw [hK0,Kn.add_other _ _ (by omega)],by rw [hK0];exact (hH.below hb0).add hP0,hb0⟩
 have hHR:K0 (w.heap.size+1)=none:=by rw [hK0,Kn.add_other _ _ (by omega)];exact hH.isNone (by omega)
 have hc:∀ i,K0.cell w.heap.size i=(#[.slice ai p.ins.length ci,.slice ao p.outs.length co,.slice al p.fl.length cl,.slice aa p.as.length ca,.slice ac p.cs.length cc]:Array Value)[i]?:=fun i=>by unfold Kn.cell;rw [hK0,Kn.add_self]
 have k0:K0.cell w.heap.size 0=some (.slice ai p.ins.length ci):=hc 0
 have k1:K0.cell w.heap.size 1=some (.slice ao p.outs.length co):=hc 1
 have k2:K0.cell w.heap.size 2=some (.slice al p.fl.length cl):=hc 2
 have k3:K0.cell w.heap.size 3=some (.slice aa p.as.length ca):=hc 3
 have k4:K0.cell w.heap.size 4=some (.slice ac p.cs.length cc):=hc 4
 have G1:=Zhd (H1.out.le hSt.le VrC.mono)
 have G2:=Zhd (H2.out.le hSt.le StrC.mono)
 have G3:=Zhd (H3.out.le hSt.le (FlC.mono hSt.le))
 have G4:=Zhd (H4.out.le hSt.le)
 have G5:=Zhd (H5.out.le hSt.le)
 have hs:=Kn.Step.of_below hSt.isin ((Below.refl W1.heap.size W1).drew)
 have HST:=Zhd hSt
 have HR0:=Zhd hR0
 have HHR:=Zhd hHR
 have hwlt:w.heap.size≤W1.heap.size:=hb0.size
 clear hc hK0 hP0 hb0 hR0 hHR H1 H2 H3 H4 H5
 refine Code.wp_mono (Q:=fun e a' w'=>match e with | .normal=>∃ (B:Nat) (x1:Option Addr) (y1:Nat) (x2:Option Addr) (y2:Nat) (x3:Option Addr) (y3:Nat) (K3:Kn),a'={ tmps := #[.agg #[.slice ai p.ins.length ci,.slice ao p.outs.length co,.slice al p.fl.length cl,.slice aa p.as.length ca,.slice ac p.cs.length cc],.pointer (some ⟨w.heap.size,0,none⟩),.pointer (some ⟨w.heap.size+1,0,none⟩),.pointer (some ⟨B,0,none⟩),undef,.pointer (some ⟨w.heap.size,0,none⟩),.slice ai p.ins.length ci,.slice x1 p.ins.length y1,.pointer (some ⟨w.heap.size,3,none⟩),.slice aa p.as.length ca,.slice x2 p.as.length y2,.pointer (some ⟨w.heap.size,4,none⟩),.slice ac p.cs.length cc,.slice x3 p.cs.length y3,.agg #[.slice x1 p.ins.length y1,.slice none 0 0,.slice none 0 0,.slice x2 p.as.length y2,.slice x3 p.cs.length y3],undef,undef,undef,undef,undef,undef,undef,undef,undef,undef,undef,undef,undef,undef,undef,undef,undef,undef,undef,undef,undef,undef,undef,undef,undef,undef,undef,undef,undef,undef,undef,undef,undef,undef,undef,undef,undef,undef,undef],defers:=[] }∧K0.le K3∧FoO 41 100 H w (w.heap.size+1) B w' (.slice x1 p.ins.length y1) (.slice none 0 0) (.slice none 0 0) (.slice x2 p.as.length y2) (.slice x3 p.cs.length y3) p [] 0 [] K3 | _=>False) ?rest ?reg
 case' reg=>
  have hS2:K0.In W1.drew:=hs.isin
  have hT2:∀ {q:Prop},q→True:=fun _=>trivial
  refine Zae (fun w'=>K0.In w') (fun _=>True) 11 (by kernel_rfl) ?_
  generalize W1.drew=Wd at hs hS2 ⊢
  refine tk2 (i:=0) (v:=?_) rfl hS2 Ztr ?hy ?_
  case hy=>exact mHof2
  try simp only [Act.put,List.setIfInBounds_toArray]
  refine tk2 (i:=3) (v:=?_) rfl hS2 Ztr ?hy ?_
  case hy=>exact mHof2
  try simp only [Act.put]
  refine tk2 (i:=6) (v:=?_) rfl hS2 Ztr ?hy ?_
  case hy=>exact mHof2
  try simp only [Act.put]
  refine tk2 (i:=1) (v:=?_) rfl hS2 Ztr ?hy ?_
  case hy=>exact mHof2
  try simp only [Act.put]
  refine tk2 (i:=4) (v:=?_) rfl hS2 Ztr ?hy ?_
  case hy=>exact mHof2
  try simp only [Act.put]
  refine tk2 (i:=7) (v:=?_) rfl hS2 Ztr ?hy ?_
  case hy=>exact mHof2
  try simp only [Act.put]
  have hS:=hs
  refine Zb7 (i:=2) (j:=10) (o:=_) (o':=_) (by kernel_rfl) rfl rfl (fun K_ hK=>?g0) (fun K_ hK=>?g1)
  case' g0=>
   go_simp
   go_at_call 35
   refine (varsOf_any p.ins _ K0 (G1.out.le hS.le VrC.mono) (by omega) _ hS.isin).mono ?_
   rintro r wc1 ⟨v1,K1,rfl,hv1,hst⟩
   obtain⟨x1,y1,rfl⟩:=hv1.len
   have hS:=hS.trans hst
   have hS2:K0.In wc1:=fun b o e=>hS.isin b o (hS.le b o e)
   refine hK.out _ _ hS2 Ztr ?_
   clear hst
   clear hK K_
   try simp only [tkS]
   refine Zb7 (i:=5) (j:=10) (o:=_) (o':=_) (by kernel_rfl) rfl rfl (fun K_ hK=>?g2) (fun K_ hK=>?g3)
   case' g2=>
    go_simp
    go_at_call 36
    refine (Zfp p.as _ K1 (G4.out.le hS.le) (by omega) _ hS.isin).mono ?_
    rintro r wc2 ⟨v2,K2,rfl,hv2,hst⟩
    obtain⟨x2,y2,rfl⟩:=hv2.len
    have hv1:=hv1.le hst.le VrC.mono
    have hS:=hS.trans hst
    have hS2:K0.In wc2:=fun b o e=>hS.isin b o (hS.le b o e)
    refine hK.out _ _ hS2 Ztr ?_
    clear hst
    clear hK K_
    try simp only [tkS]
    refine Zb7 (i:=8) (j:=10) (o:=_) (o':=_) (by kernel_rfl) rfl rfl (fun K_ hK=>?g4) (fun K_ hK=>?g5)
    case' g4=>
     go_simp
     go_at_call 36
     refine (Zfp p.cs _ K2 (G5.out.le hS.le) (by omega) _ hS.isin).mono ?_
     rintro r wc3 ⟨v3,K3,rfl,hv3,hst⟩
     obtain⟨x3,y3,rfl⟩:=hv3.len
     have hv1:=hv1.le hst.le VrC.mono
     have hv2:=hv2.le hst.le
     have hS:=hS.trans hst
     have hS2:K0.In wc3:=fun b o e=>hS.isin b o (hS.le b o e)
     refine hK.out _ _ hS2 Ztr ?_
     clear hst
     clear hK K_
     try simp only [tkS]
     refine tk2 (i:=9) (v:=?_) rfl hS2 Ztr ?hy ?_
     case hy=>exact mHof3
     try simp only [Act.put,List.setIfInBounds_toArray]
     refine Zwo 10 rfl fun K_ hK=>?_
     go_simp
     refine hK.out _ _ (hS2.alloc _) Ztr ?_
     have hKB:K3 wc3.heap.size=none:=hS.isin.isNone (Nat.le_refl _)
     have hBge:W1.heap.size≤wc3.heap.size:=hS.below.size
     have hS:=Zgk hS (.cells #[.slice none 0 0,.slice none 0 0,.slice none 0 0,.slice none 0 0,.slice none 0 0] 41)
     have hS2:=hS2.alloc (.cells #[.slice none 0 0,.slice none 0 0,.slice none 0 0,.slice none 0 0,.slice none 0 0] 41)
     have hbx:(wc3.alloc (.cells #[.slice none 0 0,.slice none 0 0,.slice none 0 0,.slice none 0 0,.slice none 0 0] 41)).heap[wc3.heap.size]?=some (.cells #[.slice none 0 0,.slice none 0 0,.slice none 0 0,.slice none 0 0,.slice none 0 0] 41 (0,0)):=heap_alloc_new _ _
     have hlt:wc3.heap.size<(wc3.alloc (.cells #[.slice none 0 0,.slice none 0 0,.slice none 0 0,.slice none 0 0,.slice none 0 0] 41)).heap.size:=by simp
     generalize World.alloc wc3 (.cells #[.slice none 0 0,.slice none 0 0,.slice none 0 0,.slice none 0 0,.slice none 0 0] 41)=WA at hS hS2 hbx hlt ⊢
     generalize hBB:wc3.heap.size=B at hKB hBge hbx hlt ⊢
     clear hK K_
     try simp only [tkS]
     obtain⟨⟨z0,z1,z2,z3,z4⟩,f0,f1,f2,f3,f4⟩:=Zbp hbx
     refine Zwo 11 rfl fun K_ hK=>?_
     go_simp
     refine hK.out _ _ (fun b o e=>in5 hS.isin hKB _ _ _ _ _ b o (hS.le b o e)) Ztr ?_
     clear hK K_
     try simp only [tkS]
     have hF:=foo_start (F:=100) HST.out hS hbx hKB hBge HR0.out HHR.out (Nat.le_succ _) hv1 hv2 hv3
     exact Zhb (by kernel_rfl) ⟨_,_,_,_,_,_,_,_,rfl,hS.le,hF⟩ _
    case' g5=>
     go_simp
     refine hK.out _ _ (hS2.alloc _) Ztr ?_
     have hKB:K2 wc2.heap.size=none:=hS.isin.isNone (Nat.le_refl _)
     have hBge:W1.heap.size≤wc2.heap.size:=hS.below.size
     have hS:=Zgk hS (.cells #[.slice none 0 0,.slice none 0 0,.slice none 0 0,.slice none 0 0,.slice none 0 0] 41)
     have hS2:=hS2.alloc (.cells #[.slice none 0 0,.slice none 0 0,.slice none 0 0,.slice none 0 0,.slice none 0 0] 41)
     have hbx:(wc2.alloc (.cells #[.slice none 0 0,.slice none 0 0,.slice none 0 0,.slice none 0 0,.slice none 0 0] 41)).heap[wc2.heap.size]?=some (.cells #[.slice none 0 0,.slice none 0 0,.slice none 0 0,.slice none 0 0,.slice none 0 0] 41 (0,0)):=heap_alloc_new _ _
     have hlt:wc2.heap.size<(wc2.alloc (.cells #[.slice none 0 0,.slice none 0 0,.slice none 0 0,.slice none 0 0,.slice none 0 0] 41)).heap.size:=by simp
     generalize World.alloc wc2 (.cells #[.slice none 0 0,.slice none 0 0,.slice none 0 0,.slice none 0 0,.slice none 0 0] 41)=WA at hS hS2 hbx hlt ⊢
     generalize hBB:wc2.heap.size=B at hKB hBge hbx hlt ⊢
     exact mHof4
   case' g3=>
    go_simp
    refine hK.out _ _ (hS2.alloc _) Ztr ?_
    have hKB:K1 wc1.heap.size=none:=hS.isin.isNone (Nat.le_refl _)
    have hBge:W1.heap.size≤wc1.heap.size:=hS.below.size
    have hS:=Zgk hS (.cells #[.slice none 0 0,.slice none 0 0,.slice none 0 0,.slice none 0 0,.slice none 0 0] 41)
    have hS2:=hS2.alloc (.cells #[.slice none 0 0,.slice none 0 0,.slice none 0 0,.slice none 0 0,.slice none 0 0] 41)
    have hbx:(wc1.alloc (.cells #[.slice none 0 0,.slice none 0 0,.slice none 0 0,.slice none 0 0,.slice none 0 0] 41)).heap[wc1.heap.size]?=some (.cells #[.slice none 0 0,.slice none 0 0,.slice none 0 0,.slice none 0 0,.slice none 0 0] 41 (0,0)):=heap_alloc_new _ _
    have hlt:wc1.heap.size<(wc1.alloc (.cells #[.slice none 0 0,.slice none 0 0,.slice none 0 0,.slice none 0 0,.slice none 0 0] 41)).heap.size:=by simp
    generalize World.alloc wc1 (.cells #[.slice none 0 0,.slice none 0 0,.slice none 0 0,.slice none 0 0,.slice none 0 0] 41)=WA at hS hS2 hbx hlt ⊢
    generalize hBB:wc1.heap.size=B at hKB hBge hbx hlt ⊢
    exact mHof5
  case' g1=>
   go_simp
   refine hK.out _ _ (hS2.alloc _) Ztr ?_
   have hKB:K0 Wd.heap.size=none:=hS.isin.isNone (Nat.le_refl _)
   have hBge:W1.heap.size≤Wd.heap.size:=hS.below.size
   have hS:=Zgk hS (.cells #[.slice none 0 0,.slice none 0 0,.slice none 0 0,.slice none 0 0,.slice none 0 0] 41)
   have hS2:=hS2.alloc (.cells #[.slice none 0 0,.slice none 0 0,.slice none 0 0,.slice none 0 0,.slice none 0 0] 41)
   have hbx:(Wd.alloc (.cells #[.slice none 0 0,.slice none 0 0,.slice none 0 0,.slice none 0 0,.slice none 0 0] 41)).heap[Wd.heap.size]?=some (.cells #[.slice none 0 0,.slice none 0 0,.slice none 0 0,.slice none 0 0,.slice none 0 0] 41 (0,0)):=heap_alloc_new _ _
   have hlt:Wd.heap.size<(Wd.alloc (.cells #[.slice none 0 0,.slice none 0 0,.slice none 0 0,.slice none 0 0,.slice none 0 0] 41)).heap.size:=by simp
   generalize World.alloc Wd (.cells #[.slice none 0 0,.slice none 0 0,.slice none 0 0,.slice none 0 0,.slice none 0 0] 41)=WA at hS hS2 hbx hlt ⊢
   generalize hBB:Wd.heap.size=B at hKB hBge hbx hlt ⊢
   clear hK K_
   try simp only [tkS]
   refine Zwo 2 rfl fun K_ hK=>?_
   go_simp
   go_at_call 35
   refine (varsOf_any p.ins _ K0 (G1.out.le hS.le VrC.mono) (by omega) _ hS.isin).mono ?_
   rintro r wc1 ⟨v1,K1,rfl,hv1,hst⟩
   obtain⟨x1,y1,rfl⟩:=hv1.len
   have hKB:K1 B=none:=(hst.fresh B hlt).trans hKB
   have hbx:=(hst.below.block B hlt).trans hbx
   have hlt:B<wc1.heap.size:=Nat.lt_of_lt_of_le hlt hst.below.size
   have hS:=hS.trans hst
   have hS2:K0.In wc1:=fun b o e=>hS.isin b o (hS.le b o e)
   refine hK.out _ _ hS2 Ztr ?_
   clear hst
   exact mHof5
 intro e a' w' h
 cases e with
 | normal=>
  obtain⟨B,x1,y1,x2,y2,x3,y3,K3,rfl,hle3,hF⟩:=h
  have hk1:K3.cell w.heap.size 1=some (.slice ao p.outs.length co):=hle3.cell k1
  have hk2:K3.cell w.heap.size 2=some (.slice al p.fl.length cl):=hle3.cell k2
  have GO:=Zhd (G2.out.le hle3 StrC.mono)
  have GF:=Zhd (G3.out.le hle3 (FlC.mono hle3))
  generalize hWF:w'=WF at *
  have HF:=Zhd hF
  clear hF hs k0 k1 k2 k3 k4 G1 G2 G3 G4 G5 HST HR0 HHR
  clear hWF
  obtain⟨q0,q1,q2,q3,q4⟩:=(Zbp HF.out.box).1
  have f1:=(Zbp HF.out.box).2.2.1
  have e1:=HF.out.step.isin.cell hk1
  obtain⟨v',WO,KO,hrun,hso,hvo⟩:=run_append_strs HF.out.step.isin GO.out s2
  have HFO:=Zhd (HF.out.next hso)
  have p1:=(Zbp HFO.out.box).1.2.1
  have g1:=(Zbp HFO.out.box).2.2.1
  have hl2:KO.cell w.heap.size 2=some (.slice al p.fl.length cl):=hso.le.cell hk2
  have GF2:=Zhd (GF.out.le hso.le (FlC.mono hso.le))
  have HVO:=Zhd hvo
  obtain⟨xo,yo,rfl⟩:=hvo.len
  clear hso hvo
  go_wp2_with (at_builtin;refine Zbj rfl _ _ _ _ rfl _ _ rfl rfl _ _ hrun ?_)
  have HF2:=Zhd (HFO.out.set1 (by decide) HVO.out)
  generalize World.setCell _ _ _=WL at HF2 ⊢
  clear HFO HF p1 g1 q0 q1 q2 q3 q4 f1 e1 hrun
  go_loopw [4] (fun i wr=>∃ (k:Nat) (u:Value) (xs:List Value) (K:Kn),i = .int .i64 k∧k≤p.fl.length∧KO.le K∧FoO 41 100 H w (w.heap.size+1) B wr (.slice x1 p.ins.length y1) (.slice xo p.outs.length yo) u (.slice x2 p.as.length y2) (.slice x3 p.cs.length y3) p p.outs k xs K) (fun i _=>p.fl.length - (intOf i).toNat)
  case atStart=>exact⟨0,_,_,_,rfl,Nat.zero_le _,Kn.le_refl _,HF2.out⟩
  obtain⟨k,u,xs,K,rfl,hk,hle,hS⟩:=hrel
  have HS:=Zhd hS
  obtain⟨au,cu,rfl,_⟩:=Zas hS.row
  clear hS
  have hl3:K.cell w.heap.size 2=some (.slice al p.fl.length cl):=hle.cell hl2
  have m2:=HS.out.step.isin.cell hl3
  by_cases hkl:k<p.fl.length
  ·obtain⟨b,off,cap0,he,_,_,hcs⟩:=FlsV.cell GF2.out (fun e=>by rw [e] at hkl;simp at hkl)
   cases he
   obtain⟨ax,cx,d0,d1,d2,d3,d4,d5,hx⟩:=hcs k hkl
   have hpx:p.fl[k].e.parts≤1000000000000:=by
    have:=Zau (p.fl.map (·.e)) k (by simpa using hkl)
    simp at this
    omega
   have d0:=hle.cell d0
   have d1:=hle.cell d1
   have d2:=hle.cell d2
   have d3:=hle.cell d3
   have d4:=hle.cell d4
   have d5:=hle.cell d5
   have hx:=hx.le hle
   have hxe:∃ x,p.fl[k]=x:=⟨_,rfl⟩
   obtain⟨x,hxe⟩:=hxe
   rw [hxe] at d0 d1 d2 d3 d4 d5 hx hpx
   have HXE:=Zhd hxe
   have HCS:=Zhd hx
   clear hxe hcs hx
   go_wp2_with fail
   have hSD:=HS.out.drew
   have hS2:K.In wr.drew:=hSD.step.isin
   have hT2:wr.drew.cell? ⟨B,2,none⟩=some (.slice au k cu):=hSD.c2
   refine Zae (fun w'=>K.In w') (fun w'=>w'.cell? ⟨B,2,none⟩=some (.slice au k cu)) 23 (by kernel_rfl) ?_
   refine tk2 (i:=0) (v:=?_) rfl hS2 (fun _=>hT2) ?hy ?_
   case hy=>exact Zeq
   try simp only [Act.put,List.setIfInBounds_toArray]
   refine Zce (i:=1) (oi:=_) (om:=_) (v:=?_) rfl (by decide) (by kernel_rfl) (by kernel_rfl) (by kernel_rfl) (by kernel_rfl) rfl (by kernel_rfl) (by kernel_rfl) (fun _ _ _ h=>h) hS2 hT2 (Or.inl ⟨by rfl,?hy⟩) ?_
   case hy=>intro w hTw;go_simp<;>with_reducible rfl
   try simp only [Act.put]
   refine tk2 (i:=2) (v:=?_) rfl hS2 (fun _=>hT2) ?hy ?_
   case hy=>exact Zeq
   try simp only [Act.put]
   refine tk2 (i:=3) (v:=?_) rfl hS2 (fun _=>hT2) ?hy ?_
   case hy=>exact Zeq
   try simp only [Act.put]
   refine tk2 (i:=4) (v:=?_) rfl hS2 (fun _=>hT2) ?hy ?_
   case hy=>exact Zeq
   try simp only [Act.put]
   refine tk2 (i:=5) (v:=?_) rfl hS2 (fun _=>hT2) ?hy ?_
   case hy=>exact Zeq
   try simp only [Act.put]
   refine tk2 (i:=6) (v:=?_) rfl hS2 (fun _=>hT2) ?hy ?_
   case hy=>exact Zeq
   try simp only [Act.put]
   refine tk2 (i:=7) (v:=?_) rfl hS2 (fun _=>hT2) ?hy ?_
   case hy=>exact Zeq
   try simp only [Act.put]
   refine tk2 (i:=8) (v:=?_) rfl hS2 (fun _=>hT2) ?hy ?_
   case hy=>exact Zeq
   try simp only [Act.put]
   refine tk2 (i:=9) (v:=?_) rfl hS2 (fun _=>hT2) ?hy ?_
   case hy=>exact Zeq
   try simp only [Act.put]
   refine tk2 (i:=10) (v:=?_) rfl hS2 (fun _=>hT2) ?hy ?_
   case hy=>exact Zeq
   try simp only [Act.put]
   refine tk2 (i:=11) (v:=?_) rfl hS2 (fun _=>hT2) ?hy ?_
   case hy=>exact Zeq
   try simp only [Act.put]
   refine tk2 (i:=12) (v:=?_) rfl hS2 (fun _=>hT2) ?hy ?_
   case hy=>exact Zeq
   try simp only [Act.put]
   refine tk2 (i:=13) (v:=?_) rfl hS2 (fun _=>hT2) ?hy ?_
   case hy=>exact Zeq
   try simp only [Act.put]
   refine tk2 (i:=14) (v:=?_) rfl hS2 (fun _=>hT2) ?hy ?_
   case hy=>exact Zeq
   try simp only [Act.put]
   refine tk2 (i:=15) (v:=?_) rfl hS2 (fun _=>hT2) ?hy ?_
   case hy=>exact Zeq
   try simp only [Act.put]
   refine tk2 (i:=16) (v:=?_) rfl hS2 (fun _=>hT2) ?hy ?_
   case hy=>exact Zeq
   try simp only [Act.put]
   refine tk2 (i:=17) (v:=?_) rfl hS2 (fun _=>hT2) ?hy ?_
   case hy=>exact Zeq
   try simp only [Act.put]
   refine tk2 (i:=18) (v:=?_) rfl hS2 (fun _=>hT2) ?hy ?_
   case hy=>exact Zeq
   try simp only [Act.put]
   refine tk2 (i:=19) (v:=?_) rfl hS2 (fun _=>hT2) ?hy ?_
   case hy=>exact Zeq
   try simp only [Act.put]
   refine Zwo 20 rfl fun K_ hK=>?_
   go_simp
   go_at_call 37
   refine (exprOf_any x.e _ K ⟨_,rfl,HCS.out⟩ hpx _ hS2).mono ?_
   rintro r wc ⟨v',K2,rfl,hv2,hst⟩
   obtain⟨u2,rfl,hu2⟩:=hv2
   obtain⟨ax2,cx2,rfl⟩:=hu2.len
   have hSE:=hSD.next hst
   have hS2:K.In wc:=fun b o e=>hst.isin b o (hst.le b o e)
   have hT2:=hSE.c2
   refine hK.out _ _ hS2 (fun _=>hT2) ?_
   clear hK K_
   try simp only [tkS]
   refine tk2 (i:=21) (v:=?_) rfl hS2 (fun _=>hT2) ?hy ?_
   case hy=>exact Zeq
   try simp only [Act.put,List.setIfInBounds_toArray]
   refine Zwo 22 rfl fun K_ hK=>?_
   go_simp
   have hSF:=hSE.alloc (.cells #[.string x.name,.int .i64 x.kind,.string x.e.op,.int .i64 x.e.n,.string x.e.s,.slice ax2 x.e.l.length cx2] 100)
   refine hK.out _ _ (hS2.alloc _) (fun _=>hSF.c2) ?_
   clear hK K_
   try simp only [tkS]
   refine Zwo 23 rfl fun K_ hK=>?_
   refine step_append_lies _ (by rfl) _ _ _ (by rfl) w.heap.size 100 i0 _ 6 88 Tryz.underlying38 hi0 hz0 hz1 hz2 rfl (by omega) _ k xs (by rfl) hSF.row ⟨_,0,none⟩ 1 1 [.string x.name,.int .i64 x.kind,.string x.e.op,.int .i64 x.e.n,.string x.e.s,.slice ax2 x.e.l.length cx2] (by rfl) (by rfl) (by exact World.news_of_block (heap_alloc_new _ _)) (by simp [Value.oneCell']) (by omega) (by unfold maxLen;omega) (by omega) hSF.step.below.size _ rfl ?_
   intro gg cap' w3 hown hgrow hat hltg
   obtain⟨hf1,hf2,hin3,hf3⟩:=FoO.more hSF (by decide) hkl HXE.out hu2 hown hgrow hat
   have hS3:K.In w3:=fun b o e=>hin3 b o (hst.le b o e)
   refine hK.out _ _ hS3 (fun h=>absurd h (by decide)) ?_
   clear hK K_
   try simp only [Act.put,List.setIfInBounds_toArray]
   refine tk2 (i:=24) (v:=?_) rfl hS3 (fun h=>absurd h (by decide)) ?hy ?_
   case hy=>exact Zeq
   try simp only [Act.put]
   refine Zwo 25 rfl fun K_ hK=>?_
   go_simp
   refine hK.out _ _ (fun b o e=>hf3.step.isin b o (hst.le b o e)) (fun h=>absurd h (by decide)) ?_
   clear hK K_
   try simp only [tkS]
   refine Zwd ?_
   generalize World.setCell _ _ _=W9 at hf3 ⊢
   go_wp2_with fail
   go_roundw
   case rel=>exact⟨k+1,_,_,_,by go_num,by omega,Kn.le_trans hle hst.le,hf3⟩
   simp [intOf];omega
  obtain rfl:k=p.fl.length:=by omega
  have hxs:FsX K (List.take p.fl.length p.fl) xs:=HS.out.xs
  rw [List.take_of_length_le (Nat.le_refl _)] at hxs
  obtain⟨K',hle',hin,hv,hfr⟩:=slv_of_own2 (R:=FlC) HS.out.step.isin HS.out.row HS.out.noU (fun K' hle i hi f hf=>hxs.flc hle i hi f hf)
  obtain⟨⟨q0,q1,q2,q3,q4⟩,_⟩:=Zbp HS.out.box
  obtain⟨⟨r0,r1,r2,r3,r4⟩,f0,f1,f2,f3,f4⟩:=Zbp HS.out.res
  have HR2:=Zhd (set5_of HS.out.res (.slice x1 p.ins.length y1) (.slice xo p.outs.length yo) (.slice au p.fl.length cu) (.slice x2 p.as.length y2) (.slice x3 p.cs.length y3))
  have hKR:K' (w.heap.size+1)=none:=by rw [hfr _ (Zel HS.out.row HS.out.res (by decide))];exact HS.out.noR
  have HST:=Zhd (show Kn.Step H w K' (((((wr.setCell ⟨w.heap.size+1,0,none⟩ (.slice x1 p.ins.length y1)).setCell ⟨w.heap.size+1,1,none⟩ (.slice xo p.outs.length yo)).setCell ⟨w.heap.size+1,2,none⟩ (.slice au p.fl.length cu)).setCell ⟨w.heap.size+1,3,none⟩ (.slice x2 p.as.length y2)).setCell ⟨w.heap.size+1,4,none⟩ (.slice x3 p.cs.length y3)) from
   ⟨Kn.le_trans HS.out.step.le hle',fun b hb=>(hfr b (Zbi HS.out.row hb)).trans (HS.out.step.fresh b hb),in5 hin hKR _ _ _ _ _,below5 HS.out.step.below (Nat.le_succ _) _ _ _ _ _⟩)
  have HPP:=Zhd (show PrP K' p (.slice x1 p.ins.length y1) (.slice xo p.outs.length yo) (.slice au p.fl.length cu) (.slice x2 p.as.length y2) (.slice x3 p.cs.length y3) from
   ⟨HS.out.ins.le hle' VrC.mono,HS.out.outs.le hle' StrC.mono,hv,HS.out.asr.le hle',HS.out.chk.le hle'⟩)
  clear hin hv hfr hxs hKR hle' HVO GF2 hl2 hl3
  go_wp2_with fail
  obtain⟨⟨e0,e1,e2,e3,e4⟩,_⟩:=Zbp HR2.out
  refine bodyPost_ret (v := .agg #[.slice x1 p.ins.length y1,.slice xo p.outs.length yo,.slice au p.fl.length cu,.slice x2 p.as.length y2,.slice x3 p.cs.length y3]) (by simp [results,Tryz.results9,go_sem,e0,e1,e2,e3,e4]) rfl ?_
  exact⟨_,_,_,_,_,K',rfl,HPP.out,HST.out⟩
 | _=>exact h.elim
def heavy (p:Pr):Bool:=decide (1500<Ex.weightL p.terms) || decide (100<p.fl.length) || decide (40<p.ins.length)
def heavyI (p:Pr):Int:=if heavy p then 1 else 0
theorem heavy_any (H:Kn) (p:Pr) (vi vo vl va vc:Value) (hp:PrP H p vi vo vl va vc) (hsz:Ex.weightL p.terms≤1000000000∧p.fl.length≤1000000000∧p.ins.length≤1000000000) (w:World) (hH:H.In w):
  Calls Tryz.prog 6 #[.agg #[vi,vo,vl,va,vc]] w fun r w'=>r = .returned (.int .i64 (heavyI p))∧Below w.heap.size w w':=by
 have HP:=Zhd hp
 obtain⟨h1,h2,h3,h4,h5⟩:=hp
 obtain⟨ai,ci,rfl⟩:=h1.len
 obtain⟨ao,co,rfl⟩:=h2.len
 obtain⟨al,cl,rfl⟩:=h3.len
 obtain⟨aa,ca,rfl⟩:=h4.len
 obtain⟨ac,cc,rfl⟩:=h5.len
 clear h1 h2 h3 h4 h5
 obtain⟨s1,s2,s3⟩:=hsz
 have hll:=Zee p.terms
 go_enter Tryz.func6,Tryz.ntmps6
 have hq:∀ i,(w.alloc (.cells #[.slice ai p.ins.length ci,.slice ao p.outs.length co,.slice al p.fl.length cl,.slice aa p.as.length ca,.slice ac p.cs.length cc] 27)).cell? ⟨w.heap.size,i,none⟩=(#[.slice ai p.ins.length ci,.slice ao p.outs.length co,.slice al p.fl.length cl,.slice aa p.as.length ca,.slice ac p.cs.length cc]:Array Value)[i]?:=fun i=>World.cell?_alloc_new _ _ _ _
 have hb0:Below w.heap.size w (w.alloc (.cells #[.slice ai p.ins.length ci,.slice ao p.outs.length co,.slice al p.fl.length cl,.slice aa p.as.length ca,.slice ac p.cs.length cc] 27)):=(Below.refl _ _).alloc (Nat.le_refl _) _
 have hlt1:w.heap.size<(w.alloc (.cells #[.slice ai p.ins.length ci,.slice ao p.outs.length co,.slice al p.fl.length cl,.slice aa p.as.length ca,.slice ac p.cs.length cc] 27)).heap.size:=by simp
 go_wp2_with fail
 generalize w.alloc (.cells #[.slice ai p.ins.length ci,.slice ao p.outs.length co,.slice al p.fl.length cl,.slice aa p.as.length ca,.slice ac p.cs.length cc] 27)=W1 at *
 have HQ:=Zhd hq
 have HB0:=Zhd hb0
 clear hq hb0
 refine (Zir H p _ _ _ _ _ HP.out (by omega) W1 (hH.below HB0.out)).mono ?_
 rintro r w2 ⟨v,K,rfl,hv,hst⟩
 obtain⟨a,c,rfl⟩:=hv.len
 have HV:=Zhd hv
 have HST:=Zhd hst
 have HB2:=Zhd (HB0.out.trans (hst.below.mono HB0.out.size))
 have q0:=Zhd (show w2.cell? ⟨w.heap.size,0,none⟩=some (.slice ai p.ins.length ci) by rw [hst.below.cell (p:=⟨w.heap.size,0,none⟩) hlt1];exact HQ.out 0)
 have q2:=Zhd (show w2.cell? ⟨w.heap.size,2,none⟩=some (.slice al p.fl.length cl) by rw [hst.below.cell (p:=⟨w.heap.size,2,none⟩) hlt1];exact HQ.out 2)
 have hlt2:w.heap.size<w2.heap.size:=Nat.lt_of_lt_of_le hlt1 hst.below.size
 clear hv hst
 go_wp2_with fail
 go_loopw [4,5] (fun n i wr=>∃ k:Nat,i = .int .i64 k∧k≤p.terms.length∧n = .int .i64 (Ex.weightL (p.terms.take k):Nat)∧Below w2.heap.size w2 wr) (fun _ i _=>p.terms.length - (intOf i).toNat)
 case atStart=>exact⟨0,rfl,Nat.zero_le _,rfl,Below.refl _ _⟩
 obtain⟨k,rfl,hk,rfl,hb⟩:=hrel
 have HB:=Zhd hb
 have e0:wr.cell? ⟨w.heap.size,0,none⟩=some (.slice ai p.ins.length ci):=by rw [hb.cell (p:=⟨w.heap.size,0,none⟩) hlt2];exact q0.out
 have e2:wr.cell? ⟨w.heap.size,2,none⟩=some (.slice al p.fl.length cl):=by rw [hb.cell (p:=⟨w.heap.size,2,none⟩) hlt2];exact q2.out
 clear hb
 have hpl:=Zex p.terms k
 by_cases hkl:k<p.terms.length
 ·obtain⟨b,off,ax,cx,rfl,c0,c1,c2,c3,hx⟩:=HV.out.at hkl
  have hHr:=HST.out.isin.below HB.out
  have c0:=hHr.cell c0
  have c1:=hHr.cell c1
  have c2:=hHr.cell c2
  have c3:=hHr.cell c3
  have hps:=Zfy p.terms k hkl
  have hpl2:=Zex p.terms (k+1)
  have PS:=Zhd hps
  have hpx:p.terms[k].weight≤1000000000000000000:=by omega
  have hw1:Ex.weightL (p.terms.take k)+p.terms[k].weight≤1000000000:=by omega
  clear hps
  generalize p.terms[k]=x at *
  go_wp2_with fail
  refine (weight_any K x _ hx hpx _ hHr).mono ?_
  rintro r w3 ⟨rfl,hb3⟩
  have hW3:=HB.out.trans (hb3.mono HB.out.size)
  go_wp2_with fail
  go_roundw
  case rel=>exact⟨k+1,by go_num,by omega,by rw [PS.out];go_num,hW3⟩
  simp [intOf];omega
 obtain rfl:k=p.terms.length:=by omega
 have HF:=Zhd (HB2.out.trans (HB.out.mono HB2.out.size))
 rw [List.take_of_length_le (Nat.le_refl _)]
 have hd:heavy p=(decide (1500<Ex.weightL p.terms) || decide (100<p.fl.length) || decide (40<p.ins.length)):=rfl
 have HD:=Zhd hd
 clear hd
 by_cases d1:1500<Ex.weightL p.terms
 ·go_wp2_with fail
  go_ret
  exact⟨Zah (by unfold heavyI;rw [HD.out];simp [d1]),HF.out⟩
 by_cases d2:100<p.fl.length
 ·go_wp2_with fail
  go_ret
  exact⟨Zah (by unfold heavyI;rw [HD.out];simp [d2]),HF.out⟩
 by_cases d3:40<p.ins.length
 ·go_wp2_with fail
  go_ret
  exact⟨Zah (by unfold heavyI;rw [HD.out];simp [d3]),HF.out⟩
 go_wp2_with fail
 go_ret
 exact⟨Zah (by unfold heavyI;rw [HD.out];simp [d1,d2,d3]),HF.out⟩
end Go.Proofs.YtgoccoldkfpbgaaGreatDoor
