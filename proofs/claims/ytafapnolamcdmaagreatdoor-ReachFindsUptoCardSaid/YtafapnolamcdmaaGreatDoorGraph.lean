/- Walks: order.graph. -/
import Derived.Test.YtafapnolamcdmaaGreatDoorNeeds
import Derived.Deep.OwnRows
import Derived.WalkSpells
import Derived.Lib.SliceRun
import Derived.Deep.LoopGhost
set_option linter.all false
namespace Go.Proofs.YtafapnolamcdmaaGreatDoor
set_option maxRecDepth 100000
set_option maxHeartbeats 16000000
open Go.RowKit Mx
def IntC(x:Nat)(f:Nat->Option Value):Prop:=f 0=some (natV x)
abbrev Zco(H:Kn):List Nat->Value->Prop:=SlV H 1 IntC
abbrev GrV(H:Kn):List (List Nat)->Value->Prop:=SlV H 1 λl f=>∃u,f 0=some u/\Zco H l u
theorem IntC.mono(x:Nat)(f g:Nat->Option Value)(h:∀j u,f j=some u->g j=some u)(hx:IntC x f):IntC x g:=h _ _ hx
theorem Zco.le{H H':Kn}(He:H.le H'){l:List Nat}{v:Value}(h:Zco H l v):Zco H' l v:=SlV.le h He IntC.mono
theorem GrV.le{H H':Kn}(He:H.le H'){g:List (List Nat)}{v:Value}(h:GrV H g v):GrV H' g v:=
 SlV.le h He λ_ _ _ hfg ⟨u,h1,h2⟩=>⟨u,hfg _ _ h1,Zco.le He h2⟩
def Zci(R:Nat)(w:World):Kn:=λb=>if b=R then none else w.heap[b]?
theorem Za8{R:Nat}{w:World}{b:Nat}(h:b≠R)(i:Nat):(Zci R w).cell b i=w.cell? ⟨b,i,none⟩:=by
 rw[<- Zaj];simp[Kn.cell,Zci,Zan,h]
theorem butKn_le_all(R:Nat)(w:World):(Zci R w).le (Zan w):=λb o e=>by
 unfold Zci at e
 split at e
 .cases e
 exact e
theorem butKn_le{R:Nat}{w w':World}(h:∀b,b<w.heap.size->b≠R->w'.heap[b]?=w.heap[b]?):(Zci R w).le (Zci R w'):=λb o e=>by
 unfold Zci at e ⊢
 split at e
 .cases e
 rename_i hb
 rw[if_neg hb,h b (Zlt e) hb];exact e
theorem ints_of_row{R:Nat}{w:World}{base:Nat}{t:TypeId}{v:Value}{l:List Nat}(h:w.ownsRow base t 1 v l.length (l.map natV))(hR:v.ownBlock≠some R):Zco (Zci R w) l v:=by
 by_cases h0:l=[]
 .obtain⟨a,c,h1,_⟩:=Zar h;exact .inl ⟨h0,a,c,by rw[h1,h0];rfl⟩
 obtain⟨g,Ha,rfl,h2,h3,_,_,h4⟩:=Zbr h (List.length_pos_iff.2 h0);refine .inr ⟨g,0,Ha,rfl,h2,h3,λi hi=>?_⟩;show(Zci R w).cell g (0+i * 1+0)=some (natV l[i]);rw[Za8 (λe=>hR (by rw[<- e];rfl))];simp only[Nat.zero_add,Nat.mul_one,Nat.add_zero];exact h4 i _ (by simp[hi])
structure GrI(w wi u:World)(R i base:Nat)(cs:Array Value)(acc:List Nat):Prop where
 below:Ybw w u
 size:base<=u.heap.size
 row:∃v,u.heap[R]?=some (.cells (cs.setIfInBounds i v) 122 (0,0))/\u.ownsRow base 3 1 v acc.length (acc.map natV)
 keep:∀b,b<base->b≠R->u.heap[b]?=wi.heap[b]?
theorem Zbj{w:World}{base:Nat}{e:TypeId}{k n:Nat}{v:Value}{xs:List Value}(h:w.ownsRow base e k v n xs){b:Nat}(hb:b<base):v.ownBlock≠some b:=λe=>by have:=(h.lt b e).1;omega
theorem Zam{w:World}{base:Nat}{e:TypeId}{k n:Nat}{v:Value}{xs:List Value}(h:w.ownsRow base e k v n xs){a:Addr}(ha:v.ownBlock≠some a.block)(u:Value):(w.setCell a u).ownsRow base e k v n xs:=by
 refine⟨h.1,h.2.imp id ?_⟩;rintro⟨g,Ha,cur,h1,h2,h3,h4⟩;refine⟨g,Ha,cur,h1,h2,?_,h4⟩;rw[Below.heap_setCell w a u g (λe=>ha (by rw[h1,<- e];rfl))];exact h3
theorem Zew{w:World}{base:Nat}{e:TypeId}{k n:Nat}{v:Value}{xs:List Value}(h:w.ownsRow base e k v n xs){b:Nat}{c:Array Value}{t:TypeId}{fr:Nat×Nat}(hb:w.heap[b]?=some (.cells c t fr))(ht:t≠e):v.ownBlock≠some b:=λhv=>by
 rcases h.2 with ⟨rfl,_⟩|⟨g,Ha,cur,rfl,_,hg,_⟩
 .simp [Value.ownBlock] at hv
 simp[Value.ownBlock] at hv;subst hv;rw[hg] at hb;cases hb;exact ht rfl
theorem gr_seer(H:Kn)(w wi:World)(R i n bat Bo Bi base:Nat)(cs:Array Value)(at_:Env Nat)(hH:H.In w)(hM:Zay natV wi bat at_)(hbat:bat<base/\bat≠R)(hRw:w.heap.size<=R/\R<base)(kL:w.heap.size<=base)
  (hBo:wi.cell? ⟨Bo,0,none⟩=some (.slice (some ⟨R,0,none⟩) n n)) (Qy:wi.cell? ⟨Bi,0,none⟩=some (.int .i64 i)) (hB:Bo<base/\Bi<base/\R≠Bo/\R≠Bi) (hi:i<n) (hn:n<=1000000) (JJ:i<cs.size):
  Seer 116 #[.pointer (some ⟨Bo,0,none⟩),.pointer (some ⟨Bi,0,none⟩)] H bat at_ (λacc u=>GrI w wi u R i base cs acc):=by
 obtain⟨b1,b2,b3,b4⟩:=hB;refine⟨λ_ _=>by kernel_rfl,λacc u u' h hb=>?_,λacc u h=>⟨hH.below h.below,hM.of_block (h.keep bat hbat.1 hbat.2)⟩,λacc u j hacc h=>?_⟩
 .obtain⟨v,h1,h2⟩:=h.row;have hs:=h.size;exact⟨h.below.trans (hb.mono (by omega)),Nat.le_trans hs hb.size,⟨v,by rw[hb.block R (by omega)];exact h1,Za1 h2 hb⟩,λb Hr Hs=>by rw[hb.block b (by omega)];exact h.keep b Hr Hs⟩
 obtain⟨v,h1,h2⟩:=h.row;have hs:=h.size;have c1:u.cell? ⟨Bo,0,none⟩=some (.slice (some ⟨R,0,none⟩) n n):=by rw[World.cell?_of_block (w:=wi) (h.keep Bo b1 (Ne.symm b3))];exact hBo
 have c2:u.cell? ⟨Bi,0,none⟩=some (.int .i64 i):=by rw[World.cell?_of_block (w:=wi) (h.keep Bi b2 (Ne.symm b4))];exact Qy
 have Jd:(cs.setIfInBounds i v)[i]?=some v:=by simp[JJ]
 refine(graph1_any Bo Bi R i n j acc.length base _ v (acc.map natV) u c1 c2 hi hn h1 Jd h2 hs (by omega) ⟨b3,b4⟩ ⟨Zbj h2 hRw.2,Zbj h2 b1,Zbj h2 b2⟩).mono ?_;rintro r w' ⟨rfl,row',w1,ho,hg,rfl,Hb⟩;have hRu:R<u.heap.size:=by omega
 have kD:w1.heap[R]?=some (.cells (cs.setIfInBounds i v) 122 (0,0)):=by rw[hg.block R hRu (Ne.symm (Zbj h2 hRw.2))];exact h1
 have Hs:row'.ownBlock≠some R:=by
  rcases Hb with e|⟨g,e,jC⟩
  .rw [e];exact Zbj h2 hRw.2
  rw[e];intro e2;cases e2;omega
 refine⟨rfl,⟨(h.below.grown hg (by omega) (λq hq=>by have:=(h2.lt q hq).1;omega)).setCell hRw.1 _,by have:=hg.size;simp[World.setCell];omega,⟨row',?_,?_⟩,λb Hr hb=>?_⟩,λb c t fr hb yV Qp=>?_⟩
 .have:=Zaa w1 R i row' _ _ _ kD;rw[this]
  congr 2
  simp
 .have:=Zam ho (a:=⟨R,i,none⟩) Hs row';simpa using this
 .rw [Below.heap_setCell w1 _ _ b hb,hg.block b (by omega) (Ne.symm (Zbj h2 Hr))];exact h.keep b Hr hb
 have hbR:b≠R:=by
  rintro rfl;rw[h1] at hb;cases hb;exact Qp rfl
 rw[Below.heap_setCell w1 _ _ b hbR,hg.block b (Zlt hb) (Ne.symm (Zew h2 hb yV))];exact hb
theorem atFrom_snoc:∀(l:List Fl) (f:Fl) (i:Nat) (m:Env Nat),Zef i m (l++[f])=(Zef i m l).set f.name (i+l.length)
 | [],f,i,m=>by simp[Zef]
 |x :: l,f,i,m=>by
  simp only[List.cons_append,Zef,List.length_cons];rw[atFrom_snoc l f (i+1)]
  congr 1;omega
theorem made_get(n i:Nat)(h:i<n):(madeCells #[Ys0] n)[i]?=some (Ys0):=by
 simp[madeCells,h,Nat.mod_one]
theorem made_size(n:Nat):(madeCells #[Ys0] n).size=n:=by simp[madeCells]
theorem Tryz.infoInts:(Tryz.prog.info? 122).map (λi=>(i.zero,i.size,i.bytes))=some (some (Ys0),1,24):=by kernel_rfl
theorem graph_any(H:Kn)(p:Pr)(vi vo vl va vc:Value)(hp:PrP H p vi vo vl va vc)(ks:Env Int)(ji:∀f∈p.fl,Zad ks f.e=true/\f.e.parts<=100000)(hn:p.fl.length<=1000000)(w:World)(hH:H.In w):
  Calls Tryz.prog 95 #[.agg #[vi,vo,vl,va,vc]] w λr w'=>∃v,r=.returned v/\GrV (Zan w') p.graph v/\Ybw w w':=by
 obtain⟨h1,h2,h3,h4,h5⟩:=hp;obtain⟨ai,ci,ao,co,al,cl,aa,ca,ac,cc,rfl,rfl,rfl,rfl,rfl⟩:=Ypo h1.len h2.len h3.len h4.len h5.len;have H3:=Zhd h3;have zm:=Zhd ji;clear h1 h2 h3 h4 h5 ji;have zX:=@run_makeMap Tryz.prog;have zt:=run_make_row' (P:=Tryz.prog) 202 122 (Ys0) 24 Tryz.underlying202 Tryz.infoInts rfl .i64 .i64 p.fl.length (by omega) (by omega);go_enter Tryz.func95,Tryz.ntmps95;go_wp2_with fail;have hq:((w.alloc (.cells (Yq5 p ai ao al aa ac ci co cl ca cc) 42)).alloc (.map #[] 0)).cell? ⟨w.heap.size,2,none⟩=some (.slice al p.fl.length cl):=by
  rw[World.cell?_alloc_past _ _ _ (by simp),World.cell?_alloc_new];rfl
 have hM0:Zay natV ((w.alloc (.cells (Yq5 p ai ao al aa ac ci co cl ca cc) 42)).alloc (.map #[] 0)) (w.heap.size+1) Env.none:=by
  have:=Zay.made natV (w.alloc (.cells (Yq5 p ai ao al aa ac ci co cl ca cc) 42));simpa using this
 have Hg:Ybw w ((w.alloc (.cells (Yq5 p ai ao al aa ac ci co cl ca cc) 42)).alloc (.map #[] 0)):=Yba.alloc (by simp) _;have Jt:((w.alloc (.cells (Yq5 p ai ao al aa ac ci co cl ca cc) 42)).alloc (.map #[] 0)).heap.size=w.heap.size+2:=by simp
 generalize (w.alloc (.cells (Yq5 p ai ao al aa ac ci co cl ca cc) 42)).alloc (.map #[] 0)=W0 at *;have HQ:=Zhd hq;have gN:=Zhd hM0;have J4:=Zhd Hg;have hz0':w.heap.size+2<=W0.heap.size:=by omega
 clear hq hM0 Hg Jt;go_loopw[13] (λi wr=>∃k:Nat,i=.int .i64 k/\k<=p.fl.length/\Ybw w wr/\w.heap.size+2<=wr.heap.size/\wr.cell? ⟨w.heap.size,2,none⟩=some (.slice al p.fl.length cl)/\Zay natV wr (w.heap.size+1) (Zef 0 Env.none (p.fl.take k))) (λi _=>p.fl.length - (intOf i).toNat)
 case atStart=>exact⟨0,rfl,Nat.zero_le _,J4.out,hz0',HQ.out,gN.out⟩
 obtain⟨k,rfl,hk,hb,hz,hq,hM⟩:=hrel;have HB:=Zhd hb;have HM:=Zhd hM;have HQr:=Zhd hq;clear hb hM hq;by_cases Hd:k<p.fl.length
 .obtain⟨b,off,rfl,_,kR⟩:=SlV.at H3.out Hd;obtain⟨u,c0,c1,c2,c3,c4,c5,hu⟩:=kR.cells;obtain⟨ax,cx,rfl⟩:=hu.len;have Hw:=hH.below HB.out;have c0:=Hw.cell c0;have c1:=Hw.cell c1;have c2:=Hw.cell c2;have c3:=Hw.cell c3;have c4:=Hw.cell c4;have c5:=Hw.cell c5;simp only[Nat.add_zero] at c0;have TK:=Zhd (show Zef 0 Env.none (p.fl.take (k+1))=(Zef 0 Env.none (p.fl.take k)).set p.fl[k].name k from by
   rw[List.take_succ_eq_append_getElem Hd,atFrom_snoc];simp;congr 1;omega)
  clear Hw hu kR;generalize p.fl[k]=x at *;obtain⟨xn,xk,xe⟩:=x;dsimp only at *;generalize xe.op=xo at *;generalize xe.n=xnn at *;generalize xe.s=xs at *;generalize xe.l.length=xl at *;have hMa:=HM.out.alloc (.cells #[.string xn,.int .i64 xk,.string xo,.int .i64 xnn,.string xs,.slice ax xl cx] 96);have HMA:=Zhd hMa;clear hMa;go_wp2_with(at_mapUpdate;refine Zev natV 124 9 3 Tryz.underlying124 Tryz.underlying9 (w.heap.size+1) _ HMA.out _ _ _ rfl rfl rfl xn rfl k rfl ?_;intro w3 Qb zv);have Js:=Zhd (zv.below (HB.out.alloc HB.out.size (.cells #[.string xn,.int .i64 xk,.string xo,.int .i64 xnn,.string xs,.slice ax xl cx] 96)) (Nat.le_succ _));have kG:=Zhd zv.size;have HQ3:=Zhd (show w3.cell? ⟨w.heap.size,2,none⟩=some (.slice (some ⟨b,off,none⟩) p.fl.length cl) from by rw[zv.cell (p:=⟨w.heap.size,2,none⟩) (show w.heap.size≠w.heap.size+1 by omega),World.cell?_alloc_past _ _ _ (by omega)];exact HQr.out);go_roundw
  case rel=>exact⟨k+1,by go_num,by omega,Js.out,by rw[kG.out];simp;omega,HQ3.out,by rw[TK.out];exact Qb⟩
  simp[intOf];omega
 obtain rfl:k=p.fl.length:=by omega
 have hM:=HM.out;rw[List.take_length] at hM;have Ql:=Zhd (show p.graph=p.fl.map λf=>needs (Zef 0 Env.none p.fl) f.e from rfl);generalize hJ:Zef 0 Env.none p.fl=atm at *;have xJ:=Zhd hJ;have hqr:=HQr.out;have JE:((wr.alloc (.cells (madeCells #[Ys0] p.fl.length) 122)).alloc (.cells #[.slice (some ⟨wr.heap.size,0,none⟩) p.fl.length p.fl.length] 202)).cell? ⟨w.heap.size,2,none⟩=some (.slice al p.fl.length cl):=by
  rw[World.cell?_alloc_past _ _ _ (by simp;omega),World.cell?_alloc_past _ _ _ (by omega)];exact HQr.out
 clear hJ HM gN J4 HQ;go_wp2_with fail;have kU:=(hM.alloc (.cells (madeCells #[Ys0] p.fl.length) 122)).alloc (.cells #[.slice (some ⟨wr.heap.size,0,none⟩) p.fl.length p.fl.length] 202);have Hv:=(HB.out.alloc HB.out.size (.cells (madeCells #[Ys0] p.fl.length) 122)).alloc (by have:=HB.out.size;simp;omega) (.cells #[.slice (some ⟨wr.heap.size,0,none⟩) p.fl.length p.fl.length] 202);have kD:((wr.alloc (.cells (madeCells #[Ys0] p.fl.length) 122)).alloc (.cells #[.slice (some ⟨wr.heap.size,0,none⟩) p.fl.length p.fl.length] 202)).heap[wr.heap.size]?=some (.cells (madeCells #[Ys0] p.fl.length) 122 (0,0)):=by
  rw[Below.heap_alloc _ _ _ (by simp)];exact heap_alloc_new _ _
 have hBo1:((wr.alloc (.cells (madeCells #[Ys0] p.fl.length) 122)).alloc (.cells #[.slice (some ⟨wr.heap.size,0,none⟩) p.fl.length p.fl.length] 202)).cell? ⟨wr.heap.size+1,0,none⟩=some (.slice (some ⟨wr.heap.size,0,none⟩) p.fl.length p.fl.length):=by
  simp
 have J6:wr.heap.size+2<=((wr.alloc (.cells (madeCells #[Ys0] p.fl.length) 122)).alloc (.cells #[.slice (some ⟨wr.heap.size,0,none⟩) p.fl.length p.fl.length] 202)).heap.size:=by simp
 generalize (wr.alloc (.cells (madeCells #[Ys0] p.fl.length) 122)).alloc (.cells #[.slice (some ⟨wr.heap.size,0,none⟩) p.fl.length p.fl.length] 202)=W1 at *;clear hqr hM zt zX HQr HB;generalize wr.heap.size=R at *;have HS:=Zhd (And.intro JE (And.intro kU (And.intro Hv (And.intro kD hBo1))));clear JE kU Hv kD hBo1;go_loopw[30] (λi wr=>∃(k:Nat) (cs:Array Value),i=.int .i64 k/\k<=p.fl.length/\Ybw w wr/\R+2<=wr.heap.size/\wr.cell? ⟨w.heap.size,2,none⟩=some (.slice al p.fl.length cl)/\Zay natV wr (w.heap.size+1) atm/\
  wr.heap[R]?=some (.cells cs 122 (0,0))/\wr.cell? ⟨R+1,0,none⟩=some (.slice (some ⟨R,0,none⟩) p.fl.length p.fl.length)/\cs.size=p.fl.length/\(∀j (h:j<p.fl.length),j<k->∃v,cs[j]?=some v/\Zco (Zci R wr) (needs atm p.fl[j].e) v)/\(∀j,k<=j->j<p.fl.length->cs[j]?=some (Ys0))) (λi _=>p.fl.length - (intOf i).toNat)
 case atStart=>exact⟨0,_,rfl,Nat.zero_le _,HS.out.2.2.1,J6,HS.out.1,HS.out.2.1,HS.out.2.2.2.1,HS.out.2.2.2.2,made_size _,λj _ h=>by omega,λj _ h=>made_get _ j h⟩
 obtain⟨k,cs,rfl,hk,hb,hz,hq,hM,hR,hBo,J5,hdone,jS⟩:=hrel;have HB:=Zhd hb;have HM:=Zhd hM;have HR:=Zhd hR;have HBo:=Zhd hBo;have xY:=Zhd J5;have HD:=Zhd hdone;have HNIL:=Zhd jS;have HQ:=Zhd hq;clear hb hM hR J5 hdone jS hq;by_cases Hd:k<p.fl.length
 .obtain⟨b,off,rfl,_,kR⟩:=SlV.at H3.out Hd;obtain⟨u,c0,c1,c2,c3,c4,c5,hu⟩:=kR.cells;obtain⟨ax,cx,rfl⟩:=hu.len;have Hw:=hH.below HB.out;have c0:=Hw.cell c0;have c1:=Hw.cell c1;have c2:=Hw.cell c2;have c3:=Hw.cell c3;have c4:=Hw.cell c4;have c5:=Hw.cell c5;simp only[Nat.add_zero] at c0;have HF:=Zhd (zm.out p.fl[k] (Ymm Hd));have HEQ:=Zhd (show ∀j (h:j<p.fl.length),j<k+1->j<k\/j=k/\p.fl[j]=p.fl[k] from λj h hj=>by
   by_cases jV:j<k
   .exact .inl jV
   obtain rfl:j=k:=by omega
   exact .inr ⟨rfl,rfl⟩)
  have HEX:=Zhd (show ExV H p.fl[k].e (.agg #[.string p.fl[k].e.op,.int .i64 p.fl[k].e.n,.string p.fl[k].e.s,.slice ax p.fl[k].e.l.length cx]) from⟨_,rfl,hu⟩);clear Hw hu kR;generalize p.fl[k]=x at *;obtain⟨xn,xk,xe⟩:=x;dsimp only at *;go_wp2_with fail;have hwiM:Zay natV ((wr.alloc (.cells #[.int .i64 k] 3)).alloc (.cells #[.string xn,.int .i64 xk,.string xe.op,.int .i64 xe.n,.string xe.s,.slice ax xe.l.length cx] 96)) (w.heap.size+1) atm:=(HM.out.alloc _).alloc _;have vx:∀q,q<wr.heap.size->((wr.alloc (.cells #[.int .i64 k] 3)).alloc (.cells #[.string xn,.int .i64 xk,.string xe.op,.int .i64 xe.n,.string xe.s,.slice ax xe.l.length cx] 96)).heap[q]?=wr.heap[q]?:=λq hq=>by rw[Below.heap_alloc _ _ _ (by simp;omega),Below.heap_alloc _ _ _ hq]
  have hbi:Ybw w ((wr.alloc (.cells #[.int .i64 k] 3)).alloc (.cells #[.string xn,.int .i64 xk,.string xe.op,.int .i64 xe.n,.string xe.s,.slice ax xe.l.length cx] 96)):=(HB.out.alloc HB.out.size _).alloc (by have:=HB.out.size;simp;omega) _;have Qy:((wr.alloc (.cells #[.int .i64 k] 3)).alloc (.cells #[.string xn,.int .i64 xk,.string xe.op,.int .i64 xe.n,.string xe.s,.slice ax xe.l.length cx] 96)).cell? ⟨wr.heap.size,0,none⟩=some (.int .i64 k):=by rw[World.cell?_alloc_past _ _ _ (by simp),World.cell?_alloc_new];rfl
  have hzi:((wr.alloc (.cells #[.int .i64 k] 3)).alloc (.cells #[.string xn,.int .i64 xk,.string xe.op,.int .i64 xe.n,.string xe.s,.slice ax xe.l.length cx] 96)).heap.size=wr.heap.size+2:=by simp
  generalize (wr.alloc (.cells #[.int .i64 k] 3)).alloc (.cells #[.string xn,.int .i64 xk,.string xe.op,.int .i64 xe.n,.string xe.s,.slice ax xe.l.length cx] 96)=wi at *;have vU:R<wr.heap.size:=by omega
  have hself:cs.setIfInBounds k (Ys0)=cs:=by
   apply Array.ext
   .simp
   intro q h1 h2;rw[Array.getElem_setIfInBounds]
   split
   .rename_i hq
    subst hq;have:=HNIL.out k Ylr Hd;rw[Array.getElem?_eq_getElem h2] at this;exact(Option.some.inj this).symm
   rfl
  have hI0:GrI w wi wi R k (wr.heap.size+2) cs []:=⟨hbi,by omega,⟨Ys0,by rw[hself,vx R vU];exact HR.out,World.ownsRow_nil _ _ _ _⟩,λ_ _ _=>rfl⟩;have hbwr:=HB.out.size;refine(needs_any _ _ H (w.heap.size+1) atm _ (gr_seer H w wi R k p.fl.length (w.heap.size+1) (R+1) wr.heap.size (wr.heap.size+2) cs atm hH hwiM (by omega) (by omega) (by omega)
   (by rw[World.cell?_of_block (w:=wr) (vx (R+1) (by omega))];exact HBo.out) Qy (by omega) Hd hn (by rw[xY.out];exact Hd)) ks xe HF.out.1 _ HEX.out [] wi (by have:=HF.out.2;simp;omega) hI0).mono ?_
  rintro r w2 ⟨rfl,hI,_⟩;have HI:=Zhd hI;clear hI hI0 hwiM hbi Qy hself;obtain⟨v,qv,Jx⟩:=HI.out.row;have hk2:=HI.out.keep;have qG:=HI.out.size;have HN:=Zhd (show(Zci R wr).le (Zci R w2) from butKn_le λq hq Hs=>(hk2 q (by omega) Hs).trans (vx q hq));have HV:=Zhd (ints_of_row Jx (R:=R) (Zbj Jx (by omega)));have HRR:=Zhd qv;have HC2:=Zhd (show w2.cell? ⟨w.heap.size,2,none⟩=some (.slice (some ⟨b,off,none⟩) p.fl.length cl) from by rw[World.cell?_of_block (w:=wi) (hk2 w.heap.size (by omega) (by omega)),World.cell?_of_block (w:=wr) (vx w.heap.size (by omega))];exact HQ.out);have yE:=Zhd (HM.out.of_block (w':=w2) ((hk2 (w.heap.size+1) (by omega) (by omega)).trans (vx _ (by omega))));have HBo2:=Zhd (show w2.cell? ⟨R+1,0,none⟩=some (.slice (some ⟨R,0,none⟩) p.fl.length p.fl.length) from by rw[World.cell?_of_block (w:=wi) (hk2 (R+1) (by omega) (by omega)),World.cell?_of_block (w:=wr) (vx (R+1) (by omega))];exact HBo.out);clear qv Jx hk2 vx;go_wp2_with fail;go_roundw
  case rel=>
   refine⟨k+1,cs.setIfInBounds k v,by go_num,by omega,HI.out.below,by omega,HC2.out,yE.out,HRR.out,HBo2.out,by simp[xY.out],λj hj jV=>?_,λj hj hjn=>?_⟩
   .rcases HEQ.out j hj jV with h|⟨h,he⟩
    .obtain⟨v',h1,h2⟩:=HD.out j hj h;exact⟨v',by rw[Array.getElem?_setIfInBounds];rw[if_neg (by omega)];exact h1,Zco.le HN.out h2⟩
    refine⟨v,by rw[h];simp[xY.out,Hd],?_⟩;rw[he];simpa using HV.out
   rw[Array.getElem?_setIfInBounds,if_neg (by omega)];exact HNIL.out j (by omega) hjn
  simp[intOf];omega
 obtain rfl:k=p.fl.length:=by omega
 go_wp2_with fail;go_ret;refine⟨.slice (some ⟨R,0,none⟩) p.fl.length p.fl.length,rfl,?_,HB.out⟩;have Ho:p.graph.length=p.fl.length:=by rw[Ql.out];simp
 by_cases h0:p.graph=[]
 .exact .inl ⟨h0,some ⟨R,0,none⟩,p.fl.length,by rw[<- Ho,h0];rfl⟩
 refine .inr ⟨R,0,p.fl.length,by rw[Ho],by omega,by unfold maxLen;omega,λj hj=>?_⟩;have jB:j<p.fl.length:=by omega
 obtain⟨v,h1,h2⟩:=HD.out j jB jB;refine⟨v,?_,?_⟩
 .show (Zan wr).cell R (0+j * 1+0)=some v;rw[Zaj];simp only[Nat.zero_add,Nat.mul_one,Nat.add_zero];simp[World.cell?,HR.out,h1]
 have e:p.graph[j]=needs atm p.fl[j].e:=by simp only[Ql.out,List.getElem_map]
 rw[e];exact Zco.le (butKn_le_all _ _) h2
theorem Zhi{α:Type}(k:Nat)(c:α->List Value)(hc:∀x,(c x).length=k):∀(l:List α) (i:Nat) (hi:i<l.length) (j:Nat),j<k->(l.flatMap c)[i * k+j]?=(c l[i])[j]?
 |x :: l,0,_,j,hj=>by
  simp only[List.flatMap_cons,Nat.zero_mul,Nat.zero_add,List.getElem_cons_zero];rw[List.getElem?_append_left (by rw[hc];exact hj)]
 |x :: l,i+1,hi,j,hj=>by
  simp only[List.flatMap_cons,List.getElem_cons_succ];have e:(i+1) * k+j=k+(i * k+j):=by rw[Nat.add_mul];omega
  rw[List.getElem?_append_right (by rw[hc,e];omega),hc,e,Nat.add_sub_cancel_left];exact Zhi k c hc l i (by simpa using hi) j hj
theorem Zc2{w w':World}{base:Nat}{e:TypeId}{k n:Nat}{v:Value}{xs:List Value}(h:w.ownsRow base e k v n xs){row:Option Nat}(hg:w.grownBy w' row)(ha:∀g,v.ownBlock=some g->row≠some g):w'.ownsRow base e k v n xs:=by
 refine⟨h.1,h.2.imp id ?_⟩;rintro⟨g,Ha,cur,h1,h2,h3,h4⟩;exact⟨g,Ha,cur,h1,h2,by rw[hg.block g (Zlt h3) (λe=>ha g (by rw[h1];rfl) e.symm)];exact h3,h4⟩
theorem Zge{w:World}{b1 b2:Nat}{e1 e2:TypeId}{k1 k2 n1 n2:Nat}{u1 u2:Value}{x1 x2:List Value}(h1:w.ownsRow b1 e1 k1 u1 n1 x1)(h2:w.ownsRow b2 e2 k2 u2 n2 x2)(Hs:e1≠e2):∀g,u1.ownBlock=some g->u2.ownBlock≠some g:=λg hg=>by
 rcases h1.2 with ⟨rfl,_⟩|⟨g',Ha,cur,rfl,_,hb,_⟩
 .simp [Value.ownBlock] at hg
 simp[Value.ownBlock] at hg;subst hg;exact Zew h2 hb Hs
theorem Tryz.infoFlow:(Tryz.prog.info? 96).map (λi=>(i.zero,i.size,i.bytes))=some (some (.agg #[.string ⟨#[]⟩,.int .i64 0,.string ⟨#[]⟩,.int .i64 0,.string ⟨#[]⟩,Ys0]),6,88):=by kernel_rfl
theorem Tryz.infoStr1:(Tryz.prog.info? 9).map (λi=>(i.zero,i.size,i.bytes))=some (some (.string ⟨#[]⟩),1,16):=by kernel_rfl
theorem Zgz{α:Type}{k:Nat}{R:α->(Nat->Option Value)->Prop}{w:World}{base:Nat}{t:TypeId}{v:Value}{l:List α}{xs:List Value}(h:w.ownsRow base t k v l.length xs)
  (hR:∀i (hi:i<l.length),∀f:Nat->Option Value,(∀j u,xs[i * k+j]?=some u->f j=some u)->R l[i] f):SlV (Zan w) k R l v:=by
 by_cases h0:l=[]
 .obtain⟨a,c,h1,_⟩:=Zar h;exact .inl ⟨h0,a,c,by rw[h1,h0];rfl⟩
 obtain⟨g,Ha,rfl,h2,h3,_,_,h4⟩:=Zbr h (List.length_pos_iff.2 h0);refine .inr ⟨g,0,Ha,rfl,h2,h3,λi hi=>hR i hi _ λj u hu=>?_⟩;rw[Zaj,Nat.zero_add];exact h4 _ u hu
def Zb3(n:Nat)(w:World):Kn:=λb=>if b<n then none else w.heap[b]?
theorem newKn_le(n:Nat)(w:World):(Zb3 n w).le (Zan w):=λb o e=>by
 unfold Zb3 at e
 split at e
 .cases e
 exact e
theorem newKn_cell{n:Nat}{w:World}{b:Nat}(h:n<=b)(i:Nat):(Zb3 n w).cell b i=w.cell? ⟨b,i,none⟩:=by
 rw[<- Zaj];simp[Kn.cell,Zb3,Zan,Nat.not_lt.2 h]
theorem slv_new{α:Type}{k:Nat}{R:α->(Nat->Option Value)->Prop}{w:World}{base n:Nat}{t:TypeId}{v:Value}{l:List α}{xs:List Value}(h:w.ownsRow base t k v l.length xs)(hn:n<=base)
  (hR:∀i (hi:i<l.length),∀f:Nat->Option Value,(∀j u,xs[i * k+j]?=some u->f j=some u)->R l[i] f):SlV (Zb3 n w) k R l v:=by
 by_cases h0:l=[]
 .obtain⟨a,c,h1,_⟩:=Zar h;exact .inl ⟨h0,a,c,by rw[h1,h0];rfl⟩
 obtain⟨g,Ha,rfl,h2,h3,hb,_,h4⟩:=Zbr h (List.length_pos_iff.2 h0);refine .inr ⟨g,0,Ha,rfl,h2,h3,λi hi=>hR i hi _ λj u hu=>?_⟩;rw[newKn_cell (by omega),Nat.zero_add];exact h4 _ u hu
theorem Zco.news{H:Kn}{l:List Nat}{b off:Nat}(h:∀i (h:i<l.length),IntC l[i] (λj=>H.cell b (off+i * 1+j))){w:World}(hH:H.In w):∀j u,(l.map natV)[j]?=some u->w.cell? ((⟨b,off,none⟩:Addr).add j)=some u:=by
 intro j u hu;rw[Zc6];obtain⟨x,hx,rfl⟩:∃x,l[j]?=some x/\natV x=u:=by simpa using hu
 obtain⟨Hr,he⟩:=List.getElem?_eq_some_iff.1 hx;have:=h j Hr;have h2:H.cell b (off+j * 1+0)=some (natV l[j]):=this;rw[he,Nat.mul_one,Nat.add_zero] at h2;exact hH.cell h2
theorem clone_any(H:Kn)(l:List Nat)(v:Value)(hv:Zco H l v)(w:World)(hH:H.In w)(hl:l.length<=1000000000):
  Calls Tryz.prog 117 #[v] w λr w'=>∃v',r=.returned v'/\w'.ownsRow w.heap.size 3 1 v' l.length (l.map natV)/\Ybw w w':=by
 obtain⟨i0,hi,Jt,J6,Ju⟩:=info_parts Tryz.infoInt;have JU:(w.alloc (.cells #[] 3)).ownsRow w.heap.size 3 1 (.slice (some ⟨w.heap.size,0,none⟩) 0 0) 0 []:=World.ownsRow_made w #[] 0 Ylr (Nat.zero_le _) rfl;rcases hv with ⟨rfl,a,Ha,rfl⟩|⟨b,off,Ha,rfl,h1,h2,h3⟩
 .cases a with
  |none=>
   clear JU;have he:=λw=>Lib.run_eql_slice_nil (P:=Tryz.prog) w 122 3 none 0 Ha 0 0 Tryz.underlying122;go_enter Tryz.func117,Tryz.ntmps117;go_wp2_with fail;go_ret;exact⟨_,rfl,World.ownsRow_nil _ _ _ _,Below.refl _ _⟩
  |some ad=>
   have kr:=Zhd (Zbn (P:=Tryz.prog) 122 3 i0 Tryz.underlying122 hi JU (some ad) Ha);have HO:=Zhd JU;clear JU;have he:=λw=>Lib.run_eql_slice_nil (P:=Tryz.prog) w 122 3 (some ad) 0 Ha 0 0 Tryz.underlying122;go_enter Tryz.func117,Tryz.ntmps117;go_wp2_with(at_builtin;refine Zbi rfl 122 122 _ _ rfl _ _ rfl rfl _ _ kr.out ?_);go_ret;exact⟨_,rfl,HO.out,Yba⟩
 have HN:=Zhd (Zco.news h3 (hH.alloc (.cells #[] 3)));have HO:=Zhd JU;clear h3 JU;unfold maxLen at h2;have he:=λw=>Lib.run_eql_slice_nil (P:=Tryz.prog) w 122 3 (some ⟨b,off,none⟩) l.length Ha 0 0 Tryz.underlying122;go_enter Tryz.func117,Tryz.ntmps117;go_wp2_with(at_builtin;refine wpList_append_own _ rfl _ _ 122 rfl w.heap.size 3 i0 _ 1 8 Tryz.underlying122 hi Jt J6 Ju rfl (by decide) _ _ _ rfl HO.out ⟨b,off,none⟩ l.length Ha (l.map natV) rfl ?c0 HN.out ?c1 ?c3 ?c4 ?c5 ?_)
 case c0=>simp
 case c1=>intro u hu;obtain⟨x,_,rfl⟩:=List.mem_map.1 hu;rfl
 case c3=>unfold maxLen;omega
 case c4=>omega
 case c5=>simp
 intro v' w2 ju zc _;go_wp2_with fail;go_ret;refine⟨_,rfl,by simpa using ju,Yba.grown zc (by simp) (λq hq=>(HO.out.lt q hq).1)⟩
theorem own_cut{w:World}{base:Nat}{e:TypeId}{n Ha g:Nat}{xs:List Value}{x:Value}(h:w.ownsRow base e 1 (.slice (some ⟨g,0,none⟩) (n+1) Ha) (n+1) (xs++[x])):w.ownsRow base e 1 (.slice (some ⟨g,0,none⟩) n Ha) n xs:=by
 obtain⟨h0,h1⟩:=h;simp only[List.length_append,List.length_singleton] at h0;have hx:xs.length=n:=by omega
 refine⟨by omega,?_⟩;rcases h1 with ⟨h1,_⟩|⟨g',Hh,cur,h1,h2,h3,h4,h5,h6,h7⟩
 .cases h1
 cases h1;refine .inr ⟨g,Ha,cur,rfl,h2,h3,by omega,h5,h6,?_⟩;rw[Nat.mul_one] at h7 ⊢;have h9:cur.toList.take n=(xs++[x]).take n:=by rw[<- h7,List.take_take,Nat.min_eq_left (Nat.le_succ n)]
 rw[h9,List.take_append_of_le_length (by omega),List.take_of_length_le (by omega)]
theorem Zgk(n i:Nat)(h:i<n):(madeCells #[.bool false] n)[i]?=some (.bool false):=by simp[madeCells,h,Nat.mod_one]
theorem Zjk(n:Nat):(madeCells #[.bool false] n).size=n:=by simp[madeCells]
theorem Tryz.infoBool:(Tryz.prog.info? 4).map (λi=>(i.zero,i.size,i.bytes))=some (some (.bool false),1,1):=by kernel_rfl
theorem cyc_start(g:List (List Nat))(i:Nat):(g.getD i []).reverse.length+rest g []<Zer g:=by
 have h1:=sum_range g;have h2:=Zjm g i;unfold Zer rest;rw[h1,List.length_reverse];omega
theorem sc_set{n k:Nat}{sc:Array Value}{seen:List Nat}(h:∀x,x<n->sc[x]?=some (.bool (seen.contains x)))(hs:sc.size=n)(hk:k<n):∀x,x<n->(sc.setIfInBounds k (.bool true))[x]?=some (.bool ((k :: seen).contains x)):=by
 intro x hx;rw[Array.getElem?_setIfInBounds];by_cases hxk:k=x
 .subst hxk;rw[if_pos rfl,if_pos (by omega)];simp
 rw[if_neg hxk,h x hx,List.contains_cons];have:(x==k)=false:=by rw[beq_eq_false_iff_ne];exact λe=>hxk e.symm
 rw[this,Bool.false_or]
structure CycS(w wr:World)(g:List (List Nat))(i Sb base f:Nat)(v:Value)(seen kA:List Nat):Prop where
 below:Ybw w wr
 size:base<=wr.heap.size
 row:wr.ownsRow base 3 1 v kA.length (kA.reverse.map natV)
 sn:∃sc,wr.heap[Sb]?=some (.cells sc 4 (0,0))/\sc.size=g.length/\∀k,k<g.length->sc[k]?=some (.bool (seen.contains k))
 same:cycN g i f seen kA=cyc g i
 fuel:kA.length+rest g seen<f
 most:f<=Zer g
 low:∀k∈kA,k<g.length
theorem cyc_any(H:Kn)(g:List (List Nat))(v:Value)(hg:GrV H g v)(i:Nat)(hi:i<g.length)(Jm:∀l∈g,∀k∈l,k<g.length)(hn:g.length<=1000000)(hF:Zer g<=1000000000)(w:World)(hH:H.In w):
  Calls Tryz.prog 96 #[v,.int .i64 i] w λr w'=>r=.returned (.bool (cyc g i))/\Ybw w w':=by
 obtain⟨a,Ha,rfl⟩:=hg.len;obtain⟨b,off,rfl,Qv,u,c0,hu⟩:=SlV.at hg hi;simp only[Nat.mul_one,Nat.add_zero] at c0;have c0:=hH.cell c0;have J7:b<w.heap.size:=World.block_lt_of_cell? w _ c0;obtain⟨ua,uc,rfl⟩:=hu.len;have HG:=Zhd hg;have HU:=Zhd hu;have HLOW:=Zhd Jm;have HF:=Zhd hF;have hgi:g.getD i []=g[i]:=by simp[Ygg,hi]
 have Ho:g[i].length<=1000000000:=by
  have:=Zjm g i;rw[hgi] at this;unfold Zer at hF;omega
 have zt:=run_make_row' (P:=Tryz.prog) 81 4 (.bool false) 1 Tryz.underlying81 Tryz.infoBool rfl .i64 .i64 g.length (by omega) (by omega);have hiI:(i:Int)<g.length:=by omega
 have HC0:=Zhd (cyc_start g i);have HGI:=Zhd hgi;clear hg hu Jm hF hgi;go_enter Tryz.func96,Tryz.ntmps96;go_wp2_with fail;refine(clone_any H g[i] _ HU.out _ (hH.alloc _) Ho).mono ?_;rintro r w1 ⟨v1,rfl,Hb,Hv⟩;have hb1':Ybw w w1:=Yba.trans (Hv.mono (by simp));have JY:w1.heap[w.heap.size]?=some (.cells (madeCells #[.bool false] g.length) 4 (0,0)):=by rw[Hv.block _ (by simp)];exact heap_alloc_new _ _
 have J6:=Hv.size;simp at J6;have hC1:CycS w w1 g i w.heap.size (w.heap.size+1) (Zer g) v1 [] (g.getD i []).reverse:=by
  refine⟨hb1',J6,?_,⟨_,JY,Zjk _,λk hk=>by rw[Zgk _ k hk];simp⟩,rfl,HC0.out,Nat.le_refl _,λk hk=>?_⟩
  .rw [HGI.out,List.length_reverse,List.reverse_reverse];simpa using Hb
  rw[HGI.out] at hk;exact HLOW.out _ (Ymm hi) k (List.mem_reverse.1 hk)
 have HC1:=Zhd hC1;obtain⟨a1,cap1,rfl,_,_⟩:=Zar hC1.row;clear hC1 JY Hb zt HC0 HU;generalize (g.getD i []).reverse=td at *;go_wp2_with fail;go_loopg[6] (Zer g) (λf v6 wr=>∃seen kA,CycS w wr g i w.heap.size (w.heap.size+1) f v6 seen kA)
 case atStart=>exact⟨[],_,HC1.out⟩
 obtain⟨seen,kA,hC⟩:=hrel;have HC:=Zhd hC;have Jk:=hC.same;have gz:=hC.fuel;have JV:=hC.most;have hF:=HF.out;have Jd:=hC.row;have kL:=hC.below.size;clear hC;cases kA with
 |nil=>
  obtain⟨a2,c2,rfl,_,_⟩:=Zar Jd;have HX:=Zhd (show cyc g i=false from by rw[<- Jk];cases gk<;>rfl)
  clear Jk Jd gz JV;go_wp2_with fail;go_ret;exact⟨Za7 HX.out.symm,HC.out.below⟩
 |cons k r=>
  have jA:k<g.length:=HC.out.low k (List.mem_cons_self ..);have hrev:((k :: r).reverse.map natV)=r.reverse.map natV++[natV k]:=by simp
  rw[hrev] at Jd;simp only[List.length_cons] at Jd gz;obtain⟨gq,c2,rfl,zI,hm2,hgb,hglt,JF⟩:=Zbr Jd (Nat.succ_pos _);have JM:wr.cell? ⟨gq,r.length,none⟩=some (.int .i64 k):=JF r.length _ (by rw[List.getElem?_append_right (by simp)];simp);have HCUT:=Zhd (own_cut Jd);obtain⟨sc,hsc,hscn,hscv⟩:=HC.out.sn;have HSC:=Zhd (And.intro hsc (And.intro hscn hscv));have JJ:wr.cell? ⟨w.heap.size,k,none⟩=some (.bool (seen.contains k)):=by simp[World.cell?,hsc,hscv k jA]
  have hfs:wr.frozen? ⟨w.heap.size,k,none⟩=false:=by simp[World.frozen?,hsc]
  have hgk:gk=gk - 1+1:=by omega
  rw[hgk] at Jk;simp only[cycN] at Jk;have vG:(k:Int)<g.length:=by omega
  have hrl:(r.length:Int)+1<=9223372036854775807:=by omega
  have hgne:w.heap.size≠gq:=by omega
  clear hgk JF Jd hrev hsc hscn hscv;by_cases yl:k=i
  .have HX:=Zhd (show cyc g i=true from by rw[<- Jk,if_pos yl]);have t1:((k:Int)==(i:Int))=true:=by simp[yl]
   clear Jk yl;go_wp2_with fail;go_ret;exact⟨Za7 HX.out.symm,HC.out.below⟩
  rw[if_neg yl] at Jk;have t1:((k:Int)==(i:Int))=false:=by rw[beq_eq_false_iff_ne];omega
  clear yl;cases hq:seen.contains k
  .rw [hq] at Jk JJ;simp only[Bool.false_eq_true,if_false] at Jk;have gJ:=Zhd Jk;have HQ:=Zhd hq;obtain⟨b',off',hbo,_,u',d0,hu'⟩:=SlV.at HG.out jA;cases hbo;simp only[Nat.mul_one,Nat.add_zero] at d0;have d0:=(hH.below HC.out.below).cell d0;obtain⟨ua',uc',rfl⟩:=hu'.len;have hgk':g.getD k []=g[k]:=by simp[Ygg,jA]
   rw[hgk'] at Jk gJ;have qm:=restL_lt g seen k hq (List.range g.length) (List.mem_range.2 jA);rw[hgk'] at qm;have HREST:=Zhd (show(g[k].reverse++r).length+rest g (k :: seen)<gk - 1 from by
    simp only[List.length_append,List.length_reverse];unfold rest at gz ⊢;omega)
   have HLK:=Zhd (HLOW.out g[k] (Ymm jA));have hgkl:r.length+g[k].length<=1000000000:=by
    have:=HREST.out;simp only[List.length_append,List.length_reverse] at this;omega
   have hblt':b<wr.heap.size:=by omega
   have hbne:b≠w.heap.size:=by omega
   have HH1:=Zhd ((hH.below HC.out.below).setCell (a:=⟨w.heap.size,k,none⟩) (hH.isNone Ylr) (.bool true));have jc:=Zhd (Zaa wr w.heap.size k (.bool true) sc _ _ HSC.out.1);have HO2:=Zhd (Zam HCUT.out (a:=⟨w.heap.size,k,none⟩) (by intro e;cases e;exact hgne rfl) (.bool true));have Ju:(wr.setCell ⟨w.heap.size,k,none⟩ (.bool true)).heap.size=wr.heap.size:=by simp[World.setCell]
   have JD:=Zhd (HC.out.below.setCell (p:=⟨w.heap.size,k,none⟩) Ylr (.bool true));have hgk1:gk - 1<gk:=by omega
   clear Jk hq hgk' qm gz;generalize g[k]=gl at *;obtain⟨i0,JI,z0,z1,z2⟩:=info_parts Tryz.infoInt
   -- what follows the append
   have zR:=Zhd (show ∀v' w3,w3.ownsRow (w.heap.size+1) 3 1 v' (r.length+gl.length) (r.reverse.map natV++gl.map natV)->(wr.setCell ⟨w.heap.size,k,none⟩ (.bool true)).grownBy w3 (some gq)->CycS w w3 g i w.heap.size (w.heap.size+1) (gk - 1) v' (k :: seen) (gl.reverse++r) from λv' w3 ho JP=>by
    have hs3:=JP.size;refine⟨JD.out.grown JP (by omega) (λq hq=>by cases hq;omega),by have:=HC.out.size;omega,?_,?_,gJ.out,HREST.out,by omega,λx hx=>?_⟩
    .rw [show(gl.reverse++r).length=r.length+gl.length from by simp;omega,show(gl.reverse++r).reverse.map natV=r.reverse.map natV++gl.map natV from by simp];exact ho
    .refine⟨sc.setIfInBounds k (.bool true),?_,by simp[HSC.out.2.1],λx hx=>?_⟩
     .rw [JP.block w.heap.size (by omega) (by intro e;cases e;exact hgne rfl)];exact jc.out
     exact sc_set HSC.out.2.2 HSC.out.2.1 jA x hx
    rcases List.mem_append.1 hx with h|h
    .exact HLK.out x (List.mem_reverse.1 h)
    exact HC.out.low x (List.mem_cons_of_mem _ h))
   rcases hu' with ⟨he,a3,c3,yh⟩|⟨b3,off3,c3,yh,e1,e2,e3⟩
   .subst he;cases yh;have kr:=Zhd (Zbn (P:=Tryz.prog) 122 3 i0 Tryz.underlying122 JI HO2.out ua' uc');have hC3:=zR.out _ _ (by simpa using HO2.out) (World.grownBy.refl _ _);have HC3:=Zhd hC3;clear hC3;go_wp2_with(at_builtin;refine Zbi rfl 122 122 _ _ rfl _ _ rfl rfl _ _ kr.out ?_);go_roundg (gk - 1)
    case rel=>exact⟨_,_,HC3.out⟩
    omega
   cases yh;have HN:=Zhd (Zco.news e3 HH1.out);have HE:=Zhd (And.intro e1 e2);clear e3 e1 e2 hm2;go_wp2_with(at_builtin;refine wpList_append_own _ rfl _ _ 122 rfl (w.heap.size+1) 3 i0 _ 1 8 Tryz.underlying122 JI z0 z1 z2 rfl (by decide) _ _ _ rfl HO2.out ⟨b3,off3,none⟩ gl.length uc' (gl.map natV) rfl ?c0 HN.out ?c1 ?c3 ?c4 ?c5 ?_)
   case c0=>simp
   case c1=>intro u hu;obtain⟨x,_,rfl⟩:=List.mem_map.1 hu;rfl
   case c3=>unfold maxLen;omega
   case c4=>omega
   case c5=>have:=HC.out.size;omega
   intro v' w3 ho JP _;have hC3:=zR.out v' w3 (by rw[List.map_reverse];exact ho) JP;go_wp2_with fail;go_roundg (gk - 1)
   case rel=>exact⟨_,_,hC3⟩
   omega
  rw[hq] at Jk JJ;simp only[if_true] at Jk;have gJ:=Zhd Jk;clear Jk hq;go_wp2_with fail;go_roundg (gk - 1)
  case rel=>exact⟨seen,r,HC.out.below,HC.out.size,HCUT.out,HC.out.sn,gJ.out,by omega,by omega,λx hx=>HC.out.low x (List.mem_cons_of_mem _ hx)⟩
  omega
def idxI(p:Nat->Bool)(l:List Nat):Int:=match l.findIdx? p with|some i=>(i:Int)|none => -1
theorem idxI_found(p:Nat->Bool)(l:List Nat)(k:Nat)(hk:k<l.length)(hp:p l[k]=true)(hn:∀i (hi:i<l.length),i<k->p l[i]=false):idxI p l=(k:Int):=by
 have:l.findIdx? p=some k:=by
  rw[List.findIdx?_eq_some_iff_getElem];exact⟨hk,hp,λj hj=>by simp[hn j (by omega) hj]⟩
 simp[idxI,this]
theorem idxI_none(p:Nat->Bool)(l:List Nat)(hn:∀i (hi:i<l.length),p l[i]=false):idxI p l = -1:=by
 have:l.findIdx? p=none:=by
  rw[List.findIdx?_eq_none_iff];intro x hx;obtain⟨i,hi,rfl⟩:=List.mem_iff_getElem.1 hx;exact hn i hi
 simp[idxI,this]
theorem idxI_ge(p:Nat->Bool)(l:List Nat):decide (0<=idxI p l)=l.any p:=by
 cases h:l.findIdx? p with
 |none=>
  rw[idxI,h];rw[List.findIdx?_eq_none_iff] at h;have:l.any p=false:=by simpa using h
  rw[this];rfl
 |some i=>
  rw[idxI,h];rw[List.findIdx?_eq_some_iff_getElem] at h;obtain⟨hi,hp,_⟩:=h;have:l.any p=true:=List.any_eq_true.2 ⟨l[i],Ymm _,hp⟩;rw[this];simp
theorem idxI_lt(p:Nat->Bool)(l:List Nat) : -1<=idxI p l/\idxI p l<(l.length:Int)+1:=by
 unfold idxI;cases h:l.findIdx? p with
 |none=>simp;omega
 |some i=>
  rw[List.findIdx?_eq_some_iff_getElem] at h;obtain⟨hi,_⟩:=h;simp;omega
def IntPred(k:Nat)(Ha:Array Value)(p:Nat->Bool)(l:List Nat)(w:World):Prop:=
 Enters Tryz.prog k/\∀x∈l,Calls Tryz.prog k (#[.int .i64 (x:Nat)]++Ha) w λr w'=>r=.returned (.bool (p x))/\w=w'
theorem idxI_any(k:Nat)(Ha:Array Value)(H:Kn)(p:Nat->Bool)(l:List Nat)(v:Value)(w:World)(hp:IntPred k Ha p l w)(hv:Zco H l v)(hH:H.In w):
  Calls Tryz.prog 118 #[v,.func (.func k) #[] Ha] w λr w'=>r=.returned (.int .i64 (idxI p l))/\w=w':=by
 obtain⟨hen,hp⟩:=hp;have HP:=Zhd hp;clear hp;unfold Enters at hen;obtain⟨a,c,rfl⟩:=hv.len;have HV:=Zhd hv;have Hr:l.length<=9223372036854775807:=by
  rcases hv with ⟨rfl,_⟩|⟨_,_,c',_,h1,h2,_⟩
  .simp
  unfold maxLen at h2;omega
 clear hv;go_enter Tryz.func118,Tryz.ntmps118;go_wp2_with fail;go_loop[8] (λi=>∃k:Nat,i=.int .i64 k/\k<=l.length/\(∀i (hi:i<l.length),i<k->p l[i]=false)) (λi=>l.length - (intOf i).toNat)
 case atStart=>exact⟨0,rfl,Nat.zero_le _,λi _ h=>by omega⟩
 obtain⟨k',rfl,hk,hn⟩:=hrel;have HN:=Zhd hn;clear hn;by_cases Hd:k'<l.length
 .obtain⟨b,off,rfl,_,c0⟩:=SlV.at HV.out Hd;have c0:H.cell b (off+k' * 1+0)=some (natV l[k']):=c0;simp only[Nat.mul_one,Nat.add_zero] at c0;have c0:=hH.cell c0;have Hl:=Ymm Hd;cases he:p l[k']
  .have HE:=Zhd he;clear he;have HX:=Zhd λi (hi:i<l.length) (jp:i<k'+1)=>(show p l[i]=false from by
    by_cases hik':i<k'
    .exact HN.out i hi hik'
    obtain rfl:i=k':=by omega
    exact HE.out)
   generalize l[k']=x at *;go_wp2_with(refine(HP.out x Hl).mono ?_;rintro r w2 ⟨rfl,rfl⟩;rw[HE.out]);go_round
   case rel=>exact⟨k'+1,by go_num,by omega,HX.out⟩
   simp[intOf];omega
  have HE:=Zhd he;clear he;have HX:=Zhd (idxI_found p l k' Hd HE.out λi hi jp=>HN.out i hi jp);generalize l[k']=x at *;go_wp2_with(refine(HP.out x Hl).mono ?_;rintro r w2 ⟨rfl,rfl⟩;rw[HE.out]);go_ret;exact⟨Zaf HX.out.symm,rfl⟩
 go_wp2_with fail;go_ret;exact⟨Zaf (idxI_none _ _ λi hi=>HN.out i hi (by omega)).symm,rfl⟩
theorem Zi3(k:Nat)(Ha:Array Value)(H:Kn)(p:Nat->Bool)(l:List Nat)(v:Value)(w:World)(hp:IntPred k Ha p l w)(hv:Zco H l v)(hH:H.In w):
  Calls Tryz.prog 97 #[v,.func (.func k) #[] Ha] w λr w'=>r=.returned (.bool (l.any p))/\w=w':=by
 have hb:=idxI_lt p l;have HD:=Zhd (idxI_ge p l);go_enter Tryz.func97,Tryz.ntmps97;go_wp2_with fail;refine(idxI_any k Ha H p l v _ hp hv hH).mono ?_;rintro r w2 ⟨rfl,rfl⟩;go_wp2_with fail;go_ret;exact⟨Za7 HD.out,rfl⟩
theorem order1_pred(Dc D n:Nat)(out l:List Nat)(dn:Array Value)(w:World)(hc:w.cell? ⟨Dc,0,none⟩=some (.slice (some ⟨D,0,none⟩) n n))(hD:w.heap[D]?=some (.cells dn 4 (0,0)))(hdn:∀x,x<n->dn[x]?=some (.bool (out.contains x)))(hl:∀x∈l,x<n)(hn:n<=1000000):
  IntPred 98 #[.pointer (some ⟨Dc,0,none⟩)] (λx => !out.contains x) l w:=by
 refine⟨λ_ _=>by kernel_rfl,λx hx=>?_⟩;have hxn:=hl x hx;have hxI:(x:Int)<n:=by omega
 have hd:w.cell? ⟨D,x,none⟩=some (.bool (out.contains x)):=by simp[World.cell?,hD,hdn x hxn]
 obtain⟨q,hq⟩:∃q,out.contains x=q:=⟨_,rfl⟩;rw[hq] at hd;have HQ:=Zhd hq;clear hq;show Calls Tryz.prog 98 #[.int .i64 (x:Nat),.pointer (some ⟨Dc,0,none⟩)] w _;clear hdn hl hx hD;go_enter Tryz.func98,Tryz.ntmps98;go_wp2_with fail;go_ret;exact⟨Za7 (by rw[HQ.out]),rfl⟩
theorem Zgc(g:List (List Nat)):∀(f:Nat) (out:List Nat),Zc7 g (f+1) out=Zc7 g f out++[pick g (Zc7 g f out)]
 |0,out=>rfl
 |f+1,out=>by
  show Zc7 g (f+1) (out++[pick g out])=_;rw[Zgc g f (out++[pick g out])];rfl
theorem sortN_len(g:List (List Nat)):∀(f:Nat) (out:List Nat),(Zc7 g f out).length=out.length+f
 |0,out=>rfl
 |f+1,out=>by
  show(Zc7 g f (out++[pick g out])).length=_;rw[sortN_len g f];simp;omega
def Zh8(g:List (List Nat))(out:List Nat)(k:Nat):Bool := !out.contains k&&(g.getD k []).all out.contains
theorem pick_free{g:List (List Nat)}{out:List Nat}(h:pick g out<g.length):Zh8 g out (pick g out)=true:=by
 unfold pick at h ⊢;have hz:(g.zipIdx.findIdx λx => !out.contains x.2&&x.1.all out.contains)<g.zipIdx.length:=by simpa using h
 have:=List.findIdx_getElem (w:=hz);simp only[List.getElem_zipIdx,Nat.zero_add] at this;unfold Zh8;rw[Ygg,List.getElem?_eq_getElem h];exact this
theorem pick_first{g:List (List Nat)}{out:List Nat}{k:Nat}(h:k<pick g out)(hk:k<g.length):Zh8 g out k=false:=by
 unfold pick at h;have:=List.not_of_lt_findIdx h;simp only[List.getElem_zipIdx,Nat.zero_add] at this;unfold Zh8;rw[Ygg,List.getElem?_eq_getElem hk];simpa using this
end Go.Proofs.YtafapnolamcdmaaGreatDoor
namespace Go.Proofs.YtafapnolamcdmaaGreatDoor.Mx
set_option maxRecDepth 100000
set_option maxHeartbeats 16000000
theorem Zb9{p:Pr}(h:Zak p=0):∃ks,Zao Env.none p.vars=some ks/\Zce (p.fl.map (·.name)) [] p.outs=true/\Zb4 ks p.terms=true/\p.fl.length<=400/\Ex.partsL p.terms<=4000/\p.ins.length<=30/\Zdr ks (p.fl.map (·.kind)) p.terms=true:=by
 unfold Zak at h
 split at h
 .cases h
 rename_i ks hks
 refine⟨ks,hks,?_⟩
 split at h
 .cases h
 rename_i h1
 split at h
 .cases h
 rename_i h2
 split at h
 .cases h
 rename_i h3
 split at h
 .cases h
 rename_i h4
 simp only[Bool.not_eq_true',Bool.not_eq_false] at h1 h2 h4;exact⟨h1,h2,by omega,by omega,by omega,h4⟩
theorem Zej:∀(l m:List Ex),Ex.partsL (l++m)=Ex.partsL l+Ex.partsL m
 | [],m=>by simp[Ex.partsL]
 |e :: l,m=>by
  simp only[List.cons_append,Ex.partsL,Zej l m];omega
theorem Zeh(p:Pr){f:Fl}(h:f∈p.fl):f.e∈p.terms:=by
 simp only[Pr.terms,List.mem_append];exact .inl (.inl (List.mem_map.2 ⟨f,h,rfl⟩))
theorem atFrom_lt:∀(l:List Fl) (i:Nat) (m:Env Nat) (N:Nat),i+l.length<=N->(∀s k,m s=some k->k<N)->∀s k,Zef i m l s=some k->k<N
 | [],_,_,_,_,hm,s,k,h=>hm s k h
 |f :: l,i,m,N,hN,hm,s,k,h=>by
  simp only[List.length_cons] at hN;refine atFrom_lt l (i+1) _ N (by omega) (λs' k' h'=>?_) s k h;unfold Env.set at h'
  split at h'
  .cases h';omega
  exact hm s' k' h'
mutual
theorem needs_at(at_:Env Nat)(N:Nat)(h:∀s k,at_ s=some k->k<N):∀e:Ex,∀k∈needs at_ e,k<N
 | .mk o n s l,k,hk=>by
  simp only[needs] at hk
  split at hk
  .cases hk
  split at hk
  .exact needsH_at at_ N h l k hk
  rcases List.mem_append.1 hk with hk|hk
  .split at hk
   .cases hq:at_ s with
    |none=>rw[hq] at hk;cases hk
    |some j=>rw[hq] at hk;simp at hk;rw[hk];exact h s j hq
   cases hk
  exact needsL_at at_ N h l k hk
theorem needsL_at(at_:Env Nat)(N:Nat)(h:∀s k,at_ s=some k->k<N):∀l:List Ex,∀k∈Zcy at_ l,k<N
 | [],k,hk=>by simp[Zcy] at hk
 |e :: l,k,hk=>by
  simp only[Zcy] at hk;rcases List.mem_append.1 hk with hk|hk
  .exact needs_at at_ N h e k hk
  exact needsL_at at_ N h l k hk
theorem needsH_at(at_:Env Nat)(N:Nat)(h:∀s k,at_ s=some k->k<N):∀l:List Ex,∀k∈Zgj at_ l,k<N
 | [],k,hk=>by simp[Zgj] at hk
 |e :: l,k,hk=>by
  simp only[Zgj] at hk;exact needs_at at_ N h e k hk
end
theorem Zfg(p:Pr):p.graph.length=p.fl.length:=by simp[Pr.graph]
theorem Zgo(p:Pr):∀l∈p.graph,∀k∈l,k<p.graph.length:=by
 intro l hl k hk;obtain⟨f,_,rfl⟩:=List.mem_map.1 hl;rw[Zfg];exact needs_at _ _ (atFrom_lt p.fl 0 Env.none p.fl.length (by omega) (λs k h=>by cases h)) f.e k hk
end Go.Proofs.YtafapnolamcdmaaGreatDoor.Mx
