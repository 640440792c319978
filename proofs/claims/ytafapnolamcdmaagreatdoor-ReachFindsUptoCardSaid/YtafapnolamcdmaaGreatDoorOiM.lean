/- The plain law of lustrumlaw2.OrderIs: names, closures over ways, the sort: no walk in sight. -/
import Derived.Test.YtafapnolamcdmaaGreatDoorBs
import Derived.Test.YtafapnolamcdmaaGreatDoorRfF
import Derived.Laws.CopyRow
import Derived.Laws.Tables
set_option linter.all false
namespace Go.Proofs.YtafapnolamcdmaaGreatDoor
set_option maxRecDepth 100000
set_option maxHeartbeats 16000000
open Mx
theorem atOf_fIdx{p:Pr}(h:Zak p=0):p.atOf=fIdx p:=by
 have hn:=Zhb h
 funext s
 unfold Pr.atOf;cases hf:fIdx p s with
 |none=>
  unfold fIdx at hf;rw[List.findIdx?_eq_none_iff] at hf;exact at_other s p.fl 0 Env.none (λf ji=>by simpa using hf f ji)
 |some j=>
  unfold fIdx at hf;rw[List.findIdx?_eq_some_iff_getElem] at hf;obtain⟨hj,hp,_⟩:=hf;have hp:p.fl[j].name=s:=by simpa using hp
  have:=at_get p.fl 0 Env.none hn j hj;rw[hp] at this;simpa using this
theorem graph_fIdx{p:Pr}(h:Zak p=0):p.graph=p.fl.map λf=>needs (fIdx p) f.e:=by
 unfold Pr.graph;rw[atOf_fIdx h]
def wa(f:Nat->Nat->Bool):Nat->Nat->Nat->Bool
 |0=>f
 |k+1=>λi j=>wa f k i j || (wa f k i k&&wa f k k j)
theorem wa_row(f:Nat->Nat->Bool)(k j:Nat):wa f (k+1) k j=wa f k k j:=by
 show(wa f k k j || (wa f k k k&&wa f k k j))=_;cases wa f k k j<;>simp
theorem wa_col(f:Nat->Nat->Bool)(k i:Nat):wa f (k+1) i k=wa f k i k:=by
 show(wa f k i k || (wa f k i k&&wa f k k k))=_;cases wa f k i k<;>simp
inductive PathK(f:Nat->Nat->Bool)(k:Nat):Nat->Nat->Prop
 |one {i j:Nat}:f i j=true->PathK f k i j
 |via {i m j:Nat}:m<k->PathK f k i m->PathK f k m j->PathK f k i j
theorem PathK.mono{f:Nat->Nat->Bool}{k k':Nat}(h:k<=k'){i j:Nat}(p:PathK f k i j):PathK f k' i j:=by
 induction p with
 |one e=>exact .one e
 |via hm _ _ ih1 ih2=>exact .via (by omega) ih1 ih2
theorem wa_path(f:Nat->Nat->Bool):∀(k i j:Nat),wa f k i j=true↔PathK f k i j
 |0,i,j=>by
  constructor
  .exact λh => .one h
  intro h;cases h with
  |one e=>exact e
  |via hm _ _=>omega
 |k+1,i,j=>by
  have ih:=wa_path f k;constructor
  .intro h;simp only[wa,Bool.or_eq_true,Bool.and_eq_true] at h;rcases h with h|⟨h1,h2⟩
   .exact ((ih i j).1 h).mono (by omega)
   exact .via (Nat.lt_succ_self k) (((ih i k).1 h1).mono (by omega)) (((ih k j).1 h2).mono (by omega))
  intro h
  induction h with
  |one e=>
   simp only[wa,Bool.or_eq_true,Bool.and_eq_true];exact .inl ((ih _ _).2 (.one e))
  | @via i m j hm _ _ h1 h2=>
   by_cases zt:m=k
   .subst zt;rw[wa_col] at h1;rw[wa_row] at h2;simp only[wa,Bool.or_eq_true,Bool.and_eq_true];exact .inr ⟨h1,h2⟩
   have hm':m<k:=by omega
   simp only[wa,Bool.or_eq_true,Bool.and_eq_true] at h1 h2 ⊢;rcases h1 with h1|⟨h1,h1'⟩
   .rcases h2 with h2|⟨h2,h2'⟩
    .exact .inl ((ih i j).2 (.via hm' ((ih i m).1 h1) ((ih m j).1 h2)))
    exact .inr ⟨(ih i k).2 (.via hm' ((ih i m).1 h1) ((ih m k).1 h2)),h2'⟩
   rcases h2 with h2|⟨h2,h2'⟩
   .exact .inr ⟨h1,(ih k j).2 (.via hm' ((ih k m).1 h1') ((ih m j).1 h2))⟩
   exact .inr ⟨h1,h2'⟩
def Zjh(g:List (List Nat))(i j:Nat):Bool:=(g.getD i []).contains j
theorem path_iff{g:List (List Nat)}(Jm:∀l∈g,∀k∈l,k<g.length)(i j:Nat):PathK (Zjh g) g.length i j↔Path g i j:=by
 constructor
 .intro h
  induction h with
  |one e=>exact .one (by simpa[Zjh,edge] using e)
  |via _ _ _ h1 h2=>exact h1.trans h2
 intro h
 induction h with
 |one e=>exact .one (by simpa[Zjh,edge] using e)
 | @snoc b c h e ih=>
  have hb:b<g.length:=by
   have key:∀x y,edge g x y->y<g.length:=λx y he=>by
    unfold edge at he;by_cases hx:x<g.length
    .rw [Ygg,List.getElem?_eq_getElem hx] at he;exact Jm _ (Ymm hx) _ he
    rw[Ygg,List.getElem?_eq_none (by omega)] at he;simp at he
   cases h with
   |one e=>exact key _ _ e
   |snoc _ e=>exact key _ _ e
  exact .via hb ih (.one (by simpa[Zjh,edge] using e))
theorem wa_cyc{g:List (List Nat)}(Jm:∀l∈g,∀k∈l,k<g.length)(i:Nat):wa (Zjh g) g.length i i=cyc g i:=by
 have h1:=(wa_path (Zjh g) g.length i i).trans (path_iff Jm i i);have h2:=cyc_iff g i;cases ha:wa (Zjh g) g.length i i<;>cases hb:cyc g i<;>simp_all
open Go.RowKit Mx
theorem mRfH2{p:Prop}(h:p:=by
 refine Go.w3e ?_;refine Zwo 22 rfl λK_ hK=>?_;go_simp;refine hK.out _ _ (trivial) (λh=>absurd h (by decide)) ?_;clear hK K_
 try simp only[tkS]
 refine Zwd ?_;go_wp2_with fail
 first|(go_roundw;case rel=>exact⟨j+1,by go_num,by omega,Jz.out⟩;case measure=>simp[intOf];omega)|exact⟨⟨j+1,by go_num,by omega,Jz.out⟩,by simp[intOf];omega⟩):p:=h
theorem mRfH1{p:Prop}(h:p:=by
 intro w Hi;go_simp<;>with_reducible rfl):p:=h
theorem made_bools(n:Nat):madeCells #[.bool false] n=Zbz n (λ_=>false):=by
 apply Array.ext_getElem?;intro j;by_cases hj:j<n
 .rw [Zgk n j hj,Zdl n _ j hj]
 rw[Array.getElem?_eq_none (by rw[Zjk];omega),Array.getElem?_eq_none (by rw[Zdh];omega)]
theorem boolsA_mem{n:Nat}{f:Nat->Bool}{v:Value}(h:v∈(Zbz n f).toList):∃j,j<n/\v=.bool (f j):=by
 unfold Zbz at h;simp only[List.mem_map,List.mem_range] at h;obtain⟨j,hj,rfl⟩:=h;exact⟨j,hj,rfl⟩
theorem copied_all(X A:Array Value)(h:X.size=A.size):(List.take 0 X.toList++A.toList++List.drop (0+A.toList.length) X.toList).toArray=A:=by
 rw[List.drop_eq_nil_of_le (by simp;omega)];simp
def Zkn(n k:Nat)(S:Nat->Nat):Array Value:=((List.range n).map λi=>if i<k then Value.slice (some ⟨S i,0,none⟩) n n else Value.slice none 0 0).toArray
theorem Zg1(n k:Nat)(S:Nat->Nat):(Zkn n k S).size=n:=by simp[Zkn]
theorem Zdp(n k:Nat)(S:Nat->Nat)(i:Nat)(hi:i<n):(Zkn n k S)[i]?=some (if i<k then .slice (some ⟨S i,0,none⟩) n n else Ys0):=by simp[Zkn,hi]
theorem rowsA_set(n k:Nat)(S S':Nat->Nat)(hS:∀i,i<k->S' i=S i):(Zkn n k S).setIfInBounds k (.slice (some ⟨S' k,0,none⟩) n n)=Zkn n (k+1) S':=by
 apply Array.ext_getElem?;intro j;rw[Array.getElem?_setIfInBounds];have e0:∀(c:Nat) (g:Nat->Nat),¬j<n->(Zkn n c g)[j]?=none:=λc g h=>Array.getElem?_eq_none (by rw[Zg1];omega);by_cases hj:j<n
 .rw [Zdp n (k+1) S' j hj,Zdp n k S j hj];by_cases hk:k=j
  .subst hk;simp[Zg1,hj]
  by_cases jV:j<k
  .rw [if_neg hk,if_pos jV,if_pos (by omega),hS j jV]
  rw[if_neg hk,if_neg jV,if_neg (by omega)]
 rw[e0 _ _ hj,e0 _ _ hj];by_cases hk:k=j
 .subst hk;simp[Zg1,hj]
 simp[hk]
theorem made_rows(n:Nat)(S:Nat->Nat):madeCells #[Ys0] n=Zkn n 0 S:=by
 apply Array.ext_getElem?;intro j;by_cases hj:j<n
 .rw [made_get n j hj,Zdp n _ _ j hj];simp
 rw[Array.getElem?_eq_none (by rw[made_size];omega),Array.getElem?_eq_none (by rw[Zg1];omega)]
structure NMat(w0 wr:World)(base M1 M2:Nat)(R:Nat->Nat)(n k:Nat)(f g:Nat->Nat->Bool):Prop where
 below:Below base w0 wr
 m1:wr.heap[M1]?=some (.cells (Zkn n k λi=>R (2 * i)) 81 (0,0))
 m2:wr.heap[M2]?=some (.cells (Zkn n k λi=>R (2 * i+1)) 81 (0,0))
 r1:∀i,i<k->wr.heap[R (2 * i)]?=some (.cells (Zbz n (f i)) 4 (0,0))
 r2:∀i,i<k->wr.heap[R (2 * i+1)]?=some (.cells (Zbz n (g i)) 4 (0,0))
 hM:base<=M1
 hMM:M1<M2
 lo:∀a,a<2 * k->M2<R a
 mono:∀a b,a<b->b<2 * k->R a<R b
theorem NMat.hi{w0 wr:World}{base M1 M2 n k:Nat}{R:Nat->Nat}{f g:Nat->Nat->Bool}(h:NMat w0 wr base M1 M2 R n k f g){a:Nat}(ha:a<2 * k):R a<wr.heap.size:=by
 rcases(show a % 2=0\/a % 2=1 from by omega) with e|e
 .have:=h.r1 (a / 2) (by omega);rw[show 2 * (a / 2)=a from by omega] at this;exact(Zlt this)
 have:=h.r2 (a / 2) (by omega);rw[show 2 * (a / 2)+1=a from by omega] at this;exact(Zlt this)
theorem heap_setRow_far(w:World)(g:Nat)(cs:Array Value)(b:Nat)(h:b≠g):(w.setRow g cs).heap[b]?=w.heap[b]?:=by
 unfold World.setRow;simp only;rw[Array.getElem?_modify,if_neg (Ne.symm h)]
theorem in_setRow{K:Kn}{w:World}(h:K.In w){g:Nat}(hg:K g=none)(cs:Array Value):K.In (w.setRow g cs):=λb o e=>by
 rw[heap_setRow_far _ _ _ _ (λe2=>by rw[e2,hg] at e;cases e)];exact h b o e
theorem step_copy_row{P:Program}{ops:Array Oper}{o:Oper}{a:Act}{w:World}{K:Act->World->Prop}{Q:Exit->Act->World->Prop}{E:Prop}(hgd:o.guard=none)(d s:Operand)(dT sT:TypeId)
  (ho:o.op=.call { callee:=.builtin .copy,args := #[d,s],argTypes := #[dT,sT] }) (elem:TypeId) (hu:P.underlying dT=some (.slice elem)) (J5:(P.info? elem).map (·.size)=some 1)
  (g dLen dCap:Nat) (ad:Addr) (sLen sCap:Nat) (cur:Array Value) (t:TypeId) (cs:List Value) (hd:a.eval d=.slice (some ⟨g,0,none⟩) dLen dCap) (hs:a.eval s=.slice (some ad) sLen sCap)
  (hg:w.heap[g]?=some (.cells cur t (0,0))) (hn:cs.length=Nat.min sLen dLen) (hsrc:∀j v,cs[j]?=some v->w.cell? (ad.add j)=some v) (kC:0+cs.length<=cur.size) (h1:∀v∈cs,v.oneCell'=true)
  (h:K (a.put o.dst (goInt cs.length)) (w.setRow g (cur.toList.take 0++cs++cur.toList.drop (0+cs.length)).toArray)):
  if Region.wanted o (yielded ops a.tmps)=true then Oper.wp P o a w K Q else E:=by
 have hw:Region.wanted o (yielded ops a.tmps)=true:=by simp[Region.wanted,hgd]
 rw[if_pos hw];have Ht:=run_copy_row (P:=P) w dT sT o.type elem g 0 dLen dCap ad sLen sCap cur t cs hu J5 hg hn hsrc kC h1;unfold Oper.wp;simp[execOp,ho,resolve,invoke,builtin,hd,hs,Ht,Result.andThen];simpa[Oper.upon] using h
theorem Tryz.infoBools:(Tryz.prog.info? 81).map (λi=>(i.zero,i.size,i.bytes))=some (some (Ys0),1,24):=by kernel_rfl
theorem make_set(w:World)(M i:Nat)(v:Value)(d cs:Array Value)(t t2:TypeId)(h:w.heap[M]?=some (.cells cs t (0,0))):
  ((w.alloc (.cells d t2)).setCell ⟨M,i,none⟩ v).heap[M]?=some (.cells (cs.setIfInBounds i v) t (0,0))/\((w.alloc (.cells d t2)).setCell ⟨M,i,none⟩ v).heap[w.heap.size]?=some (.cells d t2 (0,0))/\
   (∀b,b<w.heap.size->b≠M->((w.alloc (.cells d t2)).setCell ⟨M,i,none⟩ v).heap[b]?=w.heap[b]?)/\((w.alloc (.cells d t2)).setCell ⟨M,i,none⟩ v).heap.size=w.heap.size+1:=by
 have Hr:M<w.heap.size:=(Zlt h);refine⟨?_,?_,λb hb Hs=>?_,by simp[World.setCell]⟩
 .exact Zaa _ _ _ _ _ _ _ ((Below.heap_alloc w _ M Hr).trans h)
 .rw [Below.heap_setCell _ _ _ _ (show w.heap.size≠M by omega)];exact heap_alloc_new _ _
 rw[Below.heap_setCell _ _ _ _ Hs];exact Below.heap_alloc w _ b hb
theorem below_setRow'{B g:Nat}{w0 w:World}(hb:Below B w0 w)(hBg:B<=g)(cs:Array Value):Below B w0 (w.setRow g cs):=
 hb.trans ⟨rfl,rfl,rfl,by simp[World.setRow],λk hk=>setRow_other w g k cs (by omega)⟩
theorem NMat.congr{w0 wr:World}{base M1 M2 n k:Nat}{R:Nat->Nat}{f g g':Nat->Nat->Bool}(h:NMat w0 wr base M1 M2 R n k f g)(e:∀i,i<k->∀j,j<n->g i j=g' i j):NMat w0 wr base M1 M2 R n k f g':=
 ⟨h.below,h.m1,h.m2,h.r1,λi hi=>by rw[h.r2 i hi,Zc5 (e i hi)],h.hM,h.hMM,h.lo,h.mono⟩
theorem NMat.drew{w0 wr:World}{base M1 M2 n k:Nat}{R:Nat->Nat}{f g:Nat->Nat->Bool}(h:NMat w0 wr base M1 M2 R n k f g):NMat w0 wr.drew base M1 M2 R n k f g:=
 ⟨h.below.drew,h.m1,h.m2,h.r1,h.r2,h.hM,h.hMM,h.lo,h.mono⟩
theorem NMat.setB{w0 wr:World}{base M1 M2 n k i j:Nat}{R:Nat->Nat}{f g g':Nat->Nat->Bool}{b:Bool}(h:NMat w0 wr base M1 M2 R n k f g)(hi:i<k)(e1:b=g' i j)(e2:∀i' j',i'<k->(i'≠i\/j'≠j)->g i' j'=g' i' j'):
  NMat w0 (wr.setCell ⟨R (2 * i+1),j,none⟩ (.bool b)) base M1 M2 R n k f g':=by
 have lo:=h.lo (2 * i+1) (by omega);have hM:=h.hM;have hMM:=h.hMM;have ne:∀a,a<2 * k->a≠2 * i+1->R a≠R (2 * i+1):=λa ha Hs=>by
  rcases(show a<2 * i+1\/2 * i+1<a from by omega) with h1|h1
  .have:=h.mono _ _ h1 (by omega);omega
  have:=h.mono _ _ h1 ha;omega
 refine⟨h.below.setCell (p:=⟨R (2 * i+1),j,none⟩) (show base<=R (2 * i+1) by omega) _,?_,?_,λi' qK=>?_,λi' qK=>?_,hM,hMM,h.lo,h.mono⟩
 .rw [Below.heap_setCell _ _ _ _ (show M1≠R (2 * i+1) by omega)];exact h.m1
 .rw [Below.heap_setCell _ _ _ _ (show M2≠R (2 * i+1) by omega)];exact h.m2
 .rw [Below.heap_setCell _ _ _ _ (ne _ (by omega) (by omega))];exact h.r1 i' qK
 by_cases hii:i'=i
 .subst hii;rw[Zaa _ _ _ _ _ _ _ (h.r2 i' qK),Zjz]
  congr 2
  refine Zc5 λj' jB=>?_;by_cases hj:j'=j
  .subst hj;rw[if_pos rfl];exact e1
  rw[if_neg hj];exact e2 _ _ qK (.inr hj)
 rw[Below.heap_setCell _ _ _ _ (ne _ (by omega) (by omega)),h.r2 i' qK,Zc5 λj' jB=>e2 _ _ qK (.inl hii)]
theorem NMat.cellM{w0 wr:World}{base M1 M2 n k:Nat}{R:Nat->Nat}{f g:Nat->Nat->Bool}(h:NMat w0 wr base M1 M2 R n k f g){i:Nat}(hi:i<k)(hk:k<=n):wr.cell? ⟨M2,i,none⟩=some (.slice (some ⟨R (2 * i+1),0,none⟩) n n):=by
 have h1:=h.m2;simp only[World.cell?,h1];rw[Zdp _ _ _ _ (by omega),if_pos hi];rfl
theorem NMat.cellO{w0 wr:World}{base M1 M2 n k:Nat}{R:Nat->Nat}{f g:Nat->Nat->Bool}(h:NMat w0 wr base M1 M2 R n k f g){i:Nat}(hi:i<k)(hk:k<=n):wr.cell? ⟨M1,i,none⟩=some (.slice (some ⟨R (2 * i),0,none⟩) n n):=by
 have h1:=h.m1;simp only[World.cell?,h1];rw[Zdp _ _ _ _ (by omega),if_pos hi];rfl
theorem NMat.cellA{w0 wr:World}{base M1 M2 n k:Nat}{R:Nat->Nat}{f g:Nat->Nat->Bool}(h:NMat w0 wr base M1 M2 R n k f g){i j:Nat}(hi:i<k)(hj:j<n):wr.cell? ⟨R (2 * i+1),j,none⟩=some (.bool (g i j)):=by
 have h1:=h.r2 i hi;simp only[World.cell?,h1];exact Zdl _ _ _ hj
theorem NMat.cellB{w0 wr:World}{base M1 M2 n k:Nat}{R:Nat->Nat}{f g:Nat->Nat->Bool}(h:NMat w0 wr base M1 M2 R n k f g){i j:Nat}(hi:i<k)(hj:j<n):wr.cell? ⟨R (2 * i),j,none⟩=some (.bool (f i j)):=by
 have h1:=h.r1 i hi;simp only[World.cell?,h1];exact Zdl _ _ _ hj
theorem NMat.froz{w0 wr:World}{base M1 M2 n k:Nat}{R:Nat->Nat}{f g:Nat->Nat->Bool}(h:NMat w0 wr base M1 M2 R n k f g){i:Nat}(hi:i<k)(j:Nat):wr.frozen? ⟨R (2 * i+1),j,none⟩=false:=by
 have h1:=h.r2 i hi;simp[World.frozen?,h1]
def wc(f:Nat->Nat->Bool)(k i j:Nat)(i' j':Nat):Bool:=if i'<i\/(i'=i/\j'<j) then wa f (k+1) i' j' else wa f k i' j'
theorem wc_k{f:Nat->Nat->Bool}{k i j:Nat}:wc f k i j i k=wa f k i k:=by
 unfold wc
 split
 .exact wa_col f k i
 rfl
theorem wc_row{f:Nat->Nat->Bool}{k i j:Nat}:wc f k i j k j=wa f k k j:=by
 unfold wc
 split
 .exact wa_row f k j
 rfl
theorem wc_here{f:Nat->Nat->Bool}{k i j:Nat}:wc f k i j i j=wa f k i j:=by
 unfold wc;rw[if_neg (by omega)]
theorem wc_there{f:Nat->Nat->Bool}{k i j:Nat}:wc f k i (j+1) i j=wa f (k+1) i j:=by
 unfold wc;rw[if_pos (by omega)]
theorem wc_step{f:Nat->Nat->Bool}{k i j i' j':Nat}(h:i'≠i\/j'≠j):wc f k i j i' j'=wc f k i (j+1) i' j':=by
 unfold wc;by_cases hc:i'<i\/(i'=i/\j'<j)
 .rw [if_pos hc,if_pos (by omega)]
 rw[if_neg hc,if_neg (by omega)]
theorem wc_zero{f:Nat->Nat->Bool}{k i' j':Nat}:wa f k i' j'=wc f k 0 0 i' j':=by
 unfold wc;rw[if_neg (by omega)]
theorem wc_full{f:Nat->Nat->Bool}{k n i' j':Nat}(h:i'<n):wc f k n 0 i' j'=wa f (k+1) i' j':=by
 unfold wc;rw[if_pos (by omega)]
theorem wc_next{f:Nat->Nat->Bool}{k i j n i' j':Nat}(jB:j'<n)(h:j=n\/wa f k i k=false):wc f k i j i' j'=wc f k (i+1) 0 i' j':=by
 unfold wc;by_cases hc:i'<i\/(i'=i/\j'<j)
 .rw [if_pos hc,if_pos (by omega)]
 rw[if_neg hc];by_cases hi:i'=i
 .subst hi;rw[if_pos (by omega)];rcases h with rfl|h
  .omega
  show _=(wa f k i' j' || (wa f k i' k&&wa f k k j'));rw[h];simp
 rw[if_neg (by omega)]
def Zc3(p:Pr)(i j:Nat):Bool:=match p.fl[i]? with|some f=>(needs (fIdx p) f.e).contains j|none=>false
theorem onceG_get(p:Pr)(i:Nat)(hi:i<p.fl.length):Zc3 p i=λj=>(needs (fIdx p) p.fl[i].e).contains j:=by
 funext j
 simp[Zc3,hi]
theorem needsOf_any(H:Kn)(p:Pr)(vi vo vl va vc:Value)(hp:PrP H p vi vo vl va vc)(s1:p.fl.length<=1000000)(s2:Ex.partsL (p.fl.map (·.e))<=1000000000)(w:World)(hH:H.In w):
  Calls Tryz.prog 76 #[.agg #[vi,vo,vl,va,vc]] w λr w'=>∃M1 M2 R,r=.returned (.tuple #[.slice (some ⟨M1,0,none⟩) p.fl.length p.fl.length,.slice (some ⟨M2,0,none⟩) p.fl.length p.fl.length])/\NMat w w' w.heap.size M1 M2 R p.fl.length p.fl.length (Zc3 p) (wa (Zc3 p) p.fl.length):=by
 have HP:=Zhd hp;obtain⟨h1,h2,h3,h4,h5⟩:=hp;obtain⟨ai,ci,ao,co,al,cl,aa,ca,ac,cc,rfl,rfl,rfl,rfl,rfl⟩:=Ypo h1.len h2.len h3.len h4.len h5.len;clear h1 h2 h3 h4 h5;have hmkM:=run_make_row' (P:=Tryz.prog) 174 81 (Ys0) 24 Tryz.underlying174 Tryz.infoBools rfl .i64 .i64 p.fl.length (by omega) (by omega);have hmkB:=run_make_row' (P:=Tryz.prog) 81 4 (.bool false) 1 Tryz.underlying81 Tryz.infoBool rfl .i64 .i64 p.fl.length (by omega) (by omega);have kT:=heap_alloc_new w (.cells (Yq5 p ai ao al aa ac ci co cl ca cc) 27);have Hg:Ybw w (w.alloc (.cells (Yq5 p ai ao al aa ac ci co cl ca cc) 27)):=Yba;obtain⟨K,JQ⟩:∃K,K=H.add w.heap.size (.cells (Yq5 p ai ao al aa ac ci co cl ca cc) 27 (0,0)):=⟨_,rfl⟩;have qC:H.le K:=by rw[JQ];exact Kn.le_add (hH.isNone Ylr)
 have JK:K.In (w.alloc (.cells (Yq5 p ai ao al aa ac ci co cl ca cc) 27)):=by rw[JQ];exact(hH.below Hg).add kT
 have qi:∀i,K.cell w.heap.size i=((Yq5 p ai ao al aa ac ci co cl ca cc):Array Value)[i]?:=λi=>by unfold Kn.cell;rw[JQ,Kn.add_self]
 have k0:K.cell w.heap.size 0=some (.slice ai p.ins.length ci):=qi 0;have k1:K.cell w.heap.size 1=some (.slice ao p.outs.length co):=qi 1;have k2:K.cell w.heap.size 2=some (.slice al p.fl.length cl):=qi 2;have k3:K.cell w.heap.size 3=some (.slice aa p.as.length ca):=qi 3;have k4:K.cell w.heap.size 4=some (.slice ac p.cs.length cc):=qi 4;have yC:=Zhd (HP.out.le qC);have J6:(w.alloc (.cells (Yq5 p ai ao al aa ac ci co cl ca cc) 27)).heap.size=w.heap.size+1:=by simp
 have J4:=Zhd Hg;have QD:=Zhd (show ∀b,w.heap.size+1<=b->K b=none from λb hb=>by rw[JQ,Kn.add_other _ _ (by omega)];exact hH.isNone (by omega));clear qi JQ kT Hg HP qC;go_enter Tryz.func76,Tryz.ntmps76;go_wp2_with fail;generalize w.alloc (.cells (Yq5 p ai ao al aa ac ci co cl ca cc) 27)=W1 at *;have jF:=Zhd (show NMat W1 ((W1.alloc (.cells (madeCells #[Ys0] p.fl.length) 81)).alloc (.cells (madeCells #[Ys0] p.fl.length) 81)) (w.heap.size+1) (w.heap.size+1) (w.heap.size+1+1) (λ_=>0) p.fl.length 0 (Zc3 p) (Zc3 p) from by
  refine⟨((Below.refl _ _).alloc (by omega) _).alloc (by simp;omega) _,?_,?_,λi hi=>by omega,λi hi=>by omega,Nat.le_refl _,by omega,λa ha=>by omega,λa b _ hb=>by omega⟩
  .rw [Below.heap_alloc _ _ _ (by simp;omega),<- J6];rw[made_rows _ (λ_=>0)];exact heap_alloc_new _ _
  rw[show w.heap.size+1+1=(W1.alloc (.cells (madeCells #[Ys0] p.fl.length) 81)).heap.size from by simp;omega];rw[made_rows _ (λ_=>0)];exact heap_alloc_new _ _)
 have gQ:=Zhd JK;clear JK;go_loopw[7] (λi wr=>∃(k:Nat) (R:Nat->Nat),i=.int .i64 k/\k<=p.fl.length/\NMat W1 wr (w.heap.size+1) (w.heap.size+1) (w.heap.size+1+1) R p.fl.length k (Zc3 p) (Zc3 p)) (λi _=>p.fl.length - (intOf i).toNat)
 case atStart=>exact⟨0,_,rfl,Nat.zero_le _,jF.out⟩
 obtain⟨k,R,rfl,hk,hS⟩:=hrel;have HS:=Zhd hS;have kV:K.In wr:=gQ.out.below (hS.below.mono (by omega));clear hS;by_cases Hd:k<p.fl.length
 .have hM1lt:w.heap.size+1<wr.heap.size:=(Zlt HS.out.m1);have hM2lt:w.heap.size+1+1<wr.heap.size:=(Zlt HS.out.m2);obtain⟨R',hR'⟩:∃R':Nat->Nat,R'=λa=>if a=2 * k then wr.heap.size else if a=2 * k+1 then wr.heap.size+1 else R a:=⟨_,rfl⟩
  have Q7:R' (2 * k)=wr.heap.size:=by rw[hR'];simp
  have hRk1:R' (2 * k+1)=wr.heap.size+1:=by rw[hR'];simp
  have hRo:∀a,a<2 * k->R' a=R a:=λa ha=>by
   rw[hR'];show(if a=2 * k then wr.heap.size else if a=2 * k+1 then wr.heap.size+1 else R a)=R a;rw[if_neg (by omega),if_neg (by omega)]
  obtain⟨b1,b2,b3,b4⟩:=make_set wr (w.heap.size+1) k (.slice (some ⟨wr.heap.size,0,none⟩) p.fl.length p.fl.length) (madeCells #[.bool false] p.fl.length) _ _ 4 HS.out.m1;have b1':((wr.alloc (.cells (madeCells #[.bool false] p.fl.length) 4)).setCell ⟨w.heap.size+1,k,none⟩ (.slice (some ⟨wr.heap.size,0,none⟩) p.fl.length p.fl.length)).heap[w.heap.size+1+1]?=_:=(b3 _ hM2lt (by omega)).trans HS.out.m2;have q1:(wr.alloc (.cells (madeCells #[.bool false] p.fl.length) 4)).cell? ⟨w.heap.size+1,k,none⟩=some (Ys0):=by
   have h:=(Below.heap_alloc wr (.cells (madeCells #[.bool false] p.fl.length) 4) _ hM1lt).trans HS.out.m1;simp[World.cell?,h,Zdp _ _ _ _ Hd]
  have f1:(wr.alloc (.cells (madeCells #[.bool false] p.fl.length) 4)).frozen? ⟨w.heap.size+1,k,none⟩=false:=by
   have h:=(Below.heap_alloc wr (.cells (madeCells #[.bool false] p.fl.length) 4) _ hM1lt).trans HS.out.m1;simp[World.frozen?,h]
  have hB1:Below (w.heap.size+1) W1 ((wr.alloc (.cells (madeCells #[.bool false] p.fl.length) 4)).setCell ⟨w.heap.size+1,k,none⟩ (.slice (some ⟨wr.heap.size,0,none⟩) p.fl.length p.fl.length)):=(HS.out.below.alloc (by omega) _).setCell Ylr _;rw[<- Q7,rowsA_set _ _ _ (λi=>R' (2 * i)) (λi hi=>hRo _ (by omega))] at b1;rw[Q7] at b1;generalize hwB:(wr.alloc (.cells (madeCells #[.bool false] p.fl.length) 4)).setCell ⟨w.heap.size+1,k,none⟩ (.slice (some ⟨wr.heap.size,0,none⟩) p.fl.length p.fl.length)=wB at *;obtain⟨c1,c2,c3,c4⟩:=make_set wB (w.heap.size+1+1) k (.slice (some ⟨wr.heap.size+1,0,none⟩) p.fl.length p.fl.length) (madeCells #[.bool false] p.fl.length) _ _ 4 b1';have q2:(wB.alloc (.cells (madeCells #[.bool false] p.fl.length) 4)).cell? ⟨w.heap.size+1+1,k,none⟩=some (Ys0):=by
   have h:=(Below.heap_alloc wB (.cells (madeCells #[.bool false] p.fl.length) 4) _ (by omega)).trans b1';simp[World.cell?,h,Zdp _ _ _ _ Hd]
  have f2:(wB.alloc (.cells (madeCells #[.bool false] p.fl.length) 4)).frozen? ⟨w.heap.size+1+1,k,none⟩=false:=by
   have h:=(Below.heap_alloc wB (.cells (madeCells #[.bool false] p.fl.length) 4) _ (by omega)).trans b1';simp[World.frozen?,h]
  have vX:Below (w.heap.size+1) W1 ((wB.alloc (.cells (madeCells #[.bool false] p.fl.length) 4)).setCell ⟨w.heap.size+1+1,k,none⟩ (.slice (some ⟨wr.heap.size+1,0,none⟩) p.fl.length p.fl.length)):=(hB1.alloc (by omega) _).setCell (p:=⟨w.heap.size+1+1,k,none⟩) (show w.heap.size+1<=w.heap.size+1+1 by omega) _;rw[<- hRk1,rowsA_set _ _ _ (λi=>R' (2 * i+1)) (λi hi=>hRo _ (by omega))] at c1;rw[hRk1] at c1;have d1:=(c3 (w.heap.size+1) (by omega) (by omega)).trans b1;have d2:=(c3 wr.heap.size (by omega) (by omega)).trans b2;rw[b4] at c2;have d3:∀b,b<wr.heap.size->b≠w.heap.size+1->b≠w.heap.size+1+1->((wB.alloc (.cells (madeCells #[.bool false] p.fl.length) 4)).setCell ⟨w.heap.size+1+1,k,none⟩ (.slice (some ⟨wr.heap.size+1,0,none⟩) p.fl.length p.fl.length)).heap[b]?=wr.heap[b]?:=λb h1 h2 h3=>(c3 b (by omega) h3).trans (b3 b h1 h2);have vG:(k:Int)<p.fl.length:=by omega
  have hzB:wB.heap.size=wr.heap.size+1:=b4;have hsC:((wB.alloc (.cells (madeCells #[.bool false] p.fl.length) 4)).setCell ⟨w.heap.size+1+1,k,none⟩ (.slice (some ⟨wr.heap.size+1,0,none⟩) p.fl.length p.fl.length)).heap.size=wr.heap.size+2:=by rw[c4];omega
  generalize hwC:(wB.alloc (.cells (madeCells #[.bool false] p.fl.length) 4)).setCell ⟨w.heap.size+1+1,k,none⟩ (.slice (some ⟨wr.heap.size+1,0,none⟩) p.fl.length p.fl.length)=wC at *;rw[made_bools] at c2 d2;have HD3:=Zhd d3;have HCM2:=Zhd c1;have HCM1:=Zhd d1;have HD1:=Zhd d2;have HD2:=Zhd c2;have HSC:=Zhd hsC;have Jh:=Zhd vX;have HRK:=Zhd Q7;have HRK1:=Zhd hRk1;have HRO:=Zhd hRo;clear b1 b2 b3 b4 b1' c1 c2 c3 c4 d1 d2 d3 hB1 vX hR' hsC Q7 hRk1 hRo;go_wp2_with fail;have HHI:=Zhd (λa (h:a<2 * k)=>HS.out.hi h);generalize hDe:wr.heap.size=D1 at *;have hKC:K.In wC:=gQ.out.below (by unfold Ybw;rw[J6];exact Jh.out);obtain⟨K2,vW⟩:∃K2,K2=(K.add (w.heap.size+1) (.cells (Zkn p.fl.length (k+1) λi=>R' (2 * i)) 81 (0,0))).add (w.heap.size+1+1) (.cells (Zkn p.fl.length (k+1) λi=>R' (2 * i+1)) 81 (0,0)):=⟨_,rfl⟩;have kc:K.le K2:=by rw[vW];exact Kn.le_trans (Kn.le_add (QD.out _ (by omega))) (Kn.le_add (by rw[Kn.add_other _ _ (by omega)];exact QD.out _ (by omega)))
  have hK2in:K2.In wC:=by rw[vW];exact(hKC.add HCM1.out).add HCM2.out
  have hK2D:K2 D1=none:=by rw[vW,Kn.add_other _ _ (by omega),Kn.add_other _ _ (by omega)];exact QD.out _ (by omega)
  have hK2E:K2 (D1+1)=none:=by rw[vW,Kn.add_other _ _ (by omega),Kn.add_other _ _ (by omega)];exact QD.out _ (by omega)
  have hM1c:K2.cell (w.heap.size+1) k=some (.slice (some ⟨D1,0,none⟩) p.fl.length p.fl.length):=by
   unfold Kn.cell;rw[vW,Kn.add_other _ _ (by omega),Kn.add_self];simp only;rw[Zdp _ _ _ _ Hd,if_pos (by omega),HRK.out]
  have hM2c:K2.cell (w.heap.size+1+1) k=some (.slice (some ⟨D1+1,0,none⟩) p.fl.length p.fl.length):=by
   unfold Kn.cell;rw[vW,Kn.add_self];simp only;rw[Zdp _ _ _ _ Hd,if_pos (by omega),HRK1.out]
  obtain⟨b,off,Qd,he,_,_,JJ⟩:=FlsV.cell yC.out.fl (λe=>by rw[e] at Hd;simp at Hd);cases he;obtain⟨ax,cx,d0,d1,d2,d3,d4,d5,hx⟩:=JJ k Hd;have Jy:p.fl[k].e.parts<=1000000000000:=by
   have:=Za0 (p.fl.map (·.e)) k (by simpa using Hd);simp at this;omega
  have j9:=onceG_get p k Hd;obtain⟨fo,hfoe⟩:∃g,g=Zc3 p k:=⟨_,rfl⟩;rw[<- hfoe] at j9;generalize p.fl[k]=x at *;have k0:=kc.cell k0;have k1:=kc.cell k1;have k2:=kc.cell k2;have k3:=kc.cell k3;have k4:=kc.cell k4;have d2:=kc.cell d2;have d3:=kc.cell d3;have d4:=kc.cell d4;have d5:=kc.cell d5;have HPK2:=Zhd (yC.out.le kc);have HXK:=Zhd (hx.le kc);have qr:=Zhd j9;have HFE:=Zhd hfoe;have hs1b:p.fl.length<=1000000000:=by omega
  have Hq:K2.In wC.drew:=hK2in;clear JJ hx d0 d1 j9 hfoe vW hKC hK2in hmkM hmkB q1 f1 q2 f2 hwB hwC;refine Zae (λw'=>K2.In w') (λ_=>True) 99 (by kernel_rfl) ?_;refine Go.w3 0 ?_
  iterate 11 ((first|(refine tk3 (v:=?_) rfl Hq Ztr ?hy ?_;(case hy=>intro w Hi;obtain⟨z0,z1,z2,z3,z4,z5,z6,z7,z8,z9⟩:=Hi.c10 k0 k1 k2 k3 k4 d2 d3 d4 d5 hM1c;go_simp<;>with_reducible rfl))|refine sk3 rfl Hq Ztr ?_|refine no3 ?_);refine Zss ?_)
  refine Go.w3e ?_;refine Zwo 11 rfl λK_ hK=>?_;go_simp;go_at_call 104;refine(atOnce_any p _ _ _ _ _ D1 hs1b x.e _ K2 (λ_=>false) ⟨_,rfl,HXK.out⟩ Jy HPK2.out _ Hq hK2D (show wC.drew.heap[D1]?=_ from HD1.out)).mono ?_;rintro r w2 ⟨rfl,zc,hbl2⟩;have Jw:K2.In w2:=Hq.grown zc (λq hq=>by cases hq;exact hK2D);refine hK.out _ _ (Jw) Ztr ?_;clear hK K_
  try simp only[tkS]
  refine Zwd ?_;have hD2lt:D1+1<wC.heap.size:=by have:=HSC.out;omega
  have HD1c0:=Zhd (show w2.heap[D1]?=some (.cells (Zbz p.fl.length fo) 4 (0,0)) from by rw[hbl2,qr.out];congr 2);have HD2c0:=Zhd (show w2.heap[D1+1]?=some (.cells (Zbz p.fl.length λ_=>false) 4 (0,0)) from(zc.block (D1+1) hD2lt (by simp)).trans HD2.out);have HG2:=Zhd (show ∀b,b<wC.heap.size->b≠D1->w2.heap[b]?=wC.heap[b]? from λb hb Hs=>zc.block b hb (by simpa using Hs));have xC:=Zhd (show Below (w.heap.size+1) W1 w2 from(Jh.out.drew).grown zc (by show _<=wC.heap.size;omega) (λq hq=>by cases hq;omega));have qG:=Zhd (show wC.heap.size<=w2.heap.size from zc.size);clear hbl2 zc;have yu:K2.In w2.drew:=Jw;have HD1c:=Zhd (show w2.drew.heap[D1]?=some (.cells (Zbz p.fl.length fo) 4 (0,0)) from HD1c0.out);have HD2c:=Zhd (show w2.drew.heap[D1+1]?=some (.cells (Zbz p.fl.length λ_=>false) 4 (0,0)) from HD2c0.out);go_wp2_with fail;refine Zae (λw'=>K2.In w') (λ_=>True) 99 (by kernel_rfl) ?_;refine Go.w3 0 ?_
  iterate 3 ((first|(refine tk3 (v:=?_) rfl yu Ztr ?hy ?_;(case hy=>intro w Hi;obtain⟨z0,z1⟩:=Hi.c2 hM1c hM2c;go_simp<;>with_reducible rfl))|refine sk3 rfl yu Ztr ?_|refine no3 ?_);refine Zss ?_)
  refine Go.w3e ?_;refine Go.w3 4 ?_
  iterate 3 ((first|(refine tk3 (v:=?_) rfl yu Ztr ?hy ?_;(case hy=>intro w Hi;obtain⟨z0,z1⟩:=Hi.c2 hM1c hM2c;go_simp<;>with_reducible rfl))|refine sk3 rfl yu Ztr ?_|refine no3 ?_);refine Zss ?_)
  refine Go.w3e ?_;refine tk2 (i:=3) (v:=?_) rfl yu Ztr ?hy ?_
  case hy=>intro w Hi;obtain⟨z0,z1⟩:=Hi.c2 hM1c hM2c;go_simp<;>with_reducible rfl
  try simp only[tkS]
  refine tk2 (i:=7) (v:=?_) rfl yu Ztr ?hy ?_
  case hy=>intro w Hi;obtain⟨z0,z1⟩:=Hi.c2 hM1c hM2c;go_simp<;>with_reducible rfl
  try simp only[tkS]
  refine Zwo 8 rfl λK_ hK=>?_;refine step_copy_row (by rfl) _ _ 81 81 (by rfl) 4 Tryz.underlying81 (by kernel_rfl) (D1+1) p.fl.length p.fl.length ⟨D1,0,none⟩ p.fl.length p.fl.length (Zbz p.fl.length λ_=>false) 4 (Zbz p.fl.length fo).toList (by rfl) (by rfl) HD2c.out (by simp[Zdh]) ?hsrc (by simp[Zdh]) ?hone ?_
  case hsrc=>
   intro j v hj;rw[Zc6,Nat.zero_add];simp only[World.cell?,HD1c.out];simpa using hj
  case hone=>
   intro v hv;obtain⟨j,hj,rfl⟩:=boolsA_mem hv;rfl
  rw[copied_all _ _ (by simp[Zdh])];refine hK.out _ _ (in_setRow yu hK2E _) Ztr ?_;clear hK K_
  try simp only[tkS]
  refine Zwd ?_;have HE1:=Zhd (show(w2.drew.setRow (D1+1) (Zbz p.fl.length fo)).heap[D1]?=some (.cells (Zbz p.fl.length (Zc3 p k)) 4 (0,0)) from by rw[<- HFE.out,setRow_other _ _ _ _ (by omega)];exact HD1c0.out);have HE2:=Zhd (show(w2.drew.setRow (D1+1) (Zbz p.fl.length fo)).heap[D1+1]?=some (.cells (Zbz p.fl.length (Zc3 p k)) 4 (0,0)) from by rw[<- HFE.out];exact setRow_heap _ _ _ _ _ _ HD2c0.out);have HE3:=Zhd (show ∀b,b<D1->(w2.drew.setRow (D1+1) (Zbz p.fl.length fo)).heap[b]?=wC.heap[b]? from λb hb=>by rw[setRow_other _ _ _ _ (by omega)];exact HG2.out b (by omega) (by omega));have HE4:=Zhd (below_setRow' xC.out.drew (show w.heap.size+1<=D1+1 by omega) (Zbz p.fl.length fo));generalize w2.drew.setRow (D1+1) (Zbz p.fl.length fo)=w3 at *;have kG:=Zhd (show NMat W1 w3 (w.heap.size+1) (w.heap.size+1) (w.heap.size+1+1) R' p.fl.length (k+1) (Zc3 p) (Zc3 p) from by
   refine⟨HE4.out,by rw[HE3.out _ (by omega)];exact HCM1.out,by rw[HE3.out _ (by omega)];exact HCM2.out,λi hi=>?_,λi hi=>?_,Nat.le_refl _,by omega,λa ha=>?_,λa b zL hb=>?_⟩
   .by_cases jp:i<k
    .have h1:=HHI.out (2 * i) (by omega);have h2:=HS.out.lo (2 * i) (by omega);rw[HRO.out _ (by omega),HE3.out _ h1,HD3.out _ h1 (by omega) (by omega)];exact HS.out.r1 i jp
    obtain rfl:i=k:=by omega
    rw[HRK.out];exact HE1.out
   .by_cases jp:i<k
    .have h1:=HHI.out (2 * i+1) (by omega);have h2:=HS.out.lo (2 * i+1) (by omega);rw[HRO.out _ (by omega),HE3.out _ h1,HD3.out _ h1 (by omega) (by omega)];exact HS.out.r2 i jp
    obtain rfl:i=k:=by omega
    rw[HRK1.out];exact HE2.out
   .rcases (show a<2 * k\/a=2 * k\/a=2 * k+1 from by omega) with h|rfl|rfl
    .rw [HRO.out _ h];exact HS.out.lo a h
    .rw [HRK.out];omega
    rw[HRK1.out];omega
   rcases(show b<2 * k\/b=2 * k\/b=2 * k+1 from by omega) with h|rfl|rfl
   .rw [HRO.out _ h,HRO.out _ (by omega)];exact HS.out.mono a b zL h
   .rw [HRK.out,HRO.out _ (by omega)];exact HHI.out _ (by omega)
   rw[HRK1.out];rcases(show a<2 * k\/a=2 * k from by omega) with h|rfl
   .rw [HRO.out _ h];have:=HHI.out _ h;omega
   rw[HRK.out];omega)
  go_wp2_with fail;go_roundw
  case rel=>exact⟨k+1,R',by go_num,by omega,kG.out⟩
  simp[intOf];omega
 obtain rfl:k=p.fl.length:=by omega
 generalize hB0:w.heap.size=B0 at *;clear Hd hmkM hmkB QD kV gQ yC hH s2;go_wp2_with fail;go_loopw[8] (λi wr=>∃(k:Nat),i=.int .i64 k/\k<=p.fl.length/\NMat W1 wr (B0+1) (B0+1) (B0+1+1) R p.fl.length p.fl.length (Zc3 p) (wa (Zc3 p) k)) (λi _=>p.fl.length - (intOf i).toNat)
 case atStart=>exact⟨0,rfl,Nat.zero_le _,HS.out⟩
 obtain⟨k,rfl,hk,hS⟩:=hrel;have HS:=Zhd hS;clear hS;by_cases Hd:k<p.fl.length
 .have vG:(k:Int)<p.fl.length:=by omega
  go_wp2_with fail;go_loopw[9] (λi wr=>∃(i':Nat),i=.int .i64 i'/\i'<=p.fl.length/\NMat W1 wr (B0+1) (B0+1) (B0+1+1) R p.fl.length p.fl.length (Zc3 p) (wc (Zc3 p) k i' 0)) (λi _=>p.fl.length - (intOf i).toNat)
  case atStart=>exact⟨0,rfl,Nat.zero_le _,HS.out.congr λi hi j hj=>wc_zero⟩
  obtain⟨i,rfl,hi,hS⟩:=hrel;have HS:=Zhd hS;clear hS;by_cases JN:i<p.fl.length
  .have hiI:(i:Int)<p.fl.length:=by omega
   go_wp2_with fail;go_loopw[10] (λi0 wr=>∃(j:Nat),i0=.int .i64 j/\j<=p.fl.length/\NMat W1 wr (B0+1) (B0+1) (B0+1+1) R p.fl.length p.fl.length (Zc3 p) (wc (Zc3 p) k i j)) (λi _=>p.fl.length - (intOf i).toNat)
   case atStart=>exact⟨0,rfl,Nat.zero_le _,HS.out⟩
   obtain⟨j,rfl,hj,hS⟩:=hrel;have HS:=Zhd hS;clear hS;have HN:=Zhd (show wc (Zc3 p) k i j i k=wa (Zc3 p) k i k from wc_k);have qM:=HS.out.cellM JN Ylr;have zI:=HS.out.cellA JN Hd;rw[HN.out] at zI;have hne1:B0+1+1≠R (2 * i+1):=by have:=HS.out.lo (2 * i+1) (by omega);omega
   obtain⟨bik,hbik⟩:∃b,b=wa (Zc3 p) k i k:=⟨_,rfl⟩;rw[<- hbik] at zI;have HBK:=Zhd hbik;clear hbik;generalize hRi:R (2 * i+1)=Ri at *;by_cases kj:j<p.fl.length
   .have hjI:(j:Int)<p.fl.length:=by omega
    cases bik with
    |false=>
     have jc:=Zhd (HS.out.congr λi' qK j' jB=>wc_next jB (.inr HBK.out.symm));go_wp2_with fail;exact⟨⟨i+1,by go_num,by omega,jc.out⟩,by simp[intOf];omega⟩
    |true=>
     have hkM:=HS.out.cellM Hd Ylr;have t1:=(Zaj wr (B0+1+1) i).trans qM;have t2:=(Zaj wr (B0+1+1) k).trans hkM;have t3:=(Zaj wr Ri j).trans (hRi▸HS.out.cellA JN kj);have t4:=(Zaj wr (R (2 * k+1)) j).trans (HS.out.cellA Hd kj);rw[wc_here] at t3;rw[wc_row] at t4;obtain⟨bij,hbij⟩:∃b,b=wa (Zc3 p) k i j:=⟨_,rfl⟩;obtain⟨bkj,hbkj⟩:∃b,b=wa (Zc3 p) k k j:=⟨_,rfl⟩;rw[<- hbij] at t3;rw[<- hbkj] at t4;have q1:wr.cell? ⟨Ri,j,none⟩=some (.bool bij):=(Zaj wr Ri j).symm.trans t3;have f1:wr.frozen? ⟨Ri,j,none⟩=false:=hRi▸HS.out.froz JN j;have Jz:=Zhd (show NMat W1 (wr.drew.setCell ⟨R (2 * i+1),j,none⟩ (.bool (bij || bkj))) (B0+1) (B0+1) (B0+1+1) R p.fl.length p.fl.length (Zc3 p) (wc (Zc3 p) k i (j+1)) from
      HS.out.drew.setB JN (by rw[wc_there,hbij,hbkj];show _=(wa (Zc3 p) k i j || (wa (Zc3 p) k i k&&wa (Zc3 p) k k j));rw[<- HBK.out,Bool.true_and]) (λ_ _ _ h=>wc_step h))
     rw[hRi] at Jz;generalize Q7:R (2 * k+1)=Rk at *;have Jv:(Zan wr).In wr.drew:=λb o e=>e;clear hbij hbkj;go_wp2_with fail;cases bij with
     |true=>
      refine Zae (λ_=>True) (λw'=>(Zan wr).In w') 22 (by kernel_rfl) ?_;refine Go.w3 0 ?_
      iterate 3 ((first|(refine tk3 (v:=?_) rfl trivial (λ_=>Jv) ?hy ?_;(case hy=>exact mRfH1))|refine sk3 rfl trivial (λ_=>Jv) ?_|refine no3 ?_);refine Zss ?_)
      refine Go.w3e ?_;refine Zcr (i:=3) (oi:=_) (om:=_) (v:=?_) rfl (by decide) (by kernel_rfl) (by kernel_rfl) (by kernel_rfl) (by kernel_rfl) rfl (by kernel_rfl) (by kernel_rfl) (λ_ _ _ h=>h) trivial Jv (Or.inl ⟨by rfl,?hy⟩) ?_
      case hy=>intro w xQ;obtain⟨z0,z1,z2,z3⟩:=xQ.c4 t1 t2 t3 t4;go_simp<;>with_reducible rfl
      try simp only[tkS]
      refine Go.w3 4 ?_
      iterate 4 ((first|(refine tk3 (v:=?_) rfl trivial (λ_=>Jv) ?hy ?_;(case hy=>exact mRfH1))|refine sk3 rfl trivial (λ_=>Jv) ?_|refine no3 ?_);refine Zss ?_)
      refine Go.w3e ?_;refine Zcr (i:=8) (oi:=_) (om:=_) (v:=?_) rfl (by decide) (by kernel_rfl) (by kernel_rfl) (by kernel_rfl) (by kernel_rfl) rfl (by kernel_rfl) (by kernel_rfl) (λ_ _ _ h=>h) trivial Jv (Or.inl ⟨by rfl,?hy⟩) ?_
      case hy=>intro w xQ;obtain⟨z0,z1,z2,z3⟩:=xQ.c4 t1 t2 t3 t4;go_simp<;>with_reducible rfl
      try simp only[tkS]
      refine Go.w3 9 ?_
      iterate 2 ((first|(refine tk3 (v:=?_) rfl trivial (λ_=>Jv) ?hy ?_;(case hy=>exact mRfH1))|refine sk3 rfl trivial (λ_=>Jv) ?_|refine no3 ?_);refine Zss ?_)
      refine Go.w3e ?_;refine Zcr (i:=11) (oi:=_) (om:=_) (v:=?_) rfl (by decide) (by kernel_rfl) (by kernel_rfl) (by kernel_rfl) (by kernel_rfl) rfl (by kernel_rfl) (by kernel_rfl) (λ_ _ _ h=>h) trivial Jv (Or.inl ⟨by rfl,?hy⟩) ?_
      case hy=>intro w xQ;obtain⟨z0,z1,z2,z3⟩:=xQ.c4 t1 t2 t3 t4;go_simp<;>with_reducible rfl
      try simp only[tkS]
      refine Go.w3 12 ?_
      iterate 10 ((first|(refine tk3 (v:=?_) rfl trivial (λ_=>Jv) ?hy ?_;(case hy=>exact mRfH1))|refine sk3 rfl trivial (λ_=>Jv) ?_|refine no3 ?_);refine Zss ?_)
      exact mRfH2
     |false=>
      refine Zae (λ_=>True) (λw'=>(Zan wr).In w') 22 (by kernel_rfl) ?_;refine Go.w3 0 ?_
      iterate 3 ((first|(refine tk3 (v:=?_) rfl trivial (λ_=>Jv) ?hy ?_;(case hy=>exact mRfH1))|refine sk3 rfl trivial (λ_=>Jv) ?_|refine no3 ?_);refine Zss ?_)
      refine Go.w3e ?_;refine Zcr (i:=3) (oi:=_) (om:=_) (v:=?_) rfl (by decide) (by kernel_rfl) (by kernel_rfl) (by kernel_rfl) (by kernel_rfl) rfl (by kernel_rfl) (by kernel_rfl) (λ_ _ _ h=>h) trivial Jv (Or.inl ⟨by rfl,?hy⟩) ?_
      case hy=>intro w xQ;obtain⟨z0,z1,z2,z3⟩:=xQ.c4 t1 t2 t3 t4;go_simp<;>with_reducible rfl
      try simp only[tkS]
      refine Go.w3 4 ?_
      iterate 4 ((first|(refine tk3 (v:=?_) rfl trivial (λ_=>Jv) ?hy ?_;(case hy=>exact mRfH1))|refine sk3 rfl trivial (λ_=>Jv) ?_|refine no3 ?_);refine Zss ?_)
      refine Go.w3e ?_;refine Zcr (i:=8) (oi:=_) (om:=_) (v:=?_) rfl (by decide) (by kernel_rfl) (by kernel_rfl) (by kernel_rfl) (by kernel_rfl) rfl (by kernel_rfl) (by kernel_rfl) (λ_ _ _ h=>h) trivial Jv (Or.inl ⟨by rfl,?hy⟩) ?_
      case hy=>intro w xQ;obtain⟨z0,z1,z2,z3⟩:=xQ.c4 t1 t2 t3 t4;go_simp<;>with_reducible rfl
      try simp only[tkS]
      refine Go.w3 9 ?_
      iterate 2 ((first|(refine tk3 (v:=?_) rfl trivial (λ_=>Jv) ?hy ?_;(case hy=>exact mRfH1))|refine sk3 rfl trivial (λ_=>Jv) ?_|refine no3 ?_);refine Zss ?_)
      refine Go.w3e ?_;refine Zcr (i:=11) (oi:=_) (om:=_) (v:=?_) rfl (by decide) (by kernel_rfl) (by kernel_rfl) (by kernel_rfl) (by kernel_rfl) rfl (by kernel_rfl) (by kernel_rfl) (λ_ _ _ h=>h) trivial Jv (Or.inl ⟨by rfl,?hy⟩) ?_
      case hy=>intro w xQ;obtain⟨z0,z1,z2,z3⟩:=xQ.c4 t1 t2 t3 t4;go_simp<;>with_reducible rfl
      try simp only[tkS]
      refine Go.w3 12 ?_
      iterate 4 ((first|(refine tk3 (v:=?_) rfl trivial (λ_=>Jv) ?hy ?_;(case hy=>exact mRfH1))|refine sk3 rfl trivial (λ_=>Jv) ?_|refine no3 ?_);refine Zss ?_)
      refine Go.w3e ?_;refine Zcr (i:=16) (oi:=_) (om:=_) (v:=?_) rfl (by decide) (by kernel_rfl) (by kernel_rfl) (by kernel_rfl) (by kernel_rfl) rfl (by kernel_rfl) (by kernel_rfl) (λ_ _ _ h=>h) trivial Jv (Or.inl ⟨by rfl,?hy⟩) ?_
      case hy=>intro w xQ;obtain⟨z0,z1,z2,z3⟩:=xQ.c4 t1 t2 t3 t4;go_simp<;>with_reducible rfl
      try simp only[tkS]
      refine Go.w3 17 ?_
      iterate 2 ((first|(refine tk3 (v:=?_) rfl trivial (λ_=>Jv) ?hy ?_;(case hy=>exact mRfH1))|refine sk3 rfl trivial (λ_=>Jv) ?_|refine no3 ?_);refine Zss ?_)
      refine Go.w3e ?_;refine Zcr (i:=19) (oi:=_) (om:=_) (v:=?_) rfl (by decide) (by kernel_rfl) (by kernel_rfl) (by kernel_rfl) (by kernel_rfl) rfl (by kernel_rfl) (by kernel_rfl) (λ_ _ _ h=>h) trivial Jv (Or.inl ⟨by rfl,?hy⟩) ?_
      case hy=>intro w xQ;obtain⟨z0,z1,z2,z3⟩:=xQ.c4 t1 t2 t3 t4;go_simp<;>with_reducible rfl
      try simp only[tkS]
      refine Go.w3 20 ?_
      iterate 2 ((first|(refine tk3 (v:=?_) rfl trivial (λ_=>Jv) ?hy ?_;(case hy=>exact mRfH1))|refine sk3 rfl trivial (λ_=>Jv) ?_|refine no3 ?_);refine Zss ?_)
      exact mRfH2
   obtain rfl:j=p.fl.length:=by omega
   have jc:=Zhd (HS.out.congr λi' qK j' jB=>wc_next jB (.inl rfl));go_wp2_with fail;go_roundw
   case rel=>exact⟨i+1,by go_num,by omega,jc.out⟩
   simp[intOf];omega
  obtain rfl:i=p.fl.length:=by omega
  go_wp2_with fail;go_roundw
  case rel=>exact⟨k+1,by go_num,by omega,HS.out.congr λi hi j hj=>wc_full hi⟩
  simp[intOf];omega
 obtain rfl:k=p.fl.length:=by omega
 go_wp2_with fail;refine bodyPost_ret (v:=.tuple #[.slice (some ⟨B0+1,0,none⟩) p.fl.length p.fl.length,.slice (some ⟨B0+1+1,0,none⟩) p.fl.length p.fl.length]) (by simp[results,Tryz.results76,go_sem]) rfl ?_;have hX:=HS.out;subst hB0;exact⟨_,_,R,rfl,J4.out.trans (hX.below.mono (by omega)),hX.m1,hX.m2,hX.r1,hX.r2,by omega,hX.hMM,hX.lo,hX.mono⟩
end Go.Proofs.YtafapnolamcdmaaGreatDoor
