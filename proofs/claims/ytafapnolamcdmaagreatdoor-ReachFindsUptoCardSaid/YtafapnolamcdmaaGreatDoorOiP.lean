/- Plain: a right program's names; the sort always finds a flow: no walk in sight. -/
import Derived.Test.YtafapnolamcdmaaGreatDoorGraph
set_option linter.all false
namespace Go.Proofs.YtafapnolamcdmaaGreatDoor
open Mx
theorem fresh_apart{s:ByteArray}:∀(l:List (ByteArray×Int)) (m0 m:Env Int),Zao m0 l=some m->(m0 s).isSome=true->∀x∈l,x.1≠s
 | [],_,_,_,_,x,hx=>by cases hx
 |y :: l,m0,m,h,hs,x,hx=>by
  simp only[Zao] at h
  split at h
  .rename_i hc
   have Hs:y.1≠s:=λe=>by have h1:=hc.1;rw[e] at h1;cases hm:m0 s<;>simp_all
   rcases List.mem_cons.1 hx with rfl|hx
   .exact Hs
   refine fresh_apart l _ _ h ?_ x hx;simp only[Env.set];rw[if_neg (Ne.symm Hs)];exact hs
  cases h
theorem Zh7:∀(l:List (ByteArray×Int)) (m0 m:Env Int),Zao m0 l=some m->(l.map (·.1)).Nodup
 | [],_,_,_=>by simp
 |y :: l,m0,m,h=>by
  simp only[Zao] at h
  split at h
  .rw [List.map_cons,List.nodup_cons];refine⟨λhm=>?_,Zh7 l _ _ h⟩;obtain⟨x,hx,he⟩:=List.mem_map.1 hm;exact fresh_apart l _ _ h (s:=y.1) (by simp[Env.set]) x hx he
  cases h
theorem Zhb{p:Pr}(h:Zak p=0):(p.fl.map (·.name)).Nodup:=by
 obtain⟨ks,hk,_⟩:=Zb9 h;have:=Zh7 _ _ _ hk;simp only[Pr.vars,List.map_append,List.map_map] at this;rw[List.nodup_append] at this;exact this.2.1
theorem some_left(out:List Nat)(n:Nat)(h:out.length<n):∃i,i<n/\i∉out:=by
 refine Classical.byContradiction λJo=>?_;have hall:∀i,i<n->i∈out:=λi hi=>Classical.byContradiction λhm=>Jo ⟨i,hi,hm⟩;obtain⟨a,b,zL,hb,e⟩:=pigeon out.length (λi=>out.idxOf i) (λi hi=>List.idxOf_lt_length_of_mem (hall i (by omega)));have ha:=List.getElem_idxOf (List.idxOf_lt_length_of_mem (hall a (by omega)));have hb':=List.getElem_idxOf (List.idxOf_lt_length_of_mem (hall b (by omega)));have e':out.idxOf a=out.idxOf b:=e;simp only[e'] at ha;rw[hb'] at ha;omega
theorem some_free{g:List (List Nat)}(Jm:∀l∈g,∀k∈l,k<g.length)(Jo:∀j,j<g.length->cyc g j=false)(out:List Nat)(h:out.length<g.length):∃i,i<g.length/\Zh8 g out i=true:=by
 refine Classical.byContradiction λhx=>?_;obtain⟨i0,JI,hm0⟩:=some_left out g.length h;have step:∀i,i<g.length->i∉out->∃k,k<g.length/\k∉out/\edge g i k:=by
  intro i hi hm;have hf:Zh8 g out i=false:=by
   cases hc:Zh8 g out i with
   |false=>rfl
   |true=>exact absurd ⟨i,hi,hc⟩ hx
  unfold Zh8 at hf;have hc:out.contains i=false:=by simpa using hm
  rw[hc,Bool.not_false,Bool.true_and] at hf;have hf':∃k∈g.getD i [],¬out.contains k=true:=by
   refine Classical.byContradiction λhn=>?_;have:(g.getD i []).all out.contains=true:=List.all_eq_true.2 λk hk=>Classical.byContradiction λhkk=>hn ⟨k,hk,hkk⟩;rw[this] at hf;cases hf
  obtain⟨k,hk,hko⟩:=hf';refine⟨k,?_,by simpa using hko,hk⟩;rw[Ygg,List.getElem?_eq_getElem hi] at hk;exact Jm _ (Ymm hi) _ hk
 classical
 let nx:Nat->Nat:=λi=>if hh:∃k,k<g.length/\k∉out/\edge g i k then Classical.choose hh else i
 have zF:∀i,i<g.length->i∉out->nx i<g.length/\nx i∉out/\edge g i (nx i):=by
  intro i hi hm;have hh:=step i hi hm;show(if hh:∃k,k<g.length/\k∉out/\edge g i k then Classical.choose hh else i)<_/\_;have e:nx i=Classical.choose hh:=dif_pos hh;rw[show(if hh:∃k,k<g.length/\k∉out/\edge g i k then Classical.choose hh else i)=Classical.choose hh from dif_pos hh,e];exact Classical.choose_spec hh
 have hit:∀t,iter nx t i0<g.length/\iter nx t i0∉out:=by
  intro t
  induction t with
  |zero=>exact⟨JI,hm0⟩
  |succ t ih=>have:=zF _ ih.1 ih.2;exact⟨this.1,this.2.1⟩
 have hpath:∀s t,Path g (iter nx s i0) (iter nx (s+t+1) i0):=by
  intro s t
  induction t with
  |zero=>exact .one (zF _ (hit s).1 (hit s).2).2.2
  |succ t ih=>exact .snoc ih (zF _ (hit (s+t+1)).1 (hit (s+t+1)).2).2.2
 obtain⟨a,b,zL,hb,e⟩:=pigeon g.length (λt=>iter nx t i0) (λt _=>(hit t).1);have e':iter nx a i0=iter nx b i0:=e;have hp:=hpath a (b - a - 1);rw[show a+(b - a - 1)+1=b from by omega,<- e'] at hp;have:=(cyc_iff g _).2 hp;rw[Jo _ (hit a).1] at this;cases this
theorem pick_lt{g:List (List Nat)}{out:List Nat}(h:∃i,i<g.length/\Zh8 g out i=true):pick g out<g.length:=by
 obtain⟨i,hi,hf⟩:=h;unfold pick;have:(g.zipIdx.findIdx λx => !out.contains x.2&&x.1.all out.contains)<g.zipIdx.length:=by
  refine List.findIdx_lt_length_of_exists ⟨(g[i],i),?_,?_⟩
  .rw [List.mem_iff_getElem];exact⟨i,by simpa using hi,by simp⟩
  unfold Zh8 at hf;rw[Ygg,List.getElem?_eq_getElem hi] at hf;exact hf
 simpa using this
theorem sort_pick{g:List (List Nat)}(Jm:∀l∈g,∀k∈l,k<g.length)(Jo:∀j,j<g.length->cyc g j=false):∀j,j<g.length->pick g (Zc7 g j [])<g.length:=λj hj=>
 pick_lt (some_free Jm Jo _ (by rw[sortN_len];simpa using hj))
theorem Zi8(p:Pr):Zak p=0->(∀j,j<p.graph.length->cyc p.graph j=false)->∀j,j<p.graph.length->pick p.graph (Zc7 p.graph j [])<p.graph.length:=λ_ Jo=>sort_pick (Zgo p) Jo
open Go.RowKit Mx
theorem Kn.In.grown{K:Kn}{w w':World}{row:Option Nat}(h:K.In w)(hg:w.grownBy w' row)(hr:∀g,row=some g->K g=none):K.In w':=λb o e=>by
 rw[hg.block b (h.lt e) (λe2=>by have:=hr b e2.symm;rw[this] at e;cases e)];exact h b o e
theorem exsV_of_own{K:Kn}{w:World}{base:Nat}{t:TypeId}{v:Value}{l:List Ex}{xs:List Value}(hK:K.In w)(h:w.ownsRow base t 4 v l.length xs)(hx:XsAt K l xs)(hr:∀g,v.ownBlock=some g->K g=none):
  ∃K',K.le K'/\K'.In w/\ExsV K' l v/\∀b,b<base->K' b=K b:=by
 by_cases h0:l=[]
 .obtain⟨a,c,h1,_⟩:=Zar h;exact⟨K,Kn.le_refl K,hK,.inl ⟨h0,a,c,by rw[h1,h0];rfl⟩,λ_ _=>rfl⟩
 obtain⟨g,Ha,h1,h2,h3,hb,Hr,h4⟩:=Zbr h (List.length_pos_iff.2 h0);have hg:K g=none:=hr g (by rw[h1];rfl);have ho:w.heap[g]?=some w.heap[g]:=Array.getElem?_eq_getElem Hr;refine⟨K.add g w.heap[g],Kn.le_add hg,hK.add ho,.inr ⟨g,0,Ha,h1,h2,h3,hx.at (Kn.le_add hg) λj u hj=>?_⟩,λb zK=>Kn.add_other K _ (by omega)⟩;have h5:=h4 j u hj;unfold Kn.cell;rw[Kn.add_self,Nat.zero_add];simp only[World.cell?,ho] at h5;cases hc:w.heap[g]<;>simp_all
structure ExO(T:TypeId)(H:Kn)(w0 wr:World)(B:Nat)(e:Ex)(done:Nat)(u:Value)(xs:List Value)(K:Kn):Prop where
 le:H.le K
 fresh:∀b,b<=B->K b=H b
 isin:K.In wr
 below:Below B w0 wr
 box:wr.heap[B]?=some (.cells #[.string e.op,.int .i64 e.n,.string e.s,u] T (0,0))
 row:wr.ownsRow (B+1) T 4 u done xs
 xs:XsAt K (e.l.take done) xs
 noR:∀g,u.ownBlock=some g->K g=none
section
variable {T : TypeId} {H K : Kn} {w0 wr : World} {B : Nat} {e : Ex} {done : Nat} {u : Value} {xs : List Value}
theorem ExO.blt(h:ExO T H w0 wr B e done u xs K):B<wr.heap.size:=(Zlt h.box)
theorem ExO.cells(h:ExO T H w0 wr B e done u xs K):wr.cell? ⟨B,0,none⟩=some (.string e.op)/\wr.cell? ⟨B,1,none⟩=some (.int .i64 e.n)/\wr.cell? ⟨B,2,none⟩=some (.string e.s)/\wr.cell? ⟨B,3,none⟩=some u:=by
 simp[World.cell?,h.box]
theorem ExO.next{wc:World}{K2:Kn}(h:ExO T H w0 wr B e done u xs K)(hs:Kn.Step K wr K2 wc):ExO T H w0 wc B e done u xs K2:=by
 refine⟨Kn.le_trans h.le hs.le,λb hb=>(hs.fresh b (Nat.lt_of_le_of_lt hb h.blt)).trans (h.fresh b hb),hs.isin,h.below.trans (hs.below.mono (Nat.le_of_lt h.blt)),?_,Za1 h.row hs.below,h.xs.le hs.le,λg hg=>?_⟩
 .rw [hs.below.block B h.blt];exact h.box
 rw[hs.fresh g (h.row.lt g hg).2];exact h.noR g hg
theorem ExO.later{wc:World}(h:ExO T H w0 wr B e done u xs K)(hb:Ybw wr wc):ExO T H w0 wc B e done u xs K:=h.next (Kn.Step.of_below h.isin hb)
theorem ExO.alloc(h:ExO T H w0 wr B e done u xs K)(o:Obj):ExO T H w0 (wr.alloc o) B e done u xs K:=h.later ((Below.refl _ _).alloc Ylr o)
theorem ExO.drew(h:ExO T H w0 wr B e done u xs K):ExO T H w0 wr.drew B e done u xs K:=h.later ((Below.refl _ _).drew)
theorem Zd6{α:Type}(l:List α)(k:Nat)(h:k<l.length):l.take (k+1)=l.take k++[l[k]]:=List.take_succ_eq_append_getElem h
theorem ExO.step{wc w3:World}{gg Hh:Nat}(h:ExO T H w0 wc B e done u xs K)(hd:done<e.l.length){x:Ex}(hx:e.l[done]=x)(hBn:H B=none){a:Option Addr}{c:Nat}(hp:ExsV K x.l (.slice a x.l.length c))
  (Hb:w3.ownsRow (B+1) T 4 (.slice (some ⟨gg,0,none⟩) (done+1) Hh) (done+1) (xs++[.string x.op,.int .i64 x.n,.string x.s,.slice a x.l.length c])) (hg:wc.grownBy w3 u.ownBlock) (hJ:u.ownBlock=some gg\/gg=wc.heap.size):
  w3.cell? ⟨B,3,none⟩=some u/\w3.frozen? ⟨B,3,none⟩=false/\ExO T H w0 (w3.setCell ⟨B,3,none⟩ (.slice (some ⟨gg,0,none⟩) (done+1) Hh)) B e (done+1) (.slice (some ⟨gg,0,none⟩) (done+1) Hh) (xs++[.string x.op,.int .i64 x.n,.string x.s,.slice a x.l.length c]) K:=by
 subst hx;have Hs:some B≠u.ownBlock:=λe=>Zbj h.row (by omega) e.symm;have Hu:w3.heap[B]?=_:=(hg.block B h.blt Hs).trans h.box;have Hk:=(h.isin.grown hg h.noR);refine⟨by simp[World.cell?,Hu],by simp[World.frozen?,Hu],h.le,h.fresh,Hk.setCell (a:=⟨B,3,none⟩) ((h.fresh B (Nat.le_refl B)).trans hBn) _,?_,?_,Zam Hb (Zbj (b:=B) Hb (by omega)) _,?_,λg JH=>?_⟩
 .exact (h.below.grown hg (Nat.le_of_lt h.blt) (λg JH=>by have:=(h.row.lt g JH).1;omega)).setCell (Nat.le_refl B) _
 .rw [Zaa _ _ _ _ _ _ _ Hu];rfl
 .rw [Zd6 _ _ hd];exact h.xs.append ⟨a,c,[],rfl,hp,rfl⟩
 have hgg':gg=g:=by simpa[Value.ownBlock] using JH
 subst hgg';rcases hJ with h1|h1
 .exact h.noR gg h1
 rw[h1];exact h.isin.isNone Ylr
end
theorem Za0:∀(l:List Ex) (i:Nat) (hi:i<l.length),l[i].parts<=Ex.partsL l:=λl i hi=>by
 induction l generalizing i with
 |nil=>simp at hi
 |cons x l ih=>
  cases i with
  |zero=>simp only[List.getElem_cons_zero,Ex.partsL];omega
  |succ i=>have:=ih i (by simpa using hi);simp only[List.getElem_cons_succ,Ex.partsL];omega
theorem ex_parts(e:Ex):e.parts=1+Ex.partsL e.l:=by cases e;simp only[Ex.parts,Ex.l]
theorem Zbp:∀l:List Ex,l.length<=Ex.partsL l
 | []=>Nat.le_refl _
 |e :: l=>by have:=Zbp l;have:=ex_parts e;simp only[Ex.partsL,List.length_cons];omega
theorem Zec{W:World}{b:Nat}{x y z u:Value}{t:TypeId}(h:W.heap[b]?=some (.cells #[x,y,z,u] t (0,0))):
  W.cell? ⟨b,0,none⟩=some x/\W.cell? ⟨b,1,none⟩=some y/\W.cell? ⟨b,2,none⟩=some z/\W.cell? ⟨b,3,none⟩=some u/\W.frozen? ⟨b,0,none⟩=false/\W.frozen? ⟨b,1,none⟩=false/\W.frozen? ⟨b,2,none⟩=false/\W.frozen? ⟨b,3,none⟩=false/\b<W.heap.size:=
 ⟨by simp[World.cell?,h],by simp[World.cell?,h],by simp[World.cell?,h],by simp[World.cell?,h],by simp[World.frozen?,h],by simp[World.frozen?,h],by simp[World.frozen?,h],by simp[World.frozen?,h],(Zlt h)⟩
structure RwO{α:Type}(T k:Nat)(X:Kn->List α->List Value->Prop)(H:Kn)(w0 wr:World)(base:Nat)(l:List α)(done:Nat)(u:Value)(xs:List Value)(K:Kn):Prop where
 le:H.le K
 fresh:∀b,b<base->K b=H b
 isin:K.In wr
 below:Below base w0 wr
 size:base<=wr.heap.size
 row:wr.ownsRow base T k u done xs
 xs:X K (l.take done) xs
 noR:∀g,u.ownBlock=some g->K g=none
section
variable {α : Type} {T k : Nat} {X : Kn -> List α -> List Value -> Prop} {H K : Kn} {w0 wr : World} {base : Nat} {l : List α} {done : Nat} {u : Value} {xs : List Value}
theorem RwO.next(hX:∀K K' l xs,Kn.le K K'->X K l xs->X K' l xs){wc:World}{K2:Kn}(h:RwO T k X H w0 wr base l done u xs K)(hs:Kn.Step K wr K2 wc):RwO T k X H w0 wc base l done u xs K2:=
 ⟨Kn.le_trans h.le hs.le,λb hb=>(hs.fresh b (Nat.lt_of_lt_of_le hb h.size)).trans (h.fresh b hb),hs.isin,h.below.trans (hs.below.mono h.size),Nat.le_trans h.size hs.below.size,Za1 h.row hs.below,hX _ _ _ _ hs.le h.xs,λg hg=>by
  rw[hs.fresh g (h.row.lt g hg).2];exact h.noR g hg⟩
theorem RwO.later{wc:World}(h:RwO T k X H w0 wr base l done u xs K)(hb:Ybw wr wc):RwO T k X H w0 wc base l done u xs K:=
 ⟨h.le,h.fresh,h.isin.below hb,h.below.trans (hb.mono h.size),Nat.le_trans h.size hb.size,Za1 h.row hb,h.xs,h.noR⟩
theorem RwO.alloc(h:RwO T k X H w0 wr base l done u xs K)(o:Obj):RwO T k X H w0 (wr.alloc o) base l done u xs K:=h.later ((Below.refl _ _).alloc Ylr o)
theorem RwO.drew(h:RwO T k X H w0 wr base l done u xs K):RwO T k X H w0 wr.drew base l done u xs K:=h.later ((Below.refl _ _).drew)
theorem RwO.step{wc w3:World}{gg Hh n':Nat}{ys:List Value}(h:RwO T k X H w0 wc base l done u xs K)(hx:X K (l.take (done+n')) (xs++ys))
  (Hb:w3.ownsRow base T k (.slice (some ⟨gg,0,none⟩) (done+n') Hh) (done+n') (xs++ys)) (hg:wc.grownBy w3 u.ownBlock) (hJ:u.ownBlock=some gg\/gg=wc.heap.size):
  RwO T k X H w0 w3 base l (done+n') (.slice (some ⟨gg,0,none⟩) (done+n') Hh) (xs++ys) K:=by
 refine⟨h.le,h.fresh,h.isin.grown hg h.noR,h.below.grown hg h.size (λg JH=>(h.row.lt g JH).1),Nat.le_trans h.size hg.size,Hb,hx,λg JH=>?_⟩;have hgg':gg=g:=by simpa[Value.ownBlock] using JH
 subst hgg';rcases hJ with h1|h1
 .exact h.noR gg h1
 rw[h1];exact h.isin.isNone Ylr
end
theorem Zcn{α:Type}{k:Nat}{R:Kn->α->(Nat->Option Value)->Prop}{K:Kn}{w:World}{base:Nat}{t:TypeId}{v:Value}{l:List α}{xs:List Value}(hK:K.In w)(h:w.ownsRow base t k v l.length xs)(hr:∀g,v.ownBlock=some g->K g=none)
  (hR:∀K',Kn.le K K'->∀i (hi:i<l.length),∀f:Nat->Option Value,(∀j u,xs[i * k+j]?=some u->f j=some u)->R K' l[i] f):
  ∃K',K.le K'/\K'.In w/\SlV K' k (R K') l v/\∀b,b<base->K' b=K b:=by
 by_cases h0:l=[]
 .obtain⟨a,c,h1,_⟩:=Zar h;exact⟨K,Kn.le_refl K,hK,.inl ⟨h0,a,c,by rw[h1,h0];rfl⟩,λ_ _=>rfl⟩
 obtain⟨g,Ha,h1,h2,h3,hb,Hr,h4⟩:=Zbr h (List.length_pos_iff.2 h0);have hg:K g=none:=hr g (by rw[h1];rfl);have ho:w.heap[g]?=some w.heap[g]:=Array.getElem?_eq_getElem Hr;refine⟨K.add g w.heap[g],Kn.le_add hg,hK.add ho,.inr ⟨g,0,Ha,h1,h2,h3,λi hi=>hR _ (Kn.le_add hg) i hi _ λj u hj=>?_⟩,λb zK=>Kn.add_other K _ (by omega)⟩;have h5:=h4 _ u hj;unfold Kn.cell;rw[Kn.add_self,Nat.zero_add];simp only[World.cell?,ho] at h5;cases hc:w.heap[g]<;>simp_all
theorem Zgs{P:Program}(t e:TypeId)(k bytes:Nat)(z:Value)(ht:P.underlying t=some (.slice e))(hinfo:(P.info? e).map (λi=>(i.zero,i.size,i.bytes))=some (some z,k,bytes))(hzs:z.cells.size=k)(hk:0<k)
  {w:World} {ops:Array Oper} {rest:List Oper} {o:Oper} {a:Act} {Q:Exit->Act->World->Prop} (s x:Operand) (hgd:o.guard=none)
  (ho:o.op=.call { callee:=.builtin .append,args := #[s,x],argTypes := #[t,t] }) (base:Nat) (v:Value) (n:Nat) (xs:List Value) (hs:a.eval s=v) (Hb:w.ownsRow base e k v n xs)
  (ad:Addr) (c:Nat) (news:List Value) (hx:a.eval x=.slice (some ad) 1 c) (hl:news.length=k) (qX:∀j u,news[j]?=some u->w.cell? (ad.add j)=some u) (h1:∀u∈news,u.oneCell'=true)
  (hbytes:(n+1) * bytes<=140737488355328) (hn:n+1<=140737488355328) (Jl:base<=w.heap.size)
  (h:∀g Ha w',w'.ownsRow base e k (.slice (some ⟨g,0,none⟩) (n+1) Ha) (n+1) (xs++news)->w.grownBy w' v.ownBlock->(v.ownBlock=some g\/g=w.heap.size)->wpList P ops Q rest (a.put o.dst (.slice (some ⟨g,0,none⟩) (n+1) Ha)) w'):wpList P ops Q (o :: rest) a w:=by
 obtain⟨i,hi,h0,h2,h3⟩:=info_parts hinfo;exact wpList_append_lies w hgd s x t ho base e i z k bytes ht hi h0 h2 h3 hzs hk v n xs hs Hb ad 1 c news hx (by omega) qX h1 (by omega) (by unfold maxLen;omega) hbytes Jl _ rfl (λg Ha w' a b c _=>h g Ha w' a b c)
def VsX(_:Kn)(l:List Vr)(xs:List Value):Prop:=xs=l.flatMap λv=>[.string v.name,.int .i64 v.kind]
def SsX(_:Kn)(l:List ByteArray)(xs:List Value):Prop:=xs=l.map .string
theorem VsX.at{K K':Kn}{l:List Vr}{xs:List Value}(h:VsX K l xs):∀i (hi:i<l.length),∀f:Nat->Option Value,(∀j u,xs[i * 2+j]?=some u->f j=some u)->(λ_=>VrC) K' l[i] f:=by
 intro i hi f hf;rw[show xs=_ from h] at hf;have hg:=λj hj=>Zhi 2 (λv:Vr=>[Value.string v.name,.int .i64 v.kind]) (λ_=>rfl) l i hi j hj;exact⟨hf 0 _ (hg 0 (by decide)),hf 1 _ (hg 1 (by decide))⟩
theorem SsX.at{K K':Kn}{l:List ByteArray}{xs:List Value}(h:SsX K l xs):∀i (hi:i<l.length),∀f:Nat->Option Value,(∀j u,xs[i * 1+j]?=some u->f j=some u)->(λ_=>StrC) K' l[i] f:=by
 intro i hi f hf;rw[show xs=_ from h] at hf;exact hf 0 _ (by simp[hi])
theorem set4_of{W:World}{b:Nat}{x y z u:Value}{t:TypeId}(h:W.heap[b]?=some (.cells #[x,y,z,u] t (0,0)))(p q r v:Value):
  ((((W.setCell ⟨b,0,none⟩ p).setCell ⟨b,1,none⟩ q).setCell ⟨b,2,none⟩ r).setCell ⟨b,3,none⟩ v).heap[b]?=some (.cells #[p,q,r,v] t (0,0)):=by
 have h1:=Zaa W b 0 p _ _ _ h;have h2:=Zaa _ b 1 q _ _ _ h1;have h3:=Zaa _ b 2 r _ _ _ h2;have h4:=Zaa _ b 3 v _ _ _ h3;simpa using h4
end Go.Proofs.YtafapnolamcdmaaGreatDoor
