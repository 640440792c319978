/- A region that loads a cell, appends to what it holds and stores it there again: the load may be taken first, for whatever writes that cell waits for the one that uses it. -/
import Derived.Test.YtafapnolamcdmaaGreatDoorPk
import Derived.OrdersHeld
import Derived.Deep.RegionHeld
import Derived.Lib.Hide
import Derived.WalkKit
import Derived.WalkLawsBesides
import Derived.Handy
import Derived.Deep.QuietTactic
import Derived.BigQuiet
import Derived.Test.YtafapnolamcdmaaGreatDoorProg
import Derived.Lib.Strings
import Derived.Lib.IndexBytes
set_option linter.all false
namespace Go
section
variable {P : Program} {ops : Array Oper} {Q : Exit -> Act -> World -> Prop} {md : Region.Mode} {S T : World -> Prop} {m : Nat}
def Zcz(P:Program)(md:Region.Mode)(ops:Array Oper)(Q:Exit->Act->World->Prop)(S T:World->Prop)(m:Nat):Nat->Array Bool->Act->World->Prop
 |0,Hc,a,w=>Region.ready md ops Hc=[]/\Q .normal a w
 |fuel+1,Hc,a,w=>
  (Region.ready md ops Hc=[]->Q .normal a w)/\
  ∀i∈Region.ready md ops Hc,wpOp P ops Q i (λa' w'=>(S w'/\((Hc.setIfInBounds i true).getD m false=false->T w'))/\Zcz P md ops Q S T m fuel (Hc.setIfInBounds i true) a' w') a w
theorem wpAny_of_2:∀(fuel:Nat) (Hc:Array Bool) (a:Act) (w:World),Zcz P md ops Q S T m fuel Hc a w->wpAny P md ops Q fuel Hc a w
 |0,_,_,_,h=>h
 |fuel+1,_,_,_,h=>⟨h.1,λi hi=>wpOp_mono (λa' w' h'=>wpAny_of_2 fuel _ a' w' h'.2) (h.2 i hi)⟩
theorem Zj2{i:Nat}{oi:Oper}{v:Value}{U:World->Prop}(hi:ops[i]?=some oi)(hsel:∀(j:Nat) (o:Oper) cs b,ops[j]?=some o->o.op ≠ .select cs b)
  (hQ:∀c a w,Q (.panic c) (a.put oi.dst v) w->Q (.panic c) a w) (gV:m≠i)
  (hU:∀(Hc:Array Bool) (w:World),Hc.getD i false=false->S w->(Hc.getD m false=false->T w)->(Hc.getD m false=false\/∀w,S w->U w)->U w)
  (hm:(∀w,S w->U w)\/∃om,ops[m]?=some om/\∃e∈om.after,Region.binds md e=true/\e.on=i):
  ∀(fuel:Nat) (Hc:Array Bool) (a:Act) (w:World),
   (∀j oj,ops[j]?=some oj->j≠i->Hc.getD j true=false->(∀e∈oj.after,Region.binds md e=true->e.on≠i)->oi.apart ops oj=true)->
   i∈Region.ready md ops Hc->Hc.getD i false=false->(Hc.getD m false=false\/∀w,S w->U w)->YieldsIf P ops U oi v a->S w->(Hc.getD m false=false->T w)->
   Zcz P md ops Q S T m fuel (Hc.setIfInBounds i true) (a.put oi.dst v) w->Zcz P md ops Q S T m (fuel+1) Hc a w:=by
 have hset:∀(l:Array Bool),(l.setIfInBounds i true).getD m false=l.getD m false:=λl=>getD_set_ne false (Ne.symm gV);intro fuel
 induction fuel with
 |zero=>
  intro Hc a w _ hr hl zu hy hS hT H;refine⟨λh=>(by rw[h] at hr;cases hr),λj hj=>?_⟩;by_cases vH:j=i
  .subst vH;exact hy.wpOp hi (hU Hc w hl hS hT zu) ⟨⟨hS,λh=>hT (by rw[hset] at h;exact h)⟩,H⟩
  have:=ready_mono hj vH;rw[H.1] at this;cases this
 |succ fuel ih=>
  intro Hc a w xd hr hl zu hy hS hT H;refine⟨λh=>(by rw[h] at hr;cases hr),λj hj=>?_⟩;by_cases vH:j=i
  .subst vH;exact hy.wpOp hi (hU Hc w hl hS hT zu) ⟨⟨hS,λh=>hT (by rw[hset] at h;exact h)⟩,H⟩
  have h1:=H.2 j (ready_mono hj vH);obtain⟨hjun,oj,hoj,hall⟩:=mem_ready.1 hj;have hiun:=(mem_ready.1 hr).1;have hnot:∀e∈oj.after,Region.binds md e=true->e.on≠i:=λe he hb heq=>by
   have h1:=hall e he hb;rw[heq] at h1;rcases Nat.lt_or_ge i Hc.size with h'|h'
   .simp [h'] at hiun h1;rw[hiun] at h1;cases h1
   simp[Array.getElem?_eq_none h'] at h1
  have hfree':∀k ok,ops[k]?=some ok->k≠i->(Hc.setIfInBounds j true).getD k true=false->
    (∀e∈ok.after,Region.binds md e=true->e.on≠i)->oi.apart ops ok=true:=λk ok hk yl hun Jo=>by
   refine xd k ok hk yl ?_ Jo;by_cases jV:j=k
   .subst jV;exact hjun
   rw[getD_set_ne true jV] at hun;exact hun
  have hl':(Hc.setIfInBounds j true).getD i false=false:=by rw[getD_set_ne false vH];exact hl
  have hlm':(Hc.setIfInBounds j true).getD m false=false\/∀w,S w->U w:=by
   rcases zu with h|h
   .rcases hm with h2|⟨om,hom,e,he,hb,hon⟩
    .exact .inr h2
    refine .inl ?_;have hjm:j≠m:=λe2=>by
     subst e2;rw[hom] at hoj;cases hoj;exact hnot e he hb hon
    rw[getD_set_ne false hjm];exact h
   exact .inr h
  have h2:=wpOp_putIf hoj (xd j oj hoj vH hjun hnot) (λcs b=>hsel i oi cs b hi) (λcs b=>hsel j oj cs b hoj) hQ hy h1;refine wpOp_mono (λa' w' h3=>?_) h2;have hT':(Hc.setIfInBounds j true).getD m false=false->T w':=λhm'=>h3.2.1.2 (by
   rw[Array.setIfInBounds_comm _ _ (Ne.symm vH),hset];exact hm')
  refine⟨⟨h3.2.1.1,hT'⟩,ih (Hc.setIfInBounds j true) a' w' hfree' (ready_mono hr (Ne.symm vH)) hl' hlm' h3.1 h3.2.1.1 hT' ?_⟩;rw[Array.setIfInBounds_comm _ _ vH];exact h3.2.2
theorem Zdu{i:Nat}{oi:Oper}{v:Value}{fuel:Nat}{Hc:Array Bool}{a:Act}{w:World}(hi:ops[i]?=some oi)(gV:m≠i)(hl:Hc.getD i false=false)
  (hs:Region.noSelect ops=true) (hf:Region.free md ops Hc i=true) (hr:(Region.ready md ops Hc).contains i=true)
  (hQ:∀c a w,Q (.panic c) (a.put oi.dst v) w->Q (.panic c) a w) (hS:S w) (hT:Hc.getD m false=false->T w) (hy:YieldsIf P ops S oi v a)
  (h:Zcz P md ops Q S T m fuel (Hc.setIfInBounds i true) (a.put oi.dst v) w):Zcz P md ops Q S T m (fuel+1) Hc a w:=
 Zj2 (U:=S) hi (Region.noSelect_spec hs) hQ gV (λ_ _ _ h _ _=>h) (.inl λ_ h=>h) fuel Hc a w (Region.free_spec hi hf) (by simpa using hr) hl (.inr λ_ h=>h) hy hS hT h
theorem tk2{i:Nat}{oi:Oper}{v:Value}{fuel:Nat}{Hc:Array Bool}{a:Act}{w:World}(hi:ops[i]?=some oi)(hS:S w)(hT:Hc.getD m false=false->T w)
  (hy:∀w,S w->(execOp a.eval oi).run P w=.ok (.value v) w) (h:Zcz P md ops Q S T m fuel (Hc.setIfInBounds i true) (a.put oi.dst v) w)
  (gV:m≠i:=by decide) (hl:Hc.getD i false=false:=by kernel_rfl) (hs:Region.noSelect ops=true:=by kernel_rfl) (hf:Region.free md ops Hc i=true:=by kernel_rfl) (hr:(Region.ready md ops Hc).contains i=true:=by kernel_rfl)
  (hQ:∀c a w,Q (.panic c) (a.put oi.dst v) w->Q (.panic c) a w:=by exact λ_ _ _ h=>h) (hw:Region.wanted oi (yielded ops a.tmps)=true:=by rfl):Zcz P md ops Q S T m (fuel+1) Hc a w:=
 Zdu hi gV hl hs hf hr hQ hS hT (.inl ⟨hw,hy⟩) h
theorem Zcr{i:Nat}{oi om:Oper}{v:Value}{fuel:Nat}{Hc:Array Bool}{a:Act}{w:World}(hi:ops[i]?=some oi)(gV:m≠i)(hl:Hc.getD i false=false)
  (hs:Region.noSelect ops=true) (hf:Region.free md ops Hc i=true) (hr:(Region.ready md ops Hc).contains i=true) (hom:ops[m]?=some om) (hwait:(om.after.any λe=>Region.binds md e&&e.on==i)=true) (zu:Hc.getD m false=false)
  (hQ:∀c a w,Q (.panic c) (a.put oi.dst v) w->Q (.panic c) a w) (hS:S w) (hT:T w) (hy:YieldsIf P ops T oi v a)
  (h:Zcz P md ops Q S T m fuel (Hc.setIfInBounds i true) (a.put oi.dst v) w):Zcz P md ops Q S T m (fuel+1) Hc a w:=by
 refine Zj2 (U:=T) hi (Region.noSelect_spec hs) hQ gV (λ_ _ _ _ h1 h2=>h2.elim (λh=>h1 h) (λh=>h _ ‹_›)) (.inr ⟨om,hom,?_⟩) fuel Hc a w (Region.free_spec hi hf) (by simpa using hr) hl (.inl zu) hy hS (λ_=>hT) h;obtain⟨j,hj,he⟩:=Array.any_eq_true.1 hwait;simp only[Bool.and_eq_true,beq_iff_eq] at he;exact⟨om.after[j],Array.getElem_mem hj,he.1,he.2⟩
theorem wpAny2_one{i:Nat}{o:Oper}{fuel:Nat}{Hc:Array Bool}{a:Act}{w:World}(hr:Region.ready md ops Hc=[i])(ho:ops[i]?=some o)
  (h:∀K':Act->World->Prop,Shut (∀a w,S w->((Hc.setIfInBounds i true).getD m false=false->T w)->Zcz P md ops Q S T m fuel (Hc.setIfInBounds i true) a w->K' a w)->if Region.wanted o (yielded ops a.tmps)=true then Oper.wp P o a w K' Q else K' (a.put o.dst undef) w):
  Zcz P md ops Q S T m (fuel+1) Hc a w:=
 ⟨λh0=>absurd (hr▸h0) (by simp),λj hj=>by
  rw[hr] at hj;obtain rfl:=List.mem_singleton.1 hj;exact wpOp_step ho (λK' hK=>h K' (λa w hS hT hW=>hK a w ⟨⟨hS,hT⟩,hW⟩))⟩
theorem Zcj{i j:Nat}{o o':Oper}{fuel:Nat}{Hc:Array Bool}{a:Act}{w:World}(hr:Region.ready md ops Hc=[i,j])(ho:ops[i]?=some o)(ho':ops[j]?=some o')
  (h:∀K':Act->World->Prop,Shut (∀a w,S w->((Hc.setIfInBounds i true).getD m false=false->T w)->Zcz P md ops Q S T m fuel (Hc.setIfInBounds i true) a w->K' a w)->if Region.wanted o (yielded ops a.tmps)=true then Oper.wp P o a w K' Q else K' (a.put o.dst undef) w)
  (h':∀K':Act->World->Prop,Shut (∀a w,S w->((Hc.setIfInBounds j true).getD m false=false->T w)->Zcz P md ops Q S T m fuel (Hc.setIfInBounds j true) a w->K' a w)->if Region.wanted o' (yielded ops a.tmps)=true then Oper.wp P o' a w K' Q else K' (a.put o'.dst undef) w):
  Zcz P md ops Q S T m (fuel+1) Hc a w:=
 ⟨λh0=>absurd (hr▸h0) (by simp),λk hk=>by
  rw[hr] at hk;rcases List.mem_cons.1 hk with rfl|hk
  .exact wpOp_step ho (λK' hK=>h K' (λa w hS hT hW=>hK a w ⟨⟨hS,hT⟩,hW⟩))
  obtain rfl:=List.mem_singleton.1 hk;exact wpOp_step ho' (λK' hK=>h' K' (λa w hS hT hW=>hK a w ⟨⟨hS,hT⟩,hW⟩))⟩
theorem Zhv{Hc:Array Bool}{a:Act}{w:World}(hr:Region.ready md ops Hc=[])(h:Q .normal a w):∀fuel,Zcz P md ops Q S T m fuel Hc a w
 |0=>⟨hr,h⟩
 |_+1=>⟨λ_=>h,by rw[hr];simp⟩
theorem Zae(S T:World->Prop)(m:Nat){id:Nat}{a:Act}{w:World}(hm:P.follows .mixedOrders=true)
  (h:Zcz P .any ops Q S T m ops.size (Array.replicate ops.size false) a w.drew):(Code.region id ops true).wp P Q a w:=
 wp_region_any hm (wpAny_of_2 _ _ _ _ h)
end
end Go
namespace Go
theorem tkS:(∀(a:Act) (d:Nat) (v:Value),a.put (some d) v={ a with tmps:=a.tmps.setIfInBounds d v })/\(∀(a:Act) (v:Value),a.put none v=a)/\(∀(l:List Value) (i:Nat) (x:Value),l.toArray.setIfInBounds i x=(l.set i x).toArray)/\
  (∀(x y:Value) (l:List Value),(x :: l).set 0 y=y :: l)/\(∀(x y:Value) (l:List Value) (i:Nat),(x :: l).set (i+1) y=x :: l.set i y)/\
  (∀(l:List Value) (i:Nat) (h:i<l.toArray.size),l.toArray[i]=l[i]'(by simpa using h))/\(∀(x:Value) (l:List Value) (h:0<(x :: l).length),(x :: l)[0]=x)/\(∀(x:Value) (l:List Value) (i:Nat) (h:i+1<(x :: l).length),(x :: l)[i+1]=l[i]'(by simpa using h)):=
 ⟨λ_ _ _=>rfl,λ_ _=>rfl,λl i x=>by simp,λ_ _ _=>rfl,λ_ _ _ _=>rfl,λl i h=>by simp,λ_ _ _=>rfl,λ_ _ _ _=>rfl⟩
end Go
/- Short names of laws that stand in nearly every line. -/
namespace Go
theorem Ztr{p:Prop}(_:p):True:=trivial
theorem Zhd{p:Prop}(h:p):RowKit.Hid p:=h
theorem Zlt{α:Type}{a:Array α}{i:Nat}{x:α}(h:a[i]?=some x):i<a.size:=(Array.getElem?_eq_some_iff.1 h).1
section
variable {P : Program} {md : Region.Mode} {ops : Array Oper} {Q : Exit -> Act -> World -> Prop} {S T : World -> Prop} {m : Nat}
theorem Zwo(i:Nat){o:Oper}{fuel:Nat}{Hc:Array Bool}{a:Act}{w:World}(ho:ops[i]?=some o)
  (h:∀K':Act->World->Prop,Shut (∀a w,S w->((Hc.setIfInBounds i true).getD m false=false->T w)->Zcz P md ops Q S T m fuel (Hc.setIfInBounds i true) a w->K' a w)->if Region.wanted o (yielded ops a.tmps)=true then Oper.wp P o a w K' Q else K' (a.put o.dst undef) w)
  (hr:Region.ready md ops Hc=[i]:=by kernel_rfl):Zcz P md ops Q S T m (fuel+1) Hc a w:=wpAny2_one hr ho h
theorem Zwd{Hc:Array Bool}{a:Act}{w:World}{fuel:Nat}(h:Q .normal a w)(hr:Region.ready md ops Hc=[]:=by kernel_rfl):Zcz P md ops Q S T m fuel Hc a w:=Zhv hr h fuel
end
theorem Zst{p q:Prop}(k:q)(h:q->p:=by(intro hq;(try simp only[tkS,List.getElem_toArray,List.getElem_cons_zero,List.getElem_cons_succ]));exact hq):p:=h k
theorem Zss{p q:Prop}(k:q)(h:q->p:=by(intro hq;(try simp only[tkS,List.getElem_toArray,List.getElem_cons_zero,List.getElem_cons_succ,Nat.reduceAdd]));exact hq):p:=h k
end Go
/- Known memory: blocks that nobody changes any more; what is read there stays read. Slices of strings, of numbers, of structs, told over known memory. -/
namespace Go.Proofs.YtafapnolamcdmaaGreatDoor
open Go.RowKit
def Enters(P:Program)(k:Nat):Prop:=∀args w,Sem.run P (callFunc k args) w=.ok (.enter k args) w
theorem Zaf{k:IntKind}{a b:Int}(h:a=b):Ending.returned (.int k a)=.returned (.int k b):=by rw[h]
theorem Za7{a b:Bool}(h:a=b):Ending.returned (.bool a)=.returned (.bool b):=by rw[h]
theorem quiet_eq{P:Program}{f:FuncId}{args:Array Value}{w:World}{n:Nat}{v:Value}
  (h:Calls P f args (w.drewN n) λe w'=>e=.returned v/\w.drewN n=w'):Calls P f args (w.drewN n) λe w''=>e=.returned v/\∃m,w''=w.drewN m:=
 h.mono λ_ _ ⟨he,hm⟩=>⟨he,n,hm.symm⟩
abbrev Kn:=Nat->Option Obj
def Kn.In(H:Kn)(w:World):Prop:=∀b o,H b=some o->w.heap[b]?=some o
def Kn.le(H H':Kn):Prop:=∀b o,H b=some o->H' b=some o
def Kn.cell(H:Kn)(b i:Nat):Option Value:=match H b with|some (.cells c _ _)=>c[i]?|_=>none
def Kn.add(H:Kn)(b:Nat)(o:Obj):Kn:=λk=>if k=b then some o else H k
theorem Kn.le_refl(H:Kn):H.le H:=λ_ _ h=>h
theorem Kn.le_trans{A B C:Kn}(h:A.le B)(k:B.le C):A.le C:=λb o e=>k b o (h b o e)
theorem Kn.In.lt{H:Kn}{w:World}(h:H.In w){b:Nat}{o:Obj}(e:H b=some o):b<w.heap.size:=(Zlt (h b o e))
theorem Kn.In.isNone{H:Kn}{w:World}(h:H.In w){b:Nat}(hb:w.heap.size<=b):H b=none:=by
 cases e:H b with
 |none=>rfl
 |some o=>have:=h.lt e;omega
theorem Kn.In.cell{H:Kn}{w:World}(h:H.In w){b i:Nat}{v:Value}(e:H.cell b i=some v):w.cell? ⟨b,i,none⟩=some v:=by
 unfold Kn.cell at e
 split at e
 .rename_i c t f hb
  simp[World.cell?,h _ _ hb,e]
 cases e
theorem Kn.le.cell{H H':Kn}(h:H.le H'){b i:Nat}{v:Value}(e:H.cell b i=some v):H'.cell b i=some v:=by
 unfold Kn.cell at e ⊢
 split at e
 .rename_i c t f hb
  rw[h _ _ hb];exact e
 cases e
theorem Kn.cell_lt{H:Kn}{w:World}(h:H.In w){b i:Nat}{v:Value}(e:H.cell b i=some v):b<w.heap.size:=by
 unfold Kn.cell at e
 split at e
 .rename_i c t f hb
  exact h.lt hb
 cases e
theorem Kn.In.below{H:Kn}{w w':World}(h:H.In w)(hb:Ybw w w'):H.In w':=λb o e=>by rw[hb.block b (h.lt e)];exact h b o e
theorem Kn.In.of_heap{H:Kn}{w w':World}(h:H.In w)(hb:∀b,H b≠none->w'.heap[b]?=w.heap[b]?):H.In w':=λb o e=>by rw[hb b (by rw[e];simp)];exact h b o e
theorem Kn.In.alloc{H:Kn}{w:World}(h:H.In w)(o:Obj):H.In (w.alloc o):=h.below ((Below.refl _ _).alloc Ylr o)
theorem Kn.In.drew{H:Kn}{w:World}(h:H.In w):H.In w.drew:=h
theorem Kn.In.drewN{H:Kn}{w:World}(h:H.In w)(n:Nat):H.In (w.drewN n):=h
theorem Kn.In.setCell{H:Kn}{w:World}(h:H.In w){a:Addr}(ha:H a.block=none)(v:Value):H.In (w.setCell a v):=
 h.of_heap λb hb=>Below.heap_setCell w a v b (λe=>hb (by rw[e];exact ha))
theorem Zbq{B:Nat}{a w:World}(h:Below B a w)(n:Nat):Below B a (w.drewN n):=⟨h.os,h.tape,h.output,h.size,h.block⟩
theorem Kn.le_add{H:Kn}{b:Nat}{o:Obj}(h:H b=none):H.le (H.add b o):=λk p e=>by
 unfold Kn.add
 split
 .rename_i hk;rw[hk,h] at e;cases e
 exact e
theorem Kn.add_self(H:Kn)(b:Nat)(o:Obj):H.add b o b=some o:=by simp[Kn.add]
theorem Kn.add_other(H:Kn){b k:Nat}(o:Obj)(h:k≠b):H.add b o k=H k:=by simp[Kn.add,h]
theorem Kn.In.add{H:Kn}{w:World}(h:H.In w){b:Nat}{o:Obj}(e:w.heap[b]?=some o):(H.add b o).In w:=λk p hk=>by
 unfold Kn.add at hk
 split at hk
 .rename_i kh;subst kh;cases hk;exact e
 exact h k p hk
structure Kn.Step(H:Kn)(w:World)(H':Kn)(w':World):Prop where
 le:H.le H'
 fresh:∀b,b<w.heap.size->H' b=H b
 isin:H'.In w'
 below:Ybw w w'
theorem Kn.Step.refl{H:Kn}{w:World}(h:H.In w):Kn.Step H w H w:=⟨Kn.le_refl H,λ_ _=>rfl,h,Below.refl _ _⟩
theorem Kn.Step.trans{A B C:Kn}{a b c:World}(h:Kn.Step A a B b)(k:Kn.Step B b C c):Kn.Step A a C c:=
 ⟨Kn.le_trans h.le k.le,λi hi=>(k.fresh i (Nat.lt_of_lt_of_le hi h.below.size)).trans (h.fresh i hi),k.isin,h.below.trans (k.below.mono h.below.size)⟩
theorem Kn.Step.of_below{H:Kn}{w w':World}(h:H.In w)(hb:Ybw w w'):Kn.Step H w H w':=⟨Kn.le_refl H,λ_ _=>rfl,h.below hb,hb⟩
theorem bcell{W w1:World}(hb:Ybw W w1):(∀b o,b<W.heap.size->w1.cell? ⟨b,o,none⟩=W.cell? ⟨b,o,none⟩)/\(∀b o,b<W.heap.size->w1.frozen? ⟨b,o,none⟩=W.frozen? ⟨b,o,none⟩):=
 ⟨λb o h=>hb.cell (p:=⟨b,o,none⟩) h,λb o h=>hb.frozen (p:=⟨b,o,none⟩) h⟩
theorem app1{P:Program}(t e:TypeId)(k bytes:Nat)(z:Value)(ht:P.underlying t=some (.slice e))(hinfo:(P.info? e).map (λi=>(i.zero,i.size,i.bytes))=some (some z,k,bytes))(hzs:z.cells.size=k)(hk:0<k)
  {w:World} {ops:Array Oper} {rest:List Oper} {o:Oper} {a:Act} {Q:Exit->Act->World->Prop} (s x:Operand) (hgd:o.guard=none)
  (ho:o.op=.call { callee:=.builtin .append,args := #[s,x],argTypes := #[t,t] }) (base:Nat) (v:Value) (n:Nat) (xs:List Value) (hs:a.eval s=v) (Hb:w.ownsRow base e k v n xs)
  (ad:Addr) (c:Nat) (news:List Value) (hx:a.eval x=.slice (some ad) 1 c) (hl:news.length=k) (qX:∀j u,news[j]?=some u->w.cell? (ad.add j)=some u) (h1:∀u∈news,u.oneCell'=true)
  (hbytes:(n+1) * bytes<=140737488355328) (hn:n+1<=140737488355328) (Jl:base<=w.heap.size)
  (h:∀v' w',w'.ownsRow base e k v' (n+1) (xs++news)->w.grownBy w' v.ownBlock->wpList P ops Q rest (a.put o.dst v') w'):wpList P ops Q (o :: rest) a w:=by
 obtain⟨i,hi,h0,h2,h3⟩:=info_parts hinfo;exact wpList_append_own w hgd s x t ho base e i z k bytes ht hi h0 h2 h3 hzs hk v n xs hs Hb ad 1 c news hx (by omega) qX h1 (by unfold maxLen;omega) hbytes Jl (λv' w' a b _=>h v' w' a b)
theorem cells3(w:World)(x y z:Value)(t:TypeId):∀j u,[x,y,z][j]?=some u->(w.alloc (.cells #[x,y,z] t)).cell? ((⟨w.heap.size,0,none⟩:Addr).add j)=some u:=by
 intro j u h;have e:(⟨w.heap.size,0,none⟩:Addr).add j=⟨w.heap.size,j,none⟩:=by unfold Addr.add;split<;>simp_all
 rw[e,World.cell?_alloc_new];simpa using h
def SlAt(H:Kn)(k:Nat)(v:Value)(n:Nat)(R:Nat->(Nat->Option Value)->Prop):Prop:=
 (v=Ys0/\n=0)\/∃b off Ha,v=.slice (some ⟨b,off,none⟩) n Ha/\n<=Ha/\Ha<=maxLen/\∀i,i<n->R i (λj=>H.cell b (off+i * k+j))
theorem SlAt.mono{H H':Kn}{k:Nat}{v:Value}{n:Nat}{R R':Nat->(Nat->Option Value)->Prop}(h:SlAt H k v n R)
  (hr:∀i f g,i<n->R i f->(∀j x,f j=some x->g j=some x)->R' i g) (He:H.le H'):SlAt H' k v n R':=by
 rcases h with h|⟨b,off,Ha,hv,h1,h2,h3⟩
 .exact .inl h
 exact .inr ⟨b,off,Ha,hv,h1,h2,λi hi=>hr i _ _ hi (h3 i hi) (λj x e=>He.cell e)⟩
def Zfp(H:Kn)(v:Value)(l:List ByteArray):Prop:=SlAt H 1 v l.length λi f=>f 0=(l[i]?).map Value.string
theorem Zfp.le{H H':Kn}{v:Value}{l:List ByteArray}(h:Zfp H v l)(He:H.le H'):Zfp H' v l:=
 SlAt.mono h (λi f g hi e hg=>by rw[List.getElem?_eq_getElem hi] at e ⊢;exact hg _ _ e) He
theorem Zfp.cases{H:Kn}{v:Value}{l:List ByteArray}(h:Zfp H v l):(v=Ys0/\l=[])\/
  ∃b off Ha,v=.slice (some ⟨b,off,none⟩) l.length Ha/\l.length<=Ha/\Ha<=maxLen/\∀i (hi:i<l.length),H.cell b (off+i)=some (.string l[i]):=by
 rcases h with ⟨h1,h2⟩|⟨b,off,Ha,hv,h1,h2,h3⟩
 .exact .inl ⟨h1,List.eq_nil_of_length_eq_zero h2⟩
 refine .inr ⟨b,off,Ha,hv,h1,h2,λi hi=>?_⟩;have:=h3 i hi;simpa[List.getElem?_eq_getElem hi] using this
def Zan(w:World):Kn:=λb=>w.heap[b]?
theorem Za9(w:World):(Zan w).In w:=λ_ _ h=>h
theorem Zaj(w:World)(b i:Nat):(Zan w).cell b i=w.cell? ⟨b,i,none⟩:=by
 unfold Kn.cell Zan World.cell?;cases h:w.heap[b]? with
 |none=>rfl
 |some o=>cases o<;>simp
section
variable {K : Kn} {w : World} {b0 i0 b1 i1 b2 i2 b3 i3 b4 i4 b5 i5 b6 i6 b7 i7 b8 i8 b9 i9 b10 i10 b11 i11 : Nat} {v0 v1 v2 v3 v4 v5 v6 v7 v8 v9 v10 v11 : Value}
theorem Kn.In.c2(h:K.In w)(h0:K.cell b0 i0=some v0)(h1:K.cell b1 i1=some v1):w.cell? ⟨b0,i0,none⟩=some v0/\w.cell? ⟨b1,i1,none⟩=some v1:=⟨h.cell h0,h.cell h1⟩
theorem Kn.In.c3(h:K.In w)(h0:K.cell b0 i0=some v0)(h1:K.cell b1 i1=some v1)(h2:K.cell b2 i2=some v2):w.cell? ⟨b0,i0,none⟩=some v0/\w.cell? ⟨b1,i1,none⟩=some v1/\w.cell? ⟨b2,i2,none⟩=some v2:=⟨h.cell h0,h.c2 h1 h2⟩
theorem Kn.In.c4(h:K.In w)(h0:K.cell b0 i0=some v0)(h1:K.cell b1 i1=some v1)(h2:K.cell b2 i2=some v2)(h3:K.cell b3 i3=some v3):w.cell? ⟨b0,i0,none⟩=some v0/\w.cell? ⟨b1,i1,none⟩=some v1/\w.cell? ⟨b2,i2,none⟩=some v2/\w.cell? ⟨b3,i3,none⟩=some v3:=⟨h.cell h0,h.c3 h1 h2 h3⟩
theorem Kn.In.c5(h:K.In w)(h0:K.cell b0 i0=some v0)(h1:K.cell b1 i1=some v1)(h2:K.cell b2 i2=some v2)(h3:K.cell b3 i3=some v3)(h4:K.cell b4 i4=some v4):w.cell? ⟨b0,i0,none⟩=some v0/\w.cell? ⟨b1,i1,none⟩=some v1/\w.cell? ⟨b2,i2,none⟩=some v2/\w.cell? ⟨b3,i3,none⟩=some v3/\w.cell? ⟨b4,i4,none⟩=some v4:=⟨h.cell h0,h.c4 h1 h2 h3 h4⟩
theorem Kn.In.c6(h:K.In w)(h0:K.cell b0 i0=some v0)(h1:K.cell b1 i1=some v1)(h2:K.cell b2 i2=some v2)(h3:K.cell b3 i3=some v3)(h4:K.cell b4 i4=some v4)(h5:K.cell b5 i5=some v5):w.cell? ⟨b0,i0,none⟩=some v0/\w.cell? ⟨b1,i1,none⟩=some v1/\w.cell? ⟨b2,i2,none⟩=some v2/\w.cell? ⟨b3,i3,none⟩=some v3/\w.cell? ⟨b4,i4,none⟩=some v4/\w.cell? ⟨b5,i5,none⟩=some v5:=⟨h.cell h0,h.c5 h1 h2 h3 h4 h5⟩
theorem Kn.In.c7(h:K.In w)(h0:K.cell b0 i0=some v0)(h1:K.cell b1 i1=some v1)(h2:K.cell b2 i2=some v2)(h3:K.cell b3 i3=some v3)(h4:K.cell b4 i4=some v4)(h5:K.cell b5 i5=some v5)(h6:K.cell b6 i6=some v6):w.cell? ⟨b0,i0,none⟩=some v0/\w.cell? ⟨b1,i1,none⟩=some v1/\w.cell? ⟨b2,i2,none⟩=some v2/\w.cell? ⟨b3,i3,none⟩=some v3/\w.cell? ⟨b4,i4,none⟩=some v4/\w.cell? ⟨b5,i5,none⟩=some v5/\w.cell? ⟨b6,i6,none⟩=some v6:=⟨h.cell h0,h.c6 h1 h2 h3 h4 h5 h6⟩
theorem Kn.In.c8(h:K.In w)(h0:K.cell b0 i0=some v0)(h1:K.cell b1 i1=some v1)(h2:K.cell b2 i2=some v2)(h3:K.cell b3 i3=some v3)(h4:K.cell b4 i4=some v4)(h5:K.cell b5 i5=some v5)(h6:K.cell b6 i6=some v6)(h7:K.cell b7 i7=some v7):w.cell? ⟨b0,i0,none⟩=some v0/\w.cell? ⟨b1,i1,none⟩=some v1/\w.cell? ⟨b2,i2,none⟩=some v2/\w.cell? ⟨b3,i3,none⟩=some v3/\w.cell? ⟨b4,i4,none⟩=some v4/\w.cell? ⟨b5,i5,none⟩=some v5/\w.cell? ⟨b6,i6,none⟩=some v6/\w.cell? ⟨b7,i7,none⟩=some v7:=⟨h.cell h0,h.c7 h1 h2 h3 h4 h5 h6 h7⟩
theorem Kn.In.c9(h:K.In w)(h0:K.cell b0 i0=some v0)(h1:K.cell b1 i1=some v1)(h2:K.cell b2 i2=some v2)(h3:K.cell b3 i3=some v3)(h4:K.cell b4 i4=some v4)(h5:K.cell b5 i5=some v5)(h6:K.cell b6 i6=some v6)(h7:K.cell b7 i7=some v7)(h8:K.cell b8 i8=some v8):w.cell? ⟨b0,i0,none⟩=some v0/\w.cell? ⟨b1,i1,none⟩=some v1/\w.cell? ⟨b2,i2,none⟩=some v2/\w.cell? ⟨b3,i3,none⟩=some v3/\w.cell? ⟨b4,i4,none⟩=some v4/\w.cell? ⟨b5,i5,none⟩=some v5/\w.cell? ⟨b6,i6,none⟩=some v6/\w.cell? ⟨b7,i7,none⟩=some v7/\w.cell? ⟨b8,i8,none⟩=some v8:=⟨h.cell h0,h.c8 h1 h2 h3 h4 h5 h6 h7 h8⟩
theorem Kn.In.c10(h:K.In w)(h0:K.cell b0 i0=some v0)(h1:K.cell b1 i1=some v1)(h2:K.cell b2 i2=some v2)(h3:K.cell b3 i3=some v3)(h4:K.cell b4 i4=some v4)(h5:K.cell b5 i5=some v5)(h6:K.cell b6 i6=some v6)(h7:K.cell b7 i7=some v7)(h8:K.cell b8 i8=some v8)(h9:K.cell b9 i9=some v9):w.cell? ⟨b0,i0,none⟩=some v0/\w.cell? ⟨b1,i1,none⟩=some v1/\w.cell? ⟨b2,i2,none⟩=some v2/\w.cell? ⟨b3,i3,none⟩=some v3/\w.cell? ⟨b4,i4,none⟩=some v4/\w.cell? ⟨b5,i5,none⟩=some v5/\w.cell? ⟨b6,i6,none⟩=some v6/\w.cell? ⟨b7,i7,none⟩=some v7/\w.cell? ⟨b8,i8,none⟩=some v8/\w.cell? ⟨b9,i9,none⟩=some v9:=⟨h.cell h0,h.c9 h1 h2 h3 h4 h5 h6 h7 h8 h9⟩
theorem Kn.In.c11(h:K.In w)(h0:K.cell b0 i0=some v0)(h1:K.cell b1 i1=some v1)(h2:K.cell b2 i2=some v2)(h3:K.cell b3 i3=some v3)(h4:K.cell b4 i4=some v4)(h5:K.cell b5 i5=some v5)(h6:K.cell b6 i6=some v6)(h7:K.cell b7 i7=some v7)(h8:K.cell b8 i8=some v8)(h9:K.cell b9 i9=some v9)(jv:K.cell b10 i10=some v10):w.cell? ⟨b0,i0,none⟩=some v0/\w.cell? ⟨b1,i1,none⟩=some v1/\w.cell? ⟨b2,i2,none⟩=some v2/\w.cell? ⟨b3,i3,none⟩=some v3/\w.cell? ⟨b4,i4,none⟩=some v4/\w.cell? ⟨b5,i5,none⟩=some v5/\w.cell? ⟨b6,i6,none⟩=some v6/\w.cell? ⟨b7,i7,none⟩=some v7/\w.cell? ⟨b8,i8,none⟩=some v8/\w.cell? ⟨b9,i9,none⟩=some v9/\w.cell? ⟨b10,i10,none⟩=some v10:=⟨h.cell h0,h.c10 h1 h2 h3 h4 h5 h6 h7 h8 h9 jv⟩
theorem Kn.In.c12(h:K.In w)(h0:K.cell b0 i0=some v0)(h1:K.cell b1 i1=some v1)(h2:K.cell b2 i2=some v2)(h3:K.cell b3 i3=some v3)(h4:K.cell b4 i4=some v4)(h5:K.cell b5 i5=some v5)(h6:K.cell b6 i6=some v6)(h7:K.cell b7 i7=some v7)(h8:K.cell b8 i8=some v8)(h9:K.cell b9 i9=some v9)(jv:K.cell b10 i10=some v10)(h11:K.cell b11 i11=some v11):w.cell? ⟨b0,i0,none⟩=some v0/\w.cell? ⟨b1,i1,none⟩=some v1/\w.cell? ⟨b2,i2,none⟩=some v2/\w.cell? ⟨b3,i3,none⟩=some v3/\w.cell? ⟨b4,i4,none⟩=some v4/\w.cell? ⟨b5,i5,none⟩=some v5/\w.cell? ⟨b6,i6,none⟩=some v6/\w.cell? ⟨b7,i7,none⟩=some v7/\w.cell? ⟨b8,i8,none⟩=some v8/\w.cell? ⟨b9,i9,none⟩=some v9/\w.cell? ⟨b10,i10,none⟩=some v10/\w.cell? ⟨b11,i11,none⟩=some v11:=⟨h.cell h0,h.c11 h1 h2 h3 h4 h5 h6 h7 h8 h9 jv h11⟩
end
def idxBy(p:ByteArray->Bool)(l:List ByteArray):Int:=match l.findIdx? p with|some i=>(i:Int)|none => -1
theorem idxBy_found(p:ByteArray->Bool)(l:List ByteArray)(k:Nat)(hk:k<l.length)(hp:p l[k]=true)(hn:∀i (hi:i<l.length),i<k->p l[i]=false):idxBy p l=(k:Int):=by
 have:l.findIdx? p=some k:=by
  rw[List.findIdx?_eq_some_iff_getElem];exact⟨hk,hp,λj hj=>by simp[hn j (by omega) hj]⟩
 simp[idxBy,this]
theorem idxBy_none(p:ByteArray->Bool)(l:List ByteArray)(hn:∀i (hi:i<l.length),p l[i]=false):idxBy p l = -1:=by
 have:l.findIdx? p=none:=by
  rw[List.findIdx?_eq_none_iff];intro x hx;obtain⟨i,hi,rfl⟩:=List.mem_iff_getElem.1 hx;exact hn i hi
 simp[idxBy,this]
theorem idxBy_ge(p:ByteArray->Bool)(l:List ByteArray):decide (0<=idxBy p l)=l.any p:=by
 cases h:l.findIdx? p with
 |none=>
  rw[idxBy,h];rw[List.findIdx?_eq_none_iff] at h;have:l.any p=false:=by simpa using h
  rw[this];rfl
 |some i=>
  rw[idxBy,h];rw[List.findIdx?_eq_some_iff_getElem] at h;obtain⟨hi,hp,_⟩:=h;have:l.any p=true:=List.any_eq_true.2 ⟨l[i],Ymm _,hp⟩;rw[this];simp
theorem idxBy_lt(p:ByteArray->Bool)(l:List ByteArray) : -1<=idxBy p l/\idxBy p l<l.length:=by
 unfold idxBy;cases h:l.findIdx? p with
 |none=>simp;omega
 |some i=>
  rw[List.findIdx?_eq_some_iff_getElem] at h;obtain⟨hi,_⟩:=h;simp;omega
theorem idx_any(H:Kn)(v:Value)(l:List ByteArray)(s:ByteArray)(w:World)(hv:Zfp H v l)(hH:H.In w):
  Calls Tryz.prog 108 #[v,.string s] w λe w'=>e=.returned (.int .i64 (idxBy (λx=>s.toList==x.toList) l))/\w=w':=by
 rcases hv.cases with ⟨rfl,rfl⟩|⟨b,off,Ha,rfl,h1,h2,h3⟩
 .go_enter Tryz.func108,Tryz.ntmps108;go_wp2
  go_rounds 1
  all_goals go_ret
  exact⟨rfl,rfl⟩
 have hc:∀i (hi:i<l.length),w.cell? ⟨b,off+i,none⟩=some (.string l[i]):=λi hi=>hH.cell (h3 i hi);have HC:=Zhd hc;clear hc h3 hH hv;unfold maxLen at h2;go_enter Tryz.func108,Tryz.ntmps108;go_wp2
 go_loop[8] (λi=>∃k:Nat,k<=l.length/\i=.int .i64 k/\(∀i (hi:i<l.length),i<k->(s.toList==l[i].toList)=false)) (λi=>l.length - (intOf i).toNat)
 case atStart=>exact⟨0,Nat.zero_le _,rfl,by intro i _ h;omega⟩
 obtain⟨k,hk,rfl,hn⟩:=hrel;have HN:=Zhd hn;clear hn;by_cases Hr:k<l.length
 .have hc:=HC.out k Hr;cases he:(s.toList==l[k].toList)
  .go_wp2
   go_round
   case rel=>exact⟨k+1,by omega,by go_num,λi hi jp=>by
    by_cases hik':i<k
    .exact HN.out i hi hik'
    obtain rfl:i=k:=by omega
    exact he⟩
   simp[intOf];omega
  go_wp2
  go_ret;exact⟨Zaf (idxBy_found _ _ k Hr he λi hi jp=>HN.out i hi jp).symm,rfl⟩
 go_wp2
 go_ret;exact⟨Zaf (idxBy_none _ _ λi hi=>HN.out i hi (by omega)).symm,rfl⟩
theorem Zkj(H:Kn)(v:Value)(l:List ByteArray)(s:ByteArray)(w:World)(hv:Zfp H v l)(hH:H.In w):
  Calls Tryz.prog 89 #[v,.string s] w λe w'=>e=.returned (.bool (l.any λx=>s.toList==x.toList))/\w=w':=by
 have hb:=idxBy_lt (λx=>s.toList==x.toList) l;have hd:=idxBy_ge (λx=>s.toList==x.toList) l;have HD:=Zhd hd;clear hd;go_enter Tryz.func89,Tryz.ntmps89;go_wp2_with(go_at_call 108;refine(idx_any H _ l _ _ hv hH).mono ?_;rintro e w' ⟨rfl,rfl⟩);go_ret;exact⟨Za7 HD.out,rfl⟩
end Go.Proofs.YtafapnolamcdmaaGreatDoor
