/- Plain data and functions of values and operators, as flow.Apply has them: no program in sight. -/
import Derived.Test.YtofameafdnkijaaGreatDoorMx
set_option linter.all false
namespace Go.Proofs.YtofameafdnkijaaGreatDoor.Mx
structure Vl where
 kind:Int
 n:Int
deriving DecidableEq
def vz:Vl:=⟨0,0⟩
def tv (b:Bool):Vl:=⟨1,if b then 1 else 0⟩
def Zf4 (n:Int):Int:=if 128≤n % 256 then n % 256 - 256 else n % 256
def wv (n:Int):Vl:=⟨2,Zf4 n⟩
def Zba (v:Vl) (k:Int):Bool:=decide (v.kind=k)&&(if k=1 then decide (v.n=0) || decide (v.n=1) else decide (k=2)&&decide (-128≤v.n)&&decide (v.n≤127))
def Zdo (o:ByteArray) (l:List Vl):Nat:=
 match Zcv o with
 | .none=>3
 | some k=>
  if k<1∨k≠l.length∨o=oPre∨o=Zbq∨o=oFby then 3
  else if !(l.all fun v=>Zba v v.kind) then 5
  else if Zci o 0 (l.map (·.kind))=0 then 5 else 0
def appM (o:ByteArray) (l:List Vl):Vl×Bool:=
 let a:=l.getD 0 vz
 let b:=l.getD 1 vz
 if o=oNot then (tv (decide (a.n=0)),false)
 else if o=oNeg then (wv (-a.n),false)
 else if o=oIf then (if a.n=1 then b else l.getD 2 vz,false)
 else if o=oEq then (tv (decide (a=b)),false)
 else if o=oNe then (tv (decide (a≠b)),false)
 else if o=oLt then (tv (decide (a.n<b.n)),false)
 else if o=oLe then (tv (decide (a.n≤b.n)),false)
 else if o=oGt then (tv (decide (b.n<a.n)),false)
 else if o=oGe then (tv (decide (b.n≤a.n)),false)
 else if o=oAnd then (tv (decide (a.n=1)&&decide (b.n=1)),false)
 else if o=oOr then (tv (decide (a.n=1) || decide (b.n=1)),false)
 else if o=oXor then (tv (decide (a.n=1) != decide (b.n=1)),false)
 else if o=oImp then (tv (!decide (a.n=1) || decide (b.n=1)),false)
 else if (o=oDiv∨o=oMod)∧b.n=0 then (vz,true)
 else if o=oAdd then (wv (a.n+b.n),false)
 else if o=oSub then (wv (a.n - b.n),false)
 else if o=oMul then (wv (a.n * b.n),false)
 else if o=oDiv then (wv (a.n.tdiv b.n),false)
 else (wv (a.n.tmod b.n),false)
end Go.Proofs.YtofameafdnkijaaGreatDoor.Mx
/- flat.Check step by step: no program in sight. -/
namespace Go.Proofs.YtofameafdnkijaaGreatDoor.Mx
def Zii (m:Env Int) (s:ByteArray) (k:Int):Bool:=(m s).isNone&&decide (s.size≠0)&&(decide (k=1) || decide (k=2))
theorem Zhk (l r:List (ByteArray×Int)):∀ m,Zas m (l++r)=(Zas m l).bind fun m'=>Zas m' r:=by
 induction l with
 | nil=>intro m;rfl
 | cons x l ih=>
  intro m
  simp only [List.cons_append,Zas]
  split
  ·exact ih _
  rfl
theorem fresh_step {l:List (ByteArray×Int)} {k:Nat} (h:k<l.length) {m:Env Int} (hm:Zas Env.none (l.take k)=some m):
  Zas Env.none (l.take (k+1))=if Zii m l[k].1 l[k].2 then some (m.set l[k].1 l[k].2) else .none:=by
 rw [List.take_succ_eq_append_getElem h,Zhk,hm]
 simp only [Option.bind_some,Zas]
 have hc:Zii m l[k].1 l[k].2=true↔((m l[k].1).isNone=true∧l[k].1.size≠0∧(l[k].2=1∨l[k].2=2)):=by
  unfold Zii
  simp only [Bool.and_eq_true,decide_eq_true_eq,Bool.or_eq_true]
  exact⟨fun h=>⟨h.1.1,h.1.2,h.2⟩,fun h=>⟨⟨h.1,h.2.1⟩,h.2.2⟩⟩
 by_cases h1:Zii m l[k].1 l[k].2=true
 ·rw [if_pos (hc.1 h1),if_pos h1]
 rw [if_neg (fun e=>h1 (hc.2 e)),if_neg h1]
theorem fresh_none {l:List (ByteArray×Int)} {k:Nat} (hm:Zas Env.none (l.take k) = .none):Zas Env.none l = .none:=by
 rw [← List.take_append_drop k l,Zhk,hm];rfl
def Zjt (l:List ByteArray):Env Bool:=fun s=>if l.contains s then some true else .none
theorem setL1_nil:Zjt []=Env.none:=by funext s;simp [Zjt,Env.none]
theorem setL1_snoc (l:List ByteArray) (s:ByteArray):(Zjt l).set s true=Zjt (l++[s]):=by
 funext x
 unfold Zjt Env.set
 by_cases h:x=s
 ·subst h;simp
 simp [h]
theorem setL1_get (l:List ByteArray) (s:ByteArray):(Zjt l s).getD false=l.contains s:=by
 unfold Zjt
 cases l.contains s<;>rfl
theorem outs_step (fl:List ByteArray):∀ (outs seen:List ByteArray) (k:Nat) (h:k<outs.length),Zcy fl (seen++outs.take k) (outs.drop k)=(fl.contains outs[k] && !(seen++outs.take k).contains outs[k]&&Zcy fl (seen++outs.take (k+1)) (outs.drop (k+1))):=by
 intro outs seen k h
 rw [List.drop_eq_getElem_cons h]
 simp only [Zcy]
 rw [List.take_succ_eq_append_getElem h,List.append_assoc]
theorem Zbk (ks:Env Int):∀ (l:List Ex),Zck ks l=true↔∀ i (h:i<l.length),Zad ks l[i]=true
 | []=>by simp [Zck]
 | e :: l=>by
  simp only [Zck,Bool.and_eq_true]
  rw [Zbk ks l]
  constructor
  ·rintro⟨h1,h2⟩ i hi
   cases i with
   | zero=>exact h1
   | succ i=>exact h2 i (by simpa using hi)
  intro h
  exact⟨h 0 (by simp),fun i hi=>h (i+1) (by simpa using hi)⟩
theorem Zep (ks:Env Int):∀ (K:List Int) (l:List Ex),Zda ks K l=true↔∀ i (h:i<l.length),Zam ks l[i]=K.getD i 1
 | K,[]=>by cases K<;>simp [Zda]
 | [],e :: l=>by
  simp only [Zda,Bool.and_eq_true,decide_eq_true_eq]
  rw [Zep ks [] l]
  constructor
  ·rintro⟨h1,h2⟩ i hi
   cases i with
   | zero=>exact h1
   | succ i=>exact h2 i (by simpa using hi)
  intro h
  exact⟨h 0 (by simp),fun i hi=>h (i+1) (by simpa using hi)⟩
 | k :: K,e :: l=>by
  simp only [Zda,Bool.and_eq_true,decide_eq_true_eq]
  rw [Zep ks K l]
  constructor
  ·rintro⟨h1,h2⟩ i hi
   cases i with
   | zero=>exact h1
   | succ i=>exact h2 i (by simpa using hi)
  intro h
  exact⟨h 0 (by simp),fun i hi=>h (i+1) (by simpa using hi)⟩
theorem Zgr (p:Pr):p.vars.length=p.ins.length+p.fl.length:=by simp [Pr.vars]
theorem vars_in (p:Pr) (k:Nat) (h:k<p.ins.length) (h':k<p.vars.length):p.vars[k]=(p.ins[k].name,p.ins[k].kind):=by
 simp only [Pr.vars]
 rw [List.getElem_append_left (by simpa using h)]
 simp
theorem vars_fl (p:Pr) (k:Nat) (h:k<p.fl.length) (h':p.ins.length+k<p.vars.length):p.vars[p.ins.length+k]=(p.fl[k].name,p.fl[k].kind):=by
 simp only [Pr.vars]
 rw [List.getElem_append_right (by simp)]
 simp
theorem check_vars {p:Pr} (h:Zas Env.none p.vars = .none):Zak p=3:=by unfold Zak;rw [h]
theorem check_outs {p:Pr} {ks:Env Int} (h:Zas Env.none p.vars=some ks) (h1:Zcy (p.fl.map (·.name)) [] p.outs=false):Zak p=3:=by unfold Zak;rw [h];simp [h1]
theorem check_form {p:Pr} {ks:Env Int} (h:Zas Env.none p.vars=some ks) (h1:Zcy (p.fl.map (·.name)) [] p.outs=true) (h2:Zck ks p.terms=false):Zak p=3:=by unfold Zak;rw [h];simp [h1,h2]
theorem check_big {p:Pr} {ks:Env Int} (h:Zas Env.none p.vars=some ks) (h1:Zcy (p.fl.map (·.name)) [] p.outs=true) (h2:Zck ks p.terms=true) (h3:p.fl.length > 400∨Ex.partsL p.terms > 4000∨p.ins.length > 30):Zak p=2:=by
 unfold Zak;rw [h];simp [h1,h2];intro a b;omega
theorem check_kind {p:Pr} {ks:Env Int} (h:Zas Env.none p.vars=some ks) (h1:Zcy (p.fl.map (·.name)) [] p.outs=true) (h2:Zck ks p.terms=true) (h3:¬ (p.fl.length > 400∨Ex.partsL p.terms > 4000∨p.ins.length > 30)) (h4:Zda ks (p.fl.map (·.kind)) p.terms=false):Zak p=5:=by
 unfold Zak;rw [h];simp only [h1,h2,h4,Bool.not_true,Bool.false_eq_true,if_false,Bool.not_false,if_true];rw [if_neg h3]
theorem check_ok {p:Pr} {ks:Env Int} (h:Zas Env.none p.vars=some ks) (h1:Zcy (p.fl.map (·.name)) [] p.outs=true) (h2:Zck ks p.terms=true) (h3:¬ (p.fl.length > 400∨Ex.partsL p.terms > 4000∨p.ins.length > 30)) (h4:Zda ks (p.fl.map (·.kind)) p.terms=true):Zak p=0:=by
 unfold Zak;rw [h];simp only [h1,h2,h4,Bool.not_true,Bool.false_eq_true,if_false];rw [if_neg h3]
end Go.Proofs.YtofameafdnkijaaGreatDoor.Mx
/- Graphs: whoever needs itself; the search of order.cyclic finds it. No program in sight. -/
namespace Go.Proofs.YtofameafdnkijaaGreatDoor.Mx
def edge (g:List (List Nat)) (a b:Nat):Prop:=b∈g.getD a []
inductive Path (g:List (List Nat)):Nat→Nat→Prop
 | one {a b:Nat}:edge g a b→Path g a b
 | snoc {a b c:Nat}:Path g a b→edge g b c→Path g a c
theorem Path.trans {g:List (List Nat)} {a b c:Nat} (h:Path g a b) (k:Path g b c):Path g a c:=by
 induction k with
 | one e=>exact .snoc h e
 | snoc _ e ih=>exact .snoc ih e
def restL (g:List (List Nat)) (seen:List Nat):List Nat→Nat
 | []=>0
 | k :: r=>(if seen.contains k then 0 else (g.getD k []).length+1)+restL g seen r
theorem Ziu (g:List (List Nat)) (seen:List Nat) (k:Nat):∀ l,restL g (k :: seen) l≤restL g seen l
 | []=>Nat.le_refl _
 | x :: r=>by
  have:=Ziu g seen k r
  simp only [restL,List.contains_cons]
  cases seen.contains x<;>cases (x==k)<;>simp only [Bool.or_true,Bool.or_false,if_true,Bool.false_eq_true,if_false]<;>omega
theorem restL_lt (g:List (List Nat)) (seen:List Nat) (k:Nat) (hs:seen.contains k=false):∀ l,k∈l→restL g (k :: seen) l+((g.getD k []).length+1)≤restL g seen l
 | [],h=>by cases h
 | x :: r,h=>by
  have hm:=Ziu g seen k r
  simp only [restL,List.contains_cons]
  by_cases hx:x=k
  ·subst hx
   have h0:(x==x)=true:=by simp
   rw [hs,h0]
   simp;omega
  have hr:k∈r:=by
   rcases List.mem_cons.1 h with h | h
   ·exact absurd h.symm hx
   exact h
  have ih:=restL_lt g seen k hs r hr
  have h0:(x==k)=false:=by simpa using hx
  rw [h0]
  simp only [Bool.false_or]
  omega
def rest (g:List (List Nat)) (seen:List Nat):Nat:=restL g seen (List.range g.length)
theorem cycN_spec (g:List (List Nat)) (i:Nat):∀ (f:Nat) (seen todo:List Nat),todo.length+rest g seen<f→(∀ k∈todo,Path g i k)→
  (∀ k∈seen,∀ b,edge g k b→b∈seen∨b∈todo)→(∀ b,edge g i b→b∈seen∨b∈todo)→i∉seen→(cycN g i f seen todo=true↔Path g i i)
 | 0,_,_,h,_,_,_,_=>by omega
 | f+1,seen,[],_,_,hB,hC,hD=>by
  simp only [cycN]
  refine⟨fun h=>by simp at h,fun h=>?_⟩
  have key:∀ b,Path g i b→b∈seen:=by
   intro b hb
   induction hb with
   | one e=>
    rcases hC _ e with h | h
    ·exact h
    cases h
   | snoc _ e ih=>
    rcases hB _ ih _ e with h | h
    ·exact h
    cases h
  exact absurd (key i h) hD
 | f+1,seen,k :: r,h,hA,hB,hC,hD=>by
  simp only [cycN]
  by_cases hk:k=i
  ·subst hk
   rw [if_pos rfl]
   exact⟨fun _=>hA _ (List.mem_cons_self ..),fun _=>rfl⟩
  rw [if_neg hk]
  by_cases hs:seen.contains k=true
  ·rw [if_pos hs]
   have hs':k∈seen:=by simpa using hs
   refine cycN_spec g i f seen r (by simp only [List.length_cons] at h;omega) (fun x hx=>hA x (List.mem_cons_of_mem _ hx)) (fun x hx b e=>?_) (fun b e=>?_) hD
   ·rcases hB x hx b e with h | h
    ·exact .inl h
    rcases List.mem_cons.1 h with rfl | h
    ·exact .inl hs'
    exact .inr h
   rcases hC b e with h | h
   ·exact .inl h
   rcases List.mem_cons.1 h with rfl | h
   ·exact .inl hs'
   exact .inr h
  rw [if_neg hs]
  have hs':seen.contains k=false:=by simpa using hs
  refine cycN_spec g i f (k :: seen) ((g.getD k []).reverse++r) ?_ ?_ ?_ ?_ ?_
  ·simp only [List.length_cons,List.length_append,List.length_reverse] at h ⊢
   by_cases hlt:k<g.length
   ·have:=restL_lt g seen k hs' (List.range g.length) (List.mem_range.2 hlt)
    unfold rest at h ⊢
    omega
   have h0:g.getD k []=[]:=by rw [List.getD_eq_getElem?_getD,List.getElem?_eq_none (by omega)];rfl
   have:=Ziu g seen k (List.range g.length)
   unfold rest at h ⊢
   rw [h0]
   simp only [List.length_nil]
   omega
  ·intro x hx
   rcases List.mem_append.1 hx with hx | hx
   ·exact .snoc (hA k (List.mem_cons_self ..)) (List.mem_reverse.1 hx)
   exact hA x (List.mem_cons_of_mem _ hx)
  ·intro x hx b e
   rcases List.mem_cons.1 hx with rfl | hx
   ·exact .inr (List.mem_append_left _ (List.mem_reverse.2 e))
   rcases hB x hx b e with h | h
   ·exact .inl (List.mem_cons_of_mem _ h)
   rcases List.mem_cons.1 h with rfl | h
   ·exact .inl (List.mem_cons_self ..)
   exact .inr (List.mem_append_right _ h)
  ·intro b e
   rcases hC b e with h | h
   ·exact .inl (List.mem_cons_of_mem _ h)
   rcases List.mem_cons.1 h with rfl | h
   ·exact .inl (List.mem_cons_self ..)
   exact .inr (List.mem_append_right _ h)
  intro hi
  rcases List.mem_cons.1 hi with h | h
  ·exact hk h.symm
  exact hD h
theorem sum_range (g:List (List Nat)):restL g [] (List.range g.length)=(g.map fun l=>l.length+1).sum:=by
 have key:∀ (l:List (List Nat)) (a:Nat) (h:List (List Nat)),g=h++l→h.length=a→restL g [] (List.range' a l.length)=(l.map fun l=>l.length+1).sum:=by
  intro l
  induction l with
  | nil=>intro a h _ _;rfl
  | cons x l ih=>
   intro a h hg ha
   have:=ih (a+1) (h++[x]) (by rw [hg];simp) (by simp [ha])
   simp only [List.length_cons,List.range'_succ,restL,List.map_cons,List.sum_cons]
   rw [this]
   have h0:g.getD a []=x:=by rw [hg,List.getD_eq_getElem?_getD,List.getElem?_append_right (by omega),ha];simp
   rw [h0]
   simp
 rw [List.range_eq_range']
 exact key g 0 [] rfl rfl
theorem Zi1 (g:List (List Nat)) (i:Nat):(g.getD i []).length≤(g.map fun l=>l.length+1).sum:=by
 induction g generalizing i with
 | nil=>simp
 | cons x g ih=>
  cases i with
  | zero=>simp;omega
  | succ i=>have:=ih i;simp at this ⊢;omega
theorem cyc_iff (g:List (List Nat)) (i:Nat):cyc g i=true↔Path g i i:=by
 unfold cyc
 refine cycN_spec g i _ [] _ ?_ (fun k hk => .one (List.mem_reverse.1 hk)) (fun k hk=>by cases hk) (fun b e => .inr (List.mem_reverse.2 e)) (by simp)
 have h1:=sum_range g
 have h2:=Zi1 g i
 unfold Zer rest
 rw [h1,List.length_reverse]
 omega
def iter (nx:Nat→Nat):Nat→Nat→Nat
 | 0,i=>i
 | t+1,i=>nx (iter nx t i)
theorem pigeon:∀ (n:Nat) (f:Nat→Nat),(∀ i,i≤n→f i<n)→∃ i j,i<j∧j≤n∧f i=f j
 | 0,f,h=>by have:=h 0 (Nat.le_refl _);omega
 | n+1,f,h=>by
  by_cases hx:∃ i,i≤n∧f i=f (n+1)
  ·obtain⟨i,hi,e⟩:=hx
   exact⟨i,n+1,by omega,Nat.le_refl _,e⟩
  have hne:∀ i,i≤n→f i≠f (n+1):=fun i hi e=>hx ⟨i,hi,e⟩
  obtain⟨i,j,hij,hj,e⟩:=pigeon n (fun i=>if f i=n then f (n+1) else f i) (fun i hi=>by
   have h1:=h i (by omega)
   have h2:=h (n+1) (Nat.le_refl _)
   have h3:=hne i hi
   show (if f i=n then f (n+1) else f i)<n
   split<;>omega)
  refine⟨i,j,hij,by omega,?_⟩
  have h1:=hne i (by omega)
  have h2:=hne j hj
  have e':(if f i=n then f (n+1) else f i)=(if f j=n then f (n+1) else f j):=e
  split at e'<;>split at e'<;>omega
end Go.Proofs.YtofameafdnkijaaGreatDoor.Mx
namespace Go.Proofs.YtofameafdnkijaaGreatDoor.Mx
theorem at_other (k:ByteArray):∀ (l:List Fl) (i:Nat) (m:Env Nat),(∀ f∈l,f.name≠k)→Zcs i m l k=m k
 | [],_,_,_=>rfl
 | f :: l,i,m,h=>by
  simp only [Zcs]
  rw [at_other k l (i+1) _ (fun y hy=>h y (List.mem_cons_of_mem _ hy))]
  simp [Env.set,Ne.symm (h f (List.mem_cons_self ..))]
theorem at_get:∀ (l:List Fl) (i:Nat) (m:Env Nat),(l.map (·.name)).Nodup→∀ j (h:j<l.length),Zcs i m l l[j].name=some (i+j)
 | [],_,_,_,j,h=>by simp at h
 | f :: l,i,m,hn,j,h=>by
  rw [List.map_cons,List.nodup_cons] at hn
  simp only [Zcs]
  cases j with
  | zero=>
   simp only [List.getElem_cons_zero]
   rw [at_other _ l (i+1) _ (fun z hz e=>hn.1 (List.mem_map.2 ⟨z,hz,e⟩))]
   simp [Env.set]
  | succ j=>
   simp only [List.getElem_cons_succ]
   rw [at_get l (i+1) _ hn.2 j (by simpa using h)]
   congr 1;omega
def decB (n:Nat):ByteArray:=if n<10 then ⟨#[UInt8.ofNat (48+n)]⟩ else ⟨#[UInt8.ofNat (48+n / 10),UInt8.ofNat (48+n % 10)]⟩
def fnm (n:Nat):ByteArray:=⟨#[102]⟩++decB n
section
variable (nx : Nat → Nat) (n : Nat)
def chFl (i:Nat):Fl:=⟨fnm i,1,.mk Zbg 0 (fnm (nx i)) []⟩
def chain:Pr:=⟨[],(List.range n).map fnm,(List.range n).map (chFl nx),[],[]⟩
variable {nx n}
end
end Go.Proofs.YtofameafdnkijaaGreatDoor.Mx
namespace Go.Proofs.YtofameafdnkijaaGreatDoor.Mx
def nxOf (l:List Int) (i:Nat):Nat:=(l.getD i 0 % (l.length:Int)).toNat
end Go.Proofs.YtofameafdnkijaaGreatDoor.Mx
/- order.Names ends, and at what: no program in sight. -/
namespace Go.Proofs.YtofameafdnkijaaGreatDoor.Mx
def mu (late:ByteArray→Int):List Fl→Nat
 | []=>0
 | f :: l=>(2 - late f.name).toNat+mu late l
theorem mu_le (late late':ByteArray→Int) (h:∀ s,late s≤late' s):∀ l,mu late' l≤mu late l
 | []=>Nat.le_refl _
 | f :: l=>by
  have:=mu_le late late' h l
  have:=h f.name
  simp only [mu];omega
theorem mu_lt (late late':ByteArray→Int) (h:∀ s,late s≤late' s) (hb:∀ s,late' s≤2):∀ (l:List Fl) (f:Fl),f∈l→late f.name<late' f.name→mu late' l<mu late l
 | [],_,hf,_=>by cases hf
 | x :: l,f,hf,hlt=>by
  have h1:=mu_le late late' h l
  have h2:=h x.name
  have h3:=hb x.name
  simp only [mu]
  rcases List.mem_cons.1 hf with rfl | hf
  ·omega
  have:=mu_lt late late' h hb l f hf hlt
  omega
theorem mu_zero:∀ l:List Fl,mu (fun _=>0) l=2 * l.length
 | []=>rfl
 | f :: l=>by simp only [mu,mu_zero l,List.length_cons];omega
theorem namesRound_more (l:List Fl):∀ late,(Zar l late true).2=true:=by
 induction l with
 | nil=>intro late;rfl
 | cons f l ih=>intro late;simp only [Zar];split<;>exact ih _
theorem namesN_step (l:List Fl) (f:Nat) (late:ByteArray→Int):Zf3 l (f+1) late=if (Zar l late false).2 then Zf3 l f (Zar l late false).1 else (Zar l late false).1:=rfl
theorem drop_round {l:List Fl} {k:Nat} (h:k<l.length) (late:ByteArray→Int) (b:Bool):Zar (l.drop k) late b=if late l[k].name<Zac late l[k].e then Zar (l.drop (k+1)) (setL late l[k].name (Zac late l[k].e)) true else Zar (l.drop (k+1)) late b:=by
 rw [List.drop_eq_getElem_cons h];rfl
end Go.Proofs.YtofameafdnkijaaGreatDoor.Mx
