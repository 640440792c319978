/- What several families lean on: names of a program, known memory but for one block. -/
import Derived.Test.YtofameafdnkijaaGreatDoorRunC
import Derived.Test.YtofameafdnkijaaGreatDoorMap
set_option linter.all false
namespace Go.Proofs.YtofameafdnkijaaGreatDoor
open Go.RowKit Mx
def noKn (R:Nat) (w:World):Kn:=fun b=>if b=R then none else w.heap[b]?
theorem Zhu (R:Nat) (w:World):(noKn R w).In w:=fun b o e=>by
 unfold noKn at e
 split at e
 ·cases e
 exact e
theorem Zge (R:Nat) (w:World):noKn R w R=none:=by simp [noKn]
theorem Ziy {R:Nat} {w:World} {K:Kn} (h:K.In w) (hR:K R=none):K.le (noKn R w):=fun b o e=>by
 unfold noKn
 rw [if_neg (fun e2=>by rw [e2,hR] at e;cases e)]
 exact h b o e
theorem Zgf {R:Nat} {w:World} {b:Nat} (h:b≠R) (i:Nat):(noKn R w).cell b i=w.cell? ⟨b,i,none⟩:=by
 rw [← Zap]
 simp [Kn.cell,noKn,Zai,h]
theorem fresh_two:∀ (l:List (ByteArray×Int)) (m ks:Env Int),Zas m l=some ks→(∀ s k,m s=some k→k=1∨k=2)→∀ s k,ks s=some k→k=1∨k=2
 | [],m,ks,h,hm,s,k,hk=>by simp only [Zas] at h;cases h;exact hm s k hk
 | y :: l,m,ks,h,hm,s,k,hk=>by
  simp only [Zas] at h
  split at h
  ·rename_i hc
   refine fresh_two l _ ks h (fun s' k' h'=>?_) s k hk
   by_cases e:s'=y.1
   ·rw [e,Env.set_self] at h';cases h';exact hc.2.2
   rw [Env.set_other _ _ e] at h';exact hm s' k' h'
  cases h
theorem Zdc:∀ (l:List (ByteArray×Int)) (m ks:Env Int),Zas m l=some ks→(∀ s k,m s=some k→ks s=some k)∧∀ x∈l,ks x.1=some x.2
 | [],m,ks,h=>by simp only [Zas] at h;cases h;exact⟨fun _ _ h=>h,fun x hx=>by cases hx⟩
 | y :: l,m,ks,h=>by
  simp only [Zas] at h
  split at h
  ·rename_i hc
   obtain⟨h1,h2⟩:=Zdc l _ ks h
   refine⟨fun s k hk=>h1 s k ?_,fun x hx=>?_⟩
   ·have hne:s≠y.1:=fun e=>by
     have h3:=hc.1
     rw [← e,hk] at h3
     cases h3
    rw [Env.set_other _ _ hne];exact hk
   rcases List.mem_cons.1 hx with rfl | hx
   ·exact h1 _ _ (Env.set_self ..)
   exact h2 x hx
  cases h
theorem Zbr (ks:Env Int):∀ l:List Ex,Zav ks l=l.map (Zam ks)
 | []=>rfl
 | e :: l=>by rw [Zav,Zbr ks l];rfl
theorem right_tv (b:Bool):Zba (tv b) 1=true:=by cases b<;>decide
theorem right_wv (n:Int):Zba (wv n) 2=true:=by
 have h1:=Int.emod_nonneg n (show (256:Int)≠0 by decide)
 have h2:=Int.emod_lt_of_pos n (show (0:Int)<256 by decide)
 unfold Zba wv Zf4
 simp only [decide_true,Bool.true_and]
 split<;>simp<;>omega
theorem Zis {v:Vl} {k:Int} (h:Zba v k=true):v.kind=k∧(k=1∨k=2):=by
 unfold Zba at h
 simp only [Bool.and_eq_true,decide_eq_true_eq] at h
 refine⟨h.1,?_⟩
 by_cases e:k=1
 ·exact .inl e
 rw [if_neg e] at h
 simp only [Bool.and_eq_true,decide_eq_true_eq] at h
 exact .inr h.2.1.1
def opsL:List ByteArray:=[oInt,Zcn,Zb3,Zbg,oNot,oNeg,oPre,oIf,Zht,Zbq,oFby,oOr,oXor,oAnd,oEq,oNe,oLt,oLe,oGt,oGe,oImp,oAdd,oSub,oMul,oDiv,oMod]
theorem arity_ops {o:ByteArray} {k:Int} (h:Zcv o=some k):o∈opsL:=by
 unfold Zcv at h
 unfold opsL
 simp only [List.mem_cons,List.not_mem_nil,or_false]
 split at h
 ·rename_i e;rcases e with e | e | e | e<;>simp [e]
 split at h
 ·rename_i e;rcases e with e | e | e<;>simp [e]
 split at h
 ·rename_i e;simp [e]
 split at h
 ·rename_i e;simp [e]
 split at h
 ·rename_i e;rcases e with e | e<;>simp [e]
 split at h
 ·rename_i e
  simp only [levels,List.any_cons,List.any_nil,List.contains_cons,List.contains_nil,Bool.or_false,Bool.or_eq_true,beq_iff_eq] at e
  rcases e with ((e | e) | e | (e | e | e | e | e | e | e) | (e | e) | (e | e | e))<;>simp [e]
 cases h
theorem app_right {o:ByteArray} {k:Int} (ho:o∈opsL) (n1:o≠oInt∧o≠Zcn∧o≠Zb3∧o≠Zbg∧o≠oPre∧o≠Zbq∧o≠oFby∧o≠Zht) {vs:List Vl} (hv:∀ v∈vs,Zba v v.kind=true)
  (hk:Zci o k (vs.map (·.kind))≠0):if (appM o vs).2=true then Zci o k (vs.map (·.kind))=2 else Zba (appM o vs).1 (Zci o k (vs.map (·.kind)))=true:=by
 obtain⟨a1,a2,a3,a4,a5,a6,a7,a8⟩:=n1
 unfold opsL at ho
 simp only [List.mem_cons,List.not_mem_nil,or_false,a1,a2,a3,a4,a5,a6,a7,a8,false_or] at ho
 by_cases hif:o=oIf
 ·subst hif
  have e:Zci oIf k (vs.map (·.kind))=(if (vs.map (·.kind)).getD 0 0=1∧(vs.map (·.kind)).getD 1 0=(vs.map (·.kind)).getD 2 0 then (vs.map (·.kind)).getD 1 0 else 0):=rfl
  have e2:appM oIf vs=(if (vs.getD 0 vz).n=1 then vs.getD 1 vz else vs.getD 2 vz,false):=rfl
  rw [e] at hk ⊢
  rw [e2]
  by_cases hc:(vs.map (·.kind)).getD 0 0=1∧(vs.map (·.kind)).getD 1 0=(vs.map (·.kind)).getD 2 0
  ·rw [if_pos hc] at hk ⊢
   have hg:∀ j,(vs.map (·.kind)).getD j 0=(vs.getD j vz).kind:=fun j=>by
    simp only [List.getD_eq_getElem?_getD,List.getElem?_map]
    cases vs[j]?<;>rfl
   have hr:∀ j,(vs.getD j vz).kind≠0→Zba (vs.getD j vz) (vs.getD j vz).kind=true:=fun j hj=>by
    by_cases hl:j<vs.length
    ·have:vs.getD j vz=vs[j]:=by simp [List.getD_eq_getElem?_getD,hl]
     rw [this]
     exact hv _ (List.getElem_mem hl)
    have:vs.getD j vz=vz:=by simp [List.getD_eq_getElem?_getD,hl]
    rw [this] at hj
    exact absurd rfl hj
   rw [hg 1,hg 2] at hc
   rw [hg 1] at hk ⊢
   simp only [Bool.false_eq_true,if_false]
   split
   ·exact hr 1 hk
   rw [hc.2]
   exact hr 2 (by rw [← hc.2];exact hk)
  rw [if_neg hc] at hk
  exact absurd rfl hk
 have hs:∀ c d:Bool,(if (c&&d)=true then (1:Int) else 0)≠0→(if (c&&d)=true then (1:Int) else 0)=1:=by intro c d;cases c<;>cases d<;>simp
 have hs1:∀ c:Bool,(if c=true then (1:Int) else 0)≠0→(if c=true then (1:Int) else 0)=1:=by intro c;cases c<;>simp
 have hs2:∀ c d:Bool,(if (c&&d)=true then (2:Int) else 0)≠0→(if (c&&d)=true then (2:Int) else 0)=2:=by intro c d;cases c<;>cases d<;>simp
 have T:∀ {b:Bool} {x:Int},appM o vs=(tv b,false)→x=1→if (appM o vs).2=true then x=2 else Zba (appM o vs).1 x=true:=fun e ex=>by
  rw [e,ex]
  exact right_tv _
 have W:∀ {n:Int} {x:Int},appM o vs=(wv n,false)→x=2→if (appM o vs).2=true then x=2 else Zba (appM o vs).1 x=true:=fun e ex=>by
  rw [e,ex]
  exact right_wv _
 generalize hK:vs.map (·.kind)=K at *
 rcases ho with rfl | rfl | rfl | rfl | rfl | rfl | rfl | rfl | rfl | rfl | rfl | rfl | rfl | rfl | rfl | rfl | rfl | rfl
 ·exact T rfl (hs _ _ hk)
 ·exact W rfl (hs2 _ _ hk)
 ·exact absurd rfl hif
 ·exact T rfl (hs _ _ hk)
 ·exact T rfl (hs _ _ hk)
 ·exact T rfl (hs _ _ hk)
 ·exact T rfl (hs1 _ hk)
 ·exact T rfl (hs1 _ hk)
 ·exact T rfl (hs _ _ hk)
 ·exact T rfl (hs _ _ hk)
 ·exact T rfl (hs _ _ hk)
 ·exact T rfl (hs _ _ hk)
 ·exact T rfl (hs _ _ hk)
 ·exact W rfl (hs2 _ _ hk)
 ·exact W rfl (hs2 _ _ hk)
 ·exact W rfl (hs2 _ _ hk)
 ·by_cases h0:(vs.getD 1 vz).n=0
  ·have e:appM oDiv vs=(vz,true):=by unfold appM;generalize vs.getD 1 vz=b at h0 ⊢;simp [h0]
   rw [e]
   exact hs2 _ _ hk
  exact W (show appM oDiv vs=(wv ((vs.getD 0 vz).n.tdiv (vs.getD 1 vz).n),false) from by unfold appM;generalize vs.getD 1 vz=b at h0 ⊢;generalize vs.getD 0 vz=a;simp [h0]) (hs2 _ _ hk)
 by_cases h0:(vs.getD 1 vz).n=0
 ·have e:appM oMod vs=(vz,true):=by unfold appM;generalize vs.getD 1 vz=b at h0 ⊢;simp [h0]
  rw [e]
  exact hs2 _ _ hk
 exact W (show appM oMod vs=(wv ((vs.getD 0 vz).n.tmod (vs.getD 1 vz).n),false) from by unfold appM;generalize vs.getD 1 vz=b at h0 ⊢;generalize vs.getD 0 vz=a;simp [h0]) (hs2 _ _ hk)
theorem Zg5 {ks:Env Int} {o:ByteArray} {n:Int} {s:ByteArray} {l:List Ex} (h:Zam ks (.mk o n s l)≠0):Zam ks (.mk o n s l)=Zci o ((ks s).getD 0) (Zav ks l)∧∀ e∈l,Zam ks e≠0:=by
 simp only [Zam] at h ⊢
 by_cases hc:(Zav ks l).contains 0=true
 ·rw [if_pos hc] at h;exact absurd rfl h
 rw [if_neg hc]
 refine⟨rfl,fun e he h0=>hc ?_⟩
 rw [List.contains_iff_mem]
 clear h hc
 induction l with
 | nil=>cases he
 | cons x l ih=>
  simp only [Zav,List.mem_cons]
  rcases List.mem_cons.1 he with rfl | he
  ·exact .inl h0.symm
  exact .inr (ih he)
theorem Ze2 {p:Pr} (hck:Zak p=0) {ks:Env Int} (hks:Zas Env.none p.vars=some ks):∀ e∈p.terms,Zad ks e=true∧Zam ks e≠0:=by
 obtain⟨ks',hks',_,hfm,_,_,_,hkg⟩:=Zbs hck
 rw [hks] at hks'
 cases hks'
 intro e he
 obtain⟨i,hi,rfl⟩:=List.mem_iff_getElem.1 he
 refine⟨(Zbk ks _).1 hfm i hi,?_⟩
 rw [(Zep ks _ _).1 hkg i hi]
 by_cases hf:i<p.fl.length
 ·have:=(Zdc _ _ _ hks).2 (p.fl[i].name,p.fl[i].kind) (by
   simp only [Pr.vars,List.mem_append,List.mem_map]
   exact .inr ⟨p.fl[i],List.getElem_mem _,rfl⟩)
  have h2:=fresh_two _ _ _ hks (fun s k h=>by simp [Env.none] at h) _ _ this
  have e:(p.fl.map (·.kind)).getD i 1=p.fl[i].kind:=by simp [List.getD_eq_getElem?_getD,hf]
  rw [e]
  simp only at h2
  omega
 have e:(p.fl.map (·.kind)).getD i 1=1:=by simp [List.getD_eq_getElem?_getD,hf]
 rw [e];decide
theorem form_int {n:Int} {s:ByteArray} {l:List Ex} (h:form (.mk oInt n s l)=true):0≤n∧n≤127:=by
 have:Zcv oInt=some 0:=rfl
 simp only [form,Ex.op,this,Ex.n,Bool.and_eq_true,Bool.or_eq_true,decide_eq_true_eq] at h
 rcases h.1.2 with h | h
 ·have:=of_decide_eq_true h;omega
 have h1:=of_decide_eq_true h.1.2;have h2:=of_decide_eq_true h.2;omega
mutual
def Za7:Ex→List ByteArray
 | .mk o _ s l=>(if o=Zbg then [s] else [])++Zb0 l
def Zb0:List Ex→List ByteArray
 | []=>[]
 | e :: l=>Za7 e++Zb0 l
end
theorem Zb7:∀ {l:List Ex} {e:Ex} {s:ByteArray},e∈l→s∈Za7 e→s∈Zb0 l
 | x :: l,e,s,he,hs=>by
  simp only [Zb0,List.mem_append]
  rcases List.mem_cons.1 he with rfl | he
  ·exact .inl hs
  exact .inr (Zb7 he hs)
theorem Zg4:∀ {l:List Ex} {s:ByteArray},s∈Zb0 l→∃ e∈l,s∈Za7 e
 | x :: l,s,h=>by
  simp only [Zb0,List.mem_append] at h
  rcases h with h | h
  ·exact⟨x,List.mem_cons_self ..,h⟩
  obtain⟨e,he,hs⟩:=Zg4 h
  exact⟨e,List.mem_cons_of_mem _ he,hs⟩
theorem Zcj (ks:Env Int) (l:List Ex):Zck ks l=true↔∀ e∈l,Zad ks e=true:=by
 rw [Zbk]
 constructor
 ·intro h e he
  obtain⟨i,hi,rfl⟩:=List.mem_iff_getElem.1 he
  exact h i hi
 intro h i hi
 exact h _ (List.getElem_mem hi)
theorem form_names {ks ks':Env Int}:∀ e:Ex,Zad ks e=true→(∀ s∈Za7 e,(ks' s).isSome=true)→Zad ks' e=true:=by
 refine Ex.ind fun o n s l ih h hn=>?_
 simp only [Zad,Bool.and_eq_true,Bool.or_eq_true,decide_eq_true_eq] at h ⊢
 refine⟨⟨h.1.1,?_⟩,?_⟩
 ·by_cases ho:o=Zbg
  ·exact .inr (hn s (by simp [Za7,ho]))
  exact .inl ho
 rw [Zcj] at h ⊢
 exact fun e he=>ih e he (h.2 e he) fun t ht=>hn t (by simp only [Za7,List.mem_append];exact .inr (Zb7 he ht))
theorem Zj4 {ks:Env Int}:∀ e:Ex,Zad ks e=true→∀ s∈Za7 e,(ks s).isSome=true:=by
 refine Ex.ind fun o n s l ih h t ht=>?_
 simp only [Zad,Bool.and_eq_true,Bool.or_eq_true,decide_eq_true_eq] at h
 simp only [Za7,List.mem_append] at ht
 rcases ht with ht | ht
 ·split at ht
  ·rename_i ho
   rw [List.mem_singleton.1 ht]
   exact h.1.2.resolve_left (fun h=>h ho)
  cases ht
 obtain⟨e,he,hs⟩:=Zg4 ht
 exact ih e he ((Zcj ks l).1 h.2 e he) t hs
theorem Zg6 {ks ks':Env Int}:∀ e:Ex,(∀ s∈Za7 e,ks' s=ks s)→Zam ks' e=Zam ks e:=by
 refine Ex.ind fun o n s l ih hn=>?_
 have hl:Zav ks' l=Zav ks l:=by
  rw [Zbr,Zbr]
  exact List.map_congr_left fun e he=>ih e he fun t ht=>hn t (by simp only [Za7,List.mem_append];exact .inr (Zb7 he ht))
 simp only [Zam]
 rw [hl]
 by_cases ho:o=Zbg
 ·rw [hn s (by simp [Za7,ho])]
 have:∀ k k',Zci o k (Zav ks l)=Zci o k' (Zav ks l):=fun k k'=>by
  unfold Zci
  simp only [if_neg ho]
 rw [this _ ((ks s).getD 0)]
theorem Zcl (lt:ByteArray→Int):∀ l:List Ex,Zan lt l=l.map (Zac lt)
 | []=>rfl
 | e :: l=>by rw [Zan,Zcl lt l];rfl
theorem Zhm:∀ (l l':List Int) (a a':Int),l.length=l'.length→(∀ i (h:i<l.length) (h':i<l'.length),l[i]≤l'[i])→a≤a'→l.foldl max a≤l'.foldl max a'
 | [],[],a,a',_,_,h=>h
 | x :: l,y :: l',a,a',hl,h,ha=>by
  simp only [List.foldl_cons]
  refine Zhm l l' _ _ (by simpa using hl) (fun i hi hi'=>h (i+1) (by simpa using hi) (by simpa using hi')) ?_
  have:=h 0 (by simp) (by simp)
  simp only [List.getElem_cons_zero] at this
  omega
theorem Zen {lt lt':ByteArray→Int} (hb:∀ s,0≤lt s∧lt s≤2) (hb':∀ s,0≤lt' s∧lt' s≤2):∀ e:Ex,(∀ s∈Za7 e,lt s≤lt' s)→Zac lt e≤Zac lt' e:=by
 refine Ex.ind fun o n s l ih hn=>?_
 have hl:∀ e∈l,Zac lt e≤Zac lt' e:=fun e he=>ih e he fun t ht=>hn t (by simp only [Za7,List.mem_append];exact .inr (Zb7 he ht))
 have hg:∀ k,(Zan lt l).getD k 0≤(Zan lt' l).getD k 0:=fun k=>by
  rw [Zbm,Zbm]
  split
  ·exact hl _ (List.getElem_mem _)
  exact Int.le_refl _
 have h2:∀ k,(Zan lt' l).getD k 0≤2:=fun k=>by
  rw [Zbm]
  split
  ·exact (Zbj lt' hb' _).2
  decide
 simp only [Zac]
 by_cases e1:o=Zbg
 ·rw [if_pos e1,if_pos e1]
  exact hn s (by simp [Za7,e1])
 rw [if_neg e1,if_neg e1]
 by_cases e2:o=oPre
 ·rw [if_pos e2,if_pos e2]
  have:=hg 0
  omega
 rw [if_neg e2,if_neg e2]
 by_cases e3:o=Zbq∨o=oFby
 ·rw [if_pos e3,if_pos e3]
  have g0:=hg 0
  have g1:=hg 1
  have q0:=h2 0
  have q1:=h2 1
  by_cases e4:o=oFby
  ·rw [if_pos e4,if_pos e4]
   generalize (Zan lt l).getD 0 0=a at *
   generalize (Zan lt l).getD 1 0=b at *
   generalize (Zan lt' l).getD 0 0=a' at *
   generalize (Zan lt' l).getD 1 0=b' at *
   split<;>split<;>omega
  rw [if_neg e4,if_neg e4]
  generalize (Zan lt l).getD 0 0=a at *
  generalize (Zan lt l).getD 1 0=b at *
  generalize (Zan lt' l).getD 0 0=a' at *
  generalize (Zan lt' l).getD 1 0=b' at *
  split<;>split<;>omega
 rw [if_neg e3,if_neg e3]
 refine Zhm _ _ 0 0 (by simp [Zcl]) (fun i h h'=>?_) (Int.le_refl _)
 have:=hg i
 simpa [List.getD_eq_getElem?_getD,h,h'] using this
theorem Zhr {lt':ByteArray→Int} (hb':∀ s,0≤lt' s∧lt' s≤2):∀ (l:List Fl) (lt:ByteArray→Int) (b:Bool),(∀ s,0≤lt s∧lt s≤2)→(∀ s,lt s≤lt' s)→(∀ f∈l,Zac lt' f.e≤lt' f.name)→
  (∀ s,0≤(Zar l lt b).1 s∧(Zar l lt b).1 s≤2)∧∀ s,(Zar l lt b).1 s≤lt' s
 | [],lt,b,hb,hle,_=>⟨hb,hle⟩
 | f :: l,lt,b,hb,hle,hf=>by
  rw [Zar]
  split
  ·have hm:=Zen hb hb' f.e fun s _=>hle s
   have hff:=hf f (List.mem_cons_self ..)
   have hlb:=Zbj lt hb f.e
   refine Zhr hb' l _ true (setL_bound hb f.e f.name) (fun s=>?_) fun g hg=>hf g (List.mem_cons_of_mem _ hg)
   unfold setL
   split
   ·rename_i e;rw [e];omega
   exact hle s
  exact Zhr hb' l lt b hb hle fun g hg=>hf g (List.mem_cons_of_mem _ hg)
theorem Zev {lt':ByteArray→Int} (hb':∀ s,0≤lt' s∧lt' s≤2) (l:List Fl) (hf:∀ f∈l,Zac lt' f.e≤lt' f.name):∀ (n:Nat) (lt:ByteArray→Int),(∀ s,0≤lt s∧lt s≤2)→(∀ s,lt s≤lt' s)→∀ s,Zf3 l n lt s≤lt' s
 | 0,lt,_,hle,s=>hle s
 | n+1,lt,hb,hle,s=>by
  obtain⟨g1,g2⟩:=Zhr hb' l lt false hb hle hf
  rw [Zf3]
  split
  ·exact Zev hb' l hf n _ g1 g2 s
  exact g2 s
theorem names_less {p q:Pr} (hsub:∀ f∈q.fl,f∈p.fl) (s:ByteArray):Zaa q s≤Zaa p s:=by
 obtain⟨h1,h2⟩:=Zbc p
 exact Zev h1 q.fl (fun f hf=>h2 f (hsub f hf)) _ _ (fun s=>⟨by simp,by simp⟩) (fun s=>(h1 s).1) s
theorem Zih:∀ {l l':List (ByteArray×Int)},l'.Sublist l→∀ {m m' ks:Env Int},Zas m l=some ks→(∀ s,(m' s).isSome=true→(m s).isSome=true)→∃ ks',Zas m' l'=some ks'
 | _,_,.slnil,m,m',ks,_,_=>⟨m',rfl⟩
 | _,_,.cons x h,m,m',ks,hf,hm=>by
  simp only [Zas] at hf
  split at hf
  ·refine Zih h hf fun s hs=>?_
   by_cases e:s=x.1
   ·rw [e,Env.set_self];rfl
   rw [Env.set_other _ _ e];exact hm s hs
  cases hf
 | _,_,.cons_cons x h,m,m',ks,hf,hm=>by
  simp only [Zas] at hf ⊢
  split at hf
  ·rename_i hc
   have h0:(m' x.1).isNone=true:=by
    cases e:m' x.1 with
    | none=>rfl
    | some k=>
     have:=hm x.1 (by rw [e];rfl)
     have h2:=hc.1
     cases e2:m x.1 with
     | none=>rw [e2] at this;cases this
     | some k=>rw [e2] at h2;cases h2
   rw [if_pos ⟨h0,hc.2⟩]
   refine Zih h hf fun s hs=>?_
   by_cases e:s=x.1
   ·rw [e,Env.set_self];rfl
   rw [Env.set_other _ _ e] at hs ⊢;exact hm s hs
  cases hf
theorem outs_sub {fl fl':List ByteArray}:∀ (l seen:List ByteArray),Zcy fl seen l=true→(∀ s∈l,s∈fl→s∈fl')→Zcy fl' seen l=true
 | [],_,_,_=>rfl
 | x :: l,seen,h,hs=>by
  simp only [Zcy,Bool.and_eq_true,List.contains_eq_mem,decide_eq_true_eq] at h ⊢
  exact⟨⟨hs x (List.mem_cons_self ..) h.1.1,h.1.2⟩,outs_sub l _ h.2 fun s hsl=>hs s (List.mem_cons_of_mem _ hsl)⟩
theorem Ze5:∀ {l l':List Ex},l'.Sublist l→Ex.partsL l'≤Ex.partsL l
 | _,_,.slnil=>Nat.le_refl _
 | _,_,.cons x h=>by have:=Ze5 h;simp only [Ex.partsL];omega
 | _,_,.cons_cons x h=>by have:=Ze5 h;simp only [Ex.partsL];omega
theorem Zd0 (ks:Env Int):∀ (fl:List Fl) (r:List Ex),Zda ks (fl.map (·.kind)) (fl.map (·.e)++r)=true↔(∀ f∈fl,Zam ks f.e=f.kind)∧∀ e∈r,Zam ks e=1
 | [],r=>by
  have:∀ r:List Ex,Zda ks [] r=true↔∀ e∈r,Zam ks e=1:=by
   intro r
   induction r with
   | nil=>simp [Zda]
   | cons e r ih=>simp only [Zda,Bool.and_eq_true,decide_eq_true_eq,List.mem_cons,forall_eq_or_imp];rw [ih]
  simpa using this r
 | f :: fl,r=>by
  simp only [List.map_cons,List.cons_append,Zda,Bool.and_eq_true,decide_eq_true_eq,List.mem_cons,forall_eq_or_imp]
  rw [Zd0 ks fl r,and_assoc]
structure Keeps (p q:Pr):Prop where
 ins:q.ins=p.ins
 outs:q.outs=p.outs
 asr:q.as=p.as
 chk:q.cs=p.cs
 sub:q.fl.Sublist p.fl
 root:∀ s∈p.outs,s∈p.fl.map (·.name)→s∈q.fl.map (·.name)
 term:∀ e∈q.terms,∀ s∈Za7 e,s∈p.fl.map (·.name)→s∈q.fl.map (·.name)
theorem Keeps.terms {p q:Pr} (h:Keeps p q):q.terms.Sublist p.terms:=by
 unfold Pr.terms
 rw [h.asr,h.chk]
 exact ((h.sub.map _).append (List.Sublist.refl _)).append (List.Sublist.refl _)
theorem Keeps.vars {p q:Pr} (h:Keeps p q):q.vars.Sublist p.vars:=by
 unfold Pr.vars
 rw [h.ins]
 exact (List.Sublist.refl _).append (h.sub.map _)
theorem keep_check {p q:Pr} (h:Keeps p q) (hck:Zak p=0):Zak q=0:=by
 obtain⟨ks,hks,ho,hf,b1,b2,b3,hk⟩:=Zbs hck
 obtain⟨ks',hks'⟩:=Zih h.vars hks (m':=Env.none) fun s hs=>by simp [Env.none] at hs
 have g:=(Zdc _ _ _ hks).2
 have g':=(Zdc _ _ _ hks').2
 rw [Zcj] at hf
 have hin:∀ e∈q.terms,∀ s∈Za7 e,∃ k,(s,k)∈q.vars:=fun e he s hs=>by
  have h1:=Zj4 e (hf e (h.terms.subset he)) s hs
  rcases Zeh _ _ _ hks h1 with h2 | h2
  ·simp [Env.none] at h2
  have h3:s∈q.vars.map (·.1):=by
   simp only [Pr.vars,List.map_append,List.map_map,List.mem_append] at h2 ⊢
   rcases h2 with h2 | h2
   ·left
    rw [h.ins]
    exact h2
   right
   exact h.term e he s hs h2
  obtain⟨x,hx,rfl⟩:=List.mem_map.1 h3
  exact⟨x.2,hx⟩
 have hsame:∀ e∈q.terms,∀ s∈Za7 e,ks' s=ks s:=fun e he s hs=>by
  obtain⟨k,hk⟩:=hin e he s hs
  rw [g' _ hk,g _ (h.vars.subset hk)]
 unfold Pr.terms at hk
 rw [List.append_assoc,Zd0] at hk
 refine check_ok hks' ?_ ?_ ?_ ?_
 ·rw [h.outs]
  exact outs_sub _ _ ho h.root
 ·rw [Zcj]
  exact fun e he=>form_names e (hf e (h.terms.subset he)) fun s hs=>by
   obtain⟨k,hk⟩:=hin e he s hs
   rw [g' _ hk];rfl
 ·have c1:=h.sub.length_le
  have c2:=Ze5 h.terms
  rw [h.ins]
  omega
 unfold Pr.terms
 rw [List.append_assoc,Zd0,h.asr,h.chk]
 refine⟨fun f hf'=>?_,fun e he=>?_⟩
 ·rw [Zg6 f.e fun s hs=>hsame f.e (Zcg q hf') s hs]
  exact hk.1 f (h.sub.subset hf')
 rw [Zg6 e fun s hs=>hsame e (by unfold Pr.terms;rw [h.asr,h.chk,List.append_assoc];exact List.mem_append_right _ he) s hs]
 exact hk.2 e he
theorem needs_map {at_ at':Env Nat} {φ:Nat→Nat}:∀ e:Ex,(∀ s∈Za7 e,∀ k,at' s=some k→at_ s=some (φ k))→∀ k∈needs at' e,φ k∈needs at_ e:=by
 refine Ex.ind fun o n s l ih h k hk=>?_
 simp only [needs] at hk ⊢
 have hsub:∀ e∈l,∀ t∈Za7 e,∀ k,at' t=some k→at_ t=some (φ k):=fun e he t ht=>h t (by simp only [Za7,List.mem_append];exact .inr (Zb7 he ht))
 have hL:∀ l':List Ex,(∀ e∈l',e∈l)→k∈Zco at' l'→φ k∈Zco at_ l':=by
  intro l'
  induction l' with
  | nil=>intro _ h;simp [Zco] at h
  | cons e l' ihl=>
   intro hs h
   simp only [Zco,List.mem_append] at h ⊢
   rcases h with h | h
   ·exact .inl (ih e (hs e (List.mem_cons_self ..)) (hsub e (hs e (List.mem_cons_self ..))) k h)
   exact .inr (ihl (fun e he=>hs e (List.mem_cons_of_mem _ he)) h)
 split
 ·rename_i e1
  rw [if_pos e1] at hk
  cases hk
 rename_i e1
 rw [if_neg e1] at hk
 split
 ·rename_i e2
  rw [if_pos e2] at hk
  cases l with
  | nil=>simp [Zf2] at hk
  | cons e l=>
   simp only [Zf2] at hk ⊢
   exact ih e (List.mem_cons_self ..) (hsub e (List.mem_cons_self ..)) k hk
 rename_i e2
 rw [if_neg e2] at hk
 simp only [List.mem_append] at hk ⊢
 rcases hk with hk | hk
 ·left
  split
  ·rename_i e3
   rw [if_pos e3] at hk
   have:=h s (by simp [Za7,e3]) k (by simpa using hk)
   rw [this]
   simp
  rename_i e3
  rw [if_neg e3] at hk
  cases hk
 exact .inr (hL l (fun _ h=>h) hk)
theorem at_in:∀ (l:List Fl) (i:Nat) (m:Env Nat) (s:ByteArray) (k:Nat),Zcs i m l s=some k→m s=some k∨∃ j,∃ h:j<l.length,l[j].name=s∧k=i+j
 | [],i,m,s,k,h => .inl h
 | f :: l,i,m,s,k,h=>by
  rw [Zcs] at h
  rcases at_in l (i+1) _ s k h with h1 | ⟨j,hj,e1,e2⟩
  ·by_cases e:s=f.name
   ·rw [e,Env.set_self] at h1
    cases h1
    exact .inr ⟨0,by simp,by simp [e],rfl⟩
   rw [Env.set_other _ _ e] at h1;exact .inl h1
  exact .inr ⟨j+1,by simpa using hj,by simpa using e1,by omega⟩
theorem keep_order {p q:Pr} (h:Keeps p q) {l:List Nat} (ho:Zbu p = .ok l):∃ l',Zbu q = .ok l':=by
 obtain⟨hck,_,_⟩:=Zbe ho
 have hcq:=keep_check h hck
 have hnp:=Zct hck
 have hnq:=Zct hcq
 -- where a kept flow stood
 have hex:∀ k,∃ j,k<q.fl.length→∃ h1:k<q.fl.length,∃ h2:j<p.fl.length,p.fl[j]=q.fl[k]:=fun k=>by
  by_cases hk:k<q.fl.length
  ·obtain⟨j,hj,e⟩:=List.mem_iff_getElem.1 (h.sub.subset (List.getElem_mem hk))
   exact⟨j,fun _=>⟨hk,hj,e⟩⟩
  exact⟨0,fun h=>absurd h hk⟩
 obtain⟨φ,hφ⟩:=Classical.axiomOfChoice hex
 have hat:∀ s k,q.atOf s=some k→p.atOf s=some (φ k):=fun s k hs=>by
  rcases at_in _ _ _ _ _ hs with h1 | ⟨j,hj,e1,e2⟩
  ·simp [Env.none] at h1
  have e3:k=j:=by omega
  subst e3
  obtain⟨_,h2,e4⟩:=hφ k hj
  have:=at_get p.fl 0 Env.none hnp (φ k) h2
  rw [e4,e1] at this
  unfold Pr.atOf
  rw [this]
  simp
 have hedge:∀ a b,edge q.graph a b→edge p.graph (φ a) (φ b)∧b<q.graph.length:=fun a b he=>by
  unfold edge at he ⊢
  by_cases ha:a<q.fl.length
  ·obtain⟨_,h2,e4⟩:=hφ a ha
   have e1:q.graph.getD a []=needs q.atOf q.fl[a].e:=by simp [Pr.graph,List.getD_eq_getElem?_getD,ha]
   have e2:p.graph.getD (φ a) []=needs p.atOf q.fl[a].e:=by simp [Pr.graph,List.getD_eq_getElem?_getD,h2,e4]
   rw [e1] at he
   rw [e2]
   exact⟨needs_map _ (fun s _ k hk=>hat s k hk) b he,graph_low q _ (by simp only [Pr.graph,List.mem_map];exact⟨q.fl[a],List.getElem_mem ha,rfl⟩) b he⟩
  simp [Pr.graph,List.getD_eq_getElem?_getD,ha] at he
 have hpath:∀ a b,Path q.graph a b→Path p.graph (φ a) (φ b):=fun a b hp=>by
  induction hp with
  | one e=>exact .one (hedge _ _ e).1
  | snoc _ e ih=>exact .snoc ih (hedge _ _ e).1
 unfold Zbu at ho ⊢
 rw [if_neg (by simp [hck])] at ho
 rw [if_neg (by simp [hcq])]
 split at ho
 ·cases ho
 rename_i hno
 rw [show (List.range q.graph.length).find? (cyc q.graph)=none from List.find?_eq_none.2 fun i hi hc=>by
  have hil:i<q.fl.length:=by rw [← Zfb q];simpa using hi
  obtain⟨_,h2,_⟩:=hφ i hil
  have h3:=(cyc_iff p.graph (φ i)).2 (hpath _ _ ((cyc_iff q.graph i).1 (by simpa using hc)))
  have:=List.find?_eq_none.1 hno (φ i) (by rw [Zfb];simpa using h2)
  exact this (by simpa using h3)]
 exact⟨_,rfl⟩
theorem keep_right {p q:Pr} (h:Keeps p q) (hc:(Za0 p).1=0):(Za0 q).1=0:=by
 obtain⟨l,ho,hh,hl⟩:=Zbx hc
 obtain⟨l',ho'⟩:=keep_order h ho
 have hless:=names_less (p:=p) (q:=q) fun f hf=>h.sub.subset hf
 have hq:Zeo q = .ok (q.fl.map fun f=>Zaa q f.name):=by unfold Zeo;rw [ho']
 have hb:=(Zbc q).1
 have hbp:=(Zbc p).1
 have hno:∀ j (hj:j<q.fl.length),hit q q.fl[j].name=false:=fun j hj=>by
  obtain⟨i,hi,e⟩:=List.mem_iff_getElem.1 (h.sub.subset (List.getElem_mem hj))
  have h1:=hh i hi
  rw [e] at h1
  have h2:=hless q.fl[j].name
  have b1:=hb q.fl[j].name
  have b2:=hbp q.fl[j].name
  generalize q.fl[j].name=n at *
  have p2:Zaa p n≠2:=fun e=>by unfold hit at h1;rw [e] at h1;simp at h1
  have p1:Zaa p n=1→n∉p.outs:=fun e=>by unfold hit at h1;rw [e] at h1;simpa using h1
  unfold hit
  rw [h.outs]
  by_cases e1:Zaa q n=1
  ·rw [e1]
   simp [p1 (by omega)]
  have e2:Zaa q n≠2:=by omega
  simp [e1,e2]
 rw [Zha hq hno,if_neg]
 intro hany
 obtain⟨e,he,hp⟩:=List.any_eq_true.1 hany
 rw [h.asr,h.chk] at he
 have h1:=hl e he
 have h2:=Zen hb hbp e fun s _=>hless s
 have:0<Zac (Zaa q) e:=by simpa using hp
 omega
end Go.Proofs.YtofameafdnkijaaGreatDoor
