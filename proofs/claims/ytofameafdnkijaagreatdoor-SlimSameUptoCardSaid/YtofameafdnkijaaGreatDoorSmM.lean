/- Plain: slim.Same: flows that are the same become one; what is left is a flat program as it must be: no program in sight. -/
import Derived.Test.YtofameafdnkijaaGreatDoorDrM
import Derived.Test.YtofameafdnkijaaGreatDoorRg
import Derived.Test.YtofameafdnkijaaGreatDoorGraph
import Derived.Test.YtofameafdnkijaaGreatDoorFormA
import Derived.Lib.SliceRun
set_option linter.all false
namespace Go.Proofs.YtofameafdnkijaaGreatDoor
set_option maxRecDepth 100000
set_option maxHeartbeats 16000000
open Mx
theorem check_of {p q:Pr} (hck:Zak p=0) {ks:Env Int} (hks:Zas Env.none p.vars=some ks) (h1:q.ins=p.ins) (h2:q.outs=p.outs) (h3:(q.fl.map fun f=>(f.name,f.kind)).Sublist (p.fl.map fun f=>(f.name,f.kind)))
  (h4:∀ s∈p.outs,s∈p.fl.map (·.name)→s∈q.fl.map (·.name)) (h5:∀ e∈q.terms,Zad ks e=true∧∀ s∈Za7 e,s∈p.fl.map (·.name)→s∈q.fl.map (·.name))
  (h6:∀ f∈q.fl,Zam ks f.e=f.kind) (h7:∀ e∈q.as++q.cs,Zam ks e=1) (h8:Ex.partsL q.terms≤Ex.partsL p.terms):Zak q=0:=by
 obtain⟨ks0,hks0,ho,_,b1,b2,b3,_⟩:=Zbs hck
 rw [hks] at hks0
 cases hks0
 have hv:q.vars.Sublist p.vars:=by
  unfold Pr.vars
  rw [h1]
  exact (List.Sublist.refl _).append h3
 obtain⟨ks',hks'⟩:=Zih hv hks (m':=Env.none) fun s hs=>by simp [Env.none] at hs
 have g:=(Zdc _ _ _ hks).2
 have g':=(Zdc _ _ _ hks').2
 have hin:∀ e∈q.terms,∀ s∈Za7 e,∃ k,(s,k)∈q.vars:=fun e he s hs=>by
  obtain⟨hf,hn⟩:=h5 e he
  have h1':=Zj4 e hf s hs
  rcases Zeh _ _ _ hks h1' with h2 | h2
  ·simp [Env.none] at h2
  have h3:s∈q.vars.map (·.1):=by
   simp only [Pr.vars,List.map_append,List.map_map,List.mem_append] at h2 ⊢
   rcases h2 with h2 | h2
   ·left
    rw [h1]
    exact h2
   right
   exact hn s hs h2
  obtain⟨x,hx,rfl⟩:=List.mem_map.1 h3
  exact⟨x.2,hx⟩
 have hsame:∀ e∈q.terms,∀ s∈Za7 e,ks' s=ks s:=fun e he s hs=>by
  obtain⟨k,hk⟩:=hin e he s hs
  rw [g' _ hk,g _ (hv.subset hk)]
 refine check_ok hks' ?_ ?_ ?_ ?_
 ·rw [h2]
  exact outs_sub _ _ ho h4
 ·rw [Zcj]
  exact fun e he=>form_names e (h5 e he).1 fun s hs=>by
   obtain⟨k,hk⟩:=hin e he s hs
   rw [g' _ hk];rfl
 ·have c1:=h3.length_le
  rw [h1]
  simp only [List.length_map] at c1
  omega
 unfold Pr.terms
 rw [List.append_assoc,Zd0]
 refine⟨fun f hf'=>?_,fun e he=>?_⟩
 ·rw [Zg6 f.e fun s hs=>hsame f.e (Zcg q hf') s hs]
  exact h6 f hf'
 rw [Zg6 e fun s hs=>hsame e (by unfold Pr.terms;rw [List.append_assoc];exact List.mem_append_right _ he) s hs]
 exact h7 e he
mutual
def renE (ot:Env ByteArray):Ex→Ex
 | .mk o n s l => .mk o n (if o=Zbg then (ot s).getD s else s) (renL ot l)
def renL (ot:Env ByteArray):List Ex→List Ex
 | []=>[]
 | e :: l=>renE ot e :: renL ot l
end
theorem Zbv (ot:Env ByteArray):∀ l:List Ex,renL ot l=l.map (renE ot)
 | []=>rfl
 | e :: l=>by rw [renL,Zbv ot l];rfl
theorem ren_parts (ot:Env ByteArray):∀ e:Ex,(renE ot e).parts=e.parts:=by
 refine Ex.ind fun o n s l ih=>?_
 simp only [renE,Ex.parts]
 congr 1
 have:∀ l':List Ex,(∀ e∈l',e∈l)→Ex.partsL (renL ot l')=Ex.partsL l':=by
  intro l'
  induction l' with
  | nil=>intro _;rfl
  | cons e l' ihl=>
   intro hs
   simp only [renL,Ex.partsL]
   rw [ih e (hs e (List.mem_cons_self ..)),ihl fun e he=>hs e (List.mem_cons_of_mem _ he)]
 exact this l fun _ h=>h
theorem Zgv (ot:Env ByteArray):∀ l:List Ex,Ex.partsL (l.map (renE ot))=Ex.partsL l
 | []=>rfl
 | e :: l=>by simp only [List.map_cons,Ex.partsL];rw [ren_parts,Zgv ot l]
theorem ren_names (ot:Env ByteArray):∀ e:Ex,∀ t∈Za7 (renE ot e),∃ s∈Za7 e,t=(ot s).getD s:=by
 refine Ex.ind fun o n s l ih t ht=>?_
 simp only [renE,Za7,List.mem_append] at ht ⊢
 rcases ht with ht | ht
 ·split at ht
  ·rename_i ho
   rw [List.mem_singleton.1 ht]
   exact⟨s,.inl (by simp [ho]),rfl⟩
  cases ht
 rw [Zbv] at ht
 obtain⟨e',he',hs⟩:=Zg4 ht
 obtain⟨e,he,rfl⟩:=List.mem_map.1 he'
 obtain⟨u,hu,h⟩:=ih e he t hs
 exact⟨u,.inr (Zb7 he hu),h⟩
def KindTo (ks:Env Int) (ot:Env ByteArray):Prop:=∀ s t,ot s=some t→ks t=ks s
theorem ren_kind {ks:Env Int} {ot:Env ByteArray} (h:KindTo ks ot):∀ e:Ex,Zam ks (renE ot e)=Zam ks e:=by
 refine Ex.ind fun o n s l ih=>?_
 have hl:Zav ks (renL ot l)=Zav ks l:=by
  rw [Zbv,Zbr,Zbr,List.map_map]
  exact List.map_congr_left fun e he=>ih e he
 simp only [renE,Zam]
 rw [hl]
 by_cases ho:o=Zbg
 ·rw [if_pos ho]
  cases e:ot s with
  | none=>rfl
  | some t=>rw [Option.getD_some,h s t e]
 rw [if_neg ho]
theorem ren_form {ks:Env Int} {ot:Env ByteArray} (h:KindTo ks ot):∀ e:Ex,Zad ks e=true→Zad ks (renE ot e)=true:=by
 refine Ex.ind fun o n s l ih hf=>?_
 simp only [renE,Zad,Bool.and_eq_true,Bool.or_eq_true,decide_eq_true_eq] at hf ⊢
 have hlen:(renL ot l).length=l.length:=by rw [Zbv,List.length_map]
 refine⟨⟨⟨?_,hf.1.1.2⟩,?_⟩,?_⟩
 ·have h1:=hf.1.1.1
  unfold form at h1 ⊢
  simp only [Ex.op,Ex.n,Ex.s,Ex.l] at h1 ⊢
  cases ha:Zcv o with
  | none=>rw [ha] at h1;cases h1
  | some k=>
   rw [ha] at h1
   simp only [Bool.and_eq_true,Bool.or_eq_true,decide_eq_true_eq] at h1 ⊢
   refine⟨⟨?_,h1.1.2⟩,?_⟩
   ·rcases h1.1.1 with h2 | h2
    ·exact .inl h2
    right
    have h3:k=((l.length:Nat):Int):=of_decide_eq_true h2
    exact decide_eq_true (by show k=(((renL ot l).length:Nat):Int);rw [hlen];exact h3)
   by_cases ho:o=Zbg
   ·exact .inl (.inr (decide_eq_true ho))
   rw [if_neg ho];exact h1.2
 ·rcases hf.1.2 with h1 | h1
  ·exact .inl h1
  by_cases ho:o=Zbg
  ·right
   rw [if_pos ho]
   cases e:ot s with
   | none=>exact h1
   | some t=>rw [Option.getD_some,h s t e];exact h1
  exact .inl ho
 rw [Zcj] at hf ⊢
 intro e he
 rw [Zbv] at he
 obtain⟨e',he',rfl⟩:=List.mem_map.1 he
 exact ih e' he' (hf.2 e' he')
mutual
def Zcf:Ex→Ex→Bool
 | .mk o n s l,.mk o' n' s' l'=>decide (o=o')&&decide (n=n')&&decide (s=s')&&Zgo l l'
def Zgo:List Ex→List Ex→Bool
 | [],[]=>true
 | a :: l,b :: l'=>Zcf a b&&Zgo l l'
 | [],_ :: _=>false
 | _ :: _,[]=>false
end
mutual
theorem alike_eq:∀ a b:Ex,Zcf a b=true→a=b
 | .mk o n s l,.mk o' n' s' l',h=>by
  simp only [Zcf,Bool.and_eq_true,decide_eq_true_eq] at h
  rw [h.1.1.1,h.1.1.2,h.1.2,alikeL_eq l l' h.2]
theorem alikeL_eq:∀ a b:List Ex,Zgo a b=true→a=b
 | [],[],_=>rfl
 | a :: l,b :: l',h=>by
  simp only [Zgo,Bool.and_eq_true] at h
  rw [alike_eq a b h.1,alikeL_eq l l' h.2]
 | [],_ :: _,h=>by simp [Zgo] at h
 | _ :: _,[],h=>by simp [Zgo] at h
end
def renF (ot:Env ByteArray) (f:Fl):Fl:={ f with e:=renE ot f.e }
def sameGo (outs:List ByteArray):List Fl→Env ByteArray→List Fl→Env ByteArray×List Fl
 | [],ot,kept=>(ot,kept)
 | f :: r,ot,kept=>
  match (kept.map (renF ot)).find? (fun g=>Zcf (renE ot f.e) g.e) with
  | some g=>if Zax (renE ot f.e)=false∧f.name∉outs then sameGo outs r (ot.set f.name g.name) (kept.map (renF ot)) else sameGo outs r ot (kept.map (renF ot)++[renF ot f])
  | none=>sameGo outs r ot (kept.map (renF ot)++[renF ot f])
def Zdb (p:Pr):Pr:=
 let x:=sameGo p.outs p.fl Env.none []
 ⟨p.ins,p.outs,x.2.map (renF x.1),p.as.map (renE x.1),p.cs.map (renE x.1)⟩
structure SmI (ks:Env Int) (outs:List ByteArray) (done:List Fl) (ot:Env ByteArray) (kept:List Fl):Prop where
 sub:(kept.map fun f=>(f.name,f.kind)).Sublist (done.map fun f=>(f.name,f.kind))
 outs_:∀ s∈outs,s∈done.map (·.name)→s∈kept.map (·.name)
 goes:∀ s t,ot s=some t→t∈kept.map (·.name)∧s∉kept.map (·.name)∧s∈done.map (·.name)
 all:∀ s∈done.map (·.name),s∈kept.map (·.name)∨(ot s).isSome=true
 kind:KindTo ks ot
 term:∀ f∈kept,Zad ks f.e=true∧Zam ks f.e=f.kind
 parts:Ex.partsL (kept.map (·.e))≤Ex.partsL (done.map (·.e))
theorem renF_names (ot:Env ByteArray) (l:List Fl):(l.map (renF ot)).map (·.name)=l.map (·.name):=by rw [List.map_map];rfl
def renS (ot:Env ByteArray) (s:ByteArray):ByteArray:=(ot s).getD s
def rnS (ot:Env ByteArray) (o s:ByteArray):ByteArray:=if o=Zbg then renS ot s else s
def Idem (ot:Env ByteArray):Prop:=∀ s t,ot s=some t→ot t=none
theorem renS_idem {ot:Env ByteArray} (h:Idem ot) (s:ByteArray):renS ot (renS ot s)=renS ot s:=by
 unfold renS
 cases e:ot s with
 | none=>simp only [Option.getD_none,e]
 | some t=>simp only [Option.getD_some,h s t e,Option.getD_none]
theorem Zfk {ot:Env ByteArray} (h:Idem ot) (o s:ByteArray):rnS ot o (rnS ot o s)=rnS ot o s:=by
 unfold rnS
 split
 ·exact renS_idem h s
 rfl
def Zdi (ks:Env ByteArray) (o s s':ByteArray):Prop:=rnS ks o s'=rnS ks o s
theorem Zdi.refl (ks:Env ByteArray) (o s:ByteArray):Zdi ks o s s:=rfl
theorem Zdi.rn {ks:Env ByteArray} (h:Idem ks) {o s s':ByteArray} (hg:Zdi ks o s s'):Zdi ks o s (rnS ks o s'):=(Zfk h o s').trans hg
theorem Zdi.other {ks:Env ByteArray} {o s s':ByteArray} (hg:Zdi ks o s s') (ho:o≠Zbg):s'=s:=by
 unfold Zdi rnS at hg
 rw [if_neg ho,if_neg ho] at hg
 exact hg
theorem Zdi.set {ks:Env ByteArray} {f g:ByteArray} (hf:ks f=none) (hr:∀ s t,ks s=some t→t≠f) {o s s':ByteArray} (hg:Zdi ks o s s'):Zdi (ks.set f g) o s s':=by
 by_cases ho:o=Zbg
 ·have key:∀ x y:ByteArray,renS ks x=renS ks y→x=f→y=f:=fun x y e hx=>by
   subst hx
   unfold renS at e
   rw [hf,Option.getD_none] at e
   cases hy:ks y with
   | none=>rw [hy,Option.getD_none] at e;exact e.symm
   | some t=>rw [hy,Option.getD_some] at e;exact absurd e.symm (hr y t hy)
  unfold Zdi rnS at hg ⊢
  rw [if_pos ho] at hg ⊢
  rw [if_pos ho] at hg ⊢
  by_cases h1:s=f
  ·rw [h1,key s s' hg.symm h1]
  have h2:s'≠f:=fun e=>h1 (key s' s hg e)
  unfold renS at hg ⊢
  rw [Env.set_other _ _ h1,Env.set_other _ _ h2]
  exact hg
 have:=hg.other ho
 subst this
 rfl
theorem renE_comp {a b:Env ByteArray} (h:∀ o s,rnS a o (rnS b o s)=rnS a o s):∀ e:Ex,renE a (renE b e)=renE a e:=by
 refine Ex.ind fun o n s l ih=>?_
 have hs:=h o s
 unfold rnS renS at hs
 simp only [renE]
 rw [Zbv,Zbv,Zbv,List.map_map]
 congr 1
 exact List.map_congr_left fun e he=>ih e he
def Zcd (outs:List ByteArray):List Fl→Env ByteArray→List Fl→Env ByteArray×List Fl
 | [],ot,ko=>(ot,ko)
 | f :: r,ot,ko=>
  match ko.find? (fun g=>Zcf (renE ot f.e) (renE ot g.e)) with
  | some g=>if Zax (renE ot f.e)=false∧f.name∉outs then Zcd outs r (ot.set f.name g.name) ko else Zcd outs r ot (ko++[f])
  | none=>Zcd outs r ot (ko++[f])
structure SgI (ot:Env ByteArray) (r ko:List Fl):Prop where
 idem:Idem ot
 nod:(r.map (·.name)).Nodup
 out_:∀ f∈r,ot f.name=none∧f.name∉ko.map (·.name)
 into:∀ s t,ot s=some t→t∈ko.map (·.name)
 kept:∀ g∈ko,ot g.name=none
 kn:(ko.map (·.name)).Nodup
theorem SgI.fresh {ot:Env ByteArray} {f:Fl} {r ko:List Fl} (h:SgI ot (f :: r) ko):ot f.name=none∧∀ s t,ot s=some t→t≠f.name:=
 ⟨(h.out_ f (List.mem_cons_self ..)).1,fun s t e e2=>(h.out_ f (List.mem_cons_self ..)).2 (e2▸h.into s t e)⟩
theorem SgI.keep {ot:Env ByteArray} {f:Fl} {r ko:List Fl} (h:SgI ot (f :: r) ko):SgI ot r (ko++[f]):=by
 have hn:=h.nod
 rw [List.map_cons,List.nodup_cons] at hn
 refine⟨h.idem,hn.2,fun x hx=>⟨(h.out_ x (List.mem_cons_of_mem _ hx)).1,fun hm=>?_⟩,fun s t e=>?_,fun g hg=>?_,?_⟩
 ·rw [List.map_append] at hm
  rcases List.mem_append.1 hm with hm | hm
  ·exact (h.out_ x (List.mem_cons_of_mem _ hx)).2 hm
  have:x.name=f.name:=by simpa using hm
  exact hn.1 (this▸List.mem_map.2 ⟨x,hx,rfl⟩)
 ·rw [List.map_append]
  exact List.mem_append_left _ (h.into s t e)
 ·rcases List.mem_append.1 hg with hg | hg
  ·exact h.kept g hg
  rw [List.mem_singleton.1 hg]
  exact (h.out_ f (List.mem_cons_self ..)).1
 rw [List.map_append,List.nodup_append]
 refine⟨h.kn,by simp,fun a ha b hb e=>?_⟩
 have hb2:b=f.name:=by simpa using hb
 exact (h.out_ f (List.mem_cons_self ..)).2 (hb2▸e▸ha)
theorem SgI.set {ot:Env ByteArray} {f g:Fl} {r ko:List Fl} (h:SgI ot (f :: r) ko) (hg:g∈ko):SgI (ot.set f.name g.name) r ko:=by
 have hn:=h.nod
 rw [List.map_cons,List.nodup_cons] at hn
 obtain⟨hf1,hf2⟩:=h.out_ f (List.mem_cons_self ..)
 have hgf:∀ x∈ko,x.name≠f.name:=fun x hx e=>hf2 (e▸List.mem_map.2 ⟨x,hx,rfl⟩)
 have hk:∀ x∈ko,(ot.set f.name g.name) x.name=none:=fun x hx=>by rw [Env.set_other _ _ (hgf x hx)];exact h.kept x hx
 have hm:∀ t∈ko.map (·.name),(ot.set f.name g.name) t=none:=fun t ht=>by
  obtain⟨x,hx,rfl⟩:=List.mem_map.1 ht
  exact hk x hx
 have hin:∀ s t,(ot.set f.name g.name) s=some t→t∈ko.map (·.name):=fun s t e=>by
  by_cases hs:s=f.name
  ·rw [hs,Env.set_self] at e
   cases e
   exact List.mem_map.2 ⟨g,hg,rfl⟩
  rw [Env.set_other _ _ hs] at e
  exact h.into s t e
 refine⟨fun s t e=>hm t (hin s t e),hn.2,fun x hx=>⟨?_,(h.out_ x (List.mem_cons_of_mem _ hx)).2⟩,hin,hk,h.kn⟩
 have hxf:x.name≠f.name:=fun e=>hn.1 (e▸List.mem_map.2 ⟨x,hx,rfl⟩)
 rw [Env.set_other _ _ hxf]
 exact (h.out_ x (List.mem_cons_of_mem _ hx)).1
theorem renF_comp {a b:Env ByteArray} (h:∀ o s,rnS a o (rnS b o s)=rnS a o s) (l:List Fl):(l.map (renF b)).map (renF a)=l.map (renF a):=by
 rw [List.map_map]
 refine List.map_congr_left fun f _=>?_
 show (⟨f.name,f.kind,renE a (renE b f.e)⟩:Fl)=⟨f.name,f.kind,renE a f.e⟩
 rw [renE_comp h]
theorem same_go2 {outs:List ByteArray}:∀ (r:List Fl) (ot:Env ByteArray) (kept ko:List Fl),kept.map (renF ot)=ko.map (renF ot)→SgI ot r ko→
  (sameGo outs r ot kept).1=(Zcd outs r ot ko).1∧(sameGo outs r ot kept).2.map (renF (Zcd outs r ot ko).1)=(Zcd outs r ot ko).2.map (renF (Zcd outs r ot ko).1)∧SgI (Zcd outs r ot ko).1 [] (Zcd outs r ot ko).2
 | [],ot,kept,ko,h,hI=>⟨rfl,h,hI⟩
 | f :: r,ot,kept,ko,h,hI=>by
  have keep:=same_go2 (outs:=outs) r ot (kept.map (renF ot)++[renF ot f]) (ko++[f]) (by
   rw [h,List.map_append,List.map_append,renF_comp (Zfk hI.idem)]
   congr 1
   exact renF_comp (Zfk hI.idem) [f]) hI.keep
  rw [sameGo,Zcd,h,List.find?_map]
  have hp:((fun g:Fl=>Zcf (renE ot f.e) g.e) ∘ renF ot)=fun g=>Zcf (renE ot f.e) (renE ot g.e):=rfl
  rw [hp]
  rw [h] at keep
  cases hg:ko.find? (fun g=>Zcf (renE ot f.e) (renE ot g.e)) with
  | none=>exact keep
  | some g=>
   dsimp only [Option.map]
   by_cases hc:Zax (renE ot f.e)=false∧f.name∉outs
   ·rw [if_pos hc,if_pos hc]
    obtain⟨h1,h2⟩:=hI.fresh
    refine same_go2 (outs:=outs) r (ot.set f.name g.name) _ ko ?_ (hI.set (List.mem_of_find?_eq_some hg))
    exact renF_comp (fun o s=>Zdi.set (g:=g.name) h1 h2 (Zfk hI.idem o s)) ko
   rw [if_neg hc,if_neg hc]
   exact keep
theorem same_is2 {p:Pr} (hn:(p.fl.map (·.name)).Nodup):Zdb p=⟨p.ins,p.outs,(Zcd p.outs p.fl Env.none []).2.map (renF (Zcd p.outs p.fl Env.none []).1),p.as.map (renE (Zcd p.outs p.fl Env.none []).1),p.cs.map (renE (Zcd p.outs p.fl Env.none []).1)⟩∧SgI (Zcd p.outs p.fl Env.none []).1 [] (Zcd p.outs p.fl Env.none []).2:=by
 obtain⟨h1,h2,h3⟩:=same_go2 (outs:=p.outs) p.fl Env.none [] [] rfl ⟨fun s t e=>by simp [Env.none] at e,hn,fun _ _=>⟨rfl,by simp⟩,fun s t e=>by simp [Env.none] at e,(fun g hg=>by cases hg),(by simp)⟩
 refine⟨?_,h3⟩
 unfold Zdb
 dsimp only
 rw [h1,h2]
open Go.RowKit Mx
theorem mSlE1 {p:Prop} (h:p:=by
 go_wp2_with (at_builtin;refine Zi9 23 9 1 16 _ Tryz.underlying23 Tryz.infoStr1 rfl (by decide) _ _ rfl rfl base _ _ _ rfl HR.out ⟨w.heap.size,0,none⟩ 1 [.string s] rfl rfl ?c1 ?c2 ?c3 ?c4 ?c5 ?_)
 case c1=>exact cells1 _ _ _
 case c2=>simp [Value.oneCell']
 case c3=>omega
 case c4=>omega
 case c5=>simp;omega
 intro g cap' w3 ho hg hat
 have hne:(Value.slice av acc.length cv).ownBlock≠some T:=Zem HR.out H1.out (by decide)
 have h3:=(hg.block T (by simp;omega) (Ne.symm hne)).trans H1.out
 have f3:w3.frozen? ⟨T,0,none⟩=false:=by simp [World.frozen?,h3]
 have d3:w3.cell? ⟨T,0,none⟩=some (.slice av acc.length cv):=by simp [World.cell?,h3]
 have HW:=Zhd (((HB.out.trans (hba.mono (by omega))).grown hg (by simp;omega) (fun q hq=>(HR.out.lt q hq).1)).setCell (p:=⟨T,0,none⟩) (by show base≤T;omega) (.slice (some ⟨g,0,none⟩) (acc.length+1) cap'))
 have HT:=Zhd (Zab w3 T 0 (.slice (some ⟨g,0,none⟩) (acc.length+1) cap') _ _ _ h3)
 have hgt:(Value.slice (some ⟨g,0,none⟩) (acc.length+1) cap').ownBlock≠some T:=Zem ho h3 (by decide)
 have HO:=Zhd (Zaq ho (a:=⟨T,0,none⟩) hgt (.slice (some ⟨g,0,none⟩) (acc.length+1) cap'))
 have HF:=Zhd (show FrE w (w3.setCell ⟨T,0,none⟩ (.slice (some ⟨g,0,none⟩) (acc.length+1) cap')) from fun b c fr e=>by
  have e1:=hF0.out b c fr e
  have hb1:b≠T:=fun e2=>by
   rw [e2,H1.out] at e1
   simp only [Option.some.injEq,Obj.cells.injEq] at e1
   exact absurd e1.2.1 (by decide)
  rw [Below.heap_setCell _ ⟨T,0,none⟩ _ b hb1,hg.block b (Zlt e1) (Ne.symm (Zem HR.out e1 (by decide)))]
  exact e1)
 clear hba ho hg hat hne h3 hgt
 go_wp2_with fail
 first | go_end0 | (refine bodyPost_ret (results_none rfl _ _ _) rfl ?_)
 exact⟨rfl,⟨HW.out,htl,_,HT.out,by rw [List.length_append,List.map_append];exact HO.out⟩,HF.out⟩):p:=h
structure TdI (w0 u:World) (T base:Nat) (acc:List ByteArray):Prop where
 below:Below base w0 u
 tlt:base≤T
 box:∃ v,u.heap[T]?=some (.cells #[v] 23 (0,0))∧u.ownsRow base 9 1 v acc.length (acc.map .string)
theorem Zem {w:World} {base k n:Nat} {e:TypeId} {v:Value} {xs:List Value} (h:w.ownsRow base e k v n xs) {b:Nat} {c:Array Value} {t:TypeId} {fr:Nat×Nat} (hb:w.heap[b]?=some (.cells c t fr)) (ht:t≠e):v.ownBlock≠some b:=fun e2=>by
 rcases h.2 with ⟨h1,_⟩ | ⟨g,cap,cur,h1,_,h3,_⟩
 ·rw [h1] at e2;cases e2
 rw [h1] at e2
 have:g=b:=by simpa [Value.ownBlock] using e2
 subst this
 rw [h3] at hb
 simp only [Option.some.injEq,Obj.cells.injEq] at hb
 exact ht hb.2.1.symm
theorem TdI.next {w0 u u':World} {T base:Nat} {acc:List ByteArray} (h:TdI w0 u T base acc) (hb:Below u.heap.size u u'):TdI w0 u' T base acc:=by
 obtain⟨v,h1,h2⟩:=h.box
 have ht:=(Zlt h1)
 have:=h.tlt
 exact⟨h.below.trans (hb.mono (by omega)),h.tlt,v,(hb.block _ ht).trans h1,Zao h2 hb⟩
theorem todoA_any (w0:World) (T base:Nat) (acc:List ByteArray) (s:ByteArray) (w:World) (hn:acc.length≤1000000000) (h:TdI w0 w T base acc):
  Calls Tryz.prog 44 #[.string s,.pointer (some ⟨T,0,none⟩)] w fun r w'=>r = .returned (.tuple #[])∧TdI w0 w' T base (acc++[s])∧FrE w w':=by
 obtain⟨v,h1,h2⟩:=h.box
 have HB:=Zhd h.below
 have htl:=h.tlt
 have htt:=(Zlt h1)
 have c1:w.cell? ⟨T,0,none⟩=some v:=by simp [World.cell?,h1]
 have hba:Below w.heap.size w (w.alloc (.cells #[.string s] 9)):=(Below.refl _ _).alloc (Nat.le_refl _) _
 have H1:=Zhd ((hba.block T htt).trans h1)
 have hrow:=Zao h2 hba
 have HR:=Zhd hrow
 obtain⟨av,cv,rfl,_⟩:=Zau h2
 have hF0:=Zhd (FrE.of_below hba)
 clear h h1 h2 hrow
 go_enter Tryz.func44,Tryz.ntmps44
 exact mSlE1
theorem todoB_any (w0:World) (T base:Nat) (acc:List ByteArray) (s:ByteArray) (w:World) (hn:acc.length≤1000000000) (h:TdI w0 w T base acc):
  Calls Tryz.prog 45 #[.string s,.pointer (some ⟨T,0,none⟩)] w fun r w'=>r = .returned (.tuple #[])∧TdI w0 w' T base (acc++[s])∧FrE w w':=by
 obtain⟨v,h1,h2⟩:=h.box
 have HB:=Zhd h.below
 have htl:=h.tlt
 have htt:=(Zlt h1)
 have c1:w.cell? ⟨T,0,none⟩=some v:=by simp [World.cell?,h1]
 have hba:Below w.heap.size w (w.alloc (.cells #[.string s] 9)):=(Below.refl _ _).alloc (Nat.le_refl _) _
 have H1:=Zhd ((hba.block T htt).trans h1)
 have hrow:=Zao h2 hba
 have HR:=Zhd hrow
 obtain⟨av,cv,rfl,_⟩:=Zau h2
 have hF0:=Zhd (FrE.of_below hba)
 clear h h1 h2 hrow
 go_enter Tryz.func45,Tryz.ntmps45
 exact mSlE1
structure FR where
 name:ByteArray
 k:Int
 o:ByteArray
 n:Int
 s:ByteArray
 a:Option Addr
 l:Nat
 c:Nat
def FR.cells (r:FR):List Value:=[.string r.name,.int .i64 r.k,.string r.o,.int .i64 r.n,.string r.s,.slice r.a r.l r.c]
def FR.agg (r:FR):Value := .agg #[.string r.name,.int .i64 r.k,.string r.o,.int .i64 r.n,.string r.s,.slice r.a r.l r.c]
def frX (l:List FR):List Value:=l.flatMap FR.cells
theorem Zgj:∀ l:List FR,(frX l).length=l.length * 6
 | []=>rfl
 | r :: l=>by
  have:=Zgj l
  unfold frX at *
  rw [List.flatMap_cons,List.length_append,this]
  simp [FR.cells]
  omega
theorem Zgk (l:List FR) (i:Nat) (hi:i<l.length) (j:Nat) (hj:j<6):(frX l)[i * 6+j]?=l[i].cells[j]?:=Zfx 6 FR.cells (fun _=>rfl) l i hi j hj
theorem frX_app (l m:List FR):frX (l++m)=frX l++frX m:=by unfold frX;rw [List.flatMap_append]
def idxR (p:FR→Bool) (l:List FR):Int:=match l.findIdx? p with | none => -1 | some i=>(i:Int)
theorem idxR_found (p:FR→Bool) (l:List FR) (k:Nat) (hk:k<l.length) (he:p l[k]=true) (hn:∀ i (hi:i<l.length),i<k→p l[i]=false):idxR p l=k:=by
 unfold idxR
 have:l.findIdx? p=some k:=List.findIdx?_eq_some_iff_getElem.2 ⟨hk,he,fun j hj=>by rw [hn j (by omega) hj];simp⟩
 rw [this]
theorem idxR_none (p:FR→Bool) (l:List FR) (hn:∀ i (hi:i<l.length),p l[i]=false):idxR p l = -1:=by
 unfold idxR
 have:l.findIdx? p=none:=List.findIdx?_eq_none_iff.2 fun x hx=>by
  obtain⟨i,hi,rfl⟩:=List.mem_iff_getElem.1 hx
  exact hn i hi
 rw [this]
theorem idxR_cases (p:FR→Bool) (l:List FR):(idxR p l = -1∧l.filter (fun r => !p r)=l)∨∃ k,∃ hk:k<l.length,idxR p l=k∧p l[k]=true∧(∀ i (hi:i<l.length),i<k→p l[i]=false):=by
 unfold idxR
 cases h:l.findIdx? p with
 | none=>
  rw [List.findIdx?_eq_none_iff] at h
  exact .inl ⟨rfl,List.filter_eq_self.2 fun x hx=>by rw [h x hx];rfl⟩
 | some k=>
  rw [List.findIdx?_eq_some_iff_getElem] at h
  obtain⟨hk,h1,h2⟩:=h
  exact .inr ⟨k,hk,rfl,h1,fun i hi hik=>by simpa using h2 i hik⟩
def FrPred (k:Nat) (cap:Array Value) (I:World→Prop) (p:FR→Bool) (l:List FR):Prop:=
 Zdr Tryz.prog k∧(∀ w w',I w→Below w.heap.size w w'→I w')∧∀ r∈l,∀ w,I w→Calls Tryz.prog k (#[r.agg]++cap) w fun e w'=>e = .returned (.bool (p r))∧Below w.heap.size w w'
theorem idxR_any (k:Nat) (cap:Array Value) (I:World→Prop) (p:FR→Bool) (l:List FR) (hp:FrPred k cap I p l) (g c:Nat) (w:World) (hg:g<w.heap.size) (hc:∀ i (hi:i<l.length),∀ j u,l[i].cells[j]?=some u→w.cell? ⟨g,i * 6+j,none⟩=some u) (hl:l.length≤1000000000) (hI:I w):
  Calls Tryz.prog 51 #[.slice (some ⟨g,0,none⟩) l.length c,.func (.func k) #[] cap] w fun r w'=>r = .returned (.int .i64 (idxR p l))∧Below w.heap.size w w':=by
 obtain⟨hen,hst,hp⟩:=hp
 have HP:=Zhd hp
 have HS:=Zhd hst
 have HI:=Zhd hI
 have HC:=Zhd hc
 clear hp hst hI hc
 unfold Zdr at hen
 go_enter Tryz.func51,Tryz.ntmps51
 go_wp2_with fail
 go_loopw [8] (fun i wr=>∃ q:Nat,i = .int .i64 q∧q≤l.length∧Below w.heap.size w wr∧I wr∧(∀ i (hi:i<l.length),i<q→p l[i]=false)) (fun i _=>l.length - (intOf i).toNat)
 case atStart=>exact⟨0,rfl,Nat.zero_le _,Below.refl _ _,HI.out,fun i _ h=>by omega⟩
 obtain⟨q,rfl,hq,hb,hI,hn⟩:=hrel
 have HI:=Zhd hI
 have HN:=Zhd hn
 have HB:=Zhd hb
 clear hI hn hb
 by_cases hql:q<l.length
 ·have hcell:=fun j u h=>(HB.out.cell (p:=⟨g,q * 6+j,none⟩) hg).trans (HC.out q hql j u h)
  obtain⟨x,hx⟩:∃ x,l[q]=x:=⟨_,rfl⟩
  have hmem:x∈l:=by rw [← hx];exact List.getElem_mem hql
  have HX:=Zhd hx
  rw [hx] at hcell
  have c0:=hcell 0 _ rfl
  have c1:=hcell 1 _ rfl
  have c2:=hcell 2 _ rfl
  have c3:=hcell 3 _ rfl
  have c4:=hcell 4 _ rfl
  have c5:=hcell 5 _ rfl
  simp only [Nat.add_zero] at c0
  have HCALL:=Zhd (HP.out x hmem wr HI.out)
  clear hx hcell
  go_wp2_with fail
  refine HCALL.out.mono ?_
  rintro r w2 ⟨rfl,hb2⟩
  have HB2:=Zhd (HB.out.trans (hb2.mono HB.out.size))
  have HI2:=Zhd (HS.out _ _ HI.out hb2)
  clear hb2 HCALL c0 c1 c2 c3 c4 c5
  cases he:p x
  ·have HY:=Zhd (show ∀ i (hi:i<l.length),i<q+1→p l[i]=false from fun i hi hik=>by
    by_cases hik':i<q
    ·exact HN.out i hi hik'
    obtain rfl:i=q:=by omega
    rw [HX.out];exact he)
   go_wp2_with fail
   go_roundw
   case rel=>exact⟨q+1,by go_num,by omega,HB2.out,HI2.out,HY.out⟩
   simp [intOf];omega
  have HY:=Zhd (idxR_found p l q hql (by rw [HX.out];exact he) HN.out)
  go_wp2_with fail
  go_ret
  exact⟨Zat HY.out.symm,HB2.out⟩
 go_wp2_with fail
 go_ret
 exact⟨Zat (idxR_none _ _ fun i hi=>HN.out i hi (by omega)).symm,HB.out⟩
theorem Zdw (b:Nat):∀ (L:List Value) (o:Nat) (w:World) (cur:Array Value) (t:TypeId) (fr:Nat×Nat),w.heap[b]?=some (.cells cur t fr)→o+L.length≤cur.size→
  (∃ cur',(w.setCells b o L).heap[b]?=some (.cells cur' t fr)∧cur'.size=cur.size∧(∀ a,a<o∨o+L.length≤a→cur'[a]?=cur[a]?)∧∀ j,j<L.length→cur'[o+j]?=L[j]?)∧(∀ c,c≠b→(w.setCells b o L).heap[c]?=w.heap[c]?)∧(w.setCells b o L).heap.size=w.heap.size
 | [],o,w,cur,t,fr,h,_=>⟨⟨cur,h,rfl,fun _ _=>rfl,fun j hj=>by simp at hj⟩,fun _ _=>rfl,rfl⟩
 | v :: L,o,w,cur,t,fr,h,hl=>by
  simp only [List.length_cons] at hl
  have h1:=Zab w b o v _ _ _ h
  obtain⟨⟨cur',g1,g2,g3,g4⟩,g5,g6⟩:=Zdw b L (o+1) _ _ _ _ h1 (by simp;omega)
  refine⟨⟨cur',g1,by simpa using g2,fun a ha=>?_,fun j hj=>?_⟩,fun c hc=>?_,?_⟩
  ·rw [g3 a (by simp only [List.length_cons] at ha;omega)]
   simp only [List.length_cons] at ha
   rw [Array.getElem?_setIfInBounds_ne (by omega)]
  ·cases j with
   | zero=>
    rw [Nat.add_zero,g3 o (by omega)]
    have ho:o<cur.size:=by omega
    simp [ho]
   | succ j=>
    have:=g4 j (by simpa using hj)
    rw [show o+(j+1)=o+1+j from by omega,this]
    simp
  ·show ((w.setCell ⟨b,o,none⟩ v).setCells b (o+1) L).heap[c]?=_
   rw [g5 c hc,Below.heap_setCell _ ⟨b,o,none⟩ _ c hc]
  show ((w.setCell ⟨b,o,none⟩ v).setCells b (o+1) L).heap.size=_
  rw [g6]
  simp [World.setCell]
theorem zeroFlow (w:World):(zeroValue 71).run Tryz.prog w = .ok (.agg #[.string ⟨#[]⟩,.int .i64 0,.string ⟨#[]⟩,.int .i64 0,.string ⟨#[]⟩,.slice none 0 0]) w:=by kernel_rfl
theorem run_clear_flows (w:World) (g o n c:Nat) (cur:Array Value) (h:w.heap[g]?=some (.cells cur 71 (0,0))) (hl:o+n * 6≤cur.size):
  ∃ L:List Value,L.length=n * 6∧∀ ty,(Builtin.clear_ #[38] ty #[.slice (some ⟨g,o,none⟩) n c]).run Tryz.prog w = .ok (.tuple #[]) (w.setCells g o L):=by
 cases n with
 | zero=>exact⟨[],rfl,fun ty=>by simp [Builtin.clear_,run_underlying Tryz.underlying38,World.setCells]⟩
 | succ n=>
  have hlen:(Builtin.zeroCells (#[.string ⟨#[]⟩,.int .i64 0,.string ⟨#[]⟩,.int .i64 0,.string ⟨#[]⟩,.slice none 0 0]:Array Value) (n+1)).toList.length=(n+1) * 6:=by simp [Builtin.zeroCells]
  refine⟨(Builtin.zeroCells (#[.string ⟨#[]⟩,.int .i64 0,.string ⟨#[]⟩,.int .i64 0,.string ⟨#[]⟩,.slice none 0 0]:Array Value) (n+1)).toList,hlen,fun ty=>?_⟩
  have hst:=run_storeCells_cells (P:=Tryz.prog) g o (Builtin.zeroCells (#[.string ⟨#[]⟩,.int .i64 0,.string ⟨#[]⟩,.int .i64 0,.string ⟨#[]⟩,.slice none 0 0]:Array Value) (n+1)).toList 0 w
   (fun j hj=>by rw [hlen] at hj;simp [World.cell?,h];omega)
   (fun j hj=>by simp [World.frozen?,h])
   (fun v hv=>by
    simp only [Builtin.zeroCells,Array.toList_map,List.mem_map] at hv
    obtain⟨i,_,rfl⟩:=hv
    have hi:i % 6<6:=Nat.mod_lt _ (by decide)
    show ((#[.string ⟨#[]⟩,.int .i64 0,.string ⟨#[]⟩,.int .i64 0,.string ⟨#[]⟩,.slice none 0 0]:Array Value)[i % 6]!).oneCell'=true
    generalize i % 6=m at hi
    match m,hi with
    | 0,_=>rfl
    | 1,_=>rfl
    | 2,_=>rfl
    | 3,_=>rfl
    | 4,_=>rfl
    | 5,_=>rfl)
  simp only [Nat.add_zero] at hst
  have hz:=zeroFlow w
  simp [Builtin.clear_,run_underlying Tryz.underlying38,hz,Value.cells,hst]
end Go.Proofs.YtofameafdnkijaaGreatDoor
