/- Plain: orders by ranks of names; one flow for another that is the same: what is told stays: no program in sight. -/
import Derived.Test.YtofameafdnkijaaGreatDoorSsa
import Derived.Test.YtofameafdnkijaaGreatDoorSoM
import Derived.Test.YtofameafdnkijaaGreatDoorSlI
set_option linter.all false
namespace Go.Proofs.YtofameafdnkijaaGreatDoor
open Mx
mutual
def Zee:Ex→List ByteArray
 | .mk o _ s l=>if o=oPre then [] else if o=oFby then onceH l else (if o=Zbg then [s] else [])++Zhe l
def onceH:List Ex→List ByteArray
 | []=>[]
 | e :: _=>Zee e
def Zhe:List Ex→List ByteArray
 | []=>[]
 | e :: l=>Zee e++Zhe l
end
mutual
theorem Zg1 (at_:Env Nat):∀ e:Ex,needs at_ e=(Zee e).filterMap at_
 | .mk o n s l=>by
  simp only [needs,Zee]
  by_cases e1:o=oPre
  ·rw [if_pos e1,if_pos e1];rfl
  rw [if_neg e1,if_neg e1]
  by_cases e2:o=oFby
  ·rw [if_pos e2,if_pos e2];exact needs_onceH at_ l
  rw [if_neg e2,if_neg e2,List.filterMap_append,needs_onceL at_ l]
  congr 1
  by_cases e3:o=Zbg
  ·rw [if_pos e3,if_pos e3]
   cases h:at_ s<;>simp [h]
  rw [if_neg e3,if_neg e3];rfl
theorem needs_onceH (at_:Env Nat):∀ l:List Ex,Zf2 at_ l=(onceH l).filterMap at_
 | []=>rfl
 | e :: _=>Zg1 at_ e
theorem needs_onceL (at_:Env Nat):∀ l:List Ex,Zco at_ l=(Zhe l).filterMap at_
 | []=>rfl
 | e :: l=>by rw [Zco,Zhe,List.filterMap_append,Zg1 at_ e,needs_onceL at_ l]
end
mutual
theorem once_names:∀ e:Ex,∀ s∈Zee e,s∈Za7 e
 | .mk o n s l,t,h=>by
  simp only [Zee] at h
  simp only [Za7,List.mem_append]
  split at h
  ·cases h
  split at h
  ·exact .inr (once_namesH l t h)
  rcases List.mem_append.1 h with h | h
  ·exact .inl h
  exact .inr (once_namesL l t h)
theorem once_namesH:∀ l:List Ex,∀ s∈onceH l,s∈Zb0 l
 | [],t,h=>by simp [onceH] at h
 | e :: l,t,h=>by
  simp only [Zb0,List.mem_append]
  exact .inl (once_names e t h)
theorem once_namesL:∀ l:List Ex,∀ s∈Zhe l,s∈Zb0 l
 | [],t,h=>by simp [Zhe] at h
 | e :: l,t,h=>by
  simp only [Zhe,List.mem_append] at h
  simp only [Zb0,List.mem_append]
  exact h.imp (once_names e t) (once_namesL l t)
end
theorem order_rank {q:Pr} (hck:Zak q=0) (r:Nat→Nat) (h:∀ a b,edge q.graph a b→r b<r a):∃ l,Zbu q = .ok l:=by
 have hp:∀ a b,Path q.graph a b→r b<r a:=fun a b hp=>by
  induction hp with
  | one e=>exact h _ _ e
  | snoc _ e ih=>exact Nat.lt_trans (h _ _ e) ih
 unfold Zbu
 rw [if_neg (by simp [hck]),show (List.range q.graph.length).find? (cyc q.graph)=none from List.find?_eq_none.2 fun i _ hc=>by
  have:=hp i i ((cyc_iff q.graph i).1 (by simpa using hc))
  omega]
 exact⟨_,rfl⟩
theorem graph_at (p:Pr) (a:Nat) (h:a<p.fl.length):p.graph.getD a []=needs p.atOf p.fl[a].e:=by simp [Pr.graph,List.getD_eq_getElem?_getD,h]
theorem at_name {p:Pr} (hck:Zak p=0) (k:Nat) (h:k<p.fl.length):p.atOf p.fl[k].name=some k:=by
 have:=at_get p.fl 0 Env.none (Zct hck) k h
 rw [Nat.zero_add] at this
 exact this
theorem at_back {p:Pr} {s:ByteArray} {k:Nat} (h:p.atOf s=some k):∃ h:k<p.fl.length,p.fl[k].name=s:=by
 rcases at_in _ _ _ _ _ h with h1 | ⟨j,hj,e1,e2⟩
 ·simp [Env.none] at h1
 have:k=j:=by omega
 subst this
 exact⟨hj,e1⟩
theorem order_names {q:Pr} (hck:Zak q=0) (ρ:ByteArray→Nat) (h:∀ f∈q.fl,∀ s∈Zee f.e,s∈q.fl.map (·.name)→ρ s<ρ f.name):∃ l,Zbu q = .ok l:=by
 refine order_rank hck (fun k=>ρ (q.fl.map (·.name))[k]!) fun a b he=>?_
 unfold edge at he
 by_cases ha:a<q.fl.length
 ·rw [graph_at q a ha,Zg1] at he
  obtain⟨s,hs,hb⟩:=List.mem_filterMap.1 he
  obtain⟨hbl,hbn⟩:=at_back hb
  have h1:=h q.fl[a] (List.getElem_mem ha) s hs (by rw [← hbn];exact List.mem_map_of_mem (List.getElem_mem hbl))
  have e1:(q.fl.map (·.name))[a]! = q.fl[a].name:=by simp [ha]
  have e2:(q.fl.map (·.name))[b]! = q.fl[b].name:=by simp [hbl]
  show ρ _<ρ _
  rw [e1,e2,hbn]
  exact h1
 simp [Pr.graph,List.getD_eq_getElem?_getD,ha] at he
theorem order_rho {p:Pr} {l:List Nat} (ho:Zbu p = .ok l):∃ ρ:ByteArray→Nat,∀ f∈p.fl,∀ s∈Zee f.e,s∈p.fl.map (·.name)→ρ s<ρ f.name:=by
 obtain⟨hck,hlen,hlow⟩:=Zbe ho
 refine⟨fun s=>match p.atOf s with | some k=>l.idxOf k | none=>0,fun f hf s hs hsn=>?_⟩
 obtain⟨a,ha,rfl⟩:=List.mem_iff_getElem.1 hf
 obtain⟨g,hg,eg⟩:=List.mem_map.1 hsn
 obtain⟨b,hb,rfl⟩:=List.mem_iff_getElem.1 hg
 subst eg
 dsimp only
 rw [at_name hck a ha,at_name hck b hb]
 dsimp only
 have hin:=Zib ho a ha
 have hi:l.idxOf a<l.length:=List.idxOf_lt_length_of_mem hin
 have hgi:l[l.idxOf a]=a:=List.getElem_idxOf hi
 have h2:=(Zfm ho _ hi).2 b (by
  rw [hgi,graph_at p a ha,Zg1]
  exact List.mem_filterMap.2 ⟨_,hs,at_name hck b hb⟩)
 have h3:(l.take (l.idxOf a)).idxOf b<(l.take (l.idxOf a)).length:=List.idxOf_lt_length_of_mem h2
 have h4:l.idxOf b=(l.take (l.idxOf a)).idxOf b:=by
  conv=>lhs;rw [← List.take_append_drop (l.idxOf a) l]
  rw [List.idxOf_append,if_pos h2]
 rw [h4]
 simp only [List.length_take] at h3
 omega
theorem Zfc {l:List Fl} (hn:(l.map (·.name)).Nodup) {f g:Fl} (hf:f∈l) (hg:g∈l) (e:f.name=g.name):f=g:=by
 obtain⟨a,ha,rfl⟩:=List.mem_iff_getElem.1 hf
 obtain⟨b,hb,rfl⟩:=List.mem_iff_getElem.1 hg
 have hab:a=b:=by
  refine Classical.byContradiction fun hne=>?_
  have hp:=List.pairwise_iff_getElem.1 (List.nodup_iff_pairwise_ne.1 hn)
  rcases Nat.lt_or_gt_of_ne hne with hl | hl
  ·exact hp a b (by simpa using ha) (by simpa using hb) hl (by simpa using e)
  exact hp b a (by simpa using hb) (by simpa using ha) hl (by simpa using e.symm)
 subst hab;rfl
theorem check_right {q:Pr} (hck:Zak q=0) {l:List Nat} (ho:Zbu q = .ok l) (h1:∀ f∈q.fl,hit q f.name=false) (h2:∀ e∈q.as++q.cs,Zac (Zaa q) e=0):(Za0 q).1=0:=by
 have hq:Zeo q = .ok (q.fl.map fun f=>Zaa q f.name):=by unfold Zeo;rw [ho]
 rw [Zha hq (fun j hj=>h1 _ (List.getElem_mem hj)),if_neg]
 intro hany
 obtain⟨e,he,hp⟩:=List.any_eq_true.1 hany
 rw [h2 e he] at hp
 simp at hp
theorem one_get (a b s:ByteArray):(one1 b a s).getD s=if s=b then a else s:=by
 unfold one1
 by_cases h:s=b
 ·rw [h,Env.set_self,if_pos rfl];rfl
 rw [Env.set_other _ _ h,if_neg h];rfl
theorem late_twin {p:Pr} (hck:Zak p=0) {f g:Fl} (hf:f∈p.fl) (hg:g∈p.fl) (he:f.e=g.e):Zaa p f.name≤Zaa p g.name:=by
 obtain⟨hb,hfix⟩:=Zbc p
 have hle:∀ s,(if s=f.name then min (Zaa p f.name) (Zaa p g.name) else Zaa p s)≤Zaa p s:=fun s=>by
  split
  ·rename_i h;rw [h];exact Int.min_le_left ..
  exact Int.le_refl _
 have hbl:∀ s,0≤(if s=f.name then min (Zaa p f.name) (Zaa p g.name) else Zaa p s)∧(if s=f.name then min (Zaa p f.name) (Zaa p g.name) else Zaa p s)≤2:=fun s=>by
  have h1:=hb f.name
  have h2:=hb g.name
  have h3:=hb s
  split<;>omega
 have:=Zdy (p:=p) (lt':=fun s=>if s=f.name then min (Zaa p f.name) (Zaa p g.name) else Zaa p s) hbl (fun h hh=>by
  have h1:=Zen hbl hb h.e fun t _=>hle t
  have h2:=hfix h hh
  by_cases hn:h.name=f.name
  ·have hhf:=Zfc (Zct hck) hh hf hn
   subst hhf
   show _≤if h.name=h.name then _ else _
   rw [if_pos rfl]
   have h3:=hfix g hg
   rw [← he] at h3
   omega
  show _≤if h.name=f.name then _ else _
  rw [if_neg hn]
  omega) f.name
 have this:Zaa p f.name≤if f.name=f.name then min (Zaa p f.name) (Zaa p g.name) else Zaa p f.name:=this
 rw [if_pos rfl] at this
 omega
mutual
theorem once_ren (ot:Env ByteArray):∀ e:Ex,Zee (renE ot e)=(Zee e).map fun s=>(ot s).getD s
 | .mk o n s l=>by
  simp only [renE,Zee]
  by_cases e1:o=oPre
  ·rw [if_pos e1,if_pos e1];rfl
  rw [if_neg e1,if_neg e1]
  by_cases e2:o=oFby
  ·rw [if_pos e2,if_pos e2];exact once_renH ot l
  rw [if_neg e2,if_neg e2,List.map_append,once_renL ot l]
  congr 1
  by_cases e3:o=Zbg
  ·simp [e3]
  simp [e3]
theorem once_renH (ot:Env ByteArray):∀ l:List Ex,onceH (renL ot l)=(onceH l).map fun s=>(ot s).getD s
 | []=>rfl
 | e :: _=>once_ren ot e
theorem once_renL (ot:Env ByteArray):∀ l:List Ex,Zhe (renL ot l)=(Zhe l).map fun s=>(ot s).getD s
 | []=>rfl
 | e :: l=>by rw [renL,Zhe,Zhe,List.map_append,once_ren ot e,once_renL ot l]
end
section
variable {ins : List Vr} {outs : List ByteArray} {done rest : List Fl} {x g : Fl} {az cs : List Ex}
theorem same_step (hg:g∈done) (he:x.e=g.e) (hd:Zax x.e=false) (ho:x.name∉outs) (hc:(Za0 ⟨ins,outs,done++x :: rest,az,cs⟩).1=0):
  (Za0 ⟨ins,outs,(done++rest).map (renF (one1 x.name g.name)),az.map (renE (one1 x.name g.name)),cs.map (renE (one1 x.name g.name))⟩).1=0∧
  ∀ nb ni inp,runM nb ni ⟨ins,outs,(done++rest).map (renF (one1 x.name g.name)),az.map (renE (one1 x.name g.name)),cs.map (renE (one1 x.name g.name))⟩ inp=runM nb ni ⟨ins,outs,done++x :: rest,az,cs⟩ inp:=by
 obtain⟨P,hP⟩:∃ P:Pr,P=⟨ins,outs,done++x :: rest,az,cs⟩:=⟨_,rfl⟩
 obtain⟨Q,hQ⟩:∃ Q:Pr,Q=⟨ins,outs,(done++rest).map (renF (one1 x.name g.name)),az.map (renE (one1 x.name g.name)),cs.map (renE (one1 x.name g.name))⟩:=⟨_,rfl⟩
 rw [← hP] at hc ⊢
 rw [← hQ]
 have hPi:P.ins=ins:=by rw [hP]
 have hPo:P.outs=outs:=by rw [hP]
 have hPf:P.fl=done++x :: rest:=by rw [hP]
 have hPa:P.as=az:=by rw [hP]
 have hPc:P.cs=cs:=by rw [hP]
 have hQi:Q.ins=P.ins:=by rw [hQ,hPi]
 have hQo:Q.outs=P.outs:=by rw [hQ,hPo]
 have hQf:Q.fl=(done++rest).map (renF (one1 x.name g.name)):=by rw [hQ]
 have hQa:Q.as=P.as.map (renE (one1 x.name g.name)):=by rw [hQ,hPa]
 have hQc:Q.cs=P.cs.map (renE (one1 x.name g.name)):=by rw [hQ,hPc]
 rw [← hPo] at ho
 clear hP hQ
 obtain⟨ol,hord,hhit,hlate⟩:=Zbx hc
 obtain⟨hck,_,_⟩:=Zbe hord
 have hn:=Zct hck
 have hxm:x∈P.fl:=by rw [hPf];simp
 have hgm:g∈P.fl:=by rw [hPf];simp [hg]
 have hdr:∀ f∈done++rest,f∈P.fl∧f.name≠x.name:=fun f hf=>by
  rw [hPf] at hn ⊢
  rw [List.map_append,List.map_cons,List.nodup_append] at hn
  obtain⟨n1,n2,n3⟩:=hn
  rw [List.nodup_cons] at n2
  rcases List.mem_append.1 hf with h | h
  ·exact⟨by simp [h],fun e=>n3 f.name (List.mem_map_of_mem h) x.name (by simp) e⟩
  exact⟨by simp [h],fun e=>n2.1 (e▸List.mem_map_of_mem h)⟩
 have hPall:∀ f∈P.fl,f=x∨f∈done++rest:=fun f hf=>by
  rw [hPf] at hf
  simp only [List.mem_append,List.mem_cons] at hf ⊢
  rcases hf with h | h | h
  ·exact .inr (.inl h)
  ·exact .inl h
  exact .inr (.inr h)
 have hgx:g.name≠x.name:=(hdr g (List.mem_append_left _ hg)).2
 have hQn:Q.fl.map (·.name)=(done++rest).map (·.name):=by rw [hQf,renF_names]
 have hQmem:∀ s,s∈P.fl.map (·.name)→s≠x.name→s∈Q.fl.map (·.name):=fun s hs hne=>by
  obtain⟨f,hf,rfl⟩:=List.mem_map.1 hs
  rw [hQn]
  rcases hPall f hf with h | h
  ·exact absurd (by rw [h]) hne
  exact List.mem_map_of_mem h
 have hσ:=one_get g.name x.name
 have hgQ:g.name∈Q.fl.map (·.name):=hQmem _ (List.mem_map_of_mem hgm) hgx
 -- lateness
 have hab:Zaa P x.name=Zaa P g.name:=Int.le_antisymm (late_twin hck hxm hgm he) (late_twin hck hgm hxm he.symm)
 have hNσ:∀ s,Zaa P ((one1 x.name g.name s).getD s)=Zaa P s:=fun s=>by
  rw [hσ]
  split
  ·rename_i h;rw [h,hab]
  rfl
 have hQle:∀ s,Zaa Q s≤Zaa P s:=Zdy (Zbc P).1 fun f hf=>by
  rw [hQf] at hf
  obtain⟨f',hf',rfl⟩:=List.mem_map.1 hf
  show Zac (Zaa P) (renE _ f'.e)≤Zaa P f'.name
  rw [Zh9 (lt:=Zaa P) f'.e fun s _=>hNσ s]
  exact (Zbc P).2 f' (hdr f' hf').1
 have hge:∀ s,Zaa P s≤Zaa Q ((one1 x.name g.name s).getD s):=Zdy (p:=P) (lt':=fun s=>Zaa Q ((one1 x.name g.name s).getD s)) (fun s=>(Zbc Q).1 _) fun f hf=>by
  have h1:∀ f':Fl,f'∈done++rest→Zac (fun s=>Zaa Q ((one1 x.name g.name s).getD s)) f'.e≤Zaa Q f'.name:=fun f' hf'=>by
   rw [← Zh9 (lt:=fun s=>Zaa Q ((one1 x.name g.name s).getD s)) (lt':=Zaa Q) (ot:=one1 x.name g.name) f'.e fun s _=>rfl]
   exact (Zbc Q).2 (renF (one1 x.name g.name) f') (by rw [hQf];exact List.mem_map_of_mem hf')
  show _≤Zaa Q ((one1 x.name g.name f.name).getD f.name)
  rw [hσ]
  rcases hPall f hf with h | h
  ·rw [h,if_pos rfl,he]
   exact h1 g (List.mem_append_left _ hg)
  rw [if_neg (hdr f h).2]
  exact h1 f h
 have hQN:∀ s,Zaa Q ((one1 x.name g.name s).getD s)=Zaa P s:=fun s=>Int.le_antisymm (by rw [← hNσ s];exact hQle _) (hge s)
 -- a flat program
 obtain⟨ks,hks,hout,hfm,_,_,_,hkg⟩:=Zbs hck
 rw [Zcj] at hfm
 unfold Pr.terms at hkg
 rw [List.append_assoc,Zd0] at hkg
 have gk:=(Zdc _ _ _ hks).2
 have hkf:∀ f∈P.fl,ks f.name=some f.kind:=fun f hf=>gk (f.name,f.kind) (by
  simp only [Pr.vars,List.mem_append,List.mem_map]
  exact .inr ⟨f,hf,rfl⟩)
 have hkk:x.kind=g.kind:=by rw [← hkg.1 x hxm,← hkg.1 g hgm,he]
 have hKT:KindTo ks (one1 x.name g.name):=fun s t h=>by
  unfold one1 at h
  by_cases hs:s=x.name
  ·rw [hs,Env.set_self] at h
   cases h
   rw [hs,hkf g hgm,hkf x hxm,hkk]
  rw [Env.set_other _ _ hs] at h
  simp [Env.none] at h
 have hterms:Q.terms=((done++rest).map (·.e)++P.as++P.cs).map (renE (one1 x.name g.name)):=by
  unfold Pr.terms
  rw [hQf,hQa,hQc]
  simp only [List.map_append,List.map_map]
  rfl
 have hsubt:((done++rest).map (·.e)++P.as++P.cs).Sublist P.terms:=by
  unfold Pr.terms
  rw [hPf]
  refine List.Sublist.append (List.Sublist.append ?_ (List.Sublist.refl _)) (List.Sublist.refl _)
  exact ((List.Sublist.refl done).append (List.sublist_cons_self x rest)).map _
 have hckQ:Zak Q=0:=by
  refine check_of hck hks hQi hQo ?_ ?_ ?_ ?_ ?_ ?_
  ·rw [hQf,hPf,List.map_map]
   exact ((List.Sublist.refl done).append (List.sublist_cons_self x rest)).map fun f=>(f.name,f.kind)
  ·exact fun s hs hsn=>hQmem s hsn fun e=>ho (e▸hs)
  ·intro e he'
   rw [hterms] at he'
   obtain⟨e0,he0,rfl⟩:=List.mem_map.1 he'
   have h0:=hsubt.subset he0
   refine⟨ren_form hKT e0 (hfm e0 h0),fun s hs hsn=>?_⟩
   obtain⟨u,hu,rfl⟩:=ren_names _ e0 s hs
   rw [hσ] at hsn ⊢
   by_cases hux:u=x.name
   ·rw [if_pos hux];exact hgQ
   rw [if_neg hux] at hsn ⊢
   exact hQmem u hsn hux
  ·intro f hf
   rw [hQf] at hf
   obtain⟨f',hf',rfl⟩:=List.mem_map.1 hf
   show Zam ks (renE _ f'.e)=f'.kind
   rw [ren_kind hKT]
   exact hkg.1 f' (hdr f' hf').1
  ·intro e he'
   rw [hQa,hQc,← List.map_append] at he'
   obtain⟨e0,he0,rfl⟩:=List.mem_map.1 he'
   rw [ren_kind hKT]
   exact hkg.2 e0 he0
  rw [hterms,Zgv]
  exact Ze5 hsubt
 -- an order
 obtain⟨ρ,hρ⟩:=order_rho hord
 obtain⟨l',hordQ⟩:=order_names hckQ (fun s=>if s=g.name then min (ρ g.name) (ρ x.name) else ρ s) fun f hf s hs hsn=>by
  rw [hQf] at hf
  obtain⟨f',hf',rfl⟩:=List.mem_map.1 hf
  have hs:s∈Zee (renE (one1 x.name g.name) f'.e):=hs
  rw [once_ren] at hs
  obtain⟨u,hu,rfl⟩:=List.mem_map.1 hs
  have hfP:=(hdr f' hf').1
  have huP:u∈P.fl.map (·.name):=by
   rw [hσ] at hsn
   by_cases hux:u=x.name
   ·rw [hux];exact List.mem_map_of_mem hxm
   rw [if_neg hux,hQn] at hsn
   obtain⟨h,hh,e⟩:=List.mem_map.1 hsn
   exact e▸List.mem_map_of_mem (hdr h hh).1
  have h1:=hρ f' hfP u hu huP
  have h2:f'.name=g.name→ρ u<ρ x.name:=fun e=>by
   have:=Zfc hn hfP hgm e
   rw [this,← he] at hu
   exact hρ x hxm u hu huP
  show (if (one1 x.name g.name u).getD u=g.name then min (ρ g.name) (ρ x.name) else ρ ((one1 x.name g.name u).getD u))<if f'.name=g.name then min (ρ g.name) (ρ x.name) else ρ f'.name
  rw [hσ]
  have h3:(if (if u=x.name then g.name else u)=g.name then min (ρ g.name) (ρ x.name) else ρ (if u=x.name then g.name else u))≤ρ u:=by
   by_cases hux:u=x.name
   ·rw [if_pos hux,if_pos rfl,hux];exact Nat.min_le_right ..
   rw [if_neg hux]
   by_cases hug:u=g.name
   ·rw [if_pos hug,hug];exact Nat.min_le_left ..
   rw [if_neg hug];exact Nat.le_refl _
  refine Nat.lt_of_le_of_lt h3 ?_
  by_cases hfg:f'.name=g.name
  ·rw [if_pos hfg]
   have:=h2 hfg
   rw [hfg] at h1
   omega
  rw [if_neg hfg];exact h1
 have hcQ:(Za0 Q).1=0:=by
  refine check_right hckQ hordQ (fun f hf=>?_) fun e he'=>?_
  ·rw [hQf] at hf
   obtain⟨f',hf',rfl⟩:=List.mem_map.1 hf
   have hfP:=(hdr f' hf').1
   have e1:Zaa Q f'.name=Zaa P f'.name:=by
    have:=hQN f'.name
    rw [hσ,if_neg (hdr f' hf').2] at this
    exact this
   obtain⟨k,hk,e2⟩:=List.mem_iff_getElem.1 hfP
   have h1:=hhit k hk
   rw [e2] at h1
   unfold hit at h1 ⊢
   show (decide (Zaa Q f'.name=2) || decide (Zaa Q f'.name=1)&&Q.outs.contains f'.name)=false
   rw [e1,hQo]
   exact h1
  rw [hQa,hQc,← List.map_append] at he'
  obtain⟨e0,he0,rfl⟩:=List.mem_map.1 he'
  rw [Zh9 (lt:=Zaa P) e0 fun s _=>hQN s]
  exact hlate e0 he0
 refine⟨hcQ,fun nb ni inp=>?_⟩
 obtain⟨φ,hφ⟩:=sub_map (p:=P) (q:=⟨[],[],done++rest,[],[]⟩) (by
  show (done++rest).Sublist P.fl
  rw [hPf]
  exact (List.Sublist.refl done).append (List.sublist_cons_self x rest))
 have hQk:∀ k (hk:k<Q.fl.length),∃ h2:φ k<P.fl.length,Q.fl[k]=renF (one1 x.name g.name) P.fl[φ k]∧P.fl[φ k]∈done++rest:=fun k hk=>by
  have hk':k<(done++rest).length:=by rw [hQf,List.length_map] at hk;exact hk
  obtain⟨h2,e2⟩:=hφ k hk'
  refine⟨h2,?_,by rw [e2];exact List.getElem_mem hk'⟩
  rw [e2]
  simp only [hQf,List.getElem_map]
 refine run_sim hc hcQ φ (renE (one1 x.name g.name)) hQi hQo hQa hQc (fun k hk=>?_) (fun f hf=>?_) ?_ nb ni inp
 ·obtain⟨h2,e2,_⟩:=hQk k hk
  exact⟨h2,by rw [e2];rfl,by rw [e2];rfl⟩
 ·rcases hPall f hf with h | h
  ·exact .inr fun R inp g i=>Zic f.e (by rw [h];exact hd) i
  exact .inl (hQmem _ (List.mem_map_of_mem hf) (hdr f h).2)
 intro ks0 ks' ord hks0 hks' hord0 nb ni inp fv hfix e hem _ i
 rw [hks] at hks0
 cases hks0
 refine ren_wd (R:=⟨ks,Zaa P,getI (Zaj P),nb,ni⟩) (R':=⟨ks',Zaa Q,getI (Zaj Q),nb,ni⟩) (inp:=inp) (g:=fv) (g':=fun k i=>fv (φ k) i) rfl rfl e (fun s hs=>?_) i
 have hsome:=Zj4 e (hfm e hem) s hs
 have gk':=(Zdc _ _ _ hks').2
 have hkQ:∀ f∈Q.fl,ks' f.name=some f.kind:=fun f hf=>gk' (f.name,f.kind) (by
  simp only [Pr.vars,List.mem_append,List.mem_map]
  exact .inr ⟨f,hf,rfl⟩)
 refine⟨?_,hQN s,fun i=>?_⟩
 ·show ks' ((one1 x.name g.name s).getD s)=ks s
  rcases Zjy hks s hsome with ⟨j,hj,ej,hnf⟩ | ⟨k,hk,ek⟩
  ·have hsx:s≠x.name:=fun e=>hnf (e▸List.mem_map_of_mem hxm)
   rw [hσ,if_neg hsx]
   have h1:=gk (s,P.ins[j].kind) (by
    simp only [Pr.vars,List.mem_append,List.mem_map]
    exact .inl ⟨P.ins[j],List.getElem_mem _,by rw [ej]⟩)
   have h2:=gk' (s,P.ins[j].kind) (by
    simp only [Pr.vars,List.mem_append,List.mem_map]
    rw [hQi]
    exact .inl ⟨P.ins[j],List.getElem_mem _,by rw [ej]⟩)
   rw [h1,h2]
  have hfl:∀ f∈done++rest,ks' f.name=some f.kind:=fun f hf=>hkQ (renF _ f) (by rw [hQf];exact List.mem_map_of_mem hf)
  rw [hσ]
  by_cases hsx:s=x.name
  ·rw [if_pos hsx,hsx,hfl g (List.mem_append_left _ hg),hkf x hxm,hkk]
  rw [if_neg hsx]
  have hm:=List.getElem_mem hk
  rcases hPall _ hm with h | h
  ·exact absurd (by rw [← ek,h]) hsx
  have h3:=hfl _ h
  have h4:=hkf _ hm
  rw [ek] at h3 h4
  rw [h3,h4]
 show (if getI (Zaj Q) ((one1 x.name g.name s).getD s)<0 then (inp i).getD (-1 - getI (Zaj Q) ((one1 x.name g.name s).getD s)).toNat vz else fv (φ (getI (Zaj Q) ((one1 x.name g.name s).getD s)).toNat) i)=if getI (Zaj P) s<0 then (inp i).getD (-1 - getI (Zaj P) s).toNat vz else fv (getI (Zaj P) s).toNat i
 rcases Zjy hks s hsome with ⟨j,hj,ej,hnf⟩ | ⟨k,hk,ek⟩
 ·have hsx:s≠x.name:=fun e=>hnf (e▸List.mem_map_of_mem hxm)
  rw [hσ,if_neg hsx]
  have n1:=Zjz hck hks j hj
  have n2:=Zjz hckQ hks' j (by rw [hQi];exact hj)
  have e3:(Q.ins[j]'(by rw [hQi];exact hj)).name=s:=by
   rw [← ej]
   simp only [hQi]
  rw [ej] at n1
  rw [e3] at n2
  rw [n1,n2,if_pos (by omega),if_pos (by omega)]
 have n1:=Zey hck k hk
 rw [ek] at n1
 have hσQ:(one1 x.name g.name s).getD s∈Q.fl.map (·.name):=by
  rw [hσ]
  by_cases hsx:s=x.name
  ·rw [if_pos hsx];exact hgQ
  rw [if_neg hsx];exact hQmem s (ek▸List.mem_map_of_mem (List.getElem_mem hk)) hsx
 obtain⟨f,hf,ef⟩:=List.mem_map.1 hσQ
 obtain⟨k',hk',rfl⟩:=List.mem_iff_getElem.1 hf
 have n2:=Zey hckQ k' hk'
 rw [ef] at n2
 rw [n1,n2,if_neg (by omega),if_neg (by omega)]
 simp only [Int.toNat_natCast]
 obtain⟨h2,e2,_⟩:=hQk k' hk'
 rw [e2] at ef
 have ef:P.fl[φ k'].name=(one1 x.name g.name s).getD s:=ef
 rw [hσ] at ef
 rw [hfix _ i h2,hfix k i hk]
 by_cases hsx:s=x.name
 ·rw [if_pos hsx] at ef
  have e5:=Zfc hn (List.getElem_mem h2) hgm ef
  have e6:=Zfc hn (List.getElem_mem hk) hxm (ek.trans hsx)
  rw [e5,e6,he]
 rw [if_neg hsx] at ef
 have e5:=Zfc hn (List.getElem_mem h2) (List.getElem_mem hk) (ef.trans ek.symm)
 rw [e5]
end
theorem sameR_run {ins:List Vr} {outs:List ByteArray}:∀ (k:Nat) (done rest:List Fl) (az cs:List Ex),(Za0 ⟨ins,outs,done++rest,az,cs⟩).1=0→
  (Za0 ⟨ins,outs,(Zf5 outs k done rest az cs).1,(Zf5 outs k done rest az cs).2.1,(Zf5 outs k done rest az cs).2.2⟩).1=0∧
  ∀ nb ni inp,runM nb ni ⟨ins,outs,(Zf5 outs k done rest az cs).1,(Zf5 outs k done rest az cs).2.1,(Zf5 outs k done rest az cs).2.2⟩ inp=runM nb ni ⟨ins,outs,done++rest,az,cs⟩ inp
 | 0,done,rest,az,cs,h=>by
  unfold Zf5
  exact⟨h,fun _ _ _=>rfl⟩
 | k+1,done,[],az,cs,h=>by
  unfold Zf5
  rw [List.append_nil] at h ⊢
  exact⟨h,fun _ _ _=>rfl⟩
 | k+1,done,x :: rest,az,cs,h=>by
  have keep:=sameR_run k (done++[x]) rest az cs (by rw [List.append_assoc];exact h)
  rw [List.append_assoc] at keep
  unfold Zf5
  cases hf:done.find? (fun g=>Zcf x.e g.e) with
  | none=>exact keep
  | some g=>
   dsimp only
   by_cases hc:Zax x.e=false∧x.name∉outs
   ·rw [if_pos hc]
    have hg:=List.mem_of_find?_eq_some hf
    have he:=alike_eq _ _ (List.find?_some (p:=fun g:Fl=>Zcf x.e g.e) hf)
    obtain⟨s1,s2⟩:=same_step (ins:=ins) hg he hc.1 hc.2 h
    rw [List.map_append] at s1 s2
    obtain⟨r1,r2⟩:=sameR_run k _ _ _ _ s1
    exact⟨r1,fun nb ni inp=>(r2 nb ni inp).trans (s2 nb ni inp)⟩
   rw [if_neg hc]
   exact keep
theorem wd_nil (R:REnv) (inp:Nat→List Vl) (g:Nat→Nat→Vl) (d:Ex) (i:Nat) (h:i=0∧0<Zac R.lt d):wdV R inp g d i=nilV R.nb R.ni (Zam R.ks d):=by
 obtain⟨o,n,s,l⟩:=d
 rw [Zdu,if_pos h]
theorem Ze7 {R:REnv} {inp:Nat→List Vl} {g:Nat→Nat→Vl} {o:ByteArray} {n:Int} {s:ByteArray} {l:List Ex} {i:Nat} (h1:o≠oDiv) (h2:o≠oMod):ownT R inp g (.mk o n s l) i=false:=by
 unfold ownT
 simp only [Ex.op,Ex.l]
 cases hc:(appM o (wdVs R inp g l i)).2 with
 | false=>rfl
 | true=>rcases Zj9 hc with e | e<;>contradiction
theorem around_neg (n:Int) (h1:0≤n) (h2:n≤127):Zf4 (-n) = -n:=by
 unfold Zf4
 split<;>omega
theorem Zg7 {ks:Env Int} {o:ByteArray} {n:Int} {s:ByteArray} {l:List Ex} (h:Zad ks (.mk o n s l)=true) {k:Int} (ha:Zcv o=some k) (hk:0≤k):k=l.length:=by
 simp only [Zad,Bool.and_eq_true] at h
 have h1:=h.1.1.1
 unfold form at h1
 simp only [Ex.op,Ex.n,Ex.s,Ex.l] at h1
 rw [ha] at h1
 simp only [Bool.and_eq_true,Bool.or_eq_true,decide_eq_true_eq] at h1
 rcases h1.1.1 with h2 | h2
 ·omega
 exact of_decide_eq_true h2
theorem form_int2 {ks:Env Int} {n:Int} {s:ByteArray} {l:List Ex} (h:Zad ks (.mk oInt n s l)=true):l=[]∧0≤n∧n≤127:=by
 have h0:=Zg7 h (k:=0) rfl (by decide)
 refine⟨List.eq_nil_of_length_eq_zero (by omega),?_⟩
 simp only [Zad,Bool.and_eq_true] at h
 have h1:=h.1.1.1
 unfold form at h1
 simp only [Ex.op,Ex.n,Ex.s,Ex.l] at h1
 rw [show Zcv oInt=some 0 from rfl] at h1
 simp only [Bool.and_eq_true,Bool.or_eq_true,decide_eq_true_eq] at h1
 rcases h1.1.2 with h2 | h2
 ·have:=of_decide_eq_true h2;omega
 have h3:=of_decide_eq_true h2.1.2
 have h4:=of_decide_eq_true h2.2
 omega
theorem plain_val {ks:Env Int} (R:REnv) (inp:Nat→List Vl) (g:Nat→Nat→Vl) {e:Ex} (hf:Zad ks e=true) {v:Vl} (h:Za3 e=some v):
  Zac R.lt e=0∧Zee e=[]∧∀ i,wdV R inp g e i=v∧allT R inp g e i=false:=by
 obtain⟨o,n,s,l⟩:=e
 simp only [Za3] at h
 by_cases e1:o=oInt
 ·subst e1
  rw [if_pos rfl] at h
  cases h
  obtain⟨rfl,_,_⟩:=form_int2 hf
  have hl:Zac R.lt (.mk oInt n s [])=0:=rfl
  refine⟨hl,rfl,fun i=>⟨?_,?_⟩⟩
  ·rw [Zdu,if_neg (fun h=>by rw [hl] at h;omega),if_pos rfl]
  simp only [allT,Zdp,Bool.or_false]
  exact Ze7 (by decide) (by decide)
 rw [if_neg e1] at h
 by_cases e2:o=Zcn∨o=Zb3
 ·rw [if_pos e2] at h
  cases h
  have hl0:l=[]:=List.eq_nil_of_length_eq_zero (by
   rcases e2 with rfl | rfl
   ·have:=Zg7 hf (k:=0) rfl (by decide);omega
   have:=Zg7 hf (k:=0) rfl (by decide);omega)
  subst hl0
  have hl:Zac R.lt (.mk o n s [])=0:=by rcases e2 with rfl | rfl<;>rfl
  refine⟨hl,by rcases e2 with rfl | rfl<;>rfl,fun i=>⟨?_,?_⟩⟩
  ·rw [Zdu,if_neg (fun h=>by rw [hl] at h;omega),if_neg e1,if_pos e2]
  simp only [allT,Zdp,Bool.or_false]
  exact Ze7 (by rcases e2 with rfl | rfl<;>decide) (by rcases e2 with rfl | rfl<;>decide)
 rw [if_neg e2] at h
 by_cases e3:o=oNeg
 ·subst e3
  rw [if_pos rfl] at h
  have ha:=Zg7 hf (k:=1) rfl (by decide)
  match l,ha with
  | [.mk o' n' s' l'],_=>
   by_cases e4:o'=oInt
   ·subst e4
    have h:(some (⟨2, -n'⟩:Vl))=some v:=h
    cases h
    obtain⟨rfl,n1,n2⟩:=form_int2 ((Zaz hf).1 _ (List.mem_singleton.2 rfl))
    have hli:Zac R.lt (.mk oInt n' s' [])=0:=rfl
    have hl:Zac R.lt (.mk oNeg n s [.mk oInt n' s' []])=0:=rfl
    have hv:∀ i,wdV R inp g (.mk oInt n' s' []) i=⟨2,n'⟩:=fun i=>by
     rw [Zdu,if_neg (fun h=>by rw [hli] at h;omega),if_pos rfl]
    refine⟨hl,rfl,fun i=>⟨?_,?_⟩⟩
    ·rw [Zdu,if_neg (fun h=>by rw [hl] at h;omega)]
     simp only [wdVs,hv]
     show wv (-n')=_
     unfold wv
     rw [around_neg n' n1 n2]
    simp only [allT,Zdp,Bool.or_false]
    rw [Ze7 (by decide) (by decide),Ze7 (by decide) (by decide)]
    rfl
   exfalso
   have h:(none:Option Vl)=some v:=by
    rw [← h]
    show none=if o'=oInt then some (⟨2, -n'⟩:Vl) else none
    rw [if_neg e4]
   cases h
 rw [if_neg e3] at h;cases h
theorem plain_one {e:Ex} {v:Vl} (h:Za3 e=some v) (hk:v.kind=1):v.n=0∨v.n=1:=by
 obtain⟨o,n,s,l⟩:=e
 simp only [Za3] at h
 by_cases e1:o=oInt
 ·rw [if_pos e1] at h;cases h;cases hk
 rw [if_neg e1] at h
 by_cases e2:o=Zcn∨o=Zb3
 ·rw [if_pos e2] at h
  cases h
  unfold tv
  cases decide (o=Zcn)
  ·exact .inl rfl
  exact .inr rfl
 rw [if_neg e2] at h
 by_cases e3:o=oNeg
 ·rw [if_pos e3] at h
  split at h
  ·split at h
   ·cases h;cases hk
   cases h
  cases h
 rw [if_neg e3] at h;cases h
theorem literal_plain {v:Vl} {k:Int} (hv:Zba v k=true) {x:Ex} (h:Zbw v=some x):Za3 x=some v:=by
 obtain⟨h1,h2⟩:=Zis hv
 obtain⟨vk,vn⟩:=v
 dsimp only at h1
 subst h1
 unfold Zbw at h
 dsimp only at h
 rcases h2 with rfl | rfl
 ·have hn:vn=0∨vn=1:=by
   unfold Zba at hv
   simp only [Bool.and_eq_true,decide_eq_true_eq] at hv
   simpa using hv.2
  rcases hn with rfl | rfl
  ·rw [if_neg (fun h=>by cases h.2),if_pos rfl] at h
   cases h;rfl
  rw [if_pos ⟨rfl,rfl⟩] at h
  cases h;rfl
 rw [if_neg (fun h=>by cases h.1),if_neg (by decide)] at h
 split at h
 ·cases h;rfl
 split at h
 ·cases h
  show some (⟨2, - -vn⟩:Vl)=_
  rw [Int.neg_neg]
 cases h
structure SaysX (R:REnv) (inp:Nat→List Vl) (g:Nat→Nat→Vl) (e d:Ex):Prop where
 late:Zac R.lt d=Zac R.lt e
 once:∀ s∈Zee d,s∈Zee e
 val:∀ i,wdV R inp g d i=wdV R inp g e i∧allT R inp g d i=allT R inp g e i
theorem Zgd:∀ {l:List Ex} {e:Ex} {s:ByteArray},e∈l→s∈Zee e→s∈Zhe l
 | x :: l,e,s,he,hs=>by
  simp only [Zhe,List.mem_append]
  rcases List.mem_cons.1 he with rfl | he
  ·exact .inl hs
  exact .inr (Zgd he hs)
theorem onceL_in:∀ {l:List Ex} {s:ByteArray},s∈Zhe l→∃ e∈l,s∈Zee e
 | x :: l,s,h=>by
  simp only [Zhe,List.mem_append] at h
  rcases h with h | h
  ·exact⟨x,List.mem_cons_self ..,h⟩
  obtain⟨e,he,hs⟩:=onceL_in h
  exact⟨e,List.mem_cons_of_mem _ he,hs⟩
theorem foldl_zero:∀ l:List Int,(∀ x∈l,x=0)→l.foldl max 0=0
 | [],_=>rfl
 | x :: l,h=>by
  rw [List.foldl_cons,h x (List.mem_cons_self ..)]
  exact foldl_zero l fun y hy=>h y (List.mem_cons_of_mem _ hy)
theorem fold_says {ks:Env Int} {R:REnv} (hks:R.ks=ks) (hb:∀ s,0≤R.lt s∧R.lt s≤2) (inp:Nat→List Vl) (g:Nat→Nat→Vl):∀ e:Ex,Zad ks e=true→Zam ks e≠0→SaysX R inp g e (Za6 R.lt e):=by
 refine Ex.ind fun o n s l ih hf hk=>?_
 obtain⟨hkb,hkp⟩:=Zg5 hk
 obtain⟨hsub,_,_,_,hif⟩:=Zaz hf
 have hS:∀ e∈l,Zho ks e (Za6 R.lt e):=fun e he=>Zhz R.lt e (hsub e he) (hkp e he)
 have hI:∀ e∈l,SaysX R inp g e (Za6 R.lt e):=fun e he=>ih e he (hsub e he) (hkp e he)
 have hlat:Zan R.lt (l.map (Za6 R.lt))=Zan R.lt l:=by
  rw [Zcl,Zcl,List.map_map]
  exact List.map_congr_left fun e he=>(hI e he).late
 have hkl:Zav ks (l.map (Za6 R.lt))=Zav ks l:=by
  rw [Zbr,Zbr,List.map_map]
  exact List.map_congr_left fun e he=>(hS e he).kind
 have hvs:∀ i,wdVs R inp g (l.map (Za6 R.lt)) i=wdVs R inp g l i:=fun i=>by
  rw [Zc7,Zc7,List.map_map]
  exact List.map_congr_left fun e he=>((hI e he).val i).1
 have hts:∀ i,Zdp R inp g (l.map (Za6 R.lt)) i=Zdp R inp g l i:=fun i=>by
  rw [Zc6,Zc6,List.any_map,Bool.eq_iff_iff,List.any_eq_true,List.any_eq_true]
  constructor
  ·rintro⟨e,he,hh⟩;exact⟨e,he,by rw [← ((hI e he).val i).2];exact hh⟩
  rintro⟨e,he,hh⟩;exact⟨e,he,by show allT _ _ _ _ _=true;rw [((hI e he).val i).2];exact hh⟩
 have hlD:Zac R.lt (.mk o n s (l.map (Za6 R.lt)))=Zac R.lt (.mk o n s l):=by simp only [Zac,hlat]
 have hkD:Zam R.ks (.mk o n s (l.map (Za6 R.lt)))=Zam R.ks (.mk o n s l):=by rw [hks];simp only [Zam,hkl]
 have hD:SaysX R inp g (.mk o n s l) (.mk o n s (l.map (Za6 R.lt))):=by
  refine⟨hlD,fun t ht=>?_,fun i=>⟨?_,?_⟩⟩
  ·simp only [Zee] at ht ⊢
   by_cases e1:o=oPre
   ·rw [if_pos e1] at ht;cases ht
   rw [if_neg e1] at ht ⊢
   by_cases e2:o=oFby
   ·rw [if_pos e2] at ht ⊢
    cases l with
    | nil=>exact ht
    | cons e l=>exact (hI e (List.mem_cons_self ..)).once t ht
   rw [if_neg e2] at ht ⊢
   rcases List.mem_append.1 ht with ht | ht
   ·exact List.mem_append_left _ ht
   obtain⟨e,he,hs⟩:=onceL_in ht
   obtain⟨e',he',rfl⟩:=List.mem_map.1 he
   exact List.mem_append_right _ (Zgd he' ((hI e' he').once t hs))
  ·rw [Zdu,Zdu,hlD,hkD]
   simp only [hvs]
  simp only [allT]
  rw [hts]
  unfold ownT
  simp only [Ex.op,Ex.l]
  rw [hvs i,hlD]
 have hfL:∀ e∈l.map (Za6 R.lt),Zad ks e=true:=fun e he=>by
  obtain⟨e',he',rfl⟩:=List.mem_map.1 he
  exact (hS e' he').form
 -- an operator of literals
 have hR:∀ x,(l.map (Za6 R.lt)).all (fun e=>(Za3 e).isSome)=true→Zdo o ((l.map (Za6 R.lt)).map fun e=>(Za3 e).getD vz)=0→(appM o ((l.map (Za6 R.lt)).map fun e=>(Za3 e).getD vz)).2=false→
   Zbw (appM o ((l.map (Za6 R.lt)).map fun e=>(Za3 e).getD vz)).1=some x→SaysX R inp g (.mk o n s l) x:=fun x ha hap htr hx=>by
  have hlit:∀ e∈l.map (Za6 R.lt),∃ v,Za3 e=some v∧Zac R.lt e=0∧∀ i,wdV R inp g e i=v∧allT R inp g e i=false:=fun e he=>by
   have h1:=List.all_eq_true.1 ha e he
   cases hp:Za3 e with
   | none=>rw [hp] at h1;cases h1
   | some v=>
    obtain⟨q1,_,q3⟩:=plain_val R inp g (hfL e he) hp
    exact⟨v,rfl,q1,q3⟩
  have hvv:∀ i,wdVs R inp g l i=(l.map (Za6 R.lt)).map fun e=>(Za3 e).getD vz:=fun i=>by
   rw [← hvs i,Zc7]
   refine List.map_congr_left fun e he=>?_
   obtain⟨v,h1,_,h3⟩:=hlit e he
   rw [h1,(h3 i).1];rfl
  have hz:∀ y∈Zan R.lt l,y=0:=fun y hy=>by
   rw [← hlat,Zcl] at hy
   obtain⟨e,he,rfl⟩:=List.mem_map.1 hy
   obtain⟨_,_,h2,_⟩:=hlit e he
   exact h2
  have hkv:((l.map (Za6 R.lt)).map fun e=>(Za3 e).getD vz).map (·.kind)=Zav ks l:=by
   rw [← hkl,Zbr,List.map_map]
   refine List.map_congr_left fun e he=>?_
   obtain⟨v,hp,_⟩:=hlit e he
   show ((Za3 e).getD vz).kind=_
   rw [hp,Option.getD_some]
   refine Ziw (hfL e he) ?_ hp
   obtain⟨e',he',rfl⟩:=List.mem_map.1 he
   rw [(hS e' he').kind];exact hkp e' he'
  have htl:∀ i,Zdp R inp g l i=false:=fun i=>by
   rw [← hts i,Zc6]
   cases hc:(l.map (Za6 R.lt)).any (fun e=>allT R inp g e i) with
   | false=>rfl
   | true=>
    obtain⟨e,he,hh⟩:=List.any_eq_true.1 hc
    obtain⟨_,_,_,h3⟩:=hlit e he
    rw [(h3 i).2] at hh;cases hh
  generalize hvse:((l.map (Za6 R.lt)).map fun e=>(Za3 e).getD vz)=vs at *
  unfold Zdo at hap
  cases har:Zcv o with
  | none=>rw [har] at hap;cases hap
  | some k=>
   rw [har] at hap
   dsimp only at hap
   split at hap
   ·cases hap
   rename_i hc
   split at hap
   ·cases hap
   rename_i hall
   split at hap
   ·cases hap
   rename_i hkk
   have hc:¬ k<1∧¬ k≠vs.length∧o≠oPre∧o≠Zbq∧o≠oFby:=by
    simp only [not_or] at hc
    exact hc
   have hvr:∀ v∈vs,Zba v v.kind=true:=by
    have:=hall
    simp only [Bool.not_eq_true',Bool.not_eq_false,List.all_eq_true] at this
    exact this
   have hno:o≠oInt∧o≠Zcn∧o≠Zb3∧o≠Zbg:=by
    refine⟨fun e=>?_,fun e=>?_,fun e=>?_,fun e=>?_⟩<;>(subst e;cases har;exact hc.1 (by decide))
   have hcall:o≠Zht:=by
    simp only [Zad,Bool.and_eq_true,Bool.or_eq_true,decide_eq_true_eq] at hf
    exact hf.1.1.2
   have hr:=app_right (k:=0) (arity_ops har) ⟨hno.1,hno.2.1,hno.2.2.1,hno.2.2.2,hc.2.2.1,hc.2.2.2.1,hc.2.2.2.2,hcall⟩ hvr hkk
   rw [if_neg (by rw [htr];decide)] at hr
   obtain⟨x1,_,_,_⟩:=Zhh (ks:=ks) hr hx
   obtain⟨y1,y2,y3⟩:=plain_val R inp g x1 (literal_plain hr hx)
   have hl0:Zac R.lt (.mk o n s l)=0:=by
    simp only [Zac]
    rw [if_neg hno.2.2.2,if_neg hc.2.2.1,if_neg (fun h=>h.elim hc.2.2.2.1 hc.2.2.2.2)]
    exact foldl_zero _ hz
   refine⟨by rw [y1,hl0],(fun t ht=>by rw [y2] at ht;cases ht),fun i=>⟨?_,?_⟩⟩
   ·rw [(y3 i).1,Zdu,if_neg (fun h=>by rw [hl0] at h;omega),if_neg hno.1,if_neg (fun h=>h.elim hno.2.1 hno.2.2.1),if_neg hno.2.2.2,if_neg hc.2.2.1,if_neg hc.2.2.2.2,if_neg hc.2.2.2.1,hvv i,if_neg (by rw [htr];decide)]
   rw [(y3 i).2]
   simp only [allT]
   rw [htl i]
   unfold ownT
   simp only [Ex.op,Ex.l]
   rw [hvv i,htr]
   rfl
 show SaysX R inp g (.mk o n s l) (Zb5 R.lt o n s l (foldL R.lt l))
 rw [Zij]
 unfold Zb5
 dsimp only
 have hrest:SaysX R inp g (.mk o n s l) (if ((l.map (Za6 R.lt)).all fun e=>(Za3 e).isSome)=true∧l.map (Za6 R.lt)≠[] then
   (if Zdo o ((l.map (Za6 R.lt)).map fun e=>(Za3 e).getD vz)=0∧(appM o ((l.map (Za6 R.lt)).map fun e=>(Za3 e).getD vz)).2=false then (Zbw (appM o ((l.map (Za6 R.lt)).map fun e=>(Za3 e).getD vz)).1).getD (.mk o n s (l.map (Za6 R.lt))) else .mk o n s (l.map (Za6 R.lt)))
  else .mk o n s (l.map (Za6 R.lt))):=by
  split
  ·rename_i h1
   split
   ·rename_i h2
    cases h3:Zbw (appM o ((l.map (Za6 R.lt)).map fun e=>(Za3 e).getD vz)).1 with
    | none=>exact hD
    | some x=>exact hR x h1.1 h2.1 h2.2 h3
   exact hD
  exact hD
 by_cases ho:o=oIf
 ·rw [if_pos ho]
  split
  ·rename_i v hv
   have hl3:=hif ho
   subst ho
   match l,hl3 with
   | [c,a,b],_=>
    have hc:=hI c (by simp)
    have hv:Za3 (Za6 R.lt c)=some v:=hv
    obtain⟨c1,c2,c3⟩:=plain_val R inp g (hS c (by simp)).form hv
    have hkif:Zam ks c=1∧Zam ks a=Zam ks b∧Zam ks (.mk oIf n s [c,a,b])=Zam ks a:=by
     rw [hkb] at hk ⊢
     have e:Zci oIf ((ks s).getD 0) (Zav ks [c,a,b])=(if Zam ks c=1∧Zam ks a=Zam ks b then Zam ks a else 0):=rfl
     rw [e] at hk ⊢
     split
     ·rename_i hh;exact⟨hh.1,hh.2,rfl⟩
     rename_i hh;rw [if_neg hh] at hk;exact absurd rfl hk
    have hvk:v.kind=1:=by
     rw [Ziw (hS c (by simp)).form (by rw [(hS c (by simp)).kind];exact hkp c (by simp)) hv,(hS c (by simp)).kind]
     exact hkif.1
    have hv01:=plain_one hv hvk
    have hlc:Zac R.lt c=0:=by rw [← hc.late];exact c1
    have hla:=(Zbj R.lt hb a).1
    have hlb:=(Zbj R.lt hb b).1
    have hlif:Zac R.lt (.mk oIf n s [c,a,b])=max (Zac R.lt a) (Zac R.lt b):=by
     have:Zac R.lt (.mk oIf n s [c,a,b])=max (max (max 0 (Zac R.lt c)) (Zac R.lt a)) (Zac R.lt b):=rfl
     rw [this,hlc]
     omega
    have hval:∀ i,¬ (i=0∧0<Zac R.lt (.mk oIf n s [c,a,b]))→wdV R inp g (.mk oIf n s [c,a,b]) i=if v.n=1 then wdV R inp g a i else wdV R inp g b i:=fun i hi=>by
     rw [Zdu,if_neg hi]
     have hvc:wdV R inp g c i=v:=by rw [← (hc.val i).1];exact (c3 i).1
     have:appM oIf (wdVs R inp g [c,a,b] i)=(if (wdV R inp g c i).n=1 then wdV R inp g a i else wdV R inp g b i,false):=rfl
     rw [this,hvc]
     rfl
    have htif:∀ i,allT R inp g (.mk oIf n s [c,a,b]) i=(allT R inp g a i || allT R inp g b i):=fun i=>by
     simp only [allT,Zdp,Bool.or_false]
     rw [Ze7 (by decide) (by decide),← (hc.val i).2,(c3 i).2]
     simp
    have pick:∀ (y z:Ex),y∈[c,a,b]→Zam ks y=Zam ks (.mk oIf n s [c,a,b])→Zac R.lt y=Zac R.lt (.mk oIf n s [c,a,b])→(∀ i,¬ (i=0∧0<Zac R.lt (.mk oIf n s [c,a,b]))→wdV R inp g (.mk oIf n s [c,a,b]) i=wdV R inp g y i)→(∀ i,allT R inp g (.mk oIf n s [c,a,b]) i=allT R inp g y i)→
      SaysX R inp g (.mk oIf n s [c,a,b]) (Za6 R.lt y):=fun y _ hy q1 q2 q3 q4=>by
     have hyI:=hI y hy
     refine⟨hyI.late.trans q2,fun t ht=>?_,fun i=>⟨?_,by rw [(hyI.val i).2,q4 i]⟩⟩
     ·have:=Zgd hy (hyI.once t ht)
      show t∈(if oIf=oPre then [] else if oIf=oFby then onceH [c,a,b] else (if oIf=Zbg then [s] else [])++Zhe [c,a,b])
      rw [if_neg (by decide),if_neg (by decide)]
      exact List.mem_append_right _ this
     rw [(hyI.val i).1]
     by_cases hi:i=0∧0<Zac R.lt (.mk oIf n s [c,a,b])
     ·rw [wd_nil R inp g y i (by rw [q2];exact hi),wd_nil R inp g _ i hi,hks,q1]
     rw [q3 i hi]
    by_cases hv0:v.n=0
    ·simp only [if_pos hv0]
     split
     ·rename_i hc2
      have hc2:Zax (Za6 R.lt a)=false∧Zac R.lt a≤Zac R.lt b:=hc2
      refine pick b a (by simp) (by rw [hkif.2.2,hkif.2.1]) (by rw [hlif];omega) (fun i hi=>by rw [hval i hi,if_neg (by omega)]) fun i=>?_
      rw [htif i,← ((hI a (by simp)).val i).2,Zic _ hc2.1 i,Bool.false_or]
     exact hrest
    simp only [if_neg hv0]
    split
    ·rename_i hc2
     have hc2:Zax (Za6 R.lt b)=false∧Zac R.lt b≤Zac R.lt a:=hc2
     refine pick a b (by simp) hkif.2.2.symm (by rw [hlif];omega) (fun i hi=>by rw [hval i hi,if_pos (by omega)]) fun i=>?_
     rw [htif i,← ((hI b (by simp)).val i).2,Zic _ hc2.1 i,Bool.or_false]
    exact hrest
  exact hrest
 rw [if_neg ho]
 exact hrest
theorem names_exact {p:Pr} (hck:Zak p=0) {f:Fl} (hf:f∈p.fl):Zaa p f.name=Zac (Zaa p) f.e:=by
 obtain⟨hb,hfix⟩:=Zbc p
 have h0:=hfix f hf
 have hle:∀ s,(if s=f.name then Zac (Zaa p) f.e else Zaa p s)≤Zaa p s:=fun s=>by
  split
  ·rename_i h;rw [h];exact h0
  exact Int.le_refl _
 have hbl:∀ s,0≤(if s=f.name then Zac (Zaa p) f.e else Zaa p s)∧(if s=f.name then Zac (Zaa p) f.e else Zaa p s)≤2:=fun s=>by
  split
  ·exact Zbj _ hb f.e
  exact hb s
 have:=Zdy (p:=p) (lt':=fun s=>if s=f.name then Zac (Zaa p) f.e else Zaa p s) hbl (fun h hh=>by
  have h1:=Zen hbl hb h.e fun t _=>hle t
  by_cases hn:h.name=f.name
  ·have hhf:=Zfc (Zct hck) hh hf hn
   subst hhf
   show _≤if h.name=h.name then _ else _
   rw [if_pos rfl]
   exact h1
  show _≤if h.name=f.name then _ else _
  rw [if_neg hn]
  exact Int.le_trans h1 (hfix h hh)) f.name
 have this:Zaa p f.name≤if f.name=f.name then Zac (Zaa p) f.e else Zaa p f.name:=this
 rw [if_pos rfl] at this
 omega
theorem le_foldl:∀ (l:List Int) (a:Int),a≤l.foldl max a∧∀ x∈l,x≤l.foldl max a
 | [],a=>⟨Int.le_refl _,fun x h=>by cases h⟩
 | y :: l,a=>by
  obtain⟨h1,h2⟩:=le_foldl l (max a y)
  rw [List.foldl_cons]
  refine⟨by omega,fun x hx=>?_⟩
  rcases List.mem_cons.1 hx with rfl | hx
  ·omega
  exact h2 x hx
theorem late_once {lt lt':ByteArray→Int} (hb:∀ s,0≤lt s∧lt s≤2) (hb':∀ s,0≤lt' s∧lt' s≤2) (hle:∀ s,lt' s≤lt s):∀ e:Ex,(∀ s∈Zee e,lt' s=lt s)→Zac lt e≤1→Zac lt' e=Zac lt e:=by
 refine Ex.ind fun o n s l ih hn h1=>?_
 have hm:∀ k,(Zan lt' l).getD k 0≤(Zan lt l).getD k 0∧0≤(Zan lt' l).getD k 0∧(Zan lt l).getD k 0≤2:=fun k=>by
  rw [Zbm,Zbm]
  split
  ·exact⟨Zen hb' hb _ fun t _=>hle t,(Zbj lt' hb' _).1,(Zbj lt hb _).2⟩
  exact⟨Int.le_refl _,Int.le_refl _,by decide⟩
 simp only [Zac] at h1 ⊢
 by_cases e1:o=Zbg
 ·rw [if_pos e1,if_pos e1]
  refine hn s ?_
  simp only [Zee]
  rw [if_neg (by rw [e1];decide),if_neg (by rw [e1];decide),if_pos e1]
  simp
 rw [if_neg e1] at h1 ⊢
 rw [if_neg e1]
 by_cases e2:o=oPre
 ·rw [if_pos e2] at h1 ⊢
  rw [if_pos e2]
  have:=hm 0
  omega
 rw [if_neg e2] at h1 ⊢
 rw [if_neg e2]
 by_cases e3:o=Zbq∨o=oFby
 ·rw [if_pos e3] at h1 ⊢
  rw [if_pos e3]
  have m1:=hm 1
  by_cases e4:o=oFby
  ·simp only [if_pos e4] at h1 ⊢
   have hl1:(Zan lt l).getD 1 0=0:=by
    have:=m1
    split at h1
    ·omega
    omega
   have hl1':(Zan lt' l).getD 1 0=0:=by omega
   rw [hl1] at h1
   rw [hl1,hl1']
   rw [if_neg (by decide)] at h1
   rw [if_neg (by decide),if_neg (by decide)]
   rw [Zbm] at h1
   rw [Zbm,Zbm]
   split
   ·rename_i hl
    rw [dif_pos hl] at h1
    refine ih _ (List.getElem_mem hl) (fun t ht=>hn t ?_) h1
    simp only [Zee]
    rw [if_neg e2,if_pos e4]
    cases l with
    | nil=>simp at hl
    | cons y l=>simpa [onceH] using ht
   rfl
  simp only [if_neg e4] at h1 ⊢
  have hon:∀ e∈l,∀ t∈Zee e,lt' t=lt t:=fun e he t ht=>hn t (by
   simp only [Zee]
   rw [if_neg e2,if_neg e4]
   exact List.mem_append_right _ (Zgd he ht))
  have hk:∀ k,(Zan lt l).getD k 0≤1→(Zan lt' l).getD k 0=(Zan lt l).getD k 0:=fun k hk=>by
   rw [Zbm] at hk
   rw [Zbm,Zbm]
   split
   ·rename_i hl
    rw [dif_pos hl] at hk
    exact ih _ (List.getElem_mem hl) (hon _ (List.getElem_mem hl)) hk
   rfl
  have hb2:(Zan lt l).getD 1 0≠2:=fun h=>by rw [if_pos h] at h1;omega
  rw [if_neg hb2] at h1
  rw [if_neg hb2,hk 1 (by omega),if_neg hb2,hk 0 h1]
 rw [if_neg e3] at h1 ⊢
 rw [if_neg e3]
 have e4:o≠oFby:=fun h=>e3 (.inr h)
 have hall:Zan lt' l=Zan lt l:=by
  rw [Zcl,Zcl]
  refine List.map_congr_left fun e he=>ih e he (fun t ht=>hn t ?_) ?_
  ·simp only [Zee]
   rw [if_neg e2,if_neg e4]
   exact List.mem_append_right _ (Zgd he ht)
  have:=(le_foldl (Zan lt l) 0).2 (Zac lt e) (by rw [Zcl];exact List.mem_map_of_mem he)
  omega
 rw [hall]
theorem flNames_map (F:Fl→Fl) (hF:∀ f,(F f).name=f.name):∀ (l:List Fl) (i:Nat) (m:Env Int),Zc5 i m (l.map F)=Zc5 i m l
 | [],_,_=>rfl
 | f :: l,i,m=>by
  simp only [List.map_cons,Zc5]
  rw [hF f,flNames_map F hF l]
theorem fold_right {p:Pr} (hc:(Za0 p).1=0):(Za0 (Zcc p)).1=0∧∀ nb ni inp,runM nb ni (Zcc p) inp=runM nb ni p inp:=by
 obtain⟨ol,hord,hhit,hlate⟩:=Zbx hc
 obtain⟨hck,_,_⟩:=Zbe hord
 obtain⟨hckQ,_⟩:=fold_check hck
 obtain⟨ks,hks,_⟩:=Zbs hck
 have htk:=Ze2 hck hks
 obtain⟨hb,hfix⟩:=Zbc p
 have hsay:∀ (R:REnv) (inp:Nat→List Vl) (g:Nat→Nat→Vl),R.ks=ks→R.lt=Zaa p→∀ e∈p.terms,SaysX R inp g e (Za6 (Zaa p) e):=fun R inp g h1 h2 e he=>by
  have:=fold_says (R:=R) h1 (by rw [h2];exact hb) inp g e (htk e he).1 (htk e he).2
  rw [h2] at this
  exact this
 have hsay0:=hsay ⟨ks,Zaa p,getI (Zaj p),false,0⟩ (fun _=>[]) (fun _ _=>vz) rfl rfl
 have hQf:(Zcc p).fl=p.fl.map fun f=>{ f with e:=Za6 (Zaa p) f.e }:=rfl
 have hnm:(Zcc p).fl.map (·.name)=p.fl.map (·.name):=by rw [hQf,List.map_map];rfl
 have hpm:∀ e∈p.as++p.cs,e∈p.terms:=fun e he=>by
  unfold Pr.terms
  rw [List.append_assoc]
  exact List.mem_append_right _ he
 obtain⟨ρ,hρ⟩:=order_rho hord
 obtain⟨l',hordQ⟩:=order_names hckQ ρ fun f hf s hs hsn=>by
  rw [hQf] at hf
  obtain⟨f',hf',rfl⟩:=List.mem_map.1 hf
  rw [hnm] at hsn
  exact hρ f' hf' s ((hsay0 f'.e (Zcg p hf')).once s hs) hsn
 -- lateness
 have hQle:∀ s,Zaa (Zcc p) s≤Zaa p s:=Zdy hb fun f hf=>by
  rw [hQf] at hf
  obtain⟨f',hf',rfl⟩:=List.mem_map.1 hf
  show Zac (Zaa p) (Za6 (Zaa p) f'.e)≤Zaa p f'.name
  rw [show Zac (Zaa p) (Za6 (Zaa p) f'.e)=Zac (Zaa p) f'.e from (hsay0 f'.e (Zcg p hf')).late]
  exact hfix f' hf'
 have hQfl:∀ (n:Nat) (f:Fl),f∈p.fl→ρ f.name=n→Zaa (Zcc p) f.name=Zaa p f.name:=by
  intro n
  induction n using Nat.strongRecOn with
  | ind n ih=>
  intro f hf hn
  have hx:=names_exact hck hf
  have hsf:=hsay0 f.e (Zcg p hf)
  have hlf:Zac (Zaa p) (Za6 (Zaa p) f.e)=Zac (Zaa p) f.e:=hsf.late
  have hle1:Zaa p f.name≤1:=by
   obtain⟨k,hk,e2⟩:=List.mem_iff_getElem.1 hf
   have h1:=hhit k hk
   rw [e2] at h1
   unfold hit at h1
   simp only [Bool.or_eq_false_iff,decide_eq_false_iff_not] at h1
   have:=(hb f.name).2
   have:=h1.1
   omega
  have h2:=(Zbc (Zcc p)).2 { f with e:=Za6 (Zaa p) f.e } (by rw [hQf];exact List.mem_map.2 ⟨f,hf,rfl⟩)
  have h2:Zac (Zaa (Zcc p)) (Za6 (Zaa p) f.e)≤Zaa (Zcc p) f.name:=h2
  rw [late_once hb (Zbc (Zcc p)).1 hQle (Za6 (Zaa p) f.e) (fun s hs=>by
   have hso:=hsf.once s hs
   by_cases hsn:s∈p.fl.map (·.name)
   ·obtain⟨g,hg,rfl⟩:=List.mem_map.1 hsn
    exact ih (ρ g.name) (by rw [← hn];exact hρ f hf _ hso hsn) g hg rfl
   rw [Zd9 hsn,Zd9 (by rw [hnm];exact hsn)]) (by rw [hlf,← hx];exact hle1),hlf,← hx] at h2
  exact Int.le_antisymm (hQle _) h2
 have hQN:Zaa (Zcc p)=Zaa p:=by
  funext s
  by_cases hsn:s∈p.fl.map (·.name)
  ·obtain⟨g,hg,rfl⟩:=List.mem_map.1 hsn
   exact hQfl _ g hg rfl
  rw [Zd9 hsn,Zd9 (by rw [hnm];exact hsn)]
 have hcQ:(Za0 (Zcc p)).1=0:=by
  refine check_right hckQ hordQ (fun f hf=>?_) fun e he=>?_
  ·rw [hQf] at hf
   obtain⟨f',hf',rfl⟩:=List.mem_map.1 hf
   obtain⟨k,hk,e2⟩:=List.mem_iff_getElem.1 hf'
   have h1:=hhit k hk
   rw [e2] at h1
   unfold hit at h1 ⊢
   rw [hQN]
   exact h1
  have he2:e∈(p.as++p.cs).map (Za6 (Zaa p)):=by rw [List.map_append];exact he
  obtain⟨e',he',rfl⟩:=List.mem_map.1 he2
  rw [hQN,show Zac (Zaa p) (Za6 (Zaa p) e')=Zac (Zaa p) e' from (hsay0 e' (hpm e' he')).late]
  exact hlate e' he'
 refine⟨hcQ,fun nb ni inp=>?_⟩
 have hlen:(Zcc p).fl.length=p.fl.length:=by rw [hQf,List.length_map]
 refine run_sim hc hcQ id (Za6 (Zaa p)) rfl rfl rfl rfl (fun k hk=>?_) (fun f hf => .inl (by rw [hnm];exact List.mem_map_of_mem hf)) ?_ nb ni inp
 ·refine⟨by rw [← hlen];exact hk,?_,?_⟩<;>simp [hQf]
 intro ks0 ks' ord hks0 hks' _ nb ni inp fv _ e he _ i
 rw [hks] at hks0
 cases hks0
 have hv:(Zcc p).vars=p.vars:=by
  unfold Pr.vars
  rw [hQf,List.map_map]
  rfl
 rw [hv,hks] at hks'
 cases hks'
 have hnE:Zaj (Zcc p)=Zaj p:=by
  unfold Zaj
  rw [hQf,flNames_map (fun f=>{ f with e:=Za6 (Zaa p) f.e }) fun _=>rfl]
  rfl
 rw [hQN,hnE]
 exact (hsay ⟨ks,Zaa p,getI (Zaj p),nb,ni⟩ inp fv rfl rfl e he).val i
theorem same_right {p:Pr} (hc:(Za0 p).1=0):(Za0 (Zdb p)).1=0∧∀ nb ni inp,runM nb ni (Zdb p) inp=runM nb ni p inp:=by
 obtain⟨ol,hord,_⟩:=Zbx hc
 have hn:=Zct (Zbe hord).1
 have h:=sameR_run (ins:=p.ins) (outs:=p.outs) p.fl.length [] p.fl p.as p.cs (by rw [List.nil_append];exact hc)
 rw [sameR_is hn _ (Nat.le_refl _),List.nil_append] at h
 exact h
structure SlOk (p q:Pr):Prop where
 zero:(Za0 q).1=0
 runs:∀ nb ni inp,runM nb ni q inp=runM nb ni p inp
 ins_:q.ins=p.ins
 outs_:q.outs=p.outs
theorem SlOk.refl {p:Pr} (h:(Za0 p).1=0):SlOk p p:=⟨h,fun _ _ _=>rfl,rfl,rfl⟩
theorem SlOk.fold {p q:Pr} (h:SlOk p q):SlOk p (Zcc q):=
 ⟨(fold_right h.zero).1,fun nb ni inp=>((fold_right h.zero).2 nb ni inp).trans (h.runs nb ni inp),h.ins_,h.outs_⟩
theorem SlOk.drop {p q:Pr} (h:SlOk p q):SlOk p (Zb8 q):=
 ⟨(drop_right h.zero).1,fun nb ni inp=>(run_drop h.zero nb ni inp).trans (h.runs nb ni inp),h.ins_,h.outs_⟩
theorem SlOk.same {p q:Pr} (h:SlOk p q):SlOk p (Zdb q):=
 ⟨(same_right h.zero).1,fun nb ni inp=>((same_right h.zero).2 nb ni inp).trans (h.runs nb ni inp),h.ins_,h.outs_⟩
theorem SlOk.runE {p q:Pr} (h:SlOk p q) {ins:List (List Vl)} {ni ni':Int} (he:(runE p ins ni).1=0) (hn : -128≤ni'∧ni'≤127):runE q ins ni'=(0, -1):=by
 obtain⟨_,h1,_,h3⟩:=runE_zero he
 exact runE_of h.zero h1 hn fun l hl=>by rw [h.ins_];exact h3 l hl
theorem SlOk.sz {p q:Pr} (h:SlOk p q) (ho:p.outs.length≤1048576):q.ins.length≤30∧q.fl.length≤400∧q.outs.length≤1048576∧q.as.length≤4000∧q.cs.length≤4000∧Ex.partsL q.terms≤4000:=by
 obtain⟨l,hord,_⟩:=Zbx h.zero
 obtain⟨ks,_,_,_,h1,h2,h3,_⟩:=Zbs (Zbe hord).1
 have h4:=Zcb q.terms
 have h5:q.terms.length=q.fl.length+q.as.length+q.cs.length:=by simp only [Pr.terms,List.length_append,List.length_map]
 exact⟨h3,h1,by rw [h.outs_];exact ho,by omega,by omega,h2⟩
end Go.Proofs.YtofameafdnkijaaGreatDoor
