/- Plain: slim.Drop: what is needed; what is dropped leaves a right program; dropped again it is the same: no program in sight. -/
import Derived.Test.YtofameafdnkijaaGreatDoorBs
import Derived.Test.YtofameafdnkijaaGreatDoorRg
import Derived.Test.YtofameafdnkijaaGreatDoorOiP
import Derived.Test.YtofameafdnkijaaGreatDoorFormA
import Derived.Test.YtofameafdnkijaaGreatDoorKind
import Derived.Deep.RegionLaw
import Derived.Test.YtofameafdnkijaaGreatDoorEof
set_option linter.all false
namespace Go.Proofs.YtofameafdnkijaaGreatDoor
set_option maxRecDepth 100000
set_option maxHeartbeats 16000000
open Mx
mutual
def Zax:Ex→Bool
 | .mk o _ _ l=>decide (o=oDiv) || decide (o=oMod) || Zew l
def Zew:List Ex→Bool
 | []=>false
 | e :: l=>Zax e || Zew l
end
def exOf (fl:List Fl) (s:ByteArray):Option Ex:=(fl.find? fun f=>decide (f.name=s)).map (·.e)
def Zd8 (p:Pr):List ByteArray:=p.outs++(p.fl.filter fun f=>Zax f.e).map (·.name)++Zb0 (p.as++p.cs)
def Zhf (fl:List Fl):Nat→List ByteArray→List ByteArray→List ByteArray
 | 0,_,nd=>nd
 | _+1,[],nd=>nd
 | f+1,s :: r,nd=>
  match exOf fl s with
  | some e=>if s∈nd then Zhf fl f r nd else Zhf fl f ((Za7 e).reverse++r) (s :: nd)
  | none=>Zhf fl f r nd
def Zgb (nd:List ByteArray):List Fl→Nat
 | []=>0
 | f :: l=>(if f.name∈nd then 0 else 1+(Za7 f.e).length)+Zgb nd l
def Zdn (p:Pr):List ByteArray:=Zhf p.fl (1+(Zd8 p).length+Zgb [] p.fl) (Zd8 p).reverse []
def Zb8 (p:Pr):Pr:={ p with fl:=p.fl.filter fun f=>decide (f.name∈Zdn p) }
theorem exOf_cons (f:Fl) (fl:List Fl) (s:ByteArray):exOf (f :: fl) s=if f.name=s then some f.e else exOf fl s:=by
 unfold exOf
 rw [List.find?_cons]
 by_cases h:f.name=s<;>simp [h]
theorem Zgl {fl:List Fl} {s:ByteArray}:(exOf fl s).isSome=true↔s∈fl.map (·.name):=by
 induction fl with
 | nil=>simp [exOf]
 | cons f fl ih=>
  rw [exOf_cons]
  by_cases h:f.name=s
  ·simp [h]
  rw [if_neg h,ih]
  simp only [List.map_cons,List.mem_cons]
  constructor
  ·exact .inr
  rintro (e | e)
  ·exact absurd e.symm h
  exact e
theorem Zik {fl:List Fl} (hn:(fl.map (·.name)).Nodup) {f:Fl} (hf:f∈fl):exOf fl f.name=some f.e:=by
 induction fl with
 | nil=>cases hf
 | cons g fl ih=>
  rw [List.map_cons,List.nodup_cons] at hn
  rw [exOf_cons]
  rcases List.mem_cons.1 hf with rfl | hf
  ·rw [if_pos rfl]
  rw [if_neg (fun e=>hn.1 (by rw [e];exact List.mem_map.2 ⟨f,hf,rfl⟩)),ih hn.2 hf]
theorem Zit {nd:List ByteArray} {s:ByteArray}:∀ {fl:List Fl} {e:Ex},exOf fl s=some e→s∉nd→Zgb (s :: nd) fl+1+(Za7 e).length≤Zgb nd fl
 | [],e,h,_=>by simp [exOf] at h
 | f :: fl,e,h,hs=>by
  rw [exOf_cons] at h
  have hle:∀ l:List Fl,Zgb (s :: nd) l≤Zgb nd l:=fun l=>by
   induction l with
   | nil=>exact Nat.le_refl _
   | cons g l ih=>
    simp only [Zgb]
    have:(if g.name∈s :: nd then 0 else 1+(Za7 g.e).length)≤(if g.name∈nd then 0 else 1+(Za7 g.e).length):=by
     by_cases h1:g.name∈nd
     ·rw [if_pos (List.mem_cons_of_mem _ h1)];exact Nat.zero_le _
     rw [if_neg h1]
     split<;>omega
    omega
  simp only [Zgb]
  by_cases hf:f.name=s
  ·rw [if_pos hf] at h
   cases h
   have:=hle fl
   rw [if_pos (by rw [hf];exact List.mem_cons_self ..),if_neg (by rw [hf];exact hs)]
   omega
  rw [if_neg hf] at h
  have:=Zit (nd:=nd) h hs
  by_cases h1:f.name∈nd
  ·rw [if_pos h1,if_pos (List.mem_cons_of_mem _ h1)]
   omega
  rw [if_neg h1,if_neg (fun hm=>by
   rcases List.mem_cons.1 hm with e | e
   ·exact hf e
   exact h1 e)]
  omega
def Closed (fl:List Fl) (nd:List ByteArray):Prop:=∀ s∈nd,∀ e,exOf fl s=some e→∀ t∈Za7 e,(exOf fl t).isSome=true→t∈nd
theorem Zg3 (fl:List Fl):∀ (f:Nat) (todo nd:List ByteArray),todo.length+Zgb nd fl<f→(∀ s∈nd,(exOf fl s).isSome=true)→
  (∀ s∈nd,∀ e,exOf fl s=some e→∀ t∈Za7 e,(exOf fl t).isSome=true→t∈nd∨t∈todo)→
  (∀ s∈nd,s∈Zhf fl f todo nd)∧(∀ s∈todo,(exOf fl s).isSome=true→s∈Zhf fl f todo nd)∧(∀ s∈Zhf fl f todo nd,(exOf fl s).isSome=true)∧Closed fl (Zhf fl f todo nd)∧
   ∀ Q:List ByteArray,(∀ s∈nd,s∈Q)→(∀ s∈todo,(exOf fl s).isSome=true→s∈Q)→Closed fl Q→∀ s∈Zhf fl f todo nd,s∈Q
 | 0,todo,nd,hf,_,_=>by omega
 | f+1,[],nd,hf,hs,hc=>by
  simp only [Zhf]
  refine⟨fun s h=>h,fun s h=>?_,hs,fun s h e he t ht hts=>?_,fun Q hQ _ _=>hQ⟩
  ·cases h
  rcases hc s h e he t ht hts with h1 | h1
  ·exact h1
  cases h1
 | f+1,x :: r,nd,hf,hs,hc=>by
  simp only [List.length_cons] at hf
  rw [Zhf]
  cases hx:exOf fl x with
  | none=>
   dsimp only
   obtain⟨g1,g2,g3,g4,g5⟩:=Zg3 fl f r nd (by omega) hs fun s h e he t ht hts=>by
    rcases hc s h e he t ht hts with h1 | h1
    ·exact .inl h1
    rcases List.mem_cons.1 h1 with e1 | e1
    ·rw [e1,hx] at hts;cases hts
    exact .inr e1
   refine⟨g1,fun s h hss=>?_,g3,g4,fun Q q1 q2 q3=>g5 Q q1 (fun s h hss=>q2 s (List.mem_cons_of_mem _ h) hss) q3⟩
   rcases List.mem_cons.1 h with e1 | e1
   ·rw [e1,hx] at hss;cases hss
   exact g2 s e1 hss
  | some ex=>
   dsimp only
   by_cases hin:x∈nd
   ·rw [if_pos hin]
    obtain⟨g1,g2,g3,g4,g5⟩:=Zg3 fl f r nd (by omega) hs fun s h e he t ht hts=>by
     rcases hc s h e he t ht hts with h1 | h1
     ·exact .inl h1
     rcases List.mem_cons.1 h1 with e1 | e1
     ·exact .inl (e1▸hin)
     exact .inr e1
    refine⟨g1,fun s h hss=>?_,g3,g4,fun Q q1 q2 q3=>g5 Q q1 (fun s h hss=>q2 s (List.mem_cons_of_mem _ h) hss) q3⟩
    rcases List.mem_cons.1 h with e1 | e1
    ·rw [e1];exact g1 x hin
    exact g2 s e1 hss
   rw [if_neg hin]
   have hm:=Zit hx hin
   obtain⟨g1,g2,g3,g4,g5⟩:=Zg3 fl f ((Za7 ex).reverse++r) (x :: nd) (by simp only [List.length_append,List.length_reverse];omega) (fun s h=>by
    rcases List.mem_cons.1 h with e1 | e1
    ·rw [e1,hx];rfl
    ·exact hs s e1) fun s h e he t ht hts=>by
    rcases List.mem_cons.1 h with e1 | e1
    ·rw [e1,hx] at he
     cases he
     exact .inr (List.mem_append_left _ (List.mem_reverse.2 ht))
    rcases hc s e1 e he t ht hts with h1 | h1
    ·exact .inl (List.mem_cons_of_mem _ h1)
    rcases List.mem_cons.1 h1 with e2 | e2
    ·exact .inl (e2▸List.mem_cons_self ..)
    exact .inr (List.mem_append_right _ e2)
   refine⟨fun s h=>g1 s (List.mem_cons_of_mem _ h),fun s h hss=>?_,g3,g4,fun Q q1 q2 q3=>g5 Q (fun s h=>?_) (fun s h hss=>?_) q3⟩
   ·rcases List.mem_cons.1 h with e1 | e1
    ·exact g1 s (e1▸List.mem_cons_self ..)
    exact g2 s (List.mem_append_right _ e1) hss
   ·rcases List.mem_cons.1 h with e1 | e1
    ·rw [e1];exact q2 x (List.mem_cons_self ..) (by rw [hx];rfl)
    exact q1 s e1
   rcases List.mem_append.1 h with e1 | e1
   ·exact q3 x (q2 x (List.mem_cons_self ..) (by rw [hx];rfl)) ex hx s (List.mem_reverse.1 e1) hss
   exact q2 s (List.mem_cons_of_mem _ e1) hss
theorem Zeg (p:Pr):(∀ s∈Zd8 p,s∈p.fl.map (·.name)→s∈Zdn p)∧(∀ s∈Zdn p,s∈p.fl.map (·.name))∧Closed p.fl (Zdn p)∧
  ∀ Q:List ByteArray,(∀ s∈Zd8 p,s∈p.fl.map (·.name)→s∈Q)→Closed p.fl Q→∀ s∈Zdn p,s∈Q:=by
 obtain⟨_,g2,g3,g4,g5⟩:=Zg3 p.fl (1+(Zd8 p).length+Zgb [] p.fl) (Zd8 p).reverse [] (by simp only [List.length_reverse];omega) (fun s h=>by cases h) (fun s h=>by cases h)
 refine⟨fun s h hs=>g2 s (List.mem_reverse.2 h) (Zgl.2 hs),fun s h=>Zgl.1 (g3 s h),g4,fun Q q1 q2=>g5 Q (fun s h=>?_) (fun s h hs=>q1 s (List.mem_reverse.1 h) (Zgl.1 hs)) q2⟩
 cases h
theorem Zd1 (p:Pr) (s:ByteArray):s∈(Zb8 p).fl.map (·.name)↔s∈Zdn p:=by
 obtain⟨_,h2,_⟩:=Zeg p
 unfold Zb8
 simp only [List.mem_map,List.mem_filter,decide_eq_true_eq]
 constructor
 ·rintro⟨f,⟨_,h⟩,rfl⟩;exact h
 intro h
 obtain⟨f,hf,e⟩:=List.mem_map.1 (h2 s h)
 exact⟨f,⟨hf,by rw [e];exact h⟩,e⟩
theorem Zi5 {p:Pr} (hn:(p.fl.map (·.name)).Nodup):Keeps p (Zb8 p) where
 ins:=rfl
 outs:=rfl
 asr:=rfl
 chk:=rfl
 sub:=List.filter_sublist
 root:=fun s hs hf=>(Zd1 p s).2 ((Zeg p).1 s (List.mem_append_left _ (List.mem_append_left _ hs)) hf)
 term:=fun e he s hs hf=>by
  refine (Zd1 p s).2 ?_
  obtain⟨h1,_,h3,_⟩:=Zeg p
  unfold Pr.terms at he
  rw [List.append_assoc] at he
  rcases List.mem_append.1 he with he | he
  ·obtain⟨f,hff,rfl⟩:=List.mem_map.1 he
   have hff:f∈p.fl∧f.name∈Zdn p:=by
    unfold Zb8 at hff
    simpa using hff
   exact h3 f.name hff.2 f.e (Zik hn hff.1) s hs (Zgl.2 hf)
  exact h1 s (List.mem_append_right _ (Zb7 he hs)) hf
theorem drop_twice {p:Pr} (hn:(p.fl.map (·.name)).Nodup):Zb8 (Zb8 p)=Zb8 p:=by
 obtain⟨h1,h2,h3,h4⟩:=Zeg p
 obtain⟨k1,k2,k3,_⟩:=Zeg (Zb8 p)
 have hsub:(Zb8 p).fl.Sublist p.fl:=List.filter_sublist
 have hnq:((Zb8 p).fl.map (·.name)).Nodup:=(hsub.map _).nodup hn
 have hex:∀ s,s∈Zdn p→exOf (Zb8 p).fl s=exOf p.fl s:=fun s hs=>by
  obtain⟨f,hf,e⟩:=List.mem_map.1 ((Zd1 p s).2 hs)
  rw [← e,Zik hnq hf,Zik hn (hsub.subset hf)]
 have hle:∀ s∈Zdn p,s∈Zdn (Zb8 p):=h4 _ (fun s hs hf=>by
  have hsn:=h1 s hs hf
  have hsq:=(Zd1 p s).2 hsn
  refine k1 s ?_ hsq
  unfold Zd8 at hs ⊢
  simp only [List.mem_append] at hs ⊢
  rcases hs with (hs | hs) | hs
  ·exact .inl (.inl hs)
  ·left;right
   obtain⟨f,hf,e⟩:=List.mem_map.1 hs
   obtain⟨hf1,hf2⟩:=List.mem_filter.1 hf
   refine List.mem_map.2 ⟨f,List.mem_filter.2 ⟨?_,hf2⟩,e⟩
   unfold Zb8
   exact List.mem_filter.2 ⟨hf1,by rw [e];simpa using hsn⟩
  exact .inr hs) fun s hs e he t ht hts=>by
  have hsn:=(Zd1 p s).1 (k2 s hs)
  have htn:=h3 s hsn e he t ht hts
  exact k3 s hs e (by rw [hex s hsn];exact he) t ht (by rw [hex t htn];exact hts)
 have hall:∀ f∈(Zb8 p).fl,decide (f.name∈Zdn (Zb8 p))=true:=fun f hf=>by
  simpa using hle _ ((Zd1 p f.name).1 (List.mem_map.2 ⟨f,hf,rfl⟩))
 show ({ Zb8 p with fl:=(Zb8 p).fl.filter fun f=>decide (f.name∈Zdn (Zb8 p)) }:Pr)=Zb8 p
 rw [List.filter_eq_self.2 hall]
theorem drop_right {p:Pr} (hc:(Za0 p).1=0):(Za0 (Zb8 p)).1=0∧Zb8 (Zb8 p)=Zb8 p∧(Zb8 p).fl.length≤p.fl.length:=by
 obtain⟨l,ho,_⟩:=Zbx hc
 have hn:=Zct (Zbe ho).1
 exact⟨keep_right (Zi5 hn) hc,drop_twice hn,(Zi5 hn).sub.length_le⟩
open Go.RowKit Mx
theorem Zf0:∀ (e:Ex),e.parts≤1000000000000→∀ (H:Kn) (v:Value),ExV H e v→∀ w:World,H.In w→
  Calls Tryz.prog 41 #[v] w fun r w'=>r = .returned (.bool (Zax e))∧Below w.heap.size w w':=by
 refine Ex.ind fun o n s l ih hp H v hv w hH=>?_
 obtain⟨u,rfl,hu⟩:=hv
 simp only [Ex.op,Ex.n,Ex.s,Ex.l,Ex.parts] at hu hp ⊢
 have hb:Below w.heap.size w (w.alloc (.cells #[.string o,.int .i64 n,.string s,u] 69)):=(Below.refl _ _).alloc (Nat.le_refl _) _
 have hcall:=Zf1 41 #[] (fun w'=>H.In w') H Zax l u ⟨fun _ _=>by kernel_rfl,fun w w' hI hb=>hI.below hb,fun e he v hv w hI=>ih e he (by have:=Zc3 he;omega) H v hv w hI⟩ hu _ (hH.below hb) (hH.below hb)
 have hd:l.any Zax=Zew l:=by
  clear ih hp hu hcall
  induction l with
  | nil=>rfl
  | cons e l ih=>simp only [List.any_cons,Zew,ih]
 have HB:=Zhd hb
 obtain⟨a,c,rfl⟩:=hu.len
 clear hb hu
 rcases Bool.eq_false_or_eq_true (o.toList==[47]) with p1 | p1
 ·have hr:Zax (.mk o n s l)=true:=by
   have:o=oDiv:=Classical.byContradiction fun hn=>by rw [Zb4 [47] hn] at p1;cases p1
   simp [Zax,this]
  rw [hr]
  go_enter Tryz.func41,Tryz.ntmps41
  go_wp2_with fail
  go_ret
  exact⟨rfl,HB.out⟩
 rcases Bool.eq_false_or_eq_true (o.toList==[109,111,100]) with p2 | p2
 ·have hr:Zax (.mk o n s l)=true:=by
   have:o=oMod:=Classical.byContradiction fun hn=>by rw [Zb4 [109,111,100] hn] at p2;cases p2
   simp [Zax,this]
  rw [hr]
  go_enter Tryz.func41,Tryz.ntmps41
  go_wp2_with fail
  go_ret
  exact⟨rfl,HB.out⟩
 have hr:Zax (.mk o n s l)=Zew l:=by
  have h1:o≠oDiv:=fun e=>by rw [e] at p1;exact Bool.noConfusion ((show (oDiv.toList==[47])=true from by kernel_rfl).symm.trans p1)
  have h2:o≠oMod:=fun e=>by rw [e] at p2;exact Bool.noConfusion ((show (oMod.toList==[109,111,100])=true from by kernel_rfl).symm.trans p2)
  simp [Zax,h1,h2]
 rw [hd] at hcall
 rw [hr]
 generalize Zew l=bb at *
 go_enter Tryz.func41,Tryz.ntmps41
 go_wp2_with fail
 refine hcall.mono ?_
 rintro r w1 ⟨rfl,hb1⟩
 go_wp2_with fail
 go_ret
 exact⟨rfl,HB.out.trans (hb1.mono HB.out.size)⟩
def UnF (o:Obj):Prop:=∃ c t,o = .cells c t (0,0)
def newU (n:Nat) (w:World):Kn:=fun b=>if b<n then none else match w.heap[b]? with
 | some (.cells c t (0,0))=>some (.cells c t (0,0))
 | _=>none
def Zif (K:Kn) (n:Nat) (w:World):Kn:=fun b=>if b<n then K b else newU n w b
def UF (K:Kn):Prop:=∀ b o,K b=some o→UnF o
theorem Zg0 {n:Nat} {w:World} {b:Nat} {o:Obj} (h:newU n w b=some o):n≤b∧w.heap[b]?=some o∧UnF o:=by
 unfold newU at h
 split at h
 ·cases h
 rename_i hb
 split at h
 ·rename_i c t hc
  cases h
  exact⟨by omega,hc,c,t,rfl⟩
 cases h
theorem newU_of {n:Nat} {w:World} {b:Nat} {o:Obj} (hb:n≤b) (h:w.heap[b]?=some o) (hu:UnF o):newU n w b=some o:=by
 obtain⟨c,t,rfl⟩:=hu
 unfold newU
 rw [if_neg (by omega),h]
 rfl
theorem Zhv (n:Nat) (w:World):(newU n w).In w:=fun _ _ e=>(Zg0 e).2.1
theorem newU_uf (n:Nat) (w:World):UF (newU n w):=fun _ _ e=>(Zg0 e).2.2
theorem Zgz {n:Nat} {w:World} {b:Nat} (hb:b<n):newU n w b=none:=by unfold newU;rw [if_pos hb]
theorem Zfq {K:Kn} {n:Nat} {w:World} (h:K.In w) (hl:∀ b,b<n→K b=none) (hu:UF K):K.le (newU n w):=fun b o e=>
 newU_of (Nat.le_of_not_lt fun hb=>by rw [hl b hb] at e;cases e) (h b o e) (hu b o e)
theorem ju_at {K:Kn} {n:Nat} {w:World} {M:Nat} (h:M<n):Zif K n w M=K M:=by unfold Zif;rw [if_pos h]
theorem ju_ge {K:Kn} {n:Nat} {w:World} {M:Nat} (h:n≤M):Zif K n w M=newU n w M:=by unfold Zif;rw [if_neg (by omega)]
theorem joinU_le {K:Kn} {w:World} (h:K.In w) (w':World):K.le (Zif K w.heap.size w'):=fun b o e=>by rw [ju_at (h.lt e)];exact e
theorem Zgi (K:Kn) (n:Nat) (w:World):(newU n w).le (Zif K n w):=fun b o e=>by rw [ju_ge (Zg0 e).1];exact e
theorem joinU_in {K:Kn} {w w':World} (h:K.In w) (hb:Below w.heap.size w w'):(Zif K w.heap.size w').In w':=fun b o e=>by
 rcases Nat.lt_or_ge b w.heap.size with h1 | h1
 ·rw [ju_at h1] at e;exact (hb.block b h1).trans (h b o e)
 rw [ju_ge h1] at e;exact (Zg0 e).2.1
theorem joinU_uf {K:Kn} (h:UF K) (n:Nat) (w:World):UF (Zif K n w):=fun b o e=>by
 rcases Nat.lt_or_ge b n with h1 | h1
 ·rw [ju_at h1] at e;exact h b o e
 rw [ju_ge h1] at e;exact (Zg0 e).2.2
theorem newU_mono {n:Nat} {w w':World} (hb:Below w.heap.size w w'):(newU n w).le (newU n w'):=fun b o e=>by
 obtain⟨h1,h2,h3⟩:=Zg0 e
 exact newU_of h1 ((hb.block b (Zlt h2)).trans h2) h3
theorem Zfy {K:Kn} {w:World} {base:Nat} {t:TypeId} {v:Value} {l:List Ex} {xs:List Value} (hK:K.In w) (hu:UF K) (h:w.ownsRow base t 4 v l.length xs) (hx:XsAt K l xs) (hr:∀ g,v.ownBlock=some g→K g=none):
  ∃ K',K.le K'∧K'.In w∧ExsV K' l v∧(∀ b,b<base→K' b=K b)∧UF K':=by
 by_cases h0:l=[]
 ·obtain⟨a,c,h1,_⟩:=Zau h
  exact⟨K,Kn.le_refl K,hK,.inl ⟨h0,a,c,by rw [h1,h0];rfl⟩,fun _ _=>rfl,hu⟩
 rcases h.2 with ⟨_,h2⟩ | ⟨g,cap,cur,h1,h2,h3,h4,h5,h6,h7⟩
 ·exact absurd (List.eq_nil_of_length_eq_zero h2) h0
 have hg:K g=none:=hr g (by rw [h1];rfl)
 obtain⟨g',cap',e1,e2,e3,_,_,e4⟩:=Zbp h (List.length_pos_iff.2 h0)
 rw [h1] at e1
 simp only [Value.slice.injEq,Option.some.injEq,Addr.mk.injEq,true_and,and_true] at e1
 obtain⟨rfl,rfl⟩:=e1
 refine⟨K.add g (.cells cur t (0,0)),Kn.le_add hg,hK.add h3,.inr ⟨g,0,cap,h1,h4,h5,hx.at (Kn.le_add hg) fun j u hj=>?_⟩,fun b hb=>Kn.add_other K _ (by omega),fun b o e=>?_⟩
 ·have h8:=e4 j u hj
  unfold Kn.cell
  rw [Kn.add_self,Nat.zero_add]
  simp only [World.cell?,h3] at h8
  exact h8
 by_cases hb:b=g
 ·rw [hb,Kn.add_self] at e
  exact⟨cur,t,(Option.some.inj e).symm⟩
 rw [Kn.add_other _ _ hb] at e
 exact hu b o e
structure OwI (w0 wr:World) (B:Nat) (o:ByteArray) (n:Int) (s:ByteArray) (l:List Ex) (k:Nat) (u:Value) (xs:List Value) (K:Kn):Prop where
 below:Below B w0 wr
 box:wr.heap[B]?=some (.cells #[.string o,.int .i64 n,.string s,u] 69 (0,0))
 res:wr.heap[B+1]?=some (.cells #[.string ⟨#[]⟩,.int .i64 0,.string ⟨#[]⟩,.slice none 0 0] 69 (0,0))
 row:wr.ownsRow (B+1+1) 69 4 u k xs
 isin:K.In wr
 low:∀ b,b<B+1+1→K b=none
 xs:XsAt K (l.take k) xs
 noR:∀ g,u.ownBlock=some g→K g=none
 uf:UF K
section
variable {w0 wr : World} {B : Nat} {o : ByteArray} {n : Int} {s : ByteArray} {l : List Ex} {k : Nat} {u : Value} {xs : List Value} {K : Kn}
theorem OwI.size (h:OwI w0 wr B o n s l k u xs K):B+1<wr.heap.size:=(Zlt h.res)
theorem OwI.later {w':World} (h:OwI w0 wr B o n s l k u xs K) (hb:Below wr.heap.size wr w'):OwI w0 w' B o n s l k u xs K:=by
 have hs:=h.size
 exact⟨h.below.trans (hb.mono (by omega)),(hb.block _ (by omega)).trans h.box,(hb.block _ (by omega)).trans h.res,Zao h.row hb,h.isin.below hb,h.low,h.xs,h.noR,h.uf⟩
theorem OwI.alloc (h:OwI w0 wr B o n s l k u xs K) (ob:Obj):OwI w0 (wr.alloc ob) B o n s l k u xs K:=h.later ((Below.refl _ _).alloc (Nat.le_refl _) ob)
theorem OwI.drew (h:OwI w0 wr B o n s l k u xs K):OwI w0 wr.drew B o n s l k u xs K:=h.later ((Below.refl _ _).drew)
theorem OwI.next {w':World} (h:OwI w0 wr B o n s l k u xs K) (hb:Below wr.heap.size wr w'):OwI w0 w' B o n s l k u xs (Zif K wr.heap.size w'):=by
 have hs:=h.size
 have h2:=h.later hb
 exact⟨h2.below,h2.box,h2.res,h2.row,joinU_in h.isin hb,fun b hb2=>by rw [ju_at (by omega)];exact h.low b hb2,h.xs.le (joinU_le h.isin w'),fun g hg=>by rw [ju_at (h.row.lt g hg).2];exact h.noR g hg,joinU_uf h.uf _ _⟩
theorem OwI.step {w3:World} {g cap':Nat} (h:OwI w0 wr B o n s l k u xs K) (hk:k<l.length) {x:Ex} (hx:l[k]=x) {a:Option Addr} {c:Nat} (hp:ExsV K x.l (.slice a x.l.length c))
  (hown:w3.ownsRow (B+1+1) 69 4 (.slice (some ⟨g,0,none⟩) (k+1) cap') (k+1) (xs++[.string x.op,.int .i64 x.n,.string x.s,.slice a x.l.length c])) (hg:wr.grownBy w3 u.ownBlock) (hat:u.ownBlock=some g∨g=wr.heap.size):
  w3.cell? ⟨B,3,none⟩=some u∧w3.frozen? ⟨B,3,none⟩=false∧OwI w0 (w3.setCell ⟨B,3,none⟩ (.slice (some ⟨g,0,none⟩) (k+1) cap')) B o n s l (k+1) (.slice (some ⟨g,0,none⟩) (k+1) cap') (xs++[.string x.op,.int .i64 x.n,.string x.s,.slice a x.l.length c]) K:=by
 subst hx
 have hs:=h.size
 have hb:∀ i,i<B+1+1→w3.heap[i]?=wr.heap[i]?:=fun i hi=>hg.block i (by omega) (fun e=>Zbn h.row hi e.symm)
 have hbx:w3.heap[B]?=_:=(hb _ (by omega)).trans h.box
 refine⟨by simp [World.cell?,hbx],by simp [World.frozen?,hbx],(h.below.grown hg (by omega) (fun q hq=>by have:=(h.row.lt q hq).1;omega)).setCell (p:=⟨B,3,none⟩) (Nat.le_refl B) _,?_,?_,Zaq hown (Zbn (b:=B) hown (by omega)) _,(h.isin.grown hg h.noR).setCell (a:=⟨B,3,none⟩) (h.low B (by omega)) _,h.low,?_,fun q hq=>?_,h.uf⟩
 ·rw [Zab _ _ _ _ _ _ _ hbx];rfl
 ·rw [Below.heap_setCell _ ⟨B,3,none⟩ _ (B+1) (by show B+1≠B;omega)]
  exact (hb _ (by omega)).trans h.res
 ·rw [Zb2 _ _ hk]
  exact h.xs.append ⟨a,c,[],rfl,hp,rfl⟩
 have hqq:g=q:=by simpa [Value.ownBlock] using hq
 subst hqq
 rcases hat with h1 | h1
 ·exact h.noR g h1
 rw [h1];exact h.isin.isNone (Nat.le_refl _)
theorem OwI.cells (h:OwI w0 wr B o n s l k u xs K):wr.cell? ⟨B,0,none⟩=some (.string o)∧wr.cell? ⟨B,1,none⟩=some (.int .i64 n)∧wr.cell? ⟨B,2,none⟩=some (.string s)∧wr.cell? ⟨B,3,none⟩=some u:=by
 simp [World.cell?,h.box]
end
theorem own_any:∀ (e:Ex) (v:Value) (H:Kn),ExV H e v→e.parts≤1000000000000→∀ w:World,H.In w→
  Calls Tryz.prog 84 #[v] w fun r w'=>∃ v',r = .returned v'∧ExV (newU w.heap.size w') e v'∧Below w.heap.size w w':=by
 refine Ex.ind fun o n s l ih v H hv hp w hH=>?_
 obtain⟨u,rfl,hu⟩:=hv
 simp only [Ex.op,Ex.n,Ex.s,Ex.l] at hu ⊢
 obtain⟨a,cap,rfl⟩:=hu.len
 have hlp:=Zcb l
 simp only [Ex.parts] at hp
 obtain⟨i0,hi0,hz0,hz1,hz2⟩:=info_parts Tryz.infoEx
 have HU:=Zhd hu
 have IH:=Zhd ih
 clear hu ih
 go_enter Tryz.func84,Tryz.ntmps84
 go_wp2_with fail
 have hW0:Below w.heap.size w ((w.alloc (.cells #[.string o,.int .i64 n,.string s,.slice none 0 0] 69)).alloc (.cells #[.string ⟨#[]⟩,.int .i64 0,.string ⟨#[]⟩,.slice none 0 0] 69)):=((Below.refl _ _).alloc (Nat.le_refl _) _).alloc (by simp) _
 have hP0:((w.alloc (.cells #[.string o,.int .i64 n,.string s,.slice none 0 0] 69)).alloc (.cells #[.string ⟨#[]⟩,.int .i64 0,.string ⟨#[]⟩,.slice none 0 0] 69)).heap[w.heap.size]?=some (.cells #[.string o,.int .i64 n,.string s,.slice none 0 0] 69 (0,0)):=by
  rw [Below.heap_alloc _ _ _ (by simp)];exact heap_alloc_new _ _
 have hR0:((w.alloc (.cells #[.string o,.int .i64 n,.string s,.slice none 0 0] 69)).alloc (.cells #[.string ⟨#[]⟩,.int .i64 0,.string ⟨#[]⟩,.slice none 0 0] 69)).heap[w.heap.size+1]?=some (.cells #[.string ⟨#[]⟩,.int .i64 0,.string ⟨#[]⟩,.slice none 0 0] 69 (0,0)):=by
  rw [show w.heap.size+1=(w.alloc (.cells #[.string o,.int .i64 n,.string s,.slice none 0 0] 69)).heap.size from by simp];exact heap_alloc_new _ _
 generalize ((w.alloc (.cells #[.string o,.int .i64 n,.string s,.slice none 0 0] 69)).alloc (.cells #[.string ⟨#[]⟩,.int .i64 0,.string ⟨#[]⟩,.slice none 0 0] 69))=W0 at *
 have HS0:=Zhd (show OwI w W0 w.heap.size o n s l 0 (.slice none 0 0) [] (fun _=>none) from
  ⟨hW0,hP0,hR0,World.ownsRow_nil _ _ _ _,fun b o e=>(by cases e),fun _ _=>rfl,rfl,fun g hg=>by simp [Value.ownBlock] at hg,fun b o e=>(by cases e)⟩)
 clear hW0 hP0 hR0
 go_loopw [11] (fun i wr=>∃ (k:Nat) (u:Value) (xs:List Value) (K:Kn),i = .int .i64 k∧k≤l.length∧OwI w wr w.heap.size o n s l k u xs K) (fun i _=>l.length - (intOf i).toNat)
 case atStart=>exact⟨0,_,_,_,rfl,Nat.zero_le _,HS0.out⟩
 clear HS0
 obtain⟨k,u,xs,K,rfl,hk,hS⟩:=hrel
 have HS:=Zhd hS
 clear hS
 by_cases hkl:k<l.length
 ·obtain⟨b,off,ax,cx,rfl,c0,c1,c2,c3,hx⟩:=HU.out.at hkl
  obtain⟨x,hxe⟩:∃ x,l[k]=x:=⟨_,rfl⟩
  have hpx:x.parts≤1000000000000:=by have:=Za5 l k hkl;rw [hxe] at this;omega
  have hmem:x∈l:=by rw [← hxe];exact List.getElem_mem hkl
  rw [hxe] at c0 c1 c2 c3 hx
  have hHr:=hH.below HS.out.below
  have c0:=hHr.cell c0
  have c1:=hHr.cell c1
  have c2:=hHr.cell c2
  have c3:=hHr.cell c3
  have hex:=hx
  have hSA:=HS.out.alloc (.cells #[.string x.op,.int .i64 x.n,.string x.s,.slice ax x.l.length cx] 69)
  have hHA:=hHr.below ((Below.refl wr.heap.size wr).alloc (Nat.le_refl _) (.cells #[.string x.op,.int .i64 x.n,.string x.s,.slice ax x.l.length cx] 69))
  have hbx:=heap_alloc_new wr (.cells #[.string x.op,.int .i64 x.n,.string x.s,.slice ax x.l.length cx] 69)
  have HXE:=Zhd hxe
  have HSA:=Zhd hSA
  have HHA:=Zhd hHA
  have HBX:=Zhd hbx
  have HEX:=Zhd hex
  clear hxe hSA hHA hbx hHr hx hex
  have q3:(wr.alloc (.cells #[.string x.op,.int .i64 x.n,.string x.s,.slice ax x.l.length cx] 69)).drew.cell? ⟨w.heap.size,3,none⟩=some u:=HSA.out.cells.2.2.2
  obtain⟨y0,y1,y2,y3,_⟩:=Zag HBX.out
  have hSD:=HSA.out.drew
  have hHD:=HHA.out.drew
  go_wp2_with fail
  go_region_law (first | (go_simp;go_at_call 84;refine (IH.out x hmem _ H HEX.out hpx _ hHD).mono ?_;rintro r wc ⟨v',rfl,hv2,hst⟩;obtain⟨u2,rfl,hu2⟩:=hv2;obtain⟨ax2,cx2,rfl⟩:=hu2.len;have hu2:=hu2.le (Zgi K _ wc);have hS2:=OwI.next hSD hst;have q5:=hS2.cells.2.2.2;have q6:=fun o=>(hS2.alloc o).cells.2.2.2) | (refine step_append_lies _ (by rfl) _ _ _ (by rfl) (w.heap.size+1+1) 69 i0 _ 4 64 Tryz.underlying39 hi0 hz0 hz1 hz2 rfl (by omega) u k xs (by rfl) (OwI.row (OwI.alloc (by assumption) _)) ⟨_,0,none⟩ 1 1 [.string x.op,.int .i64 x.n,.string x.s,.slice ax2 x.l.length cx2] (by rfl) (by rfl) (by exact World.news_of_block (heap_alloc_new _ _)) (by simp [Value.oneCell']) (by omega) (by unfold maxLen;omega) (by omega) (OwI.size (OwI.alloc (by assumption) _)) _ rfl ?_;intro gg cap' w3 hown hgrow hat hltg;obtain⟨hf1,hf2,hf3⟩:=OwI.step (OwI.alloc (by assumption) _) hkl HXE.out hu2 hown hgrow hat))
  all_goals generalize World.setCell _ _ _=W at hf3 ⊢
  all_goals go_wp2_with fail
  all_goals go_roundw
  all_goals first | exact⟨k+1,_,_,_,by go_num,by omega,hf3⟩ | (simp [intOf];omega)
 obtain rfl:k=l.length:=by omega
 obtain⟨au,cu,rfl,_⟩:=Zau HS.out.row
 have hxs:XsAt K (List.take l.length l) xs:=HS.out.xs
 rw [List.take_of_length_le (Nat.le_refl _)] at hxs
 obtain⟨K',hle,hin,hv,hfr,huf⟩:=Zfy HS.out.isin HS.out.uf HS.out.row hxs HS.out.noR
 obtain⟨q0,q1,q2,q3⟩:=HS.out.cells
 obtain⟨r0,r1,r2,r3,f0,f1,f2,f3,_⟩:=Zag HS.out.res
 have hR2:=Zdx HS.out.res (.string o) (.int .i64 n) (.string s) (.slice au l.length cu)
 have HR2:=Zhd hR2
 have hlow:∀ b,b<w.heap.size+1+1→K' b=none:=fun b hb=>(hfr b hb).trans (HS.out.low b hb)
 have hKR:=hlow (w.heap.size+1) (by omega)
 have hin2:=(((hin.setCell (a:=⟨w.heap.size+1,0,none⟩) hKR (.string o)).setCell (a:=⟨w.heap.size+1,1,none⟩) hKR (.int .i64 n)).setCell (a:=⟨w.heap.size+1,2,none⟩) hKR (.string s)).setCell (a:=⟨w.heap.size+1,3,none⟩) hKR (.slice au l.length cu)
 have HB2:=Zhd ((((HS.out.below.setCell (p:=⟨w.heap.size+1,0,none⟩) (Nat.le_succ _) (.string o)).setCell (p:=⟨w.heap.size+1,1,none⟩) (Nat.le_succ _) (.int .i64 n)).setCell (p:=⟨w.heap.size+1,2,none⟩) (Nat.le_succ _) (.string s)).setCell (p:=⟨w.heap.size+1,3,none⟩) (Nat.le_succ _) (.slice au l.length cu))
 have HV:=Zhd (hv.le (Zfq hin2 (n:=w.heap.size) (fun b hb=>hlow b (by omega)) huf))
 clear hR2 hv hin hfr hle hlow hin2 hKR hxs
 go_wp2_with fail
 obtain⟨e0,e1,e2,e3,_⟩:=Zag HR2.out
 refine bodyPost_ret (v := .agg #[.string o,.int .i64 n,.string s,.slice au l.length cu]) (by simp [results,Tryz.results84,go_sem,e0,e1,e2,e3]) rfl ?_
 exact⟨_,rfl,⟨_,rfl,HV.out⟩,HB2.out⟩
theorem mSlB2 {p:Prop} (h:p:=by
 have hIr:=HIr.out
 rw [List.take_of_length_le (Nat.le_refl _)] at hIr
 have HIr:=Zhd hIr
 clear hIr
 go_wp2_with fail
 first | go_end0 | (refine bodyPost_ret (results_none rfl _ _ _) rfl ?_)
 exact⟨rfl,by rw [HN.out];exact HIr.out,HFr.out⟩):p:=h
theorem mSlB1 {p:Prop} (h:p:=by
 have HFX:=Zhd (HFr.out.trans (FrE.of_below hb2))
 clear hx hin hb2
 go_wp2_with fail
 refine HX.out.mono ?_
 rintro r w3 ⟨rfl,hI3,hF3⟩
 have HI3:=Zhd hI3
 have HF3:=Zhd (HFX.out.trans hF3)
 clear hI3 hF3 HX
 go_wp2_with fail
 go_roundw
 case rel=>exact⟨q+1,by go_num,by omega,by rw [HT.out];simpa [List.append_assoc] using HI3.out,HF3.out⟩
 simp [intOf];omega):p:=h
def FrE (w w':World):Prop:=∀ (b:Nat) (c:Array Value) (fr:Nat×Nat),w.heap[b]?=some (Obj.cells c 69 fr)→w'.heap[b]?=some (Obj.cells c 69 fr)
theorem FrE.trans {a b c:World} (h:FrE a b) (k:FrE b c):FrE a c:=fun i x fr e=>k i x fr (h i x fr e)
theorem FrE.of_below {w w':World} (h:Below w.heap.size w w'):FrE w w':=fun b c fr e=>(h.block b (Zlt e)).trans e
structure SeerN (k:Nat) (cap:Array Value) (H:Kn) (I:List ByteArray→World→Prop):Prop where
 enters:Zdr Tryz.prog k
 next:∀ acc w w',I acc w→Below w.heap.size w w'→I acc w'
 isin:∀ acc w,I acc w→H.In w
 call:∀ acc w (s:ByteArray),acc.length≤1000000000→I acc w→Calls Tryz.prog k (#[.string s]++cap) w fun r w'=>r = .returned (.tuple #[])∧I (acc++[s]) w'∧FrE w w'
theorem Zeu:∀ (l:List Ex) (k:Nat) (h:k<l.length),Zb0 (l.take (k+1))=Zb0 (l.take k)++Za7 l[k]
 | e :: l,0,_=>by simp [Zb0]
 | e :: l,k+1,h=>by
  have:=Zeu l k (by simpa using h)
  simp only [List.take_succ_cons,Zb0,List.getElem_cons_succ]
  rw [this,List.append_assoc]
mutual
theorem namesX_len:∀ e:Ex,(Za7 e).length≤e.parts
 | .mk o n s l=>by
  have h:=Zdz l
  simp only [Za7,Ex.parts,List.length_append]
  split
  ·simp;omega
  simp;omega
theorem Zdz:∀ l:List Ex,(Zb0 l).length≤Ex.partsL l
 | []=>by simp [Zb0]
 | e :: l=>by
  have h1:=namesX_len e
  have h2:=Zdz l
  simp only [Zb0,Ex.partsL,List.length_append]
  omega
end
theorem partsL_tk:∀ (l:List Ex) (k:Nat),Ex.partsL (l.take k)≤Ex.partsL l
 | [],k=>by simp
 | e :: l,0=>by simp [Ex.partsL]
 | e :: l,k+1=>by have:=partsL_tk l k;simp only [List.take_succ_cons,Ex.partsL];omega
theorem Zgu:∀ (l:List Ex) (k:Nat) (h:k<l.length),Ex.partsL (l.take k)+l[k].parts≤Ex.partsL l
 | e :: l,0,_=>by simp [Ex.partsL]
 | e :: l,k+1,h=>by have:=Zgu l k (by simpa using h);simp only [List.take_succ_cons,Ex.partsL,List.getElem_cons_succ];omega
theorem snames_any (k:Nat) (cap:Array Value) (H:Kn) (I:List ByteArray→World→Prop) (hS:SeerN k cap H I):
  ∀ (e:Ex) (v:Value),ExV H e v→∀ acc w,acc.length+e.parts≤1000000000→I acc w→
  Calls Tryz.prog 43 #[v,.func (.func k) #[] cap] w fun r w'=>r = .returned (.tuple #[])∧I (acc++Za7 e) w'∧FrE w w':=by
 refine Ex.ind fun o n s l ih v hv acc w hlen hI=>?_
 obtain⟨u,rfl,hu⟩:=hv
 simp only [Ex.op,Ex.n,Ex.s,Ex.l] at hu ⊢
 obtain⟨a,c,rfl⟩:=hu.len
 have hen:=hS.enters
 unfold Zdr at hen
 have hb1:Below w.heap.size w (w.alloc (.cells #[.string o,.int .i64 n,.string s,.slice a l.length c] 69)):=(Below.refl _ _).alloc (Nat.le_refl _) _
 have HP1:=Zhd (heap_alloc_new w (.cells #[.string o,.int .i64 n,.string s,.slice a l.length c] 69))
 have HF1:=Zhd (FrE.of_below hb1)
 have HI1:=Zhd (hS.next _ _ _ hI hb1)
 have HU:=Zhd hu
 have HIH:=Zhd ih
 have HL:=Zhd (show acc.length+1+Ex.partsL l≤1000000000 from by simp only [Ex.parts] at hlen;omega)
 have hll:l.length≤1000000000:=by have:=Zcb l;have:=HL.out;omega
 clear hu hI ih hlen hb1
 obtain⟨pre,hpr⟩:∃ pre,pre=(if o=Zbg then [s] else []):=⟨_,rfl⟩
 have HN:=Zhd (show Za7 (.mk o n s l)=pre++Zb0 l from by rw [Za7,hpr])
 have HPL:=Zhd (show pre.length≤1 from by rw [hpr];split<;>simp)
 have hway:(o.toList==[110,97,109,101])=false∧pre=[]∨(o.toList==[110,97,109,101])=true∧pre=[s]:=by
  by_cases h:o=Zbg
  ·exact .inr ⟨by rw [← dLit];simpa using h,by rw [hpr,if_pos h]⟩
  exact .inl ⟨Zb4 _ h,by rw [hpr,if_neg h]⟩
 clear hpr
 obtain⟨p0,p1,p2,p3,_⟩:=Zag HP1.out
 rcases hway with ⟨t3,rfl⟩ | ⟨t3,rfl⟩
 ·go_enter Tryz.func43,Tryz.ntmps43
  go_wp2_with fail
  go_loopw [16] (fun i wr=>∃ q:Nat,i = .int .i64 q∧q≤l.length∧I (acc++([]++Zb0 (l.take q))) wr∧FrE w wr) (fun i _=>l.length - (intOf i).toNat)
  case atStart=>exact⟨0,rfl,Nat.zero_le _,by simpa [Zb0] using HI1.out,HF1.out⟩
  obtain⟨q,rfl,hq,hIr,hFr⟩:=hrel
  have HIr:=Zhd hIr
  have HFr:=Zhd hFr
  clear hIr hFr
  by_cases hql:q<l.length
  ·obtain⟨b,off,ax,cx,rfl,c0,c1,c2,c3,hx⟩:=ExsV.at HU.out hql
   have hin:=hS.isin _ _ HIr.out
   have c0:=hin.cell c0
   have c1:=hin.cell c1
   have c2:=hin.cell c2
   have c3:=hin.cell c3
   have hmem:=List.getElem_mem hql
   have hpl:=Zgu l q hql
   have HT:=Zhd (Zeu l q hql)
   have hnl:=Zdz (l.take q)
   generalize l[q]=x at *
   have hb2:Below wr.heap.size wr (wr.alloc (.cells #[.string x.op,.int .i64 x.n,.string x.s,.slice ax x.l.length cx] 69)):=(Below.refl _ _).alloc (Nat.le_refl _) _
   have HX:=Zhd (HIH.out x hmem _ hx (acc++([]++Zb0 (l.take q))) _ (by simp only [List.length_append,List.length_nil];have:=HL.out;omega) (hS.next _ _ _ HIr.out hb2))
   exact mSlB1
  obtain rfl:q=l.length:=by omega
  exact mSlB2
 go_enter Tryz.func43,Tryz.ntmps43
 go_wp2_with fail
 refine (hS.call acc _ s (by have:=HL.out;omega) HI1.out).mono ?_
 rintro r w2 ⟨rfl,hI2,hF2⟩
 have HI2:=Zhd hI2
 have HF2:=Zhd (HF1.out.trans hF2)
 obtain⟨r0,r1,r2,r3,_⟩:=Zag (hF2 _ _ _ HP1.out)
 clear hI2 hF2 p0 p1 p2 p3
 go_wp2_with fail
 go_loopw [16] (fun i wr=>∃ q:Nat,i = .int .i64 q∧q≤l.length∧I (acc++([s]++Zb0 (l.take q))) wr∧FrE w wr) (fun i _=>l.length - (intOf i).toNat)
 case atStart=>exact⟨0,rfl,Nat.zero_le _,by simpa [Zb0] using HI2.out,HF2.out⟩
 obtain⟨q,rfl,hq,hIr,hFr⟩:=hrel
 have HIr:=Zhd hIr
 have HFr:=Zhd hFr
 clear hIr hFr
 by_cases hql:q<l.length
 ·obtain⟨b,off,ax,cx,rfl,c0,c1,c2,c3,hx⟩:=ExsV.at HU.out hql
  have hin:=hS.isin _ _ HIr.out
  have c0:=hin.cell c0
  have c1:=hin.cell c1
  have c2:=hin.cell c2
  have c3:=hin.cell c3
  have hmem:=List.getElem_mem hql
  have hpl:=Zgu l q hql
  have HT:=Zhd (Zeu l q hql)
  have hnl:=Zdz (l.take q)
  generalize l[q]=x at *
  have hb2:Below wr.heap.size wr (wr.alloc (.cells #[.string x.op,.int .i64 x.n,.string x.s,.slice ax x.l.length cx] 69)):=(Below.refl _ _).alloc (Nat.le_refl _) _
  have HX:=Zhd (HIH.out x hmem _ hx (acc++([s]++Zb0 (l.take q))) _ (by simp only [List.length_append,List.length_cons,List.length_nil];have:=HL.out;omega) (hS.next _ _ _ HIr.out hb2))
  exact mSlB1
 obtain rfl:q=l.length:=by omega
 exact mSlB2
theorem sl_news {α:Type} {K:Kn} {W:World} (hK:K.In W) {k:Nat} (hk:0<k) {R:α→(Nat→Option Value)→Prop} {F:α→List Value} (hF:∀ x,(F x).length=k) (hR:∀ x f,R x f→∀ j u,(F x)[j]?=some u→f j=some u) {l:List α} {b off c:Nat}
  (h:SlV K k R l (.slice (some ⟨b,off,none⟩) l.length c)):∀ j u,(l.flatMap F)[j]?=some u→W.cell? ((⟨b,off,none⟩:Addr).add j)=some u:=fun j u hu=>by
 rw [Zdm]
 have hlen:∀ l:List α,(l.flatMap F).length=l.length * k:=fun l=>by
  induction l with
  | nil=>simp
  | cons x l ih=>rw [List.flatMap_cons,List.length_append,ih,hF,List.length_cons,Nat.succ_mul];omega
 have hj:j<l.length * k:=by
  rcases Nat.lt_or_ge j (l.length * k) with h1 | h1
  ·exact h1
  rw [List.getElem?_eq_none (by rw [hlen];exact h1)] at hu;cases hu
 have hi:j / k<l.length:=Nat.div_lt_of_lt_mul (by rw [Nat.mul_comm];exact hj)
 have hr:j % k<k:=Nat.mod_lt _ hk
 obtain⟨b2,off2,e2,d0⟩:=SlV.at h hi
 cases e2
 have hg:=Zfx k F hF l (j / k) hi (j % k) hr
 have hjj:j / k * k+j % k=j:=Nat.div_add_mod' j k
 rw [hjj] at hg
 have:=hR _ _ d0.2 (j % k) u (by rw [← hg];exact hu)
 have h2:K.cell b (off+j / k * k+j % k)=some u:=this
 rw [show off+j / k * k+j % k=off+j from by rw [Nat.add_assoc,hjj]] at h2
 exact hK.cell h2
theorem fm_one:∀ l:List ByteArray,l.flatMap (fun s=>[Value.string s])=l.map .string
 | []=>rfl
 | x :: l=>by rw [List.flatMap_cons,fm_one l];rfl
theorem run_appS {K:Kn} {W:World} (hK:K.In W) {l:List ByteArray} {a:Option Addr} {c:Nat} (h:Ziq K l (.slice a l.length c)) {base n:Nat} {v:Value} {xs:List Value} (hown:W.ownsRow base 9 1 v n xs) (hbase:base≤W.heap.size) (hl:n+l.length≤1000000000):
  ∃ v' W',(∀ ty,(Builtin.append_ #[23,23] ty #[v,.slice a l.length c]).run Tryz.prog W = .ok v' W')∧W'.ownsRow base 9 1 v' (n+l.length) (xs++l.map .string)∧W.grownBy W' v.ownBlock:=by
 obtain⟨i1,hi1,hy0,hy1,hy2⟩:=info_parts Tryz.infoStr1
 by_cases h0:l=[]
 ·subst h0
  exact⟨v,W,fun ty=>Zbz 23 9 i1 Tryz.underlying23 hi1 hown a c ty,by simpa using hown,⟨rfl,rfl,rfl,Nat.le_refl _,fun _ _ _=>rfl⟩⟩
 have hlen:0<l.length:=List.length_pos_iff.2 h0
 obtain⟨b,off,he,_⟩:=SlV.at h hlen
 subst he
 have hrun:=fun ty=>run_append_lies (P:=Tryz.prog) W 23 ty base 9 i1 _ 1 16 Tryz.underlying23 hi1 hy0 hy1 hy2 rfl (by omega) v n xs hown ⟨b,off,none⟩ l.length c (l.map .string) (by simp)
  (by
    have h2:=sl_news hK (k:=1) (by omega) (F:=fun s=>[.string s]) (fun _=>rfl) (fun x f hx j u hu=>by
     cases j with
     | zero=>simp at hu;rw [← hu];exact hx
     | succ j=>simp at hu) h
    rw [fm_one] at h2
    exact h2)
  (fun u hu=>by obtain⟨x,_,rfl⟩:=List.mem_map.1 hu;rfl) hlen (by unfold maxLen;omega) (by omega) hbase _ rfl
 obtain⟨g,cap',W',h1,h2,h3,h4,h5⟩:=hrun 0
 exact⟨_,W',fun ty=>h1,h2,h3⟩
def vrX (l:List Vr):List Value:=l.flatMap fun v=>[.string v.name,.int .i64 v.kind]
theorem vrX_len (l:List Vr):(vrX l).length=l.length * 2:=by
 unfold vrX
 induction l with
 | nil=>rfl
 | cons x l ih=>rw [List.flatMap_cons,List.length_append,ih];simp;omega
theorem run_appR {K:Kn} {W:World} (hK:K.In W) {l:List Vr} {a:Option Addr} {c:Nat} (h:VrsV K l (.slice a l.length c)) {base n:Nat} {v:Value} {xs:List Value} (hown:W.ownsRow base 158 2 v n xs) (hbase:base≤W.heap.size) (hl:n+l.length≤1000000000):
  ∃ v' W',(∀ ty,(Builtin.append_ #[37,37] ty #[v,.slice a l.length c]).run Tryz.prog W = .ok v' W')∧W'.ownsRow base 158 2 v' (n+l.length) (xs++vrX l)∧W.grownBy W' v.ownBlock:=by
 obtain⟨i1,hi1,hy0,hy1,hy2⟩:=info_parts Tryz.infoVr
 by_cases h0:l=[]
 ·subst h0
  exact⟨v,W,fun ty=>Zbz 37 158 i1 Tryz.underlying37 hi1 hown a c ty,by simpa [vrX] using hown,⟨rfl,rfl,rfl,Nat.le_refl _,fun _ _ _=>rfl⟩⟩
 have hlen:0<l.length:=List.length_pos_iff.2 h0
 obtain⟨b,off,he,_⟩:=SlV.at h hlen
 subst he
 have hrun:=fun ty=>run_append_lies (P:=Tryz.prog) W 37 ty base 158 i1 _ 2 24 Tryz.underlying37 hi1 hy0 hy1 hy2 rfl (by omega) v n xs hown ⟨b,off,none⟩ l.length c (vrX l) (vrX_len l)
  (sl_news hK (k:=2) (by omega) (F:=fun v:Vr=>[.string v.name,.int .i64 v.kind]) (fun _=>rfl) (fun x f hx j u hu=>by
     rcases j with _ | _ | j
     ·simp at hu;rw [← hu];exact hx.1
     ·simp at hu;rw [← hu];exact hx.2
     simp at hu) h)
  (fun u hu=>by
   obtain⟨x,_,hx⟩:=List.mem_flatMap.1 hu
   simp only [List.mem_cons,List.not_mem_nil,or_false] at hx
   rcases hx with rfl | rfl<;>rfl) hlen (by unfold maxLen;omega) (by omega) hbase _ rfl
 obtain⟨g,cap',W',h1,h2,h3,h4,h5⟩:=hrun 0
 exact⟨_,W',fun ty=>h1,h2,h3⟩
theorem cloneS_any (H:Kn) (l:List ByteArray) (v:Value) (hv:Ziq H l v) (hl:l.length≤1000000000) (w:World) (hH:H.In w):
  Calls Tryz.prog 40 #[v] w fun r w'=>∃ v',r = .returned v'∧w'.ownsRow w.heap.size 9 1 v' l.length (l.map .string)∧Below w.heap.size w w':=by
 have hrow0:(w.alloc (.cells #[] 9)).ownsRow w.heap.size 9 1 (.slice (some ⟨w.heap.size,0,none⟩) 0 0) 0 []:=World.ownsRow_made w #[] 0 (Nat.le_refl _) (Nat.zero_le _) rfl
 obtain⟨a,c,rfl⟩:=hv.len
 have hb0:Below w.heap.size w (w.alloc (.cells #[] 9)):=(Below.refl _ _).alloc (Nat.le_refl _) _
 obtain⟨v',W',hrun,hown,hg⟩:=run_appS (hH.below hb0) hv hrow0 (by simp) (by omega)
 have HB:=Zhd (show Below w.heap.size w W' from hb0.grown hg (by simp) (fun q hq=>(hrow0.lt q hq).1))
 have HV:=Zhd (show W'.ownsRow w.heap.size 9 1 v' l.length (l.map .string) from by simpa using hown)
 have HRUN:=Zhd hrun
 have h0:a=none→l=[]:=fun e=>by
  subst e
  rcases hv with ⟨h,_⟩ | ⟨b,off,cap,h,_⟩
  ·exact h
  cases h
 have HE:=Zhd h0
 clear hv hrow0 hb0 hrun hown hg h0
 cases a with
 | none=>
  have hl0:=HE.out rfl
  subst hl0
  have he:=fun w=>Lib.run_eql_slice_nil (P:=Tryz.prog) w 23 9 none 0 c 0 0 Tryz.underlying23
  go_enter Tryz.func40,Tryz.ntmps40
  go_wp2_with fail
  go_ret
  exact⟨_,rfl,World.ownsRow_nil _ _ _ _,Below.refl _ _⟩
 | some ad=>
  have he:=fun w=>Lib.run_eql_slice_nil (P:=Tryz.prog) w 23 9 (some ad) l.length c 0 0 Tryz.underlying23
  go_enter Tryz.func40,Tryz.ntmps40
  go_wp2_with (at_builtin;refine Zb1 rfl 23 23 _ _ rfl _ _ rfl rfl _ _ HRUN.out ?_)
  go_ret
  exact⟨_,rfl,HV.out,HB.out⟩
theorem cloneR_any (H:Kn) (l:List Vr) (v:Value) (hv:VrsV H l v) (hl:l.length≤1000000000) (w:World) (hH:H.In w):
  Calls Tryz.prog 83 #[v] w fun r w'=>∃ v',r = .returned v'∧w'.ownsRow w.heap.size 158 2 v' l.length (vrX l)∧Below w.heap.size w w':=by
 have hrow0:(w.alloc (.cells #[] 158)).ownsRow w.heap.size 158 2 (.slice (some ⟨w.heap.size,0,none⟩) 0 0) 0 []:=World.ownsRow_made w #[] 0 (Nat.le_refl _) (Nat.zero_le _) rfl
 obtain⟨a,c,rfl⟩:=hv.len
 have hb0:Below w.heap.size w (w.alloc (.cells #[] 158)):=(Below.refl _ _).alloc (Nat.le_refl _) _
 obtain⟨v',W',hrun,hown,hg⟩:=run_appR (hH.below hb0) hv hrow0 (by simp) (by omega)
 have HB:=Zhd (show Below w.heap.size w W' from hb0.grown hg (by simp) (fun q hq=>(hrow0.lt q hq).1))
 have HV:=Zhd (show W'.ownsRow w.heap.size 158 2 v' l.length (vrX l) from by simpa using hown)
 have HRUN:=Zhd hrun
 have h0:a=none→l=[]:=fun e=>by
  subst e
  rcases hv with ⟨h,_⟩ | ⟨b,off,cap,h,_⟩
  ·exact h
  cases h
 have HE:=Zhd h0
 clear hv hrow0 hb0 hrun hown hg h0
 cases a with
 | none=>
  have hl0:=HE.out rfl
  subst hl0
  have he:=fun w=>Lib.run_eql_slice_nil (P:=Tryz.prog) w 37 158 none 0 c 0 0 Tryz.underlying37
  go_enter Tryz.func83,Tryz.ntmps83
  go_wp2_with fail
  go_ret
  exact⟨_,rfl,World.ownsRow_nil _ _ _ _,Below.refl _ _⟩
 | some ad=>
  have he:=fun w=>Lib.run_eql_slice_nil (P:=Tryz.prog) w 37 158 (some ad) l.length c 0 0 Tryz.underlying37
  go_enter Tryz.func83,Tryz.ntmps83
  go_wp2_with (at_builtin;refine Zb1 rfl 37 37 _ _ rfl _ _ rfl rfl _ _ HRUN.out ?_)
  go_ret
  exact⟨_,rfl,HV.out,HB.out⟩
end Go.Proofs.YtofameafdnkijaaGreatDoor
