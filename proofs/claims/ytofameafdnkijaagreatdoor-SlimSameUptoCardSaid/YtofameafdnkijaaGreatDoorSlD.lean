/- Walks: slim.each: each term of a program, copied and changed. (Printed by gen_sld.py.) -/
import Derived.Test.YtofameafdnkijaaGreatDoorRg
import Derived.Test.YtofameafdnkijaaGreatDoorDrM
import Derived.Test.YtofameafdnkijaaGreatDoorEof
set_option linter.all false
namespace Go.Proofs.YtofameafdnkijaaGreatDoor
set_option maxRecDepth 100000
set_option maxHeartbeats 16000000
open Go.RowKit Mx
theorem mSlD2 {p:Prop} (h:p:=by
 try simp only [tkS]
 refine Zwo 5 rfl fun K_ hK=>?_
 go_simp
 go_at_call 40
 refine (cloneS_st H _ p.outs _ H2.out s2 _ (hHA hS2) hS.isin huf).mono ?_
 rintro r wc2 ⟨v2,K2,rfl,hv2,hst,huf⟩
 obtain⟨x2,y2,rfl⟩:=hv2.len
 have hKB:K2 B=none:=(hst.fresh B hlt).trans hKB
 have hbx:=(hst.below.block B hlt).trans hbx
 have hlt:B<wc2.heap.size:=Nat.lt_of_lt_of_le hlt hst.below.size
 have hv1:=SlV.le hv1 hst.le VrC.mono
 have hS:=hS.trans hst
 have hS2:=(Za8 W1).below hS.below
 refine hK.out _ _ hS2 Ztr ?_
 clear hst hK K_
 try simp only [tkS]
 refine tk2 (i:=6) (v:=?_) rfl hS2 Ztr ?hy ?_
 case hy=>intro w hSw;go_simp<;>with_reducible rfl
 try simp only [tkS]
 obtain⟨⟨z0,z1,z2,z3,z4⟩,f0,f1,f2,f3,f4⟩:=Zae hbx
 refine Zwo 8 rfl fun K_ hK=>?_
 go_simp
 refine hK.out _ _ (fun b o e=>in5 hS2 (hno hBge) _ _ _ _ _ b o e) Ztr ?_
 clear hK K_
 try simp only [tkS]
 exact Zei (by kernel_rfl) (show _ from⟨B,x1,y1,x2,y2,_,rfl,in5 hS.isin hKB _ _ _ _ _,hS.fresh,hKB,Zes hS.below hBge _ _ _ _ _,hBge,Zdd hbx _ _ _ _ _,hv1,hv2,huf⟩) _):p:=h
theorem mSlD1 {p:Prop} (h:p:=by
 intro w hSw;obtain⟨z0,z1⟩:=hSw.c2 k0 k1;first | (go_simp;done) | (go_simp;with_reducible rfl)):p:=h
structure HowOk (k:Nat) (cap:Array Value) (KH:Kn) (g:Ex→Ex) (P:Ex→Prop):Prop where
 enters:Zdr Tryz.prog k
 call:∀ (e:Ex) (v:Value) (n:Nat) (w:World),P e→ExV (newU n w) e v→n≤w.heap.size→KH.In w→(∀ b,n≤b→KH b=none)→Calls Tryz.prog k (#[v]++cap) w fun r w'=>∃ v',r = .returned v'∧ExV (newU n w') (g e) v'∧Below n w w'
structure BxI {α:Type} (E k:Nat) (X:Kn→List α→List Value→Prop) (bx:Value→Array Value) (K0:Kn) (w0 wr:World) (T base:Nat) (l:List α) (done:Nat) (u:Value) (xs:List Value) (K:Kn):Prop where
 below:Below T w0 wr
 keep:∀ b,b<base→b≠T→wr.heap[b]?=w0.heap[b]?
 size:base≤wr.heap.size
 box:wr.heap[T]?=some (.cells (bx u) 41 (0,0))
 row:wr.ownsRow base E k u done xs
 le:K0.le K
 fresh:∀ b,b<base→K b=K0 b
 isin:K.In wr
 xs:X K (l.take done) xs
 noR:∀ g,u.ownBlock=some g→K g=none
 uf:UF K
section
variable {α : Type} {E k : Nat} {X : Kn → List α → List Value → Prop} {bx : Value → Array Value} {K0 K : Kn} {w0 wr : World} {T base : Nat} {l : List α} {done : Nat} {u : Value} {xs : List Value}
theorem BxI.later {w':World} (hT:T<base) (h:BxI E k X bx K0 w0 wr T base l done u xs K) (hb:Below wr.heap.size wr w'):BxI E k X bx K0 w0 w' T base l done u xs K:=by
 have hs:=h.size
 exact⟨h.below.trans (hb.mono (by omega)),fun b h1 h2=>(hb.block b (by omega)).trans (h.keep b h1 h2),Nat.le_trans hs hb.size,(hb.block _ (by omega)).trans h.box,Zao h.row hb,h.le,h.fresh,h.isin.below hb,h.xs,h.noR,h.uf⟩
theorem BxI.next {w':World} (hX:∀ K K' l xs,Kn.le K K'→X K l xs→X K' l xs) (hT:T<base) (h:BxI E k X bx K0 w0 wr T base l done u xs K) (hb:Below wr.heap.size wr w'):BxI E k X bx K0 w0 w' T base l done u xs (Zif K wr.heap.size w'):=by
 have hs:=h.size
 have h2:=h.later hT hb
 exact⟨h2.below,h2.keep,h2.size,h2.box,h2.row,Kn.le_trans h.le (joinU_le h.isin w'),fun b hb2=>by rw [ju_at (by omega)];exact h.fresh b hb2,joinU_in h.isin hb,hX _ _ _ _ (joinU_le h.isin w') h.xs,fun g hg=>by rw [ju_at (h.row.lt g hg).2];exact h.noR g hg,joinU_uf h.uf _ _⟩
theorem BxI.put {F c:Nat} (hT:T<base) (h:BxI E k X bx K0 w0 wr T base l done u xs K) (hF:base≤F) (hu:u.ownBlock≠some F) (hK:K F=none) (v:Value):BxI E k X bx K0 w0 (wr.setCell ⟨F,c,none⟩ v) T base l done u xs K:=
 ⟨h.below.setCell (p:=⟨F,c,none⟩) (by show T≤F;omega) v,fun b h1 h2=>(Below.heap_setCell wr ⟨F,c,none⟩ v b (by show b≠F;omega)).trans (h.keep b h1 h2),by have:=h.size;simpa [World.setCell] using this,(Below.heap_setCell wr ⟨F,c,none⟩ v T (by show T≠F;omega)).trans h.box,Zaq h.row (a:=⟨F,c,none⟩) hu v,h.le,h.fresh,h.isin.setCell (a:=⟨F,c,none⟩) hK v,h.xs,h.noR,h.uf⟩
theorem BxI.step {w3:World} {g cap' c:Nat} {ys:List Value} (hT:T<base) (hbx:∀ u v,(bx u).setIfInBounds c v=bx v) (hK0:K0 T=none) (h:BxI E k X bx K0 w0 wr T base l done u xs K) (hx:X K (l.take (done+1)) (xs++ys))
  (hown:w3.ownsRow base E k (.slice (some ⟨g,0,none⟩) (done+1) cap') (done+1) (xs++ys)) (hg:wr.grownBy w3 u.ownBlock) (hat:u.ownBlock=some g∨g=wr.heap.size):
  w3.heap[T]?=some (.cells (bx u) 41 (0,0))∧BxI E k X bx K0 w0 (w3.setCell ⟨T,c,none⟩ (.slice (some ⟨g,0,none⟩) (done+1) cap')) T base l (done+1) (.slice (some ⟨g,0,none⟩) (done+1) cap') (xs++ys) K:=by
 have hs:=h.size
 have hb:∀ i,i<base→w3.heap[i]?=wr.heap[i]?:=fun i hi=>hg.block i (by omega) (fun e=>Zbn h.row hi e.symm)
 have hbx1:w3.heap[T]?=_:=(hb T hT).trans h.box
 refine⟨hbx1,(h.below.grown hg (by omega) (fun q hq=>by have:=(h.row.lt q hq).1;omega)).setCell (p:=⟨T,c,none⟩) (Nat.le_refl T) _,fun b h1 h2=>?_,?_,?_,Zaq hown (a:=⟨T,c,none⟩) (Zbn (b:=T) hown hT) _,h.le,h.fresh,(h.isin.grown hg h.noR).setCell (a:=⟨T,c,none⟩) ((h.fresh T hT).trans hK0) _,hx,fun q hq=>?_,h.uf⟩
 ·rw [Below.heap_setCell _ ⟨T,c,none⟩ _ b (by show b≠T;exact h2)]
  exact (hb b h1).trans (h.keep b h1 h2)
 ·have:=hg.size
  simp [World.setCell]
  omega
 ·rw [Zab _ _ _ _ _ _ _ hbx1,hbx]
 have hqq:g=q:=by simpa [Value.ownBlock] using hq
 subst hqq
 rcases hat with h1 | h1
 ·exact h.noR g h1
 rw [h1];exact h.isin.isNone (Nat.le_refl _)
end
theorem slU_of_own {α:Type} {k:Nat} {R:Kn→α→(Nat→Option Value)→Prop} {K:Kn} (hu:UF K) {w:World} {base:Nat} {t:TypeId} {v:Value} {l:List α} {xs:List Value} (hK:K.In w) (h:w.ownsRow base t k v l.length xs) (hr:∀ g,v.ownBlock=some g→K g=none)
  (hR:∀ K',Kn.le K K'→∀ i (hi:i<l.length),∀ f:Nat→Option Value,(∀ j u,xs[i * k+j]?=some u→f j=some u)→R K' l[i] f):
  ∃ K',K.le K'∧K'.In w∧SlV K' k (R K') l v∧(∀ b,b<base→K' b=K b)∧UF K':=by
 by_cases h0:l=[]
 ·obtain⟨a,c,h1,_⟩:=Zau h
  exact⟨K,Kn.le_refl K,hK,.inl ⟨h0,a,c,by rw [h1,h0];rfl⟩,fun _ _=>rfl,hu⟩
 rcases h.2 with ⟨_,h2⟩ | ⟨g,cap,cur,h1,h2,h3,h4,h5,h6,h7⟩
 ·exact absurd (List.eq_nil_of_length_eq_zero h2) h0
 have hg:K g=none:=hr g (by rw [h1];rfl)
 obtain⟨g',cap',e1,e2,e3,_,_,e4⟩:=Zbp h (List.length_pos_iff.2 h0)
 rw [h1] at e1
 simp only [Value.slice.injEq,Option.some.injEq,Addr.mk.injEq,true_and,and_true] at e1
 obtain⟨rfl,rfl⟩:=e1
 refine⟨K.add g (.cells cur t (0,0)),Kn.le_add hg,hK.add h3,.inr ⟨g,0,cap,h1,h4,h5,fun i hi=>hR _ (Kn.le_add hg) i hi _ fun j u hj=>?_⟩,fun b hb=>Kn.add_other K _ (by omega),fun b o e=>?_⟩
 ·have h8:=e4 _ u hj
  unfold Kn.cell
  rw [Kn.add_self,Nat.zero_add]
  simp only [World.cell?,h3] at h8
  exact h8
 by_cases hb:b=g
 ·rw [hb,Kn.add_self] at e
  exact⟨cur,t,(Option.some.inj e).symm⟩
 rw [Kn.add_other _ _ hb] at e
 exact hu b o e
theorem cloneR_st (H K:Kn) (l:List Vr) (v:Value) (hv:VrsV H l v) (hl:l.length≤1000000000) (w:World) (hH:H.In w) (hK:K.In w) (hu:UF K):
  Calls Tryz.prog 83 #[v] w fun r w'=>∃ v' K',r = .returned v'∧VrsV K' l v'∧Kn.Step K w K' w'∧UF K':=by
 refine (cloneR_any H l v hv hl w hH).mono ?_
 rintro r w' ⟨v',rfl,hown,hb⟩
 obtain⟨K',h1,h2,h3,h4,h5⟩:=slU_of_own (K:=K) hu (R:=fun _=>VrC) (hK.below hb) hown (fun g hg=>hK.isNone (hown.lt g hg).1) fun K' _ i hi f hf=>by
  have hg:=fun j hj=>Zfx 2 (fun v:Vr=>[Value.string v.name,.int .i64 v.kind]) (fun _=>rfl) l i hi j hj
  exact⟨hf 0 _ (hg 0 (by decide)),hf 1 _ (hg 1 (by decide))⟩
 exact⟨v',K',rfl,h3,⟨h1,h4,h2,hb⟩,h5⟩
def StrsZ (H:Kn) (l:List ByteArray) (v:Value):Prop:=Ziq H l v∧∀ b o n c,v = .slice (some ⟨b,o,none⟩) n c→o=0
theorem StrsZ.le {H H':Kn} {l:List ByteArray} {v:Value} (h:StrsZ H l v) (hle:H.le H'):StrsZ H' l v:=⟨SlV.le h.1 hle StrC.mono,h.2⟩
theorem StrsZ.len {H:Kn} {l:List ByteArray} {v:Value} (h:StrsZ H l v):∃ a cap,v = .slice a l.length cap:=SlV.len h.1
theorem cloneS_st (H K:Kn) (l:List ByteArray) (v:Value) (hv:Ziq H l v) (hl:l.length≤1000000000) (w:World) (hH:H.In w) (hK:K.In w) (hu:UF K):
  Calls Tryz.prog 40 #[v] w fun r w'=>∃ v' K',r = .returned v'∧StrsZ K' l v'∧Kn.Step K w K' w'∧UF K':=by
 refine (cloneS_any H l v hv hl w hH).mono ?_
 rintro r w' ⟨v',rfl,hown,hb⟩
 obtain⟨K',h1,h2,h3,h4,h5⟩:=slU_of_own (K:=K) hu (R:=fun _=>StrC) (hK.below hb) hown (fun g hg=>hK.isNone (hown.lt g hg).1) fun K' _ i hi f hf=>hf 0 _ (by simp [hi])
 refine⟨v',K',rfl,⟨h3,fun b o n c e=>?_⟩,⟨h1,h4,h2,hb⟩,h5⟩
 rcases hown.2 with ⟨e2,_⟩ | ⟨g,cap,cur,e2,_⟩
 ·rw [e2] at e;cases e
 rw [e2] at e;cases e;rfl
theorem Zdl {W:World} {b:Nat} {x y z u v t6:Value} {t:TypeId} (h:W.heap[b]?=some (.cells #[x,y,z,u,v,t6] t (0,0))):
  (W.cell? ⟨b,0,none⟩=some x∧W.cell? ⟨b,1,none⟩=some y∧W.cell? ⟨b,2,none⟩=some z∧W.cell? ⟨b,3,none⟩=some u∧W.cell? ⟨b,4,none⟩=some v∧W.cell? ⟨b,5,none⟩=some t6)∧W.frozen? ⟨b,2,none⟩=false∧W.frozen? ⟨b,3,none⟩=false∧W.frozen? ⟨b,4,none⟩=false∧W.frozen? ⟨b,5,none⟩=false∧b<W.heap.size:=
 ⟨⟨by simp [World.cell?,h],by simp [World.cell?,h],by simp [World.cell?,h],by simp [World.cell?,h],by simp [World.cell?,h],by simp [World.cell?,h]⟩,by simp [World.frozen?,h],by simp [World.frozen?,h],by simp [World.frozen?,h],by simp [World.frozen?,h],(Zlt h)⟩
theorem set6e {W:World} {b:Nat} {x y z u v t6:Value} {t:TypeId} (h:W.heap[b]?=some (.cells #[x,y,z,u,v,t6] t (0,0))) (p q r s:Value):
  ((((W.setCell ⟨b,2,none⟩ p).setCell ⟨b,3,none⟩ q).setCell ⟨b,4,none⟩ r).setCell ⟨b,5,none⟩ s).heap[b]?=some (.cells #[x,y,p,q,r,s] t (0,0)):=
 Zab _ b 5 s _ _ _ (Zab _ b 4 r _ _ _ (Zab _ b 3 q _ _ _ (Zab W b 2 p _ _ _ h)))
theorem cells6 (w:World) (x y z u v t6:Value) (t:TypeId):∀ j a,[x,y,z,u,v,t6][j]?=some a→(w.alloc (.cells #[x,y,z,u,v,t6] t)).cell? ((⟨w.heap.size,0,none⟩:Addr).add j)=some a:=by
 intro j a h
 rw [Zdm,World.cell?_alloc_new]
 simpa using h
theorem terms_as (p:Pr) {e:Ex} (h:e∈p.as):e∈p.terms:=by unfold Pr.terms;exact List.mem_append_left _ (List.mem_append_right _ h)
theorem terms_cs (p:Pr) {e:Ex} (h:e∈p.cs):e∈p.terms:=by unfold Pr.terms;exact List.mem_append_right _ h
def mapF (g:Ex→Ex) (f:Fl):Fl:={ f with e:=g f.e }
theorem Zbi:∀ (a b:List Ex),Ex.partsL (a++b)=Ex.partsL a+Ex.partsL b
 | [],b=>by simp [Ex.partsL]
 | x :: a,b=>by simp only [List.cons_append,Ex.partsL,Zbi a b];omega
def FsG (g:Ex→Ex) (K:Kn) (l:List Fl) (xs:List Value):Prop:=FsX K (l.map (mapF g)) xs
def XsG (g:Ex→Ex) (K:Kn) (l:List Ex) (xs:List Value):Prop:=XsAt K (l.map g) xs
theorem FsG.mono (g:Ex→Ex):∀ (K K':Kn) (l:List Fl) (xs:List Value),Kn.le K K'→FsG g K l xs→FsG g K' l xs:=fun _ _ _ _ hle h=>FsX.le hle h
theorem XsG.mono (g:Ex→Ex):∀ (K K':Kn) (l:List Ex) (xs:List Value),Kn.le K K'→XsG g K l xs→XsG g K' l xs:=fun _ _ _ _ hle h=>XsAt.le hle h
theorem FsG.snoc {g:Ex→Ex} {K:Kn} {l:List Fl} {k:Nat} {xs:List Value} (h:FsG g K (l.take k) xs) (hk:k<l.length) {f:Fl} (hf:l[k]=f) {ge:Ex} (hge:ge=g f.e) {a:Option Addr} {c:Nat} (hp:ExsV K ge.l (.slice a ge.l.length c)):
  FsG g K (l.take (k+1)) (xs++[.string f.name,.int .i64 f.kind,.string ge.op,.int .i64 ge.n,.string ge.s,.slice a ge.l.length c]):=by
 subst hf
 subst hge
 unfold FsG
 rw [Zb2 _ _ hk,List.map_append]
 exact FsX.append h ⟨a,c,[],rfl,hp,rfl⟩
theorem XsG.snoc {g:Ex→Ex} {K:Kn} {l:List Ex} {k:Nat} {xs:List Value} (h:XsG g K (l.take k) xs) (hk:k<l.length) {e:Ex} (he:l[k]=e) {ge:Ex} (hge:ge=g e) {a:Option Addr} {c:Nat} (hp:ExsV K ge.l (.slice a ge.l.length c)):
  XsG g K (l.take (k+1)) (xs++[.string ge.op,.int .i64 ge.n,.string ge.s,.slice a ge.l.length c]):=by
 subst he
 subst hge
 unfold XsG
 rw [Zb2 _ _ hk,List.map_append]
 exact XsAt.append h ⟨a,c,[],rfl,hp,rfl⟩
theorem Zd4 {w w':World} {base k n:Nat} {e:TypeId} {v:Value} {xs:List Value} (h:w.ownsRow base e k v n xs) (hk:∀ g,v.ownBlock=some g→w'.heap[g]?=w.heap[g]?):w'.ownsRow base e k v n xs:=
 ⟨h.1,h.2.imp id fun⟨g,cap,cur,h1,h2,h3,h4⟩=>⟨g,cap,cur,h1,h2,(hk g (by rw [h1];rfl)).trans h3,h4⟩⟩
theorem own_base {w:World} {base b2 k n:Nat} {e:TypeId} {v:Value} {xs:List Value} (h:w.ownsRow base e k v n xs) (hb:b2≤base):w.ownsRow b2 e k v n xs:=
 ⟨h.1,h.2.imp id fun⟨g,cap,cur,h1,h2,h3⟩=>⟨g,cap,cur,h1,Nat.le_trans hb h2,h3⟩⟩
theorem own_after {w0 wr:World} {T base b2 k n:Nat} {e:TypeId} {v:Value} {xs:List Value} (h:w0.ownsRow b2 e k v n xs) (hT:T<b2) (hs:w0.heap.size≤base) (hk:∀ b,b<base→b≠T→wr.heap[b]?=w0.heap[b]?):wr.ownsRow b2 e k v n xs:=
 Zd4 h fun g hg=>hk g (Nat.lt_of_lt_of_le (h.lt g hg).2 hs) (fun e2=>Zbn h hT (e2▸hg))
def mapP (g:Ex→Ex) (p:Pr):Pr:=⟨p.ins,p.outs,p.fl.map (mapF g),p.as.map g,p.cs.map g⟩
def EachPost (g:Ex→Ex) (p:Pr) (w:World) (r:Ending) (w':World):Prop:=
 ∃ vi vo uL va vc xL K,r = .returned (.agg #[vi,vo,uL,va,vc])∧Below w.heap.size w w'∧K.In w'∧(∀ b,b<w.heap.size→K b=none)∧VrsV K p.ins vi∧StrsZ K p.outs vo∧w'.ownsRow w.heap.size 71 6 uL p.fl.length xL∧FsX K (p.fl.map (mapF g)) xL∧(∀ b,uL.ownBlock=some b→K b=none)∧ExsV K (p.as.map g) va∧ExsV K (p.cs.map g) vc∧UF K
theorem Zj5 (k:Nat) (cap:Array Value) (KH:Kn) (g:Ex→Ex) (P:Ex→Prop) (hh:HowOk k cap KH g P) (p:Pr) (vi vo vl va vc:Value) (H:Kn) (hp:PrP H p vi vo vl va vc)
  (hsz:p.ins.length≤1000000000∧p.outs.length≤1000000000∧p.fl.length≤1000000000∧Ex.partsL p.terms≤1000000000) (hP:∀ e∈p.terms,P e) (w:World) (hH:H.In w) (hKH:KH.In w):
  Calls Tryz.prog 37 #[.agg #[vi,vo,vl,va,vc],.func (.func k) #[] cap] w fun r w'=>EachPost g p w r w':=by
 obtain⟨h1,h2,h3,h4,h5⟩:=hp
 obtain⟨ai,ci,rfl⟩:=h1.len
 obtain⟨ao,co,rfl⟩:=h2.len
 obtain⟨al,cl,rfl⟩:=h3.len
 obtain⟨aa,ca,rfl⟩:=h4.len
 obtain⟨ac,cc,rfl⟩:=h5.len
 obtain⟨s1,s2,s3,s4⟩:=hsz
 have hen:=hh.enters
 unfold Zdr at hen
 have H1:=Zhd h1
 have H2:=Zhd h2
 have H3:=Zhd h3
 have H4:=Zhd h4
 have H5:=Zhd h5
 have HH:=Zhd hh
 have HP:=Zhd hP
 obtain⟨i0,hi0,hz0,hz1,hz2⟩:=info_parts Tryz.infoEx
 clear h1 h2 h3 h4 h5 hh hP
 obtain⟨t1,t2,t3⟩:Ex.partsL (p.fl.map (·.e))≤1000000000∧Ex.partsL p.as≤1000000000∧Ex.partsL p.cs≤1000000000:=by
  unfold Pr.terms at s4
  rw [Zbi,Zbi] at s4
  omega
 clear s4
 go_enter Tryz.func37,Tryz.ntmps37
 go_wp2_with fail
 have hP0:((w.alloc (.cells #[.slice ai p.ins.length ci,.slice ao p.outs.length co,.slice al p.fl.length cl,.slice aa p.as.length ca,.slice ac p.cs.length cc] 41)).alloc (.cells #[.slice none 0 0,.slice none 0 0,.slice none 0 0,.slice none 0 0,.slice none 0 0] 41)).heap[w.heap.size]?=some (.cells #[.slice ai p.ins.length ci,.slice ao p.outs.length co,.slice al p.fl.length cl,.slice aa p.as.length ca,.slice ac p.cs.length cc] 41 (0,0)):=by
  rw [Below.heap_alloc _ _ _ (by simp)];exact heap_alloc_new _ _
 have hR0:((w.alloc (.cells #[.slice ai p.ins.length ci,.slice ao p.outs.length co,.slice al p.fl.length cl,.slice aa p.as.length ca,.slice ac p.cs.length cc] 41)).alloc (.cells #[.slice none 0 0,.slice none 0 0,.slice none 0 0,.slice none 0 0,.slice none 0 0] 41)).heap[w.heap.size+1]?=some (.cells #[.slice none 0 0,.slice none 0 0,.slice none 0 0,.slice none 0 0,.slice none 0 0] 41 (0,0)):=by
  rw [show w.heap.size+1=(w.alloc (.cells #[.slice ai p.ins.length ci,.slice ao p.outs.length co,.slice al p.fl.length cl,.slice aa p.as.length ca,.slice ac p.cs.length cc] 41)).heap.size from by simp];exact heap_alloc_new _ _
 have hb0:Below w.heap.size w ((w.alloc (.cells #[.slice ai p.ins.length ci,.slice ao p.outs.length co,.slice al p.fl.length cl,.slice aa p.as.length ca,.slice ac p.cs.length cc] 41)).alloc (.cells #[.slice none 0 0,.slice none 0 0,.slice none 0 0,.slice none 0 0,.slice none 0 0] 41)):=((Below.refl _ _).alloc (Nat.le_refl _) _).alloc (by simp) _
 have hz1:((w.alloc (.cells #[.slice ai p.ins.length ci,.slice ao p.outs.length co,.slice al p.fl.length cl,.slice aa p.as.length ca,.slice ac p.cs.length cc] 41)).alloc (.cells #[.slice none 0 0,.slice none 0 0,.slice none 0 0,.slice none 0 0,.slice none 0 0] 41)).heap.size=w.heap.size+1+1:=by simp
 generalize (w.alloc (.cells #[.slice ai p.ins.length ci,.slice ao p.outs.length co,.slice al p.fl.length cl,.slice aa p.as.length ca,.slice ac p.cs.length cc] 41)).alloc (.cells #[.slice none 0 0,.slice none 0 0,.slice none 0 0,.slice none 0 0,.slice none 0 0] 41)=W1 at *
 have hc:=fun i=>Zap W1 w.heap.size i
 obtain⟨⟨e0,e1,e2,e3,e4⟩,_⟩:=Zae hP0
 have k0:(Zai W1).cell w.heap.size 0=some (.slice ai p.ins.length ci):=(hc 0).trans e0
 have k1:(Zai W1).cell w.heap.size 1=some (.slice ao p.outs.length co):=(hc 1).trans e1
 clear hc e0 e1 e2 e3 e4
 have HP0:=Zhd hP0
 have HR0:=Zhd hR0
 have HB0:=Zhd hb0
 have HZ1:=Zhd hz1
 have hs:Kn.Step (fun _=>none) W1 (fun _=>none) W1.drew:=⟨fun _ _ e=>e,fun _ _=>rfl,fun b o e=>(by cases e),(Below.refl _ _).drew⟩
 have hS2:(Zai W1).In W1.drew:=Za8 W1
 have hHA:∀ {w':World},(Zai W1).In w'→H.In w':=fun h b o e=>h b o (hH.below HB0.out b o e)
 have hno:∀ {T:Nat},W1.heap.size≤T→(Zai W1) T=none:=fun h=>(Za8 W1).isNone h
 clear hP0 hR0 hb0 hz1
 refine Code.wp_mono (Q:=fun e a' w'=>match e with | .normal=>∃ (T:Nat) (x1:Option Addr) (y1:Nat) (x2:Option Addr) (y2:Nat) (K3:Kn),a'={ tmps := #[.agg #[.slice ai p.ins.length ci,.slice ao p.outs.length co,.slice al p.fl.length cl,.slice aa p.as.length ca,.slice ac p.cs.length cc],.func (.func k) #[] cap,.pointer (some { block:=w.heap.size,off:=0 }),undef,.pointer (some { block:=w.heap.size+1,off:=0 }),.pointer (some { block:=T,off:=0 }),undef,undef,undef,undef,undef,undef,.pointer (some { block:=w.heap.size,off:=0 }),.slice ai p.ins.length ci,.slice x1 p.ins.length y1,.pointer (some { block:=w.heap.size,off:=1 }),.slice ao p.outs.length co,.slice x2 p.outs.length y2,.agg #[.slice x1 p.ins.length y1,.slice x2 p.outs.length y2,.slice none 0 0,.slice none 0 0,.slice none 0 0],undef,undef,undef,undef,undef,undef,undef,undef,undef,undef,undef,undef,undef,undef,undef,undef,undef,undef,undef,undef,undef,undef,undef,undef,undef,undef,undef,undef,undef,undef,undef,undef,undef,undef,undef,undef,undef,undef,undef,undef,undef,undef,undef,undef,undef,undef,undef,undef,undef,undef,undef,undef,undef,undef,undef],defers:=[] }∧(K3.In w'∧(∀ b,b<W1.heap.size→K3 b=none)∧K3 T=none∧Below W1.heap.size W1 w'∧W1.heap.size≤T∧w'.heap[T]?=some (.cells #[.slice x1 p.ins.length y1,.slice x2 p.outs.length y2,.slice none 0 0,.slice none 0 0,.slice none 0 0] 41 (0,0))∧VrsV K3 p.ins (.slice x1 p.ins.length y1)∧StrsZ K3 p.outs (.slice x2 p.outs.length y2)∧UF K3) | _=>False) ?rest ?reg
 case' reg=>
  refine Za2 (fun w'=>(Zai W1).In w') (fun _=>True) 8 (by kernel_rfl) ?_
  generalize W1.drew=Wd at hs hS2 ⊢
  refine tk2 (i:=0) (v:=?_) rfl hS2 Ztr ?hy ?_
  case hy=>exact mSlD1
  try simp only [tkS]
  refine tk2 (i:=3) (v:=?_) rfl hS2 Ztr ?hy ?_
  case hy=>exact mSlD1
  try simp only [tkS]
  refine tk2 (i:=1) (v:=?_) rfl hS2 Ztr ?hy ?_
  case hy=>exact mSlD1
  try simp only [tkS]
  refine tk2 (i:=4) (v:=?_) rfl hS2 Ztr ?hy ?_
  case hy=>exact mSlD1
  try simp only [tkS]
  have hS:=hs
  have huf:UF (fun _=>none):=fun b o e=>(by cases e)
  refine Zds (i:=2) (j:=7) (o:=_) (o':=_) (by kernel_rfl) rfl rfl (fun K_ hK=>?g0) (fun K_ hK=>?g1)
  case' g0=>
   go_simp
   go_at_call 83
   refine (cloneR_st H _ p.ins _ H1.out s1 _ (hHA hS2) hS.isin huf).mono ?_
   rintro r wc1 ⟨v1,K1,rfl,hv1,hst,huf⟩
   obtain⟨x1,y1,rfl⟩:=hv1.len
   have hS:=hS.trans hst
   have hS2:=(Za8 W1).below hS.below
   refine hK.out _ _ hS2 Ztr ?_
   clear hst hK K_
   try simp only [tkS]
   refine Zds (i:=5) (j:=7) (o:=_) (o':=_) (by kernel_rfl) rfl rfl (fun K_ hK=>?g2) (fun K_ hK=>?g3)
   case' g2=>
    go_simp
    go_at_call 40
    refine (cloneS_st H _ p.outs _ H2.out s2 _ (hHA hS2) hS.isin huf).mono ?_
    rintro r wc2 ⟨v2,K2,rfl,hv2,hst,huf⟩
    obtain⟨x2,y2,rfl⟩:=hv2.len
    have hv1:=SlV.le hv1 hst.le VrC.mono
    have hS:=hS.trans hst
    have hS2:=(Za8 W1).below hS.below
    refine hK.out _ _ hS2 Ztr ?_
    clear hst hK K_
    try simp only [tkS]
    refine tk2 (i:=6) (v:=?_) rfl hS2 Ztr ?hy ?_
    case hy=>intro w hSw;go_simp<;>with_reducible rfl
    try simp only [tkS]
    refine Zwo 7 rfl fun K_ hK=>?_
    go_simp
    refine hK.out _ _ (hS2.alloc _) Ztr ?_
    have hKB:K2 wc2.heap.size=none:=hS.isin.isNone (Nat.le_refl _)
    have hBge:W1.heap.size≤wc2.heap.size:=hS.below.size
    have hS:=Zdv hS (.cells #[.slice none 0 0,.slice none 0 0,.slice none 0 0,.slice none 0 0,.slice none 0 0] 41)
    have hS2:=hS2.alloc (.cells #[.slice none 0 0,.slice none 0 0,.slice none 0 0,.slice none 0 0,.slice none 0 0] 41)
    have hbx:(wc2.alloc (.cells #[.slice none 0 0,.slice none 0 0,.slice none 0 0,.slice none 0 0,.slice none 0 0] 41)).heap[wc2.heap.size]?=some (.cells #[.slice none 0 0,.slice none 0 0,.slice none 0 0,.slice none 0 0,.slice none 0 0] 41 (0,0)):=heap_alloc_new _ _
    have hlt:wc2.heap.size<(wc2.alloc (.cells #[.slice none 0 0,.slice none 0 0,.slice none 0 0,.slice none 0 0,.slice none 0 0] 41)).heap.size:=by simp
    generalize World.alloc wc2 (.cells #[.slice none 0 0,.slice none 0 0,.slice none 0 0,.slice none 0 0,.slice none 0 0] 41)=WA at hS hS2 hbx hlt ⊢
    generalize hBB:wc2.heap.size=B at hKB hBge hbx hlt ⊢
    clear hK K_
    try simp only [tkS]
    obtain⟨⟨z0,z1,z2,z3,z4⟩,f0,f1,f2,f3,f4⟩:=Zae hbx
    refine Zwo 8 rfl fun K_ hK=>?_
    go_simp
    refine hK.out _ _ (fun b o e=>in5 hS2 (hno hBge) _ _ _ _ _ b o e) Ztr ?_
    clear hK K_
    try simp only [tkS]
    exact Zei (by kernel_rfl) (show _ from⟨B,x1,y1,x2,y2,_,rfl,in5 hS.isin hKB _ _ _ _ _,hS.fresh,hKB,Zes hS.below hBge _ _ _ _ _,hBge,Zdd hbx _ _ _ _ _,hv1,hv2,huf⟩) _
   case' g3=>
    go_simp
    refine hK.out _ _ (hS2.alloc _) Ztr ?_
    have hKB:K1 wc1.heap.size=none:=hS.isin.isNone (Nat.le_refl _)
    have hBge:W1.heap.size≤wc1.heap.size:=hS.below.size
    have hS:=Zdv hS (.cells #[.slice none 0 0,.slice none 0 0,.slice none 0 0,.slice none 0 0,.slice none 0 0] 41)
    have hS2:=hS2.alloc (.cells #[.slice none 0 0,.slice none 0 0,.slice none 0 0,.slice none 0 0,.slice none 0 0] 41)
    have hbx:(wc1.alloc (.cells #[.slice none 0 0,.slice none 0 0,.slice none 0 0,.slice none 0 0,.slice none 0 0] 41)).heap[wc1.heap.size]?=some (.cells #[.slice none 0 0,.slice none 0 0,.slice none 0 0,.slice none 0 0,.slice none 0 0] 41 (0,0)):=heap_alloc_new _ _
    have hlt:wc1.heap.size<(wc1.alloc (.cells #[.slice none 0 0,.slice none 0 0,.slice none 0 0,.slice none 0 0,.slice none 0 0] 41)).heap.size:=by simp
    generalize World.alloc wc1 (.cells #[.slice none 0 0,.slice none 0 0,.slice none 0 0,.slice none 0 0,.slice none 0 0] 41)=WA at hS hS2 hbx hlt ⊢
    generalize hBB:wc1.heap.size=B at hKB hBge hbx hlt ⊢
    clear hK K_
    exact mSlD2
  case' g1=>
   go_simp
   refine hK.out _ _ (hS2.alloc _) Ztr ?_
   have hKB:(fun _=>none) Wd.heap.size=none:=hS.isin.isNone (Nat.le_refl _)
   have hBge:W1.heap.size≤Wd.heap.size:=hS.below.size
   have hS:=Zdv hS (.cells #[.slice none 0 0,.slice none 0 0,.slice none 0 0,.slice none 0 0,.slice none 0 0] 41)
   have hS2:=hS2.alloc (.cells #[.slice none 0 0,.slice none 0 0,.slice none 0 0,.slice none 0 0,.slice none 0 0] 41)
   have hbx:(Wd.alloc (.cells #[.slice none 0 0,.slice none 0 0,.slice none 0 0,.slice none 0 0,.slice none 0 0] 41)).heap[Wd.heap.size]?=some (.cells #[.slice none 0 0,.slice none 0 0,.slice none 0 0,.slice none 0 0,.slice none 0 0] 41 (0,0)):=heap_alloc_new _ _
   have hlt:Wd.heap.size<(Wd.alloc (.cells #[.slice none 0 0,.slice none 0 0,.slice none 0 0,.slice none 0 0,.slice none 0 0] 41)).heap.size:=by simp
   generalize World.alloc Wd (.cells #[.slice none 0 0,.slice none 0 0,.slice none 0 0,.slice none 0 0,.slice none 0 0] 41)=WA at hS hS2 hbx hlt ⊢
   generalize hBB:Wd.heap.size=B at hKB hBge hbx hlt ⊢
   clear hK K_
   try simp only [tkS]
   refine Zwo 2 rfl fun K_ hK=>?_
   go_simp
   go_at_call 83
   refine (cloneR_st H _ p.ins _ H1.out s1 _ (hHA hS2) hS.isin huf).mono ?_
   rintro r wc1 ⟨v1,K1,rfl,hv1,hst,huf⟩
   obtain⟨x1,y1,rfl⟩:=hv1.len
   have hKB:K1 B=none:=(hst.fresh B hlt).trans hKB
   have hbx:=(hst.below.block B hlt).trans hbx
   have hlt:B<wc1.heap.size:=Nat.lt_of_lt_of_le hlt hst.below.size
   have hS:=hS.trans hst
   have hS2:=(Za8 W1).below hS.below
   refine hK.out _ _ hS2 Ztr ?_
   clear hst hK K_
   exact mSlD2
 intro e a' W2 h
 cases e with
 | normal=>
  obtain⟨T,x1,y1,x2,y2,K3,rfl,g1,g2,g3,g4,g5,g6,g7,g8,g9⟩:=h
  clear hs hS2 k0 k1 hno hHA
  obtain⟨m0,m1,m2,m3,m4⟩:=(Zae ((g4.block w.heap.size (by have:=HZ1.out;omega)).trans HP0.out)).1
  have hTlt:T<W2.heap.size:=(Zlt g6)
  have HB2:=Zhd (HB0.out.trans (g4.mono HB0.out.size))
  have HP2:=Zhd ((g4.block w.heap.size (by have:=HZ1.out;omega)).trans HP0.out)
  have HR2:=Zhd ((g4.block (w.heap.size+1) (by have:=HZ1.out;omega)).trans HR0.out)
  have HI0:=Zhd (show BxI 71 6 (FsG g) (fun u => #[.slice x1 p.ins.length y1,.slice x2 p.outs.length y2,u,.slice none 0 0,.slice none 0 0]) K3 W2 W2 T W2.heap.size p.fl 0 (.slice none 0 0) [] K3 from
   ⟨Below.refl _ _,fun _ _ _=>rfl,Nat.le_refl _,g6,World.ownsRow_nil _ _ _ _,Kn.le_refl _,fun _ _=>rfl,g1,rfl,fun q hq=>by simp [Value.ownBlock] at hq,g9⟩)
  have G2:=Zhd g2
  have G7:=Zhd g7
  have G8:=Zhd g8
  have hTge:w.heap.size+1+1≤T:=by have:=HZ1.out;omega
  have hs12:W1.heap.size≤W2.heap.size:=g4.size
  have hs11:W1.heap.size=w.heap.size+1+1:=HZ1.out
  clear g1 g2 g4 g5 g6 g7 g8 HP0 HR0 HB0
  go_wp2_with fail
  go_loopw [22] (fun i wr=>∃ (q:Nat) (u:Value) (xs:List Value) (K:Kn),i = .int .i64 q∧q≤p.fl.length∧BxI 71 6 (FsG g) (fun u => #[.slice x1 p.ins.length y1,.slice x2 p.outs.length y2,u,.slice none 0 0,.slice none 0 0]) K3 W2 wr T W2.heap.size p.fl q u xs K) (fun i _=>p.fl.length - (intOf i).toNat)
  case atStart=>exact⟨0,_,_,_,rfl,Nat.zero_le _,HI0.out⟩
  clear HI0 m0 m1 m2 m3 m4
  obtain⟨q,u,xs,K,rfl,hq,hI⟩:=hrel
  have HI:=Zhd hI
  have HBr:=Zhd (HB2.out.trans (hI.below.mono (by omega)))
  obtain⟨au,cu,rfl,_⟩:=Zau hI.row
  clear hI
  by_cases hql:q<p.fl.length
  ·obtain⟨b,off,cap0,he,_,_,hcs⟩:=FlsV.cell H3.out (fun e=>by rw [e] at hql;simp at hql)
   cases he
   obtain⟨ax,cx,d0,d1,d2,d3,d4,d5,hx⟩:=hcs q hql
   obtain⟨f,hf⟩:∃ f,p.fl[q]=f:=⟨_,rfl⟩
   have hpf:f.e.parts≤1000000000000:=by
    have:=Za5 (p.fl.map (·.e)) q (by simpa using hql)
    have h2:=t1
    simp at this
    rw [hf] at this
    omega
   have hPf:=HP.out f.e (by rw [← hf];exact Zcg p (List.getElem_mem hql))
   rw [hf] at d0 d1 d2 d3 d4 d5 hx
   have hHr:=hH.below HBr.out
   have d0:=hHr.cell d0
   have d1:=hHr.cell d1
   have d2:=hHr.cell d2
   have d3:=hHr.cell d3
   have d4:=hHr.cell d4
   have d5:=hHr.cell d5
   have HXF:=Zhd hx
   have HFE:=Zhd hf
   have HPF:=Zhd hPf
   have hIA:=BxI.later hTlt HI.out ((Below.refl wr.heap.size wr).alloc (Nat.le_refl _) (.cells #[.string f.name,.int .i64 f.kind,.string f.e.op,.int .i64 f.e.n,.string f.e.s,.slice ax f.e.l.length cx] 71))
   have HIA:=Zhd hIA
   have HHA:=Zhd (hHr.below ((Below.refl wr.heap.size wr).alloc (Nat.le_refl _) (.cells #[.string f.name,.int .i64 f.kind,.string f.e.op,.int .i64 f.e.n,.string f.e.s,.slice ax f.e.l.length cx] 71)))
   have HKA:=Zhd ((hKH.below HBr.out).below ((Below.refl wr.heap.size wr).alloc (Nat.le_refl _) (.cells #[.string f.name,.int .i64 f.kind,.string f.e.op,.int .i64 f.e.n,.string f.e.s,.slice ax f.e.l.length cx] 71)))
   have HFB:=Zhd (heap_alloc_new wr (.cells #[.string f.name,.int .i64 f.kind,.string f.e.op,.int .i64 f.e.n,.string f.e.s,.slice ax f.e.l.length cx] 71))
   have hzA:(wr.alloc (.cells #[.string f.name,.int .i64 f.kind,.string f.e.op,.int .i64 f.e.n,.string f.e.s,.slice ax f.e.l.length cx] 71)).heap.size=wr.heap.size+1:=by simp
   clear hf hPf hIA hHr hx hcs
   go_wp2_with fail
   generalize wr.alloc (.cells #[.string f.name,.int .i64 f.kind,.string f.e.op,.int .i64 f.e.n,.string f.e.s,.slice ax f.e.l.length cx] 71)=wA at *
   refine (own_any f.e _ H ⟨_,rfl,HXF.out⟩ hpf wA HHA.out).mono ?_
   rintro r w5 ⟨v5,rfl,hv5,hb5⟩
   have hKn:∀ b,wA.heap.size≤b→KH b=none:=fun b hb=>hKH.isNone (by have:=HBr.out.size;omega)
   have hcall:=HH.out.call f.e v5 wA.heap.size w5 HPF.out hv5 hb5.size (HKA.out.below hb5) hKn
   have HB5:=Zhd hb5
   have HC5:=Zhd hcall
   clear hv5 hb5 hcall hKn
   go_wp2_with fail
   have hC5:=HC5.out
   obtain⟨ge,hge⟩:∃ ge,ge=g f.e:=⟨_,rfl⟩
   rw [← hge] at hC5
   have HGE:=Zhd hge
   refine hC5.mono ?_
   clear hC5 hge
   rintro r w6 ⟨v6,rfl,hv6,hb6⟩
   obtain⟨u6,rfl,hu6⟩:=hv6
   obtain⟨a6,c6,rfl⟩:=hu6.len
   have hb56:Below wA.heap.size wA w6:=HB5.out.trans hb6
   have hc6:=(hb56.block wr.heap.size (by omega)).trans HFB.out
   have HXS:=Zhd (hu6.le (Zgi K _ w6))
   have hKF:Zif K wA.heap.size w6 wr.heap.size=none:=by rw [ju_at (by omega)];exact HI.out.isin.isNone (Nat.le_refl _)
   have huF:(Value.slice au q cu).ownBlock≠some wr.heap.size:=fun e=>by have:=(HI.out.row.lt _ e).2;omega
   have HP4:=Zhd (BxI.put hTlt (BxI.put hTlt (BxI.put hTlt (BxI.put hTlt (BxI.next (FsG.mono g) hTlt HIA.out hb56) HI.out.size huF hKF (c:=2) (.string ge.op)) HI.out.size huF hKF (c:=3) (.int .i64 ge.n)) HI.out.size huF hKF (c:=4) (.string ge.s)) HI.out.size huF hKF (c:=5) (.slice a6 ge.l.length c6))
   have hs6:=set6e hc6 (.string ge.op) (.int .i64 ge.n) (.string ge.s) (.slice a6 ge.l.length c6)
   obtain⟨⟨c0,c1,c2,c3,c4,c5⟩,f2,f3,f4,f5,_⟩:=Zdl hc6
   obtain⟨⟨j0,j1,j2,j3,j4,j5⟩,_⟩:=Zdl hs6
   have jT:=(Zae HP4.out.box).1.2.2.1
   have hz6:wr.heap.size<w6.heap.size:=by have:=hb56.size;omega
   clear hu6 hb6 hb56 hs6 hKF huF hc6 hzA HC5 HB5 HIA HHA HKA HFB d0 d1 d2 d3 d4 d5
   simp only []
   iterate 6 go_step
   have HJ:=Zhd (And.intro j0 (And.intro j1 (And.intro j2 (And.intro j3 (And.intro j4 (And.intro j5 jT))))))
   clear j0 j1 j2 j3 j4 j5 jT c0 c1 c2 c3 c4 c5 f2 f3 f4 f5
   generalize ((((w6.setCell ⟨wr.heap.size,2,none⟩ (.string ge.op)).setCell ⟨wr.heap.size,3,none⟩ (.int .i64 ge.n)).setCell ⟨wr.heap.size,4,none⟩ (.string ge.s)).setCell ⟨wr.heap.size,5,none⟩ (.slice a6 ge.l.length c6))=w7 at *
   obtain⟨j0,j1,j2,j3,j4,j5,jT⟩:=HJ.out
   have HP8:=Zhd (BxI.later hTlt HP4.out ((Below.refl _ _).alloc (Nat.le_refl _) (.cells #[.string f.name,.int .i64 f.kind,.string ge.op,.int .i64 ge.n,.string ge.s,.slice a6 ge.l.length c6] 71)))
   go_wp2_with (at_builtin;refine Zi9 38 71 6 88 _ Tryz.underlying38 Tryz.infoFlow rfl (by decide) _ _ rfl rfl W2.heap.size _ _ _ rfl HP8.out.row ⟨w7.heap.size,0,none⟩ 1 [.string f.name,.int .i64 f.kind,.string ge.op,.int .i64 ge.n,.string ge.s,.slice a6 ge.l.length c6] rfl rfl ?c1 ?c2 ?c3 ?c4 ?c5 ?_)
   case c1=>exact cells6 _ _ _ _ _ _ _ _
   case c2=>simp [Value.oneCell']
   case c3=>omega
   case c4=>omega
   case c5=>exact HP8.out.size
   intro g' cap' w9 ho hg9 hat
   obtain⟨hbT,hI9⟩:=BxI.step (c:=2) hTlt (fun _ _=>by simp) g3 HP8.out (FsG.snoc HP8.out.xs hql HFE.out HGE.out HXS.out) ho hg9 (hat.imp id fun h=>by rw [h];simp)
   have HI9:=Zhd hI9
   obtain⟨⟨_,_,n2,_,_⟩,_,_,nf,_,_⟩:=Zae hbT
   clear hI9 hbT ho hg9 hat HP8 HP4 HJ j0 j1 j2 j3 j4 j5 jT
   go_wp2_with fail
   go_roundw
   case rel=>exact⟨q+1,_,_,_,by go_num,by omega,HI9.out⟩
   simp [intOf];omega
  obtain rfl:q=p.fl.length:=by omega
  obtain⟨W3,hW3⟩:∃ W3,W3=wr:=⟨_,rfl⟩
  subst hW3
  obtain⟨Ka,hKa⟩:∃ Ka,Ka=K:=⟨_,rfl⟩
  subst hKa
  obtain⟨xL,hxL⟩:∃ xL,xL=xs:=⟨_,rfl⟩
  subst hxL
  have hIE:=HI.out
  have HPW:=Zhd ((hIE.below.block w.heap.size (by omega)).trans HP2.out)
  have HRW:=Zhd ((hIE.below.block (w.heap.size+1) (by omega)).trans HR2.out)
  have hxl:=hIE.xs
  rw [List.take_of_length_le (Nat.le_refl _)] at hxl
  have HXL:=Zhd hxl
  have HNL:=Zhd hIE.noR
  have HRL:=Zhd hIE.row
  have HKT:=Zhd (show Ka T=none from (hIE.fresh T hTlt).trans g3)
  have HLOW:=Zhd (show ∀ b,b<W1.heap.size→Ka b=none from fun b hb=>(hIE.fresh b (by omega)).trans (G2.out b hb))
  have HG7:=Zhd (SlV.le G7.out hIE.le VrC.mono)
  have HG8:=Zhd (G8.out.le hIE.le)
  have hs3:=hIE.size
  have hTl3:T<W3.heap.size:=by omega
  have HI0:=Zhd (show BxI 69 4 (XsG g) (fun u => #[.slice x1 p.ins.length y1,.slice x2 p.outs.length y2,.slice au p.fl.length cu,u,.slice none 0 0]) Ka W3 W3 T W3.heap.size p.as 0 (.slice none 0 0) [] Ka from
   ⟨Below.refl _ _,fun _ _ _=>rfl,Nat.le_refl _,hIE.box,World.ownsRow_nil _ _ _ _,Kn.le_refl _,fun _ _=>rfl,hIE.isin,rfl,fun q hq=>by simp [Value.ownBlock] at hq,hIE.uf⟩)
  have HB3:=HBr
  obtain⟨m0,m1,m2,m3,m4⟩:=(Zae HPW.out).1
  clear hIE hxl HI HBr HB2 HP2 HR2 G2 G7 G8 hql
  go_wp2_with fail
  go_loopw [42] (fun i wr=>∃ (q:Nat) (u:Value) (xs:List Value) (K:Kn),i = .int .i64 q∧q≤p.as.length∧BxI 69 4 (XsG g) (fun u => #[.slice x1 p.ins.length y1,.slice x2 p.outs.length y2,.slice au p.fl.length cu,u,.slice none 0 0]) Ka W3 wr T W3.heap.size p.as q u xs K) (fun i _=>p.as.length - (intOf i).toNat)
  case atStart=>exact⟨0,_,_,_,rfl,Nat.zero_le _,HI0.out⟩
  clear HI0 m0 m1 m2 m3 m4
  obtain⟨q,u,xs,K,rfl,hq,hI⟩:=hrel
  have HI:=Zhd hI
  have HBr:=Zhd (HB3.out.trans (hI.below.mono (by omega)))
  obtain⟨au2,cu2,rfl,_⟩:=Zau hI.row
  clear hI
  by_cases hql:q<p.as.length
  ·obtain⟨b,off,ax,cx,rfl,c0,c1,c2,c3,hx⟩:=ExsV.at H4.out hql
   obtain⟨x,hxe⟩:∃ x,p.as[q]=x:=⟨_,rfl⟩
   have hpx:x.parts≤1000000000000:=by have:=Za5 p.as q hql;rw [hxe] at this;omega
   have hPx:=HP.out x (by rw [← hxe];exact terms_as p (List.getElem_mem hql))
   have hle9:=Zcb p.as
   rw [hxe] at c0 c1 c2 c3 hx
   have hHr:=hH.below HBr.out
   have c0:=hHr.cell c0
   have c1:=hHr.cell c1
   have c2:=hHr.cell c2
   have c3:=hHr.cell c3
   have hba:=(Below.refl wr.heap.size wr).alloc (Nat.le_refl _) (.cells #[.string x.op,.int .i64 x.n,.string x.s,.slice ax x.l.length cx] 69)
   have HSA:=Zhd (BxI.later hTl3 HI.out hba)
   have HHA:=Zhd (hHr.below hba)
   have HKA:=Zhd ((hKH.below HBr.out).below hba)
   have HBX:=Zhd (heap_alloc_new wr (.cells #[.string x.op,.int .i64 x.n,.string x.s,.slice ax x.l.length cx] 69))
   have hKn:∀ n,wr.heap.size≤n→∀ b,n≤b→KH b=none:=fun n hn b hb=>hKH.isNone (by have:=HBr.out.size;omega)
   have HKN:=Zhd hKn
   have HXE:=Zhd hxe
   have HPX:=Zhd hPx
   have HEX:=Zhd hx
   clear hxe hPx hHr hba hKn hx
   have qT:(wr.alloc (.cells #[.string x.op,.int .i64 x.n,.string x.s,.slice ax x.l.length cx] 69)).drew.cell? ⟨T,3,none⟩=some (.slice au2 q cu2):=(Zae HSA.out.box).1.2.2.2.1
   obtain⟨z0,z1,z2,z3,_⟩:=Zag HBX.out
   go_wp2_with fail
   generalize hWA:wr.alloc (.cells #[.string x.op,.int .i64 x.n,.string x.s,.slice ax x.l.length cx] 69)=wA at *
   have hwA:wr.heap.size≤wA.drew.heap.size:=by rw [← hWA];show wr.heap.size≤(wr.alloc _).heap.size;simp
   clear hWA
   have hSD:BxI 69 4 (XsG g) (fun u => #[.slice x1 p.ins.length y1,.slice x2 p.outs.length y2,.slice au p.fl.length cu,u,.slice none 0 0]) Ka W3 wA.drew T W3.heap.size p.as q (.slice au2 q cu2) xs K:=BxI.later hTl3 HSA.out ((Below.refl _ _).drew)
   have hHD:H.In wA.drew:=HHA.out
   have hKD:KH.In wA.drew:=HKA.out
   go_region_law (first | (go_simp;go_at_call 84;refine (own_any x _ H HEX.out hpx _ hHD).mono ?_;rintro r wc ⟨v',rfl,hv2,hst⟩;have hcall:=HH.out.call x v' _ wc HPX.out hv2 hst.size (hKD.below hst) (HKN.out _ hwA);have q5:=(Zae (BxI.later hTl3 hSD hst).box).1.2.2.2.1) | (go_simp;refine hcall.mono ?_;rintro r wd ⟨v6,rfl,hv6,hb6⟩;obtain⟨u6,rfl,hu6⟩:=hv6;obtain⟨a6,c6,rfl⟩:=hu6.len;have hN:=BxI.next (XsG.mono g) hTl3 hSD (hst.trans hb6);have hxs:=hu6.le (Zgi K _ wd);have q6:=(Zae hN.box).1.2.2.2.1;have q7:=fun o=>(Zae (BxI.later hTl3 hN ((Below.refl _ _).alloc (Nat.le_refl _) o)).box).1.2.2.2.1) | (refine step_append_lies _ (by rfl) _ _ _ (by rfl) W3.heap.size 69 i0 _ 4 64 Tryz.underlying39 hi0 hz0 hz1 hz2 rfl (by omega) (.slice au2 q cu2) q xs (by rfl) (BxI.row (BxI.later hTl3 hN ((Below.refl _ _).alloc (Nat.le_refl _) _))) ⟨_,0,none⟩ 1 1 [.string (g x).op,.int .i64 (g x).n,.string (g x).s,.slice a6 (g x).l.length c6] (by rfl) (by rfl) (by exact World.news_of_block (heap_alloc_new _ _)) (by simp [Value.oneCell']) (by omega) (by unfold maxLen;omega) (by omega) (BxI.size (BxI.later hTl3 hN ((Below.refl _ _).alloc (Nat.le_refl _) _))) _ rfl ?_;intro gg cap' w3 hown hgrow hat hltg;obtain⟨hbT,hf3⟩:=BxI.step (c:=3) hTl3 (fun _ _=>by simp) HKT.out (BxI.later hTl3 hN ((Below.refl _ _).alloc (Nat.le_refl _) _)) (XsG.snoc hN.xs hql HXE.out rfl hxs) hown hgrow hat;have hf1:=(Zae hbT).1.2.2.2.1;have hf2:=(Zae hbT).2.2.2.2.1))
   all_goals generalize World.setCell _ _ _=W at hf3 ⊢
   all_goals go_wp2_with fail
   all_goals go_roundw
   all_goals first | exact⟨q+1,_,_,_,by go_num,by omega,hf3⟩ | (simp [intOf];omega)
  obtain rfl:q=p.as.length:=by omega
  obtain⟨W4,hW4⟩:∃ W4,W4=wr:=⟨_,rfl⟩
  subst hW4
  obtain⟨aA,haA⟩:∃ aA,aA=au2:=⟨_,rfl⟩
  subst haA
  obtain⟨cA,hcA⟩:∃ cA,cA=cu2:=⟨_,rfl⟩
  subst hcA
  have hIE:=HI.out
  have hxl:=hIE.xs
  rw [List.take_of_length_le (Nat.le_refl _)] at hxl
  obtain⟨Kc,hlec,hinc,hvA,hfrc,hufc⟩:=Zfy (l:=p.as.map g) hIE.isin hIE.uf (by rw [List.length_map];exact hIE.row) hxl hIE.noR
  have hs4:=hIE.size
  have hTl4:T<W4.heap.size:=by omega
  have hsame:∀ b,b<W3.heap.size→Kc b=Ka b:=fun b hb=>(hfrc b hb).trans (hIE.fresh b hb)
  have HKT4:=Zhd (show Kc T=none from (hsame T hTl3).trans HKT.out)
  have HRL4:=Zhd (own_after HRL.out hTlt (Nat.le_refl _) hIE.keep)
  have HPW4:=Zhd ((hIE.below.block w.heap.size (by omega)).trans HPW.out)
  have HRW4:=Zhd ((hIE.below.block (w.heap.size+1) (by omega)).trans HRW.out)
  have HG74:=Zhd (SlV.le HG7.out (Kn.le_trans hIE.le hlec) VrC.mono)
  have HG84:=Zhd (HG8.out.le (Kn.le_trans hIE.le hlec))
  have HXL4:=Zhd (FsG.mono g _ _ _ _ (Kn.le_trans hIE.le hlec) HXL.out)
  have HLOW4:=Zhd (show ∀ b,b<W1.heap.size→Kc b=none from fun b hb=>(hsame b (by omega)).trans (HLOW.out b hb))
  have HNL4:=Zhd (show ∀ b,(Value.slice au p.fl.length cu).ownBlock=some b→Kc b=none from fun b hb=>(hsame b (HRL.out.lt b hb).2).trans (HNL.out b hb))
  have HA4:=Zhd hvA
  have HI0:=Zhd (show BxI 69 4 (XsG g) (fun u => #[.slice x1 p.ins.length y1,.slice x2 p.outs.length y2,.slice au p.fl.length cu,.slice aA p.as.length cA,u]) Kc W4 W4 T W4.heap.size p.cs 0 (.slice none 0 0) [] Kc from
   ⟨Below.refl _ _,fun _ _ _=>rfl,Nat.le_refl _,hIE.box,World.ownsRow_nil _ _ _ _,Kn.le_refl _,fun _ _=>rfl,hinc,rfl,fun q hq=>by simp [Value.ownBlock] at hq,hufc⟩)
  have HB4:=HBr
  obtain⟨m0,m1,m2,m3,m4⟩:=(Zae HPW4.out).1
  clear hIE hxl hlec hinc hvA hfrc hsame HI HBr HB3 HPW HRW HG7 HG8 HXL HLOW HNL HRL HKT hql
  go_wp2_with fail
  go_loopw [59] (fun i wr=>∃ (q:Nat) (u:Value) (xs:List Value) (K:Kn),i = .int .i64 q∧q≤p.cs.length∧BxI 69 4 (XsG g) (fun u => #[.slice x1 p.ins.length y1,.slice x2 p.outs.length y2,.slice au p.fl.length cu,.slice aA p.as.length cA,u]) Kc W4 wr T W4.heap.size p.cs q u xs K) (fun i _=>p.cs.length - (intOf i).toNat)
  case atStart=>exact⟨0,_,_,_,rfl,Nat.zero_le _,HI0.out⟩
  clear HI0 m0 m1 m2 m3 m4
  obtain⟨q,u,xs,K,rfl,hq,hI⟩:=hrel
  have HI:=Zhd hI
  have HBr:=Zhd (HB4.out.trans (hI.below.mono (by omega)))
  obtain⟨au2,cu2,rfl,_⟩:=Zau hI.row
  clear hI
  by_cases hql:q<p.cs.length
  ·obtain⟨b,off,ax,cx,rfl,c0,c1,c2,c3,hx⟩:=ExsV.at H5.out hql
   obtain⟨x,hxe⟩:∃ x,p.cs[q]=x:=⟨_,rfl⟩
   have hpx:x.parts≤1000000000000:=by have:=Za5 p.cs q hql;rw [hxe] at this;omega
   have hPx:=HP.out x (by rw [← hxe];exact terms_cs p (List.getElem_mem hql))
   have hle9:=Zcb p.cs
   rw [hxe] at c0 c1 c2 c3 hx
   have hHr:=hH.below HBr.out
   have c0:=hHr.cell c0
   have c1:=hHr.cell c1
   have c2:=hHr.cell c2
   have c3:=hHr.cell c3
   have hba:=(Below.refl wr.heap.size wr).alloc (Nat.le_refl _) (.cells #[.string x.op,.int .i64 x.n,.string x.s,.slice ax x.l.length cx] 69)
   have HSA:=Zhd (BxI.later hTl4 HI.out hba)
   have HHA:=Zhd (hHr.below hba)
   have HKA:=Zhd ((hKH.below HBr.out).below hba)
   have HBX:=Zhd (heap_alloc_new wr (.cells #[.string x.op,.int .i64 x.n,.string x.s,.slice ax x.l.length cx] 69))
   have hKn:∀ n,wr.heap.size≤n→∀ b,n≤b→KH b=none:=fun n hn b hb=>hKH.isNone (by have:=HBr.out.size;omega)
   have HKN:=Zhd hKn
   have HXE:=Zhd hxe
   have HPX:=Zhd hPx
   have HEX:=Zhd hx
   clear hxe hPx hHr hba hKn hx
   have qT:(wr.alloc (.cells #[.string x.op,.int .i64 x.n,.string x.s,.slice ax x.l.length cx] 69)).drew.cell? ⟨T,4,none⟩=some (.slice au2 q cu2):=(Zae HSA.out.box).1.2.2.2.2
   obtain⟨z0,z1,z2,z3,_⟩:=Zag HBX.out
   go_wp2_with fail
   generalize hWA:wr.alloc (.cells #[.string x.op,.int .i64 x.n,.string x.s,.slice ax x.l.length cx] 69)=wA at *
   have hwA:wr.heap.size≤wA.drew.heap.size:=by rw [← hWA];show wr.heap.size≤(wr.alloc _).heap.size;simp
   clear hWA
   have hSD:BxI 69 4 (XsG g) (fun u => #[.slice x1 p.ins.length y1,.slice x2 p.outs.length y2,.slice au p.fl.length cu,.slice aA p.as.length cA,u]) Kc W4 wA.drew T W4.heap.size p.cs q (.slice au2 q cu2) xs K:=BxI.later hTl4 HSA.out ((Below.refl _ _).drew)
   have hHD:H.In wA.drew:=HHA.out
   have hKD:KH.In wA.drew:=HKA.out
   go_region_law (first | (go_simp;go_at_call 84;refine (own_any x _ H HEX.out hpx _ hHD).mono ?_;rintro r wc ⟨v',rfl,hv2,hst⟩;have hcall:=HH.out.call x v' _ wc HPX.out hv2 hst.size (hKD.below hst) (HKN.out _ hwA);have q5:=(Zae (BxI.later hTl4 hSD hst).box).1.2.2.2.2) | (go_simp;refine hcall.mono ?_;rintro r wd ⟨v6,rfl,hv6,hb6⟩;obtain⟨u6,rfl,hu6⟩:=hv6;obtain⟨a6,c6,rfl⟩:=hu6.len;have hN:=BxI.next (XsG.mono g) hTl4 hSD (hst.trans hb6);have hxs:=hu6.le (Zgi K _ wd);have q6:=(Zae hN.box).1.2.2.2.2;have q7:=fun o=>(Zae (BxI.later hTl4 hN ((Below.refl _ _).alloc (Nat.le_refl _) o)).box).1.2.2.2.2) | (refine step_append_lies _ (by rfl) _ _ _ (by rfl) W4.heap.size 69 i0 _ 4 64 Tryz.underlying39 hi0 hz0 hz1 hz2 rfl (by omega) (.slice au2 q cu2) q xs (by rfl) (BxI.row (BxI.later hTl4 hN ((Below.refl _ _).alloc (Nat.le_refl _) _))) ⟨_,0,none⟩ 1 1 [.string (g x).op,.int .i64 (g x).n,.string (g x).s,.slice a6 (g x).l.length c6] (by rfl) (by rfl) (by exact World.news_of_block (heap_alloc_new _ _)) (by simp [Value.oneCell']) (by omega) (by unfold maxLen;omega) (by omega) (BxI.size (BxI.later hTl4 hN ((Below.refl _ _).alloc (Nat.le_refl _) _))) _ rfl ?_;intro gg cap' w3 hown hgrow hat hltg;obtain⟨hbT,hf3⟩:=BxI.step (c:=4) hTl4 (fun _ _=>by simp) HKT4.out (BxI.later hTl4 hN ((Below.refl _ _).alloc (Nat.le_refl _) _)) (XsG.snoc hN.xs hql HXE.out rfl hxs) hown hgrow hat;have hf1:=(Zae hbT).1.2.2.2.2;have hf2:=(Zae hbT).2.2.2.2.2))
   all_goals generalize World.setCell _ _ _=W at hf3 ⊢
   all_goals go_wp2_with fail
   all_goals go_roundw
   all_goals first | exact⟨q+1,_,_,_,by go_num,by omega,hf3⟩ | (simp [intOf];omega)
  obtain rfl:q=p.cs.length:=by omega
  obtain⟨W5,hW5⟩:∃ W5,W5=wr:=⟨_,rfl⟩
  subst hW5
  have hIE:=HI.out
  have hxl:=hIE.xs
  rw [List.take_of_length_le (Nat.le_refl _)] at hxl
  obtain⟨Kd,hled,hind,hvC,hfrd,hufd⟩:=Zfy (l:=p.cs.map g) hIE.isin hIE.uf (by rw [List.length_map];exact hIE.row) hxl hIE.noR
  have hlt5:=hIE.size
  have HRL5:=Zhd (own_after HRL4.out (by omega) (Nat.le_refl _) hIE.keep)
  have HRW5:=Zhd ((hIE.below.block (w.heap.size+1) (by omega)).trans HRW4.out)
  have HBX5:=Zhd hIE.box
  have hsame:∀ b,b<W4.heap.size→Kd b=Kc b:=fun b hb=>(hfrd b hb).trans (hIE.fresh b hb)
  have HV:=Zhd (And.intro (SlV.le HG74.out (Kn.le_trans hIE.le hled) VrC.mono) (And.intro (HG84.out.le (Kn.le_trans hIE.le hled)) (And.intro (FsX.le (Kn.le_trans hIE.le hled) HXL4.out) (And.intro (HA4.out.le (Kn.le_trans hIE.le hled)) hvC))))
  have HLOW5:=Zhd (show ∀ b,b<W1.heap.size→Kd b=none from fun b hb=>(hsame b (by omega)).trans (HLOW4.out b hb))
  have HNL5:=Zhd (show ∀ b,(Value.slice au p.fl.length cu).ownBlock=some b→Kd b=none from fun b hb=>(hsame b (HRL4.out.lt b hb).2).trans (HNL4.out b hb))
  have hKR:Kd (w.heap.size+1)=none:=HLOW5.out _ (by omega)
  obtain⟨⟨j0,j1,j2,j3,j4⟩,fj0,fj1,fj2,fj3,fj4⟩:=Zae HBX5.out
  obtain⟨⟨r0,r1,r2,r3,r4⟩,f0,f1,f2,f3,f4⟩:=Zae HRW5.out
  have HR6:=Zhd (Zdd HRW5.out (.slice x1 p.ins.length y1) (.slice x2 p.outs.length y2) (.slice au p.fl.length cu) (.slice aA p.as.length cA) (.slice au2 p.cs.length cu2))
  have HIN6:=Zhd (in5 hind hKR (.slice x1 p.ins.length y1) (.slice x2 p.outs.length y2) (.slice au p.fl.length cu) (.slice aA p.as.length cA) (.slice au2 p.cs.length cu2))
  have HB6:=Zhd (Zes HBr.out (Nat.le_succ _) (.slice x1 p.ins.length y1) (.slice x2 p.outs.length y2) (.slice au p.fl.length cu) (.slice aA p.as.length cA) (.slice au2 p.cs.length cu2))
  have HRL6:=Zhd (Zd4 HRL5.out (w':=(((((W5.setCell ⟨w.heap.size+1,0,none⟩ (.slice x1 p.ins.length y1)).setCell ⟨w.heap.size+1,1,none⟩ (.slice x2 p.outs.length y2)).setCell ⟨w.heap.size+1,2,none⟩ (.slice au p.fl.length cu)).setCell ⟨w.heap.size+1,3,none⟩ (.slice aA p.as.length cA)).setCell ⟨w.heap.size+1,4,none⟩ (.slice au2 p.cs.length cu2))) fun gb hg=>heap5_far (fun e=>by have:=(HRL5.out.lt gb hg).1;omega) _ _ _ _ _)
  clear hIE hxl hled hind hvC hfrd hsame hKR HI HBr
  go_wp2_with fail
  obtain⟨⟨e0,e1,e2,e3,e4⟩,_⟩:=Zae HR6.out
  refine bodyPost_ret (v := .agg #[.slice x1 p.ins.length y1,.slice x2 p.outs.length y2,.slice au p.fl.length cu,.slice aA p.as.length cA,.slice au2 p.cs.length cu2]) (by simp [results,Tryz.results37,go_sem,e0,e1,e2,e3,e4]) rfl ?_
  exact⟨_,_,_,_,_,xL,Kd,rfl,HB6.out,HIN6.out,fun b hb=>HLOW5.out b (by omega),HV.out.1,HV.out.2.1,own_base HRL6.out (by omega),HV.out.2.2.1,HNL5.out,HV.out.2.2.2.1,HV.out.2.2.2.2,hufd⟩
   
 | _=>exact h.elim
end Go.Proofs.YtofameafdnkijaaGreatDoor
