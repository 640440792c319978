/- The ground of slim.Same's walk: its function values; flows that are kept, in a row, their terms but for names. -/
import Derived.Test.YtofameafdnkijaaGreatDoorRg
import Derived.Test.YtofameafdnkijaaGreatDoorSlK
import Derived.Test.YtofameafdnkijaaGreatDoorSlG
set_option linter.all false
namespace Go.Proofs.YtofameafdnkijaaGreatDoor
set_option maxRecDepth 100000
set_option maxHeartbeats 16000000
open Go.RowKit Mx
theorem sameId_how (KH:Kn):HowOk 50 #[] KH id (fun _=>True):=by
 refine⟨fun _ _=>by kernel_rfl,fun e v n w _ hv hn hKH hno=>?_⟩
 obtain⟨u,rfl,hu⟩:=hv
 obtain⟨a,c,rfl⟩:=hu.len
 have hb1:Below w.heap.size w ((w.alloc (.cells #[.string e.op,.int .i64 e.n,.string e.s,.slice a e.l.length c] 69)).alloc (.cells #[.string e.op,.int .i64 e.n,.string e.s,.slice a e.l.length c] 69)):=((Below.refl _ _).alloc (Nat.le_refl _) _).alloc (by simp) _
 have HU:=Zhd (hu.le (newU_mono (n:=n) hb1))
 have HB:=Zhd (hb1.mono hn)
 clear hb1 hu
 go_enter Tryz.func50,Tryz.ntmps50
 go_wp2_with fail
 refine bodyPost_ret (v := .agg #[.string e.op,.int .i64 e.n,.string e.s,.slice a e.l.length c]) (by simp [results,Tryz.results50,go_sem]) rfl ?_
 exact⟨_,rfl,⟨_,rfl,HU.out⟩,HB.out⟩
theorem ren_how (ot:Env ByteArray) (hid:Idem ot) (To Mo Tr:Nat) (KH:Kn) (hk:KH To≠none∧KH Mo≠none∧KH Tr≠none) (hR:∀ w,KH.In w→RenI ot To Mo Tr w):
  HowOk 49 #[.pointer (some ⟨To,0,none⟩),.pointer (some ⟨Tr,0,none⟩)] KH (renE ot) (fun e=>e.parts≤1000000000000):=by
 refine⟨fun _ _=>by kernel_rfl,fun e v n w hP hv hn hKH hno=>?_⟩
 obtain⟨u,rfl,hu⟩:=hv
 have hlow:∀ b,b<n→newU n w b=none:=fun b hb=>Zgz hb
 have hx:∀ b,KH b≠none→newU n w b=none:=fun b hb=>Zgz (Nat.lt_of_not_le fun h=>hb (hno b h))
 refine (ren_any ot hid (newU n w) (newU_uf n w) n hlow To Mo Tr ⟨hx _ hk.1,hx _ hk.2.1,hx _ hk.2.2⟩ e u hu hP e.s (Zdi.refl ..) w hn (KnM.of_in (Zhv n w)) (hR w hKH)).mono ?_
 rintro r w' ⟨rfl,hk',hf,hb,_,ht⟩
 refine⟨_,rfl,⟨u,?_,?_⟩,hb⟩
 ·obtain⟨o,m,s,l⟩:=e
  rfl
 have h:=exsX_of hk' (newU_uf n w) (n:=n) hlow hu ht
 obtain⟨o,m,s,l⟩:=e
 simp only [renE,Ex.l]
 rw [Zbv]
 exact h
theorem same3_pred (T:Nat) (nm:ByteArray) (k:Int) (fe:Ex) (af:Option Addr) (cf:Nat) (K:Kn) (E:ByteArray→Ex) (rs:List FR) (hp:fe.parts≤1000000000000) (hf:ExsV K fe.l (.slice af fe.l.length cf)) (hr:∀ r∈rs,ExV K (E r.name) (.agg #[.string r.o,.int .i64 r.n,.string r.s,.slice r.a r.l r.c])):
  FrPred 52 #[.pointer (some ⟨T,0,none⟩)] (fun w=>K.In w∧w.heap[T]?=some (.cells #[.string nm,.int .i64 k,.string fe.op,.int .i64 fe.n,.string fe.s,.slice af fe.l.length cf] 71 (0,0))) (fun r=>Zcf fe (E r.name)) rs:=by
 refine⟨fun _ _=>by kernel_rfl,fun w w' h hb=>⟨h.1.below hb,(hb.block _ (Zlt h.2)).trans h.2⟩,fun r hrm w h=>?_⟩
 obtain⟨hK,h1⟩:=h
 have hb1:Below w.heap.size w (w.alloc (.cells #[.string r.name,.int .i64 r.k,.string r.o,.int .i64 r.n,.string r.s,.slice r.a r.l r.c] 71)):=(Below.refl _ _).alloc (Nat.le_refl _) _
 have h3:=(hb1.block _ (Zlt h1)).trans h1
 obtain⟨⟨z0,z1,z2,z3,z4,z5⟩,_⟩:=Zdl h3
 have hT:=(Zlt h1)
 have hcall:=alike_any fe hp K (E r.name) _ _ ⟨_,rfl,hf⟩ (hr r hrm) _ (hK.below hb1)
 have HB:=Zhd hb1
 have HC:=Zhd hcall
 clear h1 hb1 h3 hr hcall hf
 unfold FR.agg
 dsimp only
 generalize Zcf fe (E r.name)=bb at *
 go_enter Tryz.func52,Tryz.ntmps52
 go_wp2_with fail
 refine HC.out.mono ?_
 rintro q w2 ⟨rfl,hb2⟩
 go_wp2_with fail
 go_ret
 exact⟨rfl,HB.out.trans (hb2.mono HB.out.size)⟩
def RowG (ot:Env ByteArray) (K:Kn) (ko:List Fl) (rs:List FR):Prop:=
 rs.length=ko.length∧∀ m (h:m<ko.length) (h2:m<rs.length),rs[m].name=ko[m].name∧rs[m].k=ko[m].kind∧rs[m].o=ko[m].e.op∧rs[m].n=ko[m].e.n∧Zdi ot ko[m].e.op ko[m].e.s rs[m].s∧rs[m].l=ko[m].e.l.length∧ExsV K ko[m].e.l (.slice rs[m].a rs[m].l rs[m].c)
theorem RowG.nil (ot:Env ByteArray) (K:Kn):RowG ot K [] []:=⟨rfl,fun m h=>by simp at h⟩
theorem RowG.set {ot:Env ByteArray} {f g:ByteArray} (hf:ot f=none) (hr:∀ s t,ot s=some t→t≠f) {K:Kn} {ko:List Fl} {rs:List FR} (h:RowG ot K ko rs):RowG (ot.set f g) K ko rs:=
 ⟨h.1,fun m h1 h2=>let ⟨a,b,c,d,e,i⟩:=h.2 m h1 h2;⟨a,b,c,d,e.set hf hr,i⟩⟩
def FR.str (r:FR) (s:ByteArray):FR:={ r with s:=s }
theorem RowG.str {ot:Env ByteArray} {K:Kn} {ko:List Fl} {rs:List FR} (h:RowG ot K ko rs) {i:Nat} (hi:i<ko.length) (hi2:i<rs.length) {s:ByteArray} (hs:Zdi ot ko[i].e.op ko[i].e.s s):RowG ot K ko (rs.set i (rs[i].str s)):=by
 refine⟨by rw [List.length_set];exact h.1,fun m h1 h2=>?_⟩
 have h2':m<rs.length:=by simpa using h2
 obtain⟨a,b,c,d,e,f⟩:=h.2 m h1 h2'
 by_cases hm:i=m
 ·subst hm
  rw [List.getElem_set_self]
  exact⟨a,b,c,d,hs,f⟩
 rw [List.getElem_set_ne hm]
 exact⟨a,b,c,d,e,f⟩
theorem RowG.snoc {ot:Env ByteArray} {K:Kn} {ko:List Fl} {rs:List FR} (h:RowG ot K ko rs) {f:Fl} {s:ByteArray} {a:Option Addr} {c:Nat} (hs:Zdi ot f.e.op f.e.s s) (hx:ExsV K f.e.l (.slice a f.e.l.length c)):RowG ot K (ko++[f]) (rs++[⟨f.name,f.kind,f.e.op,f.e.n,s,a,f.e.l.length,c⟩]):=by
 refine⟨by simp [h.1],fun m h1 h2=>?_⟩
 by_cases hm:m<ko.length
 ·have hm2:m<rs.length:=by rw [h.1];exact hm
  rw [List.getElem_append_left hm,List.getElem_append_left hm2]
  exact h.2 m hm hm2
 have e1:m=ko.length:=by simp at h1;omega
 have e2:m=rs.length:=by rw [h.1];exact e1
 rw [List.getElem_append_right (by omega),List.getElem_append_right (by omega)]
 simp only [e1,Nat.sub_self,List.getElem_cons_zero]
 simp only [← e1,e2,Nat.sub_self,List.getElem_cons_zero]
 exact⟨trivial,trivial,trivial,trivial,hs,trivial,hx⟩
def DnK (ot:Env ByteArray) (K:Kn) (ko:List Fl) (rs:List FR) (wr:World) (i:Nat):Prop:=
 ∀ m (h:m<ko.length) (h2:m<rs.length),m<i→rs[m].s=rnS ot ko[m].e.op ko[m].e.s∧TrX ot K wr ko[m].e.l (.slice rs[m].a rs[m].l rs[m].c)
theorem DnK.mono {ot:Env ByteArray} {K:Kn} {ko:List Fl} {rs:List FR} {w w':World} {i:Nat} (h:DnK ot K ko rs w i) (hm:FxM ot K w w'):DnK ot K ko rs w' i:=fun m h1 h2 h3=>⟨(h m h1 h2 h3).1,TrX.mono hm (h m h1 h2 h3).2⟩
theorem DnK.str {ot:Env ByteArray} {K:Kn} {ko:List Fl} {rs:List FR} {w:World} {i:Nat} (h:DnK ot K ko rs w i) (hi:i<ko.length) (hi2:i<rs.length) (ht:TrX ot K w ko[i].e.l (.slice rs[i].a rs[i].l rs[i].c)):DnK ot K ko (rs.set i (rs[i].str (rnS ot ko[i].e.op ko[i].e.s))) w (i+1):=fun m h1 h2 h3=>by
 have h2':m<rs.length:=by simpa using h2
 by_cases hm:i=m
 ·subst hm
  rw [List.getElem_set_self]
  exact⟨rfl,ht⟩
 rw [List.getElem_set_ne hm]
 exact h m h1 h2' (by omega)
theorem own_str {w:World} {base g cap n:Nat} {rs:List FR} (h:w.ownsRow base 71 6 (.slice (some ⟨g,0,none⟩) n cap) n (frX rs)) {i:Nat} (hi:i<rs.length) (s:ByteArray):
  (w.setCells g (i * 6+2) [.string rs[i].o,.int .i64 rs[i].n,.string s,.slice rs[i].a rs[i].l rs[i].c]).ownsRow base 71 6 (.slice (some ⟨g,0,none⟩) n cap) n (frX (rs.set i (rs[i].str s)))∧
   (∀ c,c≠g→(w.setCells g (i * 6+2) [.string rs[i].o,.int .i64 rs[i].n,.string s,.slice rs[i].a rs[i].l rs[i].c]).heap[c]?=w.heap[c]?)∧(w.setCells g (i * 6+2) [.string rs[i].o,.int .i64 rs[i].n,.string s,.slice rs[i].a rs[i].l rs[i].c]).heap.size=w.heap.size:=by
 obtain⟨h1,h2⟩:=h
 have hl:rs.length=n:=by rw [Zgj] at h1;omega
 rcases h2 with ⟨e,_⟩ | ⟨g',cap',cur,e1,e2,e3,e4,e5,e6,e7⟩
 ·cases e
 simp only [Value.slice.injEq,Option.some.injEq,Addr.mk.injEq,true_and,and_true] at e1
 obtain⟨rfl,rfl⟩:=e1
 obtain⟨⟨cur',f1,f2,f3,f4⟩,f5,f6⟩:=Zdw g [.string rs[i].o,.int .i64 rs[i].n,.string s,.slice rs[i].a rs[i].l rs[i].c] (i * 6+2) w cur _ _ e3 (by simp only [List.length_cons,List.length_nil];omega)
 refine⟨⟨by rw [Zgj,List.length_set,hl],.inr ⟨g,cap,cur',rfl,e2,f1,e4,e5,by rw [f2,e6],?_⟩⟩,f5,f6⟩
 refine List.ext_getElem? fun x=>?_
 rcases Nat.lt_or_ge x (n * 6) with hx | hx
 ·have e8:∀ x,x<n * 6→cur[x]?=(frX rs)[x]?:=fun x hx=>by
   rw [← e7,List.getElem?_take_of_lt hx]
   simp
  rw [List.getElem?_take_of_lt hx,Array.getElem?_toList]
  have hx6:x=x / 6 * 6+x % 6:=by omega
  have hm:x / 6<rs.length:=by omega
  have hj:x % 6<6:=Nat.mod_lt _ (by decide)
  generalize hmm:x / 6=m at *
  generalize hjj:x % 6=j at *
  subst hx6
  rw [Zgk _ m (by simpa using hm) j hj]
  by_cases him:i=m
  ·subst him
   rw [List.getElem_set_self]
   rcases Nat.lt_or_ge j 2 with hj2 | hj2
   ·rw [f3 _ (by simp only [List.length_cons,List.length_nil];omega),e8 _ hx,Zgk _ i hm j hj]
    match j,hj2 with
    | 0,_=>rfl
    | 1,_=>rfl
   have:=f4 (j - 2) (by simp only [List.length_cons,List.length_nil];omega)
   rw [show i * 6+2+(j - 2)=i * 6+j from by omega] at this
   rw [this]
   match j,hj2,hj with
   | 2,_,_=>rfl
   | 3,_,_=>rfl
   | 4,_,_=>rfl
   | 5,_,_=>rfl
  rw [List.getElem_set_ne him,f3 _ (by simp only [List.length_cons,List.length_nil];omega),e8 _ hx,Zgk _ m hm j hj]
 rw [List.getElem?_take_eq_none hx,List.getElem?_eq_none]
 rw [Zgj,List.length_set]
 omega
theorem KnM.frame {ks:Env ByteArray} {K:Kn} {w w':World} (h:KnM ks K w) (hf:∀ b,K b≠none→w'.heap[b]?=w.heap[b]?):KnM ks K w':=fun b ob e=>by
 have hx:=hf b (by rw [e];simp)
 rcases h b ob e with g | ⟨d,d',t,r1,r2,r3⟩
 ·exact .inl (hx.trans g)
 exact .inr ⟨d,d',t,r1,hx.trans r2,r3⟩
structure SmF (w:World) (To Mo Tr T7 n1 n2:Nat) (K:Kn) (uL:Value):Prop where
 lows:w.heap.size+1<n1∧w.heap.size+1<To∧w.heap.size+1<Mo∧w.heap.size+1<Tr∧To<n1∧Mo<n1∧Tr<n1∧n1≤n2∧T7<n2∧n1≤T7∧To≠Mo∧Tr≠Mo
 low:∀ b,b<n1→K b=none
 hi:∀ b,n2≤b→K b=none
 uf:UF K
 kT:K T7=none
 noL:∀ b,uL.ownBlock=some b→K b=none∧b<n2
structure SmS (w:World) (To Mo Tr T7 n1 n2 nL:Nat) (pv ov:Array Value) (K:Kn) (uL:Value) (xL:List Value) (ot:Env ByteArray) (ko:List Fl) (rs:List FR) (uk:Value) (wr:World):Prop where
 below:Below w.heap.size w wr
 pbox:wr.heap[w.heap.size]?=some (.cells pv 41 (0,0))
 res:wr.heap[w.heap.size+1]?=some (.cells #[.slice none 0 0,.slice none 0 0,.slice none 0 0,.slice none 0 0,.slice none 0 0] 41 (0,0))
 out:wr.heap[T7]?=some (.cells ov 41 (0,0))
 ren:RenI ot To Mo Tr wr
 rowL:wr.ownsRow n1 71 6 uL nL xL
 rowK:wr.ownsRow n2 71 6 uk ko.length (frX rs)
 kn:KnM ot K wr
 sz:n2≤wr.heap.size
 rg:RowG ot K ko rs
section
variable {w : World} {To Mo Tr T7 n1 n2 nL : Nat} {pv ov : Array Value} {K : Kn} {uL : Value} {xL : List Value} {ot : Env ByteArray} {ko : List Fl} {rs : List FR} {uk : Value} {wr w' : World}
theorem SmS.goes (h:SmS w To Mo Tr T7 n1 n2 nL pv ov K uL xL ot ko rs uk wr) (F:SmF w To Mo Tr T7 n1 n2 K uL) (hb:Below n1 wr w') (hk:KnM ot K w') (hf:∀ b,b<wr.heap.size→K b=none→w'.heap[b]?=wr.heap[b]?):SmS w To Mo Tr T7 n1 n2 nL pv ov K uL xL ot ko rs uk w':=by
 obtain⟨l0,l1,l2,l3,l4,l5,l6,l7,l8,l9,_,_⟩:=F.lows
 have hz:=h.sz
 have get:∀ b,b<n1→w'.heap[b]?=wr.heap[b]?:=fun b hb=>hf b (by omega) (F.low b hb)
 refine⟨h.below.trans (hb.mono (by omega)),(get _ (by omega)).trans h.pbox,(get _ l0).trans h.res,(hf _ (by omega) F.kT).trans h.out,?_,Zd4 h.rowL fun b e=>hf b (h.rowL.lt b e).2 (F.noL b e).1,Zd4 h.rowK fun b e=>hf b (h.rowK.lt b e).2 (F.hi b (h.rowK.lt b e).1),hk,Nat.le_trans h.sz hb.size,h.rg⟩
 exact⟨(get _ l4).trans h.ren.box,h.ren.map.of_block (get _ l5),(get _ l6).trans h.ren.fn⟩
theorem SmS.later (h:SmS w To Mo Tr T7 n1 n2 nL pv ov K uL xL ot ko rs uk wr) (F:SmF w To Mo Tr T7 n1 n2 K uL) (hb:Below wr.heap.size wr w'):SmS w To Mo Tr T7 n1 n2 nL pv ov K uL xL ot ko rs uk w':=by
 have hz:=h.sz
 have hl:=F.lows
 exact h.goes F (hb.mono (by omega)) (h.kn.below hb) fun b h1 _=>hb.block b h1
theorem SmS.ren_ (h:SmS w To Mo Tr T7 n1 n2 nL pv ov K uL xL ot ko rs uk wr) (F:SmF w To Mo Tr T7 n1 n2 K uL) (hk:KnM ot K w') (hf:FrK K wr w') (hb:Below n1 wr w'):SmS w To Mo Tr T7 n1 n2 nL pv ov K uL xL ot ko rs uk w':=h.goes F hb hk hf
theorem SmS.past {T:Nat} (h:SmS w To Mo Tr T7 n1 n2 nL pv ov K uL xL ot ko rs uk wr) (F:SmF w To Mo Tr T7 n1 n2 K uL) (hT:n2≤T) (hk:uk.ownBlock≠some T) (hb:Below n1 wr w') (hf:∀ b,b≠T→w'.heap[b]?=wr.heap[b]?):SmS w To Mo Tr T7 n1 n2 nL pv ov K uL xL ot ko rs uk w':=by
 obtain⟨l0,l1,l2,l3,l4,l5,l6,l7,l8,l9,_,_⟩:=F.lows
 refine⟨h.below.trans (hb.mono (by omega)),(hf _ (by omega)).trans h.pbox,(hf _ (by omega)).trans h.res,(hf _ (by omega)).trans h.out,⟨(hf _ (by omega)).trans h.ren.box,h.ren.map.of_block (hf _ (by omega)),(hf _ (by omega)).trans h.ren.fn⟩,Zd4 h.rowL fun b e=>hf b (by have:=(F.noL b e).2;omega),Zd4 h.rowK fun b e=>hf b fun e2=>hk (by rw [e,e2]),h.kn.frame fun b hK=>hf b fun e=>hK (by rw [e];exact F.hi T hT),Nat.le_trans h.sz hb.size,h.rg⟩
theorem SmS.str {g cap i:Nat} (h:SmS w To Mo Tr T7 n1 n2 nL pv ov K uL xL ot ko rs (.slice (some ⟨g,0,none⟩) ko.length cap) wr) (F:SmF w To Mo Tr T7 n1 n2 K uL) (hi:i<ko.length) (hi2:i<rs.length) {s:ByteArray} (hs:Zdi ot ko[i].e.op ko[i].e.s s):
  SmS w To Mo Tr T7 n1 n2 nL pv ov K uL xL ot ko (rs.set i (rs[i].str s)) (.slice (some ⟨g,0,none⟩) ko.length cap) (wr.setCells g (i * 6+2) [.string rs[i].o,.int .i64 rs[i].n,.string s,.slice rs[i].a rs[i].l rs[i].c])∧FxM ot K wr (wr.setCells g (i * 6+2) [.string rs[i].o,.int .i64 rs[i].n,.string s,.slice rs[i].a rs[i].l rs[i].c]):=by
 obtain⟨f1,f2,f3⟩:=own_str h.rowK hi2 s
 have hg:n2≤g:=(h.rowK.lt g rfl).1
 have hgw:=(h.rowK.lt g rfl).2
 obtain⟨l0,l1,l2,l3,l4,l5,l6,l7,l8,l9,_,_⟩:=F.lows
 have hb:Below n1 wr (wr.setCells g (i * 6+2) [.string rs[i].o,.int .i64 rs[i].n,.string s,.slice rs[i].a rs[i].l rs[i].c]):=
  ((((Below.refl n1 wr).setCell (p:=⟨g,i * 6+2,none⟩) (by show n1≤g;omega) _).setCell (p:=⟨g,i * 6+2+1,none⟩) (by show n1≤g;omega) _).setCell (p:=⟨g,i * 6+2+1+1,none⟩) (by show n1≤g;omega) _).setCell (p:=⟨g,i * 6+2+1+1+1,none⟩) (by show n1≤g;omega) _
 have hKg:=F.hi g hg
 have hfr:∀ b,K b≠none→(wr.setCells g (i * 6+2) [.string rs[i].o,.int .i64 rs[i].n,.string s,.slice rs[i].a rs[i].l rs[i].c]).heap[b]?=wr.heap[b]?:=fun b hb=>f2 b fun e=>hb (by rw [e];exact hKg)
 refine⟨⟨h.below.trans (hb.mono (by omega)),(f2 _ (by omega)).trans h.pbox,(f2 _ (by omega)).trans h.res,(f2 _ (by omega)).trans h.out,⟨(f2 _ (by omega)).trans h.ren.box,h.ren.map.of_block (f2 _ (by omega)),(f2 _ (by omega)).trans h.ren.fn⟩,Zd4 h.rowL fun b e=>f2 b fun e2=>by have:=(F.noL b e).2;omega,f1,h.kn.frame hfr,by rw [f3];exact h.sz,h.rg.str hi hi2 hs⟩,FxM.of_heap hfr⟩
theorem SmS.strX {g cap i:Nat} {x:Ex} {ra:Option Addr} {rc:Nat} (h:SmS w To Mo Tr T7 n1 n2 nL pv ov K uL xL ot ko rs (.slice (some ⟨g,0,none⟩) ko.length cap) wr) (F:SmF w To Mo Tr T7 n1 n2 K uL) (hid:Idem ot) (hi:i<ko.length) (hx:ko[i].e=x) (hra:∀ h:i<rs.length,rs[i].a=ra) (hrc:∀ h:i<rs.length,rs[i].c=rc) (hd:DnK ot K ko rs wr i) (ht:TrX ot K wr x.l (.slice ra x.l.length rc)):
  (SmS w To Mo Tr T7 n1 n2 nL pv ov K uL xL ot ko (rs.set i ((rs.getD i ⟨⟨#[]⟩,0,⟨#[]⟩,0,⟨#[]⟩,none,0,0⟩).str (rnS ot x.op x.s))) (.slice (some ⟨g,0,none⟩) ko.length cap) ((((wr.setCell ⟨g,i * 6+2,none⟩ (.string x.op)).setCell ⟨g,i * 6+3,none⟩ (.int .i64 x.n)).setCell ⟨g,i * 6+4,none⟩ (.string (rnS ot x.op x.s))).setCell ⟨g,i * 6+5,none⟩ (.slice ra x.l.length rc)))∧
  FxM ot K wr ((((wr.setCell ⟨g,i * 6+2,none⟩ (.string x.op)).setCell ⟨g,i * 6+3,none⟩ (.int .i64 x.n)).setCell ⟨g,i * 6+4,none⟩ (.string (rnS ot x.op x.s))).setCell ⟨g,i * 6+5,none⟩ (.slice ra x.l.length rc))∧
  DnK ot K ko (rs.set i ((rs.getD i ⟨⟨#[]⟩,0,⟨#[]⟩,0,⟨#[]⟩,none,0,0⟩).str (rnS ot x.op x.s))) ((((wr.setCell ⟨g,i * 6+2,none⟩ (.string x.op)).setCell ⟨g,i * 6+3,none⟩ (.int .i64 x.n)).setCell ⟨g,i * 6+4,none⟩ (.string (rnS ot x.op x.s))).setCell ⟨g,i * 6+5,none⟩ (.slice ra x.l.length rc)) (i+1):=by
 have hi2:i<rs.length:=by rw [h.rg.1];exact hi
 have hget:rs.getD i ⟨⟨#[]⟩,0,⟨#[]⟩,0,⟨#[]⟩,none,0,0⟩=rs[i]:=by simp [hi2]
 obtain⟨e0,e1,e2,e3,e4,e5,e6⟩:=h.rg.2 i hi hi2
 rw [hx] at e2 e3 e4 e5
 have hs:Zdi ot ko[i].e.op ko[i].e.s (rnS ot x.op x.s):=by rw [hx];exact Zfk hid _ _
 obtain⟨g1,g2⟩:=h.str F hi hi2 hs
 rw [hget]
 have hra:=hra hi2
 have hrc:=hrc hi2
 rw [e2,e3,e5,hra,hrc] at g1 g2
 refine⟨g1,g2,?_⟩
 have hd2:=hd.str hi hi2 (by rw [hx,e5,hra,hrc];exact ht)
 rw [hx] at hd2
 exact hd2.mono g2
theorem SmS.cells4 {g cap i:Nat} {x:Ex} {ra:Option Addr} {rc:Nat} (h:SmS w To Mo Tr T7 n1 n2 nL pv ov K uL xL ot ko rs (.slice (some ⟨g,0,none⟩) ko.length cap) wr) (hi:i<ko.length) (hx:ko[i].e=x) (hra:∀ h:i<rs.length,rs[i].a=ra) (hrc:∀ h:i<rs.length,rs[i].c=rc):
  (∃ s,wr.cell? ⟨g,i * 6+2,none⟩=some (.string x.op)∧wr.cell? ⟨g,i * 6+3,none⟩=some (.int .i64 x.n)∧wr.cell? ⟨g,i * 6+4,none⟩=some (.string s)∧wr.cell? ⟨g,i * 6+5,none⟩=some (.slice ra x.l.length rc))∧wr.frozen? ⟨g,i * 6+2,none⟩=false∧wr.frozen? ⟨g,i * 6+3,none⟩=false∧wr.frozen? ⟨g,i * 6+4,none⟩=false∧wr.frozen? ⟨g,i * 6+5,none⟩=false:=by
 have hi2:i<rs.length:=by rw [h.rg.1];exact hi
 obtain⟨e0,e1,e2,e3,e4,e5,e6⟩:=h.rg.2 i hi hi2
 rw [hx] at e2 e3 e5
 obtain⟨g',cap',he,_,_,_,_,hc⟩:=Zbp h.rowK (by omega)
 cases he
 have hcell:=fun j (hj:j<6) u (h:rs[i].cells[j]?=some u)=>hc (i * 6+j) u ((Zgk rs i hi2 j hj).trans h)
 rcases h.rowK.2 with ⟨e,_⟩ | ⟨g2,c2,cur,q1,_,q3,_⟩
 ·cases e
 cases q1
 have fz:∀ j,wr.frozen? ⟨g,j,none⟩=false:=fun j=>by simp [World.frozen?,q3]
 refine⟨⟨rs[i].s,?_,?_,hcell 4 (by decide) _ rfl,?_⟩,fz _,fz _,fz _,fz _⟩
 ·rw [← e2];exact hcell 2 (by decide) _ rfl
 ·rw [← e3];exact hcell 3 (by decide) _ rfl
 rw [← e5,← hra hi2,← hrc hi2];exact hcell 5 (by decide) _ rfl
theorem SmS.app {g cap:Nat} {f:Fl} {s:ByteArray} {a:Option Addr} {c:Nat} (h:SmS w To Mo Tr T7 n1 n2 nL pv ov K uL xL ot ko rs uk wr) (F:SmF w To Mo Tr T7 n1 n2 K uL) (hs:Zdi ot f.e.op f.e.s s) (hx:ExsV K f.e.l (.slice a f.e.l.length c))
  (ho:w'.ownsRow n2 71 6 (.slice (some ⟨g,0,none⟩) (ko.length+1) cap) (ko.length+1) (frX rs++[.string f.name,.int .i64 f.kind,.string f.e.op,.int .i64 f.e.n,.string s,.slice a f.e.l.length c])) (hg:wr.grownBy w' uk.ownBlock):
  SmS w To Mo Tr T7 n1 n2 nL pv ov K uL xL ot (ko++[f]) (rs++[⟨f.name,f.kind,f.e.op,f.e.n,s,a,f.e.l.length,c⟩]) (.slice (some ⟨g,0,none⟩) (ko.length+1) cap) w':=by
 obtain⟨l0,l1,l2,l3,l4,l5,l6,l7,l8,l9,_,_⟩:=F.lows
 have hz:=h.sz
 have get:∀ b,b<n2→w'.heap[b]?=wr.heap[b]?:=fun b hb=>hg.block b (by omega) fun e=>by have:=(h.rowK.lt b e.symm).1;omega
 have hb:Below n2 wr w':=(Below.refl n2 wr).grown hg hz (fun q hq=>(h.rowK.lt q hq).1)
 refine⟨h.below.trans (hb.mono (by omega)),(get _ (by omega)).trans h.pbox,(get _ (by omega)).trans h.res,(get _ l8).trans h.out,⟨(get _ (by omega)).trans h.ren.box,h.ren.map.of_block (get _ (by omega)),(get _ (by omega)).trans h.ren.fn⟩,Zd4 h.rowL fun b e=>get b (F.noL b e).2,?_,h.kn.frame fun b hK=>get b (Nat.lt_of_not_le fun hx=>hK (F.hi b hx)),Nat.le_trans hz hb.size,h.rg.snoc hs hx⟩
 rw [List.length_append,frX_app]
 exact ho
theorem SmS.turn {f g:ByteArray} (h:SmS w To Mo Tr T7 n1 n2 nL pv ov K uL xL ot ko rs uk wr) (F:SmF w To Mo Tr T7 n1 n2 K uL) (ht:Zcp wr w' Mo) (hm:Zaw Value.string w' Mo (ot.set f g)) (hf:ot f=none) (hr:∀ s t,ot s=some t→t≠f):SmS w To Mo Tr T7 n1 n2 nL pv ov K uL xL (ot.set f g) ko rs uk w':=by
 obtain⟨l0,l1,l2,l3,l4,l5,l6,l7,l8,l9,l10,l11⟩:=F.lows
 have hz:=h.sz
 have get:∀ b,b≠Mo→w'.heap[b]?=wr.heap[b]?:=fun b hb=>ht.block hb
 exact⟨ht.below h.below (by omega),(get _ (by omega)).trans h.pbox,(get _ (by omega)).trans h.res,(get _ (by omega)).trans h.out,⟨(get _ l10).trans h.ren.box,hm,(get _ l11).trans h.ren.fn⟩,Ze6 h.rowL ht fun e=>by have:=(h.rowL.lt _ e).1;omega,Ze6 h.rowK ht fun e=>by have:=(h.rowK.lt _ e).1;omega,(h.kn.frame fun b hK=>get b fun e=>hK (by rw [e];exact F.low _ l5)).set hf hr,by rw [ht.size];exact hz,h.rg.set hf hr⟩
end
theorem idxOwn_any (k:Nat) (cap:Array Value) (I:World→Prop) (p:FR→Bool) (rs:List FR) (hp:FrPred k cap I p rs) (base n:Nat) (uk:Value) (w:World) (hrow:w.ownsRow base 71 6 uk n (frX rs)) (hl:rs.length≤1000000000) (hI:I w):
  Calls Tryz.prog 51 #[uk,.func (.func k) #[] cap] w fun r w'=>r = .returned (.int .i64 (idxR p rs))∧Below w.heap.size w w':=by
 have hn:rs.length=n:=by have:=hrow.1;rw [Zgj] at this;omega
 subst hn
 rcases hrow.2 with ⟨rfl,h0⟩ | ⟨g,c,cur,rfl,h2,h3,h4,h5,h6,h7⟩
 ·obtain rfl:rs=[]:=List.eq_nil_of_length_eq_zero h0
  exact idxR_nil k cap hp.1 w
 refine idxR_any k cap I p rs hp g c w (Zlt h3) (fun i hi j u hu=>?_) hl hI
 have hj:j<6:=by
  have h8:=(List.getElem?_eq_some_iff.1 hu).1
  simpa [FR.cells] using h8
 have h9:(frX rs)[i * 6+j]?=some u:=by rw [Zgk rs i hi j hj,hu]
 rw [← h7] at h9
 have hlt:i * 6+j<rs.length * 6:=by omega
 rw [List.getElem?_take_of_lt hlt] at h9
 simpa [World.cell?,h3] using h9
theorem flsNow {ks:Env ByteArray} {K:Kn} {w:World} (hk:KnM ks K w) (hu:UF K) {n:Nat} (hlow:∀ b,b<n→K b=none) {ko:List Fl} {rs:List FR} (h:RowG ks K ko rs) {base m:Nat} {uk:Value} (hrow:w.ownsRow base 71 6 uk m (frX rs)) (hb:n≤base):
  ∃ kf,FlsV (newU n w) kf uk∧kf.map (renF ks)=ko.map (renF ks):=by
 have hn:rs.length=m:=by have:=hrow.1;rw [Zgj] at this;omega
 subst hn
 obtain⟨kf,hkf,hmap⟩:∃ kf,RowF (newU n w) kf rs∧kf.map (renF ks)=ko.map (renF ks):=by
  clear hrow
  induction rs generalizing ko with
  | nil=>
   obtain rfl:ko=[]:=List.eq_nil_of_length_eq_zero h.1.symm
   exact⟨[],rfl,rfl⟩
  | cons r rs ih=>
   obtain⟨h1,h2⟩:=h
   match ko,h1,h2 with
   | f :: ko,h1,h2=>
    obtain⟨a,b,c,d,e,i,j⟩:=h2 0 (by simp) (by simp)
    simp only [List.getElem_cons_zero] at a b c d e i j
    obtain⟨kf,g1,g2⟩:=ih (ko:=ko) ⟨by simpa using h1,fun m q1 q2=>by have:=h2 (m+1) (by simpa using q1) (by simpa using q2);simpa using this⟩
    obtain⟨l',g3,g4⟩:=exsNow hk hu hlow j
    refine⟨⟨f.name,f.kind,.mk f.e.op f.e.n r.s l'⟩ :: kf,⟨r,rs,rfl,⟨a,b,c,d,rfl,?_,g3⟩,g1⟩,?_⟩
    ·obtain⟨ax,cx,e2⟩:=g3.len
     simp only [Value.slice.injEq] at e2
     exact e2.2.1
    rw [List.map_cons,List.map_cons,g2]
    congr 1
    show (⟨f.name,f.kind,renE ks (.mk f.e.op f.e.n r.s l')⟩:Fl)=⟨f.name,f.kind,renE ks f.e⟩
    congr 1
    obtain⟨fn,fk,fe⟩:=f
    obtain⟨o,m,s,l⟩:=fe
    simp only [Ex.op,Ex.n,Ex.s,Ex.l] at e g4 ⊢
    simp only [renE]
    rw [Zbv,Zbv,g4]
    exact congrArg (fun z=>Ex.mk o m z (l.map (renE ks))) e
 refine⟨kf,?_,hmap⟩
 rcases hrow.2 with ⟨rfl,h0⟩ | ⟨g,c,cur,rfl,h2,h3,h4,h5,h6,h7⟩
 ·have:kf.length=0:=by rw [← hkf.len];exact h0
  exact .inl ⟨List.eq_nil_of_length_eq_zero this,none,0,rfl⟩
 have hl:=hkf.len
 rw [hl] at h4
 have:=fls_of_rows (K:=newU n w) (Kn.le_refl _) hkf (g:=g) (c:=c) (newU_of (by omega) h3 ⟨cur,_,rfl⟩) h4 h5 fun a ha=>by
  rw [← h7,List.getElem?_take_of_lt ha]
  simp
 rw [← hl] at this
 exact this
theorem fls_of_own {K:Kn} {w:World} (hK:K.In w) {base:Nat} {uL:Value} {l:List Fl} {xL:List Value} (hrow:w.ownsRow base 71 6 uL l.length xL) (hx:FsX K l xL) (hn:∀ b,uL.ownBlock=some b→K b=none):∃ K',FlsV K' l uL∧K.le K'∧K'.In w∧∀ b,b<base→K' b=K b:=by
 rcases hrow.2 with ⟨rfl,h0⟩ | ⟨g,c,cur,rfl,h2,h3,h4,h5,h6,h7⟩
 ·exact⟨K,.inl ⟨List.eq_nil_of_length_eq_zero h0,none,0,rfl⟩,Kn.le_refl K,hK,fun _ _=>rfl⟩
 have hg:K g=none:=hn g rfl
 refine⟨K.add g (.cells cur 71 (0,0)),.inr ⟨g,0,c,rfl,h4,h5,fun i hi=>FsX.flc (Kn.le_add hg) hx i hi _ fun j u hj=>?_⟩,Kn.le_add hg,hK.add h3,fun b hb=>Kn.add_other K _ (by omega)⟩
 unfold Kn.cell
 rw [Kn.add_self,Nat.zero_add]
 rw [← h7] at hj
 have hlt:i * 6+j<l.length * 6:=by
  have:=(List.getElem?_eq_some_iff.1 hj).1
  rw [List.length_take] at this
  omega
 rw [List.getElem?_take_of_lt hlt] at hj
 simpa using hj
theorem far4 {w:World} {b g p q r s:Nat} (hb:b≠g) (x y z u:Value):((((w.setCell ⟨g,p,none⟩ x).setCell ⟨g,q,none⟩ y).setCell ⟨g,r,none⟩ z).setCell ⟨g,s,none⟩ u).heap[b]?=w.heap[b]?:=by
 rw [Below.heap_setCell _ ⟨g,s,none⟩ _ b hb,Below.heap_setCell _ ⟨g,r,none⟩ _ b hb,Below.heap_setCell _ ⟨g,q,none⟩ _ b hb,Below.heap_setCell _ ⟨g,p,none⟩ _ b hb]
theorem renE_op (ot:Env ByteArray) (e:Ex):(renE ot e).op=e.op:=by obtain⟨o,n,s,l⟩:=e;rfl
theorem renE_n (ot:Env ByteArray) (e:Ex):(renE ot e).n=e.n:=by obtain⟨o,n,s,l⟩:=e;rfl
theorem renE_s (ot:Env ByteArray) (e:Ex):(renE ot e).s=rnS ot e.op e.s:=by obtain⟨o,n,s,l⟩:=e;rfl
theorem renE_l (ot:Env ByteArray) (e:Ex):(renE ot e).l=e.l.map (renE ot):=by obtain⟨o,n,s,l⟩:=e;simp only [renE,Ex.l];rw [Zbv]
theorem find_fst {α:Type} (p:α→Bool):∀ (l:List α) (k:Nat) (hk:k<l.length),p l[k]=true→(∀ i (hi:i<l.length),i<k→p l[i]=false)→l.find? p=some l[k]
 | a :: l,0,_,h,_=>by
  simp only [List.getElem_cons_zero] at h
  simp [List.find?_cons,h]
 | a :: l,k+1,hk,h,hn=>by
  have h0:=hn 0 (by simp) (by omega)
  simp only [List.getElem_cons_zero] at h0
  rw [List.find?_cons,h0]
  exact find_fst p l k (by simpa using hk) (by simpa using h) fun i hi hik=>by have:=hn (i+1) (by simpa using hi) (by omega);simpa using this
theorem SmS.find {w:World} {To Mo Tr T7 n1 n2 nL:Nat} {pv ov:Array Value} {K:Kn} {uL:Value} {xL:List Value} {ot:Env ByteArray} {ko:List Fl} {rs:List FR} {uk:Value} {wr:World} (h:SmS w To Mo Tr T7 n1 n2 nL pv ov K uL xL ot ko rs uk wr) (F:SmF w To Mo Tr T7 n1 n2 K uL) (hnd:(ko.map (·.name)).Nodup) (hd:DnK ot K ko rs wr ko.length)
  {f:Fl} {ax:Option Addr} {cx T:Nat} (hx:ExsV K f.e.l (.slice ax f.e.l.length cx)) (ht:TrX ot K wr f.e.l (.slice ax f.e.l.length cx)) (hp:f.e.parts≤1000000000000) (hl:ko.length≤1000000000)
  (hF:wr.heap[T]?=some (.cells #[.string f.name,.int .i64 f.kind,.string f.e.op,.int .i64 f.e.n,.string (rnS ot f.e.op f.e.s),.slice ax f.e.l.length cx] 71 (0,0))):
  Calls Tryz.prog 51 #[uk,.func (.func 52) #[] #[.pointer (some ⟨T,0,none⟩)]] wr fun r w'=>Below wr.heap.size wr w'∧
   ((r = .returned (.int .i64 (-1))∧ko.find? (fun g=>Zcf (renE ot f.e) (renE ot g.e))=none)∨∃ k,∃ hk:k<ko.length,r = .returned (.int .i64 k)∧ko.find? (fun g=>Zcf (renE ot f.e) (renE ot g.e))=some ko[k]):=by
 let E:ByteArray→Ex:=fun s=>match ko.find? (fun g=>decide (g.name=s)) with | some g=>renE ot g.e | none=>f.e
 have hE:∀ m (hm:m<ko.length),E ko[m].name=renE ot ko[m].e:=fun m hm=>by
  have:ko.find? (fun g=>decide (g.name=ko[m].name))=some ko[m]:=find_fst _ ko m hm (by simp) fun i hi him=>by
   simp only [decide_eq_false_iff_not]
   intro e
   have:=(List.getElem_inj (h₀:=by simpa using hi) (h₁:=by simpa using hm) hnd).1 (by simpa using e)
   omega
  simp only [E,this]
 have hlen:=h.rg.1
 have hr:∀ r∈rs,ExV (newU n1 wr) (E r.name) (.agg #[.string r.o,.int .i64 r.n,.string r.s,.slice r.a r.l r.c]):=fun r hr=>by
  obtain⟨m,hm,rfl⟩:=List.mem_iff_getElem.1 hr
  have hmk:m<ko.length:=by omega
  obtain⟨e0,e1,e2,e3,e4,e5,e6⟩:=h.rg.2 m hmk hm
  obtain⟨d1,d2⟩:=hd m hmk hm hmk
  rw [e0,hE m hmk]
  refine⟨_,by rw [renE_op,renE_n,renE_s,e2,e3,d1],?_⟩
  rw [renE_l]
  exact exsX_of h.kn F.uf F.low e6 d2
 have hfx:=exsX_of h.kn F.uf F.low hx ht
 rw [← renE_l] at hfx
 have hfl:(renE ot f.e).l.length=f.e.l.length:=by rw [renE_l,List.length_map]
 have hpred:=same3_pred T f.name f.kind (renE ot f.e) ax cx (newU n1 wr) E rs (by rw [ren_parts];exact hp) (by rw [hfl];exact hfx) hr
 refine (idxOwn_any _ _ _ _ rs hpred n2 ko.length uk wr h.rowK (by omega) ⟨Zhv _ _,by rw [renE_op,renE_n,renE_s,hfl];exact hF⟩).mono ?_
 rintro r w' ⟨rfl,hb⟩
 refine⟨hb,?_⟩
 have hpm:∀ m (hm:m<rs.length) (hmk:m<ko.length),Zcf (renE ot f.e) (E rs[m].name)=Zcf (renE ot f.e) (renE ot ko[m].e):=fun m hm hmk=>by
  rw [(h.rg.2 m hmk hm).1,hE m hmk]
 rcases idxR_cases (fun r=>Zcf (renE ot f.e) (E r.name)) rs with ⟨h1,h2⟩ | ⟨k,hk,h1,h2,h3⟩
 ·refine .inl ⟨by rw [h1],?_⟩
  rw [List.find?_eq_none]
  intro g hg
  obtain⟨m,hm,rfl⟩:=List.mem_iff_getElem.1 hg
  have hm2:m<rs.length:=by omega
  have h4:=(List.filter_eq_self.1 h2) rs[m] (List.getElem_mem hm2)
  rw [hpm m hm2 hm] at h4
  simpa using h4
 have hkk:k<ko.length:=by omega
 refine .inr ⟨k,hkk,by rw [h1],find_fst _ ko k hkk (by rw [← hpm k hk hkk];exact h2) fun i hi hik=>?_⟩
 have hi2:i<rs.length:=by omega
 rw [← hpm i hi2 hi]
 exact h3 i hi2 hik
theorem same2_none {outs:List ByteArray} {f:Fl} {r ko:List Fl} {ot:Env ByteArray} (h:ko.find? (fun g=>Zcf (renE ot f.e) (renE ot g.e))=none):Zcd outs (f :: r) ot ko=Zcd outs r ot (ko++[f]):=by rw [Zcd,h]
theorem same2_keep {outs:List ByteArray} {f g:Fl} {r ko:List Fl} {ot:Env ByteArray} (h:ko.find? (fun g=>Zcf (renE ot f.e) (renE ot g.e))=some g) (hc:¬ (Zax (renE ot f.e)=false∧f.name∉outs)):Zcd outs (f :: r) ot ko=Zcd outs r ot (ko++[f]):=by rw [Zcd,h];exact if_neg hc
theorem same2_turn {outs:List ByteArray} {f g:Fl} {r ko:List Fl} {ot:Env ByteArray} (h:ko.find? (fun g=>Zcf (renE ot f.e) (renE ot g.e))=some g) (h1:Zax (renE ot f.e)=false) (h2:f.name∉outs):Zcd outs (f :: r) ot ko=Zcd outs r (ot.set f.name g.name) ko:=by rw [Zcd,h];exact if_pos ⟨h1,h2⟩
def renKn (To Mo Tr:Nat) (w:World):Kn:=fun b=>if b=To∨b=Mo∨b=Tr then w.heap[b]? else none
theorem renKn_in (To Mo Tr:Nat) (w:World):(renKn To Mo Tr w).In w:=fun b o e=>by
 unfold renKn at e
 split at e
 ·exact e
 cases e
theorem ren_howIn (ot:Env ByteArray) (hid:Idem ot) (To Mo Tr:Nat) (w:World) (h:RenI ot To Mo Tr w):
  HowOk 49 #[.pointer (some ⟨To,0,none⟩),.pointer (some ⟨Tr,0,none⟩)] (renKn To Mo Tr w) (renE ot) (fun e=>e.parts≤1000000000000):=by
 have k1:renKn To Mo Tr w To=w.heap[To]?:=if_pos (.inl rfl)
 have k2:renKn To Mo Tr w Mo=w.heap[Mo]?:=if_pos (.inr (.inl rfl))
 have k3:renKn To Mo Tr w Tr=w.heap[Tr]?:=if_pos (.inr (.inr rfl))
 have hml:=h.map.lt
 have hm:w.heap[Mo]?=some w.heap[Mo]:=Array.getElem?_eq_getElem hml
 refine ren_how ot hid To Mo Tr _ ⟨by rw [k1,h.box];simp,by rw [k2,hm];simp,by rw [k3,h.fn];simp⟩ fun w' hw=>⟨hw _ _ (k1.trans h.box),h.map.of_block ((hw _ _ (k2.trans hm)).trans hm.symm),hw _ _ (k3.trans h.fn)⟩
theorem Zhs {ot:Env ByteArray} {l l':List Ex} (h:l'.map (renE ot)=l.map (renE ot)):Ex.partsL l'=Ex.partsL l:=by rw [← Zgv ot l',h,Zgv]
theorem SmS.now {w:World} {To Mo Tr T7 n1 n2 nL:Nat} {pv ov:Array Value} {K:Kn} {uL:Value} {xL:List Value} {ot:Env ByteArray} {ko:List Fl} {rs:List FR} {uk:Value} {wr:World} (h:SmS w To Mo Tr T7 n1 n2 nL pv ov K uL xL ot ko rs uk wr) (F:SmF w To Mo Tr T7 n1 n2 K uL)
  {p:Pr} {vi vo va vc:Value} (hi:VrsV K p.ins vi) (ho:StrsZ K p.outs vo) (ha:ExsV K p.as va) (hc:ExsV K p.cs vc):
  ∃ kf as1 cs,PrP (newU n1 (wr.setCell ⟨T7,2,none⟩ uk)) ⟨p.ins,p.outs,kf,as1,cs⟩ vi vo uk va vc∧kf.map (renF ot)=ko.map (renF ot)∧as1.map (renE ot)=p.as.map (renE ot)∧cs.map (renE ot)=p.cs.map (renE ot):=by
 have hk:KnM ot K (wr.setCell ⟨T7,2,none⟩ uk):=h.kn.frame fun b hb=>Below.heap_setCell wr ⟨T7,2,none⟩ uk b fun e=>hb (by rw [e];exact F.kT)
 have hrow:(wr.setCell ⟨T7,2,none⟩ uk).ownsRow n2 71 6 uk ko.length (frX rs):=Zaq h.rowK (a:=⟨T7,2,none⟩) (fun e=>by have:=(h.rowK.lt _ e).1;have:=F.lows.2.2.2.2.2.2.2.2.1;change n2≤T7 at *;omega) uk
 obtain⟨kf,h1,h2⟩:=flsNow hk F.uf (n:=n1) F.low h.rg hrow F.lows.2.2.2.2.2.2.2.1
 obtain⟨as1,h3,h4⟩:=exsNow hk F.uf (n:=n1) F.low ha
 obtain⟨cs,h5,h6⟩:=exsNow hk F.uf (n:=n1) F.low hc
 exact⟨kf,as1,cs,⟨hk.vrs F.uf F.low hi,hk.strs F.uf F.low ho.1 ho.2,h1,h3,h5⟩,h2,h4,h6⟩
end Go.Proofs.YtofameafdnkijaaGreatDoor
