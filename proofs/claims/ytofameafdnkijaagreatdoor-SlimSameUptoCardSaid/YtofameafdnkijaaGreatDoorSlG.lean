/- Walks: slices.DeleteFunc at flows, in place. (Printed by gen_slg.py.) -/
import Derived.Test.YtofameafdnkijaaGreatDoorRg
import Derived.Test.YtofameafdnkijaaGreatDoorSmM
import Derived.Test.YtofameafdnkijaaGreatDoorSlD
import Derived.Test.YtofameafdnkijaaGreatDoorMap
set_option linter.all false
namespace Go.Proofs.YtofameafdnkijaaGreatDoor
set_option maxRecDepth 100000
set_option maxHeartbeats 16000000
open Go.RowKit Mx
structure DelI (I:World→Prop) (w0 wr:World) (g:Nat) (l:List FR) (p:FR→Bool) (c q m:Nat):Prop where
 lt:m<q
 len:m=((l.take q).filter fun r => !p r).length
 row:∃ cur:Array Value,wr.heap[g]?=some (.cells cur 71 (0,0))∧cur.size=c * 6∧(∀ a,a<m * 6→cur[a]?=(frX ((l.take q).filter fun r => !p r))[a]?)∧∀ a,q * 6≤a→a<l.length * 6→cur[a]?=(frX l)[a]?
 keep:∀ b,b<w0.heap.size→b≠g→wr.heap[b]?=w0.heap[b]?
 size:w0.heap.size≤wr.heap.size
 below:Below g w0 wr
 inv:I wr
theorem DelI.le {I:World→Prop} {w0 wr:World} {g:Nat} {l:List FR} {p:FR→Bool} {c q m:Nat} (h:DelI I w0 wr g l p c q m):m≤q:=by
 have h1:=h.len
 have h2:=List.length_filter_le (fun r => !p r) (l.take q)
 simp only [List.length_take] at h2
 omega
theorem DelI.later {I:World→Prop} {w0 wr w':World} {g:Nat} {l:List FR} {p:FR→Bool} {c q m:Nat} (h:DelI I w0 wr g l p c q m) (hb:Below wr.heap.size wr w') (hg:g<wr.heap.size) (hI:I w'):DelI I w0 w' g l p c q m:=by
 obtain⟨cur,h1,h2⟩:=h.row
 exact⟨h.lt,h.len,⟨cur,(hb.block g hg).trans h1,h2⟩,fun b hb1 hb2=>(hb.block b (Nat.lt_of_lt_of_le hb1 h.size)).trans (h.keep b hb1 hb2),Nat.le_trans h.size hb.size,h.below.trans (hb.mono (by omega)),hI⟩
theorem DelI.skip {I:World→Prop} {w0 wr:World} {g:Nat} {l:List FR} {p:FR→Bool} {c q m:Nat} (h:DelI I w0 wr g l p c q m) (hq:q<l.length) (hp:p l[q]=true):DelI I w0 wr g l p c (q+1) m:=by
 have e:(l.take (q+1)).filter (fun r => !p r)=(l.take q).filter (fun r => !p r):=by
  rw [Zb2 _ _ hq,List.filter_append];simp [hp]
 obtain⟨cur,h1,h2,h3,h4⟩:=h.row
 exact⟨Nat.lt_succ_of_lt h.lt,by rw [e];exact h.len,⟨cur,h1,h2,by rw [e];exact h3,fun a ha=>h4 a (by omega)⟩,h.keep,h.size,h.below,h.inv⟩
theorem DelI.put {I:World→Prop} {w0 wr:World} {g:Nat} {l:List FR} {p:FR→Bool} {c q m:Nat} {x:FR} (h:DelI I w0 wr g l p c q m) (hq:q<l.length) (hx:l[q]=x) (hp:p x=false) (hmc:m * 6+6≤c * 6)
  (hst2:∀ w w',I w→(∀ b,b<w.heap.size→b≠g→w'.heap[b]?=w.heap[b]?)→I w'):
  DelI I w0 ((((((wr.setCell ⟨g,m * 6,none⟩ (.string x.name)).setCell ⟨g,m * 6+1,none⟩ (.int .i64 x.k)).setCell ⟨g,m * 6+2,none⟩ (.string x.o)).setCell ⟨g,m * 6+3,none⟩ (.int .i64 x.n)).setCell ⟨g,m * 6+4,none⟩ (.string x.s)).setCell ⟨g,m * 6+5,none⟩ (.slice x.a x.l x.c)) g l p c (q+1) (m+1):=by
 have hmq:=h.le
 have hb:=(((((h.below.setCell (p:=⟨g,m * 6,none⟩) (Nat.le_refl g) (.string x.name)).setCell (p:=⟨g,m * 6+1,none⟩) (Nat.le_refl g) (.int .i64 x.k)).setCell (p:=⟨g,m * 6+2,none⟩) (Nat.le_refl g) (.string x.o)).setCell (p:=⟨g,m * 6+3,none⟩) (Nat.le_refl g) (.int .i64 x.n)).setCell (p:=⟨g,m * 6+4,none⟩) (Nat.le_refl g) (.string x.s)).setCell (p:=⟨g,m * 6+5,none⟩) (Nat.le_refl g) (.slice x.a x.l x.c)
 obtain⟨cur,h1,h2,h3,h4⟩:=h.row
 obtain⟨⟨cur',g1,g2,g3,g4⟩,g5,g6⟩:=Zdw g x.cells (m * 6) wr cur _ _ h1 (by show m * 6+6≤cur.size;omega)
 have e:(l.take (q+1)).filter (fun r => !p r)=(l.take q).filter (fun r => !p r)++[x]:=by
  rw [Zb2 _ _ hq,List.filter_append,hx];simp [hp]
 have hlen:=h.len
 refine⟨Nat.succ_lt_succ h.lt,by rw [e,List.length_append,← hlen];rfl,⟨cur',g1,by omega,fun a ha=>?_,fun a ha1 ha2=>?_⟩,fun b hb1 hb2=>(g5 b hb2).trans (h.keep b hb1 hb2),?_,hb,hst2 _ _ h.inv fun b _ hne=>g5 b hne⟩
 ·rw [e,frX_app]
  have hfl:(frX ((l.take q).filter fun r => !p r)).length=m * 6:=by rw [Zgj,← hlen]
  by_cases h6:a<m * 6
  ·rw [g3 a (.inl h6),h3 a h6,List.getElem?_append_left (by omega)]
  rw [List.getElem?_append_right (by omega),hfl]
  have h7:=g4 (a - m * 6) (by show a - m * 6<6;omega)
  rw [show m * 6+(a - m * 6)=a from by omega] at h7
  rw [h7]
  show _=(x.cells++[])[a - m * 6]?
  rw [List.append_nil]
 ·rw [g3 a (.inr (by show m * 6+6≤a;omega)),h4 a (by omega) ha2]
 exact Nat.le_trans h.size (Nat.le_of_eq g6.symm)
theorem Zhn {base b:Nat} {w0:World} (hb:base≤b):∀ (L:List Value) (o:Nat) {w:World},Below base w0 w→Below base w0 (w.setCells b o L)
 | [],_,_,h=>h
 | v :: L,o,_,h=>Zhn hb L (o+1) (h.setCell (p:=⟨b,o,none⟩) hb v)
theorem delFn_any (k:Nat) (cap:Array Value) (I:World→Prop) (p:FR→Bool) (l:List FR) (hp:FrPred k cap I p l) (g c:Nat) (hst2:∀ w w',I w→(∀ b,b<w.heap.size→b≠g→w'.heap[b]?=w.heap[b]?)→I w') (cur:Array Value) (w:World) (hrow:w.heap[g]?=some (.cells cur 71 (0,0)))
  (hsz:cur.size=c * 6) (hlc:l.length≤c) (hxs:∀ a,a<l.length * 6→cur[a]?=(frX l)[a]?) (hl:l.length≤1000000000) (hI:I w):
  Calls Tryz.prog 47 #[.slice (some ⟨g,0,none⟩) l.length c,.func (.func k) #[] cap] w fun r w'=>r = .returned (.slice (some ⟨g,0,none⟩) (l.filter fun r => !p r).length c)∧
   ∃ cur':Array Value,w'.heap[g]?=some (.cells cur' 71 (0,0))∧cur'.size=c * 6∧(∀ a,a<(l.filter fun r => !p r).length * 6→cur'[a]?=(frX (l.filter fun r => !p r))[a]?)∧(∀ b,b<w.heap.size→b≠g→w'.heap[b]?=w.heap[b]?)∧w.heap.size≤w'.heap.size∧Below g w w':=by
 obtain⟨hen,hst,hp⟩:=hp
 have HP:=Zhd hp
 have HS:=Zhd hst
 have HS2:=Zhd hst2
 have HI:=Zhd hI
 have HXS:=Zhd hxs
 have HROW:=Zhd hrow
 have hg:=(Zlt hrow)
 have hcell:∀ i (hi:i<l.length),∀ j u,l[i].cells[j]?=some u→w.cell? ⟨g,i * 6+j,none⟩=some u:=fun i hi j u hu=>by
  have hj:j<6:=by
   rcases Nat.lt_or_ge j 6 with h | h
   ·exact h
   rw [List.getElem?_eq_none (show l[i].cells.length≤j from h)] at hu;cases hu
  have h1:=hxs (i * 6+j) (by omega)
  rw [Zgk l i hi j hj,hu] at h1
  simp [World.cell?,hrow,h1]
 have hidx:=idxR_any k cap I p l ⟨hen,hst,hp⟩ g c w hg hcell hl hI
 have HIDX:=Zhd hidx
 have hen2:=hen
 unfold Zdr at hen
 clear hst hp hst2 hI hxs hrow hcell hidx hen2
 go_enter Tryz.func47,Tryz.ntmps47
 go_wp2_with fail
 refine HIDX.out.mono ?_
 rintro r w1 ⟨rfl,hb1⟩
 have HB1:=Zhd hb1
 clear hb1 HIDX
 rcases idxR_cases p l with ⟨h1,h2⟩ | ⟨q,hq,h1,h2,h3⟩
 ·rw [h1]
  have HF:=Zhd h2
  clear h1 h2
  go_wp2_with fail
  go_ret
  refine⟨by rw [HF.out];rfl,cur,(HB1.out.block g hg).trans HROW.out,hsz,by rw [HF.out];exact HXS.out,fun b hb _=>HB1.out.block b hb,HB1.out.size,HB1.out.mono (by omega)⟩
 rw [h1]
 have hqn:((q:Int) == -1)=false:=by first | (simp;done) | (simp;omega)
 have htk:(l.take (q+1)).filter (fun r => !p r)=l.take q:=by
  rw [Zb2 _ _ hq,List.filter_append]
  have e1:(l.take q).filter (fun r => !p r)=l.take q:=List.filter_eq_self.2 fun x hx=>by
   obtain⟨i,hi,rfl⟩:=List.mem_iff_getElem.1 hx
   simp only [List.length_take] at hi
   rw [List.getElem_take,h3 i (by omega) (by omega)];rfl
  rw [e1]
  simp [h2]
 have HD:=Zhd (show DelI I w w1 g l p c (q+1) q from⟨Nat.lt_succ_self q,by rw [htk,List.length_take];omega,⟨cur,(HB1.out.block g hg).trans HROW.out,hsz,fun a ha=>by
   rw [HXS.out a (by omega),htk]
   have e:frX l=frX (l.take q)++frX (l.drop q):=by rw [← frX_app,List.take_append_drop]
   rw [e,List.getElem?_append_left (by rw [Zgj,List.length_take];omega)],fun a _ ha=>HXS.out a ha⟩,
  fun b hb _=>HB1.out.block b hb,HB1.out.size,HB1.out.mono (by omega),HS.out _ _ HI.out HB1.out⟩)
 clear h1 h2 h3 htk
 go_wp2_with fail
 go_loopw [5,6] (fun i j wr=>∃ m q:Nat,i = .int .i64 m∧j = .int .i64 q∧q≤l.length∧DelI I w wr g l p c q m) (fun _ j _=>l.length - (intOf j).toNat)
 case atStart=>exact⟨q,q+1,rfl,by go_num,by omega,HD.out⟩
 clear HD
 obtain⟨m,q,rfl,rfl,hq,hD⟩:=hrel
 have HD:=Zhd hD
 clear hD
 obtain⟨cur1,hr1,hs1,hx1,hx2⟩:=HD.out.row
 have hgr:=(Zlt hr1)
 have hmq:m≤q:=HD.out.le
 by_cases hql:q<l.length
 ·have hcell:∀ j u,l[q].cells[j]?=some u→wr.cell? ⟨g,q * 6+j,none⟩=some u:=fun j u hu=>by
   have hj:j<6:=by
    rcases Nat.lt_or_ge j 6 with h | h
    ·exact h
    rw [List.getElem?_eq_none (show l[q].cells.length≤j from h)] at hu;cases hu
   have h1:=hx2 (q * 6+j) (by omega) (by omega)
   rw [Zgk l q hql j hj,hu] at h1
   simp [World.cell?,hr1,h1]
  obtain⟨x,hx⟩:∃ x,l[q]=x:=⟨_,rfl⟩
  have hmem:x∈l:=by rw [← hx];exact List.getElem_mem hql
  have HX:=Zhd hx
  rw [hx] at hcell
  have c0:=hcell 0 _ rfl
  have c1:=hcell 1 _ rfl
  have c2:=hcell 2 _ rfl
  have c3:=hcell 3 _ rfl
  have c4:=hcell 4 _ rfl
  have c5:=hcell 5 _ rfl
  simp only [Nat.add_zero] at c0
  have hba:=(Below.refl wr.heap.size wr).alloc (Nat.le_refl _) (.cells #[.string x.name,.int .i64 x.k,.string x.o,.int .i64 x.n,.string x.s,.slice x.a x.l x.c] 71)
  have HDA:=Zhd (HD.out.later hba (by omega) (HS.out _ _ HD.out.inv hba))
  have HBX:=Zhd (heap_alloc_new wr (.cells #[.string x.name,.int .i64 x.k,.string x.o,.int .i64 x.n,.string x.s,.slice x.a x.l x.c] 71))
  have HCALL:=Zhd (HP.out x hmem _ HDA.out.inv)
  obtain⟨⟨z0,z1,z2,z3,z4,z5⟩,_⟩:=Zdl HBX.out
  have hr1A:=Zhd ((hba.block g hgr).trans hr1)
  have hzA:wr.heap.size<(wr.alloc (.cells #[.string x.name,.int .i64 x.k,.string x.o,.int .i64 x.n,.string x.s,.slice x.a x.l x.c] 71)).heap.size:=by simp
  have HQ:=Zhd (And.intro hr1 (And.intro hs1 (And.intro hx1 hx2)))
  clear hx hcell hba hr1 hs1 hx1 hx2
  go_wp2_with fail
  refine HCALL.out.mono ?_
  rintro r w5 ⟨rfl,hb5⟩
  have HD5:=Zhd (HDA.out.later hb5 (by omega) (HS.out _ _ HDA.out.inv hb5))
  have HC5:=Zhd ((hb5.block wr.heap.size hzA).trans HBX.out)
  have HR5:=Zhd ((hb5.block g (by omega)).trans hr1A.out)
  clear hb5 HCALL HDA HBX hr1A c0 c1 c2 c3 c4 c5 z0 z1 z2 z3 z4 z5 hzA
  obtain⟨⟨z0,z1,z2,z3,z4,z5⟩,_⟩:=Zdl HC5.out
  have hszq:cur1.size=c * 6:=HQ.out.2.1
  cases he:p x
  ·have hmc:m * 6+6≤cur1.size:=by omega
   have hg5:∀ j,j<6→(∃ u,w5.cell? ⟨g,m * 6+j,none⟩=some u)∧w5.frozen? ⟨g,m * 6+j,none⟩=false:=fun j hj=>by
    have hlt:m * 6+j<cur1.size:=by omega
    exact⟨⟨_,by simp [World.cell?,HR5.out,hlt];rfl⟩,by simp [World.frozen?,HR5.out]⟩
   obtain⟨⟨y0,g0⟩,f0⟩:=hg5 0 (by omega)
   obtain⟨⟨y1,g1⟩,f1⟩:=hg5 1 (by omega)
   obtain⟨⟨y2,g2⟩,f2⟩:=hg5 2 (by omega)
   obtain⟨⟨y3,g3⟩,f3⟩:=hg5 3 (by omega)
   obtain⟨⟨y4,g4⟩,f4⟩:=hg5 4 (by omega)
   obtain⟨⟨y5,g5⟩,f5⟩:=hg5 5 (by omega)
   simp only [Nat.add_zero] at g0 f0
   have hmI:(m:Int)<l.length:=by omega
   clear hg5
   go_wp2_with fail
   have HN:=Zhd (HD5.out.put hql HX.out he (by omega) HS2.out)
   clear HD5
   go_roundw
   case rel=>exact⟨m+1,q+1,by go_num,by go_num,by omega,HN.out⟩
   simp [intOf];omega
  have HN:=Zhd (HD5.out.skip hql (by rw [HX.out];exact he))
  clear HD5
  go_wp2_with fail
  go_roundw
  case rel=>exact⟨m,q+1,rfl,by go_num,by omega,HN.out⟩
  simp [intOf];omega
 obtain rfl:q=l.length:=by omega
 have hmlt:=HD.out.lt
 have hmc:m<c:=by omega
 have hmc2:c≠m:=by omega
 obtain⟨L,hL,hcl⟩:=run_clear_flows wr g (m * 6) (l.length - m) (c - m) cur1 hr1 (by omega)
 have hm:=HD.out.len
 rw [List.take_of_length_le (Nat.le_refl _)] at hm hx1
 obtain⟨⟨cur',e1,e2,e3,_⟩,e5,e6⟩:=Zdw g L (m * 6) wr cur1 _ _ hr1 (by omega)
 have HF:=Zhd (show (Ending.returned (.slice (some ⟨g,0,none⟩) m c) = .returned (.slice (some ⟨g,0,none⟩) (l.filter fun r => !p r).length c))∧∃ cur':Array Value,(wr.setCells g (m * 6) L).heap[g]?=some (.cells cur' 71 (0,0))∧cur'.size=c * 6∧(∀ a,a<(l.filter fun r => !p r).length * 6→cur'[a]?=(frX (l.filter fun r => !p r))[a]?)∧(∀ b,b<w.heap.size→b≠g→(wr.setCells g (m * 6) L).heap[b]?=w.heap[b]?)∧w.heap.size≤(wr.setCells g (m * 6) L).heap.size∧Below g w (wr.setCells g (m * 6) L) from
  ⟨by rw [hm],cur',e1,by omega,fun a ha=>by rw [e3 a (.inl (by omega)),hx1 a (by omega)],fun b hb hne=>(e5 b hne).trans (HD.out.keep b hb hne),Nat.le_trans HD.out.size (Nat.le_of_eq e6.symm),Zhn (Nat.le_refl g) L (m * 6) HD.out.below⟩)
 clear hm hx1 hx2 e1 e2 e3 e5 e6 hr1 hs1
 go_wp2_with fail
 generalize wr.setCells g (m * 6) L=W9 at HF ⊢
 refine bodyPost_ret (v := .slice (some ⟨g,0,none⟩) m c) (by simp [results,Tryz.results47,go_sem]) rfl ?_
 exact HF.out
theorem dropId_how (KH:Kn):HowOk 46 #[] KH id (fun _=>True):=by
 refine⟨fun _ _=>by kernel_rfl,fun e v n w _ hv hn hKH hno=>?_⟩
 obtain⟨u,rfl,hu⟩:=hv
 obtain⟨a,c,rfl⟩:=hu.len
 have hb1:Below w.heap.size w ((w.alloc (.cells #[.string e.op,.int .i64 e.n,.string e.s,.slice a e.l.length c] 69)).alloc (.cells #[.string e.op,.int .i64 e.n,.string e.s,.slice a e.l.length c] 69)):=((Below.refl _ _).alloc (Nat.le_refl _) _).alloc (by simp) _
 have HU:=Zhd (hu.le (newU_mono (n:=n) hb1))
 have HB:=Zhd (hb1.mono hn)
 clear hb1 hu
 go_enter Tryz.func46,Tryz.ntmps46
 go_wp2_with fail
 refine bodyPost_ret (v := .agg #[.string e.op,.int .i64 e.n,.string e.s,.slice a e.l.length c]) (by simp [results,Tryz.results46,go_sem]) rfl ?_
 exact⟨_,rfl,⟨_,rfl,HU.out⟩,HB.out⟩
def ndEnv (nd:List ByteArray):Env Bool:=fun s=>if s∈nd then some true else none
theorem ndEnv_set (nd:List ByteArray) (s:ByteArray):(ndEnv nd).set s true=ndEnv (s :: nd):=by
 funext x
 unfold ndEnv Env.set
 by_cases h:x=s
 ·subst h;simp
 simp [h]
theorem ndEnv_get (nd:List ByteArray) (s:ByteArray):((ndEnv nd) s).getD false=decide (s∈nd):=by
 unfold ndEnv
 by_cases h:s∈nd<;>simp [h]
def NeedI (T6 M:Nat) (nd:List ByteArray) (w:World):Prop:=w.heap[T6]?=some (.cells #[.map (some M)] 102 (0,0))∧Zaw Value.bool w M (ndEnv nd)
theorem dropNot_pred (T6 M:Nat) (nd:List ByteArray) (l:List FR):FrPred 48 #[.pointer (some ⟨T6,0,none⟩)] (NeedI T6 M nd) (fun r => !decide (r.name∈nd)) l:=by
 refine⟨fun _ _=>by kernel_rfl,fun w w' h hb=>⟨(hb.block _ (Zlt h.1)).trans h.1,h.2.below hb⟩,fun r _ w h=>?_⟩
 obtain⟨h1,h2⟩:=h
 have hb1:Below w.heap.size w (w.alloc (.cells #[.string r.name,.int .i64 r.k,.string r.o,.int .i64 r.n,.string r.s,.slice r.a r.l r.c] 71)):=(Below.refl _ _).alloc (Nat.le_refl _) _
 have hM:=h2.below hb1
 have h3:=(hb1.block _ (Zlt h1)).trans h1
 have c1:(w.alloc (.cells #[.string r.name,.int .i64 r.k,.string r.o,.int .i64 r.n,.string r.s,.slice r.a r.l r.c] 71)).cell? ⟨T6,0,none⟩=some (.map (some M)):=by simp [World.cell?,h3]
 have hrun:=hM.run (P:=Tryz.prog) Tryz.underlying102 Tryz.underlying9 (d:=false) (by kernel_rfl) r.name false
 rw [ndEnv_get] at hrun
 simp only [Bool.false_eq_true,if_false] at hrun
 have HB:=Zhd hb1
 clear h1 h2 hb1 hM h3
 unfold FR.agg
 dsimp only
 generalize decide (r.name∈nd)=bb at *
 go_enter Tryz.func48,Tryz.ntmps48
 go_wp2_with fail
 go_ret
 first | exact⟨rfl,HB.out⟩ | exact⟨Zb6 (by cases bb<;>rfl),HB.out⟩
theorem Zgn:∀ (l:List Fl) (i:Nat) (m:Env Nat) (s:ByteArray),(Zcs i m l s=m s∧s∉l.map (·.name))∨∃ j,∃ hj:j<l.length,Zcs i m l s=some (i+j)∧l[j].name=s
 | [],i,m,s => .inl ⟨rfl,by simp⟩
 | f :: l,i,m,s=>by
  rcases Zgn l (i+1) (m.set f.name i) s with ⟨h1,h2⟩ | ⟨j,hj,h1,h2⟩
  ·by_cases hs:s=f.name
   ·exact .inr ⟨0,by simp,by rw [Zcs,h1,hs,Env.set_self];rfl,hs.symm⟩
   exact .inl ⟨by rw [Zcs,h1,Env.set_other _ _ hs],by simp only [List.map_cons,List.mem_cons,not_or];exact⟨hs,h2⟩⟩
  exact .inr ⟨j+1,by simp;omega,by rw [Zcs,h1];congr 1;omega,h2⟩
theorem at_none {p:Pr} {s:ByteArray} (h:p.atOf s=none):exOf p.fl s=none:=by
 rcases Zgn p.fl 0 Env.none s with ⟨_,h2⟩ | ⟨j,hj,h1,_⟩
 ·cases e:exOf p.fl s with
  | none=>rfl
  | some x=>exact absurd (Zgl.1 (by rw [e];rfl)) h2
 unfold Pr.atOf at h;rw [h1] at h;cases h
theorem at_some {p:Pr} (hn:(p.fl.map (·.name)).Nodup) {s:ByteArray} {i:Nat} (h:p.atOf s=some i):∃ hi:i<p.fl.length,p.fl[i].name=s∧exOf p.fl s=some p.fl[i].e:=by
 rcases Zgn p.fl 0 Env.none s with ⟨h1,_⟩ | ⟨j,hj,h1,h2⟩
 ·unfold Pr.atOf at h;rw [h1] at h;cases h
 unfold Pr.atOf at h
 rw [h1] at h
 obtain rfl:j=i:=by simpa using h
 refine⟨hj,h2,?_⟩
 rw [← h2]
 exact Zik hn (List.getElem_mem hj)
theorem idxR_nil (k:Nat) (cap:Array Value) (hen:Zdr Tryz.prog k) (w:World):
  Calls Tryz.prog 51 #[.slice none 0 0,.func (.func k) #[] cap] w fun r w'=>r = .returned (.int .i64 (-1))∧Below w.heap.size w w':=by
 unfold Zdr at hen
 go_enter Tryz.func51,Tryz.ntmps51
 go_wp2_with fail
 go_rounds 1
 all_goals go_ret
 exact⟨rfl,Below.refl _ _⟩
theorem delFn_nil (k:Nat) (cap:Array Value) (hen:Zdr Tryz.prog k) (w:World):
  Calls Tryz.prog 47 #[.slice none 0 0,.func (.func k) #[] cap] w fun r w'=>r = .returned (.slice none 0 0)∧Below w.heap.size w w':=by
 have h:=idxR_nil k cap hen w
 go_enter Tryz.func47,Tryz.ntmps47
 go_wp2_with fail
 refine h.mono ?_
 rintro r w1 ⟨rfl,hb1⟩
 go_wp2_with fail
 go_ret
 exact⟨rfl,hb1⟩
def RowF (K:Kn):List Fl→List FR→Prop
 | [],rs=>rs=[]
 | f :: l,rs=>∃ r r',rs=r :: r'∧(r.name=f.name∧r.k=f.kind∧r.o=f.e.op∧r.n=f.e.n∧r.s=f.e.s∧r.l=f.e.l.length∧ExsV K f.e.l (.slice r.a r.l r.c))∧RowF K l r'
theorem RowF.of {K:Kn}:∀ {l:List Fl} {xs:List Value},FsX K l xs→∃ rs,RowF K l rs∧xs=frX rs
 | [],xs,h=>⟨[],rfl,h⟩
 | f :: l,xs,h=>by
  obtain⟨a,c,r,rfl,h1,h2⟩:=h
  obtain⟨rs,h3,rfl⟩:=RowF.of h2
  exact⟨⟨f.name,f.kind,f.e.op,f.e.n,f.e.s,a,f.e.l.length,c⟩ :: rs,⟨_,_,rfl,⟨rfl,rfl,rfl,rfl,rfl,rfl,h1⟩,h3⟩,rfl⟩
theorem RowF.len {K:Kn}:∀ {l:List Fl} {rs:List FR},RowF K l rs→rs.length=l.length
 | [],rs,h=>by rw [show rs=[] from h];rfl
 | f :: l,rs,h=>by
  obtain⟨r,r',rfl,_,h2⟩:=h
  simp [RowF.len h2]
theorem RowF.filter {K:Kn} (p:ByteArray→Bool):∀ {l:List Fl} {rs:List FR},RowF K l rs→RowF K (l.filter fun f=>p f.name) (rs.filter fun r=>p r.name)
 | [],rs,h=>by rw [show rs=[] from h];rfl
 | f :: l,rs,h=>by
  obtain⟨r,r',rfl,h1,h2⟩:=h
  have ih:=RowF.filter p h2
  by_cases hp:p f.name=true
  ·rw [List.filter_cons_of_pos (by simpa using hp),List.filter_cons_of_pos (by simpa [h1.1] using hp)]
   exact⟨r,_,rfl,h1,ih⟩
  rw [List.filter_cons_of_neg (by simpa using hp),List.filter_cons_of_neg (by simpa [h1.1] using hp)]
  exact ih
theorem RowF.get {K:Kn}:∀ {l:List Fl} {rs:List FR},RowF K l rs→∀ i (hi:i<l.length) (hr:i<rs.length),rs[i].name=l[i].name∧rs[i].k=l[i].kind∧rs[i].o=l[i].e.op∧rs[i].n=l[i].e.n∧rs[i].s=l[i].e.s∧rs[i].l=l[i].e.l.length∧ExsV K l[i].e.l (.slice rs[i].a rs[i].l rs[i].c)
 | f :: l,rs,h,i,hi,hr=>by
  obtain⟨r,r',rfl,h1,h2⟩:=h
  cases i with
  | zero=>exact h1
  | succ i=>exact RowF.get h2 i (by simpa using hi) (by simpa using hr)
theorem fls_of_rows {K K':Kn} (hle:K.le K') {l:List Fl} {rs:List FR} (h:RowF K l rs) {g c:Nat} {cur:Array Value} (hg:K' g=some (.cells cur 71 (0,0))) (hc:l.length≤c) (hcm:c≤maxLen) (hx:∀ a,a<rs.length * 6→cur[a]?=(frX rs)[a]?):
  FlsV K' l (.slice (some ⟨g,0,none⟩) l.length c):=by
 refine .inr ⟨g,0,c,rfl,hc,hcm,fun i hi=>?_⟩
 have hr:i<rs.length:=by rw [h.len];exact hi
 obtain⟨e1,e2,e3,e4,e5,e6,e7⟩:=h.get i hi hr
 have hcell:∀ j,j<6→K'.cell g (0+i * 6+j)=rs[i].cells[j]?:=fun j hj=>by
  have h1:=hx (i * 6+j) (by omega)
  rw [Zgk rs i hr j hj] at h1
  unfold Kn.cell
  rw [hg,Nat.zero_add]
  exact h1
 refine⟨?_,?_,ExAt.mk (u := .slice rs[i].a rs[i].l rs[i].c) ?_ ?_ ?_ ?_ (e7.le hle)⟩
 ·have:=hcell 0 (by omega);rw [← e1];exact this
 ·have:=hcell 1 (by omega);rw [← e2];exact this
 ·have:=hcell 2 (by omega);rw [← e3];exact this
 ·have:=hcell 3 (by omega);rw [← e4];exact this
 ·have:=hcell 4 (by omega);rw [← e5];exact this
 have:=hcell 5 (by omega);exact this
theorem delFl_any (K:Kn) (T6 M:Nat) (nd:List ByteArray) (fl:List Fl) (rs:List FR) (hrs:RowF K fl rs) (uL:Value) (base:Nat) (w:World) (hrow:w.ownsRow base 71 6 uL fl.length (frX rs)) (hK:K.In w) (hnL:∀ b,uL.ownBlock=some b→K b=none) (hn:NeedI T6 M nd w) (hl:fl.length≤1000000000) (hbase:base≤w.heap.size):
  Calls Tryz.prog 47 #[uL,.func (.func 48) #[] #[.pointer (some ⟨T6,0,none⟩)]] w fun r w'=>∃ u' K',r = .returned u'∧FlsV K' (fl.filter fun f=>decide (f.name∈nd)) u'∧K.le K'∧K'.In w'∧(∀ b,uL.ownBlock≠some b→K' b=K b)∧
   (∀ b,b<w.heap.size→uL.ownBlock≠some b→w'.heap[b]?=w.heap[b]?)∧Below base w w':=by
 have hlen:=hrs.len
 rcases hrow.2 with ⟨rfl,h0⟩ | ⟨g,cap,cur,rfl,h2,h3,h4,h5,h6,h7⟩
 ·refine (delFn_nil _ _ (fun _ _=>by kernel_rfl) w).mono ?_
  rintro r w' ⟨rfl,hb⟩
  have hfl:fl=[]:=List.eq_nil_of_length_eq_zero h0
  refine⟨_,K,rfl,by rw [hfl];exact .inl ⟨rfl,_,_,rfl⟩,Kn.le_refl K,hK.below hb,fun _ _=>rfl,fun b hb1 _=>hb.block b hb1,?_⟩
  exact hb.mono hbase
 have hg:K g=none:=hnL g rfl
 have hgl:=(Zlt h3)
 have hxs:∀ a,a<rs.length * 6→cur[a]?=(frX rs)[a]?:=fun a ha=>by
  rw [← h7,List.getElem?_take,if_pos (by omega)]
  simp
 have hT6:T6≠g:=fun e=>by
  have h:=hn.1
  rw [e,h3] at h
  simp only [Option.some.injEq,Obj.cells.injEq] at h
  exact absurd h.2.1 (by decide)
 have hM:M≠g:=fun e=>by
  obtain⟨es,cl,h,_⟩:=hn.2
  rw [e,h3] at h
  cases h
 have hlr:rs.length=fl.length:=hlen
 have hd:=delFn_any 48 #[.pointer (some ⟨T6,0,none⟩)] (NeedI T6 M nd) (fun r => !decide (r.name∈nd)) rs (dropNot_pred T6 M nd rs) g cap (fun u u' h hk=>⟨(hk _ (Zlt h.1) hT6).trans h.1,h.2.of_block (hk _ h.2.lt hM)⟩) cur w h3 h6 (by omega) hxs (by omega) hn
 rw [hlr] at hd
 refine hd.mono ?_
 rintro r w' ⟨rfl,cur',e1,e2,e3,e4,e5,e6⟩
 have hf:(rs.filter fun r => !(!decide (r.name∈nd)))=rs.filter fun r=>decide (r.name∈nd):=by simp
 rw [hf] at e3 ⊢
 have hr2:=hrs.filter (fun s=>decide (s∈nd))
 have hl2:=hr2.len
 have hfl2:(fl.filter fun f=>decide (f.name∈nd)).length≤fl.length:=List.length_filter_le _ _
 refine⟨_,K.add g (.cells cur' 71 (0,0)),rfl,?_,Kn.le_add hg,?_,fun b hb=>Kn.add_other K _ (fun e=>hb (by rw [e];rfl)),fun b hb hne=>e4 b hb (fun e=>hne (by rw [e];rfl)),e6.mono h2⟩
 ·rw [hl2]
  exact fls_of_rows (Kn.le_add hg) hr2 (Kn.add_self K g _) (by omega) h5 e3
 refine Kn.In.add (fun b o e=>?_) e1
 have hbl:=hK.lt e
 rw [e4 b hbl (fun e2=>by rw [e2,hg] at e;cases e)]
 exact hK b o e
end Go.Proofs.YtofameafdnkijaaGreatDoor
