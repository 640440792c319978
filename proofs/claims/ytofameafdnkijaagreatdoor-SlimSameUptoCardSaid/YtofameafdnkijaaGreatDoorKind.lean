/- Walks: flat.KindOf. (By kindgen.py.) -/
import Derived.Test.YtofameafdnkijaaGreatDoorRg
import Derived.Test.YtofameafdnkijaaGreatDoorArity
import Derived.Test.YtofameafdnkijaaGreatDoorMap
set_option linter.all false
namespace Go.Proofs.YtofameafdnkijaaGreatDoor
set_option maxRecDepth 100000
set_option maxHeartbeats 16000000
open Go.RowKit Mx
theorem mKind1 {p:Prop} (h:p:=by
 go_wp2_with fail
 go_ret
 exact⟨Zat (by rw [HK.out];unfold Zcq;have s0:=S0.out;have s1:=S1.out;(simp [e0,e1,e2,e3,e4,e5,e6,e7,e8,e9,e10,e11,e12,e13,e14,e15,e16,e17,e18,s0,s1];try omega)),HF.out _⟩):p:=h
mutual
def okIf:Ex→Bool
 | .mk o _ _ l=>(decide (o≠oIf) || decide (l.length=3))&&okIfL l
def okIfL:List Ex→Bool
 | []=>true
 | e :: l=>okIf e&&okIfL l
end
theorem okIfL_mem:∀ {l:List Ex},okIfL l=true→∀ e∈l,okIf e=true
 | [],_,_,h=>by cases h
 | x :: l,hl,e,h=>by
  simp only [okIfL,Bool.and_eq_true] at hl
  rcases List.mem_cons.1 h with rfl | h
  ·exact hl.1
  exact okIfL_mem hl.2 e h
theorem Zjj (ks:Env Int):∀ (l:List Ex) (k:Nat) (h:k<l.length),Zav ks (l.take (k+1))=Zav ks (l.take k)++[Zam ks l[k]]
 | e :: l,0,_=>by simp [Zav]
 | e :: l,k+1,h=>by
  have:=Zjj ks l k (by simpa using h)
  simp only [List.take_succ_cons,Zav,List.getElem_cons_succ]
  rw [this];rfl
theorem Zhi (ks:Env Int):∀ l:List Ex,(Zav ks l).length=l.length
 | []=>rfl
 | e :: l=>by simp [Zav,Zhi ks l]
theorem kindsOf_mem (ks:Env Int):∀ (l:List Ex) (k:Nat) (h:k<l.length),Zam ks l[k]∈Zav ks l
 | e :: l,0,_=>by simp [Zav]
 | e :: l,k+1,h=>by
  have:=kindsOf_mem ks l k (by simpa using h)
  simp only [Zav,List.getElem_cons_succ,List.mem_cons]
  exact .inr this
theorem kindOf_zero (ks:Env Int) (o:ByteArray) (n:Int) (s:ByteArray) (l:List Ex) (k:Nat) (h:k<l.length) (h0:Zam ks l[k]=0):Zam ks (.mk o n s l)=0:=by
 have hm:=kindsOf_mem ks l k h
 rw [h0] at hm
 simp only [Zam]
 rw [if_pos (by simpa using hm)]
theorem Zie (ks:Env Int) (o:ByteArray) (n:Int) (s:ByteArray) (l:List Ex) (h:(0:Int)∉Zav ks l):Zam ks (.mk o n s l)=Zci o ((ks s).getD 0) (Zav ks l):=by
 simp only [Zam]
 rw [if_neg (by simpa using h)]
theorem Zgw:∀ l:List Ex,l.length≤Ex.partsL l
 | []=>Nat.le_refl _
 | e :: l=>by
  have:=Zgw l
  have h1:1≤e.parts:=by cases e;simp only [Ex.parts];omega
  simp only [Ex.partsL,List.length_cons];omega
theorem Zc3:∀ {l:List Ex} {e:Ex},e∈l→e.parts≤Ex.partsL l
 | [],_,h=>by cases h
 | x :: l,e,h=>by
  simp only [Ex.partsL]
  rcases List.mem_cons.1 h with rfl | h
  ·omega
  have:=Zc3 h;omega
theorem Zfe (o:ByteArray) (l:List UInt8):(o=⟨⟨l⟩⟩)=((o.toList==l)=true):=by
 have:=dLit o l
 rw [← this]
 simp
def Zcq (o:ByteArray) (k r0 r1 r2:Int) (b:Bool):Int:=
 if (o.toList==[105,110,116])=true then 2
 else if (o.toList==[116,114,117,101])=true∨(o.toList==[102,97,108,115,101])=true then 1
 else if (o.toList==[110,97,109,101])=true then k
 else if (o.toList==[105,102])=true then (if r0=1∧r1=r2 then r1 else 0)
 else if (o.toList==[112,114,101])=true∨(o.toList==[45,62])=true∨(o.toList==[102,98,121])=true then (if b=true then r0 else 0)
 else if (o.toList==[61])=true∨(o.toList==[60,62])=true then (if b=true then 1 else 0)
 else if (o.toList==[60])=true∨(o.toList==[60,61])=true∨(o.toList==[62])=true∨(o.toList==[62,61])=true then (if (b&&decide (r0=2))=true then 1 else 0)
 else if (o.toList==[110,111,116])=true∨(o.toList==[97,110,100])=true∨(o.toList==[111,114])=true∨(o.toList==[120,111,114])=true∨(o.toList==[61,62])=true then (if (b&&decide (r0=1))=true then 1 else 0)
 else if (b&&decide (r0=2))=true then 2 else 0
theorem kindBy_walk (o:ByteArray) (k:Int) (l:List Int):Zci o k l=Zcq o k (l.headD 0) (l.getD 1 0) (l.getD 2 0) (decide (0<l.length)&&decide (l.headD 0=l.getLastD 0)):=by
 unfold Zcq
 simp only [← Zfe]
 cases l<;>rfl
theorem Zbf (b:Bool) (p:Prop) (h:b=true↔p):(b=true∧Hid p)∨(b=false∧Hid (¬ p)):=by
 cases b
 ·exact .inr ⟨rfl,Zhd fun hp=>by have:=h.2 hp;cases this⟩
 exact .inl ⟨rfl,Zhd (h.1 rfl)⟩
theorem row_get (l:List Int) (i:Nat) (h:i<l.length):(l.map (Value.int .i64))[i]?=some (.int .i64 (l.getD i 0)):=by
 simp [List.getD_eq_getElem?_getD,h]
theorem kind_nil (o:ByteArray) (n:Int) (s:ByteArray) (a:Option Addr) (cap:Nat) (ho:o≠oIf) (ks:Env Int) (bm:Nat) (w:World) (hM:Zaw (Value.int .i64) w bm ks):
  Calls Tryz.prog 118 #[.agg #[.string o,.int .i64 n,.string s,.slice a 0 cap],.map (some bm)] w fun r w'=>r = .returned (.int .i64 (Zci o ((ks s).getD 0) []))∧Below w.heap.size w w':=by
 have hif:(o.toList==[105,102])=false:=Zb4 _ ho
 have HK:=Zhd (kindBy_walk o ((ks s).getD 0) [])
 generalize Zci o ((ks s).getD 0) []=kb at *
 have hM1:=hM.alloc (.cells #[.string o,.int .i64 n,.string s,.slice a 0 cap] 69)
 have hW1:Below w.heap.size w (w.alloc (.cells #[.string o,.int .i64 n,.string s,.slice a 0 cap] 69)):=(Below.refl _ _).alloc (Nat.le_refl _) _
 have hrun:∀ m,(Instr.lookup 97 (.map (some bm)) (.string s) false).run Tryz.prog ((w.alloc (.cells #[.string o,.int .i64 n,.string s,.slice a 0 cap] 69)).drewN m) = .ok (.int .i64 ((ks s).getD 0)) ((w.alloc (.cells #[.string o,.int .i64 n,.string s,.slice a 0 cap] 69)).drewN m):=fun m=>by
  have:=(hM1.drewN m).run (P:=Tryz.prog) Tryz.underlying97 Tryz.underlying9 (d:=0) (by kernel_rfl) s false
  simpa using this
 have hfin:∀ m,Below w.heap.size w ((w.alloc (.cells #[.string o,.int .i64 n,.string s,.slice a 0 cap] 69)).drewN m):=fun m=>Zce hW1 m
 generalize (ks s).getD 0=kv at *
 have HR:=Zhd hrun
 have HF:=Zhd hfin
 have HI:=Zhd hif
 clear hM hM1 hW1 ho hrun hfin hif
 go_enter Tryz.func118,Tryz.ntmps118
 go_wp2_with fail
 go_rounds 1
 go_quiet (fail)
 rcases Bool.eq_false_or_eq_true (o.toList==[105,110,116]) with e0 | e0
 ·go_wp2_with fail
  all_goals go_ret
  all_goals exact⟨Zat (by rw [HK.out];unfold Zcq;simp [e0]),HF.out nq⟩
 rcases Bool.eq_false_or_eq_true (o.toList==[116,114,117,101]) with e1 | e1
 ·go_wp2_with fail
  all_goals go_ret
  all_goals exact⟨Zat (by rw [HK.out];unfold Zcq;simp [e0,e1]),HF.out nq⟩
 rcases Bool.eq_false_or_eq_true (o.toList==[102,97,108,115,101]) with e2 | e2
 ·go_wp2_with fail
  all_goals go_ret
  all_goals exact⟨Zat (by rw [HK.out];unfold Zcq;simp [e0,e1,e2]),HF.out nq⟩
 rcases Bool.eq_false_or_eq_true (o.toList==[110,97,109,101]) with e3 | e3
 ·have hrun:=HR.out nq
  go_wp2_with fail
  all_goals go_ret
  all_goals exact⟨Zat (by rw [HK.out];unfold Zcq;simp [e0,e1,e2,e3]),HF.out nq⟩
 rcases Bool.eq_false_or_eq_true (o.toList==[105,102]) with e4 | e4
 ·exact absurd (e4.symm.trans HI.out) (by decide)
 rcases Bool.eq_false_or_eq_true (o.toList==[112,114,101]) with e5 | e5
 ·go_wp2_with fail
  all_goals go_ret
  all_goals exact⟨Zat (by rw [HK.out];unfold Zcq;simp [e0,e1,e2,e3,e4,e5]),HF.out nq⟩
 rcases Bool.eq_false_or_eq_true (o.toList==[45,62]) with e6 | e6
 ·go_wp2_with fail
  all_goals go_ret
  all_goals exact⟨Zat (by rw [HK.out];unfold Zcq;simp [e0,e1,e2,e3,e4,e5,e6]),HF.out nq⟩
 rcases Bool.eq_false_or_eq_true (o.toList==[102,98,121]) with e7 | e7
 ·go_wp2_with fail
  all_goals go_ret
  all_goals exact⟨Zat (by rw [HK.out];unfold Zcq;simp [e0,e1,e2,e3,e4,e5,e6,e7]),HF.out nq⟩
 rcases Bool.eq_false_or_eq_true (o.toList==[61]) with e8 | e8
 ·go_wp2_with fail
  all_goals go_ret
  all_goals exact⟨Zat (by rw [HK.out];unfold Zcq;simp [e0,e1,e2,e3,e4,e5,e6,e7,e8]),HF.out nq⟩
 rcases Bool.eq_false_or_eq_true (o.toList==[60,62]) with e9 | e9
 ·go_wp2_with fail
  all_goals go_ret
  all_goals exact⟨Zat (by rw [HK.out];unfold Zcq;simp [e0,e1,e2,e3,e4,e5,e6,e7,e8,e9]),HF.out nq⟩
 rcases Bool.eq_false_or_eq_true (o.toList==[60]) with e10 | e10
 ·go_wp2_with fail
  all_goals go_ret
  all_goals exact⟨Zat (by rw [HK.out];unfold Zcq;simp [e0,e1,e2,e3,e4,e5,e6,e7,e8,e9,e10]),HF.out nq⟩
 rcases Bool.eq_false_or_eq_true (o.toList==[60,61]) with e11 | e11
 ·go_wp2_with fail
  all_goals go_ret
  all_goals exact⟨Zat (by rw [HK.out];unfold Zcq;simp [e0,e1,e2,e3,e4,e5,e6,e7,e8,e9,e10,e11]),HF.out nq⟩
 rcases Bool.eq_false_or_eq_true (o.toList==[62]) with e12 | e12
 ·go_wp2_with fail
  all_goals go_ret
  all_goals exact⟨Zat (by rw [HK.out];unfold Zcq;simp [e0,e1,e2,e3,e4,e5,e6,e7,e8,e9,e10,e11,e12]),HF.out nq⟩
 rcases Bool.eq_false_or_eq_true (o.toList==[62,61]) with e13 | e13
 ·go_wp2_with fail
  all_goals go_ret
  all_goals exact⟨Zat (by rw [HK.out];unfold Zcq;simp [e0,e1,e2,e3,e4,e5,e6,e7,e8,e9,e10,e11,e12,e13]),HF.out nq⟩
 rcases Bool.eq_false_or_eq_true (o.toList==[110,111,116]) with e14 | e14
 ·go_wp2_with fail
  all_goals go_ret
  all_goals exact⟨Zat (by rw [HK.out];unfold Zcq;simp [e0,e1,e2,e3,e4,e5,e6,e7,e8,e9,e10,e11,e12,e13,e14]),HF.out nq⟩
 rcases Bool.eq_false_or_eq_true (o.toList==[97,110,100]) with e15 | e15
 ·go_wp2_with fail
  all_goals go_ret
  all_goals exact⟨Zat (by rw [HK.out];unfold Zcq;simp [e0,e1,e2,e3,e4,e5,e6,e7,e8,e9,e10,e11,e12,e13,e14,e15]),HF.out nq⟩
 rcases Bool.eq_false_or_eq_true (o.toList==[111,114]) with e16 | e16
 ·go_wp2_with fail
  all_goals go_ret
  all_goals exact⟨Zat (by rw [HK.out];unfold Zcq;simp [e0,e1,e2,e3,e4,e5,e6,e7,e8,e9,e10,e11,e12,e13,e14,e15,e16]),HF.out nq⟩
 rcases Bool.eq_false_or_eq_true (o.toList==[120,111,114]) with e17 | e17
 ·go_wp2_with fail
  all_goals go_ret
  all_goals exact⟨Zat (by rw [HK.out];unfold Zcq;simp [e0,e1,e2,e3,e4,e5,e6,e7,e8,e9,e10,e11,e12,e13,e14,e15,e16,e17]),HF.out nq⟩
 rcases Bool.eq_false_or_eq_true (o.toList==[61,62]) with e18 | e18
 ·go_wp2_with fail
  all_goals go_ret
  all_goals exact⟨Zat (by rw [HK.out];unfold Zcq;simp [e0,e1,e2,e3,e4,e5,e6,e7,e8,e9,e10,e11,e12,e13,e14,e15,e16,e17,e18]),HF.out nq⟩
 go_wp2_with fail
 all_goals go_ret
 all_goals exact⟨Zat (by rw [HK.out];unfold Zcq;simp [e0,e1,e2,e3,e4,e5,e6,e7,e8,e9,e10,e11,e12,e13,e14,e15,e16,e17,e18]),HF.out nq⟩
theorem row_cells {w:World} {base:Nat} {v:Value} {m:Nat} {l:List Int} (h:w.ownsRow base 3 1 v m (l.map (Value.int .i64))) (hl:l.length=m) (hm:0<m):
  ∃ g cap,v = .slice (some ⟨g,0,none⟩) m cap∧m≤cap∧cap≤maxLen∧∀ i,i<m→w.cell? ⟨g,i,none⟩=some (.int .i64 (l.getD i 0)):=by
 obtain⟨g,cap,h1,h2,h3,_,_,h4⟩:=Zbp h hm
 exact⟨g,cap,h1,h2,h3,fun i hi=>h4 i _ (row_get l i (by omega))⟩
theorem getLastD_get (l:List Int) (m:Nat) (h:l.length=m+1):l.getLastD 0=l.getD m 0:=by
 rw [List.getLastD_eq_getLast?,List.getLast?_eq_getElem?,h]
 simp [List.getD_eq_getElem?_getD]
theorem Zj2:∀ (e:Ex),okIf e=true→e.parts≤1000000000000→∀ (H:Kn) (v:Value),ExV H e v→∀ (ks:Env Int) (bm:Nat) (w:World),H.In w→Zaw (Value.int .i64) w bm ks→
  Calls Tryz.prog 118 #[v,.map (some bm)] w fun r w'=>r = .returned (.int .i64 (Zam ks e))∧Below w.heap.size w w':=by
 refine Ex.ind fun o n s l ih hok hp H v hv ks bm w hH hM=>?_
 obtain⟨u,rfl,hu⟩:=hv
 simp only [Ex.op,Ex.n,Ex.s,Ex.l] at hu ⊢
 simp only [okIf,Bool.and_eq_true,Bool.or_eq_true,decide_eq_true_eq] at hok
 by_cases hne:l=[]
 ·subst hne
  obtain⟨a,cap,rfl⟩:=hu.len
  rw [Zie ks o n s [] (by simp [Zav])]
  exact kind_nil o n s a cap (by rcases hok.1 with h | h;exact h;simp at h) ks bm w hM
 obtain⟨b,off,cap,rfl,h1,h2,hc⟩:=hu.cell hne
 obtain⟨m',hm'⟩:∃ m',l.length=m'+1:=⟨l.length - 1,by have:=List.length_pos_iff.2 hne;omega⟩
 have HC:=Zhd hc
 simp only [Ex.parts] at hp
 have IH:=Zhd fun x hx=>ih x hx (okIfL_mem hok.2 x hx) (by have:=Zc3 hx;omega) H
 have hlen:=Zgw l
 have HOK:=Zhd hok.1
 have HL:=Zhd hm'
 have hlt:m'+1≤1000000000000:=by omega
 clear hc hu ih hok hlen hp
 rw [hm'] at h1
 have hM1:Zaw (Value.int .i64) (w.alloc (.cells #[.string o,.int .i64 n,.string s,.slice (some ⟨b,off,none⟩) (m'+1) cap] 69)) bm ks:=hM.alloc _
 have hW1:Below w.heap.size w (w.alloc (.cells #[.string o,.int .i64 n,.string s,.slice (some ⟨b,off,none⟩) (m'+1) cap] 69)):=(Below.refl _ _).alloc (Nat.le_refl _) _
 have hz1:(w.alloc (.cells #[.string o,.int .i64 n,.string s,.slice (some ⟨b,off,none⟩) (m'+1) cap] 69)).heap.size=w.heap.size+1:=by simp
 have hq:∀ i,i<4→(w.alloc (.cells #[.string o,.int .i64 n,.string s,.slice (some ⟨b,off,none⟩) (m'+1) cap] 69)).cell? ⟨w.heap.size,i,none⟩=(#[.string o,.int .i64 n,.string s,.slice (some ⟨b,off,none⟩) (m'+1) cap]:Array Value)[i]?:=fun i _=>by rw [World.cell?_alloc_new]
 have HQ:=Zhd hq
 rw [hm']
 clear hM hm' hq
 go_enter Tryz.func118,Tryz.ntmps118
 go_wp2_with fail
 generalize hWW:w.alloc (.cells #[.string o,.int .i64 n,.string s,.slice (some ⟨b,off,none⟩) (m'+1) cap] 69)=W at *
 have HM1:=Zhd hM1
 have HW1:=Zhd hW1
 have HZ1:=Zhd hz1
 clear hWW hM1 hW1 hz1
 go_loopw [5,13] (fun c i wr=>∃ k:Nat,i = .int .i64 k∧k≤m'+1∧wr.ownsRow (w.heap.size+1) 3 1 c k ((Zav ks (l.take k)).map (Value.int .i64))∧Below (w.heap.size+1) W wr∧(0:Int)∉Zav ks (l.take k)) (fun _ i _=>m'+1 - (intOf i).toNat)
 case atStart=>exact⟨0,rfl,Nat.zero_le _,World.ownsRow_nil _ _ _ _,Below.refl _ _,by simp [Zav]⟩
 obtain⟨k,rfl,hk,hown,hb,h0⟩:=hrel
 have hwr:=hb.size
 rw [HZ1.out] at hwr
 have hbw:Below w.heap.size w wr:=HW1.out.trans (hb.mono (by omega))
 have H0:=Zhd h0
 clear h0
 by_cases hkl:k<m'+1
 ·have hkl':k<l.length:=by rw [HL.out];exact hkl
  obtain⟨ax,cx,c0,c1,c2,c3,hx⟩:=HC.out k hkl'
  have hHr:=hH.below hbw
  have c0:=hHr.cell c0
  have c1:=hHr.cell c1
  have c2:=hHr.cell c2
  have c3:=hHr.cell c3
  have KT:=Zhd (Zjj ks l k hkl')
  have KZ:=Zhd (kindOf_zero ks o n s l k hkl')
  have hmem:=List.getElem_mem hkl'
  generalize l[k]=x at *
  have HMr:=Zhd (HM1.out.of_block (w':=wr) (hb.block _ (by have:=HM1.out.lt;rw [HZ1.out] at this;exact this)))
  obtain⟨c',cap',rfl,hcm,hkc⟩:=Zau hown
  go_wp2_with fail
  refine (IH.out x hmem _ hx ks bm _ (hHr.alloc _) (HMr.out.alloc _)).mono ?_
  rintro r w2 ⟨rfl,hb2⟩
  have hb2':Below (w.heap.size+1) W w2:=(hb.alloc hwr _).trans (hb2.mono (by simp;omega))
  have hown2:=Zao (hown.alloc _) hb2
  have hz2:=hb2'.size
  rw [HZ1.out] at hz2
  have hfin:Below w.heap.size w w2:=HW1.out.trans (hb2'.mono (by omega))
  by_cases hx0:Zam ks x=0
  ·have KE:=Zhd (KZ.out hx0)
   have hx0':(Zam ks x==0)=true:=by simpa using hx0
   clear hx0
   generalize Zam ks x=kx at *
   go_wp2_with fail
   go_ret
   exact⟨Zat KE.out.symm,hfin⟩
  have HX0:=Zhd hx0
  have hx0':(Zam ks x==0)=false:=by simpa using hx0
  clear hx0
  generalize Zam ks x=kx at *
  go_wp2_with (at_builtin;refine app1 152 3 1 8 _ Tryz.underlying152 Tryz.infoInt rfl (by decide) _ _ rfl rfl (w.heap.size+1) _ _ _ rfl (hown2.alloc _) ⟨w2.heap.size,0,none⟩ 1 [.int .i64 kx] rfl rfl ?c1 ?c2 ?c3 ?c4 ?c5 ?_)
  case c1=>exact cells1 _ _ _
  case c2=>simp [Value.oneCell']
  case c3=>omega
  case c4=>omega
  case c5=>simp;omega
  intro v' w3 hown3 hg3
  have hb3:Below (w.heap.size+1) W w3:=(hb2'.alloc (by omega) _).grown hg3 (by simp;omega) (fun j hj=>(hown2.lt j hj).1)
  go_wp2_with fail
  go_roundw
  case rel=>exact⟨k+1,by go_num,by omega,by rw [KT.out,List.map_append];exact hown3,hb3,by rw [KT.out];intro hc;rcases List.mem_append.1 hc with h | h;exact H0.out h;simp at h;exact HX0.out h.symm⟩
  simp [intOf];omega
 obtain rfl:k=m'+1:=by omega
 have htk:l.take (m'+1)=l:=by rw [← HL.out];exact List.take_length
 rw [htk] at hown
 have HNZ:=Zhd (show (0:Int)∉Zav ks l from by rw [← htk];exact H0.out)
 have HKL:=Zhd (show (Zav ks l).length=m'+1 from by rw [Zhi,HL.out])
 obtain⟨g,cap',rfl,hcap,hcm,hcells⟩:=row_cells hown HKL.out (by omega)
 have hlast:=getLastD_get _ _ HKL.out
 have HK:=Zhd ((Zie ks o n s l HNZ.out).trans (kindBy_walk o ((ks s).getD 0) (Zav ks l)))
 rw [HKL.out,hlast,show decide (0<m'+1)=true from by simp,Bool.true_and,show (Zav ks l).headD 0=(Zav ks l).getD 0 0 from by cases Zav ks l<;>rfl] at HK
 have d0:=hcells 0 (by omega)
 have dl:=hcells m' (by omega)
 have HIF:=Zhd (show (o.toList==[105,102])=true→wr.cell? ⟨g,1,none⟩=some (.int .i64 ((Zav ks l).getD 1 0))∧wr.cell? ⟨g,2,none⟩=some (.int .i64 ((Zav ks l).getD 2 0))∧(2:Int)<(m':Int)+1 from fun e4=>by
  have h3:l.length=3:=by
   rcases HOK.out with h | h
   ·exact absurd (Zb4 _ h) (by rw [e4];decide)
   exact h
  rw [HL.out] at h3
  exact⟨hcells 1 (by omega),hcells 2 (by omega),by omega⟩)
 have HMr:=Zhd (HM1.out.of_block (w':=wr) (hb.block _ (by have:=HM1.out.lt;rw [HZ1.out] at this;exact this)))
 have HR:=Zhd (show ∀ m,(Instr.lookup 97 (.map (some bm)) (.string s) false).run Tryz.prog (wr.drewN m) = .ok (.int .i64 ((ks s).getD 0)) (wr.drewN m) from fun m=>by
  have:=(HMr.out.drewN m).run (P:=Tryz.prog) Tryz.underlying97 Tryz.underlying9 (d:=0) (by kernel_rfl) s false
  simpa using this)
 have HF:=Zhd (show ∀ m,Below w.heap.size w (wr.drewN m) from fun m=>Zce hbw m)
 have q0:wr.cell? ⟨w.heap.size,0,none⟩=some (.string o):=by rw [hb.cell (p:=⟨w.heap.size,0,none⟩) (by simp),HQ.out 0 (by omega)];rfl
 have q2:wr.cell? ⟨w.heap.size,2,none⟩=some (.string s):=by rw [hb.cell (p:=⟨w.heap.size,2,none⟩) (by simp),HQ.out 2 (by omega)];rfl
 generalize (Zav ks l).getD 0 0=r0 at *
 generalize (Zav ks l).getD 1 0=r1 at *
 generalize (Zav ks l).getD 2 0=r2 at *
 generalize (Zav ks l).getD m' 0=rl at *
 generalize (ks s).getD 0=kv at *
 clear hlast htk hcells hown HOK HC IH
 have hs20:(r0==rl)=decide (r0=rl):=by by_cases h:r0=rl<;>simp [h]
 rw [← hs20] at HK
 clear hs20
 go_wp2_with fail
 go_quiet (fail)
 rcases Bool.eq_false_or_eq_true (o.toList==[105,110,116]) with e0 | e0
 ·go_wp2_with fail
  go_ret
  exact⟨Zat (by rw [HK.out];unfold Zcq;(simp [e0];try omega)),HF.out _⟩
 rcases Bool.eq_false_or_eq_true (o.toList==[116,114,117,101]) with e1 | e1
 ·go_wp2_with fail
  go_ret
  exact⟨Zat (by rw [HK.out];unfold Zcq;(simp [e0,e1];try omega)),HF.out _⟩
 rcases Bool.eq_false_or_eq_true (o.toList==[102,97,108,115,101]) with e2 | e2
 ·go_wp2_with fail
  go_ret
  exact⟨Zat (by rw [HK.out];unfold Zcq;(simp [e0,e1,e2];try omega)),HF.out _⟩
 rcases Bool.eq_false_or_eq_true (o.toList==[110,97,109,101]) with e3 | e3
 ·have hrun:=HR.out nq
  go_wp2_with fail
  go_ret
  exact⟨Zat (by rw [HK.out];unfold Zcq;(simp [e0,e1,e2,e3];try omega)),HF.out _⟩
 rcases Bool.eq_false_or_eq_true (o.toList==[105,102]) with e4 | e4
 ·obtain⟨d1,d2,h3⟩:=HIF.out e4
  rcases Zbf (r0==1) (r0=1) (by simp) with ⟨t0,S0⟩ | ⟨t0,S0⟩
  all_goals
   rcases Zbf (r1==r2) (r1=r2) (by simp) with ⟨t1,S1⟩ | ⟨t1,S1⟩
   all_goals
    go_wp2_with fail
    go_quiet (fail)
    go_wp2_with fail
    go_ret
    exact⟨Zat (by rw [HK.out];unfold Zcq;have s0:=S0.out;have s1:=S1.out;(simp [e0,e1,e2,e3,e4,s0,s1];try omega)),(by first | exact HF.out _ | exact Zce (HF.out _) _)⟩
 rcases Bool.eq_false_or_eq_true (o.toList==[112,114,101]) with e5 | e5
 ·rcases Zbf (r0==rl) (r0=rl) (by simp) with ⟨t0,S0⟩ | ⟨t0,S0⟩
  all_goals
   go_wp2_with fail
   go_ret
   exact⟨Zat (by rw [HK.out];unfold Zcq;have s0:=S0.out;(simp [e0,e1,e2,e3,e4,e5,s0];try omega)),HF.out _⟩
 rcases Bool.eq_false_or_eq_true (o.toList==[45,62]) with e6 | e6
 ·rcases Zbf (r0==rl) (r0=rl) (by simp) with ⟨t0,S0⟩ | ⟨t0,S0⟩
  all_goals
   go_wp2_with fail
   go_ret
   exact⟨Zat (by rw [HK.out];unfold Zcq;have s0:=S0.out;(simp [e0,e1,e2,e3,e4,e5,e6,s0];try omega)),HF.out _⟩
 rcases Bool.eq_false_or_eq_true (o.toList==[102,98,121]) with e7 | e7
 ·rcases Zbf (r0==rl) (r0=rl) (by simp) with ⟨t0,S0⟩ | ⟨t0,S0⟩
  all_goals
   go_wp2_with fail
   go_ret
   exact⟨Zat (by rw [HK.out];unfold Zcq;have s0:=S0.out;(simp [e0,e1,e2,e3,e4,e5,e6,e7,s0];try omega)),HF.out _⟩
 rcases Bool.eq_false_or_eq_true (o.toList==[61]) with e8 | e8
 ·rcases Zbf (r0==rl) (r0=rl) (by simp) with ⟨t0,S0⟩ | ⟨t0,S0⟩
  all_goals
   go_wp2_with fail
   go_ret
   exact⟨Zat (by rw [HK.out];unfold Zcq;have s0:=S0.out;(simp [e0,e1,e2,e3,e4,e5,e6,e7,e8,s0];try omega)),HF.out _⟩
 rcases Bool.eq_false_or_eq_true (o.toList==[60,62]) with e9 | e9
 ·rcases Zbf (r0==rl) (r0=rl) (by simp) with ⟨t0,S0⟩ | ⟨t0,S0⟩
  all_goals
   go_wp2_with fail
   go_ret
   exact⟨Zat (by rw [HK.out];unfold Zcq;have s0:=S0.out;(simp [e0,e1,e2,e3,e4,e5,e6,e7,e8,e9,s0];try omega)),HF.out _⟩
 rcases Bool.eq_false_or_eq_true (o.toList==[60]) with e10 | e10
 ·rcases Zbf (r0==rl) (r0=rl) (by simp) with ⟨t0,S0⟩ | ⟨t0,S0⟩
  all_goals
   rcases Zbf (r0==2) (r0=2) (by simp) with ⟨t1,S1⟩ | ⟨t1,S1⟩
   all_goals
    go_wp2_with fail
    go_ret
    exact⟨Zat (by rw [HK.out];unfold Zcq;have s0:=S0.out;have s1:=S1.out;(simp [e0,e1,e2,e3,e4,e5,e6,e7,e8,e9,e10,s0,s1];try omega)),HF.out _⟩
 rcases Bool.eq_false_or_eq_true (o.toList==[60,61]) with e11 | e11
 ·rcases Zbf (r0==rl) (r0=rl) (by simp) with ⟨t0,S0⟩ | ⟨t0,S0⟩
  all_goals
   rcases Zbf (r0==2) (r0=2) (by simp) with ⟨t1,S1⟩ | ⟨t1,S1⟩
   all_goals
    go_wp2_with fail
    go_ret
    exact⟨Zat (by rw [HK.out];unfold Zcq;have s0:=S0.out;have s1:=S1.out;(simp [e0,e1,e2,e3,e4,e5,e6,e7,e8,e9,e10,e11,s0,s1];try omega)),HF.out _⟩
 rcases Bool.eq_false_or_eq_true (o.toList==[62]) with e12 | e12
 ·rcases Zbf (r0==rl) (r0=rl) (by simp) with ⟨t0,S0⟩ | ⟨t0,S0⟩
  all_goals
   rcases Zbf (r0==2) (r0=2) (by simp) with ⟨t1,S1⟩ | ⟨t1,S1⟩
   all_goals
    go_wp2_with fail
    go_ret
    exact⟨Zat (by rw [HK.out];unfold Zcq;have s0:=S0.out;have s1:=S1.out;(simp [e0,e1,e2,e3,e4,e5,e6,e7,e8,e9,e10,e11,e12,s0,s1];try omega)),HF.out _⟩
 rcases Bool.eq_false_or_eq_true (o.toList==[62,61]) with e13 | e13
 ·rcases Zbf (r0==rl) (r0=rl) (by simp) with ⟨t0,S0⟩ | ⟨t0,S0⟩
  all_goals
   rcases Zbf (r0==2) (r0=2) (by simp) with ⟨t1,S1⟩ | ⟨t1,S1⟩
   all_goals
    go_wp2_with fail
    go_ret
    exact⟨Zat (by rw [HK.out];unfold Zcq;have s0:=S0.out;have s1:=S1.out;(simp [e0,e1,e2,e3,e4,e5,e6,e7,e8,e9,e10,e11,e12,e13,s0,s1];try omega)),HF.out _⟩
 rcases Bool.eq_false_or_eq_true (o.toList==[110,111,116]) with e14 | e14
 ·rcases Zbf (r0==rl) (r0=rl) (by simp) with ⟨t0,S0⟩ | ⟨t0,S0⟩
  all_goals
   rcases Zbf (r0==1) (r0=1) (by simp) with ⟨t1,S1⟩ | ⟨t1,S1⟩
   all_goals
    go_wp2_with fail
    go_ret
    exact⟨Zat (by rw [HK.out];unfold Zcq;have s0:=S0.out;have s1:=S1.out;(simp [e0,e1,e2,e3,e4,e5,e6,e7,e8,e9,e10,e11,e12,e13,e14,s0,s1];try omega)),HF.out _⟩
 rcases Bool.eq_false_or_eq_true (o.toList==[97,110,100]) with e15 | e15
 ·rcases Zbf (r0==rl) (r0=rl) (by simp) with ⟨t0,S0⟩ | ⟨t0,S0⟩
  all_goals
   rcases Zbf (r0==1) (r0=1) (by simp) with ⟨t1,S1⟩ | ⟨t1,S1⟩
   all_goals
    go_wp2_with fail
    go_ret
    exact⟨Zat (by rw [HK.out];unfold Zcq;have s0:=S0.out;have s1:=S1.out;(simp [e0,e1,e2,e3,e4,e5,e6,e7,e8,e9,e10,e11,e12,e13,e14,e15,s0,s1];try omega)),HF.out _⟩
 rcases Bool.eq_false_or_eq_true (o.toList==[111,114]) with e16 | e16
 ·rcases Zbf (r0==rl) (r0=rl) (by simp) with ⟨t0,S0⟩ | ⟨t0,S0⟩
  all_goals
   rcases Zbf (r0==1) (r0=1) (by simp) with ⟨t1,S1⟩ | ⟨t1,S1⟩
   all_goals
    go_wp2_with fail
    go_ret
    exact⟨Zat (by rw [HK.out];unfold Zcq;have s0:=S0.out;have s1:=S1.out;(simp [e0,e1,e2,e3,e4,e5,e6,e7,e8,e9,e10,e11,e12,e13,e14,e15,e16,s0,s1];try omega)),HF.out _⟩
 rcases Bool.eq_false_or_eq_true (o.toList==[120,111,114]) with e17 | e17
 ·rcases Zbf (r0==rl) (r0=rl) (by simp) with ⟨t0,S0⟩ | ⟨t0,S0⟩
  all_goals
   rcases Zbf (r0==1) (r0=1) (by simp) with ⟨t1,S1⟩ | ⟨t1,S1⟩
   all_goals
    go_wp2_with fail
    go_ret
    exact⟨Zat (by rw [HK.out];unfold Zcq;have s0:=S0.out;have s1:=S1.out;(simp [e0,e1,e2,e3,e4,e5,e6,e7,e8,e9,e10,e11,e12,e13,e14,e15,e16,e17,s0,s1];try omega)),HF.out _⟩
 rcases Bool.eq_false_or_eq_true (o.toList==[61,62]) with e18 | e18
 ·rcases Zbf (r0==rl) (r0=rl) (by simp) with ⟨t0,S0⟩ | ⟨t0,S0⟩
  all_goals
   rcases Zbf (r0==1) (r0=1) (by simp) with ⟨t1,S1⟩ | ⟨t1,S1⟩
   all_goals
    exact mKind1
 rcases Zbf (r0==rl) (r0=rl) (by simp) with ⟨t0,S0⟩ | ⟨t0,S0⟩
 all_goals
  rcases Zbf (r0==2) (r0=2) (by simp) with ⟨t1,S1⟩ | ⟨t1,S1⟩
  all_goals
   exact mKind1
end Go.Proofs.YtofameafdnkijaaGreatDoor
