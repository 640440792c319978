/- Terms and lists of terms in known memory. -/
import Derived.Test.YtgoccoldkfpbgaaGreatDoorRg
import Derived.Test.YtgoccoldkfpbgaaGreatDoorMx
import Derived.Laws.Rows
import Derived.Deep.DeepCutAuto
import Derived.Maps.OwnIn
import Derived.Test.YtgoccoldkfpbgaaGreatDoorProg
set_option linter.all false
namespace Go.Proofs.YtgoccoldkfpbgaaGreatDoor
set_option maxRecDepth 100000
set_option maxHeartbeats 16000000
open Go.RowKit Mx
mutual
def ExAt (H:Kn):Ex→(Nat→Option Value)→Prop
 | .mk o n s l,f=>f 0=some (.string o)∧f 1=some (.int .i64 n)∧f 2=some (.string s)∧
   ((l=[]∧∃ a cap,f 3=some (.slice a 0 cap))∨∃ b off cap,f 3=some (.slice (some ⟨b,off,none⟩) l.length cap)∧l.length≤cap∧cap≤maxLen∧Zd3 H l b off)
def Zd3 (H:Kn):List Ex→Nat→Nat→Prop
 | [],_,_=>True
 | e :: l,b,off=>ExAt H e (fun j=>H.cell b (off+j))∧Zd3 H l b (off+4)
end
theorem exsAt_of {H H':Kn} {l:List Ex} (hle:H.le H') (h:∀ e∈l,∀ f g,(∀ j x,f j=some x→g j=some x)→ExAt H e f→ExAt H' e g):∀ b off,Zd3 H l b off→Zd3 H' l b off:=by
 induction l with
 | nil=>intro b off _;simp only [Zd3]
 | cons e l ih=>
  intro b off hh
  simp only [Zd3] at hh ⊢
  exact⟨h e (List.mem_cons_self ..) _ _ (fun j x hx=>hle.cell hx) hh.1,ih (fun x hx=>h x (List.mem_cons_of_mem _ hx)) b (off+4) hh.2⟩
theorem ExAt.le {H H':Kn} (hle:H.le H'):∀ (e:Ex) (f g:Nat→Option Value),(∀ j x,f j=some x→g j=some x)→ExAt H e f→ExAt H' e g:=by
 refine Ex.ind (P:=fun e=>∀ f g,(∀ j x,f j=some x→g j=some x)→ExAt H e f→ExAt H' e g) fun o n s l ih f g hfg h=>?_
 simp only [ExAt] at h ⊢
 obtain⟨h0,h1,h2,h3⟩:=h
 refine⟨hfg _ _ h0,hfg _ _ h1,hfg _ _ h2,?_⟩
 rcases h3 with ⟨hl,a,cap,h3⟩ | ⟨b,off,cap,h3,h4,h5,h6⟩
 ·exact .inl ⟨hl,a,cap,hfg _ _ h3⟩
 exact .inr ⟨b,off,cap,hfg _ _ h3,h4,h5,exsAt_of hle ih b off h6⟩
theorem Zd3.le {H H':Kn} (hle:H.le H') {l:List Ex} {b off:Nat} (h:Zd3 H l b off):Zd3 H' l b off:=exsAt_of hle (fun e _=>ExAt.le hle e) b off h
theorem Zd3.get {H:Kn}:∀ {l:List Ex} {b off:Nat},Zd3 H l b off→∀ i (h:i<l.length),ExAt H l[i] (fun j=>H.cell b (off+i * 4+j))
 | [],_,_,_,i,h=>by simp at h
 | e :: l,b,off,hh,0,_=>by
  simp only [Zd3] at hh
  simpa using hh.1
 | e :: l,b,off,hh,i+1,h=>by
  simp only [Zd3] at hh
  have:=Zd3.get hh.2 i (by simpa using h)
  rw [show off+(i+1) * 4=off+4+i * 4 from by omega]
  exact this
def ExsV (H:Kn) (l:List Ex) (v:Value):Prop:=(l=[]∧∃ a cap,v = .slice a 0 cap)∨∃ b off cap,v = .slice (some ⟨b,off,none⟩) l.length cap∧l.length≤cap∧cap≤maxLen∧Zd3 H l b off
def ExV (H:Kn) (e:Ex) (v:Value):Prop:=∃ u,v = .agg #[.string e.op,.int .i64 e.n,.string e.s,u]∧ExsV H e.l u
theorem ExsV.le {H H':Kn} (hle:H.le H') {l:List Ex} {v:Value} (h:ExsV H l v):ExsV H' l v:=
 h.imp id fun⟨b,off,cap,h1,h2,h3,h4⟩=>⟨b,off,cap,h1,h2,h3,h4.le hle⟩
theorem ExV.le {H H':Kn} (hle:H.le H') {e:Ex} {v:Value} (h:ExV H e v):ExV H' e v:=let ⟨u,h1,h2⟩:=h;⟨u,h1,h2.le hle⟩
theorem ExAt.cells {H:Kn} {e:Ex} {f:Nat→Option Value} (h:ExAt H e f):∃ u,f 0=some (.string e.op)∧f 1=some (.int .i64 e.n)∧f 2=some (.string e.s)∧f 3=some u∧ExsV H e.l u:=by
 obtain⟨o,n,s,l⟩:=e
 simp only [ExAt] at h
 obtain⟨h0,h1,h2,h3⟩:=h
 rcases h3 with ⟨hl,a,cap,h3⟩ | ⟨b,off,cap,h3,h4,h5,h6⟩
 ·exact⟨_,h0,h1,h2,h3,.inl ⟨hl,a,cap,rfl⟩⟩
 exact⟨_,h0,h1,h2,h3,.inr ⟨b,off,cap,rfl,h4,h5,h6⟩⟩
theorem ExAt.mk {H:Kn} {e:Ex} {f:Nat→Option Value} {u:Value} (h0:f 0=some (.string e.op)) (h1:f 1=some (.int .i64 e.n)) (h2:f 2=some (.string e.s)) (h3:f 3=some u) (hu:ExsV H e.l u):ExAt H e f:=by
 obtain⟨o,n,s,l⟩:=e
 simp only [ExAt]
 refine⟨h0,h1,h2,?_⟩
 rcases hu with ⟨hl,a,cap,rfl⟩ | ⟨b,off,cap,rfl,h4,h5,h6⟩
 ·exact .inl ⟨hl,a,cap,h3⟩
 exact .inr ⟨b,off,cap,h3,h4,h5,h6⟩
theorem ExsV.len {H:Kn} {l:List Ex} {v:Value} (h:ExsV H l v):∃ a cap,v = .slice a l.length cap:=by
 rcases h with ⟨rfl,a,cap,rfl⟩ | ⟨b,off,cap,rfl,_⟩
 ·exact⟨a,cap,rfl⟩
 exact⟨_,cap,rfl⟩
def SlV {α:Type} (H:Kn) (k:Nat) (R:α→(Nat→Option Value)→Prop) (l:List α) (v:Value):Prop:=
 (l=[]∧∃ a cap,v = .slice a 0 cap)∨∃ b off cap,v = .slice (some ⟨b,off,none⟩) l.length cap∧l.length≤cap∧cap≤maxLen∧∀ i (h:i<l.length),R l[i] (fun j=>H.cell b (off+i * k+j))
theorem SlV.le {α:Type} {H H':Kn} {k:Nat} {R R':α→(Nat→Option Value)→Prop} {l:List α} {v:Value} (h:SlV H k R l v) (hle:H.le H') (hr:∀ x f g,(∀ j u,f j=some u→g j=some u)→R x f→R' x g):SlV H' k R' l v:=
 h.imp id fun⟨b,off,cap,h1,h2,h3,h4⟩=>⟨b,off,cap,h1,h2,h3,fun i hi=>hr _ _ _ (fun j u e=>hle.cell e) (h4 i hi)⟩
theorem SlV.len {α:Type} {H:Kn} {k:Nat} {R:α→(Nat→Option Value)→Prop} {l:List α} {v:Value} (h:SlV H k R l v):∃ a cap,v = .slice a l.length cap:=by
 rcases h with ⟨rfl,a,cap,rfl⟩ | ⟨b,off,cap,rfl,_⟩
 ·exact⟨a,cap,rfl⟩
 exact⟨_,cap,rfl⟩
def StrC (s:ByteArray) (f:Nat→Option Value):Prop:=f 0=some (.string s)
def VrC (x:Vr) (f:Nat→Option Value):Prop:=f 0=some (.string x.name)∧f 1=some (.int .i64 x.kind)
def FlC (H:Kn) (x:Fl) (f:Nat→Option Value):Prop:=f 0=some (.string x.name)∧f 1=some (.int .i64 x.kind)∧ExAt H x.e fun j=>f (2+j)
abbrev StrsV (H:Kn):List ByteArray→Value→Prop:=SlV H 1 StrC
abbrev VrsV (H:Kn):List Vr→Value→Prop:=SlV H 2 VrC
abbrev FlsV (H:Kn):List Fl→Value→Prop:=SlV H 6 (FlC H)
theorem StrC.mono (x:ByteArray) (f g:Nat→Option Value) (h:∀ j u,f j=some u→g j=some u) (hx:StrC x f):StrC x g:=h _ _ hx
theorem VrC.mono (x:Vr) (f g:Nat→Option Value) (h:∀ j u,f j=some u→g j=some u) (hx:VrC x f):VrC x g:=⟨h _ _ hx.1,h _ _ hx.2⟩
theorem FlC.mono {H H':Kn} (hle:H.le H') (x:Fl) (f g:Nat→Option Value) (h:∀ j u,f j=some u→g j=some u) (hx:FlC H x f):FlC H' x g:=
 ⟨h _ _ hx.1,h _ _ hx.2.1,ExAt.le hle _ _ _ (fun j u e=>h _ _ e) hx.2.2⟩
structure PrP (H:Kn) (p:Pr) (vi vo vl va vc:Value):Prop where
 ins:VrsV H p.ins vi
 outs:StrsV H p.outs vo
 fl:FlsV H p.fl vl
 asr:ExsV H p.as va
 chk:ExsV H p.cs vc
theorem PrP.le {H H':Kn} (hle:H.le H') {p:Pr} {vi vo vl va vc:Value} (h:PrP H p vi vo vl va vc):PrP H' p vi vo vl va vc:=
 ⟨h.ins.le hle VrC.mono,h.outs.le hle StrC.mono,h.fl.le hle (FlC.mono hle),h.asr.le hle,h.chk.le hle⟩
theorem FlC.cells {H:Kn} {x:Fl} {f:Nat→Option Value} (h:FlC H x f):∃ u,f 0=some (.string x.name)∧f 1=some (.int .i64 x.kind)∧f 2=some (.string x.e.op)∧f 3=some (.int .i64 x.e.n)∧f 4=some (.string x.e.s)∧f 5=some u∧ExsV H x.e.l u:=by
 obtain⟨h0,h1,h2⟩:=h
 obtain⟨u,a,b,c,d,e⟩:=h2.cells
 exact⟨u,h0,h1,a,b,c,d,e⟩
def Zbl (H:Kn):Prop:=∃ v0 v1 v2 v3 v4 t fr,H 10=some (.cells #[v0,v1,v2,v3,v4] t fr)∧
 Zfe H v0 [oOr,oXor]∧Zfe H v1 [oAnd]∧Zfe H v2 [oEq,oNe,oLt,oLe,oGt,oGe,oImp]∧Zfe H v3 [oAdd,oSub]∧Zfe H v4 [oMul,oDiv,oMod]
def arN (o:ByteArray):Int:=(Zcm o).getD 0
def arB (o:ByteArray):Bool:=(Zcm o).isSome
theorem Zen (a b:ByteArray):(a.toList==b.toList)=decide (a=b):=by
 rw [Lib.toList_data,Lib.toList_data]
 obtain⟨⟨x⟩⟩:=a
 obtain⟨⟨y⟩⟩:=b
 by_cases h:x=y
 ·subst h;simp
 have:¬ (ByteArray.mk ⟨x⟩=ByteArray.mk ⟨y⟩):=fun e=>h (by cases e;rfl)
 simp [h]
theorem not_op {a b:ByteArray} (h:a≠b):(a.toList==b.toList)=false:=by rw [Zen];simpa using h
theorem Zat {a:ByteArray} (l:List UInt8) (h:a≠⟨⟨l⟩⟩):(a.toList==l)=false:=by
 have:=not_op h
 rwa [Lib.toList_data ⟨⟨l⟩⟩] at this
theorem Zge (l:List ByteArray) (o:ByteArray):l.contains o=l.any fun x=>o.toList==x.toList:=by
 induction l with
 | nil=>rfl
 | cons x l ih=>
  rw [List.contains_cons,List.any_cons,ih,Zen]
  congr 1
  by_cases h:o=x
  ·subst h;simp
  have:(o==x)=false:=by simpa using h
  rw [this];simpa using h
theorem arity_any (H:Kn) (T:Zbl H) (o:ByteArray) (w:World) (hH:H.In w):
  Calls Tryz.prog 120 #[.string o] w fun e w'=>e = .returned (.tuple #[.int .i64 (arN o),.bool (arB o)])∧w=w':=by
 by_cases hk:o=oInt∨o=Zc2∨o=Zb9∨o=Zb2∨o=oNot∨o=oNeg∨o=oPre∨o=oIf∨o=Zj5∨o=Zbm∨o=oFby
 ·rcases hk with rfl | rfl | rfl | rfl | rfl | rfl | rfl | rfl | rfl | rfl | rfl
  all_goals
   go_enter Tryz.func120,Tryz.ntmps120
   go_wp2_with fail
   go_ret2
   exact⟨by rfl,rfl⟩
 obtain⟨v0,v1,v2,v3,v4,tt,fr,hg,hs0,hs1,hs2,hs3,hs4⟩:=T
 have hg':=hH _ _ hg
 clear hg
 simp only [not_or] at hk
 obtain⟨k1,k2,k3,k4,k5,k6,k7,k8,k9,k10,k11⟩:=hk
 have e1:(o.toList==[105,110,116])=false:=Zat _ k1
 have e2:(o.toList==[116,114,117,101])=false:=Zat _ k2
 have e3:(o.toList==[102,97,108,115,101])=false:=Zat _ k3
 have e4:(o.toList==[110,97,109,101])=false:=Zat _ k4
 have e5:(o.toList==[110,111,116])=false:=Zat _ k5
 have e6:(o.toList==[110,101,103])=false:=Zat _ k6
 have e7:(o.toList==[112,114,101])=false:=Zat _ k7
 have e8:(o.toList==[105,102])=false:=Zat _ k8
 have e9:(o.toList==[99,97,108,108])=false:=Zat _ k9
 have e10:(o.toList==[45,62])=false:=Zat _ k10
 have e11:(o.toList==[102,98,121])=false:=Zat _ k11
 have hA:Zcm o=if levels.any fun l=>l.contains o then some 2 else none:=by
  unfold Zcm
  rw [if_neg (by simp [k1,k2,k3,k4]),if_neg (by simp [k5,k6,k7]),if_neg k8,if_neg k9,if_neg (by simp [k10,k11])]
 have hL:(levels.any fun l=>l.contains o)=([oOr,oXor].any (fun x=>o.toList==x.toList) || ([oAnd].any (fun x=>o.toList==x.toList) || ([oEq,oNe,oLt,oLe,oGt,oGe,oImp].any (fun x=>o.toList==x.toList) || ([oAdd,oSub].any (fun x=>o.toList==x.toList) || [oMul,oDiv,oMod].any (fun x=>o.toList==x.toList))))):=by
  simp only [levels,List.any_cons,List.any_nil,Bool.or_false,Zge]
 have HA:=Zhd hA
 obtain⟨b0,hb0⟩:∃ b,([oOr,oXor].any fun x=>o.toList==x.toList)=b:=⟨_,rfl⟩
 obtain⟨b1,hb1⟩:∃ b,([oAnd].any fun x=>o.toList==x.toList)=b:=⟨_,rfl⟩
 obtain⟨b2,hb2⟩:∃ b,([oEq,oNe,oLt,oLe,oGt,oGe,oImp].any fun x=>o.toList==x.toList)=b:=⟨_,rfl⟩
 obtain⟨b3,hb3⟩:∃ b,([oAdd,oSub].any fun x=>o.toList==x.toList)=b:=⟨_,rfl⟩
 obtain⟨b4,hb4⟩:∃ b,([oMul,oDiv,oMod].any fun x=>o.toList==x.toList)=b:=⟨_,rfl⟩
 rw [hb0,hb1,hb2,hb3,hb4] at hL
 have HB:=Zhd (And.intro hb0 (And.intro hb1 (And.intro hb2 (And.intro hb3 hb4))))
 clear hb0 hb1 hb2 hb3 hb4
 have HL:=Zhd hL
 clear hA hL k1 k2 k3 k4 k5 k6 k7 k8 k9 k10 k11
 have i0:∀ w,(Instr.index 231 (.agg #[v0,v1,v2,v3,v4]) (.int .i64 0)).run Tryz.prog w = .ok v0 w:=fun _=>by kernel_rfl
 have i1:∀ w,(Instr.index 231 (.agg #[v0,v1,v2,v3,v4]) (.int .i64 1)).run Tryz.prog w = .ok v1 w:=fun _=>by kernel_rfl
 have i2:∀ w,(Instr.index 231 (.agg #[v0,v1,v2,v3,v4]) (.int .i64 2)).run Tryz.prog w = .ok v2 w:=fun _=>by kernel_rfl
 have i3:∀ w,(Instr.index 231 (.agg #[v0,v1,v2,v3,v4]) (.int .i64 3)).run Tryz.prog w = .ok v3 w:=fun _=>by kernel_rfl
 have i4:∀ w,(Instr.index 231 (.agg #[v0,v1,v2,v3,v4]) (.int .i64 4)).run Tryz.prog w = .ok v4 w:=fun _=>by kernel_rfl
 have HG:=Zhd hg'
 clear hg'
 go_enter Tryz.func120,Tryz.ntmps120
 go_wp2_with (refine wpList_load_row rfl 231 _ rfl 10 rfl tt _ fr (.array 5 23) HG.out Tryz.underlying231 rfl (by kernel_rfl) ?_)
 refine wp_loop_rounds 6 ?_
 repeat (any_goals (rw [rounds_succ];go_wp2_with (go_at_call 72;refine (Zjz H _ _ _ _ (by first | exact hs0 | exact hs1 | exact hs2 | exact hs3 | exact hs4) hH).mono ?_;rintro e w' ⟨rfl,rfl⟩;(first | rw [HB.out.1] | rw [HB.out.2.1] | rw [HB.out.2.2.1] | rw [HB.out.2.2.2.1] | rw [HB.out.2.2.2.2]))))
 all_goals go_ret2
 all_goals refine⟨?_,rfl⟩
 all_goals (unfold arN arB;rw [HA.out,HL.out])
 all_goals simp_all
theorem dLit (o:ByteArray) (l:List UInt8):decide (o=⟨⟨l⟩⟩)=(o.toList==l):=by
 have:=Zen o ⟨⟨l⟩⟩
 rw [Lib.toList_data ⟨⟨l⟩⟩] at this
 exact this.symm
theorem dEmp (s:ByteArray):decide (s.size=0)=s.toList.isEmpty:=by
 rw [Lib.toList_data]
 obtain⟨⟨x⟩⟩:=s
 cases x<;>simp [ByteArray.size]
def formA (o:ByteArray) (n:Int) (k:Nat):Bool:=arB o&&(decide (arN o<0) || (arN o==(k:Int)))&&((n==0) || (o.toList==[105,110,116])&&decide (0<n)&&decide (n≤127))
def formB (o s:ByteArray):Bool:=s.toList.isEmpty || (o.toList==[110,97,109,101]) || (o.toList==[99,97,108,108])
theorem form_eq (e:Ex):form e=(formA e.op e.n e.l.length&&formB e.op e.s):=by
 unfold form formA formB arN arB
 rw [← dEmp,← dLit e.op [110,97,109,101],← dLit e.op [99,97,108,108],← dLit e.op [105,110,116]]
 have e1:(e.n==0)=decide (e.n=0):=by by_cases h:e.n=0<;>simp [h]
 rw [e1]
 cases h:Zcm e.op with
 | none=>simp
 | some k=>
  have e2:(k==(e.l.length:Int))=decide (k=e.l.length):=by by_cases h:k=e.l.length<;>simp [h]
  simp [e2]
theorem form_zero (H:Kn) (T:Zbl H) (o:ByteArray) (s:ByteArray) (k:Nat) (a:Option Addr) (cap:Nat) (w:World) (hH:H.In w):
  Calls Tryz.prog 112 #[.agg #[.string o,.int .i64 0,.string s,.slice a k cap]] w fun r w'=>r = .returned (.bool (formA o 0 k&&formB o s))∧Below w.heap.size w w':=by
 obtain⟨fa,hfa⟩:∃ x,x=formA o 0 k:=⟨_,rfl⟩
 obtain⟨fb,hfb⟩:∃ x,x=formB o s:=⟨_,rfl⟩
 rw [← hfa,← hfb]
 unfold formA at hfa
 unfold formB at hfb
 have FA:=Zhd hfa
 have FB:=Zhd hfb
 clear hfa hfb
 go_enter Tryz.func112,Tryz.ntmps112
 go_upto_region 2 with (go_at_call 120;refine (arity_any H T _ _ (hH.alloc _)).mono ?_;rintro e w' ⟨rfl,rfl⟩)
 go_cut [4] (fun s4 wx=>s4 = .bool fa∧wx=w.alloc (.cells #[.string o,.int .i64 0,.string s,.slice a k cap] 97))
 case first=>
  go_wp2_with fail
  all_goals go_meet
  all_goals refine⟨congrArg Value.bool ?_,rfl⟩
  all_goals rw [FA.out]
  all_goals (first | (simp [*];done) | (simp [*];omega))
 obtain⟨rfl,rfl⟩:=hcut
 cases fa
 all_goals
  go_wp2_with fail
 all_goals go_ret
 all_goals refine⟨Za4 ?_,(Below.refl _ _).alloc (Nat.le_refl _) _⟩
 all_goals rw [FB.out]
 all_goals (first | (simp [*];done) | (simp [*];omega))
theorem form_some (H:Kn) (T:Zbl H) (o:ByteArray) (n:Int) (hn:(n==0)=false) (s:ByteArray) (k:Nat) (a:Option Addr) (cap:Nat) (w:World) (hH:H.In w):
  Calls Tryz.prog 112 #[.agg #[.string o,.int .i64 n,.string s,.slice a k cap]] w fun r w'=>r = .returned (.bool (formA o n k&&formB o s))∧Below w.heap.size w w':=by
 obtain⟨fa,hfa⟩:∃ x,x=formA o n k:=⟨_,rfl⟩
 obtain⟨fb,hfb⟩:∃ x,x=formB o s:=⟨_,rfl⟩
 rw [← hfa,← hfb]
 unfold formA at hfa
 unfold formB at hfb
 have FA:=Zhd hfa
 have FB:=Zhd hfb
 clear hfa hfb
 go_enter Tryz.func112,Tryz.ntmps112
 go_upto_region 2 with (go_at_call 120;refine (arity_any H T _ _ (hH.alloc _)).mono ?_;rintro e w' ⟨rfl,rfl⟩)
 go_cut [4] (fun s4 wx=>s4 = .bool fa∧wx=w.alloc (.cells #[.string o,.int .i64 n,.string s,.slice a k cap] 97))
 case first=>
  go_wp2_with fail
  all_goals go_meet
  all_goals refine⟨congrArg Value.bool ?_,rfl⟩
  all_goals rw [FA.out]
  all_goals (first | (simp [*];done) | (simp [*];omega))
 obtain⟨rfl,rfl⟩:=hcut
 cases fa
 all_goals
  go_wp2_with fail
 all_goals go_ret
 all_goals refine⟨Za4 ?_,(Below.refl _ _).alloc (Nat.le_refl _) _⟩
 all_goals rw [FB.out]
 all_goals (first | (simp [*];done) | (simp [*];omega))
theorem form_any (H:Kn) (T:Zbl H) (e:Ex) (v:Value) (hv:ExV H e v) (w:World) (hH:H.In w):
  Calls Tryz.prog 112 #[v] w fun r w'=>r = .returned (.bool (form e))∧Below w.heap.size w w':=by
 obtain⟨u,rfl,hu⟩:=hv
 obtain⟨a,cap,rfl⟩:=hu.len
 rw [form_eq]
 cases hn:(e.n==0) with
 | false=>exact form_some H T _ _ hn _ _ _ _ _ hH
 | true=>
  have h0:e.n=0:=by simpa using hn
  rw [h0]
  exact form_zero H T _ _ _ _ _ _ hH
theorem Zc5:∀ (l:List Ex) (k:Nat) (h:k<l.length),Ex.partsL (l.take (k+1))=Ex.partsL (l.take k)+l[k].parts
 | e :: l,0,_=>by simp [Ex.partsL]
 | e :: l,k+1,h=>by
  have:=Zc5 l k (by simpa using h)
  simp only [List.take_succ_cons,Ex.partsL,List.getElem_cons_succ]
  omega
theorem Zcq:∀ (l:List Ex) (k:Nat),Ex.partsL (l.take k)≤Ex.partsL l
 | [],k=>by simp
 | e :: l,0=>by simp [Ex.partsL]
 | e :: l,k+1=>by
  have:=Zcq l k
  simp only [List.take_succ_cons,Ex.partsL]
  omega
theorem ExsV.cell {H:Kn} {l:List Ex} {v:Value} (h:ExsV H l v) (hne:l≠[]):∃ b off cap,v = .slice (some ⟨b,off,none⟩) l.length cap∧l.length≤cap∧cap≤maxLen∧∀ i (hi:i<l.length),∃ ax cx,
  H.cell b (off+i * 4)=some (.string l[i].op)∧H.cell b (off+i * 4+1)=some (.int .i64 l[i].n)∧H.cell b (off+i * 4+2)=some (.string l[i].s)∧H.cell b (off+i * 4+3)=some (.slice ax l[i].l.length cx)∧
   ExV H l[i] (.agg #[.string l[i].op,.int .i64 l[i].n,.string l[i].s,.slice ax l[i].l.length cx]):=by
 rcases h with ⟨h,_⟩ | ⟨b,off,cap,h1,h2,h3,h4⟩
 ·exact absurd h hne
 refine⟨b,off,cap,h1,h2,h3,fun i hi=>?_⟩
 obtain⟨u,a0,a1,a2,a3,hu⟩:=(h4.get i hi).cells
 obtain⟨ax,cx,rfl⟩:=hu.len
 exact⟨ax,cx,a0,a1,a2,a3,_,rfl,hu⟩
theorem parts_any (H:Kn):∀ (e:Ex) (v:Value),ExV H e v→e.parts≤1000000000000000000→∀ w:World,H.In w→
  Calls Tryz.prog 100 #[v] w fun r w'=>r = .returned (.int .i64 e.parts)∧Below w.heap.size w w':=by
 refine Ex.ind fun o n s l ih v hv hp w hH=>?_
 obtain⟨u,rfl,hu⟩:=hv
 simp only [Ex.op,Ex.n,Ex.s,Ex.l] at hu ⊢
 simp only [Ex.parts] at hp ⊢
 by_cases hne:l=[]
 ·subst hne
  obtain⟨a,cap,rfl⟩:=hu.len
  clear hu ih
  go_enter Tryz.func100,Tryz.ntmps100
  go_wp2_with fail
  go_rounds 1
  all_goals go_ret
  exact⟨rfl,(Below.refl _ _).alloc (Nat.le_refl _) _⟩
 obtain⟨b,off,cap,rfl,h1,h2,hc⟩:=hu.cell hne
 have HC:=Zhd hc
 have IH:=Zhd ih
 clear hc hu ih
 have hlt:l.length≤9223372036854775807:=by unfold maxLen at h2;omega
 go_enter Tryz.func100,Tryz.ntmps100
 go_wp2_with fail
 have hW1:Below w.heap.size w (w.alloc (.cells #[.string o,.int .i64 n,.string s,.slice (some ⟨b,off,none⟩) l.length cap] 97)):=(Below.refl _ _).alloc (Nat.le_refl _) _
 generalize w.alloc (.cells #[.string o,.int .i64 n,.string s,.slice (some ⟨b,off,none⟩) l.length cap] 97)=W at *
 go_loopw [3,9] (fun c i wr=>∃ k:Nat,i = .int .i64 k∧k≤l.length∧c = .int .i64 ((1+Ex.partsL (l.take k):Nat):Int)∧Below w.heap.size w wr) (fun _ i _=>l.length - (intOf i).toNat)
 case atStart=>exact⟨0,rfl,Nat.zero_le _,rfl,hW1⟩
 obtain⟨k,rfl,hk,rfl,hb⟩:=hrel
 have hwr:=hb.size
 have hpl:=Zcq l k
 by_cases hkl:k<l.length
 ·obtain⟨ax,cx,c0,c1,c2,c3,hx⟩:=HC.out k hkl
  have hHr:=hH.below hb
  have c0:=hHr.cell c0
  have c1:=hHr.cell c1
  have c2:=hHr.cell c2
  have c3:=hHr.cell c3
  have hps:=Zc5 l k hkl
  have hpl2:=Zcq l (k+1)
  have PS:=Zhd hps
  have hpx:l[k].parts≤1000000000000000000:=by omega
  have hmem:=List.getElem_mem hkl
  generalize l[k]=x at *
  clear hps
  go_wp2_with fail
  refine (IH.out x hmem _ hx hpx _ (hHr.alloc _)).mono ?_
  rintro r w2 ⟨rfl,hb2⟩
  have hW2:Below w.heap.size w w2:=((hb.alloc hwr _)).trans (hb2.mono (by simp;omega))
  go_wp2_with fail
  go_roundw
  case rel=>exact⟨k+1,by go_num,by omega,by rw [PS.out];go_num,hW2⟩
  simp [intOf];omega
 go_wp2_with fail
 go_ret
 exact⟨Zah (by rw [List.take_of_length_le (by omega)]),hb⟩
open Go.RowKit Mx Go.MapKept
open Go.ChangeMaps (setBlock)
theorem Mx.Env.set_self {α:Type} (m:Env α) (k:ByteArray) (v:α):(m.set k v) k=some v:=by simp [Env.set]
theorem Mx.Env.set_other {α:Type} (m:Env α) {k x:ByteArray} (v:α) (h:x≠k):(m.set k v) x=m x:=by simp [Env.set,h]
def Zfv (s:ByteArray):List MapEntry→Option Value
 | []=>none
 | e :: es=>match e.key with
  | .string k=>if k=s then some e.val else Zfv s es
  | _=>Zfv s es
def Zg1 (l:List MapEntry):Prop:=∀ e∈l,∃ k,e.key = .string k
def Zaw {α:Type} (V:α→Value) (w:World) (b:Nat) (m:Env α):Prop:=
 ∃ es clock,w.heap[b]?=some (.map es clock)∧Zg1 es.toList∧∀ s,Zfv s es.toList=(m s).map V
theorem mfind_push (s:ByteArray) (l:List MapEntry) (k:ByteArray) (v:Value) (c:Nat) (h:Zg1 l):Zfv s (l++[⟨.string k,v,c⟩])=(Zfv s l).or (if s=k then some v else none):=by
 induction l with
 | nil=>
  simp only [List.nil_append,Zfv]
  by_cases hk:k=s
  ·subst hk;simp
  simp [hk,Ne.symm hk]
 | cons e l ih=>
  obtain⟨q,hq⟩:=h e (List.mem_cons_self ..)
  simp only [List.cons_append,Zfv,hq]
  split
  ·simp
  exact ih (fun x hx=>h x (List.mem_cons_of_mem _ hx))
theorem Zhp (s:ByteArray):∀ (l:List MapEntry) (i:Nat),Zg1 l→
  (Instr.findNow .string (.string s) l i=some none∧Zfv s l=none)∨
  ∃ j e,Instr.findNow .string (.string s) l i=some (some (i+j,e.val))∧Zfv s l=some e.val∧l[j]?=some e∧e.key = .string s∧
   ∀ (f:MapEntry→MapEntry) (u:Value),(∀ x,x.key = .string s→(f x).key = .string s∧(f x).val=u)→Zg1 (l.modify j f)∧∀ t,Zfv t (l.modify j f)=if t=s then some u else Zfv t l
 | [],i,_ => .inl ⟨rfl,rfl⟩
 | e :: es,i,h=>by
  obtain⟨q,hq⟩:=h e (List.mem_cons_self ..)
  have hes:Zg1 es:=fun x hx=>h x (List.mem_cons_of_mem _ hx)
  by_cases hqs:q=s
  ·subst hqs
   refine .inr ⟨0,e,?_,?_,rfl,hq,fun f u hf=>?_⟩
   ·have:(q==q)=true:=(bytes_beq q q).2 rfl
    simp [Instr.findNow,Instr.sameNow,hq,this]
   ·simp [Zfv,hq]
   obtain⟨h1,h2⟩:=hf e hq
   refine⟨fun x hx=>?_,fun t=>?_⟩
   ·simp only [List.modify_zero_cons,List.mem_cons] at hx
    rcases hx with rfl | hx
    ·exact⟨_,h1⟩
    exact hes x hx
   simp only [List.modify_zero_cons,Zfv,h1,h2,hq]
   by_cases ht:t=q
   ·subst ht;simp
   simp [ht,Ne.symm ht]
  have hne:(s==q)=false:=by
   cases hc:(s==q) with
   | false=>rfl
   | true=>exact absurd ((bytes_beq _ _).1 hc).symm hqs
  rcases Zhp s es (i+1) hes with ⟨h1,h2⟩ | ⟨j,e',h1,h2,h3,h4,h5⟩
  ·refine .inl ⟨?_,?_⟩
   ·simp [Instr.findNow,Instr.sameNow,hq,hne,h1]
   simp [Zfv,hq,hqs,h2]
  refine .inr ⟨j+1,e',?_,?_,by simpa using h3,h4,fun f u hf=>?_⟩
  ·simp [Instr.findNow,Instr.sameNow,hq,hne,h1];omega
  ·simp [Zfv,hq,hqs,h2]
  obtain⟨k1,k2⟩:=h5 f u hf
  refine⟨fun x hx=>?_,fun t=>?_⟩
  ·simp only [List.modify_succ_cons,List.mem_cons] at hx
   rcases hx with rfl | hx
   ·exact⟨_,hq⟩
   exact k1 x hx
  simp only [List.modify_succ_cons,Zfv,hq,k2 t]
  by_cases ht:q=t
  ·subst ht;simp [hqs]
  simp [ht]
section
variable {α : Type} {V : α → Value} {w : World} {b : Nat} {m : Env α}
theorem Zaw.lt (h:Zaw V w b m):b<w.heap.size:=by
 obtain⟨es,clock,hb,_⟩:=h
 exact (Zlt hb)
theorem Zaw.of_block {w':World} (h:Zaw V w b m) (hb:w'.heap[b]?=w.heap[b]?):Zaw V w' b m:=by
 obtain⟨es,clock,h1,h2⟩:=h
 exact⟨es,clock,hb.trans h1,h2⟩
theorem Zaw.below {w':World} (h:Zaw V w b m) (hb:Below w.heap.size w w'):Zaw V w' b m:=h.of_block (hb.block b h.lt)
theorem Zaw.alloc (h:Zaw V w b m) (o:Obj):Zaw V (w.alloc o) b m:=h.of_block (Below.heap_alloc w o b h.lt)
theorem Zaw.drewN (h:Zaw V w b m) (n:Nat):Zaw V (w.drewN n) b m:=h
theorem Zaw.made (V:α→Value) (w:World):Zaw V (w.alloc (.map #[] 0)) w.heap.size Env.none:=
 ⟨#[],0,(heap_alloc w _).1,fun e he=>by simp at he,fun s=>by simp [Zfv,Env.none]⟩
theorem Zaw.known {H:Kn} (h:∃ es clock,H b=some (.map es clock)∧Zg1 es.toList∧∀ s,Zfv s es.toList=(m s).map V) (hH:H.In w):Zaw V w b m:=by
 obtain⟨es,clock,h1,h2⟩:=h
 exact⟨es,clock,hH b _ h1,h2⟩
theorem Zaw.run {P:Program} {t k e:TypeId} (h:Zaw V w b m) (ht:P.underlying t=some (.map k e)) (hk:P.underlying k=some .string) {d:α} (hz:(zeroValue e).run P w = .ok (V d) w) (s:ByteArray) (c:Bool):
  (Instr.lookup t (.map (some b)) (.string s) c).run P w = .ok (if c then .tuple #[V ((m s).getD d),.bool (m s).isSome] else V ((m s).getD d)) w:=by
 obtain⟨es,clock,hb,hs,hm⟩:=h
 rcases Zhp s es.toList 0 hs with ⟨h1,h2⟩ | ⟨j,e0,h1,h2,_⟩
 ·rw [hm] at h2
  have h2':m s=none:=by cases hms:m s<;>simp_all
  simp [Instr.lookup,run_underlying ht,MapKept.run_getObj_map hb,MapKept.run_checkKey hk (k := .string s) trivial,MapKept.run_findKey hk h1,hz,Result.andThen,h2']
 rw [hm] at h2
 obtain⟨x,hx,hv⟩:∃ x,m s=some x∧V x=e0.val:=by cases hms:m s<;>simp_all
 simp [Instr.lookup,run_underlying ht,MapKept.run_getObj_map hb,MapKept.run_checkKey hk (k := .string s) trivial,MapKept.run_findKey hk h1,Result.andThen,hx,hv]
theorem Zaw.run_set {P:Program} {t k e:TypeId} (h:Zaw V w b m) (ht:P.underlying t=some (.map k e)) (hk:P.underlying k=some .string) (s:ByteArray) (x:α):
  ∃ o,(Instr.mapUpdate t (.map (some b)) (.string s) (V x)).run P w = .ok () (setBlock w b o)∧Zaw V (setBlock w b o) b (m.set s x):=by
 obtain⟨es,clock,hb,hs,hm⟩:=h
 rcases Zhp s es.toList 0 hs with ⟨h1,h2⟩ | ⟨j,e0,h1,h2,h3,h4,h5⟩
 ·refine⟨.map (es.push ⟨.string s,V x,clock⟩) (clock+1),?_,es.push ⟨.string s,V x,clock⟩,clock+1,(heap_set hb).1,fun y hy=>?_,fun u=>?_⟩
  ·simp [Instr.mapUpdate,run_underlying ht,MapKept.run_getObj_map hb,MapKept.run_checkKey hk (k := .string s) trivial,MapKept.run_findKey hk h1,MapKept.run_setObj_map _ hb,Result.andThen,setBlock]
  ·simp only [Array.toList_push,List.mem_append,List.mem_singleton] at hy
   rcases hy with hy | rfl
   ·exact hs y hy
   exact⟨s,rfl⟩
  rw [Array.toList_push,mfind_push _ _ _ _ _ hs]
  unfold Env.set
  by_cases hu:u=s
  ·subst hu;simp [h2]
  simp [hu,hm]
 have hj:es[j]?=some e0:=by simpa using h3
 obtain⟨k1,k2⟩:=h5 (fun e'=>{ e' with key := .string s,val:=V x }) (V x) (fun y _=>⟨rfl,rfl⟩)
 refine⟨.map (es.modify j fun e'=>{ e' with key := .string s,val:=V x }) clock,?_,_,clock,(heap_set hb).1,?_,fun u=>?_⟩
 ·simp [Instr.mapUpdate,run_underlying ht,MapKept.run_getObj_map hb,MapKept.run_checkKey hk (k := .string s) trivial,MapKept.run_findKey hk h1,hj,h4,MapKept.run_keyThatStays (d := .string) (k := .string s) trivial,MapKept.run_setObj_map _ hb,Result.andThen,setBlock]
 ·rw [Array.toList_modify];exact k1
 rw [Array.toList_modify,k2 u,hm]
 unfold Env.set
 by_cases hu:u=s<;>simp [hu]
end
def Zc0 (w w':World) (b:Nat):Prop:=∃ o,w'=setBlock w b o
theorem Zc0.size {w w':World} {b:Nat} (h:Zc0 w w' b):w'.heap.size=w.heap.size:=by obtain⟨o,rfl⟩:=h;simp [setBlock]
theorem Zc0.block {w w':World} {b:Nat} (h:Zc0 w w' b) {i:Nat} (hi:i≠b):w'.heap[i]?=w.heap[i]?:=by
 obtain⟨o,rfl⟩:=h
 simp [setBlock,Ne.symm hi]
theorem Zc0.below {B:Nat} {a w w':World} {b:Nat} (h:Zc0 w w' b) (ha:Below B a w) (hB:B≤b):Below B a w':=by
 refine⟨?_,?_,?_,by rw [h.size];exact ha.size,fun i hi=>by rw [h.block (by omega)];exact ha.block i hi⟩
 all_goals (obtain⟨o,rfl⟩:=h)
 ·exact ha.os
 ·exact ha.tape
 exact ha.output
theorem Zc0.cell {w w':World} {b:Nat} (h:Zc0 w w' b) {p:Addr} (hp:p.block≠b):w'.cell? p=w.cell? p:=World.cell?_of_block (w:=w) (h.block hp)
theorem Zc0.frozen {w w':World} {b:Nat} (h:Zc0 w w' b) {p:Addr} (hp:p.block≠b):w'.frozen? p=w.frozen? p:=World.frozen?_of_block (w:=w) (h.block hp)
theorem Zc0.isin {H:Kn} {w w':World} {b:Nat} (h:Zc0 w w' b) (hH:H.In w) (hb:H b=none):H.In w':=hH.of_heap fun i hi=>h.block fun e=>hi (by rw [e];exact hb)
theorem Zc0.map {α:Type} {V:α→Value} {w w':World} {b c:Nat} {m:Env α} (h:Zc0 w w' b) (hm:Zaw V w c m) (hc:c≠b):Zaw V w' c m:=hm.of_block (h.block hc)
theorem Zc0.cells {w w':World} {b:Nat} (h:Zc0 w w' b):(∀ c o,c≠b→w'.cell? ⟨c,o,none⟩=w.cell? ⟨c,o,none⟩)∧∀ c o,c≠b→w'.frozen? ⟨c,o,none⟩=w.frozen? ⟨c,o,none⟩:=
 ⟨fun _ _ hc=>h.cell hc,fun _ _ hc=>h.frozen hc⟩
section
variable {α : Type} {P : Program} {w : World} {ops : Array Oper} {rest : List Oper} {o : Oper} {a : Act} {Q : Exit → Act → World → Prop}
theorem Zff (V:α→Value) (t k e:TypeId) (ht:P.underlying t=some (.map k e)) (hk:P.underlying k=some .string) (b:Nat) (m:Env α) (hM:Zaw V w b m)
  (x y z:Operand) (hg:o.guard=none) (hop:o.op=Op.mapUpdate t x y z) (hx:a.eval x = .map (some b)) (s:ByteArray) (hy:a.eval y = .string s) (u:α) (hz:a.eval z=V u)
  (hK:∀ w',Zaw V w' b (m.set s u)→Zc0 w w' b→wpList P ops Q rest (a.put o.dst undef) w'):wpList P ops Q (o :: rest) a w:=by
 refine wpList_plain hg fun K' hK'=>?_
 obtain⟨ob,hrun,hM'⟩:=hM.run_set ht hk s u
 unfold Oper.wp
 simp [execOp,hop,hx,hy,hz,hrun,Result.andThen]
 exact hK' _ _ (hK _ hM' ⟨ob,rfl⟩)
end
theorem Za6 {w w':World} {base:Nat} {e:TypeId} {k n:Nat} {v:Value} {xs:List Value} (h:w.ownsRow base e k v n xs) (hb:Below w.heap.size w w'):w'.ownsRow base e k v n xs:=by
 refine⟨h.1,h.2.imp id ?_⟩
 rintro⟨g,cap,cur,h1,h2,h3,h4⟩
 exact⟨g,cap,cur,h1,h2,by rw [hb.block _ (Zlt h3)];exact h3,h4⟩
theorem Tryz.infoInt:(Tryz.prog.info? 3).map (fun i=>(i.zero,i.size,i.bytes))=some (some (.int .i64 0),1,8):=by kernel_rfl
theorem cells1 (w:World) (x:Value) (t:TypeId):∀ j u,[x][j]?=some u→(w.alloc (.cells #[x] t)).cell? ((⟨w.heap.size,0,none⟩:Addr).add j)=some u:=by
 intro j u h
 have e:(⟨w.heap.size,0,none⟩:Addr).add j=⟨w.heap.size,j,none⟩:=by unfold Addr.add;split<;>simp_all
 rw [e,World.cell?_alloc_new]
 simpa using h
theorem Zbz {w:World} {base:Nat} {e:TypeId} {k n:Nat} {v:Value} {xs:List Value} (h:w.ownsRow base e k v n xs) (hn:0<n):∃ g cap,v = .slice (some ⟨g,0,none⟩) n cap∧n≤cap∧cap≤maxLen∧base≤g∧g<w.heap.size∧
  ∀ j u,xs[j]?=some u→w.cell? ⟨g,j,none⟩=some u:=by
 rcases h.2 with ⟨_,h0⟩ | ⟨g,cap,cur,h1,h2,h3,h4,h5,h6,h7⟩
 ·omega
 subst h1
 refine⟨g,cap,rfl,h4,h5,h2,(Zlt h3),fun j u hu=>?_⟩
 have e:(⟨g,0,none⟩:Addr).add j=⟨g,j,none⟩:=by unfold Addr.add;split<;>simp_all
 rw [← e]
 exact World.ownsRow.cells h rfl j u hu
theorem Zas {w:World} {base:Nat} {e:TypeId} {k n:Nat} {v:Value} {xs:List Value} (h:w.ownsRow base e k v n xs):∃ a cap,v = .slice a n cap∧cap≤maxLen∧n≤cap:=by
 rcases h.2 with ⟨h1,h0⟩ | ⟨g,cap,cur,h1,h2,h3,h4,h5,_⟩
 ·exact⟨none,0,by rw [h1,h0],Nat.zero_le _,by omega⟩
 exact⟨_,cap,h1,h5,h4⟩
theorem Zbj {P:Program} {w:World} {ops:Array Oper} {rest:List Oper} {o:Oper} {a:Act} {Q:Exit→Act→World→Prop} (hg:o.guard=none) (t u:TypeId) (x y:Operand)
  (hop:o.op = .call { callee := .builtin .append,args := #[x,y],argTypes := #[t,u] }) (v1 v2:Value) (h1:a.eval x=v1) (h2:a.eval y=v2) (v:Value) (w':World)
  (hrun:∀ ty,(Builtin.append_ #[t,u] ty #[v1,v2]).run P w = .ok v w') (hK:wpList P ops Q rest (a.put o.dst v) w'):wpList P ops Q (o :: rest) a w:=by
 refine wpList_plain hg fun K' hK'=>?_
 have hr:=hrun o.type
 unfold Oper.wp
 simp [execOp,hop,resolve,invoke,builtin,h1,h2,hr,Result.andThen]
 exact hK' _ _ hK
theorem Zbq {P:Program} {w:World} (t e:TypeId) (i:TypeInfo) (ht:P.underlying t=some (.slice e)) (hi:P.info? e=some i) {base k n:Nat} {v:Value} {xs:List Value} (hown:w.ownsRow base e k v n xs) (A:Option Addr) (c:Nat) (ty:TypeId):
  (Builtin.append_ #[t,t] ty #[v,.slice A 0 c]).run P w = .ok v w:=by
 rcases hown.2 with ⟨rfl,rfl⟩ | ⟨g,cap,cur,rfl,hb,hg,hnc,hcm,hsz,htake⟩
 ·cases A<;>simp [Builtin.append_,run_underlying ht,sizeOf,typeInfo,hi,Builtin.lenOf,Builtin.firstCells,loadCells,loadCellsFrom,Result.andThen]
 cases A<;>simp [Builtin.append_,run_underlying ht,sizeOf,typeInfo,hi,Builtin.lenOf,Builtin.firstCells,loadCells,loadCellsFrom,Result.andThen,hnc,storeCells]
end Go.Proofs.YtgoccoldkfpbgaaGreatDoor
