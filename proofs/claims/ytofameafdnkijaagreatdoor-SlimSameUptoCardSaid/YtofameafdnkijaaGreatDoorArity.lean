/- Walks: tree.Arity. -/
import Derived.Test.YtofameafdnkijaaGreatDoorRg
import Derived.Test.YtofameafdnkijaaGreatDoorStrA
import Derived.Test.YtofameafdnkijaaGreatDoorEx
import Derived.Laws.Rows
import Derived.Deep.DeepCutAuto
set_option linter.all false
namespace Go.Proofs.YtofameafdnkijaaGreatDoor
set_option maxRecDepth 100000
set_option maxHeartbeats 16000000
open Go.RowKit Mx
def Zbo (H:Kn):Prop:=∃ v0 v1 v2 v3 v4 t fr,H 10=some (.cells #[v0,v1,v2,v3,v4] t fr)∧
 Zfg H v0 [oOr,oXor]∧Zfg H v1 [oAnd]∧Zfg H v2 [oEq,oNe,oLt,oLe,oGt,oGe,oImp]∧Zfg H v3 [oAdd,oSub]∧Zfg H v4 [oMul,oDiv,oMod]
def arN (o:ByteArray):Int:=(Zcv o).getD 0
def arB (o:ByteArray):Bool:=(Zcv o).isSome
theorem Zeb (a b:ByteArray):(a.toList==b.toList)=decide (a=b):=by
 rw [Lib.toList_data,Lib.toList_data]
 obtain⟨⟨x⟩⟩:=a
 obtain⟨⟨y⟩⟩:=b
 by_cases h:x=y
 ·subst h;simp
 have:¬ (ByteArray.mk ⟨x⟩=ByteArray.mk ⟨y⟩):=fun e=>h (by cases e;rfl)
 simp [h]
theorem not_op {a b:ByteArray} (h:a≠b):(a.toList==b.toList)=false:=by rw [Zeb];simpa using h
theorem Zb4 {a:ByteArray} (l:List UInt8) (h:a≠⟨⟨l⟩⟩):(a.toList==l)=false:=by
 have:=not_op h
 rwa [Lib.toList_data ⟨⟨l⟩⟩] at this
theorem Zgm (l:List ByteArray) (o:ByteArray):l.contains o=l.any fun x=>o.toList==x.toList:=by
 induction l with
 | nil=>rfl
 | cons x l ih=>
  rw [List.contains_cons,List.any_cons,ih,Zeb]
  congr 1
  by_cases h:o=x
  ·subst h;simp
  have:(o==x)=false:=by simpa using h
  rw [this];simpa using h
theorem arity_any (H:Kn) (T:Zbo H) (o:ByteArray) (w:World) (hH:H.In w):
  Calls Tryz.prog 121 #[.string o] w fun e w'=>e = .returned (.tuple #[.int .i64 (arN o),.bool (arB o)])∧w=w':=by
 by_cases hk:o=oInt∨o=Zcn∨o=Zb3∨o=Zbg∨o=oNot∨o=oNeg∨o=oPre∨o=oIf∨o=Zht∨o=Zbq∨o=oFby
 ·rcases hk with rfl | rfl | rfl | rfl | rfl | rfl | rfl | rfl | rfl | rfl | rfl
  all_goals
   go_enter Tryz.func121,Tryz.ntmps121
   go_wp2_with fail
   go_ret2
   exact⟨by rfl,rfl⟩
 obtain⟨v0,v1,v2,v3,v4,tt,fr,hg,hs0,hs1,hs2,hs3,hs4⟩:=T
 have hg':=hH _ _ hg
 clear hg
 simp only [not_or] at hk
 obtain⟨k1,k2,k3,k4,k5,k6,k7,k8,k9,k10,k11⟩:=hk
 have e1:(o.toList==[105,110,116])=false:=Zb4 _ k1
 have e2:(o.toList==[116,114,117,101])=false:=Zb4 _ k2
 have e3:(o.toList==[102,97,108,115,101])=false:=Zb4 _ k3
 have e4:(o.toList==[110,97,109,101])=false:=Zb4 _ k4
 have e5:(o.toList==[110,111,116])=false:=Zb4 _ k5
 have e6:(o.toList==[110,101,103])=false:=Zb4 _ k6
 have e7:(o.toList==[112,114,101])=false:=Zb4 _ k7
 have e8:(o.toList==[105,102])=false:=Zb4 _ k8
 have e9:(o.toList==[99,97,108,108])=false:=Zb4 _ k9
 have e10:(o.toList==[45,62])=false:=Zb4 _ k10
 have e11:(o.toList==[102,98,121])=false:=Zb4 _ k11
 have hA:Zcv o=if levels.any fun l=>l.contains o then some 2 else none:=by
  unfold Zcv
  rw [if_neg (by simp [k1,k2,k3,k4]),if_neg (by simp [k5,k6,k7]),if_neg k8,if_neg k9,if_neg (by simp [k10,k11])]
 have hL:(levels.any fun l=>l.contains o)=([oOr,oXor].any (fun x=>o.toList==x.toList) || ([oAnd].any (fun x=>o.toList==x.toList) || ([oEq,oNe,oLt,oLe,oGt,oGe,oImp].any (fun x=>o.toList==x.toList) || ([oAdd,oSub].any (fun x=>o.toList==x.toList) || [oMul,oDiv,oMod].any (fun x=>o.toList==x.toList))))):=by
  simp only [levels,List.any_cons,List.any_nil,Bool.or_false,Zgm]
 have HA:=Zhd hA
 obtain⟨b0,hb0⟩:∃ b,([oOr,oXor].any fun x=>o.toList==x.toList)=b:=⟨_,rfl⟩
 obtain⟨b1,hb1⟩:∃ b,([oAnd].any fun x=>o.toList==x.toList)=b:=⟨_,rfl⟩
 obtain⟨b2,hb2⟩:∃ b,([oEq,oNe,oLt,oLe,oGt,oGe,oImp].any fun x=>o.toList==x.toList)=b:=⟨_,rfl⟩
 obtain⟨b3,hb3⟩:∃ b,([oAdd,oSub].any fun x=>o.toList==x.toList)=b:=⟨_,rfl⟩
 obtain⟨b4,hb4⟩:∃ b,([oMul,oDiv,oMod].any fun x=>o.toList==x.toList)=b:=⟨_,rfl⟩
 rw [hb0,hb1,hb2,hb3,hb4] at hL
 have HB:=Zhd (And.intro hb0 (And.intro hb1 (And.intro hb2 (And.intro hb3 hb4))))
 clear hb0 hb1 hb2 hb3 hb4
 have HL:=Zhd hL
 clear hA hL k1 k2 k3 k4 k5 k6 k7 k8 k9 k10 k11
 have i0:∀ w,(Instr.index 250 (.agg #[v0,v1,v2,v3,v4]) (.int .i64 0)).run Tryz.prog w = .ok v0 w:=fun _=>by kernel_rfl
 have i1:∀ w,(Instr.index 250 (.agg #[v0,v1,v2,v3,v4]) (.int .i64 1)).run Tryz.prog w = .ok v1 w:=fun _=>by kernel_rfl
 have i2:∀ w,(Instr.index 250 (.agg #[v0,v1,v2,v3,v4]) (.int .i64 2)).run Tryz.prog w = .ok v2 w:=fun _=>by kernel_rfl
 have i3:∀ w,(Instr.index 250 (.agg #[v0,v1,v2,v3,v4]) (.int .i64 3)).run Tryz.prog w = .ok v3 w:=fun _=>by kernel_rfl
 have i4:∀ w,(Instr.index 250 (.agg #[v0,v1,v2,v3,v4]) (.int .i64 4)).run Tryz.prog w = .ok v4 w:=fun _=>by kernel_rfl
 have HG:=Zhd hg'
 clear hg'
 go_enter Tryz.func121,Tryz.ntmps121
 go_wp2_with (refine wpList_load_row rfl 250 _ rfl 10 rfl tt _ fr (.array 5 23) HG.out Tryz.underlying250 rfl (by kernel_rfl) ?_)
 refine wp_loop_rounds 6 ?_
 repeat (any_goals (rw [rounds_succ];go_wp2_with (go_at_call 54;refine (Zjq H _ _ _ _ (by first | exact hs0 | exact hs1 | exact hs2 | exact hs3 | exact hs4) hH).mono ?_;rintro e w' ⟨rfl,rfl⟩;(first | rw [HB.out.1] | rw [HB.out.2.1] | rw [HB.out.2.2.1] | rw [HB.out.2.2.2.1] | rw [HB.out.2.2.2.2]))))
 all_goals go_ret2
 all_goals refine⟨?_,rfl⟩
 all_goals (unfold arN arB;rw [HA.out,HL.out])
 all_goals simp_all
theorem dLit (o:ByteArray) (l:List UInt8):decide (o=⟨⟨l⟩⟩)=(o.toList==l):=by
 have:=Zeb o ⟨⟨l⟩⟩
 rw [Lib.toList_data ⟨⟨l⟩⟩] at this
 exact this.symm
theorem dEmp (s:ByteArray):decide (s.size=0)=s.toList.isEmpty:=by
 rw [Lib.toList_data]
 obtain⟨⟨x⟩⟩:=s
 cases x<;>simp [ByteArray.size]
def formA (o:ByteArray) (n:Int) (k:Nat):Bool:=arB o&&(decide (arN o<0) || (arN o==(k:Int)))&&((n==0) || (o.toList==[105,110,116])&&decide (0<n)&&decide (n≤127))
def formB (o s:ByteArray):Bool:=s.toList.isEmpty || (o.toList==[110,97,109,101]) || (o.toList==[99,97,108,108])
theorem form_eq (e:Ex):form e=(formA e.op e.n e.l.length&&formB e.op e.s):=by
 unfold form formA formB arN arB
 rw [← dEmp,← dLit e.op [110,97,109,101],← dLit e.op [99,97,108,108],← dLit e.op [105,110,116]]
 have e1:(e.n==0)=decide (e.n=0):=by by_cases h:e.n=0<;>simp [h]
 rw [e1]
 cases h:Zcv e.op with
 | none=>simp
 | some k=>
  have e2:(k==(e.l.length:Int))=decide (k=e.l.length):=by by_cases h:k=e.l.length<;>simp [h]
  simp [e2]
theorem form_zero (H:Kn) (T:Zbo H) (o:ByteArray) (s:ByteArray) (k:Nat) (a:Option Addr) (cap:Nat) (w:World) (hH:H.In w):
  Calls Tryz.prog 156 #[.agg #[.string o,.int .i64 0,.string s,.slice a k cap]] w fun r w'=>r = .returned (.bool (formA o 0 k&&formB o s))∧Below w.heap.size w w':=by
 obtain⟨fa,hfa⟩:∃ x,x=formA o 0 k:=⟨_,rfl⟩
 obtain⟨fb,hfb⟩:∃ x,x=formB o s:=⟨_,rfl⟩
 rw [← hfa,← hfb]
 unfold formA at hfa
 unfold formB at hfb
 have FA:=Zhd hfa
 have FB:=Zhd hfb
 clear hfa hfb
 go_enter Tryz.func156,Tryz.ntmps156
 go_upto_region 2 with (go_at_call 121;refine (arity_any H T _ _ (hH.alloc _)).mono ?_;rintro e w' ⟨rfl,rfl⟩)
 go_cut [4] (fun s4 wx=>s4 = .bool fa∧wx=w.alloc (.cells #[.string o,.int .i64 0,.string s,.slice a k cap] 69))
 case first=>
  go_wp2_with fail
  all_goals go_meet
  all_goals refine⟨congrArg Value.bool ?_,rfl⟩
  all_goals rw [FA.out]
  all_goals (first | (simp [*];done) | (simp [*];omega))
 obtain⟨rfl,rfl⟩:=hcut
 cases fa
 all_goals
  go_wp2_with fail
 all_goals go_ret
 all_goals refine⟨Zb6 ?_,(Below.refl _ _).alloc (Nat.le_refl _) _⟩
 all_goals rw [FB.out]
 all_goals (first | (simp [*];done) | (simp [*];omega))
theorem form_some (H:Kn) (T:Zbo H) (o:ByteArray) (n:Int) (hn:(n==0)=false) (s:ByteArray) (k:Nat) (a:Option Addr) (cap:Nat) (w:World) (hH:H.In w):
  Calls Tryz.prog 156 #[.agg #[.string o,.int .i64 n,.string s,.slice a k cap]] w fun r w'=>r = .returned (.bool (formA o n k&&formB o s))∧Below w.heap.size w w':=by
 obtain⟨fa,hfa⟩:∃ x,x=formA o n k:=⟨_,rfl⟩
 obtain⟨fb,hfb⟩:∃ x,x=formB o s:=⟨_,rfl⟩
 rw [← hfa,← hfb]
 unfold formA at hfa
 unfold formB at hfb
 have FA:=Zhd hfa
 have FB:=Zhd hfb
 clear hfa hfb
 go_enter Tryz.func156,Tryz.ntmps156
 go_upto_region 2 with (go_at_call 121;refine (arity_any H T _ _ (hH.alloc _)).mono ?_;rintro e w' ⟨rfl,rfl⟩)
 go_cut [4] (fun s4 wx=>s4 = .bool fa∧wx=w.alloc (.cells #[.string o,.int .i64 n,.string s,.slice a k cap] 69))
 case first=>
  go_wp2_with fail
  all_goals go_meet
  all_goals refine⟨congrArg Value.bool ?_,rfl⟩
  all_goals rw [FA.out]
  all_goals (first | (simp [*];done) | (simp [*];omega))
 obtain⟨rfl,rfl⟩:=hcut
 cases fa
 all_goals
  go_wp2_with fail
 all_goals go_ret
 all_goals refine⟨Zb6 ?_,(Below.refl _ _).alloc (Nat.le_refl _) _⟩
 all_goals rw [FB.out]
 all_goals (first | (simp [*];done) | (simp [*];omega))
theorem form_any (H:Kn) (T:Zbo H) (e:Ex) (v:Value) (hv:ExV H e v) (w:World) (hH:H.In w):
  Calls Tryz.prog 156 #[v] w fun r w'=>r = .returned (.bool (form e))∧Below w.heap.size w w':=by
 obtain⟨u,rfl,hu⟩:=hv
 obtain⟨a,cap,rfl⟩:=hu.len
 rw [form_eq]
 cases hn:(e.n==0) with
 | false=>exact form_some H T _ _ hn _ _ _ _ _ hH
 | true=>
  have h0:e.n=0:=by simpa using hn
  rw [h0]
  exact form_zero H T _ _ _ _ _ _ hH
theorem Zek:∀ (l:List Ex) (k:Nat) (h:k<l.length),Ex.partsL (l.take (k+1))=Ex.partsL (l.take k)+l[k].parts
 | e :: l,0,_=>by simp [Ex.partsL]
 | e :: l,k+1,h=>by
  have:=Zek l k (by simpa using h)
  simp only [List.take_succ_cons,Ex.partsL,List.getElem_cons_succ]
  omega
theorem Zel:∀ (l:List Ex) (k:Nat),Ex.partsL (l.take k)≤Ex.partsL l
 | [],k=>by simp
 | e :: l,0=>by simp [Ex.partsL]
 | e :: l,k+1=>by
  have:=Zel l k
  simp only [List.take_succ_cons,Ex.partsL]
  omega
theorem ExsV.cell {H:Kn} {l:List Ex} {v:Value} (h:ExsV H l v) (hne:l≠[]):∃ b off cap,v = .slice (some ⟨b,off,none⟩) l.length cap∧l.length≤cap∧cap≤maxLen∧∀ i (hi:i<l.length),∃ ax cx,
  H.cell b (off+i * 4)=some (.string l[i].op)∧H.cell b (off+i * 4+1)=some (.int .i64 l[i].n)∧H.cell b (off+i * 4+2)=some (.string l[i].s)∧H.cell b (off+i * 4+3)=some (.slice ax l[i].l.length cx)∧
   ExV H l[i] (.agg #[.string l[i].op,.int .i64 l[i].n,.string l[i].s,.slice ax l[i].l.length cx]):=by
 rcases h with ⟨h,_⟩ | ⟨b,off,cap,h1,h2,h3,h4⟩
 ·exact absurd h hne
 refine⟨b,off,cap,h1,h2,h3,fun i hi=>?_⟩
 obtain⟨u,a0,a1,a2,a3,hu⟩:=(h4.get i hi).cells
 obtain⟨ax,cx,rfl⟩:=hu.len
 exact⟨ax,cx,a0,a1,a2,a3,_,rfl,hu⟩
theorem parts_any (H:Kn):∀ (e:Ex) (v:Value),ExV H e v→e.parts≤1000000000000000000→∀ w:World,H.In w→
  Calls Tryz.prog 140 #[v] w fun r w'=>r = .returned (.int .i64 e.parts)∧Below w.heap.size w w':=by
 refine Ex.ind fun o n s l ih v hv hp w hH=>?_
 obtain⟨u,rfl,hu⟩:=hv
 simp only [Ex.op,Ex.n,Ex.s,Ex.l] at hu ⊢
 simp only [Ex.parts] at hp ⊢
 by_cases hne:l=[]
 ·subst hne
  obtain⟨a,cap,rfl⟩:=hu.len
  clear hu ih
  go_enter Tryz.func140,Tryz.ntmps140
  go_wp2_with fail
  go_rounds 1
  all_goals go_ret
  exact⟨rfl,(Below.refl _ _).alloc (Nat.le_refl _) _⟩
 obtain⟨b,off,cap,rfl,h1,h2,hc⟩:=hu.cell hne
 have HC:=Zhd hc
 have IH:=Zhd ih
 clear hc hu ih
 have hlt:l.length≤9223372036854775807:=by unfold maxLen at h2;omega
 go_enter Tryz.func140,Tryz.ntmps140
 go_wp2_with fail
 have hW1:Below w.heap.size w (w.alloc (.cells #[.string o,.int .i64 n,.string s,.slice (some ⟨b,off,none⟩) l.length cap] 69)):=(Below.refl _ _).alloc (Nat.le_refl _) _
 generalize w.alloc (.cells #[.string o,.int .i64 n,.string s,.slice (some ⟨b,off,none⟩) l.length cap] 69)=W at *
 go_loopw [3,9] (fun c i wr=>∃ k:Nat,i = .int .i64 k∧k≤l.length∧c = .int .i64 ((1+Ex.partsL (l.take k):Nat):Int)∧Below w.heap.size w wr) (fun _ i _=>l.length - (intOf i).toNat)
 case atStart=>exact⟨0,rfl,Nat.zero_le _,rfl,hW1⟩
 obtain⟨k,rfl,hk,rfl,hb⟩:=hrel
 have hwr:=hb.size
 have hpl:=Zel l k
 by_cases hkl:k<l.length
 ·obtain⟨ax,cx,c0,c1,c2,c3,hx⟩:=HC.out k hkl
  have hHr:=hH.below hb
  have c0:=hHr.cell c0
  have c1:=hHr.cell c1
  have c2:=hHr.cell c2
  have c3:=hHr.cell c3
  have hps:=Zek l k hkl
  have hpl2:=Zel l (k+1)
  have PS:=Zhd hps
  have hpx:l[k].parts≤1000000000000000000:=by omega
  have hmem:=List.getElem_mem hkl
  generalize l[k]=x at *
  clear hps
  go_wp2_with fail
  refine (IH.out x hmem _ hx hpx _ (hHr.alloc _)).mono ?_
  rintro r w2 ⟨rfl,hb2⟩
  have hW2:Below w.heap.size w w2:=((hb.alloc hwr _)).trans (hb2.mono (by simp;omega))
  go_wp2_with fail
  go_roundw
  case rel=>exact⟨k+1,by go_num,by omega,by rw [PS.out];go_num,hW2⟩
  simp [intOf];omega
 go_wp2_with fail
 go_ret
 exact⟨Zat (by rw [List.take_of_length_le (by omega)]),hb⟩
end Go.Proofs.YtofameafdnkijaaGreatDoor
