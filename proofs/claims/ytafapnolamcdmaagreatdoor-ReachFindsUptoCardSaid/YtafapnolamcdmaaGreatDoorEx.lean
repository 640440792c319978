/- Terms and lists of terms in known memory. -/
import Derived.Test.YtafapnolamcdmaaGreatDoorRg
import Derived.Test.YtafapnolamcdmaaGreatDoorMx
import Derived.Laws.Rows
import Derived.Deep.DeepCutAuto
import Derived.Maps.OwnIn
set_option linter.all false
namespace Go.Proofs.YtafapnolamcdmaaGreatDoor
set_option maxRecDepth 100000
set_option maxHeartbeats 16000000
open Go.RowKit Mx
mutual
def ExAt(H:Kn):Ex->(Nat->Option Value)->Prop
 | .mk o n s l,f=>f 0=some (.string o)/\f 1=some (.int .i64 n)/\f 2=some (.string s)/\
   ((l=[]/\∃a Ha,f 3=some (.slice a 0 Ha))\/∃b off Ha,f 3=some (.slice (some ⟨b,off,none⟩) l.length Ha)/\l.length<=Ha/\Ha<=maxLen/\Zee H l b off)
def Zee(H:Kn):List Ex->Nat->Nat->Prop
 | [],_,_=>True
 |e :: l,b,off=>ExAt H e (λj=>H.cell b (off+j))/\Zee H l b (off+4)
end
theorem exsAt_of{H H':Kn}{l:List Ex}(He:H.le H')(h:∀e∈l,∀f g,(∀j x,f j=some x->g j=some x)->ExAt H e f->ExAt H' e g):∀b off,Zee H l b off->Zee H' l b off:=by
 induction l with
 |nil=>intro b off _;simp only[Zee]
 |cons e l ih=>
  intro b off hh;simp only[Zee] at hh ⊢;exact⟨h e (List.mem_cons_self ..) _ _ (λj x hx=>He.cell hx) hh.1,ih (λx hx=>h x (List.mem_cons_of_mem _ hx)) b (off+4) hh.2⟩
theorem ExAt.le{H H':Kn}(He:H.le H'):∀(e:Ex) (f g:Nat->Option Value),(∀j x,f j=some x->g j=some x)->ExAt H e f->ExAt H' e g:=by
 refine Ex.ind (P:=λe=>∀f g,(∀j x,f j=some x->g j=some x)->ExAt H e f->ExAt H' e g) λo n s l ih f g hfg h=>?_;simp only[ExAt] at h ⊢;obtain⟨h0,h1,h2,h3⟩:=h;refine⟨hfg _ _ h0,hfg _ _ h1,hfg _ _ h2,?_⟩;rcases h3 with ⟨hl,a,Ha,h3⟩|⟨b,off,Ha,h3,h4,h5,h6⟩
 .exact .inl ⟨hl,a,Ha,hfg _ _ h3⟩
 exact .inr ⟨b,off,Ha,hfg _ _ h3,h4,h5,exsAt_of He ih b off h6⟩
theorem Zee.le{H H':Kn}(He:H.le H'){l:List Ex}{b off:Nat}(h:Zee H l b off):Zee H' l b off:=exsAt_of He (λe _=>ExAt.le He e) b off h
theorem Zee.get{H:Kn}:∀{l:List Ex} {b off:Nat},Zee H l b off->∀i (h:i<l.length),ExAt H l[i] (λj=>H.cell b (off+i * 4+j))
 | [],_,_,_,i,h=>by simp at h
 |e :: l,b,off,hh,0,_=>by
  simp only[Zee] at hh;simpa using hh.1
 |e :: l,b,off,hh,i+1,h=>by
  simp only[Zee] at hh;have:=Zee.get hh.2 i (by simpa using h);rw[show off+(i+1) * 4=off+4+i * 4 from by omega];exact this
def ExsV(H:Kn)(l:List Ex)(v:Value):Prop:=(l=[]/\∃a Ha,v=.slice a 0 Ha)\/∃b off Ha,v=.slice (some ⟨b,off,none⟩) l.length Ha/\l.length<=Ha/\Ha<=maxLen/\Zee H l b off
def ExV(H:Kn)(e:Ex)(v:Value):Prop:=∃u,v=.agg #[.string e.op,.int .i64 e.n,.string e.s,u]/\ExsV H e.l u
theorem ExsV.le{H H':Kn}(He:H.le H'){l:List Ex}{v:Value}(h:ExsV H l v):ExsV H' l v:=
 h.imp id λ⟨b,off,Ha,h1,h2,h3,h4⟩=>⟨b,off,Ha,h1,h2,h3,h4.le He⟩
theorem ExV.le{H H':Kn}(He:H.le H'){e:Ex}{v:Value}(h:ExV H e v):ExV H' e v:=let ⟨u,h1,h2⟩:=h;⟨u,h1,h2.le He⟩
theorem ExAt.cells{H:Kn}{e:Ex}{f:Nat->Option Value}(h:ExAt H e f):∃u,f 0=some (.string e.op)/\f 1=some (.int .i64 e.n)/\f 2=some (.string e.s)/\f 3=some u/\ExsV H e.l u:=by
 obtain⟨o,n,s,l⟩:=e;simp only[ExAt] at h;obtain⟨h0,h1,h2,h3⟩:=h;rcases h3 with ⟨hl,a,Ha,h3⟩|⟨b,off,Ha,h3,h4,h5,h6⟩
 .exact⟨_,h0,h1,h2,h3,.inl ⟨hl,a,Ha,rfl⟩⟩
 exact⟨_,h0,h1,h2,h3,.inr ⟨b,off,Ha,rfl,h4,h5,h6⟩⟩
theorem ExAt.mk{H:Kn}{e:Ex}{f:Nat->Option Value}{u:Value}(h0:f 0=some (.string e.op))(h1:f 1=some (.int .i64 e.n))(h2:f 2=some (.string e.s))(h3:f 3=some u)(hu:ExsV H e.l u):ExAt H e f:=by
 obtain⟨o,n,s,l⟩:=e;simp only[ExAt];refine⟨h0,h1,h2,?_⟩;rcases hu with ⟨hl,a,Ha,rfl⟩|⟨b,off,Ha,rfl,h4,h5,h6⟩
 .exact .inl ⟨hl,a,Ha,h3⟩
 exact .inr ⟨b,off,Ha,h3,h4,h5,h6⟩
theorem ExsV.len{H:Kn}{l:List Ex}{v:Value}(h:ExsV H l v):∃a Ha,v=.slice a l.length Ha:=by
 rcases h with ⟨rfl,a,Ha,rfl⟩|⟨b,off,Ha,rfl,_⟩
 .exact⟨a,Ha,rfl⟩
 exact⟨_,Ha,rfl⟩
def SlV{α:Type}(H:Kn)(k:Nat)(R:α->(Nat->Option Value)->Prop)(l:List α)(v:Value):Prop:=
 (l=[]/\∃a Ha,v=.slice a 0 Ha)\/∃b off Ha,v=.slice (some ⟨b,off,none⟩) l.length Ha/\l.length<=Ha/\Ha<=maxLen/\∀i (h:i<l.length),R l[i] (λj=>H.cell b (off+i * k+j))
theorem SlV.le{α:Type}{H H':Kn}{k:Nat}{R R':α->(Nat->Option Value)->Prop}{l:List α}{v:Value}(h:SlV H k R l v)(He:H.le H')(hr:∀x f g,(∀j u,f j=some u->g j=some u)->R x f->R' x g):SlV H' k R' l v:=
 h.imp id λ⟨b,off,Ha,h1,h2,h3,h4⟩=>⟨b,off,Ha,h1,h2,h3,λi hi=>hr _ _ _ (λj u e=>He.cell e) (h4 i hi)⟩
theorem SlV.len{α:Type}{H:Kn}{k:Nat}{R:α->(Nat->Option Value)->Prop}{l:List α}{v:Value}(h:SlV H k R l v):∃a Ha,v=.slice a l.length Ha:=by
 rcases h with ⟨rfl,a,Ha,rfl⟩|⟨b,off,Ha,rfl,_⟩
 .exact⟨a,Ha,rfl⟩
 exact⟨_,Ha,rfl⟩
def StrC(s:ByteArray)(f:Nat->Option Value):Prop:=f 0=some (.string s)
def VrC(x:Vr)(f:Nat->Option Value):Prop:=f 0=some (.string x.name)/\f 1=some (.int .i64 x.kind)
def FlC(H:Kn)(x:Fl)(f:Nat->Option Value):Prop:=f 0=some (.string x.name)/\f 1=some (.int .i64 x.kind)/\ExAt H x.e λj=>f (2+j)
abbrev StrsV(H:Kn):List ByteArray->Value->Prop:=SlV H 1 StrC
abbrev VrsV(H:Kn):List Vr->Value->Prop:=SlV H 2 VrC
abbrev FlsV(H:Kn):List Fl->Value->Prop:=SlV H 6 (FlC H)
theorem StrC.mono(x:ByteArray)(f g:Nat->Option Value)(h:∀j u,f j=some u->g j=some u)(hx:StrC x f):StrC x g:=h _ _ hx
theorem VrC.mono(x:Vr)(f g:Nat->Option Value)(h:∀j u,f j=some u->g j=some u)(hx:VrC x f):VrC x g:=⟨h _ _ hx.1,h _ _ hx.2⟩
theorem FlC.mono{H H':Kn}(He:H.le H')(x:Fl)(f g:Nat->Option Value)(h:∀j u,f j=some u->g j=some u)(hx:FlC H x f):FlC H' x g:=
 ⟨h _ _ hx.1,h _ _ hx.2.1,ExAt.le He _ _ _ (λj u e=>h _ _ e) hx.2.2⟩
structure PrP(H:Kn)(p:Pr)(vi vo vl va vc:Value):Prop where
 ins:VrsV H p.ins vi
 outs:StrsV H p.outs vo
 fl:FlsV H p.fl vl
 asr:ExsV H p.as va
 chk:ExsV H p.cs vc
theorem PrP.le{H H':Kn}(He:H.le H'){p:Pr}{vi vo vl va vc:Value}(h:PrP H p vi vo vl va vc):PrP H' p vi vo vl va vc:=
 ⟨h.ins.le He VrC.mono,h.outs.le He StrC.mono,h.fl.le He (FlC.mono He),h.asr.le He,h.chk.le He⟩
theorem FlC.cells{H:Kn}{x:Fl}{f:Nat->Option Value}(h:FlC H x f):∃u,f 0=some (.string x.name)/\f 1=some (.int .i64 x.kind)/\f 2=some (.string x.e.op)/\f 3=some (.int .i64 x.e.n)/\f 4=some (.string x.e.s)/\f 5=some u/\ExsV H x.e.l u:=by
 obtain⟨h0,h1,h2⟩:=h;obtain⟨u,a,b,c,d,e⟩:=h2.cells;exact⟨u,h0,h1,a,b,c,d,e⟩
def Zbv(H:Kn):Prop:=∃v0 v1 v2 v3 v4 t fr,H 10=some (.cells #[v0,v1,v2,v3,v4] t fr)/\
 Zfp H v0 [oOr,oXor]/\Zfp H v1 [oAnd]/\Zfp H v2 [oEq,oNe,oLt,oLe,oGt,oGe,oImp]/\Zfp H v3 [oAdd,oSub]/\Zfp H v4 [oMul,oDiv,oMod]
def arN(o:ByteArray):Int:=(Zcx o).getD 0
def arB(o:ByteArray):Bool:=(Zcx o).isSome
theorem Ze0(a b:ByteArray):(a.toList==b.toList)=decide (a=b):=by
 rw[Lib.toList_data,Lib.toList_data];obtain⟨⟨x⟩⟩:=a;obtain⟨⟨y⟩⟩:=b;by_cases h:x=y
 .subst h;simp
 have:¬(ByteArray.mk ⟨x⟩=ByteArray.mk ⟨y⟩):=λe=>h (by cases e;rfl);simp[h]
theorem not_op{a b:ByteArray}(h:a≠b):(a.toList==b.toList)=false:=by rw[Ze0];simpa using h
theorem Zav{a:ByteArray}(l:List UInt8)(h:a≠⟨⟨l⟩⟩):(a.toList==l)=false:=by
 have:=not_op h
 rwa [Lib.toList_data ⟨⟨l⟩⟩] at this
theorem Zgr(l:List ByteArray)(o:ByteArray):l.contains o=l.any λx=>o.toList==x.toList:=by
 induction l with
 |nil=>rfl
 |cons x l ih=>
  rw[List.contains_cons,List.any_cons,ih,Ze0]
  congr 1
  by_cases h:o=x
  .subst h;simp
  have:(o==x)=false:=by simpa using h
  rw[this];simpa using h
theorem arity_any(H:Kn)(T:Zbv H)(o:ByteArray)(w:World)(hH:H.In w):
  Calls Tryz.prog 130 #[.string o] w λe w'=>e=.returned (.tuple #[.int .i64 (arN o),.bool (arB o)])/\w=w':=by
 by_cases hk:o=oInt\/o=Zc9\/o=Zch\/o=Zb2\/o=oNot\/o=oNeg\/o=oPre\/o=oIf\/o=Zko\/o=Zbk\/o=oFby
 .rcases hk with rfl|rfl|rfl|rfl|rfl|rfl|rfl|rfl|rfl|rfl|rfl
  all_goals
   go_enter Tryz.func130,Tryz.ntmps130;go_wp2_with fail;go_ret2
   exact⟨by rfl,rfl⟩
 obtain⟨v0,v1,v2,v3,v4,tt,fr,hg,jN,jo,qG,hs3,hs4⟩:=T;have hg':=hH _ _ hg;clear hg;simp only[not_or] at hk;obtain⟨k1,k2,k3,k4,k5,k6,k7,k8,k9,k10,zT⟩:=hk;have e1:(o.toList==[105,110,116])=false:=Zav _ k1;have e2:(o.toList==[116,114,117,101])=false:=Zav _ k2;have e3:(o.toList==[102,97,108,115,101])=false:=Zav _ k3;have e4:(o.toList==[110,97,109,101])=false:=Zav _ k4;have e5:(o.toList==[110,111,116])=false:=Zav _ k5;have e6:(o.toList==[110,101,103])=false:=Zav _ k6;have e7:(o.toList==[112,114,101])=false:=Zav _ k7;have e8:(o.toList==[105,102])=false:=Zav _ k8;have e9:(o.toList==[99,97,108,108])=false:=Zav _ k9;have js:(o.toList==[45,62])=false:=Zav _ k10;have qO:(o.toList==[102,98,121])=false:=Zav _ zT;have hA:Zcx o=if levels.any λl=>l.contains o then some 2 else none:=by
  unfold Zcx;rw[if_neg (by simp[k1,k2,k3,k4]),if_neg (by simp[k5,k6,k7]),if_neg k8,if_neg k9,if_neg (by simp[k10,zT])]
 have hL:(levels.any λl=>l.contains o)=([oOr,oXor].any (λx=>o.toList==x.toList) || ([oAnd].any (λx=>o.toList==x.toList) || ([oEq,oNe,oLt,oLe,oGt,oGe,oImp].any (λx=>o.toList==x.toList) || ([oAdd,oSub].any (λx=>o.toList==x.toList) || [oMul,oDiv,oMod].any (λx=>o.toList==x.toList))))):=by
  simp only[levels,List.any_cons,List.any_nil,Bool.or_false,Zgr]
 have HA:=Zhd hA;obtain⟨b0,Hg⟩:∃b,([oOr,oXor].any λx=>o.toList==x.toList)=b:=⟨_,rfl⟩;obtain⟨b1,Hv⟩:∃b,([oAnd].any λx=>o.toList==x.toList)=b:=⟨_,rfl⟩;obtain⟨b2,Hm⟩:∃b,([oEq,oNe,oLt,oLe,oGt,oGe,oImp].any λx=>o.toList==x.toList)=b:=⟨_,rfl⟩;obtain⟨b3,Jg⟩:∃b,([oAdd,oSub].any λx=>o.toList==x.toList)=b:=⟨_,rfl⟩;obtain⟨b4,jw⟩:∃b,([oMul,oDiv,oMod].any λx=>o.toList==x.toList)=b:=⟨_,rfl⟩;rw[Hg,Hv,Hm,Jg,jw] at hL;have HB:=Zhd (And.intro Hg (And.intro Hv (And.intro Hm (And.intro Jg jw))));clear Hg Hv Hm Jg jw;have HL:=Zhd hL;clear hA hL k1 k2 k3 k4 k5 k6 k7 k8 k9 k10 zT;have i0:∀w,(Instr.index 255 (.agg #[v0,v1,v2,v3,v4]) (.int .i64 0)).run Tryz.prog w=.ok v0 w:=λ_=>by kernel_rfl
 have i1:∀w,(Instr.index 255 (.agg #[v0,v1,v2,v3,v4]) (.int .i64 1)).run Tryz.prog w=.ok v1 w:=λ_=>by kernel_rfl
 have i2:∀w,(Instr.index 255 (.agg #[v0,v1,v2,v3,v4]) (.int .i64 2)).run Tryz.prog w=.ok v2 w:=λ_=>by kernel_rfl
 have i3:∀w,(Instr.index 255 (.agg #[v0,v1,v2,v3,v4]) (.int .i64 3)).run Tryz.prog w=.ok v3 w:=λ_=>by kernel_rfl
 have i4:∀w,(Instr.index 255 (.agg #[v0,v1,v2,v3,v4]) (.int .i64 4)).run Tryz.prog w=.ok v4 w:=λ_=>by kernel_rfl
 have HG:=Zhd hg';clear hg';go_enter Tryz.func130,Tryz.ntmps130;go_wp2_with(refine wpList_load_row rfl 255 _ rfl 10 rfl tt _ fr (.array 5 23) HG.out Tryz.underlying255 rfl (by kernel_rfl) ?_);refine wp_loop_rounds 6 ?_
 repeat(any_goals(rw[rounds_succ];go_wp2_with(go_at_call 89;refine(Zkj H _ _ _ _ (by first|exact jN|exact jo|exact qG|exact hs3|exact hs4) hH).mono ?_;rintro e w' ⟨rfl,rfl⟩;(first|rw[HB.out.1]|rw[HB.out.2.1]|rw[HB.out.2.2.1]|rw[HB.out.2.2.2.1]|rw[HB.out.2.2.2.2]))))
 all_goals go_ret2
 all_goals refine⟨?_,rfl⟩
 all_goals(unfold arN arB;rw[HA.out,HL.out])
 all_goals simp_all
theorem dLit(o:ByteArray)(l:List UInt8):decide (o=⟨⟨l⟩⟩)=(o.toList==l):=by
 have:=Ze0 o ⟨⟨l⟩⟩;rw[Lib.toList_data ⟨⟨l⟩⟩] at this;exact this.symm
theorem dEmp(s:ByteArray):decide (s.size=0)=s.toList.isEmpty:=by
 rw[Lib.toList_data];obtain⟨⟨x⟩⟩:=s;cases x<;>simp[ByteArray.size]
def formA(o:ByteArray)(n:Int)(k:Nat):Bool:=arB o&&(decide (arN o<0) || (arN o==(k:Int)))&&((n==0) || (o.toList==[105,110,116])&&decide (0<n)&&decide (n<=127))
def formB(o s:ByteArray):Bool:=s.toList.isEmpty || (o.toList==[110,97,109,101]) || (o.toList==[99,97,108,108])
theorem form_eq(e:Ex):form e=(formA e.op e.n e.l.length&&formB e.op e.s):=by
 unfold form formA formB arN arB;rw[<- dEmp,<- dLit e.op [110,97,109,101],<- dLit e.op [99,97,108,108],<- dLit e.op [105,110,116]];have e1:(e.n==0)=decide (e.n=0):=by by_cases h:e.n=0<;>simp[h]
 rw[e1];cases h:Zcx e.op with
 |none=>simp
 |some k=>
  have e2:(k==(e.l.length:Int))=decide (k=e.l.length):=by by_cases h:k=e.l.length<;>simp[h]
  simp[e2]
theorem form_zero(H:Kn)(T:Zbv H)(o:ByteArray)(s:ByteArray)(k:Nat)(a:Option Addr)(Ha:Nat)(w:World)(hH:H.In w):
  Calls Tryz.prog 123 #[.agg #[.string o,.int .i64 0,.string s,.slice a k Ha]] w λr w'=>r=.returned (.bool (formA o 0 k&&formB o s))/\Ybw w w':=by
 obtain⟨fa,ym⟩:∃x,x=formA o 0 k:=⟨_,rfl⟩;obtain⟨fb,qy⟩:∃x,x=formB o s:=⟨_,rfl⟩;rw[<- ym,<- qy];unfold formA at ym;unfold formB at qy;have FA:=Zhd ym;have FB:=Zhd qy;clear ym qy;go_enter Tryz.func123,Tryz.ntmps123;go_upto_region 2 with(go_at_call 130;refine(arity_any H T _ _ (hH.alloc _)).mono ?_;rintro e w' ⟨rfl,rfl⟩)
 go_cut[4] (λs4 wx=>s4=.bool fa/\wx=w.alloc (.cells #[.string o,.int .i64 0,.string s,.slice a k Ha] 93))
 case first=>
  go_wp2_with fail
  all_goals go_meet
  all_goals refine⟨congrArg Value.bool ?_,rfl⟩
  all_goals rw[FA.out]
  all_goals(first|(simp[*];done)|(simp[*];omega))
 obtain⟨rfl,rfl⟩:=hcut;cases fa
 all_goals
  go_wp2_with fail
 all_goals go_ret
 all_goals refine⟨Za7 ?_,Yba⟩
 all_goals rw[FB.out]
 all_goals(first|(simp[*];done)|(simp[*];omega))
theorem form_some(H:Kn)(T:Zbv H)(o:ByteArray)(n:Int)(hn:(n==0)=false)(s:ByteArray)(k:Nat)(a:Option Addr)(Ha:Nat)(w:World)(hH:H.In w):
  Calls Tryz.prog 123 #[.agg #[.string o,.int .i64 n,.string s,.slice a k Ha]] w λr w'=>r=.returned (.bool (formA o n k&&formB o s))/\Ybw w w':=by
 obtain⟨fa,ym⟩:∃x,x=formA o n k:=⟨_,rfl⟩;obtain⟨fb,qy⟩:∃x,x=formB o s:=⟨_,rfl⟩;rw[<- ym,<- qy];unfold formA at ym;unfold formB at qy;have FA:=Zhd ym;have FB:=Zhd qy;clear ym qy;go_enter Tryz.func123,Tryz.ntmps123;go_upto_region 2 with(go_at_call 130;refine(arity_any H T _ _ (hH.alloc _)).mono ?_;rintro e w' ⟨rfl,rfl⟩)
 go_cut[4] (λs4 wx=>s4=.bool fa/\wx=w.alloc (.cells #[.string o,.int .i64 n,.string s,.slice a k Ha] 93))
 case first=>
  go_wp2_with fail
  all_goals go_meet
  all_goals refine⟨congrArg Value.bool ?_,rfl⟩
  all_goals rw[FA.out]
  all_goals(first|(simp[*];done)|(simp[*];omega))
 obtain⟨rfl,rfl⟩:=hcut;cases fa
 all_goals
  go_wp2_with fail
 all_goals go_ret
 all_goals refine⟨Za7 ?_,Yba⟩
 all_goals rw[FB.out]
 all_goals(first|(simp[*];done)|(simp[*];omega))
theorem form_any(H:Kn)(T:Zbv H)(e:Ex)(v:Value)(hv:ExV H e v)(w:World)(hH:H.In w):
  Calls Tryz.prog 123 #[v] w λr w'=>r=.returned (.bool (form e))/\Ybw w w':=by
 obtain⟨u,rfl,hu⟩:=hv;obtain⟨a,Ha,rfl⟩:=hu.len;rw[form_eq];cases hn:(e.n==0) with
 |false=>exact form_some H T _ _ hn _ _ _ _ _ hH
 |true=>
  have h0:e.n=0:=by simpa using hn
  rw[h0];exact form_zero H T _ _ _ _ _ _ hH
theorem Zde:∀(l:List Ex) (k:Nat) (h:k<l.length),Ex.partsL (l.take (k+1))=Ex.partsL (l.take k)+l[k].parts
 |e :: l,0,_=>by simp[Ex.partsL]
 |e :: l,k+1,h=>by
  have:=Zde l k (by simpa using h);simp only[List.take_succ_cons,Ex.partsL,List.getElem_cons_succ];omega
theorem Zc1:∀(l:List Ex) (k:Nat),Ex.partsL (l.take k)<=Ex.partsL l
 | [],k=>by simp
 |e :: l,0=>by simp[Ex.partsL]
 |e :: l,k+1=>by
  have:=Zc1 l k;simp only[List.take_succ_cons,Ex.partsL];omega
theorem ExsV.cell{H:Kn}{l:List Ex}{v:Value}(h:ExsV H l v)(Hs:l≠[]):∃b off Ha,v=.slice (some ⟨b,off,none⟩) l.length Ha/\l.length<=Ha/\Ha<=maxLen/\∀i (hi:i<l.length),∃ax cx,
  H.cell b (off+i * 4)=some (.string l[i].op)/\H.cell b (off+i * 4+1)=some (.int .i64 l[i].n)/\H.cell b (off+i * 4+2)=some (.string l[i].s)/\H.cell b (off+i * 4+3)=some (.slice ax l[i].l.length cx)/\
   ExV H l[i] (.agg #[.string l[i].op,.int .i64 l[i].n,.string l[i].s,.slice ax l[i].l.length cx]):=by
 rcases h with ⟨h,_⟩|⟨b,off,Ha,h1,h2,h3,h4⟩
 .exact absurd h Hs
 refine⟨b,off,Ha,h1,h2,h3,λi hi=>?_⟩;obtain⟨u,a0,a1,a2,a3,hu⟩:=(h4.get i hi).cells;obtain⟨ax,cx,rfl⟩:=hu.len;exact⟨ax,cx,a0,a1,a2,a3,_,rfl,hu⟩
theorem parts_any(H:Kn):∀(e:Ex) (v:Value),ExV H e v->e.parts<=1000000000000000000->∀w:World,H.In w->
  Calls Tryz.prog 114 #[v] w λr w'=>r=.returned (.int .i64 e.parts)/\Ybw w w':=by
 refine Ex.ind λo n s l ih v hv hp w hH=>?_;obtain⟨u,rfl,hu⟩:=hv;simp only[Ex.op,Ex.n,Ex.s,Ex.l] at hu ⊢;simp only[Ex.parts] at hp ⊢;by_cases Hs:l=[]
 .subst Hs;obtain⟨a,Ha,rfl⟩:=hu.len;clear hu ih;go_enter Tryz.func114,Tryz.ntmps114;go_wp2_with fail;go_rounds 1
  all_goals go_ret
  exact⟨rfl,Yba⟩
 obtain⟨b,off,Ha,rfl,h1,h2,hc⟩:=hu.cell Hs;have HC:=Zhd hc;have IH:=Zhd ih;clear hc hu ih;have Hr:l.length<=9223372036854775807:=by unfold maxLen at h2;omega
 go_enter Tryz.func114,Tryz.ntmps114;go_wp2_with fail;have qN:Ybw w (w.alloc (.cells #[.string o,.int .i64 n,.string s,.slice (some ⟨b,off,none⟩) l.length Ha] 93)):=Yba;generalize w.alloc (.cells #[.string o,.int .i64 n,.string s,.slice (some ⟨b,off,none⟩) l.length Ha] 93)=W at *;go_loopw[3,9] (λc i wr=>∃k:Nat,i=.int .i64 k/\k<=l.length/\c=.int .i64 ((1+Ex.partsL (l.take k):Nat):Int)/\Ybw w wr) (λ_ i _=>l.length - (intOf i).toNat)
 case atStart=>exact⟨0,rfl,Nat.zero_le _,rfl,qN⟩
 obtain⟨k,rfl,hk,rfl,hb⟩:=hrel;have qS:=hb.size;have qn:=Zc1 l k;by_cases Hd:k<l.length
 .obtain⟨ax,cx,c0,c1,c2,c3,hx⟩:=HC.out k Hd;have Hw:=hH.below hb;have c0:=Hw.cell c0;have c1:=Hw.cell c1;have c2:=Hw.cell c2;have c3:=Hw.cell c3;have zr:=Zde l k Hd;have hpl2:=Zc1 l (k+1);have PS:=Zhd zr;have Jy:l[k].parts<=1000000000000000000:=by omega
  have Hl:=Ymm Hd;generalize l[k]=x at *;clear zr;go_wp2_with fail;refine(IH.out x Hl _ hx Jy _ (Hw.alloc _)).mono ?_;rintro r w2 ⟨rfl,Hm⟩;have jx:Ybw w w2:=((hb.alloc qS _)).trans (Hm.mono (by simp;omega));go_wp2_with fail;go_roundw
  case rel=>exact⟨k+1,by go_num,by omega,by rw[PS.out];go_num,jx⟩
  simp[intOf];omega
 go_wp2_with fail;go_ret;exact⟨Zaf (by rw[List.take_of_length_le (by omega)]),hb⟩
open Go.RowKit Mx Go.MapKept
open Go.ChangeMaps (setBlock)
theorem Mx.Env.set_self{α:Type}(m:Env α)(k:ByteArray)(v:α):(m.set k v) k=some v:=by simp[Env.set]
theorem Mx.Env.set_other{α:Type}(m:Env α){k x:ByteArray}(v:α)(h:x≠k):(m.set k v) x=m x:=by simp[Env.set,h]
def Zf7(s:ByteArray):List MapEntry->Option Value
 | []=>none
 |e :: es=>match e.key with
  | .string k=>if k=s then some e.val else Zf7 s es
  |_=>Zf7 s es
def Zhk(l:List MapEntry):Prop:=∀e∈l,∃k,e.key=.string k
def Zay{α:Type}(V:α->Value)(w:World)(b:Nat)(m:Env α):Prop:=
 ∃es JW,w.heap[b]?=some (.map es JW)/\Zhk es.toList/\∀s,Zf7 s es.toList=(m s).map V
theorem mfind_push(s:ByteArray)(l:List MapEntry)(k:ByteArray)(v:Value)(c:Nat)(h:Zhk l):Zf7 s (l++[⟨.string k,v,c⟩])=(Zf7 s l).or (if s=k then some v else none):=by
 induction l with
 |nil=>
  simp only[List.nil_append,Zf7];by_cases hk:k=s
  .subst hk;simp
  simp[hk,Ne.symm hk]
 |cons e l ih=>
  obtain⟨q,hq⟩:=h e (List.mem_cons_self ..);simp only[List.cons_append,Zf7,hq]
  split
  .simp
  exact ih (λx hx=>h x (List.mem_cons_of_mem _ hx))
theorem Zh9(s:ByteArray):∀(l:List MapEntry) (i:Nat),Zhk l->
  (Instr.findNow .string (.string s) l i=some none/\Zf7 s l=none)\/
  ∃j e,Instr.findNow .string (.string s) l i=some (some (i+j,e.val))/\Zf7 s l=some e.val/\l[j]?=some e/\e.key=.string s/\
   ∀(f:MapEntry->MapEntry) (u:Value),(∀x,x.key=.string s->(f x).key=.string s/\(f x).val=u)->Zhk (l.modify j f)/\∀t,Zf7 t (l.modify j f)=if t=s then some u else Zf7 t l
 | [],i,_ => .inl ⟨rfl,rfl⟩
 |e :: es,i,h=>by
  obtain⟨q,hq⟩:=h e (List.mem_cons_self ..);have hes:Zhk es:=λx hx=>h x (List.mem_cons_of_mem _ hx);by_cases hqs:q=s
  .subst hqs;refine .inr ⟨0,e,?_,?_,rfl,hq,λf u hf=>?_⟩
   .have:(q==q)=true:=(bytes_beq q q).2 rfl;simp[Instr.findNow,Instr.sameNow,hq,this]
   .simp [Zf7,hq]
   obtain⟨h1,h2⟩:=hf e hq;refine⟨λx hx=>?_,λt=>?_⟩
   .simp only[List.modify_zero_cons,List.mem_cons] at hx;rcases hx with rfl|hx
    .exact⟨_,h1⟩
    exact hes x hx
   simp only[List.modify_zero_cons,Zf7,h1,h2,hq];by_cases ht:t=q
   .subst ht;simp
   simp[ht,Ne.symm ht]
  have Hs:(s==q)=false:=by
   cases hc:(s==q) with
   |false=>rfl
   |true=>exact absurd ((bytes_beq _ _).1 hc).symm hqs
  rcases Zh9 s es (i+1) hes with ⟨h1,h2⟩|⟨j,e',h1,h2,h3,h4,h5⟩
  .refine .inl ⟨?_,?_⟩
   .simp [Instr.findNow,Instr.sameNow,hq,Hs,h1]
   simp[Zf7,hq,hqs,h2]
  refine .inr ⟨j+1,e',?_,?_,by simpa using h3,h4,λf u hf=>?_⟩
  .simp [Instr.findNow,Instr.sameNow,hq,Hs,h1];omega
  .simp [Zf7,hq,hqs,h2]
  obtain⟨k1,k2⟩:=h5 f u hf;refine⟨λx hx=>?_,λt=>?_⟩
  .simp only[List.modify_succ_cons,List.mem_cons] at hx;rcases hx with rfl|hx
   .exact⟨_,hq⟩
   exact k1 x hx
  simp only[List.modify_succ_cons,Zf7,hq,k2 t];by_cases ht:q=t
  .subst ht;simp[hqs]
  simp[ht]
section
variable {α : Type} {V : α -> Value} {w : World} {b : Nat} {m : Env α}
theorem Zay.lt(h:Zay V w b m):b<w.heap.size:=by
 obtain⟨es,JW,hb,_⟩:=h;exact(Zlt hb)
theorem Zay.of_block{w':World}(h:Zay V w b m)(hb:w'.heap[b]?=w.heap[b]?):Zay V w' b m:=by
 obtain⟨es,JW,h1,h2⟩:=h;exact⟨es,JW,hb.trans h1,h2⟩
theorem Zay.below{w':World}(h:Zay V w b m)(hb:Ybw w w'):Zay V w' b m:=h.of_block (hb.block b h.lt)
theorem Zay.alloc(h:Zay V w b m)(o:Obj):Zay V (w.alloc o) b m:=h.of_block (Below.heap_alloc w o b h.lt)
theorem Zay.drewN(h:Zay V w b m)(n:Nat):Zay V (w.drewN n) b m:=h
theorem Zay.made(V:α->Value)(w:World):Zay V (w.alloc (.map #[] 0)) w.heap.size Env.none:=
 ⟨#[],0,(heap_alloc w _).1,λe he=>by simp at he,λs=>by simp[Zf7,Env.none]⟩
theorem Zay.known{H:Kn}(h:∃es JW,H b=some (.map es JW)/\Zhk es.toList/\∀s,Zf7 s es.toList=(m s).map V)(hH:H.In w):Zay V w b m:=by
 obtain⟨es,JW,h1,h2⟩:=h;exact⟨es,JW,hH b _ h1,h2⟩
theorem Zay.run{P:Program}{t k e:TypeId}(h:Zay V w b m)(ht:P.underlying t=some (.map k e))(hk:P.underlying k=some .string){d:α}(hz:(zeroValue e).run P w=.ok (V d) w)(s:ByteArray)(c:Bool):
  (Instr.lookup t (.map (some b)) (.string s) c).run P w=.ok (if c then .tuple #[V ((m s).getD d),.bool (m s).isSome] else V ((m s).getD d)) w:=by
 obtain⟨es,JW,hb,hs,hm⟩:=h;rcases Zh9 s es.toList 0 hs with ⟨h1,h2⟩|⟨j,e0,h1,h2,_⟩
 .rw [hm] at h2;have h2':m s=none:=by cases vy:m s<;>simp_all
  simp[Instr.lookup,run_underlying ht,MapKept.run_getObj_map hb,MapKept.run_checkKey hk (k:=.string s) trivial,MapKept.run_findKey hk h1,hz,Result.andThen,h2']
 rw[hm] at h2;obtain⟨x,hx,hv⟩:∃x,m s=some x/\V x=e0.val:=by cases vy:m s<;>simp_all
 simp[Instr.lookup,run_underlying ht,MapKept.run_getObj_map hb,MapKept.run_checkKey hk (k:=.string s) trivial,MapKept.run_findKey hk h1,Result.andThen,hx,hv]
theorem Zay.run_set{P:Program}{t k e:TypeId}(h:Zay V w b m)(ht:P.underlying t=some (.map k e))(hk:P.underlying k=some .string)(s:ByteArray)(x:α):
  ∃o,(Instr.mapUpdate t (.map (some b)) (.string s) (V x)).run P w=.ok () (setBlock w b o)/\Zay V (setBlock w b o) b (m.set s x):=by
 obtain⟨es,JW,hb,hs,hm⟩:=h;rcases Zh9 s es.toList 0 hs with ⟨h1,h2⟩|⟨j,e0,h1,h2,h3,h4,h5⟩
 .refine⟨.map (es.push ⟨.string s,V x,JW⟩) (JW+1),?_,es.push ⟨.string s,V x,JW⟩,JW+1,(heap_set hb).1,λy hy=>?_,λu=>?_⟩
  .simp [Instr.mapUpdate,run_underlying ht,MapKept.run_getObj_map hb,MapKept.run_checkKey hk (k:=.string s) trivial,MapKept.run_findKey hk h1,MapKept.run_setObj_map _ hb,Result.andThen,setBlock]
  .simp only[Array.toList_push,List.mem_append,List.mem_singleton] at hy;rcases hy with hy|rfl
   .exact hs y hy
   exact⟨s,rfl⟩
  rw[Array.toList_push,mfind_push _ _ _ _ _ hs];unfold Env.set;by_cases hu:u=s
  .subst hu;simp[h2]
  simp[hu,hm]
 have hj:es[j]?=some e0:=by simpa using h3
 obtain⟨k1,k2⟩:=h5 (λe'=>{ e' with key:=.string s,val:=V x }) (V x) (λy _=>⟨rfl,rfl⟩);refine⟨.map (es.modify j λe'=>{ e' with key:=.string s,val:=V x }) JW,?_,_,JW,(heap_set hb).1,?_,λu=>?_⟩
 .simp [Instr.mapUpdate,run_underlying ht,MapKept.run_getObj_map hb,MapKept.run_checkKey hk (k:=.string s) trivial,MapKept.run_findKey hk h1,hj,h4,MapKept.run_keyThatStays (d:=.string) (k:=.string s) trivial,MapKept.run_setObj_map _ hb,Result.andThen,setBlock]
 .rw [Array.toList_modify];exact k1
 rw[Array.toList_modify,k2 u,hm];unfold Env.set;by_cases hu:u=s<;>simp[hu]
end
def Zcq(w w':World)(b:Nat):Prop:=∃o,w'=setBlock w b o
theorem Zcq.size{w w':World}{b:Nat}(h:Zcq w w' b):w'.heap.size=w.heap.size:=by obtain⟨o,rfl⟩:=h;simp[setBlock]
theorem Zcq.block{w w':World}{b:Nat}(h:Zcq w w' b){i:Nat}(hi:i≠b):w'.heap[i]?=w.heap[i]?:=by
 obtain⟨o,rfl⟩:=h;simp[setBlock,Ne.symm hi]
theorem Zcq.below{B:Nat}{a w w':World}{b:Nat}(h:Zcq w w' b)(ha:Below B a w)(hB:B<=b):Below B a w':=by
 refine⟨?_,?_,?_,by rw[h.size];exact ha.size,λi hi=>by rw[h.block (by omega)];exact ha.block i hi⟩
 all_goals(obtain⟨o,rfl⟩:=h)
 .exact ha.os
 .exact ha.tape
 exact ha.output
theorem Zcq.cell{w w':World}{b:Nat}(h:Zcq w w' b){p:Addr}(hp:p.block≠b):w'.cell? p=w.cell? p:=World.cell?_of_block (w:=w) (h.block hp)
theorem Zcq.frozen{w w':World}{b:Nat}(h:Zcq w w' b){p:Addr}(hp:p.block≠b):w'.frozen? p=w.frozen? p:=World.frozen?_of_block (w:=w) (h.block hp)
theorem Zcq.isin{H:Kn}{w w':World}{b:Nat}(h:Zcq w w' b)(hH:H.In w)(hb:H b=none):H.In w':=hH.of_heap λi hi=>h.block λe=>hi (by rw[e];exact hb)
theorem Zcq.map{α:Type}{V:α->Value}{w w':World}{b c:Nat}{m:Env α}(h:Zcq w w' b)(hm:Zay V w c m)(hc:c≠b):Zay V w' c m:=hm.of_block (h.block hc)
theorem Zcq.cells{w w':World}{b:Nat}(h:Zcq w w' b):(∀c o,c≠b->w'.cell? ⟨c,o,none⟩=w.cell? ⟨c,o,none⟩)/\∀c o,c≠b->w'.frozen? ⟨c,o,none⟩=w.frozen? ⟨c,o,none⟩:=
 ⟨λ_ _ hc=>h.cell hc,λ_ _ hc=>h.frozen hc⟩
section
variable {α : Type} {P : Program} {w : World} {ops : Array Oper} {rest : List Oper} {o : Oper} {a : Act} {Q : Exit -> Act -> World -> Prop}
theorem Zev(V:α->Value)(t k e:TypeId)(ht:P.underlying t=some (.map k e))(hk:P.underlying k=some .string)(b:Nat)(m:Env α)(hM:Zay V w b m)
  (x y z:Operand) (hg:o.guard=none) (yI:o.op=Op.mapUpdate t x y z) (hx:a.eval x=.map (some b)) (s:ByteArray) (hy:a.eval y=.string s) (u:α) (hz:a.eval z=V u)
  (hK:∀w',Zay V w' b (m.set s u)->Zcq w w' b->wpList P ops Q rest (a.put o.dst undef) w'):wpList P ops Q (o :: rest) a w:=by
 refine wpList_plain hg λK' hK'=>?_;obtain⟨ob,Ht,hM'⟩:=hM.run_set ht hk s u;unfold Oper.wp;simp[execOp,yI,hx,hy,hz,Ht,Result.andThen];exact hK' _ _ (hK _ hM' ⟨ob,rfl⟩)
end
theorem Za1{w w':World}{base:Nat}{e:TypeId}{k n:Nat}{v:Value}{xs:List Value}(h:w.ownsRow base e k v n xs)(hb:Ybw w w'):w'.ownsRow base e k v n xs:=by
 refine⟨h.1,h.2.imp id ?_⟩;rintro⟨g,Ha,cur,h1,h2,h3,h4⟩;exact⟨g,Ha,cur,h1,h2,by rw[hb.block _ (Zlt h3)];exact h3,h4⟩
theorem own_turned{w w':World}{b base:Nat}{e:TypeId}{k n:Nat}{v:Value}{xs:List Value}(h:w.ownsRow base e k v n xs)(ht:Zcq w w' b)(hb:v.ownBlock≠some b):w'.ownsRow base e k v n xs:=by
 refine⟨h.1,h.2.imp id ?_⟩;rintro⟨g,Ha,cur,h1,h2,h3,h4⟩;refine⟨g,Ha,cur,h1,h2,?_,h4⟩;rw[ht.block (λe=>hb (by rw[h1];simp[Value.ownBlock,e]))];exact h3
theorem Tryz.infoInt:(Tryz.prog.info? 3).map (λi=>(i.zero,i.size,i.bytes))=some (some (.int .i64 0),1,8):=by kernel_rfl
theorem Zf5(w:World)(x:Value)(t:TypeId):∀j u,[x][j]?=some u->(w.alloc (.cells #[x] t)).cell? ((⟨w.heap.size,0,none⟩:Addr).add j)=some u:=by
 intro j u h;have e:(⟨w.heap.size,0,none⟩:Addr).add j=⟨w.heap.size,j,none⟩:=by unfold Addr.add;split<;>simp_all
 rw[e,World.cell?_alloc_new];simpa using h
theorem Zbr{w:World}{base:Nat}{e:TypeId}{k n:Nat}{v:Value}{xs:List Value}(h:w.ownsRow base e k v n xs)(hn:0<n):∃g Ha,v=.slice (some ⟨g,0,none⟩) n Ha/\n<=Ha/\Ha<=maxLen/\base<=g/\g<w.heap.size/\
  ∀j u,xs[j]?=some u->w.cell? ⟨g,j,none⟩=some u:=by
 rcases h.2 with ⟨_,h0⟩|⟨g,Ha,cur,h1,h2,h3,h4,h5,h6,h7⟩
 .omega
 subst h1;refine⟨g,Ha,rfl,h4,h5,h2,(Zlt h3),λj u hu=>?_⟩;have e:(⟨g,0,none⟩:Addr).add j=⟨g,j,none⟩:=by unfold Addr.add;split<;>simp_all
 rw[<- e];exact World.ownsRow.cells h rfl j u hu
theorem Zar{w:World}{base:Nat}{e:TypeId}{k n:Nat}{v:Value}{xs:List Value}(h:w.ownsRow base e k v n xs):∃a Ha,v=.slice a n Ha/\Ha<=maxLen/\n<=Ha:=by
 rcases h.2 with ⟨h1,h0⟩|⟨g,Ha,cur,h1,h2,h3,h4,h5,_⟩
 .exact⟨none,0,by rw[h1,h0],Nat.zero_le _,by omega⟩
 exact⟨_,Ha,h1,h5,h4⟩
theorem Zbi{P:Program}{w:World}{ops:Array Oper}{rest:List Oper}{o:Oper}{a:Act}{Q:Exit->Act->World->Prop}(hg:o.guard=none)(t u:TypeId)(x y:Operand)
  (yI:o.op=.call { callee:=.builtin .append,args := #[x,y],argTypes := #[t,u] }) (v1 v2:Value) (h1:a.eval x=v1) (h2:a.eval y=v2) (v:Value) (w':World)
  (Ht:∀ty,(Builtin.append_ #[t,u] ty #[v1,v2]).run P w=.ok v w') (hK:wpList P ops Q rest (a.put o.dst v) w'):wpList P ops Q (o :: rest) a w:=by
 refine wpList_plain hg λK' hK'=>?_;have hr:=Ht o.type;unfold Oper.wp;simp[execOp,yI,resolve,invoke,builtin,h1,h2,hr,Result.andThen];exact hK' _ _ hK
theorem Zbn{P:Program}{w:World}(t e:TypeId)(i:TypeInfo)(ht:P.underlying t=some (.slice e))(hi:P.info? e=some i){base k n:Nat}{v:Value}{xs:List Value}(Hb:w.ownsRow base e k v n xs)(A:Option Addr)(c:Nat)(ty:TypeId):
  (Builtin.append_ #[t,t] ty #[v,.slice A 0 c]).run P w=.ok v w:=by
 rcases Hb.2 with ⟨rfl,rfl⟩|⟨g,Ha,cur,rfl,hb,hg,hnc,Qv,J5,htake⟩
 .cases A<;>simp[Builtin.append_,run_underlying ht,sizeOf,typeInfo,hi,Builtin.lenOf,Builtin.firstCells,loadCells,loadCellsFrom,Result.andThen]
 cases A<;>simp[Builtin.append_,run_underlying ht,sizeOf,typeInfo,hi,Builtin.lenOf,Builtin.firstCells,loadCells,loadCellsFrom,Result.andThen,hnc,storeCells]
end Go.Proofs.YtafapnolamcdmaaGreatDoor
