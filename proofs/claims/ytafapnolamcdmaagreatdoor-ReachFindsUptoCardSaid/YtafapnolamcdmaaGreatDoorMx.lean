import Derived.Test.YtafapnolamcdmaaGreatDoorPk
set_option linter.all false
/- Plain data and functions of flat programs, as the program has them: no program in sight. -/
namespace Go.Proofs.YtafapnolamcdmaaGreatDoor.Mx
inductive Ex where
 |mk (op:ByteArray) (n:Int) (s:ByteArray) (l:List Ex)
def Ex.op:Ex->ByteArray|.mk o _ _ _=>o
def Ex.n:Ex->Int|.mk _ n _ _=>n
def Ex.s:Ex->ByteArray|.mk _ _ s _=>s
def Ex.l:Ex->List Ex|.mk _ _ _ l=>l
theorem Ex.ind{P:Ex->Prop}(h:∀o n s l,(∀e∈l,P e)->P (.mk o n s l)):∀e,P e:=by
 intro e;refine Ex.rec (motive_1:=P) (motive_2:=λl=>∀e∈l,P e) h ?_ ?_ e
 .intro e he;cases he
 intro a l ha hl e he;rcases List.mem_cons.1 he with rfl|he
 .exact ha
 exact hl e he
structure Vr where
 name:ByteArray
 kind:Int
structure Fl where
 name:ByteArray
 kind:Int
 e:Ex
structure Pr where
 ins:List Vr
 outs:List ByteArray
 fl:List Fl
 as:List Ex
 cs:List Ex
@[simp] abbrev Yq5(p:Pr)(ai ao al aa ac:Option Addr)(ci co cl ca cc:Nat):Array Value := #[.slice ai p.ins.length ci,.slice ao p.outs.length co,.slice al p.fl.length cl,.slice aa p.as.length ca,.slice ac p.cs.length cc]
abbrev oInt:ByteArray:=⟨#[105,110,116]⟩
abbrev Zc9:ByteArray:=⟨#[116,114,117,101]⟩
abbrev Zch:ByteArray:=⟨#[102,97,108,115,101]⟩
abbrev Zb2:ByteArray:=⟨#[110,97,109,101]⟩
abbrev oNot:ByteArray:=⟨#[110,111,116]⟩
abbrev oNeg:ByteArray:=⟨#[110,101,103]⟩
abbrev oPre:ByteArray:=⟨#[112,114,101]⟩
abbrev oIf:ByteArray:=⟨#[105,102]⟩
abbrev Zko:ByteArray:=⟨#[99,97,108,108]⟩
abbrev Zbk:ByteArray:=⟨#[45,62]⟩
abbrev oFby:ByteArray:=⟨#[102,98,121]⟩
abbrev oOr:ByteArray:=⟨#[111,114]⟩
abbrev oXor:ByteArray:=⟨#[120,111,114]⟩
abbrev oAnd:ByteArray:=⟨#[97,110,100]⟩
abbrev oEq:ByteArray:=⟨#[61]⟩
abbrev oNe:ByteArray:=⟨#[60,62]⟩
abbrev oLt:ByteArray:=⟨#[60]⟩
abbrev oLe:ByteArray:=⟨#[60,61]⟩
abbrev oGt:ByteArray:=⟨#[62]⟩
abbrev oGe:ByteArray:=⟨#[62,61]⟩
abbrev oImp:ByteArray:=⟨#[61,62]⟩
abbrev oAdd:ByteArray:=⟨#[43]⟩
abbrev oSub:ByteArray:=⟨#[45]⟩
abbrev oMul:ByteArray:=⟨#[42]⟩
abbrev oDiv:ByteArray:=⟨#[47]⟩
abbrev oMod:ByteArray:=⟨#[109,111,100]⟩
def levels:List (List ByteArray):=[[oOr,oXor],[oAnd],[oEq,oNe,oLt,oLe,oGt,oGe,oImp],[oAdd,oSub],[oMul,oDiv,oMod]]
def Zcx(o:ByteArray):Option Int:=
 if o=oInt\/o=Zc9\/o=Zch\/o=Zb2 then some 0
 else if o=oNot\/o=oNeg\/o=oPre then some 1
 else if o=oIf then some 3
 else if o=Zko then some (-1)
 else if o=Zbk\/o=oFby then some 2
 else if levels.any λl=>l.contains o then some 2 else none
def form(e:Ex):Bool:=
 match Zcx e.op with
 |none=>false
 |some k=>(decide (k<0) || decide (k=e.l.length))&&(decide (e.n=0) || decide (e.op=oInt)&&decide (0<e.n)&&decide (e.n<=127))&&(decide (e.s.size=0) || decide (e.op=Zb2) || decide (e.op=Zko))
mutual
def Ex.parts:Ex->Nat
 | .mk _ _ _ l=>1+Ex.partsL l
def Ex.partsL:List Ex->Nat
 | []=>0
 |e :: l=>e.parts+Ex.partsL l
end
mutual
def Ex.weight:Ex->Nat
 | .mk _ _ s l=>1+s.size+Ex.weightL l
def Ex.weightL:List Ex->Nat
 | []=>0
 |e :: l=>e.weight+Ex.weightL l
end
mutual
def Zad(ks:ByteArray->Option Int):Ex->Bool
 | .mk o n s l=>form (.mk o n s l)&&decide (o≠Zko)&&(decide (o≠Zb2) || (ks s).isSome)&&Zb4 ks l
def Zb4(ks:ByteArray->Option Int):List Ex->Bool
 | []=>true
 |e :: l=>Zad ks e&&Zb4 ks l
end
def Zct(o:ByteArray)(k:Int)(l:List Int):Int:=
 let same:=decide (0<l.length)&&decide (l.headD 0=l.getLastD 0)
 if o=oInt then 2
 else if o=Zc9\/o=Zch then 1
 else if o=Zb2 then k
 else if o=oIf then(if l.getD 0 0=1/\l.getD 1 0=l.getD 2 0 then l.getD 1 0 else 0)
 else if o=oPre\/o=Zbk\/o=oFby then(if same then l.headD 0 else 0)
 else if o=oEq\/o=oNe then(if same then 1 else 0)
 else if o=oLt\/o=oLe\/o=oGt\/o=oGe then(if same&&decide (l.headD 0=2) then 1 else 0)
 else if o=oNot\/o=oAnd\/o=oOr\/o=oXor\/o=oImp then(if same&&decide (l.headD 0=1) then 1 else 0)
 else if same&&decide (l.headD 0=2) then 2 else 0
mutual
def Zai(ks:ByteArray->Option Int):Ex->Int
 | .mk o _ s l=>let r:=Zap ks l;if r.contains 0 then 0 else Zct o ((ks s).getD 0) r
def Zap(ks:ByteArray->Option Int):List Ex->List Int
 | []=>[]
 |e :: l=>Zai ks e :: Zap ks l
end
end Go.Proofs.YtafapnolamcdmaaGreatDoor.Mx
namespace Go.Proofs.YtafapnolamcdmaaGreatDoor.Mx
theorem Zkk(a b:ByteArray):(a==b)=true↔a=b:=by
 obtain⟨x⟩:=a;obtain⟨y⟩:=b;constructor
 .intro h;have e:x=y:=by simpa using(show(x==y)=true from h)
  rw[e]
 intro h;cases h;show(x==x)=true;simp
instance:LawfulBEq ByteArray where
 eq_of_beq {a b} h:=(Zkk a b).1 h
 rfl {a}:=(Zkk a a).2 rfl
abbrev Env(α:Type):=ByteArray->Option α
def Env.none{α:Type}:Env α:=λ_ => .none
def Env.set{α:Type}(m:Env α)(k:ByteArray)(v:α):Env α:=λx=>if x=k then some v else m x
def Pr.terms(p:Pr):List Ex:=p.fl.map (·.e)++p.as++p.cs
def Pr.vars(p:Pr):List (ByteArray×Int):=p.ins.map (λv=>(v.name,v.kind))++p.fl.map (λf=>(f.name,f.kind))
def Pr.kinds(p:Pr):Env Int:=p.vars.foldl (λm x=>m.set x.1 x.2) Env.none
def Zao:Env Int->List (ByteArray×Int)->Option (Env Int)
 |m,[]=>some m
 |m,x :: r=>if (m x.1).isNone/\x.1.size≠0/\(x.2=1\/x.2=2) then Zao (m.set x.1 x.2) r else .none
def Zce(fl:List ByteArray):List ByteArray->List ByteArray->Bool
 |_,[]=>true
 |seen,s :: r=>fl.contains s && !seen.contains s&&Zce fl (seen++[s]) r
def Zdr(ks:Env Int):List Int->List Ex->Bool
 |_,[]=>true
 |k :: r,e :: l=>decide (Zai ks e=k)&&Zdr ks r l
 | [],e :: l=>decide (Zai ks e=1)&&Zdr ks [] l
def Zak(p:Pr):Nat:=
 match Zao Env.none p.vars with
 | .none=>3
 |some ks=>
  if !Zce (p.fl.map (·.name)) [] p.outs then 3
  else if !Zb4 ks p.terms then 3
  else if p.fl.length > 400\/Ex.partsL p.terms > 4000\/p.ins.length > 30 then 2
  else if !Zdr ks (p.fl.map (·.kind)) p.terms then 5 else 0
mutual
def needs(at_:Env Nat):Ex->List Nat
 | .mk o _ s l=>if o=oPre then [] else if o=oFby then Zgj at_ l else(if o=Zb2 then(at_ s).toList else [])++Zcy at_ l
def Zgj(at_:Env Nat):List Ex->List Nat
 | []=>[]
 |e :: _=>needs at_ e
def Zcy(at_:Env Nat):List Ex->List Nat
 | []=>[]
 |e :: l=>needs at_ e++Zcy at_ l
end
def Zef:Nat->Env Nat->List Fl->Env Nat
 |_,m,[]=>m
 |i,m,f :: l=>Zef (i+1) (m.set f.name i) l
def Pr.atOf(p:Pr):Env Nat:=Zef 0 Env.none p.fl
def Pr.graph(p:Pr):List (List Nat):=p.fl.map λf=>needs p.atOf f.e
def cycN(g:List (List Nat))(from_:Nat):Nat->List Nat->List Nat->Bool
 |0,_,_=>false
 |_+1,_,[]=>false
 |f+1,seen,k :: r=>
  if k=from_ then true
  else if seen.contains k then cycN g from_ f seen r
  else cycN g from_ f (k :: seen) ((g.getD k []).reverse++r)
def Zer(g:List (List Nat)):Nat:=1+2 * (g.map λl=>l.length+1).sum
def cyc(g:List (List Nat))(i:Nat):Bool:=cycN g i (Zer g) [] (g.getD i []).reverse
def pick(g:List (List Nat))(done:List Nat):Nat:=g.zipIdx.findIdx λx => !done.contains x.2&&x.1.all done.contains
def Zc7(g:List (List Nat)):Nat->List Nat->List Nat
 |0,out=>out
 |f+1,out=>Zc7 g f (out++[pick g out])
def Za5(p:Pr):Except (Nat×Int) (List Nat):=
 if Zak p≠0 then .error (Zak p, -1)
 else match (List.range p.graph.length).find? (cyc p.graph) with
  |some i => .error (6,i)
  | .none => .ok (Zc7 p.graph p.graph.length [])
mutual
def lateOf(late:ByteArray->Int):Ex->Int
 | .mk o _ s l=>
  let r:=Zau late l
  if o=Zb2 then late s
  else if o=oPre then min 2 (r.getD 0 0+1)
  else if o=Zbk\/o=oFby then
   (let b:=if o=oFby then min 2 (r.getD 1 0+1) else r.getD 1 0
    if b=2 then 2 else r.getD 0 0)
  else r.foldl max 0
def Zau(late:ByteArray->Int):List Ex->List Int
 | []=>[]
 |e :: l=>lateOf late e :: Zau late l
end
def setL(late:ByteArray->Int)(k:ByteArray)(n:Int):ByteArray->Int:=λx=>if x=k then n else late x
def Zat:List Fl->(ByteArray->Int)->Bool->(ByteArray->Int)×Bool
 | [],late,more=>(late,more)
 |f :: l,late,more=>if late f.name<lateOf late f.e then Zat l (setL late f.name (lateOf late f.e)) true else Zat l late more
def Zf3(l:List Fl):Nat->(ByteArray->Int)->ByteArray->Int
 |0,late=>late
 |f+1,late=>if (Zat l late false).2 then Zf3 l f (Zat l late false).1 else(Zat l late false).1
def Zac(p:Pr):ByteArray->Int:=Zf3 p.fl (2 * p.fl.length+1) λ_=>0
def Ze4(p:Pr):Except (Nat×Int) (List Int):=
 match Za5 p with
 | .error e => .error e
 | .ok _ => .ok (p.fl.map λf=>Zac p f.name)
def Za2(p:Pr):Nat×Int:=
 match Ze4 p with
 | .error e=>e
 | .ok l=>
  match l.zipIdx.find? λx=>decide (x.1=2) || decide (x.1=1)&&p.outs.contains ((p.fl.map (·.name)).getD x.2 ⟨#[]⟩) with
  |some x=>(7,x.2)
  | .none=>if (p.as++p.cs).any λe=>decide (0<lateOf (Zac p) e) then(7, -1) else(0, -1)
end Go.Proofs.YtafapnolamcdmaaGreatDoor.Mx
/- Plain data and functions of values and operators, as flow.Apply has them: no program in sight. -/
namespace Go.Proofs.YtafapnolamcdmaaGreatDoor.Mx
structure Vl where
 kind:Int
 n:Int
deriving DecidableEq
def vz:Vl:=⟨0,0⟩
def tv(b:Bool):Vl:=⟨1,if b then 1 else 0⟩
def Zdt(n:Int):Int:=if 128<=n % 256 then n % 256 - 256 else n % 256
def wv(n:Int):Vl:=⟨2,Zdt n⟩
def Zaq(v:Vl)(k:Int):Bool:=decide (v.kind=k)&&(if k=1 then decide (v.n=0) || decide (v.n=1) else decide (k=2)&&decide (-128<=v.n)&&decide (v.n<=127))
def isApp(o:ByteArray)(l:List Vl):Nat:=
 match Zcx o with
 | .none=>3
 |some k=>
  if k<1\/k≠l.length\/o=oPre\/o=Zbk\/o=oFby then 3
  else if !(l.all λv=>Zaq v v.kind) then 5
  else if Zct o 0 (l.map (·.kind))=0 then 5 else 0
def appM(o:ByteArray)(l:List Vl):Vl×Bool:=
 let a:=l.getD 0 vz
 let b:=l.getD 1 vz
 if o=oNot then(tv (decide (a.n=0)),false)
 else if o=oNeg then(wv (-a.n),false)
 else if o=oIf then(if a.n=1 then b else l.getD 2 vz,false)
 else if o=oEq then(tv (decide (a=b)),false)
 else if o=oNe then(tv (decide (a≠b)),false)
 else if o=oLt then(tv (decide (a.n<b.n)),false)
 else if o=oLe then(tv (decide (a.n<=b.n)),false)
 else if o=oGt then(tv (decide (b.n<a.n)),false)
 else if o=oGe then(tv (decide (b.n<=a.n)),false)
 else if o=oAnd then(tv (decide (a.n=1)&&decide (b.n=1)),false)
 else if o=oOr then(tv (decide (a.n=1) || decide (b.n=1)),false)
 else if o=oXor then(tv (decide (a.n=1) != decide (b.n=1)),false)
 else if o=oImp then(tv (!decide (a.n=1) || decide (b.n=1)),false)
 else if (o=oDiv\/o=oMod)/\b.n=0 then(vz,true)
 else if o=oAdd then(wv (a.n+b.n),false)
 else if o=oSub then(wv (a.n - b.n),false)
 else if o=oMul then(wv (a.n * b.n),false)
 else if o=oDiv then(wv (a.n.tdiv b.n),false)
 else(wv (a.n.tmod b.n),false)
theorem around_tmod(n:Int):(let m:=n.tmod 256;let m1:=if m<0 then m+256 else m;if 127<m1 then m1 - 256 else m1)=Zdt n:=by
 have h:=Int.tmod_eq_emod (a:=n) (b:=256);have h1:=Int.emod_nonneg n (show(256:Int)≠0 by decide);have h2:=Int.emod_lt_of_pos n (show(0:Int)<256 by decide);unfold Zdt;dsimp only;by_cases hc:0<=n\/(256:Int) ∣ n
 .rw [if_pos hc] at h;have h:n.tmod 256=n % 256:=by omega
  rw[h]
  split<;>split<;>split<;>omega
 rw[if_neg hc] at h;have h:n.tmod 256=n % 256 - 256:=by have e:((Int.natAbs 256:Nat):Int)=256:=rfl;omega
 have h3:n % 256≠0:=λe=>hc (.inr (Int.dvd_of_emod_eq_zero e));rw[h]
 split<;>split<;>split<;>omega
theorem mul_bound{a b:Int}(h1 : -128<=a)(h2:a<=127)(h3 : -128<=b)(h4:b<=127) : -16384<=a * b/\a * b<=16384:=by
 have:(a * b).natAbs<=128 * 128:=by
  rw[Int.natAbs_mul];exact Nat.mul_le_mul (by omega) (by omega)
 omega
theorem tdiv_bound{a b:Int}(h1 : -128<=a)(h2:a<=127) : -128<=a.tdiv b/\a.tdiv b<=128:=by
 have:(a.tdiv b).natAbs<=128:=by
  rw[Int.natAbs_tdiv];exact Nat.le_trans (Nat.div_le_self _ _) (by omega)
 omega
theorem tmod_bound{a b:Int}(h1 : -128<=a)(h2:a<=127) : -128<=a.tmod b/\a.tmod b<=128:=by
 have:(a.tmod b).natAbs<=128:=by
  rw[Int.natAbs_tmod];exact Nat.le_trans (Nat.mod_le _ _) (by omega)
 omega
theorem tmod_sub(a b:Int):a - a.tdiv b * b=a.tmod b:=by
 have:=Int.tmod_add_tdiv_mul a b;omega
end Go.Proofs.YtafapnolamcdmaaGreatDoor.Mx
/- flat.Check step by step: no program in sight. -/
namespace Go.Proofs.YtafapnolamcdmaaGreatDoor.Mx
def Zf4(m:Env Int)(s:ByteArray)(k:Int):Bool:=(m s).isNone&&decide (s.size≠0)&&(decide (k=1) || decide (k=2))
theorem Zhr(l r:List (ByteArray×Int)):∀m,Zao m (l++r)=(Zao m l).bind λm'=>Zao m' r:=by
 induction l with
 |nil=>intro m;rfl
 |cons x l ih=>
  intro m;simp only[List.cons_append,Zao]
  split
  .exact ih _
  rfl
theorem Zjt{l:List (ByteArray×Int)}{k:Nat}(h:k<l.length){m:Env Int}(hm:Zao Env.none (l.take k)=some m):
  Zao Env.none (l.take (k+1))=if Zf4 m l[k].1 l[k].2 then some (m.set l[k].1 l[k].2) else .none:=by
 rw[List.take_succ_eq_append_getElem h,Zhr,hm];simp only[Option.bind_some,Zao];have hc:Zf4 m l[k].1 l[k].2=true↔((m l[k].1).isNone=true/\l[k].1.size≠0/\(l[k].2=1\/l[k].2=2)):=by
  unfold Zf4;simp only[Bool.and_eq_true,decide_eq_true_eq,Bool.or_eq_true];exact⟨λh=>⟨h.1.1,h.1.2,h.2⟩,λh=>⟨⟨h.1,h.2.1⟩,h.2.2⟩⟩
 by_cases h1:Zf4 m l[k].1 l[k].2=true
 .rw [if_pos (hc.1 h1),if_pos h1]
 rw[if_neg (λe=>h1 (hc.2 e)),if_neg h1]
theorem Zju{l:List (ByteArray×Int)}{k:Nat}(hm:Zao Env.none (l.take k)=.none):Zao Env.none l=.none:=by
 rw[<- List.take_append_drop k l,Zhr,hm];rfl
def Zkm(l:List ByteArray):Env Bool:=λs=>if l.contains s then some true else .none
theorem setL1_nil:Zkm []=Env.none:=by funext s;simp[Zkm,Env.none]
theorem setL1_snoc(l:List ByteArray)(s:ByteArray):(Zkm l).set s true=Zkm (l++[s]):=by
 funext x
 unfold Zkm Env.set;by_cases h:x=s
 .subst h;simp
 simp[h]
theorem setL1_get(l:List ByteArray)(s:ByteArray):(Zkm l s).getD false=l.contains s:=by
 unfold Zkm;cases l.contains s<;>rfl
theorem outs_step(fl:List ByteArray):∀(outs seen:List ByteArray) (k:Nat) (h:k<outs.length),Zce fl (seen++outs.take k) (outs.drop k)=(fl.contains outs[k] && !(seen++outs.take k).contains outs[k]&&Zce fl (seen++outs.take (k+1)) (outs.drop (k+1))):=by
 intro outs seen k h;rw[List.drop_eq_getElem_cons h];simp only[Zce];rw[List.take_succ_eq_append_getElem h,List.append_assoc]
theorem Zbe(ks:Env Int):∀(l:List Ex),Zb4 ks l=true↔∀i (h:i<l.length),Zad ks l[i]=true
 | []=>by simp[Zb4]
 |e :: l=>by
  simp only[Zb4,Bool.and_eq_true];rw[Zbe ks l];constructor
  .rintro⟨h1,h2⟩ i hi;cases i with
   |zero=>exact h1
   |succ i=>exact h2 i (by simpa using hi)
  intro h;exact⟨h 0 (by simp),λi hi=>h (i+1) (by simpa using hi)⟩
theorem Zc4(ks:Env Int):∀(K:List Int) (l:List Ex),Zdr ks K l=true↔∀i (h:i<l.length),Zai ks l[i]=K.getD i 1
 |K,[]=>by cases K<;>simp[Zdr]
 | [],e :: l=>by
  simp only[Zdr,Bool.and_eq_true,decide_eq_true_eq];rw[Zc4 ks [] l];constructor
  .rintro⟨h1,h2⟩ i hi;cases i with
   |zero=>exact h1
   |succ i=>exact h2 i (by simpa using hi)
  intro h;exact⟨h 0 (by simp),λi hi=>h (i+1) (by simpa using hi)⟩
 |k :: K,e :: l=>by
  simp only[Zdr,Bool.and_eq_true,decide_eq_true_eq];rw[Zc4 ks K l];constructor
  .rintro⟨h1,h2⟩ i hi;cases i with
   |zero=>exact h1
   |succ i=>exact h2 i (by simpa using hi)
  intro h;exact⟨h 0 (by simp),λi hi=>h (i+1) (by simpa using hi)⟩
theorem Zgw(p:Pr):p.vars.length=p.ins.length+p.fl.length:=by simp[Pr.vars]
theorem vars_in(p:Pr)(k:Nat)(h:k<p.ins.length)(h':k<p.vars.length):p.vars[k]=(p.ins[k].name,p.ins[k].kind):=by
 simp only[Pr.vars];rw[List.getElem_append_left (by simpa using h)];simp
theorem vars_fl(p:Pr)(k:Nat)(h:k<p.fl.length)(h':p.ins.length+k<p.vars.length):p.vars[p.ins.length+k]=(p.fl[k].name,p.fl[k].kind):=by
 simp only[Pr.vars];rw[List.getElem_append_right (by simp)];simp
theorem Zjw{p:Pr}(h:Zao Env.none p.vars=.none):Zak p=3:=by unfold Zak;rw[h]
theorem Zfl{p:Pr}{ks:Env Int}(h:Zao Env.none p.vars=some ks)(h1:Zce (p.fl.map (·.name)) [] p.outs=false):Zak p=3:=by unfold Zak;rw[h];simp[h1]
theorem check_form{p:Pr}{ks:Env Int}(h:Zao Env.none p.vars=some ks)(h1:Zce (p.fl.map (·.name)) [] p.outs=true)(h2:Zb4 ks p.terms=false):Zak p=3:=by unfold Zak;rw[h];simp[h1,h2]
theorem Zi5{p:Pr}{ks:Env Int}(h:Zao Env.none p.vars=some ks)(h1:Zce (p.fl.map (·.name)) [] p.outs=true)(h2:Zb4 ks p.terms=true)(h3:p.fl.length > 400\/Ex.partsL p.terms > 4000\/p.ins.length > 30):Zak p=2:=by
 unfold Zak;rw[h];simp[h1,h2];intro a b;omega
theorem check_kind{p:Pr}{ks:Env Int}(h:Zao Env.none p.vars=some ks)(h1:Zce (p.fl.map (·.name)) [] p.outs=true)(h2:Zb4 ks p.terms=true)(h3:¬(p.fl.length > 400\/Ex.partsL p.terms > 4000\/p.ins.length > 30))(h4:Zdr ks (p.fl.map (·.kind)) p.terms=false):Zak p=5:=by
 unfold Zak;rw[h];simp only[h1,h2,h4,Bool.not_true,Bool.false_eq_true,if_false,Bool.not_false,if_true];rw[if_neg h3]
theorem check_ok{p:Pr}{ks:Env Int}(h:Zao Env.none p.vars=some ks)(h1:Zce (p.fl.map (·.name)) [] p.outs=true)(h2:Zb4 ks p.terms=true)(h3:¬(p.fl.length > 400\/Ex.partsL p.terms > 4000\/p.ins.length > 30))(h4:Zdr ks (p.fl.map (·.kind)) p.terms=true):Zak p=0:=by
 unfold Zak;rw[h];simp only[h1,h2,h4,Bool.not_true,Bool.false_eq_true,if_false];rw[if_neg h3]
end Go.Proofs.YtafapnolamcdmaaGreatDoor.Mx
/- Graphs: whoever needs itself; the search of order.cyclic finds it. No program in sight. -/
namespace Go.Proofs.YtafapnolamcdmaaGreatDoor.Mx
def edge(g:List (List Nat))(a b:Nat):Prop:=b∈g.getD a []
inductive Path(g:List (List Nat)):Nat->Nat->Prop
 |one {a b:Nat}:edge g a b->Path g a b
 |snoc {a b c:Nat}:Path g a b->edge g b c->Path g a c
theorem Path.trans{g:List (List Nat)}{a b c:Nat}(h:Path g a b)(k:Path g b c):Path g a c:=by
 induction k with
 |one e=>exact .snoc h e
 |snoc _ e ih=>exact .snoc ih e
def restL(g:List (List Nat))(seen:List Nat):List Nat->Nat
 | []=>0
 |k :: r=>(if seen.contains k then 0 else(g.getD k []).length+1)+restL g seen r
theorem Zje(g:List (List Nat))(seen:List Nat)(k:Nat):∀l,restL g (k :: seen) l<=restL g seen l
 | []=>Nat.le_refl _
 |x :: r=>by
  have:=Zje g seen k r;simp only[restL,List.contains_cons];cases seen.contains x<;>cases(x==k)<;>simp only[Bool.or_true,Bool.or_false,if_true,Bool.false_eq_true,if_false]<;>omega
theorem restL_lt(g:List (List Nat))(seen:List Nat)(k:Nat)(hs:seen.contains k=false):∀l,k∈l->restL g (k :: seen) l+((g.getD k []).length+1)<=restL g seen l
 | [],h=>by cases h
 |x :: r,h=>by
  have hm:=Zje g seen k r;simp only[restL,List.contains_cons];by_cases hx:x=k
  .subst hx;have h0:(x==x)=true:=by simp
   rw[hs,h0];simp;omega
  have hr:k∈r:=by
   rcases List.mem_cons.1 h with h|h
   .exact absurd h.symm hx
   exact h
  have ih:=restL_lt g seen k hs r hr;have h0:(x==k)=false:=by simpa using hx
  rw[h0];simp only[Bool.false_or];omega
def rest(g:List (List Nat))(seen:List Nat):Nat:=restL g seen (List.range g.length)
theorem cycN_spec(g:List (List Nat))(i:Nat):∀(f:Nat) (seen kA:List Nat),kA.length+rest g seen<f->(∀k∈kA,Path g i k)->
  (∀k∈seen,∀b,edge g k b->b∈seen\/b∈kA)->(∀b,edge g i b->b∈seen\/b∈kA)->i∉seen->(cycN g i f seen kA=true↔Path g i i)
 |0,_,_,h,_,_,_,_=>by omega
 |f+1,seen,[],_,_,hB,hC,hD=>by
  simp only[cycN];refine⟨λh=>by simp at h,λh=>?_⟩;have key:∀b,Path g i b->b∈seen:=by
   intro b hb
   induction hb with
   |one e=>
    rcases hC _ e with h|h
    .exact h
    cases h
   |snoc _ e ih=>
    rcases hB _ ih _ e with h|h
    .exact h
    cases h
  exact absurd (key i h) hD
 |f+1,seen,k :: r,h,hA,hB,hC,hD=>by
  simp only[cycN];by_cases hk:k=i
  .subst hk;rw[if_pos rfl];exact⟨λ_=>hA _ (List.mem_cons_self ..),λ_=>rfl⟩
  rw[if_neg hk];by_cases hs:seen.contains k=true
  .rw [if_pos hs];have hs':k∈seen:=by simpa using hs
   refine cycN_spec g i f seen r (by simp only[List.length_cons] at h;omega) (λx hx=>hA x (List.mem_cons_of_mem _ hx)) (λx hx b e=>?_) (λb e=>?_) hD
   .rcases hB x hx b e with h|h
    .exact .inl h
    rcases List.mem_cons.1 h with rfl|h
    .exact .inl hs'
    exact .inr h
   rcases hC b e with h|h
   .exact .inl h
   rcases List.mem_cons.1 h with rfl|h
   .exact .inl hs'
   exact .inr h
  rw[if_neg hs];have hs':seen.contains k=false:=by simpa using hs
  refine cycN_spec g i f (k :: seen) ((g.getD k []).reverse++r) ?_ ?_ ?_ ?_ ?_
  .simp only[List.length_cons,List.length_append,List.length_reverse] at h ⊢;by_cases Hr:k<g.length
   .have:=restL_lt g seen k hs' (List.range g.length) (List.mem_range.2 Hr);unfold rest at h ⊢;omega
   have h0:g.getD k []=[]:=by rw[Ygg,List.getElem?_eq_none (by omega)];rfl
   have:=Zje g seen k (List.range g.length);unfold rest at h ⊢;rw[h0];simp only[List.length_nil];omega
  .intro x hx;rcases List.mem_append.1 hx with hx|hx
   .exact .snoc (hA k (List.mem_cons_self ..)) (List.mem_reverse.1 hx)
   exact hA x (List.mem_cons_of_mem _ hx)
  .intro x hx b e;rcases List.mem_cons.1 hx with rfl|hx
   .exact .inr (List.mem_append_left _ (List.mem_reverse.2 e))
   rcases hB x hx b e with h|h
   .exact .inl (List.mem_cons_of_mem _ h)
   rcases List.mem_cons.1 h with rfl|h
   .exact .inl (List.mem_cons_self ..)
   exact .inr (List.mem_append_right _ h)
  .intro b e;rcases hC b e with h|h
   .exact .inl (List.mem_cons_of_mem _ h)
   rcases List.mem_cons.1 h with rfl|h
   .exact .inl (List.mem_cons_self ..)
   exact .inr (List.mem_append_right _ h)
  intro hi;rcases List.mem_cons.1 hi with h|h
  .exact hk h.symm
  exact hD h
theorem sum_range(g:List (List Nat)):restL g [] (List.range g.length)=(g.map λl=>l.length+1).sum:=by
 have key:∀(l:List (List Nat)) (a:Nat) (h:List (List Nat)),g=h++l->h.length=a->restL g [] (List.range' a l.length)=(l.map λl=>l.length+1).sum:=by
  intro l
  induction l with
  |nil=>intro a h _ _;rfl
  |cons x l ih=>
   intro a h hg ha;have:=ih (a+1) (h++[x]) (by rw[hg];simp) (by simp[ha]);simp only[List.length_cons,List.range'_succ,restL,List.map_cons,List.sum_cons];rw[this];have h0:g.getD a []=x:=by rw[hg,Ygg,List.getElem?_append_right (by omega),ha];simp
   rw[h0];simp
 rw[List.range_eq_range'];exact key g 0 [] rfl rfl
theorem Zjm(g:List (List Nat))(i:Nat):(g.getD i []).length<=(g.map λl=>l.length+1).sum:=by
 induction g generalizing i with
 |nil=>simp
 |cons x g ih=>
  cases i with
  |zero=>simp;omega
  |succ i=>have:=ih i;simp at this ⊢;omega
theorem cyc_iff(g:List (List Nat))(i:Nat):cyc g i=true↔Path g i i:=by
 unfold cyc;refine cycN_spec g i _ [] _ ?_ (λk hk => .one (List.mem_reverse.1 hk)) (λk hk=>by cases hk) (λb e => .inr (List.mem_reverse.2 e)) (by simp);have h1:=sum_range g;have h2:=Zjm g i;unfold Zer rest;rw[h1,List.length_reverse];omega
def iter(nx:Nat->Nat):Nat->Nat->Nat
 |0,i=>i
 |t+1,i=>nx (iter nx t i)
theorem pigeon:∀(n:Nat) (f:Nat->Nat),(∀i,i<=n->f i<n)->∃i j,i<j/\j<=n/\f i=f j
 |0,f,h=>by have:=h 0 Ylr;omega
 |n+1,f,h=>by
  by_cases hx:∃i,i<=n/\f i=f (n+1)
  .obtain⟨i,hi,e⟩:=hx;exact⟨i,n+1,by omega,Nat.le_refl _,e⟩
  have Hs:∀i,i<=n->f i≠f (n+1):=λi hi e=>hx ⟨i,hi,e⟩;obtain⟨i,j,hij,hj,e⟩:=pigeon n (λi=>if f i=n then f (n+1) else f i) (λi hi=>by
   have h1:=h i (by omega);have h2:=h (n+1) Ylr;have h3:=Hs i hi;show(if f i=n then f (n+1) else f i)<n
   split<;>omega)
  refine⟨i,j,hij,by omega,?_⟩;have h1:=Hs i (by omega);have h2:=Hs j hj;have e':(if f i=n then f (n+1) else f i)=(if f j=n then f (n+1) else f j):=e
  split at e'<;>split at e'<;>omega
end Go.Proofs.YtafapnolamcdmaaGreatDoor.Mx
namespace Go.Proofs.YtafapnolamcdmaaGreatDoor.Mx
theorem at_other(k:ByteArray):∀(l:List Fl) (i:Nat) (m:Env Nat),(∀f∈l,f.name≠k)->Zef i m l k=m k
 | [],_,_,_=>rfl
 |f :: l,i,m,h=>by
  simp only[Zef];rw[at_other k l (i+1) _ (λy hy=>h y (List.mem_cons_of_mem _ hy))];simp[Env.set,Ne.symm (h f (List.mem_cons_self ..))]
theorem at_get:∀(l:List Fl) (i:Nat) (m:Env Nat),(l.map (·.name)).Nodup->∀j (h:j<l.length),Zef i m l l[j].name=some (i+j)
 | [],_,_,_,j,h=>by simp at h
 |f :: l,i,m,hn,j,h=>by
  rw[List.map_cons,List.nodup_cons] at hn;simp only[Zef];cases j with
  |zero=>
   simp only[List.getElem_cons_zero];rw[at_other _ l (i+1) _ (λz hz e=>hn.1 (List.mem_map.2 ⟨z,hz,e⟩))];simp[Env.set]
  |succ j=>
   simp only[List.getElem_cons_succ];rw[at_get l (i+1) _ hn.2 j (by simpa using h)]
   congr 1;omega
def decB(n:Nat):ByteArray:=if n<10 then ⟨#[UInt8.ofNat (48+n)]⟩ else ⟨#[UInt8.ofNat (48+n / 10),UInt8.ofNat (48+n % 10)]⟩
def fnm(n:Nat):ByteArray:=⟨#[102]⟩++decB n
section
variable (nx : Nat -> Nat) (n : Nat)
def chFl(i:Nat):Fl:=⟨fnm i,1,.mk Zb2 0 (fnm (nx i)) []⟩
def chain:Pr:=⟨[],(List.range n).map fnm,(List.range n).map (chFl nx),[],[]⟩
variable {nx n}
end
end Go.Proofs.YtafapnolamcdmaaGreatDoor.Mx
namespace Go.Proofs.YtafapnolamcdmaaGreatDoor.Mx
def nxOf(l:List Int)(i:Nat):Nat:=(l.getD i 0 % (l.length:Int)).toNat
end Go.Proofs.YtafapnolamcdmaaGreatDoor.Mx
/- order.Names ends, and at what: no program in sight. -/
namespace Go.Proofs.YtafapnolamcdmaaGreatDoor.Mx
def mu(late:ByteArray->Int):List Fl->Nat
 | []=>0
 |f :: l=>(2 - late f.name).toNat+mu late l
theorem mu_le(late late':ByteArray->Int)(h:∀s,late s<=late' s):∀l,mu late' l<=mu late l
 | []=>Nat.le_refl _
 |f :: l=>by
  have:=mu_le late late' h l;have:=h f.name;simp only[mu];omega
theorem mu_lt(late late':ByteArray->Int)(h:∀s,late s<=late' s)(hb:∀s,late' s<=2):∀(l:List Fl) (f:Fl),f∈l->late f.name<late' f.name->mu late' l<mu late l
 | [],_,hf,_=>by cases hf
 |x :: l,f,hf,Hr=>by
  have h1:=mu_le late late' h l;have h2:=h x.name;have h3:=hb x.name;simp only[mu];rcases List.mem_cons.1 hf with rfl|hf
  .omega
  have:=mu_lt late late' h hb l f hf Hr;omega
theorem mu_zero:∀l:List Fl,mu (λ_=>0) l=2 * l.length
 | []=>rfl
 |f :: l=>by simp only[mu,mu_zero l,List.length_cons];omega
theorem namesRound_more(l:List Fl):∀late,(Zat l late true).2=true:=by
 induction l with
 |nil=>intro late;rfl
 |cons f l ih=>intro late;simp only[Zat];split<;>exact ih _
theorem Zh3(l:List Fl)(f:Nat)(late:ByteArray->Int):Zf3 l (f+1) late=if (Zat l late false).2 then Zf3 l f (Zat l late false).1 else(Zat l late false).1:=rfl
theorem drop_round{l:List Fl}{k:Nat}(h:k<l.length)(late:ByteArray->Int)(b:Bool):Zat (l.drop k) late b=if late l[k].name<lateOf late l[k].e then Zat (l.drop (k+1)) (setL late l[k].name (lateOf late l[k].e)) true else Zat (l.drop (k+1)) late b:=by
 rw[List.drop_eq_getElem_cons h];rfl
end Go.Proofs.YtafapnolamcdmaaGreatDoor.Mx
