set_option linter.all false
/- Plain data and functions of flat programs, as the program has them: no program in sight. -/
namespace Go.Proofs.YtofameafdnkijaaGreatDoor.Mx
inductive Ex where
 | mk (op:ByteArray) (n:Int) (s:ByteArray) (l:List Ex)
def Ex.op:Ex→ByteArray | .mk o _ _ _=>o
def Ex.n:Ex→Int | .mk _ n _ _=>n
def Ex.s:Ex→ByteArray | .mk _ _ s _=>s
def Ex.l:Ex→List Ex | .mk _ _ _ l=>l
theorem Ex.ind {P:Ex→Prop} (h:∀ o n s l,(∀ e∈l,P e)→P (.mk o n s l)):∀ e,P e:=by
 intro e
 refine Ex.rec (motive_1:=P) (motive_2:=fun l=>∀ e∈l,P e) h ?_ ?_ e
 ·intro e he;cases he
 intro a l ha hl e he
 rcases List.mem_cons.1 he with rfl | he
 ·exact ha
 exact hl e he
structure Vr where
 name:ByteArray
 kind:Int
structure Fl where
 name:ByteArray
 kind:Int
 e:Ex
structure Pr where
 ins:List Vr
 outs:List ByteArray
 fl:List Fl
 as:List Ex
 cs:List Ex
abbrev oInt:ByteArray:=⟨#[105,110,116]⟩
abbrev Zcn:ByteArray:=⟨#[116,114,117,101]⟩
abbrev Zb3:ByteArray:=⟨#[102,97,108,115,101]⟩
abbrev Zbg:ByteArray:=⟨#[110,97,109,101]⟩
abbrev oNot:ByteArray:=⟨#[110,111,116]⟩
abbrev oNeg:ByteArray:=⟨#[110,101,103]⟩
abbrev oPre:ByteArray:=⟨#[112,114,101]⟩
abbrev oIf:ByteArray:=⟨#[105,102]⟩
abbrev Zht:ByteArray:=⟨#[99,97,108,108]⟩
abbrev Zbq:ByteArray:=⟨#[45,62]⟩
abbrev oFby:ByteArray:=⟨#[102,98,121]⟩
abbrev oOr:ByteArray:=⟨#[111,114]⟩
abbrev oXor:ByteArray:=⟨#[120,111,114]⟩
abbrev oAnd:ByteArray:=⟨#[97,110,100]⟩
abbrev oEq:ByteArray:=⟨#[61]⟩
abbrev oNe:ByteArray:=⟨#[60,62]⟩
abbrev oLt:ByteArray:=⟨#[60]⟩
abbrev oLe:ByteArray:=⟨#[60,61]⟩
abbrev oGt:ByteArray:=⟨#[62]⟩
abbrev oGe:ByteArray:=⟨#[62,61]⟩
abbrev oImp:ByteArray:=⟨#[61,62]⟩
abbrev oAdd:ByteArray:=⟨#[43]⟩
abbrev oSub:ByteArray:=⟨#[45]⟩
abbrev oMul:ByteArray:=⟨#[42]⟩
abbrev oDiv:ByteArray:=⟨#[47]⟩
abbrev oMod:ByteArray:=⟨#[109,111,100]⟩
def levels:List (List ByteArray):=[[oOr,oXor],[oAnd],[oEq,oNe,oLt,oLe,oGt,oGe,oImp],[oAdd,oSub],[oMul,oDiv,oMod]]
def Zcv (o:ByteArray):Option Int:=
 if o=oInt∨o=Zcn∨o=Zb3∨o=Zbg then some 0
 else if o=oNot∨o=oNeg∨o=oPre then some 1
 else if o=oIf then some 3
 else if o=Zht then some (-1)
 else if o=Zbq∨o=oFby then some 2
 else if levels.any fun l=>l.contains o then some 2 else none
def form (e:Ex):Bool:=
 match Zcv e.op with
 | none=>false
 | some k=>(decide (k<0) || decide (k=e.l.length))&&(decide (e.n=0) || decide (e.op=oInt)&&decide (0<e.n)&&decide (e.n≤127))&&(decide (e.s.size=0) || decide (e.op=Zbg) || decide (e.op=Zht))
mutual
def Ex.parts:Ex→Nat
 | .mk _ _ _ l=>1+Ex.partsL l
def Ex.partsL:List Ex→Nat
 | []=>0
 | e :: l=>e.parts+Ex.partsL l
end
mutual
def Ex.weight:Ex→Nat
 | .mk _ _ s l=>1+s.size+Ex.weightL l
def Ex.weightL:List Ex→Nat
 | []=>0
 | e :: l=>e.weight+Ex.weightL l
end
mutual
def Zad (ks:ByteArray→Option Int):Ex→Bool
 | .mk o n s l=>form (.mk o n s l)&&decide (o≠Zht)&&(decide (o≠Zbg) || (ks s).isSome)&&Zck ks l
def Zck (ks:ByteArray→Option Int):List Ex→Bool
 | []=>true
 | e :: l=>Zad ks e&&Zck ks l
end
def Zci (o:ByteArray) (k:Int) (l:List Int):Int:=
 let same:=decide (0<l.length)&&decide (l.headD 0=l.getLastD 0)
 if o=oInt then 2
 else if o=Zcn∨o=Zb3 then 1
 else if o=Zbg then k
 else if o=oIf then (if l.getD 0 0=1∧l.getD 1 0=l.getD 2 0 then l.getD 1 0 else 0)
 else if o=oPre∨o=Zbq∨o=oFby then (if same then l.headD 0 else 0)
 else if o=oEq∨o=oNe then (if same then 1 else 0)
 else if o=oLt∨o=oLe∨o=oGt∨o=oGe then (if same&&decide (l.headD 0=2) then 1 else 0)
 else if o=oNot∨o=oAnd∨o=oOr∨o=oXor∨o=oImp then (if same&&decide (l.headD 0=1) then 1 else 0)
 else if same&&decide (l.headD 0=2) then 2 else 0
mutual
def Zam (ks:ByteArray→Option Int):Ex→Int
 | .mk o _ s l=>let r:=Zav ks l;if r.contains 0 then 0 else Zci o ((ks s).getD 0) r
def Zav (ks:ByteArray→Option Int):List Ex→List Int
 | []=>[]
 | e :: l=>Zam ks e :: Zav ks l
end
end Go.Proofs.YtofameafdnkijaaGreatDoor.Mx
namespace Go.Proofs.YtofameafdnkijaaGreatDoor.Mx
theorem Zjr (a b:ByteArray):(a==b)=true↔a=b:=by
 obtain⟨x⟩:=a
 obtain⟨y⟩:=b
 constructor
 ·intro h
  have e:x=y:=by simpa using (show (x==y)=true from h)
  rw [e]
 intro h
 cases h
 show (x==x)=true
 simp
instance:LawfulBEq ByteArray where
 eq_of_beq {a b} h:=(Zjr a b).1 h
 rfl {a}:=(Zjr a a).2 rfl
abbrev Env (α:Type):=ByteArray→Option α
def Env.none {α:Type}:Env α:=fun _ => .none
def Env.set {α:Type} (m:Env α) (k:ByteArray) (v:α):Env α:=fun x=>if x=k then some v else m x
def Pr.terms (p:Pr):List Ex:=p.fl.map (·.e)++p.as++p.cs
def Pr.vars (p:Pr):List (ByteArray×Int):=p.ins.map (fun v=>(v.name,v.kind))++p.fl.map (fun f=>(f.name,f.kind))
def Pr.kinds (p:Pr):Env Int:=p.vars.foldl (fun m x=>m.set x.1 x.2) Env.none
def Zas:Env Int→List (ByteArray×Int)→Option (Env Int)
 | m,[]=>some m
 | m,x :: r=>if (m x.1).isNone∧x.1.size≠0∧(x.2=1∨x.2=2) then Zas (m.set x.1 x.2) r else .none
def Zcy (fl:List ByteArray):List ByteArray→List ByteArray→Bool
 | _,[]=>true
 | seen,s :: r=>fl.contains s && !seen.contains s&&Zcy fl (seen++[s]) r
def Zda (ks:Env Int):List Int→List Ex→Bool
 | _,[]=>true
 | k :: r,e :: l=>decide (Zam ks e=k)&&Zda ks r l
 | [],e :: l=>decide (Zam ks e=1)&&Zda ks [] l
def Zak (p:Pr):Nat:=
 match Zas Env.none p.vars with
 | .none=>3
 | some ks=>
  if !Zcy (p.fl.map (·.name)) [] p.outs then 3
  else if !Zck ks p.terms then 3
  else if p.fl.length > 400∨Ex.partsL p.terms > 4000∨p.ins.length > 30 then 2
  else if !Zda ks (p.fl.map (·.kind)) p.terms then 5 else 0
mutual
def needs (at_:Env Nat):Ex→List Nat
 | .mk o _ s l=>if o=oPre then [] else if o=oFby then Zf2 at_ l else (if o=Zbg then (at_ s).toList else [])++Zco at_ l
def Zf2 (at_:Env Nat):List Ex→List Nat
 | []=>[]
 | e :: _=>needs at_ e
def Zco (at_:Env Nat):List Ex→List Nat
 | []=>[]
 | e :: l=>needs at_ e++Zco at_ l
end
def Zcs:Nat→Env Nat→List Fl→Env Nat
 | _,m,[]=>m
 | i,m,f :: l=>Zcs (i+1) (m.set f.name i) l
def Pr.atOf (p:Pr):Env Nat:=Zcs 0 Env.none p.fl
def Pr.graph (p:Pr):List (List Nat):=p.fl.map fun f=>needs p.atOf f.e
def cycN (g:List (List Nat)) (from_:Nat):Nat→List Nat→List Nat→Bool
 | 0,_,_=>false
 | _+1,_,[]=>false
 | f+1,seen,k :: r=>
  if k=from_ then true
  else if seen.contains k then cycN g from_ f seen r
  else cycN g from_ f (k :: seen) ((g.getD k []).reverse++r)
def Zer (g:List (List Nat)):Nat:=1+2 * (g.map fun l=>l.length+1).sum
def cyc (g:List (List Nat)) (i:Nat):Bool:=cycN g i (Zer g) [] (g.getD i []).reverse
def pick (g:List (List Nat)) (done:List Nat):Nat:=g.zipIdx.findIdx fun x => !done.contains x.2&&x.1.all done.contains
def Zdh (g:List (List Nat)):Nat→List Nat→List Nat
 | 0,out=>out
 | f+1,out=>Zdh g f (out++[pick g out])
def Zbu (p:Pr):Except (Nat×Int) (List Nat):=
 if Zak p≠0 then .error (Zak p, -1)
 else match (List.range p.graph.length).find? (cyc p.graph) with
  | some i => .error (6,i)
  | .none => .ok (Zdh p.graph p.graph.length [])
mutual
def Zac (late:ByteArray→Int):Ex→Int
 | .mk o _ s l=>
  let r:=Zan late l
  if o=Zbg then late s
  else if o=oPre then min 2 (r.getD 0 0+1)
  else if o=Zbq∨o=oFby then
   (let b:=if o=oFby then min 2 (r.getD 1 0+1) else r.getD 1 0
    if b=2 then 2 else r.getD 0 0)
  else r.foldl max 0
def Zan (late:ByteArray→Int):List Ex→List Int
 | []=>[]
 | e :: l=>Zac late e :: Zan late l
end
def setL (late:ByteArray→Int) (k:ByteArray) (n:Int):ByteArray→Int:=fun x=>if x=k then n else late x
def Zar:List Fl→(ByteArray→Int)→Bool→(ByteArray→Int)×Bool
 | [],late,more=>(late,more)
 | f :: l,late,more=>if late f.name<Zac late f.e then Zar l (setL late f.name (Zac late f.e)) true else Zar l late more
def Zf3 (l:List Fl):Nat→(ByteArray→Int)→ByteArray→Int
 | 0,late=>late
 | f+1,late=>if (Zar l late false).2 then Zf3 l f (Zar l late false).1 else (Zar l late false).1
def Zaa (p:Pr):ByteArray→Int:=Zf3 p.fl (2 * p.fl.length+1) fun _=>0
def Zeo (p:Pr):Except (Nat×Int) (List Int):=
 match Zbu p with
 | .error e => .error e
 | .ok _ => .ok (p.fl.map fun f=>Zaa p f.name)
def Za0 (p:Pr):Nat×Int:=
 match Zeo p with
 | .error e=>e
 | .ok l=>
  match l.zipIdx.find? fun x=>decide (x.1=2) || decide (x.1=1)&&p.outs.contains ((p.fl.map (·.name)).getD x.2 ⟨#[]⟩) with
  | some x=>(7,x.2)
  | .none=>if (p.as++p.cs).any fun e=>decide (0<Zac (Zaa p) e) then (7, -1) else (0, -1)
end Go.Proofs.YtofameafdnkijaaGreatDoor.Mx
