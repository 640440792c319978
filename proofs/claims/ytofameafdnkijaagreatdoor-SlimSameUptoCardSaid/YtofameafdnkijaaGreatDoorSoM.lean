/- Plain: SlimIs: the reference's SameOf, in place and one after the other, is Zdb: no program in sight. -/
import Derived.Test.YtofameafdnkijaaGreatDoorSmM
import Derived.Test.YtofameafdnkijaaGreatDoorBs
import Derived.Test.YtofameafdnkijaaGreatDoorOiP
import Derived.Test.YtofameafdnkijaaGreatDoorRg
import Derived.Test.YtofameafdnkijaaGreatDoorDrM
import Derived.Test.YtofameafdnkijaaGreatDoorRunC
import Derived.Test.YtofameafdnkijaaGreatDoorSm2
import Derived.Test.YtofameafdnkijaaGreatDoorLateA
import Derived.Test.YtofameafdnkijaaGreatDoorCpM
set_option linter.all false
namespace Go.Proofs.YtofameafdnkijaaGreatDoor
set_option maxRecDepth 100000
set_option maxHeartbeats 16000000
open Mx
def one1 (a b:ByteArray):Env ByteArray:=Env.none.set a b
theorem renE_comp3 {a b c:Env ByteArray} (h:∀ o s,rnS a o (rnS b o s)=rnS c o s):∀ e:Ex,renE a (renE b e)=renE c e:=by
 refine Ex.ind fun o n s l ih=>?_
 have hs:=h o s
 unfold rnS renS at hs
 simp only [renE]
 rw [Zbv,Zbv,Zbv,List.map_map]
 congr 1
 exact List.map_congr_left fun e he=>ih e he
theorem one_comp {ot:Env ByteArray} {f g:ByteArray} (hf:ot f=none) (hr:∀ s t,ot s=some t→t≠f) (o s:ByteArray):rnS (one1 f g) o (rnS ot o s)=rnS (ot.set f g) o s:=by
 unfold rnS renS one1
 split
 ·cases h:ot s with
  | none=>
   rw [Option.getD_none]
   by_cases hs:s=f
   ·rw [hs,Env.set_self,Env.set_self]
   rw [Env.set_other _ _ hs,Env.set_other _ _ hs,h]
   rfl
  | some t=>
   have hs:s≠f:=fun e=>by rw [e,hf] at h;cases h
   rw [Option.getD_some,Env.set_other _ _ (hr s t h),Env.set_other _ _ hs,h]
   rfl
 rfl
def Zf5 (outs:List ByteArray):Nat→List Fl→List Fl→List Ex→List Ex→List Fl×List Ex×List Ex
 | 0,done,rest,az,cs=>(done++rest,az,cs)
 | _+1,done,[],az,cs=>(done,az,cs)
 | k+1,done,x :: rest,az,cs=>
  match done.find? (fun g=>Zcf x.e g.e) with
  | some g=>if Zax x.e=false∧x.name∉outs then Zf5 outs k (done.map (renF (one1 x.name g.name))) (rest.map (renF (one1 x.name g.name))) (az.map (renE (one1 x.name g.name))) (cs.map (renE (one1 x.name g.name))) else Zf5 outs k (done++[x]) rest az cs
  | none=>Zf5 outs k (done++[x]) rest az cs
theorem sameR_go {outs:List ByteArray}:∀ (r:List Fl) (ot:Env ByteArray) (ko:List Fl) (az cs:List Ex),SgI ot r ko→∀ k,r.length≤k→
  Zf5 outs k (ko.map (renF ot)) (r.map (renF ot)) (az.map (renE ot)) (cs.map (renE ot))=
   ((Zcd outs r ot ko).2.map (renF (Zcd outs r ot ko).1),az.map (renE (Zcd outs r ot ko).1),cs.map (renE (Zcd outs r ot ko).1))
 | [],ot,ko,az,cs,hI,k,hk=>by
  cases k with
  | zero=>simp [Zf5,Zcd]
  | succ k=>simp [Zf5,Zcd]
 | f :: r,ot,ko,az,cs,hI,k,hk=>by
  cases k with
  | zero=>simp at hk
  | succ k=>
  have hk':r.length≤k:=by simpa using hk
  have keep:Zf5 outs k (ko.map (renF ot)++[renF ot f]) (r.map (renF ot)) (az.map (renE ot)) (cs.map (renE ot))=((Zcd outs r ot (ko++[f])).2.map (renF (Zcd outs r ot (ko++[f])).1),az.map (renE (Zcd outs r ot (ko++[f])).1),cs.map (renE (Zcd outs r ot (ko++[f])).1)):=by
   have h:=sameR_go (outs:=outs) r ot (ko++[f]) az cs hI.keep k hk'
   rw [List.map_append] at h
   exact h
  rw [List.map_cons]
  unfold Zf5 Zcd
  rw [List.find?_map]
  have hfun:((fun g:Fl=>Zcf (renF ot f).e g.e) ∘ renF ot)=fun g=>Zcf (renE ot f.e) (renE ot g.e):=rfl
  rw [hfun]
  cases hg:ko.find? (fun g=>Zcf (renE ot f.e) (renE ot g.e)) with
  | none=>exact keep
  | some g=>
   dsimp only [Option.map_some]
   by_cases hc:Zax (renE ot f.e)=false∧f.name∉outs
   ·rw [if_pos (show Zax (renF ot f).e=false∧(renF ot f).name∉outs from hc),if_pos hc]
    obtain⟨h1,h2⟩:=hI.fresh
    have hE:∀ e,renE (one1 f.name g.name) (renE ot e)=renE (ot.set f.name g.name) e:=renE_comp3 (one_comp h1 h2)
    have hF:∀ l:List Fl,(l.map (renF ot)).map (renF (one1 f.name g.name))=l.map (renF (ot.set f.name g.name)):=fun l=>by
     rw [List.map_map]
     refine List.map_congr_left fun x _=>?_
     show (⟨x.name,x.kind,renE _ (renE ot x.e)⟩:Fl)=⟨x.name,x.kind,renE _ x.e⟩
     rw [hE]
    have hX:∀ l:List Ex,(l.map (renE ot)).map (renE (one1 f.name g.name))=l.map (renE (ot.set f.name g.name)):=fun l=>by
     rw [List.map_map]
     exact List.map_congr_left fun x _=>hE x
    have h:=sameR_go (outs:=outs) r (ot.set f.name g.name) ko az cs (hI.set (List.mem_of_find?_eq_some hg)) k hk'
    rw [← hF ko,← hF r,← hX az,← hX cs] at h
    exact h
   rw [if_neg (show ¬ (Zax (renF ot f).e=false∧(renF ot f).name∉outs) from hc),if_neg hc]
   exact keep
theorem sameR_is {p:Pr} (hn:(p.fl.map (·.name)).Nodup):∀ k,p.fl.length≤k→Zf5 p.outs k [] p.fl p.as p.cs=((Zdb p).fl,(Zdb p).as,(Zdb p).cs):=fun k hk=>by
 have hI:SgI Env.none p.fl []:=⟨fun s t e=>by simp [Env.none] at e,hn,fun _ _=>⟨rfl,by simp⟩,fun s t e=>by simp [Env.none] at e,(fun g hg=>by cases hg),(by simp)⟩
 have hE:∀ e:Ex,renE Env.none e=e:=by
  refine Ex.ind fun o n s l ih=>?_
  simp only [renE]
  rw [Zbv,List.map_congr_left (g:=id) (fun e he=>ih e he),List.map_id]
  simp [Env.none]
 have hF:∀ l:List Fl,l.map (renF Env.none)=l:=fun l=>by
  rw [List.map_congr_left (g:=id) (fun x _=>by show (⟨x.name,x.kind,renE _ x.e⟩:Fl)=x;rw [hE]),List.map_id]
 have hX:∀ l:List Ex,l.map (renE Env.none)=l:=fun l=>by
  rw [List.map_congr_left (g:=id) (fun x _=>hE x),List.map_id]
 have h:=sameR_go (outs:=p.outs) p.fl Env.none [] p.as p.cs hI k hk
 rw [hF,hX,hX,hF] at h
 rw [h,(same_is2 hn).1]
def Za3:Ex→Option Vl
 | .mk o n _ l=>
  if o=oInt then some ⟨2,n⟩
  else if o=Zcn∨o=Zb3 then some (tv (decide (o=Zcn)))
  else if o=oNeg then (match l with
   | .mk o' n' _ _ :: _=>if o'=oInt then some ⟨2, -n'⟩ else none
   | []=>none)
  else none
def Zbw (v:Vl):Option Ex:=
 if v.kind=1∧v.n=1 then some (.mk Zcn 0 ⟨#[]⟩ [])
 else if v.kind=1 then some (.mk Zb3 0 ⟨#[]⟩ [])
 else if 0≤v.n then some (.mk oInt v.n ⟨#[]⟩ [])
 else if -127≤v.n then some (.mk oNeg 0 ⟨#[]⟩ [.mk oInt (-v.n) ⟨#[]⟩ []]) else none
def Zb5 (lt:ByteArray→Int) (o:ByteArray) (n:Int) (s:ByteArray) (l0 l:List Ex):Ex:=
 let d:Ex := .mk o n s l
 let rest:Ex:=
  if (l.all fun e=>(Za3 e).isSome)=true∧l≠[] then
   (if Zdo o (l.map fun e=>(Za3 e).getD vz)=0∧(appM o (l.map fun e=>(Za3 e).getD vz)).2=false then (Zbw (appM o (l.map fun e=>(Za3 e).getD vz)).1).getD d else d)
  else d
 if o=oIf then
  match Za3 (l.getD 0 d) with
  | some v=>
   let part:=if v.n=0 then 2 else 1
   let other:=if v.n=0 then 1 else 2
   if Zax (l.getD other d)=false∧Zac lt (l0.getD other d)≤Zac lt (l0.getD part d) then l.getD part d else rest
  | none=>rest
 else rest
mutual
def Za6 (lt:ByteArray→Int):Ex→Ex
 | .mk o n s l=>Zb5 lt o n s l (foldL lt l)
def foldL (lt:ByteArray→Int):List Ex→List Ex
 | []=>[]
 | e :: l=>Za6 lt e :: foldL lt l
end
theorem Zij (lt:ByteArray→Int):∀ l:List Ex,foldL lt l=l.map (Za6 lt)
 | []=>rfl
 | e :: l=>by rw [foldL,Zij lt l];rfl
structure Zho (ks:Env Int) (e d:Ex):Prop where
 form:Zad ks d=true
 kind:Zam ks d=Zam ks e
 parts:d.parts≤e.parts
 names:∀ s∈Za7 d,s∈Za7 e
theorem Ziw {ks:Env Int} {e:Ex} (hf:Zad ks e=true) (hk:Zam ks e≠0) {v:Vl} (h:Za3 e=some v):v.kind=Zam ks e:=by
 obtain⟨o,n,s,l⟩:=e
 obtain⟨hkb,hkp⟩:=Zg5 hk
 rw [hkb] at hk ⊢
 simp only [Za3] at h
 by_cases e1:o=oInt
 ·subst e1
  rw [if_pos rfl] at h
  cases h
  rfl
 rw [if_neg e1] at h
 by_cases e2:o=Zcn∨o=Zb3
 ·rw [if_pos e2] at h
  cases h
  unfold Zci
  rw [if_neg e1,if_pos e2]
  rfl
 rw [if_neg e2] at h
 by_cases e3:o=oNeg
 ·subst e3
  rw [if_pos rfl] at h
  split at h
  ·split at h
   ·cases h
    have e:∀ K,Zci oNeg ((ks s).getD 0) K=(if (decide (0<K.length)&&decide (K.headD 0=K.getLastD 0)&&decide (K.headD 0=2))=true then 2 else 0):=fun _=>rfl
    rw [e] at hk ⊢
    split
    ·rfl
    rename_i hc;rw [if_neg hc] at hk;exact absurd rfl hk
   cases h
  cases h
 rw [if_neg e3] at h
 cases h
theorem Zhh {ks:Env Int} {v:Vl} {k:Int} (hv:Zba v k=true) {x:Ex} (h:Zbw v=some x):Zad ks x=true∧Zam ks x=k∧x.parts≤2∧Za7 x=[]:=by
 obtain⟨h1,h2⟩:=Zis hv
 unfold Zbw at h
 rw [h1] at h
 have hfo:∀ o,(o=Zcn∨o=Zb3)→Zad ks (.mk o 0 ⟨#[]⟩ [])=true∧Zam ks (.mk o 0 ⟨#[]⟩ [])=1∧(Ex.mk o 0 ⟨#[]⟩ []).parts≤2∧Za7 (.mk o 0 ⟨#[]⟩ [])=[]:=by
  intro o ho
  rcases ho with rfl | rfl
  ·exact⟨rfl,rfl,by decide,rfl⟩
  exact⟨rfl,rfl,by decide,rfl⟩
 have hint:∀ n:Int,0≤n→n≤127→Zad ks (.mk oInt n ⟨#[]⟩ [])=true:=fun n n1 n2=>by
  have h:(decide (n=0) || decide (oInt=oInt)&&decide (0<n)&&decide (n≤127))=true:=by
   by_cases h0:n=0
   ·simp [h0]
   have:0<n:=by omega
   simp [this,n2]
  show ((true&&(decide (n=0) || decide (oInt=oInt)&&decide (0<n)&&decide (n≤127))&&true)&&true&&true&&true)=true
  rw [h]
  rfl
 rcases h2 with rfl | rfl
 ·by_cases e:v.n=1
  ·rw [if_pos ⟨rfl,e⟩] at h
   cases h
   exact hfo _ (.inl rfl)
  rw [if_neg (fun h=>e h.2),if_pos rfl] at h
  cases h
  exact hfo _ (.inr rfl)
 rw [if_neg (fun h=>by cases h.1),if_neg (by decide)] at h
 have hr : -128≤v.n∧v.n≤127:=by
  unfold Zba at hv
  simp only [Bool.and_eq_true,decide_eq_true_eq] at hv
  have:=hv.2
  rw [if_neg (by decide)] at this
  simpa using this
 split at h
 ·cases h
  exact⟨hint _ (by assumption) hr.2,rfl,by simp [Ex.parts,Ex.partsL],rfl⟩
 split at h
 ·cases h
  have h3:=hint (-v.n) (by omega) (by omega)
  refine⟨?_,rfl,by simp [Ex.parts,Ex.partsL],rfl⟩
  show (form (.mk oNeg 0 ⟨#[]⟩ [.mk oInt (-v.n) ⟨#[]⟩ []])&&decide (oNeg≠Zht)&&(decide (oNeg≠Zbg) || (ks ⟨#[]⟩).isSome)&&(Zad ks (.mk oInt (-v.n) ⟨#[]⟩ [])&&Zck ks []))=true
  rw [h3]
  rfl
 cases h
theorem Zfl {f:Ex→Ex}:∀ {l:List Ex},(∀ e∈l,(f e).parts≤e.parts)→Ex.partsL (l.map f)≤Ex.partsL l
 | [],_=>Nat.le_refl _
 | e :: l,h=>by
  have h1:=h e (List.mem_cons_self ..)
  have h2:=Zfl (l:=l) fun x hx=>h x (List.mem_cons_of_mem _ hx)
  simp only [List.map_cons,Ex.partsL]
  omega
theorem Zhz {ks:Env Int} (lt:ByteArray→Int):∀ e:Ex,Zad ks e=true→Zam ks e≠0→Zho ks e (Za6 lt e):=by
 refine Ex.ind fun o n s l ih hf hk=>?_
 obtain⟨hkb,hkp⟩:=Zg5 hk
 obtain⟨hsub,_,_,_,hif⟩:=Zaz hf
 have hS:∀ e∈l,Zho ks e (Za6 lt e):=fun e he=>ih e he (hsub e he) (hkp e he)
 have hkl:Zav ks (l.map (Za6 lt))=Zav ks l:=by
  rw [Zbr,Zbr,List.map_map]
  exact List.map_congr_left fun e he=>(hS e he).kind
 have hkL:∀ e∈l.map (Za6 lt),Zam ks e≠0:=fun e he=>by
  obtain⟨e',he',rfl⟩:=List.mem_map.1 he
  rw [(hS e' he').kind];exact hkp e' he'
 have hfL:∀ e∈l.map (Za6 lt),Zad ks e=true:=fun e he=>by
  obtain⟨e',he',rfl⟩:=List.mem_map.1 he
  exact (hS e' he').form
 have hform:form (.mk o n s l)=true∧o≠Zht∧(o≠Zbg∨(ks s).isSome=true):=by
  simp only [Zad,Bool.and_eq_true,Bool.or_eq_true,decide_eq_true_eq] at hf
  exact⟨hf.1.1.1,hf.1.1.2,hf.1.2⟩
 have hform2:form (.mk o n s (l.map (Za6 lt)))=true:=by
  have h1:=hform.1
  unfold form at h1 ⊢
  simp only [Ex.op,Ex.n,Ex.s,Ex.l] at h1 ⊢
  cases ha:Zcv o with
  | none=>rw [ha] at h1;cases h1
  | some k=>
   rw [ha] at h1
   simp only [Bool.and_eq_true,Bool.or_eq_true,decide_eq_true_eq] at h1 ⊢
   refine⟨⟨?_,h1.1.2⟩,h1.2⟩
   rcases h1.1.1 with h2 | h2
   ·exact .inl h2
   right
   have h3:k=((l.length:Nat):Int):=of_decide_eq_true h2
   exact decide_eq_true (by show k=(((l.map (Za6 lt)).length:Nat):Int);rw [List.length_map];exact h3)
 have hpl:=Zfl (f:=Za6 lt) (l:=l) fun e he=>(hS e he).parts
 -- the term with folded parts
 have hD:Zho ks (.mk o n s l) (.mk o n s (l.map (Za6 lt))):=by
  refine⟨?_,?_,?_,fun t ht=>?_⟩
  ·simp only [Zad,Bool.and_eq_true,Bool.or_eq_true,decide_eq_true_eq]
   exact⟨⟨⟨hform2,hform.2.1⟩,hform.2.2⟩,(Zcj ks _).2 hfL⟩
  ·simp only [Zam]
   rw [hkl]
  ·simp only [Ex.parts]
   omega
  simp only [Za7,List.mem_append] at ht ⊢
  rcases ht with ht | ht
  ·exact .inl ht
  obtain⟨e,he,hs⟩:=Zg4 ht
  obtain⟨e',he',rfl⟩:=List.mem_map.1 he
  exact .inr (Zb7 he' ((hS e' he').names t hs))
 -- a part of it
 have hP:∀ i,(h:i<l.length)→Zam ks l[i]=Zam ks (.mk o n s l)→Zho ks (.mk o n s l) ((l.map (Za6 lt)).getD i (.mk o n s (l.map (Za6 lt)))):=fun i hi hki=>by
  have e:(l.map (Za6 lt)).getD i (.mk o n s (l.map (Za6 lt)))=Za6 lt l[i]:=by simp [List.getD_eq_getElem?_getD,hi]
  rw [e]
  have h1:=hS _ (List.getElem_mem hi)
  refine⟨h1.form,h1.kind.trans hki,?_,fun t ht=>by simp only [Za7,List.mem_append];exact .inr (Zb7 (List.getElem_mem hi) (h1.names t ht))⟩
  have:=Za5 l i hi
  have:=h1.parts
  simp only [Ex.parts]
  omega
 -- an operator of literals
 have hR:∀ x,(l.map (Za6 lt)).all (fun e=>(Za3 e).isSome)=true→l.map (Za6 lt)≠[]→Zdo o ((l.map (Za6 lt)).map fun e=>(Za3 e).getD vz)=0→(appM o ((l.map (Za6 lt)).map fun e=>(Za3 e).getD vz)).2=false→
   Zbw (appM o ((l.map (Za6 lt)).map fun e=>(Za3 e).getD vz)).1=some x→Zho ks (.mk o n s l) x:=fun x ha hne hap htr hx=>by
  have hkv:((l.map (Za6 lt)).map fun e=>(Za3 e).getD vz).map (·.kind)=Zav ks l:=by
   rw [← hkl,Zbr,List.map_map]
   refine List.map_congr_left fun e he=>?_
   have h1:=List.all_eq_true.1 ha e he
   cases hp:Za3 e with
   | none=>rw [hp] at h1;cases h1
   | some v=>
    show ((Za3 e).getD vz).kind=_
    rw [hp,Option.getD_some]
    exact Ziw (hfL e he) (hkL e he) hp
  generalize hvs:((l.map (Za6 lt)).map fun e=>(Za3 e).getD vz)=vs at *
  unfold Zdo at hap
  cases har:Zcv o with
  | none=>rw [har] at hap;cases hap
  | some k=>
   rw [har] at hap
   dsimp only at hap
   split at hap
   ·cases hap
   rename_i hc
   split at hap
   ·cases hap
   rename_i hall
   split at hap
   ·cases hap
   rename_i hkk
   have hc:¬ k<1∧¬ k≠vs.length∧o≠oPre∧o≠Zbq∧o≠oFby:=by
    simp only [not_or] at hc
    exact hc
   have hvr:∀ v∈vs,Zba v v.kind=true:=by
    have:=hall
    simp only [Bool.not_eq_true',Bool.not_eq_false,List.all_eq_true] at this
    exact this
   have hno:o≠oInt∧o≠Zcn∧o≠Zb3∧o≠Zbg:=by
    refine⟨fun e=>?_,fun e=>?_,fun e=>?_,fun e=>?_⟩<;>(subst e;cases har;exact hc.1 (by decide))
   have hr:=app_right (k:=0) (arity_ops har) ⟨hno.1,hno.2.1,hno.2.2.1,hno.2.2.2,hc.2.2.1,hc.2.2.2.1,hc.2.2.2.2,hform.2.1⟩ hvr hkk
   rw [if_neg (by rw [htr];decide),hkv] at hr
   obtain⟨x1,x2,x3,x4⟩:=Zhh (ks:=ks) hr hx
   refine⟨x1,?_,?_,fun t ht=>by rw [x4] at ht;cases ht⟩
   ·rw [x2,hkb]
    unfold Zci
    simp only [if_neg hno.2.2.2]
   have hl:1≤l.length:=by
    cases l with
    | nil=>simp at hne
    | cons _ _=>simp
   have:=Zcb l
   simp only [Ex.parts]
   omega
 show Zho ks (.mk o n s l) (Zb5 lt o n s l (foldL lt l))
 rw [Zij]
 unfold Zb5
 dsimp only
 have hrest:Zho ks (.mk o n s l) (if ((l.map (Za6 lt)).all fun e=>(Za3 e).isSome)=true∧l.map (Za6 lt)≠[] then
   (if Zdo o ((l.map (Za6 lt)).map fun e=>(Za3 e).getD vz)=0∧(appM o ((l.map (Za6 lt)).map fun e=>(Za3 e).getD vz)).2=false then (Zbw (appM o ((l.map (Za6 lt)).map fun e=>(Za3 e).getD vz)).1).getD (.mk o n s (l.map (Za6 lt))) else .mk o n s (l.map (Za6 lt)))
  else .mk o n s (l.map (Za6 lt))):=by
  split
  ·rename_i h1
   split
   ·rename_i h2
    cases h3:Zbw (appM o ((l.map (Za6 lt)).map fun e=>(Za3 e).getD vz)).1 with
    | none=>exact hD
    | some x=>exact hR x h1.1 h1.2 h2.1 h2.2 h3
   exact hD
  exact hD
 by_cases ho:o=oIf
 ·rw [if_pos ho]
  split
  ·rename_i v hv
   have hl3:=hif ho
   have hk1:Zam ks (l[1]'(by omega))=Zam ks (.mk o n s l)∧Zam ks (l[2]'(by omega))=Zam ks (.mk o n s l):=by
    rw [hkb] at hk ⊢
    subst ho
    have e:Zci oIf ((ks s).getD 0) (Zav ks l)=(if (Zav ks l).getD 0 0=1∧(Zav ks l).getD 1 0=(Zav ks l).getD 2 0 then (Zav ks l).getD 1 0 else 0):=rfl
    rw [e] at hk ⊢
    split
    ·rename_i hc
     have g1:(Zav ks l).getD 1 0=Zam ks (l[1]'(by omega)):=by simp [Zbr,List.getD_eq_getElem?_getD,show 1<l.length from by omega]
     have g2:(Zav ks l).getD 2 0=Zam ks (l[2]'(by omega)):=by simp [Zbr,List.getD_eq_getElem?_getD,show 2<l.length from by omega]
     exact⟨g1.symm,by rw [hc.2];exact g2.symm⟩
    rename_i hc;rw [if_neg hc] at hk;exact absurd rfl hk
   by_cases hv0:v.n=0
   ·simp only [if_pos hv0]
    split
    ·exact hP 2 (by omega) hk1.2
    exact hrest
   simp only [if_neg hv0]
   split
   ·exact hP 1 (by omega) hk1.1
   exact hrest
  exact hrest
 rw [if_neg ho]
 exact hrest
def Zcc (p:Pr):Pr:=⟨p.ins,p.outs,p.fl.map fun f=>{ f with e:=Za6 (Zaa p) f.e },p.as.map (Za6 (Zaa p)),p.cs.map (Za6 (Zaa p))⟩
theorem fold_check {p:Pr} (hck:Zak p=0):Zak (Zcc p)=0∧(Zcc p).fl.length=p.fl.length:=by
 obtain⟨ks,hks,_,hfm,_,_,_,hk⟩:=Zbs hck
 have ht:=Ze2 hck hks
 unfold Pr.terms at hk
 rw [List.append_assoc,Zd0] at hk
 have hst:∀ e∈p.terms,Zho ks e (Za6 (Zaa p) e):=fun e he=>Zhz (Zaa p) e (ht e he).1 (ht e he).2
 have hterms:(Zcc p).terms=p.terms.map (Za6 (Zaa p)):=by
  unfold Pr.terms Zcc
  simp only [List.map_append,List.map_map]
  rfl
 have hnm:(Zcc p).fl.map (·.name)=p.fl.map (·.name):=by
  unfold Zcc
  rw [List.map_map];rfl
 refine⟨check_of hck hks rfl rfl ?_ (fun s _ h=>by rw [hnm];exact h) (fun e he=>?_) (fun f hf=>?_) (fun e he=>?_) ?_,by unfold Zcc;simp⟩
 ·unfold Zcc
  rw [List.map_map]
  exact List.Sublist.refl _
 ·rw [hterms] at he
  obtain⟨e',he',rfl⟩:=List.mem_map.1 he
  exact⟨(hst e' he').form,fun s _ h=>by rw [hnm];exact h⟩
 ·unfold Zcc at hf
  obtain⟨f',hf',rfl⟩:=List.mem_map.1 hf
  show Zam ks (Za6 (Zaa p) f'.e)=f'.kind
  rw [(hst f'.e (Zcg p hf')).kind]
  exact hk.1 f' hf'
 ·have he2:e∈(p.as++p.cs).map (Za6 (Zaa p)):=by rw [List.map_append];exact he
  obtain⟨e',he',rfl⟩:=List.mem_map.1 he2
  rw [(hst e' (by unfold Pr.terms;rw [List.append_assoc];exact List.mem_append_right _ he')).kind]
  exact hk.2 e' he'
 rw [hterms]
 exact Zfl fun e he=>(hst e he).parts
open Go.RowKit Mx
theorem mPln1 {p:Prop} (h:p:=by
 go_enter Tryz.func85,Tryz.ntmps85
 go_wp2_with fail
 refine bodyPost_ret (v := .tuple #[.agg #[.int .i64 0,.int .i64 0],.bool false]) (by simp [results,Tryz.results85,go_sem]) rfl ?_
 exact⟨rfl,((Below.refl _ _).alloc (Nat.le_refl _) _).alloc (by simp) _⟩):p:=h
theorem wrap64_of {n:Int} (h1 : -9223372036854775808≤n) (h2:n≤9223372036854775807):IntKind.wrap .i64 n=n:=by
 rw [wrap64]
 split<;>omega
def PlOk (e:Ex):Prop:=(e.op=oNeg→e.l≠[])∧∀ x∈e.l,x.op=oInt→0≤x.n∧x.n≤127
theorem PlOk.of {ks:Env Int} {e:Ex} (h:Zad ks e=true):PlOk e:=by
 obtain⟨o,n,s,l⟩:=e
 have h0:=h
 simp only [Zad,Bool.and_eq_true] at h
 rw [Zcj] at h
 refine⟨fun ho hl=>?_,fun x hx ho=>?_⟩
 ·have h1:=h.1.1.1
  simp only [Ex.op,Ex.l] at ho hl
  subst ho
  subst hl
  revert h1
  unfold form
  simp only [Ex.op,Ex.n,Ex.s,Ex.l]
  have:Zcv oNeg=some 1:=by kernel_rfl
  rw [this]
  simp
 have h2:=h.2 x hx
 obtain⟨o',n',s',l'⟩:=x
 simp only [Ex.op,Ex.n] at ho ⊢
 subst ho
 simp only [Zad,Bool.and_eq_true] at h2
 exact form_int h2.1.1.1
theorem plain_any (e:Ex) (hok:PlOk e) (H:Kn) (v:Value) (hv:ExV H e v) (w:World) (hH:H.In w):
  Calls Tryz.prog 85 #[v] w fun r w'=>r = .returned (.tuple #[vlV ((Za3 e).getD vz),.bool (Za3 e).isSome])∧Below w.heap.size w w':=by
 obtain⟨o,n,s,l⟩:=e
 obtain⟨u,rfl,hu⟩:=hv
 obtain⟨hok1,hok2⟩:=hok
 simp only [Ex.op,Ex.n,Ex.s,Ex.l] at hu hok1 ⊢
 have hok2:∀ x∈l,x.op=oInt→0≤x.n∧x.n≤127:=hok2
 obtain⟨a,c,rfl⟩:=hu.len
 have hb:Below w.heap.size w ((w.alloc (.cells #[.string o,.int .i64 n,.string s,.slice a l.length c] 69)).alloc (.cells #[.int .i64 0,.int .i64 0] 137)):=((Below.refl _ _).alloc (Nat.le_refl _) _).alloc (by simp) _
 have HB:=Zhd hb
 have hR:((w.alloc (.cells #[.string o,.int .i64 n,.string s,.slice a l.length c] 69)).alloc (.cells #[.int .i64 0,.int .i64 0] 137)).heap[w.heap.size+1]?=some (.cells #[.int .i64 0,.int .i64 0] 137 (0,0)):=by
  rw [show w.heap.size+1=(w.alloc (.cells #[.string o,.int .i64 n,.string s,.slice a l.length c] 69)).heap.size from by simp];exact heap_alloc_new _ _
 have hP:((w.alloc (.cells #[.string o,.int .i64 n,.string s,.slice a l.length c] 69)).alloc (.cells #[.int .i64 0,.int .i64 0] 137)).heap[w.heap.size]?=some (.cells #[.string o,.int .i64 n,.string s,.slice a l.length c] 69 (0,0)):=by
  rw [Below.heap_alloc _ _ _ (by simp)];exact heap_alloc_new _ _
 obtain⟨b0,b1,b2,b3,_⟩:=Zag hP
 obtain⟨r0,r1,f0,f1,_⟩:=Zay hR
 have HR:=Zhd hR
 have HU:=Zhd hu
 have HH:=Zhd (hH.below hb)
 clear hb hR hP hu
 have put:∀ (W:World) (p q x y:Value),W.heap[w.heap.size+1]?=some (.cells #[p,q] 137 (0,0))→((W.setCell ⟨w.heap.size+1,0,none⟩ x).setCell ⟨w.heap.size+1,1,none⟩ y).heap[w.heap.size+1]?=some (.cells #[x,y] 137 (0,0)):=fun W p q x y h=>
  Zab _ (w.heap.size+1) 1 y _ _ _ (Zab W (w.heap.size+1) 0 x _ _ _ h)
 have PUT:=Zhd put
 clear put
 rcases Bool.eq_false_or_eq_true (o.toList==[105,110,116]) with p1 | p1
 ·have hr:Za3 (.mk o n s l)=some ⟨2,n⟩:=by rw [Zjg p1];rfl
  rw [hr]
  have HW:=Zhd (PUT.out _ _ _ (.int .i64 2) (.int .i64 n) HR.out)
  go_enter Tryz.func85,Tryz.ntmps85
  go_wp2_with fail
  refine bodyPost_ret (v := .tuple #[.agg #[.int .i64 2,.int .i64 n],.bool true]) (by simp [results,Tryz.results85,go_sem]) rfl ?_
  exact⟨rfl,((Below.refl _ _).alloc (Nat.le_refl _) _).alloc (by simp) _⟩
 have n1:o≠oInt:=fun e=>by rw [e] at p1;exact Bool.noConfusion ((show (oInt.toList==[105,110,116])=true from by kernel_rfl).symm.trans p1)
 rcases Bool.eq_false_or_eq_true (o.toList==[116,114,117,101]) with p2 | p2
 ·have hr:Za3 (.mk o n s l)=some (tv true):=by rw [Zjg p2];rfl
  rw [hr]
  go_enter Tryz.func85,Tryz.ntmps85
  go_wp2_with fail
  refine (Zdk true _).mono ?_
  rintro r w2 ⟨rfl,hb2⟩
  have HB2:=Zhd (HB.out.trans (hb2.mono HB.out.size))
  have h2:=(hb2.block (w.heap.size+1) (Zlt HR.out)).trans HR.out
  obtain⟨r0,r1,f0,f1,_⟩:=Zay h2
  have HW:=Zhd (PUT.out _ _ _ (.int .i64 (tv true).kind) (.int .i64 (tv true).n) h2)
  clear hb2 h2
  go_wp2_with fail
  obtain⟨e0,e1,_⟩:=Zay HW.out
  refine bodyPost_ret (v := .tuple #[.agg #[.int .i64 (tv true).kind,.int .i64 (tv true).n],.bool true]) (by simp [results,Tryz.results85,go_sem,e0,e1]) rfl ?_
  exact⟨rfl,Zby HB2.out (by omega) _ _⟩
 have n2:o≠Zcn:=fun e=>by rw [e] at p2;exact Bool.noConfusion ((show (Zcn.toList==[116,114,117,101])=true from by kernel_rfl).symm.trans p2)
 rcases Bool.eq_false_or_eq_true (o.toList==[102,97,108,115,101]) with p3 | p3
 ·have hr:Za3 (.mk o n s l)=some (tv false):=by rw [Zjg p3];rfl
  rw [hr]
  go_enter Tryz.func85,Tryz.ntmps85
  go_wp2_with fail
  refine (Zdk false _).mono ?_
  rintro r w2 ⟨rfl,hb2⟩
  have HB2:=Zhd (HB.out.trans (hb2.mono HB.out.size))
  have h2:=(hb2.block (w.heap.size+1) (Zlt HR.out)).trans HR.out
  obtain⟨r0,r1,f0,f1,_⟩:=Zay h2
  have HW:=Zhd (PUT.out _ _ _ (.int .i64 (tv false).kind) (.int .i64 (tv false).n) h2)
  clear hb2 h2
  go_wp2_with fail
  obtain⟨e0,e1,_⟩:=Zay HW.out
  refine bodyPost_ret (v := .tuple #[.agg #[.int .i64 (tv false).kind,.int .i64 (tv false).n],.bool true]) (by simp [results,Tryz.results85,go_sem,e0,e1]) rfl ?_
  exact⟨rfl,Zby HB2.out (by omega) _ _⟩
 have n3:o≠Zb3:=fun e=>by rw [e] at p3;exact Bool.noConfusion ((show (Zb3.toList==[102,97,108,115,101])=true from by kernel_rfl).symm.trans p3)
 have HW0:=Zhd (PUT.out _ _ _ (.int .i64 0) (.int .i64 0) HR.out)
 rcases Bool.eq_false_or_eq_true (o.toList==[110,101,103]) with p4 | p4
 ·have ho:o=oNeg:=Zjg p4
  have hne:=hok1 ho
  obtain⟨x,l',rfl⟩:∃ x l',l=x :: l':=by cases l with | nil=>exact absurd rfl hne | cons x l'=>exact⟨x,l',rfl⟩
  obtain⟨b,off,ax,cx,rfl,d0,d1,d2,d3,hx⟩:=ExsV.at HU.out (i:=0) (by simp)
  simp only [List.getElem_cons_zero,Nat.zero_mul,Nat.add_zero] at d0 d1 d2 d3
  have hxn:=hok2 x (List.mem_cons_self ..)
  have hr:Za3 (.mk o n s (x :: l'))=if x.op=oInt then some ⟨2, -x.n⟩ else none:=by
   rw [ho]
   obtain⟨o',n',s',l''⟩:=x
   rfl
  rw [hr]
  have d0:=hH.cell d0
  have d1:=hH.cell d1
  have hbl:b<w.heap.size:=World.block_lt_of_cell? w _ d0
  clear hr hx hok1 hok2 hne
  rcases Bool.eq_false_or_eq_true (x.op.toList==[105,110,116]) with p5 | p5
  ·have hxo:=Zjg p5
   obtain⟨g1,g2⟩:=hxn hxo
   rw [if_pos hxo]
   have hw:IntKind.wrap .i64 (-x.n) = -x.n:=wrap64_of (by omega) (by omega)
   have HW:=Zhd (PUT.out _ _ _ (.int .i64 2) (.int .i64 (-x.n)) HR.out)
   clear hxo hxn
   go_enter Tryz.func85,Tryz.ntmps85
   go_wp2_with fail
   refine bodyPost_ret (v := .tuple #[.agg #[.int .i64 2,.int .i64 (-x.n)],.bool true]) (by simp [results,Tryz.results85,go_sem]) rfl ?_
   exact⟨rfl,((Below.refl _ _).alloc (Nat.le_refl _) _).alloc (by simp) _⟩
  rw [if_neg (fun e=>by rw [e] at p5;exact Bool.noConfusion ((show (oInt.toList==[105,110,116])=true from by kernel_rfl).symm.trans p5))]
  have HW:=HW0
  clear hxn
  exact mPln1
 have n4:o≠oNeg:=fun e=>by rw [e] at p4;exact Bool.noConfusion ((show (oNeg.toList==[110,101,103])=true from by kernel_rfl).symm.trans p4)
 have hr:Za3 (.mk o n s l)=none:=by
  simp only [Za3]
  rw [if_neg n1,if_neg (by simp [n2,n3]),if_neg n4]
 rw [hr]
 have HW:=HW0
 clear n1 n2 n3 n4
 exact mPln1
theorem far4' {w:World} {b g p q r s:Nat} (hb:b≠g) (x y z u:Value):((((w.setCell ⟨g,p,none⟩ x).setCell ⟨g,q,none⟩ y).setCell ⟨g,r,none⟩ z).setCell ⟨g,s,none⟩ u).heap[b]?=w.heap[b]?:=by
 rw [Below.heap_setCell _ ⟨g,s,none⟩ _ b hb,Below.heap_setCell _ ⟨g,r,none⟩ _ b hb,Below.heap_setCell _ ⟨g,q,none⟩ _ b hb,Below.heap_setCell _ ⟨g,p,none⟩ _ b hb]
def litX (v:Vl):Ex:=(Zbw v).getD (.mk oNeg 0 ⟨#[]⟩ [.mk oInt (-v.n) ⟨#[]⟩ []])
theorem exV_leaf (K:Kn) (o:ByteArray) (n:Int) (s:ByteArray):ExV K (.mk o n s []) (.agg #[.string o,.int .i64 n,.string s,.slice none 0 0]):=⟨_,rfl,.inl ⟨rfl,none,0,rfl⟩⟩
theorem literal_any (v:Vl) (hv : -128≤v.n∧v.n≤127) (w:World):
  Calls Tryz.prog 87 #[vlV v] w fun r w'=>∃ u,r = .returned (.tuple #[u,.bool (Zbw v).isSome])∧ExV (newU w.heap.size w') (litX v) u∧Below w.heap.size w w':=by
 obtain⟨vk,vn⟩:=v
 obtain⟨g1,g2⟩:=hv
 dsimp only at g1 g2
 by_cases k1:vk=1
 ·subst k1
  by_cases n1:vn=1
  ·subst n1
   have hl:Zbw ⟨1,1⟩=some (.mk Zcn 0 ⟨#[]⟩ []):=rfl
   unfold litX
   rw [hl]
   unfold vlV
   go_enter Tryz.func87,Tryz.ntmps87
   go_wp2_with fail
   refine bodyPost_ret (v := .tuple #[.agg #[.string Zcn,.int .i64 0,.string ⟨#[]⟩,.slice none 0 0],.bool true]) (by simp [results,Tryz.results87,go_sem]) rfl ?_
   exact⟨_,rfl,exV_leaf _ _ _ _,((Below.refl _ _).alloc (Nat.le_refl _) _).alloc (by simp) _⟩
  have hl:Zbw ⟨1,vn⟩=some (.mk Zb3 0 ⟨#[]⟩ []):=by unfold Zbw;rw [if_neg (fun h=>n1 h.2),if_pos rfl]
  unfold litX
  rw [hl]
  unfold vlV
  clear hl
  go_enter Tryz.func87,Tryz.ntmps87
  go_wp2_with fail
  refine bodyPost_ret (v := .tuple #[.agg #[.string Zb3,.int .i64 0,.string ⟨#[]⟩,.slice none 0 0],.bool true]) (by simp [results,Tryz.results87,go_sem]) rfl ?_
  exact⟨_,rfl,exV_leaf _ _ _ _,((Below.refl _ _).alloc (Nat.le_refl _) _).alloc (by simp) _⟩
 by_cases n0:0≤vn
 ·have hl:Zbw ⟨vk,vn⟩=some (.mk oInt vn ⟨#[]⟩ []):=by unfold Zbw;rw [if_neg (fun h=>k1 h.1),if_neg k1,if_pos n0]
  unfold litX
  rw [hl]
  unfold vlV
  clear hl
  go_enter Tryz.func87,Tryz.ntmps87
  go_wp2_with fail
  refine bodyPost_ret (v := .tuple #[.agg #[.string oInt,.int .i64 vn,.string ⟨#[]⟩,.slice none 0 0],.bool true]) (by simp [results,Tryz.results87,go_sem]) rfl ?_
  exact⟨_,rfl,exV_leaf _ _ _ _,((Below.refl _ _).alloc (Nat.le_refl _) _).alloc (by simp) _⟩
 have hl:(Zbw ⟨vk,vn⟩).isSome=decide (-127≤vn)∧litX ⟨vk,vn⟩ = .mk oNeg 0 ⟨#[]⟩ [.mk oInt (-vn) ⟨#[]⟩ []]:=by
  unfold litX Zbw
  rw [if_neg (fun h=>k1 h.1),if_neg k1,if_neg n0]
  by_cases h : -127≤vn<;>simp [h]
 rw [hl.1,hl.2]
 unfold vlV
 have hw:IntKind.wrap .i64 (-vn) = -vn:=wrap64_of (by omega) (by omega)
 have hB0:((w.alloc (.cells #[.int .i64 vk,.int .i64 vn] 137)).alloc (.cells #[.string ⟨#[]⟩,.int .i64 0,.string ⟨#[]⟩,.slice none 0 0] 69)).heap[w.heap.size]?=some (.cells #[.int .i64 vk,.int .i64 vn] 137 (0,0)):=by
  rw [Below.heap_alloc _ _ _ (by simp)];exact heap_alloc_new _ _
 have hR0:((w.alloc (.cells #[.int .i64 vk,.int .i64 vn] 137)).alloc (.cells #[.string ⟨#[]⟩,.int .i64 0,.string ⟨#[]⟩,.slice none 0 0] 69)).heap[w.heap.size+1]?=some (.cells #[.string ⟨#[]⟩,.int .i64 0,.string ⟨#[]⟩,.slice none 0 0] 69 (0,0)):=by
  rw [show w.heap.size+1=(w.alloc (.cells #[.int .i64 vk,.int .i64 vn] 137)).heap.size from by simp];exact heap_alloc_new _ _
 have hb0:Below w.heap.size w ((w.alloc (.cells #[.int .i64 vk,.int .i64 vn] 137)).alloc (.cells #[.string ⟨#[]⟩,.int .i64 0,.string ⟨#[]⟩,.slice none 0 0] 69)):=((Below.refl _ _).alloc (Nat.le_refl _) _).alloc (by simp) _
 have hz0:((w.alloc (.cells #[.int .i64 vk,.int .i64 vn] 137)).alloc (.cells #[.string ⟨#[]⟩,.int .i64 0,.string ⟨#[]⟩,.slice none 0 0] 69)).heap.size=w.heap.size+1+1:=by simp
 clear hl
 go_enter Tryz.func87,Tryz.ntmps87
 go_wp2_with fail
 generalize (w.alloc (.cells #[.int .i64 vk,.int .i64 vn] 137)).alloc (.cells #[.string ⟨#[]⟩,.int .i64 0,.string ⟨#[]⟩,.slice none 0 0] 69)=W0 at *
 have b0:W0.drew.cell? ⟨w.heap.size,0,none⟩=some (.int .i64 vk):=(Zay hB0).1
 have b1:W0.drew.cell? ⟨w.heap.size,1,none⟩=some (.int .i64 vn):=(Zay hB0).2.1
 have hlt0:w.heap.size+1<W0.drew.heap.size:=by show w.heap.size+1<W0.heap.size;omega
 have hrA:=fun ob=>(Below.heap_alloc W0.drew ob (w.heap.size+1) hlt0).trans (show W0.drew.heap[w.heap.size+1]?=_ from hR0)
 have hbA:=fun ob=>(Below.heap_alloc W0.drew ob w.heap.size (by omega)).trans (show W0.drew.heap[w.heap.size]?=_ from hB0)
 have b1A:=fun ob=>(Zay (hbA ob)).2.1
 have b1B:∀ ob x y z u,(((((W0.drew.alloc ob).setCell ⟨w.heap.size+1,0,none⟩ x).setCell ⟨w.heap.size+1,1,none⟩ y).setCell ⟨w.heap.size+1,2,none⟩ z).setCell ⟨w.heap.size+1,3,none⟩ u).cell? ⟨w.heap.size,1,none⟩=some (.int .i64 vn):=fun ob x y z u=>by
  have h:=(far4' (w:=W0.drew.alloc ob) (b:=w.heap.size) (g:=w.heap.size+1) (p:=0) (q:=1) (r:=2) (s:=3) (by omega) x y z u).trans (hbA ob)
  exact (Zay h).2.1
 have r0:=fun ob=>(Zag (hrA ob)).1
 have r1:=fun ob=>(Zag (hrA ob)).2.1
 have r2:=fun ob=>(Zag (hrA ob)).2.2.1
 have r3:=fun ob=>(Zag (hrA ob)).2.2.2.1
 have f0:=fun ob=>(Zag (hrA ob)).2.2.2.2.1
 have f1:=fun ob=>(Zag (hrA ob)).2.2.2.2.2.1
 have f2:=fun ob=>(Zag (hrA ob)).2.2.2.2.2.2.1
 have f3:=fun ob=>(Zag (hrA ob)).2.2.2.2.2.2.2.1
 have b0':W0.cell? ⟨w.heap.size,0,none⟩=some (.int .i64 vk):=(Zay hB0).1
 have b1':W0.cell? ⟨w.heap.size,1,none⟩=some (.int .i64 vn):=(Zay hB0).2.1
 obtain⟨r0',r1',r2',r3',f0',f1',f2',f3',_⟩:=Zag hR0
 have hltW:w.heap.size+1<W0.heap.size:=by omega
 have hltV:w.heap.size<W0.heap.size:=by omega
 obtain⟨W1,hW1⟩:∃ W1,W1=(((W0.setCell ⟨w.heap.size+1,0,none⟩ (.string oNeg)).setCell ⟨w.heap.size+1,1,none⟩ (.int .i64 0)).setCell ⟨w.heap.size+1,2,none⟩ (.string ⟨#[]⟩)).setCell ⟨w.heap.size+1,3,none⟩ (.slice (some ⟨w.heap.size+1+1,0,none⟩) 1 1):=⟨_,rfl⟩
 have h4:=Zdx hR0 (.string oNeg) (.int .i64 0) (.string ⟨#[]⟩) (.slice (some ⟨w.heap.size+1+1,0,none⟩) 1 1)
 rw [← hW1] at h4
 have hz4:W1.heap.size=w.heap.size+1+1:=by rw [hW1];simpa [World.setCell] using hz0
 have hb4:Below w.heap.size w W1:=by
  rw [hW1]
  exact (((hb0.setCell (p:=⟨w.heap.size+1,0,none⟩) (Nat.le_succ _) _).setCell (p:=⟨w.heap.size+1,1,none⟩) (Nat.le_succ _) _).setCell (p:=⟨w.heap.size+1,2,none⟩) (Nat.le_succ _) _).setCell (p:=⟨w.heap.size+1,3,none⟩) (Nat.le_succ _) _
 obtain⟨k0,k1',k2,k3,_⟩:=Zag h4
 have hlt4:w.heap.size+1<W1.heap.size:=by omega
 have hnew:=heap_alloc_new W1 (.cells #[.string oInt,.int .i64 (-vn),.string ⟨#[]⟩,.slice none 0 0] 69)
 rw [hz4] at hnew
 have HB4:=Zhd (show Below w.heap.size w (W1.alloc (.cells #[.string oInt,.int .i64 (-vn),.string ⟨#[]⟩,.slice none 0 0] 69)).drew from (hb4.alloc hb4.size _).drew)
 have HX4:=Zhd (show ExV (newU w.heap.size (W1.alloc (.cells #[.string oInt,.int .i64 (-vn),.string ⟨#[]⟩,.slice none 0 0] 69)).drew) (.mk oNeg 0 ⟨#[]⟩ [.mk oInt (-vn) ⟨#[]⟩ []]) (.agg #[.string oNeg,.int .i64 0,.string ⟨#[]⟩,.slice (some ⟨w.heap.size+1+1,0,none⟩) 1 1]) from by
  refine⟨_,rfl,.inr ⟨w.heap.size+1+1,0,1,rfl,by simp [Ex.l],by unfold maxLen;omega,?_⟩⟩
  have hk:=newU_of (n:=w.heap.size) (w:=(W1.alloc (.cells #[.string oInt,.int .i64 (-vn),.string ⟨#[]⟩,.slice none 0 0] 69)).drew) (b:=w.heap.size+1+1) (by omega) hnew ⟨_,_,rfl⟩
  simp only [Ex.l,Zcw]
  refine⟨ExAt.mk (u := .slice none 0 0) ?_ ?_ ?_ ?_ (.inl ⟨rfl,none,0,rfl⟩),trivial⟩<;>(unfold Kn.cell;rw [hk];rfl))
 go_region_law (fail)
 all_goals try simp only [Act.put,List.getElem_toArray,List.getElem_cons_succ,List.getElem_cons_zero,List.setIfInBounds_toArray,List.set_cons_succ,List.set_cons_zero]
 all_goals go_wp2_with fail
 all_goals rw [← hW1]
 all_goals refine bodyPost_ret (v := .tuple #[.agg #[.string oNeg,.int .i64 0,.string ⟨#[]⟩,.slice (some ⟨w.heap.size+1+1,0,none⟩) 1 1],.bool (decide (-127≤vn))]) (by simp [results,Tryz.results87,go_sem,k0,k1',k2,k3,hlt4]) rfl ?_
 all_goals exact⟨_,rfl,HX4.out,HB4.out⟩
theorem kinds_any (H:Kn) (p:Pr) (vi vo vl va vc:Value) (hp:PrP H p vi vo vl va vc) (hn:p.ins.length≤1000000∧p.fl.length≤1000000) (w:World) (hH:H.In w):
  Calls Tryz.prog 73 #[.agg #[vi,vo,vl,va,vc]] w fun r w'=>∃ b,r = .returned (.map (some b))∧Zaw (Value.int .i64) w' b (kindsM p)∧w.heap.size≤b∧Below w.heap.size w w':=by
 obtain⟨hn1,hn2⟩:=hn
 obtain⟨h1,h2,h3,h4,h5⟩:=hp
 obtain⟨ai,ci,rfl⟩:=h1.len
 obtain⟨ao,co,rfl⟩:=h2.len
 obtain⟨al,cl,rfl⟩:=h3.len
 obtain⟨aa,ca,rfl⟩:=h4.len
 obtain⟨ac,cc,rfl⟩:=h5.len
 have H1:=Zhd h1
 have H3:=Zhd h3
 clear h1 h2 h3 h4 h5
 have hmm:=@run_makeMap Tryz.prog
 go_enter Tryz.func73,Tryz.ntmps73
 go_wp2_with fail
 have hq:∀ i,((w.alloc (.cells #[.slice ai p.ins.length ci,.slice ao p.outs.length co,.slice al p.fl.length cl,.slice aa p.as.length ca,.slice ac p.cs.length cc] 41)).alloc (.map #[] 0)).cell? ⟨w.heap.size,i,none⟩=(#[.slice ai p.ins.length ci,.slice ao p.outs.length co,.slice al p.fl.length cl,.slice aa p.as.length ca,.slice ac p.cs.length cc]:Array Value)[i]?:=fun i=>by
  rw [World.cell?_alloc_past _ _ _ (by simp),World.cell?_alloc_new]
 have hM0:Zaw (Value.int .i64) ((w.alloc (.cells #[.slice ai p.ins.length ci,.slice ao p.outs.length co,.slice al p.fl.length cl,.slice aa p.as.length ca,.slice ac p.cs.length cc] 41)).alloc (.map #[] 0)) (w.heap.size+1) Env.none:=by
  have:=Zaw.made (Value.int .i64) (w.alloc (.cells #[.slice ai p.ins.length ci,.slice ao p.outs.length co,.slice al p.fl.length cl,.slice aa p.as.length ca,.slice ac p.cs.length cc] 41))
  simpa using this
 have hb0:Below w.heap.size w ((w.alloc (.cells #[.slice ai p.ins.length ci,.slice ao p.outs.length co,.slice al p.fl.length cl,.slice aa p.as.length ca,.slice ac p.cs.length cc] 41)).alloc (.map #[] 0)):=((Below.refl _ _).alloc (Nat.le_refl _) _).alloc (by simp) _
 have hz0:((w.alloc (.cells #[.slice ai p.ins.length ci,.slice ao p.outs.length co,.slice al p.fl.length cl,.slice aa p.as.length ca,.slice ac p.cs.length cc] 41)).alloc (.map #[] 0)).heap.size=w.heap.size+2:=by simp
 generalize (w.alloc (.cells #[.slice ai p.ins.length ci,.slice ao p.outs.length co,.slice al p.fl.length cl,.slice aa p.as.length ca,.slice ac p.cs.length cc] 41)).alloc (.map #[] 0)=W0 at *
 have hq0:=hq 0
 have hq2:=hq 2
 have HQ2:=Zhd (show W0.cell? ⟨w.heap.size,2,none⟩=some (.slice al p.fl.length cl) from hq2)
 have HM0:=Zhd hM0
 have HB0:=Zhd hb0
 have hz0':w.heap.size+2≤W0.heap.size:=by omega
 have hq0:W0.cell? ⟨w.heap.size,0,none⟩=some (.slice ai p.ins.length ci):=hq0
 clear hq hM0 hb0 hz0 hq2
 go_wp2_with fail
 clear hq0
 go_loopw [12] (fun i wr=>∃ k:Nat,i = .int .i64 k∧k≤p.ins.length∧Below w.heap.size w wr∧w.heap.size+2≤wr.heap.size∧wr.cell? ⟨w.heap.size,2,none⟩=some (.slice al p.fl.length cl)∧Zaw (Value.int .i64) wr (w.heap.size+1) (Zc9 Env.none (p.vars.take k))) (fun i _=>p.ins.length - (intOf i).toNat)
 case atStart=>exact⟨0,rfl,Nat.zero_le _,HB0.out,hz0',HQ2.out,HM0.out⟩
 obtain⟨k,rfl,hk,hb,hz,hq,hM⟩:=hrel
 have HB:=Zhd hb
 have HM:=Zhd hM
 have HQr:=Zhd hq
 clear hb hM hq
 by_cases hkl:k<p.ins.length
 ·obtain⟨b,off,rfl,_,c0,c1⟩:=SlV.at H1.out hkl
  have hHr:=hH.below HB.out
  have c0:=hHr.cell c0
  have c1:=hHr.cell c1
  simp only [Nat.add_zero] at c0
  have TK:=Zhd (kinds_in p k hkl)
  clear hHr
  generalize p.ins[k]=x at *
  obtain⟨xn,xk⟩:=x
  dsimp only at *
  have hMa:=HM.out.alloc (.cells #[.string xn,.int .i64 xk] 158)
  have HMA:=Zhd hMa
  clear hMa
  go_wp2_with (at_mapUpdate;refine Zd2 (Value.int .i64) 97 9 3 Tryz.underlying97 Tryz.underlying9 (w.heap.size+1) _ HMA.out _ _ _ rfl rfl rfl xn rfl xk rfl ?_;intro w3 hM3 hT3)
  have HB3:=Zhd (hT3.below (HB.out.alloc HB.out.size (.cells #[.string xn,.int .i64 xk] 158)) (Nat.le_succ _))
  have HS3:=Zhd hT3.size
  have HQ3:=Zhd (show w3.cell? ⟨w.heap.size,2,none⟩=some (.slice al p.fl.length cl) from by rw [hT3.cell (p:=⟨w.heap.size,2,none⟩) (show w.heap.size≠w.heap.size+1 by omega),World.cell?_alloc_past _ _ _ (by omega)];exact HQr.out)
  go_roundw
  case rel=>exact⟨k+1,by go_num,by omega,HB3.out,by rw [HS3.out];simp;omega,HQ3.out,by rw [TK.out];exact hM3⟩
  simp [intOf];omega
 obtain rfl:k=p.ins.length:=by omega
 have hqr:=HQr.out
 go_wp2_with fail
 clear hqr
 go_loopw [25] (fun i wr=>∃ k:Nat,i = .int .i64 k∧k≤p.fl.length∧Below w.heap.size w wr∧w.heap.size+2≤wr.heap.size∧Zaw (Value.int .i64) wr (w.heap.size+1) (Zc9 Env.none (p.vars.take (p.ins.length+k)))) (fun i _=>p.fl.length - (intOf i).toNat)
 case atStart=>exact⟨0,rfl,Nat.zero_le _,HB.out,hz,HM.out⟩
 clear HB HM HQr hz
 obtain⟨k,rfl,hk,hb,hz,hM⟩:=hrel
 have HB:=Zhd hb
 have HM:=Zhd hM
 clear hb hM
 by_cases hkl:k<p.fl.length
 ·obtain⟨b,off,rfl,_,hfc⟩:=SlV.at H3.out hkl
  obtain⟨u,c0,c1,c2,c3,c4,c5,hu⟩:=hfc.cells
  obtain⟨ax,cx,rfl⟩:=hu.len
  have hHr:=hH.below HB.out
  have c0:=hHr.cell c0
  have c1:=hHr.cell c1
  have c2:=hHr.cell c2
  have c3:=hHr.cell c3
  have c4:=hHr.cell c4
  have c5:=hHr.cell c5
  simp only [Nat.add_zero] at c0
  have TK:=Zhd (kinds_fl p k hkl)
  clear hHr hu hfc
  generalize p.fl[k]=x at *
  obtain⟨xn,xk,xe⟩:=x
  dsimp only at *
  generalize xe.op=xo at *
  generalize xe.n=xnn at *
  generalize xe.s=xs at *
  generalize xe.l.length=xl at *
  have hMa:=HM.out.alloc (.cells #[.string xn,.int .i64 xk,.string xo,.int .i64 xnn,.string xs,.slice ax xl cx] 71)
  have HMA:=Zhd hMa
  clear hMa
  go_wp2_with (at_mapUpdate;refine Zd2 (Value.int .i64) 97 9 3 Tryz.underlying97 Tryz.underlying9 (w.heap.size+1) _ HMA.out _ _ _ rfl rfl rfl xn rfl xk rfl ?_;intro w3 hM3 hT3)
  have HB3:=Zhd (hT3.below (HB.out.alloc HB.out.size (.cells #[.string xn,.int .i64 xk,.string xo,.int .i64 xnn,.string xs,.slice ax xl cx] 71)) (Nat.le_succ _))
  have HS3:=Zhd hT3.size
  go_roundw
  case rel=>exact⟨k+1,by go_num,by omega,HB3.out,by rw [HS3.out];simp;omega,by rw [TK.out];exact hM3⟩
  simp [intOf];omega
 obtain rfl:k=p.fl.length:=by omega
 go_wp2_with fail
 go_ret
 refine⟨w.heap.size+1,rfl,?_,Nat.le_succ _,HB.out⟩
 rw [← kinds_end]
 exact HM.out
end Go.Proofs.YtofameafdnkijaaGreatDoor
