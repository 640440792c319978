/- Plain: what each term has at each instant, by the term itself, is what a run's machine has there: no program in sight. -/
import Derived.Test.YtafapnolamcdmaaGreatDoorRuM
import Derived.Test.YtafapnolamcdmaaGreatDoorRfI
set_option linter.all false
namespace Go.Proofs.YtafapnolamcdmaaGreatDoor
open Mx
mutual
def wdV(R:REnv)(inp:Nat->List Vl)(fv:Nat->Nat->Vl):Ex->Nat->Vl
 | .mk o n s l,i=>
  if i=0/\0<lateOf R.lt (.mk o n s l) then nilV R.nb R.ni (Zai R.ks (.mk o n s l))
  else if o=oInt then ⟨2,n⟩
  else if o=Zc9\/o=Zch then tv (decide (o=Zc9))
  else if o=Zb2 then(if R.nm s<0 then(inp i).getD (-1 - R.nm s).toNat vz else fv (R.nm s).toNat i)
  else if o=oPre then(wdVs R inp fv l (i - 1)).getD 0 vz
  else if o=oFby then(if i=0 then(wdVs R inp fv l i).getD 0 vz else(wdVs R inp fv l (i - 1)).getD 1 vz)
  else if o=Zbk then(if i=0 then(wdVs R inp fv l i).getD 0 vz else(wdVs R inp fv l i).getD 1 vz)
  else if (appM o (wdVs R inp fv l i)).2 then ⟨2,0⟩ else(appM o (wdVs R inp fv l i)).1
def wdVs(R:REnv)(inp:Nat->List Vl)(fv:Nat->Nat->Vl):List Ex->Nat->List Vl
 | [],_=>[]
 |e :: l,i=>wdV R inp fv e i :: wdVs R inp fv l i
end
def ownT(R:REnv)(inp:Nat->List Vl)(fv:Nat->Nat->Vl)(e:Ex)(i:Nat):Bool:=(appM e.op (wdVs R inp fv e.l i)).2 && !(decide (i=0)&&decide (0<lateOf R.lt e))
mutual
def allT(R:REnv)(inp:Nat->List Vl)(fv:Nat->Nat->Vl):Ex->Nat->Bool
 | .mk o n s l,i=>ownT R inp fv (.mk o n s l) i || Zfo R inp fv l i
def Zfo(R:REnv)(inp:Nat->List Vl)(fv:Nat->Nat->Vl):List Ex->Nat->Bool
 | [],_=>false
 |e :: l,i=>allT R inp fv e i || Zfo R inp fv l i
end
theorem Zeg(R:REnv)(inp:Nat->List Vl)(fv:Nat->Nat->Vl)(i:Nat):∀l,wdVs R inp fv l i=l.map λe=>wdV R inp fv e i
 | []=>rfl
 |e :: l=>by simp only[wdVs,List.map_cons,Zeg R inp fv i l]
theorem Zfn(R:REnv)(inp:Nat->List Vl)(fv:Nat->Nat->Vl)(i:Nat):∀l,Zfo R inp fv l i=l.any λe=>allT R inp fv e i
 | []=>rfl
 |e :: l=>by simp only[Zfo,List.any_cons,Zfn R inp fv i l]
theorem ite2{c:Prop}[Decidable c]{a b:Vl×Bool}{p:Prop}(ha:c->a.2=true->p)(hb:b.2=true->p):(if c then a else b).2=true->p:=by
 by_cases h:c
 .rw [if_pos h];exact ha h
 rw[if_neg h];exact hb
theorem app_trap{o:ByteArray}{vs:List Vl}:(appM o vs).2=true->o=oDiv\/o=oMod:=by
 unfold appM;dsimp only
 repeat(refine ite2 (by first|exact λ_ h=>Bool.noConfusion h|exact λhc _=>hc.1) ?_)
 exact λh=>Bool.noConfusion h
def instOf(R:REnv)(c:Cd)(first:Bool)(mem inp:List Vl):Inst:=⟨first,mem,inp,(nowM R first mem inp c.fs c.ord (List.replicate c.fs.length vz) false).1⟩
def memS(R:REnv)(c:Cd)(mem0:List Vl)(inp:Nat->List Vl):Nat->List Vl
 |0=>mem0
 |i+1=>(Zdn R (instOf R c (decide (i=0)) (memS R c mem0 inp i) (inp i)) c.ms).1
def Zd0(R:REnv)(c:Cd)(mem0:List Vl)(inp:Nat->List Vl)(i:Nat):Inst:=instOf R c (decide (i=0)) (memS R c mem0 inp i) (inp i)
def fvS(R:REnv)(c:Cd)(mem0:List Vl)(inp:Nat->List Vl)(k i:Nat):Vl:=(Zd0 R c mem0 inp i).now.getD k vz
def PlX(p:Pr)(m:Nat)(e:Ex):Prop:=∀(j:Nat) (x:Ex×Nat),(Zbs m e)[j]?=some x->(Zab 0 p.terms)[m+j]?=some x
def PlXL(p:Pr)(m:Nat)(l:List Ex):Prop:=∀(j:Nat) (x:Ex×Nat),(Zab m l)[j]?=some x->(Zab 0 p.terms)[m+j]?=some x
theorem PlXL.cons{p:Pr}{m:Nat}{e:Ex}{l:List Ex}(h:PlXL p m (e :: l)):PlX p m e/\PlXL p (m+memN e) l:=by
 refine⟨λj x hx=>h j x ?_,λj x hx=>?_⟩
 .rw [Zab,List.getElem?_append_left]
  .exact hx
  exact(List.getElem?_eq_some_iff.1 hx).1
 have:=h (memN e+j) x (by
  rw[Zab,List.getElem?_append_right (by rw[Zfd];omega),Zfd,Nat.add_sub_cancel_left];exact hx)
 rw[Nat.add_assoc];exact this
theorem PlXL.at{p:Pr}:∀{l:List Ex} {m:Nat},PlXL p m l->∀i (h:i<l.length),PlX p (m+Zag (l.take i)) l[i]
 | [],_,_,i,hi=>by simp at hi
 |e :: l,m,h,0,_=>by simpa[Zag] using h.cons.1
 |e :: l,m,h,i+1,hi=>by
  have:=h.cons.2.at i (by simpa using hi);simp only[List.take_succ_cons,Zag,List.getElem_cons_succ];rw[<- Nat.add_assoc];exact this
theorem PlX.parts{p:Pr}{m:Nat}{o:ByteArray}{n:Int}{s:ByteArray}{l:List Ex}(h:PlX p m (.mk o n s l)):PlXL p m l/\(o=oPre\/o=oFby->(Zab 0 p.terms)[m+Zag l]?=some (.mk o n s l,m)):=by
 refine⟨λj x hx=>h j x ?_,λho=>h (Zag l) (.mk o n s l,m) ?_⟩
 .rw [Zbs,List.getElem?_append_left]
  .exact hx
  exact(List.getElem?_eq_some_iff.1 hx).1
 rw[Zbs,List.getElem?_append_right (by rw[Zaw];omega),Zaw,Nat.sub_self,if_pos ho];rfl
theorem plX_all(p:Pr):PlXL p 0 p.terms:=λj x hx=>by rw[Nat.zero_add];exact hx
theorem Zkw{p:Pr}:∀{l:List Ex} {m:Nat},PlXL p m l->∀x∈Za4 m l,PlX p x.2 x.1
 | [],_,_,x,hx=>by simp[Za4] at hx
 |e :: l,m,h,x,hx=>by
  simp only[Za4,List.mem_cons] at hx;rcases hx with rfl|hx
  .exact h.cons.1
  exact Zkw h.cons.2 x hx
section
variable {p : Pr} (R : REnv) (ord : List Nat) (mem0 : List Vl) (inp : Nat -> List Vl)
theorem mem_at{o:ByteArray}{n:Int}{s:ByteArray}{l:List Ex}{m:Nat}(h:PlX p m (.mk o n s l))(ho:o=oPre\/o=oFby){k:Nat}(hl:l.length=k+1)(hk:k<l.length)(i:Nat):
  (memS R (cdOf p ord) mem0 inp (i+1)).getD (m+Zag l) vz=(Za6 R (Zd0 R (cdOf p ord) mem0 inp i) (m+Zag (l.take k)) l[k]).1:=by
 have h1:=h.parts.2 ho;have vy:(cdOf p ord).ms=(Zab 0 p.terms).map Zdz:=Zdf _ _;obtain⟨g1,g2⟩:=Zjn l (.mk o n s l) k hk hl;simp only[memS,Zdn,vy,Ygg,List.getElem?_map,h1,Option.map_some,Option.getD_some,Zdz,Ex.l,g1,g2];rfl
theorem pre_late{lt:ByteArray->Int}(hb:∀s,0<=lt s/\lt s<=2)(n:Int)(s:ByteArray)(l:List Ex):0<lateOf lt (.mk oPre n s l):=by
 have e:lateOf lt (.mk oPre n s l)=min 2 ((Zau lt l).getD 0 0+1):=by rw[lateOf];rfl
 rw[e,Zex]
 split
 .have:=(Zbw lt hb l[0]).1;omega
 omega
theorem wd_eval(hb:∀s,0<=R.lt s/\R.lt s<=2){ks:Env Int}:∀(i:Nat) (e:Ex),Zad ks e=true->∀m,PlX p m e->(Za6 R (Zd0 R (cdOf p ord) mem0 inp i) m e).1=wdV R inp (fvS R (cdOf p ord) mem0 inp) e i:=by
 intro i
 induction i using Nat.strongRecOn with
 |ind i IH=>
 refine Ex.ind λo n s l ih j9 m qn=>?_;obtain⟨JA,Jj,jq,hZ,_⟩:=Zax j9;have qH:=qn.parts.1;have hL:∀(l:List Ex) (m k:Nat),(∀e∈l,Zad ks e=true->∀m,PlX p m e->(Za6 R (Zd0 R (cdOf p ord) mem0 inp i) m e).1=wdV R inp (fvS R (cdOf p ord) mem0 inp) e i)->(∀e∈l,Zad ks e=true)->PlXL p m l->
   (Zaz R (Zd0 R (cdOf p ord) mem0 inp i) m k l).1=(wdVs R inp (fvS R (cdOf p ord) mem0 inp) l i).take k:=by
  intro l
  induction l with
  |nil=>intro m k _ _ _;simp[Zaz,wdVs]
  |cons e l ihl=>
   intro m k hh kQ hp;cases k with
   |zero=>simp[Zaz]
   |succ k=>
    simp only[Zaz,wdVs,List.take_succ_cons];rw[hh e (List.mem_cons_self ..) (kQ e (List.mem_cons_self ..)) m hp.cons.1,ihl _ k (λy hy=>hh y (List.mem_cons_of_mem _ hy)) (λy hy=>kQ y (List.mem_cons_of_mem _ hy)) hp.cons.2]
 have yd:=hL l m (if o=oPre then 0 else if o=oFby then 1 else l.length) (λe he=>ih e he) JA qH;have Ho:(wdVs R inp (fvS R (cdOf p ord) mem0 inp) l i).length=l.length:=by rw[Zeg];simp
 have JM:∀(k j:Nat) (hk:k<l.length),l.length=k+1->(o=oPre\/o=oFby)->i=j+1->(Zd0 R (cdOf p ord) mem0 inp i).mem.getD (m+Zag l) vz=(wdVs R inp (fvS R (cdOf p ord) mem0 inp) l (i - 1)).getD k vz:=by
  intro k j hk hl ho hi;subst hi;have h1:=mem_at R ord mem0 inp qn ho hl hk j;rw[IH j (by omega) l[k] (JA _ (Ymm hk)) _ (qH.at k hk)] at h1;rw[Zeg];refine Eq.trans h1 ?_;simp[Ygg,hk]
 simp only[Za6];rw[wdV];generalize hr:Zd0 R (cdOf p ord) mem0 inp i=r at *;have hrf:r.first=decide (i=0):=by rw[<- hr];rfl
 have hri:r.inp=inp i:=by rw[<- hr];rfl
 have hrn:∀k,r.now.getD k vz=fvS R (cdOf p ord) mem0 inp k i:=λk=>by rw[<- hr];rfl
 by_cases HJ:i=0/\0<lateOf R.lt (.mk o n s l)
 .rw [if_pos HJ,if_pos (by rw[hrf];simp[HJ.1,HJ.2])]
 rw[if_neg HJ,if_neg (by rw[hrf];simpa using HJ)];generalize decide (0<lateOf R.lt (.mk o n s l))=late at *;unfold valM;by_cases e1:o=oInt
 .rw [if_pos e1,if_pos e1]
 rw[if_neg e1,if_neg e1];by_cases e2:o=Zc9\/o=Zch
 .rw [if_pos e2,if_pos e2]
 rw[if_neg e2,if_neg e2];by_cases e3:o=Zb2
 .rw [if_pos e3,if_pos e3,hri,hrn]
 rw[if_neg e3,if_neg e3];by_cases e4:o=oPre
 .simp only[if_pos e4];have hi:i≠0:=λh0=>HJ ⟨h0,by rw[e4];exact pre_late hb n s l⟩;have hl1:=hZ e4;exact JM 0 (i - 1) (by omega) hl1 (.inl e4) (by omega)
 simp only[if_neg e4] at yd ⊢;by_cases e5:o=oFby
 .simp only[if_pos e5] at yd ⊢;have jU:=Jj e5;by_cases h0:i=0
  .rw [if_pos h0,if_pos (by rw[hrf];simp[h0]),yd];generalize wdVs R inp (fvS R (cdOf p ord) mem0 inp) l i=L at *;cases L<;>rfl
  rw[if_neg h0,if_neg (by rw[hrf];simp[h0])];exact JM 1 (i - 1) (by omega) jU (.inr e5) (by omega)
 simp only[if_neg e5] at yd ⊢;rw[<- Ho,List.take_length] at yd;rw[<- Ho,yd];by_cases e6:o=Zbk
 .rw [if_pos e6,if_pos e6];by_cases h0:i=0
  .rw [if_pos h0,if_pos (by rw[hrf];simp[h0])]
  rw[if_neg h0,if_neg (by rw[hrf];simp[h0])]
 rw[if_neg e6,if_neg e6]
 split<;>rfl
theorem wd_trap(hb:∀s,0<=R.lt s/\R.lt s<=2){ks:Env Int}(i:Nat):∀(e:Ex),Zad ks e=true->∀m,PlX p m e->
  ((Za6 R (Zd0 R (cdOf p ord) mem0 inp i) m e).2 || (Zfc m e).any λx=>(Za6 R (Zd0 R (cdOf p ord) mem0 inp i) x.2 x.1).2)=allT R inp (fvS R (cdOf p ord) mem0 inp) e i:=by
 refine Ex.ind λo n s l ih j9 m qn=>?_;obtain⟨JA,Jj,jq,hZ,_⟩:=Zax j9;have qH:=qn.parts.1;have hL:∀(l:List Ex) (m:Nat),(∀e∈l,Zad ks e=true->∀m,PlX p m e->((Za6 R (Zd0 R (cdOf p ord) mem0 inp i) m e).2 || (Zfc m e).any λx=>(Za6 R (Zd0 R (cdOf p ord) mem0 inp i) x.2 x.1).2)=allT R inp (fvS R (cdOf p ord) mem0 inp) e i)->(∀e∈l,Zad ks e=true)->PlXL p m l->
   ∀k,l.length<=k->((Zaz R (Zd0 R (cdOf p ord) mem0 inp i) m k l).2 || (Zcc m l).any λx=>(Za6 R (Zd0 R (cdOf p ord) mem0 inp i) x.2 x.1).2)=Zfo R inp (fvS R (cdOf p ord) mem0 inp) l i:=by
  intro l
  induction l with
  |nil=>intro m _ _ _ k _;simp[Zaz,Zcc,Zfo]
  |cons e l ihl=>
   intro m hh kQ hp k hk;cases k with
   |zero=>simp at hk
   |succ k=>
    simp only[Zaz,Zcc,Zfo,List.any_append];rw[<- hh e (List.mem_cons_self ..) (kQ e (List.mem_cons_self ..)) m hp.cons.1,<- ihl _ (λy hy=>hh y (List.mem_cons_of_mem _ hy)) (λy hy=>kQ y (List.mem_cons_of_mem _ hy)) hp.cons.2 k (by simpa using hk)];simp only[Bool.or_assoc]
    congr 1
    rw[Bool.or_left_comm]
 have hx:=λ(e:Ex) (he:e∈l)=>ih e he (JA e he);have hval:∀(hn:o≠oPre/\o≠oFby),(Zaz R (Zd0 R (cdOf p ord) mem0 inp i) m l.length l).1=wdVs R inp (fvS R (cdOf p ord) mem0 inp) l i:=λhn=>by
  have:∀(l:List Ex) (m:Nat),(∀e∈l,Zad ks e=true)->PlXL p m l->(Zaz R (Zd0 R (cdOf p ord) mem0 inp i) m l.length l).1=wdVs R inp (fvS R (cdOf p ord) mem0 inp) l i:=by
   intro l
   induction l with
   |nil=>intro m _ _;rfl
   |cons e l ihl=>
    intro m kQ hp;simp only[Zaz,wdVs,List.length_cons];rw[wd_eval R ord mem0 inp hb i e (kQ e (List.mem_cons_self ..)) m hp.cons.1,ihl _ (λy hy=>kQ y (List.mem_cons_of_mem _ hy)) hp.cons.2]
  exact this l m JA qH
 simp only[Za6,Zfc,allT,List.any_append];by_cases ho:o=oPre\/o=oFby
 .rw [if_pos ho];have Hb:ownT R inp (fvS R (cdOf p ord) mem0 inp) (.mk o n s l) i=false:=by
   unfold ownT;cases hc:(appM o (wdVs R inp (fvS R (cdOf p ord) mem0 inp) l i)).2 with
   |false=>simp only[Ex.op,Ex.l,hc,Bool.false_and]
   |true=>
    rcases app_trap hc with e|e<;>rcases ho with h|h<;>rw[e] at h<;>exact absurd h (by decide)
  have hv:∀m late vs,(valM R (Zd0 R (cdOf p ord) mem0 inp i) m o n s late vs).2=false:=by
   intro m late vs;unfold valM;rcases ho with rfl|rfl
   .rfl
   rfl
  rw[Hb,hv,Bool.false_or,Bool.or_false];rcases ho with e|e
  .have hl:=hZ e
   match l,hl with
   | [a],_=>
    have h1:=hx a (by simp) m (by simpa[Zag] using qH.at 0 (by simp));rw[if_pos e];simp only[Zaz,Zcc,Zfo,List.any_append,List.any_nil,Bool.or_false,Bool.false_or,List.any_cons,List.getLastD,List.getLast,List.dropLast,Zag,Nat.add_zero];rw[<- h1,Bool.or_comm]
  have hl:=Jj e
  match l,hl with
  | [a,b],_=>
   have h1:=hx a (by simp) m (by simpa[Zag] using qH.at 0 (by simp));have h2:=hx b (by simp) (m+memN a) (by simpa[Zag] using qH.at 1 (by simp));rw[if_neg (by rw[e];decide),if_pos e];simp only[Zaz,Zcc,Zfo,List.any_append,List.any_nil,Bool.or_false,Bool.false_or,List.any_cons,List.getLastD,List.getLast,List.dropLast,Zag,Nat.add_zero];rw[<- h1,<- h2];simp only[Bool.or_assoc]
   congr 2
   rw[Bool.or_comm]
 rw[if_neg ho,List.any_nil,Bool.or_false];have hp:o≠oPre:=λe=>ho (.inl e);have hf:o≠oFby:=λe=>ho (.inr e);rw[if_neg hp,if_neg hf,hval ⟨hp,hf⟩];rw[<- hL l m (λe he=>ih e he) JA qH l.length Ylr];have:(valM R (Zd0 R (cdOf p ord) mem0 inp i) (m+Zag l) o n s (decide (0<lateOf R.lt (.mk o n s l))) (wdVs R inp (fvS R (cdOf p ord) mem0 inp) l i)).2=ownT R inp (fvS R (cdOf p ord) mem0 inp) (.mk o n s l) i:=by
  unfold ownT;simp only[Ex.op,Ex.l];cases hc:(appM o (wdVs R inp (fvS R (cdOf p ord) mem0 inp) l i)).2 with
  |false=>
   rw[Bool.false_and];unfold valM;rw[hc]
   repeat' split
   all_goals first|rfl|contradiction
  |true=>
   have h1:=app_trap hc;unfold valM;rw[if_neg (by rcases h1 with h|h<;>rw[h]<;>decide),if_neg (by rcases h1 with h|h<;>rw[h]<;>decide),if_neg (by rcases h1 with h|h<;>rw[h]<;>decide),if_neg hp,if_neg hf,if_neg (by rcases h1 with h|h<;>rw[h]<;>decide),if_pos hc]
   have hrf:(Zd0 R (cdOf p ord) mem0 inp i).first=decide (i=0):=rfl;rw[hrf];simp only[Bool.true_and,Bool.not_and]
 rw[this];generalize ownT R inp (fvS R (cdOf p ord) mem0 inp) (.mk o n s l) i=a;generalize (Zaz R (Zd0 R (cdOf p ord) mem0 inp i) m l.length l).2=b;generalize ((Zcc m l).any λx=>(Za6 R (Zd0 R (cdOf p ord) mem0 inp i) x.2 x.1).2)=c;cases a<;>cases b<;>cases c<;>rfl
end
def Ze8(R:REnv)(inp:Nat->List Vl)(fv:Nat->Nat->Vl)(p:Pr)(i:Nat):Tk:=
 if Zfo R inp fv p.terms i then trapT else ⟨p.outs.map λs=>fv (R.nm s).toNat i,p.as.all λe=>decide ((wdV R inp fv e i).n=1),false,p.cs.map λe=>decide ((wdV R inp fv e i).n=1)⟩
def wdRun(f:Nat->Tk):Nat->Nat->List Tk
 |0,_=>[]
 |n+1,i=>f i :: if (f i).trap then [] else wdRun f n (i+1)
theorem Zj6:∀(l:List Ex) (m:Nat),Zcc m l=(Za4 m l).flatMap λx=>Zfc x.2 x.1
 | [],m=>by simp[Zcc,Za4]
 |e :: l,m=>by simp only[Zcc,Za4,List.flatMap_cons,Zj6 l]
theorem Zfa{p:Pr}{ks:Env Int}(hks:Zao Env.none p.vars=some ks){ord:List Nat}(ho:Za5 p=.ok ord):∀e∈p.terms,Zad ks e=true:=λe he=>(Ze9 (Zbg ho).1 hks e he).1
section
variable {p : Pr} (h : (Za2 p).1 = 0) {ks : Env Int} (hks : Zao Env.none p.vars = some ks) {ord : List Nat} (ho : Za5 p = .ok ord) (nb : Bool) (ni : Int) (mem0 : List Vl) (inp : Nat -> List Vl)
include h hks ho
theorem fv_fix(k i:Nat)(hk:k<p.fl.length):fvS ⟨ks,Zac p,getI (Zah p),nb,ni⟩ (cdOf p ord) mem0 inp k i=wdV ⟨ks,Zac p,getI (Zah p),nb,ni⟩ inp (fvS ⟨ks,Zac p,getI (Zah p),nb,ni⟩ (cdOf p ord) mem0 inp) p.fl[k].e i:=by
 obtain⟨f1,f2,_⟩:=now_fix h hks ho ⟨ks,Zac p,getI (Zah p),nb,ni⟩ rfl (decide (i=0)) (memS ⟨ks,Zac p,getI (Zah p),nb,ni⟩ (cdOf p ord) mem0 inp i) (inp i);have qh:(cdOf p ord).fs.length=p.fl.length:=by simp[cdOf,Zb8]
 obtain⟨hkt,Qr⟩:=fl_term p k hk;have hx:(p.fl[k].e,flAt p k)∈(cdOf p ord).fs:=by
  have:=Ziz p ord k hk;rw[<- this,Ygg,List.getElem?_eq_getElem (by omega)];exact Ymm _
 have h3:=f2 k hk;rw[<- wd_eval ⟨ks,Zac p,getI (Zah p),nb,ni⟩ ord mem0 inp (Zdx p).1 i p.fl[k].e (Zfa hks ho _ (Qr▸Ymm hkt)) (flAt p k) (Zkw (plX_all p) _ (by rw[cd_with p ord];exact List.mem_append_left _ (List.mem_append_left _ hx)))];unfold fvS Zd0 instOf;rw[qh,show(cdOf p ord).ord=ord from rfl];exact h3
theorem tick_wd(i:Nat):(Zb7 ⟨ks,Zac p,getI (Zah p),nb,ni⟩ (cdOf p ord) (decide (i=0)) (memS ⟨ks,Zac p,getI (Zah p),nb,ni⟩ (cdOf p ord) mem0 inp i) (inp i)).1=Ze8 ⟨ks,Zac p,getI (Zah p),nb,ni⟩ inp (fvS ⟨ks,Zac p,getI (Zah p),nb,ni⟩ (cdOf p ord) mem0 inp) p i/\
  ((Zb7 ⟨ks,Zac p,getI (Zah p),nb,ni⟩ (cdOf p ord) (decide (i=0)) (memS ⟨ks,Zac p,getI (Zah p),nb,ni⟩ (cdOf p ord) mem0 inp i) (inp i)).1.trap=false->(Zb7 ⟨ks,Zac p,getI (Zah p),nb,ni⟩ (cdOf p ord) (decide (i=0)) (memS ⟨ks,Zac p,getI (Zah p),nb,ni⟩ (cdOf p ord) mem0 inp i) (inp i)).2=memS ⟨ks,Zac p,getI (Zah p),nb,ni⟩ (cdOf p ord) mem0 inp (i+1)):=by
 have jt:=Zfa hks ho;have hb:=(Zdx p).1;obtain⟨f1,f2,f3⟩:=now_fix h hks ho ⟨ks,Zac p,getI (Zah p),nb,ni⟩ rfl (decide (i=0)) (memS ⟨ks,Zac p,getI (Zah p),nb,ni⟩ (cdOf p ord) mem0 inp i) (inp i);have qh:(cdOf p ord).fs.length=p.fl.length:=by simp[cdOf,Zb8]
 have hwith:=cd_with p ord;have hE:=λ(x:Ex×Nat) (hx:x∈Za4 0 p.terms)=>wd_eval ⟨ks,Zac p,getI (Zah p),nb,ni⟩ ord mem0 inp hb i x.1 (jt _ (Zdv hx)) x.2 (Zkw (plX_all p) x hx);have hT:=λ(x:Ex×Nat) (hx:x∈Za4 0 p.terms)=>wd_trap ⟨ks,Zac p,getI (Zah p),nb,ni⟩ ord mem0 inp hb i x.1 (jt _ (Zdv hx)) x.2 (Zkw (plX_all p) x hx);have hnow:∀k,(nowM ⟨ks,Zac p,getI (Zah p),nb,ni⟩ (decide (i=0)) (memS ⟨ks,Zac p,getI (Zah p),nb,ni⟩ (cdOf p ord) mem0 inp i) (inp i) (cdOf p ord).fs ord (List.replicate p.fl.length vz) false).1.getD k vz=fvS ⟨ks,Zac p,getI (Zah p),nb,ni⟩ (cdOf p ord) mem0 inp k i:=λk=>by
  unfold fvS Zd0 instOf;rw[qh];rfl
 have hinst:(⟨decide (i=0),memS ⟨ks,Zac p,getI (Zah p),nb,ni⟩ (cdOf p ord) mem0 inp i,inp i,(nowM ⟨ks,Zac p,getI (Zah p),nb,ni⟩ (decide (i=0)) (memS ⟨ks,Zac p,getI (Zah p),nb,ni⟩ (cdOf p ord) mem0 inp i) (inp i) (cdOf p ord).fs ord (List.replicate p.fl.length vz) false).1⟩:Inst)=Zd0 ⟨ks,Zac p,getI (Zah p),nb,ni⟩ (cdOf p ord) mem0 inp i:=by
  unfold Zd0 instOf;rw[qh];rfl
 unfold Zb7;dsimp only;rw[show(cdOf p ord).ord=ord from rfl,qh];rw[hinst] at f3 ⊢;have hmS:memS ⟨ks,Zac p,getI (Zah p),nb,ni⟩ (cdOf p ord) mem0 inp (i+1)=(Zdn ⟨ks,Zac p,getI (Zah p),nb,ni⟩ (Zd0 ⟨ks,Zac p,getI (Zah p),nb,ni⟩ (cdOf p ord) mem0 inp i) (cdOf p ord).ms).1:=rfl;rw[hmS];generalize nowM ⟨ks,Zac p,getI (Zah p),nb,ni⟩ (decide (i=0)) (memS ⟨ks,Zac p,getI (Zah p),nb,ni⟩ (cdOf p ord) mem0 inp i) (inp i) (cdOf p ord).fs ord (List.replicate p.fl.length vz) false=N at *;generalize fvS ⟨ks,Zac p,getI (Zah p),nb,ni⟩ (cdOf p ord) mem0 inp=fv at *;generalize Zd0 ⟨ks,Zac p,getI (Zah p),nb,ni⟩ (cdOf p ord) mem0 inp i=r at *;have hfs:(cdOf p ord).fs=(List.range p.fl.length).map λk=>(cdOf p ord).fs.getD k d0:=by
  apply List.ext_getElem (by simp[qh]);intro j h1 h2;simp[Ygg,h1]
 have hn2:N.2=(cdOf p ord).fs.any λx=>(Za6 ⟨ks,Zac p,getI (Zah p),nb,ni⟩ r x.2 x.1).2:=by
  rw[Bool.eq_iff_iff,f3,hfs,List.any_map,List.any_eq_true];constructor
  .rintro⟨k,hk,hh⟩;refine⟨k,by simpa using hk,?_⟩;simp only[Function.comp];rw[Ziz p ord k hk];exact hh
  rintro⟨k,hk,hh⟩;have hk:k<p.fl.length:=by simpa using hk
  simp only[Function.comp] at hh;rw[Ziz p ord k hk] at hh;exact⟨k,hk,hh⟩
 have htrap:(N.2 || (Zdn ⟨ks,Zac p,getI (Zah p),nb,ni⟩ r (cdOf p ord).av).2 || (Zdn ⟨ks,Zac p,getI (Zah p),nb,ni⟩ r (cdOf p ord).cv).2 || (Zdn ⟨ks,Zac p,getI (Zah p),nb,ni⟩ r (cdOf p ord).ms).2)=Zfo ⟨ks,Zac p,getI (Zah p),nb,ni⟩ inp fv p.terms i:=by
  have e1:Zfo ⟨ks,Zac p,getI (Zah p),nb,ni⟩ inp fv p.terms i=(Za4 0 p.terms).any λx=>allT ⟨ks,Zac p,getI (Zah p),nb,ni⟩ inp fv x.1 i:=by
   rw[Zfn]
   conv=>lhs;rw[<- Zek p.terms 0]
   rw[List.any_map];rfl
  have e2:((Za4 0 p.terms).any λx=>allT ⟨ks,Zac p,getI (Zah p),nb,ni⟩ inp fv x.1 i)=(Za4 0 p.terms).any λx=>((Za6 ⟨ks,Zac p,getI (Zah p),nb,ni⟩ r x.2 x.1).2 || (Zfc x.2 x.1).any λy=>(Za6 ⟨ks,Zac p,getI (Zah p),nb,ni⟩ r y.2 y.1).2):=by
   rw[Bool.eq_iff_iff,List.any_eq_true,List.any_eq_true];constructor
   .rintro⟨x,hx,hh⟩;exact⟨x,hx,by rw[hT x hx];exact hh⟩
   rintro⟨x,hx,hh⟩;exact⟨x,hx,by rw[hT x hx] at hh;exact hh⟩
  have e3:(Zdn ⟨ks,Zac p,getI (Zah p),nb,ni⟩ r (cdOf p ord).ms).2=(Za4 0 p.terms).any λx=>(Zfc x.2 x.1).any λy=>(Za6 ⟨ks,Zac p,getI (Zah p),nb,ni⟩ r y.2 y.1).2:=by
   show((Zcc 0 p.terms).any λx=>(Za6 ⟨ks,Zac p,getI (Zah p),nb,ni⟩ r x.2 x.1).2)=_;rw[Zj6,List.any_flatMap]
  have e4:(N.2 || (Zdn ⟨ks,Zac p,getI (Zah p),nb,ni⟩ r (cdOf p ord).av).2 || (Zdn ⟨ks,Zac p,getI (Zah p),nb,ni⟩ r (cdOf p ord).cv).2)=(Za4 0 p.terms).any λx=>(Za6 ⟨ks,Zac p,getI (Zah p),nb,ni⟩ r x.2 x.1).2:=by
   rw[hn2,hwith,List.any_append,List.any_append];rfl
  rw[e1,e2,e3,e4];rw[Bool.eq_iff_iff];simp only[Bool.or_eq_true,List.any_eq_true];constructor
  .rintro (⟨x,hx,hh⟩|⟨x,hx,hh⟩)
   .exact⟨x,hx,.inl hh⟩
   exact⟨x,hx,.inr hh⟩
  rintro⟨x,hx,hh|hh⟩
  .exact .inl ⟨x,hx,hh⟩
  exact .inr ⟨x,hx,hh⟩
 rw[htrap];unfold Ze8;by_cases hc:Zfo ⟨ks,Zac p,getI (Zah p),nb,ni⟩ inp fv p.terms i=true
 .rw [if_pos hc,if_pos hc];exact⟨rfl,λhh=>by cases hh⟩
 rw[if_neg hc,if_neg hc];refine⟨?_,λ_=>rfl⟩;have hav:(Zdn ⟨ks,Zac p,getI (Zah p),nb,ni⟩ r (cdOf p ord).av).1=p.as.map λe=>wdV ⟨ks,Zac p,getI (Zah p),nb,ni⟩ inp fv e i:=by
  show(Za4 (Zag (p.fl.map (·.e))) p.as).map _=_;have e1:∀x∈Za4 (Zag (p.fl.map (·.e))) p.as,(Za6 ⟨ks,Zac p,getI (Zah p),nb,ni⟩ r x.2 x.1).1=wdV ⟨ks,Zac p,getI (Zah p),nb,ni⟩ inp fv x.1 i:=λx hx=>hE x (by rw[hwith];exact List.mem_append_left _ (List.mem_append_right _ hx));rw[List.map_congr_left e1]
  conv=>rhs;rw[<- Zek p.as (Zag (p.fl.map (·.e)))]
  rw[List.map_map];rfl
 have hcv:(Zdn ⟨ks,Zac p,getI (Zah p),nb,ni⟩ r (cdOf p ord).cv).1=p.cs.map λe=>wdV ⟨ks,Zac p,getI (Zah p),nb,ni⟩ inp fv e i:=by
  show(Za4 (Zag (p.fl.map (·.e))+Zag p.as) p.cs).map _=_;have e1:∀x∈Za4 (Zag (p.fl.map (·.e))+Zag p.as) p.cs,(Za6 ⟨ks,Zac p,getI (Zah p),nb,ni⟩ r x.2 x.1).1=wdV ⟨ks,Zac p,getI (Zah p),nb,ni⟩ inp fv x.1 i:=λx hx=>hE x (by rw[hwith];exact List.mem_append_right _ hx);rw[List.map_congr_left e1]
  conv=>rhs;rw[<- Zek p.cs (Zag (p.fl.map (·.e))+Zag p.as)]
  rw[List.map_map];rfl
 rw[hav,hcv];have houts:((cdOf p ord).outs.map λi=>N.1.getD i.toNat vz)=p.outs.map λs=>fv (getI (Zah p) s).toNat i:=by
  show(p.outs.map (getI (Zah p))).map _=_;rw[List.map_map];exact List.map_congr_left λs _=>hnow _
 rw[houts,List.all_map,List.map_map];rfl
end
open Go.RowKit Mx
abbrev wdT:TypeId:=154
abbrev knT:TypeId:=197
structure WdW where
 p:Pr
 ks:Env Int
 nb:Bool
 ni:Int
 ins:List (List Vl)
 fv:Nat->Nat->Vl
 A:List Int
 ord:List Nat
 B:Nat
 D:Nat
 base:Nat
 vi:Value
 vo:Value
 vl:Value
 va:Value
 vc:Value
 vlt:Value
 vvr:Value
 vin:Value
abbrev WdW.R(x:WdW):REnv:=⟨x.ks,Zac x.p,getI (Zah x.p),x.nb,x.ni⟩
def WdW.inp(x:WdW)(i:Nat):List Vl:=x.ins.getD i []
def WdW.V(x:WdW)(e:Ex)(i:Nat):Vl:=wdV x.R x.inp x.fv e i
def WdW.own(x:WdW)(e:Ex)(i:Nat):Bool:=ownT x.R x.inp x.fv e i
def WdW.tr(x:WdW)(i:Nat):Bool:=Zfo x.R x.inp x.fv x.p.terms i
def WdW.rk(x:WdW)(k:Nat):Nat:=x.ord.idxOf k
def WdW.cells(x:WdW)(u:Value):Array Value := #[x.vi,x.vo,x.vl,x.va,x.vc,x.vlt,x.vvr,x.vin,.bool x.nb,.int .i64 x.ni,.slice (some ⟨x.D,0,none⟩) x.ins.length x.ins.length,u,.int .i64 0]
abbrev KE:=Nat×Nat×Vl
def knX(y:KE):List Value:=[.int .i64 y.1,.int .i64 y.2.1,.int .i64 y.2.2.kind,.int .i64 y.2.2.n]
def knXs(l:List KE):List Value:=l.flatMap knX
def KLt(x:WdW)(i r:Nat)(y:KE):Prop:=y.2.1<i\/y.2.1=i/\x.rk y.1<r
structure KnW(x:WdW)(K:Kn):Prop where
 b:K x.B=none
 d:K x.D=none
 r:∀g cs fr,x.base<=g->K g≠some (.cells cs knT fr)
theorem KnW.add{x:WdW}{K:Kn}(h:KnW x K){b:Nat}{cs:Array Value}{t:TypeId}{fr:Nat×Nat}(hb:x.B<b)(hd:x.D<b)(ht:t≠knT):KnW x (K.add b (.cells cs t fr)):=
 ⟨by rw[Kn.add_other _ _ (by omega)];exact h.b,by rw[Kn.add_other _ _ (by omega)];exact h.d,λg xW fr' hg e=>by
  by_cases hgb:g=b
  .subst hgb;rw[Kn.add_self] at e;cases e;exact ht rfl
  rw[Kn.add_other _ _ hgb] at e;exact h.r g xW fr' hg e⟩
structure Gr3(x:WdW)(w w':World):Prop where
 os:w'.os=w.os
 tape:w'.tape=w.tape
 output:w'.output=w.output
 size:w.heap.size<=w'.heap.size
 block:∀i,i<w.heap.size->i≠x.B->i≠x.D->(x.base<=i->∀cs fr,w.heap[i]?≠some (.cells cs knT fr))->w'.heap[i]?=w.heap[i]?
theorem Gr3.refl(x:WdW)(w:World):Gr3 x w w:=⟨rfl,rfl,rfl,Nat.le_refl _,λ_ _ _ _ _=>rfl⟩
theorem Gr3.trans{x:WdW}{a b c:World}(h:Gr3 x a b)(k:Gr3 x b c):Gr3 x a c:=
 ⟨k.os.trans h.os,k.tape.trans h.tape,k.output.trans h.output,Nat.le_trans h.size k.size,λi hi h1 h2 h3=>by
  have e:=h.block i hi h1 h2 h3;rw[k.block i (Nat.lt_of_lt_of_le hi h.size) h1 h2 (by rw[e];exact h3),e]⟩
theorem Gr3.of_below{x:WdW}{w w':World}(h:Ybw w w'):Gr3 x w w':=⟨h.os,h.tape,h.output,h.size,λi hi _ _ _=>h.block i hi⟩
theorem Gr3.alloc(x:WdW)(w:World)(o:Obj):Gr3 x w (w.alloc o):=.of_below ((Below.refl _ _).alloc Ylr o)
theorem Gr3.isin{x:WdW}{K:Kn}{w w':World}(hx:KnW x K)(hK:K.In w)(h:Gr3 x w w'):K.In w':=λb o e=>by
 rw[h.block b (hK.lt e) (λe2=>by rw[e2,hx.b] at e;cases e) (λe2=>by rw[e2,hx.d] at e;cases e) (λhb cs fr e2=>by
  rw[hK b o e] at e2;rw[e2] at e;exact hx.r b cs fr hb e)]
 exact hK b o e
theorem Gr3.heap{x:WdW}{w w':World}(h:Gr3 x w w'){b:Nat}{cs:Array Value}{t:TypeId}{fr:Nat×Nat}(hw:w.heap[b]?=some (.cells cs t fr))(hb:x.B<b)(hd:x.D<b)(ht:t≠knT):w'.heap[b]?=some (.cells cs t fr):=by
 rw[h.block b (Zlt hw) (by omega) (by omega) (λ_ xW fr' e=>by rw[hw] at e;cases e;exact ht rfl)];exact hw
theorem Gr3.own{x:WdW}{w w':World}(h:Gr3 x w w'){base:Nat}{e:TypeId}{k n:Nat}{v:Value}{xs:List Value}(ho:w.ownsRow base e k v n xs)(hb:x.B<base)(hd:x.D<base)(he:e≠knT):w'.ownsRow base e k v n xs:=by
 refine⟨ho.1,ho.2.imp id ?_⟩;rintro⟨g,Ha,cur,h1,h2,h3,h4⟩;exact⟨g,Ha,cur,h1,h2,h.heap h3 (by omega) (by omega) he,h4⟩
theorem Gr3.setCell{x:WdW}{a w:World}(h:Gr3 x a w){b:Nat}(hb:b=x.B\/b=x.D\/a.heap.size<=b)(i:Nat)(v:Value):Gr3 x a (w.setCell ⟨b,i,none⟩ v):=
 ⟨h.os,h.tape,h.output,by simpa using h.size,λj hj h1 h2 h3=>by
  rw[Below.heap_setCell w ⟨b,i,none⟩ v j (λe=>by
   have e:j=b:=e;rcases hb with h|h|h<;>omega)]
  exact h.block j hj h1 h2 h3⟩
structure WdS(x:WdW)(K:Kn)(w:World)(T:List Bool)(u:Value)(kl:List KE):Prop where
 isin:K.In w
 box:w.heap[x.B]?=some (.cells (x.cells u) wdT (0,0))
 row:w.ownsRow x.base knT 4 u kl.length (knXs kl)
 good:∀y∈kl,y.2.2=x.fv y.1 y.2.1
 lo:∀y∈kl,y.1<x.p.fl.length/\y.2.1<x.ins.length
 nd:(kl.map λy=>y.2.1 * x.p.fl.length+y.1).Nodup
 trap:w.heap[x.D]?=some (.cells (T.map Value.bool).toArray 4 (0,0))
 len:T.length=x.ins.length
 mark:∀i,T.getD i false=true->x.tr i=true
 low:x.base<=w.heap.size
structure WdN(x:WdW)(K:Kn)(i r:Nat)(w:World)(T:List Bool)(kl:List KE)(w':World)(T':List Bool)(u':Value)(kl':List KE):Prop where
 st:WdS x K w' T' u' kl'
 gr:Gr3 x w w'
 up:∀j,T.getD j false=true->T'.getD j false=true
 new:∀y∈kl',y∈kl\/KLt x i r y
theorem WdS.refl{x:WdW}{K:Kn}{w:World}{T:List Bool}{u:Value}{kl:List KE}(h:WdS x K w T u kl)(i r:Nat):WdN x K i r w T kl w T u kl:=⟨h,.refl x w,λ_ h=>h,λ_ h => .inl h⟩
theorem WdN.trans{x:WdW}{K K2:Kn}{i r i2 r2:Nat}{w w1 w2:World}{T T1 T2:List Bool}{u1 u2:Value}{kl Hz zS:List KE}(h:WdN x K i r w T kl w1 T1 u1 Hz)(k:WdN x K2 i2 r2 w1 T1 Hz w2 T2 u2 zS)(hl:i2<i\/i2=i/\r2<=r):WdN x K2 i r w T kl w2 T2 u2 zS:=
 ⟨k.st,h.gr.trans k.gr,λj hj=>k.up j (h.up j hj),λy hy=>by
  rcases k.new y hy with hy|hy
  .exact h.new y hy
  right;unfold KLt at hy ⊢;omega⟩
theorem WdS.kn{x:WdW}{K K':Kn}{w:World}{T:List Bool}{u:Value}{kl:List KE}(h:WdS x K w T u kl)(hK:K'.In w):WdS x K' w T u kl:=⟨hK,h.box,h.row,h.good,h.lo,h.nd,h.trap,h.len,h.mark,h.low⟩
theorem WdS.below{x:WdW}{K:Kn}{w w':World}{T:List Bool}{u:Value}{kl:List KE}(h:WdS x K w T u kl)(hb:Ybw w w'):WdS x K w' T u kl:=
 ⟨h.isin.below hb,by rw[hb.block _ (Zlt h.box)];exact h.box,Za1 h.row hb,h.good,h.lo,h.nd,by rw[hb.block _ (Zlt h.trap)];exact h.trap,h.len,h.mark,Nat.le_trans h.low hb.size⟩
theorem WdN.below{x:WdW}{K:Kn}{i r:Nat}{w w1 w2:World}{T T1:List Bool}{u1:Value}{kl Hz:List KE}(h:WdN x K i r w T kl w1 T1 u1 Hz)(hb:Ybw w1 w2):WdN x K i r w T kl w2 T1 u1 Hz:=
 ⟨h.st.below hb,h.gr.trans (.of_below hb),h.up,h.new⟩
theorem WdN.alloc{x:WdW}{K:Kn}{i r:Nat}{w w1:World}{T T1:List Bool}{u1:Value}{kl Hz:List KE}(h:WdN x K i r w T kl w1 T1 u1 Hz)(o:Obj):WdN x K i r w T kl (w1.alloc o) T1 u1 Hz:=h.below ((Below.refl _ _).alloc Ylr o)
theorem WdN.kn{x:WdW}{K K':Kn}{i r:Nat}{w w1:World}{T T1:List Bool}{u1:Value}{kl Hz:List KE}(h:WdN x K i r w T kl w1 T1 u1 Hz)(hK:K'.In w1):WdN x K' i r w T kl w1 T1 u1 Hz:=⟨h.st.kn hK,h.gr,h.up,h.new⟩
theorem WdS.setOwn{x:WdW}{K:Kn}{w:World}{T:List Bool}{u:Value}{kl:List KE}(h:WdS x K w T u kl){b:Nat}(hb:x.B<b)(hd:x.D<b)(hK:K b=none){cs:Array Value}{t:TypeId}{fr:Nat×Nat}(hw:w.heap[b]?=some (.cells cs t fr))(ht:t≠knT)(i:Nat)(v:Value):WdS x K (w.setCell ⟨b,i,none⟩ v) T u kl:=
 ⟨h.isin.setCell (a:=⟨b,i,none⟩) hK v,by rw[Below.heap_setCell w ⟨b,i,none⟩ v x.B (by show x.B≠b;omega)];exact h.box,
  Zam h.row (a:=⟨b,i,none⟩) (λe=>by
   rcases h.row.2 with ⟨h1,_⟩|⟨g,Ha,cur,h1,h2,h3,_⟩
   .rw [h1] at e;cases e
   rw[h1] at e;cases e;rw[hw] at h3;cases h3;exact ht rfl) v,h.good,h.lo,h.nd,by rw[Below.heap_setCell w ⟨b,i,none⟩ v x.D (by show x.D≠b;omega)];exact h.trap,h.len,h.mark,by simpa using h.low⟩
theorem WdN.setOwn{x:WdW}{K:Kn}{i r:Nat}{w w1:World}{T T1:List Bool}{u1:Value}{kl Hz:List KE}(h:WdN x K i r w T kl w1 T1 u1 Hz){b:Nat}(kL:w.heap.size<=b)(hb:x.B<b)(hd:x.D<b)(hK:K b=none){cs:Array Value}{t:TypeId}{fr:Nat×Nat}(hw:w1.heap[b]?=some (.cells cs t fr))(ht:t≠knT)(j:Nat)(v:Value):WdN x K i r w T kl (w1.setCell ⟨b,j,none⟩ v) T1 u1 Hz:=
 ⟨h.st.setOwn hb hd hK hw ht j v,h.gr.setCell (.inr (.inr kL)) j v,h.up,h.new⟩
theorem WdN.note{x:WdW}{K:Kn}{i r:Nat}{w w1:World}{T T1:List Bool}{u1:Value}{kl Hz:List KE}(h:WdN x K i r w T kl w1 T1 u1 Hz)(hx:KnW x K)(hBD:x.B≠x.D)(hDb:x.D<x.base){j:Nat}(ht:x.tr j=true):WdN x K i r w T kl (w1.setCell ⟨x.D,j,none⟩ (.bool true)) (T1.set j true) u1 Hz:=by
 refine⟨⟨h.st.isin.setCell (a:=⟨x.D,j,none⟩) hx.d _,?_,Zam h.st.row (a:=⟨x.D,j,none⟩) (Zbj h.st.row hDb) _,h.st.good,h.st.lo,h.st.nd,?_,?_,?_,?_⟩,h.gr.setCell (.inr (.inl rfl)) j _,?_,h.new⟩
 .rw [Below.heap_setCell w1 ⟨x.D,j,none⟩ _ x.B hBD];exact h.st.box
 .have:=Zaa w1 x.D j (.bool true) _ _ _ h.st.trap;simpa[List.map_set] using this
 .simpa using h.st.len
 .intro k hk;by_cases e:j=k
  .rw [<- e];exact ht
  exact h.st.mark k (by simpa[Ygg,List.getElem?_set,e] using hk)
 .simpa using h.st.low
 intro k hk;have:=h.up k hk;by_cases e:j=k
 .subst e;have hl:j<T1.length:=by
   refine Classical.byContradiction λhn=>?_;rw[Ygg,List.getElem?_eq_none (by omega)] at this;cases this
  simp[Ygg,hl]
 simpa[Ygg,List.getElem?_set,e] using this
theorem WdS.cell{x:WdW}{K:Kn}{w:World}{T:List Bool}{u:Value}{kl:List KE}(h:WdS x K w T u kl)(i:Nat):w.cell? ⟨x.B,i,none⟩=(x.cells u)[i]?:=by simp[World.cell?,h.box]
theorem WdS.few{x:WdW}{K:Kn}{w:World}{T:List Bool}{u:Value}{kl:List KE}(h:WdS x K w T u kl):kl.length<=x.ins.length * x.p.fl.length:=by
 have:=Zij (x.ins.length * x.p.fl.length) _ h.nd (λz hz=>by
  obtain⟨y,hy,rfl⟩:=List.mem_map.1 hz;obtain⟨h1,h2⟩:=h.lo y hy;show y.2.1 * x.p.fl.length+y.1<x.ins.length * x.p.fl.length;have h3:(y.2.1+1) * x.p.fl.length<=x.ins.length * x.p.fl.length:=Nat.mul_le_mul_right _ h2;rw[Nat.succ_mul] at h3;omega)
 simpa using this
theorem Ziq:∀(l:List KE) (k:Nat) (h:k<l.length) (j:Nat),j<4->(knXs l)[k * 4+j]?=(knX l[k])[j]?
 | [],k,h,j,_=>by simp at h
 |y :: l,0,_,j,hj=>by
  unfold knXs;rw[List.flatMap_cons,List.getElem?_append_left (by simp only[knX,List.length_cons,List.length_nil];omega)];simp
 |y :: l,k+1,h,j,hj=>by
  have:=Ziq l k (by simpa using h) j hj;unfold knXs at this ⊢;rw[List.flatMap_cons,List.getElem?_append_right (by simp only[knX,List.length_cons,List.length_nil];omega)];simp only[knX,List.length_cons,List.length_nil,List.getElem_cons_succ] at this ⊢;rw[show(k+1) * 4+j - (0+1+1+1+1)=k * 4+j from by omega];exact this
theorem knXs_at(l:List KE)(k:Nat)(h:k<l.length):(knXs l)[k * 4]?=some (.int .i64 l[k].1)/\(knXs l)[k * 4+1]?=some (.int .i64 l[k].2.1)/\(knXs l)[k * 4+2]?=some (.int .i64 l[k].2.2.kind)/\(knXs l)[k * 4+3]?=some (.int .i64 l[k].2.2.n):=
 ⟨Ziq l k h 0 (by omega),Ziq l k h 1 (by omega),Ziq l k h 2 (by omega),Ziq l k h 3 (by omega)⟩
theorem WdS.ownK{x:WdW}{K:Kn}{w:World}{T:List Bool}{u:Value}{kl:List KE}(h:WdS x K w T u kl)(hx:KnW x K):∀g,u.ownBlock=some g->K g=none:=λg hg=>by
 rcases h.row.2 with ⟨h1,_⟩|⟨g',Ha,cur,h1,h2,h3,_⟩
 .rw [h1] at hg;cases hg
 rw[h1] at hg;cases hg;cases hk:K g' with
 |none=>rfl
 |some o=>
  have h4:=h.isin _ _ hk;rw[h3] at h4;cases h4;exact absurd hk (hx.r g' cur (0,0) h2)
theorem WdN.grow{x:WdW}{K:Kn}{i r r2:Nat}{w w1 w3:World}{T T1:List Bool}{u1:Value}{kl Hz:List KE}(h:WdN x K i r w T kl w1 T1 u1 Hz)(hx:KnW x K)(ka:x.B≠x.D/\x.B<x.base/\x.D<x.base){gg Hh:Nat}{y:KE}
  (Hb:w3.ownsRow x.base knT 4 (.slice (some ⟨gg,0,none⟩) (Hz.length+1) Hh) (Hz.length+1) (knXs Hz++knX y)) (hg:w1.grownBy w3 u1.ownBlock) (hy:y.2.2=x.fv y.1 y.2.1) (hlo:y.1<x.p.fl.length/\y.2.1<x.ins.length) (je:∀z∈Hz,¬(z.1=y.1/\z.2.1=y.2.1)) (hr:r<=r2) (hyr:KLt x i r2 y):
  WdN x K i r2 w T kl (w3.setCell ⟨x.B,11,none⟩ (.slice (some ⟨gg,0,none⟩) (Hz.length+1) Hh)) T1 (.slice (some ⟨gg,0,none⟩) (Hz.length+1) Hh) (Hz++[y]):=by
 have hB:w3.heap[x.B]?=some (.cells (x.cells u1) wdT (0,0)):=by
  rw[hg.block _ (Zlt h.st.box) (λe=>Zbj h.st.row ka.2.1 e.symm)];exact h.st.box
 have hD:w3.heap[x.D]?=some (.cells (T1.map Value.bool).toArray 4 (0,0)):=by
  rw[hg.block _ (Zlt h.st.trap) (λe=>Zbj h.st.row ka.2.2 e.symm)];exact h.st.trap
 refine⟨⟨(h.st.isin.grown hg (h.st.ownK hx)).setCell (a:=⟨x.B,11,none⟩) hx.b _,?_,?_,?_,?_,?_,?_,h.st.len,h.st.mark,Nat.le_trans h.st.low (by simpa using hg.size)⟩,⟨hg.os.trans h.gr.os,hg.tape.trans h.gr.tape,hg.output.trans h.gr.output,Nat.le_trans h.gr.size (by simpa using hg.size),λj hj h1 h2 h3=>?_⟩,h.up,λz hz=>?_⟩
 .rw [Zaa _ _ _ _ _ _ _ hB];rfl
 .have e:knXs (Hz++[y])=knXs Hz++knX y:=by simp[knXs]
  rw[e,show(Hz++[y]).length=Hz.length+1 from by simp];exact Zam Hb (a:=⟨x.B,11,none⟩) (Zbj Hb ka.2.1) _
 .intro z hz;rcases List.mem_append.1 hz with hz|hz
  .exact h.st.good z hz
  rw[List.mem_singleton.1 hz];exact hy
 .intro z hz;rcases List.mem_append.1 hz with hz|hz
  .exact h.st.lo z hz
  rw[List.mem_singleton.1 hz];exact hlo
 .rw [List.map_append,List.nodup_append];refine⟨h.st.nd,by simp,λa ha b hb e=>?_⟩;obtain⟨z,hz,rfl⟩:=List.mem_map.1 ha;obtain rfl:b=y.2.1 * x.p.fl.length+y.1:=by simpa using hb
  have h1:=(h.st.lo z hz).1;have h2:=hlo.1;have e1:z.2.1=y.2.1:=by
   rcases Nat.lt_trichotomy z.2.1 y.2.1 with hl|hl|hl
   .have:(z.2.1+1) * x.p.fl.length<=y.2.1 * x.p.fl.length:=Nat.mul_le_mul_right _ hl;rw[Nat.succ_mul] at this;omega
   .exact hl
   have:(y.2.1+1) * x.p.fl.length<=z.2.1 * x.p.fl.length:=Nat.mul_le_mul_right _ hl;rw[Nat.succ_mul] at this;omega
  rw[e1] at e;exact je z hz ⟨by omega,e1⟩
 .rw [Below.heap_setCell w3 ⟨x.B,11,none⟩ _ x.D (Ne.symm ka.1)];exact hD
 .rw [Below.heap_setCell w3 ⟨x.B,11,none⟩ _ j h1];have e:=h.gr.block j hj h1 h2 h3;rw[hg.block j (Nat.lt_of_lt_of_le hj h.gr.size) (λe2=>?_),e];rcases h.st.row.2 with ⟨q1,_⟩|⟨g',Ha,cur,q1,q2,q3,_⟩
  .rw [q1] at e2;cases e2
  rw[q1] at e2;cases e2;rw[q3] at e;exact h3 q2 cur (0,0) e.symm
 rcases List.mem_append.1 hz with hz|hz
 .rcases h.new z hz with hz|hz
  .exact .inl hz
  right;unfold KLt at hz ⊢;omega
 rw[List.mem_singleton.1 hz];exact .inr hyr
theorem WdN.put2{x:WdW}{K:Kn}{i r:Nat}{w w1:World}{T T1:List Bool}{u1:Value}{kl Hz:List KE}(h:WdN x K i r w T kl w1 T1 u1 Hz){b:Nat}(kL:w.heap.size<=b)(hb:x.B<b)(hd:x.D<b)(hK:K b=none){p q:Value}{t:TypeId}(hw:w1.heap[b]?=some (.cells #[p,q] t (0,0)))(ht:t≠knT)(u v:Value):
  WdN x K i r w T kl ((w1.setCell ⟨b,0,none⟩ u).setCell ⟨b,1,none⟩ v) T1 u1 Hz:=
 (h.setOwn kL hb hd hK hw ht 0 u).setOwn kL hb hd hK (Zaa w1 b 0 u _ _ _ hw) ht 1 v
theorem WdN.more{x:WdW}{K:Kn}{i r r2:Nat}{w w1:World}{T T1:List Bool}{u1:Value}{kl Hz:List KE}(h:WdN x K i r w T kl w1 T1 u1 Hz)(hr:r<=r2):WdN x K i r2 w T kl w1 T1 u1 Hz:=
 ⟨h.st,h.gr,h.up,λy hy=>(h.new y hy).imp id λh=>by unfold KLt at h ⊢;omega⟩
end Go.Proofs.YtafapnolamcdmaaGreatDoor
