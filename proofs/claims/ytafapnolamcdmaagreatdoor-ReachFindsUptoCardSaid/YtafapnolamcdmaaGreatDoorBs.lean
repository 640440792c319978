/- What several families lean on: names of a program, known memory but for one block. -/
import Derived.Test.YtafapnolamcdmaaGreatDoorRunC
import Derived.Test.YtafapnolamcdmaaGreatDoorRfA
set_option linter.all false
namespace Go.Proofs.YtafapnolamcdmaaGreatDoor
set_option maxRecDepth 100000
set_option maxHeartbeats 16000000
open Go.RowKit Mx
def noKn(R:Nat)(w:World):Kn:=λb=>if b=R then none else w.heap[b]?
theorem Zgh(R:Nat)(w:World):(noKn R w).In w:=λb o e=>by
 unfold noKn at e
 split at e
 .cases e
 exact e
theorem Zfb(R:Nat)(w:World):noKn R w R=none:=by simp[noKn]
theorem Zgg{R:Nat}{w:World}{K:Kn}(h:K.In w)(hR:K R=none):K.le (noKn R w):=λb o e=>by
 unfold noKn;rw[if_neg (λe2=>by rw[e2,hR] at e;cases e)];exact h b o e
theorem Zep{R:Nat}{w:World}{b:Nat}(h:b≠R)(i:Nat):(noKn R w).cell b i=w.cell? ⟨b,i,none⟩:=by
 rw[<- Zaj];simp[Kn.cell,noKn,Zan,h]
theorem Zgq:∀(l:List (ByteArray×Int)) (m ks:Env Int),Zao m l=some ks->(∀s k,m s=some k->k=1\/k=2)->∀s k,ks s=some k->k=1\/k=2
 | [],m,ks,h,hm,s,k,hk=>by simp only[Zao] at h;cases h;exact hm s k hk
 |y :: l,m,ks,h,hm,s,k,hk=>by
  simp only[Zao] at h
  split at h
  .rename_i hc
   refine Zgq l _ ks h (λs' k' h'=>?_) s k hk;by_cases e:s'=y.1
   .rw [e,Env.set_self] at h';cases h';exact hc.2.2
   rw[Env.set_other _ _ e] at h';exact hm s' k' h'
  cases h
theorem fresh_has:∀(l:List (ByteArray×Int)) (m ks:Env Int),Zao m l=some ks->(∀s k,m s=some k->ks s=some k)/\∀x∈l,ks x.1=some x.2
 | [],m,ks,h=>by simp only[Zao] at h;cases h;exact⟨λ_ _ h=>h,λx hx=>by cases hx⟩
 |y :: l,m,ks,h=>by
  simp only[Zao] at h
  split at h
  .rename_i hc
   obtain⟨h1,h2⟩:=fresh_has l _ ks h;refine⟨λs k hk=>h1 s k ?_,λx hx=>?_⟩
   .have Hs:s≠y.1:=λe=>by
     have h3:=hc.1;rw[<- e,hk] at h3;cases h3
    rw[Env.set_other _ _ Hs];exact hk
   rcases List.mem_cons.1 hx with rfl|hx
   .exact h1 _ _ (Env.set_self ..)
   exact h2 x hx
  cases h
theorem Zdg(ks:Env Int):∀l:List Ex,Zap ks l=l.map (Zai ks)
 | []=>rfl
 |e :: l=>by rw[Zap,Zdg ks l];rfl
theorem Zkv(b:Bool):Zaq (tv b) 1=true:=by cases b<;>decide
theorem right_wv(n:Int):Zaq (wv n) 2=true:=by
 have h1:=Int.emod_nonneg n (show(256:Int)≠0 by decide);have h2:=Int.emod_lt_of_pos n (show(0:Int)<256 by decide);unfold Zaq wv Zdt;simp only[decide_true,Bool.true_and]
 split<;>simp<;>omega
theorem right_nil{nb:Bool}{ni:Int}(h1 : -128<=ni)(h2:ni<=127){k:Int}(hk:k=1\/k=2):Zaq (nilV nb ni k) k=true:=by
 unfold nilV;rcases hk with rfl|rfl
 .exact Zkv nb
 simp[Zaq,h1,h2]
theorem Zel{v:Vl}{k:Int}(h:Zaq v k=true):v.kind=k/\(k=1\/k=2):=by
 unfold Zaq at h;simp only[Bool.and_eq_true,decide_eq_true_eq] at h;refine⟨h.1,?_⟩;by_cases e:k=1
 .exact .inl e
 rw[if_neg e] at h;simp only[Bool.and_eq_true,decide_eq_true_eq] at h;exact .inr h.2.1.1
def opsL:List ByteArray:=[oInt,Zc9,Zch,Zb2,oNot,oNeg,oPre,oIf,Zko,Zbk,oFby,oOr,oXor,oAnd,oEq,oNe,oLt,oLe,oGt,oGe,oImp,oAdd,oSub,oMul,oDiv,oMod]
theorem arity_ops{o:ByteArray}{k:Int}(h:Zcx o=some k):o∈opsL:=by
 unfold Zcx at h;unfold opsL;simp only[List.mem_cons,List.not_mem_nil,or_false]
 split at h
 .rename_i e;rcases e with e|e|e|e<;>simp[e]
 split at h
 .rename_i e;rcases e with e|e|e<;>simp[e]
 split at h
 .rename_i e;simp[e]
 split at h
 .rename_i e;simp[e]
 split at h
 .rename_i e;rcases e with e|e<;>simp[e]
 split at h
 .rename_i e
  simp only[levels,List.any_cons,List.any_nil,List.contains_cons,List.contains_nil,Bool.or_false,Bool.or_eq_true,beq_iff_eq] at e;rcases e with((e|e)|e|(e|e|e|e|e|e|e)|(e|e)|(e|e|e))<;>simp[e]
 cases h
theorem app_right{o:ByteArray}{k:Int}(ho:o∈opsL)(n1:o≠oInt/\o≠Zc9/\o≠Zch/\o≠Zb2/\o≠oPre/\o≠Zbk/\o≠oFby/\o≠Zko){vs:List Vl}(hv:∀v∈vs,Zaq v v.kind=true)
  (hk:Zct o k (vs.map (·.kind))≠0):if (appM o vs).2=true then Zct o k (vs.map (·.kind))=2 else Zaq (appM o vs).1 (Zct o k (vs.map (·.kind)))=true:=by
 obtain⟨a1,a2,a3,a4,a5,a6,a7,a8⟩:=n1;unfold opsL at ho;simp only[List.mem_cons,List.not_mem_nil,or_false,a1,a2,a3,a4,a5,a6,a7,a8,false_or] at ho;by_cases hif:o=oIf
 .subst hif;have e:Zct oIf k (vs.map (·.kind))=(if (vs.map (·.kind)).getD 0 0=1/\(vs.map (·.kind)).getD 1 0=(vs.map (·.kind)).getD 2 0 then(vs.map (·.kind)).getD 1 0 else 0):=rfl;have e2:appM oIf vs=(if (vs.getD 0 vz).n=1 then vs.getD 1 vz else vs.getD 2 vz,false):=rfl;rw[e] at hk ⊢;rw[e2];by_cases hc:(vs.map (·.kind)).getD 0 0=1/\(vs.map (·.kind)).getD 1 0=(vs.map (·.kind)).getD 2 0
  .rw [if_pos hc] at hk ⊢;have hg:∀j,(vs.map (·.kind)).getD j 0=(vs.getD j vz).kind:=λj=>by
    simp only[Ygg,List.getElem?_map];cases vs[j]?<;>rfl
   have hr:∀j,(vs.getD j vz).kind≠0->Zaq (vs.getD j vz) (vs.getD j vz).kind=true:=λj hj=>by
    by_cases hl:j<vs.length
    .have:vs.getD j vz=vs[j]:=by simp[Ygg,hl]
     rw[this];exact hv _ (Ymm hl)
    have:vs.getD j vz=vz:=by simp[Ygg,hl]
    rw[this] at hj;exact absurd rfl hj
   rw[hg 1,hg 2] at hc;rw[hg 1] at hk ⊢;simp only[Bool.false_eq_true,if_false]
   split
   .exact hr 1 hk
   rw[hc.2];exact hr 2 (by rw[<- hc.2];exact hk)
  rw[if_neg hc] at hk;exact absurd rfl hk
 have hs:∀c d:Bool,(if (c&&d)=true then(1:Int) else 0)≠0->(if (c&&d)=true then(1:Int) else 0)=1:=by intro c d;cases c<;>cases d<;>simp
 have jo:∀c:Bool,(if c=true then(1:Int) else 0)≠0->(if c=true then(1:Int) else 0)=1:=by intro c;cases c<;>simp
 have qG:∀c d:Bool,(if (c&&d)=true then(2:Int) else 0)≠0->(if (c&&d)=true then(2:Int) else 0)=2:=by intro c d;cases c<;>cases d<;>simp
 have T:∀{b:Bool} {x:Int},appM o vs=(tv b,false)->x=1->if (appM o vs).2=true then x=2 else Zaq (appM o vs).1 x=true:=λe ex=>by
  rw[e,ex];exact Zkv _
 have W:∀{n:Int} {x:Int},appM o vs=(wv n,false)->x=2->if (appM o vs).2=true then x=2 else Zaq (appM o vs).1 x=true:=λe ex=>by
  rw[e,ex];exact right_wv _
 generalize hK:vs.map (·.kind)=K at *;rcases ho with rfl|rfl|rfl|rfl|rfl|rfl|rfl|rfl|rfl|rfl|rfl|rfl|rfl|rfl|rfl|rfl|rfl|rfl
 .exact T rfl (hs _ _ hk)
 .exact W rfl (qG _ _ hk)
 .exact absurd rfl hif
 .exact T rfl (hs _ _ hk)
 .exact T rfl (hs _ _ hk)
 .exact T rfl (hs _ _ hk)
 .exact T rfl (jo _ hk)
 .exact T rfl (jo _ hk)
 .exact T rfl (hs _ _ hk)
 .exact T rfl (hs _ _ hk)
 .exact T rfl (hs _ _ hk)
 .exact T rfl (hs _ _ hk)
 .exact T rfl (hs _ _ hk)
 .exact W rfl (qG _ _ hk)
 .exact W rfl (qG _ _ hk)
 .exact W rfl (qG _ _ hk)
 .by_cases h0:(vs.getD 1 vz).n=0
  .have e:appM oDiv vs=(vz,true):=by unfold appM;generalize vs.getD 1 vz=b at h0 ⊢;simp[h0]
   rw[e];exact qG _ _ hk
  exact W (show appM oDiv vs=(wv ((vs.getD 0 vz).n.tdiv (vs.getD 1 vz).n),false) from by unfold appM;generalize vs.getD 1 vz=b at h0 ⊢;generalize vs.getD 0 vz=a;simp[h0]) (qG _ _ hk)
 by_cases h0:(vs.getD 1 vz).n=0
 .have e:appM oMod vs=(vz,true):=by unfold appM;generalize vs.getD 1 vz=b at h0 ⊢;simp[h0]
  rw[e];exact qG _ _ hk
 exact W (show appM oMod vs=(wv ((vs.getD 0 vz).n.tmod (vs.getD 1 vz).n),false) from by unfold appM;generalize vs.getD 1 vz=b at h0 ⊢;generalize vs.getD 0 vz=a;simp[h0]) (qG _ _ hk)
theorem Zem{ks:Env Int}{o:ByteArray}{n:Int}{s:ByteArray}{l:List Ex}(h:Zai ks (.mk o n s l)≠0):Zai ks (.mk o n s l)=Zct o ((ks s).getD 0) (Zap ks l)/\∀e∈l,Zai ks e≠0:=by
 simp only[Zai] at h ⊢;by_cases hc:(Zap ks l).contains 0=true
 .rw [if_pos hc] at h;exact absurd rfl h
 rw[if_neg hc];refine⟨rfl,λe he h0=>hc ?_⟩;rw[List.contains_iff_mem];clear h hc
 induction l with
 |nil=>cases he
 |cons x l ih=>
  simp only[Zap,List.mem_cons];rcases List.mem_cons.1 he with rfl|he
  .exact .inl h0.symm
  exact .inr (ih he)
theorem Ze9{p:Pr}(J0:Zak p=0){ks:Env Int}(hks:Zao Env.none p.vars=some ks):∀e∈p.terms,Zad ks e=true/\Zai ks e≠0:=by
 obtain⟨ks',kP,_,ji,_,_,_,hkg⟩:=Zb9 J0;rw[hks] at kP;cases kP;intro e he;obtain⟨i,hi,rfl⟩:=List.mem_iff_getElem.1 he;refine⟨(Zbe ks _).1 ji i hi,?_⟩;rw[(Zc4 ks _ _).1 hkg i hi];by_cases hf:i<p.fl.length
 .have:=(fresh_has _ _ _ hks).2 (p.fl[i].name,p.fl[i].kind) (by
   simp only[Pr.vars,List.mem_append,List.mem_map];exact .inr ⟨p.fl[i],Ymm _,rfl⟩)
  have h2:=Zgq _ _ _ hks (λs k h=>by simp[Env.none] at h) _ _ this;have e:(p.fl.map (·.kind)).getD i 1=p.fl[i].kind:=by simp[Ygg,hf]
  rw[e];simp only at h2;omega
 have e:(p.fl.map (·.kind)).getD i 1=1:=by simp[Ygg,hf]
 rw[e];decide
theorem form_int{n:Int}{s:ByteArray}{l:List Ex}(h:form (.mk oInt n s l)=true):0<=n/\n<=127:=by
 have:Zcx oInt=some 0:=rfl;simp only[form,Ex.op,this,Ex.n,Bool.and_eq_true,Bool.or_eq_true,decide_eq_true_eq] at h;rcases h.1.2 with h|h
 .have:=of_decide_eq_true h;omega
 have h1:=of_decide_eq_true h.1.2;have h2:=of_decide_eq_true h.2;omega
theorem nilOf_any(nb:Bool)(ni k:Int)(w:World):Calls Tryz.prog 72 #[.agg #[.bool nb,.int .i64 ni],.int .i64 k] w λe w'=>e=.returned (vlV (nilV nb ni k))/\Ybw w w':=by
 have hN:=heap_alloc_new w (.cells #[.bool nb,.int .i64 ni] 68);have Hg:Ybw w (w.alloc (.cells #[.bool nb,.int .i64 ni] 68)):=Yba;by_cases hk:k=1
 .subst hk;obtain⟨x,hx⟩:∃x:Int,x=if nb then 1 else 0:=⟨_,rfl⟩
  have jS:nilV nb ni 1=⟨1,x⟩:=by simp[nilV,tv,hx]
  have htv:tv nb=⟨1,x⟩:=by simp[tv,hx]
  rw[jS];clear jS;go_enter Tryz.func72,Tryz.ntmps72;go_wp2_with fail;have Hv:Ybw w ((w.alloc (.cells #[.bool nb,.int .i64 ni] 68)).alloc (.cells Yo2 101)):=Hg.alloc (by simp) _;have hR:=heap_alloc_new (w.alloc (.cells #[.bool nb,.int .i64 ni] 68)) (.cells Yo2 101);have J5:((w.alloc (.cells #[.bool nb,.int .i64 ni] 68)).alloc (.cells Yo2 101)).heap.size=w.heap.size+2:=by simp
  rw[World.size_alloc] at hR;generalize (w.alloc (.cells #[.bool nb,.int .i64 ni] 68)).alloc (.cells Yo2 101)=W at *;have Hf:=Zd5 nb W;rw[htv] at Hf;clear htv hx;refine Hf.mono ?_;rintro r w3 ⟨rfl,Jg⟩;have Js:=Zhd (Hv.trans (Jg.mono (by omega)));have qB:=(Jg.block (w.heap.size+1) (by omega)).trans hR;obtain⟨q0,q1,f0,f1,kt⟩:=Zal qB;obtain⟨e0,e1,e2,e3⟩:=Zbb qB (.int .i64 1) (.int .i64 x);have E0:=Zhd e0;have E1:=Zhd e1;clear e0 e1 e2 e3 qB hN hR;go_wp2_with fail;have e0:=E0.out;have e1:=E1.out;refine bodyPost_ret (v:=vlV ⟨1,x⟩) (by simp[results,Tryz.results72,go_sem,e0,e1]) rfl ?_;exact⟨rfl,Zb0 Js.out (by omega) _ _⟩
 go_enter Tryz.func72,Tryz.ntmps72;go_wp2_with fail;refine bodyPost_ret (v:=vlV (nilV nb ni k)) (by simp[results,Tryz.results72,go_sem,nilV,hk]) rfl ?_;exact⟨rfl,Yba.alloc (by simp) _⟩
def fIdx(p:Pr):Env Nat:=λs=>p.fl.findIdx? λf=>decide (f.name=s)
def fInt(p:Pr)(s:ByteArray):Int:=match fIdx p s with|some i=>(i:Int)|none => -1
theorem fIdx_found(p:Pr)(s:ByteArray)(k:Nat)(hk:k<p.fl.length)(hp:p.fl[k].name=s)(hn:∀i (hi:i<p.fl.length),i<k->p.fl[i].name≠s):fInt p s=(k:Int):=by
 have:p.fl.findIdx? (λf=>decide (f.name=s))=some k:=by
  rw[List.findIdx?_eq_some_iff_getElem];exact⟨hk,by simpa using hp,λj hj=>by simpa using hn j (by omega) hj⟩
 simp[fInt,fIdx,this]
theorem fIdx_none(p:Pr)(s:ByteArray)(hn:∀i (hi:i<p.fl.length),p.fl[i].name≠s):fInt p s = -1:=by
 have:p.fl.findIdx? (λf=>decide (f.name=s))=none:=by
  rw[List.findIdx?_eq_none_iff];intro x hx;obtain⟨i,hi,rfl⟩:=List.mem_iff_getElem.1 hx;simpa using hn i hi
 simp[fInt,fIdx,this]
theorem fInt_cases(p:Pr)(s:ByteArray):(fIdx p s=none/\fInt p s = -1)\/∃k:Nat,k<p.fl.length/\fIdx p s=some k/\fInt p s=(k:Int):=by
 unfold fInt;cases h:fIdx p s with
 |none=>exact .inl ⟨rfl,rfl⟩
 |some k=>
  refine .inr ⟨k,?_,rfl,rfl⟩;unfold fIdx at h;rw[List.findIdx?_eq_some_iff_getElem] at h;exact h.1
theorem Zhh(H:Kn)(p:Pr)(vi vo vl va vc:Value)(hp:PrP H p vi vo vl va vc)(hl:p.fl.length<=1000000000)(s:ByteArray)(w:World)(hH:H.In w):
  Calls Tryz.prog 66 #[.agg #[vi,vo,vl,va,vc],.string s] w λr w'=>r=.returned (.int .i64 (fInt p s))/\Ybw w w':=by
 obtain⟨h1,h2,h3,h4,h5⟩:=hp;obtain⟨ai,ci,ao,co,al,cl,aa,ca,ac,cc,rfl,rfl,rfl,rfl,rfl⟩:=Ypo h1.len h2.len h3.len h4.len h5.len;have H3:=Zhd h3;clear h1 h2 h3 h4 h5;go_enter Tryz.func66,Tryz.ntmps66;have Hg:Ybw w (w.alloc (.cells (Yq5 p ai ao al aa ac ci co cl ca cc) 27)):=Yba;have m2:(w.alloc (.cells (Yq5 p ai ao al aa ac ci co cl ca cc) 27)).cell? ⟨w.heap.size,2,none⟩=some (.slice al p.fl.length cl):=by rw[World.cell?_alloc_new];rfl
 go_wp2_with fail;generalize w.alloc (.cells (Yq5 p ai ao al aa ac ci co cl ca cc) 27)=W1 at *;have J4:=Zhd Hg;have kp:=hH.below Hg;clear Hg;go_loop[5] (λi=>∃k:Nat,k<=p.fl.length/\i=.int .i64 k/\(∀i (hi:i<p.fl.length),i<k->p.fl[i].name≠s)) (λi=>p.fl.length - (intOf i).toNat)
 case atStart=>exact⟨0,Nat.zero_le _,rfl,by intro i _ h;omega⟩
 obtain⟨k,hk,rfl,hn⟩:=hrel;have HN:=Zhd hn;clear hn;by_cases Hr:k<p.fl.length
 .obtain⟨b,off,Qd,he,_,_,JJ⟩:=FlsV.cell H3.out (λe=>by rw[e] at Hr;simp at Hr);cases he;obtain⟨_,_,d0,_⟩:=JJ k Hr;have d0:=kp.cell d0;clear JJ;by_cases he:p.fl[k].name=s
  .have HI:=Zhd (fIdx_found p s k Hr he λi hi jp=>HN.out i hi jp);rw[he] at d0;have hq:(s.toList==s.toList)=true:=by simp
   clear he;go_wp2_with fail;go_ret;exact⟨Zaf HI.out.symm,J4.out⟩
  have HX:=Zhd (show ∀i (hi:i<p.fl.length),i<k+1->p.fl[i].name≠s from λi hi jp=>by
   by_cases hik':i<k
   .exact HN.out i hi hik'
   obtain rfl:i=k:=by omega
   exact he)
  have hq:(p.fl[k].name.toList==s.toList)=false:=by rw[str_eq];simpa using he
  generalize p.fl[k]=x at *;clear he;go_wp2_with fail;go_round
  case rel=>exact⟨k+1,by omega,by go_num,HX.out⟩
  simp[intOf];omega
 go_wp2_with fail;go_ret;exact⟨Zaf (fIdx_none _ _ λi hi=>HN.out i hi (by omega)).symm,J4.out⟩
def Zbz(n:Nat)(f:Nat->Bool):Array Value:=((List.range n).map λj=>Value.bool (f j)).toArray
theorem Zdh(n:Nat)(f:Nat->Bool):(Zbz n f).size=n:=by simp[Zbz]
theorem Zdl(n:Nat)(f:Nat->Bool)(j:Nat)(h:j<n):(Zbz n f)[j]?=some (.bool (f j)):=by simp[Zbz,h]
theorem Zjz(n:Nat)(f:Nat->Bool)(k:Nat)(b:Bool):(Zbz n f).setIfInBounds k (.bool b)=Zbz n (λj=>if j=k then b else f j):=by
 apply Array.ext_getElem?;intro j;rw[Array.getElem?_setIfInBounds];have e0:∀g:Nat->Bool,¬j<n->(Zbz n g)[j]?=none:=λg h=>Array.getElem?_eq_none (by rw[Zdh];omega);by_cases hj:j<n
 .rw [Zdl n (λj=>if j=k then b else f j) j hj,Zdl n f j hj];by_cases hk:k=j
  .subst hk;simp[Zdh,hj]
  simp[hk,Ne.symm hk]
 rw[e0 _ hj,e0 _ hj];by_cases hk:k=j
 .subst hk;simp[Zdh,hj]
 simp[hk]
theorem Zc5{n:Nat}{f g:Nat->Bool}(h:∀j,j<n->f j=g j):Zbz n f=Zbz n g:=by
 unfold Zbz
 congr 1
 exact List.map_congr_left λj hj=>by rw[h j (List.mem_range.1 hj)]
def onceP(o:ByteArray)(i:Nat):Bool := !(o.toList==[112,114,101])&&(!(o.toList==[102,98,121]) || (i==0))
def Zeu(at_:Env Nat)(o:ByteArray):Nat->List Ex->List Nat
 |_,[]=>[]
 |i,e :: l=>(if onceP o i then needs at_ e else [])++Zeu at_ o (i+1) l
theorem onceL_take(at_:Env Nat)(o:ByteArray):∀(l:List Ex) (i k:Nat) (h:k<l.length),Zeu at_ o i (l.take (k+1))=Zeu at_ o i (l.take k)++(if onceP o (i+k) then needs at_ l[k] else [])
 |e :: l,i,0,_=>by simp[Zeu]
 |e :: l,i,k+1,h=>by
  have:=onceL_take at_ o l (i+1) k (by simpa using h);simp only[List.take_succ_cons,Zeu,List.getElem_cons_succ];rw[this,List.append_assoc,show i+1+k=i+(k+1) from by omega]
theorem onceL_pre(at_:Env Nat)(o:ByteArray)(h:(o.toList==[112,114,101])=true):∀(l:List Ex) (i:Nat),Zeu at_ o i l=[]
 | [],_=>rfl
 |e :: l,i=>by simp[Zeu,onceP,h,onceL_pre at_ o h l]
theorem onceL_fby(at_:Env Nat)(o:ByteArray)(h0:(o.toList==[112,114,101])=false)(h:(o.toList==[102,98,121])=true):∀(l:List Ex) (i:Nat),0<i->Zeu at_ o i l=[]
 | [],_,_=>rfl
 |e :: l,i,hi=>by
  have:(i==0)=false:=by simp;omega
  simp[Zeu,onceP,h0,h,this,onceL_fby at_ o h0 h l (i+1) (by omega)]
theorem onceL_all(at_:Env Nat)(o:ByteArray)(h0:(o.toList==[112,114,101])=false)(h:(o.toList==[102,98,121])=false):∀(l:List Ex) (i:Nat),Zeu at_ o i l=Zcy at_ l
 | [],_=>by simp[Zeu,Zcy]
 |e :: l,i=>by simp[Zeu,onceP,h0,h,Zcy,onceL_all at_ o h0 h l (i+1)]
theorem needs_once(at_:Env Nat)(o:ByteArray)(n:Int)(s:ByteArray)(l:List Ex):needs at_ (.mk o n s l)=(if (o.toList==[110,97,109,101]) then(at_ s).toList else [])++Zeu at_ o 0 l:=by
 have e1:=dLit o [112,114,101];have e2:=dLit o [102,98,121];have e3:=dLit o [110,97,109,101];rw[<- e3];simp only[needs];by_cases h1:o=oPre
 .have hn:¬o=Zb2:=by rw[h1];decide
  have hp:(o.toList==[112,114,101])=true:=by rw[<- e1];simpa using h1
  have hn':¬o=(⟨⟨[110,97,109,101]⟩⟩:ByteArray):=hn;simp[h1,hn'];exact onceL_pre at_ oPre (by rw[<- h1];exact hp) l 0
 have hp:(o.toList==[112,114,101])=false:=by rw[<- e1];simpa using h1
 rw[if_neg h1];by_cases h2:o=oFby
 .have hf:(o.toList==[102,98,121])=true:=by rw[<- e2];simpa using h2
  have hn:¬o=(⟨⟨[110,97,109,101]⟩⟩:ByteArray):=by rw[h2];decide
  rw[if_pos h2];simp only[hn,decide_false,Bool.false_eq_true,if_false,List.nil_append];cases l with
  |nil=>rfl
  |cons e l=>simp[Zgj,Zeu,onceP,hp,onceL_fby at_ o hp hf l 1 (by omega)]
 have hf:(o.toList==[102,98,121])=false:=by rw[<- e2];simpa using h2
 rw[if_neg h2,onceL_all at_ o hp hf]
 congr 1
 by_cases h3:o=Zb2
 .have:o=(⟨⟨[110,97,109,101]⟩⟩:ByteArray):=h3;simp[h3]
 have:¬o=(⟨⟨[110,97,109,101]⟩⟩:ByteArray):=h3;rw[if_neg h3];simp[this]
theorem Zgp{a b c:World}{D:Nat}(h:a.grownBy b (some D))(k:b.grownBy c (some D)):a.grownBy c (some D):=
 ⟨k.os.trans h.os,k.tape.trans h.tape,k.output.trans h.output,Nat.le_trans h.size k.size,λj hj Hs=>(k.block j (Nat.lt_of_lt_of_le hj h.size) Hs).trans (h.block j hj Hs)⟩
theorem Ziy{a b:World}(D:Nat)(h:Ybw a b):a.grownBy b (some D):=⟨h.os,h.tape,h.output,h.size,λj hj _=>h.block j hj⟩
theorem gby_set{a:World}(D i:Nat)(v:Value):a.grownBy (a.setCell ⟨D,i,none⟩ v) (some D):=
 ⟨rfl,rfl,rfl,by simp[World.setCell],λj _ Hs=>Below.heap_setCell a _ v j (λe=>Hs (by rw[e]))⟩
theorem atOnce_any(p:Pr)(vi vo vl va vc:Value)(D:Nat)(hl:p.fl.length<=1000000000):∀(e:Ex) (v:Value) (H:Kn) (f:Nat->Bool),ExV H e v->e.parts<=1000000000000->PrP H p vi vo vl va vc->∀w:World,H.In w->H D=none->w.heap[D]?=some (.cells (Zbz p.fl.length f) 4 (0,0))->
  Calls Tryz.prog 104 #[.agg #[vi,vo,vl,va,vc],v,.slice (some ⟨D,0,none⟩) p.fl.length p.fl.length] w λr w'=>r=.returned (.tuple #[])/\w.grownBy w' (some D)/\w'.heap[D]?=some (.cells (Zbz p.fl.length λj=>f j || (needs (fIdx p) e).contains j) 4 (0,0)):=by
 refine Ex.ind λo n s l ih v H f hv hpe hp w hH hHD hD=>?_;have HP:=Zhd hp;obtain⟨h1,h2,h3,h4,h5⟩:=hp;obtain⟨ai,ci,ao,co,al,cl,aa,ca,ac,cc,rfl,rfl,rfl,rfl,rfl⟩:=Ypo h1.len h2.len h3.len h4.len h5.len;clear h1 h2 h3 h4 h5;obtain⟨u,rfl,hu⟩:=hv;simp only[Ex.op,Ex.n,Ex.s,Ex.l] at hu ⊢;simp only[Ex.parts] at hpe;obtain⟨a,Ha,rfl⟩:=hu.len;have xN:=Zbp l;have HU:=Zhd hu;have IH:=Zhd ih;have HNE:=Zhd (needs_once (fIdx p) o n s l);clear hu ih;have hDlt:D<w.heap.size:=(Zlt hD);have hPB:((w.alloc (.cells (Yq5 p ai ao al aa ac ci co cl ca cc) 27)).alloc (.cells (Yqe o n s a l.length Ha) 61)).heap[w.heap.size]?=some (.cells (Yq5 p ai ao al aa ac ci co cl ca cc) 27 (0,0)):=by
  rw[Below.heap_alloc _ _ _ (by simp)];exact heap_alloc_new _ _
 have hEB:((w.alloc (.cells (Yq5 p ai ao al aa ac ci co cl ca cc) 27)).alloc (.cells (Yqe o n s a l.length Ha) 61)).heap[w.heap.size+1]?=some (.cells (Yqe o n s a l.length Ha) 61 (0,0)):=by
  rw[show w.heap.size+1=(w.alloc (.cells (Yq5 p ai ao al aa ac ci co cl ca cc) 27)).heap.size from by simp];exact heap_alloc_new _ _
 have Hg:Ybw w ((w.alloc (.cells (Yq5 p ai ao al aa ac ci co cl ca cc) 27)).alloc (.cells (Yqe o n s a l.length Ha) 61)):=Yba.alloc (by simp) _;go_enter Tryz.func104,Tryz.ntmps104;generalize hW:(w.alloc (.cells (Yq5 p ai ao al aa ac ci co cl ca cc) 27)).alloc (.cells (Yqe o n s a l.length Ha) 61)=W at *;obtain⟨K,JQ⟩:∃K,K=(H.add w.heap.size (.cells (Yq5 p ai ao al aa ac ci co cl ca cc) 27 (0,0))).add (w.heap.size+1) (.cells (Yqe o n s a l.length Ha) 61 (0,0)):=⟨_,rfl⟩;have qC:H.le K:=by rw[JQ];exact Kn.le_trans (Kn.le_add (hH.isNone Ylr)) (Kn.le_add (by rw[Kn.add_other _ _ (by omega)];exact hH.isNone (by omega)))
 have JK:K.In W:=by rw[JQ];exact((hH.below Hg).add hPB).add hEB
 have hKD:K D=none:=by rw[JQ,Kn.add_other _ _ (by omega),Kn.add_other _ _ (by omega)];exact hHD
 have qi:∀i,K.cell w.heap.size i=((Yq5 p ai ao al aa ac ci co cl ca cc):Array Value)[i]?:=λi=>by unfold Kn.cell;rw[JQ,Kn.add_other _ _ (by omega),Kn.add_self]
 have jj:∀i,K.cell (w.heap.size+1) i=((Yqe o n s a l.length Ha):Array Value)[i]?:=λi=>by unfold Kn.cell;rw[JQ,Kn.add_self]
 have k0:K.cell w.heap.size 0=some (.slice ai p.ins.length ci):=qi 0;have k1:K.cell w.heap.size 1=some (.slice ao p.outs.length co):=qi 1;have k2:K.cell w.heap.size 2=some (.slice al p.fl.length cl):=qi 2;have k3:K.cell w.heap.size 3=some (.slice aa p.as.length ca):=qi 3;have k4:K.cell w.heap.size 4=some (.slice ac p.cs.length cc):=qi 4;have j0:K.cell (w.heap.size+1) 0=some (.string o):=jj 0;have j2:K.cell (w.heap.size+1) 2=some (.string s):=jj 2;have j3:K.cell (w.heap.size+1) 3=some (.slice a l.length Ha):=jj 3;have hPK:=HP.out.le qC;have hDW:W.heap[D]?=some (.cells (Zbz p.fl.length f) 4 (0,0)):=by rw[Hg.block D hDlt];exact hD
 have HG0:=Zhd (Ziy D Hg);have HEX:=Zhd (show ExsV K l (.slice a l.length Ha) from HU.out.le qC);have yC:=Zhd hPK;clear qi jj JQ hPB hEB Hg hH hHD hD HU HP;have m0:=JK.cell k0;have m1:=JK.cell k1;have m2:=JK.cell k2;have m3:=JK.cell k3;have m4:=JK.cell k4;have i0:=JK.cell j0;have i2:=JK.cell j2;have FL:=Zhd (λw2 (h:K.In w2)=>Zhh K p _ _ _ _ _ yC.out hl s w2 h);have hc:(o.toList==[110,97,109,101])=false\/((o.toList==[110,97,109,101])=true/\fIdx p s=none/\fInt p s = -1)\/((o.toList==[110,97,109,101])=true/\∃k:Nat,k<p.fl.length/\fIdx p s=some k/\fInt p s=(k:Int)):=by
  rcases Ybb (o.toList==[110,97,109,101]) with h|h
  .rcases fInt_cases p s with ⟨h1,h2⟩|h1
   .exact .inr (.inl ⟨h,h1,h2⟩)
   exact .inr (.inr ⟨h,h1⟩)
  exact .inl h
 have HKin:=Zhd JK;have QG:=Zhd hDW;clear JK hDW;go_upto_region 1 with(fail)
 try rw[hW]
 clear hW;rcases hc with e3|⟨e3,hi,hz⟩|⟨e3,kk,hkk,hi,hz⟩
 case' inl=>
  have Q0:=Zhd (show ∀j,f j=(f j || (if (o.toList==[110,97,109,101])=true then(fIdx p s).toList else []).contains j) from λj=>by rw[e3];simp);generalize kQ:f=f1 at QG Q0;have zd:=Zhd (show ∀j,f1 j=(f j || (if (o.toList==[110,97,109,101])=true then(fIdx p s).toList else []).contains j) from λj=>by rw[kQ];have:=Q0.out j;rw[<- this]);have HK1:=HKin;have HG1:=HG0;go_wp2_with fail;clear Q0 kQ;have HX:=Zhd (show ∃g:Nat->Bool,W.heap[D]?=some (.cells (Zbz p.fl.length g) 4 (0,0))/\∀j,g j=(f j || (if (o.toList==[110,97,109,101])=true then(fIdx p s).toList else []).contains j) from⟨_,QG.out,zd.out⟩)
 case' inr.inl=>
  have zd:=Zhd (show ∀j,f j=(f j || (if (o.toList==[110,97,109,101])=true then(fIdx p s).toList else []).contains j) from λj=>by rw[hi];simp);go_wp2_with(go_at_call 66;refine(FL.out _ HKin.out).mono ?_;rw[hz];rintro r w2 ⟨rfl,Hm⟩);have HK1:=Zhd (HKin.out.below Hm);have HG1:=Zhd (Zgp HG0.out (Ziy D Hm));have QG:=Zhd ((Hm.block D (Zlt QG.out)).trans QG.out);clear Hm;have HX:=Zhd (show ∃g:Nat->Bool,w2.heap[D]?=some (.cells (Zbz p.fl.length g) 4 (0,0))/\∀j,g j=(f j || (if (o.toList==[110,97,109,101])=true then(fIdx p s).toList else []).contains j) from⟨_,QG.out,zd.out⟩)
 case' inr.inr=>
  have vG:(kk:Int)<p.fl.length:=by omega
  have zd:=Zhd (show ∀j,(λj=>if j=kk then true else f j) j=(f j || (if (o.toList==[110,97,109,101])=true then(fIdx p s).toList else []).contains j) from λj=>by
   rw[hi,e3];by_cases h:j=kk
   .subst h;simp
   have:¬kk=j:=λe=>h e.symm;simp[h])
  go_wp2_with fail;refine(FL.out _ HKin.out).mono ?_;rw[hz];rintro r w2 ⟨rfl,Hm⟩;have hd:=(Hm.block D (Zlt QG.out)).trans QG.out;have hcD:w2.cell? ⟨D,kk,none⟩=some (.bool (f kk)):=by simp[World.cell?,hd,Zdl _ _ _ hkk]
  have hfD:w2.frozen? ⟨D,kk,none⟩=false:=by simp[World.frozen?,hd]
  have HD2:=Zhd hd;clear hd;go_wp2_with fail;have HK1:=Zhd ((HKin.out.below Hm).setCell (a:=⟨D,kk,none⟩) hKD (.bool true));have HG1:=Zhd (Zgp (Zgp HG0.out (Ziy D Hm)) (gby_set (a:=w2) D kk (.bool true)));have QG:=Zhd (Zaa w2 D kk (.bool true) _ _ _ HD2.out);rw[Zjz] at QG;clear Hm HD2 hcD hfD;generalize World.setCell _ _ _=w3 at *;have HX:=Zhd (show ∃g:Nat->Bool,w3.heap[D]?=some (.cells (Zbz p.fl.length g) 4 (0,0))/\∀j,g j=(f j || (if (o.toList==[110,97,109,101])=true then(fIdx p s).toList else []).contains j) from⟨_,QG.out,zd.out⟩)
 all_goals
  obtain⟨g,hgD,hgf⟩:=HX.out;have HGD:=Zhd hgD;have HGF:=Zhd hgf;clear hgD hgf HX zd QG;go_loopw[7] (λi wr=>∃k:Nat,i=.int .i64 k/\k<=l.length/\K.In wr/\w.grownBy wr (some D)/\wr.heap[D]?=some (.cells (Zbz p.fl.length λj=>g j || (Zeu (fIdx p) o 0 (l.take k)).contains j) 4 (0,0))) (λi _=>l.length - (intOf i).toNat)
  case atStart=>exact⟨0,rfl,Nat.zero_le _,HK1.out,HG1.out,by rw[HGD.out];congr 2;exact Zc5 λj _=>by simp[Zeu]⟩
  obtain⟨k,rfl,hk,kV,hgr,xh⟩:=hrel;have qP:=Zhd kV;have Ql:=Zhd hgr;have xI:=Zhd xh;have m0:=kV.cell k0;have m1:=kV.cell k1;have m2:=kV.cell k2;have m3:=kV.cell k3;have m4:=kV.cell k4;have i0:=kV.cell j0;have i3:=kV.cell j3;clear hgr xh;by_cases Hd:k<l.length
  .obtain⟨b,off,ax,cx,rfl,c0,c1,c2,c3,hx⟩:=HEX.out.at Hd;have Jy:l[k].parts<=1000000000000:=by have:=Za0 l k Hd;omega
   have Hl:=Ymm Hd;have HOT:=Zhd (onceL_take (fIdx p) o l 0 k Hd);rw[Nat.zero_add] at HOT;generalize l[k]=x at *;have yI:onceP o k=(!(o.toList==[112,114,101])&&(!(o.toList==[102,98,121]) || (k==0))):=rfl;have HOP:=Zhd yI;clear yI;have hcase:((o.toList==[112,114,101])=true)\/((o.toList==[112,114,101])=false/\(o.toList==[102,98,121])=true/\((k:Int)==0)=false/\(k==0)=false)\/((o.toList==[112,114,101])=false/\((o.toList==[102,98,121])=false\/((o.toList==[102,98,121])=true/\((k:Int)==0)=true/\(k==0)=true))):=by
    rcases Ybb (o.toList==[112,114,101]) with h|h
    .exact .inl h
    rcases Ybb (o.toList==[102,98,121]) with h'|h'
    .by_cases h0:k=0
     .exact .inr (.inr ⟨h,.inr ⟨h',by simp[h0],by simp[h0]⟩⟩)
     exact .inr (.inl ⟨h,h',by simpa using h0,by simpa using h0⟩)
    exact .inr (.inr ⟨h,.inl h'⟩)
   rcases hcase with ep|⟨ep,ef,z1,z2⟩|⟨ep,qm⟩
   .have HS:=Zhd (show Zeu (fIdx p) o 0 (l.take (k+1))=Zeu (fIdx p) o 0 (l.take k) from by rw[HOT.out,HOP.out,ep];simp);go_wp2_with fail;go_roundw
    case rel=>exact⟨k+1,by go_num,by omega,qP.out,Ql.out,by rw[HS.out];exact xI.out⟩
    simp[intOf];omega
   .have HS:=Zhd (show Zeu (fIdx p) o 0 (l.take (k+1))=Zeu (fIdx p) o 0 (l.take k) from by rw[HOT.out,HOP.out,ep,ef,z2];simp);go_wp2_with fail;go_roundw
    case rel=>exact⟨k+1,by go_num,by omega,qP.out,Ql.out,by rw[HS.out];exact xI.out⟩
    simp[intOf];omega
   have HS:=Zhd (show Zeu (fIdx p) o 0 (l.take (k+1))=Zeu (fIdx p) o 0 (l.take k)++needs (fIdx p) x from by
    rw[HOT.out,HOP.out,ep];rcases qm with h|⟨h,_,h0⟩
    .rw [h];simp
    rw[h,h0];simp)
   have Hq:K.In wr.drew:=kV;have hlk:l.length<=1000000000000:=by omega
   rcases qm with ef|⟨ef,j8,qf⟩
   all_goals
    go_wp2_with fail;refine Zae (λw'=>K.In w') (λ_=>True) 99 (by kernel_rfl) ?_;refine Go.w3 0 ?_
    iterate 7 ((first|(refine tk3 (v:=?_) rfl Hq Ztr ?hy ?_;(case hy=>intro w Hi;obtain⟨z0,z1,z2,z3,z4,z5,z6,z7,z8,z9⟩:=Hi.c10 k0 k1 k2 k3 k4 j3 c0 c1 c2 c3;go_simp<;>with_reducible rfl))|refine sk3 rfl Hq Ztr ?_|refine no3 ?_);refine Zss ?_)
    refine Go.w3e ?_;refine Zwo 7 rfl λK_ hK=>?_;go_simp;go_at_call 104;refine(IH.out x Hl _ K _ hx Jy yC.out _ Hq hKD (show wr.drew.heap[D]?=_ from xI.out)).mono ?_;rintro r w2 ⟨rfl,zc,hbl2⟩;have Jw:K.In w2:=Hq.grown zc (λq hq=>by cases hq;exact hKD);refine hK.out _ _ (Jw) Ztr ?_;clear hK K_;refine Zst ?_;refine Zwd ?_;have HBL2:=Zhd hbl2;have JP:=Zhd (Zgp (Zgp Ql.out (Ziy D ((Below.refl _ wr).drew))) zc);have kG:=Zhd Jw;clear hbl2 zc Jw;go_wp2_with fail;go_roundw
    case rel=>exact⟨k+1,by go_num,by omega,kG.out,JP.out,by rw[HBL2.out,HS.out];congr 2;exact Zc5 λj _=>by rw[List.contains_append,Bool.or_assoc]⟩
    simp[intOf];omega
  obtain rfl:k=l.length:=by omega
  have HE:=Zhd (show wr.heap[D]?=some (.cells (Zbz p.fl.length λj=>f j || (needs (fIdx p) (.mk o n s l)).contains j) 4 (0,0)) from by
   rw[xI.out]
   congr 2
   exact Zc5 λj _=>by rw[HGF.out,HNE.out,List.take_length,List.contains_append,Bool.or_assoc])
  go_wp2_with fail
  first|go_end0|(refine bodyPost_ret (results_none rfl _ _ _) rfl ?_)
  exact⟨rfl,Ql.out,HE.out⟩
end Go.Proofs.YtafapnolamcdmaaGreatDoor
