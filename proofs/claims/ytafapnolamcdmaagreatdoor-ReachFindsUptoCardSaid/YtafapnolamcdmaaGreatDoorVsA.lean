/- Rows of values that are joined. -/
import Derived.Test.YtafapnolamcdmaaGreatDoorRuM
set_option linter.all false
namespace Go.Proofs.YtafapnolamcdmaaGreatDoor
set_option maxRecDepth 100000
set_option maxHeartbeats 16000000
open Go.RowKit Mx
theorem Tryz.infoVlN:(Tryz.prog.info? 101).map (λi=>(i.zero,i.size,i.bytes))=some (some (.agg Yo2),2,16):=by kernel_rfl
theorem vls_news{K:Kn}{W:World}(hK:K.In W){l:List Vl}{b off c:Nat}(h:VlsV K l (.slice (some ⟨b,off,none⟩) l.length c)):∀j u,(vlX l)[j]?=some u->W.cell? ((⟨b,off,none⟩:Addr).add j)=some u:=λj u hu=>by
 rw[Zc6];have hj:j<(vlX l).length:=by
  rcases Nat.lt_or_ge j (vlX l).length with h1|h1
  .exact h1
  rw[List.getElem?_eq_none h1] at hu;cases hu
 rw[Zja] at hj;have hi:j / 2<l.length:=by omega
 obtain⟨b2,qR,e2,d0,d1⟩:=Zd4 h hi;cases e2;obtain⟨x0,x1⟩:=Zen l (j / 2) hi;rcases Nat.mod_two_eq_zero_or_one j with hm|hm
 .have x8:2 * (j / 2)=j:=by omega
  rw[x8,hu] at x0;rw[Nat.mul_comm,x8] at d0;rw[hK.cell d0];exact x0.symm
 have x8:2 * (j / 2)+1=j:=by omega
 rw[x8,hu] at x1;rw[show off+j / 2 * 2+1=off+j from by omega] at d1;rw[hK.cell d1];exact x1.symm
theorem vlX_one(l:List Vl):∀u∈vlX l,u.oneCell'=true:=λu hu=>by
 obtain⟨x,_,hx⟩:=List.mem_flatMap.1 hu;simp only[List.mem_cons,List.not_mem_nil,or_false] at hx;rcases hx with rfl|rfl<;>rfl
theorem run_app_vls{K:Kn}{W:World}(hK:K.In W){l:List Vl}{a:Option Addr}{c:Nat}(h:VlsV K l (.slice a l.length c)){base n:Nat}{v:Value}{xs:List Value}(Hb:W.ownsRow base 101 2 v n xs)(Jl:base<=W.heap.size)(hl:n+l.length<=1000000000):
  ∃v' W',(∀ty,(Builtin.append_ #[31,31] ty #[v,.slice a l.length c]).run Tryz.prog W=.ok v' W')/\W'.ownsRow base 101 2 v' (n+l.length) (xs++vlX l)/\W.grownBy W' v.ownBlock:=by
 obtain⟨i1,qx,vp,zo,zU⟩:=info_parts Tryz.infoVlN;by_cases h0:l=[]
 .subst h0;exact⟨v,W,λty=>Zbn 31 101 i1 Tryz.underlying31 qx Hb a c ty,by simpa[vlX] using Hb,⟨rfl,rfl,rfl,Nat.le_refl _,λ_ _ _=>rfl⟩⟩
 have Ho:0<l.length:=List.length_pos_iff.2 h0;obtain⟨b,off,he,_⟩:=Zd4 h Ho;subst he;have Ht:=λty=>run_append_lies (P:=Tryz.prog) W 31 ty base 101 i1 _ 2 16 Tryz.underlying31 qx vp zo zU rfl (by omega) v n xs Hb ⟨b,off,none⟩ l.length c (vlX l) (by rw[Zja];omega) (vls_news hK h) (vlX_one l) Ho (by unfold maxLen;omega) (by omega) Jl W.heap.size rfl;obtain⟨g,Hh,W',h1,h2,h3,h4,h5⟩:=Ht 0;exact⟨_,W',λty=>h1,h2,h3⟩
theorem InsV.at{H:Kn}{l:List (List Vl)}{a:Option Addr}{n c:Nat}(h:InsV H l (.slice a n c)){k:Nat}(hk:k<l.length):∃b off a2 c2,a=some ⟨b,off,none⟩/\H.cell b (off+k)=some (.slice a2 l[k].length c2)/\VlsV H l[k] (.slice a2 l[k].length c2):=by
 obtain⟨b,off,jE,_,v,c0,hv⟩:=SlV.at h hk;have c0:H.cell b (off+k * 1+0)=some v:=c0;simp only[Nat.mul_one,Nat.add_zero] at c0;obtain⟨a2,c2,rfl⟩:=hv.len;exact⟨b,off,a2,c2,jE,c0,hv⟩
def RowX{α:Type}(k:Nat)(P:Kn->α->(Nat->Option Value)->Prop)(K:Kn)(l:List α)(xs:List Value):Prop:=
 xs.length=l.length * k/\∀i (hi:i<l.length),P K l[i] (λj=>if j<k then xs[i * k+j]? else none)
def PMono{α:Type}(P:Kn->α->(Nat->Option Value)->Prop):Prop:=∀K K' x f g,Kn.le K K'->(∀j u,f j=some u->g j=some u)->P K x f->P K' x g
theorem RowX.mono{α:Type}{k:Nat}{P:Kn->α->(Nat->Option Value)->Prop}(hP:PMono P):∀(K K':Kn) (l:List α) (xs:List Value),Kn.le K K'->RowX k P K l xs->RowX k P K' l xs:=
 λ_ _ _ _ He h=>⟨h.1,λi hi=>hP _ _ _ _ _ He (λ_ _ e=>e) (h.2 i hi)⟩
theorem RowX.nil{α:Type}{k:Nat}{P:Kn->α->(Nat->Option Value)->Prop}{K:Kn}:RowX k P K [] []:=⟨by simp,λi hi=>by simp at hi⟩
theorem RowX.snoc{α:Type}{k:Nat}{P:Kn->α->(Nat->Option Value)->Prop}(hP:PMono P){K:Kn}{l:List α}{xs:List Value}(h:RowX k P K l xs){x:α}{ys:List Value}(hy:ys.length=k)(hx:P K x (λj=>ys[j]?)):RowX k P K (l++[x]) (xs++ys):=by
 obtain⟨h1,h2⟩:=h;refine⟨by simp[h1,hy,Nat.add_mul],λi hi=>?_⟩;by_cases JN:i<l.length
 .rw [List.getElem_append_left JN];refine hP _ _ _ _ _ (Kn.le_refl _) (λj u e=>?_) (h2 i JN)
  split at e
  .rename_i hj
   rw[if_pos hj,List.getElem?_append_left]
   .exact e
   have h3:(i+1) * k<=l.length * k:=Nat.mul_le_mul_right k JN;rw[Nat.add_mul] at h3;omega
  cases e
 simp only[List.length_append,List.length_singleton] at hi;obtain rfl:i=l.length:=by omega
 rw[show(l++[x])[l.length]=x from by simp];refine hP _ _ _ _ _ (Kn.le_refl _) (λj u e=>?_) hx;have hj:j<k:=by
  rcases Nat.lt_or_ge j ys.length with h3|h3
  .omega
  rw[List.getElem?_eq_none h3] at e;cases e
 rw[if_pos hj,List.getElem?_append_right (by omega),h1,Nat.add_sub_cancel_left];exact e
theorem RowX.at{α:Type}{k:Nat}{P:Kn->α->(Nat->Option Value)->Prop}(hP:PMono P){K:Kn}{l:List α}{xs:List Value}(h:RowX k P K l xs):∀K',Kn.le K K'->∀i (hi:i<l.length),∀f:Nat->Option Value,(∀j u,xs[i * k+j]?=some u->f j=some u)->P K' l[i] f:=
 λ_ He i hi f hf=>hP _ _ _ _ _ He (λj u e=>by
  split at e
  .exact hf j u e
  cases e) (h.2 i hi)
def IsC(K:Kn)(l:List Vl)(f:Nat->Option Value):Prop:=∃u,f 0=some u/\VlsV K l u
theorem IsC.pm:PMono IsC:=λ_ _ _ _ _ He hfg ⟨u,h1,h2⟩=>⟨u,hfg _ _ h1,SlV.le h2 He VlC.mono⟩
theorem TkC.pm:PMono TkC:=λ_ _ x f g He hfg h=>TkC.mono He x f g hfg h
abbrev IsX:=RowX 1 IsC
abbrev TkX:=RowX 4 TkC
theorem Tryz.infoIs:(Tryz.prog.info? 31).map (λi=>(i.zero,i.size,i.bytes))=some (some (Ys0),1,24):=by kernel_rfl
theorem run_append_vls{K:Kn}{W:World}(hK:K.In W){l:List Vl}{a:Option Addr}{c:Nat}(h:VlsV K l (.slice a l.length c))(hl:l.length<=1000000000):
  ∃v' W' K',(∀ty,(Builtin.append_ #[31,31] ty #[Ys0,.slice a l.length c]).run Tryz.prog W=.ok v' W')/\Kn.Step K W K' W'/\VlsV K' l v':=by
 obtain⟨i1,qx,vp,zo,zU⟩:=info_parts Tryz.infoVlN;by_cases h0:l=[]
 .subst h0;exact⟨Ys0,W,K,λty=>Zbn 31 101 i1 Tryz.underlying31 qx (World.ownsRow_nil W W.heap.size 101 2) a c ty,Kn.Step.refl hK,.inl ⟨rfl,none,0,rfl⟩⟩
 have Ho:0<l.length:=List.length_pos_iff.2 h0;obtain⟨b,off,he,_⟩:=Zd4 h Ho;subst he;have qX:∀j u,(vlX l)[j]?=some u->W.cell? ((⟨b,off,none⟩:Addr).add j)=some u:=λj u hu=>by
  rw[Zc6];have hj:j<(vlX l).length:=by
   rcases Nat.lt_or_ge j (vlX l).length with h1|h1
   .exact h1
   rw[List.getElem?_eq_none h1] at hu;cases hu
  rw[Zja] at hj;have hi:j / 2<l.length:=by omega
  obtain⟨b2,qR,e2,d0,d1⟩:=Zd4 h hi;cases e2;obtain⟨x0,x1⟩:=Zen l (j / 2) hi;rcases Nat.mod_two_eq_zero_or_one j with hm|hm
  .have x8:2 * (j / 2)=j:=by omega
   rw[x8,hu] at x0;rw[Nat.mul_comm,x8] at d0;rw[hK.cell d0];exact x0.symm
  have x8:2 * (j / 2)+1=j:=by omega
  rw[x8,hu] at x1;rw[show off+j / 2 * 2+1=off+j from by omega] at d1;rw[hK.cell d1];exact x1.symm
 have hone:∀u∈vlX l,u.oneCell'=true:=λu hu=>by
  obtain⟨x,_,hx⟩:=List.mem_flatMap.1 hu;simp only[List.mem_cons,List.not_mem_nil,or_false] at hx;rcases hx with rfl|rfl<;>rfl
 have Ht:=λty=>run_append_lies (P:=Tryz.prog) W 31 ty W.heap.size 101 i1 _ 2 16 Tryz.underlying31 qx vp zo zU rfl (by omega) (Ys0) 0 [] (World.ownsRow_nil W W.heap.size 101 2) ⟨b,off,none⟩ l.length c (vlX l) (by rw[Zja];omega) qX hone Ho (by unfold maxLen;omega) (by omega) Ylr W.heap.size rfl;obtain⟨g,Hh,W',h1,h2,h3,h4,h5⟩:=Ht 0;have hb:Ybw W W':=⟨h3.os,h3.tape,h3.output,h3.size,λk hk=>h3.block k hk (by simp[Value.ownBlock])⟩;have JH:g=W.heap.size:=by
   rcases h4 with h4|h4
   .simp [Value.ownBlock] at h4
   .exact h4
 have Hb:W'.ownsRow W.heap.size 101 2 (.slice (some ⟨g,0,none⟩) (0+l.length) Hh) l.length (vlX l):=by simpa using h2
 have Hk:=hK.below hb;obtain⟨K',k1,k2,k3,k4⟩:=Zcn (R:=λ_=>VlC) Hk Hb (λq hq=>by
  have:g=q:=by simpa[Value.ownBlock] using hq
  rw[<- this,JH];exact hK.isNone Ylr) (λK' _ i hi f hf=>by
   obtain⟨x0,x1⟩:=Zen _ i hi;refine⟨hf 0 _ ?_,hf 1 _ ?_⟩
   .rw [show i * 2+0=2 * i from by omega];exact x0
   rw[show i * 2+1=2 * i+1 from by omega];exact x1)
 refine⟨_,W',K',λty=>?_,⟨k1,k4,k2,hb⟩,k3⟩;have kJ:(Builtin.append_ #[31,31] ty #[Ys0,.slice (some ⟨b,off,none⟩) l.length c]).run Tryz.prog W=(Builtin.append_ #[31,31] 0 #[Ys0,.slice (some ⟨b,off,none⟩) l.length c]).run Tryz.prog W:=rfl;rw[kJ];exact h1
end Go.Proofs.YtafapnolamcdmaaGreatDoor
/- Plain: a search in breadth (package reach), whatever its states are: what is found, its way, that none is shorter; with more to choose no fewer are reached: no program in sight. -/
namespace Go.Proofs.YtafapnolamcdmaaGreatDoor.Bf
set_option maxRecDepth 100000
set_option maxHeartbeats 16000000
structure En(S C:Type) where
 s:S
 frm:Int
 c:C
inductive Res(S C:Type) where
 |found (i:Nat) (l:List (En S C)) (c:C) (k:Int)
 |over
 |ok (l:List (En S C))
variable {S C : Type} (st : S -> C -> Option Int) (nx : S -> C -> Option S)
def Zix[DecidableEq S](most i:Nat)(e:En S C):List (En S C)->List C->Res S C
 |l,[] => .ok l
 |l,c :: cs=>
  match st e.s c with
  |some k => .found i l c k
  |none=>
   match nx e.s c with
   |none=>Zix most i e l cs
   |some s'=>if s'∈l.map (·.s) then Zix most i e l cs else if l.length=most then .over else Zix most i e (l++[⟨s',i,c⟩]) cs
def outer[DecidableEq S](most:Nat)(cs:List C):Nat->List (En S C)->Nat->Res S C
 |0,l,_ => .ok l
 |f+1,l,i=>
  match l[i]? with
  |none => .ok l
  |some e=>
   match Zix st nx most i e l cs with
   | .ok l'=>outer most cs f l' (i+1)
   |r=>r
def search[DecidableEq S](most:Nat)(cs:List C)(s0:S)(c0:C):Res S C:=outer st nx most cs (most+1) [⟨s0, -1,c0⟩] 0
def way(l:List (En S C)):Nat->Nat->List C
 |0,_=>[]
 |f+1,j=>
  match l[j]? with
  |none=>[]
  |some e=>if e.frm<0 then [] else way l f e.frm.toNat++[e.c]
def go:S->List C->Option S
 |s,[]=>some s
 |s,c :: cs=>match st s c with
  |some _=>none
  |none=>match nx s c with
   |none=>none
   |some s'=>go s' cs
theorem go_snoc:∀(w:List C) (s:S) (c:C) (t:S),go st nx s w=some t->st t c=none->go st nx s (w++[c])=nx t c
 | [],s,c,t,h,h1=>by
  simp only[go,Option.some.injEq] at h;subst h;simp only[List.nil_append,go,h1];cases nx s c<;>rfl
 |x :: w,s,c,t,h,h1=>by
  simp only[List.cons_append,go] at h ⊢;cases e:st s x with
  |some k=>rw[e] at h;cases h
  |none=>
   rw[e] at h;dsimp only at h ⊢;cases e2:nx s x with
   |none=>rw[e2] at h;cases h
   |some s'=>rw[e2] at h;exact go_snoc w s' c t h h1
structure Inv(cs:List C)(s0:S)(i:Nat)(l:List (En S C)):Prop where
 pos:0<l.length
 nodup:(l.map (·.s)).Nodup
 first:∀h:0<l.length,l[0].s=s0/\l[0].frm<0
 from_:∀j (h:j<l.length),0<j->∃f,∃hf:f<l.length,l[j].frm=(f:Int)/\f<j/\f<=i/\l[j].c∈cs/\st l[f].s l[j].c=none/\nx l[f].s l[j].c=some l[j].s
 mono:∀j j' (h:j<l.length) (h':j'<l.length),j<=j'->l[j].frm<=l[j'].frm
 closed:∀j (h:j<l.length),j<i->∀c∈cs,st l[j].s c=none/\∀s',nx l[j].s c=some s'->∃j',∃h':j'<l.length,l[j'].s=s'/\l[j'].frm<=(j:Int)
theorem Inv.start{cs:List C}{s0:S}{c0:C}:Inv st nx cs s0 0 [⟨s0, -1,c0⟩] where
 pos:=by simp
 nodup:=by simp
 first:=λ_=>⟨rfl,by simp⟩
 from_:=λj h h0=>by simp at h;omega
 mono:=λj j' h h' _=>by simp at h h';subst h;subst h';exact Int.le_refl _
 closed:=λj _ h=>by omega
theorem Inv.snoc{cs:List C}{s0:S}{i:Nat}{l:List (En S C)}(h:Inv st nx cs s0 i l)(hi:i<l.length){c:C}(hc:c∈cs){s':S}(h1:st l[i].s c=none)(h2:nx l[i].s c=some s')(h3:s'∉l.map (·.s)):Inv st nx cs s0 i (l++[⟨s',i,c⟩]):=by
 have Qu:∀j (hj:j<l.length),l[j].frm<=(i:Int):=λj hj=>by
  by_cases h0:0<j
  .obtain⟨f,_,e,_,Qu,_⟩:=h.from_ j hj h0;omega
  obtain rfl:j=0:=by omega
  have:=(h.first hj).2;omega
 refine⟨by simp,?_,λ_=>?_,λj hj h0=>?_,λj j' hj jB hjj=>?_,λj hj vH c' hc'=>?_⟩
 .rw [List.map_append,List.nodup_append];refine⟨h.nodup,by simp,λa ha b hb=>?_⟩;simp only[List.map_cons,List.map_nil,List.mem_singleton] at hb;subst hb;exact λe=>h3 (e▸ha)
 .rw [List.getElem_append_left h.pos];exact h.first h.pos
 .by_cases kj:j<l.length
  .obtain⟨f,hf,e,f1,f2,f3,f4,f5⟩:=h.from_ j kj h0;refine⟨f,by simp;omega,?_⟩;rw[List.getElem_append_left kj,List.getElem_append_left hf];exact⟨e,f1,f2,f3,f4,f5⟩
  obtain rfl:j=l.length:=by simp at hj;omega
  refine⟨i,by simp;omega,?_⟩;rw[List.getElem_append_left hi];simp only[List.getElem_append_right Ylr,Nat.sub_self,List.getElem_cons_zero];exact⟨by trivial,hi,Nat.le_refl _,hc,h1,h2⟩
 .by_cases hjl':j'<l.length
  .rw [List.getElem_append_left hjl',List.getElem_append_left (by omega)];exact h.mono j j' (by omega) hjl' hjj
  obtain rfl:j'=l.length:=by simp at jB;omega
  simp only[List.getElem_append_right Ylr,Nat.sub_self,List.getElem_cons_zero];by_cases kj:j<l.length
  .rw [List.getElem_append_left kj];exact Qu j kj
  obtain rfl:j=l.length:=by omega
  simp
 have kj:j<l.length:=by omega
 rw[List.getElem_append_left kj];obtain⟨g1,g2⟩:=h.closed j kj vH c' hc';refine⟨g1,λt ht=>?_⟩;obtain⟨j',jB,e1,e2⟩:=g2 t ht;exact⟨j',by simp;omega,by rw[List.getElem_append_left jB];exact⟨e1,e2⟩⟩
theorem Zhe[DecidableEq S]{cs:List C}{s0:S}{i most:Nat}{e:En S C}:∀(rest done:List C) (l:List (En S C)),cs=done++rest->Inv st nx cs s0 i l->(hi:i<l.length)->l[i]=e->l.length<=most->
  (∀c∈done,st e.s c=none/\∀s',nx e.s c=some s'->∃j',∃h':j'<l.length,l[j'].s=s'/\l[j'].frm<=(i:Int))->
  match Zix st nx most i e l rest with
  | .ok l'=>Inv st nx cs s0 (i+1) l'/\i<l'.length/\l'.length<=most
  | .found i' l' c k=>i'=i/\Inv st nx cs s0 i l'/\∃h:i<l'.length,l'[i]=e/\c∈cs/\st e.s c=some k/\l'.length<=most
  | .over=>True
 | [],done,l,JJ,h,hi,he,hm,hd=>by
  simp only[Zix];simp only[List.append_nil] at JJ;subst JJ;refine⟨⟨h.pos,h.nodup,h.first,λj hj h0=>?_,h.mono,λj hj vH c hc=>?_⟩,hi,hm⟩
  .obtain⟨f,hf,e,f1,f2,f3⟩:=h.from_ j hj h0;exact⟨f,hf,e,f1,by omega,f3⟩
  by_cases hji':j<i
  .exact h.closed j hj hji' c hc
  obtain rfl:j=i:=by omega
  rw[he];exact hd c hc
 |c :: rest,done,l,JJ,h,hi,he,hm,hd=>by
  have hc:c∈cs:=by rw[JJ];simp
  simp only[Zix];cases h1:st e.s c with
  |some k=>exact⟨rfl,h,hi,he,hc,h1,hm⟩
  |none=>
   dsimp only;have hcs':cs=(done++[c])++rest:=by rw[JJ];simp
   cases h2:nx e.s c with
   |none=>
    refine Zhe rest (done++[c]) l hcs' h hi he hm λx hx=>?_;rcases List.mem_append.1 hx with hx|hx
    .exact hd x hx
    obtain rfl:=List.mem_singleton.1 hx;exact⟨h1,λs' hs=>by rw[h2] at hs;cases hs⟩
   |some s'=>
    dsimp only;have Qu:∀j (hj:j<l.length),l[j].frm<=(i:Int):=λj hj=>by
     by_cases h0:0<j
     .obtain⟨f,_,e,_,Qu,_⟩:=h.from_ j hj h0;omega
     obtain rfl:j=0:=by omega
     have:=(h.first hj).2;omega
    by_cases Hk:s'∈l.map (·.s)
    .rw [if_pos Hk];refine Zhe rest (done++[c]) l hcs' h hi he hm λx hx=>?_;rcases List.mem_append.1 hx with hx|hx
     .exact hd x hx
     obtain rfl:=List.mem_singleton.1 hx;refine⟨h1,λt ht=>?_⟩;rw[h2] at ht;cases ht;obtain⟨j',jB,e1⟩:=List.mem_iff_getElem.1 Hk;have x8:j'<l.length:=by simpa using jB
     exact⟨j',x8,by simpa using e1,Qu j' x8⟩
    rw[if_neg Hk];by_cases hfull:l.length=most
    .rw [if_pos hfull];trivial
    rw[if_neg hfull];have hs:=h.snoc st nx hi hc (by rw[he];exact h1) (by rw[he];exact h2) Hk;refine Zhe rest (done++[c]) _ hcs' hs (by simp;omega) (by rw[List.getElem_append_left hi];exact he) (by simp;omega) λx hx=>?_;rcases List.mem_append.1 hx with hx|hx
    .obtain⟨g1,g2⟩:=hd x hx;refine⟨g1,λt ht=>?_⟩;obtain⟨j',jB,e1,e2⟩:=g2 t ht;exact⟨j',by simp;omega,by rw[List.getElem_append_left jB];exact⟨e1,e2⟩⟩
    obtain rfl:=List.mem_singleton.1 hx;refine⟨h1,λt ht=>?_⟩;rw[h2] at ht;cases ht;exact⟨l.length,by simp,by simp⟩
theorem outer_post[DecidableEq S]{cs:List C}{s0:S}{most:Nat}:∀(f:Nat) (l:List (En S C)) (i:Nat),Inv st nx cs s0 i l->i<=l.length->l.length<=most->most<f+i->
  match outer st nx most cs f l i with
  | .ok l'=>Inv st nx cs s0 l'.length l'/\l'.length<=most
  | .found i' l' c k=>Inv st nx cs s0 i' l'/\∃h:i'<l'.length,c∈cs/\st l'[i'].s c=some k/\l'.length<=most
  | .over=>True
 |0,l,i,h,hi,hm,hf=>by omega
 |f+1,l,i,h,hi,hm,hf=>by
  simp only[outer];by_cases JN:i<l.length
  .rw [List.getElem?_eq_getElem JN];dsimp only;have hp:=Zhe st nx (e:=l[i]) cs [] l (by simp) h JN rfl hm (λc hc=>by cases hc);generalize Zix st nx most i l[i] l cs=r at hp ⊢;cases r with
   |found i' l' c k=>
    obtain⟨rfl,g1,g2,g3,g4,g5,g6⟩:=hp;exact⟨g1,g2,g4,by rw[g3];exact g5,g6⟩
   |over=>trivial
   |ok l'=>exact outer_post f l' (i+1) hp.1 hp.2.1 hp.2.2 (by omega)
  rw[List.getElem?_eq_none (by omega)];obtain rfl:i=l.length:=by omega
  exact⟨h,hm⟩
theorem search_post[DecidableEq S]{cs:List C}{s0:S}{c0:C}{most:Nat}(hm:1<=most):
  match search st nx most cs s0 c0 with
  | .ok l'=>Inv st nx cs s0 l'.length l'/\l'.length<=most
  | .found i' l' c k=>Inv st nx cs s0 i' l'/\∃h:i'<l'.length,c∈cs/\st l'[i'].s c=some k/\l'.length<=most
  | .over=>True:=outer_post st nx (most+1) _ 0 (Inv.start st nx) (Nat.zero_le _) (by simpa using hm) (by omega)
def W(l:List (En S C))(j:Nat):List C:=way l (j+1) j
section
variable {st nx} {cs : List C} {s0 : S} {i : Nat} {l : List (En S C)}
theorem Inv.fuel(h:Inv st nx cs s0 i l):∀(j f f':Nat),j<f->j<f'->j<l.length->way l f j=way l f' j:=by
 intro j
 induction j using Nat.strongRecOn with
 |ind j ih=>
  intro f f' hf hf' hj;cases f with
  |zero=>omega
  |succ f=>
   cases f' with
   |zero=>omega
   |succ f'=>
    simp only[way];rw[List.getElem?_eq_getElem hj];dsimp only;by_cases h0:0<j
    .obtain⟨q,hq,e,q1,_⟩:=h.from_ j hj h0;rw[e,if_neg (by omega),if_neg (by omega),Int.toNat_natCast,ih q q1 f f' (by omega) (by omega) hq]
    obtain rfl:j=0:=by omega
    have:=(h.first hj).2;rw[if_pos this,if_pos this]
theorem Inv.W_zero(h:Inv st nx cs s0 i l):W l 0=[]:=by
 unfold W;simp only[way];rw[List.getElem?_eq_getElem h.pos];dsimp only;rw[if_pos (h.first h.pos).2]
theorem Inv.W_succ(h:Inv st nx cs s0 i l){j:Nat}(hj:j<l.length)(h0:0<j):∃f,∃hf:f<l.length,l[j].frm=(f:Int)/\f<j/\l[j].c∈cs/\st l[f].s l[j].c=none/\nx l[f].s l[j].c=some l[j].s/\W l j=W l f++[l[j].c]:=by
 obtain⟨f,hf,e,f1,_,f3,f4,f5⟩:=h.from_ j hj h0;refine⟨f,hf,e,f1,f3,f4,f5,?_⟩;unfold W;rw[way,List.getElem?_eq_getElem hj];dsimp only;rw[e,if_neg (by omega),Int.toNat_natCast,h.fuel f j (f+1) f1 (by omega) hf]
theorem Inv.goes(h:Inv st nx cs s0 i l):∀j (hj:j<l.length),go st nx s0 (W l j)=some l[j].s/\(∀c∈W l j,c∈cs)/\(W l j).length<=j:=by
 intro j
 induction j using Nat.strongRecOn with
 |ind j ih=>
  intro hj;by_cases h0:0<j
  .obtain⟨f,hf,_,f1,f2,f3,f4,f5⟩:=h.W_succ hj h0;obtain⟨g1,g2,g3⟩:=ih f f1 hf;rw[f5];refine⟨by rw[go_snoc st nx _ _ _ _ g1 f3,f4],λc hc=>?_,by simp;omega⟩;rcases List.mem_append.1 hc with hc|hc
   .exact g2 c hc
   rw[List.mem_singleton.1 hc];exact f2
  obtain rfl:j=0:=by omega
  rw[h.W_zero];refine⟨by simp only[go];rw[(h.first hj).1],λc hc=>?_,Nat.le_refl _⟩;cases hc
end
end Go.Proofs.YtafapnolamcdmaaGreatDoor.Bf
/- Plain: the search of package reach over a machine's states; the laws ReachTraces and ReachMore: no program in sight. -/
namespace Go.Proofs.YtafapnolamcdmaaGreatDoor
set_option maxRecDepth 100000
set_option maxHeartbeats 16000000
open Mx
def Zdm(t:Tk):Option Int:=
 if t.trap=true then some (-1) else if t.asrt=true then(match t.checks.findIdx? (λb => !b) with|some k=>some (k:Int)|none=>none) else none
def stR(R:REnv)(c:Cd)(ins:List Vr)(s:List Vl)(x:List Vl):Option Int:=Zdm (Zcw R c ins (putM s) x).2.1
def nxR(R:REnv)(c:Cd)(ins:List Vr)(s:List Vl)(x:List Vl):Option (List Vl):=if (Zcw R c ins (putM s) x).2.1.asrt=true then some (Zby (Zcw R c ins (putM s) x).2.2) else none
theorem wrongK_trap{t:Tk}(h:Zdm t=none):t.trap=false:=by
 unfold Zdm at h;by_cases e:t.trap=true
 .rw [if_pos e] at h;cases h
 simpa using e
theorem wrongK_last{t:Tk}{k:Int}(h:Zdm t=some k) : -1<=k/\(k<0->t.trap=true)/\(0<=k->t.trap=false/\t.asrt=true/\k<t.checks.length/\t.checks.getD k.toNat true=false):=by
 unfold Zdm at h;by_cases e:t.trap=true
 .rw [if_pos e] at h;cases h;exact⟨by decide,λ_=>e,λh=>by omega⟩
 rw[if_neg e] at h;by_cases e2:t.asrt=true
 .rw [if_pos e2] at h;cases e3:t.checks.findIdx? (λb => !b) with
  |none=>rw[e3] at h;cases h
  |some j=>
   rw[e3] at h;cases h;obtain⟨hj,hp,_⟩:=List.findIdx?_eq_some_iff_getElem.1 e3;refine⟨by omega,λh=>by omega,λ_=>⟨by simpa using e,e2,by omega,?_⟩⟩;rw[Int.toNat_natCast,Ygg,List.getElem?_eq_getElem hj];simpa using hp
 rw[if_neg e2] at h;cases h
theorem run_way{R:REnv}{c:Cd}{ins:List Vr}:∀(w:List (List Vl)) (f:Bool) (m:List Vl) (t:List Vl),(∀x∈w,Zas ins x x.length=true)->Bf.go (stR R c ins) (nxR R c ins) (Zby ⟨f,m,false⟩) w=some t->
  ∃ts f' m',t=Zby ⟨f',m',false⟩/\ts.length=w.length/\(∀k∈ts,k.trap=false/\k.asrt=true)/\∀rest,Zf6 R c f m (w++rest)=ts++Zf6 R c f' m' rest
 | [],f,m,t,_,h=>by
  simp only[Bf.go,Option.some.injEq] at h;refine⟨[],f,m,h.symm,rfl,λk hk=>?_,λrest=>rfl⟩;cases hk
 |x :: w,f,m,t,hi,h=>by
  have hx:=hi x (List.mem_cons_self ..);have Jp:Zcw R c ins (putM (Zby ⟨f,m,false⟩)) x=if (Zb7 R c f m x).1.trap=true then(0,(Zb7 R c f m x).1,⟨f,m,true⟩) else(0,(Zb7 R c f m x).1,⟨false,(Zb7 R c f m x).2,false⟩):=by
   rw[put_state];unfold Zcw;rw[if_neg (by simp),if_pos hx]
  simp only[Bf.go] at h;cases h1:stR R c ins (Zby ⟨f,m,false⟩) x with
  |some k=>rw[h1] at h;cases h
  |none=>
   rw[h1] at h;dsimp only at h;have ht:=wrongK_trap h1;rw[Jp] at ht;have xL:(Zb7 R c f m x).1.trap=false:=by
    by_cases e:(Zb7 R c f m x).1.trap=true
    .rw [if_pos e] at ht;exact ht
    simpa using e
   rw[if_neg (by simp[xL])] at Jp;unfold nxR at h;rw[Jp] at h;dsimp only at h;by_cases ha:(Zb7 R c f m x).1.asrt=true
   .rw [if_pos ha] at h;obtain⟨ts,f',m',e1,e2,e3,e4⟩:=run_way w false (Zb7 R c f m x).2 t (λy hy=>hi y (List.mem_cons_of_mem _ hy)) h;refine⟨(Zb7 R c f m x).1 :: ts,f',m',e1,by simp[e2],λk hk=>?_,λrest=>?_⟩
    .rcases List.mem_cons.1 hk with rfl|hk
     .exact⟨xL,ha⟩
     exact e3 k hk
    simp only[List.cons_append,Zf6];rw[if_neg (by simp[xL]),e4 rest]
   rw[if_neg ha] at h;cases h
def startS(R:REnv)(p:Pr):List Vl:=Zby ⟨true,Zba R (Zab 0 p.terms),false⟩
abbrev RP(nb:Bool)(ni:Int)(ks:Env Int)(p:Pr):REnv:=⟨ks,Zac p,getI (Zah p),nb,ni⟩
def Zdd(ks:Env Int)(ord:List Nat)(p:Pr)(choices:List (List Vl))(most:Nat):Bf.Res (List Vl) (List Vl):=
 Bf.search (stR (RP false 0 ks p) (cdOf p ord) p.ins) (nxR (RP false 0 ks p) (cdOf p ord) p.ins) most choices (startS (RP false 0 ks p) p) []
theorem traces_told{p:Pr}(h:(Za2 p).1=0){ks:Env Int}(hks:Zao Env.none p.vars=some ks){ord:List Nat}(ho:Za5 p=.ok ord)(nb:Bool)(ni:Int){choices:List (List Vl)}(Hk:∀x∈choices,Zas p.ins x x.length=true){most:Nat}(hm:1<=most)
  {i:Nat} {l:List (Bf.En (List Vl) (List Vl))} {c:List Vl} {k:Int} (hs:Zdd ks ord p choices most=.found i l c k):
  (Bf.W l i).length<most/\(∀x∈Bf.W l i++[c],x∈choices)/\∃ts t,runM nb ni p (Bf.W l i++[c])=ts++[t]/\ts.length=(Bf.W l i).length/\(∀k∈ts,k.trap=false/\k.asrt=true)/\Zdm t=some k:=by
 have hp:=Bf.search_post (stR (RP false 0 ks p) (cdOf p ord) p.ins) (nxR (RP false 0 ks p) (cdOf p ord) p.ins) (cs:=choices) (s0:=startS (RP false 0 ks p) p) (c0:=[]) hm;unfold Zdd at hs;rw[hs] at hp;obtain⟨hI,hi,hc,Hy,zu⟩:=hp;obtain⟨g1,g2,g3⟩:=hI.goes i hi;have hall:∀x∈Bf.W l i++[c],x∈choices:=λx hx=>by
  rcases List.mem_append.1 hx with hx|hx
  .exact g2 x hx
  rw[List.mem_singleton.1 hx];exact hc
 refine⟨by omega,hall,?_⟩;rw[runM_nils h nb false ni 0];unfold runM;rw[hks,ho];obtain⟨ts,f',m',e1,e2,e3,e4⟩:=run_way (ins:=p.ins) (Bf.W l i) true (Zba (RP false 0 ks p) (Zab 0 p.terms)) l[i].s (λx hx=>Hk x (g2 x hx)) g1;refine⟨ts,(Zb7 (RP false 0 ks p) (cdOf p ord) f' m' c).1,?_,e2,e3,?_⟩
 .have:=e4 [c];dsimp only at this ⊢;rw[this];simp only[Zf6]
  split<;>rfl
 rw[e1] at Hy;unfold stR at Hy;rw[put_state] at Hy;unfold Zcw at Hy;rw[if_neg (by simp),if_pos (Hk c hc)] at Hy
 split at Hy<;>exact Hy
def Zhn(v:Vl):UInt8:=UInt8.ofNat (v.n % 256).toNat
def keyB(l:List Vl):ByteArray:=⟨(l.map Zhn).toArray⟩
theorem right_eq{a b:Vl}{k:Int}(ha:Zaq a k=true)(hb:Zaq b k=true)(h:Zhn a=Zhn b):a=b:=by
 obtain⟨ak,an⟩:=a;obtain⟨bk,bn⟩:=b;unfold Zaq at ha hb;have h2:=congrArg UInt8.toNat h;unfold Zhn at h2;simp only[UInt8.toNat_ofNat'] at h2;dsimp only at ha hb h2;simp only[Bool.and_eq_true,decide_eq_true_eq] at ha hb;obtain⟨rfl,ha⟩:=ha;obtain⟨rfl,hb⟩:=hb;have hn:an=bn:=by
  by_cases hk:bk=1
  .rw [if_pos hk] at ha hb;simp only[Bool.or_eq_true,decide_eq_true_eq] at ha hb;omega
  rw[if_neg hk] at ha hb;simp only[Bool.and_eq_true,decide_eq_true_eq] at ha hb;omega
 rw[hn]
theorem key_inj{K:List Int}{a b:List Vl}(ha:Zb5 K a a.length=true)(hb:Zb5 K b b.length=true)(h:keyB a=keyB b):a=b:=by
 have h1:a.map Zhn=b.map Zhn:=by
  have:=congrArg (λx:ByteArray=>x.data.toList) h;simpa[keyB] using this
 unfold Zb5 at ha hb;simp only[Bool.and_eq_true,decide_eq_true_eq,List.all_eq_true,List.mem_range] at ha hb;refine List.ext_getElem (ha.1.trans hb.1.symm) λi h2 h3=>?_;have q1:=ha.2 i h2;have q2:=hb.2 i h3;rw[Ygg,List.getElem?_eq_getElem h2] at q1;rw[Ygg,List.getElem?_eq_getElem h3] at q2;refine right_eq q1 q2 ?_;have h4:(a.map Zhn)[i]?=(b.map Zhn)[i]?:=by rw[h1]
 simpa[List.getElem?_eq_getElem h2,List.getElem?_eq_getElem h3] using h4
def seenE(l:List (List Vl)):Env Bool:=λs=>if (l.map keyB).contains s=true then some true else none
theorem seenE_one(s:List Vl):Env.none.set (keyB s) true=seenE [s]:=by
 funext x
 unfold Env.set Env.none seenE;by_cases h:x=keyB s
 .simp [h]
 simp[h]
theorem seenE_snoc(l:List (List Vl))(s:List Vl):(seenE l).set (keyB s) true=seenE (l++[s]):=by
 funext x
 unfold Env.set seenE;by_cases h:x=keyB s
 .simp [h]
 simp[h]
theorem seenE_at{K:List Int}{l:List (List Vl)}(hl:∀s∈l,Zb5 K s s.length=true){s:List Vl}(hs:Zb5 K s s.length=true):(seenE l (keyB s)).getD false=decide (s∈l):=by
 unfold seenE;by_cases h:s∈l
 .have:(l.map keyB).contains (keyB s)=true:=List.contains_iff_mem.2 (List.mem_map.2 ⟨s,h,rfl⟩);rw[if_pos this];simp[h]
 have:¬(l.map keyB).contains (keyB s)=true:=λhc=>by
  obtain⟨t,ht,he⟩:=List.mem_map.1 (List.contains_iff_mem.1 hc);exact h (key_inj (hl t ht) hs he▸ht)
 rw[if_neg this];simp[h]
def bareP:Pr:=⟨[],[⟨#[120]⟩],[⟨⟨#[120]⟩,1,.mk Zc9 0 ⟨#[]⟩ []⟩],[],[]⟩
open Go.RowKit Mx
theorem lbare_any(w:World):
  Calls Tryz.prog 16 #[] w λr w'=>∃vi vo vl va vc,r=.returned (.agg #[vi,vo,vl,va,vc])/\PrP (Zan w') bareP vi vo vl va vc/\Ybw w w':=by
 go_enter Tryz.func16,Tryz.ntmps16;go_wp2_with fail;have hb:Ybw w (((w.alloc (.cells #[Ys0,.slice (some ⟨w.heap.size+1,0,none⟩) 1 1,.slice (some ⟨w.heap.size+1+1,0,none⟩) 1 1,Ys0,Ys0] 42)).alloc (.cells #[.string ⟨#[120]⟩] 9)).alloc (.cells #[.string ⟨#[120]⟩,.int .i64 1,.string ⟨#[116,114,117,101]⟩,.int .i64 0,.string ⟨#[]⟩,Ys0] 96)):=by go_grown
 have h1:∀i,(((w.alloc (.cells #[Ys0,.slice (some ⟨w.heap.size+1,0,none⟩) 1 1,.slice (some ⟨w.heap.size+1+1,0,none⟩) 1 1,Ys0,Ys0] 42)).alloc (.cells #[.string ⟨#[120]⟩] 9)).alloc (.cells #[.string ⟨#[120]⟩,.int .i64 1,.string ⟨#[116,114,117,101]⟩,.int .i64 0,.string ⟨#[]⟩,Ys0] 96)).cell? ⟨w.heap.size,i,none⟩=(#[Ys0,.slice (some ⟨w.heap.size+1,0,none⟩) 1 1,.slice (some ⟨w.heap.size+1+1,0,none⟩) 1 1,Ys0,Ys0]:Array Value)[i]?:=λi=>by
  rw[World.cell?_alloc_past _ _ _ (by simp;omega),World.cell?_alloc_past _ _ _ (by simp),World.cell?_alloc_new]
 have h2:∀i,(((w.alloc (.cells #[Ys0,.slice (some ⟨w.heap.size+1,0,none⟩) 1 1,.slice (some ⟨w.heap.size+1+1,0,none⟩) 1 1,Ys0,Ys0] 42)).alloc (.cells #[.string ⟨#[120]⟩] 9)).alloc (.cells #[.string ⟨#[120]⟩,.int .i64 1,.string ⟨#[116,114,117,101]⟩,.int .i64 0,.string ⟨#[]⟩,Ys0] 96)).cell? ⟨w.heap.size+1,i,none⟩=(#[.string ⟨#[120]⟩]:Array Value)[i]?:=λi=>by
  rw[World.cell?_alloc_past _ _ _ (by simp)];have:=World.cell?_alloc_new (w:=w.alloc (.cells #[Ys0,.slice (some ⟨w.heap.size+1,0,none⟩) 1 1,.slice (some ⟨w.heap.size+1+1,0,none⟩) 1 1,Ys0,Ys0] 42)) #[.string ⟨#[120]⟩] 9 i;rw[World.size_alloc] at this;exact this
 have h3:∀i,(((w.alloc (.cells #[Ys0,.slice (some ⟨w.heap.size+1,0,none⟩) 1 1,.slice (some ⟨w.heap.size+1+1,0,none⟩) 1 1,Ys0,Ys0] 42)).alloc (.cells #[.string ⟨#[120]⟩] 9)).alloc (.cells #[.string ⟨#[120]⟩,.int .i64 1,.string ⟨#[116,114,117,101]⟩,.int .i64 0,.string ⟨#[]⟩,Ys0] 96)).cell? ⟨w.heap.size+1+1,i,none⟩=(#[.string ⟨#[120]⟩,.int .i64 1,.string ⟨#[116,114,117,101]⟩,.int .i64 0,.string ⟨#[]⟩,Ys0]:Array Value)[i]?:=λi=>by
  have:=World.cell?_alloc_new (w:=(w.alloc (.cells #[Ys0,.slice (some ⟨w.heap.size+1,0,none⟩) 1 1,.slice (some ⟨w.heap.size+1+1,0,none⟩) 1 1,Ys0,Ys0] 42)).alloc (.cells #[.string ⟨#[120]⟩] 9)) #[.string ⟨#[120]⟩,.int .i64 1,.string ⟨#[116,114,117,101]⟩,.int .i64 0,.string ⟨#[]⟩,Ys0] 96 i;rw[World.size_alloc,World.size_alloc] at this;exact this
 generalize ((w.alloc (.cells #[Ys0,.slice (some ⟨w.heap.size+1,0,none⟩) 1 1,.slice (some ⟨w.heap.size+1+1,0,none⟩) 1 1,Ys0,Ys0] 42)).alloc (.cells #[.string ⟨#[120]⟩] 9)).alloc (.cells #[.string ⟨#[120]⟩,.int .i64 1,.string ⟨#[116,114,117,101]⟩,.int .i64 0,.string ⟨#[]⟩,Ys0] 96)=W at *;have q0:=h1 0;have q1:=h1 1;have q2:=h1 2;have q3:=h1 3;have q4:=h1 4;simp at q0 q1 q2 q3 q4;refine bodyPost_ret (v:=.agg #[Ys0,.slice (some ⟨w.heap.size+1,0,none⟩) 1 1,.slice (some ⟨w.heap.size+1+1,0,none⟩) 1 1,Ys0,Ys0]) (by simp[results,Tryz.results16,go_sem,q0,q1,q2,q3,q4]) rfl ?_;refine⟨_,_,_,_,_,rfl,⟨.inl ⟨rfl,none,0,rfl⟩,.inr ⟨_,0,1,rfl,by simp[bareP],by unfold maxLen;omega,λi hi=>?_⟩,.inr ⟨_,0,1,rfl,by simp[bareP],by unfold maxLen;omega,λi hi=>?_⟩,.inl ⟨rfl,none,0,rfl⟩,.inl ⟨rfl,none,0,rfl⟩⟩,hb⟩
 .obtain rfl:i=0:=by simpa[bareP] using hi
  show(Zan W).cell _ _=_;rw[Zaj,h2];rfl
 obtain rfl:i=0:=by simpa[bareP] using hi
 refine⟨?_,?_,?_,?_,?_,.inl ⟨rfl,none,0,?_⟩⟩
 all_goals show(Zan W).cell _ _=_
 all_goals rw[Zaj,h3]
 all_goals rfl
end Go.Proofs.YtafapnolamcdmaaGreatDoor
