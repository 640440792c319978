/- Walks: flow.Compile. -/
import Derived.Test.YtafapnolamcdmaaGreatDoorTkM
import Derived.Test.YtafapnolamcdmaaGreatDoorAyA
set_option linter.all false
namespace Go.Proofs.YtafapnolamcdmaaGreatDoor
set_option maxRecDepth 100000
set_option maxHeartbeats 16000000
open Go.RowKit Mx
theorem mCo3{p:Prop}(h:p:=by
 have zv:Zcq wd (Go.ChangeMaps.setBlock wd bn ob) bn:=⟨ob,rfl⟩;have Jw:=zv.isin hS hK1n;generalize Go.ChangeMaps.setBlock wd bn ob=w3 at *;go_simp;refine hK.out _ _ (Jw) Ztr ?_;clear hK K_
 try simp only[tkS]
 refine Zwd ?_;have hKr3:K.In w3:=λb o e=>Jw b o (yY b o e);have gR:=Zhd (zv.below HBd.out (show w.heap.size<=bn by omega));go_wp2_with fail;go_roundw
 case rel=>exact⟨k+1,by go_num,by omega,gR.out,hKr3,by rw[TK.out];exact hM'⟩
 simp[intOf];omega):p:=h
theorem mCo2{p:Prop}(h:p:=by
 go_region_law (first|(go_simp;go_at_call 71;refine(CT.out vF).mono ?_;rintro r wc ⟨q,K2,u2,ps2,rfl,hTD,hnd⟩;obtain⟨Hq,qw⟩:=J2.child hkE jd hTD hnd;clear hTD hnd;have q5:=Hq.cell hj6 (by decide);have q6:=λo=>(Hq.alloc o).cell hj6 (by decide))|(refine step_append_lies _ (by rfl) _ _ _ (by rfl) base 165 i0 _ 1 8 Tryz.underlying123 JI Jt J6 Ju rfl (by omega) pu k (qs.map ptrV) (by rfl) (CoS.row (CoS.alloc (by assumption) _)) ⟨_,0,none⟩ 1 1 [ptrV q] (by rfl) (by rfl) (by exact World.news_of_block (heap_alloc_new _ _)) (by simp[Value.oneCell']) (by omega) (by unfold maxLen;omega) (by omega) (CoS.low (CoS.alloc (by assumption) _)) _ rfl ?_;intro gg Hh w3 Hb Hj hJ jT;obtain⟨Q0,zd,jZ⟩:=CoS.app (CoS.alloc (by assumption) _) hj6 (by decide) hkE jd qw Hb Hj hJ))
 all_goals generalize World.setCell _ _ _=W at jZ ⊢
 all_goals go_wp2_with fail
 all_goals go_roundw
 all_goals first|(simp[intOf];omega;done)|exact⟨k+1,_,_,_,_,_,by go_num,by omega,jZ⟩|((repeat apply Exists.intro);refine⟨?_,rfl⟩;exact⟨k+1,_,_,_,_,_,by go_num,by omega,jZ⟩)):p:=h
theorem mCo1{p:Prop}(h:p:=by
 intro w Hi;obtain⟨z0,z1,z2,z3,z4⟩:=Hi.c5 q0 q1 q2 q3 q4;first|(go_simp;done)|(go_simp;with_reducible rfl)):p:=h
theorem checkM_at{p:Pr}(h:(Za2 p).1=0):Za2 p=(0, -1):=by
 cases hl:Ze4 p with
 |error x=>
  rw[Zid hl] at h;exact absurd h (lateM_pos hl)
 |ok l=>
  unfold Za2 at h ⊢;rw[hl] at h ⊢;dsimp only at h ⊢
  split at h
  .cases h
  split at h
  .cases h
  rename_i h1 h2
  rw[if_neg h2]
theorem ints_keep{H H':Kn}{l:List Nat}{v:Value}(h:Zco H l v)(hk:∀b i n,H.cell b i=some (natV n)->H'.cell b i=some (natV n)):Zco H' l v:=
 h.imp id λ⟨b,off,Ha,h1,h2,h3,h4⟩=>⟨b,off,Ha,h1,h2,h3,λi hi=>hk _ _ _ (h4 i hi)⟩
def NewI(n:Nat)(l:List Nat)(a:Option Addr):Prop:=∀b off,a=some ⟨b,off,none⟩->0<l.length->n<=b
theorem ints_low{n m:Nat}{w:World}{l:List Nat}{a:Option Addr}{k c:Nat}(h:Zco (Zb3 m w) l (.slice a k c))(hn:n<=m):NewI n l a:=λb off e hl=>by
 obtain⟨b2,qR,e2,_,c0⟩:=SlV.at h hl;rw[e] at e2;cases e2;have c0:(Zb3 m w).cell b (off+0 * 1+0)=some (natV l[0]):=c0;refine Nat.le_trans hn ?_;refine Nat.le_of_not_lt λHr=>?_;unfold Kn.cell Zb3 at c0;rw[if_pos Hr] at c0;cases c0
theorem ints_new{n:Nat}{w:World}{l:List Nat}{a:Option Addr}{k c:Nat}(h:Zco (Zan w) l (.slice a k c))(hn:NewI n l a):Zco (Zb3 n w) l (.slice a k c):=by
 by_cases hl:0<l.length
 .rcases h with ⟨rfl,_⟩|⟨b,off,Ha,e,h2,h3,h4⟩
  .simp at hl
  have hb:n<=b:=by cases e;exact hn b off rfl hl
  refine .inr ⟨b,off,Ha,e,h2,h3,λi hi=>?_⟩;have:=h4 i hi;have hc:∀j,(Zb3 n w).cell b j=(Zan w).cell b j:=λj=>by rw[newKn_cell hb,Zaj]
  simp only[hc];exact this
 have h0:l=[]:=List.eq_nil_of_length_eq_zero (by omega);rcases h with ⟨h,h2⟩|⟨b,off,Ha,e,h2,h3,h4⟩
 .exact .inl ⟨h,h2⟩
 exact .inl ⟨h0,by cases e;subst h0;exact⟨_,_,rfl⟩⟩
def CodeNew(CT:TypeId)(R:REnv)(n:Nat)(w:World)(p:Pr)(ord:List Nat)(B:Nat):Prop:=
 ∃cs vo vu,w.heap[B]?=some (.cells cs CT (0,0))/\cs[5]?=some vo/\Zco (Zb3 n w) ord vo/\cs[9]?=some vu/\Zks (Zb3 n w) (cdOf p ord).outs vu
def CmpPost(sp:Nat->Addr)(nb:Bool)(ni:Int)(p:Pr)(w:World)(r:Ending)(w':World):Prop:=
 Ybw w w'/\if (Za2 p).1=0 then ∃B ks ord,Zao Env.none p.vars=some ks/\Za5 p=.ok ord/\r=.returned (.tuple #[ptrV B,.nilIface])/\CodeAt 168 126 ⟨ks,Zac p,getI (Zah p),nb,ni⟩ (Zan w') p ord B/\w.heap.size<=B/\CodeNew 126 ⟨ks,Zac p,getI (Zah p),nb,ni⟩ w.heap.size w' p ord B
  else ∃v,r=.returned (.tuple #[.pointer none,v])/\ErrW sp w' (Za2 p).1 (Za2 p).2 v
theorem compile_any(H:Kn)(T:Zbv H)(sp:Nat->Addr)(p:Pr)(vi vo vl va vc:Value)(hp:PrP H p vi vo vl va vc)(w:World)(hH:H.In w)(S:Sen5 w sp)(nb:Bool)(ni:Int)
  (J5:p.ins.length<=1000000/\p.fl.length<=1000000/\p.outs.length<=1000000000/\p.as.length<=1000000/\p.cs.length<=1000000) (kZ:Ex.partsL p.terms<=1000000000):
  Calls Tryz.prog 41 #[.agg #[vi,vo,vl,va,vc]] w (CmpPost sp nb ni p w):=by
 obtain⟨z1,z2,z3,z4,z5⟩:=J5;have HP:=Zhd hp;obtain⟨h1,h2,h3,h4,h5⟩:=hp;obtain⟨ai,ci,ao,co,al,cl,aa,ca,ac,cc,rfl,rfl,rfl,rfl,rfl⟩:=Ypo h1.len h2.len h3.len h4.len h5.len;have H1:=Zhd h1;have H2:=Zhd h2;have H3:=Zhd h3;have H4:=Zhd h4;have H5:=Zhd h5;clear h1 h2 h3 h4 h5;have zX:=@run_makeMap Tryz.prog;go_enter Tryz.func41,Tryz.ntmps41;go_wp2_with fail;have Hg:Ybw w (w.alloc (.cells (Yq5 p ai ao al aa ac ci co cl ca cc) 42)):=Yba;refine(ocheck_any H T sp p _ _ _ _ _ HP.out _ (hH.below Hg) (S.below Hg) ⟨z1,z2,by omega,z4,z5⟩ kZ (Zi8 p)).mono ?_;rintro r w1 ⟨Hv,v,rfl,hv⟩;have Jn:=Zhd (Hg.trans (Hv.mono (by simp)));have hq:∀i,w1.cell? ⟨w.heap.size,i,none⟩=((Yq5 p ai ao al aa ac ci co cl ca cc):Array Value)[i]?:=λi=>by rw[Hv.cell (p:=⟨w.heap.size,i,none⟩) (by simp),World.cell?_alloc_new]
 have HQ:=Zhd hq;have J6:w.heap.size+1<=w1.heap.size:=by have:=Hv.size;simp at this;omega
 have HV:=Zhd hv;clear hq Hg Hv hv;by_cases ze:(Za2 p).1=0
 case neg=>
  obtain⟨tv,pv,qu⟩:∃tv pv,v=.iface tv pv:=by
   rcases HV.out with ⟨_,h⟩|⟨_,N,h,_⟩
   .obtain⟨c,hc⟩:∃c,(Za2 p).1=c+1:=⟨(Za2 p).1 - 1,by omega⟩;rw[hc,Zfk] at h;exact⟨_,_,h⟩
   exact⟨_,_,h⟩
  subst qu;go_wp2_with fail;go_ret2
  unfold CmpPost;rw[if_neg ze];exact⟨Jn.out,_,rfl,HV.out⟩
 obtain⟨l,ho,_,_⟩:=Zf0 ze;obtain⟨J0,holen,holow⟩:=Zbg ho;obtain⟨ks,hks,_,ji,jY,qH,Hk,_⟩:=Zb9 J0;have qu:v=.nilIface:=by
  have h:=HV.out;rw[checkM_at ze] at h;rcases h with ⟨_,h⟩|⟨h,_⟩
  .exact h
  exact absurd rfl h
 subst qu;have gP:=Zhd hks;have zm:=Zhd ((Zbe ks p.terms).1 ji);have HHO:=Zhd ho;have yQ:=Zhd J0;have HC0:=Zhd ze;clear hks ji ho J0 ze HV;have yD:=Zhd (hH.below Jn.out);have S1:=S.below Jn.out;go_upto_region 4 with fail
 go_cut[5] from 23 to 30 (λs5 wx=>∃B bn bk bl L,s5=ptrV B/\Ybw w1 wx/\w1.heap.size<=B/\w1.heap.size<=bn/\w1.heap.size<=bk/\w1.heap.size<=bl/\bn≠bk/\bn≠bl/\bk≠bl/\wx.heap[B]?=some (.cells #[.slice ai p.ins.length ci,.slice ao p.outs.length co,.slice al p.fl.length cl,.slice aa p.as.length ca,.slice ac p.cs.length cc,Ys0,Ys0,Ys0,Ys0,Ys0,Ys0,.map (some bn),.map (some bk),.map (some bl)] 126 (0,0))/\Zay (Value.int .i64) wx bn Env.none/\Zay (Value.int .i64) wx bk (kindsM p)/\Zay (Value.int .i64) wx bl L/\getI L=Zac p/\∀s,0<=getI L s/\getI L s<=2)
 case first=>
  have hS:(Zan w1).In w1.drew:=Za9 w1;have He:H.le (Zan w1):=all_of yD.out;have q0:(Zan w1).cell w.heap.size 0=some (.slice ai p.ins.length ci):=by rw[Zaj];exact HQ.out 0
  have q1:(Zan w1).cell w.heap.size 1=some (.slice ao p.outs.length co):=by rw[Zaj];exact HQ.out 1
  have q2:(Zan w1).cell w.heap.size 2=some (.slice al p.fl.length cl):=by rw[Zaj];exact HQ.out 2
  have q3:(Zan w1).cell w.heap.size 3=some (.slice aa p.as.length ca):=by rw[Zaj];exact HQ.out 3
  have q4:(Zan w1).cell w.heap.size 4=some (.slice ac p.cs.length cc):=by rw[Zaj];exact HQ.out 4
  have HK:=Zhd (λ(w':World) (h:(Zan w1).In w')=>kinds_any H p _ _ _ _ _ HP.out ⟨z1,z2⟩ w' (λb o e=>h b o (He b o e)));have HN:=Zhd (λ(w':World) (h:(Zan w1).In w')=>names_new H p _ _ _ _ _ HP.out ks (λf hf=>by
   obtain⟨i,hi,e⟩:=List.mem_iff_getElem.1 (Zeh p hf);rw[<- e];exact zm.out i hi) z2 w' (λb o e=>h b o (He b o e)))
  have zR:=Zhd (show ∀(wC:World) (bn bk bl:Nat) (L:Env Int),Ybw w1 wC->w1.heap.size<=bn->w1.heap.size<=bk->w1.heap.size<=bl->bn≠bk->bn≠bl->bk≠bl->Zay (Value.int .i64) wC bn Env.none->Zay (Value.int .i64) wC bk (kindsM p)->Zay (Value.int .i64) wC bl L->getI L=Zac p->(∀s,0<=getI L s/\getI L s<=2)->
    ∃B cn ck ce L',ptrV wC.heap.size=ptrV B/\Ybw w1 (wC.alloc (.cells #[.slice ai p.ins.length ci,.slice ao p.outs.length co,.slice al p.fl.length cl,.slice aa p.as.length ca,.slice ac p.cs.length cc,Ys0,Ys0,Ys0,Ys0,Ys0,Ys0,.map (some bn),.map (some bk),.map (some bl)] 126))/\w1.heap.size<=B/\w1.heap.size<=cn/\w1.heap.size<=ck/\w1.heap.size<=ce/\cn≠ck/\cn≠ce/\ck≠ce/\((wC.alloc (.cells #[.slice ai p.ins.length ci,.slice ao p.outs.length co,.slice al p.fl.length cl,.slice aa p.as.length ca,.slice ac p.cs.length cc,Ys0,Ys0,Ys0,Ys0,Ys0,Ys0,.map (some bn),.map (some bk),.map (some bl)] 126))).heap[B]?=some (.cells #[.slice ai p.ins.length ci,.slice ao p.outs.length co,.slice al p.fl.length cl,.slice aa p.as.length ca,.slice ac p.cs.length cc,Ys0,Ys0,Ys0,Ys0,Ys0,Ys0,.map (some cn),.map (some ck),.map (some ce)] 126 (0,0))/\Zay (Value.int .i64) (wC.alloc (.cells #[.slice ai p.ins.length ci,.slice ao p.outs.length co,.slice al p.fl.length cl,.slice aa p.as.length ca,.slice ac p.cs.length cc,Ys0,Ys0,Ys0,Ys0,Ys0,Ys0,.map (some bn),.map (some bk),.map (some bl)] 126)) cn Env.none/\Zay (Value.int .i64) (wC.alloc (.cells #[.slice ai p.ins.length ci,.slice ao p.outs.length co,.slice al p.fl.length cl,.slice aa p.as.length ca,.slice ac p.cs.length cc,Ys0,Ys0,Ys0,Ys0,Ys0,Ys0,.map (some bn),.map (some bk),.map (some bl)] 126)) ck (kindsM p)/\Zay (Value.int .i64) (wC.alloc (.cells #[.slice ai p.ins.length ci,.slice ao p.outs.length co,.slice al p.fl.length cl,.slice aa p.as.length ca,.slice ac p.cs.length cc,Ys0,Ys0,Ys0,Ys0,Ys0,Ys0,.map (some bn),.map (some bk),.map (some bl)] 126)) ce L'/\getI L'=Zac p/\∀s,0<=getI L' s/\getI L' s<=2 from
   λwC bn bk bl L h1 h2 h3 h4 h5 h6 h7 m1 m2 m3 h8 h9=>⟨wC.heap.size,bn,bk,bl,L,rfl,h1.alloc h1.size _,h1.size,h2,h3,h4,h5,h6,h7,heap_alloc_new _ _,m1.alloc _,m2.alloc _,m3.alloc _,h8,h9⟩)
  have hwd:w1.drew.heap.size=w1.heap.size:=rfl;have ka:Ybw w1 w1.drew:=(Below.refl _ _).drew;refine Zae (λw'=>(Zan w1).In w') (λ_=>True) 99 (by kernel_rfl) ?_;refine tk2 (i:=0) (v:=?_) rfl hS Ztr ?hy ?_
  case hy=>exact mCo1
  try simp only[tkS]
  refine tk2 (i:=2) (v:=?_) rfl hS Ztr ?hy ?_
  case hy=>exact mCo1
  try simp only[tkS]
  refine tk2 (i:=4) (v:=?_) rfl hS Ztr ?hy ?_
  case hy=>exact mCo1
  try simp only[tkS]
  refine Zcj (i:=1) (j:=3) (o:=_) (o':=_) (by kernel_rfl) rfl rfl (λK_ hK=>?_) (λK_ hK=>?_)
  .go_simp;refine hK.out _ _ (hS.alloc _) Ztr ?_;clear hK K_
   try simp only[tkS]
   refine Zwo 3 rfl λK_ hK=>?_;go_simp;go_at_call 68;refine(HK.out _ (hS.alloc (.map #[] 0))).mono ?_;rintro r wk ⟨bk,rfl,xR,hkg,xi⟩;have hSk:=((hS.alloc (.map #[] 0))).below xi;refine hK.out _ _ hSk Ztr ?_;clear hK K_
   try simp only[tkS]
   refine Zwo 5 rfl λK_ hK=>?_;go_simp;go_at_call 69;refine(HN.out _ hSk).mono ?_;rintro r wn ⟨bl,L,rfl,zi,hLM,hLB,hlg,Ji⟩;have vR:=(hSk).below Ji;refine hK.out _ _ vR Ztr ?_;clear hK K_
   try simp only[tkS]
   have xj:Ybw w1 (w1.drew.alloc (.map #[] 0)):=ka.alloc ka.size _;have hbB:=xj.trans (xi.mono xj.size);have hbC:=hbB.trans (Ji.mono hbB.size);have yL:=((Zay.made (Value.int .i64) w1.drew).below xi).below Ji;have hMk2:=xR.below Ji;have JT:=xR.lt;have hsA:(w1.drew.alloc (.map #[] 0)).heap.size=w1.heap.size+1:=by simp
   have hsk:=xi.size;have hsn:=Ji.size;simp only[hsA] at hsk hkg;refine tk2 (i:=6) (v:=?_) rfl vR Ztr ?hy ?_
   case hy=>exact mCo1
   try simp only[tkS]
   refine Zwo 7 rfl λK_ hK=>?_;go_simp;refine hK.out _ _ (vR.alloc _) Ztr ?_;clear hK K_
   try simp only[tkS]
   refine tk2 (i:=8) (v:=?_) rfl (vR.alloc _) Ztr ?hy ?_
   case hy=>exact mCo1
   try simp only[tkS]
   refine Zwd ?_;go_wp2_with fail;go_meet
   exact zR.out wn w1.heap.size bk bl L hbC Ylr (by omega) (by omega) (by omega) (by omega) (by omega) yL hMk2 zi hLM hLB
  go_simp;go_at_call 68;refine(HK.out _ hS).mono ?_;rintro r wk ⟨bk,rfl,xR,hkg,xi⟩;have hSk:=(hS).below xi;refine hK.out _ _ hSk Ztr ?_;clear hK K_
  try simp only[tkS]
  refine Zcj (i:=1) (j:=5) (o:=_) (o':=_) (by kernel_rfl) rfl rfl (λK_ hK=>?_) (λK_ hK=>?_)
  .go_simp;refine hK.out _ _ (hSk.alloc _) Ztr ?_;clear hK K_
   try simp only[tkS]
   refine Zwo 5 rfl λK_ hK=>?_;go_simp;go_at_call 69;refine(HN.out _ (hSk.alloc (.map #[] 0))).mono ?_;rintro r wn ⟨bl,L,rfl,zi,hLM,hLB,hlg,Ji⟩;have vR:=((hSk.alloc (.map #[] 0))).below Ji;refine hK.out _ _ vR Ztr ?_;clear hK K_
   try simp only[tkS]
   have xj:=ka.trans (xi.mono ka.size);have hbB:Ybw w1 (wk.alloc (.map #[] 0)):=xj.alloc xj.size _;have hbC:=hbB.trans (Ji.mono hbB.size);have yL:=(Zay.made (Value.int .i64) wk).below Ji;have hMk2:=(xR.alloc (.map #[] 0)).below Ji;have JT:=xR.lt;have hsA:(wk.alloc (.map #[] 0)).heap.size=wk.heap.size+1:=by simp
   have hsk:=xi.size;have hsn:=Ji.size;simp only[hsA] at hsn hlg;refine tk2 (i:=6) (v:=?_) rfl vR Ztr ?hy ?_
   case hy=>exact mCo1
   try simp only[tkS]
   refine Zwo 7 rfl λK_ hK=>?_;go_simp;refine hK.out _ _ (vR.alloc _) Ztr ?_;clear hK K_
   try simp only[tkS]
   refine tk2 (i:=8) (v:=?_) rfl (vR.alloc _) Ztr ?hy ?_
   case hy=>exact mCo1
   try simp only[tkS]
   refine Zwd ?_;go_wp2_with fail;go_meet
   exact zR.out wn wk.heap.size bk bl L hbC (by omega) (by omega) (by omega) (by omega) (by omega) (by omega) yL hMk2 zi hLM hLB
  go_simp;go_at_call 69;refine(HN.out _ hSk).mono ?_;rintro r wn ⟨bl,L,rfl,zi,hLM,hLB,hlg,Ji⟩;have vR:=(hSk).below Ji;refine hK.out _ _ vR Ztr ?_;clear hK K_
  try simp only[tkS]
  refine Zwo 1 rfl λK_ hK=>?_;go_simp;refine hK.out _ _ (vR.alloc _) Ztr ?_;clear hK K_
  try simp only[tkS]
  have xj:=ka.trans (xi.mono ka.size);have hbC:=xj.trans (Ji.mono xj.size);have yL:=Zay.made (Value.int .i64) wn;have hMk2:=(xR.below Ji).alloc (.map #[] 0);have hMl2:=zi.alloc (.map #[] 0);have JT:=xR.lt;have vB:=zi.lt;have hsk:=xi.size;have hsn:=Ji.size;have hbC:=hbC.alloc hbC.size (.map #[] 0);have hsz2:(wn.alloc (.map #[] 0)).heap.size=wn.heap.size+1:=by simp
  have ja:=zR.out (wn.alloc (.map #[] 0)) wn.heap.size bk bl L hbC (by omega) (by omega) (by omega) (by omega) (by omega) (by omega) yL hMk2 hMl2 hLM hLB;rw[hsz2] at ja;refine tk2 (i:=6) (v:=?_) rfl (vR.alloc (.map #[] 0)) Ztr ?hy ?_
  case hy=>exact mCo1
  try simp only[tkS]
  refine Zwo 7 rfl λK_ hK=>?_;go_simp;refine hK.out _ _ ((vR.alloc (.map #[] 0)).alloc _) Ztr ?_;clear hK K_
  try simp only[tkS]
  refine tk2 (i:=8) (v:=?_) rfl ((vR.alloc (.map #[] 0)).alloc _) Ztr ?hy ?_
  case hy=>exact mCo1
  try simp only[tkS]
  refine Zwd ?_;go_wp2_with fail;go_meet
  exact ja
 obtain⟨B,bn,bk,bl,L,rfl,Hu,gy,hgn,hgk,Qt,hnk,jR,Hd,xV,yL,xR,zi,hLM,hLB⟩:=hcut;have HBC:=Zhd (Jn.out.trans (Hu.mono (by omega)));have q:∀i,wc.cell? ⟨w.heap.size,i,none⟩=((Yq5 p ai ao al aa ac ci co cl ca cc):Array Value)[i]?:=λi=>by rw[Hu.cell (p:=⟨w.heap.size,i,none⟩) (by show w.heap.size<w1.heap.size;omega)];exact HQ.out i
 have HQC:=Zhd q;have qq0:wc.cell? ⟨w.heap.size,0,none⟩=some (.slice ai p.ins.length ci):=q 0;have qq1:wc.cell? ⟨w.heap.size,1,none⟩=some (.slice ao p.outs.length co):=q 1;have qq2:wc.cell? ⟨w.heap.size,2,none⟩=some (.slice al p.fl.length cl):=q 2;have qq3:wc.cell? ⟨w.heap.size,3,none⟩=some (.slice aa p.as.length ca):=q 3;have qq4:wc.cell? ⟨w.heap.size,4,none⟩=some (.slice ac p.cs.length cc):=q 4;have HM:=Zhd (And.intro yL (And.intro xR zi));have HL:=Zhd (And.intro hLM hLB);have xG:=Zhd xV;have SC:=S1.below Hu;have hsx:=Hu.size;clear yL xR zi hLM hLB xV q Hu HQ;go_upto_region 6 with(go_at_call 70;refine(order_new H T sp p _ _ _ _ _ HP.out _ (hH.below HBC.out) SC ⟨z1,z2,by omega,z4,z5⟩ kZ (Zi8 p)).mono ?_;rintro r w2 ⟨Hm,Hx⟩;rw[HHO.out] at Hx;obtain⟨vo2,rfl,hvn⟩:=Hx;obtain⟨av,cv,rfl⟩:=hvn.len;have vq:=Zco.le (newKn_le _ _) hvn;have gf:=Zhd (ints_low hvn (by have:=HBC.out.size;omega):NewI w.heap.size l av);have vX:=(Hm.block B (Zlt xG.out)).trans xG.out;have hc5:w2.cell? ⟨B,5,none⟩=some (Ys0):=(by simp[World.cell?,vX]);have hf5:w2.frozen? ⟨B,5,none⟩=false:=(by simp[World.frozen?,vX]))
 have Hs:∀(i n:Nat),(#[.slice ai p.ins.length ci,.slice ao p.outs.length co,.slice al p.fl.length cl,.slice aa p.as.length ca,.slice ac p.cs.length cc,Ys0,Ys0,Ys0,Ys0,Ys0,Ys0,.map (some bn),.map (some bk),.map (some bl)]:Array Value)[i]?≠some (natV n):=λi n h=>by
  have hm:=Array.mem_of_getElem? h;simp[natV] at hm
 have hBl2:=(Zlt vX);obtain⟨yL,xR,zi⟩:=HM.out;have yL:=yL.below Hm;have xR:=xR.below Hm;have zi:=zi.below Hm;have hBn:B≠bn:=λe=>by obtain⟨es,ck,h1,_⟩:=yL;rw[<- e,vX] at h1;cases h1
 have hBk:B≠bk:=λe=>by obtain⟨es,ck,h1,_⟩:=xR;rw[<- e,vX] at h1;cases h1
 have hBl:B≠bl:=λe=>by obtain⟨es,ck,h1,_⟩:=zi;rw[<- e,vX] at h1;cases h1
 have hvo3:Zco (noKn bn (w2.setCell ⟨B,5,none⟩ (.slice av p.fl.length cv))) l (.slice av l.length cv):=ints_keep vq λb i n hc=>by
  rw[Zaj] at hc;have h1:b≠B:=λe=>by rw[e] at hc;simp only[World.cell?,vX] at hc;exact Hs i n (by simpa using hc)
  have h2:b≠bn:=λe=>by obtain⟨es,ck,h1,_⟩:=yL;rw[e] at hc;simp[World.cell?,h1] at hc
  rw[Zep h2,World.cell?_of_block (w:=w2) (Below.heap_setCell w2 ⟨B,5,none⟩ _ b h1)];exact hc
 have xy:(w2.setCell ⟨B,5,none⟩ (.slice av p.fl.length cv)).heap[B]?=some (.cells #[.slice ai p.ins.length ci,.slice ao p.outs.length co,.slice al p.fl.length cl,.slice aa p.as.length ca,.slice ac p.cs.length cc,.slice av p.fl.length cv,Ys0,Ys0,Ys0,Ys0,Ys0,.map (some bn),.map (some bk),.map (some bl)] 126 (0,0)):=by rw[Zaa _ _ _ _ _ _ _ vX];rfl
 have zD:∀b,b≠B->(w2.setCell ⟨B,5,none⟩ (.slice av p.fl.length cv)).heap[b]?=w2.heap[b]?:=λb hb=>Below.heap_setCell w2 ⟨B,5,none⟩ _ b hb;have hbw3:Ybw w (w2.setCell ⟨B,5,none⟩ (.slice av p.fl.length cv)):=(HBC.out.trans (Hm.mono (by have:=HBC.out.size;omega))).setCell (p:=⟨B,5,none⟩) (by show w.heap.size<=B;omega) _;have hMn3:=yL.of_block (zD bn (Ne.symm hBn));have hMk3:=xR.of_block (zD bk (Ne.symm hBk));have hMl3:=zi.of_block (zD bl (Ne.symm hBl));have hq3:∀i,(w2.setCell ⟨B,5,none⟩ (.slice av p.fl.length cv)).cell? ⟨w.heap.size,i,none⟩=((Yq5 p ai ao al aa ac ci co cl ca cc):Array Value)[i]?:=λi=>by
  rw[World.cell?_of_block (w:=w2) (zD w.heap.size (by omega)),Hm.cell (p:=⟨w.heap.size,i,none⟩) (by show w.heap.size<wc.heap.size;omega)];exact HQC.out i
 generalize w2.setCell ⟨B,5,none⟩ (.slice av p.fl.length cv)=W3 at *;obtain⟨K,JQ⟩:∃K,K=noKn bn W3:=⟨_,rfl⟩;have JK:K.In W3:=by rw[JQ];exact Zgh bn W3
 have hKn:K bn=none:=by rw[JQ];exact Zfb bn W3
 have hHK:H.le K:=by rw[JQ];exact Zgg (hH.below hbw3) (hH.isNone (by omega))
 have HKB:=Zhd (show K B=some (.cells #[.slice ai p.ins.length ci,.slice ao p.outs.length co,.slice al p.fl.length cl,.slice aa p.as.length ca,.slice ac p.cs.length cc,.slice av p.fl.length cv,Ys0,Ys0,Ys0,Ys0,Ys0,.map (some bn),.map (some bk),.map (some bl)] 126 (0,0)) from by rw[JQ];unfold noKn;rw[if_neg hBn];exact xy);have HKQ:=Zhd (show ∀i,K.cell w.heap.size i=((Yq5 p ai ao al aa ac ci co cl ca cc):Array Value)[i]? from λi=>by rw[JQ,Zep (by omega)];exact hq3 i);have HKM:=Zhd (show ∀w',K.In w'->Zay (Value.int .i64) w' bk (kindsM p)/\Zay (Value.int .i64) w' bl L from λw' h=>by
  rw[JQ] at h;refine⟨?_,?_⟩
  .obtain⟨es,ck,h1,h2⟩:=hMk3;exact⟨es,ck,h bk _ (by unfold noKn;rw[if_neg (Ne.symm hnk)];exact h1),h2⟩
  obtain⟨es,ck,h1,h2⟩:=hMl3;exact⟨es,ck,h bl _ (by unfold noKn;rw[if_neg (Ne.symm jR)];exact h1),h2⟩)
 have HKV:=Zhd (show Zco K l (.slice av l.length cv) from by rw[JQ];exact hvo3);have yC:=Zhd (HP.out.le hHK);have HMN:=Zhd hMn3;have Js:=Zhd hbw3;have QD:=Zhd hKn;have JZ:=Zhd hHK;have gQ:=Zhd JK;have hz3:w.heap.size+1<=W3.heap.size:=by have:=JK.cell (HKQ.out 0);have:=Kn.cell_lt JK (b:=w.heap.size) (i:=0) (v:=.slice ai p.ins.length ci) (HKQ.out 0);omega
 clear Hs yL xR zi hvo3 xy zD hbw3 hMn3 hMk3 hMl3 hq3 JK hKn hHK JQ vq vX hc5 hf5 Hm HM xG HQC SC qq0 qq1 qq2 qq3 qq4;have g0:W3.cell? ⟨w.heap.size,0,none⟩=some (.slice ai p.ins.length ci):=gQ.out.cell (HKQ.out 0);go_wp2_with fail;clear g0;go_loopw[42] (λi wr=>∃k:Nat,i=.int .i64 k/\k<=p.ins.length/\Ybw w wr/\K.In wr/\Zay (Value.int .i64) wr bn (Zcs 0 Env.none (p.ins.take k))) (λi _=>p.ins.length - (intOf i).toNat)
 case atStart=>exact⟨0,rfl,Nat.zero_le _,Js.out,gQ.out,HMN.out⟩
 obtain⟨k,rfl,hk,hb,kV,hM⟩:=hrel;have HB:=Zhd hb;have HM:=Zhd hM;have qP:=Zhd kV;clear hb hM kV;by_cases Hd:k<p.ins.length
 .obtain⟨b,off,rfl,_,c0,c1⟩:=SlV.at yC.out.ins Hd;have c0:=qP.out.cell c0;have c1:=qP.out.cell c1;simp only[Nat.add_zero] at c0;have TK:=Zhd (inNames_take p.ins k Hd);generalize p.ins[k]=x at *;obtain⟨xn,xk⟩:=x;dsimp only at *;go_wp2_with fail;have hVsz:(wr.alloc (.cells #[.string xn,.int .i64 xk] 127)).heap.size=wr.heap.size+1:=by simp
  have ku:=heap_alloc_new wr (.cells #[.string xn,.int .i64 xk] 127);have hbnlt:=HM.out.lt;have hKV:K wr.heap.size=none:=qP.out.isNone Ylr;obtain⟨K1,hK1⟩:∃K1,K1=K.add wr.heap.size (.cells #[.string xn,.int .i64 xk] 127 (0,0)):=⟨_,rfl⟩;have yY:K.le K1:=by rw[hK1];exact Kn.le_add hKV
  have hS:K1.In (wr.alloc (.cells #[.string xn,.int .i64 xk] 127)).drew:=by rw[hK1];exact(qP.out.alloc _).add ku
  have hK1n:K1 bn=none:=by rw[hK1,Kn.add_other _ _ (by omega)];exact QD.out
  have k0:K1.cell wr.heap.size 0=some (.string xn):=by rw[hK1];unfold Kn.cell;rw[Kn.add_self];rfl
  have zT:K1.cell B 11=some (.map (some bn)):=yY.cell (by unfold Kn.cell;rw[HKB.out];rfl);have hMd:Zay (Value.int .i64) (wr.alloc (.cells #[.string xn,.int .i64 xk] 127)).drew bn (Zcs 0 Env.none (p.ins.take k)):=HM.out.alloc _;have HBd:=Zhd (show Ybw w (wr.alloc (.cells #[.string xn,.int .i64 xk] 127)).drew from(HB.out.alloc HB.out.size _).drew);clear ku hVsz hKV hK1 c0 c1;refine Zae (λw'=>K1.In w') (λ_=>True) 99 (by kernel_rfl) ?_;generalize (wr.alloc (.cells #[.string xn,.int .i64 xk] 127)).drew=wd at *;refine Go.w3 0 ?_
  iterate 7 ((first|(refine tk3 (v:=?_) rfl hS Ztr ?hy ?_;(case hy=>intro w Hi;obtain⟨z0,z1⟩:=Hi.c2 zT k0;go_simp<;>with_reducible rfl))|refine sk3 rfl hS Ztr ?_|refine no3 ?_);refine Zss ?_)
  refine Go.w3e ?_;refine Zdu (i:=7) (oi:=_) (v:=.int .i64 (-1 - (k:Int))) rfl (by decide) (by kernel_rfl) (by kernel_rfl) (by kernel_rfl) (by kernel_rfl) (λ_ _ _ h=>h) hS Ztr (Or.inl ⟨by rfl,?hy⟩) ?_
  case hy=>intro w Hi;obtain⟨z0,z1⟩:=Hi.c2 zT k0;first|(go_simp;done)|(go_simp;with_reducible rfl)|(go_simp;rw[wrap64];split<;>omega)
  try simp only[tkS]
  refine Zwo 8 rfl λK_ hK=>?_;obtain⟨ob,Ht,hM'⟩:=(hMd.run_set (P:=Tryz.prog) Tryz.underlying124 Tryz.underlying9 xn (-1 - (k:Int)));exact mCo3
 obtain rfl:k=p.ins.length:=by omega
 have g2:wr.cell? ⟨w.heap.size,2,none⟩=some (.slice al p.fl.length cl):=qP.out.cell (HKQ.out 2);have gN:=Zhd (show Zay (Value.int .i64) wr bn (Zcs 0 Env.none p.ins) from by have:=HM.out;rw[List.take_length] at this;exact this);go_wp2_with fail;clear g2;have HBr:=HB;have HKRr:=qP;clear HB qP HM hk Hd;go_loopw[59] (λi wr=>∃k:Nat,i=.int .i64 k/\k<=p.fl.length/\Ybw w wr/\K.In wr/\Zay (Value.int .i64) wr bn (Zds 0 (Zcs 0 Env.none p.ins) (p.fl.take k))) (λi _=>p.fl.length - (intOf i).toNat)
 case atStart=>exact⟨0,rfl,Nat.zero_le _,HBr.out,HKRr.out,gN.out⟩
 clear HBr HKRr gN;obtain⟨k,rfl,hk,hb,kV,hM⟩:=hrel;have HB:=Zhd hb;have HM:=Zhd hM;have qP:=Zhd kV;clear hb hM kV;by_cases Hd:k<p.fl.length
 .obtain⟨b,off,rfl,_,kR⟩:=SlV.at yC.out.fl Hd;obtain⟨u,c0,c1,c2,c3,c4,c5,hu⟩:=kR.cells;obtain⟨ax,cx,rfl⟩:=hu.len;have c0:=qP.out.cell c0;have c1:=qP.out.cell c1;have c2:=qP.out.cell c2;have c3:=qP.out.cell c3;have c4:=qP.out.cell c4;have c5:=qP.out.cell c5;simp only[Nat.add_zero] at c0;have TK:=Zhd (flNames_take (Zcs 0 Env.none p.ins) p.fl k Hd);clear hu kR;generalize p.fl[k]=x at *;obtain⟨xn,xk,xe⟩:=x;dsimp only at *;generalize xe.op=xo at *;generalize xe.n=xnn at *;generalize xe.s=xs at *;generalize xe.l.length=xl at *;go_wp2_with fail;have hVsz:(wr.alloc (.cells #[.string xn,.int .i64 xk,.string xo,.int .i64 xnn,.string xs,.slice ax xl cx] 96)).heap.size=wr.heap.size+1:=by simp
  have ku:=heap_alloc_new wr (.cells #[.string xn,.int .i64 xk,.string xo,.int .i64 xnn,.string xs,.slice ax xl cx] 96);have hbnlt:=HM.out.lt;have hKV:K wr.heap.size=none:=qP.out.isNone Ylr;obtain⟨K1,hK1⟩:∃K1,K1=K.add wr.heap.size (.cells #[.string xn,.int .i64 xk,.string xo,.int .i64 xnn,.string xs,.slice ax xl cx] 96 (0,0)):=⟨_,rfl⟩;have yY:K.le K1:=by rw[hK1];exact Kn.le_add hKV
  have hS:K1.In (wr.alloc (.cells #[.string xn,.int .i64 xk,.string xo,.int .i64 xnn,.string xs,.slice ax xl cx] 96)).drew:=by rw[hK1];exact(qP.out.alloc _).add ku
  have hK1n:K1 bn=none:=by rw[hK1,Kn.add_other _ _ (by omega)];exact QD.out
  have k0:K1.cell wr.heap.size 0=some (.string xn):=by rw[hK1];unfold Kn.cell;rw[Kn.add_self];rfl
  have zT:K1.cell B 11=some (.map (some bn)):=yY.cell (by unfold Kn.cell;rw[HKB.out];rfl);have hMd:Zay (Value.int .i64) (wr.alloc (.cells #[.string xn,.int .i64 xk,.string xo,.int .i64 xnn,.string xs,.slice ax xl cx] 96)).drew bn (Zds 0 (Zcs 0 Env.none p.ins) (p.fl.take k)):=HM.out.alloc _;have HBd:=Zhd (show Ybw w (wr.alloc (.cells #[.string xn,.int .i64 xk,.string xo,.int .i64 xnn,.string xs,.slice ax xl cx] 96)).drew from(HB.out.alloc HB.out.size _).drew);clear ku hVsz hKV hK1 c0 c1 c2 c3 c4 c5;refine Zae (λw'=>K1.In w') (λ_=>True) 99 (by kernel_rfl) ?_;generalize (wr.alloc (.cells #[.string xn,.int .i64 xk,.string xo,.int .i64 xnn,.string xs,.slice ax xl cx] 96)).drew=wd at *;refine Go.w3 0 ?_
  iterate 7 ((first|(refine tk3 (v:=?_) rfl hS Ztr ?hy ?_;(case hy=>intro w Hi;obtain⟨z0,z1⟩:=Hi.c2 zT k0;go_simp<;>with_reducible rfl))|refine sk3 rfl hS Ztr ?_|refine no3 ?_);refine Zss ?_)
  refine Go.w3e ?_;refine Zwo 7 rfl λK_ hK=>?_;obtain⟨ob,Ht,hM'⟩:=(hMd.run_set (P:=Tryz.prog) Tryz.underlying124 Tryz.underlying9 xn (k:Int));exact mCo3
 obtain rfl:k=p.fl.length:=by omega
 have gN:=Zhd (show Zay (Value.int .i64) wr bn (Zah p) from by have:=HM.out;rw[List.take_length] at this;exact this);clear HM hk Hd;have hks2:kindsM p=ks:=Zhq _ _ _ gP.out;have zJ:=qP.out _ _ HKB.out;have zj:=(Zlt zJ);obtain⟨H0,xU⟩:∃H0,H0=noKn B wr:=⟨_,rfl⟩;have h0in:H0.In wr:=by rw[xU];exact Zgh B wr
 have h0B:H0 B=none:=by rw[xU];exact Zfb B wr
 have h0K:∀b o,b≠B->K b=some o->H0 b=some o:=λb o hb e=>by rw[xU];unfold noKn;rw[if_neg hb];exact qP.out b o e
 have HPB:=Zhd (HP.out.le (H':=H0) λb o e=>h0K b o (λe2=>by have:=hH.lt e;omega) (JZ.out b o e));have hq:∀i v,((Yq5 p ai ao al aa ac ci co cl ca cc):Array Value)[i]?=some v->H0.cell w.heap.size i=some v:=λi v hv=>by
  rw[xU,Zep (by omega)];exact qP.out.cell ((HKQ.out i).trans hv)
 have Q1:=Zhd (hq 1 _ rfl);have Q2:=Zhd (hq 2 _ rfl);have Q3:=Zhd (hq 3 _ rfl);have Q4:=Zhd (hq 4 _ rfl);have zt:=HKM.out wr qP.out;have gM:=Zhd (show Maps3 H0 bn bk bl (Zah p) ks L from by rw[xU,<- hks2];exact⟨map_known gN.out (Ne.symm hBn),map_known zt.1 (Ne.symm hBk),map_known zt.2 (Ne.symm hBl)⟩);have zN:=Zhd (show Zco H0 l (.slice av l.length cv) from ints_keep HKV.out λb i n hc=>by
  have hb:b≠B:=λe=>by
   rw[e] at hc;unfold Kn.cell at hc;rw[HKB.out] at hc;have hm:=Array.mem_of_getElem? hc;simp[natV] at hm
  unfold Kn.cell at hc ⊢
  split at hc
  .rename_i kh
   rw[h0K _ _ hb kh];exact hc
  cases hc)
 obtain⟨cs,jg⟩:∃cs:Array Value,cs = #[.slice ai p.ins.length ci,.slice ao p.outs.length co,.slice al p.fl.length cl,.slice aa p.as.length ca,.slice ac p.cs.length cc,.slice av p.fl.length cv,Ys0,Ys0,Ys0,Ys0,Ys0,.map (some bn),.map (some bk),.map (some bl)]:=⟨_,rfl⟩;have a0:cs[0]?=some (.slice ai p.ins.length ci):=by rw[jg];rfl
 have a5:cs[5]?=some (.slice av p.fl.length cv):=by rw[jg];rfl
 have a6:cs[6]?=some (Ys0):=by rw[jg];rfl
 have a7:cs[7]?=some (Ys0):=by rw[jg];rfl
 have a8:cs[8]?=some (Ys0):=by rw[jg];rfl
 have a9:cs[9]?=some (Ys0):=by rw[jg];rfl
 have a10:cs[10]?=some (Ys0):=by rw[jg];rfl
 have ga:cs[11]?=some (.map (some bn)):=by rw[jg];rfl
 have a12:cs[12]?=some (.map (some bk)):=by rw[jg];rfl
 have xX:cs[13]?=some (.map (some bl)):=by rw[jg];rfl
 have kO:cs.size=14:=by rw[jg];rfl
 rw[<- jg] at zJ;obtain⟨E,hEe⟩:∃E,E=p.fl.map (·.e):=⟨_,rfl⟩;have hEl:E.length=p.fl.length:=by rw[hEe,List.length_map]
 have hmt:∀e∈p.terms,Zad ks e=true:=λe he=>by
  obtain⟨i,hi,rfl⟩:=List.mem_iff_getElem.1 he;exact zm.out i hi
 have hmp:∀e∈p.terms,e.parts<=1000000000:=λe he=>by have:=partsL_mem he;omega
 have hmn:Zag p.terms<=1000000000:=by have:=Zil p.terms;omega
 have htt:p.terms=E++p.as++p.cs:=by rw[hEe];rfl
 have hmn2:Zag E+Zag p.as+Zag p.cs<=1000000000:=by rw[htt,Zcl,Zcl] at hmn;exact hmn
 have yN:=Zhd htt;have gh:=Zhd hmt;have HMPT:=Zhd hmp;have HEL:=Zhd hEl;have HEE:=Zhd hEe;have hRl:(⟨ks,Zac p,getI (Zah p),nb,ni⟩:REnv).lt=getI L:=HL.out.1.symm;obtain⟨R,hRe⟩:∃R:REnv,R=⟨ks,Zac p,getI (Zah p),nb,ni⟩:=⟨_,rfl⟩;have Q7:R.ks=ks:=by rw[hRe]
 have hRn:R.nm=getI (Zah p):=by rw[hRe]
 have hRl:R.lt=getI L:=by rw[hRe];exact HL.out.1.symm
 rw[<- Q7] at gM gh;have HRE:=Zhd hRe;have HRN:=Zhd hRn;have HRL:=Zhd hRl;have HRK:=Zhd Q7;have HC:=Zhd (CoS.init (NT:=168) (PT:=165) (CT:=126) (R:=R) (j:=6) (l:=E) h0in HB.out h0B (show w.heap.size<=B by omega) zJ a10 a6);have A0:=Zhd a0;have A5:=Zhd a5;have A7:=Zhd a7;have A8:=Zhd a8;have A9:=Zhd a9;have QH:=Zhd a10;have vh:=Zhd ga;have gu:=Zhd a12;have gt:=Zhd xX;have xK:=Zhd kO;generalize hbs:wr.heap.size=base at HC;have g2:wr.cell? ⟨w.heap.size,2,none⟩=some (.slice al p.fl.length cl):=h0in.cell Q2.out;clear hq zt HKM gN HKQ HKV yC HKB qP JZ HMN Js QD gQ h0K xU h0in h0B zJ a0 a5 a6 a7 a8 a9 a10 ga a12 xX kO jg hEe hEl hmt hmp hmn htt hRe Q7 hRn hRl hks2 hbs zm HB;obtain⟨M6,hM6⟩:∃M:List (Ex×Nat),M=[]:=⟨_,rfl⟩;have hM6l:M6.length=0:=by rw[hM6];rfl
 rw[<- hM6] at HC;have HM6:=Zhd hM6;have ya:=Zhd (show M6.length+Zag E<=1000000000 from by omega);clear hM6 hM6l;go_wp2_with fail;clear g2;have gf:=Zhd (show p.fl.length=E.length from HEL.out.symm);go_loopw[75] (λi wr=>∃(k:Nat) (pu:Value) (qs:List Nat) (K:Kn) (u:Value) (ps:List Nat),i=.int .i64 k/\k<=p.fl.length/\CoS 168 165 126 R H0 w wr B base cs 6 M6 E k k pu qs K u ps) (λi _=>p.fl.length - (intOf i).toNat)
 case atStart=>exact⟨0,_,_,_,_,_,rfl,Nat.zero_le _,HC.out⟩
 clear HC;obtain⟨k,pu,qs,K,u,ps,rfl,hk,hS⟩:=hrel;have HS:=Zhd hS;clear hS;by_cases Hd:k<p.fl.length
 .obtain⟨b,off,rfl,_,kR⟩:=SlV.at HPB.out.fl Hd;obtain⟨uu,c0,c1,c2,c3,c4,c5,hu⟩:=kR.cells;obtain⟨ax,cx,rfl⟩:=hu.len;have hkE:k<E.length:=by rw[HEL.out];exact Hd
  have jd:E[k]=p.fl[k].e:=by simp[HEE.out]
  generalize p.fl[k]=f0 at *;obtain⟨xn,xk,x⟩:=f0;dsimp only at *;have hx:ExV K x (.agg (Yqe x.op x.n x.s ax x.l.length cx)):=ExV.le HS.out.le ⟨_,rfl,hu⟩;have Hl:x∈p.terms:=by rw[yN.out];exact List.mem_append_left _ (List.mem_append_left _ (by rw[<- jd];exact Ymm hkE))
  have c0:=HS.out.isin.cell (HS.out.le.cell c0);have c1:=HS.out.isin.cell (HS.out.le.cell c1);have c2:=HS.out.isin.cell (HS.out.le.cell c2);have c3:=HS.out.isin.cell (HS.out.le.cell c3);have c4:=HS.out.isin.cell (HS.out.le.cell c4);have c5:=HS.out.isin.cell (HS.out.le.cell c5);simp only[Nat.add_zero] at c0;clear hu kR;have vF:(M6++Zab M6.length (E.take k)).length+memN x<=1000000000:=by
   rw[List.length_append,Zaw];have h1:=Zdy E k hkE;rw[jd] at h1;have h2:=Zck E (k+1);have h3:=ya.out;omega
  have jD:=gh.out x Hl;have Jy:=HMPT.out x Hl;obtain⟨i0,JI,Jt,J6,Ju⟩:=info_parts Tryz.infoNdP;go_wp2_with fail;have vT:=HS.out.alloc (.cells #[.string xn,.int .i64 xk,.string x.op,.int .i64 x.n,.string x.s,.slice ax x.l.length cx] 96);have zM:=heap_alloc_new wr (.cells #[.string xn,.int .i64 xk,.string x.op,.int .i64 x.n,.string x.s,.slice ax x.l.length cx] 96);generalize hXe:wr.heap.size=X at *;generalize wr.alloc (.cells #[.string xn,.int .i64 xk,.string x.op,.int .i64 x.n,.string x.s,.slice ax x.l.length cx] 96)=wA at *;have y0:wA.cell? ⟨X,0,none⟩=some (.string xn):=by simp[World.cell?,zM]
  have y1:wA.cell? ⟨X,1,none⟩=some (.int .i64 xk):=by simp[World.cell?,zM]
  have y2:wA.cell? ⟨X,2,none⟩=some (.string x.op):=by simp[World.cell?,zM]
  have y3:wA.cell? ⟨X,3,none⟩=some (.int .i64 x.n):=by simp[World.cell?,zM]
  have y4:wA.cell? ⟨X,4,none⟩=some (.string x.s):=by simp[World.cell?,zM]
  have y5:wA.cell? ⟨X,5,none⟩=some (.slice ax x.l.length cx):=by simp[World.cell?,zM]
  have J2:=vT.next (Below.refl wA.heap.size wA).drew;have ga:=vh.out;have a12:=gu.out;have xX:=gt.out;have kO:=xK.out;have hj6:6<cs.size:=by rw[kO];decide
  have q4:wA.drew.cell? ⟨B,6,none⟩=some pu:=J2.cell hj6 (by decide);have Jm:=J2.low;have CT:=Zhd (λh=>term_any R (Zah p) L HRN.out HRL.out HL.out.2 B base bn bk bl (cs.setIfInBounds 6 pu) (by simp[kO]) (by simp[ga]) (by simp[a12]) (by simp[xX]) x jD Jy K _ hx (gM.out.le HS.out.le) wA.drew u (M6++Zab M6.length (E.take k)) ps J2.isin J2.noB J2.cd J2.mem J2.noM Jm h);clear vT c0 c1 c2 c3 c4 c5 ga a12 xX kO hx;exact mCo2
 obtain rfl:k=p.fl.length:=by omega
 have hS:=HS.out;rw[gf.out] at hS;obtain⟨K7,JB,qw,gB⟩:=hS.fin (j':=7) (l':=p.as) A7.out (by decide) (by decide);have Jq:=Kn.le_trans hS.le JB;obtain⟨a6,c6,rfl,_⟩:=Zar hS.row;obtain⟨jJ,Jc⟩:∃c,c=cs.setIfInBounds 6 (.slice a6 E.length c6):=⟨_,rfl⟩;have kO:=xK.out;have B6:=Zhd (show jJ[6]?=some (.slice a6 E.length c6) from by rw[Jc];simp[kO]);have N6:=Zhd (show NdsV 168 R K7 (Za4 M6.length E) (.slice a6 E.length c6) from qw);have BSZ:=Zhd (show jJ.size=14 from by rw[Jc];simpa using kO);have B0:=Zhd (show jJ[0]?=some (.slice ai p.ins.length ci) from by rw[Jc];have:=A0.out;simpa using this);have B5:=Zhd (show jJ[5]?=some (.slice av p.fl.length cv) from by rw[Jc];have:=A5.out;simpa using this);have B7:=Zhd (show jJ[7]?=some (Ys0) from by rw[Jc];have:=A7.out;simpa using this);have B8:=Zhd (show jJ[8]?=some (Ys0) from by rw[Jc];have:=A8.out;simpa using this);have B9:=Zhd (show jJ[9]?=some (Ys0) from by rw[Jc];have:=A9.out;simpa using this);have B10:=Zhd (show jJ[10]?=some (Ys0) from by rw[Jc];have:=QH.out;simpa using this);have B11:=Zhd (show jJ[11]?=some (.map (some bn)) from by rw[Jc];have:=vh.out;simpa using this);have B12:=Zhd (show jJ[12]?=some (.map (some bk)) from by rw[Jc];have:=gu.out;simpa using this);have B13:=Zhd (show jJ[13]?=some (.map (some bl)) from by rw[Jc];have:=gt.out;simpa using this);obtain⟨M7,km⟩:∃M,M=M6++Zab M6.length E:=⟨_,rfl⟩;have xw:M7.length=M6.length+Zag E:=by rw[km,List.length_append,Zaw]
 rw[<- Jc,<- km] at gB;have HC:=Zhd gB.rebase;have HM7:=Zhd (And.intro km xw);have HPB:=Zhd (HPB.out.le Jq);have gM:=Zhd (gM.out.le Jq);have zN:=Zhd (Zco.le Jq zN.out);have Q1:=Zhd (Jq.cell Q1.out);have Q3:=Zhd (Jq.cell Q3.out);have Q4:=Zhd (Jq.cell Q4.out);have g2:wr.cell? ⟨w.heap.size,3,none⟩=some (.slice aa p.as.length ca):=gB.isin.cell Q3.out;clear HS hS JB qw gB Jq Jc km xw hk Hd ya gf kO;clear xK A0 A5 A7 A8 A9 QH vh gu gt;have A0:=B0;have A5:=B5;have A7:=B7;have A8:=B8;have A9:=B9;have QH:=B10;have vh:=B11;have gu:=B12;have gt:=B13;have A6:=B6;have xK:=BSZ;clear BSZ B0 B5 B7 B8 B9 B10 B11 B12 B13 B6;obtain⟨cs,jg⟩:∃c,c=jJ:=⟨_,rfl⟩;rw[<- jg] at A0 A5 A7 A8 A9 QH vh gu gt A6 xK HC;clear jg;have hmc:M7.length+Zag p.as<=1000000000:=by rw[HM7.out.2,HM6.out];simp;omega
 have ya:=Zhd hmc;clear hmc;go_wp2_with fail;clear g2;have gf:=Zhd (show p.as.length=p.as.length from rfl);go_loopw[96] (λi wr=>∃(k:Nat) (pu:Value) (qs:List Nat) (K:Kn) (u:Value) (ps:List Nat),i=.int .i64 k/\k<=p.as.length/\CoS 168 165 126 R K7 w wr B base cs 7 M7 p.as k k pu qs K u ps) (λi _=>p.as.length - (intOf i).toNat)
 case atStart=>exact⟨0,_,_,_,_,_,rfl,Nat.zero_le _,HC.out⟩
 clear HC;obtain⟨k,pu,qs,K,u,ps,rfl,hk,hS⟩:=hrel;have HS:=Zhd hS;clear hS;by_cases Hd:k<p.as.length
 .obtain⟨b,off,ax,cx,rfl,c0,c1,c2,c3,hx⟩:=HPB.out.asr.at Hd;have hkE:k<p.as.length:=Hd;obtain⟨x,jd⟩:∃x,p.as[k]=x:=⟨_,rfl⟩;rw[jd] at c0 c1 c2 c3 hx;have hx:=hx.le HS.out.le;have Hl:x∈p.terms:=by rw[yN.out];exact List.mem_append_left _ (List.mem_append_right _ (by rw[<- jd];exact Ymm hkE))
  have c0:=HS.out.isin.cell (HS.out.le.cell c0);have c1:=HS.out.isin.cell (HS.out.le.cell c1);have c2:=HS.out.isin.cell (HS.out.le.cell c2);have c3:=HS.out.isin.cell (HS.out.le.cell c3);have vF:(M7++Zab M7.length (p.as.take k)).length+memN x<=1000000000:=by
   rw[List.length_append,Zaw];have h1:=Zdy p.as k hkE;rw[jd] at h1;have h2:=Zck p.as (k+1);have h3:=ya.out;omega
  have jD:=gh.out x Hl;have Jy:=HMPT.out x Hl;obtain⟨i0,JI,Jt,J6,Ju⟩:=info_parts Tryz.infoNdP;go_wp2_with fail;have vT:=HS.out.alloc (.cells (Yqe x.op x.n x.s ax x.l.length cx) 93);have zM:=heap_alloc_new wr (.cells (Yqe x.op x.n x.s ax x.l.length cx) 93);generalize hXe:wr.heap.size=X at *;generalize wr.alloc (.cells (Yqe x.op x.n x.s ax x.l.length cx) 93)=wA at *;have y0:wA.cell? ⟨X,0,none⟩=some (.string x.op):=by simp[World.cell?,zM]
  have y1:wA.cell? ⟨X,1,none⟩=some (.int .i64 x.n):=by simp[World.cell?,zM]
  have y2:wA.cell? ⟨X,2,none⟩=some (.string x.s):=by simp[World.cell?,zM]
  have y3:wA.cell? ⟨X,3,none⟩=some (.slice ax x.l.length cx):=by simp[World.cell?,zM]
  have J2:=vT.next (Below.refl wA.heap.size wA).drew;have ga:=vh.out;have a12:=gu.out;have xX:=gt.out;have kO:=xK.out;have hj6:7<cs.size:=by rw[kO];decide
  have q4:wA.drew.cell? ⟨B,7,none⟩=some pu:=J2.cell hj6 (by decide);have Jm:=J2.low;have CT:=Zhd (λh=>term_any R (Zah p) L HRN.out HRL.out HL.out.2 B base bn bk bl (cs.setIfInBounds 7 pu) (by simp[kO]) (by simp[ga]) (by simp[a12]) (by simp[xX]) x jD Jy K _ hx (gM.out.le HS.out.le) wA.drew u (M7++Zab M7.length (p.as.take k)) ps J2.isin J2.noB J2.cd J2.mem J2.noM Jm h);clear vT c0 c1 c2 c3  ga a12 xX kO hx;exact mCo2
 obtain rfl:k=p.as.length:=by omega
 have hS:=HS.out;rw[gf.out] at hS;obtain⟨K8,JB,qw,gB⟩:=hS.fin (j':=8) (l':=p.cs) A8.out (by decide) (by decide);have Jq:=Kn.le_trans hS.le JB;obtain⟨a7,c7,rfl,_⟩:=Zar hS.row;obtain⟨jJ,Jc⟩:∃c,c=cs.setIfInBounds 7 (.slice a7 p.as.length c7):=⟨_,rfl⟩;have kO:=xK.out;have B7:=Zhd (show jJ[7]?=some (.slice a7 p.as.length c7) from by rw[Jc];simp[kO]);have N7:=Zhd (show NdsV 168 R K8 (Za4 M7.length p.as) (.slice a7 p.as.length c7) from qw);have BSZ:=Zhd (show jJ.size=14 from by rw[Jc];simpa using kO);have B0:=Zhd (show jJ[0]?=some (.slice ai p.ins.length ci) from by rw[Jc];have:=A0.out;simpa using this);have B5:=Zhd (show jJ[5]?=some (.slice av p.fl.length cv) from by rw[Jc];have:=A5.out;simpa using this);have B8:=Zhd (show jJ[8]?=some (Ys0) from by rw[Jc];have:=A8.out;simpa using this);have B9:=Zhd (show jJ[9]?=some (Ys0) from by rw[Jc];have:=A9.out;simpa using this);have B10:=Zhd (show jJ[10]?=some (Ys0) from by rw[Jc];have:=QH.out;simpa using this);have B11:=Zhd (show jJ[11]?=some (.map (some bn)) from by rw[Jc];have:=vh.out;simpa using this);have B12:=Zhd (show jJ[12]?=some (.map (some bk)) from by rw[Jc];have:=gu.out;simpa using this);have B13:=Zhd (show jJ[13]?=some (.map (some bl)) from by rw[Jc];have:=gt.out;simpa using this);have B6:=Zhd (show jJ[6]?=some (.slice a6 E.length c6) from by rw[Jc];have:=A6.out;simpa using this);have N6:=Zhd (N6.out.le Jq);obtain⟨M8,km⟩:∃M,M=M7++Zab M7.length p.as:=⟨_,rfl⟩;have xw:M8.length=M7.length+Zag p.as:=by rw[km,List.length_append,Zaw]
 rw[<- Jc,<- km] at gB;have HC:=Zhd gB.rebase;have HM8:=Zhd (And.intro km xw);have HPB:=Zhd (HPB.out.le Jq);have gM:=Zhd (gM.out.le Jq);have zN:=Zhd (Zco.le Jq zN.out);have Q1:=Zhd (Jq.cell Q1.out);have Q3:=Zhd (Jq.cell Q3.out);have Q4:=Zhd (Jq.cell Q4.out);have g2:wr.cell? ⟨w.heap.size,4,none⟩=some (.slice ac p.cs.length cc):=gB.isin.cell Q4.out;clear HS hS JB qw gB Jq Jc km xw hk Hd ya gf kO;clear xK A0 A5 A7 A8 A9 QH vh gu gt A6;have A0:=B0;have A5:=B5;have A7:=B7;have A8:=B8;have A9:=B9;have QH:=B10;have vh:=B11;have gu:=B12;have gt:=B13;have A6:=B6;have xK:=BSZ;clear BSZ B0 B5 B7 B8 B9 B10 B11 B12 B13 B6;obtain⟨cs,jg⟩:∃c,c=jJ:=⟨_,rfl⟩;rw[<- jg] at A0 A5 A7 A8 A9 QH vh gu gt A6 xK HC;clear jg;have hmc:M8.length+Zag p.cs<=1000000000:=by rw[HM8.out.2,HM7.out.2,HM6.out];simp;omega
 have ya:=Zhd hmc;clear hmc;go_wp2_with fail;clear g2;have gf:=Zhd (show p.cs.length=p.cs.length from rfl);go_loopw[116] (λi wr=>∃(k:Nat) (pu:Value) (qs:List Nat) (K:Kn) (u:Value) (ps:List Nat),i=.int .i64 k/\k<=p.cs.length/\CoS 168 165 126 R K8 w wr B base cs 8 M8 p.cs k k pu qs K u ps) (λi _=>p.cs.length - (intOf i).toNat)
 case atStart=>exact⟨0,_,_,_,_,_,rfl,Nat.zero_le _,HC.out⟩
 clear HC;obtain⟨k,pu,qs,K,u,ps,rfl,hk,hS⟩:=hrel;have HS:=Zhd hS;clear hS;by_cases Hd:k<p.cs.length
 .obtain⟨b,off,ax,cx,rfl,c0,c1,c2,c3,hx⟩:=HPB.out.chk.at Hd;have hkE:k<p.cs.length:=Hd;obtain⟨x,jd⟩:∃x,p.cs[k]=x:=⟨_,rfl⟩;rw[jd] at c0 c1 c2 c3 hx;have hx:=hx.le HS.out.le;have Hl:x∈p.terms:=by rw[yN.out];exact List.mem_append_right _ (by rw[<- jd];exact Ymm hkE)
  have c0:=HS.out.isin.cell (HS.out.le.cell c0);have c1:=HS.out.isin.cell (HS.out.le.cell c1);have c2:=HS.out.isin.cell (HS.out.le.cell c2);have c3:=HS.out.isin.cell (HS.out.le.cell c3);have vF:(M8++Zab M8.length (p.cs.take k)).length+memN x<=1000000000:=by
   rw[List.length_append,Zaw];have h1:=Zdy p.cs k hkE;rw[jd] at h1;have h2:=Zck p.cs (k+1);have h3:=ya.out;omega
  have jD:=gh.out x Hl;have Jy:=HMPT.out x Hl;obtain⟨i0,JI,Jt,J6,Ju⟩:=info_parts Tryz.infoNdP;go_wp2_with fail;have vT:=HS.out.alloc (.cells (Yqe x.op x.n x.s ax x.l.length cx) 93);have zM:=heap_alloc_new wr (.cells (Yqe x.op x.n x.s ax x.l.length cx) 93);generalize hXe:wr.heap.size=X at *;generalize wr.alloc (.cells (Yqe x.op x.n x.s ax x.l.length cx) 93)=wA at *;have y0:wA.cell? ⟨X,0,none⟩=some (.string x.op):=by simp[World.cell?,zM]
  have y1:wA.cell? ⟨X,1,none⟩=some (.int .i64 x.n):=by simp[World.cell?,zM]
  have y2:wA.cell? ⟨X,2,none⟩=some (.string x.s):=by simp[World.cell?,zM]
  have y3:wA.cell? ⟨X,3,none⟩=some (.slice ax x.l.length cx):=by simp[World.cell?,zM]
  have J2:=vT.next (Below.refl wA.heap.size wA).drew;have ga:=vh.out;have a12:=gu.out;have xX:=gt.out;have kO:=xK.out;have hj6:8<cs.size:=by rw[kO];decide
  have q4:wA.drew.cell? ⟨B,8,none⟩=some pu:=J2.cell hj6 (by decide);have Jm:=J2.low;have CT:=Zhd (λh=>term_any R (Zah p) L HRN.out HRL.out HL.out.2 B base bn bk bl (cs.setIfInBounds 8 pu) (by simp[kO]) (by simp[ga]) (by simp[a12]) (by simp[xX]) x jD Jy K _ hx (gM.out.le HS.out.le) wA.drew u (M8++Zab M8.length (p.cs.take k)) ps J2.isin J2.noB J2.cd J2.mem J2.noM Jm h);clear vT c0 c1 c2 c3  ga a12 xX kO hx;exact mCo2
 obtain rfl:k=p.cs.length:=by omega
 have hS:=HS.out;rw[gf.out] at hS;obtain⟨K9,JB,qw,gB⟩:=hS.fin (j':=9) (l':=[]) A9.out (by decide) (by decide);have Jq:=Kn.le_trans hS.le JB;obtain⟨a8,c8,rfl,_⟩:=Zar hS.row;obtain⟨jJ,Jc⟩:∃c,c=cs.setIfInBounds 8 (.slice a8 p.cs.length c8):=⟨_,rfl⟩;have kO:=xK.out;have B8:=Zhd (show jJ[8]?=some (.slice a8 p.cs.length c8) from by rw[Jc];simp[kO]);have N8:=Zhd (show NdsV 168 R K9 (Za4 M8.length p.cs) (.slice a8 p.cs.length c8) from qw);have BSZ:=Zhd (show jJ.size=14 from by rw[Jc];simpa using kO);have B0:=Zhd (show jJ[0]?=some (.slice ai p.ins.length ci) from by rw[Jc];have:=A0.out;simpa using this);have B5:=Zhd (show jJ[5]?=some (.slice av p.fl.length cv) from by rw[Jc];have:=A5.out;simpa using this);have B7:=Zhd (show jJ[7]?=some (.slice a7 p.as.length c7) from by rw[Jc];have:=A7.out;simpa using this);have B9:=Zhd (show jJ[9]?=some (Ys0) from by rw[Jc];have:=A9.out;simpa using this);have B10:=Zhd (show jJ[10]?=some (Ys0) from by rw[Jc];have:=QH.out;simpa using this);have B11:=Zhd (show jJ[11]?=some (.map (some bn)) from by rw[Jc];have:=vh.out;simpa using this);have B12:=Zhd (show jJ[12]?=some (.map (some bk)) from by rw[Jc];have:=gu.out;simpa using this);have B13:=Zhd (show jJ[13]?=some (.map (some bl)) from by rw[Jc];have:=gt.out;simpa using this);have B6:=Zhd (show jJ[6]?=some (.slice a6 E.length c6) from by rw[Jc];have:=A6.out;simpa using this);have N6:=Zhd (N6.out.le Jq);have N7:=Zhd (N7.out.le Jq);obtain⟨M9,km⟩:∃M,M=M8++Zab M8.length p.cs:=⟨_,rfl⟩;have xw:M9.length=M8.length+Zag p.cs:=by rw[km,List.length_append,Zaw]
 rw[<- Jc,<- km] at gB;have HC:=Zhd gB.rebase;have HM9:=Zhd (And.intro km xw);have HPB:=Zhd (HPB.out.le Jq);have gM:=Zhd (gM.out.le Jq);have zN:=Zhd (Zco.le Jq zN.out);have Q1:=Zhd (Jq.cell Q1.out);have Q3:=Zhd (Jq.cell Q3.out);have Q4:=Zhd (Jq.cell Q4.out);have g2:wr.cell? ⟨w.heap.size,1,none⟩=some (.slice ao p.outs.length co):=gB.isin.cell Q1.out;clear HS hS JB qw gB Jq Jc km xw hk Hd ya gf kO;clear xK A0 A5 A7 A8 A9 QH vh gu gt A6;have A0:=B0;have A5:=B5;have A7:=B7;have A8:=B8;have A9:=B9;have QH:=B10;have vh:=B11;have gu:=B12;have gt:=B13;have A6:=B6;have xK:=BSZ;clear BSZ B0 B5 B7 B8 B9 B10 B11 B12 B13 B6;obtain⟨cs,jg⟩:∃c,c=jJ:=⟨_,rfl⟩;rw[<- jg] at A0 A5 A7 A8 A9 QH vh gu gt A6 xK HC;clear jg;have hCl:=HC.out.low;have hCb:=HC.out.bb;have hOu:OuS 3 165 126 w wr B base (cs.setIfInBounds 10 u) (p.outs.map (getI (Zah p))) 0 (Ys0) K9 u ps:=
  ⟨HC.out.isin,HC.out.below,by
   have hb:=HC.out.cd.box;rw[set_self A9.out] at hb;rw[set_self (by simpa using A9.out)];exact hb,HC.out.cd.row,World.ownsRow_nil _ _ _ _,HC.out.noB,λg hg=>by simp[Value.ownBlock] at hg,HC.out.hB,hCb,hCl,by decide⟩
 have Hl:=HC.out.mem;simp only[List.take_nil,Zab,List.append_nil] at Hl;have HOU:=Zhd hOu;have HMEM:=Zhd Hl;have gT:(p.outs.map (getI (Zah p))).length=p.outs.length:=List.length_map _;have HOL:=Zhd gT;clear hOu Hl HC gT hCl hCb;go_wp2_with fail;clear g2;go_loopw[136] (λi wr=>∃(k:Nat) (pu:Value),i=.int .i64 k/\k<=p.outs.length/\OuS 3 165 126 w wr B base (cs.setIfInBounds 10 u) (p.outs.map (getI (Zah p))) k pu K9 u ps) (λi _=>p.outs.length - (intOf i).toNat)
 case atStart=>exact⟨0,_,rfl,Nat.zero_le _,HOU.out⟩
 clear HOU;obtain⟨k,pu,rfl,hk,hS⟩:=hrel;have HS:=Zhd hS;clear hS;by_cases Hd:k<p.outs.length
 .obtain⟨b,off,rfl,_,c0⟩:=SlV.at HPB.out.outs Hd;have c0:=HS.out.isin.cell c0;simp only[Nat.mul_one,Nat.add_zero] at c0;have hko:k<(p.outs.map (getI (Zah p))).length:=by rw[HOL.out];exact Hd
  obtain⟨s0,jN⟩:∃s0,p.outs[k]=s0:=⟨_,rfl⟩;rw[jN] at c0;have hx:(p.outs.map (getI (Zah p)))[k]=((Zah p) s0).getD 0:=by simp[jN,getI]
  obtain⟨y,hy⟩:∃y,y=((Zah p) s0).getD 0:=⟨_,rfl⟩;rw[<- hy] at hx;have gc:=Zhd (HS.out.next (Below.refl wr.heap.size wr).drew);have hj9:9<(cs.setIfInBounds 10 u).size:=by rw[Array.size_setIfInBounds,xK.out];decide
  have q9:wr.drew.cell? ⟨B,9,none⟩=some pu:=gc.out.cell hj9;have q9b:∀o,(wr.alloc o).drew.cell? ⟨B,9,none⟩=some pu:=λo=>((HS.out.alloc o).next (Below.refl _ _).drew).cell hj9;have q11:wr.drew.cell? ⟨B,11,none⟩=some (.map (some bn)):=by rw[gc.out.other (by decide)];simpa using vh.out
  have Ht:=(gM.out.1 wr.drew gc.out.isin).run (P:=Tryz.prog) Tryz.underlying124 Tryz.underlying9 (d:=0) (by kernel_rfl) s0 false;simp only[Bool.false_eq_true,if_false,<- hy] at Ht;have HKX:=Zhd hx;obtain⟨i0,JI,Jt,J6,Ju⟩:=info_parts Tryz.infoInt;clear jN hy hx;go_wp2_with fail;go_region_law (first|(refine step_append_lies _ (by rfl) _ _ _ (by rfl) base 3 i0 _ 1 8 Tryz.underlying122 JI Jt J6 Ju rfl (by omega) pu k (((p.outs.map (getI (Zah p))).take k).map λx => .int .i64 x) (by rfl) (OuS.row (OuS.alloc gc.out _)) ⟨_,0,none⟩ 1 1 [.int .i64 y] (by rfl) (by rfl) (by exact World.news_of_block (heap_alloc_new _ _)) (by simp[Value.oneCell']) (by omega) (by unfold maxLen;omega) (by omega) (OuS.low' (OuS.alloc gc.out _)) _ rfl ?_;intro gg Hh w3 Hb Hj hJ jT;obtain⟨Q0,zd,jZ⟩:=OuS.app (OuS.alloc gc.out _) hj9 hko HKX.out Hb Hj hJ))
  all_goals generalize World.setCell _ _ _=W at jZ ⊢
  all_goals go_wp2_with fail
  all_goals go_roundw
  all_goals first|(simp[intOf];omega;done)|exact⟨k+1,_,by go_num,by omega,jZ⟩|((repeat apply Exists.intro);refine⟨?_,rfl⟩;exact⟨k+1,_,by go_num,by omega,jZ⟩)
 obtain rfl:k=p.outs.length:=by omega
 have hS:=HS.out;obtain⟨a9,c9,rfl,_⟩:=Zar hS.row;have HS:=Zhd hS;clear hS;go_wp2_with fail;go_ret2
 have hS:=HS.out;have kO:=xK.out;have He:K9.le (Zan wr):=all_of hS.isin;unfold CmpPost;rw[if_pos HC0.out];refine⟨hS.below,B,ks,l,gP.out,HHO.out,rfl,⟨(cs.setIfInBounds 10 u).setIfInBounds 9 (.slice a9 p.outs.length c9),_,_,_,_,_,.slice a9 p.outs.length c9,u,hS.box,⟨by simpa using A0.out,HPB.out.ins.le He VrC.mono⟩,⟨by simpa using A5.out,?_⟩,⟨by simpa using A6.out,?_⟩,⟨by simpa using A7.out,?_⟩,⟨by simpa using A8.out,?_⟩,⟨by simp[kO],?_⟩,⟨by simp[kO],?_⟩⟩,hS.hB,⟨(cs.setIfInBounds 10 u).setIfInBounds 9 (.slice a9 p.outs.length c9),_,.slice a9 p.outs.length c9,hS.box,by simpa using A5.out,?_,by simp[kO],?_⟩⟩
 .have vq:=zN.out;rw[holen] at vq;exact Zco.le He vq
 all_goals try rw[<- HRE.out]
 .have h:=N6.out.le He;rw[HM6.out] at h;have e:(cdOf p l).fs=Za4 ([]:List (Ex×Nat)).length E:=by rw[HEE.out];rfl
  rw[e];exact h
 .have h:=N7.out.le He;rw[HM7.out.2,HM6.out] at h;have e:(cdOf p l).av=Za4 (([]:List (Ex×Nat)).length+Zag E) p.as:=by rw[HEE.out];simp[cdOf]
  rw[e];exact h
 .have h:=N8.out.le He;rw[HM8.out.2,HM7.out.2,HM6.out] at h;have e:(cdOf p l).cv=Za4 (([]:List (Ex×Nat)).length+Zag E+Zag p.as) p.cs:=by rw[HEE.out];simp[cdOf]
  rw[e];exact h
 .have h:wr.ownsRow base 3 1 (.slice a9 p.outs.length c9) (p.outs.map (getI (Zah p))).length ((p.outs.map (getI (Zah p))).map λx => .int .i64 x):=by
   have h:=hS.row;rw[<- HOL.out,List.take_length,HOL.out] at h;rw[HOL.out];exact h
  refine Zgz (l:=p.outs.map (getI (Zah p))) h λi hi f hf=>?_;refine hf 0 (.int .i64 (p.outs.map (getI (Zah p)))[i]) ?_;rw[Nat.mul_one,Nat.add_zero,List.getElem?_map,List.getElem?_eq_getElem hi];rfl
 .have h:=hS.ms;have hm:=HMEM.out;have e:Zab 0 p.terms=M9:=by
   rw[HM9.out.1,HM8.out.2,HM8.out.1,HM7.out.2,HM7.out.1,HM6.out,yN.out,Zd3,Zd3,Zcl];simp
  rw[e];rw[hm.len] at h;refine Zgz (l:=M9) h λi hi f hf=>?_;have za:i<ps.length:=by rw[hm.len];exact hi
  exact⟨ps[i],hf 0 _ (by simp[za]),NdAt.le He _ _ _ (hm.nd i hi za)⟩
 .have vq:=Zco.le He zN.out;rw[holen] at vq;have qY:=gf.out;exact ints_new vq qY
 have h:wr.ownsRow base 3 1 (.slice a9 p.outs.length c9) (p.outs.map (getI (Zah p))).length ((p.outs.map (getI (Zah p))).map λx => .int .i64 x):=by
  have h:=hS.row;rw[<- HOL.out,List.take_length,HOL.out] at h;rw[HOL.out];exact h
 refine slv_new (n:=w.heap.size) (l:=p.outs.map (getI (Zah p))) h (by have:=hS.hB;have:=hS.bb;omega) λi hi f hf=>?_;refine hf 0 (.int .i64 (p.outs.map (getI (Zah p)))[i]) ?_;rw[Nat.mul_one,Nat.add_zero,List.getElem?_map,List.getElem?_eq_getElem hi];rfl
end Go.Proofs.YtafapnolamcdmaaGreatDoor
