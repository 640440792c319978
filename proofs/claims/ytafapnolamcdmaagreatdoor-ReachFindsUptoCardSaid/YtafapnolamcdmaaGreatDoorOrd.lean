/- Walks: order.Order. -/
import Derived.Test.YtafapnolamcdmaaGreatDoorGraph
import Derived.Test.YtafapnolamcdmaaGreatDoorRh
import Derived.Test.YtafapnolamcdmaaGreatDoorLateA
set_option linter.all false
namespace Go.Proofs.YtafapnolamcdmaaGreatDoor
set_option maxRecDepth 100000
set_option maxHeartbeats 16000000
open Go.RowKit Mx
def ErrW(sp:Nat->Addr)(w:World)(c:Nat)(a:Int)(v:Value):Prop:=
 (a = -1/\v=errV sp c)\/(a ≠ -1/\∃N,v=.iface 71 (.pointer (some ⟨N,0,none⟩))/\w.heap[N]?=some (.cells #[.int .i64 a,esv (sp (c - 1))] 73 (0,0)))
theorem ErrW.below{sp:Nat->Addr}{w w':World}{c:Nat}{a:Int}{v:Value}(h:ErrW sp w c a v)(hb:Ybw w w'):ErrW sp w' c a v:=
 h.imp id λ⟨h1,N,h2,h3⟩=>⟨h1,N,h2,by rw[hb.block N (Zlt h3)];exact h3⟩
def Zhm(sp:Nat->Addr)(p:Pr)(w:World)(r:Ending)(w':World):Prop:=
 Ybw w w'/\match Za5 p with
  | .error x=>∃v,r=.returned (.tuple #[Ys0,v])/\ErrW sp w' x.1 x.2 v
  | .ok l=>∃v,r=.returned (.tuple #[v,.nilIface])/\Zco (Zb3 w.heap.size w') l v
def OrdPost(sp:Nat->Addr)(p:Pr)(w:World)(r:Ending)(w':World):Prop:=
 Ybw w w'/\match Za5 p with
  | .error x=>∃v,r=.returned (.tuple #[Ys0,v])/\ErrW sp w' x.1 x.2 v
  | .ok l=>∃v,r=.returned (.tuple #[v,.nilIface])/\Zco (Zan w') l v
theorem Zhm.old{sp:Nat->Addr}{p:Pr}{w:World}{r:Ending}{w':World}(h:Zhm sp p w r w'):OrdPost sp p w r w':=by
 obtain⟨h1,h2⟩:=h;unfold OrdPost;cases e:Za5 p with
 |error x=>rw[e] at h2;exact⟨h1,h2⟩
 |ok l=>rw[e] at h2;obtain⟨v,h3,h4⟩:=h2;exact⟨h1,v,h3,Zco.le (newKn_le _ _) h4⟩
structure SortS(w wx:World)(g:List (List Nat))(D f j:Nat)(u:Value)(out:List Nat)(dn:Array Value):Prop where
 below:Ybw w wx
 size:D+2<=wx.heap.size
 left:j+f=g.length
 len:out.length=j
 row:wx.ownsRow (D+2) 3 1 u j (out.map natV)
 blk:wx.heap[D]?=some (.cells dn 4 (0,0))
 dsz:dn.size=g.length
 val:∀x,x<g.length->dn[x]?=some (.bool (out.contains x))
 cell:wx.cell? ⟨D+1,0,none⟩=some (.slice (some ⟨D,0,none⟩) g.length g.length)
theorem sums_le(at_:Env Nat):∀l:List Fl,((l.map λf=>needs at_ f.e).map λx=>x.length+1).sum<=Ex.partsL (l.map (·.e))+l.length
 | []=>by simp
 |f :: l=>by
  have h1:=needs_len at_ f.e;have h2:=sums_le at_ l;simp only[List.map_cons,List.sum_cons,Ex.partsL,List.length_cons] at h2 ⊢;omega
theorem fuel_le{p:Pr}(h:Ex.partsL p.terms<=4000)(h2:p.fl.length<=400):Zer p.graph<=10000:=by
 have h1:=sums_le p.atOf p.fl;have h3:Ex.partsL (p.fl.map (·.e))<=4000:=by
  unfold Pr.terms at h;rw[List.append_assoc,Zej] at h;omega
 unfold Zer Pr.graph;omega
theorem order_new(H:Kn)(T:Zbv H)(sp:Nat->Addr)(p:Pr)(vi vo vl va vc:Value)(hp:PrP H p vi vo vl va vc)(w:World)(hH:H.In w)(S:Sen5 w sp)
  (J5:p.ins.length<=1000000/\p.fl.length<=1000000/\p.outs.length<=100000000000/\p.as.length<=1000000/\p.cs.length<=1000000) (kZ:Ex.partsL p.terms<=1000000000)
  (hpick:Zak p=0->(∀j,j<p.graph.length->cyc p.graph j=false)->∀j,j<p.graph.length->pick p.graph (Zc7 p.graph j [])<p.graph.length):
  Calls Tryz.prog 70 #[.agg #[vi,vo,vl,va,vc]] w (Zhm sp p w):=by
 have HP:=Zhd hp;obtain⟨h1,h2,h3,h4,h5⟩:=hp;obtain⟨ai,ci,ao,co,al,cl,aa,ca,ac,cc,rfl,rfl,rfl,rfl,rfl⟩:=Ypo h1.len h2.len h3.len h4.len h5.len;clear h1 h2 h3 h4 h5;have yC:=Zhd hpick;clear hpick;go_enter Tryz.func70,Tryz.ntmps70;go_wp2_with fail;have Hg:Ybw w (w.alloc (.cells (Yq5 p ai ao al aa ac ci co cl ca cc) 42)):=Yba;refine(check_any H T sp p _ _ _ _ _ HP.out _ (hH.below Hg) (S.below Hg) J5 kZ).mono ?_;rintro r w1 ⟨rfl,Hv⟩;have Jn:=Zhd (Hg.trans (Hv.mono (by simp)));have hq:∀i,w1.cell? ⟨w.heap.size,i,none⟩=((Yq5 p ai ao al aa ac ci co cl ca cc):Array Value)[i]?:=λi=>by rw[Hv.cell (p:=⟨w.heap.size,i,none⟩) (by simp),World.cell?_alloc_new]
 have q0:=hq 0;have q1:=hq 1;have q2:=hq 2;have q3:=hq 3;have q4:=hq 4;simp at q0 q1 q2 q3 q4;have J6:w.heap.size<w1.heap.size:=by have:=Hv.size;simp at this;omega
 clear hq Hg Hv;cases J0:Zak p with
 |succ c=>
  have HX:=Zhd (show Za5 p=.error (c+1, -1) from by unfold Za5;rw[J0];rfl);rw[Zfk];clear J0;go_wp2_with fail;go_ret2
  unfold Zhm;rw[HX.out];exact⟨Jn.out,_,rfl,.inl ⟨rfl,rfl⟩⟩
 |zero=>
  obtain⟨ks,_,_,ji,jY,qH,_,_⟩:=Zb9 J0;have HPK2:=Zhd (yC.out J0);have HOM:=Zhd (show Za5 p=(match (List.range p.graph.length).find? (cyc p.graph) with|some i => .error (6,(i:Int))|.none => .ok (Zc7 p.graph p.graph.length [])) from by unfold Za5;rw[J0];rfl);have zm:=Zhd (show ∀f∈p.fl,Zad ks f.e=true/\f.e.parts<=100000 from λf hf=>by
   obtain⟨i,hi,he⟩:=List.mem_iff_getElem.1 (Zeh p hf);exact⟨by rw[<- he];exact(Zbe ks _).1 ji i hi,by have:=Zgd (Zeh p hf);omega⟩)
  have HFU:=Zhd (fuel_le qH jY);have Qt:=Zfg p;have HLOW:=Zhd (Zgo p);rw[errV_zero];clear J0 yC ji;go_wp2_with fail;refine(graph_any H p _ _ _ _ _ HP.out ks zm.out (by omega) w1 (hH.below Jn.out)).mono ?_;rintro r w2 ⟨v,rfl,hg,Hm⟩;have Jh:=Zhd (Jn.out.trans (Hm.mono (by omega)));obtain⟨ag,cg,rfl⟩:=hg.len;have HG:=Zhd hg;have hn:p.graph.length<=400:=by omega
  clear hg Hm q0 q1 q2 q3 q4 Qt;generalize p.graph=g at *;go_wp2_with fail;go_loopw[19] (λi wr=>∃k:Nat,i=.int .i64 k/\k<=g.length/\Ybw w2 wr/\(∀j,j<k->cyc g j=false)) (λi _=>g.length - (intOf i).toNat)
  case atStart=>exact⟨0,rfl,Nat.zero_le _,Below.refl _ _,λj h=>by omega⟩
  obtain⟨k,rfl,hk,hb,Jo⟩:=hrel;have HB:=Zhd hb;have JR:=Zhd Jo;have kL:=Zhd (Jh.out.trans (hb.mono Jh.out.size));clear hb Jo;by_cases Hd:k<g.length
  .go_wp2_with fail;refine(cyc_any (Zan w2) g _ HG.out k Hd HLOW.out (by omega) (by have:=HFU.out;omega) wr (Zca HB.out)).mono ?_;rintro r w3 ⟨rfl,Jg⟩;have Js:=Zhd (HB.out.trans (Jg.mono HB.out.size));have HW3:=Zhd (kL.out.trans (Jg.mono kL.out.size));have c5:=(S.below HW3.out).c5;clear Jg;cases hcy:cyc g k
   .have HX:=Zhd (show ∀j,j<k+1->cyc g j=false from λj hj=>by
     by_cases h:j<k
     .exact JR.out j h
     obtain rfl:j=k:=by omega
     exact hcy)
    clear hcy;go_wp2_with fail;go_roundw
    case rel=>exact⟨k+1,by go_num,by omega,Js.out,HX.out⟩
    simp[intOf];omega
   have HX:=Zhd (show Za5 p=.error (6,(k:Int)) from by
    rw[HOM.out];have:(List.range g.length).find? (cyc g)=some k:=by
     rw[List.find?_range_eq_some];exact⟨hcy,List.mem_range.2 Hd,λj hj=>by simp[JR.out j hj]⟩
    rw[this])
   clear hcy;go_wp2_with fail;go_region
   all_goals go_wp2_with fail
   all_goals go_ret2
   all_goals unfold Zhm
   all_goals rw[HX.out]
   all_goals exact⟨by first|exact(HW3.out.alloc HW3.out.size _).drew|exact(HW3.out.drew).alloc HW3.out.size _|exact((HW3.out.drew).alloc HW3.out.size _).drew|exact HW3.out.alloc HW3.out.size _,_,rfl,.inr ⟨by omega,w3.heap.size,rfl,heap_alloc_new _ _⟩⟩
  obtain rfl:k=g.length:=by omega
  have zt:=run_make_row' (P:=Tryz.prog) 81 4 (.bool false) 1 Tryz.underlying81 Tryz.infoBool rfl .i64 .i64 g.length (by omega) (by omega);have HPICK:=Zhd (HPK2.out JR.out);have jP:=Zhd (show Za5 p=.ok (Zc7 g g.length []) from by
   rw[HOM.out];have:(List.range g.length).find? (cyc g)=none:=by
    rw[List.find?_eq_none];intro x hx;simp[JR.out x (List.mem_range.1 hx)]
   rw[this])
  go_wp2_with fail;have JY:SortS w2 ((wr.alloc (.cells (madeCells #[.bool false] g.length) 4)).alloc (.cells #[.slice (some ⟨wr.heap.size,0,none⟩) g.length g.length] 81)) g wr.heap.size g.length 0 (Ys0) [] (madeCells #[.bool false] g.length):=by
   refine⟨(HB.out.alloc HB.out.size _).alloc (by have:=HB.out.size;simp;omega) _,by simp,by omega,rfl,World.ownsRow_nil _ _ _ _,?_,Zjk _,λx hx=>by rw[Zgk _ x hx];simp,by simp⟩;rw[Below.heap_alloc _ _ _ (by simp)];exact heap_alloc_new _ _
  have hDge:=HB.out.size;generalize (wr.alloc (.cells (madeCells #[.bool false] g.length) 4)).alloc (.cells #[.slice (some ⟨wr.heap.size,0,none⟩) g.length g.length] 81)=W1 at *;generalize wr.heap.size=D at *;have jF:=Zhd JY;clear JY zt JR HPK2 HOM HB kL;go_loopg[8,9] (g.length) (λf u8 u9 wx=>∃j dn,SortS w2 wx g D f j u8 (Zc7 g j []) dn)
  case atStart=>exact⟨0,_,jF.out⟩
  obtain⟨j,dn,hS⟩:=hrel;have HS:=Zhd hS;have hleft:=hS.left;obtain⟨ra,rc,rfl,hrc,hjc⟩:=Zar hS.row;have qT:=hS.size;clear hS;by_cases hjn:j<g.length
  .have hpk:=HPICK.out j hjn;have HSUC:=Zhd (Zgc g j []);generalize Hn:Zc7 g j []=out at *;have HFREE:=Zhd (pick_free hpk);have HFST:=Zhd (λk (h:k<pick g out)=>pick_first h (show k<g.length by omega));have hgp:1<=gk:=by omega
   have JG:=Zhd Hn;clear Hn;generalize qH:pick g out=pk at *;have HPP:=Zhd qH;clear qH;go_wp2_with fail;go_loop[9] (λi=>∃k:Nat,i=.int .i64 k/\k<=pk) (λi=>pk - (intOf i).toNat)
   case atStart=>exact⟨0,rfl,Nat.zero_le _⟩
   obtain⟨k,rfl,hkp⟩:=hrel;have jA:k<g.length:=by omega
   have vG:(k:Int)<g.length:=by omega
   have hD:=HS.out.blk;have hdv:=HS.out.val k jA;have hdc:wr.cell? ⟨D,k,none⟩=some (.bool (out.contains k)):=by simp[World.cell?,hD,hdv]
   have hfd:wr.frozen? ⟨D,k,none⟩=false:=by simp[World.frozen?,hD]
   have hDc:=HS.out.cell;obtain⟨bg,og,rfl,_,ug,e0,hug⟩:=SlV.at HG.out jA;have e0:(Zan w2).cell bg (og+k * 1+0)=some ug:=e0;simp only[Nat.mul_one,Nat.add_zero] at e0;have e0:=(Zca HS.out.below).cell e0;obtain⟨ugA,ugC,rfl⟩:=hug.len;have hgk:g.getD k []=g[k]:=by simp[Ygg,jA]
   have hlowk:=HLOW.out g[k] (Ymm jA);have HPRED:=Zhd (order1_pred (D+1) D g.length out g[k] dn wr hDc hD HS.out.val hlowk (by omega));have HUG:=Zhd hug;have xd:Zh8 g out k=(!out.contains k && !(g[k].any λx => !out.contains x)):=by
    unfold Zh8;rw[hgk]
    congr 1
    rw[List.all_eq_not_any_not]
   have HFRK:=Zhd xd;have xI:=Zhd hD;clear hug hgk hlowk xd hdv hD;have zf:∃q,(g[k].any λx => !out.contains x)=q:=⟨_,rfl⟩;obtain⟨q,hq⟩:=zf;rw[hq] at HFRK;have HQ:=Zhd hq;clear hq;obtain⟨dk,hdk⟩:∃d,out.contains k=d:=⟨_,rfl⟩;rw[hdk] at HFRK hdc;have HDK:=Zhd hdk;clear hdk;generalize g[k]=gk' at *;by_cases hkk:k=pk
   .have h1:=HFREE.out;rw[<- hkk,HFRK.out] at h1;obtain⟨rfl,rfl⟩:dk=false/\q=false:=by cases dk<;>cases q<;>simp at h1 ⊢
    have qV:=Zbj HS.out.row (b:=D) (by omega);have jc:=Zhd (Zaa wr D k (.bool true) dn _ _ xI.out);have HO2:=Zhd (Zam HS.out.row (a:=⟨D,k,none⟩) qV (.bool true));have Ju:(wr.setCell ⟨D,k,none⟩ (.bool true)).heap.size=wr.heap.size:=by simp[World.setCell]
    have JD:=Zhd (HS.out.below.setCell (p:=⟨D,k,none⟩) hDge (.bool true));have HKK:=Zhd hkk;clear h1 hkk;have zR:=Zhd (show ∀v' w3,w3.ownsRow (D+2) 3 1 v' (j+1) (out.map natV++[.int .i64 k])->((wr.setCell ⟨D,k,none⟩ (.bool true)).alloc (.cells #[.int .i64 k] 3)).grownBy w3 (Value.slice ra j rc).ownBlock->SortS w2 w3 g D (gk - 1) (j+1) v' (Zc7 g (j+1) []) (dn.setIfInBounds k (.bool true)) from λv' w3 ho JP=>by
     have hs3:=JP.size;simp only[World.size_alloc,Ju] at hs3;have hnD:some D≠(Value.slice ra j rc).ownBlock:=Ne.symm qV;have hnC:some (D+1)≠(Value.slice ra j rc).ownBlock:=Ne.symm (Zbj HS.out.row (by omega));rw[HSUC.out];refine⟨(JD.out.alloc (by rw[Ju];omega) _).grown JP (by simp;omega) (λq hq=>by have:=(HS.out.row.lt q hq).1;omega),by omega,by omega,by rw[List.length_append,HS.out.len];rfl,?_,?_,by simp[HS.out.dsz],λx hx=>?_,?_⟩
     .rw [List.map_append,<- HKK.out];exact ho
     .rw [JP.block D (by simp;omega) hnD,Below.heap_alloc _ _ _ (by rw[Ju];omega)];exact jc.out
     .rw [sc_set HS.out.val HS.out.dsz jA x hx,<- HKK.out];simp[Bool.or_comm]
     rw[JP.cell_far ⟨D+1,0,none⟩ (by simp;omega) hnC,World.cell?_alloc_past _ _ _ (by rw[Ju];omega),World.cell?_setCell_far _ _ _ _ (by simp)];exact HS.out.cell)
    go_wp2_with fail;refine(Zi3 _ _ (Zan w2) _ gk' _ wr HPRED.out HUG.out (Zca HS.out.below)).mono ?_;rw[HQ.out];rintro r wz ⟨rfl,rfl⟩;go_wp2_with(at_builtin;refine app1 122 3 1 8 _ Tryz.underlying122 Tryz.infoInt rfl (by decide) _ _ rfl rfl (D+2) _ _ _ rfl (HO2.out.alloc _) ⟨wr.heap.size,0,none⟩ 1 [.int .i64 k] rfl rfl ?c1 ?c2 ?c3 ?c4 ?c5 ?_)
    case c1=>rw[<- Ju];exact Zf5 _ _ _
    case c2=>simp[Value.oneCell']
    case c3=>omega
    case c4=>omega
    case c5=>simp;omega
    intro v' w3 ho JP;have Jw:=zR.out v' w3 ho JP;go_wp2_with fail;go_roundg (gk - 1)
    case rel=>exact⟨_,_,Jw⟩
    omega
   have h1:=HFST.out k (by omega);rw[HFRK.out] at h1;rcases(show dk=true\/dk=false/\q=true from by cases dk<;>cases q<;>simp at h1 ⊢) with rfl|⟨rfl,rfl⟩
   .clear h1;go_wp2_with fail;go_round
    case rel=>exact⟨k+1,by go_num,by omega⟩
    simp[intOf];omega
   clear h1;go_wp2_with fail;refine(Zi3 _ _ (Zan w2) _ gk' _ wr HPRED.out HUG.out (Zca HS.out.below)).mono ?_;rw[HQ.out];rintro r wz ⟨rfl,rfl⟩;go_wp2_with fail;go_round
   case rel=>exact⟨k+1,by go_num,by omega⟩
   simp[intOf];omega
  obtain rfl:j=g.length:=by omega
  have HV:=Zhd (show Zco (Zb3 w.heap.size wr) (Zc7 g g.length []) _ from slv_new (n:=w.heap.size) (l:=Zc7 g g.length []) (R:=IntC) (by rw[HS.out.len];exact HS.out.row) (by have:=Jh.out.size;omega) λi hi f hf=>hf 0 _ (by rw[Nat.mul_one,Nat.add_zero,List.getElem?_map,List.getElem?_eq_getElem hi];rfl));go_wp2_with fail;go_ret2
  unfold Zhm;rw[jP.out];exact⟨Jh.out.trans (HS.out.below.mono Jh.out.size),_,rfl,HV.out⟩
theorem order_any(H:Kn)(T:Zbv H)(sp:Nat->Addr)(p:Pr)(vi vo vl va vc:Value)(hp:PrP H p vi vo vl va vc)(w:World)(hH:H.In w)(S:Sen5 w sp)
  (J5:p.ins.length<=1000000/\p.fl.length<=1000000/\p.outs.length<=100000000000/\p.as.length<=1000000/\p.cs.length<=1000000) (kZ:Ex.partsL p.terms<=1000000000)
  (hpick:Zak p=0->(∀j,j<p.graph.length->cyc p.graph j=false)->∀j,j<p.graph.length->pick p.graph (Zc7 p.graph j [])<p.graph.length):
  Calls Tryz.prog 70 #[.agg #[vi,vo,vl,va,vc]] w (OrdPost sp p w):=
 (order_new H T sp p vi vo vl va vc hp w hH S J5 kZ hpick).mono λ_ _ h=>h.old
abbrev Ze1(H:Kn):List Int->Value->Prop:=SlV H 1 λx f=>f 0=some (.int .i64 x)
theorem sints_of_row{w:World}{base:Nat}{t:TypeId}{v:Value}{l:List Int}(h:w.ownsRow base t 1 v l.length (l.map (Value.int .i64))):Ze1 (Zan w) l v:=by
 by_cases h0:l=[]
 .obtain⟨a,c,h1,_⟩:=Zar h;exact .inl ⟨h0,a,c,by rw[h1,h0];rfl⟩
 obtain⟨g,Ha,rfl,h2,h3,_,_,h4⟩:=Zbr h (List.length_pos_iff.2 h0);refine .inr ⟨g,0,Ha,rfl,h2,h3,λi hi=>?_⟩;show(Zan w).cell g (0+i * 1+0)=some (Value.int .i64 l[i]);rw[Zaj];simp only[Nat.zero_add,Nat.mul_one,Nat.add_zero];exact h4 i _ (by simp[hi])
def LatePost(sp:Nat->Addr)(p:Pr)(w:World)(r:Ending)(w':World):Prop:=
 Ybw w w'/\match Ze4 p with
  | .error x=>∃v,r=.returned (.tuple #[Ys0,v])/\ErrW sp w' x.1 x.2 v
  | .ok l=>∃v,r=.returned (.tuple #[v,.nilIface])/\Ze1 (Zan w') l v
theorem lates_any(H:Kn)(T:Zbv H)(sp:Nat->Addr)(p:Pr)(vi vo vl va vc:Value)(hp:PrP H p vi vo vl va vc)(w:World)(hH:H.In w)(S:Sen5 w sp)
  (J5:p.ins.length<=1000000/\p.fl.length<=1000000/\p.outs.length<=100000000000/\p.as.length<=1000000/\p.cs.length<=1000000) (kZ:Ex.partsL p.terms<=1000000000)
  (hpick:Zak p=0->(∀j,j<p.graph.length->cyc p.graph j=false)->∀j,j<p.graph.length->pick p.graph (Zc7 p.graph j [])<p.graph.length):
  Calls Tryz.prog 88 #[.agg #[vi,vo,vl,va,vc]] w (LatePost sp p w):=by
 have HP:=Zhd hp;obtain⟨h1,h2,h3,h4,h5⟩:=hp;obtain⟨ai,ci,ao,co,al,cl,aa,ca,ac,cc,rfl,rfl,rfl,rfl,rfl⟩:=Ypo h1.len h2.len h3.len h4.len h5.len;have H3:=Zhd h3;clear h1 h2 h3 h4 h5;go_enter Tryz.func88,Tryz.ntmps88;go_wp2_with fail;have Hg:Ybw w (w.alloc (.cells (Yq5 p ai ao al aa ac ci co cl ca cc) 42)):=Yba;refine(order_any H T sp p _ _ _ _ _ HP.out _ (hH.below Hg) (S.below Hg) J5 kZ hpick).mono ?_;rintro r w1 ⟨Hv,Hx⟩;have Jn:=Zhd (Hg.trans (Hv.mono (by simp)));have hq:∀i,w1.cell? ⟨w.heap.size,i,none⟩=((Yq5 p ai ao al aa ac ci co cl ca cc):Array Value)[i]?:=λi=>by rw[Hv.cell (p:=⟨w.heap.size,i,none⟩) (by simp),World.cell?_alloc_new]
 have q0:=hq 0;have q1:=hq 1;have q2:=hq 2;have q3:=hq 3;have q4:=hq 4;simp at q0 q1 q2 q3 q4;have J6:w.heap.size<w1.heap.size:=by have:=Hv.size;simp at this;omega
 clear hq Hg Hv;cases hom:Za5 p with
 |error x=>
  rw[hom] at Hx;obtain⟨v,rfl,hv⟩:=Hx;have HX:=Zhd (show Ze4 p=.error x from by unfold Ze4;rw[hom]);have HV:=Zhd hv;have jh:x.1≠0:=by
   unfold Za5 at hom
   split at hom
   .rename_i h;cases hom;exact h
   split at hom
   .cases hom;simp
   cases hom
  obtain⟨tv,pv,rfl⟩:∃tv pv,v=.iface tv pv:=by
   rcases hv with ⟨_,h⟩|⟨_,N,h,_⟩
   .obtain⟨c,hc⟩:∃c,x.1=c+1:=⟨x.1 - 1,by omega⟩;rw[hc,Zfk] at h;exact⟨_,_,h⟩
   exact⟨_,_,h⟩
  clear hom hv;go_wp2_with fail;go_ret2
  unfold LatePost;rw[HX.out];exact⟨Jn.out,_,rfl,HV.out⟩
 |ok l=>
  rw[hom] at Hx;obtain⟨v,rfl,hv⟩:=Hx;have HX:=Zhd (show Ze4 p=.ok (p.fl.map λf=>Zac p f.name) from by unfold Ze4;rw[hom]);obtain⟨av,cv,rfl⟩:=hv.len;have J0:Zak p=0:=by
   unfold Za5 at hom
   split at hom
   .cases hom
   rename_i h;simpa using h
  obtain⟨ks,_,_,ji,jY,qH,_,_⟩:=Zb9 J0;have zm:=Zhd (show ∀f∈p.fl,Zad ks f.e=true from λf hf=>by
   obtain⟨i,hi,he⟩:=List.mem_iff_getElem.1 (Zeh p hf);rw[<- he];exact(Zbe ks _).1 ji i hi)
  clear J0 ji qH hom hv;go_wp2_with fail;refine(names_any H p _ _ _ _ _ HP.out ks zm.out (by omega) w1 (hH.below Jn.out)).mono ?_;rintro r w2 ⟨bm,m,rfl,hM,jy,ka,Hm⟩;have HM:=Zhd hM;have Jh:=Zhd (Jn.out.trans (Hm.mono (by omega)));have kY:w2.cell? ⟨w.heap.size,2,none⟩=some (.slice al p.fl.length cl):=by
   rw[Hm.cell (p:=⟨w.heap.size,2,none⟩) (by simpa using J6)];exact q2
  have HQ2:=Zhd kY;have yO:=Zhd jy;have xP:bm<w2.heap.size:=by obtain⟨es,ck,h,_⟩:=hM;exact(Zlt h)
  have Ju:w.heap.size<w2.heap.size:=by have:=Hm.size;omega
  clear hM Hm ka jy q0 q1 q2 q3 q4;go_wp2_with fail;go_loopw[7,23] (λu7 i wr=>∃k:Nat,i=.int .i64 k/\k<=p.fl.length/\Ybw w2 wr/\wr.ownsRow w2.heap.size 3 1 u7 k ((p.fl.map λf=>Value.int .i64 (getI m f.name)).take k)) (λ_ i _=>p.fl.length - (intOf i).toNat)
  case atStart=>exact⟨0,rfl,Nat.zero_le _,Below.refl _ _,World.ownsRow_nil _ _ _ _⟩
  obtain⟨k,rfl,hk,hb,Hb⟩:=hrel;have HB:=Zhd hb;have HO:=Zhd Hb;obtain⟨ua,uc,rfl,huc,_⟩:=Zar Hb;clear hb Hb;by_cases Hd:k<p.fl.length
  .obtain⟨b1,off,rfl,_,kR⟩:=SlV.at H3.out Hd;obtain⟨u,c0,c1,c2,c3,c4,c5,hu⟩:=kR.cells;obtain⟨ax,cx,rfl⟩:=hu.len;have Hw:=hH.below (Jh.out.trans (HB.out.mono (by omega)));have c0:=Hw.cell c0;have c1:=Hw.cell c1;have c2:=Hw.cell c2;have c3:=Hw.cell c3;have c4:=Hw.cell c4;have c5:=Hw.cell c5;simp only[Nat.add_zero] at c0;have TK:=Zhd (show(p.fl.map λf=>Value.int .i64 (getI m f.name)).take (k+1)=(p.fl.map λf=>Value.int .i64 (getI m f.name)).take k++[.int .i64 (getI m p.fl[k].name)] from by
    rw[List.take_succ_eq_append_getElem (by simpa using Hd)];simp)
   clear Hw hu kR;generalize p.fl[k]=x at *;obtain⟨xn,xk,xe⟩:=x;dsimp only at *;generalize xe.op=xo at *;generalize xe.n=xnn at *;generalize xe.s=xs at *;generalize xe.l.length=xl at *;have Ht:=((HM.out.below HB.out).alloc (.cells #[.string xn,.int .i64 xk,.string xo,.int .i64 xnn,.string xs,.slice ax xl cx] 96)).run (P:=Tryz.prog) Tryz.underlying124 Tryz.underlying9 (d:=0) (by kernel_rfl) xn false;simp only[Bool.false_eq_true,if_false] at Ht;have HG:=Zhd (show getI m xn=(m xn).getD 0 from rfl);rw[HG.out] at TK;generalize hg:(m xn).getD 0=g at *;have hO1:=(HO.out.alloc (.cells #[.string xn,.int .i64 xk,.string xo,.int .i64 xnn,.string xs,.slice ax xl cx] 96)).alloc (.cells #[.int .i64 g] 3);have HO1:=Zhd hO1;have hB1:=(HB.out.alloc HB.out.size (.cells #[.string xn,.int .i64 xk,.string xo,.int .i64 xnn,.string xs,.slice ax xl cx] 96)).alloc (by have:=HB.out.size;simp;omega) (.cells #[.int .i64 g] 3);have HB1':=Zhd hB1;have qM:=Zf5 (wr.alloc (.cells #[.string xn,.int .i64 xk,.string xo,.int .i64 xnn,.string xs,.slice ax xl cx] 96)) (.int .i64 g) 3;simp only[World.size_alloc] at qM;have HC1:=Zhd qM;clear hO1 hB1 qM;go_wp2_with(at_builtin;refine app1 122 3 1 8 _ Tryz.underlying122 Tryz.infoInt rfl (by decide) _ _ rfl rfl w2.heap.size _ _ _ rfl HO1.out ⟨wr.heap.size+1,0,none⟩ 1 [.int .i64 g] rfl rfl ?c1 ?c2 ?c3 ?c4 ?c5 ?_)
   case c1=>exact HC1.out
   case c2=>simp[Value.oneCell']
   case c3=>omega
   case c4=>omega
   case c5=>have:=HB.out.size;simp;omega
   intro v' w3 ho JP;have HO3:=Zhd ho;have Js:=Zhd (HB1'.out.grown JP (by have:=HB.out.size;simp;omega) (λq hq=>by have:=(HO1.out.lt q hq).1;omega));clear ho JP;go_wp2_with fail;go_roundw
   case rel=>exact⟨k+1,by go_num,by omega,Js.out,by rw[TK.out];exact HO3.out⟩
   simp[intOf];omega
  obtain rfl:k=p.fl.length:=by omega
  have gS:Ze1 (Zan wr) (p.fl.map λf=>Zac p f.name) (.slice ua p.fl.length uc):=by
   refine sints_of_row (base:=w2.heap.size) (t:=3) ?_;have h:=HO.out;rw[List.take_of_length_le (by simp),yO.out] at h;simpa[List.map_map,Function.comp_def] using h
  have HSV:=Zhd gS;clear gS;go_wp2_with fail;go_ret2
  unfold LatePost;rw[HX.out];exact⟨Jh.out.trans (HB.out.mono (by omega)),_,rfl,HSV.out⟩
theorem idx_nil(a:Option Addr)(c:Nat)(s:ByteArray)(w:World):
  Calls Tryz.prog 108 #[.slice a 0 c,.string s] w λe w'=>e=.returned (.int .i64 (-1))/\w=w':=by
 go_enter Tryz.func108,Tryz.ntmps108;go_wp2
 go_rounds 1
 all_goals go_ret
 exact⟨rfl,rfl⟩
theorem containsV_any(H:Kn)(v:Value)(l:List ByteArray)(s:ByteArray)(w:World)(hv:StrsV H l v)(hH:H.In w):
  Calls Tryz.prog 89 #[v,.string s] w λe w'=>e=.returned (.bool (l.contains s))/\w=w':=by
 rw[Zgr];rcases hv with ⟨rfl,a,c,rfl⟩|⟨b,off,Ha,rfl,h1,h2,h3⟩
 .go_enter Tryz.func89,Tryz.ntmps89;go_wp2_with(go_at_call 108;refine(idx_nil a c s _).mono ?_;rintro e w' ⟨rfl,rfl⟩);go_ret;exact⟨rfl,rfl⟩
 refine Zkj H _ l s w (.inr ⟨b,off,Ha,rfl,h1,h2,λi hi=>?_⟩) hH;have:=h3 i hi;simp only[List.getElem?_eq_getElem hi,Option.map_some];exact this
structure OckI(H:Kn)(C bm:Nat)(m:Env Int)(u:World):Prop where
 kn:H.In u
 cell:u.cell? ⟨C,0,none⟩=some (.map (some bm))
 size:C<u.heap.size
 mp:Zay (Value.int .i64) u bm m
theorem OckI.next{H:Kn}{C bm:Nat}{m:Env Int}{u u':World}(h:OckI H C bm m u)(hb:Ybw u u'):OckI H C bm m u':=
 ⟨h.kn.below hb,by rw[hb.cell (p:=⟨C,0,none⟩) (show C<u.heap.size from h.size)];exact h.cell,Nat.lt_of_lt_of_le h.size hb.size,h.mp.below hb⟩
theorem check1_pred(H:Kn)(C bm:Nat)(m:Env Int)(hl:∀s,0<=getI m s/\getI m s<=2)(ks:Env Int)(l:List Ex)(hf:∀e∈l,Zad ks e=true):
  ExPred 92 #[.pointer (some ⟨C,0,none⟩)] (OckI H C bm m) H (λe=>decide (0<lateOf (getI m) e)) l:=by
 refine⟨λ_ _=>by kernel_rfl,λw w' h hb=>h.next hb,λe he v hv w hI=>?_⟩;have hfe:=hf e he;have HV:=Zhd hv;obtain⟨u,rfl,hu⟩:=hv;obtain⟨a,c,rfl⟩:=hu.len;have ka:=Zbw (getI m) hl e;have Hv:Ybw w (w.alloc (.cells (Yqe e.op e.n e.s a e.l.length c) 93)):=Yba;have HI1:=Zhd (hI.next Hv);have kS:=HI1.out.cell;have Jn:=Zhd Hv;have hz:w.heap.size<(w.alloc (.cells (Yqe e.op e.n e.s a e.l.length c) 93)).heap.size:=by simp
 clear hu Hv hI;generalize e.l.length=el at *;go_enter Tryz.func92,Tryz.ntmps92;go_wp2_with fail;refine(late_any H m bm hl ks e hfe _ HV.out _ HI1.out.kn HI1.out.mp).mono ?_;rintro r w2 ⟨rfl,Hm⟩;have HB:=Zhd (Jn.out.trans (Hm.mono (by simp)));generalize hq:lateOf (getI m) e=q at *;go_wp2_with fail;go_ret;exact⟨Za7 (by simp[hq]),HB.out⟩
end Go.Proofs.YtafapnolamcdmaaGreatDoor
namespace Go.Proofs.YtafapnolamcdmaaGreatDoor.Mx
set_option maxRecDepth 100000
set_option maxHeartbeats 16000000
def hit(p:Pr)(s:ByteArray):Bool:=decide (Zac p s=2) || decide (Zac p s=1)&&p.outs.contains s
theorem lateM_ok{p:Pr}{l:List Int}(h:Ze4 p=.ok l):l=(p.fl.map λf=>Zac p f.name)/\Zak p=0:=by
 unfold Ze4 at h
 split at h
 .cases h
 rename_i x hx
 refine⟨by cases h;rfl,?_⟩;unfold Za5 at hx
 split at hx
 .cases hx
 rename_i h0;simpa using h0
theorem Zid{p:Pr}{x:Nat×Int}(h:Ze4 p=.error x):Za2 p=x:=by unfold Za2;rw[h]
theorem zip_find{α:Type}(q:α×Nat->Bool)(l:List α)(k:Nat)(hk:k<l.length)(h1:q (l[k],k)=true)(h2:∀j (hj:j<l.length),j<k->q (l[j],j)=false):l.zipIdx.find? q=some (l[k],k):=by
 rw[List.find?_eq_some_iff_getElem];refine⟨h1,k,by simpa using hk,by simp,λj hj=>?_⟩;have:=h2 j (by omega) hj;simp[this]
theorem zip_none{α:Type}(q:α×Nat->Bool)(l:List α)(h2:∀j (hj:j<l.length),q (l[j],j)=false):l.zipIdx.find? q=none:=by
 rw[List.find?_eq_none];intro x hx;obtain⟨i,hi,rfl⟩:=List.mem_iff_getElem.1 hx;have:=h2 i (by simpa using hi);simp[this]
theorem Zjx{p:Pr}(h:Ze4 p=.ok (p.fl.map λf=>Zac p f.name))(k:Nat)(hk:k<p.fl.length)(h1:hit p p.fl[k].name=true)(h2:∀j (hj:j<p.fl.length),j<k->hit p p.fl[j].name=false):Za2 p=(7,(k:Int)):=by
 unfold Za2;rw[h];simp only;rw[zip_find _ _ k (by simpa using hk)]
 .simpa [hit,Ygg,hk] using h1
 intro j hj jV;have jB:j<p.fl.length:=by simpa using hj
 simpa[hit,Ygg,jB] using h2 j jB jV
theorem Zjy{p:Pr}(h:Ze4 p=.ok (p.fl.map λf=>Zac p f.name))(h2:∀j (hj:j<p.fl.length),hit p p.fl[j].name=false):Za2 p=if ((p.as++p.cs).any λe=>decide (0<lateOf (Zac p) e))=true then(7, -1) else(0, -1):=by
 unfold Za2;rw[h];simp only;rw[zip_none];intro j hj;have jB:j<p.fl.length:=by simpa using hj
 simpa[hit,Ygg,jB] using h2 j jB
theorem lateM_pos{p:Pr}{x:Nat×Int}(h:Ze4 p=.error x):x.1≠0:=by
 unfold Ze4 at h
 split at h
 .rename_i e hx
  cases h;unfold Za5 at hx
  split at hx
  .rename_i h;cases hx;exact h
  split at hx
  .cases hx;simp
  cases hx
 cases h
end Go.Proofs.YtafapnolamcdmaaGreatDoor.Mx
