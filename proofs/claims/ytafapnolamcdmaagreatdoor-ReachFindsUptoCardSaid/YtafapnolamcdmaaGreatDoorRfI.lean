/- Walks: lustrumref1.Bare, Fine; lustrumref2.OrderOf. -/
import Derived.Test.YtafapnolamcdmaaGreatDoorOiM
set_option linter.all false
namespace Go.Proofs.YtafapnolamcdmaaGreatDoor
set_option maxRecDepth 100000
set_option maxHeartbeats 16000000
open Go.RowKit Mx
theorem fine_any(w:World):Calls Tryz.prog 32 #[] w λe w'=>e=.returned (.agg #[.int .i64 0,.int .i64 (-1)])/\Ybw w w':=by
 go_enter Tryz.func32,Tryz.ntmps32;go_wp2_with fail;refine bodyPost_ret (v:=.agg #[.int .i64 0,.int .i64 (-1)]) (by simp[results,Tryz.results32,go_sem]) rfl ?_;exact⟨rfl,Yba⟩
theorem Zk1(c:Int)(w:World):Calls Tryz.prog 10 #[.int .i64 c] w λe w'=>e=.returned (.agg #[.int .i64 c,.int .i64 (-1)])/\Ybw w w':=by
 go_enter Tryz.func10,Tryz.ntmps10;go_wp2_with fail;refine bodyPost_ret (v:=.agg #[.int .i64 c,.int .i64 (-1)]) (by simp[results,Tryz.results10,go_sem]) rfl ?_;exact⟨rfl,Yba⟩
theorem Zed{W:World}{b:Nat}{x y:Value}{t:TypeId}(h:W.heap[b]?=some (.cells #[x,y] t (0,0))):
  W.cell? ⟨b,0,none⟩=some x/\W.cell? ⟨b,1,none⟩=some y/\W.frozen? ⟨b,0,none⟩=false/\W.frozen? ⟨b,1,none⟩=false/\b<W.heap.size:=
 ⟨by simp[World.cell?,h],by simp[World.cell?,h],by simp[World.frozen?,h],by simp[World.frozen?,h],(Zlt h)⟩
theorem Zhy{W:World}{b:Nat}{x y:Value}{t:TypeId}(h:W.heap[b]?=some (.cells #[x,y] t (0,0)))(u v:Value):
  (W.setCell ⟨b,0,none⟩ u).cell? ⟨b,0,none⟩=some u/\((W.setCell ⟨b,0,none⟩ u).setCell ⟨b,1,none⟩ v).cell? ⟨b,1,none⟩=some v/\
  (∀o,(((W.setCell ⟨b,0,none⟩ u).setCell ⟨b,1,none⟩ v).alloc o).cell? ⟨b,0,none⟩=some u)/\(∀o,(((W.setCell ⟨b,0,none⟩ u).setCell ⟨b,1,none⟩ v).alloc o).cell? ⟨b,1,none⟩=some v):=by
 have h1:(W.setCell ⟨b,0,none⟩ u).heap[b]?=some (.cells #[u,y] t (0,0)):=by
  show(W.heap.modify b _)[b]?=_;rw[Array.getElem?_modify,if_pos rfl,h];rfl
 have h2:((W.setCell ⟨b,0,none⟩ u).setCell ⟨b,1,none⟩ v).heap[b]?=some (.cells #[u,v] t (0,0)):=by
  generalize W.setCell ⟨b,0,none⟩ u=W1 at *;show(W1.heap.modify b _)[b]?=_;rw[Array.getElem?_modify,if_pos rfl,h1];rfl
 refine⟨by simp[World.cell?,h1],by simp[World.cell?,h2],λo=>?_,λo=>?_⟩
 .rw [World.cell?_alloc_past _ _ _ (Zlt h2)];simp[World.cell?,h2]
 rw[World.cell?_alloc_past _ _ _ (Zlt h2)];simp[World.cell?,h2]
theorem Zd2{base b:Nat}{w W:World}(h:Below base w W)(hb:base<=b)(u v:Value):Below base w ((W.setCell ⟨b,0,none⟩ u).setCell ⟨b,1,none⟩ v):=
 (h.setCell (p:=⟨b,0,none⟩) hb u).setCell (p:=⟨b,1,none⟩) hb v
theorem but_set2(b:Nat)(W:World)(u v:Value):(Zci b W).le (Zan ((W.setCell ⟨b,0,none⟩ u).setCell ⟨b,1,none⟩ v)):=λx o e=>by
 unfold Zci at e
 split at e
 .cases e
 show((W.setCell ⟨b,0,none⟩ u).setCell ⟨b,1,none⟩ v).heap[x]?=_
 rename_i Hs
 rw[Below.heap_setCell _ _ _ _ (show x≠b from Hs),Below.heap_setCell _ _ _ _ (show x≠b from Hs)];exact e
theorem NMat.after{w0 wr wr':World}{base M1 M2 n k:Nat}{R:Nat->Nat}{f g:Nat->Nat->Bool}(h:NMat w0 wr base M1 M2 R n k f g)(hb:Ybw wr wr')(Jl:base<=wr.heap.size):NMat w0 wr' base M1 M2 R n k f g:=by
 have lt:∀{b:Nat} {o:Obj},wr.heap[b]?=some o->wr'.heap[b]?=some o:=λ{b o} e=>(hb.block b (Zlt e)).trans e;exact⟨h.below.trans (hb.mono Jl),lt h.m1,lt h.m2,λi hi=>lt (h.r1 i hi),λi hi=>lt (h.r2 i hi),h.hM,h.hMM,h.lo,h.mono⟩
structure SortR(w wx:World)(n D j:Nat)(u:Value)(out:List Nat):Prop where
 below:Ybw w wx
 size:D+1<=wx.heap.size
 row:wx.ownsRow (D+1) 3 1 u j (out.map natV)
 blk:wx.heap[D]?=some (.cells (Zbz n out.contains) 4 (0,0))
 len:out.length=j
theorem onceG_graph{p:Pr}(h:Zak p=0):Zc3 p=Zjh p.graph:=by
 funext i j
 rw[graph_fIdx h];unfold Zc3 Zjh;rw[Ygg,List.getElem?_map];cases p.fl[i]? with
 |none=>simp
 |some f=>rfl
def frB(p:Pr)(out:List Nat)(i k:Nat):Bool := !out.contains i&&(List.range k).all λx => !Zc3 p i x || out.contains x
theorem frB_zero(p:Pr)(out:List Nat)(i:Nat):frB p out i 0 = !out.contains i:=by simp[frB]
theorem frB_succ(p:Pr)(out:List Nat)(i k:Nat):frB p out i (k+1)=(frB p out i k&&(!Zc3 p i k || out.contains k)):=by
 simp[frB,List.range_succ,Bool.and_assoc]
theorem frB_all{p:Pr}(h:Zak p=0)(out:List Nat)(i:Nat):frB p out i p.fl.length=Zh8 p.graph out i:=by
 have Jm:=Zgo p;have Qt:=Zfg p;unfold frB Zh8;rw[onceG_graph h]
 congr 1
 rw[Bool.eq_iff_iff,List.all_eq_true,List.all_eq_true];constructor
 .intro ha x hx;have hx':x<p.graph.length:=by
   by_cases hi:i<p.graph.length
   .rw [Ygg,List.getElem?_eq_getElem hi] at hx;exact Jm _ (Ymm hi) _ hx
   rw[Ygg,List.getElem?_eq_none (by omega)] at hx;simp at hx
  have:=ha x (List.mem_range.2 (by omega));have hc:Zjh p.graph i x=true:=by simpa[Zjh] using hx
  rw[hc] at this;simpa using this
 intro ha x _;cases hc:Zjh p.graph i x with
 |false=>rfl
 |true=>exact ha x (by simpa[Zjh] using hc)
def OrdRef(K:Kn)(p:Pr)(v1 v2:Value):Prop:=match Za5 p with
 | .error x=>v1=Ys0/\v2=.agg #[.int .i64 x.1,.int .i64 x.2]
 | .ok l=>Zco K l v1/\v2=.agg #[.int .i64 0,.int .i64 (-1)]
theorem orderOf_any(H:Kn)(p:Pr)(vi vo vl va vc:Value)(hp:PrP H p vi vo vl va vc)(s1:p.fl.length<=1000000)(s2:Ex.partsL p.terms<=1000000000)(s3:p.ins.length<=100000000/\p.outs.length<=100000000/\p.as.length<=100000000/\p.cs.length<=100000000)(w:World)(hH:H.In w):
  Calls Tryz.prog 52 #[.agg #[vi,vo,vl,va,vc]] w λr w'=>Ybw w w'/\∃v1 v2,r=.returned (.tuple #[v1,v2])/\OrdRef (Zan w') p v1 v2:=by
 have HP:=Zhd hp;obtain⟨h1,h2,h3,h4,h5⟩:=hp;obtain⟨ai,ci,ao,co,al,cl,aa,ca,ac,cc,rfl,rfl,rfl,rfl,rfl⟩:=Ypo h1.len h2.len h3.len h4.len h5.len;clear h1 h2 h3 h4 h5;have kT:=heap_alloc_new w (.cells (Yq5 p ai ao al aa ac ci co cl ca cc) 27);have Jr:=heap_alloc_new (w.alloc (.cells (Yq5 p ai ao al aa ac ci co cl ca cc) 27)) (.cells Yo2 46);have Hg:Ybw w ((w.alloc (.cells (Yq5 p ai ao al aa ac ci co cl ca cc) 27)).alloc (.cells Yo2 46)):=Yba.alloc (by simp) _;have J6:((w.alloc (.cells (Yq5 p ai ao al aa ac ci co cl ca cc) 27)).alloc (.cells Yo2 46)).heap.size=w.heap.size+2:=by simp
 have xu:=(Below.heap_alloc (w.alloc (.cells (Yq5 p ai ao al aa ac ci co cl ca cc) 27)) (.cells Yo2 46) w.heap.size (by simp)).trans kT;rw[World.size_alloc] at Jr;have HH1:=Zhd (hH.below Hg);have J4:=Zhd Hg;have yD:=Zhd xu;have qp:=Zhd Jr;clear kT Jr xu Hg;go_enter Tryz.func52,Tryz.ntmps52;go_wp2_with fail;generalize (w.alloc (.cells (Yq5 p ai ao al aa ac ci co cl ca cc) 27)).alloc (.cells Yo2 46)=W1 at *;refine(flatError_any H p _ _ _ _ _ HP.out ⟨s2,by omega,s3.1,s3.2.1⟩ W1 HH1.out).mono ?_;rintro r w1 ⟨rfl,Hv⟩;have Jn:=Zhd (J4.out.trans (Hv.mono (by omega)));have xu:=(Hv.block w.heap.size (by omega)).trans yD.out;have kD:=(Hv.block (w.heap.size+1) (by omega)).trans qp.out;have Ju:w.heap.size+2<=w1.heap.size:=by have:=Hv.size;omega
 have HH2:=Zhd (HH1.out.below (Hv.mono (by omega)));have gK:=Zhd xu;have qc:=Zhd kD;clear Hv xu kD yD qp J4;cases J0:Zak p with
 |succ c=>
  have HX:=Zhd (show Za5 p=.error (c+1, -1) from by unfold Za5;rw[J0];rfl);clear J0;have qM:(0:Int)<((c+1:Nat):Int):=by omega
  generalize hci:((c+1:Nat):Int)=ci1 at *;go_wp2_with fail;refine(Zk1 _ _).mono ?_;rintro r w2 ⟨rfl,Hm⟩;have zg:=(Hm.block (w.heap.size+1) (by omega)).trans qc.out;obtain⟨q0,q1,f0,f1,kt⟩:=Zed zg;obtain⟨e0,e1,e2,e3⟩:=Zhy zg (.int .i64 ci1) (.int .i64 (-1));have E0:=Zhd e0;have E1:=Zhd e1;have ja:=Jn.out.trans (Hm.mono (by omega));clear e0 e1 e2 e3 zg;go_wp2_with fail;have e0:=E0.out;have e1:=E1.out;refine bodyPost_ret (v:=.tuple #[Ys0,.agg #[.int .i64 ci1,.int .i64 (-1)]]) (by simp[results,Tryz.results52,go_sem,e0,e1]) rfl ?_;refine⟨Zd2 ja (by omega) _ _,_,_,rfl,?_⟩;unfold OrdRef;rw[HX.out];exact⟨rfl,by rw[<- hci]⟩
 |zero=>
  obtain⟨ks,_,_,_,jY,_,_,_⟩:=Zb9 J0;have yQ:=Zhd J0;have HOM:=Zhd (show Za5 p=(match (List.range p.graph.length).find? (cyc p.graph) with|some i => .error (6,(i:Int))|.none => .ok (Zc7 p.graph p.graph.length [])) from by unfold Za5;rw[J0];rfl);have zx:=Zhd (Zfg p);have m0:w1.cell? ⟨w.heap.size,0,none⟩=some (.slice ai p.ins.length ci):=by simp[World.cell?,gK.out]
  have m1:w1.cell? ⟨w.heap.size,1,none⟩=some (.slice ao p.outs.length co):=by simp[World.cell?,gK.out]
  have m2:w1.cell? ⟨w.heap.size,2,none⟩=some (.slice al p.fl.length cl):=by simp[World.cell?,gK.out]
  have m3:w1.cell? ⟨w.heap.size,3,none⟩=some (.slice aa p.as.length ca):=by simp[World.cell?,gK.out]
  have m4:w1.cell? ⟨w.heap.size,4,none⟩=some (.slice ac p.cs.length cc):=by simp[World.cell?,gK.out]
  clear J0;go_wp2_with fail;refine(needsOf_any H p _ _ _ _ _ HP.out s1 (by unfold Pr.terms at s2;rw[List.append_assoc,Zej] at s2;omega) w1 HH2.out).mono ?_;rintro r w2 ⟨M1,M2,R,rfl,hN⟩;have HN:=Zhd hN;have hz3:=hN.below.size;have HP3:=Zhd ((hN.below.block w.heap.size (by omega)).trans gK.out);have HR3:=Zhd ((hN.below.block (w.heap.size+1) (by omega)).trans qc.out);have Jh:=Zhd (Jn.out.trans (hN.below.mono (by omega)));clear hN Jn gK qc m0 m1 m2 m3 m4 HH2 HH1;have HCY:=Zhd (show ∀i,wa (Zc3 p) p.fl.length i i=cyc p.graph i from λi=>by rw[onceG_graph yQ.out,<- zx.out];exact wa_cyc (Zgo p) i);go_wp2_with fail;go_loopw[7] (λi wr=>∃k:Nat,i=.int .i64 k/\k<=p.fl.length/\Ybw w2 wr/\(∀j,j<k->cyc p.graph j=false)) (λi _=>p.fl.length - (intOf i).toNat)
  case atStart=>exact⟨0,rfl,Nat.zero_le _,Below.refl _ _,λj h=>by omega⟩
  obtain⟨k,rfl,hk,hb,Jo⟩:=hrel;have HB:=Zhd hb;have JR:=Zhd Jo;have hzr:=hb.size;have m2:wr.cell? ⟨w.heap.size,2,none⟩=some (.slice al p.fl.length cl):=by have h:=(hb.block w.heap.size (by omega)).trans HP3.out;simp[World.cell?,h]
  have HNR:=Zhd (HN.out.after hb (by omega));have yc:=Zhd (Jh.out.trans (hb.mono (by omega)));clear hb Jo;by_cases Hd:k<p.fl.length
  .have vG:(k:Int)<p.fl.length:=by omega
   have n1:=HNR.out.cellM Hd Ylr;have n2:=HNR.out.cellA Hd Hd;rw[HCY.out] at n2;cases hcy:cyc p.graph k
   .have HX:=Zhd (show ∀j,j<k+1->cyc p.graph j=false from λj hj=>by
     by_cases h:j<k
     .exact JR.out j h
     obtain rfl:j=k:=by omega
     exact hcy)
    rw[hcy] at n2;clear hcy;go_wp2_with fail;go_roundw
    case rel=>exact⟨k+1,by go_num,by omega,HB.out,HX.out⟩
    simp[intOf];omega
   have HX:=Zhd (show Za5 p=.error (6,(k:Int)) from by
    rw[HOM.out];have:(List.range p.graph.length).find? (cyc p.graph)=some k:=by
     rw[List.find?_range_eq_some];exact⟨hcy,List.mem_range.2 (by rw[zx.out];exact Hd),λj hj=>by simp[JR.out j hj]⟩
    rw[this])
   rw[hcy] at n2;have zg:=(HB.out.block (w.heap.size+1) (by omega)).trans HR3.out;obtain⟨q0,q1,f0,f1,kt⟩:=Zed zg;obtain⟨e0,e1,e2,e3⟩:=Zhy zg (.int .i64 6) (.int .i64 k);have E0:=Zhd e0;have E1:=Zhd e1;clear hcy e0 e1 e2 e3 zg;go_wp2_with fail;have e0:=E0.out;have e1:=E1.out;refine bodyPost_ret (v:=.tuple #[Ys0,.agg #[.int .i64 6,.int .i64 k]]) (by simp[results,Tryz.results52,go_sem,e0,e1]) rfl ?_;refine⟨Zd2 yc.out (by omega) _ _,_,_,rfl,?_⟩;unfold OrdRef;rw[HX.out];exact⟨rfl,rfl⟩
  obtain rfl:k=p.fl.length:=by omega
  have zt:=run_make_row' (P:=Tryz.prog) 81 4 (.bool false) 1 Tryz.underlying81 Tryz.infoBool rfl .i64 .i64 p.fl.length (by omega) (by omega);have jP:=Zhd (show Za5 p=.ok (Zc7 p.graph p.graph.length []) from by
   rw[HOM.out];have:(List.range p.graph.length).find? (cyc p.graph)=none:=by
    rw[List.find?_eq_none];intro x hx;have:=JR.out x (by have:=List.mem_range.1 hx;rw[zx.out] at this;exact this);simp[this]
   rw[this])
  have HPICK:=Zhd (sort_pick (Zgo p) (λj hj=>JR.out j (by rw[zx.out] at hj;exact hj)));go_wp2_with fail;have JY:SortR w2 (wr.alloc (.cells (madeCells #[.bool false] p.fl.length) 4)) p.fl.length wr.heap.size 0 (Ys0) (Zc7 p.graph 0 []):=by
   refine⟨HB.out.alloc HB.out.size _,by simp,World.ownsRow_nil _ _ _ _,?_,rfl⟩;rw[heap_alloc_new,made_bools]
   congr 2
  have hDge:=HB.out.size;generalize wr.alloc (.cells (madeCells #[.bool false] p.fl.length) 4)=W2 at *;generalize wr.heap.size=D at *;have jF:=Zhd JY;clear JY zt JR HOM HB m2 HNR yc hzr;go_loopg[9,10,11,12] (p.fl.length) (λf u9 u10 u11 u12 wx=>∃j,j+f=p.fl.length/\SortR w2 wx p.fl.length D j u9 (Zc7 p.graph j []))
  case atStart=>exact⟨0,by omega,jF.out⟩
  obtain⟨j,hleft,hS⟩:=hrel;have HS:=Zhd hS;obtain⟨ra,rc,rfl,hrc,hjc⟩:=Zar hS.row;have qT:=hS.size;have hb:=hS.below;have m2:wr.cell? ⟨w.heap.size,2,none⟩=some (.slice al p.fl.length cl):=by have h:=(hb.block w.heap.size (by omega)).trans HP3.out;simp[World.cell?,h]
  have HNR:=Zhd (HN.out.after hb (by omega));clear hS hb;by_cases hjn:j<p.fl.length
  .have hjI:(j:Int)<p.fl.length:=by omega
   have hpk:=HPICK.out j (by rw[zx.out];exact hjn);have HSUC:=Zhd (Zgc p.graph j []);generalize Hn:Zc7 p.graph j []=out at *;have HFREE:=Zhd (pick_free hpk);have HFST:=Zhd (λk (h:k<pick p.graph out)=>pick_first h (show k<p.graph.length by omega));rw[zx.out] at hpk;have hgp:1<=gk:=by omega
   clear Hn;generalize pick p.graph out=pk at *;go_wp2_with fail;go_loop[9,10,11,12] (λo i u11 u12=>o=.slice ra j rc/\∃k:Nat,i=.int .i64 k/\k<=pk) (λo i u11 u12=>pk - (intOf i).toNat)
   case atStart=>exact⟨rfl,0,rfl,Nat.zero_le _⟩
   obtain⟨rfl,i,rfl,hip⟩:=hrel;have Hk:i<p.fl.length:=by omega
   have hiI:(i:Int)<p.fl.length:=by omega
   have hD:=HS.out.blk;have hdc:wr.cell? ⟨D,i,none⟩=some (.bool (out.contains i)):=by simp only[World.cell?,hD];exact Zdl _ _ _ Hk
   have hfd:wr.frozen? ⟨D,i,none⟩=false:=by simp[World.frozen?,hD]
   have HFA:=Zhd (frB_all yQ.out out i);have hf0:=(frB_zero p out i).symm;have HD:=Zhd hD;obtain⟨oi,hoi⟩:∃b,b=out.contains i:=⟨_,rfl⟩;rw[<- hoi] at hdc hf0;have HOI:=Zhd hoi;clear hD hoi;go_wp2_with fail;go_loop[11,12] (λf x=>∃k:Nat,f=.bool (frB p out i k)/\x=.int .i64 k/\k<=p.fl.length) (λf x=>p.fl.length - (intOf x).toNat)
   case atStart=>exact⟨0,by rw[<- hf0],rfl,Nat.zero_le _⟩
   obtain⟨k,rfl,rfl,hk⟩:=hrel;by_cases Hd:k<p.fl.length
   .have vG:(k:Int)<p.fl.length:=by omega
    have n1:=HNR.out.cellO Hk Ylr;have n2:=HNR.out.cellB Hk Hd;have n3:wr.cell? ⟨D,k,none⟩=some (.bool (out.contains k)):=by simp only[World.cell?,HD.out];exact Zdl _ _ _ Hd
    have HSF:=Zhd (frB_succ p out i k);generalize frB p out i k=fk at *;generalize Zc3 p i k=ok at *;generalize out.contains k=dk at *;rcases(show fk=false\/(fk=true/\ok=false)\/(fk=true/\ok=true) from by cases fk<;>cases ok<;>simp) with rfl|⟨rfl,rfl⟩|⟨rfl,rfl⟩
    all_goals
     go_wp2_with fail;go_round
     case rel=>exact⟨k+1,by rw[HSF.out];simp,by go_num,by omega⟩
     simp[intOf];omega
   obtain rfl:k=p.fl.length:=by omega
   rw[HFA.out];by_cases jp:i=pk
   .subst jp;have qV:=Zbj HS.out.row (b:=D) (by omega);have jc:=Zhd (Zaa wr D i (.bool true) _ _ _ HD.out);have HO2:=Zhd (Zam HS.out.row (a:=⟨D,i,none⟩) qV (.bool true));have Ju:(wr.setCell ⟨D,i,none⟩ (.bool true)).heap.size=wr.heap.size:=by simp[World.setCell]
    have JD:=Zhd (HS.out.below.setCell (p:=⟨D,i,none⟩) hDge (.bool true));have zR:=Zhd (show ∀v' w3,w3.ownsRow (D+1) 3 1 v' (j+1) (out.map natV++[.int .i64 i])->((wr.setCell ⟨D,i,none⟩ (.bool true)).alloc (.cells #[.int .i64 i] 3)).grownBy w3 (Value.slice ra j rc).ownBlock->SortR w2 w3 p.fl.length D (j+1) v' (Zc7 p.graph (j+1) []) from λv' w3 ho JP=>by
     have hs3:=JP.size;simp only[World.size_alloc,Ju] at hs3;have hnD:some D≠(Value.slice ra j rc).ownBlock:=Ne.symm qV;rw[HSUC.out];refine⟨(JD.out.alloc (by rw[Ju];omega) _).grown JP (by simp;omega) (λq hq=>by have:=(HS.out.row.lt q hq).1;omega),by omega,by rw[List.map_append];exact ho,?_,by rw[List.length_append,HS.out.len];rfl⟩;rw[JP.block D (by simp;omega) hnD,Below.heap_alloc _ _ _ (by rw[Ju];omega),jc.out,Zjz]
     congr 2
     refine Zc5 λx hx=>?_;by_cases hxi:x=i
     .subst hxi;simp
     simp[hxi])
    have h1:=HFREE.out;rw[h1];go_wp2_with(at_builtin;refine app1 122 3 1 8 _ Tryz.underlying122 Tryz.infoInt rfl (by decide) _ _ rfl rfl (D+1) _ _ _ rfl (HO2.out.alloc _) ⟨wr.heap.size,0,none⟩ 1 [.int .i64 i] rfl rfl ?c1 ?c2 ?c3 ?c4 ?c5 ?_)
    case c2=>simp[Value.oneCell']
    case c3=>omega
    case c4=>omega
    case c5=>first|omega|(simp;omega)
    intro v' w3 ho JP;have Jw:=zR.out v' w3 ho JP;go_wp2_with fail;go_roundg (gk - 1)
    case rel=>exact⟨j+1,by omega,Jw⟩
    omega
   have h1:=HFST.out i (by omega);rw[h1];go_wp2_with fail;go_round
   case rel=>exact⟨rfl,i+1,by go_num,by omega⟩
   simp[intOf];omega
  obtain rfl:j=p.fl.length:=by omega
  have HV:=Zhd (ints_of_row (R:=w.heap.size+1) (l:=Zc7 p.graph p.fl.length []) (by rw[HS.out.len];exact HS.out.row) (Zbj HS.out.row (by omega)));go_wp2_with fail;refine(fine_any _).mono ?_;rintro r w3 ⟨rfl,Jg⟩;have yc:=Zhd (Jh.out.trans (HS.out.below.mono (by omega)));have qB:=(Jg.block (w.heap.size+1) (by omega)).trans ((HS.out.below.block (w.heap.size+1) (by omega)).trans HR3.out);obtain⟨q0,q1,f0,f1,kt⟩:=Zed qB;obtain⟨e0,e1,e2,e3⟩:=Zhy qB (.int .i64 0) (.int .i64 (-1));have E0:=Zhd e0;have E1:=Zhd e1;have ja:=yc.out.trans (Jg.mono (by have:=yc.out.size;omega));have JZ:=Zhd (show(Zci (w.heap.size+1) wr).le (Zci (w.heap.size+1) w3) from λx o e=>by
   unfold Zci at e ⊢
   split at e
   .cases e
   rename_i Hs
   rw[if_neg Hs,Jg.block x (Zlt e)];exact e)
  clear e0 e1 e2 e3 qB Jg;go_wp2_with fail;have e0:=E0.out;have e1:=E1.out;refine bodyPost_ret (v:=.tuple #[.slice ra p.fl.length rc,.agg #[.int .i64 0,.int .i64 (-1)]]) (by simp[results,Tryz.results52,go_sem,e0,e1]) rfl ?_;refine⟨Zd2 ja (by omega) _ _,_,_,rfl,?_⟩;unfold OrdRef;rw[jP.out,zx.out];exact⟨Zco.le (but_set2 _ _ _ _) (Zco.le JZ.out HV.out),rfl⟩
def Zbh(p:Pr)(A:List Int):ByteArray->Int:=λs=>match fIdx p s with|some k=>A.getD k 0|none=>0
theorem Zia(p:Pr)(A:List Int)(hl:∀x∈A,0<=x/\x<=2)(s:ByteArray):0<=Zbh p A s/\Zbh p A s<=2:=by
 unfold Zbh
 split
 .exact Zjs A _ hl
 omega
theorem latesOf_len(f:ByteArray->Int):∀l:List Ex,(Zau f l).length=l.length
 | []=>rfl
 |e :: l=>by simp[Zau,latesOf_len f l]
theorem Zio(p:Pr)(vi vo vl va vc:Value)(A:List Int)(hA:A.length=p.fl.length)(hl:∀x∈A,0<=x/\x<=2)(hlp:p.fl.length<=1000000)(ks:Env Int):∀(e:Ex),Zad ks e=true->e.parts<=1000000000000->∀(H:Kn) (v vA:Value),ExV H e v->PrP H p vi vo vl va vc->Ze1 H A vA->∀w,H.In w->
  Calls Tryz.prog 55 #[.agg #[vi,vo,vl,va,vc],v,vA] w λr w'=>r=.returned (.int .i64 (lateOf (Zbh p A) e))/\Ybw w w':=by
 refine Ex.ind λo n s l ih hf hpe H v vA hv hp qk w hH=>?_;have HP:=Zhd hp;obtain⟨h1,h2,h3,h4,h5⟩:=hp;obtain⟨ai,ci,ao,co,al,cl,aa,ca,ac,cc,rfl,rfl,rfl,rfl,rfl⟩:=Ypo h1.len h2.len h3.len h4.len h5.len;clear h1 h2 h3 h4 h5;obtain⟨u,rfl,hu⟩:=hv;simp only[Ex.op,Ex.n,Ex.s,Ex.l] at hu ⊢;obtain⟨a,c,rfl⟩:=hu.len;obtain⟨aA,cA,rfl⟩:=qk.len;rw[hA] at qk ⊢;have HA:=Zhd hA;clear hA;obtain⟨jY,Jj,jq,zC,_⟩:=Zax hf;have HU:=Zhd hu;have HVA:=Zhd qk;have IH:=Zhd ih;have HFL:=Zhd jY;simp only[Ex.parts] at hpe;have xN:=Zbp l;have zQ:=Zhd (Zbw (Zbh p A) (Zia p A hl));clear hu ih qk jY hf;have hPB:((w.alloc (.cells (Yq5 p ai ao al aa ac ci co cl ca cc) 27)).alloc (.cells (Yqe o n s a l.length c) 61)).heap[w.heap.size]?=some (.cells (Yq5 p ai ao al aa ac ci co cl ca cc) 27 (0,0)):=by
  rw[Below.heap_alloc _ _ _ (by simp)];exact heap_alloc_new _ _
 have hEB:((w.alloc (.cells (Yq5 p ai ao al aa ac ci co cl ca cc) 27)).alloc (.cells (Yqe o n s a l.length c) 61)).heap[w.heap.size+1]?=some (.cells (Yqe o n s a l.length c) 61 (0,0)):=by
  rw[show w.heap.size+1=(w.alloc (.cells (Yq5 p ai ao al aa ac ci co cl ca cc) 27)).heap.size from by simp];exact heap_alloc_new _ _
 have Hg:Ybw w ((w.alloc (.cells (Yq5 p ai ao al aa ac ci co cl ca cc) 27)).alloc (.cells (Yqe o n s a l.length c) 61)):=Yba.alloc (by simp) _;have hzW:((w.alloc (.cells (Yq5 p ai ao al aa ac ci co cl ca cc) 27)).alloc (.cells (Yqe o n s a l.length c) 61)).heap.size=w.heap.size+2:=by simp
 go_enter Tryz.func55,Tryz.ntmps55;go_wp2_with fail;generalize hW:(w.alloc (.cells (Yq5 p ai ao al aa ac ci co cl ca cc) 27)).alloc (.cells (Yqe o n s a l.length c) 61)=W at *;obtain⟨K,JQ⟩:∃K,K=(H.add w.heap.size (.cells (Yq5 p ai ao al aa ac ci co cl ca cc) 27 (0,0))).add (w.heap.size+1) (.cells (Yqe o n s a l.length c) 61 (0,0)):=⟨_,rfl⟩;have qC:H.le K:=by rw[JQ];exact Kn.le_trans (Kn.le_add (hH.isNone Ylr)) (Kn.le_add (by rw[Kn.add_other _ _ (by omega)];exact hH.isNone (by omega)))
 have JK:K.In W:=by rw[JQ];exact((hH.below Hg).add hPB).add hEB
 have qi:∀i,K.cell w.heap.size i=((Yq5 p ai ao al aa ac ci co cl ca cc):Array Value)[i]?:=λi=>by unfold Kn.cell;rw[JQ,Kn.add_other _ _ (by omega),Kn.add_self]
 have jj:∀i,K.cell (w.heap.size+1) i=((Yqe o n s a l.length c):Array Value)[i]?:=λi=>by unfold Kn.cell;rw[JQ,Kn.add_self]
 have k0:K.cell w.heap.size 0=some (.slice ai p.ins.length ci):=qi 0;have k1:K.cell w.heap.size 1=some (.slice ao p.outs.length co):=qi 1;have k2:K.cell w.heap.size 2=some (.slice al p.fl.length cl):=qi 2;have k3:K.cell w.heap.size 3=some (.slice aa p.as.length ca):=qi 3;have k4:K.cell w.heap.size 4=some (.slice ac p.cs.length cc):=qi 4;have j0:K.cell (w.heap.size+1) 0=some (.string o):=jj 0;have j2:K.cell (w.heap.size+1) 2=some (.string s):=jj 2;have j3:K.cell (w.heap.size+1) 3=some (.slice a l.length c):=jj 3;have yC:=Zhd (HP.out.le qC);have HVK:=Zhd (show Ze1 K A (.slice aA p.fl.length cA) from SlV.le HVA.out qC (λx f g h e=>h 0 _ e));have HEX:=Zhd (show ExsV K l (.slice a l.length c) from HU.out.le qC);have HKW:=Zhd JK;have J4:=Zhd Hg;clear qi jj JQ hPB hEB Hg hH HU HP HVA JK;go_loopw[7,8,9,10] (λu7 u8 i u10 wr=>∃k:Nat,i=.int .i64 k/\k<=l.length/\u8=.int .i64 ((Zau (Zbh p A) (l.take k)).foldl max 0)/\Ybw W wr/\wr.ownsRow (w.heap.size+2) 3 1 u7 k ((Zau (Zbh p A) (l.take k)).map (Value.int .i64))) (λ_ _ i _ _=>l.length - (intOf i).toNat)
 case atStart=>exact⟨0,rfl,Nat.zero_le _,rfl,Below.refl _ _,World.ownsRow_nil _ _ _ _⟩
 obtain⟨k,rfl,hk,rfl,hb,Hb⟩:=hrel;have HB:=Zhd hb;have HO:=Zhd Hb;obtain⟨ra,rc,rfl,hrc,vF⟩:=Zar Hb;have kV:=HKW.out.below hb;have hzr:=hb.size;clear hb Hb;have m0:=kV.cell k0;have m1:=kV.cell k1;have m2:=kV.cell k2;have m3:=kV.cell k3;have m4:=kV.cell k4;have i0:=kV.cell j0;have i2:=kV.cell j2;have i3:=kV.cell j3;by_cases Hd:k<l.length
 .obtain⟨b,off,ax,cx,rfl,c0,c1,c2,c3,hx⟩:=HEX.out.at Hd;have Jy:l[k].parts<=1000000000000:=by have:=Za0 l k Hd;omega
  have Hl:=Ymm Hd;have jD:=HFL.out _ Hl;have HLT:=Zhd (Zgl (Zbh p A) l k Hd);have Hq:K.In wr.drew:=kV;have Hu:=zQ.out l[k];have qy:=Zi1 (Zau (Zbh p A) (l.take k)) 0 (by omega) (by omega) (λx hx=>by
   obtain⟨e,_,rfl⟩:=Zfv _ _ _ hx;exact zQ.out e)
  have gO:=Zhd (show(Zau (Zbh p A) (l.take (k+1))).foldl max 0=max ((Zau (Zbh p A) (l.take k)).foldl max 0) (lateOf (Zbh p A) l[k]) from by rw[HLT.out,List.foldl_append];rfl);generalize l[k]=x at *;have vd:=Zhd (λ(wz:World) (hz:K.In wz)=>IH.out x Hl jD Jy K _ _ hx yC.out HVK.out wz hz);clear jD Jy hx;go_wp2_with fail;refine Zae (λw'=>K.In w') (λ_=>True) 99 (by kernel_rfl) ?_;refine Go.w3 0 ?_
  iterate 7 ((first|(refine tk3 (v:=?_) rfl Hq Ztr ?hy ?_;(case hy=>intro w Hi;obtain⟨z0,z1,z2,z3,z4,z5,z6,z7,z8,z9⟩:=Hi.c10 k0 k1 k2 k3 k4 j3 c0 c1 c2 c3;go_simp<;>with_reducible rfl))|refine sk3 rfl Hq Ztr ?_|refine no3 ?_);refine Zss ?_)
  refine Go.w3e ?_;refine Zwo 7 rfl λK_ hK=>?_;go_simp;go_at_call 55;refine(vd.out _ Hq).mono ?_;rintro r w2 ⟨rfl,Hm⟩;have Jw:K.In w2:=Hq.below Hm;refine hK.out _ _ (Jw) Ztr ?_;clear hK K_
  try simp only[tkS]
  refine tk2 (i:=8) (v:=?_) rfl Jw Ztr ?hy ?_
  case hy=>intro w Hi;obtain⟨z0,z1,z2,z3,z4,z5,z6,z7,z8,z9⟩:=Hi.c10 k0 k1 k2 k3 k4 j3 c0 c1 c2 c3;go_simp<;>with_reducible rfl
  try simp only[tkS]
  refine Zwd ?_;have Jh:=Zhd (HB.out.trans ((show Ybw wr w2 from(Below.refl _ _).drew.trans Hm).mono hzr));have HO2:=Zhd (Za1 HO.out (show Ybw wr w2 from(Below.refl _ _).drew.trans Hm));have Ju:=Jh.out.size;clear Hm Jw Hq m0 m1 m2 m3 m4 i0 i2 i3;have gx:max ((Zau (Zbh p A) (l.take k)).foldl max 0) (lateOf (Zbh p A) x)=if (Zau (Zbh p A) (l.take k)).foldl max 0<lateOf (Zbh p A) x then lateOf (Zbh p A) x else(Zau (Zbh p A) (l.take k)).foldl max 0:=by split<;>omega
  rw[gx] at gO;clear gx;generalize (Zau (Zbh p A) (l.take k)).foldl max 0=acc at *;generalize lateOf (Zbh p A) x=q at *;go_wp2_with(at_builtin;refine app1 122 3 1 8 _ Tryz.underlying122 Tryz.infoInt rfl (by decide) _ _ rfl rfl (w.heap.size+2) _ _ _ rfl (HO2.out.alloc _) ⟨w2.heap.size,0,none⟩ 1 [.int .i64 q] rfl rfl ?c1 ?c2 ?c3 ?c4 ?c5 ?_)
  case c1=>exact Zf5 _ _ _
  case c2=>simp[Value.oneCell']
  case c3=>omega
  case c4=>omega
  case c5=>first|omega|(simp;omega)
  intro v' w3 ho JP;have HO3:=Zhd (show w3.ownsRow (w.heap.size+2) 3 1 v' (k+1) ((Zau (Zbh p A) (l.take (k+1))).map (Value.int .i64)) from by rw[HLT.out,List.map_append];exact ho);have Js:=Zhd ((Jh.out.alloc Ju _).grown JP (by simp;omega) (λq hq=>by have:=(HO2.out.lt q hq).1;omega));clear ho JP;by_cases Qs:acc<q
  .rw [if_pos Qs] at gO;go_wp2_with fail;go_roundw
   case rel=>exact⟨k+1,by go_num,by omega,by rw[gO.out],Js.out,HO3.out⟩
   simp[intOf];omega
  rw[if_neg Qs] at gO;go_wp2_with fail;go_roundw
  case rel=>exact⟨k+1,by go_num,by omega,by rw[gO.out],Js.out,HO3.out⟩
  simp[intOf];omega
 obtain rfl:k=l.length:=by omega
 rw[List.take_length] at HO ⊢;have JD:=Zhd (J4.out.trans (HB.out.mono (by omega)));have kS:∀i,i<l.length->∃g,ra=some ⟨g,0,none⟩/\wr.cell? ⟨g,i,none⟩=some (.int .i64 ((Zau (Zbh p A) l).getD i 0)):=λi hi=>by
  obtain⟨g,Ha,he,_,_,_,_,hc⟩:=Zbr HO.out (by omega);cases he;refine⟨g,rfl,?_⟩;refine hc i _ ?_;have:=Zcg (Zbh p A) l i hi;rw[this];rw[List.getElem?_map];rw[Ygg] at this;cases hq:(Zau (Zbh p A) l)[i]? with
  |some q=>rw[hq] at this;simp at this;simp[this]
  |none=>
   have Ho:(Zau (Zbh p A) l).length=l.length:=latesOf_len _ _;rw[List.getElem?_eq_none_iff] at hq;omega
 have HCE:=Zhd kS;clear kS;by_cases Je:o=Zb2
 .have HX:=Zhd (show lateOf (Zbh p A) (.mk o n s l)=Zbh p A s from by simp only[lateOf];rw[if_pos Je]);have t1:(o.toList==[110,97,109,101])=true:=by rw[<- dLit];simpa using Je
  have JJ:(fInt p s = -1/\Zbh p A s=0)\/∃kk:Nat,kk<p.fl.length/\fInt p s=(kk:Int)/\Zbh p A s=A.getD kk 0:=by
   rcases fInt_cases p s with ⟨h1,h2⟩|⟨kk,h0,h1,h2⟩
   .exact .inl ⟨h2,by simp[Zbh,h1]⟩
   exact .inr ⟨kk,h0,h2,by simp[Zbh,h1]⟩
  clear Je Jj jq zC;go_wp2_with fail;refine(Zhh K p _ _ _ _ _ yC.out (by omega) s wr kV).mono ?_;rintro r w2 ⟨rfl,Hm⟩;have hKr2:=kV.below Hm;have xH:=Zhd (JD.out.trans (Hm.mono (by have:=JD.out.size;omega)));clear Hm;rcases JJ with ⟨e1,e2⟩|⟨kk,hkk,e1,e2⟩
  .rw [e1];have HY:=Zhd e2;clear e1 e2;go_wp2_with fail;go_ret;exact⟨Zaf (by rw[HX.out,HY.out]),xH.out⟩
  rw[e1];have hkA:kk<A.length:=by rw[HA.out];exact hkk
  obtain⟨bA,oA,xj,_,a0⟩:=SlV.at HVK.out hkA;cases xj;have a0:K.cell bA (oA+kk * 1+0)=some (.int .i64 A[kk]):=a0;simp only[Nat.mul_one,Nat.add_zero] at a0;have a0:=hKr2.cell a0;have HY:=Zhd (show Zbh p A s=A[kk] from by rw[e2,Ygg,List.getElem?_eq_getElem hkA];rfl);have vG:(kk:Int)<p.fl.length:=by omega
  generalize A[kk]=q at *;clear e1 e2;go_wp2_with fail;go_ret;exact⟨Zaf (by rw[HX.out,HY.out]),xH.out⟩
 have t1:(o.toList==[110,97,109,101])=false:=Zav _ Je;by_cases hZ:o=oPre
 .have t2:(o.toList==[112,114,101])=true:=by rw[<- dLit];simpa using hZ
  have h1:=zC hZ;obtain⟨g,rfl,n0⟩:=HCE.out 0 (by omega);have Hv:=zQ.out l[0];rw[Zcg _ l 0 (by omega)] at n0;have HX:=Zhd (show lateOf (Zbh p A) (.mk o n s l)=min (2:Int) (lateOf (Zbh p A) l[0]+1) from by simp only[lateOf];rw[if_neg Je,if_pos hZ,Zcg _ l 0 (by omega)]);generalize lateOf (Zbh p A) l[0]=q at *;have Qs:(0:Int)<l.length:=by omega
  rcases(show q=2\/q≠2 from by omega) with rfl|hq
  .go_wp2_with fail;go_ret;exact⟨Zaf (by rw[HX.out];rfl),JD.out⟩
  have hqq:(q==2)=false:=by simpa using hq
  go_wp2_with fail;go_ret;exact⟨Zaf (by rw[HX.out];omega),JD.out⟩
 have t2:(o.toList==[112,114,101])=false:=Zav _ hZ;by_cases zL:o=Zbk\/o=oFby
 .have h2:l.length=2:=by rcases zL with h|h;exact jq h;exact Jj h
  obtain⟨g,rfl,n0⟩:=HCE.out 0 (by omega);obtain⟨g',hg',n1⟩:=HCE.out 1 (by omega);cases hg';have Hg:=zQ.out l[0];have Hv:=zQ.out l[1];rw[Zcg _ l 0 (by omega)] at n0;rw[Zcg _ l 1 (by omega)] at n1;have HX:=Zhd (show lateOf (Zbh p A) (.mk o n s l)=(if (if o=oFby then min (2:Int) (lateOf (Zbh p A) l[1]+1) else lateOf (Zbh p A) l[1])=2 then 2 else lateOf (Zbh p A) l[0]) from by
   simp only[lateOf];rw[if_neg Je,if_neg hZ,if_pos zL,Zcg _ l 0 (by omega),Zcg _ l 1 (by omega)])
  have jm:((o.toList==[45,62])=true/\(o.toList==[102,98,121])=false/\o≠oFby)\/((o.toList==[45,62])=false/\(o.toList==[102,98,121])=true/\o=oFby):=by
   rcases zL with h|h
   .left;subst h;exact⟨by rw[<- dLit];decide,by rw[<- dLit];decide,by decide⟩
   right;subst h;exact⟨by rw[<- dLit];decide,by rw[<- dLit];decide,rfl⟩
  generalize lateOf (Zbh p A) l[0]=q0 at *;generalize lateOf (Zbh p A) l[1]=q1 at *;have Qs:(0:Int)<l.length:=by omega
  have hgt1:(1:Int)<l.length:=by omega
  clear Je hZ zL Jj jq zC;rcases jm with ⟨t3,t4,hof⟩|⟨t3,t4,hof⟩
  all_goals
   have HOF:=Zhd hof;clear hof;go_wp2_with fail
  all_goals go_ret
  all_goals refine⟨Zaf ?_,JD.out⟩
  all_goals rw[HX.out]
  all_goals(first|rw[if_neg HOF.out]|rw[if_pos HOF.out])
  all_goals(first|omega|(split<;>first|omega|(simp_all;omega)|simp_all))
 have t3:(o.toList==[45,62])=false:=Zav _ (λh=>zL (.inl h));have t4:(o.toList==[102,98,121])=false:=Zav _ (λh=>zL (.inr h));have HX:=Zhd (show lateOf (Zbh p A) (.mk o n s l)=(Zau (Zbh p A) l).foldl max 0 from by simp only[lateOf];rw[if_neg Je,if_neg hZ,if_neg zL]);clear Je hZ zL Jj jq zC;go_wp2_with fail;go_ret;exact⟨Zaf HX.out.symm,JD.out⟩
theorem Zi2{p:Pr}(hn:(p.fl.map (·.name)).Nodup)(i:Nat)(hi:i<p.fl.length):fIdx p p.fl[i].name=some i:=by
 unfold fIdx;rw[List.findIdx?_eq_some_iff_getElem];refine⟨hi,by simp,λj hj=>?_⟩;have Hs:p.fl[j].name≠p.fl[i].name:=λe=>by
  have:=List.pairwise_iff_getElem.1 hn j i (by simp;omega) (by simpa using hi) hj;simp at this;exact this e
 simpa using Hs
theorem fIdx_lt{p:Pr}{s:ByteArray}{k:Nat}(h:fIdx p s=some k):∃hk:k<p.fl.length,p.fl[k].name=s:=by
 unfold fIdx at h;rw[List.findIdx?_eq_some_iff_getElem] at h;obtain⟨hk,h1,_⟩:=h;exact⟨hk,by simpa using h1⟩
theorem fLate_set{p:Pr}(hn:(p.fl.map (·.name)).Nodup)(A:List Int)(hA:A.length=p.fl.length)(i:Nat)(hi:i<p.fl.length)(n:Int):Zbh p (A.set i n)=setL (Zbh p A) p.fl[i].name n:=by
 funext s
 unfold Zbh setL;by_cases hs:s=p.fl[i].name
 .subst hs;rw[if_pos rfl,Zi2 hn i hi];simp[Ygg,hA,hi]
 rw[if_neg hs];cases hf:fIdx p s with
 |none=>simp[hf]
 |some k=>
  obtain⟨hk,he⟩:=fIdx_lt hf;have Hs:i≠k:=λe=>by subst e;exact hs he.symm
  simp[hf,Ygg,List.getElem?_set,Hs]
theorem fLate_get{p:Pr}(hn:(p.fl.map (·.name)).Nodup)(A:List Int)(hA:A.length=p.fl.length)(i:Nat)(hi:i<p.fl.length):Zbh p A p.fl[i].name=A[i]'(by omega):=by
 unfold Zbh;rw[Zi2 hn i hi];simp[Ygg,hA,hi]
theorem fLate_zero(p:Pr)(n:Nat):Zbh p (List.replicate n 0)=λ_=>0:=by
 funext s
 unfold Zbh;cases fIdx p s with
 |none=>rfl
 |some k=>
  simp only[Ygg,List.getElem?_replicate]
  split<;>rfl
def intsA(A:List Int):Array Value:=(A.map (Value.int .i64)).toArray
theorem intsA_get(A:List Int)(i:Nat)(h:i<A.length):(intsA A)[i]?=some (.int .i64 A[i]):=by simp[intsA,h]
theorem intsA_set(A:List Int)(i:Nat)(n:Int):(intsA A).setIfInBounds i (.int .i64 n)=intsA (A.set i n):=by simp[intsA,List.map_set]
theorem made_ints(n:Nat):madeCells #[.int .i64 0] n=intsA (List.replicate n 0):=by
 apply Array.ext_getElem?;intro j;by_cases hj:j<n
 .rw [intsA_get _ j (by simpa using hj)];simp[madeCells,hj,Nat.mod_one]
 rw[Array.getElem?_eq_none (by simp[madeCells];omega),Array.getElem?_eq_none (by simp[intsA];omega)]
theorem Zhp{K:Kn}{D:Nat}{A:List Int}{t:TypeId}(h:K D=some (.cells (intsA A) t (0,0)))(hl:A.length<=maxLen):Ze1 K A (.slice (some ⟨D,0,none⟩) A.length A.length):=by
 by_cases h0:A=[]
 .exact .inl ⟨h0,_,_,by rw[h0];rfl⟩
 refine .inr ⟨D,0,_,rfl,Nat.le_refl _,hl,λi hi=>?_⟩;show K.cell D (0+i * 1+0)=some (Value.int .i64 A[i]);simp only[Nat.zero_add,Nat.mul_one,Nat.add_zero];unfold Kn.cell;rw[h];exact intsA_get A i hi
structure LatS(w wr:World)(K:Kn)(D n:Nat)(A:List Int):Prop where
 below:Ybw w wr
 isin:K.In wr
 blk:wr.heap[D]?=some (.cells (intsA A) 3 (0,0))
 len:A.length=n
 bd:∀x∈A,0<=x/\x<=2
theorem LatS.next{w wr w':World}{K:Kn}{D n:Nat}{A:List Int}(h:LatS w wr K D n A)(hb:Ybw wr w'):LatS w w' K D n A:=
 ⟨h.below.trans (hb.mono h.below.size),h.isin.below hb,(hb.block D (Zlt h.blk)).trans h.blk,h.len,h.bd⟩
theorem LatS.set{w wr:World}{K:Kn}{D n:Nat}{A:List Int}(h:LatS w wr K D n A)(hD:w.heap.size<=D)(hK:K D=none)(i:Nat)(x:Int)(hx:0<=x/\x<=2):LatS w (wr.setCell ⟨D,i,none⟩ (.int .i64 x)) K D n (A.set i x):=
 ⟨h.below.setCell (p:=⟨D,i,none⟩) hD _,h.isin.setCell (a:=⟨D,i,none⟩) hK _,by rw[<- intsA_set];exact Zaa _ _ _ _ _ _ _ h.blk,by rw[List.length_set];exact h.len,λy hy=>by
  rcases List.mem_or_eq_of_mem_set hy with h1|h1
  .exact h.bd y h1
  rw[h1];exact hx⟩
theorem Zip(H:Kn)(p:Pr)(vi vo vl va vc:Value)(hp:PrP H p vi vo vl va vc)(ks:Env Int)(ji:∀f∈p.fl,Zad ks f.e=true)(hnd:(p.fl.map (·.name)).Nodup)(hn:p.fl.length<=1000000)(kZ:Ex.partsL p.terms<=1000000000)(w:World)(hH:H.In w):
  Calls Tryz.prog 53 #[.agg #[vi,vo,vl,va,vc]] w λr w'=>∃A vA,r=.returned vA/\A.length=p.fl.length/\Zbh p A=Zac p/\(∀x∈A,0<=x/\x<=2)/\Ze1 (Zan w') A vA/\Ybw w w':=by
 have HP:=Zhd hp;obtain⟨h1,h2,h3,h4,h5⟩:=hp;obtain⟨ai,ci,ao,co,al,cl,aa,ca,ac,cc,rfl,rfl,rfl,rfl,rfl⟩:=Ypo h1.len h2.len h3.len h4.len h5.len;clear h1 h2 h3 h4 h5;have zt:=run_make_row' (P:=Tryz.prog) 122 3 (.int .i64 0) 8 Tryz.underlying122 Tryz.infoInt rfl .i64 .i64 p.fl.length (by omega) (by omega);have Hg:Ybw w (w.alloc (.cells (Yq5 p ai ao al aa ac ci co cl ca cc) 27)):=Yba;obtain⟨K,JQ⟩:∃K,K=H.add w.heap.size (.cells (Yq5 p ai ao al aa ac ci co cl ca cc) 27 (0,0)):=⟨_,rfl⟩;have qC:H.le K:=by rw[JQ];exact Kn.le_add (hH.isNone Ylr)
 have JK:K.In (w.alloc (.cells (Yq5 p ai ao al aa ac ci co cl ca cc) 27)):=by rw[JQ];exact(hH.below Hg).add (heap_alloc_new w _)
 have hKD:K (w.heap.size+1)=none:=by rw[JQ,Kn.add_other _ _ (by omega)];exact hH.isNone (by omega)
 have qi:∀i,K.cell w.heap.size i=((Yq5 p ai ao al aa ac ci co cl ca cc):Array Value)[i]?:=λi=>by unfold Kn.cell;rw[JQ,Kn.add_self]
 have k0:K.cell w.heap.size 0=some (.slice ai p.ins.length ci):=qi 0;have k1:K.cell w.heap.size 1=some (.slice ao p.outs.length co):=qi 1;have k2:K.cell w.heap.size 2=some (.slice al p.fl.length cl):=qi 2;have k3:K.cell w.heap.size 3=some (.slice aa p.as.length ca):=qi 3;have k4:K.cell w.heap.size 4=some (.slice ac p.cs.length cc):=qi 4;have yC:=Zhd (HP.out.le qC);have jF:=Zhd (show LatS w ((w.alloc (.cells (Yq5 p ai ao al aa ac ci co cl ca cc) 27)).alloc (.cells (madeCells #[.int .i64 0] p.fl.length) 3)) K (w.heap.size+1) p.fl.length (List.replicate p.fl.length 0) from
  ⟨Hg.alloc (by simp) _,JK.alloc _,by rw[show w.heap.size+1=(w.alloc (.cells (Yq5 p ai ao al aa ac ci co cl ca cc) 27)).heap.size from by simp,made_ints];exact heap_alloc_new _ _,by simp,λx hx=>by rw[(List.mem_replicate.1 hx).2];omega⟩)
 have gN:=Zhd (show Zf3 p.fl (2 * p.fl.length+1) (Zbh p (List.replicate p.fl.length 0))=Zac p from by rw[fLate_zero];rfl);have HMU:=Zhd (show mu (Zbh p (List.replicate p.fl.length 0)) p.fl<2 * p.fl.length+1 from by rw[fLate_zero];have:=mu_zero p.fl;omega);have zm:=Zhd ji;have HND:=Zhd hnd;clear qi JQ Hg JK HP qC ji hnd;go_enter Tryz.func53,Tryz.ntmps53;go_wp2_with fail;go_loopg[4,5,6] (2 * p.fl.length+1) (λf u4 u5 u6 wr=>∃A b,u4=.bool b/\LatS w wr K (w.heap.size+1) p.fl.length A/\((b=true/\Zf3 p.fl f (Zbh p A)=Zac p/\mu (Zbh p A) p.fl<f)\/(b=false/\Zbh p A=Zac p)))
 case atStart=>exact⟨_,true,rfl,jF.out,.inl ⟨rfl,gN.out,HMU.out⟩⟩
 obtain⟨A,b,rfl,hS,jm⟩:=hrel;have HS:=Zhd hS;have xA:=Zhd jm;clear hS jm;cases b with
 |true=>
  go_wp2_with fail;go_loopw[4,5,6] (λu4 i u6 wr=>∃(k:Nat) (A':List Int) (b:Bool),i=.int .i64 k/\u4=.bool b/\k<=p.fl.length/\LatS w wr K (w.heap.size+1) p.fl.length A'/\Zat p.fl (Zbh p A) false=Zat (p.fl.drop k) (Zbh p A') b/\(∀s,Zbh p A s<=Zbh p A' s)/\(b=true->∃f∈p.fl,Zbh p A f.name<Zbh p A' f.name)) (λ_ i _ _=>p.fl.length - (intOf i).toNat)
  case atStart=>exact⟨0,A,false,rfl,rfl,Nat.zero_le _,HS.out,by simp,λs=>Int.le_refl _,λh=>by cases h⟩
  obtain⟨k,A',b,rfl,rfl,hk,hS',hrd,He,xb⟩:=hrel;have QB:=Zhd hS';have HRD:=Zhd hrd;have JZ:=Zhd He;have xF:=Zhd xb;have m2:=hS'.isin.cell k2;clear hS' hrd He xb;by_cases Hd:k<p.fl.length
  .have vG:(k:Int)<p.fl.length:=by omega
   obtain⟨bb,off,Qd,he,_,_,JJ⟩:=FlsV.cell yC.out.fl (λe=>by rw[e] at Hd;simp at Hd);cases he;obtain⟨ax,cx,d0,d1,d2,d3,d4,d5,hx⟩:=JJ k Hd;have Jy:p.fl[k].e.parts<=1000000000000:=by
    have h1:=Za0 (p.fl.map (·.e)) k (by simpa using Hd);unfold Pr.terms at kZ;rw[List.append_assoc,Zej] at kZ;simp at h1;omega
   have jD:=zm.out _ (Ymm Hd);have HMEM:=Zhd (Ymm Hd);have HDR:=Zhd (drop_round Hd (Zbh p A') b);have HGE:=Zhd (fLate_get HND.out A' QB.out.len k Hd);have Jz:=Zhd (λn=>fLate_set HND.out A' QB.out.len k Hd n);have hlb:=Zbw (Zbh p A') (Zia p A' QB.out.bd) p.fl[k].e;have vd:=Zhd (λ(wz:World) (hz:LatS w wz K (w.heap.size+1) p.fl.length A')=>Zio p _ _ _ _ _ A' QB.out.len QB.out.bd hn ks p.fl[k].e jD Jy (K.add (w.heap.size+1) (.cells (intsA A') 3 (0,0))) (.agg #[.string p.fl[k].e.op,.int .i64 p.fl[k].e.n,.string p.fl[k].e.s,.slice ax p.fl[k].e.l.length cx]) (.slice (some ⟨w.heap.size+1,0,none⟩) p.fl.length p.fl.length)
    ⟨_,rfl,hx.le (Kn.le_add hKD)⟩ (yC.out.le (Kn.le_add hKD)) (QB.out.len▸Zhp (Kn.add_self _ _ _) (by rw[QB.out.len];unfold maxLen;omega)) wz (hz.isin.add hz.blk))
   have Hq:=QB.out.next ((Below.refl _ wr).drew);clear jD Jy hx JJ d0 d1;have hkA:k<A'.length:=by rw[QB.out.len];exact Hd
   generalize hak:A'[k]=ak at *;have HAK:=Zhd hak;clear hak;generalize jd:p.fl[k]=x at *;clear jd;go_wp2_with fail;refine Zae (λw'=>LatS w w' K (w.heap.size+1) p.fl.length A') (λ_=>True) 99 (by kernel_rfl) ?_;refine Go.w3 0 ?_
   iterate 8 ((first|(refine tk3 (v:=?_) rfl Hq Ztr ?hy ?_;(case hy=>intro w Hi;have z0:=Hi.isin.cell k0;have z1:=Hi.isin.cell k1;have z2:=Hi.isin.cell k2;have z3:=Hi.isin.cell k3;have z4:=Hi.isin.cell k4;have z5:=Hi.isin.cell d2;have z6:=Hi.isin.cell d3;have z7:=Hi.isin.cell d4;have z8:=Hi.isin.cell d5;go_simp<;>with_reducible rfl))|refine sk3 rfl Hq Ztr ?_|refine no3 ?_);refine Zss ?_)
   refine Go.w3e ?_;refine Zwo 8 rfl λK_ hK=>?_;go_simp;go_at_call 55;refine(vd.out _ Hq).mono ?_;rintro r w2 ⟨rfl,Hm⟩;have Jw:=Hq.next Hm;refine hK.out _ _ (Jw) Ztr ?_;clear hK K_
   try simp only[tkS]
   refine tk2 (i:=9) (v:=?_) rfl Jw Ztr ?hy ?_
   case hy=>intro w Hi;have z0:=Hi.isin.cell k0;have z1:=Hi.isin.cell k1;have z2:=Hi.isin.cell k2;have z3:=Hi.isin.cell k3;have z4:=Hi.isin.cell k4;have z5:=Hi.isin.cell d2;have z6:=Hi.isin.cell d3;have z7:=Hi.isin.cell d4;have z8:=Hi.isin.cell d5;go_simp<;>with_reducible rfl
   try simp only[tkS]
   refine Zwd ?_;have kG:=Zhd Jw;have hcD:w2.cell? ⟨w.heap.size+1,k,none⟩=some (.int .i64 ak):=by
    have h:=Jw.blk;simp only[World.cell?,h];rw[<- HAK.out];exact intsA_get A' k hkA
   have hfD:w2.frozen? ⟨w.heap.size+1,k,none⟩=false:=by have h:=Jw.blk;simp[World.frozen?,h]
   clear Hm Jw Hq;generalize lateOf (Zbh p A') x.e=q at *;rw[HGE.out] at HDR;by_cases Hr:ak<q
   .rw [if_pos Hr,<- Jz.out] at HDR;have HN:=Zhd (kG.out.set (by omega) hKD k q hlb);have HLE2:=Zhd (show ∀s,Zbh p A s<=Zbh p (A'.set k q) s from λs=>by
     rw[Jz.out];unfold setL
     split
     .rename_i he
      have:=JZ.out s;rw[he,HGE.out] at this;rw[he];omega
     exact JZ.out s)
    have HGN:=Zhd (show Zbh p A x.name<Zbh p (A'.set k q) x.name from by
     rw[Jz.out];have:=JZ.out x.name;rw[HGE.out] at this;simp only[setL,if_true];omega)
    go_wp2_with fail;go_roundw
    case rel=>exact⟨k+1,_,true,by go_num,rfl,by omega,HN.out,by rw[HRD.out,HDR.out],HLE2.out,λ_=>⟨_,HMEM.out,HGN.out⟩⟩
    simp[intOf];omega
   rw[if_neg Hr] at HDR;go_wp2_with fail;go_roundw
   case rel=>exact⟨k+1,A',b,by go_num,rfl,by omega,kG.out,by rw[HRD.out,HDR.out],JZ.out,xF.out⟩
   simp[intOf];omega
  obtain rfl:k=p.fl.length:=by omega
  have HR:=Zhd (show Zat p.fl (Zbh p A) false=(Zbh p A',b) from by rw[HRD.out,List.drop_length];rfl);go_wp2_with fail;go_roundg (gk - 1)
  case rel=>
   rcases xA.out with ⟨_,Jp,hm⟩|⟨h,_⟩
   .obtain⟨g',rfl⟩:∃g',gk=g'+1:=⟨gk - 1,by omega⟩;rw[Zh3,HR.out] at Jp;cases b with
    |true=>
     obtain⟨f,hf,Qs⟩:=xF.out rfl;have:=mu_lt (Zbh p A) (Zbh p A') JZ.out (λs=>(Zia p A' QB.out.bd s).2) p.fl f hf Qs;exact⟨A',true,rfl,QB.out,.inl ⟨rfl,Jp,by omega⟩⟩
    |false=>exact⟨A',false,rfl,QB.out,.inr ⟨rfl,Jp⟩⟩
   cases h
  rcases xA.out with ⟨_,_,hm⟩|⟨h,_⟩
  .omega
  cases h
 |false=>
  go_wp2_with fail;go_ret;rcases xA.out with ⟨h,_⟩|⟨_,h⟩
  .cases h
  exact⟨A,_,rfl,HS.out.len,h,HS.out.bd,HS.out.len▸Zhp (K:=Zan wr) HS.out.blk (by rw[HS.out.len];unfold maxLen;omega),HS.out.below⟩
end Go.Proofs.YtafapnolamcdmaaGreatDoor
