/- Walks: lustrumref1.Bare, Fine; lustrumref2.OrderOf. -/
import Derived.Test.YtgoccoldkfpbgaaGreatDoorRg
import Derived.Test.YtgoccoldkfpbgaaGreatDoorOiM
import Derived.Deep.LoopGhost
import Derived.Test.YtgoccoldkfpbgaaGreatDoorRh
import Derived.Test.YtgoccoldkfpbgaaGreatDoorLateA
import Derived.Test.YtgoccoldkfpbgaaGreatDoorOrd
set_option linter.all false
namespace Go.Proofs.YtgoccoldkfpbgaaGreatDoor
set_option maxRecDepth 100000
set_option maxHeartbeats 16000000
open Go.RowKit Mx
theorem fine_any (w:World):Calls Tryz.prog 40 #[] w fun e w'=>e = .returned (.agg #[.int .i64 0,.int .i64 (-1)])∧Below w.heap.size w w':=by
 go_enter Tryz.func40,Tryz.ntmps40
 go_wp2_with fail
 refine bodyPost_ret (v := .agg #[.int .i64 0,.int .i64 (-1)]) (by simp [results,Tryz.results40,go_sem]) rfl ?_
 exact⟨rfl,(Below.refl _ _).alloc (Nat.le_refl _) _⟩
theorem bare_any (c:Int) (w:World):Calls Tryz.prog 39 #[.int .i64 c] w fun e w'=>e = .returned (.agg #[.int .i64 c,.int .i64 (-1)])∧Below w.heap.size w w':=by
 go_enter Tryz.func39,Tryz.ntmps39
 go_wp2_with fail
 refine bodyPost_ret (v := .agg #[.int .i64 c,.int .i64 (-1)]) (by simp [results,Tryz.results39,go_sem]) rfl ?_
 exact⟨rfl,(Below.refl _ _).alloc (Nat.le_refl _) _⟩
theorem Zd2 {W:World} {b:Nat} {x y:Value} {t:TypeId} (h:W.heap[b]?=some (.cells #[x,y] t (0,0))):
  W.cell? ⟨b,0,none⟩=some x∧W.cell? ⟨b,1,none⟩=some y∧W.frozen? ⟨b,0,none⟩=false∧W.frozen? ⟨b,1,none⟩=false∧b<W.heap.size:=
 ⟨by simp [World.cell?,h],by simp [World.cell?,h],by simp [World.frozen?,h],by simp [World.frozen?,h],(Zlt h)⟩
theorem Zhc {W:World} {b:Nat} {x y:Value} {t:TypeId} (h:W.heap[b]?=some (.cells #[x,y] t (0,0))) (u v:Value):
  (W.setCell ⟨b,0,none⟩ u).cell? ⟨b,0,none⟩=some u∧((W.setCell ⟨b,0,none⟩ u).setCell ⟨b,1,none⟩ v).cell? ⟨b,1,none⟩=some v∧
  (∀ o,(((W.setCell ⟨b,0,none⟩ u).setCell ⟨b,1,none⟩ v).alloc o).cell? ⟨b,0,none⟩=some u)∧(∀ o,(((W.setCell ⟨b,0,none⟩ u).setCell ⟨b,1,none⟩ v).alloc o).cell? ⟨b,1,none⟩=some v):=by
 have h1:(W.setCell ⟨b,0,none⟩ u).heap[b]?=some (.cells #[u,y] t (0,0)):=by
  show (W.heap.modify b _)[b]?=_
  rw [Array.getElem?_modify,if_pos rfl,h];rfl
 have h2:((W.setCell ⟨b,0,none⟩ u).setCell ⟨b,1,none⟩ v).heap[b]?=some (.cells #[u,v] t (0,0)):=by
  generalize W.setCell ⟨b,0,none⟩ u=W1 at *
  show (W1.heap.modify b _)[b]?=_
  rw [Array.getElem?_modify,if_pos rfl,h1];rfl
 refine⟨by simp [World.cell?,h1],by simp [World.cell?,h2],fun o=>?_,fun o=>?_⟩
 ·rw [World.cell?_alloc_past _ _ _ (Zlt h2)];simp [World.cell?,h2]
 rw [World.cell?_alloc_past _ _ _ (Zlt h2)];simp [World.cell?,h2]
theorem Zdo {base b:Nat} {w W:World} (h:Below base w W) (hb:base≤b) (u v:Value):Below base w ((W.setCell ⟨b,0,none⟩ u).setCell ⟨b,1,none⟩ v):=
 (h.setCell (p:=⟨b,0,none⟩) hb u).setCell (p:=⟨b,1,none⟩) hb v
theorem but_set2 (b:Nat) (W:World) (u v:Value):(Zb6 b W).le (Zag ((W.setCell ⟨b,0,none⟩ u).setCell ⟨b,1,none⟩ v)):=fun x o e=>by
 unfold Zb6 at e
 split at e
 ·cases e
 show ((W.setCell ⟨b,0,none⟩ u).setCell ⟨b,1,none⟩ v).heap[x]?=_
 rename_i hne
 rw [Below.heap_setCell _ _ _ _ (show x≠b from hne),Below.heap_setCell _ _ _ _ (show x≠b from hne)]
 exact e
theorem NMat.after {w0 wr wr':World} {base M1 M2 n k:Nat} {R:Nat→Nat} {f g:Nat→Nat→Bool} (h:NMat w0 wr base M1 M2 R n k f g) (hb:Below wr.heap.size wr wr') (hbase:base≤wr.heap.size):NMat w0 wr' base M1 M2 R n k f g:=by
 have lt:∀ {b:Nat} {o:Obj},wr.heap[b]?=some o→wr'.heap[b]?=some o:=fun {b o} e=>(hb.block b (Zlt e)).trans e
 exact⟨h.below.trans (hb.mono hbase),lt h.m1,lt h.m2,fun i hi=>lt (h.r1 i hi),fun i hi=>lt (h.r2 i hi),h.hM,h.hMM,h.lo,h.mono⟩
structure SortR (w wx:World) (n D j:Nat) (u:Value) (out:List Nat):Prop where
 below:Below w.heap.size w wx
 size:D+1≤wx.heap.size
 row:wx.ownsRow (D+1) 3 1 u j (out.map natV)
 blk:wx.heap[D]?=some (.cells (Zbu n out.contains) 4 (0,0))
 len:out.length=j
theorem onceG_graph {p:Pr} (h:Zaj p=0):Zcs p=Ziv p.graph:=by
 funext i j
 rw [graph_fIdx h]
 unfold Zcs Ziv
 rw [List.getD_eq_getElem?_getD,List.getElem?_map]
 cases p.fl[i]? with
 | none=>simp
 | some f=>rfl
def frB (p:Pr) (out:List Nat) (i k:Nat):Bool := !out.contains i&&(List.range k).all fun x => !Zcs p i x || out.contains x
theorem frB_zero (p:Pr) (out:List Nat) (i:Nat):frB p out i 0 = !out.contains i:=by simp [frB]
theorem frB_succ (p:Pr) (out:List Nat) (i k:Nat):frB p out i (k+1)=(frB p out i k&&(!Zcs p i k || out.contains k)):=by
 simp [frB,List.range_succ,Bool.and_assoc]
theorem frB_all {p:Pr} (h:Zaj p=0) (out:List Nat) (i:Nat):frB p out i p.fl.length=Zho p.graph out i:=by
 have hlow:=Zgb p
 have hgl:=Ze6 p
 unfold frB Zho
 rw [onceG_graph h]
 congr 1
 rw [Bool.eq_iff_iff,List.all_eq_true,List.all_eq_true]
 constructor
 ·intro ha x hx
  have hx':x<p.graph.length:=by
   by_cases hi:i<p.graph.length
   ·rw [List.getD_eq_getElem?_getD,List.getElem?_eq_getElem hi] at hx
    exact hlow _ (List.getElem_mem hi) _ hx
   rw [List.getD_eq_getElem?_getD,List.getElem?_eq_none (by omega)] at hx
   simp at hx
  have:=ha x (List.mem_range.2 (by omega))
  have hc:Ziv p.graph i x=true:=by simpa [Ziv] using hx
  rw [hc] at this
  simpa using this
 intro ha x _
 cases hc:Ziv p.graph i x with
 | false=>rfl
 | true=>exact ha x (by simpa [Ziv] using hc)
def OrdRef (K:Kn) (p:Pr) (v1 v2:Value):Prop:=match Zbf p with
 | .error x=>v1 = .slice none 0 0∧v2 = .agg #[.int .i64 x.1,.int .i64 x.2]
 | .ok l=>Zcc K l v1∧v2 = .agg #[.int .i64 0,.int .i64 (-1)]
theorem orderOf_any (H:Kn) (p:Pr) (vi vo vl va vc:Value) (hp:PrP H p vi vo vl va vc) (s1:p.fl.length≤1000000) (s2:Ex.partsL p.terms≤1000000000) (s3:p.ins.length≤100000000∧p.outs.length≤100000000∧p.as.length≤100000000∧p.cs.length≤100000000) (w:World) (hH:H.In w):
  Calls Tryz.prog 62 #[.agg #[vi,vo,vl,va,vc]] w fun r w'=>Below w.heap.size w w'∧∃ v1 v2,r = .returned (.tuple #[v1,v2])∧OrdRef (Zag w') p v1 v2:=by
 have HP:=Zhd hp
 obtain⟨h1,h2,h3,h4,h5⟩:=hp
 obtain⟨ai,ci,rfl⟩:=h1.len
 obtain⟨ao,co,rfl⟩:=h2.len
 obtain⟨al,cl,rfl⟩:=h3.len
 obtain⟨aa,ca,rfl⟩:=h4.len
 obtain⟨ac,cc,rfl⟩:=h5.len
 clear h1 h2 h3 h4 h5
 have hP0:=heap_alloc_new w (.cells #[.slice ai p.ins.length ci,.slice ao p.outs.length co,.slice al p.fl.length cl,.slice aa p.as.length ca,.slice ac p.cs.length cc] 27)
 have hR0:=heap_alloc_new (w.alloc (.cells #[.slice ai p.ins.length ci,.slice ao p.outs.length co,.slice al p.fl.length cl,.slice aa p.as.length ca,.slice ac p.cs.length cc] 27)) (.cells #[.int .i64 0,.int .i64 0] 45)
 have hb0:Below w.heap.size w ((w.alloc (.cells #[.slice ai p.ins.length ci,.slice ao p.outs.length co,.slice al p.fl.length cl,.slice aa p.as.length ca,.slice ac p.cs.length cc] 27)).alloc (.cells #[.int .i64 0,.int .i64 0] 45)):=((Below.refl _ _).alloc (Nat.le_refl _) _).alloc (by simp) _
 have hz1:((w.alloc (.cells #[.slice ai p.ins.length ci,.slice ao p.outs.length co,.slice al p.fl.length cl,.slice aa p.as.length ca,.slice ac p.cs.length cc] 27)).alloc (.cells #[.int .i64 0,.int .i64 0] 45)).heap.size=w.heap.size+2:=by simp
 have hP1:=(Below.heap_alloc (w.alloc (.cells #[.slice ai p.ins.length ci,.slice ao p.outs.length co,.slice al p.fl.length cl,.slice aa p.as.length ca,.slice ac p.cs.length cc] 27)) (.cells #[.int .i64 0,.int .i64 0] 45) w.heap.size (by simp)).trans hP0
 rw [World.size_alloc] at hR0
 have HH1:=Zhd (hH.below hb0)
 have HB0:=Zhd hb0
 have HP1:=Zhd hP1
 have HR0:=Zhd hR0
 clear hP0 hR0 hP1 hb0
 go_enter Tryz.func62,Tryz.ntmps62
 go_wp2_with fail
 generalize (w.alloc (.cells #[.slice ai p.ins.length ci,.slice ao p.outs.length co,.slice al p.fl.length cl,.slice aa p.as.length ca,.slice ac p.cs.length cc] 27)).alloc (.cells #[.int .i64 0,.int .i64 0] 45)=W1 at *
 refine (flatError_any H p _ _ _ _ _ HP.out ⟨s2,by omega,s3.1,s3.2.1⟩ W1 HH1.out).mono ?_
 rintro r w1 ⟨rfl,hb1⟩
 have HB1:=Zhd (HB0.out.trans (hb1.mono (by omega)))
 have hP1:=(hb1.block w.heap.size (by omega)).trans HP1.out
 have hR1:=(hb1.block (w.heap.size+1) (by omega)).trans HR0.out
 have hz2:w.heap.size+2≤w1.heap.size:=by have:=hb1.size;omega
 have HH2:=Zhd (HH1.out.below (hb1.mono (by omega)))
 have HP2:=Zhd hP1
 have HR2:=Zhd hR1
 clear hb1 hP1 hR1 HP1 HR0 HB0
 cases hck:Zaj p with
 | succ c=>
  have HX:=Zhd (show Zbf p = .error (c+1, -1) from by unfold Zbf;rw [hck];rfl)
  clear hck
  have hc1:(0:Int)<((c+1:Nat):Int):=by omega
  generalize hci:((c+1:Nat):Int)=ci1 at *
  go_wp2_with fail
  refine (bare_any _ _).mono ?_
  rintro r w2 ⟨rfl,hb2⟩
  have hR2:=(hb2.block (w.heap.size+1) (by omega)).trans HR2.out
  obtain⟨q0,q1,f0,f1,hlw⟩:=Zd2 hR2
  obtain⟨e0,e1,e2,e3⟩:=Zhc hR2 (.int .i64 ci1) (.int .i64 (-1))
  have E0:=Zhd e0
  have E1:=Zhd e1
  have hfin:=HB1.out.trans (hb2.mono (by omega))
  clear e0 e1 e2 e3 hR2
  go_wp2_with fail
  have e0:=E0.out
  have e1:=E1.out
  refine bodyPost_ret (v := .tuple #[.slice none 0 0,.agg #[.int .i64 ci1,.int .i64 (-1)]]) (by simp [results,Tryz.results62,go_sem,e0,e1]) rfl ?_
  refine⟨Zdo hfin (by omega) _ _,_,_,rfl,?_⟩
  unfold OrdRef
  rw [HX.out]
  exact⟨rfl,by rw [← hci]⟩
 | zero=>
  obtain⟨ks,_,_,_,hfl,_,_,_⟩:=Zb4 hck
  have HCK:=Zhd hck
  have HOM:=Zhd (show Zbf p=(match (List.range p.graph.length).find? (cyc p.graph) with | some i => .error (6,(i:Int)) | .none => .ok (Zcv p.graph p.graph.length [])) from by unfold Zbf;rw [hck];rfl)
  have HGL:=Zhd (Ze6 p)
  have m0:w1.cell? ⟨w.heap.size,0,none⟩=some (.slice ai p.ins.length ci):=by simp [World.cell?,HP2.out]
  have m1:w1.cell? ⟨w.heap.size,1,none⟩=some (.slice ao p.outs.length co):=by simp [World.cell?,HP2.out]
  have m2:w1.cell? ⟨w.heap.size,2,none⟩=some (.slice al p.fl.length cl):=by simp [World.cell?,HP2.out]
  have m3:w1.cell? ⟨w.heap.size,3,none⟩=some (.slice aa p.as.length ca):=by simp [World.cell?,HP2.out]
  have m4:w1.cell? ⟨w.heap.size,4,none⟩=some (.slice ac p.cs.length cc):=by simp [World.cell?,HP2.out]
  clear hck
  go_wp2_with fail
  refine (needsOf_any H p _ _ _ _ _ HP.out s1 (by unfold Pr.terms at s2;rw [List.append_assoc,Zd7] at s2;omega) w1 HH2.out).mono ?_
  rintro r w2 ⟨M1,M2,R,rfl,hN⟩
  have HN:=Zhd hN
  have hz3:=hN.below.size
  have HP3:=Zhd ((hN.below.block w.heap.size (by omega)).trans HP2.out)
  have HR3:=Zhd ((hN.below.block (w.heap.size+1) (by omega)).trans HR2.out)
  have HB2:=Zhd (HB1.out.trans (hN.below.mono (by omega)))
  clear hN HB1 HP2 HR2 m0 m1 m2 m3 m4 HH2 HH1
  have HCY:=Zhd (show ∀ i,wa (Zcs p) p.fl.length i i=cyc p.graph i from fun i=>by rw [onceG_graph HCK.out,← HGL.out];exact wa_cyc (Zgb p) i)
  go_wp2_with fail
  go_loopw [7] (fun i wr=>∃ k:Nat,i = .int .i64 k∧k≤p.fl.length∧Below w2.heap.size w2 wr∧(∀ j,j<k→cyc p.graph j=false)) (fun i _=>p.fl.length - (intOf i).toNat)
  case atStart=>exact⟨0,rfl,Nat.zero_le _,Below.refl _ _,fun j h=>by omega⟩
  obtain⟨k,rfl,hk,hb,hno⟩:=hrel
  have HB:=Zhd hb
  have HNO:=Zhd hno
  have hzr:=hb.size
  have m2:wr.cell? ⟨w.heap.size,2,none⟩=some (.slice al p.fl.length cl):=by have h:=(hb.block w.heap.size (by omega)).trans HP3.out;simp [World.cell?,h]
  have HNR:=Zhd (HN.out.after hb (by omega))
  have HBR:=Zhd (HB2.out.trans (hb.mono (by omega)))
  clear hb hno
  by_cases hkl:k<p.fl.length
  ·have hkI:(k:Int)<p.fl.length:=by omega
   have n1:=HNR.out.cellM hkl (Nat.le_refl _)
   have n2:=HNR.out.cellA hkl hkl
   rw [HCY.out] at n2
   cases hcy:cyc p.graph k
   ·have HX:=Zhd (show ∀ j,j<k+1→cyc p.graph j=false from fun j hj=>by
     by_cases h:j<k
     ·exact HNO.out j h
     obtain rfl:j=k:=by omega
     exact hcy)
    rw [hcy] at n2
    clear hcy
    go_wp2_with fail
    go_roundw
    case rel=>exact⟨k+1,by go_num,by omega,HB.out,HX.out⟩
    simp [intOf];omega
   have HX:=Zhd (show Zbf p = .error (6,(k:Int)) from by
    rw [HOM.out]
    have:(List.range p.graph.length).find? (cyc p.graph)=some k:=by
     rw [List.find?_range_eq_some]
     exact⟨hcy,List.mem_range.2 (by rw [HGL.out];exact hkl),fun j hj=>by simp [HNO.out j hj]⟩
    rw [this])
   rw [hcy] at n2
   have hR2:=(HB.out.block (w.heap.size+1) (by omega)).trans HR3.out
   obtain⟨q0,q1,f0,f1,hlw⟩:=Zd2 hR2
   obtain⟨e0,e1,e2,e3⟩:=Zhc hR2 (.int .i64 6) (.int .i64 k)
   have E0:=Zhd e0
   have E1:=Zhd e1
   clear hcy e0 e1 e2 e3 hR2
   go_wp2_with fail
   have e0:=E0.out
   have e1:=E1.out
   refine bodyPost_ret (v := .tuple #[.slice none 0 0,.agg #[.int .i64 6,.int .i64 k]]) (by simp [results,Tryz.results62,go_sem,e0,e1]) rfl ?_
   refine⟨Zdo HBR.out (by omega) _ _,_,_,rfl,?_⟩
   unfold OrdRef
   rw [HX.out]
   exact⟨rfl,rfl⟩
  obtain rfl:k=p.fl.length:=by omega
  have hmk:=run_make_row' (P:=Tryz.prog) 60 4 (.bool false) 1 Tryz.underlying60 Tryz.infoBool rfl .i64 .i64 p.fl.length (by omega) (by omega)
  have HOK:=Zhd (show Zbf p = .ok (Zcv p.graph p.graph.length []) from by
   rw [HOM.out]
   have:(List.range p.graph.length).find? (cyc p.graph)=none:=by
    rw [List.find?_eq_none]
    intro x hx
    have:=HNO.out x (by have:=List.mem_range.1 hx;rw [HGL.out] at this;exact this)
    simp [this]
   rw [this])
  have HPICK:=Zhd (sort_pick (Zgb p) (fun j hj=>HNO.out j (by rw [HGL.out] at hj;exact hj)))
  go_wp2_with fail
  have hS0:SortR w2 (wr.alloc (.cells (madeCells #[.bool false] p.fl.length) 4)) p.fl.length wr.heap.size 0 (.slice none 0 0) (Zcv p.graph 0 []):=by
   refine⟨HB.out.alloc HB.out.size _,by simp,World.ownsRow_nil _ _ _ _,?_,rfl⟩
   rw [heap_alloc_new,made_bools]
   congr 2
  have hDge:=HB.out.size
  generalize wr.alloc (.cells (madeCells #[.bool false] p.fl.length) 4)=W2 at *
  generalize wr.heap.size=D at *
  have HS0:=Zhd hS0
  clear hS0 hmk HNO HOM HB m2 HNR HBR hzr
  go_loopg [9,10,11,12] (p.fl.length) (fun f u9 u10 u11 u12 wx=>∃ j,j+f=p.fl.length∧SortR w2 wx p.fl.length D j u9 (Zcv p.graph j []))
  case atStart=>exact⟨0,by omega,HS0.out⟩
  obtain⟨j,hleft,hS⟩:=hrel
  have HS:=Zhd hS
  obtain⟨ra,rc,rfl,hrc,hjc⟩:=Zas hS.row
  have hsz0:=hS.size
  have hb:=hS.below
  have m2:wr.cell? ⟨w.heap.size,2,none⟩=some (.slice al p.fl.length cl):=by have h:=(hb.block w.heap.size (by omega)).trans HP3.out;simp [World.cell?,h]
  have HNR:=Zhd (HN.out.after hb (by omega))
  clear hS hb
  by_cases hjn:j<p.fl.length
  ·have hjI:(j:Int)<p.fl.length:=by omega
   have hpk:=HPICK.out j (by rw [HGL.out];exact hjn)
   have HSUC:=Zhd (Zf0 p.graph j [])
   generalize hout:Zcv p.graph j []=out at *
   have HFREE:=Zhd (pick_free hpk)
   have HFST:=Zhd (fun k (h:k<pick p.graph out)=>pick_first h (show k<p.graph.length by omega))
   rw [HGL.out] at hpk
   have hgp:1≤gk:=by omega
   clear hout
   generalize pick p.graph out=pk at *
   go_wp2_with fail
   go_loop [9,10,11,12] (fun o i u11 u12=>o = .slice ra j rc∧∃ k:Nat,i = .int .i64 k∧k≤pk) (fun o i u11 u12=>pk - (intOf i).toNat)
   case atStart=>exact⟨rfl,0,rfl,Nat.zero_le _⟩
   obtain⟨rfl,i,rfl,hip⟩:=hrel
   have hin:i<p.fl.length:=by omega
   have hiI:(i:Int)<p.fl.length:=by omega
   have hD:=HS.out.blk
   have hdc:wr.cell? ⟨D,i,none⟩=some (.bool (out.contains i)):=by simp only [World.cell?,hD];exact Zdb _ _ _ hin
   have hfd:wr.frozen? ⟨D,i,none⟩=false:=by simp [World.frozen?,hD]
   have HFA:=Zhd (frB_all HCK.out out i)
   have hf0:=(frB_zero p out i).symm
   have HD:=Zhd hD
   obtain⟨oi,hoi⟩:∃ b,b=out.contains i:=⟨_,rfl⟩
   rw [← hoi] at hdc hf0
   have HOI:=Zhd hoi
   clear hD hoi
   go_wp2_with fail
   go_loop [11,12] (fun f x=>∃ k:Nat,f = .bool (frB p out i k)∧x = .int .i64 k∧k≤p.fl.length) (fun f x=>p.fl.length - (intOf x).toNat)
   case atStart=>exact⟨0,by rw [← hf0],rfl,Nat.zero_le _⟩
   obtain⟨k,rfl,rfl,hk⟩:=hrel
   by_cases hkl:k<p.fl.length
   ·have hkI:(k:Int)<p.fl.length:=by omega
    have n1:=HNR.out.cellO hin (Nat.le_refl _)
    have n2:=HNR.out.cellB hin hkl
    have n3:wr.cell? ⟨D,k,none⟩=some (.bool (out.contains k)):=by simp only [World.cell?,HD.out];exact Zdb _ _ _ hkl
    have HSF:=Zhd (frB_succ p out i k)
    generalize frB p out i k=fk at *
    generalize Zcs p i k=ok at *
    generalize out.contains k=dk at *
    rcases (show fk=false∨(fk=true∧ok=false)∨(fk=true∧ok=true) from by cases fk<;>cases ok<;>simp) with rfl | ⟨rfl,rfl⟩ | ⟨rfl,rfl⟩
    all_goals
     go_wp2_with fail
     go_round
     case rel=>exact⟨k+1,by rw [HSF.out];simp,by go_num,by omega⟩
     simp [intOf];omega
   obtain rfl:k=p.fl.length:=by omega
   rw [HFA.out]
   by_cases hik:i=pk
   ·subst hik
    have hrowne:=Zbi HS.out.row (b:=D) (by omega)
    have HS2:=Zhd (Zaa wr D i (.bool true) _ _ _ HD.out)
    have HO2:=Zhd (Zal HS.out.row (a:=⟨D,i,none⟩) hrowne (.bool true))
    have hz2:(wr.setCell ⟨D,i,none⟩ (.bool true)).heap.size=wr.heap.size:=by simp [World.setCell]
    have HBW:=Zhd (HS.out.below.setCell (p:=⟨D,i,none⟩) hDge (.bool true))
    have FIN:=Zhd (show ∀ v' w3,w3.ownsRow (D+1) 3 1 v' (j+1) (out.map natV++[.int .i64 i])→((wr.setCell ⟨D,i,none⟩ (.bool true)).alloc (.cells #[.int .i64 i] 3)).grownBy w3 (Value.slice ra j rc).ownBlock→SortR w2 w3 p.fl.length D (j+1) v' (Zcv p.graph (j+1) []) from fun v' w3 ho hg3=>by
     have hs3:=hg3.size
     simp only [World.size_alloc,hz2] at hs3
     have hnD:some D≠(Value.slice ra j rc).ownBlock:=Ne.symm hrowne
     rw [HSUC.out]
     refine⟨(HBW.out.alloc (by rw [hz2];omega) _).grown hg3 (by simp;omega) (fun q hq=>by have:=(HS.out.row.lt q hq).1;omega),by omega,by rw [List.map_append];exact ho,?_,by rw [List.length_append,HS.out.len];rfl⟩
     rw [hg3.block D (by simp;omega) hnD,Below.heap_alloc _ _ _ (by rw [hz2];omega),HS2.out,Zjg]
     congr 2
     refine Zcu fun x hx=>?_
     by_cases hxi:x=i
     ·subst hxi;simp
     simp [hxi])
    have h1:=HFREE.out
    rw [h1]
    go_wp2_with (at_builtin;refine app1 111 3 1 8 _ Tryz.underlying111 Tryz.infoInt rfl (by decide) _ _ rfl rfl (D+1) _ _ _ rfl (HO2.out.alloc _) ⟨wr.heap.size,0,none⟩ 1 [.int .i64 i] rfl rfl ?c1 ?c2 ?c3 ?c4 ?c5 ?_)
    case c2=>simp [Value.oneCell']
    case c3=>omega
    case c4=>omega
    case c5=>first | omega | (simp;omega)
    intro v' w3 ho hg3
    have hS3:=FIN.out v' w3 ho hg3
    go_wp2_with fail
    go_roundg (gk - 1)
    case rel=>exact⟨j+1,by omega,hS3⟩
    omega
   have h1:=HFST.out i (by omega)
   rw [h1]
   go_wp2_with fail
   go_round
   case rel=>exact⟨rfl,i+1,by go_num,by omega⟩
   simp [intOf];omega
  obtain rfl:j=p.fl.length:=by omega
  have HV:=Zhd (ints_of_row (R:=w.heap.size+1) (l:=Zcv p.graph p.fl.length []) (by rw [HS.out.len];exact HS.out.row) (Zbi HS.out.row (by omega)))
  go_wp2_with fail
  refine (fine_any _).mono ?_
  rintro r w3 ⟨rfl,hb3⟩
  have HBR:=Zhd (HB2.out.trans (HS.out.below.mono (by omega)))
  have hR3:=(hb3.block (w.heap.size+1) (by omega)).trans ((HS.out.below.block (w.heap.size+1) (by omega)).trans HR3.out)
  obtain⟨q0,q1,f0,f1,hlw⟩:=Zd2 hR3
  obtain⟨e0,e1,e2,e3⟩:=Zhc hR3 (.int .i64 0) (.int .i64 (-1))
  have E0:=Zhd e0
  have E1:=Zhd e1
  have hfin:=HBR.out.trans (hb3.mono (by have:=HBR.out.size;omega))
  have HLE:=Zhd (show (Zb6 (w.heap.size+1) wr).le (Zb6 (w.heap.size+1) w3) from fun x o e=>by
   unfold Zb6 at e ⊢
   split at e
   ·cases e
   rename_i hne
   rw [if_neg hne,hb3.block x (Zlt e)]
   exact e)
  clear e0 e1 e2 e3 hR3 hb3
  go_wp2_with fail
  have e0:=E0.out
  have e1:=E1.out
  refine bodyPost_ret (v := .tuple #[.slice ra p.fl.length rc,.agg #[.int .i64 0,.int .i64 (-1)]]) (by simp [results,Tryz.results62,go_sem,e0,e1]) rfl ?_
  refine⟨Zdo hfin (by omega) _ _,_,_,rfl,?_⟩
  unfold OrdRef
  rw [HOK.out,HGL.out]
  exact⟨Zcc.le (but_set2 _ _ _ _) (Zcc.le HLE.out HV.out),rfl⟩
def Zbh (p:Pr) (A:List Int):ByteArray→Int:=fun s=>match fIdx p s with | some k=>A.getD k 0 | none=>0
theorem Zhq (p:Pr) (A:List Int) (hl:∀ x∈A,0≤x∧x≤2) (s:ByteArray):0≤Zbh p A s∧Zbh p A s≤2:=by
 unfold Zbh
 split
 ·exact Zi4 A _ hl
 omega
theorem latesOf_len (f:ByteArray→Int):∀ l:List Ex,(Za8 f l).length=l.length
 | []=>rfl
 | e :: l=>by simp [Za8,latesOf_len f l]
theorem Zh3 (p:Pr) (vi vo vl va vc:Value) (A:List Int) (hA:A.length=p.fl.length) (hl:∀ x∈A,0≤x∧x≤2) (hlp:p.fl.length≤1000000) (ks:Env Int):∀ (e:Ex),Zaf ks e=true→e.parts≤1000000000000→∀ (H:Kn) (v vA:Value),ExV H e v→PrP H p vi vo vl va vc→Zeo H A vA→∀ w,H.In w→
  Calls Tryz.prog 64 #[.agg #[vi,vo,vl,va,vc],v,vA] w fun r w'=>r = .returned (.int .i64 (lateOf (Zbh p A) e))∧Below w.heap.size w w':=by
 refine Ex.ind fun o n s l ih hf hpe H v vA hv hp hvA w hH=>?_
 have HP:=Zhd hp
 obtain⟨h1,h2,h3,h4,h5⟩:=hp
 obtain⟨ai,ci,rfl⟩:=h1.len
 obtain⟨ao,co,rfl⟩:=h2.len
 obtain⟨al,cl,rfl⟩:=h3.len
 obtain⟨aa,ca,rfl⟩:=h4.len
 obtain⟨ac,cc,rfl⟩:=h5.len
 clear h1 h2 h3 h4 h5
 obtain⟨u,rfl,hu⟩:=hv
 simp only [Ex.op,Ex.n,Ex.s,Ex.l] at hu ⊢
 obtain⟨a,c,rfl⟩:=hu.len
 obtain⟨aA,cA,rfl⟩:=hvA.len
 rw [hA] at hvA ⊢
 have HA:=Zhd hA
 clear hA
 obtain⟨hfl,hfby,harr,hpr,_⟩:=Zax hf
 have HU:=Zhd hu
 have HVA:=Zhd hvA
 have IH:=Zhd ih
 have HFL:=Zhd hfl
 simp only [Ex.parts] at hpe
 have hll:=Zbr l
 have HBD:=Zhd (Zda (Zbh p A) (Zhq p A hl))
 clear hu ih hvA hfl hf
 have hPB:((w.alloc (.cells #[.slice ai p.ins.length ci,.slice ao p.outs.length co,.slice al p.fl.length cl,.slice aa p.as.length ca,.slice ac p.cs.length cc] 27)).alloc (.cells #[.string o,.int .i64 n,.string s,.slice a l.length c] 79)).heap[w.heap.size]?=some (.cells #[.slice ai p.ins.length ci,.slice ao p.outs.length co,.slice al p.fl.length cl,.slice aa p.as.length ca,.slice ac p.cs.length cc] 27 (0,0)):=by
  rw [Below.heap_alloc _ _ _ (by simp)];exact heap_alloc_new _ _
 have hEB:((w.alloc (.cells #[.slice ai p.ins.length ci,.slice ao p.outs.length co,.slice al p.fl.length cl,.slice aa p.as.length ca,.slice ac p.cs.length cc] 27)).alloc (.cells #[.string o,.int .i64 n,.string s,.slice a l.length c] 79)).heap[w.heap.size+1]?=some (.cells #[.string o,.int .i64 n,.string s,.slice a l.length c] 79 (0,0)):=by
  rw [show w.heap.size+1=(w.alloc (.cells #[.slice ai p.ins.length ci,.slice ao p.outs.length co,.slice al p.fl.length cl,.slice aa p.as.length ca,.slice ac p.cs.length cc] 27)).heap.size from by simp];exact heap_alloc_new _ _
 have hb0:Below w.heap.size w ((w.alloc (.cells #[.slice ai p.ins.length ci,.slice ao p.outs.length co,.slice al p.fl.length cl,.slice aa p.as.length ca,.slice ac p.cs.length cc] 27)).alloc (.cells #[.string o,.int .i64 n,.string s,.slice a l.length c] 79)):=((Below.refl _ _).alloc (Nat.le_refl _) _).alloc (by simp) _
 have hzW:((w.alloc (.cells #[.slice ai p.ins.length ci,.slice ao p.outs.length co,.slice al p.fl.length cl,.slice aa p.as.length ca,.slice ac p.cs.length cc] 27)).alloc (.cells #[.string o,.int .i64 n,.string s,.slice a l.length c] 79)).heap.size=w.heap.size+2:=by simp
 go_enter Tryz.func64,Tryz.ntmps64
 go_wp2_with fail
 generalize hW:(w.alloc (.cells #[.slice ai p.ins.length ci,.slice ao p.outs.length co,.slice al p.fl.length cl,.slice aa p.as.length ca,.slice ac p.cs.length cc] 27)).alloc (.cells #[.string o,.int .i64 n,.string s,.slice a l.length c] 79)=W at *
 obtain⟨K,hKe⟩:∃ K,K=(H.add w.heap.size (.cells #[.slice ai p.ins.length ci,.slice ao p.outs.length co,.slice al p.fl.length cl,.slice aa p.as.length ca,.slice ac p.cs.length cc] 27 (0,0))).add (w.heap.size+1) (.cells #[.string o,.int .i64 n,.string s,.slice a l.length c] 79 (0,0)):=⟨_,rfl⟩
 have hKle:H.le K:=by rw [hKe];exact Kn.le_trans (Kn.le_add (hH.isNone (Nat.le_refl _))) (Kn.le_add (by rw [Kn.add_other _ _ (by omega)];exact hH.isNone (by omega)))
 have hKin:K.In W:=by rw [hKe];exact ((hH.below hb0).add hPB).add hEB
 have hcP:∀ i,K.cell w.heap.size i=(#[.slice ai p.ins.length ci,.slice ao p.outs.length co,.slice al p.fl.length cl,.slice aa p.as.length ca,.slice ac p.cs.length cc]:Array Value)[i]?:=fun i=>by unfold Kn.cell;rw [hKe,Kn.add_other _ _ (by omega),Kn.add_self]
 have hcE:∀ i,K.cell (w.heap.size+1) i=(#[.string o,.int .i64 n,.string s,.slice a l.length c]:Array Value)[i]?:=fun i=>by unfold Kn.cell;rw [hKe,Kn.add_self]
 have k0:K.cell w.heap.size 0=some (.slice ai p.ins.length ci):=hcP 0
 have k1:K.cell w.heap.size 1=some (.slice ao p.outs.length co):=hcP 1
 have k2:K.cell w.heap.size 2=some (.slice al p.fl.length cl):=hcP 2
 have k3:K.cell w.heap.size 3=some (.slice aa p.as.length ca):=hcP 3
 have k4:K.cell w.heap.size 4=some (.slice ac p.cs.length cc):=hcP 4
 have j0:K.cell (w.heap.size+1) 0=some (.string o):=hcE 0
 have j2:K.cell (w.heap.size+1) 2=some (.string s):=hcE 2
 have j3:K.cell (w.heap.size+1) 3=some (.slice a l.length c):=hcE 3
 have HPK:=Zhd (HP.out.le hKle)
 have HVK:=Zhd (show Zeo K A (.slice aA p.fl.length cA) from SlV.le HVA.out hKle (fun x f g h e=>h 0 _ e))
 have HEX:=Zhd (show ExsV K l (.slice a l.length c) from HU.out.le hKle)
 have HKW:=Zhd hKin
 have HB0:=Zhd hb0
 clear hcP hcE hKe hPB hEB hb0 hH HU HP HVA hKin
 go_loopw [7,8,9,10] (fun u7 u8 i u10 wr=>∃ k:Nat,i = .int .i64 k∧k≤l.length∧u8 = .int .i64 ((Za8 (Zbh p A) (l.take k)).foldl max 0)∧Below W.heap.size W wr∧wr.ownsRow (w.heap.size+2) 3 1 u7 k ((Za8 (Zbh p A) (l.take k)).map (Value.int .i64))) (fun _ _ i _ _=>l.length - (intOf i).toNat)
 case atStart=>exact⟨0,rfl,Nat.zero_le _,rfl,Below.refl _ _,World.ownsRow_nil _ _ _ _⟩
 obtain⟨k,rfl,hk,rfl,hb,hown⟩:=hrel
 have HB:=Zhd hb
 have HO:=Zhd hown
 obtain⟨ra,rc,rfl,hrc,hkc⟩:=Zas hown
 have hKr:=HKW.out.below hb
 have hzr:=hb.size
 clear hb hown
 have m0:=hKr.cell k0
 have m1:=hKr.cell k1
 have m2:=hKr.cell k2
 have m3:=hKr.cell k3
 have m4:=hKr.cell k4
 have i0:=hKr.cell j0
 have i2:=hKr.cell j2
 have i3:=hKr.cell j3
 by_cases hkl:k<l.length
 ·obtain⟨b,off,ax,cx,rfl,c0,c1,c2,c3,hx⟩:=HEX.out.at hkl
  have hpx:l[k].parts≤1000000000000:=by have:=Zau l k hkl;omega
  have hmem:=List.getElem_mem hkl
  have hfx:=HFL.out _ hmem
  have HLT:=Zhd (Zf9 (Zbh p A) l k hkl)
  have hS2:K.In wr.drew:=hKr
  have hbx:=HBD.out l[k]
  have hfb:=Zid (Za8 (Zbh p A) (l.take k)) 0 (by omega) (by omega) (fun x hx=>by
   obtain⟨e,_,rfl⟩:=Zfl _ _ _ hx
   exact HBD.out e)
  have HLM:=Zhd (show (Za8 (Zbh p A) (l.take (k+1))).foldl max 0=max ((Za8 (Zbh p A) (l.take k)).foldl max 0) (lateOf (Zbh p A) l[k]) from by rw [HLT.out,List.foldl_append];rfl)
  generalize l[k]=x at *
  have HCL:=Zhd (fun (wz:World) (hz:K.In wz)=>IH.out x hmem hfx hpx K _ _ hx HPK.out HVK.out wz hz)
  clear hfx hpx hx
  go_wp2_with fail
  refine Zae (fun w'=>K.In w') (fun _=>True) 99 (by kernel_rfl) ?_
  refine Go.w3 0 ?_
  iterate 7 ((first | (refine tk3 (v:=?_) rfl hS2 Ztr ?hy ?_;(case hy=>intro w hSw;obtain⟨z0,z1,z2,z3,z4,z5,z6,z7,z8,z9⟩:=hSw.c10 k0 k1 k2 k3 k4 j3 c0 c1 c2 c3;go_simp<;>with_reducible rfl)) | refine sk3 rfl hS2 Ztr ?_ | refine no3 ?_);refine Zss ?_)
  refine Go.w3e ?_
  refine Zwo 7 rfl fun K_ hK=>?_
  go_simp
  go_at_call 64
  refine (HCL.out _ hS2).mono ?_
  rintro r w2 ⟨rfl,hb2⟩
  have hS3:K.In w2:=hS2.below hb2
  refine hK.out _ _ (hS3) Ztr ?_
  clear hK K_
  try simp only [tkS]
  refine tk2 (i:=8) (v:=?_) rfl hS3 Ztr ?hy ?_
  case hy=>intro w hSw;obtain⟨z0,z1,z2,z3,z4,z5,z6,z7,z8,z9⟩:=hSw.c10 k0 k1 k2 k3 k4 j3 c0 c1 c2 c3;go_simp<;>with_reducible rfl
  try simp only [tkS]
  refine Zwd ?_
  have HB2:=Zhd (HB.out.trans ((show Below wr.heap.size wr w2 from (Below.refl _ _).drew.trans hb2).mono hzr))
  have HO2:=Zhd (Za6 HO.out (show Below wr.heap.size wr w2 from (Below.refl _ _).drew.trans hb2))
  have hz2:=HB2.out.size
  clear hb2 hS3 hS2 m0 m1 m2 m3 m4 i0 i2 i3
  have hm1:max ((Za8 (Zbh p A) (l.take k)).foldl max 0) (lateOf (Zbh p A) x)=if (Za8 (Zbh p A) (l.take k)).foldl max 0<lateOf (Zbh p A) x then lateOf (Zbh p A) x else (Za8 (Zbh p A) (l.take k)).foldl max 0:=by split<;>omega
  rw [hm1] at HLM
  clear hm1
  generalize (Za8 (Zbh p A) (l.take k)).foldl max 0=acc at *
  generalize lateOf (Zbh p A) x=q at *
  go_wp2_with (at_builtin;refine app1 111 3 1 8 _ Tryz.underlying111 Tryz.infoInt rfl (by decide) _ _ rfl rfl (w.heap.size+2) _ _ _ rfl (HO2.out.alloc _) ⟨w2.heap.size,0,none⟩ 1 [.int .i64 q] rfl rfl ?c1 ?c2 ?c3 ?c4 ?c5 ?_)
  case c1=>exact cells1 _ _ _
  case c2=>simp [Value.oneCell']
  case c3=>omega
  case c4=>omega
  case c5=>first | omega | (simp;omega)
  intro v' w3 ho hg3
  have HO3:=Zhd (show w3.ownsRow (w.heap.size+2) 3 1 v' (k+1) ((Za8 (Zbh p A) (l.take (k+1))).map (Value.int .i64)) from by rw [HLT.out,List.map_append];exact ho)
  have HB3:=Zhd ((HB2.out.alloc hz2 _).grown hg3 (by simp;omega) (fun q hq=>by have:=(HO2.out.lt q hq).1;omega))
  clear ho hg3
  by_cases hgt:acc<q
  ·rw [if_pos hgt] at HLM
   go_wp2_with fail
   go_roundw
   case rel=>exact⟨k+1,by go_num,by omega,by rw [HLM.out],HB3.out,HO3.out⟩
   simp [intOf];omega
  rw [if_neg hgt] at HLM
  go_wp2_with fail
  go_roundw
  case rel=>exact⟨k+1,by go_num,by omega,by rw [HLM.out],HB3.out,HO3.out⟩
  simp [intOf];omega
 obtain rfl:k=l.length:=by omega
 rw [List.take_length] at HO ⊢
 have HBW:=Zhd (HB0.out.trans (HB.out.mono (by omega)))
 have hcell:∀ i,i<l.length→∃ g,ra=some ⟨g,0,none⟩∧wr.cell? ⟨g,i,none⟩=some (.int .i64 ((Za8 (Zbh p A) l).getD i 0)):=fun i hi=>by
  obtain⟨g,cap,he,_,_,_,_,hc⟩:=Zbz HO.out (by omega)
  cases he
  refine⟨g,rfl,?_⟩
  refine hc i _ ?_
  have:=Zb5 (Zbh p A) l i hi
  rw [this]
  rw [List.getElem?_map]
  rw [List.getD_eq_getElem?_getD] at this
  cases hq:(Za8 (Zbh p A) l)[i]? with
  | some q=>rw [hq] at this;simp at this;simp [this]
  | none=>
   have hlen:(Za8 (Zbh p A) l).length=l.length:=latesOf_len _ _
   rw [List.getElem?_eq_none_iff] at hq
   omega
 have HCE:=Zhd hcell
 clear hcell
 by_cases hname:o=Zb2
 ·have HX:=Zhd (show lateOf (Zbh p A) (.mk o n s l)=Zbh p A s from by simp only [lateOf];rw [if_pos hname])
  have t1:(o.toList==[110,97,109,101])=true:=by rw [← dLit];simpa using hname
  have hcs:(fInt p s = -1∧Zbh p A s=0)∨∃ kk:Nat,kk<p.fl.length∧fInt p s=(kk:Int)∧Zbh p A s=A.getD kk 0:=by
   rcases fInt_cases p s with ⟨h1,h2⟩ | ⟨kk,h0,h1,h2⟩
   ·exact .inl ⟨h2,by simp [Zbh,h1]⟩
   exact .inr ⟨kk,h0,h2,by simp [Zbh,h1]⟩
  clear hname hfby harr hpr
  go_wp2_with fail
  refine (Zg0 K p _ _ _ _ _ HPK.out (by omega) s wr hKr).mono ?_
  rintro r w2 ⟨rfl,hb2⟩
  have hKr2:=hKr.below hb2
  have HBW2:=Zhd (HBW.out.trans (hb2.mono (by have:=HBW.out.size;omega)))
  clear hb2
  rcases hcs with ⟨e1,e2⟩ | ⟨kk,hkk,e1,e2⟩
  ·rw [e1]
   have HY:=Zhd e2
   clear e1 e2
   go_wp2_with fail
   go_ret
   exact⟨Zah (by rw [HX.out,HY.out]),HBW2.out⟩
  rw [e1]
  have hkA:kk<A.length:=by rw [HA.out];exact hkk
  obtain⟨bA,oA,hbA,_,a0⟩:=SlV.at HVK.out hkA
  cases hbA
  have a0:K.cell bA (oA+kk * 1+0)=some (.int .i64 A[kk]):=a0
  simp only [Nat.mul_one,Nat.add_zero] at a0
  have a0:=hKr2.cell a0
  have HY:=Zhd (show Zbh p A s=A[kk] from by rw [e2,List.getD_eq_getElem?_getD,List.getElem?_eq_getElem hkA];rfl)
  have hkI:(kk:Int)<p.fl.length:=by omega
  generalize A[kk]=q at *
  clear e1 e2
  go_wp2_with fail
  go_ret
  exact⟨Zah (by rw [HX.out,HY.out]),HBW2.out⟩
 have t1:(o.toList==[110,97,109,101])=false:=Zat _ hname
 by_cases hpre:o=oPre
 ·have t2:(o.toList==[112,114,101])=true:=by rw [← dLit];simpa using hpre
  have h1:=hpr hpre
  obtain⟨g,rfl,n0⟩:=HCE.out 0 (by omega)
  have hb1:=HBD.out l[0]
  rw [Zb5 _ l 0 (by omega)] at n0
  have HX:=Zhd (show lateOf (Zbh p A) (.mk o n s l)=min (2:Int) (lateOf (Zbh p A) l[0]+1) from by simp only [lateOf];rw [if_neg hname,if_pos hpre,Zb5 _ l 0 (by omega)])
  generalize lateOf (Zbh p A) l[0]=q at *
  have hgt:(0:Int)<l.length:=by omega
  rcases (show q=2∨q≠2 from by omega) with rfl | hq
  ·go_wp2_with fail
   go_ret
   exact⟨Zah (by rw [HX.out];rfl),HBW.out⟩
  have hqq:(q==2)=false:=by simpa using hq
  go_wp2_with fail
  go_ret
  exact⟨Zah (by rw [HX.out];omega),HBW.out⟩
 have t2:(o.toList==[112,114,101])=false:=Zat _ hpre
 by_cases hab:o=Zbm∨o=oFby
 ·have h2:l.length=2:=by rcases hab with h | h;exact harr h;exact hfby h
  obtain⟨g,rfl,n0⟩:=HCE.out 0 (by omega)
  obtain⟨g',hg',n1⟩:=HCE.out 1 (by omega)
  cases hg'
  have hb0:=HBD.out l[0]
  have hb1:=HBD.out l[1]
  rw [Zb5 _ l 0 (by omega)] at n0
  rw [Zb5 _ l 1 (by omega)] at n1
  have HX:=Zhd (show lateOf (Zbh p A) (.mk o n s l)=(if (if o=oFby then min (2:Int) (lateOf (Zbh p A) l[1]+1) else lateOf (Zbh p A) l[1])=2 then 2 else lateOf (Zbh p A) l[0]) from by
   simp only [lateOf];rw [if_neg hname,if_neg hpre,if_pos hab,Zb5 _ l 0 (by omega),Zb5 _ l 1 (by omega)])
  have hway:((o.toList==[45,62])=true∧(o.toList==[102,98,121])=false∧o≠oFby)∨((o.toList==[45,62])=false∧(o.toList==[102,98,121])=true∧o=oFby):=by
   rcases hab with h | h
   ·left;subst h;exact⟨by rw [← dLit];decide,by rw [← dLit];decide,by decide⟩
   right;subst h;exact⟨by rw [← dLit];decide,by rw [← dLit];decide,rfl⟩
  generalize lateOf (Zbh p A) l[0]=q0 at *
  generalize lateOf (Zbh p A) l[1]=q1 at *
  have hgt:(0:Int)<l.length:=by omega
  have hgt1:(1:Int)<l.length:=by omega
  clear hname hpre hab hfby harr hpr
  rcases hway with ⟨t3,t4,hof⟩ | ⟨t3,t4,hof⟩
  all_goals
   have HOF:=Zhd hof
   clear hof
   go_wp2_with fail
  all_goals go_ret
  all_goals refine⟨Zah ?_,HBW.out⟩
  all_goals rw [HX.out]
  all_goals (first | rw [if_neg HOF.out] | rw [if_pos HOF.out])
  all_goals (first | omega | (split<;>first | omega | (simp_all;omega) | simp_all))
 have t3:(o.toList==[45,62])=false:=Zat _ (fun h=>hab (.inl h))
 have t4:(o.toList==[102,98,121])=false:=Zat _ (fun h=>hab (.inr h))
 have HX:=Zhd (show lateOf (Zbh p A) (.mk o n s l)=(Za8 (Zbh p A) l).foldl max 0 from by simp only [lateOf];rw [if_neg hname,if_neg hpre,if_neg hab])
 clear hname hpre hab hfby harr hpr
 go_wp2_with fail
 go_ret
 exact⟨Zah HX.out.symm,HBW.out⟩
theorem Zif {p:Pr} (hn:(p.fl.map (·.name)).Nodup) (i:Nat) (hi:i<p.fl.length):fIdx p p.fl[i].name=some i:=by
 unfold fIdx
 rw [List.findIdx?_eq_some_iff_getElem]
 refine⟨hi,by simp,fun j hj=>?_⟩
 have hne:p.fl[j].name≠p.fl[i].name:=fun e=>by
  have:=List.pairwise_iff_getElem.1 hn j i (by simp;omega) (by simpa using hi) hj
  simp at this
  exact this e
 simpa using hne
theorem fIdx_lt {p:Pr} {s:ByteArray} {k:Nat} (h:fIdx p s=some k):∃ hk:k<p.fl.length,p.fl[k].name=s:=by
 unfold fIdx at h
 rw [List.findIdx?_eq_some_iff_getElem] at h
 obtain⟨hk,h1,_⟩:=h
 exact⟨hk,by simpa using h1⟩
theorem fLate_set {p:Pr} (hn:(p.fl.map (·.name)).Nodup) (A:List Int) (hA:A.length=p.fl.length) (i:Nat) (hi:i<p.fl.length) (n:Int):Zbh p (A.set i n)=setL (Zbh p A) p.fl[i].name n:=by
 funext s
 unfold Zbh setL
 by_cases hs:s=p.fl[i].name
 ·subst hs
  rw [if_pos rfl,Zif hn i hi]
  simp [List.getD_eq_getElem?_getD,hA,hi]
 rw [if_neg hs]
 cases hf:fIdx p s with
 | none=>simp [hf]
 | some k=>
  obtain⟨hk,he⟩:=fIdx_lt hf
  have hne:i≠k:=fun e=>by subst e;exact hs he.symm
  simp [hf,List.getD_eq_getElem?_getD,List.getElem?_set,hne]
theorem fLate_get {p:Pr} (hn:(p.fl.map (·.name)).Nodup) (A:List Int) (hA:A.length=p.fl.length) (i:Nat) (hi:i<p.fl.length):Zbh p A p.fl[i].name=A[i]'(by omega):=by
 unfold Zbh
 rw [Zif hn i hi]
 simp [List.getD_eq_getElem?_getD,hA,hi]
theorem fLate_zero (p:Pr) (n:Nat):Zbh p (List.replicate n 0)=fun _=>0:=by
 funext s
 unfold Zbh
 cases fIdx p s with
 | none=>rfl
 | some k=>
  simp only [List.getD_eq_getElem?_getD,List.getElem?_replicate]
  split<;>rfl
def intsA (A:List Int):Array Value:=(A.map (Value.int .i64)).toArray
theorem intsA_get (A:List Int) (i:Nat) (h:i<A.length):(intsA A)[i]?=some (.int .i64 A[i]):=by simp [intsA,h]
theorem intsA_set (A:List Int) (i:Nat) (n:Int):(intsA A).setIfInBounds i (.int .i64 n)=intsA (A.set i n):=by simp [intsA,List.map_set]
theorem made_ints (n:Nat):madeCells #[.int .i64 0] n=intsA (List.replicate n 0):=by
 apply Array.ext_getElem?
 intro j
 by_cases hj:j<n
 ·rw [intsA_get _ j (by simpa using hj)]
  simp [madeCells,hj,Nat.mod_one]
 rw [Array.getElem?_eq_none (by simp [madeCells];omega),Array.getElem?_eq_none (by simp [intsA];omega)]
theorem Zg5 {K:Kn} {D:Nat} {A:List Int} {t:TypeId} (h:K D=some (.cells (intsA A) t (0,0))) (hl:A.length≤maxLen):Zeo K A (.slice (some ⟨D,0,none⟩) A.length A.length):=by
 by_cases h0:A=[]
 ·exact .inl ⟨h0,_,_,by rw [h0];rfl⟩
 refine .inr ⟨D,0,_,rfl,Nat.le_refl _,hl,fun i hi=>?_⟩
 show K.cell D (0+i * 1+0)=some (Value.int .i64 A[i])
 simp only [Nat.zero_add,Nat.mul_one,Nat.add_zero]
 unfold Kn.cell
 rw [h]
 exact intsA_get A i hi
structure LatS (w wr:World) (K:Kn) (D n:Nat) (A:List Int):Prop where
 below:Below w.heap.size w wr
 isin:K.In wr
 blk:wr.heap[D]?=some (.cells (intsA A) 3 (0,0))
 len:A.length=n
 bd:∀ x∈A,0≤x∧x≤2
theorem LatS.next {w wr w':World} {K:Kn} {D n:Nat} {A:List Int} (h:LatS w wr K D n A) (hb:Below wr.heap.size wr w'):LatS w w' K D n A:=
 ⟨h.below.trans (hb.mono h.below.size),h.isin.below hb,(hb.block D (Zlt h.blk)).trans h.blk,h.len,h.bd⟩
theorem LatS.set {w wr:World} {K:Kn} {D n:Nat} {A:List Int} (h:LatS w wr K D n A) (hD:w.heap.size≤D) (hK:K D=none) (i:Nat) (x:Int) (hx:0≤x∧x≤2):LatS w (wr.setCell ⟨D,i,none⟩ (.int .i64 x)) K D n (A.set i x):=
 ⟨h.below.setCell (p:=⟨D,i,none⟩) hD _,h.isin.setCell (a:=⟨D,i,none⟩) hK _,by rw [← intsA_set];exact Zaa _ _ _ _ _ _ _ h.blk,by rw [List.length_set];exact h.len,fun y hy=>by
  rcases List.mem_or_eq_of_mem_set hy with h1 | h1
  ·exact h.bd y h1
  rw [h1];exact hx⟩
theorem Zh4 (H:Kn) (p:Pr) (vi vo vl va vc:Value) (hp:PrP H p vi vo vl va vc) (ks:Env Int) (hfm:∀ f∈p.fl,Zaf ks f.e=true) (hnd:(p.fl.map (·.name)).Nodup) (hn:p.fl.length≤1000000) (hpt:Ex.partsL p.terms≤1000000000) (w:World) (hH:H.In w):
  Calls Tryz.prog 49 #[.agg #[vi,vo,vl,va,vc]] w fun r w'=>∃ A vA,r = .returned vA∧A.length=p.fl.length∧Zbh p A=Zac p∧(∀ x∈A,0≤x∧x≤2)∧Zeo (Zag w') A vA∧Below w.heap.size w w':=by
 have HP:=Zhd hp
 obtain⟨h1,h2,h3,h4,h5⟩:=hp
 obtain⟨ai,ci,rfl⟩:=h1.len
 obtain⟨ao,co,rfl⟩:=h2.len
 obtain⟨al,cl,rfl⟩:=h3.len
 obtain⟨aa,ca,rfl⟩:=h4.len
 obtain⟨ac,cc,rfl⟩:=h5.len
 clear h1 h2 h3 h4 h5
 have hmk:=run_make_row' (P:=Tryz.prog) 111 3 (.int .i64 0) 8 Tryz.underlying111 Tryz.infoInt rfl .i64 .i64 p.fl.length (by omega) (by omega)
 have hb0:Below w.heap.size w (w.alloc (.cells #[.slice ai p.ins.length ci,.slice ao p.outs.length co,.slice al p.fl.length cl,.slice aa p.as.length ca,.slice ac p.cs.length cc] 27)):=(Below.refl _ _).alloc (Nat.le_refl _) _
 obtain⟨K,hKe⟩:∃ K,K=H.add w.heap.size (.cells #[.slice ai p.ins.length ci,.slice ao p.outs.length co,.slice al p.fl.length cl,.slice aa p.as.length ca,.slice ac p.cs.length cc] 27 (0,0)):=⟨_,rfl⟩
 have hKle:H.le K:=by rw [hKe];exact Kn.le_add (hH.isNone (Nat.le_refl _))
 have hKin:K.In (w.alloc (.cells #[.slice ai p.ins.length ci,.slice ao p.outs.length co,.slice al p.fl.length cl,.slice aa p.as.length ca,.slice ac p.cs.length cc] 27)):=by rw [hKe];exact (hH.below hb0).add (heap_alloc_new w _)
 have hKD:K (w.heap.size+1)=none:=by rw [hKe,Kn.add_other _ _ (by omega)];exact hH.isNone (by omega)
 have hcP:∀ i,K.cell w.heap.size i=(#[.slice ai p.ins.length ci,.slice ao p.outs.length co,.slice al p.fl.length cl,.slice aa p.as.length ca,.slice ac p.cs.length cc]:Array Value)[i]?:=fun i=>by unfold Kn.cell;rw [hKe,Kn.add_self]
 have k0:K.cell w.heap.size 0=some (.slice ai p.ins.length ci):=hcP 0
 have k1:K.cell w.heap.size 1=some (.slice ao p.outs.length co):=hcP 1
 have k2:K.cell w.heap.size 2=some (.slice al p.fl.length cl):=hcP 2
 have k3:K.cell w.heap.size 3=some (.slice aa p.as.length ca):=hcP 3
 have k4:K.cell w.heap.size 4=some (.slice ac p.cs.length cc):=hcP 4
 have HPK:=Zhd (HP.out.le hKle)
 have HS0:=Zhd (show LatS w ((w.alloc (.cells #[.slice ai p.ins.length ci,.slice ao p.outs.length co,.slice al p.fl.length cl,.slice aa p.as.length ca,.slice ac p.cs.length cc] 27)).alloc (.cells (madeCells #[.int .i64 0] p.fl.length) 3)) K (w.heap.size+1) p.fl.length (List.replicate p.fl.length 0) from
  ⟨hb0.alloc (by simp) _,hKin.alloc _,by rw [show w.heap.size+1=(w.alloc (.cells #[.slice ai p.ins.length ci,.slice ao p.outs.length co,.slice al p.fl.length cl,.slice aa p.as.length ca,.slice ac p.cs.length cc] 27)).heap.size from by simp,made_ints];exact heap_alloc_new _ _,by simp,fun x hx=>by rw [(List.mem_replicate.1 hx).2];omega⟩)
 have HM0:=Zhd (show Zft p.fl (2 * p.fl.length+1) (Zbh p (List.replicate p.fl.length 0))=Zac p from by rw [fLate_zero];rfl)
 have HMU:=Zhd (show mu (Zbh p (List.replicate p.fl.length 0)) p.fl<2 * p.fl.length+1 from by rw [fLate_zero];have:=mu_zero p.fl;omega)
 have HFM:=Zhd hfm
 have HND:=Zhd hnd
 clear hcP hKe hb0 hKin HP hKle hfm hnd
 go_enter Tryz.func49,Tryz.ntmps49
 go_wp2_with fail
 go_loopg [4,5,6] (2 * p.fl.length+1) (fun f u4 u5 u6 wr=>∃ A b,u4 = .bool b∧LatS w wr K (w.heap.size+1) p.fl.length A∧((b=true∧Zft p.fl f (Zbh p A)=Zac p∧mu (Zbh p A) p.fl<f)∨(b=false∧Zbh p A=Zac p)))
 case atStart=>exact⟨_,true,rfl,HS0.out,.inl ⟨rfl,HM0.out,HMU.out⟩⟩
 obtain⟨A,b,rfl,hS,hway⟩:=hrel
 have HS:=Zhd hS
 have HWAY:=Zhd hway
 clear hS hway
 cases b with
 | true=>
  go_wp2_with fail
  go_loopw [4,5,6] (fun u4 i u6 wr=>∃ (k:Nat) (A':List Int) (b:Bool),i = .int .i64 k∧u4 = .bool b∧k≤p.fl.length∧LatS w wr K (w.heap.size+1) p.fl.length A'∧Zaq p.fl (Zbh p A) false=Zaq (p.fl.drop k) (Zbh p A') b∧(∀ s,Zbh p A s≤Zbh p A' s)∧(b=true→∃ f∈p.fl,Zbh p A f.name<Zbh p A' f.name)) (fun _ i _ _=>p.fl.length - (intOf i).toNat)
  case atStart=>exact⟨0,A,false,rfl,rfl,Nat.zero_le _,HS.out,by simp,fun s=>Int.le_refl _,fun h=>by cases h⟩
  obtain⟨k,A',b,rfl,rfl,hk,hS',hrd,hle,hgain⟩:=hrel
  have HS':=Zhd hS'
  have HRD:=Zhd hrd
  have HLE:=Zhd hle
  have HGAIN:=Zhd hgain
  have m2:=hS'.isin.cell k2
  clear hS' hrd hle hgain
  by_cases hkl:k<p.fl.length
  ·have hkI:(k:Int)<p.fl.length:=by omega
   obtain⟨bb,off,cap0,he,_,_,hcs⟩:=FlsV.cell HPK.out.fl (fun e=>by rw [e] at hkl;simp at hkl)
   cases he
   obtain⟨ax,cx,d0,d1,d2,d3,d4,d5,hx⟩:=hcs k hkl
   have hpx:p.fl[k].e.parts≤1000000000000:=by
    have h1:=Zau (p.fl.map (·.e)) k (by simpa using hkl)
    unfold Pr.terms at hpt
    rw [List.append_assoc,Zd7] at hpt
    simp at h1
    omega
   have hfx:=HFM.out _ (List.getElem_mem hkl)
   have HMEM:=Zhd (List.getElem_mem hkl)
   have HDR:=Zhd (drop_round hkl (Zbh p A') b)
   have HGE:=Zhd (fLate_get HND.out A' HS'.out.len k hkl)
   have HST:=Zhd (fun n=>fLate_set HND.out A' HS'.out.len k hkl n)
   have hlb:=Zda (Zbh p A') (Zhq p A' HS'.out.bd) p.fl[k].e
   have HCL:=Zhd (fun (wz:World) (hz:LatS w wz K (w.heap.size+1) p.fl.length A')=>Zh3 p _ _ _ _ _ A' HS'.out.len HS'.out.bd hn ks p.fl[k].e hfx hpx (K.add (w.heap.size+1) (.cells (intsA A') 3 (0,0))) (.agg #[.string p.fl[k].e.op,.int .i64 p.fl[k].e.n,.string p.fl[k].e.s,.slice ax p.fl[k].e.l.length cx]) (.slice (some ⟨w.heap.size+1,0,none⟩) p.fl.length p.fl.length)
    ⟨_,rfl,hx.le (Kn.le_add hKD)⟩ (HPK.out.le (Kn.le_add hKD)) (HS'.out.len▸Zg5 (Kn.add_self _ _ _) (by rw [HS'.out.len];unfold maxLen;omega)) wz (hz.isin.add hz.blk))
   have hS2:=HS'.out.next ((Below.refl _ wr).drew)
   clear hfx hpx hx hcs d0 d1
   have hkA:k<A'.length:=by rw [HS'.out.len];exact hkl
   generalize hak:A'[k]=ak at *
   have HAK:=Zhd hak
   clear hak
   generalize hxe:p.fl[k]=x at *
   clear hxe
   go_wp2_with fail
   refine Zae (fun w'=>LatS w w' K (w.heap.size+1) p.fl.length A') (fun _=>True) 99 (by kernel_rfl) ?_
   refine Go.w3 0 ?_
   iterate 8 ((first | (refine tk3 (v:=?_) rfl hS2 Ztr ?hy ?_;(case hy=>intro w hSw;have z0:=hSw.isin.cell k0;have z1:=hSw.isin.cell k1;have z2:=hSw.isin.cell k2;have z3:=hSw.isin.cell k3;have z4:=hSw.isin.cell k4;have z5:=hSw.isin.cell d2;have z6:=hSw.isin.cell d3;have z7:=hSw.isin.cell d4;have z8:=hSw.isin.cell d5;go_simp<;>with_reducible rfl)) | refine sk3 rfl hS2 Ztr ?_ | refine no3 ?_);refine Zss ?_)
   refine Go.w3e ?_
   refine Zwo 8 rfl fun K_ hK=>?_
   go_simp
   go_at_call 64
   refine (HCL.out _ hS2).mono ?_
   rintro r w2 ⟨rfl,hb2⟩
   have hS3:=hS2.next hb2
   refine hK.out _ _ (hS3) Ztr ?_
   clear hK K_
   try simp only [tkS]
   refine tk2 (i:=9) (v:=?_) rfl hS3 Ztr ?hy ?_
   case hy=>intro w hSw;have z0:=hSw.isin.cell k0;have z1:=hSw.isin.cell k1;have z2:=hSw.isin.cell k2;have z3:=hSw.isin.cell k3;have z4:=hSw.isin.cell k4;have z5:=hSw.isin.cell d2;have z6:=hSw.isin.cell d3;have z7:=hSw.isin.cell d4;have z8:=hSw.isin.cell d5;go_simp<;>with_reducible rfl
   try simp only [tkS]
   refine Zwd ?_
   have HS3:=Zhd hS3
   have hcD:w2.cell? ⟨w.heap.size+1,k,none⟩=some (.int .i64 ak):=by
    have h:=hS3.blk
    simp only [World.cell?,h]
    rw [← HAK.out]
    exact intsA_get A' k hkA
   have hfD:w2.frozen? ⟨w.heap.size+1,k,none⟩=false:=by have h:=hS3.blk;simp [World.frozen?,h]
   clear hb2 hS3 hS2
   generalize lateOf (Zbh p A') x.e=q at *
   rw [HGE.out] at HDR
   by_cases hlt:ak<q
   ·rw [if_pos hlt,← HST.out] at HDR
    have HN:=Zhd (HS3.out.set (by omega) hKD k q hlb)
    have HLE2:=Zhd (show ∀ s,Zbh p A s≤Zbh p (A'.set k q) s from fun s=>by
     rw [HST.out]
     unfold setL
     split
     ·rename_i he
      have:=HLE.out s
      rw [he,HGE.out] at this
      rw [he]
      omega
     exact HLE.out s)
    have HGN:=Zhd (show Zbh p A x.name<Zbh p (A'.set k q) x.name from by
     rw [HST.out]
     have:=HLE.out x.name
     rw [HGE.out] at this
     simp only [setL,if_true]
     omega)
    go_wp2_with fail
    go_roundw
    case rel=>exact⟨k+1,_,true,by go_num,rfl,by omega,HN.out,by rw [HRD.out,HDR.out],HLE2.out,fun _=>⟨_,HMEM.out,HGN.out⟩⟩
    simp [intOf];omega
   rw [if_neg hlt] at HDR
   go_wp2_with fail
   go_roundw
   case rel=>exact⟨k+1,A',b,by go_num,rfl,by omega,HS3.out,by rw [HRD.out,HDR.out],HLE.out,HGAIN.out⟩
   simp [intOf];omega
  obtain rfl:k=p.fl.length:=by omega
  have HR:=Zhd (show Zaq p.fl (Zbh p A) false=(Zbh p A',b) from by rw [HRD.out,List.drop_length];rfl)
  go_wp2_with fail
  go_roundg (gk - 1)
  case rel=>
   rcases HWAY.out with ⟨_,hstep,hm⟩ | ⟨h,_⟩
   ·obtain⟨g',rfl⟩:∃ g',gk=g'+1:=⟨gk - 1,by omega⟩
    rw [Zhj,HR.out] at hstep
    cases b with
    | true=>
     obtain⟨f,hf,hgt⟩:=HGAIN.out rfl
     have:=mu_lt (Zbh p A) (Zbh p A') HLE.out (fun s=>(Zhq p A' HS'.out.bd s).2) p.fl f hf hgt
     exact⟨A',true,rfl,HS'.out,.inl ⟨rfl,hstep,by omega⟩⟩
    | false=>exact⟨A',false,rfl,HS'.out,.inr ⟨rfl,hstep⟩⟩
   cases h
  rcases HWAY.out with ⟨_,_,hm⟩ | ⟨h,_⟩
  ·omega
  cases h
 | false=>
  go_wp2_with fail
  go_ret
  rcases HWAY.out with ⟨h,_⟩ | ⟨_,h⟩
  ·cases h
  exact⟨A,_,rfl,HS.out.len,h,HS.out.bd,HS.out.len▸Zg5 (K:=Zag wr) HS.out.blk (by rw [HS.out.len];unfold maxLen;omega),HS.out.below⟩
end Go.Proofs.YtgoccoldkfpbgaaGreatDoor
