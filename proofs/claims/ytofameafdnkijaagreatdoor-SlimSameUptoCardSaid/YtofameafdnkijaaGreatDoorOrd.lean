/- Walks: order.Order. -/
import Derived.Test.YtofameafdnkijaaGreatDoorRg
import Derived.Test.YtofameafdnkijaaGreatDoorGraph
import Derived.Test.YtofameafdnkijaaGreatDoorRh
import Derived.Test.YtofameafdnkijaaGreatDoorLateA
import Derived.Test.YtofameafdnkijaaGreatDoorFormA
import Derived.Test.YtofameafdnkijaaGreatDoorMx
set_option linter.all false
namespace Go.Proofs.YtofameafdnkijaaGreatDoor
set_option maxRecDepth 100000
set_option maxHeartbeats 16000000
open Go.RowKit Mx
def ErrW (sp:Nat→Addr) (w:World) (c:Nat) (a:Int) (v:Value):Prop:=
 (a = -1∧v=errV sp c)∨(a ≠ -1∧∃ N,v = .iface 80 (.pointer (some ⟨N,0,none⟩))∧w.heap[N]?=some (.cells #[.int .i64 a,esv (sp (c - 1))] 82 (0,0)))
theorem ErrW.below {sp:Nat→Addr} {w w':World} {c:Nat} {a:Int} {v:Value} (h:ErrW sp w c a v) (hb:Below w.heap.size w w'):ErrW sp w' c a v:=
 h.imp id fun⟨h1,N,h2,h3⟩=>⟨h1,N,h2,by rw [hb.block N (Zlt h3)];exact h3⟩
def Zhc (sp:Nat→Addr) (p:Pr) (w:World) (r:Ending) (w':World):Prop:=
 Below w.heap.size w w'∧match Zbu p with
  | .error x=>∃ v,r = .returned (.tuple #[.slice none 0 0,v])∧ErrW sp w' x.1 x.2 v
  | .ok l=>∃ v,r = .returned (.tuple #[v,.nilIface])∧Zc2 (Zed w.heap.size w') l v
def OrdPost (sp:Nat→Addr) (p:Pr) (w:World) (r:Ending) (w':World):Prop:=
 Below w.heap.size w w'∧match Zbu p with
  | .error x=>∃ v,r = .returned (.tuple #[.slice none 0 0,v])∧ErrW sp w' x.1 x.2 v
  | .ok l=>∃ v,r = .returned (.tuple #[v,.nilIface])∧Zc2 (Zai w') l v
theorem Zhc.old {sp:Nat→Addr} {p:Pr} {w:World} {r:Ending} {w':World} (h:Zhc sp p w r w'):OrdPost sp p w r w':=by
 obtain⟨h1,h2⟩:=h
 unfold OrdPost
 cases e:Zbu p with
 | error x=>rw [e] at h2;exact⟨h1,h2⟩
 | ok l=>rw [e] at h2;obtain⟨v,h3,h4⟩:=h2;exact⟨h1,v,h3,Zc2.le (newKn_le _ _) h4⟩
structure SortS (w wx:World) (g:List (List Nat)) (D f j:Nat) (u:Value) (out:List Nat) (dn:Array Value):Prop where
 below:Below w.heap.size w wx
 size:D+2≤wx.heap.size
 left:j+f=g.length
 len:out.length=j
 row:wx.ownsRow (D+2) 3 1 u j (out.map natV)
 blk:wx.heap[D]?=some (.cells dn 4 (0,0))
 dsz:dn.size=g.length
 val:∀ x,x<g.length→dn[x]?=some (.bool (out.contains x))
 cell:wx.cell? ⟨D+1,0,none⟩=some (.slice (some ⟨D,0,none⟩) g.length g.length)
theorem sums_le (at_:Env Nat):∀ l:List Fl,((l.map fun f=>needs at_ f.e).map fun x=>x.length+1).sum≤Ex.partsL (l.map (·.e))+l.length
 | []=>by simp
 | f :: l=>by
  have h1:=needs_len at_ f.e
  have h2:=sums_le at_ l
  simp only [List.map_cons,List.sum_cons,Ex.partsL,List.length_cons] at h2 ⊢
  omega
theorem fuel_le {p:Pr} (h:Ex.partsL p.terms≤4000) (h2:p.fl.length≤400):Zer p.graph≤10000:=by
 have h1:=sums_le p.atOf p.fl
 have h3:Ex.partsL (p.fl.map (·.e))≤4000:=by
  unfold Pr.terms at h
  rw [List.append_assoc,Zia] at h
  omega
 unfold Zer Pr.graph
 omega
theorem order_new (H:Kn) (T:Zbo H) (sp:Nat→Addr) (p:Pr) (vi vo vl va vc:Value) (hp:PrP H p vi vo vl va vc) (w:World) (hH:H.In w) (S:Sen5 w sp)
  (hsz:p.ins.length≤1000000∧p.fl.length≤1000000∧p.outs.length≤100000000000∧p.as.length≤1000000∧p.cs.length≤1000000) (hpt:Ex.partsL p.terms≤1000000000)
  (hpick:Zak p=0→(∀ j,j<p.graph.length→cyc p.graph j=false)→∀ j,j<p.graph.length→pick p.graph (Zdh p.graph j [])<p.graph.length):
  Calls Tryz.prog 74 #[.agg #[vi,vo,vl,va,vc]] w (Zhc sp p w):=by
 have HP:=Zhd hp
 obtain⟨h1,h2,h3,h4,h5⟩:=hp
 obtain⟨ai,ci,rfl⟩:=h1.len
 obtain⟨ao,co,rfl⟩:=h2.len
 obtain⟨al,cl,rfl⟩:=h3.len
 obtain⟨aa,ca,rfl⟩:=h4.len
 obtain⟨ac,cc,rfl⟩:=h5.len
 clear h1 h2 h3 h4 h5
 have HPK:=Zhd hpick
 clear hpick
 go_enter Tryz.func74,Tryz.ntmps74
 go_wp2_with fail
 have hb0:Below w.heap.size w (w.alloc (.cells #[.slice ai p.ins.length ci,.slice ao p.outs.length co,.slice al p.fl.length cl,.slice aa p.as.length ca,.slice ac p.cs.length cc] 41)):=(Below.refl _ _).alloc (Nat.le_refl _) _
 refine (check_any H T sp p _ _ _ _ _ HP.out _ (hH.below hb0) (S.below hb0) hsz hpt).mono ?_
 rintro r w1 ⟨rfl,hb1⟩
 have HB1:=Zhd (hb0.trans (hb1.mono (by simp)))
 have hq:∀ i,w1.cell? ⟨w.heap.size,i,none⟩=(#[.slice ai p.ins.length ci,.slice ao p.outs.length co,.slice al p.fl.length cl,.slice aa p.as.length ca,.slice ac p.cs.length cc]:Array Value)[i]?:=fun i=>by rw [hb1.cell (p:=⟨w.heap.size,i,none⟩) (by simp),World.cell?_alloc_new]
 have q0:=hq 0
 have q1:=hq 1
 have q2:=hq 2
 have q3:=hq 3
 have q4:=hq 4
 simp at q0 q1 q2 q3 q4
 have hz1:w.heap.size<w1.heap.size:=by have:=hb1.size;simp at this;omega
 clear hq hb0 hb1
 cases hck:Zak p with
 | succ c=>
  have HX:=Zhd (show Zbu p = .error (c+1, -1) from by unfold Zbu;rw [hck];rfl)
  rw [Zfd]
  clear hck
  go_wp2_with fail
  go_ret2
  unfold Zhc
  rw [HX.out]
  exact⟨HB1.out,_,rfl,.inl ⟨rfl,rfl⟩⟩
 | zero=>
  obtain⟨ks,_,_,hfm,hfl,hpp,_,_⟩:=Zbs hck
  have HPK2:=Zhd (HPK.out hck)
  have HOM:=Zhd (show Zbu p=(match (List.range p.graph.length).find? (cyc p.graph) with | some i => .error (6,(i:Int)) | .none => .ok (Zdh p.graph p.graph.length [])) from by unfold Zbu;rw [hck];rfl)
  have HFM:=Zhd (show ∀ f∈p.fl,Zad ks f.e=true∧f.e.parts≤100000 from fun f hf=>by
   obtain⟨i,hi,he⟩:=List.mem_iff_getElem.1 (Zcg p hf)
   exact⟨by rw [← he];exact (Zbk ks _).1 hfm i hi,by have:=Zc3 (Zcg p hf);omega⟩)
  have HFU:=Zhd (fuel_le hpp hfl)
  have hgl:=Zfb p
  have HLOW:=Zhd (graph_low p)
  rw [errV_zero]
  clear hck HPK hfm
  go_wp2_with fail
  refine (graph_any H p _ _ _ _ _ HP.out ks HFM.out (by omega) w1 (hH.below HB1.out)).mono ?_
  rintro r w2 ⟨v,rfl,hg,hb2⟩
  have HB2:=Zhd (HB1.out.trans (hb2.mono (by omega)))
  obtain⟨ag,cg,rfl⟩:=hg.len
  have HG:=Zhd hg
  have hn:p.graph.length≤400:=by omega
  clear hg hb2 q0 q1 q2 q3 q4 hgl
  generalize p.graph=g at *
  go_wp2_with fail
  go_loopw [19] (fun i wr=>∃ k:Nat,i = .int .i64 k∧k≤g.length∧Below w2.heap.size w2 wr∧(∀ j,j<k→cyc g j=false)) (fun i _=>g.length - (intOf i).toNat)
  case atStart=>exact⟨0,rfl,Nat.zero_le _,Below.refl _ _,fun j h=>by omega⟩
  obtain⟨k,rfl,hk,hb,hno⟩:=hrel
  have HB:=Zhd hb
  have HNO:=Zhd hno
  have hbw:=Zhd (HB2.out.trans (hb.mono HB2.out.size))
  clear hb hno
  by_cases hkl:k<g.length
  ·go_wp2_with fail
   refine (cyc_any (Zai w2) g _ HG.out k hkl HLOW.out (by omega) (by have:=HFU.out;omega) wr (Zbt HB.out)).mono ?_
   rintro r w3 ⟨rfl,hb3⟩
   have HB3:=Zhd (HB.out.trans (hb3.mono HB.out.size))
   have HW3:=Zhd (hbw.out.trans (hb3.mono hbw.out.size))
   have c5:=(S.below HW3.out).c5
   clear hb3
   cases hcy:cyc g k
   ·have HX:=Zhd (show ∀ j,j<k+1→cyc g j=false from fun j hj=>by
     by_cases h:j<k
     ·exact HNO.out j h
     obtain rfl:j=k:=by omega
     exact hcy)
    clear hcy
    go_wp2_with fail
    go_roundw
    case rel=>exact⟨k+1,by go_num,by omega,HB3.out,HX.out⟩
    simp [intOf];omega
   have HX:=Zhd (show Zbu p = .error (6,(k:Int)) from by
    rw [HOM.out]
    have:(List.range g.length).find? (cyc g)=some k:=by
     rw [List.find?_range_eq_some]
     exact⟨hcy,List.mem_range.2 hkl,fun j hj=>by simp [HNO.out j hj]⟩
    rw [this])
   clear hcy
   go_wp2_with fail
   go_region
   all_goals go_wp2_with fail
   all_goals go_ret2
   all_goals unfold Zhc
   all_goals rw [HX.out]
   all_goals exact⟨by first | exact (HW3.out.alloc HW3.out.size _).drew | exact (HW3.out.drew).alloc HW3.out.size _ | exact ((HW3.out.drew).alloc HW3.out.size _).drew | exact HW3.out.alloc HW3.out.size _,_,rfl,.inr ⟨by omega,w3.heap.size,rfl,heap_alloc_new _ _⟩⟩
  obtain rfl:k=g.length:=by omega
  have hmk:=run_make_row' (P:=Tryz.prog) 86 4 (.bool false) 1 Tryz.underlying86 Tryz.infoBool rfl .i64 .i64 g.length (by omega) (by omega)
  have HPICK:=Zhd (HPK2.out HNO.out)
  have HOK:=Zhd (show Zbu p = .ok (Zdh g g.length []) from by
   rw [HOM.out]
   have:(List.range g.length).find? (cyc g)=none:=by
    rw [List.find?_eq_none]
    intro x hx
    simp [HNO.out x (List.mem_range.1 hx)]
   rw [this])
  go_wp2_with fail
  have hS0:SortS w2 ((wr.alloc (.cells (madeCells #[.bool false] g.length) 4)).alloc (.cells #[.slice (some ⟨wr.heap.size,0,none⟩) g.length g.length] 86)) g wr.heap.size g.length 0 (.slice none 0 0) [] (madeCells #[.bool false] g.length):=by
   refine⟨(HB.out.alloc HB.out.size _).alloc (by have:=HB.out.size;simp;omega) _,by simp,by omega,rfl,World.ownsRow_nil _ _ _ _,?_,madeB_size _,fun x hx=>by rw [madeB_get _ x hx];simp,by simp⟩
   rw [Below.heap_alloc _ _ _ (by simp)];exact heap_alloc_new _ _
  have hDge:=HB.out.size
  generalize (wr.alloc (.cells (madeCells #[.bool false] g.length) 4)).alloc (.cells #[.slice (some ⟨wr.heap.size,0,none⟩) g.length g.length] 86)=W1 at *
  generalize wr.heap.size=D at *
  have HS0:=Zhd hS0
  clear hS0 hmk HNO HPK2 HOM HB hbw
  go_loopg [8,9] (g.length) (fun f u8 u9 wx=>∃ j dn,SortS w2 wx g D f j u8 (Zdh g j []) dn)
  case atStart=>exact⟨0,_,HS0.out⟩
  obtain⟨j,dn,hS⟩:=hrel
  have HS:=Zhd hS
  have hleft:=hS.left
  obtain⟨ra,rc,rfl,hrc,hjc⟩:=Zau hS.row
  have hsz0:=hS.size
  clear hS
  by_cases hjn:j<g.length
  ·have hpk:=HPICK.out j hjn
   have HSUC:=Zhd (Zh8 g j [])
   generalize hout:Zdh g j []=out at *
   have HFREE:=Zhd (pick_free hpk)
   have HFST:=Zhd (fun k (h:k<pick g out)=>pick_first h (show k<g.length by omega))
   have hgp:1≤gk:=by omega
   have HOUT:=Zhd hout
   clear hout
   generalize hpp:pick g out=pk at *
   have HPP:=Zhd hpp
   clear hpp
   go_wp2_with fail
   go_loop [9] (fun i=>∃ k:Nat,i = .int .i64 k∧k≤pk) (fun i=>pk - (intOf i).toNat)
   case atStart=>exact⟨0,rfl,Nat.zero_le _⟩
   obtain⟨k,rfl,hkp⟩:=hrel
   have hkn:k<g.length:=by omega
   have hkI:(k:Int)<g.length:=by omega
   have hD:=HS.out.blk
   have hdv:=HS.out.val k hkn
   have hdc:wr.cell? ⟨D,k,none⟩=some (.bool (out.contains k)):=by simp [World.cell?,hD,hdv]
   have hfd:wr.frozen? ⟨D,k,none⟩=false:=by simp [World.frozen?,hD]
   have hDc:=HS.out.cell
   obtain⟨bg,og,rfl,_,ug,e0,hug⟩:=SlV.at HG.out hkn
   have e0:(Zai w2).cell bg (og+k * 1+0)=some ug:=e0
   simp only [Nat.mul_one,Nat.add_zero] at e0
   have e0:=(Zbt HS.out.below).cell e0
   obtain⟨ugA,ugC,rfl⟩:=hug.len
   have hgk:g.getD k []=g[k]:=by simp [List.getD_eq_getElem?_getD,hkn]
   have hlowk:=HLOW.out g[k] (List.getElem_mem hkn)
   have HPRED:=Zhd (order1_pred (D+1) D g.length out g[k] dn wr hDc hD HS.out.val hlowk (by omega))
   have HUG:=Zhd hug
   have hfree:Zi3 g out k=(!out.contains k && !(g[k].any fun x => !out.contains x)):=by
    unfold Zi3
    rw [hgk]
    congr 1
    rw [List.all_eq_not_any_not]
   have HFRK:=Zhd hfree
   have HBL:=Zhd hD
   clear hug hgk hlowk hfree hdv hD
   have hany:∃ q,(g[k].any fun x => !out.contains x)=q:=⟨_,rfl⟩
   obtain⟨q,hq⟩:=hany
   rw [hq] at HFRK
   have HQ:=Zhd hq
   clear hq
   obtain⟨dk,hdk⟩:∃ d,out.contains k=d:=⟨_,rfl⟩
   rw [hdk] at HFRK hdc
   have HDK:=Zhd hdk
   clear hdk
   generalize g[k]=gk' at *
   by_cases hkk:k=pk
   ·have h1:=HFREE.out
    rw [← hkk,HFRK.out] at h1
    obtain⟨rfl,rfl⟩:dk=false∧q=false:=by cases dk<;>cases q<;>simp at h1 ⊢
    have hrowne:=Zbn HS.out.row (b:=D) (by omega)
    have HS2:=Zhd (Zab wr D k (.bool true) dn _ _ HBL.out)
    have HO2:=Zhd (Zaq HS.out.row (a:=⟨D,k,none⟩) hrowne (.bool true))
    have hz2:(wr.setCell ⟨D,k,none⟩ (.bool true)).heap.size=wr.heap.size:=by simp [World.setCell]
    have HBW:=Zhd (HS.out.below.setCell (p:=⟨D,k,none⟩) hDge (.bool true))
    have HKK:=Zhd hkk
    clear h1 hkk
    have FIN:=Zhd (show ∀ v' w3,w3.ownsRow (D+2) 3 1 v' (j+1) (out.map natV++[.int .i64 k])→((wr.setCell ⟨D,k,none⟩ (.bool true)).alloc (.cells #[.int .i64 k] 3)).grownBy w3 (Value.slice ra j rc).ownBlock→SortS w2 w3 g D (gk - 1) (j+1) v' (Zdh g (j+1) []) (dn.setIfInBounds k (.bool true)) from fun v' w3 ho hg3=>by
     have hs3:=hg3.size
     simp only [World.size_alloc,hz2] at hs3
     have hnD:some D≠(Value.slice ra j rc).ownBlock:=Ne.symm hrowne
     have hnC:some (D+1)≠(Value.slice ra j rc).ownBlock:=Ne.symm (Zbn HS.out.row (by omega))
     rw [HSUC.out]
     refine⟨(HBW.out.alloc (by rw [hz2];omega) _).grown hg3 (by simp;omega) (fun q hq=>by have:=(HS.out.row.lt q hq).1;omega),by omega,by omega,by rw [List.length_append,HS.out.len];rfl,?_,?_,by simp [HS.out.dsz],fun x hx=>?_,?_⟩
     ·rw [List.map_append,← HKK.out];exact ho
     ·rw [hg3.block D (by simp;omega) hnD,Below.heap_alloc _ _ _ (by rw [hz2];omega)];exact HS2.out
     ·rw [sc_set HS.out.val HS.out.dsz hkn x hx,← HKK.out]
      simp [Bool.or_comm]
     rw [hg3.cell_far ⟨D+1,0,none⟩ (by simp;omega) hnC,World.cell?_alloc_past _ _ _ (by rw [hz2];omega),World.cell?_setCell_far _ _ _ _ (by simp)];exact HS.out.cell)
    go_wp2_with fail
    refine (Zim _ _ (Zai w2) _ gk' _ wr HPRED.out HUG.out (Zbt HS.out.below)).mono ?_
    rw [HQ.out]
    rintro r wz ⟨rfl,rfl⟩
    go_wp2_with (at_builtin;refine app1 152 3 1 8 _ Tryz.underlying152 Tryz.infoInt rfl (by decide) _ _ rfl rfl (D+2) _ _ _ rfl (HO2.out.alloc _) ⟨wr.heap.size,0,none⟩ 1 [.int .i64 k] rfl rfl ?c1 ?c2 ?c3 ?c4 ?c5 ?_)
    case c1=>rw [← hz2];exact cells1 _ _ _
    case c2=>simp [Value.oneCell']
    case c3=>omega
    case c4=>omega
    case c5=>simp;omega
    intro v' w3 ho hg3
    have hS3:=FIN.out v' w3 ho hg3
    go_wp2_with fail
    go_roundg (gk - 1)
    case rel=>exact⟨_,_,hS3⟩
    omega
   have h1:=HFST.out k (by omega)
   rw [HFRK.out] at h1
   rcases (show dk=true∨dk=false∧q=true from by cases dk<;>cases q<;>simp at h1 ⊢) with rfl | ⟨rfl,rfl⟩
   ·clear h1
    go_wp2_with fail
    go_round
    case rel=>exact⟨k+1,by go_num,by omega⟩
    simp [intOf];omega
   clear h1
   go_wp2_with fail
   refine (Zim _ _ (Zai w2) _ gk' _ wr HPRED.out HUG.out (Zbt HS.out.below)).mono ?_
   rw [HQ.out]
   rintro r wz ⟨rfl,rfl⟩
   go_wp2_with fail
   go_round
   case rel=>exact⟨k+1,by go_num,by omega⟩
   simp [intOf];omega
  obtain rfl:j=g.length:=by omega
  have HV:=Zhd (show Zc2 (Zed w.heap.size wr) (Zdh g g.length []) _ from slv_new (n:=w.heap.size) (l:=Zdh g g.length []) (R:=IntC) (by rw [HS.out.len];exact HS.out.row) (by have:=HB2.out.size;omega) fun i hi f hf=>hf 0 _ (by rw [Nat.mul_one,Nat.add_zero,List.getElem?_map,List.getElem?_eq_getElem hi];rfl))
  go_wp2_with fail
  go_ret2
  unfold Zhc
  rw [HOK.out]
  exact⟨HB2.out.trans (HS.out.below.mono HB2.out.size),_,rfl,HV.out⟩
theorem order_any (H:Kn) (T:Zbo H) (sp:Nat→Addr) (p:Pr) (vi vo vl va vc:Value) (hp:PrP H p vi vo vl va vc) (w:World) (hH:H.In w) (S:Sen5 w sp)
  (hsz:p.ins.length≤1000000∧p.fl.length≤1000000∧p.outs.length≤100000000000∧p.as.length≤1000000∧p.cs.length≤1000000) (hpt:Ex.partsL p.terms≤1000000000)
  (hpick:Zak p=0→(∀ j,j<p.graph.length→cyc p.graph j=false)→∀ j,j<p.graph.length→pick p.graph (Zdh p.graph j [])<p.graph.length):
  Calls Tryz.prog 74 #[.agg #[vi,vo,vl,va,vc]] w (OrdPost sp p w):=
 (order_new H T sp p vi vo vl va vc hp w hH S hsz hpt hpick).mono fun _ _ h=>h.old
abbrev SIntsV (H:Kn):List Int→Value→Prop:=SlV H 1 fun x f=>f 0=some (.int .i64 x)
theorem sints_of_row {w:World} {base:Nat} {t:TypeId} {v:Value} {l:List Int} (h:w.ownsRow base t 1 v l.length (l.map (Value.int .i64))):SIntsV (Zai w) l v:=by
 by_cases h0:l=[]
 ·obtain⟨a,c,h1,_⟩:=Zau h
  exact .inl ⟨h0,a,c,by rw [h1,h0];rfl⟩
 obtain⟨g,cap,rfl,h2,h3,_,_,h4⟩:=Zbp h (List.length_pos_iff.2 h0)
 refine .inr ⟨g,0,cap,rfl,h2,h3,fun i hi=>?_⟩
 show (Zai w).cell g (0+i * 1+0)=some (Value.int .i64 l[i])
 rw [Zap]
 simp only [Nat.zero_add,Nat.mul_one,Nat.add_zero]
 exact h4 i _ (by simp [hi])
def LatePost (sp:Nat→Addr) (p:Pr) (w:World) (r:Ending) (w':World):Prop:=
 Below w.heap.size w w'∧match Zeo p with
  | .error x=>∃ v,r = .returned (.tuple #[.slice none 0 0,v])∧ErrW sp w' x.1 x.2 v
  | .ok l=>∃ v,r = .returned (.tuple #[v,.nilIface])∧SIntsV (Zai w') l v
theorem lates_any (H:Kn) (T:Zbo H) (sp:Nat→Addr) (p:Pr) (vi vo vl va vc:Value) (hp:PrP H p vi vo vl va vc) (w:World) (hH:H.In w) (S:Sen5 w sp)
  (hsz:p.ins.length≤1000000∧p.fl.length≤1000000∧p.outs.length≤100000000000∧p.as.length≤1000000∧p.cs.length≤1000000) (hpt:Ex.partsL p.terms≤1000000000)
  (hpick:Zak p=0→(∀ j,j<p.graph.length→cyc p.graph j=false)→∀ j,j<p.graph.length→pick p.graph (Zdh p.graph j [])<p.graph.length):
  Calls Tryz.prog 79 #[.agg #[vi,vo,vl,va,vc]] w (LatePost sp p w):=by
 have HP:=Zhd hp
 obtain⟨h1,h2,h3,h4,h5⟩:=hp
 obtain⟨ai,ci,rfl⟩:=h1.len
 obtain⟨ao,co,rfl⟩:=h2.len
 obtain⟨al,cl,rfl⟩:=h3.len
 obtain⟨aa,ca,rfl⟩:=h4.len
 obtain⟨ac,cc,rfl⟩:=h5.len
 have H3:=Zhd h3
 clear h1 h2 h3 h4 h5
 go_enter Tryz.func79,Tryz.ntmps79
 go_wp2_with fail
 have hb0:Below w.heap.size w (w.alloc (.cells #[.slice ai p.ins.length ci,.slice ao p.outs.length co,.slice al p.fl.length cl,.slice aa p.as.length ca,.slice ac p.cs.length cc] 41)):=(Below.refl _ _).alloc (Nat.le_refl _) _
 refine (order_any H T sp p _ _ _ _ _ HP.out _ (hH.below hb0) (S.below hb0) hsz hpt hpick).mono ?_
 rintro r w1 ⟨hb1,hpost⟩
 have HB1:=Zhd (hb0.trans (hb1.mono (by simp)))
 have hq:∀ i,w1.cell? ⟨w.heap.size,i,none⟩=(#[.slice ai p.ins.length ci,.slice ao p.outs.length co,.slice al p.fl.length cl,.slice aa p.as.length ca,.slice ac p.cs.length cc]:Array Value)[i]?:=fun i=>by rw [hb1.cell (p:=⟨w.heap.size,i,none⟩) (by simp),World.cell?_alloc_new]
 have q0:=hq 0
 have q1:=hq 1
 have q2:=hq 2
 have q3:=hq 3
 have q4:=hq 4
 simp at q0 q1 q2 q3 q4
 have hz1:w.heap.size<w1.heap.size:=by have:=hb1.size;simp at this;omega
 clear hq hb0 hb1
 cases hom:Zbu p with
 | error x=>
  rw [hom] at hpost
  obtain⟨v,rfl,hv⟩:=hpost
  have HX:=Zhd (show Zeo p = .error x from by unfold Zeo;rw [hom])
  have HV:=Zhd hv
  have hx0:x.1≠0:=by
   unfold Zbu at hom
   split at hom
   ·rename_i h;cases hom;exact h
   split at hom
   ·cases hom;simp
   cases hom
  obtain⟨tv,pv,rfl⟩:∃ tv pv,v = .iface tv pv:=by
   rcases hv with ⟨_,h⟩ | ⟨_,N,h,_⟩
   ·obtain⟨c,hc⟩:∃ c,x.1=c+1:=⟨x.1 - 1,by omega⟩
    rw [hc,Zfd] at h
    exact⟨_,_,h⟩
   exact⟨_,_,h⟩
  clear hom hv
  go_wp2_with fail
  go_ret2
  unfold LatePost
  rw [HX.out]
  exact⟨HB1.out,_,rfl,HV.out⟩
 | ok l=>
  rw [hom] at hpost
  obtain⟨v,rfl,hv⟩:=hpost
  have HX:=Zhd (show Zeo p = .ok (p.fl.map fun f=>Zaa p f.name) from by unfold Zeo;rw [hom])
  obtain⟨av,cv,rfl⟩:=hv.len
  have hck:Zak p=0:=by
   unfold Zbu at hom
   split at hom
   ·cases hom
   rename_i h;simpa using h
  obtain⟨ks,_,_,hfm,hfl,hpp,_,_⟩:=Zbs hck
  have HFM:=Zhd (show ∀ f∈p.fl,Zad ks f.e=true from fun f hf=>by
   obtain⟨i,hi,he⟩:=List.mem_iff_getElem.1 (Zcg p hf)
   rw [← he];exact (Zbk ks _).1 hfm i hi)
  clear hck hfm hpp hom hv
  go_wp2_with fail
  refine (names_any H p _ _ _ _ _ HP.out ks HFM.out (by omega) w1 (hH.below HB1.out)).mono ?_
  rintro r w2 ⟨bm,m,rfl,hM,hnm,hbd,hb2⟩
  have HM:=Zhd hM
  have HB2:=Zhd (HB1.out.trans (hb2.mono (by omega)))
  have hq2:w2.cell? ⟨w.heap.size,2,none⟩=some (.slice al p.fl.length cl):=by
   rw [hb2.cell (p:=⟨w.heap.size,2,none⟩) (by simpa using hz1)];exact q2
  have HQ2:=Zhd hq2
  have HNM:=Zhd hnm
  have hbm:bm<w2.heap.size:=by obtain⟨es,ck,h,_⟩:=hM;exact (Zlt h)
  have hz2:w.heap.size<w2.heap.size:=by have:=hb2.size;omega
  clear hM hb2 hbd hnm q0 q1 q2 q3 q4
  go_wp2_with fail
  go_loopw [7,23] (fun u7 i wr=>∃ k:Nat,i = .int .i64 k∧k≤p.fl.length∧Below w2.heap.size w2 wr∧wr.ownsRow w2.heap.size 3 1 u7 k ((p.fl.map fun f=>Value.int .i64 (getI m f.name)).take k)) (fun _ i _=>p.fl.length - (intOf i).toNat)
  case atStart=>exact⟨0,rfl,Nat.zero_le _,Below.refl _ _,World.ownsRow_nil _ _ _ _⟩
  obtain⟨k,rfl,hk,hb,hown⟩:=hrel
  have HB:=Zhd hb
  have HO:=Zhd hown
  obtain⟨ua,uc,rfl,huc,_⟩:=Zau hown
  clear hb hown
  by_cases hkl:k<p.fl.length
  ·obtain⟨b1,off,rfl,_,hfc⟩:=SlV.at H3.out hkl
   obtain⟨u,c0,c1,c2,c3,c4,c5,hu⟩:=hfc.cells
   obtain⟨ax,cx,rfl⟩:=hu.len
   have hHr:=hH.below (HB2.out.trans (HB.out.mono (by omega)))
   have c0:=hHr.cell c0
   have c1:=hHr.cell c1
   have c2:=hHr.cell c2
   have c3:=hHr.cell c3
   have c4:=hHr.cell c4
   have c5:=hHr.cell c5
   simp only [Nat.add_zero] at c0
   have TK:=Zhd (show (p.fl.map fun f=>Value.int .i64 (getI m f.name)).take (k+1)=(p.fl.map fun f=>Value.int .i64 (getI m f.name)).take k++[.int .i64 (getI m p.fl[k].name)] from by
    rw [List.take_succ_eq_append_getElem (by simpa using hkl)];simp)
   clear hHr hu hfc
   generalize p.fl[k]=x at *
   obtain⟨xn,xk,xe⟩:=x
   dsimp only at *
   generalize xe.op=xo at *
   generalize xe.n=xnn at *
   generalize xe.s=xs at *
   generalize xe.l.length=xl at *
   have hrun:=((HM.out.below HB.out).alloc (.cells #[.string xn,.int .i64 xk,.string xo,.int .i64 xnn,.string xs,.slice ax xl cx] 71)).run (P:=Tryz.prog) Tryz.underlying97 Tryz.underlying9 (d:=0) (by kernel_rfl) xn false
   simp only [Bool.false_eq_true,if_false] at hrun
   have HG:=Zhd (show getI m xn=(m xn).getD 0 from rfl)
   rw [HG.out] at TK
   generalize hg:(m xn).getD 0=g at *
   have hO1:=(HO.out.alloc (.cells #[.string xn,.int .i64 xk,.string xo,.int .i64 xnn,.string xs,.slice ax xl cx] 71)).alloc (.cells #[.int .i64 g] 3)
   have HO1:=Zhd hO1
   have hB1:=(HB.out.alloc HB.out.size (.cells #[.string xn,.int .i64 xk,.string xo,.int .i64 xnn,.string xs,.slice ax xl cx] 71)).alloc (by have:=HB.out.size;simp;omega) (.cells #[.int .i64 g] 3)
   have HB1':=Zhd hB1
   have hc1:=cells1 (wr.alloc (.cells #[.string xn,.int .i64 xk,.string xo,.int .i64 xnn,.string xs,.slice ax xl cx] 71)) (.int .i64 g) 3
   simp only [World.size_alloc] at hc1
   have HC1:=Zhd hc1
   clear hO1 hB1 hc1
   go_wp2_with (at_builtin;refine app1 152 3 1 8 _ Tryz.underlying152 Tryz.infoInt rfl (by decide) _ _ rfl rfl w2.heap.size _ _ _ rfl HO1.out ⟨wr.heap.size+1,0,none⟩ 1 [.int .i64 g] rfl rfl ?c1 ?c2 ?c3 ?c4 ?c5 ?_)
   case c1=>exact HC1.out
   case c2=>simp [Value.oneCell']
   case c3=>omega
   case c4=>omega
   case c5=>have:=HB.out.size;simp;omega
   intro v' w3 ho hg3
   have HO3:=Zhd ho
   have HB3:=Zhd (HB1'.out.grown hg3 (by have:=HB.out.size;simp;omega) (fun q hq=>by have:=(HO1.out.lt q hq).1;omega))
   clear ho hg3
   go_wp2_with fail
   go_roundw
   case rel=>exact⟨k+1,by go_num,by omega,HB3.out,by rw [TK.out];exact HO3.out⟩
   simp [intOf];omega
  obtain rfl:k=p.fl.length:=by omega
  have hsv:SIntsV (Zai wr) (p.fl.map fun f=>Zaa p f.name) (.slice ua p.fl.length uc):=by
   refine sints_of_row (base:=w2.heap.size) (t:=3) ?_
   have h:=HO.out
   rw [List.take_of_length_le (by simp),HNM.out] at h
   simpa [List.map_map,Function.comp_def] using h
  have HSV:=Zhd hsv
  clear hsv
  go_wp2_with fail
  go_ret2
  unfold LatePost
  rw [HX.out]
  exact⟨HB2.out.trans (HB.out.mono (by omega)),_,rfl,HSV.out⟩
theorem idx_nil (a:Option Addr) (c:Nat) (s:ByteArray) (w:World):
  Calls Tryz.prog 90 #[.slice a 0 c,.string s] w fun e w'=>e = .returned (.int .i64 (-1))∧w=w':=by
 go_enter Tryz.func90,Tryz.ntmps90
 go_wp2
 go_rounds 1
 all_goals go_ret
 exact⟨rfl,rfl⟩
theorem Zil (H:Kn) (v:Value) (l:List ByteArray) (s:ByteArray) (w:World) (hv:Ziq H l v) (hH:H.In w):
  Calls Tryz.prog 54 #[v,.string s] w fun e w'=>e = .returned (.bool (l.contains s))∧w=w':=by
 rw [Zgm]
 rcases hv with ⟨rfl,a,c,rfl⟩ | ⟨b,off,cap,rfl,h1,h2,h3⟩
 ·go_enter Tryz.func54,Tryz.ntmps54
  go_wp2_with (go_at_call 90;refine (idx_nil a c s _).mono ?_;rintro e w' ⟨rfl,rfl⟩)
  go_ret
  exact⟨rfl,rfl⟩
 refine Zjq H _ l s w (.inr ⟨b,off,cap,rfl,h1,h2,fun i hi=>?_⟩) hH
 have:=h3 i hi
 simp only [List.getElem?_eq_getElem hi,Option.map_some]
 exact this
structure OckI (H:Kn) (C bm:Nat) (m:Env Int) (u:World):Prop where
 kn:H.In u
 cell:u.cell? ⟨C,0,none⟩=some (.map (some bm))
 size:C<u.heap.size
 mp:Zaw (Value.int .i64) u bm m
theorem OckI.next {H:Kn} {C bm:Nat} {m:Env Int} {u u':World} (h:OckI H C bm m u) (hb:Below u.heap.size u u'):OckI H C bm m u':=
 ⟨h.kn.below hb,by rw [hb.cell (p:=⟨C,0,none⟩) (show C<u.heap.size from h.size)];exact h.cell,Nat.lt_of_lt_of_le h.size hb.size,h.mp.below hb⟩
theorem check1_pred (H:Kn) (C bm:Nat) (m:Env Int) (hl:∀ s,0≤getI m s∧getI m s≤2) (ks:Env Int) (l:List Ex) (hf:∀ e∈l,Zad ks e=true):
  ExPred 81 #[.pointer (some ⟨C,0,none⟩)] (OckI H C bm m) H (fun e=>decide (0<Zac (getI m) e)) l:=by
 refine⟨fun _ _=>by kernel_rfl,fun w w' h hb=>h.next hb,fun e he v hv w hI=>?_⟩
 have hfe:=hf e he
 have HV:=Zhd hv
 obtain⟨u,rfl,hu⟩:=hv
 obtain⟨a,c,rfl⟩:=hu.len
 have hbd:=Zbj (getI m) hl e
 have hb1:Below w.heap.size w (w.alloc (.cells #[.string e.op,.int .i64 e.n,.string e.s,.slice a e.l.length c] 69)):=(Below.refl _ _).alloc (Nat.le_refl _) _
 have HI1:=Zhd (hI.next hb1)
 have hcell:=HI1.out.cell
 have HB1:=Zhd hb1
 have hz:w.heap.size<(w.alloc (.cells #[.string e.op,.int .i64 e.n,.string e.s,.slice a e.l.length c] 69)).heap.size:=by simp
 clear hu hb1 hI
 generalize e.l.length=el at *
 go_enter Tryz.func81,Tryz.ntmps81
 go_wp2_with fail
 refine (Zfs H m bm hl ks e hfe _ HV.out _ HI1.out.kn HI1.out.mp).mono ?_
 rintro r w2 ⟨rfl,hb2⟩
 have HB:=Zhd (HB1.out.trans (hb2.mono (by simp)))
 generalize hq:Zac (getI m) e=q at *
 go_wp2_with fail
 go_ret
 exact⟨Zb6 (by simp [hq]),HB.out⟩
end Go.Proofs.YtofameafdnkijaaGreatDoor
namespace Go.Proofs.YtofameafdnkijaaGreatDoor.Mx
set_option maxRecDepth 100000
set_option maxHeartbeats 16000000
def hit (p:Pr) (s:ByteArray):Bool:=decide (Zaa p s=2) || decide (Zaa p s=1)&&p.outs.contains s
theorem lateM_ok {p:Pr} {l:List Int} (h:Zeo p = .ok l):l=(p.fl.map fun f=>Zaa p f.name)∧Zak p=0:=by
 unfold Zeo at h
 split at h
 ·cases h
 rename_i x hx
 refine⟨by cases h;rfl,?_⟩
 unfold Zbu at hx
 split at hx
 ·cases hx
 rename_i h0;simpa using h0
theorem Zh5 {p:Pr} {x:Nat×Int} (h:Zeo p = .error x):Za0 p=x:=by unfold Za0;rw [h]
theorem zip_find {α:Type} (q:α×Nat→Bool) (l:List α) (k:Nat) (hk:k<l.length) (h1:q (l[k],k)=true) (h2:∀ j (hj:j<l.length),j<k→q (l[j],j)=false):l.zipIdx.find? q=some (l[k],k):=by
 rw [List.find?_eq_some_iff_getElem]
 refine⟨h1,k,by simpa using hk,by simp,fun j hj=>?_⟩
 have:=h2 j (by omega) hj
 simp [this]
theorem zip_none {α:Type} (q:α×Nat→Bool) (l:List α) (h2:∀ j (hj:j<l.length),q (l[j],j)=false):l.zipIdx.find? q=none:=by
 rw [List.find?_eq_none]
 intro x hx
 obtain⟨i,hi,rfl⟩:=List.mem_iff_getElem.1 hx
 have:=h2 i (by simpa using hi)
 simp [this]
theorem checkM_hit {p:Pr} (h:Zeo p = .ok (p.fl.map fun f=>Zaa p f.name)) (k:Nat) (hk:k<p.fl.length) (h1:hit p p.fl[k].name=true) (h2:∀ j (hj:j<p.fl.length),j<k→hit p p.fl[j].name=false):Za0 p=(7,(k:Int)):=by
 unfold Za0
 rw [h]
 simp only
 rw [zip_find _ _ k (by simpa using hk)]
 ·simpa [hit,List.getD_eq_getElem?_getD,hk] using h1
 intro j hj hjk
 have hj':j<p.fl.length:=by simpa using hj
 simpa [hit,List.getD_eq_getElem?_getD,hj'] using h2 j hj' hjk
theorem Zha {p:Pr} (h:Zeo p = .ok (p.fl.map fun f=>Zaa p f.name)) (h2:∀ j (hj:j<p.fl.length),hit p p.fl[j].name=false):Za0 p=if ((p.as++p.cs).any fun e=>decide (0<Zac (Zaa p) e))=true then (7, -1) else (0, -1):=by
 unfold Za0
 rw [h]
 simp only
 rw [zip_none]
 intro j hj
 have hj':j<p.fl.length:=by simpa using hj
 simpa [hit,List.getD_eq_getElem?_getD,hj'] using h2 j hj'
theorem lateM_pos {p:Pr} {x:Nat×Int} (h:Zeo p = .error x):x.1≠0:=by
 unfold Zeo at h
 split at h
 ·rename_i e hx
  cases h
  unfold Zbu at hx
  split at hx
  ·rename_i h;cases hx;exact h
  split at hx
  ·cases hx;simp
  cases hx
 cases h
end Go.Proofs.YtofameafdnkijaaGreatDoor.Mx
