/- Walks: order.LateOf. -/
import Derived.Test.YtgoccoldkfpbgaaGreatDoorRg
import Derived.Test.YtgoccoldkfpbgaaGreatDoorNeeds
import Derived.Test.YtgoccoldkfpbgaaGreatDoorKind
import Derived.Deep.RegionHeld3
import Derived.Test.YtgoccoldkfpbgaaGreatDoorMx
import Derived.Deep.LoopGhost
set_option linter.all false
namespace Go.Proofs.YtgoccoldkfpbgaaGreatDoor
set_option maxRecDepth 100000
set_option maxHeartbeats 16000000
open Go.RowKit Mx
def getI (m:Env Int):ByteArray→Int:=fun s=>(m s).getD 0
theorem Zid:∀ (l:List Int) (a:Int),0≤a→a≤2→(∀ x∈l,0≤x∧x≤2)→0≤l.foldl max a∧l.foldl max a≤2
 | [],a,h1,h2,_=>⟨h1,h2⟩
 | x :: l,a,h1,h2,h=>by
  have:=h x (List.mem_cons_self ..)
  exact Zid l (max a x) (by omega) (by omega) (fun y hy=>h y (List.mem_cons_of_mem _ hy))
theorem Zfl (late:ByteArray→Int):∀ (l:List Ex) (x:Int),x∈Za8 late l→∃ e∈l,x=lateOf late e
 | [],x,h=>by simp [Za8] at h
 | e :: l,x,h=>by
  simp only [Za8,List.mem_cons] at h
  rcases h with rfl | h
  ·exact⟨e,List.mem_cons_self ..,rfl⟩
  obtain⟨e',h1,h2⟩:=Zfl late l x h
  exact⟨e',List.mem_cons_of_mem _ h1,h2⟩
theorem Zi4 (l:List Int) (i:Nat) (h:∀ x∈l,0≤x∧x≤2):0≤l.getD i 0∧l.getD i 0≤2:=by
 rw [List.getD_eq_getElem?_getD]
 cases hq:l[i]? with
 | none=>simp
 | some x=>exact h x (List.mem_of_getElem? hq)
theorem Zda (late:ByteArray→Int) (hl:∀ s,0≤late s∧late s≤2):∀ e:Ex,0≤lateOf late e∧lateOf late e≤2:=by
 refine Ex.ind fun o n s l ih=>?_
 have hr:∀ x∈Za8 late l,0≤x∧x≤2:=fun x hx=>by
  obtain⟨e,h1,rfl⟩:=Zfl late l x hx
  exact ih e h1
 have h0:=Zi4 _ 0 hr
 have h1:=Zi4 _ 1 hr
 have hm:=Zid (Za8 late l) 0 (by omega) (by omega) hr
 simp only [lateOf]
 split
 ·exact hl s
 split
 ·omega
 split
 ·split<;>omega
 exact hm
theorem Zf9 (late:ByteArray→Int):∀ (l:List Ex) (k:Nat) (h:k<l.length),Za8 late (l.take (k+1))=Za8 late (l.take k)++[lateOf late l[k]]
 | e :: l,0,_=>by simp [Za8]
 | e :: l,k+1,h=>by
  have:=Zf9 late l k (by simpa using h)
  simp only [List.take_succ_cons,Za8,List.getElem_cons_succ]
  rw [this];rfl
theorem Zb5 (late:ByteArray→Int):∀ (l:List Ex) (k:Nat) (h:k<l.length),(Za8 late l).getD k 0=lateOf late l[k]
 | e :: l,0,_=>by simp [Za8]
 | e :: l,k+1,h=>by
  have:=Zb5 late l k (by simpa using h)
  simpa [Za8] using this
theorem late_any (H:Kn) (m:Env Int) (bm:Nat) (hl:∀ s,0≤getI m s∧getI m s≤2) (ks:Env Int):∀ (e:Ex),Zaf ks e=true→∀ v,ExV H e v→∀ w,H.In w→Zaw (Value.int .i64) w bm m→
  Calls Tryz.prog 76 #[v,.map (some bm)] w fun r w'=>r = .returned (.int .i64 (lateOf (getI m) e))∧Below w.heap.size w w':=by
 refine Ex.ind fun o n s l ih hf v hv w hH hM=>?_
 obtain⟨u,rfl,hu⟩:=hv
 simp only [Ex.op,Ex.n,Ex.s,Ex.l] at hu ⊢
 obtain⟨a,c,rfl⟩:=hu.len
 obtain⟨hfl,hfby,harr,hpr,_⟩:=Zax hf
 have HU:=Zhd hu
 have HIH:=Zhd fun e he=>ih e he (hfl e he)
 have HBD:=Zhd (Zda (getI m) hl)
 have hlt:l.length≤9223372036854775807:=by
  rcases hu with ⟨rfl,_⟩ | ⟨_,_,c',_,h1,h2,_⟩
  ·simp
  unfold maxLen at h2;omega
 have hW1:Below w.heap.size w (w.alloc (.cells #[.string o,.int .i64 n,.string s,.slice a l.length c] 97)):=(Below.refl _ _).alloc (Nat.le_refl _) _
 have hM1:=hM.alloc (.cells #[.string o,.int .i64 n,.string s,.slice a l.length c] 97)
 have hH1:=hH.alloc (.cells #[.string o,.int .i64 n,.string s,.slice a l.length c] 97)
 have HW1:=Zhd hW1
 have HM1:=Zhd hM1
 clear hu ih hfl hf hM hM1 hW1
 by_cases hname:o=Zb2
 ·have HX:=Zhd (show lateOf (getI m) (.mk o n s l)=getI m s from by simp only [lateOf];rw [if_pos hname])
  have t1:(o.toList==[110,97,109,101])=true:=by rw [← dLit];simpa using hname
  have hrun:=HM1.out.run (P:=Tryz.prog) Tryz.underlying125 Tryz.underlying9 (d:=0) (by kernel_rfl) s false
  simp only [Bool.false_eq_true,if_false] at hrun
  have HG:=Zhd (show getI m s=(m s).getD 0 from rfl)
  generalize (m s).getD 0=q at *
  clear hname hfby harr hpr
  go_enter Tryz.func76,Tryz.ntmps76
  go_wp2_with fail
  go_ret
  exact⟨Zah (by rw [HX.out,HG.out]),HW1.out⟩
 have t1:(o.toList==[110,97,109,101])=false:=Zat _ hname
 by_cases hpre:o=oPre
 ·have h1:=hpr hpre
  have h0:0<l.length:=by omega
  have t2:(o.toList==[112,114,101])=true:=by rw [← dLit];simpa using hpre
  have HX:=Zhd (show lateOf (getI m) (.mk o n s l)=min (2:Int) (lateOf (getI m) l[0]+1) from by simp only [lateOf];rw [if_neg hname,if_pos hpre,Zb5 _ l 0 h0])
  obtain⟨b,off,ax,cx,rfl,c0,c1,c2,c3,hx⟩:=ExsV.at HU.out h0
  have c0:=hH1.cell c0
  have c1:=hH1.cell c1
  have c2:=hH1.cell c2
  have c3:=hH1.cell c3
  simp only [Nat.zero_mul,Nat.add_zero] at c0 c1 c2 c3
  have hmem:=List.getElem_mem h0
  have hbx:=HBD.out l[0]
  have hgt:(0:Int)<l.length:=by omega
  clear hname hpre hfby harr hpr h1
  generalize l[0]=x at *
  go_enter Tryz.func76,Tryz.ntmps76
  go_wp2_with fail
  refine (HIH.out x hmem _ hx _ hH1 HM1.out).mono ?_
  rintro r w2 ⟨rfl,hb2⟩
  have HB:=Zhd (HW1.out.trans (hb2.mono (by simp)))
  generalize lateOf (getI m) x=q at *
  go_wp2_with fail
  all_goals go_ret
  all_goals exact⟨Zah (by rw [HX.out];try omega),HB.out⟩
 have t2:(o.toList==[112,114,101])=false:=Zat _ hpre
 by_cases hab:o=Zbm∨o=oFby
 ·have h2:l.length=2:=by rcases hab with h | h;exact harr h;exact hfby h
  have h0:0<l.length:=by omega
  have h1:1<l.length:=by omega
  obtain⟨b,off,ax,cx,rfl,c0,c1,c2,c3,hx0⟩:=ExsV.at HU.out h0
  obtain⟨b1,off1,ax1,cx1,hb1,d0,d1,d2,d3,hx1⟩:=ExsV.at HU.out h1
  cases hb1
  have hm0:=List.getElem_mem h0
  have hm1:=List.getElem_mem h1
  have HX:=Zhd (show lateOf (getI m) (.mk o n s l)=(if (if o=oFby then min (2:Int) (lateOf (getI m) l[1]+1) else lateOf (getI m) l[1])=2 then 2 else lateOf (getI m) l[0]) from by
   simp only [lateOf];rw [if_neg hname,if_neg hpre,if_pos hab,Zb5 _ l 0 h0,Zb5 _ l 1 h1])
  have hbx0:=HBD.out l[0]
  have hbx1:=HBD.out l[1]
  have X0:=Zhd (HIH.out l[0] hm0 _ hx0)
  have X1:=Zhd (HIH.out l[1] hm1 _ hx1)
  generalize l[0]=x0 at *
  generalize l[1]=x1 at *
  have c0:=hH1.cell c0
  have c1:=hH1.cell c1
  have c2:=hH1.cell c2
  have c3:=hH1.cell c3
  have d0:=hH1.cell d0
  have d1:=hH1.cell d1
  have d2:=hH1.cell d2
  have d3:=hH1.cell d3
  simp only [Nat.zero_mul,Nat.one_mul,Nat.add_zero] at c0 c1 c2 c3 d0 d1 d2 d3
  have hgt0:(0:Int)<l.length:=by omega
  have hgt1:(1:Int)<l.length:=by omega
  have q3:(w.alloc (.cells #[.string o,.int .i64 n,.string s,.slice (some ⟨b,off,none⟩) l.length c] 97)).cell? ⟨w.heap.size,3,none⟩=some (.slice (some ⟨b,off,none⟩) l.length c):=by rw [World.cell?_alloc_new];rfl
  have q0:(w.alloc (.cells #[.string o,.int .i64 n,.string s,.slice (some ⟨b,off,none⟩) l.length c] 97)).cell? ⟨w.heap.size,0,none⟩=some (.string o):=by rw [World.cell?_alloc_new];rfl
  have hS0:(fun w':World=>w'.cell? ⟨w.heap.size,3,none⟩=some (.slice (some ⟨b,off,none⟩) l.length c)∧w'.cell? ⟨b,off,none⟩=some (.string x0.op)∧w'.cell? ⟨b,off+1,none⟩=some (.int .i64 x0.n)∧w'.cell? ⟨b,off+2,none⟩=some (.string x0.s)∧w'.cell? ⟨b,off+3,none⟩=some (.slice ax x0.l.length cx)∧
   w'.cell? ⟨b,off+4,none⟩=some (.string x1.op)∧w'.cell? ⟨b,off+4+1,none⟩=some (.int .i64 x1.n)∧w'.cell? ⟨b,off+4+2,none⟩=some (.string x1.s)∧w'.cell? ⟨b,off+4+3,none⟩=some (.slice ax1 x1.l.length cx1)∧H.In w'∧Zaw (Value.int .i64) w' bm m∧Below w.heap.size w w'∧w.heap.size<w'.heap.size∧w'.cell? ⟨w.heap.size,0,none⟩=some (.string o)) (w.alloc (.cells #[.string o,.int .i64 n,.string s,.slice (some ⟨b,off,none⟩) l.length c] 97)).drew:=⟨q3,c0,c1,c2,c3,d0,d1,d2,d3,hH1,HM1.out,HW1.out.drew,by show w.heap.size<(w.alloc _).heap.size;simp,q0⟩
  have hKS:∀ u u':World,Below u.heap.size u u'→(fun w':World=>w'.cell? ⟨w.heap.size,3,none⟩=some (.slice (some ⟨b,off,none⟩) l.length c)∧w'.cell? ⟨b,off,none⟩=some (.string x0.op)∧w'.cell? ⟨b,off+1,none⟩=some (.int .i64 x0.n)∧w'.cell? ⟨b,off+2,none⟩=some (.string x0.s)∧w'.cell? ⟨b,off+3,none⟩=some (.slice ax x0.l.length cx)∧
   w'.cell? ⟨b,off+4,none⟩=some (.string x1.op)∧w'.cell? ⟨b,off+4+1,none⟩=some (.int .i64 x1.n)∧w'.cell? ⟨b,off+4+2,none⟩=some (.string x1.s)∧w'.cell? ⟨b,off+4+3,none⟩=some (.slice ax1 x1.l.length cx1)∧H.In w'∧Zaw (Value.int .i64) w' bm m∧Below w.heap.size w w'∧w.heap.size<w'.heap.size∧w'.cell? ⟨w.heap.size,0,none⟩=some (.string o)) u→(fun w':World=>w'.cell? ⟨w.heap.size,3,none⟩=some (.slice (some ⟨b,off,none⟩) l.length c)∧w'.cell? ⟨b,off,none⟩=some (.string x0.op)∧w'.cell? ⟨b,off+1,none⟩=some (.int .i64 x0.n)∧w'.cell? ⟨b,off+2,none⟩=some (.string x0.s)∧w'.cell? ⟨b,off+3,none⟩=some (.slice ax x0.l.length cx)∧
   w'.cell? ⟨b,off+4,none⟩=some (.string x1.op)∧w'.cell? ⟨b,off+4+1,none⟩=some (.int .i64 x1.n)∧w'.cell? ⟨b,off+4+2,none⟩=some (.string x1.s)∧w'.cell? ⟨b,off+4+3,none⟩=some (.slice ax1 x1.l.length cx1)∧H.In w'∧Zaw (Value.int .i64) w' bm m∧Below w.heap.size w w'∧w.heap.size<w'.heap.size∧w'.cell? ⟨w.heap.size,0,none⟩=some (.string o)) u':=by
   rintro u u' hb ⟨k0,k1,k2,k3,k4,k5,k6,k7,k8,k9,k10,k11,k12,k13⟩
   have hc:∀ bq i q,u.cell? ⟨bq,i,none⟩=some q→u'.cell? ⟨bq,i,none⟩=some q:=fun bq i q e=>by rw [hb.cell (p:=⟨bq,i,none⟩) (World.block_lt_of_cell? u ⟨bq,i,none⟩ e)];exact e
   exact⟨hc _ _ _ k0,hc _ _ _ k1,hc _ _ _ k2,hc _ _ _ k3,hc _ _ _ k4,hc _ _ _ k5,hc _ _ _ k6,hc _ _ _ k7,hc _ _ _ k8,k9.below hb,k10.below hb,k11.trans (hb.mono k11.size),by have:=hb.size;omega,hc _ _ _ k13⟩
  have KS:=Zhd hKS
  have HS0:=Zhd hS0
  have hway:((o.toList==[45,62])=true∧(o.toList==[102,98,121])=false∧o≠oFby)∨((o.toList==[45,62])=false∧(o.toList==[102,98,121])=true∧o=oFby):=by
   rcases hab with h | h
   ·left;subst h;exact⟨by rw [← dLit];decide,by rw [← dLit];decide,by decide⟩
   right;subst h;exact⟨by rw [← dLit];decide,by rw [← dLit];decide,rfl⟩
  clear hname hpre hab hfby harr hpr h2 hx0 hx1 hS0 hKS c0 c1 c2 c3 d0 d1 d2 d3 q0 q3
  have HL0:=Zhd hbx0
  generalize hv0:lateOf (getI m) x0=v0 at *
  generalize hv1:lateOf (getI m) x1=v1 at *
  have HV:=Zhd (And.intro hv0 hv1)
  clear hv0 hv1
  rcases hway with ⟨t3,t4,hof⟩ | ⟨t3,t4,hof⟩
  all_goals
   have HOF:=Zhd hof
   clear hof
   go_enter Tryz.func76,Tryz.ntmps76
   go_wp2_with fail
   go_region_held3 (fun w'=>w'.cell? ⟨w.heap.size,3,none⟩=some (.slice (some ⟨b,off,none⟩) l.length c)∧w'.cell? ⟨b,off,none⟩=some (.string x0.op)∧w'.cell? ⟨b,off+1,none⟩=some (.int .i64 x0.n)∧w'.cell? ⟨b,off+2,none⟩=some (.string x0.s)∧w'.cell? ⟨b,off+3,none⟩=some (.slice ax x0.l.length cx)∧
   w'.cell? ⟨b,off+4,none⟩=some (.string x1.op)∧w'.cell? ⟨b,off+4+1,none⟩=some (.int .i64 x1.n)∧w'.cell? ⟨b,off+4+2,none⟩=some (.string x1.s)∧w'.cell? ⟨b,off+4+3,none⟩=some (.slice ax1 x1.l.length cx1)∧H.In w'∧Zaw (Value.int .i64) w' bm m∧Below w.heap.size w w'∧w.heap.size<w'.heap.size∧w'.cell? ⟨w.heap.size,0,none⟩=some (.string o))
    (first | (exact HS0.out) | assumption | (refine KS.out _ _ ?_ (by assumption);assumption))
    (first
     | (go_at_call 76;(with_reducible refine (X0.out _ ?_ ?_).mono ?_);(go_split_ands;assumption);(go_split_ands;assumption);rintro r wc ⟨rfl,hbc⟩)
     | (go_at_call 76;(with_reducible refine (X1.out _ ?_ ?_).mono ?_);(go_split_ands;assumption);(go_split_ands;assumption);rintro r wc ⟨rfl,hbc⟩))
   all_goals go_split_ands
   all_goals go_wp2_with fail
   all_goals go_ret
   all_goals refine⟨Zah ?_,by assumption⟩
   all_goals rw [HX.out]
   all_goals (first | rw [if_neg HOF.out] | rw [if_pos HOF.out])
   all_goals (split<;>first | omega | (rename_i g1 g2;simp only [beq_iff_eq,beq_eq_false_iff_ne,ne_eq] at g1;(try split at g1)<;>omega))
 have t3:(o.toList==[45,62])=false:=Zat _ (fun h=>hab (.inl h))
 have t4:(o.toList==[102,98,121])=false:=Zat _ (fun h=>hab (.inr h))
 have HX:=Zhd (show lateOf (getI m) (.mk o n s l)=(Za8 (getI m) l).foldl max 0 from by simp only [lateOf];rw [if_neg hname,if_neg hpre,if_neg hab])
 clear hname hpre hab hfby harr hpr
 go_enter Tryz.func76,Tryz.ntmps76
 go_wp2_with fail
 generalize w.alloc (.cells #[.string o,.int .i64 n,.string s,.slice a l.length c] 97)=W at *
 go_loopw [7,55] (fun q i wr=>∃ k:Nat,i = .int .i64 k∧k≤l.length∧q = .int .i64 ((Za8 (getI m) (l.take k)).foldl max 0)∧Below w.heap.size w wr∧Below W.heap.size W wr) (fun _ i _=>l.length - (intOf i).toNat)
 case atStart=>exact⟨0,rfl,Nat.zero_le _,rfl,HW1.out,Below.refl _ _⟩
 obtain⟨k,rfl,hk,rfl,hb,hbW⟩:=hrel
 have HB:=Zhd (And.intro hb hbW)
 clear hb hbW
 by_cases hkl:k<l.length
 ·obtain⟨b,off,ax,cx,rfl,c0,c1,c2,c3,hx⟩:=ExsV.at HU.out hkl
  have hin:=hH.below HB.out.1
  have c0:=hin.cell c0
  have c1:=hin.cell c1
  have c2:=hin.cell c2
  have c3:=hin.cell c3
  have hmem:=List.getElem_mem hkl
  have LT:=Zhd (show (Za8 (getI m) (l.take (k+1))).foldl max 0=max ((Za8 (getI m) (l.take k)).foldl max 0) (lateOf (getI m) l[k]) from by rw [Zf9 _ l k hkl,List.foldl_append];rfl)
  have hbx:=HBD.out l[k]
  have HMr:=Zhd (HM1.out.below HB.out.2)
  have hfb:=Zid (Za8 (getI m) (l.take k)) 0 (by omega) (by omega) (fun x hx=>by
   obtain⟨e,_,rfl⟩:=Zfl _ _ _ hx
   exact HBD.out e)
  generalize l[k]=x at *
  generalize (Za8 (getI m) (l.take k)).foldl max 0=acc at *
  go_wp2_with fail
  refine (HIH.out x hmem _ hx _ (hin.alloc _) (HMr.out.alloc _)).mono ?_
  rintro r w2 ⟨rfl,hb2⟩
  have hs1:=HB.out.1.size
  have hs2:=HB.out.2.size
  have HB2:=Zhd (And.intro ((HB.out.1.alloc hs1 _).trans (hb2.mono (by simp;omega))) ((HB.out.2.alloc hs2 _).trans (hb2.mono (by simp;omega))))
  generalize lateOf (getI m) x=q at *
  go_wp2_with fail
  all_goals go_roundw
  all_goals (first | (case rel=>exact⟨k+1,by go_num,by omega,by rw [LT.out];congr 1;omega,HB2.out.1,HB2.out.2⟩) | skip)
  all_goals (simp [intOf];omega)
 go_wp2_with fail
 go_ret
 exact⟨Zah (by rw [HX.out,List.take_of_length_le (by omega)]),HB.out.1⟩
theorem Zke (m:Env Int) (k:ByteArray) (v:Int):getI (m.set k v)=setL (getI m) k v:=by
 funext s
 unfold getI Env.set setL
 split<;>rfl
structure NamS (w wr:World) (bm:Nat) (m:Env Int) (vl:Value):Prop where
 below:Below w.heap.size w wr
 size:w.heap.size+2≤wr.heap.size
 mp:Zaw (Value.int .i64) wr bm m
 box:wr.cell? ⟨w.heap.size,2,none⟩=some vl
 bd:∀ s,0≤getI m s∧getI m s≤2
theorem NamS.next {w wr w':World} {bm:Nat} {m:Env Int} {vl:Value} (h:NamS w wr bm m vl) (hb:Below wr.heap.size wr w'):NamS w w' bm m vl:=by
 have hs:=h.size
 exact⟨h.below.trans (hb.mono (by omega)),Nat.le_trans hs hb.size,h.mp.below hb,by rw [hb.cell (p:=⟨w.heap.size,2,none⟩) (show w.heap.size<wr.heap.size by omega)];exact h.box,h.bd⟩
theorem names_new (H:Kn) (p:Pr) (vi vo vl va vc:Value) (hp:PrP H p vi vo vl va vc) (ks:Env Int) (hfm:∀ f∈p.fl,Zaf ks f.e=true) (hn:p.fl.length≤1000000) (w:World) (hH:H.In w):
  Calls Tryz.prog 56 #[.agg #[vi,vo,vl,va,vc]] w fun r w'=>∃ bm m,r = .returned (.map (some bm))∧Zaw (Value.int .i64) w' bm m∧getI m=Zac p∧(∀ s,0≤getI m s∧getI m s≤2)∧w.heap.size≤bm∧Below w.heap.size w w':=by
 obtain⟨h1,h2,h3,h4,h5⟩:=hp
 obtain⟨ai,ci,rfl⟩:=h1.len
 obtain⟨ao,co,rfl⟩:=h2.len
 obtain⟨al,cl,rfl⟩:=h3.len
 obtain⟨aa,ca,rfl⟩:=h4.len
 obtain⟨ac,cc,rfl⟩:=h5.len
 have H3:=Zhd h3
 have HFM:=Zhd hfm
 clear h1 h2 h3 h4 h5 hfm
 have hmm:=@run_makeMap Tryz.prog
 go_enter Tryz.func56,Tryz.ntmps56
 go_wp2_with fail
 have hN0:NamS w ((w.alloc (.cells #[.slice ai p.ins.length ci,.slice ao p.outs.length co,.slice al p.fl.length cl,.slice aa p.as.length ca,.slice ac p.cs.length cc] 41)).alloc (.map #[] 0)) (w.heap.size+1) Env.none (.slice al p.fl.length cl):=by
  refine⟨((Below.refl _ _).alloc (Nat.le_refl _) _).alloc (by simp) _,by simp,?_,by rw [World.cell?_alloc_past _ _ _ (by simp),World.cell?_alloc_new];rfl,fun s=>by simp [getI,Env.none]⟩
  have:=Zaw.made (Value.int .i64) (w.alloc (.cells #[.slice ai p.ins.length ci,.slice ao p.outs.length co,.slice al p.fl.length cl,.slice aa p.as.length ca,.slice ac p.cs.length cc] 41))
  simpa using this
 generalize (w.alloc (.cells #[.slice ai p.ins.length ci,.slice ao p.outs.length co,.slice al p.fl.length cl,.slice aa p.as.length ca,.slice ac p.cs.length cc] 41)).alloc (.map #[] 0)=W0 at *
 have HN0:=Zhd hN0
 have HM0:=Zhd (show Zft p.fl (2 * p.fl.length+1) (getI Env.none)=Zac p from rfl)
 have HMU:=Zhd (show mu (getI Env.none) p.fl<2 * p.fl.length+1 from by have:=mu_zero p.fl;show mu (fun _=>0) p.fl<_;omega)
 clear hN0
 go_loopg [4] (2 * p.fl.length+1) (fun f u4 wr=>∃ m b,u4 = .bool b∧NamS w wr (w.heap.size+1) m (.slice al p.fl.length cl)∧((b=true∧Zft p.fl f (getI m)=Zac p∧mu (getI m) p.fl<f)∨(b=false∧getI m=Zac p)))
 case atStart=>exact⟨Env.none,true,rfl,HN0.out,.inl ⟨rfl,HM0.out,HMU.out⟩⟩
 obtain⟨m,b,rfl,hN,hway⟩:=hrel
 have HN:=Zhd hN
 have hz:=hN.size
 clear hN
 rcases hway with ⟨rfl,hnm,hmu⟩ | ⟨rfl,hnm⟩
 ·have HNM:=Zhd hnm
  have HMU:=Zhd hmu
  have hbox:=HN.out.box
  clear hnm hmu
  go_wp2_with fail
  obtain⟨f0,hf0⟩:∃ f0,gk=f0:=⟨_,rfl⟩
  go_loopw [4,13] (fun u4 i wr=>∃ (k:Nat) (m':Env Int) (b:Bool),i = .int .i64 k∧u4 = .bool b∧k≤p.fl.length∧NamS w wr (w.heap.size+1) m' (.slice al p.fl.length cl)∧Zaq p.fl (getI m) false=Zaq (p.fl.drop k) (getI m') b∧(∀ s,getI m s≤getI m' s)∧(b=true→∃ f∈p.fl,getI m f.name<getI m' f.name)) (fun _ i _=>p.fl.length - (intOf i).toNat)
  case atStart=>exact⟨0,m,false,rfl,rfl,Nat.zero_le _,HN.out,by simp,fun s=>Int.le_refl _,fun h=>by cases h⟩
  obtain⟨k,m',b,rfl,rfl,hk,hN',hrd,hle,hgain⟩:=hrel
  have HN':=Zhd hN'
  have HRD:=Zhd hrd
  have HLE:=Zhd hle
  have HGAIN:=Zhd hgain
  have hz':=hN'.size
  clear hN' hrd hle hgain
  by_cases hkl:k<p.fl.length
  ·obtain⟨b1,off,rfl,_,hfc⟩:=SlV.at H3.out hkl
   have hfm:=HFM.out p.fl[k] (List.getElem_mem hkl)
   have hmem:=List.getElem_mem hkl
   obtain⟨u,c0,c1,c2,c3,c4,c5,hu⟩:=hfc.cells
   obtain⟨ax,cx,rfl⟩:=hu.len
   have hHr:=hH.below HN'.out.below
   have c0:=hHr.cell c0
   have c1:=hHr.cell c1
   have c2:=hHr.cell c2
   have c3:=hHr.cell c3
   have c4:=hHr.cell c4
   have c5:=hHr.cell c5
   simp only [Nat.add_zero] at c0
   have hEx:ExV H p.fl[k].e (.agg #[.string p.fl[k].e.op,.int .i64 p.fl[k].e.n,.string p.fl[k].e.s,.slice ax p.fl[k].e.l.length cx]):=⟨_,rfl,hu⟩
   have HEX:=Zhd hEx
   have HDR:=Zhd (drop_round hkl (getI m') b)
   have HLB:=Zda (getI m') HN'.out.bd p.fl[k].e
   have HNB:=HN'.out.bd p.fl[k].name
   have hbox':=HN'.out.box
   clear hu hfc hEx
   generalize p.fl[k]=x at *
   obtain⟨xn,xk,xe⟩:=x
   dsimp only at *
   generalize xe.op=xo at *
   generalize xe.n=xnn at *
   generalize xe.s=xs at *
   generalize xe.l.length=xl at *
   have HMEM:=Zhd hmem
   clear hmem
   have HNx:=Zhd (HN'.out.next ((Below.refl _ _).alloc (Nat.le_refl _) (.cells #[.string xn,.int .i64 xk,.string xo,.int .i64 xnn,.string xs,.slice ax xl cx] 100)))
   have HHx:=Zhd (hH.below HNx.out.below)
   go_wp2_with fail
   refine (late_any H m' (w.heap.size+1) HNx.out.bd ks xe hfm _ HEX.out _ HHx.out HNx.out.mp).mono ?_
   rintro r w2 ⟨rfl,hb2⟩
   have HN2:=Zhd (HNx.out.next hb2)
   have hq2:w2.cell? ⟨wr.heap.size,0,none⟩=some (.string xn):=by
    rw [hb2.cell (p:=⟨wr.heap.size,0,none⟩) (by simp),World.cell?_alloc_new];rfl
   have hs2:=hb2.size
   simp at hs2
   have hrun:=HN2.out.mp.run (P:=Tryz.prog) Tryz.underlying125 Tryz.underlying9 (d:=0) (by kernel_rfl) xn false
   simp only [Bool.false_eq_true,if_false] at hrun
   have HG:=Zhd (show getI m' xn=(m' xn).getD 0 from rfl)
   generalize lateOf (getI m') xe=q at *
   generalize hg:(m' xn).getD 0=g at *
   rw [HG.out] at HDR HNB
   have HTAKE:=Zhd (show ∀ v,getI (m'.set xn v) xn=v from fun v=>by rw [Zke];simp [setL])
   by_cases hlt:g<q
   ·have HDR':=Zhd (show Zaq (List.drop k p.fl) (getI m') b=Zaq (List.drop (k+1) p.fl) (getI (m'.set xn q)) true from by rw [HDR.out,if_pos hlt,Zke])
    have HM2:=Zhd HN2.out.mp
    go_wp2_with (at_mapUpdate;refine Zff (Value.int .i64) 125 9 3 Tryz.underlying125 Tryz.underlying9 (w.heap.size+1) m' HM2.out _ _ _ rfl rfl rfl xn rfl q rfl ?_;intro w3 hM3 hT3)
    have HN3:=Zhd (show NamS w w3 (w.heap.size+1) (m'.set xn q) (.slice (some ⟨b1,off,none⟩) p.fl.length cl) from⟨hT3.below HN2.out.below (Nat.le_succ _),by rw [hT3.size];exact HN2.out.size,hM3,by rw [hT3.cell (p:=⟨w.heap.size,2,none⟩) (show w.heap.size≠w.heap.size+1 by omega)];exact HN2.out.box,fun s=>by
     rw [Zke];unfold setL;split
     ·exact HLB
     exact HN'.out.bd s⟩)
    go_roundw
    case rel=>
     refine⟨k+1,_,true,by go_num,rfl,by omega,HN3.out,by rw [HRD.out,HDR'.out],fun s=>?_,fun _=>⟨_,HMEM.out,?_⟩⟩
     ·have h1:=HLE.out s
      rw [Zke];unfold setL;split
      ·rename_i he;rw [he] at h1 ⊢;rw [HG.out] at h1;omega
      exact h1
     have h1:=HLE.out xn
     show getI m xn<_
     rw [HTAKE.out];rw [HG.out] at h1;omega
    simp [intOf];omega
   have HDR':=Zhd (show Zaq (List.drop k p.fl) (getI m') b=Zaq (List.drop (k+1) p.fl) (getI m') b from by rw [HDR.out,if_neg hlt])
   go_wp2_with fail
   go_roundw
   case rel=>exact⟨k+1,m',b,by go_num,rfl,by omega,HN2.out,by rw [HRD.out,HDR'.out],HLE.out,HGAIN.out⟩
   simp [intOf];omega
  obtain rfl:k=p.fl.length:=by omega
  have hR:Zaq p.fl (getI m) false=(getI m',b):=by rw [HRD.out,List.drop_length];rfl
  have HR:=Zhd hR
  clear hR
  go_wp2_with fail
  go_roundg (gk - 1)
  case rel=>
   obtain⟨g',rfl⟩:∃ g',gk=g'+1:=⟨gk - 1,by have:=HMU.out;omega⟩
   have hstep:=HNM.out
   rw [Zhj,HR.out] at hstep
   cases b with
   | true=>
    obtain⟨f,hf,hgt⟩:=HGAIN.out rfl
    have:=mu_lt (getI m) (getI m') HLE.out (fun s=>(HN'.out.bd s).2) p.fl f hf hgt
    have hm:=HMU.out
    exact⟨m',true,rfl,HN'.out,.inl ⟨rfl,hstep,by omega⟩⟩
   | false=>exact⟨m',false,rfl,HN'.out,.inr ⟨rfl,hstep⟩⟩
  have:=HMU.out;omega
 have HNM:=Zhd hnm
 go_wp2_with fail
 go_ret
 exact⟨_,m,rfl,HN.out.mp,HNM.out,HN.out.bd,Nat.le_succ _,HN.out.below⟩
theorem names_any (H:Kn) (p:Pr) (vi vo vl va vc:Value) (hp:PrP H p vi vo vl va vc) (ks:Env Int) (hfm:∀ f∈p.fl,Zaf ks f.e=true) (hn:p.fl.length≤1000000) (w:World) (hH:H.In w):
  Calls Tryz.prog 56 #[.agg #[vi,vo,vl,va,vc]] w fun r w'=>∃ bm m,r = .returned (.map (some bm))∧Zaw (Value.int .i64) w' bm m∧getI m=Zac p∧(∀ s,0≤getI m s∧getI m s≤2)∧Below w.heap.size w w':=
 (names_new H p vi vo vl va vc hp ks hfm hn w hH).mono fun _ _ ⟨bm,m,h1,h2,h3,h4,_,h5⟩=>⟨bm,m,h1,h2,h3,h4,h5⟩
end Go.Proofs.YtgoccoldkfpbgaaGreatDoor
