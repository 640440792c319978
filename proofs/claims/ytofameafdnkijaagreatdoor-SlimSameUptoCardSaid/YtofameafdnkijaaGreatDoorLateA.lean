/- Walks: order.LateOf. -/
import Derived.Test.YtofameafdnkijaaGreatDoorRg
import Derived.Test.YtofameafdnkijaaGreatDoorNeeds
import Derived.Test.YtofameafdnkijaaGreatDoorKind
import Derived.Deep.RegionHeld3
import Derived.Test.YtofameafdnkijaaGreatDoorAp
import Derived.Deep.LoopGhost
set_option linter.all false
namespace Go.Proofs.YtofameafdnkijaaGreatDoor
set_option maxRecDepth 100000
set_option maxHeartbeats 16000000
open Go.RowKit Mx
def getI (m:Env Int):ByteArray→Int:=fun s=>(m s).getD 0
theorem foldl_max:∀ (l:List Int) (a:Int),0≤a→a≤2→(∀ x∈l,0≤x∧x≤2)→0≤l.foldl max a∧l.foldl max a≤2
 | [],a,h1,h2,_=>⟨h1,h2⟩
 | x :: l,a,h1,h2,h=>by
  have:=h x (List.mem_cons_self ..)
  exact foldl_max l (max a x) (by omega) (by omega) (fun y hy=>h y (List.mem_cons_of_mem _ hy))
theorem Zhy (late:ByteArray→Int):∀ (l:List Ex) (x:Int),x∈Zan late l→∃ e∈l,x=Zac late e
 | [],x,h=>by simp [Zan] at h
 | e :: l,x,h=>by
  simp only [Zan,List.mem_cons] at h
  rcases h with rfl | h
  ·exact⟨e,List.mem_cons_self ..,rfl⟩
  obtain⟨e',h1,h2⟩:=Zhy late l x h
  exact⟨e',List.mem_cons_of_mem _ h1,h2⟩
theorem getD_bound (l:List Int) (i:Nat) (h:∀ x∈l,0≤x∧x≤2):0≤l.getD i 0∧l.getD i 0≤2:=by
 rw [List.getD_eq_getElem?_getD]
 cases hq:l[i]? with
 | none=>simp
 | some x=>exact h x (List.mem_of_getElem? hq)
theorem Zbj (late:ByteArray→Int) (hl:∀ s,0≤late s∧late s≤2):∀ e:Ex,0≤Zac late e∧Zac late e≤2:=by
 refine Ex.ind fun o n s l ih=>?_
 have hr:∀ x∈Zan late l,0≤x∧x≤2:=fun x hx=>by
  obtain⟨e,h1,rfl⟩:=Zhy late l x hx
  exact ih e h1
 have h0:=getD_bound _ 0 hr
 have h1:=getD_bound _ 1 hr
 have hm:=foldl_max (Zan late l) 0 (by omega) (by omega) hr
 simp only [Zac]
 split
 ·exact hl s
 split
 ·omega
 split
 ·split<;>omega
 exact hm
theorem Zjh (late:ByteArray→Int):∀ (l:List Ex) (k:Nat) (h:k<l.length),Zan late (l.take (k+1))=Zan late (l.take k)++[Zac late l[k]]
 | e :: l,0,_=>by simp [Zan]
 | e :: l,k+1,h=>by
  have:=Zjh late l k (by simpa using h)
  simp only [List.take_succ_cons,Zan,List.getElem_cons_succ]
  rw [this];rfl
theorem Zfr (late:ByteArray→Int):∀ (l:List Ex) (k:Nat) (h:k<l.length),(Zan late l).getD k 0=Zac late l[k]
 | e :: l,0,_=>by simp [Zan]
 | e :: l,k+1,h=>by
  have:=Zfr late l k (by simpa using h)
  simpa [Zan] using this
theorem Zfs (H:Kn) (m:Env Int) (bm:Nat) (hl:∀ s,0≤getI m s∧getI m s≤2) (ks:Env Int):∀ (e:Ex),Zad ks e=true→∀ v,ExV H e v→∀ w,H.In w→Zaw (Value.int .i64) w bm m→
  Calls Tryz.prog 82 #[v,.map (some bm)] w fun r w'=>r = .returned (.int .i64 (Zac (getI m) e))∧Below w.heap.size w w':=by
 refine Ex.ind fun o n s l ih hf v hv w hH hM=>?_
 obtain⟨u,rfl,hu⟩:=hv
 simp only [Ex.op,Ex.n,Ex.s,Ex.l] at hu ⊢
 obtain⟨a,c,rfl⟩:=hu.len
 obtain⟨hfl,hfby,harr,hpr,_⟩:=Zaz hf
 have HU:=Zhd hu
 have HIH:=Zhd fun e he=>ih e he (hfl e he)
 have HBD:=Zhd (Zbj (getI m) hl)
 have hlt:l.length≤9223372036854775807:=by
  rcases hu with ⟨rfl,_⟩ | ⟨_,_,c',_,h1,h2,_⟩
  ·simp
  unfold maxLen at h2;omega
 have hW1:Below w.heap.size w (w.alloc (.cells #[.string o,.int .i64 n,.string s,.slice a l.length c] 69)):=(Below.refl _ _).alloc (Nat.le_refl _) _
 have hM1:=hM.alloc (.cells #[.string o,.int .i64 n,.string s,.slice a l.length c] 69)
 have hH1:=hH.alloc (.cells #[.string o,.int .i64 n,.string s,.slice a l.length c] 69)
 have HW1:=Zhd hW1
 have HM1:=Zhd hM1
 clear hu ih hfl hf hM hM1 hW1
 by_cases hname:o=Zbg
 ·have HX:=Zhd (show Zac (getI m) (.mk o n s l)=getI m s from by simp only [Zac];rw [if_pos hname])
  have t1:(o.toList==[110,97,109,101])=true:=by rw [← dLit];simpa using hname
  have hrun:=HM1.out.run (P:=Tryz.prog) Tryz.underlying97 Tryz.underlying9 (d:=0) (by kernel_rfl) s false
  simp only [Bool.false_eq_true,if_false] at hrun
  have HG:=Zhd (show getI m s=(m s).getD 0 from rfl)
  generalize (m s).getD 0=q at *
  clear hname hfby harr hpr
  go_enter Tryz.func82,Tryz.ntmps82
  go_wp2_with fail
  go_ret
  exact⟨Zat (by rw [HX.out,HG.out]),HW1.out⟩
 have t1:(o.toList==[110,97,109,101])=false:=Zb4 _ hname
 by_cases hpre:o=oPre
 ·have h1:=hpr hpre
  have h0:0<l.length:=by omega
  have t2:(o.toList==[112,114,101])=true:=by rw [← dLit];simpa using hpre
  have HX:=Zhd (show Zac (getI m) (.mk o n s l)=min (2:Int) (Zac (getI m) l[0]+1) from by simp only [Zac];rw [if_neg hname,if_pos hpre,Zfr _ l 0 h0])
  obtain⟨b,off,ax,cx,rfl,c0,c1,c2,c3,hx⟩:=ExsV.at HU.out h0
  have c0:=hH1.cell c0
  have c1:=hH1.cell c1
  have c2:=hH1.cell c2
  have c3:=hH1.cell c3
  simp only [Nat.zero_mul,Nat.add_zero] at c0 c1 c2 c3
  have hmem:=List.getElem_mem h0
  have hbx:=HBD.out l[0]
  have hgt:(0:Int)<l.length:=by omega
  clear hname hpre hfby harr hpr h1
  generalize l[0]=x at *
  go_enter Tryz.func82,Tryz.ntmps82
  go_wp2_with fail
  refine (HIH.out x hmem _ hx _ hH1 HM1.out).mono ?_
  rintro r w2 ⟨rfl,hb2⟩
  have HB:=Zhd (HW1.out.trans (hb2.mono (by simp)))
  generalize Zac (getI m) x=q at *
  go_wp2_with fail
  all_goals go_ret
  all_goals exact⟨Zat (by rw [HX.out];try omega),HB.out⟩
 have t2:(o.toList==[112,114,101])=false:=Zb4 _ hpre
 by_cases hab:o=Zbq∨o=oFby
 ·have h2:l.length=2:=by rcases hab with h | h;exact harr h;exact hfby h
  have h0:0<l.length:=by omega
  have h1:1<l.length:=by omega
  obtain⟨b,off,ax,cx,rfl,c0,c1,c2,c3,hx0⟩:=ExsV.at HU.out h0
  obtain⟨b1,off1,ax1,cx1,hb1,d0,d1,d2,d3,hx1⟩:=ExsV.at HU.out h1
  cases hb1
  have hm0:=List.getElem_mem h0
  have hm1:=List.getElem_mem h1
  have HX:=Zhd (show Zac (getI m) (.mk o n s l)=(if (if o=oFby then min (2:Int) (Zac (getI m) l[1]+1) else Zac (getI m) l[1])=2 then 2 else Zac (getI m) l[0]) from by
   simp only [Zac];rw [if_neg hname,if_neg hpre,if_pos hab,Zfr _ l 0 h0,Zfr _ l 1 h1])
  have hbx0:=HBD.out l[0]
  have hbx1:=HBD.out l[1]
  have X0:=Zhd (HIH.out l[0] hm0 _ hx0)
  have X1:=Zhd (HIH.out l[1] hm1 _ hx1)
  generalize l[0]=x0 at *
  generalize l[1]=x1 at *
  have c0:=hH1.cell c0
  have c1:=hH1.cell c1
  have c2:=hH1.cell c2
  have c3:=hH1.cell c3
  have d0:=hH1.cell d0
  have d1:=hH1.cell d1
  have d2:=hH1.cell d2
  have d3:=hH1.cell d3
  simp only [Nat.zero_mul,Nat.one_mul,Nat.add_zero] at c0 c1 c2 c3 d0 d1 d2 d3
  have hgt0:(0:Int)<l.length:=by omega
  have hgt1:(1:Int)<l.length:=by omega
  have q3:(w.alloc (.cells #[.string o,.int .i64 n,.string s,.slice (some ⟨b,off,none⟩) l.length c] 69)).cell? ⟨w.heap.size,3,none⟩=some (.slice (some ⟨b,off,none⟩) l.length c):=by rw [World.cell?_alloc_new];rfl
  have q0:(w.alloc (.cells #[.string o,.int .i64 n,.string s,.slice (some ⟨b,off,none⟩) l.length c] 69)).cell? ⟨w.heap.size,0,none⟩=some (.string o):=by rw [World.cell?_alloc_new];rfl
  have hS0:(fun w':World=>w'.cell? ⟨w.heap.size,3,none⟩=some (.slice (some ⟨b,off,none⟩) l.length c)∧w'.cell? ⟨b,off,none⟩=some (.string x0.op)∧w'.cell? ⟨b,off+1,none⟩=some (.int .i64 x0.n)∧w'.cell? ⟨b,off+2,none⟩=some (.string x0.s)∧w'.cell? ⟨b,off+3,none⟩=some (.slice ax x0.l.length cx)∧
   w'.cell? ⟨b,off+4,none⟩=some (.string x1.op)∧w'.cell? ⟨b,off+4+1,none⟩=some (.int .i64 x1.n)∧w'.cell? ⟨b,off+4+2,none⟩=some (.string x1.s)∧w'.cell? ⟨b,off+4+3,none⟩=some (.slice ax1 x1.l.length cx1)∧H.In w'∧Zaw (Value.int .i64) w' bm m∧Below w.heap.size w w'∧w.heap.size<w'.heap.size∧w'.cell? ⟨w.heap.size,0,none⟩=some (.string o)) (w.alloc (.cells #[.string o,.int .i64 n,.string s,.slice (some ⟨b,off,none⟩) l.length c] 69)).drew:=⟨q3,c0,c1,c2,c3,d0,d1,d2,d3,hH1,HM1.out,HW1.out.drew,by show w.heap.size<(w.alloc _).heap.size;simp,q0⟩
  have hKS:∀ u u':World,Below u.heap.size u u'→(fun w':World=>w'.cell? ⟨w.heap.size,3,none⟩=some (.slice (some ⟨b,off,none⟩) l.length c)∧w'.cell? ⟨b,off,none⟩=some (.string x0.op)∧w'.cell? ⟨b,off+1,none⟩=some (.int .i64 x0.n)∧w'.cell? ⟨b,off+2,none⟩=some (.string x0.s)∧w'.cell? ⟨b,off+3,none⟩=some (.slice ax x0.l.length cx)∧
   w'.cell? ⟨b,off+4,none⟩=some (.string x1.op)∧w'.cell? ⟨b,off+4+1,none⟩=some (.int .i64 x1.n)∧w'.cell? ⟨b,off+4+2,none⟩=some (.string x1.s)∧w'.cell? ⟨b,off+4+3,none⟩=some (.slice ax1 x1.l.length cx1)∧H.In w'∧Zaw (Value.int .i64) w' bm m∧Below w.heap.size w w'∧w.heap.size<w'.heap.size∧w'.cell? ⟨w.heap.size,0,none⟩=some (.string o)) u→(fun w':World=>w'.cell? ⟨w.heap.size,3,none⟩=some (.slice (some ⟨b,off,none⟩) l.length c)∧w'.cell? ⟨b,off,none⟩=some (.string x0.op)∧w'.cell? ⟨b,off+1,none⟩=some (.int .i64 x0.n)∧w'.cell? ⟨b,off+2,none⟩=some (.string x0.s)∧w'.cell? ⟨b,off+3,none⟩=some (.slice ax x0.l.length cx)∧
   w'.cell? ⟨b,off+4,none⟩=some (.string x1.op)∧w'.cell? ⟨b,off+4+1,none⟩=some (.int .i64 x1.n)∧w'.cell? ⟨b,off+4+2,none⟩=some (.string x1.s)∧w'.cell? ⟨b,off+4+3,none⟩=some (.slice ax1 x1.l.length cx1)∧H.In w'∧Zaw (Value.int .i64) w' bm m∧Below w.heap.size w w'∧w.heap.size<w'.heap.size∧w'.cell? ⟨w.heap.size,0,none⟩=some (.string o)) u':=by
   rintro u u' hb ⟨k0,k1,k2,k3,k4,k5,k6,k7,k8,k9,k10,k11,k12,k13⟩
   have hc:∀ bq i q,u.cell? ⟨bq,i,none⟩=some q→u'.cell? ⟨bq,i,none⟩=some q:=fun bq i q e=>by rw [hb.cell (p:=⟨bq,i,none⟩) (World.block_lt_of_cell? u ⟨bq,i,none⟩ e)];exact e
   exact⟨hc _ _ _ k0,hc _ _ _ k1,hc _ _ _ k2,hc _ _ _ k3,hc _ _ _ k4,hc _ _ _ k5,hc _ _ _ k6,hc _ _ _ k7,hc _ _ _ k8,k9.below hb,k10.below hb,k11.trans (hb.mono k11.size),by have:=hb.size;omega,hc _ _ _ k13⟩
  have KS:=Zhd hKS
  have HS0:=Zhd hS0
  have hway:((o.toList==[45,62])=true∧(o.toList==[102,98,121])=false∧o≠oFby)∨((o.toList==[45,62])=false∧(o.toList==[102,98,121])=true∧o=oFby):=by
   rcases hab with h | h
   ·left;subst h;exact⟨by rw [← dLit];decide,by rw [← dLit];decide,by decide⟩
   right;subst h;exact⟨by rw [← dLit];decide,by rw [← dLit];decide,rfl⟩
  clear hname hpre hab hfby harr hpr h2 hx0 hx1 hS0 hKS c0 c1 c2 c3 d0 d1 d2 d3 q0 q3
  have HL0:=Zhd hbx0
  generalize hv0:Zac (getI m) x0=v0 at *
  generalize hv1:Zac (getI m) x1=v1 at *
  have HV:=Zhd (And.intro hv0 hv1)
  clear hv0 hv1
  rcases hway with ⟨t3,t4,hof⟩ | ⟨t3,t4,hof⟩
  all_goals
   have HOF:=Zhd hof
   clear hof
   go_enter Tryz.func82,Tryz.ntmps82
   go_wp2_with fail
   go_region_held3 (fun w'=>w'.cell? ⟨w.heap.size,3,none⟩=some (.slice (some ⟨b,off,none⟩) l.length c)∧w'.cell? ⟨b,off,none⟩=some (.string x0.op)∧w'.cell? ⟨b,off+1,none⟩=some (.int .i64 x0.n)∧w'.cell? ⟨b,off+2,none⟩=some (.string x0.s)∧w'.cell? ⟨b,off+3,none⟩=some (.slice ax x0.l.length cx)∧
   w'.cell? ⟨b,off+4,none⟩=some (.string x1.op)∧w'.cell? ⟨b,off+4+1,none⟩=some (.int .i64 x1.n)∧w'.cell? ⟨b,off+4+2,none⟩=some (.string x1.s)∧w'.cell? ⟨b,off+4+3,none⟩=some (.slice ax1 x1.l.length cx1)∧H.In w'∧Zaw (Value.int .i64) w' bm m∧Below w.heap.size w w'∧w.heap.size<w'.heap.size∧w'.cell? ⟨w.heap.size,0,none⟩=some (.string o))
    (first | (exact HS0.out) | assumption | (refine KS.out _ _ ?_ (by assumption);assumption))
    (first
     | (go_at_call 82;(with_reducible refine (X0.out _ ?_ ?_).mono ?_);(go_split_ands;assumption);(go_split_ands;assumption);rintro r wc ⟨rfl,hbc⟩)
     | (go_at_call 82;(with_reducible refine (X1.out _ ?_ ?_).mono ?_);(go_split_ands;assumption);(go_split_ands;assumption);rintro r wc ⟨rfl,hbc⟩))
   all_goals go_split_ands
   all_goals go_wp2_with fail
   all_goals go_ret
   all_goals refine⟨Zat ?_,by assumption⟩
   all_goals rw [HX.out]
   all_goals (first | rw [if_neg HOF.out] | rw [if_pos HOF.out])
   all_goals (split<;>first | omega | (rename_i g1 g2;simp only [beq_iff_eq,beq_eq_false_iff_ne,ne_eq] at g1;(try split at g1)<;>omega))
 have t3:(o.toList==[45,62])=false:=Zb4 _ (fun h=>hab (.inl h))
 have t4:(o.toList==[102,98,121])=false:=Zb4 _ (fun h=>hab (.inr h))
 have HX:=Zhd (show Zac (getI m) (.mk o n s l)=(Zan (getI m) l).foldl max 0 from by simp only [Zac];rw [if_neg hname,if_neg hpre,if_neg hab])
 clear hname hpre hab hfby harr hpr
 go_enter Tryz.func82,Tryz.ntmps82
 go_wp2_with fail
 generalize w.alloc (.cells #[.string o,.int .i64 n,.string s,.slice a l.length c] 69)=W at *
 go_loopw [7,55] (fun q i wr=>∃ k:Nat,i = .int .i64 k∧k≤l.length∧q = .int .i64 ((Zan (getI m) (l.take k)).foldl max 0)∧Below w.heap.size w wr∧Below W.heap.size W wr) (fun _ i _=>l.length - (intOf i).toNat)
 case atStart=>exact⟨0,rfl,Nat.zero_le _,rfl,HW1.out,Below.refl _ _⟩
 obtain⟨k,rfl,hk,rfl,hb,hbW⟩:=hrel
 have HB:=Zhd (And.intro hb hbW)
 clear hb hbW
 by_cases hkl:k<l.length
 ·obtain⟨b,off,ax,cx,rfl,c0,c1,c2,c3,hx⟩:=ExsV.at HU.out hkl
  have hin:=hH.below HB.out.1
  have c0:=hin.cell c0
  have c1:=hin.cell c1
  have c2:=hin.cell c2
  have c3:=hin.cell c3
  have hmem:=List.getElem_mem hkl
  have LT:=Zhd (show (Zan (getI m) (l.take (k+1))).foldl max 0=max ((Zan (getI m) (l.take k)).foldl max 0) (Zac (getI m) l[k]) from by rw [Zjh _ l k hkl,List.foldl_append];rfl)
  have hbx:=HBD.out l[k]
  have HMr:=Zhd (HM1.out.below HB.out.2)
  have hfb:=foldl_max (Zan (getI m) (l.take k)) 0 (by omega) (by omega) (fun x hx=>by
   obtain⟨e,_,rfl⟩:=Zhy _ _ _ hx
   exact HBD.out e)
  generalize l[k]=x at *
  generalize (Zan (getI m) (l.take k)).foldl max 0=acc at *
  go_wp2_with fail
  refine (HIH.out x hmem _ hx _ (hin.alloc _) (HMr.out.alloc _)).mono ?_
  rintro r w2 ⟨rfl,hb2⟩
  have hs1:=HB.out.1.size
  have hs2:=HB.out.2.size
  have HB2:=Zhd (And.intro ((HB.out.1.alloc hs1 _).trans (hb2.mono (by simp;omega))) ((HB.out.2.alloc hs2 _).trans (hb2.mono (by simp;omega))))
  generalize Zac (getI m) x=q at *
  go_wp2_with fail
  all_goals go_roundw
  all_goals (first | (case rel=>exact⟨k+1,by go_num,by omega,by rw [LT.out];congr 1;omega,HB2.out.1,HB2.out.2⟩) | skip)
  all_goals (simp [intOf];omega)
 go_wp2_with fail
 go_ret
 exact⟨Zat (by rw [HX.out,List.take_of_length_le (by omega)]),HB.out.1⟩
end Go.Proofs.YtofameafdnkijaaGreatDoor
/- Plain functions of runs of flat programs, as flow.Run has them; the law of FlowNil: no program in sight. -/
namespace Go.Proofs.YtofameafdnkijaaGreatDoor.Mx
set_option maxRecDepth 100000
set_option maxHeartbeats 16000000
structure REnv where
 ks:Env Int
 lt:ByteArray→Int
 nm:ByteArray→Int
 nb:Bool
 ni:Int
def nilV (nb:Bool) (ni:Int) (k:Int):Vl:=if k=1 then tv nb else ⟨k,ni⟩
structure Inst where
 first:Bool
 mem:List Vl
 inp:List Vl
 now:List Vl
mutual
def memN:Ex→Nat
 | .mk o _ _ l=>Zal l+(if o=oPre∨o=oFby then 1 else 0)
def Zal:List Ex→Nat
 | []=>0
 | e :: l=>memN e+Zal l
end
mutual
def Ze8:Nat→Ex→List (Ex×Nat)
 | m,.mk o n s l=>Zb9 m l++(if o=oPre∨o=oFby then [(l.getLastD (.mk o n s l),m+Zal l.dropLast)] else [])
def Zb9:Nat→List Ex→List (Ex×Nat)
 | _,[]=>[]
 | m,e :: l=>Ze8 m e++Zb9 (m+memN e) l
end
def valM (R:REnv) (r:Inst) (m:Nat) (o:ByteArray) (n:Int) (s:ByteArray) (late:Bool) (vs:List Vl):Vl×Bool:=
 if o=oInt then (⟨2,n⟩,false)
 else if o=Zcn∨o=Zb3 then (tv (decide (o=Zcn)),false)
 else if o=Zbg then (if R.nm s<0 then r.inp.getD (-1 - R.nm s).toNat vz else r.now.getD (R.nm s).toNat vz,false)
 else if o=oPre then (r.mem.getD m vz,false)
 else if o=oFby then (if r.first then vs.getD 0 vz else r.mem.getD m vz,false)
 else if o=Zbq then (if r.first then vs.getD 0 vz else vs.getD 1 vz,false)
 else if (appM o vs).2 then (⟨2,0⟩,!r.first || !late) else ((appM o vs).1,false)
mutual
def Zbd (R:REnv) (r:Inst):Nat→Ex→Vl×Bool
 | m,.mk o n s l=>
  let vs:=Za1 R r m (if o=oPre then 0 else if o=oFby then 1 else l.length) l
  let late:=decide (0<Zac R.lt (.mk o n s l))
  let x:=valM R r (m+Zal l) o n s late vs.1
  (if r.first&&late then nilV R.nb R.ni (Zam R.ks (.mk o n s l)) else x.1,vs.2 || x.2)
def Za1 (R:REnv) (r:Inst):Nat→Nat→List Ex→List Vl×Bool
 | _,_,[]=>([],false)
 | _,0,_ :: _=>([],false)
 | m,k+1,e :: l=>
  let x:=Zbd R r m e
  let y:=Za1 R r (m+memN e) k l
  (x.1 :: y.1,x.2 || y.2)
end
structure Tk where
 out:List Vl
 asrt:Bool
 trap:Bool
 checks:List Bool
def trapT:Tk:=⟨[],false,true,[]⟩
def Zbb:Nat→List Ex→List (Ex×Nat)
 | _,[]=>[]
 | m,e :: l=>(e,m) :: Zbb (m+memN e) l
def nowM (R:REnv) (first:Bool) (mem inp:List Vl) (fs:List (Ex×Nat)):List Nat→List Vl→Bool→List Vl×Bool
 | [],now,t=>(now,t)
 | k :: r,now,t=>
  let x:=fs.getD k (.mk ⟨#[]⟩ 0 ⟨#[]⟩ [],0)
  let v:=Zbd R ⟨first,mem,inp,now⟩ x.2 x.1
  nowM R first mem inp fs r (now.set k v.1) (t || v.2)
def Zej (R:REnv) (r:Inst) (l:List (Ex×Nat)):List Vl×Bool:=(l.map fun x=>(Zbd R r x.2 x.1).1,l.any fun x=>(Zbd R r x.2 x.1).2)
structure Cd where
 ord:List Nat
 fs:List (Ex×Nat)
 av:List (Ex×Nat)
 cv:List (Ex×Nat)
 outs:List Int
 ms:List (Ex×Nat)
def Zdg (R:REnv) (c:Cd) (first:Bool) (mem inp:List Vl):Tk×List Vl:=
 let n:=nowM R first mem inp c.fs c.ord (List.replicate c.fs.length vz) false
 let r:Inst:=⟨first,mem,inp,n.1⟩
 let a:=Zej R r c.av
 let k:=Zej R r c.cv
 let x:=Zej R r c.ms
 if n.2 || a.2 || k.2 || x.2 then (trapT,[])
 else (⟨c.outs.map fun i=>n.1.getD i.toNat vz,a.1.all fun v=>decide (v.n=1),false,k.1.map fun v=>decide (v.n=1)⟩,x.1)
def Zet (R:REnv) (c:Cd):Bool→List Vl→List (List Vl)→List Tk
 | _,_,[]=>[]
 | first,mem,l :: r=>
  let x:=Zdg R c first mem l
  x.1 :: if x.1.trap then [] else Zet R c false x.2 r
theorem Zbm (lt:ByteArray→Int):∀ (l:List Ex) (k:Nat),(Zan lt l).getD k 0=if h:k<l.length then Zac lt l[k] else 0
 | [],k=>by simp [Zan]
 | e :: l,0=>by simp [Zan]
 | e :: l,k+1=>by
  have:=Zbm lt l k
  simp only [Zan,List.getD_cons_succ,this,List.length_cons,Nat.add_lt_add_iff_right]
  split<;>rfl
theorem Zhl:∀ (l:List Int) (a:Int),0≤a→l.foldl max a=0→a=0∧∀ x∈l,x≤0
 | [],a,_,h=>⟨h,fun x hx=>by cases hx⟩
 | y :: l,a,h0,h=>by
  have h1:=Zhl l (max a y) (by omega) h
  refine⟨by omega,fun x hx=>?_⟩
  rcases List.mem_cons.1 hx with rfl | hx
  ·omega
  exact h1.2 x hx
theorem Zjn:∀ (l:List Int) (a b:Int),l.foldl max a≤b→a≤b∧∀ x∈l,x≤b
 | [],a,b,h=>⟨h,fun x hx=>by cases hx⟩
 | y :: l,a,b,h=>by
  have h1:=Zjn l (max a y) b h
  refine⟨by omega,fun x hx=>?_⟩
  rcases List.mem_cons.1 hx with rfl | hx
  ·omega
  exact h1.2 x hx
theorem Zgh (lt:ByteArray→Int):∀ (l:List Ex) (e:Ex),e∈l→Zac lt e∈Zan lt l
 | x :: l,e,h=>by
  simp only [Zan]
  rcases List.mem_cons.1 h with rfl | h
  ·exact List.mem_cons_self ..
  exact List.mem_cons_of_mem _ (Zgh lt l e h)
structure SameR (R R':REnv):Prop where
 ks:R.ks=R'.ks
 lt:R.lt=R'.lt
 nm:R.nm=R'.nm
theorem Zg8 (R:REnv) (r:Inst):∀ (l:List Ex) (m k:Nat),(Za1 R r m k l).1.length=min k l.length
 | [],m,k=>by simp [Za1]
 | e :: l,m,0=>by simp [Za1]
 | e :: l,m,k+1=>by simp [Za1,Zg8 R r l]
theorem first_same {R R':REnv} (hR:SameR R R') (hb:∀ s,0≤R.lt s∧R.lt s≤2) (r r':Inst) (h1:r.first=true) (h2:r'.first=true) (hi:r.inp=r'.inp) (ks:Env Int) (hn:∀ s,(ks s).isSome=true→R.lt s=0→0≤R.nm s→r.now.getD (R.nm s).toNat vz=r'.now.getD (R.nm s).toNat vz):
  ∀ (e:Ex),Zad ks e=true→∀ (m:Nat),(Zbd R r m e).2=(Zbd R' r' m e).2∧(Zac R.lt e=0→(Zbd R r m e).1=(Zbd R' r' m e).1):=by
 refine Ex.ind fun o n s l ih hfo m=>?_
 have hsub:=(Zaz hfo).1
 have hl:∀ (k m:Nat) (l:List Ex),(∀ e∈l,∀ m,(Zbd R r m e).2=(Zbd R' r' m e).2∧(Zac R.lt e=0→(Zbd R r m e).1=(Zbd R' r' m e).1))→
   (Za1 R r m k l).2=(Za1 R' r' m k l).2∧∀ i (hi:i<l.length),Zac R.lt l[i]=0→(Za1 R r m k l).1.getD i vz=(Za1 R' r' m k l).1.getD i vz:=by
  intro k m l
  induction l generalizing k m with
  | nil=>intro _;exact⟨by simp [Za1],fun i hi=>by simp at hi⟩
  | cons e l ihl=>
   intro hh
   cases k with
   | zero=>exact⟨by simp [Za1],fun i _ _=>by simp [Za1]⟩
   | succ k=>
    obtain⟨a1,a2⟩:=hh e (List.mem_cons_self ..) m
    obtain⟨b1,b2⟩:=ihl k (m+memN e) fun x hx=>hh x (List.mem_cons_of_mem _ hx)
    simp only [Za1]
    refine⟨by rw [a1,b1],fun i hi h0=>?_⟩
    cases i with
    | zero=>simpa using a2 h0
    | succ i=>simpa using b2 i (by simpa using hi) h0
 simp only [Zbd]
 rw [← hR.ks,← hR.lt,h1,h2]
 obtain⟨t1,t2⟩:=hl (if o=oPre then 0 else if o=oFby then 1 else l.length) m l fun e he=>ih e he (hsub e he)
 have hlen:=Zg8 R r l m (if o=oPre then 0 else if o=oFby then 1 else l.length)
 have hlen':=Zg8 R' r' l m (if o=oPre then 0 else if o=oFby then 1 else l.length)
 generalize Za1 R r m (if o=oPre then 0 else if o=oFby then 1 else l.length) l=V at *
 generalize Za1 R' r' m (if o=oPre then 0 else if o=oFby then 1 else l.length) l=V' at *
 obtain⟨vs,t⟩:=V
 obtain⟨vs',t'⟩:=V'
 dsimp only at t1 t2 hlen hlen' ⊢
 subst t1
 have hlb:=Zbj R.lt hb (.mk o n s l)
 have hlate:Zac R.lt (.mk o n s l)=if o=Zbg then R.lt s else if o=oPre then min 2 ((Zan R.lt l).getD 0 0+1) else if o=Zbq∨o=oFby then (let b:=if o=oFby then min 2 ((Zan R.lt l).getD 1 0+1) else (Zan R.lt l).getD 1 0;if b=2 then 2 else (Zan R.lt l).getD 0 0) else (Zan R.lt l).foldl max 0:=by rw [Zac]
 have h0b:∀ i,0≤(Zan R.lt l).getD i 0:=fun i=>by
  rw [Zbm]
  split
  ·exact (Zbj R.lt hb _).1
  omega
 have hv0:(Zan R.lt l).getD 0 0=0→vs.getD 0 vz=vs'.getD 0 vz:=fun h=>by
  rw [Zbm] at h
  split at h
  ·exact t2 0 ‹_› h
  rename_i hlt
  simp only [List.getD_eq_getElem?_getD]
  rw [List.getElem?_eq_none (by omega),List.getElem?_eq_none (by omega)]
 by_cases h0:Zac R.lt (.mk o n s l)=0
 ·have hd:decide (0<Zac R.lt (.mk o n s l))=false:=by simp [h0]
  rw [hd]
  suffices hs:valM R r (m+Zal l) o n s false vs=valM R' r' (m+Zal l) o n s false vs' by rw [hs];exact⟨rfl,fun _=>rfl⟩
  unfold valM
  rw [← hR.nm,h1,h2,← hi]
  rw [h0] at hlate
  by_cases e1:o=oInt
  ·rw [if_pos e1,if_pos e1]
  rw [if_neg e1,if_neg e1]
  by_cases e2:o=Zcn∨o=Zb3
  ·rw [if_pos e2,if_pos e2]
  rw [if_neg e2,if_neg e2]
  by_cases e3:o=Zbg
  ·rw [if_pos e3,if_pos e3]
   rw [if_pos e3] at hlate
   by_cases h5:R.nm s<0
   ·rw [if_pos h5,if_pos h5]
   have hks:(ks s).isSome=true:=by
    simp only [Zad,Bool.and_eq_true,Bool.or_eq_true,decide_eq_true_eq] at hfo
    exact hfo.1.2.resolve_left (fun h=>h e3)
   rw [if_neg h5,if_neg h5,hn s hks hlate.symm (by omega)]
  rw [if_neg e3,if_neg e3]
  rw [if_neg e3] at hlate
  by_cases e4:o=oPre
  ·rw [if_pos e4] at hlate
   have:=h0b 0
   omega
  rw [if_neg e4,if_neg e4]
  rw [if_neg e4] at hlate
  by_cases e5:o=oFby
  ·rw [if_pos e5,if_pos e5]
   rw [if_pos (.inr e5)] at hlate
   simp only [if_true]
   dsimp only at hlate
   rw [if_pos e5] at hlate
   by_cases hc:min 2 ((Zan R.lt l).getD 1 0+1)=2
   ·rw [if_pos hc] at hlate;omega
   rw [if_neg hc] at hlate;rw [hv0 hlate.symm]
  rw [if_neg e5,if_neg e5]
  by_cases e6:o=Zbq
  ·rw [if_pos e6,if_pos e6]
   rw [if_pos (.inl e6)] at hlate
   simp only [if_true]
   dsimp only at hlate
   rw [if_neg e5] at hlate
   by_cases hc:(Zan R.lt l).getD 1 0=2
   ·rw [if_pos hc] at hlate;omega
   rw [if_neg hc] at hlate;rw [hv0 hlate.symm]
  rw [if_neg e6,if_neg e6]
  rw [if_neg (fun h=>h.elim e6 e5)] at hlate
  have hall:=(Zhl _ _ (Int.le_refl 0) hlate.symm).2
  have hvs:vs=vs':=by
   rw [if_neg e4,if_neg e5] at hlen hlen'
   refine List.ext_getElem (by omega) fun i i1 i2=>?_
   have hil:i<l.length:=by omega
   have h8:=t2 i hil (by
    have:=hall _ (Zgh R.lt l l[i] (List.getElem_mem hil))
    have:=(Zbj R.lt hb l[i]).1
    omega)
   simpa [List.getD_eq_getElem?_getD,i1,i2] using h8
  rw [hvs]
 have hd:decide (0<Zac R.lt (.mk o n s l))=true:=by simp;omega
 rw [hd]
 refine⟨?_,fun h=>absurd h h0⟩
 suffices hs:∀ (R:REnv) (r:Inst) vs,r.first=true→(valM R r (m+Zal l) o n s true vs).2=false by rw [hs R r vs h1,hs R' r' vs' h2]
 intro R r vs hf
 unfold valM
 rw [hf]
 repeat' split
 all_goals rfl
theorem later_same {R R':REnv} (hR:SameR R R') (r:Inst) (h1:r.first=false):∀ (e:Ex) (m:Nat),Zbd R r m e=Zbd R' r m e:=by
 refine Ex.ind fun o n s l ih m=>?_
 have hl:∀ (k m:Nat) (l:List Ex),(∀ e∈l,∀ m,Zbd R r m e=Zbd R' r m e)→Za1 R r m k l=Za1 R' r m k l:=by
  intro k m l
  induction l generalizing k m with
  | nil=>intro _;simp [Za1]
  | cons e l ihl=>
   intro hh
   cases k with
   | zero=>simp [Za1]
   | succ k=>simp only [Za1];rw [hh e (List.mem_cons_self ..) m,ihl k (m+memN e) fun x hx=>hh x (List.mem_cons_of_mem _ hx)]
 simp only [Zbd]
 rw [h1,hl _ _ _ ih,← hR.lt]
 simp only [Bool.false_and]
 unfold valM
 rw [← hR.nm]
 rfl
theorem nowM_later {R R':REnv} (hR:SameR R R') (mem inp:List Vl) (fs:List (Ex×Nat)):∀ (l:List Nat) (now:List Vl) (t:Bool),nowM R false mem inp fs l now t=nowM R' false mem inp fs l now t
 | [],now,t=>rfl
 | k :: l,now,t=>by simp only [nowM];rw [later_same hR ⟨false,mem,inp,now⟩ rfl];exact nowM_later hR mem inp fs l _ _
theorem Zhp {R R':REnv} (hR:SameR R R') (r:Inst) (h1:r.first=false) (l:List (Ex×Nat)):Zej R r l=Zej R' r l:=by
 unfold Zej
 have:∀ x:Ex×Nat,Zbd R r x.2 x.1=Zbd R' r x.2 x.1:=fun x=>later_same hR r h1 x.1 x.2
 simp only [this]
theorem tick_later {R R':REnv} (hR:SameR R R') (c:Cd) (mem inp:List Vl):Zdg R c false mem inp=Zdg R' c false mem inp:=by
 unfold Zdg
 dsimp only
 rw [nowM_later hR,Zhp hR _ rfl,Zhp hR _ rfl,Zhp hR _ rfl]
theorem go_later {R R':REnv} (hR:SameR R R') (c:Cd):∀ (l:List (List Vl)) (mem:List Vl),Zet R c false mem l=Zet R' c false mem l
 | [],_=>rfl
 | x :: l,mem=>by simp only [Zet];rw [tick_later hR];congr 1;rw [go_later hR c l]
structure CdOk (R:REnv) (ks:Env Int) (nf:Nat→ByteArray) (c:Cd):Prop where
 bd:∀ s,0≤R.lt s∧R.lt s≤2
 ord:∀ k∈c.ord,k<c.fs.length
 nm:∀ s,(ks s).isSome=true→0≤R.nm s→s=nf (R.nm s).toNat
 fs:∀ k (h:k<c.fs.length),Zad ks c.fs[k].1=true∧Zac R.lt c.fs[k].1≤R.lt (nf k)
 av:∀ x∈c.av,Zad ks x.1=true∧Zac R.lt x.1=0
 cv:∀ x∈c.cv,Zad ks x.1=true∧Zac R.lt x.1=0
 ms:∀ x∈c.ms,Zad ks x.1=true∧Zac R.lt x.1=0
 outs:∀ i∈c.outs,R.lt (nf i.toNat)=0
def NowR (R:REnv) (nf:Nat→ByteArray) (a b:List Vl):Prop:=a.length=b.length∧∀ k,R.lt (nf k)=0→a.getD k vz=b.getD k vz
theorem first_of {R R':REnv} (hR:SameR R R') {ks:Env Int} {nf:Nat→ByteArray} {c:Cd} (h:CdOk R ks nf c) {mem mem' inp now now':List Vl} (hn:NowR R nf now now') (e:Ex) (he:Zad ks e=true) (m:Nat):
  (Zbd R ⟨true,mem,inp,now⟩ m e).2=(Zbd R' ⟨true,mem',inp,now'⟩ m e).2∧(Zac R.lt e=0→(Zbd R ⟨true,mem,inp,now⟩ m e).1=(Zbd R' ⟨true,mem',inp,now'⟩ m e).1):=
 first_same hR h.bd ⟨true,mem,inp,now⟩ ⟨true,mem',inp,now'⟩ rfl rfl rfl ks (fun s h1 h2 h3=>hn.2 _ (by rw [← h.nm s h1 h3];exact h2)) e he m
theorem nowM_first {R R':REnv} (hR:SameR R R') {ks:Env Int} {nf:Nat→ByteArray} {c:Cd} (h:CdOk R ks nf c) (mem mem' inp:List Vl):∀ (l:List Nat),(∀ k∈l,k<c.fs.length)→∀ (now now':List Vl) (t:Bool),NowR R nf now now'→
  (nowM R true mem inp c.fs l now t).2=(nowM R' true mem' inp c.fs l now' t).2∧NowR R nf (nowM R true mem inp c.fs l now t).1 (nowM R' true mem' inp c.fs l now' t).1
 | [],_,now,now',t,hn=>⟨rfl,hn⟩
 | k :: l,hk,now,now',t,hn=>by
  simp only [nowM]
  have hkl:=hk k (List.mem_cons_self ..)
  have hx:c.fs.getD k (.mk ⟨#[]⟩ 0 ⟨#[]⟩ [],0)=c.fs[k]:=by simp [List.getD_eq_getElem?_getD,hkl]
  rw [hx]
  obtain⟨f1,f2⟩:=h.fs k hkl
  obtain⟨a1,a2⟩:=first_of hR h hn (mem:=mem) (mem':=mem') (inp:=inp) c.fs[k].1 f1 c.fs[k].2
  rw [a1]
  refine nowM_first hR h mem mem' inp l (fun j hj=>hk j (List.mem_cons_of_mem _ hj)) _ _ _ ⟨by simp [hn.1],fun j hj=>?_⟩
  by_cases e:k=j
  ·subst e
   have h0:Zac R.lt c.fs[k].1=0:=by
    have:=(Zbj R.lt h.bd c.fs[k].1).1
    omega
   have hl:=hn.1
   by_cases hlt:k<now.length
   ·simp [List.getD_eq_getElem?_getD,hlt,← hl,a2 h0]
   simp [List.getD_eq_getElem?_getD,hlt,← hl]
  have:=hn.2 j hj
  simpa [List.getD_eq_getElem?_getD,List.getElem?_set,e] using this
theorem Zhq {R R':REnv} (hR:SameR R R') {ks:Env Int} {nf:Nat→ByteArray} {c:Cd} (h:CdOk R ks nf c) {mem mem' inp now now':List Vl} (hn:NowR R nf now now') (l:List (Ex×Nat)) (hl:∀ x∈l,Zad ks x.1=true∧Zac R.lt x.1=0):
  Zej R ⟨true,mem,inp,now⟩ l=Zej R' ⟨true,mem',inp,now'⟩ l:=by
 have hx:∀ x∈l,Zbd R ⟨true,mem,inp,now⟩ x.2 x.1=Zbd R' ⟨true,mem',inp,now'⟩ x.2 x.1:=fun x hx=>by
  obtain⟨a,b⟩:=first_of hR h hn (mem:=mem) (mem':=mem') (inp:=inp) x.1 (hl x hx).1 x.2
  exact Prod.ext (b (hl x hx).2) a
 unfold Zej
 refine Prod.ext (List.map_congr_left fun x h=>by rw [hx x h]) ?_
 dsimp only
 induction l with
 | nil=>rfl
 | cons y l ih=>
  simp only [List.any_cons]
  rw [hx y (List.mem_cons_self ..),ih (fun x h=>hl x (List.mem_cons_of_mem _ h)) fun x h=>hx x (List.mem_cons_of_mem _ h)]
theorem tick_first {R R':REnv} (hR:SameR R R') {ks:Env Int} {nf:Nat→ByteArray} {c:Cd} (h:CdOk R ks nf c) (mem mem' inp:List Vl):Zdg R c true mem inp=Zdg R' c true mem' inp:=by
 obtain⟨a1,a2⟩:=nowM_first hR h mem mem' inp c.ord h.ord (List.replicate c.fs.length vz) (List.replicate c.fs.length vz) false ⟨rfl,fun _ _=>rfl⟩
 unfold Zdg
 dsimp only
 rw [a1,Zhq hR h a2 c.av h.av,Zhq hR h a2 c.cv h.cv,Zhq hR h a2 c.ms h.ms]
 have:(c.outs.map fun i=>(nowM R true mem inp c.fs c.ord (List.replicate c.fs.length vz) false).1.getD i.toNat vz)=c.outs.map fun i=>(nowM R' true mem' inp c.fs c.ord (List.replicate c.fs.length vz) false).1.getD i.toNat vz:=
  List.map_congr_left fun i hi=>a2.2 _ (h.outs i hi)
 rw [this]
theorem go_first {R R':REnv} (hR:SameR R R') {ks:Env Int} {nf:Nat→ByteArray} {c:Cd} (h:CdOk R ks nf c) (mem mem':List Vl):∀ l:List (List Vl),Zet R c true mem l=Zet R' c true mem' l
 | []=>rfl
 | x :: l=>by simp only [Zet];rw [tick_first hR h mem mem'];congr 1;rw [go_later hR]
end Go.Proofs.YtofameafdnkijaaGreatDoor.Mx
/- Walks: order.Names. -/
namespace Go.Proofs.YtofameafdnkijaaGreatDoor
set_option maxRecDepth 100000
set_option maxHeartbeats 16000000
open Go.RowKit Mx
theorem Zj3 (m:Env Int) (k:ByteArray) (v:Int):getI (m.set k v)=setL (getI m) k v:=by
 funext s
 unfold getI Env.set setL
 split<;>rfl
structure NamS (w wr:World) (bm:Nat) (m:Env Int) (vl:Value):Prop where
 below:Below w.heap.size w wr
 size:w.heap.size+2≤wr.heap.size
 mp:Zaw (Value.int .i64) wr bm m
 box:wr.cell? ⟨w.heap.size,2,none⟩=some vl
 bd:∀ s,0≤getI m s∧getI m s≤2
theorem NamS.next {w wr w':World} {bm:Nat} {m:Env Int} {vl:Value} (h:NamS w wr bm m vl) (hb:Below wr.heap.size wr w'):NamS w w' bm m vl:=by
 have hs:=h.size
 exact⟨h.below.trans (hb.mono (by omega)),Nat.le_trans hs hb.size,h.mp.below hb,by rw [hb.cell (p:=⟨w.heap.size,2,none⟩) (show w.heap.size<wr.heap.size by omega)];exact h.box,h.bd⟩
theorem names_new (H:Kn) (p:Pr) (vi vo vl va vc:Value) (hp:PrP H p vi vo vl va vc) (ks:Env Int) (hfm:∀ f∈p.fl,Zad ks f.e=true) (hn:p.fl.length≤1000000) (w:World) (hH:H.In w):
  Calls Tryz.prog 36 #[.agg #[vi,vo,vl,va,vc]] w fun r w'=>∃ bm m,r = .returned (.map (some bm))∧Zaw (Value.int .i64) w' bm m∧getI m=Zaa p∧(∀ s,0≤getI m s∧getI m s≤2)∧w.heap.size≤bm∧Below w.heap.size w w':=by
 obtain⟨h1,h2,h3,h4,h5⟩:=hp
 obtain⟨ai,ci,rfl⟩:=h1.len
 obtain⟨ao,co,rfl⟩:=h2.len
 obtain⟨al,cl,rfl⟩:=h3.len
 obtain⟨aa,ca,rfl⟩:=h4.len
 obtain⟨ac,cc,rfl⟩:=h5.len
 have H3:=Zhd h3
 have HFM:=Zhd hfm
 clear h1 h2 h3 h4 h5 hfm
 have hmm:=@run_makeMap Tryz.prog
 go_enter Tryz.func36,Tryz.ntmps36
 go_wp2_with fail
 have hN0:NamS w ((w.alloc (.cells #[.slice ai p.ins.length ci,.slice ao p.outs.length co,.slice al p.fl.length cl,.slice aa p.as.length ca,.slice ac p.cs.length cc] 41)).alloc (.map #[] 0)) (w.heap.size+1) Env.none (.slice al p.fl.length cl):=by
  refine⟨((Below.refl _ _).alloc (Nat.le_refl _) _).alloc (by simp) _,by simp,?_,by rw [World.cell?_alloc_past _ _ _ (by simp),World.cell?_alloc_new];rfl,fun s=>by simp [getI,Env.none]⟩
  have:=Zaw.made (Value.int .i64) (w.alloc (.cells #[.slice ai p.ins.length ci,.slice ao p.outs.length co,.slice al p.fl.length cl,.slice aa p.as.length ca,.slice ac p.cs.length cc] 41))
  simpa using this
 generalize (w.alloc (.cells #[.slice ai p.ins.length ci,.slice ao p.outs.length co,.slice al p.fl.length cl,.slice aa p.as.length ca,.slice ac p.cs.length cc] 41)).alloc (.map #[] 0)=W0 at *
 have HN0:=Zhd hN0
 have HM0:=Zhd (show Zf3 p.fl (2 * p.fl.length+1) (getI Env.none)=Zaa p from rfl)
 have HMU:=Zhd (show mu (getI Env.none) p.fl<2 * p.fl.length+1 from by have:=mu_zero p.fl;show mu (fun _=>0) p.fl<_;omega)
 clear hN0
 go_loopg [4] (2 * p.fl.length+1) (fun f u4 wr=>∃ m b,u4 = .bool b∧NamS w wr (w.heap.size+1) m (.slice al p.fl.length cl)∧((b=true∧Zf3 p.fl f (getI m)=Zaa p∧mu (getI m) p.fl<f)∨(b=false∧getI m=Zaa p)))
 case atStart=>exact⟨Env.none,true,rfl,HN0.out,.inl ⟨rfl,HM0.out,HMU.out⟩⟩
 obtain⟨m,b,rfl,hN,hway⟩:=hrel
 have HN:=Zhd hN
 have hz:=hN.size
 clear hN
 rcases hway with ⟨rfl,hnm,hmu⟩ | ⟨rfl,hnm⟩
 ·have HNM:=Zhd hnm
  have HMU:=Zhd hmu
  have hbox:=HN.out.box
  clear hnm hmu
  go_wp2_with fail
  obtain⟨f0,hf0⟩:∃ f0,gk=f0:=⟨_,rfl⟩
  go_loopw [4,13] (fun u4 i wr=>∃ (k:Nat) (m':Env Int) (b:Bool),i = .int .i64 k∧u4 = .bool b∧k≤p.fl.length∧NamS w wr (w.heap.size+1) m' (.slice al p.fl.length cl)∧Zar p.fl (getI m) false=Zar (p.fl.drop k) (getI m') b∧(∀ s,getI m s≤getI m' s)∧(b=true→∃ f∈p.fl,getI m f.name<getI m' f.name)) (fun _ i _=>p.fl.length - (intOf i).toNat)
  case atStart=>exact⟨0,m,false,rfl,rfl,Nat.zero_le _,HN.out,by simp,fun s=>Int.le_refl _,fun h=>by cases h⟩
  obtain⟨k,m',b,rfl,rfl,hk,hN',hrd,hle,hgain⟩:=hrel
  have HN':=Zhd hN'
  have HRD:=Zhd hrd
  have HLE:=Zhd hle
  have HGAIN:=Zhd hgain
  have hz':=hN'.size
  clear hN' hrd hle hgain
  by_cases hkl:k<p.fl.length
  ·obtain⟨b1,off,rfl,_,hfc⟩:=SlV.at H3.out hkl
   have hfm:=HFM.out p.fl[k] (List.getElem_mem hkl)
   have hmem:=List.getElem_mem hkl
   obtain⟨u,c0,c1,c2,c3,c4,c5,hu⟩:=hfc.cells
   obtain⟨ax,cx,rfl⟩:=hu.len
   have hHr:=hH.below HN'.out.below
   have c0:=hHr.cell c0
   have c1:=hHr.cell c1
   have c2:=hHr.cell c2
   have c3:=hHr.cell c3
   have c4:=hHr.cell c4
   have c5:=hHr.cell c5
   simp only [Nat.add_zero] at c0
   have hEx:ExV H p.fl[k].e (.agg #[.string p.fl[k].e.op,.int .i64 p.fl[k].e.n,.string p.fl[k].e.s,.slice ax p.fl[k].e.l.length cx]):=⟨_,rfl,hu⟩
   have HEX:=Zhd hEx
   have HDR:=Zhd (drop_round hkl (getI m') b)
   have HLB:=Zbj (getI m') HN'.out.bd p.fl[k].e
   have HNB:=HN'.out.bd p.fl[k].name
   have hbox':=HN'.out.box
   clear hu hfc hEx
   generalize p.fl[k]=x at *
   obtain⟨xn,xk,xe⟩:=x
   dsimp only at *
   generalize xe.op=xo at *
   generalize xe.n=xnn at *
   generalize xe.s=xs at *
   generalize xe.l.length=xl at *
   have HMEM:=Zhd hmem
   clear hmem
   have HNx:=Zhd (HN'.out.next ((Below.refl _ _).alloc (Nat.le_refl _) (.cells #[.string xn,.int .i64 xk,.string xo,.int .i64 xnn,.string xs,.slice ax xl cx] 71)))
   have HHx:=Zhd (hH.below HNx.out.below)
   go_wp2_with fail
   refine (Zfs H m' (w.heap.size+1) HNx.out.bd ks xe hfm _ HEX.out _ HHx.out HNx.out.mp).mono ?_
   rintro r w2 ⟨rfl,hb2⟩
   have HN2:=Zhd (HNx.out.next hb2)
   have hq2:w2.cell? ⟨wr.heap.size,0,none⟩=some (.string xn):=by
    rw [hb2.cell (p:=⟨wr.heap.size,0,none⟩) (by simp),World.cell?_alloc_new];rfl
   have hs2:=hb2.size
   simp at hs2
   have hrun:=HN2.out.mp.run (P:=Tryz.prog) Tryz.underlying97 Tryz.underlying9 (d:=0) (by kernel_rfl) xn false
   simp only [Bool.false_eq_true,if_false] at hrun
   have HG:=Zhd (show getI m' xn=(m' xn).getD 0 from rfl)
   generalize Zac (getI m') xe=q at *
   generalize hg:(m' xn).getD 0=g at *
   rw [HG.out] at HDR HNB
   have HTAKE:=Zhd (show ∀ v,getI (m'.set xn v) xn=v from fun v=>by rw [Zj3];simp [setL])
   by_cases hlt:g<q
   ·have HDR':=Zhd (show Zar (List.drop k p.fl) (getI m') b=Zar (List.drop (k+1) p.fl) (getI (m'.set xn q)) true from by rw [HDR.out,if_pos hlt,Zj3])
    have HM2:=Zhd HN2.out.mp
    go_wp2_with (at_mapUpdate;refine Zd2 (Value.int .i64) 97 9 3 Tryz.underlying97 Tryz.underlying9 (w.heap.size+1) m' HM2.out _ _ _ rfl rfl rfl xn rfl q rfl ?_;intro w3 hM3 hT3)
    have HN3:=Zhd (show NamS w w3 (w.heap.size+1) (m'.set xn q) (.slice (some ⟨b1,off,none⟩) p.fl.length cl) from⟨hT3.below HN2.out.below (Nat.le_succ _),by rw [hT3.size];exact HN2.out.size,hM3,by rw [hT3.cell (p:=⟨w.heap.size,2,none⟩) (show w.heap.size≠w.heap.size+1 by omega)];exact HN2.out.box,fun s=>by
     rw [Zj3];unfold setL;split
     ·exact HLB
     exact HN'.out.bd s⟩)
    go_roundw
    case rel=>
     refine⟨k+1,_,true,by go_num,rfl,by omega,HN3.out,by rw [HRD.out,HDR'.out],fun s=>?_,fun _=>⟨_,HMEM.out,?_⟩⟩
     ·have h1:=HLE.out s
      rw [Zj3];unfold setL;split
      ·rename_i he;rw [he] at h1 ⊢;rw [HG.out] at h1;omega
      exact h1
     have h1:=HLE.out xn
     show getI m xn<_
     rw [HTAKE.out];rw [HG.out] at h1;omega
    simp [intOf];omega
   have HDR':=Zhd (show Zar (List.drop k p.fl) (getI m') b=Zar (List.drop (k+1) p.fl) (getI m') b from by rw [HDR.out,if_neg hlt])
   go_wp2_with fail
   go_roundw
   case rel=>exact⟨k+1,m',b,by go_num,rfl,by omega,HN2.out,by rw [HRD.out,HDR'.out],HLE.out,HGAIN.out⟩
   simp [intOf];omega
  obtain rfl:k=p.fl.length:=by omega
  have hR:Zar p.fl (getI m) false=(getI m',b):=by rw [HRD.out,List.drop_length];rfl
  have HR:=Zhd hR
  clear hR
  go_wp2_with fail
  go_roundg (gk - 1)
  case rel=>
   obtain⟨g',rfl⟩:∃ g',gk=g'+1:=⟨gk - 1,by have:=HMU.out;omega⟩
   have hstep:=HNM.out
   rw [namesN_step,HR.out] at hstep
   cases b with
   | true=>
    obtain⟨f,hf,hgt⟩:=HGAIN.out rfl
    have:=mu_lt (getI m) (getI m') HLE.out (fun s=>(HN'.out.bd s).2) p.fl f hf hgt
    have hm:=HMU.out
    exact⟨m',true,rfl,HN'.out,.inl ⟨rfl,hstep,by omega⟩⟩
   | false=>exact⟨m',false,rfl,HN'.out,.inr ⟨rfl,hstep⟩⟩
  have:=HMU.out;omega
 have HNM:=Zhd hnm
 go_wp2_with fail
 go_ret
 exact⟨_,m,rfl,HN.out.mp,HNM.out,HN.out.bd,Nat.le_succ _,HN.out.below⟩
theorem names_any (H:Kn) (p:Pr) (vi vo vl va vc:Value) (hp:PrP H p vi vo vl va vc) (ks:Env Int) (hfm:∀ f∈p.fl,Zad ks f.e=true) (hn:p.fl.length≤1000000) (w:World) (hH:H.In w):
  Calls Tryz.prog 36 #[.agg #[vi,vo,vl,va,vc]] w fun r w'=>∃ bm m,r = .returned (.map (some bm))∧Zaw (Value.int .i64) w' bm m∧getI m=Zaa p∧(∀ s,0≤getI m s∧getI m s≤2)∧Below w.heap.size w w':=
 (names_new H p vi vo vl va vc hp ks hfm hn w hH).mono fun _ _ ⟨bm,m,h1,h2,h3,h4,_,h5⟩=>⟨bm,m,h1,h2,h3,h4,h5⟩
end Go.Proofs.YtofameafdnkijaaGreatDoor
