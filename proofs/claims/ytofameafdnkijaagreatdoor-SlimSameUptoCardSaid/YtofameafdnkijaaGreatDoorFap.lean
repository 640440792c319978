/- Walks: flow.Apply. (Printed by gen_fap.py.) -/
import Derived.Test.YtofameafdnkijaaGreatDoorRg
import Derived.Test.YtofameafdnkijaaGreatDoorSm2
import Derived.Test.YtofameafdnkijaaGreatDoorFlC
import Derived.Test.YtofameafdnkijaaGreatDoorKind
import Derived.Test.YtofameafdnkijaaGreatDoorStrA
import Derived.Test.YtofameafdnkijaaGreatDoorBs
import Derived.Test.YtofameafdnkijaaGreatDoorOiP
import Derived.Test.YtofameafdnkijaaGreatDoorRh
import Derived.Test.YtofameafdnkijaaGreatDoorLateA
import Derived.Deep.RegionLaw
set_option linter.all false
namespace Go.Proofs.YtofameafdnkijaaGreatDoor
set_option maxRecDepth 100000
set_option maxHeartbeats 16000000
open Go.RowKit Mx
theorem mFap4 {p:Prop} (h:p:=by
 clear E3 E5
 go_wp2_with fail
 have EE:=Zhd ((show .returned (.tuple #[.agg #[.int .i64 0,.int .i64 0],.bool false,esv (sp 2)])=(.returned (.tuple #[vlV (aplM o l).1,.bool (aplM o l).2,errV sp (Zdo o l)]):Ending) from by rw [aplM_no (c:=2) EQ.out,EQ.out];rfl))
 exact mFap2):p:=h
theorem mFap3 {p:Prop} (h:p:=by
 go_wp2_with fail
 have EE:=Zhd ((show .returned (.tuple #[.agg #[.int .i64 0,.int .i64 0],.bool false,esv (sp 4)])=(.returned (.tuple #[vlV (aplM o l).1,.bool (aplM o l).2,errV sp (Zdo o l)]):Ending) from by rw [aplM_no (c:=4) EQ.out,EQ.out];rfl))
 have HBE:=Zhd (HF5.out.below)
 have hR:=HF5.out.res
 have g0:(noKn w.heap.size w5).cell 1 0=some (esv (sp 4)):=by
  have hc:=((S.below HF5.out.below)).c4
  have hlt:1<w.heap.size:=World.block_lt_of_cell? w ⟨1,0,none⟩ S.c4
  rw [Zgf (by omega)]
  exact hc
 have hS:=Zhu w.heap.size w5
 have hno:=Zge w.heap.size w5
 generalize noKn w.heap.size w5=KK at *
 have hS:KK.In w5.drew:=hS
 have hR:w5.drew.heap[w.heap.size]?=some (.cells #[.int .i64 0,.int .i64 0] 137 (0,0)):=hR
 have E5:=Zhd (set2A hR (.int .i64 0) (.int .i64 0))
 obtain⟨r0,r1,f0,f1,_⟩:=Zay hR
 have HBD:=Zhd (HBE.out.drew)
 clear hR HBE
 go_wp2_with fail
 refine Za2 (fun w'=>KK.In w') (fun _=>True) 99 (by kernel_rfl) ?_
 generalize w5.drew=Wd at *
 refine Zaf (i:=0) (oi:=_) (v:=?_) rfl (by decide) (by kernel_rfl) (by kernel_rfl) (by kernel_rfl) (by kernel_rfl) (fun _ _ _ h=>h) hS Ztr (Or.inl ⟨by rfl,?hy⟩) ?_
 case hy=>exact mFap1
 refine Zst ?_
 refine Zaf (i:=1) (oi:=_) (v:=?_) rfl (by decide) (by kernel_rfl) (by kernel_rfl) (by kernel_rfl) (by kernel_rfl) (fun _ _ _ h=>h) hS Ztr (Or.inl ⟨by rfl,?hy⟩) ?_
 case hy=>exact mFap1
 refine Zst ?_
 refine Zwo 2 rfl fun K_ hK=>?_
 go_simp
 refine hK.out _ _ (((hS.setCell (a:=⟨w.heap.size,0,none⟩) hno _).setCell (a:=⟨w.heap.size,1,none⟩) hno _)) Ztr ?_
 clear hK K_
 refine Zst ?_
 refine Zaf (i:=3) (oi:=_) (v:=?_) rfl (by decide) (by kernel_rfl) (by kernel_rfl) (by kernel_rfl) (by kernel_rfl) (fun _ _ _ h=>h) ((hS.setCell (a:=⟨w.heap.size,0,none⟩) hno _).setCell (a:=⟨w.heap.size,1,none⟩) hno _) Ztr (Or.inl ⟨by rfl,?hy⟩) ?_
 case hy=>exact mFap1
 refine Zst ?_
 refine Zaf (i:=4) (oi:=_) (v:=?_) rfl (by decide) (by kernel_rfl) (by kernel_rfl) (by kernel_rfl) (by kernel_rfl) (fun _ _ _ h=>h) ((hS.setCell (a:=⟨w.heap.size,0,none⟩) hno _).setCell (a:=⟨w.heap.size,1,none⟩) hno _) Ztr (Or.inl ⟨by rfl,?hy⟩) ?_
 case hy=>exact mFap1
 refine Zst ?_
 refine Zwd ?_
 have e0:=E5.out.1
 have e1:=E5.out.2
 go_wp2_with fail
 refine bodyPost_ret (v := .tuple #[.agg #[.int .i64 0,.int .i64 0],.bool false,esv (sp 4)]) (by simp [results,Tryz.results86,go_sem,e0,e1]) rfl ?_
 exact⟨EE.out,Zby HBD.out (Nat.le_refl _) _ _⟩):p:=h
theorem mFap2 {p:Prop} (h:p:=by
 have HBE:=Zhd (HB1.out)
 have hR:=HR1.out
 have g0:(noKn w.heap.size W1).cell 3 0=some (esv (sp 2)):=by
  have hc:=((S.below HB1.out)).c2
  have hlt:3<w.heap.size:=World.block_lt_of_cell? w ⟨3,0,none⟩ S.c2
  rw [Zgf (by omega)]
  exact hc
 have hS:=Zhu w.heap.size W1
 have hno:=Zge w.heap.size W1
 generalize noKn w.heap.size W1=KK at *
 have hS:KK.In W1.drew:=hS
 have hR:W1.drew.heap[w.heap.size]?=some (.cells #[.int .i64 0,.int .i64 0] 137 (0,0)):=hR
 have E5:=Zhd (set2A hR (.int .i64 0) (.int .i64 0))
 obtain⟨r0,r1,f0,f1,_⟩:=Zay hR
 have HBD:=Zhd (HBE.out.drew)
 clear hR HBE
 go_wp2_with fail
 refine Za2 (fun w'=>KK.In w') (fun _=>True) 99 (by kernel_rfl) ?_
 generalize W1.drew=Wd at *
 refine Zaf (i:=0) (oi:=_) (v:=?_) rfl (by decide) (by kernel_rfl) (by kernel_rfl) (by kernel_rfl) (by kernel_rfl) (fun _ _ _ h=>h) hS Ztr (Or.inl ⟨by rfl,?hy⟩) ?_
 case hy=>exact mFap1
 refine Zst ?_
 refine Zaf (i:=1) (oi:=_) (v:=?_) rfl (by decide) (by kernel_rfl) (by kernel_rfl) (by kernel_rfl) (by kernel_rfl) (fun _ _ _ h=>h) hS Ztr (Or.inl ⟨by rfl,?hy⟩) ?_
 case hy=>exact mFap1
 refine Zst ?_
 refine Zwo 2 rfl fun K_ hK=>?_
 go_simp
 refine hK.out _ _ (((hS.setCell (a:=⟨w.heap.size,0,none⟩) hno _).setCell (a:=⟨w.heap.size,1,none⟩) hno _)) Ztr ?_
 clear hK K_
 refine Zst ?_
 refine Zaf (i:=3) (oi:=_) (v:=?_) rfl (by decide) (by kernel_rfl) (by kernel_rfl) (by kernel_rfl) (by kernel_rfl) (fun _ _ _ h=>h) ((hS.setCell (a:=⟨w.heap.size,0,none⟩) hno _).setCell (a:=⟨w.heap.size,1,none⟩) hno _) Ztr (Or.inl ⟨by rfl,?hy⟩) ?_
 case hy=>exact mFap1
 refine Zst ?_
 refine Zaf (i:=4) (oi:=_) (v:=?_) rfl (by decide) (by kernel_rfl) (by kernel_rfl) (by kernel_rfl) (by kernel_rfl) (fun _ _ _ h=>h) ((hS.setCell (a:=⟨w.heap.size,0,none⟩) hno _).setCell (a:=⟨w.heap.size,1,none⟩) hno _) Ztr (Or.inl ⟨by rfl,?hy⟩) ?_
 case hy=>exact mFap1
 refine Zst ?_
 refine Zwd ?_
 have e0:=E5.out.1
 have e1:=E5.out.2
 go_wp2_with fail
 refine bodyPost_ret (v := .tuple #[.agg #[.int .i64 0,.int .i64 0],.bool false,esv (sp 2)]) (by simp [results,Tryz.results86,go_sem,e0,e1]) rfl ?_
 exact⟨EE.out,Zby HBD.out (Nat.le_refl _) _ _⟩):p:=h
theorem mFap1 {p:Prop} (h:p:=by
 intro w hSw;have z0:=hSw.cell g0;first | (go_simp;done) | (go_simp;with_reducible rfl)):p:=h
def aplM (o:ByteArray) (l:List Vl):Vl×Bool:=if Zdo o l=0 then appM o l else (vz,false)
theorem aplM_no {o:ByteArray} {l:List Vl} {c:Nat} (h:Zdo o l=c+1):aplM o l=(vz,false):=if_neg (by omega)
theorem aplM_yes {o:ByteArray} {l:List Vl} (h:Zdo o l=0):aplM o l=appM o l:=if_pos h
def nmI (k:Nat):ByteArray:=⟨#[UInt8.ofNat (97+k)]⟩
theorem nmI_inj {i j:Nat} (hi:i<10) (hj:j<10) (h:nmI i=nmI j):i=j:=by
 have h1:UInt8.ofNat (97+i)=UInt8.ofNat (97+j):=by simpa [nmI] using h
 have h2:=congrArg UInt8.toNat h1
 simp at h2
 omega
def ksK (l:List Vl):Nat→Env Int
 | 0=>Env.none
 | k+1=>(ksK l k).set (nmI k) (l.getD k vz).kind
theorem ksK_at (l:List Vl):∀ k,k≤10→∀ i,i<k→ksK l k (nmI i)=some (l.getD i vz).kind
 | 0,_,i,hi=>by omega
 | k+1,hk,i,hi=>by
  simp only [ksK,Env.set]
  by_cases e:i=k
  ·rw [if_pos (by rw [e]),e]
  rw [if_neg fun h=>e (nmI_inj (by omega) (by omega) h)]
  exact ksK_at l k (by omega) i (by omega)
theorem ksK_empty (l:List Vl):∀ k,ksK l k ⟨#[]⟩=none
 | 0=>rfl
 | k+1=>by
  simp only [ksK,Env.set]
  rw [if_neg (by simp [nmI]),ksK_empty l k]
def exO (o:ByteArray) (n:Nat):Ex := .mk o 0 ⟨#[]⟩ ((List.range n).map fun i => .mk Zbg 0 (nmI i) [])
theorem exO_kinds (o:ByteArray) (l:List Vl) (hl:l.length≤10) (hr:(l.all fun v=>Zba v v.kind)=true):Zam (ksK l l.length) (exO o l.length)=Zci o 0 (l.map (·.kind)):=by
 have hks:Zav (ksK l l.length) ((List.range l.length).map fun i => .mk Zbg 0 (nmI i) [])=l.map (·.kind):=by
  rw [Zbr,List.map_map]
  refine List.ext_getElem (by simp) fun i h1 h2=>?_
  have hi:i<l.length:=by simpa using h1
  have hk:Zam (ksK l l.length) (.mk Zbg 0 (nmI i) [])=l[i].kind:=by
   rw [Zie _ _ _ _ _ (by simp [Zav]),ksK_at l _ hl i hi]
   have h3:Zci Zbg ((some (l.getD i vz).kind).getD 0) (Zav (ksK l l.length) [])=(l.getD i vz).kind:=by
    simp [Zci,show Zbg≠oInt from by decide,show Zbg≠Zcn from by decide,show Zbg≠Zb3 from by decide]
   rw [h3,List.getD_eq_getElem?_getD,List.getElem?_eq_getElem hi]
   rfl
  simpa using hk
 unfold exO
 rw [Zie _ _ _ _ _ ?_,hks,ksK_empty]
 ·rfl
 rw [hks]
 intro h
 obtain⟨x,hx,h0⟩:=List.mem_map.1 h
 have h1:=List.all_eq_true.1 hr x hx
 unfold Zba at h1
 rw [h0] at h1
 simp at h1
def xsK:Nat→List Value
 | 0=>[]
 | k+1=>xsK k++[.string Zbg,.int .i64 0,.string (nmI k),.slice none 0 0]
structure FaI (w0 wr:World) (n:Nat) (o:ByteArray) (l:List Vl) (m k:Nat) (u:Value):Prop where
 below:Below n w0 wr
 res:wr.heap[n]?=some (.cells #[.int .i64 0,.int .i64 0] 137 (0,0))
 box:wr.heap[n+1]?=some (.cells #[.string o,.int .i64 0,.string ⟨#[]⟩,u] 69 (0,0))
 map:Zaw (Value.int .i64) wr (n+1+1) (ksK l m)
 row:wr.ownsRow (n+1+1+1) 69 4 u k (xsK k)
 right:∀ j (hj:j<l.length),j<k→Zba l[j] l[j].kind=true
theorem FaI.size {w0 wr:World} {n m k:Nat} {o:ByteArray} {l:List Vl} {u:Value} (h:FaI w0 wr n o l m k u):n+1+1<wr.heap.size:=h.map.lt
theorem FaI.later {w0 wr w':World} {n m k:Nat} {o:ByteArray} {l:List Vl} {u:Value} (h:FaI w0 wr n o l m k u) (hb:Below wr.heap.size wr w'):FaI w0 w' n o l m k u:=by
 have hs:=h.size
 exact⟨h.below.trans (hb.mono (by omega)),(hb.block _ (by omega)).trans h.res,(hb.block _ (by omega)).trans h.box,h.map.below hb,Zao h.row hb,h.right⟩
theorem FaI.turn {w0 wr w':World} {n m k:Nat} {o:ByteArray} {l:List Vl} {u:Value} (h:FaI w0 wr n o l m k u) (ht:Zcp wr w' (n+1+1)) (hm:Zaw (Value.int .i64) w' (n+1+1) (ksK l (m+1))):FaI w0 w' n o l (m+1) k u:=
 ⟨ht.below h.below (by omega),(ht.block (by omega)).trans h.res,(ht.block (by omega)).trans h.box,hm,Ze6 h.row ht (Zbn h.row (by omega)),h.right⟩
theorem xsK_at (K:Kn):∀ n,XsAt K ((List.range n).map fun i => .mk Zbg 0 (nmI i) []) (xsK n)
 | 0=>rfl
 | n+1=>by
  rw [List.range_succ,List.map_append,xsK]
  exact (xsK_at K n).append ⟨none,0,[],rfl,.inl ⟨rfl,_,_,rfl⟩,rfl⟩
theorem exO_ok (o:ByteArray) (n:Nat) (h:o=oIf→n=3):okIf (exO o n)=true:=by
 have h2:∀ l:List Nat,okIfL (l.map fun i => .mk Zbg 0 (nmI i) [])=true:=fun l=>by
  induction l with
  | nil=>rfl
  | cons i l ih=>simp only [List.map_cons,okIfL,okIf,Bool.and_eq_true,Bool.or_eq_true,decide_eq_true_eq];exact⟨⟨.inl (by decide),trivial⟩,ih⟩
 unfold exO
 simp only [okIf,Bool.and_eq_true,Bool.or_eq_true,decide_eq_true_eq,List.length_map,List.length_range]
 refine⟨?_,h2 _⟩
 by_cases e:o=oIf
 ·exact .inr (h e)
 exact .inl e
theorem exO_parts (o:ByteArray) (n:Nat):(exO o n).parts=1+n:=by
 have h2:∀ l:List Nat,Ex.partsL (l.map fun i => .mk Zbg 0 (nmI i) [])=l.length:=fun l=>by
  induction l with
  | nil=>rfl
  | cons i l ih=>simp only [List.map_cons,Ex.partsL,Ex.parts,List.length_cons,ih];omega
 unfold exO
 simp only [Ex.parts,h2,List.length_range]
theorem put2w {W:World} {b:Nat} {x y:Value} {t:TypeId} (h:W.heap[b]?=some (.cells #[x,y] t (0,0))) (u v:Value):((W.setCell ⟨b,0,none⟩ u).setCell ⟨b,1,none⟩ v).heap[b]?=some (.cells #[u,v] t (0,0)):=
 Zab _ b 1 v _ _ _ (Zab W b 0 u _ _ _ h)
theorem frozen_put {W:World} {b:Nat} {x y:Value} {t:TypeId} (h:W.heap[b]?=some (.cells #[x,y] t (0,0))) (u:Value):(W.setCell ⟨b,0,none⟩ u).frozen? ⟨b,1,none⟩=false∧(W.setCell ⟨b,0,none⟩ u).cell? ⟨b,1,none⟩=some y:=by
 have h1:=Zab W b 0 u _ _ _ h
 exact⟨(Zay (x:=u) (y:=y) h1).2.2.2.1,(Zay (x:=u) (y:=y) h1).2.1⟩
theorem FaI.app {w0 wr w3:World} {n m k g cap':Nat} {o:ByteArray} {l:List Vl} {u:Value} (h:FaI w0 wr n o l m k u) (ho:w3.ownsRow (n+1+1+1) 69 4 (.slice (some ⟨g,0,none⟩) (k+1) cap') (k+1) (xsK k++[.string Zbg,.int .i64 0,.string (nmI k),.slice none 0 0])) (hg:wr.grownBy w3 u.ownBlock)
  (hr:∀ j (hj:j<l.length),j<k+1→Zba l[j] l[j].kind=true):
  w3.cell? ⟨n+1,3,none⟩=some u∧w3.frozen? ⟨n+1,3,none⟩=false∧FaI w0 (w3.setCell ⟨n+1,3,none⟩ (.slice (some ⟨g,0,none⟩) (k+1) cap')) n o l m (k+1) (.slice (some ⟨g,0,none⟩) (k+1) cap'):=by
 have hs:=h.size
 have hb:∀ i,i<n+1+1+1→w3.heap[i]?=wr.heap[i]?:=fun i hi=>hg.block i (by omega) (fun e=>Zbn h.row hi e.symm)
 have hbx:w3.heap[n+1]?=_:=(hb _ (by omega)).trans h.box
 refine⟨by simp [World.cell?,hbx],by simp [World.frozen?,hbx],(h.below.grown hg (by omega) (fun g hgg=>by have:=(h.row.lt g hgg).1;omega)).setCell (p:=⟨n+1,3,none⟩) (by show n≤n+1;omega) _,?_,?_,?_,Zaq ho (Zbn (b:=n+1) ho (by omega)) _,hr⟩
 ·rw [Below.heap_setCell _ ⟨n+1,3,none⟩ _ n (by show n≠n+1;omega)]
  exact (hb _ (by omega)).trans h.res
 ·rw [Zab _ _ _ _ _ _ _ hbx];rfl
 refine h.map.of_block ?_
 rw [Below.heap_setCell _ ⟨n+1,3,none⟩ _ (n+1+1) (by show n+1+1≠n+1;omega)]
 exact hb _ (by omega)
theorem applyX_any (H:Kn) (T:Zbo H) (sp:Nat→Addr) (o:ByteArray) (l:List Vl) (v:Value) (hv:VlsV H l v) (hl:l.length≤10) (w:World) (hH:H.In w) (S:Sen5 w sp):
  Calls Tryz.prog 86 #[.string o,v] w fun r w'=>r = .returned (.tuple #[vlV (aplM o l).1,.bool (aplM o l).2,errV sp (Zdo o l)])∧Below w.heap.size w w':=by
 obtain⟨a,c,rfl⟩:=hv.len
 have HV:=Zhd hv
 have E3:=Zhd (show (arB o=false∨arN o<1∨arN o≠(l.length:Int)∨o=oPre∨o=Zbq∨o=oFby)→Zdo o l=3 from fun h=>by
  unfold Zdo arB arN at *
  cases e:Zcv o with
  | none=>rfl
  | some k=>
   rw [e] at h
   simp only [Option.isSome_some,Bool.true_eq_false,Option.getD_some,false_or] at h
   exact if_pos h)
 have E5:=Zhd (show arB o=true→¬ arN o<1→arN o=(l.length:Int)→o≠oPre→o≠Zbq→o≠oFby→Zdo o l=if (l.all fun v=>Zba v v.kind)=false then 5 else if Zci o 0 (l.map (·.kind))=0 then 5 else 0 from fun h1 h2 h3 h4 h5 h6=>by
  unfold Zdo arB arN at *
  cases e:Zcv o with
  | none=>rw [e] at h1;cases h1
  | some k=>
   rw [e] at h2 h3
   simp only [Option.getD_some] at h2 h3
   dsimp only
   rw [if_neg (by simp only [not_or];exact⟨h2,fun h=>h h3,h4,h5,h6⟩)]
   cases hall:l.all fun v=>Zba v v.kind<;>simp)
 have hb1:Below w.heap.size w (w.alloc (.cells #[.int .i64 0,.int .i64 0] 137)):=(Below.refl _ _).alloc (Nat.le_refl _) _
 have hr1:=heap_alloc_new w (.cells #[.int .i64 0,.int .i64 0] 137)
 have hz1:(w.alloc (.cells #[.int .i64 0,.int .i64 0] 137)).heap.size=w.heap.size+1:=by simp
 have HB1:=Zhd hb1
 have HR1:=Zhd hr1
 have HZ1:=Zhd hz1
 clear hv hb1 hr1 hz1
 have hmm:=@run_makeMap Tryz.prog
 go_enter Tryz.func86,Tryz.ntmps86
 go_wp2_with fail
 generalize w.alloc (.cells #[.int .i64 0,.int .i64 0] 137)=W1 at *
 refine (arity_any H T o W1 (hH.below HB1.out)).mono ?_
 rintro r w1 ⟨rfl,rfl⟩
 cases hB:arB o with
 | false=>
  have EQ:=Zhd (E3.out (.inl hB))
  exact mFap4
 | true=>
 by_cases h1:arN o<1
 ·have EQ:=Zhd (E3.out (.inr (.inl h1)))
  exact mFap4
 by_cases h2:arN o=(l.length:Int)
 case neg=>
  have h2b:(arN o != (l.length:Int))=true:=by simpa using h2
  have EQ:=Zhd (E3.out (.inr (.inr (.inl h2))))
  exact mFap4
 have h2b:(arN o != (l.length:Int))=false:=by simpa using h2
 rcases Bool.eq_false_or_eq_true (o.toList==[112,114,101]) with p1 | p1
 ·have q:o=oPre:=Zjg p1
  have EQ:=Zhd (E3.out (.inr (.inr (.inr (.inl q)))))
  clear E3 E5
  subst q
  go_wp2_with fail
  have EE:=Zhd ((show .returned (.tuple #[.agg #[.int .i64 0,.int .i64 0],.bool false,esv (sp 2)])=(.returned (.tuple #[vlV (aplM oPre l).1,.bool (aplM oPre l).2,errV sp (Zdo oPre l)]):Ending) from by rw [aplM_no (c:=2) EQ.out,EQ.out];rfl))
  exact mFap2
 rcases Bool.eq_false_or_eq_true (o.toList==[45,62]) with p2 | p2
 ·have q:o=Zbq:=Zjg p2
  have EQ:=Zhd (E3.out (.inr (.inr (.inr (.inr (.inl q))))))
  clear E3 E5
  subst q
  go_wp2_with fail
  have EE:=Zhd ((show .returned (.tuple #[.agg #[.int .i64 0,.int .i64 0],.bool false,esv (sp 2)])=(.returned (.tuple #[vlV (aplM Zbq l).1,.bool (aplM Zbq l).2,errV sp (Zdo Zbq l)]):Ending) from by rw [aplM_no (c:=2) EQ.out,EQ.out];rfl))
  exact mFap2
 rcases Bool.eq_false_or_eq_true (o.toList==[102,98,121]) with p3 | p3
 ·have q:o=oFby:=Zjg p3
  have EQ:=Zhd (E3.out (.inr (.inr (.inr (.inr (.inr q))))))
  clear E3 E5
  subst q
  go_wp2_with fail
  have EE:=Zhd ((show .returned (.tuple #[.agg #[.int .i64 0,.int .i64 0],.bool false,esv (sp 2)])=(.returned (.tuple #[vlV (aplM oFby l).1,.bool (aplM oFby l).2,errV sp (Zdo oFby l)]):Ending) from by rw [aplM_no (c:=2) EQ.out,EQ.out];rfl))
  exact mFap2
 have q1:o≠oPre:=fun e=>by rw [e] at p1;exact Bool.noConfusion ((show (oPre.toList==[112,114,101])=true from by kernel_rfl).symm.trans p1)
 have q2:o≠Zbq:=fun e=>by rw [e] at p2;exact Bool.noConfusion ((show (Zbq.toList==[45,62])=true from by kernel_rfl).symm.trans p2)
 have q3:o≠oFby:=fun e=>by rw [e] at p3;exact Bool.noConfusion ((show (oFby.toList==[102,98,121])=true from by kernel_rfl).symm.trans p3)
 have E5:=Zhd (E5.out hB (by omega) h2 q1 q2 q3)
 have hlpos:1≤l.length:=by omega
 have har:=Zhd (show Zcv o=some (l.length:Int) from by
  unfold arB at hB
  unfold arN at h2
  cases e:Zcv o with
  | none=>rw [e] at hB;cases hB
  | some k=>rw [e] at h2;simpa using h2)
 have hz1:=HZ1.out
 go_wp2_with fail
 have hW2:Below w.heap.size w ((W1.alloc (.cells #[.string o,.int .i64 0,.string ⟨#[]⟩,.slice none 0 0] 69)).alloc (.map #[] 0)):=(HB1.out.alloc HB1.out.size _).alloc (by simp;omega) _
 have hR2:((W1.alloc (.cells #[.string o,.int .i64 0,.string ⟨#[]⟩,.slice none 0 0] 69)).alloc (.map #[] 0)).heap[w.heap.size]?=some (.cells #[.int .i64 0,.int .i64 0] 137 (0,0)):=by
  rw [Below.heap_alloc _ _ _ (by simp;omega),Below.heap_alloc _ _ _ (by omega)];exact HR1.out
 have hX2:((W1.alloc (.cells #[.string o,.int .i64 0,.string ⟨#[]⟩,.slice none 0 0] 69)).alloc (.map #[] 0)).heap[w.heap.size+1]?=some (.cells #[.string o,.int .i64 0,.string ⟨#[]⟩,.slice none 0 0] 69 (0,0)):=by
  rw [Below.heap_alloc _ _ _ (by simp;omega),← hz1];exact heap_alloc_new _ _
 have hM2:=Zaw.made (Value.int .i64) (W1.alloc (.cells #[.string o,.int .i64 0,.string ⟨#[]⟩,.slice none 0 0] 69))
 rw [show (W1.alloc (.cells #[.string o,.int .i64 0,.string ⟨#[]⟩,.slice none 0 0] 69)).heap.size=w.heap.size+1+1 from by simp;omega] at hM2
 generalize (W1.alloc (.cells #[.string o,.int .i64 0,.string ⟨#[]⟩,.slice none 0 0] 69)).alloc (.map #[] 0)=W2 at *
 have HF0:=Zhd (show FaI w W2 w.heap.size o l 0 0 (.slice none 0 0) from⟨hW2,hR2,hX2,hM2,World.ownsRow_nil _ _ _ _,fun j _ h=>by omega⟩)
 clear hW2 hR2 hX2 hM2 hz1 HZ1 HB1 HR1
 go_loopw [50] (fun i wr=>∃ (k:Nat) (u:Value),i = .int .i64 k∧k≤l.length∧FaI w wr w.heap.size o l k k u) (fun i _=>l.length - (intOf i).toNat)
 case atStart=>exact⟨0,_,rfl,Nat.zero_le _,HF0.out⟩
 clear HF0
 obtain⟨k,u,rfl,hk,hF⟩:=hrel
 have HF:=Zhd hF
 clear hF
 by_cases hkl:k<l.length
 ·obtain⟨b,off,e1,x0,x1⟩:=Zga HV.out hkl
  subst e1
  have x0:=(hH.below HF.out.below).cell x0
  have x1:=(hH.below HF.out.below).cell x1
  have HNO:=Zhd (show Zba ⟨l[k].kind,l[k].n⟩ l[k].kind=false→(l.all fun v=>Zba v v.kind)=false from fun h=>by
   rw [List.all_eq_false]
   exact⟨l[k],List.getElem_mem hkl,by rw [show Zba l[k] l[k].kind=false from h];decide⟩)
  have HYES:=Zhd (show Zba ⟨l[k].kind,l[k].n⟩ l[k].kind=true→∀ j (hj:j<l.length),j<k+1→Zba l[j] l[j].kind=true from fun h j hj hjk=>by
   by_cases hjk':j<k
   ·exact HF.out.right j hj hjk'
   obtain rfl:j=k:=by omega
   exact h)
  have HKS:=Zhd (show (l.getD k vz).kind=l[k].kind from by rw [List.getD_eq_getElem?_getD,List.getElem?_eq_getElem hkl];rfl)
  have hkI:(k:Int)<l.length:=by omega
  generalize l[k].kind=xk at *
  generalize l[k].n=xn at *
  go_wp2_with fail
  refine (right_any ⟨xk,xn⟩ xk _).mono ?_
  rintro r w5 ⟨rfl,hb5⟩
  have hF5:=(HF.out.later ((Below.refl _ _).alloc (Nat.le_refl _) (.cells #[.int .i64 xk,.int .i64 xn] 137))).later hb5
  have c12:=(hb5.block wr.heap.size (by simp)).trans (heap_alloc_new wr (.cells #[.int .i64 xk,.int .i64 xn] 137))
  have HF5:=Zhd hF5
  clear hF5 hb5
  cases hr:Zba ⟨xk,xn⟩ xk with
  | false=>
   have EQ:=Zhd (show Zdo o l=5 from by rw [E5.out,if_pos (HNO.out hr)])
   clear E3 E5
   exact mFap3
  | true=>
   obtain⟨d0,d1,_,_,_⟩:=Zay c12
   have hw6:=heap_alloc_new w5 (.cells #[.int .u8 (97+(k:Int))] 5)
   have kc:=run_convert_bytes_back (P:=Tryz.prog) (w5.alloc (.cells #[.int .u8 (97+(k:Int))] 5)) 183 9 5 ⟨w5.heap.size,0,none⟩ 1 [UInt8.ofNat (97+k)] Tryz.underlying183 Tryz.underlying5 Tryz.underlying9 (fun j hj=>by
    obtain rfl:j=0:=by simpa using hj
    have h1:((UInt8.ofNat (97+k)).toNat:Int)=97+(k:Int):=by simp;omega
    simp only [List.getElem_cons_zero,h1]
    show World.cell? _ ⟨w5.heap.size,0,none⟩=_
    unfold World.cell?
    rw [hw6]
    rfl)
   have kc:Sem.run Tryz.prog (convert 183 9 (.slice (some ⟨w5.heap.size,0,none⟩) 1 1)) (w5.alloc (.cells #[.int .u8 (97+(k:Int))] 5)) = .ok (.string (nmI k)) (w5.alloc (.cells #[.int .u8 (97+(k:Int))] 5)):=kc
   have hF6:=HF5.out.later ((Below.refl _ _).alloc (Nat.le_refl _) (.cells #[.int .u8 (97+(k:Int))] 5))
   have c6:=(Below.heap_alloc w5 (.cells #[.int .u8 (97+(k:Int))] 5) _ (Zlt c12)).trans c12
   have HF6:=Zhd hF6
   obtain⟨d2,d3,_,_,_⟩:=Zay c6
   have hn12:wr.heap.size≠w.heap.size+1+1:=by have:=HF.out.size;omega
   clear hw6 hF6 HF5 c12
   go_wp2_with (first | (at_mapUpdate;refine Zd2 (Value.int .i64) 97 9 3 Tryz.underlying97 Tryz.underlying9 (w.heap.size+1+1) _ HF6.out.map _ _ _ rfl rfl rfl (nmI k) rfl xk rfl ?_;intro w7 hM7 hT7;rw [← HKS.out] at hM7;have hF7:=HF6.out.turn hT7 hM7;obtain⟨b0,b1,b2,b3,_,_,_,fb3,_⟩:=Zag hF7.box;have HF8:=Zhd (hF7.later ((Below.refl _ _).alloc (Nat.le_refl _) (.cells #[.string Zbg,.int .i64 0,.string (nmI k),.slice none 0 0] 69)));have b3':=(Zag HF8.out.box).2.2.2.1;have hs8:=hF7.size;clear hF7 hM7 hT7 kc HF6 c6 d0 d1 d2 d3 hn12) | (at_builtin;refine Zi9 39 69 4 64 _ Tryz.underlying39 Tryz.infoEx rfl (by decide) _ _ rfl rfl (w.heap.size+1+1+1) _ _ _ rfl HF8.out.row ⟨w7.heap.size,0,none⟩ 1 [.string Zbg,.int .i64 0,.string (nmI k),.slice none 0 0] rfl rfl ?c1 ?c2 ?c3 ?c4 ?c5 ?_))
   case c1=>exact cells4 _ _ _ _ _ _
   case c2=>simp [Value.oneCell']
   case c3=>omega
   case c4=>omega
   case c5=>simp;omega
   intro g cap' w9 ho hg9 hat
   obtain⟨g3,gf,hF9⟩:=HF8.out.app ho hg9 (HYES.out hr)
   have HF9:=Zhd hF9
   clear hF9 ho hg9 hat HF8 b0 b1 b2 b3 fb3 b3'
   go_wp2_with fail
   go_roundw
   case rel=>exact⟨k+1,_,by go_num,by omega,HF9.out⟩
   simp [intOf];omega
 obtain rfl:k=l.length:=by omega
 have hall:(l.all fun v=>Zba v v.kind)=true:=List.all_eq_true.2 fun v hv=>by
  obtain⟨j,hj,rfl⟩:=List.mem_iff_getElem.1 hv
  exact HF.out.right j hj hj
 have hE:=E5.out
 rw [if_neg (by rw [hall];decide)] at hE
 have HE:=Zhd hE
 have HKN:=Zhd (exO_kinds o l hl hall)
 obtain⟨au,cu,rfl,_⟩:=Zau HF.out.row
 obtain⟨K',_,hK',hx',_⟩:=Zh2 (K:=fun _=>none) (l:=(List.range l.length).map fun i => .mk Zbg 0 (nmI i) []) (fun b o e=>by cases e) (by rw [List.length_map,List.length_range];exact HF.out.row) (xsK_at _ _) (fun _ _=>rfl)
 have hev:ExV K' (exO o l.length) (.agg #[.string o,.int .i64 0,.string ⟨#[]⟩,.slice au l.length cu]):=⟨_,rfl,hx'⟩
 obtain⟨b0,b1,b2,b3,_⟩:=Zag HF.out.box
 have HEV:=Zhd hev
 have HK':=Zhd hK'
 clear hE hall hx' hev hK' E5 E3
 go_wp2_with fail
 refine (Zj2 (exO o l.length) (exO_ok o _ (fun h=>by
  have h2:=har.out
  rw [h] at h2
  have h3:(3:Int)=l.length:=by injection h2
  omega)) (by have:=exO_parts o l.length;omega) K' _ HEV.out (ksK l l.length) _ wr HK'.out HF.out.map).mono ?_
 rintro r w5 ⟨rfl,hb5⟩
 rw [HKN.out]
 have HF5:=Zhd (HF.out.later hb5)
 clear hb5 HF b0 b1 b2 b3 HEV HK' HKN
 by_cases h0:Zci o 0 (l.map (·.kind))=0
 ·have EQ:=Zhd (HE.out.trans (if_pos h0))
  rw [h0]
  clear HE
  exact mFap3
 have EQ:=Zhd (HE.out.trans (if_neg h0))
 have hne:(Zci o 0 (l.map (·.kind))==0)=false:=by simpa using h0
 generalize Zci o 0 (l.map (·.kind))=kb at *
 clear HE
 go_wp2_with fail
 refine (apply_any o l har.out hlpos q1 q2 q3 H _ HV.out w5 (hH.below HF5.out.below)).mono ?_
 rintro r w6 ⟨rfl,hb6⟩
 have HF6:=Zhd (HF5.out.later hb6)
 have HAP:=Zhd (aplM_yes EQ.out)
 clear hb6 HF5
 obtain⟨X,hX⟩:∃ X,X=appM o l:=⟨_,rfl⟩
 have hAP:=HAP.out
 rw [← hX] at hAP ⊢
 clear hX HAP
 have HAP:=Zhd hAP
 clear hAP
 obtain⟨⟨rk,rn⟩,rt⟩:=X
 obtain⟨r0,r1,f0,f1,_⟩:=Zay HF6.out.res
 have hp:=put2w HF6.out.res (.int .i64 rk) (.int .i64 rn)
 have hp2:=put2w hp (.int .i64 rk) (.int .i64 rn)
 obtain⟨s0,s1,sf0,sf1,_⟩:=Zay hp
 have HP2:=Zhd hp2
 have HBZ:=Zhd HF6.out.below
 have nf:=frozen_put HF6.out.res (.int .i64 rk)
 have nf2:=frozen_put hp (.int .i64 rk)
 dsimp only [vlV]
 clear HF6 hp hp2
 go_wp2_with fail
 obtain⟨e0,e1,_⟩:=Zay HP2.out
 refine bodyPost_ret (v := .tuple #[.agg #[.int .i64 rk,.int .i64 rn],.bool rt,.nilIface]) (by simp [results,Tryz.results86,go_sem,e0,e1]) rfl ?_
 exact⟨by rw [HAP.out,EQ.out];rfl,Zby (Zby HBZ.out (Nat.le_refl _) _ _) (Nat.le_refl _) _ _⟩
theorem mTe3 {p:Prop} (h:p:=by
 have HTA:=Zhd (HT.out.below ((Below.refl _ _).alloc (Nat.le_refl _) (.cells #[ptrV N] 159)))
 have hNw:N+1≤wr.heap.size:=HS.out.nlt
 have hpl:ps'.length≤1000000000:=by
  have h1:=HS.out.mlen
  have h2:=Zc8 l l.length
  have h3:=HCNT.out
  simp only [memN,Ex.l] at h1 h3
  omega
 have hbw:base≤wr.heap.size:=Nat.le_trans hbase HS.out.d.gr.size
 have HNEW:=Zhd (show ∀ (j:Nat) (u:Value),[ptrV N][j]?=some u→((wr.setCell ⟨N,8,none⟩ (.int .i64 (ps'.length:Int))).alloc (.cells #[ptrV N] 159)).cell? ((⟨wr.heap.size,0,none⟩:Addr).add j)=some u from fun j u hj=>by
  have e:(wr.setCell ⟨N,8,none⟩ (.int .i64 (ps'.length:Int))).heap.size=wr.heap.size:=by simp
  have h:=cells1 (wr.setCell ⟨N,8,none⟩ (.int .i64 (ps'.length:Int))) (ptrV N) 159 j u hj
  rw [e] at h
  exact h)
 go_wp2_with (refine wpList_append_lies _ (by rfl) _ _ _ (by rfl) base 159 i0 _ 1 8 Tryz.underlying153 hi0 hz0 hz1 hz2 rfl (by omega) (.slice au ps'.length cu) ps'.length (ps'.map ptrV) (by rfl) HTA.out.cd.row ⟨_,0,none⟩ 1 1 [ptrV N] (by rfl) (by rfl) HNEW.out (by simp [Value.oneCell']) (by omega) (by unfold maxLen;omega) (by omega) (by simp;omega) _ rfl ?_;intro gg cap' w3 hown hgrow hat hltg;obtain⟨hf1,hf2,hf3⟩:=HTA.out.push (x:=(.mk _ n s l,MS.length)) HS.out.hB (by rw [HTA.out.fresh B HS.out.hB];exact HS.out.noB) HNd.out hown hgrow hat (by omega))
 rw [memNds_mem (by first | exact .inl rfl | exact .inr rfl)] at hf3
 have HF:=Zhd (hf3.forget HFG.out HFR.out)
 have HNE:=Zhd HNd.out
 go_ret
 exact⟨_,_,_,_,rfl,HF.out,HNE.out⟩):p:=h
theorem mTe2 {p:Prop} (h:p:=by
 intro w hSw;obtain⟨z0,z1,z2,z3,z4,z5,z6⟩:=hSw.c7 k0 k1 k2 k3 k11 k12 k13;go_simp<;>with_reducible rfl):p:=h
theorem mTe1 {p:Prop} (h:p:=by
 intro w hSw;obtain⟨z0,z1,z2,z3,z4,z5,z6⟩:=hSw.c7 k0 k1 k2 k3 k11 k12 k13;first | (go_simp;done) | (go_simp;with_reducible rfl)):p:=h
theorem Tryz.infoNdP:(Tryz.prog.info? 159).map (fun i=>(i.zero,i.size,i.bytes))=some (some (.pointer none),1,8):=by kernel_rfl
def Maps3 (H:Kn) (bn bk bl:Nat) (E ks L:Env Int):Prop:=
 (∀ w,H.In w→Zaw (Value.int .i64) w bn E)∧(∀ w,H.In w→Zaw (Value.int .i64) w bk ks)∧∀ w,H.In w→Zaw (Value.int .i64) w bl L
theorem Maps3.le {H K:Kn} {bn bk bl:Nat} {E ks L:Env Int} (h:Maps3 H bn bk bl E ks L) (hle:H.le K):Maps3 K bn bk bl E ks L:=
 ⟨fun w hw=>h.1 w fun b o e=>hw b o (hle b o e),fun w hw=>h.2.1 w fun b o e=>hw b o (hle b o e),fun w hw=>h.2.2 w fun b o e=>hw b o (hle b o e)⟩
theorem term_any (R:REnv) (E L:Env Int) (hRn:R.nm=getI E) (hRl:R.lt=getI L) (hL:∀ s,0≤getI L s∧getI L s≤2) (B base bn bk bl:Nat) (cs:Array Value) (hcs:cs.size=14) (h11:cs[11]?=some (.map (some bn))) (h12:cs[12]?=some (.map (some bk))) (h13:cs[13]?=some (.map (some bl))):
  ∀ (e:Ex),Zad R.ks e=true→e.parts≤1000000000→∀ (H:Kn) (v:Value),ExV H e v→Maps3 H bn bk bl E R.ks L→∀ (w:World) (u:Value) (MS:List (Ex×Nat)) (ps:List Nat),H.In w→H B=none→CdS 159 155 w B base cs u ps→PsAt 163 R H MS ps→(∀ g,u.ownBlock=some g→H g=none)→base≤w.heap.size→MS.length+memN e≤1000000000→
  Calls Tryz.prog 75 #[.pointer (some ⟨B,0,none⟩),v] w fun r w'=>∃ q K u' ps',r = .returned (ptrV q)∧TeD 163 159 155 R H w w' B base cs u (MS++Zca MS.length e) K u' ps'∧NdAt 163 R K e MS.length q:=by
 refine Ex.ind fun o n s l ih hfo hpe H v hv hmaps w u MS ps hH hHB hcd hps hno hbase hcnt=>?_
 obtain⟨uu,rfl,hu⟩:=hv
 simp only [Ex.op,Ex.n,Ex.s,Ex.l] at hu ⊢
 obtain⟨a,cap,rfl⟩:=hu.len
 have hlp:=Zcb l
 simp only [Ex.parts] at hpe
 have HFO:=Zhd hfo
 have hsub:=(Zaz hfo).1
 have HEX:=Zhd (show ExV H (.mk o n s l) (.agg #[.string o,.int .i64 n,.string s,.slice a l.length cap]) from⟨_,rfl,hu⟩)
 have HU:=Zhd hu
 have IH:=Zhd ih
 have HSUB:=Zhd hsub
 clear hu ih hsub hfo
 have hBlt:=hcd.blt
 have hb0:Below w.heap.size w (w.alloc (.cells #[.string o,.int .i64 n,.string s,.slice a l.length cap] 69)):=(Below.refl _ _).alloc (Nat.le_refl _) _
 have hE0:=heap_alloc_new w (.cells #[.string o,.int .i64 n,.string s,.slice a l.length cap] 69)
 have hcd0:=hcd.below hb0
 have hin0:=hH.below hb0
 go_enter Tryz.func75,Tryz.ntmps75
 go_wp2_with fail
 generalize hW0:w.alloc (.cells #[.string o,.int .i64 n,.string s,.slice a l.length cap] 69)=W0 at *
 have hsz0:W0.heap.size=w.heap.size+1:=by rw [← hW0];simp
 clear hW0
 have k0:(Zai W0).cell w.heap.size 0=some (.string o):=by rw [Zap];simp [World.cell?,hE0]
 have k1:(Zai W0).cell w.heap.size 1=some (.int .i64 n):=by rw [Zap];simp [World.cell?,hE0]
 have k2:(Zai W0).cell w.heap.size 2=some (.string s):=by rw [Zap];simp [World.cell?,hE0]
 have k3:(Zai W0).cell w.heap.size 3=some (.slice a l.length cap):=by rw [Zap];simp [World.cell?,hE0]
 have hbx:=hcd0.box
 have k11:(Zai W0).cell B 11=some (.map (some bn)):=by rw [Zap];simp [World.cell?,hbx,h11]
 have k12:(Zai W0).cell B 12=some (.map (some bk)):=by rw [Zap];simp [World.cell?,hbx,h12]
 have k13:(Zai W0).cell B 13=some (.map (some bl)):=by rw [Zap];simp [World.cell?,hbx,h13]
 have hHA:∀ w',(Zai W0).In w'→H.In w':=fun w' h b o e=>h b o (hin0 b o e)
 have HRUN:=Zhd (fun (w':World) (h:(Zai W0).In w')=>(hmaps.1 w' (hHA w' h)).run (P:=Tryz.prog) Tryz.underlying97 Tryz.underlying9 (d:=0) (by kernel_rfl) s false)
 have HKIND:=Zhd (fun (w':World) (h:(Zai W0).In w')=>Zj2 (.mk o n s l) (Zjd R.ks _ HFO.out) (by simp only [Ex.parts];omega) H _ HEX.out R.ks bk w' (hHA w' h) (hmaps.2.1 w' (hHA w' h)))
 have HLATE:=Zhd (fun (w':World) (h:(Zai W0).In w')=>Zfs H L bl hL R.ks (.mk o n s l) HFO.out _ HEX.out w' (hHA w' h) (hmaps.2.2 w' (hHA w' h)))
 have hS:(Zai W0).In W0.drew:=(Za8 W0).below (Below.refl _ _).drew
 clear hbx
 refine Za2 (fun w'=>(Zai W0).In w') (fun _=>True) 99 (by kernel_rfl) ?_
 refine tk2 (i:=0) (v:=?_) rfl hS Ztr ?hy ?_
 case hy=>exact mTe1
 refine Zst ?_
 refine w3 1 ?_
 iterate 5 ((first | (refine tk3 (v:=?_) rfl hS Ztr ?hy ?_;(case hy=>exact mTe2)) | refine sk3 rfl hS Ztr ?_ | refine no3 ?_);refine Zss ?_)
 refine w3e ?_
 refine w3 7 ?_
 iterate 5 ((first | (refine tk3 (v:=?_) rfl hS Ztr ?hy ?_;(case hy=>exact mTe2)) | refine sk3 rfl hS Ztr ?_ | refine no3 ?_);refine Zss ?_)
 refine w3e ?_
 refine w3 14 ?_
 iterate 6 ((first | (refine tk3 (v:=?_) rfl hS Ztr ?hy ?_;(case hy=>exact mTe2)) | refine sk3 rfl hS Ztr ?_ | refine no3 ?_);refine Zss ?_)
 refine w3e ?_
 refine tk2 (i:=20) (v:=?_) rfl hS Ztr ?hy ?_
 case hy=>intro w hSw;obtain⟨z0,z1,z2,z3,z4,z5,z6⟩:=hSw.c7 k0 k1 k2 k3 k11 k12 k13;have zz:=HRUN.out w hSw;go_simp<;>with_reducible rfl
 try simp only [tkS]
 refine Zwo 6 rfl fun K_ hK=>?_
 go_simp
 go_at_call 118
 refine (HKIND.out _ hS).mono ?_
 rintro r w1 ⟨rfl,hb1⟩
 have hS1:=hS.below hb1
 refine hK.out _ _ (hS1) Ztr ?_
 clear hK K_
 try simp only [tkS]
 refine Zwo 12 rfl fun K_ hK=>?_
 go_simp
 go_at_call 82
 refine (HLATE.out _ hS1).mono ?_
 rintro r w2 ⟨rfl,hb2⟩
 have hS2:=hS1.below hb2
 refine hK.out _ _ (hS2) Ztr ?_
 clear hK K_
 try simp only [tkS]
 refine tk2 (i:=13) (v:=?_) rfl hS2 Ztr ?hy ?_
 case hy=>exact mTe1
 try simp only [tkS]
 refine tk2 (i:=21) (v:=?_) rfl hS2 Ztr ?hy ?_
 case hy=>exact mTe1
 try simp only [tkS]
 refine Zwo 22 rfl fun K_ hK=>?_
 go_simp
 refine hK.out _ _ (hS2.alloc _) Ztr ?_
 clear hK K_
 try simp only [tkS]
 refine tk2 (i:=23) (v:=?_) rfl (hS2.alloc _) Ztr ?hy ?_
 case hy=>exact mTe1
 try simp only [tkS]
 refine Zwd ?_
 have hRn':(E s).getD 0=R.nm s:=by rw [hRn];rfl
 have hnd0:(#[.string o,.int .i64 n,.string s,.slice a l.length cap,.slice none 0 0,.int .i64 (Zam R.ks (.mk o n s l)),.bool (decide (0<Zac (getI L) (.mk o n s l))),.int .i64 ((E s).getD 0),.int .i64 0]:Array Value)=Za4 R (.mk o n s l) 0 (.slice a l.length cap) (.slice none 0 0):=by rw [hRn',← hRl];rfl
 rw [hnd0]
 have hbN:Below w.heap.size w w2:=(hb0.trans ((Below.refl W0.heap.size W0).drew.mono (by omega))).trans ((hb1.trans (hb2.mono hb1.size)).mono (by show w.heap.size≤W0.heap.size;omega))
 have hN:=hbN.size
 have hbN1:w.heap.size+1≤w2.heap.size:=by have h1:=hb1.size;have h2:=hb2.size;have h3:W0.drew.heap.size=W0.heap.size:=rfl;omega
 have HB3:=Zhd (hbN.alloc hN (.cells (Za4 R (.mk o n s l) 0 (.slice a l.length cap) (.slice none 0 0)) 163))
 obtain⟨H0,hH0⟩:∃ H0,H0=H.add w.heap.size (.cells #[.string o,.int .i64 n,.string s,.slice a l.length cap] 69 (0,0)):=⟨_,rfl⟩
 have hle0:H.le H0:=by rw [hH0];exact Kn.le_add (hH.isNone (Nat.le_refl _))
 have hfr0:∀ b,b<w.heap.size→H0 b=H b:=fun b hb=>by rw [hH0,Kn.add_other _ _ (by omega)]
 have hE3:(w2.alloc (.cells (Za4 R (.mk o n s l) 0 (.slice a l.length cap) (.slice none 0 0)) 163)).heap[w.heap.size]?=some (.cells #[.string o,.int .i64 n,.string s,.slice a l.length cap] 69 (0,0)):=by
  rw [Below.heap_alloc _ _ _ (by omega),hb2.block _ (by have:=hb1.size;have h3:W0.drew.heap.size=W0.heap.size:=rfl;omega),hb1.block _ (by show w.heap.size<W0.heap.size;omega)];exact hE0
 have hin3:H0.In (w2.alloc (.cells (Za4 R (.mk o n s l) 0 (.slice a l.length cap) (.slice none 0 0)) 163)):=by rw [hH0];exact (hH.below HB3.out).add hE3
 have HE0:=Zhd (show H0 w.heap.size=some (.cells #[.string o,.int .i64 n,.string s,.slice a l.length cap] 69 (0,0)) from by rw [hH0];exact Kn.add_self _ _ _)
 have HS0:=Zhd (show TeS 163 159 155 R H0 w (w2.alloc (.cells (Za4 R (.mk o n s l) 0 (.slice a l.length cap) (.slice none 0 0)) 163)) B w2.heap.size base cs (.mk o n s l) (.slice a l.length cap) u MS 0 0 (.slice none 0 0) [] H0 u ps from
  ⟨⟨Kn.le_refl H0,fun _ _=>rfl,hin3,hcd.below HB3.out,by simpa [Zah] using hps.le hle0,Gr2.of_below HB3.out B _,fun g hg => .inr hg,fun g hg=>by rw [hfr0 g (hcd.row.lt g hg).2];exact hno g hg⟩,
   by decide,by rw [hfr0 B hBlt];exact hHB,hBlt,hN,heap_alloc_new _ _,by rw [hH0,Kn.add_other _ _ (by omega)];exact hH.isNone hN,World.ownsRow_nil _ _ _ _,fun g hg=>by simp [Value.ownBlock] at hg,rfl,fun i h=>by simp at h,fun g hg=>by simp [Value.ownBlock] at hg⟩)
 have HE3:=Zhd hE3
 have HU:=Zhd (HU.out.le hle0)
 have HFG:=Zhd hle0
 have HFR:=Zhd hfr0
 generalize w2.alloc (.cells (Za4 R (.mk o n s l) 0 (.slice a l.length cap) (.slice none 0 0)) 163)=W3 at *
 generalize w2.heap.size=N at *
 clear hb1 hb2 hS hS1 hS2 hnd0 k0 k1 k2 k3 k11 k12 k13 HRUN HKIND HLATE hHA hin0 hcd0 hb0 hE0 hbN
 have p3:W3.cell? ⟨w.heap.size,3,none⟩=some (.slice a l.length cap):=by simp [World.cell?,HE3.out]
 have HCNT:=Zhd hcnt
 have HM:=Zhd (hmaps.le hle0)
 clear hcnt hmaps hps hcd hE3 hin3 hle0 hfr0 hH0
 obtain⟨i0,hi0,hz0,hz1,hz2⟩:=info_parts Tryz.infoNdP
 go_wp2_with fail
 clear p3
 go_loopw [34] (fun i wr=>∃ (k:Nat) (pu:Value) (qs:List Nat) (K:Kn) (u':Value) (ps':List Nat),i = .int .i64 k∧k≤l.length∧TeS 163 159 155 R H0 w wr B N base cs (.mk o n s l) (.slice a l.length cap) u MS k k pu qs K u' ps') (fun i _=>l.length - (intOf i).toNat)
 case atStart=>exact⟨0,_,_,_,_,_,rfl,Nat.zero_le _,HS0.out⟩
 obtain⟨k,pu,qs,K,u',ps',rfl,hk,hS⟩:=hrel
 have HS:=Zhd hS
 clear hS
 by_cases hkl:k<l.length
 ·obtain⟨b,off,ax,cx,rfl,c0,c1,c2,c3,hx⟩:=HU.out.at hkl
  obtain⟨x,hxe⟩:∃ x,l[k]=x:=⟨_,rfl⟩
  have hpx:x.parts≤1000000000:=by have:=Za5 l k hkl;rw [hxe] at this;omega
  have hmem:x∈l:=by rw [← hxe];exact List.getElem_mem hkl
  rw [hxe] at c0 c1 c2 c3 hx
  have c0:=HS.out.d.isin.cell (HS.out.d.le.cell c0)
  have c1:=HS.out.d.isin.cell (HS.out.d.le.cell c1)
  have c2:=HS.out.d.isin.cell (HS.out.d.le.cell c2)
  have c3:=HS.out.d.isin.cell (HS.out.d.le.cell c3)
  have hx:=hx.le HS.out.d.le
  have hkc:MS.length+Zal (l.take k)+memN x≤1000000000:=by
   have h1:=Zfa l k hkl
   rw [hxe] at h1
   have h2:=Zc8 l (k+1)
   have h3:=HCNT.out
   simp only [memN] at h3
   omega
  go_wp2_with fail
  have hSA:=HS.out.below ((Below.refl wr.heap.size wr).alloc (Nat.le_refl _) (.cells #[.string x.op,.int .i64 x.n,.string x.s,.slice ax x.l.length cx] 69))
  have hXb:=heap_alloc_new wr (.cells #[.string x.op,.int .i64 x.n,.string x.s,.slice ax x.l.length cx] 69)
  generalize hXe:wr.heap.size=X at *
  generalize wr.alloc (.cells #[.string x.op,.int .i64 x.n,.string x.s,.slice ax x.l.length cx] 69)=wA at *
  have y0:wA.cell? ⟨X,0,none⟩=some (.string x.op):=by simp [World.cell?,hXb]
  have y1:wA.cell? ⟨X,1,none⟩=some (.int .i64 x.n):=by simp [World.cell?,hXb]
  have y2:wA.cell? ⟨X,2,none⟩=some (.string x.s):=by simp [World.cell?,hXb]
  have y3:wA.cell? ⟨X,3,none⟩=some (.slice ax x.l.length cx):=by simp [World.cell?,hXb]
  have hSD:=hSA.below (Below.refl wA.heap.size wA).drew
  have q4:wA.drew.cell? ⟨N,4,none⟩=some pu:=hSD.c4
  have hbA:base≤wA.drew.heap.size:=Nat.le_trans hbase (hSD.d.gr.size)
  clear hSA c0 c1 c2 c3
  go_region_law (first | (go_simp;go_at_call 75;refine (IH.out x hmem (HSUB.out x hmem) hpx K _ hx (HM.out.le hSD.d.le) _ u' _ ps' hSD.d.isin hSD.kB hSD.d.cd hSD.d.mem hSD.d.noM hbA (by rw [← hSD.d.mem.len,hSD.mlen];exact hkc)).mono ?_;rintro r wc ⟨q,K2,u2,ps2,rfl,hTD,hnd⟩;obtain⟨hS2,hnd2⟩:=hSD.child2 hkl hxe hTD hnd;clear hTD hnd;have q5:=hS2.c4;have q6:=fun o=>(hS2.alloc o).c4) | (refine step_append_lies _ (by rfl) _ _ _ (by rfl) (N+1) 159 i0 _ 1 8 Tryz.underlying153 hi0 hz0 hz1 hz2 rfl (by omega) pu k (qs.map ptrV) (by rfl) (TeS.row (TeS.alloc (by assumption) _)) ⟨_,0,none⟩ 1 1 [ptrV q] (by rfl) (by rfl) (by exact World.news_of_block (heap_alloc_new _ _)) (by simp [Value.oneCell']) (by omega) (by unfold maxLen;omega) (by omega) (TeS.nlt' (TeS.alloc (by assumption) _)) _ rfl ?_;intro gg cap' w3 hown hgrow hat hltg;obtain⟨hf1,hf2,hf3⟩:=TeS.app2 (TeS.alloc (by assumption) _) hkl hxe hnd2 hown hgrow hat))
  all_goals generalize World.setCell _ _ _=W at hf3 ⊢
  all_goals go_wp2_with fail
  all_goals go_roundw
  all_goals first | (simp [intOf];omega;done) | exact⟨k+1,_,_,_,_,_,by go_num,by omega,hf3⟩ | ((repeat apply Exists.intro);refine⟨?_,rfl⟩;exact⟨k+1,_,_,_,_,_,by go_num,by omega,hf3⟩)
 obtain rfl:k=l.length:=by omega
 have hE:=HS.out.d.isin _ _ (HS.out.d.le _ _ HE0.out)
 have g0:wr.cell? ⟨w.heap.size,0,none⟩=some (.string o):=by simp [World.cell?,hE]
 by_cases hm:o=oPre∨o=oFby
 ·obtain⟨K',hT,hNd⟩:=HS.out.fin1 hm
  obtain⟨au,cu,hue,_⟩:=Zau HS.out.d.cd.row
  obtain⟨g8,f8⟩:=HS.out.c8
  have g10:=HS.out.d.cd.c10 (by omega:10<cs.size)
  have hNB:N≠B:=fun e=>by have h1:=HS.out.hN;have h2:=HS.out.hB;omega
  subst hue
  have HT:=Zhd hT
  have HNd:=Zhd hNd
  clear hT hNd hE
  rcases hm with rfl | rfl
  ·have gt10:(wr.setCell ⟨N,8,none⟩ (.int .i64 (ps'.length:Int))).cell? ⟨B,10,none⟩=some (.slice au ps'.length cu):=HT.out.cd.c10 (by omega)
   exact mTe3
  have gt10:(wr.setCell ⟨N,8,none⟩ (.int .i64 (ps'.length:Int))).cell? ⟨B,10,none⟩=some (.slice au ps'.length cu):=HT.out.cd.c10 (by omega)
  exact mTe3
 obtain⟨K',hT,hNd⟩:=HS.out.fin0 hm
 have HT:=Zhd (hT.forget HFG.out HFR.out)
 have HNd:=Zhd hNd
 have b1:(o.toList==[112,114,101])=false:=by have:=Zfe o [112,114,101];cases h:(o.toList==[112,114,101]) with | false=>rfl | true=>exact absurd (.inl (this.mpr h)) hm
 have b2:(o.toList==[102,98,121])=false:=by have:=Zfe o [102,98,121];cases h:(o.toList==[102,98,121]) with | false=>rfl | true=>exact absurd (.inr (this.mpr h)) hm
 clear hT hNd hE
 go_wp2_with fail
 go_ret
 exact⟨_,_,_,_,rfl,HT.out,HNd.out⟩
end Go.Proofs.YtofameafdnkijaaGreatDoor
