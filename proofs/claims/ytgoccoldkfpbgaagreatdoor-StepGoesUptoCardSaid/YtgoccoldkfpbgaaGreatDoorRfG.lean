/- Walks: lustrumref2: flowOf, atOnce. -/
import Derived.Test.YtgoccoldkfpbgaaGreatDoorRg
import Derived.Test.YtgoccoldkfpbgaaGreatDoorRh
import Derived.Test.YtgoccoldkfpbgaaGreatDoorRfA
import Derived.Deep.DeepCutAuto
set_option linter.all false
namespace Go.Proofs.YtgoccoldkfpbgaaGreatDoor
set_option maxRecDepth 100000
set_option maxHeartbeats 16000000
open Go.RowKit Mx
def fIdx (p:Pr):Env Nat:=fun s=>p.fl.findIdx? fun f=>decide (f.name=s)
def fInt (p:Pr) (s:ByteArray):Int:=match fIdx p s with | some i=>(i:Int) | none => -1
theorem fIdx_found (p:Pr) (s:ByteArray) (k:Nat) (hk:k<p.fl.length) (hp:p.fl[k].name=s) (hn:∀ i (hi:i<p.fl.length),i<k→p.fl[i].name≠s):fInt p s=(k:Int):=by
 have:p.fl.findIdx? (fun f=>decide (f.name=s))=some k:=by
  rw [List.findIdx?_eq_some_iff_getElem]
  exact⟨hk,by simpa using hp,fun j hj=>by simpa using hn j (by omega) hj⟩
 simp [fInt,fIdx,this]
theorem fIdx_none (p:Pr) (s:ByteArray) (hn:∀ i (hi:i<p.fl.length),p.fl[i].name≠s):fInt p s = -1:=by
 have:p.fl.findIdx? (fun f=>decide (f.name=s))=none:=by
  rw [List.findIdx?_eq_none_iff]
  intro x hx
  obtain⟨i,hi,rfl⟩:=List.mem_iff_getElem.1 hx
  simpa using hn i hi
 simp [fInt,fIdx,this]
theorem fInt_cases (p:Pr) (s:ByteArray):(fIdx p s=none∧fInt p s = -1)∨∃ k:Nat,k<p.fl.length∧fIdx p s=some k∧fInt p s=(k:Int):=by
 unfold fInt
 cases h:fIdx p s with
 | none=>exact .inl ⟨rfl,rfl⟩
 | some k=>
  refine .inr ⟨k,?_,rfl,rfl⟩
  unfold fIdx at h
  rw [List.findIdx?_eq_some_iff_getElem] at h
  exact h.1
theorem Zg0 (H:Kn) (p:Pr) (vi vo vl va vc:Value) (hp:PrP H p vi vo vl va vc) (hl:p.fl.length≤1000000000) (s:ByteArray) (w:World) (hH:H.In w):
  Calls Tryz.prog 53 #[.agg #[vi,vo,vl,va,vc],.string s] w fun r w'=>r = .returned (.int .i64 (fInt p s))∧Below w.heap.size w w':=by
 obtain⟨h1,h2,h3,h4,h5⟩:=hp
 obtain⟨ai,ci,rfl⟩:=h1.len
 obtain⟨ao,co,rfl⟩:=h2.len
 obtain⟨al,cl,rfl⟩:=h3.len
 obtain⟨aa,ca,rfl⟩:=h4.len
 obtain⟨ac,cc,rfl⟩:=h5.len
 have H3:=Zhd h3
 clear h1 h2 h3 h4 h5
 go_enter Tryz.func53,Tryz.ntmps53
 have hb0:Below w.heap.size w (w.alloc (.cells #[.slice ai p.ins.length ci,.slice ao p.outs.length co,.slice al p.fl.length cl,.slice aa p.as.length ca,.slice ac p.cs.length cc] 27)):=(Below.refl _ _).alloc (Nat.le_refl _) _
 have m2:(w.alloc (.cells #[.slice ai p.ins.length ci,.slice ao p.outs.length co,.slice al p.fl.length cl,.slice aa p.as.length ca,.slice ac p.cs.length cc] 27)).cell? ⟨w.heap.size,2,none⟩=some (.slice al p.fl.length cl):=by rw [World.cell?_alloc_new];rfl
 go_wp2_with fail
 generalize w.alloc (.cells #[.slice ai p.ins.length ci,.slice ao p.outs.length co,.slice al p.fl.length cl,.slice aa p.as.length ca,.slice ac p.cs.length cc] 27)=W1 at *
 have HB0:=Zhd hb0
 have hH1:=hH.below hb0
 clear hb0
 go_loop [5] (fun i=>∃ k:Nat,k≤p.fl.length∧i = .int .i64 k∧(∀ i (hi:i<p.fl.length),i<k→p.fl[i].name≠s)) (fun i=>p.fl.length - (intOf i).toNat)
 case atStart=>exact⟨0,Nat.zero_le _,rfl,by intro i _ h;omega⟩
 obtain⟨k,hk,rfl,hn⟩:=hrel
 have HN:=Zhd hn
 clear hn
 by_cases hlt:k<p.fl.length
 ·obtain⟨b,off,cap0,he,_,_,hcs⟩:=FlsV.cell H3.out (fun e=>by rw [e] at hlt;simp at hlt)
  cases he
  obtain⟨_,_,d0,_⟩:=hcs k hlt
  have d0:=hH1.cell d0
  clear hcs
  by_cases he:p.fl[k].name=s
  ·have HI:=Zhd (fIdx_found p s k hlt he fun i hi hik=>HN.out i hi hik)
   rw [he] at d0
   have hq:(s.toList==s.toList)=true:=by simp
   clear he
   go_wp2_with fail
   go_ret
   exact⟨Zah HI.out.symm,HB0.out⟩
  have HX:=Zhd (show ∀ i (hi:i<p.fl.length),i<k+1→p.fl[i].name≠s from fun i hi hik=>by
   by_cases hik':i<k
   ·exact HN.out i hi hik'
   obtain rfl:i=k:=by omega
   exact he)
  have hq:(p.fl[k].name.toList==s.toList)=false:=by rw [str_eq];simpa using he
  generalize p.fl[k]=x at *
  clear he
  go_wp2_with fail
  go_round
  case rel=>exact⟨k+1,by omega,by go_num,HX.out⟩
  simp [intOf];omega
 go_wp2_with fail
 go_ret
 exact⟨Zah (fIdx_none _ _ fun i hi=>HN.out i hi (by omega)).symm,HB0.out⟩
def Zbu (n:Nat) (f:Nat→Bool):Array Value:=((List.range n).map fun j=>Value.bool (f j)).toArray
theorem Zc7 (n:Nat) (f:Nat→Bool):(Zbu n f).size=n:=by simp [Zbu]
theorem Zdb (n:Nat) (f:Nat→Bool) (j:Nat) (h:j<n):(Zbu n f)[j]?=some (.bool (f j)):=by simp [Zbu,h]
theorem Zjg (n:Nat) (f:Nat→Bool) (k:Nat) (b:Bool):(Zbu n f).setIfInBounds k (.bool b)=Zbu n (fun j=>if j=k then b else f j):=by
 apply Array.ext_getElem?
 intro j
 rw [Array.getElem?_setIfInBounds]
 have e0:∀ g:Nat→Bool,¬ j<n→(Zbu n g)[j]?=none:=fun g h=>Array.getElem?_eq_none (by rw [Zc7];omega)
 by_cases hj:j<n
 ·rw [Zdb n (fun j=>if j=k then b else f j) j hj,Zdb n f j hj]
  by_cases hk:k=j
  ·subst hk
   simp [Zc7,hj]
  simp [hk,Ne.symm hk]
 rw [e0 _ hj,e0 _ hj]
 by_cases hk:k=j
 ·subst hk
  simp [Zc7,hj]
 simp [hk]
theorem Zcu {n:Nat} {f g:Nat→Bool} (h:∀ j,j<n→f j=g j):Zbu n f=Zbu n g:=by
 unfold Zbu
 congr 1
 exact List.map_congr_left fun j hj=>by rw [h j (List.mem_range.1 hj)]
def onceP (o:ByteArray) (i:Nat):Bool := !(o.toList==[112,114,101])&&(!(o.toList==[102,98,121]) || (i==0))
def Zei (at_:Env Nat) (o:ByteArray):Nat→List Ex→List Nat
 | _,[]=>[]
 | i,e :: l=>(if onceP o i then needs at_ e else [])++Zei at_ o (i+1) l
theorem onceL_take (at_:Env Nat) (o:ByteArray):∀ (l:List Ex) (i k:Nat) (h:k<l.length),Zei at_ o i (l.take (k+1))=Zei at_ o i (l.take k)++(if onceP o (i+k) then needs at_ l[k] else [])
 | e :: l,i,0,_=>by simp [Zei]
 | e :: l,i,k+1,h=>by
  have:=onceL_take at_ o l (i+1) k (by simpa using h)
  simp only [List.take_succ_cons,Zei,List.getElem_cons_succ]
  rw [this,List.append_assoc,show i+1+k=i+(k+1) from by omega]
theorem onceL_pre (at_:Env Nat) (o:ByteArray) (h:(o.toList==[112,114,101])=true):∀ (l:List Ex) (i:Nat),Zei at_ o i l=[]
 | [],_=>rfl
 | e :: l,i=>by simp [Zei,onceP,h,onceL_pre at_ o h l]
theorem onceL_fby (at_:Env Nat) (o:ByteArray) (h0:(o.toList==[112,114,101])=false) (h:(o.toList==[102,98,121])=true):∀ (l:List Ex) (i:Nat),0<i→Zei at_ o i l=[]
 | [],_,_=>rfl
 | e :: l,i,hi=>by
  have:(i==0)=false:=by simp;omega
  simp [Zei,onceP,h0,h,this,onceL_fby at_ o h0 h l (i+1) (by omega)]
theorem onceL_all (at_:Env Nat) (o:ByteArray) (h0:(o.toList==[112,114,101])=false) (h:(o.toList==[102,98,121])=false):∀ (l:List Ex) (i:Nat),Zei at_ o i l=Zcl at_ l
 | [],_=>by simp [Zei,Zcl]
 | e :: l,i=>by simp [Zei,onceP,h0,h,Zcl,onceL_all at_ o h0 h l (i+1)]
theorem needs_once (at_:Env Nat) (o:ByteArray) (n:Int) (s:ByteArray) (l:List Ex):needs at_ (.mk o n s l)=(if (o.toList==[110,97,109,101]) then (at_ s).toList else [])++Zei at_ o 0 l:=by
 have e1:=dLit o [112,114,101]
 have e2:=dLit o [102,98,121]
 have e3:=dLit o [110,97,109,101]
 rw [← e3]
 simp only [needs]
 by_cases h1:o=oPre
 ·have hn:¬ o=Zb2:=by rw [h1];decide
  have hp:(o.toList==[112,114,101])=true:=by rw [← e1];simpa using h1
  have hn':¬ o=(⟨⟨[110,97,109,101]⟩⟩:ByteArray):=hn
  simp [h1,hn']
  exact onceL_pre at_ oPre (by rw [← h1];exact hp) l 0
 have hp:(o.toList==[112,114,101])=false:=by rw [← e1];simpa using h1
 rw [if_neg h1]
 by_cases h2:o=oFby
 ·have hf:(o.toList==[102,98,121])=true:=by rw [← e2];simpa using h2
  have hn:¬ o=(⟨⟨[110,97,109,101]⟩⟩:ByteArray):=by rw [h2];decide
  rw [if_pos h2]
  simp only [hn,decide_false,Bool.false_eq_true,if_false,List.nil_append]
  cases l with
  | nil=>rfl
  | cons e l=>simp [Zf7,Zei,onceP,hp,onceL_fby at_ o hp hf l 1 (by omega)]
 have hf:(o.toList==[102,98,121])=false:=by rw [← e2];simpa using h2
 rw [if_neg h2,onceL_all at_ o hp hf]
 congr 1
 by_cases h3:o=Zb2
 ·have:o=(⟨⟨[110,97,109,101]⟩⟩:ByteArray):=h3
  simp [h3]
 have:¬ o=(⟨⟨[110,97,109,101]⟩⟩:ByteArray):=h3
 rw [if_neg h3]
 simp [this]
theorem Zgc {a b c:World} {D:Nat} (h:a.grownBy b (some D)) (k:b.grownBy c (some D)):a.grownBy c (some D):=
 ⟨k.os.trans h.os,k.tape.trans h.tape,k.output.trans h.output,Nat.le_trans h.size k.size,fun j hj hne=>(k.block j (Nat.lt_of_lt_of_le hj h.size) hne).trans (h.block j hj hne)⟩
theorem Zia {a b:World} (D:Nat) (h:Below a.heap.size a b):a.grownBy b (some D):=⟨h.os,h.tape,h.output,h.size,fun j hj _=>h.block j hj⟩
theorem gby_set {a:World} (D i:Nat) (v:Value):a.grownBy (a.setCell ⟨D,i,none⟩ v) (some D):=
 ⟨rfl,rfl,rfl,by simp [World.setCell],fun j _ hne=>Below.heap_setCell a _ v j (fun e=>hne (by rw [e]))⟩
theorem atOnce_any (p:Pr) (vi vo vl va vc:Value) (D:Nat) (hl:p.fl.length≤1000000000):∀ (e:Ex) (v:Value) (H:Kn) (f:Nat→Bool),ExV H e v→e.parts≤1000000000000→PrP H p vi vo vl va vc→∀ w:World,H.In w→H D=none→w.heap[D]?=some (.cells (Zbu p.fl.length f) 4 (0,0))→
  Calls Tryz.prog 108 #[.agg #[vi,vo,vl,va,vc],v,.slice (some ⟨D,0,none⟩) p.fl.length p.fl.length] w fun r w'=>r = .returned (.tuple #[])∧w.grownBy w' (some D)∧w'.heap[D]?=some (.cells (Zbu p.fl.length fun j=>f j || (needs (fIdx p) e).contains j) 4 (0,0)):=by
 refine Ex.ind fun o n s l ih v H f hv hpe hp w hH hHD hD=>?_
 have HP:=Zhd hp
 obtain⟨h1,h2,h3,h4,h5⟩:=hp
 obtain⟨ai,ci,rfl⟩:=h1.len
 obtain⟨ao,co,rfl⟩:=h2.len
 obtain⟨al,cl,rfl⟩:=h3.len
 obtain⟨aa,ca,rfl⟩:=h4.len
 obtain⟨ac,cc,rfl⟩:=h5.len
 clear h1 h2 h3 h4 h5
 obtain⟨u,rfl,hu⟩:=hv
 simp only [Ex.op,Ex.n,Ex.s,Ex.l] at hu ⊢
 simp only [Ex.parts] at hpe
 obtain⟨a,cap,rfl⟩:=hu.len
 have hll:=Zbr l
 have HU:=Zhd hu
 have IH:=Zhd ih
 have HNE:=Zhd (needs_once (fIdx p) o n s l)
 clear hu ih
 have hDlt:D<w.heap.size:=(Zlt hD)
 have hPB:((w.alloc (.cells #[.slice ai p.ins.length ci,.slice ao p.outs.length co,.slice al p.fl.length cl,.slice aa p.as.length ca,.slice ac p.cs.length cc] 27)).alloc (.cells #[.string o,.int .i64 n,.string s,.slice a l.length cap] 79)).heap[w.heap.size]?=some (.cells #[.slice ai p.ins.length ci,.slice ao p.outs.length co,.slice al p.fl.length cl,.slice aa p.as.length ca,.slice ac p.cs.length cc] 27 (0,0)):=by
  rw [Below.heap_alloc _ _ _ (by simp)];exact heap_alloc_new _ _
 have hEB:((w.alloc (.cells #[.slice ai p.ins.length ci,.slice ao p.outs.length co,.slice al p.fl.length cl,.slice aa p.as.length ca,.slice ac p.cs.length cc] 27)).alloc (.cells #[.string o,.int .i64 n,.string s,.slice a l.length cap] 79)).heap[w.heap.size+1]?=some (.cells #[.string o,.int .i64 n,.string s,.slice a l.length cap] 79 (0,0)):=by
  rw [show w.heap.size+1=(w.alloc (.cells #[.slice ai p.ins.length ci,.slice ao p.outs.length co,.slice al p.fl.length cl,.slice aa p.as.length ca,.slice ac p.cs.length cc] 27)).heap.size from by simp];exact heap_alloc_new _ _
 have hb0:Below w.heap.size w ((w.alloc (.cells #[.slice ai p.ins.length ci,.slice ao p.outs.length co,.slice al p.fl.length cl,.slice aa p.as.length ca,.slice ac p.cs.length cc] 27)).alloc (.cells #[.string o,.int .i64 n,.string s,.slice a l.length cap] 79)):=((Below.refl _ _).alloc (Nat.le_refl _) _).alloc (by simp) _
 go_enter Tryz.func108,Tryz.ntmps108
 generalize hW:(w.alloc (.cells #[.slice ai p.ins.length ci,.slice ao p.outs.length co,.slice al p.fl.length cl,.slice aa p.as.length ca,.slice ac p.cs.length cc] 27)).alloc (.cells #[.string o,.int .i64 n,.string s,.slice a l.length cap] 79)=W at *
 obtain⟨K,hKe⟩:∃ K,K=(H.add w.heap.size (.cells #[.slice ai p.ins.length ci,.slice ao p.outs.length co,.slice al p.fl.length cl,.slice aa p.as.length ca,.slice ac p.cs.length cc] 27 (0,0))).add (w.heap.size+1) (.cells #[.string o,.int .i64 n,.string s,.slice a l.length cap] 79 (0,0)):=⟨_,rfl⟩
 have hKle:H.le K:=by rw [hKe];exact Kn.le_trans (Kn.le_add (hH.isNone (Nat.le_refl _))) (Kn.le_add (by rw [Kn.add_other _ _ (by omega)];exact hH.isNone (by omega)))
 have hKin:K.In W:=by rw [hKe];exact ((hH.below hb0).add hPB).add hEB
 have hKD:K D=none:=by rw [hKe,Kn.add_other _ _ (by omega),Kn.add_other _ _ (by omega)];exact hHD
 have hcP:∀ i,K.cell w.heap.size i=(#[.slice ai p.ins.length ci,.slice ao p.outs.length co,.slice al p.fl.length cl,.slice aa p.as.length ca,.slice ac p.cs.length cc]:Array Value)[i]?:=fun i=>by unfold Kn.cell;rw [hKe,Kn.add_other _ _ (by omega),Kn.add_self]
 have hcE:∀ i,K.cell (w.heap.size+1) i=(#[.string o,.int .i64 n,.string s,.slice a l.length cap]:Array Value)[i]?:=fun i=>by unfold Kn.cell;rw [hKe,Kn.add_self]
 have k0:K.cell w.heap.size 0=some (.slice ai p.ins.length ci):=hcP 0
 have k1:K.cell w.heap.size 1=some (.slice ao p.outs.length co):=hcP 1
 have k2:K.cell w.heap.size 2=some (.slice al p.fl.length cl):=hcP 2
 have k3:K.cell w.heap.size 3=some (.slice aa p.as.length ca):=hcP 3
 have k4:K.cell w.heap.size 4=some (.slice ac p.cs.length cc):=hcP 4
 have j0:K.cell (w.heap.size+1) 0=some (.string o):=hcE 0
 have j2:K.cell (w.heap.size+1) 2=some (.string s):=hcE 2
 have j3:K.cell (w.heap.size+1) 3=some (.slice a l.length cap):=hcE 3
 have hPK:=HP.out.le hKle
 have hDW:W.heap[D]?=some (.cells (Zbu p.fl.length f) 4 (0,0)):=by rw [hb0.block D hDlt];exact hD
 have HG0:=Zhd (Zia D hb0)
 have HEX:=Zhd (show ExsV K l (.slice a l.length cap) from HU.out.le hKle)
 have HPK:=Zhd hPK
 clear hcP hcE hKe hPB hEB hb0 hH hHD hD HU HP
 have m0:=hKin.cell k0
 have m1:=hKin.cell k1
 have m2:=hKin.cell k2
 have m3:=hKin.cell k3
 have m4:=hKin.cell k4
 have i0:=hKin.cell j0
 have i2:=hKin.cell j2
 have FL:=Zhd (fun w2 (h:K.In w2)=>Zg0 K p _ _ _ _ _ HPK.out hl s w2 h)
 have hc:(o.toList==[110,97,109,101])=false∨((o.toList==[110,97,109,101])=true∧fIdx p s=none∧fInt p s = -1)∨((o.toList==[110,97,109,101])=true∧∃ k:Nat,k<p.fl.length∧fIdx p s=some k∧fInt p s=(k:Int)):=by
  rcases Bool.eq_false_or_eq_true (o.toList==[110,97,109,101]) with h | h
  ·rcases fInt_cases p s with ⟨h1,h2⟩ | h1
   ·exact .inr (.inl ⟨h,h1,h2⟩)
   exact .inr (.inr ⟨h,h1⟩)
  exact .inl h
 have HKin:=Zhd hKin
 have HDW:=Zhd hDW
 clear hKin hDW
 go_upto_region 1 with (fail)
 try rw [hW]
 clear hW
 rcases hc with e3 | ⟨e3,hi,hz⟩ | ⟨e3,kk,hkk,hi,hz⟩
 case' inl=>
  have hf1:=Zhd (show ∀ j,f j=(f j || (if (o.toList==[110,97,109,101])=true then (fIdx p s).toList else []).contains j) from fun j=>by rw [e3];simp)
  generalize hff:f=f1 at HDW hf1
  have hf2:=Zhd (show ∀ j,f1 j=(f j || (if (o.toList==[110,97,109,101])=true then (fIdx p s).toList else []).contains j) from fun j=>by rw [hff];have:=hf1.out j;rw [← this])
  have HK1:=HKin
  have HG1:=HG0
  go_wp2_with fail
  clear hf1 hff
  have HX:=Zhd (show ∃ g:Nat→Bool,W.heap[D]?=some (.cells (Zbu p.fl.length g) 4 (0,0))∧∀ j,g j=(f j || (if (o.toList==[110,97,109,101])=true then (fIdx p s).toList else []).contains j) from⟨_,HDW.out,hf2.out⟩)
 case' inr.inl=>
  have hf2:=Zhd (show ∀ j,f j=(f j || (if (o.toList==[110,97,109,101])=true then (fIdx p s).toList else []).contains j) from fun j=>by rw [hi];simp)
  go_wp2_with (go_at_call 53;refine (FL.out _ HKin.out).mono ?_;rw [hz];rintro r w2 ⟨rfl,hb2⟩)
  have HK1:=Zhd (HKin.out.below hb2)
  have HG1:=Zhd (Zgc HG0.out (Zia D hb2))
  have HDW:=Zhd ((hb2.block D (Zlt HDW.out)).trans HDW.out)
  clear hb2
  have HX:=Zhd (show ∃ g:Nat→Bool,w2.heap[D]?=some (.cells (Zbu p.fl.length g) 4 (0,0))∧∀ j,g j=(f j || (if (o.toList==[110,97,109,101])=true then (fIdx p s).toList else []).contains j) from⟨_,HDW.out,hf2.out⟩)
 case' inr.inr=>
  have hkI:(kk:Int)<p.fl.length:=by omega
  have hf2:=Zhd (show ∀ j,(fun j=>if j=kk then true else f j) j=(f j || (if (o.toList==[110,97,109,101])=true then (fIdx p s).toList else []).contains j) from fun j=>by
   rw [hi,e3]
   by_cases h:j=kk
   ·subst h;simp
   have:¬ kk=j:=fun e=>h e.symm
   simp [h])
  go_wp2_with fail
  refine (FL.out _ HKin.out).mono ?_
  rw [hz]
  rintro r w2 ⟨rfl,hb2⟩
  have hd:=(hb2.block D (Zlt HDW.out)).trans HDW.out
  have hcD:w2.cell? ⟨D,kk,none⟩=some (.bool (f kk)):=by simp [World.cell?,hd,Zdb _ _ _ hkk]
  have hfD:w2.frozen? ⟨D,kk,none⟩=false:=by simp [World.frozen?,hd]
  have HD2:=Zhd hd
  clear hd
  go_wp2_with fail
  have HK1:=Zhd ((HKin.out.below hb2).setCell (a:=⟨D,kk,none⟩) hKD (.bool true))
  have HG1:=Zhd (Zgc (Zgc HG0.out (Zia D hb2)) (gby_set (a:=w2) D kk (.bool true)))
  have HDW:=Zhd (Zaa w2 D kk (.bool true) _ _ _ HD2.out)
  rw [Zjg] at HDW
  clear hb2 HD2 hcD hfD
  generalize World.setCell _ _ _=w3 at *
  have HX:=Zhd (show ∃ g:Nat→Bool,w3.heap[D]?=some (.cells (Zbu p.fl.length g) 4 (0,0))∧∀ j,g j=(f j || (if (o.toList==[110,97,109,101])=true then (fIdx p s).toList else []).contains j) from⟨_,HDW.out,hf2.out⟩)
 all_goals
  obtain⟨g,hgD,hgf⟩:=HX.out
  have HGD:=Zhd hgD
  have HGF:=Zhd hgf
  clear hgD hgf HX hf2 HDW
  go_loopw [7] (fun i wr=>∃ k:Nat,i = .int .i64 k∧k≤l.length∧K.In wr∧w.grownBy wr (some D)∧wr.heap[D]?=some (.cells (Zbu p.fl.length fun j=>g j || (Zei (fIdx p) o 0 (l.take k)).contains j) 4 (0,0))) (fun i _=>l.length - (intOf i).toNat)
  case atStart=>exact⟨0,rfl,Nat.zero_le _,HK1.out,HG1.out,by rw [HGD.out];congr 2;exact Zcu fun j _=>by simp [Zei]⟩
  obtain⟨k,rfl,hk,hKr,hgr,hblk⟩:=hrel
  have HKR:=Zhd hKr
  have HGR:=Zhd hgr
  have HBL:=Zhd hblk
  have m0:=hKr.cell k0
  have m1:=hKr.cell k1
  have m2:=hKr.cell k2
  have m3:=hKr.cell k3
  have m4:=hKr.cell k4
  have i0:=hKr.cell j0
  have i3:=hKr.cell j3
  clear hgr hblk
  by_cases hkl:k<l.length
  ·obtain⟨b,off,ax,cx,rfl,c0,c1,c2,c3,hx⟩:=HEX.out.at hkl
   have hpx:l[k].parts≤1000000000000:=by have:=Zau l k hkl;omega
   have hmem:=List.getElem_mem hkl
   have HOT:=Zhd (onceL_take (fIdx p) o l 0 k hkl)
   rw [Nat.zero_add] at HOT
   generalize l[k]=x at *
   have hop:onceP o k=(!(o.toList==[112,114,101])&&(!(o.toList==[102,98,121]) || (k==0))):=rfl
   have HOP:=Zhd hop
   clear hop
   have hcase:((o.toList==[112,114,101])=true)∨((o.toList==[112,114,101])=false∧(o.toList==[102,98,121])=true∧((k:Int)==0)=false∧(k==0)=false)∨((o.toList==[112,114,101])=false∧((o.toList==[102,98,121])=false∨((o.toList==[102,98,121])=true∧((k:Int)==0)=true∧(k==0)=true))):=by
    rcases Bool.eq_false_or_eq_true (o.toList==[112,114,101]) with h | h
    ·exact .inl h
    rcases Bool.eq_false_or_eq_true (o.toList==[102,98,121]) with h' | h'
    ·by_cases h0:k=0
     ·exact .inr (.inr ⟨h,.inr ⟨h',by simp [h0],by simp [h0]⟩⟩)
     exact .inr (.inl ⟨h,h',by simpa using h0,by simpa using h0⟩)
    exact .inr (.inr ⟨h,.inl h'⟩)
   rcases hcase with ep | ⟨ep,ef,z1,z2⟩ | ⟨ep,hrest⟩
   ·have HS:=Zhd (show Zei (fIdx p) o 0 (l.take (k+1))=Zei (fIdx p) o 0 (l.take k) from by rw [HOT.out,HOP.out,ep];simp)
    go_wp2_with fail
    go_roundw
    case rel=>exact⟨k+1,by go_num,by omega,HKR.out,HGR.out,by rw [HS.out];exact HBL.out⟩
    simp [intOf];omega
   ·have HS:=Zhd (show Zei (fIdx p) o 0 (l.take (k+1))=Zei (fIdx p) o 0 (l.take k) from by rw [HOT.out,HOP.out,ep,ef,z2];simp)
    go_wp2_with fail
    go_roundw
    case rel=>exact⟨k+1,by go_num,by omega,HKR.out,HGR.out,by rw [HS.out];exact HBL.out⟩
    simp [intOf];omega
   have HS:=Zhd (show Zei (fIdx p) o 0 (l.take (k+1))=Zei (fIdx p) o 0 (l.take k)++needs (fIdx p) x from by
    rw [HOT.out,HOP.out,ep]
    rcases hrest with h | ⟨h,_,h0⟩
    ·rw [h];simp
    rw [h,h0];simp)
   have hS2:K.In wr.drew:=hKr
   have hlk:l.length≤1000000000000:=by omega
   rcases hrest with ef | ⟨ef,hk0,hk1⟩
   all_goals
    go_wp2_with fail
    refine Zae (fun w'=>K.In w') (fun _=>True) 99 (by kernel_rfl) ?_
    refine Go.w3 0 ?_
    iterate 7 ((first | (refine tk3 (v:=?_) rfl hS2 Ztr ?hy ?_;(case hy=>intro w hSw;obtain⟨z0,z1,z2,z3,z4,z5,z6,z7,z8,z9⟩:=hSw.c10 k0 k1 k2 k3 k4 j3 c0 c1 c2 c3;go_simp<;>with_reducible rfl)) | refine sk3 rfl hS2 Ztr ?_ | refine no3 ?_);refine Zss ?_)
    refine Go.w3e ?_
    refine Zwo 7 rfl fun K_ hK=>?_
    go_simp
    go_at_call 108
    refine (IH.out x hmem _ K _ hx hpx HPK.out _ hS2 hKD (show wr.drew.heap[D]?=_ from HBL.out)).mono ?_
    rintro r w2 ⟨rfl,hg2,hbl2⟩
    have hS3:K.In w2:=hS2.grown hg2 (fun q hq=>by cases hq;exact hKD)
    refine hK.out _ _ (hS3) Ztr ?_
    clear hK K_
    refine Zst ?_
    refine Zwd ?_
    have HBL2:=Zhd hbl2
    have hg3:=Zhd (Zgc (Zgc HGR.out (Zia D ((Below.refl _ wr).drew))) hg2)
    have HS3:=Zhd hS3
    clear hbl2 hg2 hS3
    go_wp2_with fail
    go_roundw
    case rel=>exact⟨k+1,by go_num,by omega,HS3.out,hg3.out,by rw [HBL2.out,HS.out];congr 2;exact Zcu fun j _=>by rw [List.contains_append,Bool.or_assoc]⟩
    simp [intOf];omega
  obtain rfl:k=l.length:=by omega
  have HE:=Zhd (show wr.heap[D]?=some (.cells (Zbu p.fl.length fun j=>f j || (needs (fIdx p) (.mk o n s l)).contains j) 4 (0,0)) from by
   rw [HBL.out]
   congr 2
   exact Zcu fun j _=>by rw [HGF.out,HNE.out,List.take_length,List.contains_append,Bool.or_assoc])
  go_wp2_with fail
  first | go_end0 | (refine bodyPost_ret (results_none rfl _ _ _) rfl ?_)
  exact⟨rfl,HGR.out,HE.out⟩
end Go.Proofs.YtgoccoldkfpbgaaGreatDoor
