/- Walks: flow.Compile. -/
import Derived.Test.YtofameafdnkijaaGreatDoorRg
import Derived.Test.YtofameafdnkijaaGreatDoorRh
import Derived.Test.YtofameafdnkijaaGreatDoorCpM
import Derived.Test.YtofameafdnkijaaGreatDoorSoM
import Derived.Test.YtofameafdnkijaaGreatDoorFap
import Derived.Test.YtofameafdnkijaaGreatDoorOck
import Derived.Deep.RegionLaw
import Derived.Deep.DeepCutAuto
set_option linter.all false
namespace Go.Proofs.YtofameafdnkijaaGreatDoor
set_option maxRecDepth 100000
set_option maxHeartbeats 16000000
open Go.RowKit Mx
theorem mCo3 {p:Prop} (h:p:=by
 have hT3:Zcp wd (Go.ChangeMaps.setBlock wd bn ob) bn:=⟨ob,rfl⟩
 have hS3:=hT3.isin hS hK1n
 generalize Go.ChangeMaps.setBlock wd bn ob=w3 at *
 go_simp
 refine hK.out _ _ (hS3) Ztr ?_
 clear hK K_
 try simp only [tkS]
 refine Zwd ?_
 have hKr3:K.In w3:=fun b o e=>hS3 b o (hle1 b o e)
 have HBN:=Zhd (hT3.below HBd.out (show w.heap.size≤bn by omega))
 go_wp2_with fail
 go_roundw
 case rel=>exact⟨k+1,by go_num,by omega,HBN.out,hKr3,by rw [TK.out];exact hM'⟩
 simp [intOf];omega):p:=h
theorem mCo2 {p:Prop} (h:p:=by
 go_region_law (first | (go_simp;go_at_call 75;refine (CT.out hkc).mono ?_;rintro r wc ⟨q,K2,u2,ps2,rfl,hTD,hnd⟩;obtain⟨hS2,hnd2⟩:=hSD.child hkE hxe hTD hnd;clear hTD hnd;have q5:=hS2.cell hj6 (by decide);have q6:=fun o=>(hS2.alloc o).cell hj6 (by decide)) | (refine step_append_lies _ (by rfl) _ _ _ (by rfl) base 159 i0 _ 1 8 Tryz.underlying153 hi0 hz0 hz1 hz2 rfl (by omega) pu k (qs.map ptrV) (by rfl) (CoS.row (CoS.alloc (by assumption) _)) ⟨_,0,none⟩ 1 1 [ptrV q] (by rfl) (by rfl) (by exact World.news_of_block (heap_alloc_new _ _)) (by simp [Value.oneCell']) (by omega) (by unfold maxLen;omega) (by omega) (CoS.low (CoS.alloc (by assumption) _)) _ rfl ?_;intro gg cap' w3 hown hgrow hat hltg;obtain⟨hf1,hf2,hf3⟩:=CoS.app (CoS.alloc (by assumption) _) hj6 (by decide) hkE hxe hnd2 hown hgrow hat))
 all_goals generalize World.setCell _ _ _=W at hf3 ⊢
 all_goals go_wp2_with fail
 all_goals go_roundw
 all_goals first | (simp [intOf];omega;done) | exact⟨k+1,_,_,_,_,_,by go_num,by omega,hf3⟩ | ((repeat apply Exists.intro);refine⟨?_,rfl⟩;exact⟨k+1,_,_,_,_,_,by go_num,by omega,hf3⟩)):p:=h
theorem mCo1 {p:Prop} (h:p:=by
 intro w hSw;obtain⟨z0,z1,z2,z3,z4⟩:=hSw.c5 q0 q1 q2 q3 q4;first | (go_simp;done) | (go_simp;with_reducible rfl)):p:=h
theorem checkM_at {p:Pr} (h:(Za0 p).1=0):Za0 p=(0, -1):=by
 cases hl:Zeo p with
 | error x=>
  rw [Zh5 hl] at h
  exact absurd h (lateM_pos hl)
 | ok l=>
  unfold Za0 at h ⊢
  rw [hl] at h ⊢
  dsimp only at h ⊢
  split at h
  ·cases h
  split at h
  ·cases h
  rename_i h1 h2
  rw [if_neg h2]
theorem ints_keep {H H':Kn} {l:List Nat} {v:Value} (h:Zc2 H l v) (hk:∀ b i n,H.cell b i=some (natV n)→H'.cell b i=some (natV n)):Zc2 H' l v:=
 h.imp id fun⟨b,off,cap,h1,h2,h3,h4⟩=>⟨b,off,cap,h1,h2,h3,fun i hi=>hk _ _ _ (h4 i hi)⟩
def NewI (n:Nat) (l:List Nat) (a:Option Addr):Prop:=∀ b off,a=some ⟨b,off,none⟩→0<l.length→n≤b
theorem ints_low {n m:Nat} {w:World} {l:List Nat} {a:Option Addr} {k c:Nat} (h:Zc2 (Zed m w) l (.slice a k c)) (hn:n≤m):NewI n l a:=fun b off e hl=>by
 obtain⟨b2,off2,e2,_,c0⟩:=SlV.at h hl
 rw [e] at e2
 cases e2
 have c0:(Zed m w).cell b (off+0 * 1+0)=some (natV l[0]):=c0
 refine Nat.le_trans hn ?_
 refine Nat.le_of_not_lt fun hlt=>?_
 unfold Kn.cell Zed at c0
 rw [if_pos hlt] at c0
 cases c0
theorem ints_new {n:Nat} {w:World} {l:List Nat} {a:Option Addr} {k c:Nat} (h:Zc2 (Zai w) l (.slice a k c)) (hn:NewI n l a):Zc2 (Zed n w) l (.slice a k c):=by
 by_cases hl:0<l.length
 ·rcases h with ⟨rfl,_⟩ | ⟨b,off,cap,e,h2,h3,h4⟩
  ·simp at hl
  have hb:n≤b:=by cases e;exact hn b off rfl hl
  refine .inr ⟨b,off,cap,e,h2,h3,fun i hi=>?_⟩
  have:=h4 i hi
  have hc:∀ j,(Zed n w).cell b j=(Zai w).cell b j:=fun j=>by rw [newKn_cell hb,Zap]
  simp only [hc]
  exact this
 have h0:l=[]:=List.eq_nil_of_length_eq_zero (by omega)
 rcases h with ⟨h,h2⟩ | ⟨b,off,cap,e,h2,h3,h4⟩
 ·exact .inl ⟨h,h2⟩
 exact .inl ⟨h0,by cases e;subst h0;exact⟨_,_,rfl⟩⟩
def CodeNew (CT:TypeId) (R:REnv) (n:Nat) (w:World) (p:Pr) (ord:List Nat) (B:Nat):Prop:=
 ∃ cs vo vu,w.heap[B]?=some (.cells cs CT (0,0))∧cs[5]?=some vo∧Zc2 (Zed n w) ord vo∧cs[9]?=some vu∧OutsV (Zed n w) (cdOf p ord).outs vu
def CmpPost (sp:Nat→Addr) (nb:Bool) (ni:Int) (p:Pr) (w:World) (r:Ending) (w':World):Prop:=
 Below w.heap.size w w'∧if (Za0 p).1=0 then ∃ B ks ord,Zas Env.none p.vars=some ks∧Zbu p = .ok ord∧r = .returned (.tuple #[ptrV B,.nilIface])∧CodeAt 163 155 ⟨ks,Zaa p,getI (Zaj p),nb,ni⟩ (Zai w') p ord B∧w.heap.size≤B∧CodeNew 155 ⟨ks,Zaa p,getI (Zaj p),nb,ni⟩ w.heap.size w' p ord B
  else ∃ v,r = .returned (.tuple #[.pointer none,v])∧ErrW sp w' (Za0 p).1 (Za0 p).2 v
theorem compile_any (H:Kn) (T:Zbo H) (sp:Nat→Addr) (p:Pr) (vi vo vl va vc:Value) (hp:PrP H p vi vo vl va vc) (w:World) (hH:H.In w) (S:Sen5 w sp) (nb:Bool) (ni:Int)
  (hsz:p.ins.length≤1000000∧p.fl.length≤1000000∧p.outs.length≤1000000000∧p.as.length≤1000000∧p.cs.length≤1000000) (hpt:Ex.partsL p.terms≤1000000000):
  Calls Tryz.prog 28 #[.agg #[vi,vo,vl,va,vc]] w (CmpPost sp nb ni p w):=by
 obtain⟨z1,z2,z3,z4,z5⟩:=hsz
 have HP:=Zhd hp
 obtain⟨h1,h2,h3,h4,h5⟩:=hp
 obtain⟨ai,ci,rfl⟩:=h1.len
 obtain⟨ao,co,rfl⟩:=h2.len
 obtain⟨al,cl,rfl⟩:=h3.len
 obtain⟨aa,ca,rfl⟩:=h4.len
 obtain⟨ac,cc,rfl⟩:=h5.len
 have H1:=Zhd h1
 have H2:=Zhd h2
 have H3:=Zhd h3
 have H4:=Zhd h4
 have H5:=Zhd h5
 clear h1 h2 h3 h4 h5
 have hmm:=@run_makeMap Tryz.prog
 go_enter Tryz.func28,Tryz.ntmps28
 go_wp2_with fail
 have hb0:Below w.heap.size w (w.alloc (.cells #[.slice ai p.ins.length ci,.slice ao p.outs.length co,.slice al p.fl.length cl,.slice aa p.as.length ca,.slice ac p.cs.length cc] 41)):=(Below.refl _ _).alloc (Nat.le_refl _) _
 refine (Zgy H T sp p _ _ _ _ _ HP.out _ (hH.below hb0) (S.below hb0) ⟨z1,z2,by omega,z4,z5⟩ hpt (Zec p)).mono ?_
 rintro r w1 ⟨hb1,v,rfl,hv⟩
 have HB1:=Zhd (hb0.trans (hb1.mono (by simp)))
 have hq:∀ i,w1.cell? ⟨w.heap.size,i,none⟩=(#[.slice ai p.ins.length ci,.slice ao p.outs.length co,.slice al p.fl.length cl,.slice aa p.as.length ca,.slice ac p.cs.length cc]:Array Value)[i]?:=fun i=>by rw [hb1.cell (p:=⟨w.heap.size,i,none⟩) (by simp),World.cell?_alloc_new]
 have HQ:=Zhd hq
 have hz1:w.heap.size+1≤w1.heap.size:=by have:=hb1.size;simp at this;omega
 have HV:=Zhd hv
 clear hq hb0 hb1 hv
 by_cases hc0:(Za0 p).1=0
 case neg=>
  obtain⟨tv,pv,hve⟩:∃ tv pv,v = .iface tv pv:=by
   rcases HV.out with ⟨_,h⟩ | ⟨_,N,h,_⟩
   ·obtain⟨c,hc⟩:∃ c,(Za0 p).1=c+1:=⟨(Za0 p).1 - 1,by omega⟩
    rw [hc,Zfd] at h
    exact⟨_,_,h⟩
   exact⟨_,_,h⟩
  subst hve
  go_wp2_with fail
  go_ret2
  unfold CmpPost
  rw [if_neg hc0]
  exact⟨HB1.out,_,rfl,HV.out⟩
 obtain⟨l,ho,_,_⟩:=Zbx hc0
 obtain⟨hck,holen,holow⟩:=Zbe ho
 obtain⟨ks,hks,_,hfm,hfl,hpp,hin,_⟩:=Zbs hck
 have hve:v = .nilIface:=by
  have h:=HV.out
  rw [checkM_at hc0] at h
  rcases h with ⟨_,h⟩ | ⟨h,_⟩
  ·exact h
  exact absurd rfl h
 subst hve
 have HKS:=Zhd hks
 have HFM:=Zhd ((Zbk ks p.terms).1 hfm)
 have HHO:=Zhd ho
 have HCK:=Zhd hck
 have HC0:=Zhd hc0
 clear hks hfm ho hck hc0 HV
 have HP1:=Zhd (hH.below HB1.out)
 have S1:=S.below HB1.out
 go_upto_region 4 with fail
 go_cut [5] from 23 to 30 (fun s5 wx=>∃ B bn bk bl L,s5=ptrV B∧Below w1.heap.size w1 wx∧w1.heap.size≤B∧w1.heap.size≤bn∧w1.heap.size≤bk∧w1.heap.size≤bl∧bn≠bk∧bn≠bl∧bk≠bl∧wx.heap[B]?=some (.cells #[.slice ai p.ins.length ci,.slice ao p.outs.length co,.slice al p.fl.length cl,.slice aa p.as.length ca,.slice ac p.cs.length cc,.slice none 0 0,.slice none 0 0,.slice none 0 0,.slice none 0 0,.slice none 0 0,.slice none 0 0,.map (some bn),.map (some bk),.map (some bl)] 155 (0,0))∧Zaw (Value.int .i64) wx bn Env.none∧Zaw (Value.int .i64) wx bk (kindsM p)∧Zaw (Value.int .i64) wx bl L∧getI L=Zaa p∧∀ s,0≤getI L s∧getI L s≤2)
 case first=>
  have hS:(Zai w1).In w1.drew:=Za8 w1
  have hle:H.le (Zai w1):=all_of HP1.out
  have q0:(Zai w1).cell w.heap.size 0=some (.slice ai p.ins.length ci):=by rw [Zap];exact HQ.out 0
  have q1:(Zai w1).cell w.heap.size 1=some (.slice ao p.outs.length co):=by rw [Zap];exact HQ.out 1
  have q2:(Zai w1).cell w.heap.size 2=some (.slice al p.fl.length cl):=by rw [Zap];exact HQ.out 2
  have q3:(Zai w1).cell w.heap.size 3=some (.slice aa p.as.length ca):=by rw [Zap];exact HQ.out 3
  have q4:(Zai w1).cell w.heap.size 4=some (.slice ac p.cs.length cc):=by rw [Zap];exact HQ.out 4
  have HK:=Zhd (fun (w':World) (h:(Zai w1).In w')=>kinds_any H p _ _ _ _ _ HP.out ⟨z1,z2⟩ w' (fun b o e=>h b o (hle b o e)))
  have HN:=Zhd (fun (w':World) (h:(Zai w1).In w')=>names_new H p _ _ _ _ _ HP.out ks (fun f hf=>by
   obtain⟨i,hi,e⟩:=List.mem_iff_getElem.1 (Zcg p hf)
   rw [← e]
   exact HFM.out i hi) z2 w' (fun b o e=>h b o (hle b o e)))
  have FIN:=Zhd (show ∀ (wC:World) (bn bk bl:Nat) (L:Env Int),Below w1.heap.size w1 wC→w1.heap.size≤bn→w1.heap.size≤bk→w1.heap.size≤bl→bn≠bk→bn≠bl→bk≠bl→Zaw (Value.int .i64) wC bn Env.none→Zaw (Value.int .i64) wC bk (kindsM p)→Zaw (Value.int .i64) wC bl L→getI L=Zaa p→(∀ s,0≤getI L s∧getI L s≤2)→
    ∃ B cn ck ce L',ptrV wC.heap.size=ptrV B∧Below w1.heap.size w1 (wC.alloc (.cells #[.slice ai p.ins.length ci,.slice ao p.outs.length co,.slice al p.fl.length cl,.slice aa p.as.length ca,.slice ac p.cs.length cc,.slice none 0 0,.slice none 0 0,.slice none 0 0,.slice none 0 0,.slice none 0 0,.slice none 0 0,.map (some bn),.map (some bk),.map (some bl)] 155))∧w1.heap.size≤B∧w1.heap.size≤cn∧w1.heap.size≤ck∧w1.heap.size≤ce∧cn≠ck∧cn≠ce∧ck≠ce∧((wC.alloc (.cells #[.slice ai p.ins.length ci,.slice ao p.outs.length co,.slice al p.fl.length cl,.slice aa p.as.length ca,.slice ac p.cs.length cc,.slice none 0 0,.slice none 0 0,.slice none 0 0,.slice none 0 0,.slice none 0 0,.slice none 0 0,.map (some bn),.map (some bk),.map (some bl)] 155))).heap[B]?=some (.cells #[.slice ai p.ins.length ci,.slice ao p.outs.length co,.slice al p.fl.length cl,.slice aa p.as.length ca,.slice ac p.cs.length cc,.slice none 0 0,.slice none 0 0,.slice none 0 0,.slice none 0 0,.slice none 0 0,.slice none 0 0,.map (some cn),.map (some ck),.map (some ce)] 155 (0,0))∧Zaw (Value.int .i64) (wC.alloc (.cells #[.slice ai p.ins.length ci,.slice ao p.outs.length co,.slice al p.fl.length cl,.slice aa p.as.length ca,.slice ac p.cs.length cc,.slice none 0 0,.slice none 0 0,.slice none 0 0,.slice none 0 0,.slice none 0 0,.slice none 0 0,.map (some bn),.map (some bk),.map (some bl)] 155)) cn Env.none∧Zaw (Value.int .i64) (wC.alloc (.cells #[.slice ai p.ins.length ci,.slice ao p.outs.length co,.slice al p.fl.length cl,.slice aa p.as.length ca,.slice ac p.cs.length cc,.slice none 0 0,.slice none 0 0,.slice none 0 0,.slice none 0 0,.slice none 0 0,.slice none 0 0,.map (some bn),.map (some bk),.map (some bl)] 155)) ck (kindsM p)∧Zaw (Value.int .i64) (wC.alloc (.cells #[.slice ai p.ins.length ci,.slice ao p.outs.length co,.slice al p.fl.length cl,.slice aa p.as.length ca,.slice ac p.cs.length cc,.slice none 0 0,.slice none 0 0,.slice none 0 0,.slice none 0 0,.slice none 0 0,.slice none 0 0,.map (some bn),.map (some bk),.map (some bl)] 155)) ce L'∧getI L'=Zaa p∧∀ s,0≤getI L' s∧getI L' s≤2 from
   fun wC bn bk bl L h1 h2 h3 h4 h5 h6 h7 m1 m2 m3 h8 h9=>⟨wC.heap.size,bn,bk,bl,L,rfl,h1.alloc h1.size _,h1.size,h2,h3,h4,h5,h6,h7,heap_alloc_new _ _,m1.alloc _,m2.alloc _,m3.alloc _,h8,h9⟩)
  have hwd:w1.drew.heap.size=w1.heap.size:=rfl
  have hbd:Below w1.heap.size w1 w1.drew:=(Below.refl _ _).drew
  refine Za2 (fun w'=>(Zai w1).In w') (fun _=>True) 99 (by kernel_rfl) ?_
  refine tk2 (i:=0) (v:=?_) rfl hS Ztr ?hy ?_
  case hy=>exact mCo1
  try simp only [tkS]
  refine tk2 (i:=2) (v:=?_) rfl hS Ztr ?hy ?_
  case hy=>exact mCo1
  try simp only [tkS]
  refine tk2 (i:=4) (v:=?_) rfl hS Ztr ?hy ?_
  case hy=>exact mCo1
  try simp only [tkS]
  refine Zds (i:=1) (j:=3) (o:=_) (o':=_) (by kernel_rfl) rfl rfl (fun K_ hK=>?_) (fun K_ hK=>?_)
  ·go_simp
   refine hK.out _ _ (hS.alloc _) Ztr ?_
   clear hK K_
   try simp only [tkS]
   refine Zwo 3 rfl fun K_ hK=>?_
   go_simp
   go_at_call 73
   refine (HK.out _ (hS.alloc (.map #[] 0))).mono ?_
   rintro r wk ⟨bk,rfl,hMk,hkg,hbk⟩
   have hSk:=((hS.alloc (.map #[] 0))).below hbk
   refine hK.out _ _ hSk Ztr ?_
   clear hK K_
   try simp only [tkS]
   refine Zwo 5 rfl fun K_ hK=>?_
   go_simp
   go_at_call 36
   refine (HN.out _ hSk).mono ?_
   rintro r wn ⟨bl,L,rfl,hMl,hLM,hLB,hlg,hbl⟩
   have hSn:=(hSk).below hbl
   refine hK.out _ _ hSn Ztr ?_
   clear hK K_
   try simp only [tkS]
   have hbA:Below w1.heap.size w1 (w1.drew.alloc (.map #[] 0)):=hbd.alloc hbd.size _
   have hbB:=hbA.trans (hbk.mono hbA.size)
   have hbC:=hbB.trans (hbl.mono hbB.size)
   have hMn:=((Zaw.made (Value.int .i64) w1.drew).below hbk).below hbl
   have hMk2:=hMk.below hbl
   have hlt1:=hMk.lt
   have hsA:(w1.drew.alloc (.map #[] 0)).heap.size=w1.heap.size+1:=by simp
   have hsk:=hbk.size
   have hsn:=hbl.size
   simp only [hsA] at hsk hkg
   refine tk2 (i:=6) (v:=?_) rfl hSn Ztr ?hy ?_
   case hy=>exact mCo1
   try simp only [tkS]
   refine Zwo 7 rfl fun K_ hK=>?_
   go_simp
   refine hK.out _ _ (hSn.alloc _) Ztr ?_
   clear hK K_
   try simp only [tkS]
   refine tk2 (i:=8) (v:=?_) rfl (hSn.alloc _) Ztr ?hy ?_
   case hy=>exact mCo1
   try simp only [tkS]
   refine Zwd ?_
   go_wp2_with fail
   go_meet
   exact FIN.out wn w1.heap.size bk bl L hbC (Nat.le_refl _) (by omega) (by omega) (by omega) (by omega) (by omega) hMn hMk2 hMl hLM hLB
  go_simp
  go_at_call 73
  refine (HK.out _ hS).mono ?_
  rintro r wk ⟨bk,rfl,hMk,hkg,hbk⟩
  have hSk:=(hS).below hbk
  refine hK.out _ _ hSk Ztr ?_
  clear hK K_
  try simp only [tkS]
  refine Zds (i:=1) (j:=5) (o:=_) (o':=_) (by kernel_rfl) rfl rfl (fun K_ hK=>?_) (fun K_ hK=>?_)
  ·go_simp
   refine hK.out _ _ (hSk.alloc _) Ztr ?_
   clear hK K_
   try simp only [tkS]
   refine Zwo 5 rfl fun K_ hK=>?_
   go_simp
   go_at_call 36
   refine (HN.out _ (hSk.alloc (.map #[] 0))).mono ?_
   rintro r wn ⟨bl,L,rfl,hMl,hLM,hLB,hlg,hbl⟩
   have hSn:=((hSk.alloc (.map #[] 0))).below hbl
   refine hK.out _ _ hSn Ztr ?_
   clear hK K_
   try simp only [tkS]
   have hbA:=hbd.trans (hbk.mono hbd.size)
   have hbB:Below w1.heap.size w1 (wk.alloc (.map #[] 0)):=hbA.alloc hbA.size _
   have hbC:=hbB.trans (hbl.mono hbB.size)
   have hMn:=(Zaw.made (Value.int .i64) wk).below hbl
   have hMk2:=(hMk.alloc (.map #[] 0)).below hbl
   have hlt1:=hMk.lt
   have hsA:(wk.alloc (.map #[] 0)).heap.size=wk.heap.size+1:=by simp
   have hsk:=hbk.size
   have hsn:=hbl.size
   simp only [hsA] at hsn hlg
   refine tk2 (i:=6) (v:=?_) rfl hSn Ztr ?hy ?_
   case hy=>exact mCo1
   try simp only [tkS]
   refine Zwo 7 rfl fun K_ hK=>?_
   go_simp
   refine hK.out _ _ (hSn.alloc _) Ztr ?_
   clear hK K_
   try simp only [tkS]
   refine tk2 (i:=8) (v:=?_) rfl (hSn.alloc _) Ztr ?hy ?_
   case hy=>exact mCo1
   try simp only [tkS]
   refine Zwd ?_
   go_wp2_with fail
   go_meet
   exact FIN.out wn wk.heap.size bk bl L hbC (by omega) (by omega) (by omega) (by omega) (by omega) (by omega) hMn hMk2 hMl hLM hLB
  go_simp
  go_at_call 36
  refine (HN.out _ hSk).mono ?_
  rintro r wn ⟨bl,L,rfl,hMl,hLM,hLB,hlg,hbl⟩
  have hSn:=(hSk).below hbl
  refine hK.out _ _ hSn Ztr ?_
  clear hK K_
  try simp only [tkS]
  refine Zwo 1 rfl fun K_ hK=>?_
  go_simp
  refine hK.out _ _ (hSn.alloc _) Ztr ?_
  clear hK K_
  try simp only [tkS]
  have hbA:=hbd.trans (hbk.mono hbd.size)
  have hbC:=hbA.trans (hbl.mono hbA.size)
  have hMn:=Zaw.made (Value.int .i64) wn
  have hMk2:=(hMk.below hbl).alloc (.map #[] 0)
  have hMl2:=hMl.alloc (.map #[] 0)
  have hlt1:=hMk.lt
  have hlt2:=hMl.lt
  have hsk:=hbk.size
  have hsn:=hbl.size
  have hbC:=hbC.alloc hbC.size (.map #[] 0)
  have hsz2:(wn.alloc (.map #[] 0)).heap.size=wn.heap.size+1:=by simp
  have hfin:=FIN.out (wn.alloc (.map #[] 0)) wn.heap.size bk bl L hbC (by omega) (by omega) (by omega) (by omega) (by omega) (by omega) hMn hMk2 hMl2 hLM hLB
  rw [hsz2] at hfin
  refine tk2 (i:=6) (v:=?_) rfl (hSn.alloc (.map #[] 0)) Ztr ?hy ?_
  case hy=>exact mCo1
  try simp only [tkS]
  refine Zwo 7 rfl fun K_ hK=>?_
  go_simp
  refine hK.out _ _ ((hSn.alloc (.map #[] 0)).alloc _) Ztr ?_
  clear hK K_
  try simp only [tkS]
  refine tk2 (i:=8) (v:=?_) rfl ((hSn.alloc (.map #[] 0)).alloc _) Ztr ?hy ?_
  case hy=>exact mCo1
  try simp only [tkS]
  refine Zwd ?_
  go_wp2_with fail
  go_meet
  exact hfin
 obtain⟨B,bn,bk,bl,L,rfl,hbx,hgB,hgn,hgk,hgl,hnk,hnl,hkl,hBx,hMn,hMk,hMl,hLM,hLB⟩:=hcut
 have HBC:=Zhd (HB1.out.trans (hbx.mono (by omega)))
 have q:∀ i,wc.cell? ⟨w.heap.size,i,none⟩=(#[.slice ai p.ins.length ci,.slice ao p.outs.length co,.slice al p.fl.length cl,.slice aa p.as.length ca,.slice ac p.cs.length cc]:Array Value)[i]?:=fun i=>by rw [hbx.cell (p:=⟨w.heap.size,i,none⟩) (by show w.heap.size<w1.heap.size;omega)];exact HQ.out i
 have HQC:=Zhd q
 have qq0:wc.cell? ⟨w.heap.size,0,none⟩=some (.slice ai p.ins.length ci):=q 0
 have qq1:wc.cell? ⟨w.heap.size,1,none⟩=some (.slice ao p.outs.length co):=q 1
 have qq2:wc.cell? ⟨w.heap.size,2,none⟩=some (.slice al p.fl.length cl):=q 2
 have qq3:wc.cell? ⟨w.heap.size,3,none⟩=some (.slice aa p.as.length ca):=q 3
 have qq4:wc.cell? ⟨w.heap.size,4,none⟩=some (.slice ac p.cs.length cc):=q 4
 have HM:=Zhd (And.intro hMn (And.intro hMk hMl))
 have HL:=Zhd (And.intro hLM hLB)
 have HBX:=Zhd hBx
 have SC:=S1.below hbx
 have hsx:=hbx.size
 clear hMn hMk hMl hLM hLB hBx q hbx HQ
 go_upto_region 6 with (go_at_call 74;refine (order_new H T sp p _ _ _ _ _ HP.out _ (hH.below HBC.out) SC ⟨z1,z2,by omega,z4,z5⟩ hpt (Zec p)).mono ?_;rintro r w2 ⟨hb2,hpost⟩;rw [HHO.out] at hpost;obtain⟨vo2,rfl,hvn⟩:=hpost;obtain⟨av,cv,rfl⟩:=hvn.len;have hvo:=Zc2.le (newKn_le _ _) hvn;have HNB:=Zhd (ints_low hvn (by have:=HBC.out.size;omega):NewI w.heap.size l av);have hB2:=(hb2.block B (Zlt HBX.out)).trans HBX.out;have hc5:w2.cell? ⟨B,5,none⟩=some (.slice none 0 0):=(by simp [World.cell?,hB2]);have hf5:w2.frozen? ⟨B,5,none⟩=false:=(by simp [World.frozen?,hB2]))
 have hne:∀ (i n:Nat),(#[.slice ai p.ins.length ci,.slice ao p.outs.length co,.slice al p.fl.length cl,.slice aa p.as.length ca,.slice ac p.cs.length cc,.slice none 0 0,.slice none 0 0,.slice none 0 0,.slice none 0 0,.slice none 0 0,.slice none 0 0,.map (some bn),.map (some bk),.map (some bl)]:Array Value)[i]?≠some (natV n):=fun i n h=>by
  have hm:=Array.mem_of_getElem? h
  simp [natV] at hm
 have hBl2:=(Zlt hB2)
 obtain⟨hMn,hMk,hMl⟩:=HM.out
 have hMn:=hMn.below hb2
 have hMk:=hMk.below hb2
 have hMl:=hMl.below hb2
 have hBn:B≠bn:=fun e=>by obtain⟨es,ck,h1,_⟩:=hMn;rw [← e,hB2] at h1;cases h1
 have hBk:B≠bk:=fun e=>by obtain⟨es,ck,h1,_⟩:=hMk;rw [← e,hB2] at h1;cases h1
 have hBl:B≠bl:=fun e=>by obtain⟨es,ck,h1,_⟩:=hMl;rw [← e,hB2] at h1;cases h1
 have hvo3:Zc2 (noKn bn (w2.setCell ⟨B,5,none⟩ (.slice av p.fl.length cv))) l (.slice av l.length cv):=ints_keep hvo fun b i n hc=>by
  rw [Zap] at hc
  have h1:b≠B:=fun e=>by rw [e] at hc;simp only [World.cell?,hB2] at hc;exact hne i n (by simpa using hc)
  have h2:b≠bn:=fun e=>by obtain⟨es,ck,h1,_⟩:=hMn;rw [e] at hc;simp [World.cell?,h1] at hc
  rw [Zgf h2,World.cell?_of_block (w:=w2) (Below.heap_setCell w2 ⟨B,5,none⟩ _ b h1)]
  exact hc
 have hB3:(w2.setCell ⟨B,5,none⟩ (.slice av p.fl.length cv)).heap[B]?=some (.cells #[.slice ai p.ins.length ci,.slice ao p.outs.length co,.slice al p.fl.length cl,.slice aa p.as.length ca,.slice ac p.cs.length cc,.slice av p.fl.length cv,.slice none 0 0,.slice none 0 0,.slice none 0 0,.slice none 0 0,.slice none 0 0,.map (some bn),.map (some bk),.map (some bl)] 155 (0,0)):=by rw [Zab _ _ _ _ _ _ _ hB2];rfl
 have hoth:∀ b,b≠B→(w2.setCell ⟨B,5,none⟩ (.slice av p.fl.length cv)).heap[b]?=w2.heap[b]?:=fun b hb=>Below.heap_setCell w2 ⟨B,5,none⟩ _ b hb
 have hbw3:Below w.heap.size w (w2.setCell ⟨B,5,none⟩ (.slice av p.fl.length cv)):=(HBC.out.trans (hb2.mono (by have:=HBC.out.size;omega))).setCell (p:=⟨B,5,none⟩) (by show w.heap.size≤B;omega) _
 have hMn3:=hMn.of_block (hoth bn (Ne.symm hBn))
 have hMk3:=hMk.of_block (hoth bk (Ne.symm hBk))
 have hMl3:=hMl.of_block (hoth bl (Ne.symm hBl))
 have hq3:∀ i,(w2.setCell ⟨B,5,none⟩ (.slice av p.fl.length cv)).cell? ⟨w.heap.size,i,none⟩=(#[.slice ai p.ins.length ci,.slice ao p.outs.length co,.slice al p.fl.length cl,.slice aa p.as.length ca,.slice ac p.cs.length cc]:Array Value)[i]?:=fun i=>by
  rw [World.cell?_of_block (w:=w2) (hoth w.heap.size (by omega)),hb2.cell (p:=⟨w.heap.size,i,none⟩) (by show w.heap.size<wc.heap.size;omega)]
  exact HQC.out i
 generalize w2.setCell ⟨B,5,none⟩ (.slice av p.fl.length cv)=W3 at *
 obtain⟨K,hKe⟩:∃ K,K=noKn bn W3:=⟨_,rfl⟩
 have hKin:K.In W3:=by rw [hKe];exact Zhu bn W3
 have hKn:K bn=none:=by rw [hKe];exact Zge bn W3
 have hHK:H.le K:=by rw [hKe];exact Ziy (hH.below hbw3) (hH.isNone (by omega))
 have HKB:=Zhd (show K B=some (.cells #[.slice ai p.ins.length ci,.slice ao p.outs.length co,.slice al p.fl.length cl,.slice aa p.as.length ca,.slice ac p.cs.length cc,.slice av p.fl.length cv,.slice none 0 0,.slice none 0 0,.slice none 0 0,.slice none 0 0,.slice none 0 0,.map (some bn),.map (some bk),.map (some bl)] 155 (0,0)) from by rw [hKe];unfold noKn;rw [if_neg hBn];exact hB3)
 have HKQ:=Zhd (show ∀ i,K.cell w.heap.size i=(#[.slice ai p.ins.length ci,.slice ao p.outs.length co,.slice al p.fl.length cl,.slice aa p.as.length ca,.slice ac p.cs.length cc]:Array Value)[i]? from fun i=>by rw [hKe,Zgf (by omega)];exact hq3 i)
 have HKM:=Zhd (show ∀ w',K.In w'→Zaw (Value.int .i64) w' bk (kindsM p)∧Zaw (Value.int .i64) w' bl L from fun w' h=>by
  rw [hKe] at h
  refine⟨?_,?_⟩
  ·obtain⟨es,ck,h1,h2⟩:=hMk3
   exact⟨es,ck,h bk _ (by unfold noKn;rw [if_neg (Ne.symm hnk)];exact h1),h2⟩
  obtain⟨es,ck,h1,h2⟩:=hMl3
  exact⟨es,ck,h bl _ (by unfold noKn;rw [if_neg (Ne.symm hnl)];exact h1),h2⟩)
 have HKV:=Zhd (show Zc2 K l (.slice av l.length cv) from by rw [hKe];exact hvo3)
 have HPK:=Zhd (HP.out.le hHK)
 have HMN:=Zhd hMn3
 have HB3:=Zhd hbw3
 have HKN:=Zhd hKn
 have HLE:=Zhd hHK
 have HKI:=Zhd hKin
 have hz3:w.heap.size+1≤W3.heap.size:=by have:=hKin.cell (HKQ.out 0);have:=Kn.cell_lt hKin (b:=w.heap.size) (i:=0) (v := .slice ai p.ins.length ci) (HKQ.out 0);omega
 clear hne hMn hMk hMl hvo3 hB3 hoth hbw3 hMn3 hMk3 hMl3 hq3 hKin hKn hHK hKe hvo hB2 hc5 hf5 hb2 HM HBX HQC SC qq0 qq1 qq2 qq3 qq4
 have g0:W3.cell? ⟨w.heap.size,0,none⟩=some (.slice ai p.ins.length ci):=HKI.out.cell (HKQ.out 0)
 go_wp2_with fail
 clear g0
 go_loopw [42] (fun i wr=>∃ k:Nat,i = .int .i64 k∧k≤p.ins.length∧Below w.heap.size w wr∧K.In wr∧Zaw (Value.int .i64) wr bn (Zcu 0 Env.none (p.ins.take k))) (fun i _=>p.ins.length - (intOf i).toNat)
 case atStart=>exact⟨0,rfl,Nat.zero_le _,HB3.out,HKI.out,HMN.out⟩
 obtain⟨k,rfl,hk,hb,hKr,hM⟩:=hrel
 have HB:=Zhd hb
 have HM:=Zhd hM
 have HKR:=Zhd hKr
 clear hb hM hKr
 by_cases hkl:k<p.ins.length
 ·obtain⟨b,off,rfl,_,c0,c1⟩:=SlV.at HPK.out.ins hkl
  have c0:=HKR.out.cell c0
  have c1:=HKR.out.cell c1
  simp only [Nat.add_zero] at c0
  have TK:=Zhd (inNames_take p.ins k hkl)
  generalize p.ins[k]=x at *
  obtain⟨xn,xk⟩:=x
  dsimp only at *
  go_wp2_with fail
  have hVsz:(wr.alloc (.cells #[.string xn,.int .i64 xk] 158)).heap.size=wr.heap.size+1:=by simp
  have hVb:=heap_alloc_new wr (.cells #[.string xn,.int .i64 xk] 158)
  have hbnlt:=HM.out.lt
  have hKV:K wr.heap.size=none:=HKR.out.isNone (Nat.le_refl _)
  obtain⟨K1,hK1⟩:∃ K1,K1=K.add wr.heap.size (.cells #[.string xn,.int .i64 xk] 158 (0,0)):=⟨_,rfl⟩
  have hle1:K.le K1:=by rw [hK1];exact Kn.le_add hKV
  have hS:K1.In (wr.alloc (.cells #[.string xn,.int .i64 xk] 158)).drew:=by rw [hK1];exact (HKR.out.alloc _).add hVb
  have hK1n:K1 bn=none:=by rw [hK1,Kn.add_other _ _ (by omega)];exact HKN.out
  have k0:K1.cell wr.heap.size 0=some (.string xn):=by rw [hK1];unfold Kn.cell;rw [Kn.add_self];rfl
  have k11:K1.cell B 11=some (.map (some bn)):=hle1.cell (by unfold Kn.cell;rw [HKB.out];rfl)
  have hMd:Zaw (Value.int .i64) (wr.alloc (.cells #[.string xn,.int .i64 xk] 158)).drew bn (Zcu 0 Env.none (p.ins.take k)):=HM.out.alloc _
  have HBd:=Zhd (show Below w.heap.size w (wr.alloc (.cells #[.string xn,.int .i64 xk] 158)).drew from (HB.out.alloc HB.out.size _).drew)
  clear hVb hVsz hKV hK1 c0 c1
  refine Za2 (fun w'=>K1.In w') (fun _=>True) 99 (by kernel_rfl) ?_
  generalize (wr.alloc (.cells #[.string xn,.int .i64 xk] 158)).drew=wd at *
  refine Go.w3 0 ?_
  iterate 7 ((first | (refine tk3 (v:=?_) rfl hS Ztr ?hy ?_;(case hy=>intro w hSw;obtain⟨z0,z1⟩:=hSw.c2 k11 k0;go_simp<;>with_reducible rfl)) | refine sk3 rfl hS Ztr ?_ | refine no3 ?_);refine Zss ?_)
  refine Go.w3e ?_
  refine Zaf (i:=7) (oi:=_) (v := .int .i64 (-1 - (k:Int))) rfl (by decide) (by kernel_rfl) (by kernel_rfl) (by kernel_rfl) (by kernel_rfl) (fun _ _ _ h=>h) hS Ztr (Or.inl ⟨by rfl,?hy⟩) ?_
  case hy=>intro w hSw;obtain⟨z0,z1⟩:=hSw.c2 k11 k0;first | (go_simp;done) | (go_simp;with_reducible rfl) | (go_simp;rw [wrap64];split<;>omega)
  try simp only [tkS]
  refine Zwo 8 rfl fun K_ hK=>?_
  obtain⟨ob,hrun,hM'⟩:=(hMd.run_set (P:=Tryz.prog) Tryz.underlying97 Tryz.underlying9 xn (-1 - (k:Int)))
  exact mCo3
 obtain rfl:k=p.ins.length:=by omega
 have g2:wr.cell? ⟨w.heap.size,2,none⟩=some (.slice al p.fl.length cl):=HKR.out.cell (HKQ.out 2)
 have HM0:=Zhd (show Zaw (Value.int .i64) wr bn (Zcu 0 Env.none p.ins) from by have:=HM.out;rw [List.take_length] at this;exact this)
 go_wp2_with fail
 clear g2
 have HBr:=HB
 have HKRr:=HKR
 clear HB HKR HM hk hkl
 go_loopw [59] (fun i wr=>∃ k:Nat,i = .int .i64 k∧k≤p.fl.length∧Below w.heap.size w wr∧K.In wr∧Zaw (Value.int .i64) wr bn (Zc5 0 (Zcu 0 Env.none p.ins) (p.fl.take k))) (fun i _=>p.fl.length - (intOf i).toNat)
 case atStart=>exact⟨0,rfl,Nat.zero_le _,HBr.out,HKRr.out,HM0.out⟩
 clear HBr HKRr HM0
 obtain⟨k,rfl,hk,hb,hKr,hM⟩:=hrel
 have HB:=Zhd hb
 have HM:=Zhd hM
 have HKR:=Zhd hKr
 clear hb hM hKr
 by_cases hkl:k<p.fl.length
 ·obtain⟨b,off,rfl,_,hfc⟩:=SlV.at HPK.out.fl hkl
  obtain⟨u,c0,c1,c2,c3,c4,c5,hu⟩:=hfc.cells
  obtain⟨ax,cx,rfl⟩:=hu.len
  have c0:=HKR.out.cell c0
  have c1:=HKR.out.cell c1
  have c2:=HKR.out.cell c2
  have c3:=HKR.out.cell c3
  have c4:=HKR.out.cell c4
  have c5:=HKR.out.cell c5
  simp only [Nat.add_zero] at c0
  have TK:=Zhd (flNames_take (Zcu 0 Env.none p.ins) p.fl k hkl)
  clear hu hfc
  generalize p.fl[k]=x at *
  obtain⟨xn,xk,xe⟩:=x
  dsimp only at *
  generalize xe.op=xo at *
  generalize xe.n=xnn at *
  generalize xe.s=xs at *
  generalize xe.l.length=xl at *
  go_wp2_with fail
  have hVsz:(wr.alloc (.cells #[.string xn,.int .i64 xk,.string xo,.int .i64 xnn,.string xs,.slice ax xl cx] 71)).heap.size=wr.heap.size+1:=by simp
  have hVb:=heap_alloc_new wr (.cells #[.string xn,.int .i64 xk,.string xo,.int .i64 xnn,.string xs,.slice ax xl cx] 71)
  have hbnlt:=HM.out.lt
  have hKV:K wr.heap.size=none:=HKR.out.isNone (Nat.le_refl _)
  obtain⟨K1,hK1⟩:∃ K1,K1=K.add wr.heap.size (.cells #[.string xn,.int .i64 xk,.string xo,.int .i64 xnn,.string xs,.slice ax xl cx] 71 (0,0)):=⟨_,rfl⟩
  have hle1:K.le K1:=by rw [hK1];exact Kn.le_add hKV
  have hS:K1.In (wr.alloc (.cells #[.string xn,.int .i64 xk,.string xo,.int .i64 xnn,.string xs,.slice ax xl cx] 71)).drew:=by rw [hK1];exact (HKR.out.alloc _).add hVb
  have hK1n:K1 bn=none:=by rw [hK1,Kn.add_other _ _ (by omega)];exact HKN.out
  have k0:K1.cell wr.heap.size 0=some (.string xn):=by rw [hK1];unfold Kn.cell;rw [Kn.add_self];rfl
  have k11:K1.cell B 11=some (.map (some bn)):=hle1.cell (by unfold Kn.cell;rw [HKB.out];rfl)
  have hMd:Zaw (Value.int .i64) (wr.alloc (.cells #[.string xn,.int .i64 xk,.string xo,.int .i64 xnn,.string xs,.slice ax xl cx] 71)).drew bn (Zc5 0 (Zcu 0 Env.none p.ins) (p.fl.take k)):=HM.out.alloc _
  have HBd:=Zhd (show Below w.heap.size w (wr.alloc (.cells #[.string xn,.int .i64 xk,.string xo,.int .i64 xnn,.string xs,.slice ax xl cx] 71)).drew from (HB.out.alloc HB.out.size _).drew)
  clear hVb hVsz hKV hK1 c0 c1 c2 c3 c4 c5
  refine Za2 (fun w'=>K1.In w') (fun _=>True) 99 (by kernel_rfl) ?_
  generalize (wr.alloc (.cells #[.string xn,.int .i64 xk,.string xo,.int .i64 xnn,.string xs,.slice ax xl cx] 71)).drew=wd at *
  refine Go.w3 0 ?_
  iterate 7 ((first | (refine tk3 (v:=?_) rfl hS Ztr ?hy ?_;(case hy=>intro w hSw;obtain⟨z0,z1⟩:=hSw.c2 k11 k0;go_simp<;>with_reducible rfl)) | refine sk3 rfl hS Ztr ?_ | refine no3 ?_);refine Zss ?_)
  refine Go.w3e ?_
  refine Zwo 7 rfl fun K_ hK=>?_
  obtain⟨ob,hrun,hM'⟩:=(hMd.run_set (P:=Tryz.prog) Tryz.underlying97 Tryz.underlying9 xn (k:Int))
  exact mCo3
 obtain rfl:k=p.fl.length:=by omega
 have HM0:=Zhd (show Zaw (Value.int .i64) wr bn (Zaj p) from by have:=HM.out;rw [List.take_length] at this;exact this)
 clear HM hk hkl
 have hks2:kindsM p=ks:=Zhj _ _ _ HKS.out
 have hbox:=HKR.out _ _ HKB.out
 have hBlt:=(Zlt hbox)
 obtain⟨H0,hH0⟩:∃ H0,H0=noKn B wr:=⟨_,rfl⟩
 have h0in:H0.In wr:=by rw [hH0];exact Zhu B wr
 have h0B:H0 B=none:=by rw [hH0];exact Zge B wr
 have h0K:∀ b o,b≠B→K b=some o→H0 b=some o:=fun b o hb e=>by rw [hH0];unfold noKn;rw [if_neg hb];exact HKR.out b o e
 have HPB:=Zhd (HP.out.le (H':=H0) fun b o e=>h0K b o (fun e2=>by have:=hH.lt e;omega) (HLE.out b o e))
 have hq:∀ i v,(#[.slice ai p.ins.length ci,.slice ao p.outs.length co,.slice al p.fl.length cl,.slice aa p.as.length ca,.slice ac p.cs.length cc]:Array Value)[i]?=some v→H0.cell w.heap.size i=some v:=fun i v hv=>by
  rw [hH0,Zgf (by omega)]
  exact HKR.out.cell ((HKQ.out i).trans hv)
 have Q1:=Zhd (hq 1 _ rfl)
 have Q2:=Zhd (hq 2 _ rfl)
 have Q3:=Zhd (hq 3 _ rfl)
 have Q4:=Zhd (hq 4 _ rfl)
 have hmk:=HKM.out wr HKR.out
 have HMP:=Zhd (show Maps3 H0 bn bk bl (Zaj p) ks L from by rw [hH0,← hks2];exact⟨map_known HM0.out (Ne.symm hBn),map_known hmk.1 (Ne.symm hBk),map_known hmk.2 (Ne.symm hBl)⟩)
 have HVO:=Zhd (show Zc2 H0 l (.slice av l.length cv) from ints_keep HKV.out fun b i n hc=>by
  have hb:b≠B:=fun e=>by
   rw [e] at hc
   unfold Kn.cell at hc
   rw [HKB.out] at hc
   have hm:=Array.mem_of_getElem? hc
   simp [natV] at hm
  unfold Kn.cell at hc ⊢
  split at hc
  ·rename_i hkb
   rw [h0K _ _ hb hkb]
   exact hc
  cases hc)
 obtain⟨cs,hcse⟩:∃ cs:Array Value,cs = #[.slice ai p.ins.length ci,.slice ao p.outs.length co,.slice al p.fl.length cl,.slice aa p.as.length ca,.slice ac p.cs.length cc,.slice av p.fl.length cv,.slice none 0 0,.slice none 0 0,.slice none 0 0,.slice none 0 0,.slice none 0 0,.map (some bn),.map (some bk),.map (some bl)]:=⟨_,rfl⟩
 have a0:cs[0]?=some (.slice ai p.ins.length ci):=by rw [hcse];rfl
 have a5:cs[5]?=some (.slice av p.fl.length cv):=by rw [hcse];rfl
 have a6:cs[6]?=some (.slice none 0 0):=by rw [hcse];rfl
 have a7:cs[7]?=some (.slice none 0 0):=by rw [hcse];rfl
 have a8:cs[8]?=some (.slice none 0 0):=by rw [hcse];rfl
 have a9:cs[9]?=some (.slice none 0 0):=by rw [hcse];rfl
 have a10:cs[10]?=some (.slice none 0 0):=by rw [hcse];rfl
 have a11:cs[11]?=some (.map (some bn)):=by rw [hcse];rfl
 have a12:cs[12]?=some (.map (some bk)):=by rw [hcse];rfl
 have a13:cs[13]?=some (.map (some bl)):=by rw [hcse];rfl
 have asz:cs.size=14:=by rw [hcse];rfl
 rw [← hcse] at hbox
 obtain⟨E,hEe⟩:∃ E,E=p.fl.map (·.e):=⟨_,rfl⟩
 have hEl:E.length=p.fl.length:=by rw [hEe,List.length_map]
 have hmt:∀ e∈p.terms,Zad ks e=true:=fun e he=>by
  obtain⟨i,hi,rfl⟩:=List.mem_iff_getElem.1 he
  exact HFM.out i hi
 have hmp:∀ e∈p.terms,e.parts≤1000000000:=fun e he=>by have:=partsL_mem he;omega
 have hmn:Zal p.terms≤1000000000:=by have:=Zj1 p.terms;omega
 have htt:p.terms=E++p.as++p.cs:=by rw [hEe];rfl
 have hmn2:Zal E+Zal p.as+Zal p.cs≤1000000000:=by rw [htt,Zch,Zch] at hmn;exact hmn
 have HTT:=Zhd htt
 have HMT:=Zhd hmt
 have HMPT:=Zhd hmp
 have HEL:=Zhd hEl
 have HEE:=Zhd hEe
 have hRl:(⟨ks,Zaa p,getI (Zaj p),nb,ni⟩:REnv).lt=getI L:=HL.out.1.symm
 obtain⟨R,hRe⟩:∃ R:REnv,R=⟨ks,Zaa p,getI (Zaj p),nb,ni⟩:=⟨_,rfl⟩
 have hRk:R.ks=ks:=by rw [hRe]
 have hRn:R.nm=getI (Zaj p):=by rw [hRe]
 have hRl:R.lt=getI L:=by rw [hRe];exact HL.out.1.symm
 rw [← hRk] at HMP HMT
 have HRE:=Zhd hRe
 have HRN:=Zhd hRn
 have HRL:=Zhd hRl
 have HRK:=Zhd hRk
 have HC:=Zhd (CoS.init (NT:=163) (PT:=159) (CT:=155) (R:=R) (j:=6) (l:=E) h0in HB.out h0B (show w.heap.size≤B by omega) hbox a10 a6)
 have A0:=Zhd a0
 have A5:=Zhd a5
 have A7:=Zhd a7
 have A8:=Zhd a8
 have A9:=Zhd a9
 have A10:=Zhd a10
 have A11:=Zhd a11
 have A12:=Zhd a12
 have A13:=Zhd a13
 have ASZ:=Zhd asz
 generalize hbs:wr.heap.size=base at HC
 have g2:wr.cell? ⟨w.heap.size,2,none⟩=some (.slice al p.fl.length cl):=h0in.cell Q2.out
 clear hq hmk HKM HM0 HKQ HKV HPK HKB HKR HLE HMN HB3 HKN HKI h0K hH0 h0in h0B hbox a0 a5 a6 a7 a8 a9 a10 a11 a12 a13 asz hcse hEe hEl hmt hmp hmn htt hRe hRk hRn hRl hks2 hbs HFM HB
 obtain⟨M6,hM6⟩:∃ M:List (Ex×Nat),M=[]:=⟨_,rfl⟩
 have hM6l:M6.length=0:=by rw [hM6];rfl
 rw [← hM6] at HC
 have HM6:=Zhd hM6
 have HMC:=Zhd (show M6.length+Zal E≤1000000000 from by omega)
 clear hM6 hM6l
 go_wp2_with fail
 clear g2
 have HNB:=Zhd (show p.fl.length=E.length from HEL.out.symm)
 go_loopw [75] (fun i wr=>∃ (k:Nat) (pu:Value) (qs:List Nat) (K:Kn) (u:Value) (ps:List Nat),i = .int .i64 k∧k≤p.fl.length∧CoS 163 159 155 R H0 w wr B base cs 6 M6 E k k pu qs K u ps) (fun i _=>p.fl.length - (intOf i).toNat)
 case atStart=>exact⟨0,_,_,_,_,_,rfl,Nat.zero_le _,HC.out⟩
 clear HC
 obtain⟨k,pu,qs,K,u,ps,rfl,hk,hS⟩:=hrel
 have HS:=Zhd hS
 clear hS
 by_cases hkl:k<p.fl.length
 ·obtain⟨b,off,rfl,_,hfc⟩:=SlV.at HPB.out.fl hkl
  obtain⟨uu,c0,c1,c2,c3,c4,c5,hu⟩:=hfc.cells
  obtain⟨ax,cx,rfl⟩:=hu.len
  have hkE:k<E.length:=by rw [HEL.out];exact hkl
  have hxe:E[k]=p.fl[k].e:=by simp [HEE.out]
  generalize p.fl[k]=f0 at *
  obtain⟨xn,xk,x⟩:=f0
  dsimp only at *
  have hx:ExV K x (.agg #[.string x.op,.int .i64 x.n,.string x.s,.slice ax x.l.length cx]):=ExV.le HS.out.le ⟨_,rfl,hu⟩
  have hmem:x∈p.terms:=by rw [HTT.out];exact List.mem_append_left _ (List.mem_append_left _ (by rw [← hxe];exact List.getElem_mem hkE))
  have c0:=HS.out.isin.cell (HS.out.le.cell c0)
  have c1:=HS.out.isin.cell (HS.out.le.cell c1)
  have c2:=HS.out.isin.cell (HS.out.le.cell c2)
  have c3:=HS.out.isin.cell (HS.out.le.cell c3)
  have c4:=HS.out.isin.cell (HS.out.le.cell c4)
  have c5:=HS.out.isin.cell (HS.out.le.cell c5)
  simp only [Nat.add_zero] at c0
  clear hu hfc
  have hkc:(M6++Zah M6.length (E.take k)).length+memN x≤1000000000:=by
   rw [List.length_append,Zbh]
   have h1:=Zfa E k hkE
   rw [hxe] at h1
   have h2:=Zc8 E (k+1)
   have h3:=HMC.out
   omega
  have hfx:=HMT.out x hmem
  have hpx:=HMPT.out x hmem
  obtain⟨i0,hi0,hz0,hz1,hz2⟩:=info_parts Tryz.infoNdP
  go_wp2_with fail
  have hSA:=HS.out.alloc (.cells #[.string xn,.int .i64 xk,.string x.op,.int .i64 x.n,.string x.s,.slice ax x.l.length cx] 71)
  have hXb:=heap_alloc_new wr (.cells #[.string xn,.int .i64 xk,.string x.op,.int .i64 x.n,.string x.s,.slice ax x.l.length cx] 71)
  generalize hXe:wr.heap.size=X at *
  generalize wr.alloc (.cells #[.string xn,.int .i64 xk,.string x.op,.int .i64 x.n,.string x.s,.slice ax x.l.length cx] 71)=wA at *
  have y0:wA.cell? ⟨X,0,none⟩=some (.string xn):=by simp [World.cell?,hXb]
  have y1:wA.cell? ⟨X,1,none⟩=some (.int .i64 xk):=by simp [World.cell?,hXb]
  have y2:wA.cell? ⟨X,2,none⟩=some (.string x.op):=by simp [World.cell?,hXb]
  have y3:wA.cell? ⟨X,3,none⟩=some (.int .i64 x.n):=by simp [World.cell?,hXb]
  have y4:wA.cell? ⟨X,4,none⟩=some (.string x.s):=by simp [World.cell?,hXb]
  have y5:wA.cell? ⟨X,5,none⟩=some (.slice ax x.l.length cx):=by simp [World.cell?,hXb]
  have hSD:=hSA.next (Below.refl wA.heap.size wA).drew
  have a11:=A11.out
  have a12:=A12.out
  have a13:=A13.out
  have asz:=ASZ.out
  have hj6:6<cs.size:=by rw [asz];decide
  have q4:wA.drew.cell? ⟨B,6,none⟩=some pu:=hSD.cell hj6 (by decide)
  have hlow:=hSD.low
  have CT:=Zhd (fun h=>term_any R (Zaj p) L HRN.out HRL.out HL.out.2 B base bn bk bl (cs.setIfInBounds 6 pu) (by simp [asz]) (by simp [a11]) (by simp [a12]) (by simp [a13]) x hfx hpx K _ hx (HMP.out.le HS.out.le) wA.drew u (M6++Zah M6.length (E.take k)) ps hSD.isin hSD.noB hSD.cd hSD.mem hSD.noM hlow h)
  clear hSA c0 c1 c2 c3 c4 c5 a11 a12 a13 asz hx
  exact mCo2
 obtain rfl:k=p.fl.length:=by omega
 have hS:=HS.out
 rw [HNB.out] at hS
 obtain⟨K7,hle2,hnd2,hC2⟩:=hS.fin (j':=7) (l':=p.as) A7.out (by decide) (by decide)
 have hle3:=Kn.le_trans hS.le hle2
 obtain⟨a6,c6,rfl,_⟩:=Zau hS.row
 obtain⟨cs2,hcs2⟩:∃ c,c=cs.setIfInBounds 6 (.slice a6 E.length c6):=⟨_,rfl⟩
 have asz:=ASZ.out
 have B6:=Zhd (show cs2[6]?=some (.slice a6 E.length c6) from by rw [hcs2];simp [asz])
 have N6:=Zhd (show NdsV 163 R K7 (Zbb M6.length E) (.slice a6 E.length c6) from hnd2)
 have BSZ:=Zhd (show cs2.size=14 from by rw [hcs2];simpa using asz)
 have B0:=Zhd (show cs2[0]?=some (.slice ai p.ins.length ci) from by rw [hcs2];have:=A0.out;simpa using this)
 have B5:=Zhd (show cs2[5]?=some (.slice av p.fl.length cv) from by rw [hcs2];have:=A5.out;simpa using this)
 have B7:=Zhd (show cs2[7]?=some (.slice none 0 0) from by rw [hcs2];have:=A7.out;simpa using this)
 have B8:=Zhd (show cs2[8]?=some (.slice none 0 0) from by rw [hcs2];have:=A8.out;simpa using this)
 have B9:=Zhd (show cs2[9]?=some (.slice none 0 0) from by rw [hcs2];have:=A9.out;simpa using this)
 have B10:=Zhd (show cs2[10]?=some (.slice none 0 0) from by rw [hcs2];have:=A10.out;simpa using this)
 have B11:=Zhd (show cs2[11]?=some (.map (some bn)) from by rw [hcs2];have:=A11.out;simpa using this)
 have B12:=Zhd (show cs2[12]?=some (.map (some bk)) from by rw [hcs2];have:=A12.out;simpa using this)
 have B13:=Zhd (show cs2[13]?=some (.map (some bl)) from by rw [hcs2];have:=A13.out;simpa using this)
 obtain⟨M7,hM2⟩:∃ M,M=M6++Zah M6.length E:=⟨_,rfl⟩
 have hM2l:M7.length=M6.length+Zal E:=by rw [hM2,List.length_append,Zbh]
 rw [← hcs2,← hM2] at hC2
 have HC:=Zhd hC2.rebase
 have HM7:=Zhd (And.intro hM2 hM2l)
 have HPB:=Zhd (HPB.out.le hle3)
 have HMP:=Zhd (HMP.out.le hle3)
 have HVO:=Zhd (Zc2.le hle3 HVO.out)
 have Q1:=Zhd (hle3.cell Q1.out)
 have Q3:=Zhd (hle3.cell Q3.out)
 have Q4:=Zhd (hle3.cell Q4.out)
 have g2:wr.cell? ⟨w.heap.size,3,none⟩=some (.slice aa p.as.length ca):=hC2.isin.cell Q3.out
 clear HS hS hle2 hnd2 hC2 hle3 hcs2 hM2 hM2l hk hkl HMC HNB asz
 clear ASZ A0 A5 A7 A8 A9 A10 A11 A12 A13
 have A0:=B0
 have A5:=B5
 have A7:=B7
 have A8:=B8
 have A9:=B9
 have A10:=B10
 have A11:=B11
 have A12:=B12
 have A13:=B13
 have A6:=B6
 have ASZ:=BSZ
 clear BSZ B0 B5 B7 B8 B9 B10 B11 B12 B13 B6
 obtain⟨cs,hcse⟩:∃ c,c=cs2:=⟨_,rfl⟩
 rw [← hcse] at A0 A5 A7 A8 A9 A10 A11 A12 A13 A6 ASZ HC
 clear hcse
 have hmc:M7.length+Zal p.as≤1000000000:=by rw [HM7.out.2,HM6.out];simp;omega
 have HMC:=Zhd hmc
 clear hmc
 go_wp2_with fail
 clear g2
 have HNB:=Zhd (show p.as.length=p.as.length from rfl)
 go_loopw [96] (fun i wr=>∃ (k:Nat) (pu:Value) (qs:List Nat) (K:Kn) (u:Value) (ps:List Nat),i = .int .i64 k∧k≤p.as.length∧CoS 163 159 155 R K7 w wr B base cs 7 M7 p.as k k pu qs K u ps) (fun i _=>p.as.length - (intOf i).toNat)
 case atStart=>exact⟨0,_,_,_,_,_,rfl,Nat.zero_le _,HC.out⟩
 clear HC
 obtain⟨k,pu,qs,K,u,ps,rfl,hk,hS⟩:=hrel
 have HS:=Zhd hS
 clear hS
 by_cases hkl:k<p.as.length
 ·obtain⟨b,off,ax,cx,rfl,c0,c1,c2,c3,hx⟩:=HPB.out.asr.at hkl
  have hkE:k<p.as.length:=hkl
  obtain⟨x,hxe⟩:∃ x,p.as[k]=x:=⟨_,rfl⟩
  rw [hxe] at c0 c1 c2 c3 hx
  have hx:=hx.le HS.out.le
  have hmem:x∈p.terms:=by rw [HTT.out];exact List.mem_append_left _ (List.mem_append_right _ (by rw [← hxe];exact List.getElem_mem hkE))
  have c0:=HS.out.isin.cell (HS.out.le.cell c0)
  have c1:=HS.out.isin.cell (HS.out.le.cell c1)
  have c2:=HS.out.isin.cell (HS.out.le.cell c2)
  have c3:=HS.out.isin.cell (HS.out.le.cell c3)
  have hkc:(M7++Zah M7.length (p.as.take k)).length+memN x≤1000000000:=by
   rw [List.length_append,Zbh]
   have h1:=Zfa p.as k hkE
   rw [hxe] at h1
   have h2:=Zc8 p.as (k+1)
   have h3:=HMC.out
   omega
  have hfx:=HMT.out x hmem
  have hpx:=HMPT.out x hmem
  obtain⟨i0,hi0,hz0,hz1,hz2⟩:=info_parts Tryz.infoNdP
  go_wp2_with fail
  have hSA:=HS.out.alloc (.cells #[.string x.op,.int .i64 x.n,.string x.s,.slice ax x.l.length cx] 69)
  have hXb:=heap_alloc_new wr (.cells #[.string x.op,.int .i64 x.n,.string x.s,.slice ax x.l.length cx] 69)
  generalize hXe:wr.heap.size=X at *
  generalize wr.alloc (.cells #[.string x.op,.int .i64 x.n,.string x.s,.slice ax x.l.length cx] 69)=wA at *
  have y0:wA.cell? ⟨X,0,none⟩=some (.string x.op):=by simp [World.cell?,hXb]
  have y1:wA.cell? ⟨X,1,none⟩=some (.int .i64 x.n):=by simp [World.cell?,hXb]
  have y2:wA.cell? ⟨X,2,none⟩=some (.string x.s):=by simp [World.cell?,hXb]
  have y3:wA.cell? ⟨X,3,none⟩=some (.slice ax x.l.length cx):=by simp [World.cell?,hXb]
  have hSD:=hSA.next (Below.refl wA.heap.size wA).drew
  have a11:=A11.out
  have a12:=A12.out
  have a13:=A13.out
  have asz:=ASZ.out
  have hj6:7<cs.size:=by rw [asz];decide
  have q4:wA.drew.cell? ⟨B,7,none⟩=some pu:=hSD.cell hj6 (by decide)
  have hlow:=hSD.low
  have CT:=Zhd (fun h=>term_any R (Zaj p) L HRN.out HRL.out HL.out.2 B base bn bk bl (cs.setIfInBounds 7 pu) (by simp [asz]) (by simp [a11]) (by simp [a12]) (by simp [a13]) x hfx hpx K _ hx (HMP.out.le HS.out.le) wA.drew u (M7++Zah M7.length (p.as.take k)) ps hSD.isin hSD.noB hSD.cd hSD.mem hSD.noM hlow h)
  clear hSA c0 c1 c2 c3  a11 a12 a13 asz hx
  exact mCo2
 obtain rfl:k=p.as.length:=by omega
 have hS:=HS.out
 rw [HNB.out] at hS
 obtain⟨K8,hle2,hnd2,hC2⟩:=hS.fin (j':=8) (l':=p.cs) A8.out (by decide) (by decide)
 have hle3:=Kn.le_trans hS.le hle2
 obtain⟨a7,c7,rfl,_⟩:=Zau hS.row
 obtain⟨cs2,hcs2⟩:∃ c,c=cs.setIfInBounds 7 (.slice a7 p.as.length c7):=⟨_,rfl⟩
 have asz:=ASZ.out
 have B7:=Zhd (show cs2[7]?=some (.slice a7 p.as.length c7) from by rw [hcs2];simp [asz])
 have N7:=Zhd (show NdsV 163 R K8 (Zbb M7.length p.as) (.slice a7 p.as.length c7) from hnd2)
 have BSZ:=Zhd (show cs2.size=14 from by rw [hcs2];simpa using asz)
 have B0:=Zhd (show cs2[0]?=some (.slice ai p.ins.length ci) from by rw [hcs2];have:=A0.out;simpa using this)
 have B5:=Zhd (show cs2[5]?=some (.slice av p.fl.length cv) from by rw [hcs2];have:=A5.out;simpa using this)
 have B8:=Zhd (show cs2[8]?=some (.slice none 0 0) from by rw [hcs2];have:=A8.out;simpa using this)
 have B9:=Zhd (show cs2[9]?=some (.slice none 0 0) from by rw [hcs2];have:=A9.out;simpa using this)
 have B10:=Zhd (show cs2[10]?=some (.slice none 0 0) from by rw [hcs2];have:=A10.out;simpa using this)
 have B11:=Zhd (show cs2[11]?=some (.map (some bn)) from by rw [hcs2];have:=A11.out;simpa using this)
 have B12:=Zhd (show cs2[12]?=some (.map (some bk)) from by rw [hcs2];have:=A12.out;simpa using this)
 have B13:=Zhd (show cs2[13]?=some (.map (some bl)) from by rw [hcs2];have:=A13.out;simpa using this)
 have B6:=Zhd (show cs2[6]?=some (.slice a6 E.length c6) from by rw [hcs2];have:=A6.out;simpa using this)
 have N6:=Zhd (N6.out.le hle3)
 obtain⟨M8,hM2⟩:∃ M,M=M7++Zah M7.length p.as:=⟨_,rfl⟩
 have hM2l:M8.length=M7.length+Zal p.as:=by rw [hM2,List.length_append,Zbh]
 rw [← hcs2,← hM2] at hC2
 have HC:=Zhd hC2.rebase
 have HM8:=Zhd (And.intro hM2 hM2l)
 have HPB:=Zhd (HPB.out.le hle3)
 have HMP:=Zhd (HMP.out.le hle3)
 have HVO:=Zhd (Zc2.le hle3 HVO.out)
 have Q1:=Zhd (hle3.cell Q1.out)
 have Q3:=Zhd (hle3.cell Q3.out)
 have Q4:=Zhd (hle3.cell Q4.out)
 have g2:wr.cell? ⟨w.heap.size,4,none⟩=some (.slice ac p.cs.length cc):=hC2.isin.cell Q4.out
 clear HS hS hle2 hnd2 hC2 hle3 hcs2 hM2 hM2l hk hkl HMC HNB asz
 clear ASZ A0 A5 A7 A8 A9 A10 A11 A12 A13 A6
 have A0:=B0
 have A5:=B5
 have A7:=B7
 have A8:=B8
 have A9:=B9
 have A10:=B10
 have A11:=B11
 have A12:=B12
 have A13:=B13
 have A6:=B6
 have ASZ:=BSZ
 clear BSZ B0 B5 B7 B8 B9 B10 B11 B12 B13 B6
 obtain⟨cs,hcse⟩:∃ c,c=cs2:=⟨_,rfl⟩
 rw [← hcse] at A0 A5 A7 A8 A9 A10 A11 A12 A13 A6 ASZ HC
 clear hcse
 have hmc:M8.length+Zal p.cs≤1000000000:=by rw [HM8.out.2,HM7.out.2,HM6.out];simp;omega
 have HMC:=Zhd hmc
 clear hmc
 go_wp2_with fail
 clear g2
 have HNB:=Zhd (show p.cs.length=p.cs.length from rfl)
 go_loopw [116] (fun i wr=>∃ (k:Nat) (pu:Value) (qs:List Nat) (K:Kn) (u:Value) (ps:List Nat),i = .int .i64 k∧k≤p.cs.length∧CoS 163 159 155 R K8 w wr B base cs 8 M8 p.cs k k pu qs K u ps) (fun i _=>p.cs.length - (intOf i).toNat)
 case atStart=>exact⟨0,_,_,_,_,_,rfl,Nat.zero_le _,HC.out⟩
 clear HC
 obtain⟨k,pu,qs,K,u,ps,rfl,hk,hS⟩:=hrel
 have HS:=Zhd hS
 clear hS
 by_cases hkl:k<p.cs.length
 ·obtain⟨b,off,ax,cx,rfl,c0,c1,c2,c3,hx⟩:=HPB.out.chk.at hkl
  have hkE:k<p.cs.length:=hkl
  obtain⟨x,hxe⟩:∃ x,p.cs[k]=x:=⟨_,rfl⟩
  rw [hxe] at c0 c1 c2 c3 hx
  have hx:=hx.le HS.out.le
  have hmem:x∈p.terms:=by rw [HTT.out];exact List.mem_append_right _ (by rw [← hxe];exact List.getElem_mem hkE)
  have c0:=HS.out.isin.cell (HS.out.le.cell c0)
  have c1:=HS.out.isin.cell (HS.out.le.cell c1)
  have c2:=HS.out.isin.cell (HS.out.le.cell c2)
  have c3:=HS.out.isin.cell (HS.out.le.cell c3)
  have hkc:(M8++Zah M8.length (p.cs.take k)).length+memN x≤1000000000:=by
   rw [List.length_append,Zbh]
   have h1:=Zfa p.cs k hkE
   rw [hxe] at h1
   have h2:=Zc8 p.cs (k+1)
   have h3:=HMC.out
   omega
  have hfx:=HMT.out x hmem
  have hpx:=HMPT.out x hmem
  obtain⟨i0,hi0,hz0,hz1,hz2⟩:=info_parts Tryz.infoNdP
  go_wp2_with fail
  have hSA:=HS.out.alloc (.cells #[.string x.op,.int .i64 x.n,.string x.s,.slice ax x.l.length cx] 69)
  have hXb:=heap_alloc_new wr (.cells #[.string x.op,.int .i64 x.n,.string x.s,.slice ax x.l.length cx] 69)
  generalize hXe:wr.heap.size=X at *
  generalize wr.alloc (.cells #[.string x.op,.int .i64 x.n,.string x.s,.slice ax x.l.length cx] 69)=wA at *
  have y0:wA.cell? ⟨X,0,none⟩=some (.string x.op):=by simp [World.cell?,hXb]
  have y1:wA.cell? ⟨X,1,none⟩=some (.int .i64 x.n):=by simp [World.cell?,hXb]
  have y2:wA.cell? ⟨X,2,none⟩=some (.string x.s):=by simp [World.cell?,hXb]
  have y3:wA.cell? ⟨X,3,none⟩=some (.slice ax x.l.length cx):=by simp [World.cell?,hXb]
  have hSD:=hSA.next (Below.refl wA.heap.size wA).drew
  have a11:=A11.out
  have a12:=A12.out
  have a13:=A13.out
  have asz:=ASZ.out
  have hj6:8<cs.size:=by rw [asz];decide
  have q4:wA.drew.cell? ⟨B,8,none⟩=some pu:=hSD.cell hj6 (by decide)
  have hlow:=hSD.low
  have CT:=Zhd (fun h=>term_any R (Zaj p) L HRN.out HRL.out HL.out.2 B base bn bk bl (cs.setIfInBounds 8 pu) (by simp [asz]) (by simp [a11]) (by simp [a12]) (by simp [a13]) x hfx hpx K _ hx (HMP.out.le HS.out.le) wA.drew u (M8++Zah M8.length (p.cs.take k)) ps hSD.isin hSD.noB hSD.cd hSD.mem hSD.noM hlow h)
  clear hSA c0 c1 c2 c3  a11 a12 a13 asz hx
  exact mCo2
 obtain rfl:k=p.cs.length:=by omega
 have hS:=HS.out
 rw [HNB.out] at hS
 obtain⟨K9,hle2,hnd2,hC2⟩:=hS.fin (j':=9) (l':=[]) A9.out (by decide) (by decide)
 have hle3:=Kn.le_trans hS.le hle2
 obtain⟨a8,c8,rfl,_⟩:=Zau hS.row
 obtain⟨cs2,hcs2⟩:∃ c,c=cs.setIfInBounds 8 (.slice a8 p.cs.length c8):=⟨_,rfl⟩
 have asz:=ASZ.out
 have B8:=Zhd (show cs2[8]?=some (.slice a8 p.cs.length c8) from by rw [hcs2];simp [asz])
 have N8:=Zhd (show NdsV 163 R K9 (Zbb M8.length p.cs) (.slice a8 p.cs.length c8) from hnd2)
 have BSZ:=Zhd (show cs2.size=14 from by rw [hcs2];simpa using asz)
 have B0:=Zhd (show cs2[0]?=some (.slice ai p.ins.length ci) from by rw [hcs2];have:=A0.out;simpa using this)
 have B5:=Zhd (show cs2[5]?=some (.slice av p.fl.length cv) from by rw [hcs2];have:=A5.out;simpa using this)
 have B7:=Zhd (show cs2[7]?=some (.slice a7 p.as.length c7) from by rw [hcs2];have:=A7.out;simpa using this)
 have B9:=Zhd (show cs2[9]?=some (.slice none 0 0) from by rw [hcs2];have:=A9.out;simpa using this)
 have B10:=Zhd (show cs2[10]?=some (.slice none 0 0) from by rw [hcs2];have:=A10.out;simpa using this)
 have B11:=Zhd (show cs2[11]?=some (.map (some bn)) from by rw [hcs2];have:=A11.out;simpa using this)
 have B12:=Zhd (show cs2[12]?=some (.map (some bk)) from by rw [hcs2];have:=A12.out;simpa using this)
 have B13:=Zhd (show cs2[13]?=some (.map (some bl)) from by rw [hcs2];have:=A13.out;simpa using this)
 have B6:=Zhd (show cs2[6]?=some (.slice a6 E.length c6) from by rw [hcs2];have:=A6.out;simpa using this)
 have N6:=Zhd (N6.out.le hle3)
 have N7:=Zhd (N7.out.le hle3)
 obtain⟨M9,hM2⟩:∃ M,M=M8++Zah M8.length p.cs:=⟨_,rfl⟩
 have hM2l:M9.length=M8.length+Zal p.cs:=by rw [hM2,List.length_append,Zbh]
 rw [← hcs2,← hM2] at hC2
 have HC:=Zhd hC2.rebase
 have HM9:=Zhd (And.intro hM2 hM2l)
 have HPB:=Zhd (HPB.out.le hle3)
 have HMP:=Zhd (HMP.out.le hle3)
 have HVO:=Zhd (Zc2.le hle3 HVO.out)
 have Q1:=Zhd (hle3.cell Q1.out)
 have Q3:=Zhd (hle3.cell Q3.out)
 have Q4:=Zhd (hle3.cell Q4.out)
 have g2:wr.cell? ⟨w.heap.size,1,none⟩=some (.slice ao p.outs.length co):=hC2.isin.cell Q1.out
 clear HS hS hle2 hnd2 hC2 hle3 hcs2 hM2 hM2l hk hkl HMC HNB asz
 clear ASZ A0 A5 A7 A8 A9 A10 A11 A12 A13 A6
 have A0:=B0
 have A5:=B5
 have A7:=B7
 have A8:=B8
 have A9:=B9
 have A10:=B10
 have A11:=B11
 have A12:=B12
 have A13:=B13
 have A6:=B6
 have ASZ:=BSZ
 clear BSZ B0 B5 B7 B8 B9 B10 B11 B12 B13 B6
 obtain⟨cs,hcse⟩:∃ c,c=cs2:=⟨_,rfl⟩
 rw [← hcse] at A0 A5 A7 A8 A9 A10 A11 A12 A13 A6 ASZ HC
 clear hcse
 have hCl:=HC.out.low
 have hCb:=HC.out.bb
 have hOu:OuS 3 159 155 w wr B base (cs.setIfInBounds 10 u) (p.outs.map (getI (Zaj p))) 0 (.slice none 0 0) K9 u ps:=
  ⟨HC.out.isin,HC.out.below,by
   have hb:=HC.out.cd.box
   rw [set_self A9.out] at hb
   rw [set_self (by simpa using A9.out)]
   exact hb,HC.out.cd.row,World.ownsRow_nil _ _ _ _,HC.out.noB,fun g hg=>by simp [Value.ownBlock] at hg,HC.out.hB,hCb,hCl,by decide⟩
 have hmem:=HC.out.mem
 simp only [List.take_nil,Zah,List.append_nil] at hmem
 have HOU:=Zhd hOu
 have HMEM:=Zhd hmem
 have hol:(p.outs.map (getI (Zaj p))).length=p.outs.length:=List.length_map _
 have HOL:=Zhd hol
 clear hOu hmem HC hol hCl hCb
 go_wp2_with fail
 clear g2
 go_loopw [136] (fun i wr=>∃ (k:Nat) (pu:Value),i = .int .i64 k∧k≤p.outs.length∧OuS 3 159 155 w wr B base (cs.setIfInBounds 10 u) (p.outs.map (getI (Zaj p))) k pu K9 u ps) (fun i _=>p.outs.length - (intOf i).toNat)
 case atStart=>exact⟨0,_,rfl,Nat.zero_le _,HOU.out⟩
 clear HOU
 obtain⟨k,pu,rfl,hk,hS⟩:=hrel
 have HS:=Zhd hS
 clear hS
 by_cases hkl:k<p.outs.length
 ·obtain⟨b,off,rfl,_,c0⟩:=SlV.at HPB.out.outs hkl
  have c0:=HS.out.isin.cell c0
  simp only [Nat.mul_one,Nat.add_zero] at c0
  have hko:k<(p.outs.map (getI (Zaj p))).length:=by rw [HOL.out];exact hkl
  obtain⟨s0,hs0⟩:∃ s0,p.outs[k]=s0:=⟨_,rfl⟩
  rw [hs0] at c0
  have hx:(p.outs.map (getI (Zaj p)))[k]=((Zaj p) s0).getD 0:=by simp [hs0,getI]
  obtain⟨y,hy⟩:∃ y,y=((Zaj p) s0).getD 0:=⟨_,rfl⟩
  rw [← hy] at hx
  have HSD:=Zhd (HS.out.next (Below.refl wr.heap.size wr).drew)
  have hj9:9<(cs.setIfInBounds 10 u).size:=by rw [Array.size_setIfInBounds,ASZ.out];decide
  have q9:wr.drew.cell? ⟨B,9,none⟩=some pu:=HSD.out.cell hj9
  have q9b:∀ o,(wr.alloc o).drew.cell? ⟨B,9,none⟩=some pu:=fun o=>((HS.out.alloc o).next (Below.refl _ _).drew).cell hj9
  have q11:wr.drew.cell? ⟨B,11,none⟩=some (.map (some bn)):=by rw [HSD.out.other (by decide)];simpa using A11.out
  have hrun:=(HMP.out.1 wr.drew HSD.out.isin).run (P:=Tryz.prog) Tryz.underlying97 Tryz.underlying9 (d:=0) (by kernel_rfl) s0 false
  simp only [Bool.false_eq_true,if_false,← hy] at hrun
  have HKX:=Zhd hx
  obtain⟨i0,hi0,hz0,hz1,hz2⟩:=info_parts Tryz.infoInt
  clear hs0 hy hx
  go_wp2_with fail
  go_region_law (first | (refine step_append_lies _ (by rfl) _ _ _ (by rfl) base 3 i0 _ 1 8 Tryz.underlying152 hi0 hz0 hz1 hz2 rfl (by omega) pu k (((p.outs.map (getI (Zaj p))).take k).map fun x => .int .i64 x) (by rfl) (OuS.row (OuS.alloc HSD.out _)) ⟨_,0,none⟩ 1 1 [.int .i64 y] (by rfl) (by rfl) (by exact World.news_of_block (heap_alloc_new _ _)) (by simp [Value.oneCell']) (by omega) (by unfold maxLen;omega) (by omega) (OuS.low' (OuS.alloc HSD.out _)) _ rfl ?_;intro gg cap' w3 hown hgrow hat hltg;obtain⟨hf1,hf2,hf3⟩:=OuS.app (OuS.alloc HSD.out _) hj9 hko HKX.out hown hgrow hat))
  all_goals generalize World.setCell _ _ _=W at hf3 ⊢
  all_goals go_wp2_with fail
  all_goals go_roundw
  all_goals first | (simp [intOf];omega;done) | exact⟨k+1,_,by go_num,by omega,hf3⟩ | ((repeat apply Exists.intro);refine⟨?_,rfl⟩;exact⟨k+1,_,by go_num,by omega,hf3⟩)
 obtain rfl:k=p.outs.length:=by omega
 have hS:=HS.out
 obtain⟨a9,c9,rfl,_⟩:=Zau hS.row
 have HS:=Zhd hS
 clear hS
 go_wp2_with fail
 go_ret2
 have hS:=HS.out
 have asz:=ASZ.out
 have hle:K9.le (Zai wr):=all_of hS.isin
 unfold CmpPost
 rw [if_pos HC0.out]
 refine⟨hS.below,B,ks,l,HKS.out,HHO.out,rfl,⟨(cs.setIfInBounds 10 u).setIfInBounds 9 (.slice a9 p.outs.length c9),_,_,_,_,_,.slice a9 p.outs.length c9,u,hS.box,⟨by simpa using A0.out,HPB.out.ins.le hle VrC.mono⟩,⟨by simpa using A5.out,?_⟩,⟨by simpa using A6.out,?_⟩,⟨by simpa using A7.out,?_⟩,⟨by simpa using A8.out,?_⟩,⟨by simp [asz],?_⟩,⟨by simp [asz],?_⟩⟩,hS.hB,⟨(cs.setIfInBounds 10 u).setIfInBounds 9 (.slice a9 p.outs.length c9),_,.slice a9 p.outs.length c9,hS.box,by simpa using A5.out,?_,by simp [asz],?_⟩⟩
 ·have hvo:=HVO.out
  rw [holen] at hvo
  exact Zc2.le hle hvo
 all_goals try rw [← HRE.out]
 ·have h:=N6.out.le hle
  rw [HM6.out] at h
  have e:(cdOf p l).fs=Zbb ([]:List (Ex×Nat)).length E:=by rw [HEE.out];rfl
  rw [e]
  exact h
 ·have h:=N7.out.le hle
  rw [HM7.out.2,HM6.out] at h
  have e:(cdOf p l).av=Zbb (([]:List (Ex×Nat)).length+Zal E) p.as:=by rw [HEE.out];simp [cdOf]
  rw [e]
  exact h
 ·have h:=N8.out.le hle
  rw [HM8.out.2,HM7.out.2,HM6.out] at h
  have e:(cdOf p l).cv=Zbb (([]:List (Ex×Nat)).length+Zal E+Zal p.as) p.cs:=by rw [HEE.out];simp [cdOf]
  rw [e]
  exact h
 ·have h:wr.ownsRow base 3 1 (.slice a9 p.outs.length c9) (p.outs.map (getI (Zaj p))).length ((p.outs.map (getI (Zaj p))).map fun x => .int .i64 x):=by
   have h:=hS.row
   rw [← HOL.out,List.take_length,HOL.out] at h
   rw [HOL.out]
   exact h
  refine Zgt (l:=p.outs.map (getI (Zaj p))) h fun i hi f hf=>?_
  refine hf 0 (.int .i64 (p.outs.map (getI (Zaj p)))[i]) ?_
  rw [Nat.mul_one,Nat.add_zero,List.getElem?_map,List.getElem?_eq_getElem hi]
  rfl
 ·have h:=hS.ms
  have hm:=HMEM.out
  have e:Zah 0 p.terms=M9:=by
   rw [HM9.out.1,HM8.out.2,HM8.out.1,HM7.out.2,HM7.out.1,HM6.out,HTT.out,Zd5,Zd5,Zch]
   simp
  rw [e]
  rw [hm.len] at h
  refine Zgt (l:=M9) h fun i hi f hf=>?_
  have hi2:i<ps.length:=by rw [hm.len];exact hi
  exact⟨ps[i],hf 0 _ (by simp [hi2]),NdAt.le hle _ _ _ (hm.nd i hi hi2)⟩
 ·have hvo:=Zc2.le hle HVO.out
  rw [holen] at hvo
  have hnb:=HNB.out
  exact ints_new hvo hnb
 have h:wr.ownsRow base 3 1 (.slice a9 p.outs.length c9) (p.outs.map (getI (Zaj p))).length ((p.outs.map (getI (Zaj p))).map fun x => .int .i64 x):=by
  have h:=hS.row
  rw [← HOL.out,List.take_length,HOL.out] at h
  rw [HOL.out]
  exact h
 refine slv_new (n:=w.heap.size) (l:=p.outs.map (getI (Zaj p))) h (by have:=hS.hB;have:=hS.bb;omega) fun i hi f hf=>?_
 refine hf 0 (.int .i64 (p.outs.map (getI (Zaj p)))[i]) ?_
 rw [Nat.mul_one,Nat.add_zero,List.getElem?_map,List.getElem?_eq_getElem hi]
 rfl
end Go.Proofs.YtofameafdnkijaaGreatDoor
