/- lustrumref2.World: each term, each flow at each instant has what it has: by instants, by the flows' order, by terms. -/
import Derived.Test.YtgoccoldkfpbgaaGreatDoorWp
import Derived.Test.YtgoccoldkfpbgaaGreatDoorRg
import Derived.Test.YtgoccoldkfpbgaaGreatDoorTkM
set_option linter.all false
namespace Go.Proofs.YtgoccoldkfpbgaaGreatDoor
set_option maxRecDepth 100000
set_option maxHeartbeats 16000000
open Go.RowKit Mx
theorem rk_needs {x:WdW} (hp:WdP x) {k:Nat} (hk:k<x.p.fl.length):∀ q∈needs x.p.atOf x.p.fl[k].e,x.rk q<x.rk k:=fun q hq=>by
 have hin:=Zf3 hp.ho k hk
 have htop:=Zfj hp.ho
 have hi:x.ord.idxOf k<x.ord.length:=List.idxOf_lt_length_of_mem hin
 have hg:x.ord[x.ord.idxOf k]=k:=List.getElem_idxOf hi
 have h2:=(htop _ hi).2 q (by
  rw [hg]
  have:x.p.graph.getD k []=needs x.p.atOf x.p.fl[k].e:=by simp [Pr.graph,List.getD_eq_getElem?_getD,hk]
  rw [this];exact hq)
 have h3:(x.ord.take (x.ord.idxOf k)).idxOf q<(x.ord.take (x.ord.idxOf k)).length:=List.idxOf_lt_length_of_mem h2
 have h4:x.ord.idxOf q=(x.ord.take (x.ord.idxOf k)).idxOf q:=by
  conv=>lhs;rw [← List.take_append_drop (x.ord.idxOf k) x.ord]
  rw [List.idxOf_append,if_pos h2]
 unfold WdW.rk
 rw [h4]
 simp only [List.length_take] at h3
 omega
theorem rk_lt {x:WdW} (hp:WdP x) {k:Nat} (hk:k<x.p.fl.length):x.rk k<x.p.fl.length:=by
 have:=List.idxOf_lt_length_of_mem (Zf3 hp.ho k hk)
 have h2:=(Zbk hp.ho).2.1
 unfold WdW.rk
 omega
theorem Zhx {x:WdW} (hp:WdP x) {i:Nat} (hi:i<x.ins.length) (hbef:0<i→∀ e,InP x e→Zj8 x e (i - 1) (x.p.fl.length+1)) (r:Nat) (hfl:∀ k,k<x.p.fl.length→x.rk k<r→FlowC x k i):
  ∀ e,InP x e→(∀ k∈needs x.p.atOf e,x.rk k<r)→Zj8 x e i r:=by
 refine Ex.ind fun o n s l ih he hn=>?_
 refine wterm_any hp he hi ?_
 obtain⟨hsub,hfby,harr,hpre,_⟩:=Zax he.form
 by_cases e1:o=oInt∨o=Zc2∨o=Zb9
 ·exact wplain_lit hp hi e1
 by_cases e2:o=Zb2
 ·refine wplain_name hp hi e2 he fun k hk=>?_
  obtain⟨hkl,hkn⟩:=fIdx_lt hk
  have hks:(x.ks s).isSome=true:=by
   have h:=he.form
   simp only [Zaf,Bool.and_eq_true,Bool.or_eq_true,decide_eq_true_eq] at h
   exact h.1.2.resolve_left (fun h=>h e2)
  have hnm:=Zhh (Zbk hp.ho).1 k hkl
  rw [hkn] at hnm
  have hat:=nm_at (Zbk hp.ho).1 hp.hks s hks (by omega)
  have:=hn k (by
   simp only [needs]
   rw [if_neg (by rw [e2];decide),if_neg (by rw [e2];decide),if_pos e2,hat,hnm]
   simp)
  exact⟨hfl k hkl this,this⟩
 by_cases e3:o=oPre
 ·exact wplain_pre hp hi e3 he fun h0 j hj=>hbef h0 _ (he.part j hj)
 by_cases e4:o=oFby
 ·refine wplain_fby hp hi e4 he (fun h=>ih _ (List.getElem_mem h) (he.part 0 h) fun k hk=>hn k ?_) fun h0 h=>hbef h0 _ (he.part 1 h)
  simp only [needs]
  rw [if_neg e3,if_pos e4]
  cases l with
  | nil=>simp at h
  | cons y l=>simpa [Zf7] using hk
 have hall:∀ j (h:j<l.length),Zj8 x l[j] i r:=fun j h=>ih _ (List.getElem_mem h) (he.part j h) fun k hk=>hn k (by
  simp only [needs]
  rw [if_neg e3,if_neg e4]
  exact List.mem_append_right _ (Zgt (List.getElem_mem h) hk))
 by_cases e5:o=Zbm
 ·exact wplain_arrow hp hi e5 he hall
 exact wplain_op hp hi ⟨fun h=>e1 (.inl h),fun h=>e1 (.inr (.inl h)),fun h=>e1 (.inr (.inr h)),e2,e3,e5,e4⟩ he hall
theorem world_all {x:WdW} (hp:WdP x):∀ i,i<x.ins.length→(∀ e,InP x e→Zj8 x e i (x.p.fl.length+1))∧∀ k,k<x.p.fl.length→FlowC x k i:=by
 intro i
 induction i with
 | zero=>
  intro hi
  have hfl:∀ ρ k,k<x.p.fl.length→x.rk k<ρ→FlowC x k 0:=by
   intro ρ
   induction ρ with
   | zero=>intro k _ h;omega
   | succ ρ ih=>
    intro k hk hr
    exact wflow_any hp hk hi (Zhx hp hi (fun h=>by omega) (x.rk k) (fun q hq hqr=>ih q hq (by omega)) _ (hp.term _ (by obtain⟨h,e⟩:=fl_term x.p k hk;rw [← e];exact List.getElem_mem h)) (rk_needs hp hk))
  have hF:∀ k,k<x.p.fl.length→FlowC x k 0:=fun k hk=>hfl (x.rk k+1) k hk (by omega)
  refine⟨fun e he=>Zhx hp hi (fun h=>by omega) _ (fun k hk _=>hF k hk) e he fun k _=>?_,hF⟩
  have h2:=(Zbk hp.ho).2.1
  have:=List.idxOf_le_length (a:=k) (l:=x.ord)
  unfold WdW.rk
  omega
 | succ i IH=>
  intro hi
  have hbef:0<i+1→∀ e,InP x e→Zj8 x e (i+1 - 1) (x.p.fl.length+1):=fun _=>(IH (by omega)).1
  have hfl:∀ ρ k,k<x.p.fl.length→x.rk k<ρ→FlowC x k (i+1):=by
   intro ρ
   induction ρ with
   | zero=>intro k _ h;omega
   | succ ρ ih=>
    intro k hk hr
    exact wflow_any hp hk hi (Zhx hp hi hbef (x.rk k) (fun q hq hqr=>ih q hq (by omega)) _ (hp.term _ (by obtain⟨h,e⟩:=fl_term x.p k hk;rw [← e];exact List.getElem_mem h)) (rk_needs hp hk))
  have hF:∀ k,k<x.p.fl.length→FlowC x k (i+1):=fun k hk=>hfl (x.rk k+1) k hk (by omega)
  refine⟨fun e he=>Zhx hp hi hbef _ (fun k hk _=>hF k hk) e he fun k _=>?_,hF⟩
  have h2:=(Zbk hp.ho).2.1
  have:=List.idxOf_le_length (a:=k) (l:=x.ord)
  unfold WdW.rk
  omega
def AllC (x:WdW) (e:Ex) (i:Nat):Prop:=∀ (K:Kn) (v:Value),WdOk x K→ExV K e v→∀ (w:World) (T:List Bool) (u:Value) (kl:List KE),WdS x K w T u kl→
 Calls Tryz.prog 51 #[ptrV x.B,v,.int .i64 i] w fun ret w'=>ret = .returned (.tuple #[])∧∃ T' u' kl',WdN x K i (x.p.fl.length+1) w T kl w' T' u' kl'∧(allT x.R x.inp x.fv e i=true→T'.getD i false=true)
theorem allTs_take (x:WdW) (l:List Ex) (m:Nat) (h:m<l.length) (i:Nat):Zfd x.R x.inp x.fv (l.take (m+1)) i=(Zfd x.R x.inp x.fv (l.take m) i || allT x.R x.inp x.fv l[m] i):=by
 rw [Zfc,Zfc,List.take_succ_eq_append_getElem h,List.any_append]
 simp
theorem wall_any {x:WdW} (hp:WdP x) {i:Nat} (hi:i<x.ins.length):∀ e,InP x e→AllC x e i:=by
 refine Ex.ind fun o n s l ih he K v hok hv w T u kl hs=>?_
 have hT:=(world_all hp i hi).1 _ he
 obtain⟨ue,rfl,hue⟩:=hv
 simp only [Ex.op,Ex.n,Ex.s,Ex.l] at hue ⊢
 obtain⟨a,c,rfl⟩:=hue.len
 have hRB:x.B<w.heap.size∧x.D<w.heap.size:=by have:=hp.bd;have:=hs.low;omega
 have hKE:K w.heap.size=none:=hs.isin.isNone (Nat.le_refl _)
 obtain⟨K2,hK2⟩:∃ K2,K2=K.add w.heap.size (.cells #[.string o,.int .i64 n,.string s,.slice a l.length c] 79 (0,0)):=⟨_,rfl⟩
 have hle:K.le K2:=hK2▸Kn.le_add hKE
 have hok2:WdOk x K2:=hok.le hle (hK2▸hok.kn.add hRB.1 hRB.2 (by decide))
 have hb0:=(Below.refl w.heap.size w).alloc (Nat.le_refl _) (.cells #[.string o,.int .i64 n,.string s,.slice a l.length c] 79)
 have hN:WdN x K2 i (x.p.fl.length+1) w T kl (w.alloc (.cells #[.string o,.int .i64 n,.string s,.slice a l.length c] 79)) T u kl:=((hs.refl i _).below hb0).kn (hK2▸(hs.isin.below hb0).add (heap_alloc_new _ _))
 have hcE:∀ j,K2.cell w.heap.size j=(#[.string o,.int .i64 n,.string s,.slice a l.length c]:Array Value)[j]?:=fun j=>by unfold Kn.cell;rw [hK2,Kn.add_self]
 have j0:K2.cell w.heap.size 0=some (.string o):=hcE 0
 have j1:K2.cell w.heap.size 1=some (.int .i64 n):=hcE 1
 have j2:K2.cell w.heap.size 2=some (.string s):=hcE 2
 have j3:K2.cell w.heap.size 3=some (.slice a l.length c):=hcE 3
 have hU:=hue.le hle
 have HTT:=Zhd (fun w T u kl (h:WdS x K2 w T u kl)=>hT K2 _ hok2 ⟨_,rfl,hU⟩ w T u kl h)
 have q0:=hN.st.isin.cell j0
 have q1:=hN.st.isin.cell j1
 have q2:=hN.st.isin.cell j2
 have q3:=hN.st.isin.cell j3
 have hll:l.length≤4000:=by have:=Zbr l;have h:=he.parts;simp only [Ex.parts] at h;omega
 have IH:=Zhd (fun j (h:j<l.length)=>ih _ (List.getElem_mem h) (he.part j h))
 have HU:=Zhd hU
 have HLE:=Zhd hle
 have HOK:=Zhd hok2
 clear hcE hK2 hok hue hs ih hT hKE hb0 hok2 hU hle hp
 go_enter Tryz.func51,Tryz.ntmps51
 go_wp2_with fail
 refine (HTT.out _ _ _ _ hN.st).mono ?_
 rintro r0 w1 ⟨T1,u1,kl1,rfl,hM,hown⟩
 have HN:=Zhd (hN.trans hM (.inr ⟨rfl,Nat.le_refl _⟩))
 have HOW:=Zhd hown
 clear hown hM hN q0 q1 q2 q3
 go_wp2_with fail
 go_loopw [6] (fun z wr=>∃ (m:Nat) (T2:List Bool) (u2:Value) (kl2:List KE),z = .int .i64 m∧m≤l.length∧WdN x K2 i (x.p.fl.length+1) w T kl wr T2 u2 kl2∧(x.own (.mk o n s l) i=true→T2.getD i false=true)∧(Zfd x.R x.inp x.fv (l.take m) i=true→T2.getD i false=true)) (fun z _=>l.length - (intOf z).toNat)
 case atStart=>exact⟨0,T1,u1,kl1,rfl,Nat.zero_le _,HN.out,HOW.out,fun h=>by simp [Zfd] at h⟩
 obtain⟨m,T2,u2,kl2,rfl,hm,hN,h1,h2⟩:=hrel
 have H1:=Zhd h1
 have H2:=Zhd h2
 clear h1 h2
 have q3:=hN.st.isin.cell j3
 by_cases hml:m<l.length
 ·obtain⟨b0,o0,ax0,cx0,he0,c0,c1,c2,c3,hx0⟩:=HU.out.at (i:=m) hml
  cases he0
  have HAT:=Zhd (allTs_take x l m hml i)
  have HIH:=Zhd (fun w T u kl (h:WdS x K2 w T u kl)=>IH.out m hml K2 _ HOK.out hx0 w T u kl h)
  have d0:=hN.st.isin.cell c0
  have d1:=hN.st.isin.cell c1
  have d2:=hN.st.isin.cell c2
  have d3:=hN.st.isin.cell c3
  clear hx0
  generalize l[m]=y at *
  go_wp2_with fail
  refine (HIH.out _ _ _ _ hN.st).mono ?_
  rintro r0 w2 ⟨rfl,T3,u3,kl3,hM,hal⟩
  have HAL:=Zhd hal
  have HUP:=Zhd hM.up
  have hN:=hN.trans hM (.inr ⟨rfl,Nat.le_refl _⟩)
  clear hal hM
  go_wp2_with fail
  go_roundw
  case rel=>
   refine⟨m+1,T3,u3,kl3,by go_num,by omega,hN,fun h=>HUP.out i (H1.out h),fun h=>?_⟩
   rw [HAT.out,Bool.or_eq_true] at h
   rcases h with h | h
   ·exact HUP.out i (H2.out h)
   exact HAL.out h
  simp [intOf];omega
 obtain rfl:m=l.length:=by omega
 have HF:=Zhd (hN.kn (HLE.out.inOf hN.st.isin))
 have HA:=Zhd (show allT x.R x.inp x.fv (.mk o n s l) i=true→T2.getD i false=true from fun h=>by
  simp only [allT,Bool.or_eq_true] at h
  rcases h with h | h
  ·exact H1.out h
  exact H2.out (by rw [List.take_length];exact h))
 clear hN
 go_wp2_with fail
 first | go_end0 | (refine bodyPost_ret (results_none rfl _ _ _) rfl ?_)
 exact⟨rfl,T2,u2,kl2,HF.out,HA.out⟩
abbrev ftT:TypeId:=68
def Zbt (x:WdW) (n:Nat) (w:World):Kn:=fun b=>if b<n∨b=x.B∨b=x.D then none else match w.heap[b]? with | some (.cells cs t fr)=>if t=75∨t=4 then some (.cells cs t fr) else none | _=>none
theorem Zjc (x:WdW) (n:Nat) (w:World):(Zbt x n w).In w:=fun b ob e=>by
 unfold Zbt at e
 split at e
 ·cases e
 split at e
 ·rename_i h
  split at e
  ·rw [h];exact e
  cases e
 cases e
theorem cleanKn_at {x:WdW} {n:Nat} {w:World} {g:Nat} {cs:Array Value} {t:TypeId} {fr:Nat×Nat} (h:w.heap[g]?=some (.cells cs t fr)) (hn:n≤g) (hb:x.B<g) (hd:x.D<g) (ht:t=75∨t=4):Zbt x n w g=some (.cells cs t fr):=by
 unfold Zbt
 rw [if_neg (by omega),h]
 exact if_pos ht
theorem Zd0 {x:WdW} {n:Nat} {w:World} {g:Nat} {ob:Obj} (e:Zbt x n w g=some ob):∃ cs t fr,ob = .cells cs t fr∧(t=75∨t=4)∧n≤g∧g≠x.B∧g≠x.D∧w.heap[g]?=some ob:=by
 unfold Zbt at e
 split at e
 ·cases e
 rename_i hc
 split at e
 ·rename_i h
  split at e
  ·rename_i ht
   cases e
   exact⟨_,_,_,rfl,ht,by omega,by omega,by omega,h⟩
  cases e
 cases e
theorem Zja {x:WdW} {n:Nat} {w:World} {g:Nat} {cs:Array Value} {t:TypeId} {fr:Nat×Nat} (h:w.heap[g]?=some (.cells cs t fr)) (hn:n≤g) (hb:g≠x.B) (hd:g≠x.D) (ht:t=75∨t=4):Zbt x n w g=some (.cells cs t fr):=by
 unfold Zbt
 rw [if_neg (by omega),h]
 exact if_pos ht
theorem cleanKn_kn (x:WdW) (n:Nat) (w:World):KnW x (Zbt x n w):=⟨by unfold Zbt;rw [if_pos (by simp)],by unfold Zbt;rw [if_pos (by simp)],fun g cs fr _ e=>by
 obtain⟨_,_,_,e1,e2,_⟩:=Zd0 e
 cases e1
 rcases e2 with e2 | e2<;>exact absurd e2 (by decide)⟩
theorem Zjb {x:WdW} {n:Nat} {w w':World} (h:Gr3 x w w'):(Zbt x n w).le (Zbt x n w'):=fun b ob e=>by
 have hin:=Gr3.isin (cleanKn_kn x n w) (Zjc x n w) h b ob e
 obtain⟨_,_,_,rfl,e2,e3,e4,e5,_⟩:=Zd0 e
 exact Zja hin e3 e4 e5 e2
theorem Zj0 {x:WdW} {n n':Nat} (w:World) (h:n'≤n):(Zbt x n w).le (Zbt x n' w):=fun b ob e=>by
 obtain⟨_,_,_,rfl,e2,e3,e4,e5,e6⟩:=Zd0 e
 exact Zja e6 (by omega) e4 e5 e2
theorem Zht (x:WdW) (n:Nat) (w:World):(Zbt x n w).le (Zag w):=Zaz (Zjc x n w)
theorem slv_clean {α:Type} {x:WdW} {R:α→(Nat→Option Value)→Prop} {w:World} {base k n:Nat} {T:TypeId} {v:Value} {l:List α} {xs:List Value} (h:w.ownsRow base T k v l.length xs) (hn:n≤base) (hb:x.B<base) (hd:x.D<base) (hT:T=75∨T=4)
  (hR:∀ i (hi:i<l.length),∀ f:Nat→Option Value,(∀ j u,xs[i * k+j]?=some u→f j=some u)→R l[i] f):SlV (Zbt x n w) k R l v:=by
 by_cases h0:l=[]
 ·obtain⟨a,c,h1,_⟩:=Zas h
  exact .inl ⟨h0,a,c,by rw [h1,h0];rfl⟩
 rcases h.2 with ⟨_,hz⟩ | ⟨g,cap,cur,h1,h2,h3,h4,h5,_⟩
 ·exact absurd (List.eq_nil_of_length_eq_zero hz) h0
 obtain⟨g',cap',e1,_,_,_,_,hc⟩:=Zbz h (List.length_pos_iff.2 h0)
 rw [h1] at e1
 cases e1
 refine .inr ⟨g,0,cap,h1,h4,h5,fun i hi=>hR i hi _ fun j u hj=>?_⟩
 have h6:=hc _ u hj
 simp only [World.cell?,h3] at h6
 unfold Kn.cell
 rw [cleanKn_at h3 (by omega) (by omega) (by omega) hT,Nat.zero_add]
 simpa using h6
theorem vls_clean {x:WdW} {w:World} {base n:Nat} {v:Value} {l:List Vl} (h:w.ownsRow base 75 2 v l.length (vlX l)) (hn:n≤base) (hb:x.B<base) (hd:x.D<base):VlsV (Zbt x n w) l v:=
 slv_clean h hn hb hd (.inl rfl) fun i hi f hf=>by
  obtain⟨x0,x1⟩:=Zeb _ i hi
  refine⟨hf 0 _ ?_,hf 1 _ ?_⟩
  ·rw [show i * 2+0=2 * i from by omega];exact x0
  rw [show i * 2+1=2 * i+1 from by omega];exact x1
theorem bls_clean {x:WdW} {w:World} {base n:Nat} {v:Value} {l:List Bool} (h:w.ownsRow base 4 1 v l.length (l.map .bool)) (hn:n≤base) (hb:x.B<base) (hd:x.D<base):BlsV (Zbt x n w) l v:=
 slv_clean h hn hb hd (.inr rfl) fun i hi f hf=>hf 0 _ (by rw [Nat.mul_one,Nat.add_zero,List.getElem?_map,List.getElem?_eq_getElem hi];rfl)
theorem WdN.setOwnR {x:WdW} {K:Kn} {i r:Nat} {w w1:World} {T T1:List Bool} {u1:Value} {kl kl1:List KE} (h:WdN x K i r w T kl w1 T1 u1 kl1) (hb:x.B<w.heap.size) (hd:x.D<w.heap.size) {a b c d:Value} (hR:w1.heap[w.heap.size]?=some (.cells #[a,b,c,d] ftT (0,0))) (hK:K w.heap.size=none) (a' b' c' d':Value):WdN x K i r w T kl (put4 w1 w.heap.size a' b' c' d') T1 u1 kl1:=by
 have h1:=h.setOwn (Nat.le_refl _) hb hd hK hR (by decide) 0 a'
 have r1:=Zaa _ _ 0 a' _ _ _ hR
 have h2:=h1.setOwn (Nat.le_refl _) hb hd hK r1 (by decide) 1 b'
 have r2:=Zaa _ _ 1 b' _ _ _ r1
 have h3:=h2.setOwn (Nat.le_refl _) hb hd hK r2 (by decide) 2 c'
 have r3:=Zaa _ _ 2 c' _ _ _ r2
 exact h3.setOwn (Nat.le_refl _) hb hd hK r3 (by decide) 3 d'
structure TaS (x:WdW) (K:Kn) (i:Nat) (w:World) (T:List Bool) (kl:List KE) (R A:Nat) (T1:List Bool) (u1:Value) (kl1:List KE) (uo:Value) (outs:List Vl) (asr:Bool) (uc:Value) (cks:List Bool) (wr:World):Prop where
 n:WdN x K i (x.p.fl.length+1) w T kl wr T1 u1 kl1
 r:wr.heap[R]?=some (.cells #[.slice none 0 0,.bool false,.bool false,.slice none 0 0] ftT (0,0))
 a:wr.heap[A]?=some (.cells #[uo,.bool asr,.bool false,uc] ftT (0,0))
 o:wr.ownsRow (A+1) 75 2 uo outs.length (vlX outs)
 c:wr.ownsRow (A+1) 4 1 uc cks.length (cks.map .bool)
 lt:R<A∧x.B<R∧x.D<R∧w.heap.size≤R
 k:∀ g,R≤g→(∃ cs fr,K g=some (.cells cs ftT fr)∨K g=some (.cells cs 75 fr)∨K g=some (.cells cs 4 fr))→False
section
variable {x : WdW} {K : Kn} {i : Nat} {w : World} {T : List Bool} {kl : List KE} {R A : Nat} {T1 : List Bool} {u1 : Value} {kl1 : List KE} {uo : Value} {outs : List Vl} {asr : Bool} {uc : Value} {cks : List Bool} {wr : World}
theorem TaS.later {r2:Nat} {w2:World} {T2:List Bool} {u2:Value} {kl2:List KE} (h:TaS x K i w T kl R A T1 u1 kl1 uo outs asr uc cks wr) (hM:WdN x K i r2 wr T1 kl1 w2 T2 u2 kl2) (hr:r2≤x.p.fl.length+1):TaS x K i w T kl R A T2 u2 kl2 uo outs asr uc cks w2:=by
 obtain⟨l1,l2,l3,l4⟩:=h.lt
 exact⟨h.n.trans hM (.inr ⟨rfl,hr⟩),hM.gr.heap h.r l2 l3 (by decide),hM.gr.heap h.a (by omega) (by omega) (by decide),hM.gr.own h.o (by omega) (by omega) (by decide),hM.gr.own h.c (by omega) (by omega) (by decide),h.lt,h.k⟩
theorem TaS.below {w2:World} (h:TaS x K i w T kl R A T1 u1 kl1 uo outs asr uc cks wr) (hb:Below wr.heap.size wr w2):TaS x K i w T kl R A T1 u1 kl1 uo outs asr uc cks w2:=
 ⟨h.n.below hb,(hb.block _ (Zlt h.r)).trans h.r,(hb.block _ (Zlt h.a)).trans h.a,Za6 h.o hb,Za6 h.c hb,h.lt,h.k⟩
theorem TaS.alloc (h:TaS x K i w T kl R A T1 u1 kl1 uo outs asr uc cks wr) (o:Obj):TaS x K i w T kl R A T1 u1 kl1 uo outs asr uc cks (wr.alloc o):=h.below ((Below.refl _ _).alloc (Nat.le_refl _) o)
theorem TaS.noA (h:TaS x K i w T kl R A T1 u1 kl1 uo outs asr uc cks wr):K A=none:=by
 cases hk:K A with
 | none=>rfl
 | some ob=>
  have h1:=h.n.st.isin A ob hk
  rw [h.a] at h1
  cases h1
  exact (h.k A (by have:=h.lt.1;omega) ⟨_,_,.inl hk⟩).elim
theorem TaS.cellsA (h:TaS x K i w T kl R A T1 u1 kl1 uo outs asr uc cks wr):wr.cell? ⟨A,0,none⟩=some uo∧wr.cell? ⟨A,1,none⟩=some (.bool asr)∧wr.cell? ⟨A,2,none⟩=some (.bool false)∧wr.cell? ⟨A,3,none⟩=some uc∧∀ j,wr.frozen? ⟨A,j,none⟩=false:=
 ⟨by simp [World.cell?,h.a],by simp [World.cell?,h.a],by simp [World.cell?,h.a],by simp [World.cell?,h.a],fun j=>by simp [World.frozen?,h.a]⟩
theorem TaS.putA (h:TaS x K i w T kl R A T1 u1 kl1 uo outs asr uc cks wr) (b:Bool):TaS x K i w T kl R A T1 u1 kl1 uo outs b uc cks (wr.setCell ⟨A,1,none⟩ (.bool b)):=by
 obtain⟨l1,l2,l3,l4⟩:=h.lt
 exact⟨h.n.setOwn (by omega) (by omega) (by omega) h.noA h.a (by decide) 1 _,(Below.heap_setCell wr ⟨A,1,none⟩ _ R (by show R≠A;omega)).trans h.r,by rw [Zaa _ _ _ _ _ _ _ h.a];rfl,Zal h.o (a:=⟨A,1,none⟩) (Zbi h.o (Nat.lt_succ_self A)) _,Zal h.c (a:=⟨A,1,none⟩) (Zbi h.c (Nat.lt_succ_self A)) _,h.lt,h.k⟩
theorem TaS.grown {w3:World} {T':TypeId} {k' n':Nat} {v:Value} {xs:List Value} (h:TaS x K i w T kl R A T1 u1 kl1 uo outs asr uc cks wr) (ho:wr.ownsRow (A+1) T' k' v n' xs) (hT:T'≠knT∧(T'=75∨T'=4)) (hg:wr.grownBy w3 v.ownBlock):
  WdN x K i (x.p.fl.length+1) w T kl w3 T1 u1 kl1∧w3.heap[R]?=wr.heap[R]?∧w3.heap[A]?=wr.heap[A]?:=by
 obtain⟨l1,l2,l3,l4⟩:=h.lt
 have hne:=fun g hh=>(ho.lt g hh).1
 refine⟨?_,hg.block _ (Zlt h.r) fun e=>by have:=hne _ e.symm;omega,hg.block _ (Zlt h.a) fun e=>by have:=hne _ e.symm;omega⟩
 rcases ho.2 with ⟨q1,_⟩ | ⟨g,cap,cur,q1,q2,q3,_⟩
 ·rw [q1] at hg
  exact h.n.below ⟨hg.os,hg.tape,hg.output,hg.size,fun j hj=>hg.block j hj (by simp [Value.ownBlock])⟩
 have hKg:K g=none:=by
  cases hk:K g with
  | none=>rfl
  | some ob=>
   have h1:=h.n.st.isin g ob hk
   rw [q3] at h1
   cases h1
   rcases hT.2 with e | e
   ·exact (h.k g (by omega) ⟨_,_,.inr (.inl (by rw [← e];exact hk))⟩).elim
   exact (h.k g (by omega) ⟨_,_,.inr (.inr (by rw [← e];exact hk))⟩).elim
 exact h.n.grownK ho (by omega) (by omega) (by omega) hT.1 (fun g' hg'=>by rw [q1] at hg';cases hg';exact hKg) hg
theorem TaS.putO {w3:World} {gg cap':Nat} {y:Vl} (h:TaS x K i w T kl R A T1 u1 kl1 uo outs asr uc cks wr) (hown:w3.ownsRow (A+1) 75 2 (.slice (some ⟨gg,0,none⟩) (outs.length+1) cap') (outs.length+1) (vlX outs++[.int .i64 y.kind,.int .i64 y.n])) (hg:wr.grownBy w3 uo.ownBlock):
  TaS x K i w T kl R A T1 u1 kl1 (.slice (some ⟨gg,0,none⟩) (outs.length+1) cap') (outs++[y]) asr uc cks (w3.setCell ⟨A,0,none⟩ (.slice (some ⟨gg,0,none⟩) (outs.length+1) cap')):=by
 obtain⟨l1,l2,l3,l4⟩:=h.lt
 obtain⟨g1,g2,g3⟩:=h.grown h.o (by decide) hg
 have ha:=g3.trans h.a
 have ho:w3.ownsRow (A+1) 4 1 uc cks.length (cks.map .bool):=h.c.kept hg (by
  rcases h.c.2 with ⟨q1,_⟩ | ⟨g,cap,cur,q1,q2,q3,_⟩
  ·exact .inl (by rw [q1];rfl)
  right
  rw [q1]
  intro e
  rcases h.o.2 with ⟨t1,_⟩ | ⟨g2,cap2,cur2,t1,t2,t3,_⟩
  ·rw [t1] at e;cases e
  rw [t1] at e
  cases e
  rw [q3] at t3
  cases t3)
 have e:vlX (outs++[y])=vlX outs++[.int .i64 y.kind,.int .i64 y.n]:=Zgh outs y
 have hl:(outs++[y]).length=outs.length+1:=by simp
 exact⟨g1.setOwn (by omega) (by omega) (by omega) h.noA ha (by decide) 0 _,(Below.heap_setCell w3 ⟨A,0,none⟩ _ R (by show R≠A;omega)).trans (g2.trans h.r),by rw [Zaa _ _ _ _ _ _ _ ha];rfl,by rw [hl,e];exact Zal hown (a:=⟨A,0,none⟩) (Zbi hown (Nat.lt_succ_self A)) _,Zal ho (a:=⟨A,0,none⟩) (Zbi ho (Nat.lt_succ_self A)) _,h.lt,h.k⟩
theorem TaS.putC {w3:World} {gg cap':Nat} {y:Bool} (h:TaS x K i w T kl R A T1 u1 kl1 uo outs asr uc cks wr) (hown:w3.ownsRow (A+1) 4 1 (.slice (some ⟨gg,0,none⟩) (cks.length+1) cap') (cks.length+1) ((cks.map Value.bool)++[Value.bool y])) (hg:wr.grownBy w3 uc.ownBlock):
  TaS x K i w T kl R A T1 u1 kl1 uo outs asr (.slice (some ⟨gg,0,none⟩) (cks.length+1) cap') (cks++[y]) (w3.setCell ⟨A,3,none⟩ (.slice (some ⟨gg,0,none⟩) (cks.length+1) cap')):=by
 obtain⟨l1,l2,l3,l4⟩:=h.lt
 obtain⟨g1,g2,g3⟩:=h.grown h.c (by decide) hg
 have ha:=g3.trans h.a
 have ho:w3.ownsRow (A+1) 75 2 uo outs.length (vlX outs):=h.o.kept hg (by
  rcases h.o.2 with ⟨q1,_⟩ | ⟨g,cap,cur,q1,q2,q3,_⟩
  ·exact .inl (by rw [q1];rfl)
  right
  rw [q1]
  intro e
  rcases h.c.2 with ⟨t1,_⟩ | ⟨g2,cap2,cur2,t1,t2,t3,_⟩
  ·rw [t1] at e;cases e
  rw [t1] at e
  cases e
  rw [q3] at t3
  cases t3)
 have e:(cks++[y]).map Value.bool=cks.map Value.bool++[.bool y]:=by simp
 have hl:(cks++[y]).length=cks.length+1:=by simp
 exact⟨g1.setOwn (by omega) (by omega) (by omega) h.noA ha (by decide) 3 _,(Below.heap_setCell w3 ⟨A,3,none⟩ _ R (by show R≠A;omega)).trans (g2.trans h.r),by rw [Zaa _ _ _ _ _ _ _ ha];rfl,Zal ho (a:=⟨A,3,none⟩) (Zbi ho (Nat.lt_succ_self A)) _,by rw [hl,e];exact Zal hown (a:=⟨A,3,none⟩) (Zbi hown (Nat.lt_succ_self A)) _,h.lt,h.k⟩
theorem TaS.newB (_:TaS x K i w T kl R A T1 u1 kl1 uo outs asr uc cks wr) (o:Obj):(wr.alloc o).heap[wr.heap.size]?=some o:=heap_alloc_new wr o
theorem TaS.box {w2:World} {T2:List Bool} {u2:Value} {kl2:List KE} (h0:TaS x K i w T kl R A T1 u1 kl1 uo outs asr uc cks wr) (h:TaS x K i w T kl R A T2 u2 kl2 uo outs asr uc cks w2) {b:Nat} (hb:wr.heap.size≤b) {p q:Value} (hbx:w2.heap[b]?=some (.cells #[p,q] 75 (0,0))) (u v:Value):
  TaS x K i w T kl R A T2 u2 kl2 uo outs asr uc cks ((w2.setCell ⟨b,0,none⟩ u).setCell ⟨b,1,none⟩ v):=by
 obtain⟨l1,l2,l3,l4⟩:=h0.lt
 have hA:=(Zlt h0.a)
 have hK:K b=none:=h0.n.st.isin.isNone hb
 have e1:∀ j,j≠b→((w2.setCell ⟨b,0,none⟩ u).setCell ⟨b,1,none⟩ v).heap[j]?=w2.heap[j]?:=fun j hj=>by
  rw [Below.heap_setCell _ ⟨b,1,none⟩ _ j hj,Below.heap_setCell _ ⟨b,0,none⟩ _ j hj]
 refine⟨h.n.put2 (by omega) (by omega) (by omega) hK hbx (by decide) u v,(e1 R (by omega)).trans h.r,(e1 A (by omega)).trans h.a,?_,?_,h.lt,h.k⟩
 ·have hne:uo.ownBlock≠some b:=fun e=>by have:=(h0.o.lt b e).2;omega
  exact Zal (Zal h.o (a:=⟨b,0,none⟩) hne u) (a:=⟨b,1,none⟩) hne v
 have hne:uc.ownBlock≠some b:=fun e=>by have:=(h0.c.lt b e).2;omega
 exact Zal (Zal h.c (a:=⟨b,0,none⟩) hne u) (a:=⟨b,1,none⟩) hne v
def TaE (x:WdW) (K:Kn) (i:Nat) (w:World) (T:List Bool) (kl:List KE) (R A:Nat) (uo:Value) (outs:List Vl) (asr:Bool) (uc:Value) (cks:List Bool) (wr:World):Prop:=∃ T1 u1 kl1,TaS x K i w T kl R A T1 u1 kl1 uo outs asr uc cks wr
end
theorem runM_wd {x:WdW} (hp:WdP x):runM x.nb x.ni x.p x.ins=wdRun (Zdq x.R x.inp x.fv x.p) x.ins.length 0:=by
 have h:=go_wd hp.ck hp.hks hp.ho x.nb x.ni (Zbb x.R (Zab 0 x.p.terms)) x.inp x.ins.length 0
 have e:(List.range' 0 x.ins.length).map x.inp=x.ins:=by
  apply List.ext_getElem (by simp)
  intro j h1 h2
  simp [WdW.inp,List.getD_eq_getElem?_getD,h2]
 rw [e] at h
 unfold runM
 rw [hp.hks,hp.ho,hp.fv]
 exact h
theorem wdRun_at (f:Nat→Tk):∀ (m n i:Nat),m≤n→(∀ j,j<m→(f (i+j)).trap=false)→wdRun f n i=(List.range' i m).map f++wdRun f (n - m) (i+m)
 | 0,n,i,_,_=>by simp
 | m+1,0,i,h,_=>by omega
 | m+1,n+1,i,h,ht=>by
  have h0:=ht 0 (by omega)
  rw [Nat.add_zero] at h0
  simp only [wdRun,List.range'_succ,List.map_cons,List.cons_append]
  rw [h0,if_neg (by simp),wdRun_at f m n (i+1) (by omega) (fun j hj=>by rw [show i+1+j=i+(j+1) from by omega];exact ht (j+1) (by omega))]
  rw [show n+1 - (m+1)=n - m from by omega,show i+1+m=i+(m+1) from by omega]
def toldW (f:Nat→Tk) (m:Nat):List Tk:=(List.range' 0 m).map f
theorem toldW_len (f:Nat→Tk) (m:Nat):(toldW f m).length=m:=by simp [toldW]
theorem toldW_succ (f:Nat→Tk) (m:Nat):toldW f (m+1)=toldW f m++[f m]:=by
 unfold toldW
 rw [List.range'_concat,List.map_append]
 simp
theorem toldW_end (f:Nat→Tk) (n:Nat) (h:∀ j,j<n→(f j).trap=false):wdRun f n 0=toldW f n:=by
 rw [wdRun_at f n n 0 (Nat.le_refl _) (fun j hj=>by rw [Nat.zero_add];exact h j hj),Nat.sub_self]
 simp [wdRun,toldW]
theorem toldW_trap (f:Nat→Tk) (n m:Nat) (hm:m<n) (h:∀ j,j<m→(f j).trap=false) (ht:(f m).trap=true):wdRun f n 0=toldW f (m+1):=by
 rw [wdRun_at f m n 0 (by omega) (fun j hj=>by rw [Nat.zero_add];exact h j hj),toldW_succ]
 obtain⟨k,hk⟩:∃ k,n - m=k+1:=⟨n - m - 1,by omega⟩
 rw [hk,Nat.zero_add]
 simp only [wdRun]
 rw [ht,if_pos rfl]
 rfl
theorem Gr3.below {x:WdW} {w w':World} (h:Gr3 x w w') {n:Nat} (hn:n≤w.heap.size) (h1:n≤x.B) (h2:n≤x.D) (h3:n≤x.base):Below n w w':=
 ⟨h.os,h.tape,h.output,h.size,fun i hi=>h.block i (by omega) (by omega) (by omega) (fun hb=>by omega)⟩
def mkW (p:Pr) (ks:Env Int) (ord:List Nat) (nb:Bool) (ni:Int) (ins:List (List Vl)) (A:List Int) (B D base:Nat) (vi vo vl va vc vlt vvr vin:Value):WdW:=
 ⟨p,ks,nb,ni,ins,fvS ⟨ks,Zac p,getI (Zai p),nb,ni⟩ (cdOf p ord) (Zbb ⟨ks,Zac p,getI (Zai p),nb,ni⟩ (Zab 0 p.terms)) (fun i=>ins.getD i []),A,ord,B,D,base,vi,vo,vl,va,vc,vlt,vvr,vin⟩
structure RoS (x:WdW) (K:Kn) (w0 wr:World) (T:List Bool) (u:Value) (kl:List KE) (uo:Value) (l:List Tk) (xs:List Value):Prop where
 st:WdS x K wr T u kl
 row:wr.ownsRow x.base ftT 4 uo l.length xs
 xs:RowX 4 TkC (Zbt x x.base wr) l xs
 below:Below w0.heap.size w0 wr
section
variable {x : WdW} {K : Kn} {w0 wr : World} {T : List Bool} {u : Value} {kl : List KE} {uo : Value} {l : List Tk} {xs : List Value}
theorem RoS.later {i r:Nat} {w2:World} {T2:List Bool} {u2:Value} {kl2:List KE} (h:RoS x K w0 wr T u kl uo l xs) (hbd:x.B<x.base∧x.D<x.base∧w0.heap.size≤x.B∧w0.heap.size≤x.D) (hM:WdN x K i r wr T kl w2 T2 u2 kl2):RoS x K w0 w2 T2 u2 kl2 uo l xs:=
 ⟨hM.st,hM.gr.own h.row hbd.1 hbd.2.1 (by decide),RowX.mono TkC.pm _ _ _ _ (Zjb hM.gr) h.xs,h.below.trans (hM.gr.below h.below.size hbd.2.2.1 hbd.2.2.2 (by omega))⟩
theorem RoS.next {w2:World} (h:RoS x K w0 wr T u kl uo l xs) (hb:Below wr.heap.size wr w2):RoS x K w0 w2 T u kl uo l xs:=
 ⟨h.st.below hb,Za6 h.row hb,RowX.mono TkC.pm _ _ _ _ (Zjb (.of_below hb)) h.xs,h.below.trans (hb.mono h.below.size)⟩
theorem RoS.noR (hx:KnW x K) (hKB:∀ g,x.base≤g→K g=none) (h:RoS x K w0 wr T u kl uo l xs):∀ g,uo.ownBlock=some g→K g=none:=fun g hg=>hKB g (h.row.lt g hg).1
theorem RoS.put {w3:World} {gg cap':Nat} {t:Tk} {ys:List Value} (h:RoS x K w0 wr T u kl uo l xs) (hbd:x.B<x.base∧x.D<x.base∧w0.heap.size≤x.B∧w0.heap.size≤x.D) (hKB:∀ g,x.base≤g→K g=none) (hy:ys.length=4) (ht:TkC (Zbt x x.base wr) t (fun j=>ys[j]?))
  (hown:w3.ownsRow x.base ftT 4 (.slice (some ⟨gg,0,none⟩) (l.length+1) cap') (l.length+1) (xs++ys)) (hg:wr.grownBy w3 uo.ownBlock):
  RoS x K w0 w3 T u kl (.slice (some ⟨gg,0,none⟩) (l.length+1) cap') (l++[t]) (xs++ys):=by
 have hne:∀ g,uo.ownBlock=some g→x.base≤g∧g<wr.heap.size:=fun g hh=>h.row.lt g hh
 have hty:∀ g,uo.ownBlock=some g→∃ cs,wr.heap[g]?=some (.cells cs ftT (0,0)):=fun g hh=>by
  rcases h.row.2 with ⟨q1,_⟩ | ⟨g',cap,cur,q1,q2,q3,_⟩
  ·rw [q1] at hh;cases hh
  rw [q1] at hh;cases hh;exact⟨_,q3⟩
 have hcl:(Zbt x x.base wr).le (Zbt x x.base w3):=fun b ob e=>by
  obtain⟨cs,t,fr,rfl,e2,e3,e4,e5,e6⟩:=Zd0 e
  refine Zja ?_ e3 e4 e5 e2
  rw [hg.block b (Zlt e6) (fun e7=>?_)]
  ·exact e6
  obtain⟨cs',hc⟩:=hty b e7.symm
  rw [e6] at hc
  cases hc
  rcases e2 with e2 | e2<;>exact absurd e2 (by decide)
 refine⟨⟨h.st.isin.grown hg (fun g hh=>hKB g (hne g hh).1),?_,?_,h.st.good,h.st.lo,h.st.nd,?_,h.st.len,h.st.mark,Nat.le_trans h.st.low hg.size⟩,?_,?_,?_⟩
 ·rw [hg.block _ (Zlt h.st.box) (fun e=>by have:=(hne _ e.symm).1;omega)];exact h.st.box
 ·exact h.st.row.kept hg (by
   rcases h.st.row.2 with ⟨q1,_⟩ | ⟨g,cap,cur,q1,q2,q3,_⟩
   ·exact .inl (by rw [q1];rfl)
   right
   rw [q1]
   intro e
   obtain⟨cs',hc⟩:=hty g e.symm
   rw [q3] at hc
   cases hc)
 ·rw [hg.block _ (Zlt h.st.trap) (fun e=>by have:=(hne _ e.symm).1;omega)];exact h.st.trap
 ·rw [show (l++[t]).length=l.length+1 from by simp];exact hown
 ·exact RowX.snoc TkC.pm (RowX.mono TkC.pm _ _ _ _ hcl h.xs) hy (TkC.mono hcl _ _ _ (fun _ _ h=>h) ht)
 exact h.below.grown hg h.below.size (fun g hh=>by have:=(hne g hh).1;omega)
theorem RoS.told (h:RoS x K w0 wr T u kl uo l xs):TksV (Zag wr) l uo:=by
 obtain⟨K',hle,hin,hv,_⟩:=Zcw (R:=TkC) (Zjc x x.base wr) h.row (fun g hg=>by
  cases hk:Zbt x x.base wr g with
  | none=>rfl
  | some ob=>
   obtain⟨cs,t,fr,rfl,e2,_,_,_,e6⟩:=Zd0 hk
   rcases h.row.2 with ⟨q1,_⟩ | ⟨g',cap,cur,q1,q2,q3,_⟩
   ·rw [q1] at hg;cases hg
   rw [q1] at hg
   cases hg
   rw [q3] at e6
   cases e6
   rcases e2 with e2 | e2<;>exact absurd e2 (by decide)) (RowX.at TkC.pm h.xs)
 exact SlV.le hv (Zaz hin) (TkC.mono (Zaz hin))
end
end Go.Proofs.YtgoccoldkfpbgaaGreatDoor
