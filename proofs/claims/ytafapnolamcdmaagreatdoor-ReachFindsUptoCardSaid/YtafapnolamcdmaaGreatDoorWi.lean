/- lustrumref2.World: each term, each flow at each instant has what it has: by instants, by the flows' order, by terms. -/
import Derived.Test.YtafapnolamcdmaaGreatDoorWp
set_option linter.all false
namespace Go.Proofs.YtafapnolamcdmaaGreatDoor
set_option maxRecDepth 100000
set_option maxHeartbeats 16000000
open Go.RowKit Mx
theorem rk_needs{x:WdW}(hp:WdP x){k:Nat}(hk:k<x.p.fl.length):∀q∈needs x.p.atOf x.p.fl[k].e,x.rk q<x.rk k:=λq hq=>by
 have Hk:=Zgf hp.ho k hk;have htop:=Zfs hp.ho;have hi:x.ord.idxOf k<x.ord.length:=List.idxOf_lt_length_of_mem Hk;have hg:x.ord[x.ord.idxOf k]=k:=List.getElem_idxOf hi;have h2:=(htop _ hi).2 q (by
  rw[hg];have:x.p.graph.getD k []=needs x.p.atOf x.p.fl[k].e:=by simp[Pr.graph,Ygg,hk]
  rw[this];exact hq)
 have h3:(x.ord.take (x.ord.idxOf k)).idxOf q<(x.ord.take (x.ord.idxOf k)).length:=List.idxOf_lt_length_of_mem h2;have h4:x.ord.idxOf q=(x.ord.take (x.ord.idxOf k)).idxOf q:=by
  conv=>lhs;rw[<- List.take_append_drop (x.ord.idxOf k) x.ord]
  rw[List.idxOf_append,if_pos h2]
 unfold WdW.rk;rw[h4];simp only[List.length_take] at h3;omega
theorem rk_lt{x:WdW}(hp:WdP x){k:Nat}(hk:k<x.p.fl.length):x.rk k<x.p.fl.length:=by
 have:=List.idxOf_lt_length_of_mem (Zgf hp.ho k hk);have h2:=(Zbg hp.ho).2.1;unfold WdW.rk;omega
theorem Zig{x:WdW}(hp:WdP x){i:Nat}(hi:i<x.ins.length)(hbef:0<i->∀e,InP x e->Zkq x e (i - 1) (x.p.fl.length+1))(r:Nat)(jY:∀k,k<x.p.fl.length->x.rk k<r->FlowC x k i):
  ∀e,InP x e->(∀k∈needs x.p.atOf e,x.rk k<r)->Zkq x e i r:=by
 refine Ex.ind λo n s l ih he hn=>?_;refine wterm_any hp he hi ?_;obtain⟨JA,Jj,jq,hZ,_⟩:=Zax he.form;by_cases e1:o=oInt\/o=Zc9\/o=Zch
 .exact wplain_lit hp hi e1
 by_cases e2:o=Zb2
 .refine wplain_name hp hi e2 he λk hk=>?_;obtain⟨Hd,jA⟩:=fIdx_lt hk;have hks:(x.ks s).isSome=true:=by
   have h:=he.form;simp only[Zad,Bool.and_eq_true,Bool.or_eq_true,decide_eq_true_eq] at h;exact h.1.2.resolve_left (λh=>h e2)
  have jy:=Zgi (Zbg hp.ho).1 k Hd;rw[jA] at jy;have hJ:=nm_at (Zbg hp.ho).1 hp.hks s hks (by omega);have:=hn k (by
   simp only[needs];rw[if_neg (by rw[e2];decide),if_neg (by rw[e2];decide),if_pos e2,hJ,jy];simp)
  exact⟨jY k Hd this,this⟩
 by_cases e3:o=oPre
 .exact wplain_pre hp hi e3 he λh0 j hj=>hbef h0 _ (he.part j hj)
 by_cases e4:o=oFby
 .refine wplain_fby hp hi e4 he (λh=>ih _ (Ymm h) (he.part 0 h) λk hk=>hn k ?_) λh0 h=>hbef h0 _ (he.part 1 h);simp only[needs];rw[if_neg e3,if_pos e4];cases l with
  |nil=>simp at h
  |cons y l=>simpa[Zgj] using hk
 have hall:∀j (h:j<l.length),Zkq x l[j] i r:=λj h=>ih _ (Ymm h) (he.part j h) λk hk=>hn k (by
  simp only[needs];rw[if_neg e3,if_neg e4];exact List.mem_append_right _ (Zg9 (Ymm h) hk))
 by_cases e5:o=Zbk
 .exact wplain_arrow hp hi e5 he hall
 exact wplain_op hp hi ⟨λh=>e1 (.inl h),λh=>e1 (.inr (.inl h)),λh=>e1 (.inr (.inr h)),e2,e3,e5,e4⟩ he hall
theorem world_all{x:WdW}(hp:WdP x):∀i,i<x.ins.length->(∀e,InP x e->Zkq x e i (x.p.fl.length+1))/\∀k,k<x.p.fl.length->FlowC x k i:=by
 intro i
 induction i with
 |zero=>
  intro hi;have jY:∀ρ k,k<x.p.fl.length->x.rk k<ρ->FlowC x k 0:=by
   intro ρ
   induction ρ with
   |zero=>intro k _ h;omega
   |succ ρ ih=>
    intro k hk hr;exact wflow_any hp hk hi (Zig hp hi (λh=>by omega) (x.rk k) (λq hq hqr=>ih q hq (by omega)) _ (hp.term _ (by obtain⟨h,e⟩:=fl_term x.p k hk;rw[<- e];exact Ymm h)) (rk_needs hp hk))
  have hF:∀k,k<x.p.fl.length->FlowC x k 0:=λk hk=>jY (x.rk k+1) k hk (by omega);refine⟨λe he=>Zig hp hi (λh=>by omega) _ (λk hk _=>hF k hk) e he λk _=>?_,hF⟩;have h2:=(Zbg hp.ho).2.1;have:=List.idxOf_le_length (a:=k) (l:=x.ord);unfold WdW.rk;omega
 |succ i IH=>
  intro hi;have hbef:0<i+1->∀e,InP x e->Zkq x e (i+1 - 1) (x.p.fl.length+1):=λ_=>(IH (by omega)).1;have jY:∀ρ k,k<x.p.fl.length->x.rk k<ρ->FlowC x k (i+1):=by
   intro ρ
   induction ρ with
   |zero=>intro k _ h;omega
   |succ ρ ih=>
    intro k hk hr;exact wflow_any hp hk hi (Zig hp hi hbef (x.rk k) (λq hq hqr=>ih q hq (by omega)) _ (hp.term _ (by obtain⟨h,e⟩:=fl_term x.p k hk;rw[<- e];exact Ymm h)) (rk_needs hp hk))
  have hF:∀k,k<x.p.fl.length->FlowC x k (i+1):=λk hk=>jY (x.rk k+1) k hk (by omega);refine⟨λe he=>Zig hp hi hbef _ (λk hk _=>hF k hk) e he λk _=>?_,hF⟩;have h2:=(Zbg hp.ho).2.1;have:=List.idxOf_le_length (a:=k) (l:=x.ord);unfold WdW.rk;omega
def AllC(x:WdW)(e:Ex)(i:Nat):Prop:=∀(K:Kn) (v:Value),WdOk x K->ExV K e v->∀(w:World) (T:List Bool) (u:Value) (kl:List KE),WdS x K w T u kl->
 Calls Tryz.prog 64 #[ptrV x.B,v,.int .i64 i] w λret w'=>ret=.returned (.tuple #[])/\∃T' u' kl',WdN x K i (x.p.fl.length+1) w T kl w' T' u' kl'/\(allT x.R x.inp x.fv e i=true->T'.getD i false=true)
theorem allTs_take(x:WdW)(l:List Ex)(m:Nat)(h:m<l.length)(i:Nat):Zfo x.R x.inp x.fv (l.take (m+1)) i=(Zfo x.R x.inp x.fv (l.take m) i || allT x.R x.inp x.fv l[m] i):=by
 rw[Zfn,Zfn,List.take_succ_eq_append_getElem h,List.any_append];simp
theorem wall_any{x:WdW}(hp:WdP x){i:Nat}(hi:i<x.ins.length):∀e,InP x e->AllC x e i:=by
 refine Ex.ind λo n s l ih he K v J1 hv w T u kl hs=>?_;have hT:=(world_all hp i hi).1 _ he;obtain⟨ue,rfl,J9⟩:=hv;simp only[Ex.op,Ex.n,Ex.s,Ex.l] at J9 ⊢;obtain⟨a,c,rfl⟩:=J9.len;have ko:x.B<w.heap.size/\x.D<w.heap.size:=by have:=hp.bd;have:=hs.low;omega
 have hKE:K w.heap.size=none:=hs.isin.isNone Ylr;obtain⟨K2,yM⟩:∃K2,K2=K.add w.heap.size (.cells (Yqe o n s a l.length c) 61 (0,0)):=⟨_,rfl⟩;have He:K.le K2:=yM▸Kn.le_add hKE;have Ja:WdOk x K2:=J1.le He (yM▸J1.kn.add ko.1 ko.2 (by decide));have Hg:=(Below.refl w.heap.size w).alloc Ylr (.cells (Yqe o n s a l.length c) 61);have hN:WdN x K2 i (x.p.fl.length+1) w T kl (w.alloc (.cells (Yqe o n s a l.length c) 61)) T u kl:=((hs.refl i _).below Hg).kn (yM▸(hs.isin.below Hg).add (heap_alloc_new _ _));have jj:∀j,K2.cell w.heap.size j=((Yqe o n s a l.length c):Array Value)[j]?:=λj=>by unfold Kn.cell;rw[yM,Kn.add_self]
 have j0:K2.cell w.heap.size 0=some (.string o):=jj 0;have j1:K2.cell w.heap.size 1=some (.int .i64 n):=jj 1;have j2:K2.cell w.heap.size 2=some (.string s):=jj 2;have j3:K2.cell w.heap.size 3=some (.slice a l.length c):=jj 3;have hU:=J9.le He;have yN:=Zhd (λw T u kl (h:WdS x K2 w T u kl)=>hT K2 _ Ja ⟨_,rfl,hU⟩ w T u kl h);have q0:=hN.st.isin.cell j0;have q1:=hN.st.isin.cell j1;have q2:=hN.st.isin.cell j2;have q3:=hN.st.isin.cell j3;have xN:l.length<=4000:=by have:=Zbp l;have h:=he.parts;simp only[Ex.parts] at h;omega
 have IH:=Zhd (λj (h:j<l.length)=>ih _ (Ymm h) (he.part j h));have HU:=Zhd hU;have JZ:=Zhd He;have jP:=Zhd Ja;clear jj yM J1 J9 hs ih hT hKE Hg Ja hU He hp;go_enter Tryz.func64,Tryz.ntmps64;go_wp2_with fail;refine(yN.out _ _ _ _ hN.st).mono ?_;rintro r0 w1 ⟨T1,u1,Hz,rfl,hM,Hb⟩;have HN:=Zhd (hN.trans hM (.inr ⟨rfl,Nat.le_refl _⟩));have HOW:=Zhd Hb;clear Hb hM hN q0 q1 q2 q3;go_wp2_with fail;go_loopw[6] (λz wr=>∃(m:Nat) (T2:List Bool) (u2:Value) (zS:List KE),z=.int .i64 m/\m<=l.length/\WdN x K2 i (x.p.fl.length+1) w T kl wr T2 u2 zS/\(x.own (.mk o n s l) i=true->T2.getD i false=true)/\(Zfo x.R x.inp x.fv (l.take m) i=true->T2.getD i false=true)) (λz _=>l.length - (intOf z).toNat)
 case atStart=>exact⟨0,T1,u1,Hz,rfl,Nat.zero_le _,HN.out,HOW.out,λh=>by simp[Zfo] at h⟩
 obtain⟨m,T2,u2,zS,rfl,hm,hN,h1,h2⟩:=hrel;have H1:=Zhd h1;have H2:=Zhd h2;clear h1 h2;have q3:=hN.st.isin.cell j3;by_cases JO:m<l.length
 .obtain⟨b0,o0,ax0,cx0,yp,c0,c1,c2,c3,jh⟩:=HU.out.at (i:=m) JO;cases yp;have xJ:=Zhd (allTs_take x l m JO i);have qq:=Zhd (λw T u kl (h:WdS x K2 w T u kl)=>IH.out m JO K2 _ jP.out jh w T u kl h);have d0:=hN.st.isin.cell c0;have d1:=hN.st.isin.cell c1;have d2:=hN.st.isin.cell c2;have d3:=hN.st.isin.cell c3;clear jh;generalize l[m]=y at *;go_wp2_with fail;refine(qq.out _ _ _ _ hN.st).mono ?_;rintro r0 w2 ⟨rfl,T3,u3,kl3,hM,yt⟩;have yH:=Zhd yt;have HUP:=Zhd hM.up;have hN:=hN.trans hM (.inr ⟨rfl,Nat.le_refl _⟩);clear yt hM;go_wp2_with fail;go_roundw
  case rel=>
   refine⟨m+1,T3,u3,kl3,by go_num,by omega,hN,λh=>HUP.out i (H1.out h),λh=>?_⟩;rw[xJ.out,Bool.or_eq_true] at h;rcases h with h|h
   .exact HUP.out i (H2.out h)
   exact yH.out h
  simp[intOf];omega
 obtain rfl:m=l.length:=by omega
 have HF:=Zhd (hN.kn (JZ.out.inOf hN.st.isin));have HA:=Zhd (show allT x.R x.inp x.fv (.mk o n s l) i=true->T2.getD i false=true from λh=>by
  simp only[allT,Bool.or_eq_true] at h;rcases h with h|h
  .exact H1.out h
  exact H2.out (by rw[List.take_length];exact h))
 clear hN;go_wp2_with fail
 first|go_end0|(refine bodyPost_ret (results_none rfl _ _ _) rfl ?_)
 exact⟨rfl,T2,u2,zS,HF.out,HA.out⟩
abbrev ftT:TypeId:=110
def Zbx(x:WdW)(n:Nat)(w:World):Kn:=λb=>if b<n\/b=x.B\/b=x.D then none else match w.heap[b]? with|some (.cells cs t fr)=>if t=101\/t=4 then some (.cells cs t fr) else none|_=>none
theorem Zhj(x:WdW)(n:Nat)(w:World):(Zbx x n w).In w:=λb ob e=>by
 unfold Zbx at e
 split at e
 .cases e
 split at e
 .rename_i h
  split at e
  .rw [h];exact e
  cases e
 cases e
theorem cleanKn_at{x:WdW}{n:Nat}{w:World}{g:Nat}{cs:Array Value}{t:TypeId}{fr:Nat×Nat}(h:w.heap[g]?=some (.cells cs t fr))(hn:n<=g)(hb:x.B<g)(hd:x.D<g)(ht:t=101\/t=4):Zbx x n w g=some (.cells cs t fr):=by
 unfold Zbx;rw[if_neg (by omega),h];exact if_pos ht
theorem Zez{x:WdW}{n:Nat}{w:World}{g:Nat}{ob:Obj}(e:Zbx x n w g=some ob):∃cs t fr,ob=.cells cs t fr/\(t=101\/t=4)/\n<=g/\g≠x.B/\g≠x.D/\w.heap[g]?=some ob:=by
 unfold Zbx at e
 split at e
 .cases e
 rename_i hc
 split at e
 .rename_i h
  split at e
  .rename_i ht
   cases e;exact⟨_,_,_,rfl,ht,by omega,by omega,by omega,h⟩
  cases e
 cases e
theorem cleanKn_of{x:WdW}{n:Nat}{w:World}{g:Nat}{cs:Array Value}{t:TypeId}{fr:Nat×Nat}(h:w.heap[g]?=some (.cells cs t fr))(hn:n<=g)(hb:g≠x.B)(hd:g≠x.D)(ht:t=101\/t=4):Zbx x n w g=some (.cells cs t fr):=by
 unfold Zbx;rw[if_neg (by omega),h];exact if_pos ht
theorem cleanKn_kn(x:WdW)(n:Nat)(w:World):KnW x (Zbx x n w):=⟨by unfold Zbx;rw[if_pos (by simp)],by unfold Zbx;rw[if_pos (by simp)],λg cs fr _ e=>by
 obtain⟨_,_,_,e1,e2,_⟩:=Zez e;cases e1;rcases e2 with e2|e2<;>exact absurd e2 (by decide)⟩
theorem cleanKn_le{x:WdW}{n:Nat}{w w':World}(h:Gr3 x w w'):(Zbx x n w).le (Zbx x n w'):=λb ob e=>by
 have Hk:=Gr3.isin (cleanKn_kn x n w) (Zhj x n w) h b ob e;obtain⟨_,_,_,rfl,e2,e3,e4,e5,_⟩:=Zez e;exact cleanKn_of Hk e3 e4 e5 e2
theorem cleanKn_all(x:WdW)(n:Nat)(w:World):(Zbx x n w).le (Zan w):=Zbl (Zhj x n w)
theorem cleanKn_new(x:WdW){n m:Nat}(w:World)(h:m<=n):(Zbx x n w).le (Zb3 m w):=λb ob e=>by
 have h1:=Zhj x n w b ob e;have hb:¬b<m:=λhb=>by
  unfold Zbx at e;rw[if_pos (Or.inl (Nat.lt_of_lt_of_le hb h))] at e;cases e
 unfold Zb3;rw[if_neg hb];exact h1
theorem slv_clean{α:Type}{x:WdW}{R:α->(Nat->Option Value)->Prop}{w:World}{base k n:Nat}{T:TypeId}{v:Value}{l:List α}{xs:List Value}(h:w.ownsRow base T k v l.length xs)(hn:n<=base)(hb:x.B<base)(hd:x.D<base)(hT:T=101\/T=4)
  (hR:∀i (hi:i<l.length),∀f:Nat->Option Value,(∀j u,xs[i * k+j]?=some u->f j=some u)->R l[i] f):SlV (Zbx x n w) k R l v:=by
 by_cases h0:l=[]
 .obtain⟨a,c,h1,_⟩:=Zar h;exact .inl ⟨h0,a,c,by rw[h1,h0];rfl⟩
 rcases h.2 with ⟨_,hz⟩|⟨g,Ha,cur,h1,h2,h3,h4,h5,_⟩
 .exact absurd (List.eq_nil_of_length_eq_zero hz) h0
 obtain⟨g',Hh,e1,_,_,_,_,hc⟩:=Zbr h (List.length_pos_iff.2 h0);rw[h1] at e1;cases e1;refine .inr ⟨g,0,Ha,h1,h4,h5,λi hi=>hR i hi _ λj u hj=>?_⟩;have h6:=hc _ u hj;simp only[World.cell?,h3] at h6;unfold Kn.cell;rw[cleanKn_at h3 (by omega) (by omega) (by omega) hT,Nat.zero_add];simpa using h6
theorem vls_clean{x:WdW}{w:World}{base n:Nat}{v:Value}{l:List Vl}(h:w.ownsRow base 101 2 v l.length (vlX l))(hn:n<=base)(hb:x.B<base)(hd:x.D<base):VlsV (Zbx x n w) l v:=
 slv_clean h hn hb hd (.inl rfl) λi hi f hf=>by
  obtain⟨x0,x1⟩:=Zen _ i hi;refine⟨hf 0 _ ?_,hf 1 _ ?_⟩
  .rw [show i * 2+0=2 * i from by omega];exact x0
  rw[show i * 2+1=2 * i+1 from by omega];exact x1
theorem bls_clean{x:WdW}{w:World}{base n:Nat}{v:Value}{l:List Bool}(h:w.ownsRow base 4 1 v l.length (l.map .bool))(hn:n<=base)(hb:x.B<base)(hd:x.D<base):BlsV (Zbx x n w) l v:=
 slv_clean h hn hb hd (.inr rfl) λi hi f hf=>hf 0 _ (by rw[Nat.mul_one,Nat.add_zero,List.getElem?_map,List.getElem?_eq_getElem hi];rfl)
theorem WdN.setOwnR{x:WdW}{K:Kn}{i r:Nat}{w w1:World}{T T1:List Bool}{u1:Value}{kl Hz:List KE}(h:WdN x K i r w T kl w1 T1 u1 Hz)(hb:x.B<w.heap.size)(hd:x.D<w.heap.size){a b c d:Value}(hR:w1.heap[w.heap.size]?=some (.cells #[a,b,c,d] ftT (0,0)))(hK:K w.heap.size=none)(a' b' c' d':Value):WdN x K i r w T kl (put4 w1 w.heap.size a' b' c' d') T1 u1 Hz:=by
 have h1:=h.setOwn Ylr hb hd hK hR (by decide) 0 a';have r1:=Zaa _ _ 0 a' _ _ _ hR;have h2:=h1.setOwn Ylr hb hd hK r1 (by decide) 1 b';have r2:=Zaa _ _ 1 b' _ _ _ r1;have h3:=h2.setOwn Ylr hb hd hK r2 (by decide) 2 c';have r3:=Zaa _ _ 2 c' _ _ _ r2;exact h3.setOwn Ylr hb hd hK r3 (by decide) 3 d'
structure TaS(x:WdW)(K:Kn)(i:Nat)(w:World)(T:List Bool)(kl:List KE)(R A:Nat)(T1:List Bool)(u1:Value)(Hz:List KE)(uo:Value)(outs:List Vl)(asr:Bool)(uc:Value)(J8:List Bool)(wr:World):Prop where
 n:WdN x K i (x.p.fl.length+1) w T kl wr T1 u1 Hz
 r:wr.heap[R]?=some (.cells #[Ys0,.bool false,.bool false,Ys0] ftT (0,0))
 a:wr.heap[A]?=some (.cells #[uo,.bool asr,.bool false,uc] ftT (0,0))
 o:wr.ownsRow (A+1) 101 2 uo outs.length (vlX outs)
 c:wr.ownsRow (A+1) 4 1 uc J8.length (J8.map .bool)
 lt:R<A/\x.B<R/\x.D<R/\w.heap.size<=R
 k:∀g,R<=g->(∃cs fr,K g=some (.cells cs ftT fr)\/K g=some (.cells cs 101 fr)\/K g=some (.cells cs 4 fr))->False
section
variable {x : WdW} {K : Kn} {i : Nat} {w : World} {T : List Bool} {kl : List KE} {R A : Nat} {T1 : List Bool} {u1 : Value} {Hz : List KE} {uo : Value} {outs : List Vl} {asr : Bool} {uc : Value} {J8 : List Bool} {wr : World}
theorem TaS.later{r2:Nat}{w2:World}{T2:List Bool}{u2:Value}{zS:List KE}(h:TaS x K i w T kl R A T1 u1 Hz uo outs asr uc J8 wr)(hM:WdN x K i r2 wr T1 Hz w2 T2 u2 zS)(hr:r2<=x.p.fl.length+1):TaS x K i w T kl R A T2 u2 zS uo outs asr uc J8 w2:=by
 obtain⟨l1,l2,l3,l4⟩:=h.lt;exact⟨h.n.trans hM (.inr ⟨rfl,hr⟩),hM.gr.heap h.r l2 l3 (by decide),hM.gr.heap h.a (by omega) (by omega) (by decide),hM.gr.own h.o (by omega) (by omega) (by decide),hM.gr.own h.c (by omega) (by omega) (by decide),h.lt,h.k⟩
theorem TaS.below{w2:World}(h:TaS x K i w T kl R A T1 u1 Hz uo outs asr uc J8 wr)(hb:Ybw wr w2):TaS x K i w T kl R A T1 u1 Hz uo outs asr uc J8 w2:=
 ⟨h.n.below hb,(hb.block _ (Zlt h.r)).trans h.r,(hb.block _ (Zlt h.a)).trans h.a,Za1 h.o hb,Za1 h.c hb,h.lt,h.k⟩
theorem TaS.alloc(h:TaS x K i w T kl R A T1 u1 Hz uo outs asr uc J8 wr)(o:Obj):TaS x K i w T kl R A T1 u1 Hz uo outs asr uc J8 (wr.alloc o):=h.below ((Below.refl _ _).alloc Ylr o)
theorem TaS.noA(h:TaS x K i w T kl R A T1 u1 Hz uo outs asr uc J8 wr):K A=none:=by
 cases hk:K A with
 |none=>rfl
 |some ob=>
  have h1:=h.n.st.isin A ob hk;rw[h.a] at h1;cases h1;exact(h.k A (by have:=h.lt.1;omega) ⟨_,_,.inl hk⟩).elim
theorem TaS.cellsA(h:TaS x K i w T kl R A T1 u1 Hz uo outs asr uc J8 wr):wr.cell? ⟨A,0,none⟩=some uo/\wr.cell? ⟨A,1,none⟩=some (.bool asr)/\wr.cell? ⟨A,2,none⟩=some (.bool false)/\wr.cell? ⟨A,3,none⟩=some uc/\∀j,wr.frozen? ⟨A,j,none⟩=false:=
 ⟨by simp[World.cell?,h.a],by simp[World.cell?,h.a],by simp[World.cell?,h.a],by simp[World.cell?,h.a],λj=>by simp[World.frozen?,h.a]⟩
theorem TaS.putA(h:TaS x K i w T kl R A T1 u1 Hz uo outs asr uc J8 wr)(b:Bool):TaS x K i w T kl R A T1 u1 Hz uo outs b uc J8 (wr.setCell ⟨A,1,none⟩ (.bool b)):=by
 obtain⟨l1,l2,l3,l4⟩:=h.lt;exact⟨h.n.setOwn (by omega) (by omega) (by omega) h.noA h.a (by decide) 1 _,(Below.heap_setCell wr ⟨A,1,none⟩ _ R (by show R≠A;omega)).trans h.r,by rw[Zaa _ _ _ _ _ _ _ h.a];rfl,Zam h.o (a:=⟨A,1,none⟩) (Zbj h.o (Nat.lt_succ_self A)) _,Zam h.c (a:=⟨A,1,none⟩) (Zbj h.c (Nat.lt_succ_self A)) _,h.lt,h.k⟩
theorem TaS.grown{w3:World}{T':TypeId}{k' n':Nat}{v:Value}{xs:List Value}(h:TaS x K i w T kl R A T1 u1 Hz uo outs asr uc J8 wr)(ho:wr.ownsRow (A+1) T' k' v n' xs)(hT:T'≠knT/\(T'=101\/T'=4))(hg:wr.grownBy w3 v.ownBlock):
  WdN x K i (x.p.fl.length+1) w T kl w3 T1 u1 Hz/\w3.heap[R]?=wr.heap[R]?/\w3.heap[A]?=wr.heap[A]?:=by
 obtain⟨l1,l2,l3,l4⟩:=h.lt;have Hs:=λg hh=>(ho.lt g hh).1;refine⟨?_,hg.block _ (Zlt h.r) λe=>by have:=Hs _ e.symm;omega,hg.block _ (Zlt h.a) λe=>by have:=Hs _ e.symm;omega⟩;rcases ho.2 with ⟨q1,_⟩|⟨g,Ha,cur,q1,q2,q3,_⟩
 .rw [q1] at hg;exact h.n.below ⟨hg.os,hg.tape,hg.output,hg.size,λj hj=>hg.block j hj (by simp[Value.ownBlock])⟩
 have xx:K g=none:=by
  cases hk:K g with
  |none=>rfl
  |some ob=>
   have h1:=h.n.st.isin g ob hk;rw[q3] at h1;cases h1;rcases hT.2 with e|e
   .exact (h.k g (by omega) ⟨_,_,.inr (.inl (by rw[<- e];exact hk))⟩).elim
   exact(h.k g (by omega) ⟨_,_,.inr (.inr (by rw[<- e];exact hk))⟩).elim
 exact h.n.grownK ho (by omega) (by omega) (by omega) hT.1 (λg' hg'=>by rw[q1] at hg';cases hg';exact xx) hg
theorem TaS.putO{w3:World}{gg Hh:Nat}{y:Vl}(h:TaS x K i w T kl R A T1 u1 Hz uo outs asr uc J8 wr)(Hb:w3.ownsRow (A+1) 101 2 (.slice (some ⟨gg,0,none⟩) (outs.length+1) Hh) (outs.length+1) (vlX outs++[.int .i64 y.kind,.int .i64 y.n]))(hg:wr.grownBy w3 uo.ownBlock):
  TaS x K i w T kl R A T1 u1 Hz (.slice (some ⟨gg,0,none⟩) (outs.length+1) Hh) (outs++[y]) asr uc J8 (w3.setCell ⟨A,0,none⟩ (.slice (some ⟨gg,0,none⟩) (outs.length+1) Hh)):=by
 obtain⟨l1,l2,l3,l4⟩:=h.lt;obtain⟨g1,g2,g3⟩:=h.grown h.o (by decide) hg;have ha:=g3.trans h.a;have ho:w3.ownsRow (A+1) 4 1 uc J8.length (J8.map .bool):=h.c.kept hg (by
  rcases h.c.2 with ⟨q1,_⟩|⟨g,Ha,cur,q1,q2,q3,_⟩
  .exact .inl (by rw[q1];rfl)
  right;rw[q1];intro e;rcases h.o.2 with ⟨t1,_⟩|⟨g2,zl,cur2,t1,t2,t3,_⟩
  .rw [t1] at e;cases e
  rw[t1] at e;cases e;rw[q3] at t3;cases t3)
 have e:vlX (outs++[y])=vlX outs++[.int .i64 y.kind,.int .i64 y.n]:=Zgv outs y;have hl:(outs++[y]).length=outs.length+1:=by simp
 exact⟨g1.setOwn (by omega) (by omega) (by omega) h.noA ha (by decide) 0 _,(Below.heap_setCell w3 ⟨A,0,none⟩ _ R (by show R≠A;omega)).trans (g2.trans h.r),by rw[Zaa _ _ _ _ _ _ _ ha];rfl,by rw[hl,e];exact Zam Hb (a:=⟨A,0,none⟩) (Zbj Hb (Nat.lt_succ_self A)) _,Zam ho (a:=⟨A,0,none⟩) (Zbj ho (Nat.lt_succ_self A)) _,h.lt,h.k⟩
theorem TaS.putC{w3:World}{gg Hh:Nat}{y:Bool}(h:TaS x K i w T kl R A T1 u1 Hz uo outs asr uc J8 wr)(Hb:w3.ownsRow (A+1) 4 1 (.slice (some ⟨gg,0,none⟩) (J8.length+1) Hh) (J8.length+1) ((J8.map Value.bool)++[Value.bool y]))(hg:wr.grownBy w3 uc.ownBlock):
  TaS x K i w T kl R A T1 u1 Hz uo outs asr (.slice (some ⟨gg,0,none⟩) (J8.length+1) Hh) (J8++[y]) (w3.setCell ⟨A,3,none⟩ (.slice (some ⟨gg,0,none⟩) (J8.length+1) Hh)):=by
 obtain⟨l1,l2,l3,l4⟩:=h.lt;obtain⟨g1,g2,g3⟩:=h.grown h.c (by decide) hg;have ha:=g3.trans h.a;have ho:w3.ownsRow (A+1) 101 2 uo outs.length (vlX outs):=h.o.kept hg (by
  rcases h.o.2 with ⟨q1,_⟩|⟨g,Ha,cur,q1,q2,q3,_⟩
  .exact .inl (by rw[q1];rfl)
  right;rw[q1];intro e;rcases h.c.2 with ⟨t1,_⟩|⟨g2,zl,cur2,t1,t2,t3,_⟩
  .rw [t1] at e;cases e
  rw[t1] at e;cases e;rw[q3] at t3;cases t3)
 have e:(J8++[y]).map Value.bool=J8.map Value.bool++[.bool y]:=by simp
 have hl:(J8++[y]).length=J8.length+1:=by simp
 exact⟨g1.setOwn (by omega) (by omega) (by omega) h.noA ha (by decide) 3 _,(Below.heap_setCell w3 ⟨A,3,none⟩ _ R (by show R≠A;omega)).trans (g2.trans h.r),by rw[Zaa _ _ _ _ _ _ _ ha];rfl,Zam ho (a:=⟨A,3,none⟩) (Zbj ho (Nat.lt_succ_self A)) _,by rw[hl,e];exact Zam Hb (a:=⟨A,3,none⟩) (Zbj Hb (Nat.lt_succ_self A)) _,h.lt,h.k⟩
theorem TaS.newB(_:TaS x K i w T kl R A T1 u1 Hz uo outs asr uc J8 wr)(o:Obj):(wr.alloc o).heap[wr.heap.size]?=some o:=heap_alloc_new wr o
theorem TaS.box{w2:World}{T2:List Bool}{u2:Value}{zS:List KE}(h0:TaS x K i w T kl R A T1 u1 Hz uo outs asr uc J8 wr)(h:TaS x K i w T kl R A T2 u2 zS uo outs asr uc J8 w2){b:Nat}(hb:wr.heap.size<=b){p q:Value}(Hu:w2.heap[b]?=some (.cells #[p,q] 101 (0,0)))(u v:Value):
  TaS x K i w T kl R A T2 u2 zS uo outs asr uc J8 ((w2.setCell ⟨b,0,none⟩ u).setCell ⟨b,1,none⟩ v):=by
 obtain⟨l1,l2,l3,l4⟩:=h0.lt;have hA:=(Zlt h0.a);have hK:K b=none:=h0.n.st.isin.isNone hb;have e1:∀j,j≠b->((w2.setCell ⟨b,0,none⟩ u).setCell ⟨b,1,none⟩ v).heap[j]?=w2.heap[j]?:=λj hj=>by
  rw[Below.heap_setCell _ ⟨b,1,none⟩ _ j hj,Below.heap_setCell _ ⟨b,0,none⟩ _ j hj]
 refine⟨h.n.put2 (by omega) (by omega) (by omega) hK Hu (by decide) u v,(e1 R (by omega)).trans h.r,(e1 A (by omega)).trans h.a,?_,?_,h.lt,h.k⟩
 .have Hs:uo.ownBlock≠some b:=λe=>by have:=(h0.o.lt b e).2;omega
  exact Zam (Zam h.o (a:=⟨b,0,none⟩) Hs u) (a:=⟨b,1,none⟩) Hs v
 have Hs:uc.ownBlock≠some b:=λe=>by have:=(h0.c.lt b e).2;omega
 exact Zam (Zam h.c (a:=⟨b,0,none⟩) Hs u) (a:=⟨b,1,none⟩) Hs v
def TaE(x:WdW)(K:Kn)(i:Nat)(w:World)(T:List Bool)(kl:List KE)(R A:Nat)(uo:Value)(outs:List Vl)(asr:Bool)(uc:Value)(J8:List Bool)(wr:World):Prop:=∃T1 u1 Hz,TaS x K i w T kl R A T1 u1 Hz uo outs asr uc J8 wr
end
def toldW(f:Nat->Tk)(m:Nat):List Tk:=(List.range' 0 m).map f
theorem Gr3.below{x:WdW}{w w':World}(h:Gr3 x w w'){n:Nat}(hn:n<=w.heap.size)(h1:n<=x.B)(h2:n<=x.D)(h3:n<=x.base):Below n w w':=
 ⟨h.os,h.tape,h.output,h.size,λi hi=>h.block i (by omega) (by omega) (by omega) (λhb=>by omega)⟩
def mkW(p:Pr)(ks:Env Int)(ord:List Nat)(nb:Bool)(ni:Int)(ins:List (List Vl))(A:List Int)(B D base:Nat)(vi vo vl va vc vlt vvr vin:Value):WdW:=
 ⟨p,ks,nb,ni,ins,fvS ⟨ks,Zac p,getI (Zah p),nb,ni⟩ (cdOf p ord) (Zba ⟨ks,Zac p,getI (Zah p),nb,ni⟩ (Zab 0 p.terms)) (λi=>ins.getD i []),A,ord,B,D,base,vi,vo,vl,va,vc,vlt,vvr,vin⟩
structure RoS(x:WdW)(K:Kn)(w0 wr:World)(T:List Bool)(u:Value)(kl:List KE)(uo:Value)(l:List Tk)(xs:List Value):Prop where
 st:WdS x K wr T u kl
 row:wr.ownsRow x.base ftT 4 uo l.length xs
 xs:RowX 4 TkC (Zbx x x.base wr) l xs
 below:Ybw w0 wr
section
variable {x : WdW} {K : Kn} {w0 wr : World} {T : List Bool} {u : Value} {kl : List KE} {uo : Value} {l : List Tk} {xs : List Value}
theorem RoS.later{i r:Nat}{w2:World}{T2:List Bool}{u2:Value}{zS:List KE}(h:RoS x K w0 wr T u kl uo l xs)(ka:x.B<x.base/\x.D<x.base/\w0.heap.size<=x.B/\w0.heap.size<=x.D)(hM:WdN x K i r wr T kl w2 T2 u2 zS):RoS x K w0 w2 T2 u2 zS uo l xs:=
 ⟨hM.st,hM.gr.own h.row ka.1 ka.2.1 (by decide),RowX.mono TkC.pm _ _ _ _ (cleanKn_le hM.gr) h.xs,h.below.trans (hM.gr.below h.below.size ka.2.2.1 ka.2.2.2 (by omega))⟩
theorem RoS.next{w2:World}(h:RoS x K w0 wr T u kl uo l xs)(hb:Ybw wr w2):RoS x K w0 w2 T u kl uo l xs:=
 ⟨h.st.below hb,Za1 h.row hb,RowX.mono TkC.pm _ _ _ _ (cleanKn_le (.of_below hb)) h.xs,h.below.trans (hb.mono h.below.size)⟩
theorem RoS.noR(hx:KnW x K)(qo:∀g,x.base<=g->K g=none)(h:RoS x K w0 wr T u kl uo l xs):∀g,uo.ownBlock=some g->K g=none:=λg hg=>qo g (h.row.lt g hg).1
theorem RoS.put{w3:World}{gg Hh:Nat}{t:Tk}{ys:List Value}(h:RoS x K w0 wr T u kl uo l xs)(ka:x.B<x.base/\x.D<x.base/\w0.heap.size<=x.B/\w0.heap.size<=x.D)(qo:∀g,x.base<=g->K g=none)(hy:ys.length=4)(ht:TkC (Zbx x x.base wr) t (λj=>ys[j]?))
  (Hb:w3.ownsRow x.base ftT 4 (.slice (some ⟨gg,0,none⟩) (l.length+1) Hh) (l.length+1) (xs++ys)) (hg:wr.grownBy w3 uo.ownBlock):
  RoS x K w0 w3 T u kl (.slice (some ⟨gg,0,none⟩) (l.length+1) Hh) (l++[t]) (xs++ys):=by
 have Hs:∀g,uo.ownBlock=some g->x.base<=g/\g<wr.heap.size:=λg hh=>h.row.lt g hh;have kJ:∀g,uo.ownBlock=some g->∃cs,wr.heap[g]?=some (.cells cs ftT (0,0)):=λg hh=>by
  rcases h.row.2 with ⟨q1,_⟩|⟨g',Ha,cur,q1,q2,q3,_⟩
  .rw [q1] at hh;cases hh
  rw[q1] at hh;cases hh;exact⟨_,q3⟩
 have hcl:(Zbx x x.base wr).le (Zbx x x.base w3):=λb ob e=>by
  obtain⟨cs,t,fr,rfl,e2,e3,e4,e5,e6⟩:=Zez e;refine cleanKn_of ?_ e3 e4 e5 e2;rw[hg.block b (Zlt e6) (λe7=>?_)]
  .exact e6
  obtain⟨xW,hc⟩:=kJ b e7.symm;rw[e6] at hc;cases hc;rcases e2 with e2|e2<;>exact absurd e2 (by decide)
 refine⟨⟨h.st.isin.grown hg (λg hh=>qo g (Hs g hh).1),?_,?_,h.st.good,h.st.lo,h.st.nd,?_,h.st.len,h.st.mark,Nat.le_trans h.st.low hg.size⟩,?_,?_,?_⟩
 .rw [hg.block _ (Zlt h.st.box) (λe=>by have:=(Hs _ e.symm).1;omega)];exact h.st.box
 .exact h.st.row.kept hg (by
   rcases h.st.row.2 with ⟨q1,_⟩|⟨g,Ha,cur,q1,q2,q3,_⟩
   .exact .inl (by rw[q1];rfl)
   right;rw[q1];intro e;obtain⟨xW,hc⟩:=kJ g e.symm;rw[q3] at hc;cases hc)
 .rw [hg.block _ (Zlt h.st.trap) (λe=>by have:=(Hs _ e.symm).1;omega)];exact h.st.trap
 .rw [show(l++[t]).length=l.length+1 from by simp];exact Hb
 .exact RowX.snoc TkC.pm (RowX.mono TkC.pm _ _ _ _ hcl h.xs) hy (TkC.mono hcl _ _ _ (λ_ _ h=>h) ht)
 exact h.below.grown hg h.below.size (λg hh=>by have:=(Hs g hh).1;omega)
theorem RoS.told(h:RoS x K w0 wr T u kl uo l xs):TksV (Zan wr) l uo:=by
 obtain⟨K',He,Hk,hv,_⟩:=Zcn (R:=TkC) (Zhj x x.base wr) h.row (λg hg=>by
  cases hk:Zbx x x.base wr g with
  |none=>rfl
  |some ob=>
   obtain⟨cs,t,fr,rfl,e2,_,_,_,e6⟩:=Zez hk;rcases h.row.2 with ⟨q1,_⟩|⟨g',Ha,cur,q1,q2,q3,_⟩
   .rw [q1] at hg;cases hg
   rw[q1] at hg;cases hg;rw[q3] at e6;cases e6;rcases e2 with e2|e2<;>exact absurd e2 (by decide)) (RowX.at TkC.pm h.xs)
 exact SlV.le hv (Zbl Hk) (TkC.mono (Zbl Hk))
end
end Go.Proofs.YtafapnolamcdmaaGreatDoor
