/- Known memory but for names: terms whose names may turn as a map says; what is renamed is as the map says. -/
import Derived.Test.YtofameafdnkijaaGreatDoorRg
import Derived.Test.YtofameafdnkijaaGreatDoorSmM
set_option linter.all false
namespace Go.Proofs.YtofameafdnkijaaGreatDoor
set_option maxRecDepth 100000
set_option maxHeartbeats 16000000
open Go.RowKit Mx
theorem mSlK1 {p:Prop} (h:p:=by
 refine⟨(show _ from by have h0:=h 0 (by simp);simp only [List.getElem_cons_zero,Nat.zero_mul,Nat.add_zero] at h0;exact h0),fun i hi=>?_⟩
 have:=h (i+1) (by simpa using hi)
 rw [show p+(i+1) * 4=p+4+i * 4 from by omega] at this
 exact this):p:=h
def Pat (c:Array Value) (p:Nat) (o s:ByteArray):Prop:=c[p]?=some (.string o)∧(∃ n,c[p+1]?=some (.int .i64 n))∧c[p+2]?=some (.string s)∧∃ a n k,c[p+3]?=some (.slice a n k)
def SPos (c:Array Value) (i:Nat):Prop:=∃ p o s,i=p+2∧Pat c p o s
theorem SPos.no {c:Array Value} {i:Nat} (h:∀ s,c[i]?≠some (.string s)):¬ SPos c i:=fun⟨_,_,s,e,_,_,h2,_⟩=>h s (e▸h2)
theorem SPos.no2 {c:Array Value} {i:Nat} (h:∀ a n k,c[i+1]?≠some (.slice a n k)):¬ SPos c i:=fun⟨_,_,_,e,_,_,_,a,n,k,h2⟩=>h a n k (e▸h2)
structure CellM (ks:Env ByteArray) (c c':Array Value):Prop where
 size:c'.size=c.size
 same:∀ i,¬ SPos c i→c'[i]?=c[i]?
 good:∀ i o s,Pat c i o s→∃ s',c'[i+2]?=some (.string s')∧Zdi ks o s s'
def KnM (ks:Env ByteArray) (K:Kn) (w:World):Prop:=∀ b ob,K b=some ob→w.heap[b]?=some ob∨∃ c c' t,ob = .cells c t (0,0)∧w.heap[b]?=some (.cells c' t (0,0))∧CellM ks c c'
theorem KnM.of_in {ks:Env ByteArray} {K:Kn} {w:World} (h:K.In w):KnM ks K w:=fun b ob e => .inl (h b ob e)
theorem CellM.refl (ks:Env ByteArray) (c:Array Value):CellM ks c c:=⟨rfl,fun _ _=>rfl,fun _ o s h=>⟨s,h.2.2.1,Zdi.refl ks o s⟩⟩
theorem KnM.lt {ks:Env ByteArray} {K:Kn} {w:World} (h:KnM ks K w) {b:Nat} {ob:Obj} (e:K b=some ob):b<w.heap.size:=by
 rcases h b ob e with h1 | ⟨_,_,_,_,h1,_⟩
 ·exact (Zlt h1)
 exact (Zlt h1)
theorem KnM.below {ks:Env ByteArray} {K:Kn} {w w':World} (h:KnM ks K w) (hb:Below w.heap.size w w'):KnM ks K w':=fun b ob e=>by
 have hl:=h.lt e
 rcases h b ob e with h1 | ⟨c,c',t,h1,h2,h3⟩
 ·exact .inl ((hb.block b hl).trans h1)
 exact .inr ⟨c,c',t,h1,(hb.block b hl).trans h2,h3⟩
theorem KnM.cells {ks:Env ByteArray} {K:Kn} {w:World} (h:KnM ks K w) {b p:Nat} {o s:ByteArray} {n:Int} {a:Option Addr} {l k:Nat} (h0:K.cell b p=some (.string o)) (h1:K.cell b (p+1)=some (.int .i64 n)) (h2:K.cell b (p+2)=some (.string s)) (h3:K.cell b (p+3)=some (.slice a l k)):
  ∃ s',Zdi ks o s s'∧w.cell? ⟨b,p,none⟩=some (.string o)∧w.cell? ⟨b,p+1,none⟩=some (.int .i64 n)∧w.cell? ⟨b,p+2,none⟩=some (.string s')∧w.cell? ⟨b,p+3,none⟩=some (.slice a l k):=by
 cases e:K b with
 | none=>simp [Kn.cell,e] at h0
 | some ob=>
  rcases h b ob e with g | ⟨c,c',t,rfl,g,hc⟩
  ·refine⟨s,Zdi.refl ks o s,?_,?_,?_,?_⟩<;>(unfold Kn.cell at h0 h1 h2 h3;rw [e] at h0 h1 h2 h3;unfold World.cell?;rw [g];cases ob<;>simp_all)
  unfold Kn.cell at h0 h1 h2 h3
  rw [e] at h0 h1 h2 h3
  have g0:c[p]?=some (.string o):=h0
  have g1:c[p+1]?=some (.int .i64 n):=h1
  have g2:c[p+2]?=some (.string s):=h2
  have g3:c[p+3]?=some (.slice a l k):=h3
  have sp:Pat c p o s:=⟨g0,⟨n,g1⟩,g2,a,l,k,g3⟩
  obtain⟨s',hs',hg⟩:=hc.good p o s sp
  have n0:¬ SPos c p:=SPos.no2 fun _ _ _ h5=>by rw [g1] at h5;cases h5
  have n1:¬ SPos c (p+1):=SPos.no fun _ h5=>by rw [g1] at h5;cases h5
  have n3:¬ SPos c (p+3):=SPos.no fun _ h5=>by rw [g3] at h5;cases h5
  have cw:∀ i,w.cell? ⟨b,i,none⟩=c'[i]?:=fun i=>by simp [World.cell?,g]
  exact⟨s',hg,by rw [cw,hc.same _ n0,g0],by rw [cw,hc.same _ n1,g1],by rw [cw,hs'],by rw [cw,hc.same _ n3,g3]⟩
theorem KnM.open {ks:Env ByteArray} {K:Kn} {w:World} (h:KnM ks K w) (hu:UF K) {b:Nat} {ob:Obj} (e:K b=some ob):∃ c c' t,ob = .cells c t (0,0)∧w.heap[b]?=some (.cells c' t (0,0))∧CellM ks c c':=by
 rcases h b ob e with h1 | h1
 ·obtain⟨c,t,rfl⟩:=hu b ob e
  exact⟨c,c,t,rfl,h1,CellM.refl ks c⟩
 exact h1
theorem KnM.put4 {ks:Env ByteArray} {K:Kn} {w:World} (h:KnM ks K w) (hu:UF K) {b p:Nat} {o s s1:ByteArray} {n:Int} {a:Option Addr} {l k:Nat} (h0:K.cell b p=some (.string o)) (h1:K.cell b (p+1)=some (.int .i64 n)) (h2:K.cell b (p+2)=some (.string s)) (h3:K.cell b (p+3)=some (.slice a l k)) (hg:Zdi ks o s s1):
  KnM ks K ((((w.setCell ⟨b,p,none⟩ (.string o)).setCell ⟨b,p+1,none⟩ (.int .i64 n)).setCell ⟨b,p+2,none⟩ (.string s1)).setCell ⟨b,p+3,none⟩ (.slice a l k)):=by
 cases e:K b with
 | none=>simp [Kn.cell,e] at h0
 | some ob=>
  obtain⟨c,c',t,rfl,g,hc⟩:=h.open hu e
  unfold Kn.cell at h0 h1 h2 h3
  rw [e] at h0 h1 h2 h3
  have g0:c[p]?=some (.string o):=h0
  have g1:c[p+1]?=some (.int .i64 n):=h1
  have g2:c[p+2]?=some (.string s):=h2
  have g3:c[p+3]?=some (.slice a l k):=h3
  have hsz:p+4≤c'.size:=by
   have:=(Zlt g3)
   have:=hc.size
   omega
  obtain⟨⟨c2,e1,e2,e3,e4⟩,e5,_⟩:=Zdw b [.string o,.int .i64 n,.string s1,.slice a l k] p w c' t (0,0) g hsz
  have q0:=e4 0 (by simp)
  have q1:=e4 1 (by simp)
  have q2:=e4 2 (by simp)
  have q3:=e4 3 (by simp)
  simp only [Nat.add_zero,List.getElem?_cons_zero,List.getElem?_cons_succ] at q0 q1 q2 q3
  have n0:¬ SPos c p:=SPos.no2 fun _ _ _ h5=>by rw [g1] at h5;cases h5
  have n1:¬ SPos c (p+1):=SPos.no fun _ h5=>by rw [g1] at h5;cases h5
  have n3:¬ SPos c (p+3):=SPos.no fun _ h5=>by rw [g3] at h5;cases h5
  have sp:Pat c p o s:=⟨g0,⟨n,g1⟩,g2,a,l,k,g3⟩
  intro b2 ob2 eb
  by_cases hb:b2=b
  ·subst hb
   rw [e] at eb
   cases eb
   refine .inr ⟨c,c2,t,rfl,e1,by rw [e2,hc.size],fun i hi=>?_,fun i o2 s2 hsp=>?_⟩
   ·by_cases i0:i=p
    ·rw [i0,q0,g0]
    by_cases i1:i=p+1
    ·rw [i1,q1,g1]
    by_cases i2:i=p+2
    ·rw [i2] at hi;exact absurd ⟨p,o,s,rfl,sp⟩ hi
    by_cases i3:i=p+3
    ·rw [i3,q3,g3]
    rw [e3 i (by show i<p∨p+4≤i;omega)]
    exact hc.same i hi
   by_cases i2:i=p
   ·subst i2
    have ho:=hsp.1
    have hs:=hsp.2.2.1
    rw [g0] at ho
    rw [g2] at hs
    cases ho
    cases hs
    exact⟨s1,q2,hg⟩
   have hne:i+2<p∨p+4≤i+2:=by
    rcases Nat.lt_or_ge (i+2) p with h | h
    ·exact .inl h
    right
    by_cases j0:i+2=p
    ·exact absurd ⟨i,o2,s2,j0.symm,hsp⟩ n0
    by_cases j1:i+2=p+1
    ·exact absurd ⟨i,o2,s2,j1.symm,hsp⟩ n1
    by_cases j3:i+2=p+3
    ·exact absurd ⟨i,o2,s2,j3.symm,hsp⟩ n3
    omega
   obtain⟨s',hs',hg'⟩:=hc.good i o2 s2 hsp
   exact⟨s',by rw [e3 (i+2) hne];exact hs',hg'⟩
  have hx:=e5 b2 hb
  rcases h b2 ob2 eb with g2 | ⟨d,d',t2,r1,r2,r3⟩
  ·exact .inl (hx.trans g2)
  exact .inr ⟨d,d',t2,r1,hx.trans r2,r3⟩
def Fx (ks:Env ByteArray) (K:Kn) (w:World) (b p:Nat):Prop:=∀ o n s a l k,K.cell b p=some (.string o)→K.cell b (p+1)=some (.int .i64 n)→K.cell b (p+2)=some (.string s)→K.cell b (p+3)=some (.slice a l k)→w.cell? ⟨b,p+2,none⟩=some (.string (rnS ks o s))
def FxM (ks:Env ByteArray) (K:Kn) (w w':World):Prop:=∀ b p,Fx ks K w b p→Fx ks K w' b p
theorem FxM.refl (ks:Env ByteArray) (K:Kn) (w:World):FxM ks K w w:=fun _ _ h=>h
theorem FxM.trans {ks:Env ByteArray} {K:Kn} {a b c:World} (h:FxM ks K a b) (k:FxM ks K b c):FxM ks K a c:=fun x p hx=>k x p (h x p hx)
theorem FxM.of_heap {ks:Env ByteArray} {K:Kn} {w w':World} (h:∀ b,K b≠none→w'.heap[b]?=w.heap[b]?):FxM ks K w w':=fun b p hx o n s a l k h0 h1 h2 h3=>by
 have hb:K b≠none:=fun e=>by simp [Kn.cell,e] at h0
 have:=hx o n s a l k h0 h1 h2 h3
 unfold World.cell? at this ⊢
 rw [h b hb];exact this
theorem FxM.of_below {ks:Env ByteArray} {K:Kn} {w w':World} (hk:KnM ks K w) (hb:Below w.heap.size w w'):FxM ks K w w':=FxM.of_heap fun b h=>by
 cases e:K b with
 | none=>exact absurd e h
 | some ob=>exact hb.block b (hk.lt e)
theorem KnM.fx4 {ks:Env ByteArray} {K:Kn} {w:World} (h:KnM ks K w) (hu:UF K) {b p:Nat} {o s s1:ByteArray} {n:Int} {a:Option Addr} {l k:Nat} (h0:K.cell b p=some (.string o)) (h1:K.cell b (p+1)=some (.int .i64 n)) (h2:K.cell b (p+2)=some (.string s)) (h3:K.cell b (p+3)=some (.slice a l k)) (hg:s1=rnS ks o s):
  FxM ks K w ((((w.setCell ⟨b,p,none⟩ (.string o)).setCell ⟨b,p+1,none⟩ (.int .i64 n)).setCell ⟨b,p+2,none⟩ (.string s1)).setCell ⟨b,p+3,none⟩ (.slice a l k))∧Fx ks K ((((w.setCell ⟨b,p,none⟩ (.string o)).setCell ⟨b,p+1,none⟩ (.int .i64 n)).setCell ⟨b,p+2,none⟩ (.string s1)).setCell ⟨b,p+3,none⟩ (.slice a l k)) b p:=by
 cases e:K b with
 | none=>simp [Kn.cell,e] at h0
 | some ob=>
  obtain⟨c,c',t,rfl,g,hc⟩:=h.open hu e
  have kc:∀ i,K.cell b i=c[i]?:=fun i=>by unfold Kn.cell;rw [e]
  have hsz:p+4≤c'.size:=by
   rw [kc] at h3
   have:=(Zlt h3)
   have:=hc.size
   omega
  obtain⟨⟨c2,e1,e2,e3,e4⟩,e5,_⟩:=Zdw b [.string o,.int .i64 n,.string s1,.slice a l k] p w c' t (0,0) g hsz
  have q2:=e4 2 (by simp)
  simp only [List.getElem?_cons_zero,List.getElem?_cons_succ] at q2
  have hW:w.setCells b p [.string o,.int .i64 n,.string s1,.slice a l k]=((((w.setCell ⟨b,p,none⟩ (.string o)).setCell ⟨b,p+1,none⟩ (.int .i64 n)).setCell ⟨b,p+2,none⟩ (.string s1)).setCell ⟨b,p+3,none⟩ (.slice a l k)):=rfl
  rw [← hW]
  have hfx:Fx ks K (w.setCells b p [.string o,.int .i64 n,.string s1,.slice a l k]) b p:=fun o2 n2 s2 a2 l2 k2 k0 k1 k2' k3=>by
   rw [h0] at k0
   rw [h2] at k2'
   cases k0
   cases k2'
   have:(w.setCells b p [.string o,.int .i64 n,.string s1,.slice a l k]).cell? ⟨b,p+2,none⟩=c2[p+2]?:=by simp [World.cell?,e1]
   rw [this,q2,hg]
  refine⟨fun b2 p2 hx=>?_,hfx⟩
  by_cases hb:b2=b
  ·subst hb
   by_cases hp:p2=p
   ·subst hp;exact hfx
   intro o2 n2 s2 a2 l2 k2 k0 k1 k2' k3
   have hne:p2+2<p∨p+4≤p2+2:=by
    rcases Nat.lt_or_ge (p2+2) p with h | h
    ·exact .inl h
    right
    by_cases j0:p2+2=p
    ·rw [show p2+3=p+1 from by omega,h1] at k3;cases k3
    by_cases j1:p2+2=p+1
    ·rw [j1,h1] at k2';cases k2'
    by_cases j3:p2+2=p+3
    ·rw [j3,h3] at k2';cases k2'
    omega
   have h4:=hx o2 n2 s2 a2 l2 k2 k0 k1 k2' k3
   have h5:w.cell? ⟨b2,p2+2,none⟩=c'[p2+2]?:=by simp [World.cell?,g]
   have h6:(w.setCells b2 p [.string o,.int .i64 n,.string s1,.slice a l k]).cell? ⟨b2,p2+2,none⟩=c2[p2+2]?:=by simp [World.cell?,e1]
   rw [h6,e3 (p2+2) hne,← h5,h4]
  intro o2 n2 s2 a2 l2 k2 k0 k1 k2' k3
  have h4:=hx o2 n2 s2 a2 l2 k2 k0 k1 k2' k3
  have h5:=e5 b2 hb
  unfold World.cell? at h4 ⊢
  rw [h5];exact h4
mutual
def ElX (ks:Env ByteArray) (K:Kn) (w:World):Ex→Nat→Nat→Prop
 | .mk _ _ _ l,b,p=>Fx ks K w b p∧∀ b' off' k' c',K.cell b (p+3)=some (.slice (some ⟨b',off',none⟩) k' c')→ElsX ks K w l b' off'
def ElsX (ks:Env ByteArray) (K:Kn) (w:World):List Ex→Nat→Nat→Prop
 | [],_,_=>True
 | e :: l,b,p=>ElX ks K w e b p∧ElsX ks K w l b (p+4)
end
def TrX (ks:Env ByteArray) (K:Kn) (w:World) (l:List Ex) (u:Value):Prop:=∀ b off k c,u = .slice (some ⟨b,off,none⟩) k c→ElsX ks K w l b off
theorem Zg9 {ks:Env ByteArray} {K:Kn} {w:World}:∀ {l:List Ex} {b p:Nat},ElsX ks K w l b p↔∀ i (h:i<l.length),ElX ks K w l[i] b (p+i * 4)
 | [],b,p=>⟨fun _ i h=>by simp at h,fun _=>by simp only [ElsX]⟩
 | e :: l,b,p=>by
  simp only [ElsX]
  rw [Zg9 (l:=l)]
  constructor
  ·rintro⟨h1,h2⟩ i hi
   cases i with
   | zero=>simpa using h1
   | succ i=>
    have:=h2 i (by simpa using hi)
    rw [show p+(i+1) * 4=p+4+i * 4 from by omega]
    exact this
  intro h
  exact mSlK1
theorem elX_iff {ks:Env ByteArray} {K:Kn} {w:World} (e:Ex) (b p:Nat):ElX ks K w e b p↔Fx ks K w b p∧∀ u,K.cell b (p+3)=some u→TrX ks K w e.l u:=by
 obtain⟨o,n,s,l⟩:=e
 simp only [ElX]
 exact and_congr_right fun _=>⟨fun h u hu b' off' k' c' e=>h b' off' k' c' (by rw [hu,e]),fun h b' off' k' c' e=>h _ e b' off' k' c' rfl⟩
theorem ElX.mono {ks:Env ByteArray} {K:Kn} {w w':World} (hm:FxM ks K w w'):∀ (e:Ex) (b p:Nat),ElX ks K w e b p→ElX ks K w' e b p:=by
 refine Ex.ind fun o n s l ih b p h=>?_
 simp only [ElX] at h ⊢
 refine⟨hm _ _ h.1,fun b' off' k' c' e=>?_⟩
 have h2:=h.2 b' off' k' c' e
 rw [Zg9] at h2 ⊢
 exact fun i hi=>ih _ (List.getElem_mem hi) _ _ (h2 i hi)
theorem TrX.mono {ks:Env ByteArray} {K:Kn} {w w':World} (hm:FxM ks K w w') {l:List Ex} {u:Value} (h:TrX ks K w l u):TrX ks K w' l u:=fun b off k c e=>by
 have h2:=h b off k c e
 rw [Zg9] at h2 ⊢
 exact fun i hi=>ElX.mono hm _ _ _ (h2 i hi)
theorem TrX.nil {ks:Env ByteArray} {K:Kn} {w:World} (u:Value):TrX ks K w [] u:=fun _ _ _ _ _=>by simp only [ElsX]
theorem newU_cell {n:Nat} {w:World} {b:Nat} {c:Array Value} {t:TypeId} (hb:n≤b) (h:w.heap[b]?=some (.cells c t (0,0))) (i:Nat):(newU n w).cell b i=w.cell? ⟨b,i,none⟩:=by
 unfold Kn.cell
 rw [newU_of hb h ⟨c,t,rfl⟩]
 simp [World.cell?,h]
theorem KnM.cellU {ks:Env ByteArray} {K:Kn} {w:World} (h:KnM ks K w) (hu:UF K) {n:Nat} (hlow:∀ b,b<n→K b=none) {b p:Nat} {v:Value} (h0:K.cell b p=some v) (i:Nat):(newU n w).cell b i=w.cell? ⟨b,i,none⟩:=by
 cases e:K b with
 | none=>simp [Kn.cell,e] at h0
 | some ob=>
  obtain⟨c,c',t,rfl,g,hc⟩:=h.open hu e
  exact newU_cell (Nat.le_of_not_lt fun hx=>by rw [hlow b hx] at e;cases e) g i
theorem exsAt_iff {H:Kn}:∀ {l:List Ex} {b off:Nat},Zcw H l b off↔∀ i (h:i<l.length),ExAt H l[i] (fun j=>H.cell b (off+i * 4+j))
 | [],b,p=>⟨fun _ i h=>by simp at h,fun _=>by simp only [Zcw]⟩
 | e :: l,b,p=>by
  simp only [Zcw]
  rw [exsAt_iff (l:=l)]
  constructor
  ·rintro⟨h1,h2⟩ i hi
   cases i with
   | zero=>simpa using h1
   | succ i=>
    have:=h2 i (by simpa using hi)
    rw [show p+(i+1) * 4=p+4+i * 4 from by omega]
    exact this
  intro h
  exact mSlK1
theorem exX_of {ks:Env ByteArray} {K:Kn} {w:World} (hk:KnM ks K w) (hu:UF K) {n:Nat} (hlow:∀ b,b<n→K b=none):∀ (e:Ex) (b p:Nat),ExAt K e (fun j=>K.cell b (p+j))→ElX ks K w e b p→ExAt (newU n w) (renE ks e) (fun j=>(newU n w).cell b (p+j)):=by
 refine Ex.ind fun o m s l ih b p h hx=>?_
 obtain⟨u,h0,h1,h2,h3,hl⟩:=h.cells
 simp only [Ex.op,Ex.n,Ex.s,Ex.l,Nat.add_zero] at h0 h1 h2 h3 hl
 obtain⟨a,c,rfl⟩:=hl.len
 rw [elX_iff] at hx
 obtain⟨s',_,c0,c1,c2,c3⟩:=hk.cells h0 h1 h2 h3
 have hn:=fun i=>hk.cellU hu hlow h0 i
 refine ExAt.mk (u := .slice a l.length c) ?_ ?_ ?_ ?_ ?_
 ·show (newU n w).cell b (p+0)=_
  rw [hn];simpa [renE,Ex.op] using c0
 ·show (newU n w).cell b (p+1)=_
  rw [hn];simpa [renE,Ex.n] using c1
 ·show (newU n w).cell b (p+2)=_
  rw [hn,hx.1 o m s a l.length c h0 h1 h2 h3]
  simp [renE,Ex.s,rnS,renS]
 ·show (newU n w).cell b (p+3)=_
  rw [hn];exact c3
 show ExsV (newU n w) (renL ks l) _
 rw [Zbv]
 rcases hl with ⟨e1,a',c',e2⟩ | ⟨b',off',c',e2,e3,e4,e5⟩
 ·exact .inl ⟨by rw [e1];rfl,a,c,by rw [e1];rfl⟩
 obtain⟨rfl,_,rfl⟩:a=some ⟨b',off',none⟩∧True∧c=c':=by
  simp only [Value.slice.injEq] at e2
  exact⟨e2.1,trivial,e2.2.2⟩
 refine .inr ⟨b',off',c,by rw [List.length_map],by rw [List.length_map];exact e3,e4,?_⟩
 rw [exsAt_iff]
 intro i hi
 have hi':i<l.length:=by simpa using hi
 have h5:=e5.get i hi'
 have h6:=hx.2 _ h3 b' off' _ _ rfl
 simp only [Ex.l] at h6
 rw [Zg9] at h6
 have:=ih _ (List.getElem_mem hi') b' (off'+i * 4) h5 (h6 i hi')
 simpa using this
theorem exsX_of {ks:Env ByteArray} {K:Kn} {w:World} (hk:KnM ks K w) (hu:UF K) {n:Nat} (hlow:∀ b,b<n→K b=none) {l:List Ex} {u:Value} (h:ExsV K l u) (hx:TrX ks K w l u):ExsV (newU n w) (l.map (renE ks)) u:=by
 rcases h with ⟨e1,a',c',e2⟩ | ⟨b',off',c',e2,e3,e4,e5⟩
 ·exact .inl ⟨by rw [e1];rfl,a',c',e2⟩
 refine .inr ⟨b',off',c',by rw [List.length_map];exact e2,by rw [List.length_map];exact e3,e4,?_⟩
 rw [exsAt_iff]
 intro i hi
 have hi':i<l.length:=by simpa using hi
 have h6:=hx b' off' _ _ e2
 rw [Zg9] at h6
 have:=exX_of hk hu hlow _ b' (off'+i * 4) (e5.get i hi') (h6 i hi')
 simpa using this
theorem exNow {ks:Env ByteArray} {K:Kn} {w:World} (hk:KnM ks K w) (hu:UF K) {n:Nat} (hlow:∀ b,b<n→K b=none):∀ (e:Ex) (b p:Nat),ExAt K e (fun j=>K.cell b (p+j))→∃ e',ExAt (newU n w) e' (fun j=>(newU n w).cell b (p+j))∧renE ks e'=renE ks e:=by
 refine Ex.ind fun o m s l ih b p h=>?_
 obtain⟨u,h0,h1,h2,h3,hl⟩:=h.cells
 simp only [Ex.op,Ex.n,Ex.s,Ex.l,Nat.add_zero] at h0 h1 h2 h3 hl
 obtain⟨a,c,rfl⟩:=hl.len
 obtain⟨s',hg,c0,c1,c2,c3⟩:=hk.cells h0 h1 h2 h3
 have hn:=fun i=>hk.cellU hu hlow h0 i
 obtain⟨l',hl',he'⟩:∃ l',ExsV (newU n w) l' (.slice a l.length c)∧l'.map (renE ks)=l.map (renE ks):=by
  rcases hl with ⟨e1,a',c',e2⟩ | ⟨b',off',c',e2,e3,e4,e5⟩
  ·exact⟨[],.inl ⟨rfl,a,c,by rw [e1];rfl⟩,by rw [e1]⟩
  have hall:∀ (m:List Ex),(∀ e∈m,e∈l)→∀ off,Zcw K m b' off→∃ m',m'.length=m.length∧Zcw (newU n w) m' b' off∧m'.map (renE ks)=m.map (renE ks):=by
   intro m
   induction m with
   | nil=>exact fun _ off _=>⟨[],rfl,by simp only [Zcw],rfl⟩
   | cons x m ihm=>
    intro hs off hx
    simp only [Zcw] at hx
    obtain⟨m',g1,g2,g3⟩:=ihm (fun e he=>hs e (List.mem_cons_of_mem _ he)) (off+4) hx.2
    obtain⟨x',g4,g5⟩:=ih x (hs x (List.mem_cons_self ..)) b' off hx.1
    exact⟨x' :: m',by simp [g1],by simp only [Zcw];exact⟨g4,g2⟩,by simp [g5,g3]⟩
  obtain⟨m',g1,g2,g3⟩:=hall l (fun _ h=>h) off' e5
  refine⟨m',.inr ⟨b',off',c',by rw [g1];exact e2,by rw [g1];exact e3,e4,g2⟩,g3⟩
 have hlen:l'.length=l.length:=by simpa using congrArg List.length he'
 refine⟨.mk o m s' l',ExAt.mk (u := .slice a l.length c) ?_ ?_ ?_ ?_ hl',?_⟩
 ·show (newU n w).cell b (p+0)=_
  rw [hn];exact c0
 ·show (newU n w).cell b (p+1)=_
  rw [hn];exact c1
 ·show (newU n w).cell b (p+2)=_
  rw [hn];exact c2
 ·show (newU n w).cell b (p+3)=_
  rw [hn];exact c3
 simp only [renE]
 rw [Zbv,Zbv,he']
 exact congrArg (fun z=>Ex.mk o m z (l.map (renE ks))) hg
theorem exsNow {ks:Env ByteArray} {K:Kn} {w:World} (hk:KnM ks K w) (hu:UF K) {n:Nat} (hlow:∀ b,b<n→K b=none) {l:List Ex} {u:Value} (h:ExsV K l u):∃ l',ExsV (newU n w) l' u∧l'.map (renE ks)=l.map (renE ks):=by
 rcases h with ⟨e1,a',c',e2⟩ | ⟨b',off',c',e2,e3,e4,e5⟩
 ·exact⟨[],.inl ⟨rfl,a',c',e2⟩,by rw [e1]⟩
 have hall:∀ (m:List Ex) (off:Nat),Zcw K m b' off→∃ m',m'.length=m.length∧Zcw (newU n w) m' b' off∧m'.map (renE ks)=m.map (renE ks):=by
  intro m
  induction m with
  | nil=>exact fun off _=>⟨[],rfl,by simp only [Zcw],rfl⟩
  | cons x m ihm=>
   intro off hx
   simp only [Zcw] at hx
   obtain⟨m',g1,g2,g3⟩:=ihm (off+4) hx.2
   obtain⟨x',g4,g5⟩:=exNow hk hu hlow x b' off hx.1
   exact⟨x' :: m',by simp [g1],by simp only [Zcw];exact⟨g4,g2⟩,by simp [g5,g3]⟩
 obtain⟨m',g1,g2,g3⟩:=hall l off' e5
 exact⟨m',.inr ⟨b',off',c',by rw [g1];exact e2,by rw [g1];exact e3,e4,g2⟩,g3⟩
theorem CellM.set {ks:Env ByteArray} {f g:ByteArray} (hf:ks f=none) (hr:∀ s t,ks s=some t→t≠f) {c c':Array Value} (h:CellM ks c c'):CellM (ks.set f g) c c':=
 ⟨h.size,h.same,fun i o s h1=>let ⟨s',h4,h5⟩:=h.good i o s h1;⟨s',h4,h5.set hf hr⟩⟩
theorem KnM.set {ks:Env ByteArray} {f g:ByteArray} (hf:ks f=none) (hr:∀ s t,ks s=some t→t≠f) {K:Kn} {w:World} (h:KnM ks K w):KnM (ks.set f g) K w:=fun b ob e=>
 (h b ob e).imp id fun⟨c,c',t,h1,h2,h3⟩=>⟨c,c',t,h1,h2,h3.set hf hr⟩
theorem KnM.strs {ks:Env ByteArray} {K:Kn} {w:World} (hk:KnM ks K w) (hu:UF K) {n:Nat} (hlow:∀ b,b<n→K b=none) {l:List ByteArray} {v:Value} (h:Ziq K l v) (hz:∀ b o n c,v = .slice (some ⟨b,o,none⟩) n c→o=0):Ziq (newU n w) l v:=by
 rcases h with h | ⟨b,off,cap,rfl,h2,h3,h4⟩
 ·exact .inl h
 obtain rfl:=hz _ _ _ _ rfl
 refine .inr ⟨b,0,cap,rfl,h2,h3,fun i hi=>?_⟩
 have hc:∀ j (hj:j<l.length),K.cell b j=some (.string l[j]):=fun j hj=>by
  have h5:K.cell b (0+j * 1+0)=some (.string l[j]):=h4 j hj
  rwa [show 0+j * 1+0=j from by omega] at h5
 show (newU n w).cell b (0+i * 1+0)=some (.string l[i])
 rw [show 0+i * 1+0=i from by omega,hk.cellU hu hlow (hc i hi)]
 have hci:=hc i hi
 cases e:K b with
 | none=>simp [Kn.cell,e] at hci
 | some ob=>
  obtain⟨c,c',t,rfl,g,hm⟩:=hk.open hu e
  have kc:∀ i,K.cell b i=c[i]?:=fun i=>by unfold Kn.cell;rw [e]
  have cw:w.cell? ⟨b,i,none⟩=c'[i]?:=by simp [World.cell?,g]
  rw [cw,hm.same i ?_,← kc,hci]
  rintro⟨p,o,s,e2,_,⟨x,h5⟩,_⟩
  subst e2
  rw [← kc,hc (p+1) (by omega)] at h5
  cases h5
theorem KnM.vrs {ks:Env ByteArray} {K:Kn} {w:World} (hk:KnM ks K w) (hu:UF K) {n:Nat} (hlow:∀ b,b<n→K b=none) {l:List Vr} {v:Value} (h:VrsV K l v):VrsV (newU n w) l v:=by
 rcases h with h | ⟨b,off,cap,rfl,h2,h3,h4⟩
 ·exact .inl h
 refine .inr ⟨b,off,cap,rfl,h2,h3,fun i hi=>?_⟩
 obtain⟨h5,h6⟩:=h4 i hi
 have h6:K.cell b (off+i * 2+1)=some (.int .i64 l[i].kind):=h6
 have key:∀ j v,K.cell b j=some v→(∀ s,v ≠ .string s)∨(∀ a n k,K.cell b (j+1)≠some (.slice a n k))→(newU n w).cell b j=some v:=fun j v hj hn=>by
  rw [hk.cellU hu hlow hj]
  cases e:K b with
  | none=>simp [Kn.cell,e] at hj
  | some ob=>
   obtain⟨c,c',t,rfl,g,hm⟩:=hk.open hu e
   have kc:∀ i,K.cell b i=c[i]?:=fun i=>by unfold Kn.cell;rw [e]
   have cw:w.cell? ⟨b,j,none⟩=c'[j]?:=by simp [World.cell?,g]
   rw [cw,hm.same j ?_,← kc,hj]
   rcases hn with hn | hn
   ·exact SPos.no fun s e3=>hn s (by rw [← kc,hj] at e3;exact Option.some.inj e3)
   exact SPos.no2 fun a n k e3=>hn a n k (by rw [kc];exact e3)
 exact⟨key _ _ h5 (.inr fun a n k e=>by rw [show off+i * 2+0+1=off+i * 2+1 from rfl,h6] at e;cases e),key _ _ h6 (.inl fun s e=>by cases e)⟩
theorem mSlL1 {p:Prop} (h:p:=by
 go_enter Tryz.func49,Tryz.ntmps49
 go_wp2_with fail
 have hb1:Below w.heap.size w ((w.alloc (.cells #[.string o,.int .i64 n,.string s0,.slice a l.length c] 69)).alloc (.cells #[.string ⟨#[]⟩,.int .i64 0,.string ⟨#[]⟩,.slice none 0 0] 69)):=((Below.refl _ _).alloc (Nat.le_refl _) _).alloc (by simp) _
 have hp1:((w.alloc (.cells #[.string o,.int .i64 n,.string s0,.slice a l.length c] 69)).alloc (.cells #[.string ⟨#[]⟩,.int .i64 0,.string ⟨#[]⟩,.slice none 0 0] 69)).heap[w.heap.size]?=some (.cells #[.string o,.int .i64 n,.string s0,.slice a l.length c] 69 (0,0)):=by
  rw [Below.heap_alloc _ _ _ (by simp)];exact heap_alloc_new _ _
 have hr1:((w.alloc (.cells #[.string o,.int .i64 n,.string s0,.slice a l.length c] 69)).alloc (.cells #[.string ⟨#[]⟩,.int .i64 0,.string ⟨#[]⟩,.slice none 0 0] 69)).heap[w.heap.size+1]?=some (.cells #[.string ⟨#[]⟩,.int .i64 0,.string ⟨#[]⟩,.slice none 0 0] 69 (0,0)):=by
  rw [show w.heap.size+1=(w.alloc (.cells #[.string o,.int .i64 n,.string s0,.slice a l.length c] 69)).heap.size from by simp];exact heap_alloc_new _ _
 have HR:=Zhd (show RenW ot K n0 w ((w.alloc (.cells #[.string o,.int .i64 n,.string s0,.slice a l.length c] 69)).alloc (.cells #[.string ⟨#[]⟩,.int .i64 0,.string ⟨#[]⟩,.slice none 0 0] 69)) w.heap.size o n s0 a l c 0 from⟨hb1.mono (by omega),fun b hb _=>hb1.block b hb,hKM.out.below hb1,hp1,hr1,FxM.of_below hKM.out hb1,fun _ _ h=>absurd h (Nat.not_lt_zero _)⟩)
 generalize (w.alloc (.cells #[.string o,.int .i64 n,.string s0,.slice a l.length c] 69)).alloc (.cells #[.string ⟨#[]⟩,.int .i64 0,.string ⟨#[]⟩,.slice none 0 0] 69)=W1 at *
 clear hb1 hp1 hr1
 go_loopw [26] (fun i wr=>∃ q:Nat,i = .int .i64 q∧q≤l.length∧RenW ot K n0 w wr w.heap.size o n s0 a l c q) (fun i _=>l.length - (intOf i).toNat)
 case atStart=>exact⟨0,rfl,Nat.zero_le _,HR.out⟩
 clear HR
 obtain⟨q,rfl,hq,hRW⟩:=hrel
 have HW:=Zhd hRW
 clear hRW
 by_cases hql:q<l.length
 ·obtain⟨b,off,ax,cx,ha,d0,d1,d2,d3,hx⟩:=ExsV.at HU.out hql
  subst ha
  obtain⟨u2,hu2e,hu2⟩:=hx
  cases hu2e
  have hmem:=List.getElem_mem hql
  have hpx:l[q].parts≤1000000000000:=by have:=Za5 l q hql;omega
  obtain⟨s2,hg2,c0,c1,c2,c3⟩:=HW.out.kn.cells d0 d1 d2 d3
  have HD:=Zhd (And.intro d0 (And.intro d1 (And.intro d2 d3)))
  have hRIr:=HRI.out.frame HW.out.frame hk
  have hnr:n0≤wr.drew.heap.size:=Nat.le_trans hn HW.out.below.size
  have hcall:=IH.out l[q] hmem _ hu2 hpx s2 hg2 wr.drew hnr (HW.out.kn.below (Below.refl _ _).drew) (hRIr.frame (FrK.of_below (K:=K) (Below.refl _ _).drew) hk)
  have HC:=Zhd hcall
  have hKB:∀ b,w.heap.size≤b→K b=none:=fun b hb=>by
   cases e:K b with
   | none=>rfl
   | some ob=>have:=hKM.out.lt e;omega
  have b3:wr.drew.cell? ⟨w.heap.size,3,none⟩=some (.slice (some ⟨b,off,none⟩) l.length c):=(Zag HW.out.box).2.2.2.1
  have tr:wr.drew.cell? ⟨Tr,0,none⟩=some (.func (.func 49) #[] #[.pointer (some ⟨To,0,none⟩),.pointer (some ⟨Tr,0,none⟩)]):=by have h:=hRIr.fn;show World.cell? wr _=_;simp [World.cell?,h]
  clear d0 d1 d2 d3 hcall hRIr hu2
  generalize hxq:l[q]=x at *
  have HXQ:=Zhd hxq
  clear hxq
  go_wp2_with fail
  go_region_law (first | (go_simp;go_at_call 49;refine HC.out.mono ?_;rintro r wc ⟨rfl,hk3,hf3,hb3,hm3,ht3⟩;obtain⟨s4,_,e0,e1,e2,e3⟩:=hk3.cells HD.out.1 HD.out.2.1 HD.out.2.2.1 HD.out.2.2.2;have hz0:=hk3.unf hu HD.out.1 (off+q * 4);have hz1:=hk3.unf hu HD.out.1 (off+q * 4+1);have hz2:=hk3.unf hu HD.out.1 (off+q * 4+2);have hz3:=hk3.unf hu HD.out.1 (off+q * 4+3);have hfin:=HW.out.turn hn hlow hu hKB hid hql HXQ.out hf3 hb3 HD.out.1 HD.out.2.1 HD.out.2.2.1 HD.out.2.2.2 hk3 hm3 ht3;have bc3:=(Zag (hfin.2)).2.2.2.1))
  all_goals go_wp2_with fail
  all_goals go_roundw
  all_goals first | exact⟨q+1,by go_num,by omega,hfin.1⟩ | (simp [intOf];omega)
 obtain rfl:q=l.length:=by omega
 have hKR:K (w.heap.size+1)=none:=by
  cases e:K (w.heap.size+1) with
  | none=>rfl
  | some ob=>have:=hKM.out.lt e;omega
 obtain⟨q0,q1,q2,q3,_⟩:=Zag HW.out.box
 obtain⟨r0,r1,r2,r3,f0,f1,f2,f3,_⟩:=Zag HW.out.res
 have HR2:=Zhd (Zdx HW.out.res (.string o) (.int .i64 n) (.string s0) (.slice a l.length c))
 have HF:=Zhd (HW.out.fin (by omega) hKR (.string o) (.int .i64 n) (.string s0) (.slice a l.length c))
 clear HW
 go_wp2_with fail
 obtain⟨e0,e1,e2,e3,_⟩:=Zag HR2.out
 refine bodyPost_ret (v := .agg #[.string o,.int .i64 n,.string s0,.slice a l.length c]) (by simp [results,Tryz.results49,go_sem,e0,e1,e2,e3]) rfl ?_
 exact⟨by rw [← HS1.out],HF.out⟩):p:=h
structure RenI (ot:Env ByteArray) (To Mo Tr:Nat) (w:World):Prop where
 box:w.heap[To]?=some (.cells #[.map (some Mo)] 111 (0,0))
 map:Zaw Value.string w Mo ot
 fn:w.heap[Tr]?=some (.cells #[.func (.func 49) #[] #[.pointer (some ⟨To,0,none⟩),.pointer (some ⟨Tr,0,none⟩)]] 101 (0,0))
def FrK (K:Kn) (w w':World):Prop:=∀ b,b<w.heap.size→K b=none→w'.heap[b]?=w.heap[b]?
theorem FrK.of_below {K:Kn} {w w':World} (h:Below w.heap.size w w'):FrK K w w':=fun b hb _=>h.block b hb
theorem RenI.frame {ot:Env ByteArray} {To Mo Tr:Nat} {K:Kn} {w w':World} (h:RenI ot To Mo Tr w) (hf:FrK K w w') (hk:K To=none∧K Mo=none∧K Tr=none):RenI ot To Mo Tr w':=
 ⟨(hf _ (Zlt h.box) hk.1).trans h.box,h.map.of_block (hf _ h.map.lt hk.2.1),(hf _ (Zlt h.fn) hk.2.2).trans h.fn⟩
structure RenW (ot:Env ByteArray) (K:Kn) (n0:Nat) (w wr:World) (B:Nat) (o:ByteArray) (n:Int) (s:ByteArray) (a:Option Addr) (l:List Ex) (c q:Nat):Prop where
 below:Below n0 w wr
 frame:FrK K w wr
 kn:KnM ot K wr
 box:wr.heap[B]?=some (.cells #[.string o,.int .i64 n,.string s,.slice a l.length c] 69 (0,0))
 res:wr.heap[B+1]?=some (.cells #[.string ⟨#[]⟩,.int .i64 0,.string ⟨#[]⟩,.slice none 0 0] 69 (0,0))
 fx:FxM ot K w wr
 dn:∀ i (hi:i<l.length),i<q→∀ b off,a=some ⟨b,off,none⟩→ElX ot K wr l[i] b (off+i * 4)
theorem KnM.unf {ks:Env ByteArray} {K:Kn} {w:World} (h:KnM ks K w) (hu:UF K) {b p:Nat} {v:Value} (h0:K.cell b p=some v) (i:Nat):w.frozen? ⟨b,i,none⟩=false:=by
 cases e:K b with
 | none=>simp [Kn.cell,e] at h0
 | some ob=>
  obtain⟨c,c',t,rfl,g,_⟩:=h.open hu e
  simp [World.frozen?,g]
theorem RenW.turn {ot:Env ByteArray} {K:Kn} {n0:Nat} {w wr wc:World} {o:ByteArray} {n:Int} {s:ByteArray} {xa:Option Addr} {l:List Ex} {x:Ex} {c q b off xc:Nat} (h:RenW ot K n0 w wr w.heap.size o n s (some ⟨b,off,none⟩) l c q) (hn:n0≤w.heap.size) (hlow:∀ b,b<n0→K b=none) (hu:UF K)
  (hKB:∀ b,w.heap.size≤b→K b=none) (hid:Idem ot) (hq:q<l.length) (hxq:l[q]=x) (hf:FrK K wr.drew wc) (hb:Below n0 wr.drew wc) (d0:K.cell b (off+q * 4)=some (.string x.op)) (d1:K.cell b (off+q * 4+1)=some (.int .i64 x.n)) (d2:K.cell b (off+q * 4+2)=some (.string x.s)) (d3:K.cell b (off+q * 4+3)=some (.slice xa x.l.length xc)) (hk:KnM ot K wc) (hm:FxM ot K wr.drew wc) (ht:TrX ot K wc x.l (.slice xa x.l.length xc)):
  RenW ot K n0 w ((((wc.setCell ⟨b,off+q * 4,none⟩ (.string x.op)).setCell ⟨b,off+q * 4+1,none⟩ (.int .i64 x.n)).setCell ⟨b,off+q * 4+2,none⟩ (.string (rnS ot x.op x.s))).setCell ⟨b,off+q * 4+3,none⟩ (.slice xa x.l.length xc)) w.heap.size o n s (some ⟨b,off,none⟩) l c (q+1)∧wc.heap[w.heap.size]?=some (.cells #[.string o,.int .i64 n,.string s,.slice (some ⟨b,off,none⟩) l.length c] 69 (0,0)):=by
 have hKb:K b≠none:=fun e=>by simp [Kn.cell,e] at d0
 have hbn:n0≤b:=Nat.le_of_not_lt fun hx=>hKb (hlow b hx)
 have hbw:b<w.heap.size:=Nat.lt_of_not_le fun hx=>hKb (hKB b hx)
 have hsz:w.heap.size≤wr.heap.size:=h.below.size
 have hwB:w.heap.size<wr.heap.size:=(Zlt h.box)
 have hwR:w.heap.size+1<wr.heap.size:=(Zlt h.res)
 have hB:=(hf w.heap.size hwB (hKB _ (Nat.le_refl _))).trans h.box
 have hR:=(hf (w.heap.size+1) hwR (hKB _ (by omega))).trans h.res
 have hg:Zdi ot x.op x.s (rnS ot x.op x.s):=Zfk hid _ _
 obtain⟨f1,f2⟩:=hk.fx4 hu d0 d1 d2 d3 (s1:=rnS ot x.op x.s) rfl
 have f0:FxM ot K wr wc:=FxM.trans (FxM.of_heap (w:=wr) (w':=wr.drew) fun _ _=>rfl) hm
 have hput:=hk.put4 hu d0 d1 d2 d3 hg
 have far:∀ y,y≠b→((((wc.setCell ⟨b,off+q * 4,none⟩ (.string x.op)).setCell ⟨b,off+q * 4+1,none⟩ (.int .i64 x.n)).setCell ⟨b,off+q * 4+2,none⟩ (.string (rnS ot x.op x.s))).setCell ⟨b,off+q * 4+3,none⟩ (.slice xa x.l.length xc)).heap[y]?=wc.heap[y]?:=fun x hx=>by
  rw [Below.heap_setCell _ _ _ x hx,Below.heap_setCell _ _ _ x hx,Below.heap_setCell _ _ _ x hx,Below.heap_setCell _ _ _ x hx]
 refine⟨⟨?_,fun x hx hKx=>?_,hput,(far _ (by omega)).trans hB,(far _ (by omega)).trans hR,(h.fx.trans f0).trans f1,fun i hi hiq b' off' e=>?_⟩,hB⟩
 ·have h1:Below n0 w wc:=(h.below.trans (Below.refl _ _).drew).trans hb
  exact (((h1.setCell (p:=⟨b,off+q * 4,none⟩) hbn _).setCell (p:=⟨b,off+q * 4+1,none⟩) hbn _).setCell (p:=⟨b,off+q * 4+2,none⟩) hbn _).setCell (p:=⟨b,off+q * 4+3,none⟩) hbn _
 ·have hxb:x≠b:=fun e=>hKb (by rw [← e];exact hKx)
  rw [far x hxb,hf x (Nat.lt_of_lt_of_le hx hsz) hKx]
  exact h.frame x hx hKx
 have e':=e
 cases e'
 by_cases hiq':i<q
 ·exact ElX.mono (f0.trans f1) _ _ _ (h.dn i hi hiq' _ _ e)
 obtain rfl:i=q:=by omega
 rw [hxq,elX_iff]
 refine⟨f2,fun u hu2=>?_⟩
 rw [d3] at hu2
 cases hu2
 exact TrX.mono f1 ht
theorem RenW.fin {ot:Env ByteArray} {K:Kn} {n0:Nat} {w wr:World} {o s:ByteArray} {n:Int} {a:Option Addr} {l:List Ex} {c:Nat} (h:RenW ot K n0 w wr w.heap.size o n s a l c l.length) (hn:n0≤w.heap.size+1) (hKR:K (w.heap.size+1)=none) (x y z u:Value):
  KnM ot K ((((wr.setCell ⟨w.heap.size+1,0,none⟩ x).setCell ⟨w.heap.size+1,1,none⟩ y).setCell ⟨w.heap.size+1,2,none⟩ z).setCell ⟨w.heap.size+1,3,none⟩ u)∧FrK K w ((((wr.setCell ⟨w.heap.size+1,0,none⟩ x).setCell ⟨w.heap.size+1,1,none⟩ y).setCell ⟨w.heap.size+1,2,none⟩ z).setCell ⟨w.heap.size+1,3,none⟩ u)∧
   Below n0 w ((((wr.setCell ⟨w.heap.size+1,0,none⟩ x).setCell ⟨w.heap.size+1,1,none⟩ y).setCell ⟨w.heap.size+1,2,none⟩ z).setCell ⟨w.heap.size+1,3,none⟩ u)∧FxM ot K w ((((wr.setCell ⟨w.heap.size+1,0,none⟩ x).setCell ⟨w.heap.size+1,1,none⟩ y).setCell ⟨w.heap.size+1,2,none⟩ z).setCell ⟨w.heap.size+1,3,none⟩ u)∧
   TrX ot K ((((wr.setCell ⟨w.heap.size+1,0,none⟩ x).setCell ⟨w.heap.size+1,1,none⟩ y).setCell ⟨w.heap.size+1,2,none⟩ z).setCell ⟨w.heap.size+1,3,none⟩ u) l (.slice a l.length c):=by
 have far:∀ b,b≠w.heap.size+1→((((wr.setCell ⟨w.heap.size+1,0,none⟩ x).setCell ⟨w.heap.size+1,1,none⟩ y).setCell ⟨w.heap.size+1,2,none⟩ z).setCell ⟨w.heap.size+1,3,none⟩ u).heap[b]?=wr.heap[b]?:=fun b hb=>by
  rw [Below.heap_setCell _ _ _ b hb,Below.heap_setCell _ _ _ b hb,Below.heap_setCell _ _ _ b hb,Below.heap_setCell _ _ _ b hb]
 have f1:FxM ot K wr ((((wr.setCell ⟨w.heap.size+1,0,none⟩ x).setCell ⟨w.heap.size+1,1,none⟩ y).setCell ⟨w.heap.size+1,2,none⟩ z).setCell ⟨w.heap.size+1,3,none⟩ u):=FxM.of_heap fun b hb=>far b fun e=>hb (by rw [e,hKR])
 refine⟨fun b ob e=>?_,fun b hb hK=>(far b (by omega)).trans (h.frame b hb hK),(((h.below.setCell (p:=⟨w.heap.size+1,0,none⟩) hn _).setCell (p:=⟨w.heap.size+1,1,none⟩) hn _).setCell (p:=⟨w.heap.size+1,2,none⟩) hn _).setCell (p:=⟨w.heap.size+1,3,none⟩) hn _,h.fx.trans f1,TrX.mono f1 fun b off k c' e=>?_⟩
 ·have hx:=far b (fun e2=>by rw [e2,hKR] at e;cases e)
  rcases h.kn b ob e with g | ⟨d,d',t,r1,r2,r3⟩
  ·exact .inl (hx.trans g)
  exact .inr ⟨d,d',t,r1,hx.trans r2,r3⟩
 rw [Zg9]
 simp only [Value.slice.injEq] at e
 exact fun i hi=>h.dn i hi hi b off e.1
theorem ren_any (ot:Env ByteArray) (hid:Idem ot) (K:Kn) (hu:UF K) (n0:Nat) (hlow:∀ b,b<n0→K b=none) (To Mo Tr:Nat) (hk:K To=none∧K Mo=none∧K Tr=none):
  ∀ (e:Ex) (u:Value),ExsV K e.l u→e.parts≤1000000000000→∀ (s0:ByteArray),Zdi ot e.op e.s s0→∀ w:World,n0≤w.heap.size→KnM ot K w→RenI ot To Mo Tr w→
  Calls Tryz.prog 49 #[.agg #[.string e.op,.int .i64 e.n,.string s0,u],.pointer (some ⟨To,0,none⟩),.pointer (some ⟨Tr,0,none⟩)] w fun r w'=>r = .returned (.agg #[.string e.op,.int .i64 e.n,.string (rnS ot e.op e.s),u])∧KnM ot K w'∧FrK K w w'∧Below n0 w w'∧FxM ot K w w'∧TrX ot K w' e.l u:=by
 refine Ex.ind fun o n s l ih u hu hp s0 hg w hn hKM hR=>?_
 simp only [Ex.op,Ex.n,Ex.s,Ex.l] at hu hg ⊢
 obtain⟨a,c,rfl⟩:=hu.len
 simp only [Ex.parts] at hp
 have hlp:=Zcb l
 have HU:=Zhd hu
 have IH:=Zhd ih
 have HG:=Zhd hg
 have HRI:=Zhd hR
 have hKM:=Zhd hKM
 have hrun:=fun (w':World) (h:RenI ot To Mo Tr w')=>h.map.run (P:=Tryz.prog) Tryz.underlying111 Tryz.underlying9 (d:=⟨#[]⟩) (by kernel_rfl) s0 true
 simp only [if_true] at hrun
 clear hu ih hg hR
 have hb0:Below w.heap.size w ((w.alloc (.cells #[.string o,.int .i64 n,.string s0,.slice a l.length c] 69)).alloc (.cells #[.string ⟨#[]⟩,.int .i64 0,.string ⟨#[]⟩,.slice none 0 0] 69)):=((Below.refl _ _).alloc (Nat.le_refl _) _).alloc (by simp) _
 have hRI0:=HRI.out.frame (FrK.of_below (K:=K) hb0) hk
 have hl0:=hrun _ hRI0
 have t0:((w.alloc (.cells #[.string o,.int .i64 n,.string s0,.slice a l.length c] 69)).alloc (.cells #[.string ⟨#[]⟩,.int .i64 0,.string ⟨#[]⟩,.slice none 0 0] 69)).cell? ⟨To,0,none⟩=some (.map (some Mo)):=by have h:=hRI0.box;simp [World.cell?,h]
 clear hb0 hrun hRI0
 cases hot:ot s0 with
 | none=>
  rw [hot] at hl0
  simp only [Option.getD_none,Option.isSome_none] at hl0
  have HS1:=Zhd (show s0=rnS ot o s from by
   have h:=HG.out
   unfold Zdi at h
   rw [← h]
   unfold rnS renS
   rw [hot]
   split<;>rfl)
  exact mSlL1
 | some t=>
  rw [hot] at hl0
  simp only [Option.getD_some,Option.isSome_some] at hl0
  by_cases ho:o=Zbg
  ·have t1:(o.toList==[110,97,109,101])=true:=by rw [← dLit];simpa using ho
   have HS1:=Zhd (show t=rnS ot o s from by
    have h:=HG.out
    unfold Zdi at h
    rw [← h]
    unfold rnS renS
    rw [hot,if_pos ho]
    rfl)
   clear ho
   go_enter Tryz.func49,Tryz.ntmps49
   go_wp2_with fail
   have hb1:Below w.heap.size w ((w.alloc (.cells #[.string o,.int .i64 n,.string t,.slice a l.length c] 69)).alloc (.cells #[.string ⟨#[]⟩,.int .i64 0,.string ⟨#[]⟩,.slice none 0 0] 69)):=((Below.refl _ _).alloc (Nat.le_refl _) _).alloc (by simp) _
   have hp1:((w.alloc (.cells #[.string o,.int .i64 n,.string t,.slice a l.length c] 69)).alloc (.cells #[.string ⟨#[]⟩,.int .i64 0,.string ⟨#[]⟩,.slice none 0 0] 69)).heap[w.heap.size]?=some (.cells #[.string o,.int .i64 n,.string t,.slice a l.length c] 69 (0,0)):=by
    rw [Below.heap_alloc _ _ _ (by simp)];exact heap_alloc_new _ _
   have hr1:((w.alloc (.cells #[.string o,.int .i64 n,.string t,.slice a l.length c] 69)).alloc (.cells #[.string ⟨#[]⟩,.int .i64 0,.string ⟨#[]⟩,.slice none 0 0] 69)).heap[w.heap.size+1]?=some (.cells #[.string ⟨#[]⟩,.int .i64 0,.string ⟨#[]⟩,.slice none 0 0] 69 (0,0)):=by
    rw [show w.heap.size+1=(w.alloc (.cells #[.string o,.int .i64 n,.string t,.slice a l.length c] 69)).heap.size from by simp];exact heap_alloc_new _ _
   have HR:=Zhd (show RenW ot K n0 w ((w.alloc (.cells #[.string o,.int .i64 n,.string t,.slice a l.length c] 69)).alloc (.cells #[.string ⟨#[]⟩,.int .i64 0,.string ⟨#[]⟩,.slice none 0 0] 69)) w.heap.size o n t a l c 0 from⟨hb1.mono (by omega),fun b hb _=>hb1.block b hb,hKM.out.below hb1,hp1,hr1,FxM.of_below hKM.out hb1,fun _ _ h=>absurd h (Nat.not_lt_zero _)⟩)
   generalize (w.alloc (.cells #[.string o,.int .i64 n,.string t,.slice a l.length c] 69)).alloc (.cells #[.string ⟨#[]⟩,.int .i64 0,.string ⟨#[]⟩,.slice none 0 0] 69)=W1 at *
   clear hb1 hp1 hr1
   go_loopw [26] (fun i wr=>∃ q:Nat,i = .int .i64 q∧q≤l.length∧RenW ot K n0 w wr w.heap.size o n t a l c q) (fun i _=>l.length - (intOf i).toNat)
   case atStart=>exact⟨0,rfl,Nat.zero_le _,HR.out⟩
   clear HR
   obtain⟨q,rfl,hq,hRW⟩:=hrel
   have HW:=Zhd hRW
   clear hRW
   by_cases hql:q<l.length
   ·obtain⟨b,off,ax,cx,ha,d0,d1,d2,d3,hx⟩:=ExsV.at HU.out hql
    subst ha
    obtain⟨u2,hu2e,hu2⟩:=hx
    cases hu2e
    have hmem:=List.getElem_mem hql
    have hpx:l[q].parts≤1000000000000:=by have:=Za5 l q hql;omega
    obtain⟨s2,hg2,c0,c1,c2,c3⟩:=HW.out.kn.cells d0 d1 d2 d3
    have HD:=Zhd (And.intro d0 (And.intro d1 (And.intro d2 d3)))
    have hRIr:=HRI.out.frame HW.out.frame hk
    have hnr:n0≤wr.drew.heap.size:=Nat.le_trans hn HW.out.below.size
    have hcall:=IH.out l[q] hmem _ hu2 hpx s2 hg2 wr.drew hnr (HW.out.kn.below (Below.refl _ _).drew) (hRIr.frame (FrK.of_below (K:=K) (Below.refl _ _).drew) hk)
    have HC:=Zhd hcall
    have hKB:∀ b,w.heap.size≤b→K b=none:=fun b hb=>by
     cases e:K b with
     | none=>rfl
     | some ob=>have:=hKM.out.lt e;omega
    have b3:wr.drew.cell? ⟨w.heap.size,3,none⟩=some (.slice (some ⟨b,off,none⟩) l.length c):=(Zag HW.out.box).2.2.2.1
    have tr:wr.drew.cell? ⟨Tr,0,none⟩=some (.func (.func 49) #[] #[.pointer (some ⟨To,0,none⟩),.pointer (some ⟨Tr,0,none⟩)]):=by have h:=hRIr.fn;show World.cell? wr _=_;simp [World.cell?,h]
    clear d0 d1 d2 d3 hcall hRIr hu2
    generalize hxq:l[q]=x at *
    have HXQ:=Zhd hxq
    clear hxq
    go_wp2_with fail
    go_region_law (first | (go_simp;go_at_call 49;refine HC.out.mono ?_;rintro r wc ⟨rfl,hk3,hf3,hb3,hm3,ht3⟩;obtain⟨s4,_,e0,e1,e2,e3⟩:=hk3.cells HD.out.1 HD.out.2.1 HD.out.2.2.1 HD.out.2.2.2;have hz0:=hk3.unf hu HD.out.1 (off+q * 4);have hz1:=hk3.unf hu HD.out.1 (off+q * 4+1);have hz2:=hk3.unf hu HD.out.1 (off+q * 4+2);have hz3:=hk3.unf hu HD.out.1 (off+q * 4+3);have hfin:=HW.out.turn hn hlow hu hKB hid hql HXQ.out hf3 hb3 HD.out.1 HD.out.2.1 HD.out.2.2.1 HD.out.2.2.2 hk3 hm3 ht3;have bc3:=(Zag (hfin.2)).2.2.2.1))
    all_goals go_wp2_with fail
    all_goals go_roundw
    all_goals first | exact⟨q+1,by go_num,by omega,hfin.1⟩ | (simp [intOf];omega)
   obtain rfl:q=l.length:=by omega
   have hKR:K (w.heap.size+1)=none:=by
    cases e:K (w.heap.size+1) with
    | none=>rfl
    | some ob=>have:=hKM.out.lt e;omega
   obtain⟨q0,q1,q2,q3,_⟩:=Zag HW.out.box
   obtain⟨r0,r1,r2,r3,f0,f1,f2,f3,_⟩:=Zag HW.out.res
   have HR2:=Zhd (Zdx HW.out.res (.string o) (.int .i64 n) (.string t) (.slice a l.length c))
   have HF:=Zhd (HW.out.fin (by omega) hKR (.string o) (.int .i64 n) (.string t) (.slice a l.length c))
   clear HW
   go_wp2_with fail
   obtain⟨e0,e1,e2,e3,_⟩:=Zag HR2.out
   refine bodyPost_ret (v := .agg #[.string o,.int .i64 n,.string t,.slice a l.length c]) (by simp [results,Tryz.results49,go_sem,e0,e1,e2,e3]) rfl ?_
   exact⟨by rw [← HS1.out],HF.out⟩
  have t1:(o.toList==[110,97,109,101])=false:=Zb4 _ ho
  have HS1:=Zhd (show s0=rnS ot o s from by
   have h:=HG.out.other ho
   rw [h]
   unfold rnS
   rw [if_neg ho])
  clear ho
  exact mSlL1
theorem mSlN1 {p:Prop} (h:p:=by
 go_enter Tryz.func53,Tryz.ntmps53
 go_wp2_with fail
 go_ret
 exact⟨by simp,HB.out⟩):p:=h
def Zd6 (q:Ex→Ex→Bool):List Ex→List Ex→Bool
 | [],[]=>true
 | a :: l,b :: m=>q a b&&Zd6 q l m
 | [],_ :: _=>false
 | _ :: _,[]=>false
theorem zipAll_len {q:Ex→Ex→Bool}:∀ {l m:List Ex},l.length≠m.length→Zd6 q l m=false
 | [],[],h=>absurd rfl h
 | a :: l,b :: m,h=>by
  simp only [Zd6]
  rw [zipAll_len (l:=l) (m:=m) (fun e=>h (by simp [e]))]
  simp
 | [],_ :: _,_=>rfl
 | _ :: _,[],_=>rfl
theorem zipAll_no {q:Ex→Ex→Bool}:∀ {l m:List Ex} (k:Nat) (h:k<l.length) (h2:k<m.length),q l[k] m[k]=false→Zd6 q l m=false
 | a :: l,b :: m,0,_,_,e=>by
  simp only [List.getElem_cons_zero] at e
  simp only [Zd6,e,Bool.false_and]
 | a :: l,b :: m,k+1,h,h2,e=>by
  simp only [List.getElem_cons_succ] at e
  simp only [Zd6]
  rw [zipAll_no k (by simpa using h) (by simpa using h2) e,Bool.and_false]
theorem zipAll_yes {q:Ex→Ex→Bool}:∀ {l m:List Ex},l.length=m.length→(∀ k (h:k<l.length) (h2:k<m.length),q l[k] m[k]=true)→Zd6 q l m=true
 | [],[],_,_=>rfl
 | a :: l,b :: m,h,hq=>by
  simp only [Zd6]
  rw [show q a b=true from hq 0 (by simp) (by simp),zipAll_yes (by simpa using h) (fun k h1 h2=>hq (k+1) (by simpa using h1) (by simpa using h2))]
  rfl
theorem alikeL_zip:∀ (l m:List Ex),Zgo l m=Zd6 Zcf l m
 | [],[]=>by simp only [Zgo,Zd6]
 | a :: l,b :: m=>by simp only [Zgo,Zd6];rw [alikeL_zip l m]
 | [],_ :: _=>by simp only [Zgo,Zd6]
 | _ :: _,[]=>by simp only [Zgo,Zd6]
theorem eqF_any (k:Nat) (hen:Zdr Tryz.prog k) (H:Kn) (q:Ex→Ex→Bool) (l m:List Ex) (v v2:Value)
  (hp:∀ e∈l,∀ e2 v v2,ExV H e v→ExV H e2 v2→∀ w,H.In w→Calls Tryz.prog k #[v,v2] w fun r w'=>r = .returned (.bool (q e e2))∧Below w.heap.size w w')
  (hv:ExsV H l v) (hv2:ExsV H m v2) (w:World) (hH:H.In w):
  Calls Tryz.prog 89 #[v,v2,.func (.func k) #[] #[]] w fun r w'=>r = .returned (.bool (Zd6 q l m))∧Below w.heap.size w w':=by
 have HP:=Zhd hp
 clear hp
 unfold Zdr at hen
 by_cases hlm:l.length=m.length
 ·by_cases hne:l=[]
  ·subst hne
   obtain rfl:m=[]:=List.eq_nil_of_length_eq_zero hlm.symm
   obtain⟨a,c,rfl⟩:=hv.len
   obtain⟨a2,c2,rfl⟩:=hv2.len
   clear hv hv2 hlm
   go_enter Tryz.func89,Tryz.ntmps89
   go_wp2_with fail
   go_rounds 1
   all_goals go_ret
   exact⟨rfl,Below.refl _ _⟩
  have hne2:m≠[]:=fun e=>hne (List.eq_nil_of_length_eq_zero (by rw [hlm,e];rfl))
  obtain⟨b,off,c,rfl,h1,h2,hc⟩:=hv.cell hne
  obtain⟨b2,off2,c2,rfl,h3,h4,hd⟩:=hv2.cell hne2
  have HC:=Zhd hc
  have HD:=Zhd hd
  have HLM:=Zhd hlm
  rw [← hlm] at h3 ⊢
  clear hc hd hv hv2 hlm
  have hlt:l.length≤9223372036854775807:=by unfold maxLen at h2;omega
  go_enter Tryz.func89,Tryz.ntmps89
  go_wp2_with fail
  go_loopw [17] (fun i wr=>∃ k:Nat,i = .int .i64 k∧k≤l.length∧Below w.heap.size w wr∧(∀ i (hi:i<l.length) (hi2:i<m.length),i<k→q l[i] m[i]=true)) (fun i _=>l.length - (intOf i).toNat)
  case atStart=>exact⟨0,rfl,Nat.zero_le _,Below.refl _ _,fun i _ _ h=>by omega⟩
  obtain⟨k',rfl,hk,hb,hn⟩:=hrel
  have HN:=Zhd hn
  have HB:=Zhd hb
  clear hn
  by_cases hkl:k'<l.length
  ·have hkm:k'<m.length:=by have:=HLM.out;omega
   obtain⟨ax,cx,c0,c1,c2,c3,hx⟩:=HC.out k' hkl
   obtain⟨ay,cy,d0,d1,d2,d3,hy⟩:=HD.out k' hkm
   have hHr:=hH.below hb
   have c0:=hHr.cell c0
   have c1:=hHr.cell c1
   have c2:=hHr.cell c2
   have c3:=hHr.cell c3
   have d0:=hHr.cell d0
   have d1:=hHr.cell d1
   have d2:=hHr.cell d2
   have d3:=hHr.cell d3
   have hmem:=List.getElem_mem hkl
   obtain⟨x,hxe⟩:∃ x,l[k']=x:=⟨_,rfl⟩
   obtain⟨y,hye⟩:∃ y,m[k']=y:=⟨_,rfl⟩
   have HXE:=Zhd hxe
   have HYE:=Zhd hye
   rw [hxe] at c0 c1 c2 c3 hx hmem
   rw [hye] at d0 d1 d2 d3 hy
   have HX:=Zhd hx
   have HY:=Zhd hy
   have HHR:=Zhd hHr
   clear hxe hye hx hy hHr hb
   have hbl:b<wr.heap.size:=World.block_lt_of_cell? wr _ c0
   have hbl2:b2<wr.heap.size:=World.block_lt_of_cell? wr _ d0
   go_wp2_with fail
   refine (HP.out x hmem y _ _ HX.out HY.out _ ((HHR.out.alloc _).alloc _)).mono ?_
   rintro r w2 ⟨rfl,hb2⟩
   have HW2:=Zhd (show Below w.heap.size w w2 from HB.out.trans (((((Below.refl wr.heap.size wr).alloc (Nat.le_refl _) _).alloc (by simp) _).trans (hb2.mono (by simp;omega))).mono HB.out.size))
   clear hb2
   cases he:q x y
   ·have HX2:=Zhd (zipAll_no (q:=q) k' hkl hkm (by rw [HXE.out,HYE.out];exact he))
    go_wp2_with fail
    go_ret
    exact⟨Zb6 HX2.out.symm,HW2.out⟩
   have HX2:=Zhd fun i (hi:i<l.length) (hi2:i<m.length) (hik:i<k'+1)=>(show q l[i] m[i]=true from by
    by_cases hik':i<k'
    ·exact HN.out i hi hi2 hik'
    obtain rfl:i=k':=by omega
    rw [HXE.out,HYE.out];exact he)
   go_wp2_with fail
   go_roundw
   case rel=>exact⟨k'+1,by go_num,by omega,HW2.out,HX2.out⟩
   simp [intOf];omega
  go_wp2_with fail
  go_ret
  exact⟨Zb6 (zipAll_yes HLM.out fun i hi h2=>HN.out i hi h2 (by omega)).symm,hb⟩
 obtain⟨a,c,rfl⟩:=hv.len
 obtain⟨a2,c2,rfl⟩:=hv2.len
 have hz:Zd6 q l m=false:=zipAll_len hlm
 have hne:((l.length:Int)==(m.length:Int))=false:=by simp;omega
 rw [hz]
 clear hv hv2 hz
 go_enter Tryz.func89,Tryz.ntmps89
 go_wp2_with fail
 go_ret
 exact⟨rfl,Below.refl _ _⟩
theorem alike_any:∀ (e:Ex),e.parts≤1000000000000→∀ (H:Kn) (e2:Ex) (v v2:Value),ExV H e v→ExV H e2 v2→∀ w:World,H.In w→
  Calls Tryz.prog 53 #[v,v2] w fun r w'=>r = .returned (.bool (Zcf e e2))∧Below w.heap.size w w':=by
 refine Ex.ind fun o n s l ih hp H e2 v v2 hv hv2 w hH=>?_
 obtain⟨o2,n2,s2,l2⟩:=e2
 obtain⟨u,rfl,hu⟩:=hv
 obtain⟨u2,rfl,hu2⟩:=hv2
 simp only [Ex.op,Ex.n,Ex.s,Ex.l,Ex.parts] at hu hu2 hp ⊢
 have hb:Below w.heap.size w ((w.alloc (.cells #[.string o,.int .i64 n,.string s,u] 69)).alloc (.cells #[.string o2,.int .i64 n2,.string s2,u2] 69)):=((Below.refl _ _).alloc (Nat.le_refl _) _).alloc (by simp) _
 have hcall:=eqF_any 53 (fun _ _=>by kernel_rfl) H Zcf l l2 u u2 (fun e he e2 v v2 h1 h2 w hw=>ih e he (by have:=Zc3 he;omega) H e2 v v2 h1 h2 w hw) hu hu2 _ (hH.below hb)
 have hd:Zcf (.mk o n s l) (.mk o2 n2 s2 l2)=(decide (o=o2)&&decide (n=n2)&&decide (s=s2)&&Zd6 Zcf l l2):=by simp only [Zcf,alikeL_zip]
 rw [hd]
 have HB:=Zhd hb
 have HC:=Zhd hcall
 obtain⟨a,c,rfl⟩:=hu.len
 obtain⟨a2,c2,rfl⟩:=hu2.len
 clear hb hu hu2 hcall hd ih
 generalize Zd6 Zcf l l2=bb at *
 have hs:decide (n=n2)=(n==n2):=by by_cases h:n=n2<;>simp [h]
 rw [← Zeb,← Zeb,hs]
 clear hs
 rcases Bool.eq_false_or_eq_true (o.toList==o2.toList) with p1 | p1
 ·rcases Bool.eq_false_or_eq_true (n==n2) with p2 | p2
  ·rcases Bool.eq_false_or_eq_true (s.toList==s2.toList) with p3 | p3
   ·rw [p1,p2,p3]
    go_enter Tryz.func53,Tryz.ntmps53
    go_wp2_with fail
    refine HC.out.mono ?_
    rintro r w2 ⟨rfl,hb2⟩
    go_wp2_with fail
    go_ret
    exact⟨by simp,HB.out.trans (hb2.mono HB.out.size)⟩
   rw [p1,p2,p3]
   exact mSlN1
  rw [p1,p2]
  exact mSlN1
 rw [p1]
 exact mSlN1
end Go.Proofs.YtofameafdnkijaaGreatDoor
