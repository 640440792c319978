/- A machine behind good inputs; a World's one instant, told. -/
import Derived.Test.YtgoccoldkfpbgaaGreatDoorWl
import Derived.Test.YtgoccoldkfpbgaaGreatDoorOn
import Derived.Test.YtgoccoldkfpbgaaGreatDoorWn
import Derived.Test.YtgoccoldkfpbgaaGreatDoorNu
set_option linter.all false
namespace Go.Proofs.YtgoccoldkfpbgaaGreatDoor
open Go.RowKit Mx
theorem memNL_parts:∀ l:List Ex,Zam l≤Ex.partsL l:=fun l=>by
 have hE:∀ e:Ex,memN e≤e.parts:=by
  refine Ex.ind fun o n s l ih=>?_
  have hL:∀ (l:List Ex),(∀ e∈l,memN e≤e.parts)→Zam l≤Ex.partsL l:=by
   intro l
   induction l with
   | nil=>intro _;simp [Zam]
   | cons e l ihl=>
    intro hh
    simp only [Zam,Ex.partsL]
    have h1:=hh e (List.mem_cons_self ..)
    have h2:=ihl fun y hy=>hh y (List.mem_cons_of_mem _ hy)
    omega
  have:=hL l ih
  rw [Zgw]
  simp only [Ex.parts]
  split<;>omega
 induction l with
 | nil=>simp [Zam]
 | cons e l ihl=>
  simp only [Zam,Ex.partsL]
  have:=hE e
  omega
theorem runE_le (p:Pr) (ins:List (List Vl)) (ni:Int):(runE p ins ni).1≤9∧((runE p ins ni).2 ≠ -1→1≤(runE p ins ni).1):=by
 unfold runE
 split
 ·exact checkM_le p
 split
 ·exact⟨by decide,fun _=>by decide⟩
 split
 ·exact⟨by simp,fun _=>by simp⟩
 exact⟨by simp,fun h=>absurd rfl h⟩
theorem Zfh {p:Pr} {ins:List (List Vl)} {ni:Int} (h:(runE p ins ni).1=0):runE p ins ni=(0, -1):=by
 obtain⟨h0,h1,h2,h3⟩:=Ze0 h
 exact runE_of h0 h1 h2 h3
def sgM (R:REnv) (c:Cd) (m0:List Vl) (good:List (List Vl)) (t:Bool):Mc:=⟨decide (good.length=0),memS R c m0 (fun i=>good.getD i []) good.length,t⟩
theorem sg_trapped (R:REnv) (c:Cd) (ins:List Vr) (m0:List Vl) (good:List (List Vl)) (x:List Vl):Zc3 R c ins (sgM R c m0 good true) x=(0,trapT,sgM R c m0 good true):=by simp [Zc3,sgM]
theorem sg_bad (R:REnv) (c:Cd) {ins:List Vr} (m0:List Vl) (good:List (List Vl)) {x:List Vl} (h:Zav ins x x.length=false):Zc3 R c ins (sgM R c m0 good false) x=(5,noT,sgM R c m0 good false):=by simp [Zc3,sgM,h]
theorem step_ok (R:REnv) (c:Cd) {ins:List Vr} (f:Bool) (m:List Vl) {v:List Vl} (h:Zav ins v v.length=true):Zc3 R c ins ⟨f,m,false⟩ v=if (Zco R c f m v).1.trap=true then (0,(Zco R c f m v).1,⟨f,m,true⟩) else (0,(Zco R c f m v).1,⟨false,(Zco R c f m v).2,false⟩):=by
 unfold Zc3
 rw [if_neg (by simp),if_pos h]
theorem sg_right {y:WdW} (hp:WdP y) {good:List (List Vl)} {v:List Vl} (hx:y.ins=good++[v]) (hr:Zav y.p.ins v v.length=true):
  Zc3 y.R (cdOf y.p y.ord) y.p.ins (sgM y.R (cdOf y.p y.ord) (Zbb y.R (Zab 0 y.p.terms)) good false) v=
   (0,Zdq y.R y.inp y.fv y.p good.length,if (Zdq y.R y.inp y.fv y.p good.length).trap=true then sgM y.R (cdOf y.p y.ord) (Zbb y.R (Zab 0 y.p.terms)) good true else sgM y.R (cdOf y.p y.ord) (Zbb y.R (Zab 0 y.p.terms)) (good++[v]) false):=by
 obtain⟨h1,h2⟩:=step_wd hp hx
 have hinp:y.inp=fun i=>(good++[v]).getD i []:=by funext i;unfold WdW.inp;rw [hx]
 unfold sgM
 rw [step_ok _ _ _ _ hr,h1]
 by_cases ht:(Zdq y.R y.inp y.fv y.p good.length).trap=true
 ·rw [if_pos ht,if_pos ht]
 rw [if_neg ht,if_neg ht,h2 (by simpa using ht),← hinp]
 have:decide ((good++[v]).length=0)=false:=decide_eq_false (by simp)
 rw [this]
theorem sg_code (R:REnv) (c:Cd) {ins:List Vr} (m0:List Vl) (good:List (List Vl)) {x:List Vl} (h:Zav ins x x.length=true):(Zc3 R c ins (sgM R c m0 good false) x).1=0:=by
 unfold sgM
 rw [step_ok _ _ _ _ h]
 split<;>rfl
section
variable {H : Kn} {p : Pr} {vi vo vl va vc : Value} (hp : PrP H p vi vo vl va vc) (hck : (Za2 p).1 = 0) {ks : Env Int} (hks : Zap Env.none p.vars = some ks) {ord : List Nat} (ho : Zbf p = .ok ord) (hsz : p.fl.length ≤ 400 ∧ Ex.partsL p.terms ≤ 4000 ∧ p.ins.length ≤ 1000) (hos : p.outs.length ≤ 1000000)
 (nb:Bool) (ni:Int) (hni : -128≤ni∧ni≤127) {R:REnv} (hR:R=⟨ks,Zac p,getI (Zai p),nb,ni⟩)
include hp hck hks ho hsz hos hni hR
theorem state_sg {K:Kn} (hle:H.le K) {good:List (List Vl)} {vg:Value} (hgl:good.length≤1000) (hg:InsV K good vg) (hr:∀ l∈good,Zav p.ins l l.length=true) (t:Bool) {w:World} (hK:K.In w):
  Calls Tryz.prog 20 #[.agg #[vi,vo,vl,va,vc],vg,.bool nb,.int .i64 ni] w fun r w'=>∃ v,r = .returned v∧VlsV (Zag w') (stateM (sgM R (cdOf p ord) (Zbb R (Zab 0 p.terms)) good t)) v∧Below w.heap.size w w':=by
 subst hR
 exact stateOf_any K p vi vo vl va vc (hp.le hle) hck hks ho hsz hos good vg hgl hg hr nb ni hni w hK
theorem instant_sg {K:Kn} (hle:H.le K) {good:List (List Vl)} {x:List Vl} {vg:Value} (hgl:good.length+1≤1000) (hg:InsV K (good++[x]) vg) (hr:∀ l∈good,Zav p.ins l l.length=true) (hx:Zav p.ins x x.length=true) {w:World} (hK:K.In w):
  Calls Tryz.prog 25 #[.agg #[vi,vo,vl,va,vc],vg,.bool nb,.int .i64 ni] w fun r w2=>∃ (b:Nat) (tk:Tk),r = .returned (ptrV b)∧Below w.heap.size w w2∧
   Zc3 R (cdOf p ord) p.ins (sgM R (cdOf p ord) (Zbb R (Zab 0 p.terms)) good false) x=(0,tk,if tk.trap=true then sgM R (cdOf p ord) (Zbb R (Zab 0 p.terms)) good true else sgM R (cdOf p ord) (Zbb R (Zab 0 p.terms)) (good++[x]) false)∧
   Calls Tryz.prog 26 #[ptrV b,.int .i64 good.length] w2 fun r w3=>∃ ov cv,r = .returned (.agg #[ov,.bool tk.asrt,.bool tk.trap,cv])∧Below w.heap.size w w3∧TkV (Zag w3) tk ov cv:=by
 have hr2:∀ l∈good++[x],Zav p.ins l l.length=true:=fun l hl=>by
  rcases List.mem_append.1 hl with h | h
  ·exact hr l h
  rw [List.mem_singleton.1 h];exact hx
 refine (Zf6 K p vi vo vl va vc (hp.le hle) hck hks ho hsz hos (good++[x]) vg (by simpa using hgl) hg hr2 nb ni hni w hK).mono ?_
 rintro r w2 ⟨y,K2,rfl,⟨rfl,rfl,rfl,rfl,rfl,hy⟩,hP,hok,hs,hle2,⟨hxB,hxD,hxbase⟩,hb2⟩
 have hRy:R=y.R:=hR
 subst hRy
 have hbase:=hb2.size
 refine⟨y.B,Zdq y.R y.inp y.fv y.p good.length,rfl,hb2,sg_right hP hy hx,?_⟩
 refine (wtick_any hP (i:=good.length) (by rw [hy];simp) K2 hok w2 _ _ _ hs).mono ?_
 rintro r w3 ⟨T',u',kl',ov,cv,rfl,hN,h1,h2⟩
 exact⟨ov,cv,rfl,hb2.trans (hN.gr.below hbase hxB hxD (by omega)),SlV.le h1 (Zht _ _ _) VlC.mono,SlV.le h2 (Zht _ _ _) BlC.mono⟩
end
theorem tks_one {W:World} {b:Nat} {t:Tk} {o c:Value} {TT:TypeId} (hb:W.heap[b]?=some (.cells #[o,.bool t.asrt,.bool t.trap,c] TT (0,0))) (h:TkV (Zag W) t o c):TksV (Zag W) [t] (.slice (some ⟨b,0,none⟩) 1 1):=by
 obtain⟨c0,c1,c2,c3,_,_⟩:=Zb0 hb
 refine .inr ⟨b,0,1,rfl,by simp,by unfold maxLen;omega,fun i hi=>?_⟩
 obtain rfl:i=0:=by simpa using hi
 exact⟨o,c,by show (Zag W).cell _ _=_;rw [Zad];exact c0,by show (Zag W).cell _ _=_;rw [Zad];exact c1,by show (Zag W).cell _ _=_;rw [Zad];exact c2,by show (Zag W).cell _ _=_;rw [Zad];exact c3,h⟩
theorem tks_at {K:Kn} {t:Tk} {v:Value} (h:TksV K [t] v):∃ b off c o k,v = .slice (some ⟨b,off,none⟩) 1 c∧K.cell b off=some o∧K.cell b (off+1)=some (.bool t.asrt)∧K.cell b (off+2)=some (.bool t.trap)∧K.cell b (off+3)=some k∧TkV K t o k:=by
 obtain⟨a,c,rfl⟩:=h.len
 obtain⟨b,off,rfl,_,o,k,h0,h1,h2,h3,h4⟩:=SlV.at h (i:=0) (by simp)
 exact⟨b,off,c,o,k,rfl,by simpa using h0,by simpa using h1,by simpa using h2,by simpa using h3,by simpa using h4⟩
theorem app_good {K:Kn} {w:World} (hK:K.In w) {good:List (List Vl)} {a:Option Addr} {c:Nat} (h:InsV K good (.slice a good.length c)) (x:List Vl) (hl:good.length≤1000000):
  ∃ v W xs,(∀ ty,(Builtin.append_ #[28,28] ty #[.slice none 0 0,.slice a good.length c]).run Tryz.prog w = .ok v W)∧RwO 57 1 IsX K w W w.heap.size (good++[x]) good.length v xs K:=by
 obtain⟨v,W,ys,h1,h2,h3,h4⟩:=run_app_ins hK h (World.ownsRow_nil w w.heap.size 57 1) (Nat.le_refl _) (by omega)
 have hno:∀ g,(Value.slice none 0 0).ownBlock=some g→K g=none:=fun g hg=>by simp [Value.ownBlock] at hg
 refine⟨v,W,[]++ys,h2,⟨Kn.le_refl K,fun _ _=>rfl,hK.grown h4 hno,(Below.refl _ _).grown h4 (Nat.le_refl _) (fun g hg=>by simp [Value.ownBlock] at hg),h4.size,by simpa using h3,?_,fun g hg=>hK.isNone (h3.lt g hg).1⟩⟩
 rw [List.take_append_of_le_length (Nat.le_refl _),List.take_of_length_le (Nat.le_refl _)]
 exact h1
end Go.Proofs.YtgoccoldkfpbgaaGreatDoor
