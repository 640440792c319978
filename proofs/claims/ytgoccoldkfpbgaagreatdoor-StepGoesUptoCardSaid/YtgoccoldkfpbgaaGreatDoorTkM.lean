/- The state of flow.Code.Tick: an instant, its row of values, what is told: no function of the program in sight. -/
import Derived.Test.YtgoccoldkfpbgaaGreatDoorRg
import Derived.Test.YtgoccoldkfpbgaaGreatDoorCpM
import Derived.Test.YtgoccoldkfpbgaaGreatDoorEv
import Derived.Test.YtgoccoldkfpbgaaGreatDoorOrd
set_option linter.all false
namespace Go.Proofs.YtgoccoldkfpbgaaGreatDoor
open Go.RowKit Mx
theorem cd_terms {p:Pr} {ord:List Nat} {x:Ex×Nat} (h:x∈(cdOf p ord).fs∨x∈(cdOf p ord).av∨x∈(cdOf p ord).cv):x.1∈p.terms∧x.2+memN x.1≤Zam p.terms:=by
 have ht:Zam p.terms=Zam (p.fl.map (·.e))+Zam p.as+Zam p.cs:=by unfold Pr.terms;rw [Zcb,Zcb]
 simp only [cdOf] at h
 rcases h with h | h | h
 ·have h1:=Zev h
  have h2:=Zgg _ _ x h
  exact⟨List.mem_append_left _ (List.mem_append_left _ h1),by omega⟩
 ·have h1:=Zev h
  have h2:=Zgg _ _ x h
  exact⟨List.mem_append_left _ (List.mem_append_right _ h1),by omega⟩
 have h1:=Zev h
 have h2:=Zgg _ _ x h
 exact⟨List.mem_append_right _ h1,by omega⟩
mutual
theorem memNds_parts:∀ (e:Ex) (m:Nat),∀ x∈Zbs m e,x.1.parts≤e.parts
 | .mk o n s l,m,x,h=>by
  simp only [Zbs,List.mem_append] at h
  rcases h with h | h
  ·have:=Zfk l m x h
   simp only [Ex.parts]
   omega
  split at h
  ·rw [List.mem_singleton.1 h];exact Nat.le_refl _
  cases h
theorem Zfk:∀ (l:List Ex) (m:Nat),∀ x∈Zab m l,x.1.parts≤Ex.partsL l
 | [],m,x,h=>by simp [Zab] at h
 | e :: l,m,x,h=>by
  simp only [Zab,List.mem_append] at h
  simp only [Ex.partsL]
  rcases h with h | h
  ·have:=memNds_parts e m x h
   omega
  have:=Zfk l (m+memN e) x h
  omega
end
theorem Zi1 {α:Type}:∀ (l:List α) (d:α) (k:Nat) (h:k<l.length),l.length=k+1→l.getLastD d=l[k]∧l.dropLast=l.take k:=fun l d k h hk=>by
 have h1:l≠[]:=fun e=>by rw [e] at h;simp at h
 refine⟨?_,?_⟩
 ·rw [List.getLastD_eq_getLast?,List.getLast?_eq_getElem?,show l.length - 1=k from by omega,List.getElem?_eq_getElem h];rfl
 rw [List.dropLast_eq_take,show l.length - 1=k from by omega]
theorem ms_last {ks:Env Int} {p:Pr} (hf:∀ e∈p.terms,Zaf ks e=true) {x:Ex×Nat} (h:x∈Zab 0 p.terms):
  ∃ k,k≤1∧x.1.l.length=k+1∧∀ hk:k<x.1.l.length,Zdl x=(x.1.l[k],x.2+Zam (x.1.l.take k))∧Zaf ks x.1.l[k]=true∧x.1.l[k].parts≤Ex.partsL p.terms∧x.2+Zam (x.1.l.take k)+memN x.1.l[k]≤Zam p.terms:=by
 obtain⟨f1,f2⟩:=Zdw ks p.terms hf 0 x h
 have f3:=Zhk p.terms 0 x h
 have f4:=Zfk p.terms 0 x h
 obtain⟨⟨o,n,s,l⟩,m⟩:=x
 simp only [Ex.op,Ex.l,memN] at f2 f3 f4 ⊢
 obtain⟨hsub,hfby,_,hpre,_⟩:=Zax f1
 have hl:∃ k,k≤1∧l.length=k+1:=by
  rcases f2 with e | e
  ·exact⟨0,by omega,hpre e⟩
  exact⟨1,by omega,hfby e⟩
 obtain⟨k,hk1,hk⟩:=hl
 rw [if_pos f2] at f3
 refine⟨k,hk1,hk,fun hkl=>?_⟩
 obtain⟨g1,g2⟩:=Zi1 l (.mk o n s l) k hkl hk
 have t1:=Zdk l k hkl
 have t2:=Zca l (k+1)
 have t3:=Zau l k hkl
 simp only [Ex.parts] at f4
 refine⟨?_,hsub _ (List.getElem_mem hkl),by omega,by omega⟩
 unfold Zdl
 simp only [Ex.l]
 rw [g1,g2]
theorem vlX_set:∀ (l:List Vl) (k:Nat) (x:Vl),k<l.length→((vlX l).toArray.setIfInBounds (2 * k) (.int .i64 x.kind)).setIfInBounds (2 * k+1) (.int .i64 x.n)=(vlX (l.set k x)).toArray:=by
 intro l k x hk
 apply Array.ext'
 simp only [Array.toList_setIfInBounds]
 induction l generalizing k with
 | nil=>simp at hk
 | cons y l ih=>
  cases k with
  | zero=>simp [vlX]
  | succ k=>
   have:=ih k (by simpa using hk)
   simp only [vlX,List.flatMap_cons,List.set_cons_succ] at this ⊢
   rw [show 2 * (k+1)+1=(2 * k+1)+1+1 from by omega,show 2 * (k+1)=2 * k+1+1 from by omega]
   simp only [List.cons_append,List.nil_append,List.set_cons_succ]
   rw [this]
theorem vlX_zero (n:Nat):madeCells #[.int .i64 0,.int .i64 0] (n * 2)=(vlX (List.replicate n vz)).toArray:=by
 apply Array.ext_getElem?
 intro i
 have hl:(vlX (List.replicate n vz)).length=2 * n:=by rw [Zip,List.length_replicate]
 by_cases hi:i<2 * n
 ·have h2:i / 2<(List.replicate n vz).length:=by simp;omega
  obtain⟨x0,x1⟩:=Zeb (List.replicate n vz) (i / 2) h2
  rw [List.getElem_replicate] at x0 x1
  have hi2:i<n * 2:=by omega
  have hr:(Array.range (n * 2))[i]?=some i:=by simp [hi2]
  have hm:(madeCells #[.int .i64 0,.int .i64 0] (n * 2))[i]?=some (.int .i64 0):=by
   rcases Nat.mod_two_eq_zero_or_one i with h | h<;>simp [madeCells,hi2,h]
  rw [hm,List.getElem?_toArray]
  rcases Nat.mod_two_eq_zero_or_one i with h | h
  ·rw [show 2 * (i / 2)=i from by omega] at x0
   exact x0.symm
  rw [show 2 * (i / 2)+1=i from by omega] at x1
  exact x1.symm
 rw [Array.getElem?_eq_none (by simp [madeCells];omega),Array.getElem?_eq_none (by simp [hl];omega)]
theorem run_make_vals {P:Program} (t e:TypeId) (ht:P.underlying t=some (.slice e)) (hinfo:(P.info? e).map (fun i=>(i.zero,i.size,i.bytes))=some (some (.agg #[.int .i64 0,.int .i64 0]),2,16)) (n:Nat) (hn:n≤1000000000) (w:World):
  (Instr.makeSlice t (.int .i64 (n:Int)) (.int .i64 (n:Int))).run P w = .ok (.slice (some ⟨w.heap.size,0,none⟩) n n) (w.alloc (.cells (vlX (List.replicate n vz)).toArray e)):=by
 obtain⟨i,hi,hz,hs,hb⟩:=info_parts hinfo
 have hr:=run_make (P:=P) w t e i _ ht hi hz .i64 .i64 n n (by omega) (Int.le_refl _) (by rw [hb];omega) (by omega)
 simp only [Int.toNat_natCast,hs] at hr
 rw [← vlX_zero]
 exact hr
theorem vls_of_block {K:Kn} {NW:Nat} {T:TypeId} {fr:Nat×Nat} {l:List Vl} (h:K NW=some (.cells (vlX l).toArray T fr)) (hl:l.length≤maxLen):VlsV K l (.slice (some ⟨NW,0,none⟩) l.length l.length):=by
 by_cases h0:l=[]
 ·subst h0;exact .inl ⟨rfl,_,_,rfl⟩
 refine .inr ⟨NW,0,l.length,rfl,Nat.le_refl _,hl,fun i hi=>?_⟩
 obtain⟨x0,x1⟩:=Zeb l i hi
 have hc:∀ j,K.cell NW j=(vlX l)[j]?:=fun j=>by unfold Kn.cell;rw [h];simp
 refine⟨?_,?_⟩
 ·show K.cell NW (0+i * 2+0)=_
  rw [hc,show 0+i * 2+0=2 * i from by omega];exact x0
 show K.cell NW (0+i * 2+1)=_
 rw [hc,show 0+i * 2+1=2 * i+1 from by omega];exact x1
theorem Zb0 {W:World} {b:Nat} {x y z u:Value} {t:TypeId} (h:W.heap[b]?=some (.cells #[x,y,z,u] t (0,0))):
  W.cell? ⟨b,0,none⟩=some x∧W.cell? ⟨b,1,none⟩=some y∧W.cell? ⟨b,2,none⟩=some z∧W.cell? ⟨b,3,none⟩=some u∧(∀ i,i<4→W.frozen? ⟨b,i,none⟩=false)∧b<W.heap.size:=
 ⟨by simp [World.cell?,h],by simp [World.cell?,h],by simp [World.cell?,h],by simp [World.cell?,h],fun i _=>by simp [World.frozen?,h],(Zlt h)⟩
def put4 (W:World) (b:Nat) (x y z u:Value):World:=(((W.setCell ⟨b,0,none⟩ x).setCell ⟨b,1,none⟩ y).setCell ⟨b,2,none⟩ z).setCell ⟨b,3,none⟩ u
theorem Zdv {W:World} {b:Nat} {x y z u:Value} {t:TypeId} (h:W.heap[b]?=some (.cells #[x,y,z,u] t (0,0))) (x' y' z' u':Value):(put4 W b x' y' z' u').heap[b]?=some (.cells #[x',y',z',u'] t (0,0)):=by
 unfold put4
 have h1:=Zaa W b 0 x' _ _ _ h
 have h2:=Zaa _ b 1 y' _ _ _ h1
 have h3:=Zaa _ b 2 z' _ _ _ h2
 have h4:=Zaa _ b 3 u' _ _ _ h3
 rw [h4];rfl
theorem Zgq {W:World} {b:Nat} (x y z u:Value) {i:Nat} (hi:i≠b):(put4 W b x y z u).heap[i]?=W.heap[i]?:=by
 unfold put4
 rw [Below.heap_setCell _ ⟨b,3,none⟩ _ i hi,Below.heap_setCell _ ⟨b,2,none⟩ _ i hi,Below.heap_setCell _ ⟨b,1,none⟩ _ i hi,Below.heap_setCell _ ⟨b,0,none⟩ _ i hi]
theorem Zgr {base b:Nat} {w W:World} (h:Below base w W) (hb:base≤b) (x y z u:Value):Below base w (put4 W b x y z u):=
 (((h.setCell (p:=⟨b,0,none⟩) hb x).setCell (p:=⟨b,1,none⟩) hb y).setCell (p:=⟨b,2,none⟩) hb z).setCell (p:=⟨b,3,none⟩) hb u
structure TkS (IT VT DT:TypeId) (R:REnv) (r:Inst) (H:Kn) (w0 wr:World) (I NW RC:Nat) (cp vm vi:Value) (n:Nat) (t:Bool):Prop where
 isin:H.In wr
 below:Below w0.heap.size w0 wr
 inst:wr.heap[I]?=some (.cells (Zci cp R r vm vi (.slice (some ⟨NW,0,none⟩) n n) t) IT (0,0))
 now:wr.heap[NW]?=some (.cells (vlX r.now).toArray VT (0,0))
 res:wr.heap[RC]?=some (.cells #[.slice none 0 0,.bool false,.bool false,.slice none 0 0] DT (0,0))
 len:r.now.length=n
 hn:n≤1000000000
 apart:NW≠I∧RC≠I∧RC≠NW∧w0.heap.size≤NW∧w0.heap.size≤I∧w0.heap.size≤RC
 low:H.In w0
section
variable {IT VT DT : TypeId} {R : REnv} {r : Inst} {H : Kn} {w0 wr : World} {I NW RC : Nat} {cp vm vi : Value} {n : Nat} {t : Bool}
theorem TkS.noI (h:TkS IT VT DT R r H w0 wr I NW RC cp vm vi n t):H I=none:=h.low.isNone h.apart.2.2.2.2.1
theorem TkS.noW (h:TkS IT VT DT R r H w0 wr I NW RC cp vm vi n t):H NW=none:=h.low.isNone h.apart.2.2.2.1
theorem TkS.noR (h:TkS IT VT DT R r H w0 wr I NW RC cp vm vi n t):H RC=none:=h.low.isNone h.apart.2.2.2.2.2
theorem TkS.next {w':World} (h:TkS IT VT DT R r H w0 wr I NW RC cp vm vi n t) (hb:Below wr.heap.size wr w'):TkS IT VT DT R r H w0 w' I NW RC cp vm vi n t:=
 ⟨h.isin.below hb,h.below.trans (hb.mono h.below.size),by rw [hb.block I (Zlt h.inst)];exact h.inst,by rw [hb.block NW (Zlt h.now)];exact h.now,by rw [hb.block RC (Zlt h.res)];exact h.res,h.len,h.hn,h.apart,h.low⟩
theorem TkS.alloc (h:TkS IT VT DT R r H w0 wr I NW RC cp vm vi n t) (o:Obj):TkS IT VT DT R r H w0 (wr.alloc o) I NW RC cp vm vi n t:=h.next ((Below.refl _ _).alloc (Nat.le_refl _) o)
theorem TkS.c (h:TkS IT VT DT R r H w0 wr I NW RC cp vm vi n t) (i:Nat):wr.cell? ⟨I,i,none⟩=(Zci cp R r vm vi (.slice (some ⟨NW,0,none⟩) n n) t)[i]?:=by
 have hb:=h.inst
 simp [World.cell?,hb]
theorem TkS.kn (h:TkS IT VT DT R r H w0 wr I NW RC cp vm vi n t):H.le (noKn I wr)∧VlsV (noKn I wr) r.now (.slice (some ⟨NW,0,none⟩) n n):=by
 refine⟨Zf4 h.isin h.noI,?_⟩
 have hb:(noKn I wr) NW=some (.cells (vlX r.now).toArray VT (0,0)):=by unfold noKn;rw [if_neg h.apart.1];exact h.now
 have:=vls_of_block hb (by rw [h.len];have:=h.hn;unfold maxLen;omega)
 rw [h.len] at this
 exact this
theorem TkS.evald {w':World} (h:TkS IT VT DT R r H w0 wr I NW RC cp vm vi n t) {b:Bool} (hg:wr.grownBy w' (some I)) (hi:w'.heap[I]?=some (.cells (Zci cp R r vm vi (.slice (some ⟨NW,0,none⟩) n n) (t || b)) IT (0,0))):
  TkS IT VT DT R r H w0 w' I NW RC cp vm vi n (t || b):=by
 obtain⟨a1,a2,a3,a4,a5,a6⟩:=h.apart
 refine⟨h.isin.grown hg fun g hg=>by cases hg;exact h.noI,⟨hg.os.trans h.below.os,hg.tape.trans h.below.tape,hg.output.trans h.below.output,Nat.le_trans h.below.size hg.size,fun i hi=>?_⟩,hi,?_,?_,h.len,h.hn,h.apart,h.low⟩
 ·rw [hg.block i (Nat.lt_of_lt_of_le hi h.below.size) (fun e=>by cases e;omega)];exact h.below.block i hi
 ·rw [hg.block NW (Zlt h.now) (fun e=>by cases e;exact a1 rfl)];exact h.now
 rw [hg.block RC (Zlt h.res) (fun e=>by cases e;exact a2 rfl)];exact h.res
theorem TkS.put (h:TkS IT VT DT R r H w0 wr I NW RC cp vm vi n t) {k:Nat} (hk:k<n) (x:Vl):
  ∃ a b,wr.cell? ⟨NW,k * 2,none⟩=some a∧wr.cell? ⟨NW,k * 2+1,none⟩=some b∧wr.frozen? ⟨NW,k * 2,none⟩=false∧wr.frozen? ⟨NW,k * 2+1,none⟩=false∧TkS IT VT DT R ⟨r.first,r.mem,r.inp,r.now.set k x⟩ H w0 ((wr.setCell ⟨NW,k * 2,none⟩ (.int .i64 x.kind)).setCell ⟨NW,k * 2+1,none⟩ (.int .i64 x.n)) I NW RC cp vm vi n t:=by
 obtain⟨a1,a2,a3,a4,a5,a6⟩:=h.apart
 have hkl:k<r.now.length:=by rw [h.len];exact hk
 have hlen:(vlX r.now).length=2 * n:=by rw [Zip,h.len]
 have hw:=h.now
 have hot:∀ i,i≠NW→((wr.setCell ⟨NW,k * 2,none⟩ (.int .i64 x.kind)).setCell ⟨NW,k * 2+1,none⟩ (.int .i64 x.n)).heap[i]?=wr.heap[i]?:=fun i hi=>by
  rw [Below.heap_setCell _ ⟨NW,k * 2+1,none⟩ _ i hi,Below.heap_setCell _ ⟨NW,k * 2,none⟩ _ i hi]
 have h2:k * 2<(vlX r.now).length:=by omega
 have h3:k * 2+1<(vlX r.now).length:=by omega
 refine⟨(vlX r.now)[k * 2],(vlX r.now)[k * 2+1],by simp [World.cell?,hw,h2],by simp [World.cell?,hw,h3],by simp [World.frozen?,hw],by simp [World.frozen?,hw],(h.isin.setCell (a:=⟨NW,k * 2,none⟩) h.noW _).setCell (a:=⟨NW,k * 2+1,none⟩) h.noW _,(h.below.setCell (p:=⟨NW,k * 2,none⟩) a4 _).setCell (p:=⟨NW,k * 2+1,none⟩) a4 _,?_,?_,?_,by simp [h.len],h.hn,h.apart,h.low⟩
 ·rw [hot I (Ne.symm a1)];exact h.inst
 ·have h1:=Zaa wr NW (k * 2) (.int .i64 x.kind) _ _ _ hw
  rw [Zaa _ NW (k * 2+1) (.int .i64 x.n) _ _ _ h1,Nat.mul_comm k 2,vlX_set _ _ _ hkl]
 rw [hot RC a3];exact h.res
end
theorem TkS.keep {IT VT DT:TypeId} {R:REnv} {r:Inst} {H:Kn} {w0 wr w':World} {I NW RC:Nat} {cp vm vi:Value} {n:Nat} {t:Bool} (h:TkS IT VT DT R r H w0 wr I NW RC cp vm vi n t) (hin:H.In w') (hb:Below w0.heap.size w0 w') (hI:w'.heap[I]?=wr.heap[I]?) (hN:w'.heap[NW]?=wr.heap[NW]?) (hR:w'.heap[RC]?=wr.heap[RC]?):TkS IT VT DT R r H w0 w' I NW RC cp vm vi n t:=
 ⟨hin,hb,hI.trans h.inst,hN.trans h.now,hR.trans h.res,h.len,h.hn,h.apart,h.low⟩
structure TkT (IT VT DT BT:TypeId) (R:REnv) (r:Inst) (H:Kn) (w0 wr:World) (I NW RC:Nat) (cp vm vi:Value) (n:Nat) (t:Bool) (TB base:Nat) (a:Bool) (ov:Value) (outs:List Vl) (cv:Value) (cks:List Bool) (nx:Value) (nxt:List Vl):Prop where
 s:TkS IT VT DT R r H w0 wr I NW RC cp vm vi n t
 tb:wr.heap[TB]?=some (.cells #[ov,.bool a,.bool false,cv] DT (0,0))
 rc:wr.ownsRow base BT 1 cv cks.length (cks.map .bool)
 rn:wr.ownsRow base VT 2 nx nxt.length (vlX nxt)
 ro:wr.ownsRow base VT 2 ov outs.length (vlX outs)
 ap:∀ g,nx.ownBlock=some g→ov.ownBlock≠some g
 bs:I<base∧NW<base∧RC<base∧TB<base∧base≤wr.heap.size
 tbn:TB≠I∧TB≠NW∧TB≠RC∧w0.heap.size≤TB
 ne:BT≠VT
section
variable {IT VT DT BT : TypeId} {R : REnv} {r : Inst} {H : Kn} {w0 wr : World} {I NW RC : Nat} {cp vm vi : Value} {n : Nat} {t : Bool} {TB base : Nat} {a : Bool} {ov : Value} {outs : List Vl} {cv : Value} {cks : List Bool} {nx : Value} {nxt : List Vl}
theorem TkT.next {w':World} (h:TkT IT VT DT BT R r H w0 wr I NW RC cp vm vi n t TB base a ov outs cv cks nx nxt) (hb:Below wr.heap.size wr w'):TkT IT VT DT BT R r H w0 w' I NW RC cp vm vi n t TB base a ov outs cv cks nx nxt:=
 ⟨h.s.next hb,by rw [hb.block TB (Zlt h.tb)];exact h.tb,Za6 h.rc hb,Za6 h.rn hb,Za6 h.ro hb,h.ap,⟨h.bs.1,h.bs.2.1,h.bs.2.2.1,h.bs.2.2.2.1,Nat.le_trans h.bs.2.2.2.2 hb.size⟩,h.tbn,h.ne⟩
theorem TkT.alloc (h:TkT IT VT DT BT R r H w0 wr I NW RC cp vm vi n t TB base a ov outs cv cks nx nxt) (o:Obj):TkT IT VT DT BT R r H w0 (wr.alloc o) I NW RC cp vm vi n t TB base a ov outs cv cks nx nxt:=h.next ((Below.refl _ _).alloc (Nat.le_refl _) o)
theorem TkT.c (h:TkT IT VT DT BT R r H w0 wr I NW RC cp vm vi n t TB base a ov outs cv cks nx nxt) (i:Nat):wr.cell? ⟨TB,i,none⟩=(#[ov,.bool a,.bool false,cv]:Array Value)[i]?:=by
 have hb:=h.tb
 simp [World.cell?,hb]
theorem TkT.f (h:TkT IT VT DT BT R r H w0 wr I NW RC cp vm vi n t TB base a ov outs cv cks nx nxt) (i:Nat):wr.frozen? ⟨TB,i,none⟩=false:=by
 have hb:=h.tb
 simp [World.frozen?,hb]
theorem TkT.low (h:TkT IT VT DT BT R r H w0 wr I NW RC cp vm vi n t TB base a ov outs cv cks nx nxt):base≤wr.heap.size:=h.bs.2.2.2.2
theorem TkT.evald {w':World} (h:TkT IT VT DT BT R r H w0 wr I NW RC cp vm vi n t TB base a ov outs cv cks nx nxt) {b:Bool} (hg:wr.grownBy w' (some I)) (hi:w'.heap[I]?=some (.cells (Zci cp R r vm vi (.slice (some ⟨NW,0,none⟩) n n) (t || b)) IT (0,0))):
  TkT IT VT DT BT R r H w0 w' I NW RC cp vm vi n (t || b) TB base a ov outs cv cks nx nxt:=by
 have hI:=h.bs.1
 have hno:∀ {e:TypeId} {k m:Nat} {v:Value} {xs:List Value},wr.ownsRow base e k v m xs→w'.ownsRow base e k v m xs:=fun hr=>Zcr hr hg fun g hu e=>by cases e;have:=(hr.lt _ hu).1;omega
 exact⟨h.s.evald hg hi,by rw [hg.block TB (Zlt h.tb) (fun e=>by cases e;exact h.tbn.1 rfl)];exact h.tb,hno h.rc,hno h.rn,hno h.ro,h.ap,⟨h.bs.1,h.bs.2.1,h.bs.2.2.1,h.bs.2.2.2.1,Nat.le_trans h.bs.2.2.2.2 hg.size⟩,h.tbn,h.ne⟩
theorem TkT.put (h:TkT IT VT DT BT R r H w0 wr I NW RC cp vm vi n t TB base a ov outs cv cks nx nxt) (i:Nat) (v:Value):
  TkS IT VT DT R r H w0 (wr.setCell ⟨TB,i,none⟩ v) I NW RC cp vm vi n t∧(wr.setCell ⟨TB,i,none⟩ v).heap[TB]?=some (.cells ((#[ov,.bool a,.bool false,cv]:Array Value).setIfInBounds i v) DT (0,0)):=by
 obtain⟨b1,b2,b3,b4⟩:=h.tbn
 have hot:∀ j,j≠TB→(wr.setCell ⟨TB,i,none⟩ v).heap[j]?=wr.heap[j]?:=fun j hj=>Below.heap_setCell _ ⟨TB,i,none⟩ _ j hj
 exact⟨h.s.keep (h.s.isin.setCell (a:=⟨TB,i,none⟩) (h.s.low.isNone b4) v) (h.s.below.setCell (p:=⟨TB,i,none⟩) b4 v) (hot I (Ne.symm b1)) (hot NW (Ne.symm b2)) (hot RC (Ne.symm b3)),Zaa _ _ _ _ _ _ _ h.tb⟩
theorem TkT.setA (h:TkT IT VT DT BT R r H w0 wr I NW RC cp vm vi n t TB base a ov outs cv cks nx nxt) (b:Bool):TkT IT VT DT BT R r H w0 (wr.setCell ⟨TB,1,none⟩ (.bool b)) I NW RC cp vm vi n t TB base b ov outs cv cks nx nxt:=by
 obtain⟨h1,h2⟩:=h.put 1 (.bool b)
 have hT:=h.bs.2.2.2.1
 have hno:∀ {e:TypeId} {k m:Nat} {v:Value} {xs:List Value},wr.ownsRow base e k v m xs→(wr.setCell ⟨TB,1,none⟩ (.bool b)).ownsRow base e k v m xs:=fun hr=>Zal hr (Zbi hr hT) _
 exact⟨h1,h2,hno h.rc,hno h.rn,hno h.ro,h.ap,⟨h.bs.1,h.bs.2.1,h.bs.2.2.1,hT,by simpa using h.bs.2.2.2.2⟩,h.tbn,h.ne⟩
theorem TkT.grow {w3:World} {row:Option Nat} (h:TkT IT VT DT BT R r H w0 wr I NW RC cp vm vi n t TB base a ov outs cv cks nx nxt) (hg:wr.grownBy w3 row) (hr:∀ g,row=some g→base≤g):
  TkS IT VT DT R r H w0 w3 I NW RC cp vm vi n t∧w3.heap[TB]?=some (.cells #[ov,.bool a,.bool false,cv] DT (0,0))∧base≤w3.heap.size:=by
 obtain⟨b1,b2,b3,b4,b5⟩:=h.bs
 obtain⟨a1,a2,a3,a4,a5,a6⟩:=h.s.apart
 have hbl:∀ j,j<base→w3.heap[j]?=wr.heap[j]?:=fun j hj=>hg.block j (by omega) (fun e=>by have:=hr j e.symm;omega)
 refine⟨h.s.keep (h.s.isin.grown hg fun g hgg=>h.s.low.isNone (by have:=hr g hgg;omega)) ⟨hg.os.trans h.s.below.os,hg.tape.trans h.s.below.tape,hg.output.trans h.s.below.output,Nat.le_trans h.s.below.size hg.size,fun i hi=>(hbl i (by omega)).trans (h.s.below.block i hi)⟩ (hbl I b1) (hbl NW b2) (hbl RC b3),(hbl TB b4).trans h.tb,Nat.le_trans b5 hg.size⟩
theorem TkT.appC {w3:World} {gg cap':Nat} {b:Bool} (h:TkT IT VT DT BT R r H w0 wr I NW RC cp vm vi n t TB base a ov outs cv cks nx nxt) (hown:w3.ownsRow base BT 1 (.slice (some ⟨gg,0,none⟩) (cks.length+1) cap') (cks.length+1) (cks.map .bool++[.bool b])) (hg:wr.grownBy w3 cv.ownBlock):
  w3.cell? ⟨TB,3,none⟩=some cv∧w3.frozen? ⟨TB,3,none⟩=false∧TkT IT VT DT BT R r H w0 (w3.setCell ⟨TB,3,none⟩ (.slice (some ⟨gg,0,none⟩) (cks.length+1) cap')) I NW RC cp vm vi n t TB base a ov outs (.slice (some ⟨gg,0,none⟩) (cks.length+1) cap') (cks++[b]) nx nxt:=by
 obtain⟨g1,g2,g3⟩:=h.grow hg fun g hgg=>(h.rc.lt g hgg).1
 have hT:=h.bs.2.2.2.1
 have rn3:=Zcr h.rn hg fun g hu e=>Zf2 h.rc h.rn h.ne g e hu
 have ro3:=Zcr h.ro hg fun g hu e=>Zf2 h.rc h.ro h.ne g e hu
 have hot:∀ j,j≠TB→(w3.setCell ⟨TB,3,none⟩ (.slice (some ⟨gg,0,none⟩) (cks.length+1) cap')).heap[j]?=w3.heap[j]?:=fun j hj=>Below.heap_setCell _ ⟨TB,3,none⟩ _ j hj
 obtain⟨b1,b2,b3,b4⟩:=h.tbn
 refine⟨by simp [World.cell?,g2],by simp [World.frozen?,g2],g1.keep (g1.isin.setCell (a:=⟨TB,3,none⟩) (h.s.low.isNone b4) _) (g1.below.setCell (p:=⟨TB,3,none⟩) b4 _) (hot I (Ne.symm b1)) (hot NW (Ne.symm b2)) (hot RC (Ne.symm b3)),Zaa _ _ _ _ _ _ _ g2,?_,Zal rn3 (Zbi rn3 hT) _,Zal ro3 (Zbi ro3 hT) _,h.ap,⟨h.bs.1,h.bs.2.1,h.bs.2.2.1,hT,by simpa using g3⟩,h.tbn,h.ne⟩
 rw [List.map_append,List.length_append]
 exact Zal hown (Zbi hown hT) _
theorem TkT.appN {w3:World} {gg cap':Nat} {x:Vl} (h:TkT IT VT DT BT R r H w0 wr I NW RC cp vm vi n t TB base a ov outs cv cks nx nxt) (hown:w3.ownsRow base VT 2 (.slice (some ⟨gg,0,none⟩) (nxt.length+1) cap') (nxt.length+1) (vlX nxt++[.int .i64 x.kind,.int .i64 x.n])) (hg:wr.grownBy w3 nx.ownBlock) (hat:nx.ownBlock=some gg∨gg=wr.heap.size):
  TkT IT VT DT BT R r H w0 w3 I NW RC cp vm vi n t TB base a ov outs cv cks (.slice (some ⟨gg,0,none⟩) (nxt.length+1) cap') (nxt++[x]):=by
 obtain⟨g1,g2,g3⟩:=h.grow hg fun g hgg=>(h.rn.lt g hgg).1
 refine⟨g1,g2,Zcr h.rc hg fun g hu e=>Zf2 h.rc h.rn h.ne g hu e,by rw [Zgh,List.length_append];exact hown,Zcr h.ro hg fun g hu e=>h.ap g e hu,fun g hgg hu=>?_,⟨h.bs.1,h.bs.2.1,h.bs.2.2.1,h.bs.2.2.2.1,g3⟩,h.tbn,h.ne⟩
 have e:gg=g:=by simpa [Value.ownBlock] using hgg
 subst e
 rcases hat with h1 | rfl
 ·exact h.ap gg h1 hu
 have:=(h.ro.lt _ hu).2;omega
theorem TkT.appO {w3:World} {gg cap':Nat} {x:Vl} (h:TkT IT VT DT BT R r H w0 wr I NW RC cp vm vi n t TB base a ov outs cv cks nx nxt) (hown:w3.ownsRow base VT 2 (.slice (some ⟨gg,0,none⟩) (outs.length+1) cap') (outs.length+1) (vlX outs++[.int .i64 x.kind,.int .i64 x.n])) (hg:wr.grownBy w3 ov.ownBlock) (hat:ov.ownBlock=some gg∨gg=wr.heap.size):
  w3.cell? ⟨TB,0,none⟩=some ov∧w3.frozen? ⟨TB,0,none⟩=false∧TkT IT VT DT BT R r H w0 (w3.setCell ⟨TB,0,none⟩ (.slice (some ⟨gg,0,none⟩) (outs.length+1) cap')) I NW RC cp vm vi n t TB base a (.slice (some ⟨gg,0,none⟩) (outs.length+1) cap') (outs++[x]) cv cks nx nxt:=by
 obtain⟨g1,g2,g3⟩:=h.grow hg fun g hgg=>(h.ro.lt g hgg).1
 have hT:=h.bs.2.2.2.1
 have rc3:=Zcr h.rc hg fun g hu e=>Zf2 h.rc h.ro h.ne g hu e
 have rn3:=Zcr h.rn hg fun g hu e=>h.ap g hu e
 have hot:∀ j,j≠TB→(w3.setCell ⟨TB,0,none⟩ (.slice (some ⟨gg,0,none⟩) (outs.length+1) cap')).heap[j]?=w3.heap[j]?:=fun j hj=>Below.heap_setCell _ ⟨TB,0,none⟩ _ j hj
 obtain⟨b1,b2,b3,b4⟩:=h.tbn
 refine⟨by simp [World.cell?,g2],by simp [World.frozen?,g2],g1.keep (g1.isin.setCell (a:=⟨TB,0,none⟩) (h.s.low.isNone b4) _) (g1.below.setCell (p:=⟨TB,0,none⟩) b4 _) (hot I (Ne.symm b1)) (hot NW (Ne.symm b2)) (hot RC (Ne.symm b3)),Zaa _ _ _ _ _ _ _ g2,Zal rc3 (Zbi rc3 hT) _,Zal rn3 (Zbi rn3 hT) _,?_,fun g hgg hu=>?_,⟨h.bs.1,h.bs.2.1,h.bs.2.2.1,hT,by simpa using g3⟩,h.tbn,h.ne⟩
 ·rw [Zgh,List.length_append]
  exact Zal hown (Zbi hown hT) _
 have e:gg=g:=by simpa [Value.ownBlock] using hu
 subst e
 rcases hat with h1 | rfl
 ·exact h.ap gg hgg h1
 have:=(h.rn.lt _ hgg).2;omega
end
def BlC (x:Bool) (f:Nat→Option Value):Prop:=f 0=some (.bool x)
abbrev BlsV (H:Kn):List Bool→Value→Prop:=SlV H 1 BlC
theorem BlC.mono (x:Bool) (f g:Nat→Option Value) (h:∀ j u,f j=some u→g j=some u) (hx:BlC x f):BlC x g:=h _ _ hx
structure TkV (H:Kn) (k:Tk) (ov cv:Value):Prop where
 outs:VlsV H k.out ov
 checks:BlsV H k.checks cv
theorem TkV.le {H H':Kn} (hle:H.le H') {k:Tk} {ov cv:Value} (h:TkV H k ov cv):TkV H' k ov cv:=⟨SlV.le h.outs hle VlC.mono,SlV.le h.checks hle BlC.mono⟩
def Zcz (K:Kn) (n:Nat) (w:World):Kn:=fun b=>if b<n then K b else w.heap[b]?
theorem Zdy {K:Kn} {w:World} (h:K.In w) (w':World):K.le (Zcz K w.heap.size w'):=fun b o e=>by
 unfold Zcz
 rw [if_pos (h.lt e)]
 exact e
theorem Zgx (K:Kn) (n:Nat) (w:World):(Zcd n w).le (Zcz K n w):=fun b o e=>by
 unfold Zcd at e
 unfold Zcz
 split at e
 ·cases e
 rename_i hb
 rw [if_neg hb];exact e
theorem joinKn_in {K:Kn} {w w':World} (h:K.In w) (hb:Below w.heap.size w w'):(Zcz K w.heap.size w').In w':=fun b o e=>by
 unfold Zcz at e
 split at e
 ·rename_i hlt
  rw [hb.block b hlt];exact h b o e
 exact e
theorem vls_row {w:World} {base n:Nat} {T:TypeId} {v:Value} {l:List Vl} (h:w.ownsRow base T 2 v l.length (vlX l)) (hn:n≤base):VlsV (Zcd n w) l v:=
 slv_new h hn fun i hi f hf=>by
  obtain⟨x0,x1⟩:=Zeb _ i hi
  refine⟨hf 0 _ ?_,hf 1 _ ?_⟩
  ·rw [show i * 2+0=2 * i from by omega];exact x0
  rw [show i * 2+1=2 * i+1 from by omega];exact x1
theorem bls_row {w:World} {base n:Nat} {T:TypeId} {v:Value} {l:List Bool} (h:w.ownsRow base T 1 v l.length (l.map .bool)) (hn:n≤base):BlsV (Zcd n w) l v:=
 slv_new h hn fun i hi f hf=>hf 0 _ (by rw [Nat.mul_one,Nat.add_zero,List.getElem?_map,List.getElem?_eq_getElem hi];rfl)
theorem own_put4 {w:World} {base:Nat} {e:TypeId} {k n:Nat} {v:Value} {xs:List Value} (h:w.ownsRow base e k v n xs) {b:Nat} (hb:b<base) (x y z u:Value):(put4 w b x y z u).ownsRow base e k v n xs:=by
 have hne:=Zbi h hb
 unfold put4
 exact Zal (Zal (Zal (Zal h (a:=⟨b,0,none⟩) hne x) (a:=⟨b,1,none⟩) hne y) (a:=⟨b,2,none⟩) hne z) (a:=⟨b,3,none⟩) hne u
theorem TkT.fin {IT VT DT BT:TypeId} {R:REnv} {r:Inst} {H:Kn} {w0 wr:World} {I NW RC:Nat} {cp vm vi:Value} {n:Nat} {t:Bool} {TB base:Nat} {a:Bool} {ov:Value} {outs:List Vl} {cv:Value} {cks:List Bool} {nx:Value} {nxt:List Vl}
  (h:TkT IT VT DT BT R r H w0 wr I NW RC cp vm vi n t TB base a ov outs cv cks nx nxt) (x y z u:Value):
  Below w0.heap.size w0 (put4 wr RC x y z u)∧VlsV (Zcd w0.heap.size (put4 wr RC x y z u)) outs ov∧BlsV (Zcd w0.heap.size (put4 wr RC x y z u)) cks cv∧VlsV (Zcd w0.heap.size (put4 wr RC x y z u)) nxt nx:=by
 have hb:w0.heap.size≤base:=by have h1:=h.s.apart.2.2.2.1;have h2:=h.bs.2.1;omega
 exact⟨Zgr h.s.below h.s.apart.2.2.2.2.2 x y z u,vls_row (own_put4 h.ro h.bs.2.2.1 x y z u) hb,bls_row (own_put4 h.rc h.bs.2.2.1 x y z u) hb,vls_row (own_put4 h.rn h.bs.2.2.1 x y z u) hb⟩
theorem TkS.nc {IT VT DT:TypeId} {R:REnv} {r:Inst} {H:Kn} {w0 wr:World} {I NW RC:Nat} {cp vm vi:Value} {n:Nat} {t:Bool} (h:TkS IT VT DT R r H w0 wr I NW RC cp vm vi n t) {j:Nat} (hj:j<n):
  wr.cell? ⟨NW,j * 2,none⟩=some (.int .i64 (r.now.getD j vz).kind)∧wr.cell? ⟨NW,j * 2+1,none⟩=some (.int .i64 (r.now.getD j vz).n):=by
 have hjl:j<r.now.length:=by rw [h.len];exact hj
 have hw:=h.now
 obtain⟨x0,x1⟩:=Zeb r.now j hjl
 rw [Nat.mul_comm] at x0 x1
 have e:r.now.getD j vz=r.now[j]:=by simp [List.getD_eq_getElem?_getD,hjl]
 rw [e]
 exact⟨by simpa [World.cell?,hw] using x0,by simpa [World.cell?,hw] using x1⟩
abbrev InsV (H:Kn):List (List Vl)→Value→Prop:=SlV H 1 fun l f=>∃ u,f 0=some u∧VlsV H l u
theorem InsV.le {H H':Kn} (hle:H.le H') {l:List (List Vl)} {v:Value} (h:InsV H l v):InsV H' l v:=
 SlV.le h hle fun _x _f _g hfg ⟨u,h1,h2⟩=>⟨u,hfg _ _ h1,SlV.le h2 hle VlC.mono⟩
def TkC (H:Kn) (k:Tk) (f:Nat→Option Value):Prop:=∃ ov cv,f 0=some ov∧f 1=some (.bool k.asrt)∧f 2=some (.bool k.trap)∧f 3=some cv∧TkV H k ov cv
abbrev TksV (H:Kn):List Tk→Value→Prop:=SlV H 4 (TkC H)
theorem TkC.mono {H H':Kn} (hle:H.le H') (x:Tk) (f g:Nat→Option Value) (h:∀ j u,f j=some u→g j=some u) (hx:TkC H x f):TkC H' x g:=by
 obtain⟨ov,cv,h0,h1,h2,h3,h4⟩:=hx
 exact⟨ov,cv,h _ _ h0,h _ _ h1,h _ _ h2,h _ _ h3,h4.le hle⟩
theorem CodeAt.le {NT CT:TypeId} {R:REnv} {K K':Kn} (hle:K.le K') {p:Pr} {ord:List Nat} {B:Nat} (h:CodeAt NT CT R K p ord B):CodeAt NT CT R K' p ord B:=by
 obtain⟨cs,vI,vo,vf,va,vc,vu,vM,hcb,⟨e0,h0⟩,⟨e5,h5⟩,⟨e6,h6⟩,⟨e7,h7⟩,⟨e8,h8⟩,⟨e9,h9⟩,⟨e10,h10⟩⟩:=h.ex
 exact⟨cs,vI,vo,vf,va,vc,vu,vM,hle _ _ hcb,⟨e0,h0.le hle VrC.mono⟩,⟨e5,Zcc.le hle h5⟩,⟨e6,h6.le hle⟩,⟨e7,h7.le hle⟩,⟨e8,h8.le hle⟩,⟨e9,h9.le hle⟩,⟨e10,h10.le hle⟩⟩
structure CdR (R:REnv) (p:Pr) (ord:List Nat):Prop where
 f:∀ e∈p.terms,Zaf R.ks e=true
 pa:∀ e∈p.terms,e.parts≤1000000000
 nm:∀ s,(R.ks s).isSome=true→(R.nm s<0→(-1 - R.nm s).toNat<p.ins.length)∧(0≤R.nm s→(R.nm s).toNat<p.fl.length)
 od:∀ k∈ord,k<p.fl.length
 ou:∀ i∈(cdOf p ord).outs,0≤i∧i.toNat<p.fl.length
 z1:ord.length≤1000000
 z2:p.fl.length≤1000000
 z3:p.as.length≤1000000
 z4:p.cs.length≤1000000
 z5:p.outs.length≤1000000000
 z6:Zam p.terms≤1000000000
 z7:p.ins.length≤1000000
 ps:Ex.partsL p.terms≤1000000000
 ml:(cdOf p ord).ms.length=Zam p.terms
theorem Zkg {p:Pr} (_h0:(Za2 p).1=0) {ks:Env Int} (hks:Zap Env.none p.vars=some ks) {ord:List Nat} (ho:Zbf p = .ok ord) (nb:Bool) (ni:Int) (z5:p.outs.length≤1000000000) (z3:p.as.length≤1000000) (z4:p.cs.length≤1000000):CdR ⟨ks,Zac p,getI (Zai p),nb,ni⟩ p ord:=by
 obtain⟨hck,hlen,hlow⟩:=Zbk ho
 obtain⟨ks',hks',hout,hfm,hfl,hpp,hin,_⟩:=Zb4 hck
 rw [hks] at hks'
 cases hks'
 have hm:=Zkd p.terms
 refine⟨fun e he=>?_,fun e he=>?_,fun s hs=>Zh0 hck hks s hs,hlow,fun i hi=>?_,by omega,by omega,z3,z4,z5,by omega,by omega,by omega,?_⟩
 ·obtain⟨i,hi,rfl⟩:=List.mem_iff_getElem.1 he
  exact (Zbg ks _).1 hfm i hi
 ·have:=partsL_mem he;omega
 ·obtain⟨s,hs,rfl⟩:=List.mem_map.1 hi
  have hmm:=Ziu _ _ _ hout s hs
  obtain⟨k,hk,e⟩:=List.mem_iff_getElem.1 hmm
  have hk':k<p.fl.length:=by simpa using hk
  have e':p.fl[k].name=s:=by simpa using e
  have h5:=Zhh hck k hk'
  rw [e'] at h5
  rw [h5]
  exact⟨by omega,by simpa using hk'⟩
 show (Zck 0 p.terms).length=_
 rw [Zdj,List.length_map,Za1]
theorem tickM_len (R:REnv) (c:Cd) (first:Bool) (mem inp:List Vl):(Zco R c first mem inp).1.trap=false→(Zco R c first mem inp).2.length=c.ms.length:=by
 unfold Zco
 dsimp only
 split
 ·intro h;cases h
 intro _;simp [Zeh]
def osX (os:List (Tk×Value×Value)):List Value:=os.flatMap fun x=>[x.2.1,.bool x.1.asrt,.bool x.1.trap,x.2.2]
structure RuS (DT:TypeId) (H:Kn) (w0 wr:World) (base:Nat) (os:List (Tk×Value×Value)) (u:Value) (K:Kn) (ms:List Vl) (vm:Value):Prop where
 le:H.le K
 isin:K.In wr
 below:Below w0.heap.size w0 wr
 row:wr.ownsRow base DT 4 u os.length (osX os)
 noU:∀ g,u.ownBlock=some g→K g=none
 tks:∀ x∈os,TkV K x.1 x.2.1 x.2.2
 mem:VlsV K ms vm
 hb:w0.heap.size≤base
 low:base≤wr.heap.size
section
variable {DT : TypeId} {H : Kn} {w0 wr : World} {base : Nat} {os : List (Tk × Value × Value)} {u : Value} {K : Kn} {ms : List Vl} {vm : Value}
theorem RuS.init {w3:World} (hb:Below w0.heap.size w0 w3) (hm:VlsV (Zag w3) ms vm):RuS DT (Zag w3) w0 w3 w3.heap.size [] (.slice none 0 0) (Zag w3) ms vm:=
 ⟨Kn.le_refl _,Za0 w3,hb,World.ownsRow_nil _ _ _ _,fun g hg=>by simp [Value.ownBlock] at hg,(fun x hx=>by cases hx),hm,hb.size,Nat.le_refl _⟩
theorem RuS.next {w':World} (h:RuS DT H w0 wr base os u K ms vm) (hb:Below wr.heap.size wr w'):RuS DT H w0 w' base os u K ms vm:=
 ⟨h.le,h.isin.below hb,h.below.trans (hb.mono h.below.size),Za6 h.row hb,h.noU,h.tks,h.mem,h.hb,Nat.le_trans h.low hb.size⟩
theorem RuS.alloc (h:RuS DT H w0 wr base os u K ms vm) (o:Obj):RuS DT H w0 (wr.alloc o) base os u K ms vm:=h.next ((Below.refl _ _).alloc (Nat.le_refl _) o)
theorem RuS.low' (h:RuS DT H w0 wr base os u K ms vm):base≤wr.heap.size:=h.low
theorem RuS.tick {w5:World} {k:Tk} {ov cv u5:Value} {ms':List Vl} (h:RuS DT H w0 wr base os u K ms vm) (hb:Below wr.heap.size wr w5) (hk:TkV (Zcd wr.heap.size w5) k ov cv) (hm:VlsV (Zcd wr.heap.size w5) ms' u5):
  RuS DT H w0 w5 base os u (Zcz K wr.heap.size w5) ms' u5∧TkV (Zcz K wr.heap.size w5) k ov cv:=by
 have h1:=Zdy h.isin w5
 have h2:=Zgx K wr.heap.size w5
 exact⟨⟨Kn.le_trans h.le h1,joinKn_in h.isin hb,h.below.trans (hb.mono h.below.size),Za6 h.row hb,fun g hg=>by unfold Zcz;rw [if_pos (h.row.lt g hg).2];exact h.noU g hg,fun x hx=>(h.tks x hx).le h1,SlV.le hm h2 VlC.mono,h.hb,Nat.le_trans h.low hb.size⟩,hk.le h2⟩
theorem RuS.app {w6:World} {gg cap':Nat} {k:Tk} {ov cv:Value} (h:RuS DT H w0 wr base os u K ms vm) (hk:TkV K k ov cv)
  (hown:w6.ownsRow base DT 4 (.slice (some ⟨gg,0,none⟩) (os.length+1) cap') (os.length+1) (osX os++[ov,.bool k.asrt,.bool k.trap,cv])) (hg:wr.grownBy w6 u.ownBlock) (hat:u.ownBlock=some gg∨gg=wr.heap.size):
  RuS DT H w0 w6 base (os++[(k,ov,cv)]) (.slice (some ⟨gg,0,none⟩) (os.length+1) cap') K ms vm:=by
 have hb:=h.hb
 refine⟨h.le,h.isin.grown hg h.noU,⟨hg.os.trans h.below.os,hg.tape.trans h.below.tape,hg.output.trans h.below.output,Nat.le_trans h.below.size hg.size,fun i hi=>?_⟩,?_,fun g hgg=>?_,fun x hx=>?_,h.mem,hb,Nat.le_trans h.low hg.size⟩
 ·rw [hg.block i (Nat.lt_of_lt_of_le hi h.below.size) (fun e=>by have:=(h.row.lt i e.symm).1;omega)];exact h.below.block i hi
 ·rw [List.length_append]
  have e:osX (os++[(k,ov,cv)])=osX os++[ov,.bool k.asrt,.bool k.trap,cv]:=by simp [osX]
  rw [e];exact hown
 ·have e:gg=g:=by simpa [Value.ownBlock] using hgg
  subst e
  rcases hat with h1 | rfl
  ·exact h.noU gg h1
  exact h.isin.isNone (Nat.le_refl _)
 rcases List.mem_append.1 hx with hx | hx
 ·exact h.tks x hx
 rw [List.mem_singleton.1 hx];exact hk
theorem RuS.fin (h:RuS DT H w0 wr base os u K ms vm):TksV (Zag wr) (os.map (·.1)) u:=by
 have hr:wr.ownsRow base DT 4 u (os.map (·.1)).length (osX os):=by rw [List.length_map];exact h.row
 refine Zgl hr fun i hi f hf=>?_
 have hi2:i<os.length:=by simpa using hi
 have hc:∀ j,j<4→(osX os)[i * 4+j]?=[os[i].2.1,Value.bool os[i].1.asrt,.bool os[i].1.trap,os[i].2.2][j]?:=fun j hj=>Zie 4 (fun x:Tk×Value×Value=>[x.2.1,.bool x.1.asrt,.bool x.1.trap,x.2.2]) (fun _=>rfl) os i hi2 j hj
 rw [List.getElem_map]
 exact⟨os[i].2.1,os[i].2.2,hf 0 _ (by rw [hc 0 (by omega)];rfl),hf 1 _ (by rw [hc 1 (by omega)];rfl),hf 2 _ (by rw [hc 2 (by omega)];rfl),hf 3 _ (by rw [hc 3 (by omega)];rfl),(h.tks _ (List.getElem_mem hi2)).le (all_of h.isin)⟩
end
def runE (p:Pr) (ins:List (List Vl)) (ni:Int):Nat×Int:=
 if (Za2 p).1≠0 then Za2 p else if 300<ins.length∨ni < -128∨127<ni then (2, -1) else match ins.findIdx? (fun l => !Zav p.ins l l.length) with | some i=>(5,(i:Int)) | none=>(0, -1)
def Zgf (sp:Nat→Addr) (nb:Bool) (ni:Int) (p:Pr) (ins:List (List Vl)) (w:World) (r:Ending) (w':World):Prop:=
 Below w.heap.size w w'∧if (runE p ins ni).1=0 then ∃ ks ord v,Zap Env.none p.vars=some ks∧Zbf p = .ok ord∧r = .returned (.tuple #[v,.nilIface])∧
   TksV (Zag w') (Zg3 ⟨ks,Zac p,getI (Zai p),nb,ni⟩ (cdOf p ord) true (Zbb ⟨ks,Zac p,getI (Zai p),nb,ni⟩ (Zab 0 p.terms)) ins) v
  else ∃ v,r = .returned (.tuple #[.slice none 0 0,v])∧ErrW sp w' (runE p ins ni).1 (runE p ins ni).2 v
def runM (nb:Bool) (ni:Int) (p:Pr) (ins:List (List Vl)):List Tk:=
 match Zap Env.none p.vars,Zbf p with
 | some ks,.ok ord=>Zg3 ⟨ks,Zac p,getI (Zai p),nb,ni⟩ (cdOf p ord) true (Zbb ⟨ks,Zac p,getI (Zai p),nb,ni⟩ (Zab 0 p.terms)) ins
 | _,_=>[]
theorem Zgf.told {sp:Nat→Addr} {nb:Bool} {ni:Int} {p:Pr} {ins:List (List Vl)} {w w':World} {r:Ending} (h:Zgf sp nb ni p ins w r w'):
  Below w.heap.size w w'∧(((runE p ins ni).1=0∧∃ v,r = .returned (.tuple #[v,.nilIface])∧TksV (Zag w') (runM nb ni p ins) v)∨((runE p ins ni).1≠0∧∃ t v,r = .returned (.tuple #[.slice none 0 0,.iface t v])∧ErrW sp w' (runE p ins ni).1 (runE p ins ni).2 (.iface t v))):=by
 obtain⟨h1,h2⟩:=h
 refine⟨h1,?_⟩
 by_cases h0:(runE p ins ni).1=0
 ·rw [if_pos h0] at h2
  obtain⟨ks,ord,v,e1,e2,rfl,h3⟩:=h2
  refine .inl ⟨h0,v,rfl,?_⟩
  unfold runM
  rw [e1,e2]
  exact h3
 rw [if_neg h0] at h2
 obtain⟨v,rfl,hv⟩:=h2
 refine .inr ⟨h0,?_⟩
 obtain⟨t,u,rfl⟩:∃ t u,v = .iface t u:=by
  rcases hv with ⟨_,h⟩ | ⟨_,N,h,_⟩
  ·obtain⟨c,hc⟩:∃ c,(runE p ins ni).1=c+1:=⟨(runE p ins ni).1 - 1,by omega⟩
   rw [hc,Ze9] at h
   exact⟨_,_,h⟩
  exact⟨_,_,h⟩
 exact⟨t,u,rfl,hv⟩
theorem Ze0 {p:Pr} {ins:List (List Vl)} {ni:Int} (h:(runE p ins ni).1=0):(Za2 p).1=0∧ins.length≤300∧(-128≤ni∧ni≤127)∧∀ l∈ins,Zav p.ins l l.length=true:=by
 unfold runE at h
 split at h
 ·exact absurd h ‹_›
 rename_i h0
 split at h
 ·cases h
 rename_i h1
 refine⟨by omega,by omega,by omega,fun l hl=>?_⟩
 split at h
 ·cases h
 rename_i h2
 have:=List.findIdx?_eq_none_iff.1 h2 l hl
 simpa using this
theorem runE_of {p:Pr} {ins:List (List Vl)} {ni:Int} (h0:(Za2 p).1=0) (h1:ins.length≤300) (h2 : -128≤ni∧ni≤127) (h3:∀ l∈ins,Zav p.ins l l.length=true):runE p ins ni=(0, -1):=by
 unfold runE
 rw [if_neg (fun h=>h h0),if_neg (by omega)]
 rw [List.findIdx?_eq_none_iff.2 fun l hl=>by simp [h3 l hl]]
theorem check_kinds {p:Pr} (h:(Za2 p).1=0):∃ ks ord,Zap Env.none p.vars=some ks∧Zbf p = .ok ord:=by
 obtain⟨l,ho,_⟩:=Zhu h
 obtain⟨hck,_,_⟩:=Zbk ho
 obtain⟨ks,hks,_⟩:=Zb4 hck
 exact⟨ks,l,hks,ho⟩
theorem runGo_len (R:REnv) (c:Cd):∀ (l:List (List Vl)) (first:Bool) (mem:List Vl),(Zg3 R c first mem l).length≤l.length
 | [],_,_=>by simp [Zg3]
 | x :: l,first,mem=>by
  simp only [Zg3,List.length_cons]
  split
  ·simp
  have:=runGo_len R c l false (Zco R c first mem x).2;omega
theorem runM_len (nb:Bool) (ni:Int) (p:Pr) (ins:List (List Vl)):(runM nb ni p ins).length≤ins.length:=by
 unfold runM
 split
 ·exact runGo_len _ _ _ _ _
 simp
theorem tickM_sizes (R:REnv) (c:Cd) (first:Bool) (mem inp:List Vl):(Zco R c first mem inp).1.out.length≤c.outs.length∧(Zco R c first mem inp).1.checks.length≤c.cv.length:=by
 unfold Zco
 dsimp only
 split
 ·simp [trapT]
 simp [Zeh]
theorem runGo_sizes (R:REnv) (c:Cd):∀ (l:List (List Vl)) (first:Bool) (mem:List Vl),∀ x∈Zg3 R c first mem l,x.out.length≤c.outs.length∧x.checks.length≤c.cv.length
 | [],_,_,x,hx=>by simp [Zg3] at hx
 | y :: l,first,mem,x,hx=>by
  simp only [Zg3,List.mem_cons] at hx
  rcases hx with rfl | hx
  ·exact tickM_sizes R c first mem y
  split at hx
  ·cases hx
  exact runGo_sizes R c l false _ x hx
theorem runM_sizes (nb:Bool) (ni:Int) (p:Pr) (ins:List (List Vl)):∀ x∈runM nb ni p ins,x.out.length≤p.outs.length∧x.checks.length≤p.cs.length:=by
 intro x hx
 unfold runM at hx
 split at hx
 ·rename_i ks ord _ _
  have h:=runGo_sizes _ _ _ _ _ x hx
  have e1:(cdOf p ord).outs.length=p.outs.length:=List.length_map _
  have e2:(cdOf p ord).cv.length=p.cs.length:=Zb8 _ _
  omega
 cases hx
theorem Zi3:∀ (l:List Vr) (i:Nat) (m:Env Int) (s:ByteArray) (v:Int),Zcf i m l s=some v→m s=some v∨∃ j,∃ h:j<l.length,l[j].name=s∧v = -1 - ((i+j:Nat):Int)
 | [],i,m,s,v,h => .inl h
 | x :: l,i,m,s,v,h=>by
  rw [Zcf] at h
  rcases Zi3 l (i+1) _ s v h with h1 | ⟨j,hj,h1,h2⟩
  ·by_cases e:s=x.name
   ·rw [e,Env.set_self] at h1
    cases h1
    exact .inr ⟨0,by simp,by simp [e],by simp⟩
   rw [Env.set_other _ _ e] at h1;exact .inl h1
  exact .inr ⟨j+1,by simpa using hj,by simpa using h1,by rw [h2];omega⟩
theorem ty_of {p:Pr} (hck:Zaj p=0) {ks:Env Int} (hks:Zap Env.none p.vars=some ks) {nb:Bool} {ni:Int} (hni : -128≤ni∧ni≤127) {inp:List Vl} (hi:Zav p.ins inp inp.length=true):
  TyR ⟨ks,Zac p,getI (Zai p),nb,ni⟩ ks p.atOf (fun k=>(p.fl.map (·.kind)).getD k 0) p.fl.length inp:=by
 have hh:=fresh_has _ _ _ hks
 refine⟨rfl,hni,Zgd _ _ _ hks (fun s k h=>by simp [Env.none] at h),fun s k hk h0=>?_,fun s k hk h0=>?_⟩
 ·have hs:(ks s).isSome=true:=by rw [hk];rfl
  have hr:=(Zh0 hck hks s hs).1 h0
  have hf:s∉p.fl.map (·.name):=fun hf=>by
   obtain⟨i,hi,e⟩:=List.mem_iff_getElem.1 hf
   have hi':i<p.fl.length:=by simpa using hi
   have:=Zhh hck i hi'
   have e':p.fl[i].name=s:=by simpa using e
   rw [e'] at this
   have h0:getI (Zai p) s<0:=h0
   omega
  rcases Ze7 _ _ _ hks hs with h | h
  ·simp [Env.none] at h
  have hin:s∈p.ins.map (·.name):=by
   simp only [Pr.vars,List.map_append,List.map_map,List.mem_append] at h
   exact h.resolve_right hf
  obtain⟨j,hj⟩:=Zgy p.ins 0 Env.none s (.inl hin)
  have hnm:getI (Zai p) s = -1 - (j:Int):=by
   unfold getI Zai
   rw [Zdn _ _ _ _ hf,hj]
   rfl
  rcases Zi3 _ _ _ _ _ hj with h | ⟨j',hj',e1,e2⟩
  ·simp [Env.none] at h
  have hjj:j=j':=by omega
  subst hjj
  have hkk:ks s=some p.ins[j].kind:=by
   have:=hh.2 (p.ins[j].name,p.ins[j].kind) (by
    simp only [Pr.vars,List.mem_append,List.mem_map]
    exact .inl ⟨p.ins[j],List.getElem_mem _,rfl⟩)
   rw [e1] at this
   exact this
  rw [hk] at hkk
  cases hkk
  show Zar (inp.getD (-1 - getI (Zai p) s).toNat vz) _=true
  rw [hnm,show (-1 - (-1 - (j:Int))).toNat=j from by omega]
  unfold Zav at hi
  simp only [Bool.and_eq_true,decide_eq_true_eq,List.all_eq_true,List.mem_range] at hi
  have:=hi.2 j (by omega)
  simpa [List.getD_eq_getElem?_getD,hj'] using this
 have hs:(ks s).isSome=true:=by rw [hk];rfl
 have hr:=(Zh0 hck hks s hs).2 h0
 have hs':=nm_of hck hks s hs h0
 refine⟨nm_at hck hks s hs h0,?_,hr⟩
 show (p.fl.map (·.kind)).getD (getI (Zai p) s).toNat 0=k
 generalize (getI (Zai p) s).toNat=i at hr hs'
 have:=hh.2 (p.fl[i].name,p.fl[i].kind) (by
  simp only [Pr.vars,List.mem_append,List.mem_map]
  exact .inr ⟨p.fl[i],List.getElem_mem _,rfl⟩)
 have e:s=p.fl[i].name:=by rw [hs'];simp [nfOf,List.getD_eq_getElem?_getD,hr]
 rw [← e,hk] at this
 cases this
 simp [List.getD_eq_getElem?_getD,hr]
def MemR (ks:Env Int) (p:Pr) (mem:List Vl):Prop:=mem.length=(Zab 0 p.terms).length∧∀ j (h:j<(Zab 0 p.terms).length),Zar (mem.getD j vz) (Zan ks (Zab 0 p.terms)[j].1)=true
def kmOf (ks:Env Int) (p:Pr) (j:Nat):Int:=Zan ks ((Zab 0 p.terms).getD j d0).1
theorem placed_all (ks:Env Int) (p:Pr):Zfs ks (kmOf ks p) 0 p.terms:=fun j x hx=>by
 unfold kmOf
 rw [Nat.zero_add,List.getD_eq_getElem?_getD,hx]
 rfl
theorem placed_with {ks:Env Int} {KM:Nat→Int}:∀ {l:List Ex} {m:Nat},Zfs ks KM m l→∀ x∈Zba m l,Zeg ks KM x.2 x.1
 | [],_,_,x,hx=>by simp [Zba] at hx
 | e :: l,m,h,x,hx=>by
  simp only [Zba,List.mem_cons] at hx
  rcases hx with rfl | hx
  ·exact h.cons.1
  exact placed_with h.cons.2 x hx
theorem Zfg:∀ (a b:List Ex) (m:Nat),Zba m (a++b)=Zba m a++Zba (m+Zam a) b
 | [],b,m=>by simp [Zba,Zam]
 | e :: a,b,m=>by simp only [List.cons_append,Zba,Zam,Zfg a b,Nat.add_assoc]
theorem cd_with (p:Pr) (ord:List Nat):Zba 0 p.terms=(cdOf p ord).fs++(cdOf p ord).av++(cdOf p ord).cv:=by
 unfold Pr.terms cdOf
 rw [Zfg,Zfg,Zcb,Nat.zero_add,Nat.zero_add]
theorem memR_get {ks:Env Int} {p:Pr} {mem:List Vl} (h:MemR ks p mem) (j:Nat) (hj:j<Zam p.terms):Zar (mem.getD j vz) (kmOf ks p j)=true:=by
 have hj':j<(Zab 0 p.terms).length:=by rw [Za1];exact hj
 have:=h.2 j hj'
 unfold kmOf
 rw [show (Zab 0 p.terms).getD j d0=(Zab 0 p.terms)[j] from by simp [List.getD_eq_getElem?_getD,hj']]
 exact this
theorem last_kind {ks:Env Int} {o:ByteArray} {n:Int} {s:ByteArray} {l:List Ex} (ho:o=oPre∨o=oFby) (h:Zan ks (.mk o n s l)≠0) {k:Nat} (hk:k≤1) (hl:l.length=k+1):Zan ks (l[k]'(by omega))=Zan ks (.mk o n s l):=by
 obtain⟨hkb,_⟩:=Zea h
 rw [hkb] at h ⊢
 have e:Zch o ((ks s).getD 0) (Zao ks l)=(if (decide (0<(Zao ks l).length)&&decide ((Zao ks l).headD 0=(Zao ks l).getLastD 0))=true then (Zao ks l).headD 0 else 0):=by
  rcases ho with rfl | rfl<;>rfl
 rw [e] at h ⊢
 split
 ·rename_i hc
  rw [Zc6] at hc ⊢
  have hk':k=0∨k=1:=by omega
  rcases hk' with rfl | rfl
  ·match l,hl with
   | [a],_=>rfl
  simp only [Bool.and_eq_true,decide_eq_true_eq] at hc
  obtain⟨q1,q2⟩:=two_ends (Zan ks) hl
  rw [hc.2]
  exact q2.symm
 rename_i hc;rw [if_neg hc] at h;exact absurd rfl h
theorem mem_kind {ks:Env Int}:∀ (e:Ex),Zan ks e≠0→∀ m,∀ x∈Zbs m e,Zan ks x.1≠0:=by
 refine Ex.ind fun o n s l ih h m x hx=>?_
 have hp:=(Zea h).2
 simp only [Zbs,List.mem_append] at hx
 rcases hx with hx | hx
 ·obtain⟨i,hi,hx⟩:=Zcx hx
  exact ih _ (List.getElem_mem hi) (hp _ (List.getElem_mem hi)) _ x hx
 split at hx
 ·rw [List.mem_singleton.1 hx];exact h
 cases hx
theorem fl_term (p:Pr) (k:Nat) (hk:k<p.fl.length):∃ h:k<p.terms.length,p.terms[k]=p.fl[k].e:=by
 have h:k<p.terms.length:=by unfold Pr.terms;simp;omega
 exact⟨h,by simp [Pr.terms,List.getElem_append,hk]⟩
theorem inst_right {p:Pr} (h:(Za2 p).1=0) {ks:Env Int} (hks:Zap Env.none p.vars=some ks) {ord:List Nat} (ho:Zbf p = .ok ord) (nb:Bool) {ni:Int} (hni : -128≤ni∧ni≤127) (first:Bool) {mem inp:List Vl} (hm:MemR ks p mem) (hi:Zav p.ins inp inp.length=true) {N:List Vl×Bool}
  (hN:N=nowM ⟨ks,Zac p,getI (Zai p),nb,ni⟩ first mem inp (cdOf p ord).fs ord (List.replicate p.fl.length vz) false):
  (∀ e m,Zaf ks e=true→Zan ks e≠0→Zeg ks (kmOf ks p) m e→m+memN e≤Zam p.terms→Zar (Zbo ⟨ks,Zac p,getI (Zai p),nb,ni⟩ ⟨first,mem,inp,N.1⟩ m e).1 (Zan ks e)=true)∧
  (∀ k,k<p.fl.length→Zar (N.1.getD k vz) ((p.fl.map (·.kind)).getD k 0)=true)∧MemR ks p (Zeh ⟨ks,Zac p,getI (Zai p),nb,ni⟩ ⟨first,mem,inp,N.1⟩ (cdOf p ord).ms).1:=by
 obtain⟨hck,hlen,hlow⟩:=Zbk ho
 have hterm:=Zey hck hks
 have hR:=ty_of hck hks (nb:=nb) hni hi
 have hfls:(cdOf p ord).fs.length=p.fl.length:=by simp [cdOf,Zb8]
 obtain⟨f1,f2,_⟩:=now_fix h hks ho ⟨ks,Zac p,getI (Zai p),nb,ni⟩ rfl first mem inp
 have hord:=Zfj ho
 have hall:=Zf3 ho
 rw [← hN] at f1 f2
 have hE:∀ e m,Zaf ks e=true→Zan ks e≠0→Zeg ks (kmOf ks p) m e→m+memN e≤Zam p.terms→(∀ k∈needs p.atOf e,k<p.fl.length→Zar (N.1.getD k vz) ((p.fl.map (·.kind)).getD k 0)=true)→Zar (Zbo ⟨ks,Zac p,getI (Zai p),nb,ni⟩ ⟨first,mem,inp,N.1⟩ m e).1 (Zan ks e)=true:=fun e m h1 h2 h3 h4 h5=>
  ty_eval (r:=⟨first,mem,inp,N.1⟩) hR e h1 h2 m h3 (fun j hj=>memR_get hm _ (by omega)) h5
 have hfl:∀ i (hi:i<ord.length),Zar (N.1.getD ord[i] vz) ((p.fl.map (·.kind)).getD ord[i] 0)=true:=by
  intro i
  induction i using Nat.strongRecOn with
  | ind i ih=>
   intro hi
   have hk:=hlow _ (List.getElem_mem hi)
   obtain⟨hkt,hke⟩:=fl_term p _ hk
   have hx:(p.fl[ord[i]].e,flAt p ord[i])∈(cdOf p ord).fs:=by
    have:=Zib p ord ord[i] hk
    rw [← this,List.getD_eq_getElem?_getD,List.getElem?_eq_getElem (by omega)]
    exact List.getElem_mem _
   have hmem:p.fl[ord[i]].e∈p.terms:=hke▸List.getElem_mem hkt
   obtain⟨t1,t2⟩:=hterm _ hmem
   have:=hE p.fl[ord[i]].e (flAt p ord[i]) t1 t2 (placed_with (placed_all ks p) _ (by rw [cd_with p ord];exact List.mem_append_left _ (List.mem_append_left _ hx))) (cd_terms (.inl hx)).2 (fun k hkn hkl=>by
    have ht:=(hord i hi).2 k (by
     have:p.graph.getD ord[i] []=needs p.atOf p.fl[ord[i]].e:=by simp [Pr.graph,List.getD_eq_getElem?_getD,hk]
     rw [this];exact hkn)
    obtain⟨j,hj,e⟩:=List.mem_iff_getElem.1 ht
    have hji:j<i:=by simp at hj;omega
    have hjo:j<ord.length:=by omega
    have e':ord[j]=k:=by simpa using e
    rw [← e']
    exact ih j hji hjo)
   rw [← f2 _ hk] at this
   have hkk:Zan ks p.fl[ord[i]].e=(p.fl.map (·.kind)).getD ord[i] 0:=by
    obtain⟨ks',hks',_,_,_,_,_,hkg⟩:=Zb4 hck
    rw [hks] at hks'
    cases hks'
    have:=(Zct ks _ _).1 hkg _ hkt
    rw [hke] at this
    rw [this]
    simp [List.getD_eq_getElem?_getD,hk]
   rw [hkk] at this
   exact this
 have hN:∀ k,k<p.fl.length→Zar (N.1.getD k vz) ((p.fl.map (·.kind)).getD k 0)=true:=fun k hk=>by
  obtain⟨i,hi,e⟩:=List.mem_iff_getElem.1 (hall k hk)
  rw [← e];exact hfl i hi
 refine⟨fun e m h1 h2 h3 h4=>hE e m h1 h2 h3 h4 fun k _ hk=>hN k hk,hN,?_⟩
 have hms:(cdOf p ord).ms=(Zab 0 p.terms).map Zdl:=Zdj _ _
 have hl3:(cdOf p ord).ms.length=(Zab 0 p.terms).length:=by rw [hms,List.length_map]
 refine⟨by simp [Zeh,hl3],fun j hj=>?_⟩
 have hx:=List.getElem_mem hj
 have hk0:Zan ks (Zab 0 p.terms)[j].1≠0:=by
  obtain⟨i,hi,hxi⟩:=Zcx hx
  exact mem_kind _ (hterm _ (List.getElem_mem hi)).2 _ _ hxi
 have hpl:Zeg ks (kmOf ks p) (Zab 0 p.terms)[j].2 (Zab 0 p.terms)[j].1:=by
  obtain⟨i,hi,hxi⟩:=Zcx hx
  exact Zeg.nds _ _ ((placed_all ks p).at i hi) _ hxi
 obtain⟨k,hk1,hk,hlast⟩:=ms_last (ks:=ks) (fun e he=>(hterm e he).1) hx
 have hop:=(Zdw ks p.terms (fun e he=>(hterm e he).1) 0 _ hx).2
 have hgd:(Zeh ⟨ks,Zac p,getI (Zai p),nb,ni⟩ ⟨first,mem,inp,N.1⟩ (cdOf p ord).ms).1.getD j vz=(Zbo ⟨ks,Zac p,getI (Zai p),nb,ni⟩ ⟨first,mem,inp,N.1⟩ (Zdl (Zab 0 p.terms)[j]).2 (Zdl (Zab 0 p.terms)[j]).1).1:=by
  simp [Zeh,hms,List.getD_eq_getElem?_getD,hj]
 rw [hgd]
 generalize (Zab 0 p.terms)[j]=x at *
 obtain⟨g1,g2,_,g4⟩:=hlast (by omega)
 rw [g1]
 obtain⟨⟨o,n,s,l⟩,m⟩:=x
 have hk:l.length=k+1:=hk
 have hop:o=oPre∨o=oFby:=hop
 have hkl:Zan ks (l[k]'(by omega))=Zan ks (.mk o n s l):=last_kind hop hk0 hk1 hk
 have:=hE (l[k]'(by omega)) (m+Zam (l.take k)) g2 (by rw [hkl];exact hk0) (hpl.parts.1.at k (by omega)) g4 fun y _ hy=>hN y hy
 rw [hkl] at this
 exact this
theorem start_right {p:Pr} (hck:Zaj p=0) {ks:Env Int} (hks:Zap Env.none p.vars=some ks) (nb:Bool) {ni:Int} (hni : -128≤ni∧ni≤127):MemR ks p (Zbb ⟨ks,Zac p,getI (Zai p),nb,ni⟩ (Zab 0 p.terms)):=by
 refine⟨by simp [Zbb],fun j hj=>?_⟩
 have hx:=List.getElem_mem hj
 have hterm:=Zey hck hks
 have hk0:Zan ks (Zab 0 p.terms)[j].1≠0:=by
  obtain⟨i,hi,hxi⟩:=Zcx hx
  exact mem_kind _ (hterm _ (List.getElem_mem hi)).2 _ _ hxi
 have e:(Zbb ⟨ks,Zac p,getI (Zai p),nb,ni⟩ (Zab 0 p.terms)).getD j vz=nilV nb ni (Zan ks (Zab 0 p.terms)[j].1):=by simp [Zbb,List.getD_eq_getElem?_getD,hj]
 rw [e]
 exact right_nil hni.1 hni.2 ((kind_two (Zgd _ _ _ hks (fun s k h=>by simp [Env.none] at h)) _).resolve_left hk0)
structure Mc where
 first:Bool
 mem:List Vl
 trapped:Bool
def noT:Tk:=⟨[],false,false,[]⟩
def Zc3 (R:REnv) (c:Cd) (ins:List Vr) (s:Mc) (inp:List Vl):Nat×Tk×Mc:=
 if s.trapped then (0,trapT,s)
 else if Zav ins inp inp.length=true then (if (Zco R c s.first s.mem inp).1.trap=true then (0,(Zco R c s.first s.mem inp).1,⟨s.first,s.mem,true⟩) else (0,(Zco R c s.first s.mem inp).1,⟨false,(Zco R c s.first s.mem inp).2,false⟩))
 else (5,noT,s)
def stateM (s:Mc):List Vl:=tv s.first :: s.mem
def kindsL (ks:Env Int) (p:Pr):List Int:=1 :: (Zab 0 p.terms).map fun x=>Zan ks x.1
def rightTo (K:List Int) (l:List Vl) (k:Nat):Bool:=decide (l.length=K.length)&&(List.range k).all fun i=>Zar (l.getD i vz) (K.getD i 0)
def putM (l:List Vl):Mc:=⟨decide ((l.getD 0 vz).n=1),l.drop 1,false⟩
def goM (R:REnv) (c:Cd) (ins:List Vr):Mc→List (List Vl)→Mc
 | s,[]=>s
 | s,l :: r=>goM R c ins (Zc3 R c ins s l).2.2 r
def toldM (R:REnv) (c:Cd) (ins:List Vr):Mc→List (List Vl)→List Tk
 | _,[]=>[]
 | s,l :: r=>(if (Zc3 R c ins s l).1=0 then [(Zc3 R c ins s l).2.1] else [])++toldM R c ins (Zc3 R c ins s l).2.2 r
end Go.Proofs.YtgoccoldkfpbgaaGreatDoor
