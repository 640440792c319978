/- The state of flow.Code.Tick: an instant, its row of values, what is told: no function of the program in sight. -/
import Derived.Test.YtofameafdnkijaaGreatDoorRg
import Derived.Test.YtofameafdnkijaaGreatDoorCpM
import Derived.Test.YtofameafdnkijaaGreatDoorEv
set_option linter.all false
namespace Go.Proofs.YtofameafdnkijaaGreatDoor
open Go.RowKit Mx
theorem cd_terms {p:Pr} {ord:List Nat} {x:Ex×Nat} (h:x∈(cdOf p ord).fs∨x∈(cdOf p ord).av∨x∈(cdOf p ord).cv):x.1∈p.terms∧x.2+memN x.1≤Zal p.terms:=by
 have ht:Zal p.terms=Zal (p.fl.map (·.e))+Zal p.as+Zal p.cs:=by unfold Pr.terms;rw [Zch,Zch]
 simp only [cdOf] at h
 rcases h with h | h | h
 ·have h1:=Zdt h
  have h2:=Zgq _ _ x h
  exact⟨List.mem_append_left _ (List.mem_append_left _ h1),by omega⟩
 ·have h1:=Zdt h
  have h2:=Zgq _ _ x h
  exact⟨List.mem_append_left _ (List.mem_append_right _ h1),by omega⟩
 have h1:=Zdt h
 have h2:=Zgq _ _ x h
 exact⟨List.mem_append_right _ h1,by omega⟩
mutual
theorem memNds_parts:∀ (e:Ex) (m:Nat),∀ x∈Zca m e,x.1.parts≤e.parts
 | .mk o n s l,m,x,h=>by
  simp only [Zca,List.mem_append] at h
  rcases h with h | h
  ·have:=Zfo l m x h
   simp only [Ex.parts]
   omega
  split at h
  ·rw [List.mem_singleton.1 h];exact Nat.le_refl _
  cases h
theorem Zfo:∀ (l:List Ex) (m:Nat),∀ x∈Zah m l,x.1.parts≤Ex.partsL l
 | [],m,x,h=>by simp [Zah] at h
 | e :: l,m,x,h=>by
  simp only [Zah,List.mem_append] at h
  simp only [Ex.partsL]
  rcases h with h | h
  ·have:=memNds_parts e m x h
   omega
  have:=Zfo l (m+memN e) x h
  omega
end
theorem lastD_take {α:Type}:∀ (l:List α) (d:α) (k:Nat) (h:k<l.length),l.length=k+1→l.getLastD d=l[k]∧l.dropLast=l.take k:=fun l d k h hk=>by
 have h1:l≠[]:=fun e=>by rw [e] at h;simp at h
 refine⟨?_,?_⟩
 ·rw [List.getLastD_eq_getLast?,List.getLast?_eq_getElem?,show l.length - 1=k from by omega,List.getElem?_eq_getElem h];rfl
 rw [List.dropLast_eq_take,show l.length - 1=k from by omega]
theorem ms_last {ks:Env Int} {p:Pr} (hf:∀ e∈p.terms,Zad ks e=true) {x:Ex×Nat} (h:x∈Zah 0 p.terms):
  ∃ k,k≤1∧x.1.l.length=k+1∧∀ hk:k<x.1.l.length,Zft x=(x.1.l[k],x.2+Zal (x.1.l.take k))∧Zad ks x.1.l[k]=true∧x.1.l[k].parts≤Ex.partsL p.terms∧x.2+Zal (x.1.l.take k)+memN x.1.l[k]≤Zal p.terms:=by
 obtain⟨f1,f2⟩:=Zgg ks p.terms hf 0 x h
 have f3:=Zhx p.terms 0 x h
 have f4:=Zfo p.terms 0 x h
 obtain⟨⟨o,n,s,l⟩,m⟩:=x
 simp only [Ex.op,Ex.l,memN] at f2 f3 f4 ⊢
 obtain⟨hsub,hfby,_,hpre,_⟩:=Zaz f1
 have hl:∃ k,k≤1∧l.length=k+1:=by
  rcases f2 with e | e
  ·exact⟨0,by omega,hpre e⟩
  exact⟨1,by omega,hfby e⟩
 obtain⟨k,hk1,hk⟩:=hl
 rw [if_pos f2] at f3
 refine⟨k,hk1,hk,fun hkl=>?_⟩
 obtain⟨g1,g2⟩:=lastD_take l (.mk o n s l) k hkl hk
 have t1:=Zfa l k hkl
 have t2:=Zc8 l (k+1)
 have t3:=Za5 l k hkl
 simp only [Ex.parts] at f4
 refine⟨?_,hsub _ (List.getElem_mem hkl),by omega,by omega⟩
 unfold Zft
 simp only [Ex.l]
 rw [g1,g2]
theorem vlX_set:∀ (l:List Vl) (k:Nat) (x:Vl),k<l.length→((vlX l).toArray.setIfInBounds (2 * k) (.int .i64 x.kind)).setIfInBounds (2 * k+1) (.int .i64 x.n)=(vlX (l.set k x)).toArray:=by
 intro l k x hk
 apply Array.ext'
 simp only [Array.toList_setIfInBounds]
 induction l generalizing k with
 | nil=>simp at hk
 | cons y l ih=>
  cases k with
  | zero=>simp [vlX]
  | succ k=>
   have:=ih k (by simpa using hk)
   simp only [vlX,List.flatMap_cons,List.set_cons_succ] at this ⊢
   rw [show 2 * (k+1)+1=(2 * k+1)+1+1 from by omega,show 2 * (k+1)=2 * k+1+1 from by omega]
   simp only [List.cons_append,List.nil_append,List.set_cons_succ]
   rw [this]
theorem vlX_zero (n:Nat):madeCells #[.int .i64 0,.int .i64 0] (n * 2)=(vlX (List.replicate n vz)).toArray:=by
 apply Array.ext_getElem?
 intro i
 have hl:(vlX (List.replicate n vz)).length=2 * n:=by rw [vlX_len,List.length_replicate]
 by_cases hi:i<2 * n
 ·have h2:i / 2<(List.replicate n vz).length:=by simp;omega
  obtain⟨x0,x1⟩:=Zfi (List.replicate n vz) (i / 2) h2
  rw [List.getElem_replicate] at x0 x1
  have hi2:i<n * 2:=by omega
  have hr:(Array.range (n * 2))[i]?=some i:=by simp [hi2]
  have hm:(madeCells #[.int .i64 0,.int .i64 0] (n * 2))[i]?=some (.int .i64 0):=by
   rcases Nat.mod_two_eq_zero_or_one i with h | h<;>simp [madeCells,hi2,h]
  rw [hm,List.getElem?_toArray]
  rcases Nat.mod_two_eq_zero_or_one i with h | h
  ·rw [show 2 * (i / 2)=i from by omega] at x0
   exact x0.symm
  rw [show 2 * (i / 2)+1=i from by omega] at x1
  exact x1.symm
 rw [Array.getElem?_eq_none (by simp [madeCells];omega),Array.getElem?_eq_none (by simp [hl];omega)]
theorem run_make_vals {P:Program} (t e:TypeId) (ht:P.underlying t=some (.slice e)) (hinfo:(P.info? e).map (fun i=>(i.zero,i.size,i.bytes))=some (some (.agg #[.int .i64 0,.int .i64 0]),2,16)) (n:Nat) (hn:n≤1000000000) (w:World):
  (Instr.makeSlice t (.int .i64 (n:Int)) (.int .i64 (n:Int))).run P w = .ok (.slice (some ⟨w.heap.size,0,none⟩) n n) (w.alloc (.cells (vlX (List.replicate n vz)).toArray e)):=by
 obtain⟨i,hi,hz,hs,hb⟩:=info_parts hinfo
 have hr:=run_make (P:=P) w t e i _ ht hi hz .i64 .i64 n n (by omega) (Int.le_refl _) (by rw [hb];omega) (by omega)
 simp only [Int.toNat_natCast,hs] at hr
 rw [← vlX_zero]
 exact hr
theorem vls_of_block {K:Kn} {NW:Nat} {T:TypeId} {fr:Nat×Nat} {l:List Vl} (h:K NW=some (.cells (vlX l).toArray T fr)) (hl:l.length≤maxLen):VlsV K l (.slice (some ⟨NW,0,none⟩) l.length l.length):=by
 by_cases h0:l=[]
 ·subst h0;exact .inl ⟨rfl,_,_,rfl⟩
 refine .inr ⟨NW,0,l.length,rfl,Nat.le_refl _,hl,fun i hi=>?_⟩
 obtain⟨x0,x1⟩:=Zfi l i hi
 have hc:∀ j,K.cell NW j=(vlX l)[j]?:=fun j=>by unfold Kn.cell;rw [h];simp
 refine⟨?_,?_⟩
 ·show K.cell NW (0+i * 2+0)=_
  rw [hc,show 0+i * 2+0=2 * i from by omega];exact x0
 show K.cell NW (0+i * 2+1)=_
 rw [hc,show 0+i * 2+1=2 * i+1 from by omega];exact x1
theorem Zj7 {W:World} {b:Nat} {x y z u:Value} {t:TypeId} (h:W.heap[b]?=some (.cells #[x,y,z,u] t (0,0))):
  W.cell? ⟨b,0,none⟩=some x∧W.cell? ⟨b,1,none⟩=some y∧W.cell? ⟨b,2,none⟩=some z∧W.cell? ⟨b,3,none⟩=some u∧(∀ i,i<4→W.frozen? ⟨b,i,none⟩=false)∧b<W.heap.size:=
 ⟨by simp [World.cell?,h],by simp [World.cell?,h],by simp [World.cell?,h],by simp [World.cell?,h],fun i _=>by simp [World.frozen?,h],(Zlt h)⟩
def put4 (W:World) (b:Nat) (x y z u:Value):World:=(((W.setCell ⟨b,0,none⟩ x).setCell ⟨b,1,none⟩ y).setCell ⟨b,2,none⟩ z).setCell ⟨b,3,none⟩ u
theorem put4_heap {W:World} {b:Nat} {x y z u:Value} {t:TypeId} (h:W.heap[b]?=some (.cells #[x,y,z,u] t (0,0))) (x' y' z' u':Value):(put4 W b x' y' z' u').heap[b]?=some (.cells #[x',y',z',u'] t (0,0)):=by
 unfold put4
 have h1:=Zab W b 0 x' _ _ _ h
 have h2:=Zab _ b 1 y' _ _ _ h1
 have h3:=Zab _ b 2 z' _ _ _ h2
 have h4:=Zab _ b 3 u' _ _ _ h3
 rw [h4];rfl
theorem put4_below {base b:Nat} {w W:World} (h:Below base w W) (hb:base≤b) (x y z u:Value):Below base w (put4 W b x y z u):=
 (((h.setCell (p:=⟨b,0,none⟩) hb x).setCell (p:=⟨b,1,none⟩) hb y).setCell (p:=⟨b,2,none⟩) hb z).setCell (p:=⟨b,3,none⟩) hb u
structure TkS (IT VT DT:TypeId) (R:REnv) (r:Inst) (H:Kn) (w0 wr:World) (I NW RC:Nat) (cp vm vi:Value) (n:Nat) (t:Bool):Prop where
 isin:H.In wr
 below:Below w0.heap.size w0 wr
 inst:wr.heap[I]?=some (.cells (Zcz cp R r vm vi (.slice (some ⟨NW,0,none⟩) n n) t) IT (0,0))
 now:wr.heap[NW]?=some (.cells (vlX r.now).toArray VT (0,0))
 res:wr.heap[RC]?=some (.cells #[.slice none 0 0,.bool false,.bool false,.slice none 0 0] DT (0,0))
 len:r.now.length=n
 hn:n≤1000000000
 apart:NW≠I∧RC≠I∧RC≠NW∧w0.heap.size≤NW∧w0.heap.size≤I∧w0.heap.size≤RC
 low:H.In w0
section
variable {IT VT DT : TypeId} {R : REnv} {r : Inst} {H : Kn} {w0 wr : World} {I NW RC : Nat} {cp vm vi : Value} {n : Nat} {t : Bool}
theorem TkS.noI (h:TkS IT VT DT R r H w0 wr I NW RC cp vm vi n t):H I=none:=h.low.isNone h.apart.2.2.2.2.1
theorem TkS.noW (h:TkS IT VT DT R r H w0 wr I NW RC cp vm vi n t):H NW=none:=h.low.isNone h.apart.2.2.2.1
theorem TkS.noR (h:TkS IT VT DT R r H w0 wr I NW RC cp vm vi n t):H RC=none:=h.low.isNone h.apart.2.2.2.2.2
theorem TkS.next {w':World} (h:TkS IT VT DT R r H w0 wr I NW RC cp vm vi n t) (hb:Below wr.heap.size wr w'):TkS IT VT DT R r H w0 w' I NW RC cp vm vi n t:=
 ⟨h.isin.below hb,h.below.trans (hb.mono h.below.size),by rw [hb.block I (Zlt h.inst)];exact h.inst,by rw [hb.block NW (Zlt h.now)];exact h.now,by rw [hb.block RC (Zlt h.res)];exact h.res,h.len,h.hn,h.apart,h.low⟩
theorem TkS.alloc (h:TkS IT VT DT R r H w0 wr I NW RC cp vm vi n t) (o:Obj):TkS IT VT DT R r H w0 (wr.alloc o) I NW RC cp vm vi n t:=h.next ((Below.refl _ _).alloc (Nat.le_refl _) o)
theorem TkS.c (h:TkS IT VT DT R r H w0 wr I NW RC cp vm vi n t) (i:Nat):wr.cell? ⟨I,i,none⟩=(Zcz cp R r vm vi (.slice (some ⟨NW,0,none⟩) n n) t)[i]?:=by
 have hb:=h.inst
 simp [World.cell?,hb]
theorem TkS.kn (h:TkS IT VT DT R r H w0 wr I NW RC cp vm vi n t):H.le (noKn I wr)∧VlsV (noKn I wr) r.now (.slice (some ⟨NW,0,none⟩) n n):=by
 refine⟨Ziy h.isin h.noI,?_⟩
 have hb:(noKn I wr) NW=some (.cells (vlX r.now).toArray VT (0,0)):=by unfold noKn;rw [if_neg h.apart.1];exact h.now
 have:=vls_of_block hb (by rw [h.len];have:=h.hn;unfold maxLen;omega)
 rw [h.len] at this
 exact this
theorem TkS.evald {w':World} (h:TkS IT VT DT R r H w0 wr I NW RC cp vm vi n t) {b:Bool} (hg:wr.grownBy w' (some I)) (hi:w'.heap[I]?=some (.cells (Zcz cp R r vm vi (.slice (some ⟨NW,0,none⟩) n n) (t || b)) IT (0,0))):
  TkS IT VT DT R r H w0 w' I NW RC cp vm vi n (t || b):=by
 obtain⟨a1,a2,a3,a4,a5,a6⟩:=h.apart
 refine⟨h.isin.grown hg fun g hg=>by cases hg;exact h.noI,⟨hg.os.trans h.below.os,hg.tape.trans h.below.tape,hg.output.trans h.below.output,Nat.le_trans h.below.size hg.size,fun i hi=>?_⟩,hi,?_,?_,h.len,h.hn,h.apart,h.low⟩
 ·rw [hg.block i (Nat.lt_of_lt_of_le hi h.below.size) (fun e=>by cases e;omega)];exact h.below.block i hi
 ·rw [hg.block NW (Zlt h.now) (fun e=>by cases e;exact a1 rfl)];exact h.now
 rw [hg.block RC (Zlt h.res) (fun e=>by cases e;exact a2 rfl)];exact h.res
theorem TkS.put (h:TkS IT VT DT R r H w0 wr I NW RC cp vm vi n t) {k:Nat} (hk:k<n) (x:Vl):
  ∃ a b,wr.cell? ⟨NW,k * 2,none⟩=some a∧wr.cell? ⟨NW,k * 2+1,none⟩=some b∧wr.frozen? ⟨NW,k * 2,none⟩=false∧wr.frozen? ⟨NW,k * 2+1,none⟩=false∧TkS IT VT DT R ⟨r.first,r.mem,r.inp,r.now.set k x⟩ H w0 ((wr.setCell ⟨NW,k * 2,none⟩ (.int .i64 x.kind)).setCell ⟨NW,k * 2+1,none⟩ (.int .i64 x.n)) I NW RC cp vm vi n t:=by
 obtain⟨a1,a2,a3,a4,a5,a6⟩:=h.apart
 have hkl:k<r.now.length:=by rw [h.len];exact hk
 have hlen:(vlX r.now).length=2 * n:=by rw [vlX_len,h.len]
 have hw:=h.now
 have hot:∀ i,i≠NW→((wr.setCell ⟨NW,k * 2,none⟩ (.int .i64 x.kind)).setCell ⟨NW,k * 2+1,none⟩ (.int .i64 x.n)).heap[i]?=wr.heap[i]?:=fun i hi=>by
  rw [Below.heap_setCell _ ⟨NW,k * 2+1,none⟩ _ i hi,Below.heap_setCell _ ⟨NW,k * 2,none⟩ _ i hi]
 have h2:k * 2<(vlX r.now).length:=by omega
 have h3:k * 2+1<(vlX r.now).length:=by omega
 refine⟨(vlX r.now)[k * 2],(vlX r.now)[k * 2+1],by simp [World.cell?,hw,h2],by simp [World.cell?,hw,h3],by simp [World.frozen?,hw],by simp [World.frozen?,hw],(h.isin.setCell (a:=⟨NW,k * 2,none⟩) h.noW _).setCell (a:=⟨NW,k * 2+1,none⟩) h.noW _,(h.below.setCell (p:=⟨NW,k * 2,none⟩) a4 _).setCell (p:=⟨NW,k * 2+1,none⟩) a4 _,?_,?_,?_,by simp [h.len],h.hn,h.apart,h.low⟩
 ·rw [hot I (Ne.symm a1)];exact h.inst
 ·have h1:=Zab wr NW (k * 2) (.int .i64 x.kind) _ _ _ hw
  rw [Zab _ NW (k * 2+1) (.int .i64 x.n) _ _ _ h1,Nat.mul_comm k 2,vlX_set _ _ _ hkl]
 rw [hot RC a3];exact h.res
end
theorem TkS.keep {IT VT DT:TypeId} {R:REnv} {r:Inst} {H:Kn} {w0 wr w':World} {I NW RC:Nat} {cp vm vi:Value} {n:Nat} {t:Bool} (h:TkS IT VT DT R r H w0 wr I NW RC cp vm vi n t) (hin:H.In w') (hb:Below w0.heap.size w0 w') (hI:w'.heap[I]?=wr.heap[I]?) (hN:w'.heap[NW]?=wr.heap[NW]?) (hR:w'.heap[RC]?=wr.heap[RC]?):TkS IT VT DT R r H w0 w' I NW RC cp vm vi n t:=
 ⟨hin,hb,hI.trans h.inst,hN.trans h.now,hR.trans h.res,h.len,h.hn,h.apart,h.low⟩
structure TkT (IT VT DT BT:TypeId) (R:REnv) (r:Inst) (H:Kn) (w0 wr:World) (I NW RC:Nat) (cp vm vi:Value) (n:Nat) (t:Bool) (TB base:Nat) (a:Bool) (ov:Value) (outs:List Vl) (cv:Value) (cks:List Bool) (nx:Value) (nxt:List Vl):Prop where
 s:TkS IT VT DT R r H w0 wr I NW RC cp vm vi n t
 tb:wr.heap[TB]?=some (.cells #[ov,.bool a,.bool false,cv] DT (0,0))
 rc:wr.ownsRow base BT 1 cv cks.length (cks.map .bool)
 rn:wr.ownsRow base VT 2 nx nxt.length (vlX nxt)
 ro:wr.ownsRow base VT 2 ov outs.length (vlX outs)
 ap:∀ g,nx.ownBlock=some g→ov.ownBlock≠some g
 bs:I<base∧NW<base∧RC<base∧TB<base∧base≤wr.heap.size
 tbn:TB≠I∧TB≠NW∧TB≠RC∧w0.heap.size≤TB
 ne:BT≠VT
section
variable {IT VT DT BT : TypeId} {R : REnv} {r : Inst} {H : Kn} {w0 wr : World} {I NW RC : Nat} {cp vm vi : Value} {n : Nat} {t : Bool} {TB base : Nat} {a : Bool} {ov : Value} {outs : List Vl} {cv : Value} {cks : List Bool} {nx : Value} {nxt : List Vl}
theorem TkT.next {w':World} (h:TkT IT VT DT BT R r H w0 wr I NW RC cp vm vi n t TB base a ov outs cv cks nx nxt) (hb:Below wr.heap.size wr w'):TkT IT VT DT BT R r H w0 w' I NW RC cp vm vi n t TB base a ov outs cv cks nx nxt:=
 ⟨h.s.next hb,by rw [hb.block TB (Zlt h.tb)];exact h.tb,Zao h.rc hb,Zao h.rn hb,Zao h.ro hb,h.ap,⟨h.bs.1,h.bs.2.1,h.bs.2.2.1,h.bs.2.2.2.1,Nat.le_trans h.bs.2.2.2.2 hb.size⟩,h.tbn,h.ne⟩
theorem TkT.alloc (h:TkT IT VT DT BT R r H w0 wr I NW RC cp vm vi n t TB base a ov outs cv cks nx nxt) (o:Obj):TkT IT VT DT BT R r H w0 (wr.alloc o) I NW RC cp vm vi n t TB base a ov outs cv cks nx nxt:=h.next ((Below.refl _ _).alloc (Nat.le_refl _) o)
theorem TkT.c (h:TkT IT VT DT BT R r H w0 wr I NW RC cp vm vi n t TB base a ov outs cv cks nx nxt) (i:Nat):wr.cell? ⟨TB,i,none⟩=(#[ov,.bool a,.bool false,cv]:Array Value)[i]?:=by
 have hb:=h.tb
 simp [World.cell?,hb]
theorem TkT.f (h:TkT IT VT DT BT R r H w0 wr I NW RC cp vm vi n t TB base a ov outs cv cks nx nxt) (i:Nat):wr.frozen? ⟨TB,i,none⟩=false:=by
 have hb:=h.tb
 simp [World.frozen?,hb]
theorem TkT.low (h:TkT IT VT DT BT R r H w0 wr I NW RC cp vm vi n t TB base a ov outs cv cks nx nxt):base≤wr.heap.size:=h.bs.2.2.2.2
theorem TkT.evald {w':World} (h:TkT IT VT DT BT R r H w0 wr I NW RC cp vm vi n t TB base a ov outs cv cks nx nxt) {b:Bool} (hg:wr.grownBy w' (some I)) (hi:w'.heap[I]?=some (.cells (Zcz cp R r vm vi (.slice (some ⟨NW,0,none⟩) n n) (t || b)) IT (0,0))):
  TkT IT VT DT BT R r H w0 w' I NW RC cp vm vi n (t || b) TB base a ov outs cv cks nx nxt:=by
 have hI:=h.bs.1
 have hno:∀ {e:TypeId} {k m:Nat} {v:Value} {xs:List Value},wr.ownsRow base e k v m xs→w'.ownsRow base e k v m xs:=fun hr=>Zc4 hr hg fun g hu e=>by cases e;have:=(hr.lt _ hu).1;omega
 exact⟨h.s.evald hg hi,by rw [hg.block TB (Zlt h.tb) (fun e=>by cases e;exact h.tbn.1 rfl)];exact h.tb,hno h.rc,hno h.rn,hno h.ro,h.ap,⟨h.bs.1,h.bs.2.1,h.bs.2.2.1,h.bs.2.2.2.1,Nat.le_trans h.bs.2.2.2.2 hg.size⟩,h.tbn,h.ne⟩
theorem TkT.put (h:TkT IT VT DT BT R r H w0 wr I NW RC cp vm vi n t TB base a ov outs cv cks nx nxt) (i:Nat) (v:Value):
  TkS IT VT DT R r H w0 (wr.setCell ⟨TB,i,none⟩ v) I NW RC cp vm vi n t∧(wr.setCell ⟨TB,i,none⟩ v).heap[TB]?=some (.cells ((#[ov,.bool a,.bool false,cv]:Array Value).setIfInBounds i v) DT (0,0)):=by
 obtain⟨b1,b2,b3,b4⟩:=h.tbn
 have hot:∀ j,j≠TB→(wr.setCell ⟨TB,i,none⟩ v).heap[j]?=wr.heap[j]?:=fun j hj=>Below.heap_setCell _ ⟨TB,i,none⟩ _ j hj
 exact⟨h.s.keep (h.s.isin.setCell (a:=⟨TB,i,none⟩) (h.s.low.isNone b4) v) (h.s.below.setCell (p:=⟨TB,i,none⟩) b4 v) (hot I (Ne.symm b1)) (hot NW (Ne.symm b2)) (hot RC (Ne.symm b3)),Zab _ _ _ _ _ _ _ h.tb⟩
theorem TkT.setA (h:TkT IT VT DT BT R r H w0 wr I NW RC cp vm vi n t TB base a ov outs cv cks nx nxt) (b:Bool):TkT IT VT DT BT R r H w0 (wr.setCell ⟨TB,1,none⟩ (.bool b)) I NW RC cp vm vi n t TB base b ov outs cv cks nx nxt:=by
 obtain⟨h1,h2⟩:=h.put 1 (.bool b)
 have hT:=h.bs.2.2.2.1
 have hno:∀ {e:TypeId} {k m:Nat} {v:Value} {xs:List Value},wr.ownsRow base e k v m xs→(wr.setCell ⟨TB,1,none⟩ (.bool b)).ownsRow base e k v m xs:=fun hr=>Zaq hr (Zbn hr hT) _
 exact⟨h1,h2,hno h.rc,hno h.rn,hno h.ro,h.ap,⟨h.bs.1,h.bs.2.1,h.bs.2.2.1,hT,by simpa using h.bs.2.2.2.2⟩,h.tbn,h.ne⟩
theorem TkT.grow {w3:World} {row:Option Nat} (h:TkT IT VT DT BT R r H w0 wr I NW RC cp vm vi n t TB base a ov outs cv cks nx nxt) (hg:wr.grownBy w3 row) (hr:∀ g,row=some g→base≤g):
  TkS IT VT DT R r H w0 w3 I NW RC cp vm vi n t∧w3.heap[TB]?=some (.cells #[ov,.bool a,.bool false,cv] DT (0,0))∧base≤w3.heap.size:=by
 obtain⟨b1,b2,b3,b4,b5⟩:=h.bs
 obtain⟨a1,a2,a3,a4,a5,a6⟩:=h.s.apart
 have hbl:∀ j,j<base→w3.heap[j]?=wr.heap[j]?:=fun j hj=>hg.block j (by omega) (fun e=>by have:=hr j e.symm;omega)
 refine⟨h.s.keep (h.s.isin.grown hg fun g hgg=>h.s.low.isNone (by have:=hr g hgg;omega)) ⟨hg.os.trans h.s.below.os,hg.tape.trans h.s.below.tape,hg.output.trans h.s.below.output,Nat.le_trans h.s.below.size hg.size,fun i hi=>(hbl i (by omega)).trans (h.s.below.block i hi)⟩ (hbl I b1) (hbl NW b2) (hbl RC b3),(hbl TB b4).trans h.tb,Nat.le_trans b5 hg.size⟩
theorem TkT.appC {w3:World} {gg cap':Nat} {b:Bool} (h:TkT IT VT DT BT R r H w0 wr I NW RC cp vm vi n t TB base a ov outs cv cks nx nxt) (hown:w3.ownsRow base BT 1 (.slice (some ⟨gg,0,none⟩) (cks.length+1) cap') (cks.length+1) (cks.map .bool++[.bool b])) (hg:wr.grownBy w3 cv.ownBlock):
  w3.cell? ⟨TB,3,none⟩=some cv∧w3.frozen? ⟨TB,3,none⟩=false∧TkT IT VT DT BT R r H w0 (w3.setCell ⟨TB,3,none⟩ (.slice (some ⟨gg,0,none⟩) (cks.length+1) cap')) I NW RC cp vm vi n t TB base a ov outs (.slice (some ⟨gg,0,none⟩) (cks.length+1) cap') (cks++[b]) nx nxt:=by
 obtain⟨g1,g2,g3⟩:=h.grow hg fun g hgg=>(h.rc.lt g hgg).1
 have hT:=h.bs.2.2.2.1
 have rn3:=Zc4 h.rn hg fun g hu e=>Zgc h.rc h.rn h.ne g e hu
 have ro3:=Zc4 h.ro hg fun g hu e=>Zgc h.rc h.ro h.ne g e hu
 have hot:∀ j,j≠TB→(w3.setCell ⟨TB,3,none⟩ (.slice (some ⟨gg,0,none⟩) (cks.length+1) cap')).heap[j]?=w3.heap[j]?:=fun j hj=>Below.heap_setCell _ ⟨TB,3,none⟩ _ j hj
 obtain⟨b1,b2,b3,b4⟩:=h.tbn
 refine⟨by simp [World.cell?,g2],by simp [World.frozen?,g2],g1.keep (g1.isin.setCell (a:=⟨TB,3,none⟩) (h.s.low.isNone b4) _) (g1.below.setCell (p:=⟨TB,3,none⟩) b4 _) (hot I (Ne.symm b1)) (hot NW (Ne.symm b2)) (hot RC (Ne.symm b3)),Zab _ _ _ _ _ _ _ g2,?_,Zaq rn3 (Zbn rn3 hT) _,Zaq ro3 (Zbn ro3 hT) _,h.ap,⟨h.bs.1,h.bs.2.1,h.bs.2.2.1,hT,by simpa using g3⟩,h.tbn,h.ne⟩
 rw [List.map_append,List.length_append]
 exact Zaq hown (Zbn hown hT) _
theorem TkT.appN {w3:World} {gg cap':Nat} {x:Vl} (h:TkT IT VT DT BT R r H w0 wr I NW RC cp vm vi n t TB base a ov outs cv cks nx nxt) (hown:w3.ownsRow base VT 2 (.slice (some ⟨gg,0,none⟩) (nxt.length+1) cap') (nxt.length+1) (vlX nxt++[.int .i64 x.kind,.int .i64 x.n])) (hg:wr.grownBy w3 nx.ownBlock) (hat:nx.ownBlock=some gg∨gg=wr.heap.size):
  TkT IT VT DT BT R r H w0 w3 I NW RC cp vm vi n t TB base a ov outs cv cks (.slice (some ⟨gg,0,none⟩) (nxt.length+1) cap') (nxt++[x]):=by
 obtain⟨g1,g2,g3⟩:=h.grow hg fun g hgg=>(h.rn.lt g hgg).1
 refine⟨g1,g2,Zc4 h.rc hg fun g hu e=>Zgc h.rc h.rn h.ne g hu e,by rw [vlX_snoc,List.length_append];exact hown,Zc4 h.ro hg fun g hu e=>h.ap g e hu,fun g hgg hu=>?_,⟨h.bs.1,h.bs.2.1,h.bs.2.2.1,h.bs.2.2.2.1,g3⟩,h.tbn,h.ne⟩
 have e:gg=g:=by simpa [Value.ownBlock] using hgg
 subst e
 rcases hat with h1 | rfl
 ·exact h.ap gg h1 hu
 have:=(h.ro.lt _ hu).2;omega
theorem TkT.appO {w3:World} {gg cap':Nat} {x:Vl} (h:TkT IT VT DT BT R r H w0 wr I NW RC cp vm vi n t TB base a ov outs cv cks nx nxt) (hown:w3.ownsRow base VT 2 (.slice (some ⟨gg,0,none⟩) (outs.length+1) cap') (outs.length+1) (vlX outs++[.int .i64 x.kind,.int .i64 x.n])) (hg:wr.grownBy w3 ov.ownBlock) (hat:ov.ownBlock=some gg∨gg=wr.heap.size):
  w3.cell? ⟨TB,0,none⟩=some ov∧w3.frozen? ⟨TB,0,none⟩=false∧TkT IT VT DT BT R r H w0 (w3.setCell ⟨TB,0,none⟩ (.slice (some ⟨gg,0,none⟩) (outs.length+1) cap')) I NW RC cp vm vi n t TB base a (.slice (some ⟨gg,0,none⟩) (outs.length+1) cap') (outs++[x]) cv cks nx nxt:=by
 obtain⟨g1,g2,g3⟩:=h.grow hg fun g hgg=>(h.ro.lt g hgg).1
 have hT:=h.bs.2.2.2.1
 have rc3:=Zc4 h.rc hg fun g hu e=>Zgc h.rc h.ro h.ne g hu e
 have rn3:=Zc4 h.rn hg fun g hu e=>h.ap g hu e
 have hot:∀ j,j≠TB→(w3.setCell ⟨TB,0,none⟩ (.slice (some ⟨gg,0,none⟩) (outs.length+1) cap')).heap[j]?=w3.heap[j]?:=fun j hj=>Below.heap_setCell _ ⟨TB,0,none⟩ _ j hj
 obtain⟨b1,b2,b3,b4⟩:=h.tbn
 refine⟨by simp [World.cell?,g2],by simp [World.frozen?,g2],g1.keep (g1.isin.setCell (a:=⟨TB,0,none⟩) (h.s.low.isNone b4) _) (g1.below.setCell (p:=⟨TB,0,none⟩) b4 _) (hot I (Ne.symm b1)) (hot NW (Ne.symm b2)) (hot RC (Ne.symm b3)),Zab _ _ _ _ _ _ _ g2,Zaq rc3 (Zbn rc3 hT) _,Zaq rn3 (Zbn rn3 hT) _,?_,fun g hgg hu=>?_,⟨h.bs.1,h.bs.2.1,h.bs.2.2.1,hT,by simpa using g3⟩,h.tbn,h.ne⟩
 ·rw [vlX_snoc,List.length_append]
  exact Zaq hown (Zbn hown hT) _
 have e:gg=g:=by simpa [Value.ownBlock] using hu
 subst e
 rcases hat with h1 | rfl
 ·exact h.ap gg hgg h1
 have:=(h.rn.lt _ hgg).2;omega
end
def BlC (x:Bool) (f:Nat→Option Value):Prop:=f 0=some (.bool x)
abbrev BlsV (H:Kn):List Bool→Value→Prop:=SlV H 1 BlC
theorem BlC.mono (x:Bool) (f g:Nat→Option Value) (h:∀ j u,f j=some u→g j=some u) (hx:BlC x f):BlC x g:=h _ _ hx
structure TkV (H:Kn) (k:Tk) (ov cv:Value):Prop where
 outs:VlsV H k.out ov
 checks:BlsV H k.checks cv
theorem TkV.le {H H':Kn} (hle:H.le H') {k:Tk} {ov cv:Value} (h:TkV H k ov cv):TkV H' k ov cv:=⟨SlV.le h.outs hle VlC.mono,SlV.le h.checks hle BlC.mono⟩
def Zig (K:Kn) (n:Nat) (w:World):Kn:=fun b=>if b<n then K b else w.heap[b]?
theorem joinKn_le {K:Kn} {w:World} (h:K.In w) (w':World):K.le (Zig K w.heap.size w'):=fun b o e=>by
 unfold Zig
 rw [if_pos (h.lt e)]
 exact e
theorem joinKn_new (K:Kn) (n:Nat) (w:World):(Zed n w).le (Zig K n w):=fun b o e=>by
 unfold Zed at e
 unfold Zig
 split at e
 ·cases e
 rename_i hb
 rw [if_neg hb];exact e
theorem joinKn_in {K:Kn} {w w':World} (h:K.In w) (hb:Below w.heap.size w w'):(Zig K w.heap.size w').In w':=fun b o e=>by
 unfold Zig at e
 split at e
 ·rename_i hlt
  rw [hb.block b hlt];exact h b o e
 exact e
theorem vls_row {w:World} {base n:Nat} {T:TypeId} {v:Value} {l:List Vl} (h:w.ownsRow base T 2 v l.length (vlX l)) (hn:n≤base):VlsV (Zed n w) l v:=
 slv_new h hn fun i hi f hf=>by
  obtain⟨x0,x1⟩:=Zfi _ i hi
  refine⟨hf 0 _ ?_,hf 1 _ ?_⟩
  ·rw [show i * 2+0=2 * i from by omega];exact x0
  rw [show i * 2+1=2 * i+1 from by omega];exact x1
theorem bls_row {w:World} {base n:Nat} {T:TypeId} {v:Value} {l:List Bool} (h:w.ownsRow base T 1 v l.length (l.map .bool)) (hn:n≤base):BlsV (Zed n w) l v:=
 slv_new h hn fun i hi f hf=>hf 0 _ (by rw [Nat.mul_one,Nat.add_zero,List.getElem?_map,List.getElem?_eq_getElem hi];rfl)
theorem own_put4 {w:World} {base:Nat} {e:TypeId} {k n:Nat} {v:Value} {xs:List Value} (h:w.ownsRow base e k v n xs) {b:Nat} (hb:b<base) (x y z u:Value):(put4 w b x y z u).ownsRow base e k v n xs:=by
 have hne:=Zbn h hb
 unfold put4
 exact Zaq (Zaq (Zaq (Zaq h (a:=⟨b,0,none⟩) hne x) (a:=⟨b,1,none⟩) hne y) (a:=⟨b,2,none⟩) hne z) (a:=⟨b,3,none⟩) hne u
theorem TkT.fin {IT VT DT BT:TypeId} {R:REnv} {r:Inst} {H:Kn} {w0 wr:World} {I NW RC:Nat} {cp vm vi:Value} {n:Nat} {t:Bool} {TB base:Nat} {a:Bool} {ov:Value} {outs:List Vl} {cv:Value} {cks:List Bool} {nx:Value} {nxt:List Vl}
  (h:TkT IT VT DT BT R r H w0 wr I NW RC cp vm vi n t TB base a ov outs cv cks nx nxt) (x y z u:Value):
  Below w0.heap.size w0 (put4 wr RC x y z u)∧VlsV (Zed w0.heap.size (put4 wr RC x y z u)) outs ov∧BlsV (Zed w0.heap.size (put4 wr RC x y z u)) cks cv∧VlsV (Zed w0.heap.size (put4 wr RC x y z u)) nxt nx:=by
 have hb:w0.heap.size≤base:=by have h1:=h.s.apart.2.2.2.1;have h2:=h.bs.2.1;omega
 exact⟨put4_below h.s.below h.s.apart.2.2.2.2.2 x y z u,vls_row (own_put4 h.ro h.bs.2.2.1 x y z u) hb,bls_row (own_put4 h.rc h.bs.2.2.1 x y z u) hb,vls_row (own_put4 h.rn h.bs.2.2.1 x y z u) hb⟩
theorem TkS.nc {IT VT DT:TypeId} {R:REnv} {r:Inst} {H:Kn} {w0 wr:World} {I NW RC:Nat} {cp vm vi:Value} {n:Nat} {t:Bool} (h:TkS IT VT DT R r H w0 wr I NW RC cp vm vi n t) {j:Nat} (hj:j<n):
  wr.cell? ⟨NW,j * 2,none⟩=some (.int .i64 (r.now.getD j vz).kind)∧wr.cell? ⟨NW,j * 2+1,none⟩=some (.int .i64 (r.now.getD j vz).n):=by
 have hjl:j<r.now.length:=by rw [h.len];exact hj
 have hw:=h.now
 obtain⟨x0,x1⟩:=Zfi r.now j hjl
 rw [Nat.mul_comm] at x0 x1
 have e:r.now.getD j vz=r.now[j]:=by simp [List.getD_eq_getElem?_getD,hjl]
 rw [e]
 exact⟨by simpa [World.cell?,hw] using x0,by simpa [World.cell?,hw] using x1⟩
end Go.Proofs.YtofameafdnkijaaGreatDoor
