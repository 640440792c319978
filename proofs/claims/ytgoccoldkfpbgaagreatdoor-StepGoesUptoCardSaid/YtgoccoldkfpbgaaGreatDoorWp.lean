/- Walks: (*lustrumref2.World).plain. -/
import Derived.Test.YtgoccoldkfpbgaaGreatDoorRg
import Derived.Test.YtgoccoldkfpbgaaGreatDoorWdR
import Derived.Test.YtgoccoldkfpbgaaGreatDoorKi
set_option linter.all false
namespace Go.Proofs.YtgoccoldkfpbgaaGreatDoor
set_option maxRecDepth 100000
set_option maxHeartbeats 16000000
open Go.RowKit Mx
theorem mWp4 {p:Prop} (h:p:=by
 obtain⟨_,_,f0,f1,_⟩:=Zak hR
 obtain⟨e0,e1,_,_⟩:=Za7 hR (.int .i64 zk1) (.int .i64 zn1)
 have E0:=Zhd e0
 have E1:=Zhd e1
 have HF:=Zhd ((hN.put2 (Nat.le_succ _) hRB2.1 hRB2.2 hKR hR (by decide) (.int .i64 zk1) (.int .i64 zn1)).kn (HLE.out.inOf (hN.put2 (Nat.le_succ _) hRB2.1 hRB2.2 hKR hR (by decide) (.int .i64 zk1) (.int .i64 zn1)).st.isin))
 clear e0 e1 hN hR
 go_wp2_with (guard_target =~ bodyPost _ _ _ _ _ _;have e0:=E0.out;have e1:=E1.out;refine bodyPost_ret (v:=vlV ⟨zk1,zn1⟩) (by simp [results,Tryz.results70,go_sem,e0,e1]) rfl ?_;exact⟨⟨zk1,zn1⟩,_,_,_,rfl,fun h=>(hV h).symm,HF.out,fun h=>by rw [hown] at h;cases h⟩)):p:=h
theorem mWp3 {p:Prop} (h:p:=by
 obtain⟨_,_,f0,f1,_⟩:=Zak hR
 obtain⟨e0,e1,_,_⟩:=Za7 hR (.int .i64 zk0) (.int .i64 zn0)
 have E0:=Zhd e0
 have E1:=Zhd e1
 have HF:=Zhd ((hN.put2 (Nat.le_succ _) hRB2.1 hRB2.2 hKR hR (by decide) (.int .i64 zk0) (.int .i64 zn0)).kn (HLE.out.inOf (hN.put2 (Nat.le_succ _) hRB2.1 hRB2.2 hKR hR (by decide) (.int .i64 zk0) (.int .i64 zn0)).st.isin))
 clear e0 e1 hN hR
 go_wp2_with (guard_target =~ bodyPost _ _ _ _ _ _;have e0:=E0.out;have e1:=E1.out;refine bodyPost_ret (v:=vlV ⟨zk0,zn0⟩) (by simp [results,Tryz.results70,go_sem,e0,e1]) rfl ?_;exact⟨⟨zk0,zn0⟩,_,_,_,rfl,fun h=>(hV h).symm,HF.out,fun h=>by rw [hown] at h;cases h⟩)):p:=h
theorem mWp2 {p:Prop} (h:p:=by
 intro w hSw;obtain⟨T9,u9,kl9,hSw⟩:=hSw;obtain⟨z0,z1,z2,z3,z4,z5,z6,z7,z8,z9,z10,z11⟩:=hSw.1.st.cs;have y0:=hSw.1.st.isin.cell j0;have y1:=hSw.1.st.isin.cell j1;have y2:=hSw.1.st.isin.cell j2;have y3:=hSw.1.st.isin.cell j3;go_simp<;>with_reducible rfl):p:=h
theorem mWp1 {p:Prop} (h:p:=by
 intro w hSw;obtain⟨z0,z1,z2,z3,z4,z5,z6,z7,z8,z9,z10,z11⟩:=hSw.1.st.cs;have y0:=hSw.1.st.isin.cell j0;have y1:=hSw.1.st.isin.cell j1;have y2:=hSw.1.st.isin.cell j2;have y3:=hSw.1.st.isin.cell j3;rw [hvi] at z0;have x0:=hSw.1.st.isin.cell hvc0;go_simp<;>with_reducible rfl):p:=h
theorem WdP.ksV {x:WdW} (hp:WdP x):ksOf (Zc1 x.p)=x.ks:=(Zgz (V:=Zc1 x.p) (by rw [← hp.hks];unfold Zc1 Pr.vars;rw [List.map_append,List.map_map];rfl)).symm
theorem WdW.own_not (x:WdW) {o:ByteArray} {n:Int} {s:ByteArray} {l:List Ex} {i:Nat} (h1:o≠oDiv) (h2:o≠oMod):x.own (.mk o n s l) i=false:=by
 unfold WdW.own ownT
 cases hc:(appM o (wdVs x.R x.inp x.fv l i)).2 with
 | false=>simp only [Ex.op,Ex.l,hc,Bool.false_and]
 | true=>
  rcases app_trap hc with e | e
  ·exact absurd e h1
  exact absurd e h2
theorem WdW.Vplain (x:WdW) (o:ByteArray) (n:Int) (s:ByteArray) (l:List Ex) (i:Nat) (b:Bool) (hb:b=(decide (i=0)&&decide (0<lateOf (Zac x.p) (.mk o n s l)))) (h:b=false):x.V (.mk o n s l) i=
  if o=oInt then ⟨2,n⟩
  else if o=Zc2∨o=Zb9 then tv (decide (o=Zc2))
  else if o=Zb2 then (if getI (Zai x.p) s<0 then (x.inp i).getD (-1 - getI (Zai x.p) s).toNat vz else x.fv (getI (Zai x.p) s).toNat i)
  else if o=oPre then (wdVs x.R x.inp x.fv l (i - 1)).getD 0 vz
  else if o=oFby then (if i=0 then (wdVs x.R x.inp x.fv l i).getD 0 vz else (wdVs x.R x.inp x.fv l (i - 1)).getD 1 vz)
  else if o=Zbm then (if i=0 then (wdVs x.R x.inp x.fv l i).getD 0 vz else (wdVs x.R x.inp x.fv l i).getD 1 vz)
  else if (appM o (wdVs x.R x.inp x.fv l i)).2 then ⟨2,0⟩ else (appM o (wdVs x.R x.inp x.fv l i)).1:=by
 unfold WdW.V
 rw [wdV,if_neg]
 rintro⟨h1,h2⟩
 rw [h] at hb
 have h2:0<lateOf (Zac x.p) (.mk o n s l):=h2
 simp [h1,h2] at hb
theorem WdW.Vs_get (x:WdW) (l:List Ex) (j:Nat) (h:j<l.length) (i:Nat):(wdVs x.R x.inp x.fv l i).getD j vz=x.V l[j] i:=by
 rw [Zd5]
 simp [List.getD_eq_getElem?_getD,h,WdW.V]
theorem WdW.Vs_take (x:WdW) (l:List Ex) (m:Nat) (h:m<l.length) (i:Nat):vlX ((wdVs x.R x.inp x.fv l i).take (m+1))=vlX ((wdVs x.R x.inp x.fv l i).take m)++[.int .i64 (x.V l[m] i).kind,.int .i64 (x.V l[m] i).n]:=by
 have hl:m<(wdVs x.R x.inp x.fv l i).length:=by rw [Zd5];simpa using h
 rw [List.take_succ_eq_append_getElem hl,Zgh]
 have:(wdVs x.R x.inp x.fv l i)[m]=x.V l[m] i:=by
  have:=x.Vs_get l m h i
  simpa [List.getD_eq_getElem?_getD,hl] using this
 rw [this]
theorem WdW.own_eq (x:WdW) (o:ByteArray) (n:Int) (s:ByteArray) (l:List Ex) (i:Nat) (b:Bool) (hb:b=(decide (i=0)&&decide (0<lateOf (Zac x.p) (.mk o n s l)))):x.own (.mk o n s l) i=((appM o (wdVs x.R x.inp x.fv l i)).2 && !b):=by
 rw [hb];rfl
theorem newKn_in' (n:Nat) (w:World):(Zcd n w).In w:=fun b o e=>by
 unfold Zcd at e
 split at e
 ·cases e
 exact e
theorem WdN.grownK {x:WdW} {K:Kn} {i r:Nat} {w w1 w3:World} {T T1:List Bool} {u1:Value} {kl kl1:List KE} (h:WdN x K i r w T kl w1 T1 u1 kl1) {base n k:Nat} {v:Value} {xs:List Value} {e:TypeId} (ho:w1.ownsRow base e k v n xs) (hb:x.B<base) (hd:x.D<base) (hw:w.heap.size≤base) (he:e≠knT) (hK:∀ g,v.ownBlock=some g→K g=none) (hg:w1.grownBy w3 v.ownBlock):WdN x K i r w T kl w3 T1 u1 kl1:=by
 have hne:∀ g,v.ownBlock=some g→base≤g:=fun g hg=>(ho.lt g hg).1
 have hB:w3.heap[x.B]?=w1.heap[x.B]?:=hg.block _ (Zlt h.st.box) fun e=>by have:=hne _ e.symm;omega
 have hD:w3.heap[x.D]?=w1.heap[x.D]?:=hg.block _ (Zlt h.st.trap) fun e=>by have:=hne _ e.symm;omega
 refine⟨⟨h.st.isin.grown hg hK,hB.trans h.st.box,h.st.row.kept hg ?_,h.st.good,h.st.lo,h.st.nd,hD.trans h.st.trap,h.st.len,h.st.mark,Nat.le_trans h.st.low hg.size⟩,⟨hg.os.trans h.gr.os,hg.tape.trans h.gr.tape,hg.output.trans h.gr.output,Nat.le_trans h.gr.size hg.size,fun j hj h1 h2 h3=>(hg.block j (Nat.lt_of_lt_of_le hj h.gr.size) (fun e=>by have:=hne _ e.symm;omega)).trans (h.gr.block j hj h1 h2 h3)⟩,h.up,h.new⟩
 rcases h.st.row.2 with ⟨q1,_⟩ | ⟨g',cap,cur,q1,q2,q3,_⟩
 ·exact .inl (by rw [q1];rfl)
 right
 rw [q1]
 intro e2
 rcases ho.2 with ⟨t1,_⟩ | ⟨g2,cap2,cur2,t1,t2,t3,_⟩
 ·rw [t1] at e2;cases e2
 rw [t1] at e2
 cases e2
 rw [q3] at t3
 cases t3
 exact he rfl
theorem WdN.grownL {x:WdW} {K:Kn} {i r:Nat} {w w1 w3:World} {T T1:List Bool} {u1:Value} {kl kl1:List KE} (h:WdN x K i r w T kl w1 T1 u1 kl1) {base n k:Nat} {v:Value} {xs:List Value} {e:TypeId} (ho:w1.ownsRow base e k v n xs) (hb:x.B<base) (hd:x.D<base) (hw:w.heap.size≤base) (he:e≠knT) (hK:∀ g,base≤g→K g=none) (hg:w1.grownBy w3 v.ownBlock):WdN x K i r w T kl w3 T1 u1 kl1:=
 h.grownK ho hb hd hw he (fun g hh=>hK g (ho.lt g hh).1) hg
def WdE (x:WdW) (K:Kn) (i r:Nat) (w:World) (T:List Bool) (kl:List KE) (R:Nat) (w':World):Prop:=∃ T1 u1 kl1,WdR2 x K i r w T kl R T1 u1 kl1 w'
theorem Zeu {x:WdW} (hp:WdP x) {o:ByteArray} {n:Int} {s:ByteArray} {l:List Ex} {i r:Nat} {K:Kn} {a:Option Addr} {c:Nat} {w:World} {T:List Bool} {u:Value} {kl:List KE} (hok:WdOk x K) (hue:ExsV K l (.slice a l.length c)) (hs:WdS x K w T u kl):
  (x.B<w.heap.size∧x.D<w.heap.size)∧(x.B<w.heap.size+1∧x.D<w.heap.size+1)∧∃ K2:Kn,K.le K2∧WdOk x K2∧K2 (w.heap.size+1)=none∧((w.alloc (.cells #[.string o,.int .i64 n,.string s,.slice a l.length c] 79)).alloc (.cells #[.int .i64 0,.int .i64 0] 75)).heap[w.heap.size+1]?=some (.cells #[.int .i64 0,.int .i64 0] 75 (0,0))∧WdN x K2 i r w T kl ((w.alloc (.cells #[.string o,.int .i64 n,.string s,.slice a l.length c] 79)).alloc (.cells #[.int .i64 0,.int .i64 0] 75)) T u kl∧
   K2.cell w.heap.size 0=some (.string o)∧K2.cell w.heap.size 1=some (.int .i64 n)∧K2.cell w.heap.size 2=some (.string s)∧K2.cell w.heap.size 3=some (.slice a l.length c)∧ExV K2 (.mk o n s l) (.agg #[.string o,.int .i64 n,.string s,.slice a l.length c])∧w.heap.size+1<((w.alloc (.cells #[.string o,.int .i64 n,.string s,.slice a l.length c] 79)).alloc (.cells #[.int .i64 0,.int .i64 0] 75)).heap.size∧
   ((w.alloc (.cells #[.string o,.int .i64 n,.string s,.slice a l.length c] 79)).alloc (.cells #[.int .i64 0,.int .i64 0] 75)).cell? ⟨w.heap.size,0,none⟩=some (.string o)∧((w.alloc (.cells #[.string o,.int .i64 n,.string s,.slice a l.length c] 79)).alloc (.cells #[.int .i64 0,.int .i64 0] 75)).cell? ⟨w.heap.size,1,none⟩=some (.int .i64 n)∧((w.alloc (.cells #[.string o,.int .i64 n,.string s,.slice a l.length c] 79)).alloc (.cells #[.int .i64 0,.int .i64 0] 75)).cell? ⟨w.heap.size,2,none⟩=some (.string s)∧((w.alloc (.cells #[.string o,.int .i64 n,.string s,.slice a l.length c] 79)).alloc (.cells #[.int .i64 0,.int .i64 0] 75)).cell? ⟨w.heap.size,3,none⟩=some (.slice a l.length c):=by
 have hRB:x.B<w.heap.size∧x.D<w.heap.size:=by have:=hp.bd;have:=hs.low;omega
 have hRB2:x.B<w.heap.size+1∧x.D<w.heap.size+1:=by omega
 have hKE:K w.heap.size=none:=hs.isin.isNone (Nat.le_refl _)
 obtain⟨K2,hK2⟩:∃ K2,K2=K.add w.heap.size (.cells #[.string o,.int .i64 n,.string s,.slice a l.length c] 79 (0,0)):=⟨_,rfl⟩
 have hle:K.le K2:=hK2▸Kn.le_add hKE
 have hok2:WdOk x K2:=hok.le hle (hK2▸hok.kn.add hRB.1 hRB.2 (by decide))
 have hKR:K2 (w.heap.size+1)=none:=by rw [hK2,Kn.add_other _ _ (by omega)];exact hs.isin.isNone (by omega)
 have hb0:Below w.heap.size w ((w.alloc (.cells #[.string o,.int .i64 n,.string s,.slice a l.length c] 79)).alloc (.cells #[.int .i64 0,.int .i64 0] 75)):=((Below.refl _ _).alloc (Nat.le_refl _) _).alloc (by simp) _
 have hEB:((w.alloc (.cells #[.string o,.int .i64 n,.string s,.slice a l.length c] 79)).alloc (.cells #[.int .i64 0,.int .i64 0] 75)).heap[w.heap.size]?=some (.cells #[.string o,.int .i64 n,.string s,.slice a l.length c] 79 (0,0)):=by rw [Below.heap_alloc _ _ _ (by simp)];exact heap_alloc_new _ _
 have hR:((w.alloc (.cells #[.string o,.int .i64 n,.string s,.slice a l.length c] 79)).alloc (.cells #[.int .i64 0,.int .i64 0] 75)).heap[w.heap.size+1]?=some (.cells #[.int .i64 0,.int .i64 0] 75 (0,0)):=by
  rw [show w.heap.size+1=(w.alloc (.cells #[.string o,.int .i64 n,.string s,.slice a l.length c] 79)).heap.size from by simp];exact heap_alloc_new _ _
 have hN:WdN x K2 i r w T kl ((w.alloc (.cells #[.string o,.int .i64 n,.string s,.slice a l.length c] 79)).alloc (.cells #[.int .i64 0,.int .i64 0] 75)) T u kl:=((hs.refl i r).below hb0).kn (hK2▸(hs.isin.below hb0).add hEB)
 have hcE:∀ j,K2.cell w.heap.size j=(#[.string o,.int .i64 n,.string s,.slice a l.length c]:Array Value)[j]?:=fun j=>by unfold Kn.cell;rw [hK2,Kn.add_self]
 have j0:K2.cell w.heap.size 0=some (.string o):=hcE 0
 have j1:K2.cell w.heap.size 1=some (.int .i64 n):=hcE 1
 have j2:K2.cell w.heap.size 2=some (.string s):=hcE 2
 have j3:K2.cell w.heap.size 3=some (.slice a l.length c):=hcE 3
 have hv2:ExV K2 (.mk o n s l) (.agg #[.string o,.int .i64 n,.string s,.slice a l.length c]):=⟨_,rfl,hue.le hle⟩
 have hlt:=(Zlt hR)
 have q0:=hN.st.isin.cell j0
 have q1:=hN.st.isin.cell j1
 have q2:=hN.st.isin.cell j2
 have q3:=hN.st.isin.cell j3
 exact⟨hRB,hRB2,K2,hle,hok2,hKR,hR,hN,j0,j1,j2,j3,hv2,hlt,q0,q1,q2,q3⟩
theorem wplain_lit {x:WdW} (hp:WdP x) {o:ByteArray} {n:Int} {s:ByteArray} {l:List Ex} {i r:Nat} (hi:i<x.ins.length) (ho:o=oInt∨o=Zc2∨o=Zb9):PlainC x (.mk o n s l) i r:=by
 have hown:x.own (.mk o n s l) i=false:=x.own_not (by rcases ho with rfl | rfl | rfl<;>decide) (by rcases ho with rfl | rfl | rfl<;>decide)
 intro K v b hb hok hv w T u kl hs
 obtain⟨ue,rfl,hue⟩:=hv
 simp only [Ex.op,Ex.n,Ex.s,Ex.l] at hue ⊢
 obtain⟨a,c,rfl⟩:=hue.len
 have hVb:=x.Vplain o n s l i b hb
 obtain⟨hRB,hRB2,K2,hle,hok2,hKR,hR,hN,j0,j1,j2,j3,hv2,hlt,q0,q1,q2,q3⟩:=Zeu hp (i:=i) (r:=r) (o:=o) (n:=n) (s:=s) hok hue hs
 have hU:=hue.le hle
 have HLE:=Zhd hle
 clear hok hs hue hle
 rcases ho with rfl | rfl | rfl
 ·skip
  go_enter Tryz.func70,Tryz.ntmps70
  go_upto_region 3 with (fail)
  generalize (w.alloc (.cells #[.string oInt,.int .i64 n,.string s,.slice a l.length c] 79)).alloc (.cells #[.int .i64 0,.int .i64 0] 75)=W at *
  obtain⟨_,_,f0,f1,_⟩:=Zak hR
  obtain⟨e0,e1,_,_⟩:=Za7 hR (.int .i64 2) (.int .i64 n)
  have E0:=Zhd e0
  have E1:=Zhd e1
  have HF:=Zhd ((hN.put2 (Nat.le_succ _) hRB2.1 hRB2.2 hKR hR (by decide) (.int .i64 2) (.int .i64 n)).kn (HLE.out.inOf (hN.put2 (Nat.le_succ _) hRB2.1 hRB2.2 hKR hR (by decide) (.int .i64 2) (.int .i64 n)).st.isin))
  clear e0 e1 hN hR
  go_wp2_with (guard_target =~ bodyPost _ _ _ _ _ _;have e0:=E0.out;have e1:=E1.out;refine bodyPost_ret (v:=vlV ⟨2,n⟩) (by simp [results,Tryz.results70,go_sem,e0,e1]) rfl ?_;exact⟨⟨2,n⟩,_,_,_,rfl,fun h=>(hVb h).symm,HF.out,fun h=>by rw [hown] at h;cases h⟩)
 ·skip
  go_enter Tryz.func70,Tryz.ntmps70
  go_upto_region 5 with (fail)
  generalize (w.alloc (.cells #[.string Zc2,.int .i64 n,.string s,.slice a l.length c] 79)).alloc (.cells #[.int .i64 0,.int .i64 0] 75)=W at *
  go_wp2_with fail
  have hcall:=fun w'=>Zdi true w'
  rw [show tv true=⟨1,1⟩ from rfl] at hcall
  refine (hcall _).mono ?_
  rintro r0 w1 ⟨rfl,hb1⟩
  have hN:=hN.below hb1
  have hR:=(hb1.block _ hlt).trans hR
  obtain⟨_,_,f0,f1,_⟩:=Zak hR
  obtain⟨e0,e1,_,_⟩:=Za7 hR (.int .i64 1) (.int .i64 1)
  have E0:=Zhd e0
  have E1:=Zhd e1
  have HF:=Zhd ((hN.put2 (Nat.le_succ _) hRB2.1 hRB2.2 hKR hR (by decide) (.int .i64 1) (.int .i64 1)).kn (HLE.out.inOf (hN.put2 (Nat.le_succ _) hRB2.1 hRB2.2 hKR hR (by decide) (.int .i64 1) (.int .i64 1)).st.isin))
  clear e0 e1 hN hR
  go_wp2_with (guard_target =~ bodyPost _ _ _ _ _ _;have e0:=E0.out;have e1:=E1.out;refine bodyPost_ret (v:=vlV ⟨1,1⟩) (by simp [results,Tryz.results70,go_sem,e0,e1]) rfl ?_;exact⟨⟨1,1⟩,_,_,_,rfl,fun h=>(hVb h).symm,HF.out,fun h=>by rw [hown] at h;cases h⟩)
 skip
 go_enter Tryz.func70,Tryz.ntmps70
 go_upto_region 7 with (fail)
 generalize (w.alloc (.cells #[.string Zb9,.int .i64 n,.string s,.slice a l.length c] 79)).alloc (.cells #[.int .i64 0,.int .i64 0] 75)=W at *
 go_wp2_with fail
 have hcall:=fun w'=>Zdi false w'
 rw [show tv false=⟨1,0⟩ from rfl] at hcall
 refine (hcall _).mono ?_
 rintro r0 w1 ⟨rfl,hb1⟩
 have hN:=hN.below hb1
 have hR:=(hb1.block _ hlt).trans hR
 obtain⟨_,_,f0,f1,_⟩:=Zak hR
 obtain⟨e0,e1,_,_⟩:=Za7 hR (.int .i64 1) (.int .i64 0)
 have E0:=Zhd e0
 have E1:=Zhd e1
 have HF:=Zhd ((hN.put2 (Nat.le_succ _) hRB2.1 hRB2.2 hKR hR (by decide) (.int .i64 1) (.int .i64 0)).kn (HLE.out.inOf (hN.put2 (Nat.le_succ _) hRB2.1 hRB2.2 hKR hR (by decide) (.int .i64 1) (.int .i64 0)).st.isin))
 clear e0 e1 hN hR
 go_wp2_with (guard_target =~ bodyPost _ _ _ _ _ _;have e0:=E0.out;have e1:=E1.out;refine bodyPost_ret (v:=vlV ⟨1,0⟩) (by simp [results,Tryz.results70,go_sem,e0,e1]) rfl ?_;exact⟨⟨1,0⟩,_,_,_,rfl,fun h=>(hVb h).symm,HF.out,fun h=>by rw [hown] at h;cases h⟩)
theorem wplain_pre {x:WdW} (hp:WdP x) {o:ByteArray} {n:Int} {s:ByteArray} {l:List Ex} {i r:Nat} (hi:i<x.ins.length) (ho:o=oPre) (he:InP x (.mk o n s l)) (hT:0<i→∀ j (h:j<l.length),Zj8 x l[j] (i - 1) (x.p.fl.length+1)):PlainC x (.mk o n s l) i r:=by
 subst ho
 have hown:x.own (.mk oPre n s l) i=false:=x.own_not (by decide) (by decide)
 have hpl:=pre_late (Zd9 x.p).1 n s l
 obtain⟨o,hoo⟩:∃ o,o=oPre:=⟨_,rfl⟩
 rw [← hoo] at he hown hpl ⊢
 intro K v b hb hok hv w T u kl hs
 obtain⟨ue,rfl,hue⟩:=hv
 simp only [Ex.op,Ex.n,Ex.s,Ex.l] at hue ⊢
 obtain⟨a,c,rfl⟩:=hue.len
 have hVb:=x.Vplain o n s l i b hb
 obtain⟨hRB,hRB2,K2,hle,hok2,hKR,hR,hN,j0,j1,j2,j3,hv2,hlt,q0,q1,q2,q3⟩:=Zeu hp (i:=i) (r:=r) (o:=o) (n:=n) (s:=s) hok hue hs
 have hU:=hue.le hle
 have HLE:=Zhd hle
 clear hok hs hue hle
 subst hoo
 by_cases hi0:i=0
 ·subst hi0
  have hbt:b=true:=by rw [hb];simp [hpl]
  rw [show ((0:Nat):Int)=0 from rfl]
  subst hbt
  clear hb hVb
  have hksV:=hp.ksV
  have HKD:=Zhd (fun (wz:World) (hz:K2.In wz)=>Zhy K2 (Zc1 x.p) x.vvr hok2.vars (by have:=hp.sz;simp [Zc1];omega) _ _ hv2 (by have:=he.parts;omega) (by rw [hksV];exact he.form) wz hz)
  rw [hksV] at HKD
  have HK2:=Zhd (Zd8 (hp.right he hi)).2
  obtain⟨⟨nk,nn⟩,hnil⟩:∃ z,nilV x.nb x.ni (Zan x.ks (.mk oPre n s l))=z:=⟨_,rfl⟩
  clear hksV hok2 hv2 hU he hp
  go_enter Tryz.func70,Tryz.ntmps70
  go_wp2_with fail
  generalize (w.alloc (.cells #[.string oPre,.int .i64 n,.string s,.slice a l.length c] 79)).alloc (.cells #[.int .i64 0,.int .i64 0] 75)=W at *
  have hSD:WdR2 x K2 0 r w T kl (w.heap.size+1) T u kl W.drew:=⟨hN.below ((Below.refl _ _).drew),_,_,hR⟩
  refine Zae (WdR2 x K2 0 r w T kl (w.heap.size+1) T u kl) (fun _=>True) 99 (by kernel_rfl) ?_
  refine w3 0 ?_
  iterate 6 ((first | (refine tk3 (v:=?_) rfl hSD Ztr ?hy ?_;(case hy=>intro w hSw;obtain⟨z0,z1,z2,z3,z4,z5,z6,z7,z8,z9,z10,z11⟩:=hSw.1.st.cs;have y0:=hSw.1.st.isin.cell j0;have y1:=hSw.1.st.isin.cell j1;have y2:=hSw.1.st.isin.cell j2;have y3:=hSw.1.st.isin.cell j3;go_simp<;>with_reducible rfl)) | refine sk3 rfl hSD Ztr ?_ | refine no3 ?_);refine Zss ?_)
  refine w3e ?_
  refine Zwo 6 rfl fun K_ hK=>?_
  go_simp
  go_at_call 46
  refine (HKD.out _ hSD.1.st.isin).mono ?_
  rintro r0 w4 ⟨rfl,hb4⟩
  have hSE:=hSD.below hb4
  refine hK.out _ _ (hSE) Ztr ?_
  clear hK K_
  try simp only [tkS]
  refine Zwo 7 rfl fun K_ hK=>?_
  go_simp
  go_at_call 45
  refine (none_any hSE.1.st _ HK2.out).mono ?_
  rintro r0 w5 ⟨rfl,hb5⟩
  have hSG:=hSE.below hb5
  obtain⟨hN,p0,p1,hR⟩:=id hSG
  rw [hnil]
  obtain⟨g0,g1,f0,f1,_⟩:=Zak hR
  obtain⟨e0,e1,_,_⟩:=Za7 hR (.int .i64 nk) (.int .i64 nn)
  have E0:=Zhd e0
  have E1:=Zhd e1
  have hF:=hN.put2 (Nat.le_succ _) hRB2.1 hRB2.2 hKR hR (by decide) (.int .i64 nk) (.int .i64 nn)
  have hSF:WdR2 x K2 0 r w T kl (w.heap.size+1) T u kl _:=⟨hF,_,_,Ze5 hR (.int .i64 nk) (.int .i64 nn)⟩
  have HF:=Zhd (hF.kn (HLE.out.inOf hF.st.isin))
  clear e0 e1 hF
  refine hK.out _ _ (hSG) Ztr ?_
  clear hK K_
  try simp only [tkS]
  refine Zwo 8 rfl fun K_ hK=>?_
  go_simp
  refine hK.out _ _ (hSF) Ztr ?_
  clear hK K_
  try simp only [tkS]
  refine Zwd ?_
  go_wp2_with (guard_target =~ bodyPost _ _ _ _ _ _;have e0:=E0.out;have e1:=E1.out;refine bodyPost_ret (v:=vlV ⟨nk,nn⟩) (by simp [results,Tryz.results70,go_sem,e0,e1]) rfl ?_;exact⟨⟨nk,nn⟩,_,_,_,rfl,fun h=>Bool.noConfusion h,HF.out,fun h=>by rw [hown] at h;cases h⟩)
 have hl1:0<l.length:=by have:=(Zax he.form).2.2.2.1 rfl;omega
 have hi1:((i - 1:Nat):Int)=(i:Int) - 1:=by omega
 have hik:(i:Int)≤1000:=by have:=hp.sz.2.2.2;omega
 have hid:((i:Int)==0)=false:=by simp;omega
 clear hb
 go_enter Tryz.func70,Tryz.ntmps70
 go_upto_region 18 with (fail)
 generalize (w.alloc (.cells #[.string oPre,.int .i64 n,.string s,.slice a l.length c] 79)).alloc (.cells #[.int .i64 0,.int .i64 0] 75)=W at *
 obtain⟨b0,o0,ax0,cx0,he0,c00,c01,c02,c03,hx0⟩:=hU.at (i:=0) (by omega)
 cases he0
 obtain⟨⟨zk0,zn0⟩,hz0⟩:∃ z,x.V (l[0]'(by omega)) (i - 1)=z:=⟨_,rfl⟩
 have HT0:=Zhd (fun w T u kl (h:WdS x K2 w T u kl)=>hT (by omega) 0 (by omega) K2 _ hok2 hx0 w T u kl h)
 rw [hz0] at HT0
 simp only [Nat.zero_mul,Nat.one_mul,Nat.add_zero] at c00 c01 c02 c03
 have hs0:=(x.Vs_get l 0 (by omega) (i - 1)).trans hz0
 generalize l[0]'(by omega)=y0 at *
 rw [hi1] at HT0
 have hV0:x.V (.mk oPre n s l) i=⟨zk0,zn0⟩∨b=true:=by
  cases b with
  | true=>exact .inr rfl
  | false=>exact .inl ((hVb rfl).trans hs0)
 clear hok2 hv2 hU he
 have d00:=hN.st.isin.cell c00
 have d01:=hN.st.isin.cell c01
 have d02:=hN.st.isin.cell c02
 have d03:=hN.st.isin.cell c03
 go_wp2_with fail
 refine (HT0.out W _ _ _ hN.st).mono ?_
 rintro r0 w2 ⟨Tw2,uw2,klw2,rfl,hM,_⟩
 have hR:=hM.gr.heap hR hRB2.1 hRB2.2 (by decide)
 have hN:=hN.trans hM (.inl (by omega))
 have hlt:=(Zlt hR)
 obtain⟨_,_,f0,f1,_⟩:=Zak hR
 obtain⟨e0,e1,_,_⟩:=Za7 hR (.int .i64 zk0) (.int .i64 zn0)
 have E0:=Zhd e0
 have E1:=Zhd e1
 have HF:=Zhd ((hN.put2 (Nat.le_succ _) hRB2.1 hRB2.2 hKR hR (by decide) (.int .i64 zk0) (.int .i64 zn0)).kn (HLE.out.inOf (hN.put2 (Nat.le_succ _) hRB2.1 hRB2.2 hKR hR (by decide) (.int .i64 zk0) (.int .i64 zn0)).st.isin))
 clear e0 e1 hN hR
 go_wp2_with (guard_target =~ bodyPost _ _ _ _ _ _;have e0:=E0.out;have e1:=E1.out;refine bodyPost_ret (v:=vlV ⟨zk0,zn0⟩) (by simp [results,Tryz.results70,go_sem,e0,e1]) rfl ?_;exact⟨⟨zk0,zn0⟩,_,_,_,rfl,fun h=>(hV0.resolve_right (by rw [h];simp)).symm,HF.out,fun h=>by rw [hown] at h;cases h⟩)
theorem wplain_fby {x:WdW} (hp:WdP x) {o:ByteArray} {n:Int} {s:ByteArray} {l:List Ex} {i r:Nat} (hi:i<x.ins.length) (ho:o=oFby) (he:InP x (.mk o n s l)) (hT0:∀ (h:0<l.length),Zj8 x l[0] i r) (hT1:0<i→∀ (h:1<l.length),Zj8 x l[1] (i - 1) (x.p.fl.length+1)):PlainC x (.mk o n s l) i r:=by
 subst ho
 have hown:x.own (.mk oFby n s l) i=false:=x.own_not (by decide) (by decide)
 obtain⟨o,hoo⟩:∃ o,o=oFby:=⟨_,rfl⟩
 rw [← hoo] at he hown ⊢
 intro K v b hb hok hv w T u kl hs
 obtain⟨ue,rfl,hue⟩:=hv
 simp only [Ex.op,Ex.n,Ex.s,Ex.l] at hue ⊢
 obtain⟨a,c,rfl⟩:=hue.len
 have hVb:=x.Vplain o n s l i b hb
 obtain⟨hRB,hRB2,K2,hle,hok2,hKR,hR,hN,j0,j1,j2,j3,hv2,hlt,q0,q1,q2,q3⟩:=Zeu hp (i:=i) (r:=r) (o:=o) (n:=n) (s:=s) hok hue hs
 have hU:=hue.le hle
 have HLE:=Zhd hle
 clear hok hs hue hle
 subst hoo
 clear hb
 have hl2:1<l.length:=by have:=(Zax he.form).2.1 rfl;omega
 have hik:(i:Int)≤1000:=by have:=hp.sz.2.2.2;omega
 by_cases hi0:i=0
 ·subst hi0
  rw [show ((0:Nat):Int)=0 from rfl]
  go_enter Tryz.func70,Tryz.ntmps70
  go_upto_region 20 with (fail)
  generalize (w.alloc (.cells #[.string oFby,.int .i64 n,.string s,.slice a l.length c] 79)).alloc (.cells #[.int .i64 0,.int .i64 0] 75)=W at *
  obtain⟨b0,o0,ax0,cx0,he0,c00,c01,c02,c03,hx0⟩:=hU.at (i:=0) (by omega)
  cases he0
  obtain⟨⟨zk0,zn0⟩,hz0⟩:∃ z,x.V (l[0]'(by omega)) (0)=z:=⟨_,rfl⟩
  have HT0:=Zhd (fun w T u kl (h:WdS x K2 w T u kl)=>hT0 (by omega) K2 _ hok2 hx0 w T u kl h)
  rw [hz0] at HT0
  simp only [Nat.zero_mul,Nat.one_mul,Nat.add_zero] at c00 c01 c02 c03
  have hs0:=(x.Vs_get l 0 (by omega) (0)).trans hz0
  generalize l[0]'(by omega)=y0 at *
  rw [show ((0:Nat):Int)=0 from rfl] at HT0
  have hV:b=false→x.V (.mk oFby n s l) 0=⟨zk0,zn0⟩:=fun h=>(hVb h).trans hs0
  clear hVb hok2 hv2 hU he hT1
  have d00:=hN.st.isin.cell c00
  have d01:=hN.st.isin.cell c01
  have d02:=hN.st.isin.cell c02
  have d03:=hN.st.isin.cell c03
  go_wp2_with fail
  refine (HT0.out _ _ _ _ hN.st).mono ?_
  rintro r0 w2 ⟨Tw2,uw2,klw2,rfl,hM,_⟩
  have hR:=hM.gr.heap hR hRB2.1 hRB2.2 (by decide)
  have hN:=hN.trans hM (.inr ⟨rfl,Nat.le_refl _⟩)
  have hlt:=(Zlt hR)
  have hBa:x.B<w2.heap.size∧x.D<w2.heap.size:=by omega
  have hN:=hN.alloc (.cells #[.int .i64 zk0,.int .i64 zn0] 75)
  have hR:=(Below.heap_alloc w2 (.cells #[.int .i64 zk0,.int .i64 zn0] 75) _ hlt).trans hR
  have hA:=heap_alloc_new w2 (.cells #[.int .i64 zk0,.int .i64 zn0] 75)
  have hlt:=(Zlt hR)
  obtain⟨s0,s1,_,_,_⟩:=Zak hA
  go_upto_region 22 with (fail)
  generalize w2.alloc (.cells #[.int .i64 zk0,.int .i64 zn0] 75)=W3 at *
  exact mWp3
 have hi1:((i - 1:Nat):Int)=(i:Int) - 1:=by omega
 have hid:((i:Int)==0)=false:=by simp;omega
 go_enter Tryz.func70,Tryz.ntmps70
 go_upto_region 20 with (fail)
 generalize (w.alloc (.cells #[.string oFby,.int .i64 n,.string s,.slice a l.length c] 79)).alloc (.cells #[.int .i64 0,.int .i64 0] 75)=W at *
 obtain⟨b0,o0,ax0,cx0,he0,c00,c01,c02,c03,hx0⟩:=hU.at (i:=0) (by omega)
 cases he0
 obtain⟨⟨zk0,zn0⟩,hz0⟩:∃ z,x.V (l[0]'(by omega)) (i)=z:=⟨_,rfl⟩
 have HT0:=Zhd (fun w T u kl (h:WdS x K2 w T u kl)=>hT0 (by omega) K2 _ hok2 hx0 w T u kl h)
 rw [hz0] at HT0
 simp only [Nat.zero_mul,Nat.one_mul,Nat.add_zero] at c00 c01 c02 c03
 have hs0:=(x.Vs_get l 0 (by omega) (i)).trans hz0
 generalize l[0]'(by omega)=y0 at *
 obtain⟨b1,o1,ax1,cx1,he1,c10,c11,c12,c13,hx1⟩:=hU.at (i:=1) hl2
 cases he1
 obtain⟨⟨zk1,zn1⟩,hz1⟩:∃ z,x.V l[1] (i - 1)=z:=⟨_,rfl⟩
 have HT1:=Zhd (fun w T u kl (h:WdS x K2 w T u kl)=>hT1 (by omega) hl2 K2 _ hok2 hx1 w T u kl h)
 rw [hz1,hi1] at HT1
 simp only [Nat.one_mul,Nat.add_zero] at c10 c11 c12 c13
 have hs1:=(x.Vs_get l 1 hl2 (i - 1)).trans hz1
 generalize l[1]=y1 at *
 have hV:b=false→x.V (.mk oFby n s l) i=⟨zk1,zn1⟩:=fun h=>(hVb h).trans (show (if i=0 then (wdVs x.R x.inp x.fv l i).getD 0 vz else (wdVs x.R x.inp x.fv l (i - 1)).getD 1 vz)=⟨zk1,zn1⟩ from by rw [if_neg hi0];exact hs1)
 clear hVb hok2 hv2 hU he hT1
 have d00:=hN.st.isin.cell c00
 have d01:=hN.st.isin.cell c01
 have d02:=hN.st.isin.cell c02
 have d03:=hN.st.isin.cell c03
 go_wp2_with fail
 refine (HT0.out _ _ _ _ hN.st).mono ?_
 rintro r0 w2 ⟨Tw2,uw2,klw2,rfl,hM,_⟩
 have hR:=hM.gr.heap hR hRB2.1 hRB2.2 (by decide)
 have hN:=hN.trans hM (.inr ⟨rfl,Nat.le_refl _⟩)
 have hlt:=(Zlt hR)
 have hBa:x.B<w2.heap.size∧x.D<w2.heap.size:=by omega
 have hN:=hN.alloc (.cells #[.int .i64 zk0,.int .i64 zn0] 75)
 have hR:=(Below.heap_alloc w2 (.cells #[.int .i64 zk0,.int .i64 zn0] 75) _ hlt).trans hR
 have hA:=heap_alloc_new w2 (.cells #[.int .i64 zk0,.int .i64 zn0] 75)
 have hlt:=(Zlt hR)
 have q3:=hN.st.isin.cell j3
 have d10:=hN.st.isin.cell c10
 have d11:=hN.st.isin.cell c11
 have d12:=hN.st.isin.cell c12
 have d13:=hN.st.isin.cell c13
 go_wp2_with fail
 refine (HT1.out _ _ _ _ hN.st).mono ?_
 rintro r0 w4 ⟨Tw4,uw4,klw4,rfl,hM,_⟩
 have hR:=hM.gr.heap hR hRB2.1 hRB2.2 (by decide)
 have hN:=hN.trans hM (.inl (by omega))
 have hlt:=(Zlt hR)
 exact mWp4
theorem wplain_arrow {x:WdW} (hp:WdP x) {o:ByteArray} {n:Int} {s:ByteArray} {l:List Ex} {i r:Nat} (hi:i<x.ins.length) (ho:o=Zbm) (he:InP x (.mk o n s l)) (hT:∀ j (h:j<l.length),Zj8 x l[j] i r):PlainC x (.mk o n s l) i r:=by
 subst ho
 have hown:x.own (.mk Zbm n s l) i=false:=x.own_not (by decide) (by decide)
 obtain⟨o,hoo⟩:∃ o,o=Zbm:=⟨_,rfl⟩
 rw [← hoo] at he hown ⊢
 intro K v b hb hok hv w T u kl hs
 obtain⟨ue,rfl,hue⟩:=hv
 simp only [Ex.op,Ex.n,Ex.s,Ex.l] at hue ⊢
 obtain⟨a,c,rfl⟩:=hue.len
 have hVb:=x.Vplain o n s l i b hb
 obtain⟨hRB,hRB2,K2,hle,hok2,hKR,hR,hN,j0,j1,j2,j3,hv2,hlt,q0,q1,q2,q3⟩:=Zeu hp (i:=i) (r:=r) (o:=o) (n:=n) (s:=s) hok hue hs
 have hU:=hue.le hle
 have HLE:=Zhd hle
 clear hok hs hue hle
 subst hoo
 clear hb
 have hl2:1<l.length:=by have:=(Zax he.form).2.2.1 rfl;omega
 by_cases hi0:i=0
 ·subst hi0
  rw [show ((0:Nat):Int)=0 from rfl]
  go_enter Tryz.func70,Tryz.ntmps70
  go_upto_region 25 with (fail)
  generalize (w.alloc (.cells #[.string Zbm,.int .i64 n,.string s,.slice a l.length c] 79)).alloc (.cells #[.int .i64 0,.int .i64 0] 75)=W at *
  obtain⟨b0,o0,ax0,cx0,he0,c00,c01,c02,c03,hx0⟩:=hU.at (i:=0) (by omega)
  cases he0
  obtain⟨⟨zk0,zn0⟩,hz0⟩:∃ z,x.V (l[0]'(by omega)) (0)=z:=⟨_,rfl⟩
  have HT0:=Zhd (fun w T u kl (h:WdS x K2 w T u kl)=>hT 0 (by omega) K2 _ hok2 hx0 w T u kl h)
  rw [hz0] at HT0
  simp only [Nat.zero_mul,Nat.one_mul,Nat.add_zero] at c00 c01 c02 c03
  have hs0:=(x.Vs_get l 0 (by omega) (0)).trans hz0
  generalize l[0]'(by omega)=y0 at *
  obtain⟨b1,o1,ax1,cx1,he1,c10,c11,c12,c13,hx1⟩:=hU.at (i:=1) hl2
  cases he1
  obtain⟨⟨zk1,zn1⟩,hz1⟩:∃ z,x.V l[1] 0=z:=⟨_,rfl⟩
  have HT1:=Zhd (fun w T u kl (h:WdS x K2 w T u kl)=>hT 1 hl2 K2 _ hok2 hx1 w T u kl h)
  rw [hz1] at HT1
  simp only [Nat.one_mul,Nat.add_zero] at c10 c11 c12 c13
  have hs1:=(x.Vs_get l 1 hl2 0).trans hz1
  generalize l[1]=y1 at *
  rw [show ((0:Nat):Int)=0 from rfl] at HT0 HT1
  have hV:b=false→x.V (.mk Zbm n s l) 0=⟨zk0,zn0⟩:=fun h=>(hVb h).trans hs0
  clear hVb hok2 hv2 hU he hT
  have d00:=hN.st.isin.cell c00
  have d01:=hN.st.isin.cell c01
  have d02:=hN.st.isin.cell c02
  have d03:=hN.st.isin.cell c03
  go_wp2_with fail
  refine (HT0.out _ _ _ _ hN.st).mono ?_
  rintro r0 w2 ⟨Tw2,uw2,klw2,rfl,hM,_⟩
  have hR:=hM.gr.heap hR hRB2.1 hRB2.2 (by decide)
  have hN:=hN.trans hM (.inr ⟨rfl,Nat.le_refl _⟩)
  have hlt:=(Zlt hR)
  have hBa:x.B<w2.heap.size∧x.D<w2.heap.size:=by omega
  have hN:=hN.alloc (.cells #[.int .i64 zk0,.int .i64 zn0] 75)
  have hR:=(Below.heap_alloc w2 (.cells #[.int .i64 zk0,.int .i64 zn0] 75) _ hlt).trans hR
  have hA:=heap_alloc_new w2 (.cells #[.int .i64 zk0,.int .i64 zn0] 75)
  have hlt:=(Zlt hR)
  have q3:=hN.st.isin.cell j3
  have d10:=hN.st.isin.cell c10
  have d11:=hN.st.isin.cell c11
  have d12:=hN.st.isin.cell c12
  have d13:=hN.st.isin.cell c13
  go_wp2_with fail
  refine (HT1.out _ _ _ _ hN.st).mono ?_
  rintro r0 w4 ⟨Tw4,uw4,klw4,rfl,hM,_⟩
  have hR:=hM.gr.heap hR hRB2.1 hRB2.2 (by decide)
  have hN:=hN.trans hM (.inr ⟨rfl,Nat.le_refl _⟩)
  have hlt:=(Zlt hR)
  have hA1:=hM.gr.heap hA hBa.1 hBa.2 (by decide)
  have hA1:=(Below.heap_alloc w4 (.cells #[.int .i64 zk1,.int .i64 zn1] 75) _ (Zlt hA1)).trans hA1
  have hBa:x.B<w4.heap.size∧x.D<w4.heap.size:=by omega
  have hN:=hN.alloc (.cells #[.int .i64 zk1,.int .i64 zn1] 75)
  have hR:=(Below.heap_alloc w4 (.cells #[.int .i64 zk1,.int .i64 zn1] 75) _ hlt).trans hR
  have hA2:=heap_alloc_new w4 (.cells #[.int .i64 zk1,.int .i64 zn1] 75)
  have hlt:=(Zlt hR)
  obtain⟨s0,s1,_,_,_⟩:=Zak hA1
  obtain⟨s2,s3,_,_,_⟩:=Zak hA2
  go_upto_region 28 with (fail)
  generalize w4.alloc (.cells #[.int .i64 zk1,.int .i64 zn1] 75)=W3 at *
  exact mWp3
 have hid:((i:Int)==0)=false:=by simp;omega
 go_enter Tryz.func70,Tryz.ntmps70
 go_upto_region 25 with (fail)
 generalize (w.alloc (.cells #[.string Zbm,.int .i64 n,.string s,.slice a l.length c] 79)).alloc (.cells #[.int .i64 0,.int .i64 0] 75)=W at *
 obtain⟨b0,o0,ax0,cx0,he0,c00,c01,c02,c03,hx0⟩:=hU.at (i:=0) (by omega)
 cases he0
 obtain⟨⟨zk0,zn0⟩,hz0⟩:∃ z,x.V (l[0]'(by omega)) (i)=z:=⟨_,rfl⟩
 have HT0:=Zhd (fun w T u kl (h:WdS x K2 w T u kl)=>hT 0 (by omega) K2 _ hok2 hx0 w T u kl h)
 rw [hz0] at HT0
 simp only [Nat.zero_mul,Nat.one_mul,Nat.add_zero] at c00 c01 c02 c03
 have hs0:=(x.Vs_get l 0 (by omega) (i)).trans hz0
 generalize l[0]'(by omega)=y0 at *
 obtain⟨b1,o1,ax1,cx1,he1,c10,c11,c12,c13,hx1⟩:=hU.at (i:=1) hl2
 cases he1
 obtain⟨⟨zk1,zn1⟩,hz1⟩:∃ z,x.V l[1] i=z:=⟨_,rfl⟩
 have HT1:=Zhd (fun w T u kl (h:WdS x K2 w T u kl)=>hT 1 hl2 K2 _ hok2 hx1 w T u kl h)
 rw [hz1] at HT1
 simp only [Nat.one_mul,Nat.add_zero] at c10 c11 c12 c13
 have hs1:=(x.Vs_get l 1 hl2 i).trans hz1
 generalize l[1]=y1 at *
 have hV:b=false→x.V (.mk Zbm n s l) i=⟨zk1,zn1⟩:=fun h=>(hVb h).trans (show (if i=0 then (wdVs x.R x.inp x.fv l i).getD 0 vz else (wdVs x.R x.inp x.fv l i).getD 1 vz)=⟨zk1,zn1⟩ from by rw [if_neg hi0];exact hs1)
 clear hVb hok2 hv2 hU he hT
 have d00:=hN.st.isin.cell c00
 have d01:=hN.st.isin.cell c01
 have d02:=hN.st.isin.cell c02
 have d03:=hN.st.isin.cell c03
 go_wp2_with fail
 refine (HT0.out _ _ _ _ hN.st).mono ?_
 rintro r0 w2 ⟨Tw2,uw2,klw2,rfl,hM,_⟩
 have hR:=hM.gr.heap hR hRB2.1 hRB2.2 (by decide)
 have hN:=hN.trans hM (.inr ⟨rfl,Nat.le_refl _⟩)
 have hlt:=(Zlt hR)
 have hBa:x.B<w2.heap.size∧x.D<w2.heap.size:=by omega
 have hN:=hN.alloc (.cells #[.int .i64 zk0,.int .i64 zn0] 75)
 have hR:=(Below.heap_alloc w2 (.cells #[.int .i64 zk0,.int .i64 zn0] 75) _ hlt).trans hR
 have hA:=heap_alloc_new w2 (.cells #[.int .i64 zk0,.int .i64 zn0] 75)
 have hlt:=(Zlt hR)
 have q3:=hN.st.isin.cell j3
 have d10:=hN.st.isin.cell c10
 have d11:=hN.st.isin.cell c11
 have d12:=hN.st.isin.cell c12
 have d13:=hN.st.isin.cell c13
 go_wp2_with fail
 refine (HT1.out _ _ _ _ hN.st).mono ?_
 rintro r0 w4 ⟨Tw4,uw4,klw4,rfl,hM,_⟩
 have hR:=hM.gr.heap hR hRB2.1 hRB2.2 (by decide)
 have hN:=hN.trans hM (.inr ⟨rfl,Nat.le_refl _⟩)
 have hlt:=(Zlt hR)
 have hA1:=hM.gr.heap hA hBa.1 hBa.2 (by decide)
 have hA1:=(Below.heap_alloc w4 (.cells #[.int .i64 zk1,.int .i64 zn1] 75) _ (Zlt hA1)).trans hA1
 have hBa:x.B<w4.heap.size∧x.D<w4.heap.size:=by omega
 have hN:=hN.alloc (.cells #[.int .i64 zk1,.int .i64 zn1] 75)
 have hR:=(Below.heap_alloc w4 (.cells #[.int .i64 zk1,.int .i64 zn1] 75) _ hlt).trans hR
 have hA2:=heap_alloc_new w4 (.cells #[.int .i64 zk1,.int .i64 zn1] 75)
 have hlt:=(Zlt hR)
 obtain⟨s0,s1,_,_,_⟩:=Zak hA1
 obtain⟨s2,s3,_,_,_⟩:=Zak hA2
 go_upto_region 29 with (fail)
 generalize w4.alloc (.cells #[.int .i64 zk1,.int .i64 zn1] 75)=W3 at *
 exact mWp4
theorem wplain_name {x:WdW} (hp:WdP x) {o:ByteArray} {n:Int} {s:ByteArray} {l:List Ex} {i r:Nat} (hi:i<x.ins.length) (ho:o=Zb2) (he:InP x (.mk o n s l)) (hF:∀ k,fIdx x.p s=some k→FlowC x k i∧x.rk k+1≤r):PlainC x (.mk o n s l) i r:=by
 subst ho
 have hown:x.own (.mk Zb2 n s l) i=false:=x.own_not (by decide) (by decide)
 obtain⟨o,hoo⟩:∃ o,o=Zb2:=⟨_,rfl⟩
 rw [← hoo] at he hown ⊢
 intro K v b hb hok hv w T u kl hs
 obtain⟨ue,rfl,hue⟩:=hv
 simp only [Ex.op,Ex.n,Ex.s,Ex.l] at hue ⊢
 obtain⟨a,c,rfl⟩:=hue.len
 have hVb:=x.Vplain o n s l i b hb
 obtain⟨hRB,hRB2,K2,hle,hok2,hKR,hR,hN,j0,j1,j2,j3,hv2,hlt,q0,q1,q2,q3⟩:=Zeu hp (i:=i) (r:=r) (o:=o) (n:=n) (s:=s) hok hue hs
 have hU:=hue.le hle
 have HLE:=Zhd hle
 clear hok hs hue hle
 subst hoo
 clear hb
 obtain⟨ai,ci,hvi⟩:=hok2.pr.ins.len
 have hks:(x.ks s).isSome=true:=by
  have h:=he.form
  simp only [Zaf,Bool.and_eq_true,Bool.or_eq_true,decide_eq_true_eq] at h
  exact h.1.2.resolve_left (fun h=>h rfl)
 have HCS:=Zhd (nm_case (Zbk hp.ho).1 hp.hks s hks)
 have HOK:=Zhd hok2
 have hil:x.p.ins.length≤1000:=hp.sz.2.2.1
 have hfl4:x.p.fl.length≤400:=hp.sz.1
 have hik:x.ins.length≤1000:=hp.sz.2.2.2
 have HLN:=Zhd (show (x.inp i).length=x.p.ins.length from by
  have:=hp.inpR hi
  unfold Zav at this
  simp only [Bool.and_eq_true,decide_eq_true_eq] at this
  exact this.1)
 have HV:=Zhd hVb
 have HN:=Zhd hN
 have HR:=Zhd hR
 clear hVb hok2 hv2 hU he hks hN hR
 go_enter Tryz.func70,Tryz.ntmps70
 go_upto_region 9 with (fail)
 go_wp2_with fail
 generalize (w.alloc (.cells #[.string Zb2,.int .i64 n,.string s,.slice a l.length c] 79)).alloc (.cells #[.int .i64 0,.int .i64 0] 75)=W at *
 go_loopw [9] (fun z wr=>∃ m:Nat,z = .int .i64 m∧m≤x.p.ins.length∧(∀ q (h:q<x.p.ins.length),q<m→x.p.ins[q].name≠s)∧WdR2 x K2 i r w T kl (w.heap.size+1) T u kl wr) (fun z _=>x.p.ins.length - (intOf z).toNat)
 case atStart=>exact⟨0,rfl,Nat.zero_le _,fun q _ h=>by omega,HN.out,_,_,HR.out⟩
 obtain⟨m,rfl,hm,hn,hN,p0,p1,hR⟩:=hrel
 have HNN:=Zhd hn
 clear hn
 have v0:wr.cell? ⟨x.B,0,none⟩=some (.slice ai x.p.ins.length ci):=by rw [hN.st.cell];show some x.vi=_;rw [hvi]
 have q2:=hN.st.isin.cell j2
 by_cases hml:m<x.p.ins.length
 ·obtain⟨bi,oi,hai,_,hvc0,_⟩:=SlV.at (hvi▸HOK.out.pr.ins) hml
  subst hai
  simp only [Nat.add_zero] at hvc0
  have hSD:WdR2 x K2 i r w T kl (w.heap.size+1) T u kl wr.drew:=⟨hN.below ((Below.refl _ _).drew),_,_,hR⟩
  have HNM:=Zhd (show ∀ h:x.p.ins[m].name≠s,∀ q (h:q<x.p.ins.length),q<m+1→x.p.ins[q].name≠s from fun h q hq hqm=>by
   by_cases e:q=m
   ·subst e;exact h
   exact HNN.out q hq (by omega))
  have HFD:=Zhd (show x.p.ins[m].name=s→(getI (Zai x.p) s = -1 - (m:Int)) from fun h=>by
   rcases HCS.out with ⟨j,hj,e1,e2,e3⟩ | ⟨k,hk,_,_,_,e⟩
   ·by_cases hjm:j=m
    ·rw [e3,hjm]
    rcases Nat.lt_or_ge m j with h1 | h1
    ·exact absurd h (e2 m hml h1)
    exact absurd e1 (HNN.out j hj (by omega))
   exact absurd h (e m hml))
  generalize x.p.ins[m]=y at *
  by_cases hys:y.name=s
  ·have hq:(y.name.toList==s.toList)=true:=by simp [hys]
   obtain⟨av,cv,hvin⟩:=HOK.out.ins.len
   obtain⟨b2,o2,a3,c3,hav,g0,hvl⟩:=InsV.at (hvin▸HOK.out.ins) hi
   subst hav
   have hxi:x.ins[i]=x.inp i:=by simp [WdW.inp,List.getD_eq_getElem?_getD,hi]
   rw [hxi] at g0 hvl
   have hml2:m<(x.inp i).length:=by rw [HLN.out];exact hml
   obtain⟨b3,o3,ha3,g1,g2⟩:=Zdr hvl hml2
   subst ha3
   have hV:b=false→x.V (.mk Zb2 n s l) i=(x.inp i)[m]:=fun h=>(HV.out h).trans (show (if getI (Zai x.p) s<0 then (x.inp i).getD (-1 - getI (Zai x.p) s).toNat vz else x.fv (getI (Zai x.p) s).toNat i)=(x.inp i)[m] from by
    rw [HFD.out hys,if_pos (by omega),show (-1 - (-1 - (m:Int))).toNat=m from by omega]
    simp [List.getD_eq_getElem?_getD,hml2])
   have HLEN:=Zhd HLN.out
   generalize (x.inp i)[m]=yv at *
   obtain⟨yk,yn⟩:=yv
   go_wp2_with fail
   refine Zae (WdR2 x K2 i r w T kl (w.heap.size+1) T u kl) (fun _=>True) 99 (by kernel_rfl) ?_
   refine w3 0 ?_
   iterate 12 ((first | (refine tk3 (v:=?_) rfl hSD Ztr ?hy ?_;(case hy=>exact mWp1)) | refine sk3 rfl hSD Ztr ?_ | refine no3 ?_);refine Zss ?_)
   refine w3e ?_
   refine Zwd ?_
   obtain⟨hN,p0,p1,hR⟩:=hSD
   generalize wr.drew=W1 at *
   have v7:W1.cell? ⟨x.B,7,none⟩=some (.slice (some ⟨b2,o2,none⟩) x.ins.length cv):=by rw [hN.st.cell];show some x.vin=_;rw [hvin]
   have d0:=hN.st.isin.cell g0
   have d1:=hN.st.isin.cell g1
   have d2:=hN.st.isin.cell g2
   obtain⟨_,_,f0,f1,_⟩:=Zak hR
   obtain⟨e0,e1,_,_⟩:=Za7 hR (.int .i64 yk) (.int .i64 yn)
   have E0:=Zhd e0
   have E1:=Zhd e1
   have HF:=Zhd ((hN.put2 (Nat.le_succ _) hRB2.1 hRB2.2 hKR hR (by decide) (.int .i64 yk) (.int .i64 yn)).kn (HLE.out.inOf (hN.put2 (Nat.le_succ _) hRB2.1 hRB2.2 hKR hR (by decide) (.int .i64 yk) (.int .i64 yn)).st.isin))
   clear e0 e1 hN hR
   go_wp2_with (guard_target =~ bodyPost _ _ _ _ _ _;have e0:=E0.out;have e1:=E1.out;refine bodyPost_ret (v:=vlV ⟨yk,yn⟩) (by simp [results,Tryz.results70,go_sem,e0,e1]) rfl ?_;exact⟨⟨yk,yn⟩,_,_,_,rfl,fun h=>(hV h).symm,HF.out,fun h=>by rw [hown] at h;cases h⟩)
  have hq:(y.name.toList==s.toList)=false:=by rw [str_eq];simpa using hys
  go_wp2_with fail
  refine Zae (WdR2 x K2 i r w T kl (w.heap.size+1) T u kl) (fun _=>True) 99 (by kernel_rfl) ?_
  refine w3 0 ?_
  iterate 12 ((first | (refine tk3 (v:=?_) rfl hSD Ztr ?hy ?_;(case hy=>exact mWp1)) | refine sk3 rfl hSD Ztr ?_ | refine no3 ?_);refine Zss ?_)
  refine w3e ?_
  refine Zwd ?_
  go_wp2_with fail
  go_roundw
  case rel=>exact⟨m+1,by go_num,by omega,HNM.out hys,hSD⟩
  simp [intOf];omega
 obtain rfl:m=x.p.ins.length:=by omega
 obtain⟨k,hk,hkn,hnk,hfi⟩:∃ k,∃ hk:k<x.p.fl.length,x.p.fl[k].name=s∧getI (Zai x.p) s=(k:Int)∧fIdx x.p s=some k:=by
  rcases HCS.out with ⟨j,hj,e1,_⟩ | ⟨k,hk,e1,e2,e3,_⟩
  ·exact absurd e1 (HNN.out j hj hj)
  exact⟨k,hk,e1,e2,e3⟩
 obtain⟨hFC,hrk⟩:=hF k hfi
 obtain⟨⟨zk,zn⟩,hz⟩:∃ z,x.fv k i=z:=⟨_,rfl⟩
 have hV:b=false→x.V (.mk Zb2 n s l) i=⟨zk,zn⟩:=fun h=>(HV.out h).trans (show (if getI (Zai x.p) s<0 then (x.inp i).getD (-1 - getI (Zai x.p) s).toNat vz else x.fv (getI (Zai x.p) s).toNat i)=⟨zk,zn⟩ from by
  rw [hnk,if_neg (by omega),show (k:Int).toNat=k from by omega];exact hz)
 have HFI:=Zhd (show fInt x.p s=(k:Int) from by unfold fInt;rw [hfi])
 have HFL:=Zhd (fun w T u kl (h:WdS x K2 w T u kl)=>hFC K2 HOK.out w T u kl h)
 rw [hz] at HFL
 have HFO:=Zhd (fun (wz:World) (hz:K2.In wz)=>Zg0 K2 x.p x.vi x.vo x.vl x.va x.vc HOK.out.pr (by omega) s wz hz)
 rw [HFI.out] at HFO
 have hSD:WdE x K2 i r w T kl (w.heap.size+1) wr.drew:=⟨T,u,kl,hN.below ((Below.refl _ _).drew),_,_,hR⟩
 clear hnk hkn hz hfi hFC hF HCS
 go_wp2_with fail
 clear hvi v0
 refine Zae (WdE x K2 i r w T kl (w.heap.size+1)) (fun _=>True) 99 (by kernel_rfl) ?_
 refine w3 0 ?_
 iterate 7 ((first | (refine tk3 (v:=?_) rfl hSD Ztr ?hy ?_;(case hy=>exact mWp2)) | refine sk3 rfl hSD Ztr ?_ | refine no3 ?_);refine Zss ?_)
 refine w3e ?_
 refine w3 8 ?_
 iterate 1 ((first | (refine tk3 (v:=?_) rfl hSD Ztr ?hy ?_;(case hy=>exact mWp2)) | refine sk3 rfl hSD Ztr ?_ | refine no3 ?_);refine Zss ?_)
 refine w3e ?_
 refine Zwo 7 rfl fun K_ hK=>?_
 go_simp
 go_at_call 53
 refine (HFO.out _ (by obtain⟨T9,u9,kl9,h⟩:=hSD;exact h.1.st.isin)).mono ?_
 rintro r0 w4 ⟨rfl,hb4⟩
 have hSE:WdE x K2 i r w T kl (w.heap.size+1) w4:=by obtain⟨T9,u9,kl9,h⟩:=hSD;exact⟨T9,u9,kl9,h.below hb4⟩
 refine hK.out _ _ (hSE) Ztr ?_
 clear hK K_
 try simp only [tkS]
 refine Zwo 9 rfl fun K_ hK=>?_
 obtain⟨T9,u9,kl9,hN9,p9,q9,hR9⟩:=hSE
 go_simp
 go_at_call 52
 refine (HFL.out _ _ _ _ hN9.st).mono ?_
 rintro r0 w5 ⟨T5,u5,kl5,rfl,hM⟩
 have hR5:=hM.gr.heap hR9 hRB2.1 hRB2.2 (by decide)
 have hN5:=hN9.trans hM (.inr ⟨rfl,hrk⟩)
 obtain⟨g0,g1,f0,f1,_⟩:=Zak hR5
 obtain⟨e0,e1,_,_⟩:=Za7 hR5 (.int .i64 zk) (.int .i64 zn)
 have E0:=Zhd e0
 have E1:=Zhd e1
 have hF5:=hN5.put2 (Nat.le_succ _) hRB2.1 hRB2.2 hKR hR5 (by decide) (.int .i64 zk) (.int .i64 zn)
 have hSF:WdE x K2 i r w T kl (w.heap.size+1) _:=⟨_,_,_,hF5,_,_,Ze5 hR5 (.int .i64 zk) (.int .i64 zn)⟩
 have hSG:WdE x K2 i r w T kl (w.heap.size+1) w5:=⟨_,_,_,hN5,_,_,hR5⟩
 have HF5:=Zhd (hF5.kn (HLE.out.inOf hF5.st.isin))
 clear e0 e1 hF5 hN5 hN9
 refine hK.out _ _ (hSG) Ztr ?_
 clear hK K_
 try simp only [tkS]
 refine Zwo 10 rfl fun K_ hK=>?_
 go_simp
 refine hK.out _ _ (hSF) Ztr ?_
 clear hK K_
 try simp only [tkS]
 refine Zwd ?_
 go_wp2_with (guard_target =~ bodyPost _ _ _ _ _ _;have e0:=E0.out;have e1:=E1.out;refine bodyPost_ret (v:=vlV ⟨zk,zn⟩) (by simp [results,Tryz.results70,go_sem,e0,e1]) rfl ?_;exact⟨⟨zk,zn⟩,_,_,_,rfl,fun h=>(hV h).symm,HF5.out,fun h=>by rw [hown] at h;cases h⟩)
theorem wplain_op {x:WdW} (hp:WdP x) {o:ByteArray} {n:Int} {s:ByteArray} {l:List Ex} {i r:Nat} (hi:i<x.ins.length) (ho:o≠oInt∧o≠Zc2∧o≠Zb9∧o≠Zb2∧o≠oPre∧o≠Zbm∧o≠oFby) (he:InP x (.mk o n s l)) (hT:∀ j (h:j<l.length),Zj8 x l[j] i r):PlainC x (.mk o n s l) i r:=by
 obtain⟨a1,a2,a3,a4,a5,a6,a7⟩:=ho
 intro K v b hb hok hv w T u kl hs
 obtain⟨ue,rfl,hue⟩:=hv
 simp only [Ex.op,Ex.n,Ex.s,Ex.l] at hue ⊢
 obtain⟨a,c,rfl⟩:=hue.len
 have hVb:=x.Vplain o n s l i b hb
 obtain⟨hRB,hRB2,K2,hle,hok2,hKR,hR,hN,j0,j1,j2,j3,hv2,hlt,q0,q1,q2,q3⟩:=Zeu hp (i:=i) (r:=r) (o:=o) (n:=n) (s:=s) hok hue hs
 have hU:=hue.le hle
 have HLE:=Zhd hle
 clear hok hs hue hle
 have hOE:=x.own_eq o n s l i b hb
 have hAP:=hp.app he ⟨a1,a2,a3,a4,a5,a6,a7⟩ hi
 have hTR:x.own (.mk o n s l) i=true→x.tr i=true:=fun h=>he.tr i (by simp only [allT,Bool.or_eq_true];exact .inl h)
 have hV:b=false→x.V (.mk o n s l) i=if (appM o (wdVs x.R x.inp x.fv l i)).2 then ⟨2,0⟩ else (appM o (wdVs x.R x.inp x.fv l i)).1:=fun h=>by
  have:=hVb h
  rw [if_neg a1,if_neg (by rintro (h | h)<;>first | exact a2 h | exact a3 h),if_neg a4,if_neg a5,if_neg a7,if_neg a6] at this
  exact this
 obtain⟨⟨⟨rk,rn⟩,tp⟩,hr⟩:∃ z,appM o (wdVs x.R x.inp x.fv l i)=z:=⟨_,rfl⟩
 rw [hr] at hOE hV
 have hKg:∀ g,w.heap.size+2≤g→K2 g=none:=fun g hg=>hN.st.isin.isNone (by simp;omega)
 have HAP:=Zhd (fun (v:Value) (wz:World) (hv:VlsV (Zcd (w.heap.size+2) wz) (wdVs x.R x.inp x.fv l i) v)=>rapply_any (Zcd (w.heap.size+2) wz) o _ hAP v hv wz (newKn_in' _ _))
 rw [hr] at HAP
 have b1:(o.toList==[105,110,116])=false:=Zat _ a1
 have b2:(o.toList==[116,114,117,101])=false:=Zat _ a2
 have b3:(o.toList==[102,97,108,115,101])=false:=Zat _ a3
 have b4:(o.toList==[110,97,109,101])=false:=Zat _ a4
 have b5:(o.toList==[112,114,101])=false:=Zat _ a5
 have b6:(o.toList==[102,98,121])=false:=Zat _ a7
 have b7:(o.toList==[45,62])=false:=Zat _ a6
 have hll:l.length≤4000:=by have:=Zbr l;have h:=he.parts;simp only [Ex.parts] at h;omega
 have hlen:(wdVs x.R x.inp x.fv l i).length=l.length:=by rw [Zd5];simp
 have hbd:=hp.bd
 have hik:x.ins.length≤1000:=hp.sz.2.2.2
 obtain⟨i0,hi0,hz0,hz1,hz2⟩:=info_parts Tryz.infoVl
 have HV:=Zhd hV
 have HOE:=Zhd hOE
 have HTR:=Zhd hTR
 have HLEN:=Zhd hlen
 have HU:=Zhd hU
 have HT:=Zhd hT
 have HN:=Zhd hN
 have HR:=Zhd hR
 clear hVb hV hOE hTR hv2 hb hAP hr he hp hlen hU hT a1 a2 a3 a4 a5 a6 a7
 go_enter Tryz.func70,Tryz.ntmps70
 go_upto_region 30 with (fail)
 generalize (w.alloc (.cells #[.string o,.int .i64 n,.string s,.slice a l.length c] 79)).alloc (.cells #[.int .i64 0,.int .i64 0] 75)=W at *
 clear hN hR
 go_wp2_with fail
 go_loopw [13,14] (fun u z wr=>∃ (m:Nat) (T1:List Bool) (u1:Value) (kl1:List KE),z = .int .i64 m∧m≤l.length∧WdR2 x K2 i r w T kl (w.heap.size+1) T1 u1 kl1 wr∧wr.ownsRow (w.heap.size+2) 75 2 u m (vlX ((wdVs x.R x.inp x.fv l i).take m))) (fun _ z _=>l.length - (intOf z).toNat)
 case atStart=>exact⟨0,T,u,kl,rfl,Nat.zero_le _,⟨HN.out,_,_,HR.out⟩,World.ownsRow_nil _ _ _ _⟩
 obtain⟨m,T1,u1,kl1,rfl,hm,⟨hN,p0,p1,hR⟩,hO⟩:=hrel
 have q3:=hN.st.isin.cell j3
 obtain⟨au,cu,hue,_⟩:=Zas hO
 subst hue
 by_cases hml:m<l.length
 ·obtain⟨b0,o0,ax0,cx0,he0,c0,c1,c2,c3,hx0⟩:=HU.out.at (i:=m) hml
  cases he0
  obtain⟨⟨zk,zn⟩,hz⟩:∃ z,x.V l[m] i=z:=⟨_,rfl⟩
  have HTM:=Zhd (fun w T u kl (h:WdS x K2 w T u kl)=>HT.out m hml K2 _ hok2 hx0 w T u kl h)
  have HVS:=Zhd (x.Vs_take l m hml i)
  rw [hz] at HTM HVS
  have d0:=hN.st.isin.cell c0
  have d1:=hN.st.isin.cell c1
  have d2:=hN.st.isin.cell c2
  have d3:=hN.st.isin.cell c3
  clear hz hx0
  generalize l[m]=y at *
  go_wp2_with fail
  refine (HTM.out _ _ _ _ hN.st).mono ?_
  rintro r0 w2 ⟨T2,u2,kl2,rfl,hM,_⟩
  have hO:=(hM.gr.own hO (by omega) (by omega) (by decide)).alloc (.cells #[.int .i64 zk,.int .i64 zn] 75)
  have hR:=hM.gr.heap hR hRB2.1 hRB2.2 (by decide)
  have hR:=(Below.heap_alloc w2 (.cells #[.int .i64 zk,.int .i64 zn] 75) _ (Zlt hR)).trans hR
  have hN:=(hN.trans hM (.inr ⟨rfl,Nat.le_refl _⟩)).alloc (.cells #[.int .i64 zk,.int .i64 zn] 75)
  obtain⟨s0,s1,_,_,_⟩:=Zak (heap_alloc_new w2 (.cells #[.int .i64 zk,.int .i64 zn] 75))
  go_upto_region 35 with (fail)
  generalize w2.alloc (.cells #[.int .i64 zk,.int .i64 zn] 75)=W3 at *
  have n9:=fun o=>hN.alloc o
  have r9:=fun o=>hO.alloc o
  have l9:∀ o,w.heap.size+2≤(W3.alloc o).heap.size:=fun o=>by have:=(Zlt hR);simp;omega
  have R9:=fun o=>(Below.heap_alloc W3 o _ (Zlt hR)).trans hR
  have hz0w:w.heap.size≤w.heap.size+2:=by omega
  go_wp2_with (refine wpList_append_lies _ (by rfl) _ _ _ (by rfl) (w.heap.size+2) 75 i0 _ 2 16 Tryz.underlying57 hi0 hz0 hz1 hz2 rfl (by omega) _ m (vlX ((wdVs x.R x.inp x.fv l i).take m)) (by rfl) (r9 _) ⟨_,0,none⟩ 1 1 [.int .i64 zk,.int .i64 zn] (by rfl) (by rfl) (by exact World.news_of_block (heap_alloc_new _ _)) (by simp [Value.oneCell']) (by omega) (by unfold maxLen;omega) (by omega) (l9 _) _ rfl ?_;intro gg cap' w3 hown hgrow hat hltg;have hG:=(n9 _).grownL (r9 _) (by omega) (by omega) hz0w (by decide) hKg hgrow;have hR3:=(hgrow.block _ (Zlt (R9 _)) (fun e=>Zbi (r9 (.cells #[] 0)) (by omega) e.symm)).trans (R9 _))
  go_roundw
  case rel=>exact⟨m+1,T2,u2,kl2,by go_num,by omega,⟨hG,_,_,hR3⟩,by rw [HVS.out];exact hown⟩
  simp [intOf];omega
 obtain rfl:m=l.length:=by omega
 rw [← HLEN.out,List.take_length] at hO
 have hv:=vls_row hO (Nat.le_refl _)
 rw [HLEN.out] at hv
 have HAC:=Zhd (HAP.out _ _ hv)
 have q0:=hN.st.isin.cell j0
 clear hv hO
 go_wp2_with fail
 refine HAC.out.mono ?_
 rintro r0 w2 ⟨rfl,hb2⟩
 have hR:=(hb2.block _ (Zlt hR)).trans hR
 have hR:=(Below.heap_alloc w2 (.cells #[.int .i64 rk,.int .i64 rn] 75) _ (Zlt hR)).trans hR
 have hN:=(hN.below hb2).alloc (.cells #[.int .i64 rk,.int .i64 rn] 75)
 obtain⟨s0,s1,_,_,_⟩:=Zak (heap_alloc_new w2 (.cells #[.int .i64 rk,.int .i64 rn] 75))
 cases tp
 ·go_upto_region 41 with (fail)
  generalize w2.alloc (.cells #[.int .i64 rk,.int .i64 rn] 75)=W3 at *
  obtain⟨_,_,f0,f1,_⟩:=Zak hR
  obtain⟨e0,e1,_,_⟩:=Za7 hR (.int .i64 rk) (.int .i64 rn)
  have E0:=Zhd e0
  have E1:=Zhd e1
  have HF:=Zhd ((hN.put2 (Nat.le_succ _) hRB2.1 hRB2.2 hKR hR (by decide) (.int .i64 rk) (.int .i64 rn)).kn (HLE.out.inOf (hN.put2 (Nat.le_succ _) hRB2.1 hRB2.2 hKR hR (by decide) (.int .i64 rk) (.int .i64 rn)).st.isin))
  clear e0 e1 hN hR
  go_wp2_with (guard_target =~ bodyPost _ _ _ _ _ _;have e0:=E0.out;have e1:=E1.out;refine bodyPost_ret (v:=vlV ⟨rk,rn⟩) (by simp [results,Tryz.results70,go_sem,e0,e1]) rfl ?_;exact⟨⟨rk,rn⟩,_,_,_,rfl,fun h=>(HV.out h).symm,HF.out,fun h=>by rw [HOE.out] at h;exact absurd h (by simp)⟩)
 cases b
 ·have hT0:=Zhd (HTR.out (by rw [HOE.out];rfl))
  have hlen1:=hN.st.len
  have hil:i<T1.length:=by omega
  have hNN:=hN.note hok2.kn hbd.1 hbd.2.2 hT0.out
  have v10:(w2.alloc (.cells #[.int .i64 rk,.int .i64 rn] 75)).cell? ⟨x.B,10,none⟩=some (.slice (some ⟨x.D,0,none⟩) x.ins.length x.ins.length):=by rw [hN.st.cell];rfl
  have vD:(w2.alloc (.cells #[.int .i64 rk,.int .i64 rn] 75)).cell? ⟨x.D,i,none⟩=some (.bool T1[i]):=by simp [World.cell?,hN.st.trap,hil]
  have fD:(w2.alloc (.cells #[.int .i64 rk,.int .i64 rn] 75)).frozen? ⟨x.D,i,none⟩=false:=by simp [World.frozen?,hN.st.trap]
  have hRR:=(Below.heap_setCell (w2.alloc (.cells #[.int .i64 rk,.int .i64 rn] 75)) ⟨x.D,i,none⟩ (.bool true) (w.heap.size+1) (by show w.heap.size+1≠x.D;omega)).trans hR
  have HTS:=Zhd (show (T1.set i true).getD i false=true from by simp [List.getD_eq_getElem?_getD,hil])
  clear hN hR
  go_upto_region 40 with (fail)
  have hN:=hNN
  have hR:=hRR
  clear hNN hRR
  generalize (w2.alloc (.cells #[.int .i64 rk,.int .i64 rn] 75)).setCell ⟨x.D,i,none⟩ (.bool true)=W3 at *
  obtain⟨_,_,f0,f1,_⟩:=Zak hR
  obtain⟨e0,e1,_,_⟩:=Za7 hR (.int .i64 2) (.int .i64 0)
  have E0:=Zhd e0
  have E1:=Zhd e1
  have HF:=Zhd ((hN.put2 (Nat.le_succ _) hRB2.1 hRB2.2 hKR hR (by decide) (.int .i64 2) (.int .i64 0)).kn (HLE.out.inOf (hN.put2 (Nat.le_succ _) hRB2.1 hRB2.2 hKR hR (by decide) (.int .i64 2) (.int .i64 0)).st.isin))
  clear e0 e1 hN hR
  go_wp2_with (guard_target =~ bodyPost _ _ _ _ _ _;have e0:=E0.out;have e1:=E1.out;refine bodyPost_ret (v:=vlV ⟨2,0⟩) (by simp [results,Tryz.results70,go_sem,e0,e1]) rfl ?_;exact⟨⟨2,0⟩,_,_,_,rfl,fun h=>(HV.out (by simp)).symm,HF.out,fun _=>HTS.out⟩)
 go_upto_region 40 with (fail)
 generalize w2.alloc (.cells #[.int .i64 rk,.int .i64 rn] 75)=W3 at *
 obtain⟨_,_,f0,f1,_⟩:=Zak hR
 obtain⟨e0,e1,_,_⟩:=Za7 hR (.int .i64 2) (.int .i64 0)
 have E0:=Zhd e0
 have E1:=Zhd e1
 have HF:=Zhd ((hN.put2 (Nat.le_succ _) hRB2.1 hRB2.2 hKR hR (by decide) (.int .i64 2) (.int .i64 0)).kn (HLE.out.inOf (hN.put2 (Nat.le_succ _) hRB2.1 hRB2.2 hKR hR (by decide) (.int .i64 2) (.int .i64 0)).st.isin))
 clear e0 e1 hN hR
 go_wp2_with (guard_target =~ bodyPost _ _ _ _ _ _;have e0:=E0.out;have e1:=E1.out;refine bodyPost_ret (v:=vlV ⟨2,0⟩) (by simp [results,Tryz.results70,go_sem,e0,e1]) rfl ?_;exact⟨⟨2,0⟩,_,_,_,rfl,fun h=>Bool.noConfusion h,HF.out,fun h=>by rw [HOE.out] at h;exact absurd h (by decide)⟩)
end Go.Proofs.YtgoccoldkfpbgaaGreatDoor
