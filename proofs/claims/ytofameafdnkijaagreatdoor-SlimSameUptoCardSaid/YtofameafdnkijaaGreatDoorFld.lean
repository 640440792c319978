/- Walks: slim.fold. (Printed by gen_fld.py.) -/
import Derived.Test.YtofameafdnkijaaGreatDoorRg
import Derived.Test.YtofameafdnkijaaGreatDoorSoM
import Derived.Test.YtofameafdnkijaaGreatDoorFap
import Derived.Test.YtofameafdnkijaaGreatDoorSlD
import Derived.Deep.DeepCutAuto
set_option linter.all false
namespace Go.Proofs.YtofameafdnkijaaGreatDoor
set_option maxRecDepth 100000
set_option maxHeartbeats 16000000
open Go.RowKit Mx
theorem mFld3 {p:Prop} (h:p:=by
 refine Zst ?_
 refine Zwd ?_
 have HE:=Zhd (show Zb5 lt o n s l L=Ziv o n s L from by rw [HE1.out,if_neg (fun h=>by rw [hdv] at h;cases h.1)])
 clear q0 q1 q2 q3 r0 r1 r2 r3 f0 f1 f2 f3 p0 p1
 have TB:=Zhd (TB.out.trans (hD1.mono TB.out.size))
 have TX:=Zhd ((hD1.block _ (Zlt TX.out)).trans TX.out)
 have TR:=Zhd ((hD1.block _ (Zlt TR.out)).trans TR.out)
 have TK:=Zhd (TK.out.below hD1)
 have TV:=Zhd (Zao TV.out hD1)
 have HQS:=Zhd (show w.heap.size+1<w1.heap.size from by have:=hD1.size;have:=HQS.out;omega)
 go_wp2_with fail
 go_meet
 exact⟨HE.out,TB.out,TX.out,TR.out,TK.out,TV.out,HQS.out⟩):p:=h
theorem mFld2 {p:Prop} (h:p:=by
 clear hin2 hKR
 go_wp2_with (guard_target =~ bodyPost _ _ _ _ _ _;obtain⟨e0,e1,e2,e3,_⟩:=Zag HR2.out;refine bodyPost_ret (v := .agg #[.string o,.int .i64 n,.string s,.slice au l.length cu]) (by simp [results,Tryz.results39,go_sem,e0,e1,e2,e3]) rfl ?_;exact⟨_,rfl,by rw [HEE.out];exact⟨_,rfl,HV2.out⟩,HB2.out⟩)):p:=h
theorem mFld1 {p:Prop} (h:p:=by
 refine Zst ?_
 refine Zwd ?_
 clear hb2 hb3 hS hS1 hS2 hD hD1 hD2
 cases hle:decide (Zac lt xoE≤Zac lt xpE)
 case false=>
  have HE:=Zhd (show Zb5 lt o n s l L=Ziv o n s L from by rw [HE1.out,if_neg (fun h=>of_decide_eq_false hle h.2)])
  clear q0 q1 q2 q3 r0 r1 r2 r3 f0 f1 f2 f3 p0 p1
  have TB:=Zhd (TB.out.trans (hD3.mono TB.out.size))
  have TX:=Zhd ((hD3.block _ (Zlt TX.out)).trans TX.out)
  have TR:=Zhd ((hD3.block _ (Zlt TR.out)).trans TR.out)
  have TK:=Zhd (TK.out.below hD3)
  have TV:=Zhd (Zao TV.out hD3)
  have HQS:=Zhd (show w.heap.size+1<w3.heap.size from by have:=hD3.size;have:=HQS.out;omega)
  go_wp2_with fail
  go_meet
  exact⟨HE.out,TB.out,TX.out,TR.out,TK.out,TV.out,HQS.out⟩
 have hE4:Zb5 lt o n s l L=ypE:=by rw [HE1.out,if_pos ⟨hdv,of_decide_eq_true hle⟩]
 have HE4:=Zhd hE4
 have y0:=hS3.cell yp0
 have y1:=hS3.cell yp1
 have y2:=hS3.cell yp2
 have y3:=hS3.cell yp3
 clear hE4 q0 q1 q2 q3 r0 r1 r2 r3 f0 f1 f2 f3 p0 p1
 have TB:=Zhd (TB.out.trans (hD3.mono TB.out.size))
 have TX:=Zhd ((hD3.block _ (Zlt TX.out)).trans TX.out)
 have TR:=Zhd ((hD3.block _ (Zlt TR.out)).trans TR.out)
 have TK:=Zhd (TK.out.below hD3)
 have TV:=Zhd (Zao TV.out hD3)
 obtain⟨q0,q1,q2,q3,_⟩:=Zag TX.out
 obtain⟨r0,r1,r2,r3,f0,f1,f2,f3,_⟩:=Zag TR.out
 have HR2:=Zhd (Zdx TR.out (.string (ypE).op) (.int .i64 (ypE).n) (.string (ypE).s) (.slice ayp (ypE).l.length cyp))
 have hKR:K' (w.heap.size+1)=none:=HLW.out _ (by omega)
 have hin2:=(((TK.out.setCell (a:=⟨w.heap.size+1,0,none⟩) hKR (.string (ypE).op)).setCell (a:=⟨w.heap.size+1,1,none⟩) hKR (.int .i64 (ypE).n)).setCell (a:=⟨w.heap.size+1,2,none⟩) hKR (.string (ypE).s)).setCell (a:=⟨w.heap.size+1,3,none⟩) hKR (.slice ayp (ypE).l.length cyp)
 have HB2:=Zhd ((((TB.out.setCell (p:=⟨w.heap.size+1,0,none⟩) (Nat.le_succ _) (.string (ypE).op)).setCell (p:=⟨w.heap.size+1,1,none⟩) (Nat.le_succ _) (.int .i64 (ypE).n)).setCell (p:=⟨w.heap.size+1,2,none⟩) (Nat.le_succ _) (.string (ypE).s)).setCell (p:=⟨w.heap.size+1,3,none⟩) (Nat.le_succ _) (.slice ayp (ypE).l.length cyp))
 have HV2:=Zhd (HYU.out.le (Zfq hin2 (n:=w.heap.size) (fun b hb=>HLW.out b (by omega)) HUF.out))
 have HEE:=Zhd HE4.out
 clear hin2 hKR
 go_wp2_with (guard_target =~ bodyPost _ _ _ _ _ _;obtain⟨e0,e1,e2,e3,_⟩:=Zag HR2.out;refine bodyPost_ret (v := .agg #[.string (ypE).op,.int .i64 (ypE).n,.string (ypE).s,.slice ayp (ypE).l.length cyp]) (by simp [results,Tryz.results39,go_sem,e0,e1,e2,e3]) rfl ?_;exact⟨_,rfl,by rw [HEE.out];exact⟨_,rfl,HV2.out⟩,HB2.out⟩)):p:=h

def plV (e:Ex):Vl:=(Za3 e).getD vz
theorem arity_le {o:ByteArray} {k:Int} (h:Zcv o=some k) (hne:o≠Zht):0≤k∧k≤3:=by
 unfold Zcv at h
 by_cases c1:o=oInt∨o=Zcn∨o=Zb3∨o=Zbg
 ·rw [if_pos c1] at h;cases h;omega
 rw [if_neg c1] at h
 by_cases c2:o=oNot∨o=oNeg∨o=oPre
 ·rw [if_pos c2] at h;cases h;omega
 rw [if_neg c2] at h
 by_cases c3:o=oIf
 ·rw [if_pos c3] at h;cases h;omega
 rw [if_neg c3,if_neg hne] at h
 by_cases c4:o=Zbq∨o=oFby
 ·rw [if_pos c4] at h;cases h;omega
 rw [if_neg c4] at h
 split at h
 ·cases h;omega
 cases h
theorem form_len {ks:Env Int} {o:ByteArray} {n:Int} {s:ByteArray} {l:List Ex} (h:Zad ks (.mk o n s l)=true):l.length≤3:=by
 simp only [Zad,Bool.and_eq_true,decide_eq_true_eq] at h
 have h1:=h.1.1.1
 have h2:o≠Zht:=h.1.1.2
 unfold form at h1
 simp only [Ex.op,Ex.l] at h1
 cases ha:Zcv o with
 | none=>rw [ha] at h1;cases h1
 | some k=>
  rw [ha] at h1
  simp only [Bool.and_eq_true,Bool.or_eq_true] at h1
  have h3:=arity_le ha h2
  rcases h1.1.1 with h4 | h4
  ·have:=of_decide_eq_true h4;omega
  have:=of_decide_eq_true h4;omega
theorem own_blk {w:World} {base k n:Nat} {e:TypeId} {v:Value} {xs:List Value} (h:w.ownsRow base e k v n xs) {q:Nat} (hq:v.ownBlock=some q):∃ c,w.heap[q]?=some (.cells c e (0,0)):=by
 rcases h.2 with ⟨rfl,_⟩ | ⟨g,cap,cur,rfl,_,h3,_⟩
 ·cases hq
 have:g=q:=by simpa [Value.ownBlock] using hq
 subst this
 exact⟨cur,h3⟩
theorem Tryz.infoVl2:(Tryz.prog.info? 137).map (fun i=>(i.zero,i.size,i.bytes))=some (some (.agg #[.int .i64 0,.int .i64 0]),2,16):=by kernel_rfl
theorem cells2v (w:World) (x y:Value) (t:TypeId):∀ j u,[x,y][j]?=some u→(w.alloc (.cells #[x,y] t)).cell? ((⟨w.heap.size,0,none⟩:Addr).add j)=some u:=by
 intro j u h
 rw [Zdm,World.cell?_alloc_new]
 simpa using h
theorem vlX_app (l m:List Vl):vlX (l++m)=vlX l++vlX m:=by unfold vlX;rw [List.flatMap_append]
def Ziv (o:ByteArray) (n:Int) (s:ByteArray) (l:List Ex):Ex:=
 if (l.all fun e=>(Za3 e).isSome)=true∧l≠[] then
  (if Zdo o (l.map plV)=0∧(appM o (l.map plV)).2=false then (Zbw (appM o (l.map plV)).1).getD (.mk o n s l) else .mk o n s l)
 else .mk o n s l
theorem foldTop_def (lt:ByteArray→Int) (o:ByteArray) (n:Int) (s:ByteArray) (l0 l:List Ex):(o≠oIf→Zb5 lt o n s l0 l=Ziv o n s l)∧
  (o=oIf→Zb5 lt o n s l0 l=match Za3 (l.getD 0 (.mk o n s l)) with
   | some v=>if Zax (l.getD (if v.n=0 then 1 else 2) (.mk o n s l))=false∧Zac lt (l0.getD (if v.n=0 then 1 else 2) (.mk o n s l))≤Zac lt (l0.getD (if v.n=0 then 2 else 1) (.mk o n s l)) then l.getD (if v.n=0 then 2 else 1) (.mk o n s l) else Ziv o n s l
   | none=>Ziv o n s l):=by
 constructor
 ·intro h
  unfold Zb5
  rw [if_neg h]
  rfl
 intro h
 unfold Zb5
 rw [if_pos h]
 rfl
theorem vls_of_row {w:World} {base n:Nat} {v:Value} {l:List Vl} (h:w.ownsRow base 137 2 v n (vlX l)) (hn:l.length=n):VlsV (Zai w) l v:=by
 subst hn
 rcases h.2 with ⟨rfl,h0⟩ | ⟨g,cap,cur,rfl,_,h3,h4,h5,_,h7⟩
 ·exact .inl ⟨List.eq_nil_of_length_eq_zero h0,none,0,rfl⟩
 refine .inr ⟨g,0,cap,rfl,h4,h5,fun i hi=>?_⟩
 have hc:∀ j,j<2→(Zai w).cell g (0+i * 2+j)=(vlX l)[i * 2+j]?:=fun j hj=>by
  rw [Zap,← h7,List.getElem?_take_of_lt (by omega)]
  simp [World.cell?,h3]
 have hg:=fun j hj=>Zfx 2 (fun v:Vl=>[Value.int .i64 v.kind,.int .i64 v.n]) (fun _=>rfl) l i hi j hj
 exact⟨(hc 0 (by decide)).trans (hg 0 (by decide)),(hc 1 (by decide)).trans (hg 1 (by decide))⟩
theorem appM_range {o:ByteArray} {vs:List Vl} (h:Zdo o vs=0) (ht:(appM o vs).2=false) : -128≤(appM o vs).1.n∧(appM o vs).1.n≤127:=by
 have h0:=h
 unfold Zdo at h
 cases ha:Zcv o with
 | none=>rw [ha] at h;cases h
 | some k=>
  rw [ha] at h
  dsimp only at h
  split at h
  ·cases h
  rename_i hc
  split at h
  ·cases h
  rename_i hv
  split at h
  ·cases h
  rename_i hk
  simp only [not_or] at hc
  have hop:=arity_ops ha
  have n0:∀ x,Zcv x=some 0→o≠x:=fun x hx e=>by rw [e,hx] at ha;cases ha;omega
  have hcall:o≠Zht:=fun e=>by
   have:Zcv Zht=some (-1):=by kernel_rfl
   rw [e,this] at ha
   cases ha
   omega
  have hv2:∀ v∈vs,Zba v v.kind=true:=by
   have:(vs.all fun v=>Zba v v.kind)=true:=by simpa using hv
   exact List.all_eq_true.1 this
  have hr:=app_right (k:=0) hop ⟨n0 _ (by kernel_rfl),n0 _ (by kernel_rfl),n0 _ (by kernel_rfl),n0 _ (by kernel_rfl),hc.2.2.1,hc.2.2.2.1,hc.2.2.2.2,hcall⟩ hv2 hk
  rw [if_neg (by rw [ht];simp)] at hr
  obtain⟨h1,h2⟩:=Zis hr
  unfold Zba at hr
  simp only [Bool.and_eq_true,decide_eq_true_eq] at hr
  have h3:=hr.2
  split at h3
  ·simp only [Bool.or_eq_true,decide_eq_true_eq] at h3
   omega
  simp at h3
  omega
theorem OwI.grown2 {w0 wr w3:World} {B k k2 n2:Nat} {o:ByteArray} {n:Int} {s:ByteArray} {l:List Ex} {u v v2:Value} {xs ys zs:List Value} {K:Kn} (h:OwI w0 wr B o n s l k u xs K) (ho:w3.ownsRow (B+1+1) 137 2 v2 n2 zs) (hg:wr.grownBy w3 v.ownBlock) (hv:wr.ownsRow (B+1+1) 137 2 v k2 ys) (hn:∀ g,v.ownBlock=some g→K g=none):OwI w0 w3 B o n s l k u xs K:=by
 have hs:=h.size
 have hne:∀ q,u.ownBlock=some q→some q≠v.ownBlock:=fun q hq e=>by
  obtain⟨c,hc⟩:=own_blk h.row hq
  exact Zd3 hv hc (by decide) e.symm
 have hb:∀ i,i<B+1+1→w3.heap[i]?=wr.heap[i]?:=fun i hi=>hg.block i (by omega) (fun e=>Zbn hv hi e.symm)
 exact⟨h.below.grown hg (by omega) (fun q hq=>by have:=(hv.lt q hq).1;omega),(hb _ (by omega)).trans h.box,(hb _ (by omega)).trans h.res,Zd4 h.row fun q hq=>hg.block q (h.row.lt q hq).2 (hne q hq),h.isin.grown hg hn,h.low,h.xs,h.noR,h.uf⟩
theorem fold_any (HL:Kn) (T:Zbo HL) (sp:Nat→Addr) (ks m:Env Int) (bm:Nat) (hl:∀ s,0≤getI m s∧getI m s≤2) (lt:ByteArray→Int) (hlt:lt=getI m):
  ∀ (e:Ex),Zad ks e=true→Zam ks e≠0→e.parts≤1000000000→∀ (v:Value) (H:Kn),ExV H e v→∀ w:World,H.In w→HL.In w→Sen5 w sp→Zaw (Value.int .i64) w bm m→
  Calls Tryz.prog 39 #[v,.map (some bm)] w fun r w'=>∃ v',r = .returned v'∧ExV (newU w.heap.size w') (Za6 lt e) v'∧Below w.heap.size w w':=by
 refine Ex.ind fun o n s l ih hf hk hp v H hv w hH hHL hS hM=>?_
 obtain⟨u0,rfl,hu⟩:=hv
 obtain⟨hkb,hkp⟩:=Zg5 hk
 obtain⟨hsub,_,_,_,hif⟩:=Zaz hf
 have hl3:=form_len hf
 simp only [Ex.op,Ex.n,Ex.s,Ex.l] at hu ⊢
 obtain⟨a,cap,rfl⟩:=hu.len
 have hlp:=Zcb l
 simp only [Ex.parts] at hp
 obtain⟨i0,hi0,hz0,hz1,hz2⟩:=info_parts Tryz.infoEx
 obtain⟨L,hLdef⟩:∃ L,L=foldL lt l:=⟨_,rfl⟩
 have hLm:L=l.map (Za6 lt):=by rw [hLdef,Zij]
 have hLl:L.length=l.length:=by rw [hLm,List.length_map]
 have hst:∀ e∈l,Zho ks e (Za6 lt e):=fun e he=>Zhz lt e (hsub e he) (hkp e he)
 have hok:∀ y∈L,PlOk y:=fun y hy=>by
  rw [hLm] at hy
  obtain⟨e,he,rfl⟩:=List.mem_map.1 hy
  exact PlOk.of (hst e he).form
 have hLp:∀ y∈L,y.parts≤1000000000:=fun y hy=>by
  rw [hLm] at hy
  obtain⟨e,he,rfl⟩:=List.mem_map.1 hy
  have h1:=(hst e he).parts
  have h2:=Zc3 he
  omega
 have hfe:Za6 lt (.mk o n s l)=Zb5 lt o n s l L:=by rw [hLdef];rfl
 rw [hfe]
 have HU:=Zhd hu
 have IH:=Zhd ih
 have HLM:=Zhd hLm
 have HOK:=Zhd hok
 have HLP:=Zhd hLp
 have HIF:=Zhd hif
 have HSUB:=Zhd hsub
 have HKP:=Zhd hkp
 have HM:=Zhd hM
 have HS:=Zhd hS
 have HLT:=Zhd hlt
 clear hu ih hLdef hLm hst hok hLp hfe hkb hkp hsub hif hk hM hS hlt
 go_enter Tryz.func39,Tryz.ntmps39
 go_wp2_with fail
 have hW0:Below w.heap.size w ((w.alloc (.cells #[.string o,.int .i64 n,.string s,.slice none 0 0] 69)).alloc (.cells #[.string ⟨#[]⟩,.int .i64 0,.string ⟨#[]⟩,.slice none 0 0] 69)):=((Below.refl _ _).alloc (Nat.le_refl _) _).alloc (by simp) _
 have hP0:((w.alloc (.cells #[.string o,.int .i64 n,.string s,.slice none 0 0] 69)).alloc (.cells #[.string ⟨#[]⟩,.int .i64 0,.string ⟨#[]⟩,.slice none 0 0] 69)).heap[w.heap.size]?=some (.cells #[.string o,.int .i64 n,.string s,.slice none 0 0] 69 (0,0)):=by
  rw [Below.heap_alloc _ _ _ (by simp)];exact heap_alloc_new _ _
 have hR0:((w.alloc (.cells #[.string o,.int .i64 n,.string s,.slice none 0 0] 69)).alloc (.cells #[.string ⟨#[]⟩,.int .i64 0,.string ⟨#[]⟩,.slice none 0 0] 69)).heap[w.heap.size+1]?=some (.cells #[.string ⟨#[]⟩,.int .i64 0,.string ⟨#[]⟩,.slice none 0 0] 69 (0,0)):=by
  rw [show w.heap.size+1=(w.alloc (.cells #[.string o,.int .i64 n,.string s,.slice none 0 0] 69)).heap.size from by simp];exact heap_alloc_new _ _
 generalize ((w.alloc (.cells #[.string o,.int .i64 n,.string s,.slice none 0 0] 69)).alloc (.cells #[.string ⟨#[]⟩,.int .i64 0,.string ⟨#[]⟩,.slice none 0 0] 69))=W0 at *
 have HS0:=Zhd (show OwI w W0 w.heap.size o n s L 0 (.slice none 0 0) [] (fun _=>none) from
  ⟨hW0,hP0,hR0,World.ownsRow_nil _ _ _ _,fun b o e=>(by cases e),fun _ _=>rfl,rfl,fun g hg=>by simp [Value.ownBlock] at hg,fun b o e=>(by cases e)⟩)
 clear hW0 hP0 hR0
 go_loopw [6,7,27] (fun uv ub i wr=>∃ (k:Nat) (u:Value) (xs:List Value) (K:Kn),i = .int .i64 k∧k≤l.length∧ub = .bool ((L.take k).all fun e=>(Za3 e).isSome)∧OwI w wr w.heap.size o n s L k u xs K∧wr.ownsRow (w.heap.size+1+1) 137 2 uv k (vlX ((L.take k).map plV))∧(∀ q,uv.ownBlock=some q→K q=none)) (fun _ _ i _=>l.length - (intOf i).toNat)
 case atStart=>exact⟨0,_,_,_,rfl,Nat.zero_le _,rfl,HS0.out,World.ownsRow_nil _ _ _ _,fun q hq=>by simp [Value.ownBlock] at hq⟩
 clear HS0
 obtain⟨k,u,xs,K,rfl,hk,rfl,hS,hV,hNV⟩:=hrel
 have HO:=Zhd hS
 have HV:=Zhd hV
 have HNV:=Zhd hNV
 obtain⟨av,cv,rfl,_⟩:=Zau hV
 clear hS hV hNV
 by_cases hkl:k<l.length
 ·obtain⟨b,off,ax,cx,rfl,c0,c1,c2,c3,hx⟩:=HU.out.at hkl
  obtain⟨x,hxe⟩:∃ x,l[k]=x:=⟨_,rfl⟩
  have hmem:x∈l:=by rw [← hxe];exact List.getElem_mem hkl
  have hpx:x.parts≤1000000000:=by have:=Za5 l k hkl;rw [hxe] at this;omega
  have hkL:k<L.length:=by omega
  obtain⟨y,hy⟩:∃ y,Za6 lt x=y:=⟨_,rfl⟩
  have hye:L[k]=y:=by
   have:L[k]=(l.map (Za6 lt))[k]'(by simpa using hkl):=by simp only [HLM.out]
   rw [this,List.getElem_map,hxe,hy]
  have hymem:y∈L:=by rw [← hye];exact List.getElem_mem hkL
  rw [hxe] at c0 c1 c2 c3 hx
  have hHr:=hH.below HO.out.below
  have c0:=hHr.cell c0
  have c1:=hHr.cell c1
  have c2:=hHr.cell c2
  have c3:=hHr.cell c3
  have hbl:b<wr.heap.size:=World.block_lt_of_cell? wr _ c0
  have hba:=(Below.refl wr.heap.size wr).alloc (Nat.le_refl _) (.cells #[.string x.op,.int .i64 x.n,.string x.s,.slice ax x.l.length cx] 69)
  have HOA:=Zhd (HO.out.later hba)
  have HVA:=Zhd (Zao HV.out hba)
  have HBA:=Zhd (HOA.out.below)
  have HTK:=Zhd (show L.take (k+1)=L.take k++[y] from by rw [Zb2 _ _ hkL,hye])
  have HC:=Zhd (IH.out x hmem (HSUB.out x hmem) (HKP.out x hmem) hpx _ H hx (wr.alloc (.cells #[.string x.op,.int .i64 x.n,.string x.s,.slice ax x.l.length cx] 69)) (hH.below HBA.out) (hHL.below HBA.out) (HS.out.below HBA.out) (HM.out.below HBA.out))
  rw [hy] at HC
  have HYE:=Zhd hye
  clear hxe hx hye hy hHr hba
  go_wp2_with fail
  generalize wr.alloc (.cells #[.string x.op,.int .i64 x.n,.string x.s,.slice ax x.l.length cx] 69)=wA at *
  refine HC.out.mono ?_
  rintro r wB ⟨v',rfl,hv2,hbB⟩
  obtain⟨u2,rfl,hu2⟩:=hv2
  obtain⟨ay,cy,rfl⟩:=hu2.len
  have hu2:=hu2.le (Zgi K _ wB)
  have HOB:=Zhd (OwI.next HOA.out hbB)
  have HVB:=Zhd (Zao HVA.out hbB)
  have HU2:=Zhd hu2
  have hbc:=(Below.refl wB.heap.size wB).alloc (Nat.le_refl _) (.cells #[.string y.op,.int .i64 y.n,.string y.s,.slice ay y.l.length cy] 69)
  have HOC:=Zhd (HOB.out.later hbc)
  have HVC:=Zhd (Zao HVB.out hbc)
  have HY:=Zhd (heap_alloc_new wB (.cells #[.string y.op,.int .i64 y.n,.string y.s,.slice ay y.l.length cy] 69))
  have HOBr:=Zhd HOB.out.row
  have HNV2:=Zhd (show ∀ q,(Value.slice av k cv).ownBlock=some q→Zif K wA.heap.size wB q=none from fun q hq=>by rw [ju_at (HVA.out.lt q hq).2];exact HNV.out q hq)
  have HNB:=Zhd (show w.heap.size<wB.heap.size from by have:=HOB.out.size;omega)
  clear hu2 hbB hbc HC HOA HVA HOB HVB
  obtain⟨z0,z1,z2,z3,_⟩:=Zag HY.out
  obtain⟨_,_,_,q3⟩:=HOC.out.cells
  have hzc:wB.heap.size<(wB.alloc (.cells #[.string y.op,.int .i64 y.n,.string y.s,.slice ay y.l.length cy] 69)).heap.size:=by simp
  have HNT:=Zhd (show u.ownBlock≠some wB.heap.size from fun e=>by have:=(HOBr.out.lt _ e).2;omega)
  obtain⟨TY,hTY⟩:∃ TY,TY=wB.heap.size:=⟨_,rfl⟩
  rw [← hTY] at HNT HNB
  rw [← hTY] at HY z0 z1 z2 z3 hzc
  go_upto_region 9 with (fail)
  rw [← hTY]
  clear hTY
  generalize wB.alloc (.cells #[.string y.op,.int .i64 y.n,.string y.s,.slice ay y.l.length cy] 69)=wC at *
  have hbd:=(Below.refl wC.heap.size wC).alloc (Nat.le_refl _) (.cells #[.string y.op,.int .i64 y.n,.string y.s,.slice ay y.l.length cy] 69)
  have HOD:=Zhd (HOC.out.later hbd)
  have HVD:=Zhd (Zao HVC.out hbd)
  have HYD:=Zhd ((hbd.block TY hzc).trans HY.out)
  clear hbd
  go_wp2_with (at_builtin;refine Zi9 39 69 4 64 _ Tryz.underlying39 Tryz.infoEx rfl (by decide) _ _ rfl rfl (w.heap.size+1+1) _ _ _ rfl HOD.out.row ⟨wC.heap.size,0,none⟩ 1 [.string y.op,.int .i64 y.n,.string y.s,.slice ay y.l.length cy] rfl rfl ?c1 ?c2 ?c3 ?c4 ?c5 ?_)
  case c1=>exact cells4 _ _ _ _ _ _
  case c2=>simp [Value.oneCell']
  case c3=>omega
  case c4=>omega
  case c5=>have:=HOD.out.size;omega
  intro gN capN wE hoN hgN hatN
  obtain⟨hf1,hf2,hf3⟩:=OwI.step HOD.out hkL HYE.out HU2.out hoN hgN (hatN.imp id fun e=>by rw [e];simp)
  have hneV:(Value.slice av k cv).ownBlock≠u.ownBlock∨u.ownBlock=none:=by
   cases e:u.ownBlock with
   | none=>exact .inr rfl
   | some q=>
    left
    intro e2
    obtain⟨c',hc'⟩:=own_blk HOD.out.row e
    exact Zd3 HVD.out hc' (by decide) e2
  have hVE:wE.ownsRow (w.heap.size+1+1) 137 2 (.slice av k cv) k (vlX ((L.take k).map plV)):=Zd4 HVD.out fun q hq=>hgN.block q (HVD.out.lt q hq).2 (fun e=>hneV.elim (fun h=>h (hq.trans e)) (fun h=>by rw [h] at e;cases e))
  have hYE2:=(hgN.block TY (Zlt HYD.out) (fun e=>HNT.out e.symm)).trans HYD.out
  have HF3:=Zhd hf3
  have hBTY:TY≠w.heap.size:=by have:=HNB.out;omega
  have HYF:=Zhd ((Below.heap_setCell wE ⟨w.heap.size,3,none⟩ (.slice (some ⟨gN,0,none⟩) (k+1) capN) TY hBTY).trans hYE2)
  have HVF:=Zhd (Zaq hVE (a:=⟨w.heap.size,3,none⟩) (Zbn hVE (by show w.heap.size<w.heap.size+1+1;omega)) (.slice (some ⟨gN,0,none⟩) (k+1) capN))
  clear hf3 hoN hgN hatN hVE hYE2 z0 z1 z2 z3
  go_upto_region 10 with (fail)
  generalize wE.setCell ⟨w.heap.size,3,none⟩ (.slice (some ⟨gN,0,none⟩) (k+1) capN)=wF at *
  obtain⟨z0,z1,z2,z3,_⟩:=Zag HYF.out
  have hYl:=(Zlt HYF.out)
  have hyx:ExV (Zif K wA.heap.size wB) y (.agg #[.string y.op,.int .i64 y.n,.string y.s,.slice ay y.l.length cy]):=⟨_,rfl,HU2.out⟩
  have HP:=Zhd (plain_any y (HOK.out y hymem) _ _ hyx wF HF3.out.isin)
  clear hyx
  go_wp2_with fail
  refine HP.out.mono ?_
  rintro r wG ⟨rfl,hbG⟩
  have HOG:=Zhd (HF3.out.later hbG)
  have HVG:=Zhd (Zao HVF.out hbG)
  clear hbG HP HF3 HVF HYF z0 z1 z2 z3 hf1 hf2
  obtain⟨pv,hpv⟩:∃ pv,plV y=pv:=⟨_,rfl⟩
  obtain⟨ps,hps⟩:∃ ps,(Za3 y).isSome=ps:=⟨_,rfl⟩
  have HPV:=Zhd hpv
  have HPS:=Zhd hps
  have hpv2:(Za3 y).getD vz=pv:=hpv
  rw [hpv2,hps]
  obtain⟨pk,pn⟩:=pv
  clear hpv hps hpv2
  have hbh:=(Below.refl wG.heap.size wG).alloc (Nat.le_refl _) (.cells #[.int .i64 pk,.int .i64 pn] 137)
  have hbi:=hbh.alloc hbh.size (.cells #[.int .i64 pk,.int .i64 pn] 137)
  have HOI:=Zhd (HOG.out.later hbi)
  have HVI:=Zhd (Zao HVG.out hbi)
  have hnews:=cells2v (wG.alloc (.cells #[.int .i64 pk,.int .i64 pn] 137)) (.int .i64 pk) (.int .i64 pn) 137
  have hzG:(wG.alloc (.cells #[.int .i64 pk,.int .i64 pn] 137)).heap.size=wG.heap.size+1:=by simp
  clear hbh hbi
  go_wp2_with (at_builtin;refine Zi9 51 137 2 16 _ Tryz.underlying51 Tryz.infoVl2 rfl (by decide) _ _ rfl rfl (w.heap.size+1+1) _ _ _ rfl HVI.out ⟨wG.heap.size+1,0,none⟩ 1 [.int .i64 pk,.int .i64 pn] rfl rfl ?d1 ?d2 ?d3 ?d4 ?d5 ?_)
  case d1=>rw [← hzG];exact hnews
  case d2=>simp [Value.oneCell']
  case d3=>omega
  case d4=>omega
  case d5=>have:=HOI.out.size;omega
  intro gM capM wH hoM hgM hatM
  have HOH:=Zhd (HOI.out.grown2 hoM hgM HVI.out HNV2.out)
  have HNH:=Zhd (show ∀ q,(Value.slice (some ⟨gM,0,none⟩) (k+1) capM).ownBlock=some q→Zif K wA.heap.size wB q=none from fun q hq=>by
   have hqq:gM=q:=by simpa [Value.ownBlock] using hq
   subst hqq
   rcases hatM with h | h
   ·exact HNV2.out _ h
   exact HOI.out.isin.isNone (by rw [h];simp))
  have HVH:=Zhd (show wH.ownsRow (w.heap.size+1+1) 137 2 (.slice (some ⟨gM,0,none⟩) (k+1) capM) (k+1) (vlX ((L.take (k+1)).map plV)) from by
   rw [HTK.out,List.map_append,List.map_cons,List.map_nil,HPV.out,vlX_app]
   rw [show vlX [(⟨pk,pn⟩:Vl)]=[.int .i64 pk,.int .i64 pn] from rfl,List.map_take]
   exact hoM)
  have HAL:=Zhd (show ((L.take (k+1)).all fun e=>(Za3 e).isSome)=(((L.take k).all fun e=>(Za3 e).isSome)&&ps) from by
   rw [HTK.out,List.all_append,List.all_cons,List.all_nil,HPS.out,Bool.and_true])
  generalize ((L.take k).all fun e=>(Za3 e).isSome)=ab at *
  clear hoM hgM hatM hnews
  cases ab
  ·go_wp2_with fail
   go_roundw
   case rel=>exact⟨k+1,_,_,_,by go_num,by omega,by rw [HAL.out];rfl,HOH.out,HVH.out,HNH.out⟩
   simp [intOf];omega
  go_wp2_with fail
  go_roundw
  case rel=>exact⟨k+1,_,_,_,by go_num,by omega,by rw [HAL.out];rfl,HOH.out,HVH.out,HNH.out⟩
  simp [intOf];omega
 obtain rfl:k=l.length:=by omega
 have htk:L.take l.length=L:=List.take_of_length_le (by omega)
 have hall:((L.take l.length).all fun e=>(Za3 e).isSome)=(L.all fun e=>(Za3 e).isSome):=by rw [htk]
 have hxs:XsAt K (List.take l.length L) xs:=HO.out.xs
 have hrow:=HO.out.row
 rw [htk] at hxs
 rw [← hLl] at hrow
 obtain⟨K',hle',hin',hvL,hfr',huf'⟩:=Zfy HO.out.isin HO.out.uf hrow hxs HO.out.noR
 obtain⟨au,cu,rfl⟩:=hvL.len
 have hlow':∀ b,b<w.heap.size+1+1→K' b=none:=fun b hb=>(hfr' b hb).trans (HO.out.low b hb)
 have HVR:=Zhd (show wr.ownsRow (w.heap.size+1+1) 137 2 (.slice av l.length cv) l.length (vlX (L.map plV)) from by have h:=HV.out;rwa [htk] at h)
 have TB:=Zhd HO.out.below
 have TX:=Zhd HO.out.box
 have TR:=Zhd HO.out.res
 have TK:=Zhd hin'
 have TV:=HVR
 have HVL:=Zhd (show ExsV K' L (.slice au l.length cu) from by rw [← hLl];exact hvL)
 have HLW:=Zhd hlow'
 have HUF:=Zhd huf'
 have HFD:=Zhd (foldTop_def lt o n s l L)
 rw [hall]
 clear htk hall hxs hrow hle' hin' hvL hfr' huf' hlow' HO HV HNV HVR
 rw [hLl] at TX
 obtain⟨wz,hwz⟩:∃ wz,wz=wr:=⟨_,rfl⟩
 subst hwz
 have HQS:=Zhd (show w.heap.size+1<wz.heap.size from (Zlt TR.out))
 obtain⟨q0,q1,q2,q3,_⟩:=Zag TX.out
 go_upto_if 56 with (fail)
 go_cut [] (fun wx=>Zb5 lt o n s l L=Ziv o n s L∧Below w.heap.size w wx∧wx.heap[w.heap.size]?=some (.cells #[.string o,.int .i64 n,.string s,.slice au l.length cu] 69 (0,0))∧wx.heap[w.heap.size+1]?=some (.cells #[.string ⟨#[]⟩,.int .i64 0,.string ⟨#[]⟩,.slice none 0 0] 69 (0,0))∧K'.In wx∧wx.ownsRow (w.heap.size+1+1) 137 2 (.slice av l.length cv) l.length (vlX (L.map plV))∧w.heap.size+1<wx.heap.size)
 case first=>
  by_cases hio:o=oIf
  ·have hi1:(o.toList==[105,102])=true:=by rw [hio];kernel_rfl
   have hL3:L.length=3:=by rw [hLl];exact HIF.out hio
   have HE0:=Zhd (HFD.out.2 hio)
   clear hio
   rw [hi1]
   skip
   obtain⟨bL,oL,aw,cw,hau,w0,w1,w2,w3,hwx⟩:=HVL.out.at (i:=0) (by omega)
   subst hau
   simp only [Nat.zero_mul,Nat.add_zero] at w0 w1 w2 w3
   obtain⟨y,hy⟩:∃ y,L[0]'(by omega)=y:=⟨_,rfl⟩
   rw [hy] at w0 w1 w2 w3 hwx
   have hymem:y∈L:=by rw [← hy];exact List.getElem_mem _
   have w0:=TK.out.cell w0
   have w1:=TK.out.cell w1
   have w2:=TK.out.cell w2
   have w3:=TK.out.cell w3
   have HYX:=Zhd hwx
   have hgd:L.getD 0 (.mk o n s L)=y:=by rw [List.getD_eq_getElem?_getD,List.getElem?_eq_getElem (by omega)];exact hy
   rw [hgd] at HE0
   clear hgd hwx hy
   obtain⟨q0,q1,q2,q3,_⟩:=Zag TX.out
   obtain⟨r0,r1,r2,r3,f0,f1,f2,f3,_⟩:=Zag TR.out
   go_wp2_with fail
   refine (plain_any y (HOK.out y hymem) K' _ HYX.out wz TK.out).mono ?_
   rintro r wp ⟨rfl,hbp⟩
   have TB:=Zhd (TB.out.trans (hbp.mono TB.out.size))
   have TX:=Zhd ((hbp.block _ (Zlt TX.out)).trans TX.out)
   have TR:=Zhd ((hbp.block _ (Zlt TR.out)).trans TR.out)
   have TK:=Zhd (TK.out.below hbp)
   have TV:=Zhd (Zao TV.out hbp)
   clear hbp q0 q1 q2 q3 r0 r1 r2 r3 f0 f1 f2 f3 w0 w1 w2 w3
   obtain⟨pv,hpv⟩:∃ pv,(Za3 y).getD vz=pv:=⟨_,rfl⟩
   rw [hpv]
   obtain⟨pk,pn⟩:=pv
   have hbq:=(Below.refl wp.heap.size wp).alloc (Nat.le_refl _) (.cells #[.int .i64 pk,.int .i64 pn] 137)
   have HPB:=Zhd (heap_alloc_new wp (.cells #[.int .i64 pk,.int .i64 pn] 137))
   have TB:=Zhd (TB.out.trans (hbq.mono TB.out.size))
   have TX:=Zhd ((hbq.block _ (Zlt TX.out)).trans TX.out)
   have TR:=Zhd ((hbq.block _ (Zlt TR.out)).trans TR.out)
   have TK:=Zhd (TK.out.below hbq)
   have TV:=Zhd (Zao TV.out hbq)
   have hQ2:=hbq.size
   clear hbq
   have HQS:=Zhd (show w.heap.size+1<(wp.alloc (.cells #[.int .i64 pk,.int .i64 pn] 137)).heap.size from (Zlt TR.out))
   cases hpl:Za3 y
   case none=>
    have HE:=Zhd (show Zb5 lt o n s l L=Ziv o n s L from by have h:=HE0.out;rw [hpl] at h;exact h)
    rw [Option.isSome_none]
    obtain⟨q0,q1,q2,q3,_⟩:=Zag TX.out
    obtain⟨r0,r1,r2,r3,f0,f1,f2,f3,_⟩:=Zag TR.out
    go_upto_region 16 with (fail)
    generalize wp.alloc (.cells #[.int .i64 pk,.int .i64 pn] 137)=wz at *
    clear q0 q1 q2 q3 r0 r1 r2 r3 f0 f1 f2 f3 hQ2 HPB
    go_wp2_with fail
    go_meet
    exact⟨HE.out,TB.out,TX.out,TR.out,TK.out,TV.out,HQS.out⟩
   case some pv'=>
    have hpp:pv'=⟨pk,pn⟩:=by rw [hpl] at hpv;exact hpv
    subst hpp
    rw [Option.isSome_some]
    obtain⟨q0,q1,q2,q3,_⟩:=Zag TX.out
    obtain⟨r0,r1,r2,r3,f0,f1,f2,f3,_⟩:=Zag TR.out
    go_upto_region 16 with (fail)
    generalize wp.alloc (.cells #[.int .i64 pk,.int .i64 pn] 137)=wz at *
    clear q0 q1 q2 q3 r0 r1 r2 r3 f0 f1 f2 f3 hQ2 hpv
    obtain⟨p0,p1,_,_,_⟩:=Zay HPB.out
    by_cases hpn:pn=0
    ·have hpn':(pn==0)=true:=by simpa using hpn
     have HE1:=Zhd (show Zb5 lt o n s l L=if Zax (L.getD 1 (.mk o n s L))=false∧Zac lt (l.getD 1 (.mk o n s L))≤Zac lt (l.getD 2 (.mk o n s L)) then L.getD 2 (.mk o n s L) else Ziv o n s L from by have h:=HE0.out;rw [hpl] at h;dsimp only at h;rw [if_pos hpn] at h;simpa [hpn] using h)
     clear hpn hpl
     have hleK:K'.le (Zai wz):=fun b ob e=>TK.out b ob e
     have hleH:H.le (Zai wz):=fun b ob e=>(hH.below TB.out) b ob e
     obtain⟨byo,oyo,ayo,cyo,hbyo,yo0,yo1,yo2,yo3,yox⟩:=HVL.out.at (i:=1) (by omega)
     simp only [Option.some.injEq,Addr.mk.injEq] at hbyo
     obtain⟨rfl,rfl,_⟩:=hbyo
     obtain⟨yoE,hyoE⟩:∃ e,L[1]'(by omega)=e:=⟨_,rfl⟩
     rw [hyoE] at yo0 yo1 yo2 yo3 yox
     have hyoD:L.getD 1 (.mk o n s L)=yoE:=by rw [List.getD_eq_getElem?_getD,List.getElem?_eq_getElem (by omega)];exact hyoE
     have hyoM:yoE∈L:=by rw [← hyoE];exact List.getElem_mem _
     rw [hyoD] at HE1
     have yoX:=Zhd yox
     clear hyoE hyoD yox
     have yo0:(Zai wz).cell _ (oL+4)=_:=(hleK).cell yo0
     have yo1:(Zai wz).cell _ (oL+5)=_:=(hleK).cell yo1
     have yo2:(Zai wz).cell _ (oL+6)=_:=(hleK).cell yo2
     have yo3:(Zai wz).cell _ (oL+7)=_:=(hleK).cell yo3
     obtain⟨bxo,oxo,axo,cxo,hbxo,xo0,xo1,xo2,xo3,xox⟩:=HU.out.at (i:=1) (by omega)
     subst hbxo
     obtain⟨xoE,hxoE⟩:∃ e,l[1]'(by omega)=e:=⟨_,rfl⟩
     rw [hxoE] at xo0 xo1 xo2 xo3 xox
     have hxoD:l.getD 1 (.mk o n s L)=xoE:=by rw [List.getD_eq_getElem?_getD,List.getElem?_eq_getElem (by omega)];exact hxoE
     have hxoM:xoE∈l:=by rw [← hxoE];exact List.getElem_mem _
     rw [hxoD] at HE1
     have xoX:=Zhd xox
     clear hxoE hxoD xox
     have xo0:(Zai wz).cell _ (oxo+4)=_:=(hleH).cell xo0
     have xo1:(Zai wz).cell _ (oxo+5)=_:=(hleH).cell xo1
     have xo2:(Zai wz).cell _ (oxo+6)=_:=(hleH).cell xo2
     have xo3:(Zai wz).cell _ (oxo+7)=_:=(hleH).cell xo3
     obtain⟨bxp,oxp,axp,cxp,hbxp,xp0,xp1,xp2,xp3,xpx⟩:=HU.out.at (i:=2) (by omega)
     simp only [Option.some.injEq,Addr.mk.injEq] at hbxp
     obtain⟨rfl,rfl,_⟩:=hbxp
     obtain⟨xpE,hxpE⟩:∃ e,l[2]'(by omega)=e:=⟨_,rfl⟩
     rw [hxpE] at xp0 xp1 xp2 xp3 xpx
     have hxpD:l.getD 2 (.mk o n s L)=xpE:=by rw [List.getD_eq_getElem?_getD,List.getElem?_eq_getElem (by omega)];exact hxpE
     have hxpM:xpE∈l:=by rw [← hxpE];exact List.getElem_mem _
     rw [hxpD] at HE1
     have xpX:=Zhd xpx
     clear hxpE hxpD xpx
     have xp0:(Zai wz).cell _ (oxo+8)=_:=(hleH).cell xp0
     have xp1:(Zai wz).cell _ (oxo+9)=_:=(hleH).cell xp1
     have xp2:(Zai wz).cell _ (oxo+10)=_:=(hleH).cell xp2
     have xp3:(Zai wz).cell _ (oxo+11)=_:=(hleH).cell xp3
     obtain⟨byp,oyp,ayp,cyp,hbyp,yp0,yp1,yp2,yp3,ypx⟩:=HVL.out.at (i:=2) (by omega)
     simp only [Option.some.injEq,Addr.mk.injEq] at hbyp
     obtain⟨rfl,rfl,_⟩:=hbyp
     obtain⟨ypE,hypE⟩:∃ e,L[2]'(by omega)=e:=⟨_,rfl⟩
     rw [hypE] at yp0 yp1 yp2 yp3 ypx
     have hypD:L.getD 2 (.mk o n s L)=ypE:=by rw [List.getD_eq_getElem?_getD,List.getElem?_eq_getElem (by omega)];exact hypE
     have hypM:ypE∈L:=by rw [← hypE];exact List.getElem_mem _
     rw [hypD] at HE1
     have ypX:=Zhd ypx
     clear hypE hypD ypx
     have yp0:(Zai wz).cell _ (oL+8)=_:=(hleK).cell yp0
     have yp1:(Zai wz).cell _ (oL+9)=_:=(hleK).cell yp1
     have yp2:(Zai wz).cell _ (oL+10)=_:=(hleK).cell yp2
     have yp3:(Zai wz).cell _ (oL+11)=_:=(hleK).cell yp3
     have kq:(Zai wz).cell w.heap.size 3=some (.slice (some ⟨bL,oL,none⟩) l.length cu):=by rw [Zap];exact (Zag TX.out).2.2.2.1
     have HM2:=Zhd (HM.out.below TB.out)
     have hmapIn:∀ w',(Zai wz).In w'→Zaw (Value.int .i64) w' bm m:=fun w' h=>HM2.out.of_block (by
      have hml:=HM2.out.lt
      have e:wz.heap[bm]?=some wz.heap[bm]:=Array.getElem?_eq_getElem hml
      rw [h bm _ e,e])
     have hdvp:yoE.parts≤1000000000000:=by have:=HLP.out yoE hyoM;omega
     have HDV:=Zhd (Zf0 yoE hdvp (Zai wz) _ (show ExV (Zai wz) yoE (.agg #[.string yoE.op,.int .i64 yoE.n,.string yoE.s,.slice ayo yoE.l.length cyo]) from⟨_,rfl,by obtain⟨u,e,h⟩:=yoX.out;cases e;exact h.le hleK⟩))
     skip
     obtain⟨q0,q1,q2,q3,_⟩:=Zag TX.out
     obtain⟨r0,r1,r2,r3,f0,f1,f2,f3,_⟩:=Zag TR.out
     have HMI:=Zhd hmapIn
     have HXO:=Zhd (show ExV (Zai wz) xoE (.agg #[.string xoE.op,.int .i64 xoE.n,.string xoE.s,.slice axo xoE.l.length cxo]) from⟨_,rfl,by obtain⟨u,e,h⟩:=xoX.out;cases e;exact h.le hleH⟩)
     have HXP:=Zhd (show ExV (Zai wz) xpE (.agg #[.string xpE.op,.int .i64 xpE.n,.string xpE.s,.slice axp xpE.l.length cxp]) from⟨_,rfl,by obtain⟨u,e,h⟩:=xpX.out;cases e;exact h.le hleH⟩)
     have HYU:=Zhd (show ExsV K' ypE.l (.slice ayp ypE.l.length cyp) from by obtain⟨u,e,h⟩:=ypX.out;cases e;exact h)
     have HFO:=Zhd (HSUB.out xoE hxoM)
     have HFP:=Zhd (HSUB.out xpE hxpM)
     have HN1:=Zhd (show (1:Int)<(l.length:Int) from by omega)
     have HN2:=Zhd (show (2:Int)<(l.length:Int) from by omega)
     have hS:(Zai wz).In wz.drew:=Za8 wz
     have hD:Below wz.heap.size wz wz.drew:=(Below.refl _ _).drew
     clear hmapIn hleK hleH yoX xoX xpX ypX
     go_upto_region 20 with (fail)
     refine Za2 (fun w'=>(Zai wz).In w') (fun _=>True) 99 (by kernel_rfl) ?_
     generalize wz.drew=Wd at *
     refine Zaf (i:=0) (oi:=_) (v:=?_) rfl (by decide) (by kernel_rfl) (by kernel_rfl) (by kernel_rfl) (by kernel_rfl) (fun _ _ _ h=>h) hS Ztr (Or.inl ⟨by rfl,?hyA2⟩) ?_
     case hyA2=>intro w hSw;have z0:=hSw.cell kq;have z1:=hSw.cell yo0;have z2:=hSw.cell yo1;have z3:=hSw.cell yo2;have z4:=hSw.cell yo3;have z5:=hSw.cell xo0;have z6:=hSw.cell xo1;have z7:=hSw.cell xo2;have z8:=hSw.cell xo3;have z9:=hSw.cell xp0;have z10:=hSw.cell xp1;have z11:=hSw.cell xp2;have z12:=hSw.cell xp3;have z13:=HN1.out;have z14:=HN2.out;go_simp<;>with_reducible rfl
     refine Zst ?_
     refine Zaf (i:=1) (oi:=_) (v:=?_) rfl (by decide) (by kernel_rfl) (by kernel_rfl) (by kernel_rfl) (by kernel_rfl) (fun _ _ _ h=>h) hS Ztr (Or.inl ⟨by rfl,?hyA2⟩) ?_
     case hyA2=>intro w hSw;have z0:=hSw.cell kq;have z1:=hSw.cell yo0;have z2:=hSw.cell yo1;have z3:=hSw.cell yo2;have z4:=hSw.cell yo3;have z5:=hSw.cell xo0;have z6:=hSw.cell xo1;have z7:=hSw.cell xo2;have z8:=hSw.cell xo3;have z9:=hSw.cell xp0;have z10:=hSw.cell xp1;have z11:=hSw.cell xp2;have z12:=hSw.cell xp3;have z13:=HN1.out;have z14:=HN2.out;go_simp<;>with_reducible rfl
     refine Zst ?_
     refine Zaf (i:=2) (oi:=_) (v:=?_) rfl (by decide) (by kernel_rfl) (by kernel_rfl) (by kernel_rfl) (by kernel_rfl) (fun _ _ _ h=>h) hS Ztr (Or.inl ⟨by rfl,?hyA2⟩) ?_
     case hyA2=>intro w hSw;have z0:=hSw.cell kq;have z1:=hSw.cell yo0;have z2:=hSw.cell yo1;have z3:=hSw.cell yo2;have z4:=hSw.cell yo3;have z5:=hSw.cell xo0;have z6:=hSw.cell xo1;have z7:=hSw.cell xo2;have z8:=hSw.cell xo3;have z9:=hSw.cell xp0;have z10:=hSw.cell xp1;have z11:=hSw.cell xp2;have z12:=hSw.cell xp3;have z13:=HN1.out;have z14:=HN2.out;go_simp<;>with_reducible rfl
     refine Zst ?_
     refine Zaf (i:=3) (oi:=_) (v:=?_) rfl (by decide) (by kernel_rfl) (by kernel_rfl) (by kernel_rfl) (by kernel_rfl) (fun _ _ _ h=>h) hS Ztr (Or.inl ⟨by rfl,?hyA2⟩) ?_
     case hyA2=>intro w hSw;have z0:=hSw.cell kq;have z1:=hSw.cell yo0;have z2:=hSw.cell yo1;have z3:=hSw.cell yo2;have z4:=hSw.cell yo3;have z5:=hSw.cell xo0;have z6:=hSw.cell xo1;have z7:=hSw.cell xo2;have z8:=hSw.cell xo3;have z9:=hSw.cell xp0;have z10:=hSw.cell xp1;have z11:=hSw.cell xp2;have z12:=hSw.cell xp3;have z13:=HN1.out;have z14:=HN2.out;go_simp<;>with_reducible rfl
     refine Zst ?_
     refine Zaf (i:=4) (oi:=_) (v:=?_) rfl (by decide) (by kernel_rfl) (by kernel_rfl) (by kernel_rfl) (by kernel_rfl) (fun _ _ _ h=>h) hS Ztr (Or.inl ⟨by rfl,?hyA2⟩) ?_
     case hyA2=>intro w hSw;have z0:=hSw.cell kq;have z1:=hSw.cell yo0;have z2:=hSw.cell yo1;have z3:=hSw.cell yo2;have z4:=hSw.cell yo3;have z5:=hSw.cell xo0;have z6:=hSw.cell xo1;have z7:=hSw.cell xo2;have z8:=hSw.cell xo3;have z9:=hSw.cell xp0;have z10:=hSw.cell xp1;have z11:=hSw.cell xp2;have z12:=hSw.cell xp3;have z13:=HN1.out;have z14:=HN2.out;go_simp<;>with_reducible rfl
     refine Zst ?_
     refine Zwo 5 rfl fun K_ hK=>?_
     go_simp
     go_at_call 41
     refine (HDV.out _ hS).mono ?_
     rintro r1 w1 ⟨rfl,hb1⟩
     have hS1:=hS.below hb1
     have hD1:=hD.trans (hb1.mono hD.size)
     refine hK.out _ _ (hS1) Ztr ?_
     clear hK K_
     refine Zst ?_
     clear hb1
     cases hdv:Zax yoE
     case true=>
      refine Zaf (i:=6) (oi:=_) (v:=?_) rfl (by decide) (by kernel_rfl) (by kernel_rfl) (by kernel_rfl) (by kernel_rfl) (fun _ _ _ h=>h) hS1 Ztr (Or.inl ⟨by rfl,?hyB2⟩) ?_
      case hyB2=>intro w hSw;go_simp<;>with_reducible rfl
      refine Zst ?_
      refine Zaf (i:=7) (oi:=_) (v:=?_) rfl (by decide) (by kernel_rfl) (by kernel_rfl) (by kernel_rfl) (by kernel_rfl) (fun _ _ _ h=>h) hS1 Ztr (Or.inl ⟨by rfl,?hyB2⟩) ?_
      case hyB2=>intro w hSw;go_simp<;>with_reducible rfl
      refine Zst ?_
      refine Zaf (i:=8) (oi:=_) (v:=undef) rfl (by decide) (by kernel_rfl) (by kernel_rfl) (by kernel_rfl) (by kernel_rfl) (fun _ _ _ h=>h) hS1 Ztr (Or.inr ⟨by rfl,rfl⟩) ?_
      refine Zst ?_
      refine Zaf (i:=9) (oi:=_) (v:=undef) rfl (by decide) (by kernel_rfl) (by kernel_rfl) (by kernel_rfl) (by kernel_rfl) (fun _ _ _ h=>h) hS1 Ztr (Or.inr ⟨by rfl,rfl⟩) ?_
      refine Zst ?_
      refine Zaf (i:=10) (oi:=_) (v:=undef) rfl (by decide) (by kernel_rfl) (by kernel_rfl) (by kernel_rfl) (by kernel_rfl) (fun _ _ _ h=>h) hS1 Ztr (Or.inr ⟨by rfl,rfl⟩) ?_
      refine Zst ?_
      refine Zaf (i:=11) (oi:=_) (v:=undef) rfl (by decide) (by kernel_rfl) (by kernel_rfl) (by kernel_rfl) (by kernel_rfl) (fun _ _ _ h=>h) hS1 Ztr (Or.inr ⟨by rfl,rfl⟩) ?_
      refine Zst ?_
      refine Zaf (i:=12) (oi:=_) (v:=undef) rfl (by decide) (by kernel_rfl) (by kernel_rfl) (by kernel_rfl) (by kernel_rfl) (fun _ _ _ h=>h) hS1 Ztr (Or.inr ⟨by rfl,rfl⟩) ?_
      refine Zst ?_
      refine Zaf (i:=14) (oi:=_) (v:=undef) rfl (by decide) (by kernel_rfl) (by kernel_rfl) (by kernel_rfl) (by kernel_rfl) (fun _ _ _ h=>h) hS1 Ztr (Or.inr ⟨by rfl,rfl⟩) ?_
      refine Zst ?_
      refine Zaf (i:=15) (oi:=_) (v:=undef) rfl (by decide) (by kernel_rfl) (by kernel_rfl) (by kernel_rfl) (by kernel_rfl) (fun _ _ _ h=>h) hS1 Ztr (Or.inr ⟨by rfl,rfl⟩) ?_
      refine Zst ?_
      refine Zaf (i:=16) (oi:=_) (v:=undef) rfl (by decide) (by kernel_rfl) (by kernel_rfl) (by kernel_rfl) (by kernel_rfl) (fun _ _ _ h=>h) hS1 Ztr (Or.inr ⟨by rfl,rfl⟩) ?_
      refine Zst ?_
      refine Zaf (i:=17) (oi:=_) (v:=undef) rfl (by decide) (by kernel_rfl) (by kernel_rfl) (by kernel_rfl) (by kernel_rfl) (fun _ _ _ h=>h) hS1 Ztr (Or.inr ⟨by rfl,rfl⟩) ?_
      refine Zst ?_
      refine Zaf (i:=18) (oi:=_) (v:=undef) rfl (by decide) (by kernel_rfl) (by kernel_rfl) (by kernel_rfl) (by kernel_rfl) (fun _ _ _ h=>h) hS1 Ztr (Or.inr ⟨by rfl,rfl⟩) ?_
      refine Zst ?_
      refine Zwo 13 rfl fun K_ hK=>?_
      go_simp
      refine hK.out _ _ (hS1) Ztr ?_
      clear hK K_
      refine Zst ?_
      refine Zwo 19 rfl fun K_ hK=>?_
      go_simp
      refine hK.out _ _ (hS1) Ztr ?_
      clear hK K_
      refine Zst ?_
      refine Zaf (i:=20) (oi:=_) (v:=undef) rfl (by decide) (by kernel_rfl) (by kernel_rfl) (by kernel_rfl) (by kernel_rfl) (fun _ _ _ h=>h) hS1 Ztr (Or.inr ⟨by rfl,rfl⟩) ?_
      refine Zst ?_
      refine Zaf (i:=21) (oi:=_) (v:=?_) rfl (by decide) (by kernel_rfl) (by kernel_rfl) (by kernel_rfl) (by kernel_rfl) (fun _ _ _ h=>h) hS1 Ztr (Or.inl ⟨by rfl,?hyB2⟩) ?_
      case hyB2=>intro w hSw;go_simp<;>with_reducible rfl
      exact mFld3
     refine Zaf (i:=6) (oi:=_) (v:=?_) rfl (by decide) (by kernel_rfl) (by kernel_rfl) (by kernel_rfl) (by kernel_rfl) (fun _ _ _ h=>h) hS1 Ztr (Or.inl ⟨by rfl,?hyC2⟩) ?_
     case hyC2=>intro w hSw;have z0:=hSw.cell kq;have z1:=hSw.cell yo0;have z2:=hSw.cell yo1;have z3:=hSw.cell yo2;have z4:=hSw.cell yo3;have z5:=hSw.cell xo0;have z6:=hSw.cell xo1;have z7:=hSw.cell xo2;have z8:=hSw.cell xo3;have z9:=hSw.cell xp0;have z10:=hSw.cell xp1;have z11:=hSw.cell xp2;have z12:=hSw.cell xp3;have z13:=HN1.out;have z14:=HN2.out;go_simp<;>with_reducible rfl
     refine Zst ?_
     refine Zaf (i:=7) (oi:=_) (v:=?_) rfl (by decide) (by kernel_rfl) (by kernel_rfl) (by kernel_rfl) (by kernel_rfl) (fun _ _ _ h=>h) hS1 Ztr (Or.inl ⟨by rfl,?hyC2⟩) ?_
     case hyC2=>intro w hSw;have z0:=hSw.cell kq;have z1:=hSw.cell yo0;have z2:=hSw.cell yo1;have z3:=hSw.cell yo2;have z4:=hSw.cell yo3;have z5:=hSw.cell xo0;have z6:=hSw.cell xo1;have z7:=hSw.cell xo2;have z8:=hSw.cell xo3;have z9:=hSw.cell xp0;have z10:=hSw.cell xp1;have z11:=hSw.cell xp2;have z12:=hSw.cell xp3;have z13:=HN1.out;have z14:=HN2.out;go_simp<;>with_reducible rfl
     refine Zst ?_
     refine Zaf (i:=8) (oi:=_) (v:=?_) rfl (by decide) (by kernel_rfl) (by kernel_rfl) (by kernel_rfl) (by kernel_rfl) (fun _ _ _ h=>h) hS1 Ztr (Or.inl ⟨by rfl,?hyC2⟩) ?_
     case hyC2=>intro w hSw;have z0:=hSw.cell kq;have z1:=hSw.cell yo0;have z2:=hSw.cell yo1;have z3:=hSw.cell yo2;have z4:=hSw.cell yo3;have z5:=hSw.cell xo0;have z6:=hSw.cell xo1;have z7:=hSw.cell xo2;have z8:=hSw.cell xo3;have z9:=hSw.cell xp0;have z10:=hSw.cell xp1;have z11:=hSw.cell xp2;have z12:=hSw.cell xp3;have z13:=HN1.out;have z14:=HN2.out;go_simp<;>with_reducible rfl
     refine Zst ?_
     refine Zaf (i:=9) (oi:=_) (v:=?_) rfl (by decide) (by kernel_rfl) (by kernel_rfl) (by kernel_rfl) (by kernel_rfl) (fun _ _ _ h=>h) hS1 Ztr (Or.inl ⟨by rfl,?hyC2⟩) ?_
     case hyC2=>intro w hSw;have z0:=hSw.cell kq;have z1:=hSw.cell yo0;have z2:=hSw.cell yo1;have z3:=hSw.cell yo2;have z4:=hSw.cell yo3;have z5:=hSw.cell xo0;have z6:=hSw.cell xo1;have z7:=hSw.cell xo2;have z8:=hSw.cell xo3;have z9:=hSw.cell xp0;have z10:=hSw.cell xp1;have z11:=hSw.cell xp2;have z12:=hSw.cell xp3;have z13:=HN1.out;have z14:=HN2.out;go_simp<;>with_reducible rfl
     refine Zst ?_
     refine Zaf (i:=10) (oi:=_) (v:=?_) rfl (by decide) (by kernel_rfl) (by kernel_rfl) (by kernel_rfl) (by kernel_rfl) (fun _ _ _ h=>h) hS1 Ztr (Or.inl ⟨by rfl,?hyC2⟩) ?_
     case hyC2=>intro w hSw;have z0:=hSw.cell kq;have z1:=hSw.cell yo0;have z2:=hSw.cell yo1;have z3:=hSw.cell yo2;have z4:=hSw.cell yo3;have z5:=hSw.cell xo0;have z6:=hSw.cell xo1;have z7:=hSw.cell xo2;have z8:=hSw.cell xo3;have z9:=hSw.cell xp0;have z10:=hSw.cell xp1;have z11:=hSw.cell xp2;have z12:=hSw.cell xp3;have z13:=HN1.out;have z14:=HN2.out;go_simp<;>with_reducible rfl
     refine Zst ?_
     refine Zaf (i:=11) (oi:=_) (v:=?_) rfl (by decide) (by kernel_rfl) (by kernel_rfl) (by kernel_rfl) (by kernel_rfl) (fun _ _ _ h=>h) hS1 Ztr (Or.inl ⟨by rfl,?hyC2⟩) ?_
     case hyC2=>intro w hSw;have z0:=hSw.cell kq;have z1:=hSw.cell yo0;have z2:=hSw.cell yo1;have z3:=hSw.cell yo2;have z4:=hSw.cell yo3;have z5:=hSw.cell xo0;have z6:=hSw.cell xo1;have z7:=hSw.cell xo2;have z8:=hSw.cell xo3;have z9:=hSw.cell xp0;have z10:=hSw.cell xp1;have z11:=hSw.cell xp2;have z12:=hSw.cell xp3;have z13:=HN1.out;have z14:=HN2.out;go_simp<;>with_reducible rfl
     refine Zst ?_
     refine Zaf (i:=12) (oi:=_) (v:=?_) rfl (by decide) (by kernel_rfl) (by kernel_rfl) (by kernel_rfl) (by kernel_rfl) (fun _ _ _ h=>h) hS1 Ztr (Or.inl ⟨by rfl,?hyC2⟩) ?_
     case hyC2=>intro w hSw;have z0:=hSw.cell kq;have z1:=hSw.cell yo0;have z2:=hSw.cell yo1;have z3:=hSw.cell yo2;have z4:=hSw.cell yo3;have z5:=hSw.cell xo0;have z6:=hSw.cell xo1;have z7:=hSw.cell xo2;have z8:=hSw.cell xo3;have z9:=hSw.cell xp0;have z10:=hSw.cell xp1;have z11:=hSw.cell xp2;have z12:=hSw.cell xp3;have z13:=HN1.out;have z14:=HN2.out;go_simp<;>with_reducible rfl
     refine Zst ?_
     refine Zaf (i:=14) (oi:=_) (v:=?_) rfl (by decide) (by kernel_rfl) (by kernel_rfl) (by kernel_rfl) (by kernel_rfl) (fun _ _ _ h=>h) hS1 Ztr (Or.inl ⟨by rfl,?hyC2⟩) ?_
     case hyC2=>intro w hSw;have z0:=hSw.cell kq;have z1:=hSw.cell yo0;have z2:=hSw.cell yo1;have z3:=hSw.cell yo2;have z4:=hSw.cell yo3;have z5:=hSw.cell xo0;have z6:=hSw.cell xo1;have z7:=hSw.cell xo2;have z8:=hSw.cell xo3;have z9:=hSw.cell xp0;have z10:=hSw.cell xp1;have z11:=hSw.cell xp2;have z12:=hSw.cell xp3;have z13:=HN1.out;have z14:=HN2.out;go_simp<;>with_reducible rfl
     refine Zst ?_
     refine Zaf (i:=15) (oi:=_) (v:=?_) rfl (by decide) (by kernel_rfl) (by kernel_rfl) (by kernel_rfl) (by kernel_rfl) (fun _ _ _ h=>h) hS1 Ztr (Or.inl ⟨by rfl,?hyC2⟩) ?_
     case hyC2=>intro w hSw;have z0:=hSw.cell kq;have z1:=hSw.cell yo0;have z2:=hSw.cell yo1;have z3:=hSw.cell yo2;have z4:=hSw.cell yo3;have z5:=hSw.cell xo0;have z6:=hSw.cell xo1;have z7:=hSw.cell xo2;have z8:=hSw.cell xo3;have z9:=hSw.cell xp0;have z10:=hSw.cell xp1;have z11:=hSw.cell xp2;have z12:=hSw.cell xp3;have z13:=HN1.out;have z14:=HN2.out;go_simp<;>with_reducible rfl
     refine Zst ?_
     refine Zaf (i:=16) (oi:=_) (v:=?_) rfl (by decide) (by kernel_rfl) (by kernel_rfl) (by kernel_rfl) (by kernel_rfl) (fun _ _ _ h=>h) hS1 Ztr (Or.inl ⟨by rfl,?hyC2⟩) ?_
     case hyC2=>intro w hSw;have z0:=hSw.cell kq;have z1:=hSw.cell yo0;have z2:=hSw.cell yo1;have z3:=hSw.cell yo2;have z4:=hSw.cell yo3;have z5:=hSw.cell xo0;have z6:=hSw.cell xo1;have z7:=hSw.cell xo2;have z8:=hSw.cell xo3;have z9:=hSw.cell xp0;have z10:=hSw.cell xp1;have z11:=hSw.cell xp2;have z12:=hSw.cell xp3;have z13:=HN1.out;have z14:=HN2.out;go_simp<;>with_reducible rfl
     refine Zst ?_
     refine Zaf (i:=17) (oi:=_) (v:=?_) rfl (by decide) (by kernel_rfl) (by kernel_rfl) (by kernel_rfl) (by kernel_rfl) (fun _ _ _ h=>h) hS1 Ztr (Or.inl ⟨by rfl,?hyC2⟩) ?_
     case hyC2=>intro w hSw;have z0:=hSw.cell kq;have z1:=hSw.cell yo0;have z2:=hSw.cell yo1;have z3:=hSw.cell yo2;have z4:=hSw.cell yo3;have z5:=hSw.cell xo0;have z6:=hSw.cell xo1;have z7:=hSw.cell xo2;have z8:=hSw.cell xo3;have z9:=hSw.cell xp0;have z10:=hSw.cell xp1;have z11:=hSw.cell xp2;have z12:=hSw.cell xp3;have z13:=HN1.out;have z14:=HN2.out;go_simp<;>with_reducible rfl
     refine Zst ?_
     refine Zaf (i:=18) (oi:=_) (v:=?_) rfl (by decide) (by kernel_rfl) (by kernel_rfl) (by kernel_rfl) (by kernel_rfl) (fun _ _ _ h=>h) hS1 Ztr (Or.inl ⟨by rfl,?hyC2⟩) ?_
     case hyC2=>intro w hSw;have z0:=hSw.cell kq;have z1:=hSw.cell yo0;have z2:=hSw.cell yo1;have z3:=hSw.cell yo2;have z4:=hSw.cell yo3;have z5:=hSw.cell xo0;have z6:=hSw.cell xo1;have z7:=hSw.cell xo2;have z8:=hSw.cell xo3;have z9:=hSw.cell xp0;have z10:=hSw.cell xp1;have z11:=hSw.cell xp2;have z12:=hSw.cell xp3;have z13:=HN1.out;have z14:=HN2.out;go_simp<;>with_reducible rfl
     refine Zst ?_
     refine Zwo 13 rfl fun K_ hK=>?_
     go_simp
     go_at_call 82
     refine (Zfs (Zai wz) m bm hl ks xoE HFO.out _ HXO.out _ hS1 (HMI.out _ hS1)).mono ?_
     rintro r2 w2 ⟨rfl,hb2⟩
     have hS2:=hS1.below hb2
     have hD2:=hD1.trans (hb2.mono hD1.size)
     rw [← HLT.out]
     refine hK.out _ _ (hS2) Ztr ?_
     clear hK K_
     refine Zst ?_
     refine Zwo 19 rfl fun K_ hK=>?_
     go_simp
     go_at_call 82
     refine (Zfs (Zai wz) m bm hl ks xpE HFP.out _ HXP.out _ hS2 (HMI.out _ hS2)).mono ?_
     rintro r3 w3 ⟨rfl,hb3⟩
     have hS3:=hS2.below hb3
     have hD3:=hD2.trans (hb3.mono hD2.size)
     rw [← HLT.out]
     refine hK.out _ _ (hS3) Ztr ?_
     clear hK K_
     refine Zst ?_
     refine Zaf (i:=20) (oi:=_) (v:=?_) rfl (by decide) (by kernel_rfl) (by kernel_rfl) (by kernel_rfl) (by kernel_rfl) (fun _ _ _ h=>h) hS3 Ztr (Or.inl ⟨by rfl,?hyC2⟩) ?_
     case hyC2=>intro w hSw;have z0:=hSw.cell kq;have z1:=hSw.cell yo0;have z2:=hSw.cell yo1;have z3:=hSw.cell yo2;have z4:=hSw.cell yo3;have z5:=hSw.cell xo0;have z6:=hSw.cell xo1;have z7:=hSw.cell xo2;have z8:=hSw.cell xo3;have z9:=hSw.cell xp0;have z10:=hSw.cell xp1;have z11:=hSw.cell xp2;have z12:=hSw.cell xp3;have z13:=HN1.out;have z14:=HN2.out;go_simp<;>with_reducible rfl
     refine Zst ?_
     refine Zaf (i:=21) (oi:=_) (v:=?_) rfl (by decide) (by kernel_rfl) (by kernel_rfl) (by kernel_rfl) (by kernel_rfl) (fun _ _ _ h=>h) hS3 Ztr (Or.inl ⟨by rfl,?hyC2⟩) ?_
     case hyC2=>intro w hSw;have z0:=hSw.cell kq;have z1:=hSw.cell yo0;have z2:=hSw.cell yo1;have z3:=hSw.cell yo2;have z4:=hSw.cell yo3;have z5:=hSw.cell xo0;have z6:=hSw.cell xo1;have z7:=hSw.cell xo2;have z8:=hSw.cell xo3;have z9:=hSw.cell xp0;have z10:=hSw.cell xp1;have z11:=hSw.cell xp2;have z12:=hSw.cell xp3;have z13:=HN1.out;have z14:=HN2.out;go_simp<;>with_reducible rfl
     exact mFld1
    have hpn':(pn==0)=false:=by simpa using hpn
    have HE1:=Zhd (show Zb5 lt o n s l L=if Zax (L.getD 2 (.mk o n s L))=false∧Zac lt (l.getD 2 (.mk o n s L))≤Zac lt (l.getD 1 (.mk o n s L)) then L.getD 1 (.mk o n s L) else Ziv o n s L from by have h:=HE0.out;rw [hpl] at h;dsimp only at h;simpa [hpn] using h)
    clear hpn hpl
    have hleK:K'.le (Zai wz):=fun b ob e=>TK.out b ob e
    have hleH:H.le (Zai wz):=fun b ob e=>(hH.below TB.out) b ob e
    obtain⟨byo,oyo,ayo,cyo,hbyo,yo0,yo1,yo2,yo3,yox⟩:=HVL.out.at (i:=2) (by omega)
    simp only [Option.some.injEq,Addr.mk.injEq] at hbyo
    obtain⟨rfl,rfl,_⟩:=hbyo
    obtain⟨yoE,hyoE⟩:∃ e,L[2]'(by omega)=e:=⟨_,rfl⟩
    rw [hyoE] at yo0 yo1 yo2 yo3 yox
    have hyoD:L.getD 2 (.mk o n s L)=yoE:=by rw [List.getD_eq_getElem?_getD,List.getElem?_eq_getElem (by omega)];exact hyoE
    have hyoM:yoE∈L:=by rw [← hyoE];exact List.getElem_mem _
    rw [hyoD] at HE1
    have yoX:=Zhd yox
    clear hyoE hyoD yox
    have yo0:(Zai wz).cell _ (oL+8)=_:=(hleK).cell yo0
    have yo1:(Zai wz).cell _ (oL+9)=_:=(hleK).cell yo1
    have yo2:(Zai wz).cell _ (oL+10)=_:=(hleK).cell yo2
    have yo3:(Zai wz).cell _ (oL+11)=_:=(hleK).cell yo3
    obtain⟨bxo,oxo,axo,cxo,hbxo,xo0,xo1,xo2,xo3,xox⟩:=HU.out.at (i:=2) (by omega)
    subst hbxo
    obtain⟨xoE,hxoE⟩:∃ e,l[2]'(by omega)=e:=⟨_,rfl⟩
    rw [hxoE] at xo0 xo1 xo2 xo3 xox
    have hxoD:l.getD 2 (.mk o n s L)=xoE:=by rw [List.getD_eq_getElem?_getD,List.getElem?_eq_getElem (by omega)];exact hxoE
    have hxoM:xoE∈l:=by rw [← hxoE];exact List.getElem_mem _
    rw [hxoD] at HE1
    have xoX:=Zhd xox
    clear hxoE hxoD xox
    have xo0:(Zai wz).cell _ (oxo+8)=_:=(hleH).cell xo0
    have xo1:(Zai wz).cell _ (oxo+9)=_:=(hleH).cell xo1
    have xo2:(Zai wz).cell _ (oxo+10)=_:=(hleH).cell xo2
    have xo3:(Zai wz).cell _ (oxo+11)=_:=(hleH).cell xo3
    obtain⟨bxp,oxp,axp,cxp,hbxp,xp0,xp1,xp2,xp3,xpx⟩:=HU.out.at (i:=1) (by omega)
    simp only [Option.some.injEq,Addr.mk.injEq] at hbxp
    obtain⟨rfl,rfl,_⟩:=hbxp
    obtain⟨xpE,hxpE⟩:∃ e,l[1]'(by omega)=e:=⟨_,rfl⟩
    rw [hxpE] at xp0 xp1 xp2 xp3 xpx
    have hxpD:l.getD 1 (.mk o n s L)=xpE:=by rw [List.getD_eq_getElem?_getD,List.getElem?_eq_getElem (by omega)];exact hxpE
    have hxpM:xpE∈l:=by rw [← hxpE];exact List.getElem_mem _
    rw [hxpD] at HE1
    have xpX:=Zhd xpx
    clear hxpE hxpD xpx
    have xp0:(Zai wz).cell _ (oxo+4)=_:=(hleH).cell xp0
    have xp1:(Zai wz).cell _ (oxo+5)=_:=(hleH).cell xp1
    have xp2:(Zai wz).cell _ (oxo+6)=_:=(hleH).cell xp2
    have xp3:(Zai wz).cell _ (oxo+7)=_:=(hleH).cell xp3
    obtain⟨byp,oyp,ayp,cyp,hbyp,yp0,yp1,yp2,yp3,ypx⟩:=HVL.out.at (i:=1) (by omega)
    simp only [Option.some.injEq,Addr.mk.injEq] at hbyp
    obtain⟨rfl,rfl,_⟩:=hbyp
    obtain⟨ypE,hypE⟩:∃ e,L[1]'(by omega)=e:=⟨_,rfl⟩
    rw [hypE] at yp0 yp1 yp2 yp3 ypx
    have hypD:L.getD 1 (.mk o n s L)=ypE:=by rw [List.getD_eq_getElem?_getD,List.getElem?_eq_getElem (by omega)];exact hypE
    have hypM:ypE∈L:=by rw [← hypE];exact List.getElem_mem _
    rw [hypD] at HE1
    have ypX:=Zhd ypx
    clear hypE hypD ypx
    have yp0:(Zai wz).cell _ (oL+4)=_:=(hleK).cell yp0
    have yp1:(Zai wz).cell _ (oL+5)=_:=(hleK).cell yp1
    have yp2:(Zai wz).cell _ (oL+6)=_:=(hleK).cell yp2
    have yp3:(Zai wz).cell _ (oL+7)=_:=(hleK).cell yp3
    have kq:(Zai wz).cell w.heap.size 3=some (.slice (some ⟨bL,oL,none⟩) l.length cu):=by rw [Zap];exact (Zag TX.out).2.2.2.1
    have HM2:=Zhd (HM.out.below TB.out)
    have hmapIn:∀ w',(Zai wz).In w'→Zaw (Value.int .i64) w' bm m:=fun w' h=>HM2.out.of_block (by
     have hml:=HM2.out.lt
     have e:wz.heap[bm]?=some wz.heap[bm]:=Array.getElem?_eq_getElem hml
     rw [h bm _ e,e])
    have hdvp:yoE.parts≤1000000000000:=by have:=HLP.out yoE hyoM;omega
    have HDV:=Zhd (Zf0 yoE hdvp (Zai wz) _ (show ExV (Zai wz) yoE (.agg #[.string yoE.op,.int .i64 yoE.n,.string yoE.s,.slice ayo yoE.l.length cyo]) from⟨_,rfl,by obtain⟨u,e,h⟩:=yoX.out;cases e;exact h.le hleK⟩))
    skip
    obtain⟨q0,q1,q2,q3,_⟩:=Zag TX.out
    obtain⟨r0,r1,r2,r3,f0,f1,f2,f3,_⟩:=Zag TR.out
    have HMI:=Zhd hmapIn
    have HXO:=Zhd (show ExV (Zai wz) xoE (.agg #[.string xoE.op,.int .i64 xoE.n,.string xoE.s,.slice axo xoE.l.length cxo]) from⟨_,rfl,by obtain⟨u,e,h⟩:=xoX.out;cases e;exact h.le hleH⟩)
    have HXP:=Zhd (show ExV (Zai wz) xpE (.agg #[.string xpE.op,.int .i64 xpE.n,.string xpE.s,.slice axp xpE.l.length cxp]) from⟨_,rfl,by obtain⟨u,e,h⟩:=xpX.out;cases e;exact h.le hleH⟩)
    have HYU:=Zhd (show ExsV K' ypE.l (.slice ayp ypE.l.length cyp) from by obtain⟨u,e,h⟩:=ypX.out;cases e;exact h)
    have HFO:=Zhd (HSUB.out xoE hxoM)
    have HFP:=Zhd (HSUB.out xpE hxpM)
    have HN1:=Zhd (show (1:Int)<(l.length:Int) from by omega)
    have HN2:=Zhd (show (2:Int)<(l.length:Int) from by omega)
    have hS:(Zai wz).In wz.drew:=Za8 wz
    have hD:Below wz.heap.size wz wz.drew:=(Below.refl _ _).drew
    clear hmapIn hleK hleH yoX xoX xpX ypX
    go_upto_region 20 with (fail)
    refine Za2 (fun w'=>(Zai wz).In w') (fun _=>True) 99 (by kernel_rfl) ?_
    generalize wz.drew=Wd at *
    refine Zaf (i:=0) (oi:=_) (v:=?_) rfl (by decide) (by kernel_rfl) (by kernel_rfl) (by kernel_rfl) (by kernel_rfl) (fun _ _ _ h=>h) hS Ztr (Or.inl ⟨by rfl,?hyA1⟩) ?_
    case hyA1=>intro w hSw;have z0:=hSw.cell kq;have z1:=hSw.cell yo0;have z2:=hSw.cell yo1;have z3:=hSw.cell yo2;have z4:=hSw.cell yo3;have z5:=hSw.cell xo0;have z6:=hSw.cell xo1;have z7:=hSw.cell xo2;have z8:=hSw.cell xo3;have z9:=hSw.cell xp0;have z10:=hSw.cell xp1;have z11:=hSw.cell xp2;have z12:=hSw.cell xp3;have z13:=HN1.out;have z14:=HN2.out;go_simp<;>with_reducible rfl
    refine Zst ?_
    refine Zaf (i:=1) (oi:=_) (v:=?_) rfl (by decide) (by kernel_rfl) (by kernel_rfl) (by kernel_rfl) (by kernel_rfl) (fun _ _ _ h=>h) hS Ztr (Or.inl ⟨by rfl,?hyA1⟩) ?_
    case hyA1=>intro w hSw;have z0:=hSw.cell kq;have z1:=hSw.cell yo0;have z2:=hSw.cell yo1;have z3:=hSw.cell yo2;have z4:=hSw.cell yo3;have z5:=hSw.cell xo0;have z6:=hSw.cell xo1;have z7:=hSw.cell xo2;have z8:=hSw.cell xo3;have z9:=hSw.cell xp0;have z10:=hSw.cell xp1;have z11:=hSw.cell xp2;have z12:=hSw.cell xp3;have z13:=HN1.out;have z14:=HN2.out;go_simp<;>with_reducible rfl
    refine Zst ?_
    refine Zaf (i:=2) (oi:=_) (v:=?_) rfl (by decide) (by kernel_rfl) (by kernel_rfl) (by kernel_rfl) (by kernel_rfl) (fun _ _ _ h=>h) hS Ztr (Or.inl ⟨by rfl,?hyA1⟩) ?_
    case hyA1=>intro w hSw;have z0:=hSw.cell kq;have z1:=hSw.cell yo0;have z2:=hSw.cell yo1;have z3:=hSw.cell yo2;have z4:=hSw.cell yo3;have z5:=hSw.cell xo0;have z6:=hSw.cell xo1;have z7:=hSw.cell xo2;have z8:=hSw.cell xo3;have z9:=hSw.cell xp0;have z10:=hSw.cell xp1;have z11:=hSw.cell xp2;have z12:=hSw.cell xp3;have z13:=HN1.out;have z14:=HN2.out;go_simp<;>with_reducible rfl
    refine Zst ?_
    refine Zaf (i:=3) (oi:=_) (v:=?_) rfl (by decide) (by kernel_rfl) (by kernel_rfl) (by kernel_rfl) (by kernel_rfl) (fun _ _ _ h=>h) hS Ztr (Or.inl ⟨by rfl,?hyA1⟩) ?_
    case hyA1=>intro w hSw;have z0:=hSw.cell kq;have z1:=hSw.cell yo0;have z2:=hSw.cell yo1;have z3:=hSw.cell yo2;have z4:=hSw.cell yo3;have z5:=hSw.cell xo0;have z6:=hSw.cell xo1;have z7:=hSw.cell xo2;have z8:=hSw.cell xo3;have z9:=hSw.cell xp0;have z10:=hSw.cell xp1;have z11:=hSw.cell xp2;have z12:=hSw.cell xp3;have z13:=HN1.out;have z14:=HN2.out;go_simp<;>with_reducible rfl
    refine Zst ?_
    refine Zaf (i:=4) (oi:=_) (v:=?_) rfl (by decide) (by kernel_rfl) (by kernel_rfl) (by kernel_rfl) (by kernel_rfl) (fun _ _ _ h=>h) hS Ztr (Or.inl ⟨by rfl,?hyA1⟩) ?_
    case hyA1=>intro w hSw;have z0:=hSw.cell kq;have z1:=hSw.cell yo0;have z2:=hSw.cell yo1;have z3:=hSw.cell yo2;have z4:=hSw.cell yo3;have z5:=hSw.cell xo0;have z6:=hSw.cell xo1;have z7:=hSw.cell xo2;have z8:=hSw.cell xo3;have z9:=hSw.cell xp0;have z10:=hSw.cell xp1;have z11:=hSw.cell xp2;have z12:=hSw.cell xp3;have z13:=HN1.out;have z14:=HN2.out;go_simp<;>with_reducible rfl
    refine Zst ?_
    refine Zwo 5 rfl fun K_ hK=>?_
    go_simp
    go_at_call 41
    refine (HDV.out _ hS).mono ?_
    rintro r1 w1 ⟨rfl,hb1⟩
    have hS1:=hS.below hb1
    have hD1:=hD.trans (hb1.mono hD.size)
    refine hK.out _ _ (hS1) Ztr ?_
    clear hK K_
    refine Zst ?_
    clear hb1
    cases hdv:Zax yoE
    case true=>
     refine Zaf (i:=6) (oi:=_) (v:=?_) rfl (by decide) (by kernel_rfl) (by kernel_rfl) (by kernel_rfl) (by kernel_rfl) (fun _ _ _ h=>h) hS1 Ztr (Or.inl ⟨by rfl,?hyB1⟩) ?_
     case hyB1=>intro w hSw;go_simp<;>with_reducible rfl
     refine Zst ?_
     refine Zaf (i:=7) (oi:=_) (v:=?_) rfl (by decide) (by kernel_rfl) (by kernel_rfl) (by kernel_rfl) (by kernel_rfl) (fun _ _ _ h=>h) hS1 Ztr (Or.inl ⟨by rfl,?hyB1⟩) ?_
     case hyB1=>intro w hSw;go_simp<;>with_reducible rfl
     refine Zst ?_
     refine Zaf (i:=8) (oi:=_) (v:=undef) rfl (by decide) (by kernel_rfl) (by kernel_rfl) (by kernel_rfl) (by kernel_rfl) (fun _ _ _ h=>h) hS1 Ztr (Or.inr ⟨by rfl,rfl⟩) ?_
     refine Zst ?_
     refine Zaf (i:=9) (oi:=_) (v:=undef) rfl (by decide) (by kernel_rfl) (by kernel_rfl) (by kernel_rfl) (by kernel_rfl) (fun _ _ _ h=>h) hS1 Ztr (Or.inr ⟨by rfl,rfl⟩) ?_
     refine Zst ?_
     refine Zaf (i:=10) (oi:=_) (v:=undef) rfl (by decide) (by kernel_rfl) (by kernel_rfl) (by kernel_rfl) (by kernel_rfl) (fun _ _ _ h=>h) hS1 Ztr (Or.inr ⟨by rfl,rfl⟩) ?_
     refine Zst ?_
     refine Zaf (i:=11) (oi:=_) (v:=undef) rfl (by decide) (by kernel_rfl) (by kernel_rfl) (by kernel_rfl) (by kernel_rfl) (fun _ _ _ h=>h) hS1 Ztr (Or.inr ⟨by rfl,rfl⟩) ?_
     refine Zst ?_
     refine Zaf (i:=12) (oi:=_) (v:=undef) rfl (by decide) (by kernel_rfl) (by kernel_rfl) (by kernel_rfl) (by kernel_rfl) (fun _ _ _ h=>h) hS1 Ztr (Or.inr ⟨by rfl,rfl⟩) ?_
     refine Zst ?_
     refine Zaf (i:=14) (oi:=_) (v:=undef) rfl (by decide) (by kernel_rfl) (by kernel_rfl) (by kernel_rfl) (by kernel_rfl) (fun _ _ _ h=>h) hS1 Ztr (Or.inr ⟨by rfl,rfl⟩) ?_
     refine Zst ?_
     refine Zaf (i:=15) (oi:=_) (v:=undef) rfl (by decide) (by kernel_rfl) (by kernel_rfl) (by kernel_rfl) (by kernel_rfl) (fun _ _ _ h=>h) hS1 Ztr (Or.inr ⟨by rfl,rfl⟩) ?_
     refine Zst ?_
     refine Zaf (i:=16) (oi:=_) (v:=undef) rfl (by decide) (by kernel_rfl) (by kernel_rfl) (by kernel_rfl) (by kernel_rfl) (fun _ _ _ h=>h) hS1 Ztr (Or.inr ⟨by rfl,rfl⟩) ?_
     refine Zst ?_
     refine Zaf (i:=17) (oi:=_) (v:=undef) rfl (by decide) (by kernel_rfl) (by kernel_rfl) (by kernel_rfl) (by kernel_rfl) (fun _ _ _ h=>h) hS1 Ztr (Or.inr ⟨by rfl,rfl⟩) ?_
     refine Zst ?_
     refine Zaf (i:=18) (oi:=_) (v:=undef) rfl (by decide) (by kernel_rfl) (by kernel_rfl) (by kernel_rfl) (by kernel_rfl) (fun _ _ _ h=>h) hS1 Ztr (Or.inr ⟨by rfl,rfl⟩) ?_
     refine Zst ?_
     refine Zwo 13 rfl fun K_ hK=>?_
     go_simp
     refine hK.out _ _ (hS1) Ztr ?_
     clear hK K_
     refine Zst ?_
     refine Zwo 19 rfl fun K_ hK=>?_
     go_simp
     refine hK.out _ _ (hS1) Ztr ?_
     clear hK K_
     refine Zst ?_
     refine Zaf (i:=20) (oi:=_) (v:=undef) rfl (by decide) (by kernel_rfl) (by kernel_rfl) (by kernel_rfl) (by kernel_rfl) (fun _ _ _ h=>h) hS1 Ztr (Or.inr ⟨by rfl,rfl⟩) ?_
     refine Zst ?_
     refine Zaf (i:=21) (oi:=_) (v:=?_) rfl (by decide) (by kernel_rfl) (by kernel_rfl) (by kernel_rfl) (by kernel_rfl) (fun _ _ _ h=>h) hS1 Ztr (Or.inl ⟨by rfl,?hyB1⟩) ?_
     case hyB1=>intro w hSw;go_simp<;>with_reducible rfl
     exact mFld3
    refine Zaf (i:=6) (oi:=_) (v:=?_) rfl (by decide) (by kernel_rfl) (by kernel_rfl) (by kernel_rfl) (by kernel_rfl) (fun _ _ _ h=>h) hS1 Ztr (Or.inl ⟨by rfl,?hyC1⟩) ?_
    case hyC1=>intro w hSw;have z0:=hSw.cell kq;have z1:=hSw.cell yo0;have z2:=hSw.cell yo1;have z3:=hSw.cell yo2;have z4:=hSw.cell yo3;have z5:=hSw.cell xo0;have z6:=hSw.cell xo1;have z7:=hSw.cell xo2;have z8:=hSw.cell xo3;have z9:=hSw.cell xp0;have z10:=hSw.cell xp1;have z11:=hSw.cell xp2;have z12:=hSw.cell xp3;have z13:=HN1.out;have z14:=HN2.out;go_simp<;>with_reducible rfl
    refine Zst ?_
    refine Zaf (i:=7) (oi:=_) (v:=?_) rfl (by decide) (by kernel_rfl) (by kernel_rfl) (by kernel_rfl) (by kernel_rfl) (fun _ _ _ h=>h) hS1 Ztr (Or.inl ⟨by rfl,?hyC1⟩) ?_
    case hyC1=>intro w hSw;have z0:=hSw.cell kq;have z1:=hSw.cell yo0;have z2:=hSw.cell yo1;have z3:=hSw.cell yo2;have z4:=hSw.cell yo3;have z5:=hSw.cell xo0;have z6:=hSw.cell xo1;have z7:=hSw.cell xo2;have z8:=hSw.cell xo3;have z9:=hSw.cell xp0;have z10:=hSw.cell xp1;have z11:=hSw.cell xp2;have z12:=hSw.cell xp3;have z13:=HN1.out;have z14:=HN2.out;go_simp<;>with_reducible rfl
    refine Zst ?_
    refine Zaf (i:=8) (oi:=_) (v:=?_) rfl (by decide) (by kernel_rfl) (by kernel_rfl) (by kernel_rfl) (by kernel_rfl) (fun _ _ _ h=>h) hS1 Ztr (Or.inl ⟨by rfl,?hyC1⟩) ?_
    case hyC1=>intro w hSw;have z0:=hSw.cell kq;have z1:=hSw.cell yo0;have z2:=hSw.cell yo1;have z3:=hSw.cell yo2;have z4:=hSw.cell yo3;have z5:=hSw.cell xo0;have z6:=hSw.cell xo1;have z7:=hSw.cell xo2;have z8:=hSw.cell xo3;have z9:=hSw.cell xp0;have z10:=hSw.cell xp1;have z11:=hSw.cell xp2;have z12:=hSw.cell xp3;have z13:=HN1.out;have z14:=HN2.out;go_simp<;>with_reducible rfl
    refine Zst ?_
    refine Zaf (i:=9) (oi:=_) (v:=?_) rfl (by decide) (by kernel_rfl) (by kernel_rfl) (by kernel_rfl) (by kernel_rfl) (fun _ _ _ h=>h) hS1 Ztr (Or.inl ⟨by rfl,?hyC1⟩) ?_
    case hyC1=>intro w hSw;have z0:=hSw.cell kq;have z1:=hSw.cell yo0;have z2:=hSw.cell yo1;have z3:=hSw.cell yo2;have z4:=hSw.cell yo3;have z5:=hSw.cell xo0;have z6:=hSw.cell xo1;have z7:=hSw.cell xo2;have z8:=hSw.cell xo3;have z9:=hSw.cell xp0;have z10:=hSw.cell xp1;have z11:=hSw.cell xp2;have z12:=hSw.cell xp3;have z13:=HN1.out;have z14:=HN2.out;go_simp<;>with_reducible rfl
    refine Zst ?_
    refine Zaf (i:=10) (oi:=_) (v:=?_) rfl (by decide) (by kernel_rfl) (by kernel_rfl) (by kernel_rfl) (by kernel_rfl) (fun _ _ _ h=>h) hS1 Ztr (Or.inl ⟨by rfl,?hyC1⟩) ?_
    case hyC1=>intro w hSw;have z0:=hSw.cell kq;have z1:=hSw.cell yo0;have z2:=hSw.cell yo1;have z3:=hSw.cell yo2;have z4:=hSw.cell yo3;have z5:=hSw.cell xo0;have z6:=hSw.cell xo1;have z7:=hSw.cell xo2;have z8:=hSw.cell xo3;have z9:=hSw.cell xp0;have z10:=hSw.cell xp1;have z11:=hSw.cell xp2;have z12:=hSw.cell xp3;have z13:=HN1.out;have z14:=HN2.out;go_simp<;>with_reducible rfl
    refine Zst ?_
    refine Zaf (i:=11) (oi:=_) (v:=?_) rfl (by decide) (by kernel_rfl) (by kernel_rfl) (by kernel_rfl) (by kernel_rfl) (fun _ _ _ h=>h) hS1 Ztr (Or.inl ⟨by rfl,?hyC1⟩) ?_
    case hyC1=>intro w hSw;have z0:=hSw.cell kq;have z1:=hSw.cell yo0;have z2:=hSw.cell yo1;have z3:=hSw.cell yo2;have z4:=hSw.cell yo3;have z5:=hSw.cell xo0;have z6:=hSw.cell xo1;have z7:=hSw.cell xo2;have z8:=hSw.cell xo3;have z9:=hSw.cell xp0;have z10:=hSw.cell xp1;have z11:=hSw.cell xp2;have z12:=hSw.cell xp3;have z13:=HN1.out;have z14:=HN2.out;go_simp<;>with_reducible rfl
    refine Zst ?_
    refine Zaf (i:=12) (oi:=_) (v:=?_) rfl (by decide) (by kernel_rfl) (by kernel_rfl) (by kernel_rfl) (by kernel_rfl) (fun _ _ _ h=>h) hS1 Ztr (Or.inl ⟨by rfl,?hyC1⟩) ?_
    case hyC1=>intro w hSw;have z0:=hSw.cell kq;have z1:=hSw.cell yo0;have z2:=hSw.cell yo1;have z3:=hSw.cell yo2;have z4:=hSw.cell yo3;have z5:=hSw.cell xo0;have z6:=hSw.cell xo1;have z7:=hSw.cell xo2;have z8:=hSw.cell xo3;have z9:=hSw.cell xp0;have z10:=hSw.cell xp1;have z11:=hSw.cell xp2;have z12:=hSw.cell xp3;have z13:=HN1.out;have z14:=HN2.out;go_simp<;>with_reducible rfl
    refine Zst ?_
    refine Zaf (i:=14) (oi:=_) (v:=?_) rfl (by decide) (by kernel_rfl) (by kernel_rfl) (by kernel_rfl) (by kernel_rfl) (fun _ _ _ h=>h) hS1 Ztr (Or.inl ⟨by rfl,?hyC1⟩) ?_
    case hyC1=>intro w hSw;have z0:=hSw.cell kq;have z1:=hSw.cell yo0;have z2:=hSw.cell yo1;have z3:=hSw.cell yo2;have z4:=hSw.cell yo3;have z5:=hSw.cell xo0;have z6:=hSw.cell xo1;have z7:=hSw.cell xo2;have z8:=hSw.cell xo3;have z9:=hSw.cell xp0;have z10:=hSw.cell xp1;have z11:=hSw.cell xp2;have z12:=hSw.cell xp3;have z13:=HN1.out;have z14:=HN2.out;go_simp<;>with_reducible rfl
    refine Zst ?_
    refine Zaf (i:=15) (oi:=_) (v:=?_) rfl (by decide) (by kernel_rfl) (by kernel_rfl) (by kernel_rfl) (by kernel_rfl) (fun _ _ _ h=>h) hS1 Ztr (Or.inl ⟨by rfl,?hyC1⟩) ?_
    case hyC1=>intro w hSw;have z0:=hSw.cell kq;have z1:=hSw.cell yo0;have z2:=hSw.cell yo1;have z3:=hSw.cell yo2;have z4:=hSw.cell yo3;have z5:=hSw.cell xo0;have z6:=hSw.cell xo1;have z7:=hSw.cell xo2;have z8:=hSw.cell xo3;have z9:=hSw.cell xp0;have z10:=hSw.cell xp1;have z11:=hSw.cell xp2;have z12:=hSw.cell xp3;have z13:=HN1.out;have z14:=HN2.out;go_simp<;>with_reducible rfl
    refine Zst ?_
    refine Zaf (i:=16) (oi:=_) (v:=?_) rfl (by decide) (by kernel_rfl) (by kernel_rfl) (by kernel_rfl) (by kernel_rfl) (fun _ _ _ h=>h) hS1 Ztr (Or.inl ⟨by rfl,?hyC1⟩) ?_
    case hyC1=>intro w hSw;have z0:=hSw.cell kq;have z1:=hSw.cell yo0;have z2:=hSw.cell yo1;have z3:=hSw.cell yo2;have z4:=hSw.cell yo3;have z5:=hSw.cell xo0;have z6:=hSw.cell xo1;have z7:=hSw.cell xo2;have z8:=hSw.cell xo3;have z9:=hSw.cell xp0;have z10:=hSw.cell xp1;have z11:=hSw.cell xp2;have z12:=hSw.cell xp3;have z13:=HN1.out;have z14:=HN2.out;go_simp<;>with_reducible rfl
    refine Zst ?_
    refine Zaf (i:=17) (oi:=_) (v:=?_) rfl (by decide) (by kernel_rfl) (by kernel_rfl) (by kernel_rfl) (by kernel_rfl) (fun _ _ _ h=>h) hS1 Ztr (Or.inl ⟨by rfl,?hyC1⟩) ?_
    case hyC1=>intro w hSw;have z0:=hSw.cell kq;have z1:=hSw.cell yo0;have z2:=hSw.cell yo1;have z3:=hSw.cell yo2;have z4:=hSw.cell yo3;have z5:=hSw.cell xo0;have z6:=hSw.cell xo1;have z7:=hSw.cell xo2;have z8:=hSw.cell xo3;have z9:=hSw.cell xp0;have z10:=hSw.cell xp1;have z11:=hSw.cell xp2;have z12:=hSw.cell xp3;have z13:=HN1.out;have z14:=HN2.out;go_simp<;>with_reducible rfl
    refine Zst ?_
    refine Zaf (i:=18) (oi:=_) (v:=?_) rfl (by decide) (by kernel_rfl) (by kernel_rfl) (by kernel_rfl) (by kernel_rfl) (fun _ _ _ h=>h) hS1 Ztr (Or.inl ⟨by rfl,?hyC1⟩) ?_
    case hyC1=>intro w hSw;have z0:=hSw.cell kq;have z1:=hSw.cell yo0;have z2:=hSw.cell yo1;have z3:=hSw.cell yo2;have z4:=hSw.cell yo3;have z5:=hSw.cell xo0;have z6:=hSw.cell xo1;have z7:=hSw.cell xo2;have z8:=hSw.cell xo3;have z9:=hSw.cell xp0;have z10:=hSw.cell xp1;have z11:=hSw.cell xp2;have z12:=hSw.cell xp3;have z13:=HN1.out;have z14:=HN2.out;go_simp<;>with_reducible rfl
    refine Zst ?_
    refine Zwo 13 rfl fun K_ hK=>?_
    go_simp
    go_at_call 82
    refine (Zfs (Zai wz) m bm hl ks xoE HFO.out _ HXO.out _ hS1 (HMI.out _ hS1)).mono ?_
    rintro r2 w2 ⟨rfl,hb2⟩
    have hS2:=hS1.below hb2
    have hD2:=hD1.trans (hb2.mono hD1.size)
    rw [← HLT.out]
    refine hK.out _ _ (hS2) Ztr ?_
    clear hK K_
    refine Zst ?_
    refine Zwo 19 rfl fun K_ hK=>?_
    go_simp
    go_at_call 82
    refine (Zfs (Zai wz) m bm hl ks xpE HFP.out _ HXP.out _ hS2 (HMI.out _ hS2)).mono ?_
    rintro r3 w3 ⟨rfl,hb3⟩
    have hS3:=hS2.below hb3
    have hD3:=hD2.trans (hb3.mono hD2.size)
    rw [← HLT.out]
    refine hK.out _ _ (hS3) Ztr ?_
    clear hK K_
    refine Zst ?_
    refine Zaf (i:=20) (oi:=_) (v:=?_) rfl (by decide) (by kernel_rfl) (by kernel_rfl) (by kernel_rfl) (by kernel_rfl) (fun _ _ _ h=>h) hS3 Ztr (Or.inl ⟨by rfl,?hyC1⟩) ?_
    case hyC1=>intro w hSw;have z0:=hSw.cell kq;have z1:=hSw.cell yo0;have z2:=hSw.cell yo1;have z3:=hSw.cell yo2;have z4:=hSw.cell yo3;have z5:=hSw.cell xo0;have z6:=hSw.cell xo1;have z7:=hSw.cell xo2;have z8:=hSw.cell xo3;have z9:=hSw.cell xp0;have z10:=hSw.cell xp1;have z11:=hSw.cell xp2;have z12:=hSw.cell xp3;have z13:=HN1.out;have z14:=HN2.out;go_simp<;>with_reducible rfl
    refine Zst ?_
    refine Zaf (i:=21) (oi:=_) (v:=?_) rfl (by decide) (by kernel_rfl) (by kernel_rfl) (by kernel_rfl) (by kernel_rfl) (fun _ _ _ h=>h) hS3 Ztr (Or.inl ⟨by rfl,?hyC1⟩) ?_
    case hyC1=>intro w hSw;have z0:=hSw.cell kq;have z1:=hSw.cell yo0;have z2:=hSw.cell yo1;have z3:=hSw.cell yo2;have z4:=hSw.cell yo3;have z5:=hSw.cell xo0;have z6:=hSw.cell xo1;have z7:=hSw.cell xo2;have z8:=hSw.cell xo3;have z9:=hSw.cell xp0;have z10:=hSw.cell xp1;have z11:=hSw.cell xp2;have z12:=hSw.cell xp3;have z13:=HN1.out;have z14:=HN2.out;go_simp<;>with_reducible rfl
    exact mFld1
  have hi1:(o.toList==[105,102])=false:=Zb4 _ hio
  have HE:=Zhd (show Zb5 lt o n s l L=Ziv o n s L from HFD.out.1 hio)
  rw [hi1]
  go_wp2_with fail
  go_meet
  exact⟨HE.out,TB.out,TX.out,TR.out,TK.out,TV.out,HQS.out⟩
 obtain⟨hE,hB,hX,hR,hK,hV,hQ⟩:=hcut
 clear TB TX TR TK TV HQS q0 q1 q2 q3
 have HE:=Zhd hE
 have TB:=Zhd hB
 have TX:=Zhd hX
 have TR:=Zhd hR
 have TK:=Zhd hK
 have TV:=Zhd hV
 have HQS:=Zhd hQ
 clear hE hB hX hR hK hV hQ
 obtain⟨wz,hwz⟩:∃ wz,wz=wc:=⟨_,rfl⟩
 subst hwz
 have hvv:VlsV (Zai wz) (L.map plV) (.slice av l.length cv):=vls_of_row TV.out (by rw [List.length_map];exact hLl)
 have HVV:=Zhd hvv
 clear hvv
 cases hab:(L.all fun e=>(Za3 e).isSome)
 case false=>
  obtain⟨q0,q1,q2,q3,_⟩:=Zag TX.out
  obtain⟨r0,r1,r2,r3,f0,f1,f2,f3,_⟩:=Zag TR.out
  have HR2:=Zhd (Zdx TR.out (.string o) (.int .i64 n) (.string s) (.slice au l.length cu))
  have hKR:=HLW.out (w.heap.size+1) (by omega)
  have hin2:=(((TK.out.setCell (a:=⟨w.heap.size+1,0,none⟩) hKR (.string o)).setCell (a:=⟨w.heap.size+1,1,none⟩) hKR (.int .i64 n)).setCell (a:=⟨w.heap.size+1,2,none⟩) hKR (.string s)).setCell (a:=⟨w.heap.size+1,3,none⟩) hKR (.slice au l.length cu)
  have HB2:=Zhd ((((TB.out.setCell (p:=⟨w.heap.size+1,0,none⟩) (Nat.le_succ _) (.string o)).setCell (p:=⟨w.heap.size+1,1,none⟩) (Nat.le_succ _) (.int .i64 n)).setCell (p:=⟨w.heap.size+1,2,none⟩) (Nat.le_succ _) (.string s)).setCell (p:=⟨w.heap.size+1,3,none⟩) (Nat.le_succ _) (.slice au l.length cu))
  have HV2:=Zhd (HVL.out.le (Zfq hin2 (n:=w.heap.size) (fun b hb=>HLW.out b (by omega)) HUF.out))
  have HEE:=Zhd (show Zb5 lt o n s l L = .mk o n s L from by rw [HE.out];unfold Ziv;rw [hab];simp)
  exact mFld2
 by_cases hl0:l.length=0
 ·have HLN:=Zhd (show L=[] from List.eq_nil_of_length_eq_zero (by omega))
  have hl0':((l.length:Int)==0)=true:=by simpa using hl0
  clear hl0
  obtain⟨q0,q1,q2,q3,_⟩:=Zag TX.out
  obtain⟨r0,r1,r2,r3,f0,f1,f2,f3,_⟩:=Zag TR.out
  have HR2:=Zhd (Zdx TR.out (.string o) (.int .i64 n) (.string s) (.slice au l.length cu))
  have hKR:=HLW.out (w.heap.size+1) (by omega)
  have hin2:=(((TK.out.setCell (a:=⟨w.heap.size+1,0,none⟩) hKR (.string o)).setCell (a:=⟨w.heap.size+1,1,none⟩) hKR (.int .i64 n)).setCell (a:=⟨w.heap.size+1,2,none⟩) hKR (.string s)).setCell (a:=⟨w.heap.size+1,3,none⟩) hKR (.slice au l.length cu)
  have HB2:=Zhd ((((TB.out.setCell (p:=⟨w.heap.size+1,0,none⟩) (Nat.le_succ _) (.string o)).setCell (p:=⟨w.heap.size+1,1,none⟩) (Nat.le_succ _) (.int .i64 n)).setCell (p:=⟨w.heap.size+1,2,none⟩) (Nat.le_succ _) (.string s)).setCell (p:=⟨w.heap.size+1,3,none⟩) (Nat.le_succ _) (.slice au l.length cu))
  have HV2:=Zhd (HVL.out.le (Zfq hin2 (n:=w.heap.size) (fun b hb=>HLW.out b (by omega)) HUF.out))
  have HEE:=Zhd (show Zb5 lt o n s l L = .mk o n s L from by rw [HE.out];unfold Ziv;rw [if_neg (fun h=>h.2 HLN.out)])
  exact mFld2
 have hLne:L≠[]:=fun h=>hl0 (by rw [← hLl,h];rfl)
 have hl0':((l.length:Int)==0)=false:=by simpa using hl0
 have HE2:=Zhd (show Zb5 lt o n s l L=(if Zdo o (L.map plV)=0∧(appM o (L.map plV)).2=false then (Zbw (appM o (L.map plV)).1).getD (.mk o n s L) else .mk o n s L) from by rw [HE.out];unfold Ziv;rw [if_pos ⟨hab,hLne⟩])
 have HAP:=Zhd (applyX_any (Zai wz) (T.le (Zbl (hHL.below TB.out))) sp o (L.map plV) _ HVV.out (by rw [List.length_map];omega) wz (Za8 wz) (HS.out.below TB.out))
 clear hab
 obtain⟨q0,q1,q2,q3,_⟩:=Zag TX.out
 obtain⟨r0,r1,r2,r3,f0,f1,f2,f3,_⟩:=Zag TR.out
 go_wp2_with fail
 refine HAP.out.mono ?_
 rintro r wy ⟨rfl,hby⟩
 have TB:=Zhd (TB.out.trans (hby.mono TB.out.size))
 have TX:=Zhd ((hby.block _ (Zlt TX.out)).trans TX.out)
 have TR:=Zhd ((hby.block _ (Zlt TR.out)).trans TR.out)
 have TK:=Zhd (TK.out.below hby)
 have TV:=Zhd (Zao TV.out hby)
 clear hby HAP q0 q1 q2 q3 r0 r1 r2 r3 f0 f1 f2 f3
 obtain⟨tv_,htv⟩:∃ tv_,(aplM o (L.map plV)).1=tv_:=⟨_,rfl⟩
 rw [htv]
 have HTV:=Zhd htv
 obtain⟨tk,tn⟩:=tv_
 clear htv
 have hby:=(Below.refl wy.heap.size wy).alloc (Nat.le_refl _) (.cells #[.int .i64 tk,.int .i64 tn] 137)
 have HTB:=Zhd (heap_alloc_new wy (.cells #[.int .i64 tk,.int .i64 tn] 137))
 have TB:=Zhd (TB.out.trans (hby.mono TB.out.size))
 have TX:=Zhd ((hby.block _ (Zlt TX.out)).trans TX.out)
 have TR:=Zhd ((hby.block _ (Zlt TR.out)).trans TR.out)
 have TK:=Zhd (TK.out.below hby)
 have TV:=Zhd (Zao TV.out hby)
 clear hby
 by_cases hz:Zdo o (L.map plV)=0
 case neg=>
  obtain⟨c,hc⟩:∃ c,Zdo o (L.map plV)=c+1:=⟨Zdo o (L.map plV) - 1,by omega⟩
  have ha2:(aplM o (L.map plV)).2=false:=by unfold aplM;rw [if_neg hz]
  rw [hc,ha2]
  unfold errV esv
  obtain⟨q0,q1,q2,q3,_⟩:=Zag TX.out
  obtain⟨r0,r1,r2,r3,f0,f1,f2,f3,_⟩:=Zag TR.out
  go_upto_region 25 with (fail)
  generalize wy.alloc (.cells #[.int .i64 tk,.int .i64 tn] 137)=wq at *
  have HR2:=Zhd (Zdx TR.out (.string o) (.int .i64 n) (.string s) (.slice au l.length cu))
  have hKR:=HLW.out (w.heap.size+1) (by omega)
  have hin2:=(((TK.out.setCell (a:=⟨w.heap.size+1,0,none⟩) hKR (.string o)).setCell (a:=⟨w.heap.size+1,1,none⟩) hKR (.int .i64 n)).setCell (a:=⟨w.heap.size+1,2,none⟩) hKR (.string s)).setCell (a:=⟨w.heap.size+1,3,none⟩) hKR (.slice au l.length cu)
  have HB2:=Zhd ((((TB.out.setCell (p:=⟨w.heap.size+1,0,none⟩) (Nat.le_succ _) (.string o)).setCell (p:=⟨w.heap.size+1,1,none⟩) (Nat.le_succ _) (.int .i64 n)).setCell (p:=⟨w.heap.size+1,2,none⟩) (Nat.le_succ _) (.string s)).setCell (p:=⟨w.heap.size+1,3,none⟩) (Nat.le_succ _) (.slice au l.length cu))
  have HV2:=Zhd (HVL.out.le (Zfq hin2 (n:=w.heap.size) (fun b hb=>HLW.out b (by omega)) HUF.out))
  have HEE:=Zhd (show Zb5 lt o n s l L = .mk o n s L from by rw [HE2.out,if_neg (fun h=>hz h.1)])
  exact mFld2
 have ha:aplM o (L.map plV)=appM o (L.map plV):=by unfold aplM;rw [if_pos hz]
 rw [hz,ha]
 rw [ha] at HTV
 unfold errV
 cases ht2:(appM o (L.map plV)).2
 case true=>
  obtain⟨q0,q1,q2,q3,_⟩:=Zag TX.out
  obtain⟨r0,r1,r2,r3,f0,f1,f2,f3,_⟩:=Zag TR.out
  go_upto_region 25 with (fail)
  generalize wy.alloc (.cells #[.int .i64 tk,.int .i64 tn] 137)=wq at *
  have HR2:=Zhd (Zdx TR.out (.string o) (.int .i64 n) (.string s) (.slice au l.length cu))
  have hKR:=HLW.out (w.heap.size+1) (by omega)
  have hin2:=(((TK.out.setCell (a:=⟨w.heap.size+1,0,none⟩) hKR (.string o)).setCell (a:=⟨w.heap.size+1,1,none⟩) hKR (.int .i64 n)).setCell (a:=⟨w.heap.size+1,2,none⟩) hKR (.string s)).setCell (a:=⟨w.heap.size+1,3,none⟩) hKR (.slice au l.length cu)
  have HB2:=Zhd ((((TB.out.setCell (p:=⟨w.heap.size+1,0,none⟩) (Nat.le_succ _) (.string o)).setCell (p:=⟨w.heap.size+1,1,none⟩) (Nat.le_succ _) (.int .i64 n)).setCell (p:=⟨w.heap.size+1,2,none⟩) (Nat.le_succ _) (.string s)).setCell (p:=⟨w.heap.size+1,3,none⟩) (Nat.le_succ _) (.slice au l.length cu))
  have HV2:=Zhd (HVL.out.le (Zfq hin2 (n:=w.heap.size) (fun b hb=>HLW.out b (by omega)) HUF.out))
  have HEE:=Zhd (show Zb5 lt o n s l L = .mk o n s L from by rw [HE2.out,if_neg (fun h=>by rw [ht2] at h;cases h.2)])
  exact mFld2
 obtain⟨q0,q1,q2,q3,_⟩:=Zag TX.out
 obtain⟨r0,r1,r2,r3,f0,f1,f2,f3,_⟩:=Zag TR.out
 have hrg:=appM_range hz ht2
 have HE3:=Zhd (show Zb5 lt o n s l L=(Zbw ⟨tk,tn⟩).getD (.mk o n s L) from by rw [HE2.out,if_pos ⟨hz,ht2⟩,HTV.out])
 rw [HTV.out] at hrg
 go_upto_region 25 with (fail)
 generalize wy.alloc (.cells #[.int .i64 tk,.int .i64 tn] 137)=wq at *
 obtain⟨p0,p1,_,_,_⟩:=Zay HTB.out
 go_wp2_with fail
 refine (literal_any ⟨tk,tn⟩ hrg wq).mono ?_
 rintro r wl ⟨u,rfl,hlx,hbl⟩
 obtain⟨ux,rfl,hux⟩:=hlx
 have TB:=Zhd (TB.out.trans (hbl.mono TB.out.size))
 have TX:=Zhd ((hbl.block _ (Zlt TX.out)).trans TX.out)
 have TR:=Zhd ((hbl.block _ (Zlt TR.out)).trans TR.out)
 have TK:=Zhd (TK.out.below hbl)
 have TV:=Zhd (Zao TV.out hbl)
 have hwq:=TB.out
 have HLX:=Zhd hux
 clear hux q0 q1 q2 q3 r0 r1 r2 r3 f0 f1 f2 f3 p0 p1
 obtain⟨X,hX⟩:∃ X,litX ⟨tk,tn⟩=X:=⟨_,rfl⟩
 rw [hX] at HLX ⊢
 obtain⟨al,cl,rfl⟩:=HLX.out.len
 have hbv:=(Below.refl wl.heap.size wl).alloc (Nat.le_refl _) (.cells #[.string X.op,.int .i64 X.n,.string X.s,.slice al X.l.length cl] 69)
 have HXB:=Zhd (heap_alloc_new wl (.cells #[.string X.op,.int .i64 X.n,.string X.s,.slice al X.l.length cl] 69))
 have HXI:=Zhd ((Zhv wq.heap.size wl).below hbv)
 have TB:=Zhd (TB.out.trans (hbv.mono TB.out.size))
 have TX:=Zhd ((hbv.block _ (Zlt TX.out)).trans TX.out)
 have TR:=Zhd ((hbv.block _ (Zlt TR.out)).trans TR.out)
 have TK:=Zhd (TK.out.below hbv)
 have TV:=Zhd (Zao TV.out hbv)
 have hqs:w.heap.size+1<wq.heap.size:=by have:=HQS.out;omega
 clear hbv hbl
 cases hlv:Zbw ⟨tk,tn⟩
 case none=>
  rw [Option.isSome_none]
  obtain⟨q0,q1,q2,q3,_⟩:=Zag TX.out
  obtain⟨r0,r1,r2,r3,f0,f1,f2,f3,_⟩:=Zag TR.out
  go_upto_region 28 with (fail)
  generalize wl.alloc (.cells #[.string X.op,.int .i64 X.n,.string X.s,.slice al X.l.length cl] 69)=wv at *
  have HR2:=Zhd (Zdx TR.out (.string o) (.int .i64 n) (.string s) (.slice au l.length cu))
  have hKR:=HLW.out (w.heap.size+1) (by omega)
  have hin2:=(((TK.out.setCell (a:=⟨w.heap.size+1,0,none⟩) hKR (.string o)).setCell (a:=⟨w.heap.size+1,1,none⟩) hKR (.int .i64 n)).setCell (a:=⟨w.heap.size+1,2,none⟩) hKR (.string s)).setCell (a:=⟨w.heap.size+1,3,none⟩) hKR (.slice au l.length cu)
  have HB2:=Zhd ((((TB.out.setCell (p:=⟨w.heap.size+1,0,none⟩) (Nat.le_succ _) (.string o)).setCell (p:=⟨w.heap.size+1,1,none⟩) (Nat.le_succ _) (.int .i64 n)).setCell (p:=⟨w.heap.size+1,2,none⟩) (Nat.le_succ _) (.string s)).setCell (p:=⟨w.heap.size+1,3,none⟩) (Nat.le_succ _) (.slice au l.length cu))
  have HV2:=Zhd (HVL.out.le (Zfq hin2 (n:=w.heap.size) (fun b hb=>HLW.out b (by omega)) HUF.out))
  have HEE:=Zhd (show Zb5 lt o n s l L = .mk o n s L from by rw [HE3.out,hlv];rfl)
  exact mFld2
 case some X'=>
  have hXX:X'=X:=by rw [← hX];unfold litX;rw [hlv];rfl
  subst hXX
  rw [Option.isSome_some]
  obtain⟨q0,q1,q2,q3,_⟩:=Zag TX.out
  obtain⟨r0,r1,r2,r3,f0,f1,f2,f3,_⟩:=Zag TR.out
  go_upto_region 28 with (fail)
  generalize wl.alloc (.cells #[.string X'.op,.int .i64 X'.n,.string X'.s,.slice al X'.l.length cl] 69)=wv at *
  obtain⟨x0,x1,x2,x3,_⟩:=Zag HXB.out
  have HR2:=Zhd (Zdx TR.out (.string (X').op) (.int .i64 (X').n) (.string (X').s) (.slice al (X').l.length cl))
  have hKR:(newU wq.heap.size wl) (w.heap.size+1)=none:=(show ∀ b,b<wq.heap.size→newU wq.heap.size wl b=none from fun b hb=>Zgz hb) _ (by omega)
  have hin2:=(((HXI.out.setCell (a:=⟨w.heap.size+1,0,none⟩) hKR (.string (X').op)).setCell (a:=⟨w.heap.size+1,1,none⟩) hKR (.int .i64 (X').n)).setCell (a:=⟨w.heap.size+1,2,none⟩) hKR (.string (X').s)).setCell (a:=⟨w.heap.size+1,3,none⟩) hKR (.slice al (X').l.length cl)
  have HB2:=Zhd ((((TB.out.setCell (p:=⟨w.heap.size+1,0,none⟩) (Nat.le_succ _) (.string (X').op)).setCell (p:=⟨w.heap.size+1,1,none⟩) (Nat.le_succ _) (.int .i64 (X').n)).setCell (p:=⟨w.heap.size+1,2,none⟩) (Nat.le_succ _) (.string (X').s)).setCell (p:=⟨w.heap.size+1,3,none⟩) (Nat.le_succ _) (.slice al (X').l.length cl))
  have HV2:=Zhd (HLX.out.le (Zfq hin2 (n:=w.heap.size) (fun b hb=>(show ∀ b,b<wq.heap.size→newU wq.heap.size wl b=none from fun b hb=>Zgz hb) b (by omega)) (newU_uf _ _)))
  have HEE:=Zhd (show Zb5 lt o n s l L=X' from by rw [HE3.out,hlv];rfl)
  clear hin2 hKR
  go_wp2_with (guard_target =~ bodyPost _ _ _ _ _ _;obtain⟨e0,e1,e2,e3,_⟩:=Zag HR2.out;refine bodyPost_ret (v := .agg #[.string (X').op,.int .i64 (X').n,.string (X').s,.slice al (X').l.length cl]) (by simp [results,Tryz.results39,go_sem,e0,e1,e2,e3]) rfl ?_;exact⟨_,rfl,by rw [HEE.out];exact⟨_,rfl,HV2.out⟩,HB2.out⟩)
end Go.Proofs.YtofameafdnkijaaGreatDoor
