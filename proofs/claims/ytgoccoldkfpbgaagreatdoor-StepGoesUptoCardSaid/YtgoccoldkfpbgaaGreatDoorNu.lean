/- Walks: lustrumlaw2.Long. -/
import Derived.Test.YtgoccoldkfpbgaaGreatDoorRg
import Derived.Test.YtgoccoldkfpbgaaGreatDoorKi
import Derived.Test.YtgoccoldkfpbgaaGreatDoorRh
import Derived.Test.YtgoccoldkfpbgaaGreatDoorGof
import Derived.Test.YtgoccoldkfpbgaaGreatDoorCpM
import Derived.Test.YtgoccoldkfpbgaaGreatDoorTe
import Derived.Test.YtgoccoldkfpbgaaGreatDoorBare
import Derived.Test.YtgoccoldkfpbgaaGreatDoorRows
import Derived.Test.YtgoccoldkfpbgaaGreatDoorEof
import Derived.OpenShut
import Derived.LaidMore
import Derived.Lib.SmallJoins
import Derived.Stop.Joined
import Derived.Deep.Strs
import Derived.Test.YtgoccoldkfpbgaaGreatDoorTkM
import Derived.BigQuiet
set_option linter.all false
namespace Go.Proofs.YtgoccoldkfpbgaaGreatDoor
set_option maxRecDepth 100000
set_option maxHeartbeats 16000000
open Go.RowKit Mx
def longs (ins:List (List Vl)):Bool:=ins.any (fun l=>decide (50<l.length)) || decide (14<ins.length∧ins.length≤300) || decide (305<ins.length)
def longI (ins:List (List Vl)):Int:=if longs ins then 1 else 0
theorem long_zero {ins:List (List Vl)} (h:¬ 0<longI ins):(∀ l∈ins,l.length≤50)∧(ins.length≤14∨300<ins.length)∧ins.length≤305:=by
 unfold longI at h
 split at h
 ·exact absurd (by decide) h
 rename_i hl
 unfold longs at hl
 simp only [Bool.or_eq_true,decide_eq_true_eq,List.any_eq_true,not_or,not_exists,not_and] at hl
 obtain⟨⟨h1,h2⟩,h3⟩:=hl
 refine⟨fun l hl=>by have:=h1 l hl;omega,?_,by omega⟩
 by_cases h4:14<ins.length
 ·have:=h2 h4;omega
 omega
theorem long_any (H:Kn) (ins:List (List Vl)) (v:Value) (h:InsV H ins v) (hz:ins.length≤1000000000) (w:World) (hH:H.In w):
  Calls Tryz.prog 7 #[v] w fun r w'=>r = .returned (.int .i64 (longI ins))∧Below w.heap.size w w':=by
 obtain⟨a,c,rfl⟩:=h.len
 have HV:=Zhd h
 clear h
 go_enter Tryz.func7,Tryz.ntmps7
 go_wp2_with fail
 go_loopw [3] (fun i wr=>∃ k:Nat,i = .int .i64 k∧k≤ins.length∧Below w.heap.size w wr∧∀ j (hj:j<ins.length),j<k→ins[j].length≤50) (fun i _=>ins.length - (intOf i).toNat)
 case atStart=>exact⟨0,rfl,Nat.zero_le _,Below.refl _ _,fun j _ h=>by omega⟩
 obtain⟨k,rfl,hk,hb,hno⟩:=hrel
 have HB:=Zhd hb
 have HNO:=Zhd hno
 clear hb hno
 by_cases hkl:k<ins.length
 ·obtain⟨b,off,a2,c2,haf,c0,hv⟩:=HV.out.at hkl
  have c0:=(hH.below HB.out).cell c0
  have HYES:=Zhd (show 50<ins[k].length→longI ins=1 from fun h=>by
   unfold longI longs
   rw [List.any_eq_true.2 ⟨ins[k],List.getElem_mem hkl,by simpa using h⟩]
   rfl)
  have HNOT:=Zhd (show ¬ 50<ins[k].length→∀ j (hj:j<ins.length),j<k+1→ins[j].length≤50 from fun h j hj hjk=>by
   by_cases hjk':j<k
   ·exact HNO.out j hj hjk'
   obtain rfl:j=k:=by omega
   omega)
  clear hv
  generalize ins[k].length=n at *
  subst haf
  by_cases h50:50<n
  ·have q:(50:Int)<n:=by omega
   go_wp2_with fail
   go_ret
   exact⟨Zah (HYES.out h50).symm,HB.out⟩
  have q:¬ (50:Int)<n:=by omega
  go_wp2_with fail
  go_roundw
  case rel=>exact⟨k+1,by go_num,by omega,HB.out,HNOT.out h50⟩
  simp [intOf];omega
 obtain rfl:k=ins.length:=by omega
 have HF:=Zhd (show longI ins=if 14<ins.length∧ins.length≤300∨305<ins.length then 1 else 0 from by
  unfold longI longs
  rw [List.any_eq_false.2 fun l hl=>by
   obtain⟨j,hj,rfl⟩:=List.mem_iff_getElem.1 hl
   have:=HNO.out j hj hj
   simp;omega]
  simp only [Bool.false_or,Bool.or_eq_true,decide_eq_true_eq])
 clear HNO HV
 by_cases h1:14<ins.length
 ·by_cases h2:ins.length≤300
  ·have q1:(14:Int)<ins.length:=by omega
   have q2:(ins.length:Int)≤300:=by omega
   go_wp2_with fail
   go_ret
   exact⟨Zah (by rw [HF.out,if_pos (.inl ⟨h1,h2⟩)]),HB.out⟩
  by_cases h3:305<ins.length
  ·have q1:(14:Int)<ins.length:=by omega
   have q2:¬ (ins.length:Int)≤300:=by omega
   have q3:(305:Int)<ins.length:=by omega
   go_wp2_with fail
   go_ret
   exact⟨Zah (by rw [HF.out,if_pos (.inr h3)]),HB.out⟩
  have q1:(14:Int)<ins.length:=by omega
  have q2:¬ (ins.length:Int)≤300:=by omega
  have q3:¬ (305:Int)<ins.length:=by omega
  go_wp2_with fail
  go_ret
  exact⟨Zah (by rw [HF.out,if_neg (by omega)]),HB.out⟩
 have q1:¬ (14:Int)<ins.length:=by omega
 have q3:¬ (305:Int)<ins.length:=by omega
 go_wp2_with fail
 go_ret
 exact⟨Zah (by rw [HF.out,if_neg (by omega)]),HB.out⟩
theorem mNt1 {p:Prop} (h:p:=by
 intro w hSw;obtain⟨z0,z1,z2,z3,z4,z5,z6,z7⟩:=hSw.c8 d0 d1 d2 d3 d0' d1' d2' d3';first | (go_simp;done) | (go_simp;with_reducible rfl)):p:=h
theorem Tryz.infoTkF:(Tryz.prog.info? 68).map (fun i=>(i.zero,i.size,i.bytes))=some (some (.agg #[.slice none 0 0,.bool false,.bool false,.slice none 0 0]),4,56):=by kernel_rfl
theorem TksV.at {H:Kn} {l:List Tk} {a:Option Addr} {n c:Nat} (h:TksV H l (.slice a n c)) {k:Nat} (hk:k<l.length):∃ b off a1 c1 a2 c2,a=some ⟨b,off,none⟩∧H.cell b (off+k * 4)=some (.slice a1 l[k].out.length c1)∧H.cell b (off+k * 4+1)=some (.bool l[k].asrt)∧H.cell b (off+k * 4+2)=some (.bool l[k].trap)∧H.cell b (off+k * 4+3)=some (.slice a2 l[k].checks.length c2)∧TkV H l[k] (.slice a1 l[k].out.length c1) (.slice a2 l[k].checks.length c2):=by
 obtain⟨b,off,haf,_,ov,cv,c0,c1,c2,c3,hv⟩:=SlV.at h hk
 obtain⟨a1,k1,rfl⟩:=hv.outs.len
 obtain⟨a2,k2,rfl⟩:=hv.checks.len
 exact⟨b,off,a1,k1,a2,k2,haf,c0,c1,c2,c3,hv⟩
theorem ticksOf_any (H:Kn) (l:List Tk) (v:Value) (hv:TksV H l v) (hz:l.length≤1000000) (w:World) (hH:H.In w):
  Calls Tryz.prog 14 #[v] w fun r w'=>∃ v' K,r = .returned v'∧TksV K l v'∧Kn.Step H w K w':=by
 obtain⟨a,cap,rfl⟩:=hv.len
 have HU:=Zhd hv
 clear hv
 obtain⟨i0,hi0,hz0,hz1,hz2⟩:=info_parts Tryz.infoTkF
 go_enter Tryz.func14,Tryz.ntmps14
 go_wp2_with fail
 have HS0:=Zhd (show RwO 68 4 TkX H w w w.heap.size l 0 (.slice none 0 0) [] H from
  ⟨Kn.le_refl H,fun _ _=>rfl,hH,Below.refl _ _,Nat.le_refl _,World.ownsRow_nil _ _ _ _,RowX.nil,fun g hg=>by simp [Value.ownBlock] at hg⟩)
 go_loopw [3,4] (fun u i wr=>∃ (k:Nat) (xs:List Value),i = .int .i64 k∧k≤l.length∧RwO 68 4 TkX H w wr w.heap.size l k u xs H) (fun _ i _=>l.length - (intOf i).toNat)
 case atStart=>exact⟨0,_,rfl,Nat.zero_le _,HS0.out⟩
 obtain⟨k,xs,rfl,hk,hS⟩:=hrel
 have HS:=Zhd hS
 obtain⟨au,cu,rfl,_⟩:=Zas hS.row
 clear hS
 by_cases hkl:k<l.length
 ·obtain⟨b,off,a1,c1,a2,c2,rfl,d0,d1,d2,d3,hx⟩:=HU.out.at hkl
  have d0:=HS.out.drew.isin.cell d0
  have d1:=HS.out.drew.isin.cell d1
  have d2:=HS.out.drew.isin.cell d2
  have d3:=HS.out.drew.isin.cell d3
  have HT:=Zhd (Zdt l k hkl)
  have HX:=Zhd hx
  clear hx
  generalize l[k]=x at *
  obtain⟨xo,xa,xt,xc⟩:=x
  dsimp only at d0 d1 d2 d3
  have HSD:=HS.out.drew
  go_wp2_with fail
  go_region_law (refine step_append_lies _ (by rfl) _ _ _ (by rfl) w.heap.size 68 i0 _ 4 56 Tryz.underlying49 hi0 hz0 hz1 hz2 rfl (by omega) _ k xs (by rfl) (RwO.row (RwO.alloc HSD _)) ⟨_,0,none⟩ 1 1 [.slice a1 xo.length c1,.bool xa,.bool xt,.slice a2 xc.length c2] (by rfl) (by rfl) (by exact World.news_of_block (heap_alloc_new _ _)) (by simp [Value.oneCell']) (by omega) (by unfold maxLen;omega) (by omega) (RwO.size (RwO.alloc HSD _)) _ rfl ?_;intro gg cap' w3 hown hgrow hat hltg;have hf3:=RwO.step (n':=1) (RwO.alloc HSD _) (by rw [HT.out];exact RowX.snoc TkC.pm HS.out.xs rfl ⟨_,_,rfl,rfl,rfl,rfl,HX.out⟩) hown hgrow hat)
  all_goals go_wp2_with fail
  all_goals go_roundw
  all_goals first | exact⟨k+1,_,by go_num,by omega,hf3⟩ | (simp [intOf];omega)
 obtain rfl:k=l.length:=by omega
 have hxs:TkX H (List.take l.length l) xs:=HS.out.xs
 rw [List.take_of_length_le (Nat.le_refl _)] at hxs
 obtain⟨K',hle,hin,hv,hfr⟩:=Zcw (R:=TkC) HS.out.isin HS.out.row HS.out.noR (RowX.at TkC.pm hxs)
 have HST:=Zhd (show Kn.Step H w K' wr from⟨Kn.le_trans HS.out.le hle,fun b hb=>(hfr b hb).trans (HS.out.fresh b hb),hin,HS.out.below⟩)
 have HV:=Zhd hv
 clear hv hin hfr hle
 go_wp2_with fail
 go_ret
 exact⟨_,K',rfl,HV.out,HST.out⟩
theorem vls_pair {H:Kn} {l:List Vl} {a1 a2:Option Addr} {n1 n2 c1 c2:Nat} (h1:VlsV H l (.slice a1 n1 c1)) (h2:VlsV H l (.slice a2 n2 c2)) {k:Nat} (hk:k<l.length):
  ∃ b1 f1 b2 f2,a1=some ⟨b1,f1,none⟩∧a2=some ⟨b2,f2,none⟩∧H.cell b1 (f1+k * 2)=some (.int .i64 l[k].kind)∧H.cell b1 (f1+k * 2+1)=some (.int .i64 l[k].n)∧H.cell b2 (f2+k * 2)=some (.int .i64 l[k].kind)∧H.cell b2 (f2+k * 2+1)=some (.int .i64 l[k].n):=by
 obtain⟨b1,f1,e1,x0,x1⟩:=Zdr h1 hk
 obtain⟨b2,f2,e2,y0,y1⟩:=Zdr h2 hk
 exact⟨b1,f1,b2,f2,e1,e2,x0,x1,y0,y1⟩
theorem bls_pair {H:Kn} {l:List Bool} {a1 a2:Option Addr} {n1 n2 c1 c2:Nat} (h1:BlsV H l (.slice a1 n1 c1)) (h2:BlsV H l (.slice a2 n2 c2)) {k:Nat} (hk:k<l.length):
  ∃ b1 f1 b2 f2,a1=some ⟨b1,f1,none⟩∧a2=some ⟨b2,f2,none⟩∧H.cell b1 (f1+k)=some (.bool l[k])∧H.cell b2 (f2+k)=some (.bool l[k]):=by
 obtain⟨b1,f1,e1,_,x0⟩:=SlV.at h1 hk
 obtain⟨b2,f2,e2,_,y0⟩:=SlV.at h2 hk
 have x0:H.cell b1 (f1+k * 1+0)=_:=x0
 have y0:H.cell b2 (f2+k * 1+0)=_:=y0
 simp only [Nat.mul_one,Nat.add_zero] at x0 y0
 exact⟨b1,f1,b2,f2,e1,e2,x0,y0⟩
theorem Zjl (H:Kn) (x:Tk) (o1 k1 o2 k2:Value) (h1:TkV H x o1 k1) (h2:TkV H x o2 k2) (hz:x.out.length≤1000000000∧x.checks.length≤1000000000) (w:World) (hH:H.In w):
  Calls Tryz.prog 27 #[.agg #[o1,.bool x.asrt,.bool x.trap,k1],.agg #[o2,.bool x.asrt,.bool x.trap,k2]] w fun r w'=>r = .returned (.bool true)∧Below w.heap.size w w':=by
 obtain⟨z1,z2⟩:=hz
 obtain⟨xo,xa,xt,xc⟩:=x
 dsimp only at z1 z2 ⊢
 obtain⟨a1,d1,rfl⟩:=h1.outs.len
 obtain⟨a2,d2,rfl⟩:=h2.outs.len
 obtain⟨a3,d3,rfl⟩:=h1.checks.len
 obtain⟨a4,d4,rfl⟩:=h2.checks.len
 dsimp only
 go_enter Tryz.func27,Tryz.ntmps27
 have hb2:Below w.heap.size w ((w.alloc (.cells #[.slice a1 xo.length d1,.bool xa,.bool xt,.slice a3 xc.length d3] 68)).alloc (.cells #[.slice a2 xo.length d2,.bool xa,.bool xt,.slice a4 xc.length d4] 68)):=((Below.refl _ _).alloc (Nat.le_refl _) _).alloc (by simp) _
 have hq1:∀ i,World.cell? ((w.alloc (.cells #[.slice a1 xo.length d1,.bool xa,.bool xt,.slice a3 xc.length d3] 68)).alloc (.cells #[.slice a2 xo.length d2,.bool xa,.bool xt,.slice a4 xc.length d4] 68)) ⟨w.heap.size,i,none⟩=(#[.slice a1 xo.length d1,.bool xa,.bool xt,.slice a3 xc.length d3]:Array Value)[i]?:=fun i=>by simp
 have hq2:∀ i,World.cell? ((w.alloc (.cells #[.slice a1 xo.length d1,.bool xa,.bool xt,.slice a3 xc.length d3] 68)).alloc (.cells #[.slice a2 xo.length d2,.bool xa,.bool xt,.slice a4 xc.length d4] 68)) ⟨w.heap.size+1,i,none⟩=(#[.slice a2 xo.length d2,.bool xa,.bool xt,.slice a4 xc.length d4]:Array Value)[i]?:=fun i=>by simp
 go_wp2_with fail
 generalize (w.alloc (.cells #[.slice a1 xo.length d1,.bool xa,.bool xt,.slice a3 xc.length d3] 68)).alloc (.cells #[.slice a2 xo.length d2,.bool xa,.bool xt,.slice a4 xc.length d4] 68)=W2 at *
 have HB2:=Zhd hb2
 have k10:(Zag W2).cell w.heap.size 0=some (.slice a1 xo.length d1):=by rw [Zad];exact hq1 0
 have k13:(Zag W2).cell w.heap.size 3=some (.slice a3 xc.length d3):=by rw [Zad];exact hq1 3
 have k20:(Zag W2).cell (w.heap.size+1) 0=some (.slice a2 xo.length d2):=by rw [Zad];exact hq2 0
 have k23:(Zag W2).cell (w.heap.size+1) 3=some (.slice a4 xc.length d4):=by rw [Zad];exact hq2 3
 have HIN:=Zhd (Za0 W2)
 have HLE:=Zhd (show H.le (Zag W2) from all_of (hH.below hb2))
 have O1:=Zhd h1.outs
 have O2:=Zhd h2.outs
 have C1:=Zhd h1.checks
 have C2:=Zhd h2.checks
 clear hq1 hq2 hb2 h1 h2
 dsimp only at O1 O2 C1 C2
 go_loopw [5] (fun i wr=>∃ k:Nat,i = .int .i64 k∧k≤xo.length∧Below W2.heap.size W2 wr) (fun i _=>xo.length - (intOf i).toNat)
 case atStart=>exact⟨0,rfl,Nat.zero_le _,Below.refl _ _⟩
 obtain⟨k,rfl,hk,hb⟩:=hrel
 have HB:=Zhd hb
 have HBW:=Zhd (HB2.out.trans (hb.mono HB2.out.size))
 clear hb
 have m1:=(HIN.out.below HB.out).cell k10
 have m2:=(HIN.out.below HB.out).cell k20
 by_cases hkl:k<xo.length
 ·obtain⟨b1,f1,b2,f2,rfl,rfl,x0,x1,y0,y1⟩:=vls_pair O1.out O2.out hkl
  have x0:=HLE.out.cell x0
  have x1:=HLE.out.cell x1
  have y0:=HLE.out.cell y0
  have y1:=HLE.out.cell y1
  have hS:=HIN.out.below HB.out.drew
  generalize xo[k].kind=xk at *
  generalize xo[k].n=xn at *
  go_wp2_with fail
  refine Zae (fun w'=>(Zag W2).In w') (fun _=>True) 99 (by kernel_rfl) ?_
  refine tk2 (i:=0) (v:=?_) rfl hS Ztr ?hy ?_
  case hy=>intro w hSw;obtain⟨z0,z1,z2,z3,z4,z5⟩:=hSw.c6 k10 k20 x0 x1 y0 y1;go_simp<;>with_reducible rfl
  refine Zst ?_
  refine Go.w3 1 ?_
  iterate 10 ((first | (refine tk3 (v:=?_) rfl hS Ztr ?hy ?_;(case hy=>intro w hSw;obtain⟨z0,z1,z2,z3,z4,z5⟩:=hSw.c6 k10 k20 x0 x1 y0 y1;go_simp<;>with_reducible rfl)) | refine sk3 rfl hS Ztr ?_ | refine no3 ?_);refine Zss ?_)
  refine Go.w3e ?_
  refine Zwd ?_
  go_wp2_with fail
  go_roundw
  case rel=>exact⟨k+1,by go_num,by omega,HB.out.drew⟩
  simp [intOf];omega
 obtain rfl:k=xo.length:=by omega
 clear m1 m2
 have m1:=(HIN.out.below HB.out).cell k10
 have m2:=(HIN.out.below HB.out).cell k20
 go_wp2_with fail
 clear m1 m2 O1 O2
 go_loopw [6] (fun i wr=>∃ k:Nat,i = .int .i64 k∧k≤xc.length∧Below W2.heap.size W2 wr) (fun i _=>xc.length - (intOf i).toNat)
 case atStart=>exact⟨0,rfl,Nat.zero_le _,HB.out⟩
 clear HB HBW hk hkl
 obtain⟨k,rfl,hk,hb⟩:=hrel
 have HB:=Zhd hb
 have HBW:=Zhd (HB2.out.trans (hb.mono HB2.out.size))
 clear hb
 have m1:=(HIN.out.below HB.out).cell k13
 have m2:=(HIN.out.below HB.out).cell k23
 by_cases hkl:k<xc.length
 ·obtain⟨b1,f1,b2,f2,rfl,rfl,x0,y0⟩:=bls_pair C1.out C2.out hkl
  have x0:=HLE.out.cell x0
  have y0:=HLE.out.cell y0
  have hS:=HIN.out.below HB.out.drew
  generalize xc[k]=xk at *
  go_wp2_with fail
  refine Zae (fun w'=>(Zag W2).In w') (fun _=>True) 99 (by kernel_rfl) ?_
  refine tk2 (i:=0) (v:=?_) rfl hS Ztr ?hy ?_
  case hy=>intro w hSw;obtain⟨z0,z1,z2,z3⟩:=hSw.c4 k13 k23 x0 y0;go_simp<;>with_reducible rfl
  refine Zst ?_
  refine Go.w3 1 ?_
  iterate 10 ((first | (refine tk3 (v:=?_) rfl hS Ztr ?hy ?_;(case hy=>intro w hSw;obtain⟨z0,z1,z2,z3⟩:=hSw.c4 k13 k23 x0 y0;go_simp<;>with_reducible rfl)) | refine sk3 rfl hS Ztr ?_ | refine no3 ?_);refine Zss ?_)
  refine Go.w3e ?_
  refine Zwd ?_
  go_wp2_with fail
  go_roundw
  case rel=>exact⟨k+1,by go_num,by omega,HB.out.drew⟩
  simp [intOf];omega
 obtain rfl:k=xc.length:=by omega
 go_wp2_with fail
 go_ret
 exact⟨rfl,HBW.out⟩
theorem sameTicks_any (H:Kn) (l:List Tk) (v1 v2:Value) (h1:TksV H l v1) (h2:TksV H l v2) (hz:l.length≤1000000∧∀ x∈l,x.out.length≤1000000000∧x.checks.length≤1000000000) (w:World) (hH:H.In w):
  Calls Tryz.prog 13 #[v1,v2] w fun r w'=>r = .returned (.bool true)∧Below w.heap.size w w':=by
 obtain⟨z1,z2⟩:=hz
 obtain⟨a1,c1,rfl⟩:=h1.len
 obtain⟨a2,c2,rfl⟩:=h2.len
 have H1:=Zhd h1
 have H2:=Zhd h2
 have HZ:=Zhd z2
 clear h1 h2 z2
 go_enter Tryz.func13,Tryz.ntmps13
 go_wp2_with fail
 go_loopw [5] (fun i wr=>∃ k:Nat,i = .int .i64 k∧k≤l.length∧Below w.heap.size w wr) (fun i _=>l.length - (intOf i).toNat)
 case atStart=>exact⟨0,rfl,Nat.zero_le _,Below.refl _ _⟩
 obtain⟨k,rfl,hk,hb⟩:=hrel
 have HB:=Zhd hb
 clear hb
 by_cases hkl:k<l.length
 ·obtain⟨b,off,e1,e2,e3,e4,rfl,d0,d1,d2,d3,hx⟩:=H1.out.at hkl
  obtain⟨b',off',e1',e2',e3',e4',rfl,d0',d1',d2',d3',hx'⟩:=H2.out.at hkl
  obtain⟨zo,zc⟩:=HZ.out _ (List.getElem_mem hkl)
  have HX:=Zhd hx
  have HX':=Zhd hx'
  clear hx hx'
  generalize l[k]=x at *
  have hS:=hH.below HB.out.drew
  go_wp2_with fail
  refine Zae (fun w'=>H.In w') (fun _=>True) 99 (by kernel_rfl) ?_
  refine tk2 (i:=0) (v:=?_) rfl hS Ztr ?hy ?_
  case hy=>exact mNt1
  refine Zst ?_
  refine Go.w3 1 ?_
  iterate 7 ((first | (refine tk3 (v:=?_) rfl hS Ztr ?hy ?_;(case hy=>intro w hSw;obtain⟨z0,z1,z2,z3,z4,z5,z6,z7⟩:=hSw.c8 d0 d1 d2 d3 d0' d1' d2' d3';go_simp<;>with_reducible rfl)) | refine sk3 rfl hS Ztr ?_ | refine no3 ?_);refine Zss ?_)
  refine Go.w3e ?_
  refine Zwo 8 rfl fun K_ hK=>?_
  go_simp
  go_at_call 27
  refine (Zjl H x _ _ _ _ HX.out HX'.out ⟨zo,zc⟩ _ hS).mono ?_
  rintro r5 w5 ⟨rfl,hb5⟩
  have hS5:=hS.below hb5
  refine hK.out _ _ (hS5) Ztr ?_
  clear hK K_
  refine Zst ?_
  refine tk2 (i:=9) (v:=?_) rfl hS5 Ztr ?hy ?_
  case hy=>exact mNt1
  refine Zst ?_
  refine Zwd ?_
  have HB5:=Zhd (HB.out.drew.trans (hb5.mono (by have:=HB.out.drew.size;omega)))
  go_wp2_with fail
  go_roundw
  case rel=>exact⟨k+1,by go_num,by omega,HB5.out⟩
  simp [intOf];omega
 obtain rfl:k=l.length:=by omega
 go_wp2_with fail
 go_ret
 exact⟨rfl,HB.out⟩
theorem in_big (H:Kn) (l:List (List Vl)) (v:Value) (hv:InsV H l v) (hz:l.length≤100000000∧∀ x∈l,x.length≤100000000) (w:World) (hH:H.In w):
  Calls Tryz.prog 10 #[v] w fun r w'=>∃ v' K,r = .returned v'∧InsV K l v'∧Kn.Step H w K w':=by
 obtain⟨a,cap,rfl⟩:=hv.len
 have HU:=Zhd hv
 obtain⟨z1,z2⟩:=hz
 have HZ:=Zhd z2
 clear hv z2
 go_enter Tryz.func10,Tryz.ntmps10
 go_wp2_with fail
 have HS0:=Zhd (show RwO 57 1 IsX H w w w.heap.size l 0 (.slice none 0 0) [] H from
  ⟨Kn.le_refl H,fun _ _=>rfl,hH,Below.refl _ _,Nat.le_refl _,World.ownsRow_nil _ _ _ _,RowX.nil,fun g hg=>by simp [Value.ownBlock] at hg⟩)
 go_loopw [3,4] (fun u i wr=>∃ (k:Nat) (xs:List Value) (K:Kn),i = .int .i64 k∧k≤l.length∧RwO 57 1 IsX H w wr w.heap.size l k u xs K) (fun _ i _=>l.length - (intOf i).toNat)
 case atStart=>exact⟨0,_,_,rfl,Nat.zero_le _,HS0.out⟩
 obtain⟨k,xs,K,rfl,hk,hS⟩:=hrel
 have HS:=Zhd hS
 obtain⟨au,cu,rfl,_⟩:=Zas hS.row
 clear hS
 by_cases hkl:k<l.length
 ·obtain⟨b,off,a2,c2,haf,c0,hx⟩:=HU.out.at hkl
  subst haf
  have hlx:=HZ.out _ (List.getElem_mem hkl)
  have c0:=HS.out.isin.cell (HS.out.le.cell c0)
  have hx:=SlV.le hx HS.out.le VlC.mono
  have HT:=Zhd (Zdt l k hkl)
  generalize l[k]=x at *
  obtain⟨v',W2,K2,hrun,hst,hv2⟩:=run_append_vls HS.out.isin hx (by omega)
  obtain⟨a3,c3,rfl⟩:=hv2.len
  have HS2:=Zhd ((RwO.next (RowX.mono IsC.pm) HS.out hst).alloc (.cells #[.slice a3 x.length c3] 57))
  have HU2:=Zhd hv2
  clear hst hv2 hx
  go_wp2_with (at_builtin;first | refine Zbj rfl _ _ _ _ rfl _ _ rfl rfl _ _ hrun ?_ | (clear hrun;refine Zj7 28 57 1 24 _ Tryz.underlying28 Tryz.infoIs rfl (by decide) _ _ rfl rfl w.heap.size _ _ _ rfl HS2.out.row ⟨W2.heap.size,0,none⟩ 1 [.slice a3 x.length c3] rfl rfl ?c1 ?c2 ?c3 ?c4 ?c5 ?_))
  case c1=>exact cells1 _ _ _
  case c2=>simp [Value.oneCell']
  case c3=>omega
  case c4=>omega
  case c5=>exact HS2.out.size
  intro g cap' w3 ho hg3 hat
  have HS3:=Zhd (RwO.step (n':=1) HS2.out (by rw [HT.out];exact RowX.snoc IsC.pm HS2.out.xs rfl ⟨_,rfl,HU2.out⟩) ho hg3 (by rw [World.size_alloc];exact hat))
  go_wp2_with fail
  go_roundw
  case rel=>exact⟨k+1,_,K2,by go_num,by omega,HS3.out⟩
  simp [intOf];omega
 obtain rfl:k=l.length:=by omega
 have hxs:IsX K (List.take l.length l) xs:=HS.out.xs
 rw [List.take_of_length_le (Nat.le_refl _)] at hxs
 obtain⟨K',hle,hin,hv,hfr⟩:=Zcw (R:=IsC) HS.out.isin HS.out.row HS.out.noR (RowX.at IsC.pm hxs)
 have HST:=Zhd (show Kn.Step H w K' wr from⟨Kn.le_trans HS.out.le hle,fun b hb=>(hfr b hb).trans (HS.out.fresh b hb),hin,HS.out.below⟩)
 have HV:=Zhd hv
 clear hv hin hfr hle
 go_wp2_with fail
 go_ret
 exact⟨_,K',rfl,HV.out,HST.out⟩
theorem in_any (H:Kn) (l:List (List Vl)) (v:Value) (hv:InsV H l v) (hz:l.length≤1000000∧∀ x∈l,x.length≤1000000) (w:World) (hH:H.In w):
  Calls Tryz.prog 10 #[v] w fun r w'=>∃ v' K,r = .returned v'∧InsV K l v'∧Kn.Step H w K w':=
 in_big H l v hv ⟨Nat.le_trans hz.1 (by decide),fun x hx=>Nat.le_trans (hz.2 x hx) (by decide)⟩ w hH
theorem outsGo_nd {fl:List ByteArray}:∀ (l seen:List ByteArray),Zb3 fl seen l=true→l.Nodup∧∀ s∈l,s∈fl∧s∉seen
 | [],_,_=>⟨List.nodup_nil,fun s h=>by cases h⟩
 | x :: l,seen,h=>by
  simp only [Zb3,Bool.and_eq_true,List.contains_eq_mem,decide_eq_true_eq,Bool.not_eq_true',decide_eq_false_iff_not] at h
  obtain⟨g1,g2⟩:=outsGo_nd l _ h.2
  refine⟨List.nodup_cons.2 ⟨fun hx=>(g2 x hx).2 (by simp),g1⟩,fun s hs=>?_⟩
  rcases List.mem_cons.1 hs with rfl | hs
  ·exact⟨h.1.1,h.1.2⟩
  exact⟨(g2 s hs).1,fun hn=>(g2 s hs).2 (by simp [hn])⟩
theorem idx_nd {fl:List ByteArray}:∀ (l:List ByteArray),l.Nodup→(∀ s∈l,s∈fl)→(l.map fl.idxOf).Nodup
 | [],_,_=>List.nodup_nil
 | x :: l,h,hs=>by
  rw [List.nodup_cons] at h
  rw [List.map_cons,List.nodup_cons]
  refine⟨fun hm=>?_,idx_nd l h.2 fun s q=>hs s (List.mem_cons_of_mem _ q)⟩
  obtain⟨y,hy,e⟩:=List.mem_map.1 hm
  have h1:=List.idxOf_lt_length_of_mem (hs x (List.mem_cons_self ..))
  have h2:=List.idxOf_lt_length_of_mem (hs y (List.mem_cons_of_mem _ hy))
  have e1:fl[fl.idxOf x]=x:=List.getElem_idxOf h1
  have e2:fl[fl.idxOf y]=y:=List.getElem_idxOf h2
  have:x=y:=by
   rw [← e1,← e2]
   simp only [e]
  exact h.1 (this▸hy)
theorem outs_few {p:Pr} (h:(Za2 p).1=0):p.outs.length≤p.fl.length:=by
 obtain⟨l,ho,_⟩:=Zhu h
 obtain⟨ks,_,hout,_⟩:=Zb4 (Zbk ho).1
 obtain⟨h1,h2⟩:=outsGo_nd _ _ hout
 have:=Zhz p.fl.length (p.outs.map (p.fl.map (·.name)).idxOf) (idx_nd _ h1 fun s hs=>(h2 s hs).1) fun i hi=>by
  obtain⟨s,hs,rfl⟩:=List.mem_map.1 hi
  have:=List.idxOf_lt_length_of_mem (h2 s hs).1
  simpa using this
 simpa using this
theorem code_any (sp:Nat→Addr) (c:Nat) (a:Int) (v:Value) (w:World) (hv:ErrW sp w c a v) (hc:c≤9) (h0:a ≠ -1→1≤c) (S:Zji w sp) (hE:Za3 w):
  Calls Tryz.prog 41 #[v] w fun e w'=>e = .returned (.tuple #[.int .i64 c,.int .i64 a])∧Below w.heap.size w w':=by
 rcases hv with ⟨rfl,rfl⟩ | ⟨ha,N,rfl,hN⟩
 ·cases c with
  | zero=>exact (code_nil w).mono fun e w' ⟨h1,h2⟩=>⟨h1,by subst h2;exact Below.refl _ _⟩
  | succ c=>
   refine (code_sent sp c (by omega) w S hE).mono fun e w' ⟨h1,h2⟩=>⟨?_,h2⟩
   rw [h1];simp
 have h1:=h0 ha
 have n0:w.cell? ⟨N,0,none⟩=some (.int .i64 a):=by simp [World.cell?,hN]
 have n1:w.cell? ⟨N,1,none⟩=some (esv (sp (c - 1))):=by simp [World.cell?,hN]
 refine (code_fault sp (c - 1) (by omega) N a w n0 n1 S hE).mono fun e w' ⟨h1',h2⟩=>⟨?_,h2⟩
 rw [h1']
 have:((c - 1:Nat):Int)+1=c:=by omega
 rw [this]
theorem faulted_any (sp:Nat→Addr) (c:Nat) (a:Int) (v:Value) (w:World) (hv:ErrW sp w c a v) (hc:c≤9) (h0:a ≠ -1→1≤c) (S:Zji w sp) (hE:Za3 w) (c' a':Int):
  Calls Tryz.prog 12 #[v,.agg #[.int .i64 c',.int .i64 a']] w fun e w'=>e = .returned (.bool (decide ((c:Int)=c')&&(decide ((c:Int)=0) || decide (a=a'))))∧Below w.heap.size w w':=by
 have hb0:Below w.heap.size w (w.alloc (.cells #[.int .i64 c',.int .i64 a'] 45)):=(Below.refl _ _).alloc (Nat.le_refl _) _
 have HB0:=Zhd hb0
 have HV:=Zhd (hv.below hb0)
 have S0:=S.below hb0
 have hbig:=S.big
 have HE0:=Zhd (show Za3 (w.alloc (.cells #[.int .i64 c',.int .i64 a'] 45)) from by unfold Za3;rw [World.cell?_alloc_past _ _ _ (by omega)];exact hE)
 clear hv hb0 S hE
 go_enter Tryz.func12,Tryz.ntmps12
 go_wp2_with fail
 refine (code_any sp c a v _ HV.out hc h0 S0 HE0.out).mono ?_
 rintro r w1 ⟨rfl,hb1⟩
 have HB:=Zhd (HB0.out.trans (hb1.mono (by simp)))
 have q0:w1.cell? ⟨w.heap.size,0,none⟩=some (.int .i64 c'):=by rw [hb1.cell (p:=⟨w.heap.size,0,none⟩) (by simp),World.cell?_alloc_new];rfl
 have q1:w1.cell? ⟨w.heap.size,1,none⟩=some (.int .i64 a'):=by rw [hb1.cell (p:=⟨w.heap.size,1,none⟩) (by simp),World.cell?_alloc_new];rfl
 clear hb1 HV HE0 S0
 by_cases h1:(c:Int)=c'
 ·subst h1
  by_cases h2:(c:Int)=0
  ·go_wp2_with fail
   go_ret
   exact⟨Za4 (by simp [h2]),HB.out⟩
  by_cases h3:a=a'
  ·go_wp2_with fail
   go_ret
   exact⟨Za4 (by simp [h2,h3]<;>omega),HB.out⟩
  go_wp2_with fail
  go_ret
  exact⟨Za4 (by simp [h2,h3]<;>omega),HB.out⟩
 go_wp2_with fail
 go_ret
 exact⟨Za4 (by simp [h1]),HB.out⟩
theorem checkFlat_le (p:Pr):Zaj p≤9:=by
 unfold Zaj
 repeat' split
 all_goals omega
theorem orderM_err {p:Pr} {x:Nat×Int} (h:Zbf p = .error x):1≤x.1∧x.1≤9:=by
 unfold Zbf at h
 split at h
 ·cases h;exact⟨by show 1≤Zaj p;omega,checkFlat_le p⟩
 split at h
 ·cases h;exact⟨by simp,by simp⟩
 cases h
theorem checkM_le (p:Pr):(Za2 p).1≤9∧((Za2 p).2 ≠ -1→1≤(Za2 p).1):=by
 unfold Za2 Zer
 cases h:Zbf p with
 | error x=>exact⟨(orderM_err h).2,fun _=>(orderM_err h).1⟩
 | ok l=>
  dsimp only
  split
  ·exact⟨by simp,fun _=>by simp⟩
  split<;>simp
theorem Zi9 {w w':World} (h:Za3 w) (hb:Below w.heap.size w w'):Za3 w':=by
 unfold Za3 at h ⊢
 rw [hb.cell (p:=⟨9,0,none⟩) (World.block_lt_of_cell? w _ h)]
 exact h
open Go.ChangeShapes Go.WideShapes Go.ChangeAt Go.RowKit Go.Deep Mx
open Go.Joins (trod_struct4)
theorem Zik {H:Type} (d:DataW H):1≤Rows.uptoBulk d:=by
 cases d with
 | lit l=>cases l<;>simp [Rows.uptoBulk]
 | nil=>simp [Rows.uptoBulk]
 | ptr d=>simp [Rows.uptoBulk]
 | slice elems spare=>simp [Rows.uptoBulk]
 | agg parts=>simp [Rows.uptoBulk]
 | iface t d=>simp [Rows.uptoBulk]
 | map entries=>simp [Rows.uptoBulk]
 | held h=>simp [Rows.uptoBulk]
theorem bulk_part {H:Type} {d:DataW H} {l:List (DataW H)} (h:d∈l):Rows.uptoBulk d≤Rows.uptoBulkAll l:=by
 induction l with
 | nil=>cases h
 | cons x r ih=>
  simp only [Rows.uptoBulkAll]
  rcases List.mem_cons.1 h with e | e
  ·subst e;omega
  have:=ih e;omega
theorem bulk_sum {H α:Type} (f:Nat→α) (wt:α→Nat) (D:Nat→DataW H):∀ L:List Nat,(∀ i∈L,wt (f i)≤Rows.uptoBulk (D i))→((L.map f).map wt).sum≤Rows.uptoBulkAll (L.map D)
 | [],_=>by simp
 | i :: L,h=>by
  have h1:=h i (List.mem_cons_self ..)
  have h2:=bulk_sum f wt D L fun j hj=>h j (List.mem_cons_of_mem _ hj)
  simp only [List.map_cons,List.sum_cons,Rows.uptoBulkAll]
  omega
theorem rd_add (b off j:Nat):(⟨b,off,none⟩:Addr).add j=⟨b,off+j,none⟩:=by unfold Addr.add;split<;>simp_all
theorem Zjy {H:Kn}:∀ {l:List Ex} {b off:Nat},(∀ i (h:i<l.length),ExAt H l[i] (fun j=>H.cell b (off+i * 4+j)))→Zd3 H l b off
 | [],_,_,_=>by simp only [Zd3]
 | e :: l,b,off,h=>by
  simp only [Zd3]
  refine⟨by have h0:=h 0 (by simp);simp only [Nat.zero_mul,Nat.add_zero] at h0;exact h0,Zjy fun i hi=>?_⟩
  have:=h (i+1) (by simpa using hi)
  rw [show off+4+i * 4=off+(i+1) * 4 from by omega]
  exact this
theorem Zi7 {H:Kn} {l:List Ex} {v:Value} (h:SlV H 4 (ExAt H) l v):ExsV H l v:=
 h.imp id fun⟨b,off,cap,h1,h2,h3,h4⟩=>⟨b,off,cap,h1,h2,h3,Zjy h4⟩
theorem Ziq:∀ l:List Ex,(l.map Ex.weight).sum=Ex.weightL l
 | []=>rfl
 | e :: l=>by simp only [List.map_cons,List.sum_cons,Ex.weightL,Ziq l]
theorem sum_weightF:∀ l:List Fl,(l.map fun x=>x.e.weight).sum=Ex.weightL (l.map (·.e))
 | []=>rfl
 | e :: l=>by simp only [List.map_cons,List.sum_cons,Ex.weightL,sum_weightF l]
theorem Zj9 {α:Type}:∀ l:List α,(l.map fun _=>1).sum=l.length
 | []=>rfl
 | e :: l=>by simp only [List.map_cons,List.sum_cons,List.length_cons,Zj9 l];omega
instance:Inhabited Ex:=⟨.mk ⟨#[]⟩ 0 ⟨#[]⟩ []⟩
instance:Inhabited Vr:=⟨⟨⟨#[]⟩,0⟩⟩
instance:Inhabited Fl:=⟨⟨⟨#[]⟩,0,default⟩⟩
section
variable {H : Type} {enc : TypeId × Value → H} {W : World} {spare : Nat → Bool} {held : Bool}
theorem Zc9 {α:Type} [Inhabited α] {t e:TypeId} {k:Nat} (ht:Tryz.prog.underlying t=some (.slice e)) (hk:Tryz.prog.cellsOf e=k) (h0:0<k) (R:α→(Nat→Option Value)→Prop) (hR:∀ x f g,(∀ j u,f j=some u→g j=some u)→R x f→R x g) (hS:∀ x f,R x f→∀ (a:Addr) (W:World),W.cell? a=f 0→a.spot=none) (wt:α→Nat) (B:Nat)
  (hel:∀ n cs (y:DataW H×List MemPlace),DataW.trod enc Tryz.prog W 0 spare held n e cs=some y→Rows.uptoBulk y.1<B→∃ x,R x (fun j=>cs[j]?)∧wt x≤Rows.uptoBulk y.1)
  {n:Nat} {cs:List Value} {y:DataW H×List MemPlace} (h:DataW.trod enc Tryz.prog W 0 spare held n t cs=some y) (hB:Rows.uptoBulk y.1≤B):
  ∃ l v,cs=[v]∧SlV (Zag W) k R l v∧(l.map wt).sum<Rows.uptoBulk y.1:=by
 rcases open_slice ht h with ⟨rfl,rfl⟩ | ⟨a,len,cap,m,n,D,Pl,rfl,hb,hlc,hcm,hm,rfl,hx⟩
 ·exact⟨[],_,rfl,.inl ⟨rfl,_,_,rfl⟩,by simp [Rows.uptoBulk]⟩
 have hlm:len≤m:=by rw [hm];split<;>omega
 rw [hk] at hx
 have hBd:Rows.uptoBulk (DataW.slice ((List.range len).map D) ((List.range (m - len)).map fun j=>D (len+j)))=Rows.uptoBulkAll ((List.range len).map D)+Rows.uptoBulkAll ((List.range (m - len)).map fun j=>D (len+j))+1:=by simp only [Rows.uptoBulk]
 dsimp only at hB ⊢
 rw [hBd] at hB ⊢
 obtain⟨f,hf⟩:=choose_lt (p:=fun i (x:α)=>(∃ cs',W.cells? 0 (a.add (i * k)) k=some cs'∧R x (fun j=>cs'[j]?))∧wt x≤Rows.uptoBulk (D i)) (n:=len) (fun i hi=>by
  obtain⟨cs',h1,h2⟩:=hx i (by omega)
  have hp:=bulk_part (d:=D i) (l:=(List.range len).map D) (List.mem_map.2 ⟨i,List.mem_range.2 hi,rfl⟩)
  obtain⟨x,hr,hw⟩:=hel _ _ _ h2 (by dsimp only;omega)
  exact⟨x,⟨cs',h1,hr⟩,hw⟩)
 have hsum:=bulk_sum f wt D (List.range len) fun i hi=>(hf i (List.mem_range.1 hi)).2
 refine⟨(List.range len).map f,_,rfl,?_,by omega⟩
 by_cases hl0:len=0
 ·subst hl0
  exact .inl ⟨rfl,_,_,rfl⟩
 have hsp:a.spot=none:=by
  obtain⟨cs',h1,hr⟩:=(hf 0 (by omega)).1
  obtain⟨_,_,hc⟩:=World.cells?_some h1
  have h2:=hc 0 h0
  have e0:(a.add (0 * k)).add 0=a:=by simp [Addr.add]
  rw [e0] at h2
  exact hS _ _ hr a W h2
 obtain⟨b,off,sp⟩:=a
 dsimp only at hsp
 subst hsp
 refine .inr ⟨b,off,cap,by simp,by simpa using hlc,hcm,fun i hi=>?_⟩
 have hi':i<len:=by simpa using hi
 obtain⟨cs',h1,hr⟩:=(hf i hi').1
 obtain⟨_,hlen,hc⟩:=World.cells?_some h1
 rw [show ((List.range len).map f)[i]=f i from by simp]
 refine hR _ _ _ (fun j u hju=>?_) hr
 have hj:j<k:=by
  rcases Nat.lt_or_ge j cs'.length with hlt | hge
  ·omega
  rw [List.getElem?_eq_none hge] at hju;cases hju
 have h2:=hc j hj
 rw [hju,rd_add,rd_add] at h2
 rw [Zad]
 exact h2
theorem Zkf:Tryz.prog.cellsOf 9=1:=by kernel_rfl
theorem Zij:Tryz.prog.cellsOf 3=1:=by kernel_rfl
theorem cellsEx:Tryz.prog.cellsOf 79=4:=by kernel_rfl
theorem cellsVr:Tryz.prog.cellsOf 118=2:=by kernel_rfl
theorem cellsFl:Tryz.prog.cellsOf 95=6:=by kernel_rfl
theorem cellsExs:Tryz.prog.cellsOf 25=1:=by kernel_rfl
theorem cellsVrs:Tryz.prog.cellsOf 22=1:=by kernel_rfl
theorem cellsFls:Tryz.prog.cellsOf 24=1:=by kernel_rfl
theorem cellsStrs:Tryz.prog.cellsOf 23=1:=by kernel_rfl
theorem cellsPr:Tryz.prog.cellsOf 27=5:=by kernel_rfl
theorem read_ex:∀ (B n:Nat) (cs:List Value) (y:DataW H×List MemPlace),DataW.trod enc Tryz.prog W 0 spare held n 79 cs=some y→Rows.uptoBulk y.1≤B→∃ e:Ex,ExAt (Zag W) e (fun j=>cs[j]?)∧e.weight≤Rows.uptoBulk y.1:=by
 intro B
 induction B with
 | zero=>intro n cs y _ hB;have:=Zik y.1;omega
 | succ B ih=>
  intro n cs y h hB
  obtain⟨y0,y1,y2,y3,m,rfl,hl,h0,h1,h2,h3⟩:=trod_struct4 Tryz.underlying79 h
  rw [cellsEx] at hl
  match cs,hl with
  | [a,b,c,d],_=>
   dsimp only at h0 h1 h2 h3 hB
   rw [Zkf] at h0 h2
   rw [Zij] at h1
   rw [cellsExs] at h3
   obtain⟨s0,e0,f0,_⟩:=DataW.trod_string Tryz.underlying9 h0
   obtain⟨k,e1,f1,_⟩:=DataW.trod_int Tryz.underlying3 h1
   obtain⟨s2,e2,f2,_⟩:=DataW.trod_string Tryz.underlying9 h2
   have e0' : [a]=[Value.string s0]:=e0
   have e1' : [b]=[Value.int .i64 k]:=e1
   have e2' : [c]=[Value.string s2]:=e2
   cases e0'
   cases e1'
   cases e2'
   simp only [Rows.uptoBulk,Rows.uptoBulkAll] at hB
   obtain⟨l,v,e3,hs,hw⟩:=Zc9 Tryz.underlying25 cellsEx (by omega) (ExAt (Zag W)) (fun x f g hfg hx=>ExAt.le (fun _ _ q=>q) x f g hfg hx) (fun x f hx a W h=>by obtain⟨u,q,_⟩:=hx.cells;exact Zfb (h.trans q)) Ex.weight B (fun n cs y hy hlt=>ih n cs y hy (by omega)) h3 (by omega)
   have e3' : [d]=[v]:=e3
   cases e3'
   refine⟨.mk s0 k s2 l,ExAt.mk rfl rfl rfl rfl (Zi7 hs),?_⟩
   rw [Ziq] at hw
   rw [f2]
   have hsz:s2.data.toList.length=s2.size:=by rw [Array.length_toList];rfl
   simp only [Rows.uptoBulk,Rows.uptoBulkAll,Ex.weight]
   omega
theorem read_vr (n:Nat) (cs:List Value) (y:DataW H×List MemPlace) (h:DataW.trod enc Tryz.prog W 0 spare held n 118 cs=some y):∃ x:Vr,VrC x (fun j=>cs[j]?)∧1≤Rows.uptoBulk y.1:=by
 obtain⟨y0,y1,m,rfl,hl,h0,h1⟩:=trod_struct2 Tryz.underlying118 h
 rw [cellsVr] at hl
 match cs,hl with
 | [a,b],_=>
  dsimp only at h0 h1
  rw [Zkf] at h0
  rw [Zij] at h1
  obtain⟨s0,e0,f0,_⟩:=DataW.trod_string Tryz.underlying9 h0
  obtain⟨k,e1,f1,_⟩:=DataW.trod_int Tryz.underlying3 h1
  have e0' : [a]=[Value.string s0]:=e0
  have e1' : [b]=[Value.int .i64 k]:=e1
  cases e0'
  cases e1'
  exact⟨⟨s0,k⟩,⟨rfl,rfl⟩,Zik _⟩
theorem read_fl (n:Nat) (cs:List Value) (y:DataW H×List MemPlace) (h:DataW.trod enc Tryz.prog W 0 spare held n 95 cs=some y):∃ x:Fl,FlC (Zag W) x (fun j=>cs[j]?)∧x.e.weight≤Rows.uptoBulk y.1:=by
 obtain⟨y0,y1,y2,m,rfl,hl,h0,h1,h2⟩:=trod_struct3 Tryz.underlying95 h
 rw [cellsFl] at hl
 match cs,hl with
 | [a,b,c,d,e,f],_=>
  dsimp only at h0 h1 h2
  rw [Zkf] at h0
  rw [Zij] at h1
  rw [cellsEx] at h2
  obtain⟨s0,e0,f0,_⟩:=DataW.trod_string Tryz.underlying9 h0
  obtain⟨k,e1,f1,_⟩:=DataW.trod_int Tryz.underlying3 h1
  have e0' : [a]=[Value.string s0]:=e0
  have e1' : [b]=[Value.int .i64 k]:=e1
  cases e0'
  cases e1'
  obtain⟨x,hx,hw⟩:=read_ex _ _ _ _ h2 (Nat.le_refl _)
  refine⟨⟨s0,k,x⟩,⟨rfl,rfl,ExAt.le (fun _ _ q=>q) _ _ _ (fun j u hj=>?_) hx⟩,?_⟩
  ·match j,hj with
   | 0,hj=>exact hj
   | 1,hj=>exact hj
   | 2,hj=>exact hj
   | 3,hj=>exact hj
  simp only [Rows.uptoBulk,Rows.uptoBulkAll]
  omega
theorem trod_struct5 {t:TypeId} {f0 f1 f2 f3 f4:Field} {fuel:Nat} {cs:List Value} {x:DataW H×List MemPlace} (ht:Tryz.prog.underlying t=some (.struct #[f0,f1,f2,f3,f4])) (h:DataW.trod enc Tryz.prog W 0 spare held fuel t cs=some x):
  ∃ y0 y1 y2 y3 y4 n,x.1 = .agg [y0.1,y1.1,y2.1,y3.1,y4.1]∧cs.length=Tryz.prog.cellsOf t∧DataW.trod enc Tryz.prog W 0 spare held n f0.type ((cs.drop f0.offset).take (Tryz.prog.cellsOf f0.type))=some y0∧
   DataW.trod enc Tryz.prog W 0 spare held n f1.type ((cs.drop f1.offset).take (Tryz.prog.cellsOf f1.type))=some y1∧DataW.trod enc Tryz.prog W 0 spare held n f2.type ((cs.drop f2.offset).take (Tryz.prog.cellsOf f2.type))=some y2∧
   DataW.trod enc Tryz.prog W 0 spare held n f3.type ((cs.drop f3.offset).take (Tryz.prog.cellsOf f3.type))=some y3∧DataW.trod enc Tryz.prog W 0 spare held n f4.type ((cs.drop f4.offset).take (Tryz.prog.cellsOf f4.type))=some y4:=by
 obtain⟨xs,n,_,rfl,hl,hlen,hf⟩:=DataW.trod_struct ht h
 match xs,hlen with
 | [y0,y1,y2,y3,y4],_=>exact⟨y0,y1,y2,y3,y4,n,by simp,hl,by simpa using hf 0 f0 rfl,by simpa using hf 1 f1 rfl,by simpa using hf 2 f2 rfl,by simpa using hf 3 f3 rfl,by simpa using hf 4 f4 rfl⟩
theorem read_prog {r:Reach} {b0:Nat} {v:Value} {d:DataW H} {ps:List MemPlace} (hval:Value.okWide Tryz.prog W r b0 27 v) (h:DataW.Trod enc Tryz.prog W 0 spare held 27 v d ps) {B:Nat} (hk:Rows.uptoBulk d≤B):
  ∃ p vi vo vl va vc,v = .agg #[vi,vo,vl,va,vc]∧PrP (Zag W) p vi vo vl va vc∧p.ins.length≤B∧p.outs.length≤B∧Ex.weightL p.terms≤B:=by
 obtain⟨cs,rfl,hsz⟩:=okWide_struct Tryz.underlying27 hval
 rw [cellsPr] at hsz
 obtain⟨fuel,hf⟩:=h
 obtain⟨cs⟩:=cs
 match cs,hsz with
 | [vi,vo,vl,va,vc],_=>
  have hf':DataW.trod enc Tryz.prog W 0 spare held fuel 27 [vi,vo,vl,va,vc]=some (d,ps):=hf
  obtain⟨y0,y1,y2,y3,y4,m,hd,_,h0,h1,h2,h3,h4⟩:=trod_struct5 Tryz.underlying27 hf'
  dsimp only at hd h0 h1 h2 h3 h4
  subst hd
  rw [cellsVrs] at h0
  rw [cellsStrs] at h1
  rw [cellsFls] at h2
  rw [cellsExs] at h3 h4
  have hle:∀ x:Ex,∀ f g,(∀ j u,f j=some u→g j=some u)→ExAt (Zag W) x f→ExAt (Zag W) x g:=fun x f g hfg hx=>ExAt.le (fun _ _ q=>q) x f g hfg hx
  have hst:∀ (x:Ex) f,ExAt (Zag W) x f→∀ (a:Addr) (W:World),W.cell? a=f 0→a.spot=none:=fun x f hx a W h=>by obtain⟨u,q,_⟩:=hx.cells;exact Zfb (h.trans q)
  obtain⟨li,ui,e0,s0,w0⟩:=Zc9 Tryz.underlying22 cellsVr (by omega) VrC VrC.mono (fun x f hx a W h=>Zfb (h.trans hx.1)) (fun _=>1) _ (fun n cs y hy _=>read_vr n cs y hy) h0 (Nat.le_refl _)
  obtain⟨lo,uo,e1,s1,w1⟩:=Zc9 Tryz.underlying23 Zkf (by omega) StrC StrC.mono (fun x f hx a W h=>Zfb (h.trans hx)) (fun _=>1) _ (fun n cs y hy _=>by
   obtain⟨s,e,_⟩:=DataW.trod_string Tryz.underlying9 hy
   subst e
   exact⟨s,rfl,Zik _⟩) h1 (Nat.le_refl _)
  obtain⟨ll,ul,e2,s2,w2⟩:=Zc9 Tryz.underlying24 cellsFl (by omega) (FlC (Zag W)) (FlC.mono (fun _ _ q=>q)) (fun x f hx a W h=>Zfb (h.trans hx.1)) (fun x=>x.e.weight) _ (fun n cs y hy _=>read_fl n cs y hy) h2 (Nat.le_refl _)
  obtain⟨la,ua,e3,s3,w3⟩:=Zc9 Tryz.underlying25 cellsEx (by omega) (ExAt (Zag W)) hle hst Ex.weight _ (fun n cs y hy _=>read_ex _ n cs y hy (Nat.le_refl _)) h3 (Nat.le_refl _)
  obtain⟨lc,uc,e4,s4,w4⟩:=Zc9 Tryz.underlying25 cellsEx (by omega) (ExAt (Zag W)) hle hst Ex.weight _ (fun n cs y hy _=>read_ex _ n cs y hy (Nat.le_refl _)) h4 (Nat.le_refl _)
  have e0' : [vi]=[ui]:=e0
  have e1' : [vo]=[uo]:=e1
  have e2' : [vl]=[ul]:=e2
  have e3' : [va]=[ua]:=e3
  have e4' : [vc]=[uc]:=e4
  cases e0'
  cases e1'
  cases e2'
  cases e3'
  cases e4'
  rw [Zj9] at w0 w1
  rw [sum_weightF] at w2
  rw [Ziq] at w3 w4
  simp only [Rows.uptoBulk,Rows.uptoBulkAll] at hk
  refine⟨⟨li,lo,ll,la,lc⟩,vi,vo,vl,va,vc,rfl,⟨s0,s1,s2,Zi7 s3,Zi7 s4⟩,by dsimp only;omega,by dsimp only;omega,?_⟩
  simp only [Pr.terms,Zg4]
  omega
end
instance:Inhabited Vl:=⟨⟨0,0⟩⟩
section
variable {H : Type} {enc : TypeId × Value → H} {W : World} {spare : Nat → Bool} {held : Bool}
theorem cellsVl:Tryz.prog.cellsOf 75=2:=by kernel_rfl
theorem cellsVls:Tryz.prog.cellsOf 57=1:=by kernel_rfl
theorem read_vl (n:Nat) (cs:List Value) (y:DataW H×List MemPlace) (h:DataW.trod enc Tryz.prog W 0 spare held n 75 cs=some y):∃ x:Vl,VlC x (fun j=>cs[j]?)∧1≤Rows.uptoBulk y.1:=by
 obtain⟨y0,y1,m,rfl,hl,h0,h1⟩:=trod_struct2 Tryz.underlying75 h
 rw [cellsVl] at hl
 match cs,hl with
 | [a,b],_=>
  dsimp only at h0 h1
  rw [Zij] at h0 h1
  obtain⟨k0,e0,f0,_⟩:=DataW.trod_int Tryz.underlying3 h0
  obtain⟨k1,e1,f1,_⟩:=DataW.trod_int Tryz.underlying3 h1
  have e0' : [a]=[Value.int .i64 k0]:=e0
  have e1' : [b]=[Value.int .i64 k1]:=e1
  cases e0'
  cases e1'
  exact⟨⟨k0,k1⟩,⟨rfl,rfl⟩,Zik _⟩
theorem read_vls (n:Nat) (cs:List Value) (y:DataW H×List MemPlace) (h:DataW.trod enc Tryz.prog W 0 spare held n 57 cs=some y):∃ l v,cs=[v]∧VlsV (Zag W) l v∧l.length<Rows.uptoBulk y.1:=by
 obtain⟨l,v,e,hs,hw⟩:=Zc9 Tryz.underlying57 cellsVl (by omega) VlC VlC.mono (fun x f hx a W h=>cell_spot (h.trans hx.1)) (fun _=>1) _ (fun n cs y hy _=>read_vl n cs y hy) h (Nat.le_refl _)
 rw [Zj9] at hw
 exact⟨l,v,e,hs,hw⟩
theorem read_ins (n:Nat) (cs:List Value) (y:DataW H×List MemPlace) (h:DataW.trod enc Tryz.prog W 0 spare held n 28 cs=some y):∃ l v,cs=[v]∧InsV (Zag W) l v∧l.length<Rows.uptoBulk y.1:=by
 obtain⟨l,v,e,hs,hw⟩:=Zc9 Tryz.underlying28 cellsVls (by omega) (fun l f=>∃ u,f 0=some u∧VlsV (Zag W) l u) (fun x f g hfg ⟨u,h1,h2⟩=>⟨u,hfg _ _ h1,h2⟩) (fun x f ⟨u,h1,_⟩ a W h=>cell_spot (h.trans h1)) (fun _=>1) _ (fun n cs y hy _=>by
  obtain⟨l,v,e,h1,_⟩:=read_vls n cs y hy
  subst e
  exact⟨l,⟨v,rfl,h1⟩,Zik _⟩) h (Nat.le_refl _)
 rw [Zj9] at hw
 exact⟨l,v,e,hs,hw⟩
theorem read_insV {r:Reach} {b0:Nat} {v:Value} {d:DataW H} {ps:List MemPlace} (hval:Value.okWide Tryz.prog W r b0 28 v) (h:DataW.Trod enc Tryz.prog W 0 spare held 28 v d ps):∃ l,InsV (Zag W) l v∧l.length<Rows.uptoBulk d:=by
 obtain⟨a,n,c,rfl⟩:=okWide_slice Tryz.underlying28 hval
 obtain⟨fuel,hf⟩:=h
 have hf':DataW.trod enc Tryz.prog W 0 spare held fuel 28 [.slice a n c]=some (d,ps):=hf
 obtain⟨l,v,e,hs,hw⟩:=read_ins _ _ _ hf'
 cases e
 exact⟨l,hs,hw⟩
end
theorem isX_mk {K:Kn} {l:List (List Vl)} {xs:List Value} (h:xs.length=l.length) (hx:∀ i (hi:i<l.length),∃ u,xs[i]?=some u∧VlsV K l[i] u):IsX K l xs:=by
 refine⟨by omega,fun i hi=>?_⟩
 obtain⟨u,h1,h2⟩:=hx i hi
 refine⟨u,?_,h2⟩
 show (if 0<1 then xs[i * 1+0]? else none)=some u
 rw [if_pos (by decide),Nat.mul_one,Nat.add_zero]
 exact h1
theorem isX_at {K:Kn} {l:List (List Vl)} {xs:List Value} (h:IsX K l xs):xs.length=l.length∧∀ i (hi:i<l.length),∃ u,xs[i]?=some u∧VlsV K l[i] u:=by
 obtain⟨h1,h2⟩:=h
 refine⟨by omega,fun i hi=>?_⟩
 obtain⟨u,a1,a2⟩:=h2 i hi
 have a1:(if 0<1 then xs[i * 1+0]? else none)=some u:=a1
 rw [if_pos (by decide),Nat.mul_one,Nat.add_zero] at a1
 exact⟨u,a1,a2⟩
theorem ins_news {K:Kn} {W:World} (hK:K.In W) {l:List (List Vl)} {b off c:Nat} (h:InsV K l (.slice (some ⟨b,off,none⟩) l.length c)):
  ∃ ys:List Value,IsX K l ys∧(∀ j u,ys[j]?=some u→W.cell? ((⟨b,off,none⟩:Addr).add j)=some u)∧∀ u∈ys,u.oneCell'=true:=by
 have hat:∀ i (hi:i<l.length),∃ u,K.cell b (off+i)=some u∧VlsV K l[i] u:=fun i hi=>by
  obtain⟨b',off',a2,c2,e,c0,hv⟩:=InsV.at h hi
  cases e
  exact⟨_,c0,hv⟩
 have hget:∀ i (hi:i<l.length),∃ u,((List.range l.length).map fun i=>(K.cell b (off+i)).getD .nilIface)[i]?=some u∧K.cell b (off+i)=some u∧VlsV K l[i] u:=fun i hi=>by
  obtain⟨u,h1,h2⟩:=hat i hi
  exact⟨u,by simp [hi,h1],h1,h2⟩
 refine⟨(List.range l.length).map fun i=>(K.cell b (off+i)).getD .nilIface,isX_mk (by simp) (fun i hi=>?_),fun j u hu=>?_,fun u hu=>?_⟩
 ·obtain⟨u,h1,_,h3⟩:=hget i hi
  exact⟨u,h1,h3⟩
 ·have hj:j<l.length:=by
   rcases Nat.lt_or_ge j l.length with h1 | h1
   ·exact h1
   rw [List.getElem?_eq_none (by simpa using h1)] at hu;cases hu
  obtain⟨x,h1,h2,_⟩:=hget j hj
  rw [h1] at hu
  cases hu
  rw [Zc4]
  exact hK.cell h2
 obtain⟨j,hj,rfl⟩:=List.mem_iff_getElem.1 hu
 have hj2:j<l.length:=by simpa using hj
 obtain⟨x,h1,_,h3⟩:=hget j hj2
 rw [List.getElem?_eq_getElem hj] at h1
 cases h1
 obtain⟨a,c,e⟩:=h3.len
 rw [e];rfl
theorem IsX.append {K:Kn} {l m:List (List Vl)} {xs ys:List Value} (h:IsX K l xs) (k:IsX K m ys):IsX K (l++m) (xs++ys):=by
 obtain⟨h1,h2⟩:=isX_at h
 obtain⟨k1,k2⟩:=isX_at k
 refine isX_mk (by simp [h1,k1]) fun i hi=>?_
 by_cases hil:i<l.length
 ·obtain⟨u,a1,a2⟩:=h2 i hil
  rw [List.getElem_append_left hil]
  exact⟨u,by rw [List.getElem?_append_left (by omega)];exact a1,a2⟩
 have hi2:i - l.length<m.length:=by simp at hi;omega
 obtain⟨u,a1,a2⟩:=k2 _ hi2
 rw [List.getElem_append_right (by omega)]
 exact⟨u,by rw [List.getElem?_append_right (by omega),h1];exact a1,a2⟩
theorem run_app_ins {K:Kn} {W:World} (hK:K.In W) {l:List (List Vl)} {a:Option Addr} {c:Nat} (h:InsV K l (.slice a l.length c)) {base n:Nat} {v:Value} {xs:List Value} (hown:W.ownsRow base 57 1 v n xs) (hbase:base≤W.heap.size) (hl:n+l.length≤1000000000):
  ∃ v' W' ys,IsX K l ys∧(∀ ty,(Builtin.append_ #[28,28] ty #[v,.slice a l.length c]).run Tryz.prog W = .ok v' W')∧W'.ownsRow base 57 1 v' (n+l.length) (xs++ys)∧W.grownBy W' v.ownBlock:=by
 obtain⟨i1,hi1,hy0,hy1,hy2⟩:=info_parts Tryz.infoIs
 by_cases h0:l=[]
 ·subst h0
  exact⟨v,W,[],RowX.nil,fun ty=>Zbq 28 57 i1 Tryz.underlying28 hi1 hown a c ty,by simpa using hown,⟨rfl,rfl,rfl,Nat.le_refl _,fun _ _ _=>rfl⟩⟩
 have hlen:0<l.length:=List.length_pos_iff.2 h0
 obtain⟨b,off,he,_⟩:=SlV.at h hlen
 subst he
 obtain⟨ys,g1,g2,g3⟩:=ins_news hK h
 have hrun:=fun ty=>run_append_lies (P:=Tryz.prog) W 28 ty base 57 i1 _ 1 24 Tryz.underlying28 hi1 hy0 hy1 hy2 rfl (by omega) v n xs hown ⟨b,off,none⟩ l.length c ys (by have:=g1.1;omega) g2 g3 hlen (by unfold maxLen;omega) (by omega) hbase W.heap.size rfl
 obtain⟨g,cap',W',h1,h2,h3,h4,h5⟩:=hrun 0
 exact⟨_,W',ys,g1,fun ty=>h1,h2,h3⟩
theorem values_any (H:Kn) (l:List Vl) (v:Value) (hv:VlsV H l v) (hl:l.length≤1000000000) (w:World) (hH:H.In w):
  Calls Tryz.prog 22 #[v] w fun r w'=>∃ v',r = .returned v'∧VlsV (Zcd w.heap.size w') l v'∧Below w.heap.size w w':=by
 obtain⟨a,c,rfl⟩:=hv.len
 have hrow0:=World.ownsRow_nil w w.heap.size 75 2
 obtain⟨v',W',hrun,hown,hg⟩:=run_app_vls hH hv hrow0 (Nat.le_refl _) (by omega)
 have HB:=Zhd (show Below w.heap.size w W' from (Below.refl w.heap.size w).grown hg (Nat.le_refl _) (fun q hq=>(hrow0.lt q hq).1))
 have HV:=Zhd (vls_row (n:=w.heap.size) (l:=l) (by simpa using hown) (Nat.le_refl _))
 have HRUN:=Zhd hrun
 clear hv hrow0 hrun hown hg
 go_enter Tryz.func22,Tryz.ntmps22
 go_wp2_with (at_builtin;refine Zbj rfl 57 57 _ _ rfl _ _ rfl rfl _ _ HRUN.out ?_)
 go_ret
 exact⟨_,rfl,HV.out,HB.out⟩
theorem sameVls_any (H:Kn) (l:List Vl) (v1 v2:Value) (h1:VlsV H l v1) (h2:VlsV H l v2) (hl:l.length≤1000000000) (w:World) (hH:H.In w):
  Calls Tryz.prog 18 #[v1,v2] w fun r w'=>r = .returned (.bool true)∧Below w.heap.size w w':=by
 obtain⟨a1,c1,rfl⟩:=h1.len
 obtain⟨a2,c2,rfl⟩:=h2.len
 have V1:=Zhd h1
 have V2:=Zhd h2
 clear h1 h2
 go_enter Tryz.func18,Tryz.ntmps18
 go_wp2_with fail
 go_loopw [5] (fun i wr=>∃ k:Nat,i = .int .i64 k∧k≤l.length∧Below w.heap.size w wr) (fun i _=>l.length - (intOf i).toNat)
 case atStart=>exact⟨0,rfl,Nat.zero_le _,Below.refl _ _⟩
 obtain⟨k,rfl,hk,hb⟩:=hrel
 have HB:=Zhd hb
 clear hb
 by_cases hkl:k<l.length
 ·obtain⟨b1,f1,e1,x0,x1⟩:=Zdr V1.out hkl
  obtain⟨b2,f2,e2,y0,y1⟩:=Zdr V2.out hkl
  subst e1
  subst e2
  have x0:=(hH.below HB.out).cell x0
  have x1:=(hH.below HB.out).cell x1
  have y0:=(hH.below HB.out).cell y0
  have y1:=(hH.below HB.out).cell y1
  generalize l[k].kind=xk at *
  generalize l[k].n=xn at *
  have HB2:=Zhd HB.out.drew
  go_wp2_with fail
  go_quiet (fail)
  go_wp2_with fail
  go_roundw
  case rel=>exact⟨k+1,by go_num,by omega,by first | exact HB2.out | exact Zbw HB.out _⟩
  simp [intOf];omega
 obtain rfl:k=l.length:=by omega
 go_wp2_with fail
 go_ret
 exact⟨rfl,HB.out⟩
theorem coded2_any (sp:Nat→Addr) (c:Nat) (v:Value) (w:World) (hv:ErrW sp w c (-1) v) (hc:c≤9) (S:Zji w sp) (hE:Za3 w) (c':Int):
  Calls Tryz.prog 24 #[v,.int .i64 c'] w fun e w'=>e = .returned (.bool (decide ((c:Int)=c')))∧Below w.heap.size w w':=by
 have hcode:=code_any sp c (-1) v w hv hc (fun h=>absurd rfl h) S hE
 go_enter Tryz.func24,Tryz.ntmps24
 go_wp2_with fail
 refine hcode.mono ?_
 rintro r w1 ⟨rfl,hb1⟩
 by_cases h1:(c:Int)=c'
 ·subst h1
  go_wp2_with fail
  go_ret
  exact⟨Za4 (by simp),hb1⟩
 go_wp2_with fail
 go_ret
 exact⟨Za4 (by simp [h1]),hb1⟩
end Go.Proofs.YtgoccoldkfpbgaaGreatDoor
