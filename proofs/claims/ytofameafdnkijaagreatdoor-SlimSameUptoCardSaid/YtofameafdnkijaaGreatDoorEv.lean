/- Walks: flow.instant.eval. -/
import Derived.Test.YtofameafdnkijaaGreatDoorRg
import Derived.Test.YtofameafdnkijaaGreatDoorRh
import Derived.Test.YtofameafdnkijaaGreatDoorVa
import Derived.Test.YtofameafdnkijaaGreatDoorSm2
import Derived.Deep.AppendLies
set_option linter.all false
namespace Go.Proofs.YtofameafdnkijaaGreatDoor
set_option maxRecDepth 100000
set_option maxHeartbeats 16000000
open Go.RowKit Mx
theorem mEv3 {p:Prop} (h:p:=by
 go_wp2_with fail
 refine HVAL.out.mono ?_
 rintro ret w3 ⟨rfl,hg3,hi3⟩
 have hRw:=HS.out.rlt
 have hI3:w3.heap[I]?=_:=hi3
 have hR3:=(hg3.block w.heap.size hRw (by intro e;cases e;omega)).trans HS.out.res
 have hq3:w3.heap[q]?=_:=(HS.out.isin.grown hg3 (fun g hg=>by cases hg;exact HS.out.noI)) _ _ hq
 have hV:Below w3.heap.size w3 (w3.alloc (.cells #[.int .i64 xk,.int .i64 xn] 137)):=(Below.refl _ _).alloc (Nat.le_refl _) _
 have hI4:=(hV.block I (Zlt hI3)).trans hI3
 have hR4:=(hV.block w.heap.size (Zlt hR3)).trans hR3
 have hq4:=(hV.block q (Zlt hq3)).trans hq3
 have HGR:=Zhd (show w.grownBy w3 (some I) from HS.out.gr.trans hg3)
 have hw3:w.heap.size<w3.heap.size:=(Zlt hR3)
 have x1:(w3.alloc (.cells #[.int .i64 xk,.int .i64 xn] 137)).cell? ⟨I,1,none⟩=some (.bool R.nb):=by simp [World.cell?,hI4,Zcz]
 have x2:(w3.alloc (.cells #[.int .i64 xk,.int .i64 xn] 137)).cell? ⟨I,2,none⟩=some (.int .i64 R.ni):=by simp [World.cell?,hI4,Zcz]
 have x3:(w3.alloc (.cells #[.int .i64 xk,.int .i64 xn] 137)).cell? ⟨I,3,none⟩=some (.bool r.first):=by simp [World.cell?,hI4,Zcz]
 have x5:(w3.alloc (.cells #[.int .i64 xk,.int .i64 xn] 137)).cell? ⟨q,5,none⟩=some (.int .i64 (Zam R.ks (.mk o n s l))):=by simp [World.cell?,hq4,Za4]
 have x6:(w3.alloc (.cells #[.int .i64 xk,.int .i64 xn] 137)).cell? ⟨q,6,none⟩=some (.bool (decide (0<Zac R.lt (.mk o n s l)))):=by simp [World.cell?,hq4,Za4]
 have HR3:=Zhd hR3
 have HI3:=Zhd hI3
 have hIw3:I<w3.heap.size:=(Zlt hI3)
 clear hI3 hR3 hq3 hi3 hg3 hq4
 have HG4:=Zhd (Zfv HGR.out hV)
 clear hV
 cases hff:r.first
 ·rw [hff] at x3
  have HLT:=Zhd (show (0:Nat)=0 from rfl)
  have HG:=HGR
  have HIQ:=HI3
  have hRq:=hR4
  obtain⟨q0,q1,f0,f1,hlw⟩:=Zay hRq
  obtain⟨e0,e1,e2,e3⟩:=Zcm hRq (.int .i64 xk) (.int .i64 xn)
  have E0:=Zhd e0
  have E1:=Zhd e1
  clear e0 e1 e2 e3
  obtain⟨y0,y1,yf0,yf1,_⟩:=Zay HR3.out
  obtain⟨d0,d1,d2,d3⟩:=Zcm HR3.out (.int .i64 xk) (.int .i64 xn)
  have D0:=Zhd d0
  have D1:=Zhd d1
  have D2:=Zhd d2
  have D3:=Zhd d3
  clear hR4 hI4 d0 d1 d2 d3
  go_wp2_with fail
  have e0:=E0.out
  have e1:=E1.out
  have d0:=D0.out
  have d1:=D1.out
  have d2:=D2.out
  have d3:=D3.out
  refine bodyPost_ret (v := .agg #[.int .i64 xk,.int .i64 xn]) (by simp [results,Tryz.results78,go_sem,d2,d3]) rfl ?_
  refine⟨?_,Zfv (grown_put HG.out hIlt _ _) ((Below.refl _ _).alloc (Nat.le_refl _) _),?_⟩
  ·rw [HEV.out,hff]
   simp only [Bool.false_and,Bool.false_eq_true,if_false]
  rw [Below.heap_alloc _ _ _ (by simpa using hIw3),Below.heap_setCell _ ⟨w.heap.size,1,none⟩ _ I (by show I≠w.heap.size;omega),Below.heap_setCell _ ⟨w.heap.size,0,none⟩ _ I (by show I≠w.heap.size;omega)]
  refine (HIQ.out).trans ?_
  rw [HEV.out,Bool.or_assoc]
 rw [hff] at x3
 cases hlt:decide (0<Zac R.lt (.mk o n s l))
 ·rw [hlt] at x6
  have HLT:=Zhd hlt
  clear hlt
  have HG:=HGR
  have HIQ:=HI3
  have hRq:=hR4
  obtain⟨q0,q1,f0,f1,hlw⟩:=Zay hRq
  obtain⟨e0,e1,e2,e3⟩:=Zcm hRq (.int .i64 xk) (.int .i64 xn)
  have E0:=Zhd e0
  have E1:=Zhd e1
  clear e0 e1 e2 e3
  obtain⟨y0,y1,yf0,yf1,_⟩:=Zay HR3.out
  obtain⟨d0,d1,d2,d3⟩:=Zcm HR3.out (.int .i64 xk) (.int .i64 xn)
  have D0:=Zhd d0
  have D1:=Zhd d1
  have D2:=Zhd d2
  have D3:=Zhd d3
  clear hR4 hI4 d0 d1 d2 d3
  go_wp2_with fail
  have e0:=E0.out
  have e1:=E1.out
  have d0:=D0.out
  have d1:=D1.out
  have d2:=D2.out
  have d3:=D3.out
  refine bodyPost_ret (v := .agg #[.int .i64 xk,.int .i64 xn]) (by simp [results,Tryz.results78,go_sem,d2,d3]) rfl ?_
  refine⟨?_,Zfv (grown_put HG.out hIlt _ _) ((Below.refl _ _).alloc (Nat.le_refl _) _),?_⟩
  ·rw [HEV.out,hff]
   simp only [HLT.out,Bool.true_and,Bool.false_eq_true,if_false]
  rw [Below.heap_alloc _ _ _ (by simpa using hIw3),Below.heap_setCell _ ⟨w.heap.size,1,none⟩ _ I (by show I≠w.heap.size;omega),Below.heap_setCell _ ⟨w.heap.size,0,none⟩ _ I (by show I≠w.heap.size;omega)]
  refine (HIQ.out).trans ?_
  rw [HEV.out,Bool.or_assoc]
 rw [hlt] at x6
 have HLT:=Zhd hlt
 clear hlt
 obtain⟨⟨nk,nn⟩,hnil⟩:∃ x,x=nilV R.nb R.ni (Zam R.ks (.mk o n s l)):=⟨_,rfl⟩
 have hcall:=fun w'=>nilOf_any R.nb R.ni (Zam R.ks (.mk o n s l)) w'
 rw [← hnil] at hcall
 have HNIL:=Zhd hnil
 clear hnil
 go_wp2_with fail
 generalize hWe:(w3.alloc (.cells #[.int .i64 xk,.int .i64 xn] 137))=W at *
 clear hWe
 have k1:=(Za9 (w:=W) (show I≠w.heap.size by omega) 1).trans x1
 have k2:=(Za9 (w:=W) (show I≠w.heap.size by omega) 2).trans x2
 have k5:=(Za9 (w:=W) (show q≠w.heap.size by omega) 5).trans x5
 have hS:(Zcr w.heap.size W).In W.drew:=Zj8 w.heap.size W
 have hK0:(Zcr w.heap.size W) w.heap.size=none:=by simp [Zcr]
 clear x1 x2 x3 x5 x6
 refine Za2 (fun w'=>(Zcr w.heap.size W).In w') (fun _=>True) 99 (by kernel_rfl) ?_
 refine tk2 (i:=0) (v:=?_) rfl hS Ztr ?hy ?_
 case hy=>exact mEv1
 refine Zst ?_
 refine Go.w3 1 ?_
 iterate 7 ((first | (refine tk3 (v:=?_) rfl hS Ztr ?hy ?_;(case hy=>exact mEv2)) | refine sk3 rfl hS Ztr ?_ | refine no3 ?_);refine Zss ?_)
 refine Go.w3e ?_
 refine Zwo 8 rfl fun K_ hK=>?_
 go_simp
 go_at_call 77
 refine (hcall _).mono ?_
 rintro r5 w5 ⟨rfl,hb5⟩
 have hS5:=hS.below hb5
 have hb45:Below W.heap.size W w5:=((Below.refl W.heap.size W).drew).trans hb5
 have HG:=Zhd (Zfv HG4.out hb45)
 have HIQ:=Zhd ((hb45.block I (Zlt hI4)).trans hI4)
 have hRq:=(hb45.block w.heap.size (Zlt hR4)).trans hR4
 obtain⟨q0,q1,f0,f1,hlw⟩:=Zay hRq
 obtain⟨e0,e1,e2,e3⟩:=Zcm hRq (.int .i64 nk) (.int .i64 nn)
 have E0:=Zhd e0
 have E1:=Zhd e1
 clear e0 e1 e2 e3
 refine hK.out _ _ (hS5) Ztr ?_
 clear hK K_
 try simp only [tkS]
 refine Zwo 9 rfl fun K_ hK=>?_
 go_simp
 refine hK.out _ _ (((hS5.setCell (a:=⟨w.heap.size,0,none⟩) hK0 _).setCell (a:=⟨w.heap.size,1,none⟩) hK0 _)) Ztr ?_
 clear hK K_
 try simp only [tkS]
 refine Zwd ?_
 go_wp2_with fail
 have e0:=E0.out
 have e1:=E1.out
 refine bodyPost_ret (v := .agg #[.int .i64 nk,.int .i64 nn]) (by simp [results,Tryz.results78,go_sem,e0,e1]) rfl ?_
 refine⟨?_,grown_put HG.out hIlt _ _,?_⟩
 ·rw [HEV.out,hff]
  simp only [HLT.out,Bool.true_and,if_true]
  rw [← HNIL.out]
 rw [Below.heap_setCell _ ⟨w.heap.size,1,none⟩ _ I (by show I≠w.heap.size;omega),Below.heap_setCell _ ⟨w.heap.size,0,none⟩ _ I (by show I≠w.heap.size;omega)]
 refine (HIQ.out).trans ?_
 rw [HEV.out,Bool.or_assoc]):p:=h
theorem mEv2 {p:Prop} (h:p:=by
 intro w hSw;obtain⟨z0,z1,z2⟩:=hSw.c3 k1 k2 k5;go_simp<;>with_reducible rfl):p:=h
theorem mEv1 {p:Prop} (h:p:=by
 intro w hSw;obtain⟨z0,z1,z2⟩:=hSw.c3 k1 k2 k5;first | (go_simp;done) | (go_simp;with_reducible rfl)):p:=h
theorem evalsM_zero (R:REnv) (r:Inst) (m:Nat):∀ l:List Ex,Za1 R r m 0 l=([],false)
 | []=>by simp [Za1]
 | e :: l=>by simp [Za1]
theorem Tryz.infoVl:(Tryz.prog.info? 137).map (fun i=>(i.zero,i.size,i.bytes))=some (some (.agg #[.int .i64 0,.int .i64 0]),2,16):=by kernel_rfl
theorem grown_put {w w3:World} {I:Nat} (h:w.grownBy w3 (some I)) (_hI:I<w.heap.size) (u v:Value):w.grownBy ((w3.setCell ⟨w.heap.size,0,none⟩ u).setCell ⟨w.heap.size,1,none⟩ v) (some I):=
 ⟨h.os,h.tape,h.output,by simpa using h.size,fun k hk hne=>by
  rw [Below.heap_setCell _ ⟨w.heap.size,1,none⟩ _ k (by show k≠w.heap.size;omega),Below.heap_setCell _ ⟨w.heap.size,0,none⟩ _ k (by show k≠w.heap.size;omega)]
  exact h.block k hk hne⟩
theorem Zfv {w w3 w5:World} {row:Option Nat} (h:w.grownBy w3 row) (hb:Below w3.heap.size w3 w5):w.grownBy w5 row:=
 ⟨hb.os.trans h.os,hb.tape.trans h.tape,hb.output.trans h.output,Nat.le_trans h.size hb.size,fun k hk hne=>by rw [hb.block k (Nat.lt_of_lt_of_le hk h.size)];exact h.block k hk hne⟩
theorem eval_any (R:REnv) (r:Inst) (I:Nat) (cp vm vi vn:Value) (hz:r.mem.length≤1000000000∧r.inp.length≤1000000000∧r.now.length≤1000000000):∀ (e:Ex),Zad R.ks e=true→e.parts≤1000000000→∀ (H:Kn) (m q:Nat),NdAt 163 R H e m q→VlsV H r.mem vm→VlsV H r.inp vi→VlsV H r.now vn→
  ∀ (w:World) (t:Bool),H.In w→H I=none→w.heap[I]?=some (.cells (Zcz cp R r vm vi vn t) 166 (0,0))→EvOk R r e m→
  Calls Tryz.prog 78 #[.pointer (some ⟨I,0,none⟩),.pointer (some ⟨q,0,none⟩)] w (ValPost R r I cp vm vi vn t w (Zbd R r m e)):=by
 refine Ex.ind fun o n s l ih hfo hpe H m q hnd hvm hvi hvn w t hH hI hb hok=>?_
 obtain⟨lv,pv,hq,a,c,rfl,hparts⟩:=hnd.open
 simp only [Ex.l] at hparts hq
 have hlp:=Zcb l
 simp only [Ex.parts] at hpe
 simp only [EvOk] at hok
 obtain⟨hok0,hokL⟩:=hok
 obtain⟨hsub,hfby,_,hpre,_⟩:=Zaz hfo
 have HPT:=Zhd hparts
 have IH:=Zhd ih
 have HSUB:=Zhd hsub
 have HOKL:=Zhd hokL
 have HFO:=Zhd hfo
 have HPRE:=Zhd hpre
 have HFBY:=Zhd hfby
 have hqw:=hH _ _ hq
 have hqlt:q<w.heap.size:=(Zlt hqw)
 have hIlt:I<w.heap.size:=(Zlt hb)
 have hb0:Below w.heap.size w (w.alloc (.cells #[.int .i64 0,.int .i64 0] 137)):=(Below.refl _ _).alloc (Nat.le_refl _) _
 have hq1:=(hb0.block q hqlt).trans hqw
 have g4:(w.alloc (.cells #[.int .i64 0,.int .i64 0] 137)).cell? ⟨q,4,none⟩=some (.slice a l.length c):=by simp [World.cell?,hq1,Za4]
 have HS0:=Zhd (show EvS R r H I cp vm vi vn t w (w.alloc (.cells #[.int .i64 0,.int .i64 0] 137)) m 0 0 l (.slice none 0 0) from
  ⟨hH.below hb0,hI,hIlt,⟨hb0.os,hb0.tape,hb0.output,hb0.size,fun k hk _=>hb0.block k hk⟩,by rw [hb0.block I hIlt,hb,evalsM_zero,Bool.or_false],by rw [evalsM_zero];exact World.ownsRow_nil _ _ _ _,heap_alloc_new _ _⟩)
 obtain⟨i0,hi0,hz0,hz1,hz2⟩:=info_parts Tryz.infoVl
 clear hparts ih hsub hokL hfo hnd hq1 hqw hb hpre hfby
 go_enter Tryz.func78,Tryz.ntmps78
 go_wp2_with fail
 clear g4
 generalize w.alloc (.cells #[.int .i64 0,.int .i64 0] 137)=W0 at *
 go_loopw [5,14] (fun u5 i wr=>∃ k:Nat,i = .int .i64 k∧k≤evN o l∧EvS R r H I cp vm vi vn t w wr m k k l u5) (fun _ i _=>l.length - (intOf i).toNat)
 case atStart=>exact⟨0,rfl,Nat.zero_le _,HS0.out⟩
 obtain⟨k,rfl,hk,hS⟩:=hrel
 have HS:=Zhd hS
 clear hS
 have hqr:=HS.out.isin _ _ hq
 have g0:wr.cell? ⟨q,0,none⟩=some (.string o):=by simp [World.cell?,hqr,Za4,Ex.op]
 by_cases hkn:k<evN o l
 ·have hnp:o≠oPre:=fun e=>by unfold evN at hkn;rw [if_pos e] at hkn;omega
  have hkl:k<l.length:=by
   unfold evN at hkn
   rw [if_neg hnp] at hkn
   split at hkn
   ·rename_i h;have:=HFBY.out h;omega
   exact hkn
  have hf1:o=oFby→k=0:=fun e=>by unfold evN at hkn;rw [if_neg hnp,if_pos e] at hkn;omega
  obtain⟨b,off,q',rfl,hc,hnd⟩:=HPT.out k hkl
  have hc:=HS.out.isin.cell hc
  obtain⟨x,hxe⟩:∃ x,l[k]=x:=⟨_,rfl⟩
  have hpx:x.parts≤1000000000:=by have:=Za5 l k hkl;rw [hxe] at this;omega
  have hmem:x∈l:=by rw [← hxe];exact List.getElem_mem hkl
  have hokx:=HOKL.out.get k hkl
  rw [hxe] at hnd hokx
  have b1:(o.toList==[112,114,101])=false:=by have:=Zfe o [112,114,101];cases h:(o.toList==[112,114,101]) with | false=>rfl | true=>exact absurd (this.mpr h) hnp
  have HIH:=Zhd (IH.out x hmem (HSUB.out x hmem) hpx H (m+Zal (l.take k)) q' hnd hvm hvi hvn wr (t || (Za1 R r m k l).2) HS.out.isin HS.out.noI HS.out.inst hokx)
  have HXE:=Zhd hxe
  clear hnd hokx hqr
  obtain⟨au,cu,hue,_⟩:=Zau HS.out.row
  subst hue
  have hbase:w.heap.size+1≤wr.heap.size:=HS.out.rlt
  rcases (show o=oFby∨(o.toList==[102,98,121])=false from by
   have:=Zfe o [102,98,121]
   cases h:(o.toList==[102,98,121]) with
   | false=>exact .inr rfl
   | true=>exact .inl (this.mpr h)) with hfb | b2
  ·subst hfb
   obtain rfl:=hf1 rfl
   simp only [Nat.add_zero] at hc
   go_wp2_with fail
   refine HIH.out.mono ?_
   rintro ret w1 hp
   have hS1:=HS.out.child hkl (by rw [HXE.out];exact hp)
   obtain⟨hret,hg1,_⟩:=hp
   obtain⟨⟨yk,yn⟩,hy⟩:∃ y,y=(Zbd R r (m+Zal (l.take 0)) x).1:=⟨_,rfl⟩
   rw [← hy] at hret
   subst hret
   have HY:=Zhd hy
   clear hy
   have HA:=Zhd (hS1.alloc (.cells #[.int .i64 yk,.int .i64 yn] 137))
   have hb1:w.heap.size+1≤w1.heap.size:=Nat.le_trans hbase hg1.size
   have hkk:0≤1000000000:=by omega
   clear hS1 hg1
   go_wp2_with (refine wpList_append_lies _ (by rfl) _ _ _ (by rfl) (w.heap.size+1) 137 i0 _ 2 16 Tryz.underlying51 hi0 hz0 hz1 hz2 rfl (by omega) _ 0 (vlX (Za1 R r m 0 l).1) (by rfl) HA.out.row ⟨_,0,none⟩ 1 1 [.int .i64 yk,.int .i64 yn] (by rfl) (by rfl) (by exact World.news_of_block (heap_alloc_new _ _)) (by simp [Value.oneCell']) (by omega) (by unfold maxLen;omega) (by omega) (by simp;omega) _ rfl ?_;intro gg cap' w3 hown hgrow hat hltg;have hf:=HA.out.app hkl hH (x:=⟨yk,yn⟩) (by rw [HXE.out];exact HY.out.symm) hown hgrow)
   go_roundw
   case rel=>exact⟨0+1,by go_num,by omega,hf⟩
   simp [intOf];omega
  skip
  go_wp2_with fail
  refine HIH.out.mono ?_
  rintro ret w1 hp
  have hS1:=HS.out.child hkl (by rw [HXE.out];exact hp)
  obtain⟨hret,hg1,_⟩:=hp
  obtain⟨⟨yk,yn⟩,hy⟩:∃ y,y=(Zbd R r (m+Zal (l.take k)) x).1:=⟨_,rfl⟩
  rw [← hy] at hret
  subst hret
  have HY:=Zhd hy
  clear hy
  have HA:=Zhd (hS1.alloc (.cells #[.int .i64 yk,.int .i64 yn] 137))
  have hb1:w.heap.size+1≤w1.heap.size:=Nat.le_trans hbase hg1.size
  have hkk:k≤1000000000:=by omega
  clear hS1 hg1
  go_wp2_with (refine wpList_append_lies _ (by rfl) _ _ _ (by rfl) (w.heap.size+1) 137 i0 _ 2 16 Tryz.underlying51 hi0 hz0 hz1 hz2 rfl (by omega) _ k (vlX (Za1 R r m k l).1) (by rfl) HA.out.row ⟨_,0,none⟩ 1 1 [.int .i64 yk,.int .i64 yn] (by rfl) (by rfl) (by exact World.news_of_block (heap_alloc_new _ _)) (by simp [Value.oneCell']) (by omega) (by unfold maxLen;omega) (by omega) (by simp;omega) _ rfl ?_;intro gg cap' w3 hown hgrow hat hltg;have hf:=HA.out.app hkl hH (x:=⟨yk,yn⟩) (by rw [HXE.out];exact HY.out.symm) hown hgrow)
  go_roundw
  case rel=>exact⟨k+1,by go_num,by omega,hf⟩
  simp [intOf];omega
 have hke:k=evN o l:=by omega
 have hkl:k≤l.length:=by
  rw [hke]
  unfold evN
  split
  ·omega
  split
  ·rename_i h;have:=HFBY.out h;omega
  exact Nat.le_refl _
 have hlen:(Za1 R r m k l).1.length=k:=by rw [Zg8];omega
 obtain⟨K,hle,hKin,hKI,hKR,hvals⟩:=HS.out.vals hH hlen
 obtain⟨⟨⟨xk,xn⟩,xt⟩,hX⟩:∃ X,X=valM R r (m+Zal l) o n s (decide (0<Zac R.lt (.mk o n s l))) (Za1 R r m k l).1:=⟨_,rfl⟩
 obtain⟨au,cu,hue,_⟩:=Zau HS.out.row
 subst hue
 have hval:=value_any R r K I q m cp lv (.slice a l.length c) vm vi vn (.slice au k cu) (t || (Za1 R r m k l).2) o n s l (Za1 R r m k l).1 wr hKin hKI HS.out.inst (hle _ _ hq) HFO.out hvals (by rw [hlen,hke];rfl) (SlV.le hvm hle VlC.mono) (SlV.le hvi hle VlC.mono) (SlV.le hvn hle VlC.mono) ⟨hz.1,hz.2.1,hz.2.2,by omega⟩ hok0
 rw [← hX] at hval
 have HEV:=Zhd (show Zbd R r m (.mk o n s l)=(if r.first&&decide (0<Zac R.lt (.mk o n s l)) then nilV R.nb R.ni (Zam R.ks (.mk o n s l)) else ⟨xk,xn⟩,(Za1 R r m k l).2 || xt) from by
  simp only [Zbd]
  rw [show (if o=oPre then 0 else if o=oFby then 1 else l.length)=k from hke.symm,← hX])
 have HVAL:=Zhd hval
 clear hval hX hvals hKR hKI hKin hle hlen
 have hways:(o=oPre∧k=0∧l.length=1)∨(o=oFby∧k=1∧l.length=2)∨((o.toList==[112,114,101])=false∧k=l.length):=by
  by_cases e1:o=oPre
  ·exact .inl ⟨e1,by rw [hke];unfold evN;rw [if_pos e1],HPRE.out e1⟩
  by_cases e2:o=oFby
  ·exact .inr (.inl ⟨e2,by rw [hke];unfold evN;rw [if_neg e1,if_pos e2],HFBY.out e2⟩)
  refine .inr (.inr ⟨?_,by rw [hke];unfold evN;rw [if_neg e1,if_neg e2]⟩)
  have:=Zfe o [112,114,101]
  cases h:(o.toList==[112,114,101]) with
  | false=>rfl
  | true=>exact absurd (this.mpr h) e1
 clear hke hkl hkn
 rcases hways with ⟨he,hk0,hl0⟩ | ⟨he,hk0,hl0⟩ | ⟨b1,hk0⟩
 ·have b1:(o.toList==[112,114,101])=true:=by rw [he];kernel_rfl
  clear he
  subst hk0
  obtain⟨b,off,q',rfl,hc,_⟩:=HPT.out 0 (by omega)
  have hc:=HS.out.isin.cell hc
  simp only [Nat.add_zero] at hc
  have hlI:(l.length:Int)=1:=by omega
  exact mEv3
 ·have b1:(o.toList==[112,114,101])=false:=by rw [he];kernel_rfl
  have b2:(o.toList==[102,98,121])=true:=by rw [he];kernel_rfl
  clear he
  subst hk0
  obtain⟨b,off,q',rfl,hc,_⟩:=HPT.out 1 (by omega)
  have hc:=HS.out.isin.cell hc
  have hlI:(l.length:Int)=2:=by omega
  exact mEv3
 subst hk0
 exact mEv3
def Zde (R:REnv) (ms:List (Ex×Nat)):List Vl:=ms.map fun x=>nilV R.nb R.ni (Zam R.ks x.1)
theorem vlX_snoc (l:List Vl) (x:Vl):vlX (l++[x])=vlX l++[.int .i64 x.kind,.int .i64 x.n]:=by simp [vlX]
theorem start_any (R:REnv) (H:Kn) (B:Nat) (cs:Array Value) (ms:List (Ex×Nat)) (vm:Value) (hB:H B=some (.cells cs 155 (0,0))) (h10:cs[10]?=some vm) (hm:NdsV 163 R H ms vm) (hl:ms.length≤1000000000) (w:World) (hH:H.In w):
  Calls Tryz.prog 30 #[.pointer (some ⟨B,0,none⟩),.agg #[.bool R.nb,.int .i64 R.ni]] w fun r w'=>∃ v,r = .returned v∧VlsV (Zai w') (Zde R ms) v∧Below w.heap.size w w':=by
 obtain⟨a,c,rfl⟩:=hm.len
 have HM:=Zhd hm
 have hBw:=hH _ _ hB
 have hBlt:B<w.heap.size:=(Zlt hBw)
 have hb0:Below w.heap.size w (w.alloc (.cells #[.bool R.nb,.int .i64 R.ni] 84)):=(Below.refl _ _).alloc (Nat.le_refl _) _
 have hB1:=(hb0.block B hBlt).trans hBw
 have hN1:=heap_alloc_new w (.cells #[.bool R.nb,.int .i64 R.ni] 84)
 have g10:(w.alloc (.cells #[.bool R.nb,.int .i64 R.ni] 84)).cell? ⟨B,10,none⟩=some (.slice a ms.length c):=by simp [World.cell?,hB1,h10]
 obtain⟨i0,hi0,hz0,hz1,hz2⟩:=info_parts Tryz.infoVl
 go_enter Tryz.func30,Tryz.ntmps30
 go_wp2_with fail
 clear g10
 have HN1:=Zhd hN1
 have HB0:=Zhd hb0
 have hsz:(w.alloc (.cells #[.bool R.nb,.int .i64 R.ni] 84)).heap.size=w.heap.size+1:=by simp
 clear hN1 hb0 hB1
 generalize w.alloc (.cells #[.bool R.nb,.int .i64 R.ni] 84)=W0 at *
 go_loopw [5,13] (fun u i wr=>∃ k:Nat,i = .int .i64 k∧k≤ms.length∧Below W0.heap.size W0 wr∧wr.ownsRow (w.heap.size+1) 137 2 u k (vlX (Zde R (ms.take k)))) (fun _ i _=>ms.length - (intOf i).toNat)
 case atStart=>exact⟨0,rfl,Nat.zero_le _,Below.refl _ _,World.ownsRow_nil _ _ _ _⟩
 obtain⟨k,rfl,hk,hb,hrow⟩:=hrel
 have HB:=Zhd hb
 have HR:=Zhd hrow
 clear hb hrow
 by_cases hkl:k<ms.length
 ·obtain⟨au,cu,hue,_⟩:=Zau HR.out
  subst hue
  obtain⟨b,off,rfl,_,q,hq1,hq2⟩:=SlV.at HM.out hkl
  have hq1:H.cell b (off+k * 1+0)=some (ptrV q):=hq1
  simp only [Nat.mul_one,Nat.add_zero] at hq1
  obtain⟨lv,pv,hqH,_⟩:=hq2.open
  obtain⟨K,hKe⟩:∃ K,K=H.add w.heap.size (.cells #[.bool R.nb,.int .i64 R.ni] 84 (0,0)):=⟨_,rfl⟩
  have hle:H.le K:=by rw [hKe];exact Kn.le_add (hH.isNone (Nat.le_refl _))
  have hHr:H.In wr:=(hH.below HB0.out).below HB.out
  have hNr:=(HB.out.block w.heap.size (by omega)).trans HN1.out
  have hKin:K.In wr:=by rw [hKe];exact hHr.add hNr
  have hS:K.In wr.drew:=hKin
  have j0:K.cell w.heap.size 0=some (.bool R.nb):=by rw [hKe];unfold Kn.cell;rw [Kn.add_self];rfl
  have j1:K.cell w.heap.size 1=some (.int .i64 R.ni):=by rw [hKe];unfold Kn.cell;rw [Kn.add_self];rfl
  have j5:K.cell q 5=some (.int .i64 (Zam R.ks ms[k].1)):=hle.cell (by unfold Kn.cell;rw [hqH];rfl)
  have hnoU:∀ g,(Value.slice au k cu).ownBlock=some g→K g=none:=fun g hg=>by
   have:=(HR.out.lt g hg).1
   rw [hKe,Kn.add_other _ _ (by omega)]
   exact hH.isNone (by omega)
  have c0:=hHr.cell hq1
  have hcall:=fun w'=>nilOf_any R.nb R.ni (Zam R.ks ms[k].1) w'
  have hsn:Zde R (ms.take (k+1))=Zde R (ms.take k)++[nilV R.nb R.ni (Zam R.ks ms[k].1)]:=by
   unfold Zde;rw [List.take_succ_eq_append_getElem hkl,List.map_append];rfl
  obtain⟨⟨yk,yn⟩,hy⟩:∃ y,y=nilV R.nb R.ni (Zam R.ks ms[k].1):=⟨_,rfl⟩
  rw [← hy] at hcall hsn
  have HSN:=Zhd hsn
  have hbase:w.heap.size+1≤wr.heap.size:=by have:=HB.out.size;omega
  clear hy hsn hq2 hqH hNr
  generalize Zam R.ks ms[k].1=kd at *
  go_wp2_with fail
  refine Za2 (fun w'=>K.In w') (fun _=>True) 99 (by kernel_rfl) ?_
  refine tk2 (i:=0) (v:=?_) rfl hS Ztr ?hy ?_
  case hy=>intro w hSw;obtain⟨z0,z1,z2⟩:=hSw.c3 j0 j1 j5;go_simp<;>with_reducible rfl
  refine Zst ?_
  refine Go.w3 1 ?_
  iterate 5 ((first | (refine tk3 (v:=?_) rfl hS Ztr ?hy ?_;(case hy=>intro w hSw;obtain⟨z0,z1,z2⟩:=hSw.c3 j0 j1 j5;go_simp<;>with_reducible rfl)) | refine sk3 rfl hS Ztr ?_ | refine no3 ?_);refine Zss ?_)
  refine Go.w3e ?_
  refine Zwo 6 rfl fun K_ hK=>?_
  go_simp
  go_at_call 77
  refine (hcall _).mono ?_
  rintro r5 w5 ⟨rfl,hb5⟩
  have hS5:=hS.below hb5
  have hr5:=Zao (Zao HR.out (Below.refl wr.heap.size wr).drew) hb5
  have hba:Below w5.heap.size w5 (w5.alloc (.cells #[.int .i64 yk,.int .i64 yn] 137)):=(Below.refl _ _).alloc (Nat.le_refl _) _
  have hra:=Zao hr5 hba
  have hb45:Below wr.heap.size wr w5:=((Below.refl wr.heap.size wr).drew).trans hb5
  have hsz5:=hb45.size
  refine hK.out _ _ (hS5) Ztr ?_
  clear hK K_
  try simp only [tkS]
  refine Zwo 7 rfl fun K_ hK=>?_
  go_simp
  refine hK.out _ _ ((hS5.alloc _)) Ztr ?_
  clear hK K_
  try simp only [tkS]
  refine Zwo 8 rfl fun K_ hK=>?_
  refine step_append_lies _ (by rfl) _ _ _ (by rfl) (w.heap.size+1) 137 i0 _ 2 16 Tryz.underlying51 hi0 hz0 hz1 hz2 rfl (by omega) (.slice au k cu) k (vlX (Zde R (ms.take k))) (by rfl) hra ⟨_,0,none⟩ 1 1 [.int .i64 yk,.int .i64 yn] (by rfl) (by rfl) (by exact World.news_of_block (heap_alloc_new _ _)) (by simp [Value.oneCell']) (by omega) (by unfold maxLen;omega) (by omega) (by simp;omega) _ rfl ?_
  intro gg cap' w3 hown hgrow hat hltg
  have hS6:=(hS5.alloc (.cells #[.int .i64 yk,.int .i64 yn] 137)).grown hgrow hnoU
  refine hK.out _ _ (hS6) Ztr ?_
  clear hK K_
  try simp only [tkS]
  refine tk2 (i:=9) (v:=?_) rfl hS6 Ztr ?hy ?_
  case hy=>intro w hSw;obtain⟨z0,z1,z2⟩:=hSw.c3 j0 j1 j5;go_simp<;>with_reducible rfl
  try simp only [tkS]
  refine Zwd ?_
  go_wp2_with fail
  go_roundw
  case rel=>
   refine⟨k+1,by go_num,by omega,?_,by rw [HSN.out,vlX_snoc];exact hown⟩
   refine (HB.out.trans (hb45.mono HB.out.size)).trans ((hba.mono (by have:=HB.out.size;omega)).trans ?_)
   exact⟨hgrow.os,hgrow.tape,hgrow.output,hgrow.size,fun i hi=>hgrow.block i (by simp;have:=HB.out.size;omega) (fun e=>by have:=(HR.out.lt i e.symm).1;omega)⟩
  simp [intOf];omega
 obtain rfl:k=ms.length:=by omega
 obtain⟨au,cu,rfl,_⟩:=Zau HR.out
 go_wp2_with fail
 go_ret
 refine⟨_,rfl,?_,HB0.out.trans (HB.out.mono (by omega))⟩
 have h:=HR.out
 rw [List.take_length] at h
 exact Zgt (l:=Zde R ms) (by simpa [Zde] using h) fun i hi f hf=>by
  obtain⟨x0,x1⟩:=Zfi _ i hi
  refine⟨hf 0 _ ?_,hf 1 _ ?_⟩
  ·rw [show i * 2+0=2 * i from by omega];exact x0
  rw [show i * 2+1=2 * i+1 from by omega];exact x1
end Go.Proofs.YtofameafdnkijaaGreatDoor
