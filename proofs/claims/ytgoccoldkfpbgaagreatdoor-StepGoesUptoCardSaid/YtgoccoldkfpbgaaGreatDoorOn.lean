/- Walks: lustrumlaw2.once. -/
import Derived.Test.YtgoccoldkfpbgaaGreatDoorRg
import Derived.Test.YtgoccoldkfpbgaaGreatDoorRu
import Derived.Test.YtgoccoldkfpbgaaGreatDoorTkM
import Derived.Test.YtgoccoldkfpbgaaGreatDoorBare
import Derived.Test.YtgoccoldkfpbgaaGreatDoorRh
import Derived.Test.YtgoccoldkfpbgaaGreatDoorGof
set_option linter.all false
namespace Go.Proofs.YtgoccoldkfpbgaaGreatDoor
set_option maxRecDepth 100000
set_option maxHeartbeats 16000000
open Go.RowKit Mx
theorem bare_runE:runE Zet [[]] 0=(0, -1):=by kernel_rfl
theorem bare_run:runM false 0 Zet [[]]=[⟨[⟨1,1⟩],true,false,[]⟩]:=by kernel_rfl
theorem TksV.at0 {H:Kn} {l:List Tk} {a:Option Addr} {n c:Nat} (h:TksV H l (.slice a n c)) {k:Nat} (hk:k<l.length):∃ b off a1 c1 a2 c2,a=some ⟨b,off,none⟩∧H.cell b (off+k * 4)=some (.slice a1 l[k].out.length c1)∧H.cell b (off+k * 4+1)=some (.bool l[k].asrt)∧H.cell b (off+k * 4+2)=some (.bool l[k].trap)∧H.cell b (off+k * 4+3)=some (.slice a2 l[k].checks.length c2)∧TkV H l[k] (.slice a1 l[k].out.length c1) (.slice a2 l[k].checks.length c2):=by
 obtain⟨b,off,haf,_,ov,cv,c0,c1,c2,c3,hv⟩:=SlV.at h hk
 obtain⟨a1,k1,rfl⟩:=hv.outs.len
 obtain⟨a2,k2,rfl⟩:=hv.checks.len
 exact⟨b,off,a1,k1,a2,k2,haf,c0,c1,c2,c3,hv⟩
theorem once_any (H:Kn) (T:Zbl H) (sp:Nat→Addr) (w:World) (hH:H.In w) (S:Sen5 w sp):
  Calls Tryz.prog 5 #[] w fun r w'=>r = .returned (.bool true)∧Below w.heap.size w w':=by
 have hle:∀ w1,Below w.heap.size w w1→Zbl (Zag w1):=fun w1 hb=>T.le (Zaz (hH.below hb))
 have HLE:=Zhd hle
 clear hle
 go_enter Tryz.func5,Tryz.ntmps5
 go_wp2_with fail
 refine (lbare_any _).mono ?_
 rintro r w1 ⟨vi,vo,vl,va,vc,rfl,hp,hb1⟩
 have HB1:=Zhd hb1
 have HP1:=Zhd hp
 clear hb1 hp
 go_wp2_with fail
 have hb2:Below w.heap.size w (w1.alloc (.cells #[.slice none 0 0] 57)):=HB1.out.alloc HB1.out.size _
 have hin:InsV (Zag (w1.alloc (.cells #[.slice none 0 0] 57))) [[]] (.slice (some ⟨w1.heap.size,0,none⟩) 1 1):=by
  refine .inr ⟨_,0,1,rfl,by simp,by unfold maxLen;omega,fun i hi=>?_⟩
  obtain rfl:i=0:=by simpa using hi
  refine⟨.slice none 0 0,?_,.inl ⟨rfl,none,0,rfl⟩⟩
  show (Zag _).cell _ _=_
  rw [Zad]
  simp
 have hp2:PrP (Zag (w1.alloc (.cells #[.slice none 0 0] 57))) Zet vi vo vl va vc:=HP1.out.le (Zaz ((Za0 w1).alloc _))
 refine (run_any _ (HLE.out _ hb2) sp Zet _ _ _ _ _ hp2 [[]] _ hin _ (Za0 _) (S.below hb2) false 0 ⟨by decide,by decide,by decide,by decide,by decide,by decide⟩ (by decide)).mono ?_
 rintro r w3 hpost
 obtain⟨hb3,hpost⟩:=hpost.told
 have HB3:=Zhd (hb2.trans (hb3.mono hb2.size))
 rw [bare_runE,bare_run] at hpost
 rcases hpost with ⟨_,v,rfl,hv⟩ | ⟨h,_⟩
 case inr=>exact absurd rfl h
 obtain⟨av,cv,rfl⟩:=hv.len
 obtain⟨b,off,a1,c1,a2,c2,rfl,d0,d1,d2,d3,hx⟩:=hv.at0 (show 0<_ from by simp)
 obtain⟨b5,off5,rfl,e0,e1⟩:=Zdr hx.outs (show 0<_ from by simp)
 dsimp only [List.getElem_cons_zero,List.length_cons,List.length_nil] at d0 d1 d2 d3 e0 e1
 simp only [Nat.zero_mul,Nat.add_zero,Zad] at d0 d1 d2 d3 e0 e1
 clear hx hv hin hp2 hb2 hb3
 dsimp only [List.length_cons,List.length_nil]
 go_wp2_with fail
 go_ret
 exact⟨rfl,HB3.out⟩
theorem mSp2 {p:Prop} (h:p:=by
 have hT:=Zdv hT0 (.slice aov xo.length cov) (.bool xa) (.bool xt) (.slice acv xc.length ccv)
 have hb7:=Zgr hb6 hTW (.slice aov xo.length cov) (.bool xa) (.bool xt) (.slice acv xc.length ccv)
 have hS7:KM.In (put4 w6 TB (.slice aov xo.length cov) (.bool xa) (.bool xt) (.slice acv xc.length ccv)):=hS.below hb7
 unfold put4 at hT hb7 hS7
 obtain⟨r0,r1,r2,r3,rf,hTl⟩:=Zb0 hT0
 have rf0:=rf 0 (by decide)
 have rf1:=rf 1 (by decide)
 have rf2:=rf 2 (by decide)
 have rf3:=rf 3 (by decide)
 refine Zwo 22 rfl fun K_ hK=>?_
 go_simp
 refine hK.out _ _ (hS7) Ztr ?_
 clear hK K_
 refine Zst ?_
 refine tk2 (i:=23) (v:=?_) rfl hS7 Ztr ?hy ?_
 case hy=>intro w hSw;obtain⟨z0,z1,z2,z3,z4⟩:=hSw.c5 k0 k1 k2 k3 k4;go_simp<;>with_reducible rfl
 refine Zst ?_
 refine Zwd ?_
 have hw7:=HB2.out.trans ((hbD.trans (hb7.mono hbD.size)).mono HB2.out.size)
 have hbx7:=(hb7.block M hMl2).trans hbx
 have hR7:=(hb7.block w.heap.size hRl2).trans hR
 have hsame7:∀ b,n5≤b→b<w5.heap.size→(put4 w6 TB (.slice aov xo.length cov) (.bool xa) (.bool xt) (.slice acv xc.length ccv)).heap[b]?=w5.heap[b]?:=fun b h1 h2=>by
  rw [Zgq _ _ _ _ (hsame b h1 h2).1];exact (hsame b h1 h2).2
 unfold put4 at hsame7
 have hs7:w6.heap.size≤((((w6.setCell ⟨TB,0,none⟩ (.slice aov xo.length cov)).setCell ⟨TB,1,none⟩ (.bool xa)).setCell ⟨TB,2,none⟩ (.bool xt)).setCell ⟨TB,3,none⟩ (.slice acv xc.length ccv)).heap.size:=by simp
 generalize (((w6.setCell ⟨TB,0,none⟩ (.slice aov xo.length cov)).setCell ⟨TB,1,none⟩ (.bool xa)).setCell ⟨TB,2,none⟩ (.bool xt)).setCell ⟨TB,3,none⟩ (.slice acv xc.length ccv)=W7 at *
 clear hT0 hb6 hS7 hS5 r0 r1 r2 r3 rf rf0 rf1 rf2 rf3 hTl hb7
 have hTM:TB≠M:=by omega
 have hTR:TB≠w.heap.size:=by omega
 have hRM:w.heap.size≠M:=by omega
 have HK5:=Zhd hk5
 have HM5:=Zhd hm5
 have HW7:=Zhd hw7
 have HSM:=Zhd (show ∀ b,n5≤b→b<w5.heap.size→W7.heap[b]?=w5.heap[b]?∧w.heap.size<b∧b<W7.heap.size from fun b h1 h2=>⟨hsame7 b h1 h2,by omega,by omega⟩)
 unfold mcV at hbx7
 clear hk5 hm5 hw7 hsame7 hsame k0 k1 k2 k3 k4 hbx hR
 obtain⟨⟨t0,t1,t2,t3,tf,_⟩,_⟩:=And.intro (Zb0 hT) trivial
 clear t0 t1 t3 tf
 cases xt with
 | true=>
  have hbx8:=Zaa W7 M 5 (.bool true) _ _ _ hbx7
  have hT8:(W7.setCell ⟨M,5,none⟩ (.bool true)).heap[TB]?=_:=(Below.heap_setCell W7 ⟨M,5,none⟩ _ _ hTM).trans hT
  have hR8:(W7.setCell ⟨M,5,none⟩ (.bool true)).heap[w.heap.size]?=_:=(Below.heap_setCell W7 ⟨M,5,none⟩ _ _ hRM).trans hR7
  have hG8:Gr2 W7 (W7.setCell ⟨M,5,none⟩ (.bool true)) M none:=(Gr2.refl _ _ _).setCell 5 _
  obtain⟨b7,y7⟩:=Zil hbx7
  have m5:=b7 5
  have f5:=y7 5 (by simp)
  clear b7 y7
  obtain⟨t0,t1,t2,t3,tf,_⟩:=Zb0 hT8
  obtain⟨r0,r1,r2,r3,rf,_⟩:=Zb0 hR8
  have rf0:=rf 0 (by decide)
  have rf1:=rf 1 (by decide)
  have rf2:=rf 2 (by decide)
  have rf3:=rf 3 (by decide)
  have hp4:=Zdv hR8 (.slice aov xo.length cov) (.bool xa) (.bool true) (.slice acv xc.length ccv)
  obtain⟨q1,q2,q3⟩:=gr_put HW7.out hG8 hMlt (.slice aov xo.length cov) (.bool xa) (.bool true) (.slice acv xc.length ccv)
  obtain⟨e0,e1,e2,e3,_,_⟩:=Zb0 hp4
  unfold put4 at e0 e1 e2 e3 q1 q2 q3
  have E0:=Zhd e0
  have E1:=Zhd e1
  have E2:=Zhd e2
  have E3:=Zhd e3
  have Q1:=Zhd q1
  have Q2:=Zhd (q2.trans hbx8)
  have Q3:=Zhd q3
  clear e0 e1 e2 e3 hp4 rf tf q1 q2 q3
  go_wp2_with fail
  have e0:=E0.out
  have e1:=E1.out
  have e2:=E2.out
  have e3:=E3.out
  refine bodyPost_ret (v := .tuple #[.agg #[.slice aov xo.length cov,.bool xa,.bool true,.slice acv xc.length ccv],.nilIface]) (by simp [results,Tryz.results21,go_sem,e0,e1,e2,e3]) rfl ?_
  rw [HX.out]
  refine⟨_,_,_,rfl,Q1.out,HM.out.fin Q1.out (s':=⟨s.first,s.mem,true⟩) (vm' := .slice am s.mem.length cm) ?_ ?_ ?_,HK5.out.le (Zix (by omega) fun b h1 h2=>?_)⟩
  ·exact Q2.out
  ·exact SlV.le HM.out.mem (Zdy HM.out.isin _) VlC.mono
  ·exact HM.out.len
  obtain⟨g1,g2,g3⟩:=HSM.out b h1 h2
  rw [Q3.out b g2 g3];exact g1
 | false=>
  have hbx8:=Zaa W7 M 3 (.bool false) _ _ _ hbx7
  have hT8:(W7.setCell ⟨M,3,none⟩ (.bool false)).heap[TB]?=_:=(Below.heap_setCell W7 ⟨M,3,none⟩ _ _ hTM).trans hT
  have hR8:(W7.setCell ⟨M,3,none⟩ (.bool false)).heap[w.heap.size]?=_:=(Below.heap_setCell W7 ⟨M,3,none⟩ _ _ hRM).trans hR7
  have hG8:Gr2 W7 (W7.setCell ⟨M,3,none⟩ (.bool false)) M none:=(Gr2.refl _ _ _).setCell 3 _
  obtain⟨b7,y7⟩:=Zil hbx7
  have m3:=b7 3
  have f3:=y7 3 (by simp)
  obtain⟨b8,y8⟩:=Zil hbx8
  have m4:=b8 4
  have f4:=y8 4 (by simp)
  have hbx8:=Zaa _ M 4 (.slice a5 xm.length c5) _ _ _ hbx8
  have hT8:((W7.setCell ⟨M,3,none⟩ (.bool false)).setCell ⟨M,4,none⟩ (.slice a5 xm.length c5)).heap[TB]?=_:=(Below.heap_setCell _ ⟨M,4,none⟩ _ _ hTM).trans hT8
  have hR8:((W7.setCell ⟨M,3,none⟩ (.bool false)).setCell ⟨M,4,none⟩ (.slice a5 xm.length c5)).heap[w.heap.size]?=_:=(Below.heap_setCell _ ⟨M,4,none⟩ _ _ hRM).trans hR8
  have hG8:Gr2 W7 ((W7.setCell ⟨M,3,none⟩ (.bool false)).setCell ⟨M,4,none⟩ (.slice a5 xm.length c5)) M none:=hG8.setCell 4 _
  clear b7 y7 b8 y8
  obtain⟨t0,t1,t2,t3,tf,_⟩:=Zb0 hT8
  obtain⟨r0,r1,r2,r3,rf,_⟩:=Zb0 hR8
  have rf0:=rf 0 (by decide)
  have rf1:=rf 1 (by decide)
  have rf2:=rf 2 (by decide)
  have rf3:=rf 3 (by decide)
  have hp4:=Zdv hR8 (.slice aov xo.length cov) (.bool xa) (.bool false) (.slice acv xc.length ccv)
  obtain⟨q1,q2,q3⟩:=gr_put HW7.out hG8 hMlt (.slice aov xo.length cov) (.bool xa) (.bool false) (.slice acv xc.length ccv)
  obtain⟨e0,e1,e2,e3,_,_⟩:=Zb0 hp4
  unfold put4 at e0 e1 e2 e3 q1 q2 q3
  have E0:=Zhd e0
  have E1:=Zhd e1
  have E2:=Zhd e2
  have E3:=Zhd e3
  have Q1:=Zhd q1
  have Q2:=Zhd (q2.trans hbx8)
  have Q3:=Zhd q3
  clear e0 e1 e2 e3 hp4 rf tf q1 q2 q3
  go_wp2_with fail
  have e0:=E0.out
  have e1:=E1.out
  have e2:=E2.out
  have e3:=E3.out
  refine bodyPost_ret (v := .tuple #[.agg #[.slice aov xo.length cov,.bool xa,.bool false,.slice acv xc.length ccv],.nilIface]) (by simp [results,Tryz.results21,go_sem,e0,e1,e2,e3]) rfl ?_
  rw [HX.out]
  refine⟨_,_,_,rfl,Q1.out,HM.out.fin Q1.out (s':=⟨false,xm,false⟩) (vm' := .slice a5 xm.length c5) ?_ ?_ ?_,HK5.out.le (Zix (by omega) fun b h1 h2=>?_)⟩
  ·have q:=Q2.out
   rw [htr] at q
   exact q
  ·exact SlV.le HM5.out (Kn.le_trans (Zix (n:=w.heap.size) (by omega) fun b h1 h2=>by
    obtain⟨g1,g2,g3⟩:=HSM.out b h1 h2
    rw [Q3.out b g2 g3];exact g1) (Zgx _ _ _)) VlC.mono
  ·exact HNL.out trivial
  obtain⟨g1,g2,g3⟩:=HSM.out b h1 h2
  rw [Q3.out b g2 g3];exact g1):p:=h
theorem mSp1 {p:Prop} (h:p:=by
 intro w hSw;obtain⟨z0,z1,z2,z3,z4⟩:=hSw.c5 k0 k1 k2 k3 k4;go_simp<;>with_reducible rfl):p:=h
theorem newKn_in (n:Nat) (w:World):(Zcd n w).In w:=fun b o e=>by
 unfold Zcd at e
 split at e
 ·cases e
 exact e
theorem Zil {W:World} {b:Nat} {cs:Array Value} {t:TypeId} (h:W.heap[b]?=some (.cells cs t (0,0))):(∀ i,W.cell? ⟨b,i,none⟩=cs[i]?)∧∀ i,i<cs.size→W.frozen? ⟨b,i,none⟩=false:=
 ⟨fun i=>by simp [World.cell?,h],fun i _=>by simp [World.frozen?,h]⟩
theorem cell_lt {w:World} {b o:Nat} {v:Value} (h:w.cell? ⟨b,o,none⟩=some v):b<w.heap.size:=by
 unfold World.cell? at h
 cases e:w.heap[b]? with
 | none=>simp [e] at h
 | some x=>exact (Zlt e)
theorem SlV.hidx {α:Type} {H:Kn} {k n c:Nat} {R:α→(Nat→Option Value)→Prop} {l:List α} {a:Option Addr} (h:SlV H k R l (.slice a n c)) (hl:0<l.length):∃ b off,a=some ⟨b,off,none⟩∧n=l.length∧l.length≤c:=by
 rcases h with ⟨rfl,_⟩ | ⟨b,off,cap,h1,h2,h3,h4⟩
 ·simp at hl
 cases h1
 exact⟨b,off,rfl,rfl,h2⟩
theorem state_any {R:REnv} {p:Pr} {ord:List Nat} {K:Kn} {w:World} {M B:Nat} {s:Mc} {vm:Value} (h:McAt 107 137 130 R p ord K w M B s vm) (hz:s.mem.length≤100000000):
  Calls Tryz.prog 19 #[ptrV M] w fun r w'=>∃ v,r = .returned v∧VlsV (Zcd w.heap.size w') (stateM s) v∧Below w.heap.size w w':=by
 obtain⟨am,cm,rfl⟩:=h.mem.len
 have k3:(mcKn K 107 R M B s (.slice am s.mem.length cm)).cell M 3=some (.bool s.first):=Zed 3
 have k4:(mcKn K 107 R M B s (.slice am s.mem.length cm)).cell M 4=some (.slice am s.mem.length cm):=Zed 4
 have hS:(mcKn K 107 R M B s (.slice am s.mem.length cm)).In w.drew:=h.kn
 have hmem:=SlV.le h.mem (mcKn_le (s:=s) (MT:=107) (R:=R) (B:=B) (vm := .slice am s.mem.length cm) h.no) VlC.mono
 have hbD:Below w.heap.size w w.drew:=(Below.refl _ _).drew
 have hsm:stateM s=[tv s.first]++s.mem:=rfl
 generalize (mcKn K 107 R M B s (.slice am s.mem.length cm))=KM at *
 have HSM:=Zhd hsm
 clear hsm h
 generalize stateM s=SL at *
 obtain⟨first,mem,trapped⟩:=s
 dsimp only at *
 go_enter Tryz.func19,Tryz.ntmps19
 go_wp2_with fail
 refine Zae (fun w'=>KM.In w') (fun _=>True) 99 (by kernel_rfl) ?_
 refine Go.w3 0 ?_
 iterate 4 ((first | (refine tk3 (v:=?_) rfl hS Ztr ?hy ?_;(case hy=>intro w hSw;obtain⟨z0,z1⟩:=hSw.c2 k3 k4;go_simp<;>with_reducible rfl)) | refine sk3 rfl hS Ztr ?_ | refine no3 ?_);refine Zss ?_)
 refine Go.w3e ?_
 refine Go.w3 6 ?_
 iterate 4 ((first | (refine tk3 (v:=?_) rfl hS Ztr ?hy ?_;(case hy=>intro w hSw;obtain⟨z0,z1⟩:=hSw.c2 k3 k4;go_simp<;>with_reducible rfl)) | refine sk3 rfl hS Ztr ?_ | refine no3 ?_);refine Zss ?_)
 refine Go.w3e ?_
 refine Zwo 4 rfl fun K_ hK=>?_
 go_simp
 go_at_call 42
 refine (Zds _ _).mono ?_
 rintro r5 w5 ⟨rfl,hb5⟩
 have hS5:=hS.below hb5
 have hB5:=hbD.trans (hb5.mono hbD.size)
 obtain⟨xk,xn,hx⟩:∃ xk xn,tv first=⟨xk,xn⟩:=⟨_,_,rfl⟩
 rw [hx]
 rw [hx] at HSM
 refine hK.out _ _ (hS5) Ztr ?_
 clear hK K_
 refine Zst ?_
 refine Zwo 5 rfl fun K_ hK=>?_
 go_simp
 refine hK.out _ _ ((hS5.alloc _)) Ztr ?_
 clear hK K_
 refine Zst ?_
 have hrow0:(w5.alloc (.cells #[.int .i64 xk,.int .i64 xn] 75)).ownsRow w5.heap.size 75 2 (.slice (some ⟨w5.heap.size,0,none⟩) 1 1) 1 [.int .i64 xk,.int .i64 xn]:=
  ⟨by simp,.inr ⟨w5.heap.size,1,#[.int .i64 xk,.int .i64 xn],rfl,Nat.le_refl _,heap_alloc_new w5 _,Nat.le_refl _,by unfold maxLen;omega,rfl,rfl⟩⟩
 obtain⟨v',w6,hrun,hown,hg⟩:=run_app_vls (hS5.alloc _) hmem hrow0 (by simp) (by omega)
 have hba:Below w5.heap.size w5 (w5.alloc (.cells #[.int .i64 xk,.int .i64 xn] 75)):=(Below.refl _ _).alloc (Nat.le_refl _) _
 have hb6:Below w5.heap.size w5 w6:=hba.grown hg hba.size (fun q hq=>(hrow0.lt q hq).1)
 have hS6:=hS5.below hb6
 refine Zwo 10 rfl fun K_ hK=>?_
 refine step_append_run rfl 57 57 _ _ rfl _ _ rfl rfl _ _ hrun ?_
 refine hK.out _ _ (hS6) Ztr ?_
 clear hK K_
 refine Zst ?_
 refine tk2 (i:=11) (v:=?_) rfl hS6 Ztr ?hy ?_
 case hy=>intro w hSw;obtain⟨z0,z1⟩:=hSw.c2 k3 k4;go_simp<;>with_reducible rfl
 refine Zst ?_
 refine Zwd ?_
 go_wp2_with fail
 go_ret
 refine⟨_,rfl,?_,hB5.trans (hb6.mono hB5.size)⟩
 rw [HSM.out]
 refine vls_row (T:=75) (base:=w5.heap.size) ?_ hB5.size
 have e:([⟨xk,xn⟩]++mem:List Vl).length=1+mem.length:=by simp;omega
 rw [e]
 exact hown
theorem McAt.fin {MT NT CT:TypeId} {R:REnv} {p:Pr} {ord:List Nat} {K:Kn} {w W:World} {M B:Nat} {s s':Mc} {vm vm':Value} (h:McAt MT NT CT R p ord K w M B s vm) (g:Gr2 w W M none) (hb:W.heap[M]?=some (.cells (mcV R B s' vm') MT (0,0))) (hm:VlsV (Zcz K w.heap.size W) s'.mem vm') (hl:s'.mem.length=Zam p.terms):
  McAt MT NT CT R p ord (Zcz K w.heap.size W) W M B s' vm':=
 ⟨hb,joinKn_gr h.isin g h.no,by rw [joinKn_at h.lt];exact h.no,h.code.le (Zdy h.isin W),hm,hl⟩
theorem Zix {n n':Nat} {W W2:World} (hn:n≤n') (g:∀ b,n'≤b→b<W.heap.size→W2.heap[b]?=W.heap[b]?):(Zcd n' W).le (Zcd n W2):=fun b o e=>by
 unfold Zcd at e ⊢
 split at e
 ·cases e
 rename_i hb
 rw [if_neg (by omega),g b (by omega) (Zlt e)]
 exact e
theorem gr_put {w W7 W8:World} {M:Nat} (h7:Below w.heap.size w W7) (g8:Gr2 W7 W8 M none) (hMw:M<w.heap.size) (x y z u:Value):Gr2 w (put4 W8 w.heap.size x y z u) M none∧(put4 W8 w.heap.size x y z u).heap[M]?=W8.heap[M]?∧∀ b,w.heap.size<b→b<W7.heap.size→(put4 W8 w.heap.size x y z u).heap[b]?=W7.heap[b]?:=by
 have hp:=Zgr (Below.refl w.heap.size W8) (Nat.le_refl _) x y z u
 refine⟨⟨hp.os.trans (g8.os.trans h7.os),hp.tape.trans (g8.tape.trans h7.tape),hp.output.trans (g8.output.trans h7.output),Nat.le_trans h7.size (Nat.le_trans g8.size hp.size),fun i hi h1 _=>?_⟩,Zgq _ _ _ _ (by omega),fun b hb hb2=>?_⟩
 ·rw [Zgq _ _ _ _ (by omega),g8.block i (by have:=h7.size;omega) h1 (by simp)]
  exact h7.block i hi
 rw [Zgq _ _ _ _ (by omega)]
 exact g8.block b hb2 (by omega) (by simp)
theorem trapT_V (K:Kn):TkV K trapT (.slice none 0 0) (.slice none 0 0):=⟨.inl ⟨rfl,none,0,rfl⟩,.inl ⟨rfl,none,0,rfl⟩⟩
theorem noT_V (K:Kn):TkV K noT (.slice none 0 0) (.slice none 0 0):=⟨.inl ⟨rfl,none,0,rfl⟩,.inl ⟨rfl,none,0,rfl⟩⟩
theorem mtick_any (sp:Nat→Addr) {R:REnv} {p:Pr} {ord:List Nat} {K:Kn} {w:World} {M B:Nat} {s:Mc} {vm:Value} (h:McAt 107 137 130 R p ord K w M B s vm) (HC:CdR R p ord) (S5:Sen5 w sp) (inp:List Vl) (vi:Value) (hi:VlsV K inp vi) (hil:inp.length≤1000000):
  Calls Tryz.prog 21 #[ptrV M,vi] w fun r w'=>∃ vm' ov cv,r = .returned (.tuple #[.agg #[ov,.bool (Zc3 R (cdOf p ord) p.ins s inp).2.1.asrt,.bool (Zc3 R (cdOf p ord) p.ins s inp).2.1.trap,cv],errV sp (Zc3 R (cdOf p ord) p.ins s inp).1])∧Gr2 w w' M none∧McAt 107 137 130 R p ord (Zcz K w.heap.size w') w' M B (Zc3 R (cdOf p ord) p.ins s inp).2.2 vm'∧TkV (Zcd w.heap.size w') (Zc3 R (cdOf p ord) p.ins s inp).2.1 ov cv:=by
 obtain⟨am,cm,hame⟩:=h.mem.len
 subst hame
 obtain⟨ai,ci,rfl⟩:=hi.len
 obtain⟨cs,vI,vo,vf,va,vc,vu,vM,hcb,⟨e0,h0⟩,_,_,_,_,_,_⟩:=h.code.ex
 have hMlt:=h.lt
 have hb0:Below w.heap.size w (w.alloc (.cells #[.slice none 0 0,.bool false,.bool false,.slice none 0 0] 62)):=(Below.refl _ _).alloc (Nat.le_refl _) _
 have hR0:=heap_alloc_new w (.cells #[.slice none 0 0,.bool false,.bool false,.slice none 0 0] 62)
 have hz0:w.heap.size<(w.alloc (.cells #[.slice none 0 0,.bool false,.bool false,.slice none 0 0] 62)).heap.size:=by simp
 have h1:=h.below hb0
 have HM:=Zhd h
 clear h
 cases htr:s.trapped with
 | true=>
  have c5:(w.alloc (.cells #[.slice none 0 0,.bool false,.bool false,.slice none 0 0] 62)).cell? ⟨M,5,none⟩=some (.bool true):=(h1.cell 5).trans (by simp [mcV,htr])
  have HX:=Zhd (show (Zc3 R (cdOf p ord) p.ins s inp)=(0,trapT,s) from by unfold Zc3;rw [if_pos htr])
  clear h1 hb0 hR0 hz0 hcb e0 h0
  go_enter Tryz.func21,Tryz.ntmps21
  go_wp2_with fail
  refine bodyPost_ret (v := .tuple #[.agg #[.slice none 0 0,.bool false,.bool true,.slice none 0 0],.nilIface]) (by simp [results,Tryz.results21,go_sem]) rfl ?_
  rw [HX.out]
  have hb:Below w.heap.size w (w.alloc (.cells #[.slice none 0 0,.bool false,.bool true,.slice none 0 0] 62)):=(Below.refl _ _).alloc (Nat.le_refl _) _
  exact⟨_,_,_,rfl,Gr2.of_below hb _ _,HM.out.join hb,trapT_V _⟩
 | false=>
  have c5:(w.alloc (.cells #[.slice none 0 0,.bool false,.bool false,.slice none 0 0] 62)).cell? ⟨M,5,none⟩=some (.bool false):=(h1.cell 5).trans (by simp [mcV,htr])
  have c0:(w.alloc (.cells #[.slice none 0 0,.bool false,.bool false,.slice none 0 0] 62)).cell? ⟨M,0,none⟩=some (ptrV B):=h1.cell 0
  generalize hW0:w.alloc (.cells #[.slice none 0 0,.bool false,.bool false,.slice none 0 0] 62)=W0 at *
  go_enter Tryz.func21,Tryz.ntmps21
  have hcall:=inputs_any K B cs p.ins inp vI _ hcb e0 h0 hi ⟨by omega,by have:=HC.z7;omega⟩ W0 h1.isin
  have HH1:=Zhd h1
  have HR0:=Zhd hR0
  have HB0:=Zhd hb0
  clear hcb e0 h0 h1 hR0 hb0
  go_wp2_with fail
  refine hcall.mono ?_
  rintro r w2 ⟨rfl,hb2⟩
  clear c5 c0 hcall
  have hR2:=(hb2.block w.heap.size hz0).trans HR0.out
  have hb02:=HB0.out.trans (hb2.mono HB0.out.size)
  have h2:=HH1.out.below hb2
  have hz2:w.heap.size<w2.heap.size:=Nat.lt_of_lt_of_le hz0 hb2.size
  have HR2:=Zhd hR2
  have HB2:=Zhd hb02
  have HM2:=Zhd h2
  clear HB0 HR0 HH1 hb2 hR2 hb02 h2 hz0
  cases hok:Zav p.ins inp inp.length with
  | false=>
   have HX:=Zhd (show (Zc3 R (cdOf p ord) p.ins s inp)=(5,noT,s) from by unfold Zc3;rw [if_neg (by simp [htr]),if_neg (by simp [hok])])
   go_wp2_with fail
   have hbD:Below w.heap.size w w2.drew:=HB2.out.drew
   have hS:Sen5 w2.drew sp:=S5.below hbD
   obtain⟨r0,r1,r2,r3,rf,_⟩:=Zb0 (W:=w2.drew) (show w2.drew.heap[w.heap.size]?=some (.cells #[.slice none 0 0,.bool false,.bool false,.slice none 0 0] 62 (0,0)) from HR2.out)
   have rf0:=rf 0 (by decide)
   have rf1:=rf 1 (by decide)
   have rf2:=rf 2 (by decide)
   have rf3:=rf 3 (by decide)
   have hp4:=Zdv (W:=w2.drew) (show w2.drew.heap[w.heap.size]?=some (.cells #[.slice none 0 0,.bool false,.bool false,.slice none 0 0] 62 (0,0)) from HR2.out) (.slice none 0 0) (.bool false) (.bool false) (.slice none 0 0)
   have HB4:=Zhd (Zgr hbD (Nat.le_refl _) (.slice none 0 0) (.bool false) (.bool false) (.slice none 0 0))
   have hS4:=S5.below HB4.out
   obtain⟨e0,e1,e2,e3,_,_⟩:=Zb0 hp4
   unfold put4 at e0 e1 e2 e3 hS4
   have E0:=Zhd e0
   have E1:=Zhd e1
   have E2:=Zhd e2
   have E3:=Zhd e3
   clear e0 e1 e2 e3 hp4 rf hbD
   refine Zae (fun w'=>Sen5 w' sp) (fun _=>True) 99 (by kernel_rfl) ?_
   generalize w2.drew=Wd at *
   refine Go.w3 0 ?_
   iterate 2 ((first | (refine tk3 (v:=?_) rfl hS Ztr ?hy ?_;(case hy=>intro w hSw;have z0:=hSw.c4;go_simp<;>with_reducible rfl)) | refine sk3 rfl hS Ztr ?_ | refine no3 ?_);refine Zss ?_)
   refine Go.w3e ?_
   refine Zwo 2 rfl fun K_ hK=>?_
   go_simp
   refine hK.out _ _ (hS4) Ztr ?_
   clear hK K_
   refine Zst ?_
   refine tk2 (i:=3) (v:=?_) rfl hS4 Ztr ?hy ?_
   case hy=>intro w hSw;have z0:=hSw.c4;go_simp<;>with_reducible rfl
   refine Zst ?_
   refine Zwd ?_
   go_wp2_with fail
   have e0:=E0.out
   have e1:=E1.out
   have e2:=E2.out
   have e3:=E3.out
   refine bodyPost_ret (v := .tuple #[.agg #[.slice none 0 0,.bool false,.bool false,.slice none 0 0],errV sp 5]) (by simp [results,Tryz.results21,go_sem,e0,e1,e2,e3,errV,esv]) rfl ?_
   rw [HX.out]
   exact⟨_,_,_,rfl,Gr2.of_below HB4.out _ _,HM.out.join HB4.out,noT_V _⟩
  | true=>
   have hil2:inp.length=p.ins.length:=by
    unfold Zav at hok
    simp only [Bool.and_eq_true,decide_eq_true_eq] at hok
    exact hok.1
   have HX:=Zhd (show (Zc3 R (cdOf p ord) p.ins s inp)=(if (Zco R (cdOf p ord) s.first s.mem inp).1.trap=true then (0,(Zco R (cdOf p ord) s.first s.mem inp).1,⟨s.first,s.mem,true⟩) else (0,(Zco R (cdOf p ord) s.first s.mem inp).1,⟨false,(Zco R (cdOf p ord) s.first s.mem inp).2,false⟩)) from by unfold Zc3;rw [if_neg (by simp [htr]),if_pos hok])
   have hcall:∀ W,K.In W→_:=fun W hK=>tick_any R K p ord B HM2.out.code HC.f HC.pa HC.nm HC.od HC.ou ⟨HC.z1,HC.z2,HC.z3,HC.z4,HC.z5,HC.z6,HC.z7⟩ HC.ps s.first s.mem inp _ _ HM2.out.mem hi HM2.out.len hil2 W hK
   have hnl:=tickM_len R (cdOf p ord) s.first s.mem inp
   rw [show (cdOf p ord).ms.length=Zam p.terms from HC.ml] at hnl
   generalize Zco R (cdOf p ord) s.first s.mem inp=X at *
   obtain⟨⟨xo,xa,xt,xc⟩,xm⟩:=X
   dsimp only at hcall hnl HX
   have HNL:=Zhd hnl
   have HCALL:=Zhd hcall
   have k0:(mcKn K 107 R M B s (.slice am s.mem.length cm)).cell M 0=some (ptrV B):=Zed 0
   have k1:(mcKn K 107 R M B s (.slice am s.mem.length cm)).cell M 1=some (.bool R.nb):=Zed 1
   have k2:(mcKn K 107 R M B s (.slice am s.mem.length cm)).cell M 2=some (.int .i64 R.ni):=Zed 2
   have k3:(mcKn K 107 R M B s (.slice am s.mem.length cm)).cell M 3=some (.bool s.first):=Zed 3
   have k4:(mcKn K 107 R M B s (.slice am s.mem.length cm)).cell M 4=some (.slice am s.mem.length cm):=Zed 4
   have hS:(mcKn K 107 R M B s (.slice am s.mem.length cm)).In w2.drew:=HM2.out.kn
   have hle:K.le (mcKn K 107 R M B s (.slice am s.mem.length cm)):=mcKn_le HM.out.no
   have hbD:Below w2.heap.size w2 w2.drew:=(Below.refl _ _).drew
   have hbx:w2.drew.heap[M]?=some (.cells (mcV R B s (.slice am s.mem.length cm)) 107 (0,0)):=HM2.out.box
   have hMl2:M<w2.drew.heap.size:=HM2.out.lt
   have hRl2:w.heap.size<w2.drew.heap.size:=hz2
   have hR:w2.drew.heap[w.heap.size]?=some (.cells #[.slice none 0 0,.bool false,.bool false,.slice none 0 0] 62 (0,0)):=HR2.out
   have hin:∀ W,(mcKn K 107 R M B s (.slice am s.mem.length cm)).In W→K.In W:=fun W h b o e=>h b o (hle b o e)
   generalize (mcKn K 107 R M B s (.slice am s.mem.length cm))=KM at *
   have HIN:=Zhd hin
   have FIN:=Zhd (show ∀ (W:World) (TB:Nat) (u5:Value),Below w2.drew.heap.size w2.drew W→True→True from fun _ _ _ _ _=>trivial)
   clear hnl hcall hle hin hil2 hok FIN
   go_wp2_with fail
   refine Zae (fun w'=>KM.In w') (fun _=>True) 99 (by kernel_rfl) ?_
   generalize w2.drew=Wd at *
   refine Go.w3 0 ?_
   iterate 17 ((first | (refine tk3 (v:=?_) rfl hS Ztr ?hy ?_;(case hy=>exact mSp1)) | refine sk3 rfl hS Ztr ?_ | refine no3 ?_);refine Zss ?_)
   refine Go.w3e ?_
   refine Zb7 (i:=17) (j:=21) (o:=_) (o':=_) (by kernel_rfl) rfl rfl (fun K_ hK=>?_) (fun K_ hK=>?_)
   ·go_simp
    go_at_call 34
    refine (HCALL.out _ (HIN.out _ hS)).mono ?_
    rintro ret w5 ⟨ov,cv,u5,rfl,hk5,hm5,hb5⟩
    obtain⟨aov,cov,rfl⟩:=hk5.outs.len
    obtain⟨acv,ccv,rfl⟩:=hk5.checks.len
    obtain⟨a5,c5,rfl⟩:=hm5.len
    have hS5:=hS.below hb5
    refine hK.out _ _ hS5 Ztr ?_
    clear hK K_
    refine Zst ?_
    refine Go.w3 18 ?_
    iterate 3 ((first | (refine tk3 (v:=?_) rfl hS5 Ztr ?hy ?_;(case hy=>exact mSp1)) | refine sk3 rfl hS5 Ztr ?_ | refine no3 ?_);refine Zss ?_)
    refine Go.w3e ?_
    refine Zwo 21 rfl fun K_ hK=>?_
    go_simp
    refine hK.out _ _ ((hS5.alloc _)) Ztr ?_
    clear hK K_
    refine Zst ?_
    have hT0:=heap_alloc_new w5 (.cells #[.slice none 0 0,.bool false,.bool false,.slice none 0 0] 62)
    have hTW:Wd.heap.size≤w5.heap.size:=hb5.size
    have hb6:Below Wd.heap.size Wd (w5.alloc (.cells #[.slice none 0 0,.bool false,.bool false,.slice none 0 0] 62)):=hb5.alloc hb5.size _
    generalize hn5e:Wd.heap.size=n5 at hk5 hm5
    have hn5:Wd.heap.size≤n5:=Nat.le_of_eq hn5e
    have hs56:w5.heap.size≤(w5.alloc (.cells #[.slice none 0 0,.bool false,.bool false,.slice none 0 0] 62)).heap.size:=by simp
    generalize hTB:w5.heap.size=TB at hT0 hTW ⊢
    have hsame:∀ b,n5≤b→b<w5.heap.size→b≠TB∧(w5.alloc (.cells #[.slice none 0 0,.bool false,.bool false,.slice none 0 0] 62)).heap[b]?=w5.heap[b]?:=fun b _ hb=>⟨by omega,Below.heap_alloc _ _ _ hb⟩
    generalize w5.alloc (.cells #[.slice none 0 0,.bool false,.bool false,.slice none 0 0] 62)=w6 at *
    exact mSp2
   go_simp
   refine hK.out _ _ (hS.alloc _) Ztr ?_
   clear hK K_
   refine Zst ?_
   have hba:Below Wd.heap.size Wd (Wd.alloc (.cells #[.slice none 0 0,.bool false,.bool false,.slice none 0 0] 62)):=(Below.refl _ _).alloc (Nat.le_refl _) _
   have hT0:=heap_alloc_new Wd (.cells #[.slice none 0 0,.bool false,.bool false,.slice none 0 0] 62)
   have hSA:=hS.alloc (.cells #[.slice none 0 0,.bool false,.bool false,.slice none 0 0] 62)
   have hTl0:Wd.heap.size<(Wd.alloc (.cells #[.slice none 0 0,.bool false,.bool false,.slice none 0 0] 62)).heap.size:=by simp
   generalize hTB:Wd.heap.size=TB at hT0 hTl0 ⊢
   generalize Wd.alloc (.cells #[.slice none 0 0,.bool false,.bool false,.slice none 0 0] 62)=WA at *
   refine Zwo 17 rfl fun K_ hK=>?_
   go_simp
   go_at_call 34
   refine (HCALL.out _ (HIN.out _ hSA)).mono ?_
   rintro ret w5 ⟨ov,cv,u5,rfl,hk5,hm5,hb5⟩
   obtain⟨aov,cov,rfl⟩:=hk5.outs.len
   obtain⟨acv,ccv,rfl⟩:=hk5.checks.len
   obtain⟨a5,c5,rfl⟩:=hm5.len
   have hS5:=hSA.below hb5
   refine hK.out _ _ (hS5) Ztr ?_
   clear hK K_
   refine Zst ?_
   refine Go.w3 18 ?_
   iterate 3 ((first | (refine tk3 (v:=?_) rfl hS5 Ztr ?hy ?_;(case hy=>exact mSp1)) | refine sk3 rfl hS5 Ztr ?_ | refine no3 ?_);refine Zss ?_)
   refine Go.w3e ?_
   have hT0:=(hb5.block TB hTl0).trans hT0
   have hTW:Wd.heap.size≤TB:=Nat.le_of_eq hTB
   have hb6:Below Wd.heap.size Wd w5:=hba.trans (hb5.mono hba.size)
   have hsame:∀ b,WA.heap.size≤b→b<w5.heap.size→b≠TB∧w5.heap[b]?=w5.heap[b]?:=fun b hb _=>⟨by omega,rfl⟩
   have hn5:Wd.heap.size≤WA.heap.size:=hba.size
   have hs56:w5.heap.size≤w5.heap.size:=Nat.le_refl _
   generalize WA.heap.size=n5 at hk5 hm5 hsame hn5
   clear hb5 hba hSA hTl0
   obtain⟨w6,hw6⟩:∃ w6,w6=w5:=⟨_,rfl⟩
   rw [← hw6] at hT0 hb6 ⊢
   have hsame:∀ b,n5≤b→b<w5.heap.size→b≠TB∧w6.heap[b]?=w5.heap[b]?:=by rw [hw6];exact hsame
   have hs56:w5.heap.size≤w6.heap.size:=by rw [hw6];exact hs56
   clear hw6
   exact mSp2
theorem vls_apart {w5 w6:World} {M:Nat} {cp:Value} {x0 x1 x3 x5:Bool} {x2:Int} {a:Option Addr} {n c:Nat} {MT:TypeId} {fr:Nat×Nat} {l:List Vl} {v:Value} (hv:VlsV (Zag w5) l v) (hcp:∀ k z,cp ≠ .int k z) (hM:w5.heap[M]?=some (.cells #[cp,.bool x1,.int .i64 x2,.bool x3,.slice a n c,.bool x5] MT fr)) (hs:∀ b,b≠M→w6.heap[b]?=w5.heap[b]?):VlsV (noKn M w6) l v:=by
 rcases hv with ⟨rfl,h⟩ | ⟨b,off,cap,rfl,h2,h3,h4⟩
 ·exact .inl ⟨rfl,h⟩
 by_cases h0:l=[]
 ·subst h0;exact .inl ⟨rfl,_,_,rfl⟩
 have hl:0<l.length:=List.length_pos_iff.2 h0
 have hb:b≠M:=fun e=>by
  subst e
  obtain⟨q0,q1⟩:=h4 0 hl
  simp only [Zad,World.cell?,hM,Nat.zero_mul,Nat.add_zero] at q0 q1
  rcases off with _ | _ | _ | _ | _ | _ | off<;>simp_all
 refine .inr ⟨b,off,cap,rfl,h2,h3,fun i hi=>?_⟩
 have:=h4 i hi
 have hc:∀ j,(noKn M w6).cell b j=(Zag w5).cell b j:=fun j=>by rw [Zcg hb,Zad];simp [World.cell?,hs b hb]
 simp only [hc]
 exact this
def hiKn (n:Nat) (K:Kn):Kn:=fun b=>if b<n then none else K b
def CodeNewK (CT:TypeId) (R:REnv) (K:Kn) (p:Pr) (ord:List Nat) (B:Nat):Prop:=
 ∃ cs vo vu,K B=some (.cells cs CT (0,0))∧cs[5]?=some vo∧Zcc K ord vo∧cs[9]?=some vu∧OutsV K (cdOf p ord).outs vu
theorem CodeNew.fin {CT:TypeId} {R:REnv} {n n1 M:Nat} {w3 w':World} {p:Pr} {ord:List Nat} {B:Nat} (h:CodeNew CT R n1 w3 p ord B) (hn:n≤n1) (hB:n1≤B) (hM:w3.heap.size≤M) (hs:∀ b,b<w3.heap.size→w'.heap[b]?=w3.heap[b]?):CodeNewK CT R (hiKn n (noKn M w')) p ord B:=by
 obtain⟨cs,vo,vu,h1,h2,h3,h4,h5⟩:=h
 have hle:(Zcd n1 w3).le (hiKn n (noKn M w')):=fun b o e=>by
  unfold Zcd at e
  split at e
  ·cases e
  rename_i hb
  have hlt:=(Zlt e)
  unfold hiKn noKn
  rw [if_neg (by omega),if_neg (by omega),hs b hlt]
  exact e
 refine⟨cs,vo,vu,hle _ _ ?_,h2,Zcc.le hle h3,h4,OutsV.le hle h5⟩
 unfold Zcd
 rw [if_neg (by omega)]
 exact h1
def NewPost (sp:Nat→Addr) (nb:Bool) (ni:Int) (p:Pr) (w:World) (r:Ending) (w':World):Prop:=
 Below w.heap.size w w'∧(((runE p [] ni).1=0∧∃ M B ks ord vm,Zap Env.none p.vars=some ks∧Zbf p = .ok ord∧r = .returned (.tuple #[ptrV M,.nilIface])∧w.heap.size≤M∧
   McAt 107 137 130 ⟨ks,Zac p,getI (Zai p),nb,ni⟩ p ord (noKn M w') w' M B ⟨true,Zbb ⟨ks,Zac p,getI (Zai p),nb,ni⟩ (Zab 0 p.terms),false⟩ vm∧CodeNewK 130 ⟨ks,Zac p,getI (Zai p),nb,ni⟩ (hiKn w.heap.size (noKn M w')) p ord B)∨
  ((runE p [] ni).1≠0∧∃ t v,r = .returned (.tuple #[.pointer none,.iface t v])∧ErrW sp w' (runE p [] ni).1 (runE p [] ni).2 (.iface t v)))
theorem new_any (H:Kn) (T:Zbl H) (sp:Nat→Addr) (p:Pr) (vi vo vl va vc:Value) (hp:PrP H p vi vo vl va vc) (w:World) (hH:H.In w) (S:Sen5 w sp) (nb:Bool) (ni:Int)
  (hsz:p.ins.length≤1000000∧p.fl.length≤1000000∧p.outs.length≤1000000000∧p.as.length≤1000000∧p.cs.length≤1000000) (hpt:Ex.partsL p.terms≤1000000000):
  Calls Tryz.prog 17 #[.agg #[vi,vo,vl,va,vc],.bool nb,.int .i64 ni] w (NewPost sp nb ni p w):=by
 obtain⟨z1,z2,z3,z4,z5⟩:=hsz
 have HP:=Zhd hp
 obtain⟨h1,h2,h3,h4,h5⟩:=hp
 obtain⟨ai,ci,rfl⟩:=h1.len
 obtain⟨ao,co,rfl⟩:=h2.len
 obtain⟨al,cl,rfl⟩:=h3.len
 obtain⟨aa,ca,rfl⟩:=h4.len
 obtain⟨ac,cc,rfl⟩:=h5.len
 clear h1 h2 h3 h4 h5
 have hP0:=heap_alloc_new w (.cells #[.slice ai p.ins.length ci,.slice ao p.outs.length co,.slice al p.fl.length cl,.slice aa p.as.length ca,.slice ac p.cs.length cc] 41)
 have hb0:Below w.heap.size w (w.alloc (.cells #[.slice ai p.ins.length ci,.slice ao p.outs.length co,.slice al p.fl.length cl,.slice aa p.as.length ca,.slice ac p.cs.length cc] 41)):=(Below.refl _ _).alloc (Nat.le_refl _) _
 have hsz0:w.heap.size<(w.alloc (.cells #[.slice ai p.ins.length ci,.slice ao p.outs.length co,.slice al p.fl.length cl,.slice aa p.as.length ca,.slice ac p.cs.length cc] 41)).heap.size:=by simp
 have HB0:=Zhd hb0
 have HP0:=Zhd hP0
 clear hP0 hb0
 go_enter Tryz.func17,Tryz.ntmps17
 go_wp2_with fail
 generalize w.alloc (.cells #[.slice ai p.ins.length ci,.slice ao p.outs.length co,.slice al p.fl.length cl,.slice aa p.as.length ca,.slice ac p.cs.length cc] 41)=W0 at *
 refine (run_any H T sp p _ _ _ _ _ HP.out [] _ (.inl ⟨rfl,none,0,rfl⟩) W0 (hH.below HB0.out) (S.below HB0.out) nb ni ⟨z1,z2,z3,z4,z5,fun l hl=>by cases hl⟩ hpt).mono ?_
 rintro r w1 hpost
 obtain⟨hb1,hpost⟩:=hpost.told
 have HB1:=Zhd (HB0.out.trans (hb1.mono HB0.out.size))
 have HP1:=Zhd ((hb1.block w.heap.size hsz0).trans HP0.out)
 clear hb1 hsz0
 rcases hpost with ⟨hE,v,rfl,hv⟩ | ⟨hE,t,u,rfl,he⟩
 case inr=>
  have HE:=Zhd he
  clear he
  go_wp2_with fail
  go_ret2
  exact⟨HB1.out,.inr ⟨hE,t,u,rfl,HE.out⟩⟩
 obtain⟨av,cv,rfl⟩:=hv.len
 clear hv
 have hc0:=(Ze0 hE).1
 obtain⟨n0,n1,n2,n3,n4⟩:w1.cell? ⟨w.heap.size,0,none⟩=some (.slice ai p.ins.length ci)∧w1.cell? ⟨w.heap.size,1,none⟩=some (.slice ao p.outs.length co)∧w1.cell? ⟨w.heap.size,2,none⟩=some (.slice al p.fl.length cl)∧w1.cell? ⟨w.heap.size,3,none⟩=some (.slice aa p.as.length ca)∧w1.cell? ⟨w.heap.size,4,none⟩=some (.slice ac p.cs.length cc):=by
  have h:=HP1.out
  refine⟨?_,?_,?_,?_,?_⟩<;>simp [World.cell?,h]
 have HE:=Zhd hE
 clear hE
 go_wp2_with fail
 refine (compile_any H T sp p _ _ _ _ _ HP.out w1 (hH.below HB1.out) (S.below HB1.out) nb ni ⟨z1,z2,z3,z4,z5⟩ hpt).mono ?_
 rintro r w3 ⟨hb3,hpost⟩
 rw [if_pos hc0] at hpost
 obtain⟨B,ks,ord,hks,ho,rfl,hC,hgB,hnew⟩:=hpost
 have HGB:=Zhd hgB
 have HNEW:=Zhd hnew
 have HNS:=Zhd HB1.out.size
 clear hgB hnew
 have HB3:=Zhd (HB1.out.trans (hb3.mono HB1.out.size))
 have HKS:=Zhd hks
 have HO:=Zhd ho
 have HC:=Zhd hC
 clear n0 n1 n2 n3 n4 hb3 hks ho hC
 obtain⟨cs,vI,vo,vf,va,vc,vu,vM,hcb,_,_,_,_,_,_,⟨e10,h10⟩⟩:=HC.out.ex
 have HCD:=Zhd (Zkg hc0 HKS.out HO.out nb ni z3 z4 z5)
 have hbM:Below w3.heap.size w3 (w3.alloc (.cells #[ptrV B,.bool nb,.int .i64 ni,.bool true,.slice none 0 0,.bool false] 107)):=(Below.refl _ _).alloc (Nat.le_refl _) _
 have hM:=heap_alloc_new w3 (.cells #[ptrV B,.bool nb,.int .i64 ni,.bool true,.slice none 0 0,.bool false] 107)
 have hMl:w3.heap.size<(w3.alloc (.cells #[ptrV B,.bool nb,.int .i64 ni,.bool true,.slice none 0 0,.bool false] 107)).heap.size:=by simp
 have hst:=start_any ⟨ks,Zac p,getI (Zai p),nb,ni⟩ (Zag w3) B cs (Zab 0 p.terms) vM hcb e10 h10 (by rw [Za1];exact HCD.out.z6) (w3.alloc (.cells #[ptrV B,.bool nb,.int .i64 ni,.bool true,.slice none 0 0,.bool false] 107)) ((Za0 w3).below hbM)
 dsimp only at hst
 have HBM:=Zhd hbM
 have HM:=Zhd hM
 clear hbM hM hcb e10 h10
 go_wp2_with fail
 refine hst.mono ?_
 rintro r w5 ⟨vm,rfl,hm,hb5⟩
 have hm5:=(hb5.block w3.heap.size hMl).trans HM.out
 have HB5:=Zhd (HB3.out.trans ((HBM.out.trans (hb5.mono HBM.out.size)).mono HB3.out.size))
 have hn35:∀ b,b<w3.heap.size→w5.heap[b]?=w3.heap[b]?:=(HBM.out.trans (hb5.mono HBM.out.size)).block
 obtain⟨am,cm,rfl⟩:=hm.len
 have HVM:=Zhd hm
 have hlM:=Nat.lt_of_lt_of_le hMl hb5.size
 obtain⟨b5,y5⟩:=Zil hm5
 have m4:=b5 4
 have f4:=y5 4 (by simp)
 have hm6:=Zaa w5 w3.heap.size 4 (.slice am (Zbb ⟨ks,Zac p,getI (Zai p),nb,ni⟩ (Zab 0 p.terms)).length cm) _ _ _ hm5
 have hoth:∀ b,b≠w3.heap.size→(w5.setCell ⟨w3.heap.size,4,none⟩ (.slice am (Zbb ⟨ks,Zac p,getI (Zai p),nb,ni⟩ (Zab 0 p.terms)).length cm)).heap[b]?=w5.heap[b]?:=fun b hb=>Below.heap_setCell w5 ⟨w3.heap.size,4,none⟩ _ b hb
 have hb6:Below w.heap.size w (w5.setCell ⟨w3.heap.size,4,none⟩ (.slice am (Zbb ⟨ks,Zac p,getI (Zai p),nb,ni⟩ (Zab 0 p.terms)).length cm)):=HB5.out.setCell (p:=⟨w3.heap.size,4,none⟩) HB3.out.size _
 have HFIN:=Zhd (show McAt 107 137 130 ⟨ks,Zac p,getI (Zai p),nb,ni⟩ p ord (noKn w3.heap.size (w5.setCell ⟨w3.heap.size,4,none⟩ (.slice am (Zbb ⟨ks,Zac p,getI (Zai p),nb,ni⟩ (Zab 0 p.terms)).length cm))) (w5.setCell ⟨w3.heap.size,4,none⟩ (.slice am (Zbb ⟨ks,Zac p,getI (Zai p),nb,ni⟩ (Zab 0 p.terms)).length cm)) w3.heap.size B ⟨true,Zbb ⟨ks,Zac p,getI (Zai p),nb,ni⟩ (Zab 0 p.terms),false⟩ (.slice am (Zbb ⟨ks,Zac p,getI (Zai p),nb,ni⟩ (Zab 0 p.terms)).length cm) from by
  refine⟨by rw [hm6];rfl,Zf5 _ _,Ze2 _ _,HC.out.le fun b o e=>?_,vls_apart (x0:=true) HVM.out (fun k z h=>by cases h) hm5 hoth,by simp [Zbb,Za1]⟩
  have hlt:b<w3.heap.size:=(Zlt e)
  unfold noKn
  rw [if_neg (by omega),hoth b (by omega),hn35 b hlt]
  exact e)
 have HNK:=Zhd (HNEW.out.fin (n:=w.heap.size) (M:=w3.heap.size) HNS.out HGB.out (Nat.le_refl _) (fun b hb=>(hoth b (by omega)).trans (hn35 b hb)))
 have HB6:=Zhd hb6
 clear HNEW HGB
 have HMG:=Zhd HB3.out.size
 clear hm5 hm6 hoth hb6 hm hb5 hst b5 y5 hn35
 generalize (Zbb ⟨ks,Zac p,getI (Zai p),nb,ni⟩ (Zab 0 p.terms)).length=LN at *
 generalize w3.heap.size=M at *
 go_wp2_with fail
 go_ret2
 exact⟨HB6.out,.inl ⟨HE.out,M,B,ks,ord,_,HKS.out,HO.out,rfl,HMG.out,HFIN.out,HNK.out⟩⟩
theorem TksV.le {H H':Kn} (hle:H.le H') {l:List Tk} {v:Value} (h:TksV H l v):TksV H' l v:=SlV.le h hle (TkC.mono hle)
theorem own_gr {w w':World} {base M:Nat} {e:TypeId} {k n:Nat} {v:Value} {xs:List Value} (h:w.ownsRow base e k v n xs) (g:Gr2 w w' M none) (hM:M<base):w'.ownsRow base e k v n xs:=by
 obtain⟨h1,h2⟩:=h
 refine⟨h1,?_⟩
 rcases h2 with h2 | ⟨q,cap,cur,e1,hb,hg,h3⟩
 ·exact .inl h2
 exact .inr ⟨q,cap,cur,e1,hb,(g.block q (Zlt hg) (by omega) (by simp)).trans hg,h3⟩
theorem RuS.gr {DT:TypeId} {H:Kn} {w0 wr w5:World} {base M:Nat} {os:List (Tk×Value×Value)} {u:Value} {K:Kn} {ms:List Vl} {vm:Value} (h:RuS DT H w0 wr base os u K ms vm) (hM:K M=none) (hw:w0.heap.size≤M) (hb:M<base) (g:Gr2 wr w5 M none):
  RuS DT H w0 w5 base os u (Zcz K wr.heap.size w5) ms vm:=by
 have h1:=Zdy h.isin w5
 have hlow:=h.low
 exact⟨Kn.le_trans h.le h1,joinKn_gr h.isin g hM,Gr2.below h.below g hw (by have:=h.below.size;omega),own_gr h.row g hb,fun q hq=>by unfold Zcz;rw [if_pos (h.row.lt q hq).2];exact h.noU q hq,fun x hx=>(h.tks x hx).le h1,SlV.le h.mem h1 VlC.mono,h.hb,Nat.le_trans h.low g.size⟩
theorem McAt.kle {MT NT CT:TypeId} {R:REnv} {p:Pr} {ord:List Nat} {K K':Kn} {w:World} {M B:Nat} {s:Mc} {vm:Value} (h:McAt MT NT CT R p ord K w M B s vm) (hle:K.le K') (hin:K'.In w) (hno:K' M=none):McAt MT NT CT R p ord K' w M B s vm:=
 ⟨h.box,hin,hno,h.code.le hle,SlV.le h.mem hle VlC.mono,h.len⟩
theorem RuS.known {DT:TypeId} {H:Kn} {w0 wr:World} {base:Nat} {os:List (Tk×Value×Value)} {u:Value} {K:Kn} {ms:List Vl} {vm:Value} (h:RuS DT H w0 wr base os u K ms vm):∃ K',K.le K'∧K'.In wr∧TksV K' (os.map (·.1)) u∧∀ b,b<base→K' b=K b:=by
 have hr:wr.ownsRow base DT 4 u (os.map (·.1)).length (osX os):=by rw [List.length_map];exact h.row
 exact Zcw (R:=TkC) h.isin hr h.noU fun K' hle i hi f hf=>by
  have hi2:i<os.length:=by simpa using hi
  have hc:∀ j,j<4→(osX os)[i * 4+j]?=[os[i].2.1,Value.bool os[i].1.asrt,.bool os[i].1.trap,os[i].2.2][j]?:=fun j hj=>Zie 4 (fun x:Tk×Value×Value=>[x.2.1,.bool x.1.asrt,.bool x.1.trap,x.2.2]) (fun _=>rfl) os i hi2 j hj
  rw [List.getElem_map]
  exact⟨os[i].2.1,os[i].2.2,hf 0 _ (by rw [hc 0 (by omega)];rfl),hf 1 _ (by rw [hc 1 (by omega)];rfl),hf 2 _ (by rw [hc 2 (by omega)];rfl),hf 3 _ (by rw [hc 3 (by omega)];rfl),(h.tks _ (List.getElem_mem hi2)).le hle⟩
theorem stepM_sizes (R:REnv) (p:Pr) (ord:List Nat) (s:Mc) (l:List Vl):(Zc3 R (cdOf p ord) p.ins s l).2.1.out.length≤p.outs.length∧(Zc3 R (cdOf p ord) p.ins s l).2.1.checks.length≤p.cs.length:=by
 have h:=tickM_sizes R (cdOf p ord) s.first s.mem l
 have e1:(cdOf p ord).outs.length=p.outs.length:=List.length_map _
 have e2:(cdOf p ord).cv.length=p.cs.length:=Zb8 _ _
 unfold Zc3
 split
 ·simp [trapT]
 split
 ·split<;>(dsimp only;omega)
 simp [noT]
theorem bare_ord:Zbf Zet = .ok [0]:=by kernel_rfl
theorem bare_ks:Zap Env.none Zet.vars=some (Env.none.set ⟨#[120]⟩ 1):=by kernel_rfl
theorem bare_new:runE Zet [] 0=(0, -1):=by kernel_rfl
theorem bare_step:Zc3 ⟨Env.none.set ⟨#[120]⟩ 1,Zac Zet,getI (Zai Zet),false,0⟩ (cdOf Zet [0]) Zet.ins ⟨true,Zbb ⟨Env.none.set ⟨#[120]⟩ 1,Zac Zet,getI (Zai Zet),false,0⟩ (Zab 0 Zet.terms),false⟩ []=(0,⟨[⟨1,1⟩],true,false,[]⟩,⟨false,[],false⟩):=by kernel_rfl
theorem walk_any (H:Kn) (T:Zbl H) (sp:Nat→Addr) (w:World) (hH:H.In w) (S:Sen5 w sp):
  Calls Tryz.prog 16 #[] w fun r w'=>r = .returned (.bool true)∧Below w.heap.size w w':=by
 have hle:∀ w1,Below w.heap.size w w1→Zbl (Zag w1):=fun w1 hb=>T.le (Zaz (hH.below hb))
 have HLE:=Zhd hle
 clear hle
 go_enter Tryz.func16,Tryz.ntmps16
 go_wp2_with fail
 refine (lbare_any _).mono ?_
 rintro r w1 ⟨vi,vo,vl,va,vc,rfl,hp,hb1⟩
 have HB1:=Zhd hb1
 have HP1:=Zhd hp
 clear hb1 hp
 go_wp2_with fail
 refine (new_any _ (HLE.out _ HB1.out) sp Zet _ _ _ _ _ HP1.out w1 (Za0 _) (S.below HB1.out) false 0 ⟨by decide,by decide,by decide,by decide,by decide⟩ (by decide)).mono ?_
 rintro r w3 ⟨hb3,hpost⟩
 rcases hpost with ⟨hE,M,B,ks,ord,vm,hks,ho,rfl,hMw,hM,_⟩ | ⟨hE,_⟩
 case inr=>exact absurd (by rw [bare_new]) hE
 rw [bare_ord] at ho
 cases ho
 rw [bare_ks] at hks
 cases hks
 have HB3:=Zhd (HB1.out.trans (hb3.mono HB1.out.size))
 have HC:=Zhd (Zkg (p:=Zet) (Ze0 hE).1 bare_ks bare_ord false 0 (by decide) (by decide) (by decide))
 have HM:=Zhd hM
 have HMW:=Zhd hMw
 clear hM hb3 hE hMw
 go_wp2_with fail
 refine (mtick_any sp HM.out HC.out (S.below HB3.out) [] _ (.inl ⟨rfl,none,0,rfl⟩) (by decide)).mono ?_
 rintro r w5 ⟨vm5,ov,cv,rfl,hg5,hM5,hk5⟩
 rw [bare_step] at hM5 hk5 ⊢
 have HB5:=Zhd (Gr2.below HB3.out hg5 (Nat.le_trans HB1.out.size HMW.out) HB3.out.size)
 obtain⟨ao,co,rfl⟩:=hk5.outs.len
 obtain⟨ac,cc,rfl⟩:=hk5.checks.len
 dsimp only [errV,List.length_cons,List.length_nil] at hM5 ⊢
 have hba:Below w5.heap.size w5 (w5.alloc (.cells #[.slice ao 1 co,.bool true,.bool false,.slice ac 0 cc] 62)):=(Below.refl _ _).alloc (Nat.le_refl _) _
 have HM5:=Zhd (hM5.join hba)
 have HB6:=Zhd (HB5.out.trans (hba.mono HB5.out.size))
 clear hM5 hk5 hg5 hba
 go_wp2_with fail
 refine (state_any HM5.out (by decide)).mono ?_
 rintro r w7 ⟨v7,rfl,hv7,hb7⟩
 obtain⟨a7,c7,rfl⟩:=hv7.len
 dsimp only [stateM,List.length_cons,List.length_nil]
 go_wp2_with fail
 go_ret
 exact⟨rfl,HB6.out.trans (hb7.mono HB6.out.size)⟩
end Go.Proofs.YtgoccoldkfpbgaaGreatDoor
