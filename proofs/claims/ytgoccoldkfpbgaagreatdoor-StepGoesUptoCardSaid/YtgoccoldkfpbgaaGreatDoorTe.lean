/- Walks: flow.Code.term: a term as a node. -/
import Derived.Test.YtgoccoldkfpbgaaGreatDoorRg
import Derived.Test.YtgoccoldkfpbgaaGreatDoorRh
import Derived.Test.YtgoccoldkfpbgaaGreatDoorTeM
import Derived.Test.YtgoccoldkfpbgaaGreatDoorLateA
import Derived.Deep.RegionLaw
import Derived.Test.YtgoccoldkfpbgaaGreatDoorOrd
import Derived.Test.YtgoccoldkfpbgaaGreatDoorFormA
import Derived.Test.YtgoccoldkfpbgaaGreatDoorRunC
import Derived.Test.YtgoccoldkfpbgaaGreatDoorRunM
import Derived.Test.YtgoccoldkfpbgaaGreatDoorEx
set_option linter.all false
namespace Go.Proofs.YtgoccoldkfpbgaaGreatDoor
set_option maxRecDepth 100000
set_option maxHeartbeats 16000000
open Go.RowKit Mx
theorem mTe3 {p:Prop} (h:p:=by
 have HTA:=Zhd (HT.out.below ((Below.refl _ _).alloc (Nat.le_refl _) (.cells #[ptrV N] 134)))
 have hNw:N+1≤wr.heap.size:=HS.out.nlt
 have hpl:ps'.length≤1000000000:=by
  have h1:=HS.out.mlen
  have h2:=Zca l l.length
  have h3:=HCNT.out
  simp only [memN,Ex.l] at h1 h3
  omega
 have hbw:base≤wr.heap.size:=Nat.le_trans hbase HS.out.d.gr.size
 have HNEW:=Zhd (show ∀ (j:Nat) (u:Value),[ptrV N][j]?=some u→((wr.setCell ⟨N,8,none⟩ (.int .i64 (ps'.length:Int))).alloc (.cells #[ptrV N] 134)).cell? ((⟨wr.heap.size,0,none⟩:Addr).add j)=some u from fun j u hj=>by
  have e:(wr.setCell ⟨N,8,none⟩ (.int .i64 (ps'.length:Int))).heap.size=wr.heap.size:=by simp
  have h:=cells1 (wr.setCell ⟨N,8,none⟩ (.int .i64 (ps'.length:Int))) (ptrV N) 134 j u hj
  rw [e] at h
  exact h)
 go_wp2_with (refine wpList_append_lies _ (by rfl) _ _ _ (by rfl) base 134 i0 _ 1 8 Tryz.underlying128 hi0 hz0 hz1 hz2 rfl (by omega) (.slice au ps'.length cu) ps'.length (ps'.map ptrV) (by rfl) HTA.out.cd.row ⟨_,0,none⟩ 1 1 [ptrV N] (by rfl) (by rfl) HNEW.out (by simp [Value.oneCell']) (by omega) (by unfold maxLen;omega) (by omega) (by simp;omega) _ rfl ?_;intro gg cap' w3 hown hgrow hat hltg;obtain⟨hf1,hf2,hf3⟩:=HTA.out.push (x:=(.mk _ n s l,MS.length)) HS.out.hB (by rw [HTA.out.fresh B HS.out.hB];exact HS.out.noB) HNd.out hown hgrow hat (by omega))
 rw [memNds_mem (by first | exact .inl rfl | exact .inr rfl)] at hf3
 have HF:=Zhd (hf3.forget HFG.out HFR.out)
 have HNE:=Zhd HNd.out
 go_ret
 exact⟨_,_,_,_,rfl,HF.out,HNE.out⟩):p:=h
theorem mTe2 {p:Prop} (h:p:=by
 intro w hSw;obtain⟨z0,z1,z2,z3,z4,z5,z6⟩:=hSw.c7 k0 k1 k2 k3 k11 k12 k13;go_simp<;>with_reducible rfl):p:=h
theorem mTe1 {p:Prop} (h:p:=by
 intro w hSw;obtain⟨z0,z1,z2,z3,z4,z5,z6⟩:=hSw.c7 k0 k1 k2 k3 k11 k12 k13;first | (go_simp;done) | (go_simp;with_reducible rfl)):p:=h
theorem Tryz.infoNdP:(Tryz.prog.info? 134).map (fun i=>(i.zero,i.size,i.bytes))=some (some (.pointer none),1,8):=by kernel_rfl
def Maps3 (H:Kn) (bn bk bl:Nat) (E ks L:Env Int):Prop:=
 (∀ w,H.In w→Zaw (Value.int .i64) w bn E)∧(∀ w,H.In w→Zaw (Value.int .i64) w bk ks)∧∀ w,H.In w→Zaw (Value.int .i64) w bl L
theorem Maps3.le {H K:Kn} {bn bk bl:Nat} {E ks L:Env Int} (h:Maps3 H bn bk bl E ks L) (hle:H.le K):Maps3 K bn bk bl E ks L:=
 ⟨fun w hw=>h.1 w fun b o e=>hw b o (hle b o e),fun w hw=>h.2.1 w fun b o e=>hw b o (hle b o e),fun w hw=>h.2.2 w fun b o e=>hw b o (hle b o e)⟩
theorem term_any (R:REnv) (E L:Env Int) (hRn:R.nm=getI E) (hRl:R.lt=getI L) (hL:∀ s,0≤getI L s∧getI L s≤2) (B base bn bk bl:Nat) (cs:Array Value) (hcs:cs.size=14) (h11:cs[11]?=some (.map (some bn))) (h12:cs[12]?=some (.map (some bk))) (h13:cs[13]?=some (.map (some bl))):
  ∀ (e:Ex),Zaf R.ks e=true→e.parts≤1000000000→∀ (H:Kn) (v:Value),ExV H e v→Maps3 H bn bk bl E R.ks L→∀ (w:World) (u:Value) (MS:List (Ex×Nat)) (ps:List Nat),H.In w→H B=none→CdS 134 130 w B base cs u ps→PsAt 137 R H MS ps→(∀ g,u.ownBlock=some g→H g=none)→base≤w.heap.size→MS.length+memN e≤1000000000→
  Calls Tryz.prog 58 #[.pointer (some ⟨B,0,none⟩),v] w fun r w'=>∃ q K u' ps',r = .returned (ptrV q)∧TeD 137 134 130 R H w w' B base cs u (MS++Zbs MS.length e) K u' ps'∧NdAt 137 R K e MS.length q:=by
 refine Ex.ind fun o n s l ih hfo hpe H v hv hmaps w u MS ps hH hHB hcd hps hno hbase hcnt=>?_
 obtain⟨uu,rfl,hu⟩:=hv
 simp only [Ex.op,Ex.n,Ex.s,Ex.l] at hu ⊢
 obtain⟨a,cap,rfl⟩:=hu.len
 have hlp:=Zbr l
 simp only [Ex.parts] at hpe
 have HFO:=Zhd hfo
 have hsub:=(Zax hfo).1
 have HEX:=Zhd (show ExV H (.mk o n s l) (.agg #[.string o,.int .i64 n,.string s,.slice a l.length cap]) from⟨_,rfl,hu⟩)
 have HU:=Zhd hu
 have IH:=Zhd ih
 have HSUB:=Zhd hsub
 clear hu ih hsub hfo
 have hBlt:=hcd.blt
 have hb0:Below w.heap.size w (w.alloc (.cells #[.string o,.int .i64 n,.string s,.slice a l.length cap] 97)):=(Below.refl _ _).alloc (Nat.le_refl _) _
 have hE0:=heap_alloc_new w (.cells #[.string o,.int .i64 n,.string s,.slice a l.length cap] 97)
 have hcd0:=hcd.below hb0
 have hin0:=hH.below hb0
 go_enter Tryz.func58,Tryz.ntmps58
 go_wp2_with fail
 generalize hW0:w.alloc (.cells #[.string o,.int .i64 n,.string s,.slice a l.length cap] 97)=W0 at *
 have hsz0:W0.heap.size=w.heap.size+1:=by rw [← hW0];simp
 clear hW0
 have k0:(Zag W0).cell w.heap.size 0=some (.string o):=by rw [Zad];simp [World.cell?,hE0]
 have k1:(Zag W0).cell w.heap.size 1=some (.int .i64 n):=by rw [Zad];simp [World.cell?,hE0]
 have k2:(Zag W0).cell w.heap.size 2=some (.string s):=by rw [Zad];simp [World.cell?,hE0]
 have k3:(Zag W0).cell w.heap.size 3=some (.slice a l.length cap):=by rw [Zad];simp [World.cell?,hE0]
 have hbx:=hcd0.box
 have k11:(Zag W0).cell B 11=some (.map (some bn)):=by rw [Zad];simp [World.cell?,hbx,h11]
 have k12:(Zag W0).cell B 12=some (.map (some bk)):=by rw [Zad];simp [World.cell?,hbx,h12]
 have k13:(Zag W0).cell B 13=some (.map (some bl)):=by rw [Zad];simp [World.cell?,hbx,h13]
 have hHA:∀ w',(Zag W0).In w'→H.In w':=fun w' h b o e=>h b o (hin0 b o e)
 have HRUN:=Zhd (fun (w':World) (h:(Zag W0).In w')=>(hmaps.1 w' (hHA w' h)).run (P:=Tryz.prog) Tryz.underlying125 Tryz.underlying9 (d:=0) (by kernel_rfl) s false)
 have HKIND:=Zhd (fun (w':World) (h:(Zag W0).In w')=>kind_any (.mk o n s l) (Zjm R.ks _ HFO.out) (by simp only [Ex.parts];omega) H _ HEX.out R.ks bk w' (hHA w' h) (hmaps.2.1 w' (hHA w' h)))
 have HLATE:=Zhd (fun (w':World) (h:(Zag W0).In w')=>late_any H L bl hL R.ks (.mk o n s l) HFO.out _ HEX.out w' (hHA w' h) (hmaps.2.2 w' (hHA w' h)))
 have hS:(Zag W0).In W0.drew:=(Za0 W0).below (Below.refl _ _).drew
 clear hbx
 refine Zae (fun w'=>(Zag W0).In w') (fun _=>True) 99 (by kernel_rfl) ?_
 refine tk2 (i:=0) (v:=?_) rfl hS Ztr ?hy ?_
 case hy=>exact mTe1
 refine Zst ?_
 refine w3 1 ?_
 iterate 5 ((first | (refine tk3 (v:=?_) rfl hS Ztr ?hy ?_;(case hy=>exact mTe2)) | refine sk3 rfl hS Ztr ?_ | refine no3 ?_);refine Zss ?_)
 refine w3e ?_
 refine w3 7 ?_
 iterate 5 ((first | (refine tk3 (v:=?_) rfl hS Ztr ?hy ?_;(case hy=>exact mTe2)) | refine sk3 rfl hS Ztr ?_ | refine no3 ?_);refine Zss ?_)
 refine w3e ?_
 refine w3 14 ?_
 iterate 6 ((first | (refine tk3 (v:=?_) rfl hS Ztr ?hy ?_;(case hy=>exact mTe2)) | refine sk3 rfl hS Ztr ?_ | refine no3 ?_);refine Zss ?_)
 refine w3e ?_
 refine tk2 (i:=20) (v:=?_) rfl hS Ztr ?hy ?_
 case hy=>intro w hSw;obtain⟨z0,z1,z2,z3,z4,z5,z6⟩:=hSw.c7 k0 k1 k2 k3 k11 k12 k13;have zz:=HRUN.out w hSw;go_simp<;>with_reducible rfl
 try simp only [tkS]
 refine Zwo 6 rfl fun K_ hK=>?_
 go_simp
 go_at_call 82
 refine (HKIND.out _ hS).mono ?_
 rintro r w1 ⟨rfl,hb1⟩
 have hS1:=hS.below hb1
 refine hK.out _ _ (hS1) Ztr ?_
 clear hK K_
 try simp only [tkS]
 refine Zwo 12 rfl fun K_ hK=>?_
 go_simp
 go_at_call 76
 refine (HLATE.out _ hS1).mono ?_
 rintro r w2 ⟨rfl,hb2⟩
 have hS2:=hS1.below hb2
 refine hK.out _ _ (hS2) Ztr ?_
 clear hK K_
 try simp only [tkS]
 refine tk2 (i:=13) (v:=?_) rfl hS2 Ztr ?hy ?_
 case hy=>exact mTe1
 try simp only [tkS]
 refine tk2 (i:=21) (v:=?_) rfl hS2 Ztr ?hy ?_
 case hy=>exact mTe1
 try simp only [tkS]
 refine Zwo 22 rfl fun K_ hK=>?_
 go_simp
 refine hK.out _ _ (hS2.alloc _) Ztr ?_
 clear hK K_
 try simp only [tkS]
 refine tk2 (i:=23) (v:=?_) rfl (hS2.alloc _) Ztr ?hy ?_
 case hy=>exact mTe1
 try simp only [tkS]
 refine Zwd ?_
 have hRn':(E s).getD 0=R.nm s:=by rw [hRn];rfl
 have hnd0:(#[.string o,.int .i64 n,.string s,.slice a l.length cap,.slice none 0 0,.int .i64 (Zan R.ks (.mk o n s l)),.bool (decide (0<lateOf (getI L) (.mk o n s l))),.int .i64 ((E s).getD 0),.int .i64 0]:Array Value)=Zay R (.mk o n s l) 0 (.slice a l.length cap) (.slice none 0 0):=by rw [hRn',← hRl];rfl
 rw [hnd0]
 have hbN:Below w.heap.size w w2:=(hb0.trans ((Below.refl W0.heap.size W0).drew.mono (by omega))).trans ((hb1.trans (hb2.mono hb1.size)).mono (by show w.heap.size≤W0.heap.size;omega))
 have hN:=hbN.size
 have hbN1:w.heap.size+1≤w2.heap.size:=by have h1:=hb1.size;have h2:=hb2.size;have h3:W0.drew.heap.size=W0.heap.size:=rfl;omega
 have HB3:=Zhd (hbN.alloc hN (.cells (Zay R (.mk o n s l) 0 (.slice a l.length cap) (.slice none 0 0)) 137))
 obtain⟨H0,hH0⟩:∃ H0,H0=H.add w.heap.size (.cells #[.string o,.int .i64 n,.string s,.slice a l.length cap] 97 (0,0)):=⟨_,rfl⟩
 have hle0:H.le H0:=by rw [hH0];exact Kn.le_add (hH.isNone (Nat.le_refl _))
 have hfr0:∀ b,b<w.heap.size→H0 b=H b:=fun b hb=>by rw [hH0,Kn.add_other _ _ (by omega)]
 have hE3:(w2.alloc (.cells (Zay R (.mk o n s l) 0 (.slice a l.length cap) (.slice none 0 0)) 137)).heap[w.heap.size]?=some (.cells #[.string o,.int .i64 n,.string s,.slice a l.length cap] 97 (0,0)):=by
  rw [Below.heap_alloc _ _ _ (by omega),hb2.block _ (by have:=hb1.size;have h3:W0.drew.heap.size=W0.heap.size:=rfl;omega),hb1.block _ (by show w.heap.size<W0.heap.size;omega)];exact hE0
 have hin3:H0.In (w2.alloc (.cells (Zay R (.mk o n s l) 0 (.slice a l.length cap) (.slice none 0 0)) 137)):=by rw [hH0];exact (hH.below HB3.out).add hE3
 have HE0:=Zhd (show H0 w.heap.size=some (.cells #[.string o,.int .i64 n,.string s,.slice a l.length cap] 97 (0,0)) from by rw [hH0];exact Kn.add_self _ _ _)
 have HS0:=Zhd (show TeS 137 134 130 R H0 w (w2.alloc (.cells (Zay R (.mk o n s l) 0 (.slice a l.length cap) (.slice none 0 0)) 137)) B w2.heap.size base cs (.mk o n s l) (.slice a l.length cap) u MS 0 0 (.slice none 0 0) [] H0 u ps from
  ⟨⟨Kn.le_refl H0,fun _ _=>rfl,hin3,hcd.below HB3.out,by simpa [Zab] using hps.le hle0,Gr2.of_below HB3.out B _,fun g hg => .inr hg,fun g hg=>by rw [hfr0 g (hcd.row.lt g hg).2];exact hno g hg⟩,
   by decide,by rw [hfr0 B hBlt];exact hHB,hBlt,hN,heap_alloc_new _ _,by rw [hH0,Kn.add_other _ _ (by omega)];exact hH.isNone hN,World.ownsRow_nil _ _ _ _,fun g hg=>by simp [Value.ownBlock] at hg,rfl,fun i h=>by simp at h,fun g hg=>by simp [Value.ownBlock] at hg⟩)
 have HE3:=Zhd hE3
 have HU:=Zhd (HU.out.le hle0)
 have HFG:=Zhd hle0
 have HFR:=Zhd hfr0
 generalize w2.alloc (.cells (Zay R (.mk o n s l) 0 (.slice a l.length cap) (.slice none 0 0)) 137)=W3 at *
 generalize w2.heap.size=N at *
 clear hb1 hb2 hS hS1 hS2 hnd0 k0 k1 k2 k3 k11 k12 k13 HRUN HKIND HLATE hHA hin0 hcd0 hb0 hE0 hbN
 have p3:W3.cell? ⟨w.heap.size,3,none⟩=some (.slice a l.length cap):=by simp [World.cell?,HE3.out]
 have HCNT:=Zhd hcnt
 have HM:=Zhd (hmaps.le hle0)
 clear hcnt hmaps hps hcd hE3 hin3 hle0 hfr0 hH0
 obtain⟨i0,hi0,hz0,hz1,hz2⟩:=info_parts Tryz.infoNdP
 go_wp2_with fail
 clear p3
 go_loopw [34] (fun i wr=>∃ (k:Nat) (pu:Value) (qs:List Nat) (K:Kn) (u':Value) (ps':List Nat),i = .int .i64 k∧k≤l.length∧TeS 137 134 130 R H0 w wr B N base cs (.mk o n s l) (.slice a l.length cap) u MS k k pu qs K u' ps') (fun i _=>l.length - (intOf i).toNat)
 case atStart=>exact⟨0,_,_,_,_,_,rfl,Nat.zero_le _,HS0.out⟩
 obtain⟨k,pu,qs,K,u',ps',rfl,hk,hS⟩:=hrel
 have HS:=Zhd hS
 clear hS
 by_cases hkl:k<l.length
 ·obtain⟨b,off,ax,cx,rfl,c0,c1,c2,c3,hx⟩:=HU.out.at hkl
  obtain⟨x,hxe⟩:∃ x,l[k]=x:=⟨_,rfl⟩
  have hpx:x.parts≤1000000000:=by have:=Zau l k hkl;rw [hxe] at this;omega
  have hmem:x∈l:=by rw [← hxe];exact List.getElem_mem hkl
  rw [hxe] at c0 c1 c2 c3 hx
  have c0:=HS.out.d.isin.cell (HS.out.d.le.cell c0)
  have c1:=HS.out.d.isin.cell (HS.out.d.le.cell c1)
  have c2:=HS.out.d.isin.cell (HS.out.d.le.cell c2)
  have c3:=HS.out.d.isin.cell (HS.out.d.le.cell c3)
  have hx:=hx.le HS.out.d.le
  have hkc:MS.length+Zam (l.take k)+memN x≤1000000000:=by
   have h1:=Zdk l k hkl
   rw [hxe] at h1
   have h2:=Zca l (k+1)
   have h3:=HCNT.out
   simp only [memN] at h3
   omega
  go_wp2_with fail
  have hSA:=HS.out.below ((Below.refl wr.heap.size wr).alloc (Nat.le_refl _) (.cells #[.string x.op,.int .i64 x.n,.string x.s,.slice ax x.l.length cx] 97))
  have hXb:=heap_alloc_new wr (.cells #[.string x.op,.int .i64 x.n,.string x.s,.slice ax x.l.length cx] 97)
  generalize hXe:wr.heap.size=X at *
  generalize wr.alloc (.cells #[.string x.op,.int .i64 x.n,.string x.s,.slice ax x.l.length cx] 97)=wA at *
  have y0:wA.cell? ⟨X,0,none⟩=some (.string x.op):=by simp [World.cell?,hXb]
  have y1:wA.cell? ⟨X,1,none⟩=some (.int .i64 x.n):=by simp [World.cell?,hXb]
  have y2:wA.cell? ⟨X,2,none⟩=some (.string x.s):=by simp [World.cell?,hXb]
  have y3:wA.cell? ⟨X,3,none⟩=some (.slice ax x.l.length cx):=by simp [World.cell?,hXb]
  have hSD:=hSA.below (Below.refl wA.heap.size wA).drew
  have q4:wA.drew.cell? ⟨N,4,none⟩=some pu:=hSD.c4
  have hbA:base≤wA.drew.heap.size:=Nat.le_trans hbase (hSD.d.gr.size)
  clear hSA c0 c1 c2 c3
  go_region_law (first | (go_simp;go_at_call 58;refine (IH.out x hmem (HSUB.out x hmem) hpx K _ hx (HM.out.le hSD.d.le) _ u' _ ps' hSD.d.isin hSD.kB hSD.d.cd hSD.d.mem hSD.d.noM hbA (by rw [← hSD.d.mem.len,hSD.mlen];exact hkc)).mono ?_;rintro r wc ⟨q,K2,u2,ps2,rfl,hTD,hnd⟩;obtain⟨hS2,hnd2⟩:=hSD.child2 hkl hxe hTD hnd;clear hTD hnd;have q5:=hS2.c4;have q6:=fun o=>(hS2.alloc o).c4) | (refine step_append_lies _ (by rfl) _ _ _ (by rfl) (N+1) 134 i0 _ 1 8 Tryz.underlying128 hi0 hz0 hz1 hz2 rfl (by omega) pu k (qs.map ptrV) (by rfl) (TeS.row (TeS.alloc (by assumption) _)) ⟨_,0,none⟩ 1 1 [ptrV q] (by rfl) (by rfl) (by exact World.news_of_block (heap_alloc_new _ _)) (by simp [Value.oneCell']) (by omega) (by unfold maxLen;omega) (by omega) (TeS.nlt' (TeS.alloc (by assumption) _)) _ rfl ?_;intro gg cap' w3 hown hgrow hat hltg;obtain⟨hf1,hf2,hf3⟩:=TeS.app2 (TeS.alloc (by assumption) _) hkl hxe hnd2 hown hgrow hat))
  all_goals generalize World.setCell _ _ _=W at hf3 ⊢
  all_goals go_wp2_with fail
  all_goals go_roundw
  all_goals first | (simp [intOf];omega;done) | exact⟨k+1,_,_,_,_,_,by go_num,by omega,hf3⟩ | ((repeat apply Exists.intro);refine⟨?_,rfl⟩;exact⟨k+1,_,_,_,_,_,by go_num,by omega,hf3⟩)
 obtain rfl:k=l.length:=by omega
 have hE:=HS.out.d.isin _ _ (HS.out.d.le _ _ HE0.out)
 have g0:wr.cell? ⟨w.heap.size,0,none⟩=some (.string o):=by simp [World.cell?,hE]
 by_cases hm:o=oPre∨o=oFby
 ·obtain⟨K',hT,hNd⟩:=HS.out.fin1 hm
  obtain⟨au,cu,hue,_⟩:=Zas HS.out.d.cd.row
  obtain⟨g8,f8⟩:=HS.out.c8
  have g10:=HS.out.d.cd.c10 (by omega:10<cs.size)
  have hNB:N≠B:=fun e=>by have h1:=HS.out.hN;have h2:=HS.out.hB;omega
  subst hue
  have HT:=Zhd hT
  have HNd:=Zhd hNd
  clear hT hNd hE
  rcases hm with rfl | rfl
  ·have gt10:(wr.setCell ⟨N,8,none⟩ (.int .i64 (ps'.length:Int))).cell? ⟨B,10,none⟩=some (.slice au ps'.length cu):=HT.out.cd.c10 (by omega)
   exact mTe3
  have gt10:(wr.setCell ⟨N,8,none⟩ (.int .i64 (ps'.length:Int))).cell? ⟨B,10,none⟩=some (.slice au ps'.length cu):=HT.out.cd.c10 (by omega)
  exact mTe3
 obtain⟨K',hT,hNd⟩:=HS.out.fin0 hm
 have HT:=Zhd (hT.forget HFG.out HFR.out)
 have HNd:=Zhd hNd
 have b1:(o.toList==[112,114,101])=false:=by have:=Zdz o [112,114,101];cases h:(o.toList==[112,114,101]) with | false=>rfl | true=>exact absurd (.inl (this.mpr h)) hm
 have b2:(o.toList==[102,98,121])=false:=by have:=Zdz o [102,98,121];cases h:(o.toList==[102,98,121]) with | false=>rfl | true=>exact absurd (.inr (this.mpr h)) hm
 clear hT hNd hE
 go_wp2_with fail
 go_ret
 exact⟨_,_,_,_,rfl,HT.out,HNd.out⟩
theorem mOck1 {p:Prop} (h:p:=by
 have HBN:=Zhd (Zbw HBW.out nq)
 go_wp2_with fail
 all_goals go_ret
 all_goals unfold OckPost
 all_goals rw [HX.out]
 all_goals exact⟨by first | exact HBN.out.alloc HBN.out.size _ | exact (HBN.out.alloc HBN.out.size _).drew | exact (HBN.out.drew).alloc HBN.out.size _ | exact ((HBN.out.drew).alloc HBN.out.size _).drew,_,rfl,.inr ⟨by omega,_,rfl,heap_alloc_new _ _⟩⟩):p:=h
def OckPost (sp:Nat→Addr) (p:Pr) (w:World) (r:Ending) (w':World):Prop:=
 Below w.heap.size w w'∧∃ v,r = .returned v∧ErrW sp w' (Za2 p).1 (Za2 p).2 v
theorem ocheck_any (H:Kn) (T:Zbl H) (sp:Nat→Addr) (p:Pr) (vi vo vl va vc:Value) (hp:PrP H p vi vo vl va vc) (w:World) (hH:H.In w) (S:Sen5 w sp)
  (hsz:p.ins.length≤1000000∧p.fl.length≤1000000∧p.outs.length≤100000000000∧p.as.length≤1000000∧p.cs.length≤1000000) (hpt:Ex.partsL p.terms≤1000000000)
  (hpick:Zaj p=0→(∀ j,j<p.graph.length→cyc p.graph j=false)→∀ j,j<p.graph.length→pick p.graph (Zcv p.graph j [])<p.graph.length):
  Calls Tryz.prog 54 #[.agg #[vi,vo,vl,va,vc]] w (OckPost sp p w):=by
 have HP:=Zhd hp
 obtain⟨h1,h2,h3,h4,h5⟩:=hp
 obtain⟨ai,ci,rfl⟩:=h1.len
 obtain⟨ao,co,rfl⟩:=h2.len
 obtain⟨al,cl,rfl⟩:=h3.len
 obtain⟨aa,ca,rfl⟩:=h4.len
 obtain⟨ac,cc,rfl⟩:=h5.len
 have H2:=Zhd h2
 have H3:=Zhd h3
 have H4:=Zhd h4
 have H5:=Zhd h5
 clear h1 h2 h3 h4 h5
 go_enter Tryz.func54,Tryz.ntmps54
 go_wp2_with fail
 have hb0:Below w.heap.size w (w.alloc (.cells #[.slice ai p.ins.length ci,.slice ao p.outs.length co,.slice al p.fl.length cl,.slice aa p.as.length ca,.slice ac p.cs.length cc] 41)):=(Below.refl _ _).alloc (Nat.le_refl _) _
 refine (lates_any H T sp p _ _ _ _ _ HP.out _ (hH.below hb0) (S.below hb0) hsz hpt hpick).mono ?_
 rintro r w1 ⟨hb1,hpost⟩
 have HB1:=Zhd (hb0.trans (hb1.mono (by simp)))
 have hq:∀ i,w1.cell? ⟨w.heap.size,i,none⟩=(#[.slice ai p.ins.length ci,.slice ao p.outs.length co,.slice al p.fl.length cl,.slice aa p.as.length ca,.slice ac p.cs.length cc]:Array Value)[i]?:=fun i=>by rw [hb1.cell (p:=⟨w.heap.size,i,none⟩) (by simp),World.cell?_alloc_new]
 have HQ:=Zhd hq
 have hz1:w.heap.size<w1.heap.size:=by have:=hb1.size;simp at this;omega
 clear hq hb0 hb1
 cases hlm:Zer p with
 | error x=>
  rw [hlm] at hpost
  obtain⟨v,rfl,hv⟩:=hpost
  have HX:=Zhd (Zhv hlm)
  have HV:=Zhd hv
  have hx0:=lateM_pos hlm
  obtain⟨tv,pv,rfl⟩:∃ tv pv,v = .iface tv pv:=by
   rcases hv with ⟨_,h⟩ | ⟨_,N,h,_⟩
   ·obtain⟨c,hc⟩:∃ c,x.1=c+1:=⟨x.1 - 1,by omega⟩
    rw [hc,Ze9] at h
    exact⟨_,_,h⟩
   exact⟨_,_,h⟩
  clear hlm hv
  go_wp2_with fail
  go_ret
  unfold OckPost
  rw [HX.out]
  exact⟨HB1.out,_,rfl,HV.out⟩
 | ok L=>
  rw [hlm] at hpost
  obtain⟨v,rfl,hv⟩:=hpost
  obtain⟨rfl,hck⟩:=lateM_ok hlm
  have HLM:=Zhd hlm
  obtain⟨av,cv,rfl⟩:=hv.len
  have HV:=Zhd hv
  rw [List.length_map]
  obtain⟨ks,_,_,hfm,hfl,hpp,_,_⟩:=Zb4 hck
  have HFM:=Zhd hfm
  have S1:=S.below HB1.out
  clear hck hfm hpp hlm hv
  go_wp2_with fail
  go_loopw [2,18] (fun u2 i wr=>∃ k:Nat,i = .int .i64 k∧k≤p.fl.length∧Below w1.heap.size w1 wr∧∀ j (hj:j<p.fl.length),j<k→hit p p.fl[j].name=false) (fun _ i _=>p.fl.length - (intOf i).toNat)
  case atStart=>exact⟨0,rfl,Nat.zero_le _,Below.refl _ _,fun j _ h=>by omega⟩
  obtain⟨k,rfl,hk,hb,hno⟩:=hrel
  have HB:=Zhd hb
  have HNO:=Zhd hno
  have hq:∀ i,wr.cell? ⟨w.heap.size,i,none⟩=(#[.slice ai p.ins.length ci,.slice ao p.outs.length co,.slice al p.fl.length cl,.slice aa p.as.length ca,.slice ac p.cs.length cc]:Array Value)[i]?:=fun i=>by rw [hb.cell (p:=⟨w.heap.size,i,none⟩) hz1];exact HQ.out i
  have q0:=hq 0
  have q1:=hq 1
  have q2:=hq 2
  have q3:=hq 3
  have q4:=hq 4
  simp at q0 q1 q2 q3 q4
  clear hb hno hq
  by_cases hkl:k<p.fl.length
  ·obtain⟨b1,off,rfl,_,hfc⟩:=SlV.at H3.out hkl
   obtain⟨u,c0,c1,c2,c3,c4,c5,hu⟩:=hfc.cells
   have HBW:=Zhd (HB1.out.trans (HB.out.mono (by omega)))
   have hHr:=hH.below HBW.out
   have c0:=hHr.cell c0
   simp only [Nat.add_zero] at c0
   obtain⟨b2,off2,rfl,_,d0⟩:=SlV.at HV.out (show k<(p.fl.map fun f=>Zac p f.name).length by simpa using hkl)
   have d0:(Zag w1).cell b2 (off2+k * 1+0)=some (.int .i64 ((p.fl.map fun f=>Zac p f.name)[k]'(by simpa using hkl))):=d0
   simp only [Nat.mul_one,Nat.add_zero,List.getElem_map] at d0
   have d0:=((Za0 w1).below HB.out).cell d0
   have c6:=(S.below HBW.out).c6
   have HIT:=Zhd (show hit p p.fl[k].name=(decide (Zac p p.fl[k].name=2) || decide (Zac p p.fl[k].name=1)&&p.outs.contains p.fl[k].name) from rfl)
   have HYES:=Zhd (show hit p p.fl[k].name=true→Za2 p=(7,(k:Int)) from fun h=>Zje HLM.out k hkl h HNO.out)
   have HNOT:=Zhd (show hit p p.fl[k].name=false→∀ j (hj:j<p.fl.length),j<k+1→hit p p.fl[j].name=false from fun h j hj hjk=>by
    by_cases hjk':j<k
    ·exact HNO.out j hj hjk'
    obtain rfl:j=k:=by omega
    exact h)
   have HCON:=Zhd (fun (wz:World) (hz:H.In wz)=>containsV_any H _ p.outs p.fl[k].name wz H2.out hz)
   have HHR:=Zhd hHr
   clear hu hfc c1 c2 c3 c4 c5 hHr HNO
   generalize p.fl[k].name=xn at *
   generalize Zac p xn=q at *
   by_cases e2:q=2
   ·subst e2
    have hh:hit p xn=true:=by rw [HIT.out];rfl
    have HX:=Zhd (HYES.out hh)
    clear hh
    go_wp2_with fail
    go_quiet (fail)
    exact mOck1
   by_cases e1:q=1
   ·subst e1
    cases hc:p.outs.contains xn
    ·have HC:=Zhd hc
     have hh:hit p xn=false:=by rw [HIT.out,hc];rfl
     have HX:=Zhd (HNOT.out hh)
     clear hh
     rw [hc] at HCON
     clear hc
     go_wp2_with fail
     go_quiet ((go_at_call 72;exact quiet_eq (HCON.out _ (HHR.out.drewN _))))
     have HBN:=Zhd (Zbw HB.out nq)
     go_wp2_with fail
     go_roundw
     case rel=>exact⟨k+1,by go_num,by omega,HBN.out,HX.out⟩
     simp [intOf];omega
    have HC:=Zhd hc
    have hh:hit p xn=true:=by rw [HIT.out,hc];rfl
    have HX:=Zhd (HYES.out hh)
    clear hh
    rw [hc] at HCON
    clear hc
    go_wp2_with fail
    go_quiet ((go_at_call 72;exact quiet_eq (HCON.out _ (HHR.out.drewN _))))
    exact mOck1
   have t2:(q==2)=false:=by simpa using e2
   have t1:(q==1)=false:=by simpa using e1
   have hh:hit p xn=false:=by rw [HIT.out];simp [e1,e2]
   have HX:=Zhd (HNOT.out hh)
   clear hh e1 e2
   go_wp2_with fail
   go_quiet (fail)
   have HBN:=Zhd (Zbw HB.out nq)
   go_wp2_with fail
   go_roundw
   case rel=>exact⟨k+1,by go_num,by omega,HBN.out,HX.out⟩
   simp [intOf];omega
  obtain rfl:k=p.fl.length:=by omega
  have HEND:=Zhd (Zjf HLM.out fun j hj=>HNO.out j hj hj)
  have HBW:=Zhd (HB1.out.trans (HB.out.mono (by omega)))
  clear HNO
  go_wp2_with fail
  refine (names_any H p _ _ _ _ _ HP.out ks (fun f hf=>?_) (by omega) wr (hH.below HBW.out)).mono ?_
  ·obtain⟨i,hi,he⟩:=List.mem_iff_getElem.1 (Zej p hf)
   rw [← he];exact (Zbg ks _).1 HFM.out i hi
  rintro r w2 ⟨bm,m,rfl,hM,hnm,hbd,hb2⟩
  have hwr:w.heap.size<wr.heap.size:=by have:=HB.out.size;omega
  have hq:∀ i,w2.cell? ⟨w.heap.size,i,none⟩=(#[.slice ai p.ins.length ci,.slice ao p.outs.length co,.slice al p.fl.length cl,.slice aa p.as.length ca,.slice ac p.cs.length cc]:Array Value)[i]?:=fun i=>by
   rw [hb2.cell (p:=⟨w.heap.size,i,none⟩) hwr,HB.out.cell (p:=⟨w.heap.size,i,none⟩) hz1];exact HQ.out i
  have q3:=hq 3
  have q4:=hq 4
  simp at q3 q4
  have HB2:=Zhd (HBW.out.trans (hb2.mono (by omega)))
  have hz2:w.heap.size<w2.heap.size:=by have:=hb2.size;omega
  have HM:=Zhd hM
  have HBD:=Zhd hbd
  have HFA:=Zhd (show ∀ e∈[p.as,p.cs].flatten,Zaf ks e=true from fun e he=>by
   have hmem:e∈p.terms:=by
    simp at he
    unfold Pr.terms
    rcases he with he | he<;>simp [he]
   obtain⟨i,hi,hx⟩:=List.mem_iff_getElem.1 hmem
   rw [← hx];exact (Zbg ks _).1 HFM.out i hi)
  have HEND':=Zhd (show Za2 p=if ([p.as,p.cs].flatten.any fun e=>decide (0<lateOf (getI m) e))=true then (7, -1) else (0, -1) from by
   rw [hnm,HEND.out];simp)
  clear hM hbd hb2 hq q0 q1 q2 hnm
  go_wp2_with fail
  have hB3:Below w.heap.size w ((w2.alloc (.cells #[.map (some bm)] 125)).alloc (.cells #[.slice aa p.as.length ca,.slice ac p.cs.length cc] 39)):=(HB2.out.alloc HB2.out.size _).alloc (by simp;omega) _
  have HB3:=Zhd hB3
  have hC3:((w2.alloc (.cells #[.map (some bm)] 125)).alloc (.cells #[.slice aa p.as.length ca,.slice ac p.cs.length cc] 39)).cell? ⟨w2.heap.size,0,none⟩=some (.map (some bm)):=by
   rw [World.cell?_alloc_past _ _ _ (by simp),World.cell?_alloc_new];rfl
  have hI3:OckI H w2.heap.size bm m ((w2.alloc (.cells #[.map (some bm)] 125)).alloc (.cells #[.slice aa p.as.length ca,.slice ac p.cs.length cc] 39)):=⟨hH.below hB3,hC3,by simp;omega,(HM.out.alloc _).alloc _⟩
  have hA3:∀ i,((w2.alloc (.cells #[.map (some bm)] 125)).alloc (.cells #[.slice aa p.as.length ca,.slice ac p.cs.length cc] 39)).cell? ⟨w2.heap.size+1,i,none⟩=(#[.slice aa p.as.length ca,.slice ac p.cs.length cc]:Array Value)[i]?:=fun i=>by
   have:=World.cell?_alloc_new (w:=w2.alloc (.cells #[.map (some bm)] 125)) #[.slice aa p.as.length ca,.slice ac p.cs.length cc] 39 i
   rw [World.size_alloc] at this
   exact this
  have hz3:((w2.alloc (.cells #[.map (some bm)] 125)).alloc (.cells #[.slice aa p.as.length ca,.slice ac p.cs.length cc] 39)).heap.size=w2.heap.size+2:=by simp
  generalize (w2.alloc (.cells #[.map (some bm)] 125)).alloc (.cells #[.slice aa p.as.length ca,.slice ac p.cs.length cc] 39)=W3 at *
  clear hB3
  refine (concat_any H [p.as,p.cs] [.slice aa p.as.length ca,.slice ac p.cs.length cc] (w2.heap.size+1) 2 W3 hI3.kn rfl (by omega) rfl (by omega) (fun i hi=>?_) (fun i hi hi'=>?_) ?_).mono ?_
  ·rw [hA3 i];simp at hi ⊢
  ·match i,hi with
   | 0,_=>exact H4.out
   | 1,_=>exact H5.out
  ·simp [Zdx];omega
  rintro r w4 ⟨v,xs,rfl,ho,hx,hb4⟩
  generalize [p.as,p.cs].flatten=fe at *
  have hv4:=Zhr (hI3.kn.below hb4) ho hx
  obtain⟨av4,cv4,rfl⟩:=hv4.len
  have HV4:=Zhd hv4
  have hI4:OckI (Zag w4) w2.heap.size bm m w4:=by
   have:=hI3.next hb4
   exact⟨Za0 w4,this.cell,this.size,this.mp⟩
  have HI4:=Zhd hI4
  have HB4:=Zhd (HB3.out.trans (hb4.mono (by omega)))
  clear hv4 ho hx hb4 hI4 hI3 hA3 hC3
  go_wp2_with fail
  refine (Zih _ _ _ (Zag w4) _ fe _ (check1_pred (Zag w4) w2.heap.size bm m HBD.out ks _ HFA.out) HV4.out w4 (Za0 w4) HI4.out).mono ?_
  rintro r w5 ⟨rfl,hb5⟩
  have HB5:=Zhd (HB4.out.trans (hb5.mono HB4.out.size))
  have c6:=(S.below HB5.out).c6
  clear hb5
  cases hany:(fe.any fun e=>decide (0<lateOf (getI m) e))
  ·have HX:=Zhd (show Za2 p=(0, -1) from by rw [HEND'.out,hany];rfl)
   clear hany
   go_wp2_with fail
   go_ret
   unfold OckPost
   rw [HX.out]
   exact⟨HB5.out,_,rfl,.inl ⟨rfl,rfl⟩⟩
  have HX:=Zhd (show Za2 p=(7, -1) from by rw [HEND'.out,hany];rfl)
  clear hany
  go_wp2_with fail
  go_ret
  unfold OckPost
  rw [HX.out]
  exact⟨HB5.out,_,rfl,.inl ⟨rfl,rfl⟩⟩
theorem mAyA1 {p:Prop} (h:p:=by
 rw [hr]
 go_enter Tryz.func48,Tryz.ntmps48
 go_wp2_with fail
 go_ret
 first | exact⟨rfl,hb⟩ | exact⟨Za4 (by simp_all<;>omega),hb⟩):p:=h
theorem Zdi (b:Bool) (w:World):Calls Tryz.prog 43 #[.bool b] w fun e w'=>e = .returned (vlV (tv b))∧Below w.heap.size w w':=by
 cases b
 all_goals
  go_enter Tryz.func43,Tryz.ntmps43
  go_wp2_with fail
 ·refine bodyPost_ret (v := .agg #[.int .i64 1,.int .i64 0]) (by simp [results,Tryz.results43,go_sem]) rfl ?_
  exact⟨rfl,(Below.refl _ _).alloc (Nat.le_refl _) _⟩
 refine bodyPost_ret (v := .agg #[.int .i64 1,.int .i64 1]) (by simp [results,Tryz.results43,go_sem]) rfl ?_
 exact⟨rfl,(Below.refl _ _).alloc (Nat.le_refl _) _⟩
theorem rright_any (v:Vl) (k:Int) (w:World):Calls Tryz.prog 48 #[vlV v,.int .i64 k] w fun e w'=>e = .returned (.bool (Zar v k))∧Below w.heap.size w w':=by
 obtain⟨vk,vn⟩:=v
 have hb:Below w.heap.size w (w.alloc (.cells #[.int .i64 vk,.int .i64 vn] 75)):=(Below.refl _ _).alloc (Nat.le_refl _) _
 by_cases h1:vk=k
 ·subst h1
  by_cases h2:vk=1
  ·subst h2
   by_cases h3:vn=0
   ·subst h3
    have hr:Zar ⟨1,0⟩ 1=true:=by simp [Zar]
    exact mAyA1
   by_cases h4:vn=1
   ·subst h4
    have hr:Zar ⟨1,1⟩ 1=true:=by simp [Zar]
    exact mAyA1
   have hr:Zar ⟨1,vn⟩ 1=false:=by simp [Zar,h3,h4]
   exact mAyA1
  by_cases h3:vk=2
  ·subst h3
   by_cases h4 : -128≤vn
   ·by_cases h5:vn≤127
    ·have g4 : -129<vn:=by omega
     have g5:vn<128:=by omega
     have hr:Zar ⟨2,vn⟩ 2=true:=by simp [Zar,h4,h5]
     exact mAyA1
    have hr:Zar ⟨2,vn⟩ 2=false:=by simp [Zar,h5]
    exact mAyA1
   have hr:Zar ⟨2,vn⟩ 2=false:=by simp [Zar,h4]
   exact mAyA1
  have hr:Zar ⟨vk,vn⟩ vk=false:=by simp [Zar,h2,h3]
  exact mAyA1
 have hr:Zar ⟨vk,vn⟩ k=false:=by simp [Zar,h1]
 exact mAyA1
theorem Zhg (n:Int) (w:World):Calls Tryz.prog 111 #[.int .i64 n] w fun r w'=>r = .returned (.int .i64 (Zdg n))∧w=w':=by
 have h:=around_tmod n
 have hb1 : -256<n.tmod 256:=by
  have:=Int.lt_tmod_of_pos n (show (0:Int)<256 by decide)
  omega
 have hb2:n.tmod 256<256:=Int.tmod_lt_of_pos n (by decide)
 go_enter Tryz.func111,Tryz.ntmps111
 dsimp only at h
 generalize hm:n.tmod 256=m at *
 by_cases h1:m<0
 ·rw [if_pos h1] at h
  have e1:m+256≤255:=by omega
  by_cases h2:127<m+256
  ·rw [if_pos h2] at h
   go_wp2_with fail
   go_ret
   exact⟨by rw [← h];go_num,rfl⟩
  rw [if_neg h2] at h
  go_wp2_with fail
  go_ret
  exact⟨by rw [← h];go_num,rfl⟩
 rw [if_neg h1] at h
 by_cases h2:127<m
 ·rw [if_pos h2] at h
  go_wp2_with fail
  go_ret
  exact⟨by rw [← h];go_num,rfl⟩
 rw [if_neg h2] at h
 go_wp2_with fail
 go_ret
 exact⟨by rw [← h];first | rfl | go_num,rfl⟩
end Go.Proofs.YtgoccoldkfpbgaaGreatDoor
