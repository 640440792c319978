/- Walks: lustrumlaw1.ExprOf: a term's copy. -/
import Derived.Test.YtgoccoldkfpbgaaGreatDoorRg
import Derived.Test.YtgoccoldkfpbgaaGreatDoorRunM
import Derived.Deep.RegionLaw
set_option linter.all false
namespace Go.Proofs.YtgoccoldkfpbgaaGreatDoor
set_option maxRecDepth 100000
set_option maxHeartbeats 16000000
open Go.RowKit Mx
theorem exprOf_any:∀ (e:Ex) (v:Value) (H:Kn),ExV H e v→e.parts≤1000000000000→∀ w:World,H.In w→
  Calls Tryz.prog 37 #[v] w fun r w'=>∃ v' K,r = .returned v'∧ExV K e v'∧Kn.Step H w K w':=by
 refine Ex.ind fun o n s l ih v H hv hp w hH=>?_
 obtain⟨u,rfl,hu⟩:=hv
 simp only [Ex.op,Ex.n,Ex.s,Ex.l] at hu ⊢
 obtain⟨a,cap,rfl⟩:=hu.len
 have hlp:=Zbr l
 simp only [Ex.parts] at hp
 obtain⟨i0,hi0,hz0,hz1,hz2⟩:=info_parts Tryz.infoEx
 have HU:=Zhd hu
 have IH:=Zhd ih
 clear hu ih
 go_enter Tryz.func37,Tryz.ntmps37
 go_wp2_with fail
 have hW0:Below w.heap.size w (((w.alloc (.cells #[.string o,.int .i64 n,.string s,.slice a l.length cap] 79)).alloc (.cells #[.string ⟨#[]⟩,.int .i64 0,.string ⟨#[]⟩,.slice none 0 0] 97)).alloc (.cells #[.string o,.int .i64 n,.string s,.slice none 0 0] 97)):=
  (((Below.refl _ _).alloc (Nat.le_refl _) _).alloc (by simp) _).alloc (by simp;omega) _
 have hP0:(((w.alloc (.cells #[.string o,.int .i64 n,.string s,.slice a l.length cap] 79)).alloc (.cells #[.string ⟨#[]⟩,.int .i64 0,.string ⟨#[]⟩,.slice none 0 0] 97)).alloc (.cells #[.string o,.int .i64 n,.string s,.slice none 0 0] 97)).heap[w.heap.size]?=some (.cells #[.string o,.int .i64 n,.string s,.slice a l.length cap] 79 (0,0)):=by
  rw [Below.heap_alloc _ _ _ (by simp;omega),Below.heap_alloc _ _ _ (by simp)];exact heap_alloc_new _ _
 have hR0:(((w.alloc (.cells #[.string o,.int .i64 n,.string s,.slice a l.length cap] 79)).alloc (.cells #[.string ⟨#[]⟩,.int .i64 0,.string ⟨#[]⟩,.slice none 0 0] 97)).alloc (.cells #[.string o,.int .i64 n,.string s,.slice none 0 0] 97)).heap[w.heap.size+1]?=some (.cells #[.string ⟨#[]⟩,.int .i64 0,.string ⟨#[]⟩,.slice none 0 0] 97 (0,0)):=by
  rw [Below.heap_alloc _ _ _ (by simp),show w.heap.size+1=(w.alloc (.cells #[.string o,.int .i64 n,.string s,.slice a l.length cap] 79)).heap.size from by simp];exact heap_alloc_new _ _
 have hB0:(((w.alloc (.cells #[.string o,.int .i64 n,.string s,.slice a l.length cap] 79)).alloc (.cells #[.string ⟨#[]⟩,.int .i64 0,.string ⟨#[]⟩,.slice none 0 0] 97)).alloc (.cells #[.string o,.int .i64 n,.string s,.slice none 0 0] 97)).heap[w.heap.size+1+1]?=some (.cells #[.string o,.int .i64 n,.string s,.slice none 0 0] 97 (0,0)):=by
  rw [show w.heap.size+1+1=((w.alloc (.cells #[.string o,.int .i64 n,.string s,.slice a l.length cap] 79)).alloc (.cells #[.string ⟨#[]⟩,.int .i64 0,.string ⟨#[]⟩,.slice none 0 0] 97)).heap.size from by simp];exact heap_alloc_new _ _
 generalize (((w.alloc (.cells #[.string o,.int .i64 n,.string s,.slice a l.length cap] 79)).alloc (.cells #[.string ⟨#[]⟩,.int .i64 0,.string ⟨#[]⟩,.slice none 0 0] 97)).alloc (.cells #[.string o,.int .i64 n,.string s,.slice none 0 0] 97))=W0 at *
 have HS0:=Zhd (show ExO 97 H W0 W0 (w.heap.size+1+1) (.mk o n s l) 0 (.slice none 0 0) [] H from
  ⟨Kn.le_refl H,fun _ _=>rfl,hH.below hW0,Below.refl _ _,hB0,World.ownsRow_nil _ _ _ _,rfl,fun g hg=>by simp [Value.ownBlock] at hg⟩)
 have HW0:=Zhd hW0
 have HP0:=Zhd hP0
 have HR0:=Zhd hR0
 have hHB:H (w.heap.size+1+1)=none:=hH.isNone (by omega)
 have hHR:H (w.heap.size+1)=none:=hH.isNone (by omega)
 clear hW0 hP0 hR0 hB0
 go_loopw [4] (fun i wr=>∃ (k:Nat) (u:Value) (xs:List Value) (K:Kn),i = .int .i64 k∧k≤l.length∧ExO 97 H W0 wr (w.heap.size+1+1) (.mk o n s l) k u xs K) (fun i _=>l.length - (intOf i).toNat)
 case atStart=>exact⟨0,_,_,_,rfl,Nat.zero_le _,HS0.out⟩
 obtain⟨k,u,xs,K,rfl,hk,hS⟩:=hrel
 have HS:=Zhd hS
 clear hS
 have p3:wr.cell? ⟨w.heap.size,3,none⟩=some (.slice a l.length cap):=by
  rw [HS.out.below.cell (p:=⟨w.heap.size,3,none⟩) (by show w.heap.size<_;omega)];simp [World.cell?,HP0.out]
 by_cases hkl:k<l.length
 ·obtain⟨b,off,ax,cx,rfl,c0,c1,c2,c3,hx⟩:=HU.out.at hkl
  have hxe:∃ x,l[k]=x:=⟨_,rfl⟩
  obtain⟨x,hxe⟩:=hxe
  have hpx:x.parts≤1000000000000:=by have:=Zau l k hkl;rw [hxe] at this;omega
  have hmem:x∈l:=by rw [← hxe];exact List.getElem_mem hkl
  rw [hxe] at c0 c1 c2 c3 hx
  have c0:=HS.out.isin.cell (HS.out.le.cell c0)
  have c1:=HS.out.isin.cell (HS.out.le.cell c1)
  have c2:=HS.out.isin.cell (HS.out.le.cell c2)
  have c3:=HS.out.isin.cell (HS.out.le.cell c3)
  have hx:=hx.le HS.out.le
  have q3:wr.drew.cell? ⟨w.heap.size+1+1,3,none⟩=some u:=HS.out.cells.2.2.2
  have hSD:=HS.out.drew
  have HXE:=Zhd hxe
  clear hxe
  go_wp2_with fail
  go_region_law (first | (go_simp;go_at_call 37;refine (IH.out x hmem _ K hx hpx _ hSD.isin).mono ?_;rintro r wc ⟨v',K2,rfl,hv2,hst⟩;obtain⟨u2,rfl,hu2⟩:=hv2;obtain⟨ax2,cx2,rfl⟩:=hu2.len;have hS2:=ExO.next hSD hst;have q5:=hS2.cells.2.2.2;have q6:=fun o=>(hS2.alloc o).cells.2.2.2) | (refine step_append_lies _ (by rfl) _ _ _ (by rfl) (w.heap.size+1+1+1) 97 i0 _ 4 64 Tryz.underlying39 hi0 hz0 hz1 hz2 rfl (by omega) u k xs (by rfl) (ExO.row (ExO.alloc (by assumption) _)) ⟨_,0,none⟩ 1 1 [.string x.op,.int .i64 x.n,.string x.s,.slice ax2 x.l.length cx2] (by rfl) (by rfl) (by exact World.news_of_block (heap_alloc_new _ _)) (by simp [Value.oneCell']) (by omega) (by unfold maxLen;omega) (by omega) (ExO.blt (ExO.alloc (by assumption) _)) _ rfl ?_;intro gg cap' w3 hown hgrow hat hltg;obtain⟨hf1,hf2,hf3⟩:=ExO.step (ExO.alloc (by assumption) _) hkl HXE.out hHB hu2 hown hgrow hat))
  all_goals generalize World.setCell _ _ _=W at hf3 ⊢
  all_goals go_wp2_with fail
  all_goals go_roundw
  all_goals first | exact⟨k+1,_,_,_,by go_num,by omega,hf3⟩ | (simp [intOf];omega)
 obtain rfl:k=l.length:=by omega
 obtain⟨au,cu,rfl,_⟩:=Zas HS.out.row
 have hxs:XsAt K (List.take l.length l) xs:=HS.out.xs
 rw [List.take_of_length_le (Nat.le_refl _)] at hxs
 obtain⟨K',hle,hin,hv,hfr⟩:=exsV_of_own HS.out.isin HS.out.row hxs HS.out.noR
 obtain⟨q0,q1,q2,q3⟩:=HS.out.cells
 simp only [Ex.op,Ex.n,Ex.s] at q0 q1 q2
 have hR1:wr.heap[w.heap.size+1]?=some (.cells #[.string ⟨#[]⟩,.int .i64 0,.string ⟨#[]⟩,.slice none 0 0] 97 (0,0)):=by rw [HS.out.below.block _ (by omega)];exact HR0.out
 obtain⟨r0,r1,r2,r3,f0,f1,f2,f3,_⟩:=Zd1 hR1
 have hR2:=set4_of hR1 (.string o) (.int .i64 n) (.string s) (.slice au l.length cu)
 have HR2:=Zhd hR2
 clear hR1 hR2
 have hKR:K' (w.heap.size+1)=none:=by rw [hfr _ (by omega),HS.out.fresh _ (by omega)];exact hHR
 have hstep:Kn.Step H w K' ((((wr.setCell ⟨w.heap.size+1,0,none⟩ (.string o)).setCell ⟨w.heap.size+1,1,none⟩ (.int .i64 n)).setCell ⟨w.heap.size+1,2,none⟩ (.string s)).setCell ⟨w.heap.size+1,3,none⟩ (.slice au l.length cu)):=by
  have hbw:Below w.heap.size w wr:=HW0.out.trans (HS.out.below.mono (by omega))
  refine⟨Kn.le_trans HS.out.le hle,fun b hb=>(hfr b (by omega)).trans (HS.out.fresh b (by omega)),?_,?_⟩
  ·exact (((hin.setCell (a:=⟨w.heap.size+1,0,none⟩) hKR _).setCell (a:=⟨w.heap.size+1,1,none⟩) hKR _).setCell (a:=⟨w.heap.size+1,2,none⟩) hKR _).setCell (a:=⟨w.heap.size+1,3,none⟩) hKR _
  exact (((hbw.setCell (p:=⟨w.heap.size+1,0,none⟩) (Nat.le_succ _) _).setCell (p:=⟨w.heap.size+1,1,none⟩) (Nat.le_succ _) _).setCell (p:=⟨w.heap.size+1,2,none⟩) (Nat.le_succ _) _).setCell (p:=⟨w.heap.size+1,3,none⟩) (Nat.le_succ _) _
 have HST:=Zhd hstep
 have HV:=Zhd hv
 clear hstep hv hin hfr hle
 go_wp2_with fail
 obtain⟨e0,e1,e2,e3,_⟩:=Zd1 HR2.out
 refine bodyPost_ret (v := .agg #[.string o,.int .i64 n,.string s,.slice au l.length cu]) (by simp [results,Tryz.results37,go_sem,e0,e1,e2,e3]) rfl ?_
 exact⟨_,K',rfl,⟨_,rfl,HV.out⟩,HST.out⟩
theorem mFof1 {p:Prop} (h:p:=by
 have HST:=Zhd (show Kn.Step H w K' wr from⟨Kn.le_trans HS.out.le hle,fun b hb=>(hfr b hb).trans (HS.out.fresh b hb),hin,HS.out.below⟩)
 have HV:=Zhd hv
 clear hv hin hfr hle
 go_wp2_with fail
 go_ret
 exact⟨_,K',rfl,HV.out,HST.out⟩):p:=h
theorem xs_mono:∀ (K K':Kn) (l:List Ex) (xs:List Value),Kn.le K K'→XsAt K l xs→XsAt K' l xs:=fun _ _ _ _ h k=>k.le h
theorem Zfp (l:List Ex) (v:Value) (H:Kn) (hv:ExsV H l v) (hp:Ex.partsL l≤1000000000000) (w:World) (hH:H.In w):
  Calls Tryz.prog 36 #[v] w fun r w'=>∃ v' K,r = .returned v'∧ExsV K l v'∧Kn.Step H w K w':=by
 obtain⟨a,cap,rfl⟩:=hv.len
 have hlp:=Zbr l
 have HU:=Zhd hv
 clear hv
 go_enter Tryz.func36,Tryz.ntmps36
 go_wp2_with fail
 have HS0:=Zhd (show RwO 97 4 XsAt H w w w.heap.size l 0 (.slice none 0 0) [] H from
  ⟨Kn.le_refl H,fun _ _=>rfl,hH,Below.refl _ _,Nat.le_refl _,World.ownsRow_nil _ _ _ _,rfl,fun g hg=>by simp [Value.ownBlock] at hg⟩)
 go_loopw [3,4] (fun u i wr=>∃ (k:Nat) (xs:List Value) (K:Kn),i = .int .i64 k∧k≤l.length∧RwO 97 4 XsAt H w wr w.heap.size l k u xs K) (fun _ i _=>l.length - (intOf i).toNat)
 case atStart=>exact⟨0,_,_,rfl,Nat.zero_le _,HS0.out⟩
 obtain⟨k,xs,K,rfl,hk,hS⟩:=hrel
 have HS:=Zhd hS
 obtain⟨au,cu,rfl,_⟩:=Zas hS.row
 clear hS
 by_cases hkl:k<l.length
 ·obtain⟨b,off,ax,cx,rfl,c0,c1,c2,c3,hx⟩:=HU.out.at hkl
  have hpx:l[k].parts≤1000000000000:=by have:=Zau l k hkl;omega
  have c0:=HS.out.isin.cell (HS.out.le.cell c0)
  have c1:=HS.out.isin.cell (HS.out.le.cell c1)
  have c2:=HS.out.isin.cell (HS.out.le.cell c2)
  have c3:=HS.out.isin.cell (HS.out.le.cell c3)
  have hx:=hx.le HS.out.le
  have HT:=Zhd (Zdt l k hkl)
  generalize l[k]=x at *
  go_wp2_with fail
  refine (exprOf_any x _ K hx hpx _ HS.out.isin).mono ?_
  rintro r wc ⟨v',K2,rfl,hv2,hst⟩
  obtain⟨u2,rfl,hu2⟩:=hv2
  obtain⟨ax2,cx2,rfl⟩:=hu2.len
  have HS2:=Zhd ((RwO.next xs_mono HS.out hst).alloc (.cells #[.string x.op,.int .i64 x.n,.string x.s,.slice ax2 x.l.length cx2] 97))
  have HU2:=Zhd hu2
  clear hst hu2
  go_wp2_with (at_builtin;refine Zj7 39 97 4 64 _ Tryz.underlying39 Tryz.infoEx rfl (by decide) _ _ rfl rfl w.heap.size _ _ _ rfl HS2.out.row ⟨wc.heap.size,0,none⟩ 1 [.string x.op,.int .i64 x.n,.string x.s,.slice ax2 x.l.length cx2] rfl rfl ?c1 ?c2 ?c3 ?c4 ?c5 ?_)
  case c1=>exact cells4 _ _ _ _ _ _
  case c2=>simp [Value.oneCell']
  case c3=>omega
  case c4=>omega
  case c5=>exact HS2.out.size
  intro g cap' w3 ho hg3 hat
  have HS3:=Zhd (RwO.step (n':=1) HS2.out (by rw [HT.out];exact HS2.out.xs.append ⟨ax2,cx2,[],rfl,HU2.out,rfl⟩) ho hg3 (by rw [World.size_alloc];exact hat))
  go_wp2_with fail
  go_roundw
  case rel=>exact⟨k+1,_,K2,by go_num,by omega,HS3.out⟩
  simp [intOf];omega
 obtain rfl:k=l.length:=by omega
 have hxs:XsAt K (List.take l.length l) xs:=HS.out.xs
 rw [List.take_of_length_le (Nat.le_refl _)] at hxs
 obtain⟨K',hle,hin,hv,hfr⟩:=exsV_of_own HS.out.isin HS.out.row hxs HS.out.noR
 exact mFof1
theorem Tryz.infoVr:(Tryz.prog.info? 133).map (fun i=>(i.zero,i.size,i.bytes))=some (some (.agg #[.string ⟨#[]⟩,.int .i64 0]),2,24):=by kernel_rfl
theorem varsOf_any (l:List Vr) (v:Value) (H:Kn) (hv:VrsV H l v) (hp:l.length≤1000000000000) (w:World) (hH:H.In w):
  Calls Tryz.prog 35 #[v] w fun r w'=>∃ v' K,r = .returned v'∧VrsV K l v'∧Kn.Step H w K w':=by
 obtain⟨a,cap,rfl⟩:=hv.len
 have HU:=Zhd hv
 clear hv
 obtain⟨i0,hi0,hz0,hz1,hz2⟩:=info_parts Tryz.infoVr
 go_enter Tryz.func35,Tryz.ntmps35
 go_wp2_with fail
 have HS0:=Zhd (show RwO 133 2 VsX H w w w.heap.size l 0 (.slice none 0 0) [] H from
  ⟨Kn.le_refl H,fun _ _=>rfl,hH,Below.refl _ _,Nat.le_refl _,World.ownsRow_nil _ _ _ _,rfl,fun g hg=>by simp [Value.ownBlock] at hg⟩)
 go_loopw [3,4] (fun u i wr=>∃ (k:Nat) (xs:List Value),i = .int .i64 k∧k≤l.length∧RwO 133 2 VsX H w wr w.heap.size l k u xs H) (fun _ i _=>l.length - (intOf i).toNat)
 case atStart=>exact⟨0,_,rfl,Nat.zero_le _,HS0.out⟩
 obtain⟨k,xs,rfl,hk,hS⟩:=hrel
 have HS:=Zhd hS
 obtain⟨au,cu,rfl,_⟩:=Zas hS.row
 clear hS
 by_cases hkl:k<l.length
 ·obtain⟨b,off,rfl,_,c0,c1⟩:=SlV.at HU.out hkl
  have c0:=HS.out.isin.cell c0
  have c1:=HS.out.isin.cell c1
  simp only [Nat.add_zero] at c0
  have c0:wr.drew.cell? ⟨b,off+k * 2,none⟩=some (.string l[k].name):=c0
  have c1:wr.drew.cell? ⟨b,off+k * 2+1,none⟩=some (.int .i64 l[k].kind):=c1
  have HT:=Zhd (Zdt l k hkl)
  generalize l[k]=x at *
  have HSD:=HS.out.drew
  go_wp2_with fail
  go_region_law (refine step_append_lies _ (by rfl) _ _ _ (by rfl) w.heap.size 133 i0 _ 2 24 Tryz.underlying37 hi0 hz0 hz1 hz2 rfl (by omega) _ k xs (by rfl) (RwO.row (RwO.alloc HSD _)) ⟨_,0,none⟩ 1 1 [.string x.name,.int .i64 x.kind] (by rfl) (by rfl) (by exact World.news_of_block (heap_alloc_new _ _)) (by simp [Value.oneCell']) (by omega) (by unfold maxLen;omega) (by omega) (RwO.size (RwO.alloc HSD _)) _ rfl ?_;intro gg cap' w3 hown hgrow hat hltg;have hf3:=RwO.step (n':=1) (RwO.alloc HSD _) (by rw [HT.out];have h1:=HS.out.xs;unfold VsX at h1 ⊢;rw [h1];simp) hown hgrow hat)
  all_goals go_wp2_with fail
  all_goals go_roundw
  all_goals first | exact⟨k+1,_,by go_num,by omega,hf3⟩ | (simp [intOf];omega)
 obtain rfl:k=l.length:=by omega
 have hxs:VsX H (List.take l.length l) xs:=HS.out.xs
 rw [List.take_of_length_le (Nat.le_refl _)] at hxs
 obtain⟨K',hle,hin,hv,hfr⟩:=Zcw (R:=fun _=>VrC) HS.out.isin HS.out.row HS.out.noR (fun K' _=>VsX.at (K':=K') hxs)
 exact mFof1
theorem Zfy:∀ (l:List Ex) (k:Nat) (h:k<l.length),Ex.weightL (l.take (k+1))=Ex.weightL (l.take k)+l[k].weight
 | e :: l,0,_=>by simp [Ex.weightL]
 | e :: l,k+1,h=>by
  have:=Zfy l k (by simpa using h)
  simp only [List.take_succ_cons,Ex.weightL,List.getElem_cons_succ]
  omega
theorem Zex:∀ (l:List Ex) (k:Nat),Ex.weightL (l.take k)≤Ex.weightL l
 | [],k=>by simp
 | e :: l,0=>by simp [Ex.weightL]
 | e :: l,k+1=>by
  have:=Zex l k
  simp only [List.take_succ_cons,Ex.weightL]
  omega
theorem ex_weight (e:Ex):e.weight=1+e.s.size+Ex.weightL e.l:=by cases e;simp only [Ex.weight,Ex.l,Ex.s]
theorem Zee:∀ l:List Ex,l.length≤Ex.weightL l
 | []=>Nat.le_refl _
 | e :: l=>by have:=Zee l;have:=ex_weight e;simp only [Ex.weightL,List.length_cons];omega
theorem Zg4:∀ (a b:List Ex),Ex.weightL (a++b)=Ex.weightL a+Ex.weightL b
 | [],b=>by simp [Ex.weightL]
 | x :: a,b=>by simp only [List.cons_append,Ex.weightL,Zg4 a b];omega
theorem partsL_le_w {l:List Ex} (h:∀ e∈l,e.parts≤e.weight):Ex.partsL l≤Ex.weightL l:=by
 induction l with
 | nil=>exact Nat.le_refl _
 | cons e l ih=>
  simp only [Ex.partsL,Ex.weightL]
  have:=h e (List.mem_cons_self ..)
  have:=ih (fun x hx=>h x (List.mem_cons_of_mem _ hx))
  omega
theorem parts_le_weight:∀ e:Ex,e.parts≤e.weight:=by
 refine Ex.ind fun o n s l ih=>?_
 simp only [Ex.parts,Ex.weight]
 have:=partsL_le_w ih
 omega
theorem Ze1 (l:List Ex):Ex.partsL l≤Ex.weightL l:=partsL_le_w fun e _=>parts_le_weight e
theorem weight_any (H:Kn):∀ (e:Ex) (v:Value),ExV H e v→e.weight≤1000000000000000000→∀ w:World,H.In w→
  Calls Tryz.prog 30 #[v] w fun r w'=>r = .returned (.int .i64 e.weight)∧Below w.heap.size w w':=by
 refine Ex.ind fun o n s l ih v hv hp w hH=>?_
 obtain⟨u,rfl,hu⟩:=hv
 simp only [Ex.op,Ex.n,Ex.s,Ex.l] at hu ⊢
 simp only [Ex.weight] at hp ⊢
 obtain⟨a,cap,rfl⟩:=hu.len
 have HU:=Zhd hu
 have IH:=Zhd ih
 have hll:=Zee l
 clear hu ih
 go_enter Tryz.func30,Tryz.ntmps30
 go_wp2_with fail
 have hW1:Below w.heap.size w (w.alloc (.cells #[.string o,.int .i64 n,.string s,.slice a l.length cap] 79)):=(Below.refl _ _).alloc (Nat.le_refl _) _
 have hP1:(w.alloc (.cells #[.string o,.int .i64 n,.string s,.slice a l.length cap] 79)).cell? ⟨w.heap.size,3,none⟩=some (.slice a l.length cap):=by rw [World.cell?_alloc_new];rfl
 have hlt1:w.heap.size<(w.alloc (.cells #[.string o,.int .i64 n,.string s,.slice a l.length cap] 79)).heap.size:=by simp
 generalize w.alloc (.cells #[.string o,.int .i64 n,.string s,.slice a l.length cap] 79)=W at *
 have HW1:=Zhd hW1
 have HP1:=Zhd hP1
 clear hW1 hP1
 go_loopw [3,4] (fun c i wr=>∃ k:Nat,i = .int .i64 k∧k≤l.length∧c = .int .i64 ((1+s.size+Ex.weightL (l.take k):Nat):Int)∧Below W.heap.size W wr) (fun _ i _=>l.length - (intOf i).toNat)
 case atStart=>exact⟨0,rfl,Nat.zero_le _,rfl,Below.refl _ _⟩
 obtain⟨k,rfl,hk,rfl,hb⟩:=hrel
 have HB:=Zhd hb
 clear hb
 have hpl:=Zex l k
 have p3:wr.cell? ⟨w.heap.size,3,none⟩=some (.slice a l.length cap):=by rw [HB.out.cell (p:=⟨w.heap.size,3,none⟩) hlt1];exact HP1.out
 have hBW:Below w.heap.size w wr:=HW1.out.trans (HB.out.mono HW1.out.size)
 by_cases hkl:k<l.length
 ·obtain⟨b,off,ax,cx,rfl,c0,c1,c2,c3,hx⟩:=HU.out.at hkl
  have hHr:=hH.below hBW
  have c0:=hHr.cell c0
  have c1:=hHr.cell c1
  have c2:=hHr.cell c2
  have c3:=hHr.cell c3
  have hps:=Zfy l k hkl
  have hpl2:=Zex l (k+1)
  have PS:=Zhd hps
  have hpx:l[k].weight≤1000000000000000000:=by omega
  have hmem:=List.getElem_mem hkl
  generalize l[k]=x at *
  have hw1:1+s.size+Ex.weightL (l.take k)+x.weight≤1000000000000000000:=by omega
  clear hps
  go_wp2_with fail
  refine (IH.out x hmem _ hx hpx _ hHr).mono ?_
  rintro r w2 ⟨rfl,hb2⟩
  have hW2:Below W.heap.size W w2:=HB.out.trans (hb2.mono HB.out.size)
  go_wp2_with fail
  go_roundw
  case rel=>exact⟨k+1,by go_num,by omega,by rw [PS.out];go_num,hW2⟩
  simp [intOf];omega
 go_wp2_with fail
 go_ret
 exact⟨Zah (by rw [List.take_of_length_le (by omega)]),hBW⟩
theorem Tryz.infoREx:(Tryz.prog.info? 79).map (fun i=>(i.zero,i.size,i.bytes))=some (some (.agg #[.string ⟨#[]⟩,.int .i64 0,.string ⟨#[]⟩,.slice none 0 0]),4,64):=by kernel_rfl
theorem Zgm {t T:TypeId} {z:Value} (ht:Tryz.prog.underlying t=some (.slice T)) (hinfo:(Tryz.prog.info? T).map (fun i=>(i.zero,i.size,i.bytes))=some (some z,4,64)) (hz:z.cells.size=4)
  {H K:Kn} {w0 wr:World} {base:Nat} {L:List Ex} {done:Nat} {u:Value} {xs:List Value} (hS:RwO T 4 XsAt H w0 wr base L done u xs K) {l:List Ex} {a:Option Addr} {c:Nat} (hv:ExsV K l (.slice a l.length c)) (hL:L.take (done+l.length)=L.take done++l) (hb:done+l.length≤1000000000000):
  ∃ v' W' xs',(∀ ty,(Builtin.append_ #[t,t] ty #[u,.slice a l.length c]).run Tryz.prog wr = .ok v' W')∧RwO T 4 XsAt H w0 W' base L (done+l.length) v' xs' K:=by
 obtain⟨i,hi,h0,h2,h3⟩:=info_parts hinfo
 by_cases hl:l=[]
 ·subst hl
  exact⟨u,wr,xs,fun ty=>Zbq t T i ht hi (by rw [← h2] at *;exact hS.row) a c ty,hS⟩
 rcases hv with ⟨h,_⟩ | ⟨b,off,cap,he,hc1,hc2,hc3⟩
 ·exact absurd h hl
 cases he
 obtain⟨ys,hy1,hy2⟩:=hc3.xs
 have hlen:0<l.length:=List.length_pos_iff.2 hl
 have hrun:=fun ty=>run_append_lies (P:=Tryz.prog) wr t ty base T i _ 4 64 ht hi h0 h2 h3 hz (by omega) u done xs hS.row ⟨b,off,none⟩ l.length c ys hy1.len (fun j v hj=>by rw [Zc4];exact hS.isin.cell (hy2 j v hj)) hy1.one hlen (by unfold maxLen;omega) (by omega) hS.size wr.heap.size rfl
 obtain⟨g,cap',W',e1,e2,e3,e4,e5⟩:=hrun 0
 refine⟨_,W',xs++ys,fun ty=>?_,hS.step (by rw [hL];exact hS.xs.append hy1) e2 e3 e4⟩
 exact e1
theorem Ze8 {K:Kn} {w:World} {base:Nat} {t:TypeId} {v:Value} {l:List Ex} {xs:List Value} (hK:K.In w) (h:w.ownsRow base t 4 v l.length xs) (hx:XsAt K l xs) (hr:∀ g,v.ownBlock=some g→K g=none):
  ∃ K',K.le K'∧K'.In w∧ExsV K' l v∧(∀ b,b<base→K' b=K b)∧∀ g ob,K' g=some ob→K g=some ob∨∃ cs,ob = .cells cs t (0,0):=by
 by_cases h0:l=[]
 ·obtain⟨a,c,h1,_⟩:=Zas h
  exact⟨K,Kn.le_refl K,hK,.inl ⟨h0,a,c,by rw [h1,h0];rfl⟩,fun _ _=>rfl,fun _ _ h => .inl h⟩
 rcases h.2 with ⟨_,hz⟩ | ⟨g,cap,cur,h1,h2,h3,h4,h5,_⟩
 ·exact absurd (List.eq_nil_of_length_eq_zero hz) h0
 have hg:K g=none:=hr g (by rw [h1];rfl)
 obtain⟨g',cap',e1,_,_,_,_,hc⟩:=Zbz h (List.length_pos_iff.2 h0)
 rw [h1] at e1
 cases e1
 refine⟨K.add g (.cells cur t (0,0)),Kn.le_add hg,hK.add h3,.inr ⟨g,0,cap,h1,h4,h5,hx.at (Kn.le_add hg) fun j u hj=>?_⟩,fun b hbb=>Kn.add_other K _ (by omega),fun q ob hq=>?_⟩
 ·have h6:=hc j u hj
  simp only [World.cell?,h3] at h6
  unfold Kn.cell
  rw [Kn.add_self,Nat.zero_add]
  simpa using h6
 by_cases e:q=g
 ·subst e
  rw [Kn.add_self] at hq
  cases hq
  exact .inr ⟨_,rfl⟩
 rw [Kn.add_other _ _ e] at hq
 exact .inl hq
theorem Zhe (H:Kn) (p:Pr) (vi vo vl va vc:Value) (hp:PrP H p vi vo vl va vc) (hsz:p.terms.length≤1000000000) (w:World) (hH:H.In w):
  Calls Tryz.prog 29 #[.agg #[vi,vo,vl,va,vc]] w fun r w'=>∃ v K,r = .returned v∧ExsV K p.terms v∧Kn.Step H w K w'∧∀ g ob,K g=some ob→H g=some ob∨∃ cs,ob = .cells cs 79 (0,0):=by
 obtain⟨h1,h2,h3,h4,h5⟩:=hp
 obtain⟨ai,ci,rfl⟩:=h1.len
 obtain⟨ao,co,rfl⟩:=h2.len
 obtain⟨al,cl,rfl⟩:=h3.len
 obtain⟨aa,ca,rfl⟩:=h4.len
 obtain⟨ac,cc,rfl⟩:=h5.len
 have hlen:p.terms.length=p.fl.length+p.as.length+p.cs.length:=by simp [Pr.terms];omega
 have H3:=Zhd h3
 have H4:=Zhd h4
 have H5:=Zhd h5
 clear h1 h2 h3 h4 h5
 go_enter Tryz.func29,Tryz.ntmps29
 go_wp2_with fail
 have hq:∀ i,(w.alloc (.cells #[.slice ai p.ins.length ci,.slice ao p.outs.length co,.slice al p.fl.length cl,.slice aa p.as.length ca,.slice ac p.cs.length cc] 27)).cell? ⟨w.heap.size,i,none⟩=(#[.slice ai p.ins.length ci,.slice ao p.outs.length co,.slice al p.fl.length cl,.slice aa p.as.length ca,.slice ac p.cs.length cc]:Array Value)[i]?:=fun i=>World.cell?_alloc_new _ _ _ _
 have hb0:Below w.heap.size w (w.alloc (.cells #[.slice ai p.ins.length ci,.slice ao p.outs.length co,.slice al p.fl.length cl,.slice aa p.as.length ca,.slice ac p.cs.length cc] 27)):=(Below.refl _ _).alloc (Nat.le_refl _) _
 have hlt1:w.heap.size<(w.alloc (.cells #[.slice ai p.ins.length ci,.slice ao p.outs.length co,.slice al p.fl.length cl,.slice aa p.as.length ca,.slice ac p.cs.length cc] 27)).heap.size:=by simp
 generalize w.alloc (.cells #[.slice ai p.ins.length ci,.slice ao p.outs.length co,.slice al p.fl.length cl,.slice aa p.as.length ca,.slice ac p.cs.length cc] 27)=W1 at *
 have q2:=Zhd (show W1.cell? ⟨w.heap.size,2,none⟩=some (.slice al p.fl.length cl) from hq 2)
 have q3:=Zhd (show W1.cell? ⟨w.heap.size,3,none⟩=some (.slice aa p.as.length ca) from hq 3)
 have q4:=Zhd (show W1.cell? ⟨w.heap.size,4,none⟩=some (.slice ac p.cs.length cc) from hq 4)
 have HB0:=Zhd hb0
 have HS0:=Zhd (show RwO 79 4 XsAt H W1 W1 W1.heap.size p.terms 0 (.slice none 0 0) [] H from
  ⟨Kn.le_refl H,fun _ _=>rfl,hH.below hb0,Below.refl _ _,Nat.le_refl _,World.ownsRow_nil _ _ _ _,rfl,fun g hg=>by simp [Value.ownBlock] at hg⟩)
 clear hq hb0
 go_loopw [3,4] (fun u i wr=>∃ (k:Nat) (xs:List Value),i = .int .i64 k∧k≤p.fl.length∧RwO 79 4 XsAt H W1 wr W1.heap.size p.terms k u xs H) (fun _ i _=>p.fl.length - (intOf i).toNat)
 case atStart=>exact⟨0,_,rfl,Nat.zero_le _,HS0.out⟩
 obtain⟨k,xs,rfl,hk,hS⟩:=hrel
 have HS:=Zhd hS
 obtain⟨au,cu,rfl,_⟩:=Zas hS.row
 have hbl:=hS.below
 clear hS
 have e2:wr.cell? ⟨w.heap.size,2,none⟩=some (.slice al p.fl.length cl):=by rw [hbl.cell (p:=⟨w.heap.size,2,none⟩) hlt1];exact q2.out
 have e3:wr.cell? ⟨w.heap.size,3,none⟩=some (.slice aa p.as.length ca):=by rw [hbl.cell (p:=⟨w.heap.size,3,none⟩) hlt1];exact q3.out
 have e4:wr.cell? ⟨w.heap.size,4,none⟩=some (.slice ac p.cs.length cc):=by rw [hbl.cell (p:=⟨w.heap.size,4,none⟩) hlt1];exact q4.out
 clear hbl
 by_cases hkl:k<p.fl.length
 ·obtain⟨b,off,cap0,he,_,_,hcs⟩:=FlsV.cell H3.out (fun e=>by rw [e] at hkl;simp at hkl)
  cases he
  obtain⟨ax,cx,d0,d1,d2,d3,d4,d5,hx⟩:=hcs k hkl
  have d2:=HS.out.isin.cell d2
  have d3:=HS.out.isin.cell d3
  have d4:=HS.out.isin.cell d4
  have d5:=HS.out.isin.cell d5
  have hxe:∃ x,p.fl[k]=x:=⟨_,rfl⟩
  obtain⟨x,hxe⟩:=hxe
  have hT:p.terms.take (k+1)=p.terms.take k++[x.e]:=by
   have hkt:k<p.terms.length:=by omega
   rw [Zdt _ _ hkt]
   congr 2
   simp only [Pr.terms,List.append_assoc]
   rw [List.getElem_append_left (by simpa using hkl)]
   simp [hxe]
  rw [hxe] at d2 d3 d4 d5 hx
  have HT:=Zhd hT
  have HX:=Zhd hx
  clear hxe hcs hx hT d0 d1
  have HS2:=Zhd (HS.out.alloc (.cells #[.string x.e.op,.int .i64 x.e.n,.string x.e.s,.slice ax x.e.l.length cx] 79))
  go_wp2_with (at_builtin;refine Zj7 25 79 4 64 _ Tryz.underlying25 Tryz.infoREx rfl (by decide) _ _ rfl rfl W1.heap.size _ _ _ rfl HS2.out.row ⟨wr.heap.size,0,none⟩ 1 [.string x.e.op,.int .i64 x.e.n,.string x.e.s,.slice ax x.e.l.length cx] rfl rfl ?c1 ?c2 ?c3 ?c4 ?c5 ?_)
  case c1=>exact cells4 _ _ _ _ _ _
  case c2=>simp [Value.oneCell']
  case c3=>omega
  case c4=>omega
  case c5=>exact HS2.out.size
  intro g cap' w3 ho hg3 hat
  have HS3:=Zhd (RwO.step (n':=1) HS2.out (by rw [HT.out];exact HS2.out.xs.append ⟨ax,cx,[],rfl,HX.out,rfl⟩) ho hg3 (by rw [World.size_alloc];exact hat))
  go_wp2_with fail
  go_roundw
  case rel=>exact⟨k+1,_,by go_num,by omega,HS3.out⟩
  simp [intOf];omega
 obtain rfl:k=p.fl.length:=by omega
 have t1:p.terms.take (p.fl.length+p.as.length)=p.terms.take p.fl.length++p.as:=by
  unfold Pr.terms
  rw [List.append_assoc]
  have e1:p.fl.length=(p.fl.map (·.e)).length:=by simp
  rw [e1,List.take_length_add_append,List.take_left]
  rw [List.take_left]
 have t2:p.terms.take (p.fl.length+p.as.length+p.cs.length)=p.terms.take (p.fl.length+p.as.length)++p.cs:=by
  rw [t1,List.take_of_length_le (by omega)]
  unfold Pr.terms
  have e1:p.fl.length=(p.fl.map (·.e)).length:=by simp
  rw [e1,List.append_assoc,List.take_left,List.append_assoc]
 obtain⟨v2,w2,xs2,hr2,hS2⟩:=Zgm Tryz.underlying25 Tryz.infoREx rfl HS.out H4.out t1 (by omega)
 obtain⟨a2,c2,rfl,_⟩:=Zas hS2.row
 obtain⟨v3,w3,xs3,hr3,hS3⟩:=Zgm Tryz.underlying25 Tryz.infoREx rfl hS2 H5.out t2 (by omega)
 obtain⟨a3,c3,rfl,_⟩:=Zas hS3.row
 have g4:w2.cell? ⟨w.heap.size,4,none⟩=some (.slice ac p.cs.length cc):=by rw [hS2.below.cell (p:=⟨w.heap.size,4,none⟩) hlt1];exact q4.out
 have hxs:=hS3.xs
 rw [List.take_of_length_le (by omega)] at hxs
 obtain⟨K',hle,hin,hv,hfr,hty⟩:=Ze8 (l:=p.terms) hS3.isin (by rw [hlen];exact hS3.row) hxs hS3.noR
 have HTY:=Zhd hty
 have HST:=Zhd (show Kn.Step H w K' w3 from⟨hle,fun b hb=>hfr b (by have:=HB0.out.size;omega),hin,HB0.out.trans (hS3.below.mono HB0.out.size)⟩)
 have HV:=Zhd hv
 clear hv hin hfr hle hxs hS2 hS3 t1 t2 hty
 go_wp2_with (at_builtin;first | refine Zbj rfl _ _ _ _ rfl _ _ rfl rfl _ _ hr2 ?_ | refine Zbj rfl _ _ _ _ rfl _ _ rfl rfl _ _ hr3 ?_)
 go_ret
 exact⟨_,K',rfl,HV.out,HST.out,HTY.out⟩
theorem Zir (H:Kn) (p:Pr) (vi vo vl va vc:Value) (hp:PrP H p vi vo vl va vc) (hsz:p.terms.length≤1000000000) (w:World) (hH:H.In w):
  Calls Tryz.prog 29 #[.agg #[vi,vo,vl,va,vc]] w fun r w'=>∃ v K,r = .returned v∧ExsV K p.terms v∧Kn.Step H w K w':=
 (Zhe H p vi vo vl va vc hp hsz w hH).mono fun _ _ ⟨v,K,h1,h2,h3,_⟩=>⟨v,K,h1,h2,h3⟩
end Go.Proofs.YtgoccoldkfpbgaaGreatDoor
