/- Walks: lustrumlaw1.ExprOf: a term's copy. -/
import Derived.Test.YtofameafdnkijaaGreatDoorRg
import Derived.Test.YtofameafdnkijaaGreatDoorOiP
import Derived.Deep.RegionLaw
set_option linter.all false
namespace Go.Proofs.YtofameafdnkijaaGreatDoor
set_option maxRecDepth 100000
set_option maxHeartbeats 16000000
open Go.RowKit Mx
theorem exprOf_any:∀ (e:Ex) (v:Value) (H:Kn),ExV H e v→e.parts≤1000000000000→∀ w:World,H.In w→
  Calls Tryz.prog 34 #[v] w fun r w'=>∃ v' K,r = .returned v'∧ExV K e v'∧Kn.Step H w K w':=by
 refine Ex.ind fun o n s l ih v H hv hp w hH=>?_
 obtain⟨u,rfl,hu⟩:=hv
 simp only [Ex.op,Ex.n,Ex.s,Ex.l] at hu ⊢
 obtain⟨a,cap,rfl⟩:=hu.len
 have hlp:=Zcb l
 simp only [Ex.parts] at hp
 obtain⟨i0,hi0,hz0,hz1,hz2⟩:=info_parts Tryz.infoEx
 have HU:=Zhd hu
 have IH:=Zhd ih
 clear hu ih
 go_enter Tryz.func34,Tryz.ntmps34
 go_wp2_with fail
 have hW0:Below w.heap.size w (((w.alloc (.cells #[.string o,.int .i64 n,.string s,.slice a l.length cap] 75)).alloc (.cells #[.string ⟨#[]⟩,.int .i64 0,.string ⟨#[]⟩,.slice none 0 0] 69)).alloc (.cells #[.string o,.int .i64 n,.string s,.slice none 0 0] 69)):=
  (((Below.refl _ _).alloc (Nat.le_refl _) _).alloc (by simp) _).alloc (by simp;omega) _
 have hP0:(((w.alloc (.cells #[.string o,.int .i64 n,.string s,.slice a l.length cap] 75)).alloc (.cells #[.string ⟨#[]⟩,.int .i64 0,.string ⟨#[]⟩,.slice none 0 0] 69)).alloc (.cells #[.string o,.int .i64 n,.string s,.slice none 0 0] 69)).heap[w.heap.size]?=some (.cells #[.string o,.int .i64 n,.string s,.slice a l.length cap] 75 (0,0)):=by
  rw [Below.heap_alloc _ _ _ (by simp;omega),Below.heap_alloc _ _ _ (by simp)];exact heap_alloc_new _ _
 have hR0:(((w.alloc (.cells #[.string o,.int .i64 n,.string s,.slice a l.length cap] 75)).alloc (.cells #[.string ⟨#[]⟩,.int .i64 0,.string ⟨#[]⟩,.slice none 0 0] 69)).alloc (.cells #[.string o,.int .i64 n,.string s,.slice none 0 0] 69)).heap[w.heap.size+1]?=some (.cells #[.string ⟨#[]⟩,.int .i64 0,.string ⟨#[]⟩,.slice none 0 0] 69 (0,0)):=by
  rw [Below.heap_alloc _ _ _ (by simp),show w.heap.size+1=(w.alloc (.cells #[.string o,.int .i64 n,.string s,.slice a l.length cap] 75)).heap.size from by simp];exact heap_alloc_new _ _
 have hB0:(((w.alloc (.cells #[.string o,.int .i64 n,.string s,.slice a l.length cap] 75)).alloc (.cells #[.string ⟨#[]⟩,.int .i64 0,.string ⟨#[]⟩,.slice none 0 0] 69)).alloc (.cells #[.string o,.int .i64 n,.string s,.slice none 0 0] 69)).heap[w.heap.size+1+1]?=some (.cells #[.string o,.int .i64 n,.string s,.slice none 0 0] 69 (0,0)):=by
  rw [show w.heap.size+1+1=((w.alloc (.cells #[.string o,.int .i64 n,.string s,.slice a l.length cap] 75)).alloc (.cells #[.string ⟨#[]⟩,.int .i64 0,.string ⟨#[]⟩,.slice none 0 0] 69)).heap.size from by simp];exact heap_alloc_new _ _
 generalize (((w.alloc (.cells #[.string o,.int .i64 n,.string s,.slice a l.length cap] 75)).alloc (.cells #[.string ⟨#[]⟩,.int .i64 0,.string ⟨#[]⟩,.slice none 0 0] 69)).alloc (.cells #[.string o,.int .i64 n,.string s,.slice none 0 0] 69))=W0 at *
 have HS0:=Zhd (show ExO 69 H W0 W0 (w.heap.size+1+1) (.mk o n s l) 0 (.slice none 0 0) [] H from
  ⟨Kn.le_refl H,fun _ _=>rfl,hH.below hW0,Below.refl _ _,hB0,World.ownsRow_nil _ _ _ _,rfl,fun g hg=>by simp [Value.ownBlock] at hg⟩)
 have HW0:=Zhd hW0
 have HP0:=Zhd hP0
 have HR0:=Zhd hR0
 have hHB:H (w.heap.size+1+1)=none:=hH.isNone (by omega)
 have hHR:H (w.heap.size+1)=none:=hH.isNone (by omega)
 clear hW0 hP0 hR0 hB0
 go_loopw [4] (fun i wr=>∃ (k:Nat) (u:Value) (xs:List Value) (K:Kn),i = .int .i64 k∧k≤l.length∧ExO 69 H W0 wr (w.heap.size+1+1) (.mk o n s l) k u xs K) (fun i _=>l.length - (intOf i).toNat)
 case atStart=>exact⟨0,_,_,_,rfl,Nat.zero_le _,HS0.out⟩
 obtain⟨k,u,xs,K,rfl,hk,hS⟩:=hrel
 have HS:=Zhd hS
 clear hS
 have p3:wr.cell? ⟨w.heap.size,3,none⟩=some (.slice a l.length cap):=by
  rw [HS.out.below.cell (p:=⟨w.heap.size,3,none⟩) (by show w.heap.size<_;omega)];simp [World.cell?,HP0.out]
 by_cases hkl:k<l.length
 ·obtain⟨b,off,ax,cx,rfl,c0,c1,c2,c3,hx⟩:=HU.out.at hkl
  have hxe:∃ x,l[k]=x:=⟨_,rfl⟩
  obtain⟨x,hxe⟩:=hxe
  have hpx:x.parts≤1000000000000:=by have:=Za5 l k hkl;rw [hxe] at this;omega
  have hmem:x∈l:=by rw [← hxe];exact List.getElem_mem hkl
  rw [hxe] at c0 c1 c2 c3 hx
  have c0:=HS.out.isin.cell (HS.out.le.cell c0)
  have c1:=HS.out.isin.cell (HS.out.le.cell c1)
  have c2:=HS.out.isin.cell (HS.out.le.cell c2)
  have c3:=HS.out.isin.cell (HS.out.le.cell c3)
  have hx:=hx.le HS.out.le
  have q3:wr.drew.cell? ⟨w.heap.size+1+1,3,none⟩=some u:=HS.out.cells.2.2.2
  have hSD:=HS.out.drew
  have HXE:=Zhd hxe
  clear hxe
  go_wp2_with fail
  go_region_law (first | (go_simp;go_at_call 34;refine (IH.out x hmem _ K hx hpx _ hSD.isin).mono ?_;rintro r wc ⟨v',K2,rfl,hv2,hst⟩;obtain⟨u2,rfl,hu2⟩:=hv2;obtain⟨ax2,cx2,rfl⟩:=hu2.len;have hS2:=ExO.next hSD hst;have q5:=hS2.cells.2.2.2;have q6:=fun o=>(hS2.alloc o).cells.2.2.2) | (refine step_append_lies _ (by rfl) _ _ _ (by rfl) (w.heap.size+1+1+1) 69 i0 _ 4 64 Tryz.underlying39 hi0 hz0 hz1 hz2 rfl (by omega) u k xs (by rfl) (ExO.row (ExO.alloc (by assumption) _)) ⟨_,0,none⟩ 1 1 [.string x.op,.int .i64 x.n,.string x.s,.slice ax2 x.l.length cx2] (by rfl) (by rfl) (by exact World.news_of_block (heap_alloc_new _ _)) (by simp [Value.oneCell']) (by omega) (by unfold maxLen;omega) (by omega) (ExO.blt (ExO.alloc (by assumption) _)) _ rfl ?_;intro gg cap' w3 hown hgrow hat hltg;obtain⟨hf1,hf2,hf3⟩:=ExO.step (ExO.alloc (by assumption) _) hkl HXE.out hHB hu2 hown hgrow hat))
  all_goals generalize World.setCell _ _ _=W at hf3 ⊢
  all_goals go_wp2_with fail
  all_goals go_roundw
  all_goals first | exact⟨k+1,_,_,_,by go_num,by omega,hf3⟩ | (simp [intOf];omega)
 obtain rfl:k=l.length:=by omega
 obtain⟨au,cu,rfl,_⟩:=Zau HS.out.row
 have hxs:XsAt K (List.take l.length l) xs:=HS.out.xs
 rw [List.take_of_length_le (Nat.le_refl _)] at hxs
 obtain⟨K',hle,hin,hv,hfr⟩:=Zh2 HS.out.isin HS.out.row hxs HS.out.noR
 obtain⟨q0,q1,q2,q3⟩:=HS.out.cells
 simp only [Ex.op,Ex.n,Ex.s] at q0 q1 q2
 have hR1:wr.heap[w.heap.size+1]?=some (.cells #[.string ⟨#[]⟩,.int .i64 0,.string ⟨#[]⟩,.slice none 0 0] 69 (0,0)):=by rw [HS.out.below.block _ (by omega)];exact HR0.out
 obtain⟨r0,r1,r2,r3,f0,f1,f2,f3,_⟩:=Zag hR1
 have hR2:=Zdx hR1 (.string o) (.int .i64 n) (.string s) (.slice au l.length cu)
 have HR2:=Zhd hR2
 clear hR1 hR2
 have hKR:K' (w.heap.size+1)=none:=by rw [hfr _ (by omega),HS.out.fresh _ (by omega)];exact hHR
 have hstep:Kn.Step H w K' ((((wr.setCell ⟨w.heap.size+1,0,none⟩ (.string o)).setCell ⟨w.heap.size+1,1,none⟩ (.int .i64 n)).setCell ⟨w.heap.size+1,2,none⟩ (.string s)).setCell ⟨w.heap.size+1,3,none⟩ (.slice au l.length cu)):=by
  have hbw:Below w.heap.size w wr:=HW0.out.trans (HS.out.below.mono (by omega))
  refine⟨Kn.le_trans HS.out.le hle,fun b hb=>(hfr b (by omega)).trans (HS.out.fresh b (by omega)),?_,?_⟩
  ·exact (((hin.setCell (a:=⟨w.heap.size+1,0,none⟩) hKR _).setCell (a:=⟨w.heap.size+1,1,none⟩) hKR _).setCell (a:=⟨w.heap.size+1,2,none⟩) hKR _).setCell (a:=⟨w.heap.size+1,3,none⟩) hKR _
  exact (((hbw.setCell (p:=⟨w.heap.size+1,0,none⟩) (Nat.le_succ _) _).setCell (p:=⟨w.heap.size+1,1,none⟩) (Nat.le_succ _) _).setCell (p:=⟨w.heap.size+1,2,none⟩) (Nat.le_succ _) _).setCell (p:=⟨w.heap.size+1,3,none⟩) (Nat.le_succ _) _
 have HST:=Zhd hstep
 have HV:=Zhd hv
 clear hstep hv hin hfr hle
 go_wp2_with fail
 obtain⟨e0,e1,e2,e3,_⟩:=Zag HR2.out
 refine bodyPost_ret (v := .agg #[.string o,.int .i64 n,.string s,.slice au l.length cu]) (by simp [results,Tryz.results34,go_sem,e0,e1,e2,e3]) rfl ?_
 exact⟨_,K',rfl,⟨_,rfl,HV.out⟩,HST.out⟩
theorem mFof1 {p:Prop} (h:p:=by
 have HST:=Zhd (show Kn.Step H w K' wr from⟨Kn.le_trans HS.out.le hle,fun b hb=>(hfr b hb).trans (HS.out.fresh b hb),hin,HS.out.below⟩)
 have HV:=Zhd hv
 clear hv hin hfr hle
 go_wp2_with fail
 go_ret
 exact⟨_,K',rfl,HV.out,HST.out⟩):p:=h
theorem xs_mono:∀ (K K':Kn) (l:List Ex) (xs:List Value),Kn.le K K'→XsAt K l xs→XsAt K' l xs:=fun _ _ _ _ h k=>k.le h
theorem Zfz (l:List Ex) (v:Value) (H:Kn) (hv:ExsV H l v) (hp:Ex.partsL l≤1000000000000) (w:World) (hH:H.In w):
  Calls Tryz.prog 33 #[v] w fun r w'=>∃ v' K,r = .returned v'∧ExsV K l v'∧Kn.Step H w K w':=by
 obtain⟨a,cap,rfl⟩:=hv.len
 have hlp:=Zcb l
 have HU:=Zhd hv
 clear hv
 go_enter Tryz.func33,Tryz.ntmps33
 go_wp2_with fail
 have HS0:=Zhd (show RwO 69 4 XsAt H w w w.heap.size l 0 (.slice none 0 0) [] H from
  ⟨Kn.le_refl H,fun _ _=>rfl,hH,Below.refl _ _,Nat.le_refl _,World.ownsRow_nil _ _ _ _,rfl,fun g hg=>by simp [Value.ownBlock] at hg⟩)
 go_loopw [3,4] (fun u i wr=>∃ (k:Nat) (xs:List Value) (K:Kn),i = .int .i64 k∧k≤l.length∧RwO 69 4 XsAt H w wr w.heap.size l k u xs K) (fun _ i _=>l.length - (intOf i).toNat)
 case atStart=>exact⟨0,_,_,rfl,Nat.zero_le _,HS0.out⟩
 obtain⟨k,xs,K,rfl,hk,hS⟩:=hrel
 have HS:=Zhd hS
 obtain⟨au,cu,rfl,_⟩:=Zau hS.row
 clear hS
 by_cases hkl:k<l.length
 ·obtain⟨b,off,ax,cx,rfl,c0,c1,c2,c3,hx⟩:=HU.out.at hkl
  have hpx:l[k].parts≤1000000000000:=by have:=Za5 l k hkl;omega
  have c0:=HS.out.isin.cell (HS.out.le.cell c0)
  have c1:=HS.out.isin.cell (HS.out.le.cell c1)
  have c2:=HS.out.isin.cell (HS.out.le.cell c2)
  have c3:=HS.out.isin.cell (HS.out.le.cell c3)
  have hx:=hx.le HS.out.le
  have HT:=Zhd (Zb2 l k hkl)
  generalize l[k]=x at *
  go_wp2_with fail
  refine (exprOf_any x _ K hx hpx _ HS.out.isin).mono ?_
  rintro r wc ⟨v',K2,rfl,hv2,hst⟩
  obtain⟨u2,rfl,hu2⟩:=hv2
  obtain⟨ax2,cx2,rfl⟩:=hu2.len
  have HS2:=Zhd ((RwO.next xs_mono HS.out hst).alloc (.cells #[.string x.op,.int .i64 x.n,.string x.s,.slice ax2 x.l.length cx2] 69))
  have HU2:=Zhd hu2
  clear hst hu2
  go_wp2_with (at_builtin;refine Zi9 39 69 4 64 _ Tryz.underlying39 Tryz.infoEx rfl (by decide) _ _ rfl rfl w.heap.size _ _ _ rfl HS2.out.row ⟨wc.heap.size,0,none⟩ 1 [.string x.op,.int .i64 x.n,.string x.s,.slice ax2 x.l.length cx2] rfl rfl ?c1 ?c2 ?c3 ?c4 ?c5 ?_)
  case c1=>exact cells4 _ _ _ _ _ _
  case c2=>simp [Value.oneCell']
  case c3=>omega
  case c4=>omega
  case c5=>exact HS2.out.size
  intro g cap' w3 ho hg3 hat
  have HS3:=Zhd (RwO.step (n':=1) HS2.out (by rw [HT.out];exact HS2.out.xs.append ⟨ax2,cx2,[],rfl,HU2.out,rfl⟩) ho hg3 (by rw [World.size_alloc];exact hat))
  go_wp2_with fail
  go_roundw
  case rel=>exact⟨k+1,_,K2,by go_num,by omega,HS3.out⟩
  simp [intOf];omega
 obtain rfl:k=l.length:=by omega
 have hxs:XsAt K (List.take l.length l) xs:=HS.out.xs
 rw [List.take_of_length_le (Nat.le_refl _)] at hxs
 obtain⟨K',hle,hin,hv,hfr⟩:=Zh2 HS.out.isin HS.out.row hxs HS.out.noR
 exact mFof1
theorem Tryz.infoVr:(Tryz.prog.info? 158).map (fun i=>(i.zero,i.size,i.bytes))=some (some (.agg #[.string ⟨#[]⟩,.int .i64 0]),2,24):=by kernel_rfl
theorem varsOf_any (l:List Vr) (v:Value) (H:Kn) (hv:VrsV H l v) (hp:l.length≤1000000000000) (w:World) (hH:H.In w):
  Calls Tryz.prog 32 #[v] w fun r w'=>∃ v' K,r = .returned v'∧VrsV K l v'∧Kn.Step H w K w':=by
 obtain⟨a,cap,rfl⟩:=hv.len
 have HU:=Zhd hv
 clear hv
 obtain⟨i0,hi0,hz0,hz1,hz2⟩:=info_parts Tryz.infoVr
 go_enter Tryz.func32,Tryz.ntmps32
 go_wp2_with fail
 have HS0:=Zhd (show RwO 158 2 VsX H w w w.heap.size l 0 (.slice none 0 0) [] H from
  ⟨Kn.le_refl H,fun _ _=>rfl,hH,Below.refl _ _,Nat.le_refl _,World.ownsRow_nil _ _ _ _,rfl,fun g hg=>by simp [Value.ownBlock] at hg⟩)
 go_loopw [3,4] (fun u i wr=>∃ (k:Nat) (xs:List Value),i = .int .i64 k∧k≤l.length∧RwO 158 2 VsX H w wr w.heap.size l k u xs H) (fun _ i _=>l.length - (intOf i).toNat)
 case atStart=>exact⟨0,_,rfl,Nat.zero_le _,HS0.out⟩
 obtain⟨k,xs,rfl,hk,hS⟩:=hrel
 have HS:=Zhd hS
 obtain⟨au,cu,rfl,_⟩:=Zau hS.row
 clear hS
 by_cases hkl:k<l.length
 ·obtain⟨b,off,rfl,_,c0,c1⟩:=SlV.at HU.out hkl
  have c0:=HS.out.isin.cell c0
  have c1:=HS.out.isin.cell c1
  simp only [Nat.add_zero] at c0
  have c0:wr.drew.cell? ⟨b,off+k * 2,none⟩=some (.string l[k].name):=c0
  have c1:wr.drew.cell? ⟨b,off+k * 2+1,none⟩=some (.int .i64 l[k].kind):=c1
  have HT:=Zhd (Zb2 l k hkl)
  generalize l[k]=x at *
  have HSD:=HS.out.drew
  go_wp2_with fail
  go_region_law (refine step_append_lies _ (by rfl) _ _ _ (by rfl) w.heap.size 158 i0 _ 2 24 Tryz.underlying37 hi0 hz0 hz1 hz2 rfl (by omega) _ k xs (by rfl) (RwO.row (RwO.alloc HSD _)) ⟨_,0,none⟩ 1 1 [.string x.name,.int .i64 x.kind] (by rfl) (by rfl) (by exact World.news_of_block (heap_alloc_new _ _)) (by simp [Value.oneCell']) (by omega) (by unfold maxLen;omega) (by omega) (RwO.size (RwO.alloc HSD _)) _ rfl ?_;intro gg cap' w3 hown hgrow hat hltg;have hf3:=RwO.step (n':=1) (RwO.alloc HSD _) (by rw [HT.out];have h1:=HS.out.xs;unfold VsX at h1 ⊢;rw [h1];simp) hown hgrow hat)
  all_goals go_wp2_with fail
  all_goals go_roundw
  all_goals first | exact⟨k+1,_,by go_num,by omega,hf3⟩ | (simp [intOf];omega)
 obtain rfl:k=l.length:=by omega
 have hxs:VsX H (List.take l.length l) xs:=HS.out.xs
 rw [List.take_of_length_le (Nat.le_refl _)] at hxs
 obtain⟨K',hle,hin,hv,hfr⟩:=Ze4 (R:=fun _=>VrC) HS.out.isin HS.out.row HS.out.noR (fun K' _=>VsX.at (K':=K') hxs)
 exact mFof1
def FsX (H:Kn):List Fl→List Value→Prop
 | [],xs=>xs=[]
 | f :: l,xs=>∃ a c r,xs = .string f.name :: .int .i64 f.kind :: .string f.e.op :: .int .i64 f.e.n :: .string f.e.s :: .slice a f.e.l.length c :: r∧ExsV H f.e.l (.slice a f.e.l.length c)∧FsX H l r
theorem FsX.append {H:Kn}:∀ {l m:List Fl} {xs ys:List Value},FsX H l xs→FsX H m ys→FsX H (l++m) (xs++ys)
 | [],_,_,_,h,k=>by rw [show _=[] from h];exact k
 | e :: l,m,xs,ys,h,k=>by
  obtain⟨a,c,r,rfl,h1,h2⟩:=h
  exact⟨a,c,r++ys,rfl,h1,h2.append k⟩
theorem FsX.le {H H':Kn} (hle:H.le H'):∀ {l:List Fl} {xs:List Value},FsX H l xs→FsX H' l xs
 | [],_,h=>h
 | _e :: _l,_xs,⟨a,c,r,h0,h1,h2⟩=>⟨a,c,r,h0,h1.le hle,h2.le hle⟩
theorem FsX.flc {K K':Kn} (hle:K.le K'):∀ {l:List Fl} {xs:List Value},FsX K l xs→∀ i (hi:i<l.length) (f:Nat→Option Value),(∀ j u,xs[i * 6+j]?=some u→f j=some u)→FlC K' l[i] f
 | [],_,_,i,hi,_,_=>by simp at hi
 | e :: l,xs,h,0,_,f,hf=>by
  obtain⟨a,c,r,rfl,h1,h2⟩:=h
  exact⟨hf 0 _ rfl,hf 1 _ rfl,ExAt.mk (hf 2 _ rfl) (hf 3 _ rfl) (hf 4 _ rfl) (hf 5 _ rfl) (h1.le hle)⟩
 | e :: l,xs,h,i+1,hi,f,hf=>by
  obtain⟨a,c,r,rfl,h1,h2⟩:=h
  simp only [List.getElem_cons_succ]
  refine FsX.flc hle h2 i (by simpa using hi) f fun j u hj=>hf j u ?_
  rw [show (i+1) * 6+j=(i * 6+j)+6 from by omega]
  simpa using hj
theorem Zae {W:World} {b:Nat} {x y z u v:Value} {t:TypeId} (h:W.heap[b]?=some (.cells #[x,y,z,u,v] t (0,0))):
  (W.cell? ⟨b,0,none⟩=some x∧W.cell? ⟨b,1,none⟩=some y∧W.cell? ⟨b,2,none⟩=some z∧W.cell? ⟨b,3,none⟩=some u∧W.cell? ⟨b,4,none⟩=some v)∧
   W.frozen? ⟨b,0,none⟩=false∧W.frozen? ⟨b,1,none⟩=false∧W.frozen? ⟨b,2,none⟩=false∧W.frozen? ⟨b,3,none⟩=false∧W.frozen? ⟨b,4,none⟩=false:=by
 refine⟨⟨?_,?_,?_,?_,?_⟩,?_,?_,?_,?_,?_⟩<;>simp [World.cell?,World.frozen?,h]
theorem Zdd {W:World} {b:Nat} {x0 x1 x2 x3 x4:Value} {t:TypeId} (h:W.heap[b]?=some (.cells #[x0,x1,x2,x3,x4] t (0,0))) (y0 y1 y2 y3 y4:Value):
  (((((W.setCell ⟨b,0,none⟩ y0).setCell ⟨b,1,none⟩ y1).setCell ⟨b,2,none⟩ y2).setCell ⟨b,3,none⟩ y3).setCell ⟨b,4,none⟩ y4).heap[b]?=some (.cells #[y0,y1,y2,y3,y4] t (0,0)):=by
 have h1:=Zab W b 0 y0 _ _ _ h
 have h2:=Zab _ b 1 y1 _ _ _ h1
 have h3:=Zab _ b 2 y2 _ _ _ h2
 have h4:=Zab _ b 3 y3 _ _ _ h3
 have h5:=Zab _ b 4 y4 _ _ _ h4
 simpa using h5
theorem in5 {K:Kn} {W:World} {b:Nat} (h:K.In W) (hb:K b=none) (y0 y1 y2 y3 y4:Value):K.In (((((W.setCell ⟨b,0,none⟩ y0).setCell ⟨b,1,none⟩ y1).setCell ⟨b,2,none⟩ y2).setCell ⟨b,3,none⟩ y3).setCell ⟨b,4,none⟩ y4):=
 ((((h.setCell (a:=⟨b,0,none⟩) hb _).setCell (a:=⟨b,1,none⟩) hb _).setCell (a:=⟨b,2,none⟩) hb _).setCell (a:=⟨b,3,none⟩) hb _).setCell (a:=⟨b,4,none⟩) hb _
theorem Zes {n:Nat} {w W:World} {b:Nat} (h:Below n w W) (hb:n≤b) (y0 y1 y2 y3 y4:Value):Below n w (((((W.setCell ⟨b,0,none⟩ y0).setCell ⟨b,1,none⟩ y1).setCell ⟨b,2,none⟩ y2).setCell ⟨b,3,none⟩ y3).setCell ⟨b,4,none⟩ y4):=
 ((((h.setCell (p:=⟨b,0,none⟩) hb _).setCell (p:=⟨b,1,none⟩) hb _).setCell (p:=⟨b,2,none⟩) hb _).setCell (p:=⟨b,3,none⟩) hb _).setCell (p:=⟨b,4,none⟩) hb _
theorem heap5_far {W:World} {b c:Nat} (h:c≠b) (y0 y1 y2 y3 y4:Value):(((((W.setCell ⟨b,0,none⟩ y0).setCell ⟨b,1,none⟩ y1).setCell ⟨b,2,none⟩ y2).setCell ⟨b,3,none⟩ y3).setCell ⟨b,4,none⟩ y4).heap[c]?=W.heap[c]?:=by
 rw [Below.heap_setCell _ _ _ _ h,Below.heap_setCell _ _ _ _ h,Below.heap_setCell _ _ _ _ h,Below.heap_setCell _ _ _ _ h,Below.heap_setCell _ _ _ _ h]
structure FoO (T F:TypeId) (H:Kn) (w:World) (R B:Nat) (wr:World) (v1 uo u v2 v3:Value) (p:Pr) (os:List ByteArray) (done:Nat) (xs:List Value) (K:Kn):Prop where
 step:Kn.Step H w K wr
 noB:K B=none
 noR:K R=none
 hB:w.heap.size≤B
 hR:w.heap.size≤R
 ne:R≠B
 box:wr.heap[B]?=some (.cells #[v1,uo,u,v2,v3] T (0,0))
 res:wr.heap[R]?=some (.cells #[.slice none 0 0,.slice none 0 0,.slice none 0 0,.slice none 0 0,.slice none 0 0] T (0,0))
 ins:VrsV K p.ins v1
 asr:ExsV K p.as v2
 chk:ExsV K p.cs v3
 outs:Ziq K os uo
 row:wr.ownsRow w.heap.size F 6 u done xs
 noU:∀ g,u.ownBlock=some g→K g=none
 xs:FsX K (p.fl.take done) xs
section
variable {T F : TypeId} {H K : Kn} {w wr : World} {R B : Nat} {v1 uo u v2 v3 : Value} {p : Pr} {os : List ByteArray} {done : Nat} {xs : List Value}
theorem FoO.blt (h:FoO T F H w R B wr v1 uo u v2 v3 p os done xs K):B<wr.heap.size:=(Zlt h.box)
theorem FoO.rlt (h:FoO T F H w R B wr v1 uo u v2 v3 p os done xs K):R<wr.heap.size:=(Zlt h.res)
theorem FoO.c2 (h:FoO T F H w R B wr v1 uo u v2 v3 p os done xs K):wr.cell? ⟨B,2,none⟩=some u:=(Zae h.box).1.2.2.1
theorem FoO.next {wc:World} {K2:Kn} (h:FoO T F H w R B wr v1 uo u v2 v3 p os done xs K) (hs:Kn.Step K wr K2 wc):FoO T F H w R B wc v1 uo u v2 v3 p os done xs K2:=
 ⟨h.step.trans hs,(hs.fresh B h.blt).trans h.noB,(hs.fresh R h.rlt).trans h.noR,h.hB,h.hR,h.ne,(hs.below.block B h.blt).trans h.box,(hs.below.block R h.rlt).trans h.res,h.ins.le hs.le VrC.mono,h.asr.le hs.le,h.chk.le hs.le,h.outs.le hs.le StrC.mono,
  Zao h.row hs.below,fun g hg=>(hs.fresh g (h.row.lt g hg).2).trans (h.noU g hg),h.xs.le hs.le⟩
theorem FoO.later {wc:World} (h:FoO T F H w R B wr v1 uo u v2 v3 p os done xs K) (hb:Below wr.heap.size wr wc):FoO T F H w R B wc v1 uo u v2 v3 p os done xs K:=h.next (Kn.Step.of_below h.step.isin hb)
theorem FoO.alloc (h:FoO T F H w R B wr v1 uo u v2 v3 p os done xs K) (o:Obj):FoO T F H w R B (wr.alloc o) v1 uo u v2 v3 p os done xs K:=h.later ((Below.refl _ _).alloc (Nat.le_refl _) o)
theorem FoO.drew (h:FoO T F H w R B wr v1 uo u v2 v3 p os done xs K):FoO T F H w R B wr.drew v1 uo u v2 v3 p os done xs K:=h.later ((Below.refl _ _).drew)
theorem FoO.more {wc w3:World} {gg cap':Nat} (h:FoO T F H w R B wc v1 uo u v2 v3 p os done xs K) (hne:T≠F) (hd:done<p.fl.length) {x:Fl} (hx:p.fl[done]=x) {a:Option Addr} {c:Nat} (hp:ExsV K x.e.l (.slice a x.e.l.length c))
  (hown:w3.ownsRow w.heap.size F 6 (.slice (some ⟨gg,0,none⟩) (done+1) cap') (done+1) (xs++[.string x.name,.int .i64 x.kind,.string x.e.op,.int .i64 x.e.n,.string x.e.s,.slice a x.e.l.length c])) (hg:wc.grownBy w3 u.ownBlock) (hat:u.ownBlock=some gg∨gg=wc.heap.size):
  w3.cell? ⟨B,2,none⟩=some u∧w3.frozen? ⟨B,2,none⟩=false∧K.In w3∧FoO T F H w R B (w3.setCell ⟨B,2,none⟩ (.slice (some ⟨gg,0,none⟩) (done+1) cap')) v1 uo (.slice (some ⟨gg,0,none⟩) (done+1) cap') v2 v3 p os (done+1) (xs++[.string x.name,.int .i64 x.kind,.string x.e.op,.int .i64 x.e.n,.string x.e.s,.slice a x.e.l.length c]) K:=by
 subst hx
 have hnB:some B≠u.ownBlock:=fun e=>Zd3 h.row h.box hne e.symm
 have hnR:some R≠u.ownBlock:=fun e=>Zd3 h.row h.res hne e.symm
 have hbx:w3.heap[B]?=_:=(hg.block B h.blt hnB).trans h.box
 have hrx:w3.heap[R]?=_:=(hg.block R h.rlt hnR).trans h.res
 have hin:=(h.step.isin.grown hg h.noU)
 have hggB:gg≠B:=fun e=>Zd3 hown hbx hne (by rw [e];rfl)
 refine⟨(Zae hbx).1.2.2.1,(Zae hbx).2.2.2.1,hin,⟨h.step.le,h.step.fresh,hin.setCell (a:=⟨B,2,none⟩) h.noB _,?_⟩,h.noB,h.noR,h.hB,h.hR,h.ne,?_,?_,h.ins,h.asr,h.chk,h.outs,Zaq hown (a:=⟨B,2,none⟩) (fun e=>hggB (by simpa [Value.ownBlock] using e)) _,fun g hgg=>?_,?_⟩
 ·exact (h.step.below.grown hg h.step.below.size (fun g hgg=>(h.row.lt g hgg).1)).setCell h.hB _
 ·rw [Zab _ _ _ _ _ _ _ hbx];rfl
 ·rw [Below.heap_setCell _ _ _ _ h.ne];exact hrx
 ·have hgg':gg=g:=by simpa [Value.ownBlock] using hgg
  subst hgg'
  rcases hat with h1 | h1
  ·exact h.noU gg h1
  rw [h1];exact h.step.isin.isNone (Nat.le_refl _)
 rw [Zb2 _ _ hd]
 exact h.xs.append ⟨a,c,[],rfl,hp,rfl⟩
theorem FoO.set1 {os':List ByteArray} {v':Value} (h:FoO T F H w R B wr v1 uo u v2 v3 p os done xs K) (hne:T≠F) (hv:Ziq K os' v'):FoO T F H w R B (wr.setCell ⟨B,1,none⟩ v') v1 v' u v2 v3 p os' done xs K:=by
 refine⟨⟨h.step.le,h.step.fresh,h.step.isin.setCell (a:=⟨B,1,none⟩) h.noB _,h.step.below.setCell h.hB _⟩,h.noB,h.noR,h.hB,h.hR,h.ne,?_,?_,h.ins,h.asr,h.chk,hv,Zaq h.row (a:=⟨B,1,none⟩) (Zd3 h.row h.box hne) _,h.noU,h.xs⟩
 ·rw [Zab _ _ _ _ _ _ _ h.box];rfl
 rw [Below.heap_setCell _ _ _ _ h.ne];exact h.res
end
theorem foo_start {T F:TypeId} {H H1 K:Kn} {w W1 Wc:World} {R B:Nat} {v1 v2 v3:Value} {p:Pr} (h0:Kn.Step H w H1 W1) (h:Kn.Step H1 W1 K Wc) (hbx:Wc.heap[B]?=some (.cells #[.slice none 0 0,.slice none 0 0,.slice none 0 0,.slice none 0 0,.slice none 0 0] T (0,0)))
  (hKB:K B=none) (hB:W1.heap.size≤B) (hres:W1.heap[R]?=some (.cells #[.slice none 0 0,.slice none 0 0,.slice none 0 0,.slice none 0 0,.slice none 0 0] T (0,0))) (hHR:H1 R=none) (hR:w.heap.size≤R)
  (h1:VrsV K p.ins v1) (h2:ExsV K p.as v2) (h3:ExsV K p.cs v3):
  FoO T F H w R B (((((Wc.setCell ⟨B,0,none⟩ v1).setCell ⟨B,1,none⟩ (.slice none 0 0)).setCell ⟨B,2,none⟩ (.slice none 0 0)).setCell ⟨B,3,none⟩ v2).setCell ⟨B,4,none⟩ v3) v1 (.slice none 0 0) (.slice none 0 0) v2 v3 p [] 0 [] K:=by
 have hRlt:R<W1.heap.size:=(Zlt hres)
 have hBw:w.heap.size≤B:=Nat.le_trans h0.below.size hB
 have hne:R≠B:=by omega
 have hs:=h0.trans h
 exact⟨⟨hs.le,hs.fresh,in5 hs.isin hKB _ _ _ _ _,Zes hs.below hBw _ _ _ _ _⟩,hKB,(h.fresh R hRlt).trans hHR,hBw,hR,hne,Zdd hbx _ _ _ _ _,(heap5_far hne _ _ _ _ _).trans ((h.below.block R hRlt).trans hres),h1,h2,h3,.inl ⟨rfl,none,0,rfl⟩,World.ownsRow_nil _ _ _ _,fun g hg=>by simp [Value.ownBlock] at hg,rfl⟩
theorem Zdv {H K:Kn} {w wr:World} (h:Kn.Step H w K wr) (o:Obj):Kn.Step H w K (wr.alloc o):=h.trans (Kn.Step.of_below h.isin ((Below.refl _ _).alloc (Nat.le_refl _) o))
theorem Ziq.strs {H:Kn} {l:List ByteArray} {v:Value} (h:Ziq H l v) (hne:l≠[]):∃ b off cap,v = .slice (some ⟨b,off,none⟩) l.length cap∧∀ j u,(l.map Value.string)[j]?=some u→H.cell b (off+j)=some u:=by
 rcases h with ⟨h,_⟩ | ⟨b,off,cap,h1,h2,h3,h4⟩
 ·exact absurd h hne
 refine⟨b,off,cap,h1,fun j u hu=>?_⟩
 rw [List.getElem?_map] at hu
 obtain⟨s,hs,rfl⟩:=Option.map_eq_some_iff.1 hu
 obtain⟨hj,rfl⟩:=List.getElem?_eq_some_iff.1 hs
 have:=h4 j hj
 rw [Nat.mul_one] at this
 exact this
theorem slv_of_own2 {α:Type} {k:Nat} {R:Kn→α→(Nat→Option Value)→Prop} {K:Kn} {w:World} {base:Nat} {t:TypeId} {v:Value} {l:List α} {xs:List Value} (hK:K.In w) (h:w.ownsRow base t k v l.length xs) (hr:∀ g,v.ownBlock=some g→K g=none)
  (hR:∀ K',Kn.le K K'→∀ i (hi:i<l.length),∀ f:Nat→Option Value,(∀ j u,xs[i * k+j]?=some u→f j=some u)→R K' l[i] f):
  ∃ K',K.le K'∧K'.In w∧SlV K' k (R K') l v∧∀ b,v.ownBlock≠some b→K' b=K b:=by
 by_cases h0:l=[]
 ·obtain⟨a,c,h1,_⟩:=Zau h
  exact⟨K,Kn.le_refl K,hK,.inl ⟨h0,a,c,by rw [h1,h0];rfl⟩,fun _ _=>rfl⟩
 obtain⟨g,cap,h1,h2,h3,hb,hlt,h4⟩:=Zbp h (List.length_pos_iff.2 h0)
 have hg:K g=none:=hr g (by rw [h1];rfl)
 have ho:w.heap[g]?=some w.heap[g]:=Array.getElem?_eq_getElem hlt
 refine⟨K.add g w.heap[g],Kn.le_add hg,hK.add ho,.inr ⟨g,0,cap,h1,h2,h3,fun i hi=>hR _ (Kn.le_add hg) i hi _ fun j u hj=>?_⟩,fun b hbb=>Kn.add_other K _ (fun e=>hbb (by rw [h1,e];rfl))⟩
 have h5:=h4 _ u hj
 unfold Kn.cell
 rw [Kn.add_self,Nat.zero_add]
 simp only [World.cell?,ho] at h5
 cases hc:w.heap[g]<;>simp_all
theorem run_append_strs {K:Kn} {W:World} (hK:K.In W) {l:List ByteArray} {a:Option Addr} {c:Nat} (h:Ziq K l (.slice a l.length c)) (hl:l.length≤1000000000):
  ∃ v' W' K',(∀ ty,(Builtin.append_ #[23,23] ty #[.slice none 0 0,.slice a l.length c]).run Tryz.prog W = .ok v' W')∧Kn.Step K W K' W'∧Ziq K' l v':=by
 obtain⟨i1,hi1,hy0,hy1,hy2⟩:=info_parts Tryz.infoStr1
 by_cases h0:l=[]
 ·subst h0
  exact⟨.slice none 0 0,W,K,fun ty=>Zbz 23 9 i1 Tryz.underlying23 hi1 (World.ownsRow_nil W W.heap.size 9 1) a c ty,Kn.Step.refl hK,.inl ⟨rfl,none,0,rfl⟩⟩
 obtain⟨b,off,cap,he,hcs⟩:=h.strs h0
 cases he
 have hlen:0<l.length:=List.length_pos_iff.2 h0
 have hnews:∀ j u,(l.map Value.string)[j]?=some u→W.cell? ((⟨b,off,none⟩:Addr).add j)=some u:=fun j u hu=>by rw [Zdm];exact hK.cell (hcs j u hu)
 have hrun:=fun ty=>run_append_lies (P:=Tryz.prog) W 23 ty W.heap.size 9 i1 _ 1 16 Tryz.underlying23 hi1 hy0 hy1 hy2 rfl (by omega) (.slice none 0 0) 0 [] (World.ownsRow_nil W W.heap.size 9 1) ⟨b,off,none⟩ l.length c (l.map Value.string) (by simp) hnews (by intro u hu;obtain⟨s,_,rfl⟩:=List.mem_map.1 hu;rfl) hlen (by unfold maxLen;omega) (by omega) (Nat.le_refl _) W.heap.size rfl
 obtain⟨g,cap',W',h1,h2,h3,h4,h5⟩:=hrun 0
 have hb:Below W.heap.size W W':=⟨h3.os,h3.tape,h3.output,h3.size,fun k hk=>h3.block k hk (by simp [Value.ownBlock])⟩
 have hgg:g=W.heap.size:=by
   rcases h4 with h4 | h4
   ·simp [Value.ownBlock] at h4
   ·exact h4
 have hown:W'.ownsRow W.heap.size 9 1 (.slice (some ⟨g,0,none⟩) (0+l.length) cap') l.length (l.map Value.string):=by simpa using h2
 have hin:=hK.below hb
 obtain⟨K',k1,k2,k3,k4⟩:=Ze4 (R:=fun _=>StrC) hin hown (fun q hq=>by
  have:g=q:=by simpa [Value.ownBlock] using hq
  rw [← this,hgg];exact hK.isNone (Nat.le_refl _)) (fun K' _=>SsX.at (K:=K') (K':=K') (show SsX K' l (l.map Value.string) from rfl))
 refine⟨_,W',K',fun ty=>?_,⟨k1,k4,k2,hb⟩,k3⟩
 obtain⟨g2,cap2,W2,e1,e2,e3,e4,e5⟩:=hrun ty
 have hty:(Builtin.append_ #[23,23] ty #[.slice none 0 0,.slice (some ⟨b,off,none⟩) l.length c]).run Tryz.prog W=(Builtin.append_ #[23,23] 0 #[.slice none 0 0,.slice (some ⟨b,off,none⟩) l.length c]).run Tryz.prog W:=rfl
 rw [hty];exact h1
end Go.Proofs.YtofameafdnkijaaGreatDoor
