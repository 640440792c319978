/- Walks: lustrumlaw1.ExprOf: a term's copy. -/
import Derived.Test.YtafapnolamcdmaaGreatDoorOiP
set_option linter.all false
namespace Go.Proofs.YtafapnolamcdmaaGreatDoor
set_option maxRecDepth 100000
set_option maxHeartbeats 16000000
open Go.RowKit Mx
theorem exprOf_any:∀(e:Ex) (v:Value) (H:Kn),ExV H e v->e.parts<=1000000000000->∀w:World,H.In w->
  Calls Tryz.prog 30 #[v] w λr w'=>∃v' K,r=.returned v'/\ExV K e v'/\Kn.Step H w K w':=by
 refine Ex.ind λo n s l ih v H hv hp w hH=>?_;obtain⟨u,rfl,hu⟩:=hv;simp only[Ex.op,Ex.n,Ex.s,Ex.l] at hu ⊢;obtain⟨a,Ha,rfl⟩:=hu.len;have hlp:=Zbp l;simp only[Ex.parts] at hp;obtain⟨i0,JI,Jt,J6,Ju⟩:=info_parts Tryz.infoEx;have HU:=Zhd hu;have IH:=Zhd ih;clear hu ih;go_enter Tryz.func30,Tryz.ntmps30;go_wp2_with fail;have hW0:Ybw w (((w.alloc (.cells (Yqe o n s a l.length Ha) 61)).alloc (.cells #[.string ⟨#[]⟩,.int .i64 0,.string ⟨#[]⟩,Ys0] 93)).alloc (.cells #[.string o,.int .i64 n,.string s,Ys0] 93)):=
  (Yba.alloc (by simp) _).alloc (by simp;omega) _
 have kT:(((w.alloc (.cells (Yqe o n s a l.length Ha) 61)).alloc (.cells #[.string ⟨#[]⟩,.int .i64 0,.string ⟨#[]⟩,Ys0] 93)).alloc (.cells #[.string o,.int .i64 n,.string s,Ys0] 93)).heap[w.heap.size]?=some (.cells (Yqe o n s a l.length Ha) 61 (0,0)):=by
  rw[Below.heap_alloc _ _ _ (by simp;omega),Below.heap_alloc _ _ _ (by simp)];exact heap_alloc_new _ _
 have Jr:(((w.alloc (.cells (Yqe o n s a l.length Ha) 61)).alloc (.cells #[.string ⟨#[]⟩,.int .i64 0,.string ⟨#[]⟩,Ys0] 93)).alloc (.cells #[.string o,.int .i64 n,.string s,Ys0] 93)).heap[w.heap.size+1]?=some (.cells #[.string ⟨#[]⟩,.int .i64 0,.string ⟨#[]⟩,Ys0] 93 (0,0)):=by
  rw[Below.heap_alloc _ _ _ (by simp),show w.heap.size+1=(w.alloc (.cells (Yqe o n s a l.length Ha) 61)).heap.size from by simp];exact heap_alloc_new _ _
 have hB0:(((w.alloc (.cells (Yqe o n s a l.length Ha) 61)).alloc (.cells #[.string ⟨#[]⟩,.int .i64 0,.string ⟨#[]⟩,Ys0] 93)).alloc (.cells #[.string o,.int .i64 n,.string s,Ys0] 93)).heap[w.heap.size+1+1]?=some (.cells #[.string o,.int .i64 n,.string s,Ys0] 93 (0,0)):=by
  rw[show w.heap.size+1+1=((w.alloc (.cells (Yqe o n s a l.length Ha) 61)).alloc (.cells #[.string ⟨#[]⟩,.int .i64 0,.string ⟨#[]⟩,Ys0] 93)).heap.size from by simp];exact heap_alloc_new _ _
 generalize (((w.alloc (.cells (Yqe o n s a l.length Ha) 61)).alloc (.cells #[.string ⟨#[]⟩,.int .i64 0,.string ⟨#[]⟩,Ys0] 93)).alloc (.cells #[.string o,.int .i64 n,.string s,Ys0] 93))=W0 at *;have jF:=Zhd (show ExO 93 H W0 W0 (w.heap.size+1+1) (.mk o n s l) 0 (Ys0) [] H from
  ⟨Kn.le_refl H,λ_ _=>rfl,hH.below hW0,Below.refl _ _,hB0,World.ownsRow_nil _ _ _ _,rfl,λg hg=>by simp[Value.ownBlock] at hg⟩)
 have HW0:=Zhd hW0;have gd:=Zhd kT;have qp:=Zhd Jr;have hHB:H (w.heap.size+1+1)=none:=hH.isNone (by omega);have hHR:H (w.heap.size+1)=none:=hH.isNone (by omega);clear hW0 kT Jr hB0;go_loopw[4] (λi wr=>∃(k:Nat) (u:Value) (xs:List Value) (K:Kn),i=.int .i64 k/\k<=l.length/\ExO 93 H W0 wr (w.heap.size+1+1) (.mk o n s l) k u xs K) (λi _=>l.length - (intOf i).toNat)
 case atStart=>exact⟨0,_,_,_,rfl,Nat.zero_le _,jF.out⟩
 obtain⟨k,u,xs,K,rfl,hk,hS⟩:=hrel;have HS:=Zhd hS;clear hS;have p3:wr.cell? ⟨w.heap.size,3,none⟩=some (.slice a l.length Ha):=by
  rw[HS.out.below.cell (p:=⟨w.heap.size,3,none⟩) (by show w.heap.size<_;omega)];simp[World.cell?,gd.out]
 by_cases Hd:k<l.length
 .obtain⟨b,off,ax,cx,rfl,c0,c1,c2,c3,hx⟩:=HU.out.at Hd;have jd:∃x,l[k]=x:=⟨_,rfl⟩;obtain⟨x,jd⟩:=jd;have Jy:x.parts<=1000000000000:=by have:=Za0 l k Hd;rw[jd] at this;omega
  have Hl:x∈l:=by rw[<- jd];exact Ymm Hd
  rw[jd] at c0 c1 c2 c3 hx;have c0:=HS.out.isin.cell (HS.out.le.cell c0);have c1:=HS.out.isin.cell (HS.out.le.cell c1);have c2:=HS.out.isin.cell (HS.out.le.cell c2);have c3:=HS.out.isin.cell (HS.out.le.cell c3);have hx:=hx.le HS.out.le;have q3:wr.drew.cell? ⟨w.heap.size+1+1,3,none⟩=some u:=HS.out.cells.2.2.2;have J2:=HS.out.drew;have HXE:=Zhd jd;clear jd;go_wp2_with fail;go_region_law (first|(go_simp;go_at_call 30;refine(IH.out x Hl _ K hx Jy _ J2.isin).mono ?_;rintro r wc ⟨v',K2,rfl,Jx,Hy⟩;obtain⟨u2,rfl,hu2⟩:=Jx;obtain⟨ax2,cx2,rfl⟩:=hu2.len;have Hq:=ExO.next J2 Hy;have q5:=Hq.cells.2.2.2;have q6:=λo=>(Hq.alloc o).cells.2.2.2)|(refine step_append_lies _ (by rfl) _ _ _ (by rfl) (w.heap.size+1+1+1) 93 i0 _ 4 64 Tryz.underlying40 JI Jt J6 Ju rfl (by omega) u k xs (by rfl) (ExO.row (ExO.alloc (by assumption) _)) ⟨_,0,none⟩ 1 1 [.string x.op,.int .i64 x.n,.string x.s,.slice ax2 x.l.length cx2] (by rfl) (by rfl) (by exact World.news_of_block (heap_alloc_new _ _)) (by simp[Value.oneCell']) (by omega) (by unfold maxLen;omega) (by omega) (ExO.blt (ExO.alloc (by assumption) _)) _ rfl ?_;intro gg Hh w3 Hb Hj hJ jT;obtain⟨Q0,zd,jZ⟩:=ExO.step (ExO.alloc (by assumption) _) Hd HXE.out hHB hu2 Hb Hj hJ))
  all_goals generalize World.setCell _ _ _=W at jZ ⊢
  all_goals go_wp2_with fail
  all_goals go_roundw
  all_goals first|exact⟨k+1,_,_,_,by go_num,by omega,jZ⟩|(simp[intOf];omega)
 obtain rfl:k=l.length:=by omega
 obtain⟨au,cu,rfl,_⟩:=Zar HS.out.row;have JC:XsAt K (List.take l.length l) xs:=HS.out.xs;rw[List.take_of_length_le Ylr] at JC;obtain⟨K',He,Hk,hv,je⟩:=exsV_of_own HS.out.isin HS.out.row JC HS.out.noR;obtain⟨q0,q1,q2,q3⟩:=HS.out.cells;simp only[Ex.op,Ex.n,Ex.s] at q0 q1 q2;have kD:wr.heap[w.heap.size+1]?=some (.cells #[.string ⟨#[]⟩,.int .i64 0,.string ⟨#[]⟩,Ys0] 93 (0,0)):=by rw[HS.out.below.block _ (by omega)];exact qp.out
 obtain⟨r0,r1,r2,r3,f0,f1,f2,f3,_⟩:=Zec kD;have zg:=set4_of kD (.string o) (.int .i64 n) (.string s) (.slice au l.length cu);have qc:=Zhd zg;clear kD zg;have JS:K' (w.heap.size+1)=none:=by rw[je _ (by omega),HS.out.fresh _ (by omega)];exact hHR
 have Jp:Kn.Step H w K' ((((wr.setCell ⟨w.heap.size+1,0,none⟩ (.string o)).setCell ⟨w.heap.size+1,1,none⟩ (.int .i64 n)).setCell ⟨w.heap.size+1,2,none⟩ (.string s)).setCell ⟨w.heap.size+1,3,none⟩ (.slice au l.length cu)):=by
  have kL:Ybw w wr:=HW0.out.trans (HS.out.below.mono (by omega));refine⟨Kn.le_trans HS.out.le He,λb hb=>(je b (by omega)).trans (HS.out.fresh b (by omega)),?_,?_⟩
  .exact (((Hk.setCell (a:=⟨w.heap.size+1,0,none⟩) JS _).setCell (a:=⟨w.heap.size+1,1,none⟩) JS _).setCell (a:=⟨w.heap.size+1,2,none⟩) JS _).setCell (a:=⟨w.heap.size+1,3,none⟩) JS _
  exact(((kL.setCell (p:=⟨w.heap.size+1,0,none⟩) (Nat.le_succ _) _).setCell (p:=⟨w.heap.size+1,1,none⟩) (Nat.le_succ _) _).setCell (p:=⟨w.heap.size+1,2,none⟩) (Nat.le_succ _) _).setCell (p:=⟨w.heap.size+1,3,none⟩) (Nat.le_succ _) _
 have Jz:=Zhd Jp;have HV:=Zhd hv;clear Jp hv Hk je He;go_wp2_with fail;obtain⟨e0,e1,e2,e3,_⟩:=Zec qc.out;refine bodyPost_ret (v:=.agg (Yqe o n s au l.length cu)) (by simp[results,Tryz.results30,go_sem,e0,e1,e2,e3]) rfl ?_;exact⟨_,K',rfl,⟨_,rfl,HV.out⟩,Jz.out⟩
theorem mFof1{p:Prop}(h:p:=by
 have Jz:=Zhd (show Kn.Step H w K' wr from⟨Kn.le_trans HS.out.le He,λb hb=>(je b hb).trans (HS.out.fresh b hb),Hk,HS.out.below⟩);have HV:=Zhd hv;clear hv Hk je He;go_wp2_with fail;go_ret;exact⟨_,K',rfl,HV.out,Jz.out⟩):p:=h
theorem xs_mono:∀(K K':Kn) (l:List Ex) (xs:List Value),Kn.le K K'->XsAt K l xs->XsAt K' l xs:=λ_ _ _ _ h k=>k.le h
theorem Zfz(l:List Ex)(v:Value)(H:Kn)(hv:ExsV H l v)(hp:Ex.partsL l<=1000000000000)(w:World)(hH:H.In w):
  Calls Tryz.prog 29 #[v] w λr w'=>∃v' K,r=.returned v'/\ExsV K l v'/\Kn.Step H w K w':=by
 obtain⟨a,Ha,rfl⟩:=hv.len;have hlp:=Zbp l;have HU:=Zhd hv;clear hv;go_enter Tryz.func29,Tryz.ntmps29;go_wp2_with fail;have jF:=Zhd (show RwO 93 4 XsAt H w w w.heap.size l 0 (Ys0) [] H from
  ⟨Kn.le_refl H,λ_ _=>rfl,hH,Below.refl _ _,Nat.le_refl _,World.ownsRow_nil _ _ _ _,rfl,λg hg=>by simp[Value.ownBlock] at hg⟩)
 go_loopw[3,4] (λu i wr=>∃(k:Nat) (xs:List Value) (K:Kn),i=.int .i64 k/\k<=l.length/\RwO 93 4 XsAt H w wr w.heap.size l k u xs K) (λ_ i _=>l.length - (intOf i).toNat)
 case atStart=>exact⟨0,_,_,rfl,Nat.zero_le _,jF.out⟩
 obtain⟨k,xs,K,rfl,hk,hS⟩:=hrel;have HS:=Zhd hS;obtain⟨au,cu,rfl,_⟩:=Zar hS.row;clear hS;by_cases Hd:k<l.length
 .obtain⟨b,off,ax,cx,rfl,c0,c1,c2,c3,hx⟩:=HU.out.at Hd;have Jy:l[k].parts<=1000000000000:=by have:=Za0 l k Hd;omega
  have c0:=HS.out.isin.cell (HS.out.le.cell c0);have c1:=HS.out.isin.cell (HS.out.le.cell c1);have c2:=HS.out.isin.cell (HS.out.le.cell c2);have c3:=HS.out.isin.cell (HS.out.le.cell c3);have hx:=hx.le HS.out.le;have HT:=Zhd (Zd6 l k Hd);generalize l[k]=x at *;go_wp2_with fail;refine(exprOf_any x _ K hx Jy _ HS.out.isin).mono ?_;rintro r wc ⟨v',K2,rfl,Jx,Hy⟩;obtain⟨u2,rfl,hu2⟩:=Jx;obtain⟨ax2,cx2,rfl⟩:=hu2.len;have jc:=Zhd ((RwO.next xs_mono HS.out Hy).alloc (.cells (Yqe x.op x.n x.s ax2 x.l.length cx2) 93));have HU2:=Zhd hu2;clear Hy hu2;go_wp2_with(at_builtin;refine Zgs 40 93 4 64 _ Tryz.underlying40 Tryz.infoEx rfl (by decide) _ _ rfl rfl w.heap.size _ _ _ rfl jc.out.row ⟨wc.heap.size,0,none⟩ 1 [.string x.op,.int .i64 x.n,.string x.s,.slice ax2 x.l.length cx2] rfl rfl ?c1 ?c2 ?c3 ?c4 ?c5 ?_)
  case c1=>exact cells4 _ _ _ _ _ _
  case c2=>simp[Value.oneCell']
  case c3=>omega
  case c4=>omega
  case c5=>exact jc.out.size
  intro g Hh w3 ho JP hJ;have kG:=Zhd (RwO.step (n':=1) jc.out (by rw[HT.out];exact jc.out.xs.append ⟨ax2,cx2,[],rfl,HU2.out,rfl⟩) ho JP (by rw[World.size_alloc];exact hJ));go_wp2_with fail;go_roundw
  case rel=>exact⟨k+1,_,K2,by go_num,by omega,kG.out⟩
  simp[intOf];omega
 obtain rfl:k=l.length:=by omega
 have JC:XsAt K (List.take l.length l) xs:=HS.out.xs;rw[List.take_of_length_le Ylr] at JC;obtain⟨K',He,Hk,hv,je⟩:=exsV_of_own HS.out.isin HS.out.row JC HS.out.noR;exact mFof1
theorem Tryz.infoVr:(Tryz.prog.info? 127).map (λi=>(i.zero,i.size,i.bytes))=some (some (.agg #[.string ⟨#[]⟩,.int .i64 0]),2,24):=by kernel_rfl
theorem varsOf_any(l:List Vr)(v:Value)(H:Kn)(hv:VrsV H l v)(hp:l.length<=1000000000000)(w:World)(hH:H.In w):
  Calls Tryz.prog 28 #[v] w λr w'=>∃v' K,r=.returned v'/\VrsV K l v'/\Kn.Step H w K w':=by
 obtain⟨a,Ha,rfl⟩:=hv.len;have HU:=Zhd hv;clear hv;obtain⟨i0,JI,Jt,J6,Ju⟩:=info_parts Tryz.infoVr;go_enter Tryz.func28,Tryz.ntmps28;go_wp2_with fail;have jF:=Zhd (show RwO 127 2 VsX H w w w.heap.size l 0 (Ys0) [] H from
  ⟨Kn.le_refl H,λ_ _=>rfl,hH,Below.refl _ _,Nat.le_refl _,World.ownsRow_nil _ _ _ _,rfl,λg hg=>by simp[Value.ownBlock] at hg⟩)
 go_loopw[3,4] (λu i wr=>∃(k:Nat) (xs:List Value),i=.int .i64 k/\k<=l.length/\RwO 127 2 VsX H w wr w.heap.size l k u xs H) (λ_ i _=>l.length - (intOf i).toNat)
 case atStart=>exact⟨0,_,rfl,Nat.zero_le _,jF.out⟩
 obtain⟨k,xs,rfl,hk,hS⟩:=hrel;have HS:=Zhd hS;obtain⟨au,cu,rfl,_⟩:=Zar hS.row;clear hS;by_cases Hd:k<l.length
 .obtain⟨b,off,rfl,_,c0,c1⟩:=SlV.at HU.out Hd;have c0:=HS.out.isin.cell c0;have c1:=HS.out.isin.cell c1;simp only[Nat.add_zero] at c0;have c0:wr.drew.cell? ⟨b,off+k * 2,none⟩=some (.string l[k].name):=c0;have c1:wr.drew.cell? ⟨b,off+k * 2+1,none⟩=some (.int .i64 l[k].kind):=c1;have HT:=Zhd (Zd6 l k Hd);generalize l[k]=x at *;have gc:=HS.out.drew;go_wp2_with fail;go_region_law (refine step_append_lies _ (by rfl) _ _ _ (by rfl) w.heap.size 127 i0 _ 2 24 Tryz.underlying38 JI Jt J6 Ju rfl (by omega) _ k xs (by rfl) (RwO.row (RwO.alloc gc _)) ⟨_,0,none⟩ 1 1 [.string x.name,.int .i64 x.kind] (by rfl) (by rfl) (by exact World.news_of_block (heap_alloc_new _ _)) (by simp[Value.oneCell']) (by omega) (by unfold maxLen;omega) (by omega) (RwO.size (RwO.alloc gc _)) _ rfl ?_;intro gg Hh w3 Hb Hj hJ jT;have jZ:=RwO.step (n':=1) (RwO.alloc gc _) (by rw[HT.out];have h1:=HS.out.xs;unfold VsX at h1 ⊢;rw[h1];simp) Hb Hj hJ)
  all_goals go_wp2_with fail
  all_goals go_roundw
  all_goals first|exact⟨k+1,_,by go_num,by omega,jZ⟩|(simp[intOf];omega)
 obtain rfl:k=l.length:=by omega
 have JC:VsX H (List.take l.length l) xs:=HS.out.xs;rw[List.take_of_length_le Ylr] at JC;obtain⟨K',He,Hk,hv,je⟩:=Zcn (R:=λ_=>VrC) HS.out.isin HS.out.row HS.out.noR (λK' _=>VsX.at (K':=K') JC);exact mFof1
theorem Zga:∀(l:List Ex) (k:Nat) (h:k<l.length),Ex.weightL (l.take (k+1))=Ex.weightL (l.take k)+l[k].weight
 |e :: l,0,_=>by simp[Ex.weightL]
 |e :: l,k+1,h=>by
  have:=Zga l k (by simpa using h);simp only[List.take_succ_cons,Ex.weightL,List.getElem_cons_succ];omega
theorem Ze7:∀(l:List Ex) (k:Nat),Ex.weightL (l.take k)<=Ex.weightL l
 | [],k=>by simp
 |e :: l,0=>by simp[Ex.weightL]
 |e :: l,k+1=>by
  have:=Ze7 l k;simp only[List.take_succ_cons,Ex.weightL];omega
theorem ex_weight(e:Ex):e.weight=1+e.s.size+Ex.weightL e.l:=by cases e;simp only[Ex.weight,Ex.l,Ex.s]
theorem Zfu:∀l:List Ex,l.length<=Ex.weightL l
 | []=>Nat.le_refl _
 |e :: l=>by have:=Zfu l;have:=ex_weight e;simp only[Ex.weightL,List.length_cons];omega
theorem Zho:∀(a b:List Ex),Ex.weightL (a++b)=Ex.weightL a+Ex.weightL b
 | [],b=>by simp[Ex.weightL]
 |x :: a,b=>by simp only[List.cons_append,Ex.weightL,Zho a b];omega
theorem partsL_le_w{l:List Ex}(h:∀e∈l,e.parts<=e.weight):Ex.partsL l<=Ex.weightL l:=by
 induction l with
 |nil=>exact Nat.le_refl _
 |cons e l ih=>
  simp only[Ex.partsL,Ex.weightL];have:=h e (List.mem_cons_self ..);have:=ih (λx hx=>h x (List.mem_cons_of_mem _ hx));omega
theorem parts_le_weight:∀e:Ex,e.parts<=e.weight:=by
 refine Ex.ind λo n s l ih=>?_;simp only[Ex.parts,Ex.weight];have:=partsL_le_w ih;omega
theorem Zjg(l:List Ex):Ex.partsL l<=Ex.weightL l:=partsL_le_w λe _=>parts_le_weight e
theorem weight_any(H:Kn):∀(e:Ex) (v:Value),ExV H e v->e.weight<=1000000000000000000->∀w:World,H.In w->
  Calls Tryz.prog 18 #[v] w λr w'=>r=.returned (.int .i64 e.weight)/\Ybw w w':=by
 refine Ex.ind λo n s l ih v hv hp w hH=>?_;obtain⟨u,rfl,hu⟩:=hv;simp only[Ex.op,Ex.n,Ex.s,Ex.l] at hu ⊢;simp only[Ex.weight] at hp ⊢;obtain⟨a,Ha,rfl⟩:=hu.len;have HU:=Zhd hu;have IH:=Zhd ih;have xN:=Zfu l;clear hu ih;go_enter Tryz.func18,Tryz.ntmps18;go_wp2_with fail;have qN:Ybw w (w.alloc (.cells (Yqe o n s a l.length Ha) 61)):=Yba;have xu:(w.alloc (.cells (Yqe o n s a l.length Ha) 61)).cell? ⟨w.heap.size,3,none⟩=some (.slice a l.length Ha):=by rw[World.cell?_alloc_new];rfl
 have JT:w.heap.size<(w.alloc (.cells (Yqe o n s a l.length Ha) 61)).heap.size:=by simp
 generalize w.alloc (.cells (Yqe o n s a l.length Ha) 61)=W at *;have gb:=Zhd qN;have yD:=Zhd xu;clear qN xu;go_loopw[3,4] (λc i wr=>∃k:Nat,i=.int .i64 k/\k<=l.length/\c=.int .i64 ((1+s.size+Ex.weightL (l.take k):Nat):Int)/\Ybw W wr) (λ_ i _=>l.length - (intOf i).toNat)
 case atStart=>exact⟨0,rfl,Nat.zero_le _,rfl,Below.refl _ _⟩
 obtain⟨k,rfl,hk,rfl,hb⟩:=hrel;have HB:=Zhd hb;clear hb;have qn:=Ze7 l k;have p3:wr.cell? ⟨w.heap.size,3,none⟩=some (.slice a l.length Ha):=by rw[HB.out.cell (p:=⟨w.heap.size,3,none⟩) JT];exact yD.out
 have hBW:Ybw w wr:=gb.out.trans (HB.out.mono gb.out.size);by_cases Hd:k<l.length
 .obtain⟨b,off,ax,cx,rfl,c0,c1,c2,c3,hx⟩:=HU.out.at Hd;have Hw:=hH.below hBW;have c0:=Hw.cell c0;have c1:=Hw.cell c1;have c2:=Hw.cell c2;have c3:=Hw.cell c3;have zr:=Zga l k Hd;have hpl2:=Ze7 l (k+1);have PS:=Zhd zr;have Jy:l[k].weight<=1000000000000000000:=by omega
  have Hl:=Ymm Hd;generalize l[k]=x at *;have hw1:1+s.size+Ex.weightL (l.take k)+x.weight<=1000000000000000000:=by omega
  clear zr;go_wp2_with fail;refine(IH.out x Hl _ hx Jy _ Hw).mono ?_;rintro r w2 ⟨rfl,Hm⟩;have jx:Ybw W w2:=HB.out.trans (Hm.mono HB.out.size);go_wp2_with fail;go_roundw
  case rel=>exact⟨k+1,by go_num,by omega,by rw[PS.out];go_num,jx⟩
  simp[intOf];omega
 go_wp2_with fail;go_ret;exact⟨Zaf (by rw[List.take_of_length_le (by omega)]),hBW⟩
theorem Tryz.infoREx:(Tryz.prog.info? 61).map (λi=>(i.zero,i.size,i.bytes))=some (some (.agg #[.string ⟨#[]⟩,.int .i64 0,.string ⟨#[]⟩,Ys0]),4,64):=by kernel_rfl
theorem Zg0{t T:TypeId}{z:Value}(ht:Tryz.prog.underlying t=some (.slice T))(hinfo:(Tryz.prog.info? T).map (λi=>(i.zero,i.size,i.bytes))=some (some z,4,64))(hz:z.cells.size=4)
  {H K:Kn} {w0 wr:World} {base:Nat} {L:List Ex} {done:Nat} {u:Value} {xs:List Value} (hS:RwO T 4 XsAt H w0 wr base L done u xs K) {l:List Ex} {a:Option Addr} {c:Nat} (hv:ExsV K l (.slice a l.length c)) (hL:L.take (done+l.length)=L.take done++l) (hb:done+l.length<=1000000000000):
  ∃v' W' xs',(∀ty,(Builtin.append_ #[t,t] ty #[u,.slice a l.length c]).run Tryz.prog wr=.ok v' W')/\RwO T 4 XsAt H w0 W' base L (done+l.length) v' xs' K:=by
 obtain⟨i,hi,h0,h2,h3⟩:=info_parts hinfo;by_cases hl:l=[]
 .subst hl;exact⟨u,wr,xs,λty=>Zbn t T i ht hi (by rw[<- h2] at *;exact hS.row) a c ty,hS⟩
 rcases hv with ⟨h,_⟩|⟨b,off,Ha,he,qM,zI,jH⟩
 .exact absurd h hl
 cases he;obtain⟨ys,zo,zU⟩:=jH.xs;have Ho:0<l.length:=List.length_pos_iff.2 hl;have Ht:=λty=>run_append_lies (P:=Tryz.prog) wr t ty base T i _ 4 64 ht hi h0 h2 h3 hz (by omega) u done xs hS.row ⟨b,off,none⟩ l.length c ys zo.len (λj v hj=>by rw[Zc6];exact hS.isin.cell (zU j v hj)) zo.one Ho (by unfold maxLen;omega) (by omega) hS.size wr.heap.size rfl;obtain⟨g,Hh,W',e1,e2,e3,e4,e5⟩:=Ht 0;refine⟨_,W',xs++ys,λty=>?_,hS.step (by rw[hL];exact hS.xs.append zo) e2 e3 e4⟩;exact e1
theorem Zfi{K:Kn}{w:World}{base:Nat}{t:TypeId}{v:Value}{l:List Ex}{xs:List Value}(hK:K.In w)(h:w.ownsRow base t 4 v l.length xs)(hx:XsAt K l xs)(hr:∀g,v.ownBlock=some g->K g=none):
  ∃K',K.le K'/\K'.In w/\ExsV K' l v/\(∀b,b<base->K' b=K b)/\∀g ob,K' g=some ob->K g=some ob\/∃cs,ob=.cells cs t (0,0):=by
 by_cases h0:l=[]
 .obtain⟨a,c,h1,_⟩:=Zar h;exact⟨K,Kn.le_refl K,hK,.inl ⟨h0,a,c,by rw[h1,h0];rfl⟩,λ_ _=>rfl,λ_ _ h => .inl h⟩
 rcases h.2 with ⟨_,hz⟩|⟨g,Ha,cur,h1,h2,h3,h4,h5,_⟩
 .exact absurd (List.eq_nil_of_length_eq_zero hz) h0
 have hg:K g=none:=hr g (by rw[h1];rfl);obtain⟨g',Hh,e1,_,_,_,_,hc⟩:=Zbr h (List.length_pos_iff.2 h0);rw[h1] at e1;cases e1;refine⟨K.add g (.cells cur t (0,0)),Kn.le_add hg,hK.add h3,.inr ⟨g,0,Ha,h1,h4,h5,hx.at (Kn.le_add hg) λj u hj=>?_⟩,λb zK=>Kn.add_other K _ (by omega),λq ob hq=>?_⟩
 .have h6:=hc j u hj;simp only[World.cell?,h3] at h6;unfold Kn.cell;rw[Kn.add_self,Nat.zero_add];simpa using h6
 by_cases e:q=g
 .subst e;rw[Kn.add_self] at hq;cases hq;exact .inr ⟨_,rfl⟩
 rw[Kn.add_other _ _ e] at hq;exact .inl hq
theorem Zhz(H:Kn)(p:Pr)(vi vo vl va vc:Value)(hp:PrP H p vi vo vl va vc)(J5:p.terms.length<=1000000000)(w:World)(hH:H.In w):
  Calls Tryz.prog 17 #[.agg #[vi,vo,vl,va,vc]] w λr w'=>∃v K,r=.returned v/\ExsV K p.terms v/\Kn.Step H w K w'/\∀g ob,K g=some ob->H g=some ob\/∃cs,ob=.cells cs 61 (0,0):=by
 obtain⟨h1,h2,h3,h4,h5⟩:=hp;obtain⟨ai,ci,ao,co,al,cl,aa,ca,ac,cc,rfl,rfl,rfl,rfl,rfl⟩:=Ypo h1.len h2.len h3.len h4.len h5.len;have Ho:p.terms.length=p.fl.length+p.as.length+p.cs.length:=by simp[Pr.terms];omega
 have H3:=Zhd h3;have H4:=Zhd h4;have H5:=Zhd h5;clear h1 h2 h3 h4 h5;go_enter Tryz.func17,Tryz.ntmps17;go_wp2_with fail;have hq:∀i,(w.alloc (.cells (Yq5 p ai ao al aa ac ci co cl ca cc) 27)).cell? ⟨w.heap.size,i,none⟩=((Yq5 p ai ao al aa ac ci co cl ca cc):Array Value)[i]?:=λi=>World.cell?_alloc_new _ _ _ _;have Hg:Ybw w (w.alloc (.cells (Yq5 p ai ao al aa ac ci co cl ca cc) 27)):=Yba;have JT:w.heap.size<(w.alloc (.cells (Yq5 p ai ao al aa ac ci co cl ca cc) 27)).heap.size:=by simp
 generalize w.alloc (.cells (Yq5 p ai ao al aa ac ci co cl ca cc) 27)=W1 at *;have q2:=Zhd (show W1.cell? ⟨w.heap.size,2,none⟩=some (.slice al p.fl.length cl) from hq 2);have q3:=Zhd (show W1.cell? ⟨w.heap.size,3,none⟩=some (.slice aa p.as.length ca) from hq 3);have q4:=Zhd (show W1.cell? ⟨w.heap.size,4,none⟩=some (.slice ac p.cs.length cc) from hq 4);have J4:=Zhd Hg;have jF:=Zhd (show RwO 61 4 XsAt H W1 W1 W1.heap.size p.terms 0 (Ys0) [] H from
  ⟨Kn.le_refl H,λ_ _=>rfl,hH.below Hg,Below.refl _ _,Nat.le_refl _,World.ownsRow_nil _ _ _ _,rfl,λg hg=>by simp[Value.ownBlock] at hg⟩)
 clear hq Hg;go_loopw[3,4] (λu i wr=>∃(k:Nat) (xs:List Value),i=.int .i64 k/\k<=p.fl.length/\RwO 61 4 XsAt H W1 wr W1.heap.size p.terms k u xs H) (λ_ i _=>p.fl.length - (intOf i).toNat)
 case atStart=>exact⟨0,_,rfl,Nat.zero_le _,jF.out⟩
 obtain⟨k,xs,rfl,hk,hS⟩:=hrel;have HS:=Zhd hS;obtain⟨au,cu,rfl,_⟩:=Zar hS.row;have Ji:=hS.below;clear hS;have e2:wr.cell? ⟨w.heap.size,2,none⟩=some (.slice al p.fl.length cl):=by rw[Ji.cell (p:=⟨w.heap.size,2,none⟩) JT];exact q2.out
 have e3:wr.cell? ⟨w.heap.size,3,none⟩=some (.slice aa p.as.length ca):=by rw[Ji.cell (p:=⟨w.heap.size,3,none⟩) JT];exact q3.out
 have e4:wr.cell? ⟨w.heap.size,4,none⟩=some (.slice ac p.cs.length cc):=by rw[Ji.cell (p:=⟨w.heap.size,4,none⟩) JT];exact q4.out
 clear Ji;by_cases Hd:k<p.fl.length
 .obtain⟨b,off,Qd,he,_,_,JJ⟩:=FlsV.cell H3.out (λe=>by rw[e] at Hd;simp at Hd);cases he;obtain⟨ax,cx,d0,d1,d2,d3,d4,d5,hx⟩:=JJ k Hd;have d2:=HS.out.isin.cell d2;have d3:=HS.out.isin.cell d3;have d4:=HS.out.isin.cell d4;have d5:=HS.out.isin.cell d5;have jd:∃x,p.fl[k]=x:=⟨_,rfl⟩;obtain⟨x,jd⟩:=jd;have hT:p.terms.take (k+1)=p.terms.take k++[x.e]:=by
   have hkt:k<p.terms.length:=by omega
   rw[Zd6 _ _ hkt]
   congr 2
   simp only[Pr.terms,List.append_assoc];rw[List.getElem_append_left (by simpa using Hd)];simp[jd]
  rw[jd] at d2 d3 d4 d5 hx;have HT:=Zhd hT;have HX:=Zhd hx;clear jd JJ hx hT d0 d1;have jc:=Zhd (HS.out.alloc (.cells (Yqe x.e.op x.e.n x.e.s ax x.e.l.length cx) 61));go_wp2_with(at_builtin;refine Zgs 25 61 4 64 _ Tryz.underlying25 Tryz.infoREx rfl (by decide) _ _ rfl rfl W1.heap.size _ _ _ rfl jc.out.row ⟨wr.heap.size,0,none⟩ 1 [.string x.e.op,.int .i64 x.e.n,.string x.e.s,.slice ax x.e.l.length cx] rfl rfl ?c1 ?c2 ?c3 ?c4 ?c5 ?_)
  case c1=>exact cells4 _ _ _ _ _ _
  case c2=>simp[Value.oneCell']
  case c3=>omega
  case c4=>omega
  case c5=>exact jc.out.size
  intro g Hh w3 ho JP hJ;have kG:=Zhd (RwO.step (n':=1) jc.out (by rw[HT.out];exact jc.out.xs.append ⟨ax,cx,[],rfl,HX.out,rfl⟩) ho JP (by rw[World.size_alloc];exact hJ));go_wp2_with fail;go_roundw
  case rel=>exact⟨k+1,_,by go_num,by omega,kG.out⟩
  simp[intOf];omega
 obtain rfl:k=p.fl.length:=by omega
 have t1:p.terms.take (p.fl.length+p.as.length)=p.terms.take p.fl.length++p.as:=by
  unfold Pr.terms;rw[List.append_assoc];have e1:p.fl.length=(p.fl.map (·.e)).length:=by simp
  rw[e1,List.take_length_add_append,List.take_left];rw[List.take_left]
 have t2:p.terms.take (p.fl.length+p.as.length+p.cs.length)=p.terms.take (p.fl.length+p.as.length)++p.cs:=by
  rw[t1,List.take_of_length_le (by omega)];unfold Pr.terms;have e1:p.fl.length=(p.fl.map (·.e)).length:=by simp
  rw[e1,List.append_assoc,List.take_left,List.append_assoc]
 obtain⟨v2,w2,xs2,hr2,Hq⟩:=Zg0 Tryz.underlying25 Tryz.infoREx rfl HS.out H4.out t1 (by omega);obtain⟨a2,c2,rfl,_⟩:=Zar Hq.row;obtain⟨v3,w3,xs3,hr3,Jw⟩:=Zg0 Tryz.underlying25 Tryz.infoREx rfl Hq H5.out t2 (by omega);obtain⟨a3,c3,rfl,_⟩:=Zar Jw.row;have g4:w2.cell? ⟨w.heap.size,4,none⟩=some (.slice ac p.cs.length cc):=by rw[Hq.below.cell (p:=⟨w.heap.size,4,none⟩) JT];exact q4.out
 have JC:=Jw.xs;rw[List.take_of_length_le (by omega)] at JC;obtain⟨K',He,Hk,hv,je,kJ⟩:=Zfi (l:=p.terms) Jw.isin (by rw[Ho];exact Jw.row) JC Jw.noR;have HTY:=Zhd kJ;have Jz:=Zhd (show Kn.Step H w K' w3 from⟨He,λb hb=>je b (by have:=J4.out.size;omega),Hk,J4.out.trans (Jw.below.mono J4.out.size)⟩);have HV:=Zhd hv;clear hv Hk je He JC Hq Jw t1 t2 kJ;go_wp2_with(at_builtin;first|refine Zbi rfl _ _ _ _ rfl _ _ rfl rfl _ _ hr2 ?_|refine Zbi rfl _ _ _ _ rfl _ _ rfl rfl _ _ hr3 ?_);go_ret;exact⟨_,K',rfl,HV.out,Jz.out,HTY.out⟩
theorem Zjd(H:Kn)(p:Pr)(vi vo vl va vc:Value)(hp:PrP H p vi vo vl va vc)(J5:p.terms.length<=1000000000)(w:World)(hH:H.In w):
  Calls Tryz.prog 17 #[.agg #[vi,vo,vl,va,vc]] w λr w'=>∃v K,r=.returned v/\ExsV K p.terms v/\Kn.Step H w K w':=
 (Zhz H p vi vo vl va vc hp J5 w hH).mono λ_ _ ⟨v,K,h1,h2,h3,_⟩=>⟨v,K,h1,h2,h3⟩
end Go.Proofs.YtafapnolamcdmaaGreatDoor
