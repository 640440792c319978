/- Walks: flow.Code.Tick. -/
import Derived.Test.YtofameafdnkijaaGreatDoorRg
import Derived.Test.YtofameafdnkijaaGreatDoorRh
import Derived.Test.YtofameafdnkijaaGreatDoorTkM
import Derived.Deep.RegionLaw
import Derived.Deep.DeepCutAuto
set_option linter.all false
namespace Go.Proofs.YtofameafdnkijaaGreatDoor
set_option maxRecDepth 100000
set_option maxHeartbeats 16000000
open Go.RowKit Mx
theorem mTk4 {p:Prop} (h:p:=by
 go_wp2_with fail
 refine Za2 (fun w'=>H.In w') (fun _=>True) 99 (by kernel_rfl) ?_
 refine tk2 (i:=0) (v:=?_) rfl hS Ztr ?hy ?_
 case hy=>exact mTk3
 refine Zst ?_
 refine Go.w3 1 ?_
 iterate 13 ((first | (refine tk3 (v:=?_) rfl hS Ztr ?hy ?_;(case hy=>intro w hSw;obtain⟨z0,z1⟩:=hSw.c2 hpv hq4;go_simp<;>with_reducible rfl)) | refine sk3 rfl hS Ztr ?_ | refine no3 ?_);refine Zss ?_)
 refine Go.w3e ?_
 refine Zwo 14 rfl fun K_ hK=>?_
 go_simp
 go_at_call 78
 refine hcall.mono ?_
 rintro ret w5 ⟨hr,hg5,hi5⟩
 dsimp only [vlV] at hr
 subst hr
 have hT5:=hTd.evald hg5 hi5
 have hT6:=hT5.alloc (.cells #[.int .i64 xk,.int .i64 xn] 137)
 refine hK.out _ _ (hT5.s.isin) Ztr ?_
 clear hK K_
 try simp only [tkS]
 refine Zwo 15 rfl fun K_ hK=>?_
 go_simp
 refine hK.out _ _ (hT6.s.isin) Ztr ?_
 clear hK K_
 try simp only [tkS]
 refine Zwo 16 rfl fun K_ hK=>?_
 refine step_append_lies _ (by rfl) _ _ _ (by rfl) base 137 i0 _ 2 16 Tryz.underlying51 hi0 hz0 hz1 hz2 rfl (by omega) (.slice anx nxt.length cnx) nxt.length (vlX nxt) (by rfl) hT6.rn ⟨_,0,none⟩ 1 1 [.int .i64 xk,.int .i64 xn] (by rfl) (by rfl) (by exact World.news_of_block (heap_alloc_new _ _)) (by simp [Value.oneCell']) (by omega) (by unfold maxLen;omega) (by omega) hT6.low _ rfl ?_
 intro gg cap' w3 hown hgrow hat hltg
 have hT7:=hT6.appN (x:=⟨xk,xn⟩) hown hgrow hat
 refine hK.out _ _ (hT7.s.isin) Ztr ?_
 clear hK K_
 try simp only [tkS]
 refine tk2 (i:=17) (v:=?_) rfl hT7.s.isin Ztr ?hy ?_
 case hy=>exact mTk3
 try simp only [tkS]
 refine Zwd ?_
 have HT7:=Zhd hT7
 clear hT7
 go_wp2_with fail
 go_roundw
 case rel=>exact⟨k+1,_,_,by go_num,by omega,HT7.out,HST.out⟩
 simp [intOf];omega):p:=h
theorem mTk3 {p:Prop} (h:p:=by
 intro w hSw;obtain⟨z0,z1⟩:=hSw.c2 hpv hq4;first | (go_simp;done) | (go_simp;with_reducible rfl)):p:=h
theorem mTk2 {p:Prop} (h:p:=by
 intro w hSw;obtain⟨z0,z1,z2⟩:=hSw.c3 j0 j1 j6;first | (go_simp;done) | (go_simp;with_reducible rfl)):p:=h
theorem mTk1 {p:Prop} (h:p:=by
 intro w hSw;have z0:=hSw.2;have z1:=hSw.1.cell C6.out;have z2:=hSw.1.cell hq1;first | (go_simp;done) | (go_simp;with_reducible rfl)):p:=h
theorem run_fieldN (a b:Int) (w:World):Sem.run Tryz.prog (Instr.field 137 (.agg #[.int .i64 a,.int .i64 b]) 1) w = .ok (.int .i64 b) w:=by
 simp [Instr.field,run_underlying Tryz.underlying137,part,asAgg,Result.andThen]
theorem tk_eval {DT:TypeId} {R:REnv} {r:Inst} {H:Kn} {w0 wr:World} {I NW RC:Nat} {cp vm vi:Value} {n:Nat} {t:Bool} (h:TkS 166 137 DT R r H w0 wr I NW RC cp vm vi n t) (hvm:VlsV H r.mem vm) (hvi:VlsV H r.inp vi) (hz:r.mem.length≤1000000000∧r.inp.length≤1000000000)
  (hnm:∀ s,(R.ks s).isSome=true→(R.nm s<0→(-1 - R.nm s).toNat<r.inp.length)∧(0≤R.nm s→(R.nm s).toNat<n)) {e:Ex} {m q:Nat} (hnd:NdAt 163 R H e m q) (hf:Zad R.ks e=true) (hp:e.parts≤1000000000) (hfit:m+memN e≤r.mem.length):
  Calls Tryz.prog 78 #[.pointer (some ⟨I,0,none⟩),.pointer (some ⟨q,0,none⟩)] wr (ValPost R r I cp vm vi (.slice (some ⟨NW,0,none⟩) n n) t wr (Zbd R r m e)):=by
 obtain⟨k1,k2⟩:=h.kn
 have hl:=h.len
 have hn:=h.hn
 exact eval_any R r I cp vm vi _ ⟨hz.1,hz.2,by omega⟩ e hf hp (noKn I wr) m q (NdAt.le k1 _ _ _ hnd) (SlV.le hvm k1 VlC.mono) (SlV.le hvi k1 VlC.mono) k2 wr t (Zhu I wr) (Zge I wr) h.inst (evOk_of (fun s hs=>by rw [hl];exact hnm s hs) e hf m hfit)
theorem tick_any (R:REnv) (H:Kn) (p:Pr) (ord:List Nat) (B:Nat) (hC:CodeAt 163 155 R H p ord B) (hf:∀ e∈p.terms,Zad R.ks e=true) (hp:∀ e∈p.terms,e.parts≤1000000000)
  (hnm:∀ s,(R.ks s).isSome=true→(R.nm s<0→(-1 - R.nm s).toNat<p.ins.length)∧(0≤R.nm s→(R.nm s).toNat<p.fl.length)) (hord:∀ k∈ord,k<p.fl.length) (hout:∀ i∈(cdOf p ord).outs,0≤i∧i.toNat<p.fl.length)
  (hsz:ord.length≤1000000∧p.fl.length≤1000000∧p.as.length≤1000000∧p.cs.length≤1000000∧p.outs.length≤1000000000∧Zal p.terms≤1000000000∧p.ins.length≤1000000) (hps:Ex.partsL p.terms≤1000000000)
  (first:Bool) (mem inp:List Vl) (vm vi:Value) (hm:VlsV H mem vm) (hi:VlsV H inp vi) (hml:mem.length=Zal p.terms) (hil:inp.length=p.ins.length) (w:World) (hH:H.In w):
  Calls Tryz.prog 31 #[.pointer (some ⟨B,0,none⟩),.agg #[.bool R.nb,.int .i64 R.ni],.bool first,vm,vi] w fun ret w'=>∃ ov cv u,ret = .returned (.tuple #[.agg #[ov,.bool (Zdg R (cdOf p ord) first mem inp).1.asrt,.bool (Zdg R (cdOf p ord) first mem inp).1.trap,cv],u])∧
   TkV (Zed w.heap.size w') (Zdg R (cdOf p ord) first mem inp).1 ov cv∧VlsV (Zed w.heap.size w') (Zdg R (cdOf p ord) first mem inp).2 u∧Below w.heap.size w w':=by
 obtain⟨z1,z2,z3,z4,z5,z6,z7⟩:=hsz
 obtain⟨cs,vI,vo,vf,va,vc,vu,vM,hcb,⟨e0,h0⟩,⟨e5,h5⟩,⟨e6,h6⟩,⟨e7,h7⟩,⟨e8,h8⟩,⟨e9,h9⟩,⟨e10,h10⟩⟩:=hC.ex
 obtain⟨ao,co,rfl⟩:=h5.len
 obtain⟨af,cf,rfl⟩:=h6.len
 obtain⟨aa,ca,rfl⟩:=h7.len
 obtain⟨ac,cc,rfl⟩:=h8.len
 obtain⟨au,cu,rfl⟩:=h9.len
 obtain⟨aM,cM,rfl⟩:=h10.len
 have hfl:(cdOf p ord).fs.length=p.fl.length:=by show (Zbb 0 _).length=_;rw [Zc1,List.length_map]
 have hal:(cdOf p ord).av.length=p.as.length:=Zc1 _ _
 have hcl:(cdOf p ord).cv.length=p.cs.length:=Zc1 _ _
 have hol:(cdOf p ord).outs.length=p.outs.length:=List.length_map _
 have hMl:(Zah 0 p.terms).length=Zal p.terms:=Zbh _ _
 have c5:H.cell B 5=some (.slice ao ord.length co):=by unfold Kn.cell;rw [hcb];exact e5
 have c6:H.cell B 6=some (.slice af p.fl.length cf):=by unfold Kn.cell;rw [hcb,← hfl];exact e6
 have c7:H.cell B 7=some (.slice aa p.as.length ca):=by unfold Kn.cell;rw [hcb,← hal];exact e7
 have c8:H.cell B 8=some (.slice ac p.cs.length cc):=by unfold Kn.cell;rw [hcb,← hcl];exact e8
 have c9:H.cell B 9=some (.slice au p.outs.length cu):=by unfold Kn.cell;rw [hcb,← hol];exact e9
 have c10:H.cell B 10=some (.slice aM (Zal p.terms) cM):=by unfold Kn.cell;rw [hcb,← hMl];exact e10
 rw [hfl] at h6
 rw [hal] at h7
 rw [hcl] at h8
 rw [hol] at h9
 rw [hMl] at h10
 have C5:=Zhd c5
 have C6:=Zhd c6
 have C7:=Zhd c7
 have C8:=Zhd c8
 have C9:=Zhd c9
 have C10:=Zhd c10
 have H5:=Zhd h5
 have H6:=Zhd h6
 have H7:=Zhd h7
 have H8:=Zhd h8
 have H9:=Zhd h9
 have H10:=Zhd h10
 have LF:=Zhd hfl
 have LA:=Zhd hal
 have LC:=Zhd hcl
 have LO:=Zhd hol
 have LM:=Zhd hMl
 obtain⟨am,cm,rfl⟩:=hm.len
 obtain⟨an,cn,rfl⟩:=hi.len
 have HML:=Zhd hml
 have HIL:=Zhd hil
 have HMV:=Zhd hm
 have HIV:=Zhd hi
 have hBlt:=hH.lt hcb
 clear hcb e0 h0 e5 h5 e6 h6 e7 h7 e8 h8 e9 h9 e10 h10 hfl hal hcl hol hMl hml hil c5 c7 c8 c9 c10 hm hi
 have HMK:=Zhd (fun w'=>run_make_vals (P:=Tryz.prog) 51 137 Tryz.underlying51 Tryz.infoVl p.fl.length (by omega) w')
 have hb0:Below w.heap.size w ((w.alloc (.cells #[.bool R.nb,.int .i64 R.ni] 84)).alloc (.cells #[.slice none 0 0,.bool false,.bool false,.slice none 0 0] 88)):=((Below.refl _ _).alloc (Nat.le_refl _) _).alloc (by simp) _
 have g6:=(hH.below hb0).cell c6
 go_enter Tryz.func31,Tryz.ntmps31
 go_upto_region 1 with fail
 clear g6 c6
 go_cut [12] from 25 to 37 (fun s12 wx=>∃ I NW:Nat,s12=ptrV I∧TkS 166 137 88 R ⟨first,mem,inp,List.replicate p.fl.length vz⟩ H w wx I NW (w.heap.size+1) (ptrV B) (.slice am mem.length cm) (.slice an inp.length cn) p.fl.length false)
 case first=>
  have hN0:((w.alloc (.cells #[.bool R.nb,.int .i64 R.ni] 84)).alloc (.cells #[.slice none 0 0,.bool false,.bool false,.slice none 0 0] 88)).heap[w.heap.size]?=some (.cells #[.bool R.nb,.int .i64 R.ni] 84 (0,0)):=by rw [Below.heap_alloc _ _ _ (by simp)];exact heap_alloc_new _ _
  have hR0:((w.alloc (.cells #[.bool R.nb,.int .i64 R.ni] 84)).alloc (.cells #[.slice none 0 0,.bool false,.bool false,.slice none 0 0] 88)).heap[w.heap.size+1]?=some (.cells #[.slice none 0 0,.bool false,.bool false,.slice none 0 0] 88 (0,0)):=by
   have:=heap_alloc_new (w.alloc (.cells #[.bool R.nb,.int .i64 R.ni] 84)) (.cells #[.slice none 0 0,.bool false,.bool false,.slice none 0 0] 88)
   simpa using this
  have hsz0:((w.alloc (.cells #[.bool R.nb,.int .i64 R.ni] 84)).alloc (.cells #[.slice none 0 0,.bool false,.bool false,.slice none 0 0] 88)).heap.size=w.heap.size+2:=by simp
  have hin0:=hH.below hb0
  refine Za2 (fun w'=>(Zai ((w.alloc (.cells #[.bool R.nb,.int .i64 R.ni] 84)).alloc (.cells #[.slice none 0 0,.bool false,.bool false,.slice none 0 0] 88))).In w') (fun _=>True) 99 (by kernel_rfl) ?_
  generalize hW0:((w.alloc (.cells #[.bool R.nb,.int .i64 R.ni] 84)).alloc (.cells #[.slice none 0 0,.bool false,.bool false,.slice none 0 0] 88))=W0 at *
  clear hW0
  have hS:(Zai W0).In W0.drew:=(Za8 W0).below (Below.refl _ _).drew
  have j0:(Zai W0).cell w.heap.size 0=some (.bool R.nb):=by rw [Zap];simp [World.cell?,hN0]
  have j1:(Zai W0).cell w.heap.size 1=some (.int .i64 R.ni):=by rw [Zap];simp [World.cell?,hN0]
  have j6:(Zai W0).cell B 6=some (.slice af p.fl.length cf):=by rw [Zap];exact hin0.cell C6.out
  have hmk:=HMK.out
  refine tk2 (i:=0) (v:=?_) rfl hS Ztr ?hy ?_
  case hy=>exact mTk2
  refine Zst ?_
  refine Go.w3 1 ?_
  iterate 9 ((first | (refine tk3 (v:=?_) rfl hS Ztr ?hy ?_;(case hy=>intro w hSw;obtain⟨z0,z1,z2⟩:=hSw.c3 j0 j1 j6;go_simp<;>with_reducible rfl)) | refine sk3 rfl hS Ztr ?_ | refine no3 ?_);refine Zss ?_)
  refine Go.w3e ?_
  refine Zwo 10 rfl fun K_ hK=>?_
  go_simp
  refine hK.out _ _ (hS.alloc _) Ztr ?_
  clear hK K_
  try simp only [tkS]
  refine tk2 (i:=11) (v:=?_) rfl (hS.alloc _) Ztr ?hy ?_
  case hy=>exact mTk2
  try simp only [tkS]
  refine Zwo 12 rfl fun K_ hK=>?_
  go_simp
  refine hK.out _ _ ((hS.alloc _).alloc _) Ztr ?_
  clear hK K_
  try simp only [tkS]
  refine tk2 (i:=13) (v:=?_) rfl ((hS.alloc _).alloc _) Ztr ?hy ?_
  case hy=>exact mTk2
  try simp only [tkS]
  refine Zwd ?_
  go_wp2_with fail
  go_meet
  have hd:W0.drew.heap.size=w.heap.size+2:=hsz0
  have hz0:=hb0.size
  refine⟨w.heap.size+3,w.heap.size+2,rfl,(hin0.alloc _).alloc _,((hb0.alloc hb0.size _).alloc (by simp;omega) _).drew,?_,?_,?_,List.length_replicate,by omega,⟨by omega,by omega,by omega,by omega,by omega,by omega⟩,hH⟩
  ·have:=heap_alloc_new (W0.alloc (.cells (vlX (List.replicate p.fl.length vz)).toArray 137)) (.cells (Zcz (ptrV B) R ⟨first,mem,inp,List.replicate p.fl.length vz⟩ (.slice am mem.length cm) (.slice an inp.length cn) (.slice (some ⟨w.heap.size+2,0,none⟩) p.fl.length p.fl.length) false) 166)
   rw [show (W0.alloc (.cells (vlX (List.replicate p.fl.length vz)).toArray 137)).heap.size=w.heap.size+3 from by simp [hsz0]] at this
   exact this
  ·have:=heap_alloc_new W0 (.cells (vlX (List.replicate p.fl.length vz)).toArray 137)
   rw [hsz0] at this
   exact (Below.heap_alloc (W0.alloc (.cells (vlX (List.replicate p.fl.length vz)).toArray 137)) _ (w.heap.size+2) (by simp [hsz0])).trans this
  have h1:=Below.heap_alloc W0 (.cells (vlX (List.replicate p.fl.length vz)).toArray 137) (w.heap.size+1) (by omega)
  exact (Below.heap_alloc (W0.alloc (.cells (vlX (List.replicate p.fl.length vz)).toArray 137)) _ (w.heap.size+1) (by simp [hsz0])).trans (h1.trans hR0)
 obtain⟨I,NW,rfl,hT⟩:=hcut
 have HT:=Zhd hT
 have HTERM:=Zhd (show ∀ x,x∈(cdOf p ord).fs∨x∈(cdOf p ord).av∨x∈(cdOf p ord).cv→Zad R.ks x.1=true∧x.1.parts≤1000000000∧x.2+memN x.1≤mem.length from fun x hx=>by
  obtain⟨h1,h2⟩:=cd_terms hx
  exact⟨hf _ h1,hp _ h1,by rw [HML.out];exact h2⟩)
 have HNM:=Zhd (show ∀ s,(R.ks s).isSome=true→(R.nm s<0→(-1 - R.nm s).toNat<inp.length)∧(0≤R.nm s→(R.nm s).toNat<p.fl.length) from fun s hs=>by rw [HIL.out];exact hnm s hs)
 have HSZ:=Zhd (show mem.length≤1000000000∧inp.length≤1000000000 from by rw [HML.out,HIL.out];omega)
 have HORD:=Zhd hord
 have HOUT:=Zhd hout
 have HF:=Zhd hf
 have HPS:=Zhd hps
 have HP:=Zhd hp
 have g5:=hT.isin.cell C5.out
 clear hT HMK hnm hord hout hf hp hps hb0
 go_wp2_with fail
 clear g5
 go_loopw [43] (fun i wr=>∃ (k:Nat) (now:List Vl) (t:Bool),i = .int .i64 k∧k≤ord.length∧TkS 166 137 88 R ⟨first,mem,inp,now⟩ H w wr I NW (w.heap.size+1) (ptrV B) (.slice am mem.length cm) (.slice an inp.length cn) p.fl.length t∧nowM R first mem inp (cdOf p ord).fs (ord.drop k) now t=nowM R first mem inp (cdOf p ord).fs ord (List.replicate p.fl.length vz) false) (fun i _=>ord.length - (intOf i).toNat)
 case atStart=>exact⟨0,_,_,rfl,Nat.zero_le _,HT.out,rfl⟩
 clear HT
 obtain⟨k,now,t,rfl,hk,hT,hnow⟩:=hrel
 have HT:=Zhd hT
 have HNOW:=Zhd hnow
 clear hT hnow
 by_cases hkl:k<ord.length
 ·obtain⟨b,off,rfl,_,c0⟩:=SlV.at H5.out hkl
  have c0:H.cell b (off+k * 1+0)=some (natV ord[k]):=c0
  simp only [Nat.mul_one,Nat.add_zero] at c0
  have hjn:ord[k]<p.fl.length:=HORD.out _ (List.getElem_mem hkl)
  have HSTEP:=Zhd (show ∀ (x:Ex×Nat),(cdOf p ord).fs[ord[k]]?=some x→nowM R first mem inp (cdOf p ord).fs (ord.drop k) now t=nowM R first mem inp (cdOf p ord).fs (ord.drop (k+1)) (now.set ord[k] (Zbd R ⟨first,mem,inp,now⟩ x.2 x.1).1) (t || (Zbd R ⟨first,mem,inp,now⟩ x.2 x.1).2) from fun x hx=>by
   rw [List.drop_eq_getElem_cons hkl]
   simp only [nowM]
   have e:(cdOf p ord).fs.getD ord[k] (.mk ⟨#[]⟩ 0 ⟨#[]⟩ [],0)=x:=by simp [List.getD_eq_getElem?_getD,hx]
   rw [e])
  generalize ord[k]=j at *
  have hjf:j<(cdOf p ord).fs.length:=by rw [LF.out];exact hjn
  obtain⟨b6,off6,haf,_,q,hq1,hq2⟩:=SlV.at H6.out hjf
  have hq1:H.cell b6 (off6+j * 1+0)=some (ptrV q):=hq1
  simp only [Nat.mul_one,Nat.add_zero] at hq1
  have hj1:=List.getElem?_eq_getElem hjf
  have hmem:=List.getElem_mem hjf
  generalize (cdOf p ord).fs[j]=x at *
  obtain⟨hfx,hpx,hfit⟩:=HTERM.out x (.inl hmem)
  have hst:=HSTEP.out x hj1
  have hTd:=HT.out.next (Below.refl wr.heap.size wr).drew
  have hcall:=tk_eval hTd HMV.out HIV.out HSZ.out HNM.out hq2 hfx hpx hfit
  obtain⟨⟨⟨xk,xn⟩,xt⟩,hev⟩:∃ v,v=Zbd R ⟨first,mem,inp,now⟩ x.2 x.1:=⟨_,rfl⟩
  rw [← hev] at hcall hst
  have HST:=Zhd hst
  have c0:=HT.out.isin.cell c0
  subst haf
  clear hj1 hev hst hq2 hmem hfx hpx hfit HSTEP
  have hjI:(j:Int)<p.fl.length:=by omega
  have hS:(fun w'=>H.In w'∧w'.cell? ⟨I,6,none⟩=some (.slice (some ⟨NW,0,none⟩) p.fl.length p.fl.length)) wr.drew:=⟨hTd.isin,hTd.c 6⟩
  go_wp2_with fail
  refine Za2 (fun w'=>H.In w'∧w'.cell? ⟨I,6,none⟩=some (.slice (some ⟨NW,0,none⟩) p.fl.length p.fl.length)) (fun _=>True) 99 (by kernel_rfl) ?_
  refine tk2 (i:=0) (v:=?_) rfl hS Ztr ?hy ?_
  case hy=>exact mTk1
  refine Zst ?_
  refine Go.w3 1 ?_
  iterate 12 ((first | (refine tk3 (v:=?_) rfl hS Ztr ?hy ?_;(case hy=>intro w hSw;have z0:=hSw.2;have z1:=hSw.1.cell C6.out;have z2:=hSw.1.cell hq1;go_simp<;>with_reducible rfl)) | refine sk3 rfl hS Ztr ?_ | refine no3 ?_);refine Zss ?_)
  refine Go.w3e ?_
  refine Zwo 13 rfl fun K_ hK=>?_
  go_simp
  go_at_call 78
  refine hcall.mono ?_
  rintro ret w5 ⟨rfl,hg5,hi5⟩
  have hT5:=hTd.evald hg5 hi5
  obtain⟨y0,y1,q0,q1,f0,f1,hT6⟩:=hT5.put hjn ⟨xk,xn⟩
  have HT6:=Zhd hT6
  clear hT6
  have hS5:H.In w5∧w5.cell? ⟨I,6,none⟩=some (.slice (some ⟨NW,0,none⟩) p.fl.length p.fl.length):=⟨hT5.isin,hT5.c 6⟩
  refine hK.out _ _ (hS5) Ztr ?_
  clear hK K_
  try simp only
  refine tk2 (i:=14) (v:=?_) rfl hS5 Ztr ?hy ?_
  case hy=>exact mTk1
  try simp only [tkS]
  refine Zwo 15 rfl fun K_ hK=>?_
  go_simp
  refine hK.out _ _ (⟨HT6.out.isin,HT6.out.c 6⟩) Ztr ?_
  clear hK K_
  try simp only [tkS]
  refine Zwd ?_
  go_wp2_with fail
  go_roundw
  case rel=>exact⟨k+1,_,_,by go_num,by omega,HT6.out,by rw [← HST.out];exact HNOW.out⟩
  simp [intOf];omega
 obtain rfl:k=ord.length:=by omega
 have hT:=HT.out
 have hX:nowM R first mem inp (cdOf p ord).fs ord (List.replicate p.fl.length vz) false=(now,t):=by
  have h:=HNOW.out
  rw [List.drop_length] at h
  exact h.symm
 have HX:=Zhd hX
 have hTA:=hT.alloc (.cells #[.slice none 0 0,.bool true,.bool false,.slice none 0 0] 88)
 have g7:=hTA.isin.cell C7.out
 have hTB:=heap_alloc_new wr (.cells #[.slice none 0 0,.bool true,.bool false,.slice none 0 0] 88)
 have hsA:(wr.alloc (.cells #[.slice none 0 0,.bool true,.bool false,.slice none 0 0] 88)).heap.size=wr.heap.size+1:=by simp
 obtain⟨a1,a2,a3,a4,a5,a6⟩:=hT.apart
 have l1:=(Zlt hT.inst)
 have l2:=(Zlt hT.now)
 have l3:=(Zlt hT.res)
 have HT:=Zhd (show TkT 166 137 88 4 R ⟨first,mem,inp,now⟩ H w (wr.alloc (.cells #[.slice none 0 0,.bool true,.bool false,.slice none 0 0] 88)) I NW (w.heap.size+1) (ptrV B) (.slice am mem.length cm) (.slice an inp.length cn) p.fl.length t wr.heap.size (wr.heap.size+1) true (.slice none 0 0) [] (.slice none 0 0) [] (.slice none 0 0) [] from
  ⟨hTA,hTB,World.ownsRow_nil _ _ _ _,World.ownsRow_nil _ _ _ _,World.ownsRow_nil _ _ _ _,fun g hg=>by simp [Value.ownBlock] at hg,⟨by omega,by omega,by omega,by omega,by omega⟩,⟨by omega,by omega,by omega,by omega⟩,by decide⟩)
 clear hT hX hTA hTB hsA a1 a2 a3 a4 a5 a6 l1 l2 l3 HNOW hk hkl
 go_wp2_with fail
 clear g7
 generalize hTBe:wr.heap.size=TB at *
 generalize TB+1=base at *
 generalize wr.alloc (.cells #[.slice none 0 0,.bool true,.bool false,.slice none 0 0] 88)=W1 at *
 clear hTBe
 go_loopw [69] (fun i wr=>∃ (k:Nat) (a:Bool) (t':Bool),i = .int .i64 k∧k≤p.as.length∧TkT 166 137 88 4 R ⟨first,mem,inp,now⟩ H w wr I NW (w.heap.size+1) (ptrV B) (.slice am mem.length cm) (.slice an inp.length cn) p.fl.length t' TB base a (.slice none 0 0) [] (.slice none 0 0) [] (.slice none 0 0) []∧a=(((cdOf p ord).av.take k).map fun x=>(Zbd R ⟨first,mem,inp,now⟩ x.2 x.1).1).all (fun v=>decide (v.n=1))∧t'=(t || ((cdOf p ord).av.take k).any fun x=>(Zbd R ⟨first,mem,inp,now⟩ x.2 x.1).2)) (fun i _=>p.as.length - (intOf i).toNat)
 case atStart=>exact⟨0,_,_,rfl,Nat.zero_le _,HT.out,by simp,by simp⟩
 clear HT
 obtain⟨k,a,t',rfl,hk,hT,ha,ht⟩:=hrel
 have HT:=Zhd hT
 have HA:=Zhd ha
 have HTT:=Zhd ht
 clear hT ha ht
 by_cases hkl:k<p.as.length
 ·have hkf:k<(cdOf p ord).av.length:=by rw [LA.out];exact hkl
  obtain⟨b,off,haf,_,q,hq1,hq2⟩:=SlV.at H7.out hkf
  have hq1:H.cell b (off+k * 1+0)=some (ptrV q):=hq1
  simp only [Nat.mul_one,Nat.add_zero] at hq1
  have hmem:=List.getElem_mem hkf
  have HSA:=Zhd (show (cdOf p ord).av.take (k+1)=(cdOf p ord).av.take k++[(cdOf p ord).av[k]] from List.take_succ_eq_append_getElem hkf)
  generalize (cdOf p ord).av[k]=x at *
  obtain⟨hfx,hpx,hfit⟩:=HTERM.out x (.inr <| .inl hmem)
  have c0:=HT.out.s.isin.cell hq1
  subst haf
  have hcall:=tk_eval HT.out.s HMV.out HIV.out HSZ.out HNM.out hq2 hfx hpx hfit
  obtain⟨⟨⟨xk,xn⟩,xt⟩,hev⟩:∃ v,v=Zbd R ⟨first,mem,inp,now⟩ x.2 x.1:=⟨_,rfl⟩
  rw [← hev] at hcall
  have HEV:=Zhd hev
  have hfld:=run_fieldN xk xn
  clear hev hq2 hmem hfx hpx hfit
  have HST:=Zhd (show (a&&decide (xn=1))=(((cdOf p ord).av.take (k+1)).map fun x=>(Zbd R ⟨first,mem,inp,now⟩ x.2 x.1).1).all (fun v=>decide (v.n=1))∧(t' || xt)=(t || ((cdOf p ord).av.take (k+1)).any fun x=>(Zbd R ⟨first,mem,inp,now⟩ x.2 x.1).2) from by
   rw [HSA.out,List.map_append,List.all_append,List.any_append,HA.out,HTT.out]
   simp [← HEV.out,Bool.or_assoc])
  clear HSA
  by_cases hx1:xn=1
  ·subst hx1
   go_wp2_with (go_at_call 78;refine hcall.mono ?_;rintro ret w5 ⟨hr,hg5,hi5⟩;dsimp only [vlV] at hr;subst hr;have HT5:=Zhd (HT.out.evald hg5 hi5);have y1:=HT5.out.c 1;have yf:=HT5.out.f 1;simp only [List.getElem?_toArray,List.getElem?_cons_succ,List.getElem?_cons_zero] at y1)
   go_roundw
   case rel=>exact⟨k+1,_,_,by go_num,by omega,HT5.out.setA _,by have h:=HST.out.1;simpa using h,HST.out.2⟩
   simp [intOf];omega
  have hx2:(xn==1)=false:=by simp [hx1]
  go_wp2_with (go_at_call 78;refine hcall.mono ?_;rintro ret w5 ⟨hr,hg5,hi5⟩;dsimp only [vlV] at hr;subst hr;have HT5:=Zhd (HT.out.evald hg5 hi5);have y1:=HT5.out.c 1;have yf:=HT5.out.f 1;simp only [List.getElem?_toArray,List.getElem?_cons_succ,List.getElem?_cons_zero] at y1)
  go_roundw
  case rel=>exact⟨k+1,_,_,by go_num,by omega,HT5.out.setA _,by have h:=HST.out.1;simpa [hx1] using h,HST.out.2⟩
  simp [intOf];omega
 obtain rfl:k=p.as.length:=by omega
 have ha:=HA.out
 have ht:=HTT.out
 rw [← LA.out,List.take_length] at ha ht
 have HA:=Zhd ha
 have HTA:=Zhd ht
 have g8:=HT.out.s.isin.cell C8.out
 clear HTT ha ht hk hkl
 go_wp2_with fail
 clear g8
 go_loopw [89] (fun i wr=>∃ (k:Nat) (t'':Bool) (cv:Value) (cks:List Bool),i = .int .i64 k∧k≤p.cs.length∧TkT 166 137 88 4 R ⟨first,mem,inp,now⟩ H w wr I NW (w.heap.size+1) (ptrV B) (.slice am mem.length cm) (.slice an inp.length cn) p.fl.length t'' TB base a (.slice none 0 0) [] cv cks (.slice none 0 0) []∧cks=((cdOf p ord).cv.take k).map (fun x=>decide ((Zbd R ⟨first,mem,inp,now⟩ x.2 x.1).1.n=1))∧t''=(t' || ((cdOf p ord).cv.take k).any fun x=>(Zbd R ⟨first,mem,inp,now⟩ x.2 x.1).2)) (fun i _=>p.cs.length - (intOf i).toNat)
 case atStart=>exact⟨0,_,_,_,rfl,Nat.zero_le _,HT.out,by simp,by simp⟩
 clear HT
 obtain⟨k,t'',cv,cks,rfl,hk,hT,hc,ht⟩:=hrel
 have HT:=Zhd hT
 have HCK:=Zhd hc
 have HTT:=Zhd ht
 clear hT hc ht
 by_cases hkl:k<p.cs.length
 ·have hkf:k<(cdOf p ord).cv.length:=by rw [LC.out];exact hkl
  obtain⟨b,off,haf,_,q,hq1,hq2⟩:=SlV.at H8.out hkf
  have hq1:H.cell b (off+k * 1+0)=some (ptrV q):=hq1
  simp only [Nat.mul_one,Nat.add_zero] at hq1
  have hmem:=List.getElem_mem hkf
  have HSA:=Zhd (show (cdOf p ord).cv.take (k+1)=(cdOf p ord).cv.take k++[(cdOf p ord).cv[k]] from List.take_succ_eq_append_getElem hkf)
  generalize (cdOf p ord).cv[k]=x at *
  obtain⟨hfx,hpx,hfit⟩:=HTERM.out x (.inr <| .inr hmem)
  have c0:=HT.out.s.isin.cell hq1
  subst haf
  have hTd:=HT.out.next (Below.refl wr.heap.size wr).drew
  have hcall:=tk_eval hTd.s HMV.out HIV.out HSZ.out HNM.out hq2 hfx hpx hfit
  obtain⟨⟨⟨xk,xn⟩,xt⟩,hev⟩:∃ v,v=Zbd R ⟨first,mem,inp,now⟩ x.2 x.1:=⟨_,rfl⟩
  rw [← hev] at hcall
  have HEV:=Zhd hev
  have hfld:=run_fieldN xk xn
  clear hev hq2 hmem hfx hpx hfit
  have HST:=Zhd (show cks++[xn==1]=((cdOf p ord).cv.take (k+1)).map (fun x=>decide ((Zbd R ⟨first,mem,inp,now⟩ x.2 x.1).1.n=1))∧(t'' || xt)=(t' || ((cdOf p ord).cv.take (k+1)).any fun x=>(Zbd R ⟨first,mem,inp,now⟩ x.2 x.1).2) from by
   rw [HSA.out,List.map_append,List.any_append,HCK.out,HTT.out]
   refine⟨?_,by simp [← HEV.out,Bool.or_assoc]⟩
   congr 1
   simp only [List.map_cons,List.map_nil,← HEV.out]
   by_cases h:xn=1<;>simp [h])
  have hcb:cks.length≤1000000:=by rw [HCK.out,List.length_map,List.length_take];omega
  have y0:wr.drew.cell? ⟨TB,3,none⟩=some cv:=hTd.c 3
  obtain⟨i0,hi0,hz0,hz1,hz2⟩:=info_parts Tryz.infoBool
  clear HSA
  go_wp2_with fail
  go_region_law (first | (go_simp;go_at_call 78;refine hcall.mono ?_;rintro ret w5 ⟨hr,hg5,hi5⟩;dsimp only [vlV] at hr;subst hr;have hT5:=hTd.evald hg5 hi5;have y1:w5.cell? ⟨TB,3,none⟩=some cv:=hT5.c 3;have y2:∀ o,(w5.alloc o).cell? ⟨TB,3,none⟩=some cv:=fun o=>(hT5.alloc o).c 3) | (refine step_append_lies _ (by rfl) _ _ _ (by rfl) base 4 i0 _ 1 1 Tryz.underlying86 hi0 hz0 hz1 hz2 rfl (by omega) cv cks.length (cks.map .bool) (by rfl) (TkT.rc (TkT.alloc (by assumption) _)) ⟨_,0,none⟩ 1 1 [.bool (xn==1)] (by rfl) (by rfl) (by exact World.news_of_block (heap_alloc_new _ _)) (by simp [Value.oneCell']) (by omega) (by unfold maxLen;omega) (by omega) (TkT.low (TkT.alloc (by assumption) _)) _ rfl ?_;intro gg cap' w3 hown hgrow hat hltg;obtain⟨hf1,hf2,hf3⟩:=TkT.appC (TkT.alloc (by assumption) _) hown hgrow))
  all_goals generalize World.setCell _ _ _=W at hf3 ⊢
  all_goals go_wp2_with fail
  all_goals go_roundw
  all_goals first | (simp [intOf];omega;done) | exact⟨k+1,_,_,_,by go_num,by omega,hf3,HST.out⟩ | ((repeat apply Exists.intro);refine⟨?_,rfl⟩;exact⟨k+1,_,_,_,by go_num,by omega,hf3,HST.out⟩)
 obtain rfl:k=p.cs.length:=by omega
 have hc:=HCK.out
 have ht:=HTT.out
 rw [← LC.out,List.take_length] at hc ht
 have HCK:=Zhd hc
 have HTC:=Zhd ht
 have g10:=HT.out.s.isin.cell C10.out
 clear HTT hc ht hk hkl
 go_wp2_with fail
 clear g10
 go_loopw [20,109] (fun s20 i wr=>∃ (k:Nat) (t3:Bool) (nxt:List Vl),i = .int .i64 k∧k≤Zal p.terms∧TkT 166 137 88 4 R ⟨first,mem,inp,now⟩ H w wr I NW (w.heap.size+1) (ptrV B) (.slice am mem.length cm) (.slice an inp.length cn) p.fl.length t3 TB base a (.slice none 0 0) [] cv cks s20 nxt∧nxt=((Zah 0 p.terms).take k).map (fun x=>(Zbd R ⟨first,mem,inp,now⟩ (Zft x).2 (Zft x).1).1)∧t3=(t'' || ((Zah 0 p.terms).take k).any fun x=>(Zbd R ⟨first,mem,inp,now⟩ (Zft x).2 (Zft x).1).2)) (fun _ i _=>Zal p.terms - (intOf i).toNat)
 case atStart=>exact⟨0,_,_,rfl,Nat.zero_le _,HT.out,by simp,by simp⟩
 clear HT
 obtain⟨k,t3,nxt,rfl,hk,hT,hx,ht⟩:=hrel
 have HT:=Zhd hT
 have HNX:=Zhd hx
 have HTT:=Zhd ht
 clear hT hx ht
 obtain⟨anx,cnx,hnx,_⟩:=Zau HT.out.rn
 subst hnx
 by_cases hkl:k<Zal p.terms
 ·have hkf:k<(Zah 0 p.terms).length:=by rw [LM.out];exact hkl
  obtain⟨b,off,haf,_,q,hq1,hq2⟩:=SlV.at H10.out hkf
  have hq1:H.cell b (off+k * 1+0)=some (ptrV q):=hq1
  simp only [Nat.mul_one,Nat.add_zero] at hq1
  have hmem:=List.getElem_mem hkf
  have HSA:=Zhd (show (Zah 0 p.terms).take (k+1)=(Zah 0 p.terms).take k++[(Zah 0 p.terms)[k]] from List.take_succ_eq_append_getElem hkf)
  generalize (Zah 0 p.terms)[k]=x at *
  obtain⟨kk,hk1,hlen,hlast⟩:=ms_last HF.out hmem
  obtain⟨hlp,hfx,hpx,hfit⟩:=hlast (by omega)
  obtain⟨lv,pv,hqc,a,c,rfl,hparts⟩:=hq2.open
  obtain⟨b2,off2,q2,haf2,hq4,hq5⟩:=hparts kk (by omega)
  have hpv:H.cell q 4=some (.slice a x.1.l.length c):=by unfold Kn.cell;rw [hqc];rfl
  rw [hlen] at hpv
  subst haf haf2
  have c0:=HT.out.s.isin.cell hq1
  have hTd:=HT.out.next (Below.refl wr.heap.size wr).drew
  have hcall:=tk_eval hTd.s HMV.out HIV.out HSZ.out HNM.out hq5 hfx (by have:=HPS.out;omega) (by rw [HML.out];exact hfit)
  obtain⟨⟨⟨xk,xn⟩,xt⟩,hev⟩:∃ v,v=(Zbd R ⟨first,mem,inp,now⟩ (Zft x).2 (Zft x).1):=⟨_,rfl⟩
  have hev2:=hev
  rw [hlp] at hev2
  rw [← hev2] at hcall
  have HST:=Zhd (show nxt++[⟨xk,xn⟩]=((Zah 0 p.terms).take (k+1)).map (fun x=>(Zbd R ⟨first,mem,inp,now⟩ (Zft x).2 (Zft x).1).1)∧(t3 || xt)=(t'' || ((Zah 0 p.terms).take (k+1)).any fun x=>(Zbd R ⟨first,mem,inp,now⟩ (Zft x).2 (Zft x).1).2) from by
   rw [HSA.out,List.map_append,List.any_append,HNX.out,HTT.out]
   refine⟨?_,by simp [← hev,Bool.or_assoc]⟩
   simp only [List.map_cons,List.map_nil,← hev])
  have hnb:nxt.length≤1000000000:=by rw [HNX.out,List.length_map,List.length_take];omega
  obtain⟨i0,hi0,hz0,hz1,hz2⟩:=info_parts Tryz.infoVl
  have hS:H.In wr.drew:=hTd.s.isin
  clear hlp hlast hqc hparts hev hev2 hq2 hq5 hmem hfx hpx hfit HSA hlen
  obtain rfl | rfl:kk=0∨kk=1:=by omega
  ·simp only [Nat.zero_add,Nat.add_zero] at hpv hq4
   have hwr:IntKind.wrap .i64 0=0:=by decide
   exact mTk4
  simp only [Nat.reduceAdd] at hpv hq4
  have hwr:IntKind.wrap .i64 1=1:=by decide
  exact mTk4
 obtain rfl:k=Zal p.terms:=by omega
 have hx:=HNX.out
 have ht:=HTT.out
 rw [← LM.out,List.take_length] at hx ht
 have HNX:=Zhd hx
 have HTM:=Zhd ht
 have htk:Zdg R (cdOf p ord) first mem inp=if t3=true then (trapT,[]) else (⟨(cdOf p ord).outs.map fun i=>now.getD i.toNat vz,a,false,cks⟩,nxt):=by
  unfold Zdg
  dsimp only
  have hX:nowM R first mem inp (cdOf p ord).fs (cdOf p ord).ord (List.replicate p.fl.length vz) false=(now,t):=HX.out
  rw [LF.out,hX]
  have hms:(cdOf p ord).ms=(Zah 0 p.terms).map Zft:=Zfn _ _
  unfold Zej
  dsimp only
  rw [hms,List.map_map,List.any_map,HTM.out,HTC.out,HTA.out,HA.out,HCK.out,HNX.out,List.map_map]
  rfl
 have HTK:=Zhd htk
 have g7:wr.cell? ⟨I,7,none⟩=some (.bool t3):=HT.out.s.c 7
 have g9:=HT.out.s.isin.cell C9.out
 clear htk HTT hx ht HNX HTM HTC HTA HA HCK HX hk hkl
 obtain⟨r0,r1,r2,r3,rf,_⟩:=Zj7 HT.out.s.res
 have rf0:=rf 0 (by decide)
 have rf1:=rf 1 (by decide)
 have rf2:=rf 2 (by decide)
 have rf3:=rf 3 (by decide)
 cases t3 with
 | true=>
  have htk:=HTK.out
  rw [if_pos rfl] at htk
  have HTK:=Zhd htk
  clear htk
  have hp4:=put4_heap HT.out.s.res (.slice none 0 0) (.bool false) (.bool true) (.slice none 0 0)
  obtain⟨e0,e1,e2,e3,_,_⟩:=Zj7 hp4
  unfold put4 at e0 e1 e2 e3
  have E0:=Zhd e0
  have E1:=Zhd e1
  have E2:=Zhd e2
  have E3:=Zhd e3
  clear e0 e1 e2 e3 hp4 rf
  go_wp2_with fail
  have e0:=E0.out
  have e1:=E1.out
  have e2:=E2.out
  have e3:=E3.out
  refine bodyPost_ret (v := .tuple #[.agg #[(.slice none 0 0),.bool false,.bool true,(.slice none 0 0)],(.slice none 0 0)]) (by simp [results,Tryz.results31,go_sem,e0,e1,e2,e3]) rfl ?_
  obtain⟨f1,f2,f3,f4⟩:=HT.out.fin (.slice none 0 0) (.bool false) (.bool true) (.slice none 0 0)
  refine⟨(.slice none 0 0),(.slice none 0 0),(.slice none 0 0),?_,⟨?_,?_⟩,?_,f1⟩
  all_goals rw [HTK.out]
  ·rfl
  ·exact .inl ⟨rfl,_,_,rfl⟩
  ·exact .inl ⟨rfl,_,_,rfl⟩
  exact .inl ⟨rfl,_,_,rfl⟩
 | false=>
  have htk:=HTK.out
  rw [if_neg (by decide)] at htk
  have HTK:=Zhd htk
  clear htk r0 r1 r2 r3 rf rf0 rf1 rf2 rf3
  go_wp2_with fail
  clear g7 g9
  go_loopw [141] (fun i wr=>∃ (k:Nat) (ov:Value) (outs:List Vl),i = .int .i64 k∧k≤p.outs.length∧TkT 166 137 88 4 R ⟨first,mem,inp,now⟩ H w wr I NW (w.heap.size+1) (ptrV B) (.slice am mem.length cm) (.slice an inp.length cn) p.fl.length false TB base a ov outs cv cks (.slice anx nxt.length cnx) nxt∧outs=((cdOf p ord).outs.take k).map fun i=>now.getD i.toNat vz) (fun i _=>p.outs.length - (intOf i).toNat)
  case atStart=>exact⟨0,_,_,rfl,Nat.zero_le _,HT.out,by simp⟩
  clear HT
  obtain⟨k,ov,outs,rfl,hk,hT,ho⟩:=hrel
  have HT:=Zhd hT
  have HO:=Zhd ho
  clear hT ho
  by_cases hkl:k<p.outs.length
  ·have hkf:k<(cdOf p ord).outs.length:=by rw [LO.out];exact hkl
   obtain⟨b,off,haf,_,hq1⟩:=SlV.at H9.out hkf
   have hq1:H.cell b (off+k * 1+0)=some (.int .i64 (cdOf p ord).outs[k]):=hq1
   simp only [Nat.mul_one,Nat.add_zero] at hq1
   have hmem:=HOUT.out _ (List.getElem_mem hkf)
   have HSA:=Zhd (show (cdOf p ord).outs.take (k+1)=(cdOf p ord).outs.take k++[(cdOf p ord).outs[k]] from List.take_succ_eq_append_getElem hkf)
   generalize (cdOf p ord).outs[k]=y at *
   obtain⟨hy0,hyn⟩:=hmem
   obtain⟨j,rfl⟩:∃ j:Nat,y=(j:Int):=⟨y.toNat,by omega⟩
   have hjn:j<p.fl.length:=by simpa using hyn
   have hjI:(j:Int)<p.fl.length:=by omega
   have c0:=HT.out.s.isin.cell hq1
   subst haf
   have hTd:=HT.out.next (Below.refl wr.heap.size wr).drew
   obtain⟨n0,n1⟩:=hTd.s.nc hjn
   have HST:=Zhd (show outs++[now.getD j vz]=((cdOf p ord).outs.take (k+1)).map fun i=>now.getD i.toNat vz from by
    rw [HSA.out,List.map_append,HO.out];rfl)
   have hob:outs.length≤1000000000:=by rw [HO.out,List.length_map,List.length_take];omega
   dsimp only at n0 n1
   generalize now.getD j vz=x0 at *
   obtain⟨xk,xn⟩:=x0
   dsimp only at n0 n1
   have y0:wr.drew.cell? ⟨TB,0,none⟩=some ov:=hTd.c 0
   have y0b:∀ o,(wr.alloc o).drew.cell? ⟨TB,0,none⟩=some ov:=fun o=>((HT.out.alloc o).next (Below.refl _ _).drew).c 0
   have y6:wr.drew.cell? ⟨I,6,none⟩=some (.slice (some ⟨NW,0,none⟩) p.fl.length p.fl.length):=hTd.s.c 6
   have HTD:=Zhd hTd
   obtain⟨aov,cov,hov,_⟩:=Zau HT.out.ro
   obtain⟨i0,hi0,hz0,hz1,hz2⟩:=info_parts Tryz.infoVl
   clear HSA hTd hq1 hy0 hyn hov
   go_wp2_with fail
   go_region_law (first | (refine step_append_lies _ (by rfl) _ _ _ (by rfl) base 137 i0 _ 2 16 Tryz.underlying51 hi0 hz0 hz1 hz2 rfl (by omega) ov outs.length (vlX outs) (by rfl) (TkT.ro (TkT.alloc HTD.out _)) ⟨_,0,none⟩ 1 1 [.int .i64 xk,.int .i64 xn] (by rfl) (by rfl) (by exact World.news_of_block (heap_alloc_new _ _)) (by simp [Value.oneCell']) (by omega) (by unfold maxLen;omega) (by omega) (TkT.low (TkT.alloc HTD.out _)) _ rfl ?_;intro gg cap' w3 hown hgrow hat hltg;obtain⟨hf1,hf2,hf3⟩:=TkT.appO (x:=⟨xk,xn⟩) (TkT.alloc HTD.out _) hown hgrow hat))
   all_goals generalize World.setCell _ _ _=W at hf3 ⊢
   all_goals go_wp2_with fail
   all_goals go_roundw
   all_goals first | (simp [intOf];omega;done) | exact⟨k+1,_,_,by go_num,by omega,hf3,HST.out⟩ | ((repeat apply Exists.intro);refine⟨?_,rfl⟩;exact⟨k+1,_,_,by go_num,by omega,hf3,HST.out⟩)
  obtain rfl:k=p.outs.length:=by omega
  have ho:=HO.out
  rw [← LO.out,List.take_length] at ho
  have HO:=Zhd ho
  obtain⟨aov,cov,hov,_⟩:=Zau HT.out.ro
  obtain⟨acv,ccv,hcv,_⟩:=Zau HT.out.rc
  subst hov hcv
  have t0:wr.cell? ⟨TB,0,none⟩=some (.slice aov outs.length cov):=HT.out.c 0
  have t1:wr.cell? ⟨TB,1,none⟩=some (.bool a):=HT.out.c 1
  have t2:wr.cell? ⟨TB,2,none⟩=some (.bool false):=HT.out.c 2
  have t3:wr.cell? ⟨TB,3,none⟩=some (.slice acv cks.length ccv):=HT.out.c 3
  obtain⟨r0,r1,r2,r3,rf,_⟩:=Zj7 HT.out.s.res
  have rf0:=rf 0 (by decide)
  have rf1:=rf 1 (by decide)
  have rf2:=rf 2 (by decide)
  have rf3:=rf 3 (by decide)
  have hp4:=put4_heap HT.out.s.res (.slice aov outs.length cov) (.bool a) (.bool false) (.slice acv cks.length ccv)
  obtain⟨e0,e1,e2,e3,_,_⟩:=Zj7 hp4
  unfold put4 at e0 e1 e2 e3
  have E0:=Zhd e0
  have E1:=Zhd e1
  have E2:=Zhd e2
  have E3:=Zhd e3
  clear e0 e1 e2 e3 hp4 rf ho hk hkl
  go_wp2_with fail
  have e0:=E0.out
  have e1:=E1.out
  have e2:=E2.out
  have e3:=E3.out
  refine bodyPost_ret (v := .tuple #[.agg #[(.slice aov outs.length cov),.bool a,.bool false,(.slice acv cks.length ccv)],.slice anx nxt.length cnx]) (by simp [results,Tryz.results31,go_sem,e0,e1,e2,e3]) rfl ?_
  obtain⟨f1,f2,f3,f4⟩:=HT.out.fin (.slice aov outs.length cov) (.bool a) (.bool false) (.slice acv cks.length ccv)
  refine⟨(.slice aov outs.length cov),(.slice acv cks.length ccv),.slice anx nxt.length cnx,?_,⟨?_,?_⟩,?_,f1⟩
  all_goals rw [HTK.out]
  ·rw [← HO.out];exact f2
  ·exact f3
  exact f4
end Go.Proofs.YtofameafdnkijaaGreatDoor
