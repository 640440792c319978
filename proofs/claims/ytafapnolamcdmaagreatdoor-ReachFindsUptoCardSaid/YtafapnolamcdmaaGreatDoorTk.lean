/- Walks: flow.Code.Tick. -/
import Derived.Test.YtafapnolamcdmaaGreatDoorTkM
set_option linter.all false
namespace Go.Proofs.YtafapnolamcdmaaGreatDoor
set_option maxRecDepth 100000
set_option maxHeartbeats 16000000
open Go.RowKit Mx
theorem mTk4{p:Prop}(h:p:=by
 go_wp2_with fail;refine Zae (λw'=>H.In w') (λ_=>True) 99 (by kernel_rfl) ?_;refine tk2 (i:=0) (v:=?_) rfl hS Ztr ?hy ?_
 case hy=>exact mTk3
 refine Zst ?_;refine Go.w3 1 ?_
 iterate 13 ((first|(refine tk3 (v:=?_) rfl hS Ztr ?hy ?_;(case hy=>intro w Hi;obtain⟨z0,z1⟩:=Hi.c2 hpv hq4;go_simp<;>with_reducible rfl))|refine sk3 rfl hS Ztr ?_|refine no3 ?_);refine Zss ?_)
 refine Go.w3e ?_;refine Zwo 14 rfl λK_ hK=>?_;go_simp;go_at_call 74;refine Hf.mono ?_;rintro ret w5 ⟨hr,hg5,hi5⟩;dsimp only[vlV] at hr;subst hr;have hT5:=yK.evald hg5 hi5;have hT6:=hT5.alloc (.cells #[.int .i64 xk,.int .i64 xn] 101);refine hK.out _ _ (hT5.s.isin) Ztr ?_;clear hK K_
 try simp only[tkS]
 refine Zwo 15 rfl λK_ hK=>?_;go_simp;refine hK.out _ _ (hT6.s.isin) Ztr ?_;clear hK K_
 try simp only[tkS]
 refine Zwo 16 rfl λK_ hK=>?_;refine step_append_lies _ (by rfl) _ _ _ (by rfl) base 101 i0 _ 2 16 Tryz.underlying31 JI Jt J6 Ju rfl (by omega) (.slice anx jl.length cnx) jl.length (vlX jl) (by rfl) hT6.rn ⟨_,0,none⟩ 1 1 [.int .i64 xk,.int .i64 xn] (by rfl) (by rfl) (by exact World.news_of_block (heap_alloc_new _ _)) (by simp[Value.oneCell']) (by omega) (by unfold maxLen;omega) (by omega) hT6.low _ rfl ?_;intro gg Hh w3 Hb Hj hJ jT;have hT7:=hT6.appN (x:=⟨xk,xn⟩) Hb Hj hJ;refine hK.out _ _ (hT7.s.isin) Ztr ?_;clear hK K_
 try simp only[tkS]
 refine tk2 (i:=17) (v:=?_) rfl hT7.s.isin Ztr ?hy ?_
 case hy=>exact mTk3
 try simp only[tkS]
 refine Zwd ?_;have HT7:=Zhd hT7;clear hT7;go_wp2_with fail;go_roundw
 case rel=>exact⟨k+1,_,_,by go_num,by omega,HT7.out,Jz.out⟩
 simp[intOf];omega):p:=h
theorem mTk3{p:Prop}(h:p:=by
 intro w Hi;obtain⟨z0,z1⟩:=Hi.c2 hpv hq4;first|(go_simp;done)|(go_simp;with_reducible rfl)):p:=h
theorem mTk2{p:Prop}(h:p:=by
 intro w Hi;obtain⟨z0,z1,z2⟩:=Hi.c3 j0 j1 j6;first|(go_simp;done)|(go_simp;with_reducible rfl)):p:=h
theorem mTk1{p:Prop}(h:p:=by
 intro w Hi;have z0:=Hi.2;have z1:=Hi.1.cell C6.out;have z2:=Hi.1.cell JE;first|(go_simp;done)|(go_simp;with_reducible rfl)):p:=h
theorem run_fieldN(a b:Int)(w:World):Sem.run Tryz.prog (Instr.field 101 (.agg #[.int .i64 a,.int .i64 b]) 1) w=.ok (.int .i64 b) w:=by
 simp[Instr.field,run_underlying Tryz.underlying101,part,asAgg,Result.andThen]
theorem tk_eval{DT:TypeId}{R:REnv}{r:Inst}{H:Kn}{w0 wr:World}{I NW RC:Nat}{cp vm vi:Value}{n:Nat}{t:Bool}(h:TkS 172 101 DT R r H w0 wr I NW RC cp vm vi n t)(hvm:VlsV H r.mem vm)(hvi:VlsV H r.inp vi)(hz:r.mem.length<=1000000000/\r.inp.length<=1000000000)
  (jy:∀s,(R.ks s).isSome=true->(R.nm s<0->(-1 - R.nm s).toNat<r.inp.length)/\(0<=R.nm s->(R.nm s).toNat<n)) {e:Ex} {m q:Nat} (hnd:NdAt 168 R H e m q) (hf:Zad R.ks e=true) (hp:e.parts<=1000000000) (kC:m+memN e<=r.mem.length):
  Calls Tryz.prog 74 #[.pointer (some ⟨I,0,none⟩),.pointer (some ⟨q,0,none⟩)] wr (ValPost R r I cp vm vi (.slice (some ⟨NW,0,none⟩) n n) t wr (Za6 R r m e)):=by
 obtain⟨k1,k2⟩:=h.kn;have hl:=h.len;have hn:=h.hn;exact eval_any R r I cp vm vi _ ⟨hz.1,hz.2,by omega⟩ e hf hp (noKn I wr) m q (NdAt.le k1 _ _ _ hnd) (SlV.le hvm k1 VlC.mono) (SlV.le hvi k1 VlC.mono) k2 wr t (Zgh I wr) (Zfb I wr) h.inst (evOk_of (λs hs=>by rw[hl];exact jy s hs) e hf m kC)
theorem tick_any(R:REnv)(H:Kn)(p:Pr)(ord:List Nat)(B:Nat)(hC:CodeAt 168 126 R H p ord B)(hf:∀e∈p.terms,Zad R.ks e=true)(hp:∀e∈p.terms,e.parts<=1000000000)
  (jy:∀s,(R.ks s).isSome=true->(R.nm s<0->(-1 - R.nm s).toNat<p.ins.length)/\(0<=R.nm s->(R.nm s).toNat<p.fl.length)) (qe:∀k∈ord,k<p.fl.length) (Hn:∀i∈(cdOf p ord).outs,0<=i/\i.toNat<p.fl.length)
  (J5:ord.length<=1000000/\p.fl.length<=1000000/\p.as.length<=1000000/\p.cs.length<=1000000/\p.outs.length<=1000000000/\Zag p.terms<=1000000000/\p.ins.length<=1000000) (zr:Ex.partsL p.terms<=1000000000)
  (first:Bool) (mem inp:List Vl) (vm vi:Value) (hm:VlsV H mem vm) (hi:VlsV H inp vi) (JO:mem.length=Zag p.terms) (JN:inp.length=p.ins.length) (w:World) (hH:H.In w):
  Calls Tryz.prog 49 #[.pointer (some ⟨B,0,none⟩),.agg #[.bool R.nb,.int .i64 R.ni],.bool first,vm,vi] w λret w'=>∃ov cv u,ret=.returned (.tuple #[.agg #[ov,.bool (Zb7 R (cdOf p ord) first mem inp).1.asrt,.bool (Zb7 R (cdOf p ord) first mem inp).1.trap,cv],u])/\
   TkV (Zb3 w.heap.size w') (Zb7 R (cdOf p ord) first mem inp).1 ov cv/\VlsV (Zb3 w.heap.size w') (Zb7 R (cdOf p ord) first mem inp).2 u/\Ybw w w':=by
 obtain⟨z1,z2,z3,z4,z5,z6,z7⟩:=J5;obtain⟨cs,vI,vo,vf,va,vc,vu,vM,kK,⟨e0,h0⟩,⟨e5,h5⟩,⟨e6,h6⟩,⟨e7,h7⟩,⟨e8,h8⟩,⟨e9,h9⟩,⟨js,jv⟩⟩:=hC.ex;obtain⟨ao,co,af,cf,aa,ca,ac,cc,au,cu,rfl,rfl,rfl,rfl,rfl⟩:=Ypo h5.len h6.len h7.len h8.len h9.len;obtain⟨aM,cM,rfl⟩:=jv.len;have jY:(cdOf p ord).fs.length=p.fl.length:=by show(Za4 0 _).length=_;rw[Zb8,List.length_map]
 have yt:(cdOf p ord).av.length=p.as.length:=Zb8 _ _;have hcl:(cdOf p ord).cv.length=p.cs.length:=Zb8 _ _;have gT:(cdOf p ord).outs.length=p.outs.length:=List.length_map _;have zi:(Zab 0 p.terms).length=Zag p.terms:=Zaw _ _;have c5:H.cell B 5=some (.slice ao ord.length co):=by unfold Kn.cell;rw[kK];exact e5
 have c6:H.cell B 6=some (.slice af p.fl.length cf):=by unfold Kn.cell;rw[kK,<- jY];exact e6
 have c7:H.cell B 7=some (.slice aa p.as.length ca):=by unfold Kn.cell;rw[kK,<- yt];exact e7
 have c8:H.cell B 8=some (.slice ac p.cs.length cc):=by unfold Kn.cell;rw[kK,<- hcl];exact e8
 have c9:H.cell B 9=some (.slice au p.outs.length cu):=by unfold Kn.cell;rw[kK,<- gT];exact e9
 have c10:H.cell B 10=some (.slice aM (Zag p.terms) cM):=by unfold Kn.cell;rw[kK,<- zi];exact js
 rw[jY] at h6;rw[yt] at h7;rw[hcl] at h8;rw[gT] at h9;rw[zi] at jv;have C5:=Zhd c5;have C6:=Zhd c6;have C7:=Zhd c7;have C8:=Zhd c8;have C9:=Zhd c9;have C10:=Zhd c10;have H5:=Zhd h5;have H6:=Zhd h6;have H7:=Zhd h7;have H8:=Zhd h8;have H9:=Zhd h9;have H10:=Zhd jv;have LF:=Zhd jY;have LA:=Zhd yt;have LC:=Zhd hcl;have LO:=Zhd gT;have LM:=Zhd zi;obtain⟨am,cm,rfl⟩:=hm.len;obtain⟨an,cn,rfl⟩:=hi.len;have HML:=Zhd JO;have HIL:=Zhd JN;have HMV:=Zhd hm;have HIV:=Zhd hi;have zj:=hH.lt kK;clear kK e0 h0 e5 h5 e6 h6 e7 h7 e8 h8 e9 h9 js jv jY yt hcl gT zi JO JN c5 c7 c8 c9 c10 hm hi;have HMK:=Zhd (λw'=>run_make_vals (P:=Tryz.prog) 31 101 Tryz.underlying31 Tryz.infoVl p.fl.length (by omega) w');have Hg:Ybw w ((w.alloc (.cells #[.bool R.nb,.int .i64 R.ni] 68)).alloc (.cells #[Ys0,.bool false,.bool false,Ys0] 83)):=Yba.alloc (by simp) _;have g6:=(hH.below Hg).cell c6;go_enter Tryz.func49,Tryz.ntmps49;go_upto_region 1 with fail
 clear g6 c6;go_cut[12] from 25 to 37 (λs12 wx=>∃I NW:Nat,s12=ptrV I/\TkS 172 101 83 R ⟨first,mem,inp,List.replicate p.fl.length vz⟩ H w wx I NW (w.heap.size+1) (ptrV B) (.slice am mem.length cm) (.slice an inp.length cn) p.fl.length false)
 case first=>
  have zh:((w.alloc (.cells #[.bool R.nb,.int .i64 R.ni] 68)).alloc (.cells #[Ys0,.bool false,.bool false,Ys0] 83)).heap[w.heap.size]?=some (.cells #[.bool R.nb,.int .i64 R.ni] 68 (0,0)):=by rw[Below.heap_alloc _ _ _ (by simp)];exact heap_alloc_new _ _
  have Jr:((w.alloc (.cells #[.bool R.nb,.int .i64 R.ni] 68)).alloc (.cells #[Ys0,.bool false,.bool false,Ys0] 83)).heap[w.heap.size+1]?=some (.cells #[Ys0,.bool false,.bool false,Ys0] 83 (0,0)):=by
   have:=heap_alloc_new (w.alloc (.cells #[.bool R.nb,.int .i64 R.ni] 68)) (.cells #[Ys0,.bool false,.bool false,Ys0] 83);simpa using this
  have qT:((w.alloc (.cells #[.bool R.nb,.int .i64 R.ni] 68)).alloc (.cells #[Ys0,.bool false,.bool false,Ys0] 83)).heap.size=w.heap.size+2:=by simp
  have vL:=hH.below Hg;refine Zae (λw'=>(Zan ((w.alloc (.cells #[.bool R.nb,.int .i64 R.ni] 68)).alloc (.cells #[Ys0,.bool false,.bool false,Ys0] 83))).In w') (λ_=>True) 99 (by kernel_rfl) ?_;generalize hW0:((w.alloc (.cells #[.bool R.nb,.int .i64 R.ni] 68)).alloc (.cells #[Ys0,.bool false,.bool false,Ys0] 83))=W0 at *;clear hW0;have hS:(Zan W0).In W0.drew:=(Za9 W0).below (Below.refl _ _).drew;have j0:(Zan W0).cell w.heap.size 0=some (.bool R.nb):=by rw[Zaj];simp[World.cell?,zh]
  have j1:(Zan W0).cell w.heap.size 1=some (.int .i64 R.ni):=by rw[Zaj];simp[World.cell?,zh]
  have j6:(Zan W0).cell B 6=some (.slice af p.fl.length cf):=by rw[Zaj];exact vL.cell C6.out
  have zt:=HMK.out;refine tk2 (i:=0) (v:=?_) rfl hS Ztr ?hy ?_
  case hy=>exact mTk2
  refine Zst ?_;refine Go.w3 1 ?_
  iterate 9 ((first|(refine tk3 (v:=?_) rfl hS Ztr ?hy ?_;(case hy=>intro w Hi;obtain⟨z0,z1,z2⟩:=Hi.c3 j0 j1 j6;go_simp<;>with_reducible rfl))|refine sk3 rfl hS Ztr ?_|refine no3 ?_);refine Zss ?_)
  refine Go.w3e ?_;refine Zwo 10 rfl λK_ hK=>?_;go_simp;refine hK.out _ _ (hS.alloc _) Ztr ?_;clear hK K_
  try simp only[tkS]
  refine tk2 (i:=11) (v:=?_) rfl (hS.alloc _) Ztr ?hy ?_
  case hy=>exact mTk2
  try simp only[tkS]
  refine Zwo 12 rfl λK_ hK=>?_;go_simp;refine hK.out _ _ ((hS.alloc _).alloc _) Ztr ?_;clear hK K_
  try simp only[tkS]
  refine tk2 (i:=13) (v:=?_) rfl ((hS.alloc _).alloc _) Ztr ?hy ?_
  case hy=>exact mTk2
  try simp only[tkS]
  refine Zwd ?_;go_wp2_with fail;go_meet
  have hd:W0.drew.heap.size=w.heap.size+2:=qT;have Jt:=Hg.size;refine⟨w.heap.size+3,w.heap.size+2,rfl,(vL.alloc _).alloc _,((Hg.alloc Hg.size _).alloc (by simp;omega) _).drew,?_,?_,?_,List.length_replicate,by omega,⟨by omega,by omega,by omega,by omega,by omega,by omega⟩,hH⟩
  .have:=heap_alloc_new (W0.alloc (.cells (vlX (List.replicate p.fl.length vz)).toArray 101)) (.cells (Zcu (ptrV B) R ⟨first,mem,inp,List.replicate p.fl.length vz⟩ (.slice am mem.length cm) (.slice an inp.length cn) (.slice (some ⟨w.heap.size+2,0,none⟩) p.fl.length p.fl.length) false) 172);rw[show(W0.alloc (.cells (vlX (List.replicate p.fl.length vz)).toArray 101)).heap.size=w.heap.size+3 from by simp[qT]] at this;exact this
  .have:=heap_alloc_new W0 (.cells (vlX (List.replicate p.fl.length vz)).toArray 101);rw[qT] at this;exact(Below.heap_alloc (W0.alloc (.cells (vlX (List.replicate p.fl.length vz)).toArray 101)) _ (w.heap.size+2) (by simp[qT])).trans this
  have h1:=Below.heap_alloc W0 (.cells (vlX (List.replicate p.fl.length vz)).toArray 101) (w.heap.size+1) (by omega);exact(Below.heap_alloc (W0.alloc (.cells (vlX (List.replicate p.fl.length vz)).toArray 101)) _ (w.heap.size+1) (by simp[qT])).trans (h1.trans Jr)
 obtain⟨I,NW,rfl,hT⟩:=hcut;have HT:=Zhd hT;have HTERM:=Zhd (show ∀x,x∈(cdOf p ord).fs\/x∈(cdOf p ord).av\/x∈(cdOf p ord).cv->Zad R.ks x.1=true/\x.1.parts<=1000000000/\x.2+memN x.1<=mem.length from λx hx=>by
  obtain⟨h1,h2⟩:=cd_terms hx;exact⟨hf _ h1,hp _ h1,by rw[HML.out];exact h2⟩)
 have yO:=Zhd (show ∀s,(R.ks s).isSome=true->(R.nm s<0->(-1 - R.nm s).toNat<inp.length)/\(0<=R.nm s->(R.nm s).toNat<p.fl.length) from λs hs=>by rw[HIL.out];exact jy s hs);have xY:=Zhd (show mem.length<=1000000000/\inp.length<=1000000000 from by rw[HML.out,HIL.out];omega);have HORD:=Zhd qe;have JG:=Zhd Hn;have HF:=Zhd hf;have HPS:=Zhd zr;have HP:=Zhd hp;have g5:=hT.isin.cell C5.out;clear hT HMK jy qe Hn hf hp zr Hg;go_wp2_with fail;clear g5;go_loopw[43] (λi wr=>∃(k:Nat) (now:List Vl) (t:Bool),i=.int .i64 k/\k<=ord.length/\TkS 172 101 83 R ⟨first,mem,inp,now⟩ H w wr I NW (w.heap.size+1) (ptrV B) (.slice am mem.length cm) (.slice an inp.length cn) p.fl.length t/\nowM R first mem inp (cdOf p ord).fs (ord.drop k) now t=nowM R first mem inp (cdOf p ord).fs ord (List.replicate p.fl.length vz) false) (λi _=>ord.length - (intOf i).toNat)
 case atStart=>exact⟨0,_,_,rfl,Nat.zero_le _,HT.out,rfl⟩
 clear HT;obtain⟨k,now,t,rfl,hk,hT,hnow⟩:=hrel;have HT:=Zhd hT;have HNOW:=Zhd hnow;clear hT hnow;by_cases Hd:k<ord.length
 .obtain⟨b,off,rfl,_,c0⟩:=SlV.at H5.out Hd;have c0:H.cell b (off+k * 1+0)=some (natV ord[k]):=c0;simp only[Nat.mul_one,Nat.add_zero] at c0;have hjn:ord[k]<p.fl.length:=HORD.out _ (Ymm Hd);have HSTEP:=Zhd (show ∀(x:Ex×Nat),(cdOf p ord).fs[ord[k]]?=some x->nowM R first mem inp (cdOf p ord).fs (ord.drop k) now t=nowM R first mem inp (cdOf p ord).fs (ord.drop (k+1)) (now.set ord[k] (Za6 R ⟨first,mem,inp,now⟩ x.2 x.1).1) (t || (Za6 R ⟨first,mem,inp,now⟩ x.2 x.1).2) from λx hx=>by
   rw[List.drop_eq_getElem_cons Hd];simp only[nowM];have e:(cdOf p ord).fs.getD ord[k] (.mk ⟨#[]⟩ 0 ⟨#[]⟩ [],0)=x:=by simp[Ygg,hx]
   rw[e])
  generalize ord[k]=j at *;have hjf:j<(cdOf p ord).fs.length:=by rw[LF.out];exact hjn
  obtain⟨b6,off6,jE,_,q,JE,kY⟩:=SlV.at H6.out hjf;have JE:H.cell b6 (off6+j * 1+0)=some (ptrV q):=JE;simp only[Nat.mul_one,Nat.add_zero] at JE;have hj1:=List.getElem?_eq_getElem hjf;have Hl:=Ymm hjf;generalize (cdOf p ord).fs[j]=x at *;obtain⟨jD,Jy,kC⟩:=HTERM.out x (.inl Hl);have Hy:=HSTEP.out x hj1;have yK:=HT.out.next (Below.refl wr.heap.size wr).drew;have Hf:=tk_eval yK HMV.out HIV.out xY.out yO.out kY jD Jy kC;obtain⟨⟨⟨xk,xn⟩,xt⟩,zH⟩:∃v,v=Za6 R ⟨first,mem,inp,now⟩ x.2 x.1:=⟨_,rfl⟩;rw[<- zH] at Hf Hy;have Jz:=Zhd Hy;have c0:=HT.out.isin.cell c0;subst jE;clear hj1 zH Hy kY Hl jD Jy kC HSTEP;have hjI:(j:Int)<p.fl.length:=by omega
  have hS:(λw'=>H.In w'/\w'.cell? ⟨I,6,none⟩=some (.slice (some ⟨NW,0,none⟩) p.fl.length p.fl.length)) wr.drew:=⟨yK.isin,yK.c 6⟩;go_wp2_with fail;refine Zae (λw'=>H.In w'/\w'.cell? ⟨I,6,none⟩=some (.slice (some ⟨NW,0,none⟩) p.fl.length p.fl.length)) (λ_=>True) 99 (by kernel_rfl) ?_;refine tk2 (i:=0) (v:=?_) rfl hS Ztr ?hy ?_
  case hy=>exact mTk1
  refine Zst ?_;refine Go.w3 1 ?_
  iterate 12 ((first|(refine tk3 (v:=?_) rfl hS Ztr ?hy ?_;(case hy=>intro w Hi;have z0:=Hi.2;have z1:=Hi.1.cell C6.out;have z2:=Hi.1.cell JE;go_simp<;>with_reducible rfl))|refine sk3 rfl hS Ztr ?_|refine no3 ?_);refine Zss ?_)
  refine Go.w3e ?_;refine Zwo 13 rfl λK_ hK=>?_;go_simp;go_at_call 74;refine Hf.mono ?_;rintro ret w5 ⟨rfl,hg5,hi5⟩;have hT5:=yK.evald hg5 hi5;obtain⟨y0,y1,q0,q1,f0,f1,hT6⟩:=hT5.put hjn ⟨xk,xn⟩;have HT6:=Zhd hT6;clear hT6;have jr:H.In w5/\w5.cell? ⟨I,6,none⟩=some (.slice (some ⟨NW,0,none⟩) p.fl.length p.fl.length):=⟨hT5.isin,hT5.c 6⟩;refine hK.out _ _ (jr) Ztr ?_;clear hK K_
  try simp only
  refine tk2 (i:=14) (v:=?_) rfl jr Ztr ?hy ?_
  case hy=>exact mTk1
  try simp only[tkS]
  refine Zwo 15 rfl λK_ hK=>?_;go_simp;refine hK.out _ _ (⟨HT6.out.isin,HT6.out.c 6⟩) Ztr ?_;clear hK K_
  try simp only[tkS]
  refine Zwd ?_;go_wp2_with fail;go_roundw
  case rel=>exact⟨k+1,_,_,by go_num,by omega,HT6.out,by rw[<- Jz.out];exact HNOW.out⟩
  simp[intOf];omega
 obtain rfl:k=ord.length:=by omega
 have hT:=HT.out;have hX:nowM R first mem inp (cdOf p ord).fs ord (List.replicate p.fl.length vz) false=(now,t):=by
  have h:=HNOW.out;rw[List.drop_length] at h;exact h.symm
 have HX:=Zhd hX;have hTA:=hT.alloc (.cells #[Ys0,.bool true,.bool false,Ys0] 83);have g7:=hTA.isin.cell C7.out;have hTB:=heap_alloc_new wr (.cells #[Ys0,.bool true,.bool false,Ys0] 83);have hsA:(wr.alloc (.cells #[Ys0,.bool true,.bool false,Ys0] 83)).heap.size=wr.heap.size+1:=by simp
 obtain⟨a1,a2,a3,a4,a5,a6⟩:=hT.apart;have l1:=(Zlt hT.inst);have l2:=(Zlt hT.now);have l3:=(Zlt hT.res);have HT:=Zhd (show TkT 172 101 83 4 R ⟨first,mem,inp,now⟩ H w (wr.alloc (.cells #[Ys0,.bool true,.bool false,Ys0] 83)) I NW (w.heap.size+1) (ptrV B) (.slice am mem.length cm) (.slice an inp.length cn) p.fl.length t wr.heap.size (wr.heap.size+1) true (Ys0) [] (Ys0) [] (Ys0) [] from
  ⟨hTA,hTB,World.ownsRow_nil _ _ _ _,World.ownsRow_nil _ _ _ _,World.ownsRow_nil _ _ _ _,λg hg=>by simp[Value.ownBlock] at hg,⟨by omega,by omega,by omega,by omega,by omega⟩,⟨by omega,by omega,by omega,by omega⟩,by decide⟩)
 clear hT hX hTA hTB hsA a1 a2 a3 a4 a5 a6 l1 l2 l3 HNOW hk Hd;go_wp2_with fail;clear g7;generalize hTBe:wr.heap.size=TB at *;generalize TB+1=base at *;generalize wr.alloc (.cells #[Ys0,.bool true,.bool false,Ys0] 83)=W1 at *;clear hTBe;go_loopw[69] (λi wr=>∃(k:Nat) (a:Bool) (t':Bool),i=.int .i64 k/\k<=p.as.length/\TkT 172 101 83 4 R ⟨first,mem,inp,now⟩ H w wr I NW (w.heap.size+1) (ptrV B) (.slice am mem.length cm) (.slice an inp.length cn) p.fl.length t' TB base a (Ys0) [] (Ys0) [] (Ys0) []/\a=(((cdOf p ord).av.take k).map λx=>(Za6 R ⟨first,mem,inp,now⟩ x.2 x.1).1).all (λv=>decide (v.n=1))/\t'=(t || ((cdOf p ord).av.take k).any λx=>(Za6 R ⟨first,mem,inp,now⟩ x.2 x.1).2)) (λi _=>p.as.length - (intOf i).toNat)
 case atStart=>exact⟨0,_,_,rfl,Nat.zero_le _,HT.out,by simp,by simp⟩
 clear HT;obtain⟨k,a,t',rfl,hk,hT,ha,ht⟩:=hrel;have HT:=Zhd hT;have HA:=Zhd ha;have yN:=Zhd ht;clear hT ha ht;by_cases Hd:k<p.as.length
 .have qJ:k<(cdOf p ord).av.length:=by rw[LA.out];exact Hd
  obtain⟨b,off,jE,_,q,JE,kY⟩:=SlV.at H7.out qJ;have JE:H.cell b (off+k * 1+0)=some (ptrV q):=JE;simp only[Nat.mul_one,Nat.add_zero] at JE;have Hl:=Ymm qJ;have HSA:=Zhd (show(cdOf p ord).av.take (k+1)=(cdOf p ord).av.take k++[(cdOf p ord).av[k]] from List.take_succ_eq_append_getElem qJ);generalize (cdOf p ord).av[k]=x at *;obtain⟨jD,Jy,kC⟩:=HTERM.out x (.inr <| .inl Hl);have c0:=HT.out.s.isin.cell JE;subst jE;have Hf:=tk_eval HT.out.s HMV.out HIV.out xY.out yO.out kY jD Jy kC;obtain⟨⟨⟨xk,xn⟩,xt⟩,zH⟩:∃v,v=Za6 R ⟨first,mem,inp,now⟩ x.2 x.1:=⟨_,rfl⟩;rw[<- zH] at Hf;have HEV:=Zhd zH;have hfld:=run_fieldN xk xn;clear zH kY Hl jD Jy kC;have Jz:=Zhd (show(a&&decide (xn=1))=(((cdOf p ord).av.take (k+1)).map λx=>(Za6 R ⟨first,mem,inp,now⟩ x.2 x.1).1).all (λv=>decide (v.n=1))/\(t' || xt)=(t || ((cdOf p ord).av.take (k+1)).any λx=>(Za6 R ⟨first,mem,inp,now⟩ x.2 x.1).2) from by
   rw[HSA.out,List.map_append,List.all_append,List.any_append,HA.out,yN.out];simp[<- HEV.out,Bool.or_assoc])
  clear HSA;by_cases jK:xn=1
  .subst jK;go_wp2_with(go_at_call 74;refine Hf.mono ?_;rintro ret w5 ⟨hr,hg5,hi5⟩;dsimp only[vlV] at hr;subst hr;have HT5:=Zhd (HT.out.evald hg5 hi5);have y1:=HT5.out.c 1;have yf:=HT5.out.f 1;simp only[List.getElem?_toArray,List.getElem?_cons_succ,List.getElem?_cons_zero] at y1);go_roundw
   case rel=>exact⟨k+1,_,_,by go_num,by omega,HT5.out.setA _,by have h:=Jz.out.1;simpa using h,Jz.out.2⟩
   simp[intOf];omega
  have qt:(xn==1)=false:=by simp[jK]
  go_wp2_with(go_at_call 74;refine Hf.mono ?_;rintro ret w5 ⟨hr,hg5,hi5⟩;dsimp only[vlV] at hr;subst hr;have HT5:=Zhd (HT.out.evald hg5 hi5);have y1:=HT5.out.c 1;have yf:=HT5.out.f 1;simp only[List.getElem?_toArray,List.getElem?_cons_succ,List.getElem?_cons_zero] at y1);go_roundw
  case rel=>exact⟨k+1,_,_,by go_num,by omega,HT5.out.setA _,by have h:=Jz.out.1;simpa[jK] using h,Jz.out.2⟩
  simp[intOf];omega
 obtain rfl:k=p.as.length:=by omega
 have ha:=HA.out;have ht:=yN.out;rw[<- LA.out,List.take_length] at ha ht;have HA:=Zhd ha;have HTA:=Zhd ht;have g8:=HT.out.s.isin.cell C8.out;clear yN ha ht hk Hd;go_wp2_with fail;clear g8;go_loopw[89] (λi wr=>∃(k:Nat) (t'':Bool) (cv:Value) (J8:List Bool),i=.int .i64 k/\k<=p.cs.length/\TkT 172 101 83 4 R ⟨first,mem,inp,now⟩ H w wr I NW (w.heap.size+1) (ptrV B) (.slice am mem.length cm) (.slice an inp.length cn) p.fl.length t'' TB base a (Ys0) [] cv J8 (Ys0) []/\J8=((cdOf p ord).cv.take k).map (λx=>decide ((Za6 R ⟨first,mem,inp,now⟩ x.2 x.1).1.n=1))/\t''=(t' || ((cdOf p ord).cv.take k).any λx=>(Za6 R ⟨first,mem,inp,now⟩ x.2 x.1).2)) (λi _=>p.cs.length - (intOf i).toNat)
 case atStart=>exact⟨0,_,_,_,rfl,Nat.zero_le _,HT.out,by simp,by simp⟩
 clear HT;obtain⟨k,t'',cv,J8,rfl,hk,hT,hc,ht⟩:=hrel;have HT:=Zhd hT;have yQ:=Zhd hc;have yN:=Zhd ht;clear hT hc ht;by_cases Hd:k<p.cs.length
 .have qJ:k<(cdOf p ord).cv.length:=by rw[LC.out];exact Hd
  obtain⟨b,off,jE,_,q,JE,kY⟩:=SlV.at H8.out qJ;have JE:H.cell b (off+k * 1+0)=some (ptrV q):=JE;simp only[Nat.mul_one,Nat.add_zero] at JE;have Hl:=Ymm qJ;have HSA:=Zhd (show(cdOf p ord).cv.take (k+1)=(cdOf p ord).cv.take k++[(cdOf p ord).cv[k]] from List.take_succ_eq_append_getElem qJ);generalize (cdOf p ord).cv[k]=x at *;obtain⟨jD,Jy,kC⟩:=HTERM.out x (.inr <| .inr Hl);have c0:=HT.out.s.isin.cell JE;subst jE;have yK:=HT.out.next (Below.refl wr.heap.size wr).drew;have Hf:=tk_eval yK.s HMV.out HIV.out xY.out yO.out kY jD Jy kC;obtain⟨⟨⟨xk,xn⟩,xt⟩,zH⟩:∃v,v=Za6 R ⟨first,mem,inp,now⟩ x.2 x.1:=⟨_,rfl⟩;rw[<- zH] at Hf;have HEV:=Zhd zH;have hfld:=run_fieldN xk xn;clear zH kY Hl jD Jy kC;have Jz:=Zhd (show J8++[xn==1]=((cdOf p ord).cv.take (k+1)).map (λx=>decide ((Za6 R ⟨first,mem,inp,now⟩ x.2 x.1).1.n=1))/\(t'' || xt)=(t' || ((cdOf p ord).cv.take (k+1)).any λx=>(Za6 R ⟨first,mem,inp,now⟩ x.2 x.1).2) from by
   rw[HSA.out,List.map_append,List.any_append,yQ.out,yN.out];refine⟨?_,by simp[<- HEV.out,Bool.or_assoc]⟩
   congr 1
   simp only[List.map_cons,List.map_nil,<- HEV.out];by_cases h:xn=1<;>simp[h])
  have kK:J8.length<=1000000:=by rw[yQ.out,List.length_map,List.length_take];omega
  have y0:wr.drew.cell? ⟨TB,3,none⟩=some cv:=yK.c 3;obtain⟨i0,JI,Jt,J6,Ju⟩:=info_parts Tryz.infoBool;clear HSA;go_wp2_with fail;go_region_law (first|(go_simp;go_at_call 74;refine Hf.mono ?_;rintro ret w5 ⟨hr,hg5,hi5⟩;dsimp only[vlV] at hr;subst hr;have hT5:=yK.evald hg5 hi5;have y1:w5.cell? ⟨TB,3,none⟩=some cv:=hT5.c 3;have y2:∀o,(w5.alloc o).cell? ⟨TB,3,none⟩=some cv:=λo=>(hT5.alloc o).c 3)|(refine step_append_lies _ (by rfl) _ _ _ (by rfl) base 4 i0 _ 1 1 Tryz.underlying81 JI Jt J6 Ju rfl (by omega) cv J8.length (J8.map .bool) (by rfl) (TkT.rc (TkT.alloc (by assumption) _)) ⟨_,0,none⟩ 1 1 [.bool (xn==1)] (by rfl) (by rfl) (by exact World.news_of_block (heap_alloc_new _ _)) (by simp[Value.oneCell']) (by omega) (by unfold maxLen;omega) (by omega) (TkT.low (TkT.alloc (by assumption) _)) _ rfl ?_;intro gg Hh w3 Hb Hj hJ jT;obtain⟨Q0,zd,jZ⟩:=TkT.appC (TkT.alloc (by assumption) _) Hb Hj))
  all_goals generalize World.setCell _ _ _=W at jZ ⊢
  all_goals go_wp2_with fail
  all_goals go_roundw
  all_goals first|(simp[intOf];omega;done)|exact⟨k+1,_,_,_,by go_num,by omega,jZ,Jz.out⟩|((repeat apply Exists.intro);refine⟨?_,rfl⟩;exact⟨k+1,_,_,_,by go_num,by omega,jZ,Jz.out⟩)
 obtain rfl:k=p.cs.length:=by omega
 have hc:=yQ.out;have ht:=yN.out;rw[<- LC.out,List.take_length] at hc ht;have yQ:=Zhd hc;have HTC:=Zhd ht;have g10:=HT.out.s.isin.cell C10.out;clear yN hc ht hk Hd;go_wp2_with fail;clear g10;go_loopw[20,109] (λs20 i wr=>∃(k:Nat) (t3:Bool) (jl:List Vl),i=.int .i64 k/\k<=Zag p.terms/\TkT 172 101 83 4 R ⟨first,mem,inp,now⟩ H w wr I NW (w.heap.size+1) (ptrV B) (.slice am mem.length cm) (.slice an inp.length cn) p.fl.length t3 TB base a (Ys0) [] cv J8 s20 jl/\jl=((Zab 0 p.terms).take k).map (λx=>(Za6 R ⟨first,mem,inp,now⟩ (Zdz x).2 (Zdz x).1).1)/\t3=(t'' || ((Zab 0 p.terms).take k).any λx=>(Za6 R ⟨first,mem,inp,now⟩ (Zdz x).2 (Zdz x).1).2)) (λ_ i _=>Zag p.terms - (intOf i).toNat)
 case atStart=>exact⟨0,_,_,rfl,Nat.zero_le _,HT.out,by simp,by simp⟩
 clear HT;obtain⟨k,t3,jl,rfl,hk,hT,hx,ht⟩:=hrel;have HT:=Zhd hT;have ge:=Zhd hx;have yN:=Zhd ht;clear hT hx ht;obtain⟨anx,cnx,zF,_⟩:=Zar HT.out.rn;subst zF;by_cases Hd:k<Zag p.terms
 .have qJ:k<(Zab 0 p.terms).length:=by rw[LM.out];exact Hd
  obtain⟨b,off,jE,_,q,JE,kY⟩:=SlV.at H10.out qJ;have JE:H.cell b (off+k * 1+0)=some (ptrV q):=JE;simp only[Nat.mul_one,Nat.add_zero] at JE;have Hl:=Ymm qJ;have HSA:=Zhd (show(Zab 0 p.terms).take (k+1)=(Zab 0 p.terms).take k++[(Zab 0 p.terms)[k]] from List.take_succ_eq_append_getElem qJ);generalize (Zab 0 p.terms)[k]=x at *;obtain⟨kk,qf,Ho,JM⟩:=ms_last HF.out Hl;obtain⟨hlp,jD,Jy,kC⟩:=JM (by omega);obtain⟨lv,pv,hqc,a,c,rfl,qd⟩:=kY.open;obtain⟨b2,qR,q2,haf2,hq4,hq5⟩:=qd kk (by omega);have hpv:H.cell q 4=some (.slice a x.1.l.length c):=by unfold Kn.cell;rw[hqc];rfl
  rw[Ho] at hpv;subst jE haf2;have c0:=HT.out.s.isin.cell JE;have yK:=HT.out.next (Below.refl wr.heap.size wr).drew;have Hf:=tk_eval yK.s HMV.out HIV.out xY.out yO.out hq5 jD (by have:=HPS.out;omega) (by rw[HML.out];exact kC);obtain⟨⟨⟨xk,xn⟩,xt⟩,zH⟩:∃v,v=(Za6 R ⟨first,mem,inp,now⟩ (Zdz x).2 (Zdz x).1):=⟨_,rfl⟩;have hev2:=zH;rw[hlp] at hev2;rw[<- hev2] at Hf;have Jz:=Zhd (show jl++[⟨xk,xn⟩]=((Zab 0 p.terms).take (k+1)).map (λx=>(Za6 R ⟨first,mem,inp,now⟩ (Zdz x).2 (Zdz x).1).1)/\(t3 || xt)=(t'' || ((Zab 0 p.terms).take (k+1)).any λx=>(Za6 R ⟨first,mem,inp,now⟩ (Zdz x).2 (Zdz x).1).2) from by
   rw[HSA.out,List.map_append,List.any_append,ge.out,yN.out];refine⟨?_,by simp[<- zH,Bool.or_assoc]⟩;simp only[List.map_cons,List.map_nil,<- zH])
  have qY:jl.length<=1000000000:=by rw[ge.out,List.length_map,List.length_take];omega
  obtain⟨i0,JI,Jt,J6,Ju⟩:=info_parts Tryz.infoVl;have hS:H.In wr.drew:=yK.s.isin;clear hlp JM hqc qd zH hev2 kY hq5 Hl jD Jy kC HSA Ho;obtain rfl|rfl:kk=0\/kk=1:=by omega
  .simp only[Nat.zero_add,Nat.add_zero] at hpv hq4;have qS:IntKind.wrap .i64 0=0:=by decide
   exact mTk4
  simp only[Nat.reduceAdd] at hpv hq4;have qS:IntKind.wrap .i64 1=1:=by decide
  exact mTk4
 obtain rfl:k=Zag p.terms:=by omega
 have hx:=ge.out;have ht:=yN.out;rw[<- LM.out,List.take_length] at hx ht;have ge:=Zhd hx;have HTM:=Zhd ht;have kB:Zb7 R (cdOf p ord) first mem inp=if t3=true then(trapT,[]) else(⟨(cdOf p ord).outs.map λi=>now.getD i.toNat vz,a,false,J8⟩,jl):=by
  unfold Zb7;dsimp only;have hX:nowM R first mem inp (cdOf p ord).fs (cdOf p ord).ord (List.replicate p.fl.length vz) false=(now,t):=HX.out;rw[LF.out,hX];have vy:(cdOf p ord).ms=(Zab 0 p.terms).map Zdz:=Zdf _ _;unfold Zdn;dsimp only;rw[vy,List.map_map,List.any_map,HTM.out,HTC.out,HTA.out,HA.out,yQ.out,ge.out,List.map_map];rfl
 have zZ:=Zhd kB;have g7:wr.cell? ⟨I,7,none⟩=some (.bool t3):=HT.out.s.c 7;have g9:=HT.out.s.isin.cell C9.out;clear kB yN hx ht ge HTM HTC HTA HA yQ HX hk Hd;obtain⟨r0,r1,r2,r3,rf,_⟩:=Zcd HT.out.s.res;have yT:=rf 0 (by decide);have yS:=rf 1 (by decide);have yR:=rf 2 (by decide);have rf3:=rf 3 (by decide);cases t3 with
 |true=>
  have kB:=zZ.out;rw[if_pos rfl] at kB;have zZ:=Zhd kB;clear kB;have yW:=Zd8 HT.out.s.res (Ys0) (.bool false) (.bool true) (Ys0);obtain⟨e0,e1,e2,e3,_,_⟩:=Zcd yW;unfold put4 at e0 e1 e2 e3;have E0:=Zhd e0;have E1:=Zhd e1;have E2:=Zhd e2;have E3:=Zhd e3;clear e0 e1 e2 e3 yW rf;go_wp2_with fail;have e0:=E0.out;have e1:=E1.out;have e2:=E2.out;have e3:=E3.out;refine bodyPost_ret (v:=.tuple #[.agg #[(Ys0),.bool false,.bool true,(Ys0)],(Ys0)]) (by simp[results,Tryz.results49,go_sem,e0,e1,e2,e3]) rfl ?_;obtain⟨f1,f2,f3,f4⟩:=HT.out.fin (Ys0) (.bool false) (.bool true) (Ys0);refine⟨(Ys0),(Ys0),(Ys0),?_,⟨?_,?_⟩,?_,f1⟩
  all_goals rw[zZ.out]
  .rfl
  .exact .inl ⟨rfl,_,_,rfl⟩
  .exact .inl ⟨rfl,_,_,rfl⟩
  exact .inl ⟨rfl,_,_,rfl⟩
 |false=>
  have kB:=zZ.out;rw[if_neg (by decide)] at kB;have zZ:=Zhd kB;clear kB r0 r1 r2 r3 rf yT yS yR rf3;go_wp2_with fail;clear g7 g9;go_loopw[141] (λi wr=>∃(k:Nat) (ov:Value) (outs:List Vl),i=.int .i64 k/\k<=p.outs.length/\TkT 172 101 83 4 R ⟨first,mem,inp,now⟩ H w wr I NW (w.heap.size+1) (ptrV B) (.slice am mem.length cm) (.slice an inp.length cn) p.fl.length false TB base a ov outs cv J8 (.slice anx jl.length cnx) jl/\outs=((cdOf p ord).outs.take k).map λi=>now.getD i.toNat vz) (λi _=>p.outs.length - (intOf i).toNat)
  case atStart=>exact⟨0,_,_,rfl,Nat.zero_le _,HT.out,by simp⟩
  clear HT;obtain⟨k,ov,outs,rfl,hk,hT,ho⟩:=hrel;have HT:=Zhd hT;have HO:=Zhd ho;clear hT ho;by_cases Hd:k<p.outs.length
  .have qJ:k<(cdOf p ord).outs.length:=by rw[LO.out];exact Hd
   obtain⟨b,off,jE,_,JE⟩:=SlV.at H9.out qJ;have JE:H.cell b (off+k * 1+0)=some (.int .i64 (cdOf p ord).outs[k]):=JE;simp only[Nat.mul_one,Nat.add_zero] at JE;have Hl:=JG.out _ (Ymm qJ);have HSA:=Zhd (show(cdOf p ord).outs.take (k+1)=(cdOf p ord).outs.take k++[(cdOf p ord).outs[k]] from List.take_succ_eq_append_getElem qJ);generalize (cdOf p ord).outs[k]=y at *;obtain⟨vp,hyn⟩:=Hl;obtain⟨j,rfl⟩:∃j:Nat,y=(j:Int):=⟨y.toNat,by omega⟩;have hjn:j<p.fl.length:=by simpa using hyn
   have hjI:(j:Int)<p.fl.length:=by omega
   have c0:=HT.out.s.isin.cell JE;subst jE;have yK:=HT.out.next (Below.refl wr.heap.size wr).drew;obtain⟨n0,n1⟩:=yK.s.nc hjn;have Jz:=Zhd (show outs++[now.getD j vz]=((cdOf p ord).outs.take (k+1)).map λi=>now.getD i.toNat vz from by
    rw[HSA.out,List.map_append,HO.out];rfl)
   have hob:outs.length<=1000000000:=by rw[HO.out,List.length_map,List.length_take];omega
   dsimp only at n0 n1;generalize now.getD j vz=x0 at *;obtain⟨xk,xn⟩:=x0;dsimp only at n0 n1;have y0:wr.drew.cell? ⟨TB,0,none⟩=some ov:=yK.c 0;have y0b:∀o,(wr.alloc o).drew.cell? ⟨TB,0,none⟩=some ov:=λo=>((HT.out.alloc o).next (Below.refl _ _).drew).c 0;have y6:wr.drew.cell? ⟨I,6,none⟩=some (.slice (some ⟨NW,0,none⟩) p.fl.length p.fl.length):=yK.s.c 6;have HTD:=Zhd yK;obtain⟨kz,ky,hov,_⟩:=Zar HT.out.ro;obtain⟨i0,JI,Jt,J6,Ju⟩:=info_parts Tryz.infoVl;clear HSA yK JE vp hyn hov;go_wp2_with fail;go_region_law (first|(refine step_append_lies _ (by rfl) _ _ _ (by rfl) base 101 i0 _ 2 16 Tryz.underlying31 JI Jt J6 Ju rfl (by omega) ov outs.length (vlX outs) (by rfl) (TkT.ro (TkT.alloc HTD.out _)) ⟨_,0,none⟩ 1 1 [.int .i64 xk,.int .i64 xn] (by rfl) (by rfl) (by exact World.news_of_block (heap_alloc_new _ _)) (by simp[Value.oneCell']) (by omega) (by unfold maxLen;omega) (by omega) (TkT.low (TkT.alloc HTD.out _)) _ rfl ?_;intro gg Hh w3 Hb Hj hJ jT;obtain⟨Q0,zd,jZ⟩:=TkT.appO (x:=⟨xk,xn⟩) (TkT.alloc HTD.out _) Hb Hj hJ))
   all_goals generalize World.setCell _ _ _=W at jZ ⊢
   all_goals go_wp2_with fail
   all_goals go_roundw
   all_goals first|(simp[intOf];omega;done)|exact⟨k+1,_,_,by go_num,by omega,jZ,Jz.out⟩|((repeat apply Exists.intro);refine⟨?_,rfl⟩;exact⟨k+1,_,_,by go_num,by omega,jZ,Jz.out⟩)
  obtain rfl:k=p.outs.length:=by omega
  have ho:=HO.out;rw[<- LO.out,List.take_length] at ho;have HO:=Zhd ho;obtain⟨kz,ky,hov,_⟩:=Zar HT.out.ro;obtain⟨kF,kE,hcv,_⟩:=Zar HT.out.rc;subst hov hcv;have t0:wr.cell? ⟨TB,0,none⟩=some (.slice kz outs.length ky):=HT.out.c 0;have t1:wr.cell? ⟨TB,1,none⟩=some (.bool a):=HT.out.c 1;have t2:wr.cell? ⟨TB,2,none⟩=some (.bool false):=HT.out.c 2;have t3:wr.cell? ⟨TB,3,none⟩=some (.slice kF J8.length kE):=HT.out.c 3;obtain⟨r0,r1,r2,r3,rf,_⟩:=Zcd HT.out.s.res;have yT:=rf 0 (by decide);have yS:=rf 1 (by decide);have yR:=rf 2 (by decide);have rf3:=rf 3 (by decide);have yW:=Zd8 HT.out.s.res (.slice kz outs.length ky) (.bool a) (.bool false) (.slice kF J8.length kE);obtain⟨e0,e1,e2,e3,_,_⟩:=Zcd yW;unfold put4 at e0 e1 e2 e3;have E0:=Zhd e0;have E1:=Zhd e1;have E2:=Zhd e2;have E3:=Zhd e3;clear e0 e1 e2 e3 yW rf ho hk Hd;go_wp2_with fail;have e0:=E0.out;have e1:=E1.out;have e2:=E2.out;have e3:=E3.out;refine bodyPost_ret (v:=.tuple #[.agg #[(.slice kz outs.length ky),.bool a,.bool false,(.slice kF J8.length kE)],.slice anx jl.length cnx]) (by simp[results,Tryz.results49,go_sem,e0,e1,e2,e3]) rfl ?_;obtain⟨f1,f2,f3,f4⟩:=HT.out.fin (.slice kz outs.length ky) (.bool a) (.bool false) (.slice kF J8.length kE);refine⟨(.slice kz outs.length ky),(.slice kF J8.length kE),.slice anx jl.length cnx,?_,⟨?_,?_⟩,?_,f1⟩
  all_goals rw[zZ.out]
  .rw [<- HO.out];exact f2
  .exact f3
  exact f4
end Go.Proofs.YtafapnolamcdmaaGreatDoor
