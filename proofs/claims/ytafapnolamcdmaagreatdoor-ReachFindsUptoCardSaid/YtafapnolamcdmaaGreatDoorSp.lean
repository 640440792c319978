/- Walks: package step: State, Load, Tick, New. (Printed by gen_sp.py.) -/
import Derived.Test.YtafapnolamcdmaaGreatDoorMc
set_option linter.all false
namespace Go.Proofs.YtafapnolamcdmaaGreatDoor
set_option maxRecDepth 100000
set_option maxHeartbeats 16000000
open Go.RowKit Mx
theorem mSp2{p:Prop}(h:p:=by
 have hT:=Zd8 gA (.slice kz xo.length ky) (.bool xa) (.bool xt) (.slice kF xc.length kE);have zY:=Zg5 JX hTW (.slice kz xo.length ky) (.bool xa) (.bool xt) (.slice kF xc.length kE);have hS7:KM.In (put4 w6 TB (.slice kz xo.length ky) (.bool xa) (.bool xt) (.slice kF xc.length kE)):=hS.below zY;unfold put4 at hT zY hS7;obtain⟨r0,r1,r2,r3,rf,hTl⟩:=Zcd gA;have yT:=rf 0 (by decide);have yS:=rf 1 (by decide);have yR:=rf 2 (by decide);have rf3:=rf 3 (by decide);refine Zwo 22 rfl λK_ hK=>?_;go_simp;refine hK.out _ _ (hS7) Ztr ?_;clear hK K_;refine Zst ?_;refine tk2 (i:=23) (v:=?_) rfl hS7 Ztr ?hy ?_
 case hy=>intro w Hi;obtain⟨z0,z1,z2,z3,z4⟩:=Hi.c5 k0 k1 k2 k3 k4;go_simp<;>with_reducible rfl
 refine Zst ?_;refine Zwd ?_;have hw7:=Jh.out.trans ((hbD.trans (zY.mono hbD.size)).mono Jh.out.size);have yr:=(zY.block M hMl2).trans Hu;have hR7:=(zY.block w.heap.size hRl2).trans hR;have vw:∀b,n5<=b->b<w5.heap.size->(put4 w6 TB (.slice kz xo.length ky) (.bool xa) (.bool xt) (.slice kF xc.length kE)).heap[b]?=w5.heap[b]?:=λb h1 h2=>by
  rw[Zg4 _ _ _ _ (Jk b h1 h2).1];exact(Jk b h1 h2).2
 unfold put4 at vw;have hs7:w6.heap.size<=((((w6.setCell ⟨TB,0,none⟩ (.slice kz xo.length ky)).setCell ⟨TB,1,none⟩ (.bool xa)).setCell ⟨TB,2,none⟩ (.bool xt)).setCell ⟨TB,3,none⟩ (.slice kF xc.length kE)).heap.size:=by simp
 generalize (((w6.setCell ⟨TB,0,none⟩ (.slice kz xo.length ky)).setCell ⟨TB,1,none⟩ (.bool xa)).setCell ⟨TB,2,none⟩ (.bool xt)).setCell ⟨TB,3,none⟩ (.slice kF xc.length kE)=W7 at *;clear gA JX hS7 jr r0 r1 r2 r3 rf yT yS yR rf3 hTl zY;have hTM:TB≠M:=by omega
 have hTR:TB≠w.heap.size:=by omega
 have hRM:w.heap.size≠M:=by omega
 have HK5:=Zhd hk5;have HM5:=Zhd xM;have HW7:=Zhd hw7;have yB:=Zhd (show ∀b,n5<=b->b<w5.heap.size->W7.heap[b]?=w5.heap[b]?/\w.heap.size<b/\b<W7.heap.size from λb h1 h2=>⟨vw b h1 h2,by omega,by omega⟩);unfold mcV at yr;clear hk5 xM hw7 vw Jk k0 k1 k2 k3 k4 Hu hR;obtain⟨⟨t0,t1,t2,t3,tf,_⟩,_⟩:=And.intro (Zcd hT) trivial;clear t0 t1 t3 tf;cases xt with
 |true=>
  have yq:=Zaa W7 M 5 (.bool true) _ _ _ yr;have hT8:(W7.setCell ⟨M,5,none⟩ (.bool true)).heap[TB]?=_:=(Below.heap_setCell W7 ⟨M,5,none⟩ _ _ hTM).trans hT;have hR8:(W7.setCell ⟨M,5,none⟩ (.bool true)).heap[w.heap.size]?=_:=(Below.heap_setCell W7 ⟨M,5,none⟩ _ _ hRM).trans hR7;have hG8:Gr2 W7 (W7.setCell ⟨M,5,none⟩ (.bool true)) M none:=(Gr2.refl _ _ _).setCell 5 _;obtain⟨b7,y7⟩:=Zes yr;have m5:=b7 5;have f5:=y7 5 (by simp);clear b7 y7;obtain⟨t0,t1,t2,t3,tf,_⟩:=Zcd hT8;obtain⟨r0,r1,r2,r3,rf,_⟩:=Zcd hR8;have yT:=rf 0 (by decide);have yS:=rf 1 (by decide);have yR:=rf 2 (by decide);have rf3:=rf 3 (by decide);have yW:=Zd8 hR8 (.slice kz xo.length ky) (.bool xa) (.bool true) (.slice kF xc.length kE);obtain⟨q1,q2,q3⟩:=gr_put HW7.out hG8 Qa (.slice kz xo.length ky) (.bool xa) (.bool true) (.slice kF xc.length kE);obtain⟨e0,e1,e2,e3,_,_⟩:=Zcd yW;unfold put4 at e0 e1 e2 e3 q1 q2 q3;have E0:=Zhd e0;have E1:=Zhd e1;have E2:=Zhd e2;have E3:=Zhd e3;have Q1:=Zhd q1;have Q2:=Zhd (q2.trans yq);have Q3:=Zhd q3;clear e0 e1 e2 e3 yW rf tf q1 q2 q3;go_wp2_with fail;have e0:=E0.out;have e1:=E1.out;have e2:=E2.out;have e3:=E3.out;refine bodyPost_ret (v:=.tuple #[.agg #[.slice kz xo.length ky,.bool xa,.bool true,.slice kF xc.length kE],.nilIface]) (by simp[results,Tryz.results24,go_sem,e0,e1,e2,e3]) rfl ?_;rw[HX.out];refine⟨_,_,_,rfl,Q1.out,HM.out.fin Q1.out (s':=⟨s.first,s.mem,true⟩) (vm':=.slice am s.mem.length cm) ?_ ?_ ?_,HK5.out.le (Zjj (by omega) λb h1 h2=>?_)⟩
  .exact Q2.out
  .exact SlV.le HM.out.mem (Zb6 HM.out.isin _) VlC.mono
  .exact HM.out.len
  obtain⟨g1,g2,g3⟩:=yB.out b h1 h2;rw[Q3.out b g2 g3];exact g1
 |false=>
  have yq:=Zaa W7 M 3 (.bool false) _ _ _ yr;have hT8:(W7.setCell ⟨M,3,none⟩ (.bool false)).heap[TB]?=_:=(Below.heap_setCell W7 ⟨M,3,none⟩ _ _ hTM).trans hT;have hR8:(W7.setCell ⟨M,3,none⟩ (.bool false)).heap[w.heap.size]?=_:=(Below.heap_setCell W7 ⟨M,3,none⟩ _ _ hRM).trans hR7;have hG8:Gr2 W7 (W7.setCell ⟨M,3,none⟩ (.bool false)) M none:=(Gr2.refl _ _ _).setCell 3 _;obtain⟨b7,y7⟩:=Zes yr;have m3:=b7 3;have f3:=y7 3 (by simp);obtain⟨b8,y8⟩:=Zes yq;have m4:=b8 4;have f4:=y8 4 (by simp);have yq:=Zaa _ M 4 (.slice a5 xm.length c5) _ _ _ yq;have hT8:((W7.setCell ⟨M,3,none⟩ (.bool false)).setCell ⟨M,4,none⟩ (.slice a5 xm.length c5)).heap[TB]?=_:=(Below.heap_setCell _ ⟨M,4,none⟩ _ _ hTM).trans hT8;have hR8:((W7.setCell ⟨M,3,none⟩ (.bool false)).setCell ⟨M,4,none⟩ (.slice a5 xm.length c5)).heap[w.heap.size]?=_:=(Below.heap_setCell _ ⟨M,4,none⟩ _ _ hRM).trans hR8;have hG8:Gr2 W7 ((W7.setCell ⟨M,3,none⟩ (.bool false)).setCell ⟨M,4,none⟩ (.slice a5 xm.length c5)) M none:=hG8.setCell 4 _;clear b7 y7 b8 y8;obtain⟨t0,t1,t2,t3,tf,_⟩:=Zcd hT8;obtain⟨r0,r1,r2,r3,rf,_⟩:=Zcd hR8;have yT:=rf 0 (by decide);have yS:=rf 1 (by decide);have yR:=rf 2 (by decide);have rf3:=rf 3 (by decide);have yW:=Zd8 hR8 (.slice kz xo.length ky) (.bool xa) (.bool false) (.slice kF xc.length kE);obtain⟨q1,q2,q3⟩:=gr_put HW7.out hG8 Qa (.slice kz xo.length ky) (.bool xa) (.bool false) (.slice kF xc.length kE);obtain⟨e0,e1,e2,e3,_,_⟩:=Zcd yW;unfold put4 at e0 e1 e2 e3 q1 q2 q3;have E0:=Zhd e0;have E1:=Zhd e1;have E2:=Zhd e2;have E3:=Zhd e3;have Q1:=Zhd q1;have Q2:=Zhd (q2.trans yq);have Q3:=Zhd q3;clear e0 e1 e2 e3 yW rf tf q1 q2 q3;go_wp2_with fail;have e0:=E0.out;have e1:=E1.out;have e2:=E2.out;have e3:=E3.out
  refine bodyPost_ret (v:=.tuple #[.agg #[.slice kz xo.length ky,.bool xa,.bool false,.slice kF xc.length kE],.nilIface]) (by simp[results,Tryz.results24,go_sem,e0,e1,e2,e3]) rfl ?_;rw[HX.out];refine⟨_,_,_,rfl,Q1.out,HM.out.fin Q1.out (s':=⟨false,xm,false⟩) (vm':=.slice a5 xm.length c5) ?_ ?_ ?_,HK5.out.le (Zjj (by omega) λb h1 h2=>?_)⟩
  .have q:=Q2.out;rw[xL] at q;exact q
  .exact SlV.le HM5.out (Kn.le_trans (Zjj (n:=w.heap.size) (by omega) λb h1 h2=>by
    obtain⟨g1,g2,g3⟩:=yB.out b h1 h2;rw[Q3.out b g2 g3];exact g1) (Zdk _ _ _)) VlC.mono
  .exact HNL.out trivial
  obtain⟨g1,g2,g3⟩:=yB.out b h1 h2;rw[Q3.out b g2 g3];exact g1):p:=h
theorem mSp1{p:Prop}(h:p:=by
 intro w Hi;obtain⟨z0,z1,z2,z3,z4⟩:=Hi.c5 k0 k1 k2 k3 k4;go_simp<;>with_reducible rfl):p:=h
theorem newKn_in(n:Nat)(w:World):(Zb3 n w).In w:=λb o e=>by
 unfold Zb3 at e
 split at e
 .cases e
 exact e
theorem new_le_join{K:Kn}{n n':Nat}{W W2:World}(hn:n<=n'){M:Nat}(hM:M<n)(g:Gr2 W2 W M none):(Zb3 n' W2).le (Zbt K n W):=λb o e=>by
 unfold Zb3 at e
 split at e
 .cases e
 rename_i hb
 unfold Zbt;rw[if_neg (by omega),g.block b (Zlt e) (by omega) (by simp)];exact e
theorem VlsV.dropOf{K:Kn}{l:List Vl}{b off n c:Nat}(h:VlsV K l (.slice (some ⟨b,off,none⟩) n c))(hl:1<=l.length):VlsV K (l.drop 1) (.slice (if c=1 then some ⟨b,off,none⟩ else some ⟨b,off+2,none⟩) (l.drop 1).length (c - 1)):=by
 rcases h with ⟨rfl,_⟩|⟨b2,qR,Ha,h1,h2,h3,h4⟩
 .simp at hl
 cases h1;by_cases hc:c=1
 .have:l.drop 1=[]:=List.eq_nil_of_length_eq_zero (by simp;omega);rw[this];exact .inl ⟨rfl,_,_,rfl⟩
 rw[if_neg hc];refine .inr ⟨b,off+2,c - 1,rfl,by simp;omega,by omega,λi hi=>?_⟩;have za:1+i<l.length:=by simp at hi;omega
 have:=h4 (1+i) za;rw[List.getElem_drop];have e:∀j,off+(1+i) * 2+j=off+2+i * 2+j:=λj=>by omega
 simp only[e] at this;exact this
theorem Zes{W:World}{b:Nat}{cs:Array Value}{t:TypeId}(h:W.heap[b]?=some (.cells cs t (0,0))):(∀i,W.cell? ⟨b,i,none⟩=cs[i]?)/\∀i,i<cs.size->W.frozen? ⟨b,i,none⟩=false:=
 ⟨λi=>by simp[World.cell?,h],λi _=>by simp[World.frozen?,h]⟩
theorem wsame{w w':World}{b o:Nat}{v:Value}(hS:∀(b o:Nat) (v:Value),w.cell? ⟨b,o,none⟩=some v->w'.cell? ⟨b,o,none⟩=some v)(h:w.cell? ⟨b,o,none⟩=some v):w'.cell? ⟨b,o,none⟩=some v:=hS _ _ _ h
theorem cell_lt{w:World}{b o:Nat}{v:Value}(h:w.cell? ⟨b,o,none⟩=some v):b<w.heap.size:=by
 unfold World.cell? at h;cases e:w.heap[b]? with
 |none=>simp[e] at h
 |some x=>exact(Zlt e)
theorem SlV.hidx{α:Type}{H:Kn}{k n c:Nat}{R:α->(Nat->Option Value)->Prop}{l:List α}{a:Option Addr}(h:SlV H k R l (.slice a n c))(hl:0<l.length):∃b off,a=some ⟨b,off,none⟩/\n=l.length/\l.length<=c:=by
 rcases h with ⟨rfl,_⟩|⟨b,off,Ha,h1,h2,h3,h4⟩
 .simp at hl
 cases h1;exact⟨b,off,rfl,rfl,h2⟩
theorem state_any{R:REnv}{p:Pr}{ord:List Nat}{K:Kn}{w:World}{M B:Nat}{s:Mc}{vm:Value}(h:McAt 70 168 126 R p ord K w M B s vm)(hz:s.mem.length<=100000000):
  Calls Tryz.prog 21 #[ptrV M] w λr w'=>∃v,r=.returned v/\VlsV (Zb3 w.heap.size w') (Zby s) v/\Ybw w w':=by
 obtain⟨am,cm,rfl⟩:=h.mem.len;have k3:(mcKn K 70 R M B s (.slice am s.mem.length cm)).cell M 3=some (.bool s.first):=Zeq 3;have k4:(mcKn K 70 R M B s (.slice am s.mem.length cm)).cell M 4=some (.slice am s.mem.length cm):=Zeq 4;have hS:(mcKn K 70 R M B s (.slice am s.mem.length cm)).In w.drew:=h.kn;have Hl:=SlV.le h.mem (mcKn_le (s:=s) (MT:=70) (R:=R) (B:=B) (vm:=.slice am s.mem.length cm) h.no) VlC.mono;have hbD:Ybw w w.drew:=(Below.refl _ _).drew;have hsm:Zby s=[tv s.first]++s.mem:=rfl;generalize (mcKn K 70 R M B s (.slice am s.mem.length cm))=KM at *;have yB:=Zhd hsm;clear hsm h;generalize Zby s=SL at *;obtain⟨first,mem,trapped⟩:=s;dsimp only at *;go_enter Tryz.func21,Tryz.ntmps21;go_wp2_with fail;refine Zae (λw'=>KM.In w') (λ_=>True) 99 (by kernel_rfl) ?_;refine Go.w3 0 ?_
 iterate 4 ((first|(refine tk3 (v:=?_) rfl hS Ztr ?hy ?_;(case hy=>intro w Hi;obtain⟨z0,z1⟩:=Hi.c2 k3 k4;go_simp<;>with_reducible rfl))|refine sk3 rfl hS Ztr ?_|refine no3 ?_);refine Zss ?_)
 refine Go.w3e ?_;refine Go.w3 6 ?_
 iterate 4 ((first|(refine tk3 (v:=?_) rfl hS Ztr ?hy ?_;(case hy=>intro w Hi;obtain⟨z0,z1⟩:=Hi.c2 k3 k4;go_simp<;>with_reducible rfl))|refine sk3 rfl hS Ztr ?_|refine no3 ?_);refine Zss ?_)
 refine Go.w3e ?_;refine Zwo 4 rfl λK_ hK=>?_;go_simp;go_at_call 44;refine(Zd5 _ _).mono ?_;rintro r5 w5 ⟨rfl,Jf⟩;have jr:=hS.below Jf;have Qz:=hbD.trans (Jf.mono hbD.size);obtain⟨xk,xn,hx⟩:∃xk xn,tv first=⟨xk,xn⟩:=⟨_,_,rfl⟩;rw[hx];rw[hx] at yB;refine hK.out _ _ (jr) Ztr ?_;clear hK K_;refine Zst ?_;refine Zwo 5 rfl λK_ hK=>?_;go_simp;refine hK.out _ _ ((jr.alloc _)) Ztr ?_;clear hK K_;refine Zst ?_;have JU:(w5.alloc (.cells #[.int .i64 xk,.int .i64 xn] 101)).ownsRow w5.heap.size 101 2 (.slice (some ⟨w5.heap.size,0,none⟩) 1 1) 1 [.int .i64 xk,.int .i64 xn]:=
  ⟨by simp,.inr ⟨w5.heap.size,1,#[.int .i64 xk,.int .i64 xn],rfl,Nat.le_refl _,heap_alloc_new w5 _,Nat.le_refl _,by unfold maxLen;omega,rfl,rfl⟩⟩
 obtain⟨v',w6,Ht,Hb,hg⟩:=run_app_vls (jr.alloc _) Hl JU (by simp) (by omega);have kM:Ybw w5 (w5.alloc (.cells #[.int .i64 xk,.int .i64 xn] 101)):=Yba;have JX:Ybw w5 w6:=kM.grown hg kM.size (λq hq=>(JU.lt q hq).1);have hS6:=jr.below JX;refine Zwo 10 rfl λK_ hK=>?_;refine step_append_run rfl 31 31 _ _ rfl _ _ rfl rfl _ _ Ht ?_;refine hK.out _ _ (hS6) Ztr ?_;clear hK K_;refine Zst ?_;refine tk2 (i:=11) (v:=?_) rfl hS6 Ztr ?hy ?_
 case hy=>intro w Hi;obtain⟨z0,z1⟩:=Hi.c2 k3 k4;go_simp<;>with_reducible rfl
 refine Zst ?_;refine Zwd ?_;go_wp2_with fail;go_ret;refine⟨_,rfl,?_,Qz.trans (JX.mono Qz.size)⟩;rw[yB.out];refine vls_row (T:=101) (base:=w5.heap.size) ?_ Qz.size;have e:([⟨xk,xn⟩]++mem:List Vl).length=1+mem.length:=by simp;omega
 rw[e];exact Hb
theorem load_any(sp:Nat->Addr){R:REnv}{p:Pr}{ord:List Nat}{K:Kn}{w:World}{M B:Nat}{s:Mc}{vm:Value}(h:McAt 70 168 126 R p ord K w M B s vm)(S5:Sen5 w sp)(l:List Vl)(v:Value)(hv:VlsV K l v)(hl:l.length<=100000000)(hz:Zag p.terms<=100000000):
  Calls Tryz.prog 23 #[ptrV M,v] w λr w'=>Gr2 w w' M none/\((Zb5 (Zcm R.ks p) l l.length=true/\r=.returned .nilIface/\∃vm',McAt 70 168 126 R p ord (Zbt K w.heap.size w') w' M B (putM l) vm')\/
   (Zb5 (Zcm R.ks p) l l.length=false/\r=.returned (esv (sp 2))/\McAt 70 168 126 R p ord (Zbt K w.heap.size w') w' M B s vm)):=by
 obtain⟨av,cv,rfl⟩:=hv.len;obtain⟨cs,vi,vo,vf,va,vc,vu,vM,kK,_,_,_,_,_,_,⟨js,jv⟩⟩:=h.code.ex;have Qa:=h.lt;have kM:Ybw w (w.alloc (.cells #[.int .i64 1] 3)):=Yba;have h1:=h.below kM;have c0:(w.alloc (.cells #[.int .i64 1] 3)).cell? ⟨M,0,none⟩=some (ptrV B):=h1.cell 0;have JU:(w.alloc (.cells #[.int .i64 1] 3)).ownsRow w.heap.size 3 1 (.slice (some ⟨w.heap.size,0,none⟩) 1 1) 1 [.int .i64 1]:=
  ⟨by simp,.inr ⟨w.heap.size,1,#[.int .i64 1],rfl,Nat.le_refl _,heap_alloc_new w _,Nat.le_refl _,by unfold maxLen;omega,rfl,rfl⟩⟩
 have Hl:=memories_any R K B cs (Zab 0 p.terms) vM kK js jv (by rw[Zaw];omega) _ h1.isin;have HB:=Zhd kM;have qp:=Zhd JU;have HM:=Zhd h;have HV:=Zhd hv;have Hd:((Zab 0 p.terms).map λx=>Zai R.ks x.1).length=Zag p.terms:=by rw[List.length_map,Zaw]
 have xZ:=Zhd Hd;have hK:Zcm R.ks p=1 :: (Zab 0 p.terms).map λx=>Zai R.ks x.1:=rfl;have HKK:=Zhd hK;clear kK js jv h1 kM JU h hv Hd hK;generalize ((Zab 0 p.terms).map λx=>Zai R.ks x.1)=KL at *;go_enter Tryz.func23,Tryz.ntmps23;go_wp2_with fail;refine Hl.mono ?_;rintro r w2 ⟨v2,rfl,Jx,Hm⟩;obtain⟨a2,c2,rfl⟩:=Jx.len;obtain⟨v3,w3,Ht,Hb,hg⟩:=run_app_ints (newKn_in _ _) Jx (Za1 qp.out Hm) (by have:=Hm.size;simp at this;omega) (by have:=xZ.out;omega);have Jg:Ybw w w3:=(HB.out.trans (Hm.mono (by simp))).grown hg (by have:=Hm.size;simp at this;omega) (λq hq=>(qp.out.lt q hq).1);have hk3:Zks (Zb3 w.heap.size w3) (1 :: KL) v3:=ints_row (base:=w.heap.size) (T:=3) (by rw[show(1 :: KL).length=1+KL.length from by simp;omega];exact Hb) Ylr;obtain⟨a3,c3,rfl⟩:=hk3.len;have kr:=Zhd Ht;have Js:=Zhd Jg;have HK3:=Zhd hk3;have h3:=HM.out.below Jg;have HM3:=Zhd h3;clear Hl Jx Ht Hb hg Jg hk3 Hm c0 h3;have Ho:((l.length:Int)==((1 :: KL).length:Int))=decide (l.length=(1 :: KL).length):=by
  by_cases h:l.length=(1 :: KL).length
  .rw [decide_eq_true h,h];exact beq_self_eq_true _
  have:¬((l.length:Int)=((1 :: KL).length:Int)):=by omega
  rw[decide_eq_false h];exact beq_false_of_ne this
 have HL:=Zhd Ho;have hkl1:(1 :: KL).length=Zag p.terms+1:=by have:=xZ.out;simp;omega
 have kW:=HKK.out;rw[<- kW] at Ho hkl1 HK3 HL kr;have xZ:=Zhd hkl1;clear Ho kW HKK HB qp hkl1;go_wp2_with(at_builtin;refine Zbi rfl 122 122 _ _ rfl _ _ rfl rfl _ _ kr.out ?_);clear kr;have FAIL:=Zhd (show ∀wr,Ybw w3 wr->Gr2 w wr M none/\McAt 70 168 126 R p ord (Zbt K w.heap.size wr) wr M B s vm from λwr hb=>by
  have kL:=Js.out.trans (hb.mono Js.out.size);exact⟨Gr2.of_below kL _ _,HM.out.join kL⟩)
 go_loopw[6,7] (λu i wr=>∃k:Nat,i=.int .i64 k/\u=.bool (Zb5 (Zcm R.ks p) l k)/\k<=l.length/\Ybw w3 wr) (λ_ i _=>l.length - (intOf i).toNat)
 case atStart=>exact⟨0,rfl,by simp[Zb5,HL.out],Nat.zero_le _,Below.refl _ _⟩
 obtain⟨k,rfl,rfl,hk,hb⟩:=hrel;have HB:=Zhd hb;have kL:=Js.out.trans (hb.mono Js.out.size);have c2:=(S5.below kL).c2;clear hb kL;cases J1:Zb5 (Zcm R.ks p) l k with
 |false=>
  have HF:=Zhd (FAIL.out wr HB.out);have jP:=Zhd (rightTo_false _ _ _ J1 _ hk);clear J1;go_wp2_with fail;go_ret;exact⟨HF.out.1,.inr ⟨jP.out,rfl,HF.out.2⟩⟩
 |true=>
  by_cases Hd:k<l.length
  .clear c2;have hli:l.length=(Zcm R.ks p).length:=by
    unfold Zb5 at J1;simp only[Bool.and_eq_true,decide_eq_true_eq] at J1;exact J1.1
   have yl:k<(Zcm R.ks p).length:=by omega
   have vG:(k:Int)<l.length:=by omega
   have hkI2:(k:Int)<(Zcm R.ks p).length:=by omega
   clear hli;obtain⟨b,off,rfl,e0,e1⟩:=Zd4 HV.out Hd;obtain⟨b2,qR,rfl,_,d0⟩:=SlV.at HK3.out yl;have d0:(Zb3 w.heap.size w3).cell b2 (qR+k * 1+0)=some (.int .i64 (Zcm R.ks p)[k]):=d0;simp only[Nat.mul_one,Nat.add_zero] at d0;have e0:=(HM3.out.isin.below HB.out).cell e0;have e1:=(HM3.out.isin.below HB.out).cell e1;have d0:=((newKn_in w.heap.size w3).below HB.out).cell d0;have y9:=Zhd (show Zb5 (Zcm R.ks p) l (k+1)=Zaq l[k] (Zcm R.ks p)[k] from by
    rw[Zj3,J1,Bool.true_and];simp[Ygg,Hd,yl])
   clear J1;generalize (Zcm R.ks p)[k]=kd at *;generalize l[k]=x at *;obtain⟨xk,xn⟩:=x;dsimp only at e0 e1;go_wp2_with fail;have hS:∀(b o:Nat) (v:Value),wr.cell? ⟨b,o,none⟩=some v->wr.drew.cell? ⟨b,o,none⟩=some v:=λ_ _ _ h=>h;refine Zae (λw'=>∀(b o:Nat) (v:Value),wr.cell? ⟨b,o,none⟩=some v->w'.cell? ⟨b,o,none⟩=some v) (λ_=>True) 99 (by kernel_rfl) ?_;refine Go.w3 0 ?_
   iterate 8 ((first|(refine tk3 (v:=?_) rfl hS Ztr ?hy ?_;(case hy=>intro w Hi;have z0:=wsame Hi e0;have z1:=wsame Hi e1;have z2:=wsame Hi d0;go_simp<;>with_reducible rfl))|refine sk3 rfl hS Ztr ?_|refine no3 ?_);refine Zss ?_)
   refine Go.w3e ?_;refine Zwo 8 rfl λK_ hK=>?_;go_simp;go_at_call 43;refine(right_any ⟨xk,xn⟩ kd _).mono ?_;rintro r5 w5 ⟨rfl,Jf⟩;have jr:∀(b o:Nat) (v:Value),wr.cell? ⟨b,o,none⟩=some v->w5.cell? ⟨b,o,none⟩=some v:=λb o v h=>by
    rw[Jf.cell (p:=⟨b,o,none⟩) (cell_lt h)];exact h
   refine hK.out _ _ (jr) Ztr ?_;clear hK K_;refine Zst ?_;refine tk2 (i:=9) (v:=?_) rfl jr Ztr ?hy ?_
   case hy=>intro w Hi;have z0:=wsame Hi e0;have z1:=wsame Hi e1;have z2:=wsame Hi d0;go_simp<;>with_reducible rfl
   refine Zst ?_;refine Zwd ?_;have kg:=Zhd (HB.out.drew.trans (Jf.mono (by have:=HB.out.drew.size;omega)));go_wp2_with fail;go_roundw
   case rel=>first|exact⟨k+1,by go_num,by rw[y9.out],by omega,kg.out⟩|((repeat apply Exists.intro);refine⟨?_,rfl⟩;exact⟨k+1,by go_num,by rw[y9.out],by omega,kg.out⟩)
   simp[intOf];omega
  obtain rfl:k=l.length:=by omega
  clear c2 FAIL;have hlK:l.length=(Zcm R.ks p).length:=by
   unfold Zb5 at J1;simp only[Bool.and_eq_true,decide_eq_true_eq] at J1;exact J1.1
  have hl1:1<=l.length:=by have:=xZ.out;omega
  obtain⟨b,off,rfl,_,hlc⟩:=SlV.hidx HV.out (by omega);obtain⟨b',off',e,e0,e1⟩:=Zd4 HV.out (show 0<l.length from hl1);cases e;clear e0;simp only[Nat.zero_mul,Nat.add_zero] at e1;have xg:=VlsV.dropOf HV.out hl1;rw[show(l.drop 1).length=Zag p.terms from by have:=xZ.out;simp;omega] at xg;have kL:=Js.out.trans (HB.out.mono Js.out.size);have Hk:K.In wr:=HM.out.isin.below kL;have Hu:wr.heap[M]?=some (.cells (mcV R B s vm) 70 (0,0)):=(HM.out.below kL).box;have HGW:=Zhd (Gr2.of_below kL M none);have jP:=Zhd J1;have HPM:=Zhd (show putM l=⟨decide (l[0].n=1),l.drop 1,false⟩ from by
   unfold putM;rw[show l.getD 0 vz=l[0] from by simp[Ygg,show 0<l.length from hl1]])
  have HDL:=Zhd (show(l.drop 1).length=Zag p.terms from by have:=xZ.out;simp;omega);have xN:(l.length:Int) - 1=((l.length - 1:Nat):Int):=by omega
  have hcll:(cv:Int) - 1=((cv - 1:Nat):Int):=by omega
  have h1I:(1:Int)<=l.length:=by omega
  have h0I:(0:Int)<l.length:=by omega
  have h0N:0<l.length:=by omega
  have hdl:=HDL.out;rw[List.length_drop] at hdl;have hmz:Zag p.terms<=100000000:=hz;have Hr:M<wr.heap.size:=Nat.lt_of_lt_of_le Qa (Nat.le_trans Js.out.size HB.out.size);clear J1 hlK kL;unfold mcV at Hu;generalize l[0]=x0 at *;obtain⟨xk,xn⟩:=x0;dsimp only at e1 HPM;go_wp2_with fail;have hS:K.In wr.drew:=Hk;have Hu:wr.drew.heap[M]?=some (.cells #[ptrV B,.bool R.nb,.int .i64 R.ni,.bool s.first,vm,.bool s.trapped] 70 (0,0)):=Hu;have HG:=Zhd ((Gr2.of_below (Below.refl wr.heap.size wr).drew M none:Gr2 wr wr.drew M none));refine Zae (λw'=>K.In w') (λ_=>True) 99 (by kernel_rfl) ?_;refine Go.w3 0 ?_
  iterate 10 ((first|(refine tk3 (v:=?_) rfl hS Ztr ?hy ?_;(case hy=>intro w Hi;have z:=Hi.cell e1;go_simp<;>with_reducible rfl))|refine sk3 rfl hS Ztr ?_|refine no3 ?_);refine Zss ?_)
  refine Go.w3e ?_;refine Zwo 10 rfl λK_ hK=>?_;go_simp;go_at_call 48;refine(cloneV_any K (l.drop 1) _ xg (by rw[HDL.out];omega) _ hS).mono ?_;rintro r5 w5 ⟨v5,rfl,hv5,Jf⟩;obtain⟨a5,c5,rfl⟩:=hv5.len;rw[HDL.out] at hv5 ⊢;have jr:=hS.below Jf;refine hK.out _ _ (jr) Ztr ?_;clear hK K_;refine Zst ?_;have hbx5:=(Jf.block M (by exact Hr)).trans Hu;have hG5:Gr2 wr w5 M none:=HG.out.trans (Gr2.of_below Jf M none) (by simp);clear Hu e1 xg;refine Go.w3 11 ?_
  iterate 2 ((first|(refine tk3 (v:=?_) rfl jr Ztr ?hy ?_;(case hy=>intro w Hi;go_simp<;>with_reducible rfl))|refine sk3 rfl jr Ztr ?_|refine no3 ?_);refine Zss ?_)
  refine Go.w3e ?_;refine Zwo 13 rfl λK_ hK=>?_;obtain⟨b5,y5⟩:=Zes hbx5;have z1:=b5 3;have z2:=y5 3;go_simp;refine hK.out _ _ ((jr.setCell (a:=⟨M,3,none⟩) HM.out.no _)) Ztr ?_;clear hK K_;refine Zst ?_;have hS6:=jr.setCell (a:=⟨M,3,none⟩) HM.out.no (.bool (xn==1));have Q5:=Zaa w5 M 3 (.bool (xn==1)) _ _ _ hbx5;have hG6:Gr2 w5 (w5.setCell ⟨M,3,none⟩ (.bool (xn==1))) M none:=(Gr2.refl _ _ _).setCell 3 _;generalize w5.setCell ⟨M,3,none⟩ (.bool (xn==1))=w6 at *;simp only[List.setIfInBounds_toArray,List.set_cons_zero,List.set_cons_succ] at Q5;refine Go.w3 14 ?_
  iterate 2 ((first|(refine tk3 (v:=?_) rfl hS6 Ztr ?hy ?_;(case hy=>intro w Hi;go_simp<;>with_reducible rfl))|refine sk3 rfl hS6 Ztr ?_|refine no3 ?_);refine Zss ?_)
  refine Go.w3e ?_;refine Zwo 16 rfl λK_ hK=>?_;obtain⟨b6,y6⟩:=Zes Q5;have z1:=b6 4;have z2:=y6 4;go_simp;refine hK.out _ _ ((hS6.setCell (a:=⟨M,4,none⟩) HM.out.no _)) Ztr ?_;clear hK K_;refine Zst ?_;have hS7:=hS6.setCell (a:=⟨M,4,none⟩) HM.out.no (.slice a5 (Zag p.terms) c5);have yr:=Zaa w6 M 4 (.slice a5 (Zag p.terms) c5) _ _ _ Q5;have hG7:Gr2 w5 (w6.setCell ⟨M,4,none⟩ (.slice a5 (Zag p.terms) c5)) M none:=hG6.setCell 4 _;generalize w6.setCell ⟨M,4,none⟩ (.slice a5 (Zag p.terms) c5)=w7 at *;simp only[List.setIfInBounds_toArray,List.set_cons_zero,List.set_cons_succ] at yr;refine Go.w3 17 ?_
  iterate 2 ((first|(refine tk3 (v:=?_) rfl hS7 Ztr ?hy ?_;(case hy=>intro w Hi;go_simp<;>with_reducible rfl))|refine sk3 rfl hS7 Ztr ?_|refine no3 ?_);refine Zss ?_)
  refine Go.w3e ?_;refine Zwo 19 rfl λK_ hK=>?_;obtain⟨b7,y7⟩:=Zes yr;have z1:=b7 5;have z2:=y7 5;go_simp;refine hK.out _ _ ((hS7.setCell (a:=⟨M,5,none⟩) HM.out.no _)) Ztr ?_;clear hK K_;refine Zst ?_;have hS8:=hS7.setCell (a:=⟨M,5,none⟩) HM.out.no (.bool false);have yq:=Zaa w7 M 5 (.bool false) _ _ _ yr;have hG8:Gr2 w5 (w7.setCell ⟨M,5,none⟩ (.bool false)) M none:=hG7.setCell 5 _;generalize w7.setCell ⟨M,5,none⟩ (.bool false)=w8 at *;simp only[List.setIfInBounds_toArray,List.set_cons_zero,List.set_cons_succ] at yq;refine Zwd ?_;have hgw:Gr2 w w8 M none:=(HGW.out.trans (hG5.trans hG8 (by simp)) (by simp));have ja:∃vm',McAt 70 168 126 R p ord (Zbt K w.heap.size w8) w8 M B (putM l) vm':=by
   refine⟨.slice a5 (Zag p.terms) c5,?_,?_,?_,?_,?_,?_⟩
   .rw [HPM.out,yq];unfold mcV;simp;cases hd:decide (xn=1)<;>simp_all
   .exact Ziv HM.out.isin hgw HM.out.no
   .rw [Ziw Qa];exact HM.out.no
   .exact HM.out.code.le (Zb6 HM.out.isin w8)
   .rw [HPM.out];exact SlV.le hv5 (new_le_join (by have:=Js.out.size;have:=HB.out.size;have:wr.drew.heap.size=wr.heap.size:=rfl;omega) Qa hG8) VlC.mono
   rw[HPM.out];exact HDL.out
  go_wp2_with fail
  all_goals go_ret
  all_goals exact⟨hgw,.inl ⟨jP.out,rfl,ja⟩⟩
theorem McAt.fin{MT NT CT:TypeId}{R:REnv}{p:Pr}{ord:List Nat}{K:Kn}{w W:World}{M B:Nat}{s s':Mc}{vm vm':Value}(h:McAt MT NT CT R p ord K w M B s vm)(g:Gr2 w W M none)(hb:W.heap[M]?=some (.cells (mcV R B s' vm') MT (0,0)))(hm:VlsV (Zbt K w.heap.size W) s'.mem vm')(hl:s'.mem.length=Zag p.terms):
  McAt MT NT CT R p ord (Zbt K w.heap.size W) W M B s' vm':=
 ⟨hb,Ziv h.isin g h.no,by rw[Ziw h.lt];exact h.no,h.code.le (Zb6 h.isin W),hm,hl⟩
theorem Zjj{n n':Nat}{W W2:World}(hn:n<=n')(g:∀b,n'<=b->b<W.heap.size->W2.heap[b]?=W.heap[b]?):(Zb3 n' W).le (Zb3 n W2):=λb o e=>by
 unfold Zb3 at e ⊢
 split at e
 .cases e
 rename_i hb
 rw[if_neg (by omega),g b (by omega) (Zlt e)];exact e
theorem gr_put{w W7 W8:World}{M:Nat}(h7:Ybw w W7)(g8:Gr2 W7 W8 M none)(hMw:M<w.heap.size)(x y z u:Value):Gr2 w (put4 W8 w.heap.size x y z u) M none/\(put4 W8 w.heap.size x y z u).heap[M]?=W8.heap[M]?/\∀b,w.heap.size<b->b<W7.heap.size->(put4 W8 w.heap.size x y z u).heap[b]?=W7.heap[b]?:=by
 have hp:=Zg5 (Below.refl w.heap.size W8) Ylr x y z u;refine⟨⟨hp.os.trans (g8.os.trans h7.os),hp.tape.trans (g8.tape.trans h7.tape),hp.output.trans (g8.output.trans h7.output),Nat.le_trans h7.size (Nat.le_trans g8.size hp.size),λi hi h1 _=>?_⟩,Zg4 _ _ _ _ (by omega),λb hb Hm=>?_⟩
 .rw [Zg4 _ _ _ _ (by omega),g8.block i (by have:=h7.size;omega) h1 (by simp)];exact h7.block i hi
 rw[Zg4 _ _ _ _ (by omega)];exact g8.block b Hm (by omega) (by simp)
theorem trapT_V(K:Kn):TkV K trapT (Ys0) (Ys0):=⟨.inl ⟨rfl,none,0,rfl⟩,.inl ⟨rfl,none,0,rfl⟩⟩
theorem noT_V(K:Kn):TkV K noT (Ys0) (Ys0):=⟨.inl ⟨rfl,none,0,rfl⟩,.inl ⟨rfl,none,0,rfl⟩⟩
theorem mtick_any(sp:Nat->Addr){R:REnv}{p:Pr}{ord:List Nat}{K:Kn}{w:World}{M B:Nat}{s:Mc}{vm:Value}(h:McAt 70 168 126 R p ord K w M B s vm)(HC:CdR R p ord)(S5:Sen5 w sp)(inp:List Vl)(vi:Value)(hi:VlsV K inp vi)(JN:inp.length<=1000000):
  Calls Tryz.prog 24 #[ptrV M,vi] w λr w'=>∃vm' ov cv,r=.returned (.tuple #[.agg #[ov,.bool (Zcw R (cdOf p ord) p.ins s inp).2.1.asrt,.bool (Zcw R (cdOf p ord) p.ins s inp).2.1.trap,cv],errV sp (Zcw R (cdOf p ord) p.ins s inp).1])/\Gr2 w w' M none/\McAt 70 168 126 R p ord (Zbt K w.heap.size w') w' M B (Zcw R (cdOf p ord) p.ins s inp).2.2 vm'/\TkV (Zb3 w.heap.size w') (Zcw R (cdOf p ord) p.ins s inp).2.1 ov cv:=by
 obtain⟨am,cm,hame⟩:=h.mem.len;subst hame;obtain⟨ai,ci,rfl⟩:=hi.len;obtain⟨cs,vI,vo,vf,va,vc,vu,vM,kK,⟨e0,h0⟩,_,_,_,_,_,_⟩:=h.code.ex;have Qa:=h.lt;have Hg:Ybw w (w.alloc (.cells #[Ys0,.bool false,.bool false,Ys0] 83)):=Yba;have Jr:=heap_alloc_new w (.cells #[Ys0,.bool false,.bool false,Ys0] 83);have Jt:w.heap.size<(w.alloc (.cells #[Ys0,.bool false,.bool false,Ys0] 83)).heap.size:=by simp
 have h1:=h.below Hg;have HM:=Zhd h;clear h;cases xL:s.trapped with
 |true=>
  have c5:(w.alloc (.cells #[Ys0,.bool false,.bool false,Ys0] 83)).cell? ⟨M,5,none⟩=some (.bool true):=(h1.cell 5).trans (by simp[mcV,xL]);have HX:=Zhd (show(Zcw R (cdOf p ord) p.ins s inp)=(0,trapT,s) from by unfold Zcw;rw[if_pos xL]);clear h1 Hg Jr Jt kK e0 h0;go_enter Tryz.func24,Tryz.ntmps24;go_wp2_with fail;refine bodyPost_ret (v:=.tuple #[.agg #[Ys0,.bool false,.bool true,Ys0],.nilIface]) (by simp[results,Tryz.results24,go_sem]) rfl ?_;rw[HX.out];have hb:Ybw w (w.alloc (.cells #[Ys0,.bool false,.bool true,Ys0] 83)):=Yba;exact⟨_,_,_,rfl,Gr2.of_below hb _ _,HM.out.join hb,trapT_V _⟩
 |false=>
  have c5:(w.alloc (.cells #[Ys0,.bool false,.bool false,Ys0] 83)).cell? ⟨M,5,none⟩=some (.bool false):=(h1.cell 5).trans (by simp[mcV,xL]);have c0:(w.alloc (.cells #[Ys0,.bool false,.bool false,Ys0] 83)).cell? ⟨M,0,none⟩=some (ptrV B):=h1.cell 0;generalize hW0:w.alloc (.cells #[Ys0,.bool false,.bool false,Ys0] 83)=W0 at *;go_enter Tryz.func24,Tryz.ntmps24;have Hf:=Zjq K B cs p.ins inp vI _ kK e0 h0 hi ⟨by omega,by have:=HC.z7;omega⟩ W0 h1.isin;have HH1:=Zhd h1;have qp:=Zhd Jr;have J4:=Zhd Hg;clear kK e0 h0 h1 Jr Hg;go_wp2_with fail;refine Hf.mono ?_;rintro r w2 ⟨rfl,Hm⟩;clear c5 c0 Hf;have zg:=(Hm.block w.heap.size Jt).trans qp.out;have hb02:=J4.out.trans (Hm.mono J4.out.size);have h2:=HH1.out.below Hm;have Ju:w.heap.size<w2.heap.size:=Nat.lt_of_lt_of_le Jt Hm.size;have qc:=Zhd zg;have Jh:=Zhd hb02;have yE:=Zhd h2;clear J4 qp HH1 Hm zg hb02 h2 Jt;cases J1:Zas p.ins inp inp.length with
  |false=>
   have HX:=Zhd (show(Zcw R (cdOf p ord) p.ins s inp)=(5,noT,s) from by unfold Zcw;rw[if_neg (by simp[xL]),if_neg (by simp[J1])]);go_wp2_with fail;have hbD:Ybw w w2.drew:=Jh.out.drew;have hS:Sen5 w2.drew sp:=S5.below hbD;obtain⟨r0,r1,r2,r3,rf,_⟩:=Zcd (W:=w2.drew) (show w2.drew.heap[w.heap.size]?=some (.cells #[Ys0,.bool false,.bool false,Ys0] 83 (0,0)) from qc.out);have yT:=rf 0 (by decide);have yS:=rf 1 (by decide);have yR:=rf 2 (by decide);have rf3:=rf 3 (by decide);have yW:=Zd8 (W:=w2.drew) (show w2.drew.heap[w.heap.size]?=some (.cells #[Ys0,.bool false,.bool false,Ys0] 83 (0,0)) from qc.out) (Ys0) (.bool false) (.bool false) (Ys0);have gn:=Zhd (Zg5 hbD Ylr (Ys0) (.bool false) (.bool false) (Ys0));have yu:=S5.below gn.out;obtain⟨e0,e1,e2,e3,_,_⟩:=Zcd yW;unfold put4 at e0 e1 e2 e3 yu;have E0:=Zhd e0;have E1:=Zhd e1;have E2:=Zhd e2;have E3:=Zhd e3;clear e0 e1 e2 e3 yW rf hbD;refine Zae (λw'=>Sen5 w' sp) (λ_=>True) 99 (by kernel_rfl) ?_;generalize w2.drew=Wd at *;refine Go.w3 0 ?_
   iterate 2 ((first|(refine tk3 (v:=?_) rfl hS Ztr ?hy ?_;(case hy=>intro w Hi;have z0:=Hi.c4;go_simp<;>with_reducible rfl))|refine sk3 rfl hS Ztr ?_|refine no3 ?_);refine Zss ?_)
   refine Go.w3e ?_;refine Zwo 2 rfl λK_ hK=>?_;go_simp;refine hK.out _ _ (yu) Ztr ?_;clear hK K_;refine Zst ?_;refine tk2 (i:=3) (v:=?_) rfl yu Ztr ?hy ?_
   case hy=>intro w Hi;have z0:=Hi.c4;go_simp<;>with_reducible rfl
   refine Zst ?_;refine Zwd ?_;go_wp2_with fail;have e0:=E0.out;have e1:=E1.out;have e2:=E2.out;have e3:=E3.out;refine bodyPost_ret (v:=.tuple #[.agg #[Ys0,.bool false,.bool false,Ys0],errV sp 5]) (by simp[results,Tryz.results24,go_sem,e0,e1,e2,e3,errV,esv]) rfl ?_;rw[HX.out];exact⟨_,_,_,rfl,Gr2.of_below gn.out _ _,HM.out.join gn.out,noT_V _⟩
  |true=>
   have hil2:inp.length=p.ins.length:=by
    unfold Zas at J1;simp only[Bool.and_eq_true,decide_eq_true_eq] at J1;exact J1.1
   have HX:=Zhd (show(Zcw R (cdOf p ord) p.ins s inp)=(if (Zb7 R (cdOf p ord) s.first s.mem inp).1.trap=true then(0,(Zb7 R (cdOf p ord) s.first s.mem inp).1,⟨s.first,s.mem,true⟩) else(0,(Zb7 R (cdOf p ord) s.first s.mem inp).1,⟨false,(Zb7 R (cdOf p ord) s.first s.mem inp).2,false⟩)) from by unfold Zcw;rw[if_neg (by simp[xL]),if_pos J1]);have Hf:∀W,K.In W->_:=λW hK=>tick_any R K p ord B yE.out.code HC.f HC.pa HC.nm HC.od HC.ou ⟨HC.z1,HC.z2,HC.z3,HC.z4,HC.z5,HC.z6,HC.z7⟩ HC.ps s.first s.mem inp _ _ yE.out.mem hi yE.out.len hil2 W hK;have jR:=tickM_len R (cdOf p ord) s.first s.mem inp;rw[show(cdOf p ord).ms.length=Zag p.terms from HC.ml] at jR;generalize Zb7 R (cdOf p ord) s.first s.mem inp=X at *;obtain⟨⟨xo,xa,xt,xc⟩,xm⟩:=X;dsimp only at Hf jR HX;have HNL:=Zhd jR;have HCALL:=Zhd Hf;have k0:(mcKn K 70 R M B s (.slice am s.mem.length cm)).cell M 0=some (ptrV B):=Zeq 0;have k1:(mcKn K 70 R M B s (.slice am s.mem.length cm)).cell M 1=some (.bool R.nb):=Zeq 1;have k2:(mcKn K 70 R M B s (.slice am s.mem.length cm)).cell M 2=some (.int .i64 R.ni):=Zeq 2;have k3:(mcKn K 70 R M B s (.slice am s.mem.length cm)).cell M 3=some (.bool s.first):=Zeq 3;have k4:(mcKn K 70 R M B s (.slice am s.mem.length cm)).cell M 4=some (.slice am s.mem.length cm):=Zeq 4;have hS:(mcKn K 70 R M B s (.slice am s.mem.length cm)).In w2.drew:=yE.out.kn;have He:K.le (mcKn K 70 R M B s (.slice am s.mem.length cm)):=mcKn_le HM.out.no;have hbD:Ybw w2 w2.drew:=(Below.refl _ _).drew;have Hu:w2.drew.heap[M]?=some (.cells (mcV R B s (.slice am s.mem.length cm)) 70 (0,0)):=yE.out.box;have hMl2:M<w2.drew.heap.size:=yE.out.lt;have hRl2:w.heap.size<w2.drew.heap.size:=Ju
   have hR:w2.drew.heap[w.heap.size]?=some (.cells #[Ys0,.bool false,.bool false,Ys0] 83 (0,0)):=qc.out;have Hk:∀W,(mcKn K 70 R M B s (.slice am s.mem.length cm)).In W->K.In W:=λW h b o e=>h b o (He b o e);generalize (mcKn K 70 R M B s (.slice am s.mem.length cm))=KM at *;have HIN:=Zhd Hk;have zR:=Zhd (show ∀(W:World) (TB:Nat) (u5:Value),Below w2.drew.heap.size w2.drew W->True->True from λ_ _ _ _ _=>trivial);clear jR Hf He Hk hil2 J1 zR;go_wp2_with fail;refine Zae (λw'=>KM.In w') (λ_=>True) 99 (by kernel_rfl) ?_;generalize w2.drew=Wd at *;refine Go.w3 0 ?_
   iterate 17 ((first|(refine tk3 (v:=?_) rfl hS Ztr ?hy ?_;(case hy=>exact mSp1))|refine sk3 rfl hS Ztr ?_|refine no3 ?_);refine Zss ?_)
   refine Go.w3e ?_;refine Zcj (i:=17) (j:=21) (o:=_) (o':=_) (by kernel_rfl) rfl rfl (λK_ hK=>?_) (λK_ hK=>?_)
   .go_simp;go_at_call 49;refine(HCALL.out _ (HIN.out _ hS)).mono ?_;rintro ret w5 ⟨ov,cv,u5,rfl,hk5,xM,Jf⟩;obtain⟨kz,ky,rfl⟩:=hk5.outs.len;obtain⟨kF,kE,rfl⟩:=hk5.checks.len;obtain⟨a5,c5,rfl⟩:=xM.len;have jr:=hS.below Jf;refine hK.out _ _ jr Ztr ?_;clear hK K_;refine Zst ?_;refine Go.w3 18 ?_
    iterate 3 ((first|(refine tk3 (v:=?_) rfl jr Ztr ?hy ?_;(case hy=>exact mSp1))|refine sk3 rfl jr Ztr ?_|refine no3 ?_);refine Zss ?_)
    refine Go.w3e ?_;refine Zwo 21 rfl λK_ hK=>?_;go_simp;refine hK.out _ _ ((jr.alloc _)) Ztr ?_;clear hK K_;refine Zst ?_;have gA:=heap_alloc_new w5 (.cells #[Ys0,.bool false,.bool false,Ys0] 83);have hTW:Wd.heap.size<=w5.heap.size:=Jf.size;have JX:Ybw Wd (w5.alloc (.cells #[Ys0,.bool false,.bool false,Ys0] 83)):=Jf.alloc Jf.size _;generalize hn5e:Wd.heap.size=n5 at hk5 xM;have hn5:Wd.heap.size<=n5:=Nat.le_of_eq hn5e;have hs56:w5.heap.size<=(w5.alloc (.cells #[Ys0,.bool false,.bool false,Ys0] 83)).heap.size:=by simp
    generalize hTB:w5.heap.size=TB at gA hTW ⊢;have Jk:∀b,n5<=b->b<w5.heap.size->b≠TB/\(w5.alloc (.cells #[Ys0,.bool false,.bool false,Ys0] 83)).heap[b]?=w5.heap[b]?:=λb _ hb=>⟨by omega,Below.heap_alloc _ _ _ hb⟩;generalize w5.alloc (.cells #[Ys0,.bool false,.bool false,Ys0] 83)=w6 at *;exact mSp2
   go_simp;refine hK.out _ _ (hS.alloc _) Ztr ?_;clear hK K_;refine Zst ?_;have kM:Ybw Wd (Wd.alloc (.cells #[Ys0,.bool false,.bool false,Ys0] 83)):=Yba;have gA:=heap_alloc_new Wd (.cells #[Ys0,.bool false,.bool false,Ys0] 83);have vT:=hS.alloc (.cells #[Ys0,.bool false,.bool false,Ys0] 83);have hTl0:Wd.heap.size<(Wd.alloc (.cells #[Ys0,.bool false,.bool false,Ys0] 83)).heap.size:=by simp
   generalize hTB:Wd.heap.size=TB at gA hTl0 ⊢;generalize Wd.alloc (.cells #[Ys0,.bool false,.bool false,Ys0] 83)=WA at *;refine Zwo 17 rfl λK_ hK=>?_;go_simp;go_at_call 49;refine(HCALL.out _ (HIN.out _ vT)).mono ?_;rintro ret w5 ⟨ov,cv,u5,rfl,hk5,xM,Jf⟩;obtain⟨kz,ky,rfl⟩:=hk5.outs.len;obtain⟨kF,kE,rfl⟩:=hk5.checks.len;obtain⟨a5,c5,rfl⟩:=xM.len;have jr:=vT.below Jf;refine hK.out _ _ (jr) Ztr ?_;clear hK K_;refine Zst ?_;refine Go.w3 18 ?_
   iterate 3 ((first|(refine tk3 (v:=?_) rfl jr Ztr ?hy ?_;(case hy=>exact mSp1))|refine sk3 rfl jr Ztr ?_|refine no3 ?_);refine Zss ?_)
   refine Go.w3e ?_;have gA:=(Jf.block TB hTl0).trans gA;have hTW:Wd.heap.size<=TB:=Nat.le_of_eq hTB;have JX:Ybw Wd w5:=kM.trans (Jf.mono kM.size);have Jk:∀b,WA.heap.size<=b->b<w5.heap.size->b≠TB/\w5.heap[b]?=w5.heap[b]?:=λb hb _=>⟨by omega,rfl⟩;have hn5:Wd.heap.size<=WA.heap.size:=kM.size;have hs56:w5.heap.size<=w5.heap.size:=Nat.le_refl _;generalize WA.heap.size=n5 at hk5 xM Jk hn5;clear Jf kM vT hTl0;obtain⟨w6,hw6⟩:∃w6,w6=w5:=⟨_,rfl⟩;rw[<- hw6] at gA JX ⊢;have Jk:∀b,n5<=b->b<w5.heap.size->b≠TB/\w6.heap[b]?=w5.heap[b]?:=by rw[hw6];exact Jk
   have hs56:w5.heap.size<=w6.heap.size:=by rw[hw6];exact hs56
   clear hw6;exact mSp2
theorem vls_apart{w5 w6:World}{M:Nat}{cp:Value}{x0 x1 x3 x5:Bool}{x2:Int}{a:Option Addr}{n c:Nat}{MT:TypeId}{fr:Nat×Nat}{l:List Vl}{v:Value}(hv:VlsV (Zan w5) l v)(hcp:∀k z,cp ≠ .int k z)(hM:w5.heap[M]?=some (.cells #[cp,.bool x1,.int .i64 x2,.bool x3,.slice a n c,.bool x5] MT fr))(hs:∀b,b≠M->w6.heap[b]?=w5.heap[b]?):VlsV (noKn M w6) l v:=by
 rcases hv with ⟨rfl,h⟩|⟨b,off,Ha,rfl,h2,h3,h4⟩
 .exact .inl ⟨rfl,h⟩
 by_cases h0:l=[]
 .subst h0;exact .inl ⟨rfl,_,_,rfl⟩
 have hl:0<l.length:=List.length_pos_iff.2 h0;have hb:b≠M:=λe=>by
  subst e;obtain⟨q0,q1⟩:=h4 0 hl;simp only[Zaj,World.cell?,hM,Nat.zero_mul,Nat.add_zero] at q0 q1;rcases off with _|_|_|_|_|_|off<;>simp_all
 refine .inr ⟨b,off,Ha,rfl,h2,h3,λi hi=>?_⟩;have:=h4 i hi;have hc:∀j,(noKn M w6).cell b j=(Zan w5).cell b j:=λj=>by rw[Zep hb,Zaj];simp[World.cell?,hs b hb]
 simp only[hc];exact this
def hiKn(n:Nat)(K:Kn):Kn:=λb=>if b<n then none else K b
def CodeNewK(CT:TypeId)(R:REnv)(K:Kn)(p:Pr)(ord:List Nat)(B:Nat):Prop:=
 ∃cs vo vu,K B=some (.cells cs CT (0,0))/\cs[5]?=some vo/\Zco K ord vo/\cs[9]?=some vu/\Zks K (cdOf p ord).outs vu
theorem CodeNew.fin{CT:TypeId}{R:REnv}{n n1 M:Nat}{w3 w':World}{p:Pr}{ord:List Nat}{B:Nat}(h:CodeNew CT R n1 w3 p ord B)(hn:n<=n1)(hB:n1<=B)(hM:w3.heap.size<=M)(hs:∀b,b<w3.heap.size->w'.heap[b]?=w3.heap[b]?):CodeNewK CT R (hiKn n (noKn M w')) p ord B:=by
 obtain⟨cs,vo,vu,h1,h2,h3,h4,h5⟩:=h;have He:(Zb3 n1 w3).le (hiKn n (noKn M w')):=λb o e=>by
  unfold Zb3 at e
  split at e
  .cases e
  rename_i hb
  have Hr:=(Zlt e);unfold hiKn noKn;rw[if_neg (by omega),if_neg (by omega),hs b Hr];exact e
 refine⟨cs,vo,vu,He _ _ ?_,h2,Zco.le He h3,h4,Zks.le He h5⟩;unfold Zb3;rw[if_neg (by omega)];exact h1
def NewPost(sp:Nat->Addr)(nb:Bool)(ni:Int)(p:Pr)(w:World)(r:Ending)(w':World):Prop:=
 Ybw w w'/\(((runE p [] ni).1=0/\∃M B ks ord vm,Zao Env.none p.vars=some ks/\Za5 p=.ok ord/\r=.returned (.tuple #[ptrV M,.nilIface])/\w.heap.size<=M/\
   McAt 70 168 126 ⟨ks,Zac p,getI (Zah p),nb,ni⟩ p ord (noKn M w') w' M B ⟨true,Zba ⟨ks,Zac p,getI (Zah p),nb,ni⟩ (Zab 0 p.terms),false⟩ vm/\CodeNewK 126 ⟨ks,Zac p,getI (Zah p),nb,ni⟩ (hiKn w.heap.size (noKn M w')) p ord B)\/
  ((runE p [] ni).1≠0/\∃t v,r=.returned (.tuple #[.pointer none,.iface t v])/\ErrW sp w' (runE p [] ni).1 (runE p [] ni).2 (.iface t v)))
theorem new_any(H:Kn)(T:Zbv H)(sp:Nat->Addr)(p:Pr)(vi vo vl va vc:Value)(hp:PrP H p vi vo vl va vc)(w:World)(hH:H.In w)(S:Sen5 w sp)(nb:Bool)(ni:Int)
  (J5:p.ins.length<=1000000/\p.fl.length<=1000000/\p.outs.length<=1000000000/\p.as.length<=1000000/\p.cs.length<=1000000) (kZ:Ex.partsL p.terms<=1000000000):
  Calls Tryz.prog 19 #[.agg #[vi,vo,vl,va,vc],.bool nb,.int .i64 ni] w (NewPost sp nb ni p w):=by
 obtain⟨z1,z2,z3,z4,z5⟩:=J5;have HP:=Zhd hp;obtain⟨h1,h2,h3,h4,h5⟩:=hp;obtain⟨ai,ci,ao,co,al,cl,aa,ca,ac,cc,rfl,rfl,rfl,rfl,rfl⟩:=Ypo h1.len h2.len h3.len h4.len h5.len;clear h1 h2 h3 h4 h5;have kT:=heap_alloc_new w (.cells (Yq5 p ai ao al aa ac ci co cl ca cc) 42);have Hg:Ybw w (w.alloc (.cells (Yq5 p ai ao al aa ac ci co cl ca cc) 42)):=Yba;have qT:w.heap.size<(w.alloc (.cells (Yq5 p ai ao al aa ac ci co cl ca cc) 42)).heap.size:=by simp
 have J4:=Zhd Hg;have gd:=Zhd kT;clear kT Hg;go_enter Tryz.func19,Tryz.ntmps19;go_wp2_with fail;generalize w.alloc (.cells (Yq5 p ai ao al aa ac ci co cl ca cc) 42)=W0 at *;refine(run_any H T sp p _ _ _ _ _ HP.out [] _ (.inl ⟨rfl,none,0,rfl⟩) W0 (hH.below J4.out) (S.below J4.out) nb ni ⟨z1,z2,z3,z4,z5,λl hl=>by cases hl⟩ kZ).mono ?_;rintro r w1 Hx;obtain⟨Hv,Hx⟩:=Hx.told;have Jn:=Zhd (J4.out.trans (Hv.mono J4.out.size));have yD:=Zhd ((Hv.block w.heap.size qT).trans gd.out);clear Hv qT;rcases Hx with ⟨hE,v,rfl,hv⟩|⟨hE,t,u,rfl,he⟩
 case inr=>
  have HE:=Zhd he;clear he;go_wp2_with fail;go_ret2
  exact⟨Jn.out,.inr ⟨hE,t,u,rfl,HE.out⟩⟩
 obtain⟨av,cv,rfl⟩:=hv.len;clear hv;have ze:=(Zih hE).1;obtain⟨n0,n1,n2,n3,n4⟩:w1.cell? ⟨w.heap.size,0,none⟩=some (.slice ai p.ins.length ci)/\w1.cell? ⟨w.heap.size,1,none⟩=some (.slice ao p.outs.length co)/\w1.cell? ⟨w.heap.size,2,none⟩=some (.slice al p.fl.length cl)/\w1.cell? ⟨w.heap.size,3,none⟩=some (.slice aa p.as.length ca)/\w1.cell? ⟨w.heap.size,4,none⟩=some (.slice ac p.cs.length cc):=by
  have h:=yD.out;refine⟨?_,?_,?_,?_,?_⟩<;>simp[World.cell?,h]
 have HE:=Zhd hE;clear hE;go_wp2_with fail;refine(compile_any H T sp p _ _ _ _ _ HP.out w1 (hH.below Jn.out) (S.below Jn.out) nb ni ⟨z1,z2,z3,z4,z5⟩ kZ).mono ?_;rintro r w3 ⟨Jg,Hx⟩;rw[if_pos ze] at Hx;obtain⟨B,ks,ord,hks,ho,rfl,hC,gy,hnew⟩:=Hx;have HGB:=Zhd gy;have HNEW:=Zhd hnew;have HNS:=Zhd Jn.out.size;clear gy hnew;have Js:=Zhd (Jn.out.trans (Jg.mono Jn.out.size));have gP:=Zhd hks;have HO:=Zhd ho;have HC:=Zhd hC;clear n0 n1 n2 n3 n4 Jg hks ho hC;obtain⟨cs,vI,vo,vf,va,vc,vu,vM,kK,_,_,_,_,_,_,⟨js,jv⟩⟩:=HC.out.ex;have HCD:=Zhd (cd_ready ze gP.out HO.out nb ni z3 z4 z5);have hbM:Ybw w3 (w3.alloc (.cells #[ptrV B,.bool nb,.int .i64 ni,.bool true,Ys0,.bool false] 70)):=Yba;have hM:=heap_alloc_new w3 (.cells #[ptrV B,.bool nb,.int .i64 ni,.bool true,Ys0,.bool false] 70);have zi:w3.heap.size<(w3.alloc (.cells #[ptrV B,.bool nb,.int .i64 ni,.bool true,Ys0,.bool false] 70)).heap.size:=by simp
 have Hy:=start_any ⟨ks,Zac p,getI (Zah p),nb,ni⟩ (Zan w3) B cs (Zab 0 p.terms) vM kK js jv (by rw[Zaw];exact HCD.out.z6) (w3.alloc (.cells #[ptrV B,.bool nb,.int .i64 ni,.bool true,Ys0,.bool false] 70)) ((Za9 w3).below hbM);dsimp only at Hy;have HBM:=Zhd hbM;have HM:=Zhd hM;clear hbM hM kK js jv;go_wp2_with fail;refine Hy.mono ?_;rintro r w5 ⟨vm,rfl,hm,Jf⟩;have xM:=(Jf.block w3.heap.size zi).trans HM.out;have kg:=Zhd (Js.out.trans ((HBM.out.trans (Jf.mono HBM.out.size)).mono Js.out.size));have hn35:∀b,b<w3.heap.size->w5.heap[b]?=w3.heap[b]?:=(HBM.out.trans (Jf.mono HBM.out.size)).block;obtain⟨am,cm,rfl⟩:=hm.len;have HVM:=Zhd hm;have hlM:=Nat.lt_of_lt_of_le zi Jf.size;obtain⟨b5,y5⟩:=Zes xM;have m4:=b5 4;have f4:=y5 4 (by simp);have hm6:=Zaa w5 w3.heap.size 4 (.slice am (Zba ⟨ks,Zac p,getI (Zah p),nb,ni⟩ (Zab 0 p.terms)).length cm) _ _ _ xM;have zD:∀b,b≠w3.heap.size->(w5.setCell ⟨w3.heap.size,4,none⟩ (.slice am (Zba ⟨ks,Zac p,getI (Zah p),nb,ni⟩ (Zab 0 p.terms)).length cm)).heap[b]?=w5.heap[b]?:=λb hb=>Below.heap_setCell w5 ⟨w3.heap.size,4,none⟩ _ b hb;have JX:Ybw w (w5.setCell ⟨w3.heap.size,4,none⟩ (.slice am (Zba ⟨ks,Zac p,getI (Zah p),nb,ni⟩ (Zab 0 p.terms)).length cm)):=kg.out.setCell (p:=⟨w3.heap.size,4,none⟩) Js.out.size _;have zP:=Zhd (show McAt 70 168 126 ⟨ks,Zac p,getI (Zah p),nb,ni⟩ p ord (noKn w3.heap.size (w5.setCell ⟨w3.heap.size,4,none⟩ (.slice am (Zba ⟨ks,Zac p,getI (Zah p),nb,ni⟩ (Zab 0 p.terms)).length cm))) (w5.setCell ⟨w3.heap.size,4,none⟩ (.slice am (Zba ⟨ks,Zac p,getI (Zah p),nb,ni⟩ (Zab 0 p.terms)).length cm)) w3.heap.size B ⟨true,Zba ⟨ks,Zac p,getI (Zah p),nb,ni⟩ (Zab 0 p.terms),false⟩ (.slice am (Zba ⟨ks,Zac p,getI (Zah p),nb,ni⟩ (Zab 0 p.terms)).length cm) from by
  refine⟨by rw[hm6];rfl,Zgh _ _,Zfb _ _,HC.out.le λb o e=>?_,vls_apart (x0:=true) HVM.out (λk z h=>by cases h) xM zD,by simp[Zba,Zaw]⟩;have Hr:b<w3.heap.size:=(Zlt e);unfold noKn;rw[if_neg (by omega),zD b (by omega),hn35 b Hr];exact e)
 have HNK:=Zhd (HNEW.out.fin (n:=w.heap.size) (M:=w3.heap.size) HNS.out HGB.out Ylr (λb hb=>(zD b (by omega)).trans (hn35 b hb)));have ve:=Zhd JX;clear HNEW HGB;have HMG:=Zhd Js.out.size;clear xM hm6 zD JX hm Jf Hy b5 y5 hn35;generalize (Zba ⟨ks,Zac p,getI (Zah p),nb,ni⟩ (Zab 0 p.terms)).length=LN at *;generalize w3.heap.size=M at *;go_wp2_with fail;go_ret2
 exact⟨ve.out,.inl ⟨HE.out,M,B,ks,ord,_,gP.out,HO.out,rfl,HMG.out,zP.out,HNK.out⟩⟩
end Go.Proofs.YtafapnolamcdmaaGreatDoor
