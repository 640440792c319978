/- Walks: lustrumref2.ApplyOf, by kinds of operators. (Printed by gen_ay2.py.) -/
import Derived.Test.YtafapnolamcdmaaGreatDoorAyA
import Derived.Test.YtafapnolamcdmaaGreatDoorCpM
set_option linter.all false
namespace Go.Proofs.YtafapnolamcdmaaGreatDoor
set_option maxRecDepth 100000
set_option maxHeartbeats 16000000
open Go.RowKit Mx
theorem mAyO1{p:Prop}(h:p:=by
 rw[Below.heap_alloc _ _ _ (by simp;omega),Below.heap_alloc _ _ _ (by simp)];exact heap_alloc_new _ _):p:=h
theorem Zf1{w:World}{b o:Nat}{v:Value}(h:w.cell? ⟨b,o,none⟩=some v):b<w.heap.size:=by
 unfold World.cell? at h;cases e:w.heap[b]? with
 |none=>simp[e] at h
 |some x=>exact(Zlt e)
theorem Zb1{w:World}{b i:Nat}{v:Value}(hb:b<w.heap.size)(h:w.cell? ⟨b,i,none⟩=some v):(∀o,(w.alloc o).cell? ⟨b,i,none⟩=some v)/\∀o o',((w.alloc o).alloc o').cell? ⟨b,i,none⟩=some v:=by
 have h1:∀o,(w.alloc o).cell? ⟨b,i,none⟩=some v:=λo=>(((Below.refl w.heap.size w).alloc Ylr o).cell (p:=⟨b,i,none⟩) hb).trans h;exact⟨h1,λo o'=>(((Below.refl (w.alloc o).heap.size (w.alloc o)).alloc Ylr o').cell (p:=⟨b,i,none⟩) (by simp;omega)).trans (h1 o)⟩
theorem Zhu(n:Nat):∀(l:List Obj) (w0 w:World),Below n w0 w->n<=w.heap.size->Below n w0 (l.foldl World.alloc w)
 | [],_,_,h,_=>h
 |o :: l,w0,w,h,hn=>by rw[List.foldl_cons];exact Zhu n l w0 _ (h.alloc hn o) (by simp;omega)
theorem below_allocsA(l:List Obj)(w:World):Ybw w (l.foldl World.alloc w):=Zhu _ l w w (Below.refl _ _) Ylr
theorem Zkc:∀(l:List Obj) (w:World) (i:Nat),i<l.length->(l.foldl World.alloc w).heap[w.heap.size+i]?=l[i]?
 | [],w,i,h=>by simp at h
 |o :: l,w,0,_=>by
  rw[List.foldl_cons];have h1:=(below_allocsA l (w.alloc o)).block w.heap.size (by simp);rw[Nat.add_zero,h1,heap_alloc_new];rfl
 |o :: l,w,i+1,h=>by
  rw[List.foldl_cons];have h1:=Zkc l (w.alloc o) i (by simpa using h);rw[World.size_alloc] at h1;rw[show w.heap.size+(i+1)=w.heap.size+1+i from by omega,h1];rfl
theorem Zi9{n:Int}(h1 : -1000000<=n)(h2:n<=1000000):IntKind.wrap .i64 n=n:=by
 rw[wrap64]
 split<;>omega
theorem Zj0{w:World}{b i:Nat}{v:Value}(hb:b<w.heap.size)(h:w.cell? ⟨b,i,none⟩=some v):∀o o' o'',(((w.alloc o).alloc o').alloc o'').cell? ⟨b,i,none⟩=some v:=λo o' o''=>
 (((Below.refl ((w.alloc o).alloc o').heap.size ((w.alloc o).alloc o')).alloc Ylr o'').cell (p:=⟨b,i,none⟩) (by simp;omega)).trans ((Zb1 hb h).2 o o')
theorem rtruthZ(b:Bool)(w:World):Calls Tryz.prog 58 #[.bool b] w λe w'=>∃z:Int,tv b=⟨1,z⟩/\e=.returned (.agg #[.int .i64 1,.int .i64 z])/\Ybw w w':=
 (Zdw b w).mono λ_ _ h=>⟨_,rfl,h⟩
theorem raroundZ(n:Int)(w:World):Calls Tryz.prog 122 #[.int .i64 n] w λr w'=>∃z:Int,Zdt n=z/\r=.returned (.int .i64 z)/\w=w':=
 (Zh1 n w).mono λ_ _ h=>⟨_,rfl,h⟩
theorem Zcv{o:ByteArray}(x y:Vl){v:Bool}(hC:((o=oAnd\/o=oOr\/o=oXor\/o=oImp)/\(x.n=0\/x.n=1)/\(y.n=0\/y.n=1))\/(o=oEq/\x.kind=y.kind/\(x.n==y.n)=v)\/(o=oNe/\x.kind=y.kind/\(x.n != y.n)=v)\/(o=oLt/\x.kind=x.kind/\decide (x.n<y.n)=v)\/(o=oLe/\x.kind=x.kind/\decide (x.n<=y.n)=v)\/(o=oGt/\x.kind=x.kind/\decide (y.n<x.n)=v)\/(o=oGe/\x.kind=x.kind/\decide (y.n<=x.n)=v))(hr:appM o [x,y]=(tv v,false))(b off c:Nat)(w:World)(hc:∀i (h:i<2),w.cell? ⟨b,off+i * 2,none⟩=some (.int .i64 ([x,y][i]).kind)/\w.cell? ⟨b,off+i * 2+1,none⟩=some (.int .i64 ([x,y][i]).n)):
  Calls Tryz.prog 107 #[.string o,.slice (some ⟨b,off,none⟩) 2 c] w λr w'=>r=.returned (.tuple #[vlV (appM o [x,y]).1,.bool (appM o [x,y]).2])/\Ybw w w':=by
 obtain⟨xk,xn⟩:=x;obtain⟨yk,yn⟩:=y;have hb:b<w.heap.size:=Zf1 (hc 0 (by decide)).1;obtain⟨p0,zB⟩:=hc 0 (by decide);obtain⟨p1,vj⟩:=hc 1 (by decide);simp only[List.getElem_cons_zero,List.getElem_cons_succ,Nat.zero_mul,Nat.one_mul,Nat.add_zero,Nat.reduceMul] at p0 zB p1 vj;obtain⟨a0,b0⟩:=Zb1 hb p0;obtain⟨a0n,b0n⟩:=Zb1 hb zB;obtain⟨a1,b1⟩:=Zb1 hb p1;obtain⟨a1n,b1n⟩:=Zb1 hb vj;clear hc;have Ji:∀x y:Obj,Ybw w (((w.alloc (.cells Yo2 101)).alloc x).alloc y):=λx y=>(Yba.alloc (by simp) _).alloc (by simp;omega) _;have qj:∀x y:Obj,(((w.alloc (.cells Yo2 101)).alloc x).alloc y).heap[w.heap.size]?=some (.cells Yo2 101 (0,0)):=λx y=>by
  exact mAyO1
 have Js:=Zhd (show ∀z x y:Obj,Ybw w (((w.alloc z).alloc x).alloc y) from λz x y=>(Yba.alloc (by simp) _).alloc (by simp;omega) _);have xI:=Zhd Ji;have yc:=Zhd qj;clear Ji qj;dsimp only at hC;have HR:=Zhd hr;clear hr;rcases hC with ⟨ho,hx,hy⟩|⟨rfl,hk,hc⟩|⟨rfl,hk,hc⟩|⟨rfl,hk,hc⟩|⟨rfl,hk,hc⟩|⟨rfl,hk,hc⟩|⟨rfl,hk,hc⟩<;>first|(rcases ho with rfl|rfl|rfl|rfl<;>rcases hx with rfl|rfl<;>rcases hy with rfl|rfl)|(subst hk;cases v)|(clear hk;cases v)
 all_goals
  go_enter Tryz.func107,Tryz.ntmps107;go_wp2_with fail;refine(rtruthZ _ _).mono ?_;rintro r w5 ⟨z,hz,rfl,Jf⟩;have HZ:=Zhd hz;clear hz;have kN:=(Jf.block w.heap.size (by simp;omega)).trans (yc.out _ _);have Qz:=(xI.out _ _).trans (Jf.mono (by simp;omega));have E5:=Zhd (set2A kN);obtain⟨r0,r1,f0,f1,_⟩:=Zal kN;have kg:=Zhd Qz;clear kN Qz Jf;go_wp2_with fail;have e0:=λu v=>(E5.out u v).1;have e1:=λu v=>(E5.out u v).2;refine bodyPost_ret (v:=.tuple #[.agg #[.int .i64 1,.int .i64 z],.bool false]) (by simp[results,Tryz.results107,go_sem,e0,e1]) rfl ?_;refine⟨?_,(kg.out.setCell (p:=⟨w.heap.size,0,none⟩) Ylr _).setCell (p:=⟨w.heap.size,1,none⟩) Ylr _⟩;have hz:=HZ.out;have hr:=HR.out;cases hz
  first|rfl|(rw[hr];rfl)
theorem Zg3{o:ByteArray}(x y:Vl)(hx : -128<=x.n/\x.n<=127)(hy : -128<=y.n/\y.n<=127){e:Int}(hC:(o=oAdd/\x.n=x.n/\x.n+y.n=e)\/(o=oSub/\x.n=x.n/\x.n - y.n=e)\/(o=oMul/\x.n=x.n/\x.n * y.n=e)\/(o=oDiv/\y.n≠0/\x.n.tdiv y.n=e))(hr:appM o [x,y]=(wv e,false))(b off c:Nat)(w:World)(hc:∀i (h:i<2),w.cell? ⟨b,off+i * 2,none⟩=some (.int .i64 ([x,y][i]).kind)/\w.cell? ⟨b,off+i * 2+1,none⟩=some (.int .i64 ([x,y][i]).n)):
  Calls Tryz.prog 107 #[.string o,.slice (some ⟨b,off,none⟩) 2 c] w λr w'=>r=.returned (.tuple #[vlV (appM o [x,y]).1,.bool (appM o [x,y]).2])/\Ybw w w':=by
 obtain⟨xk,xn⟩:=x;obtain⟨yk,yn⟩:=y;have hb:b<w.heap.size:=Zf1 (hc 0 (by decide)).1;obtain⟨p0,zB⟩:=hc 0 (by decide);obtain⟨p1,vj⟩:=hc 1 (by decide);simp only[List.getElem_cons_zero,List.getElem_cons_succ,Nat.zero_mul,Nat.one_mul,Nat.add_zero,Nat.reduceMul] at p0 zB p1 vj;obtain⟨a0,b0⟩:=Zb1 hb p0;obtain⟨a0n,b0n⟩:=Zb1 hb zB;obtain⟨a1,b1⟩:=Zb1 hb p1;obtain⟨a1n,b1n⟩:=Zb1 hb vj;clear hc;have Ji:∀x y:Obj,Ybw w (((w.alloc (.cells Yo2 101)).alloc x).alloc y):=λx y=>(Yba.alloc (by simp) _).alloc (by simp;omega) _;have qj:∀x y:Obj,(((w.alloc (.cells Yo2 101)).alloc x).alloc y).heap[w.heap.size]?=some (.cells Yo2 101 (0,0)):=λx y=>by
  exact mAyO1
 have Js:=Zhd (show ∀z x y:Obj,Ybw w (((w.alloc z).alloc x).alloc y) from λz x y=>(Yba.alloc (by simp) _).alloc (by simp;omega) _);have xI:=Zhd Ji;have yc:=Zhd qj;clear Ji qj;dsimp only at hx hy hC;obtain⟨jK,qt⟩:=hx;obtain⟨zo,zU⟩:=hy;obtain⟨gx,hm2⟩:=mul_bound jK qt zo zU;obtain⟨hm3,hm4⟩:=tdiv_bound (b:=yn) jK qt;have HR:=Zhd hr;clear hr;rcases hC with ⟨rfl,h0,rfl⟩|⟨rfl,h0,rfl⟩|⟨rfl,h0,rfl⟩|⟨rfl,h0,rfl⟩
 all_goals
  go_enter Tryz.func107,Tryz.ntmps107;go_wp2_with fail;refine(raroundZ _ _).mono ?_;rintro r w5 ⟨z,hz,rfl,rfl⟩;have HZ:=Zhd hz;clear hz;go_wp2_with fail;refine bodyPost_ret (v:=.tuple #[.agg #[.int .i64 2,.int .i64 z],.bool false]) (by simp[results,Tryz.results107,go_sem]) rfl ?_;refine⟨?_,Js.out _ _ _⟩;rw[HR.out,<- HZ.out];rfl
theorem rapp_mod(x y:Vl)(hx : -128<=x.n/\x.n<=127)(hy : -128<=y.n/\y.n<=127)(h0:y.n≠0)(b off c:Nat)(w:World)(hc:∀i (h:i<2),w.cell? ⟨b,off+i * 2,none⟩=some (.int .i64 ([x,y][i]).kind)/\w.cell? ⟨b,off+i * 2+1,none⟩=some (.int .i64 ([x,y][i]).n)):
  Calls Tryz.prog 107 #[.string oMod,.slice (some ⟨b,off,none⟩) 2 c] w λr w'=>r=.returned (.tuple #[vlV (appM oMod [x,y]).1,.bool (appM oMod [x,y]).2])/\Ybw w w':=by
 obtain⟨xk,xn⟩:=x;obtain⟨yk,yn⟩:=y;have hb:b<w.heap.size:=Zf1 (hc 0 (by decide)).1;obtain⟨p0,zB⟩:=hc 0 (by decide);obtain⟨p1,vj⟩:=hc 1 (by decide);simp only[List.getElem_cons_zero,List.getElem_cons_succ,Nat.zero_mul,Nat.one_mul,Nat.add_zero,Nat.reduceMul] at p0 zB p1 vj;obtain⟨a0,b0⟩:=Zb1 hb p0;obtain⟨a0n,b0n⟩:=Zb1 hb zB;obtain⟨a1,b1⟩:=Zb1 hb p1;obtain⟨a1n,b1n⟩:=Zb1 hb vj;clear hc;have Ji:∀x y:Obj,Ybw w (((w.alloc (.cells Yo2 101)).alloc x).alloc y):=λx y=>(Yba.alloc (by simp) _).alloc (by simp;omega) _;have qj:∀x y:Obj,(((w.alloc (.cells Yo2 101)).alloc x).alloc y).heap[w.heap.size]?=some (.cells Yo2 101 (0,0)):=λx y=>by
  exact mAyO1
 have Js:=Zhd (show ∀z x y:Obj,Ybw w (((w.alloc z).alloc x).alloc y) from λz x y=>(Yba.alloc (by simp) _).alloc (by simp;omega) _);have xI:=Zhd Ji;have yc:=Zhd qj;clear Ji qj;dsimp only at hx hy h0;obtain⟨jK,qt⟩:=hx;obtain⟨gx,hm2⟩:=tdiv_bound (b:=yn) jK qt;have hts:=tmod_sub xn yn;obtain⟨hm3,hm4⟩ : -1000<=xn.tdiv yn * yn/\xn.tdiv yn * yn<=1000:=by
  obtain⟨h2,h3⟩:=tmod_bound (b:=yn) jK qt;generalize xn.tdiv yn * yn=q at *;omega
 have HTS:=Zhd hts;clear hts;go_enter Tryz.func107,Tryz.ntmps107;go_wp2_with fail;have hR:=yc.out (.cells #[.int .i64 xk,.int .i64 xn] 101) (.cells #[.int .i64 yk,.int .i64 yn] 101);have hB:=xI.out (.cells #[.int .i64 xk,.int .i64 xn] 101) (.cells #[.int .i64 yk,.int .i64 yn] 101);have hs:=λi=>Zkc [Obj.cells Yo2 101,Obj.cells #[.int .i64 xk,.int .i64 xn] 101,Obj.cells #[.int .i64 yk,.int .i64 yn] 101] w i;simp only[List.foldl_cons,List.foldl_nil] at hs;have s1:=hs 1 (by simp only[List.length_cons,List.length_nil];omega);have s2:=hs 2 (by simp only[List.length_cons,List.length_nil];omega);have k0:(noKn w.heap.size (((w.alloc (.cells Yo2 101)).alloc (.cells #[.int .i64 xk,.int .i64 xn] 101)).alloc (.cells #[.int .i64 yk,.int .i64 yn] 101))).cell (w.heap.size+1) 1=some (.int .i64 xn):=by
  rw[Zep (by omega)];unfold World.cell?;rw[s1];rfl
 have k1:(noKn w.heap.size (((w.alloc (.cells Yo2 101)).alloc (.cells #[.int .i64 xk,.int .i64 xn] 101)).alloc (.cells #[.int .i64 yk,.int .i64 yn] 101))).cell (w.heap.size+2) 1=some (.int .i64 yn):=by
  rw[Zep (by omega)];unfold World.cell?;rw[s2];rfl
 have hS:=Zgh w.heap.size (((w.alloc (.cells Yo2 101)).alloc (.cells #[.int .i64 xk,.int .i64 xn] 101)).alloc (.cells #[.int .i64 yk,.int .i64 yn] 101));have Jo:=Zfb w.heap.size (((w.alloc (.cells Yo2 101)).alloc (.cells #[.int .i64 xk,.int .i64 xn] 101)).alloc (.cells #[.int .i64 yk,.int .i64 yn] 101));generalize noKn w.heap.size (((w.alloc (.cells Yo2 101)).alloc (.cells #[.int .i64 xk,.int .i64 xn] 101)).alloc (.cells #[.int .i64 yk,.int .i64 yn] 101))=KK at *;generalize ((w.alloc (.cells Yo2 101)).alloc (.cells #[.int .i64 xk,.int .i64 xn] 101)).alloc (.cells #[.int .i64 yk,.int .i64 yn] 101)=W3 at *;have hS:KK.In W3.drew:=hS;have hR:W3.drew.heap[w.heap.size]?=some (.cells Yo2 101 (0,0)):=hR;have hB:Ybw w W3.drew:=hB.drew;have E5:=Zhd (set2A hR);obtain⟨r0,r1,f0,f1,_⟩:=Zal hR;have kg:=Zhd hB;clear hR hB;refine Zae (λw'=>KK.In w') (λ_=>True) 99 (by kernel_rfl) ?_;generalize W3.drew=Wd at *;refine Go.w3 0 ?_
 iterate 11 ((first|(refine tk3 (v:=?_) rfl hS Ztr ?hy ?_;(case hy=>intro w Hi;have z0:=Hi.cell k0;have z1:=Hi.cell k1;go_simp<;>with_reducible rfl))|refine sk3 rfl hS Ztr ?_|refine no3 ?_);refine Zss ?_)
 refine Go.w3e ?_;refine Zwo 11 rfl λK_ hK=>?_;go_simp;go_at_call 122;refine(Zh1 _ _).mono ?_;rintro r w5 ⟨rfl,rfl⟩;refine hK.out _ _ (hS) Ztr ?_;clear hK K_;refine Zst ?_;refine Zdu (i:=12) (oi:=_) (v:=?_) rfl (by decide) (by kernel_rfl) (by kernel_rfl) (by kernel_rfl) (by kernel_rfl) (λ_ _ _ h=>h) hS Ztr (Or.inl ⟨by rfl,?hy⟩) ?_
 case hy=>intro w Hi;have z0:=Hi.cell k0;have z1:=Hi.cell k1;go_simp<;>with_reducible rfl
 refine Zst ?_;refine Zwo 13 rfl λK_ hK=>?_;go_simp;refine hK.out _ _ (((hS.setCell (a:=⟨w.heap.size,0,none⟩) Jo _).setCell (a:=⟨w.heap.size,1,none⟩) Jo _)) Ztr ?_;clear hK K_;refine Zst ?_;refine Zdu (i:=14) (oi:=_) (v:=?_) rfl (by decide) (by kernel_rfl) (by kernel_rfl) (by kernel_rfl) (by kernel_rfl) (λ_ _ _ h=>h) ((hS.setCell (a:=⟨w.heap.size,0,none⟩) Jo _).setCell (a:=⟨w.heap.size,1,none⟩) Jo _) Ztr (Or.inl ⟨by rfl,?hy⟩) ?_
 case hy=>intro w Hi;have z0:=Hi.cell k0;have z1:=Hi.cell k1;go_simp<;>with_reducible rfl
 refine Zst ?_;refine Zwd ?_;go_wp2_with fail;have e2:IntKind.wrap .i64 (xn - IntKind.wrap .i64 (IntKind.wrap .i64 (xn.tdiv yn) * yn))=xn.tmod yn:=by
  rw[Zi9 (n:=xn.tdiv yn) (by omega) (by omega),Zi9 (n:=xn.tdiv yn * yn) (by omega) (by omega),HTS.out];obtain⟨h2,h3⟩:=tmod_bound (b:=yn) jK qt;exact Zi9 (by omega) (by omega)
 have e0:=λu v=>(E5.out u v).1;have e1:=λu v=>(E5.out u v).2;refine bodyPost_ret (v:=.tuple #[.agg #[.int .i64 2,.int .i64 (Zdt (IntKind.wrap .i64 (xn - IntKind.wrap .i64 (IntKind.wrap .i64 (xn.tdiv yn) * yn))))],.bool false]) (by simp[results,Tryz.results107,go_sem,e0,e1]) rfl ?_;refine⟨?_,(kg.out.setCell (p:=⟨w.heap.size,0,none⟩) Ylr _).setCell (p:=⟨w.heap.size,1,none⟩) Ylr _⟩;rw[e2];simp[appM,vlV,wv,h0]
theorem rapp_trap{o:ByteArray}(x y:Vl)(hC:o=oDiv\/o=oMod)(h0:y.n=0)(b off c:Nat)(w:World)(hc:∀i (h:i<2),w.cell? ⟨b,off+i * 2,none⟩=some (.int .i64 ([x,y][i]).kind)/\w.cell? ⟨b,off+i * 2+1,none⟩=some (.int .i64 ([x,y][i]).n)):
  Calls Tryz.prog 107 #[.string o,.slice (some ⟨b,off,none⟩) 2 c] w λr w'=>r=.returned (.tuple #[vlV (appM o [x,y]).1,.bool (appM o [x,y]).2])/\Ybw w w':=by
 obtain⟨xk,xn⟩:=x;obtain⟨yk,yn⟩:=y;have hb:b<w.heap.size:=Zf1 (hc 0 (by decide)).1;obtain⟨p0,zB⟩:=hc 0 (by decide);obtain⟨p1,vj⟩:=hc 1 (by decide);simp only[List.getElem_cons_zero,List.getElem_cons_succ,Nat.zero_mul,Nat.one_mul,Nat.add_zero,Nat.reduceMul] at p0 zB p1 vj;obtain⟨a0,b0⟩:=Zb1 hb p0;obtain⟨a0n,b0n⟩:=Zb1 hb zB;obtain⟨a1,b1⟩:=Zb1 hb p1;obtain⟨a1n,b1n⟩:=Zb1 hb vj;clear hc;have Ji:∀x y:Obj,Ybw w (((w.alloc (.cells Yo2 101)).alloc x).alloc y):=λx y=>(Yba.alloc (by simp) _).alloc (by simp;omega) _;have qj:∀x y:Obj,(((w.alloc (.cells Yo2 101)).alloc x).alloc y).heap[w.heap.size]?=some (.cells Yo2 101 (0,0)):=λx y=>by
  exact mAyO1
 have Js:=Zhd (show ∀z x y:Obj,Ybw w (((w.alloc z).alloc x).alloc y) from λz x y=>(Yba.alloc (by simp) _).alloc (by simp;omega) _);have xI:=Zhd Ji;have yc:=Zhd qj;clear Ji qj;dsimp only at h0;subst h0;rcases hC with rfl|rfl
 all_goals
  go_enter Tryz.func107,Tryz.ntmps107;go_wp2_with fail;refine bodyPost_ret (v:=.tuple #[.agg Yo2,.bool true]) (by simp[results,Tryz.results107,go_sem]) rfl ?_;exact⟨rfl,Js.out _ _ _⟩
theorem rapp_not(x:Vl)(b off c:Nat)(w:World)(hc:∀i (h:i<1),w.cell? ⟨b,off+i * 2,none⟩=some (.int .i64 ([x][i]).kind)/\w.cell? ⟨b,off+i * 2+1,none⟩=some (.int .i64 ([x][i]).n)):
  Calls Tryz.prog 107 #[.string oNot,.slice (some ⟨b,off,none⟩) 1 c] w λr w'=>r=.returned (.tuple #[vlV (appM oNot [x]).1,.bool (appM oNot [x]).2])/\Ybw w w':=by
 obtain⟨xk,xn⟩:=x;have hb:b<w.heap.size:=Zf1 (hc 0 (by decide)).1;obtain⟨p0,zB⟩:=hc 0 (by decide);simp only[List.getElem_cons_zero,List.getElem_cons_succ,Nat.zero_mul,Nat.one_mul,Nat.add_zero,Nat.reduceMul] at p0 zB;obtain⟨a0,b0⟩:=Zb1 hb p0;obtain⟨a0n,b0n⟩:=Zb1 hb zB;clear hc;have Ji:∀x y:Obj,Ybw w (((w.alloc (.cells Yo2 101)).alloc x).alloc y):=λx y=>(Yba.alloc (by simp) _).alloc (by simp;omega) _;have qj:∀x y:Obj,(((w.alloc (.cells Yo2 101)).alloc x).alloc y).heap[w.heap.size]?=some (.cells Yo2 101 (0,0)):=λx y=>by
  exact mAyO1
 have Js:=Zhd (show ∀z x y:Obj,Ybw w (((w.alloc z).alloc x).alloc y) from λz x y=>(Yba.alloc (by simp) _).alloc (by simp;omega) _);have xI:=Zhd Ji;have yc:=Zhd qj;clear Ji qj;by_cases h:xn=0
 .have h2:(xn==0)=true:=by simpa using h
  go_enter Tryz.func107,Tryz.ntmps107;go_wp2_with fail;refine(Zdw _ _).mono ?_;rintro r w5 ⟨rfl,Jf⟩;have kN:=(Jf.block w.heap.size (by simp;omega)).trans (yc.out _ _);have Qz:=(xI.out _ _).trans (Jf.mono (by simp;omega));have E5:=Zhd (set2A kN);obtain⟨r0,r1,f0,f1,_⟩:=Zal kN;have kg:=Zhd Qz;clear kN Qz Jf;simp only[vlV,tv,h2,Bool.false_eq_true,if_false,if_true];go_wp2_with fail;have e0:=λu v=>(E5.out u v).1;have e1:=λu v=>(E5.out u v).2;refine bodyPost_ret (v:=.tuple #[.agg #[.int .i64 1,.int .i64 1],.bool false]) (by simp[results,Tryz.results107,go_sem,e0,e1]) rfl ?_;refine⟨?_,(kg.out.setCell (p:=⟨w.heap.size,0,none⟩) Ylr _).setCell (p:=⟨w.heap.size,1,none⟩) Ylr _⟩;simp[appM,vlV,tv,h]
 have h2:(xn==0)=false:=by simpa using h
 go_enter Tryz.func107,Tryz.ntmps107;go_wp2_with fail;refine(Zdw _ _).mono ?_;rintro r w5 ⟨rfl,Jf⟩;have kN:=(Jf.block w.heap.size (by simp;omega)).trans (yc.out _ _);have Qz:=(xI.out _ _).trans (Jf.mono (by simp;omega));have E5:=Zhd (set2A kN);obtain⟨r0,r1,f0,f1,_⟩:=Zal kN;have kg:=Zhd Qz;clear kN Qz Jf;simp only[vlV,tv,h2,Bool.false_eq_true,if_false,if_true];go_wp2_with fail;have e0:=λu v=>(E5.out u v).1;have e1:=λu v=>(E5.out u v).2;refine bodyPost_ret (v:=.tuple #[.agg #[.int .i64 1,.int .i64 0],.bool false]) (by simp[results,Tryz.results107,go_sem,e0,e1]) rfl ?_;refine⟨?_,(kg.out.setCell (p:=⟨w.heap.size,0,none⟩) Ylr _).setCell (p:=⟨w.heap.size,1,none⟩) Ylr _⟩;simp[appM,vlV,tv,h]
theorem rapp_neg(x:Vl)(hx : -128<=x.n/\x.n<=127)(b off c:Nat)(w:World)(hc:∀i (h:i<1),w.cell? ⟨b,off+i * 2,none⟩=some (.int .i64 ([x][i]).kind)/\w.cell? ⟨b,off+i * 2+1,none⟩=some (.int .i64 ([x][i]).n)):
  Calls Tryz.prog 107 #[.string oNeg,.slice (some ⟨b,off,none⟩) 1 c] w λr w'=>r=.returned (.tuple #[vlV (appM oNeg [x]).1,.bool (appM oNeg [x]).2])/\Ybw w w':=by
 obtain⟨xk,xn⟩:=x;have hb:b<w.heap.size:=Zf1 (hc 0 (by decide)).1;obtain⟨p0,zB⟩:=hc 0 (by decide);simp only[List.getElem_cons_zero,List.getElem_cons_succ,Nat.zero_mul,Nat.one_mul,Nat.add_zero,Nat.reduceMul] at p0 zB;obtain⟨a0,b0⟩:=Zb1 hb p0;obtain⟨a0n,b0n⟩:=Zb1 hb zB;clear hc;have Ji:∀x y:Obj,Ybw w (((w.alloc (.cells Yo2 101)).alloc x).alloc y):=λx y=>(Yba.alloc (by simp) _).alloc (by simp;omega) _;have qj:∀x y:Obj,(((w.alloc (.cells Yo2 101)).alloc x).alloc y).heap[w.heap.size]?=some (.cells Yo2 101 (0,0)):=λx y=>by
  exact mAyO1
 have Js:=Zhd (show ∀z x y:Obj,Ybw w (((w.alloc z).alloc x).alloc y) from λz x y=>(Yba.alloc (by simp) _).alloc (by simp;omega) _);have xI:=Zhd Ji;have yc:=Zhd qj;clear Ji qj;dsimp only at hx;obtain⟨jK,qt⟩:=hx;go_enter Tryz.func107,Tryz.ntmps107;go_wp2_with fail;refine(Zh1 _ _).mono ?_;rintro r w5 ⟨rfl,rfl⟩;go_wp2_with fail;refine bodyPost_ret (v:=.tuple #[.agg #[.int .i64 2,.int .i64 (Zdt (256 - xn))],.bool false]) (by simp[results,Tryz.results107,go_sem]) rfl ?_;refine⟨?_,Js.out _ _ _⟩;have e:Zdt (256 - xn)=Zdt (-xn):=by
  have h:(256 - xn) % 256=(-xn) % 256:=by omega
  unfold Zdt;rw[h]
 rw[e];rfl
theorem rapp_if(x y u:Vl)(b off c:Nat)(w:World)(hc:∀i (h:i<3),w.cell? ⟨b,off+i * 2,none⟩=some (.int .i64 ([x,y,u][i]).kind)/\w.cell? ⟨b,off+i * 2+1,none⟩=some (.int .i64 ([x,y,u][i]).n)):
  Calls Tryz.prog 107 #[.string oIf,.slice (some ⟨b,off,none⟩) 3 c] w λr w'=>r=.returned (.tuple #[vlV (appM oIf [x,y,u]).1,.bool (appM oIf [x,y,u]).2])/\Ybw w w':=by
 obtain⟨xk,xn⟩:=x;obtain⟨yk,yn⟩:=y;obtain⟨uk,un⟩:=u;have hb:b<w.heap.size:=Zf1 (hc 0 (by decide)).1;obtain⟨p0,zB⟩:=hc 0 (by decide);obtain⟨p1,vj⟩:=hc 1 (by decide);obtain⟨p2,p2n⟩:=hc 2 (by decide);simp only[List.getElem_cons_zero,List.getElem_cons_succ,Nat.zero_mul,Nat.one_mul,Nat.add_zero,Nat.reduceMul] at p0 zB p1 vj p2 p2n;obtain⟨a0,b0⟩:=Zb1 hb p0;obtain⟨a0n,b0n⟩:=Zb1 hb zB;obtain⟨a1,b1⟩:=Zb1 hb p1;obtain⟨a1n,b1n⟩:=Zb1 hb vj;obtain⟨a2,b2⟩:=Zb1 hb p2;obtain⟨a2n,b2n⟩:=Zb1 hb p2n;clear hc;have Ji:∀x y:Obj,Ybw w (((w.alloc (.cells Yo2 101)).alloc x).alloc y):=λx y=>(Yba.alloc (by simp) _).alloc (by simp;omega) _;have qj:∀x y:Obj,(((w.alloc (.cells Yo2 101)).alloc x).alloc y).heap[w.heap.size]?=some (.cells Yo2 101 (0,0)):=λx y=>by
  exact mAyO1
 have Js:=Zhd (show ∀z x y:Obj,Ybw w (((w.alloc z).alloc x).alloc y) from λz x y=>(Yba.alloc (by simp) _).alloc (by simp;omega) _);have xI:=Zhd Ji;have yc:=Zhd qj;clear Ji qj;have c0:=Zj0 hb p0;have c0n:=Zj0 hb zB;have c1:=Zj0 hb p1;have c1n:=Zj0 hb vj;have c2:=Zj0 hb p2;have c2n:=Zj0 hb p2n;by_cases h:xn=1
 .have h2:(xn==1)=true:=by simpa using h
  go_enter Tryz.func107,Tryz.ntmps107;go_wp2_with fail;refine bodyPost_ret (v:=.tuple #[.agg #[.int .i64 yk,.int .i64 yn],.bool false]) (by simp[results,Tryz.results107,go_sem]) rfl ?_;refine⟨?_,Js.out _ _ _⟩;simp[appM,vlV,h]
 have h2:(xn==1)=false:=by simpa using h
 go_enter Tryz.func107,Tryz.ntmps107;go_wp2_with fail;refine bodyPost_ret (v:=.tuple #[.agg #[.int .i64 uk,.int .i64 un],.bool false]) (by simp[results,Tryz.results107,go_sem]) rfl ?_;refine⟨?_,Js.out _ _ _⟩;simp[appM,vlV,h]
theorem isApp_zero{o:ByteArray}{l:List Vl}(h:isApp o l=0):Zcx o=some (l.length:Int)/\1<=l.length/\o≠oPre/\o≠Zbk/\o≠oFby/\(∀x∈l,Zaq x x.kind=true)/\Zct o 0 (l.map (·.kind))≠0:=by
 unfold isApp at h;cases e:Zcx o with
 |none=>rw[e] at h;cases h
 |some k=>
  rw[e] at h;dsimp only at h
  split at h
  .cases h
  rename_i hn
  simp only[not_or] at hn;obtain⟨h1,h2,h3,h4,h5⟩:=hn;have hk:k=(l.length:Int):=Classical.byContradiction h2
  split at h
  .cases h
  rename_i ha
  split at h
  .cases h
  rename_i hb
  exact⟨by rw[hk],by omega,h3,h4,h5,List.all_eq_true.1 (by simpa using ha),hb⟩
theorem Zc0{x:Vl}(h:Zaq x x.kind=true)(hk:x.kind=2) : -128<=x.n/\x.n<=127:=by
 unfold Zaq at h;rw[hk] at h;simp at h;exact h
theorem Zdi{x:Vl}(h:Zaq x x.kind=true)(hk:x.kind=1):x.n=0\/x.n=1:=by
 unfold Zaq at h;rw[hk] at h;simpa using h
theorem kb_same{a b:Int}(k:Int)(h:(if (decide (a=b)&&decide (a=k))=true then(1:Int) else 0)≠0):a=k/\b=k:=by
 split at h
 .rename_i e
  simp only[Bool.and_eq_true,decide_eq_true_eq] at e;exact⟨e.2,by rw[<- e.1];exact e.2⟩
 exact absurd rfl h
theorem Zjo{a b:Int}(h:(if (decide (a=b)&&decide (a=2))=true then(2:Int) else 0)≠0):a=2/\b=2:=by
 split at h
 .rename_i e
  simp only[Bool.and_eq_true,decide_eq_true_eq] at e;exact⟨e.2,by rw[<- e.1];exact e.2⟩
 exact absurd rfl h
theorem kb_eq{a b:Int}(h:(if decide (a=b)=true then(1:Int) else 0)≠0):a=b:=by
 split at h
 .rename_i e
  simpa using e
 exact absurd rfl h
theorem rapply_any(H:Kn)(o:ByteArray)(l:List Vl)(h0:isApp o l=0)(v:Value)(hv:VlsV H l v)(w:World)(hH:H.In w):
  Calls Tryz.prog 107 #[.string o,v] w λr w'=>r=.returned (.tuple #[vlV (appM o l).1,.bool (appM o l).2])/\Ybw w w':=by
 obtain⟨ha,h1,hp,hq,hr,qU,kh⟩:=isApp_zero h0;rcases hv with ⟨rfl,_⟩|⟨b,off,Ha,rfl,_,_,hc⟩
 .simp at h1
 have q7:∀i (h:i<l.length),w.cell? ⟨b,off+i * 2,none⟩=some (.int .i64 l[i].kind)/\w.cell? ⟨b,off+i * 2+1,none⟩=some (.int .i64 l[i].n):=λi h=>by
  obtain⟨x0,x1⟩:=hc i h;exact⟨hH.cell (by simpa using x0),hH.cell x1⟩
 rcases op_cases ha (by omega) hp hq hr with ⟨hk,ho⟩|⟨hk,ho⟩|⟨hk,ho⟩
 .match l,hk,q7,qU,kh with
  | [x],_,q7,qU,kh=>
   rcases ho with rfl|rfl
   .exact rapp_not x b off Ha w q7
   have hx:=qU x (by simp);have e:x.kind=2/\x.kind=2:=Zjo kh;exact rapp_neg x (Zc0 hx e.1) b off Ha w q7
 .match l,hk,q7,qU,kh with
  | [x,y,u],_,q7,qU,kh=>
   subst ho;exact rapp_if x y u b off Ha w q7
 match l,hk,q7,qU,kh with
 | [x,y],_,q7,qU,kh=>
  have hx:=qU x (by simp);have hy:=qU y (by simp);rcases ho with rfl|rfl|rfl|rfl|rfl|rfl|rfl|rfl|rfl|rfl|rfl|rfl|rfl|rfl|rfl
  .have e:=kb_same 1 (a:=x.kind) (b:=y.kind) kh;exact Zcv x y (.inl ⟨.inr (.inl rfl),Zdi hx e.1,Zdi hy e.2⟩) rfl b off Ha w q7
  .have e:=kb_same 1 (a:=x.kind) (b:=y.kind) kh;exact Zcv x y (.inl ⟨.inr (.inr (.inl rfl)),Zdi hx e.1,Zdi hy e.2⟩) rfl b off Ha w q7
  .have e:=kb_same 1 (a:=x.kind) (b:=y.kind) kh;exact Zcv x y (.inl ⟨.inl rfl,Zdi hx e.1,Zdi hy e.2⟩) rfl b off Ha w q7
  .exact Zcv x y (.inr (.inl ⟨rfl,kb_eq kh,rfl⟩)) (by obtain⟨xk,xn⟩:=x;obtain⟨yk,yn⟩:=y;obtain rfl:xk=yk:=kb_eq kh;show(tv (decide ((⟨xk,xn⟩:Vl)=⟨xk,yn⟩)),false)=_;rw[vl_eq];simp[bne]) b off Ha w q7
  .exact Zcv x y (.inr (.inr (.inl ⟨rfl,kb_eq kh,rfl⟩))) (by obtain⟨xk,xn⟩:=x;obtain⟨yk,yn⟩:=y;obtain rfl:xk=yk:=kb_eq kh;show(tv (decide ((⟨xk,xn⟩:Vl)≠⟨xk,yn⟩)),false)=_;rw[vl_ne];simp[bne]) b off Ha w q7
  .exact Zcv x y (.inr (.inr (.inr (.inl ⟨rfl,rfl,rfl⟩)))) rfl b off Ha w q7
  .exact Zcv x y (.inr (.inr (.inr (.inr (.inl ⟨rfl,rfl,rfl⟩))))) rfl b off Ha w q7
  .exact Zcv x y (.inr (.inr (.inr (.inr (.inr (.inl ⟨rfl,rfl,rfl⟩)))))) rfl b off Ha w q7
  .exact Zcv x y (.inr (.inr (.inr (.inr (.inr (.inr ⟨rfl,rfl,rfl⟩)))))) rfl b off Ha w q7
  .have e:=kb_same 1 (a:=x.kind) (b:=y.kind) kh;exact Zcv x y (.inl ⟨.inr (.inr (.inr rfl)),Zdi hx e.1,Zdi hy e.2⟩) rfl b off Ha w q7
  .have e:x.kind=2/\y.kind=2:=Zjo kh;exact Zg3 x y (Zc0 hx e.1) (Zc0 hy e.2) (.inl ⟨rfl,rfl,rfl⟩) rfl b off Ha w q7
  .have e:x.kind=2/\y.kind=2:=Zjo kh;exact Zg3 x y (Zc0 hx e.1) (Zc0 hy e.2) (.inr (.inl ⟨rfl,rfl,rfl⟩)) rfl b off Ha w q7
  .have e:x.kind=2/\y.kind=2:=Zjo kh;exact Zg3 x y (Zc0 hx e.1) (Zc0 hy e.2) (.inr (.inr (.inl ⟨rfl,rfl,rfl⟩))) rfl b off Ha w q7
  .have e:x.kind=2/\y.kind=2:=Zjo kh;by_cases hz:y.n=0
   .exact rapp_trap x y (.inl rfl) hz b off Ha w q7
   exact Zg3 x y (Zc0 hx e.1) (Zc0 hy e.2) (.inr (.inr (.inr ⟨rfl,hz,rfl⟩))) (by unfold appM;simp[hz,wv]) b off Ha w q7
  have e:x.kind=2/\y.kind=2:=Zjo kh;by_cases hz:y.n=0
  .exact rapp_trap x y (.inr rfl) hz b off Ha w q7
  exact rapp_mod x y (Zc0 hx e.1) (Zc0 hy e.2) hz b off Ha w q7
end Go.Proofs.YtafapnolamcdmaaGreatDoor
