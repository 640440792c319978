/- Walks: flow.apply, by kinds of operators. -/
import Derived.Test.YtafapnolamcdmaaGreatDoorRunC
set_option linter.all false
namespace Go.Proofs.YtafapnolamcdmaaGreatDoor
set_option maxRecDepth 100000
set_option maxHeartbeats 16000000
open Go.RowKit Mx
theorem mFlC3{p:Prop}(h:p:=by
 have jf:=(jH.block w.heap.size jo).trans Jr;obtain⟨q0,q1,f0,f1,kt⟩:=Zal jf;obtain⟨e0,e1,e2,e3⟩:=Zbb jf (.int .i64 1) (.int .i64 z);have E0:=Zhd e0;have E1:=Zhd e1;have yG:=Zhd (Hg.trans (jH.mono (Nat.le_of_lt jo)));clear e0 e1 e2 e3 jf;exact mFlC2):p:=h
theorem mFlC2{p:Prop}(h:p:=by
 go_wp2_with fail;have e0:=E0.out;have e1:=E1.out;refine bodyPost_ret (v:=.tuple #[vlV ⟨1,z⟩,.bool false]) (by simp[results,Tryz.results119,go_sem,e0,e1]) rfl ?_;exact⟨rfl,Zb0 yG.out Ylr _ _⟩):p:=h
theorem mFlC1{p:Prop}(h:p:=by
 go_enter Tryz.func119,Tryz.ntmps119;go_wp2_with fail;go_quiet (fail)
 go_wp2_with fail;refine(Zif _).mono ?_;rintro r w1 ⟨bm1,rfl,kU,jK⟩;have qM:=(Zbq (Below.refl (w.alloc (.cells Yo2 101)).heap.size (w.alloc (.cells Yo2 101))) _).trans jK;have hl1:=kU.run (P:=Tryz.prog) Tryz.underlying244 Tryz.underlying9 (d:=.nilFunc) (by kernel_rfl) q true;rw[yV] at hl1;simp only[hq,if_true,Bool.false_eq_true,if_false,Option.getD_some,Option.getD_none,Option.isSome_some,Option.isSome_none] at hl1;clear jK kU;go_wp2_with fail;refine(bools_any _).mono ?_;rintro r w2 ⟨bm2,rfl,km,qt⟩;have zI:=qM.trans (qt.mono qM.size);have jU:=km.run (P:=Tryz.prog) Tryz.underlying248 Tryz.underlying9 (d:=.nilFunc) (by kernel_rfl) q true;rw[Qp] at jU;simp only[hq,if_true,Bool.false_eq_true,if_false,Option.getD_some,Option.getD_none,Option.isSome_some,Option.isSome_none] at jU;clear qt km;go_wp2_with fail;refine(ints_any _).mono ?_;rintro r w3 ⟨bm3,rfl,Qb,hx3⟩;have jH:=zI.trans (hx3.mono zI.size);have hl3:=Qb.run (P:=Tryz.prog) Tryz.underlying251 Tryz.underlying9 (d:=.nilFunc) (by kernel_rfl) q false;rw[ht3] at hl3;simp only[hq,if_true,Bool.false_eq_true,if_false,Option.getD_some,Option.getD_none,Option.isSome_some,Option.isSome_none] at hl3;clear hx3 Qb;go_wp2_with fail;refine(hf _).mono ?_;rintro r w4 ⟨rfl,rfl⟩;go_wp2_with fail;have Hf:=λw'=>whole_any v w';rw[hz] at Hf;refine(Hf _).mono ?_;rintro r w5 ⟨rfl,hx5⟩;have hc5:=jH.trans (hx5.mono jH.size);clear hx5;have jf:=(hc5.block w.heap.size jo).trans Jr;obtain⟨q0,q1,f0,f1,kt⟩:=Zal jf;obtain⟨e0,e1,e2,e3⟩:=Zbb jf (.int .i64 2) (.int .i64 z);have E0:=Zhd e0;have E1:=Zhd e1;have yG:=Zhd (Hg.trans (hc5.mono (Nat.le_of_lt jo)));clear e0 e1 e2 e3 jf;go_wp2_with fail;have e0:=E0.out;have e1:=E1.out
 refine bodyPost_ret (v:=.tuple #[vlV ⟨2,z⟩,.bool false]) (by simp[results,Tryz.results119,go_sem,e0,e1]) rfl ?_;exact⟨rfl,Zb0 yG.out Ylr _ _⟩):p:=h
theorem vl_at{H:Kn}{l:List Vl}{a:Option Addr}{n c:Nat}(h:VlsV H l (.slice a n c)){i:Nat}(hi:i<l.length):∃b off,a=some ⟨b,off,none⟩/\H.cell b (off+2 * i)=some (.int .i64 l[i].kind)/\H.cell b (off+2 * i+1)=some (.int .i64 l[i].n):=by
 obtain⟨b,off,h1,_,h2,h3⟩:=SlV.at h hi;refine⟨b,off,h1,?_,?_⟩
 .have e:off+i * 2+0=off+2 * i:=by omega
  rw[<- e];exact h2
 have e:off+i * 2+1=off+2 * i+1:=by omega
 rw[<- e];exact h3
theorem beq_zero(x:Int):(x==0)=decide (x=0):=by by_cases h:x=0<;>simp[h]
theorem vl_ne(xk xn yk yn:Int):decide ((⟨xk,xn⟩:Vl)≠⟨yk,yn⟩) = !(xk==yk&&xn==yn):=by
 by_cases h1:xk=yk<;>by_cases h2:xn=yn<;>simp[h1,h2]
theorem vl_eq(xk xn yk yn:Int):decide ((⟨xk,xn⟩:Vl)=⟨yk,yn⟩)=(xk==yk&&xn==yn):=by
 by_cases h1:xk=yk<;>by_cases h2:xn=yn<;>simp[h1,h2]
theorem Zkz(R:Nat)(w:World):(Zci R w).In w.drew:=λx o e=>by
 unfold Zci at e
 split at e
 .cases e
 exact e
theorem beq_one(x:Int):(x==1)=decide (x=1):=by by_cases h:x=1<;>simp[h]
theorem Zf9(n:Int):wv (RowKit.wrap64 n)=wv n:=by unfold wv;rw[around_wrap64]
theorem ap_test{o:ByteArray}(x y:Vl){n:Nat}{z:Int}(hC:(o=oLt/\n=131)\/(o=oLe/\n=132)\/(o=oGt/\n=133)\/(o=oGe/\n=134)){v:Bool}(hz:tv v=⟨1,z⟩)(hf:∀w,Calls Tryz.prog n #[.int .i64 x.n,.int .i64 y.n] w λe w'=>e=.returned (.bool v)/\w=w')(hr:appM o [x,y]=(⟨1,z⟩,false))(b off c:Nat)(w:World)(d0:w.cell? ⟨b,off,none⟩=some (.int .i64 x.kind))(d1:w.cell? ⟨b,off+1,none⟩=some (.int .i64 x.n))(d2:w.cell? ⟨b,off+2,none⟩=some (.int .i64 y.kind))(d3:w.cell? ⟨b,off+3,none⟩=some (.int .i64 y.n)):
  Calls Tryz.prog 119 #[.string o,.slice (some ⟨b,off,none⟩) 2 c] w λr w'=>r=.returned (.tuple #[vlV (appM o [x,y]).1,.bool (appM o [x,y]).2])/\Ybw w w':=by
 have yV:Zgx o=some (fnV n):=by rcases hC with ⟨rfl,rfl⟩|⟨rfl,rfl⟩|⟨rfl,rfl⟩|⟨rfl,rfl⟩<;>rfl
 rw[hr];clear hr;have J7:b<w.heap.size:=World.block_lt_of_cell? w ⟨b,off,none⟩ d0;obtain⟨xk,xn⟩:=x;obtain⟨yk,yn⟩:=y;dsimp only at *;have Hg:=(Below.refl w.heap.size w).alloc Ylr (.cells Yo2 101);have Jr:=heap_alloc_new w (.cells Yo2 101);have c0:=(Hg.cell (p:=⟨b,off,none⟩) J7).trans d0;have c1:=(Hg.cell (p:=⟨b,off+1,none⟩) J7).trans d1;have c2:=(Hg.cell (p:=⟨b,off+2,none⟩) J7).trans d2;have c3:=(Hg.cell (p:=⟨b,off+3,none⟩) J7).trans d3;have jo:w.heap.size<(w.alloc (.cells Yo2 101)).heap.size:=by simp
 clear d0 d1 d2 d3;obtain⟨q,hq⟩:∃q,q=o:=⟨_,rfl⟩;rw[<- hq] at yV;rcases hC with ⟨rfl,rfl⟩|⟨rfl,rfl⟩|⟨rfl,rfl⟩|⟨rfl,rfl⟩
 all_goals
  go_enter Tryz.func119,Tryz.ntmps119;go_wp2_with fail;go_quiet (fail)
  go_wp2_with fail;refine(Zif _).mono ?_;rintro r w1 ⟨bm1,rfl,kU,jK⟩;have qM:=(Zbq (Below.refl (w.alloc (.cells Yo2 101)).heap.size (w.alloc (.cells Yo2 101))) _).trans jK;have hl1:=kU.run (P:=Tryz.prog) Tryz.underlying244 Tryz.underlying9 (d:=.nilFunc) (by kernel_rfl) q true;rw[yV] at hl1;simp only[hq,if_true,Bool.false_eq_true,if_false,Option.getD_some,Option.getD_none,Option.isSome_some,Option.isSome_none] at hl1;clear jK kU;go_wp2_with fail;refine(hf _).mono ?_;rintro r w2 ⟨rfl,rfl⟩;go_wp2_with fail;have Hf:=λw'=>Zd5 v w';rw[hz] at Hf;refine(Hf _).mono ?_;rintro r w3 ⟨rfl,hx3⟩;have jH:=qM.trans (hx3.mono qM.size);clear hx3;exact mFlC3
theorem ap_bool{o:ByteArray}(x y:Vl){n:Nat}{z:Int}(hC:(o=oAnd/\n=135)\/(o=oOr/\n=136)\/(o=oXor/\n=137)\/(o=oImp/\n=138)){v:Bool}(hz:tv v=⟨1,z⟩)(hf:∀w,Calls Tryz.prog n #[.bool (x.n==1),.bool (y.n==1)] w λe w'=>e=.returned (.bool v)/\w=w')(hr:appM o [x,y]=(⟨1,z⟩,false))(b off c:Nat)(w:World)(d0:w.cell? ⟨b,off,none⟩=some (.int .i64 x.kind))(d1:w.cell? ⟨b,off+1,none⟩=some (.int .i64 x.n))(d2:w.cell? ⟨b,off+2,none⟩=some (.int .i64 y.kind))(d3:w.cell? ⟨b,off+3,none⟩=some (.int .i64 y.n)):
  Calls Tryz.prog 119 #[.string o,.slice (some ⟨b,off,none⟩) 2 c] w λr w'=>r=.returned (.tuple #[vlV (appM o [x,y]).1,.bool (appM o [x,y]).2])/\Ybw w w':=by
 have yV:Zgx o=none:=by rcases hC with ⟨rfl,rfl⟩|⟨rfl,rfl⟩|⟨rfl,rfl⟩|⟨rfl,rfl⟩<;>rfl
 have Qp:Zi7 o=some (fnV n):=by rcases hC with ⟨rfl,rfl⟩|⟨rfl,rfl⟩|⟨rfl,rfl⟩|⟨rfl,rfl⟩<;>rfl
 rw[hr];clear hr;have J7:b<w.heap.size:=World.block_lt_of_cell? w ⟨b,off,none⟩ d0;obtain⟨xk,xn⟩:=x;obtain⟨yk,yn⟩:=y;dsimp only at *;have Hg:=(Below.refl w.heap.size w).alloc Ylr (.cells Yo2 101);have Jr:=heap_alloc_new w (.cells Yo2 101);have c0:=(Hg.cell (p:=⟨b,off,none⟩) J7).trans d0;have c1:=(Hg.cell (p:=⟨b,off+1,none⟩) J7).trans d1;have c2:=(Hg.cell (p:=⟨b,off+2,none⟩) J7).trans d2;have c3:=(Hg.cell (p:=⟨b,off+3,none⟩) J7).trans d3;have jo:w.heap.size<(w.alloc (.cells Yo2 101)).heap.size:=by simp
 clear d0 d1 d2 d3;obtain⟨q,hq⟩:∃q,q=o:=⟨_,rfl⟩;rw[<- hq] at yV Qp;rcases hC with ⟨rfl,rfl⟩|⟨rfl,rfl⟩|⟨rfl,rfl⟩|⟨rfl,rfl⟩
 all_goals
  go_enter Tryz.func119,Tryz.ntmps119;go_wp2_with fail;go_quiet (fail)
  go_wp2_with fail;refine(Zif _).mono ?_;rintro r w1 ⟨bm1,rfl,kU,jK⟩;have qM:=(Zbq (Below.refl (w.alloc (.cells Yo2 101)).heap.size (w.alloc (.cells Yo2 101))) _).trans jK;have hl1:=kU.run (P:=Tryz.prog) Tryz.underlying244 Tryz.underlying9 (d:=.nilFunc) (by kernel_rfl) q true;rw[yV] at hl1;simp only[hq,if_true,Bool.false_eq_true,if_false,Option.getD_some,Option.getD_none,Option.isSome_some,Option.isSome_none] at hl1;clear jK kU;go_wp2_with fail;refine(bools_any _).mono ?_;rintro r w2 ⟨bm2,rfl,km,qt⟩;have zI:=qM.trans (qt.mono qM.size);have jU:=km.run (P:=Tryz.prog) Tryz.underlying248 Tryz.underlying9 (d:=.nilFunc) (by kernel_rfl) q true;rw[Qp] at jU;simp only[hq,if_true,Bool.false_eq_true,if_false,Option.getD_some,Option.getD_none,Option.isSome_some,Option.isSome_none] at jU;clear qt km;go_wp2_with fail;refine(hf _).mono ?_;rintro r w3 ⟨rfl,rfl⟩;go_wp2_with fail;have Hf:=λw'=>Zd5 v w';rw[hz] at Hf;refine(Hf _).mono ?_;rintro r w4 ⟨rfl,hx4⟩;have hc4:=zI.trans (hx4.mono zI.size);clear hx4;have jf:=(hc4.block w.heap.size jo).trans Jr;obtain⟨q0,q1,f0,f1,kt⟩:=Zal jf;obtain⟨e0,e1,e2,e3⟩:=Zbb jf (.int .i64 1) (.int .i64 z);have E0:=Zhd e0;have E1:=Zhd e1;have yG:=Zhd (Hg.trans (hc4.mono (Nat.le_of_lt jo)));clear e0 e1 e2 e3 jf;exact mFlC2
theorem ap_int{o:ByteArray}(x y:Vl){n:Nat}{z:Int}(hC:(o=oAdd/\n=139)\/(o=oSub/\n=140)\/(o=oMul/\n=141)){v:Int}(hz:wv v=⟨2,z⟩)(hf:∀w,Calls Tryz.prog n #[.int .i64 x.n,.int .i64 y.n] w λe w'=>e=.returned (.int .i64 v)/\w=w')(hr:appM o [x,y]=(⟨2,z⟩,false))(b off c:Nat)(w:World)(d0:w.cell? ⟨b,off,none⟩=some (.int .i64 x.kind))(d1:w.cell? ⟨b,off+1,none⟩=some (.int .i64 x.n))(d2:w.cell? ⟨b,off+2,none⟩=some (.int .i64 y.kind))(d3:w.cell? ⟨b,off+3,none⟩=some (.int .i64 y.n)):
  Calls Tryz.prog 119 #[.string o,.slice (some ⟨b,off,none⟩) 2 c] w λr w'=>r=.returned (.tuple #[vlV (appM o [x,y]).1,.bool (appM o [x,y]).2])/\Ybw w w':=by
 have yV:Zgx o=none:=by rcases hC with ⟨rfl,rfl⟩|⟨rfl,rfl⟩|⟨rfl,rfl⟩<;>rfl
 have Qp:Zi7 o=none:=by rcases hC with ⟨rfl,rfl⟩|⟨rfl,rfl⟩|⟨rfl,rfl⟩<;>rfl
 have ht3:intsEnv o=some (fnV n):=by rcases hC with ⟨rfl,rfl⟩|⟨rfl,rfl⟩|⟨rfl,rfl⟩<;>rfl
 rw[hr];clear hr;have J7:b<w.heap.size:=World.block_lt_of_cell? w ⟨b,off,none⟩ d0;obtain⟨xk,xn⟩:=x;obtain⟨yk,yn⟩:=y;dsimp only at *;have Hg:=(Below.refl w.heap.size w).alloc Ylr (.cells Yo2 101);have Jr:=heap_alloc_new w (.cells Yo2 101);have c0:=(Hg.cell (p:=⟨b,off,none⟩) J7).trans d0;have c1:=(Hg.cell (p:=⟨b,off+1,none⟩) J7).trans d1;have c2:=(Hg.cell (p:=⟨b,off+2,none⟩) J7).trans d2;have c3:=(Hg.cell (p:=⟨b,off+3,none⟩) J7).trans d3;have jo:w.heap.size<(w.alloc (.cells Yo2 101)).heap.size:=by simp
 clear d0 d1 d2 d3;obtain⟨q,hq⟩:∃q,q=o:=⟨_,rfl⟩;rw[<- hq] at yV Qp ht3;rcases hC with ⟨rfl,rfl⟩|⟨rfl,rfl⟩|⟨rfl,rfl⟩
 all_goals
  exact mFlC1
theorem ap_div{o:ByteArray}(x y:Vl){n:Nat}{z:Int}(hC:(o=oDiv/\n=142/\(y.n==0)=false)\/(o=oMod/\n=143/\(y.n==0)=false)){v:Int}(hz:wv v=⟨2,z⟩)(hf:∀w,Calls Tryz.prog n #[.int .i64 x.n,.int .i64 y.n] w λe w'=>e=.returned (.int .i64 v)/\w=w')(hr:appM o [x,y]=(⟨2,z⟩,false))(b off c:Nat)(w:World)(d0:w.cell? ⟨b,off,none⟩=some (.int .i64 x.kind))(d1:w.cell? ⟨b,off+1,none⟩=some (.int .i64 x.n))(d2:w.cell? ⟨b,off+2,none⟩=some (.int .i64 y.kind))(d3:w.cell? ⟨b,off+3,none⟩=some (.int .i64 y.n)):
  Calls Tryz.prog 119 #[.string o,.slice (some ⟨b,off,none⟩) 2 c] w λr w'=>r=.returned (.tuple #[vlV (appM o [x,y]).1,.bool (appM o [x,y]).2])/\Ybw w w':=by
 have yV:Zgx o=none:=by rcases hC with ⟨rfl,rfl,_⟩|⟨rfl,rfl,_⟩<;>rfl
 have Qp:Zi7 o=none:=by rcases hC with ⟨rfl,rfl,_⟩|⟨rfl,rfl,_⟩<;>rfl
 have ht3:intsEnv o=some (fnV n):=by rcases hC with ⟨rfl,rfl,_⟩|⟨rfl,rfl,_⟩<;>rfl
 rw[hr];clear hr;have J7:b<w.heap.size:=World.block_lt_of_cell? w ⟨b,off,none⟩ d0;obtain⟨xk,xn⟩:=x;obtain⟨yk,yn⟩:=y;dsimp only at *;have Hg:=(Below.refl w.heap.size w).alloc Ylr (.cells Yo2 101);have Jr:=heap_alloc_new w (.cells Yo2 101);have c0:=(Hg.cell (p:=⟨b,off,none⟩) J7).trans d0;have c1:=(Hg.cell (p:=⟨b,off+1,none⟩) J7).trans d1;have c2:=(Hg.cell (p:=⟨b,off+2,none⟩) J7).trans d2;have c3:=(Hg.cell (p:=⟨b,off+3,none⟩) J7).trans d3;have jo:w.heap.size<(w.alloc (.cells Yo2 101)).heap.size:=by simp
 clear d0 d1 d2 d3;obtain⟨q,hq⟩:∃q,q=o:=⟨_,rfl⟩;rw[<- hq] at yV Qp ht3;rcases hC with ⟨rfl,rfl,hyb⟩|⟨rfl,rfl,hyb⟩
 all_goals
  exact mFlC1
theorem ap_zero{o:ByteArray}(x y:Vl)(hC:o=oDiv\/o=oMod)(hy:y.n=0)(b off c:Nat)(w:World)(d0:w.cell? ⟨b,off,none⟩=some (.int .i64 x.kind))(d1:w.cell? ⟨b,off+1,none⟩=some (.int .i64 x.n))(d2:w.cell? ⟨b,off+2,none⟩=some (.int .i64 y.kind))(d3:w.cell? ⟨b,off+3,none⟩=some (.int .i64 y.n)):
  Calls Tryz.prog 119 #[.string o,.slice (some ⟨b,off,none⟩) 2 c] w λr w'=>r=.returned (.tuple #[vlV (appM o [x,y]).1,.bool (appM o [x,y]).2])/\Ybw w w':=by
 have hr:appM o [x,y]=(⟨0,0⟩,true):=by rcases hC with rfl|rfl<;>(unfold appM;simp[hy,vz])
 have yV:Zgx o=none:=by rcases hC with rfl|rfl<;>rfl
 have Qp:Zi7 o=none:=by rcases hC with rfl|rfl<;>rfl
 rw[hr];clear hr;have J7:b<w.heap.size:=World.block_lt_of_cell? w ⟨b,off,none⟩ d0;obtain⟨xk,xn⟩:=x;obtain⟨yk,yn⟩:=y;dsimp only at *;have Hg:=(Below.refl w.heap.size w).alloc Ylr (.cells Yo2 101);have Jr:=heap_alloc_new w (.cells Yo2 101);have c0:=(Hg.cell (p:=⟨b,off,none⟩) J7).trans d0;have c1:=(Hg.cell (p:=⟨b,off+1,none⟩) J7).trans d1;have c2:=(Hg.cell (p:=⟨b,off+2,none⟩) J7).trans d2;have c3:=(Hg.cell (p:=⟨b,off+3,none⟩) J7).trans d3;have jo:w.heap.size<(w.alloc (.cells Yo2 101)).heap.size:=by simp
 clear d0 d1 d2 d3;subst hy;obtain⟨q,hq⟩:∃q,q=o:=⟨_,rfl⟩;rw[<- hq] at yV Qp;rcases hC with rfl|rfl
 all_goals
  go_enter Tryz.func119,Tryz.ntmps119;go_wp2_with fail;go_quiet (fail)
  go_wp2_with fail;refine(Zif _).mono ?_;rintro r w1 ⟨bm1,rfl,kU,jK⟩;have qM:=(Zbq (Below.refl (w.alloc (.cells Yo2 101)).heap.size (w.alloc (.cells Yo2 101))) _).trans jK;have hl1:=kU.run (P:=Tryz.prog) Tryz.underlying244 Tryz.underlying9 (d:=.nilFunc) (by kernel_rfl) q true;rw[yV] at hl1;simp only[hq,if_true,Bool.false_eq_true,if_false,Option.getD_some,Option.getD_none,Option.isSome_some,Option.isSome_none] at hl1;clear jK kU;go_wp2_with fail;refine(bools_any _).mono ?_;rintro r w2 ⟨bm2,rfl,km,qt⟩;have zI:=qM.trans (qt.mono qM.size);have jU:=km.run (P:=Tryz.prog) Tryz.underlying248 Tryz.underlying9 (d:=.nilFunc) (by kernel_rfl) q true;rw[Qp] at jU;simp only[hq,if_true,Bool.false_eq_true,if_false,Option.getD_some,Option.getD_none,Option.isSome_some,Option.isSome_none] at jU;clear qt km;have jf:=(zI.block w.heap.size jo).trans Jr;obtain⟨q0,q1,f0,f1,kt⟩:=Zal jf;obtain⟨e0,e1,e2,e3⟩:=Zbb jf (.int .i64 0) (.int .i64 0);have E0:=Zhd e0;have E1:=Zhd e1;have yG:=Zhd (Hg.trans (zI.mono (Nat.le_of_lt jo)));clear e0 e1 e2 e3 jf;go_wp2_with fail;have e0:=E0.out;have e1:=E1.out;refine bodyPost_ret (v:=.tuple #[vlV ⟨0,0⟩,.bool true]) (by simp[results,Tryz.results119,go_sem,e0,e1]) rfl ?_;exact⟨rfl,Zb0 yG.out Ylr _ _⟩
theorem ap_same{o:ByteArray}(x y:Vl){z:Int}{e:Bool}(hC:o=oEq/\e=true\/o=oNe/\e=false){v:Bool}(hv:v=(e==(x.kind==y.kind&&x.n==y.n)))(hz:tv v=⟨1,z⟩)(hr:appM o [x,y]=(⟨1,z⟩,false))(b off c:Nat)(w:World)(d0:w.cell? ⟨b,off,none⟩=some (.int .i64 x.kind))(d1:w.cell? ⟨b,off+1,none⟩=some (.int .i64 x.n))(d2:w.cell? ⟨b,off+2,none⟩=some (.int .i64 y.kind))(d3:w.cell? ⟨b,off+3,none⟩=some (.int .i64 y.n)):
  Calls Tryz.prog 119 #[.string o,.slice (some ⟨b,off,none⟩) 2 c] w λr w'=>r=.returned (.tuple #[vlV (appM o [x,y]).1,.bool (appM o [x,y]).2])/\Ybw w w':=by
 rw[hr];clear hr;have J7:b<w.heap.size:=World.block_lt_of_cell? w ⟨b,off,none⟩ d0;obtain⟨xk,xn⟩:=x;obtain⟨yk,yn⟩:=y;dsimp only at *;have Hg:=(Below.refl w.heap.size w).alloc Ylr (.cells Yo2 101);have Jr:=heap_alloc_new w (.cells Yo2 101);have c0:=(Hg.cell (p:=⟨b,off,none⟩) J7).trans d0;have c1:=(Hg.cell (p:=⟨b,off+1,none⟩) J7).trans d1;have c2:=(Hg.cell (p:=⟨b,off+2,none⟩) J7).trans d2;have c3:=(Hg.cell (p:=⟨b,off+3,none⟩) J7).trans d3;have jo:w.heap.size<(w.alloc (.cells Yo2 101)).heap.size:=by simp
 clear d0 d1 d2 d3;obtain⟨X,hX⟩:∃X,(xk==yk)=X:=⟨_,rfl⟩;obtain⟨Y,hY⟩:∃Y,(xn==yn)=Y:=⟨_,rfl⟩;rw[hX,hY] at hv;rcases hC with ⟨rfl,rfl⟩|⟨rfl,rfl⟩<;>(cases X;rotate_left;cases Y)
 all_goals
  simp only[Bool.and_true,Bool.and_false,Bool.true_and,Bool.false_and,Bool.not_true,Bool.not_false,Bool.true_beq,Bool.false_beq] at hv;go_enter Tryz.func119,Tryz.ntmps119;go_wp2_with fail;generalize w.alloc (.cells Yo2 101)=W at *;have k0:(Zci w.heap.size W).cell b off=some (.int .i64 xk):=by rw[Za8 (by omega)];exact c0
  have k1:(Zci w.heap.size W).cell b (off+1)=some (.int .i64 xn):=by rw[Za8 (by omega)];exact c1
  have k2:(Zci w.heap.size W).cell b (off+2)=some (.int .i64 yk):=by rw[Za8 (by omega)];exact c2
  have k3:(Zci w.heap.size W).cell b (off+3)=some (.int .i64 yn):=by rw[Za8 (by omega)];exact c3
  have hS:(Zci w.heap.size W).In W.drew:=Zkz w.heap.size W;have kW:(Zci w.heap.size W) w.heap.size=none:=by simp[Zci]
  have Hf:=λw'=>Zd5 v w';rw[hz,hv] at Hf;clear c0 c1 c2 c3 hz;refine Zae (λw'=>(Zci w.heap.size W).In w') (λ_=>True) 99 (by kernel_rfl) ?_;refine w3 0 ?_
  iterate 6 ((first|(refine tk3 (v:=?_) rfl hS Ztr ?hy ?_;(case hy=>intro w Hi;obtain⟨z0,z1,z2,z3⟩:=Hi.c4 k0 k1 k2 k3;go_simp<;>with_reducible rfl))|refine sk3 rfl hS Ztr ?_|refine no3 ?_);refine Zss ?_)
  refine w3e ?_;refine tk2 (i:=6) (v:=?_) rfl hS Ztr ?hy ?_
  case hy=>intro w Hi;obtain⟨z0,z1,z2,z3⟩:=Hi.c4 k0 k1 k2 k3;first|(go_simp;done)|(go_simp;rfl)|(go_simp;with_reducible rfl)
  try simp only[tkS]
  refine Zwo 7 rfl λK_ hK=>?_;go_simp;go_at_call 44;refine(Hf _).mono ?_;rintro r w3 ⟨rfl,hx3⟩;have Jw:=hS.below hx3;have jH:Ybw W w3:=((Below.refl _ _).drew).trans hx3;have jf:=(jH.block w.heap.size jo).trans Jr;obtain⟨q0,q1,f0,f1,kt⟩:=Zal jf;obtain⟨e0,e1,e2,e3⟩:=Zbb jf (.int .i64 1) (.int .i64 z);have E0:=Zhd e0;have E1:=Zhd e1;have yG:=Zhd (Hg.trans (jH.mono (Nat.le_of_lt jo)));have yu:=(Jw.setCell (a:=⟨w.heap.size,0,none⟩) kW (.int .i64 1)).setCell (a:=⟨w.heap.size,1,none⟩) kW (.int .i64 z);clear e0 e1 e2 e3 jf;refine hK.out _ _ (Jw) Ztr ?_;clear hK K_
  try simp only[tkS]
  refine Zwo 8 rfl λK_ hK=>?_;go_simp;refine hK.out _ _ (yu) Ztr ?_;clear hK K_
  try simp only[tkS]
  refine tk2 (i:=9) (v:=?_) rfl yu Ztr ?hy ?_
  case hy=>intro w Hi;obtain⟨z0,z1,z2,z3⟩:=Hi.c4 k0 k1 k2 k3;go_simp<;>with_reducible rfl
  try simp only[tkS]
  refine Zwd ?_;exact mFlC2
theorem ap_not (x:Vl)(b off c:Nat)(w:World)(d0:w.cell? ⟨b,off,none⟩=some (.int .i64 x.kind))(d1:w.cell? ⟨b,off+1,none⟩=some (.int .i64 x.n)):
  Calls Tryz.prog 119 #[.string oNot,.slice (some ⟨b,off,none⟩) 1 c] w λr w'=>r=.returned (.tuple #[vlV (appM oNot [x]).1,.bool (appM oNot [x]).2])/\Ybw w w':=by
 obtain⟨z,hz⟩:∃z:Int,tv (decide (x.n=0))=⟨1,z⟩:=⟨_,rfl⟩;rw[show appM oNot [x]=(tv (decide (x.n=0)),false) from rfl,hz];have J7:b<w.heap.size:=World.block_lt_of_cell? w ⟨b,off,none⟩ d0;obtain⟨xk,xn⟩:=x;dsimp only at *;have Hg:=(Below.refl w.heap.size w).alloc Ylr (.cells Yo2 101);have Jr:=heap_alloc_new w (.cells Yo2 101);have c0:=(Hg.cell (p:=⟨b,off,none⟩) J7).trans d0;have c1:=(Hg.cell (p:=⟨b,off+1,none⟩) J7).trans d1;have jo:w.heap.size<(w.alloc (.cells Yo2 101)).heap.size:=by simp
 clear d0 d1;go_enter Tryz.func119,Tryz.ntmps119;go_wp2_with fail;have Hf:=λw'=>Zd5 (decide (xn=0)) w';rw[hz] at Hf;rw[beq_zero];refine(Hf _).mono ?_;rintro r w3 ⟨rfl,jH⟩;exact mFlC3
theorem ap_neg (x:Vl)(b off c:Nat)(w:World)(d0:w.cell? ⟨b,off,none⟩=some (.int .i64 x.kind))(d1:w.cell? ⟨b,off+1,none⟩=some (.int .i64 x.n)):
  Calls Tryz.prog 119 #[.string oNeg,.slice (some ⟨b,off,none⟩) 1 c] w λr w'=>r=.returned (.tuple #[vlV (appM oNeg [x]).1,.bool (appM oNeg [x]).2])/\Ybw w w':=by
 obtain⟨z,hz⟩:∃z:Int,wv (-x.n)=⟨2,z⟩:=⟨_,rfl⟩;rw[show appM oNeg [x]=(wv (-x.n),false) from rfl,hz];have J7:b<w.heap.size:=World.block_lt_of_cell? w ⟨b,off,none⟩ d0;obtain⟨xk,xn⟩:=x;dsimp only at *;have Hg:=(Below.refl w.heap.size w).alloc Ylr (.cells Yo2 101);have Jr:=heap_alloc_new w (.cells Yo2 101);have c0:=(Hg.cell (p:=⟨b,off,none⟩) J7).trans d0;have c1:=(Hg.cell (p:=⟨b,off+1,none⟩) J7).trans d1;have jo:w.heap.size<(w.alloc (.cells Yo2 101)).heap.size:=by simp
 clear d0 d1;go_enter Tryz.func119,Tryz.ntmps119;go_wp2_with fail;have Hf:=λw'=>whole_any (RowKit.wrap64 (-xn)) w';rw[Zf9,hz] at Hf;refine(Hf _).mono ?_;rintro r w3 ⟨rfl,jH⟩;have jf:=(jH.block w.heap.size jo).trans Jr;obtain⟨q0,q1,f0,f1,kt⟩:=Zal jf;obtain⟨e0,e1,e2,e3⟩:=Zbb jf (.int .i64 2) (.int .i64 z);have E0:=Zhd e0;have E1:=Zhd e1;have yG:=Zhd (Hg.trans (jH.mono (Nat.le_of_lt jo)));clear e0 e1 e2 e3 jf;go_wp2_with fail;have e0:=E0.out;have e1:=E1.out;refine bodyPost_ret (v:=.tuple #[vlV ⟨2,z⟩,.bool false]) (by simp[results,Tryz.results119,go_sem,e0,e1]) rfl ?_;exact⟨rfl,Zb0 yG.out Ylr _ _⟩
theorem ap_if (x y u:Vl)(b off c:Nat)(w:World)(d0:w.cell? ⟨b,off,none⟩=some (.int .i64 x.kind))(d1:w.cell? ⟨b,off+1,none⟩=some (.int .i64 x.n))(d2:w.cell? ⟨b,off+2,none⟩=some (.int .i64 y.kind))(d3:w.cell? ⟨b,off+3,none⟩=some (.int .i64 y.n))(d4:w.cell? ⟨b,off+4,none⟩=some (.int .i64 u.kind))(d5:w.cell? ⟨b,off+5,none⟩=some (.int .i64 u.n)):
  Calls Tryz.prog 119 #[.string oIf,.slice (some ⟨b,off,none⟩) 3 c] w λr w'=>r=.returned (.tuple #[vlV (appM oIf [x,y,u]).1,.bool (appM oIf [x,y,u]).2])/\Ybw w w':=by
 rw[show appM oIf [x,y,u]=(if x.n=1 then y else u,false) from rfl];have J7:b<w.heap.size:=World.block_lt_of_cell? w ⟨b,off,none⟩ d0;obtain⟨xk,xn⟩:=x;obtain⟨yk,yn⟩:=y;obtain⟨uk,un⟩:=u;dsimp only at *;have Hg:=(Below.refl w.heap.size w).alloc Ylr (.cells Yo2 101);have Jr:=heap_alloc_new w (.cells Yo2 101);have c0:=(Hg.cell (p:=⟨b,off,none⟩) J7).trans d0;have c1:=(Hg.cell (p:=⟨b,off+1,none⟩) J7).trans d1;have c2:=(Hg.cell (p:=⟨b,off+2,none⟩) J7).trans d2;have c3:=(Hg.cell (p:=⟨b,off+3,none⟩) J7).trans d3;have c4:=(Hg.cell (p:=⟨b,off+4,none⟩) J7).trans d4;have c5:=(Hg.cell (p:=⟨b,off+5,none⟩) J7).trans d5;have jo:w.heap.size<(w.alloc (.cells Yo2 101)).heap.size:=by simp
 clear d0 d1 d2 d3 d4 d5;by_cases hx:xn=1
 .subst hx;rw[if_pos rfl];go_enter Tryz.func119,Tryz.ntmps119;go_wp2_with fail;have jf:=Jr;obtain⟨q0,q1,f0,f1,kt⟩:=Zal jf;obtain⟨e0,e1,e2,e3⟩:=Zbb jf (.int .i64 yk) (.int .i64 yn);have E0:=Zhd e0;have E1:=Zhd e1;have yG:=Zhd Hg;clear e0 e1 e2 e3 jf;go_wp2_with fail;have e0:=E0.out;have e1:=E1.out;refine bodyPost_ret (v:=.tuple #[vlV ⟨yk,yn⟩,.bool false]) (by simp[results,Tryz.results119,go_sem,e0,e1]) rfl ?_;exact⟨rfl,Yba⟩
 rw[if_neg hx];go_enter Tryz.func119,Tryz.ntmps119;go_wp2_with fail;have jf:=Jr;obtain⟨q0,q1,f0,f1,kt⟩:=Zal jf;obtain⟨e0,e1,e2,e3⟩:=Zbb jf (.int .i64 uk) (.int .i64 un);have E0:=Zhd e0;have E1:=Zhd e1;have yG:=Zhd Hg;clear e0 e1 e2 e3 jf;go_wp2_with fail;have e0:=E0.out;have e1:=E1.out;refine bodyPost_ret (v:=.tuple #[vlV ⟨uk,un⟩,.bool false]) (by simp[results,Tryz.results119,go_sem,e0,e1]) rfl ?_;exact⟨rfl,Yba⟩
theorem op_cases{o:ByteArray}{k:Int}(ha:Zcx o=some k)(h1:1<=k)(hp:o≠oPre)(hq:o≠Zbk)(hr:o≠oFby):
  (k=1/\(o=oNot\/o=oNeg))\/(k=3/\o=oIf)\/(k=2/\(o=oOr\/o=oXor\/o=oAnd\/o=oEq\/o=oNe\/o=oLt\/o=oLe\/o=oGt\/o=oGe\/o=oImp\/o=oAdd\/o=oSub\/o=oMul\/o=oDiv\/o=oMod)):=by
 unfold Zcx at ha
 split at ha
 .cases ha;omega
 split at ha
 .rename_i h
  cases ha;exact .inl ⟨rfl,h.elim .inl λh=>h.elim .inr λh=>absurd h hp⟩
 split at ha
 .rename_i h;cases ha;exact .inr (.inl ⟨rfl,h⟩)
 split at ha
 .cases ha;omega
 split at ha
 .rename_i h;exact absurd h (λh=>h.elim hq hr)
 split at ha
 .rename_i h
  cases ha;refine .inr (.inr ⟨rfl,?_⟩);simp only[levels,List.any_cons,List.any_nil,Bool.or_eq_true,Bool.or_false,List.contains_eq_mem,decide_eq_true_eq,List.mem_cons,List.not_mem_nil,or_false] at h;rcases h with(h|h)|h|(h|h|h|h|h|h|h)|(h|h)|(h|h|h)<;>simp[h]
 cases ha
theorem apply_any(o:ByteArray)(l:List Vl)(ha:Zcx o=some (l.length:Int))(h1:1<=l.length)(hp:o≠oPre)(hq:o≠Zbk)(hr:o≠oFby)(H:Kn)(v:Value)(hv:VlsV H l v)(w:World)(hH:H.In w):
  Calls Tryz.prog 119 #[.string o,v] w λr w'=>r=.returned (.tuple #[vlV (appM o l).1,.bool (appM o l).2])/\Ybw w w':=by
 rcases hv with ⟨rfl,_⟩|⟨b,off,Ha,rfl,_,_,hc⟩
 .simp at h1
 rcases op_cases ha (by omega) hp hq hr with ⟨hk,ho⟩|⟨hk,ho⟩|⟨hk,ho⟩
 .match l,hk with
  | [x],_=>
   have d0:w.cell? ⟨b,off,none⟩=some (.int .i64 x.kind):=hH.cell (by simpa using(hc 0 (by simp)).1);have d1:w.cell? ⟨b,off+1,none⟩=some (.int .i64 x.n):=hH.cell (by simpa using(hc 0 (by simp)).2);rcases ho with rfl|rfl
   .exact ap_not x b off Ha w d0 d1
   exact ap_neg x b off Ha w d0 d1
 .match l,hk with
  | [x,y,u],_=>
   have d0:w.cell? ⟨b,off,none⟩=some (.int .i64 x.kind):=hH.cell (by simpa using(hc 0 (by simp)).1);have d1:w.cell? ⟨b,off+1,none⟩=some (.int .i64 x.n):=hH.cell (by simpa using(hc 0 (by simp)).2);have d2:w.cell? ⟨b,off+2,none⟩=some (.int .i64 y.kind):=hH.cell (by simpa using(hc 1 (by simp)).1);have d3:w.cell? ⟨b,off+3,none⟩=some (.int .i64 y.n):=hH.cell (by simpa using(hc 1 (by simp)).2);have d4:w.cell? ⟨b,off+4,none⟩=some (.int .i64 u.kind):=hH.cell (by simpa using(hc 2 (by simp)).1);have d5:w.cell? ⟨b,off+5,none⟩=some (.int .i64 u.n):=hH.cell (by simpa using(hc 2 (by simp)).2);subst ho;exact ap_if x y u b off Ha w d0 d1 d2 d3 d4 d5
 match l,hk with
 | [x,y],_=>
  have d0:w.cell? ⟨b,off,none⟩=some (.int .i64 x.kind):=hH.cell (by simpa using(hc 0 (by simp)).1);have d1:w.cell? ⟨b,off+1,none⟩=some (.int .i64 x.n):=hH.cell (by simpa using(hc 0 (by simp)).2);have d2:w.cell? ⟨b,off+2,none⟩=some (.int .i64 y.kind):=hH.cell (by simpa using(hc 1 (by simp)).1);have d3:w.cell? ⟨b,off+3,none⟩=some (.int .i64 y.n):=hH.cell (by simpa using(hc 1 (by simp)).2);rcases ho with rfl|rfl|rfl|rfl|rfl|rfl|rfl|rfl|rfl|rfl|rfl|rfl|rfl|rfl|rfl
  .exact ap_bool x y (.inr (.inl ⟨rfl,rfl⟩)) rfl (λw=>fn_or _ _ w) (by simp only[beq_one];rfl) b off Ha w d0 d1 d2 d3
  .exact ap_bool x y (.inr (.inr (.inl ⟨rfl,rfl⟩))) rfl (λw=>fn_xor _ _ w) (by simp only[beq_one];rfl) b off Ha w d0 d1 d2 d3
  .exact ap_bool x y (.inl ⟨rfl,rfl⟩) rfl (λw=>fn_and _ _ w) (by simp only[beq_one];rfl) b off Ha w d0 d1 d2 d3
  .exact ap_same x y (.inl ⟨rfl,rfl⟩) rfl rfl (by obtain⟨xk,xn⟩:=x;obtain⟨yk,yn⟩:=y;show(tv (decide ((⟨xk,xn⟩:Vl)=⟨yk,yn⟩)),false)=_;rw[vl_eq];simp[tv]) b off Ha w d0 d1 d2 d3
  .exact ap_same x y (.inr ⟨rfl,rfl⟩) rfl rfl (by obtain⟨xk,xn⟩:=x;obtain⟨yk,yn⟩:=y;show(tv (decide ((⟨xk,xn⟩:Vl)≠⟨yk,yn⟩)),false)=_;rw[vl_ne];simp[tv]) b off Ha w d0 d1 d2 d3
  .exact ap_test x y (.inl ⟨rfl,rfl⟩) rfl (λw=>fn_lt _ _ w) rfl b off Ha w d0 d1 d2 d3
  .exact ap_test x y (.inr (.inl ⟨rfl,rfl⟩)) rfl (λw=>fn_le _ _ w) rfl b off Ha w d0 d1 d2 d3
  .exact ap_test x y (.inr (.inr (.inl ⟨rfl,rfl⟩))) rfl (λw=>fn_gt _ _ w) rfl b off Ha w d0 d1 d2 d3
  .exact ap_test x y (.inr (.inr (.inr ⟨rfl,rfl⟩))) rfl (λw=>fn_ge _ _ w) rfl b off Ha w d0 d1 d2 d3
  .exact ap_bool x y (.inr (.inr (.inr ⟨rfl,rfl⟩))) rfl (λw=>fn_imp _ _ w) (by simp only[beq_one];rfl) b off Ha w d0 d1 d2 d3
  .exact ap_int x y (.inl ⟨rfl,rfl⟩) (Zf9 _) (λw=>fn_add _ _ w) rfl b off Ha w d0 d1 d2 d3
  .exact ap_int x y (.inr (.inl ⟨rfl,rfl⟩)) (Zf9 _) (λw=>fn_sub _ _ w) rfl b off Ha w d0 d1 d2 d3
  .exact ap_int x y (.inr (.inr ⟨rfl,rfl⟩)) (Zf9 _) (λw=>fn_mul _ _ w) rfl b off Ha w d0 d1 d2 d3
  .by_cases hy:y.n=0
   .exact ap_zero x y (.inl rfl) hy b off Ha w d0 d1 d2 d3
   exact ap_div x y (.inl ⟨rfl,rfl,by simpa using hy⟩) (Zf9 _) (λw=>fn_div _ _ hy w) (by unfold appM;simp[hy,wv]) b off Ha w d0 d1 d2 d3
  by_cases hy:y.n=0
  .exact ap_zero x y (.inr rfl) hy b off Ha w d0 d1 d2 d3
  exact ap_div x y (.inr ⟨rfl,rfl,by simpa using hy⟩) rfl (λw=>fn_mod _ _ hy w) (by unfold appM;simp[hy,wv]) b off Ha w d0 d1 d2 d3
theorem Zd4{H:Kn}{l:List Vl}{a:Option Addr}{n c:Nat}(h:VlsV H l (.slice a n c)){i:Nat}(hi:i<l.length):∃b off,a=some ⟨b,off,none⟩/\H.cell b (off+i * 2)=some (.int .i64 l[i].kind)/\H.cell b (off+i * 2+1)=some (.int .i64 l[i].n):=by
 obtain⟨b,off,h1,h2,h3⟩:=vl_at h hi;exact⟨b,off,h1,by rw[Nat.mul_comm];exact h2,by rw[Nat.mul_comm];exact h3⟩
end Go.Proofs.YtafapnolamcdmaaGreatDoor
