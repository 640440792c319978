/- Walks: flow.apply, by kinds of operators. -/
import Derived.Test.YtofameafdnkijaaGreatDoorRg
import Derived.Test.YtofameafdnkijaaGreatDoorRh
import Derived.Test.YtofameafdnkijaaGreatDoorRunC
import Derived.Deep.RegionLaw
import Derived.BigQuiet
set_option linter.all false
namespace Go.Proofs.YtofameafdnkijaaGreatDoor
set_option maxRecDepth 100000
set_option maxHeartbeats 16000000
open Go.RowKit Mx
theorem mFlC3 {p:Prop} (h:p:=by
 have hRz:=(hc3.block w.heap.size hs1).trans hR0
 obtain⟨q0,q1,f0,f1,hlw⟩:=Zay hRz
 obtain⟨e0,e1,e2,e3⟩:=Zcm hRz (.int .i64 1) (.int .i64 z)
 have E0:=Zhd e0
 have E1:=Zhd e1
 have HBz:=Zhd (hb0.trans (hc3.mono (Nat.le_of_lt hs1)))
 clear e0 e1 e2 e3 hRz
 exact mFlC2):p:=h
theorem mFlC2 {p:Prop} (h:p:=by
 go_wp2_with fail
 have e0:=E0.out
 have e1:=E1.out
 refine bodyPost_ret (v := .tuple #[vlV ⟨1,z⟩,.bool false]) (by simp [results,Tryz.results122,go_sem,e0,e1]) rfl ?_
 exact⟨rfl,Zby HBz.out (Nat.le_refl _) _ _⟩):p:=h
theorem mFlC1 {p:Prop} (h:p:=by
 go_enter Tryz.func122,Tryz.ntmps122
 go_wp2_with fail
 go_quiet (fail)
 go_wp2_with fail
 refine (Zh7 _).mono ?_
 rintro r w1 ⟨bm1,rfl,hM1,hx1⟩
 have hc1:=(Zce (Below.refl (w.alloc (.cells #[.int .i64 0,.int .i64 0] 137)).heap.size (w.alloc (.cells #[.int .i64 0,.int .i64 0] 137))) _).trans hx1
 have hl1:=hM1.run (P:=Tryz.prog) Tryz.underlying253 Tryz.underlying9 (d := .nilFunc) (by kernel_rfl) q true
 rw [ht1] at hl1
 simp only [hq,if_true,Bool.false_eq_true,if_false,Option.getD_some,Option.getD_none,Option.isSome_some,Option.isSome_none] at hl1
 clear hx1 hM1
 go_wp2_with fail
 refine (bools_any _).mono ?_
 rintro r w2 ⟨bm2,rfl,hM2,hx2⟩
 have hc2:=hc1.trans (hx2.mono hc1.size)
 have hl2:=hM2.run (P:=Tryz.prog) Tryz.underlying257 Tryz.underlying9 (d := .nilFunc) (by kernel_rfl) q true
 rw [ht2] at hl2
 simp only [hq,if_true,Bool.false_eq_true,if_false,Option.getD_some,Option.getD_none,Option.isSome_some,Option.isSome_none] at hl2
 clear hx2 hM2
 go_wp2_with fail
 refine (ints_any _).mono ?_
 rintro r w3 ⟨bm3,rfl,hM3,hx3⟩
 have hc3:=hc2.trans (hx3.mono hc2.size)
 have hl3:=hM3.run (P:=Tryz.prog) Tryz.underlying260 Tryz.underlying9 (d := .nilFunc) (by kernel_rfl) q false
 rw [ht3] at hl3
 simp only [hq,if_true,Bool.false_eq_true,if_false,Option.getD_some,Option.getD_none,Option.isSome_some,Option.isSome_none] at hl3
 clear hx3 hM3
 go_wp2_with fail
 refine (hf _).mono ?_
 rintro r w4 ⟨rfl,rfl⟩
 go_wp2_with fail
 have hcall:=fun w'=>whole_any v w'
 rw [hz] at hcall
 refine (hcall _).mono ?_
 rintro r w5 ⟨rfl,hx5⟩
 have hc5:=hc3.trans (hx5.mono hc3.size)
 clear hx5
 have hRz:=(hc5.block w.heap.size hs1).trans hR0
 obtain⟨q0,q1,f0,f1,hlw⟩:=Zay hRz
 obtain⟨e0,e1,e2,e3⟩:=Zcm hRz (.int .i64 2) (.int .i64 z)
 have E0:=Zhd e0
 have E1:=Zhd e1
 have HBz:=Zhd (hb0.trans (hc5.mono (Nat.le_of_lt hs1)))
 clear e0 e1 e2 e3 hRz
 go_wp2_with fail
 have e0:=E0.out
 have e1:=E1.out
 refine bodyPost_ret (v := .tuple #[vlV ⟨2,z⟩,.bool false]) (by simp [results,Tryz.results122,go_sem,e0,e1]) rfl ?_
 exact⟨rfl,Zby HBz.out (Nat.le_refl _) _ _⟩):p:=h
theorem vl_at {H:Kn} {l:List Vl} {a:Option Addr} {n c:Nat} (h:VlsV H l (.slice a n c)) {i:Nat} (hi:i<l.length):∃ b off,a=some ⟨b,off,none⟩∧H.cell b (off+2 * i)=some (.int .i64 l[i].kind)∧H.cell b (off+2 * i+1)=some (.int .i64 l[i].n):=by
 obtain⟨b,off,h1,_,h2,h3⟩:=SlV.at h hi
 refine⟨b,off,h1,?_,?_⟩
 ·have e:off+i * 2+0=off+2 * i:=by omega
  rw [← e];exact h2
 have e:off+i * 2+1=off+2 * i+1:=by omega
 rw [← e];exact h3
theorem beq_zero (x:Int):(x==0)=decide (x=0):=by by_cases h:x=0<;>simp [h]
theorem vl_ne (xk xn yk yn:Int):decide ((⟨xk,xn⟩:Vl)≠⟨yk,yn⟩) = !(xk==yk&&xn==yn):=by
 by_cases h1:xk=yk<;>by_cases h2:xn=yn<;>simp [h1,h2]
theorem vl_eq (xk xn yk yn:Int):decide ((⟨xk,xn⟩:Vl)=⟨yk,yn⟩)=(xk==yk&&xn==yn):=by
 by_cases h1:xk=yk<;>by_cases h2:xn=yn<;>simp [h1,h2]
theorem Zj8 (R:Nat) (w:World):(Zcr R w).In w.drew:=fun x o e=>by
 unfold Zcr at e
 split at e
 ·cases e
 exact e
theorem beq_one (x:Int):(x==1)=decide (x=1):=by by_cases h:x=1<;>simp [h]
theorem Zf8 (n:Int):wv (RowKit.wrap64 n)=wv n:=by unfold wv;rw [around_wrap64]
theorem ap_test {o:ByteArray} (x y:Vl) {n:Nat} {z:Int} (hC:(o=oLt∧n=158)∨(o=oLe∧n=159)∨(o=oGt∧n=160)∨(o=oGe∧n=161)) {v:Bool} (hz:tv v=⟨1,z⟩) (hf:∀ w,Calls Tryz.prog n #[.int .i64 x.n,.int .i64 y.n] w fun e w'=>e = .returned (.bool v)∧w=w') (hr:appM o [x,y]=(⟨1,z⟩,false)) (b off c:Nat) (w:World) (d0:w.cell? ⟨b,off,none⟩=some (.int .i64 x.kind)) (d1:w.cell? ⟨b,off+1,none⟩=some (.int .i64 x.n)) (d2:w.cell? ⟨b,off+2,none⟩=some (.int .i64 y.kind)) (d3:w.cell? ⟨b,off+3,none⟩=some (.int .i64 y.n)):
  Calls Tryz.prog 122 #[.string o,.slice (some ⟨b,off,none⟩) 2 c] w fun r w'=>r = .returned (.tuple #[vlV (appM o [x,y]).1,.bool (appM o [x,y]).2])∧Below w.heap.size w w':=by
 have ht1:Zgs o=some (fnV n):=by rcases hC with ⟨rfl,rfl⟩ | ⟨rfl,rfl⟩ | ⟨rfl,rfl⟩ | ⟨rfl,rfl⟩<;>rfl
 rw [hr]
 clear hr
 have hblt:b<w.heap.size:=World.block_lt_of_cell? w ⟨b,off,none⟩ d0
 obtain⟨xk,xn⟩:=x
 obtain⟨yk,yn⟩:=y
 dsimp only at *
 have hb0:=(Below.refl w.heap.size w).alloc (Nat.le_refl _) (.cells #[.int .i64 0,.int .i64 0] 137)
 have hR0:=heap_alloc_new w (.cells #[.int .i64 0,.int .i64 0] 137)
 have c0:=(hb0.cell (p:=⟨b,off,none⟩) hblt).trans d0
 have c1:=(hb0.cell (p:=⟨b,off+1,none⟩) hblt).trans d1
 have c2:=(hb0.cell (p:=⟨b,off+2,none⟩) hblt).trans d2
 have c3:=(hb0.cell (p:=⟨b,off+3,none⟩) hblt).trans d3
 have hs1:w.heap.size<(w.alloc (.cells #[.int .i64 0,.int .i64 0] 137)).heap.size:=by simp
 clear d0 d1 d2 d3
 obtain⟨q,hq⟩:∃ q,q=o:=⟨_,rfl⟩
 rw [← hq] at ht1
 rcases hC with ⟨rfl,rfl⟩ | ⟨rfl,rfl⟩ | ⟨rfl,rfl⟩ | ⟨rfl,rfl⟩
 all_goals
  go_enter Tryz.func122,Tryz.ntmps122
  go_wp2_with fail
  go_quiet (fail)
  go_wp2_with fail
  refine (Zh7 _).mono ?_
  rintro r w1 ⟨bm1,rfl,hM1,hx1⟩
  have hc1:=(Zce (Below.refl (w.alloc (.cells #[.int .i64 0,.int .i64 0] 137)).heap.size (w.alloc (.cells #[.int .i64 0,.int .i64 0] 137))) _).trans hx1
  have hl1:=hM1.run (P:=Tryz.prog) Tryz.underlying253 Tryz.underlying9 (d := .nilFunc) (by kernel_rfl) q true
  rw [ht1] at hl1
  simp only [hq,if_true,Bool.false_eq_true,if_false,Option.getD_some,Option.getD_none,Option.isSome_some,Option.isSome_none] at hl1
  clear hx1 hM1
  go_wp2_with fail
  refine (hf _).mono ?_
  rintro r w2 ⟨rfl,rfl⟩
  go_wp2_with fail
  have hcall:=fun w'=>Zdk v w'
  rw [hz] at hcall
  refine (hcall _).mono ?_
  rintro r w3 ⟨rfl,hx3⟩
  have hc3:=hc1.trans (hx3.mono hc1.size)
  clear hx3
  exact mFlC3
theorem ap_bool {o:ByteArray} (x y:Vl) {n:Nat} {z:Int} (hC:(o=oAnd∧n=162)∨(o=oOr∧n=163)∨(o=oXor∧n=164)∨(o=oImp∧n=165)) {v:Bool} (hz:tv v=⟨1,z⟩) (hf:∀ w,Calls Tryz.prog n #[.bool (x.n==1),.bool (y.n==1)] w fun e w'=>e = .returned (.bool v)∧w=w') (hr:appM o [x,y]=(⟨1,z⟩,false)) (b off c:Nat) (w:World) (d0:w.cell? ⟨b,off,none⟩=some (.int .i64 x.kind)) (d1:w.cell? ⟨b,off+1,none⟩=some (.int .i64 x.n)) (d2:w.cell? ⟨b,off+2,none⟩=some (.int .i64 y.kind)) (d3:w.cell? ⟨b,off+3,none⟩=some (.int .i64 y.n)):
  Calls Tryz.prog 122 #[.string o,.slice (some ⟨b,off,none⟩) 2 c] w fun r w'=>r = .returned (.tuple #[vlV (appM o [x,y]).1,.bool (appM o [x,y]).2])∧Below w.heap.size w w':=by
 have ht1:Zgs o=none:=by rcases hC with ⟨rfl,rfl⟩ | ⟨rfl,rfl⟩ | ⟨rfl,rfl⟩ | ⟨rfl,rfl⟩<;>rfl
 have ht2:Zip o=some (fnV n):=by rcases hC with ⟨rfl,rfl⟩ | ⟨rfl,rfl⟩ | ⟨rfl,rfl⟩ | ⟨rfl,rfl⟩<;>rfl
 rw [hr]
 clear hr
 have hblt:b<w.heap.size:=World.block_lt_of_cell? w ⟨b,off,none⟩ d0
 obtain⟨xk,xn⟩:=x
 obtain⟨yk,yn⟩:=y
 dsimp only at *
 have hb0:=(Below.refl w.heap.size w).alloc (Nat.le_refl _) (.cells #[.int .i64 0,.int .i64 0] 137)
 have hR0:=heap_alloc_new w (.cells #[.int .i64 0,.int .i64 0] 137)
 have c0:=(hb0.cell (p:=⟨b,off,none⟩) hblt).trans d0
 have c1:=(hb0.cell (p:=⟨b,off+1,none⟩) hblt).trans d1
 have c2:=(hb0.cell (p:=⟨b,off+2,none⟩) hblt).trans d2
 have c3:=(hb0.cell (p:=⟨b,off+3,none⟩) hblt).trans d3
 have hs1:w.heap.size<(w.alloc (.cells #[.int .i64 0,.int .i64 0] 137)).heap.size:=by simp
 clear d0 d1 d2 d3
 obtain⟨q,hq⟩:∃ q,q=o:=⟨_,rfl⟩
 rw [← hq] at ht1 ht2
 rcases hC with ⟨rfl,rfl⟩ | ⟨rfl,rfl⟩ | ⟨rfl,rfl⟩ | ⟨rfl,rfl⟩
 all_goals
  go_enter Tryz.func122,Tryz.ntmps122
  go_wp2_with fail
  go_quiet (fail)
  go_wp2_with fail
  refine (Zh7 _).mono ?_
  rintro r w1 ⟨bm1,rfl,hM1,hx1⟩
  have hc1:=(Zce (Below.refl (w.alloc (.cells #[.int .i64 0,.int .i64 0] 137)).heap.size (w.alloc (.cells #[.int .i64 0,.int .i64 0] 137))) _).trans hx1
  have hl1:=hM1.run (P:=Tryz.prog) Tryz.underlying253 Tryz.underlying9 (d := .nilFunc) (by kernel_rfl) q true
  rw [ht1] at hl1
  simp only [hq,if_true,Bool.false_eq_true,if_false,Option.getD_some,Option.getD_none,Option.isSome_some,Option.isSome_none] at hl1
  clear hx1 hM1
  go_wp2_with fail
  refine (bools_any _).mono ?_
  rintro r w2 ⟨bm2,rfl,hM2,hx2⟩
  have hc2:=hc1.trans (hx2.mono hc1.size)
  have hl2:=hM2.run (P:=Tryz.prog) Tryz.underlying257 Tryz.underlying9 (d := .nilFunc) (by kernel_rfl) q true
  rw [ht2] at hl2
  simp only [hq,if_true,Bool.false_eq_true,if_false,Option.getD_some,Option.getD_none,Option.isSome_some,Option.isSome_none] at hl2
  clear hx2 hM2
  go_wp2_with fail
  refine (hf _).mono ?_
  rintro r w3 ⟨rfl,rfl⟩
  go_wp2_with fail
  have hcall:=fun w'=>Zdk v w'
  rw [hz] at hcall
  refine (hcall _).mono ?_
  rintro r w4 ⟨rfl,hx4⟩
  have hc4:=hc2.trans (hx4.mono hc2.size)
  clear hx4
  have hRz:=(hc4.block w.heap.size hs1).trans hR0
  obtain⟨q0,q1,f0,f1,hlw⟩:=Zay hRz
  obtain⟨e0,e1,e2,e3⟩:=Zcm hRz (.int .i64 1) (.int .i64 z)
  have E0:=Zhd e0
  have E1:=Zhd e1
  have HBz:=Zhd (hb0.trans (hc4.mono (Nat.le_of_lt hs1)))
  clear e0 e1 e2 e3 hRz
  exact mFlC2
theorem ap_int {o:ByteArray} (x y:Vl) {n:Nat} {z:Int} (hC:(o=oAdd∧n=166)∨(o=oSub∧n=167)∨(o=oMul∧n=168)) {v:Int} (hz:wv v=⟨2,z⟩) (hf:∀ w,Calls Tryz.prog n #[.int .i64 x.n,.int .i64 y.n] w fun e w'=>e = .returned (.int .i64 v)∧w=w') (hr:appM o [x,y]=(⟨2,z⟩,false)) (b off c:Nat) (w:World) (d0:w.cell? ⟨b,off,none⟩=some (.int .i64 x.kind)) (d1:w.cell? ⟨b,off+1,none⟩=some (.int .i64 x.n)) (d2:w.cell? ⟨b,off+2,none⟩=some (.int .i64 y.kind)) (d3:w.cell? ⟨b,off+3,none⟩=some (.int .i64 y.n)):
  Calls Tryz.prog 122 #[.string o,.slice (some ⟨b,off,none⟩) 2 c] w fun r w'=>r = .returned (.tuple #[vlV (appM o [x,y]).1,.bool (appM o [x,y]).2])∧Below w.heap.size w w':=by
 have ht1:Zgs o=none:=by rcases hC with ⟨rfl,rfl⟩ | ⟨rfl,rfl⟩ | ⟨rfl,rfl⟩<;>rfl
 have ht2:Zip o=none:=by rcases hC with ⟨rfl,rfl⟩ | ⟨rfl,rfl⟩ | ⟨rfl,rfl⟩<;>rfl
 have ht3:intsEnv o=some (fnV n):=by rcases hC with ⟨rfl,rfl⟩ | ⟨rfl,rfl⟩ | ⟨rfl,rfl⟩<;>rfl
 rw [hr]
 clear hr
 have hblt:b<w.heap.size:=World.block_lt_of_cell? w ⟨b,off,none⟩ d0
 obtain⟨xk,xn⟩:=x
 obtain⟨yk,yn⟩:=y
 dsimp only at *
 have hb0:=(Below.refl w.heap.size w).alloc (Nat.le_refl _) (.cells #[.int .i64 0,.int .i64 0] 137)
 have hR0:=heap_alloc_new w (.cells #[.int .i64 0,.int .i64 0] 137)
 have c0:=(hb0.cell (p:=⟨b,off,none⟩) hblt).trans d0
 have c1:=(hb0.cell (p:=⟨b,off+1,none⟩) hblt).trans d1
 have c2:=(hb0.cell (p:=⟨b,off+2,none⟩) hblt).trans d2
 have c3:=(hb0.cell (p:=⟨b,off+3,none⟩) hblt).trans d3
 have hs1:w.heap.size<(w.alloc (.cells #[.int .i64 0,.int .i64 0] 137)).heap.size:=by simp
 clear d0 d1 d2 d3
 obtain⟨q,hq⟩:∃ q,q=o:=⟨_,rfl⟩
 rw [← hq] at ht1 ht2 ht3
 rcases hC with ⟨rfl,rfl⟩ | ⟨rfl,rfl⟩ | ⟨rfl,rfl⟩
 all_goals
  exact mFlC1
theorem ap_div {o:ByteArray} (x y:Vl) {n:Nat} {z:Int} (hC:(o=oDiv∧n=169∧(y.n==0)=false)∨(o=oMod∧n=170∧(y.n==0)=false)) {v:Int} (hz:wv v=⟨2,z⟩) (hf:∀ w,Calls Tryz.prog n #[.int .i64 x.n,.int .i64 y.n] w fun e w'=>e = .returned (.int .i64 v)∧w=w') (hr:appM o [x,y]=(⟨2,z⟩,false)) (b off c:Nat) (w:World) (d0:w.cell? ⟨b,off,none⟩=some (.int .i64 x.kind)) (d1:w.cell? ⟨b,off+1,none⟩=some (.int .i64 x.n)) (d2:w.cell? ⟨b,off+2,none⟩=some (.int .i64 y.kind)) (d3:w.cell? ⟨b,off+3,none⟩=some (.int .i64 y.n)):
  Calls Tryz.prog 122 #[.string o,.slice (some ⟨b,off,none⟩) 2 c] w fun r w'=>r = .returned (.tuple #[vlV (appM o [x,y]).1,.bool (appM o [x,y]).2])∧Below w.heap.size w w':=by
 have ht1:Zgs o=none:=by rcases hC with ⟨rfl,rfl,_⟩ | ⟨rfl,rfl,_⟩<;>rfl
 have ht2:Zip o=none:=by rcases hC with ⟨rfl,rfl,_⟩ | ⟨rfl,rfl,_⟩<;>rfl
 have ht3:intsEnv o=some (fnV n):=by rcases hC with ⟨rfl,rfl,_⟩ | ⟨rfl,rfl,_⟩<;>rfl
 rw [hr]
 clear hr
 have hblt:b<w.heap.size:=World.block_lt_of_cell? w ⟨b,off,none⟩ d0
 obtain⟨xk,xn⟩:=x
 obtain⟨yk,yn⟩:=y
 dsimp only at *
 have hb0:=(Below.refl w.heap.size w).alloc (Nat.le_refl _) (.cells #[.int .i64 0,.int .i64 0] 137)
 have hR0:=heap_alloc_new w (.cells #[.int .i64 0,.int .i64 0] 137)
 have c0:=(hb0.cell (p:=⟨b,off,none⟩) hblt).trans d0
 have c1:=(hb0.cell (p:=⟨b,off+1,none⟩) hblt).trans d1
 have c2:=(hb0.cell (p:=⟨b,off+2,none⟩) hblt).trans d2
 have c3:=(hb0.cell (p:=⟨b,off+3,none⟩) hblt).trans d3
 have hs1:w.heap.size<(w.alloc (.cells #[.int .i64 0,.int .i64 0] 137)).heap.size:=by simp
 clear d0 d1 d2 d3
 obtain⟨q,hq⟩:∃ q,q=o:=⟨_,rfl⟩
 rw [← hq] at ht1 ht2 ht3
 rcases hC with ⟨rfl,rfl,hyb⟩ | ⟨rfl,rfl,hyb⟩
 all_goals
  exact mFlC1
theorem ap_zero {o:ByteArray} (x y:Vl) (hC:o=oDiv∨o=oMod) (hy:y.n=0) (b off c:Nat) (w:World) (d0:w.cell? ⟨b,off,none⟩=some (.int .i64 x.kind)) (d1:w.cell? ⟨b,off+1,none⟩=some (.int .i64 x.n)) (d2:w.cell? ⟨b,off+2,none⟩=some (.int .i64 y.kind)) (d3:w.cell? ⟨b,off+3,none⟩=some (.int .i64 y.n)):
  Calls Tryz.prog 122 #[.string o,.slice (some ⟨b,off,none⟩) 2 c] w fun r w'=>r = .returned (.tuple #[vlV (appM o [x,y]).1,.bool (appM o [x,y]).2])∧Below w.heap.size w w':=by
 have hr:appM o [x,y]=(⟨0,0⟩,true):=by rcases hC with rfl | rfl<;>(unfold appM;simp [hy,vz])
 have ht1:Zgs o=none:=by rcases hC with rfl | rfl<;>rfl
 have ht2:Zip o=none:=by rcases hC with rfl | rfl<;>rfl
 rw [hr]
 clear hr
 have hblt:b<w.heap.size:=World.block_lt_of_cell? w ⟨b,off,none⟩ d0
 obtain⟨xk,xn⟩:=x
 obtain⟨yk,yn⟩:=y
 dsimp only at *
 have hb0:=(Below.refl w.heap.size w).alloc (Nat.le_refl _) (.cells #[.int .i64 0,.int .i64 0] 137)
 have hR0:=heap_alloc_new w (.cells #[.int .i64 0,.int .i64 0] 137)
 have c0:=(hb0.cell (p:=⟨b,off,none⟩) hblt).trans d0
 have c1:=(hb0.cell (p:=⟨b,off+1,none⟩) hblt).trans d1
 have c2:=(hb0.cell (p:=⟨b,off+2,none⟩) hblt).trans d2
 have c3:=(hb0.cell (p:=⟨b,off+3,none⟩) hblt).trans d3
 have hs1:w.heap.size<(w.alloc (.cells #[.int .i64 0,.int .i64 0] 137)).heap.size:=by simp
 clear d0 d1 d2 d3
 subst hy
 obtain⟨q,hq⟩:∃ q,q=o:=⟨_,rfl⟩
 rw [← hq] at ht1 ht2
 rcases hC with rfl | rfl
 all_goals
  go_enter Tryz.func122,Tryz.ntmps122
  go_wp2_with fail
  go_quiet (fail)
  go_wp2_with fail
  refine (Zh7 _).mono ?_
  rintro r w1 ⟨bm1,rfl,hM1,hx1⟩
  have hc1:=(Zce (Below.refl (w.alloc (.cells #[.int .i64 0,.int .i64 0] 137)).heap.size (w.alloc (.cells #[.int .i64 0,.int .i64 0] 137))) _).trans hx1
  have hl1:=hM1.run (P:=Tryz.prog) Tryz.underlying253 Tryz.underlying9 (d := .nilFunc) (by kernel_rfl) q true
  rw [ht1] at hl1
  simp only [hq,if_true,Bool.false_eq_true,if_false,Option.getD_some,Option.getD_none,Option.isSome_some,Option.isSome_none] at hl1
  clear hx1 hM1
  go_wp2_with fail
  refine (bools_any _).mono ?_
  rintro r w2 ⟨bm2,rfl,hM2,hx2⟩
  have hc2:=hc1.trans (hx2.mono hc1.size)
  have hl2:=hM2.run (P:=Tryz.prog) Tryz.underlying257 Tryz.underlying9 (d := .nilFunc) (by kernel_rfl) q true
  rw [ht2] at hl2
  simp only [hq,if_true,Bool.false_eq_true,if_false,Option.getD_some,Option.getD_none,Option.isSome_some,Option.isSome_none] at hl2
  clear hx2 hM2
  have hRz:=(hc2.block w.heap.size hs1).trans hR0
  obtain⟨q0,q1,f0,f1,hlw⟩:=Zay hRz
  obtain⟨e0,e1,e2,e3⟩:=Zcm hRz (.int .i64 0) (.int .i64 0)
  have E0:=Zhd e0
  have E1:=Zhd e1
  have HBz:=Zhd (hb0.trans (hc2.mono (Nat.le_of_lt hs1)))
  clear e0 e1 e2 e3 hRz
  go_wp2_with fail
  have e0:=E0.out
  have e1:=E1.out
  refine bodyPost_ret (v := .tuple #[vlV ⟨0,0⟩,.bool true]) (by simp [results,Tryz.results122,go_sem,e0,e1]) rfl ?_
  exact⟨rfl,Zby HBz.out (Nat.le_refl _) _ _⟩
theorem ap_same {o:ByteArray} (x y:Vl) {z:Int} {e:Bool} (hC:o=oEq∧e=true∨o=oNe∧e=false) {v:Bool} (hv:v=(e==(x.kind==y.kind&&x.n==y.n))) (hz:tv v=⟨1,z⟩) (hr:appM o [x,y]=(⟨1,z⟩,false)) (b off c:Nat) (w:World) (d0:w.cell? ⟨b,off,none⟩=some (.int .i64 x.kind)) (d1:w.cell? ⟨b,off+1,none⟩=some (.int .i64 x.n)) (d2:w.cell? ⟨b,off+2,none⟩=some (.int .i64 y.kind)) (d3:w.cell? ⟨b,off+3,none⟩=some (.int .i64 y.n)):
  Calls Tryz.prog 122 #[.string o,.slice (some ⟨b,off,none⟩) 2 c] w fun r w'=>r = .returned (.tuple #[vlV (appM o [x,y]).1,.bool (appM o [x,y]).2])∧Below w.heap.size w w':=by
 rw [hr]
 clear hr
 have hblt:b<w.heap.size:=World.block_lt_of_cell? w ⟨b,off,none⟩ d0
 obtain⟨xk,xn⟩:=x
 obtain⟨yk,yn⟩:=y
 dsimp only at *
 have hb0:=(Below.refl w.heap.size w).alloc (Nat.le_refl _) (.cells #[.int .i64 0,.int .i64 0] 137)
 have hR0:=heap_alloc_new w (.cells #[.int .i64 0,.int .i64 0] 137)
 have c0:=(hb0.cell (p:=⟨b,off,none⟩) hblt).trans d0
 have c1:=(hb0.cell (p:=⟨b,off+1,none⟩) hblt).trans d1
 have c2:=(hb0.cell (p:=⟨b,off+2,none⟩) hblt).trans d2
 have c3:=(hb0.cell (p:=⟨b,off+3,none⟩) hblt).trans d3
 have hs1:w.heap.size<(w.alloc (.cells #[.int .i64 0,.int .i64 0] 137)).heap.size:=by simp
 clear d0 d1 d2 d3
 obtain⟨X,hX⟩:∃ X,(xk==yk)=X:=⟨_,rfl⟩
 obtain⟨Y,hY⟩:∃ Y,(xn==yn)=Y:=⟨_,rfl⟩
 rw [hX,hY] at hv
 rcases hC with ⟨rfl,rfl⟩ | ⟨rfl,rfl⟩<;>(cases X;rotate_left;cases Y)
 all_goals
  simp only [Bool.and_true,Bool.and_false,Bool.true_and,Bool.false_and,Bool.not_true,Bool.not_false,Bool.true_beq,Bool.false_beq] at hv
  go_enter Tryz.func122,Tryz.ntmps122
  go_wp2_with fail
  generalize w.alloc (.cells #[.int .i64 0,.int .i64 0] 137)=W at *
  have k0:(Zcr w.heap.size W).cell b off=some (.int .i64 xk):=by rw [Za9 (by omega)];exact c0
  have k1:(Zcr w.heap.size W).cell b (off+1)=some (.int .i64 xn):=by rw [Za9 (by omega)];exact c1
  have k2:(Zcr w.heap.size W).cell b (off+2)=some (.int .i64 yk):=by rw [Za9 (by omega)];exact c2
  have k3:(Zcr w.heap.size W).cell b (off+3)=some (.int .i64 yn):=by rw [Za9 (by omega)];exact c3
  have hS:(Zcr w.heap.size W).In W.drew:=Zj8 w.heap.size W
  have hK0:(Zcr w.heap.size W) w.heap.size=none:=by simp [Zcr]
  have hcall:=fun w'=>Zdk v w'
  rw [hz,hv] at hcall
  clear c0 c1 c2 c3 hz
  refine Za2 (fun w'=>(Zcr w.heap.size W).In w') (fun _=>True) 99 (by kernel_rfl) ?_
  refine w3 0 ?_
  iterate 6 ((first | (refine tk3 (v:=?_) rfl hS Ztr ?hy ?_;(case hy=>intro w hSw;obtain⟨z0,z1,z2,z3⟩:=hSw.c4 k0 k1 k2 k3;go_simp<;>with_reducible rfl)) | refine sk3 rfl hS Ztr ?_ | refine no3 ?_);refine Zss ?_)
  refine w3e ?_
  refine tk2 (i:=6) (v:=?_) rfl hS Ztr ?hy ?_
  case hy=>intro w hSw;obtain⟨z0,z1,z2,z3⟩:=hSw.c4 k0 k1 k2 k3;first | (go_simp;done) | (go_simp;rfl) | (go_simp;with_reducible rfl)
  try simp only [tkS]
  refine Zwo 7 rfl fun K_ hK=>?_
  go_simp
  go_at_call 91
  refine (hcall _).mono ?_
  rintro r w3 ⟨rfl,hx3⟩
  have hS3:=hS.below hx3
  have hc3:Below W.heap.size W w3:=((Below.refl _ _).drew).trans hx3
  have hRz:=(hc3.block w.heap.size hs1).trans hR0
  obtain⟨q0,q1,f0,f1,hlw⟩:=Zay hRz
  obtain⟨e0,e1,e2,e3⟩:=Zcm hRz (.int .i64 1) (.int .i64 z)
  have E0:=Zhd e0
  have E1:=Zhd e1
  have HBz:=Zhd (hb0.trans (hc3.mono (Nat.le_of_lt hs1)))
  have hS4:=(hS3.setCell (a:=⟨w.heap.size,0,none⟩) hK0 (.int .i64 1)).setCell (a:=⟨w.heap.size,1,none⟩) hK0 (.int .i64 z)
  clear e0 e1 e2 e3 hRz
  refine hK.out _ _ (hS3) Ztr ?_
  clear hK K_
  try simp only [tkS]
  refine Zwo 8 rfl fun K_ hK=>?_
  go_simp
  refine hK.out _ _ (hS4) Ztr ?_
  clear hK K_
  try simp only [tkS]
  refine tk2 (i:=9) (v:=?_) rfl hS4 Ztr ?hy ?_
  case hy=>intro w hSw;obtain⟨z0,z1,z2,z3⟩:=hSw.c4 k0 k1 k2 k3;go_simp<;>with_reducible rfl
  try simp only [tkS]
  refine Zwd ?_
  exact mFlC2
theorem ap_not  (x:Vl) (b off c:Nat) (w:World) (d0:w.cell? ⟨b,off,none⟩=some (.int .i64 x.kind)) (d1:w.cell? ⟨b,off+1,none⟩=some (.int .i64 x.n)):
  Calls Tryz.prog 122 #[.string oNot,.slice (some ⟨b,off,none⟩) 1 c] w fun r w'=>r = .returned (.tuple #[vlV (appM oNot [x]).1,.bool (appM oNot [x]).2])∧Below w.heap.size w w':=by
 obtain⟨z,hz⟩:∃ z:Int,tv (decide (x.n=0))=⟨1,z⟩:=⟨_,rfl⟩
 rw [show appM oNot [x]=(tv (decide (x.n=0)),false) from rfl,hz]
 have hblt:b<w.heap.size:=World.block_lt_of_cell? w ⟨b,off,none⟩ d0
 obtain⟨xk,xn⟩:=x
 dsimp only at *
 have hb0:=(Below.refl w.heap.size w).alloc (Nat.le_refl _) (.cells #[.int .i64 0,.int .i64 0] 137)
 have hR0:=heap_alloc_new w (.cells #[.int .i64 0,.int .i64 0] 137)
 have c0:=(hb0.cell (p:=⟨b,off,none⟩) hblt).trans d0
 have c1:=(hb0.cell (p:=⟨b,off+1,none⟩) hblt).trans d1
 have hs1:w.heap.size<(w.alloc (.cells #[.int .i64 0,.int .i64 0] 137)).heap.size:=by simp
 clear d0 d1
 go_enter Tryz.func122,Tryz.ntmps122
 go_wp2_with fail
 have hcall:=fun w'=>Zdk (decide (xn=0)) w'
 rw [hz] at hcall
 rw [beq_zero]
 refine (hcall _).mono ?_
 rintro r w3 ⟨rfl,hc3⟩
 exact mFlC3
theorem ap_neg  (x:Vl) (b off c:Nat) (w:World) (d0:w.cell? ⟨b,off,none⟩=some (.int .i64 x.kind)) (d1:w.cell? ⟨b,off+1,none⟩=some (.int .i64 x.n)):
  Calls Tryz.prog 122 #[.string oNeg,.slice (some ⟨b,off,none⟩) 1 c] w fun r w'=>r = .returned (.tuple #[vlV (appM oNeg [x]).1,.bool (appM oNeg [x]).2])∧Below w.heap.size w w':=by
 obtain⟨z,hz⟩:∃ z:Int,wv (-x.n)=⟨2,z⟩:=⟨_,rfl⟩
 rw [show appM oNeg [x]=(wv (-x.n),false) from rfl,hz]
 have hblt:b<w.heap.size:=World.block_lt_of_cell? w ⟨b,off,none⟩ d0
 obtain⟨xk,xn⟩:=x
 dsimp only at *
 have hb0:=(Below.refl w.heap.size w).alloc (Nat.le_refl _) (.cells #[.int .i64 0,.int .i64 0] 137)
 have hR0:=heap_alloc_new w (.cells #[.int .i64 0,.int .i64 0] 137)
 have c0:=(hb0.cell (p:=⟨b,off,none⟩) hblt).trans d0
 have c1:=(hb0.cell (p:=⟨b,off+1,none⟩) hblt).trans d1
 have hs1:w.heap.size<(w.alloc (.cells #[.int .i64 0,.int .i64 0] 137)).heap.size:=by simp
 clear d0 d1
 go_enter Tryz.func122,Tryz.ntmps122
 go_wp2_with fail
 have hcall:=fun w'=>whole_any (RowKit.wrap64 (-xn)) w'
 rw [Zf8,hz] at hcall
 refine (hcall _).mono ?_
 rintro r w3 ⟨rfl,hc3⟩
 have hRz:=(hc3.block w.heap.size hs1).trans hR0
 obtain⟨q0,q1,f0,f1,hlw⟩:=Zay hRz
 obtain⟨e0,e1,e2,e3⟩:=Zcm hRz (.int .i64 2) (.int .i64 z)
 have E0:=Zhd e0
 have E1:=Zhd e1
 have HBz:=Zhd (hb0.trans (hc3.mono (Nat.le_of_lt hs1)))
 clear e0 e1 e2 e3 hRz
 go_wp2_with fail
 have e0:=E0.out
 have e1:=E1.out
 refine bodyPost_ret (v := .tuple #[vlV ⟨2,z⟩,.bool false]) (by simp [results,Tryz.results122,go_sem,e0,e1]) rfl ?_
 exact⟨rfl,Zby HBz.out (Nat.le_refl _) _ _⟩
theorem ap_if  (x y u:Vl) (b off c:Nat) (w:World) (d0:w.cell? ⟨b,off,none⟩=some (.int .i64 x.kind)) (d1:w.cell? ⟨b,off+1,none⟩=some (.int .i64 x.n)) (d2:w.cell? ⟨b,off+2,none⟩=some (.int .i64 y.kind)) (d3:w.cell? ⟨b,off+3,none⟩=some (.int .i64 y.n)) (d4:w.cell? ⟨b,off+4,none⟩=some (.int .i64 u.kind)) (d5:w.cell? ⟨b,off+5,none⟩=some (.int .i64 u.n)):
  Calls Tryz.prog 122 #[.string oIf,.slice (some ⟨b,off,none⟩) 3 c] w fun r w'=>r = .returned (.tuple #[vlV (appM oIf [x,y,u]).1,.bool (appM oIf [x,y,u]).2])∧Below w.heap.size w w':=by
 rw [show appM oIf [x,y,u]=(if x.n=1 then y else u,false) from rfl]
 have hblt:b<w.heap.size:=World.block_lt_of_cell? w ⟨b,off,none⟩ d0
 obtain⟨xk,xn⟩:=x
 obtain⟨yk,yn⟩:=y
 obtain⟨uk,un⟩:=u
 dsimp only at *
 have hb0:=(Below.refl w.heap.size w).alloc (Nat.le_refl _) (.cells #[.int .i64 0,.int .i64 0] 137)
 have hR0:=heap_alloc_new w (.cells #[.int .i64 0,.int .i64 0] 137)
 have c0:=(hb0.cell (p:=⟨b,off,none⟩) hblt).trans d0
 have c1:=(hb0.cell (p:=⟨b,off+1,none⟩) hblt).trans d1
 have c2:=(hb0.cell (p:=⟨b,off+2,none⟩) hblt).trans d2
 have c3:=(hb0.cell (p:=⟨b,off+3,none⟩) hblt).trans d3
 have c4:=(hb0.cell (p:=⟨b,off+4,none⟩) hblt).trans d4
 have c5:=(hb0.cell (p:=⟨b,off+5,none⟩) hblt).trans d5
 have hs1:w.heap.size<(w.alloc (.cells #[.int .i64 0,.int .i64 0] 137)).heap.size:=by simp
 clear d0 d1 d2 d3 d4 d5
 by_cases hx:xn=1
 ·subst hx
  rw [if_pos rfl]
  go_enter Tryz.func122,Tryz.ntmps122
  go_wp2_with fail
  have hRz:=hR0
  obtain⟨q0,q1,f0,f1,hlw⟩:=Zay hRz
  obtain⟨e0,e1,e2,e3⟩:=Zcm hRz (.int .i64 yk) (.int .i64 yn)
  have E0:=Zhd e0
  have E1:=Zhd e1
  have HBz:=Zhd hb0
  clear e0 e1 e2 e3 hRz
  go_wp2_with fail
  have e0:=E0.out
  have e1:=E1.out
  refine bodyPost_ret (v := .tuple #[vlV ⟨yk,yn⟩,.bool false]) (by simp [results,Tryz.results122,go_sem,e0,e1]) rfl ?_
  exact⟨rfl,(Below.refl _ _).alloc (Nat.le_refl _) _⟩
 rw [if_neg hx]
 go_enter Tryz.func122,Tryz.ntmps122
 go_wp2_with fail
 have hRz:=hR0
 obtain⟨q0,q1,f0,f1,hlw⟩:=Zay hRz
 obtain⟨e0,e1,e2,e3⟩:=Zcm hRz (.int .i64 uk) (.int .i64 un)
 have E0:=Zhd e0
 have E1:=Zhd e1
 have HBz:=Zhd hb0
 clear e0 e1 e2 e3 hRz
 go_wp2_with fail
 have e0:=E0.out
 have e1:=E1.out
 refine bodyPost_ret (v := .tuple #[vlV ⟨uk,un⟩,.bool false]) (by simp [results,Tryz.results122,go_sem,e0,e1]) rfl ?_
 exact⟨rfl,(Below.refl _ _).alloc (Nat.le_refl _) _⟩
theorem op_cases {o:ByteArray} {k:Int} (ha:Zcv o=some k) (h1:1≤k) (hp:o≠oPre) (hq:o≠Zbq) (hr:o≠oFby):
  (k=1∧(o=oNot∨o=oNeg))∨(k=3∧o=oIf)∨(k=2∧(o=oOr∨o=oXor∨o=oAnd∨o=oEq∨o=oNe∨o=oLt∨o=oLe∨o=oGt∨o=oGe∨o=oImp∨o=oAdd∨o=oSub∨o=oMul∨o=oDiv∨o=oMod)):=by
 unfold Zcv at ha
 split at ha
 ·cases ha;omega
 split at ha
 ·rename_i h
  cases ha
  exact .inl ⟨rfl,h.elim .inl fun h=>h.elim .inr fun h=>absurd h hp⟩
 split at ha
 ·rename_i h;cases ha;exact .inr (.inl ⟨rfl,h⟩)
 split at ha
 ·cases ha;omega
 split at ha
 ·rename_i h;exact absurd h (fun h=>h.elim hq hr)
 split at ha
 ·rename_i h
  cases ha
  refine .inr (.inr ⟨rfl,?_⟩)
  simp only [levels,List.any_cons,List.any_nil,Bool.or_eq_true,Bool.or_false,List.contains_eq_mem,decide_eq_true_eq,List.mem_cons,List.not_mem_nil,or_false] at h
  rcases h with (h | h) | h | (h | h | h | h | h | h | h) | (h | h) | (h | h | h)<;>simp [h]
 cases ha
theorem apply_any (o:ByteArray) (l:List Vl) (ha:Zcv o=some (l.length:Int)) (h1:1≤l.length) (hp:o≠oPre) (hq:o≠Zbq) (hr:o≠oFby) (H:Kn) (v:Value) (hv:VlsV H l v) (w:World) (hH:H.In w):
  Calls Tryz.prog 122 #[.string o,v] w fun r w'=>r = .returned (.tuple #[vlV (appM o l).1,.bool (appM o l).2])∧Below w.heap.size w w':=by
 rcases hv with ⟨rfl,_⟩ | ⟨b,off,cap,rfl,_,_,hc⟩
 ·simp at h1
 rcases op_cases ha (by omega) hp hq hr with ⟨hk,ho⟩ | ⟨hk,ho⟩ | ⟨hk,ho⟩
 ·match l,hk with
  | [x],_=>
   have d0:w.cell? ⟨b,off,none⟩=some (.int .i64 x.kind):=hH.cell (by simpa using (hc 0 (by simp)).1)
   have d1:w.cell? ⟨b,off+1,none⟩=some (.int .i64 x.n):=hH.cell (by simpa using (hc 0 (by simp)).2)
   rcases ho with rfl | rfl
   ·exact ap_not x b off cap w d0 d1
   exact ap_neg x b off cap w d0 d1
 ·match l,hk with
  | [x,y,u],_=>
   have d0:w.cell? ⟨b,off,none⟩=some (.int .i64 x.kind):=hH.cell (by simpa using (hc 0 (by simp)).1)
   have d1:w.cell? ⟨b,off+1,none⟩=some (.int .i64 x.n):=hH.cell (by simpa using (hc 0 (by simp)).2)
   have d2:w.cell? ⟨b,off+2,none⟩=some (.int .i64 y.kind):=hH.cell (by simpa using (hc 1 (by simp)).1)
   have d3:w.cell? ⟨b,off+3,none⟩=some (.int .i64 y.n):=hH.cell (by simpa using (hc 1 (by simp)).2)
   have d4:w.cell? ⟨b,off+4,none⟩=some (.int .i64 u.kind):=hH.cell (by simpa using (hc 2 (by simp)).1)
   have d5:w.cell? ⟨b,off+5,none⟩=some (.int .i64 u.n):=hH.cell (by simpa using (hc 2 (by simp)).2)
   subst ho
   exact ap_if x y u b off cap w d0 d1 d2 d3 d4 d5
 match l,hk with
 | [x,y],_=>
  have d0:w.cell? ⟨b,off,none⟩=some (.int .i64 x.kind):=hH.cell (by simpa using (hc 0 (by simp)).1)
  have d1:w.cell? ⟨b,off+1,none⟩=some (.int .i64 x.n):=hH.cell (by simpa using (hc 0 (by simp)).2)
  have d2:w.cell? ⟨b,off+2,none⟩=some (.int .i64 y.kind):=hH.cell (by simpa using (hc 1 (by simp)).1)
  have d3:w.cell? ⟨b,off+3,none⟩=some (.int .i64 y.n):=hH.cell (by simpa using (hc 1 (by simp)).2)
  rcases ho with rfl | rfl | rfl | rfl | rfl | rfl | rfl | rfl | rfl | rfl | rfl | rfl | rfl | rfl | rfl
  ·exact ap_bool x y (.inr (.inl ⟨rfl,rfl⟩)) rfl (fun w=>fn_or _ _ w) (by simp only [beq_one];rfl) b off cap w d0 d1 d2 d3
  ·exact ap_bool x y (.inr (.inr (.inl ⟨rfl,rfl⟩))) rfl (fun w=>fn_xor _ _ w) (by simp only [beq_one];rfl) b off cap w d0 d1 d2 d3
  ·exact ap_bool x y (.inl ⟨rfl,rfl⟩) rfl (fun w=>fn_and _ _ w) (by simp only [beq_one];rfl) b off cap w d0 d1 d2 d3
  ·exact ap_same x y (.inl ⟨rfl,rfl⟩) rfl rfl (by obtain⟨xk,xn⟩:=x;obtain⟨yk,yn⟩:=y;show (tv (decide ((⟨xk,xn⟩:Vl)=⟨yk,yn⟩)),false)=_;rw [vl_eq];simp [tv]) b off cap w d0 d1 d2 d3
  ·exact ap_same x y (.inr ⟨rfl,rfl⟩) rfl rfl (by obtain⟨xk,xn⟩:=x;obtain⟨yk,yn⟩:=y;show (tv (decide ((⟨xk,xn⟩:Vl)≠⟨yk,yn⟩)),false)=_;rw [vl_ne];simp [tv]) b off cap w d0 d1 d2 d3
  ·exact ap_test x y (.inl ⟨rfl,rfl⟩) rfl (fun w=>fn_lt _ _ w) rfl b off cap w d0 d1 d2 d3
  ·exact ap_test x y (.inr (.inl ⟨rfl,rfl⟩)) rfl (fun w=>fn_le _ _ w) rfl b off cap w d0 d1 d2 d3
  ·exact ap_test x y (.inr (.inr (.inl ⟨rfl,rfl⟩))) rfl (fun w=>fn_gt _ _ w) rfl b off cap w d0 d1 d2 d3
  ·exact ap_test x y (.inr (.inr (.inr ⟨rfl,rfl⟩))) rfl (fun w=>fn_ge _ _ w) rfl b off cap w d0 d1 d2 d3
  ·exact ap_bool x y (.inr (.inr (.inr ⟨rfl,rfl⟩))) rfl (fun w=>fn_imp _ _ w) (by simp only [beq_one];rfl) b off cap w d0 d1 d2 d3
  ·exact ap_int x y (.inl ⟨rfl,rfl⟩) (Zf8 _) (fun w=>fn_add _ _ w) rfl b off cap w d0 d1 d2 d3
  ·exact ap_int x y (.inr (.inl ⟨rfl,rfl⟩)) (Zf8 _) (fun w=>fn_sub _ _ w) rfl b off cap w d0 d1 d2 d3
  ·exact ap_int x y (.inr (.inr ⟨rfl,rfl⟩)) (Zf8 _) (fun w=>fn_mul _ _ w) rfl b off cap w d0 d1 d2 d3
  ·by_cases hy:y.n=0
   ·exact ap_zero x y (.inl rfl) hy b off cap w d0 d1 d2 d3
   exact ap_div x y (.inl ⟨rfl,rfl,by simpa using hy⟩) (Zf8 _) (fun w=>fn_div _ _ hy w) (by unfold appM;simp [hy,wv]) b off cap w d0 d1 d2 d3
  by_cases hy:y.n=0
  ·exact ap_zero x y (.inr rfl) hy b off cap w d0 d1 d2 d3
  exact ap_div x y (.inr ⟨rfl,rfl,by simpa using hy⟩) rfl (fun w=>fn_mod _ _ hy w) (by unfold appM;simp [hy,wv]) b off cap w d0 d1 d2 d3
theorem Zga {H:Kn} {l:List Vl} {a:Option Addr} {n c:Nat} (h:VlsV H l (.slice a n c)) {i:Nat} (hi:i<l.length):∃ b off,a=some ⟨b,off,none⟩∧H.cell b (off+i * 2)=some (.int .i64 l[i].kind)∧H.cell b (off+i * 2+1)=some (.int .i64 l[i].n):=by
 obtain⟨b,off,h1,h2,h3⟩:=vl_at h hi
 exact⟨b,off,h1,by rw [Nat.mul_comm];exact h2,by rw [Nat.mul_comm];exact h3⟩
end Go.Proofs.YtofameafdnkijaaGreatDoor
