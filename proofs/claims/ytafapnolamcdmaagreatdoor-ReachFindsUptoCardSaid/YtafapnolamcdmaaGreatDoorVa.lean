/- Walks: flow.instant.value, way by way. -/
import Derived.Test.YtafapnolamcdmaaGreatDoorFlC
import Derived.Test.YtafapnolamcdmaaGreatDoorSm2
set_option linter.all false
namespace Go.Proofs.YtafapnolamcdmaaGreatDoor
set_option maxRecDepth 100000
set_option maxHeartbeats 16000000
open Go.RowKit Mx
theorem mVa5{p:Prop}(h:p:=by
 obtain⟨jQ,jb,Hg,Jr,JY,g0,g1,g7,g8,i3,i4,i5,i6⟩:=Zdo Hk hb hq;rw[hf] at i3;obtain⟨va,vc,qu⟩:=hv.len;subst qu;obtain⟨vb,voff,qu,j8,qf⟩:=Zd4 hv hi;cases qu;obtain⟨⟨xk,xn⟩,hx⟩:∃x,x=vs[0]:=⟨_,rfl⟩;have jL:vs.getD 0 vz=⟨xk,xn⟩:=by rw[hx];simp[Ygg,hi]
 rw[jL];rw[<- hx] at j8 qf;clear jL hx;have za:(0:Int)<vs.length:=by omega
 have v0:=JY.cell j8;have v1:=JY.cell qf;simp only[Nat.zero_mul,Nat.add_zero] at v0 v1;go_enter Tryz.func101,Tryz.ntmps101;go_wp2_with fail;refine bodyPost_ret (v:=.agg #[.int .i64 xk,.int .i64 xn]) (by simp[results,Tryz.results101,go_sem]) rfl ?_;exact⟨rfl,Yba⟩):p:=h
theorem mVa4{p:Prop}(h:p:=by
 obtain⟨va,vc,qu⟩:=hv.len;subst qu;obtain⟨vb,voff,qu,j8,qf⟩:=Zd4 hv hi;cases qu;obtain⟨⟨xk,xn⟩,hx⟩:∃x,x=r.mem[i]:=⟨_,rfl⟩;have jL:r.mem.getD i vz=⟨xk,xn⟩:=by rw[hx];simp[Ygg,hi]
 rw[jL];rw[<- hx] at j8 qf;clear jL hx;go_enter Tryz.func101,Tryz.ntmps101;go_wp2_with fail;generalize hWe:w.alloc (.cells Yo2 101)=W at *;have hqR:q≠w.heap.size:=by omega
 have hiI:(i:Int)<r.mem.length:=by omega
 have hwn:=wrap_neg i (by omega);have hIR:I≠w.heap.size:=by omega
 have hbR:vb≠w.heap.size:=by have:=Kn.cell_lt Hk j8;omega
 have k7:(Zci w.heap.size W).cell q 7=some (.int .i64 (R.nm s)):=by rw[Za8 hqR];exact g7
 have k8:(Zci w.heap.size W).cell q 8=some (.int .i64 (i:Int)):=by rw[Za8 hqR];exact g8
 exact mVa3):p:=h
theorem mVa3{p:Prop}(h:p:=by
 have j4:=(Za8 (w:=W) hIR 4).trans i4;have j5:=(Za8 (w:=W) hIR 5).trans i5;have j6:=(Za8 (w:=W) hIR 6).trans i6;have u0:=(Za8 (w:=W) hbR _).trans (JY.cell j8);have u1:=(Za8 (w:=W) hbR _).trans (JY.cell qf);have hS:(Zci w.heap.size W).In W.drew:=Zkz w.heap.size W;have kW:(Zci w.heap.size W) w.heap.size=none:=by simp[Zci]
 have hRd:W.drew.heap[w.heap.size]?=_:=Jr;obtain⟨q0,q1,f0,f1,kt⟩:=Zal hRd;obtain⟨qa,qb,fa,fb,hlw2⟩:=Zal Jr;obtain⟨e0,e1,e2,e3⟩:=Zbb Jr (.int .i64 xk) (.int .i64 xn);have E0:=Zhd e0;have E1:=Zhd e1;clear e0 e1 e2 e3 g0 g1 g7 g8 i3 i4 i5 i6;refine Zae (λw'=>(Zci w.heap.size W).In w') (λ_=>True) 99 (by kernel_rfl) ?_;refine tk2 (i:=0) (v:=?_) rfl hS Ztr ?hy ?_
 case hy=>exact mVa1
 refine Zst ?_;refine w3 1 ?_
 iterate 9 ((first|(refine tk3 (v:=?_) rfl hS Ztr ?hy ?_;(case hy=>exact mVa2))|refine sk3 rfl hS Ztr ?_|refine no3 ?_);refine Zss ?_)
 refine w3e ?_;refine Zwo 10 rfl λK_ hK=>?_;go_simp;refine hK.out _ _ (((hS.setCell (a:=⟨w.heap.size,0,none⟩) kW _).setCell (a:=⟨w.heap.size,1,none⟩) kW _)) Ztr ?_;clear hK K_
 try simp only[tkS]
 refine Zwd ?_;go_wp2_with fail;have e0:=E0.out;have e1:=E1.out;refine bodyPost_ret (v:=.agg #[.int .i64 xk,.int .i64 xn]) (by simp[results,Tryz.results101,go_sem,e0,e1]) rfl ?_;exact⟨rfl,(Zb0 Hg.drew Ylr _ _)⟩):p:=h
theorem mVa2{p:Prop}(h:p:=by
 intro w Hi;obtain⟨z0,z1,z2,z3,z4,z5,z6⟩:=Hi.c7 k7 k8 j4 j5 j6 u0 u1;go_simp<;>with_reducible rfl):p:=h
theorem mVa1{p:Prop}(h:p:=by
 intro w Hi;obtain⟨z0,z1,z2,z3,z4,z5,z6⟩:=Hi.c7 k7 k8 j4 j5 j6 u0 u1;first|(go_simp;done)|(go_simp;with_reducible rfl)):p:=h
theorem grown_set{w W:World}(hb:Ybw w W)(I:Nat)(z:Value){Rr:Nat}(hR:w.heap.size<=Rr)(u v:Value):w.grownBy (((W.setCell ⟨I,7,none⟩ z).setCell ⟨Rr,0,none⟩ u).setCell ⟨Rr,1,none⟩ v) (some I):=
 ⟨hb.os,hb.tape,hb.output,by simpa using hb.size,λk hk Hs=>by
  rw[Below.heap_setCell _ ⟨Rr,1,none⟩ _ k (by show k≠Rr;omega),Below.heap_setCell _ ⟨Rr,0,none⟩ _ k (by show k≠Rr;omega),Below.heap_setCell _ ⟨I,7,none⟩ _ k (by show k≠I;intro e;exact Hs (by rw[e]))];exact hb.block k hk⟩
theorem wrap_neg(i:Nat)(h:i<=1000000000):IntKind.wrap .i64 (-1 - (-1 - (i:Int)))=(i:Int):=by
 rw[wrap64]
 split<;>omega
def Zcu(cp:Value)(R:REnv)(r:Inst)(vm vi vn:Value)(t:Bool):Array Value := #[cp,.bool R.nb,.int .i64 R.ni,.bool r.first,vm,vi,vn,.bool t]
theorem Zdo{R:REnv}{r:Inst}{H:Kn}{I q:Nat}{cp lv pv vm vi vn:Value}{t:Bool}{o:ByteArray}{n:Int}{s:ByteArray}{l:List Ex}{mem:Int}{w:World}(Hk:H.In w)(hb:w.heap[I]?=some (.cells (Zcu cp R r vm vi vn t) 172 (0,0)))
  (hq:H q=some (.cells (Za3 R (.mk o n s l) mem lv pv) 168 (0,0))):
  q<w.heap.size/\I<w.heap.size/\Ybw w (w.alloc (.cells Yo2 101))/\(w.alloc (.cells Yo2 101)).heap[w.heap.size]?=some (.cells Yo2 101 (0,0))/\H.In (w.alloc (.cells Yo2 101))/\(w.alloc (.cells Yo2 101)).cell? ⟨q,0,none⟩=some (.string o)/\(w.alloc (.cells Yo2 101)).cell? ⟨q,1,none⟩=some (.int .i64 n)/\
   (w.alloc (.cells Yo2 101)).cell? ⟨q,7,none⟩=some (.int .i64 (R.nm s))/\(w.alloc (.cells Yo2 101)).cell? ⟨q,8,none⟩=some (.int .i64 mem)/\(w.alloc (.cells Yo2 101)).cell? ⟨I,3,none⟩=some (.bool r.first)/\(w.alloc (.cells Yo2 101)).cell? ⟨I,4,none⟩=some vm/\(w.alloc (.cells Yo2 101)).cell? ⟨I,5,none⟩=some vi/\(w.alloc (.cells Yo2 101)).cell? ⟨I,6,none⟩=some vn:=by
 have gv:=Hk _ _ hq;have jQ:q<w.heap.size:=(Zlt gv);have jb:I<w.heap.size:=(Zlt hb);have Hg:Ybw w (w.alloc (.cells Yo2 101)):=Yba;have JE:=(Hg.block q jQ).trans gv;have xS:=(Hg.block I jb).trans hb;refine⟨jQ,jb,Hg,heap_alloc_new w _,Hk.below Hg,?_,?_,?_,?_,?_,?_,?_,?_⟩<;>simp[World.cell?,JE,xS,Za3,Zcu,Ex.op,Ex.n,Ex.s]
theorem va_int(R:REnv)(r:Inst)(H:Kn)(I q:Nat)(cp lv pv vm vi vn lsv:Value)(t:Bool)(n:Int)(s:ByteArray)(l:List Ex)(mem:Int)(_vs:List Vl)(w:World)(Hk:H.In w)(_hI:H I=none)(hb:w.heap[I]?=some (.cells (Zcu cp R r vm vi vn t) 172 (0,0)))
  (hq:H q=some (.cells (Za3 R (.mk oInt n s l) mem lv pv) 168 (0,0))):
  Calls Tryz.prog 101 #[.pointer (some ⟨I,0,none⟩),.pointer (some ⟨q,0,none⟩),lsv] w λret w'=>ret=.returned (vlV (⟨2,n⟩:Vl))/\Ybw w w':=by
 obtain⟨jQ,jb,Hg,Jr,JY,g0,g1,g7,g8,i3,i4,i5,i6⟩:=Zdo Hk hb hq;go_enter Tryz.func101,Tryz.ntmps101;go_wp2_with fail;refine bodyPost_ret (v:=.agg #[.int .i64 2,.int .i64 n]) (by simp[results,Tryz.results101,go_sem]) rfl ?_;exact⟨rfl,Yba⟩
theorem va_true(R:REnv)(r:Inst)(H:Kn)(I q:Nat)(cp lv pv vm vi vn lsv:Value)(t:Bool)(n:Int)(s:ByteArray)(l:List Ex)(mem:Int)(_vs:List Vl)(w:World)(Hk:H.In w)(_hI:H I=none)(hb:w.heap[I]?=some (.cells (Zcu cp R r vm vi vn t) 172 (0,0)))
  (hq:H q=some (.cells (Za3 R (.mk Zc9 n s l) mem lv pv) 168 (0,0))):
  Calls Tryz.prog 101 #[.pointer (some ⟨I,0,none⟩),.pointer (some ⟨q,0,none⟩),lsv] w λret w'=>ret=.returned (vlV (tv true))/\Ybw w w':=by
 obtain⟨jQ,jb,Hg,Jr,JY,g0,g1,g7,g8,i3,i4,i5,i6⟩:=Zdo Hk hb hq;go_enter Tryz.func101,Tryz.ntmps101;go_wp2_with fail;have Hf:=λw'=>Zd5 true w';rw[show tv true=⟨1,1⟩ from rfl] at Hf;refine(Hf _).mono ?_;rintro r3 w3 ⟨rfl,jH⟩;have jf:=(jH.block w.heap.size (by simp)).trans Jr;obtain⟨q0,q1,f0,f1,kt⟩:=Zal jf;obtain⟨e0,e1,e2,e3⟩:=Zbb jf (.int .i64 1) (.int .i64 1);have E0:=Zhd e0;have E1:=Zhd e1;have yG:=Zhd (Hg.trans (jH.mono (by simp)));clear e0 e1 e2 e3 jf;go_wp2_with fail;have e0:=E0.out;have e1:=E1.out;refine bodyPost_ret (v:=.agg #[.int .i64 1,.int .i64 1]) (by simp[results,Tryz.results101,go_sem,e0,e1]) rfl ?_;exact⟨rfl,Zb0 yG.out Ylr _ _⟩
theorem va_false(R:REnv)(r:Inst)(H:Kn)(I q:Nat)(cp lv pv vm vi vn lsv:Value)(t:Bool)(n:Int)(s:ByteArray)(l:List Ex)(mem:Int)(_vs:List Vl)(w:World)(Hk:H.In w)(_hI:H I=none)(hb:w.heap[I]?=some (.cells (Zcu cp R r vm vi vn t) 172 (0,0)))
  (hq:H q=some (.cells (Za3 R (.mk Zch n s l) mem lv pv) 168 (0,0))):
  Calls Tryz.prog 101 #[.pointer (some ⟨I,0,none⟩),.pointer (some ⟨q,0,none⟩),lsv] w λret w'=>ret=.returned (vlV (tv false))/\Ybw w w':=by
 obtain⟨jQ,jb,Hg,Jr,JY,g0,g1,g7,g8,i3,i4,i5,i6⟩:=Zdo Hk hb hq;go_enter Tryz.func101,Tryz.ntmps101;go_wp2_with fail;have Hf:=λw'=>Zd5 false w';rw[show tv false=⟨1,0⟩ from rfl] at Hf;refine(Hf _).mono ?_;rintro r3 w3 ⟨rfl,jH⟩;have jf:=(jH.block w.heap.size (by simp)).trans Jr;obtain⟨q0,q1,f0,f1,kt⟩:=Zal jf;obtain⟨e0,e1,e2,e3⟩:=Zbb jf (.int .i64 1) (.int .i64 0);have E0:=Zhd e0;have E1:=Zhd e1;have yG:=Zhd (Hg.trans (jH.mono (by simp)));clear e0 e1 e2 e3 jf;go_wp2_with fail;have e0:=E0.out;have e1:=E1.out;refine bodyPost_ret (v:=.agg #[.int .i64 1,.int .i64 0]) (by simp[results,Tryz.results101,go_sem,e0,e1]) rfl ?_;exact⟨rfl,Zb0 yG.out Ylr _ _⟩
theorem va_namI(R:REnv)(r:Inst)(H:Kn)(I q:Nat)(cp lv pv vm vi vn lsv:Value)(t:Bool)(n:Int)(s:ByteArray)(l:List Ex)(mem:Int)(_vs:List Vl)(w:World)(Hk:H.In w)(_hI:H I=none)(hb:w.heap[I]?=some (.cells (Zcu cp R r vm vi vn t) 172 (0,0)))
  (hq:H q=some (.cells (Za3 R (.mk Zb2 n s l) mem lv pv) 168 (0,0))) (i:Nat) (jy:R.nm s = -1 - (i:Int)) (hi:i<r.inp.length) (hv:VlsV H r.inp vi) (JN:r.inp.length<=1000000000):
  Calls Tryz.prog 101 #[.pointer (some ⟨I,0,none⟩),.pointer (some ⟨q,0,none⟩),lsv] w λret w'=>ret=.returned (vlV (r.inp.getD i vz))/\Ybw w w':=by
 obtain⟨jQ,jb,Hg,Jr,JY,g0,g1,g7,g8,i3,i4,i5,i6⟩:=Zdo Hk hb hq;obtain⟨va,vc,qu⟩:=hv.len;subst qu;obtain⟨vb,voff,qu,j8,qf⟩:=Zd4 hv hi;cases qu;obtain⟨⟨xk,xn⟩,hx⟩:∃x,x=r.inp[i]:=⟨_,rfl⟩;have jL:r.inp.getD i vz=⟨xk,xn⟩:=by rw[hx];simp[Ygg,hi]
 rw[jL];rw[<- hx] at j8 qf;clear jL hx;have hneg:R.nm s<0:=by omega
 go_enter Tryz.func101,Tryz.ntmps101;rw[jy] at *;go_wp2_with fail;generalize hWe:w.alloc (.cells Yo2 101)=W at *;have hqR:q≠w.heap.size:=by omega
 have hiI:(i:Int)<r.inp.length:=by omega
 have hwn:=wrap_neg i (by omega);have hIR:I≠w.heap.size:=by omega
 have hbR:vb≠w.heap.size:=by have:=Kn.cell_lt Hk j8;omega
 have k7:(Zci w.heap.size W).cell q 7=some (.int .i64 (-1 - (i:Int))):=by rw[Za8 hqR];exact g7
 have k8:(Zci w.heap.size W).cell q 8=some (.int .i64 mem):=by rw[Za8 hqR];exact g8
 have j4:=(Za8 (w:=W) hIR 4).trans i4;have j5:=(Za8 (w:=W) hIR 5).trans i5;have j6:=(Za8 (w:=W) hIR 6).trans i6;have u0:=(Za8 (w:=W) hbR _).trans (JY.cell j8);have u1:=(Za8 (w:=W) hbR _).trans (JY.cell qf);have hS:(Zci w.heap.size W).In W.drew:=Zkz w.heap.size W;have kW:(Zci w.heap.size W) w.heap.size=none:=by simp[Zci]
 have hRd:W.drew.heap[w.heap.size]?=_:=Jr;obtain⟨q0,q1,f0,f1,kt⟩:=Zal hRd;obtain⟨qa,qb,fa,fb,hlw2⟩:=Zal Jr;obtain⟨e0,e1,e2,e3⟩:=Zbb Jr (.int .i64 xk) (.int .i64 xn);have E0:=Zhd e0;have E1:=Zhd e1;clear e0 e1 e2 e3 g0 g1 g7 g8 i3 i4 i5 i6;refine Zae (λw'=>(Zci w.heap.size W).In w') (λ_=>True) 99 (by kernel_rfl) ?_;refine tk2 (i:=0) (v:=?_) rfl hS Ztr ?hy ?_
 case hy=>exact mVa1
 refine Zst ?_;refine w3 1 ?_
 iterate 10 ((first|(refine tk3 (v:=?_) rfl hS Ztr ?hy ?_;(case hy=>exact mVa2))|refine sk3 rfl hS Ztr ?_|refine no3 ?_);refine Zss ?_)
 refine w3e ?_;refine Zwo 11 rfl λK_ hK=>?_;go_simp;refine hK.out _ _ (((hS.setCell (a:=⟨w.heap.size,0,none⟩) kW _).setCell (a:=⟨w.heap.size,1,none⟩) kW _)) Ztr ?_;clear hK K_
 try simp only[tkS]
 refine Zwd ?_;go_wp2_with fail;have e0:=E0.out;have e1:=E1.out;refine bodyPost_ret (v:=.agg #[.int .i64 xk,.int .i64 xn]) (by simp[results,Tryz.results101,go_sem,e0,e1]) rfl ?_;exact⟨rfl,(Zb0 Hg.drew Ylr _ _)⟩
theorem va_namF(R:REnv)(r:Inst)(H:Kn)(I q:Nat)(cp lv pv vm vi vn lsv:Value)(t:Bool)(n:Int)(s:ByteArray)(l:List Ex)(mem:Int)(_vs:List Vl)(w:World)(Hk:H.In w)(_hI:H I=none)(hb:w.heap[I]?=some (.cells (Zcu cp R r vm vi vn t) 172 (0,0)))
  (hq:H q=some (.cells (Za3 R (.mk Zb2 n s l) mem lv pv) 168 (0,0))) (i:Nat) (jy:R.nm s=(i:Int)) (hi:i<r.now.length) (hv:VlsV H r.now vn) (JN:r.now.length<=1000000000):
  Calls Tryz.prog 101 #[.pointer (some ⟨I,0,none⟩),.pointer (some ⟨q,0,none⟩),lsv] w λret w'=>ret=.returned (vlV (r.now.getD i vz))/\Ybw w w':=by
 obtain⟨jQ,jb,Hg,Jr,JY,g0,g1,g7,g8,i3,i4,i5,i6⟩:=Zdo Hk hb hq;obtain⟨va,vc,qu⟩:=hv.len;subst qu;obtain⟨vb,voff,qu,j8,qf⟩:=Zd4 hv hi;cases qu;obtain⟨⟨xk,xn⟩,hx⟩:∃x,x=r.now[i]:=⟨_,rfl⟩;have jL:r.now.getD i vz=⟨xk,xn⟩:=by rw[hx];simp[Ygg,hi]
 rw[jL];rw[<- hx] at j8 qf;clear jL hx;go_enter Tryz.func101,Tryz.ntmps101;rw[jy] at *;go_wp2_with fail;generalize hWe:w.alloc (.cells Yo2 101)=W at *;have hqR:q≠w.heap.size:=by omega
 have hiI:(i:Int)<r.now.length:=by omega
 have hwn:=wrap_neg i (by omega);have hIR:I≠w.heap.size:=by omega
 have hbR:vb≠w.heap.size:=by have:=Kn.cell_lt Hk j8;omega
 have k7:(Zci w.heap.size W).cell q 7=some (.int .i64 (i:Int)):=by rw[Za8 hqR];exact g7
 have k8:(Zci w.heap.size W).cell q 8=some (.int .i64 mem):=by rw[Za8 hqR];exact g8
 exact mVa3
theorem va_pre(R:REnv)(r:Inst)(H:Kn)(I q:Nat)(cp lv pv vm vi vn lsv:Value)(t:Bool)(n:Int)(s:ByteArray)(l:List Ex)(mem:Int)(_vs:List Vl)(w:World)(Hk:H.In w)(_hI:H I=none)(hb:w.heap[I]?=some (.cells (Zcu cp R r vm vi vn t) 172 (0,0)))
  (hq:H q=some (.cells (Za3 R (.mk oPre n s l) mem lv pv) 168 (0,0))) (i:Nat) (hm:mem=(i:Int)) (hi:i<r.mem.length) (hv:VlsV H r.mem vm) (JN:r.mem.length<=1000000000):
  Calls Tryz.prog 101 #[.pointer (some ⟨I,0,none⟩),.pointer (some ⟨q,0,none⟩),lsv] w λret w'=>ret=.returned (vlV (r.mem.getD i vz))/\Ybw w w':=by
 obtain⟨jQ,jb,Hg,Jr,JY,g0,g1,g7,g8,i3,i4,i5,i6⟩:=Zdo Hk hb hq;subst hm;exact mVa4
theorem va_fby(R:REnv)(r:Inst)(H:Kn)(I q:Nat)(cp lv pv vm vi vn lsv:Value)(t:Bool)(n:Int)(s:ByteArray)(l:List Ex)(mem:Int)(_vs:List Vl)(w:World)(Hk:H.In w)(_hI:H I=none)(hb:w.heap[I]?=some (.cells (Zcu cp R r vm vi vn t) 172 (0,0)))
  (hq:H q=some (.cells (Za3 R (.mk oFby n s l) mem lv pv) 168 (0,0))) (i:Nat) (hm:mem=(i:Int)) (hi:i<r.mem.length) (hv:VlsV H r.mem vm) (JN:r.mem.length<=1000000000) (hf:r.first=false):
  Calls Tryz.prog 101 #[.pointer (some ⟨I,0,none⟩),.pointer (some ⟨q,0,none⟩),lsv] w λret w'=>ret=.returned (vlV (r.mem.getD i vz))/\Ybw w w':=by
 obtain⟨jQ,jb,Hg,Jr,JY,g0,g1,g7,g8,i3,i4,i5,i6⟩:=Zdo Hk hb hq;subst hm;rw[hf] at i3;exact mVa4
theorem va_fby0(R:REnv)(r:Inst)(H:Kn)(I q:Nat)(cp lv pv vm vi vn lsv:Value)(t:Bool)(n:Int)(s:ByteArray)(l:List Ex)(mem:Int)(vs:List Vl)(w:World)(Hk:H.In w)(_hI:H I=none)(hb:w.heap[I]?=some (.cells (Zcu cp R r vm vi vn t) 172 (0,0)))
  (hq:H q=some (.cells (Za3 R (.mk oFby n s l) mem lv pv) 168 (0,0))) (hv:VlsV H vs lsv) (hi:0<vs.length) (hf:r.first=true) (JN:vs.length<=1000000000):
  Calls Tryz.prog 101 #[.pointer (some ⟨I,0,none⟩),.pointer (some ⟨q,0,none⟩),lsv] w λret w'=>ret=.returned (vlV (vs.getD 0 vz))/\Ybw w w':=by
 exact mVa5
theorem va_arr0(R:REnv)(r:Inst)(H:Kn)(I q:Nat)(cp lv pv vm vi vn lsv:Value)(t:Bool)(n:Int)(s:ByteArray)(l:List Ex)(mem:Int)(vs:List Vl)(w:World)(Hk:H.In w)(_hI:H I=none)(hb:w.heap[I]?=some (.cells (Zcu cp R r vm vi vn t) 172 (0,0)))
  (hq:H q=some (.cells (Za3 R (.mk Zbk n s l) mem lv pv) 168 (0,0))) (hv:VlsV H vs lsv) (hi:0<vs.length) (hf:r.first=true) (JN:vs.length<=1000000000):
  Calls Tryz.prog 101 #[.pointer (some ⟨I,0,none⟩),.pointer (some ⟨q,0,none⟩),lsv] w λret w'=>ret=.returned (vlV (vs.getD 0 vz))/\Ybw w w':=by
 exact mVa5
theorem va_arr1(R:REnv)(r:Inst)(H:Kn)(I q:Nat)(cp lv pv vm vi vn lsv:Value)(t:Bool)(n:Int)(s:ByteArray)(l:List Ex)(mem:Int)(vs:List Vl)(w:World)(Hk:H.In w)(_hI:H I=none)(hb:w.heap[I]?=some (.cells (Zcu cp R r vm vi vn t) 172 (0,0)))
  (hq:H q=some (.cells (Za3 R (.mk Zbk n s l) mem lv pv) 168 (0,0))) (hv:VlsV H vs lsv) (hi:1<vs.length) (hf:r.first=false) (JN:vs.length<=1000000000):
  Calls Tryz.prog 101 #[.pointer (some ⟨I,0,none⟩),.pointer (some ⟨q,0,none⟩),lsv] w λret w'=>ret=.returned (vlV (vs.getD 1 vz))/\Ybw w w':=by
 obtain⟨jQ,jb,Hg,Jr,JY,g0,g1,g7,g8,i3,i4,i5,i6⟩:=Zdo Hk hb hq;rw[hf] at i3;obtain⟨va,vc,qu⟩:=hv.len;subst qu;obtain⟨vb,voff,qu,j8,qf⟩:=Zd4 hv hi;cases qu;obtain⟨⟨xk,xn⟩,hx⟩:∃x,x=vs[1]:=⟨_,rfl⟩;have jL:vs.getD 1 vz=⟨xk,xn⟩:=by rw[hx];simp[Ygg,hi]
 rw[jL];rw[<- hx] at j8 qf;clear jL hx;have za:(1:Int)<vs.length:=by omega
 have v0:=JY.cell j8;have v1:=JY.cell qf;simp only[Nat.one_mul] at v0 v1;go_enter Tryz.func101,Tryz.ntmps101;go_wp2_with fail;refine bodyPost_ret (v:=.agg #[.int .i64 xk,.int .i64 xn]) (by simp[results,Tryz.results101,go_sem]) rfl ?_;exact⟨rfl,Yba⟩
theorem va_app0(R:REnv)(r:Inst)(H:Kn)(I q:Nat)(cp lv pv vm vi vn lsv:Value)(t:Bool)(o:ByteArray)(n:Int)(s:ByteArray)(l:List Ex)(mem:Int)(vs:List Vl)(w:World)(Hk:H.In w)(_hI:H I=none)(hb:w.heap[I]?=some (.cells (Zcu cp R r vm vi vn t) 172 (0,0)))
  (hq:H q=some (.cells (Za3 R (.mk o n s l) mem lv pv) 168 (0,0))) (hs:∀x∈[oInt,Zc9,Zch,Zb2,oPre,oFby,Zbk],o≠x) (ha:Zcx o=some (vs.length:Int)) (h1:1<=vs.length) (hv:VlsV H vs lsv) (hx:(appM o vs).2=false):
  Calls Tryz.prog 101 #[.pointer (some ⟨I,0,none⟩),.pointer (some ⟨q,0,none⟩),lsv] w λret w'=>ret=.returned (vlV (appM o vs).1)/\Ybw w w':=by
 have gv:=Hk _ _ hq;have jQ:q<w.heap.size:=(Zlt gv);have jb:I<w.heap.size:=(Zlt hb);have Hg:Ybw w (w.alloc (.cells Yo2 101)):=Yba;have Jr:=heap_alloc_new w (.cells Yo2 101);have JE:=(Hg.block q jQ).trans gv;have xS:=(Hg.block I jb).trans hb;have JY:=Hk.below Hg;have g0:(w.alloc (.cells Yo2 101)).cell? ⟨q,0,none⟩=some (.string o):=by simp[World.cell?,JE,Za3,Ex.op]
 have g1:(w.alloc (.cells Yo2 101)).cell? ⟨q,1,none⟩=some (.int .i64 n):=by simp[World.cell?,JE,Za3,Ex.n]
 have g7:(w.alloc (.cells Yo2 101)).cell? ⟨q,7,none⟩=some (.int .i64 (R.nm s)):=by simp[World.cell?,JE,Za3,Ex.s]
 have g8:(w.alloc (.cells Yo2 101)).cell? ⟨q,8,none⟩=some (.int .i64 mem):=by simp[World.cell?,JE,Za3]
 have i3:(w.alloc (.cells Yo2 101)).cell? ⟨I,3,none⟩=some (.bool r.first):=by simp[World.cell?,xS,Zcu]
 have i4:(w.alloc (.cells Yo2 101)).cell? ⟨I,4,none⟩=some vm:=by simp[World.cell?,xS,Zcu]
 have i5:(w.alloc (.cells Yo2 101)).cell? ⟨I,5,none⟩=some vi:=by simp[World.cell?,xS,Zcu]
 have i6:(w.alloc (.cells Yo2 101)).cell? ⟨I,6,none⟩=some vn:=by simp[World.cell?,xS,Zcu]
 have Hf:=λw' hw'=>apply_any o vs ha h1 (hs oPre (by simp)) (hs Zbk (by simp)) (hs oFby (by simp)) H lsv hv w' hw';rw[hx] at Hf;obtain⟨⟨yk,yn⟩,hy⟩:∃y,y=(appM o vs).1:=⟨_,rfl⟩;rw[<- hy] at Hf ⊢;clear hy hx g1 g7 g8 i4 i5 i6;have b0:(o.toList==[105,110,116])=false:=by have:=Zeb o [105,110,116];cases h:(o.toList==[105,110,116]) with|false=>rfl|true=>exact absurd (this.mpr h) (hs oInt (by simp))
 have b1:(o.toList==[116,114,117,101])=false:=by have:=Zeb o [116,114,117,101];cases h:(o.toList==[116,114,117,101]) with|false=>rfl|true=>exact absurd (this.mpr h) (hs Zc9 (by simp))
 have b2:(o.toList==[102,97,108,115,101])=false:=by have:=Zeb o [102,97,108,115,101];cases h:(o.toList==[102,97,108,115,101]) with|false=>rfl|true=>exact absurd (this.mpr h) (hs Zch (by simp))
 have b3:(o.toList==[110,97,109,101])=false:=by have:=Zeb o [110,97,109,101];cases h:(o.toList==[110,97,109,101]) with|false=>rfl|true=>exact absurd (this.mpr h) (hs Zb2 (by simp))
 have b4:(o.toList==[112,114,101])=false:=by have:=Zeb o [112,114,101];cases h:(o.toList==[112,114,101]) with|false=>rfl|true=>exact absurd (this.mpr h) (hs oPre (by simp))
 have b5:(o.toList==[102,98,121])=false:=by have:=Zeb o [102,98,121];cases h:(o.toList==[102,98,121]) with|false=>rfl|true=>exact absurd (this.mpr h) (hs oFby (by simp))
 have b6:(o.toList==[45,62])=false:=by have:=Zeb o [45,62];cases h:(o.toList==[45,62]) with|false=>rfl|true=>exact absurd (this.mpr h) (hs Zbk (by simp))
 go_enter Tryz.func101,Tryz.ntmps101;clear JE xS gv i3;go_wp2_with fail;refine(Hf _ JY).mono ?_;rintro r3 w3 ⟨rfl,jH⟩;have jf:=(jH.block w.heap.size (by simp)).trans Jr;have hV:Ybw w3 (w3.alloc (.cells #[.int .i64 yk,.int .i64 yn] 101)):=Yba;have hRy:=(hV.block w.heap.size (by have:=jH.size;simp at this;omega)).trans jf;obtain⟨q0,q1,f0,f1,kt⟩:=Zal hRy;obtain⟨e0,e1,e2,e3⟩:=Zbb hRy (.int .i64 yk) (.int .i64 yn);have E0:=Zhd e0;have E1:=Zhd e1;have yG:=Zhd ((Hg.trans (jH.mono (by simp))).trans (hV.mono (by have:=jH.size;simp at this;omega)));clear e0 e1 e2 e3 hRy jf;go_wp2_with fail;have e0:=E0.out;have e1:=E1.out;refine bodyPost_ret (v:=.agg #[.int .i64 yk,.int .i64 yn]) (by simp[results,Tryz.results101,go_sem,e0,e1]) rfl ?_;exact⟨rfl,Zb0 yG.out Ylr _ _⟩
theorem va_app1(R:REnv)(r:Inst)(H:Kn)(I q:Nat)(cp lv pv vm vi vn lsv:Value)(t:Bool)(o:ByteArray)(n:Int)(s:ByteArray)(l:List Ex)(mem:Int)(vs:List Vl)(w:World)(Hk:H.In w)(_hI:H I=none)(hb:w.heap[I]?=some (.cells (Zcu cp R r vm vi vn t) 172 (0,0)))
  (hq:H q=some (.cells (Za3 R (.mk o n s l) mem lv pv) 168 (0,0))) (hs:∀x∈[oInt,Zc9,Zch,Zb2,oPre,oFby,Zbk],o≠x) (ha:Zcx o=some (vs.length:Int)) (h1:1<=vs.length) (hv:VlsV H vs lsv) (hx:(appM o vs).2=true):
  Calls Tryz.prog 101 #[.pointer (some ⟨I,0,none⟩),.pointer (some ⟨q,0,none⟩),lsv] w λret w'=>ret=.returned (vlV ⟨2,0⟩)/\w.grownBy w' (some I)/\w'.heap[I]?=some (.cells (Zcu cp R r vm vi vn (t || !r.first|| !decide (0<lateOf R.lt (.mk o n s l)))) 172 (0,0)):=by
 have gv:=Hk _ _ hq;have jQ:q<w.heap.size:=(Zlt gv);have jb:I<w.heap.size:=(Zlt hb);have Hg:Ybw w (w.alloc (.cells Yo2 101)):=Yba;have Jr:=heap_alloc_new w (.cells Yo2 101);have JE:=(Hg.block q jQ).trans gv;have xS:=(Hg.block I jb).trans hb;have JY:=Hk.below Hg;have g0:(w.alloc (.cells Yo2 101)).cell? ⟨q,0,none⟩=some (.string o):=by simp[World.cell?,JE,Za3,Ex.op]
 have g1:(w.alloc (.cells Yo2 101)).cell? ⟨q,1,none⟩=some (.int .i64 n):=by simp[World.cell?,JE,Za3,Ex.n]
 have g7:(w.alloc (.cells Yo2 101)).cell? ⟨q,7,none⟩=some (.int .i64 (R.nm s)):=by simp[World.cell?,JE,Za3,Ex.s]
 have g8:(w.alloc (.cells Yo2 101)).cell? ⟨q,8,none⟩=some (.int .i64 mem):=by simp[World.cell?,JE,Za3]
 have i3:(w.alloc (.cells Yo2 101)).cell? ⟨I,3,none⟩=some (.bool r.first):=by simp[World.cell?,xS,Zcu]
 have i4:(w.alloc (.cells Yo2 101)).cell? ⟨I,4,none⟩=some vm:=by simp[World.cell?,xS,Zcu]
 have i5:(w.alloc (.cells Yo2 101)).cell? ⟨I,5,none⟩=some vi:=by simp[World.cell?,xS,Zcu]
 have i6:(w.alloc (.cells Yo2 101)).cell? ⟨I,6,none⟩=some vn:=by simp[World.cell?,xS,Zcu]
 have Hf:=λw' hw'=>apply_any o vs ha h1 (hs oPre (by simp)) (hs Zbk (by simp)) (hs oFby (by simp)) H lsv hv w' hw';rw[hx] at Hf;obtain⟨⟨yk,yn⟩,hy⟩:∃y,y=(appM o vs).1:=⟨_,rfl⟩;rw[<- hy] at Hf;clear hy hx g1 g7 g8 i4 i5 i6;obtain⟨z,hz⟩:∃z,z=(t || !r.first|| !decide (0<lateOf R.lt (.mk o n s l))):=⟨_,rfl⟩;rw[<- hz];have b0:(o.toList==[105,110,116])=false:=by have:=Zeb o [105,110,116];cases h:(o.toList==[105,110,116]) with|false=>rfl|true=>exact absurd (this.mpr h) (hs oInt (by simp))
 have b1:(o.toList==[116,114,117,101])=false:=by have:=Zeb o [116,114,117,101];cases h:(o.toList==[116,114,117,101]) with|false=>rfl|true=>exact absurd (this.mpr h) (hs Zc9 (by simp))
 have b2:(o.toList==[102,97,108,115,101])=false:=by have:=Zeb o [102,97,108,115,101];cases h:(o.toList==[102,97,108,115,101]) with|false=>rfl|true=>exact absurd (this.mpr h) (hs Zch (by simp))
 have b3:(o.toList==[110,97,109,101])=false:=by have:=Zeb o [110,97,109,101];cases h:(o.toList==[110,97,109,101]) with|false=>rfl|true=>exact absurd (this.mpr h) (hs Zb2 (by simp))
 have b4:(o.toList==[112,114,101])=false:=by have:=Zeb o [112,114,101];cases h:(o.toList==[112,114,101]) with|false=>rfl|true=>exact absurd (this.mpr h) (hs oPre (by simp))
 have b5:(o.toList==[102,98,121])=false:=by have:=Zeb o [102,98,121];cases h:(o.toList==[102,98,121]) with|false=>rfl|true=>exact absurd (this.mpr h) (hs oFby (by simp))
 have b6:(o.toList==[45,62])=false:=by have:=Zeb o [45,62];cases h:(o.toList==[45,62]) with|false=>rfl|true=>exact absurd (this.mpr h) (hs Zbk (by simp))
 go_enter Tryz.func101,Tryz.ntmps101;clear gv;go_wp2_with fail;refine(Hf _ JY).mono ?_;rintro r3 w3 ⟨rfl,jH⟩;have hsz3:=jH.size;simp only[World.size_alloc] at hsz3;have hV:Ybw w3 (w3.alloc (.cells #[.int .i64 yk,.int .i64 yn] 101)):=Yba;have hRy:=(hV.block w.heap.size (by omega)).trans ((jH.block w.heap.size (by simp)).trans Jr);have hIy:=(hV.block I (by omega)).trans ((jH.block I (by simp;omega)).trans xS);have hqy:=(hV.block q (by omega)).trans ((jH.block q (by simp;omega)).trans JE);have hBV:=Zhd ((Hg.trans (jH.mono (by simp))).trans (hV.mono (by omega)));have x6:(w3.alloc (.cells #[.int .i64 yk,.int .i64 yn] 101)).cell? ⟨q,6,none⟩=some (.bool (decide (0<lateOf R.lt (.mk o n s l)))):=by simp[World.cell?,hqy,Za3]
 have x3:(w3.alloc (.cells #[.int .i64 yk,.int .i64 yn] 101)).cell? ⟨I,3,none⟩=some (.bool r.first):=by simp[World.cell?,hIy,Zcu]
 have x7:(w3.alloc (.cells #[.int .i64 yk,.int .i64 yn] 101)).cell? ⟨I,7,none⟩=some (.bool t):=by simp[World.cell?,hIy,Zcu]
 have xf:(w3.alloc (.cells #[.int .i64 yk,.int .i64 yn] 101)).frozen? ⟨I,7,none⟩=false:=by simp[World.frozen?,hIy,Zcu]
 have hIR:I≠w.heap.size:=by omega
 have HZ:=Zhd hz;have hRs:=(Below.heap_setCell (w3.alloc (.cells #[.int .i64 yk,.int .i64 yn] 101)) ⟨I,7,none⟩ (.bool z) w.heap.size (by show w.heap.size≠I;omega)).trans hRy;have hIs:=Zaa (w3.alloc (.cells #[.int .i64 yk,.int .i64 yn] 101)) I 7 (.bool z) _ _ _ hIy;obtain⟨q0,q1,f0,f1,kt⟩:=Zal hRs;obtain⟨e0,e1,e2,e3⟩:=Zbb hRs (.int .i64 2) (.int .i64 0);have E0:=Zhd e0;have E1:=Zhd e1;have HIs:=Zhd hIs;clear e0 e1 e2 e3 hRs hIs hIy hqy hRy;have hgr:=λu v=>grown_set hBV.out I (.bool z) (Nat.le_refl w.heap.size) u v;have Ql:=Zhd hgr;have hIfin:=λu v=>(Below.heap_setCell ((((w3.alloc (.cells #[.int .i64 yk,.int .i64 yn] 101)).setCell ⟨I,7,none⟩ (.bool z)).setCell ⟨w.heap.size,0,none⟩ u)) ⟨w.heap.size,1,none⟩ v I hIR).trans ((Below.heap_setCell (((w3.alloc (.cells #[.int .i64 yk,.int .i64 yn] 101)).setCell ⟨I,7,none⟩ (.bool z))) ⟨w.heap.size,0,none⟩ u I hIR).trans HIs.out);have HIF:=Zhd hIfin;clear hgr hIfin;clear hz;obtain⟨late,HJ⟩:∃b,b=decide (0<lateOf R.lt (.mk o n s l)):=⟨_,rfl⟩;rw[<- HJ] at x6 HZ;obtain⟨f,hf⟩:∃b,b=r.first:=⟨_,rfl⟩;rw[<- hf] at x3 HZ;clear HJ hf;cases t<;>cases f<;>cases late
 all_goals(have J6:=HZ.out;simp only[Bool.not_true,Bool.not_false,Bool.or_true,Bool.or_false] at J6;subst J6)
 all_goals go_wp2_with fail
 all_goals have e0:=E0.out
 all_goals have e1:=E1.out
 all_goals refine bodyPost_ret (v:=.agg #[.int .i64 2,.int .i64 0]) (by simp[results,Tryz.results101,go_sem,e0,e1]) rfl ?_
 all_goals exact⟨rfl,Ql.out _ _,HIF.out _ _⟩
theorem arity_pos{o:ByteArray}{k:Int}(ha:Zcx o=some k)(h0:o≠oInt)(h1:o≠Zc9)(h2:o≠Zch)(h3:o≠Zb2)(h4:o≠Zko):1<=k:=by
 unfold Zcx at ha;rw[if_neg (λh=>h.elim h0 λh=>h.elim h1 λh=>h.elim h2 h3)] at ha;by_cases a1:o=oNot\/o=oNeg\/o=oPre
 .rw [if_pos a1] at ha;cases ha;omega
 rw[if_neg a1] at ha;by_cases a2:o=oIf
 .rw [if_pos a2] at ha;cases ha;omega
 rw[if_neg a2,if_neg h4] at ha;by_cases a3:o=Zbk\/o=oFby
 .rw [if_pos a3] at ha;cases ha;omega
 rw[if_neg a3] at ha
 split at ha
 .cases ha;omega
 cases ha
theorem formed_ar{ks:Env Int}{o:ByteArray}{n:Int}{s:ByteArray}{l:List Ex}(hf:Zad ks (.mk o n s l)=true)(h0:o≠oInt)(h1:o≠Zc9)(h2:o≠Zch)(h3:o≠Zb2):Zcx o=some (l.length:Int)/\1<=l.length:=by
 simp only[Zad,form,Ex.op,Ex.l,Bool.and_eq_true] at hf;have hc:o≠Zko:=of_decide_eq_true hf.1.1.2;have j9:=hf.1.1.1;cases ha:Zcx o with
 |none=>rw[ha] at j9;simp at j9
 |some k=>
  rw[ha] at j9;have hk:=arity_pos ha h0 h1 h2 h3 hc;simp only[Bool.and_eq_true,Bool.or_eq_true] at j9;rcases j9.1.1 with h|h
  .have:=of_decide_eq_true h;omega
  have h5:k=(l.length:Int):=of_decide_eq_true h;subst h5;exact⟨rfl,by omega⟩
structure NdOk(R:REnv)(r:Inst)(m:Nat)(o s:ByteArray)(l:List Ex):Prop where
 inp:o=Zb2->R.nm s<0->(-1 - R.nm s).toNat<r.inp.length
 now:o=Zb2->0<=R.nm s->(R.nm s).toNat<r.now.length
 mem:o=oPre\/o=oFby->m+Zag l<r.mem.length
def ValPost(R:REnv)(r:Inst)(I:Nat)(cp vm vi vn:Value)(t:Bool)(w:World)(x:Vl×Bool)(ret:Ending)(w':World):Prop:=
 ret=.returned (vlV x.1)/\w.grownBy w' (some I)/\w'.heap[I]?=some (.cells (Zcu cp R r vm vi vn (t || x.2)) 172 (0,0))
theorem value_any(R:REnv)(r:Inst)(H:Kn)(I q m:Nat)(cp lv pv vm vi vn lsv:Value)(t:Bool)(o:ByteArray)(n:Int)(s:ByteArray)(l:List Ex)(vs:List Vl)(w:World)(Hk:H.In w)(hI:H I=none)(hb:w.heap[I]?=some (.cells (Zcu cp R r vm vi vn t) 172 (0,0)))
  (hq:H q=some (.cells (Za3 R (.mk o n s l) (Zkp (.mk o n s l) m) lv pv) 168 (0,0))) (j9:Zad R.ks (.mk o n s l)=true) (hv:VlsV H vs lsv) (Ho:vs.length=if o=oPre then 0 else if o=oFby then 1 else l.length)
  (hvm:VlsV H r.mem vm) (hvi:VlsV H r.inp vi) (hvn:VlsV H r.now vn) (hz:r.mem.length<=1000000000/\r.inp.length<=1000000000/\r.now.length<=1000000000/\l.length<=1000000000) (J1:NdOk R r m o s l):
  Calls Tryz.prog 101 #[.pointer (some ⟨I,0,none⟩),.pointer (some ⟨q,0,none⟩),lsv] w (ValPost R r I cp vm vi vn t w (valM R r (m+Zag l) o n s (decide (0<lateOf R.lt (.mk o n s l))) vs)):=by
 have jb:I<w.heap.size:=(Zlt hb);obtain⟨z1,z2,z3,z4⟩:=hz;have fin:∀(x:Vl),valM R r (m+Zag l) o n s (decide (0<lateOf R.lt (.mk o n s l))) vs=(x,false)->Calls Tryz.prog 101 #[.pointer (some ⟨I,0,none⟩),.pointer (some ⟨q,0,none⟩),lsv] w (λret w'=>ret=.returned (vlV x)/\Ybw w w')->Calls Tryz.prog 101 #[.pointer (some ⟨I,0,none⟩),.pointer (some ⟨q,0,none⟩),lsv] w (ValPost R r I cp vm vi vn t w (valM R r (m+Zag l) o n s (decide (0<lateOf R.lt (.mk o n s l))) vs)):=λx hx hc=>by
  rw[hx];exact hc.mono λret w' ⟨h1,h2⟩=>⟨h1,⟨h2.os,h2.tape,h2.output,h2.size,λk hk _=>h2.block k hk⟩,by rw[Bool.or_false,h2.block I jb];exact hb⟩
 obtain⟨_,Jj,jq,hZ,_⟩:=Zax j9;by_cases e1:o=oInt
 .subst e1;exact fin ⟨2,n⟩ (by unfold valM;rw[if_pos rfl]) (va_int R r H I q cp lv pv vm vi vn lsv t n s l _ vs w Hk hI hb hq)
 by_cases e2:o=Zc9
 .subst e2;exact fin (tv true) (by unfold valM;rw[if_neg (by decide),if_pos (.inl rfl)];rfl) (va_true R r H I q cp lv pv vm vi vn lsv t n s l _ vs w Hk hI hb hq)
 by_cases e3:o=Zch
 .subst e3;exact fin (tv false) (by unfold valM;rw[if_neg (by decide),if_pos (.inr rfl)];rfl) (va_false R r H I q cp lv pv vm vi vn lsv t n s l _ vs w Hk hI hb hq)
 have hN:valM R r (m+Zag l) o n s (decide (0<lateOf R.lt (.mk o n s l))) vs=if o=Zb2 then(if R.nm s<0 then r.inp.getD (-1 - R.nm s).toNat vz else r.now.getD (R.nm s).toNat vz,false)
   else if o=oPre then(r.mem.getD (m+Zag l) vz,false) else if o=oFby then(if r.first then vs.getD 0 vz else r.mem.getD (m+Zag l) vz,false) else if o=Zbk then(if r.first then vs.getD 0 vz else vs.getD 1 vz,false)
   else if (appM o vs).2 then(⟨2,0⟩,!r.first|| !decide (0<lateOf R.lt (.mk o n s l))) else((appM o vs).1,false):=by
  unfold valM;rw[if_neg e1,if_neg (λh=>h.elim e2 e3)]
 by_cases e4:o=Zb2
 .subst e4;rw[if_pos rfl] at hN;by_cases h0:R.nm s<0
  .rw [if_pos h0] at hN;exact fin _ hN (va_namI R r H I q cp lv pv vm vi vn lsv t n s l _ vs w Hk hI hb hq (-1 - R.nm s).toNat (by omega) (J1.inp rfl h0) hvi z2)
  rw[if_neg h0] at hN;exact fin _ hN (va_namF R r H I q cp lv pv vm vi vn lsv t n s l _ vs w Hk hI hb hq (R.nm s).toNat (by omega) (J1.now rfl (by omega)) hvn z3)
 rw[if_neg e4] at hN;by_cases e5:o=oPre
 .subst e5;rw[if_pos rfl] at hN;exact fin _ hN (va_pre R r H I q cp lv pv vm vi vn lsv t n s l _ vs w Hk hI hb hq (m+Zag l) rfl (J1.mem (.inl rfl)) hvm z1)
 rw[if_neg e5] at hN;rw[if_neg e5] at Ho;by_cases e6:o=oFby
 .subst e6;rw[if_pos rfl] at hN Ho;cases hf:r.first with
  |true=>
   rw[hf,if_pos rfl] at hN;exact fin _ hN (va_fby0 R r H I q cp lv pv vm vi vn lsv t n s l _ vs w Hk hI hb hq hv (by omega) hf (by omega))
  |false=>
   rw[hf,if_neg (by decide)] at hN;exact fin _ hN (va_fby R r H I q cp lv pv vm vi vn lsv t n s l _ vs w Hk hI hb hq (m+Zag l) rfl (J1.mem (.inr rfl)) hvm z1 hf)
 rw[if_neg e6] at hN Ho;by_cases e7:o=Zbk
 .subst e7;rw[if_pos rfl] at hN;have h2:=jq rfl;cases hf:r.first with
  |true=>
   rw[hf,if_pos rfl] at hN;exact fin _ hN (va_arr0 R r H I q cp lv pv vm vi vn lsv t n s l _ vs w Hk hI hb hq hv (by omega) hf (by omega))
  |false=>
   rw[hf,if_neg (by decide)] at hN;exact fin _ hN (va_arr1 R r H I q cp lv pv vm vi vn lsv t n s l _ vs w Hk hI hb hq hv (by omega) hf (by omega))
 rw[if_neg e7] at hN;obtain⟨ha,h1⟩:=formed_ar j9 e1 e2 e3 e4;rw[<- Ho] at ha h1;have hs:∀x∈[oInt,Zc9,Zch,Zb2,oPre,oFby,Zbk],o≠x:=λx hx=>by
  simp only[List.mem_cons,List.not_mem_nil,or_false] at hx;rcases hx with rfl|rfl|rfl|rfl|rfl|rfl|rfl<;>assumption
 cases hx:(appM o vs).2 with
 |false=>
  rw[hx,if_neg (by decide)] at hN;exact fin _ hN (va_app0 R r H I q cp lv pv vm vi vn lsv t o n s l _ vs w Hk hI hb hq hs ha h1 hv hx)
 |true=>
  rw[hx,if_pos rfl] at hN;rw[hN];have:=va_app1 R r H I q cp lv pv vm vi vn lsv t o n s l _ vs w Hk hI hb hq hs ha h1 hv hx;refine this.mono λret w' ⟨h1,h2,h3⟩=>⟨h1,h2,?_⟩;rw[h3,Bool.or_assoc]
def evN(o:ByteArray)(l:List Ex):Nat:=if o=oPre then 0 else if o=oFby then 1 else l.length
structure EvS(R:REnv)(r:Inst)(H:Kn)(I:Nat)(cp vm vi vn:Value)(t:Bool)(w wr:World)(m ki k:Nat)(l:List Ex)(u:Value):Prop where
 isin:H.In wr
 noI:H I=none
 hI:I<w.heap.size
 gr:w.grownBy wr (some I)
 inst:wr.heap[I]?=some (.cells (Zcu cp R r vm vi vn (t || (Zaz R r m ki l).2)) 172 (0,0))
 row:wr.ownsRow (w.heap.size+1) 101 2 u k (vlX (Zaz R r m k l).1)
 res:wr.heap[w.heap.size]?=some (.cells Yo2 101 (0,0))
section
variable {R : REnv} {r : Inst} {H : Kn} {I : Nat} {cp vm vi vn : Value} {t : Bool} {w wr : World} {m ki k : Nat} {l : List Ex} {u : Value}
theorem EvS.rlt(h:EvS R r H I cp vm vi vn t w wr m ki k l u):w.heap.size<wr.heap.size:=(Zlt h.res)
theorem EvS.uI(h:EvS R r H I cp vm vi vn t w wr m ki k l u):u.ownBlock≠some I:=Zbj h.row (by have:=h.hI;omega)
theorem EvS.uR(h:EvS R r H I cp vm vi vn t w wr m ki k l u):u.ownBlock≠some w.heap.size:=Zbj h.row (by omega)
theorem EvS.noU(h:EvS R r H I cp vm vi vn t w wr m ki k l u)(hH:H.In w):∀g,u.ownBlock=some g->H g=none:=λg hg=>hH.isNone (by have:=(h.row.lt g hg).1;omega)
theorem EvS.below{w':World}(h:EvS R r H I cp vm vi vn t w wr m ki k l u)(hb:Ybw wr w'):EvS R r H I cp vm vi vn t w w' m ki k l u:=
 ⟨h.isin.below hb,h.noI,h.hI,⟨hb.os.trans h.gr.os,hb.tape.trans h.gr.tape,hb.output.trans h.gr.output,Nat.le_trans h.gr.size hb.size,λi hi Hs=>by
  rw[hb.block i (Nat.lt_of_lt_of_le hi h.gr.size)];exact h.gr.block i hi Hs⟩,by rw[hb.block I (Nat.lt_of_lt_of_le h.hI h.gr.size)];exact h.inst,Za1 h.row hb,by rw[hb.block _ h.rlt];exact h.res⟩
theorem EvS.alloc(h:EvS R r H I cp vm vi vn t w wr m ki k l u)(o:Obj):EvS R r H I cp vm vi vn t w (wr.alloc o) m ki k l u:=h.below ((Below.refl _ _).alloc Ylr o)
theorem EvS.child{w':World}(h:EvS R r H I cp vm vi vn t w wr m k k l u)(hk:k<l.length){ret:Ending}(hp:ValPost R r I cp vm vi vn (t || (Zaz R r m k l).2) wr (Za6 R r (m+Zag (l.take k)) l[k]) ret w'):
  EvS R r H I cp vm vi vn t w w' m (k+1) k l u:=by
 obtain⟨_,hg,hi⟩:=hp;refine⟨h.isin.grown hg λg hg=>by cases hg;exact h.noI,h.noI,h.hI,h.gr.trans hg,?_,Zc2 h.row hg λg hu e=>by cases e;exact h.uI hu,?_⟩
 .rw [hi,Zic R r l m k hk,Bool.or_assoc]
 rw[hg.block _ h.rlt (λe=>by have:=h.hI;cases e;omega)];exact h.res
theorem EvS.app{w3:World}{gg Hh:Nat}(h:EvS R r H I cp vm vi vn t w wr m (k+1) k l u)(hk:k<l.length)(hH:H.In w){x:Vl}(hx:(Za6 R r (m+Zag (l.take k)) l[k]).1=x)
  (Hb:w3.ownsRow (w.heap.size+1) 101 2 (.slice (some ⟨gg,0,none⟩) (k+1) Hh) (k+1) (vlX (Zaz R r m k l).1++[.int .i64 x.kind,.int .i64 x.n])) (hg:wr.grownBy w3 u.ownBlock):
  EvS R r H I cp vm vi vn t w w3 m (k+1) (k+1) l (.slice (some ⟨gg,0,none⟩) (k+1) Hh):=by
 refine⟨h.isin.grown hg (h.noU hH),h.noI,h.hI,⟨hg.os.trans h.gr.os,hg.tape.trans h.gr.tape,hg.output.trans h.gr.output,Nat.le_trans h.gr.size hg.size,λi hi Hs=>?_⟩,?_,?_,?_⟩
 .rw [hg.block i (Nat.lt_of_lt_of_le hi h.gr.size) (λe=>by have:=(h.row.lt i e.symm).1;omega)];exact h.gr.block i hi Hs
 .rw [hg.block I (Nat.lt_of_lt_of_le h.hI h.gr.size) (λe=>h.uI e.symm)];exact h.inst
 .have e:vlX (Zaz R r m (k+1) l).1=vlX (Zaz R r m k l).1++[.int .i64 x.kind,.int .i64 x.n]:=by
   rw[Zic R r l m k hk,hx];simp[vlX]
  rw[e];exact Hb
 rw[hg.block _ h.rlt (λe=>h.uR e.symm)];exact h.res
theorem EvS.vals(h:EvS R r H I cp vm vi vn t w wr m ki k l u)(hH:H.In w)(hl:(Zaz R r m k l).1.length=k):
  ∃K,H.le K/\K.In wr/\K I=none/\K w.heap.size=none/\VlsV K (Zaz R r m k l).1 u:=by
 by_cases h0:k=0
 .obtain⟨a,c,hu,_⟩:=Zar h.row;exact⟨H,Kn.le_refl H,h.isin,h.noI,hH.isNone Ylr,.inl ⟨List.eq_nil_of_length_eq_zero (by omega),a,c,by rw[hu,h0]⟩⟩
 obtain⟨g,Ha,hu,h1,h2,h3,h4,h5⟩:=Zbr h.row (by omega);have hgI:g≠I:=by have:=h.hI;omega
 have hgR:g≠w.heap.size:=by omega
 have xx:H g=none:=hH.isNone (by omega);have ho:wr.heap[g]?=some wr.heap[g]:=Array.getElem?_eq_getElem h4;refine⟨H.add g wr.heap[g],Kn.le_add xx,h.isin.add ho,by rw[Kn.add_other _ _ (Ne.symm hgI)];exact h.noI,by rw[Kn.add_other _ _ (Ne.symm hgR)];exact hH.isNone Ylr,.inr ⟨g,0,Ha,by rw[hu,hl],by omega,h2,λi hi=>?_⟩⟩;have hc:∀j v,(vlX (Zaz R r m k l).1)[j]?=some v->(H.add g wr.heap[g]).cell g j=some v:=λj v hj=>by
  have h6:=h5 j v hj;unfold Kn.cell;rw[Kn.add_self];simp only[World.cell?,ho] at h6;cases hc:wr.heap[g]<;>simp_all
 obtain⟨x0,x1⟩:=Zen _ i hi;refine⟨?_,?_⟩
 .show (H.add g wr.heap[g]).cell g (0+i * 2+0)=_;rw[show 0+i * 2+0=2 * i from by omega];exact hc _ _ x0
 show(H.add g wr.heap[g]).cell g (0+i * 2+1)=_;rw[show 0+i * 2+1=2 * i+1 from by omega];exact hc _ _ x1
end
mutual
def EvOk(R:REnv)(r:Inst):Ex->Nat->Prop
 | .mk o _ s l,m=>NdOk R r m o s l/\EvOkL R r l m
def EvOkL(R:REnv)(r:Inst):List Ex->Nat->Prop
 | [],_=>True
 |e :: l,m=>EvOk R r e m/\EvOkL R r l (m+memN e)
end
theorem EvOkL.get{R:REnv}{r:Inst}:∀{l:List Ex} {m:Nat},EvOkL R r l m->∀i (h:i<l.length),EvOk R r l[i] (m+Zag (l.take i))
 | [],_,_,i,h=>by simp at h
 |e :: l,m,hh,0,_=>by
  simp only[EvOkL] at hh;simpa[Zag] using hh.1
 |e :: l,m,hh,i+1,h=>by
  simp only[EvOkL] at hh;have:=EvOkL.get hh.2 i (by simpa using h);simp only[List.take_succ_cons,Zag,List.getElem_cons_succ];rw[<- Nat.add_assoc];exact this
end Go.Proofs.YtafapnolamcdmaaGreatDoor
