/- A region's operations, one behind the other by a counter: what can be taken is taken. -/
import Derived.Test.YtafapnolamcdmaaGreatDoorKind
import Derived.Test.YtafapnolamcdmaaGreatDoorFormA
set_option linter.all false
namespace Go
set_option maxRecDepth 100000
set_option maxHeartbeats 16000000
def Zj1(_i:Nat)(P:Program)(md:Region.Mode)(ops:Array Oper)(Q:Exit->Act->World->Prop)(S T:World->Prop)(m fuel:Nat)(Hc:Array Bool)(a:Act)(w:World):Prop:=Zcz P md ops Q S T m fuel Hc a w
section
variable {P : Program} {md : Region.Mode} {ops : Array Oper} {Q : Exit -> Act -> World -> Prop} {S T : World -> Prop} {m : Nat} {fuel i : Nat} {Hc : Array Bool} {a : Act} {w : World}
theorem w3(i:Nat)(h:Zj1 i P md ops Q S T m fuel Hc a w):Zcz P md ops Q S T m fuel Hc a w:=h
theorem w3e(h:Zcz P md ops Q S T m fuel Hc a w):Zj1 i P md ops Q S T m fuel Hc a w:=h
theorem no3(h:Zj1 (i+1) P md ops Q S T m fuel Hc a w):Zj1 i P md ops Q S T m fuel Hc a w:=h
theorem tk3{oi:Oper}{v:Value}(hi:ops[i]?=some oi)(hS:S w)(hT:Hc.getD m false=false->T w)(hy:∀w,S w->(execOp a.eval oi).run P w=.ok (.value v) w)(h:Zj1 (i+1) P md ops Q S T m fuel (Hc.setIfInBounds i true) (a.put oi.dst v) w)
  (gV:m≠i:=by decide) (hl:Hc.getD i false=false:=by kernel_rfl) (hs:Region.noSelect ops=true:=by kernel_rfl) (hf:Region.free md ops Hc i=true:=by kernel_rfl) (hr:(Region.ready md ops Hc).contains i=true:=by kernel_rfl)
  (hQ:∀c a w,Q (.panic c) (a.put oi.dst v) w->Q (.panic c) a w:=by exact λ_ _ _ h=>h) (hw:Region.wanted oi (yielded ops a.tmps)=true:=by rfl):Zj1 i P md ops Q S T m (fuel+1) Hc a w:=
 Zdu hi gV hl hs hf hr hQ hS hT (.inl ⟨hw,hy⟩) h
theorem sk3{oi:Oper}(hi:ops[i]?=some oi)(hS:S w)(hT:Hc.getD m false=false->T w)(h:Zj1 (i+1) P md ops Q S T m fuel (Hc.setIfInBounds i true) (a.put oi.dst undef) w)
  (gV:m≠i:=by decide) (hl:Hc.getD i false=false:=by kernel_rfl) (hs:Region.noSelect ops=true:=by kernel_rfl) (hf:Region.free md ops Hc i=true:=by kernel_rfl) (hr:(Region.ready md ops Hc).contains i=true:=by kernel_rfl)
  (hQ:∀c a w,Q (.panic c) (a.put oi.dst undef) w->Q (.panic c) a w:=by exact λ_ _ _ h=>h) (hw:Region.wanted oi (yielded ops a.tmps)=false:=by rfl):Zj1 i P md ops Q S T m (fuel+1) Hc a w:=
 Zdu hi gV hl hs hf hr hQ hS hT (.inr ⟨hw,rfl⟩) h
end
end Go
/- The five sentinels of package api that flat and order answer, where they lie. -/
namespace Go.Proofs.YtafapnolamcdmaaGreatDoor
set_option maxRecDepth 100000
set_option maxHeartbeats 16000000
open Go.RowKit
def esv(a:Addr):Value:=.iface 256 (.pointer (some a))
structure Sen5(w:World)(p:Nat->Addr):Prop where
 c1:w.cell? ⟨0,0,none⟩=some (.iface 256 (.pointer (some (p 1))))
 c2:w.cell? ⟨2,0,none⟩=some (.iface 256 (.pointer (some (p 2))))
 c4:w.cell? ⟨1,0,none⟩=some (.iface 256 (.pointer (some (p 4))))
 c5:w.cell? ⟨5,0,none⟩=some (.iface 256 (.pointer (some (p 5))))
 c6:w.cell? ⟨6,0,none⟩=some (.iface 256 (.pointer (some (p 6))))
 big:10<=w.heap.size
theorem Sen5.below{w w':World}{p:Nat->Addr}(h:Sen5 w p)(hb:Ybw w w'):Sen5 w' p:=by
 have hg:=h.big;have hc:∀b,b<10->w'.cell? ⟨b,0,none⟩=w.cell? ⟨b,0,none⟩:=λb Ji=>hb.cell (p:=⟨b,0,none⟩) (Nat.lt_of_lt_of_le Ji hg);refine⟨?_,?_,?_,?_,?_,Nat.le_trans hg hb.size⟩
 .rw [hc _ (by decide)];exact h.c1
 .rw [hc _ (by decide)];exact h.c2
 .rw [hc _ (by decide)];exact h.c4
 .rw [hc _ (by decide)];exact h.c5
 rw[hc _ (by decide)];exact h.c6
open Go.RowKit Mx
theorem Zbv.le{H H':Kn}(He:H.le H')(h:Zbv H):Zbv H':=by
 obtain⟨v0,v1,v2,v3,v4,t,fr,h0,h1,h2,h3,h4,h5⟩:=h;exact⟨v0,v1,v2,v3,v4,t,fr,He _ _ h0,h1.le He,h2.le He,h3.le He,h4.le He,h5.le He⟩
def errV(sp:Nat->Addr):Nat->Value
 |0 => .nilIface
 |c+1=>esv (sp c)
theorem fresh_any(s:ByteArray)(k:Int)(B bm:Nat)(m:Env Int)(w:World)(hB:w.cell? ⟨B,0,none⟩=some (.map (some bm)))(hM:Zay (Value.int .i64) w bm m):
  Calls Tryz.prog 111 #[.string s,.int .i64 k,.pointer (some ⟨B,0,none⟩)] w λr w'=>r=.returned (.bool (Zf4 m s k))/\Zay (Value.int .i64) w' bm (m.set s k)/\Zcq w w' bm:=by
 have Ht:=hM.run (P:=Tryz.prog) Tryz.underlying124 Tryz.underlying9 (d:=0) (by kernel_rfl) s true;simp only[if_true] at Ht;have hBm:B≠bm:=by
  rintro rfl;obtain⟨es,c,h1,_⟩:=hM;simp[World.cell?,h1] at hB
 have HF:=Zhd (show Zf4 m s k=(!(m s).isSome && !s.toList.isEmpty&&((k==1) || (k==2))) from by
  unfold Zf4;rw[show decide (s.size≠0) = !s.toList.isEmpty from by rw[<- dEmp];simp];have e1:(k==1)=decide (k=1):=by by_cases h:k=1<;>simp[h]
  have e2:(k==2)=decide (k=2):=by by_cases h:k=2<;>simp[h]
  rw[e1,e2];cases m s<;>rfl)
 have HM:=Zhd hM;clear hM;generalize (m s).getD 0=v0 at *;generalize (m s).isSome=is at *;rcases Ybb s.toList.isEmpty with e1|e1
 all_goals
  rcases Zbf (k==1) (k=1) (by simp) with ⟨t1,S1⟩|⟨t1,S1⟩
  all_goals
   rcases Zbf (k==2) (k=2) (by simp) with ⟨t2,S2⟩|⟨t2,S2⟩
   all_goals
    cases is
    all_goals
     go_enter Tryz.func111,Tryz.ntmps111;go_wp2_with(at_mapUpdate;refine Zev (Value.int .i64) 124 9 3 Tryz.underlying124 Tryz.underlying9 bm m HM.out _ _ _ rfl rfl rfl s rfl k rfl ?_;intro w1 kU hT1);go_ret;exact⟨Za7 (by rw[HF.out];simp[e1,t1,t2]),kU,hT1⟩
structure CkW(w wr:World)(v0 v1 v2 v3 v4:Value)(m:Env Int):Prop where
 below:Ybw w wr
 size:w.heap.size+3<=wr.heap.size
 b0:wr.cell? ⟨w.heap.size,0,none⟩=some v0
 b1:wr.cell? ⟨w.heap.size,1,none⟩=some v1
 b2:wr.cell? ⟨w.heap.size,2,none⟩=some v2
 b3:wr.cell? ⟨w.heap.size,3,none⟩=some v3
 b4:wr.cell? ⟨w.heap.size,4,none⟩=some v4
 ck:wr.cell? ⟨w.heap.size+1+1,0,none⟩=some (.map (some (w.heap.size+1)))
 mp:Zay (Value.int .i64) wr (w.heap.size+1) m
theorem CkW.next{w wr w':World}{v0 v1 v2 v3 v4:Value}{m:Env Int}(h:CkW w wr v0 v1 v2 v3 v4 m)(hb:Ybw wr w'):CkW w w' v0 v1 v2 v3 v4 m:=by
 have hs:=h.size;have hc:∀b o,b<wr.heap.size->w'.cell? ⟨b,o,none⟩=wr.cell? ⟨b,o,none⟩:=λb o Hr=>hb.cell (p:=⟨b,o,none⟩) Hr;exact⟨h.below.trans (hb.mono (by omega)),Nat.le_trans hs hb.size,by rw[hc _ _ (by omega)];exact h.b0,by rw[hc _ _ (by omega)];exact h.b1,by rw[hc _ _ (by omega)];exact h.b2,by rw[hc _ _ (by omega)];exact h.b3,
  by rw[hc _ _ (by omega)];exact h.b4,by rw[hc _ _ (by omega)];exact h.ck,h.mp.below hb⟩
theorem CkW.alloc{w wr:World}{v0 v1 v2 v3 v4:Value}{m:Env Int}(h:CkW w wr v0 v1 v2 v3 v4 m)(o:Obj):CkW w (wr.alloc o) v0 v1 v2 v3 v4 m:=h.next ((Below.refl _ _).alloc Ylr o)
theorem CkW.turn{w wr w':World}{v0 v1 v2 v3 v4:Value}{m m':Env Int}(h:CkW w wr v0 v1 v2 v3 v4 m)(ht:Zcq wr w' (w.heap.size+1))(hm:Zay (Value.int .i64) w' (w.heap.size+1) m'):CkW w w' v0 v1 v2 v3 v4 m':=by
 have hc:∀b o,b≠w.heap.size+1->w'.cell? ⟨b,o,none⟩=wr.cell? ⟨b,o,none⟩:=λb o Hr=>ht.cell (p:=⟨b,o,none⟩) Hr;exact⟨ht.below h.below (by omega),by rw[ht.size];exact h.size,by rw[hc _ _ (by omega)];exact h.b0,by rw[hc _ _ (by omega)];exact h.b1,by rw[hc _ _ (by omega)];exact h.b2,by rw[hc _ _ (by omega)];exact h.b3,
  by rw[hc _ _ (by omega)];exact h.b4,by rw[hc _ _ (by omega)];exact h.ck,hm⟩
theorem CkW.other{w wr w':World}{v0 v1 v2 v3 v4:Value}{m:Env Int}{c:Nat}(h:CkW w wr v0 v1 v2 v3 v4 m)(ht:Zcq wr w' c)(jH:w.heap.size+3<=c):CkW w w' v0 v1 v2 v3 v4 m:=by
 have hc:∀b o,b≠c->w'.cell? ⟨b,o,none⟩=wr.cell? ⟨b,o,none⟩:=λb o Hr=>ht.cell (p:=⟨b,o,none⟩) Hr;exact⟨ht.below h.below (by omega),by rw[ht.size];exact h.size,by rw[hc _ _ (by omega)];exact h.b0,by rw[hc _ _ (by omega)];exact h.b1,by rw[hc _ _ (by omega)];exact h.b2,by rw[hc _ _ (by omega)];exact h.b3,
  by rw[hc _ _ (by omega)];exact h.b4,by rw[hc _ _ (by omega)];exact h.ck,ht.map h.mp (by omega)⟩
theorem Zj4(ks:Env Int):∀e:Ex,Zad ks e=true->okIf e=true:=by
 refine Ex.ind λo n s l ih h=>?_;simp only[Zad,Bool.and_eq_true] at h;simp only[okIf,Bool.and_eq_true,Bool.or_eq_true,decide_eq_true_eq];refine⟨?_,?_⟩
 .by_cases ho:o=oIf
  .right;have h1:=h.1.1.1;subst ho;have ha:Zcx oIf=some 3:=by decide
   simp only[form,Ex.op,ha,Bool.and_eq_true,Bool.or_eq_true,decide_eq_true_eq,Ex.l] at h1;rcases h1.1.1 with h|h
   .omega
   have:=of_decide_eq_true h;omega
  exact .inl ho
 have hl:=(Zbe ks l).1 h.2;have key:∀l:List Ex,(∀e∈l,okIf e=true)->okIfL l=true:=by
  intro l
  induction l with
  |nil=>intro _;rfl
  |cons e l ih2=>intro h;simp only[okIfL,Bool.and_eq_true];exact⟨h e (List.mem_cons_self ..),ih2 λx hx=>h x (List.mem_cons_of_mem _ hx)⟩
 refine key l λe he=>?_;obtain⟨i,hi,rfl⟩:=List.mem_iff_getElem.1 he;exact ih _ he (hl i hi)
theorem Zjl{p:Prop}(h:p:=by
 go_wp2_with fail;go_ret;exact⟨by rw[HE.out];rfl,HC.out.below⟩):p:=h
theorem errV_zero(sp:Nat->Addr):errV sp 0=.nilIface:=rfl
theorem Zfk(sp:Nat->Addr)(c:Nat):errV sp (c+1)=.iface 256 (.pointer (some (sp c))):=rfl
theorem outsGo_take{fl outs:List ByteArray}{k:Nat}(hk:k<outs.length)(h:Zce fl [] outs=Zce fl (outs.take k) (outs.drop k)):
  Zce fl [] outs=(fl.contains outs[k] && !(outs.take k).contains outs[k]&&Zce fl (outs.take (k+1)) (outs.drop (k+1))):=by
 rw[h];have:=outs_step fl outs [] k hk;simpa using this
theorem check_any(H:Kn)(T:Zbv H)(sp:Nat->Addr)(p:Pr)(vi vo vl va vc:Value)(hp:PrP H p vi vo vl va vc)(w:World)(hH:H.In w)(S:Sen5 w sp)
  (J5:p.ins.length<=1000000/\p.fl.length<=1000000/\p.outs.length<=100000000000/\p.as.length<=1000000/\p.cs.length<=1000000) (kZ:Ex.partsL p.terms<=1000000000):
  Calls Tryz.prog 94 #[.agg #[vi,vo,vl,va,vc]] w λr w'=>r=.returned (errV sp (Zak p))/\Ybw w w':=by
 obtain⟨s1,s2,s3,s4,s5⟩:=J5;have HP:=Zhd hp;obtain⟨h1,h2,h3,h4,h5⟩:=hp;obtain⟨ai,ci,ao,co,al,cl,aa,ca,ac,cc,rfl,rfl,rfl,rfl,rfl⟩:=Ypo h1.len h2.len h3.len h4.len h5.len;have H1:=Zhd h1;have H2:=Zhd h2;have H3:=Zhd h3;have HPT:=Zhd kZ;clear h1 h2 h3 h4 h5 kZ;have zX:=@run_makeMap Tryz.prog;have hbig:=S.big;have hzb:∀u:World,(zeroValue 4).run Tryz.prog u=.ok (.bool false) u:=λ_=>by kernel_rfl
 have HZB:=Zhd hzb;clear hzb;go_enter Tryz.func94,Tryz.ntmps94;go_wp2_with fail;have hC0:CkW w (((w.alloc (.cells (Yq5 p ai ao al aa ac ci co cl ca cc) 42)).alloc (.map #[] 0)).alloc (.cells #[.map (some (w.heap.size+1))] 124)) (.slice ai p.ins.length ci) (.slice ao p.outs.length co) (.slice al p.fl.length cl) (.slice aa p.as.length ca) (.slice ac p.cs.length cc) Env.none:=by
  refine⟨(Yba.alloc (by simp) _).alloc (by simp;omega) _,by simp,?_,?_,?_,?_,?_,?_,?_⟩
  .rw [World.cell?_alloc_past _ _ _ (by simp;omega),World.cell?_alloc_past _ _ _ (by simp),World.cell?_alloc_new];rfl
  .rw [World.cell?_alloc_past _ _ _ (by simp;omega),World.cell?_alloc_past _ _ _ (by simp),World.cell?_alloc_new];rfl
  .rw [World.cell?_alloc_past _ _ _ (by simp;omega),World.cell?_alloc_past _ _ _ (by simp),World.cell?_alloc_new];rfl
  .rw [World.cell?_alloc_past _ _ _ (by simp;omega),World.cell?_alloc_past _ _ _ (by simp),World.cell?_alloc_new];rfl
  .rw [World.cell?_alloc_past _ _ _ (by simp;omega),World.cell?_alloc_past _ _ _ (by simp),World.cell?_alloc_new];rfl
  .have:=World.cell?_alloc_new ((w.alloc (.cells (Yq5 p ai ao al aa ac ci co cl ca cc) 42)).alloc (.map #[] 0)) #[.map (some (w.heap.size+1))] 124 0;simpa using this
  have:=(Zay.made (Value.int .i64) (w.alloc (.cells (Yq5 p ai ao al aa ac ci co cl ca cc) 42))).alloc (.cells #[.map (some (w.heap.size+1))] 124);simpa using this
 generalize ((w.alloc (.cells (Yq5 p ai ao al aa ac ci co cl ca cc) 42)).alloc (.map #[] 0)).alloc (.cells #[.map (some (w.heap.size+1))] 124)=W0 at *;have HC0:=Zhd hC0;clear hC0;have hzz:=HC0.out.size;go_loopw[24] (λi wr=>∃(k:Nat) (m:Env Int),i=.int .i64 k/\k<=p.ins.length/\CkW w wr (.slice ai p.ins.length ci) (.slice ao p.outs.length co) (.slice al p.fl.length cl) (.slice aa p.as.length ca) (.slice ac p.cs.length cc) m/\Zao Env.none (p.vars.take k)=some m) (λi _=>p.ins.length - (intOf i).toNat)
 case atStart=>exact⟨0,Env.none,rfl,Nat.zero_le _,HC0.out,rfl⟩
 obtain⟨k,m,rfl,hk,hC,je⟩:=hrel;have HC:=Zhd hC;have qQ:=Zhd je;have qS:=hC.size;clear hC je;by_cases Hd:k<p.ins.length
 .obtain⟨b,off,rfl,_,c0,c1⟩:=SlV.at H1.out Hd;have Hw:=hH.below HC.out.below;have c0:=Hw.cell c0;have c1:=Hw.cell c1;simp only[Nat.add_zero] at c0;have hkv:k<p.vars.length:=by rw[Zgw];omega
  have FS:=Zhd (Zjt hkv qQ.out);have FN:=Zhd (λh=>Zjw (Zju (k:=k+1) (l:=p.vars) h));rw[vars_in p k Hd hkv] at FS;clear Hw;generalize p.ins[k]=x at *;obtain⟨xn,xk⟩:=x;dsimp only at *;have hCa:=HC.out.alloc (.cells #[.string xn,.int .i64 xk] 127);have yF:=Zhd hCa;clear hCa;go_wp2_with fail;refine(fresh_any xn xk (w.heap.size+1+1) (w.heap.size+1) m _ yF.out.ck yF.out.mp).mono ?_;rintro r w2 ⟨rfl,km,Jv⟩;have HC2:=Zhd (yF.out.turn Jv km);have e2:=(S.below HC2.out.below).c2;clear km Jv;cases hb:Zf4 m xn xk
  .have HX:=Zhd (FN.out (by rw[FS.out,hb];rfl));go_wp2_with fail;go_ret;exact⟨by rw[HX.out];rfl,HC2.out.below⟩
  have HX:=Zhd (show Zao Env.none (p.vars.take (k+1))=some (m.set xn xk) from by rw[FS.out,hb];rfl);go_wp2_with fail;go_roundw
  case rel=>exact⟨k+1,_,by go_num,by omega,HC2.out,HX.out⟩
  simp[intOf];omega
 obtain rfl:k=p.ins.length:=by omega
 have Hm:=(HC.out.alloc (.map #[] 0)).b2;go_wp2_with fail;have hF0:Zay Value.bool (wr.alloc (.map #[] 0)) wr.heap.size (Zkm []):=by rw[setL1_nil];exact Zay.made Value.bool wr
 have hC1:=HC.out.alloc (.map #[] 0);clear Hm;generalize wr.alloc (.map #[] 0)=W1 at *;generalize wr.heap.size=bf at *;have HC1:=Zhd hC1;have HF0:=Zhd hF0;clear hC1 hF0 HC;go_loopw[41] (λi wr=>∃(k:Nat) (m:Env Int),i=.int .i64 k/\k<=p.fl.length/\CkW w wr (.slice ai p.ins.length ci) (.slice ao p.outs.length co) (.slice al p.fl.length cl) (.slice aa p.as.length ca) (.slice ac p.cs.length cc) m/\Zao Env.none (p.vars.take (p.ins.length+k))=some m/\Zay Value.bool wr bf (Zkm ((p.fl.take k).map (·.name)))) (λi _=>p.fl.length - (intOf i).toNat)
 case atStart=>exact⟨0,m,rfl,Nat.zero_le _,HC1.out,qQ.out,HF0.out⟩
 obtain⟨k,m,rfl,hk,hC,je,hF⟩:=hrel;have HC:=Zhd hC;have qQ:=Zhd je;have HF:=Zhd hF;have hwr2:=hC.size;clear hC je hF;by_cases Hd:k<p.fl.length
 .obtain⟨b,off,rfl,_,kR⟩:=SlV.at H3.out Hd;obtain⟨u,c0,c1,c2,c3,c4,c5,hu⟩:=kR.cells;obtain⟨ax,cx,rfl⟩:=hu.len;have Hw:=hH.below HC.out.below;have c0:=Hw.cell c0;have c1:=Hw.cell c1;have c2:=Hw.cell c2;have c3:=Hw.cell c3;have c4:=Hw.cell c4;have c5:=Hw.cell c5;simp only[Nat.add_zero] at c0;have hkv:p.ins.length+k<p.vars.length:=by rw[Zgw];omega
  have FS:=Zhd (Zjt hkv qQ.out);have FN:=Zhd (λh=>Zjw (Zju (k:=p.ins.length+k+1) (l:=p.vars) h));rw[vars_fl p k Hd hkv] at FS;have TK:=Zhd (show(p.fl.take (k+1)).map (·.name)=(p.fl.take k).map (·.name)++[p.fl[k].name] from by rw[List.take_succ_eq_append_getElem Hd,List.map_append];rfl);clear Hw hu kR;generalize p.fl[k]=x at *;obtain⟨xn,xk,xe⟩:=x;dsimp only at *;generalize xe.op=xo at *;generalize xe.n=xnn at *;generalize xe.s=xs at *;generalize xe.l.length=xl at *;have yF:=Zhd (HC.out.alloc (.cells #[.string xn,.int .i64 xk,.string xo,.int .i64 xnn,.string xs,.slice ax xl cx] 96));go_wp2_with fail;refine(fresh_any xn xk (w.heap.size+1+1) (w.heap.size+1) m _ yF.out.ck yF.out.mp).mono ?_;rintro r w2 ⟨rfl,km,Jv⟩;have HC2:=Zhd (yF.out.turn Jv km);have QF:=Zhd (Jv.map (HF.out.alloc _) (show bf≠w.heap.size+1 by omega));have e2:=(S.below HC2.out.below).c2;have q0:w2.cell? ⟨wr.heap.size,0,none⟩=some (.string xn):=by rw[Jv.cell (p:=⟨wr.heap.size,0,none⟩) (show wr.heap.size≠w.heap.size+1 by omega),World.cell?_alloc_new];rfl
  clear km Jv;cases hb:Zf4 m xn xk
  .have HX:=Zhd (FN.out (by rw[FS.out,hb];rfl));go_wp2_with fail;go_ret;exact⟨by rw[HX.out];rfl,HC2.out.below⟩
  have HX:=Zhd (show Zao Env.none (p.vars.take (p.ins.length+(k+1)))=some (m.set xn xk) from by rw[<- Nat.add_assoc,FS.out,hb];rfl);go_wp2_with(at_mapUpdate;refine Zev Value.bool 79 9 4 Tryz.underlying79 Tryz.underlying9 bf _ QF.out _ _ _ rfl rfl rfl xn rfl true rfl ?_;intro w3 hF3 zv);have HC3:=Zhd (HC2.out.other zv (by omega));go_roundw
  case rel=>exact⟨k+1,_,by go_num,by omega,HC3.out,HX.out,by rw[TK.out,<- setL1_snoc];exact hF3⟩
  simp[intOf];omega
 obtain rfl:k=p.fl.length:=by omega
 have KS:=Zhd (show Zao Env.none p.vars=some m from by rw[<- qQ.out,<- Zgw,List.take_length]);have hF:=HF.out;rw[List.take_length] at hF;have Hv:=(HC.out.alloc (.map #[] 0)).b1;go_wp2_with fail;have hO0:Zay Value.bool (wr.alloc (.map #[] 0)) wr.heap.size (Zkm []):=by rw[setL1_nil];exact Zay.made Value.bool wr
 have hC1:=HC.out.alloc (.map #[] 0);have hF1:=hF.alloc (.map #[] 0);have hbo:bf<wr.heap.size:=hF.lt;clear Hv hF HF qQ HF0 HC1;generalize wr.alloc (.map #[] 0)=W2 at *;generalize wr.heap.size=bo at *;have HC1:=Zhd hC1;have HF1:=Zhd hF1;have HO0:=Zhd hO0;clear hC1 hF1 hO0 HC;go_loopw[61] (λi wr=>∃(k:Nat),i=.int .i64 k/\k<=p.outs.length/\CkW w wr (.slice ai p.ins.length ci) (.slice ao p.outs.length co) (.slice al p.fl.length cl) (.slice aa p.as.length ca) (.slice ac p.cs.length cc) m/\Zay Value.bool wr bf (Zkm (p.fl.map (·.name)))/\Zay Value.bool wr bo (Zkm (p.outs.take k))/\Zce (p.fl.map (·.name)) [] p.outs=Zce (p.fl.map (·.name)) (p.outs.take k) (p.outs.drop k)) (λi _=>p.outs.length - (intOf i).toNat)
 case atStart=>exact⟨0,rfl,Nat.zero_le _,HC1.out,HF1.out,HO0.out,by simp⟩
 obtain⟨k,rfl,hk,hC,hF,hO,xO⟩:=hrel;have HC:=Zhd hC;have HF:=Zhd hF;have HO:=Zhd hO;have HGO:=Zhd xO;have hwr3:=hC.size;clear hC hF hO xO;by_cases Hd:k<p.outs.length
 .obtain⟨b,off,rfl,_,c0⟩:=SlV.at H2.out Hd;have Hw:=hH.below HC.out.below;have c0:=Hw.cell c0;simp only[Nat.add_zero,Nat.mul_one] at c0;have HX:=Zhd (outsGo_take Hd HGO.out);have TK:=Zhd (show p.outs.take (k+1)=p.outs.take k++[p.outs[k]] from List.take_succ_eq_append_getElem Hd);have r1:=HF.out.run (P:=Tryz.prog) Tryz.underlying79 Tryz.underlying9 (d:=false) (HZB.out _) p.outs[k] false;have r2:=HO.out.run (P:=Tryz.prog) Tryz.underlying79 Tryz.underlying9 (d:=false) (HZB.out _) p.outs[k] false;simp only[Bool.false_eq_true,if_false,setL1_get] at r1 r2;have e2:=(S.below HC.out.below).c2;clear Hw;generalize p.outs[k]=s at *;generalize (p.fl.map (·.name)).contains s=q1 at *;generalize (p.outs.take k).contains s=q2 at *;rcases(show q1=false\/q1=true/\q2=true\/q1=true/\q2=false from by cases q1<;>cases q2<;>simp) with rfl|⟨rfl,rfl⟩|⟨rfl,rfl⟩
  .have HE:=Zhd (Zfl KS.out (by rw[HX.out];simp));exact Zjl
  .have HE:=Zhd (Zfl KS.out (by rw[HX.out];simp));exact Zjl
  have HE:=Zhd (show Zce (p.fl.map (·.name)) [] p.outs=Zce (p.fl.map (·.name)) (p.outs.take (k+1)) (p.outs.drop (k+1)) from by rw[HX.out];simp);go_wp2_with(at_mapUpdate;refine Zev Value.bool 79 9 4 Tryz.underlying79 Tryz.underlying9 bo _ HO.out _ _ _ rfl rfl rfl s rfl true rfl ?_;intro w3 hO3 zv);have HC3:=Zhd (HC.out.other zv (by omega));have HF3:=Zhd (zv.map HF.out (by omega));go_roundw
  case rel=>exact⟨k+1,by go_num,by omega,HC3.out,HF3.out,by rw[TK.out,<- setL1_snoc];exact hO3,HE.out⟩
  simp[intOf];omega
 obtain rfl:k=p.outs.length:=by omega
 have OS:=Zhd (show Zce (p.fl.map (·.name)) [] p.outs=true from by rw[HGO.out,List.drop_length];rfl);obtain⟨d0,d1,d2,d3,d4⟩:=(show _/\_/\_/\_/\_ from⟨HC.out.b0,HC.out.b1,HC.out.b2,HC.out.b3,HC.out.b4⟩);clear HF HO HGO HF1 HO0 HC1;go_wp2_with fail;refine(terms_any H p _ _ _ _ _ HP.out wr (hH.below HC.out.below) ⟨s2,s4,s5⟩).mono ?_;rintro r w4 ⟨v4,rfl,hx4,jw⟩;obtain⟨at_,ct,rfl⟩:=hx4.len;have HX4:=Zhd hx4;have HC4:=Zhd (HC.out.next jw);have T4:=Zhd (T.le (Zbl (hH.below HC4.out.below)));have zV:p.terms.length<=1000000000:=Nat.le_trans (Zg7 _) HPT.out;clear hx4 d0 d1 d2 d3 d4 HC;go_wp2_with fail;go_loopw[13,81] (λc i wr=>∃(k:Nat),i=.int .i64 k/\k<=p.terms.length/\c=.int .i64 (Ex.partsL (p.terms.take k))/\CkW w wr (.slice ai p.ins.length ci) (.slice ao p.outs.length co) (.slice al p.fl.length cl) (.slice aa p.as.length ca) (.slice ac p.cs.length cc) m/\Ybw w4 wr/\(∀i (h:i<p.terms.length),i<k->Zad m p.terms[i]=true)) (λ_ i _=>p.terms.length - (intOf i).toNat)
 case atStart=>exact⟨0,rfl,Nat.zero_le _,rfl,HC4.out,Below.refl _ _,λi _ h=>by omega⟩
 obtain⟨k,rfl,hk,rfl,hC,hb,ji⟩:=hrel;have HC:=Zhd hC;have HB:=Zhd hb;have zm:=Zhd ji;have hple:=Zc1 p.terms k;have kZ:=HPT.out;clear hC hb ji;by_cases Hd:k<p.terms.length
 .obtain⟨b,off,ax,cx,rfl,c0,c1,c2,c3,hx⟩:=ExsV.at HX4.out Hd;have Hk:=Zca HB.out;have c0:=Hk.cell c0;have c1:=Hk.cell c1;have c2:=Hk.cell c2;have c3:=Hk.cell c3;have PT:=Zhd (Zde p.terms k Hd);have hp2:=Zc1 p.terms (k+1);rw[PT.out] at hp2;have FB:=Zhd λ(h:Zad m p.terms[k]=false)=>(show Zak p=3 from check_form KS.out OS.out (by
   cases hq:Zb4 m p.terms
   .rfl
   have:=(Zbe m p.terms).1 hq k Hd;rw[h] at this;cases this))
  have FG:=Zhd λ(h:Zad m p.terms[k]=true) i (hi:i<p.terms.length) (jp:i<k+1)=>(show Zad m p.terms[i]=true from by
   by_cases hik':i<k
   .exact zm.out i hi hik'
   obtain rfl:i=k:=by omega
   exact h)
  have yF:=Zhd (HC.out.alloc (.cells #[.string p.terms[k].op,.int .i64 p.terms[k].n,.string p.terms[k].s,.slice ax p.terms[k].l.length cx] 93));generalize p.terms[k]=x at *;have J0:=yF.out.ck;go_wp2_with fail;refine(formAll_any (Zan w4) T4.out m (w.heap.size+1) x _ hx _ (Hk.alloc _) yF.out.mp).mono ?_;rintro r w5 ⟨rfl,Jf⟩;have HC5:=Zhd (yF.out.next Jf);have kg:=Zhd ((HB.out.alloc HB.out.size _).trans (Jf.mono (by have:=HB.out.size;simp;omega)));have e2:=(S.below HC5.out.below).c2;have hq:∀i,w5.cell? ⟨wr.heap.size,i,none⟩=((Yqe x.op x.n x.s ax x.l.length cx):Array Value)[i]?:=λi=>by rw[Jf.cell (p:=⟨wr.heap.size,i,none⟩) (by simp),World.cell?_alloc_new]
  have q0:=hq 0;have q1:=hq 1;have q2:=hq 2;have q3:=hq 3;simp at q0 q1 q2 q3;clear hq J0;cases jD:Zad m x
  .have HE:=Zhd (FB.out jD);clear jD;go_wp2_with fail;go_ret;exact⟨by rw[HE.out];rfl,HC5.out.below⟩
  have HE:=Zhd (FG.out jD);clear jD;go_wp2_with fail;refine(parts_any (Zan w4) x _ hx (by omega) w5 (Zca kg.out)).mono ?_;rintro r w6 ⟨rfl,JX⟩;have HC6:=Zhd (HC5.out.next JX);have ve:=Zhd (kg.out.trans (JX.mono kg.out.size));generalize x.parts=xp at *;go_wp2_with fail;go_roundw
  case rel=>exact⟨k+1,by go_num,by omega,by rw[PT.out];go_num,HC6.out,ve.out,HE.out⟩
  simp[intOf];omega
 obtain rfl:k=p.terms.length:=by omega
 have FS:=Zhd ((Zbe m p.terms).2 λi hi=>zm.out i hi hi);rw[List.take_length] at hple ⊢;obtain⟨d0,d1,d2,d3,d4⟩:=(show _/\_/\_/\_/\_ from⟨HC.out.b0,HC.out.b1,HC.out.b2,HC.out.b3,HC.out.b4⟩);have e1:=(S.below HC.out.below).c1;clear HX4 T4 HC4 zm;rcases(show(400<p.fl.length\/¬400<p.fl.length/\4000<Ex.partsL p.terms\/¬400<p.fl.length/\¬4000<Ex.partsL p.terms/\30<p.ins.length)\/(¬400<p.fl.length/\¬4000<Ex.partsL p.terms/\¬30<p.ins.length) from by omega) with hx|⟨g1,g2,g3⟩
 .have HE:=Zhd (Zi5 KS.out OS.out FS.out (by omega));rcases hx with g1|⟨g1,g2⟩|⟨g1,g2,g3⟩
  .have g1':(400:Int)<p.fl.length:=by omega
   exact Zjl
  .have g1':¬(400:Int)<p.fl.length:=by omega
   have g2':(4000:Int)<Ex.partsL p.terms:=by omega
   exact Zjl
  have g1':¬(400:Int)<p.fl.length:=by omega
  have g2':¬(4000:Int)<Ex.partsL p.terms:=by omega
  have g3':(30:Int)<p.ins.length:=by omega
  exact Zjl
 have g1':¬(400:Int)<p.fl.length:=by omega
 have g2':¬(4000:Int)<Ex.partsL p.terms:=by omega
 have g3':¬(30:Int)<p.ins.length:=by omega
 have yB:=Zhd (show ¬(p.fl.length > 400\/Ex.partsL p.terms > 4000\/p.ins.length > 30) from by omega);have qH:Ex.partsL p.terms<=4000:=by omega
 go_wp2_with fail;refine(terms_any H p _ _ _ _ _ HP.out wr (hH.below HC.out.below) ⟨s2,s4,s5⟩).mono ?_;rintro r w5 ⟨v5,rfl,hx5,Jf⟩;obtain⟨at5,ct5,rfl⟩:=hx5.len;have HX5:=Zhd hx5;have HC5:=Zhd (HC.out.next Jf);clear hx5 d0 d1 d2 d3 d4 HC HB e1 g1 g2 g3 g1' g2' g3';go_wp2_with fail;go_loopw[113] (λi wr=>∃(k:Nat),i=.int .i64 k/\k<=p.terms.length/\CkW w wr (.slice ai p.ins.length ci) (.slice ao p.outs.length co) (.slice al p.fl.length cl) (.slice aa p.as.length ca) (.slice ac p.cs.length cc) m/\Ybw w5 wr/\(∀i (h:i<p.terms.length),i<k->Zai m p.terms[i]=(p.fl.map (·.kind)).getD i 1)) (λi _=>p.terms.length - (intOf i).toNat)
 case atStart=>exact⟨0,rfl,Nat.zero_le _,HC5.out,Below.refl _ _,λi _ h=>by omega⟩
 obtain⟨k,rfl,hk,hC,hb,jA⟩:=hrel;have HC:=Zhd hC;have HB:=Zhd hb;have QD:=Zhd jA;clear hC hb jA;by_cases Hd:k<p.terms.length
 .obtain⟨b,off,ax,cx,rfl,c0,c1,c2,c3,hx⟩:=ExsV.at HX5.out Hd;have Hk:=Zca HB.out;have c0:=Hk.cell c0;have c1:=Hk.cell c1;have c2:=Hk.cell c2;have c3:=Hk.cell c3;have hokf:=(Zbe m p.terms).1 FS.out k Hd;have hxp:p.terms[k].parts<=4000:=Nat.le_trans (Zgd (Ymm Hd)) qH;have KB:=Zhd λ(h:Zai m p.terms[k]≠(p.fl.map (·.kind)).getD k 1)=>(show Zak p=5 from check_kind KS.out OS.out FS.out yB.out (by
   cases hq:Zdr m (p.fl.map (·.kind)) p.terms
   .rfl
   exact absurd ((Zc4 m _ p.terms).1 hq k Hd) h))
  have KG:=Zhd λ(h:Zai m p.terms[k]=(p.fl.map (·.kind)).getD k 1) i (hi:i<p.terms.length) (jp:i<k+1)=>(show Zai m p.terms[i]=(p.fl.map (·.kind)).getD i 1 from by
   by_cases hik':i<k
   .exact QD.out i hi hik'
   obtain rfl:i=k:=by omega
   exact h)
  have yF:=Zhd (HC.out.alloc (.cells #[.string p.terms[k].op,.int .i64 p.terms[k].n,.string p.terms[k].s,.slice ax p.terms[k].l.length cx] 93));have jP:=Zhd (Zj4 m _ hokf);generalize p.terms[k]=x at *;have d2:=yF.out.b2;have J0:=yF.out.ck;clear hokf;by_cases qJ:k<p.fl.length
  .obtain⟨bl,ol,rfl,_,f0,f1,_⟩:=SlV.at H3.out qJ;have f1:=(hH.below yF.out.below).cell f1;have HW:=Zhd (show(p.fl.map (·.kind)).getD k 1=p.fl[k].kind from by simp[Ygg,qJ]);clear f0;generalize p.fl[k].kind=want at *;go_wp2_with fail;refine(kind_any x jP.out (by omega) (Zan w5) _ hx m (w.heap.size+1) _ (Hk.alloc _) yF.out.mp).mono ?_;rintro r w6 ⟨rfl,JX⟩;have HC6:=Zhd (yF.out.next JX);have ve:=Zhd ((HB.out.alloc HB.out.size _).trans (JX.mono (by have:=HB.out.size;simp;omega)));have e4:=(S.below HC6.out.below).c4;rw[HW.out] at KB KG;generalize Zai m x=kx at *;rcases Zbf (kx != want) (kx≠want) (by simp) with ⟨t1,S1⟩|⟨t1,S1⟩
   .have HE:=Zhd (KB.out S1.out);go_wp2_with fail;go_ret;exact⟨by rw[HE.out];rfl,HC6.out.below⟩
   have HE:=Zhd (KG.out (by simpa using S1.out));go_wp2_with fail;go_roundw
   case rel=>exact⟨k+1,by go_num,by omega,HC6.out,ve.out,HE.out⟩
   simp[intOf];omega
  have HW:=Zhd (show(p.fl.map (·.kind)).getD k 1=1 from by simp[Ygg,qJ]);go_wp2_with fail;refine(kind_any x jP.out (by omega) (Zan w5) _ hx m (w.heap.size+1) _ (Hk.alloc _) yF.out.mp).mono ?_;rintro r w6 ⟨rfl,JX⟩;have HC6:=Zhd (yF.out.next JX);have ve:=Zhd ((HB.out.alloc HB.out.size _).trans (JX.mono (by have:=HB.out.size;simp;omega)));have e4:=(S.below HC6.out.below).c4;rw[HW.out] at KB KG;generalize Zai m x=kx at *;rcases Zbf (kx != 1) (kx≠1) (by simp) with ⟨t1,S1⟩|⟨t1,S1⟩
  .have HE:=Zhd (KB.out S1.out);go_wp2_with fail;go_ret;exact⟨by rw[HE.out];rfl,HC6.out.below⟩
  have HE:=Zhd (KG.out (by simpa using S1.out));go_wp2_with fail;go_roundw
  case rel=>exact⟨k+1,by go_num,by omega,HC6.out,ve.out,HE.out⟩
  simp[intOf];omega
 have HE:=Zhd (check_ok KS.out OS.out FS.out yB.out ((Zc4 m _ p.terms).2 λi hi=>QD.out i hi (by omega)));exact Zjl
theorem mAyR2{p:Prop}(h:p:=by
 clear HIF;go_enter Tryz.func86,Tryz.ntmps86;go_wp2_with fail;go_ret;exact⟨Zaf (by rw[HK.out];unfold Zcb;simp[hc,U]),Below.refl _ _⟩):p:=h
theorem Zim{p:Prop}(h:p:=by
 clear HIF;go_enter Tryz.func86,Tryz.ntmps86;go_wp2_with fail;go_ret;exact⟨Zaf (by rw[HK.out];unfold Zcb;simp[hc]),Below.refl _ _⟩):p:=h
theorem rarity_any(o:ByteArray)(w:World):
  Calls Tryz.prog 129 #[.string o] w λe w'=>e=.returned (.tuple #[.int .i64 (arN o),.bool (arB o)])/\w=w':=by
 by_cases hk:o=oInt\/o=Zc9\/o=Zch\/o=Zb2\/o=oNot\/o=oNeg\/o=oPre\/o=oIf\/o=Zko\/o=oAnd\/o=oOr\/o=oXor\/o=oImp\/o=oEq\/o=oNe\/o=oLt\/o=oLe\/o=oGt\/o=oGe\/o=oAdd\/o=oSub\/o=oMul\/o=oDiv\/o=oMod\/o=Zbk\/o=oFby
 .rcases hk with rfl|rfl|rfl|rfl|rfl|rfl|rfl|rfl|rfl|rfl|rfl|rfl|rfl|rfl|rfl|rfl|rfl|rfl|rfl|rfl|rfl|rfl|rfl|rfl|rfl|rfl
  all_goals
   go_enter Tryz.func129,Tryz.ntmps129;go_wp2_with fail;go_ret2
   exact⟨by rfl,rfl⟩
 simp only[not_or] at hk;obtain⟨k0,k1,k2,k3,k4,k5,k6,k7,k8,k9,k10,zT,k12,k13,k14,k15,k16,k17,k18,k19,k20,k21,k22,k23,k24,k25⟩:=hk;have hA:Zcx o=none:=by
  unfold Zcx;rw[if_neg (by simp[k0,k1,k2,k3]),if_neg (by simp[k4,k5,k6]),if_neg k7,if_neg k8,if_neg (by simp[k24,k25])];rw[if_neg];simp[levels,k9,k10,zT,k12,k13,k14,k15,k16,k17,k18,k19,k20,k21,k22,k23]
 have h1:arN o=0:=by unfold arN;rw[hA];rfl
 have h2:arB o=false:=by unfold arB;rw[hA];rfl
 have e0:(o.toList==[105,110,116])=false:=Zav _ k0;have e1:(o.toList==[116,114,117,101])=false:=Zav _ k1;have e2:(o.toList==[102,97,108,115,101])=false:=Zav _ k2;have e3:(o.toList==[110,97,109,101])=false:=Zav _ k3;have e4:(o.toList==[110,111,116])=false:=Zav _ k4;have e5:(o.toList==[110,101,103])=false:=Zav _ k5;have e6:(o.toList==[112,114,101])=false:=Zav _ k6;have e7:(o.toList==[105,102])=false:=Zav _ k7;have e8:(o.toList==[99,97,108,108])=false:=Zav _ k8;have e9:(o.toList==[97,110,100])=false:=Zav _ k9;have js:(o.toList==[111,114])=false:=Zav _ k10;have qO:(o.toList==[120,111,114])=false:=Zav _ zT;have yx:(o.toList==[61,62])=false:=Zav _ k12;have xz:(o.toList==[61])=false:=Zav _ k13;have vY:(o.toList==[60,62])=false:=Zav _ k14;have Qc:(o.toList==[60])=false:=Zav _ k15;have e16:(o.toList==[60,61])=false:=Zav _ k16;have e17:(o.toList==[62])=false:=Zav _ k17;have e18:(o.toList==[62,61])=false:=Zav _ k18;have e19:(o.toList==[43])=false:=Zav _ k19;have e20:(o.toList==[45])=false:=Zav _ k20;have e21:(o.toList==[42])=false:=Zav _ k21;have e22:(o.toList==[47])=false:=Zav _ k22;have e23:(o.toList==[109,111,100])=false:=Zav _ k23;have e24:(o.toList==[45,62])=false:=Zav _ k24;have e25:(o.toList==[102,98,121])=false:=Zav _ k25;rw[h1,h2];clear h1 h2 hA k0 k1 k2 k3 k4 k5 k6 k7 k8 k9 k10 zT k12 k13 k14 k15 k16 k17 k18 k19 k20 k21 k22 k23 k24 k25;go_enter Tryz.func129,Tryz.ntmps129;go_wp2_with fail;go_ret2
 exact⟨rfl,rfl⟩
theorem rresult_any(o:ByteArray)(l0:(o.toList==[105,110,116])=false)(l1:(o.toList==[116,114,117,101])=false)(l2:(o.toList==[102,97,108,115,101])=false)(l3:(o.toList==[110,97,109,101])=false)(k r0 r1 r2 rl:Int)(g m Ha:Nat)(w:World)(hm:m<=1000000000)(d0:w.cell? ⟨g,0,none⟩=some (.int .i64 r0))(dl:w.cell? ⟨g,m,none⟩=some (.int .i64 rl))
  (hif:(o.toList==[105,102])=true->w.cell? ⟨g,1,none⟩=some (.int .i64 r1)/\w.cell? ⟨g,2,none⟩=some (.int .i64 r2)/\m=2):
  Calls Tryz.prog 86 #[.string o,.slice (some ⟨g,0,none⟩) (m+1) Ha] w λr w'=>r=.returned (.int .i64 (Zcb o k r0 r1 r2 (r0==rl)))/\Ybw w w':=by
 have HIF:=Zhd hif;have HF:=Zhd (show ∀n,Ybw w (w.drewN n) from λn=>Zbq (Below.refl _ _) n);clear hif;obtain⟨kw,hkw⟩:∃x,Zcb o k r0 r1 r2 (r0==rl)=x:=⟨_,rfl⟩;rw[hkw];have HK:=Zhd hkw.symm;clear hkw;rcases Ybb (o.toList==[105,102]) with c0|c0
 .obtain⟨d1,d2,hm2⟩:=HIF.out c0;subst hm2;have hrr:r2=rl:=by rw[d2] at dl;cases dl;rfl
  subst hrr;clear dl;rcases Ybb (r0==1) with t0|t0
  .rcases Ybb (r1==r2) with t1|t1
   .have S0:r0=1:=by simpa using t0
    have S1:r1=r2:=by simpa using t1
    subst S0;subst S1;go_enter Tryz.func86,Tryz.ntmps86;go_wp2_with fail;go_quiet (fail)
    go_wp2_with fail;go_ret;exact⟨Zaf (by rw[HK.out];unfold Zcb;simp[l0,l1,l2,l3,c0]),HF.out _⟩
   have S0:r0=1:=by simpa using t0
   have S1:¬r1=r2:=by simpa using t1
   subst S0;go_enter Tryz.func86,Tryz.ntmps86;go_wp2_with fail;go_quiet (fail)
   go_wp2_with fail;go_ret;exact⟨Zaf (by rw[HK.out];unfold Zcb;simp[l0,l1,l2,l3,c0,S1]),HF.out _⟩
  have S0:¬r0=1:=by simpa using t0
  go_enter Tryz.func86,Tryz.ntmps86;go_wp2_with fail;go_quiet (fail)
  go_wp2_with fail;go_ret;exact⟨Zaf (by rw[HK.out];unfold Zcb;simp[l0,l1,l2,l3,c0,S0]),HF.out _⟩
 rcases Ybb (r0==rl) with t|t
 .have S:r0=rl:=by simpa using t
  subst S;rw[t] at HK;rcases Ybb (o.toList==[112,114,101]) with c1|c1
  .have hc:o.toList=[112,114,101]:=by simpa using c1
   exact Zim
  rcases Ybb (o.toList==[45,62]) with c2|c2
  .have hc:o.toList=[45,62]:=by simpa using c2
   exact Zim
  rcases Ybb (o.toList==[102,98,121]) with c3|c3
  .have hc:o.toList=[102,98,121]:=by simpa using c3
   exact Zim
  rcases Ybb (o.toList==[61]) with c4|c4
  .have hc:o.toList=[61]:=by simpa using c4
   exact Zim
  rcases Ybb (o.toList==[60,62]) with c5|c5
  .have hc:o.toList=[60,62]:=by simpa using c5
   exact Zim
  rcases Ybb (o.toList==[110,111,116]) with c6|c6
  .rcases Ybb (r0==1) with u|u
   .have U:r0=1:=by simpa using u
    subst U;have hc:o.toList=[110,111,116]:=by simpa using c6
    exact Zim
   have U:¬r0=1:=by simpa using u
   have hc:o.toList=[110,111,116]:=by simpa using c6
   exact mAyR2
  rcases Ybb (o.toList==[97,110,100]) with c7|c7
  .rcases Ybb (r0==1) with u|u
   .have U:r0=1:=by simpa using u
    subst U;have hc:o.toList=[97,110,100]:=by simpa using c7
    exact Zim
   have U:¬r0=1:=by simpa using u
   have hc:o.toList=[97,110,100]:=by simpa using c7
   exact mAyR2
  rcases Ybb (o.toList==[111,114]) with c8|c8
  .rcases Ybb (r0==1) with u|u
   .have U:r0=1:=by simpa using u
    subst U;have hc:o.toList=[111,114]:=by simpa using c8
    exact Zim
   have U:¬r0=1:=by simpa using u
   have hc:o.toList=[111,114]:=by simpa using c8
   exact mAyR2
  rcases Ybb (o.toList==[120,111,114]) with c9|c9
  .rcases Ybb (r0==1) with u|u
   .have U:r0=1:=by simpa using u
    subst U;have hc:o.toList=[120,111,114]:=by simpa using c9
    exact Zim
   have U:¬r0=1:=by simpa using u
   have hc:o.toList=[120,111,114]:=by simpa using c9
   exact mAyR2
  rcases Ybb (o.toList==[61,62]) with c10|c10
  .rcases Ybb (r0==1) with u|u
   .have U:r0=1:=by simpa using u
    subst U;have hc:o.toList=[61,62]:=by simpa using c10
    exact Zim
   have U:¬r0=1:=by simpa using u
   have hc:o.toList=[61,62]:=by simpa using c10
   exact mAyR2
  rcases Ybb (o.toList==[60]) with c11|c11
  .rcases Ybb (r0==2) with u|u
   .have U:r0=2:=by simpa using u
    subst U;have hc:o.toList=[60]:=by simpa using c11
    exact Zim
   have U:¬r0=2:=by simpa using u
   have hc:o.toList=[60]:=by simpa using c11
   exact mAyR2
  rcases Ybb (o.toList==[60,61]) with c12|c12
  .rcases Ybb (r0==2) with u|u
   .have U:r0=2:=by simpa using u
    subst U;have hc:o.toList=[60,61]:=by simpa using c12
    exact Zim
   have U:¬r0=2:=by simpa using u
   have hc:o.toList=[60,61]:=by simpa using c12
   exact mAyR2
  rcases Ybb (o.toList==[62]) with yy|yy
  .rcases Ybb (r0==2) with u|u
   .have U:r0=2:=by simpa using u
    subst U;have hc:o.toList=[62]:=by simpa using yy
    exact Zim
   have U:¬r0=2:=by simpa using u
   have hc:o.toList=[62]:=by simpa using yy
   exact mAyR2
  rcases Ybb (o.toList==[62,61]) with c14|c14
  .rcases Ybb (r0==2) with u|u
   .have U:r0=2:=by simpa using u
    subst U;have hc:o.toList=[62,61]:=by simpa using c14
    exact Zim
   have U:¬r0=2:=by simpa using u
   have hc:o.toList=[62,61]:=by simpa using c14
   exact mAyR2
  rcases Ybb (r0==2) with u|u
  .have U:r0=2:=by simpa using u
   subst U;go_enter Tryz.func86,Tryz.ntmps86;go_wp2_with fail;go_ret;exact⟨Zaf (by rw[HK.out];unfold Zcb;simp[l0,l1,l2,l3,c0,c1,c2,c3,c4,c5,c6,c7,c8,c9,c10,c11,c12,yy,c14]),Below.refl _ _⟩
  have U:¬r0=2:=by simpa using u
  go_enter Tryz.func86,Tryz.ntmps86;go_wp2_with fail;go_ret;exact⟨Zaf (by rw[HK.out];unfold Zcb;simp[l0,l1,l2,l3,c0,c1,c2,c3,c4,c5,c6,c7,c8,c9,c10,c11,c12,yy,c14,U]),Below.refl _ _⟩
 have S:¬r0=rl:=by simpa using t
 have tn:(r0==rl)=false:=t;rw[t] at HK;go_enter Tryz.func86,Tryz.ntmps86;go_wp2_with fail;go_ret;exact⟨Zaf (by rw[HK.out];unfold Zcb;simp[l0,l1,l2,l3,c0]),Below.refl _ _⟩
end Go.Proofs.YtafapnolamcdmaaGreatDoor
