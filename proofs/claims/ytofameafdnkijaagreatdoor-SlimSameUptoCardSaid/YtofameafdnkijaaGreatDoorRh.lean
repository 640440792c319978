/- A region's operations, one behind the other by a counter: what can be taken is taken. -/
import Derived.Test.YtofameafdnkijaaGreatDoorRg
import Derived.Test.YtofameafdnkijaaGreatDoorAp
import Derived.Test.YtofameafdnkijaaGreatDoorKind
import Derived.Test.YtofameafdnkijaaGreatDoorFormA
import Derived.Test.YtofameafdnkijaaGreatDoorStrA
set_option linter.all false
namespace Go
set_option maxRecDepth 100000
set_option maxHeartbeats 16000000
def Zjb (_i:Nat) (P:Program) (md:Region.Mode) (ops:Array Oper) (Q:Exit→Act→World→Prop) (S T:World→Prop) (m fuel:Nat) (listed:Array Bool) (a:Act) (w:World):Prop:=Zcx P md ops Q S T m fuel listed a w
section
variable {P : Program} {md : Region.Mode} {ops : Array Oper} {Q : Exit → Act → World → Prop} {S T : World → Prop} {m : Nat} {fuel i : Nat} {listed : Array Bool} {a : Act} {w : World}
theorem w3 (i:Nat) (h:Zjb i P md ops Q S T m fuel listed a w):Zcx P md ops Q S T m fuel listed a w:=h
theorem w3e (h:Zcx P md ops Q S T m fuel listed a w):Zjb i P md ops Q S T m fuel listed a w:=h
theorem no3 (h:Zjb (i+1) P md ops Q S T m fuel listed a w):Zjb i P md ops Q S T m fuel listed a w:=h
theorem tk3 {oi:Oper} {v:Value} (hi:ops[i]?=some oi) (hS:S w) (hT:listed.getD m false=false→T w) (hy:∀ w,S w→(execOp a.eval oi).run P w = .ok (.value v) w) (h:Zjb (i+1) P md ops Q S T m fuel (listed.setIfInBounds i true) (a.put oi.dst v) w)
  (hmi:m≠i:=by decide) (hl:listed.getD i false=false:=by kernel_rfl) (hs:Region.noSelect ops=true:=by kernel_rfl) (hf:Region.free md ops listed i=true:=by kernel_rfl) (hr:(Region.ready md ops listed).contains i=true:=by kernel_rfl)
  (hQ:∀ c a w,Q (.panic c) (a.put oi.dst v) w→Q (.panic c) a w:=by exact fun _ _ _ h=>h) (hw:Region.wanted oi (yielded ops a.tmps)=true:=by rfl):Zjb i P md ops Q S T m (fuel+1) listed a w:=
 Zaf hi hmi hl hs hf hr hQ hS hT (.inl ⟨hw,hy⟩) h
theorem sk3 {oi:Oper} (hi:ops[i]?=some oi) (hS:S w) (hT:listed.getD m false=false→T w) (h:Zjb (i+1) P md ops Q S T m fuel (listed.setIfInBounds i true) (a.put oi.dst undef) w)
  (hmi:m≠i:=by decide) (hl:listed.getD i false=false:=by kernel_rfl) (hs:Region.noSelect ops=true:=by kernel_rfl) (hf:Region.free md ops listed i=true:=by kernel_rfl) (hr:(Region.ready md ops listed).contains i=true:=by kernel_rfl)
  (hQ:∀ c a w,Q (.panic c) (a.put oi.dst undef) w→Q (.panic c) a w:=by exact fun _ _ _ h=>h) (hw:Region.wanted oi (yielded ops a.tmps)=false:=by rfl):Zjb i P md ops Q S T m (fuel+1) listed a w:=
 Zaf hi hmi hl hs hf hr hQ hS hT (.inr ⟨hw,rfl⟩) h
end
end Go
/- Walks: flat.Check's closure; what the walk of flat.Check keeps. -/
namespace Go.Proofs.YtofameafdnkijaaGreatDoor
set_option maxRecDepth 100000
set_option maxHeartbeats 16000000
open Go.RowKit Mx
theorem Zbo.le {H H':Kn} (hle:H.le H') (h:Zbo H):Zbo H':=by
 obtain⟨v0,v1,v2,v3,v4,t,fr,h0,h1,h2,h3,h4,h5⟩:=h
 exact⟨v0,v1,v2,v3,v4,t,fr,hle _ _ h0,h1.le hle,h2.le hle,h3.le hle,h4.le hle,h5.le hle⟩
def errV (sp:Nat→Addr):Nat→Value
 | 0 => .nilIface
 | c+1=>esv (sp c)
theorem fresh_any (s:ByteArray) (k:Int) (B bm:Nat) (m:Env Int) (w:World) (hB:w.cell? ⟨B,0,none⟩=some (.map (some bm))) (hM:Zaw (Value.int .i64) w bm m):
  Calls Tryz.prog 137 #[.string s,.int .i64 k,.pointer (some ⟨B,0,none⟩)] w fun r w'=>r = .returned (.bool (Zii m s k))∧Zaw (Value.int .i64) w' bm (m.set s k)∧Zcp w w' bm:=by
 have hrun:=hM.run (P:=Tryz.prog) Tryz.underlying97 Tryz.underlying9 (d:=0) (by kernel_rfl) s true
 simp only [if_true] at hrun
 have hBm:B≠bm:=by
  rintro rfl
  obtain⟨es,c,h1,_⟩:=hM
  simp [World.cell?,h1] at hB
 have HF:=Zhd (show Zii m s k=(!(m s).isSome && !s.toList.isEmpty&&((k==1) || (k==2))) from by
  unfold Zii
  rw [show decide (s.size≠0) = !s.toList.isEmpty from by rw [← dEmp];simp]
  have e1:(k==1)=decide (k=1):=by by_cases h:k=1<;>simp [h]
  have e2:(k==2)=decide (k=2):=by by_cases h:k=2<;>simp [h]
  rw [e1,e2]
  cases m s<;>rfl)
 have HM:=Zhd hM
 clear hM
 generalize (m s).getD 0=v0 at *
 generalize (m s).isSome=is at *
 rcases Bool.eq_false_or_eq_true s.toList.isEmpty with e1 | e1
 all_goals
  rcases Zbf (k==1) (k=1) (by simp) with ⟨t1,S1⟩ | ⟨t1,S1⟩
  all_goals
   rcases Zbf (k==2) (k=2) (by simp) with ⟨t2,S2⟩ | ⟨t2,S2⟩
   all_goals
    cases is
    all_goals
     go_enter Tryz.func137,Tryz.ntmps137
     go_wp2_with (at_mapUpdate;refine Zd2 (Value.int .i64) 97 9 3 Tryz.underlying97 Tryz.underlying9 bm m HM.out _ _ _ rfl rfl rfl s rfl k rfl ?_;intro w1 hM1 hT1)
     go_ret
     exact⟨Zb6 (by rw [HF.out];simp [e1,t1,t2]),hM1,hT1⟩
structure CkW (w wr:World) (v0 v1 v2 v3 v4:Value) (m:Env Int):Prop where
 below:Below w.heap.size w wr
 size:w.heap.size+3≤wr.heap.size
 b0:wr.cell? ⟨w.heap.size,0,none⟩=some v0
 b1:wr.cell? ⟨w.heap.size,1,none⟩=some v1
 b2:wr.cell? ⟨w.heap.size,2,none⟩=some v2
 b3:wr.cell? ⟨w.heap.size,3,none⟩=some v3
 b4:wr.cell? ⟨w.heap.size,4,none⟩=some v4
 ck:wr.cell? ⟨w.heap.size+1+1,0,none⟩=some (.map (some (w.heap.size+1)))
 mp:Zaw (Value.int .i64) wr (w.heap.size+1) m
theorem CkW.next {w wr w':World} {v0 v1 v2 v3 v4:Value} {m:Env Int} (h:CkW w wr v0 v1 v2 v3 v4 m) (hb:Below wr.heap.size wr w'):CkW w w' v0 v1 v2 v3 v4 m:=by
 have hs:=h.size
 have hc:∀ b o,b<wr.heap.size→w'.cell? ⟨b,o,none⟩=wr.cell? ⟨b,o,none⟩:=fun b o hlt=>hb.cell (p:=⟨b,o,none⟩) hlt
 exact⟨h.below.trans (hb.mono (by omega)),Nat.le_trans hs hb.size,by rw [hc _ _ (by omega)];exact h.b0,by rw [hc _ _ (by omega)];exact h.b1,by rw [hc _ _ (by omega)];exact h.b2,by rw [hc _ _ (by omega)];exact h.b3,
  by rw [hc _ _ (by omega)];exact h.b4,by rw [hc _ _ (by omega)];exact h.ck,h.mp.below hb⟩
theorem CkW.alloc {w wr:World} {v0 v1 v2 v3 v4:Value} {m:Env Int} (h:CkW w wr v0 v1 v2 v3 v4 m) (o:Obj):CkW w (wr.alloc o) v0 v1 v2 v3 v4 m:=h.next ((Below.refl _ _).alloc (Nat.le_refl _) o)
theorem CkW.turn {w wr w':World} {v0 v1 v2 v3 v4:Value} {m m':Env Int} (h:CkW w wr v0 v1 v2 v3 v4 m) (ht:Zcp wr w' (w.heap.size+1)) (hm:Zaw (Value.int .i64) w' (w.heap.size+1) m'):CkW w w' v0 v1 v2 v3 v4 m':=by
 have hc:∀ b o,b≠w.heap.size+1→w'.cell? ⟨b,o,none⟩=wr.cell? ⟨b,o,none⟩:=fun b o hlt=>ht.cell (p:=⟨b,o,none⟩) hlt
 exact⟨ht.below h.below (by omega),by rw [ht.size];exact h.size,by rw [hc _ _ (by omega)];exact h.b0,by rw [hc _ _ (by omega)];exact h.b1,by rw [hc _ _ (by omega)];exact h.b2,by rw [hc _ _ (by omega)];exact h.b3,
  by rw [hc _ _ (by omega)];exact h.b4,by rw [hc _ _ (by omega)];exact h.ck,hm⟩
theorem CkW.other {w wr w':World} {v0 v1 v2 v3 v4:Value} {m:Env Int} {c:Nat} (h:CkW w wr v0 v1 v2 v3 v4 m) (ht:Zcp wr w' c) (hc3:w.heap.size+3≤c):CkW w w' v0 v1 v2 v3 v4 m:=by
 have hc:∀ b o,b≠c→w'.cell? ⟨b,o,none⟩=wr.cell? ⟨b,o,none⟩:=fun b o hlt=>ht.cell (p:=⟨b,o,none⟩) hlt
 exact⟨ht.below h.below (by omega),by rw [ht.size];exact h.size,by rw [hc _ _ (by omega)];exact h.b0,by rw [hc _ _ (by omega)];exact h.b1,by rw [hc _ _ (by omega)];exact h.b2,by rw [hc _ _ (by omega)];exact h.b3,
  by rw [hc _ _ (by omega)];exact h.b4,by rw [hc _ _ (by omega)];exact h.ck,ht.map h.mp (by omega)⟩
theorem Zjd (ks:Env Int):∀ e:Ex,Zad ks e=true→okIf e=true:=by
 refine Ex.ind fun o n s l ih h=>?_
 simp only [Zad,Bool.and_eq_true] at h
 simp only [okIf,Bool.and_eq_true,Bool.or_eq_true,decide_eq_true_eq]
 refine⟨?_,?_⟩
 ·by_cases ho:o=oIf
  ·right
   have h1:=h.1.1.1
   subst ho
   have ha:Zcv oIf=some 3:=by decide
   simp only [form,Ex.op,ha,Bool.and_eq_true,Bool.or_eq_true,decide_eq_true_eq,Ex.l] at h1
   rcases h1.1.1 with h | h
   ·omega
   have:=of_decide_eq_true h;omega
  exact .inl ho
 have hl:=(Zbk ks l).1 h.2
 have key:∀ l:List Ex,(∀ e∈l,okIf e=true)→okIfL l=true:=by
  intro l
  induction l with
  | nil=>intro _;rfl
  | cons e l ih2=>intro h;simp only [okIfL,Bool.and_eq_true];exact⟨h e (List.mem_cons_self ..),ih2 fun x hx=>h x (List.mem_cons_of_mem _ hx)⟩
 refine key l fun e he=>?_
 obtain⟨i,hi,rfl⟩:=List.mem_iff_getElem.1 he
 exact ih _ he (hl i hi)
theorem Zi0 {p:Prop} (h:p:=by
 go_wp2_with fail
 go_ret
 exact⟨by rw [HE.out];rfl,HC.out.below⟩):p:=h
theorem errV_zero (sp:Nat→Addr):errV sp 0 = .nilIface:=rfl
theorem Zfd (sp:Nat→Addr) (c:Nat):errV sp (c+1) = .iface 283 (.pointer (some (sp c))):=rfl
theorem outsGo_take {fl outs:List ByteArray} {k:Nat} (hk:k<outs.length) (h:Zcy fl [] outs=Zcy fl (outs.take k) (outs.drop k)):
  Zcy fl [] outs=(fl.contains outs[k] && !(outs.take k).contains outs[k]&&Zcy fl (outs.take (k+1)) (outs.drop (k+1))):=by
 rw [h]
 have:=outs_step fl outs [] k hk
 simpa using this
theorem check_any (H:Kn) (T:Zbo H) (sp:Nat→Addr) (p:Pr) (vi vo vl va vc:Value) (hp:PrP H p vi vo vl va vc) (w:World) (hH:H.In w) (S:Sen5 w sp)
  (hsz:p.ins.length≤1000000∧p.fl.length≤1000000∧p.outs.length≤100000000000∧p.as.length≤1000000∧p.cs.length≤1000000) (hpt:Ex.partsL p.terms≤1000000000):
  Calls Tryz.prog 113 #[.agg #[vi,vo,vl,va,vc]] w fun r w'=>r = .returned (errV sp (Zak p))∧Below w.heap.size w w':=by
 obtain⟨s1,s2,s3,s4,s5⟩:=hsz
 have HP:=Zhd hp
 obtain⟨h1,h2,h3,h4,h5⟩:=hp
 obtain⟨ai,ci,rfl⟩:=h1.len
 obtain⟨ao,co,rfl⟩:=h2.len
 obtain⟨al,cl,rfl⟩:=h3.len
 obtain⟨aa,ca,rfl⟩:=h4.len
 obtain⟨ac,cc,rfl⟩:=h5.len
 have H1:=Zhd h1
 have H2:=Zhd h2
 have H3:=Zhd h3
 have HPT:=Zhd hpt
 clear h1 h2 h3 h4 h5 hpt
 have hmm:=@run_makeMap Tryz.prog
 have hbig:=S.big
 have hzb:∀ u:World,(zeroValue 4).run Tryz.prog u = .ok (.bool false) u:=fun _=>by kernel_rfl
 have HZB:=Zhd hzb
 clear hzb
 go_enter Tryz.func113,Tryz.ntmps113
 go_wp2_with fail
 have hC0:CkW w (((w.alloc (.cells #[.slice ai p.ins.length ci,.slice ao p.outs.length co,.slice al p.fl.length cl,.slice aa p.as.length ca,.slice ac p.cs.length cc] 41)).alloc (.map #[] 0)).alloc (.cells #[.map (some (w.heap.size+1))] 97)) (.slice ai p.ins.length ci) (.slice ao p.outs.length co) (.slice al p.fl.length cl) (.slice aa p.as.length ca) (.slice ac p.cs.length cc) Env.none:=by
  refine⟨(((Below.refl _ _).alloc (Nat.le_refl _) _).alloc (by simp) _).alloc (by simp;omega) _,by simp,?_,?_,?_,?_,?_,?_,?_⟩
  ·rw [World.cell?_alloc_past _ _ _ (by simp;omega),World.cell?_alloc_past _ _ _ (by simp),World.cell?_alloc_new];rfl
  ·rw [World.cell?_alloc_past _ _ _ (by simp;omega),World.cell?_alloc_past _ _ _ (by simp),World.cell?_alloc_new];rfl
  ·rw [World.cell?_alloc_past _ _ _ (by simp;omega),World.cell?_alloc_past _ _ _ (by simp),World.cell?_alloc_new];rfl
  ·rw [World.cell?_alloc_past _ _ _ (by simp;omega),World.cell?_alloc_past _ _ _ (by simp),World.cell?_alloc_new];rfl
  ·rw [World.cell?_alloc_past _ _ _ (by simp;omega),World.cell?_alloc_past _ _ _ (by simp),World.cell?_alloc_new];rfl
  ·have:=World.cell?_alloc_new ((w.alloc (.cells #[.slice ai p.ins.length ci,.slice ao p.outs.length co,.slice al p.fl.length cl,.slice aa p.as.length ca,.slice ac p.cs.length cc] 41)).alloc (.map #[] 0)) #[.map (some (w.heap.size+1))] 97 0
   simpa using this
  have:=(Zaw.made (Value.int .i64) (w.alloc (.cells #[.slice ai p.ins.length ci,.slice ao p.outs.length co,.slice al p.fl.length cl,.slice aa p.as.length ca,.slice ac p.cs.length cc] 41))).alloc (.cells #[.map (some (w.heap.size+1))] 97)
  simpa using this
 generalize ((w.alloc (.cells #[.slice ai p.ins.length ci,.slice ao p.outs.length co,.slice al p.fl.length cl,.slice aa p.as.length ca,.slice ac p.cs.length cc] 41)).alloc (.map #[] 0)).alloc (.cells #[.map (some (w.heap.size+1))] 97)=W0 at *
 have HC0:=Zhd hC0
 clear hC0
 have hzz:=HC0.out.size
 go_loopw [24] (fun i wr=>∃ (k:Nat) (m:Env Int),i = .int .i64 k∧k≤p.ins.length∧CkW w wr (.slice ai p.ins.length ci) (.slice ao p.outs.length co) (.slice al p.fl.length cl) (.slice aa p.as.length ca) (.slice ac p.cs.length cc) m∧Zas Env.none (p.vars.take k)=some m) (fun i _=>p.ins.length - (intOf i).toNat)
 case atStart=>exact⟨0,Env.none,rfl,Nat.zero_le _,HC0.out,rfl⟩
 obtain⟨k,m,rfl,hk,hC,hfr⟩:=hrel
 have HC:=Zhd hC
 have HFR:=Zhd hfr
 have hwr:=hC.size
 clear hC hfr
 by_cases hkl:k<p.ins.length
 ·obtain⟨b,off,rfl,_,c0,c1⟩:=SlV.at H1.out hkl
  have hHr:=hH.below HC.out.below
  have c0:=hHr.cell c0
  have c1:=hHr.cell c1
  simp only [Nat.add_zero] at c0
  have hkv:k<p.vars.length:=by rw [Zgr];omega
  have FS:=Zhd (fresh_step hkv HFR.out)
  have FN:=Zhd (fun h=>check_vars (fresh_none (k:=k+1) (l:=p.vars) h))
  rw [vars_in p k hkl hkv] at FS
  clear hHr
  generalize p.ins[k]=x at *
  obtain⟨xn,xk⟩:=x
  dsimp only at *
  have hCa:=HC.out.alloc (.cells #[.string xn,.int .i64 xk] 158)
  have HCA:=Zhd hCa
  clear hCa
  go_wp2_with fail
  refine (fresh_any xn xk (w.heap.size+1+1) (w.heap.size+1) m _ HCA.out.ck HCA.out.mp).mono ?_
  rintro r w2 ⟨rfl,hM2,hT2⟩
  have HC2:=Zhd (HCA.out.turn hT2 hM2)
  have e2:=(S.below HC2.out.below).c2
  clear hM2 hT2
  cases hb:Zii m xn xk
  ·have HX:=Zhd (FN.out (by rw [FS.out,hb];rfl))
   go_wp2_with fail
   go_ret
   exact⟨by rw [HX.out];rfl,HC2.out.below⟩
  have HX:=Zhd (show Zas Env.none (p.vars.take (k+1))=some (m.set xn xk) from by rw [FS.out,hb];rfl)
  go_wp2_with fail
  go_roundw
  case rel=>exact⟨k+1,_,by go_num,by omega,HC2.out,HX.out⟩
  simp [intOf];omega
 obtain rfl:k=p.ins.length:=by omega
 have hb2:=(HC.out.alloc (.map #[] 0)).b2
 go_wp2_with fail
 have hF0:Zaw Value.bool (wr.alloc (.map #[] 0)) wr.heap.size (Zjt []):=by rw [setL1_nil];exact Zaw.made Value.bool wr
 have hC1:=HC.out.alloc (.map #[] 0)
 clear hb2
 generalize wr.alloc (.map #[] 0)=W1 at *
 generalize wr.heap.size=bf at *
 have HC1:=Zhd hC1
 have HF0:=Zhd hF0
 clear hC1 hF0 HC
 go_loopw [41] (fun i wr=>∃ (k:Nat) (m:Env Int),i = .int .i64 k∧k≤p.fl.length∧CkW w wr (.slice ai p.ins.length ci) (.slice ao p.outs.length co) (.slice al p.fl.length cl) (.slice aa p.as.length ca) (.slice ac p.cs.length cc) m∧Zas Env.none (p.vars.take (p.ins.length+k))=some m∧Zaw Value.bool wr bf (Zjt ((p.fl.take k).map (·.name)))) (fun i _=>p.fl.length - (intOf i).toNat)
 case atStart=>exact⟨0,m,rfl,Nat.zero_le _,HC1.out,HFR.out,HF0.out⟩
 obtain⟨k,m,rfl,hk,hC,hfr,hF⟩:=hrel
 have HC:=Zhd hC
 have HFR:=Zhd hfr
 have HF:=Zhd hF
 have hwr2:=hC.size
 clear hC hfr hF
 by_cases hkl:k<p.fl.length
 ·obtain⟨b,off,rfl,_,hfc⟩:=SlV.at H3.out hkl
  obtain⟨u,c0,c1,c2,c3,c4,c5,hu⟩:=hfc.cells
  obtain⟨ax,cx,rfl⟩:=hu.len
  have hHr:=hH.below HC.out.below
  have c0:=hHr.cell c0
  have c1:=hHr.cell c1
  have c2:=hHr.cell c2
  have c3:=hHr.cell c3
  have c4:=hHr.cell c4
  have c5:=hHr.cell c5
  simp only [Nat.add_zero] at c0
  have hkv:p.ins.length+k<p.vars.length:=by rw [Zgr];omega
  have FS:=Zhd (fresh_step hkv HFR.out)
  have FN:=Zhd (fun h=>check_vars (fresh_none (k:=p.ins.length+k+1) (l:=p.vars) h))
  rw [vars_fl p k hkl hkv] at FS
  have TK:=Zhd (show (p.fl.take (k+1)).map (·.name)=(p.fl.take k).map (·.name)++[p.fl[k].name] from by rw [List.take_succ_eq_append_getElem hkl,List.map_append];rfl)
  clear hHr hu hfc
  generalize p.fl[k]=x at *
  obtain⟨xn,xk,xe⟩:=x
  dsimp only at *
  generalize xe.op=xo at *
  generalize xe.n=xnn at *
  generalize xe.s=xs at *
  generalize xe.l.length=xl at *
  have HCA:=Zhd (HC.out.alloc (.cells #[.string xn,.int .i64 xk,.string xo,.int .i64 xnn,.string xs,.slice ax xl cx] 71))
  go_wp2_with fail
  refine (fresh_any xn xk (w.heap.size+1+1) (w.heap.size+1) m _ HCA.out.ck HCA.out.mp).mono ?_
  rintro r w2 ⟨rfl,hM2,hT2⟩
  have HC2:=Zhd (HCA.out.turn hT2 hM2)
  have HF2:=Zhd (hT2.map (HF.out.alloc _) (show bf≠w.heap.size+1 by omega))
  have e2:=(S.below HC2.out.below).c2
  have q0:w2.cell? ⟨wr.heap.size,0,none⟩=some (.string xn):=by rw [hT2.cell (p:=⟨wr.heap.size,0,none⟩) (show wr.heap.size≠w.heap.size+1 by omega),World.cell?_alloc_new];rfl
  clear hM2 hT2
  cases hb:Zii m xn xk
  ·have HX:=Zhd (FN.out (by rw [FS.out,hb];rfl))
   go_wp2_with fail
   go_ret
   exact⟨by rw [HX.out];rfl,HC2.out.below⟩
  have HX:=Zhd (show Zas Env.none (p.vars.take (p.ins.length+(k+1)))=some (m.set xn xk) from by rw [← Nat.add_assoc,FS.out,hb];rfl)
  go_wp2_with (at_mapUpdate;refine Zd2 Value.bool 102 9 4 Tryz.underlying102 Tryz.underlying9 bf _ HF2.out _ _ _ rfl rfl rfl xn rfl true rfl ?_;intro w3 hF3 hT3)
  have HC3:=Zhd (HC2.out.other hT3 (by omega))
  go_roundw
  case rel=>exact⟨k+1,_,by go_num,by omega,HC3.out,HX.out,by rw [TK.out,← setL1_snoc];exact hF3⟩
  simp [intOf];omega
 obtain rfl:k=p.fl.length:=by omega
 have KS:=Zhd (show Zas Env.none p.vars=some m from by rw [← HFR.out,← Zgr,List.take_length])
 have hF:=HF.out
 rw [List.take_length] at hF
 have hb1:=(HC.out.alloc (.map #[] 0)).b1
 go_wp2_with fail
 have hO0:Zaw Value.bool (wr.alloc (.map #[] 0)) wr.heap.size (Zjt []):=by rw [setL1_nil];exact Zaw.made Value.bool wr
 have hC1:=HC.out.alloc (.map #[] 0)
 have hF1:=hF.alloc (.map #[] 0)
 have hbo:bf<wr.heap.size:=hF.lt
 clear hb1 hF HF HFR HF0 HC1
 generalize wr.alloc (.map #[] 0)=W2 at *
 generalize wr.heap.size=bo at *
 have HC1:=Zhd hC1
 have HF1:=Zhd hF1
 have HO0:=Zhd hO0
 clear hC1 hF1 hO0 HC
 go_loopw [61] (fun i wr=>∃ (k:Nat),i = .int .i64 k∧k≤p.outs.length∧CkW w wr (.slice ai p.ins.length ci) (.slice ao p.outs.length co) (.slice al p.fl.length cl) (.slice aa p.as.length ca) (.slice ac p.cs.length cc) m∧Zaw Value.bool wr bf (Zjt (p.fl.map (·.name)))∧Zaw Value.bool wr bo (Zjt (p.outs.take k))∧Zcy (p.fl.map (·.name)) [] p.outs=Zcy (p.fl.map (·.name)) (p.outs.take k) (p.outs.drop k)) (fun i _=>p.outs.length - (intOf i).toNat)
 case atStart=>exact⟨0,rfl,Nat.zero_le _,HC1.out,HF1.out,HO0.out,by simp⟩
 obtain⟨k,rfl,hk,hC,hF,hO,hgo⟩:=hrel
 have HC:=Zhd hC
 have HF:=Zhd hF
 have HO:=Zhd hO
 have HGO:=Zhd hgo
 have hwr3:=hC.size
 clear hC hF hO hgo
 by_cases hkl:k<p.outs.length
 ·obtain⟨b,off,rfl,_,c0⟩:=SlV.at H2.out hkl
  have hHr:=hH.below HC.out.below
  have c0:=hHr.cell c0
  simp only [Nat.add_zero,Nat.mul_one] at c0
  have HX:=Zhd (outsGo_take hkl HGO.out)
  have TK:=Zhd (show p.outs.take (k+1)=p.outs.take k++[p.outs[k]] from List.take_succ_eq_append_getElem hkl)
  have r1:=HF.out.run (P:=Tryz.prog) Tryz.underlying102 Tryz.underlying9 (d:=false) (HZB.out _) p.outs[k] false
  have r2:=HO.out.run (P:=Tryz.prog) Tryz.underlying102 Tryz.underlying9 (d:=false) (HZB.out _) p.outs[k] false
  simp only [Bool.false_eq_true,if_false,setL1_get] at r1 r2
  have e2:=(S.below HC.out.below).c2
  clear hHr
  generalize p.outs[k]=s at *
  generalize (p.fl.map (·.name)).contains s=q1 at *
  generalize (p.outs.take k).contains s=q2 at *
  rcases (show q1=false∨q1=true∧q2=true∨q1=true∧q2=false from by cases q1<;>cases q2<;>simp) with rfl | ⟨rfl,rfl⟩ | ⟨rfl,rfl⟩
  ·have HE:=Zhd (check_outs KS.out (by rw [HX.out];simp))
   exact Zi0
  ·have HE:=Zhd (check_outs KS.out (by rw [HX.out];simp))
   exact Zi0
  have HE:=Zhd (show Zcy (p.fl.map (·.name)) [] p.outs=Zcy (p.fl.map (·.name)) (p.outs.take (k+1)) (p.outs.drop (k+1)) from by rw [HX.out];simp)
  go_wp2_with (at_mapUpdate;refine Zd2 Value.bool 102 9 4 Tryz.underlying102 Tryz.underlying9 bo _ HO.out _ _ _ rfl rfl rfl s rfl true rfl ?_;intro w3 hO3 hT3)
  have HC3:=Zhd (HC.out.other hT3 (by omega))
  have HF3:=Zhd (hT3.map HF.out (by omega))
  go_roundw
  case rel=>exact⟨k+1,by go_num,by omega,HC3.out,HF3.out,by rw [TK.out,← setL1_snoc];exact hO3,HE.out⟩
  simp [intOf];omega
 obtain rfl:k=p.outs.length:=by omega
 have OS:=Zhd (show Zcy (p.fl.map (·.name)) [] p.outs=true from by rw [HGO.out,List.drop_length];rfl)
 obtain⟨d0,d1,d2,d3,d4⟩:=(show _∧_∧_∧_∧_ from⟨HC.out.b0,HC.out.b1,HC.out.b2,HC.out.b3,HC.out.b4⟩)
 clear HF HO HGO HF1 HO0 HC1
 go_wp2_with fail
 refine (terms_any H p _ _ _ _ _ HP.out wr (hH.below HC.out.below) ⟨s2,s4,s5⟩).mono ?_
 rintro r w4 ⟨v4,rfl,hx4,hb4⟩
 obtain⟨at_,ct,rfl⟩:=hx4.len
 have HX4:=Zhd hx4
 have HC4:=Zhd (HC.out.next hb4)
 have T4:=Zhd (T.le (Zbl (hH.below HC4.out.below)))
 have htl:p.terms.length≤1000000000:=Nat.le_trans (Zgw _) HPT.out
 clear hx4 d0 d1 d2 d3 d4 HC
 go_wp2_with fail
 go_loopw [13,81] (fun c i wr=>∃ (k:Nat),i = .int .i64 k∧k≤p.terms.length∧c = .int .i64 (Ex.partsL (p.terms.take k))∧CkW w wr (.slice ai p.ins.length ci) (.slice ao p.outs.length co) (.slice al p.fl.length cl) (.slice aa p.as.length ca) (.slice ac p.cs.length cc) m∧Below w4.heap.size w4 wr∧(∀ i (h:i<p.terms.length),i<k→Zad m p.terms[i]=true)) (fun _ i _=>p.terms.length - (intOf i).toNat)
 case atStart=>exact⟨0,rfl,Nat.zero_le _,rfl,HC4.out,Below.refl _ _,fun i _ h=>by omega⟩
 obtain⟨k,rfl,hk,rfl,hC,hb,hfm⟩:=hrel
 have HC:=Zhd hC
 have HB:=Zhd hb
 have HFM:=Zhd hfm
 have hple:=Zel p.terms k
 have hpt:=HPT.out
 clear hC hb hfm
 by_cases hkl:k<p.terms.length
 ·obtain⟨b,off,ax,cx,rfl,c0,c1,c2,c3,hx⟩:=ExsV.at HX4.out hkl
  have hin:=Zbt HB.out
  have c0:=hin.cell c0
  have c1:=hin.cell c1
  have c2:=hin.cell c2
  have c3:=hin.cell c3
  have PT:=Zhd (Zek p.terms k hkl)
  have hp2:=Zel p.terms (k+1)
  rw [PT.out] at hp2
  have FB:=Zhd fun (h:Zad m p.terms[k]=false)=>(show Zak p=3 from check_form KS.out OS.out (by
   cases hq:Zck m p.terms
   ·rfl
   have:=(Zbk m p.terms).1 hq k hkl;rw [h] at this;cases this))
  have FG:=Zhd fun (h:Zad m p.terms[k]=true) i (hi:i<p.terms.length) (hik:i<k+1)=>(show Zad m p.terms[i]=true from by
   by_cases hik':i<k
   ·exact HFM.out i hi hik'
   obtain rfl:i=k:=by omega
   exact h)
  have HCA:=Zhd (HC.out.alloc (.cells #[.string p.terms[k].op,.int .i64 p.terms[k].n,.string p.terms[k].s,.slice ax p.terms[k].l.length cx] 69))
  generalize p.terms[k]=x at *
  have hck:=HCA.out.ck
  go_wp2_with fail
  refine (formAll_any (Zai w4) T4.out m (w.heap.size+1) x _ hx _ (hin.alloc _) HCA.out.mp).mono ?_
  rintro r w5 ⟨rfl,hb5⟩
  have HC5:=Zhd (HCA.out.next hb5)
  have HB5:=Zhd ((HB.out.alloc HB.out.size _).trans (hb5.mono (by have:=HB.out.size;simp;omega)))
  have e2:=(S.below HC5.out.below).c2
  have hq:∀ i,w5.cell? ⟨wr.heap.size,i,none⟩=(#[.string x.op,.int .i64 x.n,.string x.s,.slice ax x.l.length cx]:Array Value)[i]?:=fun i=>by rw [hb5.cell (p:=⟨wr.heap.size,i,none⟩) (by simp),World.cell?_alloc_new]
  have q0:=hq 0
  have q1:=hq 1
  have q2:=hq 2
  have q3:=hq 3
  simp at q0 q1 q2 q3
  clear hq hck
  cases hfx:Zad m x
  ·have HE:=Zhd (FB.out hfx)
   clear hfx
   go_wp2_with fail
   go_ret
   exact⟨by rw [HE.out];rfl,HC5.out.below⟩
  have HE:=Zhd (FG.out hfx)
  clear hfx
  go_wp2_with fail
  refine (parts_any (Zai w4) x _ hx (by omega) w5 (Zbt HB5.out)).mono ?_
  rintro r w6 ⟨rfl,hb6⟩
  have HC6:=Zhd (HC5.out.next hb6)
  have HB6:=Zhd (HB5.out.trans (hb6.mono HB5.out.size))
  generalize x.parts=xp at *
  go_wp2_with fail
  go_roundw
  case rel=>exact⟨k+1,by go_num,by omega,by rw [PT.out];go_num,HC6.out,HB6.out,HE.out⟩
  simp [intOf];omega
 obtain rfl:k=p.terms.length:=by omega
 have FS:=Zhd ((Zbk m p.terms).2 fun i hi=>HFM.out i hi hi)
 rw [List.take_length] at hple ⊢
 obtain⟨d0,d1,d2,d3,d4⟩:=(show _∧_∧_∧_∧_ from⟨HC.out.b0,HC.out.b1,HC.out.b2,HC.out.b3,HC.out.b4⟩)
 have e1:=(S.below HC.out.below).c1
 clear HX4 T4 HC4 HFM
 rcases (show (400<p.fl.length∨¬ 400<p.fl.length∧4000<Ex.partsL p.terms∨¬ 400<p.fl.length∧¬ 4000<Ex.partsL p.terms∧30<p.ins.length)∨(¬ 400<p.fl.length∧¬ 4000<Ex.partsL p.terms∧¬ 30<p.ins.length) from by omega) with hx | ⟨g1,g2,g3⟩
 ·have HE:=Zhd (check_big KS.out OS.out FS.out (by omega))
  rcases hx with g1 | ⟨g1,g2⟩ | ⟨g1,g2,g3⟩
  ·have g1':(400:Int)<p.fl.length:=by omega
   exact Zi0
  ·have g1':¬ (400:Int)<p.fl.length:=by omega
   have g2':(4000:Int)<Ex.partsL p.terms:=by omega
   exact Zi0
  have g1':¬ (400:Int)<p.fl.length:=by omega
  have g2':¬ (4000:Int)<Ex.partsL p.terms:=by omega
  have g3':(30:Int)<p.ins.length:=by omega
  exact Zi0
 have g1':¬ (400:Int)<p.fl.length:=by omega
 have g2':¬ (4000:Int)<Ex.partsL p.terms:=by omega
 have g3':¬ (30:Int)<p.ins.length:=by omega
 have HSM:=Zhd (show ¬ (p.fl.length > 400∨Ex.partsL p.terms > 4000∨p.ins.length > 30) from by omega)
 have hpp:Ex.partsL p.terms≤4000:=by omega
 go_wp2_with fail
 refine (terms_any H p _ _ _ _ _ HP.out wr (hH.below HC.out.below) ⟨s2,s4,s5⟩).mono ?_
 rintro r w5 ⟨v5,rfl,hx5,hb5⟩
 obtain⟨at5,ct5,rfl⟩:=hx5.len
 have HX5:=Zhd hx5
 have HC5:=Zhd (HC.out.next hb5)
 clear hx5 d0 d1 d2 d3 d4 HC HB e1 g1 g2 g3 g1' g2' g3'
 go_wp2_with fail
 go_loopw [113] (fun i wr=>∃ (k:Nat),i = .int .i64 k∧k≤p.terms.length∧CkW w wr (.slice ai p.ins.length ci) (.slice ao p.outs.length co) (.slice al p.fl.length cl) (.slice aa p.as.length ca) (.slice ac p.cs.length cc) m∧Below w5.heap.size w5 wr∧(∀ i (h:i<p.terms.length),i<k→Zam m p.terms[i]=(p.fl.map (·.kind)).getD i 1)) (fun i _=>p.terms.length - (intOf i).toNat)
 case atStart=>exact⟨0,rfl,Nat.zero_le _,HC5.out,Below.refl _ _,fun i _ h=>by omega⟩
 obtain⟨k,rfl,hk,hC,hb,hkn⟩:=hrel
 have HC:=Zhd hC
 have HB:=Zhd hb
 have HKN:=Zhd hkn
 clear hC hb hkn
 by_cases hkl:k<p.terms.length
 ·obtain⟨b,off,ax,cx,rfl,c0,c1,c2,c3,hx⟩:=ExsV.at HX5.out hkl
  have hin:=Zbt HB.out
  have c0:=hin.cell c0
  have c1:=hin.cell c1
  have c2:=hin.cell c2
  have c3:=hin.cell c3
  have hokf:=(Zbk m p.terms).1 FS.out k hkl
  have hxp:p.terms[k].parts≤4000:=Nat.le_trans (Zc3 (List.getElem_mem hkl)) hpp
  have KB:=Zhd fun (h:Zam m p.terms[k]≠(p.fl.map (·.kind)).getD k 1)=>(show Zak p=5 from check_kind KS.out OS.out FS.out HSM.out (by
   cases hq:Zda m (p.fl.map (·.kind)) p.terms
   ·rfl
   exact absurd ((Zep m _ p.terms).1 hq k hkl) h))
  have KG:=Zhd fun (h:Zam m p.terms[k]=(p.fl.map (·.kind)).getD k 1) i (hi:i<p.terms.length) (hik:i<k+1)=>(show Zam m p.terms[i]=(p.fl.map (·.kind)).getD i 1 from by
   by_cases hik':i<k
   ·exact HKN.out i hi hik'
   obtain rfl:i=k:=by omega
   exact h)
  have HCA:=Zhd (HC.out.alloc (.cells #[.string p.terms[k].op,.int .i64 p.terms[k].n,.string p.terms[k].s,.slice ax p.terms[k].l.length cx] 69))
  have HOK:=Zhd (Zjd m _ hokf)
  generalize p.terms[k]=x at *
  have d2:=HCA.out.b2
  have hck:=HCA.out.ck
  clear hokf
  by_cases hkf:k<p.fl.length
  ·obtain⟨bl,ol,rfl,_,f0,f1,_⟩:=SlV.at H3.out hkf
   have f1:=(hH.below HCA.out.below).cell f1
   have HW:=Zhd (show (p.fl.map (·.kind)).getD k 1=p.fl[k].kind from by simp [List.getD_eq_getElem?_getD,hkf])
   clear f0
   generalize p.fl[k].kind=want at *
   go_wp2_with fail
   refine (Zj2 x HOK.out (by omega) (Zai w5) _ hx m (w.heap.size+1) _ (hin.alloc _) HCA.out.mp).mono ?_
   rintro r w6 ⟨rfl,hb6⟩
   have HC6:=Zhd (HCA.out.next hb6)
   have HB6:=Zhd ((HB.out.alloc HB.out.size _).trans (hb6.mono (by have:=HB.out.size;simp;omega)))
   have e4:=(S.below HC6.out.below).c4
   rw [HW.out] at KB KG
   generalize Zam m x=kx at *
   rcases Zbf (kx != want) (kx≠want) (by simp) with ⟨t1,S1⟩ | ⟨t1,S1⟩
   ·have HE:=Zhd (KB.out S1.out)
    go_wp2_with fail
    go_ret
    exact⟨by rw [HE.out];rfl,HC6.out.below⟩
   have HE:=Zhd (KG.out (by simpa using S1.out))
   go_wp2_with fail
   go_roundw
   case rel=>exact⟨k+1,by go_num,by omega,HC6.out,HB6.out,HE.out⟩
   simp [intOf];omega
  have HW:=Zhd (show (p.fl.map (·.kind)).getD k 1=1 from by simp [List.getD_eq_getElem?_getD,hkf])
  go_wp2_with fail
  refine (Zj2 x HOK.out (by omega) (Zai w5) _ hx m (w.heap.size+1) _ (hin.alloc _) HCA.out.mp).mono ?_
  rintro r w6 ⟨rfl,hb6⟩
  have HC6:=Zhd (HCA.out.next hb6)
  have HB6:=Zhd ((HB.out.alloc HB.out.size _).trans (hb6.mono (by have:=HB.out.size;simp;omega)))
  have e4:=(S.below HC6.out.below).c4
  rw [HW.out] at KB KG
  generalize Zam m x=kx at *
  rcases Zbf (kx != 1) (kx≠1) (by simp) with ⟨t1,S1⟩ | ⟨t1,S1⟩
  ·have HE:=Zhd (KB.out S1.out)
   go_wp2_with fail
   go_ret
   exact⟨by rw [HE.out];rfl,HC6.out.below⟩
  have HE:=Zhd (KG.out (by simpa using S1.out))
  go_wp2_with fail
  go_roundw
  case rel=>exact⟨k+1,by go_num,by omega,HC6.out,HB6.out,HE.out⟩
  simp [intOf];omega
 have HE:=Zhd (check_ok KS.out OS.out FS.out HSM.out ((Zep m _ p.terms).2 fun i hi=>HKN.out i hi (by omega)))
 exact Zi0
end Go.Proofs.YtofameafdnkijaaGreatDoor
