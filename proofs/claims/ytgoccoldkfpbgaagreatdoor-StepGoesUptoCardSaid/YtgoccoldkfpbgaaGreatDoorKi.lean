/- Walks: flat.Program.Kinds. -/
import Derived.Test.YtgoccoldkfpbgaaGreatDoorRg
import Derived.Test.YtgoccoldkfpbgaaGreatDoorCpM
import Derived.Test.YtgoccoldkfpbgaaGreatDoorTkM
import Derived.Test.YtgoccoldkfpbgaaGreatDoorRunM
import Derived.Test.YtgoccoldkfpbgaaGreatDoorRh
import Derived.Test.YtgoccoldkfpbgaaGreatDoorTe
import Derived.Test.YtgoccoldkfpbgaaGreatDoorTeM
import Derived.Test.YtgoccoldkfpbgaaGreatDoorFlC
set_option linter.all false
namespace Go.Proofs.YtgoccoldkfpbgaaGreatDoor
set_option maxRecDepth 100000
set_option maxHeartbeats 16000000
open Go.RowKit Mx
theorem kinds_any (H:Kn) (p:Pr) (vi vo vl va vc:Value) (hp:PrP H p vi vo vl va vc) (hn:p.ins.length≤1000000∧p.fl.length≤1000000) (w:World) (hH:H.In w):
  Calls Tryz.prog 55 #[.agg #[vi,vo,vl,va,vc]] w fun r w'=>∃ b,r = .returned (.map (some b))∧Zaw (Value.int .i64) w' b (kindsM p)∧w.heap.size≤b∧Below w.heap.size w w':=by
 obtain⟨hn1,hn2⟩:=hn
 obtain⟨h1,h2,h3,h4,h5⟩:=hp
 obtain⟨ai,ci,rfl⟩:=h1.len
 obtain⟨ao,co,rfl⟩:=h2.len
 obtain⟨al,cl,rfl⟩:=h3.len
 obtain⟨aa,ca,rfl⟩:=h4.len
 obtain⟨ac,cc,rfl⟩:=h5.len
 have H1:=Zhd h1
 have H3:=Zhd h3
 clear h1 h2 h3 h4 h5
 have hmm:=@run_makeMap Tryz.prog
 go_enter Tryz.func55,Tryz.ntmps55
 go_wp2_with fail
 have hq:∀ i,((w.alloc (.cells #[.slice ai p.ins.length ci,.slice ao p.outs.length co,.slice al p.fl.length cl,.slice aa p.as.length ca,.slice ac p.cs.length cc] 41)).alloc (.map #[] 0)).cell? ⟨w.heap.size,i,none⟩=(#[.slice ai p.ins.length ci,.slice ao p.outs.length co,.slice al p.fl.length cl,.slice aa p.as.length ca,.slice ac p.cs.length cc]:Array Value)[i]?:=fun i=>by
  rw [World.cell?_alloc_past _ _ _ (by simp),World.cell?_alloc_new]
 have hM0:Zaw (Value.int .i64) ((w.alloc (.cells #[.slice ai p.ins.length ci,.slice ao p.outs.length co,.slice al p.fl.length cl,.slice aa p.as.length ca,.slice ac p.cs.length cc] 41)).alloc (.map #[] 0)) (w.heap.size+1) Env.none:=by
  have:=Zaw.made (Value.int .i64) (w.alloc (.cells #[.slice ai p.ins.length ci,.slice ao p.outs.length co,.slice al p.fl.length cl,.slice aa p.as.length ca,.slice ac p.cs.length cc] 41))
  simpa using this
 have hb0:Below w.heap.size w ((w.alloc (.cells #[.slice ai p.ins.length ci,.slice ao p.outs.length co,.slice al p.fl.length cl,.slice aa p.as.length ca,.slice ac p.cs.length cc] 41)).alloc (.map #[] 0)):=((Below.refl _ _).alloc (Nat.le_refl _) _).alloc (by simp) _
 have hz0:((w.alloc (.cells #[.slice ai p.ins.length ci,.slice ao p.outs.length co,.slice al p.fl.length cl,.slice aa p.as.length ca,.slice ac p.cs.length cc] 41)).alloc (.map #[] 0)).heap.size=w.heap.size+2:=by simp
 generalize (w.alloc (.cells #[.slice ai p.ins.length ci,.slice ao p.outs.length co,.slice al p.fl.length cl,.slice aa p.as.length ca,.slice ac p.cs.length cc] 41)).alloc (.map #[] 0)=W0 at *
 have hq0:=hq 0
 have hq2:=hq 2
 have HQ2:=Zhd (show W0.cell? ⟨w.heap.size,2,none⟩=some (.slice al p.fl.length cl) from hq2)
 have HM0:=Zhd hM0
 have HB0:=Zhd hb0
 have hz0':w.heap.size+2≤W0.heap.size:=by omega
 have hq0:W0.cell? ⟨w.heap.size,0,none⟩=some (.slice ai p.ins.length ci):=hq0
 clear hq hM0 hb0 hz0 hq2
 go_wp2_with fail
 clear hq0
 go_loopw [12] (fun i wr=>∃ k:Nat,i = .int .i64 k∧k≤p.ins.length∧Below w.heap.size w wr∧w.heap.size+2≤wr.heap.size∧wr.cell? ⟨w.heap.size,2,none⟩=some (.slice al p.fl.length cl)∧Zaw (Value.int .i64) wr (w.heap.size+1) (Zcy Env.none (p.vars.take k))) (fun i _=>p.ins.length - (intOf i).toNat)
 case atStart=>exact⟨0,rfl,Nat.zero_le _,HB0.out,hz0',HQ2.out,HM0.out⟩
 obtain⟨k,rfl,hk,hb,hz,hq,hM⟩:=hrel
 have HB:=Zhd hb
 have HM:=Zhd hM
 have HQr:=Zhd hq
 clear hb hM hq
 by_cases hkl:k<p.ins.length
 ·obtain⟨b,off,rfl,_,c0,c1⟩:=SlV.at H1.out hkl
  have hHr:=hH.below HB.out
  have c0:=hHr.cell c0
  have c1:=hHr.cell c1
  simp only [Nat.add_zero] at c0
  have TK:=Zhd (kinds_in p k hkl)
  clear hHr
  generalize p.ins[k]=x at *
  obtain⟨xn,xk⟩:=x
  dsimp only at *
  have hMa:=HM.out.alloc (.cells #[.string xn,.int .i64 xk] 133)
  have HMA:=Zhd hMa
  clear hMa
  go_wp2_with (at_mapUpdate;refine Zff (Value.int .i64) 125 9 3 Tryz.underlying125 Tryz.underlying9 (w.heap.size+1) _ HMA.out _ _ _ rfl rfl rfl xn rfl xk rfl ?_;intro w3 hM3 hT3)
  have HB3:=Zhd (hT3.below (HB.out.alloc HB.out.size (.cells #[.string xn,.int .i64 xk] 133)) (Nat.le_succ _))
  have HS3:=Zhd hT3.size
  have HQ3:=Zhd (show w3.cell? ⟨w.heap.size,2,none⟩=some (.slice al p.fl.length cl) from by rw [hT3.cell (p:=⟨w.heap.size,2,none⟩) (show w.heap.size≠w.heap.size+1 by omega),World.cell?_alloc_past _ _ _ (by omega)];exact HQr.out)
  go_roundw
  case rel=>exact⟨k+1,by go_num,by omega,HB3.out,by rw [HS3.out];simp;omega,HQ3.out,by rw [TK.out];exact hM3⟩
  simp [intOf];omega
 obtain rfl:k=p.ins.length:=by omega
 have hqr:=HQr.out
 go_wp2_with fail
 clear hqr
 go_loopw [25] (fun i wr=>∃ k:Nat,i = .int .i64 k∧k≤p.fl.length∧Below w.heap.size w wr∧w.heap.size+2≤wr.heap.size∧Zaw (Value.int .i64) wr (w.heap.size+1) (Zcy Env.none (p.vars.take (p.ins.length+k)))) (fun i _=>p.fl.length - (intOf i).toNat)
 case atStart=>exact⟨0,rfl,Nat.zero_le _,HB.out,hz,HM.out⟩
 clear HB HM HQr hz
 obtain⟨k,rfl,hk,hb,hz,hM⟩:=hrel
 have HB:=Zhd hb
 have HM:=Zhd hM
 clear hb hM
 by_cases hkl:k<p.fl.length
 ·obtain⟨b,off,rfl,_,hfc⟩:=SlV.at H3.out hkl
  obtain⟨u,c0,c1,c2,c3,c4,c5,hu⟩:=hfc.cells
  obtain⟨ax,cx,rfl⟩:=hu.len
  have hHr:=hH.below HB.out
  have c0:=hHr.cell c0
  have c1:=hHr.cell c1
  have c2:=hHr.cell c2
  have c3:=hHr.cell c3
  have c4:=hHr.cell c4
  have c5:=hHr.cell c5
  simp only [Nat.add_zero] at c0
  have TK:=Zhd (kinds_fl p k hkl)
  clear hHr hu hfc
  generalize p.fl[k]=x at *
  obtain⟨xn,xk,xe⟩:=x
  dsimp only at *
  generalize xe.op=xo at *
  generalize xe.n=xnn at *
  generalize xe.s=xs at *
  generalize xe.l.length=xl at *
  have hMa:=HM.out.alloc (.cells #[.string xn,.int .i64 xk,.string xo,.int .i64 xnn,.string xs,.slice ax xl cx] 100)
  have HMA:=Zhd hMa
  clear hMa
  go_wp2_with (at_mapUpdate;refine Zff (Value.int .i64) 125 9 3 Tryz.underlying125 Tryz.underlying9 (w.heap.size+1) _ HMA.out _ _ _ rfl rfl rfl xn rfl xk rfl ?_;intro w3 hM3 hT3)
  have HB3:=Zhd (hT3.below (HB.out.alloc HB.out.size (.cells #[.string xn,.int .i64 xk,.string xo,.int .i64 xnn,.string xs,.slice ax xl cx] 100)) (Nat.le_succ _))
  have HS3:=Zhd hT3.size
  go_roundw
  case rel=>exact⟨k+1,by go_num,by omega,HB3.out,by rw [HS3.out];simp;omega,by rw [TK.out];exact hM3⟩
  simp [intOf];omega
 obtain rfl:k=p.fl.length:=by omega
 go_wp2_with fail
 go_ret
 refine⟨w.heap.size+1,rfl,?_,Nat.le_succ _,HB.out⟩
 rw [← kinds_end]
 exact HM.out
theorem Tryz.infoVlN:(Tryz.prog.info? 75).map (fun i=>(i.zero,i.size,i.bytes))=some (some (.agg #[.int .i64 0,.int .i64 0]),2,16):=by kernel_rfl
theorem vls_news {K:Kn} {W:World} (hK:K.In W) {l:List Vl} {b off c:Nat} (h:VlsV K l (.slice (some ⟨b,off,none⟩) l.length c)):∀ j u,(vlX l)[j]?=some u→W.cell? ((⟨b,off,none⟩:Addr).add j)=some u:=fun j u hu=>by
 rw [Zc4]
 have hj:j<(vlX l).length:=by
  rcases Nat.lt_or_ge j (vlX l).length with h1 | h1
  ·exact h1
  rw [List.getElem?_eq_none h1] at hu;cases hu
 rw [Zip] at hj
 have hi:j / 2<l.length:=by omega
 obtain⟨b2,off2,e2,d0,d1⟩:=Zdr h hi
 cases e2
 obtain⟨x0,x1⟩:=Zeb l (j / 2) hi
 rcases Nat.mod_two_eq_zero_or_one j with hm | hm
 ·have hj2:2 * (j / 2)=j:=by omega
  rw [hj2,hu] at x0
  rw [Nat.mul_comm,hj2] at d0
  rw [hK.cell d0]
  exact x0.symm
 have hj2:2 * (j / 2)+1=j:=by omega
 rw [hj2,hu] at x1
 rw [show off+j / 2 * 2+1=off+j from by omega] at d1
 rw [hK.cell d1]
 exact x1.symm
theorem vlX_one (l:List Vl):∀ u∈vlX l,u.oneCell'=true:=fun u hu=>by
 obtain⟨x,_,hx⟩:=List.mem_flatMap.1 hu
 simp only [List.mem_cons,List.not_mem_nil,or_false] at hx
 rcases hx with rfl | rfl<;>rfl
theorem run_app_vls {K:Kn} {W:World} (hK:K.In W) {l:List Vl} {a:Option Addr} {c:Nat} (h:VlsV K l (.slice a l.length c)) {base n:Nat} {v:Value} {xs:List Value} (hown:W.ownsRow base 75 2 v n xs) (hbase:base≤W.heap.size) (hl:n+l.length≤1000000000):
  ∃ v' W',(∀ ty,(Builtin.append_ #[57,57] ty #[v,.slice a l.length c]).run Tryz.prog W = .ok v' W')∧W'.ownsRow base 75 2 v' (n+l.length) (xs++vlX l)∧W.grownBy W' v.ownBlock:=by
 obtain⟨i1,hi1,hy0,hy1,hy2⟩:=info_parts Tryz.infoVlN
 by_cases h0:l=[]
 ·subst h0
  exact⟨v,W,fun ty=>Zbq 57 75 i1 Tryz.underlying57 hi1 hown a c ty,by simpa [vlX] using hown,⟨rfl,rfl,rfl,Nat.le_refl _,fun _ _ _=>rfl⟩⟩
 have hlen:0<l.length:=List.length_pos_iff.2 h0
 obtain⟨b,off,he,_⟩:=Zdr h hlen
 subst he
 have hrun:=fun ty=>run_append_lies (P:=Tryz.prog) W 57 ty base 75 i1 _ 2 16 Tryz.underlying57 hi1 hy0 hy1 hy2 rfl (by omega) v n xs hown ⟨b,off,none⟩ l.length c (vlX l) (by rw [Zip];omega) (vls_news hK h) (vlX_one l) hlen (by unfold maxLen;omega) (by omega) hbase W.heap.size rfl
 obtain⟨g,cap',W',h1,h2,h3,h4,h5⟩:=hrun 0
 exact⟨_,W',fun ty=>h1,h2,h3⟩
theorem InsV.at {H:Kn} {l:List (List Vl)} {a:Option Addr} {n c:Nat} (h:InsV H l (.slice a n c)) {k:Nat} (hk:k<l.length):∃ b off a2 c2,a=some ⟨b,off,none⟩∧H.cell b (off+k)=some (.slice a2 l[k].length c2)∧VlsV H l[k] (.slice a2 l[k].length c2):=by
 obtain⟨b,off,haf,_,v,c0,hv⟩:=SlV.at h hk
 have c0:H.cell b (off+k * 1+0)=some v:=c0
 simp only [Nat.mul_one,Nat.add_zero] at c0
 obtain⟨a2,c2,rfl⟩:=hv.len
 exact⟨b,off,a2,c2,haf,c0,hv⟩
def RowX {α:Type} (k:Nat) (P:Kn→α→(Nat→Option Value)→Prop) (K:Kn) (l:List α) (xs:List Value):Prop:=
 xs.length=l.length * k∧∀ i (hi:i<l.length),P K l[i] (fun j=>if j<k then xs[i * k+j]? else none)
def PMono {α:Type} (P:Kn→α→(Nat→Option Value)→Prop):Prop:=∀ K K' x f g,Kn.le K K'→(∀ j u,f j=some u→g j=some u)→P K x f→P K' x g
theorem RowX.mono {α:Type} {k:Nat} {P:Kn→α→(Nat→Option Value)→Prop} (hP:PMono P):∀ (K K':Kn) (l:List α) (xs:List Value),Kn.le K K'→RowX k P K l xs→RowX k P K' l xs:=
 fun _ _ _ _ hle h=>⟨h.1,fun i hi=>hP _ _ _ _ _ hle (fun _ _ e=>e) (h.2 i hi)⟩
theorem RowX.nil {α:Type} {k:Nat} {P:Kn→α→(Nat→Option Value)→Prop} {K:Kn}:RowX k P K [] []:=⟨by simp,fun i hi=>by simp at hi⟩
theorem RowX.snoc {α:Type} {k:Nat} {P:Kn→α→(Nat→Option Value)→Prop} (hP:PMono P) {K:Kn} {l:List α} {xs:List Value} (h:RowX k P K l xs) {x:α} {ys:List Value} (hy:ys.length=k) (hx:P K x (fun j=>ys[j]?)):RowX k P K (l++[x]) (xs++ys):=by
 obtain⟨h1,h2⟩:=h
 refine⟨by simp [h1,hy,Nat.add_mul],fun i hi=>?_⟩
 by_cases hil:i<l.length
 ·rw [List.getElem_append_left hil]
  refine hP _ _ _ _ _ (Kn.le_refl _) (fun j u e=>?_) (h2 i hil)
  split at e
  ·rename_i hj
   rw [if_pos hj,List.getElem?_append_left]
   ·exact e
   have h3:(i+1) * k≤l.length * k:=Nat.mul_le_mul_right k hil
   rw [Nat.add_mul] at h3
   omega
  cases e
 simp only [List.length_append,List.length_singleton] at hi
 obtain rfl:i=l.length:=by omega
 rw [show (l++[x])[l.length]=x from by simp]
 refine hP _ _ _ _ _ (Kn.le_refl _) (fun j u e=>?_) hx
 have hj:j<k:=by
  rcases Nat.lt_or_ge j ys.length with h3 | h3
  ·omega
  rw [List.getElem?_eq_none h3] at e;cases e
 rw [if_pos hj,List.getElem?_append_right (by omega),h1,Nat.add_sub_cancel_left]
 exact e
theorem RowX.at {α:Type} {k:Nat} {P:Kn→α→(Nat→Option Value)→Prop} (hP:PMono P) {K:Kn} {l:List α} {xs:List Value} (h:RowX k P K l xs):∀ K',Kn.le K K'→∀ i (hi:i<l.length),∀ f:Nat→Option Value,(∀ j u,xs[i * k+j]?=some u→f j=some u)→P K' l[i] f:=
 fun _ hle i hi f hf=>hP _ _ _ _ _ hle (fun j u e=>by
  split at e
  ·exact hf j u e
  cases e) (h.2 i hi)
def IsC (K:Kn) (l:List Vl) (f:Nat→Option Value):Prop:=∃ u,f 0=some u∧VlsV K l u
theorem IsC.pm:PMono IsC:=fun _ _ _ _ _ hle hfg ⟨u,h1,h2⟩=>⟨u,hfg _ _ h1,SlV.le h2 hle VlC.mono⟩
theorem TkC.pm:PMono TkC:=fun _ _ x f g hle hfg h=>TkC.mono hle x f g hfg h
abbrev IsX:=RowX 1 IsC
abbrev TkX:=RowX 4 TkC
theorem Tryz.infoIs:(Tryz.prog.info? 57).map (fun i=>(i.zero,i.size,i.bytes))=some (some (.slice none 0 0),1,24):=by kernel_rfl
theorem run_append_vls {K:Kn} {W:World} (hK:K.In W) {l:List Vl} {a:Option Addr} {c:Nat} (h:VlsV K l (.slice a l.length c)) (hl:l.length≤1000000000):
  ∃ v' W' K',(∀ ty,(Builtin.append_ #[57,57] ty #[.slice none 0 0,.slice a l.length c]).run Tryz.prog W = .ok v' W')∧Kn.Step K W K' W'∧VlsV K' l v':=by
 obtain⟨i1,hi1,hy0,hy1,hy2⟩:=info_parts Tryz.infoVlN
 by_cases h0:l=[]
 ·subst h0
  exact⟨.slice none 0 0,W,K,fun ty=>Zbq 57 75 i1 Tryz.underlying57 hi1 (World.ownsRow_nil W W.heap.size 75 2) a c ty,Kn.Step.refl hK,.inl ⟨rfl,none,0,rfl⟩⟩
 have hlen:0<l.length:=List.length_pos_iff.2 h0
 obtain⟨b,off,he,_⟩:=Zdr h hlen
 subst he
 have hnews:∀ j u,(vlX l)[j]?=some u→W.cell? ((⟨b,off,none⟩:Addr).add j)=some u:=fun j u hu=>by
  rw [Zc4]
  have hj:j<(vlX l).length:=by
   rcases Nat.lt_or_ge j (vlX l).length with h1 | h1
   ·exact h1
   rw [List.getElem?_eq_none h1] at hu;cases hu
  rw [Zip] at hj
  have hi:j / 2<l.length:=by omega
  obtain⟨b2,off2,e2,d0,d1⟩:=Zdr h hi
  cases e2
  obtain⟨x0,x1⟩:=Zeb l (j / 2) hi
  rcases Nat.mod_two_eq_zero_or_one j with hm | hm
  ·have hj2:2 * (j / 2)=j:=by omega
   rw [hj2,hu] at x0
   rw [Nat.mul_comm,hj2] at d0
   rw [hK.cell d0]
   exact x0.symm
  have hj2:2 * (j / 2)+1=j:=by omega
  rw [hj2,hu] at x1
  rw [show off+j / 2 * 2+1=off+j from by omega] at d1
  rw [hK.cell d1]
  exact x1.symm
 have hone:∀ u∈vlX l,u.oneCell'=true:=fun u hu=>by
  obtain⟨x,_,hx⟩:=List.mem_flatMap.1 hu
  simp only [List.mem_cons,List.not_mem_nil,or_false] at hx
  rcases hx with rfl | rfl<;>rfl
 have hrun:=fun ty=>run_append_lies (P:=Tryz.prog) W 57 ty W.heap.size 75 i1 _ 2 16 Tryz.underlying57 hi1 hy0 hy1 hy2 rfl (by omega) (.slice none 0 0) 0 [] (World.ownsRow_nil W W.heap.size 75 2) ⟨b,off,none⟩ l.length c (vlX l) (by rw [Zip];omega) hnews hone hlen (by unfold maxLen;omega) (by omega) (Nat.le_refl _) W.heap.size rfl
 obtain⟨g,cap',W',h1,h2,h3,h4,h5⟩:=hrun 0
 have hb:Below W.heap.size W W':=⟨h3.os,h3.tape,h3.output,h3.size,fun k hk=>h3.block k hk (by simp [Value.ownBlock])⟩
 have hgg:g=W.heap.size:=by
   rcases h4 with h4 | h4
   ·simp [Value.ownBlock] at h4
   ·exact h4
 have hown:W'.ownsRow W.heap.size 75 2 (.slice (some ⟨g,0,none⟩) (0+l.length) cap') l.length (vlX l):=by simpa using h2
 have hin:=hK.below hb
 obtain⟨K',k1,k2,k3,k4⟩:=Zcw (R:=fun _=>VlC) hin hown (fun q hq=>by
  have:g=q:=by simpa [Value.ownBlock] using hq
  rw [← this,hgg];exact hK.isNone (Nat.le_refl _)) (fun K' _ i hi f hf=>by
   obtain⟨x0,x1⟩:=Zeb _ i hi
   refine⟨hf 0 _ ?_,hf 1 _ ?_⟩
   ·rw [show i * 2+0=2 * i from by omega];exact x0
   rw [show i * 2+1=2 * i+1 from by omega];exact x1)
 refine⟨_,W',K',fun ty=>?_,⟨k1,k4,k2,hb⟩,k3⟩
 have hty:(Builtin.append_ #[57,57] ty #[.slice none 0 0,.slice (some ⟨b,off,none⟩) l.length c]).run Tryz.prog W=(Builtin.append_ #[57,57] 0 #[.slice none 0 0,.slice (some ⟨b,off,none⟩) l.length c]).run Tryz.prog W:=rfl
 rw [hty];exact h1
theorem mAyO1 {p:Prop} (h:p:=by
 rw [Below.heap_alloc _ _ _ (by simp;omega),Below.heap_alloc _ _ _ (by simp)];exact heap_alloc_new _ _):p:=h
theorem Zfr {w:World} {b o:Nat} {v:Value} (h:w.cell? ⟨b,o,none⟩=some v):b<w.heap.size:=by
 unfold World.cell? at h
 cases e:w.heap[b]? with
 | none=>simp [e] at h
 | some x=>exact (Zlt e)
theorem Zbx {w:World} {b i:Nat} {v:Value} (hb:b<w.heap.size) (h:w.cell? ⟨b,i,none⟩=some v):(∀ o,(w.alloc o).cell? ⟨b,i,none⟩=some v)∧∀ o o',((w.alloc o).alloc o').cell? ⟨b,i,none⟩=some v:=by
 have h1:∀ o,(w.alloc o).cell? ⟨b,i,none⟩=some v:=fun o=>(((Below.refl w.heap.size w).alloc (Nat.le_refl _) o).cell (p:=⟨b,i,none⟩) hb).trans h
 exact⟨h1,fun o o'=>(((Below.refl (w.alloc o).heap.size (w.alloc o)).alloc (Nat.le_refl _) o').cell (p:=⟨b,i,none⟩) (by simp;omega)).trans (h1 o)⟩
theorem Zha (n:Nat):∀ (l:List Obj) (w0 w:World),Below n w0 w→n≤w.heap.size→Below n w0 (l.foldl World.alloc w)
 | [],_,_,h,_=>h
 | o :: l,w0,w,h,hn=>by rw [List.foldl_cons];exact Zha n l w0 _ (h.alloc hn o) (by simp;omega)
theorem below_allocsA (l:List Obj) (w:World):Below w.heap.size w (l.foldl World.alloc w):=Zha _ l w w (Below.refl _ _) (Nat.le_refl _)
theorem Zju:∀ (l:List Obj) (w:World) (i:Nat),i<l.length→(l.foldl World.alloc w).heap[w.heap.size+i]?=l[i]?
 | [],w,i,h=>by simp at h
 | o :: l,w,0,_=>by
  rw [List.foldl_cons]
  have h1:=(below_allocsA l (w.alloc o)).block w.heap.size (by simp)
  rw [Nat.add_zero,h1,heap_alloc_new]
  rfl
 | o :: l,w,i+1,h=>by
  rw [List.foldl_cons]
  have h1:=Zju l (w.alloc o) i (by simpa using h)
  rw [World.size_alloc] at h1
  rw [show w.heap.size+(i+1)=w.heap.size+1+i from by omega,h1]
  rfl
theorem Zio {n:Int} (h1 : -1000000≤n) (h2:n≤1000000):IntKind.wrap .i64 n=n:=by
 rw [wrap64]
 split<;>omega
theorem Zjh {w:World} {b i:Nat} {v:Value} (hb:b<w.heap.size) (h:w.cell? ⟨b,i,none⟩=some v):∀ o o' o'',(((w.alloc o).alloc o').alloc o'').cell? ⟨b,i,none⟩=some v:=fun o o' o''=>
 (((Below.refl ((w.alloc o).alloc o').heap.size ((w.alloc o).alloc o')).alloc (Nat.le_refl _) o'').cell (p:=⟨b,i,none⟩) (by simp;omega)).trans ((Zbx hb h).2 o o')
theorem rtruthZ (b:Bool) (w:World):Calls Tryz.prog 43 #[.bool b] w fun e w'=>∃ z:Int,tv b=⟨1,z⟩∧e = .returned (.agg #[.int .i64 1,.int .i64 z])∧Below w.heap.size w w':=
 (Zdi b w).mono fun _ _ h=>⟨_,rfl,h⟩
theorem raroundZ (n:Int) (w:World):Calls Tryz.prog 111 #[.int .i64 n] w fun r w'=>∃ z:Int,Zdg n=z∧r = .returned (.int .i64 z)∧w=w':=
 (Zhg n w).mono fun _ _ h=>⟨_,rfl,h⟩
theorem Zcj {o:ByteArray} (x y:Vl) {v:Bool} (hC:((o=oAnd∨o=oOr∨o=oXor∨o=oImp)∧(x.n=0∨x.n=1)∧(y.n=0∨y.n=1))∨(o=oEq∧x.kind=y.kind∧(x.n==y.n)=v)∨(o=oNe∧x.kind=y.kind∧(x.n != y.n)=v)∨(o=oLt∧x.kind=x.kind∧decide (x.n<y.n)=v)∨(o=oLe∧x.kind=x.kind∧decide (x.n≤y.n)=v)∨(o=oGt∧x.kind=x.kind∧decide (y.n<x.n)=v)∨(o=oGe∧x.kind=x.kind∧decide (y.n≤x.n)=v)) (hr:appM o [x,y]=(tv v,false)) (b off c:Nat) (w:World) (hc:∀ i (h:i<2),w.cell? ⟨b,off+i * 2,none⟩=some (.int .i64 ([x,y][i]).kind)∧w.cell? ⟨b,off+i * 2+1,none⟩=some (.int .i64 ([x,y][i]).n)):
  Calls Tryz.prog 93 #[.string o,.slice (some ⟨b,off,none⟩) 2 c] w fun r w'=>r = .returned (.tuple #[vlV (appM o [x,y]).1,.bool (appM o [x,y]).2])∧Below w.heap.size w w':=by
 obtain⟨xk,xn⟩:=x
 obtain⟨yk,yn⟩:=y
 have hb:b<w.heap.size:=Zfr (hc 0 (by decide)).1
 obtain⟨p0,p0n⟩:=hc 0 (by decide)
 obtain⟨p1,p1n⟩:=hc 1 (by decide)
 simp only [List.getElem_cons_zero,List.getElem_cons_succ,Nat.zero_mul,Nat.one_mul,Nat.add_zero,Nat.reduceMul] at p0 p0n p1 p1n
 obtain⟨a0,b0⟩:=Zbx hb p0
 obtain⟨a0n,b0n⟩:=Zbx hb p0n
 obtain⟨a1,b1⟩:=Zbx hb p1
 obtain⟨a1n,b1n⟩:=Zbx hb p1n
 clear hc
 have hbl:∀ x y:Obj,Below w.heap.size w (((w.alloc (.cells #[.int .i64 0,.int .i64 0] 75)).alloc x).alloc y):=fun x y=>(((Below.refl _ _).alloc (Nat.le_refl _) _).alloc (by simp) _).alloc (by simp;omega) _
 have hbr:∀ x y:Obj,(((w.alloc (.cells #[.int .i64 0,.int .i64 0] 75)).alloc x).alloc y).heap[w.heap.size]?=some (.cells #[.int .i64 0,.int .i64 0] 75 (0,0)):=fun x y=>by
  exact mAyO1
 have HB3:=Zhd (show ∀ z x y:Obj,Below w.heap.size w (((w.alloc z).alloc x).alloc y) from fun z x y=>(((Below.refl _ _).alloc (Nat.le_refl _) _).alloc (by simp) _).alloc (by simp;omega) _)
 have HBL:=Zhd hbl
 have HBR:=Zhd hbr
 clear hbl hbr
 dsimp only at hC
 have HR:=Zhd hr
 clear hr
 rcases hC with ⟨ho,hx,hy⟩ | ⟨rfl,hk,hc⟩ | ⟨rfl,hk,hc⟩ | ⟨rfl,hk,hc⟩ | ⟨rfl,hk,hc⟩ | ⟨rfl,hk,hc⟩ | ⟨rfl,hk,hc⟩<;>first | (rcases ho with rfl | rfl | rfl | rfl<;>rcases hx with rfl | rfl<;>rcases hy with rfl | rfl) | (subst hk;cases v) | (clear hk;cases v)
 all_goals
  go_enter Tryz.func93,Tryz.ntmps93
  go_wp2_with fail
  refine (rtruthZ _ _).mono ?_
  rintro r w5 ⟨z,hz,rfl,hb5⟩
  have HZ:=Zhd hz
  clear hz
  have hR5:=(hb5.block w.heap.size (by simp;omega)).trans (HBR.out _ _)
  have hB5:=(HBL.out _ _).trans (hb5.mono (by simp;omega))
  have E5:=Zhd (set2A hR5)
  obtain⟨r0,r1,f0,f1,_⟩:=Zak hR5
  have HB5:=Zhd hB5
  clear hR5 hB5 hb5
  go_wp2_with fail
  have e0:=fun u v=>(E5.out u v).1
  have e1:=fun u v=>(E5.out u v).2
  refine bodyPost_ret (v := .tuple #[.agg #[.int .i64 1,.int .i64 z],.bool false]) (by simp [results,Tryz.results93,go_sem,e0,e1]) rfl ?_
  refine⟨?_,(HB5.out.setCell (p:=⟨w.heap.size,0,none⟩) (Nat.le_refl _) _).setCell (p:=⟨w.heap.size,1,none⟩) (Nat.le_refl _) _⟩
  have hz:=HZ.out
  have hr:=HR.out
  cases hz
  first | rfl | (rw [hr];rfl)
theorem Zgp {o:ByteArray} (x y:Vl) (hx : -128≤x.n∧x.n≤127) (hy : -128≤y.n∧y.n≤127) {e:Int} (hC:(o=oAdd∧x.n=x.n∧x.n+y.n=e)∨(o=oSub∧x.n=x.n∧x.n - y.n=e)∨(o=oMul∧x.n=x.n∧x.n * y.n=e)∨(o=oDiv∧y.n≠0∧x.n.tdiv y.n=e)) (hr:appM o [x,y]=(wv e,false)) (b off c:Nat) (w:World) (hc:∀ i (h:i<2),w.cell? ⟨b,off+i * 2,none⟩=some (.int .i64 ([x,y][i]).kind)∧w.cell? ⟨b,off+i * 2+1,none⟩=some (.int .i64 ([x,y][i]).n)):
  Calls Tryz.prog 93 #[.string o,.slice (some ⟨b,off,none⟩) 2 c] w fun r w'=>r = .returned (.tuple #[vlV (appM o [x,y]).1,.bool (appM o [x,y]).2])∧Below w.heap.size w w':=by
 obtain⟨xk,xn⟩:=x
 obtain⟨yk,yn⟩:=y
 have hb:b<w.heap.size:=Zfr (hc 0 (by decide)).1
 obtain⟨p0,p0n⟩:=hc 0 (by decide)
 obtain⟨p1,p1n⟩:=hc 1 (by decide)
 simp only [List.getElem_cons_zero,List.getElem_cons_succ,Nat.zero_mul,Nat.one_mul,Nat.add_zero,Nat.reduceMul] at p0 p0n p1 p1n
 obtain⟨a0,b0⟩:=Zbx hb p0
 obtain⟨a0n,b0n⟩:=Zbx hb p0n
 obtain⟨a1,b1⟩:=Zbx hb p1
 obtain⟨a1n,b1n⟩:=Zbx hb p1n
 clear hc
 have hbl:∀ x y:Obj,Below w.heap.size w (((w.alloc (.cells #[.int .i64 0,.int .i64 0] 75)).alloc x).alloc y):=fun x y=>(((Below.refl _ _).alloc (Nat.le_refl _) _).alloc (by simp) _).alloc (by simp;omega) _
 have hbr:∀ x y:Obj,(((w.alloc (.cells #[.int .i64 0,.int .i64 0] 75)).alloc x).alloc y).heap[w.heap.size]?=some (.cells #[.int .i64 0,.int .i64 0] 75 (0,0)):=fun x y=>by
  exact mAyO1
 have HB3:=Zhd (show ∀ z x y:Obj,Below w.heap.size w (((w.alloc z).alloc x).alloc y) from fun z x y=>(((Below.refl _ _).alloc (Nat.le_refl _) _).alloc (by simp) _).alloc (by simp;omega) _)
 have HBL:=Zhd hbl
 have HBR:=Zhd hbr
 clear hbl hbr
 dsimp only at hx hy hC
 obtain⟨hx1,hx2⟩:=hx
 obtain⟨hy1,hy2⟩:=hy
 obtain⟨hm1,hm2⟩:=mul_bound hx1 hx2 hy1 hy2
 obtain⟨hm3,hm4⟩:=tdiv_bound (b:=yn) hx1 hx2
 have HR:=Zhd hr
 clear hr
 rcases hC with ⟨rfl,h0,rfl⟩ | ⟨rfl,h0,rfl⟩ | ⟨rfl,h0,rfl⟩ | ⟨rfl,h0,rfl⟩
 all_goals
  go_enter Tryz.func93,Tryz.ntmps93
  go_wp2_with fail
  refine (raroundZ _ _).mono ?_
  rintro r w5 ⟨z,hz,rfl,rfl⟩
  have HZ:=Zhd hz
  clear hz
  go_wp2_with fail
  refine bodyPost_ret (v := .tuple #[.agg #[.int .i64 2,.int .i64 z],.bool false]) (by simp [results,Tryz.results93,go_sem]) rfl ?_
  refine⟨?_,HB3.out _ _ _⟩
  rw [HR.out,← HZ.out]
  rfl
theorem rapp_mod (x y:Vl) (hx : -128≤x.n∧x.n≤127) (hy : -128≤y.n∧y.n≤127) (h0:y.n≠0) (b off c:Nat) (w:World) (hc:∀ i (h:i<2),w.cell? ⟨b,off+i * 2,none⟩=some (.int .i64 ([x,y][i]).kind)∧w.cell? ⟨b,off+i * 2+1,none⟩=some (.int .i64 ([x,y][i]).n)):
  Calls Tryz.prog 93 #[.string oMod,.slice (some ⟨b,off,none⟩) 2 c] w fun r w'=>r = .returned (.tuple #[vlV (appM oMod [x,y]).1,.bool (appM oMod [x,y]).2])∧Below w.heap.size w w':=by
 obtain⟨xk,xn⟩:=x
 obtain⟨yk,yn⟩:=y
 have hb:b<w.heap.size:=Zfr (hc 0 (by decide)).1
 obtain⟨p0,p0n⟩:=hc 0 (by decide)
 obtain⟨p1,p1n⟩:=hc 1 (by decide)
 simp only [List.getElem_cons_zero,List.getElem_cons_succ,Nat.zero_mul,Nat.one_mul,Nat.add_zero,Nat.reduceMul] at p0 p0n p1 p1n
 obtain⟨a0,b0⟩:=Zbx hb p0
 obtain⟨a0n,b0n⟩:=Zbx hb p0n
 obtain⟨a1,b1⟩:=Zbx hb p1
 obtain⟨a1n,b1n⟩:=Zbx hb p1n
 clear hc
 have hbl:∀ x y:Obj,Below w.heap.size w (((w.alloc (.cells #[.int .i64 0,.int .i64 0] 75)).alloc x).alloc y):=fun x y=>(((Below.refl _ _).alloc (Nat.le_refl _) _).alloc (by simp) _).alloc (by simp;omega) _
 have hbr:∀ x y:Obj,(((w.alloc (.cells #[.int .i64 0,.int .i64 0] 75)).alloc x).alloc y).heap[w.heap.size]?=some (.cells #[.int .i64 0,.int .i64 0] 75 (0,0)):=fun x y=>by
  exact mAyO1
 have HB3:=Zhd (show ∀ z x y:Obj,Below w.heap.size w (((w.alloc z).alloc x).alloc y) from fun z x y=>(((Below.refl _ _).alloc (Nat.le_refl _) _).alloc (by simp) _).alloc (by simp;omega) _)
 have HBL:=Zhd hbl
 have HBR:=Zhd hbr
 clear hbl hbr
 dsimp only at hx hy h0
 obtain⟨hx1,hx2⟩:=hx
 obtain⟨hm1,hm2⟩:=tdiv_bound (b:=yn) hx1 hx2
 have hts:=tmod_sub xn yn
 obtain⟨hm3,hm4⟩ : -1000≤xn.tdiv yn * yn∧xn.tdiv yn * yn≤1000:=by
  obtain⟨h2,h3⟩:=tmod_bound (b:=yn) hx1 hx2
  generalize xn.tdiv yn * yn=q at *
  omega
 have HTS:=Zhd hts
 clear hts
 go_enter Tryz.func93,Tryz.ntmps93
 go_wp2_with fail
 have hR:=HBR.out (.cells #[.int .i64 xk,.int .i64 xn] 75) (.cells #[.int .i64 yk,.int .i64 yn] 75)
 have hB:=HBL.out (.cells #[.int .i64 xk,.int .i64 xn] 75) (.cells #[.int .i64 yk,.int .i64 yn] 75)
 have hs:=fun i=>Zju [Obj.cells #[.int .i64 0,.int .i64 0] 75,Obj.cells #[.int .i64 xk,.int .i64 xn] 75,Obj.cells #[.int .i64 yk,.int .i64 yn] 75] w i
 simp only [List.foldl_cons,List.foldl_nil] at hs
 have s1:=hs 1 (by simp only [List.length_cons,List.length_nil];omega)
 have s2:=hs 2 (by simp only [List.length_cons,List.length_nil];omega)
 have k0:(noKn w.heap.size (((w.alloc (.cells #[.int .i64 0,.int .i64 0] 75)).alloc (.cells #[.int .i64 xk,.int .i64 xn] 75)).alloc (.cells #[.int .i64 yk,.int .i64 yn] 75))).cell (w.heap.size+1) 1=some (.int .i64 xn):=by
  rw [Zcg (by omega)]
  unfold World.cell?
  rw [s1]
  rfl
 have k1:(noKn w.heap.size (((w.alloc (.cells #[.int .i64 0,.int .i64 0] 75)).alloc (.cells #[.int .i64 xk,.int .i64 xn] 75)).alloc (.cells #[.int .i64 yk,.int .i64 yn] 75))).cell (w.heap.size+2) 1=some (.int .i64 yn):=by
  rw [Zcg (by omega)]
  unfold World.cell?
  rw [s2]
  rfl
 have hS:=Zf5 w.heap.size (((w.alloc (.cells #[.int .i64 0,.int .i64 0] 75)).alloc (.cells #[.int .i64 xk,.int .i64 xn] 75)).alloc (.cells #[.int .i64 yk,.int .i64 yn] 75))
 have hno:=Ze2 w.heap.size (((w.alloc (.cells #[.int .i64 0,.int .i64 0] 75)).alloc (.cells #[.int .i64 xk,.int .i64 xn] 75)).alloc (.cells #[.int .i64 yk,.int .i64 yn] 75))
 generalize noKn w.heap.size (((w.alloc (.cells #[.int .i64 0,.int .i64 0] 75)).alloc (.cells #[.int .i64 xk,.int .i64 xn] 75)).alloc (.cells #[.int .i64 yk,.int .i64 yn] 75))=KK at *
 generalize ((w.alloc (.cells #[.int .i64 0,.int .i64 0] 75)).alloc (.cells #[.int .i64 xk,.int .i64 xn] 75)).alloc (.cells #[.int .i64 yk,.int .i64 yn] 75)=W3 at *
 have hS:KK.In W3.drew:=hS
 have hR:W3.drew.heap[w.heap.size]?=some (.cells #[.int .i64 0,.int .i64 0] 75 (0,0)):=hR
 have hB:Below w.heap.size w W3.drew:=hB.drew
 have E5:=Zhd (set2A hR)
 obtain⟨r0,r1,f0,f1,_⟩:=Zak hR
 have HB5:=Zhd hB
 clear hR hB
 refine Zae (fun w'=>KK.In w') (fun _=>True) 99 (by kernel_rfl) ?_
 generalize W3.drew=Wd at *
 refine Go.w3 0 ?_
 iterate 11 ((first | (refine tk3 (v:=?_) rfl hS Ztr ?hy ?_;(case hy=>intro w hSw;have z0:=hSw.cell k0;have z1:=hSw.cell k1;go_simp<;>with_reducible rfl)) | refine sk3 rfl hS Ztr ?_ | refine no3 ?_);refine Zss ?_)
 refine Go.w3e ?_
 refine Zwo 11 rfl fun K_ hK=>?_
 go_simp
 go_at_call 111
 refine (Zhg _ _).mono ?_
 rintro r w5 ⟨rfl,rfl⟩
 refine hK.out _ _ (hS) Ztr ?_
 clear hK K_
 refine Zst ?_
 refine Zdh (i:=12) (oi:=_) (v:=?_) rfl (by decide) (by kernel_rfl) (by kernel_rfl) (by kernel_rfl) (by kernel_rfl) (fun _ _ _ h=>h) hS Ztr (Or.inl ⟨by rfl,?hy⟩) ?_
 case hy=>intro w hSw;have z0:=hSw.cell k0;have z1:=hSw.cell k1;go_simp<;>with_reducible rfl
 refine Zst ?_
 refine Zwo 13 rfl fun K_ hK=>?_
 go_simp
 refine hK.out _ _ (((hS.setCell (a:=⟨w.heap.size,0,none⟩) hno _).setCell (a:=⟨w.heap.size,1,none⟩) hno _)) Ztr ?_
 clear hK K_
 refine Zst ?_
 refine Zdh (i:=14) (oi:=_) (v:=?_) rfl (by decide) (by kernel_rfl) (by kernel_rfl) (by kernel_rfl) (by kernel_rfl) (fun _ _ _ h=>h) ((hS.setCell (a:=⟨w.heap.size,0,none⟩) hno _).setCell (a:=⟨w.heap.size,1,none⟩) hno _) Ztr (Or.inl ⟨by rfl,?hy⟩) ?_
 case hy=>intro w hSw;have z0:=hSw.cell k0;have z1:=hSw.cell k1;go_simp<;>with_reducible rfl
 refine Zst ?_
 refine Zwd ?_
 go_wp2_with fail
 have e2:IntKind.wrap .i64 (xn - IntKind.wrap .i64 (IntKind.wrap .i64 (xn.tdiv yn) * yn))=xn.tmod yn:=by
  rw [Zio (n:=xn.tdiv yn) (by omega) (by omega),Zio (n:=xn.tdiv yn * yn) (by omega) (by omega),HTS.out]
  obtain⟨h2,h3⟩:=tmod_bound (b:=yn) hx1 hx2
  exact Zio (by omega) (by omega)
 have e0:=fun u v=>(E5.out u v).1
 have e1:=fun u v=>(E5.out u v).2
 refine bodyPost_ret (v := .tuple #[.agg #[.int .i64 2,.int .i64 (Zdg (IntKind.wrap .i64 (xn - IntKind.wrap .i64 (IntKind.wrap .i64 (xn.tdiv yn) * yn))))],.bool false]) (by simp [results,Tryz.results93,go_sem,e0,e1]) rfl ?_
 refine⟨?_,(HB5.out.setCell (p:=⟨w.heap.size,0,none⟩) (Nat.le_refl _) _).setCell (p:=⟨w.heap.size,1,none⟩) (Nat.le_refl _) _⟩
 rw [e2]
 simp [appM,vlV,wv,h0]
theorem rapp_trap {o:ByteArray} (x y:Vl) (hC:o=oDiv∨o=oMod) (h0:y.n=0) (b off c:Nat) (w:World) (hc:∀ i (h:i<2),w.cell? ⟨b,off+i * 2,none⟩=some (.int .i64 ([x,y][i]).kind)∧w.cell? ⟨b,off+i * 2+1,none⟩=some (.int .i64 ([x,y][i]).n)):
  Calls Tryz.prog 93 #[.string o,.slice (some ⟨b,off,none⟩) 2 c] w fun r w'=>r = .returned (.tuple #[vlV (appM o [x,y]).1,.bool (appM o [x,y]).2])∧Below w.heap.size w w':=by
 obtain⟨xk,xn⟩:=x
 obtain⟨yk,yn⟩:=y
 have hb:b<w.heap.size:=Zfr (hc 0 (by decide)).1
 obtain⟨p0,p0n⟩:=hc 0 (by decide)
 obtain⟨p1,p1n⟩:=hc 1 (by decide)
 simp only [List.getElem_cons_zero,List.getElem_cons_succ,Nat.zero_mul,Nat.one_mul,Nat.add_zero,Nat.reduceMul] at p0 p0n p1 p1n
 obtain⟨a0,b0⟩:=Zbx hb p0
 obtain⟨a0n,b0n⟩:=Zbx hb p0n
 obtain⟨a1,b1⟩:=Zbx hb p1
 obtain⟨a1n,b1n⟩:=Zbx hb p1n
 clear hc
 have hbl:∀ x y:Obj,Below w.heap.size w (((w.alloc (.cells #[.int .i64 0,.int .i64 0] 75)).alloc x).alloc y):=fun x y=>(((Below.refl _ _).alloc (Nat.le_refl _) _).alloc (by simp) _).alloc (by simp;omega) _
 have hbr:∀ x y:Obj,(((w.alloc (.cells #[.int .i64 0,.int .i64 0] 75)).alloc x).alloc y).heap[w.heap.size]?=some (.cells #[.int .i64 0,.int .i64 0] 75 (0,0)):=fun x y=>by
  exact mAyO1
 have HB3:=Zhd (show ∀ z x y:Obj,Below w.heap.size w (((w.alloc z).alloc x).alloc y) from fun z x y=>(((Below.refl _ _).alloc (Nat.le_refl _) _).alloc (by simp) _).alloc (by simp;omega) _)
 have HBL:=Zhd hbl
 have HBR:=Zhd hbr
 clear hbl hbr
 dsimp only at h0
 subst h0
 rcases hC with rfl | rfl
 all_goals
  go_enter Tryz.func93,Tryz.ntmps93
  go_wp2_with fail
  refine bodyPost_ret (v := .tuple #[.agg #[.int .i64 0,.int .i64 0],.bool true]) (by simp [results,Tryz.results93,go_sem]) rfl ?_
  exact⟨rfl,HB3.out _ _ _⟩
theorem rapp_not (x:Vl) (b off c:Nat) (w:World) (hc:∀ i (h:i<1),w.cell? ⟨b,off+i * 2,none⟩=some (.int .i64 ([x][i]).kind)∧w.cell? ⟨b,off+i * 2+1,none⟩=some (.int .i64 ([x][i]).n)):
  Calls Tryz.prog 93 #[.string oNot,.slice (some ⟨b,off,none⟩) 1 c] w fun r w'=>r = .returned (.tuple #[vlV (appM oNot [x]).1,.bool (appM oNot [x]).2])∧Below w.heap.size w w':=by
 obtain⟨xk,xn⟩:=x
 have hb:b<w.heap.size:=Zfr (hc 0 (by decide)).1
 obtain⟨p0,p0n⟩:=hc 0 (by decide)
 simp only [List.getElem_cons_zero,List.getElem_cons_succ,Nat.zero_mul,Nat.one_mul,Nat.add_zero,Nat.reduceMul] at p0 p0n
 obtain⟨a0,b0⟩:=Zbx hb p0
 obtain⟨a0n,b0n⟩:=Zbx hb p0n
 clear hc
 have hbl:∀ x y:Obj,Below w.heap.size w (((w.alloc (.cells #[.int .i64 0,.int .i64 0] 75)).alloc x).alloc y):=fun x y=>(((Below.refl _ _).alloc (Nat.le_refl _) _).alloc (by simp) _).alloc (by simp;omega) _
 have hbr:∀ x y:Obj,(((w.alloc (.cells #[.int .i64 0,.int .i64 0] 75)).alloc x).alloc y).heap[w.heap.size]?=some (.cells #[.int .i64 0,.int .i64 0] 75 (0,0)):=fun x y=>by
  exact mAyO1
 have HB3:=Zhd (show ∀ z x y:Obj,Below w.heap.size w (((w.alloc z).alloc x).alloc y) from fun z x y=>(((Below.refl _ _).alloc (Nat.le_refl _) _).alloc (by simp) _).alloc (by simp;omega) _)
 have HBL:=Zhd hbl
 have HBR:=Zhd hbr
 clear hbl hbr
 by_cases h:xn=0
 ·have h2:(xn==0)=true:=by simpa using h
  go_enter Tryz.func93,Tryz.ntmps93
  go_wp2_with fail
  refine (Zdi _ _).mono ?_
  rintro r w5 ⟨rfl,hb5⟩
  have hR5:=(hb5.block w.heap.size (by simp;omega)).trans (HBR.out _ _)
  have hB5:=(HBL.out _ _).trans (hb5.mono (by simp;omega))
  have E5:=Zhd (set2A hR5)
  obtain⟨r0,r1,f0,f1,_⟩:=Zak hR5
  have HB5:=Zhd hB5
  clear hR5 hB5 hb5
  simp only [vlV,tv,h2,Bool.false_eq_true,if_false,if_true]
  go_wp2_with fail
  have e0:=fun u v=>(E5.out u v).1
  have e1:=fun u v=>(E5.out u v).2
  refine bodyPost_ret (v := .tuple #[.agg #[.int .i64 1,.int .i64 1],.bool false]) (by simp [results,Tryz.results93,go_sem,e0,e1]) rfl ?_
  refine⟨?_,(HB5.out.setCell (p:=⟨w.heap.size,0,none⟩) (Nat.le_refl _) _).setCell (p:=⟨w.heap.size,1,none⟩) (Nat.le_refl _) _⟩
  simp [appM,vlV,tv,h]
 have h2:(xn==0)=false:=by simpa using h
 go_enter Tryz.func93,Tryz.ntmps93
 go_wp2_with fail
 refine (Zdi _ _).mono ?_
 rintro r w5 ⟨rfl,hb5⟩
 have hR5:=(hb5.block w.heap.size (by simp;omega)).trans (HBR.out _ _)
 have hB5:=(HBL.out _ _).trans (hb5.mono (by simp;omega))
 have E5:=Zhd (set2A hR5)
 obtain⟨r0,r1,f0,f1,_⟩:=Zak hR5
 have HB5:=Zhd hB5
 clear hR5 hB5 hb5
 simp only [vlV,tv,h2,Bool.false_eq_true,if_false,if_true]
 go_wp2_with fail
 have e0:=fun u v=>(E5.out u v).1
 have e1:=fun u v=>(E5.out u v).2
 refine bodyPost_ret (v := .tuple #[.agg #[.int .i64 1,.int .i64 0],.bool false]) (by simp [results,Tryz.results93,go_sem,e0,e1]) rfl ?_
 refine⟨?_,(HB5.out.setCell (p:=⟨w.heap.size,0,none⟩) (Nat.le_refl _) _).setCell (p:=⟨w.heap.size,1,none⟩) (Nat.le_refl _) _⟩
 simp [appM,vlV,tv,h]
theorem rapp_neg (x:Vl) (hx : -128≤x.n∧x.n≤127) (b off c:Nat) (w:World) (hc:∀ i (h:i<1),w.cell? ⟨b,off+i * 2,none⟩=some (.int .i64 ([x][i]).kind)∧w.cell? ⟨b,off+i * 2+1,none⟩=some (.int .i64 ([x][i]).n)):
  Calls Tryz.prog 93 #[.string oNeg,.slice (some ⟨b,off,none⟩) 1 c] w fun r w'=>r = .returned (.tuple #[vlV (appM oNeg [x]).1,.bool (appM oNeg [x]).2])∧Below w.heap.size w w':=by
 obtain⟨xk,xn⟩:=x
 have hb:b<w.heap.size:=Zfr (hc 0 (by decide)).1
 obtain⟨p0,p0n⟩:=hc 0 (by decide)
 simp only [List.getElem_cons_zero,List.getElem_cons_succ,Nat.zero_mul,Nat.one_mul,Nat.add_zero,Nat.reduceMul] at p0 p0n
 obtain⟨a0,b0⟩:=Zbx hb p0
 obtain⟨a0n,b0n⟩:=Zbx hb p0n
 clear hc
 have hbl:∀ x y:Obj,Below w.heap.size w (((w.alloc (.cells #[.int .i64 0,.int .i64 0] 75)).alloc x).alloc y):=fun x y=>(((Below.refl _ _).alloc (Nat.le_refl _) _).alloc (by simp) _).alloc (by simp;omega) _
 have hbr:∀ x y:Obj,(((w.alloc (.cells #[.int .i64 0,.int .i64 0] 75)).alloc x).alloc y).heap[w.heap.size]?=some (.cells #[.int .i64 0,.int .i64 0] 75 (0,0)):=fun x y=>by
  exact mAyO1
 have HB3:=Zhd (show ∀ z x y:Obj,Below w.heap.size w (((w.alloc z).alloc x).alloc y) from fun z x y=>(((Below.refl _ _).alloc (Nat.le_refl _) _).alloc (by simp) _).alloc (by simp;omega) _)
 have HBL:=Zhd hbl
 have HBR:=Zhd hbr
 clear hbl hbr
 dsimp only at hx
 obtain⟨hx1,hx2⟩:=hx
 go_enter Tryz.func93,Tryz.ntmps93
 go_wp2_with fail
 refine (Zhg _ _).mono ?_
 rintro r w5 ⟨rfl,rfl⟩
 go_wp2_with fail
 refine bodyPost_ret (v := .tuple #[.agg #[.int .i64 2,.int .i64 (Zdg (256 - xn))],.bool false]) (by simp [results,Tryz.results93,go_sem]) rfl ?_
 refine⟨?_,HB3.out _ _ _⟩
 have e:Zdg (256 - xn)=Zdg (-xn):=by
  have h:(256 - xn) % 256=(-xn) % 256:=by omega
  unfold Zdg
  rw [h]
 rw [e]
 rfl
theorem rapp_if (x y u:Vl) (b off c:Nat) (w:World) (hc:∀ i (h:i<3),w.cell? ⟨b,off+i * 2,none⟩=some (.int .i64 ([x,y,u][i]).kind)∧w.cell? ⟨b,off+i * 2+1,none⟩=some (.int .i64 ([x,y,u][i]).n)):
  Calls Tryz.prog 93 #[.string oIf,.slice (some ⟨b,off,none⟩) 3 c] w fun r w'=>r = .returned (.tuple #[vlV (appM oIf [x,y,u]).1,.bool (appM oIf [x,y,u]).2])∧Below w.heap.size w w':=by
 obtain⟨xk,xn⟩:=x
 obtain⟨yk,yn⟩:=y
 obtain⟨uk,un⟩:=u
 have hb:b<w.heap.size:=Zfr (hc 0 (by decide)).1
 obtain⟨p0,p0n⟩:=hc 0 (by decide)
 obtain⟨p1,p1n⟩:=hc 1 (by decide)
 obtain⟨p2,p2n⟩:=hc 2 (by decide)
 simp only [List.getElem_cons_zero,List.getElem_cons_succ,Nat.zero_mul,Nat.one_mul,Nat.add_zero,Nat.reduceMul] at p0 p0n p1 p1n p2 p2n
 obtain⟨a0,b0⟩:=Zbx hb p0
 obtain⟨a0n,b0n⟩:=Zbx hb p0n
 obtain⟨a1,b1⟩:=Zbx hb p1
 obtain⟨a1n,b1n⟩:=Zbx hb p1n
 obtain⟨a2,b2⟩:=Zbx hb p2
 obtain⟨a2n,b2n⟩:=Zbx hb p2n
 clear hc
 have hbl:∀ x y:Obj,Below w.heap.size w (((w.alloc (.cells #[.int .i64 0,.int .i64 0] 75)).alloc x).alloc y):=fun x y=>(((Below.refl _ _).alloc (Nat.le_refl _) _).alloc (by simp) _).alloc (by simp;omega) _
 have hbr:∀ x y:Obj,(((w.alloc (.cells #[.int .i64 0,.int .i64 0] 75)).alloc x).alloc y).heap[w.heap.size]?=some (.cells #[.int .i64 0,.int .i64 0] 75 (0,0)):=fun x y=>by
  exact mAyO1
 have HB3:=Zhd (show ∀ z x y:Obj,Below w.heap.size w (((w.alloc z).alloc x).alloc y) from fun z x y=>(((Below.refl _ _).alloc (Nat.le_refl _) _).alloc (by simp) _).alloc (by simp;omega) _)
 have HBL:=Zhd hbl
 have HBR:=Zhd hbr
 clear hbl hbr
 have c0:=Zjh hb p0
 have c0n:=Zjh hb p0n
 have c1:=Zjh hb p1
 have c1n:=Zjh hb p1n
 have c2:=Zjh hb p2
 have c2n:=Zjh hb p2n
 by_cases h:xn=1
 ·have h2:(xn==1)=true:=by simpa using h
  go_enter Tryz.func93,Tryz.ntmps93
  go_wp2_with fail
  refine bodyPost_ret (v := .tuple #[.agg #[.int .i64 yk,.int .i64 yn],.bool false]) (by simp [results,Tryz.results93,go_sem]) rfl ?_
  refine⟨?_,HB3.out _ _ _⟩
  simp [appM,vlV,h]
 have h2:(xn==1)=false:=by simpa using h
 go_enter Tryz.func93,Tryz.ntmps93
 go_wp2_with fail
 refine bodyPost_ret (v := .tuple #[.agg #[.int .i64 uk,.int .i64 un],.bool false]) (by simp [results,Tryz.results93,go_sem]) rfl ?_
 refine⟨?_,HB3.out _ _ _⟩
 simp [appM,vlV,h]
theorem isApp_zero {o:ByteArray} {l:List Vl} (h:isApp o l=0):Zcm o=some (l.length:Int)∧1≤l.length∧o≠oPre∧o≠Zbm∧o≠oFby∧(∀ x∈l,Zar x x.kind=true)∧Zch o 0 (l.map (·.kind))≠0:=by
 unfold isApp at h
 cases e:Zcm o with
 | none=>rw [e] at h;cases h
 | some k=>
  rw [e] at h
  dsimp only at h
  split at h
  ·cases h
  rename_i hn
  simp only [not_or] at hn
  obtain⟨h1,h2,h3,h4,h5⟩:=hn
  have hk:k=(l.length:Int):=Classical.byContradiction h2
  split at h
  ·cases h
  rename_i ha
  split at h
  ·cases h
  rename_i hb
  exact⟨by rw [hk],by omega,h3,h4,h5,List.all_eq_true.1 (by simpa using ha),hb⟩
theorem Zcp {x:Vl} (h:Zar x x.kind=true) (hk:x.kind=2) : -128≤x.n∧x.n≤127:=by
 unfold Zar at h
 rw [hk] at h
 simp at h
 exact h
theorem Zc8 {x:Vl} (h:Zar x x.kind=true) (hk:x.kind=1):x.n=0∨x.n=1:=by
 unfold Zar at h
 rw [hk] at h
 simpa using h
theorem kb_same {a b:Int} (k:Int) (h:(if (decide (a=b)&&decide (a=k))=true then (1:Int) else 0)≠0):a=k∧b=k:=by
 split at h
 ·rename_i e
  simp only [Bool.and_eq_true,decide_eq_true_eq] at e
  exact⟨e.2,by rw [← e.1];exact e.2⟩
 exact absurd rfl h
theorem Zi2 {a b:Int} (h:(if (decide (a=b)&&decide (a=2))=true then (2:Int) else 0)≠0):a=2∧b=2:=by
 split at h
 ·rename_i e
  simp only [Bool.and_eq_true,decide_eq_true_eq] at e
  exact⟨e.2,by rw [← e.1];exact e.2⟩
 exact absurd rfl h
theorem kb_eq {a b:Int} (h:(if decide (a=b)=true then (1:Int) else 0)≠0):a=b:=by
 split at h
 ·rename_i e
  simpa using e
 exact absurd rfl h
theorem rapply_any (H:Kn) (o:ByteArray) (l:List Vl) (h0:isApp o l=0) (v:Value) (hv:VlsV H l v) (w:World) (hH:H.In w):
  Calls Tryz.prog 93 #[.string o,v] w fun r w'=>r = .returned (.tuple #[vlV (appM o l).1,.bool (appM o l).2])∧Below w.heap.size w w':=by
 obtain⟨ha,h1,hp,hq,hr,hrt,hkb⟩:=isApp_zero h0
 rcases hv with ⟨rfl,_⟩ | ⟨b,off,cap,rfl,_,_,hc⟩
 ·simp at h1
 have hcc:∀ i (h:i<l.length),w.cell? ⟨b,off+i * 2,none⟩=some (.int .i64 l[i].kind)∧w.cell? ⟨b,off+i * 2+1,none⟩=some (.int .i64 l[i].n):=fun i h=>by
  obtain⟨x0,x1⟩:=hc i h
  exact⟨hH.cell (by simpa using x0),hH.cell x1⟩
 rcases op_cases ha (by omega) hp hq hr with ⟨hk,ho⟩ | ⟨hk,ho⟩ | ⟨hk,ho⟩
 ·match l,hk,hcc,hrt,hkb with
  | [x],_,hcc,hrt,hkb=>
   rcases ho with rfl | rfl
   ·exact rapp_not x b off cap w hcc
   have hx:=hrt x (by simp)
   have e:x.kind=2∧x.kind=2:=Zi2 hkb
   exact rapp_neg x (Zcp hx e.1) b off cap w hcc
 ·match l,hk,hcc,hrt,hkb with
  | [x,y,u],_,hcc,hrt,hkb=>
   subst ho
   exact rapp_if x y u b off cap w hcc
 match l,hk,hcc,hrt,hkb with
 | [x,y],_,hcc,hrt,hkb=>
  have hx:=hrt x (by simp)
  have hy:=hrt y (by simp)
  rcases ho with rfl | rfl | rfl | rfl | rfl | rfl | rfl | rfl | rfl | rfl | rfl | rfl | rfl | rfl | rfl
  ·have e:=kb_same 1 (a:=x.kind) (b:=y.kind) hkb
   exact Zcj x y (.inl ⟨.inr (.inl rfl),Zc8 hx e.1,Zc8 hy e.2⟩) rfl b off cap w hcc
  ·have e:=kb_same 1 (a:=x.kind) (b:=y.kind) hkb
   exact Zcj x y (.inl ⟨.inr (.inr (.inl rfl)),Zc8 hx e.1,Zc8 hy e.2⟩) rfl b off cap w hcc
  ·have e:=kb_same 1 (a:=x.kind) (b:=y.kind) hkb
   exact Zcj x y (.inl ⟨.inl rfl,Zc8 hx e.1,Zc8 hy e.2⟩) rfl b off cap w hcc
  ·exact Zcj x y (.inr (.inl ⟨rfl,kb_eq hkb,rfl⟩)) (by obtain⟨xk,xn⟩:=x;obtain⟨yk,yn⟩:=y;obtain rfl:xk=yk:=kb_eq hkb;show (tv (decide ((⟨xk,xn⟩:Vl)=⟨xk,yn⟩)),false)=_;rw [vl_eq];simp [bne]) b off cap w hcc
  ·exact Zcj x y (.inr (.inr (.inl ⟨rfl,kb_eq hkb,rfl⟩))) (by obtain⟨xk,xn⟩:=x;obtain⟨yk,yn⟩:=y;obtain rfl:xk=yk:=kb_eq hkb;show (tv (decide ((⟨xk,xn⟩:Vl)≠⟨xk,yn⟩)),false)=_;rw [vl_ne];simp [bne]) b off cap w hcc
  ·exact Zcj x y (.inr (.inr (.inr (.inl ⟨rfl,rfl,rfl⟩)))) rfl b off cap w hcc
  ·exact Zcj x y (.inr (.inr (.inr (.inr (.inl ⟨rfl,rfl,rfl⟩))))) rfl b off cap w hcc
  ·exact Zcj x y (.inr (.inr (.inr (.inr (.inr (.inl ⟨rfl,rfl,rfl⟩)))))) rfl b off cap w hcc
  ·exact Zcj x y (.inr (.inr (.inr (.inr (.inr (.inr ⟨rfl,rfl,rfl⟩)))))) rfl b off cap w hcc
  ·have e:=kb_same 1 (a:=x.kind) (b:=y.kind) hkb
   exact Zcj x y (.inl ⟨.inr (.inr (.inr rfl)),Zc8 hx e.1,Zc8 hy e.2⟩) rfl b off cap w hcc
  ·have e:x.kind=2∧y.kind=2:=Zi2 hkb
   exact Zgp x y (Zcp hx e.1) (Zcp hy e.2) (.inl ⟨rfl,rfl,rfl⟩) rfl b off cap w hcc
  ·have e:x.kind=2∧y.kind=2:=Zi2 hkb
   exact Zgp x y (Zcp hx e.1) (Zcp hy e.2) (.inr (.inl ⟨rfl,rfl,rfl⟩)) rfl b off cap w hcc
  ·have e:x.kind=2∧y.kind=2:=Zi2 hkb
   exact Zgp x y (Zcp hx e.1) (Zcp hy e.2) (.inr (.inr (.inl ⟨rfl,rfl,rfl⟩))) rfl b off cap w hcc
  ·have e:x.kind=2∧y.kind=2:=Zi2 hkb
   by_cases hz:y.n=0
   ·exact rapp_trap x y (.inl rfl) hz b off cap w hcc
   exact Zgp x y (Zcp hx e.1) (Zcp hy e.2) (.inr (.inr (.inr ⟨rfl,hz,rfl⟩))) (by unfold appM;simp [hz,wv]) b off cap w hcc
  have e:x.kind=2∧y.kind=2:=Zi2 hkb
  by_cases hz:y.n=0
  ·exact rapp_trap x y (.inr rfl) hz b off cap w hcc
  exact rapp_mod x y (Zcp hx e.1) (Zcp hy e.2) hz b off cap w hcc
end Go.Proofs.YtgoccoldkfpbgaaGreatDoor
