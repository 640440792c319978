/- Rows of values that are joined. -/
import Derived.Test.YtofameafdnkijaaGreatDoorRuM
import Derived.Test.YtofameafdnkijaaGreatDoorOiP
import Derived.Test.YtofameafdnkijaaGreatDoorRg
import Derived.Test.YtofameafdnkijaaGreatDoorOck
import Derived.Test.YtofameafdnkijaaGreatDoorRh
set_option linter.all false
namespace Go.Proofs.YtofameafdnkijaaGreatDoor
set_option maxRecDepth 100000
set_option maxHeartbeats 16000000
open Go.RowKit Mx
theorem Tryz.infoVlN:(Tryz.prog.info? 137).map (fun i=>(i.zero,i.size,i.bytes))=some (some (.agg #[.int .i64 0,.int .i64 0]),2,16):=by kernel_rfl
theorem InsV.at {H:Kn} {l:List (List Vl)} {a:Option Addr} {n c:Nat} (h:InsV H l (.slice a n c)) {k:Nat} (hk:k<l.length):∃ b off a2 c2,a=some ⟨b,off,none⟩∧H.cell b (off+k)=some (.slice a2 l[k].length c2)∧VlsV H l[k] (.slice a2 l[k].length c2):=by
 obtain⟨b,off,haf,_,v,c0,hv⟩:=SlV.at h hk
 have c0:H.cell b (off+k * 1+0)=some v:=c0
 simp only [Nat.mul_one,Nat.add_zero] at c0
 obtain⟨a2,c2,rfl⟩:=hv.len
 exact⟨b,off,a2,c2,haf,c0,hv⟩
def RowX {α:Type} (k:Nat) (P:Kn→α→(Nat→Option Value)→Prop) (K:Kn) (l:List α) (xs:List Value):Prop:=
 xs.length=l.length * k∧∀ i (hi:i<l.length),P K l[i] (fun j=>if j<k then xs[i * k+j]? else none)
def PMono {α:Type} (P:Kn→α→(Nat→Option Value)→Prop):Prop:=∀ K K' x f g,Kn.le K K'→(∀ j u,f j=some u→g j=some u)→P K x f→P K' x g
theorem RowX.mono {α:Type} {k:Nat} {P:Kn→α→(Nat→Option Value)→Prop} (hP:PMono P):∀ (K K':Kn) (l:List α) (xs:List Value),Kn.le K K'→RowX k P K l xs→RowX k P K' l xs:=
 fun _ _ _ _ hle h=>⟨h.1,fun i hi=>hP _ _ _ _ _ hle (fun _ _ e=>e) (h.2 i hi)⟩
theorem RowX.nil {α:Type} {k:Nat} {P:Kn→α→(Nat→Option Value)→Prop} {K:Kn}:RowX k P K [] []:=⟨by simp,fun i hi=>by simp at hi⟩
theorem RowX.snoc {α:Type} {k:Nat} {P:Kn→α→(Nat→Option Value)→Prop} (hP:PMono P) {K:Kn} {l:List α} {xs:List Value} (h:RowX k P K l xs) {x:α} {ys:List Value} (hy:ys.length=k) (hx:P K x (fun j=>ys[j]?)):RowX k P K (l++[x]) (xs++ys):=by
 obtain⟨h1,h2⟩:=h
 refine⟨by simp [h1,hy,Nat.add_mul],fun i hi=>?_⟩
 by_cases hil:i<l.length
 ·rw [List.getElem_append_left hil]
  refine hP _ _ _ _ _ (Kn.le_refl _) (fun j u e=>?_) (h2 i hil)
  split at e
  ·rename_i hj
   rw [if_pos hj,List.getElem?_append_left]
   ·exact e
   have h3:(i+1) * k≤l.length * k:=Nat.mul_le_mul_right k hil
   rw [Nat.add_mul] at h3
   omega
  cases e
 simp only [List.length_append,List.length_singleton] at hi
 obtain rfl:i=l.length:=by omega
 rw [show (l++[x])[l.length]=x from by simp]
 refine hP _ _ _ _ _ (Kn.le_refl _) (fun j u e=>?_) hx
 have hj:j<k:=by
  rcases Nat.lt_or_ge j ys.length with h3 | h3
  ·omega
  rw [List.getElem?_eq_none h3] at e;cases e
 rw [if_pos hj,List.getElem?_append_right (by omega),h1,Nat.add_sub_cancel_left]
 exact e
theorem RowX.at {α:Type} {k:Nat} {P:Kn→α→(Nat→Option Value)→Prop} (hP:PMono P) {K:Kn} {l:List α} {xs:List Value} (h:RowX k P K l xs):∀ K',Kn.le K K'→∀ i (hi:i<l.length),∀ f:Nat→Option Value,(∀ j u,xs[i * k+j]?=some u→f j=some u)→P K' l[i] f:=
 fun _ hle i hi f hf=>hP _ _ _ _ _ hle (fun j u e=>by
  split at e
  ·exact hf j u e
  cases e) (h.2 i hi)
def IsC (K:Kn) (l:List Vl) (f:Nat→Option Value):Prop:=∃ u,f 0=some u∧VlsV K l u
theorem IsC.pm:PMono IsC:=fun _ _ _ _ _ hle hfg ⟨u,h1,h2⟩=>⟨u,hfg _ _ h1,SlV.le h2 hle VlC.mono⟩
theorem TkC.pm:PMono TkC:=fun _ _ x f g hle hfg h=>TkC.mono hle x f g hfg h
abbrev IsX:=RowX 1 IsC
abbrev TkX:=RowX 4 TkC
theorem Tryz.infoIs:(Tryz.prog.info? 51).map (fun i=>(i.zero,i.size,i.bytes))=some (some (.slice none 0 0),1,24):=by kernel_rfl
theorem run_append_vls {K:Kn} {W:World} (hK:K.In W) {l:List Vl} {a:Option Addr} {c:Nat} (h:VlsV K l (.slice a l.length c)) (hl:l.length≤1000000000):
  ∃ v' W' K',(∀ ty,(Builtin.append_ #[51,51] ty #[.slice none 0 0,.slice a l.length c]).run Tryz.prog W = .ok v' W')∧Kn.Step K W K' W'∧VlsV K' l v':=by
 obtain⟨i1,hi1,hy0,hy1,hy2⟩:=info_parts Tryz.infoVlN
 by_cases h0:l=[]
 ·subst h0
  exact⟨.slice none 0 0,W,K,fun ty=>Zbz 51 137 i1 Tryz.underlying51 hi1 (World.ownsRow_nil W W.heap.size 137 2) a c ty,Kn.Step.refl hK,.inl ⟨rfl,none,0,rfl⟩⟩
 have hlen:0<l.length:=List.length_pos_iff.2 h0
 obtain⟨b,off,he,_⟩:=Zga h hlen
 subst he
 have hnews:∀ j u,(vlX l)[j]?=some u→W.cell? ((⟨b,off,none⟩:Addr).add j)=some u:=fun j u hu=>by
  rw [Zdm]
  have hj:j<(vlX l).length:=by
   rcases Nat.lt_or_ge j (vlX l).length with h1 | h1
   ·exact h1
   rw [List.getElem?_eq_none h1] at hu;cases hu
  rw [vlX_len] at hj
  have hi:j / 2<l.length:=by omega
  obtain⟨b2,off2,e2,d0,d1⟩:=Zga h hi
  cases e2
  obtain⟨x0,x1⟩:=Zfi l (j / 2) hi
  rcases Nat.mod_two_eq_zero_or_one j with hm | hm
  ·have hj2:2 * (j / 2)=j:=by omega
   rw [hj2,hu] at x0
   rw [Nat.mul_comm,hj2] at d0
   rw [hK.cell d0]
   exact x0.symm
  have hj2:2 * (j / 2)+1=j:=by omega
  rw [hj2,hu] at x1
  rw [show off+j / 2 * 2+1=off+j from by omega] at d1
  rw [hK.cell d1]
  exact x1.symm
 have hone:∀ u∈vlX l,u.oneCell'=true:=fun u hu=>by
  obtain⟨x,_,hx⟩:=List.mem_flatMap.1 hu
  simp only [List.mem_cons,List.not_mem_nil,or_false] at hx
  rcases hx with rfl | rfl<;>rfl
 have hrun:=fun ty=>run_append_lies (P:=Tryz.prog) W 51 ty W.heap.size 137 i1 _ 2 16 Tryz.underlying51 hi1 hy0 hy1 hy2 rfl (by omega) (.slice none 0 0) 0 [] (World.ownsRow_nil W W.heap.size 137 2) ⟨b,off,none⟩ l.length c (vlX l) (by rw [vlX_len];omega) hnews hone hlen (by unfold maxLen;omega) (by omega) (Nat.le_refl _) W.heap.size rfl
 obtain⟨g,cap',W',h1,h2,h3,h4,h5⟩:=hrun 0
 have hb:Below W.heap.size W W':=⟨h3.os,h3.tape,h3.output,h3.size,fun k hk=>h3.block k hk (by simp [Value.ownBlock])⟩
 have hgg:g=W.heap.size:=by
   rcases h4 with h4 | h4
   ·simp [Value.ownBlock] at h4
   ·exact h4
 have hown:W'.ownsRow W.heap.size 137 2 (.slice (some ⟨g,0,none⟩) (0+l.length) cap') l.length (vlX l):=by simpa using h2
 have hin:=hK.below hb
 obtain⟨K',k1,k2,k3,k4⟩:=Ze4 (R:=fun _=>VlC) hin hown (fun q hq=>by
  have:g=q:=by simpa [Value.ownBlock] using hq
  rw [← this,hgg];exact hK.isNone (Nat.le_refl _)) (fun K' _ i hi f hf=>by
   obtain⟨x0,x1⟩:=Zfi _ i hi
   refine⟨hf 0 _ ?_,hf 1 _ ?_⟩
   ·rw [show i * 2+0=2 * i from by omega];exact x0
   rw [show i * 2+1=2 * i+1 from by omega];exact x1)
 refine⟨_,W',K',fun ty=>?_,⟨k1,k4,k2,hb⟩,k3⟩
 have hty:(Builtin.append_ #[51,51] ty #[.slice none 0 0,.slice (some ⟨b,off,none⟩) l.length c]).run Tryz.prog W=(Builtin.append_ #[51,51] 0 #[.slice none 0 0,.slice (some ⟨b,off,none⟩) l.length c]).run Tryz.prog W:=rfl
 rw [hty];exact h1
theorem in_big (H:Kn) (l:List (List Vl)) (v:Value) (hv:InsV H l v) (hz:l.length≤100000000∧∀ x∈l,x.length≤100000000) (w:World) (hH:H.In w):
  Calls Tryz.prog 10 #[v] w fun r w'=>∃ v' K,r = .returned v'∧InsV K l v'∧Kn.Step H w K w':=by
 obtain⟨a,cap,rfl⟩:=hv.len
 have HU:=Zhd hv
 obtain⟨z1,z2⟩:=hz
 have HZ:=Zhd z2
 clear hv z2
 go_enter Tryz.func10,Tryz.ntmps10
 go_wp2_with fail
 have HS0:=Zhd (show RwO 51 1 IsX H w w w.heap.size l 0 (.slice none 0 0) [] H from
  ⟨Kn.le_refl H,fun _ _=>rfl,hH,Below.refl _ _,Nat.le_refl _,World.ownsRow_nil _ _ _ _,RowX.nil,fun g hg=>by simp [Value.ownBlock] at hg⟩)
 go_loopw [3,4] (fun u i wr=>∃ (k:Nat) (xs:List Value) (K:Kn),i = .int .i64 k∧k≤l.length∧RwO 51 1 IsX H w wr w.heap.size l k u xs K) (fun _ i _=>l.length - (intOf i).toNat)
 case atStart=>exact⟨0,_,_,rfl,Nat.zero_le _,HS0.out⟩
 obtain⟨k,xs,K,rfl,hk,hS⟩:=hrel
 have HS:=Zhd hS
 obtain⟨au,cu,rfl,_⟩:=Zau hS.row
 clear hS
 by_cases hkl:k<l.length
 ·obtain⟨b,off,a2,c2,haf,c0,hx⟩:=HU.out.at hkl
  subst haf
  have hlx:=HZ.out _ (List.getElem_mem hkl)
  have c0:=HS.out.isin.cell (HS.out.le.cell c0)
  have hx:=SlV.le hx HS.out.le VlC.mono
  have HT:=Zhd (Zb2 l k hkl)
  generalize l[k]=x at *
  obtain⟨v',W2,K2,hrun,hst,hv2⟩:=run_append_vls HS.out.isin hx (by omega)
  obtain⟨a3,c3,rfl⟩:=hv2.len
  have HS2:=Zhd ((RwO.next (RowX.mono IsC.pm) HS.out hst).alloc (.cells #[.slice a3 x.length c3] 51))
  have HU2:=Zhd hv2
  clear hst hv2 hx
  go_wp2_with (at_builtin;first | refine Zb1 rfl _ _ _ _ rfl _ _ rfl rfl _ _ hrun ?_ | (clear hrun;refine Zi9 28 51 1 24 _ Tryz.underlying28 Tryz.infoIs rfl (by decide) _ _ rfl rfl w.heap.size _ _ _ rfl HS2.out.row ⟨W2.heap.size,0,none⟩ 1 [.slice a3 x.length c3] rfl rfl ?c1 ?c2 ?c3 ?c4 ?c5 ?_))
  case c1=>exact cells1 _ _ _
  case c2=>simp [Value.oneCell']
  case c3=>omega
  case c4=>omega
  case c5=>exact HS2.out.size
  intro g cap' w3 ho hg3 hat
  have HS3:=Zhd (RwO.step (n':=1) HS2.out (by rw [HT.out];exact RowX.snoc IsC.pm HS2.out.xs rfl ⟨_,rfl,HU2.out⟩) ho hg3 (by rw [World.size_alloc];exact hat))
  go_wp2_with fail
  go_roundw
  case rel=>exact⟨k+1,_,K2,by go_num,by omega,HS3.out⟩
  simp [intOf];omega
 obtain rfl:k=l.length:=by omega
 have hxs:IsX K (List.take l.length l) xs:=HS.out.xs
 rw [List.take_of_length_le (Nat.le_refl _)] at hxs
 obtain⟨K',hle,hin,hv,hfr⟩:=Ze4 (R:=IsC) HS.out.isin HS.out.row HS.out.noR (RowX.at IsC.pm hxs)
 have HST:=Zhd (show Kn.Step H w K' wr from⟨Kn.le_trans HS.out.le hle,fun b hb=>(hfr b hb).trans (HS.out.fresh b hb),hin,HS.out.below⟩)
 have HV:=Zhd hv
 clear hv hin hfr hle
 go_wp2_with fail
 go_ret
 exact⟨_,K',rfl,HV.out,HST.out⟩
theorem in_any (H:Kn) (l:List (List Vl)) (v:Value) (hv:InsV H l v) (hz:l.length≤1000000∧∀ x∈l,x.length≤1000000) (w:World) (hH:H.In w):
  Calls Tryz.prog 10 #[v] w fun r w'=>∃ v' K,r = .returned v'∧InsV K l v'∧Kn.Step H w K w':=
 in_big H l v hv ⟨Nat.le_trans hz.1 (by decide),fun x hx=>Nat.le_trans (hz.2 x hx) (by decide)⟩ w hH
def longs (ins:List (List Vl)):Bool:=ins.any (fun l=>decide (50<l.length)) || decide (14<ins.length∧ins.length≤300) || decide (305<ins.length)
def longI (ins:List (List Vl)):Int:=if longs ins then 1 else 0
theorem long_zero {ins:List (List Vl)} (h:¬ 0<longI ins):(∀ l∈ins,l.length≤50)∧(ins.length≤14∨300<ins.length)∧ins.length≤305:=by
 unfold longI at h
 split at h
 ·exact absurd (by decide) h
 rename_i hl
 unfold longs at hl
 simp only [Bool.or_eq_true,decide_eq_true_eq,List.any_eq_true,not_or,not_exists,not_and] at hl
 obtain⟨⟨h1,h2⟩,h3⟩:=hl
 refine⟨fun l hl=>by have:=h1 l hl;omega,?_,by omega⟩
 by_cases h4:14<ins.length
 ·have:=h2 h4;omega
 omega
theorem long_any (H:Kn) (ins:List (List Vl)) (v:Value) (h:InsV H ins v) (hz:ins.length≤1000000000) (w:World) (hH:H.In w):
  Calls Tryz.prog 7 #[v] w fun r w'=>r = .returned (.int .i64 (longI ins))∧Below w.heap.size w w':=by
 obtain⟨a,c,rfl⟩:=h.len
 have HV:=Zhd h
 clear h
 go_enter Tryz.func7,Tryz.ntmps7
 go_wp2_with fail
 go_loopw [3] (fun i wr=>∃ k:Nat,i = .int .i64 k∧k≤ins.length∧Below w.heap.size w wr∧∀ j (hj:j<ins.length),j<k→ins[j].length≤50) (fun i _=>ins.length - (intOf i).toNat)
 case atStart=>exact⟨0,rfl,Nat.zero_le _,Below.refl _ _,fun j _ h=>by omega⟩
 obtain⟨k,rfl,hk,hb,hno⟩:=hrel
 have HB:=Zhd hb
 have HNO:=Zhd hno
 clear hb hno
 by_cases hkl:k<ins.length
 ·obtain⟨b,off,a2,c2,haf,c0,hv⟩:=HV.out.at hkl
  have c0:=(hH.below HB.out).cell c0
  have HYES:=Zhd (show 50<ins[k].length→longI ins=1 from fun h=>by
   unfold longI longs
   rw [List.any_eq_true.2 ⟨ins[k],List.getElem_mem hkl,by simpa using h⟩]
   rfl)
  have HNOT:=Zhd (show ¬ 50<ins[k].length→∀ j (hj:j<ins.length),j<k+1→ins[j].length≤50 from fun h j hj hjk=>by
   by_cases hjk':j<k
   ·exact HNO.out j hj hjk'
   obtain rfl:j=k:=by omega
   omega)
  clear hv
  generalize ins[k].length=n at *
  subst haf
  by_cases h50:50<n
  ·have q:(50:Int)<n:=by omega
   go_wp2_with fail
   go_ret
   exact⟨Zat (HYES.out h50).symm,HB.out⟩
  have q:¬ (50:Int)<n:=by omega
  go_wp2_with fail
  go_roundw
  case rel=>exact⟨k+1,by go_num,by omega,HB.out,HNOT.out h50⟩
  simp [intOf];omega
 obtain rfl:k=ins.length:=by omega
 have HF:=Zhd (show longI ins=if 14<ins.length∧ins.length≤300∨305<ins.length then 1 else 0 from by
  unfold longI longs
  rw [List.any_eq_false.2 fun l hl=>by
   obtain⟨j,hj,rfl⟩:=List.mem_iff_getElem.1 hl
   have:=HNO.out j hj hj
   simp;omega]
  simp only [Bool.false_or,Bool.or_eq_true,decide_eq_true_eq])
 clear HNO HV
 by_cases h1:14<ins.length
 ·by_cases h2:ins.length≤300
  ·have q1:(14:Int)<ins.length:=by omega
   have q2:(ins.length:Int)≤300:=by omega
   go_wp2_with fail
   go_ret
   exact⟨Zat (by rw [HF.out,if_pos (.inl ⟨h1,h2⟩)]),HB.out⟩
  by_cases h3:305<ins.length
  ·have q1:(14:Int)<ins.length:=by omega
   have q2:¬ (ins.length:Int)≤300:=by omega
   have q3:(305:Int)<ins.length:=by omega
   go_wp2_with fail
   go_ret
   exact⟨Zat (by rw [HF.out,if_pos (.inr h3)]),HB.out⟩
  have q1:(14:Int)<ins.length:=by omega
  have q2:¬ (ins.length:Int)≤300:=by omega
  have q3:¬ (305:Int)<ins.length:=by omega
  go_wp2_with fail
  go_ret
  exact⟨Zat (by rw [HF.out,if_neg (by omega)]),HB.out⟩
 have q1:¬ (14:Int)<ins.length:=by omega
 have q3:¬ (305:Int)<ins.length:=by omega
 go_wp2_with fail
 go_ret
 exact⟨Zat (by rw [HF.out,if_neg (by omega)]),HB.out⟩
theorem mNt1 {p:Prop} (h:p:=by
 intro w hSw;obtain⟨z0,z1,z2,z3,z4,z5,z6,z7⟩:=hSw.c8 d0 d1 d2 d3 d0' d1' d2' d3';first | (go_simp;done) | (go_simp;with_reducible rfl)):p:=h
theorem Tryz.infoTkF:(Tryz.prog.info? 117).map (fun i=>(i.zero,i.size,i.bytes))=some (some (.agg #[.slice none 0 0,.bool false,.bool false,.slice none 0 0]),4,56):=by kernel_rfl
theorem TksV.at {H:Kn} {l:List Tk} {a:Option Addr} {n c:Nat} (h:TksV H l (.slice a n c)) {k:Nat} (hk:k<l.length):∃ b off a1 c1 a2 c2,a=some ⟨b,off,none⟩∧H.cell b (off+k * 4)=some (.slice a1 l[k].out.length c1)∧H.cell b (off+k * 4+1)=some (.bool l[k].asrt)∧H.cell b (off+k * 4+2)=some (.bool l[k].trap)∧H.cell b (off+k * 4+3)=some (.slice a2 l[k].checks.length c2)∧TkV H l[k] (.slice a1 l[k].out.length c1) (.slice a2 l[k].checks.length c2):=by
 obtain⟨b,off,haf,_,ov,cv,c0,c1,c2,c3,hv⟩:=SlV.at h hk
 obtain⟨a1,k1,rfl⟩:=hv.outs.len
 obtain⟨a2,k2,rfl⟩:=hv.checks.len
 exact⟨b,off,a1,k1,a2,k2,haf,c0,c1,c2,c3,hv⟩
theorem ticksOf_any (H:Kn) (l:List Tk) (v:Value) (hv:TksV H l v) (hz:l.length≤1000000) (w:World) (hH:H.In w):
  Calls Tryz.prog 15 #[v] w fun r w'=>∃ v' K,r = .returned v'∧TksV K l v'∧Kn.Step H w K w':=by
 obtain⟨a,cap,rfl⟩:=hv.len
 have HU:=Zhd hv
 clear hv
 obtain⟨i0,hi0,hz0,hz1,hz2⟩:=info_parts Tryz.infoTkF
 go_enter Tryz.func15,Tryz.ntmps15
 go_wp2_with fail
 have HS0:=Zhd (show RwO 117 4 TkX H w w w.heap.size l 0 (.slice none 0 0) [] H from
  ⟨Kn.le_refl H,fun _ _=>rfl,hH,Below.refl _ _,Nat.le_refl _,World.ownsRow_nil _ _ _ _,RowX.nil,fun g hg=>by simp [Value.ownBlock] at hg⟩)
 go_loopw [3,4] (fun u i wr=>∃ (k:Nat) (xs:List Value),i = .int .i64 k∧k≤l.length∧RwO 117 4 TkX H w wr w.heap.size l k u xs H) (fun _ i _=>l.length - (intOf i).toNat)
 case atStart=>exact⟨0,_,rfl,Nat.zero_le _,HS0.out⟩
 obtain⟨k,xs,rfl,hk,hS⟩:=hrel
 have HS:=Zhd hS
 obtain⟨au,cu,rfl,_⟩:=Zau hS.row
 clear hS
 by_cases hkl:k<l.length
 ·obtain⟨b,off,a1,c1,a2,c2,rfl,d0,d1,d2,d3,hx⟩:=HU.out.at hkl
  have d0:=HS.out.drew.isin.cell d0
  have d1:=HS.out.drew.isin.cell d1
  have d2:=HS.out.drew.isin.cell d2
  have d3:=HS.out.drew.isin.cell d3
  have HT:=Zhd (Zb2 l k hkl)
  have HX:=Zhd hx
  clear hx
  generalize l[k]=x at *
  obtain⟨xo,xa,xt,xc⟩:=x
  dsimp only at d0 d1 d2 d3
  have HSD:=HS.out.drew
  go_wp2_with fail
  go_region_law (refine step_append_lies _ (by rfl) _ _ _ (by rfl) w.heap.size 117 i0 _ 4 56 Tryz.underlying48 hi0 hz0 hz1 hz2 rfl (by omega) _ k xs (by rfl) (RwO.row (RwO.alloc HSD _)) ⟨_,0,none⟩ 1 1 [.slice a1 xo.length c1,.bool xa,.bool xt,.slice a2 xc.length c2] (by rfl) (by rfl) (by exact World.news_of_block (heap_alloc_new _ _)) (by simp [Value.oneCell']) (by omega) (by unfold maxLen;omega) (by omega) (RwO.size (RwO.alloc HSD _)) _ rfl ?_;intro gg cap' w3 hown hgrow hat hltg;have hf3:=RwO.step (n':=1) (RwO.alloc HSD _) (by rw [HT.out];exact RowX.snoc TkC.pm HS.out.xs rfl ⟨_,_,rfl,rfl,rfl,rfl,HX.out⟩) hown hgrow hat)
  all_goals go_wp2_with fail
  all_goals go_roundw
  all_goals first | exact⟨k+1,_,by go_num,by omega,hf3⟩ | (simp [intOf];omega)
 obtain rfl:k=l.length:=by omega
 have hxs:TkX H (List.take l.length l) xs:=HS.out.xs
 rw [List.take_of_length_le (Nat.le_refl _)] at hxs
 obtain⟨K',hle,hin,hv,hfr⟩:=Ze4 (R:=TkC) HS.out.isin HS.out.row HS.out.noR (RowX.at TkC.pm hxs)
 have HST:=Zhd (show Kn.Step H w K' wr from⟨Kn.le_trans HS.out.le hle,fun b hb=>(hfr b hb).trans (HS.out.fresh b hb),hin,HS.out.below⟩)
 have HV:=Zhd hv
 clear hv hin hfr hle
 go_wp2_with fail
 go_ret
 exact⟨_,K',rfl,HV.out,HST.out⟩
theorem vls_pair {H:Kn} {l:List Vl} {a1 a2:Option Addr} {n1 n2 c1 c2:Nat} (h1:VlsV H l (.slice a1 n1 c1)) (h2:VlsV H l (.slice a2 n2 c2)) {k:Nat} (hk:k<l.length):
  ∃ b1 f1 b2 f2,a1=some ⟨b1,f1,none⟩∧a2=some ⟨b2,f2,none⟩∧H.cell b1 (f1+k * 2)=some (.int .i64 l[k].kind)∧H.cell b1 (f1+k * 2+1)=some (.int .i64 l[k].n)∧H.cell b2 (f2+k * 2)=some (.int .i64 l[k].kind)∧H.cell b2 (f2+k * 2+1)=some (.int .i64 l[k].n):=by
 obtain⟨b1,f1,e1,x0,x1⟩:=Zga h1 hk
 obtain⟨b2,f2,e2,y0,y1⟩:=Zga h2 hk
 exact⟨b1,f1,b2,f2,e1,e2,x0,x1,y0,y1⟩
theorem bls_pair {H:Kn} {l:List Bool} {a1 a2:Option Addr} {n1 n2 c1 c2:Nat} (h1:BlsV H l (.slice a1 n1 c1)) (h2:BlsV H l (.slice a2 n2 c2)) {k:Nat} (hk:k<l.length):
  ∃ b1 f1 b2 f2,a1=some ⟨b1,f1,none⟩∧a2=some ⟨b2,f2,none⟩∧H.cell b1 (f1+k)=some (.bool l[k])∧H.cell b2 (f2+k)=some (.bool l[k]):=by
 obtain⟨b1,f1,e1,_,x0⟩:=SlV.at h1 hk
 obtain⟨b2,f2,e2,_,y0⟩:=SlV.at h2 hk
 have x0:H.cell b1 (f1+k * 1+0)=_:=x0
 have y0:H.cell b2 (f2+k * 1+0)=_:=y0
 simp only [Nat.mul_one,Nat.add_zero] at x0 y0
 exact⟨b1,f1,b2,f2,e1,e2,x0,y0⟩
theorem sameTick_any (H:Kn) (x:Tk) (o1 k1 o2 k2:Value) (h1:TkV H x o1 k1) (h2:TkV H x o2 k2) (hz:x.out.length≤1000000000∧x.checks.length≤1000000000) (w:World) (hH:H.In w):
  Calls Tryz.prog 55 #[.agg #[o1,.bool x.asrt,.bool x.trap,k1],.agg #[o2,.bool x.asrt,.bool x.trap,k2]] w fun r w'=>r = .returned (.bool true)∧Below w.heap.size w w':=by
 obtain⟨z1,z2⟩:=hz
 obtain⟨xo,xa,xt,xc⟩:=x
 dsimp only at z1 z2 ⊢
 obtain⟨a1,d1,rfl⟩:=h1.outs.len
 obtain⟨a2,d2,rfl⟩:=h2.outs.len
 obtain⟨a3,d3,rfl⟩:=h1.checks.len
 obtain⟨a4,d4,rfl⟩:=h2.checks.len
 dsimp only
 go_enter Tryz.func55,Tryz.ntmps55
 have hb2:Below w.heap.size w ((w.alloc (.cells #[.slice a1 xo.length d1,.bool xa,.bool xt,.slice a3 xc.length d3] 117)).alloc (.cells #[.slice a2 xo.length d2,.bool xa,.bool xt,.slice a4 xc.length d4] 117)):=((Below.refl _ _).alloc (Nat.le_refl _) _).alloc (by simp) _
 have hq1:∀ i,World.cell? ((w.alloc (.cells #[.slice a1 xo.length d1,.bool xa,.bool xt,.slice a3 xc.length d3] 117)).alloc (.cells #[.slice a2 xo.length d2,.bool xa,.bool xt,.slice a4 xc.length d4] 117)) ⟨w.heap.size,i,none⟩=(#[.slice a1 xo.length d1,.bool xa,.bool xt,.slice a3 xc.length d3]:Array Value)[i]?:=fun i=>by simp
 have hq2:∀ i,World.cell? ((w.alloc (.cells #[.slice a1 xo.length d1,.bool xa,.bool xt,.slice a3 xc.length d3] 117)).alloc (.cells #[.slice a2 xo.length d2,.bool xa,.bool xt,.slice a4 xc.length d4] 117)) ⟨w.heap.size+1,i,none⟩=(#[.slice a2 xo.length d2,.bool xa,.bool xt,.slice a4 xc.length d4]:Array Value)[i]?:=fun i=>by simp
 go_wp2_with fail
 generalize (w.alloc (.cells #[.slice a1 xo.length d1,.bool xa,.bool xt,.slice a3 xc.length d3] 117)).alloc (.cells #[.slice a2 xo.length d2,.bool xa,.bool xt,.slice a4 xc.length d4] 117)=W2 at *
 have HB2:=Zhd hb2
 have k10:(Zai W2).cell w.heap.size 0=some (.slice a1 xo.length d1):=by rw [Zap];exact hq1 0
 have k13:(Zai W2).cell w.heap.size 3=some (.slice a3 xc.length d3):=by rw [Zap];exact hq1 3
 have k20:(Zai W2).cell (w.heap.size+1) 0=some (.slice a2 xo.length d2):=by rw [Zap];exact hq2 0
 have k23:(Zai W2).cell (w.heap.size+1) 3=some (.slice a4 xc.length d4):=by rw [Zap];exact hq2 3
 have HIN:=Zhd (Za8 W2)
 have HLE:=Zhd (show H.le (Zai W2) from all_of (hH.below hb2))
 have O1:=Zhd h1.outs
 have O2:=Zhd h2.outs
 have C1:=Zhd h1.checks
 have C2:=Zhd h2.checks
 clear hq1 hq2 hb2 h1 h2
 dsimp only at O1 O2 C1 C2
 go_loopw [5] (fun i wr=>∃ k:Nat,i = .int .i64 k∧k≤xo.length∧Below W2.heap.size W2 wr) (fun i _=>xo.length - (intOf i).toNat)
 case atStart=>exact⟨0,rfl,Nat.zero_le _,Below.refl _ _⟩
 obtain⟨k,rfl,hk,hb⟩:=hrel
 have HB:=Zhd hb
 have HBW:=Zhd (HB2.out.trans (hb.mono HB2.out.size))
 clear hb
 have m1:=(HIN.out.below HB.out).cell k10
 have m2:=(HIN.out.below HB.out).cell k20
 by_cases hkl:k<xo.length
 ·obtain⟨b1,f1,b2,f2,rfl,rfl,x0,x1,y0,y1⟩:=vls_pair O1.out O2.out hkl
  have x0:=HLE.out.cell x0
  have x1:=HLE.out.cell x1
  have y0:=HLE.out.cell y0
  have y1:=HLE.out.cell y1
  have hS:=HIN.out.below HB.out.drew
  generalize xo[k].kind=xk at *
  generalize xo[k].n=xn at *
  go_wp2_with fail
  refine Za2 (fun w'=>(Zai W2).In w') (fun _=>True) 99 (by kernel_rfl) ?_
  refine tk2 (i:=0) (v:=?_) rfl hS Ztr ?hy ?_
  case hy=>intro w hSw;obtain⟨z0,z1,z2,z3,z4,z5⟩:=hSw.c6 k10 k20 x0 x1 y0 y1;go_simp<;>with_reducible rfl
  refine Zst ?_
  refine Go.w3 1 ?_
  iterate 10 ((first | (refine tk3 (v:=?_) rfl hS Ztr ?hy ?_;(case hy=>intro w hSw;obtain⟨z0,z1,z2,z3,z4,z5⟩:=hSw.c6 k10 k20 x0 x1 y0 y1;go_simp<;>with_reducible rfl)) | refine sk3 rfl hS Ztr ?_ | refine no3 ?_);refine Zss ?_)
  refine Go.w3e ?_
  refine Zwd ?_
  go_wp2_with fail
  go_roundw
  case rel=>exact⟨k+1,by go_num,by omega,HB.out.drew⟩
  simp [intOf];omega
 obtain rfl:k=xo.length:=by omega
 clear m1 m2
 have m1:=(HIN.out.below HB.out).cell k10
 have m2:=(HIN.out.below HB.out).cell k20
 go_wp2_with fail
 clear m1 m2 O1 O2
 go_loopw [6] (fun i wr=>∃ k:Nat,i = .int .i64 k∧k≤xc.length∧Below W2.heap.size W2 wr) (fun i _=>xc.length - (intOf i).toNat)
 case atStart=>exact⟨0,rfl,Nat.zero_le _,HB.out⟩
 clear HB HBW hk hkl
 obtain⟨k,rfl,hk,hb⟩:=hrel
 have HB:=Zhd hb
 have HBW:=Zhd (HB2.out.trans (hb.mono HB2.out.size))
 clear hb
 have m1:=(HIN.out.below HB.out).cell k13
 have m2:=(HIN.out.below HB.out).cell k23
 by_cases hkl:k<xc.length
 ·obtain⟨b1,f1,b2,f2,rfl,rfl,x0,y0⟩:=bls_pair C1.out C2.out hkl
  have x0:=HLE.out.cell x0
  have y0:=HLE.out.cell y0
  have hS:=HIN.out.below HB.out.drew
  generalize xc[k]=xk at *
  go_wp2_with fail
  refine Za2 (fun w'=>(Zai W2).In w') (fun _=>True) 99 (by kernel_rfl) ?_
  refine tk2 (i:=0) (v:=?_) rfl hS Ztr ?hy ?_
  case hy=>intro w hSw;obtain⟨z0,z1,z2,z3⟩:=hSw.c4 k13 k23 x0 y0;go_simp<;>with_reducible rfl
  refine Zst ?_
  refine Go.w3 1 ?_
  iterate 10 ((first | (refine tk3 (v:=?_) rfl hS Ztr ?hy ?_;(case hy=>intro w hSw;obtain⟨z0,z1,z2,z3⟩:=hSw.c4 k13 k23 x0 y0;go_simp<;>with_reducible rfl)) | refine sk3 rfl hS Ztr ?_ | refine no3 ?_);refine Zss ?_)
  refine Go.w3e ?_
  refine Zwd ?_
  go_wp2_with fail
  go_roundw
  case rel=>exact⟨k+1,by go_num,by omega,HB.out.drew⟩
  simp [intOf];omega
 obtain rfl:k=xc.length:=by omega
 go_wp2_with fail
 go_ret
 exact⟨rfl,HBW.out⟩
theorem sameTicks_any (H:Kn) (l:List Tk) (v1 v2:Value) (h1:TksV H l v1) (h2:TksV H l v2) (hz:l.length≤1000000∧∀ x∈l,x.out.length≤1000000000∧x.checks.length≤1000000000) (w:World) (hH:H.In w):
  Calls Tryz.prog 14 #[v1,v2] w fun r w'=>r = .returned (.bool true)∧Below w.heap.size w w':=by
 obtain⟨z1,z2⟩:=hz
 obtain⟨a1,c1,rfl⟩:=h1.len
 obtain⟨a2,c2,rfl⟩:=h2.len
 have H1:=Zhd h1
 have H2:=Zhd h2
 have HZ:=Zhd z2
 clear h1 h2 z2
 go_enter Tryz.func14,Tryz.ntmps14
 go_wp2_with fail
 go_loopw [5] (fun i wr=>∃ k:Nat,i = .int .i64 k∧k≤l.length∧Below w.heap.size w wr) (fun i _=>l.length - (intOf i).toNat)
 case atStart=>exact⟨0,rfl,Nat.zero_le _,Below.refl _ _⟩
 obtain⟨k,rfl,hk,hb⟩:=hrel
 have HB:=Zhd hb
 clear hb
 by_cases hkl:k<l.length
 ·obtain⟨b,off,e1,e2,e3,e4,rfl,d0,d1,d2,d3,hx⟩:=H1.out.at hkl
  obtain⟨b',off',e1',e2',e3',e4',rfl,d0',d1',d2',d3',hx'⟩:=H2.out.at hkl
  obtain⟨zo,zc⟩:=HZ.out _ (List.getElem_mem hkl)
  have HX:=Zhd hx
  have HX':=Zhd hx'
  clear hx hx'
  generalize l[k]=x at *
  have hS:=hH.below HB.out.drew
  go_wp2_with fail
  refine Za2 (fun w'=>H.In w') (fun _=>True) 99 (by kernel_rfl) ?_
  refine tk2 (i:=0) (v:=?_) rfl hS Ztr ?hy ?_
  case hy=>exact mNt1
  refine Zst ?_
  refine Go.w3 1 ?_
  iterate 7 ((first | (refine tk3 (v:=?_) rfl hS Ztr ?hy ?_;(case hy=>intro w hSw;obtain⟨z0,z1,z2,z3,z4,z5,z6,z7⟩:=hSw.c8 d0 d1 d2 d3 d0' d1' d2' d3';go_simp<;>with_reducible rfl)) | refine sk3 rfl hS Ztr ?_ | refine no3 ?_);refine Zss ?_)
  refine Go.w3e ?_
  refine Zwo 8 rfl fun K_ hK=>?_
  go_simp
  go_at_call 55
  refine (sameTick_any H x _ _ _ _ HX.out HX'.out ⟨zo,zc⟩ _ hS).mono ?_
  rintro r5 w5 ⟨rfl,hb5⟩
  have hS5:=hS.below hb5
  refine hK.out _ _ (hS5) Ztr ?_
  clear hK K_
  refine Zst ?_
  refine tk2 (i:=9) (v:=?_) rfl hS5 Ztr ?hy ?_
  case hy=>exact mNt1
  refine Zst ?_
  refine Zwd ?_
  have HB5:=Zhd (HB.out.drew.trans (hb5.mono (by have:=HB.out.drew.size;omega)))
  go_wp2_with fail
  go_roundw
  case rel=>exact⟨k+1,by go_num,by omega,HB5.out⟩
  simp [intOf];omega
 obtain rfl:k=l.length:=by omega
 go_wp2_with fail
 go_ret
 exact⟨rfl,HB.out⟩
end Go.Proofs.YtofameafdnkijaaGreatDoor
