/- Walks: slices.IndexFunc, ContainsFunc at terms; flat.form. -/
import Derived.Test.YtofameafdnkijaaGreatDoorRg
import Derived.Test.YtofameafdnkijaaGreatDoorArity
import Derived.Test.YtofameafdnkijaaGreatDoorMap
import Derived.Lib.AppendZeros
set_option linter.all false
namespace Go.Proofs.YtofameafdnkijaaGreatDoor
set_option maxRecDepth 100000
set_option maxHeartbeats 16000000
open Go.RowKit Mx
theorem mFormA1 {p:Prop} (h:p:=by
 go_wp2_with fail
 refine (Zf1 _ _ _ H _ l _ HP.out HU.out _ HI2.out.1 HI2.out).mono ?_
 rw [HA.out]
 rintro r w3 ⟨rfl,hb3⟩
 go_wp2_with fail
 go_ret
 exact⟨Zb6 (by rw [HR.out,HE3.out,e1];simp),hW2.trans (hb3.mono hW2.size)⟩):p:=h
def idxE (p:Ex→Bool) (l:List Ex):Int:=match l.findIdx? p with | some i=>(i:Int) | none => -1
theorem idxE_found (p:Ex→Bool) (l:List Ex) (k:Nat) (hk:k<l.length) (hp:p l[k]=true) (hn:∀ i (hi:i<l.length),i<k→p l[i]=false):idxE p l=(k:Int):=by
 have:l.findIdx? p=some k:=by
  rw [List.findIdx?_eq_some_iff_getElem]
  exact⟨hk,hp,fun j hj=>by simp [hn j (by omega) hj]⟩
 simp [idxE,this]
theorem idxE_none (p:Ex→Bool) (l:List Ex) (hn:∀ i (hi:i<l.length),p l[i]=false):idxE p l = -1:=by
 have:l.findIdx? p=none:=by
  rw [List.findIdx?_eq_none_iff]
  intro x hx
  obtain⟨i,hi,rfl⟩:=List.mem_iff_getElem.1 hx
  exact hn i hi
 simp [idxE,this]
theorem idxE_ge (p:Ex→Bool) (l:List Ex):decide (0≤idxE p l)=l.any p:=by
 cases h:l.findIdx? p with
 | none=>
  rw [idxE,h]
  rw [List.findIdx?_eq_none_iff] at h
  have:l.any p=false:=by simpa using h
  rw [this];rfl
 | some i=>
  rw [idxE,h]
  rw [List.findIdx?_eq_some_iff_getElem] at h
  obtain⟨hi,hp,_⟩:=h
  have:l.any p=true:=List.any_eq_true.2 ⟨l[i],List.getElem_mem _,hp⟩
  rw [this];simp
def ExPred (k:Nat) (cap:Array Value) (I:World→Prop) (H:Kn) (p:Ex→Bool) (l:List Ex):Prop:=
 Zdr Tryz.prog k∧(∀ w w',I w→Below w.heap.size w w'→I w')∧∀ e∈l,∀ v,ExV H e v→∀ w,I w→Calls Tryz.prog k (#[v]++cap) w fun r w'=>r = .returned (.bool (p e))∧Below w.heap.size w w'
theorem idxE_any (k:Nat) (cap:Array Value) (I:World→Prop) (H:Kn) (p:Ex→Bool) (l:List Ex) (v:Value) (hp:ExPred k cap I H p l) (hv:ExsV H l v) (w:World) (hH:H.In w) (hI:I w):
  Calls Tryz.prog 120 #[v,.func (.func k) #[] cap] w fun r w'=>r = .returned (.int .i64 (idxE p l))∧Below w.heap.size w w':=by
 obtain⟨hen,hst,hp⟩:=hp
 have HP:=Zhd hp
 have HS:=Zhd hst
 have HI:=Zhd hI
 clear hp hst hI
 unfold Zdr at hen
 by_cases hne:l=[]
 ·subst hne
  obtain⟨a,c,rfl⟩:=hv.len
  clear hv
  go_enter Tryz.func120,Tryz.ntmps120
  go_wp2_with fail
  go_rounds 1
  all_goals go_ret
  exact⟨rfl,Below.refl _ _⟩
 obtain⟨b,off,c,rfl,h1,h2,hc⟩:=hv.cell hne
 have HC:=Zhd hc
 clear hc hv
 have hlt:l.length≤9223372036854775807:=by unfold maxLen at h2;omega
 go_enter Tryz.func120,Tryz.ntmps120
 go_wp2_with fail
 go_loopw [8] (fun i wr=>∃ k:Nat,i = .int .i64 k∧k≤l.length∧Below w.heap.size w wr∧I wr∧(∀ i (hi:i<l.length),i<k→p l[i]=false)) (fun i _=>l.length - (intOf i).toNat)
 case atStart=>exact⟨0,rfl,Nat.zero_le _,Below.refl _ _,HI.out,fun i _ h=>by omega⟩
 obtain⟨k',rfl,hk,hb,hI,hn⟩:=hrel
 have HI:=Zhd hI
 have HN:=Zhd hn
 clear hI hn
 by_cases hkl:k'<l.length
 ·obtain⟨ax,cx,c0,c1,c2,c3,hx⟩:=HC.out k' hkl
  have hHr:=hH.below hb
  have c0:=hHr.cell c0
  have c1:=hHr.cell c1
  have c2:=hHr.cell c2
  have c3:=hHr.cell c3
  have hmem:=List.getElem_mem hkl
  cases he:p l[k']
  ·have HE:=Zhd he
   clear he
   have HX:=Zhd fun i (hi:i<l.length) (hik:i<k'+1)=>(show p l[i]=false from by
    by_cases hik':i<k'
    ·exact HN.out i hi hik'
    obtain rfl:i=k':=by omega
    exact HE.out)
   generalize l[k']=x at *
   go_wp2_with (refine (HP.out x hmem _ hx _ HI.out).mono ?_;rintro r w2 ⟨rfl,hb2⟩;rw [HE.out])
   go_roundw
   case rel=>exact⟨k'+1,by go_num,by omega,hb.trans (hb2.mono hb.size),HS.out _ _ HI.out hb2,HX.out⟩
   simp [intOf];omega
  have HE:=Zhd he
  clear he
  have HX:=Zhd (idxE_found p l k' hkl HE.out fun i hi hik=>HN.out i hi hik)
  generalize l[k']=x at *
  go_wp2_with (refine (HP.out x hmem _ hx _ HI.out).mono ?_;rintro r w2 ⟨rfl,hb2⟩;rw [HE.out])
  go_ret
  exact⟨Zat HX.out.symm,hb.trans (hb2.mono hb.size)⟩
 go_wp2_with fail
 go_ret
 exact⟨Zat (idxE_none _ _ fun i hi=>HN.out i hi (by omega)).symm,hb⟩
theorem idxE_lt (p:Ex→Bool) (l:List Ex) : -1≤idxE p l∧idxE p l<(l.length:Int)+1:=by
 unfold idxE
 cases h:l.findIdx? p with
 | none=>simp;omega
 | some i=>
  rw [List.findIdx?_eq_some_iff_getElem] at h
  obtain⟨hi,_⟩:=h
  simp;omega
theorem Zf1 (k:Nat) (cap:Array Value) (I:World→Prop) (H:Kn) (p:Ex→Bool) (l:List Ex) (v:Value) (hp:ExPred k cap I H p l) (hv:ExsV H l v) (w:World) (hH:H.In w) (hI:I w):
  Calls Tryz.prog 80 #[v,.func (.func k) #[] cap] w fun r w'=>r = .returned (.bool (l.any p))∧Below w.heap.size w w':=by
 have hb:=idxE_lt p l
 have HD:=Zhd (idxE_ge p l)
 have HI:=Zhd hI
 clear hI
 go_enter Tryz.func80,Tryz.ntmps80
 go_wp2_with fail
 refine (idxE_any k cap I H p l v hp hv _ hH HI.out).mono ?_
 rintro r w2 ⟨rfl,hb2⟩
 go_wp2_with fail
 go_ret
 exact⟨Zb6 HD.out,hb2⟩
theorem Zjs (ks:Env Int):∀ l:List Ex,(l.any fun x => !Zad ks x) = !Zck ks l
 | []=>rfl
 | e :: l=>by simp only [List.any_cons,Zck,Zjs ks l,Bool.not_and]
theorem form1_pred (H:Kn) (ks:Env Int) (bm B:Nat) (l:List Ex)
  (ih:∀ e∈l,∀ v,ExV H e v→∀ w,H.In w→Zaw (Value.int .i64) w bm ks→Calls Tryz.prog 139 #[v,.map (some bm)] w fun r w'=>r = .returned (.bool (Zad ks e))∧Below w.heap.size w w'):
  ExPred 157 #[.pointer (some ⟨B,0,none⟩)] (fun w=>H.In w∧Zaw (Value.int .i64) w bm ks∧w.cell? ⟨B,0,none⟩=some (.map (some bm))) H (fun x => !Zad ks x) l:=by
 refine⟨fun _ _=>by kernel_rfl,fun w w' ⟨h1,h2,h3⟩ hb=>⟨h1.below hb,h2.below hb,by rw [hb.cell (p:=⟨B,0,none⟩) (World.block_lt_of_cell? w _ h3)];exact h3⟩,?_⟩
 intro e he v hv w ⟨h1,h2,h3⟩
 have IH:=Zhd ih
 have hB:=World.block_lt_of_cell? w _ h3
 have hvv:=hv
 obtain⟨u,rfl,hu⟩:=hvv
 obtain⟨a,c,rfl⟩:=hu.len
 clear ih hu
 have c3:(w.alloc (.cells #[.string e.op,.int .i64 e.n,.string e.s,.slice a e.l.length c] 69)).cell? ⟨B,0,none⟩=some (.map (some bm)):=by rw [World.cell?_alloc_past _ _ _ hB];exact h3
 have H3:=Zhd h3
 clear h3
 show Calls Tryz.prog 157 #[.agg #[.string e.op,.int .i64 e.n,.string e.s,.slice a e.l.length c],.pointer (some ⟨B,0,none⟩)] w _
 go_enter Tryz.func157,Tryz.ntmps157
 go_wp2_with fail
 refine (IH.out e he _ hv _ (h1.alloc _) (h2.alloc _)).mono ?_
 rintro r w2 ⟨rfl,hb2⟩
 go_wp2_with fail
 go_ret
 exact⟨rfl,((Below.refl _ _).alloc (Nat.le_refl _) _).trans (hb2.mono (by simp))⟩
theorem formAll_any (H:Kn) (T:Zbo H) (ks:Env Int) (bm:Nat):∀ (e:Ex) (v:Value),ExV H e v→∀ w,H.In w→Zaw (Value.int .i64) w bm ks→
  Calls Tryz.prog 139 #[v,.map (some bm)] w fun r w'=>r = .returned (.bool (Zad ks e))∧Below w.heap.size w w':=by
 refine Ex.ind fun o n s l ih v hv w hH hM=>?_
 have hvv:=hv
 obtain⟨u,rfl,hu⟩:=hvv
 simp only [Ex.op,Ex.n,Ex.s,Ex.l] at hu hv ⊢
 obtain⟨a,cap,rfl⟩:=hu.len
 have HV:=Zhd hv
 have HU:=Zhd hu
 have HP:=Zhd (form1_pred H ks bm (w.heap.size+1) l ih)
 clear hv hu ih
 have hW1:Below w.heap.size w ((w.alloc (.cells #[.string o,.int .i64 n,.string s,.slice a l.length cap] 69)).alloc (.cells #[.map (some bm)] 97)):=((Below.refl _ _).alloc (Nat.le_refl _) _).alloc (by simp) _
 have hM1:Zaw (Value.int .i64) ((w.alloc (.cells #[.string o,.int .i64 n,.string s,.slice a l.length cap] 69)).alloc (.cells #[.map (some bm)] 97)) bm ks:=(hM.alloc _).alloc _
 have hz1:((w.alloc (.cells #[.string o,.int .i64 n,.string s,.slice a l.length cap] 69)).alloc (.cells #[.map (some bm)] 97)).heap.size=w.heap.size+2:=by simp
 have hrun:=hM1.run (P:=Tryz.prog) Tryz.underlying97 Tryz.underlying9 (d:=0) (by kernel_rfl) s true
 simp only [if_true] at hrun
 have q0:((w.alloc (.cells #[.string o,.int .i64 n,.string s,.slice a l.length cap] 69)).alloc (.cells #[.map (some bm)] 97)).cell? ⟨w.heap.size+1,0,none⟩=some (.map (some bm)):=by
  simp
 have HQ:=Zhd q0
 have HM:=Zhd hM1
 have HW:=Zhd hW1
 have HZ:=Zhd hz1
 obtain⟨fa,hfa⟩:∃ b,form (.mk o n s l)=b:=⟨_,rfl⟩
 obtain⟨is,his⟩:∃ b,(ks s).isSome=b:=⟨_,rfl⟩
 obtain⟨fl,hfl⟩:∃ b,Zck ks l=b:=⟨_,rfl⟩
 have hcall:=dLit o [99,97,108,108]
 have hname:=dLit o [110,97,109,101]
 have hR:Zad ks (.mk o n s l)=(fa && !(o.toList==[99,97,108,108])&&(!(o.toList==[110,97,109,101]) || is)&&fl):=by
  simp only [Zad]
  rw [hfa,his,hfl,← hcall,← hname]
  simp
 have hany:(l.any fun x => !Zad ks x) = !fl:=by rw [Zjs,hfl]
 rw [his] at hrun
 have HA:=Zhd hany
 have HFA:=Zhd hfa
 have HR:=Zhd hR
 generalize (ks s).getD 0=kv at *
 clear hfa his hfl hcall hname hR hany q0 hM1 hW1 hz1 hM
 go_enter Tryz.func139,Tryz.ntmps139
 go_wp2_with fail
 refine (form_any H T _ _ HV.out _ (hH.below HW.out)).mono ?_
 rw [HFA.out]
 rintro r w2 ⟨rfl,hb2⟩
 have hW2:=HW.out.trans (hb2.mono HW.out.size)
 have HI2:=Zhd (show H.In w2∧Zaw (Value.int .i64) w2 bm ks∧w2.cell? ⟨w.heap.size+1,0,none⟩=some (.map (some bm)) from⟨hH.below hW2,HM.out.below hb2,by rw [hb2.cell (p:=⟨w.heap.size+1,0,none⟩) (by rw [HZ.out];simp)];exact HQ.out⟩)
 obtain⟨hcc,hff⟩:=bcell hb2
 rw [HZ.out] at hcc hff
 clear hrun
 cases fa
 ·go_wp2_with fail
  go_ret
  exact⟨Zb6 (by rw [HR.out];rfl),hW2⟩
 rcases Bool.eq_false_or_eq_true (o.toList==[99,97,108,108]) with e1 | e1
 ·have n1:(o.toList != [99,97,108,108])=false:=by simp [bne,e1]
  go_wp2_with fail
  go_ret
  exact⟨Zb6 (by rw [HR.out];simp [e1]),hW2⟩
 have n1:(o.toList != [99,97,108,108])=true:=by simp [bne,e1]
 have hex:((o.toList==[110,97,109,101])=true∧is=false)∨((!(o.toList==[110,97,109,101]) || is)=true∧((o.toList==[110,97,109,101])=false∨((o.toList==[110,97,109,101])=true∧is=true))):=by
  cases (o.toList==[110,97,109,101])<;>cases is<;>simp
 rcases hex with ⟨e2,rfl⟩ | ⟨e3,hex⟩
 ·have n2:(o.toList != [110,97,109,101])=false:=by simp [bne,e2]
  go_wp2_with fail
  go_ret
  exact⟨Zb6 (by rw [HR.out];simp [e1,e2]),hW2⟩
 have HE3:=Zhd e3
 clear e3
 rcases hex with e2 | ⟨e2,rfl⟩
 ·have n2:(o.toList != [110,97,109,101])=true:=by simp [bne,e2]
  exact mFormA1
 have n2:(o.toList != [110,97,109,101])=false:=by simp [bne,e2]
 exact mFormA1
theorem Tryz.infoEx:(Tryz.prog.info? 69).map (fun i=>(i.zero,i.size,i.bytes))=some (some (.agg #[.string ⟨#[]⟩,.int .i64 0,.string ⟨#[]⟩,.slice none 0 0]),4,64):=by kernel_rfl
def XsAt (H:Kn):List Ex→List Value→Prop
 | [],xs=>xs=[]
 | e :: l,xs=>∃ a c r,xs = .string e.op :: .int .i64 e.n :: .string e.s :: .slice a e.l.length c :: r∧ExsV H e.l (.slice a e.l.length c)∧XsAt H l r
theorem XsAt.append {H:Kn}:∀ {l m:List Ex} {xs ys:List Value},XsAt H l xs→XsAt H m ys→XsAt H (l++m) (xs++ys)
 | [],_,_,_,h,k=>by rw [show _=[] from h];exact k
 | e :: l,m,xs,ys,h,k=>by
  obtain⟨a,c,r,rfl,h1,h2⟩:=h
  exact⟨a,c,r++ys,rfl,h1,h2.append k⟩
theorem XsAt.len {H:Kn}:∀ {l:List Ex} {xs:List Value},XsAt H l xs→xs.length=l.length * 4
 | [],_,h=>by rw [show _=[] from h];rfl
 | e :: l,xs,h=>by
  obtain⟨a,c,r,rfl,h1,h2⟩:=h
  have:=h2.len
  simp only [List.length_cons];omega
theorem XsAt.one {H:Kn}:∀ {l:List Ex} {xs:List Value},XsAt H l xs→∀ u∈xs,u.oneCell'=true
 | [],_,h,u,hu=>by rw [show _=[] from h] at hu;cases hu
 | e :: l,xs,h,u,hu=>by
  obtain⟨a,c,r,rfl,h1,h2⟩:=h
  simp only [List.mem_cons] at hu
  rcases hu with rfl | rfl | rfl | rfl | hu
  ·rfl
  ·rfl
  ·rfl
  ·rfl
  exact h2.one u hu
theorem Zcw.xs {H:Kn}:∀ {l:List Ex} {b off:Nat},Zcw H l b off→∃ xs,XsAt H l xs∧∀ j u,xs[j]?=some u→H.cell b (off+j)=some u
 | [],b,off,_=>⟨[],rfl,fun j u h=>by simp at h⟩
 | e :: l,b,off,h=>by
  simp only [Zcw] at h
  obtain⟨u,a0,a1,a2,a3,hu⟩:=h.1.cells
  obtain⟨a,c,rfl⟩:=hu.len
  obtain⟨r,h1,h2⟩:=Zcw.xs h.2
  refine⟨_,⟨a,c,r,rfl,hu,h1⟩,fun j v hj=>?_⟩
  match j,hj with
  | 0,hj=>simp at hj;rw [← hj];exact a0
  | 1,hj=>simp at hj;rw [← hj];exact a1
  | 2,hj=>simp at hj;rw [← hj];exact a2
  | 3,hj=>simp at hj;rw [← hj];exact a3
  | j+4,hj=>
   have:=h2 j v (by simpa using hj)
   rw [show off+(j+4)=off+4+j from by omega]
   exact this
theorem XsAt.at {H H':Kn} (hle:H.le H'):∀ {l:List Ex} {xs:List Value} {b off:Nat},XsAt H l xs→(∀ j u,xs[j]?=some u→H'.cell b (off+j)=some u)→Zcw H' l b off
 | [],_,_,_,_,_=>by simp only [Zcw]
 | e :: l,xs,b,off,h,k=>by
  obtain⟨a,c,r,rfl,h1,h2⟩:=h
  simp only [Zcw]
  refine⟨ExAt.mk (k 0 _ rfl) (k 1 _ rfl) (k 2 _ rfl) (k 3 _ rfl) (h1.le hle),h2.at hle fun j u hj=>?_⟩
  rw [show off+4+j=off+(j+4) from by omega]
  exact k (j+4) u (by simpa using hj)
theorem Zh1 {H:Kn} {w:World} {base:Nat} {t:TypeId} {v:Value} {l:List Ex} {xs:List Value} (hH:H.In w) (h:w.ownsRow base t 4 v l.length xs) (hx:XsAt H l xs):ExsV (Zai w) l v:=by
 have hle:H.le (Zai w):=fun b o e=>hH b o e
 by_cases h0:l=[]
 ·obtain⟨a,c,h1,_⟩:=Zau h
  exact .inl ⟨h0,a,c,by rw [h1,h0];rfl⟩
 obtain⟨g,cap,h1,h2,h3,_,_,h4⟩:=Zbp h (List.length_pos_iff.2 h0)
 exact .inr ⟨g,0,cap,h1,h2,h3,hx.at hle fun j u hj=>by rw [Zap,Nat.zero_add];exact h4 j u hj⟩
theorem grow_nil (n:Nat) (hn:n≤1000000000) (w:World):
  Calls Tryz.prog 88 #[.slice none 0 0,.int .i64 n] w fun r w'=>∃ v,r = .returned v∧w'.ownsRow w.heap.size 69 4 v 0 []∧Below w.heap.size w w':=by
 obtain⟨i0,hi,hz0,hz1,hz2⟩:=info_parts Tryz.infoEx
 by_cases h0:n=0
 ·subst h0
  clear hn
  go_enter Tryz.func88,Tryz.ntmps88
  go_wp2_with fail
  go_ret
  exact⟨_,rfl,World.ownsRow_nil _ _ _ _,Below.refl _ _⟩
 have hrun:=fun ty=>Lib.run_append_nil_zeros (P:=Tryz.prog) w 39 3 ty 69 i0 _ .i64 .i64 Tryz.underlying39 Tryz.underlying3 hi hz0 n (by omega) (by rw [hz1];omega) (by omega) (by rw [hz2];omega)
 have hpos:(0:Int)<n:=by omega
 have hge:n≤grownCap w n 0 69:=grownCap_ge w n 0 _
 have hle:grownCap w n 0 69≤maxLen:=grownCap_le_maxLen w n 0 _ (by unfold maxLen;omega)
 have hown:(w.drew.alloc (.cells (Builtin.zeroCells (Value.agg #[.string ⟨#[]⟩,.int .i64 0,.string ⟨#[]⟩,.slice none 0 0]).cells n++Builtin.zeroCells (Value.agg #[.string ⟨#[]⟩,.int .i64 0,.string ⟨#[]⟩,.slice none 0 0]).cells (grownCap w n 0 69 - n)) 69)).ownsRow w.heap.size 69 4 (.slice (some ⟨w.heap.size,0,none⟩) 0 (grownCap w n 0 69)) 0 []:=
  World.ownsRow_made w.drew _ _ (Nat.le_refl _) hle (by rw [Array.size_append,size_zeroCells,size_zeroCells];simp [Value.cells];omega)
 have HO:=Zhd hown
 have HB:=Zhd (show Below w.heap.size w (w.drew.alloc (.cells (Builtin.zeroCells (Value.agg #[.string ⟨#[]⟩,.int .i64 0,.string ⟨#[]⟩,.slice none 0 0]).cells n++Builtin.zeroCells (Value.agg #[.string ⟨#[]⟩,.int .i64 0,.string ⟨#[]⟩,.slice none 0 0]).cells (grownCap w n 0 69 - n)) 69)) from ((Below.refl _ _).drew).alloc (Nat.le_refl _) _)
 clear hown
 generalize w.drew.alloc (.cells (Builtin.zeroCells (Value.agg #[.string ⟨#[]⟩,.int .i64 0,.string ⟨#[]⟩,.slice none 0 0]).cells n++Builtin.zeroCells (Value.agg #[.string ⟨#[]⟩,.int .i64 0,.string ⟨#[]⟩,.slice none 0 0]).cells (grownCap w n 0 69 - n)) 69)=W at *
 generalize grownCap w n 0 69=cap at *
 unfold maxLen at hle
 have HRUN:=Zhd hrun
 clear hrun
 go_enter Tryz.func88,Tryz.ntmps88
 go_wp2_with (at_builtin;refine Zb1 rfl 39 3 _ _ rfl _ _ rfl rfl _ _ HRUN.out ?_)
 go_ret
 exact⟨_,rfl,HO.out,HB.out⟩
def Zdq (lss:List (List Ex)):Nat:=(lss.map List.length).sum
theorem lensum_take (lss:List (List Ex)) (k:Nat) (h:k<lss.length):Zdq (lss.take (k+1))=Zdq (lss.take k)+lss[k].length:=by
 unfold Zdq
 rw [List.take_succ_eq_append_getElem h,List.map_append,List.sum_append]
 simp
theorem Zid:∀ (lss:List (List Ex)) (k:Nat),Zdq (lss.take k)≤Zdq lss
 | [],k=>by simp
 | l :: r,0=>by simp [Zdq]
 | l :: r,k+1=>by
  have:=Zid r k
  unfold Zdq at this ⊢
  simp only [List.take_succ_cons,List.map_cons,List.sum_cons];omega
theorem flatten_len (lss:List (List Ex)):lss.flatten.length=Zdq lss:=by simp [Zdq,List.length_flatten]
theorem Zdm (b off j:Nat):(⟨b,off,none⟩:Addr).add j=⟨b,off+j,none⟩:=by unfold Addr.add;split<;>simp_all
theorem Zi6 (H:Kn) (lss:List (List Ex)) (vs:List Value) (B n:Nat) (w:World) (hH:H.In w) (hn:lss.length=n) (hn3:n≤1000) (hv:vs.length=n) (hB:B<w.heap.size)
  (hc:∀ i (h:i<vs.length),w.cell? ⟨B,i,none⟩=some vs[i]) (hs:∀ i (h:i<lss.length) (h':i<vs.length),ExsV H lss[i] vs[i]) (htot:Zdq lss≤1000000000):
  Calls Tryz.prog 42 #[.slice (some ⟨B,0,none⟩) n n] w fun r w'=>∃ v xs,r = .returned v∧w'.ownsRow w.heap.size 69 4 v lss.flatten.length xs∧XsAt H lss.flatten xs∧Below w.heap.size w w':=by
 have HC:=Zhd hc
 have HS:=Zhd hs
 have HN:=Zhd hn
 have HV:=Zhd hv
 clear hc hs hn hv
 go_enter Tryz.func42,Tryz.ntmps42
 go_wp2_with fail
 go_loop [3,11] (fun c i=>∃ k:Nat,i = .int .i64 k∧k≤n∧c = .int .i64 (Zdq (lss.take k))) (fun _ i=>n - (intOf i).toNat)
 case atStart=>exact⟨0,rfl,Nat.zero_le _,rfl⟩
 obtain⟨k,rfl,hk,rfl⟩:=hrel
 have hle:=Zid lss k
 by_cases hkn:k<n
 ·have hk1:k<lss.length:=by rw [HN.out];exact hkn
  have hk2:k<vs.length:=by rw [HV.out];exact hkn
  have hck:=HC.out k hk2
  obtain⟨a,c,hsl⟩:=(HS.out k hk1 hk2).len
  rw [hsl] at hck
  have hle2:=Zid lss (k+1)
  have LT:=Zhd (lensum_take lss k hk1)
  rw [LT.out] at hle2
  clear hsl
  generalize lss[k].length=m at *
  go_wp2_with fail
  go_round
  case rel=>exact⟨k+1,by go_num,by omega,by rw [LT.out];go_num⟩
  simp [intOf];omega
 obtain rfl:k=n:=by omega
 rw [show lss.take k=lss from by rw [← HN.out];exact List.take_length] at hle ⊢
 go_wp2_with fail
 refine (grow_nil (Zdq lss) htot _).mono ?_
 rintro r w1 ⟨v1,rfl,hown,hb1⟩
 obtain⟨g1,c1,rfl,_,_⟩:=Zau hown
 go_wp2_with fail
 go_loopw [6,27] (fun u i wr=>∃ (j:Nat) (xs:List Value),i = .int .i64 j∧j≤k∧wr.ownsRow w.heap.size 69 4 u (Zdq (lss.take j)) xs∧XsAt H (lss.take j).flatten xs∧Below w.heap.size w wr) (fun _ i _=>k - (intOf i).toNat)
 case atStart=>exact⟨0,[],rfl,Nat.zero_le _,hown,rfl,hb1⟩
 obtain⟨j,xs,rfl,hj,hown,hxs,hb⟩:=hrel
 have HXS:=Zhd hxs
 have hwr:=hb.size
 clear hxs
 by_cases hjk:j<k
 ·have hj1:j<lss.length:=by rw [HN.out];exact hjk
  have hj2:j<vs.length:=by rw [HV.out];exact hjk
  have hcj:=HC.out j hj2
  rw [← hb.cell (p:=⟨B,j,none⟩) hB] at hcj
  have hsj:=HS.out j hj1 hj2
  have hle2:=Zid lss (j+1)
  have LT:=Zhd (lensum_take lss j hj1)
  have FT:=Zhd (show (lss.take (j+1)).flatten=(lss.take j).flatten++lss[j] from by rw [List.take_succ_eq_append_getElem hj1,List.flatten_append,List.flatten_cons,List.flatten_nil,List.append_nil])
  rw [LT.out] at hle2
  obtain⟨i0,hi,hz0,hz1,hz2⟩:=info_parts Tryz.infoEx
  rcases hsj with ⟨he,a,c,hsl⟩ | ⟨b,off,c,hsl,hc1,hc2,hx⟩
  ·rw [hsl] at hcj
   have HRUN:=Zhd (Zbz (P:=Tryz.prog) 39 69 i0 Tryz.underlying39 hi hown a c)
   have LT':=Zhd (show Zdq (lss.take (j+1))=Zdq (lss.take j) from by rw [LT.out,he];rfl)
   have FT':=Zhd (show (lss.take (j+1)).flatten=(lss.take j).flatten from by rw [FT.out,he];simp)
   have HOWN:=Zhd hown
   clear hsl he hown
   go_wp2_with (at_builtin;refine Zb1 rfl 39 39 _ _ rfl _ _ rfl rfl _ _ HRUN.out ?_)
   go_roundw
   case rel=>exact⟨j+1,xs,by go_num,by omega,by rw [LT'.out];exact HOWN.out,by rw [FT'.out];exact HXS.out,hb⟩
   simp [intOf];omega
  rw [hsl] at hcj
  obtain⟨ys,hy1,hy2⟩:=hx.xs
  have HY1:=Zhd hy1
  have HY2:=Zhd hy2
  have hHr:=hH.below hb
  clear hsl hx hy1 hy2
  generalize lss[j]=lj at *
  go_wp2_with (at_builtin;refine wpList_append_own _ rfl _ _ 39 rfl w.heap.size 69 i0 _ 4 64 Tryz.underlying39 hi hz0 hz1 hz2 rfl (by decide) _ _ _ rfl hown ⟨b,off,none⟩ lj.length c ys rfl HY1.out.len ?c1 HY1.out.one ?c3 ?c4 hwr ?_)
  case c1=>intro q u hq;rw [Zdm];exact hHr.cell (HY2.out q u hq)
  case c3=>unfold maxLen;omega
  case c4=>omega
  intro v' w2 hown2 hg2 _
  have hb2:=hb.grown hg2 hwr (fun q hq=>(hown.lt q hq).1)
  go_wp2_with fail
  go_roundw
  case rel=>exact⟨j+1,xs++ys,by go_num,by omega,by rw [LT.out];exact hown2,by rw [FT.out];exact HXS.out.append HY1.out,hb2⟩
  simp [intOf];omega
 obtain rfl:j=k:=by omega
 have htk:lss.take j=lss:=by rw [← HN.out];exact List.take_length
 rw [htk] at hown HXS
 go_wp2_with fail
 go_ret
 exact⟨_,xs,rfl,by rw [flatten_len];exact hown,HXS.out,hb⟩
theorem cells4 (w:World) (x y z u:Value) (t:TypeId):∀ j v,[x,y,z,u][j]?=some v→(w.alloc (.cells #[x,y,z,u] t)).cell? ((⟨w.heap.size,0,none⟩:Addr).add j)=some v:=by
 intro j v h
 rw [Zdm,World.cell?_alloc_new]
 simpa using h
theorem FlsV.cell {H:Kn} {l:List Fl} {v:Value} (h:FlsV H l v) (hne:l≠[]):∃ b off cap,v = .slice (some ⟨b,off,none⟩) l.length cap∧l.length≤cap∧cap≤maxLen∧∀ i (hi:i<l.length),∃ ax cx,
  H.cell b (off+i * 6)=some (.string l[i].name)∧H.cell b (off+i * 6+1)=some (.int .i64 l[i].kind)∧H.cell b (off+i * 6+2)=some (.string l[i].e.op)∧H.cell b (off+i * 6+3)=some (.int .i64 l[i].e.n)∧
   H.cell b (off+i * 6+4)=some (.string l[i].e.s)∧H.cell b (off+i * 6+5)=some (.slice ax l[i].e.l.length cx)∧ExsV H l[i].e.l (.slice ax l[i].e.l.length cx):=by
 rcases h with ⟨h,_⟩ | ⟨b,off,cap,h1,h2,h3,h4⟩
 ·exact absurd h hne
 refine⟨b,off,cap,h1,h2,h3,fun i hi=>?_⟩
 obtain⟨u,a0,a1,a2,a3,a4,a5,hu⟩:=(h4 i hi).cells
 obtain⟨ax,cx,rfl⟩:=hu.len
 exact⟨ax,cx,a0,a1,a2,a3,a4,a5,hu⟩
theorem SlV.at {α:Type} {H:Kn} {k n:Nat} {R:α→(Nat→Option Value)→Prop} {l:List α} {a:Option Addr} {cap:Nat} (h:SlV H k R l (.slice a n cap)) {i:Nat} (hi:i<l.length):∃ b off,a=some ⟨b,off,none⟩∧cap≤maxLen∧R l[i] (fun j=>H.cell b (off+i * k+j)):=by
 rcases h with ⟨rfl,_⟩ | ⟨b,off,cap',h1,_,h2,h3⟩
 ·simp at hi
 cases h1
 exact⟨b,off,rfl,h2,h3 i hi⟩
theorem ExsV.at {H:Kn} {n:Nat} {l:List Ex} {a:Option Addr} {cap:Nat} (h:ExsV H l (.slice a n cap)) {i:Nat} (hi:i<l.length):∃ b off ax cx,a=some ⟨b,off,none⟩∧
  H.cell b (off+i * 4)=some (.string l[i].op)∧H.cell b (off+i * 4+1)=some (.int .i64 l[i].n)∧H.cell b (off+i * 4+2)=some (.string l[i].s)∧H.cell b (off+i * 4+3)=some (.slice ax l[i].l.length cx)∧
   ExV H l[i] (.agg #[.string l[i].op,.int .i64 l[i].n,.string l[i].s,.slice ax l[i].l.length cx]):=by
 obtain⟨b,off,cap',h1,_,_,hc⟩:=h.cell (fun e=>by rw [e] at hi;simp at hi)
 cases h1
 obtain⟨ax,cx,hh⟩:=hc i hi
 exact⟨b,off,ax,cx,rfl,hh⟩
theorem XsAt.le {H H':Kn} (hle:H.le H'):∀ {l:List Ex} {xs:List Value},XsAt H l xs→XsAt H' l xs
 | [],_,h=>h
 | e :: l,xs,⟨a,c,r,h0,h1,h2⟩=>⟨a,c,r,h0,h1.le hle,h2.le hle⟩
theorem Zbl {H:Kn} {w:World} (h:H.In w):H.le (Zai w):=fun b o e=>h b o e
theorem Zbt {w w':World} (hb:Below w.heap.size w w'):(Zai w).In w':=(Za8 w).below hb
theorem terms_any (H:Kn) (p:Pr) (vi vo vl va vc:Value) (hp:PrP H p vi vo vl va vc) (w:World) (hH:H.In w) (hsz:p.fl.length≤1000000∧p.as.length≤1000000∧p.cs.length≤1000000):
  Calls Tryz.prog 138 #[.agg #[vi,vo,vl,va,vc]] w fun r w'=>∃ v,r = .returned v∧ExsV (Zai w') p.terms v∧Below w.heap.size w w':=by
 obtain⟨h1,h2,h3,h4,h5⟩:=hp
 obtain⟨ai,ci,rfl⟩:=h1.len
 obtain⟨ao,co,rfl⟩:=h2.len
 obtain⟨aa,ca,rfl⟩:=h4.len
 obtain⟨ac,cc,rfl⟩:=h5.len
 clear h1 h2
 obtain⟨s1,s2,s3⟩:=hsz
 have H4:=Zhd h4
 have H5:=Zhd h5
 -- behind the loop
 have rest:∀ (w2:World) (v:Value) (xs:List Value),Below w.heap.size w w2→w2.ownsRow (w.heap.size+1) 69 4 v p.fl.length xs→XsAt H (p.fl.map (·.e)) xs→
   Calls Tryz.prog 42 #[.slice (some ⟨w2.heap.size,0,none⟩) 3 3] (w2.alloc (.cells #[v,.slice aa p.as.length ca,.slice ac p.cs.length cc] 39)) fun r w'=>∃ v,r = .returned v∧ExsV (Zai w') p.terms v∧Below w.heap.size w w':=by
  intro w2 v xs hb hown hxs
  have hB:w2.heap.size<(w2.alloc (.cells #[v,.slice aa p.as.length ca,.slice ac p.cs.length cc] 39)).heap.size:=by simp
  have hle2:=Zbl (hH.below hb)
  have hex:ExsV (Zai w2) (p.fl.map (·.e)) v:=Zh1 (hH.below hb) (by rw [List.length_map];exact hown) hxs
  have hb3:Below w.heap.size w (w2.alloc (.cells #[v,.slice aa p.as.length ca,.slice ac p.cs.length cc] 39)):=hb.alloc hb.size _
  refine (Zi6 (Zai w2) [p.fl.map (·.e),p.as,p.cs] [v,.slice aa p.as.length ca,.slice ac p.cs.length cc] w2.heap.size 3 _ ((Za8 w2).alloc _) rfl (by omega) rfl hB (fun i hi=>?_) (fun i hi hi'=>?_) ?_).mono ?_
  ·rw [World.cell?_alloc_new];simp at hi ⊢
  ·match i,hi with
   | 0,_=>exact hex
   | 1,_=>exact H4.out.le hle2
   | 2,_=>exact H5.out.le hle2
  ·simp [Zdq];omega
  rintro r w' ⟨v',xs',rfl,ho,hx,hbl⟩
  refine⟨v',rfl,?_,hb3.trans (hbl.mono (by have:=hb3.size;omega))⟩
  have hin:(Zai w2).In w':=((Za8 w2).alloc _).below hbl
  have:=Zh1 hin ho hx
  have e : [p.fl.map (·.e),p.as,p.cs].flatten=p.terms:=by simp [Pr.terms]
  rw [e] at this
  exact this
 have HR:=Zhd rest
 clear rest h4 h5
 have hW1:Below w.heap.size w (w.alloc (.cells #[.slice ai p.ins.length ci,.slice ao p.outs.length co,vl,.slice aa p.as.length ca,.slice ac p.cs.length cc] 41)):=(Below.refl _ _).alloc (Nat.le_refl _) _
 have hz1:(w.alloc (.cells #[.slice ai p.ins.length ci,.slice ao p.outs.length co,vl,.slice aa p.as.length ca,.slice ac p.cs.length cc] 41)).heap.size=w.heap.size+1:=by simp
 by_cases hne:p.fl=[]
 ·obtain⟨al,cl,rfl⟩:=h3.len
  have HX:=Zhd (show XsAt H (p.fl.map (·.e)) [] from by rw [hne];rfl)
  have h0:p.fl.length=0:=by rw [hne];rfl
  have HNE:=Zhd hne
  clear h3 hne
  rw [h0] at hW1 hz1 ⊢
  go_enter Tryz.func138,Tryz.ntmps138
  go_wp2_with fail
  have q3:(w.alloc (.cells #[.slice ai p.ins.length ci,.slice ao p.outs.length co,.slice al 0 cl,.slice aa p.as.length ca,.slice ac p.cs.length cc] 41)).cell? ⟨w.heap.size,3,none⟩=some (.slice aa p.as.length ca):=by rw [World.cell?_alloc_new];rfl
  have q4:(w.alloc (.cells #[.slice ai p.ins.length ci,.slice ao p.outs.length co,.slice al 0 cl,.slice aa p.as.length ca,.slice ac p.cs.length cc] 41)).cell? ⟨w.heap.size,4,none⟩=some (.slice ac p.cs.length cc):=by rw [World.cell?_alloc_new];rfl
  generalize w.alloc (.cells #[.slice ai p.ins.length ci,.slice ao p.outs.length co,.slice al 0 cl,.slice aa p.as.length ca,.slice ac p.cs.length cc] 41)=W at *
  have HZ1:=Zhd hz1
  clear hz1
  refine wp_loop_rounds 1 ?_
  rw [rounds_succ]
  go_wp2_with fail
  refine (HR.out _ _ [] hW1 (by rw [h0];exact World.ownsRow_nil _ _ _ _) HX.out).mono ?_
  rintro r w' ⟨v,rfl,hv,hb⟩
  go_wp2_with fail
  go_ret
  exact⟨v,rfl,hv,hb⟩
 obtain⟨b,off,cap,rfl,hc1,hc2,hc⟩:=FlsV.cell h3 hne
 have HC:=Zhd hc
 clear hc h3
 unfold maxLen at hc2
 go_enter Tryz.func138,Tryz.ntmps138
 go_wp2_with fail
 have q3:(w.alloc (.cells #[.slice ai p.ins.length ci,.slice ao p.outs.length co,.slice (some ⟨b,off,none⟩) p.fl.length cap,.slice aa p.as.length ca,.slice ac p.cs.length cc] 41)).cell? ⟨w.heap.size,3,none⟩=some (.slice aa p.as.length ca):=by rw [World.cell?_alloc_new];rfl
 have q4:(w.alloc (.cells #[.slice ai p.ins.length ci,.slice ao p.outs.length co,.slice (some ⟨b,off,none⟩) p.fl.length cap,.slice aa p.as.length ca,.slice ac p.cs.length cc] 41)).cell? ⟨w.heap.size,4,none⟩=some (.slice ac p.cs.length cc):=by rw [World.cell?_alloc_new];rfl
 generalize w.alloc (.cells #[.slice ai p.ins.length ci,.slice ao p.outs.length co,.slice (some ⟨b,off,none⟩) p.fl.length cap,.slice aa p.as.length ca,.slice ac p.cs.length cc] 41)=W at *
 have Q:=Zhd (And.intro q3 q4)
 have HW1:=Zhd hW1
 have HZ1:=Zhd hz1
 clear q3 q4 hW1 hz1
 go_loopw [3,9] (fun u i wr=>∃ (k:Nat) (xs:List Value),i = .int .i64 k∧k≤p.fl.length∧wr.ownsRow (w.heap.size+1) 69 4 u k xs∧XsAt H ((p.fl.take k).map (·.e)) xs∧Below (w.heap.size+1) W wr) (fun _ i _=>p.fl.length - (intOf i).toNat)
 case atStart=>exact⟨0,[],rfl,Nat.zero_le _,World.ownsRow_nil _ _ _ _,rfl,Below.refl _ _⟩
 obtain⟨k,xs,rfl,hk,hown,hxs,hb⟩:=hrel
 have HXS:=Zhd hxs
 have hwr:=hb.size
 rw [HZ1.out] at hwr
 have hbw:Below w.heap.size w wr:=HW1.out.trans (hb.mono (by omega))
 clear hxs
 by_cases hkl:k<p.fl.length
 ·obtain⟨ax,cx,c0,c1,c2,c3,c4,c5,hx⟩:=HC.out k hkl
  have hHr:=hH.below hbw
  have c0:=hHr.cell c0
  have c1:=hHr.cell c1
  have c2:=hHr.cell c2
  have c3:=hHr.cell c3
  have c4:=hHr.cell c4
  have c5:=hHr.cell c5
  have TK:=Zhd (show (p.fl.take (k+1)).map (·.e)=(p.fl.take k).map (·.e)++[p.fl[k].e] from by rw [List.take_succ_eq_append_getElem hkl,List.map_append];rfl)
  generalize p.fl[k]=f at *
  obtain⟨fname,fkind,fe⟩:=f
  dsimp only at *
  obtain⟨fo,fn,fs,fl'⟩:=fe
  simp only [Ex.op,Ex.n,Ex.s,Ex.l] at *
  have HX1:=Zhd (show XsAt H [Ex.mk fo fn fs fl'] [.string fo,.int .i64 fn,.string fs,.slice ax fl'.length cx] from⟨ax,cx,[],rfl,hx,rfl⟩)
  clear hx
  obtain⟨u',cu',rfl,_,_⟩:=Zau hown
  go_wp2_with (at_builtin;refine app1 39 69 4 64 _ Tryz.underlying39 Tryz.infoEx rfl (by decide) _ _ rfl rfl (w.heap.size+1) _ _ _ rfl ((hown.alloc _).alloc _) ⟨wr.heap.size+1,0,none⟩ 1 [.string fo,.int .i64 fn,.string fs,.slice ax fl'.length cx] rfl rfl ?c1 ?c2 ?c3 ?c4 ?c5 ?_)
  case c1=>
   have:=cells4 (wr.alloc (.cells #[.string fname,.int .i64 fkind,.string fo,.int .i64 fn,.string fs,.slice ax fl'.length cx] 71)) (.string fo) (.int .i64 fn) (.string fs) (.slice ax fl'.length cx) 69
   simpa using this
  case c2=>simp [Value.oneCell']
  case c3=>omega
  case c4=>omega
  case c5=>simp;omega
  intro v' w2 hown2 hg2
  have hb2:Below (w.heap.size+1) W w2:=((hb.alloc hwr _).alloc (by simp;omega) _).grown hg2 (by simp;omega) (fun q hq=>(hown.lt q hq).1)
  go_wp2_with fail
  go_roundw
  case rel=>exact⟨k+1,_,by go_num,by omega,hown2,by rw [TK.out];exact HXS.out.append HX1.out,hb2⟩
  simp [intOf];omega
 obtain rfl:k=p.fl.length:=by omega
 rw [List.take_length] at HXS
 obtain⟨u',cu',rfl,_,_⟩:=Zau hown
 have q3:wr.cell? ⟨w.heap.size,3,none⟩=some (.slice aa p.as.length ca):=by rw [hb.cell (p:=⟨w.heap.size,3,none⟩) (by simp)];exact Q.out.1
 have q4:wr.cell? ⟨w.heap.size,4,none⟩=some (.slice ac p.cs.length cc):=by rw [hb.cell (p:=⟨w.heap.size,4,none⟩) (by simp)];exact Q.out.2
 have HO:=Zhd hown
 clear hown
 go_wp2_with fail
 refine (HR.out _ _ xs hbw HO.out HXS.out).mono ?_
 rintro r w' ⟨v,rfl,hv,hb⟩
 go_wp2_with fail
 go_ret
 exact⟨v,rfl,hv,hb⟩
end Go.Proofs.YtofameafdnkijaaGreatDoor
