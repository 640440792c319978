/- Walks: lustrumref1: Index, Has, kindIn, VarsOf, Arity, Formed, formedIn, Parts, partsOf. -/
import Derived.Test.YtgoccoldkfpbgaaGreatDoorRg
import Derived.Test.YtgoccoldkfpbgaaGreatDoorRh
import Derived.Test.YtgoccoldkfpbgaaGreatDoorEof
import Derived.Test.YtgoccoldkfpbgaaGreatDoorRunM
import Derived.Test.YtgoccoldkfpbgaaGreatDoorKind
set_option linter.all false
namespace Go.Proofs.YtgoccoldkfpbgaaGreatDoor
set_option maxRecDepth 100000
set_option maxHeartbeats 16000000
open Go.RowKit Mx
theorem mRfA2 {p:Prop} (h:p:=by
 intro w hSw;obtain⟨z0,z1,z2⟩:=hSw.c3 k2 d0 d1;go_simp<;>with_reducible rfl):p:=h
theorem mRfA1 {p:Prop} (h:p:=by
 intro w hSw;obtain⟨z0,z1,z2⟩:=hSw.c3 k2 d0 d1;first | (go_simp;done) | (go_simp;with_reducible rfl)):p:=h
theorem str_eq (a b:ByteArray):(a.toList==b.toList)=decide (a=b):=Zen a b
def idxS (s:ByteArray) (l:List ByteArray):Int:=match l.findIdx? (fun x=>decide (x=s)) with | some i=>(i:Int) | none => -1
theorem idxS_found (s:ByteArray) (l:List ByteArray) (k:Nat) (hk:k<l.length) (hp:l[k]=s) (hn:∀ i (hi:i<l.length),i<k→l[i]≠s):idxS s l=(k:Int):=by
 have:l.findIdx? (fun x=>decide (x=s))=some k:=by
  rw [List.findIdx?_eq_some_iff_getElem]
  exact⟨hk,by simpa using hp,fun j hj=>by simpa using hn j (by omega) hj⟩
 simp [idxS,this]
theorem idxS_none (s:ByteArray) (l:List ByteArray) (hn:∀ i (hi:i<l.length),l[i]≠s):idxS s l = -1:=by
 have:l.findIdx? (fun x=>decide (x=s))=none:=by
  rw [List.findIdx?_eq_none_iff]
  intro x hx
  obtain⟨i,hi,rfl⟩:=List.mem_iff_getElem.1 hx
  simpa using hn i hi
 simp [idxS,this]
theorem idxS_ge (s:ByteArray) (l:List ByteArray):decide (0≤idxS s l)=l.contains s:=by
 cases h:l.findIdx? (fun x=>decide (x=s)) with
 | none=>
  rw [idxS,h]
  rw [List.findIdx?_eq_none_iff] at h
  have:l.contains s=false:=by
   cases hc:l.contains s with
   | false=>rfl
   | true=>have:=h s (by simpa using hc);simp at this
  rw [this];rfl
 | some i=>
  rw [idxS,h]
  rw [List.findIdx?_eq_some_iff_getElem] at h
  obtain⟨hi,hp,_⟩:=h
  have hp:l[i]=s:=by simpa using hp
  have:l.contains s=true:=by simp only [List.contains_iff_mem];rw [← hp];exact List.getElem_mem _
  rw [this];simp
theorem idxS_lt (s:ByteArray) (l:List ByteArray) : -1≤idxS s l∧idxS s l<(l.length:Int)+1:=by
 unfold idxS
 cases h:l.findIdx? (fun x=>decide (x=s)) with
 | none=>simp;omega
 | some i=>
  rw [List.findIdx?_eq_some_iff_getElem] at h
  obtain⟨hi,_⟩:=h
  simp;omega
theorem ridx_any (H:Kn) (v:Value) (l:List ByteArray) (s:ByteArray) (w:World) (hv:StrsV H l v) (hl:l.length≤1000000000) (hH:H.In w):
  Calls Tryz.prog 86 #[v,.string s] w fun e w'=>e = .returned (.int .i64 (idxS s l))∧w=w':=by
 obtain⟨a,c,rfl⟩:=hv.len
 have HV:=Zhd hv
 clear hv
 go_enter Tryz.func86,Tryz.ntmps86
 go_wp2_with fail
 go_loop [5] (fun i=>∃ k:Nat,k≤l.length∧i = .int .i64 k∧(∀ i (hi:i<l.length),i<k→l[i]≠s)) (fun i=>l.length - (intOf i).toNat)
 case atStart=>exact⟨0,Nat.zero_le _,rfl,by intro i _ h;omega⟩
 obtain⟨k,hk,rfl,hn⟩:=hrel
 have HN:=Zhd hn
 clear hn
 by_cases hlt:k<l.length
 ·obtain⟨b,off,rfl,_,c0⟩:=SlV.at HV.out hlt
  have c0:=hH.cell c0
  simp only [Nat.mul_one,Nat.add_zero] at c0
  by_cases he:l[k]=s
  ·have HI:=Zhd (idxS_found s l k hlt he fun i hi hik=>HN.out i hi hik)
   rw [he] at c0
   have hq:(s.toList==s.toList)=true:=by simp
   clear he
   go_wp2_with fail
   go_ret
   exact⟨Zah HI.out.symm,rfl⟩
  have HX:=Zhd (show ∀ i (hi:i<l.length),i<k+1→l[i]≠s from fun i hi hik=>by
   by_cases hik':i<k
   ·exact HN.out i hi hik'
   obtain rfl:i=k:=by omega
   exact he)
  have hq:(l[k].toList==s.toList)=false:=by rw [str_eq];simpa using he
  generalize l[k]=x at *
  clear he
  go_wp2_with fail
  go_round
  case rel=>exact⟨k+1,by omega,by go_num,HX.out⟩
  simp [intOf];omega
 go_wp2_with fail
 go_ret
 exact⟨Zah (idxS_none _ _ fun i hi=>HN.out i hi (by omega)).symm,rfl⟩
theorem rhas_any (H:Kn) (v:Value) (l:List ByteArray) (s:ByteArray) (w:World) (hv:StrsV H l v) (hl:l.length≤1000000000) (hH:H.In w):
  Calls Tryz.prog 63 #[v,.string s] w fun e w'=>e = .returned (.bool (l.contains s))∧w=w':=by
 have hb:=idxS_lt s l
 have HD:=Zhd (idxS_ge s l)
 go_enter Tryz.func63,Tryz.ntmps63
 go_wp2_with fail
 refine (ridx_any H v l s _ hv hl hH).mono ?_
 rintro e w' ⟨rfl,rfl⟩
 go_wp2_with fail
 go_ret
 exact⟨Za4 HD.out,rfl⟩
def Zbn:List Vr→ByteArray→Int
 | [],_=>0
 | x :: r,s=>if x.name=s then x.kind else Zbn r s
theorem Zh9 (s:ByteArray):∀ (l:List Vr) (k:Nat) (hk:k<l.length),l[k].name=s→(∀ i (hi:i<l.length),i<k→l[i].name≠s)→Zbn l s=l[k].kind
 | x :: l,0,_,hp,_=>by simp only [List.getElem_cons_zero] at hp ⊢;simp [Zbn,hp]
 | x :: l,k+1,hk,hp,hn=>by
  have h0:=hn 0 (by simp) (by omega)
  simp only [List.getElem_cons_zero] at h0
  simp only [List.getElem_cons_succ] at hp ⊢
  simp only [Zbn]
  rw [if_neg h0]
  exact Zh9 s l k (by simpa using hk) hp fun i hi hik=>by have:=hn (i+1) (by simpa using hi) (by omega);simpa using this
theorem Zjr (s:ByteArray):∀ (l:List Vr),(∀ i (hi:i<l.length),l[i].name≠s)→Zbn l s=0
 | [],_=>rfl
 | x :: l,hn=>by
  have h0:=hn 0 (by simp)
  simp only [List.getElem_cons_zero] at h0
  simp only [Zbn]
  rw [if_neg h0]
  exact Zjr s l fun i hi=>by have:=hn (i+1) (by simpa using hi);simpa using this
theorem Ze4 (H:Kn) (v:Value) (l:List Vr) (s:ByteArray) (w:World) (hv:VrsV H l v) (hl:l.length≤1000000000) (hH:H.In w):
  Calls Tryz.prog 68 #[v,.string s] w fun e w'=>e = .returned (.int .i64 (Zbn l s))∧w=w':=by
 obtain⟨a,c,rfl⟩:=hv.len
 have HV:=Zhd hv
 clear hv
 go_enter Tryz.func68,Tryz.ntmps68
 go_wp2_with fail
 go_loop [5] (fun i=>∃ k:Nat,k≤l.length∧i = .int .i64 k∧(∀ i (hi:i<l.length),i<k→l[i].name≠s)) (fun i=>l.length - (intOf i).toNat)
 case atStart=>exact⟨0,Nat.zero_le _,rfl,by intro i _ h;omega⟩
 obtain⟨k,hk,rfl,hn⟩:=hrel
 have HN:=Zhd hn
 clear hn
 by_cases hlt:k<l.length
 ·obtain⟨b,off,rfl,_,c0,c1⟩:=SlV.at HV.out hlt
  have c0:=hH.cell c0
  have c1:=hH.cell c1
  simp only [Nat.add_zero] at c0
  by_cases he:l[k].name=s
  ·have HI:=Zhd (Zh9 s l k hlt he fun i hi hik=>HN.out i hi hik)
   rw [he] at c0
   have hq:(s.toList==s.toList)=true:=by simp
   clear he
   generalize l[k].kind=kk at *
   go_wp2_with fail
   go_ret
   exact⟨Zah HI.out.symm,rfl⟩
  have HX:=Zhd (show ∀ i (hi:i<l.length),i<k+1→l[i].name≠s from fun i hi hik=>by
   by_cases hik':i<k
   ·exact HN.out i hi hik'
   obtain rfl:i=k:=by omega
   exact he)
  have hq:(l[k].name.toList==s.toList)=false:=by rw [str_eq];simpa using he
  generalize l[k]=x at *
  clear he
  go_wp2_with fail
  go_round
  case rel=>exact⟨k+1,by omega,by go_num,HX.out⟩
  simp [intOf];omega
 go_wp2_with fail
 go_ret
 exact⟨Zah (Zjr _ _ fun i hi=>HN.out i hi (by omega)).symm,rfl⟩
def Zc1 (p:Pr):List Vr:=p.ins++p.fl.map fun f=>⟨f.name,f.kind⟩
theorem vrsOf_len (p:Pr):(Zc1 p).length=p.ins.length+p.fl.length:=by simp [Zc1]
theorem Tryz.infoRVr:(Tryz.prog.info? 118).map (fun i=>(i.zero,i.size,i.bytes))=some (some (.agg #[.string ⟨#[]⟩,.int .i64 0]),2,24):=by kernel_rfl
theorem VrsV.xs {H:Kn} {l:List Vr} {b off:Nat} (h:∀ i (hi:i<l.length),VrC l[i] (fun j=>H.cell b (off+i * 2+j))):∀ j u,(l.flatMap fun v:Vr=>[Value.string v.name,.int .i64 v.kind])[j]?=some u→H.cell b (off+j)=some u:=fun j u hu=>by
 have hlen:(l.flatMap fun v:Vr=>[Value.string v.name,.int .i64 v.kind]).length=l.length * 2:=by
  clear h hu
  induction l with
  | nil=>rfl
  | cons x l ih=>simp only [List.flatMap_cons,List.length_append,List.length_cons,List.length_nil,ih];omega
 have hj:j<l.length * 2:=by rw [← hlen];exact (List.getElem?_eq_some_iff.1 hu).1
 have e:j / 2 * 2+j % 2=j:=by omega
 have hi:j / 2<l.length:=by omega
 have hg:=Zie 2 (fun v:Vr=>[Value.string v.name,.int .i64 v.kind]) (fun _=>rfl) l (j / 2) hi (j % 2) (by omega)
 rw [e,hu] at hg
 obtain⟨h0,h1⟩:=h (j / 2) hi
 rcases (show j % 2=0∨j % 2=1 from by omega) with hm | hm
 ·rw [hm] at hg
  simp at hg
  rw [hg,show off+j=off+j / 2 * 2+0 from by omega]
  exact h0
 rw [hm] at hg
 simp at hg
 rw [hg,show off+j=off+j / 2 * 2+1 from by omega]
 exact h1
theorem run_append_vrs {H:Kn} {W:World} {L:List Vr} (hK:H.In W) {l:List Vr} {a:Option Addr} {c:Nat} (h:VrsV H l (.slice a l.length c)) (hl:l.length≤1000000000) (hL:L.take l.length=l):
  ∃ v' W',(∀ ty,(Builtin.append_ #[22,22] ty #[.slice none 0 0,.slice a l.length c]).run Tryz.prog W = .ok v' W')∧RwO 118 2 VsX H W W' W.heap.size L l.length v' (l.flatMap fun v=>[.string v.name,.int .i64 v.kind]) H:=by
 obtain⟨i1,hi1,hy0,hy1,hy2⟩:=info_parts Tryz.infoRVr
 have hS0:RwO 118 2 VsX H W W W.heap.size L 0 (.slice none 0 0) [] H:=⟨Kn.le_refl H,fun _ _=>rfl,hK,Below.refl _ _,Nat.le_refl _,World.ownsRow_nil _ _ _ _,rfl,fun g hg=>by simp [Value.ownBlock] at hg⟩
 by_cases h0:l=[]
 ·subst h0
  exact⟨.slice none 0 0,W,fun ty=>Zbq 22 118 i1 Tryz.underlying22 hi1 (World.ownsRow_nil W W.heap.size 118 2) a c ty,hS0⟩
 rcases h with ⟨h,_⟩ | ⟨b,off,cap,he,hc1,hc2,hc3⟩
 ·exact absurd h h0
 cases he
 have hlen:0<l.length:=List.length_pos_iff.2 h0
 have hnl:(l.flatMap fun v:Vr=>[Value.string v.name,.int .i64 v.kind]).length=l.length * 2:=by
  clear hc3 hL hS0 hlen hl h0 hc1
  induction l with
  | nil=>rfl
  | cons x l ih=>simp only [List.flatMap_cons,List.length_append,List.length_cons,List.length_nil,ih];omega
 have hrun:=fun ty=>run_append_lies (P:=Tryz.prog) W 22 ty W.heap.size 118 i1 _ 2 24 Tryz.underlying22 hi1 hy0 hy1 hy2 rfl (by omega) (.slice none 0 0) 0 [] hS0.row ⟨b,off,none⟩ l.length c (l.flatMap fun v=>[.string v.name,.int .i64 v.kind]) hnl (fun j u hj=>by rw [Zc4];exact hK.cell (VrsV.xs hc3 j u hj)) (by
  intro u hu
  obtain⟨x,_,hx⟩:=List.mem_flatMap.1 hu
  simp at hx
  rcases hx with rfl | rfl<;>rfl) hlen (by unfold maxLen;omega) (by omega) (Nat.le_refl _) W.heap.size rfl
 obtain⟨g,cap',W',e1,e2,e3,e4,e5⟩:=hrun 0
 have hst:=hS0.step (by rw [Nat.zero_add,hL];exact rfl) e2 e3 e4
 rw [Nat.zero_add,List.nil_append] at hst
 refine⟨_,W',fun ty=>?_,hst⟩
 have:=e1
 rw [Nat.zero_add] at this
 exact this
theorem rvars_any (H:Kn) (p:Pr) (vi vo vl va vc:Value) (hp:PrP H p vi vo vl va vc) (hsz:p.ins.length≤1000000000∧p.fl.length≤1000000000) (w:World) (hH:H.In w):
  Calls Tryz.prog 50 #[.agg #[vi,vo,vl,va,vc]] w fun r w'=>∃ v K,r = .returned v∧VrsV K (Zc1 p) v∧Kn.Step H w K w':=by
 obtain⟨h1,h2,h3,h4,h5⟩:=hp
 obtain⟨ai,ci,rfl⟩:=h1.len
 obtain⟨ao,co,rfl⟩:=h2.len
 obtain⟨al,cl,rfl⟩:=h3.len
 obtain⟨aa,ca,rfl⟩:=h4.len
 obtain⟨ac,cc,rfl⟩:=h5.len
 obtain⟨s1,s2⟩:=hsz
 obtain⟨i0,hi0,hz0,hz1,hz2⟩:=info_parts Tryz.infoRVr
 have hvl:=vrsOf_len p
 clear h2 h4 h5
 go_enter Tryz.func50,Tryz.ntmps50
 have hb0:Below w.heap.size w (w.alloc (.cells #[.slice ai p.ins.length ci,.slice ao p.outs.length co,.slice al p.fl.length cl,.slice aa p.as.length ca,.slice ac p.cs.length cc] 27)):=(Below.refl _ _).alloc (Nat.le_refl _) _
 have hP0:=heap_alloc_new w (.cells #[.slice ai p.ins.length ci,.slice ao p.outs.length co,.slice al p.fl.length cl,.slice aa p.as.length ca,.slice ac p.cs.length cc] 27)
 have hlt1:w.heap.size<(w.alloc (.cells #[.slice ai p.ins.length ci,.slice ao p.outs.length co,.slice al p.fl.length cl,.slice aa p.as.length ca,.slice ac p.cs.length cc] 27)).heap.size:=by simp
 obtain⟨H1,hH1⟩:∃ K,K=H.add w.heap.size (.cells #[.slice ai p.ins.length ci,.slice ao p.outs.length co,.slice al p.fl.length cl,.slice aa p.as.length ca,.slice ac p.cs.length cc] 27 (0,0)):=⟨_,rfl⟩
 have hSt:Kn.Step H w H1 (w.alloc (.cells #[.slice ai p.ins.length ci,.slice ao p.outs.length co,.slice al p.fl.length cl,.slice aa p.as.length ca,.slice ac p.cs.length cc] 27)):=⟨by rw [hH1];exact Kn.le_add (hH.isNone (Nat.le_refl _)),fun b hb=>by rw [hH1,Kn.add_other _ _ (by omega)],by rw [hH1];exact (hH.below hb0).add hP0,hb0⟩
 have hc:∀ i,H1.cell w.heap.size i=(#[.slice ai p.ins.length ci,.slice ao p.outs.length co,.slice al p.fl.length cl,.slice aa p.as.length ca,.slice ac p.cs.length cc]:Array Value)[i]?:=fun i=>by unfold Kn.cell;rw [hH1,Kn.add_self]
 have k0:H1.cell w.heap.size 0=some (.slice ai p.ins.length ci):=hc 0
 have k2:H1.cell w.heap.size 2=some (.slice al p.fl.length cl):=hc 2
 have e0:=hSt.isin.cell k0
 obtain⟨v1,W2,hrun,hS1⟩:=run_append_vrs (L:=Zc1 p) hSt.isin (h1.le hSt.le VrC.mono) s1 (by unfold Zc1;rw [List.take_left])
 have HST:=Zhd hSt
 have HF:=Zhd (h3.le hSt.le (FlC.mono hSt.le))
 have HS1:=Zhd hS1
 clear hc hH1 hP0 hb0 hSt hS1 h1 h3
 go_wp2_with (at_builtin;refine Zbj rfl _ _ _ _ rfl _ _ rfl rfl _ _ hrun ?_)
 generalize w.alloc (.cells #[.slice ai p.ins.length ci,.slice ao p.outs.length co,.slice al p.fl.length cl,.slice aa p.as.length ca,.slice ac p.cs.length cc] 27)=W1 at *
 clear hrun e0
 go_loopw [3,4] (fun u i wr=>∃ (k:Nat) (xs:List Value),i = .int .i64 k∧k≤p.fl.length∧RwO 118 2 VsX H1 W1 wr W1.heap.size (Zc1 p) (p.ins.length+k) u xs H1) (fun _ i _=>p.fl.length - (intOf i).toNat)
 case atStart=>exact⟨0,_,rfl,Nat.zero_le _,HS1.out⟩
 obtain⟨k,xs,rfl,hk,hS⟩:=hrel
 have HS:=Zhd hS
 obtain⟨au,cu,rfl,_⟩:=Zas hS.row
 clear hS
 have m2:=HS.out.isin.cell k2
 by_cases hkl:k<p.fl.length
 ·obtain⟨b,off,cap0,he,_,_,hcs⟩:=FlsV.cell HF.out (fun e=>by rw [e] at hkl;simp at hkl)
  cases he
  obtain⟨_,_,d0,d1,_⟩:=hcs k hkl
  have hkv:p.ins.length+k<(Zc1 p).length:=by omega
  have hT:(Zc1 p).take (p.ins.length+(k+1))=(Zc1 p).take (p.ins.length+k)++[⟨p.fl[k].name,p.fl[k].kind⟩]:=by
   rw [show p.ins.length+(k+1)=p.ins.length+k+1 from by omega,Zdt _ _ hkv]
   congr 2
   simp [Zc1]
  have HT:=Zhd hT
  clear hT hcs
  generalize p.fl[k]=x at *
  have hSD:=HS.out.drew
  have hS2:=hSD.isin
  go_wp2_with fail
  refine Zae (fun w'=>H1.In w') (fun _=>True) 15 (by kernel_rfl) ?_
  refine w3 0 ?_
  iterate 2 ((first | (refine tk3 (v:=?_) rfl hS2 Ztr ?hy ?_;(case hy=>exact mRfA2)) | refine sk3 rfl hS2 Ztr ?_ | refine no3 ?_);refine Zss ?_)
  refine w3e ?_
  refine tk2 (i:=3) (v:=?_) rfl hS2 Ztr ?hy ?_
  case hy=>exact mRfA1
  try simp only [tkS]
  refine tk2 (i:=2) (v:=?_) rfl hS2 Ztr ?hy ?_
  case hy=>exact mRfA1
  try simp only [tkS]
  refine w3 4 ?_
  iterate 4 ((first | (refine tk3 (v:=?_) rfl hS2 Ztr ?hy ?_;(case hy=>exact mRfA2)) | refine sk3 rfl hS2 Ztr ?_ | refine no3 ?_);refine Zss ?_)
  refine w3e ?_
  refine tk2 (i:=9) (v:=?_) rfl hS2 Ztr ?hy ?_
  case hy=>exact mRfA1
  try simp only [tkS]
  refine tk2 (i:=8) (v:=?_) rfl hS2 Ztr ?hy ?_
  case hy=>exact mRfA1
  try simp only [tkS]
  refine w3 10 ?_
  iterate 4 ((first | (refine tk3 (v:=?_) rfl hS2 Ztr ?hy ?_;(case hy=>exact mRfA2)) | refine sk3 rfl hS2 Ztr ?_ | refine no3 ?_);refine Zss ?_)
  refine w3e ?_
  refine Zwo 14 rfl fun K_ hK=>?_
  go_simp
  refine hK.out _ _ (hSD.alloc _ |>.isin) Ztr ?_
  clear hK K_
  try simp only [tkS]
  refine Zwo 15 rfl fun K_ hK=>?_
  refine step_append_lies _ (by rfl) _ _ _ (by rfl) W1.heap.size 118 i0 _ 2 24 Tryz.underlying22 hi0 hz0 hz1 hz2 rfl (by omega) _ (p.ins.length+k) xs (by rfl) (RwO.row (RwO.alloc hSD _)) ⟨_,0,none⟩ 1 1 [.string x.name,.int .i64 x.kind] (by rfl) (by rfl) (by exact World.news_of_block (heap_alloc_new _ _)) (by simp [Value.oneCell']) (by omega) (by unfold maxLen;omega) (by omega) (RwO.size (RwO.alloc hSD _)) _ rfl ?_
  intro gg cap' w3 hown hgrow hat hltg
  have hf3:=RwO.step (n':=1) (RwO.alloc hSD _) (by rw [show p.ins.length+k+1=p.ins.length+(k+1) from by omega,HT.out];have h1:=HS.out.xs;unfold VsX at h1 ⊢;rw [h1];simp) hown hgrow hat
  refine hK.out _ _ (hf3.isin) Ztr ?_
  clear hK K_
  try simp only [tkS]
  refine tk2 (i:=16) (v:=?_) rfl hf3.isin Ztr ?hy ?_
  case hy=>exact mRfA1
  try simp only [tkS]
  refine Zwd ?_
  go_wp2_with fail
  go_roundw
  case rel=>exact⟨k+1,_,by go_num,by omega,hf3⟩
  simp [intOf];omega
 obtain rfl:k=p.fl.length:=by omega
 have hxs:=HS.out.xs
 have hrow:=HS.out.row
 rw [← hvl] at hxs hrow
 rw [List.take_of_length_le (Nat.le_refl _)] at hxs
 obtain⟨K',hle,hin,hv,hfr⟩:=Zcw (R:=fun _=>VrC) HS.out.isin hrow (fun g hg=>HS.out.noR g (by rw [← hvl];exact hg)) (fun K' _=>VsX.at (K':=K') hxs)
 have HR:=Zhd (show Kn.Step H w K' wr from HST.out.trans ⟨Kn.le_trans HS.out.le hle,fun b hb=>(hfr b hb).trans (HS.out.fresh b hb),hin,HS.out.below⟩)
 have HV:=Zhd hv
 rw [hvl] at HV
 clear hv hin hfr hle hxs hrow
 go_wp2_with fail
 go_ret
 exact⟨_,K',rfl,HV.out,HR.out⟩
theorem rform_any (e:Ex) (v:Value) (H:Kn) (hv:ExV H e v) (w:World):
  Calls Tryz.prog 118 #[v] w fun r w'=>r = .returned (.bool (form e))∧Below w.heap.size w w':=by
 obtain⟨u,rfl,hu⟩:=hv
 obtain⟨a,cap,rfl⟩:=hu.len
 clear hu
 have HF:=Zhd (form_eq e)
 have HAR:=Zhd (rarity_any e.op)
 generalize form e=fe at *
 generalize e.op=o at *
 generalize e.n=n at *
 generalize e.s=s at *
 generalize e.l.length=k at *
 clear e
 unfold formA formB at HF
 have HB0:=Zhd (show Below w.heap.size w (w.alloc (.cells #[.string o,.int .i64 n,.string s,.slice a k cap] 79)) from (Below.refl _ _).alloc (Nat.le_refl _) _)
 generalize arB o=B at *
 generalize arN o=N at *
 have hNs:(B=false)∨(B=true∧N<0∧¬ 0≤N)∨(B=true∧¬ N<0∧0≤N∧N=(k:Int))∨(B=true∧¬ N<0∧0≤N∧¬ N=(k:Int)):=by
  cases B with
  | false=>exact .inl rfl
  | true=>
   by_cases h1:N<0
   ·exact .inr (.inl ⟨rfl,h1,by omega⟩)
   by_cases h2:N=(k:Int)
   ·exact .inr (.inr (.inl ⟨rfl,h1,by omega,h2⟩))
   exact .inr (.inr (.inr ⟨rfl,h1,by omega,h2⟩))
 have hns:(n=0)∨(¬ n=0∧n<0∧¬ 0<n)∨(¬ n=0∧¬ n<0∧0<n∧n≤127∧¬ 127<n)∨(¬ n=0∧¬ n<0∧0<n∧¬ n≤127∧127<n):=by omega
 obtain⟨I,hI⟩:∃ I,(o.toList==[105,110,116])=I:=⟨_,rfl⟩
 have har:∀ w,Calls Tryz.prog 134 #[.string o] w fun e w'=>e = .returned (.tuple #[.int .i64 N,.bool B])∧w=w':=HAR.out
 rw [hI] at HF
 rcases hNs with rfl | ⟨rfl,n1,n2⟩ | ⟨rfl,n1,n2,n3⟩ | ⟨rfl,n1,n2,n3⟩
 all_goals rcases hns with rfl | ⟨m1,m2,m3⟩ | ⟨m1,m2,m3,m4,m5⟩ | ⟨m1,m2,m3,m4,m5⟩
 all_goals cases I
 all_goals
  go_enter Tryz.func118,Tryz.ntmps118
  go_wp2_with (go_at_call 134;refine (har _).mono ?_;rintro e w' ⟨rfl,rfl⟩)
 all_goals go_ret
 all_goals refine⟨Za4 ?_,HB0.out⟩
 all_goals rw [HF.out]
 all_goals (first | (simp [*];done) | (simp [*];intros;exfalso;omega))
def ksOf (l:List Vr):Env Int:=fun s=>if Zbn l s=0 then none else some (Zbn l s)
theorem Zem (ks:Env Int):∀ l:List Ex,Zby ks l=l.all fun e=>Zaf ks e
 | []=>rfl
 | e :: l=>by simp only [Zby,List.all_cons,Zem ks l]
theorem Zg9 (ks:Env Int) (l:List Ex) (k:Nat) (hk:k<l.length) (h:Zaf ks l[k]=false):Zby ks l=false:=by
 rw [Zem]
 cases hc:l.all fun e=>Zaf ks e with
 | false=>rfl
 | true=>have:=List.all_eq_true.1 hc _ (List.getElem_mem hk);rw [h] at this;cases this
theorem Zic (ks:Env Int) (l:List Ex) (h:∀ i (hi:i<l.length),Zaf ks l[i]=true):Zby ks l=true:=by
 rw [Zem,List.all_eq_true]
 intro x hx
 obtain⟨i,hi,rfl⟩:=List.mem_iff_getElem.1 hx
 exact h i hi
theorem Zjw (H:Kn) (V:List Vr) (vv:Value) (hV:VrsV H V vv) (hVl:V.length≤1000000000):∀ (e:Ex) (v:Value),ExV H e v→e.parts≤1000000000000→∀ w:World,H.In w→
  Calls Tryz.prog 106 #[v,vv] w fun r w'=>r = .returned (.bool (Zaf (ksOf V) e))∧Below w.heap.size w w':=by
 obtain⟨av,cv,rfl⟩:=hV.len
 have HVV:=Zhd hV
 clear hV
 refine Ex.ind fun o n s l ih v hv hp w hH=>?_
 have hvv:=hv
 obtain⟨u,rfl,hu⟩:=hvv
 simp only [Ex.op,Ex.n,Ex.s,Ex.l] at hu hv ⊢
 simp only [Ex.parts] at hp
 obtain⟨a,cap,rfl⟩:=hu.len
 have hll:=Zbr l
 have HV:=Zhd hv
 have HU:=Zhd hu
 have IH:=Zhd ih
 clear hv hu ih
 have hb0:Below w.heap.size w (w.alloc (.cells #[.string o,.int .i64 n,.string s,.slice a l.length cap] 79)):=(Below.refl _ _).alloc (Nat.le_refl _) _
 have hq:∀ i,(w.alloc (.cells #[.string o,.int .i64 n,.string s,.slice a l.length cap] 79)).cell? ⟨w.heap.size,i,none⟩=(#[.string o,.int .i64 n,.string s,.slice a l.length cap]:Array Value)[i]?:=fun i=>World.cell?_alloc_new _ _ _ _
 have hlt1:w.heap.size<(w.alloc (.cells #[.string o,.int .i64 n,.string s,.slice a l.length cap] 79)).heap.size:=by simp
 have HB0:=Zhd hb0
 have HQ:=Zhd hq
 have hcall:=dLit o [99,97,108,108]
 have hname:=dLit o [110,97,109,101]
 have hR:Zaf (ksOf V) (.mk o n s l)=(form (.mk o n s l) && !(o.toList==[99,97,108,108])&&(!(o.toList==[110,97,109,101]) || !decide (Zbn V s=0))&&Zby (ksOf V) l):=by
  simp only [Zaf]
  rw [← hcall,← hname]
  unfold ksOf
  by_cases h0:Zbn V s=0<;>simp [h0]
 have HR:=Zhd hR
 have hfa:∃ b,form (.mk o n s l)=b:=⟨_,rfl⟩
 obtain⟨fa,hfa⟩:=hfa
 obtain⟨bc,hbc⟩:∃ b,(o.toList==[99,97,108,108])=b:=⟨_,rfl⟩
 obtain⟨bn,hbn⟩:∃ b,(o.toList==[110,97,109,101])=b:=⟨_,rfl⟩
 rw [hfa,hbc,hbn] at HR
 have HFA:=Zhd hfa
 clear hR hcall hname hfa hb0 hq
 have hcase:(fa=false)∨(fa=true∧bc=true)∨(fa=true∧bc=false∧bn=true∧Zbn V s=0)∨(fa=true∧bc=false∧(bn=true∧(Zbn V s==0)=false∨bn=false)):=by
  cases fa<;>cases bc<;>cases bn<;>simp
  by_cases h:Zbn V s=0<;>simp [h]
 go_enter Tryz.func106,Tryz.ntmps106
 go_wp2_with fail
 generalize w.alloc (.cells #[.string o,.int .i64 n,.string s,.slice a l.length cap] 79)=W at *
 refine (rform_any (.mk o n s l) _ H HV.out W).mono ?_
 rw [HFA.out]
 rintro r w1 ⟨rfl,hb1⟩
 have p0:w1.cell? ⟨w.heap.size,0,none⟩=some (.string o):=by rw [hb1.cell (p:=⟨w.heap.size,0,none⟩) hlt1];exact HQ.out 0
 have p2:w1.cell? ⟨w.heap.size,2,none⟩=some (.string s):=by rw [hb1.cell (p:=⟨w.heap.size,2,none⟩) hlt1];exact HQ.out 2
 have p3:=Zhd (show w1.cell? ⟨w.heap.size,3,none⟩=some (.slice a l.length cap) by rw [hb1.cell (p:=⟨w.heap.size,3,none⟩) hlt1];exact HQ.out 3)
 have hlt2:w.heap.size<w1.heap.size:=Nat.lt_of_lt_of_le hlt1 hb1.size
 have HB1:=Zhd (HB0.out.trans (hb1.mono HB0.out.size))
 have hH1:=hH.below HB1.out
 clear hb1
 have KI:=Zhd (fun w2 (h:H.In w2)=>Ze4 H _ V s w2 HVV.out hVl h)
 generalize Zbn V s=kk at *
 rcases hcase with rfl | ⟨rfl,rfl⟩ | ⟨rfl,rfl,rfl,hk0⟩ | ⟨rfl,rfl,hrest⟩
 ·go_wp2_with fail
  go_ret
  exact⟨Za4 (by rw [HR.out];rfl),HB1.out⟩
 ·go_wp2_with fail
  go_ret
  exact⟨Za4 (by rw [HR.out];rfl),HB1.out⟩
 ·subst hk0
  go_wp2_with (go_at_call 68;refine (KI.out _ hH1).mono ?_;rintro r w2 ⟨rfl,rfl⟩)
  go_ret
  exact⟨Za4 (by rw [HR.out];rfl),HB1.out⟩
 have hRR:Zaf (ksOf V) (.mk o n s l)=Zby (ksOf V) l:=by
  rw [HR.out]
  rcases hrest with ⟨rfl,h⟩ | rfl
  ·have h':¬ kk=0:=by simpa using h
   simp [h']
  simp
 have HRR:=Zhd hRR
 clear hRR HR
 rcases hrest with ⟨rfl,hk0⟩ | rfl
 all_goals
  go_wp2_with (go_at_call 68;refine (KI.out _ hH1).mono ?_;rintro r w2 ⟨rfl,rfl⟩)
  go_loopw [4,5] (fun _ i wr=>∃ k:Nat,i = .int .i64 k∧k≤l.length∧(∀ i (hi:i<l.length),i<k→Zaf (ksOf V) l[i]=true)∧Below w1.heap.size w1 wr) (fun _ i _=>l.length - (intOf i).toNat)
  case atStart=>exact⟨0,rfl,Nat.zero_le _,fun i _ h=>by omega,Below.refl _ _⟩
  obtain⟨k,rfl,hk,hn,hb⟩:=hrel
  have HN:=Zhd hn
  have HB:=Zhd hb
  have e3:wr.cell? ⟨w.heap.size,3,none⟩=some (.slice a l.length cap):=by rw [hb.cell (p:=⟨w.heap.size,3,none⟩) hlt2];exact p3.out
  have HBW:=Zhd (HB1.out.trans (hb.mono HB1.out.size))
  clear hn hb
  by_cases hkl:k<l.length
  ·obtain⟨b,off,ax,cx,rfl,c0,c1,c2,c3,hx⟩:=HU.out.at hkl
   have hHr:=hH.below HBW.out
   have c0:=hHr.cell c0
   have c1:=hHr.cell c1
   have c2:=hHr.cell c2
   have c3:=hHr.cell c3
   have hpx:l[k].parts≤1000000000000:=by have:=Zau l k hkl;omega
   have hmem:=List.getElem_mem hkl
   cases he:Zaf (ksOf V) l[k]
   ·have HF:=Zhd (Zg9 _ l k hkl he)
    generalize l[k]=x at *
    have HE:=Zhd he
    clear he
    go_wp2_with fail
    refine (IH.out x hmem _ hx hpx _ hHr).mono ?_
    rw [HE.out]
    rintro r w3 ⟨rfl,hb3⟩
    go_wp2_with fail
    go_ret
    exact⟨Za4 (by rw [HRR.out,HF.out]),HBW.out.trans (hb3.mono HBW.out.size)⟩
   have HX:=Zhd (show ∀ i (hi:i<l.length),i<k+1→Zaf (ksOf V) l[i]=true from fun i hi hik=>by
    by_cases hik':i<k
    ·exact HN.out i hi hik'
    obtain rfl:i=k:=by omega
    exact he)
   generalize l[k]=x at *
   have HE:=Zhd he
   clear he
   go_wp2_with fail
   refine (IH.out x hmem _ hx hpx _ hHr).mono ?_
   rw [HE.out]
   rintro r w3 ⟨rfl,hb3⟩
   have hW3:=HB.out.trans (hb3.mono HB.out.size)
   go_wp2_with fail
   go_roundw
   case rel=>exact⟨k+1,by go_num,by omega,HX.out,hW3⟩
   simp [intOf];omega
  go_wp2_with fail
  go_ret
  exact⟨Za4 (by rw [HRR.out,Zic _ l fun i hi=>HN.out i hi (by omega)]),HBW.out⟩
theorem rparts_any (H:Kn):∀ (e:Ex) (v:Value),ExV H e v→e.parts≤1000000000000000000→∀ w:World,H.In w→
  Calls Tryz.prog 119 #[v] w fun r w'=>r = .returned (.int .i64 e.parts)∧Below w.heap.size w w':=by
 refine Ex.ind fun o n s l ih v hv hp w hH=>?_
 obtain⟨u,rfl,hu⟩:=hv
 simp only [Ex.op,Ex.n,Ex.s,Ex.l] at hu ⊢
 simp only [Ex.parts] at hp ⊢
 obtain⟨a,cap,rfl⟩:=hu.len
 have HU:=Zhd hu
 have IH:=Zhd ih
 have hll:=Zbr l
 clear hu ih
 go_enter Tryz.func119,Tryz.ntmps119
 go_wp2_with fail
 have hW1:Below w.heap.size w (w.alloc (.cells #[.string o,.int .i64 n,.string s,.slice a l.length cap] 79)):=(Below.refl _ _).alloc (Nat.le_refl _) _
 have hP1:(w.alloc (.cells #[.string o,.int .i64 n,.string s,.slice a l.length cap] 79)).cell? ⟨w.heap.size,3,none⟩=some (.slice a l.length cap):=by rw [World.cell?_alloc_new];rfl
 have hlt1:w.heap.size<(w.alloc (.cells #[.string o,.int .i64 n,.string s,.slice a l.length cap] 79)).heap.size:=by simp
 generalize w.alloc (.cells #[.string o,.int .i64 n,.string s,.slice a l.length cap] 79)=W at *
 have HW1:=Zhd hW1
 have HP1:=Zhd hP1
 clear hW1 hP1
 go_loopw [3,4] (fun c i wr=>∃ k:Nat,i = .int .i64 k∧k≤l.length∧c = .int .i64 ((1+Ex.partsL (l.take k):Nat):Int)∧Below W.heap.size W wr) (fun _ i _=>l.length - (intOf i).toNat)
 case atStart=>exact⟨0,rfl,Nat.zero_le _,rfl,Below.refl _ _⟩
 obtain⟨k,rfl,hk,rfl,hb⟩:=hrel
 have HB:=Zhd hb
 clear hb
 have hpl:=Zcq l k
 have p3:wr.cell? ⟨w.heap.size,3,none⟩=some (.slice a l.length cap):=by rw [HB.out.cell (p:=⟨w.heap.size,3,none⟩) hlt1];exact HP1.out
 have hBW:Below w.heap.size w wr:=HW1.out.trans (HB.out.mono HW1.out.size)
 by_cases hkl:k<l.length
 ·obtain⟨b,off,ax,cx,rfl,c0,c1,c2,c3,hx⟩:=HU.out.at hkl
  have hHr:=hH.below hBW
  have c0:=hHr.cell c0
  have c1:=hHr.cell c1
  have c2:=hHr.cell c2
  have c3:=hHr.cell c3
  have hps:=Zc5 l k hkl
  have hpl2:=Zcq l (k+1)
  have PS:=Zhd hps
  have hpx:l[k].parts≤1000000000000000000:=by omega
  have hmem:=List.getElem_mem hkl
  generalize l[k]=x at *
  have hw1:1+Ex.partsL (l.take k)+x.parts≤1000000000000000000:=by omega
  clear hps
  go_wp2_with fail
  refine (IH.out x hmem _ hx hpx _ hHr).mono ?_
  rintro r w2 ⟨rfl,hb2⟩
  have hW2:Below W.heap.size W w2:=HB.out.trans (hb2.mono HB.out.size)
  go_wp2_with fail
  go_roundw
  case rel=>exact⟨k+1,by go_num,by omega,by rw [PS.out];go_num,hW2⟩
  simp [intOf];omega
 go_wp2_with fail
 go_ret
 exact⟨Zah (by rw [List.take_of_length_le (by omega)]),hBW⟩
theorem rpartsOf_any (H:Kn) (p:Pr) (vi vo vl va vc:Value) (hp:PrP H p vi vo vl va vc) (hsz:Ex.partsL p.terms≤1000000000) (w:World) (hH:H.In w):
  Calls Tryz.prog 107 #[.agg #[vi,vo,vl,va,vc]] w fun r w'=>r = .returned (.int .i64 (Ex.partsL p.terms))∧Below w.heap.size w w':=by
 have HP:=Zhd hp
 obtain⟨h1,h2,h3,h4,h5⟩:=hp
 obtain⟨ai,ci,rfl⟩:=h1.len
 obtain⟨ao,co,rfl⟩:=h2.len
 obtain⟨al,cl,rfl⟩:=h3.len
 obtain⟨aa,ca,rfl⟩:=h4.len
 obtain⟨ac,cc,rfl⟩:=h5.len
 clear h1 h2 h3 h4 h5
 have hll:=Zbr p.terms
 go_enter Tryz.func107,Tryz.ntmps107
 have hb0:Below w.heap.size w (w.alloc (.cells #[.slice ai p.ins.length ci,.slice ao p.outs.length co,.slice al p.fl.length cl,.slice aa p.as.length ca,.slice ac p.cs.length cc] 27)):=(Below.refl _ _).alloc (Nat.le_refl _) _
 go_wp2_with fail
 generalize w.alloc (.cells #[.slice ai p.ins.length ci,.slice ao p.outs.length co,.slice al p.fl.length cl,.slice aa p.as.length ca,.slice ac p.cs.length cc] 27)=W1 at *
 have HB0:=Zhd hb0
 clear hb0
 refine (Zir H p _ _ _ _ _ HP.out (by omega) W1 (hH.below HB0.out)).mono ?_
 rintro r w2 ⟨v,K,rfl,hv,hst⟩
 obtain⟨a,c,rfl⟩:=hv.len
 have HV:=Zhd hv
 have HST:=Zhd hst
 have HB2:=Zhd (HB0.out.trans (hst.below.mono HB0.out.size))
 clear hv hst
 go_wp2_with fail
 go_loopw [4,5] (fun n i wr=>∃ k:Nat,i = .int .i64 k∧k≤p.terms.length∧n = .int .i64 (Ex.partsL (p.terms.take k):Nat)∧Below w2.heap.size w2 wr) (fun _ i _=>p.terms.length - (intOf i).toNat)
 case atStart=>exact⟨0,rfl,Nat.zero_le _,rfl,Below.refl _ _⟩
 obtain⟨k,rfl,hk,rfl,hb⟩:=hrel
 have HB:=Zhd hb
 clear hb
 have hpl:=Zcq p.terms k
 by_cases hkl:k<p.terms.length
 ·obtain⟨b,off,ax,cx,rfl,c0,c1,c2,c3,hx⟩:=HV.out.at hkl
  have hHr:=HST.out.isin.below HB.out
  have c0:=hHr.cell c0
  have c1:=hHr.cell c1
  have c2:=hHr.cell c2
  have c3:=hHr.cell c3
  have hps:=Zc5 p.terms k hkl
  have hpl2:=Zcq p.terms (k+1)
  have PS:=Zhd hps
  have hpx:p.terms[k].parts≤1000000000000000000:=by omega
  have hw1:Ex.partsL (p.terms.take k)+p.terms[k].parts≤1000000000:=by omega
  clear hps
  generalize p.terms[k]=x at *
  go_wp2_with fail
  refine (rparts_any K x _ hx hpx _ hHr).mono ?_
  rintro r w3 ⟨rfl,hb3⟩
  have hW3:=HB.out.trans (hb3.mono HB.out.size)
  go_wp2_with fail
  go_roundw
  case rel=>exact⟨k+1,by go_num,by omega,by rw [PS.out];go_num,hW3⟩
  simp [intOf];omega
 obtain rfl:k=p.terms.length:=by omega
 have HF:=Zhd (HB2.out.trans (HB.out.mono HB2.out.size))
 rw [List.take_of_length_le (Nat.le_refl _)]
 go_wp2_with fail
 go_ret
 exact⟨rfl,HF.out⟩
end Go.Proofs.YtgoccoldkfpbgaaGreatDoor
/- Walks: lustrumref1.KindOf. -/
namespace Go.Proofs.YtgoccoldkfpbgaaGreatDoor
set_option maxRecDepth 100000
set_option maxHeartbeats 16000000
open Go.RowKit Mx
theorem mRfE1 {p:Prop} (h:p:=by
 clear ho hl
 go_enter Tryz.func46,Tryz.ntmps46
 go_wp2_with fail
 go_ret
 exact⟨Zah HR.out.symm,HB0.out⟩):p:=h
theorem arity_lit (o:ByteArray) (k:Int) (h:Zcm o=some k) (hk:k=0):(o.toList==[105,110,116])=true∨(o.toList==[116,114,117,101])=true∨(o.toList==[102,97,108,115,101])=true∨(o.toList==[110,97,109,101])=true:=by
 subst hk
 unfold Zcm at h
 by_cases h1:o=oInt∨o=Zc2∨o=Zb9∨o=Zb2
 ·simp only [Zdz] at h1
  exact h1
 rw [if_neg h1] at h
 by_cases h2:o=oNot∨o=oNeg∨o=oPre
 ·rw [if_pos h2] at h;simp at h
 rw [if_neg h2] at h
 by_cases h3:o=oIf
 ·rw [if_pos h3] at h;simp at h
 rw [if_neg h3] at h
 by_cases h4:o=Zj5
 ·rw [if_pos h4] at h;simp at h
 rw [if_neg h4] at h
 by_cases h5:o=Zbm∨o=oFby
 ·rw [if_pos h5] at h;simp at h
 rw [if_neg h5] at h
 split at h<;>simp at h
theorem formed_len {ks:Env Int} {o:ByteArray} {n:Int} {s:ByteArray} {l:List Ex} (h:Zaf ks (.mk o n s l)=true):
  (Zcm o=some (l.length:Int))∧(∀ x∈l,Zaf ks x=true):=by
 simp only [Zaf,Bool.and_eq_true] at h
 obtain⟨⟨⟨h1,h2⟩,_⟩,h4⟩:=h
 refine⟨?_,fun x hx=>by rw [Zem] at h4;exact List.all_eq_true.1 h4 x hx⟩
 unfold form at h1
 simp only [Ex.op,Ex.l] at h1
 have hne:o≠Zj5:=by simpa using h2
 cases ha:Zcm o with
 | none=>rw [ha] at h1;simp at h1
 | some k=>
  rw [ha] at h1
  simp only [Bool.and_eq_true,Bool.or_eq_true,decide_eq_true_eq] at h1
  rcases h1.1.1 with hk | hk
  ·exfalso
   unfold Zcm at ha
   by_cases c1:o=oInt∨o=Zc2∨o=Zb9∨o=Zb2
   ·rw [if_pos c1] at ha;simp at ha;omega
   rw [if_neg c1] at ha
   by_cases c2:o=oNot∨o=oNeg∨o=oPre
   ·rw [if_pos c2] at ha;simp at ha;omega
   rw [if_neg c2] at ha
   by_cases c3:o=oIf
   ·rw [if_pos c3] at ha;simp at ha;omega
   rw [if_neg c3,if_neg hne] at ha
   by_cases c5:o=Zbm∨o=oFby
   ·rw [if_pos c5] at ha;simp at ha;omega
   rw [if_neg c5] at ha
   by_cases c6:(levels.any fun l=>l.contains o)=true
   ·rw [if_pos c6] at ha;simp at ha;omega
   rw [if_neg c6] at ha;simp at ha
  have:k=(l.length:Int):=of_decide_eq_true hk
  rw [this]
theorem if_len {o:ByteArray} {k:Int} (h:Zcm o=some k) (ho:(o.toList==[105,102])=true):k=3:=by
 have:o=oIf:=by have h1:=Zdz o [105,102];exact h1.mpr ho
 subst this
 have h2:Zcm oIf=some 3:=by decide
 rw [h2] at h
 simp at h
 exact h.symm
theorem Zhy (H:Kn) (V:List Vr) (vv:Value) (hV:VrsV H V vv) (hVl:V.length≤1000000000):∀ (e:Ex) (v:Value),ExV H e v→e.parts≤1000000000→Zaf (ksOf V) e=true→∀ w:World,H.In w→
  Calls Tryz.prog 46 #[v,vv] w fun r w'=>r = .returned (.int .i64 (Zan (ksOf V) e))∧Below w.heap.size w w':=by
 obtain⟨av,cv,rfl⟩:=hV.len
 have HVV:=Zhd hV
 clear hV
 refine Ex.ind fun o n s l ih v hv hp hf w hH=>?_
 obtain⟨hal,hall⟩:=formed_len hf
 obtain⟨u,rfl,hu⟩:=hv
 simp only [Ex.op,Ex.n,Ex.s,Ex.l] at hu ⊢
 simp only [Ex.parts] at hp
 obtain⟨a,cap,rfl⟩:=hu.len
 have hll:=Zbr l
 have HU:=Zhd hu
 have IH:=Zhd ih
 have HALL:=Zhd hall
 clear hu ih hf hall
 have hb0:Below w.heap.size w (w.alloc (.cells #[.string o,.int .i64 n,.string s,.slice a l.length cap] 79)):=(Below.refl _ _).alloc (Nat.le_refl _) _
 have hq:∀ i,(w.alloc (.cells #[.string o,.int .i64 n,.string s,.slice a l.length cap] 79)).cell? ⟨w.heap.size,i,none⟩=(#[.string o,.int .i64 n,.string s,.slice a l.length cap]:Array Value)[i]?:=fun i=>World.cell?_alloc_new _ _ _ _
 have hlt1:w.heap.size<(w.alloc (.cells #[.string o,.int .i64 n,.string s,.slice a l.length cap] 79)).heap.size:=by simp
 have hgz:((ksOf V) s).getD 0=Zbn V s:=by unfold ksOf;by_cases h:Zbn V s=0<;>simp [h]
 have HGZ:=Zhd hgz
 have HB0:=Zhd hb0
 have HQ:=Zhd hq
 have KI:=Zhd (fun w2 (h:H.In w2)=>Ze4 H _ V s w2 HVV.out hVl h)
 clear hgz hb0 hq
 have leaf:l=[]→Zan (ksOf V) (.mk o n s l)=Zch o (Zbn V s) []:=fun h=>by subst h;rw [Zh7 _ _ _ _ _ (by simp [Zao]),HGZ.out];rfl
 have hnil:∀ k:Int,Zcm o=some k→k=0→l=[]:=fun k h1 h2=>by rw [hal] at h1;simp at h1;exact List.eq_nil_of_length_eq_zero (by omega)
 have LF:=Zhd leaf
 have HN:=Zhd hnil
 clear leaf hnil
 have e0:∀ i,i<4→(w.alloc (.cells #[.string o,.int .i64 n,.string s,.slice a l.length cap] 79)).cell? ⟨w.heap.size,i,none⟩=(#[.string o,.int .i64 n,.string s,.slice a l.length cap]:Array Value)[i]?:=fun i _=>HQ.out i
 have g0:=HQ.out 0
 have g2:=HQ.out 2
 have g3:=Zhd (HQ.out 3)
 simp only [List.getElem?_toArray] at g0 g2
 clear e0
 rcases Bool.eq_false_or_eq_true (o.toList==[105,110,116]) with l0 | l0
 ·have ho:o=oInt:=(Zdz o [105,110,116]).mpr l0
  have hl:=HN.out 0 (by rw [ho];decide) rfl
  have HR:=Zhd (show Zan (ksOf V) (.mk o n s l)=2 by rw [LF.out hl,ho];rfl)
  exact mRfE1
 rcases Bool.eq_false_or_eq_true (o.toList==[116,114,117,101]) with l1 | l1
 ·have ho:o=Zc2:=(Zdz o [116,114,117,101]).mpr l1
  have hl:=HN.out 0 (by rw [ho];decide) rfl
  have HR:=Zhd (show Zan (ksOf V) (.mk o n s l)=1 by rw [LF.out hl,ho];rfl)
  exact mRfE1
 rcases Bool.eq_false_or_eq_true (o.toList==[102,97,108,115,101]) with l2 | l2
 ·have ho:o=Zb9:=(Zdz o [102,97,108,115,101]).mpr l2
  have hl:=HN.out 0 (by rw [ho];decide) rfl
  have HR:=Zhd (show Zan (ksOf V) (.mk o n s l)=1 by rw [LF.out hl,ho];rfl)
  exact mRfE1
 rcases Bool.eq_false_or_eq_true (o.toList==[110,97,109,101]) with l3 | l3
 ·have ho:o=Zb2:=(Zdz o [110,97,109,101]).mpr l3
  have hl:=HN.out 0 (by rw [ho];decide) rfl
  have HR:=Zhd (show Zan (ksOf V) (.mk o n s l)=Zbn V s by rw [LF.out hl,ho];rfl)
  clear ho hl
  have hH1:=hH.below HB0.out
  have KI1:=KI.out _ hH1
  generalize Zbn V s=kk at *
  go_enter Tryz.func46,Tryz.ntmps46
  go_wp2_with (go_at_call 68;refine (KI1).mono ?_;rintro r w2 ⟨rfl,rfl⟩)
  go_ret
  exact⟨Zah HR.out.symm,HB0.out⟩
 have hm:∃ m',l.length=m'+1:=by
  cases hlen:l.length with
  | succ m=>exact⟨m,rfl⟩
  | zero=>
   exfalso
   rcases arity_lit o _ hal (by omega) with h | h | h | h
   ·rw [l0] at h;cases h
   ·rw [l1] at h;cases h
   ·rw [l2] at h;cases h
   rw [l3] at h;cases h
 obtain⟨m',hm⟩:=hm
 have HL:=Zhd hm
 have HAL:=Zhd hal
 clear hal hm KI LF HN
 go_enter Tryz.func46,Tryz.ntmps46
 go_wp2_with fail
 generalize w.alloc (.cells #[.string o,.int .i64 n,.string s,.slice a l.length cap] 79)=W at *
 clear g2
 have G0:=Zhd g0
 clear g0
 go_loopw [4,5,6] (fun _ c i wr=>∃ k:Nat,i = .int .i64 k∧k≤l.length∧wr.ownsRow W.heap.size 3 1 c k ((Zao (ksOf V) (l.take k)).map (Value.int .i64))∧Below W.heap.size W wr∧(0:Int)∉Zao (ksOf V) (l.take k)) (fun _ _ i _=>l.length - (intOf i).toNat)
 case atStart=>exact⟨0,rfl,Nat.zero_le _,World.ownsRow_nil _ _ _ _,Below.refl _ _,by simp [Zao]⟩
 obtain⟨k,rfl,hk,hown,hb,h0⟩:=hrel
 have HB:=Zhd hb
 have H0:=Zhd h0
 have HBW:=Zhd (HB0.out.trans (hb.mono HB0.out.size))
 have q3:wr.cell? ⟨w.heap.size,3,none⟩=some (.slice a l.length cap):=by rw [hb.cell (p:=⟨w.heap.size,3,none⟩) hlt1];exact g3.out
 clear h0 hb
 by_cases hkl:k<l.length
 ·obtain⟨b,off,ax,cx,rfl,c0,c1,c2,c3,hx⟩:=HU.out.at hkl
  have hHr:=hH.below HBW.out
  have c0:=hHr.cell c0
  have c1:=hHr.cell c1
  have c2:=hHr.cell c2
  have c3:=hHr.cell c3
  have hpx:l[k].parts≤1000000000:=by have:=Zau l k hkl;omega
  have hmem:=List.getElem_mem hkl
  have hfx:=HALL.out _ hmem
  have KT:=Zhd (Zga (ksOf V) l k hkl)
  have KZ:=Zhd (kindOf_zero (ksOf V) o n s l k hkl)
  generalize l[k]=x at *
  obtain⟨c',cap',rfl,hcm,hkc⟩:=Zas hown
  go_wp2_with fail
  refine (IH.out x hmem _ hx hpx hfx _ hHr).mono ?_
  rintro r w2 ⟨rfl,hb2⟩
  have hb2':Below W.heap.size W w2:=HB.out.trans (hb2.mono HB.out.size)
  have hown2:=Za6 hown hb2
  have hfin:Below w.heap.size w w2:=HBW.out.trans (hb2.mono HBW.out.size)
  by_cases hx0:Zan (ksOf V) x=0
  ·have KE:=Zhd (KZ.out hx0)
   have hx0':(Zan (ksOf V) x==0)=true:=by simpa using hx0
   clear hx0
   generalize Zan (ksOf V) x=kx at *
   go_wp2_with fail
   go_ret
   exact⟨Zah KE.out.symm,hfin⟩
  have HX0:=Zhd hx0
  have hx0':(Zan (ksOf V) x==0)=false:=by simpa using hx0
  clear hx0
  generalize Zan (ksOf V) x=kx at *
  go_wp2_with (at_builtin;refine app1 111 3 1 8 _ Tryz.underlying111 Tryz.infoInt rfl (by decide) _ _ rfl rfl W.heap.size _ _ _ rfl (hown2.alloc _) ⟨w2.heap.size,0,none⟩ 1 [.int .i64 kx] rfl rfl ?c1 ?c2 ?c3 ?c4 ?c5 ?_)
  case c1=>exact cells1 _ _ _
  case c2=>simp [Value.oneCell']
  case c3=>omega
  case c4=>omega
  case c5=>have:=hb2'.size;simp;omega
  intro v' w3 hown3 hg3
  have hb3:Below W.heap.size W w3:=(hb2'.alloc hb2'.size _).grown hg3 (by have:=hb2'.size;simp;omega) (fun j hj=>(hown2.lt j hj).1)
  go_wp2_with fail
  go_roundw
  case rel=>exact⟨k+1,by go_num,by omega,by rw [KT.out,List.map_append];exact hown3,hb3,by rw [KT.out];intro hc;rcases List.mem_append.1 hc with h | h;exact H0.out h;simp at h;exact HX0.out h.symm⟩
  simp [intOf];omega
 obtain rfl:k=l.length:=by omega
 rw [List.take_of_length_le (Nat.le_refl _)] at hown
 have HNZ:=Zhd (show (0:Int)∉Zao (ksOf V) l from by have:=H0.out;rw [List.take_of_length_le (Nat.le_refl _)] at this;exact this)
 have HKL:=Zhd (show (Zao (ksOf V) l).length=m'+1 from by rw [Zes,HL.out])
 rw [HL.out] at hown
 obtain⟨g,cap',rfl,hcap,hcm,hcells⟩:=row_cells hown HKL.out (by omega)
 have hlast:=Zjv _ _ HKL.out
 have hK:=(Zh7 (ksOf V) o n s l HNZ.out).trans (Zhl o (((ksOf V) s).getD 0) (Zao (ksOf V) l))
 rw [HKL.out,hlast,show decide (0<m'+1)=true from by simp,Bool.true_and,show (Zao (ksOf V) l).headD 0=(Zao (ksOf V) l).getD 0 0 from by cases Zao (ksOf V) l<;>rfl] at hK
 have d0:=hcells 0 (by omega)
 have dl:=hcells m' (by omega)
 have HIF:=Zhd (show (o.toList==[105,102])=true→wr.cell? ⟨g,1,none⟩=some (.int .i64 ((Zao (ksOf V) l).getD 1 0))∧wr.cell? ⟨g,2,none⟩=some (.int .i64 ((Zao (ksOf V) l).getD 2 0))∧m'=2 from fun e4=>by
  have h3:=if_len HAL.out e4
  have h4:=HL.out
  exact⟨hcells 1 (by omega),hcells 2 (by omega),by omega⟩)
 have hs20:=(fun x y:Int=>show (x==y)=decide (x=y) from by by_cases h:x=y<;>simp [h]) ((Zao (ksOf V) l).getD 0 0) ((Zao (ksOf V) l).getD m' 0)
 rw [← hs20] at hK
 have HK:=Zhd hK
 have hml:m'≤1000000000:=by have:=HL.out;omega
 have q0:wr.cell? ⟨w.heap.size,0,none⟩=some (.string o):=by rw [HB.out.cell (p:=⟨w.heap.size,0,none⟩) hlt1];exact G0.out
 have HRES:=Zhd (rresult_any o l0 l1 l2 l3 (((ksOf V) s).getD 0) ((Zao (ksOf V) l).getD 0 0) ((Zao (ksOf V) l).getD 1 0) ((Zao (ksOf V) l).getD 2 0) ((Zao (ksOf V) l).getD m' 0) g m' cap' wr hml d0 dl HIF.out)
 clear hlast hK hs20 hcells d0 dl
 go_wp2_with fail
 refine HRES.out.mono ?_
 rintro r w2 ⟨rfl,hb2⟩
 go_wp2_with fail
 go_ret
 exact⟨Zah HK.out.symm,HBW.out.trans (hb2.mono HBW.out.size)⟩
end Go.Proofs.YtgoccoldkfpbgaaGreatDoor
