/- Walks: lustrumref1: Index, Has, kindIn, VarsOf, Arity, Formed, formedIn, Parts, partsOf. -/
import Derived.Test.YtafapnolamcdmaaGreatDoorRh
import Derived.Test.YtafapnolamcdmaaGreatDoorEof
set_option linter.all false
namespace Go.Proofs.YtafapnolamcdmaaGreatDoor
set_option maxRecDepth 100000
set_option maxHeartbeats 16000000
open Go.RowKit Mx
theorem mRfA2{p:Prop}(h:p:=by
 intro w Hi;obtain⟨z0,z1,z2⟩:=Hi.c3 k2 d0 d1;go_simp<;>with_reducible rfl):p:=h
theorem mRfA1{p:Prop}(h:p:=by
 intro w Hi;obtain⟨z0,z1,z2⟩:=Hi.c3 k2 d0 d1;first|(go_simp;done)|(go_simp;with_reducible rfl)):p:=h
theorem str_eq(a b:ByteArray):(a.toList==b.toList)=decide (a=b):=Ze0 a b
def idxS(s:ByteArray)(l:List ByteArray):Int:=match l.findIdx? (λx=>decide (x=s)) with|some i=>(i:Int)|none => -1
theorem idxS_found(s:ByteArray)(l:List ByteArray)(k:Nat)(hk:k<l.length)(hp:l[k]=s)(hn:∀i (hi:i<l.length),i<k->l[i]≠s):idxS s l=(k:Int):=by
 have:l.findIdx? (λx=>decide (x=s))=some k:=by
  rw[List.findIdx?_eq_some_iff_getElem];exact⟨hk,by simpa using hp,λj hj=>by simpa using hn j (by omega) hj⟩
 simp[idxS,this]
theorem idxS_none(s:ByteArray)(l:List ByteArray)(hn:∀i (hi:i<l.length),l[i]≠s):idxS s l = -1:=by
 have:l.findIdx? (λx=>decide (x=s))=none:=by
  rw[List.findIdx?_eq_none_iff];intro x hx;obtain⟨i,hi,rfl⟩:=List.mem_iff_getElem.1 hx;simpa using hn i hi
 simp[idxS,this]
theorem idxS_ge(s:ByteArray)(l:List ByteArray):decide (0<=idxS s l)=l.contains s:=by
 cases h:l.findIdx? (λx=>decide (x=s)) with
 |none=>
  rw[idxS,h];rw[List.findIdx?_eq_none_iff] at h;have:l.contains s=false:=by
   cases hc:l.contains s with
   |false=>rfl
   |true=>have:=h s (by simpa using hc);simp at this
  rw[this];rfl
 |some i=>
  rw[idxS,h];rw[List.findIdx?_eq_some_iff_getElem] at h;obtain⟨hi,hp,_⟩:=h;have hp:l[i]=s:=by simpa using hp
  have:l.contains s=true:=by simp only[List.contains_iff_mem];rw[<- hp];exact Ymm _
  rw[this];simp
theorem idxS_lt(s:ByteArray)(l:List ByteArray) : -1<=idxS s l/\idxS s l<(l.length:Int)+1:=by
 unfold idxS;cases h:l.findIdx? (λx=>decide (x=s)) with
 |none=>simp;omega
 |some i=>
  rw[List.findIdx?_eq_some_iff_getElem] at h;obtain⟨hi,_⟩:=h;simp;omega
theorem ridx_any(H:Kn)(v:Value)(l:List ByteArray)(s:ByteArray)(w:World)(hv:StrsV H l v)(hl:l.length<=1000000000)(hH:H.In w):
  Calls Tryz.prog 77 #[v,.string s] w λe w'=>e=.returned (.int .i64 (idxS s l))/\w=w':=by
 obtain⟨a,c,rfl⟩:=hv.len;have HV:=Zhd hv;clear hv;go_enter Tryz.func77,Tryz.ntmps77;go_wp2_with fail;go_loop[5] (λi=>∃k:Nat,k<=l.length/\i=.int .i64 k/\(∀i (hi:i<l.length),i<k->l[i]≠s)) (λi=>l.length - (intOf i).toNat)
 case atStart=>exact⟨0,Nat.zero_le _,rfl,by intro i _ h;omega⟩
 obtain⟨k,hk,rfl,hn⟩:=hrel;have HN:=Zhd hn;clear hn;by_cases Hr:k<l.length
 .obtain⟨b,off,rfl,_,c0⟩:=SlV.at HV.out Hr;have c0:=hH.cell c0;simp only[Nat.mul_one,Nat.add_zero] at c0;by_cases he:l[k]=s
  .have HI:=Zhd (idxS_found s l k Hr he λi hi jp=>HN.out i hi jp);rw[he] at c0;have hq:(s.toList==s.toList)=true:=by simp
   clear he;go_wp2_with fail;go_ret;exact⟨Zaf HI.out.symm,rfl⟩
  have HX:=Zhd (show ∀i (hi:i<l.length),i<k+1->l[i]≠s from λi hi jp=>by
   by_cases hik':i<k
   .exact HN.out i hi hik'
   obtain rfl:i=k:=by omega
   exact he)
  have hq:(l[k].toList==s.toList)=false:=by rw[str_eq];simpa using he
  generalize l[k]=x at *;clear he;go_wp2_with fail;go_round
  case rel=>exact⟨k+1,by omega,by go_num,HX.out⟩
  simp[intOf];omega
 go_wp2_with fail;go_ret;exact⟨Zaf (idxS_none _ _ λi hi=>HN.out i hi (by omega)).symm,rfl⟩
theorem rhas_any(H:Kn)(v:Value)(l:List ByteArray)(s:ByteArray)(w:World)(hv:StrsV H l v)(hl:l.length<=1000000000)(hH:H.In w):
  Calls Tryz.prog 54 #[v,.string s] w λe w'=>e=.returned (.bool (l.contains s))/\w=w':=by
 have hb:=idxS_lt s l;have HD:=Zhd (idxS_ge s l);go_enter Tryz.func54,Tryz.ntmps54;go_wp2_with fail;refine(ridx_any H v l s _ hv hl hH).mono ?_;rintro e w' ⟨rfl,rfl⟩;go_wp2_with fail;go_ret;exact⟨Za7 HD.out,rfl⟩
def Zbo:List Vr->ByteArray->Int
 | [],_=>0
 |x :: r,s=>if x.name=s then x.kind else Zbo r s
theorem Zit(s:ByteArray):∀(l:List Vr) (k:Nat) (hk:k<l.length),l[k].name=s->(∀i (hi:i<l.length),i<k->l[i].name≠s)->Zbo l s=l[k].kind
 |x :: l,0,_,hp,_=>by simp only[List.getElem_cons_zero] at hp ⊢;simp[Zbo,hp]
 |x :: l,k+1,hk,hp,hn=>by
  have h0:=hn 0 (by simp) (by omega);simp only[List.getElem_cons_zero] at h0;simp only[List.getElem_cons_succ] at hp ⊢;simp only[Zbo];rw[if_neg h0];exact Zit s l k (by simpa using hk) hp λi hi jp=>by have:=hn (i+1) (by simpa using hi) (by omega);simpa using this
theorem Zj9(s:ByteArray):∀(l:List Vr),(∀i (hi:i<l.length),l[i].name≠s)->Zbo l s=0
 | [],_=>rfl
 |x :: l,hn=>by
  have h0:=hn 0 (by simp);simp only[List.getElem_cons_zero] at h0;simp only[Zbo];rw[if_neg h0];exact Zj9 s l λi hi=>by have:=hn (i+1) (by simpa using hi);simpa using this
theorem Zfe(H:Kn)(v:Value)(l:List Vr)(s:ByteArray)(w:World)(hv:VrsV H l v)(hl:l.length<=1000000000)(hH:H.In w):
  Calls Tryz.prog 85 #[v,.string s] w λe w'=>e=.returned (.int .i64 (Zbo l s))/\w=w':=by
 obtain⟨a,c,rfl⟩:=hv.len;have HV:=Zhd hv;clear hv;go_enter Tryz.func85,Tryz.ntmps85;go_wp2_with fail;go_loop[5] (λi=>∃k:Nat,k<=l.length/\i=.int .i64 k/\(∀i (hi:i<l.length),i<k->l[i].name≠s)) (λi=>l.length - (intOf i).toNat)
 case atStart=>exact⟨0,Nat.zero_le _,rfl,by intro i _ h;omega⟩
 obtain⟨k,hk,rfl,hn⟩:=hrel;have HN:=Zhd hn;clear hn;by_cases Hr:k<l.length
 .obtain⟨b,off,rfl,_,c0,c1⟩:=SlV.at HV.out Hr;have c0:=hH.cell c0;have c1:=hH.cell c1;simp only[Nat.add_zero] at c0;by_cases he:l[k].name=s
  .have HI:=Zhd (Zit s l k Hr he λi hi jp=>HN.out i hi jp);rw[he] at c0;have hq:(s.toList==s.toList)=true:=by simp
   clear he;generalize l[k].kind=kk at *;go_wp2_with fail;go_ret;exact⟨Zaf HI.out.symm,rfl⟩
  have HX:=Zhd (show ∀i (hi:i<l.length),i<k+1->l[i].name≠s from λi hi jp=>by
   by_cases hik':i<k
   .exact HN.out i hi hik'
   obtain rfl:i=k:=by omega
   exact he)
  have hq:(l[k].name.toList==s.toList)=false:=by rw[str_eq];simpa using he
  generalize l[k]=x at *;clear he;go_wp2_with fail;go_round
  case rel=>exact⟨k+1,by omega,by go_num,HX.out⟩
  simp[intOf];omega
 go_wp2_with fail;go_ret;exact⟨Zaf (Zj9 _ _ λi hi=>HN.out i hi (by omega)).symm,rfl⟩
def Zdc(p:Pr):List Vr:=p.ins++p.fl.map λf=>⟨f.name,f.kind⟩
theorem vrsOf_len(p:Pr):(Zdc p).length=p.ins.length+p.fl.length:=by simp[Zdc]
theorem Tryz.infoRVr:(Tryz.prog.info? 103).map (λi=>(i.zero,i.size,i.bytes))=some (some (.agg #[.string ⟨#[]⟩,.int .i64 0]),2,24):=by kernel_rfl
theorem VrsV.xs{H:Kn}{l:List Vr}{b off:Nat}(h:∀i (hi:i<l.length),VrC l[i] (λj=>H.cell b (off+i * 2+j))):∀j u,(l.flatMap λv:Vr=>[Value.string v.name,.int .i64 v.kind])[j]?=some u->H.cell b (off+j)=some u:=λj u hu=>by
 have Ho:(l.flatMap λv:Vr=>[Value.string v.name,.int .i64 v.kind]).length=l.length * 2:=by
  clear h hu
  induction l with
  |nil=>rfl
  |cons x l ih=>simp only[List.flatMap_cons,List.length_append,List.length_cons,List.length_nil,ih];omega
 have hj:j<l.length * 2:=by rw[<- Ho];exact(List.getElem?_eq_some_iff.1 hu).1
 have e:j / 2 * 2+j % 2=j:=by omega
 have hi:j / 2<l.length:=by omega
 have hg:=Zhi 2 (λv:Vr=>[Value.string v.name,.int .i64 v.kind]) (λ_=>rfl) l (j / 2) hi (j % 2) (by omega);rw[e,hu] at hg;obtain⟨h0,h1⟩:=h (j / 2) hi;rcases(show j % 2=0\/j % 2=1 from by omega) with hm|hm
 .rw [hm] at hg;simp at hg;rw[hg,show off+j=off+j / 2 * 2+0 from by omega];exact h0
 rw[hm] at hg;simp at hg;rw[hg,show off+j=off+j / 2 * 2+1 from by omega];exact h1
theorem run_append_vrs{H:Kn}{W:World}{L:List Vr}(hK:H.In W){l:List Vr}{a:Option Addr}{c:Nat}(h:VrsV H l (.slice a l.length c))(hl:l.length<=1000000000)(hL:L.take l.length=l):
  ∃v' W',(∀ty,(Builtin.append_ #[22,22] ty #[Ys0,.slice a l.length c]).run Tryz.prog W=.ok v' W')/\RwO 103 2 VsX H W W' W.heap.size L l.length v' (l.flatMap λv=>[.string v.name,.int .i64 v.kind]) H:=by
 obtain⟨i1,qx,vp,zo,zU⟩:=info_parts Tryz.infoRVr;have JY:RwO 103 2 VsX H W W W.heap.size L 0 (Ys0) [] H:=⟨Kn.le_refl H,λ_ _=>rfl,hK,Below.refl _ _,Nat.le_refl _,World.ownsRow_nil _ _ _ _,rfl,λg hg=>by simp[Value.ownBlock] at hg⟩;by_cases h0:l=[]
 .subst h0;exact⟨Ys0,W,λty=>Zbn 22 103 i1 Tryz.underlying22 qx (World.ownsRow_nil W W.heap.size 103 2) a c ty,JY⟩
 rcases h with ⟨h,_⟩|⟨b,off,Ha,he,qM,zI,jH⟩
 .exact absurd h h0
 cases he;have Ho:0<l.length:=List.length_pos_iff.2 h0;have jR:(l.flatMap λv:Vr=>[Value.string v.name,.int .i64 v.kind]).length=l.length * 2:=by
  clear jH hL JY Ho hl h0 qM
  induction l with
  |nil=>rfl
  |cons x l ih=>simp only[List.flatMap_cons,List.length_append,List.length_cons,List.length_nil,ih];omega
 have Ht:=λty=>run_append_lies (P:=Tryz.prog) W 22 ty W.heap.size 103 i1 _ 2 24 Tryz.underlying22 qx vp zo zU rfl (by omega) (Ys0) 0 [] JY.row ⟨b,off,none⟩ l.length c (l.flatMap λv=>[.string v.name,.int .i64 v.kind]) jR (λj u hj=>by rw[Zc6];exact hK.cell (VrsV.xs jH j u hj)) (by
  intro u hu;obtain⟨x,_,hx⟩:=List.mem_flatMap.1 hu;simp at hx;rcases hx with rfl|rfl<;>rfl) Ho (by unfold maxLen;omega) (by omega) Ylr W.heap.size rfl
 obtain⟨g,Hh,W',e1,e2,e3,e4,e5⟩:=Ht 0;have Hy:=JY.step (by rw[Nat.zero_add,hL];exact rfl) e2 e3 e4;rw[Nat.zero_add,List.nil_append] at Hy;refine⟨_,W',λty=>?_,Hy⟩;have:=e1;rw[Nat.zero_add] at this;exact this
theorem rvars_any(H:Kn)(p:Pr)(vi vo vl va vc:Value)(hp:PrP H p vi vo vl va vc)(J5:p.ins.length<=1000000000/\p.fl.length<=1000000000)(w:World)(hH:H.In w):
  Calls Tryz.prog 63 #[.agg #[vi,vo,vl,va,vc]] w λr w'=>∃v K,r=.returned v/\VrsV K (Zdc p) v/\Kn.Step H w K w':=by
 obtain⟨h1,h2,h3,h4,h5⟩:=hp;obtain⟨ai,ci,ao,co,al,cl,aa,ca,ac,cc,rfl,rfl,rfl,rfl,rfl⟩:=Ypo h1.len h2.len h3.len h4.len h5.len;obtain⟨s1,s2⟩:=J5;obtain⟨i0,JI,Jt,J6,Ju⟩:=info_parts Tryz.infoRVr;have zq:=vrsOf_len p;clear h2 h4 h5;go_enter Tryz.func63,Tryz.ntmps63;have Hg:Ybw w (w.alloc (.cells (Yq5 p ai ao al aa ac ci co cl ca cc) 27)):=Yba;have kT:=heap_alloc_new w (.cells (Yq5 p ai ao al aa ac ci co cl ca cc) 27);have JT:w.heap.size<(w.alloc (.cells (Yq5 p ai ao al aa ac ci co cl ca cc) 27)).heap.size:=by simp
 obtain⟨H1,kp⟩:∃K,K=H.add w.heap.size (.cells (Yq5 p ai ao al aa ac ci co cl ca cc) 27 (0,0)):=⟨_,rfl⟩;have qz:Kn.Step H w H1 (w.alloc (.cells (Yq5 p ai ao al aa ac ci co cl ca cc) 27)):=⟨by rw[kp];exact Kn.le_add (hH.isNone Ylr),λb hb=>by rw[kp,Kn.add_other _ _ (by omega)],by rw[kp];exact(hH.below Hg).add kT,Hg⟩;have hc:∀i,H1.cell w.heap.size i=((Yq5 p ai ao al aa ac ci co cl ca cc):Array Value)[i]?:=λi=>by unfold Kn.cell;rw[kp,Kn.add_self]
 have k0:H1.cell w.heap.size 0=some (.slice ai p.ins.length ci):=hc 0;have k2:H1.cell w.heap.size 2=some (.slice al p.fl.length cl):=hc 2;have e0:=qz.isin.cell k0;obtain⟨v1,W2,Ht,J3⟩:=run_append_vrs (L:=Zdc p) qz.isin (h1.le qz.le VrC.mono) s1 (by unfold Zdc;rw[List.take_left]);have Jz:=Zhd qz;have HF:=Zhd (h3.le qz.le (FlC.mono qz.le));have HS1:=Zhd J3;clear hc kp kT Hg qz J3 h1 h3;go_wp2_with(at_builtin;refine Zbi rfl _ _ _ _ rfl _ _ rfl rfl _ _ Ht ?_);generalize w.alloc (.cells (Yq5 p ai ao al aa ac ci co cl ca cc) 27)=W1 at *;clear Ht e0;go_loopw[3,4] (λu i wr=>∃(k:Nat) (xs:List Value),i=.int .i64 k/\k<=p.fl.length/\RwO 103 2 VsX H1 W1 wr W1.heap.size (Zdc p) (p.ins.length+k) u xs H1) (λ_ i _=>p.fl.length - (intOf i).toNat)
 case atStart=>exact⟨0,_,rfl,Nat.zero_le _,HS1.out⟩
 obtain⟨k,xs,rfl,hk,hS⟩:=hrel;have HS:=Zhd hS;obtain⟨au,cu,rfl,_⟩:=Zar hS.row;clear hS;have m2:=HS.out.isin.cell k2;by_cases Hd:k<p.fl.length
 .obtain⟨b,off,Qd,he,_,_,JJ⟩:=FlsV.cell HF.out (λe=>by rw[e] at Hd;simp at Hd);cases he;obtain⟨_,_,d0,d1,_⟩:=JJ k Hd;have hkv:p.ins.length+k<(Zdc p).length:=by omega
  have hT:(Zdc p).take (p.ins.length+(k+1))=(Zdc p).take (p.ins.length+k)++[⟨p.fl[k].name,p.fl[k].kind⟩]:=by
   rw[show p.ins.length+(k+1)=p.ins.length+k+1 from by omega,Zd6 _ _ hkv]
   congr 2
   simp[Zdc]
  have HT:=Zhd hT;clear hT JJ;generalize p.fl[k]=x at *;have J2:=HS.out.drew;have Hq:=J2.isin;go_wp2_with fail;refine Zae (λw'=>H1.In w') (λ_=>True) 15 (by kernel_rfl) ?_;refine w3 0 ?_
  iterate 2 ((first|(refine tk3 (v:=?_) rfl Hq Ztr ?hy ?_;(case hy=>exact mRfA2))|refine sk3 rfl Hq Ztr ?_|refine no3 ?_);refine Zss ?_)
  refine w3e ?_;refine tk2 (i:=3) (v:=?_) rfl Hq Ztr ?hy ?_
  case hy=>exact mRfA1
  try simp only[tkS]
  refine tk2 (i:=2) (v:=?_) rfl Hq Ztr ?hy ?_
  case hy=>exact mRfA1
  try simp only[tkS]
  refine w3 4 ?_
  iterate 4 ((first|(refine tk3 (v:=?_) rfl Hq Ztr ?hy ?_;(case hy=>exact mRfA2))|refine sk3 rfl Hq Ztr ?_|refine no3 ?_);refine Zss ?_)
  refine w3e ?_;refine tk2 (i:=9) (v:=?_) rfl Hq Ztr ?hy ?_
  case hy=>exact mRfA1
  try simp only[tkS]
  refine tk2 (i:=8) (v:=?_) rfl Hq Ztr ?hy ?_
  case hy=>exact mRfA1
  try simp only[tkS]
  refine w3 10 ?_
  iterate 4 ((first|(refine tk3 (v:=?_) rfl Hq Ztr ?hy ?_;(case hy=>exact mRfA2))|refine sk3 rfl Hq Ztr ?_|refine no3 ?_);refine Zss ?_)
  refine w3e ?_;refine Zwo 14 rfl λK_ hK=>?_;go_simp;refine hK.out _ _ (J2.alloc _ |>.isin) Ztr ?_;clear hK K_
  try simp only[tkS]
  refine Zwo 15 rfl λK_ hK=>?_;refine step_append_lies _ (by rfl) _ _ _ (by rfl) W1.heap.size 103 i0 _ 2 24 Tryz.underlying22 JI Jt J6 Ju rfl (by omega) _ (p.ins.length+k) xs (by rfl) (RwO.row (RwO.alloc J2 _)) ⟨_,0,none⟩ 1 1 [.string x.name,.int .i64 x.kind] (by rfl) (by rfl) (by exact World.news_of_block (heap_alloc_new _ _)) (by simp[Value.oneCell']) (by omega) (by unfold maxLen;omega) (by omega) (RwO.size (RwO.alloc J2 _)) _ rfl ?_;intro gg Hh w3 Hb Hj hJ jT;have jZ:=RwO.step (n':=1) (RwO.alloc J2 _) (by rw[show p.ins.length+k+1=p.ins.length+(k+1) from by omega,HT.out];have h1:=HS.out.xs;unfold VsX at h1 ⊢;rw[h1];simp) Hb Hj hJ;refine hK.out _ _ (jZ.isin) Ztr ?_;clear hK K_
  try simp only[tkS]
  refine tk2 (i:=16) (v:=?_) rfl jZ.isin Ztr ?hy ?_
  case hy=>exact mRfA1
  try simp only[tkS]
  refine Zwd ?_;go_wp2_with fail;go_roundw
  case rel=>exact⟨k+1,_,by go_num,by omega,jZ⟩
  simp[intOf];omega
 obtain rfl:k=p.fl.length:=by omega
 have JC:=HS.out.xs;have Jd:=HS.out.row;rw[<- zq] at JC Jd;rw[List.take_of_length_le Ylr] at JC;obtain⟨K',He,Hk,hv,je⟩:=Zcn (R:=λ_=>VrC) HS.out.isin Jd (λg hg=>HS.out.noR g (by rw[<- zq];exact hg)) (λK' _=>VsX.at (K':=K') JC);have HR:=Zhd (show Kn.Step H w K' wr from Jz.out.trans ⟨Kn.le_trans HS.out.le He,λb hb=>(je b hb).trans (HS.out.fresh b hb),Hk,HS.out.below⟩);have HV:=Zhd hv;rw[zq] at HV;clear hv Hk je He JC Jd;go_wp2_with fail;go_ret;exact⟨_,K',rfl,HV.out,HR.out⟩
theorem rform_any(e:Ex)(v:Value)(H:Kn)(hv:ExV H e v)(w:World):
  Calls Tryz.prog 120 #[v] w λr w'=>r=.returned (.bool (form e))/\Ybw w w':=by
 obtain⟨u,rfl,hu⟩:=hv;obtain⟨a,Ha,rfl⟩:=hu.len;clear hu;have HF:=Zhd (form_eq e);have HAR:=Zhd (rarity_any e.op);generalize form e=fe at *;generalize e.op=o at *;generalize e.n=n at *;generalize e.s=s at *;generalize e.l.length=k at *;clear e;unfold formA formB at HF;have J4:=Zhd (show Ybw w (w.alloc (.cells #[.string o,.int .i64 n,.string s,.slice a k Ha] 61)) from Yba);generalize arB o=B at *;generalize arN o=N at *;have hNs:(B=false)\/(B=true/\N<0/\¬0<=N)\/(B=true/\¬N<0/\0<=N/\N=(k:Int))\/(B=true/\¬N<0/\0<=N/\¬N=(k:Int)):=by
  cases B with
  |false=>exact .inl rfl
  |true=>
   by_cases h1:N<0
   .exact .inr (.inl ⟨rfl,h1,by omega⟩)
   by_cases h2:N=(k:Int)
   .exact .inr (.inr (.inl ⟨rfl,h1,by omega,h2⟩))
   exact .inr (.inr (.inr ⟨rfl,h1,by omega,h2⟩))
 have hns:(n=0)\/(¬n=0/\n<0/\¬0<n)\/(¬n=0/\¬n<0/\0<n/\n<=127/\¬127<n)\/(¬n=0/\¬n<0/\0<n/\¬n<=127/\127<n):=by omega
 obtain⟨I,hI⟩:∃I,(o.toList==[105,110,116])=I:=⟨_,rfl⟩;have har:∀w,Calls Tryz.prog 129 #[.string o] w λe w'=>e=.returned (.tuple #[.int .i64 N,.bool B])/\w=w':=HAR.out;rw[hI] at HF;rcases hNs with rfl|⟨rfl,n1,n2⟩|⟨rfl,n1,n2,n3⟩|⟨rfl,n1,n2,n3⟩
 all_goals rcases hns with rfl|⟨m1,m2,m3⟩|⟨m1,m2,m3,m4,m5⟩|⟨m1,m2,m3,m4,m5⟩
 all_goals cases I
 all_goals
  go_enter Tryz.func120,Tryz.ntmps120;go_wp2_with(go_at_call 129;refine(har _).mono ?_;rintro e w' ⟨rfl,rfl⟩)
 all_goals go_ret
 all_goals refine⟨Za7 ?_,J4.out⟩
 all_goals rw[HF.out]
 all_goals(first|(simp[*];done)|(simp[*];intros;exfalso;omega))
def ksOf(l:List Vr):Env Int:=λs=>if Zbo l s=0 then none else some (Zbo l s)
theorem Zey(ks:Env Int):∀l:List Ex,Zb4 ks l=l.all λe=>Zad ks e
 | []=>rfl
 |e :: l=>by simp only[Zb4,List.all_cons,Zey ks l]
theorem Zhs(ks:Env Int)(l:List Ex)(k:Nat)(hk:k<l.length)(h:Zad ks l[k]=false):Zb4 ks l=false:=by
 rw[Zey];cases hc:l.all λe=>Zad ks e with
 |false=>rfl
 |true=>have:=List.all_eq_true.1 hc _ (Ymm hk);rw[h] at this;cases this
theorem Zi0(ks:Env Int)(l:List Ex)(h:∀i (hi:i<l.length),Zad ks l[i]=true):Zb4 ks l=true:=by
 rw[Zey,List.all_eq_true];intro x hx;obtain⟨i,hi,rfl⟩:=List.mem_iff_getElem.1 hx;exact h i hi
theorem Zkf(H:Kn)(V:List Vr)(vv:Value)(hV:VrsV H V vv)(hVl:V.length<=1000000000):∀(e:Ex) (v:Value),ExV H e v->e.parts<=1000000000000->∀w:World,H.In w->
  Calls Tryz.prog 102 #[v,vv] w λr w'=>r=.returned (.bool (Zad (ksOf V) e))/\Ybw w w':=by
 obtain⟨av,cv,rfl⟩:=hV.len;have HVV:=Zhd hV;clear hV;refine Ex.ind λo n s l ih v hv hp w hH=>?_;have zp:=hv;obtain⟨u,rfl,hu⟩:=zp;simp only[Ex.op,Ex.n,Ex.s,Ex.l] at hu hv ⊢;simp only[Ex.parts] at hp;obtain⟨a,Ha,rfl⟩:=hu.len;have xN:=Zbp l;have HV:=Zhd hv;have HU:=Zhd hu;have IH:=Zhd ih;clear hv hu ih;have Hg:Ybw w (w.alloc (.cells (Yqe o n s a l.length Ha) 61)):=Yba;have hq:∀i,(w.alloc (.cells (Yqe o n s a l.length Ha) 61)).cell? ⟨w.heap.size,i,none⟩=((Yqe o n s a l.length Ha):Array Value)[i]?:=λi=>World.cell?_alloc_new _ _ _ _;have JT:w.heap.size<(w.alloc (.cells (Yqe o n s a l.length Ha) 61)).heap.size:=by simp
 have J4:=Zhd Hg;have HQ:=Zhd hq;have Hf:=dLit o [99,97,108,108];have Je:=dLit o [110,97,109,101];have hR:Zad (ksOf V) (.mk o n s l)=(form (.mk o n s l) && !(o.toList==[99,97,108,108])&&(!(o.toList==[110,97,109,101]) || !decide (Zbo V s=0))&&Zb4 (ksOf V) l):=by
  simp only[Zad];rw[<- Hf,<- Je];unfold ksOf;by_cases h0:Zbo V s=0<;>simp[h0]
 have HR:=Zhd hR;have ym:∃b,form (.mk o n s l)=b:=⟨_,rfl⟩;obtain⟨fa,ym⟩:=ym;obtain⟨bc,hbc⟩:∃b,(o.toList==[99,97,108,108])=b:=⟨_,rfl⟩;obtain⟨bn,hbn⟩:∃b,(o.toList==[110,97,109,101])=b:=⟨_,rfl⟩;rw[ym,hbc,hbn] at HR;have HFA:=Zhd ym;clear hR Hf Je ym Hg hq;have hcase:(fa=false)\/(fa=true/\bc=true)\/(fa=true/\bc=false/\bn=true/\Zbo V s=0)\/(fa=true/\bc=false/\(bn=true/\(Zbo V s==0)=false\/bn=false)):=by
  cases fa<;>cases bc<;>cases bn<;>simp
  by_cases h:Zbo V s=0<;>simp[h]
 go_enter Tryz.func102,Tryz.ntmps102;go_wp2_with fail;generalize w.alloc (.cells (Yqe o n s a l.length Ha) 61)=W at *;refine(rform_any (.mk o n s l) _ H HV.out W).mono ?_;rw[HFA.out];rintro r w1 ⟨rfl,Hv⟩;have p0:w1.cell? ⟨w.heap.size,0,none⟩=some (.string o):=by rw[Hv.cell (p:=⟨w.heap.size,0,none⟩) JT];exact HQ.out 0
 have p2:w1.cell? ⟨w.heap.size,2,none⟩=some (.string s):=by rw[Hv.cell (p:=⟨w.heap.size,2,none⟩) JT];exact HQ.out 2
 have p3:=Zhd (show w1.cell? ⟨w.heap.size,3,none⟩=some (.slice a l.length Ha) by rw[Hv.cell (p:=⟨w.heap.size,3,none⟩) JT];exact HQ.out 3);have vB:w.heap.size<w1.heap.size:=Nat.lt_of_lt_of_le JT Hv.size;have Jn:=Zhd (J4.out.trans (Hv.mono J4.out.size));have kp:=hH.below Jn.out;clear Hv;have KI:=Zhd (λw2 (h:H.In w2)=>Zfe H _ V s w2 HVV.out hVl h);generalize Zbo V s=kk at *;rcases hcase with rfl|⟨rfl,rfl⟩|⟨rfl,rfl,rfl,j8⟩|⟨rfl,rfl,qm⟩
 .go_wp2_with fail;go_ret;exact⟨Za7 (by rw[HR.out];rfl),Jn.out⟩
 .go_wp2_with fail;go_ret;exact⟨Za7 (by rw[HR.out];rfl),Jn.out⟩
 .subst j8;go_wp2_with(go_at_call 85;refine(KI.out _ kp).mono ?_;rintro r w2 ⟨rfl,rfl⟩);go_ret;exact⟨Za7 (by rw[HR.out];rfl),Jn.out⟩
 have hRR:Zad (ksOf V) (.mk o n s l)=Zb4 (ksOf V) l:=by
  rw[HR.out];rcases qm with ⟨rfl,h⟩|rfl
  .have h':¬kk=0:=by simpa using h
   simp[h']
  simp
 have HRR:=Zhd hRR;clear hRR HR;rcases qm with ⟨rfl,j8⟩|rfl
 all_goals
  go_wp2_with(go_at_call 85;refine(KI.out _ kp).mono ?_;rintro r w2 ⟨rfl,rfl⟩);go_loopw[4,5] (λ_ i wr=>∃k:Nat,i=.int .i64 k/\k<=l.length/\(∀i (hi:i<l.length),i<k->Zad (ksOf V) l[i]=true)/\Ybw w1 wr) (λ_ i _=>l.length - (intOf i).toNat)
  case atStart=>exact⟨0,rfl,Nat.zero_le _,λi _ h=>by omega,Below.refl _ _⟩
  obtain⟨k,rfl,hk,hn,hb⟩:=hrel;have HN:=Zhd hn;have HB:=Zhd hb;have e3:wr.cell? ⟨w.heap.size,3,none⟩=some (.slice a l.length Ha):=by rw[hb.cell (p:=⟨w.heap.size,3,none⟩) vB];exact p3.out
  have JD:=Zhd (Jn.out.trans (hb.mono Jn.out.size));clear hn hb;by_cases Hd:k<l.length
  .obtain⟨b,off,ax,cx,rfl,c0,c1,c2,c3,hx⟩:=HU.out.at Hd;have Hw:=hH.below JD.out;have c0:=Hw.cell c0;have c1:=Hw.cell c1;have c2:=Hw.cell c2;have c3:=Hw.cell c3;have Jy:l[k].parts<=1000000000000:=by have:=Za0 l k Hd;omega
   have Hl:=Ymm Hd;cases he:Zad (ksOf V) l[k]
   .have HF:=Zhd (Zhs _ l k Hd he);generalize l[k]=x at *;have HE:=Zhd he;clear he;go_wp2_with fail;refine(IH.out x Hl _ hx Jy _ Hw).mono ?_;rw[HE.out];rintro r w3 ⟨rfl,Jg⟩;go_wp2_with fail;go_ret;exact⟨Za7 (by rw[HRR.out,HF.out]),JD.out.trans (Jg.mono JD.out.size)⟩
   have HX:=Zhd (show ∀i (hi:i<l.length),i<k+1->Zad (ksOf V) l[i]=true from λi hi jp=>by
    by_cases hik':i<k
    .exact HN.out i hi hik'
    obtain rfl:i=k:=by omega
    exact he)
   generalize l[k]=x at *;have HE:=Zhd he;clear he;go_wp2_with fail;refine(IH.out x Hl _ hx Jy _ Hw).mono ?_;rw[HE.out];rintro r w3 ⟨rfl,Jg⟩;have hW3:=HB.out.trans (Jg.mono HB.out.size);go_wp2_with fail;go_roundw
   case rel=>exact⟨k+1,by go_num,by omega,HX.out,hW3⟩
   simp[intOf];omega
  go_wp2_with fail;go_ret;exact⟨Za7 (by rw[HRR.out,Zi0 _ l λi hi=>HN.out i hi (by omega)]),JD.out⟩
theorem rparts_any(H:Kn):∀(e:Ex) (v:Value),ExV H e v->e.parts<=1000000000000000000->∀w:World,H.In w->
  Calls Tryz.prog 121 #[v] w λr w'=>r=.returned (.int .i64 e.parts)/\Ybw w w':=by
 refine Ex.ind λo n s l ih v hv hp w hH=>?_;obtain⟨u,rfl,hu⟩:=hv;simp only[Ex.op,Ex.n,Ex.s,Ex.l] at hu ⊢;simp only[Ex.parts] at hp ⊢;obtain⟨a,Ha,rfl⟩:=hu.len;have HU:=Zhd hu;have IH:=Zhd ih;have xN:=Zbp l;clear hu ih;go_enter Tryz.func121,Tryz.ntmps121;go_wp2_with fail;have qN:Ybw w (w.alloc (.cells (Yqe o n s a l.length Ha) 61)):=Yba;have xu:(w.alloc (.cells (Yqe o n s a l.length Ha) 61)).cell? ⟨w.heap.size,3,none⟩=some (.slice a l.length Ha):=by rw[World.cell?_alloc_new];rfl
 have JT:w.heap.size<(w.alloc (.cells (Yqe o n s a l.length Ha) 61)).heap.size:=by simp
 generalize w.alloc (.cells (Yqe o n s a l.length Ha) 61)=W at *;have gb:=Zhd qN;have yD:=Zhd xu;clear qN xu;go_loopw[3,4] (λc i wr=>∃k:Nat,i=.int .i64 k/\k<=l.length/\c=.int .i64 ((1+Ex.partsL (l.take k):Nat):Int)/\Ybw W wr) (λ_ i _=>l.length - (intOf i).toNat)
 case atStart=>exact⟨0,rfl,Nat.zero_le _,rfl,Below.refl _ _⟩
 obtain⟨k,rfl,hk,rfl,hb⟩:=hrel;have HB:=Zhd hb;clear hb;have qn:=Zc1 l k;have p3:wr.cell? ⟨w.heap.size,3,none⟩=some (.slice a l.length Ha):=by rw[HB.out.cell (p:=⟨w.heap.size,3,none⟩) JT];exact yD.out
 have hBW:Ybw w wr:=gb.out.trans (HB.out.mono gb.out.size);by_cases Hd:k<l.length
 .obtain⟨b,off,ax,cx,rfl,c0,c1,c2,c3,hx⟩:=HU.out.at Hd;have Hw:=hH.below hBW;have c0:=Hw.cell c0;have c1:=Hw.cell c1;have c2:=Hw.cell c2;have c3:=Hw.cell c3;have zr:=Zde l k Hd;have hpl2:=Zc1 l (k+1);have PS:=Zhd zr;have Jy:l[k].parts<=1000000000000000000:=by omega
  have Hl:=Ymm Hd;generalize l[k]=x at *;have hw1:1+Ex.partsL (l.take k)+x.parts<=1000000000000000000:=by omega
  clear zr;go_wp2_with fail;refine(IH.out x Hl _ hx Jy _ Hw).mono ?_;rintro r w2 ⟨rfl,Hm⟩;have jx:Ybw W w2:=HB.out.trans (Hm.mono HB.out.size);go_wp2_with fail;go_roundw
  case rel=>exact⟨k+1,by go_num,by omega,by rw[PS.out];go_num,jx⟩
  simp[intOf];omega
 go_wp2_with fail;go_ret;exact⟨Zaf (by rw[List.take_of_length_le (by omega)]),hBW⟩
theorem rpartsOf_any(H:Kn)(p:Pr)(vi vo vl va vc:Value)(hp:PrP H p vi vo vl va vc)(J5:Ex.partsL p.terms<=1000000000)(w:World)(hH:H.In w):
  Calls Tryz.prog 103 #[.agg #[vi,vo,vl,va,vc]] w λr w'=>r=.returned (.int .i64 (Ex.partsL p.terms))/\Ybw w w':=by
 have HP:=Zhd hp;obtain⟨h1,h2,h3,h4,h5⟩:=hp;obtain⟨ai,ci,ao,co,al,cl,aa,ca,ac,cc,rfl,rfl,rfl,rfl,rfl⟩:=Ypo h1.len h2.len h3.len h4.len h5.len;clear h1 h2 h3 h4 h5;have xN:=Zbp p.terms;go_enter Tryz.func103,Tryz.ntmps103;have Hg:Ybw w (w.alloc (.cells (Yq5 p ai ao al aa ac ci co cl ca cc) 27)):=Yba;go_wp2_with fail;generalize w.alloc (.cells (Yq5 p ai ao al aa ac ci co cl ca cc) 27)=W1 at *;have J4:=Zhd Hg;clear Hg;refine(Zjd H p _ _ _ _ _ HP.out (by omega) W1 (hH.below J4.out)).mono ?_;rintro r w2 ⟨v,K,rfl,hv,Hy⟩;obtain⟨a,c,rfl⟩:=hv.len;have HV:=Zhd hv;have Jz:=Zhd Hy;have Jh:=Zhd (J4.out.trans (Hy.below.mono J4.out.size));clear hv Hy;go_wp2_with fail;go_loopw[4,5] (λn i wr=>∃k:Nat,i=.int .i64 k/\k<=p.terms.length/\n=.int .i64 (Ex.partsL (p.terms.take k):Nat)/\Ybw w2 wr) (λ_ i _=>p.terms.length - (intOf i).toNat)
 case atStart=>exact⟨0,rfl,Nat.zero_le _,rfl,Below.refl _ _⟩
 obtain⟨k,rfl,hk,rfl,hb⟩:=hrel;have HB:=Zhd hb;clear hb;have qn:=Zc1 p.terms k;by_cases Hd:k<p.terms.length
 .obtain⟨b,off,ax,cx,rfl,c0,c1,c2,c3,hx⟩:=HV.out.at Hd;have Hw:=Jz.out.isin.below HB.out;have c0:=Hw.cell c0;have c1:=Hw.cell c1;have c2:=Hw.cell c2;have c3:=Hw.cell c3;have zr:=Zde p.terms k Hd;have hpl2:=Zc1 p.terms (k+1);have PS:=Zhd zr;have Jy:p.terms[k].parts<=1000000000000000000:=by omega
  have hw1:Ex.partsL (p.terms.take k)+p.terms[k].parts<=1000000000:=by omega
  clear zr;generalize p.terms[k]=x at *;go_wp2_with fail;refine(rparts_any K x _ hx Jy _ Hw).mono ?_;rintro r w3 ⟨rfl,Jg⟩;have hW3:=HB.out.trans (Jg.mono HB.out.size);go_wp2_with fail;go_roundw
  case rel=>exact⟨k+1,by go_num,by omega,by rw[PS.out];go_num,hW3⟩
  simp[intOf];omega
 obtain rfl:k=p.terms.length:=by omega
 have HF:=Zhd (Jh.out.trans (HB.out.mono Jh.out.size));rw[List.take_of_length_le Ylr];go_wp2_with fail;go_ret;exact⟨rfl,HF.out⟩
end Go.Proofs.YtafapnolamcdmaaGreatDoor
/- Walks: lustrumref1.KindOf. -/
namespace Go.Proofs.YtafapnolamcdmaaGreatDoor
set_option maxRecDepth 100000
set_option maxHeartbeats 16000000
open Go.RowKit Mx
theorem mRfE1{p:Prop}(h:p:=by
 clear ho hl;go_enter Tryz.func61,Tryz.ntmps61;go_wp2_with fail;go_ret;exact⟨Zaf HR.out.symm,J4.out⟩):p:=h
theorem arity_lit(o:ByteArray)(k:Int)(h:Zcx o=some k)(hk:k=0):(o.toList==[105,110,116])=true\/(o.toList==[116,114,117,101])=true\/(o.toList==[102,97,108,115,101])=true\/(o.toList==[110,97,109,101])=true:=by
 subst hk;unfold Zcx at h;by_cases h1:o=oInt\/o=Zc9\/o=Zch\/o=Zb2
 .simp only[Zeb] at h1;exact h1
 rw[if_neg h1] at h;by_cases h2:o=oNot\/o=oNeg\/o=oPre
 .rw [if_pos h2] at h;simp at h
 rw[if_neg h2] at h;by_cases h3:o=oIf
 .rw [if_pos h3] at h;simp at h
 rw[if_neg h3] at h;by_cases h4:o=Zko
 .rw [if_pos h4] at h;simp at h
 rw[if_neg h4] at h;by_cases h5:o=Zbk\/o=oFby
 .rw [if_pos h5] at h;simp at h
 rw[if_neg h5] at h
 split at h<;>simp at h
theorem formed_len{ks:Env Int}{o:ByteArray}{n:Int}{s:ByteArray}{l:List Ex}(h:Zad ks (.mk o n s l)=true):
  (Zcx o=some (l.length:Int))/\(∀x∈l,Zad ks x=true):=by
 simp only[Zad,Bool.and_eq_true] at h;obtain⟨⟨⟨h1,h2⟩,_⟩,h4⟩:=h;refine⟨?_,λx hx=>by rw[Zey] at h4;exact List.all_eq_true.1 h4 x hx⟩;unfold form at h1;simp only[Ex.op,Ex.l] at h1;have Hs:o≠Zko:=by simpa using h2
 cases ha:Zcx o with
 |none=>rw[ha] at h1;simp at h1
 |some k=>
  rw[ha] at h1;simp only[Bool.and_eq_true,Bool.or_eq_true,decide_eq_true_eq] at h1;rcases h1.1.1 with hk|hk
  .exfalso;unfold Zcx at ha;by_cases c1:o=oInt\/o=Zc9\/o=Zch\/o=Zb2
   .rw [if_pos c1] at ha;simp at ha;omega
   rw[if_neg c1] at ha;by_cases c2:o=oNot\/o=oNeg\/o=oPre
   .rw [if_pos c2] at ha;simp at ha;omega
   rw[if_neg c2] at ha;by_cases c3:o=oIf
   .rw [if_pos c3] at ha;simp at ha;omega
   rw[if_neg c3,if_neg Hs] at ha;by_cases c5:o=Zbk\/o=oFby
   .rw [if_pos c5] at ha;simp at ha;omega
   rw[if_neg c5] at ha;by_cases c6:(levels.any λl=>l.contains o)=true
   .rw [if_pos c6] at ha;simp at ha;omega
   rw[if_neg c6] at ha;simp at ha
  have:k=(l.length:Int):=of_decide_eq_true hk;rw[this]
theorem if_len{o:ByteArray}{k:Int}(h:Zcx o=some k)(ho:(o.toList==[105,102])=true):k=3:=by
 have:o=oIf:=by have h1:=Zeb o [105,102];exact h1.mpr ho
 subst this;have h2:Zcx oIf=some 3:=by decide
 rw[h2] at h;simp at h;exact h.symm
theorem Zii(H:Kn)(V:List Vr)(vv:Value)(hV:VrsV H V vv)(hVl:V.length<=1000000000):∀(e:Ex) (v:Value),ExV H e v->e.parts<=1000000000->Zad (ksOf V) e=true->∀w:World,H.In w->
  Calls Tryz.prog 61 #[v,vv] w λr w'=>r=.returned (.int .i64 (Zai (ksOf V) e))/\Ybw w w':=by
 obtain⟨av,cv,rfl⟩:=hV.len;have HVV:=Zhd hV;clear hV;refine Ex.ind λo n s l ih v hv hp hf w hH=>?_;obtain⟨yt,hall⟩:=formed_len hf;obtain⟨u,rfl,hu⟩:=hv;simp only[Ex.op,Ex.n,Ex.s,Ex.l] at hu ⊢;simp only[Ex.parts] at hp;obtain⟨a,Ha,rfl⟩:=hu.len;have xN:=Zbp l;have HU:=Zhd hu;have IH:=Zhd ih;have qF:=Zhd hall;clear hu ih hf hall;have Hg:Ybw w (w.alloc (.cells (Yqe o n s a l.length Ha) 61)):=Yba;have hq:∀i,(w.alloc (.cells (Yqe o n s a l.length Ha) 61)).cell? ⟨w.heap.size,i,none⟩=((Yqe o n s a l.length Ha):Array Value)[i]?:=λi=>World.cell?_alloc_new _ _ _ _;have JT:w.heap.size<(w.alloc (.cells (Yqe o n s a l.length Ha) 61)).heap.size:=by simp
 have hgz:((ksOf V) s).getD 0=Zbo V s:=by unfold ksOf;by_cases h:Zbo V s=0<;>simp[h]
 have HGZ:=Zhd hgz;have J4:=Zhd Hg;have HQ:=Zhd hq;have KI:=Zhd (λw2 (h:H.In w2)=>Zfe H _ V s w2 HVV.out hVl h);clear hgz Hg hq;have leaf:l=[]->Zai (ksOf V) (.mk o n s l)=Zct o (Zbo V s) []:=λh=>by subst h;rw[Zir _ _ _ _ _ (by simp[Zap]),HGZ.out];rfl
 have jS:∀k:Int,Zcx o=some k->k=0->l=[]:=λk h1 h2=>by rw[yt] at h1;simp at h1;exact List.eq_nil_of_length_eq_zero (by omega)
 have LF:=Zhd leaf;have HN:=Zhd jS;clear leaf jS;have e0:∀i,i<4->(w.alloc (.cells (Yqe o n s a l.length Ha) 61)).cell? ⟨w.heap.size,i,none⟩=((Yqe o n s a l.length Ha):Array Value)[i]?:=λi _=>HQ.out i;have g0:=HQ.out 0;have g2:=HQ.out 2;have g3:=Zhd (HQ.out 3);simp only[List.getElem?_toArray] at g0 g2;clear e0;rcases Ybb (o.toList==[105,110,116]) with l0|l0
 .have ho:o=oInt:=(Zeb o [105,110,116]).mpr l0;have hl:=HN.out 0 (by rw[ho];decide) rfl;have HR:=Zhd (show Zai (ksOf V) (.mk o n s l)=2 by rw[LF.out hl,ho];rfl);exact mRfE1
 rcases Ybb (o.toList==[116,114,117,101]) with l1|l1
 .have ho:o=Zc9:=(Zeb o [116,114,117,101]).mpr l1;have hl:=HN.out 0 (by rw[ho];decide) rfl;have HR:=Zhd (show Zai (ksOf V) (.mk o n s l)=1 by rw[LF.out hl,ho];rfl);exact mRfE1
 rcases Ybb (o.toList==[102,97,108,115,101]) with l2|l2
 .have ho:o=Zch:=(Zeb o [102,97,108,115,101]).mpr l2;have hl:=HN.out 0 (by rw[ho];decide) rfl;have HR:=Zhd (show Zai (ksOf V) (.mk o n s l)=1 by rw[LF.out hl,ho];rfl);exact mRfE1
 rcases Ybb (o.toList==[110,97,109,101]) with l3|l3
 .have ho:o=Zb2:=(Zeb o [110,97,109,101]).mpr l3;have hl:=HN.out 0 (by rw[ho];decide) rfl;have HR:=Zhd (show Zai (ksOf V) (.mk o n s l)=Zbo V s by rw[LF.out hl,ho];rfl);clear ho hl;have kp:=hH.below J4.out;have KI1:=KI.out _ kp;generalize Zbo V s=kk at *;go_enter Tryz.func61,Tryz.ntmps61;go_wp2_with(go_at_call 85;refine(KI1).mono ?_;rintro r w2 ⟨rfl,rfl⟩);go_ret;exact⟨Zaf HR.out.symm,J4.out⟩
 have hm:∃m',l.length=m'+1:=by
  cases Ho:l.length with
  |succ m=>exact⟨m,rfl⟩
  |zero=>
   exfalso;rcases arity_lit o _ yt (by omega) with h|h|h|h
   .rw [l0] at h;cases h
   .rw [l1] at h;cases h
   .rw [l2] at h;cases h
   rw[l3] at h;cases h
 obtain⟨m',hm⟩:=hm;have HL:=Zhd hm;have yH:=Zhd yt;clear yt hm KI LF HN;go_enter Tryz.func61,Tryz.ntmps61;go_wp2_with fail;generalize w.alloc (.cells (Yqe o n s a l.length Ha) 61)=W at *;clear g2;have G0:=Zhd g0;clear g0;go_loopw[4,5,6] (λ_ c i wr=>∃k:Nat,i=.int .i64 k/\k<=l.length/\wr.ownsRow W.heap.size 3 1 c k ((Zap (ksOf V) (l.take k)).map (Value.int .i64))/\Ybw W wr/\(0:Int)∉Zap (ksOf V) (l.take k)) (λ_ _ i _=>l.length - (intOf i).toNat)
 case atStart=>exact⟨0,rfl,Nat.zero_le _,World.ownsRow_nil _ _ _ _,Below.refl _ _,by simp[Zap]⟩
 obtain⟨k,rfl,hk,Hb,hb,h0⟩:=hrel;have HB:=Zhd hb;have H0:=Zhd h0;have JD:=Zhd (J4.out.trans (hb.mono J4.out.size));have q3:wr.cell? ⟨w.heap.size,3,none⟩=some (.slice a l.length Ha):=by rw[hb.cell (p:=⟨w.heap.size,3,none⟩) JT];exact g3.out
 clear h0 hb;by_cases Hd:k<l.length
 .obtain⟨b,off,ax,cx,rfl,c0,c1,c2,c3,hx⟩:=HU.out.at Hd;have Hw:=hH.below JD.out;have c0:=Hw.cell c0;have c1:=Hw.cell c1;have c2:=Hw.cell c2;have c3:=Hw.cell c3;have Jy:l[k].parts<=1000000000:=by have:=Za0 l k Hd;omega
  have Hl:=Ymm Hd;have jD:=qF.out _ Hl;have KT:=Zhd (Zgn (ksOf V) l k Hd);have KZ:=Zhd (kindOf_zero (ksOf V) o n s l k Hd);generalize l[k]=x at *;obtain⟨c',Hh,rfl,Qv,vF⟩:=Zar Hb;go_wp2_with fail;refine(IH.out x Hl _ hx Jy jD _ Hw).mono ?_;rintro r w2 ⟨rfl,Hm⟩;have xq:Ybw W w2:=HB.out.trans (Hm.mono HB.out.size);have ju:=Za1 Hb Hm;have ja:Ybw w w2:=JD.out.trans (Hm.mono JD.out.size);by_cases jh:Zai (ksOf V) x=0
  .have KE:=Zhd (KZ.out jh);have hx0':(Zai (ksOf V) x==0)=true:=by simpa using jh
   clear jh;generalize Zai (ksOf V) x=kx at *;go_wp2_with fail;go_ret;exact⟨Zaf KE.out.symm,ja⟩
  have yz:=Zhd jh;have hx0':(Zai (ksOf V) x==0)=false:=by simpa using jh
  clear jh;generalize Zai (ksOf V) x=kx at *;go_wp2_with(at_builtin;refine app1 122 3 1 8 _ Tryz.underlying122 Tryz.infoInt rfl (by decide) _ _ rfl rfl W.heap.size _ _ _ rfl (ju.alloc _) ⟨w2.heap.size,0,none⟩ 1 [.int .i64 kx] rfl rfl ?c1 ?c2 ?c3 ?c4 ?c5 ?_)
  case c1=>exact Zf5 _ _ _
  case c2=>simp[Value.oneCell']
  case c3=>omega
  case c4=>omega
  case c5=>have:=xq.size;simp;omega
  intro v' w3 hown3 JP;have Jg:Ybw W w3:=(xq.alloc xq.size _).grown JP (by have:=xq.size;simp;omega) (λj hj=>(ju.lt j hj).1);go_wp2_with fail;go_roundw
  case rel=>exact⟨k+1,by go_num,by omega,by rw[KT.out,List.map_append];exact hown3,Jg,by rw[KT.out];intro hc;rcases List.mem_append.1 hc with h|h;exact H0.out h;simp at h;exact yz.out h.symm⟩
  simp[intOf];omega
 obtain rfl:k=l.length:=by omega
 rw[List.take_of_length_le Ylr] at Hb;have HNZ:=Zhd (show(0:Int)∉Zap (ksOf V) l from by have:=H0.out;rw[List.take_of_length_le Ylr] at this;exact this);have xZ:=Zhd (show(Zap (ksOf V) l).length=m'+1 from by rw[Ze5,HL.out]);rw[HL.out] at Hb;obtain⟨g,Hh,rfl,hcap,Qv,JF⟩:=row_cells Hb xZ.out (by omega);have JM:=Zke _ _ xZ.out;have hK:=(Zir (ksOf V) o n s l HNZ.out).trans (Zh5 o (((ksOf V) s).getD 0) (Zap (ksOf V) l));rw[xZ.out,JM,show decide (0<m'+1)=true from by simp,Bool.true_and,show(Zap (ksOf V) l).headD 0=(Zap (ksOf V) l).getD 0 0 from by cases Zap (ksOf V) l<;>rfl] at hK
 have d0:=JF 0 (by omega);have dl:=JF m' (by omega);have HIF:=Zhd (show(o.toList==[105,102])=true->wr.cell? ⟨g,1,none⟩=some (.int .i64 ((Zap (ksOf V) l).getD 1 0))/\wr.cell? ⟨g,2,none⟩=some (.int .i64 ((Zap (ksOf V) l).getD 2 0))/\m'=2 from λe4=>by
  have h3:=if_len yH.out e4;have h4:=HL.out;exact⟨JF 1 (by omega),JF 2 (by omega),by omega⟩)
 have hs20:=(λx y:Int=>show(x==y)=decide (x=y) from by by_cases h:x=y<;>simp[h]) ((Zap (ksOf V) l).getD 0 0) ((Zap (ksOf V) l).getD m' 0)
 rw[<- hs20] at hK;have HK:=Zhd hK;have JO:m'<=1000000000:=by have:=HL.out;omega
 have q0:wr.cell? ⟨w.heap.size,0,none⟩=some (.string o):=by rw[HB.out.cell (p:=⟨w.heap.size,0,none⟩) JT];exact G0.out
 have zO:=Zhd (rresult_any o l0 l1 l2 l3 (((ksOf V) s).getD 0) ((Zap (ksOf V) l).getD 0 0) ((Zap (ksOf V) l).getD 1 0) ((Zap (ksOf V) l).getD 2 0) ((Zap (ksOf V) l).getD m' 0) g m' Hh wr JO d0 dl HIF.out);clear JM hK hs20 JF d0 dl;go_wp2_with fail;refine zO.out.mono ?_;rintro r w2 ⟨rfl,Hm⟩;go_wp2_with fail;go_ret;exact⟨Zaf HK.out.symm,JD.out.trans (Hm.mono JD.out.size)⟩
end Go.Proofs.YtafapnolamcdmaaGreatDoor
