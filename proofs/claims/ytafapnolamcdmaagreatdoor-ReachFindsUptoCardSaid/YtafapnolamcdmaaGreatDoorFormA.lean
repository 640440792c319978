/- Walks: slices.IndexFunc, ContainsFunc at terms; flat.form. -/
import Derived.Test.YtafapnolamcdmaaGreatDoorEx
import Derived.Lib.AppendZeros
set_option linter.all false
namespace Go.Proofs.YtafapnolamcdmaaGreatDoor
set_option maxRecDepth 100000
set_option maxHeartbeats 16000000
open Go.RowKit Mx
theorem mFormA1{p:Prop}(h:p:=by
 go_wp2_with fail;refine(Zi4 _ _ _ H _ l _ HP.out HU.out _ HI2.out.1 HI2.out).mono ?_;rw[HA.out];rintro r w3 ⟨rfl,Jg⟩;go_wp2_with fail;go_ret;exact⟨Za7 (by rw[HR.out,HE3.out,e1];simp),jx.trans (Jg.mono jx.size)⟩):p:=h
def idxE(p:Ex->Bool)(l:List Ex):Int:=match l.findIdx? p with|some i=>(i:Int)|none => -1
theorem idxE_found(p:Ex->Bool)(l:List Ex)(k:Nat)(hk:k<l.length)(hp:p l[k]=true)(hn:∀i (hi:i<l.length),i<k->p l[i]=false):idxE p l=(k:Int):=by
 have:l.findIdx? p=some k:=by
  rw[List.findIdx?_eq_some_iff_getElem];exact⟨hk,hp,λj hj=>by simp[hn j (by omega) hj]⟩
 simp[idxE,this]
theorem idxE_none(p:Ex->Bool)(l:List Ex)(hn:∀i (hi:i<l.length),p l[i]=false):idxE p l = -1:=by
 have:l.findIdx? p=none:=by
  rw[List.findIdx?_eq_none_iff];intro x hx;obtain⟨i,hi,rfl⟩:=List.mem_iff_getElem.1 hx;exact hn i hi
 simp[idxE,this]
theorem idxE_ge(p:Ex->Bool)(l:List Ex):decide (0<=idxE p l)=l.any p:=by
 cases h:l.findIdx? p with
 |none=>
  rw[idxE,h];rw[List.findIdx?_eq_none_iff] at h;have:l.any p=false:=by simpa using h
  rw[this];rfl
 |some i=>
  rw[idxE,h];rw[List.findIdx?_eq_some_iff_getElem] at h;obtain⟨hi,hp,_⟩:=h;have:l.any p=true:=List.any_eq_true.2 ⟨l[i],Ymm _,hp⟩;rw[this];simp
def ExPred(k:Nat)(Ha:Array Value)(I:World->Prop)(H:Kn)(p:Ex->Bool)(l:List Ex):Prop:=
 Enters Tryz.prog k/\(∀w w',I w->Ybw w w'->I w')/\∀e∈l,∀v,ExV H e v->∀w,I w->Calls Tryz.prog k (#[v]++Ha) w λr w'=>r=.returned (.bool (p e))/\Ybw w w'
theorem idxE_any(k:Nat)(Ha:Array Value)(I:World->Prop)(H:Kn)(p:Ex->Bool)(l:List Ex)(v:Value)(hp:ExPred k Ha I H p l)(hv:ExsV H l v)(w:World)(hH:H.In w)(hI:I w):
  Calls Tryz.prog 109 #[v,.func (.func k) #[] Ha] w λr w'=>r=.returned (.int .i64 (idxE p l))/\Ybw w w':=by
 obtain⟨hen,Hy,hp⟩:=hp;have HP:=Zhd hp;have HS:=Zhd Hy;have HI:=Zhd hI;clear hp Hy hI;unfold Enters at hen;by_cases Hs:l=[]
 .subst Hs;obtain⟨a,c,rfl⟩:=hv.len;clear hv;go_enter Tryz.func109,Tryz.ntmps109;go_wp2_with fail;go_rounds 1
  all_goals go_ret
  exact⟨rfl,Below.refl _ _⟩
 obtain⟨b,off,c,rfl,h1,h2,hc⟩:=hv.cell Hs;have HC:=Zhd hc;clear hc hv;have Hr:l.length<=9223372036854775807:=by unfold maxLen at h2;omega
 go_enter Tryz.func109,Tryz.ntmps109;go_wp2_with fail;go_loopw[8] (λi wr=>∃k:Nat,i=.int .i64 k/\k<=l.length/\Ybw w wr/\I wr/\(∀i (hi:i<l.length),i<k->p l[i]=false)) (λi _=>l.length - (intOf i).toNat)
 case atStart=>exact⟨0,rfl,Nat.zero_le _,Below.refl _ _,HI.out,λi _ h=>by omega⟩
 obtain⟨k',rfl,hk,hb,hI,hn⟩:=hrel;have HI:=Zhd hI;have HN:=Zhd hn;clear hI hn;by_cases Hd:k'<l.length
 .obtain⟨ax,cx,c0,c1,c2,c3,hx⟩:=HC.out k' Hd;have Hw:=hH.below hb;have c0:=Hw.cell c0;have c1:=Hw.cell c1;have c2:=Hw.cell c2;have c3:=Hw.cell c3;have Hl:=Ymm Hd;cases he:p l[k']
  .have HE:=Zhd he;clear he;have HX:=Zhd λi (hi:i<l.length) (jp:i<k'+1)=>(show p l[i]=false from by
    by_cases hik':i<k'
    .exact HN.out i hi hik'
    obtain rfl:i=k':=by omega
    exact HE.out)
   generalize l[k']=x at *;go_wp2_with(refine(HP.out x Hl _ hx _ HI.out).mono ?_;rintro r w2 ⟨rfl,Hm⟩;rw[HE.out]);go_roundw
   case rel=>exact⟨k'+1,by go_num,by omega,hb.trans (Hm.mono hb.size),HS.out _ _ HI.out Hm,HX.out⟩
   simp[intOf];omega
  have HE:=Zhd he;clear he;have HX:=Zhd (idxE_found p l k' Hd HE.out λi hi jp=>HN.out i hi jp);generalize l[k']=x at *;go_wp2_with(refine(HP.out x Hl _ hx _ HI.out).mono ?_;rintro r w2 ⟨rfl,Hm⟩;rw[HE.out]);go_ret;exact⟨Zaf HX.out.symm,hb.trans (Hm.mono hb.size)⟩
 go_wp2_with fail;go_ret;exact⟨Zaf (idxE_none _ _ λi hi=>HN.out i hi (by omega)).symm,hb⟩
theorem idxE_lt(p:Ex->Bool)(l:List Ex) : -1<=idxE p l/\idxE p l<(l.length:Int)+1:=by
 unfold idxE;cases h:l.findIdx? p with
 |none=>simp;omega
 |some i=>
  rw[List.findIdx?_eq_some_iff_getElem] at h;obtain⟨hi,_⟩:=h;simp;omega
theorem Zi4(k:Nat)(Ha:Array Value)(I:World->Prop)(H:Kn)(p:Ex->Bool)(l:List Ex)(v:Value)(hp:ExPred k Ha I H p l)(hv:ExsV H l v)(w:World)(hH:H.In w)(hI:I w):
  Calls Tryz.prog 90 #[v,.func (.func k) #[] Ha] w λr w'=>r=.returned (.bool (l.any p))/\Ybw w w':=by
 have hb:=idxE_lt p l;have HD:=Zhd (idxE_ge p l);have HI:=Zhd hI;clear hI;go_enter Tryz.func90,Tryz.ntmps90;go_wp2_with fail;refine(idxE_any k Ha I H p l v hp hv _ hH HI.out).mono ?_;rintro r w2 ⟨rfl,Hm⟩;go_wp2_with fail;go_ret;exact⟨Za7 HD.out,Hm⟩
theorem Zkl(ks:Env Int):∀l:List Ex,(l.any λx => !Zad ks x) = !Zb4 ks l
 | []=>rfl
 |e :: l=>by simp only[List.any_cons,Zb4,Zkl ks l,Bool.not_and]
theorem form1_pred(H:Kn)(ks:Env Int)(bm B:Nat)(l:List Ex)
  (ih:∀e∈l,∀v,ExV H e v->∀w,H.In w->Zay (Value.int .i64) w bm ks->Calls Tryz.prog 113 #[v,.map (some bm)] w λr w'=>r=.returned (.bool (Zad ks e))/\Ybw w w'):
  ExPred 124 #[.pointer (some ⟨B,0,none⟩)] (λw=>H.In w/\Zay (Value.int .i64) w bm ks/\w.cell? ⟨B,0,none⟩=some (.map (some bm))) H (λx => !Zad ks x) l:=by
 refine⟨λ_ _=>by kernel_rfl,λw w' ⟨h1,h2,h3⟩ hb=>⟨h1.below hb,h2.below hb,by rw[hb.cell (p:=⟨B,0,none⟩) (World.block_lt_of_cell? w _ h3)];exact h3⟩,?_⟩;intro e he v hv w ⟨h1,h2,h3⟩;have IH:=Zhd ih;have hB:=World.block_lt_of_cell? w _ h3;have zp:=hv;obtain⟨u,rfl,hu⟩:=zp;obtain⟨a,c,rfl⟩:=hu.len;clear ih hu;have c3:(w.alloc (.cells (Yqe e.op e.n e.s a e.l.length c) 93)).cell? ⟨B,0,none⟩=some (.map (some bm)):=by rw[World.cell?_alloc_past _ _ _ hB];exact h3
 have H3:=Zhd h3;clear h3;show Calls Tryz.prog 124 #[.agg (Yqe e.op e.n e.s a e.l.length c),.pointer (some ⟨B,0,none⟩)] w _;go_enter Tryz.func124,Tryz.ntmps124;go_wp2_with fail;refine(IH.out e he _ hv _ (h1.alloc _) (h2.alloc _)).mono ?_;rintro r w2 ⟨rfl,Hm⟩;go_wp2_with fail;go_ret;exact⟨rfl,Yba.trans (Hm.mono (by simp))⟩
theorem formAll_any(H:Kn)(T:Zbv H)(ks:Env Int)(bm:Nat):∀(e:Ex) (v:Value),ExV H e v->∀w,H.In w->Zay (Value.int .i64) w bm ks->
  Calls Tryz.prog 113 #[v,.map (some bm)] w λr w'=>r=.returned (.bool (Zad ks e))/\Ybw w w':=by
 refine Ex.ind λo n s l ih v hv w hH hM=>?_;have zp:=hv;obtain⟨u,rfl,hu⟩:=zp;simp only[Ex.op,Ex.n,Ex.s,Ex.l] at hu hv ⊢;obtain⟨a,Ha,rfl⟩:=hu.len;have HV:=Zhd hv;have HU:=Zhd hu;have HP:=Zhd (form1_pred H ks bm (w.heap.size+1) l ih);clear hv hu ih;have qN:Ybw w ((w.alloc (.cells (Yqe o n s a l.length Ha) 93)).alloc (.cells #[.map (some bm)] 124)):=Yba.alloc (by simp) _;have kU:Zay (Value.int .i64) ((w.alloc (.cells (Yqe o n s a l.length Ha) 93)).alloc (.cells #[.map (some bm)] 124)) bm ks:=(hM.alloc _).alloc _;have J6:((w.alloc (.cells (Yqe o n s a l.length Ha) 93)).alloc (.cells #[.map (some bm)] 124)).heap.size=w.heap.size+2:=by simp
 have Ht:=kU.run (P:=Tryz.prog) Tryz.underlying124 Tryz.underlying9 (d:=0) (by kernel_rfl) s true;simp only[if_true] at Ht;have q0:((w.alloc (.cells (Yqe o n s a l.length Ha) 93)).alloc (.cells #[.map (some bm)] 124)).cell? ⟨w.heap.size+1,0,none⟩=some (.map (some bm)):=by
  simp
 have HQ:=Zhd q0;have HM:=Zhd kU;have HW:=Zhd qN;have HZ:=Zhd J6;obtain⟨fa,ym⟩:∃b,form (.mk o n s l)=b:=⟨_,rfl⟩;obtain⟨is,his⟩:∃b,(ks s).isSome=b:=⟨_,rfl⟩;obtain⟨fl,jY⟩:∃b,Zb4 ks l=b:=⟨_,rfl⟩;have Hf:=dLit o [99,97,108,108];have Je:=dLit o [110,97,109,101];have hR:Zad ks (.mk o n s l)=(fa && !(o.toList==[99,97,108,108])&&(!(o.toList==[110,97,109,101]) || is)&&fl):=by
  simp only[Zad];rw[ym,his,jY,<- Hf,<- Je];simp
 have zf:(l.any λx => !Zad ks x) = !fl:=by rw[Zkl,jY]
 rw[his] at Ht;have HA:=Zhd zf;have HFA:=Zhd ym;have HR:=Zhd hR;generalize (ks s).getD 0=kv at *;clear ym his jY Hf Je hR zf q0 kU qN J6 hM;go_enter Tryz.func113,Tryz.ntmps113;go_wp2_with fail;refine(form_any H T _ _ HV.out _ (hH.below HW.out)).mono ?_;rw[HFA.out];rintro r w2 ⟨rfl,Hm⟩;have jx:=HW.out.trans (Hm.mono HW.out.size);have HI2:=Zhd (show H.In w2/\Zay (Value.int .i64) w2 bm ks/\w2.cell? ⟨w.heap.size+1,0,none⟩=some (.map (some bm)) from⟨hH.below jx,HM.out.below Hm,by rw[Hm.cell (p:=⟨w.heap.size+1,0,none⟩) (by rw[HZ.out];simp)];exact HQ.out⟩);obtain⟨q7,kQ⟩:=bcell Hm;rw[HZ.out] at q7 kQ;clear Ht;cases fa
 .go_wp2_with fail;go_ret;exact⟨Za7 (by rw[HR.out];rfl),jx⟩
 rcases Ybb (o.toList==[99,97,108,108]) with e1|e1
 .have n1:(o.toList != [99,97,108,108])=false:=by simp[bne,e1]
  go_wp2_with fail;go_ret;exact⟨Za7 (by rw[HR.out];simp[e1]),jx⟩
 have n1:(o.toList != [99,97,108,108])=true:=by simp[bne,e1]
 have hex:((o.toList==[110,97,109,101])=true/\is=false)\/((!(o.toList==[110,97,109,101]) || is)=true/\((o.toList==[110,97,109,101])=false\/((o.toList==[110,97,109,101])=true/\is=true))):=by
  cases(o.toList==[110,97,109,101])<;>cases is<;>simp
 rcases hex with ⟨e2,rfl⟩|⟨e3,hex⟩
 .have n2:(o.toList != [110,97,109,101])=false:=by simp[bne,e2]
  go_wp2_with fail;go_ret;exact⟨Za7 (by rw[HR.out];simp[e1,e2]),jx⟩
 have HE3:=Zhd e3;clear e3;rcases hex with e2|⟨e2,rfl⟩
 .have n2:(o.toList != [110,97,109,101])=true:=by simp[bne,e2]
  exact mFormA1
 have n2:(o.toList != [110,97,109,101])=false:=by simp[bne,e2]
 exact mFormA1
theorem Tryz.infoEx:(Tryz.prog.info? 93).map (λi=>(i.zero,i.size,i.bytes))=some (some (.agg #[.string ⟨#[]⟩,.int .i64 0,.string ⟨#[]⟩,Ys0]),4,64):=by kernel_rfl
def XsAt(H:Kn):List Ex->List Value->Prop
 | [],xs=>xs=[]
 |e :: l,xs=>∃a c r,xs=.string e.op :: .int .i64 e.n :: .string e.s :: .slice a e.l.length c :: r/\ExsV H e.l (.slice a e.l.length c)/\XsAt H l r
theorem XsAt.append{H:Kn}:∀{l m:List Ex} {xs ys:List Value},XsAt H l xs->XsAt H m ys->XsAt H (l++m) (xs++ys)
 | [],_,_,_,h,k=>by rw[show _=[] from h];exact k
 |e :: l,m,xs,ys,h,k=>by
  obtain⟨a,c,r,rfl,h1,h2⟩:=h;exact⟨a,c,r++ys,rfl,h1,h2.append k⟩
theorem XsAt.len{H:Kn}:∀{l:List Ex} {xs:List Value},XsAt H l xs->xs.length=l.length * 4
 | [],_,h=>by rw[show _=[] from h];rfl
 |e :: l,xs,h=>by
  obtain⟨a,c,r,rfl,h1,h2⟩:=h;have:=h2.len;simp only[List.length_cons];omega
theorem XsAt.one{H:Kn}:∀{l:List Ex} {xs:List Value},XsAt H l xs->∀u∈xs,u.oneCell'=true
 | [],_,h,u,hu=>by rw[show _=[] from h] at hu;cases hu
 |e :: l,xs,h,u,hu=>by
  obtain⟨a,c,r,rfl,h1,h2⟩:=h;simp only[List.mem_cons] at hu;rcases hu with rfl|rfl|rfl|rfl|hu
  .rfl
  .rfl
  .rfl
  .rfl
  exact h2.one u hu
theorem Zee.xs{H:Kn}:∀{l:List Ex} {b off:Nat},Zee H l b off->∃xs,XsAt H l xs/\∀j u,xs[j]?=some u->H.cell b (off+j)=some u
 | [],b,off,_=>⟨[],rfl,λj u h=>by simp at h⟩
 |e :: l,b,off,h=>by
  simp only[Zee] at h;obtain⟨u,a0,a1,a2,a3,hu⟩:=h.1.cells;obtain⟨a,c,rfl⟩:=hu.len;obtain⟨r,h1,h2⟩:=Zee.xs h.2;refine⟨_,⟨a,c,r,rfl,hu,h1⟩,λj v hj=>?_⟩
  match j,hj with
  |0,hj=>simp at hj;rw[<- hj];exact a0
  |1,hj=>simp at hj;rw[<- hj];exact a1
  |2,hj=>simp at hj;rw[<- hj];exact a2
  |3,hj=>simp at hj;rw[<- hj];exact a3
  |j+4,hj=>
   have:=h2 j v (by simpa using hj);rw[show off+(j+4)=off+4+j from by omega];exact this
theorem XsAt.at{H H':Kn}(He:H.le H'):∀{l:List Ex} {xs:List Value} {b off:Nat},XsAt H l xs->(∀j u,xs[j]?=some u->H'.cell b (off+j)=some u)->Zee H' l b off
 | [],_,_,_,_,_=>by simp only[Zee]
 |e :: l,xs,b,off,h,k=>by
  obtain⟨a,c,r,rfl,h1,h2⟩:=h;simp only[Zee];refine⟨ExAt.mk (k 0 _ rfl) (k 1 _ rfl) (k 2 _ rfl) (k 3 _ rfl) (h1.le He),h2.at He λj u hj=>?_⟩;rw[show off+4+j=off+(j+4) from by omega];exact k (j+4) u (by simpa using hj)
theorem Zib{H:Kn}{w:World}{base:Nat}{t:TypeId}{v:Value}{l:List Ex}{xs:List Value}(hH:H.In w)(h:w.ownsRow base t 4 v l.length xs)(hx:XsAt H l xs):ExsV (Zan w) l v:=by
 have He:H.le (Zan w):=λb o e=>hH b o e;by_cases h0:l=[]
 .obtain⟨a,c,h1,_⟩:=Zar h;exact .inl ⟨h0,a,c,by rw[h1,h0];rfl⟩
 obtain⟨g,Ha,h1,h2,h3,_,_,h4⟩:=Zbr h (List.length_pos_iff.2 h0);exact .inr ⟨g,0,Ha,h1,h2,h3,hx.at He λj u hj=>by rw[Zaj,Nat.zero_add];exact h4 j u hj⟩
theorem grow_nil(n:Nat)(hn:n<=1000000000)(w:World):
  Calls Tryz.prog 110 #[Ys0,.int .i64 n] w λr w'=>∃v,r=.returned v/\w'.ownsRow w.heap.size 93 4 v 0 []/\Ybw w w':=by
 obtain⟨i0,hi,Jt,J6,Ju⟩:=info_parts Tryz.infoEx;by_cases h0:n=0
 .subst h0;clear hn;go_enter Tryz.func110,Tryz.ntmps110;go_wp2_with fail;go_ret;exact⟨_,rfl,World.ownsRow_nil _ _ _ _,Below.refl _ _⟩
 have Ht:=λty=>Lib.run_append_nil_zeros (P:=Tryz.prog) w 40 3 ty 93 i0 _ .i64 .i64 Tryz.underlying40 Tryz.underlying3 hi Jt n (by omega) (by rw[J6];omega) (by omega) (by rw[Ju];omega);have hpos:(0:Int)<n:=by omega
 have jC:n<=grownCap w n 0 93:=grownCap_ge w n 0 _;have He:grownCap w n 0 93<=maxLen:=grownCap_le_maxLen w n 0 _ (by unfold maxLen;omega);have Hb:(w.drew.alloc (.cells (Builtin.zeroCells (Value.agg #[.string ⟨#[]⟩,.int .i64 0,.string ⟨#[]⟩,Ys0]).cells n++Builtin.zeroCells (Value.agg #[.string ⟨#[]⟩,.int .i64 0,.string ⟨#[]⟩,Ys0]).cells (grownCap w n 0 93 - n)) 93)).ownsRow w.heap.size 93 4 (.slice (some ⟨w.heap.size,0,none⟩) 0 (grownCap w n 0 93)) 0 []:=
  World.ownsRow_made w.drew _ _ Ylr He (by rw[Array.size_append,size_zeroCells,size_zeroCells];simp[Value.cells];omega)
 have HO:=Zhd Hb;have HB:=Zhd (show Ybw w (w.drew.alloc (.cells (Builtin.zeroCells (Value.agg #[.string ⟨#[]⟩,.int .i64 0,.string ⟨#[]⟩,Ys0]).cells n++Builtin.zeroCells (Value.agg #[.string ⟨#[]⟩,.int .i64 0,.string ⟨#[]⟩,Ys0]).cells (grownCap w n 0 93 - n)) 93)) from((Below.refl _ _).drew).alloc Ylr _);clear Hb;generalize w.drew.alloc (.cells (Builtin.zeroCells (Value.agg #[.string ⟨#[]⟩,.int .i64 0,.string ⟨#[]⟩,Ys0]).cells n++Builtin.zeroCells (Value.agg #[.string ⟨#[]⟩,.int .i64 0,.string ⟨#[]⟩,Ys0]).cells (grownCap w n 0 93 - n)) 93)=W at *;generalize grownCap w n 0 93=Ha at *;unfold maxLen at He;have kr:=Zhd Ht;clear Ht;go_enter Tryz.func110,Tryz.ntmps110;go_wp2_with(at_builtin;refine Zbi rfl 40 3 _ _ rfl _ _ rfl rfl _ _ kr.out ?_);go_ret;exact⟨_,rfl,HO.out,HB.out⟩
def Zea(lss:List (List Ex)):Nat:=(lss.map List.length).sum
theorem lensum_take(lss:List (List Ex))(k:Nat)(h:k<lss.length):Zea (lss.take (k+1))=Zea (lss.take k)+lss[k].length:=by
 unfold Zea;rw[List.take_succ_eq_append_getElem h,List.map_append,List.sum_append];simp
theorem Zin:∀(lss:List (List Ex)) (k:Nat),Zea (lss.take k)<=Zea lss
 | [],k=>by simp
 |l :: r,0=>by simp[Zea]
 |l :: r,k+1=>by
  have:=Zin r k;unfold Zea at this ⊢;simp only[List.take_succ_cons,List.map_cons,List.sum_cons];omega
theorem flatten_len(lss:List (List Ex)):lss.flatten.length=Zea lss:=by simp[Zea,List.length_flatten]
theorem Zc6(b off j:Nat):(⟨b,off,none⟩:Addr).add j=⟨b,off+j,none⟩:=by unfold Addr.add;split<;>simp_all
theorem concat_any(H:Kn)(lss:List (List Ex))(vs:List Value)(B n:Nat)(w:World)(hH:H.In w)(hn:lss.length=n)(hn3:n<=1000)(hv:vs.length=n)(hB:B<w.heap.size)
  (hc:∀i (h:i<vs.length),w.cell? ⟨B,i,none⟩=some vs[i]) (hs:∀i (h:i<lss.length) (h':i<vs.length),ExsV H lss[i] vs[i]) (htot:Zea lss<=1000000000):
  Calls Tryz.prog 91 #[.slice (some ⟨B,0,none⟩) n n] w λr w'=>∃v xs,r=.returned v/\w'.ownsRow w.heap.size 93 4 v lss.flatten.length xs/\XsAt H lss.flatten xs/\Ybw w w':=by
 have HC:=Zhd hc;have HS:=Zhd hs;have HN:=Zhd hn;have HV:=Zhd hv;clear hc hs hn hv;go_enter Tryz.func91,Tryz.ntmps91;go_wp2_with fail;go_loop[3,11] (λc i=>∃k:Nat,i=.int .i64 k/\k<=n/\c=.int .i64 (Zea (lss.take k))) (λ_ i=>n - (intOf i).toNat)
 case atStart=>exact⟨0,rfl,Nat.zero_le _,rfl⟩
 obtain⟨k,rfl,hk,rfl⟩:=hrel;have He:=Zin lss k;by_cases jA:k<n
 .have qf:k<lss.length:=by rw[HN.out];exact jA
  have hk2:k<vs.length:=by rw[HV.out];exact jA
  have J0:=HC.out k hk2;obtain⟨a,c,yh⟩:=(HS.out k qf hk2).len;rw[yh] at J0;have JB:=Zin lss (k+1);have LT:=Zhd (lensum_take lss k qf);rw[LT.out] at JB;clear yh;generalize lss[k].length=m at *;go_wp2_with fail;go_round
  case rel=>exact⟨k+1,by go_num,by omega,by rw[LT.out];go_num⟩
  simp[intOf];omega
 obtain rfl:k=n:=by omega
 rw[show lss.take k=lss from by rw[<- HN.out];exact List.take_length] at He ⊢;go_wp2_with fail;refine(grow_nil (Zea lss) htot _).mono ?_;rintro r w1 ⟨v1,rfl,Hb,Hv⟩;obtain⟨g1,c1,rfl,_,_⟩:=Zar Hb;go_wp2_with fail;go_loopw[6,27] (λu i wr=>∃(j:Nat) (xs:List Value),i=.int .i64 j/\j<=k/\wr.ownsRow w.heap.size 93 4 u (Zea (lss.take j)) xs/\XsAt H (lss.take j).flatten xs/\Ybw w wr) (λ_ i _=>k - (intOf i).toNat)
 case atStart=>exact⟨0,[],rfl,Nat.zero_le _,Hb,rfl,Hv⟩
 obtain⟨j,xs,rfl,hj,Hb,JC,hb⟩:=hrel;have HXS:=Zhd JC;have qS:=hb.size;clear JC;by_cases jV:j<k
 .have hj1:j<lss.length:=by rw[HN.out];exact jV
  have x8:j<vs.length:=by rw[HV.out];exact jV
  have hcj:=HC.out j x8;rw[<- hb.cell (p:=⟨B,j,none⟩) hB] at hcj;have hsj:=HS.out j hj1 x8;have JB:=Zin lss (j+1);have LT:=Zhd (lensum_take lss j hj1);have FT:=Zhd (show(lss.take (j+1)).flatten=(lss.take j).flatten++lss[j] from by rw[List.take_succ_eq_append_getElem hj1,List.flatten_append,List.flatten_cons,List.flatten_nil,List.append_nil]);rw[LT.out] at JB;obtain⟨i0,hi,Jt,J6,Ju⟩:=info_parts Tryz.infoEx;rcases hsj with ⟨he,a,c,yh⟩|⟨b,off,c,yh,qM,zI,hx⟩
  .rw [yh] at hcj;have kr:=Zhd (Zbn (P:=Tryz.prog) 40 93 i0 Tryz.underlying40 hi Hb a c);have LT':=Zhd (show Zea (lss.take (j+1))=Zea (lss.take j) from by rw[LT.out,he];rfl);have FT':=Zhd (show(lss.take (j+1)).flatten=(lss.take j).flatten from by rw[FT.out,he];simp);have HOWN:=Zhd Hb;clear yh he Hb;go_wp2_with(at_builtin;refine Zbi rfl 40 40 _ _ rfl _ _ rfl rfl _ _ kr.out ?_);go_roundw
   case rel=>exact⟨j+1,xs,by go_num,by omega,by rw[LT'.out];exact HOWN.out,by rw[FT'.out];exact HXS.out,hb⟩
   simp[intOf];omega
  rw[yh] at hcj;obtain⟨ys,zo,zU⟩:=hx.xs;have HY1:=Zhd zo;have HY2:=Zhd zU;have Hw:=hH.below hb;clear yh hx zo zU;generalize lss[j]=lj at *;go_wp2_with(at_builtin;refine wpList_append_own _ rfl _ _ 40 rfl w.heap.size 93 i0 _ 4 64 Tryz.underlying40 hi Jt J6 Ju rfl (by decide) _ _ _ rfl Hb ⟨b,off,none⟩ lj.length c ys rfl HY1.out.len ?c1 HY1.out.one ?c3 ?c4 qS ?_)
  case c1=>intro q u hq;rw[Zc6];exact Hw.cell (HY2.out q u hq)
  case c3=>unfold maxLen;omega
  case c4=>omega
  intro v' w2 ju zc _;have Hm:=hb.grown zc qS (λq hq=>(Hb.lt q hq).1);go_wp2_with fail;go_roundw
  case rel=>exact⟨j+1,xs++ys,by go_num,by omega,by rw[LT.out];exact ju,by rw[FT.out];exact HXS.out.append HY1.out,Hm⟩
  simp[intOf];omega
 obtain rfl:j=k:=by omega
 have kB:lss.take j=lss:=by rw[<- HN.out];exact List.take_length
 rw[kB] at Hb HXS;go_wp2_with fail;go_ret;exact⟨_,xs,rfl,by rw[flatten_len];exact Hb,HXS.out,hb⟩
theorem cells4(w:World)(x y z u:Value)(t:TypeId):∀j v,[x,y,z,u][j]?=some v->(w.alloc (.cells #[x,y,z,u] t)).cell? ((⟨w.heap.size,0,none⟩:Addr).add j)=some v:=by
 intro j v h;rw[Zc6,World.cell?_alloc_new];simpa using h
theorem FlsV.cell{H:Kn}{l:List Fl}{v:Value}(h:FlsV H l v)(Hs:l≠[]):∃b off Ha,v=.slice (some ⟨b,off,none⟩) l.length Ha/\l.length<=Ha/\Ha<=maxLen/\∀i (hi:i<l.length),∃ax cx,
  H.cell b (off+i * 6)=some (.string l[i].name)/\H.cell b (off+i * 6+1)=some (.int .i64 l[i].kind)/\H.cell b (off+i * 6+2)=some (.string l[i].e.op)/\H.cell b (off+i * 6+3)=some (.int .i64 l[i].e.n)/\
   H.cell b (off+i * 6+4)=some (.string l[i].e.s)/\H.cell b (off+i * 6+5)=some (.slice ax l[i].e.l.length cx)/\ExsV H l[i].e.l (.slice ax l[i].e.l.length cx):=by
 rcases h with ⟨h,_⟩|⟨b,off,Ha,h1,h2,h3,h4⟩
 .exact absurd h Hs
 refine⟨b,off,Ha,h1,h2,h3,λi hi=>?_⟩;obtain⟨u,a0,a1,a2,a3,a4,a5,hu⟩:=(h4 i hi).cells;obtain⟨ax,cx,rfl⟩:=hu.len;exact⟨ax,cx,a0,a1,a2,a3,a4,a5,hu⟩
theorem SlV.at{α:Type}{H:Kn}{k n:Nat}{R:α->(Nat->Option Value)->Prop}{l:List α}{a:Option Addr}{Ha:Nat}(h:SlV H k R l (.slice a n Ha)){i:Nat}(hi:i<l.length):∃b off,a=some ⟨b,off,none⟩/\Ha<=maxLen/\R l[i] (λj=>H.cell b (off+i * k+j)):=by
 rcases h with ⟨rfl,_⟩|⟨b,off,Hh,h1,_,h2,h3⟩
 .simp at hi
 cases h1;exact⟨b,off,rfl,h2,h3 i hi⟩
theorem ExsV.at{H:Kn}{n:Nat}{l:List Ex}{a:Option Addr}{Ha:Nat}(h:ExsV H l (.slice a n Ha)){i:Nat}(hi:i<l.length):∃b off ax cx,a=some ⟨b,off,none⟩/\
  H.cell b (off+i * 4)=some (.string l[i].op)/\H.cell b (off+i * 4+1)=some (.int .i64 l[i].n)/\H.cell b (off+i * 4+2)=some (.string l[i].s)/\H.cell b (off+i * 4+3)=some (.slice ax l[i].l.length cx)/\
   ExV H l[i] (.agg #[.string l[i].op,.int .i64 l[i].n,.string l[i].s,.slice ax l[i].l.length cx]):=by
 obtain⟨b,off,Hh,h1,_,_,hc⟩:=h.cell (λe=>by rw[e] at hi;simp at hi);cases h1;obtain⟨ax,cx,hh⟩:=hc i hi;exact⟨b,off,ax,cx,rfl,hh⟩
theorem XsAt.le{H H':Kn}(He:H.le H'):∀{l:List Ex} {xs:List Value},XsAt H l xs->XsAt H' l xs
 | [],_,h=>h
 |e :: l,xs,⟨a,c,r,h0,h1,h2⟩=>⟨a,c,r,h0,h1.le He,h2.le He⟩
theorem Zbl{H:Kn}{w:World}(h:H.In w):H.le (Zan w):=λb o e=>h b o e
theorem Zca{w w':World}(hb:Ybw w w'):(Zan w).In w':=(Za9 w).below hb
theorem terms_any(H:Kn)(p:Pr)(vi vo vl va vc:Value)(hp:PrP H p vi vo vl va vc)(w:World)(hH:H.In w)(J5:p.fl.length<=1000000/\p.as.length<=1000000/\p.cs.length<=1000000):
  Calls Tryz.prog 112 #[.agg #[vi,vo,vl,va,vc]] w λr w'=>∃v,r=.returned v/\ExsV (Zan w') p.terms v/\Ybw w w':=by
 obtain⟨h1,h2,h3,h4,h5⟩:=hp;obtain⟨ai,ci,rfl⟩:=h1.len;obtain⟨ao,co,rfl⟩:=h2.len;obtain⟨aa,ca,rfl⟩:=h4.len;obtain⟨ac,cc,rfl⟩:=h5.len;clear h1 h2;obtain⟨s1,s2,s3⟩:=J5;have H4:=Zhd h4;have H5:=Zhd h5
 -- behind the loop
 have rest:∀(w2:World) (v:Value) (xs:List Value),Ybw w w2->w2.ownsRow (w.heap.size+1) 93 4 v p.fl.length xs->XsAt H (p.fl.map (·.e)) xs->
   Calls Tryz.prog 91 #[.slice (some ⟨w2.heap.size,0,none⟩) 3 3] (w2.alloc (.cells #[v,.slice aa p.as.length ca,.slice ac p.cs.length cc] 40)) λr w'=>∃v,r=.returned v/\ExsV (Zan w') p.terms v/\Ybw w w':=by
  intro w2 v xs hb Hb JC;have hB:w2.heap.size<(w2.alloc (.cells #[v,.slice aa p.as.length ca,.slice ac p.cs.length cc] 40)).heap.size:=by simp
  have JB:=Zbl (hH.below hb);have hex:ExsV (Zan w2) (p.fl.map (·.e)) v:=Zib (hH.below hb) (by rw[List.length_map];exact Hb) JC;have Jg:Ybw w (w2.alloc (.cells #[v,.slice aa p.as.length ca,.slice ac p.cs.length cc] 40)):=hb.alloc hb.size _;refine(concat_any (Zan w2) [p.fl.map (·.e),p.as,p.cs] [v,.slice aa p.as.length ca,.slice ac p.cs.length cc] w2.heap.size 3 _ ((Za9 w2).alloc _) rfl (by omega) rfl hB (λi hi=>?_) (λi hi qK=>?_) ?_).mono ?_
  .rw [World.cell?_alloc_new];simp at hi ⊢
  .match i,hi with
   |0,_=>exact hex
   |1,_=>exact H4.out.le JB
   |2,_=>exact H5.out.le JB
  .simp [Zea];omega
  rintro r w' ⟨v',xs',rfl,ho,hx,Ji⟩;refine⟨v',rfl,?_,Jg.trans (Ji.mono (by have:=Jg.size;omega))⟩;have Hk:(Zan w2).In w':=((Za9 w2).alloc _).below Ji;have:=Zib Hk ho hx;have e : [p.fl.map (·.e),p.as,p.cs].flatten=p.terms:=by simp[Pr.terms]
  rw[e] at this;exact this
 have HR:=Zhd rest;clear rest h4 h5;have qN:Ybw w (w.alloc (.cells #[.slice ai p.ins.length ci,.slice ao p.outs.length co,vl,.slice aa p.as.length ca,.slice ac p.cs.length cc] 42)):=Yba;have J6:(w.alloc (.cells #[.slice ai p.ins.length ci,.slice ao p.outs.length co,vl,.slice aa p.as.length ca,.slice ac p.cs.length cc] 42)).heap.size=w.heap.size+1:=by simp
 by_cases Hs:p.fl=[]
 .obtain⟨al,cl,rfl⟩:=h3.len;have HX:=Zhd (show XsAt H (p.fl.map (·.e)) [] from by rw[Hs];rfl);have h0:p.fl.length=0:=by rw[Hs];rfl
  have HNE:=Zhd Hs;clear h3 Hs;rw[h0] at qN J6 ⊢;go_enter Tryz.func112,Tryz.ntmps112;go_wp2_with fail;have q3:(w.alloc (.cells #[.slice ai p.ins.length ci,.slice ao p.outs.length co,.slice al 0 cl,.slice aa p.as.length ca,.slice ac p.cs.length cc] 42)).cell? ⟨w.heap.size,3,none⟩=some (.slice aa p.as.length ca):=by rw[World.cell?_alloc_new];rfl
  have q4:(w.alloc (.cells #[.slice ai p.ins.length ci,.slice ao p.outs.length co,.slice al 0 cl,.slice aa p.as.length ca,.slice ac p.cs.length cc] 42)).cell? ⟨w.heap.size,4,none⟩=some (.slice ac p.cs.length cc):=by rw[World.cell?_alloc_new];rfl
  generalize w.alloc (.cells #[.slice ai p.ins.length ci,.slice ao p.outs.length co,.slice al 0 cl,.slice aa p.as.length ca,.slice ac p.cs.length cc] 42)=W at *;have HZ1:=Zhd J6;clear J6;refine wp_loop_rounds 1 ?_;rw[rounds_succ];go_wp2_with fail;refine(HR.out _ _ [] qN (by rw[h0];exact World.ownsRow_nil _ _ _ _) HX.out).mono ?_;rintro r w' ⟨v,rfl,hv,hb⟩;go_wp2_with fail;go_ret;exact⟨v,rfl,hv,hb⟩
 obtain⟨b,off,Ha,rfl,qM,zI,hc⟩:=FlsV.cell h3 Hs;have HC:=Zhd hc;clear hc h3;unfold maxLen at zI;go_enter Tryz.func112,Tryz.ntmps112;go_wp2_with fail;have q3:(w.alloc (.cells #[.slice ai p.ins.length ci,.slice ao p.outs.length co,.slice (some ⟨b,off,none⟩) p.fl.length Ha,.slice aa p.as.length ca,.slice ac p.cs.length cc] 42)).cell? ⟨w.heap.size,3,none⟩=some (.slice aa p.as.length ca):=by rw[World.cell?_alloc_new];rfl
 have q4:(w.alloc (.cells #[.slice ai p.ins.length ci,.slice ao p.outs.length co,.slice (some ⟨b,off,none⟩) p.fl.length Ha,.slice aa p.as.length ca,.slice ac p.cs.length cc] 42)).cell? ⟨w.heap.size,4,none⟩=some (.slice ac p.cs.length cc):=by rw[World.cell?_alloc_new];rfl
 generalize w.alloc (.cells #[.slice ai p.ins.length ci,.slice ao p.outs.length co,.slice (some ⟨b,off,none⟩) p.fl.length Ha,.slice aa p.as.length ca,.slice ac p.cs.length cc] 42)=W at *;have Q:=Zhd (And.intro q3 q4);have gb:=Zhd qN;have HZ1:=Zhd J6;clear q3 q4 qN J6;go_loopw[3,9] (λu i wr=>∃(k:Nat) (xs:List Value),i=.int .i64 k/\k<=p.fl.length/\wr.ownsRow (w.heap.size+1) 93 4 u k xs/\XsAt H ((p.fl.take k).map (·.e)) xs/\Below (w.heap.size+1) W wr) (λ_ i _=>p.fl.length - (intOf i).toNat)
 case atStart=>exact⟨0,[],rfl,Nat.zero_le _,World.ownsRow_nil _ _ _ _,rfl,Below.refl _ _⟩
 obtain⟨k,xs,rfl,hk,Hb,JC,hb⟩:=hrel;have HXS:=Zhd JC;have qS:=hb.size;rw[HZ1.out] at qS;have kL:Ybw w wr:=gb.out.trans (hb.mono (by omega));clear JC;by_cases Hd:k<p.fl.length
 .obtain⟨ax,cx,c0,c1,c2,c3,c4,c5,hx⟩:=HC.out k Hd;have Hw:=hH.below kL;have c0:=Hw.cell c0;have c1:=Hw.cell c1;have c2:=Hw.cell c2;have c3:=Hw.cell c3;have c4:=Hw.cell c4;have c5:=Hw.cell c5;have TK:=Zhd (show(p.fl.take (k+1)).map (·.e)=(p.fl.take k).map (·.e)++[p.fl[k].e] from by rw[List.take_succ_eq_append_getElem Hd,List.map_append];rfl);generalize p.fl[k]=f at *;obtain⟨fname,fkind,fe⟩:=f;dsimp only at *;obtain⟨fo,fn,fs,fl'⟩:=fe;simp only[Ex.op,Ex.n,Ex.s,Ex.l] at *;have HX1:=Zhd (show XsAt H [Ex.mk fo fn fs fl'] [.string fo,.int .i64 fn,.string fs,.slice ax fl'.length cx] from⟨ax,cx,[],rfl,hx,rfl⟩);clear hx;obtain⟨u',cu',rfl,_,_⟩:=Zar Hb;go_wp2_with(at_builtin;refine app1 40 93 4 64 _ Tryz.underlying40 Tryz.infoEx rfl (by decide) _ _ rfl rfl (w.heap.size+1) _ _ _ rfl ((Hb.alloc _).alloc _) ⟨wr.heap.size+1,0,none⟩ 1 [.string fo,.int .i64 fn,.string fs,.slice ax fl'.length cx] rfl rfl ?c1 ?c2 ?c3 ?c4 ?c5 ?_)
  case c1=>
   have:=cells4 (wr.alloc (.cells #[.string fname,.int .i64 fkind,.string fo,.int .i64 fn,.string fs,.slice ax fl'.length cx] 96)) (.string fo) (.int .i64 fn) (.string fs) (.slice ax fl'.length cx) 93;simpa using this
  case c2=>simp[Value.oneCell']
  case c3=>omega
  case c4=>omega
  case c5=>simp;omega
  intro v' w2 ju zc;have Hm:Below (w.heap.size+1) W w2:=((hb.alloc qS _).alloc (by simp;omega) _).grown zc (by simp;omega) (λq hq=>(Hb.lt q hq).1);go_wp2_with fail;go_roundw
  case rel=>exact⟨k+1,_,by go_num,by omega,ju,by rw[TK.out];exact HXS.out.append HX1.out,Hm⟩
  simp[intOf];omega
 obtain rfl:k=p.fl.length:=by omega
 rw[List.take_length] at HXS;obtain⟨u',cu',rfl,_,_⟩:=Zar Hb;have q3:wr.cell? ⟨w.heap.size,3,none⟩=some (.slice aa p.as.length ca):=by rw[hb.cell (p:=⟨w.heap.size,3,none⟩) (by simp)];exact Q.out.1
 have q4:wr.cell? ⟨w.heap.size,4,none⟩=some (.slice ac p.cs.length cc):=by rw[hb.cell (p:=⟨w.heap.size,4,none⟩) (by simp)];exact Q.out.2
 have HO:=Zhd Hb;clear Hb;go_wp2_with fail;refine(HR.out _ _ xs kL HO.out HXS.out).mono ?_;rintro r w' ⟨v,rfl,hv,hb⟩;go_wp2_with fail;go_ret;exact⟨v,rfl,hv,hb⟩
end Go.Proofs.YtafapnolamcdmaaGreatDoor
