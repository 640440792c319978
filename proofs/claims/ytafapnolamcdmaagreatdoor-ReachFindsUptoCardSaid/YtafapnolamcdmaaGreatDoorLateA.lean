/- Walks: order.LateOf. -/
import Derived.Test.YtafapnolamcdmaaGreatDoorNeeds
import Derived.Deep.LoopGhost
set_option linter.all false
namespace Go.Proofs.YtafapnolamcdmaaGreatDoor
set_option maxRecDepth 100000
set_option maxHeartbeats 16000000
open Go.RowKit Mx
def getI(m:Env Int):ByteArray->Int:=λs=>(m s).getD 0
theorem Zi1:∀(l:List Int) (a:Int),0<=a->a<=2->(∀x∈l,0<=x/\x<=2)->0<=l.foldl max a/\l.foldl max a<=2
 | [],a,h1,h2,_=>⟨h1,h2⟩
 |x :: l,a,h1,h2,h=>by
  have:=h x (List.mem_cons_self ..);exact Zi1 l (max a x) (by omega) (by omega) (λy hy=>h y (List.mem_cons_of_mem _ hy))
theorem Zfv(late:ByteArray->Int):∀(l:List Ex) (x:Int),x∈Zau late l->∃e∈l,x=lateOf late e
 | [],x,h=>by simp[Zau] at h
 |e :: l,x,h=>by
  simp only[Zau,List.mem_cons] at h;rcases h with rfl|h
  .exact⟨e,List.mem_cons_self ..,rfl⟩
  obtain⟨e',h1,h2⟩:=Zfv late l x h;exact⟨e',List.mem_cons_of_mem _ h1,h2⟩
theorem Zjs(l:List Int)(i:Nat)(h:∀x∈l,0<=x/\x<=2):0<=l.getD i 0/\l.getD i 0<=2:=by
 rw[Ygg];cases hq:l[i]? with
 |none=>simp
 |some x=>exact h x (List.mem_of_getElem? hq)
theorem Zbw(late:ByteArray->Int)(hl:∀s,0<=late s/\late s<=2):∀e:Ex,0<=lateOf late e/\lateOf late e<=2:=by
 refine Ex.ind λo n s l ih=>?_;have hr:∀x∈Zau late l,0<=x/\x<=2:=λx hx=>by
  obtain⟨e,h1,rfl⟩:=Zfv late l x hx;exact ih e h1
 have h0:=Zjs _ 0 hr;have h1:=Zjs _ 1 hr;have hm:=Zi1 (Zau late l) 0 (by omega) (by omega) hr;simp only[lateOf]
 split
 .exact hl s
 split
 .omega
 split
 .split<;>omega
 exact hm
theorem Zgl(late:ByteArray->Int):∀(l:List Ex) (k:Nat) (h:k<l.length),Zau late (l.take (k+1))=Zau late (l.take k)++[lateOf late l[k]]
 |e :: l,0,_=>by simp[Zau]
 |e :: l,k+1,h=>by
  have:=Zgl late l k (by simpa using h);simp only[List.take_succ_cons,Zau,List.getElem_cons_succ];rw[this];rfl
theorem Zcg(late:ByteArray->Int):∀(l:List Ex) (k:Nat) (h:k<l.length),(Zau late l).getD k 0=lateOf late l[k]
 |e :: l,0,_=>by simp[Zau]
 |e :: l,k+1,h=>by
  have:=Zcg late l k (by simpa using h);simpa[Zau] using this
theorem late_any(H:Kn)(m:Env Int)(bm:Nat)(hl:∀s,0<=getI m s/\getI m s<=2)(ks:Env Int):∀(e:Ex),Zad ks e=true->∀v,ExV H e v->∀w,H.In w->Zay (Value.int .i64) w bm m->
  Calls Tryz.prog 93 #[v,.map (some bm)] w λr w'=>r=.returned (.int .i64 (lateOf (getI m) e))/\Ybw w w':=by
 refine Ex.ind λo n s l ih hf v hv w hH hM=>?_;obtain⟨u,rfl,hu⟩:=hv;simp only[Ex.op,Ex.n,Ex.s,Ex.l] at hu ⊢;obtain⟨a,c,rfl⟩:=hu.len;obtain⟨jY,Jj,jq,zC,_⟩:=Zax hf;have HU:=Zhd hu;have qq:=Zhd λe he=>ih e he (jY e he);have zQ:=Zhd (Zbw (getI m) hl);have Hr:l.length<=9223372036854775807:=by
  rcases hu with ⟨rfl,_⟩|⟨_,_,c',_,h1,h2,_⟩
  .simp
  unfold maxLen at h2;omega
 have qN:Ybw w (w.alloc (.cells (Yqe o n s a l.length c) 93)):=Yba;have kU:=hM.alloc (.cells (Yqe o n s a l.length c) 93);have kp:=hH.alloc (.cells (Yqe o n s a l.length c) 93);have gb:=Zhd qN;have HM1:=Zhd kU;clear hu ih jY hf hM kU qN;by_cases Je:o=Zb2
 .have HX:=Zhd (show lateOf (getI m) (.mk o n s l)=getI m s from by simp only[lateOf];rw[if_pos Je]);have t1:(o.toList==[110,97,109,101])=true:=by rw[<- dLit];simpa using Je
  have Ht:=HM1.out.run (P:=Tryz.prog) Tryz.underlying124 Tryz.underlying9 (d:=0) (by kernel_rfl) s false;simp only[Bool.false_eq_true,if_false] at Ht;have HG:=Zhd (show getI m s=(m s).getD 0 from rfl);generalize (m s).getD 0=q at *;clear Je Jj jq zC;go_enter Tryz.func93,Tryz.ntmps93;go_wp2_with fail;go_ret;exact⟨Zaf (by rw[HX.out,HG.out]),gb.out⟩
 have t1:(o.toList==[110,97,109,101])=false:=Zav _ Je;by_cases hZ:o=oPre
 .have h1:=zC hZ;have h0:0<l.length:=by omega
  have t2:(o.toList==[112,114,101])=true:=by rw[<- dLit];simpa using hZ
  have HX:=Zhd (show lateOf (getI m) (.mk o n s l)=min (2:Int) (lateOf (getI m) l[0]+1) from by simp only[lateOf];rw[if_neg Je,if_pos hZ,Zcg _ l 0 h0]);obtain⟨b,off,ax,cx,rfl,c0,c1,c2,c3,hx⟩:=ExsV.at HU.out h0;have c0:=kp.cell c0;have c1:=kp.cell c1;have c2:=kp.cell c2;have c3:=kp.cell c3;simp only[Nat.zero_mul,Nat.add_zero] at c0 c1 c2 c3;have Hl:=Ymm h0;have Hu:=zQ.out l[0];have Qs:(0:Int)<l.length:=by omega
  clear Je hZ Jj jq zC h1;generalize l[0]=x at *;go_enter Tryz.func93,Tryz.ntmps93;go_wp2_with fail;refine(qq.out x Hl _ hx _ kp HM1.out).mono ?_;rintro r w2 ⟨rfl,Hm⟩;have HB:=Zhd (gb.out.trans (Hm.mono (by simp)));generalize lateOf (getI m) x=q at *;go_wp2_with fail
  all_goals go_ret
  all_goals exact⟨Zaf (by rw[HX.out];try omega),HB.out⟩
 have t2:(o.toList==[112,114,101])=false:=Zav _ hZ;by_cases zL:o=Zbk\/o=oFby
 .have h2:l.length=2:=by rcases zL with h|h;exact jq h;exact Jj h
  have h0:0<l.length:=by omega
  have h1:1<l.length:=by omega
  obtain⟨b,off,ax,cx,rfl,c0,c1,c2,c3,jh⟩:=ExsV.at HU.out h0;obtain⟨b1,off1,ax1,cx1,Hv,d0,d1,d2,d3,jK⟩:=ExsV.at HU.out h1;cases Hv;have hm0:=Ymm h0;have gx:=Ymm h1;have HX:=Zhd (show lateOf (getI m) (.mk o n s l)=(if (if o=oFby then min (2:Int) (lateOf (getI m) l[1]+1) else lateOf (getI m) l[1])=2 then 2 else lateOf (getI m) l[0]) from by
   simp only[lateOf];rw[if_neg Je,if_neg hZ,if_pos zL,Zcg _ l 0 h0,Zcg _ l 1 h1])
  have hbx0:=zQ.out l[0];have hbx1:=zQ.out l[1];have X0:=Zhd (qq.out l[0] hm0 _ jh);have X1:=Zhd (qq.out l[1] gx _ jK);generalize l[0]=x0 at *;generalize l[1]=x1 at *;have c0:=kp.cell c0;have c1:=kp.cell c1;have c2:=kp.cell c2;have c3:=kp.cell c3;have d0:=kp.cell d0;have d1:=kp.cell d1;have d2:=kp.cell d2;have d3:=kp.cell d3;simp only[Nat.zero_mul,Nat.one_mul,Nat.add_zero] at c0 c1 c2 c3 d0 d1 d2 d3;have hgt0:(0:Int)<l.length:=by omega
  have hgt1:(1:Int)<l.length:=by omega
  have q3:(w.alloc (.cells #[.string o,.int .i64 n,.string s,.slice (some ⟨b,off,none⟩) l.length c] 93)).cell? ⟨w.heap.size,3,none⟩=some (.slice (some ⟨b,off,none⟩) l.length c):=by rw[World.cell?_alloc_new];rfl
  have q0:(w.alloc (.cells #[.string o,.int .i64 n,.string s,.slice (some ⟨b,off,none⟩) l.length c] 93)).cell? ⟨w.heap.size,0,none⟩=some (.string o):=by rw[World.cell?_alloc_new];rfl
  have JY:(λw':World=>w'.cell? ⟨w.heap.size,3,none⟩=some (.slice (some ⟨b,off,none⟩) l.length c)/\w'.cell? ⟨b,off,none⟩=some (.string x0.op)/\w'.cell? ⟨b,off+1,none⟩=some (.int .i64 x0.n)/\w'.cell? ⟨b,off+2,none⟩=some (.string x0.s)/\w'.cell? ⟨b,off+3,none⟩=some (.slice ax x0.l.length cx)/\
   w'.cell? ⟨b,off+4,none⟩=some (.string x1.op)/\w'.cell? ⟨b,off+4+1,none⟩=some (.int .i64 x1.n)/\w'.cell? ⟨b,off+4+2,none⟩=some (.string x1.s)/\w'.cell? ⟨b,off+4+3,none⟩=some (.slice ax1 x1.l.length cx1)/\H.In w'/\Zay (Value.int .i64) w' bm m/\Ybw w w'/\w.heap.size<w'.heap.size/\w'.cell? ⟨w.heap.size,0,none⟩=some (.string o)) (w.alloc (.cells #[.string o,.int .i64 n,.string s,.slice (some ⟨b,off,none⟩) l.length c] 93)).drew:=⟨q3,c0,c1,c2,c3,d0,d1,d2,d3,kp,HM1.out,gb.out.drew,by show w.heap.size<(w.alloc _).heap.size;simp,q0⟩
  have hKS:∀u u':World,Ybw u u'->(λw':World=>w'.cell? ⟨w.heap.size,3,none⟩=some (.slice (some ⟨b,off,none⟩) l.length c)/\w'.cell? ⟨b,off,none⟩=some (.string x0.op)/\w'.cell? ⟨b,off+1,none⟩=some (.int .i64 x0.n)/\w'.cell? ⟨b,off+2,none⟩=some (.string x0.s)/\w'.cell? ⟨b,off+3,none⟩=some (.slice ax x0.l.length cx)/\
   w'.cell? ⟨b,off+4,none⟩=some (.string x1.op)/\w'.cell? ⟨b,off+4+1,none⟩=some (.int .i64 x1.n)/\w'.cell? ⟨b,off+4+2,none⟩=some (.string x1.s)/\w'.cell? ⟨b,off+4+3,none⟩=some (.slice ax1 x1.l.length cx1)/\H.In w'/\Zay (Value.int .i64) w' bm m/\Ybw w w'/\w.heap.size<w'.heap.size/\w'.cell? ⟨w.heap.size,0,none⟩=some (.string o)) u->(λw':World=>w'.cell? ⟨w.heap.size,3,none⟩=some (.slice (some ⟨b,off,none⟩) l.length c)/\w'.cell? ⟨b,off,none⟩=some (.string x0.op)/\w'.cell? ⟨b,off+1,none⟩=some (.int .i64 x0.n)/\w'.cell? ⟨b,off+2,none⟩=some (.string x0.s)/\w'.cell? ⟨b,off+3,none⟩=some (.slice ax x0.l.length cx)/\
   w'.cell? ⟨b,off+4,none⟩=some (.string x1.op)/\w'.cell? ⟨b,off+4+1,none⟩=some (.int .i64 x1.n)/\w'.cell? ⟨b,off+4+2,none⟩=some (.string x1.s)/\w'.cell? ⟨b,off+4+3,none⟩=some (.slice ax1 x1.l.length cx1)/\H.In w'/\Zay (Value.int .i64) w' bm m/\Ybw w w'/\w.heap.size<w'.heap.size/\w'.cell? ⟨w.heap.size,0,none⟩=some (.string o)) u':=by
   rintro u u' hb ⟨k0,k1,k2,k3,k4,k5,k6,k7,k8,k9,k10,zT,k12,k13⟩;have hc:∀bq i q,u.cell? ⟨bq,i,none⟩=some q->u'.cell? ⟨bq,i,none⟩=some q:=λbq i q e=>by rw[hb.cell (p:=⟨bq,i,none⟩) (World.block_lt_of_cell? u ⟨bq,i,none⟩ e)];exact e
   exact⟨hc _ _ _ k0,hc _ _ _ k1,hc _ _ _ k2,hc _ _ _ k3,hc _ _ _ k4,hc _ _ _ k5,hc _ _ _ k6,hc _ _ _ k7,hc _ _ _ k8,k9.below hb,k10.below hb,zT.trans (hb.mono zT.size),by have:=hb.size;omega,hc _ _ _ k13⟩
  have KS:=Zhd hKS;have jF:=Zhd JY;have jm:((o.toList==[45,62])=true/\(o.toList==[102,98,121])=false/\o≠oFby)\/((o.toList==[45,62])=false/\(o.toList==[102,98,121])=true/\o=oFby):=by
   rcases zL with h|h
   .left;subst h;exact⟨by rw[<- dLit];decide,by rw[<- dLit];decide,by decide⟩
   right;subst h;exact⟨by rw[<- dLit];decide,by rw[<- dLit];decide,rfl⟩
  clear Je hZ zL Jj jq zC h2 jh jK JY hKS c0 c1 c2 c3 d0 d1 d2 d3 q0 q3;have HL0:=Zhd hbx0;generalize hv0:lateOf (getI m) x0=v0 at *;generalize qv:lateOf (getI m) x1=v1 at *;have HV:=Zhd (And.intro hv0 qv);clear hv0 qv;rcases jm with ⟨t3,t4,hof⟩|⟨t3,t4,hof⟩
  all_goals
   have HOF:=Zhd hof;clear hof;go_enter Tryz.func93,Tryz.ntmps93;go_wp2_with fail;go_region_held3 (λw'=>w'.cell? ⟨w.heap.size,3,none⟩=some (.slice (some ⟨b,off,none⟩) l.length c)/\w'.cell? ⟨b,off,none⟩=some (.string x0.op)/\w'.cell? ⟨b,off+1,none⟩=some (.int .i64 x0.n)/\w'.cell? ⟨b,off+2,none⟩=some (.string x0.s)/\w'.cell? ⟨b,off+3,none⟩=some (.slice ax x0.l.length cx)/\
   w'.cell? ⟨b,off+4,none⟩=some (.string x1.op)/\w'.cell? ⟨b,off+4+1,none⟩=some (.int .i64 x1.n)/\w'.cell? ⟨b,off+4+2,none⟩=some (.string x1.s)/\w'.cell? ⟨b,off+4+3,none⟩=some (.slice ax1 x1.l.length cx1)/\H.In w'/\Zay (Value.int .i64) w' bm m/\Ybw w w'/\w.heap.size<w'.heap.size/\w'.cell? ⟨w.heap.size,0,none⟩=some (.string o))
    (first|(exact jF.out)|assumption|(refine KS.out _ _ ?_ (by assumption);assumption))
    (first
     |(go_at_call 93;(with_reducible refine(X0.out _ ?_ ?_).mono ?_);(go_split_ands;assumption);(go_split_ands;assumption);rintro r wc ⟨rfl,hbc⟩)
     |(go_at_call 93;(with_reducible refine(X1.out _ ?_ ?_).mono ?_);(go_split_ands;assumption);(go_split_ands;assumption);rintro r wc ⟨rfl,hbc⟩))
   all_goals go_split_ands
   all_goals go_wp2_with fail
   all_goals go_ret
   all_goals refine⟨Zaf ?_,by assumption⟩
   all_goals rw[HX.out]
   all_goals(first|rw[if_neg HOF.out]|rw[if_pos HOF.out])
   all_goals(split<;>first|omega|(rename_i g1 g2;simp only[beq_iff_eq,beq_eq_false_iff_ne,ne_eq] at g1;(try split at g1)<;>omega))
 have t3:(o.toList==[45,62])=false:=Zav _ (λh=>zL (.inl h));have t4:(o.toList==[102,98,121])=false:=Zav _ (λh=>zL (.inr h));have HX:=Zhd (show lateOf (getI m) (.mk o n s l)=(Zau (getI m) l).foldl max 0 from by simp only[lateOf];rw[if_neg Je,if_neg hZ,if_neg zL]);clear Je hZ zL Jj jq zC;go_enter Tryz.func93,Tryz.ntmps93;go_wp2_with fail;generalize w.alloc (.cells (Yqe o n s a l.length c) 93)=W at *;go_loopw[7,55] (λq i wr=>∃k:Nat,i=.int .i64 k/\k<=l.length/\q=.int .i64 ((Zau (getI m) (l.take k)).foldl max 0)/\Ybw w wr/\Ybw W wr) (λ_ i _=>l.length - (intOf i).toNat)
 case atStart=>exact⟨0,rfl,Nat.zero_le _,rfl,gb.out,Below.refl _ _⟩
 obtain⟨k,rfl,hk,rfl,hb,hbW⟩:=hrel;have HB:=Zhd (And.intro hb hbW);clear hb hbW;by_cases Hd:k<l.length
 .obtain⟨b,off,ax,cx,rfl,c0,c1,c2,c3,hx⟩:=ExsV.at HU.out Hd;have Hk:=hH.below HB.out.1;have c0:=Hk.cell c0;have c1:=Hk.cell c1;have c2:=Hk.cell c2;have c3:=Hk.cell c3;have Hl:=Ymm Hd;have LT:=Zhd (show(Zau (getI m) (l.take (k+1))).foldl max 0=max ((Zau (getI m) (l.take k)).foldl max 0) (lateOf (getI m) l[k]) from by rw[Zgl _ l k Hd,List.foldl_append];rfl);have Hu:=zQ.out l[k];have HMr:=Zhd (HM1.out.below HB.out.2);have qy:=Zi1 (Zau (getI m) (l.take k)) 0 (by omega) (by omega) (λx hx=>by
   obtain⟨e,_,rfl⟩:=Zfv _ _ _ hx;exact zQ.out e)
  generalize l[k]=x at *;generalize (Zau (getI m) (l.take k)).foldl max 0=acc at *;go_wp2_with fail;refine(qq.out x Hl _ hx _ (Hk.alloc _) (HMr.out.alloc _)).mono ?_;rintro r w2 ⟨rfl,Hm⟩;have jo:=HB.out.1.size;have qG:=HB.out.2.size;have Jh:=Zhd (And.intro ((HB.out.1.alloc jo _).trans (Hm.mono (by simp;omega))) ((HB.out.2.alloc qG _).trans (Hm.mono (by simp;omega))));generalize lateOf (getI m) x=q at *;go_wp2_with fail
  all_goals go_roundw
  all_goals(first|(case rel=>exact⟨k+1,by go_num,by omega,by rw[LT.out];congr 1;omega,Jh.out.1,Jh.out.2⟩)|skip)
  all_goals(simp[intOf];omega)
 go_wp2_with fail;go_ret;exact⟨Zaf (by rw[HX.out,List.take_of_length_le (by omega)]),HB.out.1⟩
end Go.Proofs.YtafapnolamcdmaaGreatDoor
/- Plain functions of runs of flat programs, as flow.Run has them; the law of FlowNil: no program in sight. -/
namespace Go.Proofs.YtafapnolamcdmaaGreatDoor.Mx
set_option maxRecDepth 100000
set_option maxHeartbeats 16000000
structure REnv where
 ks:Env Int
 lt:ByteArray->Int
 nm:ByteArray->Int
 nb:Bool
 ni:Int
def nilV(nb:Bool)(ni:Int)(k:Int):Vl:=if k=1 then tv nb else ⟨k,ni⟩
structure Inst where
 first:Bool
 mem:List Vl
 inp:List Vl
 now:List Vl
mutual
def memN:Ex->Nat
 | .mk o _ _ l=>Zag l+(if o=oPre\/o=oFby then 1 else 0)
def Zag:List Ex->Nat
 | []=>0
 |e :: l=>memN e+Zag l
end
mutual
def Zfc:Nat->Ex->List (Ex×Nat)
 |m,.mk o n s l=>Zcc m l++(if o=oPre\/o=oFby then [(l.getLastD (.mk o n s l),m+Zag l.dropLast)] else [])
def Zcc:Nat->List Ex->List (Ex×Nat)
 |_,[]=>[]
 |m,e :: l=>Zfc m e++Zcc (m+memN e) l
end
def valM(R:REnv)(r:Inst)(m:Nat)(o:ByteArray)(n:Int)(s:ByteArray)(late:Bool)(vs:List Vl):Vl×Bool:=
 if o=oInt then(⟨2,n⟩,false)
 else if o=Zc9\/o=Zch then(tv (decide (o=Zc9)),false)
 else if o=Zb2 then(if R.nm s<0 then r.inp.getD (-1 - R.nm s).toNat vz else r.now.getD (R.nm s).toNat vz,false)
 else if o=oPre then(r.mem.getD m vz,false)
 else if o=oFby then(if r.first then vs.getD 0 vz else r.mem.getD m vz,false)
 else if o=Zbk then(if r.first then vs.getD 0 vz else vs.getD 1 vz,false)
 else if (appM o vs).2 then(⟨2,0⟩,!r.first|| !late) else((appM o vs).1,false)
mutual
def Za6(R:REnv)(r:Inst):Nat->Ex->Vl×Bool
 |m,.mk o n s l=>
  let vs:=Zaz R r m (if o=oPre then 0 else if o=oFby then 1 else l.length) l
  let late:=decide (0<lateOf R.lt (.mk o n s l))
  let x:=valM R r (m+Zag l) o n s late vs.1
  (if r.first&&late then nilV R.nb R.ni (Zai R.ks (.mk o n s l)) else x.1,vs.2 || x.2)
def Zaz(R:REnv)(r:Inst):Nat->Nat->List Ex->List Vl×Bool
 |_,_,[]=>([],false)
 |_,0,_ :: _=>([],false)
 |m,k+1,e :: l=>
  let x:=Za6 R r m e
  let y:=Zaz R r (m+memN e) k l
  (x.1 :: y.1,x.2 || y.2)
end
structure Tk where
 out:List Vl
 asrt:Bool
 trap:Bool
 checks:List Bool
def trapT:Tk:=⟨[],false,true,[]⟩
def Za4:Nat->List Ex->List (Ex×Nat)
 |_,[]=>[]
 |m,e :: l=>(e,m) :: Za4 (m+memN e) l
def nowM(R:REnv)(first:Bool)(mem inp:List Vl)(fs:List (Ex×Nat)):List Nat->List Vl->Bool->List Vl×Bool
 | [],now,t=>(now,t)
 |k :: r,now,t=>
  let x:=fs.getD k (.mk ⟨#[]⟩ 0 ⟨#[]⟩ [],0)
  let v:=Za6 R ⟨first,mem,inp,now⟩ x.2 x.1
  nowM R first mem inp fs r (now.set k v.1) (t || v.2)
def Zdn(R:REnv)(r:Inst)(l:List (Ex×Nat)):List Vl×Bool:=(l.map λx=>(Za6 R r x.2 x.1).1,l.any λx=>(Za6 R r x.2 x.1).2)
structure Cd where
 ord:List Nat
 fs:List (Ex×Nat)
 av:List (Ex×Nat)
 cv:List (Ex×Nat)
 outs:List Int
 ms:List (Ex×Nat)
def Zb7(R:REnv)(c:Cd)(first:Bool)(mem inp:List Vl):Tk×List Vl:=
 let n:=nowM R first mem inp c.fs c.ord (List.replicate c.fs.length vz) false
 let r:Inst:=⟨first,mem,inp,n.1⟩
 let a:=Zdn R r c.av
 let k:=Zdn R r c.cv
 let x:=Zdn R r c.ms
 if n.2 || a.2 || k.2 || x.2 then(trapT,[])
 else(⟨c.outs.map λi=>n.1.getD i.toNat vz,a.1.all λv=>decide (v.n=1),false,k.1.map λv=>decide (v.n=1)⟩,x.1)
def Zf6(R:REnv)(c:Cd):Bool->List Vl->List (List Vl)->List Tk
 |_,_,[]=>[]
 |first,mem,l :: r=>
  let x:=Zb7 R c first mem l
  x.1 :: if x.1.trap then [] else Zf6 R c false x.2 r
theorem Zex(lt:ByteArray->Int):∀(l:List Ex) (k:Nat),(Zau lt l).getD k 0=if h:k<l.length then lateOf lt l[k] else 0
 | [],k=>by simp[Zau]
 |e :: l,0=>by simp[Zau]
 |e :: l,k+1=>by
  have:=Zex lt l k;simp only[Zau,List.getD_cons_succ,this,List.length_cons,Nat.add_lt_add_iff_right]
  split<;>rfl
theorem Zht:∀(l:List Int) (a:Int),0<=a->l.foldl max a=0->a=0/\∀x∈l,x<=0
 | [],a,_,h=>⟨h,λx hx=>by cases hx⟩
 |y :: l,a,h0,h=>by
  have h1:=Zht l (max a y) (by omega) h;refine⟨by omega,λx hx=>?_⟩;rcases List.mem_cons.1 hx with rfl|hx
  .omega
  exact h1.2 x hx
theorem Zkg:∀(l:List Int) (a b:Int),l.foldl max a<=b->a<=b/\∀x∈l,x<=b
 | [],a,b,h=>⟨h,λx hx=>by cases hx⟩
 |y :: l,a,b,h=>by
  have h1:=Zkg l (max a y) b h;refine⟨by omega,λx hx=>?_⟩;rcases List.mem_cons.1 hx with rfl|hx
  .omega
  exact h1.2 x hx
theorem Zgm(lt:ByteArray->Int):∀(l:List Ex) (e:Ex),e∈l->lateOf lt e∈Zau lt l
 |x :: l,e,h=>by
  simp only[Zau];rcases List.mem_cons.1 h with rfl|h
  .exact List.mem_cons_self ..
  exact List.mem_cons_of_mem _ (Zgm lt l e h)
structure SameR(R R':REnv):Prop where
 ks:R.ks=R'.ks
 lt:R.lt=R'.lt
 nm:R.nm=R'.nm
theorem Zfj(R:REnv)(r:Inst):∀(l:List Ex) (m k:Nat),(Zaz R r m k l).1.length=min k l.length
 | [],m,k=>by simp[Zaz]
 |e :: l,m,0=>by simp[Zaz]
 |e :: l,m,k+1=>by simp[Zaz,Zfj R r l]
theorem first_same{R R':REnv}(hR:SameR R R')(hb:∀s,0<=R.lt s/\R.lt s<=2)(r r':Inst)(h1:r.first=true)(h2:r'.first=true)(hi:r.inp=r'.inp)(ks:Env Int)(hn:∀s,(ks s).isSome=true->R.lt s=0->0<=R.nm s->r.now.getD (R.nm s).toNat vz=r'.now.getD (R.nm s).toNat vz):
  ∀(e:Ex),Zad ks e=true->∀(m:Nat),(Za6 R r m e).2=(Za6 R' r' m e).2/\(lateOf R.lt e=0->(Za6 R r m e).1=(Za6 R' r' m e).1):=by
 refine Ex.ind λo n s l ih j9 m=>?_;have JA:=(Zax j9).1;have hl:∀(k m:Nat) (l:List Ex),(∀e∈l,∀m,(Za6 R r m e).2=(Za6 R' r' m e).2/\(lateOf R.lt e=0->(Za6 R r m e).1=(Za6 R' r' m e).1))->
   (Zaz R r m k l).2=(Zaz R' r' m k l).2/\∀i (hi:i<l.length),lateOf R.lt l[i]=0->(Zaz R r m k l).1.getD i vz=(Zaz R' r' m k l).1.getD i vz:=by
  intro k m l
  induction l generalizing k m with
  |nil=>intro _;exact⟨by simp[Zaz],λi hi=>by simp at hi⟩
  |cons e l ihl=>
   intro hh;cases k with
   |zero=>exact⟨by simp[Zaz],λi _ _=>by simp[Zaz]⟩
   |succ k=>
    obtain⟨a1,a2⟩:=hh e (List.mem_cons_self ..) m;obtain⟨b1,b2⟩:=ihl k (m+memN e) λx hx=>hh x (List.mem_cons_of_mem _ hx);simp only[Zaz];refine⟨by rw[a1,b1],λi hi h0=>?_⟩;cases i with
    |zero=>simpa using a2 h0
    |succ i=>simpa using b2 i (by simpa using hi) h0
 simp only[Za6];rw[<- hR.ks,<- hR.lt,h1,h2];obtain⟨t1,t2⟩:=hl (if o=oPre then 0 else if o=oFby then 1 else l.length) m l λe he=>ih e he (JA e he);have Ho:=Zfj R r l m (if o=oPre then 0 else if o=oFby then 1 else l.length);have hlen':=Zfj R' r' l m (if o=oPre then 0 else if o=oFby then 1 else l.length);generalize Zaz R r m (if o=oPre then 0 else if o=oFby then 1 else l.length) l=V at *;generalize Zaz R' r' m (if o=oPre then 0 else if o=oFby then 1 else l.length) l=V' at *;obtain⟨vs,t⟩:=V;obtain⟨vs',t'⟩:=V';dsimp only at t1 t2 Ho hlen' ⊢;subst t1;have hlb:=Zbw R.lt hb (.mk o n s l);have HJ:lateOf R.lt (.mk o n s l)=if o=Zb2 then R.lt s else if o=oPre then min 2 ((Zau R.lt l).getD 0 0+1) else if o=Zbk\/o=oFby then(let b:=if o=oFby then min 2 ((Zau R.lt l).getD 1 0+1) else(Zau R.lt l).getD 1 0;if b=2 then 2 else(Zau R.lt l).getD 0 0) else(Zau R.lt l).foldl max 0:=by rw[lateOf]
 have h0b:∀i,0<=(Zau R.lt l).getD i 0:=λi=>by
  rw[Zex]
  split
  .exact (Zbw R.lt hb _).1
  omega
 have hv0:(Zau R.lt l).getD 0 0=0->vs.getD 0 vz=vs'.getD 0 vz:=λh=>by
  rw[Zex] at h
  split at h
  .exact t2 0 ‹_› h
  rename_i Hr
  simp only[Ygg];rw[List.getElem?_eq_none (by omega),List.getElem?_eq_none (by omega)]
 by_cases h0:lateOf R.lt (.mk o n s l)=0
 .have hd:decide (0<lateOf R.lt (.mk o n s l))=false:=by simp[h0]
  rw[hd]
  suffices hs:valM R r (m+Zag l) o n s false vs=valM R' r' (m+Zag l) o n s false vs' by rw[hs];exact⟨rfl,λ_=>rfl⟩
  unfold valM;rw[<- hR.nm,h1,h2,<- hi];rw[h0] at HJ;by_cases e1:o=oInt
  .rw [if_pos e1,if_pos e1]
  rw[if_neg e1,if_neg e1];by_cases e2:o=Zc9\/o=Zch
  .rw [if_pos e2,if_pos e2]
  rw[if_neg e2,if_neg e2];by_cases e3:o=Zb2
  .rw [if_pos e3,if_pos e3];rw[if_pos e3] at HJ;by_cases h5:R.nm s<0
   .rw [if_pos h5,if_pos h5]
   have hks:(ks s).isSome=true:=by
    simp only[Zad,Bool.and_eq_true,Bool.or_eq_true,decide_eq_true_eq] at j9;exact j9.1.2.resolve_left (λh=>h e3)
   rw[if_neg h5,if_neg h5,hn s hks HJ.symm (by omega)]
  rw[if_neg e3,if_neg e3];rw[if_neg e3] at HJ;by_cases e4:o=oPre
  .rw [if_pos e4] at HJ;have:=h0b 0;omega
  rw[if_neg e4,if_neg e4];rw[if_neg e4] at HJ;by_cases e5:o=oFby
  .rw [if_pos e5,if_pos e5];rw[if_pos (.inr e5)] at HJ;simp only[if_true];dsimp only at HJ;rw[if_pos e5] at HJ;by_cases hc:min 2 ((Zau R.lt l).getD 1 0+1)=2
   .rw [if_pos hc] at HJ;omega
   rw[if_neg hc] at HJ;rw[hv0 HJ.symm]
  rw[if_neg e5,if_neg e5];by_cases e6:o=Zbk
  .rw [if_pos e6,if_pos e6];rw[if_pos (.inl e6)] at HJ;simp only[if_true];dsimp only at HJ;rw[if_neg e5] at HJ;by_cases hc:(Zau R.lt l).getD 1 0=2
   .rw [if_pos hc] at HJ;omega
   rw[if_neg hc] at HJ;rw[hv0 HJ.symm]
  rw[if_neg e6,if_neg e6];rw[if_neg (λh=>h.elim e6 e5)] at HJ;have hall:=(Zht _ _ (Int.le_refl 0) HJ.symm).2;have yd:vs=vs':=by
   rw[if_neg e4,if_neg e5] at Ho hlen';refine List.ext_getElem (by omega) λi i1 i2=>?_;have JN:i<l.length:=by omega
   have h8:=t2 i JN (by
    have:=hall _ (Zgm R.lt l l[i] (Ymm JN));have:=(Zbw R.lt hb l[i]).1;omega)
   simpa[Ygg,i1,i2] using h8
  rw[yd]
 have hd:decide (0<lateOf R.lt (.mk o n s l))=true:=by simp;omega
 rw[hd];refine⟨?_,λh=>absurd h h0⟩
 suffices hs:∀(R:REnv) (r:Inst) vs,r.first=true->(valM R r (m+Zag l) o n s true vs).2=false by rw[hs R r vs h1,hs R' r' vs' h2]
 intro R r vs hf;unfold valM;rw[hf]
 repeat' split
 all_goals rfl
theorem later_same{R R':REnv}(hR:SameR R R')(r:Inst)(h1:r.first=false):∀(e:Ex) (m:Nat),Za6 R r m e=Za6 R' r m e:=by
 refine Ex.ind λo n s l ih m=>?_;have hl:∀(k m:Nat) (l:List Ex),(∀e∈l,∀m,Za6 R r m e=Za6 R' r m e)->Zaz R r m k l=Zaz R' r m k l:=by
  intro k m l
  induction l generalizing k m with
  |nil=>intro _;simp[Zaz]
  |cons e l ihl=>
   intro hh;cases k with
   |zero=>simp[Zaz]
   |succ k=>simp only[Zaz];rw[hh e (List.mem_cons_self ..) m,ihl k (m+memN e) λx hx=>hh x (List.mem_cons_of_mem _ hx)]
 simp only[Za6];rw[h1,hl _ _ _ ih,<- hR.lt];simp only[Bool.false_and];unfold valM;rw[<- hR.nm];rfl
theorem nowM_later{R R':REnv}(hR:SameR R R')(mem inp:List Vl)(fs:List (Ex×Nat)):∀(l:List Nat) (now:List Vl) (t:Bool),nowM R false mem inp fs l now t=nowM R' false mem inp fs l now t
 | [],now,t=>rfl
 |k :: l,now,t=>by simp only[nowM];rw[later_same hR ⟨false,mem,inp,now⟩ rfl];exact nowM_later hR mem inp fs l _ _
theorem Zhw{R R':REnv}(hR:SameR R R')(r:Inst)(h1:r.first=false)(l:List (Ex×Nat)):Zdn R r l=Zdn R' r l:=by
 unfold Zdn;have:∀x:Ex×Nat,Za6 R r x.2 x.1=Za6 R' r x.2 x.1:=λx=>later_same hR r h1 x.1 x.2;simp only[this]
theorem tick_later{R R':REnv}(hR:SameR R R')(c:Cd)(mem inp:List Vl):Zb7 R c false mem inp=Zb7 R' c false mem inp:=by
 unfold Zb7;dsimp only;rw[nowM_later hR,Zhw hR _ rfl,Zhw hR _ rfl,Zhw hR _ rfl]
theorem go_later{R R':REnv}(hR:SameR R R')(c:Cd):∀(l:List (List Vl)) (mem:List Vl),Zf6 R c false mem l=Zf6 R' c false mem l
 | [],_=>rfl
 |x :: l,mem=>by simp only[Zf6];rw[tick_later hR];congr 1;rw[go_later hR c l]
structure CdOk(R:REnv)(ks:Env Int)(nf:Nat->ByteArray)(c:Cd):Prop where
 bd:∀s,0<=R.lt s/\R.lt s<=2
 ord:∀k∈c.ord,k<c.fs.length
 nm:∀s,(ks s).isSome=true->0<=R.nm s->s=nf (R.nm s).toNat
 fs:∀k (h:k<c.fs.length),Zad ks c.fs[k].1=true/\lateOf R.lt c.fs[k].1<=R.lt (nf k)
 av:∀x∈c.av,Zad ks x.1=true/\lateOf R.lt x.1=0
 cv:∀x∈c.cv,Zad ks x.1=true/\lateOf R.lt x.1=0
 ms:∀x∈c.ms,Zad ks x.1=true/\lateOf R.lt x.1=0
 outs:∀i∈c.outs,R.lt (nf i.toNat)=0
def NowR(R:REnv)(nf:Nat->ByteArray)(a b:List Vl):Prop:=a.length=b.length/\∀k,R.lt (nf k)=0->a.getD k vz=b.getD k vz
theorem first_of{R R':REnv}(hR:SameR R R'){ks:Env Int}{nf:Nat->ByteArray}{c:Cd}(h:CdOk R ks nf c){mem mem' inp now now':List Vl}(hn:NowR R nf now now')(e:Ex)(he:Zad ks e=true)(m:Nat):
  (Za6 R ⟨true,mem,inp,now⟩ m e).2=(Za6 R' ⟨true,mem',inp,now'⟩ m e).2/\(lateOf R.lt e=0->(Za6 R ⟨true,mem,inp,now⟩ m e).1=(Za6 R' ⟨true,mem',inp,now'⟩ m e).1):=
 first_same hR h.bd ⟨true,mem,inp,now⟩ ⟨true,mem',inp,now'⟩ rfl rfl rfl ks (λs h1 h2 h3=>hn.2 _ (by rw[<- h.nm s h1 h3];exact h2)) e he m
theorem nowM_first{R R':REnv}(hR:SameR R R'){ks:Env Int}{nf:Nat->ByteArray}{c:Cd}(h:CdOk R ks nf c)(mem mem' inp:List Vl):∀(l:List Nat),(∀k∈l,k<c.fs.length)->∀(now now':List Vl) (t:Bool),NowR R nf now now'->
  (nowM R true mem inp c.fs l now t).2=(nowM R' true mem' inp c.fs l now' t).2/\NowR R nf (nowM R true mem inp c.fs l now t).1 (nowM R' true mem' inp c.fs l now' t).1
 | [],_,now,now',t,hn=>⟨rfl,hn⟩
 |k :: l,hk,now,now',t,hn=>by
  simp only[nowM];have Hd:=hk k (List.mem_cons_self ..);have hx:c.fs.getD k (.mk ⟨#[]⟩ 0 ⟨#[]⟩ [],0)=c.fs[k]:=by simp[Ygg,Hd]
  rw[hx];obtain⟨f1,f2⟩:=h.fs k Hd;obtain⟨a1,a2⟩:=first_of hR h hn (mem:=mem) (mem':=mem') (inp:=inp) c.fs[k].1 f1 c.fs[k].2;rw[a1];refine nowM_first hR h mem mem' inp l (λj hj=>hk j (List.mem_cons_of_mem _ hj)) _ _ _ ⟨by simp[hn.1],λj hj=>?_⟩;by_cases e:k=j
  .subst e;have h0:lateOf R.lt c.fs[k].1=0:=by
    have:=(Zbw R.lt h.bd c.fs[k].1).1;omega
   have hl:=hn.1;by_cases Hr:k<now.length
   .simp [Ygg,Hr,<- hl,a2 h0]
   simp[Ygg,Hr,<- hl]
  have:=hn.2 j hj;simpa[Ygg,List.getElem?_set,e] using this
theorem Zhx{R R':REnv}(hR:SameR R R'){ks:Env Int}{nf:Nat->ByteArray}{c:Cd}(h:CdOk R ks nf c){mem mem' inp now now':List Vl}(hn:NowR R nf now now')(l:List (Ex×Nat))(hl:∀x∈l,Zad ks x.1=true/\lateOf R.lt x.1=0):
  Zdn R ⟨true,mem,inp,now⟩ l=Zdn R' ⟨true,mem',inp,now'⟩ l:=by
 have hx:∀x∈l,Za6 R ⟨true,mem,inp,now⟩ x.2 x.1=Za6 R' ⟨true,mem',inp,now'⟩ x.2 x.1:=λx hx=>by
  obtain⟨a,b⟩:=first_of hR h hn (mem:=mem) (mem':=mem') (inp:=inp) x.1 (hl x hx).1 x.2;exact Prod.ext (b (hl x hx).2) a
 unfold Zdn;refine Prod.ext (List.map_congr_left λx h=>by rw[hx x h]) ?_;dsimp only
 induction l with
 |nil=>rfl
 |cons y l ih=>
  simp only[List.any_cons];rw[hx y (List.mem_cons_self ..),ih (λx h=>hl x (List.mem_cons_of_mem _ h)) λx h=>hx x (List.mem_cons_of_mem _ h)]
theorem tick_first{R R':REnv}(hR:SameR R R'){ks:Env Int}{nf:Nat->ByteArray}{c:Cd}(h:CdOk R ks nf c)(mem mem' inp:List Vl):Zb7 R c true mem inp=Zb7 R' c true mem' inp:=by
 obtain⟨a1,a2⟩:=nowM_first hR h mem mem' inp c.ord h.ord (List.replicate c.fs.length vz) (List.replicate c.fs.length vz) false ⟨rfl,λ_ _=>rfl⟩;unfold Zb7;dsimp only;rw[a1,Zhx hR h a2 c.av h.av,Zhx hR h a2 c.cv h.cv,Zhx hR h a2 c.ms h.ms];have:(c.outs.map λi=>(nowM R true mem inp c.fs c.ord (List.replicate c.fs.length vz) false).1.getD i.toNat vz)=c.outs.map λi=>(nowM R' true mem' inp c.fs c.ord (List.replicate c.fs.length vz) false).1.getD i.toNat vz:=
  List.map_congr_left λi hi=>a2.2 _ (h.outs i hi)
 rw[this]
theorem go_first{R R':REnv}(hR:SameR R R'){ks:Env Int}{nf:Nat->ByteArray}{c:Cd}(h:CdOk R ks nf c)(mem mem':List Vl):∀l:List (List Vl),Zf6 R c true mem l=Zf6 R' c true mem' l
 | []=>rfl
 |x :: l=>by simp only[Zf6];rw[tick_first hR h mem mem'];congr 1;rw[go_later hR]
end Go.Proofs.YtafapnolamcdmaaGreatDoor.Mx
/- Walks: order.Names. -/
namespace Go.Proofs.YtafapnolamcdmaaGreatDoor
set_option maxRecDepth 100000
set_option maxHeartbeats 16000000
open Go.RowKit Mx
theorem Zkx(m:Env Int)(k:ByteArray)(v:Int):getI (m.set k v)=setL (getI m) k v:=by
 funext s
 unfold getI Env.set setL
 split<;>rfl
structure NamS(w wr:World)(bm:Nat)(m:Env Int)(vl:Value):Prop where
 below:Ybw w wr
 size:w.heap.size+2<=wr.heap.size
 mp:Zay (Value.int .i64) wr bm m
 box:wr.cell? ⟨w.heap.size,2,none⟩=some vl
 bd:∀s,0<=getI m s/\getI m s<=2
theorem NamS.next{w wr w':World}{bm:Nat}{m:Env Int}{vl:Value}(h:NamS w wr bm m vl)(hb:Ybw wr w'):NamS w w' bm m vl:=by
 have hs:=h.size;exact⟨h.below.trans (hb.mono (by omega)),Nat.le_trans hs hb.size,h.mp.below hb,by rw[hb.cell (p:=⟨w.heap.size,2,none⟩) (show w.heap.size<wr.heap.size by omega)];exact h.box,h.bd⟩
theorem names_new(H:Kn)(p:Pr)(vi vo vl va vc:Value)(hp:PrP H p vi vo vl va vc)(ks:Env Int)(ji:∀f∈p.fl,Zad ks f.e=true)(hn:p.fl.length<=1000000)(w:World)(hH:H.In w):
  Calls Tryz.prog 69 #[.agg #[vi,vo,vl,va,vc]] w λr w'=>∃bm m,r=.returned (.map (some bm))/\Zay (Value.int .i64) w' bm m/\getI m=Zac p/\(∀s,0<=getI m s/\getI m s<=2)/\w.heap.size<=bm/\Ybw w w':=by
 obtain⟨h1,h2,h3,h4,h5⟩:=hp;obtain⟨ai,ci,ao,co,al,cl,aa,ca,ac,cc,rfl,rfl,rfl,rfl,rfl⟩:=Ypo h1.len h2.len h3.len h4.len h5.len;have H3:=Zhd h3;have zm:=Zhd ji;clear h1 h2 h3 h4 h5 ji;have zX:=@run_makeMap Tryz.prog;go_enter Tryz.func69,Tryz.ntmps69;go_wp2_with fail;have zh:NamS w ((w.alloc (.cells (Yq5 p ai ao al aa ac ci co cl ca cc) 42)).alloc (.map #[] 0)) (w.heap.size+1) Env.none (.slice al p.fl.length cl):=by
  refine⟨Yba.alloc (by simp) _,by simp,?_,by rw[World.cell?_alloc_past _ _ _ (by simp),World.cell?_alloc_new];rfl,λs=>by simp[getI,Env.none]⟩;have:=Zay.made (Value.int .i64) (w.alloc (.cells (Yq5 p ai ao al aa ac ci co cl ca cc) 42));simpa using this
 generalize (w.alloc (.cells (Yq5 p ai ao al aa ac ci co cl ca cc) 42)).alloc (.map #[] 0)=W0 at *;have HN0:=Zhd zh;have gN:=Zhd (show Zf3 p.fl (2 * p.fl.length+1) (getI Env.none)=Zac p from rfl);have HMU:=Zhd (show mu (getI Env.none) p.fl<2 * p.fl.length+1 from by have:=mu_zero p.fl;show mu (λ_=>0) p.fl<_;omega);clear zh;go_loopg[4] (2 * p.fl.length+1) (λf u4 wr=>∃m b,u4=.bool b/\NamS w wr (w.heap.size+1) m (.slice al p.fl.length cl)/\((b=true/\Zf3 p.fl f (getI m)=Zac p/\mu (getI m) p.fl<f)\/(b=false/\getI m=Zac p)))
 case atStart=>exact⟨Env.none,true,rfl,HN0.out,.inl ⟨rfl,gN.out,HMU.out⟩⟩
 obtain⟨m,b,rfl,hN,jm⟩:=hrel;have HN:=Zhd hN;have hz:=hN.size;clear hN;rcases jm with ⟨rfl,jy,hmu⟩|⟨rfl,jy⟩
 .have yO:=Zhd jy;have HMU:=Zhd hmu;have zJ:=HN.out.box;clear jy hmu;go_wp2_with fail;obtain⟨f0,hf0⟩:∃f0,gk=f0:=⟨_,rfl⟩;go_loopw[4,13] (λu4 i wr=>∃(k:Nat) (m':Env Int) (b:Bool),i=.int .i64 k/\u4=.bool b/\k<=p.fl.length/\NamS w wr (w.heap.size+1) m' (.slice al p.fl.length cl)/\Zat p.fl (getI m) false=Zat (p.fl.drop k) (getI m') b/\(∀s,getI m s<=getI m' s)/\(b=true->∃f∈p.fl,getI m f.name<getI m' f.name)) (λ_ i _=>p.fl.length - (intOf i).toNat)
  case atStart=>exact⟨0,m,false,rfl,rfl,Nat.zero_le _,HN.out,by simp,λs=>Int.le_refl _,λh=>by cases h⟩
  obtain⟨k,m',b,rfl,rfl,hk,hN',hrd,He,xb⟩:=hrel;have HN':=Zhd hN';have HRD:=Zhd hrd;have JZ:=Zhd He;have xF:=Zhd xb;have hz':=hN'.size;clear hN' hrd He xb;by_cases Hd:k<p.fl.length
  .obtain⟨b1,off,rfl,_,kR⟩:=SlV.at H3.out Hd;have ji:=zm.out p.fl[k] (Ymm Hd);have Hl:=Ymm Hd;obtain⟨u,c0,c1,c2,c3,c4,c5,hu⟩:=kR.cells;obtain⟨ax,cx,rfl⟩:=hu.len;have Hw:=hH.below HN'.out.below;have c0:=Hw.cell c0;have c1:=Hw.cell c1;have c2:=Hw.cell c2;have c3:=Hw.cell c3;have c4:=Hw.cell c4;have c5:=Hw.cell c5;simp only[Nat.add_zero] at c0;have hEx:ExV H p.fl[k].e (.agg #[.string p.fl[k].e.op,.int .i64 p.fl[k].e.n,.string p.fl[k].e.s,.slice ax p.fl[k].e.l.length cx]):=⟨_,rfl,hu⟩;have HEX:=Zhd hEx;have HDR:=Zhd (drop_round Hd (getI m') b);have HLB:=Zbw (getI m') HN'.out.bd p.fl[k].e;have gf:=HN'.out.bd p.fl[k].name;have hbox':=HN'.out.box;clear hu kR hEx;generalize p.fl[k]=x at *;obtain⟨xn,xk,xe⟩:=x;dsimp only at *;generalize xe.op=xo at *;generalize xe.n=xnn at *;generalize xe.s=xs at *;generalize xe.l.length=xl at *;have HMEM:=Zhd Hl;clear Hl;have HNx:=Zhd (HN'.out.next ((Below.refl _ _).alloc Ylr (.cells #[.string xn,.int .i64 xk,.string xo,.int .i64 xnn,.string xs,.slice ax xl cx] 96)));have HHx:=Zhd (hH.below HNx.out.below);go_wp2_with fail;refine(late_any H m' (w.heap.size+1) HNx.out.bd ks xe ji _ HEX.out _ HHx.out HNx.out.mp).mono ?_;rintro r w2 ⟨rfl,Hm⟩;have yP:=Zhd (HNx.out.next Hm);have kY:w2.cell? ⟨wr.heap.size,0,none⟩=some (.string xn):=by
    rw[Hm.cell (p:=⟨wr.heap.size,0,none⟩) (by simp),World.cell?_alloc_new];rfl
   have qG:=Hm.size;simp at qG;have Ht:=yP.out.mp.run (P:=Tryz.prog) Tryz.underlying124 Tryz.underlying9 (d:=0) (by kernel_rfl) xn false;simp only[Bool.false_eq_true,if_false] at Ht;have HG:=Zhd (show getI m' xn=(m' xn).getD 0 from rfl);generalize lateOf (getI m') xe=q at *;generalize hg:(m' xn).getD 0=g at *;rw[HG.out] at HDR gf;have HTAKE:=Zhd (show ∀v,getI (m'.set xn v) xn=v from λv=>by rw[Zkx];simp[setL]);by_cases Hr:g<q
   .have HDR':=Zhd (show Zat (List.drop k p.fl) (getI m') b=Zat (List.drop (k+1) p.fl) (getI (m'.set xn q)) true from by rw[HDR.out,if_pos Hr,Zkx]);have yE:=Zhd yP.out.mp;go_wp2_with(at_mapUpdate;refine Zev (Value.int .i64) 124 9 3 Tryz.underlying124 Tryz.underlying9 (w.heap.size+1) m' yE.out _ _ _ rfl rfl rfl xn rfl q rfl ?_;intro w3 Qb zv);have HN3:=Zhd (show NamS w w3 (w.heap.size+1) (m'.set xn q) (.slice (some ⟨b1,off,none⟩) p.fl.length cl) from⟨zv.below yP.out.below (Nat.le_succ _),by rw[zv.size];exact yP.out.size,Qb,by rw[zv.cell (p:=⟨w.heap.size,2,none⟩) (show w.heap.size≠w.heap.size+1 by omega)];exact yP.out.box,λs=>by
     rw[Zkx];unfold setL;split
     .exact HLB
     exact HN'.out.bd s⟩)
    go_roundw
    case rel=>
     refine⟨k+1,_,true,by go_num,rfl,by omega,HN3.out,by rw[HRD.out,HDR'.out],λs=>?_,λ_=>⟨_,HMEM.out,?_⟩⟩
     .have h1:=JZ.out s;rw[Zkx];unfold setL;split
      .rename_i he;rw[he] at h1 ⊢;rw[HG.out] at h1;omega
      exact h1
     have h1:=JZ.out xn;show getI m xn<_;rw[HTAKE.out];rw[HG.out] at h1;omega
    simp[intOf];omega
   have HDR':=Zhd (show Zat (List.drop k p.fl) (getI m') b=Zat (List.drop (k+1) p.fl) (getI m') b from by rw[HDR.out,if_neg Hr]);go_wp2_with fail;go_roundw
   case rel=>exact⟨k+1,m',b,by go_num,rfl,by omega,yP.out,by rw[HRD.out,HDR'.out],JZ.out,xF.out⟩
   simp[intOf];omega
  obtain rfl:k=p.fl.length:=by omega
  have hR:Zat p.fl (getI m) false=(getI m',b):=by rw[HRD.out,List.drop_length];rfl
  have HR:=Zhd hR;clear hR;go_wp2_with fail;go_roundg (gk - 1)
  case rel=>
   obtain⟨g',rfl⟩:∃g',gk=g'+1:=⟨gk - 1,by have:=HMU.out;omega⟩;have Jp:=yO.out;rw[Zh3,HR.out] at Jp;cases b with
   |true=>
    obtain⟨f,hf,Qs⟩:=xF.out rfl;have:=mu_lt (getI m) (getI m') JZ.out (λs=>(HN'.out.bd s).2) p.fl f hf Qs;have hm:=HMU.out;exact⟨m',true,rfl,HN'.out,.inl ⟨rfl,Jp,by omega⟩⟩
   |false=>exact⟨m',false,rfl,HN'.out,.inr ⟨rfl,Jp⟩⟩
  have:=HMU.out;omega
 have yO:=Zhd jy;go_wp2_with fail;go_ret;exact⟨_,m,rfl,HN.out.mp,yO.out,HN.out.bd,Nat.le_succ _,HN.out.below⟩
theorem names_any(H:Kn)(p:Pr)(vi vo vl va vc:Value)(hp:PrP H p vi vo vl va vc)(ks:Env Int)(ji:∀f∈p.fl,Zad ks f.e=true)(hn:p.fl.length<=1000000)(w:World)(hH:H.In w):
  Calls Tryz.prog 69 #[.agg #[vi,vo,vl,va,vc]] w λr w'=>∃bm m,r=.returned (.map (some bm))/\Zay (Value.int .i64) w' bm m/\getI m=Zac p/\(∀s,0<=getI m s/\getI m s<=2)/\Ybw w w':=
 (names_new H p vi vo vl va vc hp ks ji hn w hH).mono λ_ _ ⟨bm,m,h1,h2,h3,h4,_,h5⟩=>⟨bm,m,h1,h2,h3,h4,h5⟩
end Go.Proofs.YtafapnolamcdmaaGreatDoor
