/- Walks: order.needs. -/
import Derived.Test.YtafapnolamcdmaaGreatDoorFormA
import Derived.Test.YtafapnolamcdmaaGreatDoorKind
import Derived.Deep.RegionLaw
import Derived.Deep.RegionHeld3
import Derived.Deep.AppendLies
set_option linter.all false
namespace Go.Proofs.YtafapnolamcdmaaGreatDoor
set_option maxRecDepth 100000
set_option maxHeartbeats 16000000
open Go.RowKit Mx
theorem mNeeds1{p:Prop}(h:p:=by
 go_wp2_with fail;clear Ht;go_loopw[39] (λi wr=>∃q:Nat,i=.int .i64 q/\q<=l.length/\I (acc++([]++Zcy at_ (l.take q))) wr/\Fr w wr) (λi _=>l.length - (intOf i).toNat)
 case atStart=>exact⟨0,rfl,Nat.zero_le _,by simpa[Zcy] using HI.out,hF1.out⟩
 obtain⟨q,rfl,hq,hIr,hFr⟩:=hrel;have Qk:=Zhd hIr;have HFr:=Zhd hFr;clear hIr hFr;by_cases hql:q<l.length
 .obtain⟨b,off,ax,cx,rfl,c0,c1,c2,c3,hx⟩:=ExsV.at HU.out hql;have Hk:=(hS.isin _ _ Qk.out).1;have c0:=Hk.cell c0;have c1:=Hk.cell c1;have c2:=Hk.cell c2;have c3:=Hk.cell c3;have Hl:=Ymm hql;have NT:=Zhd (Zh2 at_ l q hql);have Hv:=Zha at_ (l.take q);have Hm:=Zde l q hql;have Jg:=Zc1 l (q+1);have HX:=Zhd (qq.out l[q] Hl _ hx (acc++([]++Zcy at_ (l.take q))) _ (by have:=HL.out;simp only[List.length_append,List.length_cons,List.length_nil];omega) (hS.next _ _ _ Qk.out ((Below.refl _ _).alloc Ylr (.cells #[.string l[q].op,.int .i64 l[q].n,.string l[q].s,.slice ax l[q].l.length cx] 93))));clear hx Hv Hm Jg Hk;generalize l[q]=x at *;go_wp2_with fail;refine HX.out.mono ?_;rintro r w2 ⟨rfl,hI2,hF2⟩;have HI2:=Zhd hI2;have QF:=Zhd ((HFr.out.trans (Fr.of_below Yba)).trans hF2);clear hI2 hF2;go_wp2_with fail;go_roundw
  case rel=>exact⟨q+1,by go_num,by omega,by rw[NT.out];simpa only[List.append_assoc] using HI2.out,QF.out⟩
  simp[intOf];omega
 go_wp2_with fail
 first|go_end0|(refine bodyPost_ret (results_none rfl _ _ _) rfl ?_)
 exact⟨rfl,by rw[HN.out];rw[show l.take q=l from List.take_of_length_le (by omega)] at Qk;exact Qk.out,HFr.out⟩):p:=h
abbrev natV(n:Nat):Value:=.int .i64 (n:Int)
theorem Zh2(at_:Env Nat):∀(l:List Ex) (k:Nat) (h:k<l.length),Zcy at_ (l.take (k+1))=Zcy at_ (l.take k)++needs at_ l[k]
 |e :: l,0,_=>by simp[Zcy]
 |e :: l,k+1,h=>by
  have:=Zh2 at_ l k (by simpa using h);simp only[List.take_succ_cons,Zcy,List.getElem_cons_succ];rw[this,List.append_assoc]
mutual
theorem needs_len(at_:Env Nat):∀e:Ex,(needs at_ e).length<=e.parts
 | .mk o n s l=>by
  have h1:=Zha at_ l;have h2:=needsH_len at_ l;simp only[needs,Ex.parts]
  split
  .simp
  split
  .omega
  rw[List.length_append]
  split
  .cases at_ s<;>simp<;>omega
  simp;omega
theorem Zha(at_:Env Nat):∀l:List Ex,(Zcy at_ l).length<=Ex.partsL l
 | []=>by simp[Zcy]
 |e :: l=>by
  have h1:=needs_len at_ e;have h2:=Zha at_ l;simp only[Zcy,Ex.partsL,List.length_append];omega
theorem needsH_len(at_:Env Nat):∀l:List Ex,(Zgj at_ l).length<=Ex.partsL l
 | []=>by simp[Zgj]
 |e :: l=>by
  have h1:=needs_len at_ e;simp only[Zgj,Ex.partsL];omega
end
theorem Zax{ks:Env Int}{o:ByteArray}{n:Int}{s:ByteArray}{l:List Ex}(h:Zad ks (.mk o n s l)=true):(∀e∈l,Zad ks e=true)/\(o=oFby->l.length=2)/\(o=Zbk->l.length=2)/\(o=oPre->l.length=1)/\(o=oIf->l.length=3):=by
 simp only[Zad,Bool.and_eq_true] at h;refine⟨λe he=>?_,?_⟩
 .obtain⟨i,hi,rfl⟩:=List.mem_iff_getElem.1 he;exact(Zbe ks l).1 h.2 i hi
 have h1:=h.1.1.1;have key:∀q k,o=q->Zcx q=some k->(0:Int)<=k->(k:Int)=l.length:=by
  rintro q k rfl hk h0;simp only[form,Ex.op,hk,Bool.and_eq_true,Bool.or_eq_true,decide_eq_true_eq,Ex.l] at h1;rcases h1.1.1 with h|h
  .omega
  exact of_decide_eq_true h
 refine⟨λe=>?_,λe=>?_,λe=>?_,λe=>?_⟩
 .have:=key oFby 2 e (by decide) (by decide);omega
 .have:=key Zbk 2 e (by decide) (by decide);omega
 .have:=key oPre 1 e (by decide) (by decide);omega
 have:=key oIf 3 e (by decide) (by decide);omega
def Fr(w w':World):Prop:=∀(b:Nat) (c:Array Value) (t:TypeId) (fr:Nat×Nat),w.heap[b]?=some (Obj.cells c t fr)->t≠3->t≠122->w'.heap[b]?=some (Obj.cells c t fr)
theorem Fr.trans{a b c:World}(h:Fr a b)(k:Fr b c):Fr a c:=λi x t fr e h1 h2=>k i x t fr (h i x t fr e h1 h2) h1 h2
theorem Fr.of_below{w w':World}(h:Ybw w w'):Fr w w':=λb c t fr e _ _=>(h.block b (Zlt e)).trans e
theorem Fr.cell{w w':World}(h:Fr w w'){b:Nat}{c:Array Value}{t:TypeId}{fr:Nat×Nat}(e:w.heap[b]?=some (.cells c t fr))(h1:t≠3)(h2:t≠122)(i:Nat):w'.cell? ⟨b,i,none⟩=c[i]?:=by
 simp[World.cell?,h b c t fr e h1 h2]
structure Seer(k:Nat)(Ha:Array Value)(H:Kn)(bat:Nat)(at_:Env Nat)(I:List Nat->World->Prop):Prop where
 enters:Enters Tryz.prog k
 next:∀acc w w',I acc w->Ybw w w'->I acc w'
 isin:∀acc w,I acc w->H.In w/\Zay natV w bat at_
 call:∀acc w (j:Nat),acc.length<=1000000->I acc w->Calls Tryz.prog k (#[.int .i64 j]++Ha) w λr w'=>r=.returned (.tuple #[])/\I (acc++[j]) w'/\Fr w w'
theorem needs_any(k:Nat)(Ha:Array Value)(H:Kn)(bat:Nat)(at_:Env Nat)(I:List Nat->World->Prop)(hS:Seer k Ha H bat at_ I)(ks:Env Int):
  ∀(e:Ex),Zad ks e=true->∀v,ExV H e v->∀acc w,acc.length+e.parts<=1000000->I acc w->
  Calls Tryz.prog 115 #[v,.map (some bat),.func (.func k) #[] Ha] w λr w'=>r=.returned (.tuple #[])/\I (acc++needs at_ e) w'/\Fr w w':=by
 refine Ex.ind λo n s l ih hf v hv acc w Ho hI=>?_;obtain⟨u,rfl,hu⟩:=hv;simp only[Ex.op,Ex.n,Ex.s,Ex.l] at hu ⊢;obtain⟨a,c,rfl⟩:=hu.len;obtain⟨jY,Jj,_,_,_⟩:=Zax hf;have hen:=hS.enters;have hF1:=Zhd (Fr.of_below ((Below.refl w.heap.size w).alloc Ylr (.cells (Yqe o n s a l.length c) 93)));unfold Enters at hen;have HU:=Zhd hu;have HI:=Zhd (hS.next _ _ _ hI ((Below.refl _ _).alloc Ylr (.cells (Yqe o n s a l.length c) 93)));have qq:=Zhd λe he=>ih e he (jY e he);have HL:=Zhd (Nat.le_trans (Nat.add_le_add_left (show Ex.partsL l+1<=(Ex.mk o n s l).parts from by simp only[Ex.parts];omega) acc.length) Ho);clear hu hI ih jY Ho hf;by_cases hZ:o=oPre
 .have HN:=Zhd (show needs at_ (.mk o n s l)=[] from by simp only[needs];rw[if_pos hZ]);have t1:(o.toList==[112,114,101])=true:=by rw[<- dLit];simpa using hZ
  clear hZ Jj;go_enter Tryz.func115,Tryz.ntmps115;go_wp2_with fail
  first|go_end0|(refine bodyPost_ret (results_none rfl _ _ _) rfl ?_)
  exact⟨rfl,by rw[HN.out,List.append_nil];exact HI.out,hF1.out⟩
 have t1:(o.toList==[112,114,101])=false:=Zav _ hZ;by_cases zd:o=oFby
 .have h2:=Jj zd;have t2:(o.toList==[102,98,121])=true:=by rw[<- dLit];simpa using zd
  have h0:0<l.length:=by omega
  obtain⟨b,off,ax,cx,rfl,c0,c1,c2,c3,hx⟩:=HU.out.at h0;have HN:=Zhd (show needs at_ (.mk o n s l)=needs at_ l[0] from by
   simp only[needs];rw[if_neg hZ,if_pos zd]
   match l,h0 with
   |x :: r,_=>rfl)
  have JI:=(hS.isin _ _ HI.out).1;have c0:=JI.cell c0;have c1:=JI.cell c1;have c2:=JI.cell c2;have c3:=JI.cell c3;simp only[Nat.zero_mul,Nat.add_zero] at c0 c1 c2 c3;have Hl:=Ymm h0;have qn:l[0].parts<=Ex.partsL l:=Zgd Hl;have HX:=Zhd (qq.out l[0] Hl _ hx acc _ (by have:=HL.out;omega) HI.out);have h0I:(0:Int)<l.length:=by omega
  clear hZ zd Jj hx JI h2;generalize l[0]=x at *;clear qq;go_enter Tryz.func115,Tryz.ntmps115;go_wp2_with fail;refine HX.out.mono ?_;rintro r w2 ⟨rfl,hI2,hF2⟩;have HI2:=Zhd (And.intro hI2 (hF1.out.trans hF2));clear hI2 hF2;go_wp2_with fail
  first|go_end0|(refine bodyPost_ret (results_none rfl _ _ _) rfl ?_)
  exact⟨rfl,by rw[HN.out];exact HI2.out.1,HI2.out.2⟩
 have t2:(o.toList==[102,98,121])=false:=Zav _ zd
 -- what the name adds
 obtain⟨pre,zC⟩:∃pre,pre=(if o=Zb2 then(at_ s).toList else []):=⟨_,rfl⟩;have HN:=Zhd (show needs at_ (.mk o n s l)=pre++Zcy at_ l from by
  simp only[needs];rw[if_neg hZ,if_neg zd,<- zC])
 have HPL:=Zhd (show pre.length<=1 from by rw[zC];split;cases at_ s<;>simp;simp)
 have Ht:=(hS.isin _ _ HI.out).2.run (P:=Tryz.prog) Tryz.underlying124 Tryz.underlying9 (d:=0) (by kernel_rfl) s true;simp only[if_true,natV] at Ht;have jm:(o.toList==[110,97,109,101])=false/\pre=[]\/(o.toList==[110,97,109,101])=true/\(((at_ s).isSome=false/\pre=[])\/((at_ s).isSome=true/\pre=[(at_ s).getD 0])):=by
  by_cases h:o=Zb2
  .right;refine⟨by rw[<- dLit];simpa using h,?_⟩;rw[if_pos h] at zC;cases hq:at_ s with
   |none=>left;rw[hq] at zC;exact⟨rfl,zC⟩
   |some j=>right;rw[hq] at zC;exact⟨rfl,zC⟩
  left;rw[if_neg h] at zC;exact⟨Zav _ h,zC⟩
 have xN:l.length<=1000000:=by have:=Zg7 l;have:=HL.out;omega
 clear hZ zd Jj zC;generalize (at_ s).isSome=is at *;generalize (at_ s).getD 0=j at *;rcases jm with ⟨t3,rfl⟩|⟨t3,⟨rfl,rfl⟩|⟨rfl,rfl⟩⟩
 .go_enter Tryz.func115,Tryz.ntmps115;exact mNeeds1
 .go_enter Tryz.func115,Tryz.ntmps115;exact mNeeds1
 go_enter Tryz.func115,Tryz.ntmps115;go_wp2_with fail;refine(hS.call acc _ j (by have:=HL.out;omega) HI.out).mono ?_;rintro r w1 ⟨rfl,xS,hF⟩;have HI1:=Zhd (And.intro xS (hF1.out.trans hF));have q3:w1.cell? ⟨w.heap.size,3,none⟩=some (.slice a l.length c):=hF.cell (heap_alloc_new _ _) (by decide) (by decide) 3;clear xS hF;go_wp2_with fail;clear Ht;go_loopw[39] (λi wr=>∃q:Nat,i=.int .i64 q/\q<=l.length/\I (acc++([j]++Zcy at_ (l.take q))) wr/\Fr w wr) (λi _=>l.length - (intOf i).toNat)
 case atStart=>exact⟨0,rfl,Nat.zero_le _,by simpa[Zcy] using HI1.out.1,HI1.out.2⟩
 obtain⟨q,rfl,hq,hIr,hFr⟩:=hrel;have Qk:=Zhd hIr;have HFr:=Zhd hFr;clear hIr hFr;by_cases hql:q<l.length
 .obtain⟨b,off,ax,cx,rfl,c0,c1,c2,c3,hx⟩:=ExsV.at HU.out hql;have Hk:=(hS.isin _ _ Qk.out).1;have c0:=Hk.cell c0;have c1:=Hk.cell c1;have c2:=Hk.cell c2;have c3:=Hk.cell c3;have Hl:=Ymm hql;have NT:=Zhd (Zh2 at_ l q hql);have Hv:=Zha at_ (l.take q);have Hm:=Zde l q hql;have Jg:=Zc1 l (q+1);have HX:=Zhd (qq.out l[q] Hl _ hx (acc++([j]++Zcy at_ (l.take q))) _ (by have:=HL.out;simp only[List.length_append,List.length_cons,List.length_nil];omega) (hS.next _ _ _ Qk.out ((Below.refl _ _).alloc Ylr (.cells #[.string l[q].op,.int .i64 l[q].n,.string l[q].s,.slice ax l[q].l.length cx] 93))));clear hx Hv Hm Jg Hk;generalize l[q]=x at *;go_wp2_with fail;refine HX.out.mono ?_;rintro r w2 ⟨rfl,hI2,hF2⟩;have HI2:=Zhd hI2;have QF:=Zhd ((HFr.out.trans (Fr.of_below Yba)).trans hF2);clear hI2 hF2;go_wp2_with fail;go_roundw
  case rel=>exact⟨q+1,by go_num,by omega,by rw[NT.out];simpa only[List.append_assoc] using HI2.out,QF.out⟩
  simp[intOf];omega
 go_wp2_with fail
 first|go_end0|(refine bodyPost_ret (results_none rfl _ _ _) rfl ?_)
 exact⟨rfl,by rw[HN.out];rw[show l.take q=l from List.take_of_length_le (by omega)] at Qk;exact Qk.out,HFr.out⟩
theorem mGraphA1{p:Prop}(h:p:=by
 clear hK K jI;have jI:=hHeld2;clear hHeld2
 try simp only[tkS]
 refine wpAnyH_ready (rs:=[8]) (by kernel_rfl) (by simp) ?_;refine AllReadyH.cons (o:=_) rfl (λK hK=>?_) ?_
 .refine step_append_lies _ (by rfl) _ _ _ (by rfl) base 3 i0 _ 1 8 Tryz.underlying122 JI Jt J6 Ju rfl (by omega) (.slice ra m rc) m _ (by rfl) ((HO.out.alloc _).drew)
    ⟨w.heap.size,0,none⟩ 1 1 [.int .i64 j] (by rfl) (by rfl) (World.news_of_block (cs := #[.int .i64 j]) (t:=3) (fr:=(0,0)) (heap_alloc_new w _)) (by simp[Value.oneCell'])
    (by omega) (by unfold maxLen;omega) (by omega) (by simp;omega) (w.heap.size+1) (by simp) ?_
  intro gg Hh w1 hown1 Hj hJ jT;have f1:w1.cell? ⟨Bo,0,none⟩=some (.slice (some ⟨R,0,none⟩) n n):=by rw[Hj.cell_far _ (by simp;omega) (Ne.symm n2)];show World.cell? (w.alloc _) _=_;rw[World.cell?_alloc_past _ _ _ hBolt];exact hBo
  have f2:w1.cell? ⟨Bi,0,none⟩=some (.int .i64 i):=by rw[Hj.cell_far _ (by simp;omega) (Ne.symm n3)];show World.cell? (w.alloc _) _=_;rw[World.cell?_alloc_past _ _ _ hBilt];exact Qy
  have f3:w1.cell? ⟨R,i,none⟩=some (.slice ra m rc):=by rw[Hj.cell_far _ (by simp;omega) (Ne.symm n1)];show World.cell? (w.alloc _) _=_;rw[World.cell?_alloc_past _ _ _ vU];exact hcR
  have f4:w1.frozen? ⟨R,i,none⟩=false:=by rw[Hj.frozen_far _ (by simp;omega) (Ne.symm n1)];show World.frozen? (w.alloc _) _=_;rw[World.frozen?_alloc_past _ _ _ vU];exact hfR
  have JT:R<w1.heap.size:=by have:=Hj.size;simp at this;omega
  refine hK.out _ _ ⟨f1,f2⟩ (λhHeld2=>?_);clear hK K jI;have jI:=hHeld2;clear hHeld2
  try simp only[tkS]
  refine wpAnyH_take (i:=9) (oi:=_) (v:=.pointer (some ⟨R,i,none⟩)) rfl (by kernel_rfl) (by kernel_rfl) (by kernel_rfl) (λ_ _ _ h=>h) (Or.inl ⟨by rfl,?_⟩) (by assumption) ?_
  .intro w Hi;go_simp
  try simp only[tkS]
  refine wpAnyH_ready (rs:=[10]) (by kernel_rfl) (by simp) ?_;refine AllReadyH.cons (o:=_) rfl (λK hK=>?_) ?_
  .go_simp;refine hK.out _ _ ⟨by rw[World.cell?_setCell_far _ _ _ _ n4];exact f1,by rw[World.cell?_setCell_far _ _ _ _ n5];exact f2⟩ (λhHeld2=>?_);clear hK K jI;have jI:=hHeld2;clear hHeld2
   try simp only[tkS]
   refine wpAnyH_done (by kernel_rfl) ?_ _;go_end0
   exact⟨rfl,_,w1,hown1,(show w.grownBy w1 _ from⟨Hj.os,Hj.tape,Hj.output,by have:=Hj.size;simp at this;omega,λq hq Hs=>(Hj.block q (by simp;omega) Hs).trans (Below.heap_alloc w _ q hq)⟩),rfl,by rcases hJ with h|h;exact .inl h.symm;exact .inr ⟨gg,rfl,by omega⟩⟩
  exact AllReadyH.nil
 exact AllReadyH.nil):p:=h
theorem Zaa(w:World)(R i:Nat)(v:Value)(cs:Array Value)(t:TypeId)(fr:Nat×Nat)(h:w.heap[R]?=some (.cells cs t fr)):(w.setCell ⟨R,i,none⟩ v).heap[R]?=some (.cells (cs.setIfInBounds i v) t fr):=by
 have Hr:R<w.heap.size:=(Zlt h);have hg:w.heap[R]=.cells cs t fr:=(Array.getElem?_eq_some_iff.1 h).2;unfold World.setCell;simp only;rw[Array.getElem?_modify];simp[hg,Hr]
theorem graph1_any(Bo Bi R i n j m base:Nat)(cs:Array Value)(row:Value)(xs:List Value)(w:World)(hBo:w.cell? ⟨Bo,0,none⟩=some (.slice (some ⟨R,0,none⟩) n n))(Qy:w.cell? ⟨Bi,0,none⟩=some (.int .i64 i))(hi:i<n)(hn:n<=1000000)
  (hR:w.heap[R]?=some (.cells cs 122 (0,0))) (Jd:cs[i]?=some row) (Hb:w.ownsRow base 3 1 row m xs) (Jl:base<=w.heap.size) (hm:m<=1000000) (ko:R≠Bo/\R≠Bi) (Hs:row.ownBlock≠some R/\row.ownBlock≠some Bo/\row.ownBlock≠some Bi):
  Calls Tryz.prog 116 #[.int .i64 j,.pointer (some ⟨Bo,0,none⟩),.pointer (some ⟨Bi,0,none⟩)] w λr w'=>r=.returned (.tuple #[])/\
   ∃row' w1,w1.ownsRow base 3 1 row' (m+1) (xs++[.int .i64 j])/\w.grownBy w1 row.ownBlock/\w'=w1.setCell ⟨R,i,none⟩ row'/\(row'.ownBlock=row.ownBlock\/∃g,row'.ownBlock=some g/\w.heap.size<=g):=by
 have hcR:w.cell? ⟨R,i,none⟩=some row:=by simp[World.cell?,hR,Jd]
 have hfR:w.frozen? ⟨R,i,none⟩=false:=by simp[World.frozen?,hR]
 have vU:R<w.heap.size:=(Zlt hR);have hBolt:Bo<w.heap.size:=World.block_lt_of_cell? w _ hBo;have hBilt:Bi<w.heap.size:=World.block_lt_of_cell? w _ Qy;obtain⟨i0,JI,Jt,J6,Ju⟩:=info_parts Tryz.infoInt;have HR:=Zhd hR;have hiI:(i:Int)<n:=by omega
 obtain⟨ra,rc,rfl,hrc,hmc⟩:=Zar Hb;obtain⟨n1,n2,n3⟩:=Hs;obtain⟨n4,n5⟩:=ko;have HO:=Zhd Hb;clear hR Jd;go_enter Tryz.func116,Tryz.ntmps116;refine wp_region_held_drew (S:=(λw'=>w'.cell? ⟨Bo,0,none⟩=some (.slice (some ⟨R,0,none⟩) n n)/\w'.cell? ⟨Bi,0,none⟩=some (.int .i64 i))) (by kernel_rfl) ⟨hBo,Qy⟩ (λjI=>?_);refine wpAnyH_take (i:=0) (oi:=_) (v:=.slice (some ⟨R,0,none⟩) n n) rfl (by kernel_rfl) (by kernel_rfl) (by kernel_rfl) (λ_ _ _ h=>h) (Or.inl ⟨by rfl,?_⟩) (by assumption) ?_
 .intro w Hi;go_simp
 try simp only[tkS]
 refine wpAnyH_take (i:=1) (oi:=_) (v:=.int .i64 i) rfl (by kernel_rfl) (by kernel_rfl) (by kernel_rfl) (λ_ _ _ h=>h) (Or.inl ⟨by rfl,?_⟩) (by assumption) ?_
 .intro w Hi;go_simp
 try simp only[tkS]
 refine wpAnyH_take (i:=2) (oi:=_) (v:=.slice (some ⟨R,0,none⟩) n n) rfl (by kernel_rfl) (by kernel_rfl) (by kernel_rfl) (λ_ _ _ h=>h) (Or.inl ⟨by rfl,?_⟩) (by assumption) ?_
 .intro w Hi;go_simp
 try simp only[tkS]
 refine wpAnyH_take (i:=3) (oi:=_) (v:=.int .i64 i) rfl (by kernel_rfl) (by kernel_rfl) (by kernel_rfl) (λ_ _ _ h=>h) (Or.inl ⟨by rfl,?_⟩) (by assumption) ?_
 .intro w Hi;go_simp
 try simp only[tkS]
 refine wpAnyH_take (i:=4) (oi:=_) (v:=.pointer (some ⟨R,i,none⟩)) rfl (by kernel_rfl) (by kernel_rfl) (by kernel_rfl) (λ_ _ _ h=>h) (Or.inl ⟨by rfl,?_⟩) (by assumption) ?_
 .intro w Hi;go_simp
 try simp only[tkS]
 refine wpAnyH_take (i:=6) (oi:=_) (v:=.int .i64 j) rfl (by kernel_rfl) (by kernel_rfl) (by kernel_rfl) (λ_ _ _ h=>h) (Or.inl ⟨by rfl,?_⟩) (by assumption) ?_
 .intro w Hi;go_simp
 try simp only[tkS]
 refine wpAnyH_ready (rs:=[5,7]) (by kernel_rfl) (by simp) ?_;refine AllReadyH.cons (o:=_) rfl (λK hK=>?_) ?_
 .go_simp;refine hK.out _ _ jI (λhHeld2=>?_);clear hK K jI;have jI:=hHeld2;clear hHeld2
  try simp only[tkS]
  refine wpAnyH_ready (rs:=[7]) (by kernel_rfl) (by simp) ?_;refine AllReadyH.cons (o:=_) rfl (λK hK=>?_) ?_
  .go_simp;refine hK.out _ _ (by first|exact⟨hBo,Qy⟩|exact⟨by show World.cell? (w.alloc _) _=_;rw[World.cell?_alloc_past _ _ _ hBolt];exact hBo,by show World.cell? (w.alloc _) _=_;rw[World.cell?_alloc_past _ _ _ hBilt];exact Qy⟩) (λhHeld2=>?_);exact mGraphA1
  exact AllReadyH.nil
 refine AllReadyH.cons (o:=_) rfl (λK hK=>?_) ?_
 .go_simp;refine hK.out _ _ (by first|exact⟨hBo,Qy⟩|exact⟨by show World.cell? (w.alloc _) _=_;rw[World.cell?_alloc_past _ _ _ hBolt];exact hBo,by show World.cell? (w.alloc _) _=_;rw[World.cell?_alloc_past _ _ _ hBilt];exact Qy⟩) (λhHeld2=>?_);clear hK K jI;have jI:=hHeld2;clear hHeld2
  try simp only[tkS]
  refine wpAnyH_ready (rs:=[5]) (by kernel_rfl) (by simp) ?_;refine AllReadyH.cons (o:=_) rfl (λK hK=>?_) ?_
  .go_simp;refine hK.out _ _ jI (λhHeld2=>?_);exact mGraphA1
  exact AllReadyH.nil
 exact AllReadyH.nil
end Go.Proofs.YtafapnolamcdmaaGreatDoor
