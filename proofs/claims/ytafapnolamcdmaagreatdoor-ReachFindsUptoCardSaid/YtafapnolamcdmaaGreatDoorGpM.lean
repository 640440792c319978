/- Plain: a machine's states are what a World's remembered parts have, an instant of it what a World tells: no program in sight. -/
import Derived.Test.YtafapnolamcdmaaGreatDoorWdR
import Derived.Test.YtafapnolamcdmaaGreatDoorCodA
import Derived.Lib.FrozenHead2
set_option linter.all false
namespace Go.Proofs.YtafapnolamcdmaaGreatDoor
set_option maxRecDepth 100000
set_option maxHeartbeats 16000000
open Go.RowKit Mx
mutual
def remE:Ex->List Ex
 | .mk o n s l=>Zbd l++(if o=oPre\/o=oFby then [l.getLastD (.mk o n s l)] else [])
def Zbd:List Ex->List Ex
 | []=>[]
 |e :: l=>remE e++Zbd l
end
theorem rem_nds:∀(e:Ex) (m:Nat),(Zbs m e).map (λy=>(Zdz y).1)=remE e:=by
 refine Ex.ind λo n s l ih m=>?_;have hL:∀(l:List Ex),(∀e∈l,∀m,(Zbs m e).map (λy=>(Zdz y).1)=remE e)->∀m,(Zab m l).map (λy=>(Zdz y).1)=Zbd l:=by
  intro l
  induction l with
  |nil=>intro _ m;rfl
  |cons e l ihl=>
   intro hh m;simp only[Zab,Zbd,List.map_append];rw[hh e (List.mem_cons_self ..),ihl λy hy=>hh y (List.mem_cons_of_mem _ hy)]
 simp only[Zbs,remE,List.map_append];rw[hL l (λe he m=>ih e he m)]
 congr 1
 split<;>rfl
theorem rem_ndsL:∀(l:List Ex) (m:Nat),(Zab m l).map (λy=>(Zdz y).1)=Zbd l
 | [],_=>rfl
 |e :: l,m=>by simp only[Zab,Zbd,List.map_append];rw[rem_nds,rem_ndsL l]
theorem PlX.nds{p:Pr}:∀(e:Ex) (m:Nat),PlX p m e->∀y∈Zbs m e,PlX p y.2 y.1:=by
 refine Ex.ind λo n s l ih m h y hy=>?_;simp only[Zbs,List.mem_append] at hy;rcases hy with hy|hy
 .obtain⟨i,hi,hy⟩:=Zda hy;exact ih _ (Ymm hi) _ (h.parts.1.at i hi) y hy
 split at hy
 .rw [List.mem_singleton.1 hy];exact h
 cases hy
theorem memS_congr(R:REnv)(c:Cd)(mem0:List Vl){inp inp':Nat->List Vl}:∀n,(∀j,j<n->inp j=inp' j)->memS R c mem0 inp n=memS R c mem0 inp' n
 |0,_=>rfl
 |n+1,h=>by
  simp only[memS];rw[memS_congr R c mem0 n (λj hj=>h j (by omega)),h n (by omega)]
theorem InP.rem{x:WdW}:∀(e:Ex),InP x e->∀y∈remE e,InP x y:=by
 refine Ex.ind λo n s l ih h y hy=>?_;simp only[remE,List.mem_append] at hy;rcases hy with hy|hy
 .have hL:∀(l:List Ex),(∀e∈l,InP x e->∀y∈remE e,InP x y)->(∀e∈l,InP x e)->∀y∈Zbd l,InP x y:=by
   intro l
   induction l with
   |nil=>intro _ _ y hy;simp[Zbd] at hy
   |cons e l ihl=>
    intro h1 h2 y hy;simp only[Zbd,List.mem_append] at hy;rcases hy with hy|hy
    .exact h1 e (List.mem_cons_self ..) (h2 e (List.mem_cons_self ..)) y hy
    exact ihl (λz hz=>h1 z (List.mem_cons_of_mem _ hz)) (λz hz=>h2 z (List.mem_cons_of_mem _ hz)) y hy
  exact hL l ih (λe he=>by
   obtain⟨j,hj,rfl⟩:=List.mem_iff_getElem.1 he;exact h.part j hj) y hy
 split at hy
 .rw [List.mem_singleton.1 hy];by_cases hl:l=[]
  .subst hl;exact h
  have h1:l.length - 1<l.length:=by have:=List.length_pos_iff.2 hl;omega
  rw[(Zjn l (.mk o n s l) (l.length - 1) h1 (by omega)).1];exact h.part _ h1
 cases hy
theorem remEs_mem:∀(l:List Ex) (y:Ex),y∈Zbd l->∃e∈l,y∈remE e
 | [],y,h=>by simp[Zbd] at h
 |e :: l,y,h=>by
  simp only[Zbd,List.mem_append] at h;rcases h with h|h
  .exact⟨e,List.mem_cons_self ..,h⟩
  obtain⟨z,h1,h2⟩:=remEs_mem l y h;exact⟨z,List.mem_cons_of_mem _ h1,h2⟩
theorem WdP.rem{x:WdW}(h:WdP x):∀y∈Zbd x.p.terms,InP x y:=λy hy=>by
 obtain⟨e,h1,h2⟩:=remEs_mem _ _ hy;exact InP.rem e (h.term e h1) y h2
def stW(x:WdW)(e:Ex):Vl:=if x.ins.length=0 then nilV x.nb x.ni (Zai x.ks e) else x.V e (x.ins.length - 1)
def stateW(x:WdW):List Vl:=tv (decide (x.ins.length=0)) :: (Zbd x.p.terms).map (stW x)
theorem state_wd{x:WdW}(hp:WdP x):memS x.R (cdOf x.p x.ord) (Zba x.R (Zab 0 x.p.terms)) x.inp x.ins.length=(Zbd x.p.terms).map (stW x):=by
 rw[<- rem_ndsL x.p.terms 0,List.map_map];have jt:=Zfa hp.hks hp.ho;have kB:=Ze9 (Zbg hp.ho).1 hp.hks;cases hn:x.ins.length with
 |zero=>
  simp only[memS,Zba];refine List.map_congr_left λy hy=>?_;simp only[Function.comp,stW,if_pos hn];obtain⟨k,qf,hk,JM⟩:=ms_last (ks:=x.ks) jt hy;obtain⟨i,hi,hyi⟩:=Zda hy;have j8:=mem_kind _ (kB _ (Ymm hi)).2 _ y hyi;have yI:=(Zd9 x.ks x.p.terms jt 0 y hy).2;rw[(JM (by omega)).1];obtain⟨⟨o,n,s,l⟩,m⟩:=y;have hk:l.length=k+1:=hk;have j8:Zai x.ks (.mk o n s l)≠0:=j8;have yI:o=oPre\/o=oFby:=yI;exact congrArg (nilV x.nb x.ni) (last_kind yI j8 qf hk).symm
 |succ k=>
  have vy:(cdOf x.p x.ord).ms=(Zab 0 x.p.terms).map Zdz:=Zdf _ _;simp only[memS,Zdn,vy,List.map_map];refine List.map_congr_left λy hy=>?_;simp only[Function.comp,stW,hn,if_neg (Nat.succ_ne_zero k),Nat.add_sub_cancel];obtain⟨j,hj1,hj,JM⟩:=ms_last (ks:=x.ks) jt hy;obtain⟨i,hi,hyi⟩:=Zda hy;have qn:=PlX.nds _ _ ((plX_all x.p).at i hi) y hyi;obtain⟨g1,g2,_,_⟩:=JM (by omega);rw[g1];obtain⟨⟨o,n,s,l⟩,m⟩:=y;have hj:l.length=j+1:=hj;have:=wd_eval (p:=x.p) x.R x.ord (Zba x.R (Zab 0 x.p.terms)) x.inp (Zdx x.p).1 k (l[j]'(by omega)) g2 _ (qn.parts.1.at j (by omega));unfold WdW.V;rw[hp.fv];exact this
theorem step_wd{x:WdW}(hp:WdP x){good:List (List Vl)}{v:List Vl}(hx:x.ins=good++[v]):
  (Zb7 x.R (cdOf x.p x.ord) (decide (good.length=0)) (memS x.R (cdOf x.p x.ord) (Zba x.R (Zab 0 x.p.terms)) (λi=>good.getD i []) good.length) v).1=Ze8 x.R x.inp x.fv x.p good.length/\
  ((Ze8 x.R x.inp x.fv x.p good.length).trap=false->(Zb7 x.R (cdOf x.p x.ord) (decide (good.length=0)) (memS x.R (cdOf x.p x.ord) (Zba x.R (Zab 0 x.p.terms)) (λi=>good.getD i []) good.length) v).2=memS x.R (cdOf x.p x.ord) (Zba x.R (Zab 0 x.p.terms)) x.inp (good++[v]).length):=by
 have h1:=tick_wd hp.ck hp.hks hp.ho x.nb x.ni (Zba x.R (Zab 0 x.p.terms)) x.inp good.length;have e1:x.inp good.length=v:=by simp[WdW.inp,hx]
 have e2:memS x.R (cdOf x.p x.ord) (Zba x.R (Zab 0 x.p.terms)) (λi=>good.getD i []) good.length=memS x.R (cdOf x.p x.ord) (Zba x.R (Zab 0 x.p.terms)) x.inp good.length:=
  memS_congr _ _ _ _ λj hj=>by simp[WdW.inp,hx,Ygg,List.getElem?_append,hj]
 rw[e1] at h1;rw[e2,hp.fv];obtain⟨h1,h2⟩:=h1;refine⟨h1,λht=>?_⟩;rw[show(good++[v]).length=good.length+1 from by simp];exact h2 (by rw[h1];exact ht)
theorem mRem1{p:Prop}(h:p:=by
 have Jz:=Zhd (show Kn.Step H w K' w3 from⟨Kn.le_trans JZ.out (Kn.le_trans Jw.le He),λb hb=>(je b (by omega)).trans ((Jw.fresh b (by omega)).trans (qQ.out b hb)),Hk,Jn.out.trans (Jw.below.mono Jn.out.size)⟩);have HV:=Zhd hv;have HTZ:=Zhd (show TyX H K' from(HTY.out.trans kJ).trans ye);clear hv Hk je He JC Jw ye kJ;go_wp2_with fail;go_ret;exact⟨_,K',rfl,HV.out,Jz.out,HTZ.out⟩):p:=h
def TyX(H K:Kn):Prop:=∀g ob,K g=some ob->H g=some ob\/∃cs,ob=.cells cs 61 (0,0)
theorem TyX.trans{H K L:Kn}(h:TyX H K)(k:TyX K L):TyX H L:=λg ob e=>by
 rcases k g ob e with h1|h1
 .exact h g ob h1
 exact .inr h1
theorem Zg2:∀(l:List Ex) (k:Nat) (h:k<l.length),Zbd (l.take (k+1))=Zbd (l.take k)++remE l[k]
 |e :: l,0,_=>by simp[Zbd]
 |e :: l,k+1,h=>by
  have:=Zg2 l k (by simpa using h);simp only[List.take_succ_cons,Zbd,List.getElem_cons_succ];rw[this,List.append_assoc]
theorem Zh0:∀(l:List Ex) (k:Nat),Zbd l=Zbd (l.take k)++Zbd (l.drop k)
 | [],k=>by simp[Zbd]
 |e :: l,0=>by simp[Zbd]
 |e :: l,k+1=>by
  have:=Zh0 l k;simp only[List.take_succ_cons,List.drop_succ_cons,Zbd];rw[List.append_assoc,<- this]
theorem rem_take(l:List Ex)(t:List Ex)(k:Nat)(h:k<l.length):(Zbd l++t).take ((Zbd (l.take k)).length+(remE l[k]).length)=(Zbd l++t).take (Zbd (l.take k)).length++remE l[k]:=by
 have e1:=Zh0 l k;have e2:=Zh0 l (k+1);have e3:=Zg2 l k h;have h1:(Zbd l++t).take (Zbd (l.take k)).length=Zbd (l.take k):=by
  rw[e1,List.append_assoc,List.take_left]
 have h2:(Zbd l++t).take (Zbd (l.take (k+1))).length=Zbd (l.take (k+1)):=by
  rw[e2,List.append_assoc,List.take_left]
 rw[h1,<- e3,<- h2,e3,List.length_append]
mutual
theorem remE_len:∀e:Ex,(remE e).length<=e.parts
 | .mk o n s l=>by
  have h:=Zeo l;simp only[remE,Ex.parts,List.length_append]
  split
  .simp;omega
  simp;omega
theorem Zeo:∀l:List Ex,(Zbd l).length<=Ex.partsL l
 | []=>by simp[Zbd]
 |e :: l=>by
  have h1:=remE_len e;have h2:=Zeo l;simp only[Zbd,Ex.partsL,List.length_append];omega
end
theorem Zjf:∀(l:List Ex) (k:Nat),Ex.partsL (l.take k)<=Ex.partsL l
 | [],k=>by simp
 |e :: l,0=>by simp[Ex.partsL]
 |e :: l,k+1=>by have:=Zjf l k;simp only[List.take_succ_cons,Ex.partsL];omega
theorem remembered_any{ks:Env Int}:∀(e:Ex),Zad ks e=true->∀(H:Kn) (v:Value),ExV H e v->e.parts<=1000000000->∀w:World,H.In w->
  Calls Tryz.prog 84 #[v] w λr w'=>∃v' K,r=.returned v'/\ExsV K (remE e) v'/\Kn.Step H w K w'/\TyX H K:=by
 refine Ex.ind λo n s l ih j9 H v hv J5 w hH=>?_;obtain⟨JA,Jj,_,hZ,_⟩:=Zax j9;obtain⟨u,rfl,hu⟩:=hv;simp only[Ex.op,Ex.n,Ex.s,Ex.l] at hu ⊢;obtain⟨a,c,rfl⟩:=hu.len;simp only[Ex.parts] at J5;have xN:=Zbp l;have Hv:Ybw w (w.alloc (.cells (Yqe o n s a l.length c) 61)):=Yba;obtain⟨K0,kW⟩:∃K0,K0=H.add w.heap.size (.cells (Yqe o n s a l.length c) 61 (0,0)):=⟨_,rfl⟩;have He:H.le K0:=kW▸Kn.le_add (hH.isNone Ylr);have Hk:K0.In (w.alloc (.cells (Yqe o n s a l.length c) 61)):=kW▸(hH.below Hv).add (heap_alloc_new _ _);have hty0:TyX H K0:=λg ob e=>by
  by_cases hg:g=w.heap.size
  .subst hg;rw[kW,Kn.add_self] at e;cases e;exact .inr ⟨_,rfl⟩
  rw[kW,Kn.add_other _ _ hg] at e;exact .inl e
 have vN:∀b,b<w.heap.size->K0 b=H b:=λb hb=>by rw[kW,Kn.add_other _ _ (by omega)]
 have jj:∀j,K0.cell w.heap.size j=((Yqe o n s a l.length c):Array Value)[j]?:=λj=>by unfold Kn.cell;rw[kW,Kn.add_self]
 have j0:K0.cell w.heap.size 0=some (.string o):=jj 0;have j3:K0.cell w.heap.size 3=some (.slice a l.length c):=jj 3;have HU:=Zhd (hu.le He);have qq:=Zhd (λe he=>ih e he (JA e he));have Jn:=Zhd Hv;have JZ:=Zhd He;have HTY:=Zhd hty0;have qQ:=Zhd vN;have hl1:w.heap.size<(w.alloc (.cells (Yqe o n s a l.length c) 61)).heap.size:=by simp
 obtain⟨tl,zV⟩:∃tl,tl=(if o=oPre\/o=oFby then [l.getLastD (.mk o n s l)] else []):=⟨_,rfl⟩;have hrem:remE (.mk o n s l)=Zbd l++tl:=by rw[remE,zV]
 have HTL:=Zhd zV;rw[hrem];go_enter Tryz.func84,Tryz.ntmps84;go_wp2_with fail;generalize w.alloc (.cells (Yqe o n s a l.length c) 61)=W1 at *;have jF:=Zhd (show RwO 61 4 XsAt K0 W1 W1 W1.heap.size (Zbd l++tl) 0 (Ys0) [] K0 from
  ⟨Kn.le_refl K0,λ_ _=>rfl,Hk,Below.refl _ _,Nat.le_refl _,World.ownsRow_nil _ _ _ _,rfl,λg hg=>by simp[Value.ownBlock] at hg⟩)
 clear kW jj hu ih Hk He Hv hty0 vN hrem zV;go_loopw[3,4] (λu i wr=>∃(k:Nat) (xs:List Value) (K:Kn),i=.int .i64 k/\k<=l.length/\RwO 61 4 XsAt K0 W1 wr W1.heap.size (Zbd l++tl) (Zbd (l.take k)).length u xs K/\TyX K0 K) (λ_ i _=>l.length - (intOf i).toNat)
 case atStart=>exact⟨0,_,_,rfl,Nat.zero_le _,jF.out,λg ob h => .inl h⟩
 obtain⟨k,xs,K,rfl,hk,hS,kJ⟩:=hrel;have HS:=Zhd hS;obtain⟨au,cu,rfl,_⟩:=Zar hS.row;have z0:=hS.isin.cell (hS.le.cell j0);have z3:=hS.isin.cell (hS.le.cell j3);by_cases Hd:k<l.length
 .obtain⟨b,off,ax,cx,rfl,c0,c1,c2,c3,hx⟩:=ExsV.at HU.out Hd;have c0:=hS.isin.cell (hS.le.cell c0);have c1:=hS.isin.cell (hS.le.cell c1);have c2:=hS.isin.cell (hS.le.cell c2);have c3:=hS.isin.cell (hS.le.cell c3);have kZ:=Za0 l k Hd;have HT:=Zhd (rem_take l tl k Hd);have HN:=Zhd (Zg2 l k Hd);have HX:=Zhd (qq.out _ (Ymm Hd) K _ (hx.le hS.le) (by omega) wr hS.isin);have hn1:=Zeo (l.take k);have hn2:=remE_len l[k];have hn3:=Zjf l k;have hq:=hS.below.size;clear hS hx;generalize l[k]=x at *;go_wp2_with fail;refine HX.out.mono ?_;rintro r w2 ⟨v2,K2,rfl,Jx,yg,hty2⟩;have jc:=Zhd (RwO.next (X:=XsAt) (λ_ _ _ _ He h=>XsAt.le He h) HS.out yg);obtain⟨a2,c2,rfl⟩:=Jx.len;obtain⟨v3,w3,xs3,hr3,Jw⟩:=Zg0 Tryz.underlying25 Tryz.infoREx rfl jc.out Jx HT.out (by omega);have kG:=Zhd (show RwO 61 4 XsAt K0 W1 w3 W1.heap.size (Zbd l++tl) (Zbd (l.take (k+1))).length v3 xs3 K2 from by rw[HN.out,List.length_append];exact Jw);have HT3:=Zhd (kJ.trans hty2);clear Jw yg hty2 kJ Jx z0 z3 c0 c1 c3;go_wp2_with(at_builtin;refine Zbi rfl _ _ _ _ rfl _ _ rfl rfl _ _ hr3 ?_);go_roundw
  case rel=>exact⟨k+1,_,_,by go_num,by omega,kG.out,HT3.out⟩
  simp[intOf];omega
 obtain rfl:k=l.length:=by omega
 rw[List.take_of_length_le Ylr] at hS HS ⊢;have hB:=Jn.out.trans (hS.below.mono Jn.out.size);by_cases h1:o=oPre
 rotate_left
 .have t1:(o.toList==[112,114,101])=false:=Zav _ h1;by_cases h2:o=oFby
  rotate_left
  .have t2:(o.toList==[102,98,121])=false:=Zav _ h2;obtain rfl:tl=[]:=by rw[HTL.out,if_neg (λh=>h.elim h1 h2)]
   rw[List.append_nil] at hS HS ⊢;have JC:=hS.xs;rw[List.take_of_length_le Ylr] at JC;obtain⟨K',He,Hk,hv,je,ye⟩:=Zfi (l:=Zbd l) hS.isin hS.row JC hS.noR;have Jz:=Zhd (show Kn.Step H w K' wr from⟨Kn.le_trans JZ.out (Kn.le_trans hS.le He),λb hb=>(je b (by omega)).trans ((hS.fresh b (by omega)).trans (qQ.out b hb)),Hk,hB⟩);have HV:=Zhd hv;have HTZ:=Zhd (show TyX H K' from(HTY.out.trans kJ).trans ye);clear hv Hk je He JC hS ye kJ;go_wp2_with fail;go_ret;exact⟨_,K',rfl,by rw[List.append_nil];exact HV.out,Jz.out,HTZ.out⟩
  have t2:(o.toList==[102,98,121])=true:=by rw[<- dLit];simpa using h2
  obtain⟨x,y,rfl⟩:∃x y,l=[x,y]:=by
   have:=Jj h2
   match l,this with
   | [x,y],_=>exact⟨x,y,rfl⟩
  have HH:=Zhd h2;clear h2 h1 Jj hZ;obtain⟨b,off,ax,cx,rfl,c0,c1,c2,c3,hx⟩:=ExsV.at HU.out (show 1<[x,y].length from by simp);have c0:=hS.isin.cell (hS.le.cell c0);have c1:=hS.isin.cell (hS.le.cell c1);have c2:=hS.isin.cell (hS.le.cell c2);have c3:=hS.isin.cell (hS.le.cell c3);simp only[List.getElem_cons_succ,List.getElem_cons_zero,Nat.zero_mul,Nat.one_mul,Nat.add_zero] at c0 c1 c2 c3 hx;have z3:wr.cell? ⟨w.heap.size,3,none⟩=some (.slice (some ⟨b,off,none⟩) 2 c):=z3;have HXX:=Zhd (show ExsV K y.l (.slice ax y.l.length cx) from by
   obtain⟨u9,e9,h9⟩:=hx.le hS.le;cases e9;exact h9)
  have Hu:=(Below.refl wr.heap.size wr).alloc Ylr (.cells (Yqe y.op y.n y.s ax y.l.length cx) 61);have jc:=Zhd (HS.out.alloc (.cells (Yqe y.op y.n y.s ax y.l.length cx) 61));have hq:=hS.below.size;have jR:=Zeo [x,y];have zV:tl=[y]:=HTL.out.trans (if_pos (.inr HH.out));have kB:(Zbd [x,y]++tl).take ((Zbd [x,y]).length+1)=(Zbd [x,y]++tl).take (Zbd [x,y]).length++[y]:=by
   rw[zV,List.take_left,List.take_of_length_le (by simp)]
  clear hx hS;go_wp2_with(at_builtin;refine Zgs 25 61 4 64 _ Tryz.underlying25 Tryz.infoREx rfl (by decide) _ _ rfl rfl W1.heap.size _ _ _ rfl jc.out.row ⟨wr.heap.size,0,none⟩ 1 [.string y.op,.int .i64 y.n,.string y.s,.slice ax y.l.length cx] rfl rfl ?c1 ?c2 ?c3 ?c4 ?c5 ?_)
  case c1=>exact cells4 _ _ _ _ _ _
  case c2=>simp[Value.oneCell']
  case c3=>omega
  case c4=>omega
  case c5=>exact jc.out.size
  intro g Hh w3 ho JP hJ;have Jw:=RwO.step (n':=1) jc.out (by rw[kB];exact jc.out.xs.append ⟨ax,cx,[],rfl,HXX.out,rfl⟩) ho JP (by rw[World.size_alloc];exact hJ);have JC:=Jw.xs;rw[List.take_of_length_le (by rw[zV];simp)] at JC;obtain⟨K',He,Hk,hv,je,ye⟩:=Zfi (l:=Zbd [x,y]++tl) Jw.isin (by rw[zV,List.length_append];exact Jw.row) JC Jw.noR;exact mRem1
 have t1:(o.toList==[112,114,101])=true:=by rw[<- dLit];simpa using h1
 obtain⟨x,rfl⟩:∃x,l=[x]:=by
  have:=hZ h1
  match l,this with
  | [x],_=>exact⟨x,rfl⟩
 have HH:=Zhd h1;clear h1 Jj hZ;obtain⟨b,off,ax,cx,rfl,c0,c1,c2,c3,hx⟩:=ExsV.at HU.out (show 0<[x].length from by simp);have c0:=hS.isin.cell (hS.le.cell c0);have c1:=hS.isin.cell (hS.le.cell c1);have c2:=hS.isin.cell (hS.le.cell c2);have c3:=hS.isin.cell (hS.le.cell c3);simp only[List.getElem_cons_succ,List.getElem_cons_zero,Nat.zero_mul,Nat.one_mul,Nat.add_zero] at c0 c1 c2 c3 hx;have z3:wr.cell? ⟨w.heap.size,3,none⟩=some (.slice (some ⟨b,off,none⟩) 1 c):=z3;have HXX:=Zhd (show ExsV K x.l (.slice ax x.l.length cx) from by
  obtain⟨u9,e9,h9⟩:=hx.le hS.le;cases e9;exact h9)
 have Hu:=(Below.refl wr.heap.size wr).alloc Ylr (.cells (Yqe x.op x.n x.s ax x.l.length cx) 61);have jc:=Zhd (HS.out.alloc (.cells (Yqe x.op x.n x.s ax x.l.length cx) 61));have hq:=hS.below.size;have jR:=Zeo [x];have zV:tl=[x]:=HTL.out.trans (if_pos (.inl HH.out));have kB:(Zbd [x]++tl).take ((Zbd [x]).length+1)=(Zbd [x]++tl).take (Zbd [x]).length++[x]:=by
  rw[zV,List.take_left,List.take_of_length_le (by simp)]
 clear hx hS;go_wp2_with(at_builtin;refine Zgs 25 61 4 64 _ Tryz.underlying25 Tryz.infoREx rfl (by decide) _ _ rfl rfl W1.heap.size _ _ _ rfl jc.out.row ⟨wr.heap.size,0,none⟩ 1 [.string x.op,.int .i64 x.n,.string x.s,.slice ax x.l.length cx] rfl rfl ?c1 ?c2 ?c3 ?c4 ?c5 ?_)
 case c1=>exact cells4 _ _ _ _ _ _
 case c2=>simp[Value.oneCell']
 case c3=>omega
 case c4=>omega
 case c5=>exact jc.out.size
 intro g Hh w3 ho JP hJ;have Jw:=RwO.step (n':=1) jc.out (by rw[kB];exact jc.out.xs.append ⟨ax,cx,[],rfl,HXX.out,rfl⟩) ho JP (by rw[World.size_alloc];exact hJ);have JC:=Jw.xs;rw[List.take_of_length_le (by rw[zV];simp)] at JC;obtain⟨K',He,Hk,hv,je,ye⟩:=Zfi (l:=Zbd [x]++tl) Jw.isin (by rw[zV,List.length_append];exact Jw.row) JC Jw.noR;exact mRem1
theorem remAll_any(H:Kn)(p:Pr)(vi vo vl va vc:Value)(hp:PrP H p vi vo vl va vc){ks:Env Int}(hf:∀e∈p.terms,Zad ks e=true)(J5:Ex.partsL p.terms<=1000000000)(w:World)(hH:H.In w):
  Calls Tryz.prog 59 #[.agg #[vi,vo,vl,va,vc]] w λr w'=>∃v K,r=.returned v/\ExsV K (Zbd p.terms) v/\Kn.Step H w K w'/\TyX H K:=by
 have zV:p.terms.length<=1000000000:=by have:=Zbp p.terms;omega
 have HTM:=Zhd (λ(wz:World) (hz:H.In wz)=>Zhz H p vi vo vl va vc hp zV wz hz);obtain⟨h1,h2,h3,h4,h5⟩:=hp;obtain⟨ai,ci,ao,co,al,cl,aa,ca,ac,cc,rfl,rfl,rfl,rfl,rfl⟩:=Ypo h1.len h2.len h3.len h4.len h5.len;clear h1 h2 h3 h4 h5;have Hg:=(Below.refl w.heap.size w).alloc Ylr (.cells (Yq5 p ai ao al aa ac ci co cl ca cc) 27);have HF:=Zhd hf;clear hf;go_enter Tryz.func59,Tryz.ntmps59;go_wp2_with fail;refine(HTM.out _ (hH.below Hg)).mono ?_;rintro r0 W1 ⟨vt,K0,rfl,hvt,Hy,kJ⟩;have Hy:=(Kn.Step.of_below (hH) Hg).trans Hy;obtain⟨at',ct,rfl⟩:=hvt.len;have HV:=Zhd hvt;have HST0:=Zhd Hy;have HTY:=Zhd (show TyX H K0 from kJ);have jF:=Zhd (show RwO 61 4 XsAt K0 W1 W1 W1.heap.size (Zbd p.terms++[]) 0 (Ys0) [] K0 from
  ⟨Kn.le_refl K0,λ_ _=>rfl,Hy.isin,Below.refl _ _,Nat.le_refl _,World.ownsRow_nil _ _ _ _,rfl,λg hg=>by simp[Value.ownBlock] at hg⟩)
 clear hvt Hy kJ Hg HTM;go_wp2_with fail;go_loopw[3,5] (λu i wr=>∃(k:Nat) (xs:List Value) (K:Kn),i=.int .i64 k/\k<=p.terms.length/\RwO 61 4 XsAt K0 W1 wr W1.heap.size (Zbd p.terms++[]) (Zbd (p.terms.take k)).length u xs K/\TyX K0 K) (λ_ i _=>p.terms.length - (intOf i).toNat)
 case atStart=>exact⟨0,_,_,rfl,Nat.zero_le _,jF.out,λg ob h => .inl h⟩
 obtain⟨k,xs,K,rfl,hk,hS,kJ⟩:=hrel;have HS:=Zhd hS;obtain⟨au,cu,rfl,_⟩:=Zar hS.row;by_cases Hd:k<p.terms.length
 .obtain⟨b,off,ax,cx,rfl,c0,c1,c2,c3,hx⟩:=ExsV.at HV.out Hd;have c0:=hS.isin.cell (hS.le.cell c0);have c1:=hS.isin.cell (hS.le.cell c1);have c2:=hS.isin.cell (hS.le.cell c2);have c3:=hS.isin.cell (hS.le.cell c3);have kZ:=Za0 p.terms k Hd;have HT:=Zhd (rem_take p.terms [] k Hd);have HN:=Zhd (Zg2 p.terms k Hd);have HX:=Zhd (remembered_any p.terms[k] (HF.out _ (Ymm Hd)) K _ (hx.le hS.le) (by omega) wr hS.isin);have hn1:=Zeo (p.terms.take k);have hn2:=remE_len p.terms[k];have hn3:=Zjf p.terms k;have hq:=hS.below.size;clear hS hx;generalize p.terms[k]=x at *;go_wp2_with fail;refine HX.out.mono ?_;rintro r w2 ⟨v2,K2,rfl,Jx,yg,hty2⟩;have jc:=Zhd (RwO.next (X:=XsAt) (λ_ _ _ _ He h=>XsAt.le He h) HS.out yg);obtain⟨a2,c2,rfl⟩:=Jx.len;obtain⟨v3,w3,xs3,hr3,Jw⟩:=Zg0 Tryz.underlying25 Tryz.infoREx rfl jc.out Jx HT.out (by omega);have kG:=Zhd (show RwO 61 4 XsAt K0 W1 w3 W1.heap.size (Zbd p.terms++[]) (Zbd (p.terms.take (k+1))).length v3 xs3 K2 from by rw[HN.out,List.length_append];exact Jw);have HT3:=Zhd (kJ.trans hty2);clear Jw yg hty2 kJ Jx c0 c1 c3;go_wp2_with(at_builtin;refine Zbi rfl _ _ _ _ rfl _ _ rfl rfl _ _ hr3 ?_);go_roundw
  case rel=>exact⟨k+1,_,_,by go_num,by omega,kG.out,HT3.out⟩
  simp[intOf];omega
 obtain rfl:k=p.terms.length:=by omega
 rw[List.take_of_length_le Ylr] at hS ⊢;rw[List.append_nil] at hS;have JC:=hS.xs;rw[List.take_of_length_le Ylr] at JC;obtain⟨K',He,Hk,hv,je,ye⟩:=Zfi (l:=Zbd p.terms) hS.isin hS.row JC hS.noR;have h0:=HST0.out.below.size;have Jz:=Zhd (show Kn.Step H w K' wr from⟨Kn.le_trans HST0.out.le (Kn.le_trans hS.le He),λb hb=>(je b (by omega)).trans ((hS.fresh b (by omega)).trans (HST0.out.fresh b hb)),Hk,HST0.out.below.trans (hS.below.mono HST0.out.below.size)⟩);have HVV:=Zhd hv;have HTZ:=Zhd (show TyX H K' from(HTY.out.trans kJ).trans ye);clear hv Hk je He JC hS ye kJ;go_wp2_with fail;go_ret;exact⟨_,K',rfl,HVV.out,Jz.out,HTZ.out⟩
theorem isX_mk{K:Kn}{l:List (List Vl)}{xs:List Value}(h:xs.length=l.length)(hx:∀i (hi:i<l.length),∃u,xs[i]?=some u/\VlsV K l[i] u):IsX K l xs:=by
 refine⟨by omega,λi hi=>?_⟩;obtain⟨u,h1,h2⟩:=hx i hi;refine⟨u,?_,h2⟩;show(if 0<1 then xs[i * 1+0]? else none)=some u;rw[if_pos (by decide),Nat.mul_one,Nat.add_zero];exact h1
theorem isX_at{K:Kn}{l:List (List Vl)}{xs:List Value}(h:IsX K l xs):xs.length=l.length/\∀i (hi:i<l.length),∃u,xs[i]?=some u/\VlsV K l[i] u:=by
 obtain⟨h1,h2⟩:=h;refine⟨by omega,λi hi=>?_⟩;obtain⟨u,a1,a2⟩:=h2 i hi;have a1:(if 0<1 then xs[i * 1+0]? else none)=some u:=a1;rw[if_pos (by decide),Nat.mul_one,Nat.add_zero] at a1;exact⟨u,a1,a2⟩
theorem ins_news{K:Kn}{W:World}(hK:K.In W){l:List (List Vl)}{b off c:Nat}(h:InsV K l (.slice (some ⟨b,off,none⟩) l.length c)):
  ∃ys:List Value,IsX K l ys/\(∀j u,ys[j]?=some u->W.cell? ((⟨b,off,none⟩:Addr).add j)=some u)/\∀u∈ys,u.oneCell'=true:=by
 have hJ:∀i (hi:i<l.length),∃u,K.cell b (off+i)=some u/\VlsV K l[i] u:=λi hi=>by
  obtain⟨b',off',a2,c2,e,c0,hv⟩:=InsV.at h hi;cases e;exact⟨_,c0,hv⟩
 have jL:∀i (hi:i<l.length),∃u,((List.range l.length).map λi=>(K.cell b (off+i)).getD .nilIface)[i]?=some u/\K.cell b (off+i)=some u/\VlsV K l[i] u:=λi hi=>by
  obtain⟨u,h1,h2⟩:=hJ i hi;exact⟨u,by simp[hi,h1],h1,h2⟩
 refine⟨(List.range l.length).map λi=>(K.cell b (off+i)).getD .nilIface,isX_mk (by simp) (λi hi=>?_),λj u hu=>?_,λu hu=>?_⟩
 .obtain⟨u,h1,_,h3⟩:=jL i hi;exact⟨u,h1,h3⟩
 .have hj:j<l.length:=by
   rcases Nat.lt_or_ge j l.length with h1|h1
   .exact h1
   rw[List.getElem?_eq_none (by simpa using h1)] at hu;cases hu
  obtain⟨x,h1,h2,_⟩:=jL j hj;rw[h1] at hu;cases hu;rw[Zc6];exact hK.cell h2
 obtain⟨j,hj,rfl⟩:=List.mem_iff_getElem.1 hu;have x8:j<l.length:=by simpa using hj
 obtain⟨x,h1,_,h3⟩:=jL j x8;rw[List.getElem?_eq_getElem hj] at h1;cases h1;obtain⟨a,c,e⟩:=h3.len;rw[e];rfl
theorem IsX.append{K:Kn}{l m:List (List Vl)}{xs ys:List Value}(h:IsX K l xs)(k:IsX K m ys):IsX K (l++m) (xs++ys):=by
 obtain⟨h1,h2⟩:=isX_at h;obtain⟨k1,k2⟩:=isX_at k;refine isX_mk (by simp[h1,k1]) λi hi=>?_;by_cases JN:i<l.length
 .obtain⟨u,a1,a2⟩:=h2 i JN;rw[List.getElem_append_left JN];exact⟨u,by rw[List.getElem?_append_left (by omega)];exact a1,a2⟩
 have za:i - l.length<m.length:=by simp at hi;omega
 obtain⟨u,a1,a2⟩:=k2 _ za;rw[List.getElem_append_right (by omega)];exact⟨u,by rw[List.getElem?_append_right (by omega),h1];exact a1,a2⟩
theorem run_app_ins{K:Kn}{W:World}(hK:K.In W){l:List (List Vl)}{a:Option Addr}{c:Nat}(h:InsV K l (.slice a l.length c)){base n:Nat}{v:Value}{xs:List Value}(Hb:W.ownsRow base 31 1 v n xs)(Jl:base<=W.heap.size)(hl:n+l.length<=1000000000):
  ∃v' W' ys,IsX K l ys/\(∀ty,(Builtin.append_ #[28,28] ty #[v,.slice a l.length c]).run Tryz.prog W=.ok v' W')/\W'.ownsRow base 31 1 v' (n+l.length) (xs++ys)/\W.grownBy W' v.ownBlock:=by
 obtain⟨i1,qx,vp,zo,zU⟩:=info_parts Tryz.infoIs;by_cases h0:l=[]
 .subst h0;exact⟨v,W,[],RowX.nil,λty=>Zbn 28 31 i1 Tryz.underlying28 qx Hb a c ty,by simpa using Hb,⟨rfl,rfl,rfl,Nat.le_refl _,λ_ _ _=>rfl⟩⟩
 have Ho:0<l.length:=List.length_pos_iff.2 h0;obtain⟨b,off,he,_⟩:=SlV.at h Ho;subst he;obtain⟨ys,g1,g2,g3⟩:=ins_news hK h;have Ht:=λty=>run_append_lies (P:=Tryz.prog) W 28 ty base 31 i1 _ 1 24 Tryz.underlying28 qx vp zo zU rfl (by omega) v n xs Hb ⟨b,off,none⟩ l.length c ys (by have:=g1.1;omega) g2 g3 Ho (by unfold maxLen;omega) (by omega) Jl W.heap.size rfl;obtain⟨g,Hh,W',h1,h2,h3,h4,h5⟩:=Ht 0;exact⟨_,W',ys,g1,λty=>h1,h2,h3⟩
theorem sameEq_any(H:Kn)(l m:List Vl)(v1 v2:Value)(h1:VlsV H l v1)(h2:VlsV H m v2)(hl:l.length<=1000000000/\m.length<=1000000000)(w:World)(hH:H.In w):
  Calls Tryz.prog 39 #[v1,v2] w λr w'=>r=.returned (.bool (decide (l=m)))/\Ybw w w':=by
 obtain⟨hl1,jU⟩:=hl;obtain⟨a1,c1,rfl⟩:=h1.len;obtain⟨a2,c2,rfl⟩:=h2.len;have V1:=Zhd h1;have V2:=Zhd h2;clear h1 h2;go_enter Tryz.func39,Tryz.ntmps39;by_cases zu:l.length=m.length
 case neg=>
  have HF:=Zhd (show decide (l=m)=false from decide_eq_false λe=>zu (by rw[e]));have q0:((l.length:Int) != (m.length:Int))=true:=by rw[bne_iff_ne];omega
  go_wp2_with fail;go_ret;exact⟨by rw[HF.out];rfl,Below.refl _ _⟩
 have q0:((l.length:Int) != (m.length:Int))=false:=by rw[zu];simp
 have gO:=Zhd zu;clear zu;go_wp2_with fail;go_loopw[5] (λi wr=>∃k:Nat,i=.int .i64 k/\k<=l.length/\Ybw w wr/\∀j,j<k->l[j]?=m[j]?) (λi _=>l.length - (intOf i).toNat)
 case atStart=>exact⟨0,rfl,Nat.zero_le _,Below.refl _ _,λj h=>by omega⟩
 obtain⟨k,rfl,hk,hb,hs⟩:=hrel;have HB:=Zhd hb;have HS:=Zhd hs;clear hb hs;by_cases Hd:k<l.length
 .have hkm:k<m.length:=by have:=gO.out;omega
  obtain⟨b1,f1,e1,x0,x1⟩:=Zd4 V1.out Hd;obtain⟨b2,f2,e2,y0,y1⟩:=Zd4 V2.out hkm;subst e1;subst e2;have x0:=(hH.below HB.out).cell x0;have x1:=(hH.below HB.out).cell x1;have y0:=(hH.below HB.out).cell y0;have y1:=(hH.below HB.out).cell y1;have HNE:=Zhd (show l[k]≠m[k]->decide (l=m)=false from λh=>decide_eq_false λe=>h (by simp only[e]));have HEQ:=Zhd (show l[k]=m[k]->∀j,j<k+1->l[j]?=m[j]? from λh j hj=>by
   by_cases jV:j<k
   .exact HS.out j jV
   obtain rfl:j=k:=by omega
   rw[List.getElem?_eq_getElem Hd,List.getElem?_eq_getElem hkm,h])
  generalize l[k]=x at *;generalize m[k]=y at *;obtain⟨xk,xn⟩:=x;obtain⟨yk,yn⟩:=y;dsimp only at x0 x1 y0 y1;have Jh:=Zhd HB.out.drew;by_cases hk:xk=yk
  .by_cases hn:xn=yn
   .subst hk;subst hn;have HE:=Zhd (HEQ.out rfl);clear HEQ HNE HS;go_wp2_with fail;go_quiet (fail)
    go_wp2_with fail;go_roundw
    case rel=>exact⟨k+1,by go_num,by omega,by first|exact Jh.out|exact Zbq HB.out _,HE.out⟩
    simp[intOf];omega
   have q0:(xn==yn)=false:=beq_false_of_ne hn;subst hk;have HE:=Zhd (HNE.out (by simpa using hn));clear HEQ HNE HS;go_wp2_with fail;go_quiet (fail)
   go_wp2_with fail;go_ret;exact⟨by rw[HE.out];rfl,by first|exact Jh.out|exact Zbq HB.out _⟩
  have q0:(xk==yk)=false:=beq_false_of_ne hk;have HE:=Zhd (HNE.out (by simp[hk]));clear HEQ HNE HS;go_wp2_with fail;go_quiet (fail)
  go_wp2_with fail;go_ret;exact⟨by rw[HE.out];rfl,by first|exact Jh.out|exact Zbq HB.out _⟩
 obtain rfl:k=l.length:=by omega
 have HE:=Zhd (show decide (l=m)=true from decide_eq_true (List.ext_getElem? λj=>by
  by_cases hj:j<l.length
  .exact HS.out j hj
  rw[List.getElem?_eq_none (by omega),List.getElem?_eq_none (by have:=gO.out;omega)]))
 go_wp2_with fail;go_ret;exact⟨by rw[HE.out];rfl,HB.out⟩
theorem in_big(H:Kn)(l:List (List Vl))(v:Value)(hv:InsV H l v)(hz:l.length<=100000000/\∀x∈l,x.length<=100000000)(w:World)(hH:H.In w):
  Calls Tryz.prog 8 #[v] w λr w'=>∃v' K,r=.returned v'/\InsV K l v'/\Kn.Step H w K w':=by
 obtain⟨a,Ha,rfl⟩:=hv.len;have HU:=Zhd hv;obtain⟨z1,z2⟩:=hz;have HZ:=Zhd z2;clear hv z2;go_enter Tryz.func8,Tryz.ntmps8;go_wp2_with fail;have jF:=Zhd (show RwO 31 1 IsX H w w w.heap.size l 0 (Ys0) [] H from
  ⟨Kn.le_refl H,λ_ _=>rfl,hH,Below.refl _ _,Nat.le_refl _,World.ownsRow_nil _ _ _ _,RowX.nil,λg hg=>by simp[Value.ownBlock] at hg⟩)
 go_loopw[3,4] (λu i wr=>∃(k:Nat) (xs:List Value) (K:Kn),i=.int .i64 k/\k<=l.length/\RwO 31 1 IsX H w wr w.heap.size l k u xs K) (λ_ i _=>l.length - (intOf i).toNat)
 case atStart=>exact⟨0,_,_,rfl,Nat.zero_le _,jF.out⟩
 obtain⟨k,xs,K,rfl,hk,hS⟩:=hrel;have HS:=Zhd hS;obtain⟨au,cu,rfl,_⟩:=Zar hS.row;clear hS;by_cases Hd:k<l.length
 .obtain⟨b,off,a2,c2,jE,c0,hx⟩:=HU.out.at Hd;subst jE;have hlx:=HZ.out _ (Ymm Hd);have c0:=HS.out.isin.cell (HS.out.le.cell c0);have hx:=SlV.le hx HS.out.le VlC.mono;have HT:=Zhd (Zd6 l k Hd);generalize l[k]=x at *;obtain⟨v',W2,K2,Ht,Hy,Jx⟩:=run_append_vls HS.out.isin hx (by omega);obtain⟨a3,c3,rfl⟩:=Jx.len;have jc:=Zhd ((RwO.next (RowX.mono IsC.pm) HS.out Hy).alloc (.cells #[.slice a3 x.length c3] 31));have HU2:=Zhd Jx;clear Hy Jx hx;go_wp2_with(at_builtin;first|refine Zbi rfl _ _ _ _ rfl _ _ rfl rfl _ _ Ht ?_|(clear Ht;refine Zgs 28 31 1 24 _ Tryz.underlying28 Tryz.infoIs rfl (by decide) _ _ rfl rfl w.heap.size _ _ _ rfl jc.out.row ⟨W2.heap.size,0,none⟩ 1 [.slice a3 x.length c3] rfl rfl ?c1 ?c2 ?c3 ?c4 ?c5 ?_))
  case c1=>exact Zf5 _ _ _
  case c2=>simp[Value.oneCell']
  case c3=>omega
  case c4=>omega
  case c5=>exact jc.out.size
  intro g Hh w3 ho JP hJ;have kG:=Zhd (RwO.step (n':=1) jc.out (by rw[HT.out];exact RowX.snoc IsC.pm jc.out.xs rfl ⟨_,rfl,HU2.out⟩) ho JP (by rw[World.size_alloc];exact hJ));go_wp2_with fail;go_roundw
  case rel=>exact⟨k+1,_,K2,by go_num,by omega,kG.out⟩
  simp[intOf];omega
 obtain rfl:k=l.length:=by omega
 have JC:IsX K (List.take l.length l) xs:=HS.out.xs;rw[List.take_of_length_le Ylr] at JC;obtain⟨K',He,Hk,hv,je⟩:=Zcn (R:=IsC) HS.out.isin HS.out.row HS.out.noR (RowX.at IsC.pm JC);have Jz:=Zhd (show Kn.Step H w K' wr from⟨Kn.le_trans HS.out.le He,λb hb=>(je b hb).trans (HS.out.fresh b hb),Hk,HS.out.below⟩);have HV:=Zhd hv;clear hv Hk je He;go_wp2_with fail;go_ret;exact⟨_,K',rfl,HV.out,Jz.out⟩
theorem sameIn_any(H:Kn)(l:List (List Vl))(v1 v2:Value)(h1:InsV H l v1)(h2:InsV H l v2)(hl:l.length<=1000000000/\∀x∈l,x.length<=1000000000)(w:World)(hH:H.In w):
  Calls Tryz.prog 15 #[v1,v2] w λr w'=>r=.returned (.bool true)/\Ybw w w':=by
 obtain⟨hl1,jU⟩:=hl;obtain⟨a1,c1,rfl⟩:=h1.len;obtain⟨a2,c2,rfl⟩:=h2.len;have V1:=Zhd h1;have V2:=Zhd h2;have HL:=Zhd jU;clear h1 h2 jU;go_enter Tryz.func15,Tryz.ntmps15;go_wp2_with fail;go_loopw[5] (λi wr=>∃k:Nat,i=.int .i64 k/\k<=l.length/\Ybw w wr) (λi _=>l.length - (intOf i).toNat)
 case atStart=>exact⟨0,rfl,Nat.zero_le _,Below.refl _ _⟩
 obtain⟨k,rfl,hk,hb⟩:=hrel;have HB:=Zhd hb;clear hb;by_cases Hd:k<l.length
 .obtain⟨b1,f1,x1,d1,e1,x0,hx⟩:=V1.out.at Hd;obtain⟨b2,f2,y1,d2,e2,y0,hy⟩:=V2.out.at Hd;subst e1;subst e2;have HX:=Zhd hx;have HY:=Zhd hy;have HZ:=Zhd (HL.out _ (Ymm Hd));generalize l[k]=x at *;clear hx hy;have hS:=hH.below HB.out.drew;have J5:=HB.out.size;go_wp2_with fail;refine Zae (λw'=>H.In w') (λ_=>True) 99 (by kernel_rfl) ?_;refine Go.w3 0 ?_
  iterate 8 ((first|(refine tk3 (v:=?_) rfl hS Ztr ?hy ?_;(case hy=>intro w Hi;obtain⟨z0,z1⟩:=Hi.c2 x0 y0;go_simp<;>with_reducible rfl))|refine sk3 rfl hS Ztr ?_|refine no3 ?_);refine Zss ?_)
  refine Go.w3e ?_;refine Zwo 8 rfl λK_ hK=>?_;go_simp;go_at_call 39;refine(sameEq_any H x x _ _ HX.out HY.out ⟨HZ.out,HZ.out⟩ _ hS).mono ?_;rintro r wc ⟨rfl,hbc⟩;have hSc:=hS.below hbc;rw[show decide (x=x)=true from decide_eq_true rfl];refine hK.out _ _ (hSc) Ztr ?_;clear hK K_
  try simp only[tkS]
  refine Go.w3 9 ?_
  iterate 1 ((first|(refine tk3 (v:=?_) rfl hSc Ztr ?hy ?_;(case hy=>intro w Hi;obtain⟨z0,z1⟩:=Hi.c2 x0 y0;go_simp<;>with_reducible rfl))|refine sk3 rfl hSc Ztr ?_|refine no3 ?_);refine Zss ?_)
  refine Go.w3e ?_;refine Zwd ?_;have Jh:=Zhd (HB.out.drew.trans (hbc.mono J5));clear hS hSc hbc;go_wp2_with fail;go_roundw
  case rel=>exact⟨k+1,by go_num,by omega,Jh.out⟩
  simp[intOf];omega
 obtain rfl:k=l.length:=by omega
 go_wp2_with fail;go_ret;exact⟨rfl,HB.out⟩
abbrev IsB(B b:Nat)(bs:List Value)(w:World):Prop:=Lib.IsBuilderF 132 5 B b bs w
theorem own_belowF{w w':World}{base:Nat}{e:TypeId}{k n:Nat}{v:Value}{xs:List Value}(h:w.ownsRowF base e k v n xs)(hb:Ybw w w'):w'.ownsRowF base e k v n xs:=by
 refine⟨h.1,h.2.imp id ?_⟩;rintro⟨g,Ha,cur,fz,h1,h2,h3,h4⟩;exact⟨g,Ha,cur,fz,h1,h2,by rw[hb.block _ (Zlt h3)];exact h3,h4⟩
theorem IsB.below{B b:Nat}{bs:List Value}{w w':World}(h:IsB B b bs w)(hb:Ybw w w'):IsB B b bs w':=by
 have H:∀p,Lib.BuilderAtF 132 5 B b p bs w->Lib.BuilderAtF 132 5 B b p bs w':=λp ⟨h1,v,h2,h3,h4⟩=>
  ⟨h1,v,(hb.block b (Zlt h2)).trans h2,own_belowF h3 hb,h4⟩
 exact h.imp (H _) (H _)
theorem writeByte_any(B b:Nat)(bs:List Value)(c:Int)(w:World)(h:IsB B b bs w)(Ho:bs.length+1<=1000000000)(hBw:B<=w.heap.size):
  Calls Tryz.prog 45 #[.pointer (some ⟨b,0,none⟩),.int .u8 c] w λe w'=>e=.returned .nilIface/\IsB B b (bs++[.int .u8 c]) w'/\Below B w w':=by
 obtain⟨i0,hi,Jt,J6,Ju⟩:=info_parts Tryz.infoByte;go_enter Tryz.func45,Tryz.ntmps45;go_wp2_with fail;refine(copyCheck_any B b bs _ h).mono ?_;rintro e w1 ⟨rfl,h1,Hv,ho1⟩;obtain⟨hB,v,xi,Hb,Hs⟩:=h1;clear ho1;have Hr:b<w1.heap.size:=(Zlt xi);have kM:Ybw w1 (w1.alloc (.cells #[.int .u8 c] 5)):=Yba;have hbk2:=(kM.block b Hr).trans xi;have ju:=own_belowF Hb kM;have c0:w1.cell? ⟨b,0,none⟩=some (.pointer (some ⟨b,0,none⟩)):=by rw[Lib.cell_of_heap xi];rfl
 have c1:w1.cell? ⟨b,1,none⟩=some v:=by rw[Lib.cell_of_heap xi];rfl
 have J5:=Hv.size;have HBA:=Zhd kM;clear kM;go_wp2_with(at_builtin;refine wpList_append_ownF _ rfl _ _ 130 rfl B 5 i0 (.int .u8 0) 1 1 Tryz.underlying130 hi Jt J6 Ju rfl (by decide) _ _ _ rfl ju ⟨w1.heap.size,0,none⟩ 1 1 [.int .u8 c] rfl rfl (Zf5 _ _ _) (by simp[Value.oneCell']) ?c3 ?c4 ?c5 ?_)
 case c3=>unfold maxLen;omega
 case c4=>omega
 case c5=>simp;omega
 intro v' w2 hown' Hj _;have Hm:w2.heap[b]?=some (.cells #[.pointer (some ⟨b,0,none⟩),v] 132 (0,0)):=by
  rw[Hj.block b (by simp;omega) (λe=>Hs e.symm)];exact hbk2
 have d0:w2.cell? ⟨b,0,none⟩=some (.pointer (some ⟨b,0,none⟩)):=by rw[Lib.cell_of_heap Hm];rfl
 have d1:w2.cell? ⟨b,1,none⟩=some v:=by rw[Lib.cell_of_heap Hm];rfl
 have f1:w2.frozen? ⟨b,1,none⟩=false:=Lib.frozen_of_heap Hm 1;have zK:Below B w w2:=(Hv.trans (HBA.out.mono (by omega))).grown Hj (by simp;omega) (λk hk=>(Hb.lt k hk).1);obtain⟨ao,n',Ha,rfl⟩:∃ao n' Ha,v' = .slice ao n' Ha:=by
  rcases hown'.2 with ⟨hv,_⟩|⟨g,Ha,cur,fz,hv,_⟩
  .exact⟨_,_,_,hv⟩
  exact⟨_,_,_,hv⟩
 go_wp2_with fail;go_ret;refine⟨rfl,.inr ?_,zK.setCell (p:=⟨b,1,none⟩) hB _⟩;exact Lib.BuilderAtF.put (T:=132) (e:=5) hB Hm (bs':=bs++[.int .u8 c]) (by simpa using hown') (by decide)
theorem byteV_toNat(v:Vl):((Zhn v).toNat:Int)=v.n % 256:=by
 unfold Zhn;simp only[UInt8.toNat_ofNat'];omega
theorem byteCells_take(l:List Vl)(k:Nat)(h:k<l.length):Lib.byteCells ((l.take (k+1)).map Zhn)=Lib.byteCells ((l.take k).map Zhn)++[.int .u8 (l[k].n % 256)]:=by
 rw[List.take_succ_eq_append_getElem h,List.map_append];unfold Lib.byteCells;rw[List.map_append];simp[byteV_toNat]
theorem key_any(H:Kn)(l:List Vl)(v:Value)(hv:VlsV H l v)(hl:l.length<=100000000)(w:World)(hH:H.In w):
  Calls Tryz.prog 22 #[v] w λr w'=>r=.returned (.string (keyB l))/\Ybw w w':=by
 obtain⟨a,c,rfl⟩:=hv.len;have HV:=Zhd hv;have Hg:Ybw w (w.alloc (.cells #[.pointer none,Ys0] 132)):=Yba;have hB0:IsB w.heap.size w.heap.size [] (w.alloc (.cells #[.pointer none,Ys0] 132)):=
  .inl ⟨Nat.le_refl _,Ys0,heap_alloc_new w _,⟨by simp,.inl ⟨rfl,rfl⟩⟩,by simp[Value.ownBlock]⟩
 have J4:=Zhd Hg;have HI0:=Zhd hB0;clear hv Hg hB0;go_enter Tryz.func22,Tryz.ntmps22;go_wp2_with fail;go_loopw[8] (λi wr=>∃k:Nat,i=.int .i64 k/\k<=l.length/\Ybw w wr/\IsB w.heap.size w.heap.size (Lib.byteCells ((l.take k).map Zhn)) wr) (λi _=>l.length - (intOf i).toNat)
 case atStart=>exact⟨0,rfl,Nat.zero_le _,J4.out,HI0.out⟩
 obtain⟨k,rfl,hk,hb,hI⟩:=hrel;have HB:=Zhd hb;have HI:=Zhd hI;clear hb hI;by_cases Hd:k<l.length
 .obtain⟨b,off,jE,e0,e1⟩:=Zd4 HV.out Hd;subst jE;have e0:=(hH.below HB.out).cell e0;have e1:=(hH.below HB.out).cell e1;have hN:=byteCells_take l k Hd;have HN:=Zhd hN;have HL:=Zhd (show(Lib.byteCells ((l.take k).map Zhn)).length=k from by simp[Lib.byteCells,Nat.min_eq_left hk]);clear hN;generalize l[k]=x at *;obtain⟨xk,xn⟩:=x;dsimp only at e0 e1 HN;generalize Lib.byteCells ((l.take k).map Zhn)=bs at *;have kM:Ybw wr (wr.alloc (.cells #[.int .i64 xk,.int .i64 xn] 101)):=Yba;have HI2:=Zhd (IsB.below HI.out kM);have Jh:=Zhd (HB.out.trans (kM.mono HB.out.size));have hszr:=HB.out.size;clear kM;go_wp2_with fail;refine(writeByte_any w.heap.size w.heap.size bs (xn % 256) _ HI2.out (by have:=HL.out;omega) (by simp;omega)).mono ?_;rintro r w2 ⟨rfl,hI2,Hm⟩;have HI3:=Zhd (show IsB w.heap.size w.heap.size (Lib.byteCells ((l.take (k+1)).map Zhn)) w2 from by rw[HN.out];exact hI2);have Js:=Zhd (Jh.out.trans Hm);clear hI2 Hm;go_wp2_with fail;go_roundw
  case rel=>exact⟨k+1,by go_num,by omega,Js.out,HI3.out⟩
  simp[intOf];omega
 obtain rfl:k=l.length:=by omega
 have hI:=HI.out;rw[List.take_of_length_le Ylr] at hI;go_wp2_with fail;refine(Tryz.Builder_String_any_f _ _ _ _ hI HB.out.size).mono ?_;rintro r w2 ⟨rfl,_,Hm⟩;go_wp2_with fail;go_ret;exact⟨rfl,HB.out.trans Hm⟩
theorem outsGo_nd{fl:List ByteArray}:∀(l seen:List ByteArray),Zce fl seen l=true->l.Nodup/\∀s∈l,s∈fl/\s∉seen
 | [],_,_=>⟨List.nodup_nil,λs h=>by cases h⟩
 |x :: l,seen,h=>by
  simp only[Zce,Bool.and_eq_true,List.contains_eq_mem,decide_eq_true_eq,Bool.not_eq_true',decide_eq_false_iff_not] at h;obtain⟨g1,g2⟩:=outsGo_nd l _ h.2;refine⟨List.nodup_cons.2 ⟨λhx=>(g2 x hx).2 (by simp),g1⟩,λs hs=>?_⟩;rcases List.mem_cons.1 hs with rfl|hs
  .exact⟨h.1.1,h.1.2⟩
  exact⟨(g2 s hs).1,λhn=>(g2 s hs).2 (by simp[hn])⟩
theorem idx_nd{fl:List ByteArray}:∀(l:List ByteArray),l.Nodup->(∀s∈l,s∈fl)->(l.map fl.idxOf).Nodup
 | [],_,_=>List.nodup_nil
 |x :: l,h,hs=>by
  rw[List.nodup_cons] at h;rw[List.map_cons,List.nodup_cons];refine⟨λhm=>?_,idx_nd l h.2 λs q=>hs s (List.mem_cons_of_mem _ q)⟩;obtain⟨y,hy,e⟩:=List.mem_map.1 hm;have h1:=List.idxOf_lt_length_of_mem (hs x (List.mem_cons_self ..));have h2:=List.idxOf_lt_length_of_mem (hs y (List.mem_cons_of_mem _ hy));have e1:fl[fl.idxOf x]=x:=List.getElem_idxOf h1;have e2:fl[fl.idxOf y]=y:=List.getElem_idxOf h2;have:x=y:=by
   rw[<- e1,<- e2];simp only[e]
  exact h.1 (this▸hy)
theorem outs_few{p:Pr}(h:(Za2 p).1=0):p.outs.length<=p.fl.length:=by
 obtain⟨l,ho,_⟩:=Zf0 h;obtain⟨ks,_,Hn,_⟩:=Zb9 (Zbg ho).1;obtain⟨h1,h2⟩:=outsGo_nd _ _ Hn;have:=Zij p.fl.length (p.outs.map (p.fl.map (·.name)).idxOf) (idx_nd _ h1 λs hs=>(h2 s hs).1) λi hi=>by
  obtain⟨s,hs,rfl⟩:=List.mem_map.1 hi;have:=List.idxOf_lt_length_of_mem (h2 s hs).1;simpa using this
 simpa using this
open Go.ChangeShapes Go.WideShapes Go.ChangeAt Go.RowKit Go.Deep Mx
instance:Inhabited Vl:=⟨⟨0,0⟩⟩
section
variable {H : Type} {enc : TypeId × Value -> H} {W : World} {spare : Nat -> Bool} {held : Bool}
theorem cellsVl:Tryz.prog.cellsOf 101=2:=by kernel_rfl
theorem cellsVls:Tryz.prog.cellsOf 31=1:=by kernel_rfl
theorem read_vl(n:Nat)(cs:List Value)(y:DataW H×List MemPlace)(h:DataW.trod enc Tryz.prog W 0 spare held n 101 cs=some y):∃x:Vl,VlC x (λj=>cs[j]?)/\1<=Rows.uptoBulk y.1:=by
 obtain⟨y0,y1,m,rfl,hl,h0,h1⟩:=trod_struct2 Tryz.underlying101 h;rw[cellsVl] at hl
 match cs,hl with
 | [a,b],_=>
  dsimp only at h0 h1;rw[Zi6] at h0 h1;obtain⟨k0,e0,f0,_⟩:=DataW.trod_int Tryz.underlying3 h0;obtain⟨k1,e1,f1,_⟩:=DataW.trod_int Tryz.underlying3 h1;have e0' : [a]=[Value.int .i64 k0]:=e0;have vZ : [b]=[Value.int .i64 k1]:=e1;cases e0';cases vZ;exact⟨⟨k0,k1⟩,⟨rfl,rfl⟩,Zk0 _⟩
theorem read_vls(n:Nat)(cs:List Value)(y:DataW H×List MemPlace)(h:DataW.trod enc Tryz.prog W 0 spare held n 31 cs=some y):∃l v,cs=[v]/\VlsV (Zan W) l v/\l.length<Rows.uptoBulk y.1:=by
 obtain⟨l,v,e,hs,hw⟩:=Zdj Tryz.underlying31 cellsVl (by omega) VlC VlC.mono (λx f hx a W h=>cell_spot (h.trans hx.1)) (λ_=>1) _ (λn cs y hy _=>read_vl n cs y hy) h Ylr;rw[sum_ones] at hw;exact⟨l,v,e,hs,hw⟩
theorem sum_mem{α:Type}(f:α->Nat):∀(l:List α),l.length<=(l.map λx=>f x+1).sum/\∀x∈l,f x<=(l.map λx=>f x+1).sum
 | []=>⟨Nat.le_refl _,λx hx=>by cases hx⟩
 |y :: l=>by
  obtain⟨h1,h2⟩:=sum_mem f l;refine⟨by simp only[List.map_cons,List.sum_cons,List.length_cons];omega,λx hx=>?_⟩;simp only[List.map_cons,List.sum_cons];rcases List.mem_cons.1 hx with rfl|hx
  .omega
  have:=h2 x hx;omega
theorem read_insW{r:Reach}{b0:Nat}{v:Value}{d:DataW H}{ps:List MemPlace}(hval:Value.okWide Tryz.prog W r b0 28 v)(h:DataW.Trod enc Tryz.prog W 0 spare held 28 v d ps):∃l,InsV (Zan W) l v/\l.length<Rows.uptoBulk d/\∀x∈l,x.length<Rows.uptoBulk d:=by
 obtain⟨a,n,c,rfl⟩:=okWide_slice Tryz.underlying28 hval;obtain⟨fuel,hf⟩:=h;have hf':DataW.trod enc Tryz.prog W 0 spare held fuel 28 [.slice a n c]=some (d,ps):=hf;obtain⟨l,v,e,hs,hw⟩:=Zdj Tryz.underlying28 cellsVls (by omega) (λl f=>∃u,f 0=some u/\VlsV (Zan W) l u) (λx f g hfg ⟨u,h1,h2⟩=>⟨u,hfg _ _ h1,h2⟩) (λx f ⟨u,h1,_⟩ a W h=>cell_spot (h.trans h1)) (λl=>l.length+1) _ (λn cs y hy _=>by
  obtain⟨l,v,e,h1,h2⟩:=read_vls n cs y hy;subst e;exact⟨l,⟨v,rfl,h1⟩,h2⟩) hf' Ylr
 obtain⟨h1,h2⟩:=sum_mem (λx:List Vl=>x.length) l;cases e;exact⟨l,hs,Nat.lt_of_le_of_lt h1 hw,λx hx=>Nat.lt_of_le_of_lt (h2 x hx) hw⟩
end
end Go.Proofs.YtafapnolamcdmaaGreatDoor
