/- Walks: lustrumlaw1.weightOf, Heavy; lustrumref1.Terms, Parts, partsOf. -/
import Derived.Test.YtofameafdnkijaaGreatDoorRg
import Derived.Test.YtofameafdnkijaaGreatDoorEof
import Derived.Test.YtofameafdnkijaaGreatDoorRows
import Derived.Test.YtofameafdnkijaaGreatDoorOck
import Derived.OpenShut
import Derived.LaidMore
import Derived.Lib.SmallJoins
import Derived.Stop.Joined
import Derived.Deep.Strs
import Derived.Test.YtofameafdnkijaaGreatDoorArity
import Derived.Test.YtofameafdnkijaaGreatDoorStrA
set_option linter.all false
namespace Go.Proofs.YtofameafdnkijaaGreatDoor
set_option maxRecDepth 100000
set_option maxHeartbeats 16000000
open Go.RowKit Mx
theorem Zf9:∀ (l:List Ex) (k:Nat) (h:k<l.length),Ex.weightL (l.take (k+1))=Ex.weightL (l.take k)+l[k].weight
 | e :: l,0,_=>by simp [Ex.weightL]
 | e :: l,k+1,h=>by
  have:=Zf9 l k (by simpa using h)
  simp only [List.take_succ_cons,Ex.weightL,List.getElem_cons_succ]
  omega
theorem Ze0:∀ (l:List Ex) (k:Nat),Ex.weightL (l.take k)≤Ex.weightL l
 | [],k=>by simp
 | e :: l,0=>by simp [Ex.weightL]
 | e :: l,k+1=>by
  have:=Ze0 l k
  simp only [List.take_succ_cons,Ex.weightL]
  omega
theorem ex_weight (e:Ex):e.weight=1+e.s.size+Ex.weightL e.l:=by cases e;simp only [Ex.weight,Ex.l,Ex.s]
theorem Zfp:∀ l:List Ex,l.length≤Ex.weightL l
 | []=>Nat.le_refl _
 | e :: l=>by have:=Zfp l;have:=ex_weight e;simp only [Ex.weightL,List.length_cons];omega
theorem Zhg:∀ (a b:List Ex),Ex.weightL (a++b)=Ex.weightL a+Ex.weightL b
 | [],b=>by simp [Ex.weightL]
 | x :: a,b=>by simp only [List.cons_append,Ex.weightL,Zhg a b];omega
theorem partsL_le_w {l:List Ex} (h:∀ e∈l,e.parts≤e.weight):Ex.partsL l≤Ex.weightL l:=by
 induction l with
 | nil=>exact Nat.le_refl _
 | cons e l ih=>
  simp only [Ex.partsL,Ex.weightL]
  have:=h e (List.mem_cons_self ..)
  have:=ih (fun x hx=>h x (List.mem_cons_of_mem _ hx))
  omega
theorem parts_le_weight:∀ e:Ex,e.parts≤e.weight:=by
 refine Ex.ind fun o n s l ih=>?_
 simp only [Ex.parts,Ex.weight]
 have:=partsL_le_w ih
 omega
theorem Zix (l:List Ex):Ex.partsL l≤Ex.weightL l:=partsL_le_w fun e _=>parts_le_weight e
theorem weight_any (H:Kn):∀ (e:Ex) (v:Value),ExV H e v→e.weight≤1000000000000000000→∀ w:World,H.In w→
  Calls Tryz.prog 27 #[v] w fun r w'=>r = .returned (.int .i64 e.weight)∧Below w.heap.size w w':=by
 refine Ex.ind fun o n s l ih v hv hp w hH=>?_
 obtain⟨u,rfl,hu⟩:=hv
 simp only [Ex.op,Ex.n,Ex.s,Ex.l] at hu ⊢
 simp only [Ex.weight] at hp ⊢
 obtain⟨a,cap,rfl⟩:=hu.len
 have HU:=Zhd hu
 have IH:=Zhd ih
 have hll:=Zfp l
 clear hu ih
 go_enter Tryz.func27,Tryz.ntmps27
 go_wp2_with fail
 have hW1:Below w.heap.size w (w.alloc (.cells #[.string o,.int .i64 n,.string s,.slice a l.length cap] 75)):=(Below.refl _ _).alloc (Nat.le_refl _) _
 have hP1:(w.alloc (.cells #[.string o,.int .i64 n,.string s,.slice a l.length cap] 75)).cell? ⟨w.heap.size,3,none⟩=some (.slice a l.length cap):=by rw [World.cell?_alloc_new];rfl
 have hlt1:w.heap.size<(w.alloc (.cells #[.string o,.int .i64 n,.string s,.slice a l.length cap] 75)).heap.size:=by simp
 generalize w.alloc (.cells #[.string o,.int .i64 n,.string s,.slice a l.length cap] 75)=W at *
 have HW1:=Zhd hW1
 have HP1:=Zhd hP1
 clear hW1 hP1
 go_loopw [3,4] (fun c i wr=>∃ k:Nat,i = .int .i64 k∧k≤l.length∧c = .int .i64 ((1+s.size+Ex.weightL (l.take k):Nat):Int)∧Below W.heap.size W wr) (fun _ i _=>l.length - (intOf i).toNat)
 case atStart=>exact⟨0,rfl,Nat.zero_le _,rfl,Below.refl _ _⟩
 obtain⟨k,rfl,hk,rfl,hb⟩:=hrel
 have HB:=Zhd hb
 clear hb
 have hpl:=Ze0 l k
 have p3:wr.cell? ⟨w.heap.size,3,none⟩=some (.slice a l.length cap):=by rw [HB.out.cell (p:=⟨w.heap.size,3,none⟩) hlt1];exact HP1.out
 have hBW:Below w.heap.size w wr:=HW1.out.trans (HB.out.mono HW1.out.size)
 by_cases hkl:k<l.length
 ·obtain⟨b,off,ax,cx,rfl,c0,c1,c2,c3,hx⟩:=HU.out.at hkl
  have hHr:=hH.below hBW
  have c0:=hHr.cell c0
  have c1:=hHr.cell c1
  have c2:=hHr.cell c2
  have c3:=hHr.cell c3
  have hps:=Zf9 l k hkl
  have hpl2:=Ze0 l (k+1)
  have PS:=Zhd hps
  have hpx:l[k].weight≤1000000000000000000:=by omega
  have hmem:=List.getElem_mem hkl
  generalize l[k]=x at *
  have hw1:1+s.size+Ex.weightL (l.take k)+x.weight≤1000000000000000000:=by omega
  clear hps
  go_wp2_with fail
  refine (IH.out x hmem _ hx hpx _ hHr).mono ?_
  rintro r w2 ⟨rfl,hb2⟩
  have hW2:Below W.heap.size W w2:=HB.out.trans (hb2.mono HB.out.size)
  go_wp2_with fail
  go_roundw
  case rel=>exact⟨k+1,by go_num,by omega,by rw [PS.out];go_num,hW2⟩
  simp [intOf];omega
 go_wp2_with fail
 go_ret
 exact⟨Zat (by rw [List.take_of_length_le (by omega)]),hBW⟩
theorem Tryz.infoREx:(Tryz.prog.info? 75).map (fun i=>(i.zero,i.size,i.bytes))=some (some (.agg #[.string ⟨#[]⟩,.int .i64 0,.string ⟨#[]⟩,.slice none 0 0]),4,64):=by kernel_rfl
theorem rwo_append {t T:TypeId} {z:Value} (ht:Tryz.prog.underlying t=some (.slice T)) (hinfo:(Tryz.prog.info? T).map (fun i=>(i.zero,i.size,i.bytes))=some (some z,4,64)) (hz:z.cells.size=4)
  {H K:Kn} {w0 wr:World} {base:Nat} {L:List Ex} {done:Nat} {u:Value} {xs:List Value} (hS:RwO T 4 XsAt H w0 wr base L done u xs K) {l:List Ex} {a:Option Addr} {c:Nat} (hv:ExsV K l (.slice a l.length c)) (hL:L.take (done+l.length)=L.take done++l) (hb:done+l.length≤1000000000000):
  ∃ v' W' xs',(∀ ty,(Builtin.append_ #[t,t] ty #[u,.slice a l.length c]).run Tryz.prog wr = .ok v' W')∧RwO T 4 XsAt H w0 W' base L (done+l.length) v' xs' K:=by
 obtain⟨i,hi,h0,h2,h3⟩:=info_parts hinfo
 by_cases hl:l=[]
 ·subst hl
  exact⟨u,wr,xs,fun ty=>Zbz t T i ht hi (by rw [← h2] at *;exact hS.row) a c ty,hS⟩
 rcases hv with ⟨h,_⟩ | ⟨b,off,cap,he,hc1,hc2,hc3⟩
 ·exact absurd h hl
 cases he
 obtain⟨ys,hy1,hy2⟩:=hc3.xs
 have hlen:0<l.length:=List.length_pos_iff.2 hl
 have hrun:=fun ty=>run_append_lies (P:=Tryz.prog) wr t ty base T i _ 4 64 ht hi h0 h2 h3 hz (by omega) u done xs hS.row ⟨b,off,none⟩ l.length c ys hy1.len (fun j v hj=>by rw [Zdm];exact hS.isin.cell (hy2 j v hj)) hy1.one hlen (by unfold maxLen;omega) (by omega) hS.size wr.heap.size rfl
 obtain⟨g,cap',W',e1,e2,e3,e4,e5⟩:=hrun 0
 refine⟨_,W',xs++ys,fun ty=>?_,hS.step (by rw [hL];exact hS.xs.append hy1) e2 e3 e4⟩
 exact e1
theorem exsV_typed {K:Kn} {w:World} {base:Nat} {t:TypeId} {v:Value} {l:List Ex} {xs:List Value} (hK:K.In w) (h:w.ownsRow base t 4 v l.length xs) (hx:XsAt K l xs) (hr:∀ g,v.ownBlock=some g→K g=none):
  ∃ K',K.le K'∧K'.In w∧ExsV K' l v∧(∀ b,b<base→K' b=K b)∧∀ g ob,K' g=some ob→K g=some ob∨∃ cs,ob = .cells cs t (0,0):=by
 by_cases h0:l=[]
 ·obtain⟨a,c,h1,_⟩:=Zau h
  exact⟨K,Kn.le_refl K,hK,.inl ⟨h0,a,c,by rw [h1,h0];rfl⟩,fun _ _=>rfl,fun _ _ h => .inl h⟩
 rcases h.2 with ⟨_,hz⟩ | ⟨g,cap,cur,h1,h2,h3,h4,h5,_⟩
 ·exact absurd (List.eq_nil_of_length_eq_zero hz) h0
 have hg:K g=none:=hr g (by rw [h1];rfl)
 obtain⟨g',cap',e1,_,_,_,_,hc⟩:=Zbp h (List.length_pos_iff.2 h0)
 rw [h1] at e1
 cases e1
 refine⟨K.add g (.cells cur t (0,0)),Kn.le_add hg,hK.add h3,.inr ⟨g,0,cap,h1,h4,h5,hx.at (Kn.le_add hg) fun j u hj=>?_⟩,fun b hbb=>Kn.add_other K _ (by omega),fun q ob hq=>?_⟩
 ·have h6:=hc j u hj
  simp only [World.cell?,h3] at h6
  unfold Kn.cell
  rw [Kn.add_self,Nat.zero_add]
  simpa using h6
 by_cases e:q=g
 ·subst e
  rw [Kn.add_self] at hq
  cases hq
  exact .inr ⟨_,rfl⟩
 rw [Kn.add_other _ _ e] at hq
 exact .inl hq
theorem rtermsT_any (H:Kn) (p:Pr) (vi vo vl va vc:Value) (hp:PrP H p vi vo vl va vc) (hsz:p.terms.length≤1000000000) (w:World) (hH:H.In w):
  Calls Tryz.prog 26 #[.agg #[vi,vo,vl,va,vc]] w fun r w'=>∃ v K,r = .returned v∧ExsV K p.terms v∧Kn.Step H w K w'∧∀ g ob,K g=some ob→H g=some ob∨∃ cs,ob = .cells cs 75 (0,0):=by
 obtain⟨h1,h2,h3,h4,h5⟩:=hp
 obtain⟨ai,ci,rfl⟩:=h1.len
 obtain⟨ao,co,rfl⟩:=h2.len
 obtain⟨al,cl,rfl⟩:=h3.len
 obtain⟨aa,ca,rfl⟩:=h4.len
 obtain⟨ac,cc,rfl⟩:=h5.len
 have hlen:p.terms.length=p.fl.length+p.as.length+p.cs.length:=by simp [Pr.terms];omega
 have H3:=Zhd h3
 have H4:=Zhd h4
 have H5:=Zhd h5
 clear h1 h2 h3 h4 h5
 go_enter Tryz.func26,Tryz.ntmps26
 go_wp2_with fail
 have hq:∀ i,(w.alloc (.cells #[.slice ai p.ins.length ci,.slice ao p.outs.length co,.slice al p.fl.length cl,.slice aa p.as.length ca,.slice ac p.cs.length cc] 27)).cell? ⟨w.heap.size,i,none⟩=(#[.slice ai p.ins.length ci,.slice ao p.outs.length co,.slice al p.fl.length cl,.slice aa p.as.length ca,.slice ac p.cs.length cc]:Array Value)[i]?:=fun i=>World.cell?_alloc_new _ _ _ _
 have hb0:Below w.heap.size w (w.alloc (.cells #[.slice ai p.ins.length ci,.slice ao p.outs.length co,.slice al p.fl.length cl,.slice aa p.as.length ca,.slice ac p.cs.length cc] 27)):=(Below.refl _ _).alloc (Nat.le_refl _) _
 have hlt1:w.heap.size<(w.alloc (.cells #[.slice ai p.ins.length ci,.slice ao p.outs.length co,.slice al p.fl.length cl,.slice aa p.as.length ca,.slice ac p.cs.length cc] 27)).heap.size:=by simp
 generalize w.alloc (.cells #[.slice ai p.ins.length ci,.slice ao p.outs.length co,.slice al p.fl.length cl,.slice aa p.as.length ca,.slice ac p.cs.length cc] 27)=W1 at *
 have q2:=Zhd (show W1.cell? ⟨w.heap.size,2,none⟩=some (.slice al p.fl.length cl) from hq 2)
 have q3:=Zhd (show W1.cell? ⟨w.heap.size,3,none⟩=some (.slice aa p.as.length ca) from hq 3)
 have q4:=Zhd (show W1.cell? ⟨w.heap.size,4,none⟩=some (.slice ac p.cs.length cc) from hq 4)
 have HB0:=Zhd hb0
 have HS0:=Zhd (show RwO 75 4 XsAt H W1 W1 W1.heap.size p.terms 0 (.slice none 0 0) [] H from
  ⟨Kn.le_refl H,fun _ _=>rfl,hH.below hb0,Below.refl _ _,Nat.le_refl _,World.ownsRow_nil _ _ _ _,rfl,fun g hg=>by simp [Value.ownBlock] at hg⟩)
 clear hq hb0
 go_loopw [3,4] (fun u i wr=>∃ (k:Nat) (xs:List Value),i = .int .i64 k∧k≤p.fl.length∧RwO 75 4 XsAt H W1 wr W1.heap.size p.terms k u xs H) (fun _ i _=>p.fl.length - (intOf i).toNat)
 case atStart=>exact⟨0,_,rfl,Nat.zero_le _,HS0.out⟩
 obtain⟨k,xs,rfl,hk,hS⟩:=hrel
 have HS:=Zhd hS
 obtain⟨au,cu,rfl,_⟩:=Zau hS.row
 have hbl:=hS.below
 clear hS
 have e2:wr.cell? ⟨w.heap.size,2,none⟩=some (.slice al p.fl.length cl):=by rw [hbl.cell (p:=⟨w.heap.size,2,none⟩) hlt1];exact q2.out
 have e3:wr.cell? ⟨w.heap.size,3,none⟩=some (.slice aa p.as.length ca):=by rw [hbl.cell (p:=⟨w.heap.size,3,none⟩) hlt1];exact q3.out
 have e4:wr.cell? ⟨w.heap.size,4,none⟩=some (.slice ac p.cs.length cc):=by rw [hbl.cell (p:=⟨w.heap.size,4,none⟩) hlt1];exact q4.out
 clear hbl
 by_cases hkl:k<p.fl.length
 ·obtain⟨b,off,cap0,he,_,_,hcs⟩:=FlsV.cell H3.out (fun e=>by rw [e] at hkl;simp at hkl)
  cases he
  obtain⟨ax,cx,d0,d1,d2,d3,d4,d5,hx⟩:=hcs k hkl
  have d2:=HS.out.isin.cell d2
  have d3:=HS.out.isin.cell d3
  have d4:=HS.out.isin.cell d4
  have d5:=HS.out.isin.cell d5
  have hxe:∃ x,p.fl[k]=x:=⟨_,rfl⟩
  obtain⟨x,hxe⟩:=hxe
  have hT:p.terms.take (k+1)=p.terms.take k++[x.e]:=by
   have hkt:k<p.terms.length:=by omega
   rw [Zb2 _ _ hkt]
   congr 2
   simp only [Pr.terms,List.append_assoc]
   rw [List.getElem_append_left (by simpa using hkl)]
   simp [hxe]
  rw [hxe] at d2 d3 d4 d5 hx
  have HT:=Zhd hT
  have HX:=Zhd hx
  clear hxe hcs hx hT d0 d1
  have HS2:=Zhd (HS.out.alloc (.cells #[.string x.e.op,.int .i64 x.e.n,.string x.e.s,.slice ax x.e.l.length cx] 75))
  go_wp2_with (at_builtin;refine Zi9 25 75 4 64 _ Tryz.underlying25 Tryz.infoREx rfl (by decide) _ _ rfl rfl W1.heap.size _ _ _ rfl HS2.out.row ⟨wr.heap.size,0,none⟩ 1 [.string x.e.op,.int .i64 x.e.n,.string x.e.s,.slice ax x.e.l.length cx] rfl rfl ?c1 ?c2 ?c3 ?c4 ?c5 ?_)
  case c1=>exact cells4 _ _ _ _ _ _
  case c2=>simp [Value.oneCell']
  case c3=>omega
  case c4=>omega
  case c5=>exact HS2.out.size
  intro g cap' w3 ho hg3 hat
  have HS3:=Zhd (RwO.step (n':=1) HS2.out (by rw [HT.out];exact HS2.out.xs.append ⟨ax,cx,[],rfl,HX.out,rfl⟩) ho hg3 (by rw [World.size_alloc];exact hat))
  go_wp2_with fail
  go_roundw
  case rel=>exact⟨k+1,_,by go_num,by omega,HS3.out⟩
  simp [intOf];omega
 obtain rfl:k=p.fl.length:=by omega
 have t1:p.terms.take (p.fl.length+p.as.length)=p.terms.take p.fl.length++p.as:=by
  unfold Pr.terms
  rw [List.append_assoc]
  have e1:p.fl.length=(p.fl.map (·.e)).length:=by simp
  rw [e1,List.take_length_add_append,List.take_left]
  rw [List.take_left]
 have t2:p.terms.take (p.fl.length+p.as.length+p.cs.length)=p.terms.take (p.fl.length+p.as.length)++p.cs:=by
  rw [t1,List.take_of_length_le (by omega)]
  unfold Pr.terms
  have e1:p.fl.length=(p.fl.map (·.e)).length:=by simp
  rw [e1,List.append_assoc,List.take_left,List.append_assoc]
 obtain⟨v2,w2,xs2,hr2,hS2⟩:=rwo_append Tryz.underlying25 Tryz.infoREx rfl HS.out H4.out t1 (by omega)
 obtain⟨a2,c2,rfl,_⟩:=Zau hS2.row
 obtain⟨v3,w3,xs3,hr3,hS3⟩:=rwo_append Tryz.underlying25 Tryz.infoREx rfl hS2 H5.out t2 (by omega)
 obtain⟨a3,c3,rfl,_⟩:=Zau hS3.row
 have g4:w2.cell? ⟨w.heap.size,4,none⟩=some (.slice ac p.cs.length cc):=by rw [hS2.below.cell (p:=⟨w.heap.size,4,none⟩) hlt1];exact q4.out
 have hxs:=hS3.xs
 rw [List.take_of_length_le (by omega)] at hxs
 obtain⟨K',hle,hin,hv,hfr,hty⟩:=exsV_typed (l:=p.terms) hS3.isin (by rw [hlen];exact hS3.row) hxs hS3.noR
 have HTY:=Zhd hty
 have HST:=Zhd (show Kn.Step H w K' w3 from⟨hle,fun b hb=>hfr b (by have:=HB0.out.size;omega),hin,HB0.out.trans (hS3.below.mono HB0.out.size)⟩)
 have HV:=Zhd hv
 clear hv hin hfr hle hxs hS2 hS3 t1 t2 hty
 go_wp2_with (at_builtin;first | refine Zb1 rfl _ _ _ _ rfl _ _ rfl rfl _ _ hr2 ?_ | refine Zb1 rfl _ _ _ _ rfl _ _ rfl rfl _ _ hr3 ?_)
 go_ret
 exact⟨_,K',rfl,HV.out,HST.out,HTY.out⟩
theorem rterms_any (H:Kn) (p:Pr) (vi vo vl va vc:Value) (hp:PrP H p vi vo vl va vc) (hsz:p.terms.length≤1000000000) (w:World) (hH:H.In w):
  Calls Tryz.prog 26 #[.agg #[vi,vo,vl,va,vc]] w fun r w'=>∃ v K,r = .returned v∧ExsV K p.terms v∧Kn.Step H w K w':=
 (rtermsT_any H p vi vo vl va vc hp hsz w hH).mono fun _ _ ⟨v,K,h1,h2,h3,_⟩=>⟨v,K,h1,h2,h3⟩
def heavy (p:Pr):Bool:=decide (1500<Ex.weightL p.terms) || decide (100<p.fl.length) || decide (40<p.ins.length)
def heavyI (p:Pr):Int:=if heavy p then 1 else 0
theorem heavy_any (H:Kn) (p:Pr) (vi vo vl va vc:Value) (hp:PrP H p vi vo vl va vc) (hsz:Ex.weightL p.terms≤1000000000∧p.fl.length≤1000000000∧p.ins.length≤1000000000) (w:World) (hH:H.In w):
  Calls Tryz.prog 6 #[.agg #[vi,vo,vl,va,vc]] w fun r w'=>r = .returned (.int .i64 (heavyI p))∧Below w.heap.size w w':=by
 have HP:=Zhd hp
 obtain⟨h1,h2,h3,h4,h5⟩:=hp
 obtain⟨ai,ci,rfl⟩:=h1.len
 obtain⟨ao,co,rfl⟩:=h2.len
 obtain⟨al,cl,rfl⟩:=h3.len
 obtain⟨aa,ca,rfl⟩:=h4.len
 obtain⟨ac,cc,rfl⟩:=h5.len
 clear h1 h2 h3 h4 h5
 obtain⟨s1,s2,s3⟩:=hsz
 have hll:=Zfp p.terms
 go_enter Tryz.func6,Tryz.ntmps6
 have hq:∀ i,(w.alloc (.cells #[.slice ai p.ins.length ci,.slice ao p.outs.length co,.slice al p.fl.length cl,.slice aa p.as.length ca,.slice ac p.cs.length cc] 27)).cell? ⟨w.heap.size,i,none⟩=(#[.slice ai p.ins.length ci,.slice ao p.outs.length co,.slice al p.fl.length cl,.slice aa p.as.length ca,.slice ac p.cs.length cc]:Array Value)[i]?:=fun i=>World.cell?_alloc_new _ _ _ _
 have hb0:Below w.heap.size w (w.alloc (.cells #[.slice ai p.ins.length ci,.slice ao p.outs.length co,.slice al p.fl.length cl,.slice aa p.as.length ca,.slice ac p.cs.length cc] 27)):=(Below.refl _ _).alloc (Nat.le_refl _) _
 have hlt1:w.heap.size<(w.alloc (.cells #[.slice ai p.ins.length ci,.slice ao p.outs.length co,.slice al p.fl.length cl,.slice aa p.as.length ca,.slice ac p.cs.length cc] 27)).heap.size:=by simp
 go_wp2_with fail
 generalize w.alloc (.cells #[.slice ai p.ins.length ci,.slice ao p.outs.length co,.slice al p.fl.length cl,.slice aa p.as.length ca,.slice ac p.cs.length cc] 27)=W1 at *
 have HQ:=Zhd hq
 have HB0:=Zhd hb0
 clear hq hb0
 refine (rterms_any H p _ _ _ _ _ HP.out (by omega) W1 (hH.below HB0.out)).mono ?_
 rintro r w2 ⟨v,K,rfl,hv,hst⟩
 obtain⟨a,c,rfl⟩:=hv.len
 have HV:=Zhd hv
 have HST:=Zhd hst
 have HB2:=Zhd (HB0.out.trans (hst.below.mono HB0.out.size))
 have q0:=Zhd (show w2.cell? ⟨w.heap.size,0,none⟩=some (.slice ai p.ins.length ci) by rw [hst.below.cell (p:=⟨w.heap.size,0,none⟩) hlt1];exact HQ.out 0)
 have q2:=Zhd (show w2.cell? ⟨w.heap.size,2,none⟩=some (.slice al p.fl.length cl) by rw [hst.below.cell (p:=⟨w.heap.size,2,none⟩) hlt1];exact HQ.out 2)
 have hlt2:w.heap.size<w2.heap.size:=Nat.lt_of_lt_of_le hlt1 hst.below.size
 clear hv hst
 go_wp2_with fail
 go_loopw [4,5] (fun n i wr=>∃ k:Nat,i = .int .i64 k∧k≤p.terms.length∧n = .int .i64 (Ex.weightL (p.terms.take k):Nat)∧Below w2.heap.size w2 wr) (fun _ i _=>p.terms.length - (intOf i).toNat)
 case atStart=>exact⟨0,rfl,Nat.zero_le _,rfl,Below.refl _ _⟩
 obtain⟨k,rfl,hk,rfl,hb⟩:=hrel
 have HB:=Zhd hb
 have e0:wr.cell? ⟨w.heap.size,0,none⟩=some (.slice ai p.ins.length ci):=by rw [hb.cell (p:=⟨w.heap.size,0,none⟩) hlt2];exact q0.out
 have e2:wr.cell? ⟨w.heap.size,2,none⟩=some (.slice al p.fl.length cl):=by rw [hb.cell (p:=⟨w.heap.size,2,none⟩) hlt2];exact q2.out
 clear hb
 have hpl:=Ze0 p.terms k
 by_cases hkl:k<p.terms.length
 ·obtain⟨b,off,ax,cx,rfl,c0,c1,c2,c3,hx⟩:=HV.out.at hkl
  have hHr:=HST.out.isin.below HB.out
  have c0:=hHr.cell c0
  have c1:=hHr.cell c1
  have c2:=hHr.cell c2
  have c3:=hHr.cell c3
  have hps:=Zf9 p.terms k hkl
  have hpl2:=Ze0 p.terms (k+1)
  have PS:=Zhd hps
  have hpx:p.terms[k].weight≤1000000000000000000:=by omega
  have hw1:Ex.weightL (p.terms.take k)+p.terms[k].weight≤1000000000:=by omega
  clear hps
  generalize p.terms[k]=x at *
  go_wp2_with fail
  refine (weight_any K x _ hx hpx _ hHr).mono ?_
  rintro r w3 ⟨rfl,hb3⟩
  have hW3:=HB.out.trans (hb3.mono HB.out.size)
  go_wp2_with fail
  go_roundw
  case rel=>exact⟨k+1,by go_num,by omega,by rw [PS.out];go_num,hW3⟩
  simp [intOf];omega
 obtain rfl:k=p.terms.length:=by omega
 have HF:=Zhd (HB2.out.trans (HB.out.mono HB2.out.size))
 rw [List.take_of_length_le (Nat.le_refl _)]
 have hd:heavy p=(decide (1500<Ex.weightL p.terms) || decide (100<p.fl.length) || decide (40<p.ins.length)):=rfl
 have HD:=Zhd hd
 clear hd
 by_cases d1:1500<Ex.weightL p.terms
 ·go_wp2_with fail
  go_ret
  exact⟨Zat (by unfold heavyI;rw [HD.out];simp [d1]),HF.out⟩
 by_cases d2:100<p.fl.length
 ·go_wp2_with fail
  go_ret
  exact⟨Zat (by unfold heavyI;rw [HD.out];simp [d2]),HF.out⟩
 by_cases d3:40<p.ins.length
 ·go_wp2_with fail
  go_ret
  exact⟨Zat (by unfold heavyI;rw [HD.out];simp [d3]),HF.out⟩
 go_wp2_with fail
 go_ret
 exact⟨Zat (by unfold heavyI;rw [HD.out];simp [d1,d2,d3]),HF.out⟩
open Go.ChangeShapes Go.WideShapes Go.ChangeAt Go.RowKit Go.Deep Mx
open Go.Joins (trod_struct4)
theorem Zio {H:Type} (d:DataW H):1≤Rows.uptoBulk d:=by
 cases d with
 | lit l=>cases l<;>simp [Rows.uptoBulk]
 | nil=>simp [Rows.uptoBulk]
 | ptr d=>simp [Rows.uptoBulk]
 | slice elems spare=>simp [Rows.uptoBulk]
 | agg parts=>simp [Rows.uptoBulk]
 | iface t d=>simp [Rows.uptoBulk]
 | map entries=>simp [Rows.uptoBulk]
 | held h=>simp [Rows.uptoBulk]
theorem bulk_part {H:Type} {d:DataW H} {l:List (DataW H)} (h:d∈l):Rows.uptoBulk d≤Rows.uptoBulkAll l:=by
 induction l with
 | nil=>cases h
 | cons x r ih=>
  simp only [Rows.uptoBulkAll]
  rcases List.mem_cons.1 h with e | e
  ·subst e;omega
  have:=ih e;omega
theorem bulk_sum {H α:Type} (f:Nat→α) (wt:α→Nat) (D:Nat→DataW H):∀ L:List Nat,(∀ i∈L,wt (f i)≤Rows.uptoBulk (D i))→((L.map f).map wt).sum≤Rows.uptoBulkAll (L.map D)
 | [],_=>by simp
 | i :: L,h=>by
  have h1:=h i (List.mem_cons_self ..)
  have h2:=bulk_sum f wt D L fun j hj=>h j (List.mem_cons_of_mem _ hj)
  simp only [List.map_cons,List.sum_cons,Rows.uptoBulkAll]
  omega
theorem rd_add (b off j:Nat):(⟨b,off,none⟩:Addr).add j=⟨b,off+j,none⟩:=by unfold Addr.add;split<;>simp_all
theorem Zjp {H:Kn}:∀ {l:List Ex} {b off:Nat},(∀ i (h:i<l.length),ExAt H l[i] (fun j=>H.cell b (off+i * 4+j)))→Zcw H l b off
 | [],_,_,_=>by simp only [Zcw]
 | e :: l,b,off,h=>by
  simp only [Zcw]
  refine⟨by have h0:=h 0 (by simp);simp only [Nat.zero_mul,Nat.add_zero] at h0;exact h0,Zjp fun i hi=>?_⟩
  have:=h (i+1) (by simpa using hi)
  rw [show off+4+i * 4=off+(i+1) * 4 from by omega]
  exact this
theorem Zi4 {H:Kn} {l:List Ex} {v:Value} (h:SlV H 4 (ExAt H) l v):ExsV H l v:=
 h.imp id fun⟨b,off,cap,h1,h2,h3,h4⟩=>⟨b,off,cap,h1,h2,h3,Zjp h4⟩
theorem Zir:∀ l:List Ex,(l.map Ex.weight).sum=Ex.weightL l
 | []=>rfl
 | e :: l=>by simp only [List.map_cons,List.sum_cons,Ex.weightL,Zir l]
theorem sum_weightF:∀ l:List Fl,(l.map fun x=>x.e.weight).sum=Ex.weightL (l.map (·.e))
 | []=>rfl
 | e :: l=>by simp only [List.map_cons,List.sum_cons,Ex.weightL,sum_weightF l]
theorem Zjv {α:Type}:∀ l:List α,(l.map fun _=>1).sum=l.length
 | []=>rfl
 | e :: l=>by simp only [List.map_cons,List.sum_cons,List.length_cons,Zjv l];omega
instance:Inhabited Ex:=⟨.mk ⟨#[]⟩ 0 ⟨#[]⟩ []⟩
instance:Inhabited Vr:=⟨⟨⟨#[]⟩,0⟩⟩
instance:Inhabited Fl:=⟨⟨⟨#[]⟩,0,default⟩⟩
section
variable {H : Type} {enc : TypeId × Value → H} {W : World} {spare : Nat → Bool} {held : Bool}
theorem Zdf {α:Type} [Inhabited α] {t e:TypeId} {k:Nat} (ht:Tryz.prog.underlying t=some (.slice e)) (hk:Tryz.prog.cellsOf e=k) (h0:0<k) (R:α→(Nat→Option Value)→Prop) (hR:∀ x f g,(∀ j u,f j=some u→g j=some u)→R x f→R x g) (hS:∀ x f,R x f→∀ (a:Addr) (W:World),W.cell? a=f 0→a.spot=none) (wt:α→Nat) (B:Nat)
  (hel:∀ n cs (y:DataW H×List MemPlace),DataW.trod enc Tryz.prog W 0 spare held n e cs=some y→Rows.uptoBulk y.1<B→∃ x,R x (fun j=>cs[j]?)∧wt x≤Rows.uptoBulk y.1)
  {n:Nat} {cs:List Value} {y:DataW H×List MemPlace} (h:DataW.trod enc Tryz.prog W 0 spare held n t cs=some y) (hB:Rows.uptoBulk y.1≤B):
  ∃ l v,cs=[v]∧SlV (Zai W) k R l v∧(l.map wt).sum<Rows.uptoBulk y.1:=by
 rcases open_slice ht h with ⟨rfl,rfl⟩ | ⟨a,len,cap,m,n,D,Pl,rfl,hb,hlc,hcm,hm,rfl,hx⟩
 ·exact⟨[],_,rfl,.inl ⟨rfl,_,_,rfl⟩,by simp [Rows.uptoBulk]⟩
 have hlm:len≤m:=by rw [hm];split<;>omega
 rw [hk] at hx
 have hBd:Rows.uptoBulk (DataW.slice ((List.range len).map D) ((List.range (m - len)).map fun j=>D (len+j)))=Rows.uptoBulkAll ((List.range len).map D)+Rows.uptoBulkAll ((List.range (m - len)).map fun j=>D (len+j))+1:=by simp only [Rows.uptoBulk]
 dsimp only at hB ⊢
 rw [hBd] at hB ⊢
 obtain⟨f,hf⟩:=choose_lt (p:=fun i (x:α)=>(∃ cs',W.cells? 0 (a.add (i * k)) k=some cs'∧R x (fun j=>cs'[j]?))∧wt x≤Rows.uptoBulk (D i)) (n:=len) (fun i hi=>by
  obtain⟨cs',h1,h2⟩:=hx i (by omega)
  have hp:=bulk_part (d:=D i) (l:=(List.range len).map D) (List.mem_map.2 ⟨i,List.mem_range.2 hi,rfl⟩)
  obtain⟨x,hr,hw⟩:=hel _ _ _ h2 (by dsimp only;omega)
  exact⟨x,⟨cs',h1,hr⟩,hw⟩)
 have hsum:=bulk_sum f wt D (List.range len) fun i hi=>(hf i (List.mem_range.1 hi)).2
 refine⟨(List.range len).map f,_,rfl,?_,by omega⟩
 by_cases hl0:len=0
 ·subst hl0
  exact .inl ⟨rfl,_,_,rfl⟩
 have hsp:a.spot=none:=by
  obtain⟨cs',h1,hr⟩:=(hf 0 (by omega)).1
  obtain⟨_,_,hc⟩:=World.cells?_some h1
  have h2:=hc 0 h0
  have e0:(a.add (0 * k)).add 0=a:=by simp [Addr.add]
  rw [e0] at h2
  exact hS _ _ hr a W h2
 obtain⟨b,off,sp⟩:=a
 dsimp only at hsp
 subst hsp
 refine .inr ⟨b,off,cap,by simp,by simpa using hlc,hcm,fun i hi=>?_⟩
 have hi':i<len:=by simpa using hi
 obtain⟨cs',h1,hr⟩:=(hf i hi').1
 obtain⟨_,hlen,hc⟩:=World.cells?_some h1
 rw [show ((List.range len).map f)[i]=f i from by simp]
 refine hR _ _ _ (fun j u hju=>?_) hr
 have hj:j<k:=by
  rcases Nat.lt_or_ge j cs'.length with hlt | hge
  ·omega
  rw [List.getElem?_eq_none hge] at hju;cases hju
 have h2:=hc j hj
 rw [hju,rd_add,rd_add] at h2
 rw [Zap]
 exact h2
theorem Zj6:Tryz.prog.cellsOf 9=1:=by kernel_rfl
theorem Zin:Tryz.prog.cellsOf 3=1:=by kernel_rfl
theorem cellsEx:Tryz.prog.cellsOf 75=4:=by kernel_rfl
theorem cellsVr:Tryz.prog.cellsOf 139=2:=by kernel_rfl
theorem cellsFl:Tryz.prog.cellsOf 94=6:=by kernel_rfl
theorem cellsExs:Tryz.prog.cellsOf 25=1:=by kernel_rfl
theorem cellsVrs:Tryz.prog.cellsOf 22=1:=by kernel_rfl
theorem cellsFls:Tryz.prog.cellsOf 24=1:=by kernel_rfl
theorem cellsStrs:Tryz.prog.cellsOf 23=1:=by kernel_rfl
theorem cellsPr:Tryz.prog.cellsOf 27=5:=by kernel_rfl
theorem read_ex:∀ (B n:Nat) (cs:List Value) (y:DataW H×List MemPlace),DataW.trod enc Tryz.prog W 0 spare held n 75 cs=some y→Rows.uptoBulk y.1≤B→∃ e:Ex,ExAt (Zai W) e (fun j=>cs[j]?)∧e.weight≤Rows.uptoBulk y.1:=by
 intro B
 induction B with
 | zero=>intro n cs y _ hB;have:=Zio y.1;omega
 | succ B ih=>
  intro n cs y h hB
  obtain⟨y0,y1,y2,y3,m,rfl,hl,h0,h1,h2,h3⟩:=trod_struct4 Tryz.underlying75 h
  rw [cellsEx] at hl
  match cs,hl with
  | [a,b,c,d],_=>
   dsimp only at h0 h1 h2 h3 hB
   rw [Zj6] at h0 h2
   rw [Zin] at h1
   rw [cellsExs] at h3
   obtain⟨s0,e0,f0,_⟩:=DataW.trod_string Tryz.underlying9 h0
   obtain⟨k,e1,f1,_⟩:=DataW.trod_int Tryz.underlying3 h1
   obtain⟨s2,e2,f2,_⟩:=DataW.trod_string Tryz.underlying9 h2
   have e0' : [a]=[Value.string s0]:=e0
   have e1' : [b]=[Value.int .i64 k]:=e1
   have e2' : [c]=[Value.string s2]:=e2
   cases e0'
   cases e1'
   cases e2'
   simp only [Rows.uptoBulk,Rows.uptoBulkAll] at hB
   obtain⟨l,v,e3,hs,hw⟩:=Zdf Tryz.underlying25 cellsEx (by omega) (ExAt (Zai W)) (fun x f g hfg hx=>ExAt.le (fun _ _ q=>q) x f g hfg hx) (fun x f hx a W h=>by obtain⟨u,q,_⟩:=hx.cells;exact Zff (h.trans q)) Ex.weight B (fun n cs y hy hlt=>ih n cs y hy (by omega)) h3 (by omega)
   have e3' : [d]=[v]:=e3
   cases e3'
   refine⟨.mk s0 k s2 l,ExAt.mk rfl rfl rfl rfl (Zi4 hs),?_⟩
   rw [Zir] at hw
   rw [f2]
   have hsz:s2.data.toList.length=s2.size:=by rw [Array.length_toList];rfl
   simp only [Rows.uptoBulk,Rows.uptoBulkAll,Ex.weight]
   omega
theorem read_vr (n:Nat) (cs:List Value) (y:DataW H×List MemPlace) (h:DataW.trod enc Tryz.prog W 0 spare held n 139 cs=some y):∃ x:Vr,VrC x (fun j=>cs[j]?)∧1≤Rows.uptoBulk y.1:=by
 obtain⟨y0,y1,m,rfl,hl,h0,h1⟩:=trod_struct2 Tryz.underlying139 h
 rw [cellsVr] at hl
 match cs,hl with
 | [a,b],_=>
  dsimp only at h0 h1
  rw [Zj6] at h0
  rw [Zin] at h1
  obtain⟨s0,e0,f0,_⟩:=DataW.trod_string Tryz.underlying9 h0
  obtain⟨k,e1,f1,_⟩:=DataW.trod_int Tryz.underlying3 h1
  have e0' : [a]=[Value.string s0]:=e0
  have e1' : [b]=[Value.int .i64 k]:=e1
  cases e0'
  cases e1'
  exact⟨⟨s0,k⟩,⟨rfl,rfl⟩,Zio _⟩
theorem read_fl (n:Nat) (cs:List Value) (y:DataW H×List MemPlace) (h:DataW.trod enc Tryz.prog W 0 spare held n 94 cs=some y):∃ x:Fl,FlC (Zai W) x (fun j=>cs[j]?)∧x.e.weight≤Rows.uptoBulk y.1:=by
 obtain⟨y0,y1,y2,m,rfl,hl,h0,h1,h2⟩:=trod_struct3 Tryz.underlying94 h
 rw [cellsFl] at hl
 match cs,hl with
 | [a,b,c,d,e,f],_=>
  dsimp only at h0 h1 h2
  rw [Zj6] at h0
  rw [Zin] at h1
  rw [cellsEx] at h2
  obtain⟨s0,e0,f0,_⟩:=DataW.trod_string Tryz.underlying9 h0
  obtain⟨k,e1,f1,_⟩:=DataW.trod_int Tryz.underlying3 h1
  have e0' : [a]=[Value.string s0]:=e0
  have e1' : [b]=[Value.int .i64 k]:=e1
  cases e0'
  cases e1'
  obtain⟨x,hx,hw⟩:=read_ex _ _ _ _ h2 (Nat.le_refl _)
  refine⟨⟨s0,k,x⟩,⟨rfl,rfl,ExAt.le (fun _ _ q=>q) _ _ _ (fun j u hj=>?_) hx⟩,?_⟩
  ·match j,hj with
   | 0,hj=>exact hj
   | 1,hj=>exact hj
   | 2,hj=>exact hj
   | 3,hj=>exact hj
  simp only [Rows.uptoBulk,Rows.uptoBulkAll]
  omega
theorem trod_struct5 {t:TypeId} {f0 f1 f2 f3 f4:Field} {fuel:Nat} {cs:List Value} {x:DataW H×List MemPlace} (ht:Tryz.prog.underlying t=some (.struct #[f0,f1,f2,f3,f4])) (h:DataW.trod enc Tryz.prog W 0 spare held fuel t cs=some x):
  ∃ y0 y1 y2 y3 y4 n,x.1 = .agg [y0.1,y1.1,y2.1,y3.1,y4.1]∧cs.length=Tryz.prog.cellsOf t∧DataW.trod enc Tryz.prog W 0 spare held n f0.type ((cs.drop f0.offset).take (Tryz.prog.cellsOf f0.type))=some y0∧
   DataW.trod enc Tryz.prog W 0 spare held n f1.type ((cs.drop f1.offset).take (Tryz.prog.cellsOf f1.type))=some y1∧DataW.trod enc Tryz.prog W 0 spare held n f2.type ((cs.drop f2.offset).take (Tryz.prog.cellsOf f2.type))=some y2∧
   DataW.trod enc Tryz.prog W 0 spare held n f3.type ((cs.drop f3.offset).take (Tryz.prog.cellsOf f3.type))=some y3∧DataW.trod enc Tryz.prog W 0 spare held n f4.type ((cs.drop f4.offset).take (Tryz.prog.cellsOf f4.type))=some y4:=by
 obtain⟨xs,n,_,rfl,hl,hlen,hf⟩:=DataW.trod_struct ht h
 match xs,hlen with
 | [y0,y1,y2,y3,y4],_=>exact⟨y0,y1,y2,y3,y4,n,by simp,hl,by simpa using hf 0 f0 rfl,by simpa using hf 1 f1 rfl,by simpa using hf 2 f2 rfl,by simpa using hf 3 f3 rfl,by simpa using hf 4 f4 rfl⟩
theorem read_prog {r:Reach} {b0:Nat} {v:Value} {d:DataW H} {ps:List MemPlace} (hval:Value.okWide Tryz.prog W r b0 27 v) (h:DataW.Trod enc Tryz.prog W 0 spare held 27 v d ps) {B:Nat} (hk:Rows.uptoBulk d≤B):
  ∃ p vi vo vl va vc,v = .agg #[vi,vo,vl,va,vc]∧PrP (Zai W) p vi vo vl va vc∧p.ins.length≤B∧p.outs.length≤B∧Ex.weightL p.terms≤B:=by
 obtain⟨cs,rfl,hsz⟩:=okWide_struct Tryz.underlying27 hval
 rw [cellsPr] at hsz
 obtain⟨fuel,hf⟩:=h
 obtain⟨cs⟩:=cs
 match cs,hsz with
 | [vi,vo,vl,va,vc],_=>
  have hf':DataW.trod enc Tryz.prog W 0 spare held fuel 27 [vi,vo,vl,va,vc]=some (d,ps):=hf
  obtain⟨y0,y1,y2,y3,y4,m,hd,_,h0,h1,h2,h3,h4⟩:=trod_struct5 Tryz.underlying27 hf'
  dsimp only at hd h0 h1 h2 h3 h4
  subst hd
  rw [cellsVrs] at h0
  rw [cellsStrs] at h1
  rw [cellsFls] at h2
  rw [cellsExs] at h3 h4
  have hle:∀ x:Ex,∀ f g,(∀ j u,f j=some u→g j=some u)→ExAt (Zai W) x f→ExAt (Zai W) x g:=fun x f g hfg hx=>ExAt.le (fun _ _ q=>q) x f g hfg hx
  have hst:∀ (x:Ex) f,ExAt (Zai W) x f→∀ (a:Addr) (W:World),W.cell? a=f 0→a.spot=none:=fun x f hx a W h=>by obtain⟨u,q,_⟩:=hx.cells;exact Zff (h.trans q)
  obtain⟨li,ui,e0,s0,w0⟩:=Zdf Tryz.underlying22 cellsVr (by omega) VrC VrC.mono (fun x f hx a W h=>Zff (h.trans hx.1)) (fun _=>1) _ (fun n cs y hy _=>read_vr n cs y hy) h0 (Nat.le_refl _)
  obtain⟨lo,uo,e1,s1,w1⟩:=Zdf Tryz.underlying23 Zj6 (by omega) StrC StrC.mono (fun x f hx a W h=>Zff (h.trans hx)) (fun _=>1) _ (fun n cs y hy _=>by
   obtain⟨s,e,_⟩:=DataW.trod_string Tryz.underlying9 hy
   subst e
   exact⟨s,rfl,Zio _⟩) h1 (Nat.le_refl _)
  obtain⟨ll,ul,e2,s2,w2⟩:=Zdf Tryz.underlying24 cellsFl (by omega) (FlC (Zai W)) (FlC.mono (fun _ _ q=>q)) (fun x f hx a W h=>Zff (h.trans hx.1)) (fun x=>x.e.weight) _ (fun n cs y hy _=>read_fl n cs y hy) h2 (Nat.le_refl _)
  obtain⟨la,ua,e3,s3,w3⟩:=Zdf Tryz.underlying25 cellsEx (by omega) (ExAt (Zai W)) hle hst Ex.weight _ (fun n cs y hy _=>read_ex _ n cs y hy (Nat.le_refl _)) h3 (Nat.le_refl _)
  obtain⟨lc,uc,e4,s4,w4⟩:=Zdf Tryz.underlying25 cellsEx (by omega) (ExAt (Zai W)) hle hst Ex.weight _ (fun n cs y hy _=>read_ex _ n cs y hy (Nat.le_refl _)) h4 (Nat.le_refl _)
  have e0' : [vi]=[ui]:=e0
  have e1' : [vo]=[uo]:=e1
  have e2' : [vl]=[ul]:=e2
  have e3' : [va]=[ua]:=e3
  have e4' : [vc]=[uc]:=e4
  cases e0'
  cases e1'
  cases e2'
  cases e3'
  cases e4'
  rw [Zjv] at w0 w1
  rw [sum_weightF] at w2
  rw [Zir] at w3 w4
  simp only [Rows.uptoBulk,Rows.uptoBulkAll] at hk
  refine⟨⟨li,lo,ll,la,lc⟩,vi,vo,vl,va,vc,rfl,⟨s0,s1,s2,Zi4 s3,Zi4 s4⟩,by dsimp only;omega,by dsimp only;omega,?_⟩
  simp only [Pr.terms,Zhg]
  omega
end
theorem Zd7 {P:Program} {w:World} {ls:List (List UInt8)} {t e fuel:Nat} {cs:List Value} {p:List MemPlace} (h4:DataW.trod (fun _=>()) P w 0 (fun _=>true) false fuel t cs=some (.slice (ls.map fun l => .lit (.string l)) [],p))
  (hs:P.underlying t=some (.slice e)) (he:P.underlying e=some .string) (hce:P.cellsOf e=1) (hne:ls≠[]):∃ v,cs=[v]∧Zfg (Zai w) v (ls.map fun l=>⟨l.toArray⟩):=by
 rcases open_strings hs he hce h4 with ⟨rfl,hx⟩ | ⟨a,len,cap,ss,rfl,_,hlc,hcm,hl,hx,hcell,hsz⟩
 ·simp at hx
 simp only [Prod.mk.injEq,DataW.slice.injEq] at hx
 obtain⟨⟨hx1,hx2⟩,_⟩:=hx
 have hlen:ss.length=cap:=by simpa using hl
 have hd:ss.drop len=[]:=by
  have:=congrArg List.length hx2
  simp [strs] at this
  exact List.drop_eq_nil_of_le (by omega)
 have hlen2:len=cap:=by
  have:=congrArg List.length hd
  simp at this
  omega
 have ht:ss.take len=ss:=by rw [List.take_of_length_le];omega
 rw [ht] at hx1
 have hmap:ls=ss.map fun s=>s.data.toList:=by
  have:=congrArg (List.map fun d:DataW Unit=>match d with | .lit (.string l)=>l | _=>[]) hx1
  simpa [strs,Function.comp_def] using this
 have hss:(ls.map fun l=>(⟨l.toArray⟩:ByteArray))=ss:=by
  rw [hmap,List.map_map]
  conv=>rhs;rw [← List.map_id ss]
  exact List.map_congr_left fun s _=>by simp
 rw [hss]
 refine⟨_,rfl,.inr ?_⟩
 have hpos:0<ss.length:=by
  cases ss with
  | nil=>simp at hmap;exact absurd hmap hne
  | cons a l=>simp
 have hspot:a.spot=none:=by
  have h0:=hcell 0 hpos
  have e0:a.add 0=a:=by unfold Addr.add;simp
  rw [e0] at h0
  unfold World.cell? at h0
  split at h0
  ·cases hsp:a.spot with
   | none=>rfl
   | some x=>rw [hsp] at h0;simp at h0
  cases h0
 obtain⟨b,off,sp⟩:=a
 dsimp only at hspot
 subst hspot
 refine⟨b,off,cap,by rw [hlen,hlen2],by omega,hcm,fun i hi=>?_⟩
 have h0:=hcell i hi
 have ea:(⟨b,off,none⟩:Addr).add i=⟨b,off+i,none⟩:=by unfold Addr.add;split<;>simp_all
 rw [ea] at h0
 show (Zai w).cell b (off+i * 1+0)=_
 rw [Zap,Nat.mul_one,Nat.add_zero,h0,List.getElem?_eq_getElem hi]
 simp [List.getD,List.getElem?_eq_getElem hi]
theorem levels_of {w:World} (h:VarReads Tryz.prog w "lustrum/tree.levels" Rows.laid_lustrum_tree_levels):Zbo (Zai w):=by
 obtain⟨g',t',cs,fuel,p,h1,h2,h3,h4⟩:=h
 have hg:Tryz.prog.globalNamed "lustrum/tree.levels" = some 10:=by kernel_rfl
 obtain rfl:=Option.some.inj (hg.symm.trans h1)
 have ht:(Tryz.prog.globals[10]?).map (·.type)=some 250:=by kernel_rfl
 obtain rfl:=Option.some.inj (ht.symm.trans h2)
 have hc:∀ i,w.cell? ⟨10,i,none⟩=cs[i]?:=fun i=>World.var?_cell hg h3 i
 obtain⟨xs,m,rfl,hx,hlen,hxl,hel⟩:=DataW.trod_array Tryz.underlying250 h4
 have hce:Tryz.prog.cellsOf 23=1:=by kernel_rfl
 have hcs:Tryz.prog.cellsOf 9=1:=by kernel_rfl
 have hca:Tryz.prog.cellsOf 250=5:=by kernel_rfl
 rw [hca] at hlen
 rw [hce] at hel
 have hmap:xs.map (·.1)=[.slice [.lit (.string [111,114]),.lit (.string [120,111,114])] [],.slice [.lit (.string [97,110,100])] [],.slice [.lit (.string [61]),.lit (.string [60,62]),.lit (.string [60]),.lit (.string [60,61]),.lit (.string [62]),.lit (.string [62,61]),.lit (.string [61,62])] [],.slice [.lit (.string [43]),.lit (.string [45])] [],.slice [.lit (.string [42]),.lit (.string [47]),.lit (.string [109,111,100])] []]:=by
  have:=congrArg Prod.fst hx
  simp only [Rows.laid_lustrum_tree_levels,DataW.agg.injEq] at this
  exact this.symm
 have hblk:∃ t fr,w.heap[10]?=some (.cells cs t fr):=by
  simp only [World.var?,hg,Option.bind_some] at h3
  split at h3
  ·rename_i c t fr he
   cases h3
   exact⟨t,fr,he⟩
  cases h3
 obtain⟨tb,fr,hblk⟩:=hblk
 clear hx h4 hc h3 h1 h2 ht hg
 obtain⟨cl⟩:=cs
 obtain⟨c0,c1,c2,c3,c4,rfl⟩:∃ c0 c1 c2 c3 c4,cl=[c0,c1,c2,c3,c4]:=by
  match cl,hlen with
  | [c0,c1,c2,c3,c4],_=>exact⟨_,_,_,_,_,rfl⟩
 obtain⟨⟨d0,p0⟩,⟨d1,p1⟩,⟨d2,p2⟩,⟨d3,p3⟩,⟨d4,p4⟩,rfl⟩:∃ x0 x1 x2 x3 x4,xs=[x0,x1,x2,x3,x4]:=by
  match xs,hxl with
  | [x0,x1,x2,x3,x4],_=>exact⟨_,_,_,_,_,rfl⟩
 simp only [List.map_cons,List.map_nil,List.cons.injEq,and_true] at hmap
 obtain⟨m0,m1,m2,m3,m4⟩:=hmap
 subst m0 m1 m2 m3 m4
 obtain⟨_,e0,s0⟩:=Zd7 (ls:=[[111,114],[120,111,114]]) (hel 0 (by decide)) Tryz.underlying23 Tryz.underlying9 hcs (by simp)
 obtain⟨_,e1,s1⟩:=Zd7 (ls:=[[97,110,100]]) (hel 1 (by decide)) Tryz.underlying23 Tryz.underlying9 hcs (by simp)
 obtain⟨_,e2,s2⟩:=Zd7 (ls:=[[61],[60,62],[60],[60,61],[62],[62,61],[61,62]]) (hel 2 (by decide)) Tryz.underlying23 Tryz.underlying9 hcs (by simp)
 obtain⟨_,e3,s3⟩:=Zd7 (ls:=[[43],[45]]) (hel 3 (by decide)) Tryz.underlying23 Tryz.underlying9 hcs (by simp)
 obtain⟨_,e4,s4⟩:=Zd7 (ls:=[[42],[47],[109,111,100]]) (hel 4 (by decide)) Tryz.underlying23 Tryz.underlying9 hcs (by simp)
 simp at e0 e1 e2 e3 e4
 subst e0 e1 e2 e3 e4
 exact⟨_,_,_,_,_,_,_,hblk,s0,s1,s2,s3,s4⟩
def senT5:Nat→String×List UInt8
 | 0=>("lustrum/api.ErrBound",[108,117,115,116,114,117,109,58,32,98,111,117,110,100])
 | 1=>("lustrum/api.ErrShape",[108,117,115,116,114,117,109,58,32,115,104,97,112,101])
 | 2=>("lustrum/api.ErrType",[108,117,115,116,114,117,109,58,32,116,121,112,101])
 | 3=>("lustrum/api.ErrCycle",[108,117,115,116,114,117,109,58,32,99,121,99,108,101])
 | _=>("lustrum/api.ErrFirst",[108,117,115,116,114,117,109,58,32,102,105,114,115,116])
def gErr5:Nat→Nat
 | 0=>0
 | 1=>3
 | 2=>1
 | 3=>6
 | _=>2
theorem sen5_glob (i:Nat) (hi:i<5):Tryz.prog.globalNamed (senT5 i).1=some (gErr5 i)∧(Tryz.prog.globals[gErr5 i]?).map (·.type)=some 34:=by
 match i,hi with
 | 0,_=>exact⟨by kernel_rfl,by kernel_rfl⟩
 | 1,_=>exact⟨by kernel_rfl,by kernel_rfl⟩
 | 2,_=>exact⟨by kernel_rfl,by kernel_rfl⟩
 | 3,_=>exact⟨by kernel_rfl,by kernel_rfl⟩
 | 4,_=>exact⟨by kernel_rfl,by kernel_rfl⟩
theorem levs_lt {W:World} (h:Zbo (Zai W)):10<W.heap.size:=by
 obtain⟨_,_,_,_,_,_,_,h,_⟩:=h
 exact (Array.getElem?_eq_some_iff.1 (show W.heap[10]?=_ from h)).1
theorem sen5_of {W:World} {l:List (String×DataW Unit)} (h:laidMet Tryz.prog l W) (ord:List Nat) (hlt:∀ i∈ord,i<5) (hidx:∀ i,i<5→ord[ord.idxOf i]?=some i)
  (hs:((ord.map senT5).map sentE).Sublist l) (hlv:10<W.heap.size):∃ p,Sen5 W p:=by
 obtain⟨ps,hv,hn,hr⟩:=laidMet_sub hs h
 obtain⟨p,hp,hinj⟩:=sents_list (ord.map senT5) ps hv hn hr (fun x hx=>by
  obtain⟨i,hi,rfl⟩:=List.mem_map.1 hx
  exact⟨gErr5 i,sen5_glob i (hlt i hi)⟩)
 have key:∀ i,i<5→W.cell? ⟨gErr5 i,0,none⟩=some (.iface 283 (.pointer (some (p (ord.idxOf i))))):=fun i hi=>by
  have h1:=hp (ord.idxOf i) (senT5 i) (by rw [List.getElem?_map,hidx i hi];rfl)
  have:=World.var?_cell (sen5_glob i hi).1 h1.1 0
  simpa using this
 have hbig:10≤W.heap.size:=by
  have lt:∀ i,i<5→gErr5 i<W.heap.size:=fun i hi=>World.block_lt_of_cell? W _ (key i hi)
  have a0:=lt 0 (by omega)
  have a1:=lt 1 (by omega)
  have a2:=lt 2 (by omega)
  have a3:=lt 3 (by omega)
  have a4:=lt 4 (by omega)
  simp only [gErr5] at a0 a1 a2 a3 a4
  omega
 exact⟨fun | 1=>p (ord.idxOf 0) | 2=>p (ord.idxOf 1) | 4=>p (ord.idxOf 2) | 5=>p (ord.idxOf 3) | _=>p (ord.idxOf 4),⟨key 0 (by omega),key 1 (by omega),key 2 (by omega),key 3 (by omega),key 4 (by omega),hbig⟩⟩
end Go.Proofs.YtofameafdnkijaaGreatDoor
