/- A machine behind good inputs; a World's one instant, told. -/
import Derived.Test.YtafapnolamcdmaaGreatDoorWl
import Derived.Test.YtafapnolamcdmaaGreatDoorSaM
import Derived.Test.YtafapnolamcdmaaGreatDoorOw
set_option linter.all false
namespace Go.Proofs.YtafapnolamcdmaaGreatDoor
set_option maxRecDepth 100000
set_option maxHeartbeats 16000000
open Go.RowKit Mx
theorem memNL_parts:∀l:List Ex,Zag l<=Ex.partsL l:=λl=>by
 have hE:∀e:Ex,memN e<=e.parts:=by
  refine Ex.ind λo n s l ih=>?_;have hL:∀(l:List Ex),(∀e∈l,memN e<=e.parts)->Zag l<=Ex.partsL l:=by
   intro l
   induction l with
   |nil=>intro _;simp[Zag]
   |cons e l ihl=>
    intro hh;simp only[Zag,Ex.partsL];have h1:=hh e (List.mem_cons_self ..);have h2:=ihl λy hy=>hh y (List.mem_cons_of_mem _ hy);omega
  have:=hL l ih;rw[Zhc];simp only[Ex.parts]
  split<;>omega
 induction l with
 |nil=>simp[Zag]
 |cons e l ihl=>
  simp only[Zag,Ex.partsL];have:=hE e;omega
theorem runE_le(p:Pr)(ins:List (List Vl))(ni:Int):(runE p ins ni).1<=9/\((runE p ins ni).2 ≠ -1->1<=(runE p ins ni).1):=by
 unfold runE
 split
 .exact checkM_le p
 split
 .exact⟨by decide,λ_=>by decide⟩
 split
 .exact⟨by simp,λ_=>by simp⟩
 exact⟨by simp,λh=>absurd rfl h⟩
theorem runE_zero_all{p:Pr}{ins:List (List Vl)}{ni:Int}(h:(runE p ins ni).1=0):runE p ins ni=(0, -1):=by
 obtain⟨h0,h1,h2,h3⟩:=Zih h;exact runE_of h0 h1 h2 h3
def sgM(R:REnv)(c:Cd)(m0:List Vl)(good:List (List Vl))(t:Bool):Mc:=⟨decide (good.length=0),memS R c m0 (λi=>good.getD i []) good.length,t⟩
theorem step_ok(R:REnv)(c:Cd){ins:List Vr}(f:Bool)(m:List Vl){v:List Vl}(h:Zas ins v v.length=true):Zcw R c ins ⟨f,m,false⟩ v=if (Zb7 R c f m v).1.trap=true then(0,(Zb7 R c f m v).1,⟨f,m,true⟩) else(0,(Zb7 R c f m v).1,⟨false,(Zb7 R c f m v).2,false⟩):=by
 unfold Zcw;rw[if_neg (by simp),if_pos h]
theorem sg_right{y:WdW}(hp:WdP y){good:List (List Vl)}{v:List Vl}(hx:y.ins=good++[v])(hr:Zas y.p.ins v v.length=true):
  Zcw y.R (cdOf y.p y.ord) y.p.ins (sgM y.R (cdOf y.p y.ord) (Zba y.R (Zab 0 y.p.terms)) good false) v=
   (0,Ze8 y.R y.inp y.fv y.p good.length,if (Ze8 y.R y.inp y.fv y.p good.length).trap=true then sgM y.R (cdOf y.p y.ord) (Zba y.R (Zab 0 y.p.terms)) good true else sgM y.R (cdOf y.p y.ord) (Zba y.R (Zab 0 y.p.terms)) (good++[v]) false):=by
 obtain⟨h1,h2⟩:=step_wd hp hx;have hinp:y.inp=λi=>(good++[v]).getD i []:=by funext i;unfold WdW.inp;rw[hx]
 unfold sgM;rw[step_ok _ _ _ _ hr,h1];by_cases ht:(Ze8 y.R y.inp y.fv y.p good.length).trap=true
 .rw [if_pos ht,if_pos ht]
 rw[if_neg ht,if_neg ht,h2 (by simpa using ht),<- hinp];have:decide ((good++[v]).length=0)=false:=decide_eq_false (by simp);rw[this]
section
variable {H : Kn} {p : Pr} {vi vo vl va vc : Value} (hp : PrP H p vi vo vl va vc) (J0 : (Za2 p).1 = 0) {ks : Env Int} (hks : Zao Env.none p.vars = some ks) {ord : List Nat} (ho : Za5 p = .ok ord) (J5 : p.fl.length <= 400 ∧ Ex.partsL p.terms <= 4000 ∧ p.ins.length <= 1000) (zE : p.outs.length <= 1000000)
 (nb:Bool) (ni:Int) (qI : -128<=ni/\ni<=127) {R:REnv} (hR:R=⟨ks,Zac p,getI (Zah p),nb,ni⟩)
include hp J0 hks ho J5 zE qI hR
theorem state_sg{K:Kn}(He:H.le K){good:List (List Vl)}{vg:Value}(Qt:good.length<=1000)(hg:InsV K good vg)(hr:∀l∈good,Zas p.ins l l.length=true)(t:Bool){w:World}(hK:K.In w):
  Calls Tryz.prog 35 #[.agg #[vi,vo,vl,va,vc],vg,.bool nb,.int .i64 ni] w λr w'=>∃v,r=.returned v/\VlsV (Zb3 w.heap.size w') (Zby (sgM R (cdOf p ord) (Zba R (Zab 0 p.terms)) good t)) v/\Ybw w w':=by
 subst hR;exact stateOf_any K p vi vo vl va vc (hp.le He) J0 hks ho J5 zE good vg Qt hg hr nb ni qI w hK
theorem instant_sg{K:Kn}(He:H.le K){good:List (List Vl)}{x:List Vl}{vg:Value}(Qt:good.length+1<=1000)(hg:InsV K (good++[x]) vg)(hr:∀l∈good,Zas p.ins l l.length=true)(hx:Zas p.ins x x.length=true){w:World}(hK:K.In w):
  Calls Tryz.prog 36 #[.agg #[vi,vo,vl,va,vc],vg,.bool nb,.int .i64 ni] w λr w2=>∃(b:Nat) (tk:Tk),r=.returned (ptrV b)/\Ybw w w2/\
   Zcw R (cdOf p ord) p.ins (sgM R (cdOf p ord) (Zba R (Zab 0 p.terms)) good false) x=(0,tk,if tk.trap=true then sgM R (cdOf p ord) (Zba R (Zab 0 p.terms)) good true else sgM R (cdOf p ord) (Zba R (Zab 0 p.terms)) (good++[x]) false)/\
   Calls Tryz.prog 37 #[ptrV b,.int .i64 good.length] w2 λr w3=>∃ov cv,r=.returned (.agg #[ov,.bool tk.asrt,.bool tk.trap,cv])/\Ybw w w3/\TkV (Zan w3) tk ov cv:=by
 have hr2:∀l∈good++[x],Zas p.ins l l.length=true:=λl hl=>by
  rcases List.mem_append.1 hl with h|h
  .exact hr l h
  rw[List.mem_singleton.1 h];exact hx
 refine(Zj5 K p vi vo vl va vc (hp.le He) J0 hks ho J5 zE (good++[x]) vg (by simpa using Qt) hg hr2 nb ni qI w hK).mono ?_;rintro r w2 ⟨y,K2,rfl,⟨rfl,rfl,rfl,rfl,rfl,hy⟩,hP,J1,hs,JB,⟨hxB,hxD,hxbase⟩,Hm⟩;have hRy:R=y.R:=hR;subst hRy;have Jl:=Hm.size;refine⟨y.B,Ze8 y.R y.inp y.fv y.p good.length,rfl,Hm,sg_right hP hy hx,?_⟩;refine(wtick_any hP (i:=good.length) (by rw[hy];simp) K2 J1 w2 _ _ _ hs).mono ?_;rintro r w3 ⟨T',u',kl',ov,cv,rfl,hN,h1,h2⟩;exact⟨ov,cv,rfl,Hm.trans (hN.gr.below Jl hxB hxD (by omega)),SlV.le h1 (cleanKn_all _ _ _) VlC.mono,SlV.le h2 (cleanKn_all _ _ _) BlC.mono⟩
end
theorem app_good{K:Kn}{w:World}(hK:K.In w){good:List (List Vl)}{a:Option Addr}{c:Nat}(h:InsV K good (.slice a good.length c))(x:List Vl)(hl:good.length<=1000000):
  ∃v W xs,(∀ty,(Builtin.append_ #[28,28] ty #[Ys0,.slice a good.length c]).run Tryz.prog w=.ok v W)/\RwO 31 1 IsX K w W w.heap.size (good++[x]) good.length v xs K:=by
 obtain⟨v,W,ys,h1,h2,h3,h4⟩:=run_app_ins hK h (World.ownsRow_nil w w.heap.size 31 1) Ylr (by omega);have Jo:∀g,(Value.slice none 0 0).ownBlock=some g->K g=none:=λg hg=>by simp[Value.ownBlock] at hg
 refine⟨v,W,[]++ys,h2,⟨Kn.le_refl K,λ_ _=>rfl,hK.grown h4 Jo,(Below.refl _ _).grown h4 Ylr (λg hg=>by simp[Value.ownBlock] at hg),h4.size,by simpa using h3,?_,λg hg=>hK.isNone (h3.lt g hg).1⟩⟩;rw[List.take_append_of_le_length Ylr,List.take_of_length_le Ylr];exact h1
theorem Bf.W_app{S C:Type}{l:List (Bf.En S C)}(h:Bf.WayOk l)(x:Bf.En S C):∀(j:Nat),j<l.length->Bf.W (l++[x]) j=Bf.W l j:=by
 have key:∀(j f:Nat),j<l.length->Bf.way (l++[x]) f j=Bf.way l f j:=by
  intro j
  induction j using Nat.strongRecOn with
  |ind j ih=>
   intro f hj;cases f with
   |zero=>rfl
   |succ f=>
    simp only[Bf.way];rw[List.getElem?_append_left hj,List.getElem?_eq_getElem hj];dsimp only;rcases h j hj with h0|⟨q,e,q1⟩
    .rw [if_pos h0,if_pos h0]
    rw[e,if_neg (by omega),if_neg (by omega),Int.toNat_natCast,ih q q1 f (by omega)]
 exact λj hj=>key j _ hj
theorem Bf.W_new{S C:Type}{l:List (Bf.En S C)}(h:Bf.WayOk l){i:Nat}(hi:i<l.length)(s:S)(c:C):Bf.W (l++[⟨s,i,c⟩]) l.length=Bf.W l i++[c]:=by
 have h2:=h.snoc hi s c;have:=h2.pos (j:=l.length) (by simp) (f:=i) (by simp) hi;rw[this,Bf.W_app h _ i hi];simp
section
variable {R : REnv} {c : Cd} {ins : List Vr} {m0 : List Vl}
theorem sg_step{g:List (List Vl)}{x:List Vl}{tk:Tk}{A:Mc}(h:Zcw R c ins (sgM R c m0 g false) x=(0,tk,if tk.trap=true then A else sgM R c m0 (g++[x]) false)):
  stR R c ins (Zby (sgM R c m0 g false)) x=Zdm tk/\(Zdm tk=none->nxR R c ins (Zby (sgM R c m0 g false)) x=if tk.asrt=true then some (Zby (sgM R c m0 (g++[x]) false)) else none):=by
 have hp:putM (Zby (sgM R c m0 g false))=sgM R c m0 g false:=put_state _;unfold stR nxR;rw[hp,h];refine⟨rfl,λhw=>?_⟩;have ht:=wrongK_trap hw;have e:(if tk.trap=true then A else sgM R c m0 (g++[x]) false)=sgM R c m0 (g++[x]) false:=if_neg (by simp[ht]);dsimp only;rw[e]
end
theorem sg_len(R:REnv)(p:Pr)(ord:List Nat)(g:List (List Vl)):(Zby (sgM R (cdOf p ord) (Zba R (Zab 0 p.terms)) g false)).length=Zag p.terms+1:=by
 unfold Zby sgM;simp only[List.length_cons];cases g with
 |nil=>simp[memS,Zba,Zaw]
 |cons x g=>simp[memS,Zdn,cdOf,Zdf,Zaw]
structure SrI(R:REnv)(c:Cd)(m0:List Vl)(ins:List Vr)(l:List StE):Prop where
 ways:Bf.WayOk l
 sts:∀j (hj:j<l.length),l[j].s=Zby (sgM R c m0 (Bf.W l j) false)
 right:∀j,j<l.length->∀x∈Bf.W l j,Zas ins x x.length=true
theorem SrI.one(R:REnv)(c:Cd)(m0:List Vl)(ins:List Vr):SrI R c m0 ins [⟨Zby ⟨true,m0,false⟩, -1,[]⟩]:=by
 have hw:∀j,j<1->Bf.W [(⟨Zby ⟨true,m0,false⟩, -1,[]⟩:StE)] j=[]:=λj hj=>by
  obtain rfl:j=0:=by omega
  exact Bf.W_neg (by simp) (show(-1:Int)<0 by decide)
 refine⟨Bf.WayOk.one _ _,λj hj=>?_,λj hj x hx=>?_⟩
 .obtain rfl:j=0:=by simpa using hj
  rw[hw 0 (by omega)];rfl
 rw[hw j (by simpa using hj)] at hx;cases hx
theorem SrI.snoc{R:REnv}{c:Cd}{m0:List Vl}{ins:List Vr}{l:List StE}(h:SrI R c m0 ins l){i:Nat}(hi:i<l.length){x:List Vl}(hx:Zas ins x x.length=true):
  SrI R c m0 ins (l++[⟨Zby (sgM R c m0 (Bf.W l i++[x]) false),i,x⟩]):=by
 have hn:=Bf.W_new h.ways hi (Zby (sgM R c m0 (Bf.W l i++[x]) false)) x;refine⟨h.ways.snoc hi _ _,λj hj=>?_,λj hj y hy=>?_⟩
 .by_cases kj:j<l.length
  .rw [List.getElem_append_left kj,Bf.W_app h.ways _ j kj];exact h.sts j kj
  obtain rfl:j=l.length:=by simp at hj;omega
  rw[hn];simp
 by_cases kj:j<l.length
 .rw [Bf.W_app h.ways _ j kj] at hy;exact h.right j kj y hy
 obtain rfl:j=l.length:=by simp at hj;omega
 rw[hn] at hy;rcases List.mem_append.1 hy with hy|hy
 .exact h.right i hi y hy
 rw[List.mem_singleton.1 hy];exact hx
theorem put3_in{K:Kn}{W:World}{b:Nat}(h:K.In W)(hb:K b=none)(x y z:Value):K.In (put3 W b x y z):=
 ((h.setCell (a:=⟨b,0,none⟩) hb x).setCell (a:=⟨b,1,none⟩) hb y).setCell (a:=⟨b,2,none⟩) hb z
abbrev Spo:=List Vl×List (List Vl)
def SpC(K:Kn)(x:Spo)(f:Nat->Option Value):Prop:=∃u v,f 0=some u/\f 1=some v/\VlsV K x.1 u/\InsV K x.2 v
theorem SpC.pm:PMono SpC:=λ_ _ _ _ _ He hfg ⟨u,v,h1,h2,h3,h4⟩=>⟨u,v,hfg _ _ h1,hfg _ _ h2,SlV.le h3 He VlC.mono,InsV.le He h4⟩
abbrev SpX:=RowX 2 SpC
def SpR(l:List StE)(gs:List Spo):Prop:=gs.length=l.length/\∀j (hj:j<l.length) (hg:j<gs.length),gs[j]=(l[j].s,Bf.W l j)
theorem SpR.one(s:List Vl):SpR [(⟨s, -1,[]⟩:StE)] [(s,[])]:=by
 refine⟨rfl,λj hj hg=>?_⟩;obtain rfl:j=0:=by simpa using hj
 have:=Bf.W_neg (l:=[(⟨s, -1,[]⟩:StE)]) (j:=0) (by simp) (show(-1:Int)<0 by decide);simp[this]
theorem SpR.snoc{l:List StE}{gs:List Spo}(h:SpR l gs)(hw:Bf.WayOk l){i:Nat}(hi:i<l.length)(s:List Vl)(c:List Vl):SpR (l++[⟨s,i,c⟩]) (gs++[(s,Bf.W l i++[c])]):=by
 obtain⟨h1,h2⟩:=h;refine⟨by simp[h1],λj hj hg=>?_⟩;by_cases kj:j<l.length
 .rw [List.getElem_append_left kj,List.getElem_append_left (by omega),Bf.W_app hw _ j kj];exact h2 j kj (by omega)
 obtain rfl:j=l.length:=by simp at hj;omega
 rw[Bf.W_new hw hi];simp[<- h1]
theorem SpR.mem{l:List StE}{gs:List Spo}(h:SpR l gs)(s:List Vl):s∈l.map (·.s)↔∃j,∃hg:j<gs.length,gs[j].1=s:=by
 obtain⟨h1,h2⟩:=h;constructor
 .intro hs;obtain⟨e,he,rfl⟩:=List.mem_map.1 hs;obtain⟨j,hj,rfl⟩:=List.mem_iff_getElem.1 he;exact⟨j,by omega,by rw[h2 j hj (by omega)]⟩
 rintro⟨j,hg,rfl⟩;have hj:j<l.length:=by omega
 rw[h2 j hj hg];exact List.mem_map.2 ⟨l[j],Ymm hj,rfl⟩
theorem spX_at{K:Kn}{gs:List Spo}{xs:List Value}(h:SpX K gs xs){i:Nat}(hi:i<gs.length):∃u v,xs[i * 2]?=some u/\xs[i * 2+1]?=some v/\VlsV K gs[i].1 u/\InsV K gs[i].2 v:=by
 obtain⟨u,v,h1,h2,h3,h4⟩:=h.2 i hi;exact⟨u,v,by simpa using h1,by simpa using h2,h3,h4⟩
theorem Tryz.infoSp:(Tryz.prog.info? 108).map (λi=>(i.zero,i.size,i.bytes))=some (some (.agg #[Ys0,Ys0]),2,48):=by kernel_rfl
abbrev SpO(H:Kn)(W0 wr:World)(base:Nat)(gs:List Spo)(u:Value)(xs:List Value)(K:Kn):Prop:=RwO 108 2 SpX H W0 wr base gs gs.length u xs K
theorem SpO.start{H:Kn}{W0 w3:World}{s:List Vl}{a:Option Addr}{c:Nat}(hH:H.In W0)(hb:Ybw W0 w3)(hv:VlsV (Zb3 W0.heap.size w3) s (.slice a s.length c)):
  SpO H W0 (w3.alloc (.cells #[.slice a s.length c,Ys0] 108)) W0.heap.size [(s,[])] (.slice (some ⟨w3.heap.size,0,none⟩) 1 1) [.slice a s.length c,Ys0] (Zbt H W0.heap.size w3):=by
 have h1:=Ziu hH hb;have h2:=(Below.refl w3.heap.size w3).alloc Ylr (.cells #[.slice a s.length c,Ys0] 108);refine⟨Zb6 hH w3,λb Ji=>by unfold Zbt;rw[if_pos Ji],h1.below h2,hb.trans (h2.mono hb.size),Nat.le_trans hb.size h2.size,World.ownsRow_lit w3 _ 1 hb.size (by decide) rfl,?_,λg hg=>?_⟩
 .exact RowX.snoc (l:=[]) (xs:=[]) SpC.pm RowX.nil rfl ⟨_,_,rfl,rfl,SlV.le hv (Zdk H _ w3) VlC.mono,.inl ⟨rfl,none,0,rfl⟩⟩
 have:w3.heap.size=g:=by simpa[Value.ownBlock] using hg
 rw[<- this];exact h1.isNone Ylr
section
variable {H K : Kn} {W0 wr : World} {base : Nat} {gs : List Spo} {u : Value} {xs : List Value}
theorem SpO.at(h:SpO H W0 wr base gs u xs K){i:Nat}(hi:i<gs.length):∃g Ha a1 c1 a2 c2,u=.slice (some ⟨g,0,none⟩) gs.length Ha/\wr.cell? ⟨g,i * 2,none⟩=some (.slice a1 gs[i].1.length c1)/\wr.cell? ⟨g,i * 2+1,none⟩=some (.slice a2 gs[i].2.length c2)/\
  VlsV K gs[i].1 (.slice a1 gs[i].1.length c1)/\InsV K gs[i].2 (.slice a2 gs[i].2.length c2):=by
 obtain⟨g,Ha,h1,_,_,_,_,h5⟩:=Zbr h.row (Nat.lt_of_le_of_lt (Nat.zero_le _) hi);have hx:=h.xs;rw[List.take_of_length_le Ylr] at hx;obtain⟨x,y,e1,e2,h3,h4⟩:=spX_at hx hi;obtain⟨a1,c1,rfl⟩:=h3.len;obtain⟨a2,c2,rfl⟩:=h4.len;exact⟨g,Ha,a1,c1,a2,c2,h1,h5 _ _ e1,h5 _ _ e2,h3,h4⟩
theorem SpO.push{w3:World}{gg Ha:Nat}{s:List Vl}{g:List (List Vl)}{v1 v2:Value}(h:SpO H W0 wr base gs u xs K)(hv:VlsV K s v1)(hw:InsV K g v2)
  (Hb:w3.ownsRow base 108 2 (.slice (some ⟨gg,0,none⟩) (gs.length+1) Ha) (gs.length+1) (xs++[v1,v2])) (hg:wr.grownBy w3 u.ownBlock) (hJ:u.ownBlock=some gg\/gg=wr.heap.size):
  SpO H W0 w3 base (gs++[(s,g)]) (.slice (some ⟨gg,0,none⟩) (gs.length+1) Ha) (xs++[v1,v2]) K:=by
 have hx:=h.xs;rw[List.take_of_length_le Ylr] at hx;have h':RwO 108 2 SpX H W0 wr base (gs++[(s,g)]) gs.length u xs K:=⟨h.le,h.fresh,h.isin,h.below,h.size,h.row,by rw[List.take_append_of_le_length Ylr,List.take_of_length_le Ylr];exact hx,h.noR⟩;have h2:=h'.step (n':=1) (ys:=[v1,v2]) (by
  rw[List.take_of_length_le (by simp)];exact RowX.snoc SpC.pm hx rfl ⟨_,_,rfl,rfl,hv,hw⟩) Hb hg hJ
 show RwO 108 2 SpX H W0 w3 base (gs++[(s,g)]) (gs++[(s,g)]).length _ _ K;rw[show(gs++[(s,g)]).length=gs.length+1 from by simp];exact h2
theorem SpO.next{wc:World}{K2:Kn}(h:SpO H W0 wr base gs u xs K)(hs:Kn.Step K wr K2 wc):SpO H W0 wc base gs u xs K2:=RwO.next (RowX.mono SpC.pm) h hs
end
def SoPost(q:Bf.Res (List Vl) (List Vl))(r:Ending)(w':World):Prop:=
 match q with
 | .over=>r=.returned (.tuple #[toldZ,.bool false])
 | .ok l=>r=.returned (.tuple #[.agg #[.int .i64 l.length,Ys0,.int .i64 (-2)],.bool true])
 | .found i l c k=>∃v,r=.returned (.tuple #[.agg #[.int .i64 l.length,v,.int .i64 k],.bool true])/\InsV (Zan w') (Bf.W l i++[c]) v
theorem searchOf_any(H:Kn)(p:Pr)(vi vo vl va vc:Value)(hp:PrP H p vi vo vl va vc)(J0:(Za2 p).1=0){ks:Env Int}(hks:Zao Env.none p.vars=some ks){ord:List Nat}(ho:Za5 p=.ok ord)(J5:p.fl.length<=400/\Ex.partsL p.terms<=4000/\p.ins.length<=1000)(zE:p.outs.length<=1000000)
  (choices:List (List Vl)) (vC:Value) (hC:InsV H choices vC) (hcl:choices.length<=1000) (hcr:∀x∈choices,Zas p.ins x x.length=true) (hcx:∀x∈choices,x.length<=1000000) (mN:Nat) (gx:1<=mN) (hm2:mN<=900) (w:World) (hH:H.In w):
  Calls Tryz.prog 13 #[.agg #[vi,vo,vl,va,vc],vC,.int .i64 mN] w λr w'=>Ybw w w'/\SoPost (Zdd ks ord p choices mN) r w':=by
 obtain⟨z1,z2,z3⟩:=J5;have HP:=Zhd hp;obtain⟨h1,h2,h3,h4,h5⟩:=hp;obtain⟨ai,ci,ao,co,al,cl,aa,ca,ac,cc,rfl,rfl,rfl,rfl,rfl⟩:=Ypo h1.len h2.len h3.len h4.len h5.len;obtain⟨an,cn,rfl⟩:=hC.len;have HC:=Zhd hC;clear h1 h2 h3 h4 h5 hC;have JJ:p.cs.length<=4000:=by
  have h4:=Zbp p.terms;have h5:p.terms.length=p.fl.length+p.as.length+p.cs.length:=by simp only[Pr.terms,List.length_append,List.length_map]
  omega
 obtain⟨R,hR⟩:∃R:REnv,R=⟨ks,Zac p,getI (Zah p),false,0⟩:=⟨_,rfl⟩;have HSO:=Zhd (λ(K:Kn) (He:H.le K) (good:List (List Vl)) (vg:Value) Qt hg hr (t:Bool) (wz:World) (hz:K.In wz)=>state_sg HP.out J0 hks ho ⟨z1,z2,z3⟩ zE false 0 ⟨by decide,by decide⟩ hR He (good:=good) (vg:=vg) Qt hg hr t hz);have HIN:=Zhd (λ(K:Kn) (He:H.le K) (good:List (List Vl)) (x:List Vl) (vg:Value) Qt hg hr hx (wz:World) (hz:K.In wz)=>instant_sg HP.out J0 hks ho ⟨z1,z2,z3⟩ zE false 0 ⟨by decide,by decide⟩ hR He (good:=good) (x:=x) (vg:=vg) Qt hg hr hx hz);obtain⟨mz,hmz⟩:∃mz,mz=Zba R (Zab 0 p.terms):=⟨_,rfl⟩;rw[<- hmz] at HSO HIN;obtain⟨qD,vS⟩:∃f,f=stR R (cdOf p ord) p.ins:=⟨_,rfl⟩;obtain⟨qE,vV⟩:∃f,f=nxR R (cdOf p ord) p.ins:=⟨_,rfl⟩;obtain⟨gG,xr⟩:∃r,r=Zdd ks ord p choices mN:=⟨_,rfl⟩;have Hn:gG=Bf.outer qD qE mN choices (mN+1 - 0) [(⟨Zby (sgM R (cdOf p ord) mz [] false), -1,[]⟩:StE)] 0:=by rw[xr,vS,vV,hmz,hR];rfl
 rw[<- xr];have HOUT0:=Zhd Hn;have HSTF:=Zhd vS;have HNXF:=Zhd vV;have HMZ:=Zhd (show ∀g,(Zby (sgM R (cdOf p ord) mz g false)).length=Zag p.terms+1 from λg=>by rw[hmz];exact sg_len R p ord g);have JO:=memNL_parts p.terms;clear xr Hn vS vV hmz hR hks ho J0;have Hg:Ybw w ((w.alloc (.cells (Yq5 p ai ao al aa ac ci co cl ca cc) 27)).alloc (.cells #[.int .i64 0,Ys0,.int .i64 0] 51)):=Yba.alloc (by simp) _;have hr0:((w.alloc (.cells (Yq5 p ai ao al aa ac ci co cl ca cc) 27)).alloc (.cells #[.int .i64 0,Ys0,.int .i64 0] 51)).heap[w.heap.size+1]?=some (.cells #[.int .i64 0,Ys0,.int .i64 0] 51 (0,0)):=by
  have h:=heap_alloc_new (w.alloc (.cells (Yq5 p ai ao al aa ac ci co cl ca cc) 27)) (.cells #[.int .i64 0,Ys0,.int .i64 0] 51);rw[World.size_alloc] at h;exact h
 have hp0:((w.alloc (.cells (Yq5 p ai ao al aa ac ci co cl ca cc) 27)).alloc (.cells #[.int .i64 0,Ys0,.int .i64 0] 51)).heap[w.heap.size]?=_:=(Below.heap_alloc _ _ _ (by simp)).trans (heap_alloc_new w (.cells (Yq5 p ai ao al aa ac ci co cl ca cc) 27));have jN:((w.alloc (.cells (Yq5 p ai ao al aa ac ci co cl ca cc) 27)).alloc (.cells #[.int .i64 0,Ys0,.int .i64 0] 51)).heap.size=w.heap.size+2:=by simp
 have J4:=Zhd Hg;have qp:=Zhd hr0;have gd:=Zhd hp0;have jF:=Zhd jN;clear Hg hr0 jN;obtain⟨⟨m0,m1,m2,m3,m4⟩,_⟩:=Zbm hp0;clear hp0;go_enter Tryz.func13,Tryz.ntmps13;go_wp2_with fail;generalize (w.alloc (.cells (Yq5 p ai ao al aa ac ci co cl ca cc) 27)).alloc (.cells #[.int .i64 0,Ys0,.int .i64 0] 51)=W0 at *;clear m0 m1 m2 m3 m4;have HHW:=Zhd (hH.below J4.out);have Qh:=Zhd (show ∀W,Ybw W0 W->W.heap[w.heap.size+1]?=some (.cells #[.int .i64 0,Ys0,.int .i64 0] 51 (0,0)) from λW hb=>(hb.block _ (Zlt qp.out)).trans qp.out);have HPS:=Zhd (show ∀W,Ybw W0 W->W.heap[w.heap.size]?=_ from λW hb=>(hb.block _ (Zlt gd.out)).trans gd.out);have HBS:=Zhd (show ∀W,Ybw W0 W->Ybw w W from λW hb=>J4.out.trans (hb.mono J4.out.size));refine(HSO.out H (Kn.le_refl _) [] _ (by simp) (.inl ⟨rfl,none,0,rfl⟩) (λl hl=>by cases hl) false W0 HHW.out).mono ?_;rintro r w3 ⟨v3,rfl,vr,Jg⟩;obtain⟨a3,c3,rfl⟩:=vr.len;have kG:=Zhd (SpO.start HHW.out Jg vr);clear Jg vr;go_wp2_with fail;have hRel:∀(n:Nat),n=n:=λ_=>rfl;clear hRel;go_loopw[8,9] (λu i wr=>∃(n:Nat) (l:List StE) (gs:List Spo) (xs:List Value) (K:Kn),i=.int .i64 n/\SpO H W0 wr W0.heap.size gs u xs K/\SrI R (cdOf p ord) mz p.ins l/\SpR l gs/\n<=l.length/\l.length<=mN/\gG=Bf.outer qD qE mN choices (mN+1 - n) l n) (λ_ i _=>mN - (intOf i).toNat)
 case atStart=>exact⟨0,_,_,_,_,rfl,kG.out,SrI.one R (cdOf p ord) mz p.ins,SpR.one _,Nat.zero_le _,by simpa using gx,HOUT0.out⟩
 clear kG HOUT0;obtain⟨n,l,gs,xs,K,rfl,hS,hI,hG,hn,JV,Hn⟩:=hrel;have HS:=Zhd hS;have HI:=Zhd hI;have HG:=Zhd hG;have zx:=Zhd (show gs.length=l.length from hG.1);obtain⟨au,cu,J9,_⟩:=Zar hS.row;subst J9;clear hS hI hG;by_cases jR:n<gs.length
 .have jz:n<l.length:=by have:=zx.out;omega
  obtain⟨e,he⟩:∃e,l[n]=e:=⟨_,rfl⟩;have JG:=Zhd (show gG=Bf.rest qD qE mN n e choices (mN - n) l (choices.drop 0) from by
   rw[Hn,show mN+1 - n=(mN - n)+1 from by omega,List.drop_zero];exact Bf.outer_rest qD qE (by rw[List.getElem?_eq_getElem jz,he]))
  have HE:=Zhd (show l[n]?=some e from by rw[List.getElem?_eq_getElem jz,he]);have yO:=Zhd (show n<mN from by omega);clear Hn he hn;go_wp2_with fail;go_loopw[8,10] (λu j wr=>∃(k:Nat) (l:List StE) (gs:List Spo) (xs:List Value) (K:Kn),j=.int .i64 k/\k<=choices.length/\SpO H W0 wr W0.heap.size gs u xs K/\SrI R (cdOf p ord) mz p.ins l/\SpR l gs/\n<l.length/\l[n]?=some e/\l.length<=mN/\gG=Bf.rest qD qE mN n e choices (mN - n) l (choices.drop k)) (λ_ j _=>choices.length - (intOf j).toNat)
  case atStart=>exact⟨0,l,gs,xs,K,rfl,Nat.zero_le _,HS.out,HI.out,HG.out,jz,HE.out,JV,JG.out⟩
  clear HS HI HG HE JG jR jz JV zx;obtain⟨k,l,gs,xs,K,rfl,hk,hS,hI,hG,jz,he,JV,Hn⟩:=hrel;have HS:=Zhd hS;have HI:=Zhd hI;have HG:=Zhd hG;have HE:=Zhd he;have JG:=Zhd Hn;have zx:=Zhd (show gs.length=l.length from hG.1);have hgb:gs.length<=900:=by have:=zx.out;omega
  obtain⟨au,cu,J9,_⟩:=Zar hS.row;subst J9;clear hS hI hG he Hn;by_cases vF:k<choices.length
  .obtain⟨b,off,a2,c2,jE,c0,hx⟩:=HC.out.at vF;subst jE;have hix:=hcr _ (Ymm vF);have hlx:=hcx _ (Ymm vF);have hkx:=HS.out.le.cell c0;have c0:=HS.out.isin.cell hkx;have hx:=SlV.le hx HS.out.le VlC.mono;have Hn:=JG.out;rw[List.drop_eq_getElem_cons vF] at Hn;have JG:=Zhd Hn;clear Hn;generalize choices[k]=x at *;have jR:n<gs.length:=by have:=zx.out;omega
   obtain⟨g,Ha,a1,c1,aw,cw,J9,d0,d1,gS,hwv⟩:=SpO.at HS.out jR;cases J9;have He:l[n]=e:=by have h:=HE.out;rw[List.getElem?_eq_getElem jz] at h;simpa using h
   have hgn:gs[n]=(e.s,Bf.W l n):=by rw[HG.out.2 n jz jR,He]
   have hes:e.s=Zby (sgM R (cdOf p ord) mz (Bf.W l n) false):=by rw[<- He];exact HI.out.sts n jz
   have Qg:=Zhd (HI.out.right n jz);have hwl:(Bf.W l n).length<=n:=HI.out.ways.short n jz;rw[hgn] at d1 hwv;dsimp only at d1 hwv;have hWn:=HI.out.snoc jz hix;have hGn:=λs=>HG.out.snoc HI.out.ways jz s x;obtain⟨gw,hgw⟩:∃gw,gw=Bf.W l n:=⟨_,rfl⟩;rw[<- hgw] at hes Qg hwl d1 hwv hWn hGn;have HGW:=Zhd hgw;have HES:=Zhd hes;have HWN:=Zhd hWn;have HGN:=Zhd hGn;have HX:=Zhd hx;have n1:(n:Int)<gs.length:=by omega
   obtain⟨v1,W1,ys,Ht,hrw⟩:=app_good HS.out.isin hwv x (by omega);have HRW:=Zhd (hrw.alloc (.cells #[.slice a2 x.length c2] 31));have cx1:=hrw.isin.cell hkx;obtain⟨a5,c5,rfl,_⟩:=Zar hrw.row;clear hrw d0 gS hgw hes hWn hGn hx hwv hgn;go_wp2_with(at_builtin;first|refine Zbi rfl _ _ _ _ rfl _ _ rfl rfl _ _ Ht ?_|(clear Ht;refine Zgs 28 31 1 24 _ Tryz.underlying28 Tryz.infoIs rfl (by decide) _ _ rfl rfl wr.heap.size _ _ _ rfl HRW.out.row ⟨W1.heap.size,0,none⟩ 1 [.slice a2 x.length c2] rfl rfl ?c1 ?c2 ?c3 ?c4 ?c5 ?_))
   case c1=>exact Zf5 _ _ _
   case c2=>simp[Value.oneCell']
   case c3=>omega
   case c4=>omega
   case c5=>simpa using HRW.out.size
   intro g2 zl wj ho JP hJ;have hrw:=RwO.step (n':=1) HRW.out (by rw[List.take_of_length_le (by simp)];have h:=HRW.out.xs;rw[List.take_append_of_le_length Ylr,List.take_of_length_le Ylr] at h;exact RowX.snoc IsC.pm h rfl ⟨_,rfl,HX.out⟩) ho JP (by rw[World.size_alloc];exact hJ);have JC:=hrw.xs;rw[List.take_of_length_le (by simp)] at JC;obtain⟨Kj,hlej,vJ,hvj,hfrj⟩:=Zcn (R:=IsC) (l:=gw++[x]) hrw.isin (by have h:=hrw.row;simpa using h) hrw.noR (RowX.at IsC.pm JC);have hSJ:=HS.out.next ⟨hlej,hfrj,vJ,hrw.below⟩;have hBJ:=HBS.out _ hSJ.below;obtain⟨⟨m0,m1,m2,m3,m4⟩,_⟩:=Zbm (HPS.out _ hSJ.below);have HSJ:=Zhd hSJ;have HVJ:=Zhd hvj;have HNJ:=Zhd vJ;have HHJ:=Zhd (Kn.le_trans HS.out.le hlej);have HRR:=Zhd (show ∀l∈gw++[x],Zas p.ins l l.length=true from λl hl=>(List.mem_append.1 hl).elim (Qg.out l) λh=>by rw[List.mem_singleton.1 h];exact hix);clear hrw JC hlej vJ hvj hfrj hSJ ho JP hJ HRW HS HX cx1 c0 d1 hkx;go_wp2_with fail;refine(HIN.out Kj HHJ.out gw x _ (by omega) HVJ.out Qg.out hix wj HNJ.out).mono ?_;rintro r wk ⟨xB,tk,rfl,xi,Jp,htick⟩;have J5:=stepM_sizes R p ord (sgM R (cdOf p ord) mz gw false) x;rw[Jp] at J5;obtain⟨J6,Ju⟩:=J5;dsimp only at J6 Ju;obtain⟨hst1,yg⟩:=sg_step Jp;rw[<- HES.out,<- HSTF.out] at hst1;rw[<- HES.out,<- HNXF.out] at yg;have HST1:=Zhd hst1;have HST2:=Zhd yg;clear Jp hst1 yg m0 m1 m2 m3 m4;go_wp2_with fail;refine htick.mono ?_;rintro r wl ⟨ov2,cv2,rfl,Ji,kB⟩;obtain⟨ao2,co2,rfl⟩:=kB.outs.len;obtain⟨ac2,cc2,rfl⟩:=kB.checks.len;have xP:Ybw wl (wl.alloc (.cells #[.slice ao2 tk.out.length co2,.bool tk.asrt,.bool tk.trap,.slice ac2 tk.checks.length cc2] 110)):=Yba;have hbjm:=Ji.trans (xP.mono Ji.size);have hSM:=HSJ.out.next (Kn.Step.join HNJ.out hbjm);have qj:=heap_alloc_new wl (.cells #[.slice ao2 tk.out.length co2,.bool tk.asrt,.bool tk.trap,.slice ac2 tk.checks.length cc2] 110)
   obtain⟨y0,y1,y2,y3,_,_⟩:=Zcd qj;have gH:=Zhd (kB.le (Zbl (Zca xP)));have yc:=Zhd qj;have hinm:=HNJ.out.below hbjm;have HJM:=Zhd (Zb6 HNJ.out (wl.alloc (.cells #[.slice ao2 tk.out.length co2,.bool tk.asrt,.bool tk.trap,.slice ac2 tk.checks.length cc2] 110)));generalize Zbt Kj wj.heap.size (wl.alloc (.cells #[.slice ao2 tk.out.length co2,.bool tk.asrt,.bool tk.trap,.slice ac2 tk.checks.length cc2] 110))=Km at *;have yB:=Zhd hSM;clear Ji kB xP xi htick hbjm hSM HSJ qj hinm;go_wp2_with fail;generalize wl.alloc (.cells #[.slice ao2 tk.out.length co2,.bool tk.asrt,.bool tk.trap,.slice ac2 tk.checks.length cc2] 110)=Wm at *;refine(wrongAt_any (Zan Wm) tk _ _ gH.out (by omega) Wm (Za9 Wm)).mono ?_;rintro r wn ⟨rfl,hbn⟩;have hSN:=yB.out.next (Kn.Step.join yB.out.isin hbn);have HJN:=Zhd (Zb6 yB.out.isin wn);have qj:=(hbn.block _ (Zlt yc.out)).trans yc.out;clear y0 y1 y2 y3;obtain⟨y0,y1,y2,y3,_,_⟩:=Zcd qj;generalize Zbt Km Wm.heap.size wn=Kn0 at *;have y9:=Zhd hSN;have HVN:=Zhd (InsV.le (Kn.le_trans HJM.out HJN.out) HVJ.out);have HHN:=Zhd (Kn.le_trans HHJ.out (Kn.le_trans HJM.out HJN.out));clear hbn hSN yB yc qj gH;by_cases qS : -2<Zcp tk
   .have hws:=wrongI_some qS;have Hn:=JG.out;rw[Bf.rest_found qD qE (HST1.out.trans hws)] at Hn;have zO:=Zhd Hn;generalize Zcp tk=wi at *;clear Hn hws y0 y1 y2 y3;have Jb:=Qh.out wn y9.out.below;obtain⟨r0,r1,r2,yT,yS,yR,_⟩:=Zbu Jb;have jG:=Zdq Jb (.int .i64 gs.length) (.slice (some ⟨g2,0,none⟩) (gw.length+1) zl) (.int .i64 wi);obtain⟨WW,jO⟩:∃WW,WW=put3 wn (w.heap.size+1) (.int .i64 gs.length) (.slice (some ⟨g2,0,none⟩) (gw.length+1) zl) (.int .i64 wi):=⟨_,rfl⟩;rw[<- jO] at jG;obtain⟨e0,e1,e2,_⟩:=Zbu jG;have Qe:=Zhd jO;have jx:=jO;unfold put3 at jx;have xC:=Zhd jx;have E0:=Zhd e0;have E1:=Zhd e1;have E2:=Zhd e2;clear e0 e1 e2 jG Jb jO jx
    try(simp only[];go_at_K)
    repeat(first|go_values|go_skip|go_guarded|go_step|go_upon)
    rw[<- xC.out];have e0:=E0.out;have e1:=E1.out;have e2:=E2.out;refine bodyPost_ret (v:=.tuple #[.agg #[.int .i64 gs.length,.slice (some ⟨g2,0,none⟩) (gw.length+1) zl,.int .i64 wi],.bool true]) (by simp[results,Tryz.results13,go_sem,e0,e1,e2]) rfl ?_;rw[Qe.out];refine⟨Zc8 (HBS.out _ y9.out.below) (Nat.le_succ _) _ _ _,?_⟩;rw[zO.out];refine⟨_,by rw[zx.out],?_⟩;rw[<- HGW.out];exact InsV.le (Zbl (put3_in y9.out.isin (by rw[y9.out.fresh _ (by have:=jF.out;omega)];exact hH.isNone (Nat.le_succ _)) _ _ _)) HVN.out
   have hwn:=wrongI_none qS;have Hy:=HST1.out.trans hwn;have zF:=HST2.out hwn;have yA:=Zhd Hy;clear hwn Hy;generalize Zcp tk=wi at *;obtain⟨xo,xa,xt,xc⟩:=tk;dsimp only at y0 y1 y2 y3 zF J6 Ju;cases xa with
   |false=>
    rw[if_neg (by simp)] at zF;have Hn:=JG.out;rw[Bf.rest_dead qD qE yA.out zF] at Hn;have jk:=Zhd Hn;clear Hn zF;go_wp2_with fail;go_roundw
    case rel=>exact⟨k+1,l,gs,_,_,by go_num,by omega,y9.out,HI.out,HG.out,jz,HE.out,JV,jk.out⟩
    simp[intOf];omega
   |true=>
    rw[if_pos rfl] at zF;have xE:=Zhd zF;clear zF;obtain⟨⟨m0,m1,m2,m3,m4⟩,_⟩:=Zbm (HPS.out _ y9.out.below);go_wp2_with fail;refine(HSO.out Kn0 HHN.out (gw++[x]) _ (by simp;omega) HVN.out HRR.out false wn y9.out.isin).mono ?_;rintro r wo ⟨v4,rfl,yU,jw⟩;obtain⟨a4,c4,rfl⟩:=yU.len;have hSO:=y9.out.next (Kn.Step.join y9.out.isin jw);have yU:=SlV.le yU (Zdk Kn0 wn.heap.size wo) VlC.mono;have zN:=Zhd (InsV.le (Zb6 y9.out.isin wo) HVN.out);generalize Zbt Kn0 wn.heap.size wo=K2 at *;obtain⟨s',hs'⟩:∃s',s'=Zby (sgM R (cdOf p ord) mz (gw++[x]) false):=⟨_,rfl⟩;rw[<- hs'] at yU xE HWN ⊢;have HSO2:=Zhd hSO;have HV4:=Zhd yU;have yh:s'.length<=1000000000:=by rw[hs',HMZ.out];omega
    clear hSO yU jw hs' m0 m1 m2 m3 m4 y0 y1 y2 y3;go_wp2_with fail;go_loopw[15,16] (λse j w5=>∃jn:Nat,j=.int .i64 jn/\jn<=gs.length/\Ybw wo w5/\((se=.bool false/\∀q (hq:q<gs.length),q<jn->gs[q].1≠s')\/(se=.bool true/\∃q,∃hq:q<gs.length,gs[q].1=s'))) (λ_ j _=>gs.length - (intOf j).toNat)
    case atStart=>exact⟨0,rfl,Nat.zero_le _,Below.refl _ _,.inl ⟨rfl,λq _ h=>by omega⟩⟩
    obtain⟨jn,rfl,hj,Jf,hse⟩:=hrel;have kg:=Zhd Jf;have jr:=HSO2.out.later Jf;have HS5:=Zhd jr;clear Jf jr;rcases hse with ⟨rfl,Jo⟩|⟨rfl,hyes⟩
    .by_cases kj:jn<gs.length
     .obtain⟨g5,cap5,a6,c6,a7,c7,J9,d0,d1,gS,hwv⟩:=SpO.at HS5.out kj;cases J9;have HSV:=Zhd gS;have JR:=Zhd Jo;have HSL:=Zhd (show gs[jn].1.length<=1000000000 from by
       rw[HG.out.2 jn (by have:=zx.out;omega) kj,HI.out.sts jn (by have:=zx.out;omega)];rw[HMZ.out];omega)
      have j1:(jn:Int)<gs.length:=by omega
      have HJL:=Zhd kj;clear gS hwv d1 Jo;go_wp2_with fail;refine(sameEq_any K2 gs[jn].1 s' _ _ HSV.out HV4.out ⟨HSL.out,yh⟩ wr HS5.out.isin).mono ?_;rintro r w6 ⟨rfl,JX⟩;have ve:=Zhd (kg.out.trans (JX.mono kg.out.size));have HY:=Zhd (show(Value.bool (decide (gs[jn].1=s'))=.bool false/\∀q (hq:q<gs.length),q<jn+1->gs[q].1≠s')\/(Value.bool (decide (gs[jn].1=s'))=.bool true/\∃q,∃hq:q<gs.length,gs[q].1=s') from by
       by_cases h:gs[jn].1=s'
       .exact .inr ⟨by rw[decide_eq_true h],jn,kj,h⟩
       refine .inl ⟨by rw[decide_eq_false h],λq hq hqj=>?_⟩;by_cases kY:q<jn
       .exact JR.out q hq kY
       obtain rfl:q=jn:=by omega
       exact h)
      generalize decide (gs[jn].1=s')=yb at *;clear JX d0;go_wp2_with fail;go_roundw
      case rel=>exact⟨jn+1,by go_num,by have:=HJL.out;omega,ve.out,HY.out⟩
      have:=HJL.out;simp[intOf];omega
     obtain rfl:jn=gs.length:=by omega
     have hnin:¬s'∈l.map (·.s):=λh=>by
      obtain⟨q,hq,h2⟩:=(HG.out.mem s').1 h;exact Jo q hq hq h2
     have HNIN:=Zhd hnin;clear Jo hnin;by_cases hfull:gs.length=mN
     .have q5:((gs.length:Int)==(mN:Int))=true:=by rw[hfull];exact beq_self_eq_true _
      have Hn:=JG.out;rw[Bf.rest_over qD qE yA.out xE.out HNIN.out (by have:=zx.out;omega)] at Hn;have zO:=Zhd Hn;clear Hn;have Jb:=Qh.out wr HS5.out.below;obtain⟨r0,r1,r2,yT,yS,yR,_⟩:=Zbu Jb;have jG:=Zdq Jb (.int .i64 0) (Ys0) (.int .i64 0);obtain⟨WW,jO⟩:∃WW,WW=put3 wr (w.heap.size+1) (.int .i64 0) (Ys0) (.int .i64 0):=⟨_,rfl⟩;rw[<- jO] at jG;obtain⟨e0,e1,e2,_⟩:=Zbu jG;have Qe:=Zhd jO;have jx:=jO;unfold put3 at jx;have xC:=Zhd jx;have E0:=Zhd e0;have E1:=Zhd e1;have E2:=Zhd e2;clear e0 e1 e2 jG Jb jO jx
      try(simp only[];go_at_K)
      repeat(first|go_values|go_skip|go_guarded|go_step|go_upon)
      rw[<- xC.out];have e0:=E0.out;have e1:=E1.out;have e2:=E2.out;refine bodyPost_ret (v:=.tuple #[.agg #[.int .i64 0,Ys0,.int .i64 0],.bool false]) (by simp[results,Tryz.results13,go_sem,e0,e1,e2]) rfl ?_;rw[Qe.out];refine⟨Zc8 (HBS.out _ HS5.out.below) (Nat.le_succ _) _ _ _,?_⟩;rw[zO.out]
      first|rfl|exact rfl
     have q5:((gs.length:Int)==(mN:Int))=false:=beq_false_of_ne (by omega);have Hn:=JG.out;rw[Bf.rest_push qD qE yA.out xE.out HNIN.out (by have:=zx.out;omega)] at Hn;have jk:=Zhd Hn;have HS7:=Zhd (HS5.out.alloc (.cells #[.slice a4 s'.length c4,.slice (some ⟨g2,0,none⟩) (gw.length+1) zl] 108));clear Hn;go_wp2_with(at_builtin;refine Zgs 109 108 2 48 _ Tryz.underlying109 Tryz.infoSp rfl (by decide) _ _ rfl rfl W0.heap.size _ _ _ rfl HS7.out.row ⟨wr.heap.size,0,none⟩ 1 [.slice a4 s'.length c4,.slice (some ⟨g2,0,none⟩) (gw.length+1) zl] rfl rfl ?d1 ?d2 ?d3 ?d4 ?d5 ?_)
     case d1=>exact World.news_of_block (heap_alloc_new _ _)
     case d2=>simp[Value.oneCell']
     case d3=>omega
     case d4=>omega
     case d5=>simpa using HS7.out.size
     intro g7 cap7 w7 ho hg7 hJ;have hS8:=SpO.push HS7.out HV4.out zN.out ho hg7 (by rw[World.size_alloc];exact hJ);have HS8:=Zhd hS8;have HW8:=Zhd (HGN.out s');clear ho hg7 hJ hS8;go_wp2_with fail;go_roundw
     case rel=>exact⟨k+1,_,_,_,_,by go_num,by omega,HS8.out,HWN.out,HGN.out s',by simp;omega,by rw[List.getElem?_append_left jz];exact HE.out,by have:=zx.out;simp;omega,jk.out⟩
     simp[intOf];omega
    have Hk:s'∈l.map (·.s):=(HG.out.mem s').2 hyes;have Hn:=JG.out;rw[Bf.rest_seen qD qE yA.out xE.out Hk] at Hn;have jk:=Zhd Hn;clear Hn hyes Hk;by_cases kj:jn<gs.length
    .have j1:(jn:Int)<gs.length:=by omega
     go_wp2_with fail;go_roundw
     case rel=>exact⟨k+1,l,gs,_,_,by go_num,by omega,HS5.out,HI.out,HG.out,jz,HE.out,JV,jk.out⟩
     simp[intOf];omega
    obtain rfl:jn=gs.length:=by omega
    go_wp2_with fail;go_roundw
    case rel=>exact⟨k+1,l,gs,_,_,by go_num,by omega,HS5.out,HI.out,HG.out,jz,HE.out,JV,jk.out⟩
    simp[intOf];omega
  obtain rfl:k=choices.length:=by omega
  have Hn:=JG.out;rw[List.drop_eq_nil_of_le Ylr,Bf.rest_nil] at Hn;have jk:=Zhd (show gG=Bf.outer qD qE mN choices (mN+1 - (n+1)) l (n+1) from by rw[Hn,show mN+1 - (n+1)=mN - n from by omega]);have jy:=yO.out;clear Hn;go_wp2_with fail;go_roundw
  case rel=>exact⟨n+1,l,gs,_,_,by go_num,HS.out,HI.out,HG.out,by omega,JV,jk.out⟩
  simp[intOf];omega
 have ja:gG=.ok l:=by
  rw[Hn,show mN+1 - n=(mN - l.length)+1 from by have:=zx.out;omega];exact Bf.outer_end qD qE (by rw[List.getElem?_eq_none (by have:=zx.out;omega)])
 have zP:=Zhd ja;clear ja Hn;have Jb:=Qh.out wr HS.out.below;obtain⟨r0,r1,r2,yT,yS,yR,_⟩:=Zbu Jb;have jG:=Zdq Jb (.int .i64 gs.length) (Ys0) (.int .i64 (-2));obtain⟨WW,jO⟩:∃WW,WW=put3 wr (w.heap.size+1) (.int .i64 gs.length) (Ys0) (.int .i64 (-2)):=⟨_,rfl⟩;rw[<- jO] at jG;obtain⟨e0,e1,e2,_⟩:=Zbu jG;have Qe:=Zhd jO;have jx:=jO;unfold put3 at jx;have xC:=Zhd jx;have E0:=Zhd e0;have E1:=Zhd e1;have E2:=Zhd e2;clear e0 e1 e2 jG Jb jO jx
 try(simp only[];go_at_K)
 repeat(first|go_values|go_skip|go_guarded|go_step|go_upon)
 rw[<- xC.out];have e0:=E0.out;have e1:=E1.out;have e2:=E2.out;refine bodyPost_ret (v:=.tuple #[.agg #[.int .i64 gs.length,Ys0,.int .i64 (-2)],.bool true]) (by simp[results,Tryz.results13,go_sem,e0,e1,e2]) rfl ?_;rw[Qe.out];refine⟨Zc8 (HBS.out _ HS.out.below) (Nat.le_succ _) _ _ _,?_⟩;rw[zP.out,zx.out]
 first|rfl|exact rfl
end Go.Proofs.YtafapnolamcdmaaGreatDoor
