/- Walks: lustrumref2: Truth, Right, Around. -/
import Derived.Test.YtafapnolamcdmaaGreatDoorSm2
import Derived.Test.YtafapnolamcdmaaGreatDoorEof
import Derived.Test.YtafapnolamcdmaaGreatDoorErr
import Derived.LaidMore
import Derived.Lib.SmallJoins
import Derived.Stop.Joined
import Derived.Deep.Strs
set_option linter.all false
namespace Go.Proofs.YtafapnolamcdmaaGreatDoor
set_option maxRecDepth 100000
set_option maxHeartbeats 16000000
open Go.RowKit Mx
theorem mAyA1{p:Prop}(h:p:=by
 rw[hr];go_enter Tryz.func33,Tryz.ntmps33;go_wp2_with fail;go_ret
 first|exact⟨rfl,hb⟩|exact⟨Za7 (by simp_all<;>omega),hb⟩):p:=h
theorem Zdw(b:Bool)(w:World):Calls Tryz.prog 58 #[.bool b] w λe w'=>e=.returned (vlV (tv b))/\Ybw w w':=by
 cases b
 all_goals
  go_enter Tryz.func58,Tryz.ntmps58;go_wp2_with fail
 .refine bodyPost_ret (v:=.agg #[.int .i64 1,.int .i64 0]) (by simp[results,Tryz.results58,go_sem]) rfl ?_;exact⟨rfl,Yba⟩
 refine bodyPost_ret (v:=.agg #[.int .i64 1,.int .i64 1]) (by simp[results,Tryz.results58,go_sem]) rfl ?_;exact⟨rfl,Yba⟩
theorem rright_any(v:Vl)(k:Int)(w:World):Calls Tryz.prog 33 #[vlV v,.int .i64 k] w λe w'=>e=.returned (.bool (Zaq v k))/\Ybw w w':=by
 obtain⟨vk,vn⟩:=v;have hb:Ybw w (w.alloc (.cells #[.int .i64 vk,.int .i64 vn] 101)):=Yba;by_cases h1:vk=k
 .subst h1;by_cases h2:vk=1
  .subst h2;by_cases h3:vn=0
   .subst h3;have hr:Zaq ⟨1,0⟩ 1=true:=by simp[Zaq]
    exact mAyA1
   by_cases h4:vn=1
   .subst h4;have hr:Zaq ⟨1,1⟩ 1=true:=by simp[Zaq]
    exact mAyA1
   have hr:Zaq ⟨1,vn⟩ 1=false:=by simp[Zaq,h3,h4]
   exact mAyA1
  by_cases h3:vk=2
  .subst h3;by_cases h4 : -128<=vn
   .by_cases h5:vn<=127
    .have g4 : -129<vn:=by omega
     have g5:vn<128:=by omega
     have hr:Zaq ⟨2,vn⟩ 2=true:=by simp[Zaq,h4,h5]
     exact mAyA1
    have hr:Zaq ⟨2,vn⟩ 2=false:=by simp[Zaq,h5]
    exact mAyA1
   have hr:Zaq ⟨2,vn⟩ 2=false:=by simp[Zaq,h4]
   exact mAyA1
  have hr:Zaq ⟨vk,vn⟩ vk=false:=by simp[Zaq,h2,h3]
  exact mAyA1
 have hr:Zaq ⟨vk,vn⟩ k=false:=by simp[Zaq,h1]
 exact mAyA1
theorem Zh1(n:Int)(w:World):Calls Tryz.prog 122 #[.int .i64 n] w λr w'=>r=.returned (.int .i64 (Zdt n))/\w=w':=by
 have h:=around_tmod n;have Hv : -256<n.tmod 256:=by
  have:=Int.lt_tmod_of_pos n (show(0:Int)<256 by decide);omega
 have Hm:n.tmod 256<256:=Int.tmod_lt_of_pos n (by decide);go_enter Tryz.func122,Tryz.ntmps122;dsimp only at h;generalize hm:n.tmod 256=m at *;by_cases h1:m<0
 .rw [if_pos h1] at h;have e1:m+256<=255:=by omega
  by_cases h2:127<m+256
  .rw [if_pos h2] at h;go_wp2_with fail;go_ret;exact⟨by rw[<- h];go_num,rfl⟩
  rw[if_neg h2] at h;go_wp2_with fail;go_ret;exact⟨by rw[<- h];go_num,rfl⟩
 rw[if_neg h1] at h;by_cases h2:127<m
 .rw [if_pos h2] at h;go_wp2_with fail;go_ret;exact⟨by rw[<- h];go_num,rfl⟩
 rw[if_neg h2] at h;go_wp2_with fail;go_ret;exact⟨by rw[<- h];first|rfl|go_num,rfl⟩
theorem mTe3{p:Prop}(h:p:=by
 have HTA:=Zhd (HT.out.below ((Below.refl _ _).alloc Ylr (.cells #[ptrV N] 165)));have hNw:N+1<=wr.heap.size:=HS.out.nlt;have qn:kX.length<=1000000000:=by
  have h1:=HS.out.mlen;have h2:=Zck l l.length;have h3:=HCNT.out;simp only[memN,Ex.l] at h1 h3;omega
 have kL:base<=wr.heap.size:=Nat.le_trans Jl HS.out.d.gr.size;have HNEW:=Zhd (show ∀(j:Nat) (u:Value),[ptrV N][j]?=some u->((wr.setCell ⟨N,8,none⟩ (.int .i64 (kX.length:Int))).alloc (.cells #[ptrV N] 165)).cell? ((⟨wr.heap.size,0,none⟩:Addr).add j)=some u from λj u hj=>by
  have e:(wr.setCell ⟨N,8,none⟩ (.int .i64 (kX.length:Int))).heap.size=wr.heap.size:=by simp
  have h:=Zf5 (wr.setCell ⟨N,8,none⟩ (.int .i64 (kX.length:Int))) (ptrV N) 165 j u hj;rw[e] at h;exact h)
 go_wp2_with(refine wpList_append_lies _ (by rfl) _ _ _ (by rfl) base 165 i0 _ 1 8 Tryz.underlying123 JI Jt J6 Ju rfl (by omega) (.slice au kX.length cu) kX.length (kX.map ptrV) (by rfl) HTA.out.cd.row ⟨_,0,none⟩ 1 1 [ptrV N] (by rfl) (by rfl) HNEW.out (by simp[Value.oneCell']) (by omega) (by unfold maxLen;omega) (by omega) (by simp;omega) _ rfl ?_;intro gg Hh w3 Hb Hj hJ jT;obtain⟨Q0,zd,jZ⟩:=HTA.out.push (x:=(.mk _ n s l,MS.length)) HS.out.hB (by rw[HTA.out.fresh B HS.out.hB];exact HS.out.noB) HNd.out Hb Hj hJ (by omega));rw[memNds_mem (by first|exact .inl rfl|exact .inr rfl)] at jZ;have HF:=Zhd (jZ.forget HFG.out qQ.out);have HNE:=Zhd HNd.out;go_ret;exact⟨_,_,_,_,rfl,HF.out,HNE.out⟩):p:=h
theorem mTe2{p:Prop}(h:p:=by
 intro w Hi;obtain⟨z0,z1,z2,z3,z4,z5,z6⟩:=Hi.c7 k0 k1 k2 k3 zT k12 k13;go_simp<;>with_reducible rfl):p:=h
theorem mTe1{p:Prop}(h:p:=by
 intro w Hi;obtain⟨z0,z1,z2,z3,z4,z5,z6⟩:=Hi.c7 k0 k1 k2 k3 zT k12 k13;first|(go_simp;done)|(go_simp;with_reducible rfl)):p:=h
theorem Tryz.infoNdP:(Tryz.prog.info? 165).map (λi=>(i.zero,i.size,i.bytes))=some (some (.pointer none),1,8):=by kernel_rfl
def Maps3(H:Kn)(bn bk bl:Nat)(E ks L:Env Int):Prop:=
 (∀w,H.In w->Zay (Value.int .i64) w bn E)/\(∀w,H.In w->Zay (Value.int .i64) w bk ks)/\∀w,H.In w->Zay (Value.int .i64) w bl L
theorem Maps3.le{H K:Kn}{bn bk bl:Nat}{E ks L:Env Int}(h:Maps3 H bn bk bl E ks L)(He:H.le K):Maps3 K bn bk bl E ks L:=
 ⟨λw hw=>h.1 w λb o e=>hw b o (He b o e),λw hw=>h.2.1 w λb o e=>hw b o (He b o e),λw hw=>h.2.2 w λb o e=>hw b o (He b o e)⟩
theorem term_any(R:REnv)(E L:Env Int)(hRn:R.nm=getI E)(hRl:R.lt=getI L)(hL:∀s,0<=getI L s/\getI L s<=2)(B base bn bk bl:Nat)(cs:Array Value)(JJ:cs.size=14)(h11:cs[11]?=some (.map (some bn)))(h12:cs[12]?=some (.map (some bk)))(h13:cs[13]?=some (.map (some bl))):
  ∀(e:Ex),Zad R.ks e=true->e.parts<=1000000000->∀(H:Kn) (v:Value),ExV H e v->Maps3 H bn bk bl E R.ks L->∀(w:World) (u:Value) (MS:List (Ex×Nat)) (ps:List Nat),H.In w->H B=none->CdS 165 126 w B base cs u ps->PsAt 168 R H MS ps->(∀g,u.ownBlock=some g->H g=none)->base<=w.heap.size->MS.length+memN e<=1000000000->
  Calls Tryz.prog 71 #[.pointer (some ⟨B,0,none⟩),v] w λr w'=>∃q K u' kX,r=.returned (ptrV q)/\TeD 168 165 126 R H w w' B base cs u (MS++Zbs MS.length e) K u' kX/\NdAt 168 R K e MS.length q:=by
 refine Ex.ind λo n s l ih j9 hpe H v hv hmaps w u MS ps hH hHB qL zr Jo Jl hcnt=>?_;obtain⟨uu,rfl,hu⟩:=hv;simp only[Ex.op,Ex.n,Ex.s,Ex.l] at hu ⊢;obtain⟨a,Ha,rfl⟩:=hu.len;have hlp:=Zbp l;simp only[Ex.parts] at hpe;have qr:=Zhd j9;have JA:=(Zax j9).1;have HEX:=Zhd (show ExV H (.mk o n s l) (.agg (Yqe o n s a l.length Ha)) from⟨_,rfl,hu⟩);have HU:=Zhd hu;have IH:=Zhd ih;have HSUB:=Zhd JA;clear hu ih JA j9;have zj:=qL.blt;have Hg:Ybw w (w.alloc (.cells (Yqe o n s a l.length Ha) 93)):=Yba;have hE0:=heap_alloc_new w (.cells (Yqe o n s a l.length Ha) 93);have hcd0:=qL.below Hg;have vL:=hH.below Hg;go_enter Tryz.func71,Tryz.ntmps71;go_wp2_with fail;generalize hW0:w.alloc (.cells (Yqe o n s a l.length Ha) 93)=W0 at *;have qT:W0.heap.size=w.heap.size+1:=by rw[<- hW0];simp
 clear hW0;have k0:(Zan W0).cell w.heap.size 0=some (.string o):=by rw[Zaj];simp[World.cell?,hE0]
 have k1:(Zan W0).cell w.heap.size 1=some (.int .i64 n):=by rw[Zaj];simp[World.cell?,hE0]
 have k2:(Zan W0).cell w.heap.size 2=some (.string s):=by rw[Zaj];simp[World.cell?,hE0]
 have k3:(Zan W0).cell w.heap.size 3=some (.slice a l.length Ha):=by rw[Zaj];simp[World.cell?,hE0]
 have Hu:=hcd0.box;have zT:(Zan W0).cell B 11=some (.map (some bn)):=by rw[Zaj];simp[World.cell?,Hu,h11]
 have k12:(Zan W0).cell B 12=some (.map (some bk)):=by rw[Zaj];simp[World.cell?,Hu,h12]
 have k13:(Zan W0).cell B 13=some (.map (some bl)):=by rw[Zaj];simp[World.cell?,Hu,h13]
 have hHA:∀w',(Zan W0).In w'->H.In w':=λw' h b o e=>h b o (vL b o e);have kr:=Zhd (λ(w':World) (h:(Zan W0).In w')=>(hmaps.1 w' (hHA w' h)).run (P:=Tryz.prog) Tryz.underlying124 Tryz.underlying9 (d:=0) (by kernel_rfl) s false);have HKIND:=Zhd (λ(w':World) (h:(Zan W0).In w')=>kind_any (.mk o n s l) (Zj4 R.ks _ qr.out) (by simp only[Ex.parts];omega) H _ HEX.out R.ks bk w' (hHA w' h) (hmaps.2.1 w' (hHA w' h)));have HLATE:=Zhd (λ(w':World) (h:(Zan W0).In w')=>late_any H L bl hL R.ks (.mk o n s l) qr.out _ HEX.out w' (hHA w' h) (hmaps.2.2 w' (hHA w' h)));have hS:(Zan W0).In W0.drew:=(Za9 W0).below (Below.refl _ _).drew;clear Hu;refine Zae (λw'=>(Zan W0).In w') (λ_=>True) 99 (by kernel_rfl) ?_;refine tk2 (i:=0) (v:=?_) rfl hS Ztr ?hy ?_
 case hy=>exact mTe1
 refine Zst ?_;refine w3 1 ?_
 iterate 5 ((first|(refine tk3 (v:=?_) rfl hS Ztr ?hy ?_;(case hy=>exact mTe2))|refine sk3 rfl hS Ztr ?_|refine no3 ?_);refine Zss ?_)
 refine w3e ?_;refine w3 7 ?_
 iterate 5 ((first|(refine tk3 (v:=?_) rfl hS Ztr ?hy ?_;(case hy=>exact mTe2))|refine sk3 rfl hS Ztr ?_|refine no3 ?_);refine Zss ?_)
 refine w3e ?_;refine w3 14 ?_
 iterate 6 ((first|(refine tk3 (v:=?_) rfl hS Ztr ?hy ?_;(case hy=>exact mTe2))|refine sk3 rfl hS Ztr ?_|refine no3 ?_);refine Zss ?_)
 refine w3e ?_;refine tk2 (i:=20) (v:=?_) rfl hS Ztr ?hy ?_
 case hy=>intro w Hi;obtain⟨z0,z1,z2,z3,z4,z5,z6⟩:=Hi.c7 k0 k1 k2 k3 zT k12 k13;have zz:=kr.out w Hi;go_simp<;>with_reducible rfl
 try simp only[tkS]
 refine Zwo 6 rfl λK_ hK=>?_;go_simp;go_at_call 99;refine(HKIND.out _ hS).mono ?_;rintro r w1 ⟨rfl,Hv⟩;have J3:=hS.below Hv;refine hK.out _ _ (J3) Ztr ?_;clear hK K_
 try simp only[tkS]
 refine Zwo 12 rfl λK_ hK=>?_;go_simp;go_at_call 93;refine(HLATE.out _ J3).mono ?_;rintro r w2 ⟨rfl,Hm⟩;have Hq:=J3.below Hm;refine hK.out _ _ (Hq) Ztr ?_;clear hK K_
 try simp only[tkS]
 refine tk2 (i:=13) (v:=?_) rfl Hq Ztr ?hy ?_
 case hy=>exact mTe1
 try simp only[tkS]
 refine tk2 (i:=21) (v:=?_) rfl Hq Ztr ?hy ?_
 case hy=>exact mTe1
 try simp only[tkS]
 refine Zwo 22 rfl λK_ hK=>?_;go_simp;refine hK.out _ _ (Hq.alloc _) Ztr ?_;clear hK K_
 try simp only[tkS]
 refine tk2 (i:=23) (v:=?_) rfl (Hq.alloc _) Ztr ?hy ?_
 case hy=>exact mTe1
 try simp only[tkS]
 refine Zwd ?_;have hRn':(E s).getD 0=R.nm s:=by rw[hRn];rfl
 have hnd0:(#[.string o,.int .i64 n,.string s,.slice a l.length Ha,Ys0,.int .i64 (Zai R.ks (.mk o n s l)),.bool (decide (0<lateOf (getI L) (.mk o n s l))),.int .i64 ((E s).getD 0),.int .i64 0]:Array Value)=Za3 R (.mk o n s l) 0 (.slice a l.length Ha) (Ys0):=by rw[hRn',<- hRl];rfl
 rw[hnd0];have hbN:Ybw w w2:=(Hg.trans ((Below.refl W0.heap.size W0).drew.mono (by omega))).trans ((Hv.trans (Hm.mono Hv.size)).mono (by show w.heap.size<=W0.heap.size;omega));have hN:=hbN.size;have hbN1:w.heap.size+1<=w2.heap.size:=by have h1:=Hv.size;have h2:=Hm.size;have h3:W0.drew.heap.size=W0.heap.size:=rfl;omega
 have Js:=Zhd (hbN.alloc hN (.cells (Za3 R (.mk o n s l) 0 (.slice a l.length Ha) (Ys0)) 168));obtain⟨H0,xU⟩:∃H0,H0=H.add w.heap.size (.cells (Yqe o n s a l.length Ha) 93 (0,0)):=⟨_,rfl⟩;have hle0:H.le H0:=by rw[xU];exact Kn.le_add (hH.isNone Ylr)
 have vN:∀b,b<w.heap.size->H0 b=H b:=λb hb=>by rw[xU,Kn.add_other _ _ (by omega)]
 have hE3:(w2.alloc (.cells (Za3 R (.mk o n s l) 0 (.slice a l.length Ha) (Ys0)) 168)).heap[w.heap.size]?=some (.cells (Yqe o n s a l.length Ha) 93 (0,0)):=by
  rw[Below.heap_alloc _ _ _ (by omega),Hm.block _ (by have:=Hv.size;have h3:W0.drew.heap.size=W0.heap.size:=rfl;omega),Hv.block _ (by show w.heap.size<W0.heap.size;omega)];exact hE0
 have gZ:H0.In (w2.alloc (.cells (Za3 R (.mk o n s l) 0 (.slice a l.length Ha) (Ys0)) 168)):=by rw[xU];exact(hH.below Js.out).add hE3
 have HE0:=Zhd (show H0 w.heap.size=some (.cells (Yqe o n s a l.length Ha) 93 (0,0)) from by rw[xU];exact Kn.add_self _ _ _);have jF:=Zhd (show TeS 168 165 126 R H0 w (w2.alloc (.cells (Za3 R (.mk o n s l) 0 (.slice a l.length Ha) (Ys0)) 168)) B w2.heap.size base cs (.mk o n s l) (.slice a l.length Ha) u MS 0 0 (Ys0) [] H0 u ps from
  ⟨⟨Kn.le_refl H0,λ_ _=>rfl,gZ,qL.below Js.out,by simpa[Zab] using zr.le hle0,Gr2.of_below Js.out B _,λg hg => .inr hg,λg hg=>by rw[vN g (qL.row.lt g hg).2];exact Jo g hg⟩,
   by decide,by rw[vN B zj];exact hHB,zj,hN,heap_alloc_new _ _,by rw[xU,Kn.add_other _ _ (by omega)];exact hH.isNone hN,World.ownsRow_nil _ _ _ _,λg hg=>by simp[Value.ownBlock] at hg,rfl,λi h=>by simp at h,λg hg=>by simp[Value.ownBlock] at hg⟩)
 have HE3:=Zhd hE3;have HU:=Zhd (HU.out.le hle0);have HFG:=Zhd hle0;have qQ:=Zhd vN;generalize w2.alloc (.cells (Za3 R (.mk o n s l) 0 (.slice a l.length Ha) (Ys0)) 168)=W3 at *;generalize w2.heap.size=N at *;clear Hv Hm hS J3 Hq hnd0 k0 k1 k2 k3 zT k12 k13 kr HKIND HLATE hHA vL hcd0 Hg hE0 hbN;have p3:W3.cell? ⟨w.heap.size,3,none⟩=some (.slice a l.length Ha):=by simp[World.cell?,HE3.out]
 have HCNT:=Zhd hcnt;have HM:=Zhd (hmaps.le hle0);clear hcnt hmaps zr qL hE3 gZ hle0 vN xU;obtain⟨i0,JI,Jt,J6,Ju⟩:=info_parts Tryz.infoNdP;go_wp2_with fail;clear p3;go_loopw[34] (λi wr=>∃(k:Nat) (pu:Value) (qs:List Nat) (K:Kn) (u':Value) (kX:List Nat),i=.int .i64 k/\k<=l.length/\TeS 168 165 126 R H0 w wr B N base cs (.mk o n s l) (.slice a l.length Ha) u MS k k pu qs K u' kX) (λi _=>l.length - (intOf i).toNat)
 case atStart=>exact⟨0,_,_,_,_,_,rfl,Nat.zero_le _,jF.out⟩
 obtain⟨k,pu,qs,K,u',kX,rfl,hk,hS⟩:=hrel;have HS:=Zhd hS;clear hS;by_cases Hd:k<l.length
 .obtain⟨b,off,ax,cx,rfl,c0,c1,c2,c3,hx⟩:=HU.out.at Hd;obtain⟨x,jd⟩:∃x,l[k]=x:=⟨_,rfl⟩;have Jy:x.parts<=1000000000:=by have:=Za0 l k Hd;rw[jd] at this;omega
  have Hl:x∈l:=by rw[<- jd];exact Ymm Hd
  rw[jd] at c0 c1 c2 c3 hx;have c0:=HS.out.d.isin.cell (HS.out.d.le.cell c0);have c1:=HS.out.d.isin.cell (HS.out.d.le.cell c1);have c2:=HS.out.d.isin.cell (HS.out.d.le.cell c2);have c3:=HS.out.d.isin.cell (HS.out.d.le.cell c3);have hx:=hx.le HS.out.d.le;have vF:MS.length+Zag (l.take k)+memN x<=1000000000:=by
   have h1:=Zdy l k Hd;rw[jd] at h1;have h2:=Zck l (k+1);have h3:=HCNT.out;simp only[memN] at h3;omega
  go_wp2_with fail;have vT:=HS.out.below ((Below.refl wr.heap.size wr).alloc Ylr (.cells (Yqe x.op x.n x.s ax x.l.length cx) 93));have zM:=heap_alloc_new wr (.cells (Yqe x.op x.n x.s ax x.l.length cx) 93);generalize hXe:wr.heap.size=X at *;generalize wr.alloc (.cells (Yqe x.op x.n x.s ax x.l.length cx) 93)=wA at *;have y0:wA.cell? ⟨X,0,none⟩=some (.string x.op):=by simp[World.cell?,zM]
  have y1:wA.cell? ⟨X,1,none⟩=some (.int .i64 x.n):=by simp[World.cell?,zM]
  have y2:wA.cell? ⟨X,2,none⟩=some (.string x.s):=by simp[World.cell?,zM]
  have y3:wA.cell? ⟨X,3,none⟩=some (.slice ax x.l.length cx):=by simp[World.cell?,zM]
  have J2:=vT.below (Below.refl wA.heap.size wA).drew;have q4:wA.drew.cell? ⟨N,4,none⟩=some pu:=J2.c4;have xj:base<=wA.drew.heap.size:=Nat.le_trans Jl (J2.d.gr.size);clear vT c0 c1 c2 c3;go_region_law (first|(go_simp;go_at_call 71;refine(IH.out x Hl (HSUB.out x Hl) Jy K _ hx (HM.out.le J2.d.le) _ u' _ kX J2.d.isin J2.kB J2.d.cd J2.d.mem J2.d.noM xj (by rw[<- J2.d.mem.len,J2.mlen];exact vF)).mono ?_;rintro r wc ⟨q,K2,u2,ps2,rfl,hTD,hnd⟩;obtain⟨Hq,qw⟩:=J2.child2 Hd jd hTD hnd;clear hTD hnd;have q5:=Hq.c4;have q6:=λo=>(Hq.alloc o).c4)|(refine step_append_lies _ (by rfl) _ _ _ (by rfl) (N+1) 165 i0 _ 1 8 Tryz.underlying123 JI Jt J6 Ju rfl (by omega) pu k (qs.map ptrV) (by rfl) (TeS.row (TeS.alloc (by assumption) _)) ⟨_,0,none⟩ 1 1 [ptrV q] (by rfl) (by rfl) (by exact World.news_of_block (heap_alloc_new _ _)) (by simp[Value.oneCell']) (by omega) (by unfold maxLen;omega) (by omega) (TeS.nlt' (TeS.alloc (by assumption) _)) _ rfl ?_;intro gg Hh w3 Hb Hj hJ jT;obtain⟨Q0,zd,jZ⟩:=TeS.app2 (TeS.alloc (by assumption) _) Hd jd qw Hb Hj hJ))
  all_goals generalize World.setCell _ _ _=W at jZ ⊢
  all_goals go_wp2_with fail
  all_goals go_roundw
  all_goals first|(simp[intOf];omega;done)|exact⟨k+1,_,_,_,_,_,by go_num,by omega,jZ⟩|((repeat apply Exists.intro);refine⟨?_,rfl⟩;exact⟨k+1,_,_,_,_,_,by go_num,by omega,jZ⟩)
 obtain rfl:k=l.length:=by omega
 have hE:=HS.out.d.isin _ _ (HS.out.d.le _ _ HE0.out);have g0:wr.cell? ⟨w.heap.size,0,none⟩=some (.string o):=by simp[World.cell?,hE]
 by_cases hm:o=oPre\/o=oFby
 .obtain⟨K',hT,hNd⟩:=HS.out.fin1 hm;obtain⟨au,cu,J9,_⟩:=Zar HS.out.d.cd.row;obtain⟨g8,f8⟩:=HS.out.c8;have g10:=HS.out.d.cd.c10 (by omega:10<cs.size);have hNB:N≠B:=λe=>by have h1:=HS.out.hN;have h2:=HS.out.hB;omega
  subst J9;have HT:=Zhd hT;have HNd:=Zhd hNd;clear hT hNd hE;rcases hm with rfl|rfl
  .have gt10:(wr.setCell ⟨N,8,none⟩ (.int .i64 (kX.length:Int))).cell? ⟨B,10,none⟩=some (.slice au kX.length cu):=HT.out.cd.c10 (by omega);exact mTe3
  have gt10:(wr.setCell ⟨N,8,none⟩ (.int .i64 (kX.length:Int))).cell? ⟨B,10,none⟩=some (.slice au kX.length cu):=HT.out.cd.c10 (by omega);exact mTe3
 obtain⟨K',hT,hNd⟩:=HS.out.fin0 hm;have HT:=Zhd (hT.forget HFG.out qQ.out);have HNd:=Zhd hNd;have b1:(o.toList==[112,114,101])=false:=by have:=Zeb o [112,114,101];cases h:(o.toList==[112,114,101]) with|false=>rfl|true=>exact absurd (.inl (this.mpr h)) hm
 have b2:(o.toList==[102,98,121])=false:=by have:=Zeb o [102,98,121];cases h:(o.toList==[102,98,121]) with|false=>rfl|true=>exact absurd (.inr (this.mpr h)) hm
 clear hT hNd hE;go_wp2_with fail;go_ret;exact⟨_,_,_,_,rfl,HT.out,HNd.out⟩
theorem mOck1{p:Prop}(h:p:=by
 have gR:=Zhd (Zbq JD.out nq);go_wp2_with fail
 all_goals go_ret
 all_goals unfold OckPost
 all_goals rw[HX.out]
 all_goals exact⟨by first|exact gR.out.alloc gR.out.size _|exact(gR.out.alloc gR.out.size _).drew|exact(gR.out.drew).alloc gR.out.size _|exact((gR.out.drew).alloc gR.out.size _).drew,_,rfl,.inr ⟨by omega,_,rfl,heap_alloc_new _ _⟩⟩):p:=h
def OckPost(sp:Nat->Addr)(p:Pr)(w:World)(r:Ending)(w':World):Prop:=
 Ybw w w'/\∃v,r=.returned v/\ErrW sp w' (Za2 p).1 (Za2 p).2 v
theorem ocheck_any(H:Kn)(T:Zbv H)(sp:Nat->Addr)(p:Pr)(vi vo vl va vc:Value)(hp:PrP H p vi vo vl va vc)(w:World)(hH:H.In w)(S:Sen5 w sp)
  (J5:p.ins.length<=1000000/\p.fl.length<=1000000/\p.outs.length<=100000000000/\p.as.length<=1000000/\p.cs.length<=1000000) (kZ:Ex.partsL p.terms<=1000000000)
  (hpick:Zak p=0->(∀j,j<p.graph.length->cyc p.graph j=false)->∀j,j<p.graph.length->pick p.graph (Zc7 p.graph j [])<p.graph.length):
  Calls Tryz.prog 67 #[.agg #[vi,vo,vl,va,vc]] w (OckPost sp p w):=by
 have HP:=Zhd hp;obtain⟨h1,h2,h3,h4,h5⟩:=hp;obtain⟨ai,ci,ao,co,al,cl,aa,ca,ac,cc,rfl,rfl,rfl,rfl,rfl⟩:=Ypo h1.len h2.len h3.len h4.len h5.len;have H2:=Zhd h2;have H3:=Zhd h3;have H4:=Zhd h4;have H5:=Zhd h5;clear h1 h2 h3 h4 h5;go_enter Tryz.func67,Tryz.ntmps67;go_wp2_with fail;have Hg:Ybw w (w.alloc (.cells (Yq5 p ai ao al aa ac ci co cl ca cc) 42)):=Yba;refine(lates_any H T sp p _ _ _ _ _ HP.out _ (hH.below Hg) (S.below Hg) J5 kZ hpick).mono ?_;rintro r w1 ⟨Hv,Hx⟩;have Jn:=Zhd (Hg.trans (Hv.mono (by simp)));have hq:∀i,w1.cell? ⟨w.heap.size,i,none⟩=((Yq5 p ai ao al aa ac ci co cl ca cc):Array Value)[i]?:=λi=>by rw[Hv.cell (p:=⟨w.heap.size,i,none⟩) (by simp),World.cell?_alloc_new]
 have HQ:=Zhd hq;have J6:w.heap.size<w1.heap.size:=by have:=Hv.size;simp at this;omega
 clear hq Hg Hv;cases zu:Ze4 p with
 |error x=>
  rw[zu] at Hx;obtain⟨v,rfl,hv⟩:=Hx;have HX:=Zhd (Zid zu);have HV:=Zhd hv;have jh:=lateM_pos zu;obtain⟨tv,pv,rfl⟩:∃tv pv,v=.iface tv pv:=by
   rcases hv with ⟨_,h⟩|⟨_,N,h,_⟩
   .obtain⟨c,hc⟩:∃c,x.1=c+1:=⟨x.1 - 1,by omega⟩;rw[hc,Zfk] at h;exact⟨_,_,h⟩
   exact⟨_,_,h⟩
  clear zu hv;go_wp2_with fail;go_ret;unfold OckPost;rw[HX.out];exact⟨Jn.out,_,rfl,HV.out⟩
 |ok L=>
  rw[zu] at Hx;obtain⟨v,rfl,hv⟩:=Hx;obtain⟨rfl,J0⟩:=lateM_ok zu;have gO:=Zhd zu;obtain⟨av,cv,rfl⟩:=hv.len;have HV:=Zhd hv;rw[List.length_map];obtain⟨ks,_,_,ji,jY,qH,_,_⟩:=Zb9 J0;have zm:=Zhd ji;have S1:=S.below Jn.out;clear J0 ji qH zu hv;go_wp2_with fail;go_loopw[2,18] (λu2 i wr=>∃k:Nat,i=.int .i64 k/\k<=p.fl.length/\Ybw w1 wr/\∀j (hj:j<p.fl.length),j<k->hit p p.fl[j].name=false) (λ_ i _=>p.fl.length - (intOf i).toNat)
  case atStart=>exact⟨0,rfl,Nat.zero_le _,Below.refl _ _,λj _ h=>by omega⟩
  obtain⟨k,rfl,hk,hb,Jo⟩:=hrel;have HB:=Zhd hb;have JR:=Zhd Jo;have hq:∀i,wr.cell? ⟨w.heap.size,i,none⟩=((Yq5 p ai ao al aa ac ci co cl ca cc):Array Value)[i]?:=λi=>by rw[hb.cell (p:=⟨w.heap.size,i,none⟩) J6];exact HQ.out i
  have q0:=hq 0;have q1:=hq 1;have q2:=hq 2;have q3:=hq 3;have q4:=hq 4;simp at q0 q1 q2 q3 q4;clear hb Jo hq;by_cases Hd:k<p.fl.length
  .obtain⟨b1,off,rfl,_,kR⟩:=SlV.at H3.out Hd;obtain⟨u,c0,c1,c2,c3,c4,c5,hu⟩:=kR.cells;have JD:=Zhd (Jn.out.trans (HB.out.mono (by omega)));have Hw:=hH.below JD.out;have c0:=Hw.cell c0;simp only[Nat.add_zero] at c0;obtain⟨b2,qR,rfl,_,d0⟩:=SlV.at HV.out (show k<(p.fl.map λf=>Zac p f.name).length by simpa using Hd);have d0:(Zan w1).cell b2 (qR+k * 1+0)=some (.int .i64 ((p.fl.map λf=>Zac p f.name)[k]'(by simpa using Hd))):=d0;simp only[Nat.mul_one,Nat.add_zero,List.getElem_map] at d0;have d0:=((Za9 w1).below HB.out).cell d0;have c6:=(S.below JD.out).c6;have HIT:=Zhd (show hit p p.fl[k].name=(decide (Zac p p.fl[k].name=2) || decide (Zac p p.fl[k].name=1)&&p.outs.contains p.fl[k].name) from rfl);have ke:=Zhd (show hit p p.fl[k].name=true->Za2 p=(7,(k:Int)) from λh=>Zjx gO.out k Hd h JR.out);have kf:=Zhd (show hit p p.fl[k].name=false->∀j (hj:j<p.fl.length),j<k+1->hit p p.fl[j].name=false from λh j hj jV=>by
    by_cases hjk':j<k
    .exact JR.out j hj hjk'
    obtain rfl:j=k:=by omega
    exact h)
   have HCON:=Zhd (λ(wz:World) (hz:H.In wz)=>containsV_any H _ p.outs p.fl[k].name wz H2.out hz);have HHR:=Zhd Hw;clear hu kR c1 c2 c3 c4 c5 Hw JR;generalize p.fl[k].name=xn at *;generalize Zac p xn=q at *;by_cases e2:q=2
   .subst e2;have hh:hit p xn=true:=by rw[HIT.out];rfl
    have HX:=Zhd (ke.out hh);clear hh;go_wp2_with fail;go_quiet (fail)
    exact mOck1
   by_cases e1:q=1
   .subst e1;cases hc:p.outs.contains xn
    .have HC:=Zhd hc;have hh:hit p xn=false:=by rw[HIT.out,hc];rfl
     have HX:=Zhd (kf.out hh);clear hh;rw[hc] at HCON;clear hc;go_wp2_with fail;go_quiet ((go_at_call 89;exact quiet_eq (HCON.out _ (HHR.out.drewN _))))
     have gR:=Zhd (Zbq HB.out nq);go_wp2_with fail;go_roundw
     case rel=>exact⟨k+1,by go_num,by omega,gR.out,HX.out⟩
     simp[intOf];omega
    have HC:=Zhd hc;have hh:hit p xn=true:=by rw[HIT.out,hc];rfl
    have HX:=Zhd (ke.out hh);clear hh;rw[hc] at HCON;clear hc;go_wp2_with fail;go_quiet ((go_at_call 89;exact quiet_eq (HCON.out _ (HHR.out.drewN _))))
    exact mOck1
   have t2:(q==2)=false:=by simpa using e2
   have t1:(q==1)=false:=by simpa using e1
   have hh:hit p xn=false:=by rw[HIT.out];simp[e1,e2]
   have HX:=Zhd (kf.out hh);clear hh e1 e2;go_wp2_with fail;go_quiet (fail)
   have gR:=Zhd (Zbq HB.out nq);go_wp2_with fail;go_roundw
   case rel=>exact⟨k+1,by go_num,by omega,gR.out,HX.out⟩
   simp[intOf];omega
  obtain rfl:k=p.fl.length:=by omega
  have HEND:=Zhd (Zjy gO.out λj hj=>JR.out j hj hj);have JD:=Zhd (Jn.out.trans (HB.out.mono (by omega)));clear JR;go_wp2_with fail;refine(names_any H p _ _ _ _ _ HP.out ks (λf hf=>?_) (by omega) wr (hH.below JD.out)).mono ?_
  .obtain⟨i,hi,he⟩:=List.mem_iff_getElem.1 (Zeh p hf);rw[<- he];exact(Zbe ks _).1 zm.out i hi
  rintro r w2 ⟨bm,m,rfl,hM,jy,ka,Hm⟩;have qS:w.heap.size<wr.heap.size:=by have:=HB.out.size;omega
  have hq:∀i,w2.cell? ⟨w.heap.size,i,none⟩=((Yq5 p ai ao al aa ac ci co cl ca cc):Array Value)[i]?:=λi=>by
   rw[Hm.cell (p:=⟨w.heap.size,i,none⟩) qS,HB.out.cell (p:=⟨w.heap.size,i,none⟩) J6];exact HQ.out i
  have q3:=hq 3;have q4:=hq 4;simp at q3 q4;have Jh:=Zhd (JD.out.trans (Hm.mono (by omega)));have Ju:w.heap.size<w2.heap.size:=by have:=Hm.size;omega
  have HM:=Zhd hM;have zQ:=Zhd ka;have HFA:=Zhd (show ∀e∈[p.as,p.cs].flatten,Zad ks e=true from λe he=>by
   have Hl:e∈p.terms:=by
    simp at he;unfold Pr.terms;rcases he with he|he<;>simp[he]
   obtain⟨i,hi,hx⟩:=List.mem_iff_getElem.1 Hl;rw[<- hx];exact(Zbe ks _).1 zm.out i hi)
  have HEND':=Zhd (show Za2 p=if ([p.as,p.cs].flatten.any λe=>decide (0<lateOf (getI m) e))=true then(7, -1) else(0, -1) from by
   rw[jy,HEND.out];simp)
  clear hM ka Hm hq q0 q1 q2 jy;go_wp2_with fail;have xy:Ybw w ((w2.alloc (.cells #[.map (some bm)] 124)).alloc (.cells #[.slice aa p.as.length ca,.slice ac p.cs.length cc] 40)):=(Jh.out.alloc Jh.out.size _).alloc (by simp;omega) _;have Js:=Zhd xy;have hC3:((w2.alloc (.cells #[.map (some bm)] 124)).alloc (.cells #[.slice aa p.as.length ca,.slice ac p.cs.length cc] 40)).cell? ⟨w2.heap.size,0,none⟩=some (.map (some bm)):=by
   rw[World.cell?_alloc_past _ _ _ (by simp),World.cell?_alloc_new];rfl
  have hI3:OckI H w2.heap.size bm m ((w2.alloc (.cells #[.map (some bm)] 124)).alloc (.cells #[.slice aa p.as.length ca,.slice ac p.cs.length cc] 40)):=⟨hH.below xy,hC3,by simp;omega,(HM.out.alloc _).alloc _⟩;have hA3:∀i,((w2.alloc (.cells #[.map (some bm)] 124)).alloc (.cells #[.slice aa p.as.length ca,.slice ac p.cs.length cc] 40)).cell? ⟨w2.heap.size+1,i,none⟩=(#[.slice aa p.as.length ca,.slice ac p.cs.length cc]:Array Value)[i]?:=λi=>by
   have:=World.cell?_alloc_new (w:=w2.alloc (.cells #[.map (some bm)] 124)) #[.slice aa p.as.length ca,.slice ac p.cs.length cc] 40 i;rw[World.size_alloc] at this;exact this
  have hz3:((w2.alloc (.cells #[.map (some bm)] 124)).alloc (.cells #[.slice aa p.as.length ca,.slice ac p.cs.length cc] 40)).heap.size=w2.heap.size+2:=by simp
  generalize (w2.alloc (.cells #[.map (some bm)] 124)).alloc (.cells #[.slice aa p.as.length ca,.slice ac p.cs.length cc] 40)=W3 at *;clear xy;refine(concat_any H [p.as,p.cs] [.slice aa p.as.length ca,.slice ac p.cs.length cc] (w2.heap.size+1) 2 W3 hI3.kn rfl (by omega) rfl (by omega) (λi hi=>?_) (λi hi qK=>?_) ?_).mono ?_
  .rw [hA3 i];simp at hi ⊢
  .match i,hi with
   |0,_=>exact H4.out
   |1,_=>exact H5.out
  .simp [Zea];omega
  rintro r w4 ⟨v,xs,rfl,ho,hx,jw⟩;generalize [p.as,p.cs].flatten=fe at *;have yU:=Zib (hI3.kn.below jw) ho hx;obtain⟨av4,cv4,rfl⟩:=yU.len;have HV4:=Zhd yU;have hI4:OckI (Zan w4) w2.heap.size bm m w4:=by
   have:=hI3.next jw;exact⟨Za9 w4,this.cell,this.size,this.mp⟩
  have HI4:=Zhd hI4;have gn:=Zhd (Js.out.trans (jw.mono (by omega)));clear yU ho hx jw hI4 hI3 hA3 hC3;go_wp2_with fail;refine(Zi4 _ _ _ (Zan w4) _ fe _ (check1_pred (Zan w4) w2.heap.size bm m zQ.out ks _ HFA.out) HV4.out w4 (Za9 w4) HI4.out).mono ?_;rintro r w5 ⟨rfl,Jf⟩;have kg:=Zhd (gn.out.trans (Jf.mono gn.out.size));have c6:=(S.below kg.out).c6;clear Jf;cases zf:(fe.any λe=>decide (0<lateOf (getI m) e))
  .have HX:=Zhd (show Za2 p=(0, -1) from by rw[HEND'.out,zf];rfl);clear zf;go_wp2_with fail;go_ret;unfold OckPost;rw[HX.out];exact⟨kg.out,_,rfl,.inl ⟨rfl,rfl⟩⟩
  have HX:=Zhd (show Za2 p=(7, -1) from by rw[HEND'.out,zf];rfl);clear zf;go_wp2_with fail;go_ret;unfold OckPost;rw[HX.out];exact⟨kg.out,_,rfl,.inl ⟨rfl,rfl⟩⟩
def heavy(p:Pr):Bool:=decide (1500<Ex.weightL p.terms) || decide (100<p.fl.length) || decide (40<p.ins.length)
def heavyI(p:Pr):Int:=if heavy p then 1 else 0
theorem heavy_any(H:Kn)(p:Pr)(vi vo vl va vc:Value)(hp:PrP H p vi vo vl va vc)(J5:Ex.weightL p.terms<=1000000000/\p.fl.length<=1000000000/\p.ins.length<=1000000000)(w:World)(hH:H.In w):
  Calls Tryz.prog 5 #[.agg #[vi,vo,vl,va,vc]] w λr w'=>r=.returned (.int .i64 (heavyI p))/\Ybw w w':=by
 have HP:=Zhd hp;obtain⟨h1,h2,h3,h4,h5⟩:=hp;obtain⟨ai,ci,ao,co,al,cl,aa,ca,ac,cc,rfl,rfl,rfl,rfl,rfl⟩:=Ypo h1.len h2.len h3.len h4.len h5.len;clear h1 h2 h3 h4 h5;obtain⟨s1,s2,s3⟩:=J5;have xN:=Zfu p.terms;go_enter Tryz.func5,Tryz.ntmps5;have hq:∀i,(w.alloc (.cells (Yq5 p ai ao al aa ac ci co cl ca cc) 27)).cell? ⟨w.heap.size,i,none⟩=((Yq5 p ai ao al aa ac ci co cl ca cc):Array Value)[i]?:=λi=>World.cell?_alloc_new _ _ _ _;have Hg:Ybw w (w.alloc (.cells (Yq5 p ai ao al aa ac ci co cl ca cc) 27)):=Yba;have JT:w.heap.size<(w.alloc (.cells (Yq5 p ai ao al aa ac ci co cl ca cc) 27)).heap.size:=by simp
 go_wp2_with fail;generalize w.alloc (.cells (Yq5 p ai ao al aa ac ci co cl ca cc) 27)=W1 at *;have HQ:=Zhd hq;have J4:=Zhd Hg;clear hq Hg;refine(Zjd H p _ _ _ _ _ HP.out (by omega) W1 (hH.below J4.out)).mono ?_;rintro r w2 ⟨v,K,rfl,hv,Hy⟩;obtain⟨a,c,rfl⟩:=hv.len;have HV:=Zhd hv;have Jz:=Zhd Hy;have Jh:=Zhd (J4.out.trans (Hy.below.mono J4.out.size));have q0:=Zhd (show w2.cell? ⟨w.heap.size,0,none⟩=some (.slice ai p.ins.length ci) by rw[Hy.below.cell (p:=⟨w.heap.size,0,none⟩) JT];exact HQ.out 0);have q2:=Zhd (show w2.cell? ⟨w.heap.size,2,none⟩=some (.slice al p.fl.length cl) by rw[Hy.below.cell (p:=⟨w.heap.size,2,none⟩) JT];exact HQ.out 2);have vB:w.heap.size<w2.heap.size:=Nat.lt_of_lt_of_le JT Hy.below.size;clear hv Hy;go_wp2_with fail;go_loopw[4,5] (λn i wr=>∃k:Nat,i=.int .i64 k/\k<=p.terms.length/\n=.int .i64 (Ex.weightL (p.terms.take k):Nat)/\Ybw w2 wr) (λ_ i _=>p.terms.length - (intOf i).toNat)
 case atStart=>exact⟨0,rfl,Nat.zero_le _,rfl,Below.refl _ _⟩
 obtain⟨k,rfl,hk,rfl,hb⟩:=hrel;have HB:=Zhd hb;have e0:wr.cell? ⟨w.heap.size,0,none⟩=some (.slice ai p.ins.length ci):=by rw[hb.cell (p:=⟨w.heap.size,0,none⟩) vB];exact q0.out
 have e2:wr.cell? ⟨w.heap.size,2,none⟩=some (.slice al p.fl.length cl):=by rw[hb.cell (p:=⟨w.heap.size,2,none⟩) vB];exact q2.out
 clear hb;have qn:=Ze7 p.terms k;by_cases Hd:k<p.terms.length
 .obtain⟨b,off,ax,cx,rfl,c0,c1,c2,c3,hx⟩:=HV.out.at Hd;have Hw:=Jz.out.isin.below HB.out;have c0:=Hw.cell c0;have c1:=Hw.cell c1;have c2:=Hw.cell c2;have c3:=Hw.cell c3;have zr:=Zga p.terms k Hd;have hpl2:=Ze7 p.terms (k+1);have PS:=Zhd zr;have Jy:p.terms[k].weight<=1000000000000000000:=by omega
  have hw1:Ex.weightL (p.terms.take k)+p.terms[k].weight<=1000000000:=by omega
  clear zr;generalize p.terms[k]=x at *;go_wp2_with fail;refine(weight_any K x _ hx Jy _ Hw).mono ?_;rintro r w3 ⟨rfl,Jg⟩;have hW3:=HB.out.trans (Jg.mono HB.out.size);go_wp2_with fail;go_roundw
  case rel=>exact⟨k+1,by go_num,by omega,by rw[PS.out];go_num,hW3⟩
  simp[intOf];omega
 obtain rfl:k=p.terms.length:=by omega
 have HF:=Zhd (Jh.out.trans (HB.out.mono Jh.out.size));rw[List.take_of_length_le Ylr];have hd:heavy p=(decide (1500<Ex.weightL p.terms) || decide (100<p.fl.length) || decide (40<p.ins.length)):=rfl;have HD:=Zhd hd;clear hd;by_cases d1:1500<Ex.weightL p.terms
 .go_wp2_with fail;go_ret;exact⟨Zaf (by unfold heavyI;rw[HD.out];simp[d1]),HF.out⟩
 by_cases d2:100<p.fl.length
 .go_wp2_with fail;go_ret;exact⟨Zaf (by unfold heavyI;rw[HD.out];simp[d2]),HF.out⟩
 by_cases d3:40<p.ins.length
 .go_wp2_with fail;go_ret;exact⟨Zaf (by unfold heavyI;rw[HD.out];simp[d3]),HF.out⟩
 go_wp2_with fail;go_ret;exact⟨Zaf (by unfold heavyI;rw[HD.out];simp[d1,d2,d3]),HF.out⟩
open Go.ChangeShapes Go.WideShapes Go.ChangeAt Go.RowKit Go.Deep Mx
open Go.Joins (trod_struct4)
theorem Zk0{H:Type}(d:DataW H):1<=Rows.uptoBulk d:=by
 cases d with
 |lit l=>cases l<;>simp[Rows.uptoBulk]
 |nil=>simp[Rows.uptoBulk]
 |ptr d=>simp[Rows.uptoBulk]
 |slice elems spare=>simp[Rows.uptoBulk]
 |agg parts=>simp[Rows.uptoBulk]
 |iface t d=>simp[Rows.uptoBulk]
 |map entries=>simp[Rows.uptoBulk]
 |held h=>simp[Rows.uptoBulk]
theorem bulk_part{H:Type}{d:DataW H}{l:List (DataW H)}(h:d∈l):Rows.uptoBulk d<=Rows.uptoBulkAll l:=by
 induction l with
 |nil=>cases h
 |cons x r ih=>
  simp only[Rows.uptoBulkAll];rcases List.mem_cons.1 h with e|e
  .subst e;omega
  have:=ih e;omega
theorem bulk_sum{H α:Type}(f:Nat->α)(wt:α->Nat)(D:Nat->DataW H):∀L:List Nat,(∀i∈L,wt (f i)<=Rows.uptoBulk (D i))->((L.map f).map wt).sum<=Rows.uptoBulkAll (L.map D)
 | [],_=>by simp
 |i :: L,h=>by
  have h1:=h i (List.mem_cons_self ..);have h2:=bulk_sum f wt D L λj hj=>h j (List.mem_cons_of_mem _ hj);simp only[List.map_cons,List.sum_cons,Rows.uptoBulkAll];omega
theorem rd_add(b off j:Nat):(⟨b,off,none⟩:Addr).add j=⟨b,off+j,none⟩:=by unfold Addr.add;split<;>simp_all
theorem Zki{H:Kn}:∀{l:List Ex} {b off:Nat},(∀i (h:i<l.length),ExAt H l[i] (λj=>H.cell b (off+i * 4+j)))->Zee H l b off
 | [],_,_,_=>by simp only[Zee]
 |e :: l,b,off,h=>by
  simp only[Zee];refine⟨by have h0:=h 0 (by simp);simp only[Nat.zero_mul,Nat.add_zero] at h0;exact h0,Zki λi hi=>?_⟩;have:=h (i+1) (by simpa using hi);rw[show off+4+i * 4=off+(i+1) * 4 from by omega];exact this
theorem Zjv{H:Kn}{l:List Ex}{v:Value}(h:SlV H 4 (ExAt H) l v):ExsV H l v:=
 h.imp id λ⟨b,off,Ha,h1,h2,h3,h4⟩=>⟨b,off,Ha,h1,h2,h3,Zki h4⟩
theorem Zjb:∀l:List Ex,(l.map Ex.weight).sum=Ex.weightL l
 | []=>rfl
 |e :: l=>by simp only[List.map_cons,List.sum_cons,Ex.weightL,Zjb l]
theorem sum_weightF:∀l:List Fl,(l.map λx=>x.e.weight).sum=Ex.weightL (l.map (·.e))
 | []=>rfl
 |e :: l=>by simp only[List.map_cons,List.sum_cons,Ex.weightL,sum_weightF l]
theorem sum_ones{α:Type}:∀l:List α,(l.map λ_=>1).sum=l.length
 | []=>rfl
 |e :: l=>by simp only[List.map_cons,List.sum_cons,List.length_cons,sum_ones l];omega
instance:Inhabited Ex:=⟨.mk ⟨#[]⟩ 0 ⟨#[]⟩ []⟩
instance:Inhabited Vr:=⟨⟨⟨#[]⟩,0⟩⟩
instance:Inhabited Fl:=⟨⟨⟨#[]⟩,0,default⟩⟩
section
variable {H : Type} {enc : TypeId × Value -> H} {W : World} {spare : Nat -> Bool} {held : Bool}
theorem Zdj{α:Type}[Inhabited α]{t e:TypeId}{k:Nat}(ht:Tryz.prog.underlying t=some (.slice e))(hk:Tryz.prog.cellsOf e=k)(h0:0<k)(R:α->(Nat->Option Value)->Prop)(hR:∀x f g,(∀j u,f j=some u->g j=some u)->R x f->R x g)(hS:∀x f,R x f->∀(a:Addr) (W:World),W.cell? a=f 0->a.spot=none)(wt:α->Nat)(B:Nat)
  (hel:∀n cs (y:DataW H×List MemPlace),DataW.trod enc Tryz.prog W 0 spare held n e cs=some y->Rows.uptoBulk y.1<B->∃x,R x (λj=>cs[j]?)/\wt x<=Rows.uptoBulk y.1)
  {n:Nat} {cs:List Value} {y:DataW H×List MemPlace} (h:DataW.trod enc Tryz.prog W 0 spare held n t cs=some y) (hB:Rows.uptoBulk y.1<=B):
  ∃l v,cs=[v]/\SlV (Zan W) k R l v/\(l.map wt).sum<Rows.uptoBulk y.1:=by
 rcases open_slice ht h with ⟨rfl,rfl⟩|⟨a,len,Ha,m,n,D,Pl,rfl,hb,hlc,Qv,hm,rfl,hx⟩
 .exact⟨[],_,rfl,.inl ⟨rfl,_,_,rfl⟩,by simp[Rows.uptoBulk]⟩
 have zu:len<=m:=by rw[hm];split<;>omega
 rw[hk] at hx;have hBd:Rows.uptoBulk (DataW.slice ((List.range len).map D) ((List.range (m - len)).map λj=>D (len+j)))=Rows.uptoBulkAll ((List.range len).map D)+Rows.uptoBulkAll ((List.range (m - len)).map λj=>D (len+j))+1:=by simp only[Rows.uptoBulk]
 dsimp only at hB ⊢;rw[hBd] at hB ⊢;obtain⟨f,hf⟩:=choose_lt (p:=λi (x:α)=>(∃xW,W.cells? 0 (a.add (i * k)) k=some xW/\R x (λj=>xW[j]?))/\wt x<=Rows.uptoBulk (D i)) (n:=len) (λi hi=>by
  obtain⟨xW,h1,h2⟩:=hx i (by omega);have hp:=bulk_part (d:=D i) (l:=(List.range len).map D) (List.mem_map.2 ⟨i,List.mem_range.2 hi,rfl⟩);obtain⟨x,hr,hw⟩:=hel _ _ _ h2 (by dsimp only;omega);exact⟨x,⟨xW,h1,hr⟩,hw⟩)
 have hsum:=bulk_sum f wt D (List.range len) λi hi=>(hf i (List.mem_range.1 hi)).2;refine⟨(List.range len).map f,_,rfl,?_,by omega⟩;by_cases hl0:len=0
 .subst hl0;exact .inl ⟨rfl,_,_,rfl⟩
 have hsp:a.spot=none:=by
  obtain⟨xW,h1,hr⟩:=(hf 0 (by omega)).1;obtain⟨_,_,hc⟩:=World.cells?_some h1;have h2:=hc 0 h0;have e0:(a.add (0 * k)).add 0=a:=by simp[Addr.add]
  rw[e0] at h2;exact hS _ _ hr a W h2
 obtain⟨b,off,sp⟩:=a;dsimp only at hsp;subst hsp;refine .inr ⟨b,off,Ha,by simp,by simpa using hlc,Qv,λi hi=>?_⟩;have qK:i<len:=by simpa using hi
 obtain⟨xW,h1,hr⟩:=(hf i qK).1;obtain⟨_,Ho,hc⟩:=World.cells?_some h1;rw[show((List.range len).map f)[i]=f i from by simp];refine hR _ _ _ (λj u hju=>?_) hr;have hj:j<k:=by
  rcases Nat.lt_or_ge j xW.length with Hr|jC
  .omega
  rw[List.getElem?_eq_none jC] at hju;cases hju
 have h2:=hc j hj;rw[hju,rd_add,rd_add] at h2;rw[Zaj];exact h2
theorem Zky:Tryz.prog.cellsOf 9=1:=by kernel_rfl
theorem Zi6:Tryz.prog.cellsOf 3=1:=by kernel_rfl
theorem cellsEx:Tryz.prog.cellsOf 61=4:=by kernel_rfl
theorem cellsVr:Tryz.prog.cellsOf 103=2:=by kernel_rfl
theorem cellsFl:Tryz.prog.cellsOf 91=6:=by kernel_rfl
theorem cellsExs:Tryz.prog.cellsOf 25=1:=by kernel_rfl
theorem cellsVrs:Tryz.prog.cellsOf 22=1:=by kernel_rfl
theorem cellsFls:Tryz.prog.cellsOf 24=1:=by kernel_rfl
theorem cellsStrs:Tryz.prog.cellsOf 23=1:=by kernel_rfl
theorem cellsPr:Tryz.prog.cellsOf 27=5:=by kernel_rfl
theorem read_ex:∀(B n:Nat) (cs:List Value) (y:DataW H×List MemPlace),DataW.trod enc Tryz.prog W 0 spare held n 61 cs=some y->Rows.uptoBulk y.1<=B->∃e:Ex,ExAt (Zan W) e (λj=>cs[j]?)/\e.weight<=Rows.uptoBulk y.1:=by
 intro B
 induction B with
 |zero=>intro n cs y _ hB;have:=Zk0 y.1;omega
 |succ B ih=>
  intro n cs y h hB;obtain⟨y0,y1,y2,y3,m,rfl,hl,h0,h1,h2,h3⟩:=trod_struct4 Tryz.underlying61 h;rw[cellsEx] at hl
  match cs,hl with
  | [a,b,c,d],_=>
   dsimp only at h0 h1 h2 h3 hB;rw[Zky] at h0 h2;rw[Zi6] at h1;rw[cellsExs] at h3;obtain⟨s0,e0,f0,_⟩:=DataW.trod_string Tryz.underlying9 h0;obtain⟨k,e1,f1,_⟩:=DataW.trod_int Tryz.underlying3 h1;obtain⟨s2,e2,f2,_⟩:=DataW.trod_string Tryz.underlying9 h2;have e0' : [a]=[Value.string s0]:=e0;have vZ : [b]=[Value.int .i64 k]:=e1;have e2' : [c]=[Value.string s2]:=e2;cases e0';cases vZ;cases e2';simp only[Rows.uptoBulk,Rows.uptoBulkAll] at hB;obtain⟨l,v,e3,hs,hw⟩:=Zdj Tryz.underlying25 cellsEx (by omega) (ExAt (Zan W)) (λx f g hfg hx=>ExAt.le (λ_ _ q=>q) x f g hfg hx) (λx f hx a W h=>by obtain⟨u,q,_⟩:=hx.cells;exact Zfm (h.trans q)) Ex.weight B (λn cs y hy Hr=>ih n cs y hy (by omega)) h3 (by omega);have e3' : [d]=[v]:=e3;cases e3';refine⟨.mk s0 k s2 l,ExAt.mk rfl rfl rfl rfl (Zjv hs),?_⟩;rw[Zjb] at hw;rw[f2];have J5:s2.data.toList.length=s2.size:=by rw[Array.length_toList];rfl
   simp only[Rows.uptoBulk,Rows.uptoBulkAll,Ex.weight];omega
theorem read_vr(n:Nat)(cs:List Value)(y:DataW H×List MemPlace)(h:DataW.trod enc Tryz.prog W 0 spare held n 103 cs=some y):∃x:Vr,VrC x (λj=>cs[j]?)/\1<=Rows.uptoBulk y.1:=by
 obtain⟨y0,y1,m,rfl,hl,h0,h1⟩:=trod_struct2 Tryz.underlying103 h;rw[cellsVr] at hl
 match cs,hl with
 | [a,b],_=>
  dsimp only at h0 h1;rw[Zky] at h0;rw[Zi6] at h1;obtain⟨s0,e0,f0,_⟩:=DataW.trod_string Tryz.underlying9 h0;obtain⟨k,e1,f1,_⟩:=DataW.trod_int Tryz.underlying3 h1;have e0' : [a]=[Value.string s0]:=e0;have vZ : [b]=[Value.int .i64 k]:=e1;cases e0';cases vZ;exact⟨⟨s0,k⟩,⟨rfl,rfl⟩,Zk0 _⟩
theorem read_fl(n:Nat)(cs:List Value)(y:DataW H×List MemPlace)(h:DataW.trod enc Tryz.prog W 0 spare held n 91 cs=some y):∃x:Fl,FlC (Zan W) x (λj=>cs[j]?)/\x.e.weight<=Rows.uptoBulk y.1:=by
 obtain⟨y0,y1,y2,m,rfl,hl,h0,h1,h2⟩:=trod_struct3 Tryz.underlying91 h;rw[cellsFl] at hl
 match cs,hl with
 | [a,b,c,d,e,f],_=>
  dsimp only at h0 h1 h2;rw[Zky] at h0;rw[Zi6] at h1;rw[cellsEx] at h2;obtain⟨s0,e0,f0,_⟩:=DataW.trod_string Tryz.underlying9 h0;obtain⟨k,e1,f1,_⟩:=DataW.trod_int Tryz.underlying3 h1;have e0' : [a]=[Value.string s0]:=e0;have vZ : [b]=[Value.int .i64 k]:=e1;cases e0';cases vZ;obtain⟨x,hx,hw⟩:=read_ex _ _ _ _ h2 Ylr;refine⟨⟨s0,k,x⟩,⟨rfl,rfl,ExAt.le (λ_ _ q=>q) _ _ _ (λj u hj=>?_) hx⟩,?_⟩
  .match j,hj with
   |0,hj=>exact hj
   |1,hj=>exact hj
   |2,hj=>exact hj
   |3,hj=>exact hj
  simp only[Rows.uptoBulk,Rows.uptoBulkAll];omega
theorem trod_struct5{t:TypeId}{f0 f1 f2 f3 f4:Field}{fuel:Nat}{cs:List Value}{x:DataW H×List MemPlace}(ht:Tryz.prog.underlying t=some (.struct #[f0,f1,f2,f3,f4]))(h:DataW.trod enc Tryz.prog W 0 spare held fuel t cs=some x):
  ∃y0 y1 y2 y3 y4 n,x.1=.agg [y0.1,y1.1,y2.1,y3.1,y4.1]/\cs.length=Tryz.prog.cellsOf t/\DataW.trod enc Tryz.prog W 0 spare held n f0.type ((cs.drop f0.offset).take (Tryz.prog.cellsOf f0.type))=some y0/\
   DataW.trod enc Tryz.prog W 0 spare held n f1.type ((cs.drop f1.offset).take (Tryz.prog.cellsOf f1.type))=some y1/\DataW.trod enc Tryz.prog W 0 spare held n f2.type ((cs.drop f2.offset).take (Tryz.prog.cellsOf f2.type))=some y2/\
   DataW.trod enc Tryz.prog W 0 spare held n f3.type ((cs.drop f3.offset).take (Tryz.prog.cellsOf f3.type))=some y3/\DataW.trod enc Tryz.prog W 0 spare held n f4.type ((cs.drop f4.offset).take (Tryz.prog.cellsOf f4.type))=some y4:=by
 obtain⟨xs,n,_,rfl,hl,Ho,hf⟩:=DataW.trod_struct ht h
 match xs,Ho with
 | [y0,y1,y2,y3,y4],_=>exact⟨y0,y1,y2,y3,y4,n,by simp,hl,by simpa using hf 0 f0 rfl,by simpa using hf 1 f1 rfl,by simpa using hf 2 f2 rfl,by simpa using hf 3 f3 rfl,by simpa using hf 4 f4 rfl⟩
theorem read_prog{r:Reach}{b0:Nat}{v:Value}{d:DataW H}{ps:List MemPlace}(hval:Value.okWide Tryz.prog W r b0 27 v)(h:DataW.Trod enc Tryz.prog W 0 spare held 27 v d ps){B:Nat}(hk:Rows.uptoBulk d<=B):
  ∃p vi vo vl va vc,v=.agg #[vi,vo,vl,va,vc]/\PrP (Zan W) p vi vo vl va vc/\p.ins.length<=B/\p.outs.length<=B/\Ex.weightL p.terms<=B:=by
 obtain⟨cs,rfl,J5⟩:=okWide_struct Tryz.underlying27 hval;rw[cellsPr] at J5;obtain⟨fuel,hf⟩:=h;obtain⟨cs⟩:=cs
 match cs,J5 with
 | [vi,vo,vl,va,vc],_=>
  have hf':DataW.trod enc Tryz.prog W 0 spare held fuel 27 [vi,vo,vl,va,vc]=some (d,ps):=hf;obtain⟨y0,y1,y2,y3,y4,m,hd,_,h0,h1,h2,h3,h4⟩:=trod_struct5 Tryz.underlying27 hf';dsimp only at hd h0 h1 h2 h3 h4;subst hd;rw[cellsVrs] at h0;rw[cellsStrs] at h1;rw[cellsFls] at h2;rw[cellsExs] at h3 h4;have He:∀x:Ex,∀f g,(∀j u,f j=some u->g j=some u)->ExAt (Zan W) x f->ExAt (Zan W) x g:=λx f g hfg hx=>ExAt.le (λ_ _ q=>q) x f g hfg hx;have Hy:∀(x:Ex) f,ExAt (Zan W) x f->∀(a:Addr) (W:World),W.cell? a=f 0->a.spot=none:=λx f hx a W h=>by obtain⟨u,q,_⟩:=hx.cells;exact Zfm (h.trans q)
  obtain⟨li,ui,e0,s0,w0⟩:=Zdj Tryz.underlying22 cellsVr (by omega) VrC VrC.mono (λx f hx a W h=>Zfm (h.trans hx.1)) (λ_=>1) _ (λn cs y hy _=>read_vr n cs y hy) h0 Ylr;obtain⟨lo,uo,e1,s1,w1⟩:=Zdj Tryz.underlying23 Zky (by omega) StrC StrC.mono (λx f hx a W h=>Zfm (h.trans hx)) (λ_=>1) _ (λn cs y hy _=>by
   obtain⟨s,e,_⟩:=DataW.trod_string Tryz.underlying9 hy;subst e;exact⟨s,rfl,Zk0 _⟩) h1 Ylr
  obtain⟨ll,ul,e2,s2,w2⟩:=Zdj Tryz.underlying24 cellsFl (by omega) (FlC (Zan W)) (FlC.mono (λ_ _ q=>q)) (λx f hx a W h=>Zfm (h.trans hx.1)) (λx=>x.e.weight) _ (λn cs y hy _=>read_fl n cs y hy) h2 Ylr;obtain⟨la,ua,e3,s3,w3⟩:=Zdj Tryz.underlying25 cellsEx (by omega) (ExAt (Zan W)) He Hy Ex.weight _ (λn cs y hy _=>read_ex _ n cs y hy Ylr) h3 Ylr;obtain⟨lc,uc,e4,s4,w4⟩:=Zdj Tryz.underlying25 cellsEx (by omega) (ExAt (Zan W)) He Hy Ex.weight _ (λn cs y hy _=>read_ex _ n cs y hy Ylr) h4 Ylr;have e0' : [vi]=[ui]:=e0;have vZ : [vo]=[uo]:=e1;have e2' : [vl]=[ul]:=e2;have e3' : [va]=[ua]:=e3;have e4' : [vc]=[uc]:=e4;cases e0';cases vZ;cases e2';cases e3';cases e4';rw[sum_ones] at w0 w1;rw[sum_weightF] at w2;rw[Zjb] at w3 w4;simp only[Rows.uptoBulk,Rows.uptoBulkAll] at hk;refine⟨⟨li,lo,ll,la,lc⟩,vi,vo,vl,va,vc,rfl,⟨s0,s1,s2,Zjv s3,Zjv s4⟩,by dsimp only;omega,by dsimp only;omega,?_⟩;simp only[Pr.terms,Zho];omega
end
end Go.Proofs.YtafapnolamcdmaaGreatDoor
