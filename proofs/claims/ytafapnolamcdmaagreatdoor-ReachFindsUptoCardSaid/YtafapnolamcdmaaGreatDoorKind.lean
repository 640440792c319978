/- Walks: flat.KindOf. (By kindgen.py.) -/
import Derived.Test.YtafapnolamcdmaaGreatDoorEx
set_option linter.all false
namespace Go.Proofs.YtafapnolamcdmaaGreatDoor
set_option maxRecDepth 100000
set_option maxHeartbeats 16000000
open Go.RowKit Mx
theorem mKind1{p:Prop}(h:p:=by
 go_wp2_with fail;go_ret;exact⟨Zaf (by rw[HK.out];unfold Zcb;have s0:=S0.out;have s1:=S1.out;(simp[e0,e1,e2,e3,e4,e5,e6,e7,e8,e9,js,qO,yx,xz,vY,Qc,e16,e17,e18,s0,s1];try omega)),HF.out _⟩):p:=h
mutual
def okIf:Ex->Bool
 | .mk o _ _ l=>(decide (o≠oIf) || decide (l.length=3))&&okIfL l
def okIfL:List Ex->Bool
 | []=>true
 |e :: l=>okIf e&&okIfL l
end
theorem okIfL_mem:∀{l:List Ex},okIfL l=true->∀e∈l,okIf e=true
 | [],_,_,h=>by cases h
 |x :: l,hl,e,h=>by
  simp only[okIfL,Bool.and_eq_true] at hl;rcases List.mem_cons.1 h with rfl|h
  .exact hl.1
  exact okIfL_mem hl.2 e h
theorem Zgn(ks:Env Int):∀(l:List Ex) (k:Nat) (h:k<l.length),Zap ks (l.take (k+1))=Zap ks (l.take k)++[Zai ks l[k]]
 |e :: l,0,_=>by simp[Zap]
 |e :: l,k+1,h=>by
  have:=Zgn ks l k (by simpa using h);simp only[List.take_succ_cons,Zap,List.getElem_cons_succ];rw[this];rfl
theorem Ze5(ks:Env Int):∀l:List Ex,(Zap ks l).length=l.length
 | []=>rfl
 |e :: l=>by simp[Zap,Ze5 ks l]
theorem kindsOf_mem(ks:Env Int):∀(l:List Ex) (k:Nat) (h:k<l.length),Zai ks l[k]∈Zap ks l
 |e :: l,0,_=>by simp[Zap]
 |e :: l,k+1,h=>by
  have:=kindsOf_mem ks l k (by simpa using h);simp only[Zap,List.getElem_cons_succ,List.mem_cons];exact .inr this
theorem kindOf_zero(ks:Env Int)(o:ByteArray)(n:Int)(s:ByteArray)(l:List Ex)(k:Nat)(h:k<l.length)(h0:Zai ks l[k]=0):Zai ks (.mk o n s l)=0:=by
 have hm:=kindsOf_mem ks l k h;rw[h0] at hm;simp only[Zai];rw[if_pos (by simpa using hm)]
theorem Zir(ks:Env Int)(o:ByteArray)(n:Int)(s:ByteArray)(l:List Ex)(h:(0:Int)∉Zap ks l):Zai ks (.mk o n s l)=Zct o ((ks s).getD 0) (Zap ks l):=by
 simp only[Zai];rw[if_neg (by simpa using h)]
theorem Zg7:∀l:List Ex,l.length<=Ex.partsL l
 | []=>Nat.le_refl _
 |e :: l=>by
  have:=Zg7 l;have h1:1<=e.parts:=by cases e;simp only[Ex.parts];omega
  simp only[Ex.partsL,List.length_cons];omega
theorem Zgd:∀{l:List Ex} {e:Ex},e∈l->e.parts<=Ex.partsL l
 | [],_,h=>by cases h
 |x :: l,e,h=>by
  simp only[Ex.partsL];rcases List.mem_cons.1 h with rfl|h
  .omega
  have:=Zgd h;omega
theorem Zeb(o:ByteArray)(l:List UInt8):(o=⟨⟨l⟩⟩)=((o.toList==l)=true):=by
 have:=dLit o l;rw[<- this];simp
def Zcb(o:ByteArray)(k r0 r1 r2:Int)(b:Bool):Int:=
 if (o.toList==[105,110,116])=true then 2
 else if (o.toList==[116,114,117,101])=true\/(o.toList==[102,97,108,115,101])=true then 1
 else if (o.toList==[110,97,109,101])=true then k
 else if (o.toList==[105,102])=true then(if r0=1/\r1=r2 then r1 else 0)
 else if (o.toList==[112,114,101])=true\/(o.toList==[45,62])=true\/(o.toList==[102,98,121])=true then(if b=true then r0 else 0)
 else if (o.toList==[61])=true\/(o.toList==[60,62])=true then(if b=true then 1 else 0)
 else if (o.toList==[60])=true\/(o.toList==[60,61])=true\/(o.toList==[62])=true\/(o.toList==[62,61])=true then(if (b&&decide (r0=2))=true then 1 else 0)
 else if (o.toList==[110,111,116])=true\/(o.toList==[97,110,100])=true\/(o.toList==[111,114])=true\/(o.toList==[120,111,114])=true\/(o.toList==[61,62])=true then(if (b&&decide (r0=1))=true then 1 else 0)
 else if (b&&decide (r0=2))=true then 2 else 0
theorem Zh5(o:ByteArray)(k:Int)(l:List Int):Zct o k l=Zcb o k (l.headD 0) (l.getD 1 0) (l.getD 2 0) (decide (0<l.length)&&decide (l.headD 0=l.getLastD 0)):=by
 unfold Zcb;simp only[<- Zeb];cases l<;>rfl
theorem Zbf(b:Bool)(p:Prop)(h:b=true↔p):(b=true/\Hid p)\/(b=false/\Hid (¬p)):=by
 cases b
 .exact .inr ⟨rfl,Zhd λhp=>by have:=h.2 hp;cases this⟩
 exact .inl ⟨rfl,Zhd (h.1 rfl)⟩
theorem row_get(l:List Int)(i:Nat)(h:i<l.length):(l.map (Value.int .i64))[i]?=some (.int .i64 (l.getD i 0)):=by
 simp[Ygg,h]
theorem kind_nil(o:ByteArray)(n:Int)(s:ByteArray)(a:Option Addr)(Ha:Nat)(ho:o≠oIf)(ks:Env Int)(bm:Nat)(w:World)(hM:Zay (Value.int .i64) w bm ks):
  Calls Tryz.prog 99 #[.agg #[.string o,.int .i64 n,.string s,.slice a 0 Ha],.map (some bm)] w λr w'=>r=.returned (.int .i64 (Zct o ((ks s).getD 0) []))/\Ybw w w':=by
 have hif:(o.toList==[105,102])=false:=Zav _ ho;have HK:=Zhd (Zh5 o ((ks s).getD 0) []);generalize Zct o ((ks s).getD 0) []=kb at *;have kU:=hM.alloc (.cells #[.string o,.int .i64 n,.string s,.slice a 0 Ha] 93);have qN:Ybw w (w.alloc (.cells #[.string o,.int .i64 n,.string s,.slice a 0 Ha] 93)):=Yba;have Ht:∀m,(Instr.lookup 124 (.map (some bm)) (.string s) false).run Tryz.prog ((w.alloc (.cells #[.string o,.int .i64 n,.string s,.slice a 0 Ha] 93)).drewN m)=.ok (.int .i64 ((ks s).getD 0)) ((w.alloc (.cells #[.string o,.int .i64 n,.string s,.slice a 0 Ha] 93)).drewN m):=λm=>by
  have:=(kU.drewN m).run (P:=Tryz.prog) Tryz.underlying124 Tryz.underlying9 (d:=0) (by kernel_rfl) s false;simpa using this
 have ja:∀m,Ybw w ((w.alloc (.cells #[.string o,.int .i64 n,.string s,.slice a 0 Ha] 93)).drewN m):=λm=>Zbq qN m;generalize (ks s).getD 0=kv at *;have HR:=Zhd Ht;have HF:=Zhd ja;have HI:=Zhd hif;clear hM kU qN ho Ht ja hif;go_enter Tryz.func99,Tryz.ntmps99;go_wp2_with fail;go_rounds 1
 go_quiet (fail)
 rcases Ybb (o.toList==[105,110,116]) with e0|e0
 .go_wp2_with fail
  all_goals go_ret
  all_goals exact⟨Zaf (by rw[HK.out];unfold Zcb;simp[e0]),HF.out nq⟩
 rcases Ybb (o.toList==[116,114,117,101]) with e1|e1
 .go_wp2_with fail
  all_goals go_ret
  all_goals exact⟨Zaf (by rw[HK.out];unfold Zcb;simp[e0,e1]),HF.out nq⟩
 rcases Ybb (o.toList==[102,97,108,115,101]) with e2|e2
 .go_wp2_with fail
  all_goals go_ret
  all_goals exact⟨Zaf (by rw[HK.out];unfold Zcb;simp[e0,e1,e2]),HF.out nq⟩
 rcases Ybb (o.toList==[110,97,109,101]) with e3|e3
 .have Ht:=HR.out nq;go_wp2_with fail
  all_goals go_ret
  all_goals exact⟨Zaf (by rw[HK.out];unfold Zcb;simp[e0,e1,e2,e3]),HF.out nq⟩
 rcases Ybb (o.toList==[105,102]) with e4|e4
 .exact absurd (e4.symm.trans HI.out) (by decide)
 rcases Ybb (o.toList==[112,114,101]) with e5|e5
 .go_wp2_with fail
  all_goals go_ret
  all_goals exact⟨Zaf (by rw[HK.out];unfold Zcb;simp[e0,e1,e2,e3,e4,e5]),HF.out nq⟩
 rcases Ybb (o.toList==[45,62]) with e6|e6
 .go_wp2_with fail
  all_goals go_ret
  all_goals exact⟨Zaf (by rw[HK.out];unfold Zcb;simp[e0,e1,e2,e3,e4,e5,e6]),HF.out nq⟩
 rcases Ybb (o.toList==[102,98,121]) with e7|e7
 .go_wp2_with fail
  all_goals go_ret
  all_goals exact⟨Zaf (by rw[HK.out];unfold Zcb;simp[e0,e1,e2,e3,e4,e5,e6,e7]),HF.out nq⟩
 rcases Ybb (o.toList==[61]) with e8|e8
 .go_wp2_with fail
  all_goals go_ret
  all_goals exact⟨Zaf (by rw[HK.out];unfold Zcb;simp[e0,e1,e2,e3,e4,e5,e6,e7,e8]),HF.out nq⟩
 rcases Ybb (o.toList==[60,62]) with e9|e9
 .go_wp2_with fail
  all_goals go_ret
  all_goals exact⟨Zaf (by rw[HK.out];unfold Zcb;simp[e0,e1,e2,e3,e4,e5,e6,e7,e8,e9]),HF.out nq⟩
 rcases Ybb (o.toList==[60]) with js|js
 .go_wp2_with fail
  all_goals go_ret
  all_goals exact⟨Zaf (by rw[HK.out];unfold Zcb;simp[e0,e1,e2,e3,e4,e5,e6,e7,e8,e9,js]),HF.out nq⟩
 rcases Ybb (o.toList==[60,61]) with qO|qO
 .go_wp2_with fail
  all_goals go_ret
  all_goals exact⟨Zaf (by rw[HK.out];unfold Zcb;simp[e0,e1,e2,e3,e4,e5,e6,e7,e8,e9,js,qO]),HF.out nq⟩
 rcases Ybb (o.toList==[62]) with yx|yx
 .go_wp2_with fail
  all_goals go_ret
  all_goals exact⟨Zaf (by rw[HK.out];unfold Zcb;simp[e0,e1,e2,e3,e4,e5,e6,e7,e8,e9,js,qO,yx]),HF.out nq⟩
 rcases Ybb (o.toList==[62,61]) with xz|xz
 .go_wp2_with fail
  all_goals go_ret
  all_goals exact⟨Zaf (by rw[HK.out];unfold Zcb;simp[e0,e1,e2,e3,e4,e5,e6,e7,e8,e9,js,qO,yx,xz]),HF.out nq⟩
 rcases Ybb (o.toList==[110,111,116]) with vY|vY
 .go_wp2_with fail
  all_goals go_ret
  all_goals exact⟨Zaf (by rw[HK.out];unfold Zcb;simp[e0,e1,e2,e3,e4,e5,e6,e7,e8,e9,js,qO,yx,xz,vY]),HF.out nq⟩
 rcases Ybb (o.toList==[97,110,100]) with Qc|Qc
 .go_wp2_with fail
  all_goals go_ret
  all_goals exact⟨Zaf (by rw[HK.out];unfold Zcb;simp[e0,e1,e2,e3,e4,e5,e6,e7,e8,e9,js,qO,yx,xz,vY,Qc]),HF.out nq⟩
 rcases Ybb (o.toList==[111,114]) with e16|e16
 .go_wp2_with fail
  all_goals go_ret
  all_goals exact⟨Zaf (by rw[HK.out];unfold Zcb;simp[e0,e1,e2,e3,e4,e5,e6,e7,e8,e9,js,qO,yx,xz,vY,Qc,e16]),HF.out nq⟩
 rcases Ybb (o.toList==[120,111,114]) with e17|e17
 .go_wp2_with fail
  all_goals go_ret
  all_goals exact⟨Zaf (by rw[HK.out];unfold Zcb;simp[e0,e1,e2,e3,e4,e5,e6,e7,e8,e9,js,qO,yx,xz,vY,Qc,e16,e17]),HF.out nq⟩
 rcases Ybb (o.toList==[61,62]) with e18|e18
 .go_wp2_with fail
  all_goals go_ret
  all_goals exact⟨Zaf (by rw[HK.out];unfold Zcb;simp[e0,e1,e2,e3,e4,e5,e6,e7,e8,e9,js,qO,yx,xz,vY,Qc,e16,e17,e18]),HF.out nq⟩
 go_wp2_with fail
 all_goals go_ret
 all_goals exact⟨Zaf (by rw[HK.out];unfold Zcb;simp[e0,e1,e2,e3,e4,e5,e6,e7,e8,e9,js,qO,yx,xz,vY,Qc,e16,e17,e18]),HF.out nq⟩
theorem row_cells{w:World}{base:Nat}{v:Value}{m:Nat}{l:List Int}(h:w.ownsRow base 3 1 v m (l.map (Value.int .i64)))(hl:l.length=m)(hm:0<m):
  ∃g Ha,v=.slice (some ⟨g,0,none⟩) m Ha/\m<=Ha/\Ha<=maxLen/\∀i,i<m->w.cell? ⟨g,i,none⟩=some (.int .i64 (l.getD i 0)):=by
 obtain⟨g,Ha,h1,h2,h3,_,_,h4⟩:=Zbr h hm;exact⟨g,Ha,h1,h2,h3,λi hi=>h4 i _ (row_get l i (by omega))⟩
theorem Zke(l:List Int)(m:Nat)(h:l.length=m+1):l.getLastD 0=l.getD m 0:=by
 rw[List.getLastD_eq_getLast?,List.getLast?_eq_getElem?,h];simp[Ygg]
theorem kind_any:∀(e:Ex),okIf e=true->e.parts<=1000000000000->∀(H:Kn) (v:Value),ExV H e v->∀(ks:Env Int) (bm:Nat) (w:World),H.In w->Zay (Value.int .i64) w bm ks->
  Calls Tryz.prog 99 #[v,.map (some bm)] w λr w'=>r=.returned (.int .i64 (Zai ks e))/\Ybw w w':=by
 refine Ex.ind λo n s l ih J1 hp H v hv ks bm w hH hM=>?_;obtain⟨u,rfl,hu⟩:=hv;simp only[Ex.op,Ex.n,Ex.s,Ex.l] at hu ⊢;simp only[okIf,Bool.and_eq_true,Bool.or_eq_true,decide_eq_true_eq] at J1;by_cases Hs:l=[]
 .subst Hs;obtain⟨a,Ha,rfl⟩:=hu.len;rw[Zir ks o n s [] (by simp[Zap])];exact kind_nil o n s a Ha (by rcases J1.1 with h|h;exact h;simp at h) ks bm w hM
 obtain⟨b,off,Ha,rfl,h1,h2,hc⟩:=hu.cell Hs;obtain⟨m',hm'⟩:∃m',l.length=m'+1:=⟨l.length - 1,by have:=List.length_pos_iff.2 Hs;omega⟩;have HC:=Zhd hc;simp only[Ex.parts] at hp;have IH:=Zhd λx hx=>ih x hx (okIfL_mem J1.2 x hx) (by have:=Zgd hx;omega) H;have Ho:=Zg7 l;have jP:=Zhd J1.1;have HL:=Zhd hm';have Hr:m'+1<=1000000000000:=by omega
 clear hc hu ih J1 Ho hp;rw[hm'] at h1;have kU:Zay (Value.int .i64) (w.alloc (.cells #[.string o,.int .i64 n,.string s,.slice (some ⟨b,off,none⟩) (m'+1) Ha] 93)) bm ks:=hM.alloc _;have qN:Ybw w (w.alloc (.cells #[.string o,.int .i64 n,.string s,.slice (some ⟨b,off,none⟩) (m'+1) Ha] 93)):=Yba;have J6:(w.alloc (.cells #[.string o,.int .i64 n,.string s,.slice (some ⟨b,off,none⟩) (m'+1) Ha] 93)).heap.size=w.heap.size+1:=by simp
 have hq:∀i,i<4->(w.alloc (.cells #[.string o,.int .i64 n,.string s,.slice (some ⟨b,off,none⟩) (m'+1) Ha] 93)).cell? ⟨w.heap.size,i,none⟩=(#[.string o,.int .i64 n,.string s,.slice (some ⟨b,off,none⟩) (m'+1) Ha]:Array Value)[i]?:=λi _=>by rw[World.cell?_alloc_new]
 have HQ:=Zhd hq;rw[hm'];clear hM hm' hq;go_enter Tryz.func99,Tryz.ntmps99;go_wp2_with fail;generalize jO:w.alloc (.cells #[.string o,.int .i64 n,.string s,.slice (some ⟨b,off,none⟩) (m'+1) Ha] 93)=W at *;have HM1:=Zhd kU;have gb:=Zhd qN;have HZ1:=Zhd J6;clear jO kU qN J6;go_loopw[5,13] (λc i wr=>∃k:Nat,i=.int .i64 k/\k<=m'+1/\wr.ownsRow (w.heap.size+1) 3 1 c k ((Zap ks (l.take k)).map (Value.int .i64))/\Below (w.heap.size+1) W wr/\(0:Int)∉Zap ks (l.take k)) (λ_ i _=>m'+1 - (intOf i).toNat)
 case atStart=>exact⟨0,rfl,Nat.zero_le _,World.ownsRow_nil _ _ _ _,Below.refl _ _,by simp[Zap]⟩
 obtain⟨k,rfl,hk,Hb,hb,h0⟩:=hrel;have qS:=hb.size;rw[HZ1.out] at qS;have kL:Ybw w wr:=gb.out.trans (hb.mono (by omega));have H0:=Zhd h0;clear h0;by_cases Hd:k<m'+1
 .have hkl':k<l.length:=by rw[HL.out];exact Hd
  obtain⟨ax,cx,c0,c1,c2,c3,hx⟩:=HC.out k hkl';have Hw:=hH.below kL;have c0:=Hw.cell c0;have c1:=Hw.cell c1;have c2:=Hw.cell c2;have c3:=Hw.cell c3;have KT:=Zhd (Zgn ks l k hkl');have KZ:=Zhd (kindOf_zero ks o n s l k hkl');have Hl:=Ymm hkl';generalize l[k]=x at *;have HMr:=Zhd (HM1.out.of_block (w':=wr) (hb.block _ (by have:=HM1.out.lt;rw[HZ1.out] at this;exact this)));obtain⟨c',Hh,rfl,Qv,vF⟩:=Zar Hb;go_wp2_with fail;refine(IH.out x Hl _ hx ks bm _ (Hw.alloc _) (HMr.out.alloc _)).mono ?_;rintro r w2 ⟨rfl,Hm⟩;have xq:Below (w.heap.size+1) W w2:=(hb.alloc qS _).trans (Hm.mono (by simp;omega));have ju:=Za1 (Hb.alloc _) Hm;have Ju:=xq.size;rw[HZ1.out] at Ju;have ja:Ybw w w2:=gb.out.trans (xq.mono (by omega));by_cases jh:Zai ks x=0
  .have KE:=Zhd (KZ.out jh);have hx0':(Zai ks x==0)=true:=by simpa using jh
   clear jh;generalize Zai ks x=kx at *;go_wp2_with fail;go_ret;exact⟨Zaf KE.out.symm,ja⟩
  have yz:=Zhd jh;have hx0':(Zai ks x==0)=false:=by simpa using jh
  clear jh;generalize Zai ks x=kx at *;go_wp2_with(at_builtin;refine app1 122 3 1 8 _ Tryz.underlying122 Tryz.infoInt rfl (by decide) _ _ rfl rfl (w.heap.size+1) _ _ _ rfl (ju.alloc _) ⟨w2.heap.size,0,none⟩ 1 [.int .i64 kx] rfl rfl ?c1 ?c2 ?c3 ?c4 ?c5 ?_)
  case c1=>exact Zf5 _ _ _
  case c2=>simp[Value.oneCell']
  case c3=>omega
  case c4=>omega
  case c5=>simp;omega
  intro v' w3 hown3 JP;have Jg:Below (w.heap.size+1) W w3:=(xq.alloc (by omega) _).grown JP (by simp;omega) (λj hj=>(ju.lt j hj).1);go_wp2_with fail;go_roundw
  case rel=>exact⟨k+1,by go_num,by omega,by rw[KT.out,List.map_append];exact hown3,Jg,by rw[KT.out];intro hc;rcases List.mem_append.1 hc with h|h;exact H0.out h;simp at h;exact yz.out h.symm⟩
  simp[intOf];omega
 obtain rfl:k=m'+1:=by omega
 have kB:l.take (m'+1)=l:=by rw[<- HL.out];exact List.take_length
 rw[kB] at Hb;have HNZ:=Zhd (show(0:Int)∉Zap ks l from by rw[<- kB];exact H0.out);have xZ:=Zhd (show(Zap ks l).length=m'+1 from by rw[Ze5,HL.out]);obtain⟨g,Hh,rfl,hcap,Qv,JF⟩:=row_cells Hb xZ.out (by omega);have JM:=Zke _ _ xZ.out;have HK:=Zhd ((Zir ks o n s l HNZ.out).trans (Zh5 o ((ks s).getD 0) (Zap ks l)));rw[xZ.out,JM,show decide (0<m'+1)=true from by simp,Bool.true_and,show(Zap ks l).headD 0=(Zap ks l).getD 0 0 from by cases Zap ks l<;>rfl] at HK
 have d0:=JF 0 (by omega);have dl:=JF m' (by omega);have HIF:=Zhd (show(o.toList==[105,102])=true->wr.cell? ⟨g,1,none⟩=some (.int .i64 ((Zap ks l).getD 1 0))/\wr.cell? ⟨g,2,none⟩=some (.int .i64 ((Zap ks l).getD 2 0))/\(2:Int)<(m':Int)+1 from λe4=>by
  have h3:l.length=3:=by
   rcases jP.out with h|h
   .exact absurd (Zav _ h) (by rw[e4];decide)
   exact h
  rw[HL.out] at h3;exact⟨JF 1 (by omega),JF 2 (by omega),by omega⟩)
 have HMr:=Zhd (HM1.out.of_block (w':=wr) (hb.block _ (by have:=HM1.out.lt;rw[HZ1.out] at this;exact this)));have HR:=Zhd (show ∀m,(Instr.lookup 124 (.map (some bm)) (.string s) false).run Tryz.prog (wr.drewN m)=.ok (.int .i64 ((ks s).getD 0)) (wr.drewN m) from λm=>by
  have:=(HMr.out.drewN m).run (P:=Tryz.prog) Tryz.underlying124 Tryz.underlying9 (d:=0) (by kernel_rfl) s false;simpa using this)
 have HF:=Zhd (show ∀m,Ybw w (wr.drewN m) from λm=>Zbq kL m);have q0:wr.cell? ⟨w.heap.size,0,none⟩=some (.string o):=by rw[hb.cell (p:=⟨w.heap.size,0,none⟩) (by simp),HQ.out 0 (by omega)];rfl
 have q2:wr.cell? ⟨w.heap.size,2,none⟩=some (.string s):=by rw[hb.cell (p:=⟨w.heap.size,2,none⟩) (by simp),HQ.out 2 (by omega)];rfl
 generalize (Zap ks l).getD 0 0=r0 at *;generalize (Zap ks l).getD 1 0=r1 at *;generalize (Zap ks l).getD 2 0=r2 at *;generalize (Zap ks l).getD m' 0=rl at *;generalize (ks s).getD 0=kv at *;clear JM kB JF Hb jP HC IH;have hs20:(r0==rl)=decide (r0=rl):=by by_cases h:r0=rl<;>simp[h]
 rw[<- hs20] at HK;clear hs20;go_wp2_with fail;go_quiet (fail)
 rcases Ybb (o.toList==[105,110,116]) with e0|e0
 .go_wp2_with fail;go_ret;exact⟨Zaf (by rw[HK.out];unfold Zcb;(simp[e0];try omega)),HF.out _⟩
 rcases Ybb (o.toList==[116,114,117,101]) with e1|e1
 .go_wp2_with fail;go_ret;exact⟨Zaf (by rw[HK.out];unfold Zcb;(simp[e0,e1];try omega)),HF.out _⟩
 rcases Ybb (o.toList==[102,97,108,115,101]) with e2|e2
 .go_wp2_with fail;go_ret;exact⟨Zaf (by rw[HK.out];unfold Zcb;(simp[e0,e1,e2];try omega)),HF.out _⟩
 rcases Ybb (o.toList==[110,97,109,101]) with e3|e3
 .have Ht:=HR.out nq;go_wp2_with fail;go_ret;exact⟨Zaf (by rw[HK.out];unfold Zcb;(simp[e0,e1,e2,e3];try omega)),HF.out _⟩
 rcases Ybb (o.toList==[105,102]) with e4|e4
 .obtain⟨d1,d2,h3⟩:=HIF.out e4;rcases Zbf (r0==1) (r0=1) (by simp) with ⟨t0,S0⟩|⟨t0,S0⟩
  all_goals
   rcases Zbf (r1==r2) (r1=r2) (by simp) with ⟨t1,S1⟩|⟨t1,S1⟩
   all_goals
    go_wp2_with fail;go_quiet (fail)
    go_wp2_with fail;go_ret;exact⟨Zaf (by rw[HK.out];unfold Zcb;have s0:=S0.out;have s1:=S1.out;(simp[e0,e1,e2,e3,e4,s0,s1];try omega)),(by first|exact HF.out _|exact Zbq (HF.out _) _)⟩
 rcases Ybb (o.toList==[112,114,101]) with e5|e5
 .rcases Zbf (r0==rl) (r0=rl) (by simp) with ⟨t0,S0⟩|⟨t0,S0⟩
  all_goals
   go_wp2_with fail;go_ret;exact⟨Zaf (by rw[HK.out];unfold Zcb;have s0:=S0.out;(simp[e0,e1,e2,e3,e4,e5,s0];try omega)),HF.out _⟩
 rcases Ybb (o.toList==[45,62]) with e6|e6
 .rcases Zbf (r0==rl) (r0=rl) (by simp) with ⟨t0,S0⟩|⟨t0,S0⟩
  all_goals
   go_wp2_with fail;go_ret;exact⟨Zaf (by rw[HK.out];unfold Zcb;have s0:=S0.out;(simp[e0,e1,e2,e3,e4,e5,e6,s0];try omega)),HF.out _⟩
 rcases Ybb (o.toList==[102,98,121]) with e7|e7
 .rcases Zbf (r0==rl) (r0=rl) (by simp) with ⟨t0,S0⟩|⟨t0,S0⟩
  all_goals
   go_wp2_with fail;go_ret;exact⟨Zaf (by rw[HK.out];unfold Zcb;have s0:=S0.out;(simp[e0,e1,e2,e3,e4,e5,e6,e7,s0];try omega)),HF.out _⟩
 rcases Ybb (o.toList==[61]) with e8|e8
 .rcases Zbf (r0==rl) (r0=rl) (by simp) with ⟨t0,S0⟩|⟨t0,S0⟩
  all_goals
   go_wp2_with fail;go_ret;exact⟨Zaf (by rw[HK.out];unfold Zcb;have s0:=S0.out;(simp[e0,e1,e2,e3,e4,e5,e6,e7,e8,s0];try omega)),HF.out _⟩
 rcases Ybb (o.toList==[60,62]) with e9|e9
 .rcases Zbf (r0==rl) (r0=rl) (by simp) with ⟨t0,S0⟩|⟨t0,S0⟩
  all_goals
   go_wp2_with fail;go_ret;exact⟨Zaf (by rw[HK.out];unfold Zcb;have s0:=S0.out;(simp[e0,e1,e2,e3,e4,e5,e6,e7,e8,e9,s0];try omega)),HF.out _⟩
 rcases Ybb (o.toList==[60]) with js|js
 .rcases Zbf (r0==rl) (r0=rl) (by simp) with ⟨t0,S0⟩|⟨t0,S0⟩
  all_goals
   rcases Zbf (r0==2) (r0=2) (by simp) with ⟨t1,S1⟩|⟨t1,S1⟩
   all_goals
    go_wp2_with fail;go_ret;exact⟨Zaf (by rw[HK.out];unfold Zcb;have s0:=S0.out;have s1:=S1.out;(simp[e0,e1,e2,e3,e4,e5,e6,e7,e8,e9,js,s0,s1];try omega)),HF.out _⟩
 rcases Ybb (o.toList==[60,61]) with qO|qO
 .rcases Zbf (r0==rl) (r0=rl) (by simp) with ⟨t0,S0⟩|⟨t0,S0⟩
  all_goals
   rcases Zbf (r0==2) (r0=2) (by simp) with ⟨t1,S1⟩|⟨t1,S1⟩
   all_goals
    go_wp2_with fail;go_ret;exact⟨Zaf (by rw[HK.out];unfold Zcb;have s0:=S0.out;have s1:=S1.out;(simp[e0,e1,e2,e3,e4,e5,e6,e7,e8,e9,js,qO,s0,s1];try omega)),HF.out _⟩
 rcases Ybb (o.toList==[62]) with yx|yx
 .rcases Zbf (r0==rl) (r0=rl) (by simp) with ⟨t0,S0⟩|⟨t0,S0⟩
  all_goals
   rcases Zbf (r0==2) (r0=2) (by simp) with ⟨t1,S1⟩|⟨t1,S1⟩
   all_goals
    go_wp2_with fail;go_ret;exact⟨Zaf (by rw[HK.out];unfold Zcb;have s0:=S0.out;have s1:=S1.out;(simp[e0,e1,e2,e3,e4,e5,e6,e7,e8,e9,js,qO,yx,s0,s1];try omega)),HF.out _⟩
 rcases Ybb (o.toList==[62,61]) with xz|xz
 .rcases Zbf (r0==rl) (r0=rl) (by simp) with ⟨t0,S0⟩|⟨t0,S0⟩
  all_goals
   rcases Zbf (r0==2) (r0=2) (by simp) with ⟨t1,S1⟩|⟨t1,S1⟩
   all_goals
    go_wp2_with fail;go_ret;exact⟨Zaf (by rw[HK.out];unfold Zcb;have s0:=S0.out;have s1:=S1.out;(simp[e0,e1,e2,e3,e4,e5,e6,e7,e8,e9,js,qO,yx,xz,s0,s1];try omega)),HF.out _⟩
 rcases Ybb (o.toList==[110,111,116]) with vY|vY
 .rcases Zbf (r0==rl) (r0=rl) (by simp) with ⟨t0,S0⟩|⟨t0,S0⟩
  all_goals
   rcases Zbf (r0==1) (r0=1) (by simp) with ⟨t1,S1⟩|⟨t1,S1⟩
   all_goals
    go_wp2_with fail;go_ret;exact⟨Zaf (by rw[HK.out];unfold Zcb;have s0:=S0.out;have s1:=S1.out;(simp[e0,e1,e2,e3,e4,e5,e6,e7,e8,e9,js,qO,yx,xz,vY,s0,s1];try omega)),HF.out _⟩
 rcases Ybb (o.toList==[97,110,100]) with Qc|Qc
 .rcases Zbf (r0==rl) (r0=rl) (by simp) with ⟨t0,S0⟩|⟨t0,S0⟩
  all_goals
   rcases Zbf (r0==1) (r0=1) (by simp) with ⟨t1,S1⟩|⟨t1,S1⟩
   all_goals
    go_wp2_with fail;go_ret;exact⟨Zaf (by rw[HK.out];unfold Zcb;have s0:=S0.out;have s1:=S1.out;(simp[e0,e1,e2,e3,e4,e5,e6,e7,e8,e9,js,qO,yx,xz,vY,Qc,s0,s1];try omega)),HF.out _⟩
 rcases Ybb (o.toList==[111,114]) with e16|e16
 .rcases Zbf (r0==rl) (r0=rl) (by simp) with ⟨t0,S0⟩|⟨t0,S0⟩
  all_goals
   rcases Zbf (r0==1) (r0=1) (by simp) with ⟨t1,S1⟩|⟨t1,S1⟩
   all_goals
    go_wp2_with fail;go_ret;exact⟨Zaf (by rw[HK.out];unfold Zcb;have s0:=S0.out;have s1:=S1.out;(simp[e0,e1,e2,e3,e4,e5,e6,e7,e8,e9,js,qO,yx,xz,vY,Qc,e16,s0,s1];try omega)),HF.out _⟩
 rcases Ybb (o.toList==[120,111,114]) with e17|e17
 .rcases Zbf (r0==rl) (r0=rl) (by simp) with ⟨t0,S0⟩|⟨t0,S0⟩
  all_goals
   rcases Zbf (r0==1) (r0=1) (by simp) with ⟨t1,S1⟩|⟨t1,S1⟩
   all_goals
    go_wp2_with fail;go_ret;exact⟨Zaf (by rw[HK.out];unfold Zcb;have s0:=S0.out;have s1:=S1.out;(simp[e0,e1,e2,e3,e4,e5,e6,e7,e8,e9,js,qO,yx,xz,vY,Qc,e16,e17,s0,s1];try omega)),HF.out _⟩
 rcases Ybb (o.toList==[61,62]) with e18|e18
 .rcases Zbf (r0==rl) (r0=rl) (by simp) with ⟨t0,S0⟩|⟨t0,S0⟩
  all_goals
   rcases Zbf (r0==1) (r0=1) (by simp) with ⟨t1,S1⟩|⟨t1,S1⟩
   all_goals
    exact mKind1
 rcases Zbf (r0==rl) (r0=rl) (by simp) with ⟨t0,S0⟩|⟨t0,S0⟩
 all_goals
  rcases Zbf (r0==2) (r0=2) (by simp) with ⟨t1,S1⟩|⟨t1,S1⟩
  all_goals
   exact mKind1
end Go.Proofs.YtafapnolamcdmaaGreatDoor
