/- A machine of package step in memory; rows of values that are joined; walks: (*flow.Code).Memories, slices.Clone of values, lustrumlaw2.values. -/
import Derived.Test.YtafapnolamcdmaaGreatDoorVsA
import Derived.Test.YtafapnolamcdmaaGreatDoorTk
import Derived.Test.YtafapnolamcdmaaGreatDoorCo
set_option linter.all false
namespace Go.Proofs.YtafapnolamcdmaaGreatDoor
set_option maxRecDepth 100000
set_option maxHeartbeats 16000000
open Go.RowKit Mx
theorem outs_news{K:Kn}{W:World}(hK:K.In W){l:List Int}{b off c:Nat}(h:Zks K l (.slice (some ⟨b,off,none⟩) l.length c)):∀j u,(l.map (Value.int .i64))[j]?=some u->W.cell? ((⟨b,off,none⟩:Addr).add j)=some u:=λj u hu=>by
 rw[Zc6];have hj:j<l.length:=by
  rcases Nat.lt_or_ge j l.length with h1|h1
  .exact h1
  rw[List.getElem?_eq_none (by simpa using h1)] at hu;cases hu
 obtain⟨b2,qR,e2,_,d0⟩:=SlV.at h hj;cases e2;have d0:K.cell b (off+j * 1+0)=some (.int .i64 l[j]):=d0;simp only[Nat.mul_one,Nat.add_zero] at d0;rw[hK.cell d0];rw[List.getElem?_map,List.getElem?_eq_getElem hj] at hu;exact hu
theorem run_app_ints{K:Kn}{W:World}(hK:K.In W){l:List Int}{a:Option Addr}{c:Nat}(h:Zks K l (.slice a l.length c)){base n:Nat}{v:Value}{xs:List Value}(Hb:W.ownsRow base 3 1 v n xs)(Jl:base<=W.heap.size)(hl:n+l.length<=1000000000):
  ∃v' W',(∀ty,(Builtin.append_ #[122,122] ty #[v,.slice a l.length c]).run Tryz.prog W=.ok v' W')/\W'.ownsRow base 3 1 v' (n+l.length) (xs++l.map (Value.int .i64))/\W.grownBy W' v.ownBlock:=by
 obtain⟨i1,qx,vp,zo,zU⟩:=info_parts Tryz.infoInt;by_cases h0:l=[]
 .subst h0;exact⟨v,W,λty=>Zbn 122 3 i1 Tryz.underlying122 qx Hb a c ty,by simpa using Hb,⟨rfl,rfl,rfl,Nat.le_refl _,λ_ _ _=>rfl⟩⟩
 have Ho:0<l.length:=List.length_pos_iff.2 h0;obtain⟨b,off,he,_⟩:=SlV.at h Ho;subst he;have Ht:=λty=>run_append_lies (P:=Tryz.prog) W 122 ty base 3 i1 _ 1 8 Tryz.underlying122 qx vp zo zU rfl (by omega) v n xs Hb ⟨b,off,none⟩ l.length c (l.map (Value.int .i64)) (by simp) (outs_news hK h) (λu hu=>by obtain⟨x,_,rfl⟩:=List.mem_map.1 hu;rfl) Ho (by unfold maxLen;omega) (by omega) Jl W.heap.size rfl;obtain⟨g,Hh,W',h1,h2,h3,h4,h5⟩:=Ht 0;exact⟨_,W',λty=>h1,h2,h3⟩
theorem ints_row{w:World}{base n:Nat}{T:TypeId}{v:Value}{l:List Int}(h:w.ownsRow base T 1 v l.length (l.map (Value.int .i64)))(hn:n<=base):Zks (Zb3 n w) l v:=
 slv_new h hn λi hi f hf=>hf 0 _ (by rw[Nat.mul_one,Nat.add_zero,List.getElem?_map,List.getElem?_eq_getElem hi];rfl)
theorem step_append_run{P:Program}{w:World}{ops:Array Oper}{o:Oper}{a:Act}{K:Act->World->Prop}{Q:Exit->Act->World->Prop}{E:Prop}(hg:o.guard=none)(t u:TypeId)(x y:Operand)
  (yI:o.op=.call { callee:=.builtin .append,args := #[x,y],argTypes := #[t,u] }) (v1 v2:Value) (h1:a.eval x=v1) (h2:a.eval y=v2) (v:Value) (w':World)
  (Ht:∀ty,(Builtin.append_ #[t,u] ty #[v1,v2]).run P w=.ok v w') (hK:K (a.put o.dst v) w'):if Region.wanted o (yielded ops a.tmps)=true then Oper.wp P o a w K Q else E:=by
 have hw:Region.wanted o (yielded ops a.tmps)=true:=by simp[Region.wanted,hg]
 rw[if_pos hw];have hr:=Ht o.type;unfold Oper.wp;simp[execOp,yI,resolve,invoke,builtin,h1,h2,hr,Result.andThen];exact hK
def mcV(R:REnv)(B:Nat)(s:Mc)(vm:Value):Array Value := #[ptrV B,.bool R.nb,.int .i64 R.ni,.bool s.first,vm,.bool s.trapped]
structure McAt(MT NT CT:TypeId)(R:REnv)(p:Pr)(ord:List Nat)(K:Kn)(w:World)(M B:Nat)(s:Mc)(vm:Value):Prop where
 box:w.heap[M]?=some (.cells (mcV R B s vm) MT (0,0))
 isin:K.In w
 no:K M=none
 code:CodeAt NT CT R K p ord B
 mem:VlsV K s.mem vm
 len:s.mem.length=Zag p.terms
theorem Ziv{K:Kn}{w w':World}{M:Nat}(h:K.In w)(g:Gr2 w w' M none)(hM:K M=none):(Zbt K w.heap.size w').In w':=λb o e=>by
 unfold Zbt at e
 split at e
 .rename_i hb
  rw[g.block b hb (λe2=>by rw[e2,hM] at e;cases e) (by simp)];exact h b o e
 exact e
theorem Ziw{K:Kn}{n:Nat}{w:World}{M:Nat}(h:M<n):Zbt K n w M=K M:=by unfold Zbt;rw[if_pos h]
section
variable {MT NT CT : TypeId} {R : REnv} {p : Pr} {ord : List Nat} {K : Kn} {w : World} {M B : Nat} {s : Mc} {vm : Value}
theorem McAt.lt(h:McAt MT NT CT R p ord K w M B s vm):M<w.heap.size:=(Zlt h.box)
theorem McAt.cell(h:McAt MT NT CT R p ord K w M B s vm)(i:Nat):w.cell? ⟨M,i,none⟩=(mcV R B s vm)[i]?:=by simp[World.cell?,h.box]
theorem McAt.below{w':World}(h:McAt MT NT CT R p ord K w M B s vm)(hb:Ybw w w'):McAt MT NT CT R p ord K w' M B s vm:=
 ⟨(hb.block M h.lt).trans h.box,h.isin.below hb,h.no,h.code,h.mem,h.len⟩
theorem McAt.join{w':World}(h:McAt MT NT CT R p ord K w M B s vm)(hb:Ybw w w'):McAt MT NT CT R p ord (Zbt K w.heap.size w') w' M B s vm:=
 ⟨(hb.block M h.lt).trans h.box,Ziu h.isin hb,by rw[Ziw h.lt];exact h.no,h.code.le (Zb6 h.isin w'),SlV.le h.mem (Zb6 h.isin w') VlC.mono,h.len⟩
theorem McAt.grown{w':World}{u:Value}(h:McAt MT NT CT R p ord K w M B s vm)(hg:w.grownBy w' u.ownBlock)(hu:∀g,u.ownBlock=some g->K g=none/\g≠M):McAt MT NT CT R p ord K w' M B s vm:=
 ⟨(hg.block M h.lt (λe=>(hu M e.symm).2 rfl)).trans h.box,h.isin.grown hg (λg e=>(hu g e).1),h.no,h.code,h.mem,h.len⟩
def mcKn(K:Kn)(MT:TypeId)(R:REnv)(M B:Nat)(s:Mc)(vm:Value):Kn:=K.add M (.cells (mcV R B s vm) MT (0,0))
theorem McAt.kn(h:McAt MT NT CT R p ord K w M B s vm):(mcKn K MT R M B s vm).In w:=h.isin.add h.box
theorem mcKn_le(hM:K M=none):K.le (mcKn K MT R M B s vm):=Kn.le_add hM
theorem Zeq(i:Nat):(mcKn K MT R M B s vm).cell M i=(mcV R B s vm)[i]?:=by unfold mcKn Kn.cell;rw[Kn.add_self]
end
theorem Gr2.below{a w w':World}{base M:Nat}(h:Below base a w)(g:Gr2 w w' M none)(hM:base<=M)(hb:base<=w.heap.size):Below base a w':=
 ⟨g.os.trans h.os,g.tape.trans h.tape,g.output.trans h.output,Nat.le_trans h.size g.size,λi hi=>by
  rw[g.block i (by omega) (by omega) (by simp)];exact h.block i hi⟩
theorem memories_any(R:REnv)(H:Kn)(B:Nat)(cs:Array Value)(ms:List (Ex×Nat))(vm:Value)(hB:H B=some (.cells cs 126 (0,0)))(jv:cs[10]?=some vm)(hm:NdsV 168 R H ms vm)(hl:ms.length<=1000000000)(w:World)(hH:H.In w):
  Calls Tryz.prog 47 #[.pointer (some ⟨B,0,none⟩)] w λr w'=>∃v,r=.returned v/\Zks (Zb3 w.heap.size w') (ms.map λx=>Zai R.ks x.1) v/\Ybw w w':=by
 obtain⟨a,c,rfl⟩:=hm.len;have HM:=Zhd hm;have g10:=hH.cell (b:=B) (i:=10) (v:=.slice a ms.length c) (by unfold Kn.cell;rw[hB];exact jv);have zj:B<w.heap.size:=hH.lt hB;clear hm;go_enter Tryz.func47,Tryz.ntmps47;go_wp2_with fail;clear g10;go_loopw[3,11] (λu i wr=>∃k:Nat,i=.int .i64 k/\k<=ms.length/\Ybw w wr/\wr.ownsRow w.heap.size 3 1 u k (((ms.take k).map λx=>Zai R.ks x.1).map (Value.int .i64))) (λ_ i _=>ms.length - (intOf i).toNat)
 case atStart=>exact⟨0,rfl,Nat.zero_le _,Below.refl _ _,World.ownsRow_nil _ _ _ _⟩
 obtain⟨k,rfl,hk,hb,Jd⟩:=hrel;have HB:=Zhd hb;have HR:=Zhd Jd;clear hb Jd;by_cases Hd:k<ms.length
 .obtain⟨au,cu,J9,_⟩:=Zar HR.out;subst J9;obtain⟨b,off,rfl,_,q,JE,kY⟩:=SlV.at HM.out Hd;have JE:H.cell b (off+k * 1+0)=some (ptrV q):=JE;simp only[Nat.mul_one,Nat.add_zero] at JE;obtain⟨lv,pv,hqH,_⟩:=kY.open;have Hw:=hH.below HB.out;have c0:=Hw.cell JE;have c5:wr.cell? ⟨q,5,none⟩=some (.int .i64 (Zai R.ks ms[k].1)):=Hw.cell (by unfold Kn.cell;rw[hqH];rfl);have hsn:((ms.take (k+1)).map λx=>Zai R.ks x.1).map (Value.int .i64)=((ms.take k).map λx=>Zai R.ks x.1).map (Value.int .i64)++[.int .i64 (Zai R.ks ms[k].1)]:=by
   rw[List.take_succ_eq_append_getElem Hd,List.map_append,List.map_append];rfl
  have y9:=Zhd hsn;generalize ((ms.take k).map λx=>Zai R.ks x.1).map (Value.int .i64)=xs at *;have hr2:=Za1 HR.out ((Below.refl wr.heap.size wr).alloc Ylr (.cells #[.int .i64 (Zai R.ks ms[k].1)] 3));have qc:=Zhd hr2;have J5:=HB.out.size;clear hsn kY hqH hr2;generalize Zai R.ks ms[k].1=kd at *;go_wp2_with(at_builtin;refine Zgs 122 3 1 8 _ Tryz.underlying122 Tryz.infoInt rfl (by decide) _ _ rfl rfl w.heap.size _ _ _ rfl qc.out ⟨wr.heap.size,0,none⟩ 1 [.int .i64 kd] rfl rfl ?c1 ?c2 ?c3 ?c4 ?c5 ?_)
  case c2=>simp[Value.oneCell']
  case c3=>omega
  case c4=>omega
  case c5=>omega
  intro g Hh w3 ho JP hJ;have HW3:=Zhd (show Ybw w w3 from((HB.out.alloc HB.out.size _).grown JP (by simp;omega) (λq hq=>(qc.out.lt q hq).1)));go_wp2_with fail;go_roundw
  case rel=>exact⟨k+1,by go_num,by omega,HW3.out,by rw[y9.out];exact ho⟩
  simp[intOf];omega
 obtain rfl:k=ms.length:=by omega
 have hr:=HR.out;rw[List.take_of_length_le Ylr] at hr;have HV:=Zhd (ints_row (n:=w.heap.size) (l:=ms.map λx=>Zai R.ks x.1) (by rw[List.length_map];exact hr) Ylr);clear hr;go_wp2_with fail;go_ret;exact⟨_,rfl,HV.out,HB.out⟩
theorem cloneV_any(H:Kn)(l:List Vl)(v:Value)(hv:VlsV H l v)(hl:l.length<=1000000000)(w:World)(hH:H.In w):
  Calls Tryz.prog 48 #[v] w λr w'=>∃v',r=.returned v'/\VlsV (Zb3 w.heap.size w') l v'/\Ybw w w':=by
 have JU:(w.alloc (.cells #[] 101)).ownsRow w.heap.size 101 2 (.slice (some ⟨w.heap.size,0,none⟩) 0 0) 0 []:=World.ownsRow_made w #[] 0 Ylr (Nat.zero_le _) rfl;obtain⟨a,c,rfl⟩:=hv.len;have Hg:Ybw w (w.alloc (.cells #[] 101)):=Yba;obtain⟨v',W',Ht,Hb,hg⟩:=run_app_vls (hH.below Hg) hv JU (by simp) (by omega);have HB:=Zhd (show Ybw w W' from Hg.grown hg (by simp) (λq hq=>(JU.lt q hq).1));have HV:=Zhd (vls_row (n:=w.heap.size) (l:=l) (by simpa using Hb) Ylr);have kr:=Zhd Ht;have h0:a=none->l=[]:=λe=>by
  subst e;rcases hv with ⟨h,_⟩|⟨b,off,Ha,h,_⟩
  .exact h
  cases h
 have HE:=Zhd h0;clear hv JU Hg Ht Hb hg h0;cases a with
 |none=>
  have hl0:=HE.out rfl;subst hl0;have he:=λw=>Lib.run_eql_slice_nil (P:=Tryz.prog) w 31 101 none 0 c 0 0 Tryz.underlying31;go_enter Tryz.func48,Tryz.ntmps48;go_wp2_with fail;go_ret;exact⟨_,rfl,.inl ⟨rfl,none,0,rfl⟩,Below.refl _ _⟩
 |some ad=>
  have he:=λw=>Lib.run_eql_slice_nil (P:=Tryz.prog) w 31 101 (some ad) l.length c 0 0 Tryz.underlying31;go_enter Tryz.func48,Tryz.ntmps48;go_wp2_with(at_builtin;refine Zbi rfl 31 31 _ _ rfl _ _ rfl rfl _ _ kr.out ?_);go_ret;exact⟨_,rfl,HV.out,HB.out⟩
theorem mRu1{p:Prop}(h:p:=by
 go_wp2_with fail;go_quiet (fail)
 go_wp2_with fail
 all_goals go_ret2
 all_goals unfold Zgt
 all_goals rw[HX.out]
 all_goals exact⟨by first|exact Jn.out.drew|exact Zbq Jn.out _,_,rfl,.inl ⟨rfl,rfl⟩⟩):p:=h
theorem Tryz.infoTk:(Tryz.prog.info? 83).map (λi=>(i.zero,i.size,i.bytes))=some (some (.agg #[Ys0,.bool false,.bool false,Ys0]),4,56):=by kernel_rfl
theorem run_any(H:Kn)(T:Zbv H)(sp:Nat->Addr)(p:Pr)(vi vo vl va vc:Value)(hp:PrP H p vi vo vl va vc)(ins:List (List Vl))(vin:Value)(hi:InsV H ins vin)(w:World)(hH:H.In w)(S:Sen5 w sp)(nb:Bool)(ni:Int)
  (J5:p.ins.length<=1000000/\p.fl.length<=1000000/\p.outs.length<=1000000000/\p.as.length<=1000000/\p.cs.length<=1000000/\∀l∈ins,l.length<=1000000) (kZ:Ex.partsL p.terms<=1000000000):
  Calls Tryz.prog 40 #[.agg #[vi,vo,vl,va,vc],vin,.bool nb,.int .i64 ni] w (Zgt sp nb ni p ins w):=by
 obtain⟨z1,z2,z3,z4,z5,z6⟩:=J5;have HP:=Zhd hp;obtain⟨h1,h2,h3,h4,h5⟩:=hp;obtain⟨ai,ci,ao,co,al,cl,aa,ca,ac,cc,rfl,rfl,rfl,rfl,rfl⟩:=Ypo h1.len h2.len h3.len h4.len h5.len;obtain⟨an,cn,rfl⟩:=hi.len;have HI:=Zhd hi;clear h1 h2 h3 h4 h5 hi;go_enter Tryz.func40,Tryz.ntmps40;go_wp2_with fail;have Hg:Ybw w (w.alloc (.cells (Yq5 p ai ao al aa ac ci co cl ca cc) 42)):=Yba;refine(compile_any H T sp p _ _ _ _ _ HP.out _ (hH.below Hg) (S.below Hg) nb ni ⟨z1,z2,z3,z4,z5⟩ kZ).mono ?_;rintro r w1 ⟨Hv,Hx⟩;have Jn:=Zhd (Hg.trans (Hv.mono (by simp)));have J6:w.heap.size+1<=w1.heap.size:=by have:=Hv.size;simp at this;omega
 have S1:=S.below Jn.out;clear Hg Hv;by_cases ze:(Za2 p).1=0
 case neg=>
  rw[if_neg ze] at Hx;obtain⟨v,rfl,hv⟩:=Hx;have HV:=Zhd hv;have HX:=Zhd (show runE p ins ni=Za2 p from by unfold runE;rw[if_pos ze]);obtain⟨tv,pv,qu⟩:∃tv pv,v=.iface tv pv:=by
   rcases hv with ⟨_,h⟩|⟨_,N,h,_⟩
   .obtain⟨c,hc⟩:∃c,(Za2 p).1=c+1:=⟨(Za2 p).1 - 1,by omega⟩;rw[hc,Zfk] at h;exact⟨_,_,h⟩
   exact⟨_,_,h⟩
  subst qu;clear hv;go_wp2_with fail;go_ret2
  unfold Zgt;rw[HX.out,if_neg ze];exact⟨Jn.out,_,rfl,HV.out⟩
 rw[if_pos ze] at Hx;obtain⟨B,ks,ord,hks,ho,rfl,hC,gy⟩:=Hx;have gP:=Zhd hks;have HO:=Zhd ho;have HC:=Zhd hC;have yz:=Zhd (show runE p ins ni=if 300<ins.length\/ni < -128\/127<ni then(2, -1) else match ins.findIdx? (λl => !Zas p.ins l l.length) with|some i=>(5,(i:Int))|none=>(0, -1) from by unfold runE;rw[if_neg (λh=>h ze)]<;>rfl)
 have HC0:=Zhd ze;clear hks ho hC ze;have c1:=S1.c1;by_cases jK:300<ins.length
 .have q1:(300:Int)<ins.length:=by omega
  have HX:=Zhd (show runE p ins ni=(2, -1) from by rw[yz.out,if_pos (.inl jK)]);exact mRu1
 by_cases qt:ni < -128
 .have q1:¬(300:Int)<ins.length:=by omega
  have HX:=Zhd (show runE p ins ni=(2, -1) from by rw[yz.out,if_pos (.inr (.inl qt))]);exact mRu1
 by_cases hx3:127<ni
 .have q1:¬(300:Int)<ins.length:=by omega
  have HX:=Zhd (show runE p ins ni=(2, -1) from by rw[yz.out,if_pos (.inr (.inr hx3))]);exact mRu1
 have q1:¬(300:Int)<ins.length:=by omega
 have yz:=Zhd (show runE p ins ni=match ins.findIdx? (λl => !Zas p.ins l l.length) with|some i=>(5,(i:Int))|none=>(0, -1) from by rw[yz.out,if_neg (by omega)]);have HK0:=Zhd (show H.le (Zan w1) from all_of (hH.below Jn.out));clear c1;go_wp2_with fail;clear q1 qt hx3;go_loopw[43] (λi wr=>∃k:Nat,i=.int .i64 k/\k<=ins.length/\Ybw w1 wr/\∀j (hj:j<ins.length),j<k->Zas p.ins ins[j] ins[j].length=true) (λi _=>ins.length - (intOf i).toNat)
 case atStart=>exact⟨0,rfl,Nat.zero_le _,Below.refl _ _,λj _ h=>by omega⟩
 obtain⟨k,rfl,hk,hb,Jo⟩:=hrel;have HB:=Zhd hb;have JR:=Zhd Jo;have JD:=Zhd (Jn.out.trans (hb.mono (by omega)));clear hb Jo;by_cases Hd:k<ins.length
 .obtain⟨b,off,jE,_,v,c0,hv⟩:=SlV.at HI.out Hd;have c0:H.cell b (off+k * 1+0)=some v:=c0;simp only[Nat.mul_one,Nat.add_zero] at c0;have HLN:=Zhd (show ins[k].length<=1000000 from z6 _ (Ymm Hd));have ke:=Zhd (show Zas p.ins ins[k] ins[k].length=false->runE p ins ni=(5,(k:Int)) from λh=>by
   rw[yz.out,show ins.findIdx? (λl => !Zas p.ins l l.length)=some k from List.findIdx?_eq_some_iff_getElem.2 ⟨Hd,by simp[h],λj hj=>by simp[JR.out j (by omega) hj]⟩])
  have kf:=Zhd (show Zas p.ins ins[k] ins[k].length=true->∀j (hj:j<ins.length),j<k+1->Zas p.ins ins[j] ins[j].length=true from λh j hj jV=>by
   by_cases hjk':j<k
   .exact JR.out j hj hjk'
   obtain rfl:j=k:=by omega
   exact h)
  generalize ins[k]=l at *;obtain⟨av,cv,rfl⟩:=hv.len;have c0:=(hH.below JD.out).cell c0;have HV:=Zhd hv;subst jE;obtain⟨cs,vI,vo,vf,va,vc,vu,vM,kK,⟨e0,h0⟩,_,_,_,_,_,⟨js,jv⟩⟩:=HC.out.ex;have c4:=(S.below JD.out).c4;have Hf:=Zjq (Zan w1) B cs p.ins l vI _ kK e0 h0 (SlV.le hv HK0.out VlC.mono) ⟨by have:=HLN.out;omega,by omega⟩ wr ((Za9 w1).below HB.out);clear JR hv kK e0 h0 js jv;cases J1:Zas p.ins l l.length with
  |false=>
   rw[J1] at Hf;have HX:=Zhd (ke.out J1);clear J1;go_wp2_with(go_at_call 20;refine Hf.mono ?_;rintro ret w2 ⟨rfl,Hm⟩;have Jh:=Zhd (JD.out.trans (Hm.mono JD.out.size));have c4:=(S.below Jh.out).c4);go_region
   all_goals go_wp2_with fail
   all_goals go_ret2
   all_goals unfold Zgt
   all_goals rw[HX.out]
   all_goals exact⟨by first|exact(Jh.out.alloc Jh.out.size _).drew|exact(Jh.out.drew).alloc Jh.out.size _|exact((Jh.out.drew).alloc Jh.out.size _).drew|exact Jh.out.alloc Jh.out.size _,_,rfl,.inr ⟨by omega,w2.heap.size,rfl,heap_alloc_new _ _⟩⟩
  |true=>
   rw[J1] at Hf;have yP:=Zhd (kf.out J1);clear J1;go_wp2_with(go_at_call 20;refine Hf.mono ?_;rintro ret w2 ⟨rfl,Hm⟩;have Jh:=Zhd (HB.out.trans (Hm.mono HB.out.size)));go_roundw
   case rel=>exact⟨k+1,by go_num,by omega,Jh.out,yP.out⟩
   simp[intOf];omega
 obtain rfl:k=ins.length:=by omega
 have qF:=Zhd (show ∀l∈ins,Zas p.ins l l.length=true from λl hl=>by
  obtain⟨j,hj,rfl⟩:=List.mem_iff_getElem.1 hl;exact JR.out j hj hj)
 have HX:=Zhd (show runE p ins ni=(0, -1) from by
  rw[yz.out,List.findIdx?_eq_none_iff.2 λl hl=>by simp[qF.out l hl]])
 clear JR yz hk Hd;obtain⟨cs,vI,vo,vf,va,vc,vu,vM,kK,_,_,_,_,_,_,⟨js,jv⟩⟩:=HC.out.ex;have HCD:=Zhd (cd_ready HC0.out gP.out HO.out nb ni z3 z4 z5);obtain⟨R,hR⟩:∃R:REnv,R=⟨ks,Zac p,getI (Zah p),nb,ni⟩:=⟨_,rfl⟩;have qY:R.nb=nb:=by rw[hR]
 have qI:R.ni=ni:=by rw[hR]
 have HR:=Zhd hR;rw[<- hR] at HC HCD jv;have Hy:=start_any R (Zan w1) B cs (Zab 0 p.terms) vM kK js jv (by rw[Zaw];exact HCD.out.z6) (wr.alloc (.cells #[.bool nb,.int .i64 ni] 68)) ((((Za9 w1).below HB.out)).alloc _);rw[qY,qI] at Hy;clear kK js jv hR;go_wp2_with(go_at_call 42;refine Hy.mono ?_;rintro ret w3 ⟨vm0,rfl,hm0,Jg⟩;have hN3:=(Jg.block wr.heap.size (by simp)).trans (heap_alloc_new wr (.cells #[.bool nb,.int .i64 ni] 68));have Js:=Zhd ((JD.out.alloc JD.out.size (.cells #[.bool nb,.int .i64 ni] 68)).trans (Jg.mono (by have:=JD.out.size;simp;omega)));have HB13:=Zhd ((HB.out.alloc HB.out.size (.cells #[.bool nb,.int .i64 ni] 68)).trans (Jg.mono (by have:=HB.out.size;simp;omega))));have n0:(Zan w3).cell wr.heap.size 0=some (.bool nb):=by rw[Zaj];simp[World.cell?,hN3]
 have n1:(Zan w3).cell wr.heap.size 1=some (.int .i64 ni):=by rw[Zaj];simp[World.cell?,hN3]
 have N0:=Zhd n0;have N1:=Zhd n1;have hle13:(Zan w1).le (Zan w3):=all_of ((Za9 w1).below HB13.out);have yQ:=Zhd (HC.out.le hle13);have HIK:=Zhd (InsV.le (Kn.le_trans HK0.out hle13) HI.out);have jF:=Zhd (RuS.init (DT:=83) Js.out hm0);have HML:=Zhd (show(Zba R (Zab 0 p.terms)).length=Zag p.terms from by unfold Zba;rw[List.length_map,Zaw]);have zR:=Zhd (show ∀(os:List (Tk×Value×Value)) (u:Value) (K:Kn) (ms:List Vl) (vm:Value) (wx:World),RuS 83 (Zan w3) w wx w3.heap.size os u K ms vm->os.map (·.1)=Zf6 R (cdOf p ord) true (Zba R (Zab 0 p.terms)) ins->Zgt sp nb ni p ins w (.returned (.tuple #[u,.nilIface])) wx from λos u K ms vm wx hS he=>by
  unfold Zgt;rw[HX.out,if_pos rfl];refine⟨hS.below,ks,ord,u,gP.out,HO.out,rfl,?_⟩;rw[<- HR.out,<- he];exact hS.fin)
 clear hm0 Jg hN3 n0 n1 hle13 Hy HB JD Jn HB13 HK0 HX HC HI S1 gy;generalize hN14:wr.heap.size=N14 at *;clear hN14;obtain⟨ks1,hks1⟩:∃x,x=Zba R (Zab 0 p.terms):=⟨_,rfl⟩;rw[<- hks1] at jF HML zR;clear hks1;go_wp2_with fail;go_loopw[15,16,66] (λvm u i wr=>∃(k:Nat) (os:List (Tk×Value×Value)) (K:Kn) (ms:List Vl),i=.int .i64 k/\k<=ins.length/\RuS 83 (Zan w3) w wr w3.heap.size os u K ms vm/\ms.length=Zag p.terms/\os.map (·.1)++Zf6 R (cdOf p ord) (decide (k=0)) ms (ins.drop k)=Zf6 R (cdOf p ord) true ks1 ins/\os.length=k) (λ_ _ i _=>ins.length - (intOf i).toNat)
 case atStart=>exact⟨0,[],_,_,rfl,Nat.zero_le _,jF.out,HML.out,by simp,rfl⟩
 obtain⟨k,os,K,ms,rfl,hk,hS,JO,xO,gT⟩:=hrel;subst gT;have HS:=Zhd hS;have HMS:=Zhd JO;have HGO:=Zhd xO;obtain⟨au,cu,J9,_⟩:=Zar hS.row;subst J9;clear hS JO xO;by_cases Hd:os.length<ins.length
 .obtain⟨b,off,jE,_,v,c0,hv⟩:=SlV.at HIK.out Hd;have c0:(Zan w3).cell b (off+os.length * 1+0)=some v:=c0;simp only[Nat.mul_one,Nat.add_zero] at c0;have JN:=qF.out _ (Ymm Hd);have xO:=HGO.out;rw[List.drop_eq_getElem_cons Hd] at xO;simp only[Zf6] at xO;generalize ins[os.length]=l at *;obtain⟨av,cv0,rfl⟩:=hv.len;have hil2:l.length=p.ins.length:=by
   unfold Zas at JN;simp only[Bool.and_eq_true,decide_eq_true_eq] at JN;exact JN.1
  have c0:=HS.out.isin.cell (HS.out.le.cell c0);have n0:=HS.out.isin.cell (HS.out.le.cell N0.out);have n1:=HS.out.isin.cell (HS.out.le.cell N1.out);subst jE;obtain⟨fb,qy⟩:∃fb:Bool,fb=decide (os.length=0):=⟨_,rfl⟩;have zd:((os.length:Int)==0)=fb:=by rw[qy];by_cases h:os.length=0<;>simp[h]
  have qL:=HCD.out;have Hf:=tick_any R K p ord B (yQ.out.le HS.out.le) qL.f qL.pa qL.nm qL.od qL.ou ⟨qL.z1,qL.z2,qL.z3,qL.z4,qL.z5,qL.z6,qL.z7⟩ qL.ps fb ms l _ _ HS.out.mem (SlV.le hv HS.out.le VlC.mono) HMS.out hil2 wr HS.out.isin;rw[qY,qI] at Hf;rw[<- qy] at xO;have jR:=tickM_len R (cdOf p ord) fb ms l;rw[show(cdOf p ord).ms.length=Zag p.terms from qL.ml] at jR;generalize Zb7 R (cdOf p ord) fb ms l=X at *;obtain⟨⟨xo,xa,xt,xc⟩,xm⟩:=X;dsimp only at Hf xO jR;have HG2:=Zhd xO;have HNL:=Zhd jR;obtain⟨i0,JI,Jt,J6,Ju⟩:=info_parts Tryz.infoTk;have hfb0:fb=decide (os.length=0):=qy;have HFB:=Zhd hfb0;clear xO jR qy hfb0 JN hil2 hv qL;go_wp2_with fail;refine Hf.mono ?_;rintro ret w5 ⟨ov,cv,u5,rfl,hk5,xM,Jf⟩;obtain⟨kz,ky,rfl⟩:=hk5.outs.len;obtain⟨kF,kE,rfl⟩:=hk5.checks.len;obtain⟨a5,c5,rfl⟩:=xM.len;obtain⟨jr,hK5⟩:=HS.out.tick Jf hk5 xM;have HLT:=Zhd (λg hg=>(jr.row.lt g hg).2);have HS5:=Zhd (jr.alloc (.cells #[.slice kz xo.length ky,.bool xa,.bool xt,.slice kF xc.length kE] 83));have HK5:=Zhd hK5;have xG:=Zhd (heap_alloc_new w5 (.cells #[.slice kz xo.length ky,.bool xa,.bool xt,.slice kF xc.length kE] 83));clear jr hK5 hk5 xM Hf Jf c0 n0 n1;go_wp2_with(at_builtin;refine Zgs 116 83 4 56 _ Tryz.underlying116 Tryz.infoTk rfl (by decide) _ _ rfl rfl w3.heap.size _ _ _ rfl (HS5.out.alloc _).row ⟨_,0,none⟩ 1 [.slice kz xo.length ky,.bool xa,.bool xt,.slice kF xc.length kE] rfl rfl ?c1 ?c2 ?c3 ?c4 ?c5 ?_)
  case c1=>
   have h:=heap_alloc_new (w5.alloc (.cells #[.slice kz xo.length ky,.bool xa,.bool xt,.slice kF xc.length kE] 83)) (.cells #[.slice kz xo.length ky,.bool xa,.bool xt,.slice kF xc.length kE] 83);rw[World.size_alloc] at h;exact World.news_of_block h
  case c2=>simp[Value.oneCell']
  case c3=>omega
  case c4=>omega
  case c5=>exact(HS5.out.alloc _).low
  intro gg Hh w6 Hb Hj hJ;have Q5:w6.heap[w5.heap.size]?=some (.cells #[.slice kz xo.length ky,.bool xa,.bool xt,.slice kF xc.length kE] 83 (0,0)):=by
   rw[Hj.block _ (by simp;omega) (λe=>by have:=HLT.out _ e.symm;omega)];rw[((Below.refl _ (w5.alloc (.cells #[.slice kz xo.length ky,.bool xa,.bool xt,.slice kF xc.length kE] 83))).alloc Ylr (.cells #[.slice kz xo.length ky,.bool xa,.bool xt,.slice kF xc.length kE] 83)).block _ (by simp)];exact xG.out
  have t2:w6.cell? ⟨w5.heap.size,2,none⟩=some (.bool xt):=by simp[World.cell?,Q5]
  have HS6:=Zhd ((HS5.out.alloc _).app HK5.out Hb Hj (by rw[World.size_alloc,World.size_alloc];exact hJ));clear Hb Hj hJ Q5;cases xt with
  |true=>
   go_wp2_with fail;go_ret2
   refine zR.out _ _ _ _ _ _ HS6.out ?_;have h:=HG2.out;simp only[if_true] at h;rw[List.map_append];exact h
  |false=>
   go_wp2_with fail;refine⟨⟨os.length+1,_,_,_,rfl,by omega,HS6.out,HNL.out rfl,?_,by simp⟩,by simp[intOf];omega⟩;have h:=HG2.out;simp only[Bool.false_eq_true,if_false] at h;rw[List.map_append,show decide (os.length+1=0)=false from by simp,List.append_assoc];exact h
 have hl:os.length=ins.length:=by omega
 have h:=HGO.out;rw[List.drop_of_length_le (by omega)] at h;simp only[Zf6,List.append_nil] at h;have zP:=Zhd (zR.out _ _ _ _ _ _ HS.out h);clear h zR HGO;go_wp2_with fail;go_ret2
 exact zP.out
end Go.Proofs.YtafapnolamcdmaaGreatDoor
