/- The state of flow.Code.Tick: an instant, its row of values, what is told: no function of the program in sight. -/
import Derived.Test.YtafapnolamcdmaaGreatDoorCpM
import Derived.Test.YtafapnolamcdmaaGreatDoorEv
set_option linter.all false
namespace Go.Proofs.YtafapnolamcdmaaGreatDoor
set_option maxRecDepth 100000
set_option maxHeartbeats 16000000
open Go.RowKit Mx
theorem cd_terms{p:Pr}{ord:List Nat}{x:Ex×Nat}(h:x∈(cdOf p ord).fs\/x∈(cdOf p ord).av\/x∈(cdOf p ord).cv):x.1∈p.terms/\x.2+memN x.1<=Zag p.terms:=by
 have ht:Zag p.terms=Zag (p.fl.map (·.e))+Zag p.as+Zag p.cs:=by unfold Pr.terms;rw[Zcl,Zcl]
 simp only[cdOf] at h;rcases h with h|h|h
 .have h1:=Zdv h;have h2:=Zgu _ _ x h;exact⟨List.mem_append_left _ (List.mem_append_left _ h1),by omega⟩
 .have h1:=Zdv h;have h2:=Zgu _ _ x h;exact⟨List.mem_append_left _ (List.mem_append_right _ h1),by omega⟩
 have h1:=Zdv h;have h2:=Zgu _ _ x h;exact⟨List.mem_append_right _ h1,by omega⟩
mutual
theorem memNds_parts:∀(e:Ex) (m:Nat),∀x∈Zbs m e,x.1.parts<=e.parts
 | .mk o n s l,m,x,h=>by
  simp only[Zbs,List.mem_append] at h;rcases h with h|h
  .have:=Zft l m x h;simp only[Ex.parts];omega
  split at h
  .rw [List.mem_singleton.1 h];exact Nat.le_refl _
  cases h
theorem Zft:∀(l:List Ex) (m:Nat),∀x∈Zab m l,x.1.parts<=Ex.partsL l
 | [],m,x,h=>by simp[Zab] at h
 |e :: l,m,x,h=>by
  simp only[Zab,List.mem_append] at h;simp only[Ex.partsL];rcases h with h|h
  .have:=memNds_parts e m x h;omega
  have:=Zft l (m+memN e) x h;omega
end
theorem Zjn{α:Type}:∀(l:List α) (d:α) (k:Nat) (h:k<l.length),l.length=k+1->l.getLastD d=l[k]/\l.dropLast=l.take k:=λl d k h hk=>by
 have h1:l≠[]:=λe=>by rw[e] at h;simp at h
 refine⟨?_,?_⟩
 .rw [List.getLastD_eq_getLast?,List.getLast?_eq_getElem?,show l.length - 1=k from by omega,List.getElem?_eq_getElem h];rfl
 rw[List.dropLast_eq_take,show l.length - 1=k from by omega]
theorem ms_last{ks:Env Int}{p:Pr}(hf:∀e∈p.terms,Zad ks e=true){x:Ex×Nat}(h:x∈Zab 0 p.terms):
  ∃k,k<=1/\x.1.l.length=k+1/\∀hk:k<x.1.l.length,Zdz x=(x.1.l[k],x.2+Zag (x.1.l.take k))/\Zad ks x.1.l[k]=true/\x.1.l[k].parts<=Ex.partsL p.terms/\x.2+Zag (x.1.l.take k)+memN x.1.l[k]<=Zag p.terms:=by
 obtain⟨f1,f2⟩:=Zd9 ks p.terms hf 0 x h;have f3:=Zh4 p.terms 0 x h;have f4:=Zft p.terms 0 x h;obtain⟨⟨o,n,s,l⟩,m⟩:=x;simp only[Ex.op,Ex.l,memN] at f2 f3 f4 ⊢;obtain⟨JA,Jj,_,hZ,_⟩:=Zax f1;have hl:∃k,k<=1/\l.length=k+1:=by
  rcases f2 with e|e
  .exact⟨0,by omega,hZ e⟩
  exact⟨1,by omega,Jj e⟩
 obtain⟨k,qf,hk⟩:=hl;rw[if_pos f2] at f3;refine⟨k,qf,hk,λHd=>?_⟩;obtain⟨g1,g2⟩:=Zjn l (.mk o n s l) k Hd hk;have t1:=Zdy l k Hd;have t2:=Zck l (k+1);have t3:=Za0 l k Hd;simp only[Ex.parts] at f4;refine⟨?_,JA _ (Ymm Hd),by omega,by omega⟩;unfold Zdz;simp only[Ex.l];rw[g1,g2]
theorem vlX_set:∀(l:List Vl) (k:Nat) (x:Vl),k<l.length->((vlX l).toArray.setIfInBounds (2 * k) (.int .i64 x.kind)).setIfInBounds (2 * k+1) (.int .i64 x.n)=(vlX (l.set k x)).toArray:=by
 intro l k x hk;apply Array.ext';simp only[Array.toList_setIfInBounds]
 induction l generalizing k with
 |nil=>simp at hk
 |cons y l ih=>
  cases k with
  |zero=>simp[vlX]
  |succ k=>
   have:=ih k (by simpa using hk);simp only[vlX,List.flatMap_cons,List.set_cons_succ] at this ⊢;rw[show 2 * (k+1)+1=(2 * k+1)+1+1 from by omega,show 2 * (k+1)=2 * k+1+1 from by omega];simp only[List.cons_append,List.nil_append,List.set_cons_succ];rw[this]
theorem vlX_zero(n:Nat):madeCells Yo2 (n * 2)=(vlX (List.replicate n vz)).toArray:=by
 apply Array.ext_getElem?;intro i;have hl:(vlX (List.replicate n vz)).length=2 * n:=by rw[Zja,List.length_replicate]
 by_cases hi:i<2 * n
 .have h2:i / 2<(List.replicate n vz).length:=by simp;omega
  obtain⟨x0,x1⟩:=Zen (List.replicate n vz) (i / 2) h2;rw[List.getElem_replicate] at x0 x1;have za:i<n * 2:=by omega
  have hr:(Array.range (n * 2))[i]?=some i:=by simp[za]
  have hm:(madeCells Yo2 (n * 2))[i]?=some (.int .i64 0):=by
   rcases Nat.mod_two_eq_zero_or_one i with h|h<;>simp[madeCells,za,h]
  rw[hm,List.getElem?_toArray];rcases Nat.mod_two_eq_zero_or_one i with h|h
  .rw [show 2 * (i / 2)=i from by omega] at x0;exact x0.symm
  rw[show 2 * (i / 2)+1=i from by omega] at x1;exact x1.symm
 rw[Array.getElem?_eq_none (by simp[madeCells];omega),Array.getElem?_eq_none (by simp[hl];omega)]
theorem run_make_vals{P:Program}(t e:TypeId)(ht:P.underlying t=some (.slice e))(hinfo:(P.info? e).map (λi=>(i.zero,i.size,i.bytes))=some (some (.agg Yo2),2,16))(n:Nat)(hn:n<=1000000000)(w:World):
  (Instr.makeSlice t (.int .i64 (n:Int)) (.int .i64 (n:Int))).run P w=.ok (.slice (some ⟨w.heap.size,0,none⟩) n n) (w.alloc (.cells (vlX (List.replicate n vz)).toArray e)):=by
 obtain⟨i,hi,hz,hs,hb⟩:=info_parts hinfo;have hr:=run_make (P:=P) w t e i _ ht hi hz .i64 .i64 n n (by omega) (Int.le_refl _) (by rw[hb];omega) (by omega);simp only[Int.toNat_natCast,hs] at hr;rw[<- vlX_zero];exact hr
theorem vls_of_block{K:Kn}{NW:Nat}{T:TypeId}{fr:Nat×Nat}{l:List Vl}(h:K NW=some (.cells (vlX l).toArray T fr))(hl:l.length<=maxLen):VlsV K l (.slice (some ⟨NW,0,none⟩) l.length l.length):=by
 by_cases h0:l=[]
 .subst h0;exact .inl ⟨rfl,_,_,rfl⟩
 refine .inr ⟨NW,0,l.length,rfl,Nat.le_refl _,hl,λi hi=>?_⟩;obtain⟨x0,x1⟩:=Zen l i hi;have hc:∀j,K.cell NW j=(vlX l)[j]?:=λj=>by unfold Kn.cell;rw[h];simp
 refine⟨?_,?_⟩
 .show K.cell NW (0+i * 2+0)=_;rw[hc,show 0+i * 2+0=2 * i from by omega];exact x0
 show K.cell NW (0+i * 2+1)=_;rw[hc,show 0+i * 2+1=2 * i+1 from by omega];exact x1
theorem Zcd{W:World}{b:Nat}{x y z u:Value}{t:TypeId}(h:W.heap[b]?=some (.cells #[x,y,z,u] t (0,0))):
  W.cell? ⟨b,0,none⟩=some x/\W.cell? ⟨b,1,none⟩=some y/\W.cell? ⟨b,2,none⟩=some z/\W.cell? ⟨b,3,none⟩=some u/\(∀i,i<4->W.frozen? ⟨b,i,none⟩=false)/\b<W.heap.size:=
 ⟨by simp[World.cell?,h],by simp[World.cell?,h],by simp[World.cell?,h],by simp[World.cell?,h],λi _=>by simp[World.frozen?,h],(Zlt h)⟩
def put4(W:World)(b:Nat)(x y z u:Value):World:=(((W.setCell ⟨b,0,none⟩ x).setCell ⟨b,1,none⟩ y).setCell ⟨b,2,none⟩ z).setCell ⟨b,3,none⟩ u
theorem Zd8{W:World}{b:Nat}{x y z u:Value}{t:TypeId}(h:W.heap[b]?=some (.cells #[x,y,z,u] t (0,0)))(x' y' z' u':Value):(put4 W b x' y' z' u').heap[b]?=some (.cells #[x',y',z',u'] t (0,0)):=by
 unfold put4;have h1:=Zaa W b 0 x' _ _ _ h;have h2:=Zaa _ b 1 y' _ _ _ h1;have h3:=Zaa _ b 2 z' _ _ _ h2;have h4:=Zaa _ b 3 u' _ _ _ h3;rw[h4];rfl
theorem Zg4{W:World}{b:Nat}(x y z u:Value){i:Nat}(hi:i≠b):(put4 W b x y z u).heap[i]?=W.heap[i]?:=by
 unfold put4;rw[Below.heap_setCell _ ⟨b,3,none⟩ _ i hi,Below.heap_setCell _ ⟨b,2,none⟩ _ i hi,Below.heap_setCell _ ⟨b,1,none⟩ _ i hi,Below.heap_setCell _ ⟨b,0,none⟩ _ i hi]
theorem Zg5{base b:Nat}{w W:World}(h:Below base w W)(hb:base<=b)(x y z u:Value):Below base w (put4 W b x y z u):=
 (((h.setCell (p:=⟨b,0,none⟩) hb x).setCell (p:=⟨b,1,none⟩) hb y).setCell (p:=⟨b,2,none⟩) hb z).setCell (p:=⟨b,3,none⟩) hb u
structure TkS(IT VT DT:TypeId)(R:REnv)(r:Inst)(H:Kn)(w0 wr:World)(I NW RC:Nat)(cp vm vi:Value)(n:Nat)(t:Bool):Prop where
 isin:H.In wr
 below:Ybw w0 wr
 inst:wr.heap[I]?=some (.cells (Zcu cp R r vm vi (.slice (some ⟨NW,0,none⟩) n n) t) IT (0,0))
 now:wr.heap[NW]?=some (.cells (vlX r.now).toArray VT (0,0))
 res:wr.heap[RC]?=some (.cells #[Ys0,.bool false,.bool false,Ys0] DT (0,0))
 len:r.now.length=n
 hn:n<=1000000000
 apart:NW≠I/\RC≠I/\RC≠NW/\w0.heap.size<=NW/\w0.heap.size<=I/\w0.heap.size<=RC
 low:H.In w0
section
variable {IT VT DT : TypeId} {R : REnv} {r : Inst} {H : Kn} {w0 wr : World} {I NW RC : Nat} {cp vm vi : Value} {n : Nat} {t : Bool}
theorem TkS.noI(h:TkS IT VT DT R r H w0 wr I NW RC cp vm vi n t):H I=none:=h.low.isNone h.apart.2.2.2.2.1
theorem TkS.noW(h:TkS IT VT DT R r H w0 wr I NW RC cp vm vi n t):H NW=none:=h.low.isNone h.apart.2.2.2.1
theorem TkS.noR(h:TkS IT VT DT R r H w0 wr I NW RC cp vm vi n t):H RC=none:=h.low.isNone h.apart.2.2.2.2.2
theorem TkS.next{w':World}(h:TkS IT VT DT R r H w0 wr I NW RC cp vm vi n t)(hb:Ybw wr w'):TkS IT VT DT R r H w0 w' I NW RC cp vm vi n t:=
 ⟨h.isin.below hb,h.below.trans (hb.mono h.below.size),by rw[hb.block I (Zlt h.inst)];exact h.inst,by rw[hb.block NW (Zlt h.now)];exact h.now,by rw[hb.block RC (Zlt h.res)];exact h.res,h.len,h.hn,h.apart,h.low⟩
theorem TkS.alloc(h:TkS IT VT DT R r H w0 wr I NW RC cp vm vi n t)(o:Obj):TkS IT VT DT R r H w0 (wr.alloc o) I NW RC cp vm vi n t:=h.next ((Below.refl _ _).alloc Ylr o)
theorem TkS.c(h:TkS IT VT DT R r H w0 wr I NW RC cp vm vi n t)(i:Nat):wr.cell? ⟨I,i,none⟩=(Zcu cp R r vm vi (.slice (some ⟨NW,0,none⟩) n n) t)[i]?:=by
 have hb:=h.inst;simp[World.cell?,hb]
theorem TkS.kn(h:TkS IT VT DT R r H w0 wr I NW RC cp vm vi n t):H.le (noKn I wr)/\VlsV (noKn I wr) r.now (.slice (some ⟨NW,0,none⟩) n n):=by
 refine⟨Zgg h.isin h.noI,?_⟩;have hb:(noKn I wr) NW=some (.cells (vlX r.now).toArray VT (0,0)):=by unfold noKn;rw[if_neg h.apart.1];exact h.now
 have:=vls_of_block hb (by rw[h.len];have:=h.hn;unfold maxLen;omega);rw[h.len] at this;exact this
theorem TkS.evald{w':World}(h:TkS IT VT DT R r H w0 wr I NW RC cp vm vi n t){b:Bool}(hg:wr.grownBy w' (some I))(hi:w'.heap[I]?=some (.cells (Zcu cp R r vm vi (.slice (some ⟨NW,0,none⟩) n n) (t || b)) IT (0,0))):
  TkS IT VT DT R r H w0 w' I NW RC cp vm vi n (t || b):=by
 obtain⟨a1,a2,a3,a4,a5,a6⟩:=h.apart;refine⟨h.isin.grown hg λg hg=>by cases hg;exact h.noI,⟨hg.os.trans h.below.os,hg.tape.trans h.below.tape,hg.output.trans h.below.output,Nat.le_trans h.below.size hg.size,λi hi=>?_⟩,hi,?_,?_,h.len,h.hn,h.apart,h.low⟩
 .rw [hg.block i (Nat.lt_of_lt_of_le hi h.below.size) (λe=>by cases e;omega)];exact h.below.block i hi
 .rw [hg.block NW (Zlt h.now) (λe=>by cases e;exact a1 rfl)];exact h.now
 rw[hg.block RC (Zlt h.res) (λe=>by cases e;exact a2 rfl)];exact h.res
theorem TkS.put(h:TkS IT VT DT R r H w0 wr I NW RC cp vm vi n t){k:Nat}(hk:k<n)(x:Vl):
  ∃a b,wr.cell? ⟨NW,k * 2,none⟩=some a/\wr.cell? ⟨NW,k * 2+1,none⟩=some b/\wr.frozen? ⟨NW,k * 2,none⟩=false/\wr.frozen? ⟨NW,k * 2+1,none⟩=false/\TkS IT VT DT R ⟨r.first,r.mem,r.inp,r.now.set k x⟩ H w0 ((wr.setCell ⟨NW,k * 2,none⟩ (.int .i64 x.kind)).setCell ⟨NW,k * 2+1,none⟩ (.int .i64 x.n)) I NW RC cp vm vi n t:=by
 obtain⟨a1,a2,a3,a4,a5,a6⟩:=h.apart;have Hd:k<r.now.length:=by rw[h.len];exact hk
 have Ho:(vlX r.now).length=2 * n:=by rw[Zja,h.len]
 have hw:=h.now;have zW:∀i,i≠NW->((wr.setCell ⟨NW,k * 2,none⟩ (.int .i64 x.kind)).setCell ⟨NW,k * 2+1,none⟩ (.int .i64 x.n)).heap[i]?=wr.heap[i]?:=λi hi=>by
  rw[Below.heap_setCell _ ⟨NW,k * 2+1,none⟩ _ i hi,Below.heap_setCell _ ⟨NW,k * 2,none⟩ _ i hi]
 have h2:k * 2<(vlX r.now).length:=by omega
 have h3:k * 2+1<(vlX r.now).length:=by omega
 refine⟨(vlX r.now)[k * 2],(vlX r.now)[k * 2+1],by simp[World.cell?,hw,h2],by simp[World.cell?,hw,h3],by simp[World.frozen?,hw],by simp[World.frozen?,hw],(h.isin.setCell (a:=⟨NW,k * 2,none⟩) h.noW _).setCell (a:=⟨NW,k * 2+1,none⟩) h.noW _,(h.below.setCell (p:=⟨NW,k * 2,none⟩) a4 _).setCell (p:=⟨NW,k * 2+1,none⟩) a4 _,?_,?_,?_,by simp[h.len],h.hn,h.apart,h.low⟩
 .rw [zW I (Ne.symm a1)];exact h.inst
 .have h1:=Zaa wr NW (k * 2) (.int .i64 x.kind) _ _ _ hw;rw[Zaa _ NW (k * 2+1) (.int .i64 x.n) _ _ _ h1,Nat.mul_comm k 2,vlX_set _ _ _ Hd]
 rw[zW RC a3];exact h.res
end
theorem TkS.keep{IT VT DT:TypeId}{R:REnv}{r:Inst}{H:Kn}{w0 wr w':World}{I NW RC:Nat}{cp vm vi:Value}{n:Nat}{t:Bool}(h:TkS IT VT DT R r H w0 wr I NW RC cp vm vi n t)(Hk:H.In w')(hb:Ybw w0 w')(hI:w'.heap[I]?=wr.heap[I]?)(hN:w'.heap[NW]?=wr.heap[NW]?)(hR:w'.heap[RC]?=wr.heap[RC]?):TkS IT VT DT R r H w0 w' I NW RC cp vm vi n t:=
 ⟨Hk,hb,hI.trans h.inst,hN.trans h.now,hR.trans h.res,h.len,h.hn,h.apart,h.low⟩
structure TkT(IT VT DT BT:TypeId)(R:REnv)(r:Inst)(H:Kn)(w0 wr:World)(I NW RC:Nat)(cp vm vi:Value)(n:Nat)(t:Bool)(TB base:Nat)(a:Bool)(ov:Value)(outs:List Vl)(cv:Value)(J8:List Bool)(nx:Value)(jl:List Vl):Prop where
 s:TkS IT VT DT R r H w0 wr I NW RC cp vm vi n t
 tb:wr.heap[TB]?=some (.cells #[ov,.bool a,.bool false,cv] DT (0,0))
 rc:wr.ownsRow base BT 1 cv J8.length (J8.map .bool)
 rn:wr.ownsRow base VT 2 nx jl.length (vlX jl)
 ro:wr.ownsRow base VT 2 ov outs.length (vlX outs)
 ap:∀g,nx.ownBlock=some g->ov.ownBlock≠some g
 bs:I<base/\NW<base/\RC<base/\TB<base/\base<=wr.heap.size
 tbn:TB≠I/\TB≠NW/\TB≠RC/\w0.heap.size<=TB
 ne:BT≠VT
section
variable {IT VT DT BT : TypeId} {R : REnv} {r : Inst} {H : Kn} {w0 wr : World} {I NW RC : Nat} {cp vm vi : Value} {n : Nat} {t : Bool} {TB base : Nat} {a : Bool} {ov : Value} {outs : List Vl} {cv : Value} {J8 : List Bool} {nx : Value} {jl : List Vl}
theorem TkT.next{w':World}(h:TkT IT VT DT BT R r H w0 wr I NW RC cp vm vi n t TB base a ov outs cv J8 nx jl)(hb:Ybw wr w'):TkT IT VT DT BT R r H w0 w' I NW RC cp vm vi n t TB base a ov outs cv J8 nx jl:=
 ⟨h.s.next hb,by rw[hb.block TB (Zlt h.tb)];exact h.tb,Za1 h.rc hb,Za1 h.rn hb,Za1 h.ro hb,h.ap,⟨h.bs.1,h.bs.2.1,h.bs.2.2.1,h.bs.2.2.2.1,Nat.le_trans h.bs.2.2.2.2 hb.size⟩,h.tbn,h.ne⟩
theorem TkT.alloc(h:TkT IT VT DT BT R r H w0 wr I NW RC cp vm vi n t TB base a ov outs cv J8 nx jl)(o:Obj):TkT IT VT DT BT R r H w0 (wr.alloc o) I NW RC cp vm vi n t TB base a ov outs cv J8 nx jl:=h.next ((Below.refl _ _).alloc Ylr o)
theorem TkT.c(h:TkT IT VT DT BT R r H w0 wr I NW RC cp vm vi n t TB base a ov outs cv J8 nx jl)(i:Nat):wr.cell? ⟨TB,i,none⟩=(#[ov,.bool a,.bool false,cv]:Array Value)[i]?:=by
 have hb:=h.tb;simp[World.cell?,hb]
theorem TkT.f(h:TkT IT VT DT BT R r H w0 wr I NW RC cp vm vi n t TB base a ov outs cv J8 nx jl)(i:Nat):wr.frozen? ⟨TB,i,none⟩=false:=by
 have hb:=h.tb;simp[World.frozen?,hb]
theorem TkT.low(h:TkT IT VT DT BT R r H w0 wr I NW RC cp vm vi n t TB base a ov outs cv J8 nx jl):base<=wr.heap.size:=h.bs.2.2.2.2
theorem TkT.evald{w':World}(h:TkT IT VT DT BT R r H w0 wr I NW RC cp vm vi n t TB base a ov outs cv J8 nx jl){b:Bool}(hg:wr.grownBy w' (some I))(hi:w'.heap[I]?=some (.cells (Zcu cp R r vm vi (.slice (some ⟨NW,0,none⟩) n n) (t || b)) IT (0,0))):
  TkT IT VT DT BT R r H w0 w' I NW RC cp vm vi n (t || b) TB base a ov outs cv J8 nx jl:=by
 have hI:=h.bs.1;have Jo:∀{e:TypeId} {k m:Nat} {v:Value} {xs:List Value},wr.ownsRow base e k v m xs->w'.ownsRow base e k v m xs:=λhr=>Zc2 hr hg λg hu e=>by cases e;have:=(hr.lt _ hu).1;omega
 exact⟨h.s.evald hg hi,by rw[hg.block TB (Zlt h.tb) (λe=>by cases e;exact h.tbn.1 rfl)];exact h.tb,Jo h.rc,Jo h.rn,Jo h.ro,h.ap,⟨h.bs.1,h.bs.2.1,h.bs.2.2.1,h.bs.2.2.2.1,Nat.le_trans h.bs.2.2.2.2 hg.size⟩,h.tbn,h.ne⟩
theorem TkT.put(h:TkT IT VT DT BT R r H w0 wr I NW RC cp vm vi n t TB base a ov outs cv J8 nx jl)(i:Nat)(v:Value):
  TkS IT VT DT R r H w0 (wr.setCell ⟨TB,i,none⟩ v) I NW RC cp vm vi n t/\(wr.setCell ⟨TB,i,none⟩ v).heap[TB]?=some (.cells ((#[ov,.bool a,.bool false,cv]:Array Value).setIfInBounds i v) DT (0,0)):=by
 obtain⟨b1,b2,b3,b4⟩:=h.tbn;have zW:∀j,j≠TB->(wr.setCell ⟨TB,i,none⟩ v).heap[j]?=wr.heap[j]?:=λj hj=>Below.heap_setCell _ ⟨TB,i,none⟩ _ j hj;exact⟨h.s.keep (h.s.isin.setCell (a:=⟨TB,i,none⟩) (h.s.low.isNone b4) v) (h.s.below.setCell (p:=⟨TB,i,none⟩) b4 v) (zW I (Ne.symm b1)) (zW NW (Ne.symm b2)) (zW RC (Ne.symm b3)),Zaa _ _ _ _ _ _ _ h.tb⟩
theorem TkT.setA(h:TkT IT VT DT BT R r H w0 wr I NW RC cp vm vi n t TB base a ov outs cv J8 nx jl)(b:Bool):TkT IT VT DT BT R r H w0 (wr.setCell ⟨TB,1,none⟩ (.bool b)) I NW RC cp vm vi n t TB base b ov outs cv J8 nx jl:=by
 obtain⟨h1,h2⟩:=h.put 1 (.bool b);have hT:=h.bs.2.2.2.1;have Jo:∀{e:TypeId} {k m:Nat} {v:Value} {xs:List Value},wr.ownsRow base e k v m xs->(wr.setCell ⟨TB,1,none⟩ (.bool b)).ownsRow base e k v m xs:=λhr=>Zam hr (Zbj hr hT) _;exact⟨h1,h2,Jo h.rc,Jo h.rn,Jo h.ro,h.ap,⟨h.bs.1,h.bs.2.1,h.bs.2.2.1,hT,by simpa using h.bs.2.2.2.2⟩,h.tbn,h.ne⟩
theorem TkT.grow{w3:World}{row:Option Nat}(h:TkT IT VT DT BT R r H w0 wr I NW RC cp vm vi n t TB base a ov outs cv J8 nx jl)(hg:wr.grownBy w3 row)(hr:∀g,row=some g->base<=g):
  TkS IT VT DT R r H w0 w3 I NW RC cp vm vi n t/\w3.heap[TB]?=some (.cells #[ov,.bool a,.bool false,cv] DT (0,0))/\base<=w3.heap.size:=by
 obtain⟨b1,b2,b3,b4,b5⟩:=h.bs;obtain⟨a1,a2,a3,a4,a5,a6⟩:=h.s.apart;have Ji:∀j,j<base->w3.heap[j]?=wr.heap[j]?:=λj hj=>hg.block j (by omega) (λe=>by have:=hr j e.symm;omega);refine⟨h.s.keep (h.s.isin.grown hg λg JH=>h.s.low.isNone (by have:=hr g JH;omega)) ⟨hg.os.trans h.s.below.os,hg.tape.trans h.s.below.tape,hg.output.trans h.s.below.output,Nat.le_trans h.s.below.size hg.size,λi hi=>(Ji i (by omega)).trans (h.s.below.block i hi)⟩ (Ji I b1) (Ji NW b2) (Ji RC b3),(Ji TB b4).trans h.tb,Nat.le_trans b5 hg.size⟩
theorem TkT.appC{w3:World}{gg Hh:Nat}{b:Bool}(h:TkT IT VT DT BT R r H w0 wr I NW RC cp vm vi n t TB base a ov outs cv J8 nx jl)(Hb:w3.ownsRow base BT 1 (.slice (some ⟨gg,0,none⟩) (J8.length+1) Hh) (J8.length+1) (J8.map .bool++[.bool b]))(hg:wr.grownBy w3 cv.ownBlock):
  w3.cell? ⟨TB,3,none⟩=some cv/\w3.frozen? ⟨TB,3,none⟩=false/\TkT IT VT DT BT R r H w0 (w3.setCell ⟨TB,3,none⟩ (.slice (some ⟨gg,0,none⟩) (J8.length+1) Hh)) I NW RC cp vm vi n t TB base a ov outs (.slice (some ⟨gg,0,none⟩) (J8.length+1) Hh) (J8++[b]) nx jl:=by
 obtain⟨g1,g2,g3⟩:=h.grow hg λg JH=>(h.rc.lt g JH).1;have hT:=h.bs.2.2.2.1;have rn3:=Zc2 h.rn hg λg hu e=>Zge h.rc h.rn h.ne g e hu;have ro3:=Zc2 h.ro hg λg hu e=>Zge h.rc h.ro h.ne g e hu;have zW:∀j,j≠TB->(w3.setCell ⟨TB,3,none⟩ (.slice (some ⟨gg,0,none⟩) (J8.length+1) Hh)).heap[j]?=w3.heap[j]?:=λj hj=>Below.heap_setCell _ ⟨TB,3,none⟩ _ j hj;obtain⟨b1,b2,b3,b4⟩:=h.tbn;refine⟨by simp[World.cell?,g2],by simp[World.frozen?,g2],g1.keep (g1.isin.setCell (a:=⟨TB,3,none⟩) (h.s.low.isNone b4) _) (g1.below.setCell (p:=⟨TB,3,none⟩) b4 _) (zW I (Ne.symm b1)) (zW NW (Ne.symm b2)) (zW RC (Ne.symm b3)),Zaa _ _ _ _ _ _ _ g2,?_,Zam rn3 (Zbj rn3 hT) _,Zam ro3 (Zbj ro3 hT) _,h.ap,⟨h.bs.1,h.bs.2.1,h.bs.2.2.1,hT,by simpa using g3⟩,h.tbn,h.ne⟩;rw[List.map_append,List.length_append];exact Zam Hb (Zbj Hb hT) _
theorem TkT.appN{w3:World}{gg Hh:Nat}{x:Vl}(h:TkT IT VT DT BT R r H w0 wr I NW RC cp vm vi n t TB base a ov outs cv J8 nx jl)(Hb:w3.ownsRow base VT 2 (.slice (some ⟨gg,0,none⟩) (jl.length+1) Hh) (jl.length+1) (vlX jl++[.int .i64 x.kind,.int .i64 x.n]))(hg:wr.grownBy w3 nx.ownBlock)(hJ:nx.ownBlock=some gg\/gg=wr.heap.size):
  TkT IT VT DT BT R r H w0 w3 I NW RC cp vm vi n t TB base a ov outs cv J8 (.slice (some ⟨gg,0,none⟩) (jl.length+1) Hh) (jl++[x]):=by
 obtain⟨g1,g2,g3⟩:=h.grow hg λg JH=>(h.rn.lt g JH).1;refine⟨g1,g2,Zc2 h.rc hg λg hu e=>Zge h.rc h.rn h.ne g hu e,by rw[Zgv,List.length_append];exact Hb,Zc2 h.ro hg λg hu e=>h.ap g e hu,λg JH hu=>?_,⟨h.bs.1,h.bs.2.1,h.bs.2.2.1,h.bs.2.2.2.1,g3⟩,h.tbn,h.ne⟩;have e:gg=g:=by simpa[Value.ownBlock] using JH
 subst e;rcases hJ with h1|rfl
 .exact h.ap gg h1 hu
 have:=(h.ro.lt _ hu).2;omega
theorem TkT.appO{w3:World}{gg Hh:Nat}{x:Vl}(h:TkT IT VT DT BT R r H w0 wr I NW RC cp vm vi n t TB base a ov outs cv J8 nx jl)(Hb:w3.ownsRow base VT 2 (.slice (some ⟨gg,0,none⟩) (outs.length+1) Hh) (outs.length+1) (vlX outs++[.int .i64 x.kind,.int .i64 x.n]))(hg:wr.grownBy w3 ov.ownBlock)(hJ:ov.ownBlock=some gg\/gg=wr.heap.size):
  w3.cell? ⟨TB,0,none⟩=some ov/\w3.frozen? ⟨TB,0,none⟩=false/\TkT IT VT DT BT R r H w0 (w3.setCell ⟨TB,0,none⟩ (.slice (some ⟨gg,0,none⟩) (outs.length+1) Hh)) I NW RC cp vm vi n t TB base a (.slice (some ⟨gg,0,none⟩) (outs.length+1) Hh) (outs++[x]) cv J8 nx jl:=by
 obtain⟨g1,g2,g3⟩:=h.grow hg λg JH=>(h.ro.lt g JH).1;have hT:=h.bs.2.2.2.1;have rc3:=Zc2 h.rc hg λg hu e=>Zge h.rc h.ro h.ne g hu e;have rn3:=Zc2 h.rn hg λg hu e=>h.ap g hu e;have zW:∀j,j≠TB->(w3.setCell ⟨TB,0,none⟩ (.slice (some ⟨gg,0,none⟩) (outs.length+1) Hh)).heap[j]?=w3.heap[j]?:=λj hj=>Below.heap_setCell _ ⟨TB,0,none⟩ _ j hj;obtain⟨b1,b2,b3,b4⟩:=h.tbn;refine⟨by simp[World.cell?,g2],by simp[World.frozen?,g2],g1.keep (g1.isin.setCell (a:=⟨TB,0,none⟩) (h.s.low.isNone b4) _) (g1.below.setCell (p:=⟨TB,0,none⟩) b4 _) (zW I (Ne.symm b1)) (zW NW (Ne.symm b2)) (zW RC (Ne.symm b3)),Zaa _ _ _ _ _ _ _ g2,Zam rc3 (Zbj rc3 hT) _,Zam rn3 (Zbj rn3 hT) _,?_,λg JH hu=>?_,⟨h.bs.1,h.bs.2.1,h.bs.2.2.1,hT,by simpa using g3⟩,h.tbn,h.ne⟩
 .rw [Zgv,List.length_append];exact Zam Hb (Zbj Hb hT) _
 have e:gg=g:=by simpa[Value.ownBlock] using hu
 subst e;rcases hJ with h1|rfl
 .exact h.ap gg JH h1
 have:=(h.rn.lt _ JH).2;omega
end
def BlC(x:Bool)(f:Nat->Option Value):Prop:=f 0=some (.bool x)
abbrev BlsV(H:Kn):List Bool->Value->Prop:=SlV H 1 BlC
theorem BlC.mono(x:Bool)(f g:Nat->Option Value)(h:∀j u,f j=some u->g j=some u)(hx:BlC x f):BlC x g:=h _ _ hx
structure TkV(H:Kn)(k:Tk)(ov cv:Value):Prop where
 outs:VlsV H k.out ov
 checks:BlsV H k.checks cv
theorem TkV.le{H H':Kn}(He:H.le H'){k:Tk}{ov cv:Value}(h:TkV H k ov cv):TkV H' k ov cv:=⟨SlV.le h.outs He VlC.mono,SlV.le h.checks He BlC.mono⟩
def Zbt(K:Kn)(n:Nat)(w:World):Kn:=λb=>if b<n then K b else w.heap[b]?
theorem Zb6{K:Kn}{w:World}(h:K.In w)(w':World):K.le (Zbt K w.heap.size w'):=λb o e=>by
 unfold Zbt;rw[if_pos (h.lt e)];exact e
theorem Zdk(K:Kn)(n:Nat)(w:World):(Zb3 n w).le (Zbt K n w):=λb o e=>by
 unfold Zb3 at e;unfold Zbt
 split at e
 .cases e
 rename_i hb
 rw[if_neg hb];exact e
theorem Ziu{K:Kn}{w w':World}(h:K.In w)(hb:Ybw w w'):(Zbt K w.heap.size w').In w':=λb o e=>by
 unfold Zbt at e
 split at e
 .rename_i Hr
  rw[hb.block b Hr];exact h b o e
 exact e
theorem vls_row{w:World}{base n:Nat}{T:TypeId}{v:Value}{l:List Vl}(h:w.ownsRow base T 2 v l.length (vlX l))(hn:n<=base):VlsV (Zb3 n w) l v:=
 slv_new h hn λi hi f hf=>by
  obtain⟨x0,x1⟩:=Zen _ i hi;refine⟨hf 0 _ ?_,hf 1 _ ?_⟩
  .rw [show i * 2+0=2 * i from by omega];exact x0
  rw[show i * 2+1=2 * i+1 from by omega];exact x1
theorem bls_row{w:World}{base n:Nat}{T:TypeId}{v:Value}{l:List Bool}(h:w.ownsRow base T 1 v l.length (l.map .bool))(hn:n<=base):BlsV (Zb3 n w) l v:=
 slv_new h hn λi hi f hf=>hf 0 _ (by rw[Nat.mul_one,Nat.add_zero,List.getElem?_map,List.getElem?_eq_getElem hi];rfl)
theorem own_put4{w:World}{base:Nat}{e:TypeId}{k n:Nat}{v:Value}{xs:List Value}(h:w.ownsRow base e k v n xs){b:Nat}(hb:b<base)(x y z u:Value):(put4 w b x y z u).ownsRow base e k v n xs:=by
 have Hs:=Zbj h hb;unfold put4;exact Zam (Zam (Zam (Zam h (a:=⟨b,0,none⟩) Hs x) (a:=⟨b,1,none⟩) Hs y) (a:=⟨b,2,none⟩) Hs z) (a:=⟨b,3,none⟩) Hs u
theorem TkT.fin{IT VT DT BT:TypeId}{R:REnv}{r:Inst}{H:Kn}{w0 wr:World}{I NW RC:Nat}{cp vm vi:Value}{n:Nat}{t:Bool}{TB base:Nat}{a:Bool}{ov:Value}{outs:List Vl}{cv:Value}{J8:List Bool}{nx:Value}{jl:List Vl}
  (h:TkT IT VT DT BT R r H w0 wr I NW RC cp vm vi n t TB base a ov outs cv J8 nx jl) (x y z u:Value):
  Ybw w0 (put4 wr RC x y z u)/\VlsV (Zb3 w0.heap.size (put4 wr RC x y z u)) outs ov/\BlsV (Zb3 w0.heap.size (put4 wr RC x y z u)) J8 cv/\VlsV (Zb3 w0.heap.size (put4 wr RC x y z u)) jl nx:=by
 have hb:w0.heap.size<=base:=by have h1:=h.s.apart.2.2.2.1;have h2:=h.bs.2.1;omega
 exact⟨Zg5 h.s.below h.s.apart.2.2.2.2.2 x y z u,vls_row (own_put4 h.ro h.bs.2.2.1 x y z u) hb,bls_row (own_put4 h.rc h.bs.2.2.1 x y z u) hb,vls_row (own_put4 h.rn h.bs.2.2.1 x y z u) hb⟩
theorem TkS.nc{IT VT DT:TypeId}{R:REnv}{r:Inst}{H:Kn}{w0 wr:World}{I NW RC:Nat}{cp vm vi:Value}{n:Nat}{t:Bool}(h:TkS IT VT DT R r H w0 wr I NW RC cp vm vi n t){j:Nat}(hj:j<n):
  wr.cell? ⟨NW,j * 2,none⟩=some (.int .i64 (r.now.getD j vz).kind)/\wr.cell? ⟨NW,j * 2+1,none⟩=some (.int .i64 (r.now.getD j vz).n):=by
 have kj:j<r.now.length:=by rw[h.len];exact hj
 have hw:=h.now;obtain⟨x0,x1⟩:=Zen r.now j kj;rw[Nat.mul_comm] at x0 x1;have e:r.now.getD j vz=r.now[j]:=by simp[Ygg,kj]
 rw[e];exact⟨by simpa[World.cell?,hw] using x0,by simpa[World.cell?,hw] using x1⟩
def Zas(ins:List Vr)(l:List Vl)(k:Nat):Bool:=decide (l.length=ins.length)&&(List.range k).all λi=>Zaq (l.getD i vz) ((ins.map (·.kind)).getD i 0)
theorem Zh6(ins:List Vr)(l:List Vl)(k:Nat):Zas ins l (k+1)=(Zas ins l k&&Zaq (l.getD k vz) ((ins.map (·.kind)).getD k 0)):=by
 unfold Zas;rw[List.range_succ,List.all_append,Bool.and_assoc];simp
theorem Zka(ins:List Vr)(l:List Vl)(k:Nat)(h:Zas ins l k=false):∀n,k<=n->Zas ins l n=false:=λn hn=>by
 induction n with
 |zero=>
  obtain rfl:k=0:=by omega
  exact h
 |succ n ih=>
  by_cases e:k=n+1
  .rw [<- e];exact h
  rw[Zh6,ih (by omega)];rfl
theorem Zjq(H:Kn)(B:Nat)(cs:Array Value)(ins:List Vr)(l:List Vl)(vi v:Value)(hB:H B=some (.cells cs 126 (0,0)))(h0:cs[0]?=some vi)(hi:VrsV H ins vi)(hv:VlsV H l v)(hl:l.length<=1000000000/\ins.length<=1000000000)(w:World)(hH:H.In w):
  Calls Tryz.prog 20 #[.pointer (some ⟨B,0,none⟩),v] w λr w'=>r=.returned (.bool (Zas ins l l.length))/\Ybw w w':=by
 obtain⟨hl1,jU⟩:=hl;obtain⟨a,c,rfl⟩:=hi.len;obtain⟨a2,c2,rfl⟩:=hv.len;have HI:=Zhd hi;have HV:=Zhd hv;have j0:H.cell B 0=some (.slice a ins.length c):=by unfold Kn.cell;rw[hB];exact h0
 have g0:=hH.cell j0;have Ho:((l.length:Int)==(ins.length:Int))=decide (l.length=ins.length):=by
  by_cases h:l.length=ins.length
  .simp [h]
  have:¬((l.length:Int)=ins.length):=by omega
  simp[h,this]
 have HL:=Zhd Ho;clear hi hv Ho;go_enter Tryz.func20,Tryz.ntmps20;go_wp2_with fail;clear g0;go_loopw[5,6] (λu i wr=>∃k:Nat,i=.int .i64 k/\u=.bool (Zas ins l k)/\k<=l.length/\Ybw w wr) (λ_ i _=>l.length - (intOf i).toNat)
 case atStart=>exact⟨0,rfl,by simp[Zas,HL.out],Nat.zero_le _,Below.refl _ _⟩
 obtain⟨k,rfl,rfl,hk,hb⟩:=hrel;have HB:=Zhd hb;clear hb;cases J1:Zas ins l k with
 |false=>
  go_wp2_with fail;go_ret;exact⟨Za7 (by rw[Zka ins l k J1 _ hk]),HB.out⟩
 |true=>
  by_cases Hd:k<l.length
  .have hli:l.length=ins.length:=by
    unfold Zas at J1;simp only[Bool.and_eq_true,decide_eq_true_eq] at J1;exact J1.1
   have yl:k<ins.length:=by omega
   have vG:(k:Int)<l.length:=by omega
   have hkI2:(k:Int)<ins.length:=by omega
   clear hli;obtain⟨b,off,rfl,e0,e1⟩:=Zd4 HV.out Hd;obtain⟨b2,qR,rfl,_,d0,d1⟩:=SlV.at HI.out yl;have d1:H.cell b2 (qR+k * 2+1)=some (.int .i64 ins[k].kind):=d1;have hS:H.In wr.drew:=hH.below HB.out.drew;have y9:=Zhd (show Zas ins l (k+1)=Zaq l[k] ins[k].kind from by
    rw[Zh6,J1,Bool.true_and];simp[Ygg,Hd,yl])
   clear J1 d0;generalize ins[k].kind=kd at *;generalize l[k]=x at *;obtain⟨xk,xn⟩:=x;dsimp only at e0 e1;go_wp2_with fail;refine Zae (λw'=>H.In w') (λ_=>True) 99 (by kernel_rfl) ?_;refine tk2 (i:=0) (v:=?_) rfl hS Ztr ?hy ?_
   case hy=>intro w Hi;obtain⟨z0,z1,z2,z3⟩:=Hi.c4 j0 e0 e1 d1;go_simp<;>with_reducible rfl
   refine Zst ?_;refine Go.w3 1 ?_
   iterate 12 ((first|(refine tk3 (v:=?_) rfl hS Ztr ?hy ?_;(case hy=>intro w Hi;obtain⟨z0,z1,z2,z3⟩:=Hi.c4 j0 e0 e1 d1;go_simp<;>with_reducible rfl))|refine sk3 rfl hS Ztr ?_|refine no3 ?_);refine Zss ?_)
   refine Go.w3e ?_;refine Zwo 13 rfl λK_ hK=>?_;go_simp;go_at_call 43;refine(right_any ⟨xk,xn⟩ kd _).mono ?_;rintro r5 w5 ⟨rfl,Jf⟩;have jr:=hS.below Jf;refine hK.out _ _ (jr) Ztr ?_;clear hK K_
   try simp only[tkS]
   refine tk2 (i:=14) (v:=?_) rfl jr Ztr ?hy ?_
   case hy=>intro w Hi;obtain⟨z0,z1,z2,z3⟩:=Hi.c4 j0 e0 e1 d1;go_simp<;>with_reducible rfl
   try simp only[tkS]
   refine Zwd ?_;have kg:=Zhd (HB.out.drew.trans (Jf.mono (by have:=HB.out.drew.size;omega)));go_wp2_with fail;go_roundw
   case rel=>first|exact⟨k+1,by go_num,by rw[y9.out],by omega,kg.out⟩|((repeat apply Exists.intro);refine⟨?_,rfl⟩;exact⟨k+1,by go_num,by rw[y9.out],by omega,kg.out⟩)
   simp[intOf];omega
  obtain rfl:k=l.length:=by omega
  go_wp2_with fail;go_ret;exact⟨Za7 (by rw[J1]),HB.out⟩
theorem kinds_any(H:Kn)(p:Pr)(vi vo vl va vc:Value)(hp:PrP H p vi vo vl va vc)(hn:p.ins.length<=1000000/\p.fl.length<=1000000)(w:World)(hH:H.In w):
  Calls Tryz.prog 68 #[.agg #[vi,vo,vl,va,vc]] w λr w'=>∃b,r=.returned (.map (some b))/\Zay (Value.int .i64) w' b (kindsM p)/\w.heap.size<=b/\Ybw w w':=by
 obtain⟨hn1,hn2⟩:=hn;obtain⟨h1,h2,h3,h4,h5⟩:=hp;obtain⟨ai,ci,ao,co,al,cl,aa,ca,ac,cc,rfl,rfl,rfl,rfl,rfl⟩:=Ypo h1.len h2.len h3.len h4.len h5.len;have H1:=Zhd h1;have H3:=Zhd h3;clear h1 h2 h3 h4 h5;have zX:=@run_makeMap Tryz.prog;go_enter Tryz.func68,Tryz.ntmps68;go_wp2_with fail;have hq:∀i,((w.alloc (.cells (Yq5 p ai ao al aa ac ci co cl ca cc) 42)).alloc (.map #[] 0)).cell? ⟨w.heap.size,i,none⟩=((Yq5 p ai ao al aa ac ci co cl ca cc):Array Value)[i]?:=λi=>by
  rw[World.cell?_alloc_past _ _ _ (by simp),World.cell?_alloc_new]
 have hM0:Zay (Value.int .i64) ((w.alloc (.cells (Yq5 p ai ao al aa ac ci co cl ca cc) 42)).alloc (.map #[] 0)) (w.heap.size+1) Env.none:=by
  have:=Zay.made (Value.int .i64) (w.alloc (.cells (Yq5 p ai ao al aa ac ci co cl ca cc) 42));simpa using this
 have Hg:Ybw w ((w.alloc (.cells (Yq5 p ai ao al aa ac ci co cl ca cc) 42)).alloc (.map #[] 0)):=Yba.alloc (by simp) _;have Jt:((w.alloc (.cells (Yq5 p ai ao al aa ac ci co cl ca cc) 42)).alloc (.map #[] 0)).heap.size=w.heap.size+2:=by simp
 generalize (w.alloc (.cells (Yq5 p ai ao al aa ac ci co cl ca cc) 42)).alloc (.map #[] 0)=W0 at *;have hq0:=hq 0;have kY:=hq 2;have HQ2:=Zhd (show W0.cell? ⟨w.heap.size,2,none⟩=some (.slice al p.fl.length cl) from kY);have gN:=Zhd hM0;have J4:=Zhd Hg;have hz0':w.heap.size+2<=W0.heap.size:=by omega
 have hq0:W0.cell? ⟨w.heap.size,0,none⟩=some (.slice ai p.ins.length ci):=hq0;clear hq hM0 Hg Jt kY;go_wp2_with fail;clear hq0;go_loopw[12] (λi wr=>∃k:Nat,i=.int .i64 k/\k<=p.ins.length/\Ybw w wr/\w.heap.size+2<=wr.heap.size/\wr.cell? ⟨w.heap.size,2,none⟩=some (.slice al p.fl.length cl)/\Zay (Value.int .i64) wr (w.heap.size+1) (Zdb Env.none (p.vars.take k))) (λi _=>p.ins.length - (intOf i).toNat)
 case atStart=>exact⟨0,rfl,Nat.zero_le _,J4.out,hz0',HQ2.out,gN.out⟩
 obtain⟨k,rfl,hk,hb,hz,hq,hM⟩:=hrel;have HB:=Zhd hb;have HM:=Zhd hM;have HQr:=Zhd hq;clear hb hM hq;by_cases Hd:k<p.ins.length
 .obtain⟨b,off,rfl,_,c0,c1⟩:=SlV.at H1.out Hd;have Hw:=hH.below HB.out;have c0:=Hw.cell c0;have c1:=Hw.cell c1;simp only[Nat.add_zero] at c0;have TK:=Zhd (kinds_in p k Hd);clear Hw;generalize p.ins[k]=x at *;obtain⟨xn,xk⟩:=x;dsimp only at *;have hMa:=HM.out.alloc (.cells #[.string xn,.int .i64 xk] 127);have HMA:=Zhd hMa;clear hMa;go_wp2_with(at_mapUpdate;refine Zev (Value.int .i64) 124 9 3 Tryz.underlying124 Tryz.underlying9 (w.heap.size+1) _ HMA.out _ _ _ rfl rfl rfl xn rfl xk rfl ?_;intro w3 Qb zv);have Js:=Zhd (zv.below (HB.out.alloc HB.out.size (.cells #[.string xn,.int .i64 xk] 127)) (Nat.le_succ _));have kG:=Zhd zv.size;have HQ3:=Zhd (show w3.cell? ⟨w.heap.size,2,none⟩=some (.slice al p.fl.length cl) from by rw[zv.cell (p:=⟨w.heap.size,2,none⟩) (show w.heap.size≠w.heap.size+1 by omega),World.cell?_alloc_past _ _ _ (by omega)];exact HQr.out);go_roundw
  case rel=>exact⟨k+1,by go_num,by omega,Js.out,by rw[kG.out];simp;omega,HQ3.out,by rw[TK.out];exact Qb⟩
  simp[intOf];omega
 obtain rfl:k=p.ins.length:=by omega
 have hqr:=HQr.out;go_wp2_with fail;clear hqr;go_loopw[25] (λi wr=>∃k:Nat,i=.int .i64 k/\k<=p.fl.length/\Ybw w wr/\w.heap.size+2<=wr.heap.size/\Zay (Value.int .i64) wr (w.heap.size+1) (Zdb Env.none (p.vars.take (p.ins.length+k)))) (λi _=>p.fl.length - (intOf i).toNat)
 case atStart=>exact⟨0,rfl,Nat.zero_le _,HB.out,hz,HM.out⟩
 clear HB HM HQr hz;obtain⟨k,rfl,hk,hb,hz,hM⟩:=hrel;have HB:=Zhd hb;have HM:=Zhd hM;clear hb hM;by_cases Hd:k<p.fl.length
 .obtain⟨b,off,rfl,_,kR⟩:=SlV.at H3.out Hd;obtain⟨u,c0,c1,c2,c3,c4,c5,hu⟩:=kR.cells;obtain⟨ax,cx,rfl⟩:=hu.len;have Hw:=hH.below HB.out;have c0:=Hw.cell c0;have c1:=Hw.cell c1;have c2:=Hw.cell c2;have c3:=Hw.cell c3;have c4:=Hw.cell c4;have c5:=Hw.cell c5;simp only[Nat.add_zero] at c0;have TK:=Zhd (kinds_fl p k Hd);clear Hw hu kR;generalize p.fl[k]=x at *;obtain⟨xn,xk,xe⟩:=x;dsimp only at *;generalize xe.op=xo at *;generalize xe.n=xnn at *;generalize xe.s=xs at *;generalize xe.l.length=xl at *;have hMa:=HM.out.alloc (.cells #[.string xn,.int .i64 xk,.string xo,.int .i64 xnn,.string xs,.slice ax xl cx] 96);have HMA:=Zhd hMa;clear hMa;go_wp2_with(at_mapUpdate;refine Zev (Value.int .i64) 124 9 3 Tryz.underlying124 Tryz.underlying9 (w.heap.size+1) _ HMA.out _ _ _ rfl rfl rfl xn rfl xk rfl ?_;intro w3 Qb zv);have Js:=Zhd (zv.below (HB.out.alloc HB.out.size (.cells #[.string xn,.int .i64 xk,.string xo,.int .i64 xnn,.string xs,.slice ax xl cx] 96)) (Nat.le_succ _));have kG:=Zhd zv.size;go_roundw
  case rel=>exact⟨k+1,by go_num,by omega,Js.out,by rw[kG.out];simp;omega,by rw[TK.out];exact Qb⟩
  simp[intOf];omega
 obtain rfl:k=p.fl.length:=by omega
 go_wp2_with fail;go_ret;refine⟨w.heap.size+1,rfl,?_,Nat.le_succ _,HB.out⟩;rw[<- kinds_end];exact HM.out
end Go.Proofs.YtafapnolamcdmaaGreatDoor
