/- Plain: flat.Program.Kinds, the names of flow.Compile; what a run reads lies there: no program in sight. -/
import Derived.Test.YtgoccoldkfpbgaaGreatDoorVa
import Derived.Test.YtgoccoldkfpbgaaGreatDoorRg
import Derived.Test.YtgoccoldkfpbgaaGreatDoorTeM
set_option linter.all false
namespace Go.Proofs.YtgoccoldkfpbgaaGreatDoor
open Go.RowKit Mx
def Zcy:Env Int→List (ByteArray×Int)→Env Int
 | m,[]=>m
 | m,x :: r=>Zcy (m.set x.1 x.2) r
def kindsM (p:Pr):Env Int:=Zcy Env.none p.vars
theorem Zg7:∀ (l:List (ByteArray×Int)) (m ks:Env Int),Zap m l=some ks→Zcy m l=ks
 | [],m,ks,h=>by simp only [Zap] at h;cases h;rfl
 | x :: l,m,ks,h=>by
  simp only [Zap] at h
  split at h
  ·exact Zg7 l _ ks h
  cases h
theorem Zfm:∀ (l:List (ByteArray×Int)) (m:Env Int) (x:ByteArray×Int),Zcy m (l++[x])=(Zcy m l).set x.1 x.2
 | [],m,x=>rfl
 | y :: l,m,x=>by simp only [List.cons_append,Zcy];exact Zfm l _ x
theorem kinds_in (p:Pr) (k:Nat) (h:k<p.ins.length):Zcy Env.none (p.vars.take (k+1))=(Zcy Env.none (p.vars.take k)).set p.ins[k].name p.ins[k].kind:=by
 have hv:k<p.vars.length:=by rw [Zgi];omega
 rw [List.take_succ_eq_append_getElem hv,Zfm,vars_in p k h hv]
theorem kinds_fl (p:Pr) (k:Nat) (h:k<p.fl.length):Zcy Env.none (p.vars.take (p.ins.length+(k+1)))=(Zcy Env.none (p.vars.take (p.ins.length+k))).set p.fl[k].name p.fl[k].kind:=by
 have hv:p.ins.length+k<p.vars.length:=by rw [Zgi];omega
 rw [← Nat.add_assoc,List.take_succ_eq_append_getElem hv,Zfm,vars_fl p k h hv]
theorem kinds_end (p:Pr):Zcy Env.none (p.vars.take (p.ins.length+p.fl.length))=kindsM p:=by
 rw [← Zgi,List.take_length];rfl
theorem Zjt:∀ (l:List Vr) (i:Nat) (m:Env Int) (v:Vr),Zcf i m (l++[v])=(Zcf i m l).set v.name (-1 - ((i+l.length:Nat):Int))
 | [],i,m,v=>rfl
 | x :: l,i,m,v=>by
  simp only [List.cons_append,Zcf,List.length_cons]
  rw [Zjt l (i+1),show i+1+l.length=i+(l.length+1) from by omega]
theorem Zjx:∀ (l:List Fl) (i:Nat) (m:Env Int) (f:Fl),Zdf i m (l++[f])=(Zdf i m l).set f.name ((i+l.length:Nat):Int)
 | [],i,m,f=>rfl
 | x :: l,i,m,f=>by
  simp only [List.cons_append,Zdf,List.length_cons]
  rw [Zjx l (i+1),show i+1+l.length=i+(l.length+1) from by omega]
theorem inNames_take (l:List Vr) (k:Nat) (h:k<l.length):Zcf 0 Env.none (l.take (k+1))=(Zcf 0 Env.none (l.take k)).set l[k].name (-1 - (k:Int)):=by
 rw [List.take_succ_eq_append_getElem h,Zjt]
 simp only [List.length_take,Nat.min_eq_left (Nat.le_of_lt h),Nat.zero_add]
theorem flNames_take (m:Env Int) (l:List Fl) (k:Nat) (h:k<l.length):Zdf 0 m (l.take (k+1))=(Zdf 0 m (l.take k)).set l[k].name (k:Int):=by
 rw [List.take_succ_eq_append_getElem h,Zjx]
 simp only [List.length_take,Nat.min_eq_left (Nat.le_of_lt h),Nat.zero_add]
theorem inNames_lt:∀ (l:List Vr) (i:Nat) (m:Env Int) (s:ByteArray),(s∈l.map (·.name)∨∃ j:Nat,j<i+l.length∧m s=some (-1 - (j:Int)))→∃ j:Nat,j<i+l.length∧Zcf i m l s=some (-1 - (j:Int))
 | [],i,m,s,h=>h.elim (fun h=>by simp at h) id
 | v :: l,i,m,s,h=>by
  rw [Zcf]
  have hs:i+1+l.length=i+(v :: l).length:=by simp;omega
  rw [← hs]
  refine inNames_lt l (i+1) _ s ?_
  by_cases e:s=v.name
  ·exact .inr ⟨i,by omega,by rw [e,Env.set_self]⟩
  rcases h with h | ⟨j,hj,h⟩
  ·simp only [List.map_cons,List.mem_cons] at h
   exact .inl (h.resolve_left e)
  exact .inr ⟨j,by rw [hs];exact hj,by rw [Env.set_other _ _ e];exact h⟩
theorem Zh0 {p:Pr} (hck:Zaj p=0) {ks:Env Int} (hks:Zap Env.none p.vars=some ks) (s:ByteArray) (h1:(ks s).isSome=true):
  (getI (Zai p) s<0→(-1 - getI (Zai p) s).toNat<p.ins.length)∧(0≤getI (Zai p) s→(getI (Zai p) s).toNat<p.fl.length):=by
 rcases Ze7 _ _ _ hks h1 with h | h
 ·simp [Env.none] at h
 by_cases hf:s∈p.fl.map (·.name)
 ·obtain⟨k,hk,e⟩:=List.mem_iff_getElem.1 hf
  have hk':k<p.fl.length:=by simpa using hk
  have e':p.fl[k].name=s:=by simpa using e
  have:=Zhh hck k hk'
  rw [e'] at this
  rw [this]
  exact⟨fun h=>by omega,fun _=>by simpa using hk'⟩
 have hi:s∈p.ins.map (·.name):=by
  simp only [Pr.vars,List.map_append,List.map_map,List.mem_append] at h
  rcases h with h | h
  ·exact h
  exact absurd h hf
 obtain⟨j,hj,he⟩:=inNames_lt p.ins 0 Env.none s (.inl hi)
 have:getI (Zai p) s = -1 - (j:Int):=by
  unfold getI Zai
  rw [Zdn _ _ _ _ hf,he];rfl
 rw [this]
 exact⟨fun _=>by omega,fun h=>by omega⟩
theorem evOk_of {R:REnv} {r:Inst} (hnm:∀ s,(R.ks s).isSome=true→(R.nm s<0→(-1 - R.nm s).toNat<r.inp.length)∧(0≤R.nm s→(R.nm s).toNat<r.now.length)):
  ∀ (e:Ex),Zaf R.ks e=true→∀ m,m+memN e≤r.mem.length→EvOk R r e m:=by
 refine Ex.ind fun o n s l ih hf m hm=>?_
 have hsub:=(Zax hf).1
 simp only [memN] at hm
 simp only [EvOk]
 refine⟨⟨fun ho h=>?_,fun ho h=>?_,fun ho=>by rw [if_pos ho] at hm;omega⟩,?_⟩
 ·have hks:(R.ks s).isSome=true:=by
   simp only [Zaf,Bool.and_eq_true,Bool.or_eq_true,decide_eq_true_eq] at hf
   exact hf.1.2.resolve_left (fun h=>h ho)
  exact (hnm s hks).1 h
 ·have hks:(R.ks s).isSome=true:=by
   simp only [Zaf,Bool.and_eq_true,Bool.or_eq_true,decide_eq_true_eq] at hf
   exact hf.1.2.resolve_left (fun h=>h ho)
  exact (hnm s hks).2 h
 have hL:∀ (l:List Ex),(∀ e∈l,∀ m,m+memN e≤r.mem.length→EvOk R r e m)→∀ m,m+Zam l≤r.mem.length→EvOkL R r l m:=by
  intro l
  induction l with
  | nil=>intro _ m _;simp only [EvOkL]
  | cons e l ihl=>
   intro hh m hm
   simp only [Zam] at hm
   simp only [EvOkL]
   exact⟨hh e (List.mem_cons_self ..) m (by omega),ihl (fun y hy=>hh y (List.mem_cons_of_mem _ hy)) _ (by omega)⟩
 exact hL l (fun e he m hm=>ih e he (hsub e he) m hm) m (by omega)
theorem Zgg:∀ (l:List Ex) (m:Nat),∀ x∈Zba m l,m≤x.2∧x.2+memN x.1≤m+Zam l
 | [],m,x,h=>by cases h
 | e :: l,m,x,h=>by
  simp only [Zba,List.mem_cons,Zam] at h ⊢
  rcases h with rfl | h
  ·exact⟨Nat.le_refl _,by dsimp only;omega⟩
  have:=Zgg l (m+memN e) x h
  omega
theorem withAt_get:∀ (l:List Ex) (m i:Nat) (h:i<l.length) (h':i<(Zba m l).length),(Zba m l)[i]=(l[i],m+Zam (l.take i))
 | e :: l,m,0,_,_=>by simp [Zba,Zam]
 | e :: l,m,i+1,h,h'=>by
  simp only [Zba,List.getElem_cons_succ,List.take_succ_cons,Zam]
  rw [withAt_get l (m+memN e) i (by simpa using h)]
  rw [Nat.add_assoc]
mutual
theorem memNds_fit:∀ (e:Ex) (m:Nat),∀ x∈Zbs m e,m≤x.2∧x.2+memN x.1≤m+memN e
 | .mk o n s l,m,x,h=>by
  simp only [Zbs,List.mem_append] at h
  simp only [memN]
  rcases h with h | h
  ·have:=Zhk l m x h
   omega
  split at h
  ·rename_i ho
   rw [List.mem_singleton.1 h]
   simp only [memN]
   rw [if_pos ho]
   exact⟨Nat.le_refl _,by omega⟩
  cases h
theorem Zhk:∀ (l:List Ex) (m:Nat),∀ x∈Zab m l,m≤x.2∧x.2+memN x.1≤m+Zam l
 | [],m,x,h=>by simp [Zab] at h
 | e :: l,m,x,h=>by
  simp only [Zab,List.mem_append] at h
  simp only [Zam]
  rcases h with h | h
  ·have:=memNds_fit e m x h
   omega
  have:=Zhk l (m+memN e) x h
  omega
end
mutual
theorem memNds_form (ks:Env Int):∀ (e:Ex),Zaf ks e=true→∀ (m:Nat),∀ x∈Zbs m e,Zaf ks x.1=true∧(x.1.op=oPre∨x.1.op=oFby)
 | .mk o n s l,hf,m,x,h=>by
  simp only [Zbs,List.mem_append] at h
  rcases h with h | h
  ·exact Zdw ks l (Zax hf).1 m x h
  split at h
  ·rename_i ho
   rw [List.mem_singleton.1 h]
   exact⟨hf,ho⟩
  cases h
theorem Zdw (ks:Env Int):∀ (l:List Ex),(∀ e∈l,Zaf ks e=true)→∀ (m:Nat),∀ x∈Zab m l,Zaf ks x.1=true∧(x.1.op=oPre∨x.1.op=oFby)
 | [],_,m,x,h=>by simp [Zab] at h
 | e :: l,hf,m,x,h=>by
  simp only [Zab,List.mem_append] at h
  rcases h with h | h
  ·exact memNds_form ks e (hf e (List.mem_cons_self ..)) m x h
  exact Zdw ks l (fun y hy=>hf y (List.mem_cons_of_mem _ hy)) _ x h
end
mutual
theorem memN_le:∀ e:Ex,memN e≤e.parts
 | .mk o n s l=>by
  have:=Zkd l
  simp only [memN,Ex.parts]
  split<;>omega
theorem Zkd:∀ l:List Ex,Zam l≤Ex.partsL l
 | []=>by simp [Zam,Ex.partsL]
 | e :: l=>by
  have:=memN_le e
  have:=Zkd l
  simp only [Zam,Ex.partsL]
  omega
end
theorem all_of {w:World} {K:Kn} (h:K.In w):K.le (Zag w):=fun b o e=>h b o e
structure CoS (NT PT CT:TypeId) (R:REnv) (H:Kn) (w0 wr:World) (B base:Nat) (cs:Array Value) (j:Nat) (M0:List (Ex×Nat)) (l:List Ex) (dm done:Nat) (pu:Value) (qs:List Nat) (K:Kn) (u:Value) (ps:List Nat):Prop where
 le:H.le K
 isin:K.In wr
 below:Below w0.heap.size w0 wr
 noB:K B=none
 hB:w0.heap.size≤B
 cd:CdS PT CT wr B base (cs.setIfInBounds j pu) u ps
 mem:PsAt NT R K (M0++Zab M0.length (l.take dm)) ps
 noM:∀ g,u.ownBlock=some g→K g=none
 row:wr.ownsRow base PT 1 pu done (qs.map ptrV)
 noP:∀ g,pu.ownBlock=some g→K g=none
 ql:qs.length=done
 nds:∀ i (h:i<qs.length) (h2:i<l.length),NdAt NT R K l[i] (M0.length+Zam (l.take i)) qs[i]
 apart:∀ g,pu.ownBlock=some g→u.ownBlock≠some g
 low:base≤wr.heap.size
section
variable {NT PT CT : TypeId} {R : REnv} {H K : Kn} {w0 wr : World} {B base j : Nat} {cs : Array Value} {M0 : List (Ex × Nat)} {l : List Ex} {dm done : Nat} {pu : Value} {qs : List Nat} {u : Value} {ps : List Nat}
theorem CoS.bb (h:CoS NT PT CT R H w0 wr B base cs j M0 l dm done pu qs K u ps):B<base:=h.cd.low
theorem CoS.pB (h:CoS NT PT CT R H w0 wr B base cs j M0 l dm done pu qs K u ps):pu.ownBlock≠some B:=Zbi h.row h.bb
theorem CoS.mlen (h:CoS NT PT CT R H w0 wr B base cs j M0 l dm done pu qs K u ps):ps.length=M0.length+Zam (l.take dm):=by
 rw [h.mem.len,List.length_append,Za1]
theorem CoS.next {w':World} (h:CoS NT PT CT R H w0 wr B base cs j M0 l dm done pu qs K u ps) (hb:Below wr.heap.size wr w'):CoS NT PT CT R H w0 w' B base cs j M0 l dm done pu qs K u ps:=
 ⟨h.le,h.isin.below hb,h.below.trans (hb.mono h.below.size),h.noB,h.hB,h.cd.below hb,h.mem,h.noM,Za6 h.row hb,h.noP,h.ql,h.nds,h.apart,Nat.le_trans h.low hb.size⟩
theorem CoS.alloc (h:CoS NT PT CT R H w0 wr B base cs j M0 l dm done pu qs K u ps) (o:Obj):CoS NT PT CT R H w0 (wr.alloc o) B base cs j M0 l dm done pu qs K u ps:=h.next ((Below.refl _ _).alloc (Nat.le_refl _) o)
theorem CoS.cell (h:CoS NT PT CT R H w0 wr B base cs j M0 l dm done pu qs K u ps) (hj:j<cs.size) (h10:j≠10):wr.cell? ⟨B,j,none⟩=some pu:=by
 have hb:=h.cd.box
 simp [World.cell?,hb,hj,Ne.symm h10]
theorem CoS.other (h:CoS NT PT CT R H w0 wr B base cs j M0 l dm done pu qs K u ps) {i:Nat} (hi:i≠j) (h10:i≠10):wr.cell? ⟨B,i,none⟩=cs[i]?:=by
 have hb:=h.cd.box
 simp [World.cell?,hb,Ne.symm hi,Ne.symm h10]
theorem CoS.child {w':World} {K':Kn} {u':Value} {ps':List Nat} {x:Ex} {q:Nat} (h:CoS NT PT CT R H w0 wr B base cs j M0 l done done pu qs K u ps) (hd:done<l.length) (hx:l[done]=x)
  (k:TeD NT PT CT R K wr w' B base (cs.setIfInBounds j pu) u (M0++Zab M0.length (l.take done)++Zbs (M0++Zab M0.length (l.take done)).length x) K' u' ps') (hq:NdAt NT R K' x (M0++Zab M0.length (l.take done)).length q):
  CoS NT PT CT R H w0 w' B base cs j M0 l (done+1) done pu qs K' u' ps'∧NdAt NT R K' x (M0.length+Zam (l.take done)) q:=by
 subst hx
 have hbs:=h.below.size
 have hbb:=h.bb
 have hlow:=h.low
 have hhB:=h.hB
 have hsz:=k.gr.size
 have hml:(M0++Zab M0.length (l.take done)).length=M0.length+Zam (l.take done):=by rw [List.length_append,Za1]
 refine⟨⟨Kn.le_trans h.le k.le,k.isin,⟨k.gr.os.trans h.below.os,k.gr.tape.trans h.below.tape,k.gr.output.trans h.below.output,Nat.le_trans hbs hsz,fun i hi=>?_⟩,(k.fresh B (by omega)).trans h.noB,hhB,k.cd,?_,k.noM,own_gr2 h.row k.gr h.pB h.apart,fun g hg=>?_,h.ql,fun i h1 h2=>NdAt.le k.le _ _ _ (h.nds i h1 h2),fun g hg hu=>?_,Nat.le_trans hlow hsz⟩,?_⟩
 ·rw [k.gr.block i (by omega) (by omega) (fun e=>by have:=(h.cd.row.lt i e.symm).1;omega)]
  exact h.below.block i hi
 ·have:=k.mem
  rw [hml,List.append_assoc,← Zjo _ _ _ hd] at this
  exact this
 ·rw [k.fresh g (h.row.lt g hg).2];exact h.noP g hg
 ·have hlt:=(h.row.lt g hg).2
  rcases k.own g hu with h1 | h1
  ·omega
  exact h.apart g hg h1
 rw [hml] at hq
 exact hq
theorem CoS.app {w3:World} {gg cap' q:Nat} {x:Ex} (h:CoS NT PT CT R H w0 wr B base cs j M0 l (done+1) done pu qs K u ps) (hj:j<cs.size) (h10:j≠10) (hd:done<l.length) (hx:l[done]=x) (hq:NdAt NT R K x (M0.length+Zam (l.take done)) q)
  (hown:w3.ownsRow base PT 1 (.slice (some ⟨gg,0,none⟩) (done+1) cap') (done+1) (qs.map ptrV++[ptrV q])) (hg:wr.grownBy w3 pu.ownBlock) (hat:pu.ownBlock=some gg∨gg=wr.heap.size):
  w3.cell? ⟨B,j,none⟩=some pu∧w3.frozen? ⟨B,j,none⟩=false∧
   CoS NT PT CT R H w0 (w3.setCell ⟨B,j,none⟩ (.slice (some ⟨gg,0,none⟩) (done+1) cap')) B base cs j M0 l (done+1) (done+1) (.slice (some ⟨gg,0,none⟩) (done+1) cap') (qs++[q]) K u ps:=by
 subst hx
 have hbs:=h.below.size
 have hbb:=h.bb
 have hlow:=h.low
 have hhB:=h.hB
 have hBlt:B<wr.heap.size:=h.cd.blt
 have hBx:w3.heap[B]?=_:=(hg.block B hBlt (fun e=>h.pB e.symm)).trans h.cd.box
 have hgB:gg≠B:=by
  have:=Zbi (b:=B) hown hbb
  simpa [Value.ownBlock] using this
 have hKg:K gg=none:=by
  rcases hat with h1 | rfl
  ·exact h.noP gg h1
  exact h.isin.isNone (Nat.le_refl _)
 have hug:u.ownBlock≠some gg:=by
  rcases hat with h1 | rfl
  ·exact h.apart gg h1
  intro hu;have:=(h.cd.row.lt _ hu).2;omega
 have hin:=h.isin.grown hg h.noP
 have hrow:w3.ownsRow base PT 1 u ps.length (ps.map ptrV):=Zcr h.cd.row hg fun g hu hp=>h.apart g hp hu
 refine⟨by simp [World.cell?,hBx,hj,Ne.symm h10],by simp [World.frozen?,hBx],h.le,hin.setCell (a:=⟨B,j,none⟩) h.noB _,?_,h.noB,hhB,⟨?_,Zal hrow (h.cd.ne) _,hbb⟩,h.mem,h.noM,?_,fun g hgg=>?_,by simp [h.ql],fun i h1 h2=>?_,fun g hgg=>?_,?_⟩
 ·refine⟨hg.os.trans h.below.os,hg.tape.trans h.below.tape,hg.output.trans h.below.output,by simp;have:=hg.size;omega,fun i hi=>?_⟩
  rw [Below.heap_setCell w3 ⟨B,j,none⟩ _ i (by show i≠B;omega),hg.block i (by omega) (fun e=>by have:=(h.row.lt i e.symm).1;omega)]
  exact h.below.block i hi
 ·rw [Zaa _ _ _ _ _ _ _ hBx]
  congr 2
  refine Array.ext_getElem? fun i=>?_
  simp only [Array.getElem?_setIfInBounds,Array.size_setIfInBounds]
  by_cases e1:j=i
  ·subst e1;simp [Ne.symm h10]
  by_cases e2:10=i
  ·subst e2;simp [e1]
  simp [e1,e2]
 ·rw [List.map_append]
  exact Zal hown (by simpa [Value.ownBlock] using hgB) _
 ·have e:gg=g:=by simpa [Value.ownBlock] using hgg
  rw [← e];exact hKg
 ·by_cases hi:i<qs.length
  ·rw [List.getElem_append_left hi]
   exact h.nds i hi h2
  have hi':i=qs.length:=by simp at h1;omega
  rw [List.getElem_append_right (by omega)]
  have hqd:=h.ql
  obtain rfl:i=done:=by omega
  simpa using hq
 ·have e:gg=g:=by simpa [Value.ownBlock] using hgg
  rw [← e];exact hug
 simp;have:=hg.size;omega
theorem CoS.fin (h:CoS NT PT CT R H w0 wr B base cs j M0 l l.length l.length pu qs K u ps) {j':Nat} {l':List Ex} (hj':cs[j']?=some (.slice none 0 0)) (hne:j'≠j) (_h10:j'≠10):
  ∃ K',K.le K'∧NdsV NT R K' (Zba M0.length l) pu∧CoS NT PT CT R H w0 wr B base (cs.setIfInBounds j pu) j' (M0++Zab M0.length l) l' 0 0 (.slice none 0 0) [] K' u ps:=by
 have hmem:=h.mem
 rw [List.take_length] at hmem
 have hcs:(cs.setIfInBounds j pu).setIfInBounds j' (.slice none 0 0)=cs.setIfInBounds j pu:=by
  refine Array.ext_getElem? fun i=>?_
  simp only [Array.getElem?_setIfInBounds,Array.size_setIfInBounds]
  by_cases e1:j'=i
  ·subst e1
   obtain⟨h1,h2⟩:=Array.getElem?_eq_some_iff.1 hj'
   simp [h1,Ne.symm hne,h2]
  simp [e1]
 have hw:(Zba M0.length l).length=l.length:=Zb8 l _
 have key:∀ K',K.le K'→K'.In wr→K' B=none→(∀ g,u.ownBlock=some g→K' g=none)→CoS NT PT CT R H w0 wr B base (cs.setIfInBounds j pu) j' (M0++Zab M0.length l) l' 0 0 (.slice none 0 0) [] K' u ps:=fun K' hle hin hnB hnu=>
  ⟨Kn.le_trans h.le hle,hin,h.below,hnB,h.hB,by rw [hcs];exact h.cd,by simpa [Zab] using hmem.le hle,hnu,World.ownsRow_nil _ _ _ _,fun g hg=>by simp [Value.ownBlock] at hg,rfl,fun i h1=>by simp at h1,fun g hg=>by simp [Value.ownBlock] at hg,h.low⟩
 by_cases h0:l.length=0
 ·obtain⟨a,c,hp,_⟩:=Zas h.row
  refine⟨K,Kn.le_refl K,.inl ⟨List.eq_nil_of_length_eq_zero (by omega),a,c,by rw [hp,h0]⟩,key K (Kn.le_refl K) h.isin h.noB h.noM⟩
 obtain⟨g,cap,hp,h1,h2,h3,h4,h5⟩:=Zbz h.row (by omega)
 have hpg:pu.ownBlock=some g:=by rw [hp];rfl
 have hbb:=h.bb
 have hgB:B≠g:=by omega
 have hKg:K g=none:=h.noP g hpg
 have ho:wr.heap[g]?=some wr.heap[g]:=Array.getElem?_eq_getElem h4
 have hle:=Kn.le_add (o:=wr.heap[g]) hKg
 refine⟨_,hle,.inr ⟨g,0,cap,by rw [hp,hw],by rw [hw];exact h1,h2,fun i hi=>?_⟩,key _ hle (h.isin.add ho) (by rw [Kn.add_other _ _ hgB];exact h.noB) fun x hx=>by rw [Kn.add_other _ _ (fun e=>h.apart g hpg (by rw [← e];exact hx))];exact h.noM x hx⟩
 have hil:i<l.length:=by omega
 have hq:i<qs.length:=by rw [h.ql];exact hil
 rw [withAt_get l _ i hil hi]
 refine⟨qs[i],?_,NdAt.le hle _ _ _ (h.nds i hq hil)⟩
 show (K.add g wr.heap[g]).cell g (0+i * 1+0)=some (ptrV qs[i])
 have h6:=h5 i (ptrV qs[i]) (by simp [hq])
 unfold Kn.cell
 rw [Kn.add_self]
 simp only [World.cell?,ho] at h6
 simp only [Nat.zero_add,Nat.mul_one,Nat.add_zero]
 cases hc:wr.heap[g]<;>simp_all
end
theorem CoS.rebase {NT PT CT:TypeId} {R:REnv} {H K:Kn} {w0 wr:World} {B base j:Nat} {cs:Array Value} {M0:List (Ex×Nat)} {l:List Ex} {dm done:Nat} {pu:Value} {qs:List Nat} {u:Value} {ps:List Nat} (h:CoS NT PT CT R H w0 wr B base cs j M0 l dm done pu qs K u ps):CoS NT PT CT R K w0 wr B base cs j M0 l dm done pu qs K u ps:=
 ⟨Kn.le_refl K,h.isin,h.below,h.noB,h.hB,h.cd,h.mem,h.noM,h.row,h.noP,h.ql,h.nds,h.apart,h.low⟩
theorem set_self {cs:Array Value} {j:Nat} {v:Value} (h:cs[j]?=some v):cs.setIfInBounds j v=cs:=by
 refine Array.ext_getElem? fun i=>?_
 simp only [Array.getElem?_setIfInBounds]
 by_cases e1:j=i
 ·subst e1
  obtain⟨h1,h2⟩:=Array.getElem?_eq_some_iff.1 h
  simp [h1,h2]
 simp [e1]
theorem CoS.init {NT PT CT:TypeId} {R:REnv} {H:Kn} {w0 wr:World} {B j:Nat} {cs:Array Value} {l:List Ex} (hin:H.In wr) (hb:Below w0.heap.size w0 wr) (hHB:H B=none) (hB:w0.heap.size≤B) (hbox:wr.heap[B]?=some (.cells cs CT (0,0))) (h10:cs[10]?=some (.slice none 0 0)) (hj:cs[j]?=some (.slice none 0 0)):
  CoS NT PT CT R H w0 wr B wr.heap.size cs j [] l 0 0 (.slice none 0 0) [] H (.slice none 0 0) []:=
 ⟨Kn.le_refl H,hin,hb,hHB,hB,⟨by rw [set_self hj,set_self h10];exact hbox,World.ownsRow_nil _ _ _ _,(Zlt hbox)⟩,⟨by simp [Zab],fun i h1 h2=>by simp at h2⟩,fun g hg=>by simp [Value.ownBlock] at hg,World.ownsRow_nil _ _ _ _,fun g hg=>by simp [Value.ownBlock] at hg,rfl,fun i h1=>by simp at h1,fun g hg=>by simp [Value.ownBlock] at hg,Nat.le_refl _⟩
theorem map_known {α:Type} {V:α→Value} {w:World} {b R:Nat} {m:Env α} (h:Zaw V w b m) (hb:b≠R):∀ w',(noKn R w).In w'→Zaw V w' b m:=fun w' hw=>by
 obtain⟨es,ck,h1,h2⟩:=h
 exact⟨es,ck,hw b _ (by unfold noKn;rw [if_neg hb];exact h1),h2⟩
theorem partsL_mem {l:List Ex} {e:Ex} (h:e∈l):e.parts≤Ex.partsL l:=by
 obtain⟨i,hi,rfl⟩:=List.mem_iff_getElem.1 h
 exact Zau l i hi
def OutC (x:Int) (f:Nat→Option Value):Prop:=f 0=some (.int .i64 x)
abbrev OutsV (H:Kn):List Int→Value→Prop:=SlV H 1 OutC
theorem OutC.mono (x:Int) (f g:Nat→Option Value) (h:∀ j u,f j=some u→g j=some u) (hx:OutC x f):OutC x g:=h _ _ hx
theorem OutsV.le {H H':Kn} (hle:H.le H') {l:List Int} {v:Value} (h:OutsV H l v):OutsV H' l v:=SlV.le h hle OutC.mono
structure OuS (IT PT CT:TypeId) (w0 wr:World) (B base:Nat) (cs:Array Value) (outs:List Int) (k:Nat) (pu:Value) (K:Kn) (u:Value) (ps:List Nat):Prop where
 isin:K.In wr
 below:Below w0.heap.size w0 wr
 box:wr.heap[B]?=some (.cells (cs.setIfInBounds 9 pu) CT (0,0))
 ms:wr.ownsRow base PT 1 u ps.length (ps.map ptrV)
 row:wr.ownsRow base IT 1 pu k ((outs.take k).map fun x => .int .i64 x)
 noB:K B=none
 noP:∀ g,pu.ownBlock=some g→K g=none
 hB:w0.heap.size≤B
 bb:B<base
 low:base≤wr.heap.size
 ne:PT≠IT
section
variable {IT PT CT : TypeId} {w0 wr : World} {B base : Nat} {cs : Array Value} {outs : List Int} {k : Nat} {pu : Value} {K : Kn} {u : Value} {ps : List Nat}
theorem OuS.next {w':World} (h:OuS IT PT CT w0 wr B base cs outs k pu K u ps) (hb:Below wr.heap.size wr w'):OuS IT PT CT w0 w' B base cs outs k pu K u ps:=
 ⟨h.isin.below hb,h.below.trans (hb.mono h.below.size),by rw [hb.block B (Zlt h.box)];exact h.box,Za6 h.ms hb,Za6 h.row hb,h.noB,h.noP,h.hB,h.bb,Nat.le_trans h.low hb.size,h.ne⟩
theorem OuS.alloc (h:OuS IT PT CT w0 wr B base cs outs k pu K u ps) (o:Obj):OuS IT PT CT w0 (wr.alloc o) B base cs outs k pu K u ps:=h.next ((Below.refl _ _).alloc (Nat.le_refl _) o)
theorem OuS.cell (h:OuS IT PT CT w0 wr B base cs outs k pu K u ps) (hj:9<cs.size):wr.cell? ⟨B,9,none⟩=some pu:=by
 have hb:=h.box
 simp [World.cell?,hb,hj]
theorem OuS.other (h:OuS IT PT CT w0 wr B base cs outs k pu K u ps) {i:Nat} (hi:i≠9):wr.cell? ⟨B,i,none⟩=cs[i]?:=by
 have hb:=h.box
 simp [World.cell?,hb,Ne.symm hi]
theorem OuS.low' (h:OuS IT PT CT w0 wr B base cs outs k pu K u ps):base≤wr.heap.size:=h.low
theorem OuS.app {w3:World} {gg cap':Nat} {x:Int} (h:OuS IT PT CT w0 wr B base cs outs k pu K u ps) (hj:9<cs.size) (hk:k<outs.length) (hx:outs[k]=x)
  (hown:w3.ownsRow base IT 1 (.slice (some ⟨gg,0,none⟩) (k+1) cap') (k+1) (((outs.take k).map fun x => .int .i64 x)++[.int .i64 x])) (hg:wr.grownBy w3 pu.ownBlock) (hat:pu.ownBlock=some gg∨gg=wr.heap.size):
  w3.cell? ⟨B,9,none⟩=some pu∧w3.frozen? ⟨B,9,none⟩=false∧OuS IT PT CT w0 (w3.setCell ⟨B,9,none⟩ (.slice (some ⟨gg,0,none⟩) (k+1) cap')) B base cs outs (k+1) (.slice (some ⟨gg,0,none⟩) (k+1) cap') K u ps:=by
 subst hx
 have hbs:=h.below.size
 have hbb:=h.bb
 have hlow:=h.low
 have hhB:=h.hB
 have hpB:pu.ownBlock≠some B:=Zbi h.row hbb
 have hBlt:B<wr.heap.size:=(Zlt h.box)
 have hBx:w3.heap[B]?=_:=(hg.block B hBlt (fun e=>hpB e.symm)).trans h.box
 have hgB:gg≠B:=by
  have:=Zbi (b:=B) hown hbb
  simpa [Value.ownBlock] using this
 have hKg:K gg=none:=by
  rcases hat with h1 | rfl
  ·exact h.noP gg h1
  exact h.isin.isNone (Nat.le_refl _)
 have hms:w3.ownsRow base PT 1 u ps.length (ps.map ptrV):=Zcr h.ms hg fun g hu hp=>Zf2 h.ms h.row h.ne g hu hp
 refine⟨by simp [World.cell?,hBx,hj],by simp [World.frozen?,hBx],(h.isin.grown hg h.noP).setCell (a:=⟨B,9,none⟩) h.noB _,?_,?_,Zal hms (Zbi hms hbb) _,?_,h.noB,fun g hgg=>?_,hhB,hbb,by simp;have:=hg.size;omega,h.ne⟩
 ·refine⟨hg.os.trans h.below.os,hg.tape.trans h.below.tape,hg.output.trans h.below.output,by simp;have:=hg.size;omega,fun i hi=>?_⟩
  rw [Below.heap_setCell w3 ⟨B,9,none⟩ _ i (by show i≠B;omega),hg.block i (by omega) (fun e=>by have:=(h.row.lt i e.symm).1;omega)]
  exact h.below.block i hi
 ·rw [Zaa _ _ _ _ _ _ _ hBx]
  simp
 ·rw [List.take_succ_eq_append_getElem hk,List.map_append]
  exact Zal hown (by simpa [Value.ownBlock] using hgB) _
 have e:gg=g:=by simpa [Value.ownBlock] using hgg
 rw [← e];exact hKg
end
structure CodeAt (NT CT:TypeId) (R:REnv) (K:Kn) (p:Pr) (ord:List Nat) (B:Nat):Prop where
 ex:∃ cs vi vo vf va vc vu vm,K B=some (.cells cs CT (0,0))∧(cs[0]?=some vi∧VrsV K p.ins vi)∧(cs[5]?=some vo∧Zcc K ord vo)∧(cs[6]?=some vf∧NdsV NT R K (cdOf p ord).fs vf)∧(cs[7]?=some va∧NdsV NT R K (cdOf p ord).av va)∧
  (cs[8]?=some vc∧NdsV NT R K (cdOf p ord).cv vc)∧(cs[9]?=some vu∧OutsV K (cdOf p ord).outs vu)∧(cs[10]?=some vm∧NdsV NT R K (Zab 0 p.terms) vm)
theorem Zgw (o:ByteArray) (n:Int) (s:ByteArray) (l:List Ex):memN (.mk o n s l)=Zam l+(if o=oPre∨o=oFby then 1 else 0):=by rw [memN]
theorem Zgt {at_:Env Nat}:∀ {l:List Ex} {e:Ex} {k:Nat},e∈l→k∈needs at_ e→k∈Zcl at_ l
 | x :: l,e,k,he,hk=>by
  simp only [Zcl,List.mem_append]
  rcases List.mem_cons.1 he with rfl | he
  ·exact .inl hk
  exact .inr (Zgt he hk)
theorem eval_agree {R:REnv} {ks:Env Int} {at_:Env Nat} (hnm:∀ s,(ks s).isSome=true→0≤R.nm s→at_ s=some (R.nm s).toNat) {r r':Inst} (hf:r.first=r'.first) (hi:r.inp=r'.inp):
  ∀ e:Ex,Zaf ks e=true→∀ m m',(∀ j,j<memN e→r.mem.getD (m+j) vz=r'.mem.getD (m'+j) vz)→(∀ k∈needs at_ e,r.now.getD k vz=r'.now.getD k vz)→Zbo R r m e=Zbo R r' m' e:=by
 refine Ex.ind fun o n s l ih hfo m m' hm hn=>?_
 obtain⟨hsub,hfby,harr,hpre,_⟩:=Zax hfo
 rw [Zgw] at hm
 have hL:∀ (l:List Ex),(∀ e∈l,Zaf ks e=true→∀ m m',(∀ j,j<memN e→r.mem.getD (m+j) vz=r'.mem.getD (m'+j) vz)→(∀ k∈needs at_ e,r.now.getD k vz=r'.now.getD k vz)→Zbo R r m e=Zbo R r' m' e)→
   (∀ e∈l,Zaf ks e=true)→∀ (k m m':Nat),(∀ j,j<Zam l→r.mem.getD (m+j) vz=r'.mem.getD (m'+j) vz)→(∀ i (h:i<l.length),i<k→∀ x∈needs at_ l[i],r.now.getD x vz=r'.now.getD x vz)→Za9 R r m k l=Za9 R r' m' k l:=by
  intro l
  induction l with
  | nil=>intro _ _ k m m' _ _;simp [Za9]
  | cons e l ihl=>
   intro hh hff k m m' hmm hnn
   cases k with
   | zero=>simp [Za9]
   | succ k=>
    simp only [Za9]
    simp only [Zam] at hmm
    have e1:=hh e (List.mem_cons_self ..) (hff e (List.mem_cons_self ..)) m m' (fun j hj=>hmm j (by omega)) (fun x hx=>hnn 0 (by simp) (by omega) x (by simpa using hx))
    have e2:=ihl (fun y hy=>hh y (List.mem_cons_of_mem _ hy)) (fun y hy=>hff y (List.mem_cons_of_mem _ hy)) k (m+memN e) (m'+memN e) (fun j hj=>by
     have:=hmm (memN e+j) (by omega)
     rw [← Nat.add_assoc,← Nat.add_assoc] at this
     exact this) (fun i h hik x hx=>hnn (i+1) (by simpa using h) (by omega) x (by simpa using hx))
    rw [e1,e2]
 have hvs:Za9 R r m (if o=oPre then 0 else if o=oFby then 1 else l.length) l=Za9 R r' m' (if o=oPre then 0 else if o=oFby then 1 else l.length) l:=by
  refine hL l (fun e he=>ih e he) hsub _ m m' (fun j hj=>hm j (by omega)) fun i h hik x hx=>hn x ?_
  simp only [needs]
  by_cases e1:o=oPre
  ·rw [if_pos e1] at hik;omega
  rw [if_neg e1] at hik ⊢
  by_cases e2:o=oFby
  ·rw [if_pos e2] at hik ⊢
   obtain rfl:i=0:=by omega
   cases l with
   | nil=>simp at h
   | cons y l=>simpa [Zf7] using hx
  rw [if_neg e2]
  exact List.mem_append_right _ (Zgt (List.getElem_mem h) hx)
 simp only [Zbo]
 rw [hvs,hf]
 suffices hs:∀ late vs,valM R r (m+Zam l) o n s late vs=valM R r' (m'+Zam l) o n s late vs by rw [hs]
 intro late vs
 unfold valM
 rw [hf,hi]
 by_cases e1:o=oInt
 ·rw [if_pos e1,if_pos e1]
 rw [if_neg e1,if_neg e1]
 by_cases e2:o=Zc2∨o=Zb9
 ·rw [if_pos e2,if_pos e2]
 rw [if_neg e2,if_neg e2]
 by_cases e3:o=Zb2
 ·rw [if_pos e3,if_pos e3]
  by_cases h5:R.nm s<0
  ·rw [if_pos h5,if_pos h5]
  have hks:(ks s).isSome=true:=by
   simp only [Zaf,Bool.and_eq_true,Bool.or_eq_true,decide_eq_true_eq] at hfo
   exact hfo.1.2.resolve_left (fun h=>h e3)
  rw [if_neg h5,if_neg h5,hn (R.nm s).toNat ?_]
  simp only [needs]
  rw [if_neg (by rw [e3];decide),if_neg (by rw [e3];decide),if_pos e3,hnm s hks (by omega)]
  simp
 rw [if_neg e3,if_neg e3]
 by_cases e4:o=oPre
 ·rw [if_pos e4,if_pos e4,hm (Zam l) (by rw [if_pos (.inl e4)];omega)]
 rw [if_neg e4,if_neg e4]
 by_cases e5:o=oFby
 ·rw [if_pos e5,if_pos e5,hm (Zam l) (by rw [if_pos (.inr e5)];omega)]
 rw [if_neg e5,if_neg e5]
theorem nm_at {p:Pr} (hck:Zaj p=0) {ks:Env Int} (hks:Zap Env.none p.vars=some ks) (s:ByteArray) (h1:(ks s).isSome=true) (h2:0≤getI (Zai p) s):p.atOf s=some (getI (Zai p) s).toNat:=by
 have hk:=(Zh0 hck hks s h1).2 h2
 have h3:=nm_of hck hks s h1 h2
 generalize (getI (Zai p) s).toNat=k at h3 hk ⊢
 have h6:nfOf p k=p.fl[k].name:=by simp [nfOf,List.getD_eq_getElem?_getD,hk]
 have h5:=at_get p.fl 0 Env.none (Zgv hck) k hk
 rw [h3,h6]
 unfold Pr.atOf
 rw [h5]
 simp
def Topo (g:List (List Nat)) (ord:List Nat):Prop:=∀ i (h:i<ord.length),ord[i]∉ord.take i∧∀ x∈g.getD ord[i] [],x∈ord.take i
theorem topo_snoc {g:List (List Nat)} {l:List Nat} {k:Nat} (h:Topo g l) (h1:k∉l) (h2:∀ x∈g.getD k [],x∈l):Topo g (l++[k]):=fun i hi=>by
 by_cases hil:i<l.length
 ·rw [List.getElem_append_left hil,List.take_append_of_le_length (by omega)]
  exact h i hil
 simp only [List.length_append,List.length_singleton] at hi
 obtain rfl:i=l.length:=by omega
 rw [List.take_left,show (l++[k])[l.length]=k from by simp]
 exact⟨h1,h2⟩
theorem sort_topo {g:List (List Nat)} (hp:∀ j,j<g.length→pick g (Zcv g j [])<g.length):∀ j,j≤g.length→Topo g (Zcv g j [])
 | 0,_=>fun i hi=>by simp [Zcv] at hi
 | j+1,hj=>by
  rw [Zf0]
  have h:=pick_free (hp j (by omega))
  unfold Zho at h
  simp only [Bool.and_eq_true,Bool.not_eq_true',List.all_eq_true] at h
  refine topo_snoc (sort_topo hp j (by omega)) (fun hm=>?_) fun x hx=>?_
  ·have:=List.contains_iff_mem.2 hm
   rw [h.1] at this;cases this
  exact List.contains_iff_mem.1 (h.2 x hx)
theorem Zfj {p:Pr} {l:List Nat} (h:Zbf p = .ok l):Topo p.graph l:=by
 unfold Zbf at h
 split at h
 ·cases h
 rename_i h0
 have hc:Zaj p=0:=by simpa using h0
 split at h
 ·cases h
 rename_i hf
 cases h
 refine sort_topo (Zin p hc fun j hj=>?_) _ (Nat.le_refl _)
 have:=List.find?_eq_none.1 hf j (by simpa using hj)
 simpa using this
theorem Zhz:∀ (n:Nat) (l:List Nat),l.Nodup→(∀ x∈l,x<n)→l.length≤n
 | 0,l,_,h=>by
  cases l with
  | nil=>simp
  | cons x l=>exact absurd (h x (List.mem_cons_self ..)) (by omega)
 | n+1,l,hn,h=>by
  have h1:=Zhz n (l.erase n) (hn.erase n) fun x hx=>by
   have h2:=(List.Nodup.mem_erase_iff hn).1 hx
   have:=h x h2.2
   omega
  have h3:=List.length_erase (a:=n) (l:=l)
  split at h3<;>omega
theorem topo_nodup {g:List (List Nat)} {ord:List Nat} (h:Topo g ord):ord.Nodup:=by
 rw [List.nodup_iff_pairwise_ne,List.pairwise_iff_getElem]
 intro i j hi hj hij e
 refine (h j hj).1 ?_
 rw [← e]
 exact List.mem_take_iff_getElem.2 ⟨i,by omega,rfl⟩
theorem Zf3 {p:Pr} {l:List Nat} (h:Zbf p = .ok l):∀ k,k<p.fl.length→k∈l:=by
 obtain⟨_,hlen,hlow⟩:=Zbk h
 intro k hk
 refine Classical.byContradiction fun hn=>?_
 have:=Zhz p.fl.length (k :: l) (List.nodup_cons.2 ⟨hn,topo_nodup (Zfj h)⟩) fun x hx=>by
  rcases List.mem_cons.1 hx with rfl | hx
  ·exact hk
  exact hlow x hx
 simp at this
 omega
abbrev d0:Ex×Nat:=(.mk ⟨#[]⟩ 0 ⟨#[]⟩ [],0)
def evAt (R:REnv) (first:Bool) (mem inp:List Vl) (fs:List (Ex×Nat)) (now:List Vl) (k:Nat):Vl×Bool:=Zbo R ⟨first,mem,inp,now⟩ (fs.getD k d0).2 (fs.getD k d0).1
theorem now_go {R:REnv} {ks:Env Int} {at_:Env Nat} (hnm:∀ s,(ks s).isSome=true→0≤R.nm s→at_ s=some (R.nm s).toNat) (first:Bool) (mem inp:List Vl) (fs:List (Ex×Nat)) (g:List (List Nat)):
  ∀ (rest done:List Nat) (now:List Vl) (t:Bool),Topo g (done++rest)→(∀ k∈done++rest,k<now.length∧Zaf ks (fs.getD k d0).1=true∧∀ x∈needs at_ (fs.getD k d0).1,x∈g.getD k [])→
   (∀ k∈done,now.getD k vz=(evAt R first mem inp fs now k).1)→(t=done.any fun k=>(evAt R first mem inp fs now k).2)→
   (nowM R first mem inp fs rest now t).1.length=now.length∧(∀ k∈done++rest,(nowM R first mem inp fs rest now t).1.getD k vz=(evAt R first mem inp fs (nowM R first mem inp fs rest now t).1 k).1)∧
    (nowM R first mem inp fs rest now t).2=(done++rest).any fun k=>(evAt R first mem inp fs (nowM R first mem inp fs rest now t).1 k).2
 | [],done,now,t,_,_,h1,h2=>by simpa [nowM] using ⟨h1,h2⟩
 | k :: rest,done,now,t,ht,hk,h1,h2=>by
  have hkk:=ht done.length (by simp)
  have e0:(done++k :: rest)[done.length]=k:=by simp
  rw [e0,List.take_left] at hkk
  obtain⟨hnk,hneed⟩:=hkk
  have hkl:=(hk k (by simp)).1
  have hx:∀ x∈done,∀ v,(now.set k v).getD x vz=now.getD x vz:=fun x hxd v=>by
   have:k≠x:=fun e=>hnk (e▸hxd)
   simp [List.getD_eq_getElem?_getD,List.getElem?_set_ne this]
  have hev:∀ y∈done++k :: rest,(∀ x∈g.getD y [],x∈done)→∀ v,evAt R first mem inp fs (now.set k v) y=evAt R first mem inp fs now y:=fun y hy hsub v=>by
   unfold evAt
   exact eval_agree (at_:=at_) (r:=⟨first,mem,inp,now.set k v⟩) (r':=⟨first,mem,inp,now⟩) hnm rfl rfl _ (hk y hy).2.1 _ _ (fun _ _=>rfl) fun x hx'=>hx x (hsub x ((hk y hy).2.2 x hx')) v
  have hsubd:∀ y∈done,∀ x∈g.getD y [],x∈done:=fun y hy x hxg=>by
   obtain⟨i,hi,rfl⟩:=List.mem_iff_getElem.1 hy
   have h3:=(ht i (by simp;omega)).2
   rw [List.getElem_append_left hi,List.take_append_of_le_length (by omega)] at h3
   exact List.mem_of_mem_take (h3 x hxg)
  have hstep:nowM R first mem inp fs (k :: rest) now t=nowM R first mem inp fs rest (now.set k (evAt R first mem inp fs now k).1) (t || (evAt R first mem inp fs now k).2):=rfl
  rw [hstep]
  have hgo:=now_go hnm first mem inp fs g rest (done++[k]) (now.set k (evAt R first mem inp fs now k).1) (t || (evAt R first mem inp fs now k).2) (by simpa using ht) (fun y hy=>by simpa using hk y (by simpa using hy)) (fun y hy=>by
   rcases List.mem_append.1 hy with hy | hy
   ·rw [hx y hy,h1 y hy,hev y (List.mem_append_left _ hy) (hsubd y hy)]
   ·obtain rfl:=List.mem_singleton.1 hy
    rw [hev y (by simp) hneed]
    simp [List.getD_eq_getElem?_getD,hkl]) (by
   rw [List.any_append,h2]
   congr 1
   ·rw [Bool.eq_iff_iff]
    simp only [List.any_eq_true]
    constructor
    ·rintro⟨y,hy,h⟩;exact⟨y,hy,by rw [hev y (List.mem_append_left _ hy) (hsubd y hy)];exact h⟩
    rintro⟨y,hy,h⟩;exact⟨y,hy,by rw [hev y (List.mem_append_left _ hy) (hsubd y hy)] at h;exact h⟩
   simp [hev k (by simp) hneed])
  simpa using hgo
theorem withAt_get?:∀ (l:List Ex) (m k:Nat) (h:k<l.length),(Zba m l)[k]?=some (l[k],m+Zam (l.take k))
 | [],m,k,h=>by simp at h
 | e :: l,m,0,_=>by simp [Zba,Zam]
 | e :: l,m,k+1,h=>by
  simp only [Zba,List.getElem?_cons_succ,List.getElem_cons_succ,List.take_succ_cons,Zam]
  rw [withAt_get? l (m+memN e) k (by simpa using h),Nat.add_assoc]
def flAt (p:Pr) (k:Nat):Nat:=Zam ((p.fl.map (·.e)).take k)
theorem Zib (p:Pr) (ord:List Nat) (k:Nat) (h:k<p.fl.length):(cdOf p ord).fs.getD k d0=(p.fl[k].e,flAt p k):=by
 have:=withAt_get? (p.fl.map (·.e)) 0 k (by simpa using h)
 show (Zba 0 (p.fl.map (·.e))).getD k d0=_
 rw [List.getD_eq_getElem?_getD,this]
 simp [flAt]
theorem now_fix {p:Pr} (h:(Za2 p).1=0) {ks:Env Int} (hks:Zap Env.none p.vars=some ks) {ord:List Nat} (ho:Zbf p = .ok ord) (R:REnv) (hnmR:R.nm=getI (Zai p)) (first:Bool) (mem inp:List Vl):
  (nowM R first mem inp (cdOf p ord).fs ord (List.replicate p.fl.length vz) false).1.length=p.fl.length∧
  (∀ k (hk:k<p.fl.length),(nowM R first mem inp (cdOf p ord).fs ord (List.replicate p.fl.length vz) false).1.getD k vz=(Zbo R ⟨first,mem,inp,(nowM R first mem inp (cdOf p ord).fs ord (List.replicate p.fl.length vz) false).1⟩ (flAt p k) p.fl[k].e).1)∧
  ((nowM R first mem inp (cdOf p ord).fs ord (List.replicate p.fl.length vz) false).2=true↔∃ k,∃ hk:k<p.fl.length,(Zbo R ⟨first,mem,inp,(nowM R first mem inp (cdOf p ord).fs ord (List.replicate p.fl.length vz) false).1⟩ (flAt p k) p.fl[k].e).2=true):=by
 obtain⟨hck,hlen,hlow⟩:=Zbk ho
 obtain⟨ks',hks',_,hfm,_⟩:=Zb4 hck
 rw [hks] at hks'
 cases hks'
 have hform:∀ k (hk:k<p.fl.length),Zaf ks p.fl[k].e=true:=fun k hk=>by
  obtain⟨i,hi,e⟩:=List.mem_iff_getElem.1 (Zej p (List.getElem_mem hk))
  rw [← e]
  exact (Zbg ks _).1 hfm i hi
 have hgo:=now_go (R:=R) (ks:=ks) (at_:=p.atOf) (fun s h1 h2=>by rw [hnmR] at h2 ⊢;exact nm_at hck hks s h1 h2) first mem inp (cdOf p ord).fs p.graph ord [] (List.replicate p.fl.length vz) false (by simpa using Zfj ho) (fun k hk=>by
  have hkl:=hlow k (by simpa using hk)
  refine⟨by simpa using hkl,by rw [Zib p ord k hkl];exact hform k hkl,fun x hx=>?_⟩
  rw [Zib p ord k hkl] at hx
  have:p.graph.getD k []=needs p.atOf p.fl[k].e:=by simp [Pr.graph,List.getD_eq_getElem?_getD,hkl]
  rw [this]
  exact hx) (fun k hk=>by cases hk) (by simp)
 generalize nowM R first mem inp (cdOf p ord).fs ord (List.replicate p.fl.length vz) false=N at *
 obtain⟨g1,g2,g3⟩:=hgo
 refine⟨by simpa using g1,fun k hk=>?_,?_⟩
 ·have:=g2 k (by simpa using Zf3 ho k hk)
  unfold evAt at this
  rw [Zib p ord k hk] at this
  exact this
 rw [g3,List.any_eq_true]
 constructor
 ·rintro⟨k,hk,h⟩
  have hkl:=hlow k (by simpa using hk)
  unfold evAt at h
  rw [Zib p ord k hkl] at h
  exact⟨k,hkl,h⟩
 rintro⟨k,hk,h⟩
 refine⟨k,by simpa using Zf3 ho k hk,?_⟩
 unfold evAt
 rw [Zib p ord k hk]
 exact h
def Zeg (ks:Env Int) (KM:Nat→Int) (m:Nat) (e:Ex):Prop:=∀ (j:Nat) (x:Ex×Nat),(Zbs m e)[j]?=some x→KM (m+j)=Zan ks x.1
def Zfs (ks:Env Int) (KM:Nat→Int) (m:Nat) (l:List Ex):Prop:=∀ (j:Nat) (x:Ex×Nat),(Zab m l)[j]?=some x→KM (m+j)=Zan ks x.1
theorem Zfs.cons {ks:Env Int} {KM:Nat→Int} {m:Nat} {e:Ex} {l:List Ex} (h:Zfs ks KM m (e :: l)):Zeg ks KM m e∧Zfs ks KM (m+memN e) l:=by
 refine⟨fun j x hx=>h j x ?_,fun j x hx=>?_⟩
 ·rw [Zab,List.getElem?_append_left]
  ·exact hx
  exact (List.getElem?_eq_some_iff.1 hx).1
 have:=h (memN e+j) x (by
  rw [Zab,List.getElem?_append_right (by rw [Ze3];omega),Ze3,Nat.add_sub_cancel_left]
  exact hx)
 rw [Nat.add_assoc];exact this
theorem Zfs.at {ks:Env Int} {KM:Nat→Int}:∀ {l:List Ex} {m:Nat},Zfs ks KM m l→∀ i (h:i<l.length),Zeg ks KM (m+Zam (l.take i)) l[i]
 | [],_,_,i,hi=>by simp at hi
 | e :: l,m,h,0,_=>by simpa [Zam] using h.cons.1
 | e :: l,m,h,i+1,hi=>by
  have:=h.cons.2.at i (by simpa using hi)
  simp only [List.take_succ_cons,Zam,List.getElem_cons_succ]
  rw [← Nat.add_assoc]
  exact this
theorem Zeg.parts {ks:Env Int} {KM:Nat→Int} {m:Nat} {o:ByteArray} {n:Int} {s:ByteArray} {l:List Ex} (h:Zeg ks KM m (.mk o n s l)):Zfs ks KM m l∧(o=oPre∨o=oFby→KM (m+Zam l)=Zan ks (.mk o n s l)):=by
 refine⟨fun j x hx=>h j x ?_,fun ho=>h (Zam l) (.mk o n s l,m) ?_⟩
 ·rw [Zbs,List.getElem?_append_left]
  ·exact hx
  exact (List.getElem?_eq_some_iff.1 hx).1
 rw [Zbs,List.getElem?_append_right (by rw [Za1];omega),Za1,Nat.sub_self,if_pos ho]
 rfl
theorem Zcx:∀ {l:List Ex} {m:Nat} {x:Ex×Nat},x∈Zab m l→∃ i,∃ h:i<l.length,x∈Zbs (m+Zam (l.take i)) l[i]
 | [],_,_,h=>by simp [Zab] at h
 | e :: l,m,x,h=>by
  simp only [Zab,List.mem_append] at h
  rcases h with h | h
  ·exact⟨0,by simp,by simpa [Zam] using h⟩
  obtain⟨i,hi,hx⟩:=Zcx h
  exact⟨i+1,by simpa using hi,by simpa [Zam,Nat.add_assoc] using hx⟩
theorem Zeg.nds {ks:Env Int} {KM:Nat→Int}:∀ (e:Ex) (m:Nat),Zeg ks KM m e→∀ x∈Zbs m e,Zeg ks KM x.2 x.1:=by
 refine Ex.ind fun o n s l ih m h x hx=>?_
 simp only [Zbs,List.mem_append] at hx
 rcases hx with hx | hx
 ·obtain⟨i,hi,hx⟩:=Zcx hx
  exact ih _ (List.getElem_mem hi) _ (h.parts.1.at i hi) x hx
 split at hx
 ·rw [List.mem_singleton.1 hx];exact h
 cases hx
structure TyR (R:REnv) (ks:Env Int) (at_:Env Nat) (K:Nat→Int) (L:Nat) (inp:List Vl):Prop where
 kse:R.ks=ks
 nil : -128≤R.ni∧R.ni≤127
 two:∀ s k,ks s=some k→k=1∨k=2
 inp:∀ s k,ks s=some k→R.nm s<0→Zar (inp.getD (-1 - R.nm s).toNat vz) k=true
 flow:∀ s k,ks s=some k→0≤R.nm s→at_ s=some (R.nm s).toNat∧K (R.nm s).toNat=k∧(R.nm s).toNat<L
theorem kind_two {ks:Env Int} (h:∀ s k,ks s=some k→k=1∨k=2):∀ e:Ex,Zan ks e=0∨Zan ks e=1∨Zan ks e=2:=by
 refine Ex.ind fun o n s l ih=>?_
 by_cases h0:Zan ks (.mk o n s l)=0
 ·exact .inl h0
 obtain⟨hk,hp⟩:=Zea h0
 have hg:∀ x∈Zao ks l,x=1∨x=2:=fun x hx=>by
  rw [Zc6] at hx
  obtain⟨e,he,rfl⟩:=List.mem_map.1 hx
  exact (ih e he).resolve_left (hp e he)
 have hd:∀ j,(Zao ks l).getD j 0=0∨(Zao ks l).getD j 0=1∨(Zao ks l).getD j 0=2:=fun j=>by
  by_cases hj:j<(Zao ks l).length
  ·have:(Zao ks l).getD j 0=(Zao ks l)[j]:=by simp [List.getD_eq_getElem?_getD,hj]
   rw [this]
   exact .inr (hg _ (List.getElem_mem hj))
  exact .inl (by simp [List.getD_eq_getElem?_getD,hj])
 have hs:(ks s).getD 0=0∨(ks s).getD 0=1∨(ks s).getD 0=2:=by
  cases e:ks s with
  | none=>exact .inl rfl
  | some k=>exact .inr (h s k e)
 have hh:(Zao ks l).headD 0=(Zao ks l).getD 0 0:=by cases Zao ks l<;>rfl
 rw [hk]
 unfold Zch
 rw [hh]
 dsimp only
 repeat' split
 all_goals first
  | exact .inl rfl
  | exact .inr (.inl rfl)
  | exact .inr (.inr rfl)
  | exact hs
  | exact hd _
theorem form_op {o:ByteArray} {n:Int} {s:ByteArray} {l:List Ex} (h:form (.mk o n s l)=true):o∈opsL:=by
 unfold form at h
 simp only [Ex.op] at h
 cases e:Zcm o with
 | none=>rw [e] at h;cases h
 | some k=>exact arity_ops e
theorem two_ends (f:Ex→Int):∀ {l:List Ex} (h:l.length=2),(l.map f).headD 0=f (l[0]'(by omega))∧(l.map f).getLastD 0=f (l[1]'(by omega))
 | [a,b],_=>⟨rfl,rfl⟩
theorem ty_eval {R:REnv} {ks:Env Int} {at_:Env Nat} {K KM:Nat→Int} {L:Nat} {r:Inst} (hR:TyR R ks at_ K L r.inp):
  ∀ e:Ex,Zaf ks e=true→Zan ks e≠0→∀ m,Zeg ks KM m e→(∀ j,j<memN e→Zar (r.mem.getD (m+j) vz) (KM (m+j))=true)→(∀ k∈needs at_ e,k<L→Zar (r.now.getD k vz) (K k)=true)→
   Zar (Zbo R r m e).1 (Zan ks e)=true:=by
 refine Ex.ind fun o n s l ih hfo hk0 m hpl hm hn=>?_
 obtain⟨hsub,hfby,harr,hpre,_⟩:=Zax hfo
 obtain⟨hkb,hkp⟩:=Zea hk0
 obtain⟨hplL,hplO⟩:=hpl.parts
 rw [Zgw] at hm
 have hform:form (.mk o n s l)=true∧o≠Zj5∧(o=Zb2→(ks s).isSome=true):=by
  simp only [Zaf,Bool.and_eq_true,Bool.or_eq_true,decide_eq_true_eq] at hfo
  exact⟨hfo.1.1.1,hfo.1.1.2,fun e=>hfo.1.2.resolve_left (fun h=>h e)⟩
 have hL:∀ (l:List Ex) (m k:Nat),(∀ e∈l,Zaf ks e=true→Zan ks e≠0→∀ m,Zeg ks KM m e→(∀ j,j<memN e→Zar (r.mem.getD (m+j) vz) (KM (m+j))=true)→(∀ k∈needs at_ e,k<L→Zar (r.now.getD k vz) (K k)=true)→Zar (Zbo R r m e).1 (Zan ks e)=true)→
   (∀ e∈l,Zaf ks e=true)→(∀ e∈l,Zan ks e≠0)→Zfs ks KM m l→(∀ j,j<Zam l→Zar (r.mem.getD (m+j) vz) (KM (m+j))=true)→(∀ i (h:i<l.length),i<k→∀ x∈needs at_ l[i],x<L→Zar (r.now.getD x vz) (K x)=true)→
   ∀ i (h:i<l.length),i<k→Zar ((Za9 R r m k l).1.getD i vz) (Zan ks l[i])=true:=by
  intro l
  induction l with
  | nil=>intro m k _ _ _ _ _ _ i hi;simp at hi
  | cons e l ihl=>
   intro m k hh hff hkk hp hmm hnn i hi hik
   cases k with
   | zero=>omega
   | succ k=>
    simp only [Za9]
    simp only [Zam] at hmm
    cases i with
    | zero=>exact hh e (List.mem_cons_self ..) (hff e (List.mem_cons_self ..)) (hkk e (List.mem_cons_self ..)) m hp.cons.1 (fun j hj=>hmm j (by omega)) (fun x hx=>hnn 0 (by simp) (by omega) x (by simpa using hx))
    | succ i=>
     have:=ihl (m+memN e) k (fun y hy=>hh y (List.mem_cons_of_mem _ hy)) (fun y hy=>hff y (List.mem_cons_of_mem _ hy)) (fun y hy=>hkk y (List.mem_cons_of_mem _ hy)) hp.cons.2 (fun j hj=>by
      have:=hmm (memN e+j) (by omega)
      rw [← Nat.add_assoc] at this
      exact this) (fun i h hik x hx=>hnn (i+1) (by simpa using h) (by omega) x (by simpa using hx)) i (by simpa using hi) (by omega)
     simpa using this
 have hvs:∀ i (h:i<l.length),i<(if o=oPre then 0 else if o=oFby then 1 else l.length)→Zar ((Za9 R r m (if o=oPre then 0 else if o=oFby then 1 else l.length) l).1.getD i vz) (Zan ks l[i])=true:=by
  refine hL l m _ (fun e he=>ih e he) hsub hkp hplL (fun j hj=>hm j (by omega)) fun i h hik x hx=>hn x ?_
  simp only [needs]
  by_cases e1:o=oPre
  ·rw [if_pos e1] at hik;omega
  rw [if_neg e1] at hik ⊢
  by_cases e2:o=oFby
  ·rw [if_pos e2] at hik ⊢
   obtain rfl:i=0:=by omega
   cases l with
   | nil=>simp at h
   | cons y l=>simpa [Zf7] using hx
  rw [if_neg e2]
  exact List.mem_append_right _ (Zgt (List.getElem_mem h) hx)
 have hvl:=Zi8 R r l m (if o=oPre then 0 else if o=oFby then 1 else l.length)
 have hk12:Zan ks (.mk o n s l)=1∨Zan ks (.mk o n s l)=2:=(kind_two hR.two _).resolve_left hk0
 have hmem:o=oPre∨o=oFby→Zar (r.mem.getD (m+Zam l) vz) (Zan ks (.mk o n s l))=true:=fun ho=>by
  rw [← hplO ho]
  exact hm _ (by rw [if_pos ho];omega)
 simp only [Zbo]
 by_cases hlate:(r.first&&decide (0<lateOf R.lt (.mk o n s l)))=true
 ·rw [if_pos hlate,hR.kse]
  exact right_nil hR.nil.1 hR.nil.2 hk12
 rw [if_neg hlate]
 generalize decide (0<lateOf R.lt (.mk o n s l))=late at *
 generalize hvsE:Za9 R r m (if o=oPre then 0 else if o=oFby then 1 else l.length) l=V at *
 unfold valM
 by_cases e1:o=oInt
 ·subst e1
  rw [if_pos rfl,hkb]
  have h2:=form_int hform.1
  have:Zch oInt ((ks s).getD 0) (Zao ks l)=2:=rfl
  rw [this]
  simp [Zar]
  omega
 rw [if_neg e1]
 by_cases e2:o=Zc2∨o=Zb9
 ·rw [if_pos e2,hkb]
  have:Zch o ((ks s).getD 0) (Zao ks l)=1:=by unfold Zch;rw [if_neg e1,if_pos e2]
  rw [this]
  exact right_tv _
 rw [if_neg e2]
 by_cases e3:o=Zb2
 ·rw [if_pos e3]
  have h5:=hform.2.2 e3
  obtain⟨k,hk⟩:=Option.isSome_iff_exists.1 h5
  have:Zch o ((ks s).getD 0) (Zao ks l)=k:=by unfold Zch;rw [if_neg e1,if_neg e2,if_pos e3,hk];rfl
  rw [hkb,this]
  by_cases h5:R.nm s<0
  ·rw [if_pos h5]
   exact hR.inp s k hk h5
  rw [if_neg h5]
  obtain⟨a1,a2,a3⟩:=hR.flow s k hk (by omega)
  have:=hn (R.nm s).toNat (by
   simp only [needs]
   rw [if_neg (by rw [e3];decide),if_neg (by rw [e3];decide),if_pos e3,a1]
   simp) a3
  rw [a2] at this
  exact this
 rw [if_neg e3]
 by_cases e4:o=oPre
 ·rw [if_pos e4]
  exact hmem (.inl e4)
 rw [if_neg e4]
 rw [if_neg e4] at hvs hvl
 by_cases e5:o=oFby
 ·rw [if_pos e5]
  rw [if_pos e5] at hvs hvl
  by_cases hf:r.first=true
  ·rw [if_pos hf]
   have hl2:=hfby e5
   have h0:=hvs 0 (by omega) (by omega)
   have:Zan ks (.mk o n s l)=Zan ks (l[0]'(by omega)):=by
    rw [hkb] at hk0 ⊢
    subst e5
    have e:Zch oFby ((ks s).getD 0) (Zao ks l)=(if (decide (0<(Zao ks l).length)&&decide ((Zao ks l).headD 0=(Zao ks l).getLastD 0))=true then (Zao ks l).headD 0 else 0):=rfl
    rw [e] at hk0 ⊢
    split
    ·rw [Zc6]
     match l,hl2 with
     | [a,b],_=>rfl
    rename_i hc;rw [if_neg hc] at hk0;exact absurd rfl hk0
   rw [this]
   exact h0
  rw [if_neg hf]
  exact hmem (.inr e5)
 rw [if_neg e5]
 rw [if_neg e5] at hvs hvl
 by_cases e6:o=Zbm
 ·rw [if_pos e6]
  have hl2:=harr e6
  have h0:=hvs 0 (by omega) (by omega)
  have h1:=hvs 1 (by omega) (by omega)
  have:Zan ks (.mk o n s l)=Zan ks (l[0]'(by omega))∧Zan ks (.mk o n s l)=Zan ks (l[1]'(by omega)):=by
   rw [hkb] at hk0 ⊢
   subst e6
   have e:Zch Zbm ((ks s).getD 0) (Zao ks l)=(if (decide (0<(Zao ks l).length)&&decide ((Zao ks l).headD 0=(Zao ks l).getLastD 0))=true then (Zao ks l).headD 0 else 0):=rfl
   rw [e] at hk0 ⊢
   split
   ·rename_i hc
    rw [Zc6] at hc ⊢
    simp only [Bool.and_eq_true,decide_eq_true_eq] at hc
    obtain⟨q1,q2⟩:=two_ends (Zan ks) hl2
    have hc2:=hc.2
    rw [q1,q2] at hc2
    rw [q1]
    exact⟨rfl,hc2⟩
   rename_i hc;rw [if_neg hc] at hk0;exact absurd rfl hk0
  by_cases hf:r.first=true
  ·rw [if_pos hf,this.1];exact h0
  rw [if_neg hf,this.2];exact h1
 rw [if_neg e6]
 have hlen:V.1.length=l.length:=by rw [hvl];omega
 have hmapk:V.1.map (·.kind)=Zao ks l:=by
  rw [Zc6]
  apply List.ext_getElem (by simp [hlen])
  intro i h1 h2
  have hi:i<l.length:=by simpa using h2
  have:=hvs i hi (by omega)
  have e:V.1.getD i vz=V.1[i]'(by omega):=by simp [List.getD_eq_getElem?_getD,show i<V.1.length from by omega]
  rw [e] at this
  simpa using (Zd8 this).1
 have hvr:∀ v∈V.1,Zar v v.kind=true:=fun v hv=>by
  obtain⟨i,hi,rfl⟩:=List.mem_iff_getElem.1 hv
  have:=hvs i (by omega) (by omega)
  have e:V.1.getD i vz=V.1[i]:=by simp [List.getD_eq_getElem?_getD,hi]
  rw [e] at this
  rw [(Zd8 this).1]
  exact this
 have ha:=app_right (k:=(ks s).getD 0) (form_op hform.1) ⟨e1,fun e=>e2 (.inl e),fun e=>e2 (.inr e),e3,e4,e6,e5,hform.2.1⟩ hvr (by rw [hmapk,← hkb];exact hk0)
 rw [hmapk,← hkb] at ha
 split at ha
 ·rename_i ht
  rw [if_pos ht,ha]
  exact right_wv 0
 rename_i ht
 rw [if_neg ht]
 exact ha
end Go.Proofs.YtgoccoldkfpbgaaGreatDoor
