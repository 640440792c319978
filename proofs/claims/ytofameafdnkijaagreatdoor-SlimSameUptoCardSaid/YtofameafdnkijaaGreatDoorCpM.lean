/- Plain: flat.Program.Kinds, the names of flow.Compile; what a run reads lies there: no program in sight. -/
import Derived.Test.YtofameafdnkijaaGreatDoorVa
import Derived.Test.YtofameafdnkijaaGreatDoorRg
import Derived.Test.YtofameafdnkijaaGreatDoorSm2
import Derived.Test.YtofameafdnkijaaGreatDoorBs
set_option linter.all false
namespace Go.Proofs.YtofameafdnkijaaGreatDoor
open Go.RowKit Mx
def Zc9:Env Int→List (ByteArray×Int)→Env Int
 | m,[]=>m
 | m,x :: r=>Zc9 (m.set x.1 x.2) r
def kindsM (p:Pr):Env Int:=Zc9 Env.none p.vars
theorem Zhj:∀ (l:List (ByteArray×Int)) (m ks:Env Int),Zas m l=some ks→Zc9 m l=ks
 | [],m,ks,h=>by simp only [Zas] at h;cases h;rfl
 | x :: l,m,ks,h=>by
  simp only [Zas] at h
  split at h
  ·exact Zhj l _ ks h
  cases h
theorem Zfu:∀ (l:List (ByteArray×Int)) (m:Env Int) (x:ByteArray×Int),Zc9 m (l++[x])=(Zc9 m l).set x.1 x.2
 | [],m,x=>rfl
 | y :: l,m,x=>by simp only [List.cons_append,Zc9];exact Zfu l _ x
theorem kinds_in (p:Pr) (k:Nat) (h:k<p.ins.length):Zc9 Env.none (p.vars.take (k+1))=(Zc9 Env.none (p.vars.take k)).set p.ins[k].name p.ins[k].kind:=by
 have hv:k<p.vars.length:=by rw [Zgr];omega
 rw [List.take_succ_eq_append_getElem hv,Zfu,vars_in p k h hv]
theorem kinds_fl (p:Pr) (k:Nat) (h:k<p.fl.length):Zc9 Env.none (p.vars.take (p.ins.length+(k+1)))=(Zc9 Env.none (p.vars.take (p.ins.length+k))).set p.fl[k].name p.fl[k].kind:=by
 have hv:p.ins.length+k<p.vars.length:=by rw [Zgr];omega
 rw [← Nat.add_assoc,List.take_succ_eq_append_getElem hv,Zfu,vars_fl p k h hv]
theorem kinds_end (p:Pr):Zc9 Env.none (p.vars.take (p.ins.length+p.fl.length))=kindsM p:=by
 rw [← Zgr,List.take_length];rfl
theorem Zjk:∀ (l:List Vr) (i:Nat) (m:Env Int) (v:Vr),Zcu i m (l++[v])=(Zcu i m l).set v.name (-1 - ((i+l.length:Nat):Int))
 | [],i,m,v=>rfl
 | x :: l,i,m,v=>by
  simp only [List.cons_append,Zcu,List.length_cons]
  rw [Zjk l (i+1),show i+1+l.length=i+(l.length+1) from by omega]
theorem Zjo:∀ (l:List Fl) (i:Nat) (m:Env Int) (f:Fl),Zc5 i m (l++[f])=(Zc5 i m l).set f.name ((i+l.length:Nat):Int)
 | [],i,m,f=>rfl
 | x :: l,i,m,f=>by
  simp only [List.cons_append,Zc5,List.length_cons]
  rw [Zjo l (i+1),show i+1+l.length=i+(l.length+1) from by omega]
theorem inNames_take (l:List Vr) (k:Nat) (h:k<l.length):Zcu 0 Env.none (l.take (k+1))=(Zcu 0 Env.none (l.take k)).set l[k].name (-1 - (k:Int)):=by
 rw [List.take_succ_eq_append_getElem h,Zjk]
 simp only [List.length_take,Nat.min_eq_left (Nat.le_of_lt h),Nat.zero_add]
theorem flNames_take (m:Env Int) (l:List Fl) (k:Nat) (h:k<l.length):Zc5 0 m (l.take (k+1))=(Zc5 0 m (l.take k)).set l[k].name (k:Int):=by
 rw [List.take_succ_eq_append_getElem h,Zjo]
 simp only [List.length_take,Nat.min_eq_left (Nat.le_of_lt h),Nat.zero_add]
theorem inNames_lt:∀ (l:List Vr) (i:Nat) (m:Env Int) (s:ByteArray),(s∈l.map (·.name)∨∃ j:Nat,j<i+l.length∧m s=some (-1 - (j:Int)))→∃ j:Nat,j<i+l.length∧Zcu i m l s=some (-1 - (j:Int))
 | [],i,m,s,h=>h.elim (fun h=>by simp at h) id
 | v :: l,i,m,s,h=>by
  rw [Zcu]
  have hs:i+1+l.length=i+(v :: l).length:=by simp;omega
  rw [← hs]
  refine inNames_lt l (i+1) _ s ?_
  by_cases e:s=v.name
  ·exact .inr ⟨i,by omega,by rw [e,Env.set_self]⟩
  rcases h with h | ⟨j,hj,h⟩
  ·simp only [List.map_cons,List.mem_cons] at h
   exact .inl (h.resolve_left e)
  exact .inr ⟨j,by rw [hs];exact hj,by rw [Env.set_other _ _ e];exact h⟩
theorem nm_range {p:Pr} (hck:Zak p=0) {ks:Env Int} (hks:Zas Env.none p.vars=some ks) (s:ByteArray) (h1:(ks s).isSome=true):
  (getI (Zaj p) s<0→(-1 - getI (Zaj p) s).toNat<p.ins.length)∧(0≤getI (Zaj p) s→(getI (Zaj p) s).toNat<p.fl.length):=by
 rcases Zeh _ _ _ hks h1 with h | h
 ·simp [Env.none] at h
 by_cases hf:s∈p.fl.map (·.name)
 ·obtain⟨k,hk,e⟩:=List.mem_iff_getElem.1 hf
  have hk':k<p.fl.length:=by simpa using hk
  have e':p.fl[k].name=s:=by simpa using e
  have:=Zey hck k hk'
  rw [e'] at this
  rw [this]
  exact⟨fun h=>by omega,fun _=>by simpa using hk'⟩
 have hi:s∈p.ins.map (·.name):=by
  simp only [Pr.vars,List.map_append,List.map_map,List.mem_append] at h
  rcases h with h | h
  ·exact h
  exact absurd h hf
 obtain⟨j,hj,he⟩:=inNames_lt p.ins 0 Env.none s (.inl hi)
 have:getI (Zaj p) s = -1 - (j:Int):=by
  unfold getI Zaj
  rw [Zeq _ _ _ _ hf,he];rfl
 rw [this]
 exact⟨fun _=>by omega,fun h=>by omega⟩
theorem evOk_of {R:REnv} {r:Inst} (hnm:∀ s,(R.ks s).isSome=true→(R.nm s<0→(-1 - R.nm s).toNat<r.inp.length)∧(0≤R.nm s→(R.nm s).toNat<r.now.length)):
  ∀ (e:Ex),Zad R.ks e=true→∀ m,m+memN e≤r.mem.length→EvOk R r e m:=by
 refine Ex.ind fun o n s l ih hf m hm=>?_
 have hsub:=(Zaz hf).1
 simp only [memN] at hm
 simp only [EvOk]
 refine⟨⟨fun ho h=>?_,fun ho h=>?_,fun ho=>by rw [if_pos ho] at hm;omega⟩,?_⟩
 ·have hks:(R.ks s).isSome=true:=by
   simp only [Zad,Bool.and_eq_true,Bool.or_eq_true,decide_eq_true_eq] at hf
   exact hf.1.2.resolve_left (fun h=>h ho)
  exact (hnm s hks).1 h
 ·have hks:(R.ks s).isSome=true:=by
   simp only [Zad,Bool.and_eq_true,Bool.or_eq_true,decide_eq_true_eq] at hf
   exact hf.1.2.resolve_left (fun h=>h ho)
  exact (hnm s hks).2 h
 have hL:∀ (l:List Ex),(∀ e∈l,∀ m,m+memN e≤r.mem.length→EvOk R r e m)→∀ m,m+Zal l≤r.mem.length→EvOkL R r l m:=by
  intro l
  induction l with
  | nil=>intro _ m _;simp only [EvOkL]
  | cons e l ihl=>
   intro hh m hm
   simp only [Zal] at hm
   simp only [EvOkL]
   exact⟨hh e (List.mem_cons_self ..) m (by omega),ihl (fun y hy=>hh y (List.mem_cons_of_mem _ hy)) _ (by omega)⟩
 exact hL l (fun e he m hm=>ih e he (hsub e he) m hm) m (by omega)
theorem Zgq:∀ (l:List Ex) (m:Nat),∀ x∈Zbb m l,m≤x.2∧x.2+memN x.1≤m+Zal l
 | [],m,x,h=>by cases h
 | e :: l,m,x,h=>by
  simp only [Zbb,List.mem_cons,Zal] at h ⊢
  rcases h with rfl | h
  ·exact⟨Nat.le_refl _,by dsimp only;omega⟩
  have:=Zgq l (m+memN e) x h
  omega
theorem withAt_get:∀ (l:List Ex) (m i:Nat) (h:i<l.length) (h':i<(Zbb m l).length),(Zbb m l)[i]=(l[i],m+Zal (l.take i))
 | e :: l,m,0,_,_=>by simp [Zbb,Zal]
 | e :: l,m,i+1,h,h'=>by
  simp only [Zbb,List.getElem_cons_succ,List.take_succ_cons,Zal]
  rw [withAt_get l (m+memN e) i (by simpa using h)]
  rw [Nat.add_assoc]
mutual
theorem memNds_fit:∀ (e:Ex) (m:Nat),∀ x∈Zca m e,m≤x.2∧x.2+memN x.1≤m+memN e
 | .mk o n s l,m,x,h=>by
  simp only [Zca,List.mem_append] at h
  simp only [memN]
  rcases h with h | h
  ·have:=Zhx l m x h
   omega
  split at h
  ·rename_i ho
   rw [List.mem_singleton.1 h]
   simp only [memN]
   rw [if_pos ho]
   exact⟨Nat.le_refl _,by omega⟩
  cases h
theorem Zhx:∀ (l:List Ex) (m:Nat),∀ x∈Zah m l,m≤x.2∧x.2+memN x.1≤m+Zal l
 | [],m,x,h=>by simp [Zah] at h
 | e :: l,m,x,h=>by
  simp only [Zah,List.mem_append] at h
  simp only [Zal]
  rcases h with h | h
  ·have:=memNds_fit e m x h
   omega
  have:=Zhx l (m+memN e) x h
  omega
end
mutual
theorem memNds_form (ks:Env Int):∀ (e:Ex),Zad ks e=true→∀ (m:Nat),∀ x∈Zca m e,Zad ks x.1=true∧(x.1.op=oPre∨x.1.op=oFby)
 | .mk o n s l,hf,m,x,h=>by
  simp only [Zca,List.mem_append] at h
  rcases h with h | h
  ·exact Zgg ks l (Zaz hf).1 m x h
  split at h
  ·rename_i ho
   rw [List.mem_singleton.1 h]
   exact⟨hf,ho⟩
  cases h
theorem Zgg (ks:Env Int):∀ (l:List Ex),(∀ e∈l,Zad ks e=true)→∀ (m:Nat),∀ x∈Zah m l,Zad ks x.1=true∧(x.1.op=oPre∨x.1.op=oFby)
 | [],_,m,x,h=>by simp [Zah] at h
 | e :: l,hf,m,x,h=>by
  simp only [Zah,List.mem_append] at h
  rcases h with h | h
  ·exact memNds_form ks e (hf e (List.mem_cons_self ..)) m x h
  exact Zgg ks l (fun y hy=>hf y (List.mem_cons_of_mem _ hy)) _ x h
end
mutual
theorem memN_le:∀ e:Ex,memN e≤e.parts
 | .mk o n s l=>by
  have:=Zj1 l
  simp only [memN,Ex.parts]
  split<;>omega
theorem Zj1:∀ l:List Ex,Zal l≤Ex.partsL l
 | []=>by simp [Zal,Ex.partsL]
 | e :: l=>by
  have:=memN_le e
  have:=Zj1 l
  simp only [Zal,Ex.partsL]
  omega
end
theorem all_of {w:World} {K:Kn} (h:K.In w):K.le (Zai w):=fun b o e=>h b o e
structure CoS (NT PT CT:TypeId) (R:REnv) (H:Kn) (w0 wr:World) (B base:Nat) (cs:Array Value) (j:Nat) (M0:List (Ex×Nat)) (l:List Ex) (dm done:Nat) (pu:Value) (qs:List Nat) (K:Kn) (u:Value) (ps:List Nat):Prop where
 le:H.le K
 isin:K.In wr
 below:Below w0.heap.size w0 wr
 noB:K B=none
 hB:w0.heap.size≤B
 cd:CdS PT CT wr B base (cs.setIfInBounds j pu) u ps
 mem:PsAt NT R K (M0++Zah M0.length (l.take dm)) ps
 noM:∀ g,u.ownBlock=some g→K g=none
 row:wr.ownsRow base PT 1 pu done (qs.map ptrV)
 noP:∀ g,pu.ownBlock=some g→K g=none
 ql:qs.length=done
 nds:∀ i (h:i<qs.length) (h2:i<l.length),NdAt NT R K l[i] (M0.length+Zal (l.take i)) qs[i]
 apart:∀ g,pu.ownBlock=some g→u.ownBlock≠some g
 low:base≤wr.heap.size
section
variable {NT PT CT : TypeId} {R : REnv} {H K : Kn} {w0 wr : World} {B base j : Nat} {cs : Array Value} {M0 : List (Ex × Nat)} {l : List Ex} {dm done : Nat} {pu : Value} {qs : List Nat} {u : Value} {ps : List Nat}
theorem CoS.bb (h:CoS NT PT CT R H w0 wr B base cs j M0 l dm done pu qs K u ps):B<base:=h.cd.low
theorem CoS.pB (h:CoS NT PT CT R H w0 wr B base cs j M0 l dm done pu qs K u ps):pu.ownBlock≠some B:=Zbn h.row h.bb
theorem CoS.mlen (h:CoS NT PT CT R H w0 wr B base cs j M0 l dm done pu qs K u ps):ps.length=M0.length+Zal (l.take dm):=by
 rw [h.mem.len,List.length_append,Zbh]
theorem CoS.next {w':World} (h:CoS NT PT CT R H w0 wr B base cs j M0 l dm done pu qs K u ps) (hb:Below wr.heap.size wr w'):CoS NT PT CT R H w0 w' B base cs j M0 l dm done pu qs K u ps:=
 ⟨h.le,h.isin.below hb,h.below.trans (hb.mono h.below.size),h.noB,h.hB,h.cd.below hb,h.mem,h.noM,Zao h.row hb,h.noP,h.ql,h.nds,h.apart,Nat.le_trans h.low hb.size⟩
theorem CoS.alloc (h:CoS NT PT CT R H w0 wr B base cs j M0 l dm done pu qs K u ps) (o:Obj):CoS NT PT CT R H w0 (wr.alloc o) B base cs j M0 l dm done pu qs K u ps:=h.next ((Below.refl _ _).alloc (Nat.le_refl _) o)
theorem CoS.cell (h:CoS NT PT CT R H w0 wr B base cs j M0 l dm done pu qs K u ps) (hj:j<cs.size) (h10:j≠10):wr.cell? ⟨B,j,none⟩=some pu:=by
 have hb:=h.cd.box
 simp [World.cell?,hb,hj,Ne.symm h10]
theorem CoS.other (h:CoS NT PT CT R H w0 wr B base cs j M0 l dm done pu qs K u ps) {i:Nat} (hi:i≠j) (h10:i≠10):wr.cell? ⟨B,i,none⟩=cs[i]?:=by
 have hb:=h.cd.box
 simp [World.cell?,hb,Ne.symm hi,Ne.symm h10]
theorem CoS.child {w':World} {K':Kn} {u':Value} {ps':List Nat} {x:Ex} {q:Nat} (h:CoS NT PT CT R H w0 wr B base cs j M0 l done done pu qs K u ps) (hd:done<l.length) (hx:l[done]=x)
  (k:TeD NT PT CT R K wr w' B base (cs.setIfInBounds j pu) u (M0++Zah M0.length (l.take done)++Zca (M0++Zah M0.length (l.take done)).length x) K' u' ps') (hq:NdAt NT R K' x (M0++Zah M0.length (l.take done)).length q):
  CoS NT PT CT R H w0 w' B base cs j M0 l (done+1) done pu qs K' u' ps'∧NdAt NT R K' x (M0.length+Zal (l.take done)) q:=by
 subst hx
 have hbs:=h.below.size
 have hbb:=h.bb
 have hlow:=h.low
 have hhB:=h.hB
 have hsz:=k.gr.size
 have hml:(M0++Zah M0.length (l.take done)).length=M0.length+Zal (l.take done):=by rw [List.length_append,Zbh]
 refine⟨⟨Kn.le_trans h.le k.le,k.isin,⟨k.gr.os.trans h.below.os,k.gr.tape.trans h.below.tape,k.gr.output.trans h.below.output,Nat.le_trans hbs hsz,fun i hi=>?_⟩,(k.fresh B (by omega)).trans h.noB,hhB,k.cd,?_,k.noM,own_gr2 h.row k.gr h.pB h.apart,fun g hg=>?_,h.ql,fun i h1 h2=>NdAt.le k.le _ _ _ (h.nds i h1 h2),fun g hg hu=>?_,Nat.le_trans hlow hsz⟩,?_⟩
 ·rw [k.gr.block i (by omega) (by omega) (fun e=>by have:=(h.cd.row.lt i e.symm).1;omega)]
  exact h.below.block i hi
 ·have:=k.mem
  rw [hml,List.append_assoc,← Zjf _ _ _ hd] at this
  exact this
 ·rw [k.fresh g (h.row.lt g hg).2];exact h.noP g hg
 ·have hlt:=(h.row.lt g hg).2
  rcases k.own g hu with h1 | h1
  ·omega
  exact h.apart g hg h1
 rw [hml] at hq
 exact hq
theorem CoS.app {w3:World} {gg cap' q:Nat} {x:Ex} (h:CoS NT PT CT R H w0 wr B base cs j M0 l (done+1) done pu qs K u ps) (hj:j<cs.size) (h10:j≠10) (hd:done<l.length) (hx:l[done]=x) (hq:NdAt NT R K x (M0.length+Zal (l.take done)) q)
  (hown:w3.ownsRow base PT 1 (.slice (some ⟨gg,0,none⟩) (done+1) cap') (done+1) (qs.map ptrV++[ptrV q])) (hg:wr.grownBy w3 pu.ownBlock) (hat:pu.ownBlock=some gg∨gg=wr.heap.size):
  w3.cell? ⟨B,j,none⟩=some pu∧w3.frozen? ⟨B,j,none⟩=false∧
   CoS NT PT CT R H w0 (w3.setCell ⟨B,j,none⟩ (.slice (some ⟨gg,0,none⟩) (done+1) cap')) B base cs j M0 l (done+1) (done+1) (.slice (some ⟨gg,0,none⟩) (done+1) cap') (qs++[q]) K u ps:=by
 subst hx
 have hbs:=h.below.size
 have hbb:=h.bb
 have hlow:=h.low
 have hhB:=h.hB
 have hBlt:B<wr.heap.size:=h.cd.blt
 have hBx:w3.heap[B]?=_:=(hg.block B hBlt (fun e=>h.pB e.symm)).trans h.cd.box
 have hgB:gg≠B:=by
  have:=Zbn (b:=B) hown hbb
  simpa [Value.ownBlock] using this
 have hKg:K gg=none:=by
  rcases hat with h1 | rfl
  ·exact h.noP gg h1
  exact h.isin.isNone (Nat.le_refl _)
 have hug:u.ownBlock≠some gg:=by
  rcases hat with h1 | rfl
  ·exact h.apart gg h1
  intro hu;have:=(h.cd.row.lt _ hu).2;omega
 have hin:=h.isin.grown hg h.noP
 have hrow:w3.ownsRow base PT 1 u ps.length (ps.map ptrV):=Zc4 h.cd.row hg fun g hu hp=>h.apart g hp hu
 refine⟨by simp [World.cell?,hBx,hj,Ne.symm h10],by simp [World.frozen?,hBx],h.le,hin.setCell (a:=⟨B,j,none⟩) h.noB _,?_,h.noB,hhB,⟨?_,Zaq hrow (h.cd.ne) _,hbb⟩,h.mem,h.noM,?_,fun g hgg=>?_,by simp [h.ql],fun i h1 h2=>?_,fun g hgg=>?_,?_⟩
 ·refine⟨hg.os.trans h.below.os,hg.tape.trans h.below.tape,hg.output.trans h.below.output,by simp;have:=hg.size;omega,fun i hi=>?_⟩
  rw [Below.heap_setCell w3 ⟨B,j,none⟩ _ i (by show i≠B;omega),hg.block i (by omega) (fun e=>by have:=(h.row.lt i e.symm).1;omega)]
  exact h.below.block i hi
 ·rw [Zab _ _ _ _ _ _ _ hBx]
  congr 2
  refine Array.ext_getElem? fun i=>?_
  simp only [Array.getElem?_setIfInBounds,Array.size_setIfInBounds]
  by_cases e1:j=i
  ·subst e1;simp [Ne.symm h10]
  by_cases e2:10=i
  ·subst e2;simp [e1]
  simp [e1,e2]
 ·rw [List.map_append]
  exact Zaq hown (by simpa [Value.ownBlock] using hgB) _
 ·have e:gg=g:=by simpa [Value.ownBlock] using hgg
  rw [← e];exact hKg
 ·by_cases hi:i<qs.length
  ·rw [List.getElem_append_left hi]
   exact h.nds i hi h2
  have hi':i=qs.length:=by simp at h1;omega
  rw [List.getElem_append_right (by omega)]
  have hqd:=h.ql
  obtain rfl:i=done:=by omega
  simpa using hq
 ·have e:gg=g:=by simpa [Value.ownBlock] using hgg
  rw [← e];exact hug
 simp;have:=hg.size;omega
theorem CoS.fin (h:CoS NT PT CT R H w0 wr B base cs j M0 l l.length l.length pu qs K u ps) {j':Nat} {l':List Ex} (hj':cs[j']?=some (.slice none 0 0)) (hne:j'≠j) (_h10:j'≠10):
  ∃ K',K.le K'∧NdsV NT R K' (Zbb M0.length l) pu∧CoS NT PT CT R H w0 wr B base (cs.setIfInBounds j pu) j' (M0++Zah M0.length l) l' 0 0 (.slice none 0 0) [] K' u ps:=by
 have hmem:=h.mem
 rw [List.take_length] at hmem
 have hcs:(cs.setIfInBounds j pu).setIfInBounds j' (.slice none 0 0)=cs.setIfInBounds j pu:=by
  refine Array.ext_getElem? fun i=>?_
  simp only [Array.getElem?_setIfInBounds,Array.size_setIfInBounds]
  by_cases e1:j'=i
  ·subst e1
   obtain⟨h1,h2⟩:=Array.getElem?_eq_some_iff.1 hj'
   simp [h1,Ne.symm hne,h2]
  simp [e1]
 have hw:(Zbb M0.length l).length=l.length:=Zc1 l _
 have key:∀ K',K.le K'→K'.In wr→K' B=none→(∀ g,u.ownBlock=some g→K' g=none)→CoS NT PT CT R H w0 wr B base (cs.setIfInBounds j pu) j' (M0++Zah M0.length l) l' 0 0 (.slice none 0 0) [] K' u ps:=fun K' hle hin hnB hnu=>
  ⟨Kn.le_trans h.le hle,hin,h.below,hnB,h.hB,by rw [hcs];exact h.cd,by simpa [Zah] using hmem.le hle,hnu,World.ownsRow_nil _ _ _ _,fun g hg=>by simp [Value.ownBlock] at hg,rfl,fun i h1=>by simp at h1,fun g hg=>by simp [Value.ownBlock] at hg,h.low⟩
 by_cases h0:l.length=0
 ·obtain⟨a,c,hp,_⟩:=Zau h.row
  refine⟨K,Kn.le_refl K,.inl ⟨List.eq_nil_of_length_eq_zero (by omega),a,c,by rw [hp,h0]⟩,key K (Kn.le_refl K) h.isin h.noB h.noM⟩
 obtain⟨g,cap,hp,h1,h2,h3,h4,h5⟩:=Zbp h.row (by omega)
 have hpg:pu.ownBlock=some g:=by rw [hp];rfl
 have hbb:=h.bb
 have hgB:B≠g:=by omega
 have hKg:K g=none:=h.noP g hpg
 have ho:wr.heap[g]?=some wr.heap[g]:=Array.getElem?_eq_getElem h4
 have hle:=Kn.le_add (o:=wr.heap[g]) hKg
 refine⟨_,hle,.inr ⟨g,0,cap,by rw [hp,hw],by rw [hw];exact h1,h2,fun i hi=>?_⟩,key _ hle (h.isin.add ho) (by rw [Kn.add_other _ _ hgB];exact h.noB) fun x hx=>by rw [Kn.add_other _ _ (fun e=>h.apart g hpg (by rw [← e];exact hx))];exact h.noM x hx⟩
 have hil:i<l.length:=by omega
 have hq:i<qs.length:=by rw [h.ql];exact hil
 rw [withAt_get l _ i hil hi]
 refine⟨qs[i],?_,NdAt.le hle _ _ _ (h.nds i hq hil)⟩
 show (K.add g wr.heap[g]).cell g (0+i * 1+0)=some (ptrV qs[i])
 have h6:=h5 i (ptrV qs[i]) (by simp [hq])
 unfold Kn.cell
 rw [Kn.add_self]
 simp only [World.cell?,ho] at h6
 simp only [Nat.zero_add,Nat.mul_one,Nat.add_zero]
 cases hc:wr.heap[g]<;>simp_all
end
theorem CoS.rebase {NT PT CT:TypeId} {R:REnv} {H K:Kn} {w0 wr:World} {B base j:Nat} {cs:Array Value} {M0:List (Ex×Nat)} {l:List Ex} {dm done:Nat} {pu:Value} {qs:List Nat} {u:Value} {ps:List Nat} (h:CoS NT PT CT R H w0 wr B base cs j M0 l dm done pu qs K u ps):CoS NT PT CT R K w0 wr B base cs j M0 l dm done pu qs K u ps:=
 ⟨Kn.le_refl K,h.isin,h.below,h.noB,h.hB,h.cd,h.mem,h.noM,h.row,h.noP,h.ql,h.nds,h.apart,h.low⟩
theorem set_self {cs:Array Value} {j:Nat} {v:Value} (h:cs[j]?=some v):cs.setIfInBounds j v=cs:=by
 refine Array.ext_getElem? fun i=>?_
 simp only [Array.getElem?_setIfInBounds]
 by_cases e1:j=i
 ·subst e1
  obtain⟨h1,h2⟩:=Array.getElem?_eq_some_iff.1 h
  simp [h1,h2]
 simp [e1]
theorem CoS.init {NT PT CT:TypeId} {R:REnv} {H:Kn} {w0 wr:World} {B j:Nat} {cs:Array Value} {l:List Ex} (hin:H.In wr) (hb:Below w0.heap.size w0 wr) (hHB:H B=none) (hB:w0.heap.size≤B) (hbox:wr.heap[B]?=some (.cells cs CT (0,0))) (h10:cs[10]?=some (.slice none 0 0)) (hj:cs[j]?=some (.slice none 0 0)):
  CoS NT PT CT R H w0 wr B wr.heap.size cs j [] l 0 0 (.slice none 0 0) [] H (.slice none 0 0) []:=
 ⟨Kn.le_refl H,hin,hb,hHB,hB,⟨by rw [set_self hj,set_self h10];exact hbox,World.ownsRow_nil _ _ _ _,(Zlt hbox)⟩,⟨by simp [Zah],fun i h1 h2=>by simp at h2⟩,fun g hg=>by simp [Value.ownBlock] at hg,World.ownsRow_nil _ _ _ _,fun g hg=>by simp [Value.ownBlock] at hg,rfl,fun i h1=>by simp at h1,fun g hg=>by simp [Value.ownBlock] at hg,Nat.le_refl _⟩
theorem map_known {α:Type} {V:α→Value} {w:World} {b R:Nat} {m:Env α} (h:Zaw V w b m) (hb:b≠R):∀ w',(noKn R w).In w'→Zaw V w' b m:=fun w' hw=>by
 obtain⟨es,ck,h1,h2⟩:=h
 exact⟨es,ck,hw b _ (by unfold noKn;rw [if_neg hb];exact h1),h2⟩
theorem partsL_mem {l:List Ex} {e:Ex} (h:e∈l):e.parts≤Ex.partsL l:=by
 obtain⟨i,hi,rfl⟩:=List.mem_iff_getElem.1 h
 exact Za5 l i hi
def OutC (x:Int) (f:Nat→Option Value):Prop:=f 0=some (.int .i64 x)
abbrev OutsV (H:Kn):List Int→Value→Prop:=SlV H 1 OutC
theorem OutC.mono (x:Int) (f g:Nat→Option Value) (h:∀ j u,f j=some u→g j=some u) (hx:OutC x f):OutC x g:=h _ _ hx
theorem OutsV.le {H H':Kn} (hle:H.le H') {l:List Int} {v:Value} (h:OutsV H l v):OutsV H' l v:=SlV.le h hle OutC.mono
structure OuS (IT PT CT:TypeId) (w0 wr:World) (B base:Nat) (cs:Array Value) (outs:List Int) (k:Nat) (pu:Value) (K:Kn) (u:Value) (ps:List Nat):Prop where
 isin:K.In wr
 below:Below w0.heap.size w0 wr
 box:wr.heap[B]?=some (.cells (cs.setIfInBounds 9 pu) CT (0,0))
 ms:wr.ownsRow base PT 1 u ps.length (ps.map ptrV)
 row:wr.ownsRow base IT 1 pu k ((outs.take k).map fun x => .int .i64 x)
 noB:K B=none
 noP:∀ g,pu.ownBlock=some g→K g=none
 hB:w0.heap.size≤B
 bb:B<base
 low:base≤wr.heap.size
 ne:PT≠IT
section
variable {IT PT CT : TypeId} {w0 wr : World} {B base : Nat} {cs : Array Value} {outs : List Int} {k : Nat} {pu : Value} {K : Kn} {u : Value} {ps : List Nat}
theorem OuS.next {w':World} (h:OuS IT PT CT w0 wr B base cs outs k pu K u ps) (hb:Below wr.heap.size wr w'):OuS IT PT CT w0 w' B base cs outs k pu K u ps:=
 ⟨h.isin.below hb,h.below.trans (hb.mono h.below.size),by rw [hb.block B (Zlt h.box)];exact h.box,Zao h.ms hb,Zao h.row hb,h.noB,h.noP,h.hB,h.bb,Nat.le_trans h.low hb.size,h.ne⟩
theorem OuS.alloc (h:OuS IT PT CT w0 wr B base cs outs k pu K u ps) (o:Obj):OuS IT PT CT w0 (wr.alloc o) B base cs outs k pu K u ps:=h.next ((Below.refl _ _).alloc (Nat.le_refl _) o)
theorem OuS.cell (h:OuS IT PT CT w0 wr B base cs outs k pu K u ps) (hj:9<cs.size):wr.cell? ⟨B,9,none⟩=some pu:=by
 have hb:=h.box
 simp [World.cell?,hb,hj]
theorem OuS.other (h:OuS IT PT CT w0 wr B base cs outs k pu K u ps) {i:Nat} (hi:i≠9):wr.cell? ⟨B,i,none⟩=cs[i]?:=by
 have hb:=h.box
 simp [World.cell?,hb,Ne.symm hi]
theorem OuS.low' (h:OuS IT PT CT w0 wr B base cs outs k pu K u ps):base≤wr.heap.size:=h.low
theorem OuS.app {w3:World} {gg cap':Nat} {x:Int} (h:OuS IT PT CT w0 wr B base cs outs k pu K u ps) (hj:9<cs.size) (hk:k<outs.length) (hx:outs[k]=x)
  (hown:w3.ownsRow base IT 1 (.slice (some ⟨gg,0,none⟩) (k+1) cap') (k+1) (((outs.take k).map fun x => .int .i64 x)++[.int .i64 x])) (hg:wr.grownBy w3 pu.ownBlock) (hat:pu.ownBlock=some gg∨gg=wr.heap.size):
  w3.cell? ⟨B,9,none⟩=some pu∧w3.frozen? ⟨B,9,none⟩=false∧OuS IT PT CT w0 (w3.setCell ⟨B,9,none⟩ (.slice (some ⟨gg,0,none⟩) (k+1) cap')) B base cs outs (k+1) (.slice (some ⟨gg,0,none⟩) (k+1) cap') K u ps:=by
 subst hx
 have hbs:=h.below.size
 have hbb:=h.bb
 have hlow:=h.low
 have hhB:=h.hB
 have hpB:pu.ownBlock≠some B:=Zbn h.row hbb
 have hBlt:B<wr.heap.size:=(Zlt h.box)
 have hBx:w3.heap[B]?=_:=(hg.block B hBlt (fun e=>hpB e.symm)).trans h.box
 have hgB:gg≠B:=by
  have:=Zbn (b:=B) hown hbb
  simpa [Value.ownBlock] using this
 have hKg:K gg=none:=by
  rcases hat with h1 | rfl
  ·exact h.noP gg h1
  exact h.isin.isNone (Nat.le_refl _)
 have hms:w3.ownsRow base PT 1 u ps.length (ps.map ptrV):=Zc4 h.ms hg fun g hu hp=>Zgc h.ms h.row h.ne g hu hp
 refine⟨by simp [World.cell?,hBx,hj],by simp [World.frozen?,hBx],(h.isin.grown hg h.noP).setCell (a:=⟨B,9,none⟩) h.noB _,?_,?_,Zaq hms (Zbn hms hbb) _,?_,h.noB,fun g hgg=>?_,hhB,hbb,by simp;have:=hg.size;omega,h.ne⟩
 ·refine⟨hg.os.trans h.below.os,hg.tape.trans h.below.tape,hg.output.trans h.below.output,by simp;have:=hg.size;omega,fun i hi=>?_⟩
  rw [Below.heap_setCell w3 ⟨B,9,none⟩ _ i (by show i≠B;omega),hg.block i (by omega) (fun e=>by have:=(h.row.lt i e.symm).1;omega)]
  exact h.below.block i hi
 ·rw [Zab _ _ _ _ _ _ _ hBx]
  simp
 ·rw [List.take_succ_eq_append_getElem hk,List.map_append]
  exact Zaq hown (by simpa [Value.ownBlock] using hgB) _
 have e:gg=g:=by simpa [Value.ownBlock] using hgg
 rw [← e];exact hKg
end
structure CodeAt (NT CT:TypeId) (R:REnv) (K:Kn) (p:Pr) (ord:List Nat) (B:Nat):Prop where
 ex:∃ cs vi vo vf va vc vu vm,K B=some (.cells cs CT (0,0))∧(cs[0]?=some vi∧VrsV K p.ins vi)∧(cs[5]?=some vo∧Zc2 K ord vo)∧(cs[6]?=some vf∧NdsV NT R K (cdOf p ord).fs vf)∧(cs[7]?=some va∧NdsV NT R K (cdOf p ord).av va)∧
  (cs[8]?=some vc∧NdsV NT R K (cdOf p ord).cv vc)∧(cs[9]?=some vu∧OutsV K (cdOf p ord).outs vu)∧(cs[10]?=some vm∧NdsV NT R K (Zah 0 p.terms) vm)
end Go.Proofs.YtofameafdnkijaaGreatDoor
