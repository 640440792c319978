/- Plain: what flows have is told by their terms alone; a program whose terms say the same tells the same: no program in sight. -/
import Derived.Test.YtofameafdnkijaaGreatDoorRuM
import Derived.Test.YtofameafdnkijaaGreatDoorSmM
import Derived.Test.YtofameafdnkijaaGreatDoorFxM
import Derived.Test.YtofameafdnkijaaGreatDoorDrM
set_option linter.all false
namespace Go.Proofs.YtofameafdnkijaaGreatDoor
open Mx
def nmV (R:REnv) (inp:Nat→List Vl) (g:Nat→Nat→Vl) (s:ByteArray) (i:Nat):Vl:=if R.nm s<0 then (inp i).getD (-1 - R.nm s).toNat vz else g (R.nm s).toNat i
theorem Zdu (R:REnv) (inp:Nat→List Vl) (g:Nat→Nat→Vl) (o:ByteArray) (n:Int) (s:ByteArray) (l:List Ex) (i:Nat):wdV R inp g (.mk o n s l) i=
  if i=0∧0<Zac R.lt (.mk o n s l) then nilV R.nb R.ni (Zam R.ks (.mk o n s l))
  else if o=oInt then ⟨2,n⟩
  else if o=Zcn∨o=Zb3 then tv (decide (o=Zcn))
  else if o=Zbg then nmV R inp g s i
  else if o=oPre then (wdVs R inp g l (i - 1)).getD 0 vz
  else if o=oFby then (if i=0 then (wdVs R inp g l i).getD 0 vz else (wdVs R inp g l (i - 1)).getD 1 vz)
  else if o=Zbq then (if i=0 then (wdVs R inp g l i).getD 0 vz else (wdVs R inp g l i).getD 1 vz)
  else if (appM o (wdVs R inp g l i)).2 then ⟨2,0⟩ else (appM o (wdVs R inp g l i)).1:=by
 rw [wdV]
 rfl
theorem Ze1 (R:REnv) (inp:Nat→List Vl) (g:Nat→Nat→Vl) (l:List Ex) (i k:Nat):(wdVs R inp g l i).getD k vz=if h:k<l.length then wdV R inp g l[k] i else vz:=by
 rw [Zc7]
 by_cases h:k<l.length
 ·simp [List.getD_eq_getElem?_getD,h]
 simp [List.getD_eq_getElem?_getD,h]
section
variable {p : Pr} (hck : Zak p = 0) {ks : Env Int} (hks : Zas Env.none p.vars = some ks) (nb : Bool) (ni : Int) (inp : Nat → List Vl)
include hck hks
theorem wd_agree {g g':Nat→Nat→Vl} (i:Nat) (hlt:∀ j,j<i→∀ e,Zad ks e=true→wdV ⟨ks,Zaa p,getI (Zaj p),nb,ni⟩ inp g e j=wdV ⟨ks,Zaa p,getI (Zaj p),nb,ni⟩ inp g' e j):
  ∀ e:Ex,Zad ks e=true→(∀ k∈needs p.atOf e,g k i=g' k i)→wdV ⟨ks,Zaa p,getI (Zaj p),nb,ni⟩ inp g e i=wdV ⟨ks,Zaa p,getI (Zaj p),nb,ni⟩ inp g' e i:=by
 refine Ex.ind fun o n s l ih hfo hn=>?_
 obtain⟨hsub,hfby,harr,hpre,_⟩:=Zaz hfo
 have hb:=(Zbc p).1
 rw [Zdu,Zdu]
 by_cases h0:i=0∧0<Zac (Zaa p) (.mk o n s l)
 ·rw [if_pos h0,if_pos h0]
 rw [if_neg h0,if_neg h0]
 by_cases e1:o=oInt
 ·rw [if_pos e1,if_pos e1]
 rw [if_neg e1,if_neg e1]
 by_cases e2:o=Zcn∨o=Zb3
 ·rw [if_pos e2,if_pos e2]
 rw [if_neg e2,if_neg e2]
 by_cases e3:o=Zbg
 ·rw [if_pos e3,if_pos e3]
  unfold nmV
  dsimp only
  by_cases h5:getI (Zaj p) s<0
  ·rw [if_pos h5,if_pos h5]
  rw [if_neg h5,if_neg h5]
  have hs:(ks s).isSome=true:=by
   simp only [Zad,Bool.and_eq_true,Bool.or_eq_true,decide_eq_true_eq] at hfo
   exact hfo.1.2.resolve_left (fun h=>h e3)
  refine hn _ ?_
  simp only [needs]
  rw [if_neg (by rw [e3];decide),if_neg (by rw [e3];decide),if_pos e3,nm_at hck hks s hs (by omega)]
  simp
 rw [if_neg e3,if_neg e3]
 by_cases e4:o=oPre
 ·rw [if_pos e4,if_pos e4,Ze1,Ze1]
  have hi:i≠0:=fun h=>h0 ⟨h,by rw [e4];exact pre_late hb n s l⟩
  split
  ·exact hlt (i - 1) (by omega) _ (hsub _ (List.getElem_mem _))
  rfl
 rw [if_neg e4,if_neg e4]
 have hnl:o≠oFby→∀ e∈l,wdV ⟨ks,Zaa p,getI (Zaj p),nb,ni⟩ inp g e i=wdV ⟨ks,Zaa p,getI (Zaj p),nb,ni⟩ inp g' e i:=fun e5 e he=>ih e he (hsub e he) fun k hk=>hn k (by
  simp only [needs]
  rw [if_neg e4,if_neg e5]
  exact List.mem_append_right _ (Ziz he hk))
 by_cases e5:o=oFby
 ·rw [if_pos e5,if_pos e5,Ze1,Ze1,Ze1,Ze1]
  by_cases hi:i=0
  ·rw [if_pos hi,if_pos hi]
   split
   ·rename_i h
    refine ih _ (List.getElem_mem h) (hsub _ (List.getElem_mem h)) fun k hk=>hn k ?_
    simp only [needs]
    rw [if_neg e4,if_pos e5]
    cases l with
    | nil=>simp at h
    | cons y l=>simpa [Zf2] using hk
   rfl
  rw [if_neg hi,if_neg hi]
  split
  ·exact hlt (i - 1) (by omega) _ (hsub _ (List.getElem_mem _))
  rfl
 rw [if_neg e5,if_neg e5]
 have hvs:wdVs ⟨ks,Zaa p,getI (Zaj p),nb,ni⟩ inp g l i=wdVs ⟨ks,Zaa p,getI (Zaj p),nb,ni⟩ inp g' l i:=by
  rw [Zc7,Zc7]
  exact List.map_congr_left (hnl e5)
 rw [hvs]
end
theorem wd_uniq {p:Pr} (h:(Za0 p).1=0) {ks:Env Int} (hks:Zas Env.none p.vars=some ks) {ord:List Nat} (ho:Zbu p = .ok ord) (nb:Bool) (ni:Int) (mem0:List Vl) (inp:Nat→List Vl) {g:Nat→Nat→Vl}
  (hg:∀ k i,(hk:k<p.fl.length)→g k i=wdV ⟨ks,Zaa p,getI (Zaj p),nb,ni⟩ inp g p.fl[k].e i):∀ i,(∀ k,k<p.fl.length→g k i=fvS ⟨ks,Zaa p,getI (Zaj p),nb,ni⟩ (cdOf p ord) mem0 inp k i)∧
   ∀ e,Zad ks e=true→wdV ⟨ks,Zaa p,getI (Zaj p),nb,ni⟩ inp g e i=wdV ⟨ks,Zaa p,getI (Zaj p),nb,ni⟩ inp (fvS ⟨ks,Zaa p,getI (Zaj p),nb,ni⟩ (cdOf p ord) mem0 inp) e i:=by
 obtain⟨hck,hlen,hlow⟩:=Zbe ho
 have hform:=Ze3 hks ho
 intro i
 induction i using Nat.strongRecOn with
 | ind i ih=>
 have ha:=wd_agree hck hks nb ni inp (g:=g) (g':=fvS ⟨ks,Zaa p,getI (Zaj p),nb,ni⟩ (cdOf p ord) mem0 inp) i (fun j hj=>(ih j hj).2)
 have hord:=Zfm ho
 have hstep:∀ j (hj:j<ord.length),g ord[j] i=fvS ⟨ks,Zaa p,getI (Zaj p),nb,ni⟩ (cdOf p ord) mem0 inp ord[j] i:=by
  intro j
  induction j using Nat.strongRecOn with
  | ind j ihj=>
  intro hj
  have hk:=hlow _ (List.getElem_mem hj)
  obtain⟨hkt,hke⟩:=fl_term p _ hk
  rw [hg _ i hk,fv_fix h hks ho nb ni mem0 inp _ i hk]
  refine ha _ (hform _ (hke▸List.getElem_mem hkt)) fun k hkn=>?_
  have ht:=(hord j hj).2 k (by
   have:p.graph.getD ord[j] []=needs p.atOf p.fl[ord[j]].e:=by simp [Pr.graph,List.getD_eq_getElem?_getD,hk]
   rw [this];exact hkn)
  obtain⟨j',hj',e⟩:=List.mem_iff_getElem.1 ht
  have hjj:j'<j:=by simp at hj';omega
  have hjo:j'<ord.length:=by omega
  have e':ord[j']=k:=by simpa using e
  rw [← e']
  exact ihj j' hjj hjo
 have hall:∀ k,k<p.fl.length→g k i=fvS ⟨ks,Zaa p,getI (Zaj p),nb,ni⟩ (cdOf p ord) mem0 inp k i:=fun k hk=>by
  obtain⟨j,hj,e⟩:=List.mem_iff_getElem.1 (Zib ho k hk)
  rw [← e];exact hstep j hj
 refine⟨hall,fun e hf=>ha e hf fun k hk=>?_⟩
 have hlo:=Zj0 p.atOf p.fl.length (atFrom_lt p.fl 0 Env.none p.fl.length (by omega) (fun s k h=>by cases h)) e k hk
 exact hall k hlo
theorem runM_go {p:Pr} (h:(Za0 p).1=0) {ks:Env Int} (hks:Zas Env.none p.vars=some ks) {ord:List Nat} (ho:Zbu p = .ok ord) (nb:Bool) (ni:Int) (ins:List (List Vl)):
  runM nb ni p ins=wdRun (wdTick ⟨ks,Zaa p,getI (Zaj p),nb,ni⟩ (fun i=>ins.getD i []) (fvS ⟨ks,Zaa p,getI (Zaj p),nb,ni⟩ (cdOf p ord) (Zde ⟨ks,Zaa p,getI (Zaj p),nb,ni⟩ (Zah 0 p.terms)) (fun i=>ins.getD i [])) p) ins.length 0:=by
 have h1:=go_wd h hks ho nb ni (Zde ⟨ks,Zaa p,getI (Zaj p),nb,ni⟩ (Zah 0 p.terms)) (fun i=>ins.getD i []) ins.length 0
 have e:(List.range' 0 ins.length).map (fun i=>ins.getD i [])=ins:=by
  apply List.ext_getElem (by simp)
  intro j h1 h2
  simp [List.getD_eq_getElem?_getD,h2]
 rw [e] at h1
 unfold runM
 rw [hks,ho]
 exact h1
theorem wdRun_congr {f f':Nat→Tk} (h:∀ i,f i=f' i):∀ n i,wdRun f n i=wdRun f' n i
 | 0,_=>rfl
 | n+1,i=>by simp only [wdRun];rw [h i,wdRun_congr h n]
theorem run_sim {p q:Pr} (hp:(Za0 p).1=0) (hq:(Za0 q).1=0) (φ:Nat→Nat) (F:Ex→Ex) (hins:q.ins=p.ins) (houts:q.outs=p.outs) (has:q.as=p.as.map F) (hcs:q.cs=p.cs.map F)
  (hfl:∀ k (hk:k<q.fl.length),∃ h:φ k<p.fl.length,q.fl[k].e=F p.fl[φ k].e∧q.fl[k].name=p.fl[φ k].name)
  (hno:∀ f∈p.fl,f.name∈q.fl.map (·.name)∨∀ R inp g i,allT R inp g f.e i=false)
  (hval:∀ ks ks' ord,Zas Env.none p.vars=some ks→Zas Env.none q.vars=some ks'→Zbu p = .ok ord→∀ nb ni inp (fv:Nat→Nat→Vl),(∀ k i,(hk:k<p.fl.length)→fv k i=wdV ⟨ks,Zaa p,getI (Zaj p),nb,ni⟩ inp fv p.fl[k].e i)→
   ∀ e∈p.terms,(e∈p.as++p.cs∨∃ k,∃ h:k<q.fl.length,∃ h2:φ k<p.fl.length,e=p.fl[φ k].e)→∀ i,
    wdV ⟨ks',Zaa q,getI (Zaj q),nb,ni⟩ inp (fun k i=>fv (φ k) i) (F e) i=wdV ⟨ks,Zaa p,getI (Zaj p),nb,ni⟩ inp fv e i∧
    allT ⟨ks',Zaa q,getI (Zaj q),nb,ni⟩ inp (fun k i=>fv (φ k) i) (F e) i=allT ⟨ks,Zaa p,getI (Zaj p),nb,ni⟩ inp fv e i) (nb:Bool) (ni:Int) (ins:List (List Vl)):
  runM nb ni q ins=runM nb ni p ins:=by
 obtain⟨ks,ord,hks,ho⟩:=Zh4 hp
 obtain⟨ks',ord',hks',ho'⟩:=Zh4 hq
 obtain⟨hckp,_,_⟩:=Zbe ho
 obtain⟨hckq,_,_⟩:=Zbe ho'
 rw [runM_go hp hks ho,runM_go hq hks' ho']
 generalize hinp:(fun i=>ins.getD i [])=inp
 have hfix:=fun k i (hk:k<p.fl.length)=>fv_fix hp hks ho nb ni (Zde ⟨ks,Zaa p,getI (Zaj p),nb,ni⟩ (Zah 0 p.terms)) inp k i hk
 have hv:=hval ks ks' ord hks hks' ho nb ni inp _ hfix
 generalize hfv:fvS ⟨ks,Zaa p,getI (Zaj p),nb,ni⟩ (cdOf p ord) (Zde ⟨ks,Zaa p,getI (Zaj p),nb,ni⟩ (Zah 0 p.terms)) inp=fv at *
 have hu:=wd_uniq hq hks' ho' nb ni (Zde ⟨ks',Zaa q,getI (Zaj q),nb,ni⟩ (Zah 0 q.terms)) inp (g:=fun k i=>fv (φ k) i) (fun k i hk=>by
  obtain⟨h2,e1,_⟩:=hfl k hk
  obtain⟨hkt,hke⟩:=fl_term p _ h2
  show fv (φ k) i=_
  rw [e1,(hv _ (hke▸List.getElem_mem hkt) (.inr ⟨k,hk,h2,rfl⟩) i).1]
  exact hfix _ i h2)
 generalize hfq:fvS ⟨ks',Zaa q,getI (Zaj q),nb,ni⟩ (cdOf q ord') (Zde ⟨ks',Zaa q,getI (Zaj q),nb,ni⟩ (Zah 0 q.terms)) inp=fq at *
 have hfq2:∀ (e:Ex),Zad ks' e=true→∀ i,wdV ⟨ks',Zaa q,getI (Zaj q),nb,ni⟩ inp fq e i=wdV ⟨ks',Zaa q,getI (Zaj q),nb,ni⟩ inp (fun k i=>fv (φ k) i) e i:=fun e he i=>((hu i).2 e he).symm
 have hqt:=Ze3 hks' ho'
 have hall2:∀ (e:Ex),Zad ks' e=true→∀ i,allT ⟨ks',Zaa q,getI (Zaj q),nb,ni⟩ inp fq e i=allT ⟨ks',Zaa q,getI (Zaj q),nb,ni⟩ inp (fun k i=>fv (φ k) i) e i:=by
  refine Ex.ind fun o n s l ih he i=>?_
  obtain⟨hsub,_⟩:=Zaz he
  simp only [allT]
  have e1:wdVs ⟨ks',Zaa q,getI (Zaj q),nb,ni⟩ inp fq l i=wdVs ⟨ks',Zaa q,getI (Zaj q),nb,ni⟩ inp (fun k i=>fv (φ k) i) l i:=by
   rw [Zc7,Zc7]
   exact List.map_congr_left fun x hx=>hfq2 x (hsub x hx) i
  have e2:Zdp ⟨ks',Zaa q,getI (Zaj q),nb,ni⟩ inp fq l i=Zdp ⟨ks',Zaa q,getI (Zaj q),nb,ni⟩ inp (fun k i=>fv (φ k) i) l i:=by
   rw [Zc6,Zc6,Bool.eq_iff_iff,List.any_eq_true,List.any_eq_true]
   constructor
   ·rintro⟨x,hx,h⟩;exact⟨x,hx,by rw [← ih x hx (hsub x hx) i];exact h⟩
   rintro⟨x,hx,h⟩;exact⟨x,hx,by rw [ih x hx (hsub x hx) i];exact h⟩
  rw [e2]
  unfold ownT
  simp only [Ex.op,Ex.l]
  rw [e1]
 refine wdRun_congr (fun i=>?_) _ _
 have hmem:∀ k (hk:k<q.fl.length),q.fl[k].e∈q.terms:=fun k hk=>Zcg q (List.getElem_mem hk)
 have hasm:∀ e∈p.as++p.cs,F e∈q.terms:=fun e he=>by
  unfold Pr.terms
  rw [has,hcs,List.append_assoc,← List.map_append]
  exact List.mem_append_right _ (List.mem_map_of_mem he)
 have hpm:∀ e∈p.as++p.cs,e∈p.terms:=fun e he=>by
  unfold Pr.terms
  rw [List.append_assoc]
  exact List.mem_append_right _ he
 -- traps
 have htr:Zdp ⟨ks',Zaa q,getI (Zaj q),nb,ni⟩ inp fq q.terms i=Zdp ⟨ks,Zaa p,getI (Zaj p),nb,ni⟩ inp fv p.terms i:=by
  rw [Zc6,Zc6,Bool.eq_iff_iff,List.any_eq_true,List.any_eq_true]
  constructor
  ·rintro⟨e,he,h⟩
   rw [hall2 e (hqt e he)] at h
   unfold Pr.terms at he
   rw [List.append_assoc,has,hcs,← List.map_append] at he
   rcases List.mem_append.1 he with he | he
   ·obtain⟨f,hf,rfl⟩:=List.mem_map.1 he
    obtain⟨k,hk,rfl⟩:=List.mem_iff_getElem.1 hf
    obtain⟨h2,e1,_⟩:=hfl k hk
    obtain⟨hkt,hke⟩:=fl_term p _ h2
    have hm:=hke▸List.getElem_mem hkt
    rw [e1,(hv _ hm (.inr ⟨k,hk,h2,rfl⟩) i).2] at h
    exact⟨_,hm,h⟩
   obtain⟨e',he',rfl⟩:=List.mem_map.1 he
   rw [(hv e' (hpm e' he') (.inl he') i).2] at h
   exact⟨e',hpm e' he',h⟩
  rintro⟨e,he,h⟩
  unfold Pr.terms at he
  rw [List.append_assoc] at he
  rcases List.mem_append.1 he with he | he
  ·obtain⟨f,hf,rfl⟩:=List.mem_map.1 he
   rcases hno f hf with hn | hn
   ·obtain⟨f',hf',en⟩:=List.mem_map.1 hn
    obtain⟨k,hk,rfl⟩:=List.mem_iff_getElem.1 hf'
    obtain⟨h2,e1,e2⟩:=hfl k hk
    obtain⟨j,hj,rfl⟩:=List.mem_iff_getElem.1 hf
    have hjk:j=φ k:=by
     refine Classical.byContradiction fun hne=>?_
     have hnd:=List.pairwise_iff_getElem.1 (List.nodup_iff_pairwise_ne.1 (Zct hckp))
     rcases Nat.lt_or_gt_of_ne hne with hl | hl
     ·exact hnd j (φ k) (by simpa using hj) (by simpa using h2) hl (by simp [← e2,en])
     exact hnd (φ k) j (by simpa using h2) (by simpa using hj) hl (by simp [← e2,en])
    subst hjk
    refine⟨_,hmem k hk,?_⟩
    rw [hall2 _ (hqt _ (hmem k hk)),e1,(hv _ (Zcg p hf) (.inr ⟨k,hk,h2,rfl⟩) i).2]
    exact h
   rw [hn] at h;cases h
  refine⟨F e,hasm e he,?_⟩
  rw [hall2 _ (hqt _ (hasm e he)),(hv e (hpm e he) (.inl he) i).2]
  exact h
 unfold wdTick
 rw [htr]
 split
 ·rfl
 have hV:∀ e∈p.as++p.cs,wdV ⟨ks',Zaa q,getI (Zaj q),nb,ni⟩ inp fq (F e) i=wdV ⟨ks,Zaa p,getI (Zaj p),nb,ni⟩ inp fv e i:=fun e he=>by
  rw [hfq2 _ (hqt _ (hasm e he)) i]
  exact (hv e (hpm e he) (.inl he) i).1
 have ho1:(q.outs.map fun s=>fq (getI (Zaj q) s).toNat i)=p.outs.map fun s=>fv (getI (Zaj p) s).toNat i:=by
  rw [houts]
  refine List.map_congr_left fun s hs=>?_
  obtain⟨_,_,hout,_⟩:=Zbs hckq
  rw [houts] at hout
  have h1:=Zgx _ _ _ hout s hs
  obtain⟨k,hk,e⟩:=List.mem_iff_getElem.1 h1
  have hk':k<q.fl.length:=by simpa using hk
  have e':q.fl[k].name=s:=by simpa using e
  obtain⟨h2,_,e2⟩:=hfl k hk'
  have n1:=Zey hckq k hk'
  have n2:=Zey hckp (φ k) h2
  rw [e'] at n1
  rw [← e2,e'] at n2
  rw [n1,n2]
  simp only [Int.toNat_natCast]
  exact ((hu i).1 k hk').symm
 have ho2:(q.as.all fun e=>decide ((wdV ⟨ks',Zaa q,getI (Zaj q),nb,ni⟩ inp fq e i).n=1))=p.as.all fun e=>decide ((wdV ⟨ks,Zaa p,getI (Zaj p),nb,ni⟩ inp fv e i).n=1):=by
  rw [has,Bool.eq_iff_iff,List.all_eq_true,List.all_eq_true]
  constructor
  ·intro h e he
   have:=h (F e) (List.mem_map_of_mem he)
   rw [hV e (List.mem_append_left _ he)] at this
   exact this
  intro h e he
  obtain⟨e',he',rfl⟩:=List.mem_map.1 he
  rw [hV e' (List.mem_append_left _ he')]
  exact h e' he'
 have ho3:(q.cs.map fun e=>decide ((wdV ⟨ks',Zaa q,getI (Zaj q),nb,ni⟩ inp fq e i).n=1))=p.cs.map fun e=>decide ((wdV ⟨ks,Zaa p,getI (Zaj p),nb,ni⟩ inp fv e i).n=1):=by
  rw [hcs,List.map_map]
  exact List.map_congr_left fun e he=>by
   show decide _=_
   rw [hV e (List.mem_append_right _ he)]
 dsimp only
 rw [ho1,ho2,ho3]
theorem renE_none:∀ e:Ex,renE Env.none e=e:=by
 refine Ex.ind fun o n s l ih=>?_
 simp only [renE]
 rw [Zbv,List.map_congr_left (g:=id) ih,List.map_id]
 simp [Env.none]
theorem Zh9 {lt lt':ByteArray→Int} {ot:Env ByteArray}:∀ e:Ex,(∀ s∈Za7 e,lt' ((ot s).getD s)=lt s)→Zac lt' (renE ot e)=Zac lt e:=by
 refine Ex.ind fun o n s l ih h=>?_
 have hl:Zan lt' (renL ot l)=Zan lt l:=by
  rw [Zcl,Zcl,Zbv,List.map_map]
  exact List.map_congr_left fun e he=>ih e he fun t ht=>h t (by simp only [Za7,List.mem_append];exact .inr (Zb7 he ht))
 simp only [renE,Zac]
 rw [hl]
 by_cases e1:o=Zbg
 ·rw [if_pos e1,if_pos e1,if_pos e1]
  exact h s (by simp [Za7,e1])
 rw [if_neg e1,if_neg e1]
theorem ren_kinds {ks ks':Env Int} {ot:Env ByteArray}:∀ e:Ex,(∀ s∈Za7 e,ks' ((ot s).getD s)=ks s)→Zam ks' (renE ot e)=Zam ks e:=by
 refine Ex.ind fun o n s l ih h=>?_
 have hl:Zav ks' (renL ot l)=Zav ks l:=by
  rw [Zbr,Zbr,Zbv,List.map_map]
  exact List.map_congr_left fun e he=>ih e he fun t ht=>h t (by simp only [Za7,List.mem_append];exact .inr (Zb7 he ht))
 simp only [renE,Zam]
 rw [hl]
 by_cases e1:o=Zbg
 ·rw [if_pos e1,h s (by simp [Za7,e1])]
 have:∀ k k',Zci o k (Zav ks l)=Zci o k' (Zav ks l):=fun k k'=>by
  unfold Zci
  simp only [if_neg e1]
 rw [this _ ((ks s).getD 0)]
theorem ren_wd {R R':REnv} {inp:Nat→List Vl} {g g':Nat→Nat→Vl} {ot:Env ByteArray} (hnb:R'.nb=R.nb) (hni:R'.ni=R.ni):
  ∀ e:Ex,(∀ s∈Za7 e,R'.ks ((ot s).getD s)=R.ks s∧R'.lt ((ot s).getD s)=R.lt s∧∀ i,nmV R' inp g' ((ot s).getD s) i=nmV R inp g s i)→∀ i,wdV R' inp g' (renE ot e) i=wdV R inp g e i∧allT R' inp g' (renE ot e) i=allT R inp g e i:=by
 refine Ex.ind fun o n s l ih h i=>?_
 have hl:∀ e∈l,∀ i,wdV R' inp g' (renE ot e) i=wdV R inp g e i∧allT R' inp g' (renE ot e) i=allT R inp g e i:=fun e he=>ih e he fun t ht=>h t (by simp only [Za7,List.mem_append];exact .inr (Zb7 he ht))
 have hvs:∀ i,wdVs R' inp g' (renL ot l) i=wdVs R inp g l i:=fun i=>by
  rw [Zc7,Zc7,Zbv,List.map_map]
  exact List.map_congr_left fun e he=>(hl e he i).1
 have hts:Zdp R' inp g' (renL ot l) i=Zdp R inp g l i:=by
  rw [Zc6,Zc6,Zbv,List.any_map,Bool.eq_iff_iff,List.any_eq_true,List.any_eq_true]
  constructor
  ·rintro⟨e,he,hh⟩;exact⟨e,he,by rw [← (hl e he i).2];exact hh⟩
  rintro⟨e,he,hh⟩;exact⟨e,he,by show allT _ _ _ _ _=true;rw [(hl e he i).2];exact hh⟩
 have hlate:Zac R'.lt (renE ot (.mk o n s l))=Zac R.lt (.mk o n s l):=Zh9 _ fun s hs=>(h s hs).2.1
 have hkind:Zam R'.ks (renE ot (.mk o n s l))=Zam R.ks (.mk o n s l):=ren_kinds _ fun s hs=>(h s hs).1
 simp only [renE] at hlate hkind ⊢
 refine⟨?_,?_⟩
 ·rw [Zdu,Zdu,hlate,hkind,hnb,hni]
  simp only [hvs]
  by_cases e1:o=Zbg
  ·have:=(h s (by simp [Za7,e1])).2.2 i
   simp only [if_pos e1,this]
  simp only [if_neg e1]
 simp only [allT]
 rw [hts]
 unfold ownT
 simp only [Ex.op,Ex.l]
 rw [hvs i,hlate]
theorem Zjz {p:Pr} (hck:Zak p=0) {ks:Env Int} (hks:Zas Env.none p.vars=some ks) (j:Nat) (hj:j<p.ins.length):getI (Zaj p) p.ins[j].name = -1 - (j:Int):=by
 have hnd:=Zfw _ _ _ hks
 have e:p.vars.map (·.1)=p.ins.map (·.name)++p.fl.map (·.name):=by simp [Pr.vars,List.map_append,List.map_map,Function.comp_def]
 rw [e,List.nodup_append] at hnd
 obtain⟨n1,n2,n3⟩:=hnd
 have hin:p.ins[j].name∈p.ins.map (·.name):=List.mem_map_of_mem (List.getElem_mem hj)
 have hf:p.ins[j].name∉p.fl.map (·.name):=fun h=>n3 _ hin _ h rfl
 obtain⟨j',hj'⟩:=Zi2 p.ins 0 Env.none p.ins[j].name (.inl hin)
 have hnm:getI (Zaj p) p.ins[j].name = -1 - (j':Int):=by
  unfold getI Zaj
  rw [Zeq _ _ _ _ hf,hj']
  rfl
 rcases inNames_at _ _ _ _ _ hj' with h | ⟨j2,hj2,e1,e2⟩
 ·simp [Env.none] at h
 have h3:j'=j2:=by omega
 subst h3
 have:j'=j:=by
  refine Classical.byContradiction fun hne=>?_
  have hp:=List.pairwise_iff_getElem.1 (List.nodup_iff_pairwise_ne.1 n1)
  rcases Nat.lt_or_gt_of_ne hne with hl | hl
  ·exact hp j' j (by simpa using hj2) (by simpa using hj) hl (by simp [e1])
  exact hp j j' (by simpa using hj) (by simpa using hj2) hl (by simp [e1])
 rw [hnm,this]
theorem Zjy {p:Pr} {ks:Env Int} (hks:Zas Env.none p.vars=some ks) (s:ByteArray) (hs:(ks s).isSome=true):(∃ j,∃ h:j<p.ins.length,p.ins[j].name=s∧s∉p.fl.map (·.name))∨∃ k,∃ h:k<p.fl.length,p.fl[k].name=s:=by
 have hnd:=Zfw _ _ _ hks
 have e:p.vars.map (·.1)=p.ins.map (·.name)++p.fl.map (·.name):=by simp [Pr.vars,List.map_append,List.map_map,Function.comp_def]
 rcases Zeh _ _ _ hks hs with h | h
 ·simp [Env.none] at h
 rw [e,List.mem_append] at h
 rw [e,List.nodup_append] at hnd
 rcases h with h | h
 ·obtain⟨j,hj,he⟩:=List.mem_iff_getElem.1 h
  exact .inl ⟨j,by simpa using hj,by simpa using he,fun hf=>hnd.2.2 _ h _ hf rfl⟩
 obtain⟨j,hj,he⟩:=List.mem_iff_getElem.1 h
 exact .inr ⟨j,by simpa using hj,by simpa using he⟩
theorem Zd9 {p:Pr} {s:ByteArray} (h:s∉p.fl.map (·.name)):Zaa p s=0:=by
 have hb:=(Zbc p).1
 have:=Zev (lt':=fun t=>if t=s then 0 else Zaa p t) (fun t=>by
  split
  ·exact⟨by omega,by omega⟩
  ·exact hb t) p.fl (fun f hf=>by
  have hne:f.name≠s:=fun e=>h (e▸List.mem_map_of_mem hf)
  show _≤if f.name=s then 0 else _
  rw [if_neg hne]
  refine Int.le_trans ?_ ((Zbc p).2 f hf)
  refine Zen (fun t=>by
   try dsimp only
   split
   ·exact⟨by omega,by omega⟩
   exact hb t) hb f.e fun t _=>?_
  try dsimp only
  split
  ·exact (hb t).1
  ·exact Int.le_refl _) (2 * p.fl.length+1) (fun _=>0) (fun s=>⟨by simp,by simp⟩) (fun t=>by
  try dsimp only
  split
  ·exact Int.le_refl _
  exact (hb t).1) s
 have h1:Zaa p s≤if s=s then 0 else Zaa p s:=this
 rw [if_pos rfl] at h1
 have:=(hb s).1
 omega
theorem Zdy {p:Pr} {lt':ByteArray→Int} (hb':∀ s,0≤lt' s∧lt' s≤2) (hf:∀ f∈p.fl,Zac lt' f.e≤lt' f.name) (s:ByteArray):Zaa p s≤lt' s:=
 Zev hb' p.fl hf _ _ (fun s=>⟨by simp,by simp⟩) (fun s=>(hb' s).1) s
theorem keep_late {p q:Pr} (h:Keeps p q) (hck:Zak p=0) (s:ByteArray) (hs:s∈p.fl.map (·.name)→s∈q.fl.map (·.name)):Zaa q s=Zaa p s:=by
 have hbq:=(Zbc q).1
 have hbp:=(Zbc p).1
 have hle:=names_less (p:=p) (q:=q) fun f hf=>h.sub.subset hf
 by_cases hsq:s∈q.fl.map (·.name)
 ·refine Int.le_antisymm (hle s) ?_
  have hlt:∀ t,(if t∈q.fl.map (·.name) then Zaa q t else Zaa p t)≤Zaa p t:=fun t=>by
   split
   ·exact hle t
   exact Int.le_refl _
  have hbl:∀ t,0≤(if t∈q.fl.map (·.name) then Zaa q t else Zaa p t)∧(if t∈q.fl.map (·.name) then Zaa q t else Zaa p t)≤2:=fun t=>by
   split
   ·exact hbq t
   exact hbp t
  have h1:=Zdy (p:=p) (lt':=fun t=>if t∈q.fl.map (·.name) then Zaa q t else Zaa p t) hbl (fun f hf=>by
   try dsimp only
   by_cases hfq:f.name∈q.fl.map (·.name)
   ·rw [if_pos hfq]
    obtain⟨f',hf',en⟩:=List.mem_map.1 hfq
    have hfp:=h.sub.subset hf'
    have hff:f'=f:=by
     have hnd:=Zct hck
     have e1:=Zik hnd hf
     obtain⟨a,ha,rfl⟩:=List.mem_iff_getElem.1 hf
     obtain⟨b,hb,rfl⟩:=List.mem_iff_getElem.1 hfp
     have hab:a=b:=by
      refine Classical.byContradiction fun hne=>?_
      have hp:=List.pairwise_iff_getElem.1 (List.nodup_iff_pairwise_ne.1 hnd)
      rcases Nat.lt_or_gt_of_ne hne with hl | hl
      ·exact hp a b (by simpa using ha) (by simpa using hb) hl (by simp [en])
      exact hp b a (by simpa using hb) (by simpa using ha) hl (by simp [en])
     subst hab;rfl
    subst hff
    refine Int.le_trans (Int.le_of_eq ?_) ((Zbc q).2 f' hf')
    have:=Zh9 (lt:=Zaa q) (lt':=fun t=>if t∈q.fl.map (·.name) then Zaa q t else Zaa p t) (ot:=Env.none) f'.e fun t ht=>by
     show (if t∈q.fl.map (·.name) then Zaa q t else Zaa p t)=Zaa q t
     by_cases hn:t∈q.fl.map (·.name)
     ·rw [if_pos hn]
     rw [if_neg hn]
     have hp2:t∉p.fl.map (·.name):=fun h2=>hn (h.term f'.e (Zcg q hf') t ht h2)
     rw [Zd9 hn,Zd9 hp2]
    rw [renE_none] at this
    exact this
   rw [if_neg hfq]
   exact Int.le_trans (Zen hbl hbp f.e fun t _=>hlt t) ((Zbc p).2 f hf)) s
  try dsimp only at h1
  rw [if_pos hsq] at h1
  exact h1
 have hsp:s∉p.fl.map (·.name):=fun h=>hsq (hs h)
 rw [Zd9 hsq,Zd9 hsp]
theorem Zic {R:REnv} {inp:Nat→List Vl} {g:Nat→Nat→Vl}:∀ e:Ex,Zax e=false→∀ i,allT R inp g e i=false:=by
 refine Ex.ind fun o n s l ih h i=>?_
 simp only [Zax,Bool.or_eq_false_iff,decide_eq_false_iff_not] at h
 have hL:∀ l:List Ex,(∀ e∈l,Zax e=false→∀ i,allT R inp g e i=false)→Zew l=false→Zdp R inp g l i=false:=by
  intro l
  induction l with
  | nil=>intro _ _;rfl
  | cons e l ihl=>
   intro h1 h2
   simp only [Zew,Bool.or_eq_false_iff] at h2
   simp only [Zdp]
   rw [h1 e (List.mem_cons_self ..) h2.1 i,ihl (fun x hx=>h1 x (List.mem_cons_of_mem _ hx)) h2.2]
   rfl
 simp only [allT]
 rw [hL l (fun e he=>ih e he) h.2,Bool.or_false]
 unfold ownT
 simp only [Ex.op,Ex.l]
 cases hc:(appM o (wdVs R inp g l i)).2 with
 | false=>rfl
 | true=>
  rcases Zj9 hc with e | e
  ·exact absurd e h.1.1
  exact absurd e h.1.2
theorem sub_map {p q:Pr} (h:q.fl.Sublist p.fl):∃ φ:Nat→Nat,∀ k (hk:k<q.fl.length),∃ h2:φ k<p.fl.length,p.fl[φ k]=q.fl[k]:=by
 have hex:∀ k,∃ j,k<q.fl.length→∃ h1:k<q.fl.length,∃ h2:j<p.fl.length,p.fl[j]=q.fl[k]:=fun k=>by
  by_cases hk:k<q.fl.length
  ·obtain⟨j,hj,e⟩:=List.mem_iff_getElem.1 (h.subset (List.getElem_mem hk))
   exact⟨j,fun _=>⟨hk,hj,e⟩⟩
  exact⟨0,fun h=>absurd h hk⟩
 obtain⟨φ,hφ⟩:=Classical.axiomOfChoice hex
 exact⟨φ,fun k hk=>(hφ k hk).2⟩
theorem run_keep {p q:Pr} (hp:(Za0 p).1=0) (hK:Keeps p q) (hdiv:∀ f∈p.fl,f.name∈q.fl.map (·.name)∨Zax f.e=false) (nb:Bool) (ni:Int) (ins:List (List Vl)):runM nb ni q ins=runM nb ni p ins:=by
 have hq:=keep_right hK hp
 obtain⟨φ,hφ⟩:=sub_map hK.sub
 refine run_sim hp hq φ (fun e=>e) hK.ins hK.outs (by rw [hK.asr];simp) (by rw [hK.chk];simp) (fun k hk=>?_) (fun f hf=>?_) ?_ nb ni ins
 ·obtain⟨h2,e⟩:=hφ k hk
  exact⟨h2,by rw [e],by rw [e]⟩
 ·rcases hdiv f hf with h | h
  ·exact .inl h
  exact .inr fun R inp g i=>Zic f.e h i
 intro ks ks' ord hks hks' ho nb ni inp fv hfix e he hw i
 obtain⟨hckp,_,_⟩:=Zbe ho
 have hckq:=keep_check hK hckp
 have hform:=Ze3 hks ho e he
 have heq:e∈q.terms:=by
  rcases hw with h | ⟨k,hk,h2,rfl⟩
  ·unfold Pr.terms
   rw [hK.asr,hK.chk,List.append_assoc]
   exact List.mem_append_right _ h
  obtain⟨_,e2⟩:=hφ k hk
  rw [e2]
  exact Zcg q (List.getElem_mem hk)
 have:=ren_wd (R:=⟨ks,Zaa p,getI (Zaj p),nb,ni⟩) (R':=⟨ks',Zaa q,getI (Zaj q),nb,ni⟩) (inp:=inp) (g:=fv) (g':=fun k i=>fv (φ k) i) (ot:=Env.none) rfl rfl e (fun s hs=>by
  simp only [Env.none,Option.getD_none]
  have hsome:=Zj4 e hform s hs
  have hterm:=hK.term e heq s hs
  have hk1:ks' s=ks s:=by
   have g1:=(Zdc _ _ _ hks).2
   have g2:=(Zdc _ _ _ hks').2
   rcases Zjy hks s hsome with ⟨j,hj,ej,_⟩ | ⟨k,hk,ek⟩
   ·have h1:=g1 (s,p.ins[j].kind) (by
     simp only [Pr.vars,List.mem_append,List.mem_map]
     exact .inl ⟨p.ins[j],List.getElem_mem _,by rw [ej]⟩)
    have h2:=g2 (s,p.ins[j].kind) (by
     simp only [Pr.vars,List.mem_append,List.mem_map]
     rw [hK.ins]
     exact .inl ⟨p.ins[j],List.getElem_mem _,by rw [ej]⟩)
    rw [h1,h2]
   obtain⟨f,hf,ef⟩:=List.mem_map.1 (hterm (List.mem_map.2 ⟨p.fl[k],List.getElem_mem hk,ek⟩))
   have h2:=g2 (s,f.kind) (by
    simp only [Pr.vars,List.mem_append,List.mem_map]
    exact .inr ⟨f,hf,by rw [ef]⟩)
   have h1:=g1 (s,f.kind) (by
    simp only [Pr.vars,List.mem_append,List.mem_map]
    exact .inr ⟨f,hK.sub.subset hf,by rw [ef]⟩)
   rw [h1,h2]
  refine⟨hk1,keep_late hK hckp s hterm,fun i=>?_⟩
  show (if getI (Zaj q) s<0 then (inp i).getD (-1 - getI (Zaj q) s).toNat vz else fv (φ (getI (Zaj q) s).toNat) i)=if getI (Zaj p) s<0 then (inp i).getD (-1 - getI (Zaj p) s).toNat vz else fv (getI (Zaj p) s).toNat i
  rcases Zjy hks s hsome with ⟨j,hj,ej,hnf⟩ | ⟨k,hk,ek⟩
  ·have n1:=Zjz hckp hks j hj
   have n2:=Zjz hckq hks' j (by rw [hK.ins];exact hj)
   have e3:(q.ins[j]'(by rw [hK.ins];exact hj)).name=s:=by
    rw [← ej]
    have:=hK.ins
    simp only [this]
   rw [ej] at n1
   rw [e3] at n2
   rw [n1,n2,if_pos (by omega),if_pos (by omega)]
  obtain⟨f,hf,ef⟩:=List.mem_map.1 (hterm (List.mem_map.2 ⟨p.fl[k],List.getElem_mem hk,ek⟩))
  obtain⟨k',hk',rfl⟩:=List.mem_iff_getElem.1 hf
  obtain⟨h2,e2⟩:=hφ k' hk'
  have n2:=Zey hckq k' hk'
  have n1:=Zey hckp (φ k') h2
  rw [e2,ef] at n1
  rw [ef] at n2
  rw [n1,n2,if_neg (by omega),if_neg (by omega)]
  simp) i
 rw [renE_none] at this
 exact this
theorem run_drop {p:Pr} (hp:(Za0 p).1=0) (nb:Bool) (ni:Int) (ins:List (List Vl)):runM nb ni (Zb8 p) ins=runM nb ni p ins:=by
 obtain⟨l,ho,_⟩:=Zbx hp
 have hn:=Zct (Zbe ho).1
 refine run_keep hp (Zi5 hn) (fun f hf=>?_) nb ni ins
 cases hd:Zax f.e with
 | false=>exact .inr rfl
 | true=>
  left
  refine (Zd1 p f.name).2 ((Zeg p).1 f.name ?_ (List.mem_map_of_mem hf))
  unfold Zd8
  exact List.mem_append_left _ (List.mem_append_right _ (List.mem_map.2 ⟨f,List.mem_filter.2 ⟨hf,hd⟩,rfl⟩))
end Go.Proofs.YtofameafdnkijaaGreatDoor
