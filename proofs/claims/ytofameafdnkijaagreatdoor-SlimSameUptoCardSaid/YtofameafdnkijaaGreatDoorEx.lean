/- Terms and lists of terms in known memory. -/
import Derived.Test.YtofameafdnkijaaGreatDoorRg
import Derived.Test.YtofameafdnkijaaGreatDoorMx
set_option linter.all false
namespace Go.Proofs.YtofameafdnkijaaGreatDoor
open Go.RowKit Mx
mutual
def ExAt (H:Kn):Ex→(Nat→Option Value)→Prop
 | .mk o n s l,f=>f 0=some (.string o)∧f 1=some (.int .i64 n)∧f 2=some (.string s)∧
   ((l=[]∧∃ a cap,f 3=some (.slice a 0 cap))∨∃ b off cap,f 3=some (.slice (some ⟨b,off,none⟩) l.length cap)∧l.length≤cap∧cap≤maxLen∧Zcw H l b off)
def Zcw (H:Kn):List Ex→Nat→Nat→Prop
 | [],_,_=>True
 | e :: l,b,off=>ExAt H e (fun j=>H.cell b (off+j))∧Zcw H l b (off+4)
end
theorem exsAt_of {H H':Kn} {l:List Ex} (hle:H.le H') (h:∀ e∈l,∀ f g,(∀ j x,f j=some x→g j=some x)→ExAt H e f→ExAt H' e g):∀ b off,Zcw H l b off→Zcw H' l b off:=by
 induction l with
 | nil=>intro b off _;simp only [Zcw]
 | cons e l ih=>
  intro b off hh
  simp only [Zcw] at hh ⊢
  exact⟨h e (List.mem_cons_self ..) _ _ (fun j x hx=>hle.cell hx) hh.1,ih (fun x hx=>h x (List.mem_cons_of_mem _ hx)) b (off+4) hh.2⟩
theorem ExAt.le {H H':Kn} (hle:H.le H'):∀ (e:Ex) (f g:Nat→Option Value),(∀ j x,f j=some x→g j=some x)→ExAt H e f→ExAt H' e g:=by
 refine Ex.ind (P:=fun e=>∀ f g,(∀ j x,f j=some x→g j=some x)→ExAt H e f→ExAt H' e g) fun o n s l ih f g hfg h=>?_
 simp only [ExAt] at h ⊢
 obtain⟨h0,h1,h2,h3⟩:=h
 refine⟨hfg _ _ h0,hfg _ _ h1,hfg _ _ h2,?_⟩
 rcases h3 with ⟨hl,a,cap,h3⟩ | ⟨b,off,cap,h3,h4,h5,h6⟩
 ·exact .inl ⟨hl,a,cap,hfg _ _ h3⟩
 exact .inr ⟨b,off,cap,hfg _ _ h3,h4,h5,exsAt_of hle ih b off h6⟩
theorem Zcw.le {H H':Kn} (hle:H.le H') {l:List Ex} {b off:Nat} (h:Zcw H l b off):Zcw H' l b off:=exsAt_of hle (fun e _=>ExAt.le hle e) b off h
theorem Zcw.get {H:Kn}:∀ {l:List Ex} {b off:Nat},Zcw H l b off→∀ i (h:i<l.length),ExAt H l[i] (fun j=>H.cell b (off+i * 4+j))
 | [],_,_,_,i,h=>by simp at h
 | e :: l,b,off,hh,0,_=>by
  simp only [Zcw] at hh
  simpa using hh.1
 | e :: l,b,off,hh,i+1,h=>by
  simp only [Zcw] at hh
  have:=Zcw.get hh.2 i (by simpa using h)
  rw [show off+(i+1) * 4=off+4+i * 4 from by omega]
  exact this
def ExsV (H:Kn) (l:List Ex) (v:Value):Prop:=(l=[]∧∃ a cap,v = .slice a 0 cap)∨∃ b off cap,v = .slice (some ⟨b,off,none⟩) l.length cap∧l.length≤cap∧cap≤maxLen∧Zcw H l b off
def ExV (H:Kn) (e:Ex) (v:Value):Prop:=∃ u,v = .agg #[.string e.op,.int .i64 e.n,.string e.s,u]∧ExsV H e.l u
theorem ExsV.le {H H':Kn} (hle:H.le H') {l:List Ex} {v:Value} (h:ExsV H l v):ExsV H' l v:=
 h.imp id fun⟨b,off,cap,h1,h2,h3,h4⟩=>⟨b,off,cap,h1,h2,h3,h4.le hle⟩
theorem ExV.le {H H':Kn} (hle:H.le H') {e:Ex} {v:Value} (h:ExV H e v):ExV H' e v:=let ⟨u,h1,h2⟩:=h;⟨u,h1,h2.le hle⟩
theorem ExAt.cells {H:Kn} {e:Ex} {f:Nat→Option Value} (h:ExAt H e f):∃ u,f 0=some (.string e.op)∧f 1=some (.int .i64 e.n)∧f 2=some (.string e.s)∧f 3=some u∧ExsV H e.l u:=by
 obtain⟨o,n,s,l⟩:=e
 simp only [ExAt] at h
 obtain⟨h0,h1,h2,h3⟩:=h
 rcases h3 with ⟨hl,a,cap,h3⟩ | ⟨b,off,cap,h3,h4,h5,h6⟩
 ·exact⟨_,h0,h1,h2,h3,.inl ⟨hl,a,cap,rfl⟩⟩
 exact⟨_,h0,h1,h2,h3,.inr ⟨b,off,cap,rfl,h4,h5,h6⟩⟩
theorem ExAt.mk {H:Kn} {e:Ex} {f:Nat→Option Value} {u:Value} (h0:f 0=some (.string e.op)) (h1:f 1=some (.int .i64 e.n)) (h2:f 2=some (.string e.s)) (h3:f 3=some u) (hu:ExsV H e.l u):ExAt H e f:=by
 obtain⟨o,n,s,l⟩:=e
 simp only [ExAt]
 refine⟨h0,h1,h2,?_⟩
 rcases hu with ⟨hl,a,cap,rfl⟩ | ⟨b,off,cap,rfl,h4,h5,h6⟩
 ·exact .inl ⟨hl,a,cap,h3⟩
 exact .inr ⟨b,off,cap,h3,h4,h5,h6⟩
theorem ExsV.len {H:Kn} {l:List Ex} {v:Value} (h:ExsV H l v):∃ a cap,v = .slice a l.length cap:=by
 rcases h with ⟨rfl,a,cap,rfl⟩ | ⟨b,off,cap,rfl,_⟩
 ·exact⟨a,cap,rfl⟩
 exact⟨_,cap,rfl⟩
def SlV {α:Type} (H:Kn) (k:Nat) (R:α→(Nat→Option Value)→Prop) (l:List α) (v:Value):Prop:=
 (l=[]∧∃ a cap,v = .slice a 0 cap)∨∃ b off cap,v = .slice (some ⟨b,off,none⟩) l.length cap∧l.length≤cap∧cap≤maxLen∧∀ i (h:i<l.length),R l[i] (fun j=>H.cell b (off+i * k+j))
theorem SlV.le {α:Type} {H H':Kn} {k:Nat} {R R':α→(Nat→Option Value)→Prop} {l:List α} {v:Value} (h:SlV H k R l v) (hle:H.le H') (hr:∀ x f g,(∀ j u,f j=some u→g j=some u)→R x f→R' x g):SlV H' k R' l v:=
 h.imp id fun⟨b,off,cap,h1,h2,h3,h4⟩=>⟨b,off,cap,h1,h2,h3,fun i hi=>hr _ _ _ (fun j u e=>hle.cell e) (h4 i hi)⟩
theorem SlV.len {α:Type} {H:Kn} {k:Nat} {R:α→(Nat→Option Value)→Prop} {l:List α} {v:Value} (h:SlV H k R l v):∃ a cap,v = .slice a l.length cap:=by
 rcases h with ⟨rfl,a,cap,rfl⟩ | ⟨b,off,cap,rfl,_⟩
 ·exact⟨a,cap,rfl⟩
 exact⟨_,cap,rfl⟩
def StrC (s:ByteArray) (f:Nat→Option Value):Prop:=f 0=some (.string s)
def VrC (x:Vr) (f:Nat→Option Value):Prop:=f 0=some (.string x.name)∧f 1=some (.int .i64 x.kind)
def FlC (H:Kn) (x:Fl) (f:Nat→Option Value):Prop:=f 0=some (.string x.name)∧f 1=some (.int .i64 x.kind)∧ExAt H x.e fun j=>f (2+j)
abbrev Ziq (H:Kn):List ByteArray→Value→Prop:=SlV H 1 StrC
abbrev VrsV (H:Kn):List Vr→Value→Prop:=SlV H 2 VrC
abbrev FlsV (H:Kn):List Fl→Value→Prop:=SlV H 6 (FlC H)
theorem StrC.mono (x:ByteArray) (f g:Nat→Option Value) (h:∀ j u,f j=some u→g j=some u) (hx:StrC x f):StrC x g:=h _ _ hx
theorem VrC.mono (x:Vr) (f g:Nat→Option Value) (h:∀ j u,f j=some u→g j=some u) (hx:VrC x f):VrC x g:=⟨h _ _ hx.1,h _ _ hx.2⟩
theorem FlC.mono {H H':Kn} (hle:H.le H') (x:Fl) (f g:Nat→Option Value) (h:∀ j u,f j=some u→g j=some u) (hx:FlC H x f):FlC H' x g:=
 ⟨h _ _ hx.1,h _ _ hx.2.1,ExAt.le hle _ _ _ (fun j u e=>h _ _ e) hx.2.2⟩
structure PrP (H:Kn) (p:Pr) (vi vo vl va vc:Value):Prop where
 ins:VrsV H p.ins vi
 outs:Ziq H p.outs vo
 fl:FlsV H p.fl vl
 asr:ExsV H p.as va
 chk:ExsV H p.cs vc
theorem PrP.le {H H':Kn} (hle:H.le H') {p:Pr} {vi vo vl va vc:Value} (h:PrP H p vi vo vl va vc):PrP H' p vi vo vl va vc:=
 ⟨h.ins.le hle VrC.mono,h.outs.le hle StrC.mono,h.fl.le hle (FlC.mono hle),h.asr.le hle,h.chk.le hle⟩
theorem FlC.cells {H:Kn} {x:Fl} {f:Nat→Option Value} (h:FlC H x f):∃ u,f 0=some (.string x.name)∧f 1=some (.int .i64 x.kind)∧f 2=some (.string x.e.op)∧f 3=some (.int .i64 x.e.n)∧f 4=some (.string x.e.s)∧f 5=some u∧ExsV H x.e.l u:=by
 obtain⟨h0,h1,h2⟩:=h
 obtain⟨u,a,b,c,d,e⟩:=h2.cells
 exact⟨u,h0,h1,a,b,c,d,e⟩
end Go.Proofs.YtofameafdnkijaaGreatDoor
