/- Plain: LEISERSON and SAXE: what an operator made an instant ago is what it makes of what was an instant ago: no program in sight. -/
import Derived.Test.YthejomlhmdeimaaDoorFxM
import Derived.Test.YthejomlhmdeimaaDoorTo
import Derived.Test.YthejomlhmdeimaaDoorKind
import Derived.Test.YthejomlhmdeimaaDoorEof
namespace Go.Proofs.YthejomlhmdeimaaDoor
set_option maxRecDepth 100000
set_option maxHeartbeats 16000000
open Mx
mutual
def plainlyB : Ex → Bool
 | .mk o _ s l => if o = oPre ∨ o = oFby ∨ o = oArrow ∨ o = oDiv ∨ o = oMod ∨ o = oCall then false else if o = oName then decide (s = xV ∨ s = yV) else plainlyL l
def plainlyL : List Ex → Bool
 | [] => true
 | e :: l => plainlyB e && plainlyL l
end
mutual
def lateE : Ex → Ex
 | .mk o n s l => if o = oName then preE (.mk o n s l) else .mk o n s (lateEL l)
def lateEL : List Ex → List Ex
 | [] => []
 | e :: l => lateE e :: lateEL l
end
mutual
def nmsE : Ex → List Ex
 | .mk o n s l => if o = oName then [.mk o n s l] else nmsL l
def nmsL : List Ex → List Ex
 | [] => []
 | e :: l => nmsE e ++ nmsL l
end
theorem plainlyL_mem : ∀ {l : List Ex}, plainlyL l = true → ∀ e ∈ l, plainlyB e = true
 | x :: l, h, e, he => by
  simp only [plainlyL, Bool.and_eq_true] at h
  rcases List.mem_cons.1 he with rfl | he
  ·exact h.1
  ·exact plainlyL_mem h.2 e he
theorem plainly_parts {o : ByteArray} {n : Int} {s : ByteArray} {l : List Ex} (h : plainlyB (.mk o n s l) = true) : (o ≠ oPre ∧ o ≠ oFby ∧ o ≠ oArrow) ∧ (o = oName → s = xV ∨ s = yV) ∧ (o ≠ oName → ∀ e ∈ l, plainlyB e = true) := by
 simp only [plainlyB] at h
 split at h
 ·cases h
 ·rename_i ho
  simp only [not_or] at ho
  refine ⟨⟨ho.1, ho.2.1, ho.2.2.1⟩, fun e => ?_, fun e => ?_⟩
  ·rw [if_pos e] at h; simpa using h
  ·rw [if_neg e] at h; exact plainlyL_mem h
theorem lateEL_eq : ∀ l : List Ex, lateEL l = l.map lateE
 | [] => rfl
 | e :: l => by simp only [lateEL, List.map_cons, lateEL_eq l]
theorem name_leaf {ks : Env Int} {n : Int} {s : ByteArray} {l : List Ex} (h : formAll ks (.mk oName n s l) = true) : l = [] := by
 simp only [formAll, Bool.and_eq_true] at h
 have h1 := h.1.1.1
 have h2 : arity oName = some 0 := by decide
 simp only [form, Ex.op, h2, Bool.and_eq_true, Bool.or_eq_true, decide_eq_true_eq, Ex.l] at h1
 have h3 := h1.1.1
 cases l with
 | nil => rfl
 | cons a l =>
  exfalso
  rcases h3 with h3 | h3
  ·omega
  ·have := of_decide_eq_true h3
   simp only [List.length_cons] at this
   omega
def Pl (ks : Env Int) (e : Ex) : Prop := plainlyB e = true ∧ formAll ks e = true
theorem Pl.parts {ks : Env Int} {o : ByteArray} {n : Int} {s : ByteArray} {l : List Ex} (h : Pl ks (.mk o n s l)) : (o ≠ oPre ∧ o ≠ oFby ∧ o ≠ oArrow) ∧ (o = oName → (s = xV ∨ s = yV) ∧ l = []) ∧ (o ≠ oName → ∀ e ∈ l, Pl ks e) := by
 obtain ⟨h1, h2, h3⟩ := plainly_parts h.1
 refine ⟨h1, fun e => ⟨h2 e, ?_⟩, fun e x hx => ⟨h3 e x hx, (formAll_parts h.2).1 x hx⟩⟩
 subst e
 exact name_leaf h.2
theorem nms_pl {ks : Env Int} : ∀ (e : Ex), Pl ks e → ∀ x ∈ nmsE e, Pl ks x := by
 refine Ex.ind fun o n s l ih hp x hx => ?_
 obtain ⟨_, _, h5⟩ := hp.parts
 simp only [nmsE] at hx
 split at hx
 ·rw [List.mem_singleton.1 hx]; exact hp
 ·rename_i ho
  have hL : ∀ l : List Ex, (∀ e ∈ l, Pl ks e → ∀ x ∈ nmsE e, Pl ks x) → (∀ e ∈ l, Pl ks e) → ∀ x ∈ nmsL l, Pl ks x := by
   intro l
   induction l with
   | nil => intro _ _ x hx; simp [nmsL] at hx
   | cons e l ihl =>
    intro hh hpp x hx
    simp only [nmsL, List.mem_append] at hx
    rcases hx with hx | hx
    ·exact hh e (List.mem_cons_self ..) (hpp e (List.mem_cons_self ..)) x hx
    ·exact ihl (fun y hy => hh y (List.mem_cons_of_mem _ hy)) (fun y hy => hpp y (List.mem_cons_of_mem _ hy)) x hx
  exact hL l ih (h5 ho) x hx
theorem plain_memN {ks : Env Int} : ∀ (e : Ex), Pl ks e → memN e = 0 := by
 refine Ex.ind fun o n s l ih hp => ?_
 obtain ⟨⟨h1, h2, _⟩, h4, h5⟩ := hp.parts
 rw [memN_parts, if_neg (fun h => h.elim h1 h2)]
 by_cases ho : o = oName
 ·rw [(h4 ho).2]; rfl
 ·have hL : ∀ l : List Ex, (∀ e ∈ l, Pl ks e → memN e = 0) → (∀ e ∈ l, Pl ks e) → memNL l = 0 := by
   intro l
   induction l with
   | nil => intro _ _; rfl
   | cons e l ihl =>
    intro hh hpp
    simp only [memNL]
    rw [hh e (List.mem_cons_self ..) (hpp e (List.mem_cons_self ..)), ihl (fun y hy => hh y (List.mem_cons_of_mem _ hy)) (fun y hy => hpp y (List.mem_cons_of_mem _ hy))]
  rw [hL l ih (h5 ho)]
theorem plain_mems {ks : Env Int} (e : Ex) (hp : Pl ks e) (m : Nat) : memsAt m e = [] := List.eq_nil_of_length_eq_zero (by rw [memsAt_len, plain_memN e hp])
theorem late_mems {ks : Env Int} : ∀ (e : Ex), Pl ks e → memN (lateE e) = (nmsE e).length ∧ ∀ m, memsAt m (lateE e) = (nmsE e).zipIdx m := by
 refine Ex.ind fun o n s l ih hp => ?_
 obtain ⟨⟨h1, h2, _⟩, h4, h5⟩ := hp.parts
 by_cases ho : o = oName
 ·have e1 : lateE (.mk o n s l) = preE (.mk o n s l) := by rw [lateE, if_pos ho]
  have e2 : nmsE (.mk o n s l) = [.mk o n s l] := by rw [nmsE, if_pos ho]
  rw [e1, e2]
  refine ⟨by rw [pre_memN, plain_memN _ hp]; rfl, fun m => ?_⟩
  rw [pre_mems, plain_mems _ hp]
  rfl
 ·have e1 : lateE (.mk o n s l) = .mk o n s (lateEL l) := by rw [lateE, if_neg ho]
  have e2 : nmsE (.mk o n s l) = nmsL l := by rw [nmsE, if_neg ho]
  have hL : ∀ l : List Ex, (∀ e ∈ l, Pl ks e → memN (lateE e) = (nmsE e).length ∧ ∀ m, memsAt m (lateE e) = (nmsE e).zipIdx m) → (∀ e ∈ l, Pl ks e) → memNL (lateEL l) = (nmsL l).length ∧ ∀ m, memsAtL m (lateEL l) = (nmsL l).zipIdx m := by
   intro l
   induction l with
   | nil => intro _ _; exact ⟨rfl, fun _ => rfl⟩
   | cons e l ihl =>
    intro hh hpp
    obtain ⟨a1, a2⟩ := hh e (List.mem_cons_self ..) (hpp e (List.mem_cons_self ..))
    obtain ⟨b1, b2⟩ := ihl (fun y hy => hh y (List.mem_cons_of_mem _ hy)) (fun y hy => hpp y (List.mem_cons_of_mem _ hy))
    simp only [lateEL, nmsL, memNL, memsAtL, List.length_append]
    refine ⟨by rw [a1, b1], fun m => ?_⟩
    rw [a2, b2, a1, List.zipIdx_append]
  obtain ⟨a1, a2⟩ := hL l ih (h5 ho)
  rw [e1, e2]
  refine ⟨by rw [memN_parts, if_neg (fun h => h.elim h1 h2), a1]; rfl, fun m => ?_⟩
  rw [memsAt, if_neg (fun h => h.elim h1 h2), List.append_nil, a2]
theorem foldl_max_bound (b : Int) : ∀ (l : List Int) (a : Int), a ≤ b → (∀ x ∈ l, x ≤ b) → l.foldl max a ≤ b
 | [], a, h, _ => h
 | x :: l, a, h, hh => foldl_max_bound b l (max a x) (by have := hh x (List.mem_cons_self ..); omega) fun y hy => hh y (List.mem_cons_of_mem _ hy)
theorem latesOf_bound {lt : ByteArray → Int} (b : Int) : ∀ (l : List Ex), (∀ e ∈ l, lateOf lt e ≤ b) → ∀ x ∈ latesOf lt l, x ≤ b
 | [], _, x, hx => by simp [latesOf] at hx
 | e :: l, h, x, hx => by
  simp only [latesOf, List.mem_cons] at hx
  rcases hx with rfl | hx
  ·exact h e (List.mem_cons_self ..)
  ·exact latesOf_bound b l (fun y hy => h y (List.mem_cons_of_mem _ hy)) x hx
theorem late_other {lt : ByteArray → Int} {o : ByteArray} {n : Int} {s : ByteArray} {l : List Ex} (h1 : o ≠ oPre) (h2 : o ≠ oFby) (h3 : o ≠ oArrow) (h4 : o ≠ oName) : lateOf lt (.mk o n s l) = (latesOf lt l).foldl max 0 := by
 rw [lateOf, if_neg h4, if_neg h1, if_neg (fun h => h.elim h3 h2)]
theorem plain_late {ks : Env Int} {lt : ByteArray → Int} (hb : ∀ s, 0 ≤ lt s ∧ lt s ≤ 2) (hx : lt xV = 0) (hy : lt yV = 0) : ∀ (e : Ex), Pl ks e → lateOf lt e = 0 ∧ lateOf lt (lateE e) ≤ 1 := by
 refine Ex.ind fun o n s l ih hp => ?_
 obtain ⟨⟨h1, h2, h3⟩, h4, h5⟩ := hp.parts
 by_cases ho : o = oName
 ·have e0 : lateOf lt (.mk o n s l) = 0 := by
   rw [lateOf, if_pos ho]
   rcases (h4 ho).1 with rfl | rfl
   ·exact hx
   ·exact hy
  refine ⟨e0, ?_⟩
  rw [show lateE (.mk o n s l) = preE (.mk o n s l) from by rw [lateE, if_pos ho], pre_late, e0]
  omega
 ·rw [show lateE (.mk o n s l) = .mk o n s (lateEL l) from by rw [lateE, if_neg ho], late_other h1 h2 h3 ho, late_other h1 h2 h3 ho]
  constructor
  ·have := foldl_max_bound 0 (latesOf lt l) 0 (by omega) (latesOf_bound 0 l fun e he => by rw [(ih e he (h5 ho e he)).1]; omega)
   have hlb := (late_bound lt hb (.mk o n s l)).1
   rw [late_other h1 h2 h3 ho] at hlb
   omega
  ·refine foldl_max_bound 1 _ 0 (by omega) (latesOf_bound 1 _ fun e he => ?_)
   rw [lateEL_eq] at he
   obtain ⟨x, hx', rfl⟩ := List.mem_map.1 he
   exact (ih x hx' (h5 ho x hx')).2
def pv (R : REnv) (q : List Vl) (e : Ex) : Vl := (evalM R ⟨false, [], q, []⟩ 0 e).1
theorem val_other {R : REnv} {r r' : Inst} {o : ByteArray} {n : Int} {s : ByteArray} {m m' : Nat} {t t' : Bool} {vs : List Vl} (h1 : o ≠ oPre) (h2 : o ≠ oFby) (h3 : o ≠ oArrow) (h4 : o ≠ oName) : (valM R r m o n s t vs).1 = (valM R r' m' o n s t' vs).1 := by
 unfold valM
 simp only [h1, h2, h3, h4, if_false]
 repeat' split
 all_goals rfl
theorem plain_eval {R : REnv} {ks : Env Int} (hb : ∀ s, 0 ≤ R.lt s ∧ R.lt s ≤ 2) (hx : R.lt xV = 0) (hy : R.lt yV = 0) (nx : R.nm xV < 0) (ny : R.nm yV < 0) {r r' : Inst} (hi : r.inp = r'.inp) : ∀ (e : Ex), Pl ks e → ∀ m m', (evalM R r m e).1 = (evalM R r' m' e).1 := by
 refine Ex.ind fun o n s l ih hp m m' => ?_
 obtain ⟨⟨h1, h2, h3⟩, h4, h5⟩ := hp.parts
 have hl0 := (plain_late hb hx hy _ hp).1
 simp only [evalM]
 rw [hl0]
 simp only [Int.lt_irrefl, decide_false, Bool.and_false, Bool.false_eq_true, if_false]
 rw [if_neg h1, if_neg h2]
 by_cases ho : o = oName
 ·have hn : R.nm s < 0 := by
   rcases (h4 ho).1 with rfl | rfl
   ·exact nx
   ·exact ny
  subst ho
  have := ops_ne
  unfold valM
  rw [if_neg (by decide), if_neg (by decide), if_pos rfl, if_pos hn, if_neg (by decide), if_neg (by decide), if_pos rfl, if_pos hn, hi]
 ·have hL : ∀ l : List Ex, (∀ e ∈ l, Pl ks e → ∀ m m', (evalM R r m e).1 = (evalM R r' m' e).1) → (∀ e ∈ l, Pl ks e) → ∀ m m', (evalsM R r m l.length l).1 = (evalsM R r' m' l.length l).1 := by
   intro l
   induction l with
   | nil => intro _ _ m m'; rfl
   | cons e l ihl =>
    intro hh hpp m m'
    simp only [List.length_cons, evalsM]
    rw [hh e (List.mem_cons_self ..) (hpp e (List.mem_cons_self ..)) m m', ihl (fun y hy => hh y (List.mem_cons_of_mem _ hy)) (fun y hy => hpp y (List.mem_cons_of_mem _ hy)) _ (m' + memN e)]
  rw [hL l ih (h5 ho) m m']
  exact val_other h1 h2 h3 ho
theorem late_eval {R : REnv} {ks : Env Int} (hb : ∀ s, 0 ≤ R.lt s ∧ R.lt s ≤ 2) (hx : R.lt xV = 0) (hy : R.lt yV = 0) (nx : R.nm xV < 0) (ny : R.nm yV < 0) {r : Inst} (hf : r.first = false) (q : List Vl) : ∀ (e : Ex), Pl ks e → ∀ m, (∀ j (h : j < (nmsE e).length), r.mem.getD (m + j) vz = pv R q (nmsE e)[j]) → (evalM R r m (lateE e)).1 = pv R q e := by
 refine Ex.ind fun o n s l ih hp m hm => ?_
 obtain ⟨⟨h1, h2, h3⟩, h4, h5⟩ := hp.parts
 by_cases ho : o = oName
 ·have e2 : nmsE (.mk o n s l) = [.mk o n s l] := by rw [nmsE, if_pos ho]
  rw [show lateE (.mk o n s l) = preE (.mk o n s l) from by rw [lateE, if_pos ho], pre_eval _ _ _ _ hf]
  have := hm 0 (by rw [e2]; simp)
  simp only [e2, List.getElem_cons_zero, Nat.add_zero] at this
  rw [show memNL [.mk o n s l] = 0 from by simp [memNL, plain_memN _ hp], Nat.add_zero, this]
 ·have e2 : nmsE (.mk o n s l) = nmsL l := by rw [nmsE, if_neg ho]
  rw [show lateE (.mk o n s l) = .mk o n s (lateEL l) from by rw [lateE, if_neg ho]]
  have hL : ∀ l : List Ex, (∀ e ∈ l, Pl ks e → ∀ m, (∀ j (h : j < (nmsE e).length), r.mem.getD (m + j) vz = pv R q (nmsE e)[j]) → (evalM R r m (lateE e)).1 = pv R q e) → (∀ e ∈ l, Pl ks e) →
    ∀ m, (∀ j (h : j < (nmsL l).length), r.mem.getD (m + j) vz = pv R q (nmsL l)[j]) → (evalsM R r m (lateEL l).length (lateEL l)).1 = (evalsM R ⟨false, [], q, []⟩ 0 l.length l).1 := by
   intro l
   induction l with
   | nil => intro _ _ m _; rfl
   | cons e l ihl =>
    intro hh hpp m hmm
    have hpe := hpp e (List.mem_cons_self ..)
    simp only [lateEL, List.length_cons, evalsM]
    simp only [nmsL] at hmm
    rw [hh e (List.mem_cons_self ..) hpe m (fun j h => by
     have := hmm j (by simp; omega)
     rw [List.getElem_append_left h] at this
     exact this), ihl (fun y hy => hh y (List.mem_cons_of_mem _ hy)) (fun y hy => hpp y (List.mem_cons_of_mem _ hy)) (m + memN (lateE e)) (fun j h => by
     have := hmm ((nmsE e).length + j) (by simp; omega)
     rw [List.getElem_append_right (by omega)] at this
     rw [(late_mems e hpe).1, Nat.add_assoc]
     simpa using this)]
    rw [plain_memN e hpe]
    rfl
  have hvs := hL l ih (h5 ho) m (fun j h => by
   have := hm j (by rw [e2]; exact h)
   simpa only [e2] using this)
  unfold pv
  simp only [evalM]
  rw [hf]
  simp only [Bool.false_and, Bool.false_eq_true, if_false]
  rw [if_neg h1, if_neg h2, if_neg h1, if_neg h2, hvs]
  exact val_other h1 h2 h3 ho
theorem round_out (s : ByteArray) : ∀ (l : List Fl) (late : ByteArray → Int) (b : Bool), (∀ f ∈ l, f.name ≠ s) → (namesRound l late b).1 s = late s
 | [], late, b, _ => rfl
 | f :: l, late, b, h => by
  simp only [namesRound]
  split
  ·rw [round_out s l _ _ fun g hg => h g (List.mem_cons_of_mem _ hg)]
   unfold setL
   rw [if_neg (fun e => h f (List.mem_cons_self ..) e.symm)]
  ·exact round_out s l _ _ fun g hg => h g (List.mem_cons_of_mem _ hg)
theorem namesN_out (s : ByteArray) (l : List Fl) (h : ∀ f ∈ l, f.name ≠ s) : ∀ (f : Nat) (late : ByteArray → Int), namesN l f late s = late s
 | 0, late => rfl
 | f + 1, late => by
  rw [namesN]
  split
  ·rw [namesN_out s l h f, round_out s l late false h]
  ·rw [round_out s l late false h]
theorem pair_late (kind : Int) (A B : Ex) : namesM (pairP kind A B) xV = 0 ∧ namesM (pairP kind A B) yV = 0 := by
 have h : aV ≠ xV ∧ bV ≠ xV ∧ aV ≠ yV ∧ bV ≠ yV := by decide
 constructor <;> exact namesN_out _ _ (fun f hf => by
  simp only [pairP, List.mem_cons, List.not_mem_nil, or_false] at hf
  rcases hf with rfl | rfl
  ·first | exact h.1 | exact h.2.2.1
  ·first | exact h.2.1 | exact h.2.2.2) _ _
theorem getD_app_left {l r : List Vl} {j : Nat} (h : j < l.length) : (l ++ r).getD j vz = l.getD j vz := by simp [List.getD_eq_getElem?_getD, List.getElem?_append_left h]
theorem getD_app_right {l r : List Vl} {M j : Nat} (h : l.length = M) : (l ++ r).getD (M + j) vz = r.getD j vz := by simp [List.getD_eq_getElem?_getD, List.getElem?_append_right, ← h]
theorem getD_map {α : Type} (f : α → Vl) (l : List α) (j : Nat) (h : j < l.length) : (l.map f).getD j vz = f l[j] := by simp [List.getD_eq_getElem?_getD, h]
def RtP (R : REnv) (a e : Ex) (first : Bool) (mem : List Vl) : Prop :=
 (∀ j, j < memN a → mem.getD j vz = mem.getD (memN a + 1 + j) vz) ∧ (first = false → ∃ q, mem.getD (memN a) vz = pv R q e ∧ ∀ j (h : j < (nmsE e).length), mem.getD (memN a + 1 + memN a + j) vz = pv R q (nmsE e)[j])
theorem retimes_same {kind : Int} (hk : kind = 1 ∨ kind = 2) {a e : Ex} (hpl : plainlyB e = true) (h : (checkM (pairP kind (arrE a (preE e)) (arrE a (lateE e)))).1 = 0) (nb : Bool) (ni : Int) (ins : List (List Vl)) :
  ∀ k ∈ runM nb ni (pairP kind (arrE a (preE e)) (arrE a (lateE e))) ins, k.trap = true ∨ ∃ v, k.out = [v, v] := by
 obtain ⟨ks, ord, hks, ho⟩ := check_kinds h
 obtain ⟨k1, k2, f1, f2⟩ := pair_kinds h hks
 have lxy := pair_late kind (arrE a (preE e)) (arrE a (lateE e))
 obtain ⟨_, _, nx, ny⟩ := pair_nm kind (arrE a (preE e)) (arrE a (lateE e))
 have hlb := (namesM_fix (pairP kind (arrE a (preE e)) (arrE a (lateE e)))).1
 unfold runM
 rw [hks, ho]
 dsimp only
 generalize hlt : namesM (pairP kind (arrE a (preE e)) (arrE a (lateE e))) = lt at *
 generalize hnm : getI (nmEnv (pairP kind (arrE a (preE e)) (arrE a (lateE e)))) = nm at *
 obtain ⟨R, hR⟩ : ∃ R : REnv, R = ⟨ks, lt, nm, nb, ni⟩ := ⟨_, rfl⟩
 rw [← hR]
 have hRlt : R.lt = lt := by rw [hR]
 have hRnm : R.nm = nm := by rw [hR]
 have hRks : R.ks = ks := by rw [hR]
 have hfa := sub_form f1 a (by simp)
 have hfe : formAll ks e = true := sub_form (sub_form f1 (preE e) (by simp)) e (by simp)
 have hp : Pl ks e := ⟨hpl, hfe⟩
 have he0 := plain_memN e hp
 have hme := plain_mems e hp
 obtain ⟨hl1, hl2⟩ := late_mems e hp
 have hMA : memN (arrE a (preE e)) = memN a + 1 := by rw [arr_memN, pre_memN, he0]
 have hb : ∀ s, 0 ≤ R.lt s ∧ R.lt s ≤ 2 := by rw [hRlt]; exact hlb
 have hx : R.lt xV = 0 := by rw [hRlt]; exact lxy.1
 have hy : R.lt yV = 0 := by rw [hRlt]; exact lxy.2
 have hnx : R.nm xV < 0 := by rw [hRnm, nx]; decide
 have hny : R.nm yV < 0 := by rw [hRnm, ny]; decide
 obtain ⟨le0, le1⟩ := plain_late hb hx hy e hp
 have hmsA : memsAt 0 (arrE a (preE e)) = memsAt 0 a ++ [(e, memN a)] := by
  rw [arr_mems]
  simp [memsAtL, pre_mems, hme]
 have hmsB : memsAt (memN a + 1) (arrE a (lateE e)) = memsAt (memN a + 1) a ++ (nmsE e).zipIdx (memN a + 1 + memN a) := by
  rw [arr_mems]
  simp [memsAtL, hl2]
 have hagr : ∀ (r : Inst), (∀ j, j < memN a → r.mem.getD j vz = r.mem.getD (memN a + 1 + j) vz) → ∀ x : Ex × Nat, formAll ks x.1 = true → x.2 + memN x.1 ≤ memN a → evalM R r (x.2 + (memN a + 1)) x.1 = evalM R r x.2 x.1 := fun r hr x hfx hfit =>
  eval_agree (at_ := fun s => some (R.nm s).toNat) (fun s _ _ => rfl) rfl rfl x.1 hfx _ _ (fun i hi => by
   have := hr (x.2 + i) (by omega)
   rw [this]
   congr 1
   omega) (fun _ _ => rfl)
 refine runGo_inv (P := RtP R a e) (Q := fun k => ∃ v, k.out = [v, v]) (fun first mem inp hP => ?_) ins true _ ?_
 ·obtain ⟨hP1, hP2⟩ := hP
  refine (pair_tick h hks ho R (by rw [hRnm, hnm]) first mem inp).imp id fun ⟨N, h1, h2⟩ => ⟨?_, ?_⟩
  ·rw [hMA] at h1
   have he : (evalM R ⟨first, mem, inp, N⟩ (memN a + 1) (arrE a (lateE e))).1 = (evalM R ⟨first, mem, inp, N⟩ 0 (arrE a (preE e))).1 := by
    rw [arr_eval, arr_eval, arr_late, arr_late, pre_late, le0]
    rw [if_neg (show ¬ lateOf R.lt (lateE e) = 2 from by omega), if_neg (show ¬ min 2 ((0 : Int) + 1) = 2 from by decide), hRks, k1, k2]
    split
    ·rfl
    ·split
     ·have := hagr ⟨first, mem, inp, N⟩ hP1 (a, 0) hfa (by simp)
      dsimp only at this
      rw [Nat.zero_add] at this
      rw [this]
     ·rename_i hf
      have hf' : first = false := by simpa using hf
      obtain ⟨q, q1, q2⟩ := hP2 hf'
      rw [late_eval hb hx hy hnx hny (by simpa using hf) q e hp _ q2, pre_eval _ _ _ _ (by simpa using hf), ← q1]
      simp [memNL, he0]
   rw [h1, he]
   exact ⟨_, rfl⟩
  ·rw [hMA, hmsA, hmsB] at h2
   rw [h2]
   have hla : (memsAt 0 a).length = memN a := memsAt_len a 0
   have hla2 : (memsAt (memN a + 1) a).length = memN a := memsAt_len a _
   simp only [List.map_append, List.map_cons, List.map_nil]
   refine ⟨fun j hj => ?_, fun _ => ⟨inp, ?_, fun j hj => ?_⟩⟩
   ·rw [getD_app_left (by simp; omega), getD_app_left (by simpa [hla] using hj), getD_app_right (by simp [hla]), getD_app_left (by simpa [hla2] using hj), getD_map _ _ _ (by omega), getD_map _ _ _ (by omega)]
    obtain ⟨g1, g2, g3⟩ := memsAt_fit a hfa 0 _ (List.getElem_mem (show j < (memsAt 0 a).length by omega))
    have e0 := memsAt_shift a 0 (memN a + 1)
    rw [Nat.zero_add] at e0
    have e1 : (memsAt (memN a + 1) a)[j]'(by omega) = (((memsAt 0 a)[j]'(by omega)).1, ((memsAt 0 a)[j]'(by omega)).2 + (memN a + 1)) := by
     simp only [e0, List.getElem_map]
    rw [e1]
    dsimp only
    rw [hagr ⟨first, mem, inp, N⟩ hP1 _ g3 (by omega)]
   ·rw [getD_app_left (by simp [hla]), show memN a = memN a + 0 from rfl, getD_app_right (by simp [hla])]
    exact plain_eval (r := ⟨first, mem, inp, N⟩) (r' := ⟨false, [], inp, []⟩) hb hx hy hnx hny rfl e hp _ _
   ·rw [show memN a + 1 + memN a + j = memN a + 1 + (memN a + j) from by omega, getD_app_right (by simp [hla]), getD_app_right (by simp [hla2]), getD_map _ _ _ (by simpa using hj)]
    rw [List.getElem_zipIdx]
    exact plain_eval (r := ⟨first, mem, inp, N⟩) (r' := ⟨false, [], inp, []⟩) hb hx hy hnx hny rfl _ (nms_pl e hp _ (List.getElem_mem hj)) _ _
 ·refine ⟨fun j hj => ?_, fun h => by cases h⟩
  have e0 : memNdsL 0 (pairP kind (arrE a (preE e)) (arrE a (lateE e))).terms = memNds 0 (arrE a (preE e)) ++ memNds (memN a + 1) (arrE a (lateE e)) := by
   rw [pair_terms]; simp [memNdsL, hMA]
  have eA : memNds 0 (arrE a (preE e)) = memNds 0 a ++ [(preE e, memN a)] := by
   have h0 : memNds (memN a) e = [] := List.eq_nil_of_length_eq_zero (by rw [memNds_len, he0])
   have := ops_ne
   simp [arrE, preE, memNds, memNdsL, this, h0]
  have eB : memNds (memN a + 1) (arrE a (lateE e)) = memNds (memN a + 1) a ++ memNds (memN a + 1 + memN a) (lateE e) := by
   have := ops_ne
   simp [arrE, memNds, memNdsL, this]
  have hla : (memNds 0 a).length = memN a := memNds_len a 0
  have hla2 : (memNds (memN a + 1) a).length = memN a := memNds_len a _
  unfold startM
  rw [e0, eA, eB]
  simp only [List.map_append, List.map_cons, List.map_nil]
  rw [getD_app_left (by simp; omega), getD_app_left (by simpa [hla] using hj), getD_app_right (by simp [hla]), getD_app_left (by simpa [hla2] using hj), getD_map _ _ _ (by omega), getD_map _ _ _ (by omega)]
  have e1 := congrArg (fun l : List Ex => l[j]?) (memNds_fst a 0 (memN a + 1))
  simp only [List.getElem?_map, List.getElem?_eq_getElem (show j < (memNds 0 a).length by omega), List.getElem?_eq_getElem (show j < (memNds (memN a + 1) a).length by omega), Option.map_some, Option.some.injEq] at e1
  rw [e1]
end Go.Proofs.YthejomlhmdeimaaDoor
namespace Go.Proofs.YthejomlhmdeimaaDoor
set_option maxRecDepth 100000
set_option maxHeartbeats 16000000
open Go.RowKit Mx
theorem plainly_walk (o : ByteArray) (n : Int) (s : ByteArray) (l : List Ex) : plainlyB (.mk o n s l) = (if (o.toList == [112, 114, 101]) = true ∨ (o.toList == [102, 98, 121]) = true ∨ (o.toList == [45, 62]) = true ∨ (o.toList == [47]) = true ∨ (o.toList == [109, 111, 100]) = true ∨ (o.toList == [99, 97, 108, 108]) = true then false else if (o.toList == [110, 97, 109, 101]) = true then ((s.toList == [120]) || (s.toList == [121])) else plainlyL l) := by
 rw [plainlyB]
 simp only [← eqLit]
 have h : decide (s = xV ∨ s = yV) = ((s.toList == [120]) || (s.toList == [121])) := by
  rw [Bool.eq_iff_iff]
  simp only [decide_eq_true_eq, Bool.or_eq_true, ← eqLit]
  rfl
 rw [h]
theorem late_weight : ∀ e : Ex, (lateE e).weight ≤ 2 * e.weight := by
 refine Ex.ind fun o n s l ih => ?_
 rw [lateE]
 split
 ·simp only [preE, Ex.weight, Ex.weightL, show (⟨#[]⟩ : ByteArray).size = 0 from rfl]
  omega
 ·have hL : ∀ l : List Ex, (∀ e ∈ l, (lateE e).weight ≤ 2 * e.weight) → Ex.weightL (lateEL l) ≤ 2 * Ex.weightL l := by
   intro l
   induction l with
   | nil => intro _; simp [lateEL, Ex.weightL]
   | cons e l ihl =>
    intro hh
    simp only [lateEL, Ex.weightL]
    have := hh e (List.mem_cons_self ..)
    have := ihl fun y hy => hh y (List.mem_cons_of_mem _ hy)
    omega
  have := hL l ih
  simp only [Ex.weight]
  omega
theorem plainlyL_all : ∀ l : List Ex, plainlyL l = l.all plainlyB
 | [] => rfl
 | e :: l => by simp only [plainlyL, List.all_cons, plainlyL_all l]
theorem plainly_any : ∀ (e : Ex) (v : Value) (H : Kn), ExV H e v → e.parts ≤ 1000000000000 → ∀ w : World, H.In w →
  Calls Tryd.prog 12 #[v] w fun r w' => r = .returned (.bool (plainlyB e)) ∧ Below w.heap.size w w' := by
 refine Ex.ind fun o n s l ih v H hv hp w hH => ?_
 obtain ⟨u, rfl, hu⟩ := hv
 simp only [Ex.op, Ex.n, Ex.s, Ex.l] at hu ⊢
 obtain ⟨a, cap, rfl⟩ := hu.len
 have hlp := len_partsL l
 simp only [Ex.parts] at hp
 have HU := Lib.hid hu
 have IH := Lib.hid ih
 have HW := Lib.hid (plainly_walk o n s l)
 clear hu ih
 go_enter Tryd.func12, Tryd.ntmps12
 have hb0 : Below w.heap.size w (w.alloc (.cells #[.string o, .int .i64 n, .string s, .slice a l.length cap] 24)) := (Below.refl _ _).alloc (Nat.le_refl _) _
 have hbx := heap_alloc_new w (.cells #[.string o, .int .i64 n, .string s, .slice a l.length cap] 24)
 have HB0 := Lib.hid hb0
 have HBX := Lib.hid hbx
 clear hb0 hbx
 rcases Bool.eq_false_or_eq_true (o.toList == [112, 114, 101]) with t0 | t0
 ·go_wp2_with fail
  go_ret
  exact ⟨ret_bool (by rw [HW.out]; simp [t0]), HB0.out⟩
 rcases Bool.eq_false_or_eq_true (o.toList == [102, 98, 121]) with t1 | t1
 ·go_wp2_with fail
  go_ret
  exact ⟨ret_bool (by rw [HW.out]; simp [t0, t1]), HB0.out⟩
 rcases Bool.eq_false_or_eq_true (o.toList == [45, 62]) with t2 | t2
 ·go_wp2_with fail
  go_ret
  exact ⟨ret_bool (by rw [HW.out]; simp [t0, t1, t2]), HB0.out⟩
 rcases Bool.eq_false_or_eq_true (o.toList == [47]) with t3 | t3
 ·go_wp2_with fail
  go_ret
  exact ⟨ret_bool (by rw [HW.out]; simp [t0, t1, t2, t3]), HB0.out⟩
 rcases Bool.eq_false_or_eq_true (o.toList == [109, 111, 100]) with t4 | t4
 ·go_wp2_with fail
  go_ret
  exact ⟨ret_bool (by rw [HW.out]; simp [t0, t1, t2, t3, t4]), HB0.out⟩
 rcases Bool.eq_false_or_eq_true (o.toList == [99, 97, 108, 108]) with t5 | t5
 ·go_wp2_with fail
  go_ret
  exact ⟨ret_bool (by rw [HW.out]; simp [t0, t1, t2, t3, t4, t5]), HB0.out⟩
 rcases Bool.eq_false_or_eq_true (o.toList == [110, 97, 109, 101]) with t6 | t6
 ·rcases Bool.eq_false_or_eq_true (s.toList == [120]) with u0 | u0
  ·go_wp2_with fail
   go_ret
   exact ⟨ret_bool (by rw [HW.out]; simp [t0, t1, t2, t3, t4, t5, t6, u0]), HB0.out⟩
  ·rcases Bool.eq_false_or_eq_true (s.toList == [121]) with u1 | u1
   ·go_wp2_with fail
    go_ret
    exact ⟨ret_bool (by rw [HW.out]; simp [t0, t1, t2, t3, t4, t5, t6, u0, u1]), HB0.out⟩
   ·go_wp2_with fail
    go_ret
    exact ⟨ret_bool (by rw [HW.out]; simp [t0, t1, t2, t3, t4, t5, t6, u0, u1]), HB0.out⟩
 have HL := Lib.hid (show plainlyB (.mk o n s l) = l.all plainlyB from by rw [HW.out, ← plainlyL_all]; simp [t0, t1, t2, t3, t4, t5, t6])
 clear HW
 go_wp2_with fail
 generalize w.alloc (.cells #[.string o, .int .i64 n, .string s, .slice a l.length cap] 24) = W1 at *
 have HLT := Lib.hid (Array.getElem?_eq_some_iff.1 HBX.out).1
 go_loopw [3] (fun i wr => ∃ k : Nat, i = .int .i64 k ∧ k ≤ l.length ∧ Below W1.heap.size W1 wr ∧ ∀ j (hj : j < l.length), j < k → plainlyB l[j] = true) (fun i _ => l.length - (intOf i).toNat)
 case atStart => exact ⟨0, rfl, Nat.zero_le _, Below.refl _ _, fun j _ h => by omega⟩
 case round =>
  obtain ⟨k, rfl, hk, hb, hno⟩ := hrel
  have HB := Lib.hid hb
  have HNO := Lib.hid hno
  have HBW := Lib.hid (HB0.out.trans (hb.mono HB0.out.size))
  have p3 : wr.cell? ⟨w.heap.size, 3, none⟩ = some (.slice a l.length cap) := by
   rw [hb.cell (p := ⟨w.heap.size, 3, none⟩) HLT.out]; have h := HBX.out; simp [World.cell?, h]
  clear hb hno
  by_cases hkl : k < l.length
  ·obtain ⟨b, off, ax, cx, rfl, c0, c1, c2, c3, hx⟩ := HU.out.at hkl
   have hpx : l[k].parts ≤ 1000000000000 := by have := getElem_parts l k hkl; omega
   have IX := Lib.hid (IH.out l[k] (List.getElem_mem hkl) _ H hx hpx)
   have c0 := (hH.below HBW.out).cell c0
   have c1 := (hH.below HBW.out).cell c1
   have c2 := (hH.below HBW.out).cell c2
   have c3 := (hH.below HBW.out).cell c3
   have HF := Lib.hid (show plainlyB l[k] = false → plainlyB (.mk o n s l) = false from fun h => by
    rw [HL.out, List.all_eq_false]
    exact ⟨l[k], List.getElem_mem hkl, by rw [h]; simp⟩)
   have HT := Lib.hid (show plainlyB l[k] = true → ∀ j (hj : j < l.length), j < k + 1 → plainlyB l[j] = true from fun h j hj hjk => by
    by_cases hjk' : j < k
    ·exact HNO.out j hj hjk'
    ·obtain rfl : j = k := by omega
     exact h)
   clear hx
   generalize l[k] = x at *
   go_wp2_with fail
   refine (IX.out wr (hH.below HBW.out)).mono ?_
   rintro r w3 ⟨rfl, hb3⟩
   have HB3 := Lib.hid (HB.out.trans (hb3.mono HB.out.size))
   cases hpx : plainlyB x with
   | false =>
    go_wp2_with fail
    go_ret
    exact ⟨ret_bool (HF.out hpx).symm, HB0.out.trans (HB3.out.mono HB0.out.size)⟩
   | true =>
    go_wp2_with fail
    go_roundw
    case rel => exact ⟨k + 1, by go_num, by omega, HB3.out, HT.out hpx⟩
    case measure => simp [intOf]; omega
  ·obtain rfl : k = l.length := by omega
   have hall : plainlyB (.mk o n s l) = true := by
    rw [HL.out, List.all_eq_true]
    intro x hx
    obtain ⟨j, hj, rfl⟩ := List.mem_iff_getElem.1 hx
    exact HNO.out j hj hj
   go_wp2_with fail
   go_ret
   exact ⟨ret_bool hall.symm, HBW.out⟩
theorem Tryd.infoEx1 : (Tryd.prog.info? 24).map (fun i => (i.zero, i.size, i.bytes)) = some (some (.agg #[.string ⟨#[]⟩, .int .i64 0, .string ⟨#[]⟩, .slice none 0 0]), 4, 64) := by kernel_rfl
theorem lateX_any : ∀ (e : Ex) (v : Value) (H : Kn), ExV H e v → e.parts ≤ 1000000000000 → ∀ w : World, H.In w →
  Calls Tryd.prog 13 #[v] w fun r w' => ∃ v' K, r = .returned v' ∧ ExV K (lateE e) v' ∧ Kn.Step H w K w' := by
 refine Ex.ind fun o n s l ih v H hv hp w hH => ?_
 obtain ⟨u, rfl, hu⟩ := hv
 simp only [Ex.op, Ex.n, Ex.s, Ex.l] at hu ⊢
 obtain ⟨a, cap, rfl⟩ := hu.len
 have hlp := len_partsL l
 simp only [Ex.parts] at hp
 obtain ⟨i0, hi0, hz0, hz1, hz2⟩ := info_parts Tryd.infoEx1
 have HU := Lib.hid hu
 have IH := Lib.hid ih
 clear hu ih
 rcases Bool.eq_false_or_eq_true (o.toList == [110, 97, 109, 101]) with t0 | t0
 ·have hln : lateE (.mk o n s l) = preE (.mk o n s l) := by rw [lateE, if_pos ((eqLit o [110, 97, 109, 101]).mpr t0)]
  rw [hln]
  clear hln
  go_enter Tryd.func13, Tryd.ntmps13
  go_wp2_with fail
  have hbW := below_allocs [Obj.cells #[.string o, .int .i64 n, .string s, .slice a l.length cap] 24, Obj.cells #[.string ⟨#[]⟩, .int .i64 0, .string ⟨#[]⟩, .slice none 0 0] 24] w
  have hs := heap_allocs [Obj.cells #[.string o, .int .i64 n, .string s, .slice a l.length cap] 24, Obj.cells #[.string ⟨#[]⟩, .int .i64 0, .string ⟨#[]⟩, .slice none 0 0] 24] w 1 (by simp only [List.length_cons, List.length_nil]; omega)
  have hz := size_allocs [Obj.cells #[.string o, .int .i64 n, .string s, .slice a l.length cap] 24, Obj.cells #[.string ⟨#[]⟩, .int .i64 0, .string ⟨#[]⟩, .slice none 0 0] 24] w
  simp only [List.foldl_cons, List.foldl_nil, List.length_cons, List.length_nil] at hbW hs hz
  generalize (w.alloc (.cells #[.string o, .int .i64 n, .string s, .slice a l.length cap] 24)).alloc (.cells #[.string ⟨#[]⟩, .int .i64 0, .string ⟨#[]⟩, .slice none 0 0] 24) = W0 at *
  have hs : W0.heap[w.heap.size + 1]? = some (.cells #[.string ⟨#[]⟩, .int .i64 0, .string ⟨#[]⟩, .slice none 0 0] 24 (0, 0)) := hs
  have HBW := Lib.hid hbW
  have HRX := Lib.hid hs
  have HZ := Lib.hid hz
  clear hbW hs hz
  refine (one_any oPre (.mk o n s l) _ H ⟨_, rfl, HU.out⟩ W0 (hH.below HBW.out)).mono ?_
  rintro r w3 ⟨v, K, rfl, hv, hst⟩
  obtain ⟨u2, rfl, hu2⟩ := hv
  obtain ⟨ax2, cx2, rfl⟩ := hu2.len
  simp only [Ex.op, Ex.n, Ex.s, Ex.l, List.length_cons, List.length_nil, Nat.zero_add] at hu2 ⊢
  have hKR : K (w.heap.size + 1) = none := by rw [hst.fresh _ (by have := HZ.out; omega)]; exact hH.isNone (by omega)
  have hR1 := (hst.below.block (w.heap.size + 1) (by have := HZ.out; omega)).trans HRX.out
  obtain ⟨r0, r1, r2, r3, f0, f1, f2, f3, _⟩ := cells4_of hR1
  have hR2 := set4_of hR1 (.string oPre) (.int .i64 0) (.string ⟨#[]⟩) (.slice ax2 1 cx2)
  have HR2 := Lib.hid hR2
  have hstep : Kn.Step H w K ((((w3.setCell ⟨w.heap.size + 1, 0, none⟩ (.string oPre)).setCell ⟨w.heap.size + 1, 1, none⟩ (.int .i64 0)).setCell ⟨w.heap.size + 1, 2, none⟩ (.string ⟨#[]⟩)).setCell ⟨w.heap.size + 1, 3, none⟩ (.slice ax2 1 cx2)) := by
   have hbw : Below w.heap.size w w3 := HBW.out.trans (hst.below.mono HBW.out.size)
   refine ⟨hst.le, fun b hb => hst.fresh b (Nat.lt_of_lt_of_le hb HBW.out.size), ?_, ?_⟩
   ·exact (((hst.isin.setCell (a := ⟨w.heap.size + 1, 0, none⟩) hKR _).setCell (a := ⟨w.heap.size + 1, 1, none⟩) hKR _).setCell (a := ⟨w.heap.size + 1, 2, none⟩) hKR _).setCell (a := ⟨w.heap.size + 1, 3, none⟩) hKR _
   ·exact (((hbw.setCell (p := ⟨w.heap.size + 1, 0, none⟩) (Nat.le_succ _) _).setCell (p := ⟨w.heap.size + 1, 1, none⟩) (Nat.le_succ _) _).setCell (p := ⟨w.heap.size + 1, 2, none⟩) (Nat.le_succ _) _).setCell (p := ⟨w.heap.size + 1, 3, none⟩) (Nat.le_succ _) _
  have HST := Lib.hid hstep
  have HV := Lib.hid hu2
  clear hstep hu2 hst hR1 hR2 hKR HRX HBW HZ
  go_wp2_with fail
  obtain ⟨e0, e1, e2, e3, _⟩ := cells4_of HR2.out
  refine bodyPost_ret (v := .agg #[.string oPre, .int .i64 0, .string ⟨#[]⟩, .slice ax2 1 cx2]) (by simp [results, Tryd.results13, go_sem, e0, e1, e2, e3]) rfl ?_
  exact ⟨_, K, rfl, ⟨_, rfl, HV.out⟩, HST.out⟩
 have hln : lateE (.mk o n s l) = .mk o n s (lateEL l) := by rw [lateE, if_neg (fun h => by have := (eqLit o [110, 97, 109, 101]).mp h; rw [this] at t0; cases t0)]
 rw [hln]
 clear hln
 have HLL := Lib.hid (show (lateEL l).length = l.length from by rw [lateEL_eq, List.length_map])
 go_enter Tryd.func13, Tryd.ntmps13
 go_wp2_with fail
 have hW0 : Below w.heap.size w (((w.alloc (.cells #[.string o, .int .i64 n, .string s, .slice a l.length cap] 24)).alloc (.cells #[.string ⟨#[]⟩, .int .i64 0, .string ⟨#[]⟩, .slice none 0 0] 24)).alloc (.cells #[.string o, .int .i64 n, .string s, .slice none 0 0] 24)) :=
  (((Below.refl _ _).alloc (Nat.le_refl _) _).alloc (by simp) _).alloc (by simp; omega) _
 have hP0 : (((w.alloc (.cells #[.string o, .int .i64 n, .string s, .slice a l.length cap] 24)).alloc (.cells #[.string ⟨#[]⟩, .int .i64 0, .string ⟨#[]⟩, .slice none 0 0] 24)).alloc (.cells #[.string o, .int .i64 n, .string s, .slice none 0 0] 24)).heap[w.heap.size]? = some (.cells #[.string o, .int .i64 n, .string s, .slice a l.length cap] 24 (0, 0)) := by
  rw [Below.heap_alloc _ _ _ (by simp; omega), Below.heap_alloc _ _ _ (by simp)]; exact heap_alloc_new _ _
 have hR0 : (((w.alloc (.cells #[.string o, .int .i64 n, .string s, .slice a l.length cap] 24)).alloc (.cells #[.string ⟨#[]⟩, .int .i64 0, .string ⟨#[]⟩, .slice none 0 0] 24)).alloc (.cells #[.string o, .int .i64 n, .string s, .slice none 0 0] 24)).heap[w.heap.size + 1]? = some (.cells #[.string ⟨#[]⟩, .int .i64 0, .string ⟨#[]⟩, .slice none 0 0] 24 (0, 0)) := by
  rw [Below.heap_alloc _ _ _ (by simp), show w.heap.size + 1 = (w.alloc (.cells #[.string o, .int .i64 n, .string s, .slice a l.length cap] 24)).heap.size from by simp]; exact heap_alloc_new _ _
 have hB0 : (((w.alloc (.cells #[.string o, .int .i64 n, .string s, .slice a l.length cap] 24)).alloc (.cells #[.string ⟨#[]⟩, .int .i64 0, .string ⟨#[]⟩, .slice none 0 0] 24)).alloc (.cells #[.string o, .int .i64 n, .string s, .slice none 0 0] 24)).heap[w.heap.size + 1 + 1]? = some (.cells #[.string o, .int .i64 n, .string s, .slice none 0 0] 24 (0, 0)) := by
  rw [show w.heap.size + 1 + 1 = ((w.alloc (.cells #[.string o, .int .i64 n, .string s, .slice a l.length cap] 24)).alloc (.cells #[.string ⟨#[]⟩, .int .i64 0, .string ⟨#[]⟩, .slice none 0 0] 24)).heap.size from by simp]; exact heap_alloc_new _ _
 generalize (((w.alloc (.cells #[.string o, .int .i64 n, .string s, .slice a l.length cap] 24)).alloc (.cells #[.string ⟨#[]⟩, .int .i64 0, .string ⟨#[]⟩, .slice none 0 0] 24)).alloc (.cells #[.string o, .int .i64 n, .string s, .slice none 0 0] 24)) = W0 at *
 have HS0 := Lib.hid (show ExO 24 H W0 W0 (w.heap.size + 1 + 1) (.mk o n s (lateEL l)) 0 (.slice none 0 0) [] H from
  ⟨Kn.le_refl H, fun _ _ => rfl, hH.below hW0, Below.refl _ _, hB0, World.ownsRow_nil _ _ _ _, rfl, fun g hg => by simp [Value.ownBlock] at hg⟩)
 have HW0 := Lib.hid hW0
 have HP0 := Lib.hid hP0
 have HR0 := Lib.hid hR0
 have hHB : H (w.heap.size + 1 + 1) = none := hH.isNone (by omega)
 have hHR : H (w.heap.size + 1) = none := hH.isNone (by omega)
 clear hW0 hP0 hR0 hB0
 go_loopw [4] (fun i wr => ∃ (k : Nat) (u : Value) (xs : List Value) (K : Kn), i = .int .i64 k ∧ k ≤ l.length ∧ ExO 24 H W0 wr (w.heap.size + 1 + 1) (.mk o n s (lateEL l)) k u xs K) (fun i _ => l.length - (intOf i).toNat)
 case atStart => exact ⟨0, _, _, _, rfl, Nat.zero_le _, HS0.out⟩
 case round =>
  obtain ⟨k, u, xs, K, rfl, hk, hS⟩ := hrel
  have HS := Lib.hid hS
  clear hS
  have p3 : wr.cell? ⟨w.heap.size, 3, none⟩ = some (.slice a l.length cap) := by
   rw [HS.out.below.cell (p := ⟨w.heap.size, 3, none⟩) (by show w.heap.size < _; omega)]; simp [World.cell?, HP0.out]
  by_cases hkl : k < l.length
  ·obtain ⟨b, off, ax, cx, rfl, c0, c1, c2, c3, hx⟩ := HU.out.at hkl
   have hxe : ∃ x, l[k] = x := ⟨_, rfl⟩
   obtain ⟨x, hxe⟩ := hxe
   have hpx : x.parts ≤ 1000000000000 := by have := getElem_parts l k hkl; rw [hxe] at this; omega
   have HYL := Lib.hid (show k < (Ex.mk o n s (lateEL l)).l.length from by show k < (lateEL l).length; rw [HLL.out]; exact hkl)
   obtain ⟨y, hye⟩ : ∃ y, (lateEL l)[k]'HYL.out = y := ⟨_, rfl⟩
   have hyx : lateE x = y := by
    rw [← hye, ← hxe]
    simp only [lateEL_eq, List.getElem_map]
   have HYE := Lib.hid hye
   have hmem : x ∈ l := by rw [← hxe]; exact List.getElem_mem hkl
   rw [hxe] at c0 c1 c2 c3 hx
   have c0 := HS.out.isin.cell (HS.out.le.cell c0)
   have c1 := HS.out.isin.cell (HS.out.le.cell c1)
   have c2 := HS.out.isin.cell (HS.out.le.cell c2)
   have c3 := HS.out.isin.cell (HS.out.le.cell c3)
   have hx := hx.le HS.out.le
   have q3 : wr.drew.cell? ⟨w.heap.size + 1 + 1, 3, none⟩ = some u := HS.out.cells.2.2.2
   have hSD := HS.out.drew
   have IX := Lib.hid (IH.out x hmem _ K hx hpx _ hSD.isin)
   rw [hyx] at IX
   clear hxe hye hyx
   go_wp2_with fail
   go_region_law (first | (go_simp; go_at_call 13; refine IX.out.mono ?_; rintro r wc ⟨v', K2, rfl, hv2, hst⟩; obtain ⟨u2, rfl, hu2⟩ := hv2; obtain ⟨ax2, cx2, rfl⟩ := hu2.len; have hS2 := ExO.next hSD hst; have q5 := hS2.cells.2.2.2; have q6 := fun o => (hS2.alloc o).cells.2.2.2) | (refine step_append_lies _ (by rfl) _ _ _ (by rfl) (w.heap.size + 1 + 1 + 1) 24 i0 _ 4 64 Tryd.underlying22 hi0 hz0 hz1 hz2 rfl (by omega) u k xs (by rfl) (ExO.row (ExO.alloc (by assumption) _)) ⟨_, 0, none⟩ 1 1 [.string y.op, .int .i64 y.n, .string y.s, .slice ax2 y.l.length cx2] (by rfl) (by rfl) (by exact World.news_of_block (heap_alloc_new _ _)) (by simp [Value.oneCell']) (by omega) (by unfold maxLen; omega) (by omega) (ExO.blt (ExO.alloc (by assumption) _)) _ rfl ?_; intro gg cap' w3 hown hgrow hat hltg; obtain ⟨hf1, hf2, hf3⟩ := ExO.step (ExO.alloc (by assumption) _) HYL.out HYE.out hHB hu2 hown hgrow hat))
   all_goals generalize World.setCell _ _ _ = W at hf3 ⊢
   all_goals go_wp2_with fail
   all_goals go_roundw
   all_goals first | exact ⟨k + 1, _, _, _, by go_num, by omega, hf3⟩ | (simp [intOf]; omega)
  ·obtain rfl : k = l.length := by omega
   obtain ⟨au, cu, rfl, _⟩ := own_len HS.out.row
   have hxs : XsAt K (List.take l.length (lateEL l)) xs := HS.out.xs
   rw [List.take_of_length_le (Nat.le_of_eq HLL.out)] at hxs
   have hrow := HS.out.row
   rw [← HLL.out] at hrow
   obtain ⟨K', hle, hin, hv, hfr⟩ := exsV_of_own HS.out.isin hrow hxs (fun g => by have h := HS.out.noR g; cases au <;> exact h)
   rw [HLL.out] at hv
   clear hrow
   obtain ⟨q0, q1, q2, q3⟩ := HS.out.cells
   simp only [Ex.op, Ex.n, Ex.s] at q0 q1 q2
   have hR1 : wr.heap[w.heap.size + 1]? = some (.cells #[.string ⟨#[]⟩, .int .i64 0, .string ⟨#[]⟩, .slice none 0 0] 24 (0, 0)) := by rw [HS.out.below.block _ (by omega)]; exact HR0.out
   obtain ⟨r0, r1, r2, r3, f0, f1, f2, f3, _⟩ := cells4_of hR1
   have hR2 := set4_of hR1 (.string o) (.int .i64 n) (.string s) (.slice au l.length cu)
   have HR2 := Lib.hid hR2
   clear hR1 hR2
   have hKR : K' (w.heap.size + 1) = none := by rw [hfr _ (by omega), HS.out.fresh _ (by omega)]; exact hHR
   have hstep : Kn.Step H w K' ((((wr.setCell ⟨w.heap.size + 1, 0, none⟩ (.string o)).setCell ⟨w.heap.size + 1, 1, none⟩ (.int .i64 n)).setCell ⟨w.heap.size + 1, 2, none⟩ (.string s)).setCell ⟨w.heap.size + 1, 3, none⟩ (.slice au l.length cu)) := by
    have hbw : Below w.heap.size w wr := HW0.out.trans (HS.out.below.mono (by omega))
    refine ⟨Kn.le_trans HS.out.le hle, fun b hb => (hfr b (by omega)).trans (HS.out.fresh b (by omega)), ?_, ?_⟩
    ·exact (((hin.setCell (a := ⟨w.heap.size + 1, 0, none⟩) hKR _).setCell (a := ⟨w.heap.size + 1, 1, none⟩) hKR _).setCell (a := ⟨w.heap.size + 1, 2, none⟩) hKR _).setCell (a := ⟨w.heap.size + 1, 3, none⟩) hKR _
    ·exact (((hbw.setCell (p := ⟨w.heap.size + 1, 0, none⟩) (Nat.le_succ _) _).setCell (p := ⟨w.heap.size + 1, 1, none⟩) (Nat.le_succ _) _).setCell (p := ⟨w.heap.size + 1, 2, none⟩) (Nat.le_succ _) _).setCell (p := ⟨w.heap.size + 1, 3, none⟩) (Nat.le_succ _) _
   have HST := Lib.hid hstep
   have HV := Lib.hid hv
   clear hstep hv hin hfr hle
   go_wp2_with fail
   obtain ⟨e0, e1, e2, e3, _⟩ := cells4_of HR2.out
   refine bodyPost_ret (v := .agg #[.string o, .int .i64 n, .string s, .slice au l.length cu]) (by simp [results, Tryd.results13, go_sem, e0, e1, e2, e3]) rfl ?_
   exact ⟨_, K', rfl, ⟨_, rfl, HV.out⟩, HST.out⟩
end Go.Proofs.YthejomlhmdeimaaDoor
