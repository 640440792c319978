/- Plain functions of runs of flat programs, as flow.Run has them; the law of FlowNil: no program in sight. -/
import Derived.Test.YtmeldgjlgifdhaaDoorAp
import Derived.Test.YtmeldgjlgifdhaaDoorLateA
import Derived.Test.YtmeldgjlgifdhaaDoorMx
import Derived.Test.YtmeldgjlgifdhaaDoorOrdA
import Derived.Test.YtmeldgjlgifdhaaDoorOckA
namespace Go.Proofs.YtmeldgjlgifdhaaDoor.Mx
structure REnv where
 ks : Env Int
 lt : ByteArray → Int
 nm : ByteArray → Int
 nb : Bool
 ni : Int
def nilV (nb : Bool) (ni : Int) (k : Int) : Vl := if k = 1 then tv nb else ⟨k, ni⟩
structure Inst where
 first : Bool
 mem : List Vl
 inp : List Vl
 now : List Vl
mutual
def memN : Ex → Nat
 | .mk o _ _ l => memNL l + (if o = oPre ∨ o = oFby then 1 else 0)
def memNL : List Ex → Nat
 | [] => 0
 | e :: l => memN e + memNL l
end
mutual
def memsAt : Nat → Ex → List (Ex × Nat)
 | m, .mk o n s l => memsAtL m l ++ (if o = oPre ∨ o = oFby then [(l.getLastD (.mk o n s l), m + memNL l.dropLast)] else [])
def memsAtL : Nat → List Ex → List (Ex × Nat)
 | _, [] => []
 | m, e :: l => memsAt m e ++ memsAtL (m + memN e) l
end
def valM (R : REnv) (r : Inst) (m : Nat) (o : ByteArray) (n : Int) (s : ByteArray) (late : Bool) (vs : List Vl) : Vl × Bool :=
 if o = oInt then (⟨2, n⟩, false)
 else if o = oTrue ∨ o = oFalse then (tv (decide (o = oTrue)), false)
 else if o = oName then (if R.nm s < 0 then r.inp.getD (-1 - R.nm s).toNat vz else r.now.getD (R.nm s).toNat vz, false)
 else if o = oPre then (r.mem.getD m vz, false)
 else if o = oFby then (if r.first then vs.getD 0 vz else r.mem.getD m vz, false)
 else if o = oArrow then (if r.first then vs.getD 0 vz else vs.getD 1 vz, false)
 else if (appM o vs).2 then (⟨2, 0⟩, !r.first || !late) else ((appM o vs).1, false)
mutual
def evalM (R : REnv) (r : Inst) : Nat → Ex → Vl × Bool
 | m, .mk o n s l =>
  let vs := evalsM R r m (if o = oPre then 0 else if o = oFby then 1 else l.length) l
  let late := decide (0 < lateOf R.lt (.mk o n s l))
  let x := valM R r (m + memNL l) o n s late vs.1
  (if r.first && late then nilV R.nb R.ni (kindOf R.ks (.mk o n s l)) else x.1, vs.2 || x.2)
def evalsM (R : REnv) (r : Inst) : Nat → Nat → List Ex → List Vl × Bool
 | _, _, [] => ([], false)
 | _, 0, _ :: _ => ([], false)
 | m, k + 1, e :: l =>
  let x := evalM R r m e
  let y := evalsM R r (m + memN e) k l
  (x.1 :: y.1, x.2 || y.2)
end
structure Tk where
 out : List Vl
 asrt : Bool
 trap : Bool
 checks : List Bool
def trapT : Tk := ⟨[], false, true, []⟩
def withAt : Nat → List Ex → List (Ex × Nat)
 | _, [] => []
 | m, e :: l => (e, m) :: withAt (m + memN e) l
def nowM (R : REnv) (first : Bool) (mem inp : List Vl) (fs : List (Ex × Nat)) : List Nat → List Vl → Bool → List Vl × Bool
 | [], now, t => (now, t)
 | k :: r, now, t =>
  let x := fs.getD k (.mk ⟨#[]⟩ 0 ⟨#[]⟩ [], 0)
  let v := evalM R ⟨first, mem, inp, now⟩ x.2 x.1
  nowM R first mem inp fs r (now.set k v.1) (t || v.2)
def valsM (R : REnv) (r : Inst) (l : List (Ex × Nat)) : List Vl × Bool := (l.map fun x => (evalM R r x.2 x.1).1, l.any fun x => (evalM R r x.2 x.1).2)
structure Cd where
 ord : List Nat
 fs : List (Ex × Nat)
 av : List (Ex × Nat)
 cv : List (Ex × Nat)
 outs : List Int
 ms : List (Ex × Nat)
def tickM (R : REnv) (c : Cd) (first : Bool) (mem inp : List Vl) : Tk × List Vl :=
 let n := nowM R first mem inp c.fs c.ord (List.replicate c.fs.length vz) false
 let r : Inst := ⟨first, mem, inp, n.1⟩
 let a := valsM R r c.av
 let k := valsM R r c.cv
 let x := valsM R r c.ms
 if n.2 || a.2 || k.2 || x.2 then (trapT, [])
 else (⟨c.outs.map fun i => n.1.getD i.toNat vz, a.1.all fun v => decide (v.n = 1), false, k.1.map fun v => decide (v.n = 1)⟩, x.1)
def runGo (R : REnv) (c : Cd) : Bool → List Vl → List (List Vl) → List Tk
 | _, _, [] => []
 | first, mem, l :: r =>
  let x := tickM R c first mem l
  x.1 :: if x.1.trap then [] else runGo R c false x.2 r
theorem latesOf_getD (lt : ByteArray → Int) : ∀ (l : List Ex) (k : Nat), (latesOf lt l).getD k 0 = if h : k < l.length then lateOf lt l[k] else 0
 | [], k => by simp [latesOf]
 | e :: l, 0 => by simp [latesOf]
 | e :: l, k + 1 => by
  have := latesOf_getD lt l k
  simp only [latesOf, List.getD_cons_succ, this, List.length_cons, Nat.add_lt_add_iff_right]
  split <;> rfl
theorem foldl_max_zero : ∀ (l : List Int) (a : Int), 0 ≤ a → l.foldl max a = 0 → a = 0 ∧ ∀ x ∈ l, x ≤ 0
 | [], a, _, h => ⟨h, fun x hx => by cases hx⟩
 | y :: l, a, h0, h => by
  have h1 := foldl_max_zero l (max a y) (by omega) h
  refine ⟨by omega, fun x hx => ?_⟩
  rcases List.mem_cons.1 hx with rfl | hx
  ·omega
  ·exact h1.2 x hx
theorem foldl_max_le : ∀ (l : List Int) (a b : Int), l.foldl max a ≤ b → a ≤ b ∧ ∀ x ∈ l, x ≤ b
 | [], a, b, h => ⟨h, fun x hx => by cases hx⟩
 | y :: l, a, b, h => by
  have h1 := foldl_max_le l (max a y) b h
  refine ⟨by omega, fun x hx => ?_⟩
  rcases List.mem_cons.1 hx with rfl | hx
  ·omega
  ·exact h1.2 x hx
theorem latesOf_memI (lt : ByteArray → Int) : ∀ (l : List Ex) (e : Ex), e ∈ l → lateOf lt e ∈ latesOf lt l
 | x :: l, e, h => by
  simp only [latesOf]
  rcases List.mem_cons.1 h with rfl | h
  ·exact List.mem_cons_self ..
  ·exact List.mem_cons_of_mem _ (latesOf_memI lt l e h)
structure SameR (R R' : REnv) : Prop where
 ks : R.ks = R'.ks
 lt : R.lt = R'.lt
 nm : R.nm = R'.nm
theorem evalsM_len (R : REnv) (r : Inst) : ∀ (l : List Ex) (m k : Nat), (evalsM R r m k l).1.length = min k l.length
 | [], m, k => by simp [evalsM]
 | e :: l, m, 0 => by simp [evalsM]
 | e :: l, m, k + 1 => by simp [evalsM, evalsM_len R r l]
theorem first_same {R R' : REnv} (hR : SameR R R') (hb : ∀ s, 0 ≤ R.lt s ∧ R.lt s ≤ 2) (r r' : Inst) (h1 : r.first = true) (h2 : r'.first = true) (hi : r.inp = r'.inp) (ks : Env Int) (hn : ∀ s, (ks s).isSome = true → R.lt s = 0 → 0 ≤ R.nm s → r.now.getD (R.nm s).toNat vz = r'.now.getD (R.nm s).toNat vz) :
  ∀ (e : Ex), formAll ks e = true → ∀ (m : Nat), (evalM R r m e).2 = (evalM R' r' m e).2 ∧ (lateOf R.lt e = 0 → (evalM R r m e).1 = (evalM R' r' m e).1) := by
 refine Ex.ind fun o n s l ih hfo m => ?_
 have hsub := (formAll_parts hfo).1
 have hl : ∀ (k m : Nat) (l : List Ex), (∀ e ∈ l, ∀ m, (evalM R r m e).2 = (evalM R' r' m e).2 ∧ (lateOf R.lt e = 0 → (evalM R r m e).1 = (evalM R' r' m e).1)) →
   (evalsM R r m k l).2 = (evalsM R' r' m k l).2 ∧ ∀ i (hi : i < l.length), lateOf R.lt l[i] = 0 → (evalsM R r m k l).1.getD i vz = (evalsM R' r' m k l).1.getD i vz := by
  intro k m l
  induction l generalizing k m with
  | nil => intro _; exact ⟨by simp [evalsM], fun i hi => by simp at hi⟩
  | cons e l ihl =>
   intro hh
   cases k with
   | zero => exact ⟨by simp [evalsM], fun i _ _ => by simp [evalsM]⟩
   | succ k =>
    obtain ⟨a1, a2⟩ := hh e (List.mem_cons_self ..) m
    obtain ⟨b1, b2⟩ := ihl k (m + memN e) fun x hx => hh x (List.mem_cons_of_mem _ hx)
    simp only [evalsM]
    refine ⟨by rw [a1, b1], fun i hi h0 => ?_⟩
    cases i with
    | zero => simpa using a2 h0
    | succ i => simpa using b2 i (by simpa using hi) h0
 simp only [evalM]
 rw [← hR.ks, ← hR.lt, h1, h2]
 obtain ⟨t1, t2⟩ := hl (if o = oPre then 0 else if o = oFby then 1 else l.length) m l fun e he => ih e he (hsub e he)
 have hlen := evalsM_len R r l m (if o = oPre then 0 else if o = oFby then 1 else l.length)
 have hlen' := evalsM_len R' r' l m (if o = oPre then 0 else if o = oFby then 1 else l.length)
 generalize evalsM R r m (if o = oPre then 0 else if o = oFby then 1 else l.length) l = V at *
 generalize evalsM R' r' m (if o = oPre then 0 else if o = oFby then 1 else l.length) l = V' at *
 obtain ⟨vs, t⟩ := V
 obtain ⟨vs', t'⟩ := V'
 dsimp only at t1 t2 hlen hlen' ⊢
 subst t1
 have hlb := late_bound R.lt hb (.mk o n s l)
 have hlate : lateOf R.lt (.mk o n s l) = if o = oName then R.lt s else if o = oPre then min 2 ((latesOf R.lt l).getD 0 0 + 1) else if o = oArrow ∨ o = oFby then (let b := if o = oFby then min 2 ((latesOf R.lt l).getD 1 0 + 1) else (latesOf R.lt l).getD 1 0; if b = 2 then 2 else (latesOf R.lt l).getD 0 0) else (latesOf R.lt l).foldl max 0 := by rw [lateOf]
 have h0b : ∀ i, 0 ≤ (latesOf R.lt l).getD i 0 := fun i => by
  rw [latesOf_getD]
  split
  ·exact (late_bound R.lt hb _).1
  ·omega
 have hv0 : (latesOf R.lt l).getD 0 0 = 0 → vs.getD 0 vz = vs'.getD 0 vz := fun h => by
  rw [latesOf_getD] at h
  split at h
  ·exact t2 0 ‹_› h
  ·rename_i hlt
   simp only [List.getD_eq_getElem?_getD]
   rw [List.getElem?_eq_none (by omega), List.getElem?_eq_none (by omega)]
 by_cases h0 : lateOf R.lt (.mk o n s l) = 0
 ·have hd : decide (0 < lateOf R.lt (.mk o n s l)) = false := by simp [h0]
  rw [hd]
  suffices hs : valM R r (m + memNL l) o n s false vs = valM R' r' (m + memNL l) o n s false vs' by rw [hs]; exact ⟨rfl, fun _ => rfl⟩
  unfold valM
  rw [← hR.nm, h1, h2, ← hi]
  rw [h0] at hlate
  by_cases e1 : o = oInt
  ·rw [if_pos e1, if_pos e1]
  rw [if_neg e1, if_neg e1]
  by_cases e2 : o = oTrue ∨ o = oFalse
  ·rw [if_pos e2, if_pos e2]
  rw [if_neg e2, if_neg e2]
  by_cases e3 : o = oName
  ·rw [if_pos e3, if_pos e3]
   rw [if_pos e3] at hlate
   by_cases h5 : R.nm s < 0
   ·rw [if_pos h5, if_pos h5]
   ·have hks : (ks s).isSome = true := by
     simp only [formAll, Bool.and_eq_true, Bool.or_eq_true, decide_eq_true_eq] at hfo
     exact hfo.1.2.resolve_left (fun h => h e3)
    rw [if_neg h5, if_neg h5, hn s hks hlate.symm (by omega)]
  rw [if_neg e3, if_neg e3]
  rw [if_neg e3] at hlate
  by_cases e4 : o = oPre
  ·rw [if_pos e4] at hlate
   have := h0b 0
   omega
  rw [if_neg e4, if_neg e4]
  rw [if_neg e4] at hlate
  by_cases e5 : o = oFby
  ·rw [if_pos e5, if_pos e5]
   rw [if_pos (.inr e5)] at hlate
   simp only [if_true]
   dsimp only at hlate
   rw [if_pos e5] at hlate
   by_cases hc : min 2 ((latesOf R.lt l).getD 1 0 + 1) = 2
   ·rw [if_pos hc] at hlate; omega
   ·rw [if_neg hc] at hlate; rw [hv0 hlate.symm]
  rw [if_neg e5, if_neg e5]
  by_cases e6 : o = oArrow
  ·rw [if_pos e6, if_pos e6]
   rw [if_pos (.inl e6)] at hlate
   simp only [if_true]
   dsimp only at hlate
   rw [if_neg e5] at hlate
   by_cases hc : (latesOf R.lt l).getD 1 0 = 2
   ·rw [if_pos hc] at hlate; omega
   ·rw [if_neg hc] at hlate; rw [hv0 hlate.symm]
  rw [if_neg e6, if_neg e6]
  rw [if_neg (fun h => h.elim e6 e5)] at hlate
  have hall := (foldl_max_zero _ _ (Int.le_refl 0) hlate.symm).2
  have hvs : vs = vs' := by
   rw [if_neg e4, if_neg e5] at hlen hlen'
   refine List.ext_getElem (by omega) fun i i1 i2 => ?_
   have hil : i < l.length := by omega
   have h8 := t2 i hil (by
    have := hall _ (latesOf_memI R.lt l l[i] (List.getElem_mem hil))
    have := (late_bound R.lt hb l[i]).1
    omega)
   simpa [List.getD_eq_getElem?_getD, i1, i2] using h8
  rw [hvs]
 ·have hd : decide (0 < lateOf R.lt (.mk o n s l)) = true := by simp; omega
  rw [hd]
  refine ⟨?_, fun h => absurd h h0⟩
  suffices hs : ∀ (R : REnv) (r : Inst) vs, r.first = true → (valM R r (m + memNL l) o n s true vs).2 = false by rw [hs R r vs h1, hs R' r' vs' h2]
  intro R r vs hf
  unfold valM
  rw [hf]
  repeat' split
  all_goals rfl
theorem later_same {R R' : REnv} (hR : SameR R R') (r : Inst) (h1 : r.first = false) : ∀ (e : Ex) (m : Nat), evalM R r m e = evalM R' r m e := by
 refine Ex.ind fun o n s l ih m => ?_
 have hl : ∀ (k m : Nat) (l : List Ex), (∀ e ∈ l, ∀ m, evalM R r m e = evalM R' r m e) → evalsM R r m k l = evalsM R' r m k l := by
  intro k m l
  induction l generalizing k m with
  | nil => intro _; simp [evalsM]
  | cons e l ihl =>
   intro hh
   cases k with
   | zero => simp [evalsM]
   | succ k => simp only [evalsM]; rw [hh e (List.mem_cons_self ..) m, ihl k (m + memN e) fun x hx => hh x (List.mem_cons_of_mem _ hx)]
 simp only [evalM]
 rw [h1, hl _ _ _ ih, ← hR.lt]
 simp only [Bool.false_and]
 unfold valM
 rw [← hR.nm]
 rfl
theorem nowM_later {R R' : REnv} (hR : SameR R R') (mem inp : List Vl) (fs : List (Ex × Nat)) : ∀ (l : List Nat) (now : List Vl) (t : Bool), nowM R false mem inp fs l now t = nowM R' false mem inp fs l now t
 | [], now, t => rfl
 | k :: l, now, t => by simp only [nowM]; rw [later_same hR ⟨false, mem, inp, now⟩ rfl]; exact nowM_later hR mem inp fs l _ _
theorem valsM_later {R R' : REnv} (hR : SameR R R') (r : Inst) (h1 : r.first = false) (l : List (Ex × Nat)) : valsM R r l = valsM R' r l := by
 unfold valsM
 have : ∀ x : Ex × Nat, evalM R r x.2 x.1 = evalM R' r x.2 x.1 := fun x => later_same hR r h1 x.1 x.2
 simp only [this]
theorem tick_later {R R' : REnv} (hR : SameR R R') (c : Cd) (mem inp : List Vl) : tickM R c false mem inp = tickM R' c false mem inp := by
 unfold tickM
 dsimp only
 rw [nowM_later hR, valsM_later hR _ rfl, valsM_later hR _ rfl, valsM_later hR _ rfl]
theorem go_later {R R' : REnv} (hR : SameR R R') (c : Cd) : ∀ (l : List (List Vl)) (mem : List Vl), runGo R c false mem l = runGo R' c false mem l
 | [], _ => rfl
 | x :: l, mem => by simp only [runGo]; rw [tick_later hR]; congr 1; rw [go_later hR c l]
structure CdOk (R : REnv) (ks : Env Int) (nf : Nat → ByteArray) (c : Cd) : Prop where
 bd : ∀ s, 0 ≤ R.lt s ∧ R.lt s ≤ 2
 ord : ∀ k ∈ c.ord, k < c.fs.length
 nm : ∀ s, (ks s).isSome = true → 0 ≤ R.nm s → s = nf (R.nm s).toNat
 fs : ∀ k (h : k < c.fs.length), formAll ks c.fs[k].1 = true ∧ lateOf R.lt c.fs[k].1 ≤ R.lt (nf k)
 av : ∀ x ∈ c.av, formAll ks x.1 = true ∧ lateOf R.lt x.1 = 0
 cv : ∀ x ∈ c.cv, formAll ks x.1 = true ∧ lateOf R.lt x.1 = 0
 ms : ∀ x ∈ c.ms, formAll ks x.1 = true ∧ lateOf R.lt x.1 = 0
 outs : ∀ i ∈ c.outs, R.lt (nf i.toNat) = 0
def NowR (R : REnv) (nf : Nat → ByteArray) (a b : List Vl) : Prop := a.length = b.length ∧ ∀ k, R.lt (nf k) = 0 → a.getD k vz = b.getD k vz
theorem first_of {R R' : REnv} (hR : SameR R R') {ks : Env Int} {nf : Nat → ByteArray} {c : Cd} (h : CdOk R ks nf c) {mem mem' inp now now' : List Vl} (hn : NowR R nf now now') (e : Ex) (he : formAll ks e = true) (m : Nat) :
  (evalM R ⟨true, mem, inp, now⟩ m e).2 = (evalM R' ⟨true, mem', inp, now'⟩ m e).2 ∧ (lateOf R.lt e = 0 → (evalM R ⟨true, mem, inp, now⟩ m e).1 = (evalM R' ⟨true, mem', inp, now'⟩ m e).1) :=
 first_same hR h.bd ⟨true, mem, inp, now⟩ ⟨true, mem', inp, now'⟩ rfl rfl rfl ks (fun s h1 h2 h3 => hn.2 _ (by rw [← h.nm s h1 h3]; exact h2)) e he m
theorem nowM_first {R R' : REnv} (hR : SameR R R') {ks : Env Int} {nf : Nat → ByteArray} {c : Cd} (h : CdOk R ks nf c) (mem mem' inp : List Vl) : ∀ (l : List Nat), (∀ k ∈ l, k < c.fs.length) → ∀ (now now' : List Vl) (t : Bool), NowR R nf now now' →
  (nowM R true mem inp c.fs l now t).2 = (nowM R' true mem' inp c.fs l now' t).2 ∧ NowR R nf (nowM R true mem inp c.fs l now t).1 (nowM R' true mem' inp c.fs l now' t).1
 | [], _, now, now', t, hn => ⟨rfl, hn⟩
 | k :: l, hk, now, now', t, hn => by
  simp only [nowM]
  have hkl := hk k (List.mem_cons_self ..)
  have hx : c.fs.getD k (.mk ⟨#[]⟩ 0 ⟨#[]⟩ [], 0) = c.fs[k] := by simp [List.getD_eq_getElem?_getD, hkl]
  rw [hx]
  obtain ⟨f1, f2⟩ := h.fs k hkl
  obtain ⟨a1, a2⟩ := first_of hR h hn (mem := mem) (mem' := mem') (inp := inp) c.fs[k].1 f1 c.fs[k].2
  rw [a1]
  refine nowM_first hR h mem mem' inp l (fun j hj => hk j (List.mem_cons_of_mem _ hj)) _ _ _ ⟨by simp [hn.1], fun j hj => ?_⟩
  by_cases e : k = j
  ·subst e
   have h0 : lateOf R.lt c.fs[k].1 = 0 := by
    have := (late_bound R.lt h.bd c.fs[k].1).1
    omega
   have hl := hn.1
   by_cases hlt : k < now.length
   ·simp [List.getD_eq_getElem?_getD, hlt, ← hl, a2 h0]
   ·simp [List.getD_eq_getElem?_getD, hlt, ← hl]
  ·have := hn.2 j hj
   simpa [List.getD_eq_getElem?_getD, List.getElem?_set, e] using this
theorem valsM_first {R R' : REnv} (hR : SameR R R') {ks : Env Int} {nf : Nat → ByteArray} {c : Cd} (h : CdOk R ks nf c) {mem mem' inp now now' : List Vl} (hn : NowR R nf now now') (l : List (Ex × Nat)) (hl : ∀ x ∈ l, formAll ks x.1 = true ∧ lateOf R.lt x.1 = 0) :
  valsM R ⟨true, mem, inp, now⟩ l = valsM R' ⟨true, mem', inp, now'⟩ l := by
 have hx : ∀ x ∈ l, evalM R ⟨true, mem, inp, now⟩ x.2 x.1 = evalM R' ⟨true, mem', inp, now'⟩ x.2 x.1 := fun x hx => by
  obtain ⟨a, b⟩ := first_of hR h hn (mem := mem) (mem' := mem') (inp := inp) x.1 (hl x hx).1 x.2
  exact Prod.ext (b (hl x hx).2) a
 unfold valsM
 refine Prod.ext (List.map_congr_left fun x h => by rw [hx x h]) ?_
 dsimp only
 induction l with
 | nil => rfl
 | cons y l ih =>
  simp only [List.any_cons]
  rw [hx y (List.mem_cons_self ..), ih (fun x h => hl x (List.mem_cons_of_mem _ h)) fun x h => hx x (List.mem_cons_of_mem _ h)]
theorem tick_first {R R' : REnv} (hR : SameR R R') {ks : Env Int} {nf : Nat → ByteArray} {c : Cd} (h : CdOk R ks nf c) (mem mem' inp : List Vl) : tickM R c true mem inp = tickM R' c true mem' inp := by
 obtain ⟨a1, a2⟩ := nowM_first hR h mem mem' inp c.ord h.ord (List.replicate c.fs.length vz) (List.replicate c.fs.length vz) false ⟨rfl, fun _ _ => rfl⟩
 unfold tickM
 dsimp only
 rw [a1, valsM_first hR h a2 c.av h.av, valsM_first hR h a2 c.cv h.cv, valsM_first hR h a2 c.ms h.ms]
 have : (c.outs.map fun i => (nowM R true mem inp c.fs c.ord (List.replicate c.fs.length vz) false).1.getD i.toNat vz) = c.outs.map fun i => (nowM R' true mem' inp c.fs c.ord (List.replicate c.fs.length vz) false).1.getD i.toNat vz :=
  List.map_congr_left fun i hi => a2.2 _ (h.outs i hi)
 rw [this]
theorem go_first {R R' : REnv} (hR : SameR R R') {ks : Env Int} {nf : Nat → ByteArray} {c : Cd} (h : CdOk R ks nf c) (mem mem' : List Vl) : ∀ l : List (List Vl), runGo R c true mem l = runGo R' c true mem' l
 | [] => rfl
 | x :: l => by simp only [runGo]; rw [tick_first hR h mem mem']; congr 1; rw [go_later hR]
end Go.Proofs.YtmeldgjlgifdhaaDoor.Mx
namespace Go.Proofs.YtmeldgjlgifdhaaDoor
open Mx
theorem fresh_apart {s : ByteArray} : ∀ (l : List (ByteArray × Int)) (m0 m : Env Int), freshGo m0 l = some m → (m0 s).isSome = true → ∀ x ∈ l, x.1 ≠ s
 | [], _, _, _, _, x, hx => by cases hx
 | y :: l, m0, m, h, hs, x, hx => by
  simp only [freshGo] at h
  split at h
  ·rename_i hc
   have hne : y.1 ≠ s := fun e => by have h1 := hc.1; rw [e] at h1; cases hm : m0 s <;> simp_all
   rcases List.mem_cons.1 hx with rfl | hx
   ·exact hne
   ·refine fresh_apart l _ _ h ?_ x hx
    simp only [Env.set]
    rw [if_neg (Ne.symm hne)]
    exact hs
  ·cases h
theorem fresh_nodup : ∀ (l : List (ByteArray × Int)) (m0 m : Env Int), freshGo m0 l = some m → (l.map (·.1)).Nodup
 | [], _, _, _ => by simp
 | y :: l, m0, m, h => by
  simp only [freshGo] at h
  split at h
  ·rw [List.map_cons, List.nodup_cons]
   refine ⟨fun hm => ?_, fresh_nodup l _ _ h⟩
   obtain ⟨x, hx, he⟩ := List.mem_map.1 hm
   exact fresh_apart l _ _ h (s := y.1) (by simp [Env.set]) x hx he
  ·cases h
theorem names_nd {p : Pr} (h : checkFlat p = 0) : (p.fl.map (·.name)).Nodup := by
 obtain ⟨ks, hk, _⟩ := check_zero h
 have := fresh_nodup _ _ _ hk
 simp only [Pr.vars, List.map_append, List.map_map] at this
 rw [List.nodup_append] at this
 exact this.2.1
theorem some_left (out : List Nat) (n : Nat) (h : out.length < n) : ∃ i, i < n ∧ i ∉ out := by
 refine Classical.byContradiction fun hno => ?_
 have hall : ∀ i, i < n → i ∈ out := fun i hi => Classical.byContradiction fun hm => hno ⟨i, hi, hm⟩
 obtain ⟨a, b, hab, hb, e⟩ := pigeon out.length (fun i => out.idxOf i) (fun i hi => List.idxOf_lt_length_of_mem (hall i (by omega)))
 have ha := List.getElem_idxOf (List.idxOf_lt_length_of_mem (hall a (by omega)))
 have hb' := List.getElem_idxOf (List.idxOf_lt_length_of_mem (hall b (by omega)))
 have e' : out.idxOf a = out.idxOf b := e
 simp only [e'] at ha
 rw [hb'] at ha
 omega
theorem some_free {g : List (List Nat)} (hlow : ∀ l ∈ g, ∀ k ∈ l, k < g.length) (hno : ∀ j, j < g.length → cyc g j = false) (out : List Nat) (h : out.length < g.length) : ∃ i, i < g.length ∧ freeB g out i = true := by
 refine Classical.byContradiction fun hx => ?_
 obtain ⟨i0, hi0, hm0⟩ := some_left out g.length h
 have step : ∀ i, i < g.length → i ∉ out → ∃ k, k < g.length ∧ k ∉ out ∧ edge g i k := by
  intro i hi hm
  have hf : freeB g out i = false := by
   cases hc : freeB g out i with
   | false => rfl
   | true => exact absurd ⟨i, hi, hc⟩ hx
  unfold freeB at hf
  have hc : out.contains i = false := by simpa using hm
  rw [hc, Bool.not_false, Bool.true_and] at hf
  have hf' : ∃ k ∈ g.getD i [], ¬ out.contains k = true := by
   refine Classical.byContradiction fun hn => ?_
   have : (g.getD i []).all out.contains = true := List.all_eq_true.2 fun k hk => Classical.byContradiction fun hkk => hn ⟨k, hk, hkk⟩
   rw [this] at hf; cases hf
  obtain ⟨k, hk, hko⟩ := hf'
  refine ⟨k, ?_, by simpa using hko, hk⟩
  rw [List.getD_eq_getElem?_getD, List.getElem?_eq_getElem hi] at hk
  exact hlow _ (List.getElem_mem hi) _ hk
 classical
 let nx : Nat → Nat := fun i => if hh : ∃ k, k < g.length ∧ k ∉ out ∧ edge g i k then Classical.choose hh else i
 have hnx : ∀ i, i < g.length → i ∉ out → nx i < g.length ∧ nx i ∉ out ∧ edge g i (nx i) := by
  intro i hi hm
  have hh := step i hi hm
  show (if hh : ∃ k, k < g.length ∧ k ∉ out ∧ edge g i k then Classical.choose hh else i) < _ ∧ _
  have e : nx i = Classical.choose hh := dif_pos hh
  rw [show (if hh : ∃ k, k < g.length ∧ k ∉ out ∧ edge g i k then Classical.choose hh else i) = Classical.choose hh from dif_pos hh, e]
  exact Classical.choose_spec hh
 have hit : ∀ t, iter nx t i0 < g.length ∧ iter nx t i0 ∉ out := by
  intro t
  induction t with
  | zero => exact ⟨hi0, hm0⟩
  | succ t ih => have := hnx _ ih.1 ih.2; exact ⟨this.1, this.2.1⟩
 have hpath : ∀ s t, Path g (iter nx s i0) (iter nx (s + t + 1) i0) := by
  intro s t
  induction t with
  | zero => exact .one (hnx _ (hit s).1 (hit s).2).2.2
  | succ t ih => exact .snoc ih (hnx _ (hit (s + t + 1)).1 (hit (s + t + 1)).2).2.2
 obtain ⟨a, b, hab, hb, e⟩ := pigeon g.length (fun t => iter nx t i0) (fun t _ => (hit t).1)
 have e' : iter nx a i0 = iter nx b i0 := e
 have hp := hpath a (b - a - 1)
 rw [show a + (b - a - 1) + 1 = b from by omega, ← e'] at hp
 have := (cyc_iff g _).2 hp
 rw [hno _ (hit a).1] at this
 cases this
theorem pick_lt {g : List (List Nat)} {out : List Nat} (h : ∃ i, i < g.length ∧ freeB g out i = true) : pick g out < g.length := by
 obtain ⟨i, hi, hf⟩ := h
 unfold pick
 have : (g.zipIdx.findIdx fun x => !out.contains x.2 && x.1.all out.contains) < g.zipIdx.length := by
  refine List.findIdx_lt_length_of_exists ⟨(g[i], i), ?_, ?_⟩
  ·rw [List.mem_iff_getElem]
   exact ⟨i, by simpa using hi, by simp⟩
  ·unfold freeB at hf
   rw [List.getD_eq_getElem?_getD, List.getElem?_eq_getElem hi] at hf
   exact hf
 simpa using this
theorem sort_pick {g : List (List Nat)} (hlow : ∀ l ∈ g, ∀ k ∈ l, k < g.length) (hno : ∀ j, j < g.length → cyc g j = false) : ∀ j, j < g.length → pick g (sortN g j []) < g.length := fun j hj =>
 pick_lt (some_free hlow hno _ (by rw [sortN_len]; simpa using hj))
theorem any_hpick (p : Pr) : checkFlat p = 0 → (∀ j, j < p.graph.length → cyc p.graph j = false) → ∀ j, j < p.graph.length → pick p.graph (sortN p.graph j []) < p.graph.length := fun _ hno => sort_pick (graph_low p) hno
end Go.Proofs.YtmeldgjlgifdhaaDoor
namespace Go.Proofs.YtmeldgjlgifdhaaDoor
open Mx
theorem round_le : ∀ (l : List Fl) (late : ByteArray → Int) (b : Bool) (s : ByteArray), late s ≤ (namesRound l late b).1 s
 | [], late, b, s => Int.le_refl _
 | f :: l, late, b, s => by
  simp only [namesRound]
  split
  ·refine Int.le_trans ?_ (round_le l _ _ s)
   unfold setL
   split
   ·rename_i h e; rw [e]; omega
   ·omega
  ·exact round_le l late b s
theorem setL_bound {late : ByteArray → Int} (hb : ∀ s, 0 ≤ late s ∧ late s ≤ 2) (e : Ex) (k : ByteArray) : ∀ s, 0 ≤ setL late k (lateOf late e) s ∧ setL late k (lateOf late e) s ≤ 2 := fun s => by
 unfold setL
 split
 ·exact late_bound late hb e
 ·exact hb s
theorem round_bound : ∀ (l : List Fl) (late : ByteArray → Int) (b : Bool), (∀ s, 0 ≤ late s ∧ late s ≤ 2) → ∀ s, 0 ≤ (namesRound l late b).1 s ∧ (namesRound l late b).1 s ≤ 2
 | [], late, b, hb, s => hb s
 | f :: l, late, b, hb, s => by
  simp only [namesRound]
  split
  ·exact round_bound l _ _ (setL_bound hb f.e f.name) s
  ·exact round_bound l late b hb s
theorem round_gain : ∀ (l : List Fl) (late : ByteArray → Int), (namesRound l late false).2 = true → ∃ f ∈ l, late f.name < (namesRound l late false).1 f.name
 | [], late, h => by simp [namesRound] at h
 | f :: l, late, h => by
  simp only [namesRound] at h ⊢
  split
  ·rename_i hlt
   refine ⟨f, List.mem_cons_self .., Int.lt_of_lt_of_le hlt ?_⟩
   have := round_le l (setL late f.name (lateOf late f.e)) true f.name
   simpa [setL] using this
  ·rename_i hlt
   rw [if_neg hlt] at h
   obtain ⟨g, hg, h2⟩ := round_gain l late h
   exact ⟨g, List.mem_cons_of_mem _ hg, h2⟩
theorem round_none : ∀ (l : List Fl) (late : ByteArray → Int), (namesRound l late false).2 = false → (namesRound l late false).1 = late ∧ ∀ f ∈ l, lateOf late f.e ≤ late f.name
 | [], late, _ => ⟨rfl, fun f hf => by cases hf⟩
 | f :: l, late, h => by
  simp only [namesRound] at h ⊢
  split
  ·rename_i hlt
   rw [if_pos hlt, namesRound_more] at h
   cases h
  ·rename_i hlt
   rw [if_neg hlt] at h
   obtain ⟨a, b⟩ := round_none l late h
   refine ⟨a, fun g hg => ?_⟩
   rcases List.mem_cons.1 hg with rfl | hg
   ·omega
   ·exact b g hg
theorem namesN_fix (l : List Fl) : ∀ (f : Nat) (late : ByteArray → Int), (∀ s, 0 ≤ late s ∧ late s ≤ 2) → mu late l < f → (∀ s, 0 ≤ namesN l f late s ∧ namesN l f late s ≤ 2) ∧ ∀ g ∈ l, lateOf (namesN l f late) g.e ≤ namesN l f late g.name
 | 0, late, _, h => by omega
 | f + 1, late, hb, h => by
  rw [namesN_step]
  cases hr : (namesRound l late false).2 with
  | true =>
   simp only [if_true]
   obtain ⟨g, hg, hlt⟩ := round_gain l late hr
   have := mu_lt late _ (round_le l late false) (fun s => (round_bound l late false hb s).2) l g hg hlt
   exact namesN_fix l f _ (round_bound l late false hb) (by omega)
  | false =>
   simp only [Bool.false_eq_true, if_false]
   obtain ⟨a, b⟩ := round_none l late hr
   rw [a]
   exact ⟨hb, b⟩
theorem namesM_fix (p : Pr) : (∀ s, 0 ≤ namesM p s ∧ namesM p s ≤ 2) ∧ ∀ g ∈ p.fl, lateOf (namesM p) g.e ≤ namesM p g.name :=
 namesN_fix p.fl _ _ (fun s => ⟨by simp, by simp⟩) (by rw [mu_zero]; omega)
def inNames : Nat → Env Int → List Vr → Env Int
 | _, m, [] => m
 | i, m, v :: l => inNames (i + 1) (m.set v.name (-1 - (i : Int))) l
def flNames : Nat → Env Int → List Fl → Env Int
 | _, m, [] => m
 | i, m, f :: l => flNames (i + 1) (m.set f.name (i : Int)) l
def nmEnv (p : Pr) : Env Int := flNames 0 (inNames 0 Env.none p.ins) p.fl
theorem flNames_out : ∀ (l : List Fl) (i : Nat) (m : Env Int) (s : ByteArray), s ∉ l.map (·.name) → flNames i m l s = m s
 | [], i, m, s, _ => rfl
 | f :: l, i, m, s, h => by
  simp only [List.map_cons, List.mem_cons, not_or] at h
  rw [flNames, flNames_out l _ _ s h.2, Env.set_other _ _ h.1]
theorem flNames_in : ∀ (l : List Fl) (i : Nat) (m : Env Int), (l.map (·.name)).Nodup → ∀ k (h : k < l.length), flNames i m l l[k].name = some ((i + k : Nat) : Int)
 | [], i, m, _, k, h => by simp at h
 | f :: l, i, m, hn, 0, h => by
  rw [List.map_cons, List.nodup_cons] at hn
  simp only [List.getElem_cons_zero, flNames]
  rw [flNames_out l _ _ _ hn.1, Env.set_self]
  rfl
 | f :: l, i, m, hn, k + 1, h => by
  rw [List.map_cons, List.nodup_cons] at hn
  simp only [List.getElem_cons_succ, flNames]
  rw [flNames_in l (i + 1) _ hn.2 k (by simpa using h), show i + 1 + k = i + (k + 1) from by omega]
theorem inNames_in : ∀ (l : List Vr) (i : Nat) (m : Env Int) (s : ByteArray), (s ∈ l.map (·.name) ∨ ∃ j : Nat, m s = some (-1 - (j : Int))) → ∃ j : Nat, inNames i m l s = some (-1 - (j : Int))
 | [], i, m, s, h => h.elim (fun h => by simp at h) id
 | v :: l, i, m, s, h => by
  rw [inNames]
  refine inNames_in l (i + 1) _ s ?_
  by_cases e : s = v.name
  ·exact .inr ⟨i, by rw [e, Env.set_self]⟩
  ·rcases h with h | ⟨j, h⟩
   ·simp only [List.map_cons, List.mem_cons] at h
    exact .inl (h.resolve_left e)
   ·exact .inr ⟨j, by rw [Env.set_other _ _ e]; exact h⟩
theorem fresh_keys {s : ByteArray} : ∀ (l : List (ByteArray × Int)) (m0 m : Env Int), freshGo m0 l = some m → (m s).isSome = true → (m0 s).isSome = true ∨ s ∈ l.map (·.1)
 | [], m0, m, h, hs => by simp only [freshGo] at h; cases h; exact .inl hs
 | y :: l, m0, m, h, hs => by
  simp only [freshGo] at h
  split at h
  ·rcases fresh_keys l _ _ h hs with h1 | h1
   ·by_cases e : s = y.1
    ·exact .inr (by simp [e])
    ·rw [Env.set_other _ _ e] at h1; exact .inl h1
   ·exact .inr (List.mem_cons_of_mem _ h1)
  ·cases h
def nfOf (p : Pr) (k : Nat) : ByteArray := (p.fl.map (·.name)).getD k ⟨#[]⟩
theorem nm_flow {p : Pr} (hck : checkFlat p = 0) (k : Nat) (h : k < p.fl.length) : getI (nmEnv p) p.fl[k].name = (k : Int) := by
 unfold getI nmEnv
 rw [flNames_in p.fl 0 _ (names_nd hck) k h]
 simp
theorem nm_of {p : Pr} (hck : checkFlat p = 0) {ks : Env Int} (hks : freshGo Env.none p.vars = some ks) (s : ByteArray) (h1 : (ks s).isSome = true) (h2 : 0 ≤ getI (nmEnv p) s) : s = nfOf p (getI (nmEnv p) s).toNat := by
 rcases fresh_keys _ _ _ hks h1 with h | h
 ·simp [Env.none] at h
 ·by_cases hf : s ∈ p.fl.map (·.name)
  ·obtain ⟨k, hk, e⟩ := List.mem_iff_getElem.1 hf
   have hk' : k < p.fl.length := by simpa using hk
   have e' : p.fl[k].name = s := by simpa using e
   have := nm_flow hck k hk'
   rw [e'] at this
   rw [this]
   simp [nfOf, List.getD_eq_getElem?_getD, hk', e']
  ·have hi : s ∈ p.ins.map (·.name) := by
    simp only [Pr.vars, List.map_append, List.map_map, List.mem_append] at h
    rcases h with h | h
    ·exact h
    ·exact absurd h hf
   obtain ⟨j, hj⟩ := inNames_in p.ins 0 Env.none s (.inl hi)
   unfold getI nmEnv at h2
   rw [flNames_out _ _ _ _ hf, hj] at h2
   simp at h2
   omega
theorem late_parts {lt : ByteArray → Int} (hb : ∀ s, 0 ≤ lt s ∧ lt s ≤ 2) {ks : Env Int} {o : ByteArray} {n : Int} {s : ByteArray} {l : List Ex} (hf : formAll ks (.mk o n s l) = true) (h : lateOf lt (.mk o n s l) ≤ 1) :
  (∀ e ∈ l, lateOf lt e ≤ 1) ∧ (o = oPre ∨ o = oFby → ∀ d, lateOf lt (l.getLastD d) = 0) := by
 obtain ⟨_, hfby, harr, hpre, _⟩ := formAll_parts hf
 have hlate : lateOf lt (.mk o n s l) = if o = oName then lt s else if o = oPre then min 2 ((latesOf lt l).getD 0 0 + 1) else if o = oArrow ∨ o = oFby then (let b := if o = oFby then min 2 ((latesOf lt l).getD 1 0 + 1) else (latesOf lt l).getD 1 0; if b = 2 then 2 else (latesOf lt l).getD 0 0) else (latesOf lt l).foldl max 0 := by rw [lateOf]
 rw [hlate] at h
 by_cases e3 : o = oName
 ·subst e3
  have hl : l = [] := by
   cases l with
   | nil => rfl
   | cons a t =>
    have h9 : arity oName = some 0 := by decide
    simp only [formAll, form, Ex.op, Ex.l, h9, Bool.and_eq_true, List.length_cons] at hf
    have h8 := hf.1.1.1.1.1
    rw [Bool.or_eq_true] at h8
    rcases h8 with h7 | h7
    ·have := of_decide_eq_true h7; omega
    ·have := of_decide_eq_true h7; omega
  subst hl
  exact ⟨fun e he => (by cases he), fun h => absurd h (by decide)⟩
 rw [if_neg e3] at h
 by_cases e4 : o = oPre
 ·have h1 := hpre e4
  match l, h1 with
  | [a], _ =>
   rw [if_pos e4] at h
   have hb1 := late_bound lt hb a
   have ha : lateOf lt a = 0 := by
    simp only [latesOf, List.getD_cons_zero] at h
    omega
   exact ⟨fun e he => by rw [List.mem_singleton.1 he]; omega, fun _ d => by simpa using ha⟩
 rw [if_neg e4] at h
 by_cases e5 : o = oFby
 ·have h1 := hfby e5
  match l, h1 with
  | [a, b], _ =>
   rw [if_pos (.inr e5)] at h
   dsimp only at h
   rw [if_pos e5] at h
   have hb1 := late_bound lt hb a
   have hb2 := late_bound lt hb b
   simp only [latesOf, List.getD_cons_zero, List.getD_cons_succ] at h
   by_cases hc : min 2 (lateOf lt b + 1) = 2
   ·rw [if_pos hc] at h; omega
   ·rw [if_neg hc] at h
    have hb0 : lateOf lt b = 0 := by omega
    refine ⟨fun e he => ?_, fun _ d => by simpa using hb0⟩
    simp only [List.mem_cons, List.not_mem_nil, or_false] at he
    rcases he with rfl | rfl <;> omega
 have hnm : ¬ (o = oPre ∨ o = oFby) := fun h => h.elim e4 e5
 by_cases e6 : o = oArrow
 ·have h1 := harr e6
  match l, h1 with
  | [a, b], _ =>
   rw [if_pos (.inl e6)] at h
   dsimp only at h
   rw [if_neg e5] at h
   have hb2 := late_bound lt hb b
   simp only [latesOf, List.getD_cons_zero, List.getD_cons_succ] at h
   by_cases hc : lateOf lt b = 2
   ·rw [if_pos hc] at h; omega
   ·rw [if_neg hc] at h
    refine ⟨fun e he => ?_, fun h => absurd h hnm⟩
    simp only [List.mem_cons, List.not_mem_nil, or_false] at he
    rcases he with rfl | rfl <;> omega
 rw [if_neg (fun h => h.elim e6 e5)] at h
 have hall := (foldl_max_le _ _ _ h).2
 exact ⟨fun e he => hall _ (latesOf_memI lt l e he), fun h => absurd h hnm⟩
theorem getLastD_mem {α : Type} : ∀ {l : List α} {d : α}, l ≠ [] → l.getLastD d ∈ l
 | [], _, h => absurd rfl h
 | a :: l, d, _ => by
  rw [List.getLastD_cons]
  cases l with
  | nil => simp
  | cons b l => exact List.mem_cons_of_mem _ (getLastD_mem (by simp))
theorem memsAt_ok {lt : ByteArray → Int} (hb : ∀ s, 0 ≤ lt s ∧ lt s ≤ 2) {ks : Env Int} : ∀ (e : Ex), formAll ks e = true → lateOf lt e ≤ 1 → ∀ m, ∀ x ∈ memsAt m e, formAll ks x.1 = true ∧ lateOf lt x.1 = 0 := by
 refine Ex.ind fun o n s l ih hf h m x hx => ?_
 obtain ⟨hsub, hfby, harr, hpre, _⟩ := formAll_parts hf
 obtain ⟨hp1, hp2⟩ := late_parts hb hf h
 have hL : ∀ (l : List Ex), (∀ e ∈ l, ∀ m, ∀ x ∈ memsAt m e, formAll ks x.1 = true ∧ lateOf lt x.1 = 0) → ∀ m, ∀ x ∈ memsAtL m l, formAll ks x.1 = true ∧ lateOf lt x.1 = 0 := by
  intro l
  induction l with
  | nil => intro _ m x hx; simp [memsAtL] at hx
  | cons e l ihl =>
   intro hh m x hx
   simp only [memsAtL, List.mem_append] at hx
   rcases hx with hx | hx
   ·exact hh e (List.mem_cons_self ..) m x hx
   ·exact ihl (fun y hy => hh y (List.mem_cons_of_mem _ hy)) _ x hx
 simp only [memsAt, List.mem_append] at hx
 rcases hx with hx | hx
 ·exact hL l (fun e he => ih e he (hsub e he) (hp1 e he)) m x hx
 ·split at hx
  ·rename_i ho
   rw [List.mem_singleton.1 hx]
   refine ⟨hsub _ (getLastD_mem fun e => ?_), hp2 ho _⟩
   rcases ho with ho | ho
   ·have := hpre ho; rw [e] at this; simp at this
   ·have := hfby ho; rw [e] at this; simp at this
  ·cases hx
theorem memsAtL_ok {lt : ByteArray → Int} (hb : ∀ s, 0 ≤ lt s ∧ lt s ≤ 2) {ks : Env Int} : ∀ (l : List Ex), (∀ e ∈ l, formAll ks e = true ∧ lateOf lt e ≤ 1) → ∀ m, ∀ x ∈ memsAtL m l, formAll ks x.1 = true ∧ lateOf lt x.1 = 0
 | [], _, m, x, hx => by simp [memsAtL] at hx
 | e :: l, hh, m, x, hx => by
  simp only [memsAtL, List.mem_append] at hx
  rcases hx with hx | hx
  ·exact memsAt_ok hb e (hh e (List.mem_cons_self ..)).1 (hh e (List.mem_cons_self ..)).2 m x hx
  ·exact memsAtL_ok hb l (fun y hy => hh y (List.mem_cons_of_mem _ hy)) _ x hx
theorem withAt_len : ∀ (l : List Ex) (m : Nat), (withAt m l).length = l.length
 | [], _ => rfl
 | e :: l, m => by simp [withAt, withAt_len l]
theorem withAt_fst : ∀ (l : List Ex) (m : Nat), (withAt m l).map (·.1) = l
 | [], _ => rfl
 | e :: l, m => by simp [withAt, withAt_fst l]
theorem withAt_mem {l : List Ex} {m : Nat} {x : Ex × Nat} (h : x ∈ withAt m l) : x.1 ∈ l := by
 have := List.mem_map_of_mem (f := (·.1)) h
 rwa [withAt_fst] at this
def cdOf (p : Pr) (ord : List Nat) : Cd where
 ord := ord
 fs := withAt 0 (p.fl.map (·.e))
 av := withAt (memNL (p.fl.map (·.e))) p.as
 cv := withAt (memNL (p.fl.map (·.e)) + memNL p.as) p.cs
 outs := p.outs.map (getI (nmEnv p))
 ms := memsAtL 0 p.terms
theorem outsGo_mem (fl : List ByteArray) : ∀ (l seen : List ByteArray), outsGo fl seen l = true → ∀ s ∈ l, s ∈ fl
 | [], _, _, s, hs => by cases hs
 | x :: l, seen, h, s, hs => by
  simp only [outsGo, Bool.and_eq_true] at h
  rcases List.mem_cons.1 hs with rfl | hs
  ·simpa using h.1.1
  ·exact outsGo_mem fl l _ h.2 s hs
theorem checkM_zero {p : Pr} (h : (checkM p).1 = 0) : ∃ l, orderM p = .ok l ∧ (∀ k (hk : k < p.fl.length), hit p p.fl[k].name = false) ∧ ∀ e ∈ p.as ++ p.cs, lateOf (namesM p) e = 0 := by
 cases hl : lateM p with
 | error x =>
  rw [checkM_late hl] at h
  exact absurd h (lateM_pos hl)
 | ok r =>
  obtain ⟨hr, _⟩ := lateM_ok hl
  subst hr
  have hno : ∀ k (hk : k < p.fl.length), hit p p.fl[k].name = false := by
   intro k
   induction k using Nat.strongRecOn with
   | ind k ih =>
    intro hk
    cases hh : hit p p.fl[k].name with
    | false => rfl
    | true =>
     rw [checkM_hit hl k hk hh fun j hj hjk => ih j hjk hj] at h
     cases h
  have he := checkM_end hl hno
  rw [he] at h
  split at h
  ·cases h
  ·rename_i hany
   unfold lateM at hl
   split at hl
   ·cases hl
   ·rename_i l ho
    refine ⟨l, ho, hno, fun e hm => ?_⟩
    have := (late_bound (namesM p) (namesM_fix p).1 e).1
    by_cases h0 : 0 < lateOf (namesM p) e
    ·exact absurd (List.any_eq_true.2 ⟨e, hm, by simpa using h0⟩) hany
    ·omega
theorem sortN_low {g : List (List Nat)} (hp : ∀ j, j < g.length → pick g (sortN g j []) < g.length) : ∀ j, j ≤ g.length → ∀ k ∈ sortN g j [], k < g.length
 | 0, _, k, hk => by simp [sortN] at hk
 | j + 1, hj, k, hk => by
  rw [sortN_out, List.mem_append, List.mem_singleton] at hk
  rcases hk with hk | rfl
  ·exact sortN_low hp j (by omega) k hk
  ·exact hp j (by omega)
theorem orderM_low {p : Pr} {l : List Nat} (h : orderM p = .ok l) : checkFlat p = 0 ∧ l.length = p.fl.length ∧ ∀ k ∈ l, k < p.fl.length := by
 unfold orderM at h
 split at h
 ·cases h
 ·rename_i h0
  have hc : checkFlat p = 0 := by simpa using h0
  split at h
  ·cases h
  ·rename_i hf
   cases h
   refine ⟨hc, by rw [sortN_len, graph_len]; simp, fun k hk => ?_⟩
   rw [← graph_len]
   refine sortN_low (any_hpick p hc fun j hj => ?_) _ (Nat.le_refl _) k hk
   have := List.find?_eq_none.1 hf j (by simpa using hj)
   simpa using this
theorem cd_ok {p : Pr} (h : (checkM p).1 = 0) {ks : Env Int} (hks : freshGo Env.none p.vars = some ks) {l : List Nat} (ho : orderM p = .ok l) (nb : Bool) (ni : Int) : CdOk ⟨ks, namesM p, getI (nmEnv p), nb, ni⟩ ks (nfOf p) (cdOf p l) := by
 obtain ⟨l', ho', hno, hac⟩ := checkM_zero h
 obtain ⟨hck, _, hlow⟩ := orderM_low ho
 obtain ⟨ks', hks', hout, hfm, _, _, _, _⟩ := check_zero hck
 rw [hks] at hks'
 cases hks'
 obtain ⟨hb, hfix⟩ := namesM_fix p
 have hform : ∀ e ∈ p.terms, formAll ks e = true := fun e he => by
  obtain ⟨i, hi, rfl⟩ := List.mem_iff_getElem.1 he
  exact (formAllL_get ks _).1 hfm i hi
 have hone : ∀ k (hk : k < p.fl.length), namesM p p.fl[k].name ≤ 1 ∧ (p.outs.contains p.fl[k].name = true → namesM p p.fl[k].name = 0) := fun k hk => by
  have h1 := hno k hk
  unfold hit at h1
  simp only [Bool.or_eq_false_iff, Bool.and_eq_false_iff, decide_eq_false_iff_not] at h1
  have h2 := hb p.fl[k].name
  refine ⟨by omega, fun hc => ?_⟩
  rcases h1.2 with h3 | h3
  ·omega
  ·rw [hc] at h3; cases h3
 have hlate : ∀ e ∈ p.terms, lateOf (namesM p) e ≤ 1 := fun e he => by
  simp only [Pr.terms, List.mem_append, List.mem_map] at he
  rcases he with (⟨f, hf, rfl⟩ | he) | he
  ·obtain ⟨k, hk, rfl⟩ := List.mem_iff_getElem.1 hf
   have := hfix _ hf
   have := (hone k hk).1
   omega
  ·rw [hac e (List.mem_append_left _ he)]; omega
  ·rw [hac e (List.mem_append_right _ he)]; omega
 refine ⟨hb, fun k hk => ?_, fun s h1 h2 => nm_of hck hks s h1 h2, fun k hk => ?_, fun x hx => ?_, fun x hx => ?_, memsAtL_ok hb _ (fun e he => ⟨hform e he, hlate e he⟩) 0, fun i hi => ?_⟩
 ·show k < (withAt 0 _).length
  rw [withAt_len]
  simpa using hlow k hk
 ·have hk' : k < p.fl.length := by have h2 : k < (withAt 0 (p.fl.map (·.e))).length := hk; rw [withAt_len] at h2; simpa using h2
  have he : ((cdOf p l).fs[k]).1 = p.fl[k].e := by
   have h3 := withAt_fst (p.fl.map (·.e)) 0
   have h4 : ((withAt 0 (p.fl.map (·.e))).map (·.1))[k]? = (p.fl.map (·.e))[k]? := by rw [h3]
   simp only [List.getElem?_map] at h4
   rw [List.getElem?_eq_getElem (show k < (withAt 0 (p.fl.map (·.e))).length from hk), List.getElem?_eq_getElem hk'] at h4
   have h5 := Option.some.inj h4
   exact h5
  rw [he]
  refine ⟨hform _ (terms_fl p (List.getElem_mem hk')), ?_⟩
  have : nfOf p k = p.fl[k].name := by simp [nfOf, List.getD_eq_getElem?_getD, hk']
  rw [this]
  exact hfix _ (List.getElem_mem hk')
 ·have := withAt_mem hx
  exact ⟨hform _ (by simp [Pr.terms, this]), hac _ (List.mem_append_left _ this)⟩
 ·have := withAt_mem hx
  exact ⟨hform _ (by simp [Pr.terms, this]), hac _ (List.mem_append_right _ this)⟩
 ·obtain ⟨s, hs, rfl⟩ := List.mem_map.1 hi
  have hm := outsGo_mem _ _ _ hout s hs
  obtain ⟨k, hk, e⟩ := List.mem_iff_getElem.1 hm
  have hk' : k < p.fl.length := by simpa using hk
  have e' : p.fl[k].name = s := by simpa using e
  have h5 := nm_flow hck k hk'
  rw [e'] at h5
  rw [h5]
  have : nfOf p (k : Int).toNat = p.fl[k].name := by simp [nfOf, List.getD_eq_getElem?_getD, hk']
  rw [this]
  exact (hone k hk').2 (by rw [e']; simpa using hs)
end Go.Proofs.YtmeldgjlgifdhaaDoor
