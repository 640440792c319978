/- Plain: an instant's flows are a fixed point: each flow is what its term is among all flows of the instant; no program in sight. -/
import Derived.Test.YtnaijgmfjpmpjaaGreatDoorCpM
import Derived.Test.YtnaijgmfjpmpjaaGreatDoorTkM
namespace Go.Proofs.YtnaijgmfjpmpjaaGreatDoor
open Mx
theorem memN_parts (o : ByteArray) (n : Int) (s : ByteArray) (l : List Ex) : memN (.mk o n s l) = memNL l + (if o = oPre ∨ o = oFby then 1 else 0) := by rw [memN]
theorem needsL_mem {at_ : Env Nat} : ∀ {l : List Ex} {e : Ex} {k : Nat}, e ∈ l → k ∈ needs at_ e → k ∈ needsL at_ l
 | x :: l, e, k, he, hk => by
  simp only [needsL, List.mem_append]
  rcases List.mem_cons.1 he with rfl | he
  ·exact .inl hk
  ·exact .inr (needsL_mem he hk)
theorem eval_agree {R : REnv} {ks : Env Int} {at_ : Env Nat} (hnm : ∀ s, (ks s).isSome = true → 0 ≤ R.nm s → at_ s = some (R.nm s).toNat) {r r' : Inst} (hf : r.first = r'.first) (hi : r.inp = r'.inp) :
  ∀ e : Ex, formAll ks e = true → ∀ m m', (∀ j, j < memN e → r.mem.getD (m + j) vz = r'.mem.getD (m' + j) vz) → (∀ k ∈ needs at_ e, r.now.getD k vz = r'.now.getD k vz) → evalM R r m e = evalM R r' m' e := by
 refine Ex.ind fun o n s l ih hfo m m' hm hn => ?_
 obtain ⟨hsub, hfby, harr, hpre, _⟩ := formAll_parts hfo
 rw [memN_parts] at hm
 have hL : ∀ (l : List Ex), (∀ e ∈ l, formAll ks e = true → ∀ m m', (∀ j, j < memN e → r.mem.getD (m + j) vz = r'.mem.getD (m' + j) vz) → (∀ k ∈ needs at_ e, r.now.getD k vz = r'.now.getD k vz) → evalM R r m e = evalM R r' m' e) →
   (∀ e ∈ l, formAll ks e = true) → ∀ (k m m' : Nat), (∀ j, j < memNL l → r.mem.getD (m + j) vz = r'.mem.getD (m' + j) vz) → (∀ i (h : i < l.length), i < k → ∀ x ∈ needs at_ l[i], r.now.getD x vz = r'.now.getD x vz) → evalsM R r m k l = evalsM R r' m' k l := by
  intro l
  induction l with
  | nil => intro _ _ k m m' _ _; simp [evalsM]
  | cons e l ihl =>
   intro hh hff k m m' hmm hnn
   cases k with
   | zero => simp [evalsM]
   | succ k =>
    simp only [evalsM]
    simp only [memNL] at hmm
    have e1 := hh e (List.mem_cons_self ..) (hff e (List.mem_cons_self ..)) m m' (fun j hj => hmm j (by omega)) (fun x hx => hnn 0 (by simp) (by omega) x (by simpa using hx))
    have e2 := ihl (fun y hy => hh y (List.mem_cons_of_mem _ hy)) (fun y hy => hff y (List.mem_cons_of_mem _ hy)) k (m + memN e) (m' + memN e) (fun j hj => by
     have := hmm (memN e + j) (by omega)
     rw [← Nat.add_assoc, ← Nat.add_assoc] at this
     exact this) (fun i h hik x hx => hnn (i + 1) (by simpa using h) (by omega) x (by simpa using hx))
    rw [e1, e2]
 have hvs : evalsM R r m (if o = oPre then 0 else if o = oFby then 1 else l.length) l = evalsM R r' m' (if o = oPre then 0 else if o = oFby then 1 else l.length) l := by
  refine hL l (fun e he => ih e he) hsub _ m m' (fun j hj => hm j (by omega)) fun i h hik x hx => hn x ?_
  simp only [needs]
  by_cases e1 : o = oPre
  ·rw [if_pos e1] at hik; omega
  ·rw [if_neg e1] at hik ⊢
   by_cases e2 : o = oFby
   ·rw [if_pos e2] at hik ⊢
    obtain rfl : i = 0 := by omega
    cases l with
    | nil => simp at h
    | cons y l => simpa [needsH] using hx
   ·rw [if_neg e2]
    exact List.mem_append_right _ (needsL_mem (List.getElem_mem h) hx)
 simp only [evalM]
 rw [hvs, hf]
 suffices hs : ∀ late vs, valM R r (m + memNL l) o n s late vs = valM R r' (m' + memNL l) o n s late vs by rw [hs]
 intro late vs
 unfold valM
 rw [hf, hi]
 by_cases e1 : o = oInt
 ·rw [if_pos e1, if_pos e1]
 rw [if_neg e1, if_neg e1]
 by_cases e2 : o = oTrue ∨ o = oFalse
 ·rw [if_pos e2, if_pos e2]
 rw [if_neg e2, if_neg e2]
 by_cases e3 : o = oName
 ·rw [if_pos e3, if_pos e3]
  by_cases h5 : R.nm s < 0
  ·rw [if_pos h5, if_pos h5]
  ·have hks : (ks s).isSome = true := by
    simp only [formAll, Bool.and_eq_true, Bool.or_eq_true, decide_eq_true_eq] at hfo
    exact hfo.1.2.resolve_left (fun h => h e3)
   rw [if_neg h5, if_neg h5, hn (R.nm s).toNat ?_]
   simp only [needs]
   rw [if_neg (by rw [e3]; decide), if_neg (by rw [e3]; decide), if_pos e3, hnm s hks (by omega)]
   simp
 rw [if_neg e3, if_neg e3]
 by_cases e4 : o = oPre
 ·rw [if_pos e4, if_pos e4, hm (memNL l) (by rw [if_pos (.inl e4)]; omega)]
 rw [if_neg e4, if_neg e4]
 by_cases e5 : o = oFby
 ·rw [if_pos e5, if_pos e5, hm (memNL l) (by rw [if_pos (.inr e5)]; omega)]
 rw [if_neg e5, if_neg e5]
theorem nm_at {p : Pr} (hck : checkFlat p = 0) {ks : Env Int} (hks : freshGo Env.none p.vars = some ks) (s : ByteArray) (h1 : (ks s).isSome = true) (h2 : 0 ≤ getI (nmEnv p) s) : p.atOf s = some (getI (nmEnv p) s).toNat := by
 have hk := (nm_range hck hks s h1).2 h2
 have h3 := nm_of hck hks s h1 h2
 generalize (getI (nmEnv p) s).toNat = k at h3 hk ⊢
 have h6 : nfOf p k = p.fl[k].name := by simp [nfOf, List.getD_eq_getElem?_getD, hk]
 have h5 := at_get p.fl 0 Env.none (names_nd hck) k hk
 rw [h3, h6]
 unfold Pr.atOf
 rw [h5]
 simp
def Topo (g : List (List Nat)) (ord : List Nat) : Prop := ∀ i (h : i < ord.length), ord[i] ∉ ord.take i ∧ ∀ x ∈ g.getD ord[i] [], x ∈ ord.take i
theorem topo_snoc {g : List (List Nat)} {l : List Nat} {k : Nat} (h : Topo g l) (h1 : k ∉ l) (h2 : ∀ x ∈ g.getD k [], x ∈ l) : Topo g (l ++ [k]) := fun i hi => by
 by_cases hil : i < l.length
 ·rw [List.getElem_append_left hil, List.take_append_of_le_length (by omega)]
  exact h i hil
 ·simp only [List.length_append, List.length_singleton] at hi
  obtain rfl : i = l.length := by omega
  rw [List.take_left, show (l ++ [k])[l.length] = k from by simp]
  exact ⟨h1, h2⟩
theorem sort_topo {g : List (List Nat)} (hp : ∀ j, j < g.length → pick g (sortN g j []) < g.length) : ∀ j, j ≤ g.length → Topo g (sortN g j [])
 | 0, _ => fun i hi => by simp [sortN] at hi
 | j + 1, hj => by
  rw [sortN_out]
  have h := pick_free (hp j (by omega))
  unfold freeB at h
  simp only [Bool.and_eq_true, Bool.not_eq_true', List.all_eq_true] at h
  refine topo_snoc (sort_topo hp j (by omega)) (fun hm => ?_) fun x hx => ?_
  ·have := List.contains_iff_mem.2 hm
   rw [h.1] at this; cases this
  ·exact List.contains_iff_mem.1 (h.2 x hx)
theorem orderM_topo {p : Pr} {l : List Nat} (h : orderM p = .ok l) : Topo p.graph l := by
 unfold orderM at h
 split at h
 ·cases h
 ·rename_i h0
  have hc : checkFlat p = 0 := by simpa using h0
  split at h
  ·cases h
  ·rename_i hf
   cases h
   refine sort_topo (any_hpick p hc fun j hj => ?_) _ (Nat.le_refl _)
   have := List.find?_eq_none.1 hf j (by simpa using hj)
   simpa using this
theorem nodup_len : ∀ (n : Nat) (l : List Nat), l.Nodup → (∀ x ∈ l, x < n) → l.length ≤ n
 | 0, l, _, h => by
  cases l with
  | nil => simp
  | cons x l => exact absurd (h x (List.mem_cons_self ..)) (by omega)
 | n + 1, l, hn, h => by
  have h1 := nodup_len n (l.erase n) (hn.erase n) fun x hx => by
   have h2 := (List.Nodup.mem_erase_iff hn).1 hx
   have := h x h2.2
   omega
  have h3 := List.length_erase (a := n) (l := l)
  split at h3 <;> omega
theorem topo_nodup {g : List (List Nat)} {ord : List Nat} (h : Topo g ord) : ord.Nodup := by
 rw [List.nodup_iff_pairwise_ne, List.pairwise_iff_getElem]
 intro i j hi hj hij e
 refine (h j hj).1 ?_
 rw [← e]
 exact List.mem_take_iff_getElem.2 ⟨i, by omega, rfl⟩
theorem order_all {p : Pr} {l : List Nat} (h : orderM p = .ok l) : ∀ k, k < p.fl.length → k ∈ l := by
 obtain ⟨_, hlen, hlow⟩ := orderM_low h
 intro k hk
 refine Classical.byContradiction fun hn => ?_
 have := nodup_len p.fl.length (k :: l) (List.nodup_cons.2 ⟨hn, topo_nodup (orderM_topo h)⟩) fun x hx => by
  rcases List.mem_cons.1 hx with rfl | hx
  ·exact hk
  ·exact hlow x hx
 simp at this
 omega
abbrev d0 : Ex × Nat := (.mk ⟨#[]⟩ 0 ⟨#[]⟩ [], 0)
def evAt (R : REnv) (first : Bool) (mem inp : List Vl) (fs : List (Ex × Nat)) (now : List Vl) (k : Nat) : Vl × Bool := evalM R ⟨first, mem, inp, now⟩ (fs.getD k d0).2 (fs.getD k d0).1
theorem now_go {R : REnv} {ks : Env Int} {at_ : Env Nat} (hnm : ∀ s, (ks s).isSome = true → 0 ≤ R.nm s → at_ s = some (R.nm s).toNat) (first : Bool) (mem inp : List Vl) (fs : List (Ex × Nat)) (g : List (List Nat)) :
  ∀ (rest done : List Nat) (now : List Vl) (t : Bool), Topo g (done ++ rest) → (∀ k ∈ done ++ rest, k < now.length ∧ formAll ks (fs.getD k d0).1 = true ∧ ∀ x ∈ needs at_ (fs.getD k d0).1, x ∈ g.getD k []) →
   (∀ k ∈ done, now.getD k vz = (evAt R first mem inp fs now k).1) → (t = done.any fun k => (evAt R first mem inp fs now k).2) →
   (nowM R first mem inp fs rest now t).1.length = now.length ∧ (∀ k ∈ done ++ rest, (nowM R first mem inp fs rest now t).1.getD k vz = (evAt R first mem inp fs (nowM R first mem inp fs rest now t).1 k).1) ∧
    (nowM R first mem inp fs rest now t).2 = (done ++ rest).any fun k => (evAt R first mem inp fs (nowM R first mem inp fs rest now t).1 k).2
 | [], done, now, t, _, _, h1, h2 => by simpa [nowM] using ⟨h1, h2⟩
 | k :: rest, done, now, t, ht, hk, h1, h2 => by
  have hkk := ht done.length (by simp)
  have e0 : (done ++ k :: rest)[done.length] = k := by simp
  rw [e0, List.take_left] at hkk
  obtain ⟨hnk, hneed⟩ := hkk
  have hkl := (hk k (by simp)).1
  have hx : ∀ x ∈ done, ∀ v, (now.set k v).getD x vz = now.getD x vz := fun x hxd v => by
   have : k ≠ x := fun e => hnk (e ▸ hxd)
   simp [List.getD_eq_getElem?_getD, List.getElem?_set_ne this]
  have hev : ∀ y ∈ done ++ k :: rest, (∀ x ∈ g.getD y [], x ∈ done) → ∀ v, evAt R first mem inp fs (now.set k v) y = evAt R first mem inp fs now y := fun y hy hsub v => by
   unfold evAt
   exact eval_agree (at_ := at_) (r := ⟨first, mem, inp, now.set k v⟩) (r' := ⟨first, mem, inp, now⟩) hnm rfl rfl _ (hk y hy).2.1 _ _ (fun _ _ => rfl) fun x hx' => hx x (hsub x ((hk y hy).2.2 x hx')) v
  have hsubd : ∀ y ∈ done, ∀ x ∈ g.getD y [], x ∈ done := fun y hy x hxg => by
   obtain ⟨i, hi, rfl⟩ := List.mem_iff_getElem.1 hy
   have h3 := (ht i (by simp; omega)).2
   rw [List.getElem_append_left hi, List.take_append_of_le_length (by omega)] at h3
   exact List.mem_of_mem_take (h3 x hxg)
  have hstep : nowM R first mem inp fs (k :: rest) now t = nowM R first mem inp fs rest (now.set k (evAt R first mem inp fs now k).1) (t || (evAt R first mem inp fs now k).2) := rfl
  rw [hstep]
  have hgo := now_go hnm first mem inp fs g rest (done ++ [k]) (now.set k (evAt R first mem inp fs now k).1) (t || (evAt R first mem inp fs now k).2) (by simpa using ht) (fun y hy => by simpa using hk y (by simpa using hy)) (fun y hy => by
   rcases List.mem_append.1 hy with hy | hy
   ·rw [hx y hy, h1 y hy, hev y (List.mem_append_left _ hy) (hsubd y hy)]
   ·obtain rfl := List.mem_singleton.1 hy
    rw [hev y (by simp) hneed]
    simp [List.getD_eq_getElem?_getD, hkl]) (by
   rw [List.any_append, h2]
   congr 1
   ·rw [Bool.eq_iff_iff]
    simp only [List.any_eq_true]
    constructor
    ·rintro ⟨y, hy, h⟩; exact ⟨y, hy, by rw [hev y (List.mem_append_left _ hy) (hsubd y hy)]; exact h⟩
    ·rintro ⟨y, hy, h⟩; exact ⟨y, hy, by rw [hev y (List.mem_append_left _ hy) (hsubd y hy)] at h; exact h⟩
   ·simp [hev k (by simp) hneed])
  simpa using hgo
theorem withAt_get? : ∀ (l : List Ex) (m k : Nat) (h : k < l.length), (withAt m l)[k]? = some (l[k], m + memNL (l.take k))
 | [], m, k, h => by simp at h
 | e :: l, m, 0, _ => by simp [withAt, memNL]
 | e :: l, m, k + 1, h => by
  simp only [withAt, List.getElem?_cons_succ, List.getElem_cons_succ, List.take_succ_cons, memNL]
  rw [withAt_get? l (m + memN e) k (by simpa using h), Nat.add_assoc]
def flAt (p : Pr) (k : Nat) : Nat := memNL ((p.fl.map (·.e)).take k)
theorem fs_get (p : Pr) (ord : List Nat) (k : Nat) (h : k < p.fl.length) : (cdOf p ord).fs.getD k d0 = (p.fl[k].e, flAt p k) := by
 have := withAt_get? (p.fl.map (·.e)) 0 k (by simpa using h)
 show (withAt 0 (p.fl.map (·.e))).getD k d0 = _
 rw [List.getD_eq_getElem?_getD, this]
 simp [flAt]
theorem now_fix {p : Pr} (h : (checkM p).1 = 0) {ks : Env Int} (hks : freshGo Env.none p.vars = some ks) {ord : List Nat} (ho : orderM p = .ok ord) (R : REnv) (hnmR : R.nm = getI (nmEnv p)) (first : Bool) (mem inp : List Vl) :
  (nowM R first mem inp (cdOf p ord).fs ord (List.replicate p.fl.length vz) false).1.length = p.fl.length ∧
  (∀ k (hk : k < p.fl.length), (nowM R first mem inp (cdOf p ord).fs ord (List.replicate p.fl.length vz) false).1.getD k vz = (evalM R ⟨first, mem, inp, (nowM R first mem inp (cdOf p ord).fs ord (List.replicate p.fl.length vz) false).1⟩ (flAt p k) p.fl[k].e).1) ∧
  ((nowM R first mem inp (cdOf p ord).fs ord (List.replicate p.fl.length vz) false).2 = true ↔ ∃ k, ∃ hk : k < p.fl.length, (evalM R ⟨first, mem, inp, (nowM R first mem inp (cdOf p ord).fs ord (List.replicate p.fl.length vz) false).1⟩ (flAt p k) p.fl[k].e).2 = true) := by
 obtain ⟨hck, hlen, hlow⟩ := orderM_low ho
 obtain ⟨ks', hks', _, hfm, _⟩ := check_zero hck
 rw [hks] at hks'
 cases hks'
 have hform : ∀ k (hk : k < p.fl.length), formAll ks p.fl[k].e = true := fun k hk => by
  obtain ⟨i, hi, e⟩ := List.mem_iff_getElem.1 (terms_fl p (List.getElem_mem hk))
  rw [← e]
  exact (formAllL_get ks _).1 hfm i hi
 have hgo := now_go (R := R) (ks := ks) (at_ := p.atOf) (fun s h1 h2 => by rw [hnmR] at h2 ⊢; exact nm_at hck hks s h1 h2) first mem inp (cdOf p ord).fs p.graph ord [] (List.replicate p.fl.length vz) false (by simpa using orderM_topo ho) (fun k hk => by
  have hkl := hlow k (by simpa using hk)
  refine ⟨by simpa using hkl, by rw [fs_get p ord k hkl]; exact hform k hkl, fun x hx => ?_⟩
  rw [fs_get p ord k hkl] at hx
  have : p.graph.getD k [] = needs p.atOf p.fl[k].e := by simp [Pr.graph, List.getD_eq_getElem?_getD, hkl]
  rw [this]
  exact hx) (fun k hk => by cases hk) (by simp)
 generalize nowM R first mem inp (cdOf p ord).fs ord (List.replicate p.fl.length vz) false = N at *
 obtain ⟨g1, g2, g3⟩ := hgo
 refine ⟨by simpa using g1, fun k hk => ?_, ?_⟩
 ·have := g2 k (by simpa using order_all ho k hk)
  unfold evAt at this
  rw [fs_get p ord k hk] at this
  exact this
 ·rw [g3, List.any_eq_true]
  constructor
  ·rintro ⟨k, hk, h⟩
   have hkl := hlow k (by simpa using hk)
   unfold evAt at h
   rw [fs_get p ord k hkl] at h
   exact ⟨k, hkl, h⟩
  ·rintro ⟨k, hk, h⟩
   refine ⟨k, by simpa using order_all ho k hk, ?_⟩
   unfold evAt
   rw [fs_get p ord k hk]
   exact h
end Go.Proofs.YtnaijgmfjpmpjaaGreatDoor
namespace Go.Proofs.YtnaijgmfjpmpjaaGreatDoor
open Mx
theorem right_tv (b : Bool) : rightV (tv b) 1 = true := by cases b <;> decide
theorem right_wv (n : Int) : rightV (wv n) 2 = true := by
 have h1 := Int.emod_nonneg n (show (256 : Int) ≠ 0 by decide)
 have h2 := Int.emod_lt_of_pos n (show (0 : Int) < 256 by decide)
 unfold rightV wv around
 simp only [decide_true, Bool.true_and]
 split <;> simp <;> omega
theorem right_nil {nb : Bool} {ni : Int} (h1 : -128 ≤ ni) (h2 : ni ≤ 127) {k : Int} (hk : k = 1 ∨ k = 2) : rightV (nilV nb ni k) k = true := by
 unfold nilV
 rcases hk with rfl | rfl
 ·exact right_tv nb
 ·simp [rightV, h1, h2]
theorem right_kind {v : Vl} {k : Int} (h : rightV v k = true) : v.kind = k ∧ (k = 1 ∨ k = 2) := by
 unfold rightV at h
 simp only [Bool.and_eq_true, decide_eq_true_eq] at h
 refine ⟨h.1, ?_⟩
 by_cases e : k = 1
 ·exact .inl e
 ·rw [if_neg e] at h
  simp only [Bool.and_eq_true, decide_eq_true_eq] at h
  exact .inr h.2.1.1
def opsL : List ByteArray := [oInt, oTrue, oFalse, oName, oNot, oNeg, oPre, oIf, oCall, oArrow, oFby, oOr, oXor, oAnd, oEq, oNe, oLt, oLe, oGt, oGe, oImp, oAdd, oSub, oMul, oDiv, oMod]
theorem arity_ops {o : ByteArray} {k : Int} (h : arity o = some k) : o ∈ opsL := by
 unfold arity at h
 unfold opsL
 simp only [List.mem_cons, List.not_mem_nil, or_false]
 split at h
 ·rename_i e; rcases e with e | e | e | e <;> simp [e]
 split at h
 ·rename_i e; rcases e with e | e | e <;> simp [e]
 split at h
 ·rename_i e; simp [e]
 split at h
 ·rename_i e; simp [e]
 split at h
 ·rename_i e; rcases e with e | e <;> simp [e]
 split at h
 ·rename_i e
  simp only [levels, List.any_cons, List.any_nil, List.contains_cons, List.contains_nil, Bool.or_false, Bool.or_eq_true, beq_iff_eq] at e
  rcases e with ((e | e) | e | (e | e | e | e | e | e | e) | (e | e) | (e | e | e)) <;> simp [e]
 ·cases h
theorem app_right {o : ByteArray} {k : Int} (ho : o ∈ opsL) (n1 : o ≠ oInt ∧ o ≠ oTrue ∧ o ≠ oFalse ∧ o ≠ oName ∧ o ≠ oPre ∧ o ≠ oArrow ∧ o ≠ oFby ∧ o ≠ oCall) {vs : List Vl} (hv : ∀ v ∈ vs, rightV v v.kind = true)
  (hk : kindBy o k (vs.map (·.kind)) ≠ 0) : if (appM o vs).2 = true then kindBy o k (vs.map (·.kind)) = 2 else rightV (appM o vs).1 (kindBy o k (vs.map (·.kind))) = true := by
 obtain ⟨a1, a2, a3, a4, a5, a6, a7, a8⟩ := n1
 unfold opsL at ho
 simp only [List.mem_cons, List.not_mem_nil, or_false, a1, a2, a3, a4, a5, a6, a7, a8, false_or] at ho
 by_cases hif : o = oIf
 ·subst hif
  have e : kindBy oIf k (vs.map (·.kind)) = (if (vs.map (·.kind)).getD 0 0 = 1 ∧ (vs.map (·.kind)).getD 1 0 = (vs.map (·.kind)).getD 2 0 then (vs.map (·.kind)).getD 1 0 else 0) := rfl
  have e2 : appM oIf vs = (if (vs.getD 0 vz).n = 1 then vs.getD 1 vz else vs.getD 2 vz, false) := rfl
  rw [e] at hk ⊢
  rw [e2]
  by_cases hc : (vs.map (·.kind)).getD 0 0 = 1 ∧ (vs.map (·.kind)).getD 1 0 = (vs.map (·.kind)).getD 2 0
  ·rw [if_pos hc] at hk ⊢
   have hg : ∀ j, (vs.map (·.kind)).getD j 0 = (vs.getD j vz).kind := fun j => by
    simp only [List.getD_eq_getElem?_getD, List.getElem?_map]
    cases vs[j]? <;> rfl
   have hr : ∀ j, (vs.getD j vz).kind ≠ 0 → rightV (vs.getD j vz) (vs.getD j vz).kind = true := fun j hj => by
    by_cases hl : j < vs.length
    ·have : vs.getD j vz = vs[j] := by simp [List.getD_eq_getElem?_getD, hl]
     rw [this]
     exact hv _ (List.getElem_mem hl)
    ·have : vs.getD j vz = vz := by simp [List.getD_eq_getElem?_getD, hl]
     rw [this] at hj
     exact absurd rfl hj
   rw [hg 1, hg 2] at hc
   rw [hg 1] at hk ⊢
   simp only [Bool.false_eq_true, if_false]
   split
   ·exact hr 1 hk
   ·rw [hc.2]
    exact hr 2 (by rw [← hc.2]; exact hk)
  ·rw [if_neg hc] at hk
   exact absurd rfl hk
 have hs : ∀ c d : Bool, (if (c && d) = true then (1 : Int) else 0) ≠ 0 → (if (c && d) = true then (1 : Int) else 0) = 1 := by intro c d; cases c <;> cases d <;> simp
 have hs1 : ∀ c : Bool, (if c = true then (1 : Int) else 0) ≠ 0 → (if c = true then (1 : Int) else 0) = 1 := by intro c; cases c <;> simp
 have hs2 : ∀ c d : Bool, (if (c && d) = true then (2 : Int) else 0) ≠ 0 → (if (c && d) = true then (2 : Int) else 0) = 2 := by intro c d; cases c <;> cases d <;> simp
 have T : ∀ {b : Bool} {x : Int}, appM o vs = (tv b, false) → x = 1 → if (appM o vs).2 = true then x = 2 else rightV (appM o vs).1 x = true := fun e ex => by
  rw [e, ex]
  exact right_tv _
 have W : ∀ {n : Int} {x : Int}, appM o vs = (wv n, false) → x = 2 → if (appM o vs).2 = true then x = 2 else rightV (appM o vs).1 x = true := fun e ex => by
  rw [e, ex]
  exact right_wv _
 generalize hK : vs.map (·.kind) = K at *
 rcases ho with rfl | rfl | rfl | rfl | rfl | rfl | rfl | rfl | rfl | rfl | rfl | rfl | rfl | rfl | rfl | rfl | rfl | rfl
 ·exact T rfl (hs _ _ hk)
 ·exact W rfl (hs2 _ _ hk)
 ·exact absurd rfl hif
 ·exact T rfl (hs _ _ hk)
 ·exact T rfl (hs _ _ hk)
 ·exact T rfl (hs _ _ hk)
 ·exact T rfl (hs1 _ hk)
 ·exact T rfl (hs1 _ hk)
 ·exact T rfl (hs _ _ hk)
 ·exact T rfl (hs _ _ hk)
 ·exact T rfl (hs _ _ hk)
 ·exact T rfl (hs _ _ hk)
 ·exact T rfl (hs _ _ hk)
 ·exact W rfl (hs2 _ _ hk)
 ·exact W rfl (hs2 _ _ hk)
 ·exact W rfl (hs2 _ _ hk)
 ·by_cases h0 : (vs.getD 1 vz).n = 0
  ·have e : appM oDiv vs = (vz, true) := by unfold appM; generalize vs.getD 1 vz = b at h0 ⊢; simp [h0]
   rw [e]
   exact hs2 _ _ hk
  ·exact W (show appM oDiv vs = (wv ((vs.getD 0 vz).n.tdiv (vs.getD 1 vz).n), false) from by unfold appM; generalize vs.getD 1 vz = b at h0 ⊢; generalize vs.getD 0 vz = a; simp [h0]) (hs2 _ _ hk)
 ·by_cases h0 : (vs.getD 1 vz).n = 0
  ·have e : appM oMod vs = (vz, true) := by unfold appM; generalize vs.getD 1 vz = b at h0 ⊢; simp [h0]
   rw [e]
   exact hs2 _ _ hk
  ·exact W (show appM oMod vs = (wv ((vs.getD 0 vz).n.tmod (vs.getD 1 vz).n), false) from by unfold appM; generalize vs.getD 1 vz = b at h0 ⊢; generalize vs.getD 0 vz = a; simp [h0]) (hs2 _ _ hk)
theorem kind_parts {ks : Env Int} {o : ByteArray} {n : Int} {s : ByteArray} {l : List Ex} (h : kindOf ks (.mk o n s l) ≠ 0) : kindOf ks (.mk o n s l) = kindBy o ((ks s).getD 0) (kindsOf ks l) ∧ ∀ e ∈ l, kindOf ks e ≠ 0 := by
 simp only [kindOf] at h ⊢
 by_cases hc : (kindsOf ks l).contains 0 = true
 ·rw [if_pos hc] at h; exact absurd rfl h
 ·rw [if_neg hc]
  refine ⟨rfl, fun e he h0 => hc ?_⟩
  rw [List.contains_iff_mem]
  clear h hc
  induction l with
  | nil => cases he
  | cons x l ih =>
   simp only [kindsOf, List.mem_cons]
   rcases List.mem_cons.1 he with rfl | he
   ·exact .inl h0.symm
   ·exact .inr (ih he)
theorem kindsOf_map (ks : Env Int) : ∀ l : List Ex, kindsOf ks l = l.map (kindOf ks)
 | [] => rfl
 | e :: l => by rw [kindsOf, kindsOf_map ks l]; rfl
def Placed (ks : Env Int) (KM : Nat → Int) (m : Nat) (e : Ex) : Prop := ∀ (j : Nat) (x : Ex × Nat), (memNds m e)[j]? = some x → KM (m + j) = kindOf ks x.1
def PlacedL (ks : Env Int) (KM : Nat → Int) (m : Nat) (l : List Ex) : Prop := ∀ (j : Nat) (x : Ex × Nat), (memNdsL m l)[j]? = some x → KM (m + j) = kindOf ks x.1
theorem PlacedL.cons {ks : Env Int} {KM : Nat → Int} {m : Nat} {e : Ex} {l : List Ex} (h : PlacedL ks KM m (e :: l)) : Placed ks KM m e ∧ PlacedL ks KM (m + memN e) l := by
 refine ⟨fun j x hx => h j x ?_, fun j x hx => ?_⟩
 ·rw [memNdsL, List.getElem?_append_left]
  ·exact hx
  ·exact (List.getElem?_eq_some_iff.1 hx).1
 ·have := h (memN e + j) x (by
   rw [memNdsL, List.getElem?_append_right (by rw [memNds_len]; omega), memNds_len, Nat.add_sub_cancel_left]
   exact hx)
  rw [Nat.add_assoc]; exact this
theorem PlacedL.at {ks : Env Int} {KM : Nat → Int} : ∀ {l : List Ex} {m : Nat}, PlacedL ks KM m l → ∀ i (h : i < l.length), Placed ks KM (m + memNL (l.take i)) l[i]
 | [], _, _, i, hi => by simp at hi
 | e :: l, m, h, 0, _ => by simpa [memNL] using h.cons.1
 | e :: l, m, h, i + 1, hi => by
  have := h.cons.2.at i (by simpa using hi)
  simp only [List.take_succ_cons, memNL, List.getElem_cons_succ]
  rw [← Nat.add_assoc]
  exact this
theorem Placed.parts {ks : Env Int} {KM : Nat → Int} {m : Nat} {o : ByteArray} {n : Int} {s : ByteArray} {l : List Ex} (h : Placed ks KM m (.mk o n s l)) : PlacedL ks KM m l ∧ (o = oPre ∨ o = oFby → KM (m + memNL l) = kindOf ks (.mk o n s l)) := by
 refine ⟨fun j x hx => h j x ?_, fun ho => h (memNL l) (.mk o n s l, m) ?_⟩
 ·rw [memNds, List.getElem?_append_left]
  ·exact hx
  ·exact (List.getElem?_eq_some_iff.1 hx).1
 ·rw [memNds, List.getElem?_append_right (by rw [memNdsL_len]; omega), memNdsL_len, Nat.sub_self, if_pos ho]
  rfl
theorem memNdsL_at : ∀ {l : List Ex} {m : Nat} {x : Ex × Nat}, x ∈ memNdsL m l → ∃ i, ∃ h : i < l.length, x ∈ memNds (m + memNL (l.take i)) l[i]
 | [], _, _, h => by simp [memNdsL] at h
 | e :: l, m, x, h => by
  simp only [memNdsL, List.mem_append] at h
  rcases h with h | h
  ·exact ⟨0, by simp, by simpa [memNL] using h⟩
  ·obtain ⟨i, hi, hx⟩ := memNdsL_at h
   exact ⟨i + 1, by simpa using hi, by simpa [memNL, Nat.add_assoc] using hx⟩
theorem Placed.nds {ks : Env Int} {KM : Nat → Int} : ∀ (e : Ex) (m : Nat), Placed ks KM m e → ∀ x ∈ memNds m e, Placed ks KM x.2 x.1 := by
 refine Ex.ind fun o n s l ih m h x hx => ?_
 simp only [memNds, List.mem_append] at hx
 rcases hx with hx | hx
 ·obtain ⟨i, hi, hx⟩ := memNdsL_at hx
  exact ih _ (List.getElem_mem hi) _ (h.parts.1.at i hi) x hx
 ·split at hx
  ·rw [List.mem_singleton.1 hx]; exact h
  ·cases hx
structure TyR (R : REnv) (ks : Env Int) (at_ : Env Nat) (K : Nat → Int) (L : Nat) (inp : List Vl) : Prop where
 kse : R.ks = ks
 nil : -128 ≤ R.ni ∧ R.ni ≤ 127
 two : ∀ s k, ks s = some k → k = 1 ∨ k = 2
 inp : ∀ s k, ks s = some k → R.nm s < 0 → rightV (inp.getD (-1 - R.nm s).toNat vz) k = true
 flow : ∀ s k, ks s = some k → 0 ≤ R.nm s → at_ s = some (R.nm s).toNat ∧ K (R.nm s).toNat = k ∧ (R.nm s).toNat < L
theorem kind_two {ks : Env Int} (h : ∀ s k, ks s = some k → k = 1 ∨ k = 2) : ∀ e : Ex, kindOf ks e = 0 ∨ kindOf ks e = 1 ∨ kindOf ks e = 2 := by
 refine Ex.ind fun o n s l ih => ?_
 by_cases h0 : kindOf ks (.mk o n s l) = 0
 ·exact .inl h0
 obtain ⟨hk, hp⟩ := kind_parts h0
 have hg : ∀ x ∈ kindsOf ks l, x = 1 ∨ x = 2 := fun x hx => by
  rw [kindsOf_map] at hx
  obtain ⟨e, he, rfl⟩ := List.mem_map.1 hx
  exact (ih e he).resolve_left (hp e he)
 have hd : ∀ j, (kindsOf ks l).getD j 0 = 0 ∨ (kindsOf ks l).getD j 0 = 1 ∨ (kindsOf ks l).getD j 0 = 2 := fun j => by
  by_cases hj : j < (kindsOf ks l).length
  ·have : (kindsOf ks l).getD j 0 = (kindsOf ks l)[j] := by simp [List.getD_eq_getElem?_getD, hj]
   rw [this]
   exact .inr (hg _ (List.getElem_mem hj))
  ·exact .inl (by simp [List.getD_eq_getElem?_getD, hj])
 have hs : (ks s).getD 0 = 0 ∨ (ks s).getD 0 = 1 ∨ (ks s).getD 0 = 2 := by
  cases e : ks s with
  | none => exact .inl rfl
  | some k => exact .inr (h s k e)
 have hh : (kindsOf ks l).headD 0 = (kindsOf ks l).getD 0 0 := by cases kindsOf ks l <;> rfl
 rw [hk]
 unfold kindBy
 rw [hh]
 dsimp only
 repeat' split
 all_goals first
  | exact .inl rfl
  | exact .inr (.inl rfl)
  | exact .inr (.inr rfl)
  | exact hs
  | exact hd _
theorem form_int {n : Int} {s : ByteArray} {l : List Ex} (h : form (.mk oInt n s l) = true) : 0 ≤ n ∧ n ≤ 127 := by
 have : arity oInt = some 0 := rfl
 simp only [form, Ex.op, this, Ex.n, Bool.and_eq_true, Bool.or_eq_true, decide_eq_true_eq] at h
 rcases h.1.2 with h | h
 ·have := of_decide_eq_true h; omega
 ·have h1 := of_decide_eq_true h.1.2; have h2 := of_decide_eq_true h.2; omega
theorem form_op {o : ByteArray} {n : Int} {s : ByteArray} {l : List Ex} (h : form (.mk o n s l) = true) : o ∈ opsL := by
 unfold form at h
 simp only [Ex.op] at h
 cases e : arity o with
 | none => rw [e] at h; cases h
 | some k => exact arity_ops e
theorem two_ends (f : Ex → Int) : ∀ {l : List Ex} (h : l.length = 2), (l.map f).headD 0 = f (l[0]'(by omega)) ∧ (l.map f).getLastD 0 = f (l[1]'(by omega))
 | [a, b], _ => ⟨rfl, rfl⟩
theorem ty_eval {R : REnv} {ks : Env Int} {at_ : Env Nat} {K KM : Nat → Int} {L : Nat} {r : Inst} (hR : TyR R ks at_ K L r.inp) :
  ∀ e : Ex, formAll ks e = true → kindOf ks e ≠ 0 → ∀ m, Placed ks KM m e → (∀ j, j < memN e → rightV (r.mem.getD (m + j) vz) (KM (m + j)) = true) → (∀ k ∈ needs at_ e, k < L → rightV (r.now.getD k vz) (K k) = true) →
   rightV (evalM R r m e).1 (kindOf ks e) = true := by
 refine Ex.ind fun o n s l ih hfo hk0 m hpl hm hn => ?_
 obtain ⟨hsub, hfby, harr, hpre, _⟩ := formAll_parts hfo
 obtain ⟨hkb, hkp⟩ := kind_parts hk0
 obtain ⟨hplL, hplO⟩ := hpl.parts
 rw [memN_parts] at hm
 have hform : form (.mk o n s l) = true ∧ o ≠ oCall ∧ (o = oName → (ks s).isSome = true) := by
  simp only [formAll, Bool.and_eq_true, Bool.or_eq_true, decide_eq_true_eq] at hfo
  exact ⟨hfo.1.1.1, hfo.1.1.2, fun e => hfo.1.2.resolve_left (fun h => h e)⟩
 have hL : ∀ (l : List Ex) (m k : Nat), (∀ e ∈ l, formAll ks e = true → kindOf ks e ≠ 0 → ∀ m, Placed ks KM m e → (∀ j, j < memN e → rightV (r.mem.getD (m + j) vz) (KM (m + j)) = true) → (∀ k ∈ needs at_ e, k < L → rightV (r.now.getD k vz) (K k) = true) → rightV (evalM R r m e).1 (kindOf ks e) = true) →
   (∀ e ∈ l, formAll ks e = true) → (∀ e ∈ l, kindOf ks e ≠ 0) → PlacedL ks KM m l → (∀ j, j < memNL l → rightV (r.mem.getD (m + j) vz) (KM (m + j)) = true) → (∀ i (h : i < l.length), i < k → ∀ x ∈ needs at_ l[i], x < L → rightV (r.now.getD x vz) (K x) = true) →
   ∀ i (h : i < l.length), i < k → rightV ((evalsM R r m k l).1.getD i vz) (kindOf ks l[i]) = true := by
  intro l
  induction l with
  | nil => intro m k _ _ _ _ _ _ i hi; simp at hi
  | cons e l ihl =>
   intro m k hh hff hkk hp hmm hnn i hi hik
   cases k with
   | zero => omega
   | succ k =>
    simp only [evalsM]
    simp only [memNL] at hmm
    cases i with
    | zero => exact hh e (List.mem_cons_self ..) (hff e (List.mem_cons_self ..)) (hkk e (List.mem_cons_self ..)) m hp.cons.1 (fun j hj => hmm j (by omega)) (fun x hx => hnn 0 (by simp) (by omega) x (by simpa using hx))
    | succ i =>
     have := ihl (m + memN e) k (fun y hy => hh y (List.mem_cons_of_mem _ hy)) (fun y hy => hff y (List.mem_cons_of_mem _ hy)) (fun y hy => hkk y (List.mem_cons_of_mem _ hy)) hp.cons.2 (fun j hj => by
      have := hmm (memN e + j) (by omega)
      rw [← Nat.add_assoc] at this
      exact this) (fun i h hik x hx => hnn (i + 1) (by simpa using h) (by omega) x (by simpa using hx)) i (by simpa using hi) (by omega)
     simpa using this
 have hvs : ∀ i (h : i < l.length), i < (if o = oPre then 0 else if o = oFby then 1 else l.length) → rightV ((evalsM R r m (if o = oPre then 0 else if o = oFby then 1 else l.length) l).1.getD i vz) (kindOf ks l[i]) = true := by
  refine hL l m _ (fun e he => ih e he) hsub hkp hplL (fun j hj => hm j (by omega)) fun i h hik x hx => hn x ?_
  simp only [needs]
  by_cases e1 : o = oPre
  ·rw [if_pos e1] at hik; omega
  ·rw [if_neg e1] at hik ⊢
   by_cases e2 : o = oFby
   ·rw [if_pos e2] at hik ⊢
    obtain rfl : i = 0 := by omega
    cases l with
    | nil => simp at h
    | cons y l => simpa [needsH] using hx
   ·rw [if_neg e2]
    exact List.mem_append_right _ (needsL_mem (List.getElem_mem h) hx)
 have hvl := evalsM_len R r l m (if o = oPre then 0 else if o = oFby then 1 else l.length)
 have hk12 : kindOf ks (.mk o n s l) = 1 ∨ kindOf ks (.mk o n s l) = 2 := (kind_two hR.two _).resolve_left hk0
 have hmem : o = oPre ∨ o = oFby → rightV (r.mem.getD (m + memNL l) vz) (kindOf ks (.mk o n s l)) = true := fun ho => by
  rw [← hplO ho]
  exact hm _ (by rw [if_pos ho]; omega)
 simp only [evalM]
 by_cases hlate : (r.first && decide (0 < lateOf R.lt (.mk o n s l))) = true
 ·rw [if_pos hlate, hR.kse]
  exact right_nil hR.nil.1 hR.nil.2 hk12
 rw [if_neg hlate]
 generalize decide (0 < lateOf R.lt (.mk o n s l)) = late at *
 generalize hvsE : evalsM R r m (if o = oPre then 0 else if o = oFby then 1 else l.length) l = V at *
 unfold valM
 by_cases e1 : o = oInt
 ·subst e1
  rw [if_pos rfl, hkb]
  have h2 := form_int hform.1
  have : kindBy oInt ((ks s).getD 0) (kindsOf ks l) = 2 := rfl
  rw [this]
  simp [rightV]
  omega
 rw [if_neg e1]
 by_cases e2 : o = oTrue ∨ o = oFalse
 ·rw [if_pos e2, hkb]
  have : kindBy o ((ks s).getD 0) (kindsOf ks l) = 1 := by unfold kindBy; rw [if_neg e1, if_pos e2]
  rw [this]
  exact right_tv _
 rw [if_neg e2]
 by_cases e3 : o = oName
 ·rw [if_pos e3]
  have h5 := hform.2.2 e3
  obtain ⟨k, hk⟩ := Option.isSome_iff_exists.1 h5
  have : kindBy o ((ks s).getD 0) (kindsOf ks l) = k := by unfold kindBy; rw [if_neg e1, if_neg e2, if_pos e3, hk]; rfl
  rw [hkb, this]
  by_cases h5 : R.nm s < 0
  ·rw [if_pos h5]
   exact hR.inp s k hk h5
  ·rw [if_neg h5]
   obtain ⟨a1, a2, a3⟩ := hR.flow s k hk (by omega)
   have := hn (R.nm s).toNat (by
    simp only [needs]
    rw [if_neg (by rw [e3]; decide), if_neg (by rw [e3]; decide), if_pos e3, a1]
    simp) a3
   rw [a2] at this
   exact this
 rw [if_neg e3]
 by_cases e4 : o = oPre
 ·rw [if_pos e4]
  exact hmem (.inl e4)
 rw [if_neg e4]
 rw [if_neg e4] at hvs hvl
 by_cases e5 : o = oFby
 ·rw [if_pos e5]
  rw [if_pos e5] at hvs hvl
  by_cases hf : r.first = true
  ·rw [if_pos hf]
   have hl2 := hfby e5
   have h0 := hvs 0 (by omega) (by omega)
   have : kindOf ks (.mk o n s l) = kindOf ks (l[0]'(by omega)) := by
    rw [hkb] at hk0 ⊢
    subst e5
    have e : kindBy oFby ((ks s).getD 0) (kindsOf ks l) = (if (decide (0 < (kindsOf ks l).length) && decide ((kindsOf ks l).headD 0 = (kindsOf ks l).getLastD 0)) = true then (kindsOf ks l).headD 0 else 0) := rfl
    rw [e] at hk0 ⊢
    split
    ·rw [kindsOf_map]
     match l, hl2 with
     | [a, b], _ => rfl
    ·rename_i hc; rw [if_neg hc] at hk0; exact absurd rfl hk0
   rw [this]
   exact h0
  ·rw [if_neg hf]
   exact hmem (.inr e5)
 rw [if_neg e5]
 rw [if_neg e5] at hvs hvl
 by_cases e6 : o = oArrow
 ·rw [if_pos e6]
  have hl2 := harr e6
  have h0 := hvs 0 (by omega) (by omega)
  have h1 := hvs 1 (by omega) (by omega)
  have : kindOf ks (.mk o n s l) = kindOf ks (l[0]'(by omega)) ∧ kindOf ks (.mk o n s l) = kindOf ks (l[1]'(by omega)) := by
   rw [hkb] at hk0 ⊢
   subst e6
   have e : kindBy oArrow ((ks s).getD 0) (kindsOf ks l) = (if (decide (0 < (kindsOf ks l).length) && decide ((kindsOf ks l).headD 0 = (kindsOf ks l).getLastD 0)) = true then (kindsOf ks l).headD 0 else 0) := rfl
   rw [e] at hk0 ⊢
   split
   ·rename_i hc
    rw [kindsOf_map] at hc ⊢
    simp only [Bool.and_eq_true, decide_eq_true_eq] at hc
    obtain ⟨q1, q2⟩ := two_ends (kindOf ks) hl2
    have hc2 := hc.2
    rw [q1, q2] at hc2
    rw [q1]
    exact ⟨rfl, hc2⟩
   ·rename_i hc; rw [if_neg hc] at hk0; exact absurd rfl hk0
  by_cases hf : r.first = true
  ·rw [if_pos hf, this.1]; exact h0
  ·rw [if_neg hf, this.2]; exact h1
 rw [if_neg e6]
 have hlen : V.1.length = l.length := by rw [hvl]; omega
 have hmapk : V.1.map (·.kind) = kindsOf ks l := by
  rw [kindsOf_map]
  apply List.ext_getElem (by simp [hlen])
  intro i h1 h2
  have hi : i < l.length := by simpa using h2
  have := hvs i hi (by omega)
  have e : V.1.getD i vz = V.1[i]'(by omega) := by simp [List.getD_eq_getElem?_getD, show i < V.1.length from by omega]
  rw [e] at this
  simpa using (right_kind this).1
 have hvr : ∀ v ∈ V.1, rightV v v.kind = true := fun v hv => by
  obtain ⟨i, hi, rfl⟩ := List.mem_iff_getElem.1 hv
  have := hvs i (by omega) (by omega)
  have e : V.1.getD i vz = V.1[i] := by simp [List.getD_eq_getElem?_getD, hi]
  rw [e] at this
  rw [(right_kind this).1]
  exact this
 have ha := app_right (k := (ks s).getD 0) (form_op hform.1) ⟨e1, fun e => e2 (.inl e), fun e => e2 (.inr e), e3, e4, e6, e5, hform.2.1⟩ hvr (by rw [hmapk, ← hkb]; exact hk0)
 rw [hmapk, ← hkb] at ha
 split at ha
 ·rename_i ht
  rw [if_pos ht, ha]
  exact right_wv 0
 ·rename_i ht
  rw [if_neg ht]
  exact ha
end Go.Proofs.YtnaijgmfjpmpjaaGreatDoor
namespace Go.Proofs.YtnaijgmfjpmpjaaGreatDoor
open Mx
theorem fresh_two : ∀ (l : List (ByteArray × Int)) (m ks : Env Int), freshGo m l = some ks → (∀ s k, m s = some k → k = 1 ∨ k = 2) → ∀ s k, ks s = some k → k = 1 ∨ k = 2
 | [], m, ks, h, hm, s, k, hk => by simp only [freshGo] at h; cases h; exact hm s k hk
 | y :: l, m, ks, h, hm, s, k, hk => by
  simp only [freshGo] at h
  split at h
  ·rename_i hc
   refine fresh_two l _ ks h (fun s' k' h' => ?_) s k hk
   by_cases e : s' = y.1
   ·rw [e, Env.set_self] at h'; cases h'; exact hc.2.2
   ·rw [Env.set_other _ _ e] at h'; exact hm s' k' h'
  ·cases h
theorem fresh_has : ∀ (l : List (ByteArray × Int)) (m ks : Env Int), freshGo m l = some ks → (∀ s k, m s = some k → ks s = some k) ∧ ∀ x ∈ l, ks x.1 = some x.2
 | [], m, ks, h => by simp only [freshGo] at h; cases h; exact ⟨fun _ _ h => h, fun x hx => by cases hx⟩
 | y :: l, m, ks, h => by
  simp only [freshGo] at h
  split at h
  ·rename_i hc
   obtain ⟨h1, h2⟩ := fresh_has l _ ks h
   refine ⟨fun s k hk => h1 s k ?_, fun x hx => ?_⟩
   ·have hne : s ≠ y.1 := fun e => by
     have h3 := hc.1
     rw [← e, hk] at h3
     cases h3
    rw [Env.set_other _ _ hne]; exact hk
   ·rcases List.mem_cons.1 hx with rfl | hx
    ·exact h1 _ _ (Env.set_self ..)
    ·exact h2 x hx
  ·cases h
theorem inNames_at : ∀ (l : List Vr) (i : Nat) (m : Env Int) (s : ByteArray) (v : Int), inNames i m l s = some v → m s = some v ∨ ∃ j, ∃ h : j < l.length, l[j].name = s ∧ v = -1 - ((i + j : Nat) : Int)
 | [], i, m, s, v, h => .inl h
 | x :: l, i, m, s, v, h => by
  rw [inNames] at h
  rcases inNames_at l (i + 1) _ s v h with h1 | ⟨j, hj, h1, h2⟩
  ·by_cases e : s = x.name
   ·rw [e, Env.set_self] at h1
    cases h1
    exact .inr ⟨0, by simp, by simp [e], by simp⟩
   ·rw [Env.set_other _ _ e] at h1; exact .inl h1
  ·exact .inr ⟨j + 1, by simpa using hj, by simpa using h1, by rw [h2]; omega⟩
theorem ty_of {p : Pr} (hck : checkFlat p = 0) {ks : Env Int} (hks : freshGo Env.none p.vars = some ks) {nb : Bool} {ni : Int} (hni : -128 ≤ ni ∧ ni ≤ 127) {inp : List Vl} (hi : inpsTo p.ins inp inp.length = true) :
  TyR ⟨ks, namesM p, getI (nmEnv p), nb, ni⟩ ks p.atOf (fun k => (p.fl.map (·.kind)).getD k 0) p.fl.length inp := by
 have hh := fresh_has _ _ _ hks
 refine ⟨rfl, hni, fresh_two _ _ _ hks (fun s k h => by simp [Env.none] at h), fun s k hk h0 => ?_, fun s k hk h0 => ?_⟩
 ·have hs : (ks s).isSome = true := by rw [hk]; rfl
  have hr := (nm_range hck hks s hs).1 h0
  have hf : s ∉ p.fl.map (·.name) := fun hf => by
   obtain ⟨i, hi, e⟩ := List.mem_iff_getElem.1 hf
   have hi' : i < p.fl.length := by simpa using hi
   have := nm_flow hck i hi'
   have e' : p.fl[i].name = s := by simpa using e
   rw [e'] at this
   have h0 : getI (nmEnv p) s < 0 := h0
   omega
  rcases fresh_keys _ _ _ hks hs with h | h
  ·simp [Env.none] at h
  ·have hin : s ∈ p.ins.map (·.name) := by
    simp only [Pr.vars, List.map_append, List.map_map, List.mem_append] at h
    exact h.resolve_right hf
   obtain ⟨j, hj⟩ := inNames_in p.ins 0 Env.none s (.inl hin)
   have hnm : getI (nmEnv p) s = -1 - (j : Int) := by
    unfold getI nmEnv
    rw [flNames_out _ _ _ _ hf, hj]
    rfl
   rcases inNames_at _ _ _ _ _ hj with h | ⟨j', hj', e1, e2⟩
   ·simp [Env.none] at h
   have hjj : j = j' := by omega
   subst hjj
   have hkk : ks s = some p.ins[j].kind := by
    have := hh.2 (p.ins[j].name, p.ins[j].kind) (by
     simp only [Pr.vars, List.mem_append, List.mem_map]
     exact .inl ⟨p.ins[j], List.getElem_mem _, rfl⟩)
    rw [e1] at this
    exact this
   rw [hk] at hkk
   cases hkk
   show rightV (inp.getD (-1 - getI (nmEnv p) s).toNat vz) _ = true
   rw [hnm, show (-1 - (-1 - (j : Int))).toNat = j from by omega]
   unfold inpsTo at hi
   simp only [Bool.and_eq_true, decide_eq_true_eq, List.all_eq_true, List.mem_range] at hi
   have := hi.2 j (by omega)
   simpa [List.getD_eq_getElem?_getD, hj'] using this
 ·have hs : (ks s).isSome = true := by rw [hk]; rfl
  have hr := (nm_range hck hks s hs).2 h0
  have hs' := nm_of hck hks s hs h0
  refine ⟨nm_at hck hks s hs h0, ?_, hr⟩
  show (p.fl.map (·.kind)).getD (getI (nmEnv p) s).toNat 0 = k
  generalize (getI (nmEnv p) s).toNat = i at hr hs'
  have := hh.2 (p.fl[i].name, p.fl[i].kind) (by
   simp only [Pr.vars, List.mem_append, List.mem_map]
   exact .inr ⟨p.fl[i], List.getElem_mem _, rfl⟩)
  have e : s = p.fl[i].name := by rw [hs']; simp [nfOf, List.getD_eq_getElem?_getD, hr]
  rw [← e, hk] at this
  cases this
  simp [List.getD_eq_getElem?_getD, hr]
def MemR (ks : Env Int) (p : Pr) (mem : List Vl) : Prop := mem.length = (memNdsL 0 p.terms).length ∧ ∀ j (h : j < (memNdsL 0 p.terms).length), rightV (mem.getD j vz) (kindOf ks (memNdsL 0 p.terms)[j].1) = true
def kmOf (ks : Env Int) (p : Pr) (j : Nat) : Int := kindOf ks ((memNdsL 0 p.terms).getD j d0).1
theorem placed_all (ks : Env Int) (p : Pr) : PlacedL ks (kmOf ks p) 0 p.terms := fun j x hx => by
 unfold kmOf
 rw [Nat.zero_add, List.getD_eq_getElem?_getD, hx]
 rfl
theorem placed_with {ks : Env Int} {KM : Nat → Int} : ∀ {l : List Ex} {m : Nat}, PlacedL ks KM m l → ∀ x ∈ withAt m l, Placed ks KM x.2 x.1
 | [], _, _, x, hx => by simp [withAt] at hx
 | e :: l, m, h, x, hx => by
  simp only [withAt, List.mem_cons] at hx
  rcases hx with rfl | hx
  ·exact h.cons.1
  ·exact placed_with h.cons.2 x hx
theorem withAt_append : ∀ (a b : List Ex) (m : Nat), withAt m (a ++ b) = withAt m a ++ withAt (m + memNL a) b
 | [], b, m => by simp [withAt, memNL]
 | e :: a, b, m => by simp only [List.cons_append, withAt, memNL, withAt_append a b, Nat.add_assoc]
theorem cd_with (p : Pr) (ord : List Nat) : withAt 0 p.terms = (cdOf p ord).fs ++ (cdOf p ord).av ++ (cdOf p ord).cv := by
 unfold Pr.terms cdOf
 rw [withAt_append, withAt_append, memNL_append, Nat.zero_add, Nat.zero_add]
theorem memR_get {ks : Env Int} {p : Pr} {mem : List Vl} (h : MemR ks p mem) (j : Nat) (hj : j < memNL p.terms) : rightV (mem.getD j vz) (kmOf ks p j) = true := by
 have hj' : j < (memNdsL 0 p.terms).length := by rw [memNdsL_len]; exact hj
 have := h.2 j hj'
 unfold kmOf
 rw [show (memNdsL 0 p.terms).getD j d0 = (memNdsL 0 p.terms)[j] from by simp [List.getD_eq_getElem?_getD, hj']]
 exact this
theorem last_kind {ks : Env Int} {o : ByteArray} {n : Int} {s : ByteArray} {l : List Ex} (ho : o = oPre ∨ o = oFby) (h : kindOf ks (.mk o n s l) ≠ 0) {k : Nat} (hk : k ≤ 1) (hl : l.length = k + 1) : kindOf ks (l[k]'(by omega)) = kindOf ks (.mk o n s l) := by
 obtain ⟨hkb, _⟩ := kind_parts h
 rw [hkb] at h ⊢
 have e : kindBy o ((ks s).getD 0) (kindsOf ks l) = (if (decide (0 < (kindsOf ks l).length) && decide ((kindsOf ks l).headD 0 = (kindsOf ks l).getLastD 0)) = true then (kindsOf ks l).headD 0 else 0) := by
  rcases ho with rfl | rfl <;> rfl
 rw [e] at h ⊢
 split
 ·rename_i hc
  rw [kindsOf_map] at hc ⊢
  have hk' : k = 0 ∨ k = 1 := by omega
  rcases hk' with rfl | rfl
  ·match l, hl with
   | [a], _ => rfl
  ·simp only [Bool.and_eq_true, decide_eq_true_eq] at hc
   obtain ⟨q1, q2⟩ := two_ends (kindOf ks) hl
   rw [hc.2]
   exact q2.symm
 ·rename_i hc; rw [if_neg hc] at h; exact absurd rfl h
theorem terms_kind {p : Pr} (hck : checkFlat p = 0) {ks : Env Int} (hks : freshGo Env.none p.vars = some ks) : ∀ e ∈ p.terms, formAll ks e = true ∧ kindOf ks e ≠ 0 := by
 obtain ⟨ks', hks', _, hfm, _, _, _, hkg⟩ := check_zero hck
 rw [hks] at hks'
 cases hks'
 intro e he
 obtain ⟨i, hi, rfl⟩ := List.mem_iff_getElem.1 he
 refine ⟨(formAllL_get ks _).1 hfm i hi, ?_⟩
 rw [(kindsGo_get ks _ _).1 hkg i hi]
 by_cases hf : i < p.fl.length
 ·have := (fresh_has _ _ _ hks).2 (p.fl[i].name, p.fl[i].kind) (by
   simp only [Pr.vars, List.mem_append, List.mem_map]
   exact .inr ⟨p.fl[i], List.getElem_mem _, rfl⟩)
  have h2 := fresh_two _ _ _ hks (fun s k h => by simp [Env.none] at h) _ _ this
  have e : (p.fl.map (·.kind)).getD i 1 = p.fl[i].kind := by simp [List.getD_eq_getElem?_getD, hf]
  rw [e]
  simp only at h2
  omega
 ·have e : (p.fl.map (·.kind)).getD i 1 = 1 := by simp [List.getD_eq_getElem?_getD, hf]
  rw [e]; decide
theorem mem_kind {ks : Env Int} : ∀ (e : Ex), kindOf ks e ≠ 0 → ∀ m, ∀ x ∈ memNds m e, kindOf ks x.1 ≠ 0 := by
 refine Ex.ind fun o n s l ih h m x hx => ?_
 have hp := (kind_parts h).2
 simp only [memNds, List.mem_append] at hx
 rcases hx with hx | hx
 ·obtain ⟨i, hi, hx⟩ := memNdsL_at hx
  exact ih _ (List.getElem_mem hi) (hp _ (List.getElem_mem hi)) _ x hx
 ·split at hx
  ·rw [List.mem_singleton.1 hx]; exact h
  ·cases hx
theorem fl_term (p : Pr) (k : Nat) (hk : k < p.fl.length) : ∃ h : k < p.terms.length, p.terms[k] = p.fl[k].e := by
 have h : k < p.terms.length := by unfold Pr.terms; simp; omega
 exact ⟨h, by simp [Pr.terms, List.getElem_append, hk]⟩
theorem tick_right {p : Pr} (h : (checkM p).1 = 0) {ks : Env Int} (hks : freshGo Env.none p.vars = some ks) {ord : List Nat} (ho : orderM p = .ok ord) (nb : Bool) {ni : Int} (hni : -128 ≤ ni ∧ ni ≤ 127) (first : Bool) {mem inp : List Vl} (hm : MemR ks p mem) (hi : inpsTo p.ins inp inp.length = true)
  (ht : (tickM ⟨ks, namesM p, getI (nmEnv p), nb, ni⟩ (cdOf p ord) first mem inp).1.trap = false) : MemR ks p (tickM ⟨ks, namesM p, getI (nmEnv p), nb, ni⟩ (cdOf p ord) first mem inp).2 := by
 obtain ⟨hck, hlen, hlow⟩ := orderM_low ho
 have hterm := terms_kind hck hks
 have hR := ty_of hck hks (nb := nb) hni hi
 have hlen2 := tickM_len ⟨ks, namesM p, getI (nmEnv p), nb, ni⟩ (cdOf p ord) first mem inp ht
 have hfls : (cdOf p ord).fs.length = p.fl.length := by simp [cdOf, withAt_len]
 obtain ⟨f1, f2, _⟩ := now_fix h hks ho ⟨ks, namesM p, getI (nmEnv p), nb, ni⟩ rfl first mem inp
 have hord := orderM_topo ho
 have hall := order_all ho
 unfold tickM at ht hlen2 ⊢
 dsimp only at ht hlen2 ⊢
 rw [show (cdOf p ord).ord = ord from rfl, hfls] at ht hlen2 ⊢
 generalize (nowM ⟨ks, namesM p, getI (nmEnv p), nb, ni⟩ first mem inp (cdOf p ord).fs ord (List.replicate p.fl.length vz) false) = N at *
 have hE : ∀ e m, formAll ks e = true → kindOf ks e ≠ 0 → Placed ks (kmOf ks p) m e → m + memN e ≤ memNL p.terms → (∀ k ∈ needs p.atOf e, k < p.fl.length → rightV (N.1.getD k vz) ((p.fl.map (·.kind)).getD k 0) = true) → rightV (evalM ⟨ks, namesM p, getI (nmEnv p), nb, ni⟩ ⟨first, mem, inp, N.1⟩ m e).1 (kindOf ks e) = true := fun e m h1 h2 h3 h4 h5 =>
  ty_eval (r := ⟨first, mem, inp, N.1⟩) hR e h1 h2 m h3 (fun j hj => memR_get hm _ (by omega)) h5
 have hfl : ∀ i (hi : i < ord.length), rightV (N.1.getD ord[i] vz) ((p.fl.map (·.kind)).getD ord[i] 0) = true := by
  intro i
  induction i using Nat.strongRecOn with
  | ind i ih =>
   intro hi
   have hk := hlow _ (List.getElem_mem hi)
   obtain ⟨hkt, hke⟩ := fl_term p _ hk
   have hx : (p.fl[ord[i]].e, flAt p ord[i]) ∈ (cdOf p ord).fs := by
    have := fs_get p ord ord[i] hk
    rw [← this, List.getD_eq_getElem?_getD, List.getElem?_eq_getElem (by omega)]
    exact List.getElem_mem _
   have hmem : p.fl[ord[i]].e ∈ p.terms := hke ▸ List.getElem_mem hkt
   obtain ⟨t1, t2⟩ := hterm _ hmem
   have := hE p.fl[ord[i]].e (flAt p ord[i]) t1 t2 (placed_with (placed_all ks p) _ (by rw [cd_with p ord]; exact List.mem_append_left _ (List.mem_append_left _ hx))) (cd_terms (.inl hx)).2 (fun k hkn hkl => by
    have ht := (hord i hi).2 k (by
     have : p.graph.getD ord[i] [] = needs p.atOf p.fl[ord[i]].e := by simp [Pr.graph, List.getD_eq_getElem?_getD, hk]
     rw [this]; exact hkn)
    obtain ⟨j, hj, e⟩ := List.mem_iff_getElem.1 ht
    have hji : j < i := by simp at hj; omega
    have hjo : j < ord.length := by omega
    have e' : ord[j] = k := by simpa using e
    rw [← e']
    exact ih j hji hjo)
   rw [← f2 _ hk] at this
   have hkk : kindOf ks p.fl[ord[i]].e = (p.fl.map (·.kind)).getD ord[i] 0 := by
    obtain ⟨ks', hks', _, _, _, _, _, hkg⟩ := check_zero hck
    rw [hks] at hks'
    cases hks'
    have := (kindsGo_get ks _ _).1 hkg _ hkt
    rw [hke] at this
    rw [this]
    simp [List.getD_eq_getElem?_getD, hk]
   rw [hkk] at this
   exact this
 have hN : ∀ k, k < p.fl.length → rightV (N.1.getD k vz) ((p.fl.map (·.kind)).getD k 0) = true := fun k hk => by
  obtain ⟨i, hi, e⟩ := List.mem_iff_getElem.1 (hall k hk)
  rw [← e]; exact hfl i hi
 split at ht
 ·cases ht
 ·rename_i hc
  rw [if_neg hc] at hlen2 ⊢
  have hms : (cdOf p ord).ms = (memNdsL 0 p.terms).map lastP := memsAtL_nds _ _
  have hl3 : (cdOf p ord).ms.length = (memNdsL 0 p.terms).length := by rw [hms, List.length_map]
  refine ⟨by simp [valsM, hl3], fun j hj => ?_⟩
  have hx := List.getElem_mem hj
  have hk0 : kindOf ks (memNdsL 0 p.terms)[j].1 ≠ 0 := by
   obtain ⟨i, hi, hxi⟩ := memNdsL_at hx
   exact mem_kind _ (hterm _ (List.getElem_mem hi)).2 _ _ hxi
  have hpl : Placed ks (kmOf ks p) (memNdsL 0 p.terms)[j].2 (memNdsL 0 p.terms)[j].1 := by
   obtain ⟨i, hi, hxi⟩ := memNdsL_at hx
   exact Placed.nds _ _ ((placed_all ks p).at i hi) _ hxi
  obtain ⟨k, hk1, hk, hlast⟩ := ms_last (ks := ks) (fun e he => (hterm e he).1) hx
  have hop := (memNdsL_form ks p.terms (fun e he => (hterm e he).1) 0 _ hx).2
  have hgd : (valsM ⟨ks, namesM p, getI (nmEnv p), nb, ni⟩ ⟨first, mem, inp, N.1⟩ (cdOf p ord).ms).1.getD j vz = (evalM ⟨ks, namesM p, getI (nmEnv p), nb, ni⟩ ⟨first, mem, inp, N.1⟩ (lastP (memNdsL 0 p.terms)[j]).2 (lastP (memNdsL 0 p.terms)[j]).1).1 := by
   simp [valsM, hms, List.getD_eq_getElem?_getD, hj]
  dsimp only
  rw [hgd]
  generalize (memNdsL 0 p.terms)[j] = x at *
  obtain ⟨g1, g2, _, g4⟩ := hlast (by omega)
  rw [g1]
  obtain ⟨⟨o, n, s, l⟩, m⟩ := x
  have hk : l.length = k + 1 := hk
  have hop : o = oPre ∨ o = oFby := hop
  have hkl : kindOf ks (l[k]'(by omega)) = kindOf ks (.mk o n s l) := last_kind hop hk0 hk1 hk
  have := hE (l[k]'(by omega)) (m + memNL (l.take k)) g2 (by rw [hkl]; exact hk0) (hpl.parts.1.at k (by omega)) g4 fun y _ hy => hN y hy
  rw [hkl] at this
  exact this
theorem start_right {p : Pr} (hck : checkFlat p = 0) {ks : Env Int} (hks : freshGo Env.none p.vars = some ks) (nb : Bool) {ni : Int} (hni : -128 ≤ ni ∧ ni ≤ 127) : MemR ks p (startM ⟨ks, namesM p, getI (nmEnv p), nb, ni⟩ (memNdsL 0 p.terms)) := by
 refine ⟨by simp [startM], fun j hj => ?_⟩
 have hx := List.getElem_mem hj
 have hterm := terms_kind hck hks
 have hk0 : kindOf ks (memNdsL 0 p.terms)[j].1 ≠ 0 := by
  obtain ⟨i, hi, hxi⟩ := memNdsL_at hx
  exact mem_kind _ (hterm _ (List.getElem_mem hi)).2 _ _ hxi
 have e : (startM ⟨ks, namesM p, getI (nmEnv p), nb, ni⟩ (memNdsL 0 p.terms)).getD j vz = nilV nb ni (kindOf ks (memNdsL 0 p.terms)[j].1) := by simp [startM, List.getD_eq_getElem?_getD, hj]
 rw [e]
 exact right_nil hni.1 hni.2 ((kind_two (fresh_two _ _ _ hks (fun s k h => by simp [Env.none] at h)) _).resolve_left hk0)
structure Mc where
 first : Bool
 mem : List Vl
 trapped : Bool
def noT : Tk := ⟨[], false, false, []⟩
def stepM (R : REnv) (c : Cd) (ins : List Vr) (s : Mc) (inp : List Vl) : Nat × Tk × Mc :=
 if s.trapped then (0, trapT, s)
 else if inpsTo ins inp inp.length = true then (if (tickM R c s.first s.mem inp).1.trap = true then (0, (tickM R c s.first s.mem inp).1, ⟨s.first, s.mem, true⟩) else (0, (tickM R c s.first s.mem inp).1, ⟨false, (tickM R c s.first s.mem inp).2, false⟩))
 else (5, noT, s)
def stateM (s : Mc) : List Vl := tv s.first :: s.mem
def kindsL (ks : Env Int) (p : Pr) : List Int := 1 :: (memNdsL 0 p.terms).map fun x => kindOf ks x.1
def rightTo (K : List Int) (l : List Vl) (k : Nat) : Bool := decide (l.length = K.length) && (List.range k).all fun i => rightV (l.getD i vz) (K.getD i 0)
theorem rightTo_succ (K : List Int) (l : List Vl) (k : Nat) : rightTo K l (k + 1) = (rightTo K l k && rightV (l.getD k vz) (K.getD k 0)) := by
 unfold rightTo
 rw [List.range_succ, List.all_append, Bool.and_assoc]
 simp
theorem rightTo_false (K : List Int) (l : List Vl) (k : Nat) (h : rightTo K l k = false) : ∀ n, k ≤ n → rightTo K l n = false := fun n hn => by
 induction n with
 | zero =>
  obtain rfl : k = 0 := by omega
  exact h
 | succ n ih =>
  by_cases e : k = n + 1
  ·rw [← e]; exact h
  ·rw [rightTo_succ, ih (by omega)]; rfl
def putM (l : List Vl) : Mc := ⟨decide ((l.getD 0 vz).n = 1), l.drop 1, false⟩
theorem state_right {ks : Env Int} {p : Pr} {s : Mc} (h : MemR ks p s.mem) : rightTo (kindsL ks p) (stateM s) (stateM s).length = true := by
 unfold rightTo
 simp only [Bool.and_eq_true, decide_eq_true_eq, List.all_eq_true, List.mem_range]
 refine ⟨by simp [stateM, kindsL, h.1], fun i hi => ?_⟩
 cases i with
 | zero => exact right_tv _
 | succ i =>
  have hi' : i < (memNdsL 0 p.terms).length := by have := h.1; simp [stateM] at hi; omega
  have := h.2 i hi'
  simpa [stateM, kindsL, List.getD_eq_getElem?_getD, hi'] using this
theorem put_state (s : Mc) : putM (stateM s) = ⟨s.first, s.mem, false⟩ := by
 unfold putM stateM
 cases hf : s.first <;> simp [tv]
def goM (R : REnv) (c : Cd) (ins : List Vr) : Mc → List (List Vl) → Mc
 | s, [] => s
 | s, l :: r => goM R c ins (stepM R c ins s l).2.2 r
def toldM (R : REnv) (c : Cd) (ins : List Vr) : Mc → List (List Vl) → List Tk
 | _, [] => []
 | s, l :: r => (if (stepM R c ins s l).1 = 0 then [(stepM R c ins s l).2.1] else []) ++ toldM R c ins (stepM R c ins s l).2.2 r
theorem step_right {p : Pr} (h : (checkM p).1 = 0) {ks : Env Int} (hks : freshGo Env.none p.vars = some ks) {ord : List Nat} (ho : orderM p = .ok ord) (nb : Bool) {ni : Int} (hni : -128 ≤ ni ∧ ni ≤ 127) {s : Mc} (hm : MemR ks p s.mem) (inp : List Vl) :
  MemR ks p (stepM ⟨ks, namesM p, getI (nmEnv p), nb, ni⟩ (cdOf p ord) p.ins s inp).2.2.mem := by
 unfold stepM
 split
 ·exact hm
 split
 ·rename_i hi
  split
  ·exact hm
  ·rename_i ht
   exact tick_right h hks ho nb hni s.first hm hi (by simpa using ht)
 ·exact hm
theorem go_right {p : Pr} (h : (checkM p).1 = 0) {ks : Env Int} (hks : freshGo Env.none p.vars = some ks) {ord : List Nat} (ho : orderM p = .ok ord) (nb : Bool) {ni : Int} (hni : -128 ≤ ni ∧ ni ≤ 127) : ∀ (l : List (List Vl)) {s : Mc}, MemR ks p s.mem →
  MemR ks p (goM ⟨ks, namesM p, getI (nmEnv p), nb, ni⟩ (cdOf p ord) p.ins s l).mem
 | [], s, hm => hm
 | x :: l, s, hm => go_right h hks ho nb hni l (step_right h hks ho nb hni hm x)
end Go.Proofs.YtnaijgmfjpmpjaaGreatDoor
