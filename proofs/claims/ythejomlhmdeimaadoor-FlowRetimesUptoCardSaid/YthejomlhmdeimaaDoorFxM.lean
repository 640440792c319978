/- Plain: an instant's flows are a fixed point: each flow is what its term is among all flows of the instant; no program in sight. -/
import Derived.Test.YthejomlhmdeimaaDoorCpM
import Derived.Test.YthejomlhmdeimaaDoorTkM
namespace Go.Proofs.YthejomlhmdeimaaDoor
open Mx
theorem memN_parts (o : ByteArray) (n : Int) (s : ByteArray) (l : List Ex) : memN (.mk o n s l) = memNL l + (if o = oPre ∨ o = oFby then 1 else 0) := by rw [memN]
theorem needsL_mem {at_ : Env Nat} : ∀ {l : List Ex} {e : Ex} {k : Nat}, e ∈ l → k ∈ needs at_ e → k ∈ needsL at_ l
 | x :: l, e, k, he, hk => by
  simp only [needsL, List.mem_append]
  rcases List.mem_cons.1 he with rfl | he
  ·exact .inl hk
  ·exact .inr (needsL_mem he hk)
theorem eval_agree {R : REnv} {ks : Env Int} {at_ : Env Nat} (hnm : ∀ s, (ks s).isSome = true → 0 ≤ R.nm s → at_ s = some (R.nm s).toNat) {r r' : Inst} (hf : r.first = r'.first) (hi : r.inp = r'.inp) :
  ∀ e : Ex, formAll ks e = true → ∀ m m', (∀ j, j < memN e → r.mem.getD (m + j) vz = r'.mem.getD (m' + j) vz) → (∀ k ∈ needs at_ e, r.now.getD k vz = r'.now.getD k vz) → evalM R r m e = evalM R r' m' e := by
 refine Ex.ind fun o n s l ih hfo m m' hm hn => ?_
 obtain ⟨hsub, hfby, harr, hpre, _⟩ := formAll_parts hfo
 rw [memN_parts] at hm
 have hL : ∀ (l : List Ex), (∀ e ∈ l, formAll ks e = true → ∀ m m', (∀ j, j < memN e → r.mem.getD (m + j) vz = r'.mem.getD (m' + j) vz) → (∀ k ∈ needs at_ e, r.now.getD k vz = r'.now.getD k vz) → evalM R r m e = evalM R r' m' e) →
   (∀ e ∈ l, formAll ks e = true) → ∀ (k m m' : Nat), (∀ j, j < memNL l → r.mem.getD (m + j) vz = r'.mem.getD (m' + j) vz) → (∀ i (h : i < l.length), i < k → ∀ x ∈ needs at_ l[i], r.now.getD x vz = r'.now.getD x vz) → evalsM R r m k l = evalsM R r' m' k l := by
  intro l
  induction l with
  | nil => intro _ _ k m m' _ _; simp [evalsM]
  | cons e l ihl =>
   intro hh hff k m m' hmm hnn
   cases k with
   | zero => simp [evalsM]
   | succ k =>
    simp only [evalsM]
    simp only [memNL] at hmm
    have e1 := hh e (List.mem_cons_self ..) (hff e (List.mem_cons_self ..)) m m' (fun j hj => hmm j (by omega)) (fun x hx => hnn 0 (by simp) (by omega) x (by simpa using hx))
    have e2 := ihl (fun y hy => hh y (List.mem_cons_of_mem _ hy)) (fun y hy => hff y (List.mem_cons_of_mem _ hy)) k (m + memN e) (m' + memN e) (fun j hj => by
     have := hmm (memN e + j) (by omega)
     rw [← Nat.add_assoc, ← Nat.add_assoc] at this
     exact this) (fun i h hik x hx => hnn (i + 1) (by simpa using h) (by omega) x (by simpa using hx))
    rw [e1, e2]
 have hvs : evalsM R r m (if o = oPre then 0 else if o = oFby then 1 else l.length) l = evalsM R r' m' (if o = oPre then 0 else if o = oFby then 1 else l.length) l := by
  refine hL l (fun e he => ih e he) hsub _ m m' (fun j hj => hm j (by omega)) fun i h hik x hx => hn x ?_
  simp only [needs]
  by_cases e1 : o = oPre
  ·rw [if_pos e1] at hik; omega
  ·rw [if_neg e1] at hik ⊢
   by_cases e2 : o = oFby
   ·rw [if_pos e2] at hik ⊢
    obtain rfl : i = 0 := by omega
    cases l with
    | nil => simp at h
    | cons y l => simpa [needsH] using hx
   ·rw [if_neg e2]
    exact List.mem_append_right _ (needsL_mem (List.getElem_mem h) hx)
 simp only [evalM]
 rw [hvs, hf]
 suffices hs : ∀ late vs, valM R r (m + memNL l) o n s late vs = valM R r' (m' + memNL l) o n s late vs by rw [hs]
 intro late vs
 unfold valM
 rw [hf, hi]
 by_cases e1 : o = oInt
 ·rw [if_pos e1, if_pos e1]
 rw [if_neg e1, if_neg e1]
 by_cases e2 : o = oTrue ∨ o = oFalse
 ·rw [if_pos e2, if_pos e2]
 rw [if_neg e2, if_neg e2]
 by_cases e3 : o = oName
 ·rw [if_pos e3, if_pos e3]
  by_cases h5 : R.nm s < 0
  ·rw [if_pos h5, if_pos h5]
  ·have hks : (ks s).isSome = true := by
    simp only [formAll, Bool.and_eq_true, Bool.or_eq_true, decide_eq_true_eq] at hfo
    exact hfo.1.2.resolve_left (fun h => h e3)
   rw [if_neg h5, if_neg h5, hn (R.nm s).toNat ?_]
   simp only [needs]
   rw [if_neg (by rw [e3]; decide), if_neg (by rw [e3]; decide), if_pos e3, hnm s hks (by omega)]
   simp
 rw [if_neg e3, if_neg e3]
 by_cases e4 : o = oPre
 ·rw [if_pos e4, if_pos e4, hm (memNL l) (by rw [if_pos (.inl e4)]; omega)]
 rw [if_neg e4, if_neg e4]
 by_cases e5 : o = oFby
 ·rw [if_pos e5, if_pos e5, hm (memNL l) (by rw [if_pos (.inr e5)]; omega)]
 rw [if_neg e5, if_neg e5]
theorem nm_at {p : Pr} (hck : checkFlat p = 0) {ks : Env Int} (hks : freshGo Env.none p.vars = some ks) (s : ByteArray) (h1 : (ks s).isSome = true) (h2 : 0 ≤ getI (nmEnv p) s) : p.atOf s = some (getI (nmEnv p) s).toNat := by
 have hk := (nm_range hck hks s h1).2 h2
 have h3 := nm_of hck hks s h1 h2
 generalize (getI (nmEnv p) s).toNat = k at h3 hk ⊢
 have h6 : nfOf p k = p.fl[k].name := by simp [nfOf, List.getD_eq_getElem?_getD, hk]
 have h5 := at_get p.fl 0 Env.none (names_nd hck) k hk
 rw [h3, h6]
 unfold Pr.atOf
 rw [h5]
 simp
def Topo (g : List (List Nat)) (ord : List Nat) : Prop := ∀ i (h : i < ord.length), ord[i] ∉ ord.take i ∧ ∀ x ∈ g.getD ord[i] [], x ∈ ord.take i
theorem topo_snoc {g : List (List Nat)} {l : List Nat} {k : Nat} (h : Topo g l) (h1 : k ∉ l) (h2 : ∀ x ∈ g.getD k [], x ∈ l) : Topo g (l ++ [k]) := fun i hi => by
 by_cases hil : i < l.length
 ·rw [List.getElem_append_left hil, List.take_append_of_le_length (by omega)]
  exact h i hil
 ·simp only [List.length_append, List.length_singleton] at hi
  obtain rfl : i = l.length := by omega
  rw [List.take_left, show (l ++ [k])[l.length] = k from by simp]
  exact ⟨h1, h2⟩
theorem sort_topo {g : List (List Nat)} (hp : ∀ j, j < g.length → pick g (sortN g j []) < g.length) : ∀ j, j ≤ g.length → Topo g (sortN g j [])
 | 0, _ => fun i hi => by simp [sortN] at hi
 | j + 1, hj => by
  rw [sortN_out]
  have h := pick_free (hp j (by omega))
  unfold freeB at h
  simp only [Bool.and_eq_true, Bool.not_eq_true', List.all_eq_true] at h
  refine topo_snoc (sort_topo hp j (by omega)) (fun hm => ?_) fun x hx => ?_
  ·have := List.contains_iff_mem.2 hm
   rw [h.1] at this; cases this
  ·exact List.contains_iff_mem.1 (h.2 x hx)
theorem orderM_topo {p : Pr} {l : List Nat} (h : orderM p = .ok l) : Topo p.graph l := by
 unfold orderM at h
 split at h
 ·cases h
 ·rename_i h0
  have hc : checkFlat p = 0 := by simpa using h0
  split at h
  ·cases h
  ·rename_i hf
   cases h
   refine sort_topo (any_hpick p hc fun j hj => ?_) _ (Nat.le_refl _)
   have := List.find?_eq_none.1 hf j (by simpa using hj)
   simpa using this
theorem nodup_len : ∀ (n : Nat) (l : List Nat), l.Nodup → (∀ x ∈ l, x < n) → l.length ≤ n
 | 0, l, _, h => by
  cases l with
  | nil => simp
  | cons x l => exact absurd (h x (List.mem_cons_self ..)) (by omega)
 | n + 1, l, hn, h => by
  have h1 := nodup_len n (l.erase n) (hn.erase n) fun x hx => by
   have h2 := (List.Nodup.mem_erase_iff hn).1 hx
   have := h x h2.2
   omega
  have h3 := List.length_erase (a := n) (l := l)
  split at h3 <;> omega
theorem topo_nodup {g : List (List Nat)} {ord : List Nat} (h : Topo g ord) : ord.Nodup := by
 rw [List.nodup_iff_pairwise_ne, List.pairwise_iff_getElem]
 intro i j hi hj hij e
 refine (h j hj).1 ?_
 rw [← e]
 exact List.mem_take_iff_getElem.2 ⟨i, by omega, rfl⟩
theorem order_all {p : Pr} {l : List Nat} (h : orderM p = .ok l) : ∀ k, k < p.fl.length → k ∈ l := by
 obtain ⟨_, hlen, hlow⟩ := orderM_low h
 intro k hk
 refine Classical.byContradiction fun hn => ?_
 have := nodup_len p.fl.length (k :: l) (List.nodup_cons.2 ⟨hn, topo_nodup (orderM_topo h)⟩) fun x hx => by
  rcases List.mem_cons.1 hx with rfl | hx
  ·exact hk
  ·exact hlow x hx
 simp at this
 omega
abbrev d0 : Ex × Nat := (.mk ⟨#[]⟩ 0 ⟨#[]⟩ [], 0)
def evAt (R : REnv) (first : Bool) (mem inp : List Vl) (fs : List (Ex × Nat)) (now : List Vl) (k : Nat) : Vl × Bool := evalM R ⟨first, mem, inp, now⟩ (fs.getD k d0).2 (fs.getD k d0).1
theorem now_go {R : REnv} {ks : Env Int} {at_ : Env Nat} (hnm : ∀ s, (ks s).isSome = true → 0 ≤ R.nm s → at_ s = some (R.nm s).toNat) (first : Bool) (mem inp : List Vl) (fs : List (Ex × Nat)) (g : List (List Nat)) :
  ∀ (rest done : List Nat) (now : List Vl) (t : Bool), Topo g (done ++ rest) → (∀ k ∈ done ++ rest, k < now.length ∧ formAll ks (fs.getD k d0).1 = true ∧ ∀ x ∈ needs at_ (fs.getD k d0).1, x ∈ g.getD k []) →
   (∀ k ∈ done, now.getD k vz = (evAt R first mem inp fs now k).1) → (t = done.any fun k => (evAt R first mem inp fs now k).2) →
   (nowM R first mem inp fs rest now t).1.length = now.length ∧ (∀ k ∈ done ++ rest, (nowM R first mem inp fs rest now t).1.getD k vz = (evAt R first mem inp fs (nowM R first mem inp fs rest now t).1 k).1) ∧
    (nowM R first mem inp fs rest now t).2 = (done ++ rest).any fun k => (evAt R first mem inp fs (nowM R first mem inp fs rest now t).1 k).2
 | [], done, now, t, _, _, h1, h2 => by simpa [nowM] using ⟨h1, h2⟩
 | k :: rest, done, now, t, ht, hk, h1, h2 => by
  have hkk := ht done.length (by simp)
  have e0 : (done ++ k :: rest)[done.length] = k := by simp
  rw [e0, List.take_left] at hkk
  obtain ⟨hnk, hneed⟩ := hkk
  have hkl := (hk k (by simp)).1
  have hx : ∀ x ∈ done, ∀ v, (now.set k v).getD x vz = now.getD x vz := fun x hxd v => by
   have : k ≠ x := fun e => hnk (e ▸ hxd)
   simp [List.getD_eq_getElem?_getD, List.getElem?_set_ne this]
  have hev : ∀ y ∈ done ++ k :: rest, (∀ x ∈ g.getD y [], x ∈ done) → ∀ v, evAt R first mem inp fs (now.set k v) y = evAt R first mem inp fs now y := fun y hy hsub v => by
   unfold evAt
   exact eval_agree (at_ := at_) (r := ⟨first, mem, inp, now.set k v⟩) (r' := ⟨first, mem, inp, now⟩) hnm rfl rfl _ (hk y hy).2.1 _ _ (fun _ _ => rfl) fun x hx' => hx x (hsub x ((hk y hy).2.2 x hx')) v
  have hsubd : ∀ y ∈ done, ∀ x ∈ g.getD y [], x ∈ done := fun y hy x hxg => by
   obtain ⟨i, hi, rfl⟩ := List.mem_iff_getElem.1 hy
   have h3 := (ht i (by simp; omega)).2
   rw [List.getElem_append_left hi, List.take_append_of_le_length (by omega)] at h3
   exact List.mem_of_mem_take (h3 x hxg)
  have hstep : nowM R first mem inp fs (k :: rest) now t = nowM R first mem inp fs rest (now.set k (evAt R first mem inp fs now k).1) (t || (evAt R first mem inp fs now k).2) := rfl
  rw [hstep]
  have hgo := now_go hnm first mem inp fs g rest (done ++ [k]) (now.set k (evAt R first mem inp fs now k).1) (t || (evAt R first mem inp fs now k).2) (by simpa using ht) (fun y hy => by simpa using hk y (by simpa using hy)) (fun y hy => by
   rcases List.mem_append.1 hy with hy | hy
   ·rw [hx y hy, h1 y hy, hev y (List.mem_append_left _ hy) (hsubd y hy)]
   ·obtain rfl := List.mem_singleton.1 hy
    rw [hev y (by simp) hneed]
    simp [List.getD_eq_getElem?_getD, hkl]) (by
   rw [List.any_append, h2]
   congr 1
   ·rw [Bool.eq_iff_iff]
    simp only [List.any_eq_true]
    constructor
    ·rintro ⟨y, hy, h⟩; exact ⟨y, hy, by rw [hev y (List.mem_append_left _ hy) (hsubd y hy)]; exact h⟩
    ·rintro ⟨y, hy, h⟩; exact ⟨y, hy, by rw [hev y (List.mem_append_left _ hy) (hsubd y hy)] at h; exact h⟩
   ·simp [hev k (by simp) hneed])
  simpa using hgo
theorem withAt_get? : ∀ (l : List Ex) (m k : Nat) (h : k < l.length), (withAt m l)[k]? = some (l[k], m + memNL (l.take k))
 | [], m, k, h => by simp at h
 | e :: l, m, 0, _ => by simp [withAt, memNL]
 | e :: l, m, k + 1, h => by
  simp only [withAt, List.getElem?_cons_succ, List.getElem_cons_succ, List.take_succ_cons, memNL]
  rw [withAt_get? l (m + memN e) k (by simpa using h), Nat.add_assoc]
def flAt (p : Pr) (k : Nat) : Nat := memNL ((p.fl.map (·.e)).take k)
theorem fs_get (p : Pr) (ord : List Nat) (k : Nat) (h : k < p.fl.length) : (cdOf p ord).fs.getD k d0 = (p.fl[k].e, flAt p k) := by
 have := withAt_get? (p.fl.map (·.e)) 0 k (by simpa using h)
 show (withAt 0 (p.fl.map (·.e))).getD k d0 = _
 rw [List.getD_eq_getElem?_getD, this]
 simp [flAt]
theorem now_fix {p : Pr} (h : (checkM p).1 = 0) {ks : Env Int} (hks : freshGo Env.none p.vars = some ks) {ord : List Nat} (ho : orderM p = .ok ord) (R : REnv) (hnmR : R.nm = getI (nmEnv p)) (first : Bool) (mem inp : List Vl) :
  (nowM R first mem inp (cdOf p ord).fs ord (List.replicate p.fl.length vz) false).1.length = p.fl.length ∧
  (∀ k (hk : k < p.fl.length), (nowM R first mem inp (cdOf p ord).fs ord (List.replicate p.fl.length vz) false).1.getD k vz = (evalM R ⟨first, mem, inp, (nowM R first mem inp (cdOf p ord).fs ord (List.replicate p.fl.length vz) false).1⟩ (flAt p k) p.fl[k].e).1) ∧
  ((nowM R first mem inp (cdOf p ord).fs ord (List.replicate p.fl.length vz) false).2 = true ↔ ∃ k, ∃ hk : k < p.fl.length, (evalM R ⟨first, mem, inp, (nowM R first mem inp (cdOf p ord).fs ord (List.replicate p.fl.length vz) false).1⟩ (flAt p k) p.fl[k].e).2 = true) := by
 obtain ⟨hck, hlen, hlow⟩ := orderM_low ho
 obtain ⟨ks', hks', _, hfm, _⟩ := check_zero hck
 rw [hks] at hks'
 cases hks'
 have hform : ∀ k (hk : k < p.fl.length), formAll ks p.fl[k].e = true := fun k hk => by
  obtain ⟨i, hi, e⟩ := List.mem_iff_getElem.1 (terms_fl p (List.getElem_mem hk))
  rw [← e]
  exact (formAllL_get ks _).1 hfm i hi
 have hgo := now_go (R := R) (ks := ks) (at_ := p.atOf) (fun s h1 h2 => by rw [hnmR] at h2 ⊢; exact nm_at hck hks s h1 h2) first mem inp (cdOf p ord).fs p.graph ord [] (List.replicate p.fl.length vz) false (by simpa using orderM_topo ho) (fun k hk => by
  have hkl := hlow k (by simpa using hk)
  refine ⟨by simpa using hkl, by rw [fs_get p ord k hkl]; exact hform k hkl, fun x hx => ?_⟩
  rw [fs_get p ord k hkl] at hx
  have : p.graph.getD k [] = needs p.atOf p.fl[k].e := by simp [Pr.graph, List.getD_eq_getElem?_getD, hkl]
  rw [this]
  exact hx) (fun k hk => by cases hk) (by simp)
 generalize nowM R first mem inp (cdOf p ord).fs ord (List.replicate p.fl.length vz) false = N at *
 obtain ⟨g1, g2, g3⟩ := hgo
 refine ⟨by simpa using g1, fun k hk => ?_, ?_⟩
 ·have := g2 k (by simpa using order_all ho k hk)
  unfold evAt at this
  rw [fs_get p ord k hk] at this
  exact this
 ·rw [g3, List.any_eq_true]
  constructor
  ·rintro ⟨k, hk, h⟩
   have hkl := hlow k (by simpa using hk)
   unfold evAt at h
   rw [fs_get p ord k hkl] at h
   exact ⟨k, hkl, h⟩
  ·rintro ⟨k, hk, h⟩
   refine ⟨k, by simpa using order_all ho k hk, ?_⟩
   unfold evAt
   rw [fs_get p ord k hk]
   exact h
end Go.Proofs.YthejomlhmdeimaaDoor
namespace Go.Proofs.YthejomlhmdeimaaDoor
open Mx
theorem runGo_inv {R : REnv} {c : Cd} {P : Bool → List Vl → Prop} {Q : Tk → Prop} (hs : ∀ first mem inp, P first mem → (tickM R c first mem inp).1.trap = true ∨ (Q (tickM R c first mem inp).1 ∧ P false (tickM R c first mem inp).2)) :
  ∀ (l : List (List Vl)) (first : Bool) (mem : List Vl), P first mem → ∀ k ∈ runGo R c first mem l, k.trap = true ∨ Q k
 | [], _, _, _, k, hk => by simp [runGo] at hk
 | x :: l, first, mem, hP, k, hk => by
  simp only [runGo, List.mem_cons] at hk
  have h := hs first mem x hP
  rcases hk with rfl | hk
  ·exact h.imp id (·.1)
  ·split at hk
   ·cases hk
   ·rename_i ht
    exact runGo_inv hs l false _ (h.resolve_left (by simpa using ht)).2 k hk
theorem tick_fix {p : Pr} (h : (checkM p).1 = 0) {ks : Env Int} (hks : freshGo Env.none p.vars = some ks) {ord : List Nat} (ho : orderM p = .ok ord) (R : REnv) (hnmR : R.nm = getI (nmEnv p)) (first : Bool) (mem inp : List Vl) :
  (tickM R (cdOf p ord) first mem inp).1.trap = true ∨ ∃ N : List Vl, N.length = p.fl.length ∧ (∀ k (hk : k < p.fl.length), N.getD k vz = (evalM R ⟨first, mem, inp, N⟩ (flAt p k) p.fl[k].e).1) ∧
   (tickM R (cdOf p ord) first mem inp).1.out = p.outs.map (fun s => N.getD (getI (nmEnv p) s).toNat vz) ∧ (tickM R (cdOf p ord) first mem inp).2 = (memsAtL 0 p.terms).map fun x => (evalM R ⟨first, mem, inp, N⟩ x.2 x.1).1 := by
 obtain ⟨g1, g2, _⟩ := now_fix h hks ho R hnmR first mem inp
 have hfl : (cdOf p ord).fs.length = p.fl.length := by show (withAt 0 _).length = _; rw [withAt_len, List.length_map]
 unfold tickM
 dsimp only
 rw [hfl]
 have e0 : (cdOf p ord).ord = ord := rfl
 rw [e0]
 generalize nowM R first mem inp (cdOf p ord).fs ord (List.replicate p.fl.length vz) false = N at *
 split
 ·exact .inl rfl
 ·refine .inr ⟨N.1, g1, g2, ?_, rfl⟩
  show ((p.outs.map (getI (nmEnv p))).map fun i : Int => N.1.getD i.toNat vz) = _
  rw [List.map_map]
  rfl
theorem memsAt_shift : ∀ (e : Ex) (m d : Nat), memsAt (m + d) e = (memsAt m e).map fun x => (x.1, x.2 + d) := by
 refine Ex.ind fun o n s l ih m d => ?_
 have hL : ∀ (l : List Ex), (∀ e ∈ l, ∀ m d, memsAt (m + d) e = (memsAt m e).map fun x => (x.1, x.2 + d)) → ∀ m d, memsAtL (m + d) l = (memsAtL m l).map fun x => (x.1, x.2 + d) := by
  intro l
  induction l with
  | nil => intro _ m d; rfl
  | cons e l ihl =>
   intro hh m d
   simp only [memsAtL, List.map_append]
   rw [hh e (List.mem_cons_self ..), show m + d + memN e = m + memN e + d from by omega, ihl fun y hy => hh y (List.mem_cons_of_mem _ hy)]
 simp only [memsAt, List.map_append]
 rw [hL l ih]
 congr 1
 split
 ·simp; omega
 ·rfl
theorem memsAt_fit {ks : Env Int} : ∀ (e : Ex), formAll ks e = true → ∀ (m : Nat), ∀ x ∈ memsAt m e, m ≤ x.2 ∧ x.2 + memN x.1 ≤ m + memN e ∧ formAll ks x.1 = true := by
 refine Ex.ind fun o n s l ih hf m x hx => ?_
 obtain ⟨hsub, hfby, _, hpre, _⟩ := formAll_parts hf
 have hL : ∀ (l : List Ex), (∀ e ∈ l, formAll ks e = true → ∀ (m : Nat), ∀ x ∈ memsAt m e, m ≤ x.2 ∧ x.2 + memN x.1 ≤ m + memN e ∧ formAll ks x.1 = true) → (∀ e ∈ l, formAll ks e = true) → ∀ m, ∀ x ∈ memsAtL m l, m ≤ x.2 ∧ x.2 + memN x.1 ≤ m + memNL l ∧ formAll ks x.1 = true := by
  intro l
  induction l with
  | nil => intro _ _ m x hx; simp [memsAtL] at hx
  | cons e l ihl =>
   intro hh hff m x hx
   simp only [memsAtL, List.mem_append] at hx
   simp only [memNL]
   rcases hx with hx | hx
   ·have := hh e (List.mem_cons_self ..) (hff e (List.mem_cons_self ..)) m x hx
    exact ⟨this.1, by omega, this.2.2⟩
   ·have := ihl (fun y hy => hh y (List.mem_cons_of_mem _ hy)) (fun y hy => hff y (List.mem_cons_of_mem _ hy)) _ x hx
    exact ⟨by omega, by omega, this.2.2⟩
 simp only [memsAt, List.mem_append] at hx
 rw [memN_parts]
 rcases hx with hx | hx
 ·have := hL l (fun e he => ih e he) hsub m x hx
  exact ⟨this.1, by omega, this.2.2⟩
 ·split at hx
  ·rename_i ho
   rw [if_pos ho]
   obtain rfl := List.mem_singleton.1 hx
   have hne : l ≠ [] := fun e => by
    rcases ho with ho | ho
    ·have := hpre ho; rw [e] at this; cases this
    ·have := hfby ho; rw [e] at this; cases this
   rcases List.eq_nil_or_concat l with rfl | ⟨r, e, rfl⟩
   ·exact absurd rfl hne
   ·have e1 : (r.concat e).getLastD (.mk o n s (r.concat e)) = e := by simp
    have e2 : (r.concat e).dropLast = r := by simp
    have e3 : memNL (r.concat e) = memNL r + memN e := by simp [memNL_append, memNL]
    dsimp only
    rw [e1, e2, e3]
    exact ⟨by omega, by omega, hsub e (by simp)⟩
  ·cases hx
theorem memsAt_len (e : Ex) (m : Nat) : (memsAt m e).length = memN e := by rw [memsAt_nds, List.length_map, memNds_len]
theorem memNds_fst : ∀ (e : Ex) (m m' : Nat), (memNds m e).map (·.1) = (memNds m' e).map (·.1) := by
 refine Ex.ind fun o n s l ih m m' => ?_
 have hL : ∀ (l : List Ex), (∀ e ∈ l, ∀ m m', (memNds m e).map (·.1) = (memNds m' e).map (·.1)) → ∀ m m', (memNdsL m l).map (·.1) = (memNdsL m' l).map (·.1) := by
  intro l
  induction l with
  | nil => intro _ m m'; rfl
  | cons e l ihl =>
   intro hh m m'
   simp only [memNdsL, List.map_append]
   rw [hh e (List.mem_cons_self ..) m m', ihl (fun y hy => hh y (List.mem_cons_of_mem _ hy)) (m + memN e) (m' + memN e)]
 simp only [memNds, List.map_append]
 rw [hL l ih m m']
 congr 1
 split <;> rfl
def xV : ByteArray := ⟨#[120]⟩
def yV : ByteArray := ⟨#[121]⟩
def aV : ByteArray := ⟨#[97]⟩
def bV : ByteArray := ⟨#[98]⟩
def pairP (kind : Int) (A B : Ex) : Pr := ⟨[⟨xV, 1⟩, ⟨yV, 2⟩], [aV, bV], [⟨aV, kind, A⟩, ⟨bV, kind, B⟩], [], []⟩
theorem pair_nm (kind : Int) (A B : Ex) : getI (nmEnv (pairP kind A B)) aV = 0 ∧ getI (nmEnv (pairP kind A B)) bV = 1 ∧ getI (nmEnv (pairP kind A B)) xV = -1 ∧ getI (nmEnv (pairP kind A B)) yV = -2 := by
 refine ⟨?_, ?_, ?_, ?_⟩ <;> rfl
theorem pair_terms (kind : Int) (A B : Ex) : (pairP kind A B).terms = [A, B] := rfl
theorem pair_kinds {kind : Int} {A B : Ex} (h : (checkM (pairP kind A B)).1 = 0) {ks : Env Int} (hks : freshGo Env.none (pairP kind A B).vars = some ks) : kindOf ks A = kind ∧ kindOf ks B = kind ∧ formAll ks A = true ∧ formAll ks B = true := by
 obtain ⟨_, ho, _⟩ := checkM_zero h
 obtain ⟨hck, _, _⟩ := orderM_low ho
 obtain ⟨ks', hks', _, hf, _, _, _, hk⟩ := check_zero hck
 rw [hks] at hks'
 cases hks'
 rw [pair_terms] at hf hk
 simp only [formAllL, Bool.and_eq_true] at hf
 have h1 : ((pairP kind A B).fl.map (·.kind)) = [kind, kind] := rfl
 rw [h1] at hk
 simp only [kindsGo, Bool.and_eq_true, decide_eq_true_eq] at hk
 exact ⟨hk.1, hk.2.1, hf.1, hf.2.1⟩
theorem pair_tick {kind : Int} {A B : Ex} (h : (checkM (pairP kind A B)).1 = 0) {ks : Env Int} (hks : freshGo Env.none (pairP kind A B).vars = some ks) {ord : List Nat} (ho : orderM (pairP kind A B) = .ok ord) (R : REnv) (hnmR : R.nm = getI (nmEnv (pairP kind A B))) (first : Bool) (mem inp : List Vl) :
  (tickM R (cdOf (pairP kind A B) ord) first mem inp).1.trap = true ∨ ∃ N : List Vl,
   (tickM R (cdOf (pairP kind A B) ord) first mem inp).1.out = [(evalM R ⟨first, mem, inp, N⟩ 0 A).1, (evalM R ⟨first, mem, inp, N⟩ (memN A) B).1] ∧
   (tickM R (cdOf (pairP kind A B) ord) first mem inp).2 = (memsAt 0 A ++ memsAt (memN A) B).map fun x => (evalM R ⟨first, mem, inp, N⟩ x.2 x.1).1 := by
 refine (tick_fix h hks ho R hnmR first mem inp).imp id fun ⟨N, hl, hN, h1, h2⟩ => ⟨N, ?_, ?_⟩
 ·have e0 := hN 0 (by show 0 < 2; omega)
  have e1 := hN 1 (by show 1 < 2; omega)
  have f0 : flAt (pairP kind A B) 0 = 0 := rfl
  have f1 : flAt (pairP kind A B) 1 = memN A := by show memNL [A] = _; simp [memNL]
  rw [f0] at e0
  rw [f1] at e1
  rw [h1]
  show [N.getD (getI (nmEnv (pairP kind A B)) aV).toNat vz, N.getD (getI (nmEnv (pairP kind A B)) bV).toNat vz] = _
  obtain ⟨n0, n1, _⟩ := pair_nm kind A B
  rw [n0, n1]
  show [N.getD 0 vz, N.getD 1 vz] = _
  rw [e0, e1]
  rfl
 ·rw [h2, pair_terms]
  simp [memsAtL]
end Go.Proofs.YthejomlhmdeimaaDoor
namespace Go.Proofs.YthejomlhmdeimaaDoor
open Mx
def fbyE (a b : Ex) : Ex := .mk oFby 0 ⟨#[]⟩ [a, b]
def arrE (a b : Ex) : Ex := .mk oArrow 0 ⟨#[]⟩ [a, b]
def preE (a : Ex) : Ex := .mk oPre 0 ⟨#[]⟩ [a]
theorem ops_ne : oFby ≠ oInt ∧ oFby ≠ oTrue ∧ oFby ≠ oFalse ∧ oFby ≠ oName ∧ oFby ≠ oPre ∧ oArrow ≠ oInt ∧ oArrow ≠ oTrue ∧ oArrow ≠ oFalse ∧ oArrow ≠ oName ∧ oArrow ≠ oPre ∧ oArrow ≠ oFby ∧ oPre ≠ oInt ∧ oPre ≠ oTrue ∧ oPre ≠ oFalse ∧ oPre ≠ oName := by decide
theorem fby_late (lt : ByteArray → Int) (a b : Ex) : lateOf lt (fbyE a b) = if min 2 (lateOf lt b + 1) = 2 then 2 else lateOf lt a := by
 have h := ops_ne
 simp [fbyE, lateOf, latesOf, h]
theorem arr_late (lt : ByteArray → Int) (a b : Ex) : lateOf lt (arrE a b) = if lateOf lt b = 2 then 2 else lateOf lt a := by
 have h := ops_ne
 simp [arrE, lateOf, latesOf, h]
theorem pre_late (lt : ByteArray → Int) (a : Ex) : lateOf lt (preE a) = min 2 (lateOf lt a + 1) := by
 have h := ops_ne
 simp [preE, lateOf, latesOf, h]
theorem fby_eval (R : REnv) (r : Inst) (m : Nat) (a b : Ex) : (evalM R r m (fbyE a b)).1 = if (r.first && decide (0 < lateOf R.lt (fbyE a b))) = true then nilV R.nb R.ni (kindOf R.ks (fbyE a b)) else if r.first = true then (evalM R r m a).1 else r.mem.getD (m + memNL [a, b]) vz := by
 have h := ops_ne
 rcases Bool.eq_false_or_eq_true r.first with hf | hf
 ·by_cases hl : 0 < lateOf R.lt (.mk oFby 0 ⟨#[]⟩ [a, b])
  ·simp [fbyE, evalM, evalsM, valM, h, hf, hl]
  ·simp [fbyE, evalM, evalsM, valM, h, hf, hl]
 ·simp [fbyE, evalM, evalsM, valM, h, hf]
theorem arr_eval (R : REnv) (r : Inst) (m : Nat) (a b : Ex) : (evalM R r m (arrE a b)).1 = if (r.first && decide (0 < lateOf R.lt (arrE a b))) = true then nilV R.nb R.ni (kindOf R.ks (arrE a b)) else if r.first = true then (evalM R r m a).1 else (evalM R r (m + memN a) b).1 := by
 have h := ops_ne
 rcases Bool.eq_false_or_eq_true r.first with hf | hf
 ·by_cases hl : 0 < lateOf R.lt (.mk oArrow 0 ⟨#[]⟩ [a, b])
  ·simp [arrE, evalM, evalsM, valM, h, hf, hl]
  ·simp [arrE, evalM, evalsM, valM, h, hf, hl]
 ·simp [arrE, evalM, evalsM, valM, h, hf]
theorem pre_eval (R : REnv) (r : Inst) (m : Nat) (a : Ex) (hf : r.first = false) : (evalM R r m (preE a)).1 = r.mem.getD (m + memNL [a]) vz := by
 have h := ops_ne
 simp [preE, evalM, evalsM, valM, h, hf]
theorem fby_mems (m : Nat) (a b : Ex) : memsAt m (fbyE a b) = memsAtL m [a, b] ++ [(b, m + memN a)] := by
 simp [fbyE, memsAt, memNL]
theorem arr_mems (m : Nat) (a b : Ex) : memsAt m (arrE a b) = memsAtL m [a, b] := by
 have h := ops_ne
 simp [arrE, memsAt, h]
theorem pre_mems (m : Nat) (a : Ex) : memsAt m (preE a) = memsAt m a ++ [(a, m)] := by
 simp [preE, memsAt, memsAtL, memNL]
theorem fby_memN (a b : Ex) : memN (fbyE a b) = memN a + memN b + 1 := by simp [fbyE, memN, memNL]
theorem arr_memN (a b : Ex) : memN (arrE a b) = memN a + memN b := by
 have h := ops_ne
 simp [arrE, memN, memNL, h]
theorem pre_memN (a : Ex) : memN (preE a) = memN a + 1 := by simp [preE, memN, memNL]
theorem sub_form {ks : Env Int} {o : ByteArray} {l : List Ex} (h : formAll ks (.mk o 0 ⟨#[]⟩ l) = true) : ∀ e ∈ l, formAll ks e = true := (formAll_parts h).1
def Half (M : Nat) (mem : List Vl) : Prop := ∀ j, j < M → mem.getD j vz = mem.getD (M + j) vz
theorem half_map {α : Type} (f : α → Vl) (x y : List α) (hl : x.length = y.length) (h : ∀ j (h1 : j < x.length) (h2 : j < y.length), f x[j] = f y[j]) : Half x.length ((x ++ y).map f) := fun j hj => by
 have hj2 : j < y.length := by omega
 simp only [List.map_append, List.getD_eq_getElem?_getD]
 rw [List.getElem?_append_left (by simpa using hj), List.getElem?_append_right (by simp)]
 simp [hj, hj2, h j hj hj2]
end Go.Proofs.YthejomlhmdeimaaDoor
