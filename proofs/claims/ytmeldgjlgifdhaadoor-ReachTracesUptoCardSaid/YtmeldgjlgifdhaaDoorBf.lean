/- Plain: a search in breadth (package reach), whatever its states are: what is found, its way, that none is shorter; with more to choose no fewer are reached: no program in sight. -/
import Derived.Test.YtmeldgjlgifdhaaDoorAp
import Derived.Test.YtmeldgjlgifdhaaDoorFxM
namespace Go.Proofs.YtmeldgjlgifdhaaDoor.Bf
structure En (S C : Type) where
 s : S
 frm : Int
 c : C
inductive Res (S C : Type) where
 | found (i : Nat) (l : List (En S C)) (c : C) (k : Int)
 | over
 | ok (l : List (En S C))
variable {S C : Type} (st : S → C → Option Int) (nx : S → C → Option S)
def inner [DecidableEq S] (most i : Nat) (e : En S C) : List (En S C) → List C → Res S C
 | l, [] => .ok l
 | l, c :: cs =>
  match st e.s c with
  | some k => .found i l c k
  | none =>
   match nx e.s c with
   | none => inner most i e l cs
   | some s' => if s' ∈ l.map (·.s) then inner most i e l cs else if l.length = most then .over else inner most i e (l ++ [⟨s', i, c⟩]) cs
def outer [DecidableEq S] (most : Nat) (cs : List C) : Nat → List (En S C) → Nat → Res S C
 | 0, l, _ => .ok l
 | f + 1, l, i =>
  match l[i]? with
  | none => .ok l
  | some e =>
   match inner st nx most i e l cs with
   | .ok l' => outer most cs f l' (i + 1)
   | r => r
def search [DecidableEq S] (most : Nat) (cs : List C) (s0 : S) (c0 : C) : Res S C := outer st nx most cs (most + 1) [⟨s0, -1, c0⟩] 0
def way (l : List (En S C)) : Nat → Nat → List C
 | 0, _ => []
 | f + 1, j =>
  match l[j]? with
  | none => []
  | some e => if e.frm < 0 then [] else way l f e.frm.toNat ++ [e.c]
def go : S → List C → Option S
 | s, [] => some s
 | s, c :: cs => match st s c with
  | some _ => none
  | none => match nx s c with
   | none => none
   | some s' => go s' cs
theorem go_snoc : ∀ (w : List C) (s : S) (c : C) (t : S), go st nx s w = some t → st t c = none → go st nx s (w ++ [c]) = nx t c
 | [], s, c, t, h, h1 => by
  simp only [go, Option.some.injEq] at h
  subst h
  simp only [List.nil_append, go, h1]
  cases nx s c <;> rfl
 | x :: w, s, c, t, h, h1 => by
  simp only [List.cons_append, go] at h ⊢
  cases e : st s x with
  | some k => rw [e] at h; cases h
  | none =>
   rw [e] at h
   dsimp only at h ⊢
   cases e2 : nx s x with
   | none => rw [e2] at h; cases h
   | some s' => rw [e2] at h; exact go_snoc w s' c t h h1
structure Inv (cs : List C) (s0 : S) (i : Nat) (l : List (En S C)) : Prop where
 pos : 0 < l.length
 nodup : (l.map (·.s)).Nodup
 first : ∀ h : 0 < l.length, l[0].s = s0 ∧ l[0].frm < 0
 from_ : ∀ j (h : j < l.length), 0 < j → ∃ f, ∃ hf : f < l.length, l[j].frm = (f : Int) ∧ f < j ∧ f ≤ i ∧ l[j].c ∈ cs ∧ st l[f].s l[j].c = none ∧ nx l[f].s l[j].c = some l[j].s
 mono : ∀ j j' (h : j < l.length) (h' : j' < l.length), j ≤ j' → l[j].frm ≤ l[j'].frm
 closed : ∀ j (h : j < l.length), j < i → ∀ c ∈ cs, st l[j].s c = none ∧ ∀ s', nx l[j].s c = some s' → ∃ j', ∃ h' : j' < l.length, l[j'].s = s' ∧ l[j'].frm ≤ (j : Int)
theorem Inv.start {cs : List C} {s0 : S} {c0 : C} : Inv st nx cs s0 0 [⟨s0, -1, c0⟩] where
 pos := by simp
 nodup := by simp
 first := fun _ => ⟨rfl, by simp⟩
 from_ := fun j h h0 => by simp at h; omega
 mono := fun j j' h h' _ => by simp at h h'; subst h; subst h'; exact Int.le_refl _
 closed := fun j _ h => by omega
theorem Inv.snoc {cs : List C} {s0 : S} {i : Nat} {l : List (En S C)} (h : Inv st nx cs s0 i l) (hi : i < l.length) {c : C} (hc : c ∈ cs) {s' : S} (h1 : st l[i].s c = none) (h2 : nx l[i].s c = some s') (h3 : s' ∉ l.map (·.s)) : Inv st nx cs s0 i (l ++ [⟨s', i, c⟩]) := by
 have hfi : ∀ j (hj : j < l.length), l[j].frm ≤ (i : Int) := fun j hj => by
  by_cases h0 : 0 < j
  ·obtain ⟨f, _, e, _, hfi, _⟩ := h.from_ j hj h0
   omega
  ·obtain rfl : j = 0 := by omega
   have := (h.first hj).2
   omega
 refine ⟨by simp, ?_, fun _ => ?_, fun j hj h0 => ?_, fun j j' hj hj' hjj => ?_, fun j hj hji c' hc' => ?_⟩
 ·rw [List.map_append, List.nodup_append]
  refine ⟨h.nodup, by simp, fun a ha b hb => ?_⟩
  simp only [List.map_cons, List.map_nil, List.mem_singleton] at hb
  subst hb
  exact fun e => h3 (e ▸ ha)
 ·rw [List.getElem_append_left h.pos]; exact h.first h.pos
 ·by_cases hjl : j < l.length
  ·obtain ⟨f, hf, e, f1, f2, f3, f4, f5⟩ := h.from_ j hjl h0
   refine ⟨f, by simp; omega, ?_⟩
   rw [List.getElem_append_left hjl, List.getElem_append_left hf]
   exact ⟨e, f1, f2, f3, f4, f5⟩
  ·obtain rfl : j = l.length := by simp at hj; omega
   refine ⟨i, by simp; omega, ?_⟩
   rw [List.getElem_append_left hi]
   simp only [List.getElem_append_right (Nat.le_refl _), Nat.sub_self, List.getElem_cons_zero]
   exact ⟨by trivial, hi, Nat.le_refl _, hc, h1, h2⟩
 ·by_cases hjl' : j' < l.length
  ·rw [List.getElem_append_left hjl', List.getElem_append_left (by omega)]
   exact h.mono j j' (by omega) hjl' hjj
  ·obtain rfl : j' = l.length := by simp at hj'; omega
   simp only [List.getElem_append_right (Nat.le_refl _), Nat.sub_self, List.getElem_cons_zero]
   by_cases hjl : j < l.length
   ·rw [List.getElem_append_left hjl]; exact hfi j hjl
   ·obtain rfl : j = l.length := by omega
    simp
 ·have hjl : j < l.length := by omega
  rw [List.getElem_append_left hjl]
  obtain ⟨g1, g2⟩ := h.closed j hjl hji c' hc'
  refine ⟨g1, fun t ht => ?_⟩
  obtain ⟨j', hj', e1, e2⟩ := g2 t ht
  exact ⟨j', by simp; omega, by rw [List.getElem_append_left hj']; exact ⟨e1, e2⟩⟩
theorem inner_post [DecidableEq S] {cs : List C} {s0 : S} {i most : Nat} {e : En S C} : ∀ (rest done : List C) (l : List (En S C)), cs = done ++ rest → Inv st nx cs s0 i l → (hi : i < l.length) → l[i] = e → l.length ≤ most →
  (∀ c ∈ done, st e.s c = none ∧ ∀ s', nx e.s c = some s' → ∃ j', ∃ h' : j' < l.length, l[j'].s = s' ∧ l[j'].frm ≤ (i : Int)) →
  match inner st nx most i e l rest with
  | .ok l' => Inv st nx cs s0 (i + 1) l' ∧ i < l'.length ∧ l'.length ≤ most
  | .found i' l' c k => i' = i ∧ Inv st nx cs s0 i l' ∧ ∃ h : i < l'.length, l'[i] = e ∧ c ∈ cs ∧ st e.s c = some k ∧ l'.length ≤ most
  | .over => True
 | [], done, l, hcs, h, hi, he, hm, hd => by
  simp only [inner]
  simp only [List.append_nil] at hcs
  subst hcs
  refine ⟨⟨h.pos, h.nodup, h.first, fun j hj h0 => ?_, h.mono, fun j hj hji c hc => ?_⟩, hi, hm⟩
  ·obtain ⟨f, hf, e, f1, f2, f3⟩ := h.from_ j hj h0
   exact ⟨f, hf, e, f1, by omega, f3⟩
  ·by_cases hji' : j < i
   ·exact h.closed j hj hji' c hc
   ·obtain rfl : j = i := by omega
    rw [he]
    exact hd c hc
 | c :: rest, done, l, hcs, h, hi, he, hm, hd => by
  have hc : c ∈ cs := by rw [hcs]; simp
  simp only [inner]
  cases h1 : st e.s c with
  | some k => exact ⟨rfl, h, hi, he, hc, h1, hm⟩
  | none =>
   dsimp only
   have hcs' : cs = (done ++ [c]) ++ rest := by rw [hcs]; simp
   cases h2 : nx e.s c with
   | none =>
    refine inner_post rest (done ++ [c]) l hcs' h hi he hm fun x hx => ?_
    rcases List.mem_append.1 hx with hx | hx
    ·exact hd x hx
    ·obtain rfl := List.mem_singleton.1 hx
     exact ⟨h1, fun s' hs => by rw [h2] at hs; cases hs⟩
   | some s' =>
    dsimp only
    have hfi : ∀ j (hj : j < l.length), l[j].frm ≤ (i : Int) := fun j hj => by
     by_cases h0 : 0 < j
     ·obtain ⟨f, _, e, _, hfi, _⟩ := h.from_ j hj h0
      omega
     ·obtain rfl : j = 0 := by omega
      have := (h.first hj).2
      omega
    by_cases hin : s' ∈ l.map (·.s)
    ·rw [if_pos hin]
     refine inner_post rest (done ++ [c]) l hcs' h hi he hm fun x hx => ?_
     rcases List.mem_append.1 hx with hx | hx
     ·exact hd x hx
     ·obtain rfl := List.mem_singleton.1 hx
      refine ⟨h1, fun t ht => ?_⟩
      rw [h2] at ht
      cases ht
      obtain ⟨j', hj', e1⟩ := List.mem_iff_getElem.1 hin
      have hj2 : j' < l.length := by simpa using hj'
      exact ⟨j', hj2, by simpa using e1, hfi j' hj2⟩
    ·rw [if_neg hin]
     by_cases hfull : l.length = most
     ·rw [if_pos hfull]; trivial
     ·rw [if_neg hfull]
      have hs := h.snoc st nx hi hc (by rw [he]; exact h1) (by rw [he]; exact h2) hin
      refine inner_post rest (done ++ [c]) _ hcs' hs (by simp; omega) (by rw [List.getElem_append_left hi]; exact he) (by simp; omega) fun x hx => ?_
      rcases List.mem_append.1 hx with hx | hx
      ·obtain ⟨g1, g2⟩ := hd x hx
       refine ⟨g1, fun t ht => ?_⟩
       obtain ⟨j', hj', e1, e2⟩ := g2 t ht
       exact ⟨j', by simp; omega, by rw [List.getElem_append_left hj']; exact ⟨e1, e2⟩⟩
      ·obtain rfl := List.mem_singleton.1 hx
       refine ⟨h1, fun t ht => ?_⟩
       rw [h2] at ht
       cases ht
       exact ⟨l.length, by simp, by simp⟩
theorem outer_post [DecidableEq S] {cs : List C} {s0 : S} {most : Nat} : ∀ (f : Nat) (l : List (En S C)) (i : Nat), Inv st nx cs s0 i l → i ≤ l.length → l.length ≤ most → most < f + i →
  match outer st nx most cs f l i with
  | .ok l' => Inv st nx cs s0 l'.length l' ∧ l'.length ≤ most
  | .found i' l' c k => Inv st nx cs s0 i' l' ∧ ∃ h : i' < l'.length, c ∈ cs ∧ st l'[i'].s c = some k ∧ l'.length ≤ most
  | .over => True
 | 0, l, i, h, hi, hm, hf => by omega
 | f + 1, l, i, h, hi, hm, hf => by
  simp only [outer]
  by_cases hil : i < l.length
  ·rw [List.getElem?_eq_getElem hil]
   dsimp only
   have hp := inner_post st nx (e := l[i]) cs [] l (by simp) h hil rfl hm (fun c hc => by cases hc)
   generalize inner st nx most i l[i] l cs = r at hp ⊢
   cases r with
   | found i' l' c k =>
    obtain ⟨rfl, g1, g2, g3, g4, g5, g6⟩ := hp
    exact ⟨g1, g2, g4, by rw [g3]; exact g5, g6⟩
   | over => trivial
   | ok l' => exact outer_post f l' (i + 1) hp.1 hp.2.1 hp.2.2 (by omega)
  ·rw [List.getElem?_eq_none (by omega)]
   obtain rfl : i = l.length := by omega
   exact ⟨h, hm⟩
theorem search_post [DecidableEq S] {cs : List C} {s0 : S} {c0 : C} {most : Nat} (hm : 1 ≤ most) :
  match search st nx most cs s0 c0 with
  | .ok l' => Inv st nx cs s0 l'.length l' ∧ l'.length ≤ most
  | .found i' l' c k => Inv st nx cs s0 i' l' ∧ ∃ h : i' < l'.length, c ∈ cs ∧ st l'[i'].s c = some k ∧ l'.length ≤ most
  | .over => True := outer_post st nx (most + 1) _ 0 (Inv.start st nx) (Nat.zero_le _) (by simpa using hm) (by omega)
def W (l : List (En S C)) (j : Nat) : List C := way l (j + 1) j
section
variable {st nx} {cs : List C} {s0 : S} {i : Nat} {l : List (En S C)}
theorem Inv.fuel (h : Inv st nx cs s0 i l) : ∀ (j f f' : Nat), j < f → j < f' → j < l.length → way l f j = way l f' j := by
 intro j
 induction j using Nat.strongRecOn with
 | ind j ih =>
  intro f f' hf hf' hj
  cases f with
  | zero => omega
  | succ f =>
   cases f' with
   | zero => omega
   | succ f' =>
    simp only [way]
    rw [List.getElem?_eq_getElem hj]
    dsimp only
    by_cases h0 : 0 < j
    ·obtain ⟨q, hq, e, q1, _⟩ := h.from_ j hj h0
     rw [e, if_neg (by omega), if_neg (by omega), Int.toNat_natCast, ih q q1 f f' (by omega) (by omega) hq]
    ·obtain rfl : j = 0 := by omega
     have := (h.first hj).2
     rw [if_pos this, if_pos this]
theorem Inv.W_zero (h : Inv st nx cs s0 i l) : W l 0 = [] := by
 unfold W
 simp only [way]
 rw [List.getElem?_eq_getElem h.pos]
 dsimp only
 rw [if_pos (h.first h.pos).2]
theorem Inv.W_succ (h : Inv st nx cs s0 i l) {j : Nat} (hj : j < l.length) (h0 : 0 < j) : ∃ f, ∃ hf : f < l.length, l[j].frm = (f : Int) ∧ f < j ∧ l[j].c ∈ cs ∧ st l[f].s l[j].c = none ∧ nx l[f].s l[j].c = some l[j].s ∧ W l j = W l f ++ [l[j].c] := by
 obtain ⟨f, hf, e, f1, _, f3, f4, f5⟩ := h.from_ j hj h0
 refine ⟨f, hf, e, f1, f3, f4, f5, ?_⟩
 unfold W
 rw [way, List.getElem?_eq_getElem hj]
 dsimp only
 rw [e, if_neg (by omega), Int.toNat_natCast, h.fuel f j (f + 1) f1 (by omega) hf]
theorem Inv.goes (h : Inv st nx cs s0 i l) : ∀ j (hj : j < l.length), go st nx s0 (W l j) = some l[j].s ∧ (∀ c ∈ W l j, c ∈ cs) ∧ (W l j).length ≤ j := by
 intro j
 induction j using Nat.strongRecOn with
 | ind j ih =>
  intro hj
  by_cases h0 : 0 < j
  ·obtain ⟨f, hf, _, f1, f2, f3, f4, f5⟩ := h.W_succ hj h0
   obtain ⟨g1, g2, g3⟩ := ih f f1 hf
   rw [f5]
   refine ⟨by rw [go_snoc st nx _ _ _ _ g1 f3, f4], fun c hc => ?_, by simp; omega⟩
   rcases List.mem_append.1 hc with hc | hc
   ·exact g2 c hc
   ·rw [List.mem_singleton.1 hc]; exact f2
  ·obtain rfl : j = 0 := by omega
   rw [h.W_zero]
   refine ⟨by simp only [go]; rw [(h.first hj).1], fun c hc => ?_, Nat.le_refl _⟩
   cases hc
theorem Inv.deep (h : Inv st nx cs s0 i l) : ∀ j' j (hj : j < l.length) (hj' : j' < l.length), j ≤ j' → (W l j).length ≤ (W l j').length := by
 intro j'
 induction j' using Nat.strongRecOn with
 | ind j' ih =>
  intro j hj hj' hle
  by_cases h0 : 0 < j
  ·obtain ⟨f, hf, e, f1, _, _, _, f5⟩ := h.W_succ hj h0
   obtain ⟨f', hf', e', f1', _, _, _, f5'⟩ := h.W_succ hj' (by omega)
   have hm := h.mono j j' hj hj' hle
   rw [e, e'] at hm
   rw [f5, f5']
   have := ih f' f1' f hf hf' (by omega)
   simp
   omega
  ·obtain rfl : j = 0 := by omega
   rw [h.W_zero]
   exact Nat.zero_le _
theorem go_snoc_inv : ∀ (w : List C) (s : S) (c : C) (t' : S), go st nx s (w ++ [c]) = some t' → ∃ t, go st nx s w = some t ∧ st t c = none ∧ nx t c = some t'
 | [], s, c, t', h => by
  simp only [List.nil_append, go] at h
  cases e : st s c with
  | some k => rw [e] at h; cases h
  | none =>
   rw [e] at h
   dsimp only at h
   cases e2 : nx s c with
   | none => rw [e2] at h; cases h
   | some s' => rw [e2] at h; exact ⟨s, rfl, e, by rw [e2]; exact h⟩
 | x :: w, s, c, t', h => by
  simp only [List.cons_append, go] at h ⊢
  cases e : st s x with
  | some k => rw [e] at h; cases h
  | none =>
   rw [e] at h
   dsimp only at h ⊢
   cases e2 : nx s x with
   | none => rw [e2] at h; cases h
   | some s' => rw [e2] at h; exact go_snoc_inv w s' c t' h
theorem Inv.covers (h : Inv st nx cs s0 i l) : ∀ (n : Nat) (w : List C), w.length = n → (∀ c ∈ w, c ∈ cs) → (∀ j, j < l.length → (W l j).length ≤ n → j < i) → ∀ t, go st nx s0 w = some t → ∃ j, ∃ hj : j < l.length, j < i ∧ l[j].s = t ∧ (W l j).length ≤ n
 | 0, w, hw, _, hd, t, ht => by
  obtain rfl := List.eq_nil_of_length_eq_zero hw
  simp only [go, Option.some.injEq] at ht
  refine ⟨0, h.pos, hd 0 h.pos (by rw [h.W_zero]; exact Nat.le_refl _), by rw [(h.first h.pos).1]; exact ht, by rw [h.W_zero]; exact Nat.le_refl _⟩
 | n + 1, w, hw, hc, hd, t, ht => by
  have hne : w ≠ [] := fun e => by rw [e] at hw; simp at hw
  have hw2 := List.dropLast_concat_getLast hne
  rw [← hw2] at ht
  obtain ⟨t1, g1, g2, g3⟩ := go_snoc_inv _ _ _ _ ht
  have hwl : w.dropLast.length = n := by simp [hw]
  obtain ⟨j, hj, hji, e1, e2⟩ := h.covers n w.dropLast hwl (fun c hcc => hc c (List.dropLast_subset _ hcc)) (fun j hj hjn => hd j hj (by omega)) t1 g1
  obtain ⟨_, k2⟩ := h.closed j hj hji (w.getLast hne) (hc _ (List.getLast_mem hne))
  rw [e1] at k2
  obtain ⟨j', hj', q1, q2⟩ := k2 t g3
  have hdep : (W l j').length ≤ n + 1 := by
   by_cases h0 : 0 < j'
   ·obtain ⟨f, hf, e, _, _, _, _, f5⟩ := h.W_succ hj' h0
    rw [e] at q2
    have := h.deep j f hf hj (by omega)
    rw [f5]
    simp
    omega
   ·obtain rfl : j' = 0 := by omega
    rw [h.W_zero]
    exact Nat.zero_le _
  exact ⟨j', hj', hd j' hj' hdep, q1, hdep⟩
end
theorem nodup_sub {α : Type} [DecidableEq α] : ∀ (a b : List α), a.Nodup → (∀ x ∈ a, x ∈ b) → a.length ≤ b.length
 | [], _, _, _ => Nat.zero_le _
 | x :: a, b, hn, h => by
  rw [List.nodup_cons] at hn
  have hx := h x (List.mem_cons_self ..)
  have h1 := nodup_sub a (b.erase x) hn.2 fun y hy => by
   have hyb := h y (List.mem_cons_of_mem _ hy)
   have hne : y ≠ x := fun e => hn.1 (e ▸ hy)
   exact (List.mem_erase_of_ne hne).2 hyb
  have h2 := List.length_erase_of_mem hx
  have h3 := List.length_pos_of_mem hx
  simp only [List.length_cons]
  omega
theorem more_found [DecidableEq S] {a cs : List C} (hsub : ∀ c ∈ a, c ∈ cs) {s0 : S} {c0 c1 : C} {most : Nat} (hm : 1 ≤ most) {i : Nat} {l : List (En S C)} {c : C} {k : Int} (hx : search st nx most a s0 c0 = .found i l c k) :
  match search st nx most cs s0 c1 with
  | .ok _ => False
  | .found i' l' _ _ => (W l' i').length ≤ (W l i).length
  | .over => True := by
 have px := search_post st nx (cs := a) (s0 := s0) (c0 := c0) hm
 rw [hx] at px
 obtain ⟨hI, hi, hca, hst, _⟩ := px
 obtain ⟨g1, g2, _⟩ := hI.goes i hi
 have py := search_post st nx (cs := cs) (s0 := s0) (c0 := c1) hm
 generalize search st nx most cs s0 c1 = r at py ⊢
 cases r with
 | over => trivial
 | ok l' =>
  obtain ⟨hJ, _⟩ := py
  obtain ⟨j, hj, hji, e1, _⟩ := hJ.covers _ (W l i) rfl (fun c hc => hsub c (g2 c hc)) (fun j hj _ => hj) _ g1
  have := (hJ.closed j hj hji c (hsub c hca)).1
  rw [e1, hst] at this
  cases this
 | found i' l' c' k' =>
  obtain ⟨hJ, hi', _⟩ := py
  refine Classical.byContradiction fun hn => ?_
  obtain ⟨j, hj, hji, e1, _⟩ := hJ.covers _ (W l i) rfl (fun c hc => hsub c (g2 c hc)) (fun j hj hjn => by
   refine Classical.byContradiction fun hji => ?_
   have := hJ.deep j i' hi' hj (by omega)
   omega) _ g1
  have := (hJ.closed j hj hji c (hsub c hca)).1
  rw [e1, hst] at this
  cases this
theorem more_ok [DecidableEq S] {a cs : List C} (hsub : ∀ c ∈ a, c ∈ cs) {s0 : S} {c0 c1 : C} {most : Nat} (hm : 1 ≤ most) {l l' : List (En S C)} (hx : search st nx most a s0 c0 = .ok l) (hy : search st nx most cs s0 c1 = .ok l') : l.length ≤ l'.length := by
 have px := search_post st nx (cs := a) (s0 := s0) (c0 := c0) hm
 rw [hx] at px
 have py := search_post st nx (cs := cs) (s0 := s0) (c0 := c1) hm
 rw [hy] at py
 have := nodup_sub (l.map (·.s)) (l'.map (·.s)) px.1.nodup fun x hx => by
  obtain ⟨e, he, rfl⟩ := List.mem_map.1 hx
  obtain ⟨j, hj, rfl⟩ := List.mem_iff_getElem.1 he
  obtain ⟨g1, g2, _⟩ := px.1.goes j hj
  obtain ⟨j', hj', _, e1, _⟩ := py.1.covers _ (W l j) rfl (fun c hc => hsub c (g2 c hc)) (fun j hj _ => hj) _ g1
  exact List.mem_map.2 ⟨l'[j'], List.getElem_mem hj', e1⟩
 simpa using this
end Go.Proofs.YtmeldgjlgifdhaaDoor.Bf
namespace Go.Proofs.YtmeldgjlgifdhaaDoor
open Mx
def wrongK (t : Tk) : Option Int :=
 if t.trap = true then some (-1) else if t.asrt = true then (match t.checks.findIdx? (fun b => !b) with | some k => some (k : Int) | none => none) else none
def stR (R : REnv) (c : Cd) (ins : List Vr) (s : List Vl) (x : List Vl) : Option Int := wrongK (stepM R c ins (putM s) x).2.1
def nxR (R : REnv) (c : Cd) (ins : List Vr) (s : List Vl) (x : List Vl) : Option (List Vl) := if (stepM R c ins (putM s) x).2.1.asrt = true then some (stateM (stepM R c ins (putM s) x).2.2) else none
theorem wrongK_trap {t : Tk} (h : wrongK t = none) : t.trap = false := by
 unfold wrongK at h
 by_cases e : t.trap = true
 ·rw [if_pos e] at h; cases h
 ·simpa using e
theorem wrongK_last {t : Tk} {k : Int} (h : wrongK t = some k) : -1 ≤ k ∧ (k < 0 → t.trap = true) ∧ (0 ≤ k → t.trap = false ∧ t.asrt = true ∧ k < t.checks.length ∧ t.checks.getD k.toNat true = false) := by
 unfold wrongK at h
 by_cases e : t.trap = true
 ·rw [if_pos e] at h
  cases h
  exact ⟨by decide, fun _ => e, fun h => by omega⟩
 ·rw [if_neg e] at h
  by_cases e2 : t.asrt = true
  ·rw [if_pos e2] at h
   cases e3 : t.checks.findIdx? (fun b => !b) with
   | none => rw [e3] at h; cases h
   | some j =>
    rw [e3] at h
    cases h
    obtain ⟨hj, hp, _⟩ := List.findIdx?_eq_some_iff_getElem.1 e3
    refine ⟨by omega, fun h => by omega, fun _ => ⟨by simpa using e, e2, by omega, ?_⟩⟩
    rw [Int.toNat_natCast, List.getD_eq_getElem?_getD, List.getElem?_eq_getElem hj]
    simpa using hp
  ·rw [if_neg e2] at h; cases h
theorem run_way {R : REnv} {c : Cd} {ins : List Vr} : ∀ (w : List (List Vl)) (f : Bool) (m : List Vl) (t : List Vl), (∀ x ∈ w, inpsTo ins x x.length = true) → Bf.go (stR R c ins) (nxR R c ins) (stateM ⟨f, m, false⟩) w = some t →
  ∃ ts f' m', t = stateM ⟨f', m', false⟩ ∧ ts.length = w.length ∧ (∀ k ∈ ts, k.trap = false ∧ k.asrt = true) ∧ ∀ rest, runGo R c f m (w ++ rest) = ts ++ runGo R c f' m' rest
 | [], f, m, t, _, h => by
  simp only [Bf.go, Option.some.injEq] at h
  refine ⟨[], f, m, h.symm, rfl, fun k hk => ?_, fun rest => rfl⟩
  cases hk
 | x :: w, f, m, t, hi, h => by
  have hx := hi x (List.mem_cons_self ..)
  have hstep : stepM R c ins (putM (stateM ⟨f, m, false⟩)) x = if (tickM R c f m x).1.trap = true then (0, (tickM R c f m x).1, ⟨f, m, true⟩) else (0, (tickM R c f m x).1, ⟨false, (tickM R c f m x).2, false⟩) := by
   rw [put_state]
   unfold stepM
   rw [if_neg (by simp), if_pos hx]
  simp only [Bf.go] at h
  cases h1 : stR R c ins (stateM ⟨f, m, false⟩) x with
  | some k => rw [h1] at h; cases h
  | none =>
   rw [h1] at h
   dsimp only at h
   have ht := wrongK_trap h1
   rw [hstep] at ht
   have htr : (tickM R c f m x).1.trap = false := by
    by_cases e : (tickM R c f m x).1.trap = true
    ·rw [if_pos e] at ht; exact ht
    ·simpa using e
   rw [if_neg (by simp [htr])] at hstep
   unfold nxR at h
   rw [hstep] at h
   dsimp only at h
   by_cases ha : (tickM R c f m x).1.asrt = true
   ·rw [if_pos ha] at h
    obtain ⟨ts, f', m', e1, e2, e3, e4⟩ := run_way w false (tickM R c f m x).2 t (fun y hy => hi y (List.mem_cons_of_mem _ hy)) h
    refine ⟨(tickM R c f m x).1 :: ts, f', m', e1, by simp [e2], fun k hk => ?_, fun rest => ?_⟩
    ·rcases List.mem_cons.1 hk with rfl | hk
     ·exact ⟨htr, ha⟩
     ·exact e3 k hk
    ·simp only [List.cons_append, runGo]
     rw [if_neg (by simp [htr]), e4 rest]
   ·rw [if_neg ha] at h; cases h
def startS (R : REnv) (p : Pr) : List Vl := stateM ⟨true, startM R (memNdsL 0 p.terms), false⟩
abbrev RP (nb : Bool) (ni : Int) (ks : Env Int) (p : Pr) : REnv := ⟨ks, namesM p, getI (nmEnv p), nb, ni⟩
def searchM (ks : Env Int) (ord : List Nat) (p : Pr) (choices : List (List Vl)) (most : Nat) : Bf.Res (List Vl) (List Vl) :=
 Bf.search (stR (RP false 0 ks p) (cdOf p ord) p.ins) (nxR (RP false 0 ks p) (cdOf p ord) p.ins) most choices (startS (RP false 0 ks p) p) []
theorem traces_told {p : Pr} (h : (checkM p).1 = 0) {ks : Env Int} (hks : freshGo Env.none p.vars = some ks) {ord : List Nat} (ho : orderM p = .ok ord) (nb : Bool) (ni : Int) {choices : List (List Vl)} (hin : ∀ x ∈ choices, inpsTo p.ins x x.length = true) {most : Nat} (hm : 1 ≤ most)
  {i : Nat} {l : List (Bf.En (List Vl) (List Vl))} {c : List Vl} {k : Int} (hs : searchM ks ord p choices most = .found i l c k) :
  (Bf.W l i).length < most ∧ (∀ x ∈ Bf.W l i ++ [c], x ∈ choices) ∧ ∃ ts t, runM nb ni p (Bf.W l i ++ [c]) = ts ++ [t] ∧ ts.length = (Bf.W l i).length ∧ (∀ k ∈ ts, k.trap = false ∧ k.asrt = true) ∧ wrongK t = some k := by
 have hp := Bf.search_post (stR (RP false 0 ks p) (cdOf p ord) p.ins) (nxR (RP false 0 ks p) (cdOf p ord) p.ins) (cs := choices) (s0 := startS (RP false 0 ks p) p) (c0 := []) hm
 unfold searchM at hs
 rw [hs] at hp
 obtain ⟨hI, hi, hc, hst, hlm⟩ := hp
 obtain ⟨g1, g2, g3⟩ := hI.goes i hi
 have hall : ∀ x ∈ Bf.W l i ++ [c], x ∈ choices := fun x hx => by
  rcases List.mem_append.1 hx with hx | hx
  ·exact g2 x hx
  ·rw [List.mem_singleton.1 hx]; exact hc
 refine ⟨by omega, hall, ?_⟩
 rw [runM_nils h nb false ni 0]
 unfold runM
 rw [hks, ho]
 obtain ⟨ts, f', m', e1, e2, e3, e4⟩ := run_way (ins := p.ins) (Bf.W l i) true (startM (RP false 0 ks p) (memNdsL 0 p.terms)) l[i].s (fun x hx => hin x (g2 x hx)) g1
 refine ⟨ts, (tickM (RP false 0 ks p) (cdOf p ord) f' m' c).1, ?_, e2, e3, ?_⟩
 ·have := e4 [c]
  dsimp only at this ⊢
  rw [this]
  simp only [runGo]
  split <;> rfl
 ·rw [e1] at hst
  unfold stR at hst
  rw [put_state] at hst
  unfold stepM at hst
  rw [if_neg (by simp), if_pos (hin c hc)] at hst
  split at hst <;> exact hst
end Go.Proofs.YtmeldgjlgifdhaaDoor
namespace Go.Proofs.YtmeldgjlgifdhaaDoor
open Mx
def byteV (v : Vl) : UInt8 := UInt8.ofNat (v.n % 256).toNat
def keyB (l : List Vl) : ByteArray := ⟨(l.map byteV).toArray⟩
theorem right_eq {a b : Vl} {k : Int} (ha : rightV a k = true) (hb : rightV b k = true) (h : byteV a = byteV b) : a = b := by
 obtain ⟨ak, an⟩ := a
 obtain ⟨bk, bn⟩ := b
 unfold rightV at ha hb
 have h2 := congrArg UInt8.toNat h
 unfold byteV at h2
 simp only [UInt8.toNat_ofNat'] at h2
 dsimp only at ha hb h2
 simp only [Bool.and_eq_true, decide_eq_true_eq] at ha hb
 obtain ⟨rfl, ha⟩ := ha
 obtain ⟨rfl, hb⟩ := hb
 have hn : an = bn := by
  by_cases hk : bk = 1
  ·rw [if_pos hk] at ha hb
   simp only [Bool.or_eq_true, decide_eq_true_eq] at ha hb
   omega
  ·rw [if_neg hk] at ha hb
   simp only [Bool.and_eq_true, decide_eq_true_eq] at ha hb
   omega
 rw [hn]
theorem key_inj {K : List Int} {a b : List Vl} (ha : rightTo K a a.length = true) (hb : rightTo K b b.length = true) (h : keyB a = keyB b) : a = b := by
 have h1 : a.map byteV = b.map byteV := by
  have := congrArg (fun x : ByteArray => x.data.toList) h
  simpa [keyB] using this
 unfold rightTo at ha hb
 simp only [Bool.and_eq_true, decide_eq_true_eq, List.all_eq_true, List.mem_range] at ha hb
 refine List.ext_getElem (ha.1.trans hb.1.symm) fun i h2 h3 => ?_
 have q1 := ha.2 i h2
 have q2 := hb.2 i h3
 rw [List.getD_eq_getElem?_getD, List.getElem?_eq_getElem h2] at q1
 rw [List.getD_eq_getElem?_getD, List.getElem?_eq_getElem h3] at q2
 refine right_eq q1 q2 ?_
 have h4 : (a.map byteV)[i]? = (b.map byteV)[i]? := by rw [h1]
 simpa [List.getElem?_eq_getElem h2, List.getElem?_eq_getElem h3] using h4
def seenE (l : List (List Vl)) : Env Bool := fun s => if (l.map keyB).contains s = true then some true else none
theorem seenE_one (s : List Vl) : Env.none.set (keyB s) true = seenE [s] := by
 funext x
 unfold Env.set Env.none seenE
 by_cases h : x = keyB s
 ·simp [h]
 ·simp [h]
theorem seenE_snoc (l : List (List Vl)) (s : List Vl) : (seenE l).set (keyB s) true = seenE (l ++ [s]) := by
 funext x
 unfold Env.set seenE
 by_cases h : x = keyB s
 ·simp [h]
 ·simp [h]
theorem seenE_at {K : List Int} {l : List (List Vl)} (hl : ∀ s ∈ l, rightTo K s s.length = true) {s : List Vl} (hs : rightTo K s s.length = true) : (seenE l (keyB s)).getD false = decide (s ∈ l) := by
 unfold seenE
 by_cases h : s ∈ l
 ·have : (l.map keyB).contains (keyB s) = true := List.contains_iff_mem.2 (List.mem_map.2 ⟨s, h, rfl⟩)
  rw [if_pos this]
  simp [h]
 ·have : ¬ (l.map keyB).contains (keyB s) = true := fun hc => by
   obtain ⟨t, ht, he⟩ := List.mem_map.1 (List.contains_iff_mem.1 hc)
   exact h (key_inj (hl t ht) hs he ▸ ht)
  rw [if_neg this]
  simp [h]
end Go.Proofs.YtmeldgjlgifdhaaDoor
