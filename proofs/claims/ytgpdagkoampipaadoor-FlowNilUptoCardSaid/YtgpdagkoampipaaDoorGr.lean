/- Graphs: whoever needs itself; the search of order.cyclic finds it. No program in sight. -/
import Derived.Test.YtgpdagkoampipaaDoorMx
namespace Go.Proofs.YtgpdagkoampipaaDoor.Mx

def edge (g : List (List Nat)) (a b : Nat) : Prop := b ∈ g.getD a []
inductive Path (g : List (List Nat)) : Nat → Nat → Prop
  | one {a b : Nat} : edge g a b → Path g a b
  | snoc {a b c : Nat} : Path g a b → edge g b c → Path g a c
theorem Path.trans {g : List (List Nat)} {a b c : Nat} (h : Path g a b) (k : Path g b c) : Path g a c := by
  induction k with
  | one e => exact .snoc h e
  | snoc _ e ih => exact .snoc ih e

/-- What is still to be pushed. -/
def restL (g : List (List Nat)) (seen : List Nat) : List Nat → Nat
  | [] => 0
  | k :: r => (if seen.contains k then 0 else (g.getD k []).length + 1) + restL g seen r
theorem restL_mono (g : List (List Nat)) (seen : List Nat) (k : Nat) : ∀ l, restL g (k :: seen) l ≤ restL g seen l
  | [] => Nat.le_refl _
  | x :: r => by
    have := restL_mono g seen k r
    simp only [restL, List.contains_cons]
    cases seen.contains x <;> cases (x == k) <;> simp only [Bool.or_true, Bool.or_false, if_true, Bool.false_eq_true, if_false] <;> omega
theorem restL_lt (g : List (List Nat)) (seen : List Nat) (k : Nat) (hs : seen.contains k = false) : ∀ l, k ∈ l → restL g (k :: seen) l + ((g.getD k []).length + 1) ≤ restL g seen l
  | [], h => by cases h
  | x :: r, h => by
    have hm := restL_mono g seen k r
    simp only [restL, List.contains_cons]
    by_cases hx : x = k
    · subst hx
      have h0 : (x == x) = true := by simp
      rw [hs, h0]
      simp; omega
    · have hr : k ∈ r := by
        rcases List.mem_cons.1 h with h | h
        · exact absurd h.symm hx
        · exact h
      have ih := restL_lt g seen k hs r hr
      have h0 : (x == k) = false := by simpa using hx
      rw [h0]
      simp only [Bool.false_or]
      omega

def rest (g : List (List Nat)) (seen : List Nat) : Nat := restL g seen (List.range g.length)
theorem cycN_spec (g : List (List Nat)) (i : Nat) : ∀ (f : Nat) (seen todo : List Nat), todo.length + rest g seen < f → (∀ k ∈ todo, Path g i k) →
    (∀ k ∈ seen, ∀ b, edge g k b → b ∈ seen ∨ b ∈ todo) → (∀ b, edge g i b → b ∈ seen ∨ b ∈ todo) → i ∉ seen → (cycN g i f seen todo = true ↔ Path g i i)
  | 0, _, _, h, _, _, _, _ => by omega
  | f + 1, seen, [], _, _, hB, hC, hD => by
    simp only [cycN]
    refine ⟨fun h => by simp at h, fun h => ?_⟩
    have key : ∀ b, Path g i b → b ∈ seen := by
      intro b hb
      induction hb with
      | one e =>
        rcases hC _ e with h | h
        · exact h
        · cases h
      | snoc _ e ih =>
        rcases hB _ ih _ e with h | h
        · exact h
        · cases h
    exact absurd (key i h) hD
  | f + 1, seen, k :: r, h, hA, hB, hC, hD => by
    simp only [cycN]
    by_cases hk : k = i
    · subst hk
      rw [if_pos rfl]
      exact ⟨fun _ => hA _ (List.mem_cons_self ..), fun _ => rfl⟩
    · rw [if_neg hk]
      by_cases hs : seen.contains k = true
      · rw [if_pos hs]
        have hs' : k ∈ seen := by simpa using hs
        refine cycN_spec g i f seen r (by simp only [List.length_cons] at h; omega) (fun x hx => hA x (List.mem_cons_of_mem _ hx)) (fun x hx b e => ?_) (fun b e => ?_) hD
        · rcases hB x hx b e with h | h
          · exact .inl h
          · rcases List.mem_cons.1 h with rfl | h
            · exact .inl hs'
            · exact .inr h
        · rcases hC b e with h | h
          · exact .inl h
          · rcases List.mem_cons.1 h with rfl | h
            · exact .inl hs'
            · exact .inr h
      · rw [if_neg hs]
        have hs' : seen.contains k = false := by simpa using hs
        refine cycN_spec g i f (k :: seen) ((g.getD k []).reverse ++ r) ?_ ?_ ?_ ?_ ?_
        · simp only [List.length_cons, List.length_append, List.length_reverse] at h ⊢
          by_cases hlt : k < g.length
          · have := restL_lt g seen k hs' (List.range g.length) (List.mem_range.2 hlt)
            unfold rest at h ⊢
            omega
          · have h0 : g.getD k [] = [] := by rw [List.getD_eq_getElem?_getD, List.getElem?_eq_none (by omega)]; rfl
            have := restL_mono g seen k (List.range g.length)
            unfold rest at h ⊢
            rw [h0]
            simp only [List.length_nil]
            omega
        · intro x hx
          rcases List.mem_append.1 hx with hx | hx
          · exact .snoc (hA k (List.mem_cons_self ..)) (List.mem_reverse.1 hx)
          · exact hA x (List.mem_cons_of_mem _ hx)
        · intro x hx b e
          rcases List.mem_cons.1 hx with rfl | hx
          · exact .inr (List.mem_append_left _ (List.mem_reverse.2 e))
          · rcases hB x hx b e with h | h
            · exact .inl (List.mem_cons_of_mem _ h)
            · rcases List.mem_cons.1 h with rfl | h
              · exact .inl (List.mem_cons_self ..)
              · exact .inr (List.mem_append_right _ h)
        · intro b e
          rcases hC b e with h | h
          · exact .inl (List.mem_cons_of_mem _ h)
          · rcases List.mem_cons.1 h with rfl | h
            · exact .inl (List.mem_cons_self ..)
            · exact .inr (List.mem_append_right _ h)
        · intro hi
          rcases List.mem_cons.1 hi with h | h
          · exact hk h.symm
          · exact hD h

theorem sum_range (g : List (List Nat)) : restL g [] (List.range g.length) = (g.map fun l => l.length + 1).sum := by
  have key : ∀ (l : List (List Nat)) (a : Nat) (h : List (List Nat)), g = h ++ l → h.length = a → restL g [] (List.range' a l.length) = (l.map fun l => l.length + 1).sum := by
    intro l
    induction l with
    | nil => intro a h _ _; rfl
    | cons x l ih =>
      intro a h hg ha
      have := ih (a + 1) (h ++ [x]) (by rw [hg]; simp) (by simp [ha])
      simp only [List.length_cons, List.range'_succ, restL, List.map_cons, List.sum_cons]
      rw [this]
      have h0 : g.getD a [] = x := by rw [hg, List.getD_eq_getElem?_getD, List.getElem?_append_right (by omega), ha]; simp
      rw [h0]
      simp
  rw [List.range_eq_range']
  exact key g 0 [] rfl rfl
theorem len_le_sum (g : List (List Nat)) (i : Nat) : (g.getD i []).length ≤ (g.map fun l => l.length + 1).sum := by
  induction g generalizing i with
  | nil => simp
  | cons x g ih =>
    cases i with
    | zero => simp; omega
    | succ i => have := ih i; simp at this ⊢; omega
/-- order.cyclic answers whether a flow needs itself. -/
theorem cyc_iff (g : List (List Nat)) (i : Nat) : cyc g i = true ↔ Path g i i := by
  unfold cyc
  refine cycN_spec g i _ [] _ ?_ (fun k hk => .one (List.mem_reverse.1 hk)) (fun k hk => by cases hk) (fun b e => .inr (List.mem_reverse.2 e)) (by simp)
  have h1 := sum_range g
  have h2 := len_le_sum g i
  unfold cycFuel rest
  rw [h1, List.length_reverse]
  omega

/-! ### one way out of each -/
def iter (nx : Nat → Nat) : Nat → Nat → Nat
  | 0, i => i
  | t + 1, i => nx (iter nx t i)
theorem iter_add (nx : Nat → Nat) (a b i : Nat) : iter nx (a + b) i = iter nx a (iter nx b i) := by
  induction a with
  | zero => simp [iter]
  | succ a ih => rw [Nat.add_right_comm]; simp only [iter, ih]
theorem iter_lt {nx : Nat → Nat} {n : Nat} (hn : ∀ i, i < n → nx i < n) {i : Nat} (hi : i < n) : ∀ t, iter nx t i < n
  | 0 => hi
  | t + 1 => hn _ (iter_lt hn hi t)
/-- A way along single edges. -/
theorem path_iter {g : List (List Nat)} {nx : Nat → Nat} {n : Nat} (hn : ∀ i, i < n → nx i < n) (hg : ∀ i, i < n → g.getD i [] = [nx i]) {i : Nat} (hi : i < n) (b : Nat) : Path g i b ↔ ∃ t, 1 ≤ t ∧ iter nx t i = b := by
  constructor
  · intro h
    induction h with
    | one e =>
      unfold edge at e
      rw [hg _ hi] at e
      simp at e
      exact ⟨1, Nat.le_refl _, by simp [iter, e]⟩
    | snoc _ e ih =>
      obtain ⟨t, ht, rfl⟩ := ih
      unfold edge at e
      rw [hg _ (iter_lt hn hi t)] at e
      simp at e
      exact ⟨t + 1, by omega, by simp [iter, e]⟩
  · rintro ⟨t, ht, rfl⟩
    obtain ⟨t, rfl⟩ : ∃ u, t = u + 1 := ⟨t - 1, by omega⟩
    clear ht
    induction t with
    | zero => exact .one (by unfold edge; rw [hg _ hi]; simp [iter])
    | succ t ih => exact .snoc ih (by unfold edge; rw [hg _ (iter_lt hn hi _)]; simp [iter])
/-- Pigeons: of n + 1 numbers below n two are one. -/
theorem pigeon : ∀ (n : Nat) (f : Nat → Nat), (∀ i, i ≤ n → f i < n) → ∃ i j, i < j ∧ j ≤ n ∧ f i = f j
  | 0, f, h => by have := h 0 (Nat.le_refl _); omega
  | n + 1, f, h => by
    by_cases hx : ∃ i, i ≤ n ∧ f i = f (n + 1)
    · obtain ⟨i, hi, e⟩ := hx
      exact ⟨i, n + 1, by omega, Nat.le_refl _, e⟩
    · have hne : ∀ i, i ≤ n → f i ≠ f (n + 1) := fun i hi e => hx ⟨i, hi, e⟩
      obtain ⟨i, j, hij, hj, e⟩ := pigeon n (fun i => if f i = n then f (n + 1) else f i) (fun i hi => by
        have h1 := h i (by omega)
        have h2 := h (n + 1) (Nat.le_refl _)
        have h3 := hne i hi
        show (if f i = n then f (n + 1) else f i) < n
        split <;> omega)
      refine ⟨i, j, hij, by omega, ?_⟩
      have h1 := hne i (by omega)
      have h2 := hne j hj
      have e' : (if f i = n then f (n + 1) else f i) = (if f j = n then f (n + 1) else f j) := e
      split at e' <;> split at e' <;> omega
/-- Who comes back comes back within n steps. -/
theorem back_within {nx : Nat → Nat} {n : Nat} (hn : ∀ i, i < n → nx i < n) {i : Nat} (hi : i < n) {t : Nat} (ht : 1 ≤ t) (h : iter nx t i = i) : ∃ s, 1 ≤ s ∧ s ≤ n ∧ iter nx s i = i := by
  by_cases hle : t ≤ n
  · exact ⟨t, ht, hle, h⟩
  · obtain ⟨a, b, hab, hb, e⟩ := pigeon n (fun k => iter nx k i) (fun k _ => iter_lt hn hi k)
    have e' : iter nx a i = iter nx b i := e
    have h2 : iter nx (t - b + a) i = i := by
      rw [iter_add, e', ← iter_add, Nat.sub_add_cancel (by omega)]
      exact h
    by_cases h0 : t - b + a = 0
    · omega
    · exact back_within hn hi (t := t - b + a) (by omega) h2
  termination_by t
  decreasing_by omega
/-- Somebody comes back. -/
theorem someone {nx : Nat → Nat} {n : Nat} (h0 : 0 < n) (hn : ∀ i, i < n → nx i < n) : ∃ i, i < n ∧ ∃ t, 1 ≤ t ∧ iter nx t i = i := by
  obtain ⟨a, b, hab, hb, e⟩ := pigeon n (fun k => iter nx k 0) (fun k _ => iter_lt hn h0 k)
  have e' : iter nx a 0 = iter nx b 0 := e
  refine ⟨iter nx a 0, iter_lt hn h0 a, b - a, by omega, ?_⟩
  rw [← iter_add, Nat.sub_add_cancel (by omega)]
  exact e'.symm
end Go.Proofs.YtgpdagkoampipaaDoor.Mx
/- The plain law of lustrumlaw2.OrderHolds: a chain of flows that need one another is right, and one of them needs itself: the first who comes back. No program in sight. -/
namespace Go.Proofs.YtgpdagkoampipaaDoor.Mx

/-! ### names that are fresh -/
theorem foldl_other {α : Type} (k : ByteArray) : ∀ (l : List (ByteArray × α)) (m : Env α), (∀ x ∈ l, x.1 ≠ k) → (l.foldl (fun m x => m.set x.1 x.2) m) k = m k
  | [], _, _ => rfl
  | x :: l, m, h => by
    rw [List.foldl_cons, foldl_other k l _ (fun y hy => h y (List.mem_cons_of_mem _ hy))]
    simp [Env.set, Ne.symm (h x (List.mem_cons_self ..))]
theorem foldl_at {α : Type} : ∀ (l : List (ByteArray × α)) (m : Env α), (l.map (·.1)).Nodup → ∀ x ∈ l, (l.foldl (fun m x => m.set x.1 x.2) m) x.1 = some x.2
  | [], _, _, _, h => by cases h
  | y :: l, m, hn, x, hx => by
    rw [List.map_cons, List.nodup_cons] at hn
    rw [List.foldl_cons]
    rcases List.mem_cons.1 hx with rfl | hx
    · rw [foldl_other _ l _ (fun z hz e => hn.1 (List.mem_map.2 ⟨z, hz, e⟩))]
      simp [Env.set]
    · exact foldl_at l _ hn.2 x hx
theorem fresh_ok : ∀ (l : List (ByteArray × Int)) (m : Env Int), (l.map (·.1)).Nodup → (∀ x ∈ l, m x.1 = none ∧ x.1.size ≠ 0 ∧ (x.2 = 1 ∨ x.2 = 2)) → freshGo m l = some (l.foldl (fun m x => m.set x.1 x.2) m)
  | [], _, _, _ => rfl
  | y :: l, m, hn, h => by
    rw [List.map_cons, List.nodup_cons] at hn
    obtain ⟨h1, h2, h3⟩ := h y (List.mem_cons_self ..)
    simp only [freshGo]
    rw [if_pos ⟨by rw [h1]; rfl, h2, h3⟩, List.foldl_cons]
    refine fresh_ok l _ hn.2 (fun x hx => ?_)
    obtain ⟨k1, k2, k3⟩ := h x (List.mem_cons_of_mem _ hx)
    refine ⟨?_, k2, k3⟩
    have : x.1 ≠ y.1 := fun e => hn.1 (List.mem_map.2 ⟨x, hx, e⟩)
    simp [Env.set, this, k1]
theorem outs_ok (fl : List ByteArray) : ∀ (outs seen : List ByteArray), (∀ s ∈ outs, s ∈ fl) → (seen ++ outs).Nodup → outsGo fl seen outs = true
  | [], _, _, _ => rfl
  | s :: r, seen, h, hn => by
    have h1 := h s (List.mem_cons_self ..)
    have h2 : s ∉ seen := fun hs => by
      rw [List.nodup_append] at hn
      exact hn.2.2 s hs s (List.mem_cons_self ..) rfl
    simp only [outsGo]
    rw [outs_ok fl r (seen ++ [s]) (fun x hx => h x (List.mem_cons_of_mem _ hx)) (by simpa using hn)]
    simp [h1, h2]
theorem at_other (k : ByteArray) : ∀ (l : List Fl) (i : Nat) (m : Env Nat), (∀ f ∈ l, f.name ≠ k) → atFrom i m l k = m k
  | [], _, _, _ => rfl
  | f :: l, i, m, h => by
    simp only [atFrom]
    rw [at_other k l (i + 1) _ (fun y hy => h y (List.mem_cons_of_mem _ hy))]
    simp [Env.set, Ne.symm (h f (List.mem_cons_self ..))]
theorem at_get : ∀ (l : List Fl) (i : Nat) (m : Env Nat), (l.map (·.name)).Nodup → ∀ j (h : j < l.length), atFrom i m l l[j].name = some (i + j)
  | [], _, _, _, j, h => by simp at h
  | f :: l, i, m, hn, j, h => by
    rw [List.map_cons, List.nodup_cons] at hn
    simp only [atFrom]
    cases j with
    | zero =>
      simp only [List.getElem_cons_zero]
      rw [at_other _ l (i + 1) _ (fun z hz e => hn.1 (List.mem_map.2 ⟨z, hz, e⟩))]
      simp [Env.set]
    | succ j =>
      simp only [List.getElem_cons_succ]
      rw [at_get l (i + 1) _ hn.2 j (by simpa using h)]
      congr 1; omega

/-! ### the chain -/
/-- A number's digits, below 100. -/
def decB (n : Nat) : ByteArray := if n < 10 then ⟨#[UInt8.ofNat (48 + n)]⟩ else ⟨#[UInt8.ofNat (48 + n / 10), UInt8.ofNat (48 + n % 10)]⟩
def fnm (n : Nat) : ByteArray := ⟨#[102]⟩ ++ decB n
theorem fnm_all : ((List.range 40).all fun i => (List.range 40).all fun j => (fnm i).data != (fnm j).data || i == j) = true := by decide +kernel
theorem fnm_inj {i j : Nat} (hi : i < 40) (hj : j < 40) (h : fnm i = fnm j) : i = j := by
  have h1 := List.all_eq_true.1 (List.all_eq_true.1 fnm_all i (List.mem_range.2 hi)) j (List.mem_range.2 hj)
  have h2 : ((fnm i).data != (fnm j).data) = false := by rw [h]; simp
  rw [h2, Bool.false_or] at h1
  simpa using h1
theorem fnm_size_all : ((List.range 40).all fun i => (fnm i).data.size != 0) = true := by decide +kernel
theorem fnm_size {i : Nat} (hi : i < 40) : (fnm i).size ≠ 0 := by
  have h := List.all_eq_true.1 fnm_size_all i (List.mem_range.2 hi)
  have h' : (fnm i).data.size ≠ 0 := by simpa using h
  exact h'

section
variable (nx : Nat → Nat) (n : Nat)
def chFl (i : Nat) : Fl := ⟨fnm i, 1, .mk oName 0 (fnm (nx i)) []⟩
def chain : Pr := ⟨[], (List.range n).map fnm, (List.range n).map (chFl nx), [], []⟩
variable {nx n}
theorem names_nodup (hn : n ≤ 40) : ((List.range n).map fnm).Nodup := by
  unfold List.Nodup
  rw [List.pairwise_map]
  refine List.Pairwise.imp_of_mem ?_ (List.nodup_range (n := n))
  intro a b ha hb hne h
  exact hne (fnm_inj (by have := List.mem_range.1 ha; omega) (by have := List.mem_range.1 hb; omega) h)
theorem chain_parts : ∀ l : List Nat, Ex.partsL (l.map fun i => (chFl nx i).e) = l.length
  | [] => rfl
  | i :: l => by
    simp only [List.map_cons, Ex.partsL, List.length_cons]
    rw [chain_parts l]
    simp only [chFl, Ex.parts, Ex.partsL]
    omega
theorem chain_form (ks : Env Int) : ∀ l : List Nat, (∀ i ∈ l, ks (fnm (nx i)) = some 1) → formAllL ks (l.map fun i => (chFl nx i).e) = true
  | [], _ => rfl
  | i :: l, h => by
    simp only [List.map_cons, formAllL]
    rw [chain_form ks l (fun x hx => h x (List.mem_cons_of_mem _ hx))]
    have h1 := h i (List.mem_cons_self ..)
    have ha : arity oName = some 0 := by decide
    have hc : oName ≠ oCall := by decide
    simp [chFl, formAll, form, formAllL, Ex.op, Ex.n, Ex.s, Ex.l, ha, h1, hc]
theorem chain_kinds (ks : Env Int) : ∀ l : List Nat, (∀ i ∈ l, ks (fnm (nx i)) = some 1) → kindsGo ks (l.map fun _ => (1 : Int)) (l.map fun i => (chFl nx i).e) = true
  | [], _ => rfl
  | i :: l, h => by
    simp only [List.map_cons, kindsGo]
    rw [chain_kinds ks l (fun x hx => h x (List.mem_cons_of_mem _ hx))]
    have h1 := h i (List.mem_cons_self ..)
    have e1 : oName ≠ oInt := by decide
    have e2 : oName ≠ oTrue := by decide
    have e3 : oName ≠ oFalse := by decide
    simp [chFl, kindOf, kindsOf, kindBy, h1, e1, e2, e3]
theorem chain_terms : (chain nx n).terms = (List.range n).map fun i => (chFl nx i).e := by
  simp [Pr.terms, chain, List.map_map, Function.comp_def]
theorem chain_vars : (chain nx n).vars = (List.range n).map fun i => (fnm i, (1 : Int)) := by
  simp [Pr.vars, chain, List.map_map, Function.comp_def, chFl]
theorem chain_names : (chain nx n).fl.map (·.name) = (List.range n).map fnm := by
  simp [chain, List.map_map, Function.comp_def, chFl]
theorem chain_fkinds : (chain nx n).fl.map (·.kind) = (List.range n).map fun _ => (1 : Int) := by
  simp [chain, List.map_map, Function.comp_def, chFl]
theorem chain_check (hn : n ≤ 40) (hx : ∀ i, i < n → nx i < n) : checkFlat (chain nx n) = 0 := by
  have hnd := names_nodup hn
  have hfst : ((List.range n).map fun i => (fnm i, (1 : Int))).map (·.1) = (List.range n).map fnm := by simp [List.map_map, Function.comp_def]
  have hfr := fresh_ok ((List.range n).map fun i => (fnm i, (1 : Int))) Env.none (by rw [hfst]; exact hnd) (fun x hx => by
    obtain ⟨i, hi, rfl⟩ := List.mem_map.1 hx
    exact ⟨rfl, fnm_size (by have := List.mem_range.1 hi; omega), .inl rfl⟩)
  have hks : ∀ i ∈ List.range n, (((List.range n).map fun i => (fnm i, (1 : Int))).foldl (fun m x => m.set x.1 x.2) Env.none) (fnm (nx i)) = some 1 := fun i hi =>
    foldl_at _ Env.none (by rw [hfst]; exact hnd) (fnm (nx i), (1 : Int)) (List.mem_map.2 ⟨nx i, List.mem_range.2 (hx i (List.mem_range.1 hi)), rfl⟩)
  unfold checkFlat
  rw [chain_vars, hfr]
  simp only
  rw [chain_names, show (chain nx n).outs = (List.range n).map fnm from rfl, outs_ok _ _ [] (fun s hs => hs) (by simpa using hnd), chain_terms, chain_form _ _ hks, chain_fkinds, chain_kinds _ _ hks, chain_parts]
  simp only [chain, List.length_map, List.length_range, List.length_nil]
  simp
  omega
theorem chain_graph (hn : n ≤ 40) (hx : ∀ i, i < n → nx i < n) : (chain nx n).graph = (List.range n).map fun i => [nx i] := by
  unfold Pr.graph
  show ((List.range n).map (chFl nx)).map _ = _
  rw [List.map_map]
  refine List.map_congr_left fun i hi => ?_
  have hlt := hx i (List.mem_range.1 hi)
  have hat := at_get (chain nx n).fl 0 Env.none (by rw [chain_names]; exact names_nodup hn) (nx i) (by simpa [chain] using hlt)
  have hnm : ((chain nx n).fl[nx i]'(by simpa [chain] using hlt)).name = fnm (nx i) := by simp [chain, chFl]
  rw [hnm] at hat
  have e1 : oName ≠ oPre := by decide
  have e2 : oName ≠ oFby := by decide
  show needs (chain nx n).atOf (chFl nx i).e = [nx i]
  simp only [chFl, needs, if_neg e1, if_neg e2, if_true, needsL, List.append_nil]
  unfold Pr.atOf
  rw [hat]
  simp
/-- The first who comes back. -/
theorem chain_order (hn : n ≤ 40) (hx : ∀ i, i < n → nx i < n) : ∀ i, i < n → (cyc (chain nx n).graph i = true ↔ ∃ t, 1 ≤ t ∧ t ≤ n ∧ iter nx t i = i) := by
  intro i hi
  rw [cyc_iff, chain_graph hn hx, path_iter hx (fun j hj => by simp [List.getD_eq_getElem?_getD, hj]) hi]
  constructor
  · rintro ⟨t, ht, e⟩
    exact back_within hx hi ht e
  · rintro ⟨t, h1, _, e⟩
    exact ⟨t, h1, e⟩
end
end Go.Proofs.YtgpdagkoampipaaDoor.Mx
/- The law of the chain: no program in sight. -/
namespace Go.Proofs.YtgpdagkoampipaaDoor.Mx

/-- Whom the i-th flow needs. -/
def nxOf (l : List Int) (i : Nat) : Nat := (l.getD i 0 % (l.length : Int)).toNat
theorem nxOf_lt {l : List Int} {i : Nat} (h : i < l.length) : nxOf l i < l.length := by
  unfold nxOf
  have h1 := Int.emod_lt_of_pos (l.getD i 0) (show (0 : Int) < l.length by omega)
  have h2 := Int.emod_nonneg (l.getD i 0) (show (l.length : Int) ≠ 0 by omega)
  omega
theorem nxOf_tmod (a n : Int) (h : 0 < n) : (if a.tmod n < 0 then a.tmod n + n else a.tmod n) = a % n := by
  have h1 := Int.emod_nonneg a (show n ≠ 0 by omega)
  have h2 := Int.emod_lt_of_pos a h
  have h3 := Int.mul_ediv_add_emod a n
  have h4 := Int.mul_tdiv_add_tmod a n
  have h5 : a.tmod n < n ∧ -n < a.tmod n := by
    constructor
    · exact Int.tmod_lt_of_pos a h
    · have := Int.tmod_lt_of_pos (-a) h
      rw [Int.neg_tmod] at this
      omega
  generalize a.tmod n = r at *
  generalize a.tdiv n = d at *
  have key : ∀ q, q = r ∨ q = r + n → 0 ≤ q → q < n → q = a % n := by
    intro q hq h6 h7
    have : q % n = a % n := by
      rw [← h4]
      rcases hq with rfl | rfl <;> simp
    rw [← this, Int.emod_eq_of_lt h6 h7]
  split
  · exact key _ (.inr rfl) (by omega) (by omega)
  · exact key _ (.inl rfl) (by omega) (by omega)
theorem chain_hpick {n : Nat} {nx : Nat → Nat} (hn : n ≤ 40) (hx : ∀ i, i < n → nx i < n) : checkFlat (chain nx n) = 0 → (∀ j, j < (chain nx n).graph.length → cyc (chain nx n).graph j = false) →
    ∀ j, j < (chain nx n).graph.length → pick (chain nx n).graph (sortN (chain nx n).graph j []) < (chain nx n).graph.length := by
  intro _ hno j hj
  have hl : (chain nx n).graph.length = n := by rw [chain_graph hn hx]; simp
  exfalso
  obtain ⟨i, hi, t, ht, e⟩ := someone (show 0 < n by omega) hx
  have := (chain_order hn hx i hi).2 (back_within hx hi ht e)
  rw [hno i (by omega)] at this
  cases this
theorem chain_none {n : Nat} {nx : Nat → Nat} (h : n = 0) : orderM (chain nx n) = .ok [] := by
  subst h
  rfl
theorem chain_some {n : Nat} {nx : Nat → Nat} (hn : n ≤ 40) (hx : ∀ i, i < n → nx i < n) (i : Nat) (hi : i < n) (h1 : ∃ t, 1 ≤ t ∧ t ≤ n ∧ iter nx t i = i) (h2 : ∀ j, j < i → ¬ ∃ t, 1 ≤ t ∧ t ≤ n ∧ iter nx t j = j) : orderM (chain nx n) = .error (6, (i : Int)) := by
  have hl : (chain nx n).graph.length = n := by rw [chain_graph hn hx]; simp
  have hf : (List.range (chain nx n).graph.length).find? (cyc (chain nx n).graph) = some i := by
    rw [hl, List.find?_range_eq_some]
    refine ⟨(chain_order hn hx i hi).2 h1, List.mem_range.2 hi, fun j hj => ?_⟩
    have : cyc (chain nx n).graph j = false := by
      cases hc : cyc (chain nx n).graph j with
      | false => rfl
      | true => exact absurd ((chain_order hn hx j (by omega)).1 hc) (h2 j hj)
    simp [this]
  unfold orderM
  rw [chain_check hn hx, hf]
  rfl
end Go.Proofs.YtgpdagkoampipaaDoor.Mx
