/- Plain: a program without some of its flows (package slim): where what is kept needs none of what is not kept, it is right as it was: no program in sight. -/
import Derived.Test.YthihoafemahgmaaDoorRunM
namespace Go.Proofs.YthihoafemahgmaaDoor
open Mx
mutual
def namesX : Ex → List ByteArray
  | .mk o _ s l => (if o = oName then [s] else []) ++ namesXL l
def namesXL : List Ex → List ByteArray
  | [] => []
  | e :: l => namesX e ++ namesXL l
end
theorem namesXL_mem : ∀ {l : List Ex} {e : Ex} {s : ByteArray}, e ∈ l → s ∈ namesX e → s ∈ namesXL l
  | x :: l, e, s, he, hs => by
    simp only [namesXL, List.mem_append]
    rcases List.mem_cons.1 he with rfl | he
    · exact .inl hs
    · exact .inr (namesXL_mem he hs)
theorem namesXL_in : ∀ {l : List Ex} {s : ByteArray}, s ∈ namesXL l → ∃ e ∈ l, s ∈ namesX e
  | x :: l, s, h => by
    simp only [namesXL, List.mem_append] at h
    rcases h with h | h
    · exact ⟨x, List.mem_cons_self .., h⟩
    · obtain ⟨e, he, hs⟩ := namesXL_in h
      exact ⟨e, List.mem_cons_of_mem _ he, hs⟩
theorem formAllL_iff (ks : Env Int) (l : List Ex) : formAllL ks l = true ↔ ∀ e ∈ l, formAll ks e = true := by
  rw [formAllL_get]
  constructor
  · intro h e he
    obtain ⟨i, hi, rfl⟩ := List.mem_iff_getElem.1 he
    exact h i hi
  · intro h i hi
    exact h _ (List.getElem_mem hi)
theorem form_names {ks ks' : Env Int} : ∀ e : Ex, formAll ks e = true → (∀ s ∈ namesX e, (ks' s).isSome = true) → formAll ks' e = true := by
  refine Ex.ind fun o n s l ih h hn => ?_
  simp only [formAll, Bool.and_eq_true, Bool.or_eq_true, decide_eq_true_eq] at h ⊢
  refine ⟨⟨h.1.1, ?_⟩, ?_⟩
  · by_cases ho : o = oName
    · exact .inr (hn s (by simp [namesX, ho]))
    · exact .inl ho
  · rw [formAllL_iff] at h ⊢
    exact fun e he => ih e he (h.2 e he) fun t ht => hn t (by simp only [namesX, List.mem_append]; exact .inr (namesXL_mem he ht))
theorem form_has {ks : Env Int} : ∀ e : Ex, formAll ks e = true → ∀ s ∈ namesX e, (ks s).isSome = true := by
  refine Ex.ind fun o n s l ih h t ht => ?_
  simp only [formAll, Bool.and_eq_true, Bool.or_eq_true, decide_eq_true_eq] at h
  simp only [namesX, List.mem_append] at ht
  rcases ht with ht | ht
  · split at ht
    · rename_i ho
      rw [List.mem_singleton.1 ht]
      exact h.1.2.resolve_left (fun h => h ho)
    · cases ht
  · obtain ⟨e, he, hs⟩ := namesXL_in ht
    exact ih e he ((formAllL_iff ks l).1 h.2 e he) t hs
theorem kind_names {ks ks' : Env Int} : ∀ e : Ex, (∀ s ∈ namesX e, ks' s = ks s) → kindOf ks' e = kindOf ks e := by
  refine Ex.ind fun o n s l ih hn => ?_
  have hl : kindsOf ks' l = kindsOf ks l := by
    rw [kindsOf_map, kindsOf_map]
    exact List.map_congr_left fun e he => ih e he fun t ht => hn t (by simp only [namesX, List.mem_append]; exact .inr (namesXL_mem he ht))
  simp only [kindOf]
  rw [hl]
  by_cases ho : o = oName
  · rw [hn s (by simp [namesX, ho])]
  · have : ∀ k k', kindBy o k (kindsOf ks l) = kindBy o k' (kindsOf ks l) := fun k k' => by
      unfold kindBy
      simp only [if_neg ho]
    rw [this _ ((ks s).getD 0)]
theorem latesOf_map (lt : ByteArray → Int) : ∀ l : List Ex, latesOf lt l = l.map (lateOf lt)
  | [] => rfl
  | e :: l => by rw [latesOf, latesOf_map lt l]; rfl
theorem foldl_max_mono : ∀ (l l' : List Int) (a a' : Int), l.length = l'.length → (∀ i (h : i < l.length) (h' : i < l'.length), l[i] ≤ l'[i]) → a ≤ a' → l.foldl max a ≤ l'.foldl max a'
  | [], [], a, a', _, _, h => h
  | x :: l, y :: l', a, a', hl, h, ha => by
    simp only [List.foldl_cons]
    refine foldl_max_mono l l' _ _ (by simpa using hl) (fun i hi hi' => h (i + 1) (by simpa using hi) (by simpa using hi')) ?_
    have := h 0 (by simp) (by simp)
    simp only [List.getElem_cons_zero] at this
    omega
theorem late_mono {lt lt' : ByteArray → Int} (hb : ∀ s, 0 ≤ lt s ∧ lt s ≤ 2) (hb' : ∀ s, 0 ≤ lt' s ∧ lt' s ≤ 2) : ∀ e : Ex, (∀ s ∈ namesX e, lt s ≤ lt' s) → lateOf lt e ≤ lateOf lt' e := by
  refine Ex.ind fun o n s l ih hn => ?_
  have hl : ∀ e ∈ l, lateOf lt e ≤ lateOf lt' e := fun e he => ih e he fun t ht => hn t (by simp only [namesX, List.mem_append]; exact .inr (namesXL_mem he ht))
  have hg : ∀ k, (latesOf lt l).getD k 0 ≤ (latesOf lt' l).getD k 0 := fun k => by
    rw [latesOf_getD, latesOf_getD]
    split
    · exact hl _ (List.getElem_mem _)
    · exact Int.le_refl _
  have h2 : ∀ k, (latesOf lt' l).getD k 0 ≤ 2 := fun k => by
    rw [latesOf_getD]
    split
    · exact (late_bound lt' hb' _).2
    · decide
  simp only [lateOf]
  by_cases e1 : o = oName
  · rw [if_pos e1, if_pos e1]
    exact hn s (by simp [namesX, e1])
  rw [if_neg e1, if_neg e1]
  by_cases e2 : o = oPre
  · rw [if_pos e2, if_pos e2]
    have := hg 0
    omega
  rw [if_neg e2, if_neg e2]
  by_cases e3 : o = oArrow ∨ o = oFby
  · rw [if_pos e3, if_pos e3]
    have g0 := hg 0
    have g1 := hg 1
    have q0 := h2 0
    have q1 := h2 1
    by_cases e4 : o = oFby
    · rw [if_pos e4, if_pos e4]
      generalize (latesOf lt l).getD 0 0 = a at *
      generalize (latesOf lt l).getD 1 0 = b at *
      generalize (latesOf lt' l).getD 0 0 = a' at *
      generalize (latesOf lt' l).getD 1 0 = b' at *
      split <;> split <;> omega
    · rw [if_neg e4, if_neg e4]
      generalize (latesOf lt l).getD 0 0 = a at *
      generalize (latesOf lt l).getD 1 0 = b at *
      generalize (latesOf lt' l).getD 0 0 = a' at *
      generalize (latesOf lt' l).getD 1 0 = b' at *
      split <;> split <;> omega
  rw [if_neg e3, if_neg e3]
  refine foldl_max_mono _ _ 0 0 (by simp [latesOf_map]) (fun i h h' => ?_) (Int.le_refl _)
  have := hg i
  simpa [List.getD_eq_getElem?_getD, h, h'] using this
theorem round_below {lt' : ByteArray → Int} (hb' : ∀ s, 0 ≤ lt' s ∧ lt' s ≤ 2) : ∀ (l : List Fl) (lt : ByteArray → Int) (b : Bool), (∀ s, 0 ≤ lt s ∧ lt s ≤ 2) → (∀ s, lt s ≤ lt' s) → (∀ f ∈ l, lateOf lt' f.e ≤ lt' f.name) →
    (∀ s, 0 ≤ (namesRound l lt b).1 s ∧ (namesRound l lt b).1 s ≤ 2) ∧ ∀ s, (namesRound l lt b).1 s ≤ lt' s
  | [], lt, b, hb, hle, _ => ⟨hb, hle⟩
  | f :: l, lt, b, hb, hle, hf => by
    rw [namesRound]
    split
    · have hm := late_mono hb hb' f.e fun s _ => hle s
      have hff := hf f (List.mem_cons_self ..)
      have hlb := late_bound lt hb f.e
      refine round_below hb' l _ true (setL_bound hb f.e f.name) (fun s => ?_) fun g hg => hf g (List.mem_cons_of_mem _ hg)
      unfold setL
      split
      · rename_i e; rw [e]; omega
      · exact hle s
    · exact round_below hb' l lt b hb hle fun g hg => hf g (List.mem_cons_of_mem _ hg)
theorem namesN_below {lt' : ByteArray → Int} (hb' : ∀ s, 0 ≤ lt' s ∧ lt' s ≤ 2) (l : List Fl) (hf : ∀ f ∈ l, lateOf lt' f.e ≤ lt' f.name) : ∀ (n : Nat) (lt : ByteArray → Int), (∀ s, 0 ≤ lt s ∧ lt s ≤ 2) → (∀ s, lt s ≤ lt' s) → ∀ s, namesN l n lt s ≤ lt' s
  | 0, lt, _, hle, s => hle s
  | n + 1, lt, hb, hle, s => by
    obtain ⟨g1, g2⟩ := round_below hb' l lt false hb hle hf
    rw [namesN]
    split
    · exact namesN_below hb' l hf n _ g1 g2 s
    · exact g2 s
theorem names_less {p q : Pr} (hsub : ∀ f ∈ q.fl, f ∈ p.fl) (s : ByteArray) : namesM q s ≤ namesM p s := by
  obtain ⟨h1, h2⟩ := namesM_fix p
  exact namesN_below h1 q.fl (fun f hf => h2 f (hsub f hf)) _ _ (fun s => ⟨by simp, by simp⟩) (fun s => (h1 s).1) s
theorem fresh_sub : ∀ {l l' : List (ByteArray × Int)}, l'.Sublist l → ∀ {m m' ks : Env Int}, freshGo m l = some ks → (∀ s, (m' s).isSome = true → (m s).isSome = true) → ∃ ks', freshGo m' l' = some ks'
  | _, _, .slnil, m, m', ks, _, _ => ⟨m', rfl⟩
  | _, _, .cons x h, m, m', ks, hf, hm => by
    simp only [freshGo] at hf
    split at hf
    · refine fresh_sub h hf fun s hs => ?_
      by_cases e : s = x.1
      · rw [e, Env.set_self]; rfl
      · rw [Env.set_other _ _ e]; exact hm s hs
    · cases hf
  | _, _, .cons_cons x h, m, m', ks, hf, hm => by
    simp only [freshGo] at hf ⊢
    split at hf
    · rename_i hc
      have h0 : (m' x.1).isNone = true := by
        cases e : m' x.1 with
        | none => rfl
        | some k =>
          have := hm x.1 (by rw [e]; rfl)
          have h2 := hc.1
          cases e2 : m x.1 with
          | none => rw [e2] at this; cases this
          | some k => rw [e2] at h2; cases h2
      rw [if_pos ⟨h0, hc.2⟩]
      refine fresh_sub h hf fun s hs => ?_
      by_cases e : s = x.1
      · rw [e, Env.set_self]; rfl
      · rw [Env.set_other _ _ e] at hs ⊢; exact hm s hs
    · cases hf
theorem outs_sub {fl fl' : List ByteArray} : ∀ (l seen : List ByteArray), outsGo fl seen l = true → (∀ s ∈ l, s ∈ fl → s ∈ fl') → outsGo fl' seen l = true
  | [], _, _, _ => rfl
  | x :: l, seen, h, hs => by
    simp only [outsGo, Bool.and_eq_true, List.contains_eq_mem, decide_eq_true_eq] at h ⊢
    exact ⟨⟨hs x (List.mem_cons_self ..) h.1.1, h.1.2⟩, outs_sub l _ h.2 fun s hsl => hs s (List.mem_cons_of_mem _ hsl)⟩
theorem partsL_sub : ∀ {l l' : List Ex}, l'.Sublist l → Ex.partsL l' ≤ Ex.partsL l
  | _, _, .slnil => Nat.le_refl _
  | _, _, .cons x h => by have := partsL_sub h; simp only [Ex.partsL]; omega
  | _, _, .cons_cons x h => by have := partsL_sub h; simp only [Ex.partsL]; omega
theorem kindsGo_iff (ks : Env Int) : ∀ (fl : List Fl) (r : List Ex), kindsGo ks (fl.map (·.kind)) (fl.map (·.e) ++ r) = true ↔ (∀ f ∈ fl, kindOf ks f.e = f.kind) ∧ ∀ e ∈ r, kindOf ks e = 1
  | [], r => by
    have : ∀ r : List Ex, kindsGo ks [] r = true ↔ ∀ e ∈ r, kindOf ks e = 1 := by
      intro r
      induction r with
      | nil => simp [kindsGo]
      | cons e r ih => simp only [kindsGo, Bool.and_eq_true, decide_eq_true_eq, List.mem_cons, forall_eq_or_imp]; rw [ih]
    simpa using this r
  | f :: fl, r => by
    simp only [List.map_cons, List.cons_append, kindsGo, Bool.and_eq_true, decide_eq_true_eq, List.mem_cons, forall_eq_or_imp]
    rw [kindsGo_iff ks fl r, and_assoc]
structure Keeps (p q : Pr) : Prop where
  ins : q.ins = p.ins
  outs : q.outs = p.outs
  asr : q.as = p.as
  chk : q.cs = p.cs
  sub : q.fl.Sublist p.fl
  root : ∀ s ∈ p.outs, s ∈ p.fl.map (·.name) → s ∈ q.fl.map (·.name)
  term : ∀ e ∈ q.terms, ∀ s ∈ namesX e, s ∈ p.fl.map (·.name) → s ∈ q.fl.map (·.name)
theorem Keeps.terms {p q : Pr} (h : Keeps p q) : q.terms.Sublist p.terms := by
  unfold Pr.terms
  rw [h.asr, h.chk]
  exact ((h.sub.map _).append (List.Sublist.refl _)).append (List.Sublist.refl _)
theorem Keeps.vars {p q : Pr} (h : Keeps p q) : q.vars.Sublist p.vars := by
  unfold Pr.vars
  rw [h.ins]
  exact (List.Sublist.refl _).append (h.sub.map _)
theorem keep_check {p q : Pr} (h : Keeps p q) (hck : checkFlat p = 0) : checkFlat q = 0 := by
  obtain ⟨ks, hks, ho, hf, b1, b2, b3, hk⟩ := check_zero hck
  obtain ⟨ks', hks'⟩ := fresh_sub h.vars hks (m' := Env.none) fun s hs => by simp [Env.none] at hs
  have g := (fresh_has _ _ _ hks).2
  have g' := (fresh_has _ _ _ hks').2
  rw [formAllL_iff] at hf
  have hin : ∀ e ∈ q.terms, ∀ s ∈ namesX e, ∃ k, (s, k) ∈ q.vars := fun e he s hs => by
    have h1 := form_has e (hf e (h.terms.subset he)) s hs
    rcases fresh_keys _ _ _ hks h1 with h2 | h2
    · simp [Env.none] at h2
    · have h3 : s ∈ q.vars.map (·.1) := by
        simp only [Pr.vars, List.map_append, List.map_map, List.mem_append] at h2 ⊢
        rcases h2 with h2 | h2
        · left
          rw [h.ins]
          exact h2
        · right
          exact h.term e he s hs h2
      obtain ⟨x, hx, rfl⟩ := List.mem_map.1 h3
      exact ⟨x.2, hx⟩
  have hsame : ∀ e ∈ q.terms, ∀ s ∈ namesX e, ks' s = ks s := fun e he s hs => by
    obtain ⟨k, hk⟩ := hin e he s hs
    rw [g' _ hk, g _ (h.vars.subset hk)]
  unfold Pr.terms at hk
  rw [List.append_assoc, kindsGo_iff] at hk
  refine check_ok hks' ?_ ?_ ?_ ?_
  · rw [h.outs]
    exact outs_sub _ _ ho h.root
  · rw [formAllL_iff]
    exact fun e he => form_names e (hf e (h.terms.subset he)) fun s hs => by
      obtain ⟨k, hk⟩ := hin e he s hs
      rw [g' _ hk]; rfl
  · have c1 := h.sub.length_le
    have c2 := partsL_sub h.terms
    rw [h.ins]
    omega
  · unfold Pr.terms
    rw [List.append_assoc, kindsGo_iff, h.asr, h.chk]
    refine ⟨fun f hf' => ?_, fun e he => ?_⟩
    · rw [kind_names f.e fun s hs => hsame f.e (terms_fl q hf') s hs]
      exact hk.1 f (h.sub.subset hf')
    · rw [kind_names e fun s hs => hsame e (by unfold Pr.terms; rw [h.asr, h.chk, List.append_assoc]; exact List.mem_append_right _ he) s hs]
      exact hk.2 e he
theorem needs_map {at_ at' : Env Nat} {φ : Nat → Nat} : ∀ e : Ex, (∀ s ∈ namesX e, ∀ k, at' s = some k → at_ s = some (φ k)) → ∀ k ∈ needs at' e, φ k ∈ needs at_ e := by
  refine Ex.ind fun o n s l ih h k hk => ?_
  simp only [needs] at hk ⊢
  have hsub : ∀ e ∈ l, ∀ t ∈ namesX e, ∀ k, at' t = some k → at_ t = some (φ k) := fun e he t ht => h t (by simp only [namesX, List.mem_append]; exact .inr (namesXL_mem he ht))
  have hL : ∀ l' : List Ex, (∀ e ∈ l', e ∈ l) → k ∈ needsL at' l' → φ k ∈ needsL at_ l' := by
    intro l'
    induction l' with
    | nil => intro _ h; simp [needsL] at h
    | cons e l' ihl =>
      intro hs h
      simp only [needsL, List.mem_append] at h ⊢
      rcases h with h | h
      · exact .inl (ih e (hs e (List.mem_cons_self ..)) (hsub e (hs e (List.mem_cons_self ..))) k h)
      · exact .inr (ihl (fun e he => hs e (List.mem_cons_of_mem _ he)) h)
  split
  · rename_i e1
    rw [if_pos e1] at hk
    cases hk
  rename_i e1
  rw [if_neg e1] at hk
  split
  · rename_i e2
    rw [if_pos e2] at hk
    cases l with
    | nil => simp [needsH] at hk
    | cons e l =>
      simp only [needsH] at hk ⊢
      exact ih e (List.mem_cons_self ..) (hsub e (List.mem_cons_self ..)) k hk
  · rename_i e2
    rw [if_neg e2] at hk
    simp only [List.mem_append] at hk ⊢
    rcases hk with hk | hk
    · left
      split
      · rename_i e3
        rw [if_pos e3] at hk
        have := h s (by simp [namesX, e3]) k (by simpa using hk)
        rw [this]
        simp
      · rename_i e3
        rw [if_neg e3] at hk
        cases hk
    · exact .inr (hL l (fun _ h => h) hk)
theorem at_in : ∀ (l : List Fl) (i : Nat) (m : Env Nat) (s : ByteArray) (k : Nat), atFrom i m l s = some k → m s = some k ∨ ∃ j, ∃ h : j < l.length, l[j].name = s ∧ k = i + j
  | [], i, m, s, k, h => .inl h
  | f :: l, i, m, s, k, h => by
    rw [atFrom] at h
    rcases at_in l (i + 1) _ s k h with h1 | ⟨j, hj, e1, e2⟩
    · by_cases e : s = f.name
      · rw [e, Env.set_self] at h1
        cases h1
        exact .inr ⟨0, by simp, by simp [e], rfl⟩
      · rw [Env.set_other _ _ e] at h1; exact .inl h1
    · exact .inr ⟨j + 1, by simpa using hj, by simpa using e1, by omega⟩
theorem keep_order {p q : Pr} (h : Keeps p q) {l : List Nat} (ho : orderM p = .ok l) : ∃ l', orderM q = .ok l' := by
  obtain ⟨hck, _, _⟩ := orderM_low ho
  have hcq := keep_check h hck
  have hnp := names_nd hck
  have hnq := names_nd hcq
  -- where a kept flow stood
  have hex : ∀ k, ∃ j, k < q.fl.length → ∃ h1 : k < q.fl.length, ∃ h2 : j < p.fl.length, p.fl[j] = q.fl[k] := fun k => by
    by_cases hk : k < q.fl.length
    · obtain ⟨j, hj, e⟩ := List.mem_iff_getElem.1 (h.sub.subset (List.getElem_mem hk))
      exact ⟨j, fun _ => ⟨hk, hj, e⟩⟩
    · exact ⟨0, fun h => absurd h hk⟩
  obtain ⟨φ, hφ⟩ := Classical.axiomOfChoice hex
  have hat : ∀ s k, q.atOf s = some k → p.atOf s = some (φ k) := fun s k hs => by
    rcases at_in _ _ _ _ _ hs with h1 | ⟨j, hj, e1, e2⟩
    · simp [Env.none] at h1
    · have e3 : k = j := by omega
      subst e3
      obtain ⟨_, h2, e4⟩ := hφ k hj
      have := at_get p.fl 0 Env.none hnp (φ k) h2
      rw [e4, e1] at this
      unfold Pr.atOf
      rw [this]
      simp
  have hedge : ∀ a b, edge q.graph a b → edge p.graph (φ a) (φ b) ∧ b < q.graph.length := fun a b he => by
    unfold edge at he ⊢
    by_cases ha : a < q.fl.length
    · obtain ⟨_, h2, e4⟩ := hφ a ha
      have e1 : q.graph.getD a [] = needs q.atOf q.fl[a].e := by simp [Pr.graph, List.getD_eq_getElem?_getD, ha]
      have e2 : p.graph.getD (φ a) [] = needs p.atOf q.fl[a].e := by simp [Pr.graph, List.getD_eq_getElem?_getD, h2, e4]
      rw [e1] at he
      rw [e2]
      exact ⟨needs_map _ (fun s _ k hk => hat s k hk) b he, graph_low q _ (by simp only [Pr.graph, List.mem_map]; exact ⟨q.fl[a], List.getElem_mem ha, rfl⟩) b he⟩
    · simp [Pr.graph, List.getD_eq_getElem?_getD, ha] at he
  have hpath : ∀ a b, Path q.graph a b → Path p.graph (φ a) (φ b) := fun a b hp => by
    induction hp with
    | one e => exact .one (hedge _ _ e).1
    | snoc _ e ih => exact .snoc ih (hedge _ _ e).1
  unfold orderM at ho ⊢
  rw [if_neg (by simp [hck])] at ho
  rw [if_neg (by simp [hcq])]
  split at ho
  · cases ho
  · rename_i hno
    rw [show (List.range q.graph.length).find? (cyc q.graph) = none from List.find?_eq_none.2 fun i hi hc => by
      have hil : i < q.fl.length := by rw [← graph_len q]; simpa using hi
      obtain ⟨_, h2, _⟩ := hφ i hil
      have h3 := (cyc_iff p.graph (φ i)).2 (hpath _ _ ((cyc_iff q.graph i).1 (by simpa using hc)))
      have := List.find?_eq_none.1 hno (φ i) (by rw [graph_len]; simpa using h2)
      exact this (by simpa using h3)]
    exact ⟨_, rfl⟩
theorem keep_right {p q : Pr} (h : Keeps p q) (hc : (checkM p).1 = 0) : (checkM q).1 = 0 := by
  obtain ⟨l, ho, hh, hl⟩ := checkM_zero hc
  obtain ⟨l', ho'⟩ := keep_order h ho
  have hless := names_less (p := p) (q := q) fun f hf => h.sub.subset hf
  have hq : lateM q = .ok (q.fl.map fun f => namesM q f.name) := by unfold lateM; rw [ho']
  have hb := (namesM_fix q).1
  have hbp := (namesM_fix p).1
  have hno : ∀ j (hj : j < q.fl.length), hit q q.fl[j].name = false := fun j hj => by
    obtain ⟨i, hi, e⟩ := List.mem_iff_getElem.1 (h.sub.subset (List.getElem_mem hj))
    have h1 := hh i hi
    rw [e] at h1
    have h2 := hless q.fl[j].name
    have b1 := hb q.fl[j].name
    have b2 := hbp q.fl[j].name
    generalize q.fl[j].name = n at *
    have p2 : namesM p n ≠ 2 := fun e => by unfold hit at h1; rw [e] at h1; simp at h1
    have p1 : namesM p n = 1 → n ∉ p.outs := fun e => by unfold hit at h1; rw [e] at h1; simpa using h1
    unfold hit
    rw [h.outs]
    by_cases e1 : namesM q n = 1
    · rw [e1]
      simp [p1 (by omega)]
    · have e2 : namesM q n ≠ 2 := by omega
      simp [e1, e2]
  rw [checkM_end hq hno, if_neg]
  intro hany
  obtain ⟨e, he, hp⟩ := List.any_eq_true.1 hany
  rw [h.asr, h.chk] at he
  have h1 := hl e he
  have h2 := late_mono hb hbp e fun s _ => hless s
  have : 0 < lateOf (namesM q) e := by simpa using hp
  omega
end Go.Proofs.YthihoafemahgmaaDoor
namespace Go.Proofs.YthihoafemahgmaaDoor
open Mx
mutual
def dividesE : Ex → Bool
  | .mk o _ _ l => decide (o = oDiv) || decide (o = oMod) || dividesL l
def dividesL : List Ex → Bool
  | [] => false
  | e :: l => dividesE e || dividesL l
end
def exOf (fl : List Fl) (s : ByteArray) : Option Ex := (fl.find? fun f => decide (f.name = s)).map (·.e)
def rootsM (p : Pr) : List ByteArray := p.outs ++ (p.fl.filter fun f => dividesE f.e).map (·.name) ++ namesXL (p.as ++ p.cs)
def needN (fl : List Fl) : Nat → List ByteArray → List ByteArray → List ByteArray
  | 0, _, nd => nd
  | _ + 1, [], nd => nd
  | f + 1, s :: r, nd =>
    match exOf fl s with
    | some e => if s ∈ nd then needN fl f r nd else needN fl f ((namesX e).reverse ++ r) (s :: nd)
    | none => needN fl f r nd
def restN (nd : List ByteArray) : List Fl → Nat
  | [] => 0
  | f :: l => (if f.name ∈ nd then 0 else 1 + (namesX f.e).length) + restN nd l
def needM (p : Pr) : List ByteArray := needN p.fl (1 + (rootsM p).length + restN [] p.fl) (rootsM p).reverse []
def dropM (p : Pr) : Pr := { p with fl := p.fl.filter fun f => decide (f.name ∈ needM p) }
theorem exOf_cons (f : Fl) (fl : List Fl) (s : ByteArray) : exOf (f :: fl) s = if f.name = s then some f.e else exOf fl s := by
  unfold exOf
  rw [List.find?_cons]
  by_cases h : f.name = s <;> simp [h]
theorem exOf_some {fl : List Fl} {s : ByteArray} : (exOf fl s).isSome = true ↔ s ∈ fl.map (·.name) := by
  induction fl with
  | nil => simp [exOf]
  | cons f fl ih =>
    rw [exOf_cons]
    by_cases h : f.name = s
    · simp [h]
    · rw [if_neg h, ih]
      simp only [List.map_cons, List.mem_cons]
      constructor
      · exact .inr
      · rintro (e | e)
        · exact absurd e.symm h
        · exact e
theorem exOf_mem {fl : List Fl} (hn : (fl.map (·.name)).Nodup) {f : Fl} (hf : f ∈ fl) : exOf fl f.name = some f.e := by
  induction fl with
  | nil => cases hf
  | cons g fl ih =>
    rw [List.map_cons, List.nodup_cons] at hn
    rw [exOf_cons]
    rcases List.mem_cons.1 hf with rfl | hf
    · rw [if_pos rfl]
    · rw [if_neg (fun e => hn.1 (by rw [e]; exact List.mem_map.2 ⟨f, hf, rfl⟩)), ih hn.2 hf]
theorem restN_step {nd : List ByteArray} {s : ByteArray} : ∀ {fl : List Fl} {e : Ex}, exOf fl s = some e → s ∉ nd → restN (s :: nd) fl + 1 + (namesX e).length ≤ restN nd fl
  | [], e, h, _ => by simp [exOf] at h
  | f :: fl, e, h, hs => by
    rw [exOf_cons] at h
    have hle : ∀ l : List Fl, restN (s :: nd) l ≤ restN nd l := fun l => by
      induction l with
      | nil => exact Nat.le_refl _
      | cons g l ih =>
        simp only [restN]
        have : (if g.name ∈ s :: nd then 0 else 1 + (namesX g.e).length) ≤ (if g.name ∈ nd then 0 else 1 + (namesX g.e).length) := by
          by_cases h1 : g.name ∈ nd
          · rw [if_pos (List.mem_cons_of_mem _ h1)]; exact Nat.zero_le _
          · rw [if_neg h1]
            split <;> omega
        omega
    simp only [restN]
    by_cases hf : f.name = s
    · rw [if_pos hf] at h
      cases h
      have := hle fl
      rw [if_pos (by rw [hf]; exact List.mem_cons_self ..), if_neg (by rw [hf]; exact hs)]
      omega
    · rw [if_neg hf] at h
      have := restN_step (nd := nd) h hs
      by_cases h1 : f.name ∈ nd
      · rw [if_pos h1, if_pos (List.mem_cons_of_mem _ h1)]
        omega
      · rw [if_neg h1, if_neg (fun hm => by
          rcases List.mem_cons.1 hm with e | e
          · exact hf e
          · exact h1 e)]
        omega
def Closed (fl : List Fl) (nd : List ByteArray) : Prop := ∀ s ∈ nd, ∀ e, exOf fl s = some e → ∀ t ∈ namesX e, (exOf fl t).isSome = true → t ∈ nd
theorem needN_spec (fl : List Fl) : ∀ (f : Nat) (todo nd : List ByteArray), todo.length + restN nd fl < f → (∀ s ∈ nd, (exOf fl s).isSome = true) →
    (∀ s ∈ nd, ∀ e, exOf fl s = some e → ∀ t ∈ namesX e, (exOf fl t).isSome = true → t ∈ nd ∨ t ∈ todo) →
    (∀ s ∈ nd, s ∈ needN fl f todo nd) ∧ (∀ s ∈ todo, (exOf fl s).isSome = true → s ∈ needN fl f todo nd) ∧ (∀ s ∈ needN fl f todo nd, (exOf fl s).isSome = true) ∧ Closed fl (needN fl f todo nd) ∧
      ∀ Q : List ByteArray, (∀ s ∈ nd, s ∈ Q) → (∀ s ∈ todo, (exOf fl s).isSome = true → s ∈ Q) → Closed fl Q → ∀ s ∈ needN fl f todo nd, s ∈ Q
  | 0, todo, nd, hf, _, _ => by omega
  | f + 1, [], nd, hf, hs, hc => by
    simp only [needN]
    refine ⟨fun s h => h, fun s h => ?_, hs, fun s h e he t ht hts => ?_, fun Q hQ _ _ => hQ⟩
    · cases h
    · rcases hc s h e he t ht hts with h1 | h1
      · exact h1
      · cases h1
  | f + 1, x :: r, nd, hf, hs, hc => by
    simp only [List.length_cons] at hf
    rw [needN]
    cases hx : exOf fl x with
    | none =>
      dsimp only
      obtain ⟨g1, g2, g3, g4, g5⟩ := needN_spec fl f r nd (by omega) hs fun s h e he t ht hts => by
        rcases hc s h e he t ht hts with h1 | h1
        · exact .inl h1
        · rcases List.mem_cons.1 h1 with e1 | e1
          · rw [e1, hx] at hts; cases hts
          · exact .inr e1
      refine ⟨g1, fun s h hss => ?_, g3, g4, fun Q q1 q2 q3 => g5 Q q1 (fun s h hss => q2 s (List.mem_cons_of_mem _ h) hss) q3⟩
      rcases List.mem_cons.1 h with e1 | e1
      · rw [e1, hx] at hss; cases hss
      · exact g2 s e1 hss
    | some ex =>
      dsimp only
      by_cases hin : x ∈ nd
      · rw [if_pos hin]
        obtain ⟨g1, g2, g3, g4, g5⟩ := needN_spec fl f r nd (by omega) hs fun s h e he t ht hts => by
          rcases hc s h e he t ht hts with h1 | h1
          · exact .inl h1
          · rcases List.mem_cons.1 h1 with e1 | e1
            · exact .inl (e1 ▸ hin)
            · exact .inr e1
        refine ⟨g1, fun s h hss => ?_, g3, g4, fun Q q1 q2 q3 => g5 Q q1 (fun s h hss => q2 s (List.mem_cons_of_mem _ h) hss) q3⟩
        rcases List.mem_cons.1 h with e1 | e1
        · rw [e1]; exact g1 x hin
        · exact g2 s e1 hss
      · rw [if_neg hin]
        have hm := restN_step hx hin
        obtain ⟨g1, g2, g3, g4, g5⟩ := needN_spec fl f ((namesX ex).reverse ++ r) (x :: nd) (by simp only [List.length_append, List.length_reverse]; omega) (fun s h => by
          rcases List.mem_cons.1 h with e1 | e1
          · rw [e1, hx]; rfl
          · exact hs s e1) fun s h e he t ht hts => by
          rcases List.mem_cons.1 h with e1 | e1
          · rw [e1, hx] at he
            cases he
            exact .inr (List.mem_append_left _ (List.mem_reverse.2 ht))
          · rcases hc s e1 e he t ht hts with h1 | h1
            · exact .inl (List.mem_cons_of_mem _ h1)
            · rcases List.mem_cons.1 h1 with e2 | e2
              · exact .inl (e2 ▸ List.mem_cons_self ..)
              · exact .inr (List.mem_append_right _ e2)
        refine ⟨fun s h => g1 s (List.mem_cons_of_mem _ h), fun s h hss => ?_, g3, g4, fun Q q1 q2 q3 => g5 Q (fun s h => ?_) (fun s h hss => ?_) q3⟩
        · rcases List.mem_cons.1 h with e1 | e1
          · exact g1 s (e1 ▸ List.mem_cons_self ..)
          · exact g2 s (List.mem_append_right _ e1) hss
        · rcases List.mem_cons.1 h with e1 | e1
          · rw [e1]; exact q2 x (List.mem_cons_self ..) (by rw [hx]; rfl)
          · exact q1 s e1
        · rcases List.mem_append.1 h with e1 | e1
          · exact q3 x (q2 x (List.mem_cons_self ..) (by rw [hx]; rfl)) ex hx s (List.mem_reverse.1 e1) hss
          · exact q2 s (List.mem_cons_of_mem _ e1) hss
theorem needM_spec (p : Pr) : (∀ s ∈ rootsM p, s ∈ p.fl.map (·.name) → s ∈ needM p) ∧ (∀ s ∈ needM p, s ∈ p.fl.map (·.name)) ∧ Closed p.fl (needM p) ∧
    ∀ Q : List ByteArray, (∀ s ∈ rootsM p, s ∈ p.fl.map (·.name) → s ∈ Q) → Closed p.fl Q → ∀ s ∈ needM p, s ∈ Q := by
  obtain ⟨_, g2, g3, g4, g5⟩ := needN_spec p.fl (1 + (rootsM p).length + restN [] p.fl) (rootsM p).reverse [] (by simp only [List.length_reverse]; omega) (fun s h => by cases h) (fun s h => by cases h)
  refine ⟨fun s h hs => g2 s (List.mem_reverse.2 h) (exOf_some.2 hs), fun s h => exOf_some.1 (g3 s h), g4, fun Q q1 q2 => g5 Q (fun s h => ?_) (fun s h hs => q1 s (List.mem_reverse.1 h) (exOf_some.1 hs)) q2⟩
  cases h
theorem drop_names (p : Pr) (s : ByteArray) : s ∈ (dropM p).fl.map (·.name) ↔ s ∈ needM p := by
  obtain ⟨_, h2, _⟩ := needM_spec p
  unfold dropM
  simp only [List.mem_map, List.mem_filter, decide_eq_true_eq]
  constructor
  · rintro ⟨f, ⟨_, h⟩, rfl⟩; exact h
  · intro h
    obtain ⟨f, hf, e⟩ := List.mem_map.1 (h2 s h)
    exact ⟨f, ⟨hf, by rw [e]; exact h⟩, e⟩
theorem drop_keeps {p : Pr} (hn : (p.fl.map (·.name)).Nodup) : Keeps p (dropM p) where
  ins := rfl
  outs := rfl
  asr := rfl
  chk := rfl
  sub := List.filter_sublist
  root := fun s hs hf => (drop_names p s).2 ((needM_spec p).1 s (List.mem_append_left _ (List.mem_append_left _ hs)) hf)
  term := fun e he s hs hf => by
    refine (drop_names p s).2 ?_
    obtain ⟨h1, _, h3, _⟩ := needM_spec p
    unfold Pr.terms at he
    rw [List.append_assoc] at he
    rcases List.mem_append.1 he with he | he
    · obtain ⟨f, hff, rfl⟩ := List.mem_map.1 he
      have hff : f ∈ p.fl ∧ f.name ∈ needM p := by
        unfold dropM at hff
        simpa using hff
      exact h3 f.name hff.2 f.e (exOf_mem hn hff.1) s hs (exOf_some.2 hf)
    · exact h1 s (List.mem_append_right _ (namesXL_mem he hs)) hf
theorem drop_twice {p : Pr} (hn : (p.fl.map (·.name)).Nodup) : dropM (dropM p) = dropM p := by
  obtain ⟨h1, h2, h3, h4⟩ := needM_spec p
  obtain ⟨k1, k2, k3, _⟩ := needM_spec (dropM p)
  have hsub : (dropM p).fl.Sublist p.fl := List.filter_sublist
  have hnq : ((dropM p).fl.map (·.name)).Nodup := (hsub.map _).nodup hn
  have hex : ∀ s, s ∈ needM p → exOf (dropM p).fl s = exOf p.fl s := fun s hs => by
    obtain ⟨f, hf, e⟩ := List.mem_map.1 ((drop_names p s).2 hs)
    rw [← e, exOf_mem hnq hf, exOf_mem hn (hsub.subset hf)]
  have hle : ∀ s ∈ needM p, s ∈ needM (dropM p) := h4 _ (fun s hs hf => by
    have hsn := h1 s hs hf
    have hsq := (drop_names p s).2 hsn
    refine k1 s ?_ hsq
    unfold rootsM at hs ⊢
    simp only [List.mem_append] at hs ⊢
    rcases hs with (hs | hs) | hs
    · exact .inl (.inl hs)
    · left; right
      obtain ⟨f, hf, e⟩ := List.mem_map.1 hs
      obtain ⟨hf1, hf2⟩ := List.mem_filter.1 hf
      refine List.mem_map.2 ⟨f, List.mem_filter.2 ⟨?_, hf2⟩, e⟩
      unfold dropM
      exact List.mem_filter.2 ⟨hf1, by rw [e]; simpa using hsn⟩
    · exact .inr hs) fun s hs e he t ht hts => by
      have hsn := (drop_names p s).1 (k2 s hs)
      have htn := h3 s hsn e he t ht hts
      exact k3 s hs e (by rw [hex s hsn]; exact he) t ht (by rw [hex t htn]; exact hts)
  have hall : ∀ f ∈ (dropM p).fl, decide (f.name ∈ needM (dropM p)) = true := fun f hf => by
    simpa using hle _ ((drop_names p f.name).1 (List.mem_map.2 ⟨f, hf, rfl⟩))
  show ({ dropM p with fl := (dropM p).fl.filter fun f => decide (f.name ∈ needM (dropM p)) } : Pr) = dropM p
  rw [List.filter_eq_self.2 hall]
theorem drop_right {p : Pr} (hc : (checkM p).1 = 0) : (checkM (dropM p)).1 = 0 ∧ dropM (dropM p) = dropM p ∧ (dropM p).fl.length ≤ p.fl.length := by
  obtain ⟨l, ho, _⟩ := checkM_zero hc
  have hn := names_nd (orderM_low ho).1
  exact ⟨keep_right (drop_keeps hn) hc, drop_twice hn, (drop_keeps hn).sub.length_le⟩
end Go.Proofs.YthihoafemahgmaaDoor
namespace Go.Proofs.YthihoafemahgmaaDoor
open Mx
theorem check_of {p q : Pr} (hck : checkFlat p = 0) {ks : Env Int} (hks : freshGo Env.none p.vars = some ks) (h1 : q.ins = p.ins) (h2 : q.outs = p.outs) (h3 : (q.fl.map fun f => (f.name, f.kind)).Sublist (p.fl.map fun f => (f.name, f.kind)))
    (h4 : ∀ s ∈ p.outs, s ∈ p.fl.map (·.name) → s ∈ q.fl.map (·.name)) (h5 : ∀ e ∈ q.terms, formAll ks e = true ∧ ∀ s ∈ namesX e, s ∈ p.fl.map (·.name) → s ∈ q.fl.map (·.name))
    (h6 : ∀ f ∈ q.fl, kindOf ks f.e = f.kind) (h7 : ∀ e ∈ q.as ++ q.cs, kindOf ks e = 1) (h8 : Ex.partsL q.terms ≤ Ex.partsL p.terms) : checkFlat q = 0 := by
  obtain ⟨ks0, hks0, ho, _, b1, b2, b3, _⟩ := check_zero hck
  rw [hks] at hks0
  cases hks0
  have hv : q.vars.Sublist p.vars := by
    unfold Pr.vars
    rw [h1]
    exact (List.Sublist.refl _).append h3
  obtain ⟨ks', hks'⟩ := fresh_sub hv hks (m' := Env.none) fun s hs => by simp [Env.none] at hs
  have g := (fresh_has _ _ _ hks).2
  have g' := (fresh_has _ _ _ hks').2
  have hin : ∀ e ∈ q.terms, ∀ s ∈ namesX e, ∃ k, (s, k) ∈ q.vars := fun e he s hs => by
    obtain ⟨hf, hn⟩ := h5 e he
    have h1' := form_has e hf s hs
    rcases fresh_keys _ _ _ hks h1' with h2 | h2
    · simp [Env.none] at h2
    · have h3 : s ∈ q.vars.map (·.1) := by
        simp only [Pr.vars, List.map_append, List.map_map, List.mem_append] at h2 ⊢
        rcases h2 with h2 | h2
        · left
          rw [h1]
          exact h2
        · right
          exact hn s hs h2
      obtain ⟨x, hx, rfl⟩ := List.mem_map.1 h3
      exact ⟨x.2, hx⟩
  have hsame : ∀ e ∈ q.terms, ∀ s ∈ namesX e, ks' s = ks s := fun e he s hs => by
    obtain ⟨k, hk⟩ := hin e he s hs
    rw [g' _ hk, g _ (hv.subset hk)]
  refine check_ok hks' ?_ ?_ ?_ ?_
  · rw [h2]
    exact outs_sub _ _ ho h4
  · rw [formAllL_iff]
    exact fun e he => form_names e (h5 e he).1 fun s hs => by
      obtain ⟨k, hk⟩ := hin e he s hs
      rw [g' _ hk]; rfl
  · have c1 := h3.length_le
    rw [h1]
    simp only [List.length_map] at c1
    omega
  · unfold Pr.terms
    rw [List.append_assoc, kindsGo_iff]
    refine ⟨fun f hf' => ?_, fun e he => ?_⟩
    · rw [kind_names f.e fun s hs => hsame f.e (terms_fl q hf') s hs]
      exact h6 f hf'
    · rw [kind_names e fun s hs => hsame e (by unfold Pr.terms; rw [List.append_assoc]; exact List.mem_append_right _ he) s hs]
      exact h7 e he
mutual
def renE (ot : Env ByteArray) : Ex → Ex
  | .mk o n s l => .mk o n (if o = oName then (ot s).getD s else s) (renL ot l)
def renL (ot : Env ByteArray) : List Ex → List Ex
  | [] => []
  | e :: l => renE ot e :: renL ot l
end
theorem renL_map (ot : Env ByteArray) : ∀ l : List Ex, renL ot l = l.map (renE ot)
  | [] => rfl
  | e :: l => by rw [renL, renL_map ot l]; rfl
theorem ren_parts (ot : Env ByteArray) : ∀ e : Ex, (renE ot e).parts = e.parts := by
  refine Ex.ind fun o n s l ih => ?_
  simp only [renE, Ex.parts]
  congr 1
  have : ∀ l' : List Ex, (∀ e ∈ l', e ∈ l) → Ex.partsL (renL ot l') = Ex.partsL l' := by
    intro l'
    induction l' with
    | nil => intro _; rfl
    | cons e l' ihl =>
      intro hs
      simp only [renL, Ex.partsL]
      rw [ih e (hs e (List.mem_cons_self ..)), ihl fun e he => hs e (List.mem_cons_of_mem _ he)]
  exact this l fun _ h => h
theorem partsL_ren (ot : Env ByteArray) : ∀ l : List Ex, Ex.partsL (l.map (renE ot)) = Ex.partsL l
  | [] => rfl
  | e :: l => by simp only [List.map_cons, Ex.partsL]; rw [ren_parts, partsL_ren ot l]
theorem ren_names (ot : Env ByteArray) : ∀ e : Ex, ∀ t ∈ namesX (renE ot e), ∃ s ∈ namesX e, t = (ot s).getD s := by
  refine Ex.ind fun o n s l ih t ht => ?_
  simp only [renE, namesX, List.mem_append] at ht ⊢
  rcases ht with ht | ht
  · split at ht
    · rename_i ho
      rw [List.mem_singleton.1 ht]
      exact ⟨s, .inl (by simp [ho]), rfl⟩
    · cases ht
  · rw [renL_map] at ht
    obtain ⟨e', he', hs⟩ := namesXL_in ht
    obtain ⟨e, he, rfl⟩ := List.mem_map.1 he'
    obtain ⟨u, hu, h⟩ := ih e he t hs
    exact ⟨u, .inr (namesXL_mem he hu), h⟩
def KindTo (ks : Env Int) (ot : Env ByteArray) : Prop := ∀ s t, ot s = some t → ks t = ks s
theorem ren_kind {ks : Env Int} {ot : Env ByteArray} (h : KindTo ks ot) : ∀ e : Ex, kindOf ks (renE ot e) = kindOf ks e := by
  refine Ex.ind fun o n s l ih => ?_
  have hl : kindsOf ks (renL ot l) = kindsOf ks l := by
    rw [renL_map, kindsOf_map, kindsOf_map, List.map_map]
    exact List.map_congr_left fun e he => ih e he
  simp only [renE, kindOf]
  rw [hl]
  by_cases ho : o = oName
  · rw [if_pos ho]
    cases e : ot s with
    | none => rfl
    | some t => rw [Option.getD_some, h s t e]
  · rw [if_neg ho]
theorem ren_form {ks : Env Int} {ot : Env ByteArray} (h : KindTo ks ot) : ∀ e : Ex, formAll ks e = true → formAll ks (renE ot e) = true := by
  refine Ex.ind fun o n s l ih hf => ?_
  simp only [renE, formAll, Bool.and_eq_true, Bool.or_eq_true, decide_eq_true_eq] at hf ⊢
  have hlen : (renL ot l).length = l.length := by rw [renL_map, List.length_map]
  refine ⟨⟨⟨?_, hf.1.1.2⟩, ?_⟩, ?_⟩
  · have h1 := hf.1.1.1
    unfold form at h1 ⊢
    simp only [Ex.op, Ex.n, Ex.s, Ex.l] at h1 ⊢
    cases ha : arity o with
    | none => rw [ha] at h1; cases h1
    | some k =>
      rw [ha] at h1
      simp only [Bool.and_eq_true, Bool.or_eq_true, decide_eq_true_eq] at h1 ⊢
      refine ⟨⟨?_, h1.1.2⟩, ?_⟩
      · rcases h1.1.1 with h2 | h2
        · exact .inl h2
        · right
          have h3 : k = ((l.length : Nat) : Int) := of_decide_eq_true h2
          exact decide_eq_true (by show k = (((renL ot l).length : Nat) : Int); rw [hlen]; exact h3)
      · by_cases ho : o = oName
        · exact .inl (.inr (decide_eq_true ho))
        · rw [if_neg ho]; exact h1.2
  · rcases hf.1.2 with h1 | h1
    · exact .inl h1
    · by_cases ho : o = oName
      · right
        rw [if_pos ho]
        cases e : ot s with
        | none => exact h1
        | some t => rw [Option.getD_some, h s t e]; exact h1
      · exact .inl ho
  · rw [formAllL_iff] at hf ⊢
    intro e he
    rw [renL_map] at he
    obtain ⟨e', he', rfl⟩ := List.mem_map.1 he
    exact ih e' he' (hf.2 e' he')
mutual
def alikeE : Ex → Ex → Bool
  | .mk o n s l, .mk o' n' s' l' => decide (o = o') && decide (n = n') && decide (s = s') && alikeL l l'
def alikeL : List Ex → List Ex → Bool
  | [], [] => true
  | a :: l, b :: l' => alikeE a b && alikeL l l'
  | [], _ :: _ => false
  | _ :: _, [] => false
end
mutual
theorem alike_eq : ∀ a b : Ex, alikeE a b = true → a = b
  | .mk o n s l, .mk o' n' s' l', h => by
    simp only [alikeE, Bool.and_eq_true, decide_eq_true_eq] at h
    rw [h.1.1.1, h.1.1.2, h.1.2, alikeL_eq l l' h.2]
theorem alikeL_eq : ∀ a b : List Ex, alikeL a b = true → a = b
  | [], [], _ => rfl
  | a :: l, b :: l', h => by
    simp only [alikeL, Bool.and_eq_true] at h
    rw [alike_eq a b h.1, alikeL_eq l l' h.2]
  | [], _ :: _, h => by simp [alikeL] at h
  | _ :: _, [], h => by simp [alikeL] at h
end
def renF (ot : Env ByteArray) (f : Fl) : Fl := { f with e := renE ot f.e }
def sameGo (outs : List ByteArray) : List Fl → Env ByteArray → List Fl → Env ByteArray × List Fl
  | [], ot, kept => (ot, kept)
  | f :: r, ot, kept =>
    match (kept.map (renF ot)).find? (fun g => alikeE (renE ot f.e) g.e) with
    | some g => if dividesE (renE ot f.e) = false ∧ f.name ∉ outs then sameGo outs r (ot.set f.name g.name) (kept.map (renF ot)) else sameGo outs r ot (kept.map (renF ot) ++ [renF ot f])
    | none => sameGo outs r ot (kept.map (renF ot) ++ [renF ot f])
def sameM (p : Pr) : Pr :=
  let x := sameGo p.outs p.fl Env.none []
  ⟨p.ins, p.outs, x.2.map (renF x.1), p.as.map (renE x.1), p.cs.map (renE x.1)⟩
structure SmI (ks : Env Int) (outs : List ByteArray) (done : List Fl) (ot : Env ByteArray) (kept : List Fl) : Prop where
  sub : (kept.map fun f => (f.name, f.kind)).Sublist (done.map fun f => (f.name, f.kind))
  outs_ : ∀ s ∈ outs, s ∈ done.map (·.name) → s ∈ kept.map (·.name)
  goes : ∀ s t, ot s = some t → t ∈ kept.map (·.name) ∧ s ∉ kept.map (·.name) ∧ s ∈ done.map (·.name)
  all : ∀ s ∈ done.map (·.name), s ∈ kept.map (·.name) ∨ (ot s).isSome = true
  kind : KindTo ks ot
  term : ∀ f ∈ kept, formAll ks f.e = true ∧ kindOf ks f.e = f.kind
  parts : Ex.partsL (kept.map (·.e)) ≤ Ex.partsL (done.map (·.e))
theorem renF_names (ot : Env ByteArray) (l : List Fl) : (l.map (renF ot)).map (·.name) = l.map (·.name) := by rw [List.map_map]; rfl
theorem sameGo_post {ks : Env Int} {outs : List ByteArray} : ∀ (r done : List Fl) (ot : Env ByteArray) (kept : List Fl), ((done ++ r).map (·.name)).Nodup → (∀ f ∈ done ++ r, formAll ks f.e = true ∧ kindOf ks f.e = f.kind ∧ ks f.name = some f.kind) → SmI ks outs done ot kept →
    SmI ks outs (done ++ r) (sameGo outs r ot kept).1 (sameGo outs r ot kept).2
  | [], done, ot, kept, _, _, h => by simpa [sameGo] using h
  | f :: r, done, ot, kept, hn, hf, h => by
    have e0 : done ++ f :: r = (done ++ [f]) ++ r := by simp
    obtain ⟨f1, f2, f3⟩ := hf f (by simp)
    have hfd : f.name ∉ done.map (·.name) := by
      rw [List.map_append, List.nodup_append] at hn
      exact fun hm => hn.2.2 f.name hm f.name (by simp) rfl
    have hkd : ∀ s ∈ kept.map (·.name), s ∈ done.map (·.name) := fun s hs => by
      obtain ⟨g, hg, rfl⟩ := List.mem_map.1 hs
      have := h.sub.subset (List.mem_map.2 ⟨g, hg, rfl⟩)
      obtain ⟨d, hd, e⟩ := List.mem_map.1 this
      exact List.mem_map.2 ⟨d, hd, by simpa using congrArg Prod.fst e⟩
    have hkr : (kept.map (renF ot)).map (fun f => (f.name, f.kind)) = kept.map fun f => (f.name, f.kind) := by rw [List.map_map]; rfl
    have hpr : Ex.partsL ((kept.map (renF ot)).map (·.e)) = Ex.partsL (kept.map (·.e)) := by
      have : (kept.map (renF ot)).map (·.e) = (kept.map (·.e)).map (renE ot) := by rw [List.map_map, List.map_map]; rfl
      rw [this, partsL_ren]
    have hterm : ∀ g ∈ kept.map (renF ot), formAll ks g.e = true ∧ kindOf ks g.e = g.kind := fun g hg => by
      obtain ⟨g', hg', rfl⟩ := List.mem_map.1 hg
      obtain ⟨t1, t2⟩ := h.term g' hg'
      exact ⟨ren_form h.kind _ t1, by show kindOf ks (renE ot g'.e) = g'.kind; rw [ren_kind h.kind]; exact t2⟩
    -- it is kept
    have keep : SmI ks outs (done ++ [f]) ot (kept.map (renF ot) ++ [renF ot f]) := by
      refine ⟨?_, fun s hs hd => ?_, fun s t ht => ?_, fun s hs => ?_, h.kind, fun g hg => ?_, ?_⟩
      · rw [List.map_append, List.map_append, hkr]
        exact h.sub.append (List.Sublist.refl _)
      · rw [List.map_append, renF_names]
        rw [List.map_append] at hd
        rcases List.mem_append.1 hd with hd | hd
        · exact List.mem_append_left _ (h.outs_ s hs hd)
        · exact List.mem_append_right _ hd
      · obtain ⟨t1, t2, t3⟩ := h.goes s t ht
        rw [List.map_append, renF_names, List.map_append]
        refine ⟨List.mem_append_left _ t1, fun hm => ?_, List.mem_append_left _ t3⟩
        rcases List.mem_append.1 hm with hm | hm
        · exact t2 hm
        · have : s = f.name := by simpa [renF] using hm
          exact hfd (this ▸ t3)
      · rw [List.map_append, renF_names]
        rw [List.map_append] at hs
        rcases List.mem_append.1 hs with hs | hs
        · exact (h.all s hs).imp (List.mem_append_left _) id
        · exact .inl (List.mem_append_right _ hs)
      · rcases List.mem_append.1 hg with hg | hg
        · exact hterm g hg
        · rw [List.mem_singleton.1 hg]
          exact ⟨ren_form h.kind _ f1, by show kindOf ks (renE ot f.e) = f.kind; rw [ren_kind h.kind]; exact f2⟩
      · rw [List.map_append, partsL_append, hpr, List.map_append, partsL_append]
        have := h.parts
        simp only [List.map_cons, List.map_nil, Ex.partsL, renF, ren_parts]
        omega
    rw [e0]
    rw [e0] at hn hf
    rw [sameGo]
    cases hg : (kept.map (renF ot)).find? (fun g => alikeE (renE ot f.e) g.e) with
    | none => exact sameGo_post r (done ++ [f]) _ _ hn hf keep
    | some g =>
      dsimp only
      by_cases hc : dividesE (renE ot f.e) = false ∧ f.name ∉ outs
      · rw [if_pos hc]
        have hgm := List.mem_of_find?_eq_some hg
        have hge : renE ot f.e = g.e := alike_eq _ _ (List.find?_some (p := fun g : Fl => alikeE (renE ot f.e) g.e) hg)
        have hgk : g.name ∈ kept.map (·.name) := by rw [← renF_names ot]; exact List.mem_map.2 ⟨g, hgm, rfl⟩
        refine sameGo_post r (done ++ [f]) _ _ hn hf ⟨?_, fun s hs hd => ?_, fun s t ht => ?_, fun s hs => ?_, fun s t ht => ?_, hterm, ?_⟩
        · rw [hkr, List.map_append]
          exact h.sub.trans (List.sublist_append_left _ _)
        · rw [renF_names]
          rw [List.map_append] at hd
          rcases List.mem_append.1 hd with hd | hd
          · exact h.outs_ s hs hd
          · have : s = f.name := by simpa using hd
            exact absurd (this ▸ hs) hc.2
        · rw [renF_names, List.map_append]
          by_cases e : s = f.name
          · rw [e, Env.set_self] at ht
            cases ht
            exact ⟨hgk, fun hm => hfd (hkd _ (e ▸ hm)), List.mem_append_right _ (by simp [e])⟩
          · rw [Env.set_other _ _ e] at ht
            obtain ⟨t1, t2, t3⟩ := h.goes s t ht
            exact ⟨t1, t2, List.mem_append_left _ t3⟩
        · rw [renF_names]
          rw [List.map_append] at hs
          by_cases e : s = f.name
          · right
            rw [e, Env.set_self]; rfl
          · rw [Env.set_other _ _ e]
            rcases List.mem_append.1 hs with hs | hs
            · exact h.all s hs
            · exact absurd (by simpa using hs) e
        · by_cases e : s = f.name
          · rw [e, Env.set_self] at ht
            cases ht
            rw [e, f3]
            have hk2 := (hterm g hgm).2
            rw [← hge, ren_kind h.kind, f2] at hk2
            obtain ⟨g', hg', e2⟩ := List.mem_map.1 hgm
            have := h.sub.subset (List.mem_map.2 ⟨g', hg', rfl⟩)
            obtain ⟨d, hd, e3⟩ := List.mem_map.1 this
            have hd3 := (hf d (by simp [hd])).2.2
            have n1 : d.name = g.name := by rw [← e2]; simpa [renF] using congrArg Prod.fst e3
            have n2 : d.kind = g.kind := by rw [← e2]; simpa [renF] using congrArg Prod.snd e3
            rw [← n1, hd3, n2, ← hk2]
          · rw [Env.set_other _ _ e] at ht
            exact h.kind s t ht
        · rw [hpr, List.map_append, partsL_append]
          have := h.parts
          omega
      · rw [if_neg hc]
        exact sameGo_post r (done ++ [f]) _ _ hn hf keep
theorem same_check {p : Pr} (hck : checkFlat p = 0) : checkFlat (sameM p) = 0 ∧ (sameM p).fl.length ≤ p.fl.length ∧ (sameM p).as.length = p.as.length ∧ (sameM p).cs.length = p.cs.length := by
  obtain ⟨ks, hks, ho, hfm, _, _, _, hk⟩ := check_zero hck
  have hn := names_nd hck
  have g := (fresh_has _ _ _ hks).2
  rw [formAllL_iff] at hfm
  unfold Pr.terms at hk
  rw [List.append_assoc, kindsGo_iff] at hk
  have hpost := sameGo_post (ks := ks) (outs := p.outs) p.fl [] Env.none [] (by simpa using hn) (fun f hf => by
    have hf : f ∈ p.fl := by simpa using hf
    exact ⟨hfm f.e (terms_fl p hf), hk.1 f hf, g (f.name, f.kind) (by simp only [Pr.vars, List.mem_append, List.mem_map]; exact .inr ⟨f, hf, rfl⟩)⟩)
    ⟨List.Sublist.refl _, fun s _ h => by simp at h, fun s t h => by simp [Env.none] at h, fun s h => by simp at h, fun s t h => by simp [Env.none] at h, fun f h => by simp at h, Nat.le_refl _⟩
  rw [List.nil_append] at hpost
  have hfl : (sameM p).fl = (sameGo p.outs p.fl Env.none []).2.map (renF (sameGo p.outs p.fl Env.none []).1) := rfl
  have has : (sameM p).as = p.as.map (renE (sameGo p.outs p.fl Env.none []).1) := rfl
  have hcs : (sameM p).cs = p.cs.map (renE (sameGo p.outs p.fl Env.none []).1) := rfl
  have hi : (sameM p).ins = p.ins := rfl
  have hou : (sameM p).outs = p.outs := rfl
  generalize sameM p = q at *
  generalize sameGo p.outs p.fl Env.none [] = X at *
  obtain ⟨ot, kept⟩ := X
  dsimp only at hpost hfl has hcs
  have hqn : q.fl.map (·.name) = kept.map (·.name) := by rw [hfl, renF_names]
  have hlen : q.fl.length ≤ p.fl.length := by
    have := hpost.sub.length_le
    rw [hfl]
    simpa using this
  refine ⟨check_of hck hks hi hou ?_ ?_ ?_ ?_ ?_ ?_, hlen, by rw [has, List.length_map], by rw [hcs, List.length_map]⟩
  · rw [hfl, List.map_map]
    exact hpost.sub
  · rw [hqn]
    exact hpost.outs_
  · have hren : ∀ e, formAll ks e = true → formAll ks (renE ot e) = true ∧ ∀ s ∈ namesX (renE ot e), s ∈ p.fl.map (·.name) → s ∈ q.fl.map (·.name) := fun e he => by
      refine ⟨ren_form hpost.kind e he, fun s hs hp => ?_⟩
      rw [hqn]
      obtain ⟨u, _, e2⟩ := ren_names ot e s hs
      cases e3 : ot u with
      | some t =>
        rw [e3, Option.getD_some] at e2
        rw [e2]
        exact (hpost.goes u t e3).1
      | none =>
        rw [e3, Option.getD_none] at e2
        subst e2
        rcases hpost.all s hp with h | h
        · exact h
        · rw [e3] at h; cases h
    intro e he
    unfold Pr.terms at he
    rw [List.append_assoc] at he
    rcases List.mem_append.1 he with he | he
    · rw [hfl, List.map_map] at he
      obtain ⟨f, hf, rfl⟩ := List.mem_map.1 he
      exact hren f.e (hpost.term f hf).1
    · rw [has, hcs, ← List.map_append] at he
      obtain ⟨e', he', rfl⟩ := List.mem_map.1 he
      exact hren e' (hfm e' (by unfold Pr.terms; rw [List.append_assoc]; exact List.mem_append_right _ he'))
  · intro f hf
    rw [hfl] at hf
    obtain ⟨f', hf', rfl⟩ := List.mem_map.1 hf
    show kindOf ks (renE ot f'.e) = f'.kind
    rw [ren_kind hpost.kind]
    exact (hpost.term f' hf').2
  · intro e he
    rw [has, hcs, ← List.map_append] at he
    obtain ⟨e', he', rfl⟩ := List.mem_map.1 he
    rw [ren_kind hpost.kind]
    exact hk.2 e' he'
  · have e1 : q.fl.map (·.e) = (kept.map (·.e)).map (renE ot) := by rw [hfl, List.map_map, List.map_map]; rfl
    unfold Pr.terms
    rw [partsL_append, partsL_append, partsL_append, partsL_append, e1, has, hcs, partsL_ren, partsL_ren, partsL_ren]
    have := hpost.parts
    omega
end Go.Proofs.YthihoafemahgmaaDoor
namespace Go.Proofs.YthihoafemahgmaaDoor
open Mx
def renS (ot : Env ByteArray) (s : ByteArray) : ByteArray := (ot s).getD s
def rnS (ot : Env ByteArray) (o s : ByteArray) : ByteArray := if o = oName then renS ot s else s
def Idem (ot : Env ByteArray) : Prop := ∀ s t, ot s = some t → ot t = none
theorem renS_idem {ot : Env ByteArray} (h : Idem ot) (s : ByteArray) : renS ot (renS ot s) = renS ot s := by
  unfold renS
  cases e : ot s with
  | none => simp only [Option.getD_none, e]
  | some t => simp only [Option.getD_some, h s t e, Option.getD_none]
theorem rnS_idem {ot : Env ByteArray} (h : Idem ot) (o s : ByteArray) : rnS ot o (rnS ot o s) = rnS ot o s := by
  unfold rnS
  split
  · exact renS_idem h s
  · rfl
def GoodS (ks : Env ByteArray) (o s s' : ByteArray) : Prop := rnS ks o s' = rnS ks o s
theorem GoodS.refl (ks : Env ByteArray) (o s : ByteArray) : GoodS ks o s s := rfl
theorem GoodS.rn {ks : Env ByteArray} (h : Idem ks) {o s s' : ByteArray} (hg : GoodS ks o s s') : GoodS ks o s (rnS ks o s') := (rnS_idem h o s').trans hg
theorem GoodS.other {ks : Env ByteArray} {o s s' : ByteArray} (hg : GoodS ks o s s') (ho : o ≠ oName) : s' = s := by
  unfold GoodS rnS at hg
  rw [if_neg ho, if_neg ho] at hg
  exact hg
theorem GoodS.set {ks : Env ByteArray} {f g : ByteArray} (hf : ks f = none) (hr : ∀ s t, ks s = some t → t ≠ f) {o s s' : ByteArray} (hg : GoodS ks o s s') : GoodS (ks.set f g) o s s' := by
  by_cases ho : o = oName
  · have key : ∀ x y : ByteArray, renS ks x = renS ks y → x = f → y = f := fun x y e hx => by
      subst hx
      unfold renS at e
      rw [hf, Option.getD_none] at e
      cases hy : ks y with
      | none => rw [hy, Option.getD_none] at e; exact e.symm
      | some t => rw [hy, Option.getD_some] at e; exact absurd e.symm (hr y t hy)
    unfold GoodS rnS at hg ⊢
    rw [if_pos ho] at hg ⊢
    rw [if_pos ho] at hg ⊢
    by_cases h1 : s = f
    · rw [h1, key s s' hg.symm h1]
    · have h2 : s' ≠ f := fun e => h1 (key s' s hg e)
      unfold renS at hg ⊢
      rw [Env.set_other _ _ h1, Env.set_other _ _ h2]
      exact hg
  · have := hg.other ho
    subst this
    rfl
theorem renE_comp {a b : Env ByteArray} (h : ∀ o s, rnS a o (rnS b o s) = rnS a o s) : ∀ e : Ex, renE a (renE b e) = renE a e := by
  refine Ex.ind fun o n s l ih => ?_
  have hs := h o s
  unfold rnS renS at hs
  simp only [renE]
  rw [renL_map, renL_map, renL_map, List.map_map]
  congr 1
  exact List.map_congr_left fun e he => ih e he
def same2 (outs : List ByteArray) : List Fl → Env ByteArray → List Fl → Env ByteArray × List Fl
  | [], ot, ko => (ot, ko)
  | f :: r, ot, ko =>
    match ko.find? (fun g => alikeE (renE ot f.e) (renE ot g.e)) with
    | some g => if dividesE (renE ot f.e) = false ∧ f.name ∉ outs then same2 outs r (ot.set f.name g.name) ko else same2 outs r ot (ko ++ [f])
    | none => same2 outs r ot (ko ++ [f])
structure SgI (ot : Env ByteArray) (r ko : List Fl) : Prop where
  idem : Idem ot
  nod : (r.map (·.name)).Nodup
  out_ : ∀ f ∈ r, ot f.name = none ∧ f.name ∉ ko.map (·.name)
  into : ∀ s t, ot s = some t → t ∈ ko.map (·.name)
  kept : ∀ g ∈ ko, ot g.name = none
  kn : (ko.map (·.name)).Nodup
theorem SgI.fresh {ot : Env ByteArray} {f : Fl} {r ko : List Fl} (h : SgI ot (f :: r) ko) : ot f.name = none ∧ ∀ s t, ot s = some t → t ≠ f.name :=
  ⟨(h.out_ f (List.mem_cons_self ..)).1, fun s t e e2 => (h.out_ f (List.mem_cons_self ..)).2 (e2 ▸ h.into s t e)⟩
theorem SgI.keep {ot : Env ByteArray} {f : Fl} {r ko : List Fl} (h : SgI ot (f :: r) ko) : SgI ot r (ko ++ [f]) := by
  have hn := h.nod
  rw [List.map_cons, List.nodup_cons] at hn
  refine ⟨h.idem, hn.2, fun x hx => ⟨(h.out_ x (List.mem_cons_of_mem _ hx)).1, fun hm => ?_⟩, fun s t e => ?_, fun g hg => ?_, ?_⟩
  · rw [List.map_append] at hm
    rcases List.mem_append.1 hm with hm | hm
    · exact (h.out_ x (List.mem_cons_of_mem _ hx)).2 hm
    · have : x.name = f.name := by simpa using hm
      exact hn.1 (this ▸ List.mem_map.2 ⟨x, hx, rfl⟩)
  · rw [List.map_append]
    exact List.mem_append_left _ (h.into s t e)
  · rcases List.mem_append.1 hg with hg | hg
    · exact h.kept g hg
    · rw [List.mem_singleton.1 hg]
      exact (h.out_ f (List.mem_cons_self ..)).1
  · rw [List.map_append, List.nodup_append]
    refine ⟨h.kn, by simp, fun a ha b hb e => ?_⟩
    have hb2 : b = f.name := by simpa using hb
    exact (h.out_ f (List.mem_cons_self ..)).2 (hb2 ▸ e ▸ ha)
theorem SgI.set {ot : Env ByteArray} {f g : Fl} {r ko : List Fl} (h : SgI ot (f :: r) ko) (hg : g ∈ ko) : SgI (ot.set f.name g.name) r ko := by
  have hn := h.nod
  rw [List.map_cons, List.nodup_cons] at hn
  obtain ⟨hf1, hf2⟩ := h.out_ f (List.mem_cons_self ..)
  have hgf : ∀ x ∈ ko, x.name ≠ f.name := fun x hx e => hf2 (e ▸ List.mem_map.2 ⟨x, hx, rfl⟩)
  have hk : ∀ x ∈ ko, (ot.set f.name g.name) x.name = none := fun x hx => by rw [Env.set_other _ _ (hgf x hx)]; exact h.kept x hx
  have hm : ∀ t ∈ ko.map (·.name), (ot.set f.name g.name) t = none := fun t ht => by
    obtain ⟨x, hx, rfl⟩ := List.mem_map.1 ht
    exact hk x hx
  have hin : ∀ s t, (ot.set f.name g.name) s = some t → t ∈ ko.map (·.name) := fun s t e => by
    by_cases hs : s = f.name
    · rw [hs, Env.set_self] at e
      cases e
      exact List.mem_map.2 ⟨g, hg, rfl⟩
    · rw [Env.set_other _ _ hs] at e
      exact h.into s t e
  refine ⟨fun s t e => hm t (hin s t e), hn.2, fun x hx => ⟨?_, (h.out_ x (List.mem_cons_of_mem _ hx)).2⟩, hin, hk, h.kn⟩
  have hxf : x.name ≠ f.name := fun e => hn.1 (e ▸ List.mem_map.2 ⟨x, hx, rfl⟩)
  rw [Env.set_other _ _ hxf]
  exact (h.out_ x (List.mem_cons_of_mem _ hx)).1
theorem renF_comp {a b : Env ByteArray} (h : ∀ o s, rnS a o (rnS b o s) = rnS a o s) (l : List Fl) : (l.map (renF b)).map (renF a) = l.map (renF a) := by
  rw [List.map_map]
  refine List.map_congr_left fun f _ => ?_
  show (⟨f.name, f.kind, renE a (renE b f.e)⟩ : Fl) = ⟨f.name, f.kind, renE a f.e⟩
  rw [renE_comp h]
theorem same_go2 {outs : List ByteArray} : ∀ (r : List Fl) (ot : Env ByteArray) (kept ko : List Fl), kept.map (renF ot) = ko.map (renF ot) → SgI ot r ko →
    (sameGo outs r ot kept).1 = (same2 outs r ot ko).1 ∧ (sameGo outs r ot kept).2.map (renF (same2 outs r ot ko).1) = (same2 outs r ot ko).2.map (renF (same2 outs r ot ko).1) ∧ SgI (same2 outs r ot ko).1 [] (same2 outs r ot ko).2
  | [], ot, kept, ko, h, hI => ⟨rfl, h, hI⟩
  | f :: r, ot, kept, ko, h, hI => by
    have keep := same_go2 (outs := outs) r ot (kept.map (renF ot) ++ [renF ot f]) (ko ++ [f]) (by
      rw [h, List.map_append, List.map_append, renF_comp (rnS_idem hI.idem)]
      congr 1
      exact renF_comp (rnS_idem hI.idem) [f]) hI.keep
    rw [sameGo, same2, h, List.find?_map]
    have hp : ((fun g : Fl => alikeE (renE ot f.e) g.e) ∘ renF ot) = fun g => alikeE (renE ot f.e) (renE ot g.e) := rfl
    rw [hp]
    rw [h] at keep
    cases hg : ko.find? (fun g => alikeE (renE ot f.e) (renE ot g.e)) with
    | none => exact keep
    | some g =>
      dsimp only [Option.map]
      by_cases hc : dividesE (renE ot f.e) = false ∧ f.name ∉ outs
      · rw [if_pos hc, if_pos hc]
        obtain ⟨h1, h2⟩ := hI.fresh
        refine same_go2 (outs := outs) r (ot.set f.name g.name) _ ko ?_ (hI.set (List.mem_of_find?_eq_some hg))
        exact renF_comp (fun o s => GoodS.set (g := g.name) h1 h2 (rnS_idem hI.idem o s)) ko
      · rw [if_neg hc, if_neg hc]
        exact keep
theorem same_is2 {p : Pr} (hn : (p.fl.map (·.name)).Nodup) : sameM p = ⟨p.ins, p.outs, (same2 p.outs p.fl Env.none []).2.map (renF (same2 p.outs p.fl Env.none []).1), p.as.map (renE (same2 p.outs p.fl Env.none []).1), p.cs.map (renE (same2 p.outs p.fl Env.none []).1)⟩ ∧ SgI (same2 p.outs p.fl Env.none []).1 [] (same2 p.outs p.fl Env.none []).2 := by
  obtain ⟨h1, h2, h3⟩ := same_go2 (outs := p.outs) p.fl Env.none [] [] rfl ⟨fun s t e => by simp [Env.none] at e, hn, fun _ _ => ⟨rfl, by simp⟩, fun s t e => by simp [Env.none] at e, (fun g hg => by cases hg), (by simp)⟩
  refine ⟨?_, h3⟩
  unfold sameM
  dsimp only
  rw [h1, h2]
end Go.Proofs.YthihoafemahgmaaDoor
