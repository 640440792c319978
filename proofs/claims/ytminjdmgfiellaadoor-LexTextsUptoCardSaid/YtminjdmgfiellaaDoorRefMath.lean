/- Plain law: the document's answer's tokens are the program's. -/
import Derived.Test.YtminjdmgfiellaaDoorLexMath
namespace Go.Proofs.YtminjdmgfiellaaDoor.Lx

/-- lustrumref1.IntOf: -1: none. -/
def intOf (t : B) : Int := if 3 < t.length ∨ 127 < dvalA 0 (t.take 4) ∨ (1 < t.length ∧ t.headD 0 = 48) then -1 else dvalA 0 (t.take 4)
def two : List B := [[60, 62], [60, 61], [62, 61], [61, 62], [45, 62]]
def sing : List B := [[40], [41], [44], [59], [58], [61], [60], [62], [43], [45], [42], [47]]
/-- lustrumref1.tokenOf: an empty kind: none. -/
def refTok : B → Tk
  | [] => ⟨[], [], 0⟩
  | c :: l =>
    if isLow c then
      let t := (c :: l).take (span isWd (c :: l))
      if words.contains t then ⟨kWord, t, 0⟩ else if span isWd (c :: l) ≤ 12 then ⟨kName, t, 0⟩ else ⟨[], [], 0⟩
    else if isDig c then
      let t := (c :: l).take (span isDig (c :: l))
      if 0 ≤ intOf t then ⟨kInt, t, 0⟩ else ⟨[], [], 0⟩
    else if 1 < (c :: l).length ∧ two.contains ((c :: l).take 2) then ⟨kOp, (c :: l).take 2, 0⟩
    else if sing.contains ((c :: l).take 1) then ⟨kOp, (c :: l).take 1, 0⟩ else ⟨[], [], 0⟩

theorem mul_up (a d p : Nat) : a * (p * 10) ≤ (10 * a + d) * p := by
  rw [Nat.mul_comm p 10, ← Nat.mul_assoc]
  exact Nat.mul_le_mul_right _ (by omega)
theorem dvalA_fold (l : B) : ∀ a, dvalA a l = l.foldl (fun a c => 10 * a + (c.toNat - 48)) a := by
  induction l with
  | nil => intro a; rfl
  | cons c l ih => intro a; exact ih _
theorem fold_ge (l : B) : ∀ a, a * 10 ^ l.length ≤ l.foldl (fun a c => 10 * a + (c.toNat - 48)) a := by
  induction l with
  | nil => intro a; rw [List.length_nil, Nat.pow_zero, Nat.mul_one]; exact Nat.le_refl _
  | cons c l ih =>
    intro a
    rw [List.foldl_cons, List.length_cons, Nat.pow_succ]
    exact Nat.le_trans (mul_up _ _ _) (ih _)
theorem dvalA_ge (a : Nat) (l : B) : a * 10 ^ l.length ≤ dvalA a l := by rw [dvalA_fold]; exact fold_ge l a

theorem intOf_iff {t : B} (h : ∀ c ∈ t, isDig c = true) : 0 ≤ intOf t ↔ dval t ≤ 127 ∧ (t.length ≤ 1 ∨ t.headD 0 ≠ 48) := by
  unfold intOf dval
  by_cases hl : t.length ≤ 3
  · have ht : t.take 4 = t := List.take_of_length_le (by omega)
    rw [ht]
    constructor
    · intro hh
      split at hh
      · omega
      · rename_i hn
        refine ⟨by omega, ?_⟩
        by_cases h1 : t.length ≤ 1
        · exact .inl h1
        · exact .inr (fun e => hn (.inr (.inr ⟨by omega, e⟩)))
    · rintro ⟨h1, h2⟩
      rw [if_neg (by rintro (a | a | ⟨a, b⟩) <;> first | omega | (rcases h2 with h2 | h2; omega; exact h2 b))]
      omega
  · rw [if_pos (.inl (by omega))]
    constructor
    · intro hh; omega
    · rintro ⟨h1, h2⟩
      exfalso
      cases t with
      | nil => simp at hl
      | cons c t =>
        simp only [List.length_cons] at hl
        have hc := h c (List.mem_cons_self ..)
        simp only [isDig, Bool.and_eq_true, decide_eq_true_eq] at hc
        have hne : c.toNat ≠ 48 := by
          rcases h2 with h2 | h2
          · rw [List.length_cons] at h2; omega
          · intro e
            exact h2 (by simpa using UInt8.toNat_inj.1 (show c.toNat = (48 : UInt8).toNat from e))
        have h1' : dvalA (10 * 0 + (c.toNat - 48)) t ≤ 127 := h1
        have hp : 10 ^ 3 ≤ 10 ^ t.length := Nat.pow_le_pow_right (by omega) (by omega)
        have hg := dvalA_ge (10 * 0 + (c.toNat - 48)) t
        have := Nat.mul_le_mul (show 1 ≤ 10 * 0 + (c.toNat - 48) by omega) hp
        exact absurd (Nat.le_trans this (Nat.le_trans hg h1')) (by decide)

theorem take_all (p : UInt8 → Bool) (l : B) : ∀ c ∈ l.take (span p l), p c = true := by
  unfold span
  induction l with
  | nil => intro c h; simp at h
  | cons a l ih =>
    intro c h
    by_cases ha : p a = true
    · simp only [List.takeWhile, ha, List.length_cons, List.take_succ_cons, List.mem_cons] at h
      rcases h with rfl | h
      · exact ha
      · exact ih c h
    · simp [List.takeWhile, ha] at h
theorem span_in (p : UInt8 → Bool) (l : B) : ∀ k (_ : k < span p l) (h : k < l.length), p l[k] = true := by
  intro k hk h
  have := take_all p l l[k] (by
    rw [List.mem_iff_getElem]
    exact ⟨k, by rw [List.length_take]; omega, by rw [List.getElem_take]⟩)
  exact this
theorem span_out (p : UInt8 → Bool) (l : B) : ∀ (h : span p l < l.length), p (l[span p l]) = false := by
  induction l with
  | nil => intro h; simp at h
  | cons a l ih =>
    intro h
    by_cases ha : p a = true
    · have e : span p (a :: l) = span p l + 1 := by rw [span_cons, if_pos ha]
      rw [List.getElem_of_eq rfl]
      simp only [e, List.getElem_cons_succ]
      exact ih _
    · have e : span p (a :: l) = 0 := by rw [span_cons, if_neg ha]
      simp only [e, List.getElem_cons_zero]
      simpa using ha

theorem find_pre (n : Nat) (L : B) : ∀ os : List B, (∀ o ∈ os, o.length = n) → os.find? (fun o => o.isPrefixOf L) = if os.contains (L.take n) then some (L.take n) else none
  | [], _ => by simp
  | o :: os, h => by
    have ho := h o (List.mem_cons_self ..)
    have ih := find_pre n L os fun x hx => h x (List.mem_cons_of_mem _ hx)
    by_cases he : o = L.take n
    · have hp : o.isPrefixOf L = true := by rw [List.isPrefixOf_iff_prefix, List.prefix_iff_eq_take, ho]; exact he
      simp only [List.find?, hp]
      simp [← he]
    · have hp : ¬ o.isPrefixOf L = true := by rw [List.isPrefixOf_iff_prefix, List.prefix_iff_eq_take, ho]; exact he
      have hp' : o.isPrefixOf L = false := Bool.eq_false_iff.2 hp
      simp only [List.find?, hp']
      rw [ih]
      simp [Ne.symm he]

theorem find_ops (L : B) : ops.find? (fun o => o.isPrefixOf L) = if two.contains (L.take 2) then some (L.take 2) else if sing.contains (L.take 1) then some (L.take 1) else none := by
  rw [show ops = two ++ sing from rfl, List.find?_append, find_pre 2 L two (by decide), find_pre 1 L sing (by decide)]
  by_cases h : two.contains (L.take 2) = true
  · rw [if_pos h, if_pos h]; rfl
  · rw [if_neg h, if_neg h]; rfl
theorem two_len {L : B} (h : two.contains (L.take 2) = true) : 1 < L.length := by
  have h1 : L.take 2 ∈ two := by simpa using h
  have h2 : (L.take 2).length = 2 := (show ∀ o ∈ two, o.length = 2 by decide) _ h1
  rw [List.length_take] at h2
  omega

/-- The document's answer's token is the program's, or there is none. -/
theorem refTok_one (L : B) (h : L ≠ []) : ((one L).2 = true → refTok L = (one L).1 ∧ (one L).1.kind ≠ []) ∧ ((one L).2 = false → refTok L = ⟨[], [], 0⟩) := by
  cases L with
  | nil => exact absurd rfl h
  | cons c l =>
    by_cases hl : isLow c = true
    · have h2 := span_le isWd (c :: l)
      have h3 := take_len _ _ h2
      simp only [one, refTok, hl, if_true]
      by_cases hw : words.contains ((c :: l).take (span isWd (c :: l))) = true
      · simp only [hw, if_true]
        exact ⟨fun _ => ⟨trivial, by decide⟩, fun h => by cases h⟩
      · simp only [hw, if_false, Bool.false_eq_true, decide_eq_true_eq, decide_eq_false_iff_not, h3]
        exact ⟨fun h => ⟨by rw [if_pos h], by decide⟩, fun h => by rw [if_neg h]⟩
    · by_cases hd : isDig c = true
      · have h2 := span_le isDig (c :: l)
        have h3 := take_len _ _ h2
        have h1 : 1 ≤ span isDig (c :: l) := by rw [span_cons]; simp [hd]
        have hi := intOf_iff (take_all isDig (c :: l))
        have hh : ((c :: l).take (span isDig (c :: l))).headD 0 = c := by
          obtain ⟨k, hk⟩ : ∃ k, span isDig (c :: l) = k + 1 := ⟨_, (Nat.sub_add_cancel h1).symm⟩
          rw [hk]; rfl
        rw [hh, h3] at hi
        simp only [one, refTok, hl, hd, if_true, if_false, Bool.false_eq_true, h3]
        have hb : (decide (dval ((c :: l).take (span isDig (c :: l))) ≤ 127) && (decide (span isDig (c :: l) = 1) || !(c == 48))) = decide (0 ≤ intOf ((c :: l).take (span isDig (c :: l)))) := by
          rw [Bool.eq_iff_iff]
          simp only [Bool.and_eq_true, Bool.or_eq_true, decide_eq_true_eq, Bool.not_eq_true', beq_eq_false_iff_ne]
          rw [hi]
          constructor
          · rintro ⟨a, b⟩
            exact ⟨a, b.imp (fun h => by omega) id⟩
          · rintro ⟨a, b⟩
            exact ⟨a, b.imp (fun h => by omega) id⟩
        rw [hb]
        simp only [decide_eq_true_eq, decide_eq_false_iff_not]
        exact ⟨fun h => ⟨by rw [if_pos h], by decide⟩, fun h => by rw [if_neg h]⟩
      · simp only [one, refTok, hl, hd, if_false, Bool.false_eq_true]
        rw [find_ops]
        by_cases h2 : two.contains ((c :: l).take 2) = true
        · have h2l := two_len h2
          simp only [h2, h2l, and_self, if_true]
          exact ⟨fun _ => ⟨trivial, by unfold kOp; simp⟩, fun h => by cases h⟩
        · by_cases h1 : sing.contains ((c :: l).take 1) = true
          · simp only [h2, h1, and_false, if_true, if_false, Bool.false_eq_true]
            exact ⟨fun _ => ⟨trivial, by unfold kOp; simp⟩, fun h => by cases h⟩
          · simp only [h2, h1, and_false, if_false, Bool.false_eq_true]
            exact ⟨(fun h => by cases h), fun _ => trivial⟩

/-- lustrumref1.LexOf from a place on. -/
def refN : Nat → B → Nat → Except Nat (List Tk)
  | 0, _, _ => .ok []
  | f + 1, s, k =>
    if k < s.length then
      if isBl (s.getD k 0) then refN f s (k + 1)
      else if [45, 45].isPrefixOf (s.drop k) then refN f s (k + span notNL (s.drop k))
      else if (refTok (s.drop k)).kind = [] then .error k
      else match refN f s (k + (refTok (s.drop k)).text.length) with
        | .ok l => .ok (⟨(refTok (s.drop k)).kind, (refTok (s.drop k)).text, k⟩ :: l)
        | .error a => .error a
    else .ok [⟨kEnd, [], s.length⟩]

theorem gap_blank (c : UInt8) (l : B) (h : isBl c = true) : gap (c :: l) = 1 + gap l := by
  have e : gap1 (c :: l) = 1 + gap1 l := by
    have hs : span isBl (c :: l) = span isBl l + 1 := by rw [span_cons, if_pos h]
    unfold gap1
    rw [hs, List.drop_succ_cons]
    split <;> omega
  rw [gap_eq (c :: l), e, if_neg (by omega)]
  rw [gap_eq l]
  by_cases h0 : gap1 l = 0
  · rw [if_pos h0, h0]
    show 1 + 0 + gap l = 1 + 0
    rw [gap_eq l, if_pos h0]
  · rw [if_neg h0, show 1 + gap1 l = gap1 l + 1 from by omega, List.drop_succ_cons]
    omega
theorem gap_none (l : B) (h : ∀ c l', l = c :: l' → isBl c = false) (hp : [45, 45].isPrefixOf l = false) : gap l = 0 := by
  have hs : span isBl l = 0 := by
    cases l with
    | nil => rfl
    | cons c l => rw [span_cons, h c l rfl]; rfl
  rw [gap_eq, if_pos]
  unfold gap1
  rw [hs, List.drop_zero, hp]
  rfl
theorem gap_comment (l : B) (h : ∀ c l', l = c :: l' → isBl c = false) (hp : [45, 45].isPrefixOf l = true) : 0 < span notNL l ∧ gap l = span notNL l + gap (l.drop (span notNL l)) := by
  have hs : span isBl l = 0 := by
    cases l with
    | nil => rfl
    | cons c l => rw [span_cons, h c l rfl]; rfl
  have hpos : 0 < span notNL l := by
    cases l with
    | nil => simp at hp
    | cons c l =>
      simp only [List.isPrefixOf, Bool.and_eq_true, beq_iff_eq] at hp
      rw [span_cons, ← hp.1]
      simp [notNL]
  have e : gap1 l = span notNL l := by
    unfold gap1
    rw [hs, List.drop_zero, hp]
    simp
  refine ⟨hpos, ?_⟩
  rw [gap_eq l, e, if_neg (by omega)]

/-- THE LAW: the document's answer reads what the program reads. -/
theorem refN_eq (s : B) : ∀ f k, s.length + 1 - k ≤ f → k ≤ s.length → refN f s k = lexAt s (k + gap (s.drop k)) := by
  intro f
  induction f with
  | zero => intro k h1 h2; omega
  | succ f ih =>
    intro k h1 h2
    by_cases hk : k < s.length
    · have hcons : s.drop k = s.getD k 0 :: s.drop (k + 1) := by
        rw [List.drop_eq_getElem_cons hk, List.getD_eq_getElem?_getD, List.getElem?_eq_getElem hk]; rfl
      simp only [refN, if_pos hk]
      by_cases hb : isBl (s.getD k 0) = true
      · rw [if_pos hb, ih (k + 1) (by omega) (by omega), hcons, gap_blank _ _ hb]
        congr 1; omega
      · rw [if_neg hb]
        have hbl : ∀ c l', s.drop k = c :: l' → isBl c = false := by
          intro c l' e
          rw [hcons] at e
          injection e with e1 _
          rw [← e1]; simpa using hb
        by_cases hp : [45, 45].isPrefixOf (s.drop k) = true
        · rw [if_pos hp]
          obtain ⟨h0, hg⟩ := gap_comment _ hbl hp
          have hle := span_le notNL (s.drop k)
          rw [List.length_drop] at hle
          rw [ih _ (by omega) (by omega), hg, List.drop_drop]
          congr 1; omega
        · rw [if_neg hp]
          have hp' : [45, 45].isPrefixOf (s.drop k) = false := Bool.eq_false_iff.2 hp
          rw [gap_none _ hbl hp', Nat.add_zero]
          have hne : s.drop k ≠ [] := by rw [hcons]; simp
          obtain ⟨ho1, ho2⟩ := refTok_one (s.drop k) hne
          cases ho : (one (s.drop k)).2
          · rw [ho2 ho, if_pos rfl, lexAt_bad hk ho]
          · obtain ⟨e, hkd⟩ := ho1 ho
            have hn := nextAt_le hk ho
            rw [e, if_neg hkd, ih _ (by unfold nextAt at hn; have := (one_ok ho).1; omega) (by omega), lexAt_step hk ho]
            rfl
    · have hk' : k = s.length := by omega
      subst hk'
      have hg : gap ([] : B) = 0 := rfl
      simp only [refN, if_neg (Nat.lt_irrefl _), List.drop_length, hg]
      exact (lexAt_end (by omega) (by omega)).symm
theorem refN_all (s : B) : refN (s.length + 1) s 0 = lexAll s := by
  rw [refN_eq s _ 0 (by omega) (by omega)]
  simp [lexAll]
end Go.Proofs.YtminjdmgfiellaaDoor.Lx
