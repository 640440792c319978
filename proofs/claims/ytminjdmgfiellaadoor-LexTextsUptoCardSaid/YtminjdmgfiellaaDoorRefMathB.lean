/- Plain law: the document's answer's tokens from a place on. -/
import Derived.Test.YtminjdmgfiellaaDoorRefMath
namespace Go.Proofs.YtminjdmgfiellaaDoor.Lx

/-- From a place on. -/
def refAt (s : B) (k : Nat) : Except Nat (List Tk) := refN (s.length + 1 - k) s k
theorem refAt_lex {s : B} {k : Nat} (hk : k ≤ s.length) : refAt s k = lexAt s (k + gap (s.drop k)) := refN_eq s _ k (Nat.le_refl _) hk
theorem refAt_start (s : B) : refAt s 0 = lexAll s := by
  rw [refAt_lex (Nat.zero_le _), List.drop_zero, Nat.zero_add]; rfl
theorem refAt_end (s : B) : refAt s s.length = .ok [⟨kEnd, [], s.length⟩] := by
  have hg : gap ([] : B) = 0 := rfl
  rw [refAt_lex (Nat.le_refl _), List.drop_length, hg]
  exact lexAt_end (by omega) (by omega)
theorem refAt_blank {s : B} {k : Nat} {c : UInt8} (hk : k < s.length) (hc : s.drop k = c :: s.drop (k + 1)) (hb : isBl c = true) : refAt s k = refAt s (k + 1) := by
  rw [refAt_lex (by omega), refAt_lex (by omega), hc, gap_blank _ _ hb]
  congr 1; omega
theorem not_blank {s : B} {k : Nat} {c : UInt8} (hc : s.drop k = c :: s.drop (k + 1)) (hb : isBl c = false) : ∀ c' l', s.drop k = c' :: l' → isBl c' = false := by
  intro c' l' e
  rw [hc] at e
  injection e with e1 _
  rw [← e1]; exact hb
theorem refAt_comment {s : B} {k : Nat} {c : UInt8} (hk : k < s.length) (hc : s.drop k = c :: s.drop (k + 1)) (hb : isBl c = false) (hp : [45, 45].isPrefixOf (s.drop k) = true) :
    0 < span notNL (s.drop k) ∧ k + span notNL (s.drop k) ≤ s.length ∧ refAt s k = refAt s (k + span notNL (s.drop k)) := by
  obtain ⟨h0, hg⟩ := gap_comment _ (not_blank hc hb) hp
  have hle := span_le notNL (s.drop k)
  rw [List.length_drop] at hle
  refine ⟨h0, by omega, ?_⟩
  rw [refAt_lex (by omega), refAt_lex (by omega), hg, List.drop_drop]
  congr 1; omega
theorem pos_ite {p : Prop} [Decidable p] {a b : Tk} (ha : a.pos = 0) (hb : b.pos = 0) : (if p then a else b).pos = 0 := by
  split
  · exact ha
  · exact hb
theorem refTok_pos (l : B) : (refTok l).pos = 0 := by
  cases l with
  | nil => rfl
  | cons c l =>
    unfold refTok
    exact pos_ite (pos_ite rfl (pos_ite rfl rfl)) (pos_ite (pos_ite rfl rfl) (pos_ite rfl (pos_ite rfl rfl)))
theorem refAt_bad {s : B} {k : Nat} {c : UInt8} (hk : k < s.length) (hc : s.drop k = c :: s.drop (k + 1)) (hb : isBl c = false) (hp : [45, 45].isPrefixOf (s.drop k) = false) (ht : (refTok (s.drop k)).kind = []) : refAt s k = .error k := by
  rw [refAt_lex (by omega), gap_none _ (not_blank hc hb) hp]
  cases ho : (one (s.drop k)).2
  · exact lexAt_bad hk ho
  · obtain ⟨e, hkd⟩ := (refTok_one (s.drop k) (by rw [hc]; simp)).1 ho
    rw [e] at ht
    exact absurd ht hkd
theorem refAt_tok {s : B} {k : Nat} {c : UInt8} (hk : k < s.length) (hc : s.drop k = c :: s.drop (k + 1)) (hb : isBl c = false) (hp : [45, 45].isPrefixOf (s.drop k) = false) (ht : (refTok (s.drop k)).kind ≠ []) :
    1 ≤ (refTok (s.drop k)).text.length ∧ k + (refTok (s.drop k)).text.length ≤ s.length ∧
      ∀ acc, onto acc (refAt s k) = onto (acc ++ [⟨(refTok (s.drop k)).kind, (refTok (s.drop k)).text, k⟩]) (refAt s (k + (refTok (s.drop k)).text.length)) := by
  obtain ⟨h1, h2⟩ := refTok_one (s.drop k) (by rw [hc]; simp)
  cases ho : (one (s.drop k)).2
  · rw [h2 ho] at ht
    exact absurd rfl ht
  · obtain ⟨e, hkd⟩ := h1 ho
    have hn := nextAt_le hk ho
    have h3 := (one_ok ho).1
    rw [e]
    refine ⟨h3, hn.2.2, fun acc => ?_⟩
    rw [refAt_lex (by omega), gap_none _ (not_blank hc hb) hp, Nat.add_zero, refAt_lex hn.2.2, onto_step hk ho acc]
    rfl
end Go.Proofs.YtminjdmgfiellaaDoor.Lx
