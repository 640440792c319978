/- Plain law: the text of tokens. -/
import Derived.Test.YtminjdmgfiellaaDoorRefMathB
namespace Go.Proofs.YtminjdmgfiellaaDoor.Lx

/-- A token that came in. -/
structure TI where
  kind : B
  text : B
  at_ : Int
def ktk (t : Tk) : B × B := (t.kind, t.text)
def kti (t : TI) : B × B := (t.kind, t.text)
/-- Texts, a blank between each and the next. -/
def joinT : List TI → B
  | [] => []
  | t :: r => t.text ++ r.flatMap fun x => 32 :: x.text
theorem joinT_snoc (l : List TI) (t : TI) : joinT (l ++ [t]) = if l = [] then t.text else joinT l ++ 32 :: t.text := by
  cases l with
  | nil => simp [joinT]
  | cons a r => simp [joinT, List.flatMap_append]
theorem joinT_take {l : List TI} {k : Nat} (h : k < l.length) : joinT (l.take (k + 1)) = if k = 0 then l[k].text else joinT (l.take k) ++ 32 :: l[k].text := by
  rw [List.take_succ_eq_append_getElem h, joinT_snoc]
  by_cases hk : k = 0
  · subst hk; simp
  · have : l.take k ≠ [] := by
      intro e
      have := congrArg List.length e
      rw [List.length_take, List.length_nil] at this
      omega
    rw [if_neg this, if_neg hk]
theorem joinT_step {l : List TI} {k : Nat} (h : k < l.length) : (joinT (l.take k)).length ≤ (joinT (l.take (k + 1))).length := by
  rw [joinT_take h]
  by_cases hk : k = 0
  · subst hk; simp [joinT]
  · rw [if_neg hk]; simp
theorem joinT_mono {l : List TI} : ∀ (d k : Nat), k + d ≤ l.length → (joinT (l.take k)).length ≤ (joinT (l.take (k + d))).length
  | 0, k, _ => Nat.le_refl _
  | d + 1, k, h => Nat.le_trans (joinT_mono d k (by omega)) (joinT_step (by omega))

/-- Tokens that have a text. -/
def good (l : List TI) : Prop := (joinT l.dropLast).length ≤ 6000 ∧ ∃ m, lexAll (joinT l.dropLast) = .ok m ∧ m.map ktk = l.map kti
theorem lexN_last (f : Nat) : ∀ s k l, s.length + 1 - k ≤ f → k ≤ s.length → lexN f s k = .ok l → ∃ r, l = r ++ [⟨kEnd, [], s.length⟩] := by
  induction f with
  | zero => intro s k l h1 h2; omega
  | succ f ih =>
    intro s k l h1 h2 h
    simp only [lexN] at h
    split at h
    · rename_i hk
      split at h
      · rename_i ho
        have hn := nextAt_le hk ho
        unfold nextAt at hn
        split at h
        · rename_i l' hl'
          cases h
          obtain ⟨r, hr⟩ := ih s _ l' (by omega) (by omega) hl'
          exact ⟨_ :: r, by rw [hr]; rfl⟩
        · cases h
      · cases h
    · cases h; exact ⟨[], rfl⟩
theorem lexAll_last {s : B} {l : List Tk} (h : lexAll s = .ok l) : ∃ r, l = r ++ [⟨kEnd, [], s.length⟩] := lexN_last _ s _ l (Nat.le_refl _) (gap_le s) h
/-- Tokens that are read again end with an end. -/
theorem same_end {s : B} {m : List Tk} {l : List TI} (h : lexAll s = .ok m) (he : m.map ktk = l.map kti) : ∃ h0 : 0 < l.length, l[l.length - 1].kind = kEnd ∧ l[l.length - 1].text = [] := by
  obtain ⟨r, rfl⟩ := lexAll_last h
  have hl : l.length = r.length + 1 := by have := congrArg List.length he; simpa using this.symm
  have h0 : 0 < l.length := by omega
  refine ⟨h0, ?_⟩
  have e : (l.map kti)[l.length - 1]? = some (kEnd, []) := by
    rw [← he, hl]
    simp [ktk]
  rw [List.getElem?_map, List.getElem?_eq_getElem (by omega)] at e
  have e' := Option.some.inj e
  exact ⟨congrArg Prod.fst e', congrArg Prod.snd e'⟩
theorem good_end {l : List TI} (h : good l) : ∃ h0 : 0 < l.length, l[l.length - 1].kind = kEnd ∧ l[l.length - 1].text = [] := by
  obtain ⟨_, m, h1, h2⟩ := h
  exact same_end h1 h2
theorem dropLast_take (l : List TI) : l.dropLast = l.take (l.length - 1) := List.dropLast_eq_take
/-- Too long so far, and not at the end that is left out: no text. -/
theorem not_good_long {l : List TI} {k : Nat} (hk : k < l.length) (hne : ¬ (k = l.length - 1 ∧ l[k].kind = kEnd ∧ l[k].text = [])) (h : 6000 < (joinT (l.take (k + 1))).length) : ¬ good l := by
  intro g
  obtain ⟨h0, e1, e2⟩ := good_end g
  have h1 := g.1
  rw [dropLast_take] at h1
  by_cases hl : k = l.length - 1
  · refine hne ⟨hl, ?_⟩
    subst hl
    exact ⟨e1, e2⟩
  · have := joinT_mono (l := l) (l.length - 1 - (k + 1)) (k + 1) (by omega)
    rw [show k + 1 + (l.length - 1 - (k + 1)) = l.length - 1 from by omega] at this
    omega
theorem not_good_end {l : List TI} (hne : ¬ ∃ h0 : 0 < l.length, l[l.length - 1].kind = kEnd ∧ l[l.length - 1].text = []) : ¬ good l := fun g => hne (good_end g)
end Go.Proofs.YtminjdmgfiellaaDoor.Lx
