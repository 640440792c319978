/- Plain law of lexing: lists of bytes alone, no program in sight. -/
namespace Go.Proofs.YtminjdmgfiellaaDoor.Lx
abbrev B := List UInt8

def isLow (c : UInt8) : Bool := decide (97 ≤ c.toNat) && decide (c.toNat ≤ 122)
def isDig (c : UInt8) : Bool := decide (48 ≤ c.toNat) && decide (c.toNat ≤ 57)
def isBl (c : UInt8) : Bool := c == 32 || c == 10
def isWd (c : UInt8) : Bool := isLow c || isDig c || c == 95
def notNL (c : UInt8) : Bool := !(c == 10)

def span (p : UInt8 → Bool) (l : B) : Nat := (l.takeWhile p).length

theorem span_le (p : UInt8 → Bool) (l : B) : span p l ≤ l.length := by
  unfold span
  induction l with
  | nil => simp
  | cons c l ih => simp only [List.takeWhile]; split <;> simp <;> omega

theorem span_nil (p : UInt8 → Bool) : span p [] = 0 := rfl
theorem span_cons (p : UInt8 → Bool) (c : UInt8) (l : B) : span p (c :: l) = if p c then span p l + 1 else 0 := by
  unfold span; simp only [List.takeWhile]; split <;> simp_all

/-- One round of a gap. -/
def gap1 (l : B) : Nat :=
  if [45, 45].isPrefixOf (l.drop (span isBl l)) then span isBl l + span notNL (l.drop (span isBl l)) else span isBl l

theorem gap1_def {l : B} {k : Nat} (h : span isBl l = k) : gap1 l = if [45, 45].isPrefixOf (l.drop k) then k + span notNL (l.drop k) else k := by
  unfold gap1; rw [h]

theorem gap1_le (l : B) : gap1 l ≤ l.length := by
  unfold gap1
  have h1 := span_le isBl l
  have h2 := span_le notNL (l.drop (span isBl l))
  simp only [List.length_drop] at h2
  split <;> omega

def gapN : Nat → B → Nat
  | 0, _ => 0
  | f + 1, l => if gap1 l = 0 then 0 else gap1 l + gapN f (l.drop (gap1 l))

def gap (l : B) : Nat := gapN l.length l

theorem gapN_le (f : Nat) : ∀ l, gapN f l ≤ l.length := by
  induction f with
  | zero => intro l; simp [gapN]
  | succ f ih =>
    intro l
    simp only [gapN]
    have h1 := gap1_le l
    have h2 := ih (l.drop (gap1 l))
    simp only [List.length_drop] at h2
    split <;> omega

theorem gap_le (l : B) : gap l ≤ l.length := gapN_le _ _

theorem gapN_fuel (f : Nat) : ∀ g l, l.length ≤ f → l.length ≤ g → gapN f l = gapN g l := by
  induction f with
  | zero =>
    intro g l h _
    have : l = [] := List.eq_nil_of_length_eq_zero (by omega)
    subst this
    cases g with
    | zero => rfl
    | succ g => simp [gapN, gap1, span]
  | succ f ih =>
    intro g l h h'
    cases g with
    | zero =>
      have : l = [] := List.eq_nil_of_length_eq_zero (by omega)
      subst this
      simp [gapN, gap1, span]
    | succ g =>
      simp only [gapN]
      split
      · rfl
      · have h1 := gap1_le l
        rw [ih g (l.drop (gap1 l)) (by simp only [List.length_drop]; omega) (by simp only [List.length_drop]; omega)]

theorem gap_eq (l : B) : gap l = if gap1 l = 0 then 0 else gap1 l + gap (l.drop (gap1 l)) := by
  unfold gap
  cases hl : l.length with
  | zero =>
    have : l = [] := List.eq_nil_of_length_eq_zero hl
    subst this
    simp [gapN, gap1, span]
  | succ n =>
    rw [gapN]
    split
    · rfl
    · have h1 := gap1_le l
      rw [gapN_fuel n _ (l.drop (gap1 l)) (by simp only [List.length_drop]; omega) (Nat.le_refl _)]

/-- A token: kind, text, place. -/
structure Tk where
  kind : B
  text : B
  pos : Nat
deriving DecidableEq

def kWord : B := [119, 111, 114, 100]
def kName : B := [110, 97, 109, 101]
def kInt : B := [105, 110, 116]
def kOp : B := [111, 112]
def kEnd : B := [101, 110, 100]

def words : List B := [[97,110,100],[97,115,115,101,114,116],[98,111,111,108],[99,104,101,99,107],[101,108,115,101],[102,97,108,115,101],[102,98,121],[105,102],[105,110,116],[108,101,116],[109,111,100],[110,111,100,101],[110,111,116],[111,114],[112,114,101],[114,101,116,117,114,110,115],[116,101,108],[116,104,101,110],[116,114,117,101],[118,97,114],[120,111,114]]
def ops : List B := [[60,62],[60,61],[62,61],[61,62],[45,62],[40],[41],[44],[59],[58],[61],[60],[62],[43],[45],[42],[47]]

def dvalA : Nat → B → Nat
  | a, [] => a
  | a, c :: l => dvalA (10 * a + (c.toNat - 48)) l
def dval (l : B) : Nat := dvalA 0 l

/-- One token, and whether there is one (its place is 0). -/
def one : B → Tk × Bool
  | [] => (⟨[], [], 0⟩, false)
  | c :: l =>
    if isLow c then
      let t := (c :: l).take (span isWd (c :: l))
      if words.contains t then (⟨kWord, t, 0⟩, true) else (⟨kName, t, 0⟩, decide (t.length ≤ 12))
    else if isDig c then
      let t := (c :: l).take (span isDig (c :: l))
      (⟨kInt, t, 0⟩, decide (dval t ≤ 127) && (decide (t.length = 1) || !(c == 48)))
    else match ops.find? (fun o => o.isPrefixOf (c :: l)) with
      | some o => (⟨kOp, o, 0⟩, true)
      | none => (⟨[], [], 0⟩, false)

theorem take_len (n : Nat) (l : B) (h : n ≤ l.length) : (l.take n).length = n := by rw [List.length_take]; omega

/-- A token's text is not empty, and the text begins with it. -/
theorem one_ok {l : B} (h : (one l).2 = true) : 1 ≤ (one l).1.text.length ∧ (one l).1.text.length ≤ l.length ∧ (one l).1.text = l.take (one l).1.text.length := by
  cases l with
  | nil => simp [one] at h
  | cons c l =>
    by_cases hl : isLow c = true
    · have h1 : 1 ≤ span isWd (c :: l) := by rw [span_cons]; simp [isWd, hl]
      have h2 := span_le isWd (c :: l)
      have h3 := take_len _ _ h2
      simp only [one, hl, if_true]
      split <;> (dsimp only; rw [h3]; exact ⟨h1, h2, rfl⟩)
    · by_cases hd : isDig c = true
      · have h1 : 1 ≤ span isDig (c :: l) := by rw [span_cons]; simp [hd]
        have h2 := span_le isDig (c :: l)
        have h3 := take_len _ _ h2
        simp only [one, hl, hd, if_true, if_false, Bool.false_eq_true]
        rw [h3]; exact ⟨h1, h2, rfl⟩
      · simp only [one, hl, hd, if_false, Bool.false_eq_true] at h ⊢
        cases hf : ops.find? (fun o => o.isPrefixOf (c :: l)) with
        | none => rw [hf] at h; simp at h
        | some o =>
          dsimp only
          have hp := List.find?_some hf
          have hm := List.mem_of_find?_eq_some hf
          rw [List.isPrefixOf_iff_prefix] at hp
          refine ⟨?_, hp.length_le, ?_⟩
          · have : ∀ o ∈ ops, 1 ≤ o.length := by decide
            exact this o hm
          · exact List.prefix_iff_eq_take.1 hp

/-- The tokens of a text from a place on; an error: at which place. -/
def lexN : Nat → B → Nat → Except Nat (List Tk)
  | 0, _, _ => .ok []
  | f + 1, s, k =>
    if k < s.length then
      if (one (s.drop k)).2 then
        match lexN f s (k + (one (s.drop k)).1.text.length + gap (s.drop (k + (one (s.drop k)).1.text.length))) with
        | .ok l => .ok (⟨(one (s.drop k)).1.kind, (one (s.drop k)).1.text, k⟩ :: l)
        | .error a => .error a
      else .error k
    else .ok [⟨kEnd, [], s.length⟩]
def lexAt (s : B) (k : Nat) : Except Nat (List Tk) := lexN (s.length + 1 - k) s k
/-- The tokens of a text; an error: the place. -/
def lexAll (s : B) : Except Nat (List Tk) := lexAt s (gap s)

/-- Where the next token begins. -/
def nextAt (s : B) (k : Nat) : Nat := k + (one (s.drop k)).1.text.length + gap (s.drop (k + (one (s.drop k)).1.text.length))
theorem nextAt_le {s : B} {k : Nat} (hk : k < s.length) (h : (one (s.drop k)).2 = true) : k < nextAt s k ∧ nextAt s k ≤ s.length ∧ k + (one (s.drop k)).1.text.length ≤ s.length := by
  have h1 := one_ok h
  have h2 := gap_le (s.drop (k + (one (s.drop k)).1.text.length))
  simp only [List.length_drop] at h1 h2
  unfold nextAt
  omega
theorem lexAt_end {s : B} {k : Nat} (h : s.length ≤ k) (hk : k ≤ s.length) : lexAt s k = .ok [⟨kEnd, [], s.length⟩] := by
  unfold lexAt
  rw [show s.length + 1 - k = 1 from by omega]
  simp only [lexN, if_neg (show ¬ k < s.length from by omega)]
theorem lexAt_bad {s : B} {k : Nat} (hk : k < s.length) (h : (one (s.drop k)).2 = false) : lexAt s k = .error k := by
  unfold lexAt
  rw [show s.length + 1 - k = (s.length - k) + 1 from by omega]
  simp only [lexN, if_pos hk, h, if_false, Bool.false_eq_true]
theorem lexN_fuel (f : Nat) : ∀ g s k, s.length + 1 - k ≤ f → s.length + 1 - k ≤ g → k ≤ s.length → lexN f s k = lexN g s k := by
  induction f with
  | zero => intro g s k h1 h2 h3; omega
  | succ f ih =>
    intro g s k h1 h2 h3
    cases g with
    | zero => omega
    | succ g =>
      simp only [lexN]
      by_cases hk : k < s.length
      · rw [if_pos hk, if_pos hk]
        by_cases ho : (one (s.drop k)).2 = true
        · rw [if_pos ho, if_pos ho]
          have := nextAt_le hk ho
          unfold nextAt at this
          rw [ih g s _ (by omega) (by omega) (by omega)]
        · rw [if_neg ho, if_neg ho]
      · rw [if_neg hk, if_neg hk]
theorem lexAt_step {s : B} {k : Nat} (hk : k < s.length) (h : (one (s.drop k)).2 = true) :
    lexAt s k = match lexAt s (nextAt s k) with | .ok l => .ok (⟨(one (s.drop k)).1.kind, (one (s.drop k)).1.text, k⟩ :: l) | .error a => .error a := by
  have hn := nextAt_le hk h
  unfold lexAt
  rw [show s.length + 1 - k = (s.length - k) + 1 from by omega]
  simp only [lexN, if_pos hk, h, if_true]
  rw [lexN_fuel (s.length - k) (s.length + 1 - nextAt s k) s _ (by unfold nextAt at hn; omega) (by unfold nextAt; omega) (by unfold nextAt at hn; omega)]
  rfl
/-- What has been read so far ahead of the rest. -/
def onto (acc : List Tk) : Except Nat (List Tk) → Except Nat (List Tk)
  | .ok l => .ok (acc ++ l)
  | .error a => .error a
theorem onto_step {s : B} {k : Nat} (hk : k < s.length) (h : (one (s.drop k)).2 = true) (acc : List Tk) :
    onto acc (lexAt s k) = onto (acc ++ [⟨(one (s.drop k)).1.kind, (one (s.drop k)).1.text, k⟩]) (lexAt s (nextAt s k)) := by
  rw [lexAt_step hk h]
  cases lexAt s (nextAt s k) with
  | ok l => simp [onto]
  | error a => simp [onto]
theorem onto_nil (r : Except Nat (List Tk)) : onto [] r = r := by cases r <;> rfl
end Go.Proofs.YtminjdmgfiellaaDoor.Lx
