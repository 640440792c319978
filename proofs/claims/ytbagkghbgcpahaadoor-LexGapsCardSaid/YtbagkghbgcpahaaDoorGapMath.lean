/- Plain law of LexGaps: what stands between tokens changes none. -/
import Derived.Test.YtbagkghbgcpahaaDoorLexMath
namespace Go.Proofs.YtbagkghbgcpahaaDoor.Lx

/-- A text at which no gap begins. -/
def NoGap (r : B) : Prop := span isBl r = 0 ∧ [45, 45].isPrefixOf r = false
theorem gap_none {r : B} (h : NoGap r) : gap r = 0 := by
  rw [gap_eq, gap1_def h.1]
  simp [h.2]
/-- The rest is empty or begins with a blank or a new line. -/
def Blank (r : B) : Prop := r = [] ∨ ∃ q, r = 32 :: q ∨ r = 10 :: q

def gaps : List B := [[32, 32], [10], [32, 45, 45, 120, 10], [10, 10, 45, 45, 10, 32]]
theorem gaps_blank {g : B} (hg : g ∈ gaps) (r : B) : Blank (g ++ r) := by
  simp only [gaps, List.mem_cons, List.not_mem_nil, or_false] at hg
  rcases hg with rfl | rfl | rfl | rfl
  · exact .inr ⟨_, .inl rfl⟩
  · exact .inr ⟨_, .inr rfl⟩
  · exact .inr ⟨_, .inl rfl⟩
  · exact .inr ⟨_, .inr rfl⟩
theorem gap_blanks (bl : B) (hb : ∀ c ∈ bl, isBl c = true) (r : B) (h : NoGap r) : gap (bl ++ r) = bl.length := by
  have hs : span isBl (bl ++ r) = bl.length := by
    induction bl with
    | nil => exact h.1
    | cons c bl ih =>
      rw [List.cons_append, span_cons, if_pos (hb c (by simp)), ih (fun x hx => hb x (by simp [hx]))]
      rfl
  have hd : (bl ++ r).drop bl.length = r := by simp
  have h1 : gap1 (bl ++ r) = bl.length := by rw [gap1_def hs, hd, h.2]; rfl
  rw [gap_eq, h1, hd, gap_none h]
  split <;> omega
theorem gap_gaps {g : B} (hg : g ∈ gaps) (r : B) (h : NoGap r) : gap (g ++ r) = g.length := by
  simp only [gaps, List.mem_cons, List.not_mem_nil, or_false] at hg
  rcases hg with rfl | rfl | rfl | rfl
  · exact gap_blanks [32, 32] (by decide) r h
  · exact gap_blanks [10] (by decide) r h
  · have h1 : gap1 ([32, 45, 45, 120, 10] ++ r) = 4 := by
      have hs : span isBl ([32, 45, 45, 120, 10] ++ r) = 1 := rfl
      rw [gap1_def hs]; rfl
    rw [gap_eq, h1]
    show (if 4 = 0 then 0 else 4 + gap ([10] ++ r)) = 5
    rw [gap_blanks [10] (by decide) r h]; rfl
  · have h1 : gap1 ([10, 10, 45, 45, 10, 32] ++ r) = 4 := by
      have hs : span isBl ([10, 10, 45, 45, 10, 32] ++ r) = 2 := rfl
      rw [gap1_def hs]; rfl
    rw [gap_eq, h1]
    show (if 4 = 0 then 0 else 4 + gap ([10, 32] ++ r)) = 6
    rw [gap_blanks [10, 32] (by decide) r h]; rfl

/-- A token that stands by itself. -/
def Good (t : Tk) : Prop := ∃ r, one (t.text ++ r) = (⟨t.kind, t.text, 0⟩, true)

theorem span_append (p : UInt8 → Bool) (t r : B) (ht : ∀ c ∈ t, p c = true) (hr : span p r = 0) : span p (t ++ r) = t.length := by
  induction t with
  | nil => exact hr
  | cons c t ih =>
    rw [List.cons_append, span_cons, if_pos (ht c (by simp)), ih (fun x hx => ht x (by simp [hx]))]
    rfl
theorem span_all' (p : UInt8 → Bool) (l : B) : ∀ c ∈ l.take (span p l), p c = true := by
  unfold span
  induction l with
  | nil => intro c h; simp at h
  | cons a l ih =>
    intro c h
    by_cases ha : p a = true
    · simp only [List.takeWhile, ha, List.length_cons, List.take_succ_cons, List.mem_cons] at h
      rcases h with rfl | h
      · exact ha
      · exact ih c h
    · simp [List.takeWhile, ha] at h
theorem blank_span {p : UInt8 → Bool} (h1 : p 32 = false) (h2 : p 10 = false) {r : B} (h : Blank r) : span p r = 0 := by
  rcases h with rfl | ⟨q, rfl | rfl⟩
  · rfl
  · rw [span_cons, h1]; rfl
  · rw [span_cons, h2]; rfl

theorem ops_alone : ∀ o ∈ ops, ∀ r, Blank r → one (o ++ r) = (⟨kOp, o, 0⟩, true) := by
  intro o ho r hr
  simp only [ops, List.mem_cons, List.not_mem_nil, or_false] at ho
  rcases hr with rfl | ⟨q, rfl | rfl⟩ <;> rcases ho with rfl | rfl | rfl | rfl | rfl | rfl | rfl | rfl | rfl | rfl | rfl | rfl | rfl | rfl | rfl | rfl | rfl <;> rfl

theorem good_alone {t : Tk} (h : Good t) {r : B} (hr : Blank r) : one (t.text ++ r) = (⟨t.kind, t.text, 0⟩, true) := by
  obtain ⟨q, hq⟩ := h
  obtain ⟨kd, tx, ps⟩ := t
  dsimp only at *
  have hok := one_ok (l := tx ++ q) (by rw [hq])
  rw [hq] at hok
  dsimp only at hok
  cases tx with
  | nil => simp at hok
  | cons c tx =>
    by_cases hl : isLow c = true
    · have hq' := hq
      simp only [List.cons_append, one, hl, if_true] at hq'
      have htx : (c :: (tx ++ q)).take (span isWd (c :: (tx ++ q))) = c :: tx := by
        split at hq' <;> (simp only [Prod.mk.injEq, Tk.mk.injEq] at hq'; exact hq'.1.2.1)
      have hall : ∀ x ∈ c :: tx, isWd x = true := by rw [← htx]; exact span_all' _ _
      have hs : span isWd (c :: (tx ++ r)) = (c :: tx).length := span_append isWd (c :: tx) r hall (blank_span (by decide) (by decide) hr)
      have ht2 : (c :: (tx ++ r)).take (c :: tx).length = c :: tx := by
        show ((c :: tx) ++ r).take _ = _
        rw [List.take_left]
      simp only [List.cons_append, one, hl, if_true, hs, ht2]
      rw [htx] at hq'
      exact hq'
    · by_cases hd : isDig c = true
      · have hq' := hq
        simp only [List.cons_append, one, hl, hd, if_true, if_false, Bool.false_eq_true] at hq'
        have htx : (c :: (tx ++ q)).take (span isDig (c :: (tx ++ q))) = c :: tx := by
          simp only [Prod.mk.injEq, Tk.mk.injEq] at hq'; exact hq'.1.2.1
        have hall : ∀ x ∈ c :: tx, isDig x = true := by rw [← htx]; exact span_all' _ _
        have hs : span isDig (c :: (tx ++ r)) = (c :: tx).length := span_append isDig (c :: tx) r hall (blank_span (by decide) (by decide) hr)
        have ht2 : (c :: (tx ++ r)).take (c :: tx).length = c :: tx := by
          show ((c :: tx) ++ r).take _ = _
          rw [List.take_left]
        simp only [List.cons_append, one, hl, hd, if_true, if_false, Bool.false_eq_true, hs, ht2]
        rw [htx] at hq'
        exact hq'
      · have hq' := hq
        simp only [List.cons_append, one, hl, hd, if_false, Bool.false_eq_true] at hq'
        cases hf : ops.find? (fun o => o.isPrefixOf (c :: (tx ++ q))) with
        | none => rw [hf] at hq'; simp at hq'
        | some o =>
          rw [hf] at hq'
          simp only [Prod.mk.injEq, Tk.mk.injEq] at hq'
          obtain ⟨⟨rfl, rfl, _⟩, _⟩ := hq'
          exact ops_alone _ (List.mem_of_find?_eq_some hf) r hr

theorem good_nogap {t : Tk} (h : Good t) {r : B} (hr : Blank r) : NoGap (t.text ++ r) := by
  have h1 := good_alone h hr
  obtain ⟨kd, tx, ps⟩ := t
  dsimp only at *
  have hok := one_ok (l := tx ++ r) (by rw [h1])
  rw [h1] at hok
  dsimp only at hok
  cases tx with
  | nil => simp at hok
  | cons c tx =>
    by_cases hb : isBl c = true
    · exfalso
      have : c = 32 ∨ c = 10 := by simpa [isBl] using hb
      rcases this with rfl | rfl
      · have : one (32 :: tx ++ r) = (⟨[], [], 0⟩, false) := rfl
        rw [this] at h1; simp at h1
      · have : one (10 :: tx ++ r) = (⟨[], [], 0⟩, false) := rfl
        rw [this] at h1; simp at h1
    · refine ⟨by rw [List.cons_append, span_cons]; simp [hb], ?_⟩
      by_cases hc : c = 45
      · subst hc
        cases tx with
        | nil => rcases hr with rfl | ⟨q, rfl | rfl⟩ <;> rfl
        | cons d tx =>
          by_cases hd : d = 45
          · exfalso
            subst hd
            have : one (45 :: 45 :: tx ++ r) = (⟨kOp, [45], 0⟩, true) := rfl
            rw [this] at h1; simp at h1
          · simp [List.isPrefixOf, Ne.symm hd]
      · simp [List.isPrefixOf, Ne.symm hc]

theorem one_pos (l : B) : (one l).1.pos = 0 := by
  cases l with
  | nil => rfl
  | cons c l =>
    by_cases hl : isLow c = true
    · simp only [one, hl, if_true]; split <;> rfl
    · by_cases hd : isDig c = true
      · simp only [one, hl, hd, if_true, if_false, Bool.false_eq_true]
      · simp only [one, hl, hd, if_false, Bool.false_eq_true]
        cases ops.find? (fun o => o.isPrefixOf (c :: l)) <;> rfl
theorem good_of_one {l : B} (h : (one l).2 = true) (k : Nat) : Good ⟨(one l).1.kind, (one l).1.text, k⟩ := by
  have h1 := one_ok h
  refine ⟨l.drop (one l).1.text.length, ?_⟩
  have e : (one l).1.text ++ l.drop (one l).1.text.length = l := by
    have := h1.2.2
    exact (congrArg (· ++ l.drop (one l).1.text.length) this).trans (List.take_append_drop _ _)
  show one ((one l).1.text ++ l.drop (one l).1.text.length) = (⟨(one l).1.kind, (one l).1.text, 0⟩, true)
  rw [e]
  have hp := one_pos l
  exact Prod.ext (by rw [← hp]) h
theorem lexN_good (f : Nat) : ∀ s k l, s.length + 1 - k ≤ f → k ≤ s.length → lexN f s k = .ok l → ∃ ts, l = ts ++ [⟨kEnd, [], s.length⟩] ∧ ∀ t ∈ ts, Good t := by
  induction f with
  | zero => intro s k l h1 h2; omega
  | succ f ih =>
    intro s k l h1 h2 h
    simp only [lexN] at h
    split at h
    · rename_i hk
      split at h
      · rename_i ho
        have hn := nextAt_le hk ho
        unfold nextAt at hn
        split at h
        · rename_i l' hl'
          cases h
          obtain ⟨ts, rfl, hg⟩ := ih s _ l' (by omega) (by omega) hl'
          refine ⟨_ :: ts, rfl, fun t ht => ?_⟩
          rcases List.mem_cons.1 ht with rfl | ht
          · exact good_of_one ho k
          · exact hg t ht
        · cases h
      · cases h
    · cases h
      exact ⟨[], rfl, by simp⟩
theorem lexAll_good {s : B} {l : List Tk} (h : lexAll s = .ok l) : ∃ ts, l = ts ++ [⟨kEnd, [], s.length⟩] ∧ ∀ t ∈ ts, Good t :=
  lexN_good _ s _ l (Nat.le_refl _) (gap_le s) h

/-- Tokens, each with a gap behind. -/
def body (g : B) (ts : List Tk) : B := ts.flatMap fun t => t.text ++ g
/-- Tokens, each with a gap ahead. -/
def ahead (g : B) (ts : List Tk) : B := ts.flatMap fun t => g ++ t.text
theorem ahead_body (g : B) (ts : List Tk) : ahead g ts ++ g = g ++ body g ts := by
  induction ts with
  | nil => simp [ahead, body]
  | cons t ts ih =>
    simp only [ahead, body, List.flatMap_cons, List.append_assoc] at *
    rw [ih]
theorem body_nogap {g : B} (hg : g ∈ gaps) {ts : List Tk} (h : ∀ t ∈ ts, Good t) : NoGap (body g ts) := by
  cases ts with
  | nil => exact ⟨rfl, rfl⟩
  | cons t ts =>
    have e : body g (t :: ts) = t.text ++ (g ++ body g ts) := by simp [body]
    rw [e]
    exact good_nogap (h t (by simp)) (gaps_blank hg _)
def kt (t : Tk) : B × B := (t.kind, t.text)
theorem lex_body {g : B} (hg : g ∈ gaps) : ∀ (ts : List Tk), (∀ t ∈ ts, Good t) → ∀ pre : B, ∃ m, lexAt (pre ++ body g ts) pre.length = .ok m ∧ m.map kt = ts.map kt ++ [(kEnd, [])]
  | [], _, pre => ⟨_, lexAt_end (by simp [body]) (by simp), rfl⟩
  | t :: ts, h, pre => by
    have ht := h t (by simp)
    have hts : ∀ t ∈ ts, Good t := fun x hx => h x (by simp [hx])
    have e : body g (t :: ts) = t.text ++ (g ++ body g ts) := by simp [body]
    have hd : (pre ++ body g (t :: ts)).drop pre.length = t.text ++ (g ++ body g ts) := by rw [e]; simp
    have ho := good_alone ht (gaps_blank hg (body g ts))
    have hok := one_ok (l := t.text ++ (g ++ body g ts)) (by rw [ho])
    rw [ho] at hok
    have hlt : pre.length < (pre ++ body g (t :: ts)).length := by
      rw [List.length_append, e, List.length_append]
      have := hok.1
      dsimp only at this
      omega
    have hn : nextAt (pre ++ body g (t :: ts)) pre.length = (pre ++ t.text ++ g).length := by
      unfold nextAt
      rw [hd, ho]
      have hdd : (pre ++ body g (t :: ts)).drop (pre.length + t.text.length) = g ++ body g ts := by
        rw [← List.drop_drop, hd]; simp
      dsimp only
      rw [hdd, gap_gaps hg _ (body_nogap hg hts)]
      simp
      omega
    obtain ⟨m, hm, hmk⟩ := lex_body hg ts hts (pre ++ t.text ++ g)
    rw [lexAt_step hlt (by rw [hd, ho]), hn]
    rw [show (pre ++ t.text ++ g) ++ body g ts = pre ++ body g (t :: ts) from by rw [e]; simp] at hm
    rw [hm, hd, ho]
    exact ⟨_, rfl, by simp [hmk, kt]⟩
/-- THE LAW: lexed again with other gaps, the tokens are the same. -/
theorem lex_again {s : B} {l : List Tk} (h : lexAll s = .ok l) {g : B} (hg : g ∈ gaps) : ∃ m, lexAll (ahead g (l.take (l.length - 1)) ++ g) = .ok m ∧ m.map kt = l.map kt := by
  obtain ⟨ts, rfl, hgood⟩ := lexAll_good h
  have e : (ts ++ [(⟨kEnd, [], s.length⟩ : Tk)]).take ((ts ++ [(⟨kEnd, [], s.length⟩ : Tk)]).length - 1) = ts := by simp
  rw [e, ahead_body]
  obtain ⟨m, hm, hmk⟩ := lex_body hg ts hgood g
  refine ⟨m, ?_, by rw [hmk]; simp [kt]⟩
  unfold lexAll
  rw [gap_gaps hg _ (body_nogap hg hgood)]
  exact hm
end Go.Proofs.YtbagkghbgcpahaaDoor.Lx
