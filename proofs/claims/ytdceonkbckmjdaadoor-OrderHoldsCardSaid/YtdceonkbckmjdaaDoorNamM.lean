/- order.Names ends, and at what: no program in sight. -/
import Derived.Test.YtdceonkbckmjdaaDoorMx
namespace Go.Proofs.YtdceonkbckmjdaaDoor.Mx

/-- How much may still be late. -/
def mu (late : ByteArray → Int) : List Fl → Nat
  | [] => 0
  | f :: l => (2 - late f.name).toNat + mu late l
theorem mu_le (late late' : ByteArray → Int) (h : ∀ s, late s ≤ late' s) : ∀ l, mu late' l ≤ mu late l
  | [] => Nat.le_refl _
  | f :: l => by
    have := mu_le late late' h l
    have := h f.name
    simp only [mu]; omega
theorem mu_lt (late late' : ByteArray → Int) (h : ∀ s, late s ≤ late' s) (hb : ∀ s, late' s ≤ 2) : ∀ (l : List Fl) (f : Fl), f ∈ l → late f.name < late' f.name → mu late' l < mu late l
  | [], _, hf, _ => by cases hf
  | x :: l, f, hf, hlt => by
    have h1 := mu_le late late' h l
    have h2 := h x.name
    have h3 := hb x.name
    simp only [mu]
    rcases List.mem_cons.1 hf with rfl | hf
    · omega
    · have := mu_lt late late' h hb l f hf hlt
      omega
theorem mu_zero : ∀ l : List Fl, mu (fun _ => 0) l = 2 * l.length
  | [] => rfl
  | f :: l => by simp only [mu, mu_zero l, List.length_cons]; omega
theorem namesRound_more (l : List Fl) : ∀ late, (namesRound l late true).2 = true := by
  induction l with
  | nil => intro late; rfl
  | cons f l ih => intro late; simp only [namesRound]; split <;> exact ih _
/-- A round's gain. -/
theorem namesN_step (l : List Fl) (f : Nat) (late : ByteArray → Int) : namesN l (f + 1) late = if (namesRound l late false).2 then namesN l f (namesRound l late false).1 else (namesRound l late false).1 := rfl
theorem drop_round {l : List Fl} {k : Nat} (h : k < l.length) (late : ByteArray → Int) (b : Bool) : namesRound (l.drop k) late b = if late l[k].name < lateOf late l[k].e then namesRound (l.drop (k + 1)) (setL late l[k].name (lateOf late l[k].e)) true else namesRound (l.drop (k + 1)) late b := by
  rw [List.drop_eq_getElem_cons h]; rfl
end Go.Proofs.YtdceonkbckmjdaaDoor.Mx
