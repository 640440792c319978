/- flat.Check step by step: no program in sight. -/
import Derived.Test.YtdceonkbckmjdaaDoorMx
namespace Go.Proofs.YtdceonkbckmjdaaDoor.Mx

def freshB (m : Env Int) (s : ByteArray) (k : Int) : Bool := (m s).isNone && decide (s.size ≠ 0) && (decide (k = 1) || decide (k = 2))
theorem freshGo_append (l r : List (ByteArray × Int)) : ∀ m, freshGo m (l ++ r) = (freshGo m l).bind fun m' => freshGo m' r := by
  induction l with
  | nil => intro m; rfl
  | cons x l ih =>
    intro m
    simp only [List.cons_append, freshGo]
    split
    · exact ih _
    · rfl
theorem fresh_step {l : List (ByteArray × Int)} {k : Nat} (h : k < l.length) {m : Env Int} (hm : freshGo Env.none (l.take k) = some m) :
    freshGo Env.none (l.take (k + 1)) = if freshB m l[k].1 l[k].2 then some (m.set l[k].1 l[k].2) else .none := by
  rw [List.take_succ_eq_append_getElem h, freshGo_append, hm]
  simp only [Option.bind_some, freshGo]
  have hc : freshB m l[k].1 l[k].2 = true ↔ ((m l[k].1).isNone = true ∧ l[k].1.size ≠ 0 ∧ (l[k].2 = 1 ∨ l[k].2 = 2)) := by
    unfold freshB
    simp only [Bool.and_eq_true, decide_eq_true_eq, Bool.or_eq_true]
    exact ⟨fun h => ⟨h.1.1, h.1.2, h.2⟩, fun h => ⟨⟨h.1, h.2.1⟩, h.2.2⟩⟩
  by_cases h1 : freshB m l[k].1 l[k].2 = true
  · rw [if_pos (hc.1 h1), if_pos h1]
  · rw [if_neg (fun e => h1 (hc.2 e)), if_neg h1]
theorem fresh_none {l : List (ByteArray × Int)} {k : Nat} (hm : freshGo Env.none (l.take k) = .none) : freshGo Env.none l = .none := by
  rw [← List.take_append_drop k l, freshGo_append, hm]; rfl

def setL1 (l : List ByteArray) : Env Bool := fun s => if l.contains s then some true else .none
theorem setL1_nil : setL1 [] = Env.none := by funext s; simp [setL1, Env.none]
theorem setL1_snoc (l : List ByteArray) (s : ByteArray) : (setL1 l).set s true = setL1 (l ++ [s]) := by
  funext x
  unfold setL1 Env.set
  by_cases h : x = s
  · subst h; simp
  · simp [h]
theorem setL1_get (l : List ByteArray) (s : ByteArray) : (setL1 l s).getD false = l.contains s := by
  unfold setL1
  cases l.contains s <;> rfl
theorem outs_step (fl : List ByteArray) : ∀ (outs seen : List ByteArray) (k : Nat) (h : k < outs.length), outsGo fl (seen ++ outs.take k) (outs.drop k) = (fl.contains outs[k] && !(seen ++ outs.take k).contains outs[k] && outsGo fl (seen ++ outs.take (k + 1)) (outs.drop (k + 1))) := by
  intro outs seen k h
  rw [List.drop_eq_getElem_cons h]
  simp only [outsGo]
  rw [List.take_succ_eq_append_getElem h, List.append_assoc]

theorem formAllL_get (ks : Env Int) : ∀ (l : List Ex), formAllL ks l = true ↔ ∀ i (h : i < l.length), formAll ks l[i] = true
  | [] => by simp [formAllL]
  | e :: l => by
    simp only [formAllL, Bool.and_eq_true]
    rw [formAllL_get ks l]
    constructor
    · rintro ⟨h1, h2⟩ i hi
      cases i with
      | zero => exact h1
      | succ i => exact h2 i (by simpa using hi)
    · intro h
      exact ⟨h 0 (by simp), fun i hi => h (i + 1) (by simpa using hi)⟩
theorem kindsGo_get (ks : Env Int) : ∀ (K : List Int) (l : List Ex), kindsGo ks K l = true ↔ ∀ i (h : i < l.length), kindOf ks l[i] = K.getD i 1
  | K, [] => by cases K <;> simp [kindsGo]
  | [], e :: l => by
    simp only [kindsGo, Bool.and_eq_true, decide_eq_true_eq]
    rw [kindsGo_get ks [] l]
    constructor
    · rintro ⟨h1, h2⟩ i hi
      cases i with
      | zero => exact h1
      | succ i => exact h2 i (by simpa using hi)
    · intro h
      exact ⟨h 0 (by simp), fun i hi => h (i + 1) (by simpa using hi)⟩
  | k :: K, e :: l => by
    simp only [kindsGo, Bool.and_eq_true, decide_eq_true_eq]
    rw [kindsGo_get ks K l]
    constructor
    · rintro ⟨h1, h2⟩ i hi
      cases i with
      | zero => exact h1
      | succ i => exact h2 i (by simpa using hi)
    · intro h
      exact ⟨h 0 (by simp), fun i hi => h (i + 1) (by simpa using hi)⟩

theorem vars_len (p : Pr) : p.vars.length = p.ins.length + p.fl.length := by simp [Pr.vars]
theorem vars_in (p : Pr) (k : Nat) (h : k < p.ins.length) (h' : k < p.vars.length) : p.vars[k] = (p.ins[k].name, p.ins[k].kind) := by
  simp only [Pr.vars]
  rw [List.getElem_append_left (by simpa using h)]
  simp
theorem vars_fl (p : Pr) (k : Nat) (h : k < p.fl.length) (h' : p.ins.length + k < p.vars.length) : p.vars[p.ins.length + k] = (p.fl[k].name, p.fl[k].kind) := by
  simp only [Pr.vars]
  rw [List.getElem_append_right (by simp)]
  simp

/-- Why a program is wrong. -/
theorem check_vars {p : Pr} (h : freshGo Env.none p.vars = .none) : checkFlat p = 3 := by unfold checkFlat; rw [h]
theorem check_outs {p : Pr} {ks : Env Int} (h : freshGo Env.none p.vars = some ks) (h1 : outsGo (p.fl.map (·.name)) [] p.outs = false) : checkFlat p = 3 := by unfold checkFlat; rw [h]; simp [h1]
theorem check_form {p : Pr} {ks : Env Int} (h : freshGo Env.none p.vars = some ks) (h1 : outsGo (p.fl.map (·.name)) [] p.outs = true) (h2 : formAllL ks p.terms = false) : checkFlat p = 3 := by unfold checkFlat; rw [h]; simp [h1, h2]
theorem check_big {p : Pr} {ks : Env Int} (h : freshGo Env.none p.vars = some ks) (h1 : outsGo (p.fl.map (·.name)) [] p.outs = true) (h2 : formAllL ks p.terms = true) (h3 : p.fl.length > 400 ∨ Ex.partsL p.terms > 4000 ∨ p.ins.length > 30) : checkFlat p = 2 := by
  unfold checkFlat; rw [h]; simp [h1, h2]; intro a b; omega
theorem check_kind {p : Pr} {ks : Env Int} (h : freshGo Env.none p.vars = some ks) (h1 : outsGo (p.fl.map (·.name)) [] p.outs = true) (h2 : formAllL ks p.terms = true) (h3 : ¬ (p.fl.length > 400 ∨ Ex.partsL p.terms > 4000 ∨ p.ins.length > 30)) (h4 : kindsGo ks (p.fl.map (·.kind)) p.terms = false) : checkFlat p = 5 := by
  unfold checkFlat; rw [h]; simp only [h1, h2, h4, Bool.not_true, Bool.false_eq_true, if_false, Bool.not_false, if_true]; rw [if_neg h3]
theorem check_ok {p : Pr} {ks : Env Int} (h : freshGo Env.none p.vars = some ks) (h1 : outsGo (p.fl.map (·.name)) [] p.outs = true) (h2 : formAllL ks p.terms = true) (h3 : ¬ (p.fl.length > 400 ∨ Ex.partsL p.terms > 4000 ∨ p.ins.length > 30)) (h4 : kindsGo ks (p.fl.map (·.kind)) p.terms = true) : checkFlat p = 0 := by
  unfold checkFlat; rw [h]; simp only [h1, h2, h4, Bool.not_true, Bool.false_eq_true, if_false]; rw [if_neg h3]
end Go.Proofs.YtdceonkbckmjdaaDoor.Mx
