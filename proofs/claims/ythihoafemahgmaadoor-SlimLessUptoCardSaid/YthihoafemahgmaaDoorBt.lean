/- Plain: values of operators are right values of their kinds; terms of a right program have kinds: no program in sight. -/
import Derived.Test.YthihoafemahgmaaDoorRunM
namespace Go.Proofs.YthihoafemahgmaaDoor
open Mx
theorem right_tv (b : Bool) : rightV (tv b) 1 = true := by cases b <;> decide
theorem right_wv (n : Int) : rightV (wv n) 2 = true := by
  have h1 := Int.emod_nonneg n (show (256 : Int) ≠ 0 by decide)
  have h2 := Int.emod_lt_of_pos n (show (0 : Int) < 256 by decide)
  unfold rightV wv around
  simp only [decide_true, Bool.true_and]
  split <;> simp <;> omega
theorem right_kind {v : Vl} {k : Int} (h : rightV v k = true) : v.kind = k ∧ (k = 1 ∨ k = 2) := by
  unfold rightV at h
  simp only [Bool.and_eq_true, decide_eq_true_eq] at h
  refine ⟨h.1, ?_⟩
  by_cases e : k = 1
  · exact .inl e
  · rw [if_neg e] at h
    simp only [Bool.and_eq_true, decide_eq_true_eq] at h
    exact .inr h.2.1.1
def opsL : List ByteArray := [oInt, oTrue, oFalse, oName, oNot, oNeg, oPre, oIf, oCall, oArrow, oFby, oOr, oXor, oAnd, oEq, oNe, oLt, oLe, oGt, oGe, oImp, oAdd, oSub, oMul, oDiv, oMod]
theorem arity_ops {o : ByteArray} {k : Int} (h : arity o = some k) : o ∈ opsL := by
  unfold arity at h
  unfold opsL
  simp only [List.mem_cons, List.not_mem_nil, or_false]
  split at h
  · rename_i e; rcases e with e | e | e | e <;> simp [e]
  split at h
  · rename_i e; rcases e with e | e | e <;> simp [e]
  split at h
  · rename_i e; simp [e]
  split at h
  · rename_i e; simp [e]
  split at h
  · rename_i e; rcases e with e | e <;> simp [e]
  split at h
  · rename_i e
    simp only [levels, List.any_cons, List.any_nil, List.contains_cons, List.contains_nil, Bool.or_false, Bool.or_eq_true, beq_iff_eq] at e
    rcases e with ((e | e) | e | (e | e | e | e | e | e | e) | (e | e) | (e | e | e)) <;> simp [e]
  · cases h
theorem app_right {o : ByteArray} {k : Int} (ho : o ∈ opsL) (n1 : o ≠ oInt ∧ o ≠ oTrue ∧ o ≠ oFalse ∧ o ≠ oName ∧ o ≠ oPre ∧ o ≠ oArrow ∧ o ≠ oFby ∧ o ≠ oCall) {vs : List Vl} (hv : ∀ v ∈ vs, rightV v v.kind = true)
    (hk : kindBy o k (vs.map (·.kind)) ≠ 0) : if (appM o vs).2 = true then kindBy o k (vs.map (·.kind)) = 2 else rightV (appM o vs).1 (kindBy o k (vs.map (·.kind))) = true := by
  obtain ⟨a1, a2, a3, a4, a5, a6, a7, a8⟩ := n1
  unfold opsL at ho
  simp only [List.mem_cons, List.not_mem_nil, or_false, a1, a2, a3, a4, a5, a6, a7, a8, false_or] at ho
  by_cases hif : o = oIf
  · subst hif
    have e : kindBy oIf k (vs.map (·.kind)) = (if (vs.map (·.kind)).getD 0 0 = 1 ∧ (vs.map (·.kind)).getD 1 0 = (vs.map (·.kind)).getD 2 0 then (vs.map (·.kind)).getD 1 0 else 0) := rfl
    have e2 : appM oIf vs = (if (vs.getD 0 vz).n = 1 then vs.getD 1 vz else vs.getD 2 vz, false) := rfl
    rw [e] at hk ⊢
    rw [e2]
    by_cases hc : (vs.map (·.kind)).getD 0 0 = 1 ∧ (vs.map (·.kind)).getD 1 0 = (vs.map (·.kind)).getD 2 0
    · rw [if_pos hc] at hk ⊢
      have hg : ∀ j, (vs.map (·.kind)).getD j 0 = (vs.getD j vz).kind := fun j => by
        simp only [List.getD_eq_getElem?_getD, List.getElem?_map]
        cases vs[j]? <;> rfl
      have hr : ∀ j, (vs.getD j vz).kind ≠ 0 → rightV (vs.getD j vz) (vs.getD j vz).kind = true := fun j hj => by
        by_cases hl : j < vs.length
        · have : vs.getD j vz = vs[j] := by simp [List.getD_eq_getElem?_getD, hl]
          rw [this]
          exact hv _ (List.getElem_mem hl)
        · have : vs.getD j vz = vz := by simp [List.getD_eq_getElem?_getD, hl]
          rw [this] at hj
          exact absurd rfl hj
      rw [hg 1, hg 2] at hc
      rw [hg 1] at hk ⊢
      simp only [Bool.false_eq_true, if_false]
      split
      · exact hr 1 hk
      · rw [hc.2]
        exact hr 2 (by rw [← hc.2]; exact hk)
    · rw [if_neg hc] at hk
      exact absurd rfl hk
  have hs : ∀ c d : Bool, (if (c && d) = true then (1 : Int) else 0) ≠ 0 → (if (c && d) = true then (1 : Int) else 0) = 1 := by intro c d; cases c <;> cases d <;> simp
  have hs1 : ∀ c : Bool, (if c = true then (1 : Int) else 0) ≠ 0 → (if c = true then (1 : Int) else 0) = 1 := by intro c; cases c <;> simp
  have hs2 : ∀ c d : Bool, (if (c && d) = true then (2 : Int) else 0) ≠ 0 → (if (c && d) = true then (2 : Int) else 0) = 2 := by intro c d; cases c <;> cases d <;> simp
  have T : ∀ {b : Bool} {x : Int}, appM o vs = (tv b, false) → x = 1 → if (appM o vs).2 = true then x = 2 else rightV (appM o vs).1 x = true := fun e ex => by
    rw [e, ex]
    exact right_tv _
  have W : ∀ {n : Int} {x : Int}, appM o vs = (wv n, false) → x = 2 → if (appM o vs).2 = true then x = 2 else rightV (appM o vs).1 x = true := fun e ex => by
    rw [e, ex]
    exact right_wv _
  generalize hK : vs.map (·.kind) = K at *
  rcases ho with rfl | rfl | rfl | rfl | rfl | rfl | rfl | rfl | rfl | rfl | rfl | rfl | rfl | rfl | rfl | rfl | rfl | rfl
  · exact T rfl (hs _ _ hk)
  · exact W rfl (hs2 _ _ hk)
  · exact absurd rfl hif
  · exact T rfl (hs _ _ hk)
  · exact T rfl (hs _ _ hk)
  · exact T rfl (hs _ _ hk)
  · exact T rfl (hs1 _ hk)
  · exact T rfl (hs1 _ hk)
  · exact T rfl (hs _ _ hk)
  · exact T rfl (hs _ _ hk)
  · exact T rfl (hs _ _ hk)
  · exact T rfl (hs _ _ hk)
  · exact T rfl (hs _ _ hk)
  · exact W rfl (hs2 _ _ hk)
  · exact W rfl (hs2 _ _ hk)
  · exact W rfl (hs2 _ _ hk)
  · by_cases h0 : (vs.getD 1 vz).n = 0
    · have e : appM oDiv vs = (vz, true) := by unfold appM; generalize vs.getD 1 vz = b at h0 ⊢; simp [h0]
      rw [e]
      exact hs2 _ _ hk
    · exact W (show appM oDiv vs = (wv ((vs.getD 0 vz).n.tdiv (vs.getD 1 vz).n), false) from by unfold appM; generalize vs.getD 1 vz = b at h0 ⊢; generalize vs.getD 0 vz = a; simp [h0]) (hs2 _ _ hk)
  · by_cases h0 : (vs.getD 1 vz).n = 0
    · have e : appM oMod vs = (vz, true) := by unfold appM; generalize vs.getD 1 vz = b at h0 ⊢; simp [h0]
      rw [e]
      exact hs2 _ _ hk
    · exact W (show appM oMod vs = (wv ((vs.getD 0 vz).n.tmod (vs.getD 1 vz).n), false) from by unfold appM; generalize vs.getD 1 vz = b at h0 ⊢; generalize vs.getD 0 vz = a; simp [h0]) (hs2 _ _ hk)
theorem kind_parts {ks : Env Int} {o : ByteArray} {n : Int} {s : ByteArray} {l : List Ex} (h : kindOf ks (.mk o n s l) ≠ 0) : kindOf ks (.mk o n s l) = kindBy o ((ks s).getD 0) (kindsOf ks l) ∧ ∀ e ∈ l, kindOf ks e ≠ 0 := by
  simp only [kindOf] at h ⊢
  by_cases hc : (kindsOf ks l).contains 0 = true
  · rw [if_pos hc] at h; exact absurd rfl h
  · rw [if_neg hc]
    refine ⟨rfl, fun e he h0 => hc ?_⟩
    rw [List.contains_iff_mem]
    clear h hc
    induction l with
    | nil => cases he
    | cons x l ih =>
      simp only [kindsOf, List.mem_cons]
      rcases List.mem_cons.1 he with rfl | he
      · exact .inl h0.symm
      · exact .inr (ih he)
theorem terms_kind {p : Pr} (hck : checkFlat p = 0) {ks : Env Int} (hks : freshGo Env.none p.vars = some ks) : ∀ e ∈ p.terms, formAll ks e = true ∧ kindOf ks e ≠ 0 := by
  obtain ⟨ks', hks', _, hfm, _, _, _, hkg⟩ := check_zero hck
  rw [hks] at hks'
  cases hks'
  intro e he
  obtain ⟨i, hi, rfl⟩ := List.mem_iff_getElem.1 he
  refine ⟨(formAllL_get ks _).1 hfm i hi, ?_⟩
  rw [(kindsGo_get ks _ _).1 hkg i hi]
  by_cases hf : i < p.fl.length
  · have := (fresh_has _ _ _ hks).2 (p.fl[i].name, p.fl[i].kind) (by
      simp only [Pr.vars, List.mem_append, List.mem_map]
      exact .inr ⟨p.fl[i], List.getElem_mem _, rfl⟩)
    have h2 := fresh_two _ _ _ hks (fun s k h => by simp [Env.none] at h) _ _ this
    have e : (p.fl.map (·.kind)).getD i 1 = p.fl[i].kind := by simp [List.getD_eq_getElem?_getD, hf]
    rw [e]
    simp only at h2
    omega
  · have e : (p.fl.map (·.kind)).getD i 1 = 1 := by simp [List.getD_eq_getElem?_getD, hf]
    rw [e]; decide
theorem form_int {n : Int} {s : ByteArray} {l : List Ex} (h : form (.mk oInt n s l) = true) : 0 ≤ n ∧ n ≤ 127 := by
  have : arity oInt = some 0 := rfl
  simp only [form, Ex.op, this, Ex.n, Bool.and_eq_true, Bool.or_eq_true, decide_eq_true_eq] at h
  rcases h.1.2 with h | h
  · have := of_decide_eq_true h; omega
  · have h1 := of_decide_eq_true h.1.2; have h2 := of_decide_eq_true h.2; omega
end Go.Proofs.YthihoafemahgmaaDoor
