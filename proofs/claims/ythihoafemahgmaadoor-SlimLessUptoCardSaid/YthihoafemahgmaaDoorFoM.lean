/- Plain: slim.Fold: literals folded; what is left is a flat program as it must be: no program in sight. -/
import Derived.Test.YthihoafemahgmaaDoorSlM
import Derived.Test.YthihoafemahgmaaDoorBt
import Derived.Test.YthihoafemahgmaaDoorRw
namespace Go.Proofs.YthihoafemahgmaaDoor
open Mx
def plainV : Ex → Option Vl
  | .mk o n _ l =>
    if o = oInt then some ⟨2, n⟩
    else if o = oTrue ∨ o = oFalse then some (tv (decide (o = oTrue)))
    else if o = oNeg then (match l with
      | .mk o' n' _ _ :: _ => if o' = oInt then some ⟨2, -n'⟩ else none
      | [] => none)
    else none
def literalV (v : Vl) : Option Ex :=
  if v.kind = 1 ∧ v.n = 1 then some (.mk oTrue 0 ⟨#[]⟩ [])
  else if v.kind = 1 then some (.mk oFalse 0 ⟨#[]⟩ [])
  else if 0 ≤ v.n then some (.mk oInt v.n ⟨#[]⟩ [])
  else if -127 ≤ v.n then some (.mk oNeg 0 ⟨#[]⟩ [.mk oInt (-v.n) ⟨#[]⟩ []]) else none
def foldTop (lt : ByteArray → Int) (o : ByteArray) (n : Int) (s : ByteArray) (l0 l : List Ex) : Ex :=
  let d : Ex := .mk o n s l
  let rest : Ex :=
    if (l.all fun e => (plainV e).isSome) = true ∧ l ≠ [] then
      (if isApp o (l.map fun e => (plainV e).getD vz) = 0 ∧ (appM o (l.map fun e => (plainV e).getD vz)).2 = false then (literalV (appM o (l.map fun e => (plainV e).getD vz)).1).getD d else d)
    else d
  if o = oIf then
    match plainV (l.getD 0 d) with
    | some v =>
      let part := if v.n = 0 then 2 else 1
      let other := if v.n = 0 then 1 else 2
      if dividesE (l.getD other d) = false ∧ lateOf lt (l0.getD other d) ≤ lateOf lt (l0.getD part d) then l.getD part d else rest
    | none => rest
  else rest
mutual
def foldE (lt : ByteArray → Int) : Ex → Ex
  | .mk o n s l => foldTop lt o n s l (foldL lt l)
def foldL (lt : ByteArray → Int) : List Ex → List Ex
  | [] => []
  | e :: l => foldE lt e :: foldL lt l
end
theorem foldL_map (lt : ByteArray → Int) : ∀ l : List Ex, foldL lt l = l.map (foldE lt)
  | [] => rfl
  | e :: l => by rw [foldL, foldL_map lt l]; rfl
structure Stands (ks : Env Int) (e d : Ex) : Prop where
  form : formAll ks d = true
  kind : kindOf ks d = kindOf ks e
  parts : d.parts ≤ e.parts
  names : ∀ s ∈ namesX d, s ∈ namesX e
theorem plain_kind {ks : Env Int} {e : Ex} (hf : formAll ks e = true) (hk : kindOf ks e ≠ 0) {v : Vl} (h : plainV e = some v) : v.kind = kindOf ks e := by
  obtain ⟨o, n, s, l⟩ := e
  obtain ⟨hkb, hkp⟩ := kind_parts hk
  rw [hkb] at hk ⊢
  simp only [plainV] at h
  by_cases e1 : o = oInt
  · subst e1
    rw [if_pos rfl] at h
    cases h
    rfl
  rw [if_neg e1] at h
  by_cases e2 : o = oTrue ∨ o = oFalse
  · rw [if_pos e2] at h
    cases h
    unfold kindBy
    rw [if_neg e1, if_pos e2]
    rfl
  rw [if_neg e2] at h
  by_cases e3 : o = oNeg
  · subst e3
    rw [if_pos rfl] at h
    split at h
    · split at h
      · cases h
        have e : ∀ K, kindBy oNeg ((ks s).getD 0) K = (if (decide (0 < K.length) && decide (K.headD 0 = K.getLastD 0) && decide (K.headD 0 = 2)) = true then 2 else 0) := fun _ => rfl
        rw [e] at hk ⊢
        split
        · rfl
        · rename_i hc; rw [if_neg hc] at hk; exact absurd rfl hk
      · cases h
    · cases h
  rw [if_neg e3] at h
  cases h
theorem literal_stands {ks : Env Int} {v : Vl} {k : Int} (hv : rightV v k = true) {x : Ex} (h : literalV v = some x) : formAll ks x = true ∧ kindOf ks x = k ∧ x.parts ≤ 2 ∧ namesX x = [] := by
  obtain ⟨h1, h2⟩ := right_kind hv
  unfold literalV at h
  rw [h1] at h
  have hfo : ∀ o, (o = oTrue ∨ o = oFalse) → formAll ks (.mk o 0 ⟨#[]⟩ []) = true ∧ kindOf ks (.mk o 0 ⟨#[]⟩ []) = 1 ∧ (Ex.mk o 0 ⟨#[]⟩ []).parts ≤ 2 ∧ namesX (.mk o 0 ⟨#[]⟩ []) = [] := by
    intro o ho
    rcases ho with rfl | rfl
    · exact ⟨rfl, rfl, by decide, rfl⟩
    · exact ⟨rfl, rfl, by decide, rfl⟩
  have hint : ∀ n : Int, 0 ≤ n → n ≤ 127 → formAll ks (.mk oInt n ⟨#[]⟩ []) = true := fun n n1 n2 => by
    have h : (decide (n = 0) || decide (oInt = oInt) && decide (0 < n) && decide (n ≤ 127)) = true := by
      by_cases h0 : n = 0
      · simp [h0]
      · have : 0 < n := by omega
        simp [this, n2]
    show ((true && (decide (n = 0) || decide (oInt = oInt) && decide (0 < n) && decide (n ≤ 127)) && true) && true && true && true) = true
    rw [h]
    rfl
  rcases h2 with rfl | rfl
  · by_cases e : v.n = 1
    · rw [if_pos ⟨rfl, e⟩] at h
      cases h
      exact hfo _ (.inl rfl)
    · rw [if_neg (fun h => e h.2), if_pos rfl] at h
      cases h
      exact hfo _ (.inr rfl)
  · rw [if_neg (fun h => by cases h.1), if_neg (by decide)] at h
    have hr : -128 ≤ v.n ∧ v.n ≤ 127 := by
      unfold rightV at hv
      simp only [Bool.and_eq_true, decide_eq_true_eq] at hv
      have := hv.2
      rw [if_neg (by decide)] at this
      simpa using this
    split at h
    · cases h
      exact ⟨hint _ (by assumption) hr.2, rfl, by simp [Ex.parts, Ex.partsL], rfl⟩
    · split at h
      · cases h
        have h3 := hint (-v.n) (by omega) (by omega)
        refine ⟨?_, rfl, by simp [Ex.parts, Ex.partsL], rfl⟩
        show (form (.mk oNeg 0 ⟨#[]⟩ [.mk oInt (-v.n) ⟨#[]⟩ []]) && decide (oNeg ≠ oCall) && (decide (oNeg ≠ oName) || (ks ⟨#[]⟩).isSome) && (formAll ks (.mk oInt (-v.n) ⟨#[]⟩ []) && formAllL ks [])) = true
        rw [h3]
        rfl
      · cases h
theorem partsL_le_map {f : Ex → Ex} : ∀ {l : List Ex}, (∀ e ∈ l, (f e).parts ≤ e.parts) → Ex.partsL (l.map f) ≤ Ex.partsL l
  | [], _ => Nat.le_refl _
  | e :: l, h => by
    have h1 := h e (List.mem_cons_self ..)
    have h2 := partsL_le_map (l := l) fun x hx => h x (List.mem_cons_of_mem _ hx)
    simp only [List.map_cons, Ex.partsL]
    omega
theorem fold_stands {ks : Env Int} (lt : ByteArray → Int) : ∀ e : Ex, formAll ks e = true → kindOf ks e ≠ 0 → Stands ks e (foldE lt e) := by
  refine Ex.ind fun o n s l ih hf hk => ?_
  obtain ⟨hkb, hkp⟩ := kind_parts hk
  obtain ⟨hsub, _, _, _, hif⟩ := formAll_parts hf
  have hS : ∀ e ∈ l, Stands ks e (foldE lt e) := fun e he => ih e he (hsub e he) (hkp e he)
  have hkl : kindsOf ks (l.map (foldE lt)) = kindsOf ks l := by
    rw [kindsOf_map, kindsOf_map, List.map_map]
    exact List.map_congr_left fun e he => (hS e he).kind
  have hkL : ∀ e ∈ l.map (foldE lt), kindOf ks e ≠ 0 := fun e he => by
    obtain ⟨e', he', rfl⟩ := List.mem_map.1 he
    rw [(hS e' he').kind]; exact hkp e' he'
  have hfL : ∀ e ∈ l.map (foldE lt), formAll ks e = true := fun e he => by
    obtain ⟨e', he', rfl⟩ := List.mem_map.1 he
    exact (hS e' he').form
  have hform : form (.mk o n s l) = true ∧ o ≠ oCall ∧ (o ≠ oName ∨ (ks s).isSome = true) := by
    simp only [formAll, Bool.and_eq_true, Bool.or_eq_true, decide_eq_true_eq] at hf
    exact ⟨hf.1.1.1, hf.1.1.2, hf.1.2⟩
  have hform2 : form (.mk o n s (l.map (foldE lt))) = true := by
    have h1 := hform.1
    unfold form at h1 ⊢
    simp only [Ex.op, Ex.n, Ex.s, Ex.l] at h1 ⊢
    cases ha : arity o with
    | none => rw [ha] at h1; cases h1
    | some k =>
      rw [ha] at h1
      simp only [Bool.and_eq_true, Bool.or_eq_true, decide_eq_true_eq] at h1 ⊢
      refine ⟨⟨?_, h1.1.2⟩, h1.2⟩
      rcases h1.1.1 with h2 | h2
      · exact .inl h2
      · right
        have h3 : k = ((l.length : Nat) : Int) := of_decide_eq_true h2
        exact decide_eq_true (by show k = (((l.map (foldE lt)).length : Nat) : Int); rw [List.length_map]; exact h3)
  have hpl := partsL_le_map (f := foldE lt) (l := l) fun e he => (hS e he).parts
  -- the term with folded parts
  have hD : Stands ks (.mk o n s l) (.mk o n s (l.map (foldE lt))) := by
    refine ⟨?_, ?_, ?_, fun t ht => ?_⟩
    · simp only [formAll, Bool.and_eq_true, Bool.or_eq_true, decide_eq_true_eq]
      exact ⟨⟨⟨hform2, hform.2.1⟩, hform.2.2⟩, (formAllL_iff ks _).2 hfL⟩
    · simp only [kindOf]
      rw [hkl]
    · simp only [Ex.parts]
      omega
    · simp only [namesX, List.mem_append] at ht ⊢
      rcases ht with ht | ht
      · exact .inl ht
      · obtain ⟨e, he, hs⟩ := namesXL_in ht
        obtain ⟨e', he', rfl⟩ := List.mem_map.1 he
        exact .inr (namesXL_mem he' ((hS e' he').names t hs))
  -- a part of it
  have hP : ∀ i, (h : i < l.length) → kindOf ks l[i] = kindOf ks (.mk o n s l) → Stands ks (.mk o n s l) ((l.map (foldE lt)).getD i (.mk o n s (l.map (foldE lt)))) := fun i hi hki => by
    have e : (l.map (foldE lt)).getD i (.mk o n s (l.map (foldE lt))) = foldE lt l[i] := by simp [List.getD_eq_getElem?_getD, hi]
    rw [e]
    have h1 := hS _ (List.getElem_mem hi)
    refine ⟨h1.form, h1.kind.trans hki, ?_, fun t ht => by simp only [namesX, List.mem_append]; exact .inr (namesXL_mem (List.getElem_mem hi) (h1.names t ht))⟩
    have := getElem_parts l i hi
    have := h1.parts
    simp only [Ex.parts]
    omega
  -- an operator of literals
  have hR : ∀ x, (l.map (foldE lt)).all (fun e => (plainV e).isSome) = true → l.map (foldE lt) ≠ [] → isApp o ((l.map (foldE lt)).map fun e => (plainV e).getD vz) = 0 → (appM o ((l.map (foldE lt)).map fun e => (plainV e).getD vz)).2 = false →
      literalV (appM o ((l.map (foldE lt)).map fun e => (plainV e).getD vz)).1 = some x → Stands ks (.mk o n s l) x := fun x ha hne hap htr hx => by
    have hkv : ((l.map (foldE lt)).map fun e => (plainV e).getD vz).map (·.kind) = kindsOf ks l := by
      rw [← hkl, kindsOf_map, List.map_map]
      refine List.map_congr_left fun e he => ?_
      have h1 := List.all_eq_true.1 ha e he
      cases hp : plainV e with
      | none => rw [hp] at h1; cases h1
      | some v =>
        show ((plainV e).getD vz).kind = _
        rw [hp, Option.getD_some]
        exact plain_kind (hfL e he) (hkL e he) hp
    generalize hvs : ((l.map (foldE lt)).map fun e => (plainV e).getD vz) = vs at *
    unfold isApp at hap
    cases har : arity o with
    | none => rw [har] at hap; cases hap
    | some k =>
      rw [har] at hap
      dsimp only at hap
      split at hap
      · cases hap
      rename_i hc
      split at hap
      · cases hap
      rename_i hall
      split at hap
      · cases hap
      rename_i hkk
      have hc : ¬ k < 1 ∧ ¬ k ≠ vs.length ∧ o ≠ oPre ∧ o ≠ oArrow ∧ o ≠ oFby := by
        simp only [not_or] at hc
        exact hc
      have hvr : ∀ v ∈ vs, rightV v v.kind = true := by
        have := hall
        simp only [Bool.not_eq_true', Bool.not_eq_false, List.all_eq_true] at this
        exact this
      have hno : o ≠ oInt ∧ o ≠ oTrue ∧ o ≠ oFalse ∧ o ≠ oName := by
        refine ⟨fun e => ?_, fun e => ?_, fun e => ?_, fun e => ?_⟩ <;> (subst e; cases har; exact hc.1 (by decide))
      have hr := app_right (k := 0) (arity_ops har) ⟨hno.1, hno.2.1, hno.2.2.1, hno.2.2.2, hc.2.2.1, hc.2.2.2.1, hc.2.2.2.2, hform.2.1⟩ hvr hkk
      rw [if_neg (by rw [htr]; decide), hkv] at hr
      obtain ⟨x1, x2, x3, x4⟩ := literal_stands (ks := ks) hr hx
      refine ⟨x1, ?_, ?_, fun t ht => by rw [x4] at ht; cases ht⟩
      · rw [x2, hkb]
        unfold kindBy
        simp only [if_neg hno.2.2.2]
      · have hl : 1 ≤ l.length := by
          cases l with
          | nil => simp at hne
          | cons _ _ => simp
        have := len_partsL l
        simp only [Ex.parts]
        omega
  show Stands ks (.mk o n s l) (foldTop lt o n s l (foldL lt l))
  rw [foldL_map]
  unfold foldTop
  dsimp only
  have hrest : Stands ks (.mk o n s l) (if ((l.map (foldE lt)).all fun e => (plainV e).isSome) = true ∧ l.map (foldE lt) ≠ [] then
      (if isApp o ((l.map (foldE lt)).map fun e => (plainV e).getD vz) = 0 ∧ (appM o ((l.map (foldE lt)).map fun e => (plainV e).getD vz)).2 = false then (literalV (appM o ((l.map (foldE lt)).map fun e => (plainV e).getD vz)).1).getD (.mk o n s (l.map (foldE lt))) else .mk o n s (l.map (foldE lt)))
    else .mk o n s (l.map (foldE lt))) := by
    split
    · rename_i h1
      split
      · rename_i h2
        cases h3 : literalV (appM o ((l.map (foldE lt)).map fun e => (plainV e).getD vz)).1 with
        | none => exact hD
        | some x => exact hR x h1.1 h1.2 h2.1 h2.2 h3
      · exact hD
    · exact hD
  by_cases ho : o = oIf
  · rw [if_pos ho]
    split
    · rename_i v hv
      have hl3 := hif ho
      have hk1 : kindOf ks (l[1]'(by omega)) = kindOf ks (.mk o n s l) ∧ kindOf ks (l[2]'(by omega)) = kindOf ks (.mk o n s l) := by
        rw [hkb] at hk ⊢
        subst ho
        have e : kindBy oIf ((ks s).getD 0) (kindsOf ks l) = (if (kindsOf ks l).getD 0 0 = 1 ∧ (kindsOf ks l).getD 1 0 = (kindsOf ks l).getD 2 0 then (kindsOf ks l).getD 1 0 else 0) := rfl
        rw [e] at hk ⊢
        split
        · rename_i hc
          have g1 : (kindsOf ks l).getD 1 0 = kindOf ks (l[1]'(by omega)) := by simp [kindsOf_map, List.getD_eq_getElem?_getD, show 1 < l.length from by omega]
          have g2 : (kindsOf ks l).getD 2 0 = kindOf ks (l[2]'(by omega)) := by simp [kindsOf_map, List.getD_eq_getElem?_getD, show 2 < l.length from by omega]
          exact ⟨g1.symm, by rw [hc.2]; exact g2.symm⟩
        · rename_i hc; rw [if_neg hc] at hk; exact absurd rfl hk
      by_cases hv0 : v.n = 0
      · simp only [if_pos hv0]
        split
        · exact hP 2 (by omega) hk1.2
        · exact hrest
      · simp only [if_neg hv0]
        split
        · exact hP 1 (by omega) hk1.1
        · exact hrest
    · exact hrest
  · rw [if_neg ho]
    exact hrest
def foldM (p : Pr) : Pr := ⟨p.ins, p.outs, p.fl.map fun f => { f with e := foldE (namesM p) f.e }, p.as.map (foldE (namesM p)), p.cs.map (foldE (namesM p))⟩
theorem fold_check {p : Pr} (hck : checkFlat p = 0) : checkFlat (foldM p) = 0 ∧ (foldM p).fl.length = p.fl.length := by
  obtain ⟨ks, hks, _, hfm, _, _, _, hk⟩ := check_zero hck
  have ht := terms_kind hck hks
  unfold Pr.terms at hk
  rw [List.append_assoc, kindsGo_iff] at hk
  have hst : ∀ e ∈ p.terms, Stands ks e (foldE (namesM p) e) := fun e he => fold_stands (namesM p) e (ht e he).1 (ht e he).2
  have hterms : (foldM p).terms = p.terms.map (foldE (namesM p)) := by
    unfold Pr.terms foldM
    simp only [List.map_append, List.map_map]
    rfl
  have hnm : (foldM p).fl.map (·.name) = p.fl.map (·.name) := by
    unfold foldM
    rw [List.map_map]; rfl
  refine ⟨check_of hck hks rfl rfl ?_ (fun s _ h => by rw [hnm]; exact h) (fun e he => ?_) (fun f hf => ?_) (fun e he => ?_) ?_, by unfold foldM; simp⟩
  · unfold foldM
    rw [List.map_map]
    exact List.Sublist.refl _
  · rw [hterms] at he
    obtain ⟨e', he', rfl⟩ := List.mem_map.1 he
    exact ⟨(hst e' he').form, fun s _ h => by rw [hnm]; exact h⟩
  · unfold foldM at hf
    obtain ⟨f', hf', rfl⟩ := List.mem_map.1 hf
    show kindOf ks (foldE (namesM p) f'.e) = f'.kind
    rw [(hst f'.e (terms_fl p hf')).kind]
    exact hk.1 f' hf'
  · have he2 : e ∈ (p.as ++ p.cs).map (foldE (namesM p)) := by rw [List.map_append]; exact he
    obtain ⟨e', he', rfl⟩ := List.mem_map.1 he2
    rw [(hst e' (by unfold Pr.terms; rw [List.append_assoc]; exact List.mem_append_right _ he')).kind]
    exact hk.2 e' he'
  · rw [hterms]
    exact partsL_le_map fun e he => (hst e he).parts
end Go.Proofs.YthihoafemahgmaaDoor
