/- The plain law of lustrumlaw2.OrderIs: names, closures over ways, the sort: no walk in sight. -/
import Derived.Test.YtdceonkbckmjdaaDoorOrdA
import Derived.Test.YtdceonkbckmjdaaDoorRfG
import Derived.Test.YtdceonkbckmjdaaDoorRfF
namespace Go.Proofs.YtdceonkbckmjdaaDoor
open Mx

/-! ### flows by name -/
theorem fresh_apart {s : ByteArray} : ∀ (l : List (ByteArray × Int)) (m0 m : Env Int), freshGo m0 l = some m → (m0 s).isSome = true → ∀ x ∈ l, x.1 ≠ s
  | [], _, _, _, _, x, hx => by cases hx
  | y :: l, m0, m, h, hs, x, hx => by
    simp only [freshGo] at h
    split at h
    · rename_i hc
      have hne : y.1 ≠ s := fun e => by have h1 := hc.1; rw [e] at h1; cases hm : m0 s <;> simp_all
      rcases List.mem_cons.1 hx with rfl | hx
      · exact hne
      · refine fresh_apart l _ _ h ?_ x hx
        simp only [Env.set]
        rw [if_neg (Ne.symm hne)]
        exact hs
    · cases h
theorem fresh_nodup : ∀ (l : List (ByteArray × Int)) (m0 m : Env Int), freshGo m0 l = some m → (l.map (·.1)).Nodup
  | [], _, _, _ => by simp
  | y :: l, m0, m, h => by
    simp only [freshGo] at h
    split at h
    · rw [List.map_cons, List.nodup_cons]
      refine ⟨fun hm => ?_, fresh_nodup l _ _ h⟩
      obtain ⟨x, hx, he⟩ := List.mem_map.1 hm
      exact fresh_apart l _ _ h (s := y.1) (by simp [Env.set]) x hx he
    · cases h
theorem names_nd {p : Pr} (h : checkFlat p = 0) : (p.fl.map (·.name)).Nodup := by
  obtain ⟨ks, hk, _⟩ := check_zero h
  have := fresh_nodup _ _ _ hk
  simp only [Pr.vars, List.map_append, List.map_map] at this
  rw [List.nodup_append] at this
  exact this.2.1
theorem atOf_fIdx {p : Pr} (h : checkFlat p = 0) : p.atOf = fIdx p := by
  have hn := names_nd h
  funext s
  unfold Pr.atOf
  cases hf : fIdx p s with
  | none =>
    unfold fIdx at hf
    rw [List.findIdx?_eq_none_iff] at hf
    exact at_other s p.fl 0 Env.none (fun f hfm => by simpa using hf f hfm)
  | some j =>
    unfold fIdx at hf
    rw [List.findIdx?_eq_some_iff_getElem] at hf
    obtain ⟨hj, hp, _⟩ := hf
    have hp : p.fl[j].name = s := by simpa using hp
    have := at_get p.fl 0 Env.none hn j hj
    rw [hp] at this
    simpa using this
theorem graph_fIdx {p : Pr} (h : checkFlat p = 0) : p.graph = p.fl.map fun f => needs (fIdx p) f.e := by
  unfold Pr.graph
  rw [atOf_fIdx h]

/-! ### ways -/
/-- What lustrumref2.needsOf closes: the first k flows may stand between. -/
def wa (f : Nat → Nat → Bool) : Nat → Nat → Nat → Bool
  | 0 => f
  | k + 1 => fun i j => wa f k i j || (wa f k i k && wa f k k j)
theorem wa_row (f : Nat → Nat → Bool) (k j : Nat) : wa f (k + 1) k j = wa f k k j := by
  show (wa f k k j || (wa f k k k && wa f k k j)) = _
  cases wa f k k j <;> simp
theorem wa_col (f : Nat → Nat → Bool) (k i : Nat) : wa f (k + 1) i k = wa f k i k := by
  show (wa f k i k || (wa f k i k && wa f k k k)) = _
  cases wa f k i k <;> simp
inductive PathK (f : Nat → Nat → Bool) (k : Nat) : Nat → Nat → Prop
  | one {i j : Nat} : f i j = true → PathK f k i j
  | via {i m j : Nat} : m < k → PathK f k i m → PathK f k m j → PathK f k i j
theorem PathK.mono {f : Nat → Nat → Bool} {k k' : Nat} (h : k ≤ k') {i j : Nat} (p : PathK f k i j) : PathK f k' i j := by
  induction p with
  | one e => exact .one e
  | via hm _ _ ih1 ih2 => exact .via (by omega) ih1 ih2
theorem wa_path (f : Nat → Nat → Bool) : ∀ (k i j : Nat), wa f k i j = true ↔ PathK f k i j
  | 0, i, j => by
    constructor
    · exact fun h => .one h
    · intro h
      cases h with
      | one e => exact e
      | via hm _ _ => omega
  | k + 1, i, j => by
    have ih := wa_path f k
    constructor
    · intro h
      simp only [wa, Bool.or_eq_true, Bool.and_eq_true] at h
      rcases h with h | ⟨h1, h2⟩
      · exact ((ih i j).1 h).mono (by omega)
      · exact .via (Nat.lt_succ_self k) (((ih i k).1 h1).mono (by omega)) (((ih k j).1 h2).mono (by omega))
    · intro h
      induction h with
      | one e =>
        simp only [wa, Bool.or_eq_true, Bool.and_eq_true]
        exact .inl ((ih _ _).2 (.one e))
      | @via i m j hm _ _ h1 h2 =>
        by_cases hmk : m = k
        · subst hmk
          rw [wa_col] at h1
          rw [wa_row] at h2
          simp only [wa, Bool.or_eq_true, Bool.and_eq_true]
          exact .inr ⟨h1, h2⟩
        · have hm' : m < k := by omega
          simp only [wa, Bool.or_eq_true, Bool.and_eq_true] at h1 h2 ⊢
          rcases h1 with h1 | ⟨h1, h1'⟩
          · rcases h2 with h2 | ⟨h2, h2'⟩
            · exact .inl ((ih i j).2 (.via hm' ((ih i m).1 h1) ((ih m j).1 h2)))
            · exact .inr ⟨(ih i k).2 (.via hm' ((ih i m).1 h1) ((ih m k).1 h2)), h2'⟩
          · rcases h2 with h2 | ⟨h2, h2'⟩
            · exact .inr ⟨h1, (ih k j).2 (.via hm' ((ih k m).1 h1') ((ih m j).1 h2))⟩
            · exact .inr ⟨h1, h2'⟩
def onceF (g : List (List Nat)) (i j : Nat) : Bool := (g.getD i []).contains j
theorem path_iff {g : List (List Nat)} (hlow : ∀ l ∈ g, ∀ k ∈ l, k < g.length) (i j : Nat) : PathK (onceF g) g.length i j ↔ Path g i j := by
  constructor
  · intro h
    induction h with
    | one e => exact .one (by simpa [onceF, edge] using e)
    | via _ _ _ h1 h2 => exact h1.trans h2
  · intro h
    induction h with
    | one e => exact .one (by simpa [onceF, edge] using e)
    | @snoc b c h e ih =>
      have hb : b < g.length := by
        have key : ∀ x y, edge g x y → y < g.length := fun x y he => by
          unfold edge at he
          by_cases hx : x < g.length
          · rw [List.getD_eq_getElem?_getD, List.getElem?_eq_getElem hx] at he
            exact hlow _ (List.getElem_mem hx) _ he
          · rw [List.getD_eq_getElem?_getD, List.getElem?_eq_none (by omega)] at he
            simp at he
        cases h with
        | one e => exact key _ _ e
        | snoc _ e => exact key _ _ e
      exact .via hb ih (.one (by simpa [onceF, edge] using e))
/-- Whether a flow needs itself, by the closure. -/
theorem wa_cyc {g : List (List Nat)} (hlow : ∀ l ∈ g, ∀ k ∈ l, k < g.length) (i : Nat) : wa (onceF g) g.length i i = cyc g i := by
  have h1 := (wa_path (onceF g) g.length i i).trans (path_iff hlow i i)
  have h2 := cyc_iff g i
  cases ha : wa (onceF g) g.length i i <;> cases hb : cyc g i <;> simp_all

/-! ### without a cycle there is always a flow that is free -/
theorem some_left (out : List Nat) (n : Nat) (h : out.length < n) : ∃ i, i < n ∧ i ∉ out := by
  refine Classical.byContradiction fun hno => ?_
  have hall : ∀ i, i < n → i ∈ out := fun i hi => Classical.byContradiction fun hm => hno ⟨i, hi, hm⟩
  obtain ⟨a, b, hab, hb, e⟩ := pigeon out.length (fun i => out.idxOf i) (fun i hi => List.idxOf_lt_length_of_mem (hall i (by omega)))
  have ha := List.getElem_idxOf (List.idxOf_lt_length_of_mem (hall a (by omega)))
  have hb' := List.getElem_idxOf (List.idxOf_lt_length_of_mem (hall b (by omega)))
  have e' : out.idxOf a = out.idxOf b := e
  simp only [e'] at ha
  rw [hb'] at ha
  omega
theorem some_free {g : List (List Nat)} (hlow : ∀ l ∈ g, ∀ k ∈ l, k < g.length) (hno : ∀ j, j < g.length → cyc g j = false) (out : List Nat) (h : out.length < g.length) : ∃ i, i < g.length ∧ freeB g out i = true := by
  refine Classical.byContradiction fun hx => ?_
  obtain ⟨i0, hi0, hm0⟩ := some_left out g.length h
  have step : ∀ i, i < g.length → i ∉ out → ∃ k, k < g.length ∧ k ∉ out ∧ edge g i k := by
    intro i hi hm
    have hf : freeB g out i = false := by
      cases hc : freeB g out i with
      | false => rfl
      | true => exact absurd ⟨i, hi, hc⟩ hx
    unfold freeB at hf
    have hc : out.contains i = false := by simpa using hm
    rw [hc, Bool.not_false, Bool.true_and] at hf
    have hf' : ∃ k ∈ g.getD i [], ¬ out.contains k = true := by
      refine Classical.byContradiction fun hn => ?_
      have : (g.getD i []).all out.contains = true := List.all_eq_true.2 fun k hk => Classical.byContradiction fun hkk => hn ⟨k, hk, hkk⟩
      rw [this] at hf; cases hf
    obtain ⟨k, hk, hko⟩ := hf'
    refine ⟨k, ?_, by simpa using hko, hk⟩
    rw [List.getD_eq_getElem?_getD, List.getElem?_eq_getElem hi] at hk
    exact hlow _ (List.getElem_mem hi) _ hk
  classical
  let nx : Nat → Nat := fun i => if hh : ∃ k, k < g.length ∧ k ∉ out ∧ edge g i k then Classical.choose hh else i
  have hnx : ∀ i, i < g.length → i ∉ out → nx i < g.length ∧ nx i ∉ out ∧ edge g i (nx i) := by
    intro i hi hm
    have hh := step i hi hm
    show (if hh : ∃ k, k < g.length ∧ k ∉ out ∧ edge g i k then Classical.choose hh else i) < _ ∧ _
    have e : nx i = Classical.choose hh := dif_pos hh
    rw [show (if hh : ∃ k, k < g.length ∧ k ∉ out ∧ edge g i k then Classical.choose hh else i) = Classical.choose hh from dif_pos hh, e]
    exact Classical.choose_spec hh
  have hit : ∀ t, iter nx t i0 < g.length ∧ iter nx t i0 ∉ out := by
    intro t
    induction t with
    | zero => exact ⟨hi0, hm0⟩
    | succ t ih => have := hnx _ ih.1 ih.2; exact ⟨this.1, this.2.1⟩
  have hpath : ∀ s t, Path g (iter nx s i0) (iter nx (s + t + 1) i0) := by
    intro s t
    induction t with
    | zero => exact .one (hnx _ (hit s).1 (hit s).2).2.2
    | succ t ih => exact .snoc ih (hnx _ (hit (s + t + 1)).1 (hit (s + t + 1)).2).2.2
  obtain ⟨a, b, hab, hb, e⟩ := pigeon g.length (fun t => iter nx t i0) (fun t _ => (hit t).1)
  have e' : iter nx a i0 = iter nx b i0 := e
  have hp := hpath a (b - a - 1)
  rw [show a + (b - a - 1) + 1 = b from by omega, ← e'] at hp
  have := (cyc_iff g _).2 hp
  rw [hno _ (hit a).1] at this
  cases this
theorem pick_lt {g : List (List Nat)} {out : List Nat} (h : ∃ i, i < g.length ∧ freeB g out i = true) : pick g out < g.length := by
  obtain ⟨i, hi, hf⟩ := h
  unfold pick
  have : (g.zipIdx.findIdx fun x => !out.contains x.2 && x.1.all out.contains) < g.zipIdx.length := by
    refine List.findIdx_lt_length_of_exists ⟨(g[i], i), ?_, ?_⟩
    · rw [List.mem_iff_getElem]
      exact ⟨i, by simpa using hi, by simp⟩
    · unfold freeB at hf
      rw [List.getD_eq_getElem?_getD, List.getElem?_eq_getElem hi] at hf
      exact hf
  simpa using this
theorem sort_pick {g : List (List Nat)} (hlow : ∀ l ∈ g, ∀ k ∈ l, k < g.length) (hno : ∀ j, j < g.length → cyc g j = false) : ∀ j, j < g.length → pick g (sortN g j []) < g.length := fun j hj =>
  pick_lt (some_free hlow hno _ (by rw [sortN_len]; simpa using hj))
theorem any_hpick (p : Pr) : checkFlat p = 0 → (∀ j, j < p.graph.length → cyc p.graph j = false) → ∀ j, j < p.graph.length → pick p.graph (sortN p.graph j []) < p.graph.length := fun _ hno => sort_pick (graph_low p) hno
end Go.Proofs.YtdceonkbckmjdaaDoor
