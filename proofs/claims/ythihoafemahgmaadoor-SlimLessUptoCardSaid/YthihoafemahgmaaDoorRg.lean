/- A region that loads a cell, appends to what it holds and stores it there again: the load may be taken first, for whatever writes that cell waits for the one that uses it. -/
import Derived.OrdersHeld
import Derived.Deep.RegionHeld
namespace Go
section
variable {P : Program} {ops : Array Oper} {Q : Exit → Act → World → Prop} {md : Region.Mode} {S T : World → Prop} {m : Nat}
def wpAny2 (P : Program) (md : Region.Mode) (ops : Array Oper) (Q : Exit → Act → World → Prop) (S T : World → Prop) (m : Nat) : Nat → Array Bool → Act → World → Prop
  | 0, listed, a, w => Region.ready md ops listed = [] ∧ Q .normal a w
  | fuel + 1, listed, a, w =>
    (Region.ready md ops listed = [] → Q .normal a w) ∧
    ∀ i ∈ Region.ready md ops listed, wpOp P ops Q i (fun a' w' => (S w' ∧ ((listed.setIfInBounds i true).getD m false = false → T w')) ∧ wpAny2 P md ops Q S T m fuel (listed.setIfInBounds i true) a' w') a w
theorem wpAny_of_2 : ∀ (fuel : Nat) (listed : Array Bool) (a : Act) (w : World), wpAny2 P md ops Q S T m fuel listed a w → wpAny P md ops Q fuel listed a w
  | 0, _, _, _, h => h
  | fuel + 1, _, _, _, h => ⟨h.1, fun i hi => wpOp_mono (fun a' w' h' => wpAny_of_2 fuel _ a' w' h'.2) (h.2 i hi)⟩
theorem wpAny2_first {i : Nat} {oi : Oper} {v : Value} {U : World → Prop} (hi : ops[i]? = some oi) (hsel : ∀ (j : Nat) (o : Oper) cs b, ops[j]? = some o → o.op ≠ .select cs b)
    (hQ : ∀ c a w, Q (.panic c) (a.put oi.dst v) w → Q (.panic c) a w) (hmi : m ≠ i)
    (hU : ∀ (listed : Array Bool) (w : World), listed.getD i false = false → S w → (listed.getD m false = false → T w) → (listed.getD m false = false ∨ ∀ w, S w → U w) → U w)
    (hm : (∀ w, S w → U w) ∨ ∃ om, ops[m]? = some om ∧ ∃ e ∈ om.after, Region.binds md e = true ∧ e.on = i) :
    ∀ (fuel : Nat) (listed : Array Bool) (a : Act) (w : World),
      (∀ j oj, ops[j]? = some oj → j ≠ i → listed.getD j true = false → (∀ e ∈ oj.after, Region.binds md e = true → e.on ≠ i) → oi.apart ops oj = true) →
      i ∈ Region.ready md ops listed → listed.getD i false = false → (listed.getD m false = false ∨ ∀ w, S w → U w) → YieldsIf P ops U oi v a → S w → (listed.getD m false = false → T w) →
      wpAny2 P md ops Q S T m fuel (listed.setIfInBounds i true) (a.put oi.dst v) w → wpAny2 P md ops Q S T m (fuel + 1) listed a w := by
  have hset : ∀ (l : Array Bool), (l.setIfInBounds i true).getD m false = l.getD m false := fun l => getD_set_ne false (Ne.symm hmi)
  intro fuel
  induction fuel with
  | zero =>
    intro listed a w _ hr hl hlm hy hS hT H
    refine ⟨fun h => (by rw [h] at hr; cases hr), fun j hj => ?_⟩
    by_cases hji : j = i
    · subst hji; exact hy.wpOp hi (hU listed w hl hS hT hlm) ⟨⟨hS, fun h => hT (by rw [hset] at h; exact h)⟩, H⟩
    · have := ready_mono hj hji
      rw [H.1] at this
      cases this
  | succ fuel ih =>
    intro listed a w hfree hr hl hlm hy hS hT H
    refine ⟨fun h => (by rw [h] at hr; cases hr), fun j hj => ?_⟩
    by_cases hji : j = i
    · subst hji; exact hy.wpOp hi (hU listed w hl hS hT hlm) ⟨⟨hS, fun h => hT (by rw [hset] at h; exact h)⟩, H⟩
    · have h1 := H.2 j (ready_mono hj hji)
      obtain ⟨hjun, oj, hoj, hall⟩ := mem_ready.1 hj
      have hiun := (mem_ready.1 hr).1
      have hnot : ∀ e ∈ oj.after, Region.binds md e = true → e.on ≠ i := fun e he hb heq => by
        have h1 := hall e he hb
        rw [heq] at h1
        rcases Nat.lt_or_ge i listed.size with h' | h'
        · simp [h'] at hiun h1; rw [hiun] at h1; cases h1
        · simp [Array.getElem?_eq_none h'] at h1
      have hfree' : ∀ k ok, ops[k]? = some ok → k ≠ i → (listed.setIfInBounds j true).getD k true = false →
          (∀ e ∈ ok.after, Region.binds md e = true → e.on ≠ i) → oi.apart ops ok = true := fun k ok hk hki hun hno => by
        refine hfree k ok hk hki ?_ hno
        by_cases hjk : j = k
        · subst hjk; exact hjun
        · rw [getD_set_ne true hjk] at hun; exact hun
      have hl' : (listed.setIfInBounds j true).getD i false = false := by rw [getD_set_ne false hji]; exact hl
      have hlm' : (listed.setIfInBounds j true).getD m false = false ∨ ∀ w, S w → U w := by
        rcases hlm with h | h
        · rcases hm with h2 | ⟨om, hom, e, he, hb, hon⟩
          · exact .inr h2
          · refine .inl ?_
            have hjm : j ≠ m := fun e2 => by
              subst e2
              rw [hom] at hoj
              cases hoj
              exact hnot e he hb hon
            rw [getD_set_ne false hjm]; exact h
        · exact .inr h
      have h2 := wpOp_putIf hoj (hfree j oj hoj hji hjun hnot) (fun cs b => hsel i oi cs b hi) (fun cs b => hsel j oj cs b hoj) hQ hy h1
      refine wpOp_mono (fun a' w' h3 => ?_) h2
      have hT' : (listed.setIfInBounds j true).getD m false = false → T w' := fun hm' => h3.2.1.2 (by
        rw [Array.setIfInBounds_comm _ _ (Ne.symm hji), hset]; exact hm')
      refine ⟨⟨h3.2.1.1, hT'⟩, ih (listed.setIfInBounds j true) a' w' hfree' (ready_mono hr (Ne.symm hji)) hl' hlm' h3.1 h3.2.1.1 hT' ?_⟩
      rw [Array.setIfInBounds_comm _ _ hji]
      exact h3.2.2
theorem wpAny2_take {i : Nat} {oi : Oper} {v : Value} {fuel : Nat} {listed : Array Bool} {a : Act} {w : World} (hi : ops[i]? = some oi) (hmi : m ≠ i) (hl : listed.getD i false = false)
    (hs : Region.noSelect ops = true) (hf : Region.free md ops listed i = true) (hr : (Region.ready md ops listed).contains i = true)
    (hQ : ∀ c a w, Q (.panic c) (a.put oi.dst v) w → Q (.panic c) a w) (hS : S w) (hT : listed.getD m false = false → T w) (hy : YieldsIf P ops S oi v a)
    (h : wpAny2 P md ops Q S T m fuel (listed.setIfInBounds i true) (a.put oi.dst v) w) : wpAny2 P md ops Q S T m (fuel + 1) listed a w :=
  wpAny2_first (U := S) hi (Region.noSelect_spec hs) hQ hmi (fun _ _ _ h _ _ => h) (.inl fun _ h => h) fuel listed a w (Region.free_spec hi hf) (by simpa using hr) hl (.inr fun _ h => h) hy hS hT h
theorem wpAny2_load {i : Nat} {oi om : Oper} {v : Value} {fuel : Nat} {listed : Array Bool} {a : Act} {w : World} (hi : ops[i]? = some oi) (hmi : m ≠ i) (hl : listed.getD i false = false)
    (hs : Region.noSelect ops = true) (hf : Region.free md ops listed i = true) (hr : (Region.ready md ops listed).contains i = true) (hom : ops[m]? = some om) (hwait : (om.after.any fun e => Region.binds md e && e.on == i) = true) (hlm : listed.getD m false = false)
    (hQ : ∀ c a w, Q (.panic c) (a.put oi.dst v) w → Q (.panic c) a w) (hS : S w) (hT : T w) (hy : YieldsIf P ops T oi v a)
    (h : wpAny2 P md ops Q S T m fuel (listed.setIfInBounds i true) (a.put oi.dst v) w) : wpAny2 P md ops Q S T m (fuel + 1) listed a w := by
  refine wpAny2_first (U := T) hi (Region.noSelect_spec hs) hQ hmi (fun _ _ _ _ h1 h2 => h2.elim (fun h => h1 h) (fun h => h _ ‹_›)) (.inr ⟨om, hom, ?_⟩) fuel listed a w (Region.free_spec hi hf) (by simpa using hr) hl (.inl hlm) hy hS (fun _ => hT) h
  obtain ⟨j, hj, he⟩ := Array.any_eq_true.1 hwait
  simp only [Bool.and_eq_true, beq_iff_eq] at he
  exact ⟨om.after[j], Array.getElem_mem hj, he.1, he.2⟩
theorem wpAny2_one {i : Nat} {o : Oper} {fuel : Nat} {listed : Array Bool} {a : Act} {w : World} (hr : Region.ready md ops listed = [i]) (ho : ops[i]? = some o)
    (h : ∀ K' : Act → World → Prop, Shut (∀ a w, S w → ((listed.setIfInBounds i true).getD m false = false → T w) → wpAny2 P md ops Q S T m fuel (listed.setIfInBounds i true) a w → K' a w) → if Region.wanted o (yielded ops a.tmps) = true then Oper.wp P o a w K' Q else K' (a.put o.dst undef) w) :
    wpAny2 P md ops Q S T m (fuel + 1) listed a w :=
  ⟨fun h0 => absurd (hr ▸ h0) (by simp), fun j hj => by
    rw [hr] at hj
    obtain rfl := List.mem_singleton.1 hj
    exact wpOp_step ho (fun K' hK => h K' (fun a w hS hT hW => hK a w ⟨⟨hS, hT⟩, hW⟩))⟩
theorem wpAny2_two {i j : Nat} {o o' : Oper} {fuel : Nat} {listed : Array Bool} {a : Act} {w : World} (hr : Region.ready md ops listed = [i, j]) (ho : ops[i]? = some o) (ho' : ops[j]? = some o')
    (h : ∀ K' : Act → World → Prop, Shut (∀ a w, S w → ((listed.setIfInBounds i true).getD m false = false → T w) → wpAny2 P md ops Q S T m fuel (listed.setIfInBounds i true) a w → K' a w) → if Region.wanted o (yielded ops a.tmps) = true then Oper.wp P o a w K' Q else K' (a.put o.dst undef) w)
    (h' : ∀ K' : Act → World → Prop, Shut (∀ a w, S w → ((listed.setIfInBounds j true).getD m false = false → T w) → wpAny2 P md ops Q S T m fuel (listed.setIfInBounds j true) a w → K' a w) → if Region.wanted o' (yielded ops a.tmps) = true then Oper.wp P o' a w K' Q else K' (a.put o'.dst undef) w) :
    wpAny2 P md ops Q S T m (fuel + 1) listed a w :=
  ⟨fun h0 => absurd (hr ▸ h0) (by simp), fun k hk => by
    rw [hr] at hk
    rcases List.mem_cons.1 hk with rfl | hk
    · exact wpOp_step ho (fun K' hK => h K' (fun a w hS hT hW => hK a w ⟨⟨hS, hT⟩, hW⟩))
    · obtain rfl := List.mem_singleton.1 hk
      exact wpOp_step ho' (fun K' hK => h' K' (fun a w hS hT hW => hK a w ⟨⟨hS, hT⟩, hW⟩))⟩
theorem wpAny2_done {listed : Array Bool} {a : Act} {w : World} (hr : Region.ready md ops listed = []) (h : Q .normal a w) : ∀ fuel, wpAny2 P md ops Q S T m fuel listed a w
  | 0 => ⟨hr, h⟩
  | _ + 1 => ⟨fun _ => h, by rw [hr]; simp⟩
theorem wp_region_2 (S T : World → Prop) (m : Nat) {id : Nat} {a : Act} {w : World} (hm : P.follows .mixedOrders = true)
    (h : wpAny2 P .any ops Q S T m ops.size (Array.replicate ops.size false) a w.drew) : (Code.region id ops true).wp P Q a w :=
  wp_region_any hm (wpAny_of_2 _ _ _ _ h)
end
end Go
