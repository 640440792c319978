/- From a row's list of sentinels (and the handle of errors.errorType) to Sents, ErrTypeLaid and the sentinels' texts. -/
import Derived.Test.YtdceonkbckmjdaaDoorCode
import Derived.Test.YtdceonkbckmjdaaDoorLaid
import Derived.Stop.LaidErr
import Derived.LaidHandle
namespace Go.Proofs.YtdceonkbckmjdaaDoor
open Go.RowKit Go.ChangeShapes

/-- One listed sentinel. -/
def sentE (x : String × List UInt8) : String × DataW Unit := (x.1, .iface "*errors.errorString" (.ptr (.agg [.lit (.string x.2)])))
theorem cell_place {a : Addr} {W : World} {s : ByteArray} (h : W.cell? a = some (.string s)) : a.spot = none := by
  unfold World.cell? at h
  split at h
  · cases hsp : a.spot with
    | none => rfl
    | some x => rw [hsp] at h; simp at h
  · cases h
theorem row_one {a : Addr} : MemPlace.row a 1 = [MemPlace.cell a.block a.off] := by
  simp [MemPlace.row]
theorem star : ("*errors.errorString" : String) = "*" ++ "errors.errorString" := by decide
theorem name_sent : ∀ u, Tryd.prog.typeName? 3 u = some "*errors.errorString" → u = 201 := fun u h =>
  typeName_ptr_named (nm := "errors.errorString") (by rw [← star]; kernel_rfl) (by kernel_rfl) (by decide) u (by rw [← star]; exact h)
set_option maxRecDepth 100000 in
theorem sents_list {W : World} : ∀ (L : List (String × List UInt8)) (ps : List MemPlace), DataW.LaidVars Tryd.prog W (L.map sentE) ps → ps.Nodup →
    (∀ b off, MemPlace.cell b off ∈ ps → (∃ c t, W.heap[b]? = some (.cells c t (0, 0))) ∧ ∀ u v, W.cell? ⟨b, off, none⟩ = some (.iface u v) → Value.okWide Tryd.prog W .any 0 u v) →
    (∀ x ∈ L, ∃ g, Tryd.prog.globalNamed x.1 = some g ∧ (Tryd.prog.globals[g]?).map (·.type) = some 36) →
    ∃ p : Nat → Addr, (∀ i x, L[i]? = some x → W.var? Tryd.prog x.1 = some #[.iface 201 (.pointer (some (p i)))] ∧ (∃ s, W.cell? (p i) = some (.string s) ∧ s.data.toList = x.2) ∧
        (∃ c t, W.heap[(p i).block]? = some (.cells c t (0, 0))) ∧ MemPlace.cell (p i).block (p i).off ∈ ps) ∧
      ∀ i j, i < L.length → j < L.length → p i = p j → i = j
  | [], _, _, _, _, _ => ⟨fun _ => ⟨0, 0, none⟩, fun i x h => by simp at h, fun i _ h => by simp at h⟩
  | x :: r, ps, hv, hnd, hrows, hg => by
    obtain ⟨g0, t0, cs0, f0, p0, q0, hg0, ht0, hv0, hd0, hq, e0⟩ := hv
    subst e0
    obtain ⟨g, hg1, ht1⟩ := hg x (List.mem_cons_self ..)
    obtain rfl := Option.some.inj (hg1.symm.trans hg0)
    obtain rfl := Option.some.inj (ht1.symm.trans ht0)
    have ok0 : ∀ u v, cs0.toList = [.iface u v] → Value.okWide Tryd.prog W .any 0 u v := fun u v e => by
      obtain ⟨l0⟩ := cs0
      simp only at e
      subst e
      exact (hrows g 0 (by simp [MemPlace.row])).2 u v (by simpa using World.var?_cell hg0 hv0 0)
    obtain ⟨a, s, hcs, hc, hs, _, hp0⟩ := errorString_of_trod Tryd.underlying36 name_sent Tryd.underlying201 Tryd.underlying224 rfl rfl Tryd.underlying9 (by kernel_rfl) (by kernel_rfl) hd0 ok0
    subst hp0
    have hcs' : cs0 = #[.iface 201 (.pointer (some a))] := by
      obtain ⟨l0⟩ := cs0
      simp only at hcs
      rw [hcs]
    subst hcs'
    rw [row_one] at hnd hrows
    obtain ⟨p, hp, hinj⟩ := sents_list r q0 hq (List.Nodup.sublist (List.sublist_append_right _ _) hnd) (fun b off hm => hrows b off (List.mem_append_right _ hm)) (fun y hy => hg y (List.mem_cons_of_mem _ hy))
    have hna : MemPlace.cell a.block a.off ∉ q0 := by
      rw [List.append_assoc, List.nodup_append] at hnd
      have := (List.nodup_append.1 hnd.2.1).2.2
      intro hm
      exact this _ (List.mem_singleton.2 rfl) _ hm rfl
    refine ⟨fun | 0 => a | i + 1 => p i, ?_, ?_⟩
    · intro i y hy
      match i with
      | 0 =>
        simp only [List.getElem?_cons_zero, Option.some.injEq] at hy
        subst hy
        exact ⟨hv0, ⟨s, hc, hs⟩, (hrows a.block a.off (by simp)).1, by simp [row_one]⟩
      | i + 1 =>
        have h := hp i y (by simpa using hy)
        exact ⟨h.1, h.2.1, h.2.2.1, List.mem_append_right _ h.2.2.2⟩
    · intro i j hi hj hij
      match i, j with
      | 0, 0 => rfl
      | 0, j + 1 =>
        have h := (hp j _ (List.getElem?_eq_getElem (by simpa using hj))).2.2.2
        simp only at hij
        rw [← hij] at h
        exact absurd h hna
      | i + 1, 0 =>
        have h := (hp i _ (List.getElem?_eq_getElem (by simpa using hi))).2.2.2
        simp only at hij
        rw [hij] at h
        exact absurd h hna
      | i + 1, j + 1 => rw [hinj i j (by simpa using hi) (by simpa using hj) hij]
end Go.Proofs.YtdceonkbckmjdaaDoor
