/- From a row's list of sentinels (and the handle of errors.errorType) to Sents, ErrTypeLaid and the sentinels' texts. -/
import Derived.Test.YtdceonkbckmjdaaDoorCode
import Derived.Test.YtdceonkbckmjdaaDoorLaid
import Derived.Stop.LaidErr
import Derived.LaidHandle
import Derived.Test.YtdceonkbckmjdaaDoorKn
import Derived.Test.YtdceonkbckmjdaaDoorRows
namespace Go.Proofs.YtdceonkbckmjdaaDoor
open Go.RowKit Go.ChangeShapes

/-- One listed sentinel. -/
def sentE (x : String × List UInt8) : String × DataW Unit := (x.1, .iface "*errors.errorString" (.ptr (.agg [.lit (.string x.2)])))
theorem cell_place {a : Addr} {W : World} {s : ByteArray} (h : W.cell? a = some (.string s)) : a.spot = none := by
  unfold World.cell? at h
  split at h
  · cases hsp : a.spot with
    | none => rfl
    | some x => rw [hsp] at h; simp at h
  · cases h
theorem row_one {a : Addr} : MemPlace.row a 1 = [MemPlace.cell a.block a.off] := by
  simp [MemPlace.row]
theorem star : ("*errors.errorString" : String) = "*" ++ "errors.errorString" := by decide
theorem name_sent : ∀ u, Tryd.prog.typeName? 3 u = some "*errors.errorString" → u = 201 := fun u h =>
  typeName_ptr_named (nm := "errors.errorString") (by rw [← star]; kernel_rfl) (by kernel_rfl) (by decide) u (by rw [← star]; exact h)
set_option maxRecDepth 100000 in
theorem sents_list {W : World} : ∀ (L : List (String × List UInt8)) (ps : List MemPlace), DataW.LaidVars Tryd.prog W (L.map sentE) ps → ps.Nodup →
    (∀ b off, MemPlace.cell b off ∈ ps → (∃ c t, W.heap[b]? = some (.cells c t (0, 0))) ∧ ∀ u v, W.cell? ⟨b, off, none⟩ = some (.iface u v) → Value.okWide Tryd.prog W .any 0 u v) →
    (∀ x ∈ L, ∃ g, Tryd.prog.globalNamed x.1 = some g ∧ (Tryd.prog.globals[g]?).map (·.type) = some 36) →
    ∃ p : Nat → Addr, (∀ i x, L[i]? = some x → W.var? Tryd.prog x.1 = some #[.iface 201 (.pointer (some (p i)))] ∧ (∃ s, W.cell? (p i) = some (.string s) ∧ s.data.toList = x.2) ∧
        (∃ c t, W.heap[(p i).block]? = some (.cells c t (0, 0))) ∧ MemPlace.cell (p i).block (p i).off ∈ ps) ∧
      ∀ i j, i < L.length → j < L.length → p i = p j → i = j
  | [], _, _, _, _, _ => ⟨fun _ => ⟨0, 0, none⟩, fun i x h => by simp at h, fun i _ h => by simp at h⟩
  | x :: r, ps, hv, hnd, hrows, hg => by
    obtain ⟨g0, t0, cs0, f0, p0, q0, hg0, ht0, hv0, hd0, hq, e0⟩ := hv
    subst e0
    obtain ⟨g, hg1, ht1⟩ := hg x (List.mem_cons_self ..)
    obtain rfl := Option.some.inj (hg1.symm.trans hg0)
    obtain rfl := Option.some.inj (ht1.symm.trans ht0)
    have ok0 : ∀ u v, cs0.toList = [.iface u v] → Value.okWide Tryd.prog W .any 0 u v := fun u v e => by
      obtain ⟨l0⟩ := cs0
      simp only at e
      subst e
      exact (hrows g 0 (by simp [MemPlace.row])).2 u v (by simpa using World.var?_cell hg0 hv0 0)
    obtain ⟨a, s, hcs, hc, hs, _, hp0⟩ := errorString_of_trod Tryd.underlying36 name_sent Tryd.underlying201 Tryd.underlying224 rfl rfl Tryd.underlying9 (by kernel_rfl) (by kernel_rfl) hd0 ok0
    subst hp0
    have hcs' : cs0 = #[.iface 201 (.pointer (some a))] := by
      obtain ⟨l0⟩ := cs0
      simp only at hcs
      rw [hcs]
    subst hcs'
    rw [row_one] at hnd hrows
    obtain ⟨p, hp, hinj⟩ := sents_list r q0 hq (List.Nodup.sublist (List.sublist_append_right _ _) hnd) (fun b off hm => hrows b off (List.mem_append_right _ hm)) (fun y hy => hg y (List.mem_cons_of_mem _ hy))
    have hna : MemPlace.cell a.block a.off ∉ q0 := by
      rw [List.append_assoc, List.nodup_append] at hnd
      have := (List.nodup_append.1 hnd.2.1).2.2
      intro hm
      exact this _ (List.mem_singleton.2 rfl) _ hm rfl
    refine ⟨fun | 0 => a | i + 1 => p i, ?_, ?_⟩
    · intro i y hy
      match i with
      | 0 =>
        simp only [List.getElem?_cons_zero, Option.some.injEq] at hy
        subst hy
        exact ⟨hv0, ⟨s, hc, hs⟩, (hrows a.block a.off (by simp)).1, by simp [row_one]⟩
      | i + 1 =>
        have h := hp i y (by simpa using hy)
        exact ⟨h.1, h.2.1, h.2.2.1, List.mem_append_right _ h.2.2.2⟩
    · intro i j hi hj hij
      match i, j with
      | 0, 0 => rfl
      | 0, j + 1 =>
        have h := (hp j _ (List.getElem?_eq_getElem (by simpa using hj))).2.2.2
        simp only at hij
        rw [← hij] at h
        exact absurd h hna
      | i + 1, 0 =>
        have h := (hp i _ (List.getElem?_eq_getElem (by simpa using hi))).2.2.2
        simp only at hij
        rw [hij] at h
        exact absurd h hna
      | i + 1, j + 1 => rw [hinj i j (by simpa using hi) (by simpa using hj) hij]
end Go.Proofs.YtdceonkbckmjdaaDoor
/- The nine sentinels' words. -/
namespace Go.Proofs.YtdceonkbckmjdaaDoor

/-- The nine names. -/
def nm : Nat → ByteArray
  | 0 => ⟨#[116, 101, 120, 116]⟩
  | 1 => ⟨#[98, 111, 117, 110, 100]⟩
  | 2 => ⟨#[115, 104, 97, 112, 101]⟩
  | 3 => ⟨#[110, 97, 109, 101]⟩
  | 4 => ⟨#[116, 121, 112, 101]⟩
  | 5 => ⟨#[99, 121, 99, 108, 101]⟩
  | 6 => ⟨#[102, 105, 114, 115, 116]⟩
  | 7 => ⟨#[112, 114, 111, 111, 102]⟩
  | _ => ⟨#[110, 111, 110, 101]⟩
theorem nm_size (k : Nat) : (nm k).size ≤ 5 := by
  unfold nm
  split <;> decide
end Go.Proofs.YtdceonkbckmjdaaDoor
/- The nine sentinels and the handle out of any row's list. -/
namespace Go.Proofs.YtdceonkbckmjdaaDoor
open Go.RowKit Go.ChangeShapes

theorem laidVars_sub {P : Program} {w : World} {l' l : List (String × DataW Unit)} (hs : l'.Sublist l) : ∀ ps, DataW.LaidVars P w l ps → ∃ qs, DataW.LaidVars P w l' qs ∧ qs.Sublist ps := by
  induction hs with
  | slnil => intro ps h; exact ⟨ps, h, List.Sublist.refl _⟩
  | cons x _ ih =>
    intro ps h
    obtain ⟨n, d⟩ := x
    obtain ⟨g, t, cs, fuel, p, q, _, _, _, _, hq, rfl⟩ := h
    obtain ⟨qs, h1, h2⟩ := ih q hq
    exact ⟨qs, h1, h2.trans (List.sublist_append_right _ _)⟩
  | cons_cons x _ ih =>
    intro ps h
    obtain ⟨n, d⟩ := x
    obtain ⟨g, t, cs, fuel, p, q, h1, h2, h3, h4, hq, rfl⟩ := h
    obtain ⟨qs, h5, h6⟩ := ih q hq
    exact ⟨_, ⟨g, t, cs, fuel, p, qs, h1, h2, h3, h4, h5, rfl⟩, (List.Sublist.refl _).append h6⟩
theorem laidMet_sub {P : Program} {w : World} {l' l : List (String × DataW Unit)} (hs : l'.Sublist l) (h : laidMet P l w) : laidMet P l' w := by
  obtain ⟨ps, hv, hn, hr⟩ := h
  obtain ⟨qs, h1, h2⟩ := laidVars_sub hs ps hv
  exact ⟨qs, h1, hn.sublist h2, fun b off hm => hr b off (h2.subset hm)⟩

/-- A sentinel's name and text. -/
def senT : Nat → String × List UInt8
  | 0 => ("lustrum/api.ErrText", [108, 117, 115, 116, 114, 117, 109, 58, 32, 116, 101, 120, 116])
  | 1 => ("lustrum/api.ErrBound", [108, 117, 115, 116, 114, 117, 109, 58, 32, 98, 111, 117, 110, 100])
  | 2 => ("lustrum/api.ErrShape", [108, 117, 115, 116, 114, 117, 109, 58, 32, 115, 104, 97, 112, 101])
  | 3 => ("lustrum/api.ErrName", [108, 117, 115, 116, 114, 117, 109, 58, 32, 110, 97, 109, 101])
  | 4 => ("lustrum/api.ErrType", [108, 117, 115, 116, 114, 117, 109, 58, 32, 116, 121, 112, 101])
  | 5 => ("lustrum/api.ErrCycle", [108, 117, 115, 116, 114, 117, 109, 58, 32, 99, 121, 99, 108, 101])
  | 6 => ("lustrum/api.ErrFirst", [108, 117, 115, 116, 114, 117, 109, 58, 32, 102, 105, 114, 115, 116])
  | 7 => ("lustrum/api.ErrProof", [108, 117, 115, 116, 114, 117, 109, 58, 32, 112, 114, 111, 111, 102])
  | _ => ("lustrum/api.ErrNone", [108, 117, 115, 116, 114, 117, 109, 58, 32, 110, 111, 110, 101])
def gErr : Nat → Nat
  | 0 => 5
  | 1 => 3
  | 2 => 2
  | 3 => 6
  | 4 => 4
  | 5 => 0
  | 6 => 1
  | 7 => 7
  | _ => 8
theorem sen_glob (i : Nat) (hi : i < 9) : Tryd.prog.globalNamed (senT i).1 = some (gErr i) ∧ (Tryd.prog.globals[gErr i]?).map (·.type) = some 36 := by
  match i, hi with
  | 0, _ => exact ⟨by kernel_rfl, by kernel_rfl⟩
  | 1, _ => exact ⟨by kernel_rfl, by kernel_rfl⟩
  | 2, _ => exact ⟨by kernel_rfl, by kernel_rfl⟩
  | 3, _ => exact ⟨by kernel_rfl, by kernel_rfl⟩
  | 4, _ => exact ⟨by kernel_rfl, by kernel_rfl⟩
  | 5, _ => exact ⟨by kernel_rfl, by kernel_rfl⟩
  | 6, _ => exact ⟨by kernel_rfl, by kernel_rfl⟩
  | 7, _ => exact ⟨by kernel_rfl, by kernel_rfl⟩
  | 8, _ => exact ⟨by kernel_rfl, by kernel_rfl⟩
theorem sen_text (i : Nat) (hi : i < 9) : (senT i).2 = ((⟨#[108, 117, 115, 116, 114, 117, 109, 58, 32]⟩ : ByteArray) ++ nm i).data.toList := by
  match i, hi with
  | 0, _ => rfl
  | 1, _ => rfl
  | 2, _ => rfl
  | 3, _ => rfl
  | 4, _ => rfl
  | 5, _ => rfl
  | 6, _ => rfl
  | 7, _ => rfl
  | 8, _ => rfl

/-- The nine, in whatever order the row lists them. -/
theorem sents_of {W : World} {l : List (String × DataW Unit)} (h : laidMet Tryd.prog l W) (ord : List Nat) (hord : ord.length = 9) (hlt : ∀ i ∈ ord, i < 9) (hidx : ∀ i, i < 9 → ord[ord.idxOf i]? = some i)
    (hs : ((ord.map senT).map sentE).Sublist l) (hE : ErrTypeLaid W) :
    ∃ p, Sents W p ∧ ∀ i, i < 9 → W.cell? (p i) = some (.string ((⟨#[108, 117, 115, 116, 114, 117, 109, 58, 32]⟩ : ByteArray) ++ nm i)) := by
  obtain ⟨ps, hv, hn, hr⟩ := laidMet_sub hs h
  obtain ⟨p, hp, hinj⟩ := sents_list (ord.map senT) ps hv hn hr (fun x hx => by
    obtain ⟨i, hi, rfl⟩ := List.mem_map.1 hx
    exact ⟨gErr i, sen_glob i (hlt i hi)⟩)
  have key : ∀ i, i < 9 → W.cell? ⟨gErr i, 0, none⟩ = some (.iface 201 (.pointer (some (p (ord.idxOf i))))) ∧ (∃ s, W.cell? (p (ord.idxOf i)) = some (.string s) ∧ s.data.toList = (senT i).2) ∧ (∃ c t, W.heap[(p (ord.idxOf i)).block]? = some (.cells c t (0, 0))) := fun i hi => by
    have h1 := hp (ord.idxOf i) (senT i) (by rw [List.getElem?_map, hidx i hi]; rfl)
    refine ⟨?_, h1.2.1, h1.2.2.1⟩
    have := World.var?_cell (sen_glob i hi).1 h1.1 0
    simpa using this
  have hbig : 10 ≤ W.heap.size := by
    have lt : ∀ i, i < 9 → gErr i < W.heap.size := fun i hi => World.block_lt_of_cell? W _ (key i hi).1
    have a0 := lt 0 (by omega)
    have a1 := lt 1 (by omega)
    have a2 := lt 2 (by omega)
    have a3 := lt 3 (by omega)
    have a4 := lt 4 (by omega)
    have a5 := lt 5 (by omega)
    have a6 := lt 6 (by omega)
    have a7 := lt 7 (by omega)
    have a8 := lt 8 (by omega)
    have a9 := World.block_lt_of_cell? W _ hE
    simp only [gErr] at a0 a1 a2 a3 a4 a5 a6 a7 a8 a9
    omega
  refine ⟨fun i => p (ord.idxOf i), ⟨(key 0 (by omega)).1, (key 1 (by omega)).1, (key 2 (by omega)).1, (key 3 (by omega)).1, (key 4 (by omega)).1, (key 5 (by omega)).1, (key 6 (by omega)).1, (key 7 (by omega)).1, (key 8 (by omega)).1,
    fun i hi => (key i hi).2.2, fun i j hi hj e => ?_, hbig⟩, fun i hi => ?_⟩
  · have hi' : ord.idxOf i < 9 := by
      have := hidx i hi
      rcases Nat.lt_or_ge (ord.idxOf i) ord.length with h | h
      · omega
      · rw [List.getElem?_eq_none h] at this; cases this
    have hj' : ord.idxOf j < 9 := by
      have := hidx j hj
      rcases Nat.lt_or_ge (ord.idxOf j) ord.length with h | h
      · omega
      · rw [List.getElem?_eq_none h] at this; cases this
    have e2 := hinj _ _ (by rw [List.length_map, hord]; exact hi') (by rw [List.length_map, hord]; exact hj') e
    have h1 := hidx i hi
    rw [e2, hidx j hj] at h1
    exact (Option.some.inj h1).symm
  · obtain ⟨s, h1, h2⟩ := (key i hi).2.1
    show W.cell? (p (ord.idxOf i)) = _
    rw [h1]
    rw [sen_text i hi] at h2
    obtain ⟨⟨sl⟩⟩ := s
    simp only at h2
    rw [h2]

theorem one_row : ((List.range 236).filter fun t => Tryd.prog.rowNamed t [101, 114, 114, 111, 114]) = [36] := by kernel_rfl
theorem types_size : Tryd.prog.types.size = 236 := by kernel_rfl
/-- The handle of errors.errorType. -/
theorem handle_of {W : World} {l : List (String × DataW Unit)} (h : handlesMet Tryd.prog l W) (hm : ("errors.errorType", Rows.laid_errors_errorType) ∈ l) : ErrTypeLaid W := by
  obtain ⟨name, u, ty, e1, e2, e3, e4, e5⟩ := h _ hm
  have en : name = [101, 114, 114, 111, 114] := (Option.some.inj e1).symm
  subst en
  have hrt : (Tryd.prog.cutTypes.find? (·.1 == "internal/reflectlite.rtype")).map (·.2) = some 173 := by kernel_rfl
  obtain rfl := Option.some.inj (hrt.symm.trans e2)
  have hm : ty ∈ (List.range 236).filter fun t => Tryd.prog.rowNamed t [101, 114, 114, 111, 114] := List.mem_filter.2 ⟨List.mem_range.2 (by rw [← types_size]; exact e3), e4⟩
  rw [one_row] at hm
  obtain rfl := List.mem_singleton.1 hm
  have hh : typeHandle Tryd.prog 36 = .pointer (some ⟨11, 36, none⟩) := by kernel_rfl
  rw [hh] at e5
  have hg : Tryd.prog.globalNamed "errors.errorType" = some 9 := by kernel_rfl
  have := World.var?_cell hg e5 0
  unfold ErrTypeLaid
  simpa using this
end Go.Proofs.YtdceonkbckmjdaaDoor
