/- The five tables of operators, out of the row's list. -/
import Derived.Test.YtdceonkbckmjdaaDoorLaid
import Derived.Test.YtdceonkbckmjdaaDoorArity
import Derived.OpenShut
import Derived.Test.YtdceonkbckmjdaaDoorRows
namespace Go.Proofs.YtdceonkbckmjdaaDoor
open Go.RowKit Go.ChangeShapes Mx

/-- A table of strings. -/
theorem strs_of_trod {P : Program} {w : World} {ls : List (List UInt8)} {t e fuel : Nat} {cs : List Value} {p : List MemPlace} (h4 : DataW.trod (fun _ => ()) P w 0 (fun _ => true) false fuel t cs = some (.slice (ls.map fun l => .lit (.string l)) [], p))
    (hs : P.underlying t = some (.slice e)) (he : P.underlying e = some .string) (hce : P.cellsOf e = 1) (hne : ls ≠ []) : ∃ v, cs = [v] ∧ StrsAt (allKn w) v (ls.map fun l => ⟨l.toArray⟩) := by
  rcases open_strings hs he hce h4 with ⟨rfl, hx⟩ | ⟨a, len, cap, ss, rfl, _, hlc, hcm, hl, hx, hcell, hsz⟩
  · simp at hx
  · simp only [Prod.mk.injEq, DataW.slice.injEq] at hx
    obtain ⟨⟨hx1, hx2⟩, _⟩ := hx
    have hlen : ss.length = cap := by simpa using hl
    have hd : ss.drop len = [] := by
      have := congrArg List.length hx2
      simp [strs] at this
      exact List.drop_eq_nil_of_le (by omega)
    have hlen2 : len = cap := by
      have := congrArg List.length hd
      simp at this
      omega
    have ht : ss.take len = ss := by rw [List.take_of_length_le]; omega
    rw [ht] at hx1
    have hmap : ls = ss.map fun s => s.data.toList := by
      have := congrArg (List.map fun d : DataW Unit => match d with | .lit (.string l) => l | _ => []) hx1
      simpa [strs, Function.comp_def] using this
    have hss : (ls.map fun l => (⟨l.toArray⟩ : ByteArray)) = ss := by
      rw [hmap, List.map_map]
      conv => rhs; rw [← List.map_id ss]
      exact List.map_congr_left fun s _ => by simp
    rw [hss]
    refine ⟨_, rfl, .inr ?_⟩
    have hpos : 0 < ss.length := by
      cases ss with
      | nil => simp at hmap; exact absurd hmap hne
      | cons a l => simp
    have hspot : a.spot = none := by
      have h0 := hcell 0 hpos
      have e0 : a.add 0 = a := by unfold Addr.add; simp
      rw [e0] at h0
      unfold World.cell? at h0
      split at h0
      · cases hsp : a.spot with
        | none => rfl
        | some x => rw [hsp] at h0; simp at h0
      · cases h0
    obtain ⟨b, off, sp⟩ := a
    dsimp only at hspot
    subst hspot
    refine ⟨b, off, cap, by rw [hlen, hlen2], by omega, hcm, fun i hi => ?_⟩
    have h0 := hcell i hi
    have ea : (⟨b, off, none⟩ : Addr).add i = ⟨b, off + i, none⟩ := by unfold Addr.add; split <;> simp_all
    rw [ea] at h0
    show (allKn w).cell b (off + i * 1 + 0) = _
    rw [allKn_cell, Nat.mul_one, Nat.add_zero, h0, List.getElem?_eq_getElem hi]
    simp [List.getD, List.getElem?_eq_getElem hi]

set_option maxHeartbeats 1000000 in
set_option maxRecDepth 100000 in
theorem levels_of {w : World} (h : VarReads Tryd.prog w "lustrum/tree.levels" Rows.laid_lustrum_tree_levels) : LevelsAt (allKn w) := by
  obtain ⟨g', t', cs, fuel, p, h1, h2, h3, h4⟩ := h
  have hg : Tryd.prog.globalNamed "lustrum/tree.levels" = some 10 := by kernel_rfl
  obtain rfl := Option.some.inj (hg.symm.trans h1)
  have ht : (Tryd.prog.globals[10]?).map (·.type) = some 187 := by kernel_rfl
  obtain rfl := Option.some.inj (ht.symm.trans h2)
  have hc : ∀ i, w.cell? ⟨10, i, none⟩ = cs[i]? := fun i => World.var?_cell hg h3 i
  obtain ⟨xs, m, rfl, hx, hlen, hxl, hel⟩ := DataW.trod_array Tryd.underlying187 h4
  have hce : Tryd.prog.cellsOf 23 = 1 := by kernel_rfl
  have hcs : Tryd.prog.cellsOf 9 = 1 := by kernel_rfl
  have hca : Tryd.prog.cellsOf 187 = 5 := by kernel_rfl
  rw [hca] at hlen
  rw [hce] at hel
  have hmap : xs.map (·.1) = [.slice [.lit (.string [111, 114]), .lit (.string [120, 111, 114])] [], .slice [.lit (.string [97, 110, 100])] [], .slice [.lit (.string [61]), .lit (.string [60, 62]), .lit (.string [60]), .lit (.string [60, 61]), .lit (.string [62]), .lit (.string [62, 61]), .lit (.string [61, 62])] [], .slice [.lit (.string [43]), .lit (.string [45])] [], .slice [.lit (.string [42]), .lit (.string [47]), .lit (.string [109, 111, 100])] []] := by
    have := congrArg Prod.fst hx
    simp only [Rows.laid_lustrum_tree_levels, DataW.agg.injEq] at this
    exact this.symm
  have hblk : ∃ t fr, w.heap[10]? = some (.cells cs t fr) := by
    simp only [World.var?, hg, Option.bind_some] at h3
    split at h3
    · rename_i c t fr he
      cases h3
      exact ⟨t, fr, he⟩
    · cases h3
  obtain ⟨tb, fr, hblk⟩ := hblk
  clear hx h4 hc h3 h1 h2 ht hg
  obtain ⟨cl⟩ := cs
  obtain ⟨c0, c1, c2, c3, c4, rfl⟩ : ∃ c0 c1 c2 c3 c4, cl = [c0, c1, c2, c3, c4] := by
    match cl, hlen with
    | [c0, c1, c2, c3, c4], _ => exact ⟨_, _, _, _, _, rfl⟩
  obtain ⟨⟨d0, p0⟩, ⟨d1, p1⟩, ⟨d2, p2⟩, ⟨d3, p3⟩, ⟨d4, p4⟩, rfl⟩ : ∃ x0 x1 x2 x3 x4, xs = [x0, x1, x2, x3, x4] := by
    match xs, hxl with
    | [x0, x1, x2, x3, x4], _ => exact ⟨_, _, _, _, _, rfl⟩
  simp only [List.map_cons, List.map_nil, List.cons.injEq, and_true] at hmap
  obtain ⟨m0, m1, m2, m3, m4⟩ := hmap
  subst m0 m1 m2 m3 m4
  obtain ⟨_, e0, s0⟩ := strs_of_trod (ls := [[111, 114], [120, 111, 114]]) (hel 0 (by decide)) Tryd.underlying23 Tryd.underlying9 hcs (by simp)
  obtain ⟨_, e1, s1⟩ := strs_of_trod (ls := [[97, 110, 100]]) (hel 1 (by decide)) Tryd.underlying23 Tryd.underlying9 hcs (by simp)
  obtain ⟨_, e2, s2⟩ := strs_of_trod (ls := [[61], [60, 62], [60], [60, 61], [62], [62, 61], [61, 62]]) (hel 2 (by decide)) Tryd.underlying23 Tryd.underlying9 hcs (by simp)
  obtain ⟨_, e3, s3⟩ := strs_of_trod (ls := [[43], [45]]) (hel 3 (by decide)) Tryd.underlying23 Tryd.underlying9 hcs (by simp)
  obtain ⟨_, e4, s4⟩ := strs_of_trod (ls := [[42], [47], [109, 111, 100]]) (hel 4 (by decide)) Tryd.underlying23 Tryd.underlying9 hcs (by simp)
  simp at e0 e1 e2 e3 e4
  subst e0 e1 e2 e3 e4
  exact ⟨_, _, _, _, _, _, _, hblk, s0, s1, s2, s3, s4⟩
end Go.Proofs.YtdceonkbckmjdaaDoor
