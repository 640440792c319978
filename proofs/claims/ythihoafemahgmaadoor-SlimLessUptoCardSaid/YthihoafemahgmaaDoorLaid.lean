/- From the row's condition on package-level variables to known memory: all of memory as the call finds it. -/
import Derived.Test.YthihoafemahgmaaDoorKn
import Derived.ProofKit
import Derived.Stop.LaidErr
import Derived.SliceStrings
import Derived.LaidHandle
import Derived.Test.YthihoafemahgmaaDoorProg
import Derived.Test.YthihoafemahgmaaDoorSen
import Derived.Test.YthihoafemahgmaaDoorArity
import Derived.OpenShut
import Derived.Test.YthihoafemahgmaaDoorRows
namespace Go.Proofs.YthihoafemahgmaaDoor
open Go.RowKit Go.ChangeShapes
def VarReads (P : Program) (w : World) (n : String) (d : DataW Unit) : Prop :=
  ∃ g t cs fuel p, P.globalNamed n = some g ∧ (P.globals[g]?).map (·.type) = some t ∧ w.var? P n = some cs ∧ DataW.trod (fun _ => ()) P w 0 (fun _ => true) false fuel t cs.toList = some (d, p)
theorem laidVars_mem {P : Program} {w : World} : ∀ {l : List (String × DataW Unit)} {ps : List MemPlace}, DataW.LaidVars P w l ps → ∀ x ∈ l, VarReads P w x.1 x.2
  | [], _, _, x, hx => by cases hx
  | (n, d) :: r, ps, h, x, hx => by
    obtain ⟨g, t, cs, fuel, p, q, h1, h2, h3, h4, h5, _⟩ := h
    rcases List.mem_cons.1 hx with rfl | hx
    · exact ⟨g, t, cs, fuel, p, h1, h2, h3, h4⟩
    · exact laidVars_mem h5 x hx
theorem laidMet_reads {P : Program} {w : World} {l : List (String × DataW Unit)} (h : laidMet P l w) {n : String} {d : DataW Unit} (hx : (n, d) ∈ l) : VarReads P w n d := by
  obtain ⟨ps, hv, _⟩ := h
  exact laidVars_mem hv (n, d) hx
theorem laidMetH_met {P : Program} {w : World} {l : List (String × DataW Unit)} (h : laidMetH P l w) : laidMet P (l.filter fun x => x.2.handleName?.isNone) w := by
  unfold laidMetH at h
  split at h
  · rename_i he
    have : l.filter (fun x => x.2.handleName?.isNone) = l := by
      rw [List.filter_eq_self]
      intro a ha
      rw [List.filter_eq_nil_iff] at he
      have := he a ha
      simpa using this
    rw [this]; exact h
  · exact h.1
end Go.Proofs.YthihoafemahgmaaDoor
namespace Go.Proofs.YthihoafemahgmaaDoor
open Go.RowKit Go.ChangeShapes
def sentE (x : String × List UInt8) : String × DataW Unit := (x.1, .iface "*errors.errorString" (.ptr (.agg [.lit (.string x.2)])))
theorem cell_place {a : Addr} {W : World} {s : ByteArray} (h : W.cell? a = some (.string s)) : a.spot = none := by
  unfold World.cell? at h
  split at h
  · cases hsp : a.spot with
    | none => rfl
    | some x => rw [hsp] at h; simp at h
  · cases h
theorem row_one {a : Addr} : MemPlace.row a 1 = [MemPlace.cell a.block a.off] := by
  simp [MemPlace.row]
theorem star : ("*errors.errorString" : String) = "*" ++ "errors.errorString" := by decide
theorem name_sent : ∀ u, Tryd.prog.typeName? 3 u = some "*errors.errorString" → u = 135 := fun u h =>
  typeName_ptr_named (nm := "errors.errorString") (by rw [← star]; kernel_rfl) (by kernel_rfl) (by decide) u (by rw [← star]; exact h)
set_option maxRecDepth 100000 in
theorem sents_list {W : World} : ∀ (L : List (String × List UInt8)) (ps : List MemPlace), DataW.LaidVars Tryd.prog W (L.map sentE) ps → ps.Nodup →
    (∀ b off, MemPlace.cell b off ∈ ps → (∃ c t, W.heap[b]? = some (.cells c t (0, 0))) ∧ ∀ u v, W.cell? ⟨b, off, none⟩ = some (.iface u v) → Value.okWide Tryd.prog W .any 0 u v) →
    (∀ x ∈ L, ∃ g, Tryd.prog.globalNamed x.1 = some g ∧ (Tryd.prog.globals[g]?).map (·.type) = some 36) →
    ∃ p : Nat → Addr, (∀ i x, L[i]? = some x → W.var? Tryd.prog x.1 = some #[.iface 135 (.pointer (some (p i)))] ∧ (∃ s, W.cell? (p i) = some (.string s) ∧ s.data.toList = x.2) ∧
        (∃ c t, W.heap[(p i).block]? = some (.cells c t (0, 0))) ∧ MemPlace.cell (p i).block (p i).off ∈ ps) ∧
      ∀ i j, i < L.length → j < L.length → p i = p j → i = j
  | [], _, _, _, _, _ => ⟨fun _ => ⟨0, 0, none⟩, fun i x h => by simp at h, fun i _ h => by simp at h⟩
  | x :: r, ps, hv, hnd, hrows, hg => by
    obtain ⟨g0, t0, cs0, f0, p0, q0, hg0, ht0, hv0, hd0, hq, e0⟩ := hv
    subst e0
    obtain ⟨g, hg1, ht1⟩ := hg x (List.mem_cons_self ..)
    obtain rfl := Option.some.inj (hg1.symm.trans hg0)
    obtain rfl := Option.some.inj (ht1.symm.trans ht0)
    have ok0 : ∀ u v, cs0.toList = [.iface u v] → Value.okWide Tryd.prog W .any 0 u v := fun u v e => by
      obtain ⟨l0⟩ := cs0
      simp only at e
      subst e
      exact (hrows g 0 (by simp [MemPlace.row])).2 u v (by simpa using World.var?_cell hg0 hv0 0)
    obtain ⟨a, s, hcs, hc, hs, _, hp0⟩ := errorString_of_trod Tryd.underlying36 name_sent Tryd.underlying135 Tryd.underlying154 rfl rfl Tryd.underlying9 (by kernel_rfl) (by kernel_rfl) hd0 ok0
    subst hp0
    have hcs' : cs0 = #[.iface 135 (.pointer (some a))] := by
      obtain ⟨l0⟩ := cs0
      simp only at hcs
      rw [hcs]
    subst hcs'
    rw [row_one] at hnd hrows
    obtain ⟨p, hp, hinj⟩ := sents_list r q0 hq (List.Nodup.sublist (List.sublist_append_right _ _) hnd) (fun b off hm => hrows b off (List.mem_append_right _ hm)) (fun y hy => hg y (List.mem_cons_of_mem _ hy))
    have hna : MemPlace.cell a.block a.off ∉ q0 := by
      rw [List.append_assoc, List.nodup_append] at hnd
      have := (List.nodup_append.1 hnd.2.1).2.2
      intro hm
      exact this _ (List.mem_singleton.2 rfl) _ hm rfl
    refine ⟨fun | 0 => a | i + 1 => p i, ?_, ?_⟩
    · intro i y hy
      match i with
      | 0 =>
        simp only [List.getElem?_cons_zero, Option.some.injEq] at hy
        subst hy
        exact ⟨hv0, ⟨s, hc, hs⟩, (hrows a.block a.off (by simp)).1, by simp [row_one]⟩
      | i + 1 =>
        have h := hp i y (by simpa using hy)
        exact ⟨h.1, h.2.1, h.2.2.1, List.mem_append_right _ h.2.2.2⟩
    · intro i j hi hj hij
      match i, j with
      | 0, 0 => rfl
      | 0, j + 1 =>
        have h := (hp j _ (List.getElem?_eq_getElem (by simpa using hj))).2.2.2
        simp only at hij
        rw [← hij] at h
        exact absurd h hna
      | i + 1, 0 =>
        have h := (hp i _ (List.getElem?_eq_getElem (by simpa using hi))).2.2.2
        simp only at hij
        rw [hij] at h
        exact absurd h hna
      | i + 1, j + 1 => rw [hinj i j (by simpa using hi) (by simpa using hj) hij]
theorem laidVars_sub {P : Program} {w : World} {l' l : List (String × DataW Unit)} (hs : l'.Sublist l) : ∀ ps, DataW.LaidVars P w l ps → ∃ qs, DataW.LaidVars P w l' qs ∧ qs.Sublist ps := by
  induction hs with
  | slnil => intro ps h; exact ⟨ps, h, List.Sublist.refl _⟩
  | cons x _ ih =>
    intro ps h
    obtain ⟨n, d⟩ := x
    obtain ⟨g, t, cs, fuel, p, q, _, _, _, _, hq, rfl⟩ := h
    obtain ⟨qs, h1, h2⟩ := ih q hq
    exact ⟨qs, h1, h2.trans (List.sublist_append_right _ _)⟩
  | cons_cons x _ ih =>
    intro ps h
    obtain ⟨n, d⟩ := x
    obtain ⟨g, t, cs, fuel, p, q, h1, h2, h3, h4, hq, rfl⟩ := h
    obtain ⟨qs, h5, h6⟩ := ih q hq
    exact ⟨_, ⟨g, t, cs, fuel, p, qs, h1, h2, h3, h4, h5, rfl⟩, (List.Sublist.refl _).append h6⟩
theorem laidMet_sub {P : Program} {w : World} {l' l : List (String × DataW Unit)} (hs : l'.Sublist l) (h : laidMet P l w) : laidMet P l' w := by
  obtain ⟨ps, hv, hn, hr⟩ := h
  obtain ⟨qs, h1, h2⟩ := laidVars_sub hs ps hv
  exact ⟨qs, h1, hn.sublist h2, fun b off hm => hr b off (h2.subset hm)⟩
end Go.Proofs.YthihoafemahgmaaDoor
namespace Go.Proofs.YthihoafemahgmaaDoor
open Go.RowKit Go.ChangeShapes
def senT5 : Nat → String × List UInt8
  | 0 => ("lustrum/api.ErrBound", [108, 117, 115, 116, 114, 117, 109, 58, 32, 98, 111, 117, 110, 100])
  | 1 => ("lustrum/api.ErrShape", [108, 117, 115, 116, 114, 117, 109, 58, 32, 115, 104, 97, 112, 101])
  | 2 => ("lustrum/api.ErrType", [108, 117, 115, 116, 114, 117, 109, 58, 32, 116, 121, 112, 101])
  | 3 => ("lustrum/api.ErrCycle", [108, 117, 115, 116, 114, 117, 109, 58, 32, 99, 121, 99, 108, 101])
  | _ => ("lustrum/api.ErrFirst", [108, 117, 115, 116, 114, 117, 109, 58, 32, 102, 105, 114, 115, 116])
def gErr5 : Nat → Nat
  | 0 => 1
  | 1 => 0
  | 2 => 2
  | 3 => 4
  | _ => 3
theorem sen5_glob (i : Nat) (hi : i < 5) : Tryd.prog.globalNamed (senT5 i).1 = some (gErr5 i) ∧ (Tryd.prog.globals[gErr5 i]?).map (·.type) = some 36 := by
  match i, hi with
  | 0, _ => exact ⟨by kernel_rfl, by kernel_rfl⟩
  | 1, _ => exact ⟨by kernel_rfl, by kernel_rfl⟩
  | 2, _ => exact ⟨by kernel_rfl, by kernel_rfl⟩
  | 3, _ => exact ⟨by kernel_rfl, by kernel_rfl⟩
  | 4, _ => exact ⟨by kernel_rfl, by kernel_rfl⟩
theorem sen5_of {W : World} {l : List (String × DataW Unit)} (h : laidMet Tryd.prog l W) (ord : List Nat) (hlt : ∀ i ∈ ord, i < 5) (hidx : ∀ i, i < 5 → ord[ord.idxOf i]? = some i)
    (hs : ((ord.map senT5).map sentE).Sublist l) : ∃ p, Sen5 W p := by
  obtain ⟨ps, hv, hn, hr⟩ := laidMet_sub hs h
  obtain ⟨p, hp, hinj⟩ := sents_list (ord.map senT5) ps hv hn hr (fun x hx => by
    obtain ⟨i, hi, rfl⟩ := List.mem_map.1 hx
    exact ⟨gErr5 i, sen5_glob i (hlt i hi)⟩)
  have key : ∀ i, i < 5 → W.cell? ⟨gErr5 i, 0, none⟩ = some (.iface 135 (.pointer (some (p (ord.idxOf i))))) := fun i hi => by
    have h1 := hp (ord.idxOf i) (senT5 i) (by rw [List.getElem?_map, hidx i hi]; rfl)
    have := World.var?_cell (sen5_glob i hi).1 h1.1 0
    simpa using this
  have hbig : 5 ≤ W.heap.size := by
    have lt : ∀ i, i < 5 → gErr5 i < W.heap.size := fun i hi => World.block_lt_of_cell? W _ (key i hi)
    have a0 := lt 0 (by omega)
    have a1 := lt 1 (by omega)
    have a2 := lt 2 (by omega)
    have a3 := lt 3 (by omega)
    have a4 := lt 4 (by omega)
    simp only [gErr5] at a0 a1 a2 a3 a4
    omega
  exact ⟨fun | 1 => p (ord.idxOf 0) | 2 => p (ord.idxOf 1) | 4 => p (ord.idxOf 2) | 5 => p (ord.idxOf 3) | _ => p (ord.idxOf 4), ⟨key 0 (by omega), key 1 (by omega), key 2 (by omega), key 3 (by omega), key 4 (by omega), hbig⟩⟩
end Go.Proofs.YthihoafemahgmaaDoor
namespace Go.Proofs.YthihoafemahgmaaDoor
open Go.RowKit Go.ChangeShapes Mx
theorem strs_of_trod {P : Program} {w : World} {ls : List (List UInt8)} {t e fuel : Nat} {cs : List Value} {p : List MemPlace} (h4 : DataW.trod (fun _ => ()) P w 0 (fun _ => true) false fuel t cs = some (.slice (ls.map fun l => .lit (.string l)) [], p))
    (hs : P.underlying t = some (.slice e)) (he : P.underlying e = some .string) (hce : P.cellsOf e = 1) (hne : ls ≠ []) : ∃ v, cs = [v] ∧ StrsAt (allKn w) v (ls.map fun l => ⟨l.toArray⟩) := by
  rcases open_strings hs he hce h4 with ⟨rfl, hx⟩ | ⟨a, len, cap, ss, rfl, _, hlc, hcm, hl, hx, hcell, hsz⟩
  · simp at hx
  · simp only [Prod.mk.injEq, DataW.slice.injEq] at hx
    obtain ⟨⟨hx1, hx2⟩, _⟩ := hx
    have hlen : ss.length = cap := by simpa using hl
    have hd : ss.drop len = [] := by
      have := congrArg List.length hx2
      simp [strs] at this
      exact List.drop_eq_nil_of_le (by omega)
    have hlen2 : len = cap := by
      have := congrArg List.length hd
      simp at this
      omega
    have ht : ss.take len = ss := by rw [List.take_of_length_le]; omega
    rw [ht] at hx1
    have hmap : ls = ss.map fun s => s.data.toList := by
      have := congrArg (List.map fun d : DataW Unit => match d with | .lit (.string l) => l | _ => []) hx1
      simpa [strs, Function.comp_def] using this
    have hss : (ls.map fun l => (⟨l.toArray⟩ : ByteArray)) = ss := by
      rw [hmap, List.map_map]
      conv => rhs; rw [← List.map_id ss]
      exact List.map_congr_left fun s _ => by simp
    rw [hss]
    refine ⟨_, rfl, .inr ?_⟩
    have hpos : 0 < ss.length := by
      cases ss with
      | nil => simp at hmap; exact absurd hmap hne
      | cons a l => simp
    have hspot : a.spot = none := by
      have h0 := hcell 0 hpos
      have e0 : a.add 0 = a := by unfold Addr.add; simp
      rw [e0] at h0
      unfold World.cell? at h0
      split at h0
      · cases hsp : a.spot with
        | none => rfl
        | some x => rw [hsp] at h0; simp at h0
      · cases h0
    obtain ⟨b, off, sp⟩ := a
    dsimp only at hspot
    subst hspot
    refine ⟨b, off, cap, by rw [hlen, hlen2], by omega, hcm, fun i hi => ?_⟩
    have h0 := hcell i hi
    have ea : (⟨b, off, none⟩ : Addr).add i = ⟨b, off + i, none⟩ := by unfold Addr.add; split <;> simp_all
    rw [ea] at h0
    show (allKn w).cell b (off + i * 1 + 0) = _
    rw [allKn_cell, Nat.mul_one, Nat.add_zero, h0, List.getElem?_eq_getElem hi]
    simp [List.getD, List.getElem?_eq_getElem hi]
set_option maxHeartbeats 1000000 in
set_option maxRecDepth 100000 in
theorem levels_of {w : World} (h : VarReads Tryd.prog w "lustrum/tree.levels" Rows.laid_lustrum_tree_levels) : LevelsAt (allKn w) := by
  obtain ⟨g', t', cs, fuel, p, h1, h2, h3, h4⟩ := h
  have hg : Tryd.prog.globalNamed "lustrum/tree.levels" = some 5 := by kernel_rfl
  obtain rfl := Option.some.inj (hg.symm.trans h1)
  have ht : (Tryd.prog.globals[5]?).map (·.type) = some 117 := by kernel_rfl
  obtain rfl := Option.some.inj (ht.symm.trans h2)
  have hc : ∀ i, w.cell? ⟨5, i, none⟩ = cs[i]? := fun i => World.var?_cell hg h3 i
  obtain ⟨xs, m, rfl, hx, hlen, hxl, hel⟩ := DataW.trod_array Tryd.underlying117 h4
  have hce : Tryd.prog.cellsOf 23 = 1 := by kernel_rfl
  have hcs : Tryd.prog.cellsOf 9 = 1 := by kernel_rfl
  have hca : Tryd.prog.cellsOf 117 = 5 := by kernel_rfl
  rw [hca] at hlen
  rw [hce] at hel
  have hmap : xs.map (·.1) = [.slice [.lit (.string [111, 114]), .lit (.string [120, 111, 114])] [], .slice [.lit (.string [97, 110, 100])] [], .slice [.lit (.string [61]), .lit (.string [60, 62]), .lit (.string [60]), .lit (.string [60, 61]), .lit (.string [62]), .lit (.string [62, 61]), .lit (.string [61, 62])] [], .slice [.lit (.string [43]), .lit (.string [45])] [], .slice [.lit (.string [42]), .lit (.string [47]), .lit (.string [109, 111, 100])] []] := by
    have := congrArg Prod.fst hx
    simp only [Rows.laid_lustrum_tree_levels, DataW.agg.injEq] at this
    exact this.symm
  have hblk : ∃ t fr, w.heap[5]? = some (.cells cs t fr) := by
    simp only [World.var?, hg, Option.bind_some] at h3
    split at h3
    · rename_i c t fr he
      cases h3
      exact ⟨t, fr, he⟩
    · cases h3
  obtain ⟨tb, fr, hblk⟩ := hblk
  clear hx h4 hc h3 h1 h2 ht hg
  obtain ⟨cl⟩ := cs
  obtain ⟨c0, c1, c2, c3, c4, rfl⟩ : ∃ c0 c1 c2 c3 c4, cl = [c0, c1, c2, c3, c4] := by
    match cl, hlen with
    | [c0, c1, c2, c3, c4], _ => exact ⟨_, _, _, _, _, rfl⟩
  obtain ⟨⟨d0, p0⟩, ⟨d1, p1⟩, ⟨d2, p2⟩, ⟨d3, p3⟩, ⟨d4, p4⟩, rfl⟩ : ∃ x0 x1 x2 x3 x4, xs = [x0, x1, x2, x3, x4] := by
    match xs, hxl with
    | [x0, x1, x2, x3, x4], _ => exact ⟨_, _, _, _, _, rfl⟩
  simp only [List.map_cons, List.map_nil, List.cons.injEq, and_true] at hmap
  obtain ⟨m0, m1, m2, m3, m4⟩ := hmap
  subst m0 m1 m2 m3 m4
  obtain ⟨_, e0, s0⟩ := strs_of_trod (ls := [[111, 114], [120, 111, 114]]) (hel 0 (by decide)) Tryd.underlying23 Tryd.underlying9 hcs (by simp)
  obtain ⟨_, e1, s1⟩ := strs_of_trod (ls := [[97, 110, 100]]) (hel 1 (by decide)) Tryd.underlying23 Tryd.underlying9 hcs (by simp)
  obtain ⟨_, e2, s2⟩ := strs_of_trod (ls := [[61], [60, 62], [60], [60, 61], [62], [62, 61], [61, 62]]) (hel 2 (by decide)) Tryd.underlying23 Tryd.underlying9 hcs (by simp)
  obtain ⟨_, e3, s3⟩ := strs_of_trod (ls := [[43], [45]]) (hel 3 (by decide)) Tryd.underlying23 Tryd.underlying9 hcs (by simp)
  obtain ⟨_, e4, s4⟩ := strs_of_trod (ls := [[42], [47], [109, 111, 100]]) (hel 4 (by decide)) Tryd.underlying23 Tryd.underlying9 hcs (by simp)
  simp at e0 e1 e2 e3 e4
  subst e0 e1 e2 e3 e4
  exact ⟨_, _, _, _, _, _, _, hblk, s0, s1, s2, s3, s4⟩
end Go.Proofs.YthihoafemahgmaaDoor
