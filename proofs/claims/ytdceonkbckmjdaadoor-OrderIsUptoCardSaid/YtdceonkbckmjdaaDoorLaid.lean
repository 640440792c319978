/- From the row's condition on package-level variables to known memory: all of memory as the call finds it. -/
import Derived.Test.YtdceonkbckmjdaaDoorKn
import Derived.ProofKit
import Derived.Stop.LaidErr
import Derived.SliceStrings
namespace Go.Proofs.YtdceonkbckmjdaaDoor
open Go.RowKit Go.ChangeShapes

/-- What the list says of one variable. -/
def VarReads (P : Program) (w : World) (n : String) (d : DataW Unit) : Prop :=
  ∃ g t cs fuel p, P.globalNamed n = some g ∧ (P.globals[g]?).map (·.type) = some t ∧ w.var? P n = some cs ∧ DataW.trod (fun _ => ()) P w 0 (fun _ => true) false fuel t cs.toList = some (d, p)
theorem laidVars_mem {P : Program} {w : World} : ∀ {l : List (String × DataW Unit)} {ps : List MemPlace}, DataW.LaidVars P w l ps → ∀ x ∈ l, VarReads P w x.1 x.2
  | [], _, _, x, hx => by cases hx
  | (n, d) :: r, ps, h, x, hx => by
    obtain ⟨g, t, cs, fuel, p, q, h1, h2, h3, h4, h5, _⟩ := h
    rcases List.mem_cons.1 hx with rfl | hx
    · exact ⟨g, t, cs, fuel, p, h1, h2, h3, h4⟩
    · exact laidVars_mem h5 x hx
theorem laidMet_reads {P : Program} {w : World} {l : List (String × DataW Unit)} (h : laidMet P l w) {n : String} {d : DataW Unit} (hx : (n, d) ∈ l) : VarReads P w n d := by
  obtain ⟨ps, hv, _⟩ := h
  exact laidVars_mem hv (n, d) hx
theorem laidMetH_met {P : Program} {w : World} {l : List (String × DataW Unit)} (h : laidMetH P l w) : laidMet P (l.filter fun x => x.2.handleName?.isNone) w := by
  unfold laidMetH at h
  split at h
  · rename_i he
    have : l.filter (fun x => x.2.handleName?.isNone) = l := by
      rw [List.filter_eq_self]
      intro a ha
      rw [List.filter_eq_nil_iff] at he
      have := he a ha
      simpa using this
    rw [this]; exact h
  · exact h.1

/-- A sentinel: its variable holds an interface value. -/
theorem reads_iface {P : Program} {w : World} {n nm : String} {d : DataW Unit} {g t : Nat} {ms : Array (String × TypeId)} (h : VarReads P w n (.iface nm d)) (hg : P.globalNamed n = some g) (ht : (P.globals[g]?).map (·.type) = some t)
    (hi : P.underlying t = some (.interface ms)) : ∃ te pe, w.cell? ⟨g, 0, none⟩ = some (.iface te pe) := by
  obtain ⟨g', t', cs, fuel, p, h1, h2, h3, h4⟩ := h
  obtain rfl := Option.some.inj (hg.symm.trans h1)
  obtain rfl := Option.some.inj (ht.symm.trans h2)
  have hc := World.var?_cell hg h3 0
  obtain ⟨cs⟩ := cs
  cases fuel with
  | zero => simp [DataW.trod] at h4
  | succ fuel =>
    simp only [DataW.trod, hi] at h4
    split at h4
    all_goals first | (simp at h4; done) | skip
    all_goals simp_all
/-- A table of strings. -/
theorem reads_strs {P : Program} {w : World} {n : String} {ls : List (List UInt8)} {g t e : Nat} (h : VarReads P w n (.slice (ls.map fun l => .lit (.string l)) [])) (hg : P.globalNamed n = some g) (ht : (P.globals[g]?).map (·.type) = some t)
    (hs : P.underlying t = some (.slice e)) (he : P.underlying e = some .string) (hce : P.cellsOf e = 1) (hne : ls ≠ []) : ∃ v, w.cell? ⟨g, 0, none⟩ = some v ∧ StrsAt (allKn w) v (ls.map fun l => ⟨l.toArray⟩) := by
  obtain ⟨g', t', cs, fuel, p, h1, h2, h3, h4⟩ := h
  obtain rfl := Option.some.inj (hg.symm.trans h1)
  obtain rfl := Option.some.inj (ht.symm.trans h2)
  have hc := World.var?_cell hg h3 0
  obtain ⟨cs⟩ := cs
  rcases open_strings hs he hce h4 with ⟨rfl, hx⟩ | ⟨a, len, cap, ss, rfl, _, hlc, hcm, hl, hx, hcell, hsz⟩
  · simp at hx
  · simp only [Prod.mk.injEq, DataW.slice.injEq] at hx
    obtain ⟨⟨hx1, hx2⟩, _⟩ := hx
    have hlen : ss.length = cap := by simpa using hl
    have hd : ss.drop len = [] := by
      have := congrArg List.length hx2
      simp [strs] at this
      exact List.drop_eq_nil_of_le (by omega)
    have hlen2 : len = cap := by
      have := congrArg List.length hd
      simp at this
      omega
    have ht : ss.take len = ss := by rw [List.take_of_length_le]; omega
    rw [ht] at hx1
    have hmap : ls = ss.map fun s => s.data.toList := by
      have := congrArg (List.map fun d : DataW Unit => match d with | .lit (.string l) => l | _ => []) hx1
      simpa [strs, Function.comp_def] using this
    have hss : (ls.map fun l => (⟨l.toArray⟩ : ByteArray)) = ss := by
      rw [hmap, List.map_map]
      conv => rhs; rw [← List.map_id ss]
      exact List.map_congr_left fun s _ => by simp
    rw [hss]
    refine ⟨_, hc, .inr ?_⟩
    have hpos : 0 < ss.length := by
      cases ss with
      | nil => simp at hmap; exact absurd hmap hne
      | cons a l => simp
    have hspot : a.spot = none := by
      have h0 := hcell 0 hpos
      have e0 : a.add 0 = a := by unfold Addr.add; simp
      rw [e0] at h0
      unfold World.cell? at h0
      split at h0
      · cases hsp : a.spot with
        | none => rfl
        | some x => rw [hsp] at h0; simp at h0
      · cases h0
    obtain ⟨b, off, sp⟩ := a
    dsimp only at hspot
    subst hspot
    refine ⟨b, off, cap, by rw [hlen, hlen2]; rfl, by omega, hcm, fun i hi => ?_⟩
    have h0 := hcell i hi
    have ea : (⟨b, off, none⟩ : Addr).add i = ⟨b, off + i, none⟩ := by unfold Addr.add; split <;> simp_all
    rw [ea] at h0
    show (allKn w).cell b (off + i * 1 + 0) = _
    rw [allKn_cell, Nat.mul_one, Nat.add_zero, h0, List.getElem?_eq_getElem hi]
    simp [List.getD, List.getElem?_eq_getElem hi]
end Go.Proofs.YtdceonkbckmjdaaDoor
