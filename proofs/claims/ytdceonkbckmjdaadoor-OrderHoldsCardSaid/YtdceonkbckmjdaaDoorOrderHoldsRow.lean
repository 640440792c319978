/- OrderHolds: from the walk to the row's contract, and the witness. -/
import Derived.Test.YtdceonkbckmjdaaDoorRows
import Derived.Test.YtdceonkbckmjdaaDoorHolds
import Derived.Test.YtdceonkbckmjdaaDoorLev
import Derived.Test.YtdceonkbckmjdaaDoorSentsOf
import Derived.Test.YtdceonkbckmjdaaDoorLaid
import Derived.OpenShut
import Derived.LaidMore
import Derived.Stop.Joined
import Derived.ChangeSlices
import Derived.Deep.Strs
import Derived.Deep.DeepHandedRow
import Derived.Deep.DeepWitnessRowRef
namespace Go.Proofs.YtdceonkbckmjdaaDoor.orderHolds
open Go.ChangeShapes Go.WideShapes Go.ChangeAt Go.RowKit Go.Deep

theorem own : ownKnob Tryd.prog.godebug = none := by kernel_rfl

theorem parts {W : World} (h : laidMetH Tryd.prog Rows.orderHoldsRow.laid W) : laidMet Tryd.prog (Rows.orderHoldsRow.laid.filter fun x => x.2.handleName?.isNone) W ∧ handlesMet Tryd.prog [("errors.errorType", Rows.laid_errors_errorType)] W := h

theorem cellsInt : Tryd.prog.cellsOf 3 = 1 := by kernel_rfl
theorem laidOut : laidOutB Tryd.prog = true := by as_aux_lemma => kernel_rfl
theorem addr_add (b off j : Nat) : (⟨b, off, none⟩ : Addr).add j = ⟨b, off + j, none⟩ := by unfold Addr.add; split <;> simp_all
theorem cell_placeI {a : Addr} {W : World} {k : IntKind} {n : Int} (h : W.cell? a = some (.int k n)) : a.spot = none := by
  unfold World.cell? at h
  split at h
  · cases hsp : a.spot with
    | none => rfl
    | some x => rw [hsp] at h; simp at h
  · cases h
set_option maxRecDepth 100000 in
/-- The numbers, opened. -/
theorem read_ints {H : Type} {enc : TypeId × Value → H} {W : World} {r : Reach} {b0 : Nat} {spare : Nat → Bool} {held : Bool} {v : Value} {d : DataW H} {ps : List MemPlace} (hval : Value.okWide Tryd.prog W r b0 43 v)
    (h : DataW.Trod enc Tryd.prog W 0 spare held 43 v d ps) :
    ∃ (l : List Int) (a : Option Addr) (c : Nat), v = .slice a l.length c ∧ l.length ≤ maxLen ∧ ∀ i (hi : i < l.length), ∃ b off, a = some ⟨b, off, none⟩ ∧ W.cell? ⟨b, off + i, none⟩ = some (.int .i64 l[i]) := by
  obtain ⟨o, len, cap, rfl⟩ := okWide_slice Tryd.underlying43 hval
  obtain ⟨fuel, hf⟩ := h
  have hf' : DataW.trod enc Tryd.prog W 0 spare held fuel 43 [.slice o len cap] = some (d, ps) := hf
  rcases open_ints Tryd.underlying43 Tryd.underlying3 cellsInt hf' with ⟨hcs, _⟩ | ⟨a, len1, cap1, zs, hcs, _, hlc, hcm, hz, _, hc, _⟩
  · cases hcs
    exact ⟨[], none, 0, rfl, Nat.zero_le _, fun i hi => absurd hi (by simp)⟩
  · cases hcs
    have hlz : len ≤ zs.length := by rw [hz]; split <;> omega
    refine ⟨zs.take len, some a, cap, by simp [hlz], by simp; omega, fun i hi => ?_⟩
    have hi' : i < len := by simp at hi; omega
    have hsp : a.spot = none := by
      have h2 := hc 0 (by omega)
      have e0 : a.add 0 = a := by simp [Addr.add]
      rw [e0] at h2
      exact cell_placeI h2
    obtain ⟨b, off, sp⟩ := a
    dsimp only at hsp
    subst hsp
    refine ⟨b, off, rfl, ?_⟩
    have h1 := hc i (by omega)
    rw [addr_add] at h1
    rw [h1]
    simp [List.getD_eq_getElem?_getD, List.getElem?_eq_getElem (show i < zs.length by omega)]
theorem levs {W : World} (h : laidMet Tryd.prog (Rows.orderHoldsRow.laid.filter fun x => x.2.handleName?.isNone) W) : LevelsAt (allKn W) :=
  levels_of (laidMet_reads h (List.mem_filter.2 ⟨by simp [Rows.orderHoldsRow], rfl⟩))

theorem sub : (([0, 1, 2, 3, 4, 5, 6, 7, 8].map senT).map sentE).Sublist (Rows.orderHoldsRow.laid.filter fun x => x.2.handleName?.isNone) := by
  repeat (first | exact List.nil_sublist _ | apply List.Sublist.cons_cons | apply List.Sublist.cons)

set_option maxRecDepth 100000 in
theorem contract (H : Type) (enc : TypeId × Value → H) (W : World) (base : Nat) (args : Array Value) (ds gs : List (DataW H)) (before : List MemPlace)
    (hval : ∀ (j : Nat) t v, Tryd.f5.params[j]? = some t → args[j]? = some v → Value.okWide Tryd.prog W .any base t v)
    (hW : DataW.Whole enc Tryd.prog Tryd.f5.params.toList Rows.orderHoldsSpec.vars false W args.toList ds gs before) (hL : laidMetH Tryd.prog Rows.orderHoldsRow.laid W) :
    Calls Tryd.prog 5 args W fun e W' => ∃ v, e = .returned v ∧ Rows.orderHoldsSpec.post enc Tryd.prog Tryd.f5 false true false false W args v W' := by
  have hW' := hW
  obtain ⟨p, q, hA0, hV, rfl, hfz, hnd⟩ := hW
  have hA : DataW.TrodAll enc Tryd.prog W 0 (fun _ => true) true Tryd.f5.params.toList args.toList ds p := hA0
  rw [Tryd.params5] at hA hval
  obtain ⟨v0, vs0, d0, ds0, p0, q0, hargs, rfl, rfl, h0, r0⟩ := trodAll_cons hA
  obtain ⟨rfl, rfl, rfl⟩ := trodAll_nil r0
  obtain rfl : args = #[v0] := by cases args; simp_all
  obtain ⟨rfl, rfl⟩ := trodVars_none hV
  obtain ⟨l, a, c, rfl, hl, hc⟩ := read_ints (hval 0 43 v0 rfl rfl) h0
  clear hA0
  simp only [List.append_nil] at hW'
  obtain ⟨hl1, hl2⟩ := parts hL
  have hE := handle_of hl2 (List.mem_singleton.2 rfl)
  obtain ⟨sp, S, _⟩ := sents_of hl1 [0, 1, 2, 3, 4, 5, 6, 7, 8] rfl (by decide) (by decide) sub hE
  refine (holds_T l a c W hc hl (levs hl1) sp S hE).mono fun e W' ⟨he, hg⟩ => ?_
  subst he
  exact ⟨_, rfl, _, _, _, [], _, [], hW', trodAll_cons_mk (shut_bool Tryd.underlying4 _) trodAll_mk0, trodAll_cons_mk (Below.trod laidOut (by kernel_rfl) (of_decide_eq_true (by kernel_rfl)) h0 hg (fun x hx => hW'.lt x (by simpa using hx))) trodAll_mk0, rfl,
    hg.frame _, fun h => by cases h⟩

/-- The door's own heap meets the condition: closed facts. -/
theorem door_met (os : Os) : laidMetH Tryd.prog Rows.orderHoldsRow.laid ((World.doorLaid Tryd.prog 300 os).forCall (fun _ _ => 0) ⟨#[], #[.slice none 0 0], []⟩).memory :=
  laidMetH_of_parts3 (fuel := 10) (laidMet_of_run' 10 (by kernel_rfl) (by kernel_rfl)) (by kernel_rfl) (by kernel_rfl)

set_option maxRecDepth 100000 in
theorem lifted (os : Os) (started : os.Started) (H : Type) (enc : TypeId × Value → H) :
    ReturnsInHanded {} Tryd.checked os 5 .any (fun w args => (Rows.orderHoldsSpec.pre enc Tryd.prog Tryd.f5 [] false w args ∧ laidMetH Tryd.prog Rows.orderHoldsRow.laid w) ∧ sizedMet enc Tryd.prog Tryd.f5 (OpenSpec.ofChange Rows.orderHoldsSpec) false w args)
      (Rows.orderHoldsSpec.post enc Tryd.prog Tryd.f5 false true false false) := by
  refine returnsInHanded_of_change_and (C := Tryd.checked) (X := fun w _ => laidMetH Tryd.prog Rows.orderHoldsRow.laid w) (fun _ _ _ hh h => h.of_heap hh) own started (by kernel_rfl) Tryd.func5
    (ChangeSpec.witness_shaped (enc := enc) (C := Tryd.checked) (os := os) (X := fun w _ => laidMetH Tryd.prog Rows.orderHoldsRow.laid w) false (World.doorLaid Tryd.prog 300 os) #[.slice none 0 0] 8 rfl (World.shaped_of_RefB (by kernel_rfl) (by kernel_rfl)) (by kernel_rfl) (by kernel_rfl) (by kernel_rfl) (door_met os)) ?_
  intro W base args ds gs before hval hW _ _ hL _
  exact contract H enc W base args ds gs before hval hW hL

end Go.Proofs.YtdceonkbckmjdaaDoor.orderHolds
