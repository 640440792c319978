/- Names: from the walk to the row's contract, and the witness. -/
import Derived.Test.YtpgailcmohojmaaDoorSentsOf
import Derived.Test.YtpgailcmohojmaaDoorLaid
import Derived.OpenShut
import Derived.LaidMore
import Derived.Stop.Joined
import Derived.Deep.DeepHandedRow
import Derived.Deep.DeepWitnessRowRef
namespace Go.Proofs.YtpgailcmohojmaaDoor.names
open Go.ChangeShapes Go.WideShapes Go.ChangeAt Go.RowKit

theorem own : ownKnob Tryd.prog.godebug = none := by kernel_rfl

theorem parts {W : World} (h : laidMetH Tryd.prog Rows.namesRow.laid W) : laidMet Tryd.prog (([0, 1, 2, 3, 4, 5, 6, 7, 8].map senT).map sentE) W ∧ handlesMet Tryd.prog [("errors.errorType", Rows.laid_errors_errorType)] W := h

set_option maxRecDepth 100000 in
theorem contract (H : Type) (enc : TypeId × Value → H) (W : World) (args : Array Value) (ds gs : List (DataW H)) (before : List MemPlace)
    (hW : DataW.Whole enc Tryd.prog Tryd.f3.params.toList Rows.namesSpec.vars false W args.toList ds gs before) (hL : laidMetH Tryd.prog Rows.namesRow.laid W) :
    Calls Tryd.prog 3 args W fun e W' => ∃ v, e = .returned v ∧ Rows.namesSpec.post enc Tryd.prog Tryd.f3 false true false false W args v W' := by
  have hW' := hW
  obtain ⟨p, q, hA0, hV, rfl, hfz, hnd⟩ := hW
  have hA : DataW.TrodAll enc Tryd.prog W 0 (fun _ => true) true Tryd.f3.params.toList args.toList ds p := hA0
  rw [Tryd.params3] at hA
  obtain rfl : args = #[] := by
    cases args with
    | mk l => cases l with
      | nil => rfl
      | cons a l => exact hA.elim
  obtain rfl : ds = [] := by
    cases ds with
    | nil => rfl
    | cons a l => exact hA.elim
  obtain rfl : p = [] := hA
  obtain ⟨rfl, rfl⟩ := trodVars_none hV
  clear hA0
  simp only [List.append_nil] at hW'
  obtain ⟨h1, h2⟩ := parts hL
  obtain ⟨sp, S, hT⟩ := sents_of h1 [0, 1, 2, 3, 4, 5, 6, 7, 8] rfl (by decide) (by decide) (List.Sublist.refl _) (handle_of h2 (List.mem_singleton.2 rfl))
  refine (names_true sp W S (handle_of h2 (List.mem_singleton.2 rfl)) hT).mono fun e W' ⟨he, hg⟩ => ?_
  subst he
  exact ⟨_, rfl, _, _, _, [], [], [], hW', trodAll_cons_mk (shut_bool Tryd.underlying4 _) trodAll_mk0, trodAll_mk0, rfl, hg.frame _, fun h => by cases h⟩

/-- The door's own heap meets the condition: closed facts. -/
theorem door_met (os : Os) : laidMetH Tryd.prog Rows.namesRow.laid ((World.doorLaid Tryd.prog 300 os).forCall (fun _ _ => 0) ⟨#[], #[], []⟩).memory :=
  laidMetH_of_parts3 (fuel := 10) (laidMet_of_run' 10 (by kernel_rfl) (by kernel_rfl)) (by kernel_rfl) (by kernel_rfl)

set_option maxRecDepth 100000 in
theorem lifted (os : Os) (started : os.Started) (H : Type) (enc : TypeId × Value → H) :
    ReturnsInHanded {} Tryd.checked os 3 .any (fun w args => (Rows.namesSpec.pre enc Tryd.prog Tryd.f3 [] false w args ∧ laidMetH Tryd.prog Rows.namesRow.laid w) ∧ sizedMet enc Tryd.prog Tryd.f3 (OpenSpec.ofChange Rows.namesSpec) false w args)
      (Rows.namesSpec.post enc Tryd.prog Tryd.f3 false true false false) := by
  refine returnsInHanded_of_change_and (C := Tryd.checked) (X := fun w _ => laidMetH Tryd.prog Rows.namesRow.laid w) (fun _ _ _ hh h => h.of_heap hh) own started (by kernel_rfl) Tryd.func3
    (ChangeSpec.witness_shaped (enc := enc) (C := Tryd.checked) (os := os) (X := fun w _ => laidMetH Tryd.prog Rows.namesRow.laid w) false (World.doorLaid Tryd.prog 300 os) #[] 8 rfl (World.shaped_of_RefB (by kernel_rfl) (by kernel_rfl)) (by kernel_rfl) (by kernel_rfl) (by kernel_rfl) (door_met os)) ?_
  intro W _ args ds gs before _ hW _ _ hL _
  exact contract H enc W args ds gs before hW hL

end Go.Proofs.YtpgailcmohojmaaDoor.names
