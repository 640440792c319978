/- LexReads: from the walk to the row's contract, and the witness. -/
import Derived.Test.YtpgailcmohojmaaDoorRows
import Derived.Test.YtpgailcmohojmaaDoorRLexE
import Derived.Test.YtpgailcmohojmaaDoorSentsOf
import Derived.Test.YtpgailcmohojmaaDoorLaid
import Derived.OpenShut
import Derived.LaidMore
import Derived.Stop.Joined
import Derived.Deep.DeepHandedRow
import Derived.Deep.DeepWitnessRowRef
namespace Go.Proofs.YtpgailcmohojmaaDoor.lexReads
open Go.ChangeShapes Go.WideShapes Go.ChangeAt Go.RowKit
open Go.ChangeMaps (open_string shut_string)

theorem own : ownKnob Tryd.prog.godebug = none := by kernel_rfl

theorem parts {W : World} (h : laidMetH Tryd.prog Rows.lexReadsRow.laid W) : laidMet Tryd.prog (Rows.lexReadsRow.laid.filter fun x => x.2.handleName?.isNone) W ∧ handlesMet Tryd.prog [("errors.errorType", Rows.laid_errors_errorType)] W := h

/-- What the row's list gives. -/
theorem tabs {W : World} (h : laidMet Tryd.prog (Rows.lexReadsRow.laid.filter fun x => x.2.handleName?.isNone) W) : LexTabs (allKn W) := by
  have h1 : VarReads Tryd.prog W "lustrum/lex.words" Rows.laid_lustrum_lex_words := laidMet_reads h (List.mem_filter.2 ⟨by simp [Rows.lexReadsRow], rfl⟩)
  have h2 : VarReads Tryd.prog W "lustrum/lex.ops" Rows.laid_lustrum_lex_ops := laidMet_reads h (List.mem_filter.2 ⟨by simp [Rows.lexReadsRow], rfl⟩)
  have h3 : VarReads Tryd.prog W "strconv.ErrRange" Rows.laid_strconv_ErrRange := laidMet_reads h (List.mem_filter.2 ⟨by simp [Rows.lexReadsRow], rfl⟩)
  have h4 : VarReads Tryd.prog W "lustrum/api.ErrText" Rows.laid_lustrum_api_ErrText := laidMet_reads h (List.mem_filter.2 ⟨by simp [Rows.lexReadsRow], rfl⟩)
  have h5 : VarReads Tryd.prog W "lustrum/api.ErrBound" Rows.laid_lustrum_api_ErrBound := laidMet_reads h (List.mem_filter.2 ⟨by simp [Rows.lexReadsRow], rfl⟩)
  refine ⟨?_, ?_, ?_, ?_, ?_⟩
  · obtain ⟨v, hv, hs⟩ := reads_strs (ls := Lx.words) (g := 10) (t := 27) h1 (by kernel_rfl) (by kernel_rfl) Tryd.underlying27 Tryd.underlying9 (by kernel_rfl) (by decide)
    exact ⟨v, by rw [allKn_cell]; exact hv, hs⟩
  · obtain ⟨v, hv, hs⟩ := reads_strs (ls := Lx.ops) (g := 11) (t := 27) h2 (by kernel_rfl) (by kernel_rfl) Tryd.underlying27 Tryd.underlying9 (by kernel_rfl) (by decide)
    exact ⟨v, by rw [allKn_cell]; exact hv, hs⟩
  · obtain ⟨te, pe, hc⟩ := reads_iface (g := 14) (t := 25) h3 (by kernel_rfl) (by kernel_rfl) Tryd.underlying25
    exact ⟨te, pe, by rw [allKn_cell]; exact hc⟩
  · obtain ⟨te, pe, hc⟩ := reads_iface (g := 0) (t := 25) h4 (by kernel_rfl) (by kernel_rfl) Tryd.underlying25
    exact ⟨te, pe, by rw [allKn_cell]; exact hc⟩
  · obtain ⟨te, pe, hc⟩ := reads_iface (g := 1) (t := 25) h5 (by kernel_rfl) (by kernel_rfl) Tryd.underlying25
    exact ⟨te, pe, by rw [allKn_cell]; exact hc⟩

theorem sub : (([0, 1, 2, 3, 4, 5, 6, 7, 8].map senT).map sentE).Sublist (Rows.lexReadsRow.laid.filter fun x => x.2.handleName?.isNone) := by
  repeat (first | exact List.nil_sublist _ | apply List.Sublist.cons_cons | apply List.Sublist.cons)

set_option maxRecDepth 100000 in
theorem contract (H : Type) (enc : TypeId × Value → H) (W : World) (base : Nat) (args : Array Value) (ds gs : List (DataW H)) (before : List MemPlace)
    (hval : ∀ (j : Nat) t v, Tryd.f15.params[j]? = some t → args[j]? = some v → Value.okWide Tryd.prog W .any base t v)
    (hW : DataW.Whole enc Tryd.prog Tryd.f15.params.toList Rows.lexReadsSpec.vars false W args.toList ds gs before) (hL : laidMetH Tryd.prog Rows.lexReadsRow.laid W) :
    Calls Tryd.prog 15 args W fun e W' => ∃ v, e = .returned v ∧ Rows.lexReadsSpec.post enc Tryd.prog Tryd.f15 false true false false W args v W' := by
  have hW' := hW
  obtain ⟨p, q, hA0, hV, rfl, hfz, hnd⟩ := hW
  have hA : DataW.TrodAll enc Tryd.prog W 0 (fun _ => true) true Tryd.f15.params.toList args.toList ds p := hA0
  rw [Tryd.params15] at hA hval
  obtain ⟨v0, vs0, d0, ds0, p0, q0, hargs, rfl, rfl, h0, r0⟩ := trodAll_cons hA
  obtain ⟨rfl, rfl, rfl⟩ := trodAll_nil r0
  obtain rfl : args = #[v0] := by cases args; simp_all
  obtain ⟨rfl, rfl⟩ := trodVars_none hV
  obtain ⟨s, rfl, rfl, rfl, hs⟩ := open_string Tryd.underlying9 (hval 0 9 v0 rfl rfl) h0
  clear hA0
  simp only [List.append_nil] at hW'
  obtain ⟨hl1, hl2⟩ := parts hL
  have hE := handle_of hl2 (List.mem_singleton.2 rfl)
  obtain ⟨sp, S, _⟩ := sents_of hl1 [0, 1, 2, 3, 4, 5, 6, 7, 8] rfl (by decide) (by decide) sub hE
  refine (reads_any (allKn W) (tabs hl1) sp s hs W (allKn_in W) S hE).mono fun e W' ⟨he, hg⟩ => ?_
  subst he
  exact ⟨_, rfl, _, _, _, [], [], [], hW', trodAll_cons_mk (shut_bool Tryd.underlying4 _) trodAll_mk0, trodAll_cons_mk (shut_string Tryd.underlying9 hs) trodAll_mk0, rfl,
    hg.frame _, fun h => by cases h⟩

/-- The door's own heap meets the condition: closed facts. -/
theorem door_met (os : Os) : laidMetH Tryd.prog Rows.lexReadsRow.laid ((World.doorLaid Tryd.prog 300 os).forCall (fun _ _ => 0) ⟨#[], #[.string ⟨#[]⟩], []⟩).memory :=
  laidMetH_of_parts3 (fuel := 10) (laidMet_of_run' 10 (by kernel_rfl) (by kernel_rfl)) (by kernel_rfl) (by kernel_rfl)

set_option maxRecDepth 100000 in
theorem lifted (os : Os) (started : os.Started) (H : Type) (enc : TypeId × Value → H) :
    ReturnsInHanded {} Tryd.checked os 15 .any (fun w args => (Rows.lexReadsSpec.pre enc Tryd.prog Tryd.f15 [] false w args ∧ laidMetH Tryd.prog Rows.lexReadsRow.laid w) ∧ sizedMet enc Tryd.prog Tryd.f15 (OpenSpec.ofChange Rows.lexReadsSpec) false w args)
      (Rows.lexReadsSpec.post enc Tryd.prog Tryd.f15 false true false false) := by
  refine returnsInHanded_of_change_and (C := Tryd.checked) (X := fun w _ => laidMetH Tryd.prog Rows.lexReadsRow.laid w) (fun _ _ _ hh h => h.of_heap hh) own started (by kernel_rfl) Tryd.func15
    (ChangeSpec.witness_shaped (enc := enc) (C := Tryd.checked) (os := os) (X := fun w _ => laidMetH Tryd.prog Rows.lexReadsRow.laid w) false (World.doorLaid Tryd.prog 300 os) #[.string ⟨#[]⟩] 8 rfl (World.shaped_of_RefB (by kernel_rfl) (by kernel_rfl)) (by kernel_rfl) (by kernel_rfl) (by kernel_rfl) (door_met os)) ?_
  intro W base args ds gs before hval hW _ _ hL _
  exact contract H enc W base args ds gs before hval hW hL

end Go.Proofs.YtpgailcmohojmaaDoor.lexReads
