/- SlimLess: from the walk to the row's contract, and the witness (arguments up to a bulk). -/
import Derived.Test.YthihoafemahgmaaDoorRows
import Derived.Test.YthihoafemahgmaaDoorS3
import Derived.Test.YthihoafemahgmaaDoorRd
import Derived.Test.YthihoafemahgmaaDoorLaid
import Derived.OpenShut
import Derived.LaidMore
import Derived.Stop.Joined
import Derived.Deep.Strs
import Derived.Deep.DeepHandedRow
import Derived.Deep.DeepWitnessRowRef
namespace Go.Proofs.YthihoafemahgmaaDoor.slimLess
open Go.ChangeShapes Go.WideShapes Go.ChangeAt Go.RowKit Go.Deep
theorem own : ownKnob Tryd.prog.godebug = none := by kernel_rfl
theorem levs {W : World} (h : laidMet Tryd.prog (Rows.slimLessUptoRow.laid.filter fun x => x.2.handleName?.isNone) W) : LevelsAt (allKn W) :=
  levels_of (laidMet_reads h (List.mem_filter.2 ⟨by simp [Rows.slimLessUptoRow], rfl⟩))
theorem sub : (([0, 1, 2, 3, 4].map senT5).map sentE).Sublist (Rows.slimLessUptoRow.laid.filter fun x => x.2.handleName?.isNone) := by
  repeat (first | exact List.nil_sublist _ | apply List.Sublist.cons_cons | apply List.Sublist.cons)
theorem laidOut : laidOutB Tryd.prog = true := by as_aux_lemma => kernel_rfl
set_option maxRecDepth 100000 in
theorem contract (H : Type) (enc : TypeId × Value → H) (W : World) (base : Nat) (args : Array Value) (ds gs : List (DataW H)) (before : List MemPlace)
    (hval : ∀ (j : Nat) t v, Tryd.f3.params[j]? = some t → args[j]? = some v → Value.okWide Tryd.prog W .any base t v)
    (hW : DataW.Whole enc Tryd.prog Tryd.f3.params.toList Rows.slimLessSpec.vars false W args.toList ds gs before) (hk : Rows.uptoSmall H (ds ++ gs) = true) (hL : laidMetH Tryd.prog Rows.slimLessUptoRow.laid W) :
    Calls Tryd.prog 3 args W fun e W' => ∃ v, e = .returned v ∧ Rows.slimLessSpec.post enc Tryd.prog Tryd.f3 false true false false W args v W' := by
  have hW' := hW
  obtain ⟨p, q, hA0, hV, rfl, hfz, hnd⟩ := hW
  have hA : DataW.TrodAll enc Tryd.prog W 0 (fun _ => true) true Tryd.f3.params.toList args.toList ds p := hA0
  rw [Tryd.params3] at hA hval
  obtain ⟨v0, vs0, d0, ds0, q0, r0, hargs, rfl, rfl, h0, g0⟩ := trodAll_cons hA
  obtain ⟨rfl, rfl, rfl⟩ := trodAll_nil g0
  obtain rfl : args = #[v0] := by cases args; simp_all
  obtain ⟨rfl, rfl⟩ := trodVars_none hV
  clear hA0
  simp only [List.append_nil] at hW' hk
  have hkk : Rows.uptoBulk d0 ≤ 1048576 := by
    have := of_decide_eq_true hk
    simp only [Rows.uptoBulkAll] at this
    omega
  have B0 := hkk
  obtain ⟨p0, vi0, vo0, vl0, va0, vc0, rfl, hp0, zi0, zo0, zw0⟩ := read_prog (hval 0 27 v0 rfl rfl) h0 B0
  have hL1 := laidMetH_met hL
  obtain ⟨sp, S⟩ := sen5_of hL1 [0, 1, 2, 3, 4] (by decide) (by decide) sub
  have walk := slimLess_any (allKn W) (levs hL1) sp p0 vi0 vo0 vl0 va0 vc0 hp0 ⟨zi0, zo0, zw0⟩ W (allKn_in W) S
  refine walk.mono fun e W' ⟨he, hg⟩ => ?_
  subst he
  have lt : ∀ x, x ∈ q0 → x.block < W.heap.size := fun x hx => hW'.lt x (by simpa using hx)
  exact ⟨_, rfl, _, _, _, [], _, [], hW', trodAll_cons_mk (shut_bool Tryd.underlying4 _) trodAll_mk0,
   (trodAll_cons_mk (Below.trod laidOut (by kernel_rfl) (of_decide_eq_true (by kernel_rfl)) h0 hg (fun x hx => lt x (by simp [hx]))) trodAll_mk0), rfl, hg.frame _, fun h => by cases h⟩
theorem door_met (os : Os) : laidMetH Tryd.prog Rows.slimLessUptoRow.laid ((World.doorLaid Tryd.prog 300 os).forCall (fun _ _ => 0) ⟨#[], #[.agg #[.slice none 0 0, .slice none 0 0, .slice none 0 0, .slice none 0 0, .slice none 0 0]], []⟩).memory :=
  laidMetH_of_parts3 (fuel := 10) (laidMet_of_run' 10 (by kernel_rfl) (by kernel_rfl)) (by kernel_rfl) (by kernel_rfl)
theorem reads (os : Os) {H : Type} (enc : TypeId × Value → H) : ∃ places, DataW.whole enc Tryd.prog ((World.doorLaid Tryd.prog 300 os).forCall (fun _ _ => 0) ⟨#[], #[.agg #[.slice none 0 0, .slice none 0 0, .slice none 0 0, .slice none 0 0, .slice none 0 0]], []⟩).memory Tryd.f3.params.toList Rows.slimLessSpec.vars false #[Value.agg #[.slice none 0 0, .slice none 0 0, .slice none 0 0, .slice none 0 0, .slice none 0 0]].toList 8 = some ([.agg [.nil, .nil, .nil, .nil, .nil]], [], places) :=
  ⟨[], by kernel_rfl⟩
set_option maxRecDepth 100000 in
theorem lifted (os : Os) (started : os.Started) (H : Type) (enc : TypeId × Value → H) (F : Stop.Interp) :
    ReturnsInHanded {} Tryd.checked os 3 .any ((Rows.OpenSpec.upto Rows.slimLessSpec).preRow enc Tryd.prog Tryd.f3 Rows.slimLessUptoRow.domain false Rows.slimLessUptoRow.laid) (((Rows.OpenSpec.upto Rows.slimLessSpec).at F).post enc Tryd.prog Tryd.f3 false true false false) := by
  obtain ⟨places, hx⟩ := reads os enc
  refine returnsInHanded_of_row (C := Tryd.checked) (s := Rows.OpenSpec.upto Rows.slimLessSpec) own started (by kernel_rfl) Tryd.func3
    (witness_row_atRef (enc := enc) (C := Tryd.checked) false (World.doorLaid Tryd.prog 300 os) #[.agg #[.slice none 0 0, .slice none 0 0, .slice none 0 0, .slice none 0 0, .slice none 0 0]] rfl (by kernel_rfl) (by kernel_rfl) (by kernel_rfl)
      (OpenSpec.preRow_of_cond 8 hx (by kernel_rfl) (fun k hk => by cases hk; kernel_rfl) (by kernel_rfl) (door_met os))) ?_
  intro W base args ds gs before hval hW _ hcond _ hL _ _
  exact contract H enc W base args ds gs before hval hW (hcond _ rfl) hL
end Go.Proofs.YthihoafemahgmaaDoor.slimLess
