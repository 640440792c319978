/- LexTexts: from the walk to the row's contract, and the witness (arguments up to a bulk). -/
import Derived.Test.YtminjdmgfiellaaDoorRows
import Derived.Test.YtminjdmgfiellaaDoorTxE
import Derived.Test.YtminjdmgfiellaaDoorSentsOf
import Derived.Test.YtminjdmgfiellaaDoorLaid
import Derived.OpenShut
import Derived.LaidMore
import Derived.Stop.Joined
import Derived.Deep.Strs
import Derived.Deep.DeepHandedRow
import Derived.Deep.DeepWitnessRowRef
namespace Go.Proofs.YtminjdmgfiellaaDoor.lexTexts
open Go.ChangeShapes Go.WideShapes Go.ChangeAt Go.RowKit Go.Deep
open Go.ChangeMaps (open_string shut_string)

theorem own : ownKnob Tryd.prog.godebug = none := by kernel_rfl

theorem bulk_part {H : Type} {d : DataW H} {l : List (DataW H)} (h : d ∈ l) : Rows.uptoBulk d ≤ Rows.uptoBulkAll l := by
  induction l with
  | nil => cases h
  | cons x r ih =>
    simp only [Rows.uptoBulkAll]
    rcases List.mem_cons.1 h with e | e
    · subst e; omega
    · have := ih e; omega
theorem bulk_one {H : Type} (d : DataW H) : 1 ≤ Rows.uptoBulk d := by
  cases d with
  | lit l => cases l <;> simp [Rows.uptoBulk]
  | nil => simp [Rows.uptoBulk]
  | ptr d => simp [Rows.uptoBulk]
  | slice elems spare => simp [Rows.uptoBulk]
  | agg parts => simp [Rows.uptoBulk]
  | iface t d => simp [Rows.uptoBulk]
  | map entries => simp [Rows.uptoBulk]
  | held h => simp [Rows.uptoBulk]
theorem bulk_len {H : Type} (l : List (DataW H)) : l.length ≤ Rows.uptoBulkAll l := by
  induction l with
  | nil => simp [Rows.uptoBulkAll]
  | cons x r ih => have := bulk_one x; simp only [Rows.uptoBulkAll, List.length_cons]; omega

theorem cellsRTok : Tryd.prog.cellsOf 59 = 3 := by kernel_rfl
theorem addr_add (b off j : Nat) : (⟨b, off, none⟩ : Addr).add j = ⟨b, off + j, none⟩ := by unfold Addr.add; split <;> simp_all
theorem cellsStr : Tryd.prog.cellsOf 9 = 1 := by kernel_rfl
theorem cellsInt : Tryd.prog.cellsOf 3 = 1 := by kernel_rfl
instance : Inhabited Lx.TI := ⟨⟨[], [], 0⟩⟩

set_option maxRecDepth 100000 in
/-- One token, opened. -/
theorem read_tok {H : Type} {enc : TypeId × Value → H} {W : World} {base n : Nat} {spare : Nat → Bool} {held : Bool} {cs : List Value} {y : DataW H × List MemPlace} (h : DataW.trod enc Tryd.prog W base spare held n 59 cs = some y) :
    ∃ t : Lx.TI, cs = [.string (bs t.kind), .string (bs t.text), .int .i64 t.at_] ∧ t.text.length ≤ Rows.uptoBulk y.1 := by
  obtain ⟨y0, y1, y2, m, rfl, hl, h0, h1, h2⟩ := trod_struct3 Tryd.underlying59 h
  rw [cellsRTok] at hl
  match cs, hl with
  | [a, b, c], _ =>
    dsimp only at h0 h1 h2
    rw [cellsStr] at h0 h1
    rw [cellsInt] at h2
    obtain ⟨s0, e0, f0, _⟩ := DataW.trod_string Tryd.underlying9 h0
    obtain ⟨s1, e1, f1, _⟩ := DataW.trod_string Tryd.underlying9 h1
    obtain ⟨k, e2, f2, _⟩ := DataW.trod_int Tryd.underlying3 h2
    have e0' : [a] = [Value.string s0] := e0
    have e1' : [b] = [Value.string s1] := e1
    have e2' : [c] = [Value.int .i64 k] := e2
    cases e0'
    cases e1'
    cases e2'
    refine ⟨⟨s0.data.toList, s1.data.toList, k⟩, by simp only [bs_of], ?_⟩
    rw [f1]
    simp only [Rows.uptoBulk, Rows.uptoBulkAll]
    omega

set_option maxRecDepth 100000 in
theorem read_toks {H : Type} {enc : TypeId × Value → H} {W : World} {r : Reach} {b0 : Nat} {spare : Nat → Bool} {held : Bool} {v : Value} {d : DataW H} {ps : List MemPlace} (hval : Value.okWide Tryd.prog W r b0 57 v)
    (h : DataW.Trod enc Tryd.prog W 0 spare held 57 v d ps) (hk : Rows.uptoBulk d ≤ 1048576) :
    ∃ l : List Lx.TI, TisW W v l ∧ l.length ≤ 1048576 ∧ ∀ t ∈ l, t.text.length ≤ 1048576 := by
  obtain ⟨o, len, cap, rfl⟩ := okWide_slice Tryd.underlying57 hval
  obtain ⟨fuel, hf⟩ := h
  have hf' : DataW.trod enc Tryd.prog W 0 spare held fuel 57 [.slice o len cap] = some (d, ps) := hf
  rcases open_slice Tryd.underlying57 hf' with ⟨hcs, _⟩ | ⟨a, len1, cap1, m, n, D, Pl, hcs, hb, hlc, hcm, hm, hx, hel⟩
  · cases hcs
    exact ⟨[], .inl ⟨rfl, none, 0, rfl⟩, Nat.zero_le _, fun t ht => by cases ht⟩
  · cases hcs
    have hlm : len ≤ m := by rw [hm]; split <;> omega
    have hd : d = DataW.slice ((List.range len).map D) ((List.range (m - len)).map fun j => D (len + j)) := congrArg Prod.fst hx
    have hall : Rows.uptoBulkAll ((List.range len).map D) ≤ 1048576 := by
      rw [hd] at hk
      simp only [Rows.uptoBulk] at hk
      omega
    have hlen : len ≤ 1048576 := by
      have := bulk_len ((List.range len).map D)
      simp only [List.length_map, List.length_range] at this
      omega
    rw [cellsRTok] at hel
    obtain ⟨f, hfn⟩ := choose_lt (p := fun i (t : Lx.TI) => W.cells? 0 (a.add (i * 3)) 3 = some [.string (bs t.kind), .string (bs t.text), .int .i64 t.at_] ∧ t.text.length ≤ 1048576) (n := len) (fun i hi => by
      obtain ⟨cs', h1, h2⟩ := hel i (by omega)
      obtain ⟨t, e, hb⟩ := read_tok h2
      subst e
      refine ⟨t, h1, ?_⟩
      have := bulk_part (d := D i) (l := (List.range len).map D) (List.mem_map.2 ⟨i, List.mem_range.2 hi, rfl⟩)
      dsimp only at hb
      omega)
    refine ⟨(List.range len).map f, ?_, by simpa using hlen, fun t ht => ?_⟩
    · by_cases h0 : len = 0
      · subst h0
        exact .inl ⟨rfl, some a, cap, rfl⟩
      · have hsp : a.spot = none := by
          have h1 := (hfn 0 (by omega)).1
          obtain ⟨_, _, hc⟩ := World.cells?_some h1
          have h2 := hc 0 (by omega)
          have e0 : (a.add (0 * 3)).add 0 = a := by simp [Addr.add]
          rw [e0] at h2
          exact cell_place h2
        obtain ⟨b, off, sp⟩ := a
        dsimp only at hsp
        subst hsp
        refine .inr ⟨b, off, cap, by simp, by simpa using hlc, hcm, ?_, fun i hi => ?_⟩
        · exact World.cells?_block (hfn 0 (by omega)).1 (by omega)
        · have hi' : i < len := by simpa using hi
          have h1 := (hfn i hi').1
          rw [addr_add] at h1
          obtain ⟨_, _, hc⟩ := World.cells?_some h1
          have c0 := hc 0 (by omega)
          have c1 := hc 1 (by omega)
          have c2 := hc 2 (by omega)
          rw [addr_add] at c0 c1 c2
          simpa using ⟨c0, c1, c2⟩
    · obtain ⟨i, hi, rfl⟩ := List.mem_map.1 ht
      exact (hfn i (List.mem_range.1 hi)).2

theorem parts {W : World} (h : laidMetH Tryd.prog Rows.lexTextsUptoRow.laid W) : laidMet Tryd.prog (Rows.lexTextsUptoRow.laid.filter fun x => x.2.handleName?.isNone) W ∧ handlesMet Tryd.prog [("errors.errorType", Rows.laid_errors_errorType)] W := h

/-- What the row's list gives. -/
theorem tabs {W : World} (h : laidMet Tryd.prog (Rows.lexTextsUptoRow.laid.filter fun x => x.2.handleName?.isNone) W) : LexTabs (allKn W) := by
  have h1 : VarReads Tryd.prog W "lustrum/lex.words" Rows.laid_lustrum_lex_words := laidMet_reads h (List.mem_filter.2 ⟨by simp [Rows.lexTextsUptoRow], rfl⟩)
  have h2 : VarReads Tryd.prog W "lustrum/lex.ops" Rows.laid_lustrum_lex_ops := laidMet_reads h (List.mem_filter.2 ⟨by simp [Rows.lexTextsUptoRow], rfl⟩)
  have h3 : VarReads Tryd.prog W "strconv.ErrRange" Rows.laid_strconv_ErrRange := laidMet_reads h (List.mem_filter.2 ⟨by simp [Rows.lexTextsUptoRow], rfl⟩)
  have h4 : VarReads Tryd.prog W "lustrum/api.ErrText" Rows.laid_lustrum_api_ErrText := laidMet_reads h (List.mem_filter.2 ⟨by simp [Rows.lexTextsUptoRow], rfl⟩)
  have h5 : VarReads Tryd.prog W "lustrum/api.ErrBound" Rows.laid_lustrum_api_ErrBound := laidMet_reads h (List.mem_filter.2 ⟨by simp [Rows.lexTextsUptoRow], rfl⟩)
  refine ⟨?_, ?_, ?_, ?_, ?_⟩
  · obtain ⟨v, hv, hs⟩ := reads_strs (ls := Lx.words) (g := 9) (t := 23) h1 (by kernel_rfl) (by kernel_rfl) Tryd.underlying23 Tryd.underlying9 (by kernel_rfl) (by decide)
    exact ⟨v, by rw [allKn_cell]; exact hv, hs⟩
  · obtain ⟨v, hv, hs⟩ := reads_strs (ls := Lx.ops) (g := 10) (t := 23) h2 (by kernel_rfl) (by kernel_rfl) Tryd.underlying23 Tryd.underlying9 (by kernel_rfl) (by decide)
    exact ⟨v, by rw [allKn_cell]; exact hv, hs⟩
  · obtain ⟨te, pe, hc⟩ := reads_iface (g := 14) (t := 32) h3 (by kernel_rfl) (by kernel_rfl) Tryd.underlying32
    exact ⟨te, pe, by rw [allKn_cell]; exact hc⟩
  · obtain ⟨te, pe, hc⟩ := reads_iface (g := 4) (t := 32) h4 (by kernel_rfl) (by kernel_rfl) Tryd.underlying32
    exact ⟨te, pe, by rw [allKn_cell]; exact hc⟩
  · obtain ⟨te, pe, hc⟩ := reads_iface (g := 3) (t := 32) h5 (by kernel_rfl) (by kernel_rfl) Tryd.underlying32
    exact ⟨te, pe, by rw [allKn_cell]; exact hc⟩
theorem sub : (([0, 1, 2, 3, 4, 5, 6, 7, 8].map senT).map sentE).Sublist (Rows.lexTextsUptoRow.laid.filter fun x => x.2.handleName?.isNone) := by
  repeat (first | exact List.nil_sublist _ | apply List.Sublist.cons_cons | apply List.Sublist.cons)

theorem laidOut : laidOutB Tryd.prog = true := by as_aux_lemma => kernel_rfl
set_option maxRecDepth 100000 in
theorem contract (H : Type) (enc : TypeId × Value → H) (W : World) (base : Nat) (args : Array Value) (ds gs : List (DataW H)) (before : List MemPlace)
    (hval : ∀ (j : Nat) t v, Tryd.f5.params[j]? = some t → args[j]? = some v → Value.okWide Tryd.prog W .any base t v)
    (hW : DataW.Whole enc Tryd.prog Tryd.f5.params.toList Rows.lexTextsSpec.vars false W args.toList ds gs before) (hk : Rows.uptoSmall H (ds ++ gs) = true) (hL : laidMetH Tryd.prog Rows.lexTextsUptoRow.laid W) :
    Calls Tryd.prog 5 args W fun e W' => ∃ v, e = .returned v ∧ Rows.lexTextsSpec.post enc Tryd.prog Tryd.f5 false true false false W args v W' := by
  have hW' := hW
  obtain ⟨p, q, hA0, hV, rfl, hfz, hnd⟩ := hW
  have hA : DataW.TrodAll enc Tryd.prog W 0 (fun _ => true) true Tryd.f5.params.toList args.toList ds p := hA0
  rw [Tryd.params5] at hA hval
  obtain ⟨v0, vs0, d0, ds0, p0, q0, hargs, rfl, rfl, h0, r0⟩ := trodAll_cons hA
  obtain ⟨rfl, rfl, rfl⟩ := trodAll_nil r0
  obtain rfl : args = #[v0] := by cases args; simp_all
  obtain ⟨rfl, rfl⟩ := trodVars_none hV
  clear hA0
  simp only [List.append_nil] at hW' hk
  have hkk : Rows.uptoBulk d0 ≤ 1048576 := by
    have := of_decide_eq_true hk
    simp only [Rows.uptoBulkAll] at this
    omega
  obtain ⟨l, hl, hl1, hl2⟩ := read_toks (hval 0 57 v0 rfl rfl) h0 hkk
  obtain ⟨hp1, hp2⟩ := parts hL
  have hE := handle_of hp2 (List.mem_singleton.2 rfl)
  obtain ⟨sp, S, _⟩ := sents_of hp1 [0, 1, 2, 3, 4, 5, 6, 7, 8] rfl (by decide) (by decide) sub hE
  have walk : Calls Tryd.prog 5 #[v0] W fun e w' => e = .returned (.bool true) ∧ Below W.heap.size W w' := by
    by_cases hne : l = []
    · subst hne
      exact texts_nil (allKn W) (tabs hp1) sp v0 W hl (allKn_in W) S hE
    · exact texts_any (allKn W) (tabs hp1) sp v0 l hne W hl hl1 hl2 (allKn_in W) S hE
  refine walk.mono fun e W' ⟨he, hg⟩ => ?_
  subst he
  exact ⟨_, rfl, _, _, _, [], _, [], hW', trodAll_cons_mk (shut_bool Tryd.underlying4 _) trodAll_mk0, trodAll_cons_mk (Below.trod laidOut (by kernel_rfl) (of_decide_eq_true (by kernel_rfl)) h0 hg (fun x hx => hW'.lt x (by simpa using hx))) trodAll_mk0, rfl,  hg.frame _, fun h => by cases h⟩

/-- The door's own heap meets the condition: closed facts. -/
theorem door_met (os : Os) : laidMetH Tryd.prog Rows.lexTextsUptoRow.laid ((World.doorLaid Tryd.prog 300 os).forCall (fun _ _ => 0) ⟨#[], #[.slice none 0 0], []⟩).memory :=
  laidMetH_of_parts3 (fuel := 10) (laidMet_of_run' 10 (by kernel_rfl) (by kernel_rfl)) (by kernel_rfl) (by kernel_rfl)
theorem reads (os : Os) {H : Type} (enc : TypeId × Value → H) : ∃ places, DataW.whole enc Tryd.prog ((World.doorLaid Tryd.prog 300 os).forCall (fun _ _ => 0) ⟨#[], #[.slice none 0 0], []⟩).memory Tryd.f5.params.toList Rows.lexTextsSpec.vars false #[Value.slice none 0 0].toList 8 = some ([.nil], [], places) :=
  ⟨[], by kernel_rfl⟩

set_option maxRecDepth 100000 in
theorem lifted (os : Os) (started : os.Started) (H : Type) (enc : TypeId × Value → H) (F : Stop.Interp) :
    ReturnsInHanded {} Tryd.checked os 5 .any ((Rows.OpenSpec.upto Rows.lexTextsSpec).preRow enc Tryd.prog Tryd.f5 Rows.lexTextsUptoRow.domain false Rows.lexTextsUptoRow.laid) (((Rows.OpenSpec.upto Rows.lexTextsSpec).at F).post enc Tryd.prog Tryd.f5 false true false false) := by
  obtain ⟨places, hx⟩ := reads os enc
  refine returnsInHanded_of_row (C := Tryd.checked) (s := Rows.OpenSpec.upto Rows.lexTextsSpec) own started (by kernel_rfl) Tryd.func5
    (witness_row_atRef (enc := enc) (C := Tryd.checked) false (World.doorLaid Tryd.prog 300 os) #[.slice none 0 0] rfl (by kernel_rfl) (by kernel_rfl) (by kernel_rfl)
      (OpenSpec.preRow_of_cond 8 hx (by kernel_rfl) (fun k hk => by cases hk; kernel_rfl) (by kernel_rfl) (door_met os))) ?_
  intro W base args ds gs before hval hW _ hcond _ hL _ _
  exact contract H enc W base args ds gs before hval hW (hcond _ rfl) hL
end Go.Proofs.YtminjdmgfiellaaDoor.lexTexts
