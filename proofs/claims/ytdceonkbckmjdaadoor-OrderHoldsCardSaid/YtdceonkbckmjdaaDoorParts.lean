/- Walks: flat.parts. -/
import Derived.Test.YtdceonkbckmjdaaDoorForm
namespace Go.Proofs.YtdceonkbckmjdaaDoor
open Go.RowKit Mx

theorem partsL_take : ∀ (l : List Ex) (k : Nat) (h : k < l.length), Ex.partsL (l.take (k + 1)) = Ex.partsL (l.take k) + l[k].parts
  | e :: l, 0, _ => by simp [Ex.partsL]
  | e :: l, k + 1, h => by
    have := partsL_take l k (by simpa using h)
    simp only [List.take_succ_cons, Ex.partsL, List.getElem_cons_succ]
    omega
theorem partsL_le : ∀ (l : List Ex) (k : Nat), Ex.partsL (l.take k) ≤ Ex.partsL l
  | [], k => by simp
  | e :: l, 0 => by simp [Ex.partsL]
  | e :: l, k + 1 => by
    have := partsL_le l k
    simp only [List.take_succ_cons, Ex.partsL]
    omega

/-- A term of a slice, its four cells and its value. -/
theorem ExsV.cell {H : Kn} {l : List Ex} {v : Value} (h : ExsV H l v) (hne : l ≠ []) : ∃ b off cap, v = .slice (some ⟨b, off, none⟩) l.length cap ∧ l.length ≤ cap ∧ cap ≤ maxLen ∧ ∀ i (hi : i < l.length), ∃ ax cx,
    H.cell b (off + i * 4) = some (.string l[i].op) ∧ H.cell b (off + i * 4 + 1) = some (.int .i64 l[i].n) ∧ H.cell b (off + i * 4 + 2) = some (.string l[i].s) ∧ H.cell b (off + i * 4 + 3) = some (.slice ax l[i].l.length cx) ∧
      ExV H l[i] (.agg #[.string l[i].op, .int .i64 l[i].n, .string l[i].s, .slice ax l[i].l.length cx]) := by
  rcases h with ⟨h, _⟩ | ⟨b, off, cap, h1, h2, h3, h4⟩
  · exact absurd h hne
  · refine ⟨b, off, cap, h1, h2, h3, fun i hi => ?_⟩
    obtain ⟨u, a0, a1, a2, a3, hu⟩ := (h4.get i hi).cells
    obtain ⟨ax, cx, rfl⟩ := hu.len
    exact ⟨ax, cx, a0, a1, a2, a3, _, rfl, hu⟩

set_option maxHeartbeats 1000000 in
set_option maxRecDepth 100000 in
theorem parts_any (H : Kn) : ∀ (e : Ex) (v : Value), ExV H e v → e.parts ≤ 1000000000000000000 → ∀ w : World, H.In w →
    Calls Tryd.prog 75 #[v] w fun r w' => r = .returned (.int .i64 e.parts) ∧ Below w.heap.size w w' := by
  refine Ex.ind fun o n s l ih v hv hp w hH => ?_
  obtain ⟨u, rfl, hu⟩ := hv
  simp only [Ex.op, Ex.n, Ex.s, Ex.l] at hu ⊢
  simp only [Ex.parts] at hp ⊢
  by_cases hne : l = []
  · subst hne
    obtain ⟨a, cap, rfl⟩ := hu.len
    clear hu ih
    go_enter Tryd.func75, Tryd.ntmps75
    go_wp2_with fail
    go_rounds 1
    all_goals go_ret
    exact ⟨rfl, (Below.refl _ _).alloc (Nat.le_refl _) _⟩
  · obtain ⟨b, off, cap, rfl, h1, h2, hc⟩ := hu.cell hne
    have HC := Lib.hid hc
    have IH := Lib.hid ih
    clear hc hu ih
    have hlt : l.length ≤ 9223372036854775807 := by unfold maxLen at h2; omega
    go_enter Tryd.func75, Tryd.ntmps75
    go_wp2_with fail
    have hW1 : Below w.heap.size w (w.alloc (.cells #[.string o, .int .i64 n, .string s, .slice (some ⟨b, off, none⟩) l.length cap] 57)) := (Below.refl _ _).alloc (Nat.le_refl _) _
    generalize w.alloc (.cells #[.string o, .int .i64 n, .string s, .slice (some ⟨b, off, none⟩) l.length cap] 57) = W at *
    go_loopw [3, 9] (fun c i wr => ∃ k : Nat, i = .int .i64 k ∧ k ≤ l.length ∧ c = .int .i64 ((1 + Ex.partsL (l.take k) : Nat) : Int) ∧ Below w.heap.size w wr) (fun _ i _ => l.length - (intOf i).toNat)
    case atStart => exact ⟨0, rfl, Nat.zero_le _, rfl, hW1⟩
    case round =>
      obtain ⟨k, rfl, hk, rfl, hb⟩ := hrel
      have hwr := hb.size
      have hpl := partsL_le l k
      by_cases hkl : k < l.length
      · obtain ⟨ax, cx, c0, c1, c2, c3, hx⟩ := HC.out k hkl
        have hHr := hH.below hb
        have c0 := hHr.cell c0
        have c1 := hHr.cell c1
        have c2 := hHr.cell c2
        have c3 := hHr.cell c3
        have hps := partsL_take l k hkl
        have hpl2 := partsL_le l (k + 1)
        have PS := Lib.hid hps
        have hpx : l[k].parts ≤ 1000000000000000000 := by omega
        have hmem := List.getElem_mem hkl
        generalize l[k] = x at *
        clear hps
        go_wp2_with fail
        refine (IH.out x hmem _ hx hpx _ (hHr.alloc _)).mono ?_
        rintro r w2 ⟨rfl, hb2⟩
        have hW2 : Below w.heap.size w w2 := ((hb.alloc hwr _)).trans (hb2.mono (by simp; omega))
        go_wp2_with fail
        go_roundw
        case rel => exact ⟨k + 1, by go_num, by omega, by rw [PS.out]; go_num, hW2⟩
        case measure => simp [intOf]; omega
      · go_wp2_with fail
        go_ret
        exact ⟨ret_int (by rw [List.take_of_length_le (by omega)]), hb⟩
end Go.Proofs.YtdceonkbckmjdaaDoor
