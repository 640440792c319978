/- Walks: tree.Form; flat.parts. -/
import Derived.Test.YtgpdagkoampipaaDoorArity
import Derived.Deep.DeepCutAuto
namespace Go.Proofs.YtgpdagkoampipaaDoor
open Go.RowKit Mx

theorem dLit (o : ByteArray) (l : List UInt8) : decide (o = ⟨⟨l⟩⟩) = (o.toList == l) := by
  have := bytes_eq_iff o ⟨⟨l⟩⟩
  rw [Lib.toList_data ⟨⟨l⟩⟩] at this
  exact this.symm
theorem dEmp (s : ByteArray) : decide (s.size = 0) = s.toList.isEmpty := by
  rw [Lib.toList_data]
  obtain ⟨⟨x⟩⟩ := s
  cases x <;> simp [ByteArray.size]
/-- What region 2 leaves. -/
def formA (o : ByteArray) (n : Int) (k : Nat) : Bool := arB o && (decide (arN o < 0) || (arN o == (k : Int))) && ((n == 0) || (o.toList == [105, 110, 116]) && decide (0 < n) && decide (n ≤ 127))
def formB (o s : ByteArray) : Bool := s.toList.isEmpty || (o.toList == [110, 97, 109, 101]) || (o.toList == [99, 97, 108, 108])
theorem form_eq (e : Ex) : form e = (formA e.op e.n e.l.length && formB e.op e.s) := by
  unfold form formA formB arN arB
  rw [← dEmp, ← dLit e.op [110, 97, 109, 101], ← dLit e.op [99, 97, 108, 108], ← dLit e.op [105, 110, 116]]
  have e1 : (e.n == 0) = decide (e.n = 0) := by by_cases h : e.n = 0 <;> simp [h]
  rw [e1]
  cases h : arity e.op with
  | none => simp
  | some k =>
    have e2 : (k == (e.l.length : Int)) = decide (k = e.l.length) := by by_cases h : k = e.l.length <;> simp [h]
    simp [e2]

set_option maxHeartbeats 2000000 in
set_option maxRecDepth 100000 in
theorem form_zero (H : Kn) (T : LevelsAt H) (o : ByteArray) (s : ByteArray) (k : Nat) (a : Option Addr) (cap : Nat) (w : World) (hH : H.In w) :
    Calls Tryd.prog 82 #[.agg #[.string o, .int .i64 0, .string s, .slice a k cap]] w fun r w' => r = .returned (.bool (formA o 0 k && formB o s)) ∧ Below w.heap.size w w' := by
  obtain ⟨fa, hfa⟩ : ∃ x, x = formA o 0 k := ⟨_, rfl⟩
  obtain ⟨fb, hfb⟩ : ∃ x, x = formB o s := ⟨_, rfl⟩
  rw [← hfa, ← hfb]
  unfold formA at hfa
  unfold formB at hfb
  have FA := Lib.hid hfa
  have FB := Lib.hid hfb
  clear hfa hfb
  go_enter Tryd.func82, Tryd.ntmps82
  go_upto_region 2 with (go_at_call 91; refine (arity_any H T _ _ (hH.alloc _)).mono ?_; rintro e w' ⟨rfl, rfl⟩)
  go_cut [4] (fun s4 wx => s4 = .bool fa ∧ wx = w.alloc (.cells #[.string o, .int .i64 0, .string s, .slice a k cap] 84))
  case first =>
    go_wp2_with fail
    all_goals go_meet
    all_goals refine ⟨congrArg Value.bool ?_, rfl⟩
    all_goals rw [FA.out]
    all_goals (first | (simp [*]; done) | (simp [*]; omega))
  case rest =>
    obtain ⟨rfl, rfl⟩ := hcut
    cases fa
    all_goals
      go_wp2_with fail
    all_goals go_ret
    all_goals refine ⟨ret_bool ?_, (Below.refl _ _).alloc (Nat.le_refl _) _⟩
    all_goals rw [FB.out]
    all_goals (first | (simp [*]; done) | (simp [*]; omega))

set_option maxHeartbeats 2000000 in
set_option maxRecDepth 100000 in
theorem form_some (H : Kn) (T : LevelsAt H) (o : ByteArray) (n : Int) (hn : (n == 0) = false) (s : ByteArray) (k : Nat) (a : Option Addr) (cap : Nat) (w : World) (hH : H.In w) :
    Calls Tryd.prog 82 #[.agg #[.string o, .int .i64 n, .string s, .slice a k cap]] w fun r w' => r = .returned (.bool (formA o n k && formB o s)) ∧ Below w.heap.size w w' := by
  obtain ⟨fa, hfa⟩ : ∃ x, x = formA o n k := ⟨_, rfl⟩
  obtain ⟨fb, hfb⟩ : ∃ x, x = formB o s := ⟨_, rfl⟩
  rw [← hfa, ← hfb]
  unfold formA at hfa
  unfold formB at hfb
  have FA := Lib.hid hfa
  have FB := Lib.hid hfb
  clear hfa hfb
  go_enter Tryd.func82, Tryd.ntmps82
  go_upto_region 2 with (go_at_call 91; refine (arity_any H T _ _ (hH.alloc _)).mono ?_; rintro e w' ⟨rfl, rfl⟩)
  go_cut [4] (fun s4 wx => s4 = .bool fa ∧ wx = w.alloc (.cells #[.string o, .int .i64 n, .string s, .slice a k cap] 84))
  case first =>
    go_wp2_with fail
    all_goals go_meet
    all_goals refine ⟨congrArg Value.bool ?_, rfl⟩
    all_goals rw [FA.out]
    all_goals (first | (simp [*]; done) | (simp [*]; omega))
  case rest =>
    obtain ⟨rfl, rfl⟩ := hcut
    cases fa
    all_goals
      go_wp2_with fail
    all_goals go_ret
    all_goals refine ⟨ret_bool ?_, (Below.refl _ _).alloc (Nat.le_refl _) _⟩
    all_goals rw [FB.out]
    all_goals (first | (simp [*]; done) | (simp [*]; omega))

theorem form_any (H : Kn) (T : LevelsAt H) (e : Ex) (v : Value) (hv : ExV H e v) (w : World) (hH : H.In w) :
    Calls Tryd.prog 82 #[v] w fun r w' => r = .returned (.bool (form e)) ∧ Below w.heap.size w w' := by
  obtain ⟨u, rfl, hu⟩ := hv
  obtain ⟨a, cap, rfl⟩ := hu.len
  rw [form_eq]
  cases hn : (e.n == 0) with
  | false => exact form_some H T _ _ hn _ _ _ _ _ hH
  | true =>
    have h0 : e.n = 0 := by simpa using hn
    rw [h0]
    exact form_zero H T _ _ _ _ _ _ hH
end Go.Proofs.YtgpdagkoampipaaDoor
/- Walks: flat.parts. -/
namespace Go.Proofs.YtgpdagkoampipaaDoor
open Go.RowKit Mx

theorem partsL_take : ∀ (l : List Ex) (k : Nat) (h : k < l.length), Ex.partsL (l.take (k + 1)) = Ex.partsL (l.take k) + l[k].parts
  | e :: l, 0, _ => by simp [Ex.partsL]
  | e :: l, k + 1, h => by
    have := partsL_take l k (by simpa using h)
    simp only [List.take_succ_cons, Ex.partsL, List.getElem_cons_succ]
    omega
theorem partsL_le : ∀ (l : List Ex) (k : Nat), Ex.partsL (l.take k) ≤ Ex.partsL l
  | [], k => by simp
  | e :: l, 0 => by simp [Ex.partsL]
  | e :: l, k + 1 => by
    have := partsL_le l k
    simp only [List.take_succ_cons, Ex.partsL]
    omega

/-- A term of a slice, its four cells and its value. -/
theorem ExsV.cell {H : Kn} {l : List Ex} {v : Value} (h : ExsV H l v) (hne : l ≠ []) : ∃ b off cap, v = .slice (some ⟨b, off, none⟩) l.length cap ∧ l.length ≤ cap ∧ cap ≤ maxLen ∧ ∀ i (hi : i < l.length), ∃ ax cx,
    H.cell b (off + i * 4) = some (.string l[i].op) ∧ H.cell b (off + i * 4 + 1) = some (.int .i64 l[i].n) ∧ H.cell b (off + i * 4 + 2) = some (.string l[i].s) ∧ H.cell b (off + i * 4 + 3) = some (.slice ax l[i].l.length cx) ∧
      ExV H l[i] (.agg #[.string l[i].op, .int .i64 l[i].n, .string l[i].s, .slice ax l[i].l.length cx]) := by
  rcases h with ⟨h, _⟩ | ⟨b, off, cap, h1, h2, h3, h4⟩
  · exact absurd h hne
  · refine ⟨b, off, cap, h1, h2, h3, fun i hi => ?_⟩
    obtain ⟨u, a0, a1, a2, a3, hu⟩ := (h4.get i hi).cells
    obtain ⟨ax, cx, rfl⟩ := hu.len
    exact ⟨ax, cx, a0, a1, a2, a3, _, rfl, hu⟩

set_option maxHeartbeats 1000000 in
set_option maxRecDepth 100000 in
theorem parts_any (H : Kn) : ∀ (e : Ex) (v : Value), ExV H e v → e.parts ≤ 1000000000000000000 → ∀ w : World, H.In w →
    Calls Tryd.prog 70 #[v] w fun r w' => r = .returned (.int .i64 e.parts) ∧ Below w.heap.size w w' := by
  refine Ex.ind fun o n s l ih v hv hp w hH => ?_
  obtain ⟨u, rfl, hu⟩ := hv
  simp only [Ex.op, Ex.n, Ex.s, Ex.l] at hu ⊢
  simp only [Ex.parts] at hp ⊢
  by_cases hne : l = []
  · subst hne
    obtain ⟨a, cap, rfl⟩ := hu.len
    clear hu ih
    go_enter Tryd.func70, Tryd.ntmps70
    go_wp2_with fail
    go_rounds 1
    all_goals go_ret
    exact ⟨rfl, (Below.refl _ _).alloc (Nat.le_refl _) _⟩
  · obtain ⟨b, off, cap, rfl, h1, h2, hc⟩ := hu.cell hne
    have HC := Lib.hid hc
    have IH := Lib.hid ih
    clear hc hu ih
    have hlt : l.length ≤ 9223372036854775807 := by unfold maxLen at h2; omega
    go_enter Tryd.func70, Tryd.ntmps70
    go_wp2_with fail
    have hW1 : Below w.heap.size w (w.alloc (.cells #[.string o, .int .i64 n, .string s, .slice (some ⟨b, off, none⟩) l.length cap] 84)) := (Below.refl _ _).alloc (Nat.le_refl _) _
    generalize w.alloc (.cells #[.string o, .int .i64 n, .string s, .slice (some ⟨b, off, none⟩) l.length cap] 84) = W at *
    go_loopw [3, 9] (fun c i wr => ∃ k : Nat, i = .int .i64 k ∧ k ≤ l.length ∧ c = .int .i64 ((1 + Ex.partsL (l.take k) : Nat) : Int) ∧ Below w.heap.size w wr) (fun _ i _ => l.length - (intOf i).toNat)
    case atStart => exact ⟨0, rfl, Nat.zero_le _, rfl, hW1⟩
    case round =>
      obtain ⟨k, rfl, hk, rfl, hb⟩ := hrel
      have hwr := hb.size
      have hpl := partsL_le l k
      by_cases hkl : k < l.length
      · obtain ⟨ax, cx, c0, c1, c2, c3, hx⟩ := HC.out k hkl
        have hHr := hH.below hb
        have c0 := hHr.cell c0
        have c1 := hHr.cell c1
        have c2 := hHr.cell c2
        have c3 := hHr.cell c3
        have hps := partsL_take l k hkl
        have hpl2 := partsL_le l (k + 1)
        have PS := Lib.hid hps
        have hpx : l[k].parts ≤ 1000000000000000000 := by omega
        have hmem := List.getElem_mem hkl
        generalize l[k] = x at *
        clear hps
        go_wp2_with fail
        refine (IH.out x hmem _ hx hpx _ (hHr.alloc _)).mono ?_
        rintro r w2 ⟨rfl, hb2⟩
        have hW2 : Below w.heap.size w w2 := ((hb.alloc hwr _)).trans (hb2.mono (by simp; omega))
        go_wp2_with fail
        go_roundw
        case rel => exact ⟨k + 1, by go_num, by omega, by rw [PS.out]; go_num, hW2⟩
        case measure => simp [intOf]; omega
      · go_wp2_with fail
        go_ret
        exact ⟨ret_int (by rw [List.take_of_length_le (by omega)]), hb⟩
end Go.Proofs.YtgpdagkoampipaaDoor
