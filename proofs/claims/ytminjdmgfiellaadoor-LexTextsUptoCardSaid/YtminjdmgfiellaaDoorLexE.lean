/- Walks: lex.one at an operator, or at nothing; lex.one whole. -/
import Derived.Test.YtminjdmgfiellaaDoorLexD
namespace Go.Proofs.YtminjdmgfiellaaDoor
open Go.RowKit

theorem pref_any (s : ByteArray) (a : Addr) (w : World) (hc : w.cell? a = some (.string s)) : StrPred 91 #[.pointer (some a)] (fun o => Lib.hasPrefix s.data.toList o.data.toList) w := by
  refine ⟨fun _ _ => by kernel_rfl, fun x => ?_⟩
  show Calls _ _ #[.string x, .pointer (some a)] w _
  go_enter Tryd.func91, Tryd.ntmps91
  go_wp2_with (go_at_call 84; refine (HasPrefix_any _ _ _).mono ?_; rintro e w' ⟨rfl, rfl⟩)
  go_ret
  exact ⟨rfl, rfl⟩

theorem idx_find (l : List Lx.B) (q : Lx.B → Bool) : (idxBy (fun o => q o.data.toList) (l.map bs) = -1 ∧ l.find? q = none) ∨
    ∃ i : Nat, ∃ h : i < l.length, idxBy (fun o => q o.data.toList) (l.map bs) = (i : Int) ∧ l.find? q = some l[i] := by
  unfold idxBy
  rw [List.findIdx?_map]
  have e : ((fun o : ByteArray => q o.data.toList) ∘ bs) = q := by funext x; rfl
  rw [e]
  cases h : l.findIdx? q with
  | none =>
    left
    rw [List.findIdx?_eq_none_iff] at h
    exact ⟨rfl, List.find?_eq_none.2 (fun x hx => by simp [h x hx])⟩
  | some i =>
    right
    rw [List.findIdx?_eq_some_iff_getElem] at h
    obtain ⟨hi, hp, hn⟩ := h
    refine ⟨i, hi, rfl, ?_⟩
    rw [List.find?_eq_some_iff_getElem]
    exact ⟨hp, i, hi, rfl, fun j hj => by simpa using hn j hj⟩

theorem one_op_eq (s : ByteArray) (h0 : 0 < s.size) (hl : Lx.isLow s[0] = false) (hd : Lx.isDig s[0] = false) :
    Lx.one s.data.toList = match Lx.ops.find? (fun o => o.isPrefixOf s.data.toList) with | some o => (⟨Lx.kOp, o, 0⟩, true) | none => (⟨[], [], 0⟩, false) := by
  have h := head_cons s h0
  generalize s.data.toList = l at *
  rw [h]
  simp only [Lx.one, hl, hd, if_false, Bool.false_eq_true]
  rfl

set_option maxHeartbeats 1000000 in
set_option maxRecDepth 100000 in
theorem one_op (H : Kn) (T : LexTabs H) (s : ByteArray) (h0 : 0 < s.size) (hs : s.size ≤ 281474976710656) (w : World) (hH : H.In w) (hl : Lx.isLow s[0] = false) (hd : Lx.isDig s[0] = false) :
    Calls Tryd.prog 56 #[.string s] w fun e w' => e = .returned (oneVal (Lx.one s.data.toList)) ∧ Below w.heap.size w w' := by
  have h0' : (0 : Int) < s.size := by omega
  obtain ⟨v, hv, hw⟩ := T.ops
  have hcell : w.cell? ⟨10, 0, none⟩ = some v := hH.cell hv
  have hglt : 10 < w.heap.size := Kn.cell_lt hH hv
  have HW := Lib.hid hw
  have HL := Lib.hid hl
  have HC := Lib.hid hd
  have HEQ := Lib.hid (one_op_eq s h0 hl hd)
  clear hl hd hw
  go_enter Tryd.func56, Tryd.ntmps56
  go_wp2_with fail
  refine (low_any _ _).mono ?_
  rintro e w' ⟨rfl, rfl⟩
  rw [HL.out]
  go_wp2_with fail
  refine (digit_any _ _).mono ?_
  rintro e w' ⟨rfl, rfl⟩
  rw [HC.out]
  go_wp2_with fail
  have hI := ((hH.alloc (.cells #[.string s] 9)).alloc (.cells #[.string ⟨#[]⟩, .string ⟨#[]⟩, .int .i64 0] 69))
  refine (idxFunc_any H v _ _ _ _ _ (pref_any s _ _ (by simp)) HW.out hI).mono ?_
  rintro e w' ⟨rfl, rfl⟩
  rcases idx_find Lx.ops (fun o => o.isPrefixOf s.data.toList) with ⟨h1, h2⟩ | ⟨i, hi, h1, h2⟩
  · rw [show (fun o : ByteArray => Lib.hasPrefix s.data.toList o.data.toList) = (fun o => o.data.toList.isPrefixOf s.data.toList) from rfl, h1]
    have H2 := Lib.hid h2
    clear h1 h2
    go_wp2_with fail
    go_returns
    refine ⟨?_, by go_grown⟩
    rw [HEQ.out, H2.out]
    rfl
  · rw [show (fun o : ByteArray => Lib.hasPrefix s.data.toList o.data.toList) = (fun o => o.data.toList.isPrefixOf s.data.toList) from rfl, h1]
    have H2 := Lib.hid h2
    clear h1 h2
    rcases HW.out.cases with ⟨rfl, hnil⟩ | ⟨b, off, cap, rfl, hc1, hc2, hc3⟩
    · cases hnil
    · have hlen : (Lx.ops.map bs).length = Lx.ops.length := List.length_map _
      have hcl := hH.cell (hc3 i (by rw [hlen]; exact hi))
      have hbl : b < w.heap.size := Kn.cell_lt hH (hc3 i (by rw [hlen]; exact hi))
      rw [List.getElem_map] at hcl
      rw [hlen]
      generalize ho : Lx.ops[i] = o at *
      have HO := Lib.hid ho
      clear hc3 hlen ho HW hv
      go_wp2_with fail
      go_returns
      refine ⟨?_, by go_grown⟩
      rw [HEQ.out, H2.out]
      rfl

/-- lex.one, whole. -/
theorem one_any (H : Kn) (T : LexTabs H) (s : ByteArray) (h0 : 0 < s.size) (hs : s.size ≤ 281474976710656) (w : World) (hH : H.In w) :
    Calls Tryd.prog 56 #[.string s] w fun e w' => e = .returned (oneVal (Lx.one s.data.toList)) ∧ Below w.heap.size w w' := by
  cases hl : Lx.isLow s[0]
  · cases hd : Lx.isDig s[0]
    · exact one_op H T s h0 hs w hH hl hd
    · by_cases hb : Lx.dval (s.extract 0 (Lx.span Lx.isDig s.data.toList)).data.toList < 9223372036854775808
      · exact one_dig_small H s h0 hs w hH hd hb
      · exact one_dig_big H T s h0 hs w hH hd hb
  · exact one_low H T s h0 (by unfold maxLen; omega) w hH hl
end Go.Proofs.YtminjdmgfiellaaDoor
