/- Walks: lex.one, branch by branch. -/
import Derived.Test.YtminjdmgfiellaaDoorLexB
import Derived.Test.YtminjdmgfiellaaDoorAtoi
import Derived.Test.YtminjdmgfiellaaDoorLexNum
import Derived.Deep.QuietTactic
import Derived.BigQuiet
namespace Go.Proofs.YtminjdmgfiellaaDoor
open Go.RowKit

def bs (l : List UInt8) : ByteArray := ⟨l.toArray⟩
theorem bs_data (l : List UInt8) : (bs l).data.toList = l := rfl
theorem bs_toList (l : List UInt8) : (bs l).toList = l := by rw [Lib.toList_data]; rfl
theorem bs_of (s : ByteArray) : bs s.data.toList = s := Lib.mk_data s
theorem bs_of' (s : ByteArray) : bs s.toList = s := by rw [Lib.toList_data]; exact Lib.mk_data s

/-- The lexer's tables and errors, in known memory. -/
structure LexTabs (H : Kn) : Prop where
  words : ∃ v, H.cell 9 0 = some v ∧ StrsAt H v (Lx.words.map bs)
  ops : ∃ v, H.cell 10 0 = some v ∧ StrsAt H v (Lx.ops.map bs)
  range : ∃ te pe, H.cell 14 0 = some (.iface te pe)
  text : ∃ te pe, H.cell 4 0 = some (.iface te pe)
  bound : ∃ te pe, H.cell 3 0 = some (.iface te pe)

/-- What 'one' returns, as a value. -/
def oneVal (r : Lx.Tk × Bool) : Value := .tuple #[.agg #[.string (bs r.1.kind), .string (bs r.1.text), .int .i64 r.1.pos], .bool r.2]

theorem head_cons (s : ByteArray) (h : 0 < s.size) : s.data.toList = s[0] :: s.data.toList.drop 1 := by
  have := drop_at s 0 h
  simpa using this
theorem cut_bs (s : ByteArray) (n : Nat) : s.extract 0 n = bs (s.data.toList.take n) := by
  rw [Lib.extract_eq]; simp [bs]

theorem words_any (l : List (List UInt8)) (t : ByteArray) : ((l.map bs).any fun x => t.toList == x.toList) = l.contains t.data.toList := by
  induction l with
  | nil => rfl
  | cons a l ih => rw [List.map_cons, List.any_cons, ih, List.contains_cons, bs_toList, Lib.toList_data]

theorem ext_len {s : ByteArray} {k : Nat} (hk : k ≤ s.size) : (s.extract 0 k).data.toList.length = k := by
  rw [Lib.extract_data, List.length_take, List.length_drop, ← Lib.size_eq]; omega
theorem one_low_eq (s : ByteArray) (h0 : 0 < s.size) (hc : Lx.isLow s[0] = true) {k : Nat} (hk : Lx.span Lx.isWd s.data.toList = k) :
    Lx.one s.data.toList = if Lx.words.contains (s.extract 0 k).data.toList then (⟨Lx.kWord, (s.extract 0 k).data.toList, 0⟩, true) else (⟨Lx.kName, (s.extract 0 k).data.toList, 0⟩, decide ((s.extract 0 k).data.toList.length ≤ 12)) := by
  have e : (s.extract 0 k).data.toList = s.data.toList.take k := by rw [Lib.extract_data]; simp
  rw [e]
  have h := head_cons s h0
  generalize hl : s.data.toList = l at *
  rw [h] at hk ⊢
  simp only [Lx.one, hc, if_true, hk]
set_option maxRecDepth 100000 in
theorem one_low (H : Kn) (T : LexTabs H) (s : ByteArray) (h0 : 0 < s.size) (hs : s.size ≤ maxLen) (w : World) (hH : H.In w) (hc : Lx.isLow s[0] = true) :
    Calls Tryd.prog 56 #[.string s] w fun e w' => e = .returned (oneVal (Lx.one s.data.toList)) ∧ Below w.heap.size w w' := by
  have hs' := hs
  unfold maxLen at hs'
  have h0' : (0 : Int) < s.size := by omega
  obtain ⟨v, hv, hw⟩ := T.words
  have hcell : w.cell? ⟨9, 0, none⟩ = some v := hH.cell hv
  have hglt : 9 < w.heap.size := Kn.cell_lt hH hv
  have HC := Lib.hid hc
  clear hc
  have hsp : ∀ w, Calls Tryd.prog 82 #[.string s, .func (.func 87) #[] #[]] w fun e w' => e = .returned (.int .i64 (Lx.span Lx.isWd s.data.toList)) ∧ w = w' := span_any _ _ Lx.isWd hs pred_word
  have hk := Lx.span_le Lx.isWd s.data.toList
  rw [← Lib.size_eq] at hk
  generalize hkk : Lx.span Lx.isWd s.data.toList = k at *
  have HK := Lib.hid hkk
  have HSP := Lib.hid hsp
  have hk0 : (0 : Int) ≤ k := by omega
  have hk1 : (k : Int) ≤ s.size := by omega
  clear hkk hsp
  go_enter Tryd.func56, Tryd.ntmps56
  go_wp2_with fail
  refine (low_any _ _).mono ?_
  rintro e w' ⟨rfl, rfl⟩
  rw [HC.out]
  go_wp2_with fail
  go_quiet ((go_at_call 82; exact quiet_eq (HSP.out _)))
  have hI := (((hH.alloc (.cells #[.string s] 9)).alloc (.cells #[.string ⟨#[]⟩, .string ⟨#[]⟩, .int .i64 0] 69)).drewN nq)
  have HW := Lib.hid hw
  clear hw
  cases hcw : ((Lx.words.map bs).any fun x => (s.extract 0 k).toList == x.toList)
  · have HCW := Lib.hid hcw
    clear hcw
    go_wp2_with fail
    refine (contains_any H v _ (s.extract 0 k) _ HW.out hI).mono ?_
    rintro e w' ⟨rfl, rfl⟩
    rw [HCW.out]
    go_wp2_with fail
    go_returns
    refine ⟨?_, by go_grown; all_goals (refine below_drewN ?_ _; go_grown)⟩
    rw [one_low_eq s h0 HC.out HK.out, ← words_any, HCW.out, ext_len hk]
    simp only [Bool.false_eq_true, if_false, oneVal, bs_of]
    rw [show decide ((k : Int) ≤ 12) = decide (k ≤ 12) from by rw [decide_eq_decide]; omega]
    rfl
  · have HCW := Lib.hid hcw
    clear hcw
    go_wp2_with fail
    refine (contains_any H v _ (s.extract 0 k) _ HW.out hI).mono ?_
    rintro e w' ⟨rfl, rfl⟩
    rw [HCW.out]
    go_wp2_with fail
    go_returns
    refine ⟨?_, by go_grown; all_goals (refine below_drewN ?_ _; go_grown)⟩
    rw [one_low_eq s h0 HC.out HK.out, ← words_any, HCW.out]
    simp only [if_true, oneVal, bs_of]
    rfl

theorem atoi_ok (t : ByteArray) (w : World) (ht : t.size ≤ 281474976710656) (hne : t.data.toList ≠ []) (hd : ∀ c ∈ t.data.toList, Lx.isDig c = true) (hv : Lx.dval t.data.toList < 9223372036854775808) :
    Calls Tryd.prog 89 #[.string t] w fun e w' => e = .returned (.tuple #[.int .i64 (Lx.dval t.data.toList), .nilIface]) ∧ Below w.heap.size w w' := by
  refine (Tryd.strconv_Atoi_ok t (by omega) (Lx.dval t.data.toList) (by rw [atoi_digits _ hne hd, if_pos hv]) w).mono ?_
  rintro e w' ⟨he, hw⟩
  refine ⟨he, ?_⟩
  rcases hw with rfl | ⟨x, rfl⟩
  · exact Below.refl _ _
  · exact Lib.bytesWorld_below _ _ _
theorem atoi_big (H : Kn) (T : LexTabs H) (t : ByteArray) (w : World) (hH : H.In w) (ht : t.size ≤ 281474976710656) (hne : t.data.toList ≠ []) (hd : ∀ c ∈ t.data.toList, Lx.isDig c = true) (hv : ¬ Lx.dval t.data.toList < 9223372036854775808) :
    Calls Tryd.prog 89 #[.string t] w fun e w' => ∃ N, e = .returned (.tuple #[.int .i64 (Lib.atoiSat t.data.toList), .iface 192 (.pointer (some ⟨N, 0, none⟩))]) ∧ Below w.heap.size w w' := by
  obtain ⟨te, pe, hr⟩ := T.range
  refine (Tryd.strconv_Atoi_range t ht (by rw [atoi_digits _ hne hd, if_neg hv]) _ w (hH.cell hr) (.inr ⟨te, pe, rfl⟩)).mono ?_
  rintro e w' ⟨N, he, _, _, hb⟩
  exact ⟨N, he, hb⟩

theorem dig_not_low {c : UInt8} (h : Lx.isDig c = true) : Lx.isLow c = false := by
  simp [Lx.isDig, Lx.isLow] at *; omega

theorem one_dig_eq (s : ByteArray) (h0 : 0 < s.size) (hc : Lx.isDig s[0] = true) {k : Nat} (hk : Lx.span Lx.isDig s.data.toList = k) :
    Lx.one s.data.toList = (⟨Lx.kInt, (s.extract 0 k).data.toList, 0⟩, decide (Lx.dval (s.extract 0 k).data.toList ≤ 127) && (decide ((s.extract 0 k).data.toList.length = 1) || !(s[0] == 48))) := by
  have e : (s.extract 0 k).data.toList = s.data.toList.take k := by rw [Lib.extract_data]; simp
  rw [e]
  have h := head_cons s h0
  generalize hl : s.data.toList = l at *
  rw [h] at hk ⊢
  simp only [Lx.one, hc, dig_not_low hc, if_true, hk, Bool.false_eq_true, if_false]
theorem span_all (p : UInt8 → Bool) (l : List UInt8) : ∀ c ∈ l.take (Lx.span p l), p c = true := by
  unfold Lx.span
  induction l with
  | nil => intro c h; simp at h
  | cons a l ih =>
    intro c h
    by_cases ha : p a = true
    · simp only [List.takeWhile, ha, List.length_cons, List.take_succ_cons, List.mem_cons] at h
      rcases h with rfl | h
      · exact ha
      · exact ih c h
    · simp [List.takeWhile, ha] at h
end Go.Proofs.YtminjdmgfiellaaDoor
