/- Walks: lex.one at a digit. -/
import Derived.Test.YtminjdmgfiellaaDoorLexC
namespace Go.Proofs.YtminjdmgfiellaaDoor
open Go.RowKit

set_option maxRecDepth 100000 in
theorem one_dig_big (H : Kn) (T : LexTabs H) (s : ByteArray) (h0 : 0 < s.size) (hs : s.size ≤ 281474976710656) (w : World) (hH : H.In w) (hc : Lx.isDig s[0] = true)
    (hbig : ¬ Lx.dval (s.extract 0 (Lx.span Lx.isDig s.data.toList)).data.toList < 9223372036854775808) :
    Calls Tryd.prog 56 #[.string s] w fun e w' => e = .returned (oneVal (Lx.one s.data.toList)) ∧ Below w.heap.size w w' := by
  have hs' : s.size ≤ 2 ^ 63 - 1 := by omega
  have h0' : (0 : Int) < s.size := by omega
  have HL := Lib.hid (dig_not_low hc)
  have HC := Lib.hid hc
  have HBIG := Lib.hid hbig
  have HALL := Lib.hid (span_all Lx.isDig s.data.toList)
  have hsp : ∀ w, Calls Tryd.prog 82 #[.string s, .func (.func 88) #[] #[]] w fun e w' => e = .returned (.int .i64 (Lx.span Lx.isDig s.data.toList)) ∧ w = w' := span_any _ _ Lx.isDig (by unfold maxLen; omega) pred_digit
  have hk := Lx.span_le Lx.isDig s.data.toList
  rw [← Lib.size_eq] at hk
  have hk1 : 1 ≤ Lx.span Lx.isDig s.data.toList := by rw [head_cons s h0, Lx.span_cons, hc]; simp
  generalize hkk : Lx.span Lx.isDig s.data.toList = k at *
  have HK := Lib.hid hkk
  have HSP := Lib.hid hsp
  have hk0 : (0 : Int) ≤ k := by omega
  have hk2 : (k : Int) ≤ s.size := by omega
  clear hkk hsp hc hbig
  go_enter Tryd.func56, Tryd.ntmps56
  go_wp2_with fail
  refine (low_any _ _).mono ?_
  rintro e w' ⟨rfl, rfl⟩
  rw [HL.out]
  go_wp2_with fail
  refine (digit_any _ _).mono ?_
  rintro e w' ⟨rfl, rfl⟩
  rw [HC.out]
  go_wp2_with fail
  go_quiet ((go_at_call 82; exact quiet_eq (HSP.out _)))
  have hI := (((hH.alloc (.cells #[.string s] 9)).alloc (.cells #[.string ⟨#[]⟩, .string ⟨#[]⟩, .int .i64 0] 69)).drewN nq)
  have hext : (s.extract 0 k).data.toList = s.data.toList.take k := by rw [Lib.extract_data]; simp
  have HEXT := Lib.hid hext
  clear hext
  have hne : (s.extract 0 k).data.toList ≠ [] := by intro h; have := ext_len hk; rw [h] at this; simp at this; omega
  have hsz : (s.extract 0 k).size = k := by rw [Lib.size_eq, ext_len hk]
  have HSZ := Lib.hid hsz
  clear hsz
  have HNE := Lib.hid hne
  clear hne
  go_wp2_with fail
  refine (atoi_big H T (s.extract 0 k) _ hI (by rw [HSZ.out]; omega) HNE.out (by rw [HEXT.out]; exact HALL.out) HBIG.out).mono ?_
  rintro e w1 ⟨N, rfl, hb⟩
  obtain ⟨hcc, hff⟩ := bcell hb
  have hz := hb.size
  simp at hz
  go_wp2_with fail
  have hB : Below w.heap.size w w1 := (below_drewN (((Below.refl _ _).alloc (Nat.le_refl _) _).alloc (by simp) _) _).trans (hb.mono (by simp; omega))
  have q0 : w1.cell? ⟨w.heap.size + 1, 0, none⟩ = some (.string ⟨#[]⟩) := by rw [hcc _ _ (by simp)]; simp
  have q1 : w1.cell? ⟨w.heap.size + 1, 1, none⟩ = some (.string ⟨#[]⟩) := by rw [hcc _ _ (by simp)]; simp
  have q2 : w1.cell? ⟨w.heap.size + 1, 2, none⟩ = some (.int .i64 0) := by rw [hcc _ _ (by simp)]; simp
  go_region
  all_goals go_wp2_with fail
  refine bodyPost_ret (v := .tuple #[.agg #[.string ⟨#[105, 110, 116]⟩, .string (s.extract 0 k), .int .i64 0], .bool false]) (by simp [results, Tryd.results56, go_sem, q0, q1, q2]) rfl ?_
  refine ⟨?_, by go_grown⟩
  rw [one_dig_eq s h0 HC.out HK.out, show decide (Lx.dval (s.extract 0 k).data.toList ≤ 127) = false from by have := HBIG.out; rw [decide_eq_false_iff_not]; omega]
  simp only [Bool.false_and, oneVal, bs_of]
  rfl

theorem ext_head {s : ByteArray} {k : Nat} (h0 : 0 < s.size) (_hk : k ≤ s.size) (ht : 0 < (s.extract 0 k).size) : (s.extract 0 k)[0] = s[0] := by
  simp [ByteArray.getElem_extract]

set_option maxHeartbeats 1000000 in
set_option maxRecDepth 100000 in
theorem one_dig_small (H : Kn) (s : ByteArray) (h0 : 0 < s.size) (hs : s.size ≤ 281474976710656) (w : World) (hH : H.In w) (hc : Lx.isDig s[0] = true)
    (hbig : Lx.dval (s.extract 0 (Lx.span Lx.isDig s.data.toList)).data.toList < 9223372036854775808) :
    Calls Tryd.prog 56 #[.string s] w fun e w' => e = .returned (oneVal (Lx.one s.data.toList)) ∧ Below w.heap.size w w' := by
  have hs' : s.size ≤ 2 ^ 63 - 1 := by omega
  have h0' : (0 : Int) < s.size := by omega
  have HL := Lib.hid (dig_not_low hc)
  have HC := Lib.hid hc
  have HBIG := Lib.hid hbig
  have HALL := Lib.hid (span_all Lx.isDig s.data.toList)
  have hsp : ∀ w, Calls Tryd.prog 82 #[.string s, .func (.func 88) #[] #[]] w fun e w' => e = .returned (.int .i64 (Lx.span Lx.isDig s.data.toList)) ∧ w = w' := span_any _ _ Lx.isDig (by unfold maxLen; omega) pred_digit
  have hk := Lx.span_le Lx.isDig s.data.toList
  rw [← Lib.size_eq] at hk
  have hk1 : 1 ≤ Lx.span Lx.isDig s.data.toList := by rw [head_cons s h0, Lx.span_cons, hc]; simp
  generalize hkk : Lx.span Lx.isDig s.data.toList = k at *
  have HK := Lib.hid hkk
  have HSP := Lib.hid hsp
  have hk0 : (0 : Int) ≤ k := by omega
  have hk2 : (k : Int) ≤ s.size := by omega
  clear hkk hsp hc hbig
  go_enter Tryd.func56, Tryd.ntmps56
  go_wp2_with fail
  refine (low_any _ _).mono ?_
  rintro e w' ⟨rfl, rfl⟩
  rw [HL.out]
  go_wp2_with fail
  refine (digit_any _ _).mono ?_
  rintro e w' ⟨rfl, rfl⟩
  rw [HC.out]
  go_wp2_with fail
  go_quiet ((go_at_call 82; exact quiet_eq (HSP.out _)))
  have hI := (((hH.alloc (.cells #[.string s] 9)).alloc (.cells #[.string ⟨#[]⟩, .string ⟨#[]⟩, .int .i64 0] 69)).drewN nq)
  have hext : (s.extract 0 k).data.toList = s.data.toList.take k := by rw [Lib.extract_data]; simp
  have HEXT := Lib.hid hext
  clear hext
  have hne : (s.extract 0 k).data.toList ≠ [] := by intro h; have := ext_len hk; rw [h] at this; simp at this; omega
  have hsz : (s.extract 0 k).size = k := by rw [Lib.size_eq, ext_len hk]
  have HSZ := Lib.hid hsz
  clear hsz
  have HNE := Lib.hid hne
  clear hne
  go_wp2_with fail
  refine (atoi_ok (s.extract 0 k) _ (by rw [HSZ.out]; omega) HNE.out (by rw [HEXT.out]; exact HALL.out) HBIG.out).mono ?_
  rintro e w1 ⟨rfl, hb⟩
  obtain ⟨hcc, hff⟩ := bcell hb
  have hz := hb.size
  simp at hz
  have hbig := HBIG.out
  generalize hd : Lx.dval (s.extract 0 k).data.toList = d at *
  have HD := Lib.hid hd
  have hd0 : (0 : Int) ≤ d := by omega
  clear hd HBIG
  have hB : Below w.heap.size w w1 := (below_drewN (((Below.refl _ _).alloc (Nat.le_refl _) _).alloc (by simp) _) _).trans (hb.mono (by simp; omega))
  have q0 : w1.cell? ⟨w.heap.size + 1, 0, none⟩ = some (.string ⟨#[]⟩) := by rw [hcc _ _ (by simp)]; simp
  have q1 : w1.cell? ⟨w.heap.size + 1, 1, none⟩ = some (.string ⟨#[]⟩) := by rw [hcc _ _ (by simp)]; simp
  have q2 : w1.cell? ⟨w.heap.size + 1, 2, none⟩ = some (.int .i64 0) := by rw [hcc _ _ (by simp)]; simp
  go_wp2_with fail
  by_cases h127 : (d : Int) ≤ 127
  · by_cases hk1' : k = 1
    · subst hk1'
      go_region
      all_goals go_wp2_with fail
      refine bodyPost_ret (v := .tuple #[.agg #[.string ⟨#[105, 110, 116]⟩, .string (s.extract 0 1), .int .i64 0], .bool true]) (by simp [results, Tryd.results56, go_sem, q0, q1, q2]) rfl ?_
      refine ⟨?_, by go_grown⟩
      rw [one_dig_eq s h0 HC.out HK.out, HD.out, ext_len hk, show decide (d ≤ 127) = true from by rw [decide_eq_true_iff]; omega]
      simp only [oneVal, bs_of]
      rfl
    · have ht0 : 0 < (s.extract 0 k).size := by rw [HSZ.out]; omega
      have hx0 : (s.extract 0 k)[0] = s[0] := ext_head h0 hk ht0
      have hlen := ext_len hk
      have heq := one_dig_eq s h0 HC.out HK.out
      have HSZ' := HSZ.out
      generalize ht : s.extract 0 k = t at *
      have HEQ := Lib.hid heq
      have HX := Lib.hid hx0
      have HLEN := Lib.hid hlen
      have hk3 : ((t.size : Int) == 1) = false := by rw [HSZ', beq_eq_false_iff_ne]; omega
      have HSZ'' := Lib.hid HSZ'
      have HT := Lib.hid ht
      clear heq hx0 hlen HSZ' ht HEXT HNE HSZ HALL
      cases h48 : ((t[0].toNat : Int) == 48)
      · have h48' : ((t[0].toNat : Int) != 48) = true := by simp [bne, h48]
        go_region
        all_goals go_wp2_with fail
        refine bodyPost_ret (v := .tuple #[.agg #[.string ⟨#[105, 110, 116]⟩, .string t, .int .i64 0], .bool true]) (by simp [results, Tryd.results56, go_sem, q0, q1, q2]) rfl ?_
        refine ⟨?_, by go_grown⟩
        rw [HEQ.out, HD.out, HLEN.out, ← HX.out, show decide (d ≤ 127) = true from by rw [decide_eq_true_iff]; omega, show (t[0] == 48) = false from (toNat_eq_iff t[0] 48 (by decide)).symm.trans h48]
        simp only [oneVal, bs_of, Bool.not_false, Bool.or_true, Bool.and_self]
        rfl
      · have h48' : ((t[0].toNat : Int) != 48) = false := by simp [bne, h48]
        go_region
        all_goals go_wp2_with fail
        refine bodyPost_ret (v := .tuple #[.agg #[.string ⟨#[105, 110, 116]⟩, .string t, .int .i64 0], .bool false]) (by simp [results, Tryd.results56, go_sem, q0, q1, q2]) rfl ?_
        refine ⟨?_, by go_grown⟩
        rw [HEQ.out, HD.out, HLEN.out, ← HX.out, show decide (k = 1) = false from by rw [decide_eq_false_iff_not]; exact hk1', show (t[0] == 48) = true from (toNat_eq_iff t[0] 48 (by decide)).symm.trans h48]
        simp only [oneVal, bs_of, Bool.not_true, Bool.or_self, Bool.and_false]
        rfl
  · go_region
    all_goals go_wp2_with fail
    refine bodyPost_ret (v := .tuple #[.agg #[.string ⟨#[105, 110, 116]⟩, .string (s.extract 0 k), .int .i64 0], .bool false]) (by simp [results, Tryd.results56, go_sem, q0, q1, q2]) rfl ?_
    refine ⟨?_, by go_grown⟩
    rw [one_dig_eq s h0 HC.out HK.out, HD.out, ext_len hk, show decide (d ≤ 127) = false from by rw [decide_eq_false_iff_not]; omega]
    simp only [Bool.false_and, oneVal, bs_of]
    rfl
end Go.Proofs.YtminjdmgfiellaaDoor
