/- Walks of the document's lexer: tokenOf at a digit, at an operator, whole. -/
import Derived.Test.YtminjdmgfiellaaDoorRLexB
namespace Go.Proofs.YtminjdmgfiellaaDoor
open Go.RowKit

theorem ref_dig_eq (s : ByteArray) (h0 : 0 < s.size) (hc : Lx.isDig s[0] = true) {k : Nat} (hk : Lx.span Lx.isDig s.data.toList = k) :
    Lx.refTok s.data.toList = if 0 ≤ Lx.intOf (s.extract 0 k).data.toList then ⟨Lx.kInt, (s.extract 0 k).data.toList, 0⟩ else ⟨[], [], 0⟩ := by
  have e : (s.extract 0 k).data.toList = s.data.toList.take k := by rw [Lib.extract_data]; simp
  rw [e]
  have h := head_cons s h0
  generalize hl : s.data.toList = l at *
  rw [h] at hk ⊢
  simp only [Lx.refTok, hc, dig_not_low hc, if_true, hk, Bool.false_eq_true, if_false]

set_option maxHeartbeats 1000000 in
set_option maxRecDepth 100000 in
theorem tok_dig (s : ByteArray) (h0 : 0 < s.size) (hs : s.size ≤ maxLen) (w : World) (hc : Lx.isDig s[0] = true) :
    Calls Tryd.prog 81 #[.string s] w fun e w' => e = .returned (tokVal (Lx.refTok s.data.toList)) ∧ Below w.heap.size w w' := by
  unfold maxLen at hs
  have h0' : (0 : Int) < s.size := by omega
  have HC := Lib.hid hc
  have HL := Lib.hid (dig_not_low hc)
  have hk := Lx.span_le Lx.isDig s.data.toList
  rw [← Lib.size_eq] at hk
  have hk1 : 1 ≤ Lx.span Lx.isDig s.data.toList := by rw [head_cons s h0, Lx.span_cons, hc]; simp
  have hin : ∀ i (h : i < s.size), i < Lx.span Lx.isDig s.data.toList → Lx.isDig s[i] = true := fun i h hi => Lx.span_in Lx.isDig s.data.toList i hi (by simpa using h)
  have hout : ∀ (h : Lx.span Lx.isDig s.data.toList < s.size), Lx.isDig (s[Lx.span Lx.isDig s.data.toList]) = false := fun h => Lx.span_out Lx.isDig s.data.toList (by simpa using h)
  have hall : ∀ c ∈ (s.extract 0 (Lx.span Lx.isDig s.data.toList)).data.toList, Lx.isDig c = true := by
    rw [Lib.extract_data]
    simpa using span_all Lx.isDig s.data.toList
  generalize hkk : Lx.span Lx.isDig s.data.toList = k at *
  have heq := ref_dig_eq s h0 hc hkk
  have HIN := Lib.hid hin
  have HOUT := Lib.hid hout
  have HALL := Lib.hid hall
  have HSZ := Lib.hid (show (s.extract 0 k).size = k by rw [Lib.size_eq, ext_len hk])
  clear hkk hin hout hc hall
  generalize hv : Lx.intOf (s.extract 0 k).data.toList = v at *
  have HV := Lib.hid hv
  clear hv
  by_cases h0v : 0 ≤ v
  · rw [if_pos h0v] at heq
    have HE := Lib.hid heq
    clear heq
    go_enter Tryd.func81, Tryd.ntmps81
    go_wp2_with fail
    refine (isLow_any _ _).mono ?_
    rintro e w' ⟨rfl, rfl⟩
    rw [HL.out]
    go_wp2_with fail
    refine (isDigit_any _ _).mono ?_
    rintro e w' ⟨rfl, rfl⟩
    rw [HC.out]
    go_wp2_with fail
    go_loop [3] (fun n => ∃ j : Nat, 1 ≤ j ∧ j ≤ k ∧ n = .int .i64 j) (fun n => k - (intOf n).toNat)
    case atStart => exact ⟨1, by omega, hk1, rfl⟩
    case round =>
      obtain ⟨j, hj1, hj, rfl⟩ := hrel
      by_cases hjk : j < k
      · have hlt : j < s.size := by omega
        go_wp2_with (go_at_call 105; refine (isDigit_any _ _).mono ?_; rintro e w' ⟨rfl, rfl⟩; rw [HIN.out j hlt hjk])
        go_round
        case rel => exact ⟨j + 1, by omega, by omega, by go_num⟩
        case measure => simp [intOf]; omega
      · obtain rfl : k = j := by omega
        by_cases hlt : k < s.size
        · go_wp2_with (go_at_call 105; refine (isDigit_any _ _).mono ?_; rintro e w' ⟨rfl, rfl⟩; rw [HOUT.out hlt])
          refine (rIntOf_any _ _ (by rw [HSZ.out]; unfold maxLen; omega) (by rw [HSZ.out]; omega) HALL.out).mono ?_
          rintro e w' ⟨rfl, rfl⟩
          rw [HV.out]
          go_wp2_with fail
          go_returns
          refine ⟨?_, by go_grown⟩
          rw [HE.out]
          simp only [tokVal, bs_of]
          rfl
        · go_wp2_with fail
          refine (rIntOf_any _ _ (by rw [HSZ.out]; unfold maxLen; omega) (by rw [HSZ.out]; omega) HALL.out).mono ?_
          rintro e w' ⟨rfl, rfl⟩
          rw [HV.out]
          go_wp2_with fail
          go_returns
          refine ⟨?_, by go_grown⟩
          rw [HE.out]
          simp only [tokVal, bs_of]
          rfl
  · rw [if_neg h0v] at heq
    have HE := Lib.hid heq
    clear heq
    have h0w : v < 0 := by omega
    go_enter Tryd.func81, Tryd.ntmps81
    go_wp2_with fail
    refine (isLow_any _ _).mono ?_
    rintro e w' ⟨rfl, rfl⟩
    rw [HL.out]
    go_wp2_with fail
    refine (isDigit_any _ _).mono ?_
    rintro e w' ⟨rfl, rfl⟩
    rw [HC.out]
    go_wp2_with fail
    go_loop [3] (fun n => ∃ j : Nat, 1 ≤ j ∧ j ≤ k ∧ n = .int .i64 j) (fun n => k - (intOf n).toNat)
    case atStart => exact ⟨1, by omega, hk1, rfl⟩
    case round =>
      obtain ⟨j, hj1, hj, rfl⟩ := hrel
      by_cases hjk : j < k
      · have hlt : j < s.size := by omega
        go_wp2_with (go_at_call 105; refine (isDigit_any _ _).mono ?_; rintro e w' ⟨rfl, rfl⟩; rw [HIN.out j hlt hjk])
        go_round
        case rel => exact ⟨j + 1, by omega, by omega, by go_num⟩
        case measure => simp [intOf]; omega
      · obtain rfl : k = j := by omega
        by_cases hlt : k < s.size
        · go_wp2_with (go_at_call 105; refine (isDigit_any _ _).mono ?_; rintro e w' ⟨rfl, rfl⟩; rw [HOUT.out hlt])
          refine (rIntOf_any _ _ (by rw [HSZ.out]; unfold maxLen; omega) (by rw [HSZ.out]; omega) HALL.out).mono ?_
          rintro e w' ⟨rfl, rfl⟩
          rw [HV.out]
          go_wp2_with fail
          go_returns
          refine ⟨?_, by go_grown⟩
          rw [HE.out]
          simp only [tokVal, bs_of]
          rfl
        · go_wp2_with fail
          refine (rIntOf_any _ _ (by rw [HSZ.out]; unfold maxLen; omega) (by rw [HSZ.out]; omega) HALL.out).mono ?_
          rintro e w' ⟨rfl, rfl⟩
          rw [HV.out]
          go_wp2_with fail
          go_returns
          refine ⟨?_, by go_grown⟩
          rw [HE.out]
          simp only [tokVal, bs_of]
          rfl


theorem ref_op_eq (s : ByteArray) (h0 : 0 < s.size) (hl : Lx.isLow s[0] = false) (hd : Lx.isDig s[0] = false) :
    Lx.refTok s.data.toList = if 1 < s.size ∧ Lx.two.contains (s.data.toList.take 2) then ⟨Lx.kOp, s.data.toList.take 2, 0⟩ else if Lx.sing.contains (s.data.toList.take 1) then ⟨Lx.kOp, s.data.toList.take 1, 0⟩ else ⟨[], [], 0⟩ := by
  have h := head_cons s h0
  rw [Lib.size_eq]
  generalize s.data.toList = l at *
  rw [h]
  simp only [Lx.refTok, hl, hd, if_false, Bool.false_eq_true]
theorem rHas_row (l : List (List UInt8)) (hl : l.length ≤ 1000) (b n : Nat) (hn : n = l.length) (s : ByteArray) (W : World) (h : W.heap[b]? = some (.cells ((l.map fun l => Value.string (bs l)).toArray) 9 (0, 0))) :
    Calls Tryd.prog 46 #[.slice (some ⟨b, 0, none⟩) n n, .string s] W fun e w' => e = .returned (.bool (l.contains s.data.toList)) ∧ W = w' := by
  subst hn
  rw [← rwords_any]
  exact rHas_any (allKn W) _ (l.map bs) s W (strs_at l 9 hl h) (allKn_in W)
theorem heap_new3 (w : World) (a b c : Obj) : (((w.alloc a).alloc b).alloc c).heap[w.heap.size + 1 + 1]? = some c := by
  have := heap_alloc_new ((w.alloc a).alloc b) c
  rwa [World.size_alloc, World.size_alloc] at this
set_option maxHeartbeats 1000000 in
set_option maxRecDepth 100000 in
theorem tok_op (s : ByteArray) (h0 : 0 < s.size) (hs : s.size ≤ maxLen) (w : World) (hl : Lx.isLow s[0] = false) (hd : Lx.isDig s[0] = false) :
    Calls Tryd.prog 81 #[.string s] w fun e w' => e = .returned (tokVal (Lx.refTok s.data.toList)) ∧ Below w.heap.size w w' := by
  unfold maxLen at hs
  have h0' : (0 : Int) < s.size := by omega
  have heq := ref_op_eq s h0 hl hd
  have HC := Lib.hid hd
  have HL := Lib.hid hl
  have e1 : (s.extract 0 1).data.toList = s.data.toList.take 1 := by rw [Lib.extract_data]; simp
  have e2 : (s.extract 0 2).data.toList = s.data.toList.take 2 := by rw [Lib.extract_data]; simp
  have HE1 := Lib.hid e1
  have HE2 := Lib.hid e2
  rw [← e1, ← e2] at heq
  clear hl hd e1 e2
  by_cases h1 : 1 < s.size
  · cases h2 : Lx.two.contains (s.extract 0 2).data.toList
    · cases h3 : Lx.sing.contains (s.extract 0 1).data.toList
      all_goals
        rw [h2, h3] at heq
        simp only [Bool.false_eq_true, and_false, if_false, if_true] at heq
        have H2 := Lib.hid h2
        have H3 := Lib.hid h3
        have HE := Lib.hid heq
        clear heq h2 h3
        go_enter Tryd.func81, Tryd.ntmps81
        go_wp2_with fail
        refine (isLow_any _ _).mono ?_
        rintro e w' ⟨rfl, rfl⟩
        rw [HL.out]
        go_wp2_with fail
        refine (isDigit_any _ _).mono ?_
        rintro e w' ⟨rfl, rfl⟩
        rw [HC.out]
        go_wp2_with fail
        refine (rHas_row Lx.two (by decide) _ _ rfl _ _ (by exact heap_new2 _ _ _)).mono ?_
        rintro e w' ⟨rfl, rfl⟩
        rw [H2.out]
        go_wp2_with fail
        refine (rHas_row Lx.sing (by decide) _ _ rfl _ _ (by exact heap_new3 _ _ _ _)).mono ?_
        rintro e w' ⟨rfl, rfl⟩
        rw [H3.out]
        go_wp2_with fail
        go_returns
        refine ⟨?_, by go_grown⟩
        rw [HE.out]
        simp only [tokVal, bs_of]
        rfl
    · all_goals
        rw [h2] at heq
        simp only [h1, and_self, if_true] at heq
        have H2 := Lib.hid h2
        have HE := Lib.hid heq
        clear heq h2
        go_enter Tryd.func81, Tryd.ntmps81
        go_wp2_with fail
        refine (isLow_any _ _).mono ?_
        rintro e w' ⟨rfl, rfl⟩
        rw [HL.out]
        go_wp2_with fail
        refine (isDigit_any _ _).mono ?_
        rintro e w' ⟨rfl, rfl⟩
        rw [HC.out]
        go_wp2_with fail
        refine (rHas_row Lx.two (by decide) _ _ rfl _ _ (by exact heap_new2 _ _ _)).mono ?_
        rintro e w' ⟨rfl, rfl⟩
        rw [H2.out]
        go_wp2_with fail
        go_returns
        refine ⟨?_, by go_grown⟩
        rw [HE.out]
        simp only [tokVal, bs_of]
        rfl
  · cases h3 : Lx.sing.contains (s.extract 0 1).data.toList
    all_goals
        rw [h3] at heq
        simp only [h1, Bool.false_eq_true, false_and, if_false, if_true] at heq
        have h1' : ¬ (1 : Int) < s.size := by omega
        have H3 := Lib.hid h3
        have HE := Lib.hid heq
        clear heq h3 h1
        go_enter Tryd.func81, Tryd.ntmps81
        go_wp2_with fail
        refine (isLow_any _ _).mono ?_
        rintro e w' ⟨rfl, rfl⟩
        rw [HL.out]
        go_wp2_with fail
        refine (isDigit_any _ _).mono ?_
        rintro e w' ⟨rfl, rfl⟩
        rw [HC.out]
        go_wp2_with fail
        refine (rHas_row Lx.sing (by decide) _ _ rfl _ _ (by exact heap_new3 _ _ _ _)).mono ?_
        rintro e w' ⟨rfl, rfl⟩
        rw [H3.out]
        go_wp2_with fail
        go_returns
        refine ⟨?_, by go_grown⟩
        rw [HE.out]
        simp only [tokVal, bs_of]
        rfl

theorem tok_any (s : ByteArray) (h0 : 0 < s.size) (hs : s.size ≤ maxLen) (w : World) :
    Calls Tryd.prog 81 #[.string s] w fun e w' => e = .returned (tokVal (Lx.refTok s.data.toList)) ∧ Below w.heap.size w w' := by
  cases hl : Lx.isLow s[0]
  · cases hd : Lx.isDig s[0]
    · exact tok_op s h0 hs w hl hd
    · exact tok_dig s h0 hs w hd
  · exact tok_low s h0 hs w hl
end Go.Proofs.YtminjdmgfiellaaDoor
