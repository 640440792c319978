/- Walks of the document's lexer: tokenOf. -/
import Derived.Test.YtminjdmgfiellaaDoorRLexA
import Derived.Deep.RegionWith
import Derived.Handy
namespace Go.Proofs.YtminjdmgfiellaaDoor
open Go.RowKit

def tokVal (t : Lx.Tk) : Value := .agg #[.string (bs t.kind), .string (bs t.text), .int .i64 t.pos]

theorem ref_low_eq (s : ByteArray) (h0 : 0 < s.size) (hc : Lx.isLow s[0] = true) {k : Nat} (hk : Lx.span Lx.isWd s.data.toList = k) :
    Lx.refTok s.data.toList = if Lx.words.contains (s.extract 0 k).data.toList then ⟨Lx.kWord, (s.extract 0 k).data.toList, 0⟩ else if k ≤ 12 then ⟨Lx.kName, (s.extract 0 k).data.toList, 0⟩ else ⟨[], [], 0⟩ := by
  have e : (s.extract 0 k).data.toList = s.data.toList.take k := by rw [Lib.extract_data]; simp
  rw [e]
  have h := head_cons s h0
  generalize hl : s.data.toList = l at *
  rw [h] at hk ⊢
  simp only [Lx.refTok, hc, if_true, hk]
theorem rwords_any (l : List (List UInt8)) (t : ByteArray) : ((l.map bs).any fun x => x.toList == t.toList) = l.contains t.data.toList := by
  induction l with
  | nil => rfl
  | cons a l ih =>
    rw [List.map_cons, List.any_cons, ih, List.contains_cons, bs_toList, Lib.toList_data]
    congr 1
    exact Bool.beq_comm

theorem strs_at {W : World} {b : Nat} (l : List (List UInt8)) (t : TypeId) (hl : l.length ≤ 1000) (h : W.heap[b]? = some (.cells ((l.map fun x => Value.string (bs x)).toArray) t (0, 0))) :
    StrsAt (allKn W) (.slice (some ⟨b, 0, none⟩) l.length l.length) (l.map bs) := by
  refine .inr ⟨b, 0, l.length, by simp, by simp, by unfold maxLen; omega, fun i hi => ?_⟩
  have hi' : i < l.length := by simpa using hi
  show (allKn _).cell b (0 + i * 1 + 0) = _
  rw [allKn_cell, cell_of_row W b _ _ t (0, 0) h]
  simp [List.getElem?_eq_getElem hi']
theorem rHas_words (b : Nat) (s : ByteArray) (W : World) (h : W.heap[b]? = some (.cells ((Lx.words.map fun l => Value.string (bs l)).toArray) 9 (0, 0))) :
    Calls Tryd.prog 46 #[.slice (some ⟨b, 0, none⟩) 21 21, .string s] W fun e w' => e = .returned (.bool ((Lx.words.map bs).any fun x => x.toList == s.toList)) ∧ W = w' :=
  rHas_any (allKn W) _ (Lx.words.map bs) s W (strs_at Lx.words 9 (by decide) h) (allKn_in W)
theorem heap_new2 (w : World) (a b : Obj) : ((w.alloc a).alloc b).heap[w.heap.size + 1]? = some b := by
  have := heap_alloc_new (w.alloc a) b
  rwa [World.size_alloc] at this
set_option maxHeartbeats 1000000 in
set_option maxRecDepth 100000 in
theorem tok_low (s : ByteArray) (h0 : 0 < s.size) (hs : s.size ≤ maxLen) (w : World) (hc : Lx.isLow s[0] = true) :
    Calls Tryd.prog 81 #[.string s] w fun e w' => e = .returned (tokVal (Lx.refTok s.data.toList)) ∧ Below w.heap.size w w' := by
  unfold maxLen at hs
  have h0' : (0 : Int) < s.size := by omega
  have HC := Lib.hid hc
  have hk := Lx.span_le Lx.isWd s.data.toList
  rw [← Lib.size_eq] at hk
  have hk1 : 1 ≤ Lx.span Lx.isWd s.data.toList := by rw [head_cons s h0, Lx.span_cons, Lx.isWd, hc]; simp
  have hin : ∀ i (h : i < s.size), i < Lx.span Lx.isWd s.data.toList → Lx.isWd s[i] = true := fun i h hi => Lx.span_in Lx.isWd s.data.toList i hi (by simpa using h)
  have hout : ∀ (h : Lx.span Lx.isWd s.data.toList < s.size), Lx.isWd (s[Lx.span Lx.isWd s.data.toList]) = false := fun h => Lx.span_out Lx.isWd s.data.toList (by simpa using h)
  generalize hkk : Lx.span Lx.isWd s.data.toList = k at *
  have HEQ := Lib.hid (ref_low_eq s h0 hc hkk)
  have HIN := Lib.hid hin
  have HOUT := Lib.hid hout
  clear hkk hin hout hc
  go_enter Tryd.func81, Tryd.ntmps81
  go_wp2_with fail
  refine (isLow_any _ _).mono ?_
  rintro e w' ⟨rfl, rfl⟩
  rw [HC.out]
  go_wp2_with fail
  go_loop [3] (fun n => ∃ j : Nat, 1 ≤ j ∧ j ≤ k ∧ n = .int .i64 j) (fun n => k - (intOf n).toNat)
  case atStart => exact ⟨1, by omega, hk1, rfl⟩
  case round =>
    obtain ⟨j, hj1, hj, rfl⟩ := hrel
    by_cases hjk : j < k
    · have hlt : j < s.size := by omega
      have hq : Lx.isWd s[j] = (Lx.isLow s[j] || Lx.isDig s[j] || ((s[j].toNat : Int) == 95)) := by
        rw [show (95 : Int) = ((95 : Nat) : Int) from rfl, toNat_eq_iff s[j] 95 (by decide)]; rfl
      have HQ := Lib.hid hq
      clear hq
      have HJ := Lib.hid (HIN.out j hlt hjk)
      cases h1 : Lx.isLow s[j]
      · cases h2 : Lx.isDig s[j]
        · have h3 : ((s[j].toNat : Int) == 95) = true := by have := HQ.out; rw [HJ.out, h1, h2] at this; simpa using this.symm
          have H1 := Lib.hid h1
          have H2 := Lib.hid h2
          clear h1 h2
          go_wp2_with (first | (go_at_call 104; refine (isLow_any _ _).mono ?_; rintro e w' ⟨rfl, rfl⟩; rw [H1.out]) | (go_at_call 105; refine (isDigit_any _ _).mono ?_; rintro e w' ⟨rfl, rfl⟩; rw [H2.out]))
          go_round
          case rel => exact ⟨j + 1, by omega, by omega, by go_num⟩
          case measure => simp [intOf]; omega
        · have H1 := Lib.hid h1
          have H2 := Lib.hid h2
          clear h1 h2
          go_wp2_with (first | (go_at_call 104; refine (isLow_any _ _).mono ?_; rintro e w' ⟨rfl, rfl⟩; rw [H1.out]) | (go_at_call 105; refine (isDigit_any _ _).mono ?_; rintro e w' ⟨rfl, rfl⟩; rw [H2.out]))
          go_round
          case rel => exact ⟨j + 1, by omega, by omega, by go_num⟩
          case measure => simp [intOf]; omega
      · have H1 := Lib.hid h1
        clear h1
        go_wp2_with (go_at_call 104; refine (isLow_any _ _).mono ?_; rintro e w' ⟨rfl, rfl⟩; rw [H1.out])
        go_round
        case rel => exact ⟨j + 1, by omega, by omega, by go_num⟩
        case measure => simp [intOf]; omega
    · obtain rfl : k = j := by omega
      have hw := rwords_any Lx.words (s.extract 0 k)
      have hend : ∀ h : k < s.size, Lx.isLow s[k] = false ∧ Lx.isDig s[k] = false ∧ ((s[k].toNat : Int) == 95) = false := fun hlt => by
        have hq : Lx.isWd s[k] = (Lx.isLow s[k] || Lx.isDig s[k] || ((s[k].toNat : Int) == 95)) := by
          rw [show (95 : Int) = ((95 : Nat) : Int) from rfl, toNat_eq_iff s[k] 95 (by decide)]; rfl
        rw [HOUT.out hlt] at hq
        have := hq.symm
        simp only [Bool.or_eq_false_iff] at this
        exact ⟨this.1.1, this.1.2, this.2⟩
      have HEND := Lib.hid hend
      clear hend
      have heq := HEQ.out
      have key : ∀ b12 : Bool, decide ((k : Int) ≤ 12) = b12 → Lx.refTok s.data.toList = if Lx.words.contains (s.extract 0 k).data.toList then ⟨Lx.kWord, (s.extract 0 k).data.toList, 0⟩ else if b12 then ⟨Lx.kName, (s.extract 0 k).data.toList, 0⟩ else ⟨[], [], 0⟩ := by
        rintro b12 rfl
        rw [heq]
        congr 2
        simp only [decide_eq_true_eq, eq_iff_iff]
        omega
      have KEY := Lib.hid key
      clear heq key
      cases hcw : Lx.words.contains (s.extract 0 k).data.toList
      · rw [hcw] at hw
        have HW := Lib.hid hw
        have HCW := Lib.hid hcw
        clear hw hcw
        by_cases h12 : (k : Int) ≤ 12
        · have heq := KEY.out true (by simpa using h12)
          rw [HCW.out] at heq
          have HE := Lib.hid heq
          clear heq
          by_cases hlt : k < s.size
          · have h3 := (HEND.out hlt).2.2
            go_wp2_with (first | (go_at_call 104; refine (isLow_any _ _).mono ?_; rintro e w' ⟨rfl, rfl⟩; rw [(HEND.out hlt).1]) | (go_at_call 105; refine (isDigit_any _ _).mono ?_; rintro e w' ⟨rfl, rfl⟩; rw [(HEND.out hlt).2.1]))
            go_region_with (first | (go_at_call 106; refine (rWords_any _).mono ?_; rintro e w' ⟨rfl, rfl⟩) | (go_at_call 46; refine (rHas_words _ _ _ (by exact heap_new2 _ _ _)).mono ?_; rintro e w' ⟨rfl, rfl⟩; rw [HW.out]))
            all_goals go_wp2_with fail
            all_goals go_returns
            all_goals (refine ⟨?_, by go_grown⟩; rw [HE.out]; simp only [tokVal, bs_of]; rfl)
          · go_wp2_with fail
            go_region_with (first | (go_at_call 106; refine (rWords_any _).mono ?_; rintro e w' ⟨rfl, rfl⟩) | (go_at_call 46; refine (rHas_words _ _ _ (by exact heap_new2 _ _ _)).mono ?_; rintro e w' ⟨rfl, rfl⟩; rw [HW.out]))
            all_goals go_wp2_with fail
            all_goals go_returns
            all_goals (refine ⟨?_, by go_grown⟩; rw [HE.out]; simp only [tokVal, bs_of]; rfl)
        · have heq := KEY.out false (by simpa using h12)
          rw [HCW.out] at heq
          have HE := Lib.hid heq
          clear heq
          by_cases hlt : k < s.size
          · have h3 := (HEND.out hlt).2.2
            go_wp2_with (first | (go_at_call 104; refine (isLow_any _ _).mono ?_; rintro e w' ⟨rfl, rfl⟩; rw [(HEND.out hlt).1]) | (go_at_call 105; refine (isDigit_any _ _).mono ?_; rintro e w' ⟨rfl, rfl⟩; rw [(HEND.out hlt).2.1]))
            go_region_with (first | (go_at_call 106; refine (rWords_any _).mono ?_; rintro e w' ⟨rfl, rfl⟩) | (go_at_call 46; refine (rHas_words _ _ _ (by exact heap_new2 _ _ _)).mono ?_; rintro e w' ⟨rfl, rfl⟩; rw [HW.out]))
            all_goals go_wp2_with fail
            all_goals go_returns
            all_goals (refine ⟨?_, by go_grown⟩; rw [HE.out]; simp only [tokVal, bs_of]; rfl)
          · go_wp2_with fail
            go_region_with (first | (go_at_call 106; refine (rWords_any _).mono ?_; rintro e w' ⟨rfl, rfl⟩) | (go_at_call 46; refine (rHas_words _ _ _ (by exact heap_new2 _ _ _)).mono ?_; rintro e w' ⟨rfl, rfl⟩; rw [HW.out]))
            all_goals go_wp2_with fail
            all_goals go_returns
            all_goals (refine ⟨?_, by go_grown⟩; rw [HE.out]; simp only [tokVal, bs_of]; rfl)
      · rw [hcw] at hw
        have HW := Lib.hid hw
        have HCW := Lib.hid hcw
        clear hw hcw
        have heq := KEY.out _ rfl
        rw [HCW.out, if_pos rfl] at heq
        have HE := Lib.hid heq
        clear heq
        by_cases hlt : k < s.size
        · have h3 := (HEND.out hlt).2.2
          go_wp2_with (first | (go_at_call 104; refine (isLow_any _ _).mono ?_; rintro e w' ⟨rfl, rfl⟩; rw [(HEND.out hlt).1]) | (go_at_call 105; refine (isDigit_any _ _).mono ?_; rintro e w' ⟨rfl, rfl⟩; rw [(HEND.out hlt).2.1]))
          go_region_with (first | (go_at_call 106; refine (rWords_any _).mono ?_; rintro e w' ⟨rfl, rfl⟩) | (go_at_call 46; refine (rHas_words _ _ _ (by exact heap_new2 _ _ _)).mono ?_; rintro e w' ⟨rfl, rfl⟩; rw [HW.out]))
          all_goals go_wp2_with fail
          all_goals go_returns
          all_goals (refine ⟨?_, by go_grown⟩; rw [HE.out]; simp only [tokVal, bs_of]; rfl)
        · go_wp2_with fail
          go_region_with (first | (go_at_call 106; refine (rWords_any _).mono ?_; rintro e w' ⟨rfl, rfl⟩) | (go_at_call 46; refine (rHas_words _ _ _ (by exact heap_new2 _ _ _)).mono ?_; rintro e w' ⟨rfl, rfl⟩; rw [HW.out]))
          all_goals go_wp2_with fail
          all_goals go_returns
          all_goals (refine ⟨?_, by go_grown⟩; rw [HE.out]; simp only [tokVal, bs_of]; rfl)

end Go.Proofs.YtminjdmgfiellaaDoor
