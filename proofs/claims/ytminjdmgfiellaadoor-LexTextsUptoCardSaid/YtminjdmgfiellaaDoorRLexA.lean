/- Walks of the document's lexer: isLow, isDigit, Index, Has, Words, IntOf. -/
import Derived.Test.YtminjdmgfiellaaDoorLexB
import Derived.Test.YtminjdmgfiellaaDoorStr
import Derived.Test.YtminjdmgfiellaaDoorRefMath
import Derived.Test.YtminjdmgfiellaaDoorLaid
import Derived.Test.YtminjdmgfiellaaDoorLexC
import Derived.IntWalk
import Derived.Deep.Light
namespace Go.Proofs.YtminjdmgfiellaaDoor
open Go.RowKit

theorem isLow_any (c : UInt8) (w : World) :
    Calls Tryd.prog 104 #[.int .u8 c.toNat] w fun e w' => e = .returned (.bool (Lx.isLow c)) ∧ w = w' := by
  have hc : (c.toNat : Int) ≤ 255 := by have := c.toNat_lt; omega
  by_cases h1 : (97 : Int) ≤ c.toNat
  · by_cases h2 : (c.toNat : Int) ≤ 122
    · go_enter Tryd.func104, Tryd.ntmps104
      go_wp2
      go_ret
      exact ⟨ret_bool (by unfold Lx.isLow; simp; omega), rfl⟩
    · go_enter Tryd.func104, Tryd.ntmps104
      go_wp2
      go_ret
      exact ⟨ret_bool (by unfold Lx.isLow; simp; omega), rfl⟩
  · go_enter Tryd.func104, Tryd.ntmps104
    go_wp2
    go_ret
    exact ⟨ret_bool (by unfold Lx.isLow; simp; omega), rfl⟩
theorem isDigit_any (c : UInt8) (w : World) :
    Calls Tryd.prog 105 #[.int .u8 c.toNat] w fun e w' => e = .returned (.bool (Lx.isDig c)) ∧ w = w' := by
  have hc : (c.toNat : Int) ≤ 255 := by have := c.toNat_lt; omega
  by_cases h1 : (48 : Int) ≤ c.toNat
  · by_cases h2 : (c.toNat : Int) ≤ 57
    · go_enter Tryd.func105, Tryd.ntmps105
      go_wp2
      go_ret
      exact ⟨ret_bool (by unfold Lx.isDig; simp; omega), rfl⟩
    · go_enter Tryd.func105, Tryd.ntmps105
      go_wp2
      go_ret
      exact ⟨ret_bool (by unfold Lx.isDig; simp; omega), rfl⟩
  · go_enter Tryd.func105, Tryd.ntmps105
    go_wp2
    go_ret
    exact ⟨ret_bool (by unfold Lx.isDig; simp; omega), rfl⟩

theorem rIdx_any (H : Kn) (v : Value) (l : List ByteArray) (s : ByteArray) (w : World) (hv : StrsAt H v l) (hH : H.In w) :
    Calls Tryd.prog 77 #[v, .string s] w fun e w' => e = .returned (.int .i64 (idxBy (fun x => x.toList == s.toList) l)) ∧ w = w' := by
  rcases hv.cases with ⟨rfl, rfl⟩ | ⟨b, off, cap, rfl, h1, h2, h3⟩
  · go_enter Tryd.func77, Tryd.ntmps77
    go_wp2
    go_rounds 1
    all_goals go_ret
    exact ⟨rfl, rfl⟩
  · have hc : ∀ i (hi : i < l.length), w.cell? ⟨b, off + i, none⟩ = some (.string l[i]) := fun i hi => hH.cell (h3 i hi)
    have HC := Lib.hid hc
    clear hc h3 hH hv
    unfold maxLen at h2
    go_enter Tryd.func77, Tryd.ntmps77
    go_wp2
    go_loop [5] (fun i => ∃ k : Nat, k ≤ l.length ∧ i = .int .i64 k ∧ (∀ i (hi : i < l.length), i < k → (l[i].toList == s.toList) = false)) (fun i => l.length - (intOf i).toNat)
    case atStart => exact ⟨0, Nat.zero_le _, rfl, by intro i _ h; omega⟩
    case round =>
      obtain ⟨k, hk, rfl, hn⟩ := hrel
      have HN := Lib.hid hn
      clear hn
      by_cases hlt : k < l.length
      · have hc := HC.out k hlt
        cases he : (l[k].toList == s.toList)
        · go_wp2
          go_round
          case rel => exact ⟨k + 1, by omega, by go_num, fun i hi hik => by
            by_cases hik' : i < k
            · exact HN.out i hi hik'
            · obtain rfl : i = k := by omega
              exact he⟩
          case measure => simp [intOf]; omega
        · go_wp2
          go_ret
          exact ⟨ret_int (idxBy_found _ _ k hlt he fun i hi hik => HN.out i hi hik).symm, rfl⟩
      · go_wp2
        go_ret
        exact ⟨ret_int (idxBy_none _ _ fun i hi => HN.out i hi (by omega)).symm, rfl⟩
theorem rHas_any (H : Kn) (v : Value) (l : List ByteArray) (s : ByteArray) (w : World) (hv : StrsAt H v l) (hH : H.In w) :
    Calls Tryd.prog 46 #[v, .string s] w fun e w' => e = .returned (.bool (l.any fun x => x.toList == s.toList)) ∧ w = w' := by
  have hb := idxBy_lt (fun x => x.toList == s.toList) l
  have hd := idxBy_ge (fun x => x.toList == s.toList) l
  have HD := Lib.hid hd
  clear hd
  go_enter Tryd.func46, Tryd.ntmps46
  go_wp2_with (go_at_call 77; refine (rIdx_any H _ l _ _ hv hH).mono ?_; rintro e w' ⟨rfl, rfl⟩)
  go_ret
  exact ⟨ret_bool HD.out, rfl⟩


theorem rWords_any (w : World) :
    Calls Tryd.prog 106 #[] w fun e w' => e = .returned (.slice (some ⟨w.heap.size, 0, none⟩) 21 21) ∧ w.alloc (.cells ((Lx.words.map fun l => Value.string (bs l)).toArray) 9) = w' := by
  go_enter Tryd.func106, Tryd.ntmps106
  go_wp2
  go_ret
  exact ⟨rfl, rfl⟩
/-- A row of strings that has just been laid. -/
theorem strs_new (w : World) (l : List (List UInt8)) (t : TypeId) (h : l.length ≤ 1000) :
    StrsAt (allKn (w.alloc (.cells ((l.map fun x => Value.string (bs x)).toArray) t))) (.slice (some ⟨w.heap.size, 0, none⟩) l.length l.length) (l.map bs) := by
  refine .inr ⟨w.heap.size, 0, l.length, by simp, by simp, by unfold maxLen; omega, fun i hi => ?_⟩
  have hi' : i < l.length := by simpa using hi
  show (allKn _).cell w.heap.size (0 + i * 1 + 0) = _
  rw [allKn_cell, World.cell?_alloc_new]
  simp [List.getElem?_eq_getElem hi']

/-- Digits' number grows by one digit. -/
theorem dvalA_snoc (l : List UInt8) (c : UInt8) (a : Nat) : Lx.dvalA a (l ++ [c]) = 10 * Lx.dvalA a l + (c.toNat - 48) := by
  rw [Lx.dvalA_fold, Lx.dvalA_fold, List.foldl_append]
  rw [List.foldl_cons, List.foldl_nil]
theorem dvalA_lt (l : List UInt8) (h : ∀ c ∈ l, Lx.isDig c = true) : ∀ a, Lx.dvalA a l + 1 ≤ (a + 1) * 10 ^ l.length := by
  induction l with
  | nil => intro a; rw [Lx.dvalA_fold]; simp
  | cons c l ih =>
    intro a
    have hc := h c (List.mem_cons_self ..)
    simp only [Lx.isDig, Bool.and_eq_true, decide_eq_true_eq] at hc
    have := ih (fun x hx => h x (List.mem_cons_of_mem _ hx)) (10 * a + (c.toNat - 48))
    rw [Lx.dvalA_fold] at this ⊢
    rw [List.foldl_cons, List.length_cons]
    refine Nat.le_trans this ?_
    rw [Nat.pow_succ, Nat.mul_comm (10 ^ l.length) 10, ← Nat.mul_assoc]
    exact Nat.mul_le_mul_right _ (by omega)

theorem intOf_eq (t : ByteArray) (h0 : 0 < t.size) : Lx.intOf t.data.toList = if (3 : Int) < t.size ∨ (127 : Int) < Lx.dvalA 0 (t.data.toList.take 4) ∨ ((1 : Int) < t.size ∧ ((t[0].toNat : Int) == 48) = true) then -1 else (Lx.dvalA 0 (t.data.toList.take 4) : Int) := by
  have hh : t.data.toList.headD 0 = t[0] := by rw [head_cons t h0]; rfl
  unfold Lx.intOf
  rw [hh, ← Lib.size_eq, show (48 : Int) = ((48 : Nat) : Int) from rfl, toNat_eq_iff t[0] 48 (by decide)]
  simp only [beq_iff_eq]
  rw [show UInt8.ofNat 48 = (48 : UInt8) from rfl]
  by_cases h : 3 < t.size ∨ 127 < Lx.dvalA 0 (t.data.toList.take 4) ∨ (1 < t.size ∧ t[0] = 48)
  · rw [if_pos h, if_pos (by rcases h with h | h | ⟨h, h2⟩; exact .inl (by omega); exact .inr (.inl (by omega)); exact .inr (.inr ⟨by omega, h2⟩))]
  · rw [if_neg h, if_neg (by rintro (h' | h' | ⟨h', h2⟩); exact h (.inl (by omega)); exact h (.inr (.inl (by omega))); exact h (.inr (.inr ⟨by omega, h2⟩)))]
set_option maxRecDepth 100000 in
theorem rIntOf_any (t : ByteArray) (w : World) (ht : t.size ≤ maxLen) (h0 : 0 < t.size) (hd : ∀ c ∈ t.data.toList, Lx.isDig c = true) :
    Calls Tryd.prog 107 #[.string t] w fun e w' => e = .returned (.int .i64 (Lx.intOf t.data.toList)) ∧ w = w' := by
  unfold maxLen at ht
  have hlen : t.data.toList.length = t.size := (Lib.size_eq t).symm
  have HLEN := Lib.hid hlen
  have HD := Lib.hid hd
  clear hd hlen
  go_enter Tryd.func107, Tryd.ntmps107
  go_wp2_with fail
  go_loop [3, 4] (fun n i => ∃ k : Nat, k ≤ t.size ∧ k ≤ 4 ∧ i = .int .i64 k ∧ n = .int .i64 (Lx.dvalA 0 (t.data.toList.take k))) (fun _ i => t.size - (intOf i).toNat)
  case atStart => exact ⟨0, Nat.zero_le _, by omega, rfl, rfl⟩
  case round =>
    obtain ⟨k, hk, hk4, rfl, rfl⟩ := hrel
    have hb := dvalA_lt (t.data.toList.take k) (fun c hc => HD.out c (List.mem_of_mem_take hc)) 0
    have hp : 10 ^ (t.data.toList.take k).length ≤ 10 ^ 4 := Nat.pow_le_pow_right (by omega) (by rw [List.length_take]; omega)
    have hn4 : Lx.dvalA 0 (t.data.toList.take k) ≤ 9999 := by omega
    clear hb hp
    by_cases hlt : k < t.size ∧ k < 4
    · obtain ⟨h1, h2⟩ := hlt
      have hc := HD.out t[k] (by rw [List.mem_iff_getElem]; exact ⟨k, by rw [HLEN.out]; exact h1, rfl⟩)
      simp only [Lx.isDig, Bool.and_eq_true, decide_eq_true_eq] at hc
      have hc1 : (48 : Int) ≤ t[k].toNat := by omega
      have hc2 : (t[k].toNat : Int) ≤ 57 := by omega
      have hs : Lx.dvalA 0 (t.data.toList.take (k + 1)) = 10 * Lx.dvalA 0 (t.data.toList.take k) + (t[k].toNat - 48) := by
        rw [List.take_succ_eq_append_getElem (by rw [HLEN.out]; exact h1), dvalA_snoc]; rfl
      have HS := Lib.hid hs
      clear hs hc
      go_wp2_with fail
      go_round
      case rel => exact ⟨k + 1, by omega, by omega, by go_num, by rw [HS.out]; go_num⟩
      case measure => simp [intOf]; omega
    · have e4 : t.data.toList.take k = t.data.toList.take 4 := by
        by_cases h4 : k = 4
        · rw [h4]
        · rw [List.take_of_length_le (by rw [HLEN.out]; omega), List.take_of_length_le (by rw [HLEN.out]; omega)]
      have hi := intOf_eq t h0
      rw [← e4] at hi
      have HI := Lib.hid hi
      clear hi e4
      go_wp2_with fail
      all_goals go_ret
      all_goals (refine ⟨ret_int ?_, rfl⟩; rw [HI.out]; go_light)
      all_goals (simp only [beq_iff_eq, beq_eq_false_iff_ne, ne_eq] at *; split <;> omega)
end Go.Proofs.YtminjdmgfiellaaDoor
