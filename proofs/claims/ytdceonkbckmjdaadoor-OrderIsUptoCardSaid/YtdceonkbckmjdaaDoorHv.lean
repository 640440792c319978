/- Walks: lustrumlaw1.Heavy. -/
import Derived.Test.YtdceonkbckmjdaaDoorEof
namespace Go.Proofs.YtdceonkbckmjdaaDoor
open Go.RowKit Mx

/-- Too large for a statement. -/
def heavy (p : Pr) : Bool := decide (1500 < Ex.weightL p.terms) || decide (100 < p.fl.length) || decide (40 < p.ins.length)
def heavyI (p : Pr) : Int := if heavy p then 1 else 0
set_option maxHeartbeats 4000000 in
set_option maxRecDepth 100000 in
theorem heavy_any (H : Kn) (p : Pr) (vi vo vl va vc : Value) (hp : PrP H p vi vo vl va vc) (hsz : Ex.weightL p.terms ≤ 1000000000 ∧ p.fl.length ≤ 1000000000 ∧ p.ins.length ≤ 1000000000) (w : World) (hH : H.In w) :
    Calls Tryd.prog 8 #[.agg #[vi, vo, vl, va, vc]] w fun r w' => r = .returned (.int .i64 (heavyI p)) ∧ Below w.heap.size w w' := by
  have HP := Lib.hid hp
  obtain ⟨h1, h2, h3, h4, h5⟩ := hp
  obtain ⟨ai, ci, rfl⟩ := h1.len
  obtain ⟨ao, co, rfl⟩ := h2.len
  obtain ⟨al, cl, rfl⟩ := h3.len
  obtain ⟨aa, ca, rfl⟩ := h4.len
  obtain ⟨ac, cc, rfl⟩ := h5.len
  clear h1 h2 h3 h4 h5
  obtain ⟨s1, s2, s3⟩ := hsz
  have hll := len_weightL p.terms
  go_enter Tryd.func8, Tryd.ntmps8
  have hq : ∀ i, (w.alloc (.cells #[.slice ai p.ins.length ci, .slice ao p.outs.length co, .slice al p.fl.length cl, .slice aa p.as.length ca, .slice ac p.cs.length cc] 27)).cell? ⟨w.heap.size, i, none⟩ = (#[.slice ai p.ins.length ci, .slice ao p.outs.length co, .slice al p.fl.length cl, .slice aa p.as.length ca, .slice ac p.cs.length cc] : Array Value)[i]? := fun i => World.cell?_alloc_new _ _ _ _
  have hb0 : Below w.heap.size w (w.alloc (.cells #[.slice ai p.ins.length ci, .slice ao p.outs.length co, .slice al p.fl.length cl, .slice aa p.as.length ca, .slice ac p.cs.length cc] 27)) := (Below.refl _ _).alloc (Nat.le_refl _) _
  have hlt1 : w.heap.size < (w.alloc (.cells #[.slice ai p.ins.length ci, .slice ao p.outs.length co, .slice al p.fl.length cl, .slice aa p.as.length ca, .slice ac p.cs.length cc] 27)).heap.size := by simp
  go_wp2_with fail
  generalize w.alloc (.cells #[.slice ai p.ins.length ci, .slice ao p.outs.length co, .slice al p.fl.length cl, .slice aa p.as.length ca, .slice ac p.cs.length cc] 27) = W1 at *
  have HQ := Lib.hid hq
  have HB0 := Lib.hid hb0
  clear hq hb0
  refine (rterms_any H p _ _ _ _ _ HP.out (by omega) W1 (hH.below HB0.out)).mono ?_
  rintro r w2 ⟨v, K, rfl, hv, hst⟩
  obtain ⟨a, c, rfl⟩ := hv.len
  have HV := Lib.hid hv
  have HST := Lib.hid hst
  have HB2 := Lib.hid (HB0.out.trans (hst.below.mono HB0.out.size))
  have q0 := Lib.hid (show w2.cell? ⟨w.heap.size, 0, none⟩ = some (.slice ai p.ins.length ci) by rw [hst.below.cell (p := ⟨w.heap.size, 0, none⟩) hlt1]; exact HQ.out 0)
  have q2 := Lib.hid (show w2.cell? ⟨w.heap.size, 2, none⟩ = some (.slice al p.fl.length cl) by rw [hst.below.cell (p := ⟨w.heap.size, 2, none⟩) hlt1]; exact HQ.out 2)
  have hlt2 : w.heap.size < w2.heap.size := Nat.lt_of_lt_of_le hlt1 hst.below.size
  clear hv hst
  go_wp2_with fail
  go_loopw [4, 5] (fun n i wr => ∃ k : Nat, i = .int .i64 k ∧ k ≤ p.terms.length ∧ n = .int .i64 (Ex.weightL (p.terms.take k) : Nat) ∧ Below w2.heap.size w2 wr) (fun _ i _ => p.terms.length - (intOf i).toNat)
  case atStart => exact ⟨0, rfl, Nat.zero_le _, rfl, Below.refl _ _⟩
  case round =>
    obtain ⟨k, rfl, hk, rfl, hb⟩ := hrel
    have HB := Lib.hid hb
    have e0 : wr.cell? ⟨w.heap.size, 0, none⟩ = some (.slice ai p.ins.length ci) := by rw [hb.cell (p := ⟨w.heap.size, 0, none⟩) hlt2]; exact q0.out
    have e2 : wr.cell? ⟨w.heap.size, 2, none⟩ = some (.slice al p.fl.length cl) := by rw [hb.cell (p := ⟨w.heap.size, 2, none⟩) hlt2]; exact q2.out
    clear hb
    have hpl := weightL_le p.terms k
    by_cases hkl : k < p.terms.length
    · obtain ⟨b, off, ax, cx, rfl, c0, c1, c2, c3, hx⟩ := HV.out.at hkl
      have hHr := HST.out.isin.below HB.out
      have c0 := hHr.cell c0
      have c1 := hHr.cell c1
      have c2 := hHr.cell c2
      have c3 := hHr.cell c3
      have hps := weightL_take p.terms k hkl
      have hpl2 := weightL_le p.terms (k + 1)
      have PS := Lib.hid hps
      have hpx : p.terms[k].weight ≤ 1000000000000000000 := by omega
      have hw1 : Ex.weightL (p.terms.take k) + p.terms[k].weight ≤ 1000000000 := by omega
      clear hps
      generalize p.terms[k] = x at *
      go_wp2_with fail
      refine (weight_any K x _ hx hpx _ hHr).mono ?_
      rintro r w3 ⟨rfl, hb3⟩
      have hW3 := HB.out.trans (hb3.mono HB.out.size)
      go_wp2_with fail
      go_roundw
      case rel => exact ⟨k + 1, by go_num, by omega, by rw [PS.out]; go_num, hW3⟩
      case measure => simp [intOf]; omega
    · obtain rfl : k = p.terms.length := by omega
      have HF := Lib.hid (HB2.out.trans (HB.out.mono HB2.out.size))
      rw [List.take_of_length_le (Nat.le_refl _)]
      have hd : heavy p = (decide (1500 < Ex.weightL p.terms) || decide (100 < p.fl.length) || decide (40 < p.ins.length)) := rfl
      have HD := Lib.hid hd
      clear hd
      by_cases d1 : 1500 < Ex.weightL p.terms
      · go_wp2_with fail
        go_ret
        exact ⟨ret_int (by unfold heavyI; rw [HD.out]; simp [d1]), HF.out⟩
      · by_cases d2 : 100 < p.fl.length
        · go_wp2_with fail
          go_ret
          exact ⟨ret_int (by unfold heavyI; rw [HD.out]; simp [d2]), HF.out⟩
        · by_cases d3 : 40 < p.ins.length
          · go_wp2_with fail
            go_ret
            exact ⟨ret_int (by unfold heavyI; rw [HD.out]; simp [d3]), HF.out⟩
          · go_wp2_with fail
            go_ret
            exact ⟨ret_int (by unfold heavyI; rw [HD.out]; simp [d1, d2, d3]), HF.out⟩
end Go.Proofs.YtdceonkbckmjdaaDoor
