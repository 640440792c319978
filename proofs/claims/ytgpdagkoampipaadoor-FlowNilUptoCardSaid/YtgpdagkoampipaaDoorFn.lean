/- Walks: lustrumlaw2.FlowNil. -/
import Derived.Test.YtgpdagkoampipaaDoorBare
import Derived.Test.YtgpdagkoampipaaDoorNt
import Derived.Test.YtgpdagkoampipaaDoorEof
import Derived.Test.YtgpdagkoampipaaDoorRg
namespace Go.Proofs.YtgpdagkoampipaaDoor
open Go.RowKit Mx

theorem TksV.le {H H' : Kn} (hle : H.le H') {l : List Tk} {v : Value} (h : TksV H l v) : TksV H' l v := SlV.le h hle (TkC.mono hle)
theorem SlV.capOf {α : Type} {H : Kn} {k n c : Nat} {R : α → (Nat → Option Value) → Prop} {l : List α} {a : Option Addr} (h : SlV H k R l (.slice a n c)) : l.length ≤ c := by
  rcases h with ⟨rfl, _⟩ | ⟨b, off, cap, h1, h2, _⟩
  · simp
  · cases h1; exact h2
theorem SlV.takeOf {α : Type} {H : Kn} {k n c m : Nat} {R : α → (Nat → Option Value) → Prop} {l : List α} {a : Option Addr} (h : SlV H k R l (.slice a n c)) (hm : m ≤ l.length) : SlV H k R (l.take m) (.slice a (l.take m).length c) := by
  rcases h with ⟨rfl, _⟩ | ⟨b, off, cap, h1, h2, h3, h4⟩
  · exact .inl ⟨by simp, a, c, by simp⟩
  · cases h1
    exact .inr ⟨b, off, c, rfl, by simp; omega, h3, fun i hi => by
      rw [List.getElem_take]
      exact h4 i (by simp at hi; omega)⟩
set_option maxHeartbeats 16000000 in
set_option maxRecDepth 100000 in
theorem flowNil_any (H : Kn) (T : LevelsAt H) (sp : Nat → Addr) (p : Pr) (vi vo vl va vc : Value) (hp : PrP H p vi vo vl va vc) (ins : List (List Vl)) (vin : Value) (hi : InsV H ins vin) (hsz : p.ins.length ≤ 1048576 ∧ p.outs.length ≤ 1048576 ∧ Ex.weightL p.terms ≤ 1048576 ∧ ins.length ≤ 1048576) (ni less : Int) (w : World) (hH : H.In w) (S : Sen5 w sp) :
    Calls Tryd.prog 3 #[.agg #[vi, vo, vl, va, vc], vin, .int .i64 ni, .int .i64 less] w fun r w' => r = .returned (.bool true) ∧ Below w.heap.size w w' := by
  obtain ⟨z1, z2, z3, z4⟩ := hsz
  have hle : ∀ w1, Below w.heap.size w w1 → LevelsAt (allKn w1) := fun w1 hb => T.le (kn_le_all (hH.below hb))
  have HLE := Lib.hid hle
  have hpl := partsL_le_weightL p.terms
  have hlw : p.fl.length + p.as.length + p.cs.length ≤ Ex.weightL p.terms := by
    have h := len_weightL p.terms
    have h2 : p.terms.length = p.fl.length + p.as.length + p.cs.length := by simp only [Pr.terms, List.length_append, List.length_map]
    omega
  clear hle
  have HP := Lib.hid hp
  obtain ⟨h1, h2, h3, h4, h5⟩ := hp
  obtain ⟨ai, ci, rfl⟩ := h1.len
  obtain ⟨ao, co, rfl⟩ := h2.len
  obtain ⟨al, cl, rfl⟩ := h3.len
  obtain ⟨aa, ca, rfl⟩ := h4.len
  obtain ⟨ac, cc, rfl⟩ := h5.len
  obtain ⟨an, cn, rfl⟩ := hi.len
  have HI := Lib.hid hi
  clear h1 h2 h3 h4 h5 hi
  have hP0 := heap_alloc_new w (.cells #[.slice ai p.ins.length ci, .slice ao p.outs.length co, .slice al p.fl.length cl, .slice aa p.as.length ca, .slice ac p.cs.length cc] 27)
  have hb0 : Below w.heap.size w (w.alloc (.cells #[.slice ai p.ins.length ci, .slice ao p.outs.length co, .slice al p.fl.length cl, .slice aa p.as.length ca, .slice ac p.cs.length cc] 27)) := (Below.refl _ _).alloc (Nat.le_refl _) _
  have HB0 := Lib.hid hb0
  have HP0 := Lib.hid hP0
  clear hP0 hb0
  go_enter Tryd.func3, Tryd.ntmps3
  go_wp2_with fail
  generalize w.alloc (.cells #[.slice ai p.ins.length ci, .slice ao p.outs.length co, .slice al p.fl.length cl, .slice aa p.as.length ca, .slice ac p.cs.length cc] 27) = W1 at *
  refine (once_any H T sp W1 (hH.below HB0.out) (S.below HB0.out)).mono ?_
  rintro r w1 ⟨rfl, hb1⟩
  have HB1 := Lib.hid (HB0.out.trans (hb1.mono HB0.out.size))
  have HP1 := Lib.hid ((hb1.block w.heap.size (Array.getElem?_eq_some_iff.1 HP0.out).1).trans HP0.out)
  have m0 : w1.cell? ⟨w.heap.size, 0, none⟩ = some (.slice ai p.ins.length ci) := by have h := HP1.out; simp [World.cell?, h]
  have m1 : w1.cell? ⟨w.heap.size, 1, none⟩ = some (.slice ao p.outs.length co) := by have h := HP1.out; simp [World.cell?, h]
  have m2 : w1.cell? ⟨w.heap.size, 2, none⟩ = some (.slice al p.fl.length cl) := by have h := HP1.out; simp [World.cell?, h]
  have m3 : w1.cell? ⟨w.heap.size, 3, none⟩ = some (.slice aa p.as.length ca) := by have h := HP1.out; simp [World.cell?, h]
  have m4 : w1.cell? ⟨w.heap.size, 4, none⟩ = some (.slice ac p.cs.length cc) := by have h := HP1.out; simp [World.cell?, h]
  go_wp2_with fail
  refine (heavy_any H p _ _ _ _ _ HP.out ⟨by omega, by omega, by omega⟩ w1 (hH.below HB1.out)).mono ?_
  rintro r w2 ⟨rfl, hb2⟩
  have HB2 := Lib.hid (HB1.out.trans (hb2.mono HB1.out.size))
  have HP2 := Lib.hid ((hb2.block w.heap.size (Array.getElem?_eq_some_iff.1 HP1.out).1).trans HP1.out)
  clear m0 m1 m2 m3 m4
  have m0 : w2.cell? ⟨w.heap.size, 0, none⟩ = some (.slice ai p.ins.length ci) := by have h := HP2.out; simp [World.cell?, h]
  have m1 : w2.cell? ⟨w.heap.size, 1, none⟩ = some (.slice ao p.outs.length co) := by have h := HP2.out; simp [World.cell?, h]
  have m2 : w2.cell? ⟨w.heap.size, 2, none⟩ = some (.slice al p.fl.length cl) := by have h := HP2.out; simp [World.cell?, h]
  have m3 : w2.cell? ⟨w.heap.size, 3, none⟩ = some (.slice aa p.as.length ca) := by have h := HP2.out; simp [World.cell?, h]
  have m4 : w2.cell? ⟨w.heap.size, 4, none⟩ = some (.slice ac p.cs.length cc) := by have h := HP2.out; simp [World.cell?, h]
  unfold heavyI
  by_cases hh : heavy p = true
  · rw [if_pos hh]
    go_wp2_with fail
    go_ret
    exact ⟨rfl, HB2.out⟩
  rw [if_neg hh]
  obtain ⟨y1, y2, y3⟩ : Ex.weightL p.terms ≤ 1500 ∧ p.fl.length ≤ 100 ∧ p.ins.length ≤ 40 := by
    unfold heavy at hh
    simp only [Bool.or_eq_true, decide_eq_true_eq, not_or, Nat.not_lt] at hh
    exact ⟨hh.1.1, hh.1.2, hh.2⟩
  clear hh
  go_wp2_with fail
  refine (long_any H ins _ HI.out (by omega) w2 (hH.below HB2.out)).mono ?_
  rintro r w3 ⟨rfl, hb3⟩
  have HB3 := Lib.hid (HB2.out.trans (hb3.mono HB2.out.size))
  have HP3 := Lib.hid ((hb3.block w.heap.size (Array.getElem?_eq_some_iff.1 HP2.out).1).trans HP2.out)
  clear m0 m1 m2 m3 m4
  have m0 : w3.cell? ⟨w.heap.size, 0, none⟩ = some (.slice ai p.ins.length ci) := by have h := HP3.out; simp [World.cell?, h]
  have m1 : w3.cell? ⟨w.heap.size, 1, none⟩ = some (.slice ao p.outs.length co) := by have h := HP3.out; simp [World.cell?, h]
  have m2 : w3.cell? ⟨w.heap.size, 2, none⟩ = some (.slice al p.fl.length cl) := by have h := HP3.out; simp [World.cell?, h]
  have m3 : w3.cell? ⟨w.heap.size, 3, none⟩ = some (.slice aa p.as.length ca) := by have h := HP3.out; simp [World.cell?, h]
  have m4 : w3.cell? ⟨w.heap.size, 4, none⟩ = some (.slice ac p.cs.length cc) := by have h := HP3.out; simp [World.cell?, h]
  by_cases hl : 0 < longI ins
  · go_wp2_with fail
    go_ret
    exact ⟨rfl, HB3.out⟩
  obtain ⟨q1, _, q3⟩ := long_zero hl
  by_cases hn1 : ni < -128
  · go_wp2_with fail
    go_ret
    exact ⟨rfl, HB3.out⟩
  by_cases hn2 : 127 < ni
  · go_wp2_with fail
    go_ret
    exact ⟨rfl, HB3.out⟩
  have ZI := Lib.hid (show ins.length ≤ 1000000 ∧ ∀ x ∈ ins, x.length ≤ 1000000 from ⟨by omega, fun x hx => by have := q1 x hx; omega⟩)
  have ZR := Lib.hid (show p.ins.length ≤ 1000000 ∧ p.fl.length ≤ 1000000 ∧ p.outs.length ≤ 1000000000 ∧ p.as.length ≤ 1000000 ∧ p.cs.length ≤ 1000000 ∧ ∀ l ∈ ins, l.length ≤ 1000000 from ⟨by omega, by omega, by omega, by omega, by omega, fun x hx => by have := q1 x hx; omega⟩)
  have ZP := Lib.hid (show Ex.partsL p.terms ≤ 1000000000 from by omega)
  have ZT := Lib.hid (show ∀ nb ni ins', ∀ x ∈ runM nb ni p ins', x.out.length ≤ 1000000000 ∧ x.checks.length ≤ 1000000000 from fun nb ni ins' x hx => by have := runM_sizes nb ni p ins' x hx; omega)
  have HNI := Lib.hid (runE_nil p ins (ni := ni) ⟨by omega, by omega⟩)
  clear q1
  go_wp2_with fail
  refine (flatOf_any p _ _ _ _ _ H HP.out ⟨by omega, by omega, by omega, by omega⟩ _ (hH.below HB3.out)).mono ?_
  rintro r w4 ⟨vi4, vo4, vl4, va4, vc4, K4, rfl, hp4, hst4⟩
  have HB4 := Lib.hid (HB3.out.trans (hst4.below.mono HB3.out.size))
  have HP4 := Lib.hid ((hst4.below.block w.heap.size (Array.getElem?_eq_some_iff.1 HP3.out).1).trans HP3.out)
  have HQ4 := Lib.hid (hp4.le (kn_le_all hst4.isin))
  clear hp4 hst4
  clear m0 m1 m2 m3 m4
  have m0 : w4.cell? ⟨w.heap.size, 0, none⟩ = some (.slice ai p.ins.length ci) := by have h := HP4.out; simp [World.cell?, h]
  have m1 : w4.cell? ⟨w.heap.size, 1, none⟩ = some (.slice ao p.outs.length co) := by have h := HP4.out; simp [World.cell?, h]
  have m2 : w4.cell? ⟨w.heap.size, 2, none⟩ = some (.slice al p.fl.length cl) := by have h := HP4.out; simp [World.cell?, h]
  have m3 : w4.cell? ⟨w.heap.size, 3, none⟩ = some (.slice aa p.as.length ca) := by have h := HP4.out; simp [World.cell?, h]
  have m4 : w4.cell? ⟨w.heap.size, 4, none⟩ = some (.slice ac p.cs.length cc) := by have h := HP4.out; simp [World.cell?, h]
  go_wp2_with fail
  refine (in_any H ins _ HI.out ZI.out _ (hH.below HB4.out)).mono ?_
  rintro r w5 ⟨vi5, K5, rfl, hv5, hst5⟩
  have HB5 := Lib.hid (HB4.out.trans (hst5.below.mono HB4.out.size))
  have HP5 := Lib.hid ((hst5.below.block w.heap.size (Array.getElem?_eq_some_iff.1 HP4.out).1).trans HP4.out)
  have HQ4 := Lib.hid (HQ4.out.le (kn_le_all (allKn_below hst5.below)))
  have HI5 := Lib.hid (InsV.le (kn_le_all hst5.isin) hv5)
  clear hv5 hst5
  clear m0 m1 m2 m3 m4
  have m0 : w5.cell? ⟨w.heap.size, 0, none⟩ = some (.slice ai p.ins.length ci) := by have h := HP5.out; simp [World.cell?, h]
  have m1 : w5.cell? ⟨w.heap.size, 1, none⟩ = some (.slice ao p.outs.length co) := by have h := HP5.out; simp [World.cell?, h]
  have m2 : w5.cell? ⟨w.heap.size, 2, none⟩ = some (.slice al p.fl.length cl) := by have h := HP5.out; simp [World.cell?, h]
  have m3 : w5.cell? ⟨w.heap.size, 3, none⟩ = some (.slice aa p.as.length ca) := by have h := HP5.out; simp [World.cell?, h]
  have m4 : w5.cell? ⟨w.heap.size, 4, none⟩ = some (.slice ac p.cs.length cc) := by have h := HP5.out; simp [World.cell?, h]
  go_wp2_with fail
  refine (run_any (allKn w5) (HLE.out _ HB5.out) sp p _ _ _ _ _ HQ4.out ins _ HI5.out w5 (allKn_in w5) (S.below HB5.out) false 0 ZR.out ZP.out).mono ?_
  rintro r w6 hpost
  obtain ⟨hb6, hpost⟩ := hpost.told
  have HB6 := Lib.hid (HB5.out.trans (hb6.mono HB5.out.size))
  have HP6 := Lib.hid ((hb6.block w.heap.size (Array.getElem?_eq_some_iff.1 HP5.out).1).trans HP5.out)
  have HQ4 := Lib.hid (HQ4.out.le (kn_le_all (allKn_below hb6)))
  have HI5 := Lib.hid (InsV.le (kn_le_all (allKn_below hb6)) HI5.out)
  clear hb6 HQ4 HI5
  clear m0 m1 m2 m3 m4
  have m0 : w6.cell? ⟨w.heap.size, 0, none⟩ = some (.slice ai p.ins.length ci) := by have h := HP6.out; simp [World.cell?, h]
  have m1 : w6.cell? ⟨w.heap.size, 1, none⟩ = some (.slice ao p.outs.length co) := by have h := HP6.out; simp [World.cell?, h]
  have m2 : w6.cell? ⟨w.heap.size, 2, none⟩ = some (.slice al p.fl.length cl) := by have h := HP6.out; simp [World.cell?, h]
  have m3 : w6.cell? ⟨w.heap.size, 3, none⟩ = some (.slice aa p.as.length ca) := by have h := HP6.out; simp [World.cell?, h]
  have m4 : w6.cell? ⟨w.heap.size, 4, none⟩ = some (.slice ac p.cs.length cc) := by have h := HP6.out; simp [World.cell?, h]
  rcases hpost with ⟨hE, v6, rfl, hv6⟩ | ⟨hE, t6, u6, rfl, _⟩
  case inr =>
    go_wp2_with fail
    refine (flatOf_any p _ _ _ _ _ H HP.out ⟨by omega, by omega, by omega, by omega⟩ _ (hH.below HB6.out)).mono ?_
    rintro r w7 ⟨vi7, vo7, vl7, va7, vc7, K7, rfl, hp7, hst7⟩
    have HB7 := Lib.hid (HB6.out.trans (hst7.below.mono HB6.out.size))
    have HP7 := Lib.hid ((hst7.below.block w.heap.size (Array.getElem?_eq_some_iff.1 HP6.out).1).trans HP6.out)
    have HQ7 := Lib.hid (hp7.le (kn_le_all hst7.isin))
    clear hp7 hst7
    clear m0 m1 m2 m3 m4
    have m0 : w7.cell? ⟨w.heap.size, 0, none⟩ = some (.slice ai p.ins.length ci) := by have h := HP7.out; simp [World.cell?, h]
    have m1 : w7.cell? ⟨w.heap.size, 1, none⟩ = some (.slice ao p.outs.length co) := by have h := HP7.out; simp [World.cell?, h]
    have m2 : w7.cell? ⟨w.heap.size, 2, none⟩ = some (.slice al p.fl.length cl) := by have h := HP7.out; simp [World.cell?, h]
    have m3 : w7.cell? ⟨w.heap.size, 3, none⟩ = some (.slice aa p.as.length ca) := by have h := HP7.out; simp [World.cell?, h]
    have m4 : w7.cell? ⟨w.heap.size, 4, none⟩ = some (.slice ac p.cs.length cc) := by have h := HP7.out; simp [World.cell?, h]
    go_wp2_with fail
    refine (in_any H ins _ HI.out ZI.out _ (hH.below HB7.out)).mono ?_
    rintro r w8 ⟨vi8, K8, rfl, hv8, hst8⟩
    have HB8 := Lib.hid (HB7.out.trans (hst8.below.mono HB7.out.size))
    have HP8 := Lib.hid ((hst8.below.block w.heap.size (Array.getElem?_eq_some_iff.1 HP7.out).1).trans HP7.out)
    have HQ7 := Lib.hid (HQ7.out.le (kn_le_all (allKn_below hst8.below)))
    have HI8 := Lib.hid (InsV.le (kn_le_all hst8.isin) hv8)
    clear hv8 hst8
    clear m0 m1 m2 m3 m4
    have m0 : w8.cell? ⟨w.heap.size, 0, none⟩ = some (.slice ai p.ins.length ci) := by have h := HP8.out; simp [World.cell?, h]
    have m1 : w8.cell? ⟨w.heap.size, 1, none⟩ = some (.slice ao p.outs.length co) := by have h := HP8.out; simp [World.cell?, h]
    have m2 : w8.cell? ⟨w.heap.size, 2, none⟩ = some (.slice al p.fl.length cl) := by have h := HP8.out; simp [World.cell?, h]
    have m3 : w8.cell? ⟨w.heap.size, 3, none⟩ = some (.slice aa p.as.length ca) := by have h := HP8.out; simp [World.cell?, h]
    have m4 : w8.cell? ⟨w.heap.size, 4, none⟩ = some (.slice ac p.cs.length cc) := by have h := HP8.out; simp [World.cell?, h]
    go_wp2_with fail
    refine (run_any (allKn w8) (HLE.out _ HB8.out) sp p _ _ _ _ _ HQ7.out ins _ HI8.out w8 (allKn_in w8) (S.below HB8.out) true ni ZR.out ZP.out).mono ?_
    rintro r w9 hpost
    obtain ⟨hb9, hpost⟩ := hpost.told
    have HB9 := Lib.hid (HB8.out.trans (hb9.mono HB8.out.size))
    have HP9 := Lib.hid ((hb9.block w.heap.size (Array.getElem?_eq_some_iff.1 HP8.out).1).trans HP8.out)
    have HQ7 := Lib.hid (HQ7.out.le (kn_le_all (allKn_below hb9)))
    have HI8 := Lib.hid (InsV.le (kn_le_all (allKn_below hb9)) HI8.out)
    clear hb9 HQ7 HI8
    rw [HNI.out] at hpost
    rcases hpost with ⟨h, _⟩ | ⟨_, t9, u9, rfl, _⟩
    case inl => exact absurd h hE
    go_wp2_with fail
    go_ret
    exact ⟨rfl, HB9.out⟩
  have hrl := runM_len false 0 p ins
  obtain ⟨c0, _, _, cI⟩ := runE_zero hE
  have HC0 := Lib.hid c0
  have HCI := Lib.hid cI
  have HE := Lib.hid hE
  have HV6 := Lib.hid hv6
  obtain ⟨a6, c6, rfl⟩ := hv6.len
  clear hv6 cI c0 hE
  go_wp2_with fail
  refine (flatOf_any p _ _ _ _ _ H HP.out ⟨by omega, by omega, by omega, by omega⟩ _ (hH.below HB6.out)).mono ?_
  rintro r w7 ⟨vi7, vo7, vl7, va7, vc7, K7, rfl, hp7, hst7⟩
  have HB7 := Lib.hid (HB6.out.trans (hst7.below.mono HB6.out.size))
  have HP7 := Lib.hid ((hst7.below.block w.heap.size (Array.getElem?_eq_some_iff.1 HP6.out).1).trans HP6.out)
  have HV6 := Lib.hid (TksV.le (kn_le_all (allKn_below hst7.below)) HV6.out)
  have HQ7 := Lib.hid (hp7.le (kn_le_all hst7.isin))
  clear hp7 hst7
  clear m0 m1 m2 m3 m4
  have m0 : w7.cell? ⟨w.heap.size, 0, none⟩ = some (.slice ai p.ins.length ci) := by have h := HP7.out; simp [World.cell?, h]
  have m1 : w7.cell? ⟨w.heap.size, 1, none⟩ = some (.slice ao p.outs.length co) := by have h := HP7.out; simp [World.cell?, h]
  have m2 : w7.cell? ⟨w.heap.size, 2, none⟩ = some (.slice al p.fl.length cl) := by have h := HP7.out; simp [World.cell?, h]
  have m3 : w7.cell? ⟨w.heap.size, 3, none⟩ = some (.slice aa p.as.length ca) := by have h := HP7.out; simp [World.cell?, h]
  have m4 : w7.cell? ⟨w.heap.size, 4, none⟩ = some (.slice ac p.cs.length cc) := by have h := HP7.out; simp [World.cell?, h]
  go_wp2_with fail
  refine (in_any H ins _ HI.out ZI.out _ (hH.below HB7.out)).mono ?_
  rintro r w8 ⟨vi8, K8, rfl, hv8, hst8⟩
  have HB8 := Lib.hid (HB7.out.trans (hst8.below.mono HB7.out.size))
  have HP8 := Lib.hid ((hst8.below.block w.heap.size (Array.getElem?_eq_some_iff.1 HP7.out).1).trans HP7.out)
  have HV6 := Lib.hid (TksV.le (kn_le_all (allKn_below hst8.below)) HV6.out)
  have HQ7 := Lib.hid (HQ7.out.le (kn_le_all (allKn_below hst8.below)))
  have HI8 := Lib.hid (InsV.le (kn_le_all hst8.isin) hv8)
  clear hv8 hst8
  clear m0 m1 m2 m3 m4
  have m0 : w8.cell? ⟨w.heap.size, 0, none⟩ = some (.slice ai p.ins.length ci) := by have h := HP8.out; simp [World.cell?, h]
  have m1 : w8.cell? ⟨w.heap.size, 1, none⟩ = some (.slice ao p.outs.length co) := by have h := HP8.out; simp [World.cell?, h]
  have m2 : w8.cell? ⟨w.heap.size, 2, none⟩ = some (.slice al p.fl.length cl) := by have h := HP8.out; simp [World.cell?, h]
  have m3 : w8.cell? ⟨w.heap.size, 3, none⟩ = some (.slice aa p.as.length ca) := by have h := HP8.out; simp [World.cell?, h]
  have m4 : w8.cell? ⟨w.heap.size, 4, none⟩ = some (.slice ac p.cs.length cc) := by have h := HP8.out; simp [World.cell?, h]
  go_wp2_with fail
  refine (run_any (allKn w8) (HLE.out _ HB8.out) sp p _ _ _ _ _ HQ7.out ins _ HI8.out w8 (allKn_in w8) (S.below HB8.out) true ni ZR.out ZP.out).mono ?_
  rintro r w9 hpost
  obtain ⟨hb9, hpost⟩ := hpost.told
  have HB9 := Lib.hid (HB8.out.trans (hb9.mono HB8.out.size))
  have HP9 := Lib.hid ((hb9.block w.heap.size (Array.getElem?_eq_some_iff.1 HP8.out).1).trans HP8.out)
  have HV6 := Lib.hid (TksV.le (kn_le_all (allKn_below hb9)) HV6.out)
  have HQ7 := Lib.hid (HQ7.out.le (kn_le_all (allKn_below hb9)))
  have HI8 := Lib.hid (InsV.le (kn_le_all (allKn_below hb9)) HI8.out)
  clear hb9 HQ7 HI8
  clear m0 m1 m2 m3 m4
  have m0 : w9.cell? ⟨w.heap.size, 0, none⟩ = some (.slice ai p.ins.length ci) := by have h := HP9.out; simp [World.cell?, h]
  have m1 : w9.cell? ⟨w.heap.size, 1, none⟩ = some (.slice ao p.outs.length co) := by have h := HP9.out; simp [World.cell?, h]
  have m2 : w9.cell? ⟨w.heap.size, 2, none⟩ = some (.slice al p.fl.length cl) := by have h := HP9.out; simp [World.cell?, h]
  have m3 : w9.cell? ⟨w.heap.size, 3, none⟩ = some (.slice aa p.as.length ca) := by have h := HP9.out; simp [World.cell?, h]
  have m4 : w9.cell? ⟨w.heap.size, 4, none⟩ = some (.slice ac p.cs.length cc) := by have h := HP9.out; simp [World.cell?, h]
  rw [HNI.out, runM_nils HC0.out true false ni 0 ins] at hpost
  rcases hpost with ⟨_, v9, rfl, hv9⟩ | ⟨h, _⟩
  case inr => exact absurd HE.out h
  have HV9 := Lib.hid hv9
  obtain ⟨a9, c9, rfl⟩ := hv9.len
  clear hv9
  go_wp2_with fail
  refine (ticksOf_any (allKn w9) _ _ HV6.out (by omega) w9 (allKn_in w9)).mono ?_
  rintro r w10 ⟨vt10, K10, rfl, hv10, hst10⟩
  have HB10 := Lib.hid (HB9.out.trans (hst10.below.mono HB9.out.size))
  have HP10 := Lib.hid ((hst10.below.block w.heap.size (Array.getElem?_eq_some_iff.1 HP9.out).1).trans HP9.out)
  have HV6 := Lib.hid (TksV.le (kn_le_all (allKn_below hst10.below)) HV6.out)
  have HV9 := Lib.hid (TksV.le (kn_le_all (allKn_below hst10.below)) HV9.out)
  have HT10 := Lib.hid (TksV.le (kn_le_all hst10.isin) hv10)
  clear hv10 hst10
  clear m0 m1 m2 m3 m4
  have m0 : w10.cell? ⟨w.heap.size, 0, none⟩ = some (.slice ai p.ins.length ci) := by have h := HP10.out; simp [World.cell?, h]
  have m1 : w10.cell? ⟨w.heap.size, 1, none⟩ = some (.slice ao p.outs.length co) := by have h := HP10.out; simp [World.cell?, h]
  have m2 : w10.cell? ⟨w.heap.size, 2, none⟩ = some (.slice al p.fl.length cl) := by have h := HP10.out; simp [World.cell?, h]
  have m3 : w10.cell? ⟨w.heap.size, 3, none⟩ = some (.slice aa p.as.length ca) := by have h := HP10.out; simp [World.cell?, h]
  have m4 : w10.cell? ⟨w.heap.size, 4, none⟩ = some (.slice ac p.cs.length cc) := by have h := HP10.out; simp [World.cell?, h]
  go_wp2_with fail
  refine (ticksOf_any (allKn w10) _ _ HV9.out (by omega) w10 (allKn_in w10)).mono ?_
  rintro r w11 ⟨vt11, K11, rfl, hv11, hst11⟩
  have HB11 := Lib.hid (HB10.out.trans (hst11.below.mono HB10.out.size))
  have HP11 := Lib.hid ((hst11.below.block w.heap.size (Array.getElem?_eq_some_iff.1 HP10.out).1).trans HP10.out)
  have HV6 := Lib.hid (TksV.le (kn_le_all (allKn_below hst11.below)) HV6.out)
  have HV9 := Lib.hid (TksV.le (kn_le_all (allKn_below hst11.below)) HV9.out)
  have HT10 := Lib.hid (TksV.le (kn_le_all (allKn_below hst11.below)) HT10.out)
  have HT11 := Lib.hid (TksV.le (kn_le_all hst11.isin) hv11)
  clear hv11 hst11
  clear m0 m1 m2 m3 m4
  have m0 : w11.cell? ⟨w.heap.size, 0, none⟩ = some (.slice ai p.ins.length ci) := by have h := HP11.out; simp [World.cell?, h]
  have m1 : w11.cell? ⟨w.heap.size, 1, none⟩ = some (.slice ao p.outs.length co) := by have h := HP11.out; simp [World.cell?, h]
  have m2 : w11.cell? ⟨w.heap.size, 2, none⟩ = some (.slice al p.fl.length cl) := by have h := HP11.out; simp [World.cell?, h]
  have m3 : w11.cell? ⟨w.heap.size, 3, none⟩ = some (.slice aa p.as.length ca) := by have h := HP11.out; simp [World.cell?, h]
  have m4 : w11.cell? ⟨w.heap.size, 4, none⟩ = some (.slice ac p.cs.length cc) := by have h := HP11.out; simp [World.cell?, h]
  go_wp2_with fail
  refine (sameTicks_any (allKn w11) _ _ _ HT10.out HT11.out ⟨by omega, ZT.out _ _ _⟩ w11 (allKn_in w11)).mono ?_
  rintro r w12 ⟨rfl, hb12⟩
  clear HV9 HT10 HT11
  have HB12 := Lib.hid (HB11.out.trans (hb12.mono HB11.out.size))
  have HP12 := Lib.hid ((hb12.block w.heap.size (Array.getElem?_eq_some_iff.1 HP11.out).1).trans HP11.out)
  have HV6 := Lib.hid (TksV.le (kn_le_all (allKn_below hb12)) HV6.out)
  clear m0 m1 m2 m3 m4
  have m0 : w12.cell? ⟨w.heap.size, 0, none⟩ = some (.slice ai p.ins.length ci) := by have h := HP12.out; simp [World.cell?, h]
  have m1 : w12.cell? ⟨w.heap.size, 1, none⟩ = some (.slice ao p.outs.length co) := by have h := HP12.out; simp [World.cell?, h]
  have m2 : w12.cell? ⟨w.heap.size, 2, none⟩ = some (.slice al p.fl.length cl) := by have h := HP12.out; simp [World.cell?, h]
  have m3 : w12.cell? ⟨w.heap.size, 3, none⟩ = some (.slice aa p.as.length ca) := by have h := HP12.out; simp [World.cell?, h]
  have m4 : w12.cell? ⟨w.heap.size, 4, none⟩ = some (.slice ac p.cs.length cc) := by have h := HP12.out; simp [World.cell?, h]
  by_cases hx1 : less < 0
  · go_wp2_with fail
    go_ret
    exact ⟨rfl, HB12.out⟩
  by_cases hx2 : (ins.length : Int) < less
  · go_wp2_with fail
    go_ret
    exact ⟨rfl, HB12.out⟩
  obtain ⟨m, rfl⟩ : ∃ m : Nat, less = m := ⟨less.toNat, by omega⟩
  have hmi : m ≤ ins.length := by omega
  have hcap := SlV.capOf HI.out
  have hmc : m ≤ cn := by omega
  have HIM := Lib.hid (SlV.takeOf HI.out (m := m) hmi)
  have hml : (ins.take m).length = m := by simp; omega
  rw [hml] at HIM
  have HEM := Lib.hid (show runE p (ins.take m) 0 = (0, -1) from by
    obtain ⟨_, b1, b2, _⟩ := runE_zero HE.out
    exact runE_of HC0.out (by omega) b2 fun l hl => HCI.out l (List.mem_of_mem_take hl))
  have ZI := Lib.hid (show (ins.take m).length ≤ 1000000 ∧ ∀ x ∈ ins.take m, x.length ≤ 1000000 from ⟨by omega, fun x hx => ZI.out.2 x (List.mem_of_mem_take hx)⟩)
  have ZR := Lib.hid (show p.ins.length ≤ 1000000 ∧ p.fl.length ≤ 1000000 ∧ p.outs.length ≤ 1000000000 ∧ p.as.length ≤ 1000000 ∧ p.cs.length ≤ 1000000 ∧ ∀ l ∈ ins.take m, l.length ≤ 1000000 from ⟨by omega, by omega, by omega, by omega, by omega, fun x hx => ZI.out.2 x hx⟩)
  go_wp2_with fail
  have k0 : (allKn w12).cell w.heap.size 0 = some (.slice ai p.ins.length ci) := by rw [allKn_cell]; exact m0
  have k1 : (allKn w12).cell w.heap.size 1 = some (.slice ao p.outs.length co) := by rw [allKn_cell]; exact m1
  have k2 : (allKn w12).cell w.heap.size 2 = some (.slice al p.fl.length cl) := by rw [allKn_cell]; exact m2
  have k3 : (allKn w12).cell w.heap.size 3 = some (.slice aa p.as.length ca) := by rw [allKn_cell]; exact m3
  have k4 : (allKn w12).cell w.heap.size 4 = some (.slice ac p.cs.length cc) := by rw [allKn_cell]; exact m4
  have hS : (allKn w12).In w12.drew := (allKn_in w12).below (Below.refl _ _).drew
  have hbD : Below w12.heap.size w12 w12.drew := (Below.refl _ _).drew
  have HBD := Lib.hid (HB12.out.trans (hbD.mono HB12.out.size))
  have HPD := Lib.hid ((hbD.block w.heap.size (Array.getElem?_eq_some_iff.1 HP12.out).1).trans HP12.out)
  have HV6 := Lib.hid (TksV.le (kn_le_all (allKn_below hbD)) HV6.out)
  refine wp_region_2 (fun w' => (allKn w12).In w') (fun _ => True) 99 (by kernel_rfl) ?_
  refine wpAny2_take (i := 0) (oi := _) (v := ?_) rfl (by decide) (by kernel_rfl) (by kernel_rfl) (by kernel_rfl) (by kernel_rfl) (fun _ _ _ h => h) hS (fun _ => trivial) (Or.inl ⟨by rfl, ?hy⟩) ?_
  case hy => intro w hSw; have z0 := hSw.cell k0; have z1 := hSw.cell k1; have z2 := hSw.cell k2; have z3 := hSw.cell k3; have z4 := hSw.cell k4; first | (go_simp; done) | (go_simp; with_reducible rfl)
  try simp only [Act.put, List.setIfInBounds_toArray, List.set_cons_zero, List.set_cons_succ, List.getElem_toArray, List.getElem_cons_zero]
  refine wpAny2_take (i := 2) (oi := _) (v := ?_) rfl (by decide) (by kernel_rfl) (by kernel_rfl) (by kernel_rfl) (by kernel_rfl) (fun _ _ _ h => h) hS (fun _ => trivial) (Or.inl ⟨by rfl, ?hy⟩) ?_
  case hy => intro w hSw; have z0 := hSw.cell k0; have z1 := hSw.cell k1; have z2 := hSw.cell k2; have z3 := hSw.cell k3; have z4 := hSw.cell k4; first | (go_simp; done) | (go_simp; with_reducible rfl)
  try simp only [Act.put, List.setIfInBounds_toArray, List.set_cons_zero, List.set_cons_succ, List.getElem_toArray, List.getElem_cons_zero, List.getElem_cons_succ]
  refine wpAny2_take (i := 3) (oi := _) (v := ?_) rfl (by decide) (by kernel_rfl) (by kernel_rfl) (by kernel_rfl) (by kernel_rfl) (fun _ _ _ h => h) hS (fun _ => trivial) (Or.inl ⟨by rfl, ?hy⟩) ?_
  case hy => intro w hSw; have z0 := hSw.cell k0; have z1 := hSw.cell k1; have z2 := hSw.cell k2; have z3 := hSw.cell k3; have z4 := hSw.cell k4; first | (go_simp; done) | (go_simp; with_reducible rfl)
  try simp only [Act.put, List.setIfInBounds_toArray, List.set_cons_zero, List.set_cons_succ, List.getElem_toArray, List.getElem_cons_zero, List.getElem_cons_succ]
  refine wpAny2_take (i := 4) (oi := _) (v := ?_) rfl (by decide) (by kernel_rfl) (by kernel_rfl) (by kernel_rfl) (by kernel_rfl) (fun _ _ _ h => h) hS (fun _ => trivial) (Or.inl ⟨by rfl, ?hy⟩) ?_
  case hy => intro w hSw; have z0 := hSw.cell k0; have z1 := hSw.cell k1; have z2 := hSw.cell k2; have z3 := hSw.cell k3; have z4 := hSw.cell k4; first | (go_simp; done) | (go_simp; with_reducible rfl)
  try simp only [Act.put, List.setIfInBounds_toArray, List.set_cons_zero, List.set_cons_succ, List.getElem_toArray, List.getElem_cons_zero, List.getElem_cons_succ]
  refine wpAny2_one (i := 1) (o := _) (by kernel_rfl) rfl (fun K_ hK => ?_)
  go_simp
  go_at_call 10
  refine (flatOf_any p _ _ _ _ _ H HP.out ⟨by omega, by omega, by omega, by omega⟩ _ (hH.below HBD.out)).mono ?_
  rintro r w13 ⟨vi13, vo13, vl13, va13, vc13, K13, rfl, hp13, hst13⟩
  have HB13 := Lib.hid (HBD.out.trans (hst13.below.mono HBD.out.size))
  have HP13 := Lib.hid ((hst13.below.block w.heap.size (Array.getElem?_eq_some_iff.1 HPD.out).1).trans HPD.out)
  have HV6 := Lib.hid (TksV.le (kn_le_all (allKn_below hst13.below)) HV6.out)
  have HQ13 := Lib.hid (hp13.le (kn_le_all hst13.isin))
  have hS13 := hS.below hst13.below
  clear hp13 hst13
  refine hK.out _ _ (hS13) (fun _ => trivial) ?_
  clear hK K_
  try simp only [Act.put, List.setIfInBounds_toArray, List.set_cons_zero, List.set_cons_succ, List.getElem_toArray, List.getElem_cons_zero, List.getElem_cons_succ]
  refine wpAny2_one (i := 5) (o := _) (by kernel_rfl) rfl (fun K_ hK => ?_)
  go_simp
  go_at_call 11
  refine (in_any H (ins.take m) _ HIM.out ZI.out _ (hH.below HB13.out)).mono ?_
  rintro r w14 ⟨vi14, K14, rfl, hv14, hst14⟩
  have HB14 := Lib.hid (HB13.out.trans (hst14.below.mono HB13.out.size))
  have HP14 := Lib.hid ((hst14.below.block w.heap.size (Array.getElem?_eq_some_iff.1 HP13.out).1).trans HP13.out)
  have HV6 := Lib.hid (TksV.le (kn_le_all (allKn_below hst14.below)) HV6.out)
  have HQ13 := Lib.hid (HQ13.out.le (kn_le_all (allKn_below hst14.below)))
  have HI14 := Lib.hid (InsV.le (kn_le_all hst14.isin) hv14)
  have hS14 := hS13.below hst14.below
  clear hv14 hst14
  refine hK.out _ _ (hS14) (fun _ => trivial) ?_
  clear hK K_
  try simp only [Act.put, List.setIfInBounds_toArray, List.set_cons_zero, List.set_cons_succ, List.getElem_toArray, List.getElem_cons_zero, List.getElem_cons_succ]
  refine wpAny2_one (i := 6) (o := _) (by kernel_rfl) rfl (fun K_ hK => ?_)
  go_simp
  go_at_call 9
  refine (run_any (allKn w14) (HLE.out _ HB14.out) sp p _ _ _ _ _ HQ13.out (ins.take m) _ HI14.out w14 (allKn_in w14) (S.below HB14.out) false 0 ZR.out ZP.out).mono ?_
  rintro r w15 hpost
  obtain ⟨hb15, hpost⟩ := hpost.told
  have HB15 := Lib.hid (HB14.out.trans (hb15.mono HB14.out.size))
  have HP15 := Lib.hid ((hb15.block w.heap.size (Array.getElem?_eq_some_iff.1 HP14.out).1).trans HP14.out)
  have HV6 := Lib.hid (TksV.le (kn_le_all (allKn_below hb15)) HV6.out)
  have HQ13 := Lib.hid (HQ13.out.le (kn_le_all (allKn_below hb15)))
  have HI14 := Lib.hid (InsV.le (kn_le_all (allKn_below hb15)) HI14.out)
  have hS15 := hS14.below hb15
  clear hb15 HQ13 HI14
  rw [HEM.out] at hpost
  rcases hpost with ⟨_, v15, rfl, hv15⟩ | ⟨h, _⟩
  case inr => exact absurd rfl h
  have HV15 := Lib.hid hv15
  obtain ⟨a15, c15, rfl⟩ := hv15.len
  clear hv15
  refine hK.out _ _ (hS15) (fun _ => trivial) ?_
  clear hK K_
  try simp only [Act.put, List.setIfInBounds_toArray, List.set_cons_zero, List.set_cons_succ, List.getElem_toArray, List.getElem_cons_zero, List.getElem_cons_succ]
  refine wpAny2_take (i := 7) (oi := _) (v := ?_) rfl (by decide) (by kernel_rfl) (by kernel_rfl) (by kernel_rfl) (by kernel_rfl) (fun _ _ _ h => h) hS15 (fun _ => trivial) (Or.inl ⟨by rfl, ?hy⟩) ?_
  case hy => intro w hSw; have z0 := hSw.cell k0; have z1 := hSw.cell k1; have z2 := hSw.cell k2; have z3 := hSw.cell k3; have z4 := hSw.cell k4; first | (go_simp; done) | (go_simp; with_reducible rfl)
  try simp only [Act.put, List.setIfInBounds_toArray, List.set_cons_zero, List.set_cons_succ, List.getElem_toArray, List.getElem_cons_zero, List.getElem_cons_succ]
  refine wpAny2_take (i := 8) (oi := _) (v := ?_) rfl (by decide) (by kernel_rfl) (by kernel_rfl) (by kernel_rfl) (by kernel_rfl) (fun _ _ _ h => h) hS15 (fun _ => trivial) (Or.inl ⟨by rfl, ?hy⟩) ?_
  case hy => intro w hSw; have z0 := hSw.cell k0; have z1 := hSw.cell k1; have z2 := hSw.cell k2; have z3 := hSw.cell k3; have z4 := hSw.cell k4; first | (go_simp; done) | (go_simp; with_reducible rfl)
  try simp only [Act.put, List.setIfInBounds_toArray, List.set_cons_zero, List.set_cons_succ, List.getElem_toArray, List.getElem_cons_zero, List.getElem_cons_succ]
  refine wpAny2_take (i := 9) (oi := _) (v := ?_) rfl (by decide) (by kernel_rfl) (by kernel_rfl) (by kernel_rfl) (by kernel_rfl) (fun _ _ _ h => h) hS15 (fun _ => trivial) (Or.inl ⟨by rfl, ?hy⟩) ?_
  case hy => intro w hSw; have z0 := hSw.cell k0; have z1 := hSw.cell k1; have z2 := hSw.cell k2; have z3 := hSw.cell k3; have z4 := hSw.cell k4; first | (go_simp; done) | (go_simp; with_reducible rfl)
  try simp only [Act.put, List.setIfInBounds_toArray, List.set_cons_zero, List.set_cons_succ, List.getElem_toArray, List.getElem_cons_zero, List.getElem_cons_succ]
  refine wpAny2_take (i := 10) (oi := _) (v := ?_) rfl (by decide) (by kernel_rfl) (by kernel_rfl) (by kernel_rfl) (by kernel_rfl) (fun _ _ _ h => h) hS15 (fun _ => trivial) (Or.inl ⟨by rfl, ?hy⟩) ?_
  case hy => intro w hSw; have z0 := hSw.cell k0; have z1 := hSw.cell k1; have z2 := hSw.cell k2; have z3 := hSw.cell k3; have z4 := hSw.cell k4; first | (go_simp; done) | (go_simp; with_reducible rfl)
  try simp only [Act.put, List.setIfInBounds_toArray, List.set_cons_zero, List.set_cons_succ, List.getElem_toArray, List.getElem_cons_zero, List.getElem_cons_succ]
  refine wpAny2_take (i := 11) (oi := _) (v := ?_) rfl (by decide) (by kernel_rfl) (by kernel_rfl) (by kernel_rfl) (by kernel_rfl) (fun _ _ _ h => h) hS15 (fun _ => trivial) (Or.inl ⟨by rfl, ?hy⟩) ?_
  case hy => intro w hSw; have z0 := hSw.cell k0; have z1 := hSw.cell k1; have z2 := hSw.cell k2; have z3 := hSw.cell k3; have z4 := hSw.cell k4; first | (go_simp; done) | (go_simp; with_reducible rfl)
  try simp only [Act.put, List.setIfInBounds_toArray, List.set_cons_zero, List.set_cons_succ, List.getElem_toArray, List.getElem_cons_zero, List.getElem_cons_succ]
  refine wpAny2_done (by kernel_rfl) ?_ _
  clear m0 m1 m2 m3 m4
  have m0 : w15.cell? ⟨w.heap.size, 0, none⟩ = some (.slice ai p.ins.length ci) := by have h := HP15.out; simp [World.cell?, h]
  have m1 : w15.cell? ⟨w.heap.size, 1, none⟩ = some (.slice ao p.outs.length co) := by have h := HP15.out; simp [World.cell?, h]
  have m2 : w15.cell? ⟨w.heap.size, 2, none⟩ = some (.slice al p.fl.length cl) := by have h := HP15.out; simp [World.cell?, h]
  have m3 : w15.cell? ⟨w.heap.size, 3, none⟩ = some (.slice aa p.as.length ca) := by have h := HP15.out; simp [World.cell?, h]
  have m4 : w15.cell? ⟨w.heap.size, 4, none⟩ = some (.slice ac p.cs.length cc) := by have h := HP15.out; simp [World.cell?, h]
  obtain ⟨l1, l2⟩ := runM_less false 0 p ins m
  have HL2 := Lib.hid l2
  have hcap6 := SlV.capOf HV6.out
  have hrl2 := runM_len false 0 p (ins.take m)
  have hmc6 : (runM false 0 p (ins.take m)).length ≤ c6 := by omega
  have HVT := Lib.hid (SlV.takeOf HV6.out (m := (runM false 0 p (ins.take m)).length) l1)
  rw [← HL2.out] at HVT
  clear l2
  go_wp2_with fail
  have hS : (allKn w15).In w15.drew := (allKn_in w15).below (Below.refl _ _).drew
  have hbE : Below w15.heap.size w15 w15.drew := (Below.refl _ _).drew
  have HBE := Lib.hid (HB15.out.trans (hbE.mono HB15.out.size))
  have HPE := Lib.hid ((hbE.block w.heap.size (Array.getElem?_eq_some_iff.1 HP15.out).1).trans HP15.out)
  have HVT := Lib.hid (TksV.le (kn_le_all (allKn_below hbE)) HVT.out)
  have HV15 := Lib.hid (TksV.le (kn_le_all (allKn_below hbE)) HV15.out)
  refine wp_region_2 (fun w' => (allKn w15).In w') (fun _ => True) 99 (by kernel_rfl) ?_
  refine wpAny2_take (i := 0) (oi := _) (v := ?_) rfl (by decide) (by kernel_rfl) (by kernel_rfl) (by kernel_rfl) (by kernel_rfl) (fun _ _ _ h => h) hS (fun _ => trivial) (Or.inl ⟨by rfl, ?hy⟩) ?_
  case hy => intro w hSw; first | (go_simp; done) | (go_simp; with_reducible rfl)
  try simp only [Act.put, List.setIfInBounds_toArray, List.set_cons_zero, List.set_cons_succ, List.getElem_toArray, List.getElem_cons_zero]
  refine wpAny2_take (i := 1) (oi := _) (v := ?_) rfl (by decide) (by kernel_rfl) (by kernel_rfl) (by kernel_rfl) (by kernel_rfl) (fun _ _ _ h => h) hS (fun _ => trivial) (Or.inl ⟨by rfl, ?hy⟩) ?_
  case hy => intro w hSw; first | (go_simp; done) | (go_simp; with_reducible rfl)
  try simp only [Act.put, List.setIfInBounds_toArray, List.set_cons_zero, List.set_cons_succ, List.getElem_toArray, List.getElem_cons_zero, List.getElem_cons_succ]
  refine wpAny2_take (i := 2) (oi := _) (v := ?_) rfl (by decide) (by kernel_rfl) (by kernel_rfl) (by kernel_rfl) (by kernel_rfl) (fun _ _ _ h => h) hS (fun _ => trivial) (Or.inl ⟨by rfl, ?hy⟩) ?_
  case hy => intro w hSw; first | (go_simp; done) | (go_simp; with_reducible rfl)
  try simp only [Act.put, List.setIfInBounds_toArray, List.set_cons_zero, List.set_cons_succ, List.getElem_toArray, List.getElem_cons_zero, List.getElem_cons_succ]
  refine wpAny2_take (i := 3) (oi := _) (v := ?_) rfl (by decide) (by kernel_rfl) (by kernel_rfl) (by kernel_rfl) (by kernel_rfl) (fun _ _ _ h => h) hS (fun _ => trivial) (Or.inl ⟨by rfl, ?hy⟩) ?_
  case hy => intro w hSw; first | (go_simp; done) | (go_simp; with_reducible rfl)
  try simp only [Act.put, List.setIfInBounds_toArray, List.set_cons_zero, List.set_cons_succ, List.getElem_toArray, List.getElem_cons_zero, List.getElem_cons_succ]
  refine wpAny2_take (i := 4) (oi := _) (v := ?_) rfl (by decide) (by kernel_rfl) (by kernel_rfl) (by kernel_rfl) (by kernel_rfl) (fun _ _ _ h => h) hS (fun _ => trivial) (Or.inl ⟨by rfl, ?hy⟩) ?_
  case hy => intro w hSw; first | (go_simp; done) | (go_simp; with_reducible rfl)
  try simp only [Act.put, List.setIfInBounds_toArray, List.set_cons_zero, List.set_cons_succ, List.getElem_toArray, List.getElem_cons_zero, List.getElem_cons_succ]
  refine wpAny2_take (i := 5) (oi := _) (v := ?_) rfl (by decide) (by kernel_rfl) (by kernel_rfl) (by kernel_rfl) (by kernel_rfl) (fun _ _ _ h => h) hS (fun _ => trivial) (Or.inl ⟨by rfl, ?hy⟩) ?_
  case hy => intro w hSw; first | (go_simp; done) | (go_simp; with_reducible rfl)
  try simp only [Act.put, List.setIfInBounds_toArray, List.set_cons_zero, List.set_cons_succ, List.getElem_toArray, List.getElem_cons_zero, List.getElem_cons_succ]
  refine wpAny2_take (i := 6) (oi := _) (v := ?_) rfl (by decide) (by kernel_rfl) (by kernel_rfl) (by kernel_rfl) (by kernel_rfl) (fun _ _ _ h => h) hS (fun _ => trivial) (Or.inl ⟨by rfl, ?hy⟩) ?_
  case hy => intro w hSw; first | (go_simp; done) | (go_simp; with_reducible rfl)
  try simp only [Act.put, List.setIfInBounds_toArray, List.set_cons_zero, List.set_cons_succ, List.getElem_toArray, List.getElem_cons_zero, List.getElem_cons_succ]
  refine wpAny2_take (i := 7) (oi := _) (v := ?_) rfl (by decide) (by kernel_rfl) (by kernel_rfl) (by kernel_rfl) (by kernel_rfl) (fun _ _ _ h => h) hS (fun _ => trivial) (Or.inl ⟨by rfl, ?hy⟩) ?_
  case hy => intro w hSw; first | (go_simp; done) | (go_simp; with_reducible rfl)
  try simp only [Act.put, List.setIfInBounds_toArray, List.set_cons_zero, List.set_cons_succ, List.getElem_toArray, List.getElem_cons_zero, List.getElem_cons_succ]
  refine wpAny2_take (i := 8) (oi := _) (v := ?_) rfl (by decide) (by kernel_rfl) (by kernel_rfl) (by kernel_rfl) (by kernel_rfl) (fun _ _ _ h => h) hS (fun _ => trivial) (Or.inl ⟨by rfl, ?hy⟩) ?_
  case hy => intro w hSw; first | (go_simp; done) | (go_simp; with_reducible rfl)
  try simp only [Act.put, List.setIfInBounds_toArray, List.set_cons_zero, List.set_cons_succ, List.getElem_toArray, List.getElem_cons_zero, List.getElem_cons_succ]
  refine wpAny2_take (i := 9) (oi := _) (v := ?_) rfl (by decide) (by kernel_rfl) (by kernel_rfl) (by kernel_rfl) (by kernel_rfl) (fun _ _ _ h => h) hS (fun _ => trivial) (Or.inl ⟨by rfl, ?hy⟩) ?_
  case hy => intro w hSw; first | (go_simp; done) | (go_simp; with_reducible rfl)
  try simp only [Act.put, List.setIfInBounds_toArray, List.set_cons_zero, List.set_cons_succ, List.getElem_toArray, List.getElem_cons_zero, List.getElem_cons_succ]
  refine wpAny2_take (i := 10) (oi := _) (v := ?_) rfl (by decide) (by kernel_rfl) (by kernel_rfl) (by kernel_rfl) (by kernel_rfl) (fun _ _ _ h => h) hS (fun _ => trivial) (Or.inl ⟨by rfl, ?hy⟩) ?_
  case hy => intro w hSw; first | (go_simp; done) | (go_simp; with_reducible rfl)
  try simp only [Act.put, List.setIfInBounds_toArray, List.set_cons_zero, List.set_cons_succ, List.getElem_toArray, List.getElem_cons_zero, List.getElem_cons_succ]
  refine wpAny2_take (i := 12) (oi := _) (v := ?_) rfl (by decide) (by kernel_rfl) (by kernel_rfl) (by kernel_rfl) (by kernel_rfl) (fun _ _ _ h => h) hS (fun _ => trivial) (Or.inl ⟨by rfl, ?hy⟩) ?_
  case hy => intro w hSw; first | (go_simp; done) | (go_simp; with_reducible rfl)
  try simp only [Act.put, List.setIfInBounds_toArray, List.set_cons_zero, List.set_cons_succ, List.getElem_toArray, List.getElem_cons_zero, List.getElem_cons_succ]
  refine wpAny2_take (i := 13) (oi := _) (v := ?_) rfl (by decide) (by kernel_rfl) (by kernel_rfl) (by kernel_rfl) (by kernel_rfl) (fun _ _ _ h => h) hS (fun _ => trivial) (Or.inl ⟨by rfl, ?hy⟩) ?_
  case hy => intro w hSw; first | (go_simp; done) | (go_simp; with_reducible rfl)
  try simp only [Act.put, List.setIfInBounds_toArray, List.set_cons_zero, List.set_cons_succ, List.getElem_toArray, List.getElem_cons_zero, List.getElem_cons_succ]
  refine wpAny2_take (i := 14) (oi := _) (v := ?_) rfl (by decide) (by kernel_rfl) (by kernel_rfl) (by kernel_rfl) (by kernel_rfl) (fun _ _ _ h => h) hS (fun _ => trivial) (Or.inl ⟨by rfl, ?hy⟩) ?_
  case hy => intro w hSw; first | (go_simp; done) | (go_simp; with_reducible rfl)
  try simp only [Act.put, List.setIfInBounds_toArray, List.set_cons_zero, List.set_cons_succ, List.getElem_toArray, List.getElem_cons_zero, List.getElem_cons_succ]
  refine wpAny2_take (i := 15) (oi := _) (v := ?_) rfl (by decide) (by kernel_rfl) (by kernel_rfl) (by kernel_rfl) (by kernel_rfl) (fun _ _ _ h => h) hS (fun _ => trivial) (Or.inl ⟨by rfl, ?hy⟩) ?_
  case hy => intro w hSw; first | (go_simp; done) | (go_simp; with_reducible rfl)
  try simp only [Act.put, List.setIfInBounds_toArray, List.set_cons_zero, List.set_cons_succ, List.getElem_toArray, List.getElem_cons_zero, List.getElem_cons_succ]
  refine wpAny2_one (i := 11) (o := _) (by kernel_rfl) rfl (fun K_ hK => ?_)
  go_simp
  go_at_call 13
  refine (ticksOf_any (allKn w15.drew) _ _ HV15.out (by have := hrl; omega) w15.drew (allKn_in w15.drew)).mono ?_
  rintro r w16 ⟨vt16, K16, rfl, hv16, hst16⟩
  have HB16 := Lib.hid (HBE.out.trans (hst16.below.mono HBE.out.size))
  have HP16 := Lib.hid ((hst16.below.block w.heap.size (Array.getElem?_eq_some_iff.1 HPE.out).1).trans HPE.out)
  have HVT := Lib.hid (TksV.le (kn_le_all (allKn_below hst16.below)) HVT.out)
  have HT16 := Lib.hid (TksV.le (kn_le_all hst16.isin) hv16)
  have hS16 := hS.below hst16.below
  clear hv16 hst16
  refine hK.out _ _ (hS16) (fun _ => trivial) ?_
  clear hK K_
  try simp only [Act.put, List.setIfInBounds_toArray, List.set_cons_zero, List.set_cons_succ, List.getElem_toArray, List.getElem_cons_zero, List.getElem_cons_succ]
  refine wpAny2_one (i := 16) (o := _) (by kernel_rfl) rfl (fun K_ hK => ?_)
  go_simp
  go_at_call 13
  refine (ticksOf_any (allKn w16) _ _ HVT.out (by have := hrl; omega) w16 (allKn_in w16)).mono ?_
  rintro r w17 ⟨vt17, K17, rfl, hv17, hst17⟩
  have HB17 := Lib.hid (HB16.out.trans (hst17.below.mono HB16.out.size))
  have HP17 := Lib.hid ((hst17.below.block w.heap.size (Array.getElem?_eq_some_iff.1 HP16.out).1).trans HP16.out)
  have HT16 := Lib.hid (TksV.le (kn_le_all (allKn_below hst17.below)) HT16.out)
  have HT17 := Lib.hid (TksV.le (kn_le_all hst17.isin) hv17)
  have hS17 := hS16.below hst17.below
  clear hv17 hst17
  refine hK.out _ _ (hS17) (fun _ => trivial) ?_
  clear hK K_
  try simp only [Act.put, List.setIfInBounds_toArray, List.set_cons_zero, List.set_cons_succ, List.getElem_toArray, List.getElem_cons_zero, List.getElem_cons_succ]
  refine wpAny2_one (i := 17) (o := _) (by kernel_rfl) rfl (fun K_ hK => ?_)
  go_simp
  go_at_call 12
  refine (sameTicks_any (allKn w17) _ _ _ HT16.out HT17.out ⟨by have := hrl; omega, ZT.out _ _ _⟩ w17 (allKn_in w17)).mono ?_
  rintro r w18 ⟨rfl, hb18⟩
  have HB18 := Lib.hid (HB17.out.trans (hb18.mono HB17.out.size))
  have HP18 := Lib.hid ((hb18.block w.heap.size (Array.getElem?_eq_some_iff.1 HP17.out).1).trans HP17.out)
  have hS18 := hS17.below hb18
  refine hK.out _ _ (hS18) (fun _ => trivial) ?_
  clear hK K_
  try simp only [Act.put, List.setIfInBounds_toArray, List.set_cons_zero, List.set_cons_succ, List.getElem_toArray, List.getElem_cons_zero, List.getElem_cons_succ]
  refine wpAny2_take (i := 18) (oi := _) (v := ?_) rfl (by decide) (by kernel_rfl) (by kernel_rfl) (by kernel_rfl) (by kernel_rfl) (fun _ _ _ h => h) hS18 (fun _ => trivial) (Or.inl ⟨by rfl, ?hy⟩) ?_
  case hy => intro w hSw; first | (go_simp; done) | (go_simp; with_reducible rfl)
  try simp only [Act.put, List.setIfInBounds_toArray, List.set_cons_zero, List.set_cons_succ, List.getElem_toArray, List.getElem_cons_zero, List.getElem_cons_succ]
  refine wpAny2_take (i := 19) (oi := _) (v := ?_) rfl (by decide) (by kernel_rfl) (by kernel_rfl) (by kernel_rfl) (by kernel_rfl) (fun _ _ _ h => h) hS18 (fun _ => trivial) (Or.inl ⟨by rfl, ?hy⟩) ?_
  case hy => intro w hSw; first | (go_simp; done) | (go_simp; with_reducible rfl)
  try simp only [Act.put, List.setIfInBounds_toArray, List.set_cons_zero, List.set_cons_succ, List.getElem_toArray, List.getElem_cons_zero, List.getElem_cons_succ]
  refine wpAny2_done (by kernel_rfl) ?_ _
  go_wp2_with fail
  go_ret
  exact ⟨rfl, HB18.out⟩
end Go.Proofs.YtgpdagkoampipaaDoor
