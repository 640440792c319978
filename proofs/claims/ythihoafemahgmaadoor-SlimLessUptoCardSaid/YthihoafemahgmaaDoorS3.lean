/- Walks: lustrumlaw2.SlimLess. (Printed by gen_s3.py.) -/
import Derived.Test.YthihoafemahgmaaDoorBare
import Derived.Test.YthihoafemahgmaaDoorFod
import Derived.Test.YthihoafemahgmaaDoorSqA
import Derived.Test.YthihoafemahgmaaDoorEof
import Derived.Test.YthihoafemahgmaaDoorGof
namespace Go.Proofs.YthihoafemahgmaaDoor
open Go.RowKit Mx
theorem chk_sz {q : Pr} (hck : checkFlat q = 0) (ho : q.outs.length ≤ 1048576) : (q.ins.length ≤ 1000000 ∧ q.fl.length ≤ 1000000 ∧ q.outs.length ≤ 100000000000 ∧ q.as.length ≤ 1000000 ∧ q.cs.length ≤ 1000000) ∧ Ex.partsL q.terms ≤ 1000000000 := by
  obtain ⟨ks, _, _, _, h1, h2, h3, _⟩ := check_zero hck
  have h4 := len_partsL q.terms
  have h5 : q.terms.length = q.fl.length + q.as.length + q.cs.length := by simp only [Pr.terms, List.length_append, List.length_map]
  exact ⟨⟨by omega, by omega, by omega, by omega, by omega⟩, by omega⟩
set_option maxHeartbeats 16000000 in
set_option maxRecDepth 100000 in
theorem slimLess_any (H : Kn) (T : LevelsAt H) (sp : Nat → Addr) (p : Pr) (vi vo vl va vc : Value) (hp : PrP H p vi vo vl va vc) (hsz : p.ins.length ≤ 1048576 ∧ p.outs.length ≤ 1048576 ∧ Ex.weightL p.terms ≤ 1048576) (w : World) (hH : H.In w) (S : Sen5 w sp) :
    Calls Tryd.prog 3 #[.agg #[vi, vo, vl, va, vc]] w fun r w' => r = .returned (.bool true) ∧ Below w.heap.size w w' := by
  obtain ⟨zz1, zz2, zz3⟩ := hsz
  have hle : ∀ w1, Below w.heap.size w w1 → LevelsAt (allKn w1) := fun w1 hb => T.le (kn_le_all (hH.below hb))
  have HLE := Lib.hid hle
  have hpl := partsL_le_weightL p.terms
  have hlw : p.fl.length + p.as.length + p.cs.length ≤ Ex.weightL p.terms := by
    have h := len_weightL p.terms
    have h2 : p.terms.length = p.fl.length + p.as.length + p.cs.length := by simp only [Pr.terms, List.length_append, List.length_map]
    omega
  clear hle
  have HP := Lib.hid hp
  obtain ⟨h1, h2, h3, h4, h5⟩ := hp
  obtain ⟨ai, ci, rfl⟩ := h1.len
  obtain ⟨ao, co, rfl⟩ := h2.len
  obtain ⟨al, cl, rfl⟩ := h3.len
  obtain ⟨aa, ca, rfl⟩ := h4.len
  obtain ⟨ac, cc, rfl⟩ := h5.len
  clear h1 h2 h3 h4 h5
  have hP0 := heap_alloc_new w (.cells #[.slice ai p.ins.length ci, .slice ao p.outs.length co, .slice al p.fl.length cl, .slice aa p.as.length ca, .slice ac p.cs.length cc] 27)
  have hb0 : Below w.heap.size w (w.alloc (.cells #[.slice ai p.ins.length ci, .slice ao p.outs.length co, .slice al p.fl.length cl, .slice aa p.as.length ca, .slice ac p.cs.length cc] 27)) := (Below.refl _ _).alloc (Nat.le_refl _) _
  have HB0 := Lib.hid hb0
  have HP0 := Lib.hid hP0
  clear hP0 hb0
  go_enter Tryd.func3, Tryd.ntmps3
  go_wp2_with fail
  generalize w.alloc (.cells #[.slice ai p.ins.length ci, .slice ao p.outs.length co, .slice al p.fl.length cl, .slice aa p.as.length ca, .slice ac p.cs.length cc] 27) = W1 at *
  refine (thin_any H T sp W1 (hH.below HB0.out) (S.below HB0.out)).mono ?_
  rintro r w1 ⟨rfl, hb1⟩
  have HB1 := Lib.hid (HB0.out.trans (hb1.mono HB0.out.size))
  have HP1 := Lib.hid ((hb1.block w.heap.size (Array.getElem?_eq_some_iff.1 HP0.out).1).trans HP0.out)
  have m0 : w1.cell? ⟨w.heap.size, 0, none⟩ = some (.slice ai p.ins.length ci) := by have h := HP1.out; simp [World.cell?, h]
  have m1 : w1.cell? ⟨w.heap.size, 1, none⟩ = some (.slice ao p.outs.length co) := by have h := HP1.out; simp [World.cell?, h]
  have m2 : w1.cell? ⟨w.heap.size, 2, none⟩ = some (.slice al p.fl.length cl) := by have h := HP1.out; simp [World.cell?, h]
  have m3 : w1.cell? ⟨w.heap.size, 3, none⟩ = some (.slice aa p.as.length ca) := by have h := HP1.out; simp [World.cell?, h]
  have m4 : w1.cell? ⟨w.heap.size, 4, none⟩ = some (.slice ac p.cs.length cc) := by have h := HP1.out; simp [World.cell?, h]
  go_wp2_with fail
  refine (heavy_any H p _ _ _ _ _ HP.out ⟨by omega, by omega, by omega⟩ w1 (hH.below HB1.out)).mono ?_
  rintro r w2 ⟨rfl, hb2⟩
  have HB2 := Lib.hid (HB1.out.trans (hb2.mono HB1.out.size))
  have HP2 := Lib.hid ((hb2.block w.heap.size (Array.getElem?_eq_some_iff.1 HP1.out).1).trans HP1.out)
  clear m0 m1 m2 m3 m4
  have m0 : w2.cell? ⟨w.heap.size, 0, none⟩ = some (.slice ai p.ins.length ci) := by have h := HP2.out; simp [World.cell?, h]
  have m1 : w2.cell? ⟨w.heap.size, 1, none⟩ = some (.slice ao p.outs.length co) := by have h := HP2.out; simp [World.cell?, h]
  have m2 : w2.cell? ⟨w.heap.size, 2, none⟩ = some (.slice al p.fl.length cl) := by have h := HP2.out; simp [World.cell?, h]
  have m3 : w2.cell? ⟨w.heap.size, 3, none⟩ = some (.slice aa p.as.length ca) := by have h := HP2.out; simp [World.cell?, h]
  have m4 : w2.cell? ⟨w.heap.size, 4, none⟩ = some (.slice ac p.cs.length cc) := by have h := HP2.out; simp [World.cell?, h]
  unfold heavyI
  by_cases hh : heavy p = true
  · rw [if_pos hh]
    go_wp2_with fail
    go_ret
    exact ⟨rfl, HB2.out⟩
  rw [if_neg hh]
  obtain ⟨y1, y2, y3⟩ : Ex.weightL p.terms ≤ 1500 ∧ p.fl.length ≤ 100 ∧ p.ins.length ≤ 40 := by
    unfold heavy at hh
    simp only [Bool.or_eq_true, decide_eq_true_eq, not_or, Nat.not_lt] at hh
    exact ⟨hh.1.1, hh.1.2, hh.2⟩
  clear hh
  have hpt : Ex.partsL p.terms ≤ 1000000 := by omega
  go_wp2_with fail
  refine (flatOf_any p _ _ _ _ _ H HP.out ⟨by omega, by omega, by omega, by omega⟩ _ (hH.below HB2.out)).mono ?_
  rintro r w3 ⟨vi3, vo3, vl3, va3, vc3, K3, rfl, hp3, hst3⟩
  have HB3 := Lib.hid (HB2.out.trans (hst3.below.mono HB2.out.size))
  have HP3 := Lib.hid ((hst3.below.block w.heap.size (Array.getElem?_eq_some_iff.1 HP2.out).1).trans HP2.out)
  have HQ3 := Lib.hid (hp3.le (kn_le_all hst3.isin))
  clear hp3 hst3
  clear m0 m1 m2 m3 m4
  have m0 : w3.cell? ⟨w.heap.size, 0, none⟩ = some (.slice ai p.ins.length ci) := by have h := HP3.out; simp [World.cell?, h]
  have m1 : w3.cell? ⟨w.heap.size, 1, none⟩ = some (.slice ao p.outs.length co) := by have h := HP3.out; simp [World.cell?, h]
  have m2 : w3.cell? ⟨w.heap.size, 2, none⟩ = some (.slice al p.fl.length cl) := by have h := HP3.out; simp [World.cell?, h]
  have m3 : w3.cell? ⟨w.heap.size, 3, none⟩ = some (.slice aa p.as.length ca) := by have h := HP3.out; simp [World.cell?, h]
  have m4 : w3.cell? ⟨w.heap.size, 4, none⟩ = some (.slice ac p.cs.length cc) := by have h := HP3.out; simp [World.cell?, h]
  go_wp2_with fail
  refine (drop_any (allKn w3) (HLE.out _ HB3.out) sp p _ _ _ _ _ HQ3.out ⟨by omega, by omega, by omega, by omega, by omega, by omega, drop_sz (by omega) (by omega) (by omega)⟩ (any_hpick p) w3 (allKn_in w3) (S.below HB3.out)).mono ?_
  rintro r w4 ⟨hb4, hpost⟩
  have HB4 := Lib.hid (HB3.out.trans (hb4.mono HB3.out.size))
  have HP4 := Lib.hid ((hb4.block w.heap.size (Array.getElem?_eq_some_iff.1 HP3.out).1).trans HP3.out)
  clear HQ3
  clear m0 m1 m2 m3 m4
  have m0 : w4.cell? ⟨w.heap.size, 0, none⟩ = some (.slice ai p.ins.length ci) := by have h := HP4.out; simp [World.cell?, h]
  have m1 : w4.cell? ⟨w.heap.size, 1, none⟩ = some (.slice ao p.outs.length co) := by have h := HP4.out; simp [World.cell?, h]
  have m2 : w4.cell? ⟨w.heap.size, 2, none⟩ = some (.slice al p.fl.length cl) := by have h := HP4.out; simp [World.cell?, h]
  have m3 : w4.cell? ⟨w.heap.size, 3, none⟩ = some (.slice aa p.as.length ca) := by have h := HP4.out; simp [World.cell?, h]
  have m4 : w4.cell? ⟨w.heap.size, 4, none⟩ = some (.slice ac p.cs.length cc) := by have h := HP4.out; simp [World.cell?, h]
  by_cases hc0 : (checkM p).1 = 0
  case neg =>
    rcases hpost with ⟨h, _⟩ | ⟨_, ty5, pv5, rfl⟩
    case inl => exact absurd h hc0
    have hbx := (Below.refl w4.heap.size w4).alloc (Nat.le_refl _) (.cells #[.slice none 0 0, .slice none 0 0, .slice none 0 0, .slice none 0 0, .slice none 0 0] 34)
    have HZA := Lib.hid (heap_alloc_new w4 (.cells #[.slice none 0 0, .slice none 0 0, .slice none 0 0, .slice none 0 0, .slice none 0 0] 34))
    obtain ⟨w5, hw5⟩ : ∃ w5, w5 = w4.alloc (.cells #[.slice none 0 0, .slice none 0 0, .slice none 0 0, .slice none 0 0, .slice none 0 0] 34) := ⟨_, rfl⟩
    rw [← hw5] at hbx HZA
    have HB5 := Lib.hid (HB4.out.trans (hbx.mono HB4.out.size))
    have HP5 := Lib.hid ((hbx.block w.heap.size (Array.getElem?_eq_some_iff.1 HP4.out).1).trans HP4.out)
    clear hbx
    go_upto_region 5 with (fail)
    rw [← hw5]
    clear hw5 HZA
    clear m0 m1 m2 m3 m4
    have m0 : w5.cell? ⟨w.heap.size, 0, none⟩ = some (.slice ai p.ins.length ci) := by have h := HP5.out; simp [World.cell?, h]
    have m1 : w5.cell? ⟨w.heap.size, 1, none⟩ = some (.slice ao p.outs.length co) := by have h := HP5.out; simp [World.cell?, h]
    have m2 : w5.cell? ⟨w.heap.size, 2, none⟩ = some (.slice al p.fl.length cl) := by have h := HP5.out; simp [World.cell?, h]
    have m3 : w5.cell? ⟨w.heap.size, 3, none⟩ = some (.slice aa p.as.length ca) := by have h := HP5.out; simp [World.cell?, h]
    have m4 : w5.cell? ⟨w.heap.size, 4, none⟩ = some (.slice ac p.cs.length cc) := by have h := HP5.out; simp [World.cell?, h]
    go_wp2_with fail
    refine (flatOf_any p _ _ _ _ _ H HP.out ⟨by omega, by omega, by omega, by omega⟩ _ (hH.below HB5.out)).mono ?_
    rintro r w6 ⟨vi6, vo6, vl6, va6, vc6, K6, rfl, hp6, hst6⟩
    have HB6 := Lib.hid (HB5.out.trans (hst6.below.mono HB5.out.size))
    have HP6 := Lib.hid ((hst6.below.block w.heap.size (Array.getElem?_eq_some_iff.1 HP5.out).1).trans HP5.out)
    have HQ6 := Lib.hid (hp6.le (kn_le_all hst6.isin))
    clear hp6 hst6
    clear m0 m1 m2 m3 m4
    have m0 : w6.cell? ⟨w.heap.size, 0, none⟩ = some (.slice ai p.ins.length ci) := by have h := HP6.out; simp [World.cell?, h]
    have m1 : w6.cell? ⟨w.heap.size, 1, none⟩ = some (.slice ao p.outs.length co) := by have h := HP6.out; simp [World.cell?, h]
    have m2 : w6.cell? ⟨w.heap.size, 2, none⟩ = some (.slice al p.fl.length cl) := by have h := HP6.out; simp [World.cell?, h]
    have m3 : w6.cell? ⟨w.heap.size, 3, none⟩ = some (.slice aa p.as.length ca) := by have h := HP6.out; simp [World.cell?, h]
    have m4 : w6.cell? ⟨w.heap.size, 4, none⟩ = some (.slice ac p.cs.length cc) := by have h := HP6.out; simp [World.cell?, h]
    go_wp2_with fail
    refine (same_any (allKn w6) (HLE.out _ HB6.out) sp p _ _ _ _ _ HQ6.out ⟨by omega, by omega, by omega, by omega, by omega, by omega⟩ (any_hpick p) w6 (allKn_in w6) (S.below HB6.out)).mono ?_
    rintro r w7 ⟨hb7, hpost⟩
    have HB7 := Lib.hid (HB6.out.trans (hb7.mono HB6.out.size))
    have HP7 := Lib.hid ((hb7.block w.heap.size (Array.getElem?_eq_some_iff.1 HP6.out).1).trans HP6.out)
    clear HQ6
    clear m0 m1 m2 m3 m4
    have m0 : w7.cell? ⟨w.heap.size, 0, none⟩ = some (.slice ai p.ins.length ci) := by have h := HP7.out; simp [World.cell?, h]
    have m1 : w7.cell? ⟨w.heap.size, 1, none⟩ = some (.slice ao p.outs.length co) := by have h := HP7.out; simp [World.cell?, h]
    have m2 : w7.cell? ⟨w.heap.size, 2, none⟩ = some (.slice al p.fl.length cl) := by have h := HP7.out; simp [World.cell?, h]
    have m3 : w7.cell? ⟨w.heap.size, 3, none⟩ = some (.slice aa p.as.length ca) := by have h := HP7.out; simp [World.cell?, h]
    have m4 : w7.cell? ⟨w.heap.size, 4, none⟩ = some (.slice ac p.cs.length cc) := by have h := HP7.out; simp [World.cell?, h]
    rcases hpost with ⟨h, _⟩ | ⟨_, ty8, pv8, rfl⟩
    case inl => exact absurd h hc0
    have hbx := (Below.refl w7.heap.size w7).alloc (Nat.le_refl _) (.cells #[.slice none 0 0, .slice none 0 0, .slice none 0 0, .slice none 0 0, .slice none 0 0] 34)
    have HZB := Lib.hid (heap_alloc_new w7 (.cells #[.slice none 0 0, .slice none 0 0, .slice none 0 0, .slice none 0 0, .slice none 0 0] 34))
    obtain ⟨w8, hw8⟩ : ∃ w8, w8 = w7.alloc (.cells #[.slice none 0 0, .slice none 0 0, .slice none 0 0, .slice none 0 0, .slice none 0 0] 34) := ⟨_, rfl⟩
    rw [← hw8] at hbx HZB
    have HB8 := Lib.hid (HB7.out.trans (hbx.mono HB7.out.size))
    have HP8 := Lib.hid ((hbx.block w.heap.size (Array.getElem?_eq_some_iff.1 HP7.out).1).trans HP7.out)
    clear hbx
    go_upto_region 6 with (fail)
    rw [← hw8]
    clear hw8 HZB
    clear m0 m1 m2 m3 m4
    have m0 : w8.cell? ⟨w.heap.size, 0, none⟩ = some (.slice ai p.ins.length ci) := by have h := HP8.out; simp [World.cell?, h]
    have m1 : w8.cell? ⟨w.heap.size, 1, none⟩ = some (.slice ao p.outs.length co) := by have h := HP8.out; simp [World.cell?, h]
    have m2 : w8.cell? ⟨w.heap.size, 2, none⟩ = some (.slice al p.fl.length cl) := by have h := HP8.out; simp [World.cell?, h]
    have m3 : w8.cell? ⟨w.heap.size, 3, none⟩ = some (.slice aa p.as.length ca) := by have h := HP8.out; simp [World.cell?, h]
    have m4 : w8.cell? ⟨w.heap.size, 4, none⟩ = some (.slice ac p.cs.length cc) := by have h := HP8.out; simp [World.cell?, h]
    go_wp2_with fail
    refine (flatOf_any p _ _ _ _ _ H HP.out ⟨by omega, by omega, by omega, by omega⟩ _ (hH.below HB8.out)).mono ?_
    rintro r w9 ⟨vi9, vo9, vl9, va9, vc9, K9, rfl, hp9, hst9⟩
    have HB9 := Lib.hid (HB8.out.trans (hst9.below.mono HB8.out.size))
    have HP9 := Lib.hid ((hst9.below.block w.heap.size (Array.getElem?_eq_some_iff.1 HP8.out).1).trans HP8.out)
    have HQ9 := Lib.hid (hp9.le (kn_le_all hst9.isin))
    clear hp9 hst9
    clear m0 m1 m2 m3 m4
    have m0 : w9.cell? ⟨w.heap.size, 0, none⟩ = some (.slice ai p.ins.length ci) := by have h := HP9.out; simp [World.cell?, h]
    have m1 : w9.cell? ⟨w.heap.size, 1, none⟩ = some (.slice ao p.outs.length co) := by have h := HP9.out; simp [World.cell?, h]
    have m2 : w9.cell? ⟨w.heap.size, 2, none⟩ = some (.slice al p.fl.length cl) := by have h := HP9.out; simp [World.cell?, h]
    have m3 : w9.cell? ⟨w.heap.size, 3, none⟩ = some (.slice aa p.as.length ca) := by have h := HP9.out; simp [World.cell?, h]
    have m4 : w9.cell? ⟨w.heap.size, 4, none⟩ = some (.slice ac p.cs.length cc) := by have h := HP9.out; simp [World.cell?, h]
    go_wp2_with fail
    refine (foldP_any (allKn w9) (HLE.out _ HB9.out) sp p _ _ _ _ _ HQ9.out ⟨by omega, by omega, by omega, by omega, by omega, by omega⟩ (any_hpick p) w9 (allKn_in w9) (S.below HB9.out)).mono ?_
    rintro r w10 ⟨hb10, hpost⟩
    have HB10 := Lib.hid (HB9.out.trans (hb10.mono HB9.out.size))
    have HP10 := Lib.hid ((hb10.block w.heap.size (Array.getElem?_eq_some_iff.1 HP9.out).1).trans HP9.out)
    clear HQ9
    clear m0 m1 m2 m3 m4
    have m0 : w10.cell? ⟨w.heap.size, 0, none⟩ = some (.slice ai p.ins.length ci) := by have h := HP10.out; simp [World.cell?, h]
    have m1 : w10.cell? ⟨w.heap.size, 1, none⟩ = some (.slice ao p.outs.length co) := by have h := HP10.out; simp [World.cell?, h]
    have m2 : w10.cell? ⟨w.heap.size, 2, none⟩ = some (.slice al p.fl.length cl) := by have h := HP10.out; simp [World.cell?, h]
    have m3 : w10.cell? ⟨w.heap.size, 3, none⟩ = some (.slice aa p.as.length ca) := by have h := HP10.out; simp [World.cell?, h]
    have m4 : w10.cell? ⟨w.heap.size, 4, none⟩ = some (.slice ac p.cs.length cc) := by have h := HP10.out; simp [World.cell?, h]
    rcases hpost with ⟨h, _⟩ | ⟨_, ty11, pv11, rfl⟩
    case inl => exact absurd h hc0
    have HBE := Lib.hid (HB10.out.trans (((Below.refl w10.heap.size w10).alloc (Nat.le_refl _) (.cells #[.slice none 0 0, .slice none 0 0, .slice none 0 0, .slice none 0 0, .slice none 0 0] 34)).mono HB10.out.size))
    clear m0 m1 m2 m3 m4
    go_wp2_with fail
    go_ret
    exact ⟨rfl, HBE.out⟩
  case pos =>
    have HC0 := Lib.hid hc0
    have hck : checkFlat p = 0 := by
      obtain ⟨l, ho, _⟩ := checkM_zero hc0
      exact (orderM_low ho).1
    have hdk : checkFlat (dropM p) = 0 := keep_check (drop_keeps (names_nd hck)) hck
    obtain ⟨_, _, hd3⟩ := drop_right hc0
    obtain ⟨hsk, hs1, hs2, hs3⟩ := same_check hck
    obtain ⟨hfk, hf1⟩ := fold_check hck
    have HDK := Lib.hid hdk
    have HSK := Lib.hid hsk
    have HFK := Lib.hid hfk
    have HD3 := Lib.hid hd3
    have HS1 := Lib.hid hs1
    have HF1 := Lib.hid hf1
    clear hc0 hck hdk hsk hfk hd3 hs1 hs2 hs3 hf1
    rw [checkM_at0 HC0.out] at hpost
    rcases hpost with ⟨_, u1, u2, u3, u4, u5, K4, rfl, hpr, hK4, _⟩ | ⟨h, _⟩
    case inr => rcases h with h | h <;> exact absurd rfl h
    have hpr := hpr.le (kn_le_all hK4)
    obtain ⟨b1, eb1, rfl⟩ := hpr.ins.len
    obtain ⟨b2, eb2, rfl⟩ := hpr.outs.len
    obtain ⟨b3, eb3, rfl⟩ := hpr.fl.len
    obtain ⟨b4, eb4, rfl⟩ := hpr.asr.len
    obtain ⟨b5, eb5, rfl⟩ := hpr.chk.len
    have HA := Lib.hid hpr
    clear hpr hK4
    have hbx := (Below.refl w4.heap.size w4).alloc (Nat.le_refl _) (.cells #[.slice b1 (dropM p).ins.length eb1, .slice b2 (dropM p).outs.length eb2, .slice b3 (dropM p).fl.length eb3, .slice b4 (dropM p).as.length eb4, .slice b5 (dropM p).cs.length eb5] 34)
    have HBA := Lib.hid (heap_alloc_new w4 (.cells #[.slice b1 (dropM p).ins.length eb1, .slice b2 (dropM p).outs.length eb2, .slice b3 (dropM p).fl.length eb3, .slice b4 (dropM p).as.length eb4, .slice b5 (dropM p).cs.length eb5] 34))
    obtain ⟨w5, hw5⟩ : ∃ w5, w5 = w4.alloc (.cells #[.slice b1 (dropM p).ins.length eb1, .slice b2 (dropM p).outs.length eb2, .slice b3 (dropM p).fl.length eb3, .slice b4 (dropM p).as.length eb4, .slice b5 (dropM p).cs.length eb5] 34) := ⟨_, rfl⟩
    rw [← hw5] at hbx HBA
    have HB5 := Lib.hid (HB4.out.trans (hbx.mono HB4.out.size))
    have HP5 := Lib.hid ((hbx.block w.heap.size (Array.getElem?_eq_some_iff.1 HP4.out).1).trans HP4.out)
    have HA := Lib.hid (HA.out.le (kn_le_all (allKn_below hbx)))
    clear hbx
    go_upto_region 5 with (fail)
    rw [← hw5]
    obtain ⟨HBAn, hHBAn⟩ : ∃ HBAn, HBAn = w4.heap.size := ⟨_, rfl⟩
    rw [← hHBAn] at HBA ⊢
    clear hw5 hHBAn
    clear m0 m1 m2 m3 m4
    have m0 : w5.cell? ⟨w.heap.size, 0, none⟩ = some (.slice ai p.ins.length ci) := by have h := HP5.out; simp [World.cell?, h]
    have m1 : w5.cell? ⟨w.heap.size, 1, none⟩ = some (.slice ao p.outs.length co) := by have h := HP5.out; simp [World.cell?, h]
    have m2 : w5.cell? ⟨w.heap.size, 2, none⟩ = some (.slice al p.fl.length cl) := by have h := HP5.out; simp [World.cell?, h]
    have m3 : w5.cell? ⟨w.heap.size, 3, none⟩ = some (.slice aa p.as.length ca) := by have h := HP5.out; simp [World.cell?, h]
    have m4 : w5.cell? ⟨w.heap.size, 4, none⟩ = some (.slice ac p.cs.length cc) := by have h := HP5.out; simp [World.cell?, h]
    go_wp2_with fail
    refine (flatOf_any p _ _ _ _ _ H HP.out ⟨by omega, by omega, by omega, by omega⟩ _ (hH.below HB5.out)).mono ?_
    rintro r w6 ⟨vi6, vo6, vl6, va6, vc6, K6, rfl, hp6, hst6⟩
    have HB6 := Lib.hid (HB5.out.trans (hst6.below.mono HB5.out.size))
    have HP6 := Lib.hid ((hst6.below.block w.heap.size (Array.getElem?_eq_some_iff.1 HP5.out).1).trans HP5.out)
    have HA := Lib.hid (HA.out.le (kn_le_all (allKn_below hst6.below)))
    have HBA := Lib.hid ((hst6.below.block _ (Array.getElem?_eq_some_iff.1 HBA.out).1).trans HBA.out)
    have HQ6 := Lib.hid (hp6.le (kn_le_all hst6.isin))
    clear hp6 hst6
    clear m0 m1 m2 m3 m4
    have m0 : w6.cell? ⟨w.heap.size, 0, none⟩ = some (.slice ai p.ins.length ci) := by have h := HP6.out; simp [World.cell?, h]
    have m1 : w6.cell? ⟨w.heap.size, 1, none⟩ = some (.slice ao p.outs.length co) := by have h := HP6.out; simp [World.cell?, h]
    have m2 : w6.cell? ⟨w.heap.size, 2, none⟩ = some (.slice al p.fl.length cl) := by have h := HP6.out; simp [World.cell?, h]
    have m3 : w6.cell? ⟨w.heap.size, 3, none⟩ = some (.slice aa p.as.length ca) := by have h := HP6.out; simp [World.cell?, h]
    have m4 : w6.cell? ⟨w.heap.size, 4, none⟩ = some (.slice ac p.cs.length cc) := by have h := HP6.out; simp [World.cell?, h]
    go_wp2_with fail
    refine (same_any (allKn w6) (HLE.out _ HB6.out) sp p _ _ _ _ _ HQ6.out ⟨by omega, by omega, by omega, by omega, by omega, by omega⟩ (any_hpick p) w6 (allKn_in w6) (S.below HB6.out)).mono ?_
    rintro r w7 ⟨hb7, hpost⟩
    have HB7 := Lib.hid (HB6.out.trans (hb7.mono HB6.out.size))
    have HP7 := Lib.hid ((hb7.block w.heap.size (Array.getElem?_eq_some_iff.1 HP6.out).1).trans HP6.out)
    have HA := Lib.hid (HA.out.le (kn_le_all (allKn_below hb7)))
    have HBA := Lib.hid ((hb7.block _ (Array.getElem?_eq_some_iff.1 HBA.out).1).trans HBA.out)
    clear HQ6
    clear m0 m1 m2 m3 m4
    have m0 : w7.cell? ⟨w.heap.size, 0, none⟩ = some (.slice ai p.ins.length ci) := by have h := HP7.out; simp [World.cell?, h]
    have m1 : w7.cell? ⟨w.heap.size, 1, none⟩ = some (.slice ao p.outs.length co) := by have h := HP7.out; simp [World.cell?, h]
    have m2 : w7.cell? ⟨w.heap.size, 2, none⟩ = some (.slice al p.fl.length cl) := by have h := HP7.out; simp [World.cell?, h]
    have m3 : w7.cell? ⟨w.heap.size, 3, none⟩ = some (.slice aa p.as.length ca) := by have h := HP7.out; simp [World.cell?, h]
    have m4 : w7.cell? ⟨w.heap.size, 4, none⟩ = some (.slice ac p.cs.length cc) := by have h := HP7.out; simp [World.cell?, h]
    rw [checkM_at0 HC0.out] at hpost
    rcases hpost with ⟨_, u1, u2, u3, u4, u5, K7, rfl, hpr, hK7, _⟩ | ⟨h, _⟩
    case inr => rcases h with h | h <;> exact absurd rfl h
    have hpr := hpr.le (kn_le_all hK7)
    obtain ⟨d1, ed1, rfl⟩ := hpr.ins.len
    obtain ⟨d2, ed2, rfl⟩ := hpr.outs.len
    obtain ⟨d3, ed3, rfl⟩ := hpr.fl.len
    obtain ⟨d4, ed4, rfl⟩ := hpr.asr.len
    obtain ⟨d5, ed5, rfl⟩ := hpr.chk.len
    have HN := Lib.hid hpr
    clear hpr hK7
    have hbx := (Below.refl w7.heap.size w7).alloc (Nat.le_refl _) (.cells #[.slice d1 (sameM p).ins.length ed1, .slice d2 (sameM p).outs.length ed2, .slice d3 (sameM p).fl.length ed3, .slice d4 (sameM p).as.length ed4, .slice d5 (sameM p).cs.length ed5] 34)
    have HBB := Lib.hid (heap_alloc_new w7 (.cells #[.slice d1 (sameM p).ins.length ed1, .slice d2 (sameM p).outs.length ed2, .slice d3 (sameM p).fl.length ed3, .slice d4 (sameM p).as.length ed4, .slice d5 (sameM p).cs.length ed5] 34))
    obtain ⟨w8, hw8⟩ : ∃ w8, w8 = w7.alloc (.cells #[.slice d1 (sameM p).ins.length ed1, .slice d2 (sameM p).outs.length ed2, .slice d3 (sameM p).fl.length ed3, .slice d4 (sameM p).as.length ed4, .slice d5 (sameM p).cs.length ed5] 34) := ⟨_, rfl⟩
    rw [← hw8] at hbx HBB
    have HB8 := Lib.hid (HB7.out.trans (hbx.mono HB7.out.size))
    have HP8 := Lib.hid ((hbx.block w.heap.size (Array.getElem?_eq_some_iff.1 HP7.out).1).trans HP7.out)
    have HA := Lib.hid (HA.out.le (kn_le_all (allKn_below hbx)))
    have HBA := Lib.hid ((hbx.block _ (Array.getElem?_eq_some_iff.1 HBA.out).1).trans HBA.out)
    have HN := Lib.hid (HN.out.le (kn_le_all (allKn_below hbx)))
    clear hbx
    go_upto_region 6 with (fail)
    rw [← hw8]
    obtain ⟨HBBn, hHBBn⟩ : ∃ HBBn, HBBn = w7.heap.size := ⟨_, rfl⟩
    rw [← hHBBn] at HBB ⊢
    clear hw8 hHBBn
    clear m0 m1 m2 m3 m4
    have m0 : w8.cell? ⟨w.heap.size, 0, none⟩ = some (.slice ai p.ins.length ci) := by have h := HP8.out; simp [World.cell?, h]
    have m1 : w8.cell? ⟨w.heap.size, 1, none⟩ = some (.slice ao p.outs.length co) := by have h := HP8.out; simp [World.cell?, h]
    have m2 : w8.cell? ⟨w.heap.size, 2, none⟩ = some (.slice al p.fl.length cl) := by have h := HP8.out; simp [World.cell?, h]
    have m3 : w8.cell? ⟨w.heap.size, 3, none⟩ = some (.slice aa p.as.length ca) := by have h := HP8.out; simp [World.cell?, h]
    have m4 : w8.cell? ⟨w.heap.size, 4, none⟩ = some (.slice ac p.cs.length cc) := by have h := HP8.out; simp [World.cell?, h]
    go_wp2_with fail
    refine (flatOf_any p _ _ _ _ _ H HP.out ⟨by omega, by omega, by omega, by omega⟩ _ (hH.below HB8.out)).mono ?_
    rintro r w9 ⟨vi9, vo9, vl9, va9, vc9, K9, rfl, hp9, hst9⟩
    have HB9 := Lib.hid (HB8.out.trans (hst9.below.mono HB8.out.size))
    have HP9 := Lib.hid ((hst9.below.block w.heap.size (Array.getElem?_eq_some_iff.1 HP8.out).1).trans HP8.out)
    have HA := Lib.hid (HA.out.le (kn_le_all (allKn_below hst9.below)))
    have HBA := Lib.hid ((hst9.below.block _ (Array.getElem?_eq_some_iff.1 HBA.out).1).trans HBA.out)
    have HN := Lib.hid (HN.out.le (kn_le_all (allKn_below hst9.below)))
    have HBB := Lib.hid ((hst9.below.block _ (Array.getElem?_eq_some_iff.1 HBB.out).1).trans HBB.out)
    have HQ9 := Lib.hid (hp9.le (kn_le_all hst9.isin))
    clear hp9 hst9
    clear m0 m1 m2 m3 m4
    have m0 : w9.cell? ⟨w.heap.size, 0, none⟩ = some (.slice ai p.ins.length ci) := by have h := HP9.out; simp [World.cell?, h]
    have m1 : w9.cell? ⟨w.heap.size, 1, none⟩ = some (.slice ao p.outs.length co) := by have h := HP9.out; simp [World.cell?, h]
    have m2 : w9.cell? ⟨w.heap.size, 2, none⟩ = some (.slice al p.fl.length cl) := by have h := HP9.out; simp [World.cell?, h]
    have m3 : w9.cell? ⟨w.heap.size, 3, none⟩ = some (.slice aa p.as.length ca) := by have h := HP9.out; simp [World.cell?, h]
    have m4 : w9.cell? ⟨w.heap.size, 4, none⟩ = some (.slice ac p.cs.length cc) := by have h := HP9.out; simp [World.cell?, h]
    go_wp2_with fail
    refine (foldP_any (allKn w9) (HLE.out _ HB9.out) sp p _ _ _ _ _ HQ9.out ⟨by omega, by omega, by omega, by omega, by omega, by omega⟩ (any_hpick p) w9 (allKn_in w9) (S.below HB9.out)).mono ?_
    rintro r w10 ⟨hb10, hpost⟩
    have HB10 := Lib.hid (HB9.out.trans (hb10.mono HB9.out.size))
    have HP10 := Lib.hid ((hb10.block w.heap.size (Array.getElem?_eq_some_iff.1 HP9.out).1).trans HP9.out)
    have HA := Lib.hid (HA.out.le (kn_le_all (allKn_below hb10)))
    have HBA := Lib.hid ((hb10.block _ (Array.getElem?_eq_some_iff.1 HBA.out).1).trans HBA.out)
    have HN := Lib.hid (HN.out.le (kn_le_all (allKn_below hb10)))
    have HBB := Lib.hid ((hb10.block _ (Array.getElem?_eq_some_iff.1 HBB.out).1).trans HBB.out)
    clear HQ9
    clear m0 m1 m2 m3 m4
    have m0 : w10.cell? ⟨w.heap.size, 0, none⟩ = some (.slice ai p.ins.length ci) := by have h := HP10.out; simp [World.cell?, h]
    have m1 : w10.cell? ⟨w.heap.size, 1, none⟩ = some (.slice ao p.outs.length co) := by have h := HP10.out; simp [World.cell?, h]
    have m2 : w10.cell? ⟨w.heap.size, 2, none⟩ = some (.slice al p.fl.length cl) := by have h := HP10.out; simp [World.cell?, h]
    have m3 : w10.cell? ⟨w.heap.size, 3, none⟩ = some (.slice aa p.as.length ca) := by have h := HP10.out; simp [World.cell?, h]
    have m4 : w10.cell? ⟨w.heap.size, 4, none⟩ = some (.slice ac p.cs.length cc) := by have h := HP10.out; simp [World.cell?, h]
    rw [checkM_at0 HC0.out] at hpost
    rcases hpost with ⟨_, u1, u2, u3, u4, u5, K10, rfl, hpr, hK10, _⟩ | ⟨h, _⟩
    case inr => rcases h with h | h <;> exact absurd rfl h
    have hpr := hpr.le (kn_le_all hK10)
    obtain ⟨g1, eg1, rfl⟩ := hpr.ins.len
    obtain ⟨g2, eg2, rfl⟩ := hpr.outs.len
    obtain ⟨g3, eg3, rfl⟩ := hpr.fl.len
    obtain ⟨g4, eg4, rfl⟩ := hpr.asr.len
    obtain ⟨g5, eg5, rfl⟩ := hpr.chk.len
    rw [HF1.out] at hpr ⊢
    have HO := Lib.hid hpr
    clear hpr hK10
    have hbx := (Below.refl w10.heap.size w10).alloc (Nat.le_refl _) (.cells #[.slice g1 (foldM p).ins.length eg1, .slice g2 (foldM p).outs.length eg2, .slice g3 p.fl.length eg3, .slice g4 (foldM p).as.length eg4, .slice g5 (foldM p).cs.length eg5] 34)
    have HBC := Lib.hid (heap_alloc_new w10 (.cells #[.slice g1 (foldM p).ins.length eg1, .slice g2 (foldM p).outs.length eg2, .slice g3 p.fl.length eg3, .slice g4 (foldM p).as.length eg4, .slice g5 (foldM p).cs.length eg5] 34))
    obtain ⟨w11, hw11⟩ : ∃ w11, w11 = w10.alloc (.cells #[.slice g1 (foldM p).ins.length eg1, .slice g2 (foldM p).outs.length eg2, .slice g3 p.fl.length eg3, .slice g4 (foldM p).as.length eg4, .slice g5 (foldM p).cs.length eg5] 34) := ⟨_, rfl⟩
    rw [← hw11] at hbx HBC
    have HB11 := Lib.hid (HB10.out.trans (hbx.mono HB10.out.size))
    have HP11 := Lib.hid ((hbx.block w.heap.size (Array.getElem?_eq_some_iff.1 HP10.out).1).trans HP10.out)
    have HA := Lib.hid (HA.out.le (kn_le_all (allKn_below hbx)))
    have HBA := Lib.hid ((hbx.block _ (Array.getElem?_eq_some_iff.1 HBA.out).1).trans HBA.out)
    have HN := Lib.hid (HN.out.le (kn_le_all (allKn_below hbx)))
    have HBB := Lib.hid ((hbx.block _ (Array.getElem?_eq_some_iff.1 HBB.out).1).trans HBB.out)
    have HO := Lib.hid (HO.out.le (kn_le_all (allKn_below hbx)))
    clear hbx
    go_upto_region 7 with (fail)
    rw [← hw11]
    obtain ⟨HBCn, hHBCn⟩ : ∃ HBCn, HBCn = w10.heap.size := ⟨_, rfl⟩
    rw [← hHBCn] at HBC ⊢
    clear hw11 hHBCn
    clear m0 m1 m2 m3 m4
    have m0 : w11.cell? ⟨w.heap.size, 0, none⟩ = some (.slice ai p.ins.length ci) := by have h := HP11.out; simp [World.cell?, h]
    have m1 : w11.cell? ⟨w.heap.size, 1, none⟩ = some (.slice ao p.outs.length co) := by have h := HP11.out; simp [World.cell?, h]
    have m2 : w11.cell? ⟨w.heap.size, 2, none⟩ = some (.slice al p.fl.length cl) := by have h := HP11.out; simp [World.cell?, h]
    have m3 : w11.cell? ⟨w.heap.size, 3, none⟩ = some (.slice aa p.as.length ca) := by have h := HP11.out; simp [World.cell?, h]
    have m4 : w11.cell? ⟨w.heap.size, 4, none⟩ = some (.slice ac p.cs.length cc) := by have h := HP11.out; simp [World.cell?, h]
    have x0 : w11.cell? ⟨HBAn, 0, none⟩ = some (.slice b1 (dropM p).ins.length eb1) := by have h := HBA.out; simp [World.cell?, h]
    have x1 : w11.cell? ⟨HBAn, 1, none⟩ = some (.slice b2 (dropM p).outs.length eb2) := by have h := HBA.out; simp [World.cell?, h]
    have x2 : w11.cell? ⟨HBAn, 2, none⟩ = some (.slice b3 (dropM p).fl.length eb3) := by have h := HBA.out; simp [World.cell?, h]
    have x3 : w11.cell? ⟨HBAn, 3, none⟩ = some (.slice b4 (dropM p).as.length eb4) := by have h := HBA.out; simp [World.cell?, h]
    have x4 : w11.cell? ⟨HBAn, 4, none⟩ = some (.slice b5 (dropM p).cs.length eb5) := by have h := HBA.out; simp [World.cell?, h]
    have y0 : w11.cell? ⟨HBBn, 0, none⟩ = some (.slice d1 (sameM p).ins.length ed1) := by have h := HBB.out; simp [World.cell?, h]
    have y1 : w11.cell? ⟨HBBn, 1, none⟩ = some (.slice d2 (sameM p).outs.length ed2) := by have h := HBB.out; simp [World.cell?, h]
    have y2 : w11.cell? ⟨HBBn, 2, none⟩ = some (.slice d3 (sameM p).fl.length ed3) := by have h := HBB.out; simp [World.cell?, h]
    have y3 : w11.cell? ⟨HBBn, 3, none⟩ = some (.slice d4 (sameM p).as.length ed4) := by have h := HBB.out; simp [World.cell?, h]
    have y4 : w11.cell? ⟨HBBn, 4, none⟩ = some (.slice d5 (sameM p).cs.length ed5) := by have h := HBB.out; simp [World.cell?, h]
    have z0 : w11.cell? ⟨HBCn, 0, none⟩ = some (.slice g1 (foldM p).ins.length eg1) := by have h := HBC.out; simp [World.cell?, h]
    have z1 : w11.cell? ⟨HBCn, 1, none⟩ = some (.slice g2 (foldM p).outs.length eg2) := by have h := HBC.out; simp [World.cell?, h]
    have z2 : w11.cell? ⟨HBCn, 2, none⟩ = some (.slice g3 p.fl.length eg3) := by have h := HBC.out; simp [World.cell?, h]
    have z3 : w11.cell? ⟨HBCn, 3, none⟩ = some (.slice g4 (foldM p).as.length eg4) := by have h := HBC.out; simp [World.cell?, h]
    have z4 : w11.cell? ⟨HBCn, 4, none⟩ = some (.slice g5 (foldM p).cs.length eg5) := by have h := HBC.out; simp [World.cell?, h]
    have hd3 := HD3.out
    have hs1 := HS1.out
    have q1 : ((dropM p).fl.length : Int) ≤ p.fl.length := by omega
    have q2 : ((sameM p).fl.length : Int) ≤ p.fl.length := by omega
    clear hd3 hs1
    go_upto_region 9 with (fail)
    go_upto_region 11 with (fail)
    clear q1 q2
    have hoP : StrsV (allKn w11) p.outs (.slice ao p.outs.length co) := SlV.le HP.out.outs (kn_le_all (hH.below HB11.out)) StrC.mono
    have HOP := Lib.hid hoP
    have HT := Lib.hid (HLE.out _ HB11.out)
    have HSE := Lib.hid (S.below HB11.out)
    have HL12 := Lib.hid (Below.refl w11.heap.size w11)
    have HAA := Lib.hid HA.out
    have HNN := Lib.hid HN.out
    have HOO := Lib.hid HO.out
    clear hoP HA HN HO
    have HL11 := HL12
    clear HL12
    go_wp2_with fail
    refine (sameTexts_eq (allKn w11) p.outs _ _ HAA.out.outs HOP.out (by omega) w11 ((allKn_in w11).below HL11.out)).mono ?_
    rintro r w12 ⟨rfl, hb12⟩
    have HL12 := Lib.hid (HL11.out.trans (hb12.mono HL11.out.size))
    have HB12 := Lib.hid (HB11.out.trans (hb12.mono HB11.out.size))
    have HP12 := Lib.hid ((hb12.block w.heap.size (Array.getElem?_eq_some_iff.1 HP11.out).1).trans HP11.out)
    have HBA := Lib.hid ((hb12.block _ (Array.getElem?_eq_some_iff.1 HBA.out).1).trans HBA.out)
    have HBB := Lib.hid ((hb12.block _ (Array.getElem?_eq_some_iff.1 HBB.out).1).trans HBB.out)
    have HBC := Lib.hid ((hb12.block _ (Array.getElem?_eq_some_iff.1 HBC.out).1).trans HBC.out)
    clear hb12
    clear x0 x1 x2 x3 x4 y0 y1 y2 y3 y4 z0 z1 z2 z3 z4
    clear m0 m1 m2 m3 m4
    have m0 : w12.cell? ⟨w.heap.size, 0, none⟩ = some (.slice ai p.ins.length ci) := by have h := HP12.out; simp [World.cell?, h]
    have m1 : w12.cell? ⟨w.heap.size, 1, none⟩ = some (.slice ao p.outs.length co) := by have h := HP12.out; simp [World.cell?, h]
    have m2 : w12.cell? ⟨w.heap.size, 2, none⟩ = some (.slice al p.fl.length cl) := by have h := HP12.out; simp [World.cell?, h]
    have m3 : w12.cell? ⟨w.heap.size, 3, none⟩ = some (.slice aa p.as.length ca) := by have h := HP12.out; simp [World.cell?, h]
    have m4 : w12.cell? ⟨w.heap.size, 4, none⟩ = some (.slice ac p.cs.length cc) := by have h := HP12.out; simp [World.cell?, h]
    have x0 : w12.cell? ⟨HBAn, 0, none⟩ = some (.slice b1 (dropM p).ins.length eb1) := by have h := HBA.out; simp [World.cell?, h]
    have x1 : w12.cell? ⟨HBAn, 1, none⟩ = some (.slice b2 (dropM p).outs.length eb2) := by have h := HBA.out; simp [World.cell?, h]
    have x2 : w12.cell? ⟨HBAn, 2, none⟩ = some (.slice b3 (dropM p).fl.length eb3) := by have h := HBA.out; simp [World.cell?, h]
    have x3 : w12.cell? ⟨HBAn, 3, none⟩ = some (.slice b4 (dropM p).as.length eb4) := by have h := HBA.out; simp [World.cell?, h]
    have x4 : w12.cell? ⟨HBAn, 4, none⟩ = some (.slice b5 (dropM p).cs.length eb5) := by have h := HBA.out; simp [World.cell?, h]
    have y0 : w12.cell? ⟨HBBn, 0, none⟩ = some (.slice d1 (sameM p).ins.length ed1) := by have h := HBB.out; simp [World.cell?, h]
    have y1 : w12.cell? ⟨HBBn, 1, none⟩ = some (.slice d2 (sameM p).outs.length ed2) := by have h := HBB.out; simp [World.cell?, h]
    have y2 : w12.cell? ⟨HBBn, 2, none⟩ = some (.slice d3 (sameM p).fl.length ed3) := by have h := HBB.out; simp [World.cell?, h]
    have y3 : w12.cell? ⟨HBBn, 3, none⟩ = some (.slice d4 (sameM p).as.length ed4) := by have h := HBB.out; simp [World.cell?, h]
    have y4 : w12.cell? ⟨HBBn, 4, none⟩ = some (.slice d5 (sameM p).cs.length ed5) := by have h := HBB.out; simp [World.cell?, h]
    have z0 : w12.cell? ⟨HBCn, 0, none⟩ = some (.slice g1 (foldM p).ins.length eg1) := by have h := HBC.out; simp [World.cell?, h]
    have z1 : w12.cell? ⟨HBCn, 1, none⟩ = some (.slice g2 (foldM p).outs.length eg2) := by have h := HBC.out; simp [World.cell?, h]
    have z2 : w12.cell? ⟨HBCn, 2, none⟩ = some (.slice g3 p.fl.length eg3) := by have h := HBC.out; simp [World.cell?, h]
    have z3 : w12.cell? ⟨HBCn, 3, none⟩ = some (.slice g4 (foldM p).as.length eg4) := by have h := HBC.out; simp [World.cell?, h]
    have z4 : w12.cell? ⟨HBCn, 4, none⟩ = some (.slice g5 (foldM p).cs.length eg5) := by have h := HBC.out; simp [World.cell?, h]
    go_wp2_with fail
    refine (sameTexts_eq (allKn w11) p.outs _ _ HNN.out.outs HOP.out (by omega) w12 ((allKn_in w11).below HL12.out)).mono ?_
    rintro r w13 ⟨rfl, hb13⟩
    have HL13 := Lib.hid (HL12.out.trans (hb13.mono HL12.out.size))
    have HB13 := Lib.hid (HB12.out.trans (hb13.mono HB12.out.size))
    have HP13 := Lib.hid ((hb13.block w.heap.size (Array.getElem?_eq_some_iff.1 HP12.out).1).trans HP12.out)
    have HBA := Lib.hid ((hb13.block _ (Array.getElem?_eq_some_iff.1 HBA.out).1).trans HBA.out)
    have HBB := Lib.hid ((hb13.block _ (Array.getElem?_eq_some_iff.1 HBB.out).1).trans HBB.out)
    have HBC := Lib.hid ((hb13.block _ (Array.getElem?_eq_some_iff.1 HBC.out).1).trans HBC.out)
    clear hb13
    clear x0 x1 x2 x3 x4 y0 y1 y2 y3 y4 z0 z1 z2 z3 z4
    clear m0 m1 m2 m3 m4
    have m0 : w13.cell? ⟨w.heap.size, 0, none⟩ = some (.slice ai p.ins.length ci) := by have h := HP13.out; simp [World.cell?, h]
    have m1 : w13.cell? ⟨w.heap.size, 1, none⟩ = some (.slice ao p.outs.length co) := by have h := HP13.out; simp [World.cell?, h]
    have m2 : w13.cell? ⟨w.heap.size, 2, none⟩ = some (.slice al p.fl.length cl) := by have h := HP13.out; simp [World.cell?, h]
    have m3 : w13.cell? ⟨w.heap.size, 3, none⟩ = some (.slice aa p.as.length ca) := by have h := HP13.out; simp [World.cell?, h]
    have m4 : w13.cell? ⟨w.heap.size, 4, none⟩ = some (.slice ac p.cs.length cc) := by have h := HP13.out; simp [World.cell?, h]
    have x0 : w13.cell? ⟨HBAn, 0, none⟩ = some (.slice b1 (dropM p).ins.length eb1) := by have h := HBA.out; simp [World.cell?, h]
    have x1 : w13.cell? ⟨HBAn, 1, none⟩ = some (.slice b2 (dropM p).outs.length eb2) := by have h := HBA.out; simp [World.cell?, h]
    have x2 : w13.cell? ⟨HBAn, 2, none⟩ = some (.slice b3 (dropM p).fl.length eb3) := by have h := HBA.out; simp [World.cell?, h]
    have x3 : w13.cell? ⟨HBAn, 3, none⟩ = some (.slice b4 (dropM p).as.length eb4) := by have h := HBA.out; simp [World.cell?, h]
    have x4 : w13.cell? ⟨HBAn, 4, none⟩ = some (.slice b5 (dropM p).cs.length eb5) := by have h := HBA.out; simp [World.cell?, h]
    have y0 : w13.cell? ⟨HBBn, 0, none⟩ = some (.slice d1 (sameM p).ins.length ed1) := by have h := HBB.out; simp [World.cell?, h]
    have y1 : w13.cell? ⟨HBBn, 1, none⟩ = some (.slice d2 (sameM p).outs.length ed2) := by have h := HBB.out; simp [World.cell?, h]
    have y2 : w13.cell? ⟨HBBn, 2, none⟩ = some (.slice d3 (sameM p).fl.length ed3) := by have h := HBB.out; simp [World.cell?, h]
    have y3 : w13.cell? ⟨HBBn, 3, none⟩ = some (.slice d4 (sameM p).as.length ed4) := by have h := HBB.out; simp [World.cell?, h]
    have y4 : w13.cell? ⟨HBBn, 4, none⟩ = some (.slice d5 (sameM p).cs.length ed5) := by have h := HBB.out; simp [World.cell?, h]
    have z0 : w13.cell? ⟨HBCn, 0, none⟩ = some (.slice g1 (foldM p).ins.length eg1) := by have h := HBC.out; simp [World.cell?, h]
    have z1 : w13.cell? ⟨HBCn, 1, none⟩ = some (.slice g2 (foldM p).outs.length eg2) := by have h := HBC.out; simp [World.cell?, h]
    have z2 : w13.cell? ⟨HBCn, 2, none⟩ = some (.slice g3 p.fl.length eg3) := by have h := HBC.out; simp [World.cell?, h]
    have z3 : w13.cell? ⟨HBCn, 3, none⟩ = some (.slice g4 (foldM p).as.length eg4) := by have h := HBC.out; simp [World.cell?, h]
    have z4 : w13.cell? ⟨HBCn, 4, none⟩ = some (.slice g5 (foldM p).cs.length eg5) := by have h := HBC.out; simp [World.cell?, h]
    go_wp2_with fail
    refine (sameTexts_eq (allKn w11) p.outs _ _ HOO.out.outs HOP.out (by omega) w13 ((allKn_in w11).below HL13.out)).mono ?_
    rintro r w14 ⟨rfl, hb14⟩
    have HL14 := Lib.hid (HL13.out.trans (hb14.mono HL13.out.size))
    have HB14 := Lib.hid (HB13.out.trans (hb14.mono HB13.out.size))
    have HP14 := Lib.hid ((hb14.block w.heap.size (Array.getElem?_eq_some_iff.1 HP13.out).1).trans HP13.out)
    have HBA := Lib.hid ((hb14.block _ (Array.getElem?_eq_some_iff.1 HBA.out).1).trans HBA.out)
    have HBB := Lib.hid ((hb14.block _ (Array.getElem?_eq_some_iff.1 HBB.out).1).trans HBB.out)
    have HBC := Lib.hid ((hb14.block _ (Array.getElem?_eq_some_iff.1 HBC.out).1).trans HBC.out)
    clear hb14
    clear x0 x1 x2 x3 x4 y0 y1 y2 y3 y4 z0 z1 z2 z3 z4
    clear m0 m1 m2 m3 m4
    have m0 : w14.cell? ⟨w.heap.size, 0, none⟩ = some (.slice ai p.ins.length ci) := by have h := HP14.out; simp [World.cell?, h]
    have m1 : w14.cell? ⟨w.heap.size, 1, none⟩ = some (.slice ao p.outs.length co) := by have h := HP14.out; simp [World.cell?, h]
    have m2 : w14.cell? ⟨w.heap.size, 2, none⟩ = some (.slice al p.fl.length cl) := by have h := HP14.out; simp [World.cell?, h]
    have m3 : w14.cell? ⟨w.heap.size, 3, none⟩ = some (.slice aa p.as.length ca) := by have h := HP14.out; simp [World.cell?, h]
    have m4 : w14.cell? ⟨w.heap.size, 4, none⟩ = some (.slice ac p.cs.length cc) := by have h := HP14.out; simp [World.cell?, h]
    have x0 : w14.cell? ⟨HBAn, 0, none⟩ = some (.slice b1 (dropM p).ins.length eb1) := by have h := HBA.out; simp [World.cell?, h]
    have x1 : w14.cell? ⟨HBAn, 1, none⟩ = some (.slice b2 (dropM p).outs.length eb2) := by have h := HBA.out; simp [World.cell?, h]
    have x2 : w14.cell? ⟨HBAn, 2, none⟩ = some (.slice b3 (dropM p).fl.length eb3) := by have h := HBA.out; simp [World.cell?, h]
    have x3 : w14.cell? ⟨HBAn, 3, none⟩ = some (.slice b4 (dropM p).as.length eb4) := by have h := HBA.out; simp [World.cell?, h]
    have x4 : w14.cell? ⟨HBAn, 4, none⟩ = some (.slice b5 (dropM p).cs.length eb5) := by have h := HBA.out; simp [World.cell?, h]
    have y0 : w14.cell? ⟨HBBn, 0, none⟩ = some (.slice d1 (sameM p).ins.length ed1) := by have h := HBB.out; simp [World.cell?, h]
    have y1 : w14.cell? ⟨HBBn, 1, none⟩ = some (.slice d2 (sameM p).outs.length ed2) := by have h := HBB.out; simp [World.cell?, h]
    have y2 : w14.cell? ⟨HBBn, 2, none⟩ = some (.slice d3 (sameM p).fl.length ed3) := by have h := HBB.out; simp [World.cell?, h]
    have y3 : w14.cell? ⟨HBBn, 3, none⟩ = some (.slice d4 (sameM p).as.length ed4) := by have h := HBB.out; simp [World.cell?, h]
    have y4 : w14.cell? ⟨HBBn, 4, none⟩ = some (.slice d5 (sameM p).cs.length ed5) := by have h := HBB.out; simp [World.cell?, h]
    have z0 : w14.cell? ⟨HBCn, 0, none⟩ = some (.slice g1 (foldM p).ins.length eg1) := by have h := HBC.out; simp [World.cell?, h]
    have z1 : w14.cell? ⟨HBCn, 1, none⟩ = some (.slice g2 (foldM p).outs.length eg2) := by have h := HBC.out; simp [World.cell?, h]
    have z2 : w14.cell? ⟨HBCn, 2, none⟩ = some (.slice g3 p.fl.length eg3) := by have h := HBC.out; simp [World.cell?, h]
    have z3 : w14.cell? ⟨HBCn, 3, none⟩ = some (.slice g4 (foldM p).as.length eg4) := by have h := HBC.out; simp [World.cell?, h]
    have z4 : w14.cell? ⟨HBCn, 4, none⟩ = some (.slice g5 (foldM p).cs.length eg5) := by have h := HBC.out; simp [World.cell?, h]
    go_wp2_with fail
    refine (check_any (allKn w11) HT.out sp (dropM p) _ _ _ _ _ HAA.out w14 ((allKn_in w11).below HL14.out) (HSE.out.below HL14.out) (chk_sz HDK.out zz2).1 (chk_sz HDK.out zz2).2).mono ?_
    rw [HDK.out, show errV sp 0 = Value.nilIface from rfl]
    rintro r w15 ⟨rfl, hb15⟩
    have HL15 := Lib.hid (HL14.out.trans (hb15.mono HL14.out.size))
    have HB15 := Lib.hid (HB14.out.trans (hb15.mono HB14.out.size))
    have HP15 := Lib.hid ((hb15.block w.heap.size (Array.getElem?_eq_some_iff.1 HP14.out).1).trans HP14.out)
    have HBA := Lib.hid ((hb15.block _ (Array.getElem?_eq_some_iff.1 HBA.out).1).trans HBA.out)
    have HBB := Lib.hid ((hb15.block _ (Array.getElem?_eq_some_iff.1 HBB.out).1).trans HBB.out)
    have HBC := Lib.hid ((hb15.block _ (Array.getElem?_eq_some_iff.1 HBC.out).1).trans HBC.out)
    clear hb15
    clear x0 x1 x2 x3 x4 y0 y1 y2 y3 y4 z0 z1 z2 z3 z4
    clear m0 m1 m2 m3 m4
    have m0 : w15.cell? ⟨w.heap.size, 0, none⟩ = some (.slice ai p.ins.length ci) := by have h := HP15.out; simp [World.cell?, h]
    have m1 : w15.cell? ⟨w.heap.size, 1, none⟩ = some (.slice ao p.outs.length co) := by have h := HP15.out; simp [World.cell?, h]
    have m2 : w15.cell? ⟨w.heap.size, 2, none⟩ = some (.slice al p.fl.length cl) := by have h := HP15.out; simp [World.cell?, h]
    have m3 : w15.cell? ⟨w.heap.size, 3, none⟩ = some (.slice aa p.as.length ca) := by have h := HP15.out; simp [World.cell?, h]
    have m4 : w15.cell? ⟨w.heap.size, 4, none⟩ = some (.slice ac p.cs.length cc) := by have h := HP15.out; simp [World.cell?, h]
    have x0 : w15.cell? ⟨HBAn, 0, none⟩ = some (.slice b1 (dropM p).ins.length eb1) := by have h := HBA.out; simp [World.cell?, h]
    have x1 : w15.cell? ⟨HBAn, 1, none⟩ = some (.slice b2 (dropM p).outs.length eb2) := by have h := HBA.out; simp [World.cell?, h]
    have x2 : w15.cell? ⟨HBAn, 2, none⟩ = some (.slice b3 (dropM p).fl.length eb3) := by have h := HBA.out; simp [World.cell?, h]
    have x3 : w15.cell? ⟨HBAn, 3, none⟩ = some (.slice b4 (dropM p).as.length eb4) := by have h := HBA.out; simp [World.cell?, h]
    have x4 : w15.cell? ⟨HBAn, 4, none⟩ = some (.slice b5 (dropM p).cs.length eb5) := by have h := HBA.out; simp [World.cell?, h]
    have y0 : w15.cell? ⟨HBBn, 0, none⟩ = some (.slice d1 (sameM p).ins.length ed1) := by have h := HBB.out; simp [World.cell?, h]
    have y1 : w15.cell? ⟨HBBn, 1, none⟩ = some (.slice d2 (sameM p).outs.length ed2) := by have h := HBB.out; simp [World.cell?, h]
    have y2 : w15.cell? ⟨HBBn, 2, none⟩ = some (.slice d3 (sameM p).fl.length ed3) := by have h := HBB.out; simp [World.cell?, h]
    have y3 : w15.cell? ⟨HBBn, 3, none⟩ = some (.slice d4 (sameM p).as.length ed4) := by have h := HBB.out; simp [World.cell?, h]
    have y4 : w15.cell? ⟨HBBn, 4, none⟩ = some (.slice d5 (sameM p).cs.length ed5) := by have h := HBB.out; simp [World.cell?, h]
    have z0 : w15.cell? ⟨HBCn, 0, none⟩ = some (.slice g1 (foldM p).ins.length eg1) := by have h := HBC.out; simp [World.cell?, h]
    have z1 : w15.cell? ⟨HBCn, 1, none⟩ = some (.slice g2 (foldM p).outs.length eg2) := by have h := HBC.out; simp [World.cell?, h]
    have z2 : w15.cell? ⟨HBCn, 2, none⟩ = some (.slice g3 p.fl.length eg3) := by have h := HBC.out; simp [World.cell?, h]
    have z3 : w15.cell? ⟨HBCn, 3, none⟩ = some (.slice g4 (foldM p).as.length eg4) := by have h := HBC.out; simp [World.cell?, h]
    have z4 : w15.cell? ⟨HBCn, 4, none⟩ = some (.slice g5 (foldM p).cs.length eg5) := by have h := HBC.out; simp [World.cell?, h]
    go_wp2_with fail
    refine (check_any (allKn w11) HT.out sp (sameM p) _ _ _ _ _ HNN.out w15 ((allKn_in w11).below HL15.out) (HSE.out.below HL15.out) (chk_sz HSK.out zz2).1 (chk_sz HSK.out zz2).2).mono ?_
    rw [HSK.out, show errV sp 0 = Value.nilIface from rfl]
    rintro r w16 ⟨rfl, hb16⟩
    have HL16 := Lib.hid (HL15.out.trans (hb16.mono HL15.out.size))
    have HB16 := Lib.hid (HB15.out.trans (hb16.mono HB15.out.size))
    have HP16 := Lib.hid ((hb16.block w.heap.size (Array.getElem?_eq_some_iff.1 HP15.out).1).trans HP15.out)
    have HBA := Lib.hid ((hb16.block _ (Array.getElem?_eq_some_iff.1 HBA.out).1).trans HBA.out)
    have HBB := Lib.hid ((hb16.block _ (Array.getElem?_eq_some_iff.1 HBB.out).1).trans HBB.out)
    have HBC := Lib.hid ((hb16.block _ (Array.getElem?_eq_some_iff.1 HBC.out).1).trans HBC.out)
    clear hb16
    clear x0 x1 x2 x3 x4 y0 y1 y2 y3 y4 z0 z1 z2 z3 z4
    clear m0 m1 m2 m3 m4
    have m0 : w16.cell? ⟨w.heap.size, 0, none⟩ = some (.slice ai p.ins.length ci) := by have h := HP16.out; simp [World.cell?, h]
    have m1 : w16.cell? ⟨w.heap.size, 1, none⟩ = some (.slice ao p.outs.length co) := by have h := HP16.out; simp [World.cell?, h]
    have m2 : w16.cell? ⟨w.heap.size, 2, none⟩ = some (.slice al p.fl.length cl) := by have h := HP16.out; simp [World.cell?, h]
    have m3 : w16.cell? ⟨w.heap.size, 3, none⟩ = some (.slice aa p.as.length ca) := by have h := HP16.out; simp [World.cell?, h]
    have m4 : w16.cell? ⟨w.heap.size, 4, none⟩ = some (.slice ac p.cs.length cc) := by have h := HP16.out; simp [World.cell?, h]
    have x0 : w16.cell? ⟨HBAn, 0, none⟩ = some (.slice b1 (dropM p).ins.length eb1) := by have h := HBA.out; simp [World.cell?, h]
    have x1 : w16.cell? ⟨HBAn, 1, none⟩ = some (.slice b2 (dropM p).outs.length eb2) := by have h := HBA.out; simp [World.cell?, h]
    have x2 : w16.cell? ⟨HBAn, 2, none⟩ = some (.slice b3 (dropM p).fl.length eb3) := by have h := HBA.out; simp [World.cell?, h]
    have x3 : w16.cell? ⟨HBAn, 3, none⟩ = some (.slice b4 (dropM p).as.length eb4) := by have h := HBA.out; simp [World.cell?, h]
    have x4 : w16.cell? ⟨HBAn, 4, none⟩ = some (.slice b5 (dropM p).cs.length eb5) := by have h := HBA.out; simp [World.cell?, h]
    have y0 : w16.cell? ⟨HBBn, 0, none⟩ = some (.slice d1 (sameM p).ins.length ed1) := by have h := HBB.out; simp [World.cell?, h]
    have y1 : w16.cell? ⟨HBBn, 1, none⟩ = some (.slice d2 (sameM p).outs.length ed2) := by have h := HBB.out; simp [World.cell?, h]
    have y2 : w16.cell? ⟨HBBn, 2, none⟩ = some (.slice d3 (sameM p).fl.length ed3) := by have h := HBB.out; simp [World.cell?, h]
    have y3 : w16.cell? ⟨HBBn, 3, none⟩ = some (.slice d4 (sameM p).as.length ed4) := by have h := HBB.out; simp [World.cell?, h]
    have y4 : w16.cell? ⟨HBBn, 4, none⟩ = some (.slice d5 (sameM p).cs.length ed5) := by have h := HBB.out; simp [World.cell?, h]
    have z0 : w16.cell? ⟨HBCn, 0, none⟩ = some (.slice g1 (foldM p).ins.length eg1) := by have h := HBC.out; simp [World.cell?, h]
    have z1 : w16.cell? ⟨HBCn, 1, none⟩ = some (.slice g2 (foldM p).outs.length eg2) := by have h := HBC.out; simp [World.cell?, h]
    have z2 : w16.cell? ⟨HBCn, 2, none⟩ = some (.slice g3 p.fl.length eg3) := by have h := HBC.out; simp [World.cell?, h]
    have z3 : w16.cell? ⟨HBCn, 3, none⟩ = some (.slice g4 (foldM p).as.length eg4) := by have h := HBC.out; simp [World.cell?, h]
    have z4 : w16.cell? ⟨HBCn, 4, none⟩ = some (.slice g5 (foldM p).cs.length eg5) := by have h := HBC.out; simp [World.cell?, h]
    go_wp2_with fail
    refine (check_any (allKn w11) HT.out sp (foldM p) _ _ _ _ _ HOO.out w16 ((allKn_in w11).below HL16.out) (HSE.out.below HL16.out) (chk_sz HFK.out zz2).1 (chk_sz HFK.out zz2).2).mono ?_
    rw [HFK.out, show errV sp 0 = Value.nilIface from rfl]
    rintro r w17 ⟨rfl, hb17⟩
    have HL17 := Lib.hid (HL16.out.trans (hb17.mono HL16.out.size))
    have HB17 := Lib.hid (HB16.out.trans (hb17.mono HB16.out.size))
    have HP17 := Lib.hid ((hb17.block w.heap.size (Array.getElem?_eq_some_iff.1 HP16.out).1).trans HP16.out)
    have HBA := Lib.hid ((hb17.block _ (Array.getElem?_eq_some_iff.1 HBA.out).1).trans HBA.out)
    have HBB := Lib.hid ((hb17.block _ (Array.getElem?_eq_some_iff.1 HBB.out).1).trans HBB.out)
    have HBC := Lib.hid ((hb17.block _ (Array.getElem?_eq_some_iff.1 HBC.out).1).trans HBC.out)
    clear hb17
    clear x0 x1 x2 x3 x4 y0 y1 y2 y3 y4 z0 z1 z2 z3 z4
    clear m0 m1 m2 m3 m4
    have m0 : w17.cell? ⟨w.heap.size, 0, none⟩ = some (.slice ai p.ins.length ci) := by have h := HP17.out; simp [World.cell?, h]
    have m1 : w17.cell? ⟨w.heap.size, 1, none⟩ = some (.slice ao p.outs.length co) := by have h := HP17.out; simp [World.cell?, h]
    have m2 : w17.cell? ⟨w.heap.size, 2, none⟩ = some (.slice al p.fl.length cl) := by have h := HP17.out; simp [World.cell?, h]
    have m3 : w17.cell? ⟨w.heap.size, 3, none⟩ = some (.slice aa p.as.length ca) := by have h := HP17.out; simp [World.cell?, h]
    have m4 : w17.cell? ⟨w.heap.size, 4, none⟩ = some (.slice ac p.cs.length cc) := by have h := HP17.out; simp [World.cell?, h]
    have x0 : w17.cell? ⟨HBAn, 0, none⟩ = some (.slice b1 (dropM p).ins.length eb1) := by have h := HBA.out; simp [World.cell?, h]
    have x1 : w17.cell? ⟨HBAn, 1, none⟩ = some (.slice b2 (dropM p).outs.length eb2) := by have h := HBA.out; simp [World.cell?, h]
    have x2 : w17.cell? ⟨HBAn, 2, none⟩ = some (.slice b3 (dropM p).fl.length eb3) := by have h := HBA.out; simp [World.cell?, h]
    have x3 : w17.cell? ⟨HBAn, 3, none⟩ = some (.slice b4 (dropM p).as.length eb4) := by have h := HBA.out; simp [World.cell?, h]
    have x4 : w17.cell? ⟨HBAn, 4, none⟩ = some (.slice b5 (dropM p).cs.length eb5) := by have h := HBA.out; simp [World.cell?, h]
    have y0 : w17.cell? ⟨HBBn, 0, none⟩ = some (.slice d1 (sameM p).ins.length ed1) := by have h := HBB.out; simp [World.cell?, h]
    have y1 : w17.cell? ⟨HBBn, 1, none⟩ = some (.slice d2 (sameM p).outs.length ed2) := by have h := HBB.out; simp [World.cell?, h]
    have y2 : w17.cell? ⟨HBBn, 2, none⟩ = some (.slice d3 (sameM p).fl.length ed3) := by have h := HBB.out; simp [World.cell?, h]
    have y3 : w17.cell? ⟨HBBn, 3, none⟩ = some (.slice d4 (sameM p).as.length ed4) := by have h := HBB.out; simp [World.cell?, h]
    have y4 : w17.cell? ⟨HBBn, 4, none⟩ = some (.slice d5 (sameM p).cs.length ed5) := by have h := HBB.out; simp [World.cell?, h]
    have z0 : w17.cell? ⟨HBCn, 0, none⟩ = some (.slice g1 (foldM p).ins.length eg1) := by have h := HBC.out; simp [World.cell?, h]
    have z1 : w17.cell? ⟨HBCn, 1, none⟩ = some (.slice g2 (foldM p).outs.length eg2) := by have h := HBC.out; simp [World.cell?, h]
    have z2 : w17.cell? ⟨HBCn, 2, none⟩ = some (.slice g3 p.fl.length eg3) := by have h := HBC.out; simp [World.cell?, h]
    have z3 : w17.cell? ⟨HBCn, 3, none⟩ = some (.slice g4 (foldM p).as.length eg4) := by have h := HBC.out; simp [World.cell?, h]
    have z4 : w17.cell? ⟨HBCn, 4, none⟩ = some (.slice g5 (foldM p).cs.length eg5) := by have h := HBC.out; simp [World.cell?, h]
    go_wp2_with fail
    go_ret
    exact ⟨rfl, HB17.out⟩
end Go.Proofs.YthihoafemahgmaaDoor
