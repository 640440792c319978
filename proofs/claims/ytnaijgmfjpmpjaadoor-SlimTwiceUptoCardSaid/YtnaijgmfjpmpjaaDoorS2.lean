/- Walks: lustrumlaw2.SlimTwice. (Printed by gen_s2.py.) -/
import Derived.Test.YtnaijgmfjpmpjaaDoorBare
import Derived.Test.YtnaijgmfjpmpjaaDoorSam
import Derived.Test.YtnaijgmfjpmpjaaDoorSqA
import Derived.Test.YtnaijgmfjpmpjaaDoorBof
import Derived.Test.YtnaijgmfjpmpjaaDoorEof
import Derived.Test.YtnaijgmfjpmpjaaDoorGof
namespace Go.Proofs.YtnaijgmfjpmpjaaDoor
open Go.RowKit Mx
set_option maxHeartbeats 16000000 in
set_option maxRecDepth 100000 in
theorem slimTwice_any (H : Kn) (T : LevelsAt H) (sp : Nat → Addr) (p : Pr) (vi vo vl va vc : Value) (hp : PrP H p vi vo vl va vc) (hsz : p.ins.length ≤ 1048576 ∧ p.outs.length ≤ 1048576 ∧ Ex.weightL p.terms ≤ 1048576) (w : World) (hH : H.In w) (S : Sen5 w sp) :
    Calls Tryd.prog 3 #[.agg #[vi, vo, vl, va, vc]] w fun r w' => r = .returned (.bool true) ∧ Below w.heap.size w w' := by
  obtain ⟨z1, z2, z3⟩ := hsz
  have hle : ∀ w1, Below w.heap.size w w1 → LevelsAt (allKn w1) := fun w1 hb => T.le (kn_le_all (hH.below hb))
  have HLE := Lib.hid hle
  have hpl := partsL_le_weightL p.terms
  have hlw : p.fl.length + p.as.length + p.cs.length ≤ Ex.weightL p.terms := by
    have h := len_weightL p.terms
    have h2 : p.terms.length = p.fl.length + p.as.length + p.cs.length := by simp only [Pr.terms, List.length_append, List.length_map]
    omega
  clear hle
  have HP := Lib.hid hp
  obtain ⟨h1, h2, h3, h4, h5⟩ := hp
  obtain ⟨ai, ci, rfl⟩ := h1.len
  obtain ⟨ao, co, rfl⟩ := h2.len
  obtain ⟨al, cl, rfl⟩ := h3.len
  obtain ⟨aa, ca, rfl⟩ := h4.len
  obtain ⟨ac, cc, rfl⟩ := h5.len
  clear h1 h2 h3 h4 h5
  have hP0 := heap_alloc_new w (.cells #[.slice ai p.ins.length ci, .slice ao p.outs.length co, .slice al p.fl.length cl, .slice aa p.as.length ca, .slice ac p.cs.length cc] 27)
  have hb0 : Below w.heap.size w (w.alloc (.cells #[.slice ai p.ins.length ci, .slice ao p.outs.length co, .slice al p.fl.length cl, .slice aa p.as.length ca, .slice ac p.cs.length cc] 27)) := (Below.refl _ _).alloc (Nat.le_refl _) _
  have HB0 := Lib.hid hb0
  have HP0 := Lib.hid hP0
  clear hP0 hb0
  go_enter Tryd.func3, Tryd.ntmps3
  go_wp2_with fail
  generalize w.alloc (.cells #[.slice ai p.ins.length ci, .slice ao p.outs.length co, .slice al p.fl.length cl, .slice aa p.as.length ca, .slice ac p.cs.length cc] 27) = W1 at *
  refine (thin_any H T sp W1 (hH.below HB0.out) (S.below HB0.out)).mono ?_
  rintro r w1 ⟨rfl, hb1⟩
  have HB1 := Lib.hid (HB0.out.trans (hb1.mono HB0.out.size))
  have HP1 := Lib.hid ((hb1.block w.heap.size (Array.getElem?_eq_some_iff.1 HP0.out).1).trans HP0.out)
  have m0 : w1.cell? ⟨w.heap.size, 0, none⟩ = some (.slice ai p.ins.length ci) := by have h := HP1.out; simp [World.cell?, h]
  have m1 : w1.cell? ⟨w.heap.size, 1, none⟩ = some (.slice ao p.outs.length co) := by have h := HP1.out; simp [World.cell?, h]
  have m2 : w1.cell? ⟨w.heap.size, 2, none⟩ = some (.slice al p.fl.length cl) := by have h := HP1.out; simp [World.cell?, h]
  have m3 : w1.cell? ⟨w.heap.size, 3, none⟩ = some (.slice aa p.as.length ca) := by have h := HP1.out; simp [World.cell?, h]
  have m4 : w1.cell? ⟨w.heap.size, 4, none⟩ = some (.slice ac p.cs.length cc) := by have h := HP1.out; simp [World.cell?, h]
  go_wp2_with fail
  refine (heavy_any H p _ _ _ _ _ HP.out ⟨by omega, by omega, by omega⟩ w1 (hH.below HB1.out)).mono ?_
  rintro r w2 ⟨rfl, hb2⟩
  have HB2 := Lib.hid (HB1.out.trans (hb2.mono HB1.out.size))
  have HP2 := Lib.hid ((hb2.block w.heap.size (Array.getElem?_eq_some_iff.1 HP1.out).1).trans HP1.out)
  clear m0 m1 m2 m3 m4
  have m0 : w2.cell? ⟨w.heap.size, 0, none⟩ = some (.slice ai p.ins.length ci) := by have h := HP2.out; simp [World.cell?, h]
  have m1 : w2.cell? ⟨w.heap.size, 1, none⟩ = some (.slice ao p.outs.length co) := by have h := HP2.out; simp [World.cell?, h]
  have m2 : w2.cell? ⟨w.heap.size, 2, none⟩ = some (.slice al p.fl.length cl) := by have h := HP2.out; simp [World.cell?, h]
  have m3 : w2.cell? ⟨w.heap.size, 3, none⟩ = some (.slice aa p.as.length ca) := by have h := HP2.out; simp [World.cell?, h]
  have m4 : w2.cell? ⟨w.heap.size, 4, none⟩ = some (.slice ac p.cs.length cc) := by have h := HP2.out; simp [World.cell?, h]
  unfold heavyI
  by_cases hh : heavy p = true
  · rw [if_pos hh]
    go_wp2_with fail
    go_ret
    exact ⟨rfl, HB2.out⟩
  rw [if_neg hh]
  obtain ⟨y1, y2, y3⟩ : Ex.weightL p.terms ≤ 1500 ∧ p.fl.length ≤ 100 ∧ p.ins.length ≤ 40 := by
    unfold heavy at hh
    simp only [Bool.or_eq_true, decide_eq_true_eq, not_or, Nat.not_lt] at hh
    exact ⟨hh.1.1, hh.1.2, hh.2⟩
  clear hh
  have hpt : Ex.partsL p.terms ≤ 1000000 := by omega
  go_wp2_with fail
  refine (flatOf_any p _ _ _ _ _ H HP.out ⟨by omega, by omega, by omega, by omega⟩ _ (hH.below HB2.out)).mono ?_
  rintro r w3 ⟨vi3, vo3, vl3, va3, vc3, K3, rfl, hp3, hst3⟩
  have HB3 := Lib.hid (HB2.out.trans (hst3.below.mono HB2.out.size))
  have HP3 := Lib.hid ((hst3.below.block w.heap.size (Array.getElem?_eq_some_iff.1 HP2.out).1).trans HP2.out)
  have HQ3 := Lib.hid (hp3.le (kn_le_all hst3.isin))
  clear hp3 hst3
  clear m0 m1 m2 m3 m4
  have m0 : w3.cell? ⟨w.heap.size, 0, none⟩ = some (.slice ai p.ins.length ci) := by have h := HP3.out; simp [World.cell?, h]
  have m1 : w3.cell? ⟨w.heap.size, 1, none⟩ = some (.slice ao p.outs.length co) := by have h := HP3.out; simp [World.cell?, h]
  have m2 : w3.cell? ⟨w.heap.size, 2, none⟩ = some (.slice al p.fl.length cl) := by have h := HP3.out; simp [World.cell?, h]
  have m3 : w3.cell? ⟨w.heap.size, 3, none⟩ = some (.slice aa p.as.length ca) := by have h := HP3.out; simp [World.cell?, h]
  have m4 : w3.cell? ⟨w.heap.size, 4, none⟩ = some (.slice ac p.cs.length cc) := by have h := HP3.out; simp [World.cell?, h]
  go_wp2_with fail
  refine (drop_any (allKn w3) (HLE.out _ HB3.out) sp p _ _ _ _ _ HQ3.out ⟨by omega, by omega, by omega, by omega, by omega, by omega, drop_sz (by omega) (by omega) (by omega)⟩ (any_hpick p) w3 (allKn_in w3) (S.below HB3.out)).mono ?_
  rintro r w4 ⟨hb4, hpost⟩
  have HB4 := Lib.hid (HB3.out.trans (hb4.mono HB3.out.size))
  have HP4 := Lib.hid ((hb4.block w.heap.size (Array.getElem?_eq_some_iff.1 HP3.out).1).trans HP3.out)
  clear m0 m1 m2 m3 m4
  have m0 : w4.cell? ⟨w.heap.size, 0, none⟩ = some (.slice ai p.ins.length ci) := by have h := HP4.out; simp [World.cell?, h]
  have m1 : w4.cell? ⟨w.heap.size, 1, none⟩ = some (.slice ao p.outs.length co) := by have h := HP4.out; simp [World.cell?, h]
  have m2 : w4.cell? ⟨w.heap.size, 2, none⟩ = some (.slice al p.fl.length cl) := by have h := HP4.out; simp [World.cell?, h]
  have m3 : w4.cell? ⟨w.heap.size, 3, none⟩ = some (.slice aa p.as.length ca) := by have h := HP4.out; simp [World.cell?, h]
  have m4 : w4.cell? ⟨w.heap.size, 4, none⟩ = some (.slice ac p.cs.length cc) := by have h := HP4.out; simp [World.cell?, h]
  clear HQ3
  rcases hpost with ⟨hc0, ui, uo, ul, ua, uc, K4, rfl, hpr, hK4, _⟩ | ⟨hne, ty, pv, rfl⟩
  case inr =>
    go_wp2_with fail
    go_ret
    exact ⟨rfl, HB4.out.alloc HB4.out.size _⟩
  obtain ⟨hd1, hd2, hd3⟩ := drop_right hc0
  have HC0 := Lib.hid hc0
  have HD1 := Lib.hid hd1
  have HD2 := Lib.hid hd2
  have hdo : (dropM p).outs.length ≤ 1048576 := z2
  have hdi : (dropM p).ins.length ≤ 40 := y3
  have hda : (dropM p).as.length ≤ 1500 := by show p.as.length ≤ 1500; omega
  have hdc : (dropM p).cs.length ≤ 1500 := by show p.cs.length ≤ 1500; omega
  have hdt : Ex.partsL (dropM p).terms ≤ 1000000 := by
    have h1 := partsL_sub ((List.filter_sublist (p := fun f : Fl => decide (f.name ∈ needM p)) (l := p.fl)).map (·.e))
    have h2 : (dropM p).fl = p.fl.filter fun f => decide (f.name ∈ needM p) := rfl
    unfold Pr.terms at hpt ⊢
    rw [partsL_app, partsL_app] at hpt ⊢
    rw [h2]
    show Ex.partsL _ + Ex.partsL p.as + Ex.partsL p.cs ≤ _
    omega
  have hpr := hpr.le (kn_le_all hK4)
  obtain ⟨b1, e1, rfl⟩ := hpr.ins.len
  obtain ⟨b2, e2, rfl⟩ := hpr.outs.len
  obtain ⟨b3, e3, rfl⟩ := hpr.fl.len
  obtain ⟨b4, e4, rfl⟩ := hpr.asr.len
  obtain ⟨b5, e5, rfl⟩ := hpr.chk.len
  have HA := Lib.hid hpr
  have hbx := (Below.refl w4.heap.size w4).alloc (Nat.le_refl _) (.cells #[.slice b1 (dropM p).ins.length e1, .slice b2 (dropM p).outs.length e2, .slice b3 (dropM p).fl.length e3, .slice b4 (dropM p).as.length e4, .slice b5 (dropM p).cs.length e5] 34)
  have HBA := Lib.hid (heap_alloc_new w4 (.cells #[.slice b1 (dropM p).ins.length e1, .slice b2 (dropM p).outs.length e2, .slice b3 (dropM p).fl.length e3, .slice b4 (dropM p).as.length e4, .slice b5 (dropM p).cs.length e5] 34))
  clear hc0 hd1 hd2 hpr hK4
  obtain ⟨w5, hw5⟩ : ∃ w5, w5 = w4.alloc (.cells #[.slice b1 (dropM p).ins.length e1, .slice b2 (dropM p).outs.length e2, .slice b3 (dropM p).fl.length e3, .slice b4 (dropM p).as.length e4, .slice b5 (dropM p).cs.length e5] 34) := ⟨_, rfl⟩
  rw [← hw5] at hbx HBA
  have HB5 := Lib.hid (HB4.out.trans (hbx.mono HB4.out.size))
  have HP5 := Lib.hid ((hbx.block w.heap.size (Array.getElem?_eq_some_iff.1 HP4.out).1).trans HP4.out)
  have HA := Lib.hid (HA.out.le (kn_le_all (allKn_below hbx)))
  clear m0 m1 m2 m3 m4
  have m0 : w5.cell? ⟨w.heap.size, 0, none⟩ = some (.slice ai p.ins.length ci) := by have h := HP5.out; simp [World.cell?, h]
  have m1 : w5.cell? ⟨w.heap.size, 1, none⟩ = some (.slice ao p.outs.length co) := by have h := HP5.out; simp [World.cell?, h]
  have m2 : w5.cell? ⟨w.heap.size, 2, none⟩ = some (.slice al p.fl.length cl) := by have h := HP5.out; simp [World.cell?, h]
  have m3 : w5.cell? ⟨w.heap.size, 3, none⟩ = some (.slice aa p.as.length ca) := by have h := HP5.out; simp [World.cell?, h]
  have m4 : w5.cell? ⟨w.heap.size, 4, none⟩ = some (.slice ac p.cs.length cc) := by have h := HP5.out; simp [World.cell?, h]
  have x0 : w5.cell? ⟨w4.heap.size, 0, none⟩ = some (.slice b1 (dropM p).ins.length e1) := by have h := HBA.out; simp [World.cell?, h]
  have x1 : w5.cell? ⟨w4.heap.size, 1, none⟩ = some (.slice b2 (dropM p).outs.length e2) := by have h := HBA.out; simp [World.cell?, h]
  have x2 : w5.cell? ⟨w4.heap.size, 2, none⟩ = some (.slice b3 (dropM p).fl.length e3) := by have h := HBA.out; simp [World.cell?, h]
  have x3 : w5.cell? ⟨w4.heap.size, 3, none⟩ = some (.slice b4 (dropM p).as.length e4) := by have h := HBA.out; simp [World.cell?, h]
  have x4 : w5.cell? ⟨w4.heap.size, 4, none⟩ = some (.slice b5 (dropM p).cs.length e5) := by have h := HBA.out; simp [World.cell?, h]
  clear hbx
  go_wp2_with fail
  rw [← hw5]
  have hBAge : w.heap.size ≤ w4.heap.size := HB4.out.size
  obtain ⟨BA, hBA⟩ : ∃ BA, BA = w4.heap.size := ⟨_, rfl⟩
  rw [← hBA] at HBA x0 x1 x2 x3 x4 hBAge ⊢
  clear hw5 hBA
  refine (drop_any (allKn w5) (HLE.out _ HB5.out) sp (dropM p) _ _ _ _ _ HA.out ⟨by omega, by omega, by omega, by omega, by omega, by omega, drop_sz (by omega) (by omega) (by omega)⟩ (any_hpick (dropM p)) w5 (allKn_in w5) (S.below HB5.out)).mono ?_
  rintro r w6 ⟨hb6, hpost⟩
  have HB6 := Lib.hid (HB5.out.trans (hb6.mono HB5.out.size))
  have HP6 := Lib.hid ((hb6.block w.heap.size (Array.getElem?_eq_some_iff.1 HP5.out).1).trans HP5.out)
  have HA := Lib.hid (HA.out.le (kn_le_all (allKn_below hb6)))
  have HBA := Lib.hid ((hb6.block _ (Array.getElem?_eq_some_iff.1 HBA.out).1).trans HBA.out)
  rw [HD2.out, checkM_at0 HD1.out] at hpost
  rcases hpost with ⟨_, ti, to_, tl, ta, tc, K6, rfl, hpr, hK6, _⟩ | ⟨h, _⟩
  case inr => rcases h with h | h <;> exact absurd rfl h
  have hpr := hpr.le (kn_le_all hK6)
  obtain ⟨d1, g1, rfl⟩ := hpr.ins.len
  obtain ⟨d2, g2, rfl⟩ := hpr.outs.len
  obtain ⟨d3, g3, rfl⟩ := hpr.fl.len
  obtain ⟨d4, g4, rfl⟩ := hpr.asr.len
  obtain ⟨d5, g5, rfl⟩ := hpr.chk.len
  have HN := Lib.hid hpr
  have hbx := (Below.refl w6.heap.size w6).alloc (Nat.le_refl _) (.cells #[.slice d1 (dropM p).ins.length g1, .slice d2 (dropM p).outs.length g2, .slice d3 (dropM p).fl.length g3, .slice d4 (dropM p).as.length g4, .slice d5 (dropM p).cs.length g5] 34)
  have HBB := Lib.hid (heap_alloc_new w6 (.cells #[.slice d1 (dropM p).ins.length g1, .slice d2 (dropM p).outs.length g2, .slice d3 (dropM p).fl.length g3, .slice d4 (dropM p).as.length g4, .slice d5 (dropM p).cs.length g5] 34))
  clear hpr hK6 x0 x1 x2 x3 x4
  obtain ⟨w7, hw7⟩ : ∃ w7, w7 = w6.alloc (.cells #[.slice d1 (dropM p).ins.length g1, .slice d2 (dropM p).outs.length g2, .slice d3 (dropM p).fl.length g3, .slice d4 (dropM p).as.length g4, .slice d5 (dropM p).cs.length g5] 34) := ⟨_, rfl⟩
  rw [← hw7] at hbx HBB
  have HB7 := Lib.hid (HB6.out.trans (hbx.mono HB6.out.size))
  have HP7 := Lib.hid ((hbx.block w.heap.size (Array.getElem?_eq_some_iff.1 HP6.out).1).trans HP6.out)
  have HA := Lib.hid (HA.out.le (kn_le_all (allKn_below hbx)))
  have HN := Lib.hid (HN.out.le (kn_le_all (allKn_below hbx)))
  have HBA := Lib.hid ((hbx.block _ (Array.getElem?_eq_some_iff.1 HBA.out).1).trans HBA.out)
  clear m0 m1 m2 m3 m4
  have m0 : w7.cell? ⟨w.heap.size, 0, none⟩ = some (.slice ai p.ins.length ci) := by have h := HP7.out; simp [World.cell?, h]
  have m1 : w7.cell? ⟨w.heap.size, 1, none⟩ = some (.slice ao p.outs.length co) := by have h := HP7.out; simp [World.cell?, h]
  have m2 : w7.cell? ⟨w.heap.size, 2, none⟩ = some (.slice al p.fl.length cl) := by have h := HP7.out; simp [World.cell?, h]
  have m3 : w7.cell? ⟨w.heap.size, 3, none⟩ = some (.slice aa p.as.length ca) := by have h := HP7.out; simp [World.cell?, h]
  have m4 : w7.cell? ⟨w.heap.size, 4, none⟩ = some (.slice ac p.cs.length cc) := by have h := HP7.out; simp [World.cell?, h]
  have x0 : w7.cell? ⟨BA, 0, none⟩ = some (.slice b1 (dropM p).ins.length e1) := by have h := HBA.out; simp [World.cell?, h]
  have x1 : w7.cell? ⟨BA, 1, none⟩ = some (.slice b2 (dropM p).outs.length e2) := by have h := HBA.out; simp [World.cell?, h]
  have x2 : w7.cell? ⟨BA, 2, none⟩ = some (.slice b3 (dropM p).fl.length e3) := by have h := HBA.out; simp [World.cell?, h]
  have x3 : w7.cell? ⟨BA, 3, none⟩ = some (.slice b4 (dropM p).as.length e4) := by have h := HBA.out; simp [World.cell?, h]
  have x4 : w7.cell? ⟨BA, 4, none⟩ = some (.slice b5 (dropM p).cs.length e5) := by have h := HBA.out; simp [World.cell?, h]
  have y0 : w7.cell? ⟨w6.heap.size, 0, none⟩ = some (.slice d1 (dropM p).ins.length g1) := by have h := HBB.out; simp [World.cell?, h]
  have y1 : w7.cell? ⟨w6.heap.size, 1, none⟩ = some (.slice d2 (dropM p).outs.length g2) := by have h := HBB.out; simp [World.cell?, h]
  have y2 : w7.cell? ⟨w6.heap.size, 2, none⟩ = some (.slice d3 (dropM p).fl.length g3) := by have h := HBB.out; simp [World.cell?, h]
  have y3 : w7.cell? ⟨w6.heap.size, 3, none⟩ = some (.slice d4 (dropM p).as.length g4) := by have h := HBB.out; simp [World.cell?, h]
  have y4 : w7.cell? ⟨w6.heap.size, 4, none⟩ = some (.slice d5 (dropM p).cs.length g5) := by have h := HBB.out; simp [World.cell?, h]
  clear hbx
  go_wp2_with fail
  rw [← hw7]
  obtain ⟨BB, hBB⟩ : ∃ BB, BB = w6.heap.size := ⟨_, rfl⟩
  rw [← hBB] at HBB y0 y1 y2 y3 y4 ⊢
  clear hw7 hBB
  have k0 : (allKn w7).cell BA 0 = some (.slice b1 (dropM p).ins.length e1) := by rw [allKn_cell]; exact x0
  have k1 : (allKn w7).cell BA 1 = some (.slice b2 (dropM p).outs.length e2) := by rw [allKn_cell]; exact x1
  have k2 : (allKn w7).cell BA 2 = some (.slice b3 (dropM p).fl.length e3) := by rw [allKn_cell]; exact x2
  have k3 : (allKn w7).cell BA 3 = some (.slice b4 (dropM p).as.length e4) := by rw [allKn_cell]; exact x3
  have k4 : (allKn w7).cell BA 4 = some (.slice b5 (dropM p).cs.length e5) := by rw [allKn_cell]; exact x4
  have l0 : (allKn w7).cell BB 0 = some (.slice d1 (dropM p).ins.length g1) := by rw [allKn_cell]; exact y0
  have l1 : (allKn w7).cell BB 1 = some (.slice d2 (dropM p).outs.length g2) := by rw [allKn_cell]; exact y1
  have l2 : (allKn w7).cell BB 2 = some (.slice d3 (dropM p).fl.length g3) := by rw [allKn_cell]; exact y2
  have l3 : (allKn w7).cell BB 3 = some (.slice d4 (dropM p).as.length g4) := by rw [allKn_cell]; exact y3
  have l4 : (allKn w7).cell BB 4 = some (.slice d5 (dropM p).cs.length g5) := by rw [allKn_cell]; exact y4
  have hS : (allKn w7).In w7.drew := (allKn_in w7).below (Below.refl _ _).drew
  have hbD : Below w7.heap.size w7 w7.drew := (Below.refl _ _).drew
  have hzd : (dropM p).ins.length ≤ 1000000000 ∧ (dropM p).outs.length ≤ 1000000000 ∧ (dropM p).fl.length ≤ 1000000000 ∧ Ex.partsL (dropM p).terms ≤ 1000000000 := ⟨by omega, by omega, by omega, by omega⟩
  clear x0 x1 x2 x3 x4 y0 y1 y2 y3 y4
  refine wp_region_2 (fun w' => (allKn w7).In w' ∧ Below w7.heap.size w7 w') (fun _ => True) 99 (by kernel_rfl) ?_
  generalize w7.drew = wD at hS hbD ⊢
  refine wpAny2_take (i := 0) (oi := _) (v := ?_) rfl (by decide) (by kernel_rfl) (by kernel_rfl) (by kernel_rfl) (by kernel_rfl) (fun _ _ _ h => h) ⟨hS, hbD⟩ (fun _ => trivial) (Or.inl ⟨by rfl, ?hy⟩) ?_
  case hy => intro w hSw; have z0 := hSw.1.cell k0; have z1 := hSw.1.cell k1; have z2 := hSw.1.cell k2; have z3 := hSw.1.cell k3; have z4 := hSw.1.cell k4; have z5 := hSw.1.cell l0; have z6 := hSw.1.cell l1; have z7 := hSw.1.cell l2; have z8 := hSw.1.cell l3; have z9 := hSw.1.cell l4; first | (go_simp; done) | (go_simp; with_reducible rfl)
  try simp only [Act.put, List.setIfInBounds_toArray, List.set_cons_zero, List.set_cons_succ, List.getElem_toArray, List.getElem_cons_zero, List.getElem_cons_succ]
  refine wpAny2_take (i := 1) (oi := _) (v := ?_) rfl (by decide) (by kernel_rfl) (by kernel_rfl) (by kernel_rfl) (by kernel_rfl) (fun _ _ _ h => h) ⟨hS, hbD⟩ (fun _ => trivial) (Or.inl ⟨by rfl, ?hy⟩) ?_
  case hy => intro w hSw; have z0 := hSw.1.cell k0; have z1 := hSw.1.cell k1; have z2 := hSw.1.cell k2; have z3 := hSw.1.cell k3; have z4 := hSw.1.cell k4; have z5 := hSw.1.cell l0; have z6 := hSw.1.cell l1; have z7 := hSw.1.cell l2; have z8 := hSw.1.cell l3; have z9 := hSw.1.cell l4; first | (go_simp; done) | (go_simp; with_reducible rfl)
  try simp only [Act.put, List.setIfInBounds_toArray, List.set_cons_zero, List.set_cons_succ, List.getElem_toArray, List.getElem_cons_zero, List.getElem_cons_succ]
  refine wpAny2_take (i := 2) (oi := _) (v := ?_) rfl (by decide) (by kernel_rfl) (by kernel_rfl) (by kernel_rfl) (by kernel_rfl) (fun _ _ _ h => h) ⟨hS, hbD⟩ (fun _ => trivial) (Or.inl ⟨by rfl, ?hy⟩) ?_
  case hy => intro w hSw; have z0 := hSw.1.cell k0; have z1 := hSw.1.cell k1; have z2 := hSw.1.cell k2; have z3 := hSw.1.cell k3; have z4 := hSw.1.cell k4; have z5 := hSw.1.cell l0; have z6 := hSw.1.cell l1; have z7 := hSw.1.cell l2; have z8 := hSw.1.cell l3; have z9 := hSw.1.cell l4; first | (go_simp; done) | (go_simp; with_reducible rfl)
  try simp only [Act.put, List.setIfInBounds_toArray, List.set_cons_zero, List.set_cons_succ, List.getElem_toArray, List.getElem_cons_zero, List.getElem_cons_succ]
  refine wpAny2_take (i := 3) (oi := _) (v := ?_) rfl (by decide) (by kernel_rfl) (by kernel_rfl) (by kernel_rfl) (by kernel_rfl) (fun _ _ _ h => h) ⟨hS, hbD⟩ (fun _ => trivial) (Or.inl ⟨by rfl, ?hy⟩) ?_
  case hy => intro w hSw; have z0 := hSw.1.cell k0; have z1 := hSw.1.cell k1; have z2 := hSw.1.cell k2; have z3 := hSw.1.cell k3; have z4 := hSw.1.cell k4; have z5 := hSw.1.cell l0; have z6 := hSw.1.cell l1; have z7 := hSw.1.cell l2; have z8 := hSw.1.cell l3; have z9 := hSw.1.cell l4; first | (go_simp; done) | (go_simp; with_reducible rfl)
  try simp only [Act.put, List.setIfInBounds_toArray, List.set_cons_zero, List.set_cons_succ, List.getElem_toArray, List.getElem_cons_zero, List.getElem_cons_succ]
  refine wpAny2_take (i := 5) (oi := _) (v := ?_) rfl (by decide) (by kernel_rfl) (by kernel_rfl) (by kernel_rfl) (by kernel_rfl) (fun _ _ _ h => h) ⟨hS, hbD⟩ (fun _ => trivial) (Or.inl ⟨by rfl, ?hy⟩) ?_
  case hy => intro w hSw; have z0 := hSw.1.cell k0; have z1 := hSw.1.cell k1; have z2 := hSw.1.cell k2; have z3 := hSw.1.cell k3; have z4 := hSw.1.cell k4; have z5 := hSw.1.cell l0; have z6 := hSw.1.cell l1; have z7 := hSw.1.cell l2; have z8 := hSw.1.cell l3; have z9 := hSw.1.cell l4; first | (go_simp; done) | (go_simp; with_reducible rfl)
  try simp only [Act.put, List.setIfInBounds_toArray, List.set_cons_zero, List.set_cons_succ, List.getElem_toArray, List.getElem_cons_zero, List.getElem_cons_succ]
  refine wpAny2_one (i := 4) (o := _) (by kernel_rfl) rfl (fun K_ hK => ?_)
  go_simp
  go_at_call 10
  refine (backFlat_any (dropM p) _ _ _ _ _ (allKn w7) HA.out hzd wD hS).mono ?_
  rintro r wE ⟨i1, i2, i3, i4, i5, K1, rfl, hp1, hst1⟩
  obtain ⟨q1, f1, rfl⟩ := hp1.ins.len
  obtain ⟨q2, f2, rfl⟩ := hp1.outs.len
  obtain ⟨q3, f3, rfl⟩ := hp1.fl.len
  obtain ⟨q4, f4, rfl⟩ := hp1.asr.len
  obtain ⟨q5, f5, rfl⟩ := hp1.chk.len
  have hSE := hS.below hst1.below
  have hbE := hbD.trans (hst1.below.mono hbD.size)
  refine hK.out _ _ ⟨hSE, hbE⟩ (fun _ => trivial) ?_
  clear hK K_
  try simp only [Act.put, List.setIfInBounds_toArray, List.set_cons_zero, List.set_cons_succ, List.getElem_toArray, List.getElem_cons_zero, List.getElem_cons_succ]
  refine wpAny2_one (i := 6) (o := _) (by kernel_rfl) rfl (fun K_ hK => ?_)
  go_simp
  go_at_call 10
  refine (backFlat_any (dropM p) _ _ _ _ _ K1 (HN.out.le hst1.le) hzd wE hst1.isin).mono ?_
  rintro r wF ⟨j1, j2, j3, j4, j5, K2, rfl, hp2, hst2⟩
  obtain ⟨r1, o1, rfl⟩ := hp2.ins.len
  obtain ⟨r2, o2, rfl⟩ := hp2.outs.len
  obtain ⟨r3, o3, rfl⟩ := hp2.fl.len
  obtain ⟨r4, o4, rfl⟩ := hp2.asr.len
  obtain ⟨r5, o5, rfl⟩ := hp2.chk.len
  have hSF := hSE.below hst2.below
  have hbF := hbE.trans (hst2.below.mono hbE.size)
  refine hK.out _ _ (⟨hSF, hbF⟩) (fun _ => trivial) ?_
  clear hK K_
  try simp only [Act.put, List.setIfInBounds_toArray, List.set_cons_zero, List.set_cons_succ, List.getElem_toArray, List.getElem_cons_zero, List.getElem_cons_succ]
  refine wpAny2_one (i := 7) (o := _) (by kernel_rfl) rfl (fun K_ hK => ?_)
  go_simp
  go_at_call 9
  refine (samePrograms_eq K2 (dropM p) _ _ _ _ _ _ _ _ _ _ (hp1.le hst2.le) hp2 hzd wF hst2.isin).mono ?_
  rintro r wG ⟨rfl, hbg⟩
  have hSG := hSF.below hbg
  have hbG := hbF.trans (hbg.mono hbF.size)
  refine hK.out _ _ (⟨hSG, hbG⟩) (fun _ => trivial) ?_
  clear hK K_
  try simp only [Act.put, List.setIfInBounds_toArray, List.set_cons_zero, List.set_cons_succ, List.getElem_toArray, List.getElem_cons_zero, List.getElem_cons_succ]
  refine wpAny2_take (i := 8) (oi := _) (v := ?_) rfl (by decide) (by kernel_rfl) (by kernel_rfl) (by kernel_rfl) (by kernel_rfl) (fun _ _ _ h => h) ⟨hSG, hbG⟩ (fun _ => trivial) (Or.inl ⟨by rfl, ?hy⟩) ?_
  case hy => intro w hSw; have z0 := hSw.1.cell k0; have z1 := hSw.1.cell k1; have z2 := hSw.1.cell k2; have z3 := hSw.1.cell k3; have z4 := hSw.1.cell k4; have z5 := hSw.1.cell l0; have z6 := hSw.1.cell l1; have z7 := hSw.1.cell l2; have z8 := hSw.1.cell l3; have z9 := hSw.1.cell l4; first | (go_simp; done) | (go_simp; with_reducible rfl)
  try simp only [Act.put, List.setIfInBounds_toArray, List.set_cons_zero, List.set_cons_succ, List.getElem_toArray, List.getElem_cons_zero, List.getElem_cons_succ]
  refine wpAny2_take (i := 9) (oi := _) (v := ?_) rfl (by decide) (by kernel_rfl) (by kernel_rfl) (by kernel_rfl) (by kernel_rfl) (fun _ _ _ h => h) ⟨hSG, hbG⟩ (fun _ => trivial) (Or.inl ⟨by rfl, ?hy⟩) ?_
  case hy => intro w hSw; have z0 := hSw.1.cell k0; have z1 := hSw.1.cell k1; have z2 := hSw.1.cell k2; have z3 := hSw.1.cell k3; have z4 := hSw.1.cell k4; have z5 := hSw.1.cell l0; have z6 := hSw.1.cell l1; have z7 := hSw.1.cell l2; have z8 := hSw.1.cell l3; have z9 := hSw.1.cell l4; first | (go_simp; done) | (go_simp; with_reducible rfl)
  try simp only [Act.put, List.setIfInBounds_toArray, List.set_cons_zero, List.set_cons_succ, List.getElem_toArray, List.getElem_cons_zero, List.getElem_cons_succ]
  refine wpAny2_done (by kernel_rfl) ?_ _
  have HBG := Lib.hid (HB7.out.trans (hbG.mono HB7.out.size))
  have HPG := Lib.hid ((hbG.block w.heap.size (Array.getElem?_eq_some_iff.1 HP7.out).1).trans HP7.out)
  have HBAG := Lib.hid ((hbG.block _ (Array.getElem?_eq_some_iff.1 HBA.out).1).trans HBA.out)
  clear hSG hbG hSF hbF hSE hbE hp1 hp2 hst1 hst2 hbg hS hbD k0 k1 k2 k3 k4 l0 l1 l2 l3 l4
  clear m0 m1 m2 m3 m4
  have m0 : wG.cell? ⟨w.heap.size, 0, none⟩ = some (.slice ai p.ins.length ci) := by have h := HPG.out; simp [World.cell?, h]
  have m1 : wG.cell? ⟨w.heap.size, 1, none⟩ = some (.slice ao p.outs.length co) := by have h := HPG.out; simp [World.cell?, h]
  have m2 : wG.cell? ⟨w.heap.size, 2, none⟩ = some (.slice al p.fl.length cl) := by have h := HPG.out; simp [World.cell?, h]
  have m3 : wG.cell? ⟨w.heap.size, 3, none⟩ = some (.slice aa p.as.length ca) := by have h := HPG.out; simp [World.cell?, h]
  have m4 : wG.cell? ⟨w.heap.size, 4, none⟩ = some (.slice ac p.cs.length cc) := by have h := HPG.out; simp [World.cell?, h]
  go_wp2_with fail
  refine (flatOf_any p _ _ _ _ _ H HP.out ⟨by omega, by omega, by omega, by omega⟩ _ (hH.below HBG.out)).mono ?_
  rintro r w8 ⟨vi8, vo8, vl8, va8, vc8, K8, rfl, hp8, hst8⟩
  have HB8 := Lib.hid (HBG.out.trans (hst8.below.mono HBG.out.size))
  have HP8 := Lib.hid ((hst8.below.block w.heap.size (Array.getElem?_eq_some_iff.1 HPG.out).1).trans HPG.out)
  have HBAG := Lib.hid ((hst8.below.block _ (Array.getElem?_eq_some_iff.1 HBAG.out).1).trans HBAG.out)
  have HQ8 := Lib.hid (hp8.le (kn_le_all hst8.isin))
  clear hp8 hst8
  clear m0 m1 m2 m3 m4
  have m0 : w8.cell? ⟨w.heap.size, 0, none⟩ = some (.slice ai p.ins.length ci) := by have h := HP8.out; simp [World.cell?, h]
  have m1 : w8.cell? ⟨w.heap.size, 1, none⟩ = some (.slice ao p.outs.length co) := by have h := HP8.out; simp [World.cell?, h]
  have m2 : w8.cell? ⟨w.heap.size, 2, none⟩ = some (.slice al p.fl.length cl) := by have h := HP8.out; simp [World.cell?, h]
  have m3 : w8.cell? ⟨w.heap.size, 3, none⟩ = some (.slice aa p.as.length ca) := by have h := HP8.out; simp [World.cell?, h]
  have m4 : w8.cell? ⟨w.heap.size, 4, none⟩ = some (.slice ac p.cs.length cc) := by have h := HP8.out; simp [World.cell?, h]
  go_wp2_with fail
  refine (same_any (allKn w8) (HLE.out _ HB8.out) sp p _ _ _ _ _ HQ8.out ⟨by omega, by omega, by omega, by omega, by omega, by omega⟩ (any_hpick p) w8 (allKn_in w8) (S.below HB8.out)).mono ?_
  rintro r w9 ⟨hb9, hpost⟩
  have HB9 := Lib.hid (HB8.out.trans (hb9.mono HB8.out.size))
  have HP9 := Lib.hid ((hb9.block w.heap.size (Array.getElem?_eq_some_iff.1 HP8.out).1).trans HP8.out)
  have HBAG := Lib.hid ((hb9.block _ (Array.getElem?_eq_some_iff.1 HBAG.out).1).trans HBAG.out)
  have HQ8 := Lib.hid (HQ8.out.le (kn_le_all (allKn_below hb9)))
  clear m0 m1 m2 m3 m4
  have m0 : w9.cell? ⟨w.heap.size, 0, none⟩ = some (.slice ai p.ins.length ci) := by have h := HP9.out; simp [World.cell?, h]
  have m1 : w9.cell? ⟨w.heap.size, 1, none⟩ = some (.slice ao p.outs.length co) := by have h := HP9.out; simp [World.cell?, h]
  have m2 : w9.cell? ⟨w.heap.size, 2, none⟩ = some (.slice al p.fl.length cl) := by have h := HP9.out; simp [World.cell?, h]
  have m3 : w9.cell? ⟨w.heap.size, 3, none⟩ = some (.slice aa p.as.length ca) := by have h := HP9.out; simp [World.cell?, h]
  have m4 : w9.cell? ⟨w.heap.size, 4, none⟩ = some (.slice ac p.cs.length cc) := by have h := HP9.out; simp [World.cell?, h]
  rw [checkM_at0 HC0.out] at hpost
  rcases hpost with ⟨_, ti, to_, tl, ta, tc, K9, rfl, hpr, hK9, _⟩ | ⟨h, _⟩
  case inr => rcases h with h | h <;> exact absurd rfl h
  obtain ⟨m1', c1', rfl⟩ := hpr.ins.len
  obtain ⟨m2', c2', rfl⟩ := hpr.outs.len
  obtain ⟨m3', c3', rfl⟩ := hpr.fl.len
  obtain ⟨m4', c4', rfl⟩ := hpr.asr.len
  obtain ⟨m5', c5', rfl⟩ := hpr.chk.len
  obtain ⟨hck, hl1, hl2, hl3⟩ := same_check (p := p) (by obtain ⟨l, ho, _⟩ := checkM_zero HC0.out; exact (orderM_low ho).1)
  clear hpr hK9 hck
  obtain ⟨⟨o0, o1, o2, o3, o4⟩, f0', f1', f2', f3', f4'⟩ := cells5_of HBAG.out
  have hHA := HBAG.out
  have hBw : w.heap.size ≠ BA := by
    intro e
    have h := HP9.out
    rw [e, hHA] at h
    simp at h
  have HS9 := Lib.hid (set5_of hHA (.slice m1' (sameM p).ins.length c1') (.slice m2' (sameM p).outs.length c2') (.slice m3' (sameM p).fl.length c3') (.slice m4' (sameM p).as.length c4') (.slice m5' (sameM p).cs.length c5'))
  have HP99 := Lib.hid ((heap5_far (W := w9) hBw (.slice m1' (sameM p).ins.length c1') (.slice m2' (sameM p).outs.length c2') (.slice m3' (sameM p).fl.length c3') (.slice m4' (sameM p).as.length c4') (.slice m5' (sameM p).cs.length c5')).trans HP9.out)
  obtain ⟨⟨x0, x1, x2, x3, x4⟩, _⟩ := cells5_of HS9.out
  have HB99 := Lib.hid (below5 HB9.out (by omega : w.heap.size ≤ BA) (.slice m1' (sameM p).ins.length c1') (.slice m2' (sameM p).outs.length c2') (.slice m3' (sameM p).fl.length c3') (.slice m4' (sameM p).as.length c4') (.slice m5' (sameM p).cs.length c5'))
  clear hHA m0 m1 m2 m3 m4
  have m0 := (cells5_of HP99.out).1.1
  have m1 := (cells5_of HP99.out).1.2.1
  have m2 := (cells5_of HP99.out).1.2.2.1
  have m3 := (cells5_of HP99.out).1.2.2.2.1
  have m4 := (cells5_of HP99.out).1.2.2.2.2
  have hl1' : ((sameM p).fl.length : Int) ≤ p.fl.length := by omega
  have hl2' : ((sameM p).as.length : Int) = p.as.length := by omega
  have hl3' : ((sameM p).cs.length : Int) = p.cs.length := by omega
  have HLL := Lib.hid (And.intro hl1' (And.intro hl2' hl3'))
  clear hl1 hl2 hl3 hl1' hl2' hl3' x0 x1 x2 x3 x4 m0 m1 m2 m3 m4
  go_upto_region 11 with (fail)
  generalize (((((w9.setCell ⟨BA, 0, none⟩ (.slice m1' (sameM p).ins.length c1')).setCell ⟨BA, 1, none⟩ (.slice m2' (sameM p).outs.length c2')).setCell ⟨BA, 2, none⟩ (.slice m3' (sameM p).fl.length c3')).setCell ⟨BA, 3, none⟩ (.slice m4' (sameM p).as.length c4')).setCell ⟨BA, 4, none⟩ (.slice m5' (sameM p).cs.length c5')) = wZ at *
  obtain ⟨⟨x0, x1, x2, x3, x4⟩, _⟩ := cells5_of HS9.out
  obtain ⟨⟨m0, m1, m2, m3, m4⟩, _⟩ := cells5_of HP99.out
  obtain ⟨hl1', hl2', hl3'⟩ := HLL.out
  generalize (sameM p).fl.length = nF at *
  generalize (sameM p).as.length = nA at *
  generalize (sameM p).cs.length = nC at *
  obtain rfl : nA = p.as.length := by omega
  obtain rfl : nC = p.cs.length := by omega
  clear hl2' hl3'
  go_wp2_with fail
  go_ret
  exact ⟨rfl, HB99.out⟩
end Go.Proofs.YtnaijgmfjpmpjaaDoor
