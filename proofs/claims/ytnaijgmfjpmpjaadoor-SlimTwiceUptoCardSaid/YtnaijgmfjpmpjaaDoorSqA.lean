/- Walks: lustrumref1.SameTexts, SameVars, SameExpr, sameExprs of what is the same. -/
import Derived.Test.YtnaijgmfjpmpjaaDoorRw
import Derived.Test.YtnaijgmfjpmpjaaDoorRg
import Derived.Deep.RegionLaw
import Derived.Test.YtnaijgmfjpmpjaaDoorSlD
namespace Go.Proofs.YtnaijgmfjpmpjaaDoor
open Go.RowKit Mx
set_option maxHeartbeats 1000000 in
set_option maxRecDepth 100000 in
theorem sameTexts_eq (H : Kn) (l : List ByteArray) (v1 v2 : Value) (h1 : StrsV H l v1) (h2 : StrsV H l v2) (hl : l.length ≤ 1000000000) (w : World) (hH : H.In w) :
    Calls Tryd.prog 13 #[v1, v2] w fun e w' => e = .returned (.bool true) ∧ Below w.heap.size w w' := by
  obtain ⟨a1, c1, rfl⟩ := h1.len
  obtain ⟨a2, c2, rfl⟩ := h2.len
  have H1 := Lib.hid h1
  have H2 := Lib.hid h2
  clear h1 h2
  go_enter Tryd.func13, Tryd.ntmps13
  go_wp2_with fail
  go_loopw [5] (fun i wr => ∃ (k m : Nat), i = .int .i64 k ∧ k ≤ l.length ∧ wr = w.drewN m) (fun i _ => l.length - (intOf i).toNat)
  case atStart => exact ⟨0, 0, rfl, Nat.zero_le _, rfl⟩
  case round =>
    obtain ⟨k, m, rfl, hk, rfl⟩ := hrel
    by_cases hlt : k < l.length
    · obtain ⟨b1, o1, e1, _, d1⟩ := SlV.at H1.out hlt
      obtain ⟨b2, o2, e2, _, d2⟩ := SlV.at H2.out hlt
      cases e1
      cases e2
      have d1 : H.cell b1 (o1 + k * 1 + 0) = some (.string l[k]) := d1
      have d2 : H.cell b2 (o2 + k * 1 + 0) = some (.string l[k]) := d2
      simp only [Nat.mul_one, Nat.add_zero] at d1 d2
      have d1 := hH.cell d1
      have d2 := hH.cell d2
      generalize l[k] = x at *
      go_wp2_with fail
      go_quiet (fail)
      go_wp2_with fail
      go_roundw
      case rel => exact ⟨k + 1, m + nq, by go_num, by omega, rfl⟩
      case measure => simp [intOf]; omega
    · go_wp2_with fail
      go_ret
      exact ⟨rfl, below_drewN (Below.refl _ _) _⟩
set_option maxHeartbeats 1000000 in
set_option maxRecDepth 100000 in
theorem sameVars_eq (H : Kn) (l : List Vr) (v1 v2 : Value) (h1 : VrsV H l v1) (h2 : VrsV H l v2) (hl : l.length ≤ 1000000000) (w : World) (hH : H.In w) :
    Calls Tryd.prog 32 #[v1, v2] w fun e w' => e = .returned (.bool true) ∧ Below w.heap.size w w' := by
  obtain ⟨a1, c1, rfl⟩ := h1.len
  obtain ⟨a2, c2, rfl⟩ := h2.len
  have H1 := Lib.hid h1
  have H2 := Lib.hid h2
  clear h1 h2
  go_enter Tryd.func32, Tryd.ntmps32
  go_wp2_with fail
  go_loopw [5] (fun i wr => ∃ (k m : Nat), i = .int .i64 k ∧ k ≤ l.length ∧ wr = w.drewN m) (fun i _ => l.length - (intOf i).toNat)
  case atStart => exact ⟨0, 0, rfl, Nat.zero_le _, rfl⟩
  case round =>
    obtain ⟨k, m, rfl, hk, rfl⟩ := hrel
    by_cases hlt : k < l.length
    · obtain ⟨b1, o1, e1, _, d1, d3⟩ := SlV.at H1.out hlt
      obtain ⟨b2, o2, e2, _, d2, d4⟩ := SlV.at H2.out hlt
      cases e1
      cases e2
      have d1 : H.cell b1 (o1 + k * 2 + 0) = some (.string l[k].name) := d1
      have d2 : H.cell b2 (o2 + k * 2 + 0) = some (.string l[k].name) := d2
      have d3 : H.cell b1 (o1 + k * 2 + 1) = some (.int .i64 l[k].kind) := d3
      have d4 : H.cell b2 (o2 + k * 2 + 1) = some (.int .i64 l[k].kind) := d4
      simp only [Nat.add_zero] at d1 d2
      have d1 := hH.cell d1
      have d2 := hH.cell d2
      have d3 := hH.cell d3
      have d4 := hH.cell d4
      generalize l[k] = x at *
      go_wp2_with fail
      go_quiet (fail)
      go_wp2_with fail
      go_roundw
      case rel => exact ⟨k + 1, m + nq, by go_num, by omega, rfl⟩
      case measure => simp [intOf]; omega
    · go_wp2_with fail
      go_ret
      exact ⟨rfl, below_drewN (Below.refl _ _) _⟩
set_option maxHeartbeats 4000000 in
set_option maxRecDepth 100000 in
theorem sameE_eq : ∀ (e : Ex), e.parts ≤ 1000000000000 → ∀ (H : Kn) (v1 v2 : Value), ExV H e v1 → ExV H e v2 → ∀ w : World, H.In w →
    Calls Tryd.prog 33 #[v1, v2] w fun e w' => e = .returned (.bool true) ∧ Below w.heap.size w w' := by
  refine Ex.ind fun o n s l ih hp H v1 v2 h1 h2 w hH => ?_
  obtain ⟨u1, rfl, hu1⟩ := h1
  obtain ⟨u2, rfl, hu2⟩ := h2
  simp only [Ex.op, Ex.n, Ex.s, Ex.l, Ex.parts] at hu1 hu2 hp ⊢
  obtain ⟨a1, c1, rfl⟩ := hu1.len
  obtain ⟨a2, c2, rfl⟩ := hu2.len
  have hlp := len_partsL l
  have H1 := Lib.hid hu1
  have H2 := Lib.hid hu2
  have IH := Lib.hid ih
  clear hu1 hu2 ih
  have hB0 : ((w.alloc (.cells #[.string o, .int .i64 n, .string s, .slice a1 l.length c1] 53)).alloc (.cells #[.string o, .int .i64 n, .string s, .slice a2 l.length c2] 53)).heap[w.heap.size]? = some (.cells #[.string o, .int .i64 n, .string s, .slice a1 l.length c1] 53 (0, 0)) := by
    rw [Below.heap_alloc _ _ _ (by simp)]; exact heap_alloc_new _ _
  have hB1 : ((w.alloc (.cells #[.string o, .int .i64 n, .string s, .slice a1 l.length c1] 53)).alloc (.cells #[.string o, .int .i64 n, .string s, .slice a2 l.length c2] 53)).heap[w.heap.size + 1]? = some (.cells #[.string o, .int .i64 n, .string s, .slice a2 l.length c2] 53 (0, 0)) := by
    rw [show w.heap.size + 1 = (w.alloc (.cells #[.string o, .int .i64 n, .string s, .slice a1 l.length c1] 53)).heap.size from by simp]; exact heap_alloc_new _ _
  have hb : Below w.heap.size w ((w.alloc (.cells #[.string o, .int .i64 n, .string s, .slice a1 l.length c1] 53)).alloc (.cells #[.string o, .int .i64 n, .string s, .slice a2 l.length c2] 53)) := ((Below.refl _ _).alloc (Nat.le_refl _) _).alloc (by simp) _
  have HB := Lib.hid hb
  have B0 := Lib.hid hB0
  have B1 := Lib.hid hB1
  clear hb hB0 hB1
  go_enter Tryd.func33, Tryd.ntmps33
  go_wp2_with fail
  generalize (w.alloc (.cells #[.string o, .int .i64 n, .string s, .slice a1 l.length c1] 53)).alloc (.cells #[.string o, .int .i64 n, .string s, .slice a2 l.length c2] 53) = W0 at *
  go_loopw [5] (fun i wr => ∃ k : Nat, i = .int .i64 k ∧ k ≤ l.length ∧ Below W0.heap.size W0 wr) (fun i _ => l.length - (intOf i).toNat)
  case atStart => exact ⟨0, rfl, Nat.zero_le _, Below.refl _ _⟩
  case round =>
    obtain ⟨k, rfl, hk, hbr⟩ := hrel
    have HBR := Lib.hid (HB.out.trans (hbr.mono HB.out.size))
    have g0 := (hbr.block _ (Array.getElem?_eq_some_iff.1 B0.out).1).trans B0.out
    have g1 := (hbr.block _ (Array.getElem?_eq_some_iff.1 B1.out).1).trans B1.out
    have m3 : wr.cell? ⟨w.heap.size, 3, none⟩ = some (.slice a1 l.length c1) := (cells4_of g0).2.2.2.1
    have n3 : wr.cell? ⟨w.heap.size + 1, 3, none⟩ = some (.slice a2 l.length c2) := (cells4_of g1).2.2.2.1
    have HBK := Lib.hid hbr
    clear hbr g0 g1
    by_cases hkl : k < l.length
    · obtain ⟨b1, o1, ax, cx, rfl, d0, d1, d2, d3, hx⟩ := H1.out.at hkl
      obtain ⟨b2, o2, ay, cy, rfl, f0, f1, f2, f3, hy⟩ := H2.out.at hkl
      have hHr := hH.below HBR.out
      have hmem : l[k] ∈ l := List.getElem_mem hkl
      have hpx := getElem_parts l k hkl
      generalize l[k] = x at *
      have d0 : wr.drew.cell? _ = _ := hHr.cell d0
      have d1 : wr.drew.cell? _ = _ := hHr.cell d1
      have d2 : wr.drew.cell? _ = _ := hHr.cell d2
      have d3 : wr.drew.cell? _ = _ := hHr.cell d3
      have f0 : wr.drew.cell? _ = _ := hHr.cell f0
      have f1 : wr.drew.cell? _ = _ := hHr.cell f1
      have f2 : wr.drew.cell? _ = _ := hHr.cell f2
      have f3 : wr.drew.cell? _ = _ := hHr.cell f3
      have m3 : wr.drew.cell? ⟨w.heap.size, 3, none⟩ = some (.slice (some ⟨b1, o1, none⟩) l.length c1) := m3
      have n3 : wr.drew.cell? ⟨w.heap.size + 1, 3, none⟩ = some (.slice (some ⟨b2, o2, none⟩) l.length c2) := n3
      have HC := Lib.hid (IH.out x hmem (by omega) H _ _ hx hy wr.drew hHr.drew)
      have HBD := Lib.hid (HBK.out.drew)
      clear hx hy
      go_wp2_with fail
      go_region_law ((go_simp; go_at_call 33; refine HC.out.mono ?_; rintro r wc ⟨rfl, hbc⟩; have hfin := HBD.out.trans (hbc.mono HBD.out.size)))
      all_goals go_wp2_with fail
      all_goals go_roundw
      all_goals first | (simp [intOf]; omega) | exact ⟨k + 1, by go_num, by omega, hfin⟩
    · go_wp2_with fail
      go_ret
      exact ⟨rfl, HBR.out⟩
set_option maxHeartbeats 4000000 in
set_option maxRecDepth 100000 in
theorem sameEs_eq (H : Kn) (l : List Ex) (v1 v2 : Value) (h1 : ExsV H l v1) (h2 : ExsV H l v2) (hp : Ex.partsL l ≤ 1000000000000) (w : World) (hH : H.In w) :
    Calls Tryd.prog 34 #[v1, v2] w fun e w' => e = .returned (.bool true) ∧ Below w.heap.size w w' := by
  obtain ⟨a1, c1, rfl⟩ := h1.len
  obtain ⟨a2, c2, rfl⟩ := h2.len
  have hlp := len_partsL l
  have H1 := Lib.hid h1
  have H2 := Lib.hid h2
  clear h1 h2
  go_enter Tryd.func34, Tryd.ntmps34
  go_wp2_with fail
  go_loopw [5] (fun i wr => ∃ k : Nat, i = .int .i64 k ∧ k ≤ l.length ∧ Below w.heap.size w wr) (fun i _ => l.length - (intOf i).toNat)
  case atStart => exact ⟨0, rfl, Nat.zero_le _, Below.refl _ _⟩
  case round =>
    obtain ⟨k, rfl, hk, hbr⟩ := hrel
    by_cases hkl : k < l.length
    · obtain ⟨b1, o1, ax, cx, rfl, d0, d1, d2, d3, hx⟩ := H1.out.at hkl
      obtain ⟨b2, o2, ay, cy, rfl, f0, f1, f2, f3, hy⟩ := H2.out.at hkl
      have hHr := hH.below hbr
      have hpx := getElem_parts l k hkl
      generalize l[k] = x at *
      have d0 : wr.drew.cell? _ = _ := hHr.cell d0
      have d1 : wr.drew.cell? _ = _ := hHr.cell d1
      have d2 : wr.drew.cell? _ = _ := hHr.cell d2
      have d3 : wr.drew.cell? _ = _ := hHr.cell d3
      have f0 : wr.drew.cell? _ = _ := hHr.cell f0
      have f1 : wr.drew.cell? _ = _ := hHr.cell f1
      have f2 : wr.drew.cell? _ = _ := hHr.cell f2
      have f3 : wr.drew.cell? _ = _ := hHr.cell f3
      have HC := Lib.hid (sameE_eq x (by omega) H _ _ hx hy wr.drew hHr.drew)
      have HBD := Lib.hid (hbr.drew)
      clear hx hy
      go_wp2_with fail
      go_region_law ((go_simp; go_at_call 33; refine HC.out.mono ?_; rintro r wc ⟨rfl, hbc⟩; have hfin := HBD.out.trans (hbc.mono HBD.out.size)))
      all_goals go_wp2_with fail
      all_goals go_roundw
      all_goals first | (simp [intOf]; omega) | exact ⟨k + 1, by go_num, by omega, hfin⟩
    · go_wp2_with fail
      go_ret
      exact ⟨rfl, hbr⟩
end Go.Proofs.YtnaijgmfjpmpjaaDoor
namespace Go.Proofs.YtnaijgmfjpmpjaaDoor
open Go.RowKit Mx
theorem Kn.le.isin' {H K : Kn} {w : World} (h : H.le K) (hK : K.In w) : H.In w := fun b o e => hK b o (h b o e)
set_option maxHeartbeats 16000000 in
set_option maxRecDepth 100000 in
theorem samePrograms_eq (H : Kn) (p : Pr) (vi vo vl va vc ui uo ul ua uc : Value) (hp1 : PrP H p vi vo vl va vc) (hp2 : PrP H p ui uo ul ua uc) (hsz : p.ins.length ≤ 1000000000 ∧ p.outs.length ≤ 1000000000 ∧ p.fl.length ≤ 1000000000 ∧ Ex.partsL p.terms ≤ 1000000000) (w : World) (hH : H.In w) :
    Calls Tryd.prog 9 #[.agg #[vi, vo, vl, va, vc], .agg #[ui, uo, ul, ua, uc]] w fun r w' => r = .returned (.bool true) ∧ Below w.heap.size w w' := by
  obtain ⟨s1, s2, s3, s4⟩ := hsz
  have hpt : Ex.partsL (p.fl.map (·.e)) ≤ 1000000000 ∧ Ex.partsL p.as ≤ 1000000000 ∧ Ex.partsL p.cs ≤ 1000000000 := by
    unfold Pr.terms at s4
    rw [partsL_app, partsL_app] at s4
    omega
  obtain ⟨t1, t2, t3⟩ := hpt
  obtain ⟨h1, h2, h3, h4, h5⟩ := hp1
  obtain ⟨k1, k2, k3, k4, k5⟩ := hp2
  obtain ⟨ai1, ci1, rfl⟩ := h1.len
  obtain ⟨ao1, co1, rfl⟩ := h2.len
  obtain ⟨al1, cl1, rfl⟩ := h3.len
  obtain ⟨aa1, ca1, rfl⟩ := h4.len
  obtain ⟨ac1, cc1, rfl⟩ := h5.len
  obtain ⟨ai2, ci2, rfl⟩ := k1.len
  obtain ⟨ao2, co2, rfl⟩ := k2.len
  obtain ⟨al2, cl2, rfl⟩ := k3.len
  obtain ⟨aa2, ca2, rfl⟩ := k4.len
  obtain ⟨ac2, cc2, rfl⟩ := k5.len
  have H1 := Lib.hid h1
  have K1 := Lib.hid k1
  have H2 := Lib.hid h2
  have K2 := Lib.hid k2
  have H3 := Lib.hid h3
  have K3 := Lib.hid k3
  have H4 := Lib.hid h4
  have K4 := Lib.hid k4
  have H5 := Lib.hid h5
  have K5 := Lib.hid k5
  clear h1 h2 h3 h4 h5 k1 k2 k3 k4 k5 s4
  have hB0 : ((w.alloc (.cells #[.slice ai1 p.ins.length ci1, .slice ao1 p.outs.length co1, .slice al1 p.fl.length cl1, .slice aa1 p.as.length ca1, .slice ac1 p.cs.length cc1] 27)).alloc (.cells #[.slice ai2 p.ins.length ci2, .slice ao2 p.outs.length co2, .slice al2 p.fl.length cl2, .slice aa2 p.as.length ca2, .slice ac2 p.cs.length cc2] 27)).heap[w.heap.size]? = some (.cells #[.slice ai1 p.ins.length ci1, .slice ao1 p.outs.length co1, .slice al1 p.fl.length cl1, .slice aa1 p.as.length ca1, .slice ac1 p.cs.length cc1] 27 (0, 0)) := by
    rw [Below.heap_alloc _ _ _ (by simp)]; exact heap_alloc_new _ _
  have hB1 : ((w.alloc (.cells #[.slice ai1 p.ins.length ci1, .slice ao1 p.outs.length co1, .slice al1 p.fl.length cl1, .slice aa1 p.as.length ca1, .slice ac1 p.cs.length cc1] 27)).alloc (.cells #[.slice ai2 p.ins.length ci2, .slice ao2 p.outs.length co2, .slice al2 p.fl.length cl2, .slice aa2 p.as.length ca2, .slice ac2 p.cs.length cc2] 27)).heap[w.heap.size + 1]? = some (.cells #[.slice ai2 p.ins.length ci2, .slice ao2 p.outs.length co2, .slice al2 p.fl.length cl2, .slice aa2 p.as.length ca2, .slice ac2 p.cs.length cc2] 27 (0, 0)) := by
    rw [show w.heap.size + 1 = (w.alloc (.cells #[.slice ai1 p.ins.length ci1, .slice ao1 p.outs.length co1, .slice al1 p.fl.length cl1, .slice aa1 p.as.length ca1, .slice ac1 p.cs.length cc1] 27)).heap.size from by simp]; exact heap_alloc_new _ _
  have HB := Lib.hid (show Below w.heap.size w ((w.alloc (.cells #[.slice ai1 p.ins.length ci1, .slice ao1 p.outs.length co1, .slice al1 p.fl.length cl1, .slice aa1 p.as.length ca1, .slice ac1 p.cs.length cc1] 27)).alloc (.cells #[.slice ai2 p.ins.length ci2, .slice ao2 p.outs.length co2, .slice al2 p.fl.length cl2, .slice aa2 p.as.length ca2, .slice ac2 p.cs.length cc2] 27)) from ((Below.refl _ _).alloc (Nat.le_refl _) _).alloc (by simp) _)
  have B0 := Lib.hid hB0
  have B1 := Lib.hid hB1
  obtain ⟨⟨m0, m1, m2, m3, m4⟩, _⟩ := cells5_of hB0
  obtain ⟨⟨n0, n1, n2, n3, n4⟩, _⟩ := cells5_of hB1
  clear hB0 hB1
  go_enter Tryd.func9, Tryd.ntmps9
  go_wp2_with fail
  generalize (w.alloc (.cells #[.slice ai1 p.ins.length ci1, .slice ao1 p.outs.length co1, .slice al1 p.fl.length cl1, .slice aa1 p.as.length ca1, .slice ac1 p.cs.length cc1] 27)).alloc (.cells #[.slice ai2 p.ins.length ci2, .slice ao2 p.outs.length co2, .slice al2 p.fl.length cl2, .slice aa2 p.as.length ca2, .slice ac2 p.cs.length cc2] 27) = W0 at *
  have HBW0 := Lib.hid (Below.refl W0.heap.size W0)
  have PW0 := B0
  have QW0 := B1
  clear B0 B1
  have HH := Lib.hid (hH.below HB.out)
  refine (sameVars_eq H p.ins _ _ H1.out K1.out (by omega) W0 HH.out).mono ?_
  rintro r w1 ⟨rfl, hbw1⟩
  have HBw1 := Lib.hid (HBW0.out.trans (hbw1.mono HBW0.out.size))
  have Pw1 := Lib.hid ((hbw1.block _ (Array.getElem?_eq_some_iff.1 PW0.out).1).trans PW0.out)
  have Qw1 := Lib.hid ((hbw1.block _ (Array.getElem?_eq_some_iff.1 QW0.out).1).trans QW0.out)
  clear hbw1 m0 m1 m2 m3 m4 n0 n1 n2 n3 n4
  obtain ⟨⟨m0, m1, m2, m3, m4⟩, _⟩ := cells5_of Pw1.out
  obtain ⟨⟨n0, n1, n2, n3, n4⟩, _⟩ := cells5_of Qw1.out
  go_wp2_with fail
  refine (sameTexts_eq H p.outs _ _ H2.out K2.out (by omega) w1 (HH.out.below HBw1.out)).mono ?_
  rintro r w2 ⟨rfl, hbw2⟩
  have HBw2 := Lib.hid (HBw1.out.trans (hbw2.mono HBw1.out.size))
  have Pw2 := Lib.hid ((hbw2.block _ (Array.getElem?_eq_some_iff.1 Pw1.out).1).trans Pw1.out)
  have Qw2 := Lib.hid ((hbw2.block _ (Array.getElem?_eq_some_iff.1 Qw1.out).1).trans Qw1.out)
  clear hbw2 m0 m1 m2 m3 m4 n0 n1 n2 n3 n4
  obtain ⟨⟨m0, m1, m2, m3, m4⟩, _⟩ := cells5_of Pw2.out
  obtain ⟨⟨n0, n1, n2, n3, n4⟩, _⟩ := cells5_of Qw2.out
  go_wp2_with fail
  go_loopw [5] (fun i wr => ∃ k : Nat, i = .int .i64 k ∧ k ≤ p.fl.length ∧ Below w2.heap.size w2 wr) (fun i _ => p.fl.length - (intOf i).toNat)
  case atStart => exact ⟨0, rfl, Nat.zero_le _, Below.refl _ _⟩
  case round =>
    obtain ⟨k, rfl, hk, hbr⟩ := hrel
    have HBR := Lib.hid (HBw2.out.trans (hbr.mono HBw2.out.size))
    have HBK := Lib.hid hbr
    have Pwr := Lib.hid ((hbr.block _ (Array.getElem?_eq_some_iff.1 Pw2.out).1).trans Pw2.out)
    have Qwr := Lib.hid ((hbr.block _ (Array.getElem?_eq_some_iff.1 Qw2.out).1).trans Qw2.out)
    clear hbr m0 m1 m2 m3 m4 n0 n1 n2 n3 n4
    obtain ⟨⟨m0, m1, m2, m3, m4⟩, _⟩ := cells5_of Pwr.out
    obtain ⟨⟨n0, n1, n2, n3, n4⟩, _⟩ := cells5_of Qwr.out
    by_cases hkl : k < p.fl.length
    · obtain ⟨b, off, cap0, he, _, _, hcs⟩ := FlsV.cell H3.out (fun e => by rw [e] at hkl; simp at hkl)
      cases he
      obtain ⟨b', off', cap0', he, _, _, hcs'⟩ := FlsV.cell K3.out (fun e => by rw [e] at hkl; simp at hkl)
      cases he
      obtain ⟨ax, cx, d0, d1, d2, d3, d4, d5, hx⟩ := hcs k hkl
      obtain ⟨ay, cy, f0, f1, f2, f3, f4, f5, hy⟩ := hcs' k hkl
      have hpx := getElem_parts (p.fl.map (·.e)) k (by simpa using hkl)
      simp only [List.getElem_map] at hpx
      generalize p.fl[k] = x at *
      have hHr := HH.out.below HBR.out
      have hin := (allKn_in wr)
      have hle : H.le (allKn wr) := fun b o e => hHr b o e
      have d0 := hle.cell d0
      have d1 := hle.cell d1
      have d2 := hle.cell d2
      have d3 := hle.cell d3
      have d4 := hle.cell d4
      have d5 := hle.cell d5
      have f0 := hle.cell f0
      have f1 := hle.cell f1
      have f2 := hle.cell f2
      have f3 := hle.cell f3
      have f4 := hle.cell f4
      have f5 := hle.cell f5
      have hl1 : (allKn wr).cell w.heap.size 2 = some (.slice (some ⟨b, off, none⟩) p.fl.length cl1) := by rw [allKn_cell]; exact m2
      have hl2 : (allKn wr).cell (w.heap.size + 1) 2 = some (.slice (some ⟨b', off', none⟩) p.fl.length cl2) := by rw [allKn_cell]; exact n2
      have HX := Lib.hid (And.intro hx hy)
      clear hcs hcs' hx hy
      go_wp2_with fail
      have hS2 : (allKn wr).In wr.drew := hin.drew
      have hbd : Below w2.heap.size w2 wr.drew := HBK.out.drew
      refine wp_region_2 (fun w' => (allKn wr).In w' ∧ Below w2.heap.size w2 w') (fun _ => True) 99 (by kernel_rfl) ?_
      generalize wr.drew = wd at hS2 hbd ⊢
      refine wpAny2_take (i := 0) (oi := _) (v := ?_) rfl (by decide) (by kernel_rfl) (by kernel_rfl) (by kernel_rfl) (by kernel_rfl) (fun _ _ _ h => h) ⟨hS2, hbd⟩ (fun _ => trivial) (Or.inl ⟨by rfl, ?hy⟩) ?_
      case hy => intro w hSw; have z0 := hSw.1.cell hl1; have z1 := hSw.1.cell hl2; have z2 := hSw.1.cell d0; have z3 := hSw.1.cell d1; have z4 := hSw.1.cell d2; have z5 := hSw.1.cell d3; have z6 := hSw.1.cell d4; have z7 := hSw.1.cell d5; have z8 := hSw.1.cell f0; have z9 := hSw.1.cell f1; have z10 := hSw.1.cell f2; have z11 := hSw.1.cell f3; have z12 := hSw.1.cell f4; have z13 := hSw.1.cell f5; first | (go_simp; done) | (go_simp; with_reducible rfl)
      try simp only [Act.put, List.setIfInBounds_toArray, List.set_cons_zero, List.set_cons_succ, List.getElem_toArray, List.getElem_cons_zero, List.getElem_cons_succ]
      refine wpAny2_take (i := 1) (oi := _) (v := ?_) rfl (by decide) (by kernel_rfl) (by kernel_rfl) (by kernel_rfl) (by kernel_rfl) (fun _ _ _ h => h) ⟨hS2, hbd⟩ (fun _ => trivial) (Or.inl ⟨by rfl, ?hy⟩) ?_
      case hy => intro w hSw; have z0 := hSw.1.cell hl1; have z1 := hSw.1.cell hl2; have z2 := hSw.1.cell d0; have z3 := hSw.1.cell d1; have z4 := hSw.1.cell d2; have z5 := hSw.1.cell d3; have z6 := hSw.1.cell d4; have z7 := hSw.1.cell d5; have z8 := hSw.1.cell f0; have z9 := hSw.1.cell f1; have z10 := hSw.1.cell f2; have z11 := hSw.1.cell f3; have z12 := hSw.1.cell f4; have z13 := hSw.1.cell f5; first | (go_simp; done) | (go_simp; with_reducible rfl)
      try simp only [Act.put, List.setIfInBounds_toArray, List.set_cons_zero, List.set_cons_succ, List.getElem_toArray, List.getElem_cons_zero, List.getElem_cons_succ]
      refine wpAny2_take (i := 2) (oi := _) (v := ?_) rfl (by decide) (by kernel_rfl) (by kernel_rfl) (by kernel_rfl) (by kernel_rfl) (fun _ _ _ h => h) ⟨hS2, hbd⟩ (fun _ => trivial) (Or.inl ⟨by rfl, ?hy⟩) ?_
      case hy => intro w hSw; have z0 := hSw.1.cell hl1; have z1 := hSw.1.cell hl2; have z2 := hSw.1.cell d0; have z3 := hSw.1.cell d1; have z4 := hSw.1.cell d2; have z5 := hSw.1.cell d3; have z6 := hSw.1.cell d4; have z7 := hSw.1.cell d5; have z8 := hSw.1.cell f0; have z9 := hSw.1.cell f1; have z10 := hSw.1.cell f2; have z11 := hSw.1.cell f3; have z12 := hSw.1.cell f4; have z13 := hSw.1.cell f5; first | (go_simp; done) | (go_simp; with_reducible rfl)
      try simp only [Act.put, List.setIfInBounds_toArray, List.set_cons_zero, List.set_cons_succ, List.getElem_toArray, List.getElem_cons_zero, List.getElem_cons_succ]
      refine wpAny2_take (i := 3) (oi := _) (v := ?_) rfl (by decide) (by kernel_rfl) (by kernel_rfl) (by kernel_rfl) (by kernel_rfl) (fun _ _ _ h => h) ⟨hS2, hbd⟩ (fun _ => trivial) (Or.inl ⟨by rfl, ?hy⟩) ?_
      case hy => intro w hSw; have z0 := hSw.1.cell hl1; have z1 := hSw.1.cell hl2; have z2 := hSw.1.cell d0; have z3 := hSw.1.cell d1; have z4 := hSw.1.cell d2; have z5 := hSw.1.cell d3; have z6 := hSw.1.cell d4; have z7 := hSw.1.cell d5; have z8 := hSw.1.cell f0; have z9 := hSw.1.cell f1; have z10 := hSw.1.cell f2; have z11 := hSw.1.cell f3; have z12 := hSw.1.cell f4; have z13 := hSw.1.cell f5; first | (go_simp; done) | (go_simp; with_reducible rfl)
      try simp only [Act.put, List.setIfInBounds_toArray, List.set_cons_zero, List.set_cons_succ, List.getElem_toArray, List.getElem_cons_zero, List.getElem_cons_succ]
      refine wpAny2_take (i := 4) (oi := _) (v := ?_) rfl (by decide) (by kernel_rfl) (by kernel_rfl) (by kernel_rfl) (by kernel_rfl) (fun _ _ _ h => h) ⟨hS2, hbd⟩ (fun _ => trivial) (Or.inl ⟨by rfl, ?hy⟩) ?_
      case hy => intro w hSw; have z0 := hSw.1.cell hl1; have z1 := hSw.1.cell hl2; have z2 := hSw.1.cell d0; have z3 := hSw.1.cell d1; have z4 := hSw.1.cell d2; have z5 := hSw.1.cell d3; have z6 := hSw.1.cell d4; have z7 := hSw.1.cell d5; have z8 := hSw.1.cell f0; have z9 := hSw.1.cell f1; have z10 := hSw.1.cell f2; have z11 := hSw.1.cell f3; have z12 := hSw.1.cell f4; have z13 := hSw.1.cell f5; first | (go_simp; done) | (go_simp; with_reducible rfl)
      try simp only [Act.put, List.setIfInBounds_toArray, List.set_cons_zero, List.set_cons_succ, List.getElem_toArray, List.getElem_cons_zero, List.getElem_cons_succ]
      refine wpAny2_take (i := 5) (oi := _) (v := ?_) rfl (by decide) (by kernel_rfl) (by kernel_rfl) (by kernel_rfl) (by kernel_rfl) (fun _ _ _ h => h) ⟨hS2, hbd⟩ (fun _ => trivial) (Or.inl ⟨by rfl, ?hy⟩) ?_
      case hy => intro w hSw; have z0 := hSw.1.cell hl1; have z1 := hSw.1.cell hl2; have z2 := hSw.1.cell d0; have z3 := hSw.1.cell d1; have z4 := hSw.1.cell d2; have z5 := hSw.1.cell d3; have z6 := hSw.1.cell d4; have z7 := hSw.1.cell d5; have z8 := hSw.1.cell f0; have z9 := hSw.1.cell f1; have z10 := hSw.1.cell f2; have z11 := hSw.1.cell f3; have z12 := hSw.1.cell f4; have z13 := hSw.1.cell f5; first | (go_simp; done) | (go_simp; with_reducible rfl)
      try simp only [Act.put, List.setIfInBounds_toArray, List.set_cons_zero, List.set_cons_succ, List.getElem_toArray, List.getElem_cons_zero, List.getElem_cons_succ]
      refine wpAny2_take (i := 6) (oi := _) (v := ?_) rfl (by decide) (by kernel_rfl) (by kernel_rfl) (by kernel_rfl) (by kernel_rfl) (fun _ _ _ h => h) ⟨hS2, hbd⟩ (fun _ => trivial) (Or.inl ⟨by rfl, ?hy⟩) ?_
      case hy => intro w hSw; have z0 := hSw.1.cell hl1; have z1 := hSw.1.cell hl2; have z2 := hSw.1.cell d0; have z3 := hSw.1.cell d1; have z4 := hSw.1.cell d2; have z5 := hSw.1.cell d3; have z6 := hSw.1.cell d4; have z7 := hSw.1.cell d5; have z8 := hSw.1.cell f0; have z9 := hSw.1.cell f1; have z10 := hSw.1.cell f2; have z11 := hSw.1.cell f3; have z12 := hSw.1.cell f4; have z13 := hSw.1.cell f5; first | (go_simp; done) | (go_simp; with_reducible rfl)
      try simp only [Act.put, List.setIfInBounds_toArray, List.set_cons_zero, List.set_cons_succ, List.getElem_toArray, List.getElem_cons_zero, List.getElem_cons_succ]
      refine wpAny2_take (i := 7) (oi := _) (v := ?_) rfl (by decide) (by kernel_rfl) (by kernel_rfl) (by kernel_rfl) (by kernel_rfl) (fun _ _ _ h => h) ⟨hS2, hbd⟩ (fun _ => trivial) (Or.inl ⟨by rfl, ?hy⟩) ?_
      case hy => intro w hSw; have z0 := hSw.1.cell hl1; have z1 := hSw.1.cell hl2; have z2 := hSw.1.cell d0; have z3 := hSw.1.cell d1; have z4 := hSw.1.cell d2; have z5 := hSw.1.cell d3; have z6 := hSw.1.cell d4; have z7 := hSw.1.cell d5; have z8 := hSw.1.cell f0; have z9 := hSw.1.cell f1; have z10 := hSw.1.cell f2; have z11 := hSw.1.cell f3; have z12 := hSw.1.cell f4; have z13 := hSw.1.cell f5; first | (go_simp; done) | (go_simp; with_reducible rfl)
      try simp only [Act.put, List.setIfInBounds_toArray, List.set_cons_zero, List.set_cons_succ, List.getElem_toArray, List.getElem_cons_zero, List.getElem_cons_succ]
      refine wpAny2_take (i := 8) (oi := _) (v := ?_) rfl (by decide) (by kernel_rfl) (by kernel_rfl) (by kernel_rfl) (by kernel_rfl) (fun _ _ _ h => h) ⟨hS2, hbd⟩ (fun _ => trivial) (Or.inl ⟨by rfl, ?hy⟩) ?_
      case hy => intro w hSw; have z0 := hSw.1.cell hl1; have z1 := hSw.1.cell hl2; have z2 := hSw.1.cell d0; have z3 := hSw.1.cell d1; have z4 := hSw.1.cell d2; have z5 := hSw.1.cell d3; have z6 := hSw.1.cell d4; have z7 := hSw.1.cell d5; have z8 := hSw.1.cell f0; have z9 := hSw.1.cell f1; have z10 := hSw.1.cell f2; have z11 := hSw.1.cell f3; have z12 := hSw.1.cell f4; have z13 := hSw.1.cell f5; first | (go_simp; done) | (go_simp; with_reducible rfl)
      try simp only [Act.put, List.setIfInBounds_toArray, List.set_cons_zero, List.set_cons_succ, List.getElem_toArray, List.getElem_cons_zero, List.getElem_cons_succ]
      refine wpAny2_take (i := 9) (oi := _) (v := ?_) rfl (by decide) (by kernel_rfl) (by kernel_rfl) (by kernel_rfl) (by kernel_rfl) (fun _ _ _ h => h) ⟨hS2, hbd⟩ (fun _ => trivial) (Or.inl ⟨by rfl, ?hy⟩) ?_
      case hy => intro w hSw; have z0 := hSw.1.cell hl1; have z1 := hSw.1.cell hl2; have z2 := hSw.1.cell d0; have z3 := hSw.1.cell d1; have z4 := hSw.1.cell d2; have z5 := hSw.1.cell d3; have z6 := hSw.1.cell d4; have z7 := hSw.1.cell d5; have z8 := hSw.1.cell f0; have z9 := hSw.1.cell f1; have z10 := hSw.1.cell f2; have z11 := hSw.1.cell f3; have z12 := hSw.1.cell f4; have z13 := hSw.1.cell f5; first | (go_simp; done) | (go_simp; with_reducible rfl)
      try simp only [Act.put, List.setIfInBounds_toArray, List.set_cons_zero, List.set_cons_succ, List.getElem_toArray, List.getElem_cons_zero, List.getElem_cons_succ]
      refine wpAny2_take (i := 10) (oi := _) (v := ?_) rfl (by decide) (by kernel_rfl) (by kernel_rfl) (by kernel_rfl) (by kernel_rfl) (fun _ _ _ h => h) ⟨hS2, hbd⟩ (fun _ => trivial) (Or.inl ⟨by rfl, ?hy⟩) ?_
      case hy => intro w hSw; have z0 := hSw.1.cell hl1; have z1 := hSw.1.cell hl2; have z2 := hSw.1.cell d0; have z3 := hSw.1.cell d1; have z4 := hSw.1.cell d2; have z5 := hSw.1.cell d3; have z6 := hSw.1.cell d4; have z7 := hSw.1.cell d5; have z8 := hSw.1.cell f0; have z9 := hSw.1.cell f1; have z10 := hSw.1.cell f2; have z11 := hSw.1.cell f3; have z12 := hSw.1.cell f4; have z13 := hSw.1.cell f5; first | (go_simp; done) | (go_simp; with_reducible rfl)
      try simp only [Act.put, List.setIfInBounds_toArray, List.set_cons_zero, List.set_cons_succ, List.getElem_toArray, List.getElem_cons_zero, List.getElem_cons_succ]
      refine wpAny2_take (i := 11) (oi := _) (v := ?_) rfl (by decide) (by kernel_rfl) (by kernel_rfl) (by kernel_rfl) (by kernel_rfl) (fun _ _ _ h => h) ⟨hS2, hbd⟩ (fun _ => trivial) (Or.inl ⟨by rfl, ?hy⟩) ?_
      case hy => intro w hSw; have z0 := hSw.1.cell hl1; have z1 := hSw.1.cell hl2; have z2 := hSw.1.cell d0; have z3 := hSw.1.cell d1; have z4 := hSw.1.cell d2; have z5 := hSw.1.cell d3; have z6 := hSw.1.cell d4; have z7 := hSw.1.cell d5; have z8 := hSw.1.cell f0; have z9 := hSw.1.cell f1; have z10 := hSw.1.cell f2; have z11 := hSw.1.cell f3; have z12 := hSw.1.cell f4; have z13 := hSw.1.cell f5; first | (go_simp; done) | (go_simp; with_reducible rfl)
      try simp only [Act.put, List.setIfInBounds_toArray, List.set_cons_zero, List.set_cons_succ, List.getElem_toArray, List.getElem_cons_zero, List.getElem_cons_succ]
      refine wpAny2_take (i := 12) (oi := _) (v := ?_) rfl (by decide) (by kernel_rfl) (by kernel_rfl) (by kernel_rfl) (by kernel_rfl) (fun _ _ _ h => h) ⟨hS2, hbd⟩ (fun _ => trivial) (Or.inl ⟨by rfl, ?hy⟩) ?_
      case hy => intro w hSw; have z0 := hSw.1.cell hl1; have z1 := hSw.1.cell hl2; have z2 := hSw.1.cell d0; have z3 := hSw.1.cell d1; have z4 := hSw.1.cell d2; have z5 := hSw.1.cell d3; have z6 := hSw.1.cell d4; have z7 := hSw.1.cell d5; have z8 := hSw.1.cell f0; have z9 := hSw.1.cell f1; have z10 := hSw.1.cell f2; have z11 := hSw.1.cell f3; have z12 := hSw.1.cell f4; have z13 := hSw.1.cell f5; first | (go_simp; done) | (go_simp; with_reducible rfl)
      try simp only [Act.put, List.setIfInBounds_toArray, List.set_cons_zero, List.set_cons_succ, List.getElem_toArray, List.getElem_cons_zero, List.getElem_cons_succ]
      refine wpAny2_take (i := 13) (oi := _) (v := ?_) rfl (by decide) (by kernel_rfl) (by kernel_rfl) (by kernel_rfl) (by kernel_rfl) (fun _ _ _ h => h) ⟨hS2, hbd⟩ (fun _ => trivial) (Or.inl ⟨by rfl, ?hy⟩) ?_
      case hy => intro w hSw; have z0 := hSw.1.cell hl1; have z1 := hSw.1.cell hl2; have z2 := hSw.1.cell d0; have z3 := hSw.1.cell d1; have z4 := hSw.1.cell d2; have z5 := hSw.1.cell d3; have z6 := hSw.1.cell d4; have z7 := hSw.1.cell d5; have z8 := hSw.1.cell f0; have z9 := hSw.1.cell f1; have z10 := hSw.1.cell f2; have z11 := hSw.1.cell f3; have z12 := hSw.1.cell f4; have z13 := hSw.1.cell f5; first | (go_simp; done) | (go_simp; with_reducible rfl)
      try simp only [Act.put, List.setIfInBounds_toArray, List.set_cons_zero, List.set_cons_succ, List.getElem_toArray, List.getElem_cons_zero, List.getElem_cons_succ]
      refine wpAny2_take (i := 14) (oi := _) (v := ?_) rfl (by decide) (by kernel_rfl) (by kernel_rfl) (by kernel_rfl) (by kernel_rfl) (fun _ _ _ h => h) ⟨hS2, hbd⟩ (fun _ => trivial) (Or.inl ⟨by rfl, ?hy⟩) ?_
      case hy => intro w hSw; have z0 := hSw.1.cell hl1; have z1 := hSw.1.cell hl2; have z2 := hSw.1.cell d0; have z3 := hSw.1.cell d1; have z4 := hSw.1.cell d2; have z5 := hSw.1.cell d3; have z6 := hSw.1.cell d4; have z7 := hSw.1.cell d5; have z8 := hSw.1.cell f0; have z9 := hSw.1.cell f1; have z10 := hSw.1.cell f2; have z11 := hSw.1.cell f3; have z12 := hSw.1.cell f4; have z13 := hSw.1.cell f5; first | (go_simp; done) | (go_simp; with_reducible rfl)
      try simp only [Act.put, List.setIfInBounds_toArray, List.set_cons_zero, List.set_cons_succ, List.getElem_toArray, List.getElem_cons_zero, List.getElem_cons_succ]
      refine wpAny2_take (i := 15) (oi := _) (v := ?_) rfl (by decide) (by kernel_rfl) (by kernel_rfl) (by kernel_rfl) (by kernel_rfl) (fun _ _ _ h => h) ⟨hS2, hbd⟩ (fun _ => trivial) (Or.inl ⟨by rfl, ?hy⟩) ?_
      case hy => intro w hSw; have z0 := hSw.1.cell hl1; have z1 := hSw.1.cell hl2; have z2 := hSw.1.cell d0; have z3 := hSw.1.cell d1; have z4 := hSw.1.cell d2; have z5 := hSw.1.cell d3; have z6 := hSw.1.cell d4; have z7 := hSw.1.cell d5; have z8 := hSw.1.cell f0; have z9 := hSw.1.cell f1; have z10 := hSw.1.cell f2; have z11 := hSw.1.cell f3; have z12 := hSw.1.cell f4; have z13 := hSw.1.cell f5; first | (go_simp; done) | (go_simp; with_reducible rfl)
      try simp only [Act.put, List.setIfInBounds_toArray, List.set_cons_zero, List.set_cons_succ, List.getElem_toArray, List.getElem_cons_zero, List.getElem_cons_succ]
      refine wpAny2_take (i := 16) (oi := _) (v := ?_) rfl (by decide) (by kernel_rfl) (by kernel_rfl) (by kernel_rfl) (by kernel_rfl) (fun _ _ _ h => h) ⟨hS2, hbd⟩ (fun _ => trivial) (Or.inl ⟨by rfl, ?hy⟩) ?_
      case hy => intro w hSw; have z0 := hSw.1.cell hl1; have z1 := hSw.1.cell hl2; have z2 := hSw.1.cell d0; have z3 := hSw.1.cell d1; have z4 := hSw.1.cell d2; have z5 := hSw.1.cell d3; have z6 := hSw.1.cell d4; have z7 := hSw.1.cell d5; have z8 := hSw.1.cell f0; have z9 := hSw.1.cell f1; have z10 := hSw.1.cell f2; have z11 := hSw.1.cell f3; have z12 := hSw.1.cell f4; have z13 := hSw.1.cell f5; first | (go_simp; done) | (go_simp; with_reducible rfl)
      try simp only [Act.put, List.setIfInBounds_toArray, List.set_cons_zero, List.set_cons_succ, List.getElem_toArray, List.getElem_cons_zero, List.getElem_cons_succ]
      refine wpAny2_take (i := 17) (oi := _) (v := ?_) rfl (by decide) (by kernel_rfl) (by kernel_rfl) (by kernel_rfl) (by kernel_rfl) (fun _ _ _ h => h) ⟨hS2, hbd⟩ (fun _ => trivial) (Or.inl ⟨by rfl, ?hy⟩) ?_
      case hy => intro w hSw; have z0 := hSw.1.cell hl1; have z1 := hSw.1.cell hl2; have z2 := hSw.1.cell d0; have z3 := hSw.1.cell d1; have z4 := hSw.1.cell d2; have z5 := hSw.1.cell d3; have z6 := hSw.1.cell d4; have z7 := hSw.1.cell d5; have z8 := hSw.1.cell f0; have z9 := hSw.1.cell f1; have z10 := hSw.1.cell f2; have z11 := hSw.1.cell f3; have z12 := hSw.1.cell f4; have z13 := hSw.1.cell f5; first | (go_simp; done) | (go_simp; with_reducible rfl)
      try simp only [Act.put, List.setIfInBounds_toArray, List.set_cons_zero, List.set_cons_succ, List.getElem_toArray, List.getElem_cons_zero, List.getElem_cons_succ]
      refine wpAny2_take (i := 18) (oi := _) (v := ?_) rfl (by decide) (by kernel_rfl) (by kernel_rfl) (by kernel_rfl) (by kernel_rfl) (fun _ _ _ h => h) ⟨hS2, hbd⟩ (fun _ => trivial) (Or.inl ⟨by rfl, ?hy⟩) ?_
      case hy => intro w hSw; have z0 := hSw.1.cell hl1; have z1 := hSw.1.cell hl2; have z2 := hSw.1.cell d0; have z3 := hSw.1.cell d1; have z4 := hSw.1.cell d2; have z5 := hSw.1.cell d3; have z6 := hSw.1.cell d4; have z7 := hSw.1.cell d5; have z8 := hSw.1.cell f0; have z9 := hSw.1.cell f1; have z10 := hSw.1.cell f2; have z11 := hSw.1.cell f3; have z12 := hSw.1.cell f4; have z13 := hSw.1.cell f5; first | (go_simp; done) | (go_simp; with_reducible rfl)
      try simp only [Act.put, List.setIfInBounds_toArray, List.set_cons_zero, List.set_cons_succ, List.getElem_toArray, List.getElem_cons_zero, List.getElem_cons_succ]
      refine wpAny2_take (i := 19) (oi := _) (v := ?_) rfl (by decide) (by kernel_rfl) (by kernel_rfl) (by kernel_rfl) (by kernel_rfl) (fun _ _ _ h => h) ⟨hS2, hbd⟩ (fun _ => trivial) (Or.inl ⟨by rfl, ?hy⟩) ?_
      case hy => intro w hSw; have z0 := hSw.1.cell hl1; have z1 := hSw.1.cell hl2; have z2 := hSw.1.cell d0; have z3 := hSw.1.cell d1; have z4 := hSw.1.cell d2; have z5 := hSw.1.cell d3; have z6 := hSw.1.cell d4; have z7 := hSw.1.cell d5; have z8 := hSw.1.cell f0; have z9 := hSw.1.cell f1; have z10 := hSw.1.cell f2; have z11 := hSw.1.cell f3; have z12 := hSw.1.cell f4; have z13 := hSw.1.cell f5; first | (go_simp; done) | (go_simp; with_reducible rfl)
      try simp only [Act.put, List.setIfInBounds_toArray, List.set_cons_zero, List.set_cons_succ, List.getElem_toArray, List.getElem_cons_zero, List.getElem_cons_succ]
      refine wpAny2_take (i := 20) (oi := _) (v := ?_) rfl (by decide) (by kernel_rfl) (by kernel_rfl) (by kernel_rfl) (by kernel_rfl) (fun _ _ _ h => h) ⟨hS2, hbd⟩ (fun _ => trivial) (Or.inl ⟨by rfl, ?hy⟩) ?_
      case hy => intro w hSw; have z0 := hSw.1.cell hl1; have z1 := hSw.1.cell hl2; have z2 := hSw.1.cell d0; have z3 := hSw.1.cell d1; have z4 := hSw.1.cell d2; have z5 := hSw.1.cell d3; have z6 := hSw.1.cell d4; have z7 := hSw.1.cell d5; have z8 := hSw.1.cell f0; have z9 := hSw.1.cell f1; have z10 := hSw.1.cell f2; have z11 := hSw.1.cell f3; have z12 := hSw.1.cell f4; have z13 := hSw.1.cell f5; first | (go_simp; done) | (go_simp; with_reducible rfl)
      try simp only [Act.put, List.setIfInBounds_toArray, List.set_cons_zero, List.set_cons_succ, List.getElem_toArray, List.getElem_cons_zero, List.getElem_cons_succ]
      refine wpAny2_take (i := 21) (oi := _) (v := ?_) rfl (by decide) (by kernel_rfl) (by kernel_rfl) (by kernel_rfl) (by kernel_rfl) (fun _ _ _ h => h) ⟨hS2, hbd⟩ (fun _ => trivial) (Or.inl ⟨by rfl, ?hy⟩) ?_
      case hy => intro w hSw; have z0 := hSw.1.cell hl1; have z1 := hSw.1.cell hl2; have z2 := hSw.1.cell d0; have z3 := hSw.1.cell d1; have z4 := hSw.1.cell d2; have z5 := hSw.1.cell d3; have z6 := hSw.1.cell d4; have z7 := hSw.1.cell d5; have z8 := hSw.1.cell f0; have z9 := hSw.1.cell f1; have z10 := hSw.1.cell f2; have z11 := hSw.1.cell f3; have z12 := hSw.1.cell f4; have z13 := hSw.1.cell f5; first | (go_simp; done) | (go_simp; with_reducible rfl)
      try simp only [Act.put, List.setIfInBounds_toArray, List.set_cons_zero, List.set_cons_succ, List.getElem_toArray, List.getElem_cons_zero, List.getElem_cons_succ]
      refine wpAny2_take (i := 22) (oi := _) (v := ?_) rfl (by decide) (by kernel_rfl) (by kernel_rfl) (by kernel_rfl) (by kernel_rfl) (fun _ _ _ h => h) ⟨hS2, hbd⟩ (fun _ => trivial) (Or.inl ⟨by rfl, ?hy⟩) ?_
      case hy => intro w hSw; have z0 := hSw.1.cell hl1; have z1 := hSw.1.cell hl2; have z2 := hSw.1.cell d0; have z3 := hSw.1.cell d1; have z4 := hSw.1.cell d2; have z5 := hSw.1.cell d3; have z6 := hSw.1.cell d4; have z7 := hSw.1.cell d5; have z8 := hSw.1.cell f0; have z9 := hSw.1.cell f1; have z10 := hSw.1.cell f2; have z11 := hSw.1.cell f3; have z12 := hSw.1.cell f4; have z13 := hSw.1.cell f5; first | (go_simp; done) | (go_simp; with_reducible rfl)
      try simp only [Act.put, List.setIfInBounds_toArray, List.set_cons_zero, List.set_cons_succ, List.getElem_toArray, List.getElem_cons_zero, List.getElem_cons_succ]
      refine wpAny2_take (i := 23) (oi := _) (v := ?_) rfl (by decide) (by kernel_rfl) (by kernel_rfl) (by kernel_rfl) (by kernel_rfl) (fun _ _ _ h => h) ⟨hS2, hbd⟩ (fun _ => trivial) (Or.inl ⟨by rfl, ?hy⟩) ?_
      case hy => intro w hSw; have z0 := hSw.1.cell hl1; have z1 := hSw.1.cell hl2; have z2 := hSw.1.cell d0; have z3 := hSw.1.cell d1; have z4 := hSw.1.cell d2; have z5 := hSw.1.cell d3; have z6 := hSw.1.cell d4; have z7 := hSw.1.cell d5; have z8 := hSw.1.cell f0; have z9 := hSw.1.cell f1; have z10 := hSw.1.cell f2; have z11 := hSw.1.cell f3; have z12 := hSw.1.cell f4; have z13 := hSw.1.cell f5; first | (go_simp; done) | (go_simp; with_reducible rfl)
      try simp only [Act.put, List.setIfInBounds_toArray, List.set_cons_zero, List.set_cons_succ, List.getElem_toArray, List.getElem_cons_zero, List.getElem_cons_succ]
      refine wpAny2_take (i := 24) (oi := _) (v := ?_) rfl (by decide) (by kernel_rfl) (by kernel_rfl) (by kernel_rfl) (by kernel_rfl) (fun _ _ _ h => h) ⟨hS2, hbd⟩ (fun _ => trivial) (Or.inl ⟨by rfl, ?hy⟩) ?_
      case hy => intro w hSw; have z0 := hSw.1.cell hl1; have z1 := hSw.1.cell hl2; have z2 := hSw.1.cell d0; have z3 := hSw.1.cell d1; have z4 := hSw.1.cell d2; have z5 := hSw.1.cell d3; have z6 := hSw.1.cell d4; have z7 := hSw.1.cell d5; have z8 := hSw.1.cell f0; have z9 := hSw.1.cell f1; have z10 := hSw.1.cell f2; have z11 := hSw.1.cell f3; have z12 := hSw.1.cell f4; have z13 := hSw.1.cell f5; first | (go_simp; done) | (go_simp; with_reducible rfl)
      try simp only [Act.put, List.setIfInBounds_toArray, List.set_cons_zero, List.set_cons_succ, List.getElem_toArray, List.getElem_cons_zero, List.getElem_cons_succ]
      refine wpAny2_take (i := 25) (oi := _) (v := ?_) rfl (by decide) (by kernel_rfl) (by kernel_rfl) (by kernel_rfl) (by kernel_rfl) (fun _ _ _ h => h) ⟨hS2, hbd⟩ (fun _ => trivial) (Or.inl ⟨by rfl, ?hy⟩) ?_
      case hy => intro w hSw; have z0 := hSw.1.cell hl1; have z1 := hSw.1.cell hl2; have z2 := hSw.1.cell d0; have z3 := hSw.1.cell d1; have z4 := hSw.1.cell d2; have z5 := hSw.1.cell d3; have z6 := hSw.1.cell d4; have z7 := hSw.1.cell d5; have z8 := hSw.1.cell f0; have z9 := hSw.1.cell f1; have z10 := hSw.1.cell f2; have z11 := hSw.1.cell f3; have z12 := hSw.1.cell f4; have z13 := hSw.1.cell f5; first | (go_simp; done) | (go_simp; with_reducible rfl)
      try simp only [Act.put, List.setIfInBounds_toArray, List.set_cons_zero, List.set_cons_succ, List.getElem_toArray, List.getElem_cons_zero, List.getElem_cons_succ]
      refine wpAny2_take (i := 26) (oi := _) (v := ?_) rfl (by decide) (by kernel_rfl) (by kernel_rfl) (by kernel_rfl) (by kernel_rfl) (fun _ _ _ h => h) ⟨hS2, hbd⟩ (fun _ => trivial) (Or.inl ⟨by rfl, ?hy⟩) ?_
      case hy => intro w hSw; have z0 := hSw.1.cell hl1; have z1 := hSw.1.cell hl2; have z2 := hSw.1.cell d0; have z3 := hSw.1.cell d1; have z4 := hSw.1.cell d2; have z5 := hSw.1.cell d3; have z6 := hSw.1.cell d4; have z7 := hSw.1.cell d5; have z8 := hSw.1.cell f0; have z9 := hSw.1.cell f1; have z10 := hSw.1.cell f2; have z11 := hSw.1.cell f3; have z12 := hSw.1.cell f4; have z13 := hSw.1.cell f5; first | (go_simp; done) | (go_simp; with_reducible rfl)
      try simp only [Act.put, List.setIfInBounds_toArray, List.set_cons_zero, List.set_cons_succ, List.getElem_toArray, List.getElem_cons_zero, List.getElem_cons_succ]
      refine wpAny2_take (i := 27) (oi := _) (v := ?_) rfl (by decide) (by kernel_rfl) (by kernel_rfl) (by kernel_rfl) (by kernel_rfl) (fun _ _ _ h => h) ⟨hS2, hbd⟩ (fun _ => trivial) (Or.inl ⟨by rfl, ?hy⟩) ?_
      case hy => intro w hSw; have z0 := hSw.1.cell hl1; have z1 := hSw.1.cell hl2; have z2 := hSw.1.cell d0; have z3 := hSw.1.cell d1; have z4 := hSw.1.cell d2; have z5 := hSw.1.cell d3; have z6 := hSw.1.cell d4; have z7 := hSw.1.cell d5; have z8 := hSw.1.cell f0; have z9 := hSw.1.cell f1; have z10 := hSw.1.cell f2; have z11 := hSw.1.cell f3; have z12 := hSw.1.cell f4; have z13 := hSw.1.cell f5; first | (go_simp; done) | (go_simp; with_reducible rfl)
      try simp only [Act.put, List.setIfInBounds_toArray, List.set_cons_zero, List.set_cons_succ, List.getElem_toArray, List.getElem_cons_zero, List.getElem_cons_succ]
      refine wpAny2_take (i := 28) (oi := _) (v := ?_) rfl (by decide) (by kernel_rfl) (by kernel_rfl) (by kernel_rfl) (by kernel_rfl) (fun _ _ _ h => h) ⟨hS2, hbd⟩ (fun _ => trivial) (Or.inl ⟨by rfl, ?hy⟩) ?_
      case hy => intro w hSw; have z0 := hSw.1.cell hl1; have z1 := hSw.1.cell hl2; have z2 := hSw.1.cell d0; have z3 := hSw.1.cell d1; have z4 := hSw.1.cell d2; have z5 := hSw.1.cell d3; have z6 := hSw.1.cell d4; have z7 := hSw.1.cell d5; have z8 := hSw.1.cell f0; have z9 := hSw.1.cell f1; have z10 := hSw.1.cell f2; have z11 := hSw.1.cell f3; have z12 := hSw.1.cell f4; have z13 := hSw.1.cell f5; first | (go_simp; done) | (go_simp; with_reducible rfl)
      try simp only [Act.put, List.setIfInBounds_toArray, List.set_cons_zero, List.set_cons_succ, List.getElem_toArray, List.getElem_cons_zero, List.getElem_cons_succ]
      refine wpAny2_take (i := 29) (oi := _) (v := ?_) rfl (by decide) (by kernel_rfl) (by kernel_rfl) (by kernel_rfl) (by kernel_rfl) (fun _ _ _ h => h) ⟨hS2, hbd⟩ (fun _ => trivial) (Or.inl ⟨by rfl, ?hy⟩) ?_
      case hy => intro w hSw; have z0 := hSw.1.cell hl1; have z1 := hSw.1.cell hl2; have z2 := hSw.1.cell d0; have z3 := hSw.1.cell d1; have z4 := hSw.1.cell d2; have z5 := hSw.1.cell d3; have z6 := hSw.1.cell d4; have z7 := hSw.1.cell d5; have z8 := hSw.1.cell f0; have z9 := hSw.1.cell f1; have z10 := hSw.1.cell f2; have z11 := hSw.1.cell f3; have z12 := hSw.1.cell f4; have z13 := hSw.1.cell f5; first | (go_simp; done) | (go_simp; with_reducible rfl)
      try simp only [Act.put, List.setIfInBounds_toArray, List.set_cons_zero, List.set_cons_succ, List.getElem_toArray, List.getElem_cons_zero, List.getElem_cons_succ]
      refine wpAny2_take (i := 30) (oi := _) (v := ?_) rfl (by decide) (by kernel_rfl) (by kernel_rfl) (by kernel_rfl) (by kernel_rfl) (fun _ _ _ h => h) ⟨hS2, hbd⟩ (fun _ => trivial) (Or.inl ⟨by rfl, ?hy⟩) ?_
      case hy => intro w hSw; have z0 := hSw.1.cell hl1; have z1 := hSw.1.cell hl2; have z2 := hSw.1.cell d0; have z3 := hSw.1.cell d1; have z4 := hSw.1.cell d2; have z5 := hSw.1.cell d3; have z6 := hSw.1.cell d4; have z7 := hSw.1.cell d5; have z8 := hSw.1.cell f0; have z9 := hSw.1.cell f1; have z10 := hSw.1.cell f2; have z11 := hSw.1.cell f3; have z12 := hSw.1.cell f4; have z13 := hSw.1.cell f5; first | (go_simp; done) | (go_simp; with_reducible rfl)
      try simp only [Act.put, List.setIfInBounds_toArray, List.set_cons_zero, List.set_cons_succ, List.getElem_toArray, List.getElem_cons_zero, List.getElem_cons_succ]
      refine wpAny2_take (i := 31) (oi := _) (v := ?_) rfl (by decide) (by kernel_rfl) (by kernel_rfl) (by kernel_rfl) (by kernel_rfl) (fun _ _ _ h => h) ⟨hS2, hbd⟩ (fun _ => trivial) (Or.inl ⟨by rfl, ?hy⟩) ?_
      case hy => intro w hSw; have z0 := hSw.1.cell hl1; have z1 := hSw.1.cell hl2; have z2 := hSw.1.cell d0; have z3 := hSw.1.cell d1; have z4 := hSw.1.cell d2; have z5 := hSw.1.cell d3; have z6 := hSw.1.cell d4; have z7 := hSw.1.cell d5; have z8 := hSw.1.cell f0; have z9 := hSw.1.cell f1; have z10 := hSw.1.cell f2; have z11 := hSw.1.cell f3; have z12 := hSw.1.cell f4; have z13 := hSw.1.cell f5; first | (go_simp; done) | (go_simp; with_reducible rfl)
      try simp only [Act.put, List.setIfInBounds_toArray, List.set_cons_zero, List.set_cons_succ, List.getElem_toArray, List.getElem_cons_zero, List.getElem_cons_succ]
      refine wpAny2_take (i := 32) (oi := _) (v := ?_) rfl (by decide) (by kernel_rfl) (by kernel_rfl) (by kernel_rfl) (by kernel_rfl) (fun _ _ _ h => h) ⟨hS2, hbd⟩ (fun _ => trivial) (Or.inl ⟨by rfl, ?hy⟩) ?_
      case hy => intro w hSw; have z0 := hSw.1.cell hl1; have z1 := hSw.1.cell hl2; have z2 := hSw.1.cell d0; have z3 := hSw.1.cell d1; have z4 := hSw.1.cell d2; have z5 := hSw.1.cell d3; have z6 := hSw.1.cell d4; have z7 := hSw.1.cell d5; have z8 := hSw.1.cell f0; have z9 := hSw.1.cell f1; have z10 := hSw.1.cell f2; have z11 := hSw.1.cell f3; have z12 := hSw.1.cell f4; have z13 := hSw.1.cell f5; first | (go_simp; done) | (go_simp; with_reducible rfl)
      try simp only [Act.put, List.setIfInBounds_toArray, List.set_cons_zero, List.set_cons_succ, List.getElem_toArray, List.getElem_cons_zero, List.getElem_cons_succ]
      refine wpAny2_take (i := 33) (oi := _) (v := ?_) rfl (by decide) (by kernel_rfl) (by kernel_rfl) (by kernel_rfl) (by kernel_rfl) (fun _ _ _ h => h) ⟨hS2, hbd⟩ (fun _ => trivial) (Or.inl ⟨by rfl, ?hy⟩) ?_
      case hy => intro w hSw; have z0 := hSw.1.cell hl1; have z1 := hSw.1.cell hl2; have z2 := hSw.1.cell d0; have z3 := hSw.1.cell d1; have z4 := hSw.1.cell d2; have z5 := hSw.1.cell d3; have z6 := hSw.1.cell d4; have z7 := hSw.1.cell d5; have z8 := hSw.1.cell f0; have z9 := hSw.1.cell f1; have z10 := hSw.1.cell f2; have z11 := hSw.1.cell f3; have z12 := hSw.1.cell f4; have z13 := hSw.1.cell f5; first | (go_simp; done) | (go_simp; with_reducible rfl)
      try simp only [Act.put, List.setIfInBounds_toArray, List.set_cons_zero, List.set_cons_succ, List.getElem_toArray, List.getElem_cons_zero, List.getElem_cons_succ]
      refine wpAny2_take (i := 34) (oi := _) (v := ?_) rfl (by decide) (by kernel_rfl) (by kernel_rfl) (by kernel_rfl) (by kernel_rfl) (fun _ _ _ h => h) ⟨hS2, hbd⟩ (fun _ => trivial) (Or.inl ⟨by rfl, ?hy⟩) ?_
      case hy => intro w hSw; have z0 := hSw.1.cell hl1; have z1 := hSw.1.cell hl2; have z2 := hSw.1.cell d0; have z3 := hSw.1.cell d1; have z4 := hSw.1.cell d2; have z5 := hSw.1.cell d3; have z6 := hSw.1.cell d4; have z7 := hSw.1.cell d5; have z8 := hSw.1.cell f0; have z9 := hSw.1.cell f1; have z10 := hSw.1.cell f2; have z11 := hSw.1.cell f3; have z12 := hSw.1.cell f4; have z13 := hSw.1.cell f5; first | (go_simp; done) | (go_simp; with_reducible rfl)
      try simp only [Act.put, List.setIfInBounds_toArray, List.set_cons_zero, List.set_cons_succ, List.getElem_toArray, List.getElem_cons_zero, List.getElem_cons_succ]
      refine wpAny2_take (i := 35) (oi := _) (v := ?_) rfl (by decide) (by kernel_rfl) (by kernel_rfl) (by kernel_rfl) (by kernel_rfl) (fun _ _ _ h => h) ⟨hS2, hbd⟩ (fun _ => trivial) (Or.inl ⟨by rfl, ?hy⟩) ?_
      case hy => intro w hSw; have z0 := hSw.1.cell hl1; have z1 := hSw.1.cell hl2; have z2 := hSw.1.cell d0; have z3 := hSw.1.cell d1; have z4 := hSw.1.cell d2; have z5 := hSw.1.cell d3; have z6 := hSw.1.cell d4; have z7 := hSw.1.cell d5; have z8 := hSw.1.cell f0; have z9 := hSw.1.cell f1; have z10 := hSw.1.cell f2; have z11 := hSw.1.cell f3; have z12 := hSw.1.cell f4; have z13 := hSw.1.cell f5; first | (go_simp; done) | (go_simp; with_reducible rfl)
      try simp only [Act.put, List.setIfInBounds_toArray, List.set_cons_zero, List.set_cons_succ, List.getElem_toArray, List.getElem_cons_zero, List.getElem_cons_succ]
      refine wpAny2_take (i := 36) (oi := _) (v := ?_) rfl (by decide) (by kernel_rfl) (by kernel_rfl) (by kernel_rfl) (by kernel_rfl) (fun _ _ _ h => h) ⟨hS2, hbd⟩ (fun _ => trivial) (Or.inl ⟨by rfl, ?hy⟩) ?_
      case hy => intro w hSw; have z0 := hSw.1.cell hl1; have z1 := hSw.1.cell hl2; have z2 := hSw.1.cell d0; have z3 := hSw.1.cell d1; have z4 := hSw.1.cell d2; have z5 := hSw.1.cell d3; have z6 := hSw.1.cell d4; have z7 := hSw.1.cell d5; have z8 := hSw.1.cell f0; have z9 := hSw.1.cell f1; have z10 := hSw.1.cell f2; have z11 := hSw.1.cell f3; have z12 := hSw.1.cell f4; have z13 := hSw.1.cell f5; first | (go_simp; done) | (go_simp; with_reducible rfl)
      try simp only [Act.put, List.setIfInBounds_toArray, List.set_cons_zero, List.set_cons_succ, List.getElem_toArray, List.getElem_cons_zero, List.getElem_cons_succ]
      refine wpAny2_take (i := 37) (oi := _) (v := ?_) rfl (by decide) (by kernel_rfl) (by kernel_rfl) (by kernel_rfl) (by kernel_rfl) (fun _ _ _ h => h) ⟨hS2, hbd⟩ (fun _ => trivial) (Or.inl ⟨by rfl, ?hy⟩) ?_
      case hy => intro w hSw; have z0 := hSw.1.cell hl1; have z1 := hSw.1.cell hl2; have z2 := hSw.1.cell d0; have z3 := hSw.1.cell d1; have z4 := hSw.1.cell d2; have z5 := hSw.1.cell d3; have z6 := hSw.1.cell d4; have z7 := hSw.1.cell d5; have z8 := hSw.1.cell f0; have z9 := hSw.1.cell f1; have z10 := hSw.1.cell f2; have z11 := hSw.1.cell f3; have z12 := hSw.1.cell f4; have z13 := hSw.1.cell f5; first | (go_simp; done) | (go_simp; with_reducible rfl)
      try simp only [Act.put, List.setIfInBounds_toArray, List.set_cons_zero, List.set_cons_succ, List.getElem_toArray, List.getElem_cons_zero, List.getElem_cons_succ]
      refine wpAny2_take (i := 38) (oi := _) (v := ?_) rfl (by decide) (by kernel_rfl) (by kernel_rfl) (by kernel_rfl) (by kernel_rfl) (fun _ _ _ h => h) ⟨hS2, hbd⟩ (fun _ => trivial) (Or.inl ⟨by rfl, ?hy⟩) ?_
      case hy => intro w hSw; have z0 := hSw.1.cell hl1; have z1 := hSw.1.cell hl2; have z2 := hSw.1.cell d0; have z3 := hSw.1.cell d1; have z4 := hSw.1.cell d2; have z5 := hSw.1.cell d3; have z6 := hSw.1.cell d4; have z7 := hSw.1.cell d5; have z8 := hSw.1.cell f0; have z9 := hSw.1.cell f1; have z10 := hSw.1.cell f2; have z11 := hSw.1.cell f3; have z12 := hSw.1.cell f4; have z13 := hSw.1.cell f5; first | (go_simp; done) | (go_simp; with_reducible rfl)
      try simp only [Act.put, List.setIfInBounds_toArray, List.set_cons_zero, List.set_cons_succ, List.getElem_toArray, List.getElem_cons_zero, List.getElem_cons_succ]
      refine wpAny2_take (i := 39) (oi := _) (v := ?_) rfl (by decide) (by kernel_rfl) (by kernel_rfl) (by kernel_rfl) (by kernel_rfl) (fun _ _ _ h => h) ⟨hS2, hbd⟩ (fun _ => trivial) (Or.inl ⟨by rfl, ?hy⟩) ?_
      case hy => intro w hSw; have z0 := hSw.1.cell hl1; have z1 := hSw.1.cell hl2; have z2 := hSw.1.cell d0; have z3 := hSw.1.cell d1; have z4 := hSw.1.cell d2; have z5 := hSw.1.cell d3; have z6 := hSw.1.cell d4; have z7 := hSw.1.cell d5; have z8 := hSw.1.cell f0; have z9 := hSw.1.cell f1; have z10 := hSw.1.cell f2; have z11 := hSw.1.cell f3; have z12 := hSw.1.cell f4; have z13 := hSw.1.cell f5; first | (go_simp; done) | (go_simp; with_reducible rfl)
      try simp only [Act.put, List.setIfInBounds_toArray, List.set_cons_zero, List.set_cons_succ, List.getElem_toArray, List.getElem_cons_zero, List.getElem_cons_succ]
      refine wpAny2_take (i := 40) (oi := _) (v := ?_) rfl (by decide) (by kernel_rfl) (by kernel_rfl) (by kernel_rfl) (by kernel_rfl) (fun _ _ _ h => h) ⟨hS2, hbd⟩ (fun _ => trivial) (Or.inl ⟨by rfl, ?hy⟩) ?_
      case hy => intro w hSw; have z0 := hSw.1.cell hl1; have z1 := hSw.1.cell hl2; have z2 := hSw.1.cell d0; have z3 := hSw.1.cell d1; have z4 := hSw.1.cell d2; have z5 := hSw.1.cell d3; have z6 := hSw.1.cell d4; have z7 := hSw.1.cell d5; have z8 := hSw.1.cell f0; have z9 := hSw.1.cell f1; have z10 := hSw.1.cell f2; have z11 := hSw.1.cell f3; have z12 := hSw.1.cell f4; have z13 := hSw.1.cell f5; first | (go_simp; done) | (go_simp; with_reducible rfl)
      try simp only [Act.put, List.setIfInBounds_toArray, List.set_cons_zero, List.set_cons_succ, List.getElem_toArray, List.getElem_cons_zero, List.getElem_cons_succ]
      refine wpAny2_one (i := 41) (o := _) (by kernel_rfl) rfl (fun K_ hK => ?_)
      go_simp
      go_at_call 33
      refine (sameE_eq x.e (by omega) H _ _ ⟨_, rfl, HX.out.1⟩ ⟨_, rfl, HX.out.2⟩ wd (hle.isin' hS2)).mono ?_
      rintro r wc ⟨rfl, hbc⟩
      have hS3 : (allKn wr).In wc := hS2.below hbc
      have hb3 := hbd.trans (hbc.mono hbd.size)
      refine hK.out _ _ (⟨hS3, hb3⟩) (fun _ => trivial) ?_
      clear hK K_
      try simp only [Act.put, List.setIfInBounds_toArray, List.set_cons_zero, List.set_cons_succ, List.getElem_toArray, List.getElem_cons_zero, List.getElem_cons_succ]
      refine wpAny2_take (i := 42) (oi := _) (v := ?_) rfl (by decide) (by kernel_rfl) (by kernel_rfl) (by kernel_rfl) (by kernel_rfl) (fun _ _ _ h => h) ⟨hS3, hb3⟩ (fun _ => trivial) (Or.inl ⟨by rfl, ?hy⟩) ?_
      case hy => intro w hSw; have z0 := hSw.1.cell hl1; have z1 := hSw.1.cell hl2; have z2 := hSw.1.cell d0; have z3 := hSw.1.cell d1; have z4 := hSw.1.cell d2; have z5 := hSw.1.cell d3; have z6 := hSw.1.cell d4; have z7 := hSw.1.cell d5; have z8 := hSw.1.cell f0; have z9 := hSw.1.cell f1; have z10 := hSw.1.cell f2; have z11 := hSw.1.cell f3; have z12 := hSw.1.cell f4; have z13 := hSw.1.cell f5; first | (go_simp; done) | (go_simp; with_reducible rfl)
      try simp only [Act.put, List.setIfInBounds_toArray, List.set_cons_zero, List.set_cons_succ, List.getElem_toArray, List.getElem_cons_zero, List.getElem_cons_succ]
      refine wpAny2_take (i := 43) (oi := _) (v := ?_) rfl (by decide) (by kernel_rfl) (by kernel_rfl) (by kernel_rfl) (by kernel_rfl) (fun _ _ _ h => h) ⟨hS3, hb3⟩ (fun _ => trivial) (Or.inl ⟨by rfl, ?hy⟩) ?_
      case hy => intro w hSw; have z0 := hSw.1.cell hl1; have z1 := hSw.1.cell hl2; have z2 := hSw.1.cell d0; have z3 := hSw.1.cell d1; have z4 := hSw.1.cell d2; have z5 := hSw.1.cell d3; have z6 := hSw.1.cell d4; have z7 := hSw.1.cell d5; have z8 := hSw.1.cell f0; have z9 := hSw.1.cell f1; have z10 := hSw.1.cell f2; have z11 := hSw.1.cell f3; have z12 := hSw.1.cell f4; have z13 := hSw.1.cell f5; first | (go_simp; done) | (go_simp; with_reducible rfl)
      try simp only [Act.put, List.setIfInBounds_toArray, List.set_cons_zero, List.set_cons_succ, List.getElem_toArray, List.getElem_cons_zero, List.getElem_cons_succ]
      refine wpAny2_done (by kernel_rfl) ?_ _
      go_wp2_with fail
      go_roundw
      case rel => exact ⟨k + 1, by go_num, by omega, hb3⟩
      case measure => simp [intOf]; omega
    · skip
      go_wp2_with fail
      refine (sameEs_eq H p.as _ _ H4.out K4.out (by omega) wr (HH.out.below HBR.out)).mono ?_
      rintro r wy ⟨rfl, hby⟩
      have HBY := Lib.hid (HBR.out.trans (hby.mono HBR.out.size))
      clear m0 m1 m2 m3 m4 n0 n1 n2 n3 n4
      obtain ⟨⟨m0, m1, m2, m3, m4⟩, _⟩ := cells5_of ((hby.block _ (Array.getElem?_eq_some_iff.1 Pwr.out).1).trans Pwr.out)
      obtain ⟨⟨n0, n1, n2, n3, n4⟩, _⟩ := cells5_of ((hby.block _ (Array.getElem?_eq_some_iff.1 Qwr.out).1).trans Qwr.out)
      clear hby
      go_wp2_with fail
      refine (sameEs_eq H p.cs _ _ H5.out K5.out (by omega) wy (HH.out.below HBY.out)).mono ?_
      rintro r wx ⟨rfl, hbx⟩
      have HBX := Lib.hid (HBY.out.trans (hbx.mono HBY.out.size))
      clear hbx m0 m1 m2 m3 m4 n0 n1 n2 n3 n4
      go_wp2_with fail
      go_ret
      exact ⟨rfl, HB.out.trans (HBX.out.mono HB.out.size)⟩
end Go.Proofs.YtnaijgmfjpmpjaaDoor
