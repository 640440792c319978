/- Walks: lustrumlaw2.SlimSame. (Printed by gen_tsl.py.) -/
import Derived.Test.YtofameafdnkijaaGreatDoorSsc
import Derived.Test.YtofameafdnkijaaGreatDoorFod
import Derived.Test.YtofameafdnkijaaGreatDoorRu
import Derived.Test.YtofameafdnkijaaGreatDoorVsA
import Derived.Test.YtofameafdnkijaaGreatDoorWt
import Derived.Test.YtofameafdnkijaaGreatDoorOck
import Derived.Test.YtofameafdnkijaaGreatDoorRh
set_option linter.all false
namespace Go.Proofs.YtofameafdnkijaaGreatDoor
open Go.RowKit Mx
set_option maxHeartbeats 64000000 in
set_option maxRecDepth 100000 in
theorem slimSame_any (H : Kn) (T : Zbo H) (sp : Nat → Addr) (p : Pr) (vi vo vl va vc : Value) (hp : PrP H p vi vo vl va vc) (ins : List (List Vl)) (vin : Value) (hi : InsV H ins vin) (hsz : p.ins.length ≤ 1048576 ∧ p.outs.length ≤ 1048576 ∧ Ex.weightL p.terms ≤ 1048576 ∧ ins.length ≤ 1048576) (which : Int) (w : World) (hH : H.In w) (S : Sen5 w sp) :
    Calls Tryz.prog 3 #[.agg #[vi, vo, vl, va, vc], vin, .int .i64 which] w fun r w' => r = .returned (.bool true) ∧ Below w.heap.size w w' := by
  obtain ⟨z1, z2, z3, z4⟩ := hsz
  have hle : ∀ w1, Below w.heap.size w w1 → Zbo (Zai w1) := fun w1 hb => T.le (Zbl (hH.below hb))
  have HLE := Lib.hid hle
  have hpl := Zix p.terms
  have hlw : p.fl.length + p.as.length + p.cs.length ≤ Ex.weightL p.terms := by
    have h := Zfp p.terms
    have h2 : p.terms.length = p.fl.length + p.as.length + p.cs.length := by simp only [Pr.terms, List.length_append, List.length_map]
    omega
  clear hle
  have HP := Lib.hid hp
  obtain ⟨h1, h2, h3, h4, h5⟩ := hp
  obtain ⟨ai, ci, rfl⟩ := h1.len
  obtain ⟨ao, co, rfl⟩ := h2.len
  obtain ⟨al, cl, rfl⟩ := h3.len
  obtain ⟨aa, ca, rfl⟩ := h4.len
  obtain ⟨ac, cc, rfl⟩ := h5.len
  obtain ⟨an, cn, rfl⟩ := hi.len
  have HI := Lib.hid hi
  clear h1 h2 h3 h4 h5 hi
  have hP0 := heap_alloc_new w (.cells #[.slice ai p.ins.length ci, .slice ao p.outs.length co, .slice al p.fl.length cl, .slice aa p.as.length ca, .slice ac p.cs.length cc] 27)
  have hb0 : Below w.heap.size w (w.alloc (.cells #[.slice ai p.ins.length ci, .slice ao p.outs.length co, .slice al p.fl.length cl, .slice aa p.as.length ca, .slice ac p.cs.length cc] 27)) := (Below.refl _ _).alloc (Nat.le_refl _) _
  have HB0 := Lib.hid hb0
  have HP0 := Lib.hid hP0
  clear hP0 hb0
  go_enter Tryz.func3, Tryz.ntmps3
  go_wp2_with fail
  generalize w.alloc (.cells #[.slice ai p.ins.length ci, .slice ao p.outs.length co, .slice al p.fl.length cl, .slice aa p.as.length ca, .slice ac p.cs.length cc] 27) = W1 at *
  refine (thin_any H T sp W1 (hH.below HB0.out) (S.below HB0.out)).mono ?_
  rintro r w1 ⟨rfl, hb1⟩
  have HB1 := Lib.hid (HB0.out.trans (hb1.mono HB0.out.size))
  have HP1 := Lib.hid ((hb1.block w.heap.size (Array.getElem?_eq_some_iff.1 HP0.out).1).trans HP0.out)
  obtain ⟨⟨m0, m1, m2, m3, m4⟩, _⟩ := Zae HP1.out
  go_wp2_with fail
  refine (heavy_any H p _ _ _ _ _ HP.out ⟨by omega, by omega, by omega⟩ w1 (hH.below HB1.out)).mono ?_
  rintro r w2 ⟨rfl, hb2⟩
  have HB2 := Lib.hid (HB1.out.trans (hb2.mono HB1.out.size))
  have HP2 := Lib.hid ((hb2.block w.heap.size (Array.getElem?_eq_some_iff.1 HP1.out).1).trans HP1.out)
  clear m0 m1 m2 m3 m4
  obtain ⟨⟨m0, m1, m2, m3, m4⟩, _⟩ := Zae HP2.out
  unfold heavyI
  by_cases hh : heavy p = true
  · rw [if_pos hh]
    go_wp2_with fail
    go_ret
    exact ⟨rfl, HB2.out⟩
  rw [if_neg hh]
  obtain ⟨y1, y2, y3⟩ : Ex.weightL p.terms ≤ 1500 ∧ p.fl.length ≤ 100 ∧ p.ins.length ≤ 40 := by
    unfold heavy at hh
    simp only [Bool.or_eq_true, decide_eq_true_eq, not_or, Nat.not_lt] at hh
    exact ⟨hh.1.1, hh.1.2, hh.2⟩
  clear hh
  go_wp2_with fail
  refine (long_any H ins _ HI.out (by omega) w2 (hH.below HB2.out)).mono ?_
  rintro r w3 ⟨rfl, hb3⟩
  have HB3 := Lib.hid (HB2.out.trans (hb3.mono HB2.out.size))
  have HP3 := Lib.hid ((hb3.block w.heap.size (Array.getElem?_eq_some_iff.1 HP2.out).1).trans HP2.out)
  clear m0 m1 m2 m3 m4
  obtain ⟨⟨m0, m1, m2, m3, m4⟩, _⟩ := Zae HP3.out
  by_cases hl : 0 < longI ins
  · go_wp2_with fail
    go_ret
    exact ⟨rfl, HB3.out⟩
  obtain ⟨q1, _, q3⟩ := long_zero hl
  have ZI := Lib.hid (show ins.length ≤ 1000000 ∧ ∀ x ∈ ins, x.length ≤ 1000000 from ⟨by omega, fun x hx => by have := q1 x hx; omega⟩)
  have ZX := Lib.hid (show ∀ x ∈ ins, x.length ≤ 1000000 from ZI.out.2)
  have ZR := Lib.hid (show p.ins.length ≤ 1000000 ∧ p.fl.length ≤ 1000000 ∧ p.outs.length ≤ 1000000000 ∧ p.as.length ≤ 1000000 ∧ p.cs.length ≤ 1000000 ∧ ∀ l ∈ ins, l.length ≤ 1000000 from ⟨by omega, by omega, by omega, by omega, by omega, ZI.out.2⟩)
  have ZP := Lib.hid (show Ex.partsL p.terms ≤ 1000000000 from by omega)
  have ZT := Lib.hid (show ∀ nb ni ins', ∀ x ∈ runM nb ni p ins', x.out.length ≤ 1000000000 ∧ x.checks.length ≤ 1000000000 from fun nb ni ins' x hx => by have := runM_sizes nb ni p ins' x hx; omega)
  clear q1
  go_wp2_with fail
  refine (flatOf_any p _ _ _ _ _ H HP.out ⟨by omega, by omega, by omega, by omega⟩ _ (hH.below HB3.out)).mono ?_
  rintro r w4 ⟨vi4, vo4, vl4, va4, vc4, K4, rfl, hp4, hst4⟩
  have HB4 := Lib.hid (HB3.out.trans (hst4.below.mono HB3.out.size))
  have HP4 := Lib.hid ((hst4.below.block w.heap.size (Array.getElem?_eq_some_iff.1 HP3.out).1).trans HP3.out)
  have HQ4 := Lib.hid (hp4.le (Zbl hst4.isin))
  clear hp4 hst4
  clear m0 m1 m2 m3 m4
  obtain ⟨⟨m0, m1, m2, m3, m4⟩, _⟩ := Zae HP4.out
  go_wp2_with fail
  refine (in_any H ins _ HI.out ZI.out _ (hH.below HB4.out)).mono ?_
  rintro r w5 ⟨vi5, K5, rfl, hv5, hst5⟩
  have HB5 := Lib.hid (HB4.out.trans (hst5.below.mono HB4.out.size))
  have HP5 := Lib.hid ((hst5.below.block w.heap.size (Array.getElem?_eq_some_iff.1 HP4.out).1).trans HP4.out)
  have HQ4 := Lib.hid (HQ4.out.le (Zbl (Zbt hst5.below)))
  have HI5 := Lib.hid (InsV.le (Zbl hst5.isin) hv5)
  clear hv5 hst5
  clear m0 m1 m2 m3 m4
  obtain ⟨⟨m0, m1, m2, m3, m4⟩, _⟩ := Zae HP5.out
  go_wp2_with fail
  refine (run_any (Zai w5) (HLE.out _ HB5.out) sp p _ _ _ _ _ HQ4.out ins _ HI5.out w5 (Za8 w5) (S.below HB5.out) false 0 ZR.out ZP.out).mono ?_
  rintro r w6 hpost
  obtain ⟨hb6, hpost⟩ := hpost.told
  have HB6 := Lib.hid (HB5.out.trans (hb6.mono HB5.out.size))
  have HP6 := Lib.hid ((hb6.block w.heap.size (Array.getElem?_eq_some_iff.1 HP5.out).1).trans HP5.out)
  have HQ4 := Lib.hid (HQ4.out.le (Zbl (Zbt hb6)))
  have HI5 := Lib.hid (InsV.le (Zbl (Zbt hb6)) HI5.out)
  clear hb6 HQ4 HI5
  clear m0 m1 m2 m3 m4
  obtain ⟨⟨m0, m1, m2, m3, m4⟩, _⟩ := Zae HP6.out
  rcases hpost with ⟨hE, v6, rfl, hv6⟩ | ⟨hE, t6, u6, rfl, _⟩
  case inr =>
    go_wp2_with fail
    go_ret
    exact ⟨rfl, HB6.out⟩
  have hrl := runM_len false 0 p ins
  have hc0 := (runE_zero hE).1
  have HE := Lib.hid hE
  have HC0 := Lib.hid hc0
  have HV6 := Lib.hid hv6
  obtain ⟨a6, c6, rfl⟩ := hv6.len
  clear hv6 hc0 hE
  go_wp2_with fail
  refine (flatOf_any p _ _ _ _ _ H HP.out ⟨by omega, by omega, by omega, by omega⟩ _ (hH.below HB6.out)).mono ?_
  rintro r w7 ⟨vi7, vo7, vl7, va7, vc7, K7, rfl, hp7, hst7⟩
  have HB7 := Lib.hid (HB6.out.trans (hst7.below.mono HB6.out.size))
  have HP7 := Lib.hid ((hst7.below.block w.heap.size (Array.getElem?_eq_some_iff.1 HP6.out).1).trans HP6.out)
  have HV6 := Lib.hid (TksV.le (Zbl (Zbt hst7.below)) HV6.out)
  have HQ7 := Lib.hid (hp7.le (Zbl hst7.isin))
  clear hp7 hst7
  clear m0 m1 m2 m3 m4
  obtain ⟨⟨m0, m1, m2, m3, m4⟩, _⟩ := Zae HP7.out
  have hq := HQ7.out
  obtain ⟨b1, be1, rfl⟩ := hq.ins.len
  obtain ⟨b2, be2, rfl⟩ := hq.outs.len
  obtain ⟨b3, be3, rfl⟩ := hq.fl.len
  obtain ⟨b4, be4, rfl⟩ := hq.asr.len
  obtain ⟨b5, be5, rfl⟩ := hq.chk.len
  clear hq
  have HV7 := HV6
  have HQ0 := HQ7
  have hqb : Below w7.heap.size w7 (w7.alloc (.cells #[.slice b1 (p).ins.length be1, .slice b2 (p).outs.length be2, .slice b3 (p).fl.length be3, .slice b4 (p).as.length be4, .slice b5 (p).cs.length be5] 41)) := (Below.refl _ _).alloc (Nat.le_refl _) _
  have HQX := Lib.hid (heap_alloc_new w7 (.cells #[.slice b1 (p).ins.length be1, .slice b2 (p).outs.length be2, .slice b3 (p).fl.length be3, .slice b4 (p).as.length be4, .slice b5 (p).cs.length be5] 41))
  go_wp2_with fail
  obtain ⟨w8, hw8⟩ : ∃ w8, w8 = w7.alloc (.cells #[.slice b1 (p).ins.length be1, .slice b2 (p).outs.length be2, .slice b3 (p).fl.length be3, .slice b4 (p).as.length be4, .slice b5 (p).cs.length be5] 41) := ⟨_, rfl⟩
  rw [← hw8] at hqb HQX ⊢
  obtain ⟨qb, hqn⟩ : ∃ qb, qb = w7.heap.size := ⟨_, rfl⟩
  have hq0 := Nat.le_trans HB7.out.size (Nat.le_of_eq hqn.symm)
  have hqp : w.heap.size < qb := by rw [hqn]; exact (Array.getElem?_eq_some_iff.1 HP7.out).1
  clear m0 m1 m2 m3 m4
  have HB8 := Lib.hid (HB7.out.trans (hqb.mono HB7.out.size))
  have HP8 := Lib.hid ((hqb.block w.heap.size (Array.getElem?_eq_some_iff.1 HP7.out).1).trans HP7.out)
  have HV6 := Lib.hid (TksV.le (Zbl (Zbt hqb)) HV6.out)
  have HQ7 := Lib.hid (HQ7.out.le (Zbl (Zbt hqb)))
  rw [← hqn] at HQX ⊢
  have hno : ∀ {K : Kn}, K.In w7 → K.le (noKn qb w8) := fun {K} h => Ziy (h.below hqb) (by rw [hqn]; exact h.isNone (Nat.le_refl _))
  have HQP := Lib.hid (HQ7.out)
  have hk7 : (Zai w7).In w7 := Za8 w7
  have HIK := Lib.hid (InsV.le (hno (hH.below HB7.out)) HI.out)
  have HVK := Lib.hid (TksV.le (hno hk7) HV7.out)
  have HQK := Lib.hid (HQ0.out.le (hno hk7))
  clear hno hk7 hw8 HV6 HQ7 HV7 HQ0 HQP hqb hqn
  go_loopw [11] (fun i wr => ∃ (k : Nat) (Q : Pr) (b1 b2 b3 b4 b5 : Option Addr) (be1 be2 be3 be4 be5 : Nat), i = .int .i64 k ∧ k ≤ 3 ∧ SlOk p Q ∧ wr.heap[qb]? = some (.cells #[.slice b1 (Q).ins.length be1, .slice b2 (Q).outs.length be2, .slice b3 (Q).fl.length be3, .slice b4 (Q).as.length be4, .slice b5 (Q).cs.length be5] 41 (0, 0)) ∧ PrP (noKn qb wr) Q (.slice b1 (Q).ins.length be1) (.slice b2 (Q).outs.length be2) (.slice b3 (Q).fl.length be3) (.slice b4 (Q).as.length be4) (.slice b5 (Q).cs.length be5) ∧ (noKn qb w8).In wr ∧ Below w.heap.size w wr) (fun i _ => 3 - (intOf i).toNat)
  case atStart => exact ⟨0, p, b1, b2, b3, b4, b5, be1, be2, be3, be4, be5, rfl, by decide, SlOk.refl HC0.out, HQX.out, HQK.out, Zhu qb w8, HB8.out⟩
  case round =>
    clear HQX HQK
    obtain ⟨k, Q, b1, b2, b3, b4, b5, be1, be2, be3, be4, be5, rfl, hk, hok, hbx, hpr, hin, hb⟩ := hrel
    obtain ⟨⟨q0, q1, q2, q3, q4⟩, _⟩ := Zae hbx
    have hqlt := (Array.getElem?_eq_some_iff.1 hbx).1
    have HOK := Lib.hid hok
    have HBX := Lib.hid hbx
    have HPQ := Lib.hid (hpr.le (Zbl (Zhu qb wr)))
    have HIN := Lib.hid hin
    have HB := Lib.hid hb
    clear hok hbx hpr hin hb
    by_cases hk3 : k < 3
    · have hsz := HOK.out.sz (by omega)
      obtain ⟨g1, g2, g3, g4, g5, g6⟩ := hsz
      go_wp2_with fail
      · refine (foldP_any (Zai wr) (HLE.out _ HB.out) sp Q _ _ _ _ _ HPQ.out ⟨by omega, by omega, by omega, by omega, by omega, by omega⟩ (Zec Q) wr (Za8 wr) (S.below HB.out)).mono ?_
        rintro r wa ⟨hba, hpost⟩
        rcases hpost with ⟨_, u1, u2, u3, u4, u5, K5, rfl, hpr, hK5, hlo⟩ | ⟨h, _⟩
        case inr => rw [Zi7 HOK.out.zero] at h; rcases h with h | h <;> exact absurd rfl h
        obtain ⟨d1, de1, rfl⟩ := hpr.ins.len
        obtain ⟨d2, de2, rfl⟩ := hpr.outs.len
        obtain ⟨d3, de3, rfl⟩ := hpr.fl.len
        obtain ⟨d4, de4, rfl⟩ := hpr.asr.len
        obtain ⟨d5, de5, rfl⟩ := hpr.chk.len
        have hbx2 := (hba.block qb hqlt).trans HBX.out
        have hs5 := Zdd hbx2 (.slice d1 (Zcc Q).ins.length de1) (.slice d2 (Zcc Q).outs.length de2) (.slice d3 (Zcc Q).fl.length de3) (.slice d4 (Zcc Q).as.length de4) (.slice d5 (Zcc Q).cs.length de5)
        have hK6 := in5 hK5 (hlo qb hqlt) (.slice d1 (Zcc Q).ins.length de1) (.slice d2 (Zcc Q).outs.length de2) (.slice d3 (Zcc Q).fl.length de3) (.slice d4 (Zcc Q).as.length de4) (.slice d5 (Zcc Q).cs.length de5)
        have hpr2 := hpr.le (Ziy hK6 (hlo qb hqlt))
        have hin2 := in5 (HIN.out.below hba) (show noKn qb w8 qb = none from if_pos rfl) (.slice d1 (Zcc Q).ins.length de1) (.slice d2 (Zcc Q).outs.length de2) (.slice d3 (Zcc Q).fl.length de3) (.slice d4 (Zcc Q).as.length de4) (.slice d5 (Zcc Q).cs.length de5)
        have hb2 := Zes (HB.out.trans (hba.mono HB.out.size)) (Nat.le_of_lt hqp) (.slice d1 (Zcc Q).ins.length de1) (.slice d2 (Zcc Q).outs.length de2) (.slice d3 (Zcc Q).fl.length de3) (.slice d4 (Zcc Q).as.length de4) (.slice d5 (Zcc Q).cs.length de5)
        clear q0 q1 q2 q3 q4
        obtain ⟨⟨q0, q1, q2, q3, q4⟩, qf0, qf1, qf2, qf3, qf4⟩ := Zae hbx2
        have H5 := Lib.hid hs5
        have H6 := Lib.hid hpr2
        have H7 := Lib.hid hin2
        have H8 := Lib.hid hb2
        have HOK2 := Lib.hid (HOK.out.fold)
        clear hs5 hpr2 hin2 hb2 hK6 hpr hK5 hlo hbx2
        go_wp2_with fail
        go_roundw
        case rel => exact ⟨k + 1, Zcc Q, d1, d2, d3, d4, d5, de1, de2, de3, de4, de5, by go_num, by omega, HOK2.out, H5.out, H6.out, H7.out, H8.out⟩
        case measure => simp [intOf]; omega
      · refine (drop_any (Zai wr) (HLE.out _ HB.out) sp Q _ _ _ _ _ HPQ.out ⟨by omega, by omega, by omega, by omega, by omega, by omega, drop_sz (by omega) (by omega) (by omega)⟩ (Zec Q) wr (Za8 wr) (S.below HB.out)).mono ?_
        rintro r wa ⟨hba, hpost⟩
        rcases hpost with ⟨_, u1, u2, u3, u4, u5, K5, rfl, hpr, hK5, hlo⟩ | ⟨h, _⟩
        case inr => rw [Zi7 HOK.out.zero] at h; rcases h with h | h <;> exact absurd rfl h
        obtain ⟨d1, de1, rfl⟩ := hpr.ins.len
        obtain ⟨d2, de2, rfl⟩ := hpr.outs.len
        obtain ⟨d3, de3, rfl⟩ := hpr.fl.len
        obtain ⟨d4, de4, rfl⟩ := hpr.asr.len
        obtain ⟨d5, de5, rfl⟩ := hpr.chk.len
        have hbx2 := (hba.block qb hqlt).trans HBX.out
        have hs5 := Zdd hbx2 (.slice d1 (Zb8 Q).ins.length de1) (.slice d2 (Zb8 Q).outs.length de2) (.slice d3 (Zb8 Q).fl.length de3) (.slice d4 (Zb8 Q).as.length de4) (.slice d5 (Zb8 Q).cs.length de5)
        have hK6 := in5 hK5 (hlo qb hqlt) (.slice d1 (Zb8 Q).ins.length de1) (.slice d2 (Zb8 Q).outs.length de2) (.slice d3 (Zb8 Q).fl.length de3) (.slice d4 (Zb8 Q).as.length de4) (.slice d5 (Zb8 Q).cs.length de5)
        have hpr2 := hpr.le (Ziy hK6 (hlo qb hqlt))
        have hin2 := in5 (HIN.out.below hba) (show noKn qb w8 qb = none from if_pos rfl) (.slice d1 (Zb8 Q).ins.length de1) (.slice d2 (Zb8 Q).outs.length de2) (.slice d3 (Zb8 Q).fl.length de3) (.slice d4 (Zb8 Q).as.length de4) (.slice d5 (Zb8 Q).cs.length de5)
        have hb2 := Zes (HB.out.trans (hba.mono HB.out.size)) (Nat.le_of_lt hqp) (.slice d1 (Zb8 Q).ins.length de1) (.slice d2 (Zb8 Q).outs.length de2) (.slice d3 (Zb8 Q).fl.length de3) (.slice d4 (Zb8 Q).as.length de4) (.slice d5 (Zb8 Q).cs.length de5)
        clear q0 q1 q2 q3 q4
        obtain ⟨⟨q0, q1, q2, q3, q4⟩, qf0, qf1, qf2, qf3, qf4⟩ := Zae hbx2
        have H5 := Lib.hid hs5
        have H6 := Lib.hid hpr2
        have H7 := Lib.hid hin2
        have H8 := Lib.hid hb2
        have HOK2 := Lib.hid (HOK.out.drop)
        clear hs5 hpr2 hin2 hb2 hK6 hpr hK5 hlo hbx2
        go_wp2_with fail
        go_roundw
        case rel => exact ⟨k + 1, Zb8 Q, d1, d2, d3, d4, d5, de1, de2, de3, de4, de5, by go_num, by omega, HOK2.out, H5.out, H6.out, H7.out, H8.out⟩
        case measure => simp [intOf]; omega
      · refine (same_any (Zai wr) (HLE.out _ HB.out) sp Q _ _ _ _ _ HPQ.out ⟨by omega, by omega, by omega, by omega, by omega, by omega⟩ (Zec Q) wr (Za8 wr) (S.below HB.out)).mono ?_
        rintro r wa ⟨hba, hpost⟩
        rcases hpost with ⟨_, u1, u2, u3, u4, u5, K5, rfl, hpr, hK5, hlo⟩ | ⟨h, _⟩
        case inr => rw [Zi7 HOK.out.zero] at h; rcases h with h | h <;> exact absurd rfl h
        obtain ⟨d1, de1, rfl⟩ := hpr.ins.len
        obtain ⟨d2, de2, rfl⟩ := hpr.outs.len
        obtain ⟨d3, de3, rfl⟩ := hpr.fl.len
        obtain ⟨d4, de4, rfl⟩ := hpr.asr.len
        obtain ⟨d5, de5, rfl⟩ := hpr.chk.len
        have hbx2 := (hba.block qb hqlt).trans HBX.out
        have hs5 := Zdd hbx2 (.slice d1 (Zdb Q).ins.length de1) (.slice d2 (Zdb Q).outs.length de2) (.slice d3 (Zdb Q).fl.length de3) (.slice d4 (Zdb Q).as.length de4) (.slice d5 (Zdb Q).cs.length de5)
        have hK6 := in5 hK5 (hlo qb hqlt) (.slice d1 (Zdb Q).ins.length de1) (.slice d2 (Zdb Q).outs.length de2) (.slice d3 (Zdb Q).fl.length de3) (.slice d4 (Zdb Q).as.length de4) (.slice d5 (Zdb Q).cs.length de5)
        have hpr2 := hpr.le (Ziy hK6 (hlo qb hqlt))
        have hin2 := in5 (HIN.out.below hba) (show noKn qb w8 qb = none from if_pos rfl) (.slice d1 (Zdb Q).ins.length de1) (.slice d2 (Zdb Q).outs.length de2) (.slice d3 (Zdb Q).fl.length de3) (.slice d4 (Zdb Q).as.length de4) (.slice d5 (Zdb Q).cs.length de5)
        have hb2 := Zes (HB.out.trans (hba.mono HB.out.size)) (Nat.le_of_lt hqp) (.slice d1 (Zdb Q).ins.length de1) (.slice d2 (Zdb Q).outs.length de2) (.slice d3 (Zdb Q).fl.length de3) (.slice d4 (Zdb Q).as.length de4) (.slice d5 (Zdb Q).cs.length de5)
        clear q0 q1 q2 q3 q4
        obtain ⟨⟨q0, q1, q2, q3, q4⟩, qf0, qf1, qf2, qf3, qf4⟩ := Zae hbx2
        have H5 := Lib.hid hs5
        have H6 := Lib.hid hpr2
        have H7 := Lib.hid hin2
        have H8 := Lib.hid hb2
        have HOK2 := Lib.hid (HOK.out.same)
        clear hs5 hpr2 hin2 hb2 hK6 hpr hK5 hlo hbx2
        go_wp2_with fail
        go_roundw
        case rel => exact ⟨k + 1, Zdb Q, d1, d2, d3, d4, d5, de1, de2, de3, de4, de5, by go_num, by omega, HOK2.out, H5.out, H6.out, H7.out, H8.out⟩
        case measure => simp [intOf]; omega
    · obtain rfl : k = 3 := by omega
      have hrun := HOK.out.runE HE.out (ni' := 3) ⟨by decide, by decide⟩
      have hsz := HOK.out.sz (by omega)
      obtain ⟨g1, g2, g3, g4, g5, g6⟩ := hsz
      have HRU := Lib.hid hrun
      have HRN := Lib.hid ((HOK.out.runs true 3 ins).trans (runM_nils HC0.out true false 3 0 ins))
      have ZQ := Lib.hid (show Q.ins.length ≤ 1000000 ∧ Q.fl.length ≤ 1000000 ∧ Q.outs.length ≤ 1000000000 ∧ Q.as.length ≤ 1000000 ∧ Q.cs.length ≤ 1000000 ∧ ∀ l ∈ ins, l.length ≤ 1000000 from ⟨by omega, by omega, by omega, by omega, by omega, ZX.out⟩)
      have ZPQ := Lib.hid (show Ex.partsL Q.terms ≤ 1000000000 from by omega)
      clear hrun
      rw [← Zap] at q0 q1 q2 q3 q4
      have hSD : (Zai wr).In wr.drew := (Za8 wr).below (Below.refl _ _).drew
      have HBD := Lib.hid HB.out.drew
      have HIW := Lib.hid (InsV.le (Zbl HIN.out) HIK.out)
      have HVW := Lib.hid (TksV.le (Zbl HIN.out) HVK.out)
      go_wp2_with fail
      refine Za2 (fun w' => (Zai wr).In w') (fun _ => True) 99 (by kernel_rfl) ?_
      refine Go.w3 0 ?_
      iterate 2 (first | (refine tk3 (v := ?_) rfl hSD (fun _ => trivial) ?hy ?_; (case hy => intro w hSw; have z0 := hSw.cell q0; have z1 := hSw.cell q1; have z2 := hSw.cell q2; have z3 := hSw.cell q3; have z4 := hSw.cell q4; go_simp <;> with_reducible rfl); try simp only [Act.put, List.setIfInBounds_toArray, List.set_cons_zero, List.set_cons_succ, List.getElem_toArray, List.getElem_cons_zero, List.getElem_cons_succ, Nat.reduceAdd]) | (refine sk3 rfl hSD (fun _ => trivial) ?_; try simp only [Act.put, List.setIfInBounds_toArray, List.set_cons_zero, List.set_cons_succ, List.getElem_toArray, List.getElem_cons_zero, List.getElem_cons_succ, Nat.reduceAdd]) | (refine no3 ?_; simp only [Nat.reduceAdd]))
      refine Go.w3e ?_
      refine wpAny2_one (i := 2) (o := _) (by kernel_rfl) rfl (fun K_ hK => ?_)
      go_simp
      go_at_call 10
      refine (in_any (Zai wr) ins _ HIW.out ZI.out _ hSD).mono ?_
      rintro r wa ⟨vI, KI, rfl, hvI, hstI⟩
      have hSa := hSD.below hstI.below
      have HBa := Lib.hid (HBD.out.trans (hstI.below.mono HBD.out.size))
      have hvI := InsV.le (Zbl hstI.isin) hvI
      have hpA := HPQ.out.le (Zbl hSa)
      refine hK.out _ _ (hSa) (fun _ => trivial) ?_
      clear hK K_
      try simp only [Act.put, List.setIfInBounds_toArray, List.set_cons_zero, List.set_cons_succ, List.getElem_toArray, List.getElem_cons_zero, List.getElem_cons_succ]
      refine wpAny2_one (i := 3) (o := _) (by kernel_rfl) rfl (fun K_ hK => ?_)
      go_simp
      go_at_call 8
      refine (run_any (Zai wa) (HLE.out _ HBa.out) sp Q _ _ _ _ _ hpA ins _ hvI wa (Za8 wa) (S.below HBa.out) true 3 ZQ.out ZPQ.out).mono ?_
      rintro r wb hpost
      obtain ⟨hbb, hpost⟩ := hpost.told
      rw [HRU.out] at hpost
      rcases hpost with ⟨_, vb, rfl, hvb⟩ | ⟨h, _⟩
      case inr => exact absurd rfl h
      rw [HRN.out] at hvb
      have hSb := hSa.below hbb
      obtain ⟨ab, cb, rfl⟩ := hvb.len
      refine hK.out _ _ (hSb) (fun _ => trivial) ?_
      clear hK K_
      try simp only [Act.put, List.setIfInBounds_toArray, List.set_cons_zero, List.set_cons_succ, List.getElem_toArray, List.getElem_cons_zero, List.getElem_cons_succ]
      refine Go.w3 4 ?_
      iterate 5 (first | (refine tk3 (v := ?_) rfl hSb (fun _ => trivial) ?hy ?_; (case hy => intro w hSw; have z0 := hSw.cell q0; have z1 := hSw.cell q1; have z2 := hSw.cell q2; have z3 := hSw.cell q3; have z4 := hSw.cell q4; go_simp <;> with_reducible rfl); try simp only [Act.put, List.setIfInBounds_toArray, List.set_cons_zero, List.set_cons_succ, List.getElem_toArray, List.getElem_cons_zero, List.getElem_cons_succ, Nat.reduceAdd]) | (refine sk3 rfl hSb (fun _ => trivial) ?_; try simp only [Act.put, List.setIfInBounds_toArray, List.set_cons_zero, List.set_cons_succ, List.getElem_toArray, List.getElem_cons_zero, List.getElem_cons_succ, Nat.reduceAdd]) | (refine no3 ?_; simp only [Nat.reduceAdd]))
      refine Go.w3e ?_
      refine Zei (by kernel_rfl) ?_ _
      have HBb := Lib.hid (HBa.out.trans (hbb.mono HBa.out.size))
      have HTA := Lib.hid (TksV.le (Zbl hSb) HVW.out)
      have HTB := Lib.hid hvb
      clear hSa hSb hSD hstI hvI hpA hbb hvb q0 q1 q2 q3 q4
      go_wp2_with fail
      refine (ticksOf_any (Zai wb) _ _ HTA.out (by omega) wb (Za8 wb)).mono ?_
      rintro r wc ⟨vc1, Kc, rfl, hvc, hstc⟩
      have HBc := Lib.hid (HBb.out.trans (hstc.below.mono HBb.out.size))
      have HTC := Lib.hid (TksV.le (Zbl hstc.isin) hvc)
      have HTB2 := Lib.hid (TksV.le (Zbl (Zbt hstc.below)) HTB.out)
      clear hvc hstc
      go_wp2_with fail
      refine (ticksOf_any (Zai wc) _ _ HTB2.out (by omega) wc (Za8 wc)).mono ?_
      rintro r wd ⟨vd1, Kd, rfl, hvd, hstd⟩
      have HBd := Lib.hid (HBc.out.trans (hstd.below.mono HBc.out.size))
      have HTD := Lib.hid (TksV.le (Zbl hstd.isin) hvd)
      have HTC2 := Lib.hid (TksV.le (Zbl (Zbt hstd.below)) HTC.out)
      clear hvd hstd
      go_wp2_with fail
      refine (sameTicks_any (Zai wd) _ _ _ HTC2.out HTD.out ⟨by omega, ZT.out _ _ _⟩ wd (Za8 wd)).mono ?_
      rintro r we ⟨rfl, hbe⟩
      have HBe := Lib.hid (HBd.out.trans (hbe.mono HBd.out.size))
      go_wp2_with fail
      go_ret
      exact ⟨rfl, HBe.out⟩
end Go.Proofs.YtofameafdnkijaaGreatDoor
