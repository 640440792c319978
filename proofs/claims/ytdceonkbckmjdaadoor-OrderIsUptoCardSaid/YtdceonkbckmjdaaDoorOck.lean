/- Walks: order.Check. -/
import Derived.Test.YtdceonkbckmjdaaDoorOckA
import Derived.Test.YtdceonkbckmjdaaDoorConcat
import Derived.Test.YtdceonkbckmjdaaDoorProg
import Derived.Test.YtdceonkbckmjdaaDoorEx
import Derived.Test.YtdceonkbckmjdaaDoorMx
import Derived.Lib.Hide
import Derived.WalkKit
import Derived.Test.YtdceonkbckmjdaaDoorCode
namespace Go.Proofs.YtdceonkbckmjdaaDoor
open Go.RowKit Mx

/-- What order.Check answers. -/
def OckPost (sp : Nat → Addr) (p : Pr) (w : World) (r : Ending) (w' : World) : Prop :=
  Below w.heap.size w w' ∧ ∃ v, r = .returned v ∧ ErrW sp w' (checkM p).1 (checkM p).2 v

set_option maxHeartbeats 8000000 in
set_option maxRecDepth 100000 in
theorem ocheck_any (H : Kn) (T : LevelsAt H) (sp : Nat → Addr) (p : Pr) (vi vo vl va vc : Value) (hp : PrP H p vi vo vl va vc) (w : World) (hH : H.In w) (S : Sents w sp)
    (hsz : p.ins.length ≤ 1000000 ∧ p.fl.length ≤ 1000000 ∧ p.outs.length ≤ 100000000000 ∧ p.as.length ≤ 1000000 ∧ p.cs.length ≤ 1000000) (hpt : Ex.partsL p.terms ≤ 1000000000)
    (hpick : checkFlat p = 0 → (∀ j, j < p.graph.length → cyc p.graph j = false) → ∀ j, j < p.graph.length → pick p.graph (sortN p.graph j []) < p.graph.length) :
    Calls Tryd.prog 19 #[.agg #[vi, vo, vl, va, vc]] w (OckPost sp p w) := by
  have HP := Lib.hid hp
  obtain ⟨h1, h2, h3, h4, h5⟩ := hp
  obtain ⟨ai, ci, rfl⟩ := h1.len
  obtain ⟨ao, co, rfl⟩ := h2.len
  obtain ⟨al, cl, rfl⟩ := h3.len
  obtain ⟨aa, ca, rfl⟩ := h4.len
  obtain ⟨ac, cc, rfl⟩ := h5.len
  have H2 := Lib.hid h2
  have H3 := Lib.hid h3
  have H4 := Lib.hid h4
  have H5 := Lib.hid h5
  clear h1 h2 h3 h4 h5
  go_enter Tryd.func19, Tryd.ntmps19
  go_wp2_with fail
  have hb0 : Below w.heap.size w (w.alloc (.cells #[.slice ai p.ins.length ci, .slice ao p.outs.length co, .slice al p.fl.length cl, .slice aa p.as.length ca, .slice ac p.cs.length cc] 34)) := (Below.refl _ _).alloc (Nat.le_refl _) _
  refine (lates_any H T sp p _ _ _ _ _ HP.out _ (hH.below hb0) (S.below hb0) hsz hpt hpick).mono ?_
  rintro r w1 ⟨hb1, hpost⟩
  have HB1 := Lib.hid (hb0.trans (hb1.mono (by simp)))
  have hq : ∀ i, w1.cell? ⟨w.heap.size, i, none⟩ = (#[.slice ai p.ins.length ci, .slice ao p.outs.length co, .slice al p.fl.length cl, .slice aa p.as.length ca, .slice ac p.cs.length cc] : Array Value)[i]? := fun i => by rw [hb1.cell (p := ⟨w.heap.size, i, none⟩) (by simp), World.cell?_alloc_new]
  have HQ := Lib.hid hq
  have hz1 : w.heap.size < w1.heap.size := by have := hb1.size; simp at this; omega
  clear hq hb0 hb1
  cases hlm : lateM p with
  | error x =>
    rw [hlm] at hpost
    obtain ⟨v, rfl, hv⟩ := hpost
    have HX := Lib.hid (checkM_late hlm)
    have HV := Lib.hid hv
    have hx0 := lateM_pos hlm
    obtain ⟨tv, pv, rfl⟩ : ∃ tv pv, v = .iface tv pv := by
      rcases hv with ⟨_, h⟩ | ⟨_, N, h, _⟩
      · obtain ⟨c, hc⟩ : ∃ c, x.1 = c + 1 := ⟨x.1 - 1, by omega⟩
        rw [hc, errV_succ] at h
        exact ⟨_, _, h⟩
      · exact ⟨_, _, h⟩
    clear hlm hv
    go_wp2_with fail
    go_ret
    unfold OckPost
    rw [HX.out]
    exact ⟨HB1.out, _, rfl, HV.out⟩
  | ok L =>
    rw [hlm] at hpost
    obtain ⟨v, rfl, hv⟩ := hpost
    obtain ⟨rfl, hck⟩ := lateM_ok hlm
    have HLM := Lib.hid hlm
    obtain ⟨av, cv, rfl⟩ := hv.len
    have HV := Lib.hid hv
    rw [List.length_map]
    obtain ⟨ks, _, _, hfm, hfl, hpp, _, _⟩ := check_zero hck
    have HFM := Lib.hid hfm
    have S1 := S.below HB1.out
    clear hck hfm hpp hlm hv
    go_wp2_with fail
    go_loopw [2, 18] (fun u2 i wr => ∃ k : Nat, i = .int .i64 k ∧ k ≤ p.fl.length ∧ Below w1.heap.size w1 wr ∧ ∀ j (hj : j < p.fl.length), j < k → hit p p.fl[j].name = false) (fun _ i _ => p.fl.length - (intOf i).toNat)
    case atStart => exact ⟨0, rfl, Nat.zero_le _, Below.refl _ _, fun j _ h => by omega⟩
    case round =>
      obtain ⟨k, rfl, hk, hb, hno⟩ := hrel
      have HB := Lib.hid hb
      have HNO := Lib.hid hno
      have hq : ∀ i, wr.cell? ⟨w.heap.size, i, none⟩ = (#[.slice ai p.ins.length ci, .slice ao p.outs.length co, .slice al p.fl.length cl, .slice aa p.as.length ca, .slice ac p.cs.length cc] : Array Value)[i]? := fun i => by rw [hb.cell (p := ⟨w.heap.size, i, none⟩) hz1]; exact HQ.out i
      have q0 := hq 0
      have q1 := hq 1
      have q2 := hq 2
      have q3 := hq 3
      have q4 := hq 4
      simp at q0 q1 q2 q3 q4
      clear hb hno hq
      by_cases hkl : k < p.fl.length
      · obtain ⟨b1, off, rfl, _, hfc⟩ := SlV.at H3.out hkl
        obtain ⟨u, c0, c1, c2, c3, c4, c5, hu⟩ := hfc.cells
        have HBW := Lib.hid (HB1.out.trans (HB.out.mono (by omega)))
        have hHr := hH.below HBW.out
        have c0 := hHr.cell c0
        simp only [Nat.add_zero] at c0
        obtain ⟨b2, off2, rfl, _, d0⟩ := SlV.at HV.out (show k < (p.fl.map fun f => namesM p f.name).length by simpa using hkl)
        have d0 : (allKn w1).cell b2 (off2 + k * 1 + 0) = some (.int .i64 ((p.fl.map fun f => namesM p f.name)[k]'(by simpa using hkl))) := d0
        simp only [Nat.mul_one, Nat.add_zero, List.getElem_map] at d0
        have d0 := ((allKn_in w1).below HB.out).cell d0
        have c6 := (S.below HBW.out).c6
        have HIT := Lib.hid (show hit p p.fl[k].name = (decide (namesM p p.fl[k].name = 2) || decide (namesM p p.fl[k].name = 1) && p.outs.contains p.fl[k].name) from rfl)
        have HYES := Lib.hid (show hit p p.fl[k].name = true → checkM p = (7, (k : Int)) from fun h => checkM_hit HLM.out k hkl h HNO.out)
        have HNOT := Lib.hid (show hit p p.fl[k].name = false → ∀ j (hj : j < p.fl.length), j < k + 1 → hit p p.fl[j].name = false from fun h j hj hjk => by
          by_cases hjk' : j < k
          · exact HNO.out j hj hjk'
          · obtain rfl : j = k := by omega
            exact h)
        have HCON := Lib.hid (fun (wz : World) (hz : H.In wz) => containsV_any H _ p.outs p.fl[k].name wz H2.out hz)
        have HHR := Lib.hid hHr
        clear hu hfc c1 c2 c3 c4 c5 hHr HNO
        generalize p.fl[k].name = xn at *
        generalize namesM p xn = q at *
        by_cases e2 : q = 2
        · subst e2
          have hh : hit p xn = true := by rw [HIT.out]; rfl
          have HX := Lib.hid (HYES.out hh)
          clear hh
          go_wp2_with fail
          go_quiet (fail)
          have HBN := Lib.hid (below_drewN HBW.out nq)
          go_wp2_with fail
          all_goals go_ret
          all_goals unfold OckPost
          all_goals rw [HX.out]
          all_goals exact ⟨by first | exact HBN.out.alloc HBN.out.size _ | exact (HBN.out.alloc HBN.out.size _).drew | exact (HBN.out.drew).alloc HBN.out.size _ | exact ((HBN.out.drew).alloc HBN.out.size _).drew, _, rfl, .inr ⟨by omega, _, rfl, heap_alloc_new _ _⟩⟩
        · by_cases e1 : q = 1
          · subst e1
            cases hc : p.outs.contains xn
            · have HC := Lib.hid hc
              have hh : hit p xn = false := by rw [HIT.out, hc]; rfl
              have HX := Lib.hid (HNOT.out hh)
              clear hh
              rw [hc] at HCON
              clear hc
              go_wp2_with fail
              go_quiet ((go_at_call 53; exact quiet_eq (HCON.out _ (HHR.out.drewN _))))
              have HBN := Lib.hid (below_drewN HB.out nq)
              go_wp2_with fail
              go_roundw
              case rel => exact ⟨k + 1, by go_num, by omega, HBN.out, HX.out⟩
              case measure => simp [intOf]; omega
            · have HC := Lib.hid hc
              have hh : hit p xn = true := by rw [HIT.out, hc]; rfl
              have HX := Lib.hid (HYES.out hh)
              clear hh
              rw [hc] at HCON
              clear hc
              go_wp2_with fail
              go_quiet ((go_at_call 53; exact quiet_eq (HCON.out _ (HHR.out.drewN _))))
              have HBN := Lib.hid (below_drewN HBW.out nq)
              go_wp2_with fail
              all_goals go_ret
              all_goals unfold OckPost
              all_goals rw [HX.out]
              all_goals exact ⟨by first | exact HBN.out.alloc HBN.out.size _ | exact (HBN.out.alloc HBN.out.size _).drew | exact (HBN.out.drew).alloc HBN.out.size _ | exact ((HBN.out.drew).alloc HBN.out.size _).drew, _, rfl, .inr ⟨by omega, _, rfl, heap_alloc_new _ _⟩⟩
          · have t2 : (q == 2) = false := by simpa using e2
            have t1 : (q == 1) = false := by simpa using e1
            have hh : hit p xn = false := by rw [HIT.out]; simp [e1, e2]
            have HX := Lib.hid (HNOT.out hh)
            clear hh e1 e2
            go_wp2_with fail
            go_quiet (fail)
            have HBN := Lib.hid (below_drewN HB.out nq)
            go_wp2_with fail
            go_roundw
            case rel => exact ⟨k + 1, by go_num, by omega, HBN.out, HX.out⟩
            case measure => simp [intOf]; omega
      · obtain rfl : k = p.fl.length := by omega
        have HEND := Lib.hid (checkM_end HLM.out fun j hj => HNO.out j hj hj)
        have HBW := Lib.hid (HB1.out.trans (HB.out.mono (by omega)))
        clear HNO
        go_wp2_with fail
        refine (names_any H p _ _ _ _ _ HP.out ks (fun f hf => ?_) (by omega) wr (hH.below HBW.out)).mono ?_
        · obtain ⟨i, hi, he⟩ := List.mem_iff_getElem.1 (terms_fl p hf)
          rw [← he]; exact (formAllL_get ks _).1 HFM.out i hi
        rintro r w2 ⟨bm, m, rfl, hM, hnm, hbd, hb2⟩
        have hwr : w.heap.size < wr.heap.size := by have := HB.out.size; omega
        have hq : ∀ i, w2.cell? ⟨w.heap.size, i, none⟩ = (#[.slice ai p.ins.length ci, .slice ao p.outs.length co, .slice al p.fl.length cl, .slice aa p.as.length ca, .slice ac p.cs.length cc] : Array Value)[i]? := fun i => by
          rw [hb2.cell (p := ⟨w.heap.size, i, none⟩) hwr, HB.out.cell (p := ⟨w.heap.size, i, none⟩) hz1]; exact HQ.out i
        have q3 := hq 3
        have q4 := hq 4
        simp at q3 q4
        have HB2 := Lib.hid (HBW.out.trans (hb2.mono (by omega)))
        have hz2 : w.heap.size < w2.heap.size := by have := hb2.size; omega
        have HM := Lib.hid hM
        have HBD := Lib.hid hbd
        have HFA := Lib.hid (show ∀ e ∈ [p.as, p.cs].flatten, formAll ks e = true from fun e he => by
          have hmem : e ∈ p.terms := by
            simp at he
            unfold Pr.terms
            rcases he with he | he <;> simp [he]
          obtain ⟨i, hi, hx⟩ := List.mem_iff_getElem.1 hmem
          rw [← hx]; exact (formAllL_get ks _).1 HFM.out i hi)
        have HEND' := Lib.hid (show checkM p = if ([p.as, p.cs].flatten.any fun e => decide (0 < lateOf (getI m) e)) = true then (7, -1) else (0, -1) from by
          rw [hnm, HEND.out]; simp)
        clear hM hbd hb2 hq q0 q1 q2 hnm
        go_wp2_with fail
        have hB3 : Below w.heap.size w ((w2.alloc (.cells #[.map (some bm)] 67)).alloc (.cells #[.slice aa p.as.length ca, .slice ac p.cs.length cc] 32)) := (HB2.out.alloc HB2.out.size _).alloc (by simp; omega) _
        have HB3 := Lib.hid hB3
        have hC3 : ((w2.alloc (.cells #[.map (some bm)] 67)).alloc (.cells #[.slice aa p.as.length ca, .slice ac p.cs.length cc] 32)).cell? ⟨w2.heap.size, 0, none⟩ = some (.map (some bm)) := by
          rw [World.cell?_alloc_past _ _ _ (by simp), World.cell?_alloc_new]; rfl
        have hI3 : OckI H w2.heap.size bm m ((w2.alloc (.cells #[.map (some bm)] 67)).alloc (.cells #[.slice aa p.as.length ca, .slice ac p.cs.length cc] 32)) := ⟨hH.below hB3, hC3, by simp; omega, (HM.out.alloc _).alloc _⟩
        have hA3 : ∀ i, ((w2.alloc (.cells #[.map (some bm)] 67)).alloc (.cells #[.slice aa p.as.length ca, .slice ac p.cs.length cc] 32)).cell? ⟨w2.heap.size + 1, i, none⟩ = (#[.slice aa p.as.length ca, .slice ac p.cs.length cc] : Array Value)[i]? := fun i => by
          have := World.cell?_alloc_new (w := w2.alloc (.cells #[.map (some bm)] 67)) #[.slice aa p.as.length ca, .slice ac p.cs.length cc] 32 i
          rw [World.size_alloc] at this
          exact this
        have hz3 : ((w2.alloc (.cells #[.map (some bm)] 67)).alloc (.cells #[.slice aa p.as.length ca, .slice ac p.cs.length cc] 32)).heap.size = w2.heap.size + 2 := by simp
        generalize (w2.alloc (.cells #[.map (some bm)] 67)).alloc (.cells #[.slice aa p.as.length ca, .slice ac p.cs.length cc] 32) = W3 at *
        clear hB3
        refine (concat_any H [p.as, p.cs] [.slice aa p.as.length ca, .slice ac p.cs.length cc] (w2.heap.size + 1) 2 W3 hI3.kn rfl (by omega) rfl (by omega) (fun i hi => ?_) (fun i hi hi' => ?_) ?_).mono ?_
        · rw [hA3 i]; simp at hi ⊢
        · match i, hi with
          | 0, _ => exact H4.out
          | 1, _ => exact H5.out
        · simp [lensum]; omega
        rintro r w4 ⟨v, xs, rfl, ho, hx, hb4⟩
        generalize [p.as, p.cs].flatten = fe at *
        have hv4 := exsV_of_row (hI3.kn.below hb4) ho hx
        obtain ⟨av4, cv4, rfl⟩ := hv4.len
        have HV4 := Lib.hid hv4
        have hI4 : OckI (allKn w4) w2.heap.size bm m w4 := by
          have := hI3.next hb4
          exact ⟨allKn_in w4, this.cell, this.size, this.mp⟩
        have HI4 := Lib.hid hI4
        have HB4 := Lib.hid (HB3.out.trans (hb4.mono (by omega)))
        clear hv4 ho hx hb4 hI4 hI3 hA3 hC3
        go_wp2_with fail
        refine (containsE_any _ _ _ (allKn w4) _ fe _ (check1_pred (allKn w4) w2.heap.size bm m HBD.out ks _ HFA.out) HV4.out w4 (allKn_in w4) HI4.out).mono ?_
        rintro r w5 ⟨rfl, hb5⟩
        have HB5 := Lib.hid (HB4.out.trans (hb5.mono HB4.out.size))
        have c6 := (S.below HB5.out).c6
        clear hb5
        cases hany : (fe.any fun e => decide (0 < lateOf (getI m) e))
        · have HX := Lib.hid (show checkM p = (0, -1) from by rw [HEND'.out, hany]; rfl)
          clear hany
          go_wp2_with fail
          go_ret
          unfold OckPost
          rw [HX.out]
          exact ⟨HB5.out, _, rfl, .inl ⟨rfl, rfl⟩⟩
        · have HX := Lib.hid (show checkM p = (7, -1) from by rw [HEND'.out, hany]; rfl)
          clear hany
          go_wp2_with fail
          go_ret
          unfold OckPost
          rw [HX.out]
          exact ⟨HB5.out, _, rfl, .inl ⟨rfl, rfl⟩⟩
end Go.Proofs.YtdceonkbckmjdaaDoor
/- Walks: lustrumlaw2.bare. -/
/- The program of one flow: its order, no program in sight. -/
namespace Go.Proofs.YtdceonkbckmjdaaDoor
open Mx
/-- A program of one flow. -/
def bareP : Pr := ⟨[], [⟨#[120]⟩], [⟨⟨#[120]⟩, 1, .mk oTrue 0 ⟨#[]⟩ []⟩], [], []⟩
theorem bare_check : checkFlat bareP = 0 := by kernel_rfl
theorem bare_graph : bareP.graph = [[]] := by kernel_rfl
theorem bare_pick : pick [[]] (sortN [[]] 0 []) = 0 := by kernel_rfl
theorem bare_order : orderM bareP = .ok [0] := by kernel_rfl
theorem bare_late : lateM bareP = .ok [0] := by kernel_rfl
theorem bare_checkM : checkM bareP = (0, -1) := by kernel_rfl
theorem bare_hpick : checkFlat bareP = 0 → (∀ j, j < bareP.graph.length → cyc bareP.graph j = false) → ∀ j, j < bareP.graph.length → pick bareP.graph (sortN bareP.graph j []) < bareP.graph.length := by
  intro _ _ j hj
  rw [bare_graph] at hj ⊢
  obtain rfl : j = 0 := by simpa using hj
  rw [bare_pick]; simp
theorem bare_sz : bareP.ins.length ≤ 1000000 ∧ bareP.fl.length ≤ 1000000 ∧ bareP.outs.length ≤ 100000000000 ∧ bareP.as.length ≤ 1000000 ∧ bareP.cs.length ≤ 1000000 := by decide
theorem bare_parts : Ex.partsL bareP.terms ≤ 1000000000 := by decide
end Go.Proofs.YtdceonkbckmjdaaDoor
namespace Go.Proofs.YtdceonkbckmjdaaDoor
open Go.RowKit Mx

set_option maxHeartbeats 1000000 in
set_option maxRecDepth 100000 in
theorem lbare_any (w : World) :
    Calls Tryd.prog 27 #[] w fun r w' => ∃ vi vo vl va vc, r = .returned (.agg #[vi, vo, vl, va, vc]) ∧ PrP (allKn w') bareP vi vo vl va vc ∧ Below w.heap.size w w' := by
  go_enter Tryd.func27, Tryd.ntmps27
  go_wp2_with fail
  have hb : Below w.heap.size w (((w.alloc (.cells #[.slice none 0 0, .slice (some ⟨w.heap.size + 1, 0, none⟩) 1 1, .slice (some ⟨w.heap.size + 1 + 1, 0, none⟩) 1 1, .slice none 0 0, .slice none 0 0] 34)).alloc (.cells #[.string ⟨#[120]⟩] 9)).alloc (.cells #[.string ⟨#[120]⟩, .int .i64 1, .string ⟨#[116, 114, 117, 101]⟩, .int .i64 0, .string ⟨#[]⟩, .slice none 0 0] 59)) := by go_grown
  have h1 : ∀ i, (((w.alloc (.cells #[.slice none 0 0, .slice (some ⟨w.heap.size + 1, 0, none⟩) 1 1, .slice (some ⟨w.heap.size + 1 + 1, 0, none⟩) 1 1, .slice none 0 0, .slice none 0 0] 34)).alloc (.cells #[.string ⟨#[120]⟩] 9)).alloc (.cells #[.string ⟨#[120]⟩, .int .i64 1, .string ⟨#[116, 114, 117, 101]⟩, .int .i64 0, .string ⟨#[]⟩, .slice none 0 0] 59)).cell? ⟨w.heap.size, i, none⟩ = (#[.slice none 0 0, .slice (some ⟨w.heap.size + 1, 0, none⟩) 1 1, .slice (some ⟨w.heap.size + 1 + 1, 0, none⟩) 1 1, .slice none 0 0, .slice none 0 0] : Array Value)[i]? := fun i => by
    rw [World.cell?_alloc_past _ _ _ (by simp; omega), World.cell?_alloc_past _ _ _ (by simp), World.cell?_alloc_new]
  have h2 : ∀ i, (((w.alloc (.cells #[.slice none 0 0, .slice (some ⟨w.heap.size + 1, 0, none⟩) 1 1, .slice (some ⟨w.heap.size + 1 + 1, 0, none⟩) 1 1, .slice none 0 0, .slice none 0 0] 34)).alloc (.cells #[.string ⟨#[120]⟩] 9)).alloc (.cells #[.string ⟨#[120]⟩, .int .i64 1, .string ⟨#[116, 114, 117, 101]⟩, .int .i64 0, .string ⟨#[]⟩, .slice none 0 0] 59)).cell? ⟨w.heap.size + 1, i, none⟩ = (#[.string ⟨#[120]⟩] : Array Value)[i]? := fun i => by
    rw [World.cell?_alloc_past _ _ _ (by simp)]
    have := World.cell?_alloc_new (w := w.alloc (.cells #[.slice none 0 0, .slice (some ⟨w.heap.size + 1, 0, none⟩) 1 1, .slice (some ⟨w.heap.size + 1 + 1, 0, none⟩) 1 1, .slice none 0 0, .slice none 0 0] 34)) #[.string ⟨#[120]⟩] 9 i
    rw [World.size_alloc] at this
    exact this
  have h3 : ∀ i, (((w.alloc (.cells #[.slice none 0 0, .slice (some ⟨w.heap.size + 1, 0, none⟩) 1 1, .slice (some ⟨w.heap.size + 1 + 1, 0, none⟩) 1 1, .slice none 0 0, .slice none 0 0] 34)).alloc (.cells #[.string ⟨#[120]⟩] 9)).alloc (.cells #[.string ⟨#[120]⟩, .int .i64 1, .string ⟨#[116, 114, 117, 101]⟩, .int .i64 0, .string ⟨#[]⟩, .slice none 0 0] 59)).cell? ⟨w.heap.size + 1 + 1, i, none⟩ = (#[.string ⟨#[120]⟩, .int .i64 1, .string ⟨#[116, 114, 117, 101]⟩, .int .i64 0, .string ⟨#[]⟩, .slice none 0 0] : Array Value)[i]? := fun i => by
    have := World.cell?_alloc_new (w := (w.alloc (.cells #[.slice none 0 0, .slice (some ⟨w.heap.size + 1, 0, none⟩) 1 1, .slice (some ⟨w.heap.size + 1 + 1, 0, none⟩) 1 1, .slice none 0 0, .slice none 0 0] 34)).alloc (.cells #[.string ⟨#[120]⟩] 9)) #[.string ⟨#[120]⟩, .int .i64 1, .string ⟨#[116, 114, 117, 101]⟩, .int .i64 0, .string ⟨#[]⟩, .slice none 0 0] 59 i
    rw [World.size_alloc, World.size_alloc] at this
    exact this
  generalize ((w.alloc (.cells #[.slice none 0 0, .slice (some ⟨w.heap.size + 1, 0, none⟩) 1 1, .slice (some ⟨w.heap.size + 1 + 1, 0, none⟩) 1 1, .slice none 0 0, .slice none 0 0] 34)).alloc (.cells #[.string ⟨#[120]⟩] 9)).alloc (.cells #[.string ⟨#[120]⟩, .int .i64 1, .string ⟨#[116, 114, 117, 101]⟩, .int .i64 0, .string ⟨#[]⟩, .slice none 0 0] 59) = W at *
  have q0 := h1 0
  have q1 := h1 1
  have q2 := h1 2
  have q3 := h1 3
  have q4 := h1 4
  simp at q0 q1 q2 q3 q4
  refine bodyPost_ret (v := .agg #[.slice none 0 0, .slice (some ⟨w.heap.size + 1, 0, none⟩) 1 1, .slice (some ⟨w.heap.size + 1 + 1, 0, none⟩) 1 1, .slice none 0 0, .slice none 0 0]) (by simp [results, Tryd.results27, go_sem, q0, q1, q2, q3, q4]) rfl ?_
  refine ⟨_, _, _, _, _, rfl, ⟨.inl ⟨rfl, none, 0, rfl⟩, .inr ⟨_, 0, 1, rfl, by simp [bareP], by unfold maxLen; omega, fun i hi => ?_⟩, .inr ⟨_, 0, 1, rfl, by simp [bareP], by unfold maxLen; omega, fun i hi => ?_⟩, .inl ⟨rfl, none, 0, rfl⟩, .inl ⟨rfl, none, 0, rfl⟩⟩, hb⟩
  · obtain rfl : i = 0 := by simpa [bareP] using hi
    show (allKn W).cell _ _ = _
    rw [allKn_cell, h2]
    rfl
  · obtain rfl : i = 0 := by simpa [bareP] using hi
    refine ⟨?_, ?_, ?_, ?_, ?_, .inl ⟨rfl, none, 0, ?_⟩⟩
    all_goals show (allKn W).cell _ _ = _
    all_goals rw [allKn_cell, h3]
    all_goals rfl
end Go.Proofs.YtdceonkbckmjdaaDoor
/- Walks: lustrumlaw2.first. -/
namespace Go.Proofs.YtdceonkbckmjdaaDoor
open Go.RowKit Mx

set_option maxHeartbeats 8000000 in
set_option maxRecDepth 100000 in
theorem first_any (H : Kn) (T : LevelsAt H) (sp : Nat → Addr) (w : World) (hH : H.In w) (S : Sents w sp) :
    Calls Tryd.prog 14 #[] w fun r w' => r = .returned (.bool true) ∧ Below w.heap.size w w' := by
  have hle : ∀ w1, Below w.heap.size w w1 → LevelsAt (allKn w1) := fun w1 hb => T.le (kn_le_all (hH.below hb))
  have HLE := Lib.hid hle
  clear hle
  go_enter Tryd.func14, Tryd.ntmps14
  go_wp2_with fail
  refine (lbare_any _).mono ?_
  rintro r w1 ⟨vi, vo, vl, va, vc, rfl, hp, hb1⟩
  have HB1 := Lib.hid hb1
  have HP1 := Lib.hid hp
  clear hb1 hp
  go_wp2_with fail
  refine (order_any (allKn w1) (HLE.out _ HB1.out) sp bareP _ _ _ _ _ HP1.out w1 (allKn_in w1) (S.below HB1.out) bare_sz bare_parts bare_hpick).mono ?_
  unfold OrdPost
  rw [bare_order]
  rintro r w2 ⟨hb2, v, rfl, hv⟩
  have HB2 := Lib.hid (HB1.out.trans (hb2.mono HB1.out.size))
  obtain ⟨av, cv, rfl⟩ := hv.len
  obtain ⟨b0, o0, rfl, _, d0⟩ := SlV.at hv (show 0 < [0].length by simp)
  have d0 : (allKn w2).cell b0 (o0 + 0 * 1 + 0) = some (.int .i64 0) := d0
  simp only [Nat.zero_mul, Nat.add_zero, allKn_cell] at d0
  have hl1 : ([0] : List Nat).length = 1 := rfl
  rw [hl1]
  clear hb2 hv
  go_wp2_with fail
  refine (lbare_any _).mono ?_
  rintro r w3 ⟨vi3, vo3, vl3, va3, vc3, rfl, hp3, hb3⟩
  have HB3 := Lib.hid (HB2.out.trans (hb3.mono HB2.out.size))
  have HP3 := Lib.hid hp3
  clear hb3 hp3
  go_wp2_with fail
  refine (ocheck_any (allKn w3) (HLE.out _ HB3.out) sp bareP _ _ _ _ _ HP3.out w3 (allKn_in w3) (S.below HB3.out) bare_sz bare_parts bare_hpick).mono ?_
  unfold OckPost
  rw [bare_checkM]
  rintro r w4 ⟨hb4, v, rfl, hv⟩
  have HB4 := Lib.hid (HB3.out.trans (hb4.mono HB3.out.size))
  obtain rfl : v = .nilIface := by
    rcases hv with ⟨_, h⟩ | ⟨h, _⟩
    · exact h
    · exact absurd rfl h
  clear hb4 hv
  go_wp2_with fail
  refine (lbare_any _).mono ?_
  rintro r w5 ⟨vi5, vo5, vl5, va5, vc5, rfl, hp5, hb5⟩
  have HB5 := Lib.hid (HB4.out.trans (hb5.mono HB4.out.size))
  have HP5 := Lib.hid hp5
  clear hb5 hp5
  go_wp2_with fail
  refine (lates_any (allKn w5) (HLE.out _ HB5.out) sp bareP _ _ _ _ _ HP5.out w5 (allKn_in w5) (S.below HB5.out) bare_sz bare_parts bare_hpick).mono ?_
  unfold LatePost
  rw [bare_late]
  rintro r w6 ⟨hb6, v, rfl, hv⟩
  have HB6 := Lib.hid (HB5.out.trans (hb6.mono HB5.out.size))
  obtain ⟨av6, cv6, rfl⟩ := hv.len
  obtain ⟨b6, o6, rfl, _, d6⟩ := SlV.at hv (show 0 < [(0 : Int)].length by simp)
  have d6 : (allKn w6).cell b6 (o6 + 0 * 1 + 0) = some (.int .i64 0) := d6
  simp only [Nat.zero_mul, Nat.add_zero, allKn_cell] at d6
  have hl6 : ([0] : List Int).length = 1 := rfl
  rw [hl6]
  clear hb6 hv
  go_wp2_with fail
  go_ret
  exact ⟨rfl, HB6.out⟩
end Go.Proofs.YtdceonkbckmjdaaDoor
/- Walks: plain.Code at any error, lustrumlaw2.faulted. -/
namespace Go.Proofs.YtdceonkbckmjdaaDoor
open Go.RowKit Mx

theorem code_any (sp : Nat → Addr) (c : Nat) (a : Int) (v : Value) (w : World) (hv : ErrW sp w c a v) (hc : c ≤ 9) (h0 : a ≠ -1 → 1 ≤ c) (S : Sents w sp) (hE : ErrTypeLaid w) :
    Calls Tryd.prog 63 #[v] w fun e w' => e = .returned (.tuple #[.int .i64 c, .int .i64 a]) ∧ Below w.heap.size w w' := by
  rcases hv with ⟨rfl, rfl⟩ | ⟨ha, N, rfl, hN⟩
  · cases c with
    | zero => exact (code_nil w).mono fun e w' ⟨h1, h2⟩ => ⟨h1, by subst h2; exact Below.refl _ _⟩
    | succ c =>
      refine (code_sent sp c (by omega) w S hE).mono fun e w' ⟨h1, h2⟩ => ⟨?_, h2⟩
      rw [h1]; simp
  · have h1 := h0 ha
    have n0 : w.cell? ⟨N, 0, none⟩ = some (.int .i64 a) := by simp [World.cell?, hN]
    have n1 : w.cell? ⟨N, 1, none⟩ = some (esv (sp (c - 1))) := by simp [World.cell?, hN]
    refine (code_fault sp (c - 1) (by omega) N a w n0 n1 S hE).mono fun e w' ⟨h1', h2⟩ => ⟨?_, h2⟩
    rw [h1']
    have : ((c - 1 : Nat) : Int) + 1 = c := by omega
    rw [this]
set_option maxHeartbeats 1000000 in
set_option maxRecDepth 100000 in
theorem faulted_any (sp : Nat → Addr) (c : Nat) (a : Int) (v : Value) (w : World) (hv : ErrW sp w c a v) (hc : c ≤ 9) (h0 : a ≠ -1 → 1 ≤ c) (S : Sents w sp) (hE : ErrTypeLaid w) (c' a' : Int) :
    Calls Tryd.prog 18 #[v, .agg #[.int .i64 c', .int .i64 a']] w fun e w' => e = .returned (.bool (decide ((c : Int) = c') && (decide ((c : Int) = 0) || decide (a = a')))) ∧ Below w.heap.size w w' := by
  have hb0 : Below w.heap.size w (w.alloc (.cells #[.int .i64 c', .int .i64 a'] 47)) := (Below.refl _ _).alloc (Nat.le_refl _) _
  have HB0 := Lib.hid hb0
  have HV := Lib.hid (hv.below hb0)
  have S0 := S.below hb0
  have hbig := S.big
  have HE0 := Lib.hid (show ErrTypeLaid (w.alloc (.cells #[.int .i64 c', .int .i64 a'] 47)) from by unfold ErrTypeLaid; rw [World.cell?_alloc_past _ _ _ (by omega)]; exact hE)
  clear hv hb0 S hE
  go_enter Tryd.func18, Tryd.ntmps18
  go_wp2_with fail
  refine (code_any sp c a v _ HV.out hc h0 S0 HE0.out).mono ?_
  rintro r w1 ⟨rfl, hb1⟩
  have HB := Lib.hid (HB0.out.trans (hb1.mono (by simp)))
  have q0 : w1.cell? ⟨w.heap.size, 0, none⟩ = some (.int .i64 c') := by rw [hb1.cell (p := ⟨w.heap.size, 0, none⟩) (by simp), World.cell?_alloc_new]; rfl
  have q1 : w1.cell? ⟨w.heap.size, 1, none⟩ = some (.int .i64 a') := by rw [hb1.cell (p := ⟨w.heap.size, 1, none⟩) (by simp), World.cell?_alloc_new]; rfl
  clear hb1 HV HE0 S0
  by_cases h1 : (c : Int) = c'
  · subst h1
    by_cases h2 : (c : Int) = 0
    · go_wp2_with fail
      go_ret
      exact ⟨ret_bool (by simp [h2]), HB.out⟩
    · by_cases h3 : a = a'
      · go_wp2_with fail
        go_ret
        exact ⟨ret_bool (by simp [h2, h3] <;> omega), HB.out⟩
      · go_wp2_with fail
        go_ret
        exact ⟨ret_bool (by simp [h2, h3] <;> omega), HB.out⟩
  · go_wp2_with fail
    go_ret
    exact ⟨ret_bool (by simp [h1]), HB.out⟩
end Go.Proofs.YtdceonkbckmjdaaDoor
