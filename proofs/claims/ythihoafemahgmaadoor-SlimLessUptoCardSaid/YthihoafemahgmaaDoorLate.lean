/- Walks: order.Late. -/
import Derived.Test.YthihoafemahgmaaDoorOrdA
import Derived.Test.YthihoafemahgmaaDoorLateA
namespace Go.Proofs.YthihoafemahgmaaDoor
open Go.RowKit Mx
abbrev SIntsV (H : Kn) : List Int → Value → Prop := SlV H 1 fun x f => f 0 = some (.int .i64 x)
theorem sints_of_row {w : World} {base : Nat} {t : TypeId} {v : Value} {l : List Int} (h : w.ownsRow base t 1 v l.length (l.map (Value.int .i64))) : SIntsV (allKn w) l v := by
  by_cases h0 : l = []
  · obtain ⟨a, c, h1, _⟩ := own_len h
    exact .inl ⟨h0, a, c, by rw [h1, h0]; rfl⟩
  · obtain ⟨g, cap, rfl, h2, h3, _, _, h4⟩ := own_shape h (List.length_pos_iff.2 h0)
    refine .inr ⟨g, 0, cap, rfl, h2, h3, fun i hi => ?_⟩
    show (allKn w).cell g (0 + i * 1 + 0) = some (Value.int .i64 l[i])
    rw [allKn_cell]
    simp only [Nat.zero_add, Nat.mul_one, Nat.add_zero]
    exact h4 i _ (by simp [hi])
def LatePost (sp : Nat → Addr) (p : Pr) (w : World) (r : Ending) (w' : World) : Prop :=
  Below w.heap.size w w' ∧ match lateM p with
    | .error x => ∃ v, r = .returned (.tuple #[.slice none 0 0, v]) ∧ ErrW sp w' x.1 x.2 v
    | .ok l => ∃ v, r = .returned (.tuple #[v, .nilIface]) ∧ SIntsV (allKn w') l v
set_option maxHeartbeats 8000000 in
set_option maxRecDepth 100000 in
theorem lates_any (H : Kn) (T : LevelsAt H) (sp : Nat → Addr) (p : Pr) (vi vo vl va vc : Value) (hp : PrP H p vi vo vl va vc) (w : World) (hH : H.In w) (S : Sen5 w sp)
    (hsz : p.ins.length ≤ 1000000 ∧ p.fl.length ≤ 1000000 ∧ p.outs.length ≤ 100000000000 ∧ p.as.length ≤ 1000000 ∧ p.cs.length ≤ 1000000) (hpt : Ex.partsL p.terms ≤ 1000000000)
    (hpick : checkFlat p = 0 → (∀ j, j < p.graph.length → cyc p.graph j = false) → ∀ j, j < p.graph.length → pick p.graph (sortN p.graph j []) < p.graph.length) :
    Calls Tryd.prog 43 #[.agg #[vi, vo, vl, va, vc]] w (LatePost sp p w) := by
  have HP := Lib.hid hp
  obtain ⟨h1, h2, h3, h4, h5⟩ := hp
  obtain ⟨ai, ci, rfl⟩ := h1.len
  obtain ⟨ao, co, rfl⟩ := h2.len
  obtain ⟨al, cl, rfl⟩ := h3.len
  obtain ⟨aa, ca, rfl⟩ := h4.len
  obtain ⟨ac, cc, rfl⟩ := h5.len
  have H3 := Lib.hid h3
  clear h1 h2 h3 h4 h5
  go_enter Tryd.func43, Tryd.ntmps43
  go_wp2_with fail
  have hb0 : Below w.heap.size w (w.alloc (.cells #[.slice ai p.ins.length ci, .slice ao p.outs.length co, .slice al p.fl.length cl, .slice aa p.as.length ca, .slice ac p.cs.length cc] 34)) := (Below.refl _ _).alloc (Nat.le_refl _) _
  refine (order_any H T sp p _ _ _ _ _ HP.out _ (hH.below hb0) (S.below hb0) hsz hpt hpick).mono ?_
  rintro r w1 ⟨hb1, hpost⟩
  have HB1 := Lib.hid (hb0.trans (hb1.mono (by simp)))
  have hq : ∀ i, w1.cell? ⟨w.heap.size, i, none⟩ = (#[.slice ai p.ins.length ci, .slice ao p.outs.length co, .slice al p.fl.length cl, .slice aa p.as.length ca, .slice ac p.cs.length cc] : Array Value)[i]? := fun i => by rw [hb1.cell (p := ⟨w.heap.size, i, none⟩) (by simp), World.cell?_alloc_new]
  have q0 := hq 0
  have q1 := hq 1
  have q2 := hq 2
  have q3 := hq 3
  have q4 := hq 4
  simp at q0 q1 q2 q3 q4
  have hz1 : w.heap.size < w1.heap.size := by have := hb1.size; simp at this; omega
  clear hq hb0 hb1
  cases hom : orderM p with
  | error x =>
    rw [hom] at hpost
    obtain ⟨v, rfl, hv⟩ := hpost
    have HX := Lib.hid (show lateM p = .error x from by unfold lateM; rw [hom])
    have HV := Lib.hid hv
    have hx0 : x.1 ≠ 0 := by
      unfold orderM at hom
      split at hom
      · rename_i h; cases hom; exact h
      · split at hom
        · cases hom; simp
        · cases hom
    obtain ⟨tv, pv, rfl⟩ : ∃ tv pv, v = .iface tv pv := by
      rcases hv with ⟨_, h⟩ | ⟨_, N, h, _⟩
      · obtain ⟨c, hc⟩ : ∃ c, x.1 = c + 1 := ⟨x.1 - 1, by omega⟩
        rw [hc, errV_succ] at h
        exact ⟨_, _, h⟩
      · exact ⟨_, _, h⟩
    clear hom hv
    go_wp2_with fail
    go_ret2
    unfold LatePost
    rw [HX.out]
    exact ⟨HB1.out, _, rfl, HV.out⟩
  | ok l =>
    rw [hom] at hpost
    obtain ⟨v, rfl, hv⟩ := hpost
    have HX := Lib.hid (show lateM p = .ok (p.fl.map fun f => namesM p f.name) from by unfold lateM; rw [hom])
    obtain ⟨av, cv, rfl⟩ := hv.len
    have hck : checkFlat p = 0 := by
      unfold orderM at hom
      split at hom
      · cases hom
      · rename_i h; simpa using h
    obtain ⟨ks, _, _, hfm, hfl, hpp, _, _⟩ := check_zero hck
    have HFM := Lib.hid (show ∀ f ∈ p.fl, formAll ks f.e = true from fun f hf => by
      obtain ⟨i, hi, he⟩ := List.mem_iff_getElem.1 (terms_fl p hf)
      rw [← he]; exact (formAllL_get ks _).1 hfm i hi)
    clear hck hfm hpp hom hv
    go_wp2_with fail
    refine (names_any H p _ _ _ _ _ HP.out ks HFM.out (by omega) w1 (hH.below HB1.out)).mono ?_
    rintro r w2 ⟨bm, m, rfl, hM, hnm, hbd, hb2⟩
    have HM := Lib.hid hM
    have HB2 := Lib.hid (HB1.out.trans (hb2.mono (by omega)))
    have hq2 : w2.cell? ⟨w.heap.size, 2, none⟩ = some (.slice al p.fl.length cl) := by
      rw [hb2.cell (p := ⟨w.heap.size, 2, none⟩) (by simpa using hz1)]; exact q2
    have HQ2 := Lib.hid hq2
    have HNM := Lib.hid hnm
    have hbm : bm < w2.heap.size := by obtain ⟨es, ck, h, _⟩ := hM; exact (Array.getElem?_eq_some_iff.1 h).1
    have hz2 : w.heap.size < w2.heap.size := by have := hb2.size; omega
    clear hM hb2 hbd hnm q0 q1 q2 q3 q4
    go_wp2_with fail
    go_loopw [7, 23] (fun u7 i wr => ∃ k : Nat, i = .int .i64 k ∧ k ≤ p.fl.length ∧ Below w2.heap.size w2 wr ∧ wr.ownsRow w2.heap.size 3 1 u7 k ((p.fl.map fun f => Value.int .i64 (getI m f.name)).take k)) (fun _ i _ => p.fl.length - (intOf i).toNat)
    case atStart => exact ⟨0, rfl, Nat.zero_le _, Below.refl _ _, World.ownsRow_nil _ _ _ _⟩
    case round =>
      obtain ⟨k, rfl, hk, hb, hown⟩ := hrel
      have HB := Lib.hid hb
      have HO := Lib.hid hown
      obtain ⟨ua, uc, rfl, huc, _⟩ := own_len hown
      clear hb hown
      by_cases hkl : k < p.fl.length
      · obtain ⟨b1, off, rfl, _, hfc⟩ := SlV.at H3.out hkl
        obtain ⟨u, c0, c1, c2, c3, c4, c5, hu⟩ := hfc.cells
        obtain ⟨ax, cx, rfl⟩ := hu.len
        have hHr := hH.below (HB2.out.trans (HB.out.mono (by omega)))
        have c0 := hHr.cell c0
        have c1 := hHr.cell c1
        have c2 := hHr.cell c2
        have c3 := hHr.cell c3
        have c4 := hHr.cell c4
        have c5 := hHr.cell c5
        simp only [Nat.add_zero] at c0
        have TK := Lib.hid (show (p.fl.map fun f => Value.int .i64 (getI m f.name)).take (k + 1) = (p.fl.map fun f => Value.int .i64 (getI m f.name)).take k ++ [.int .i64 (getI m p.fl[k].name)] from by
          rw [List.take_succ_eq_append_getElem (by simpa using hkl)]; simp)
        clear hHr hu hfc
        generalize p.fl[k] = x at *
        obtain ⟨xn, xk, xe⟩ := x
        dsimp only at *
        generalize xe.op = xo at *
        generalize xe.n = xnn at *
        generalize xe.s = xs at *
        generalize xe.l.length = xl at *
        have hrun := ((HM.out.below HB.out).alloc (.cells #[.string xn, .int .i64 xk, .string xo, .int .i64 xnn, .string xs, .slice ax xl cx] 47)).run (P := Tryd.prog) Tryd.underlying52 Tryd.underlying9 (d := 0) (by kernel_rfl) xn false
        simp only [Bool.false_eq_true, if_false] at hrun
        have HG := Lib.hid (show getI m xn = (m xn).getD 0 from rfl)
        rw [HG.out] at TK
        generalize hg : (m xn).getD 0 = g at *
        have hO1 := (HO.out.alloc (.cells #[.string xn, .int .i64 xk, .string xo, .int .i64 xnn, .string xs, .slice ax xl cx] 47)).alloc (.cells #[.int .i64 g] 3)
        have HO1 := Lib.hid hO1
        have hB1 := (HB.out.alloc HB.out.size (.cells #[.string xn, .int .i64 xk, .string xo, .int .i64 xnn, .string xs, .slice ax xl cx] 47)).alloc (by have := HB.out.size; simp; omega) (.cells #[.int .i64 g] 3)
        have HB1' := Lib.hid hB1
        have hc1 := cells1 (wr.alloc (.cells #[.string xn, .int .i64 xk, .string xo, .int .i64 xnn, .string xs, .slice ax xl cx] 47)) (.int .i64 g) 3
        simp only [World.size_alloc] at hc1
        have HC1 := Lib.hid hc1
        clear hO1 hB1 hc1
        go_wp2_with (at_builtin; refine app1 83 3 1 8 _ Tryd.underlying83 Tryd.infoInt rfl (by decide) _ _ rfl rfl w2.heap.size _ _ _ rfl HO1.out ⟨wr.heap.size + 1, 0, none⟩ 1 [.int .i64 g] rfl rfl ?c1 ?c2 ?c3 ?c4 ?c5 ?_)
        case c1 => exact HC1.out
        case c2 => simp [Value.oneCell']
        case c3 => omega
        case c4 => omega
        case c5 => have := HB.out.size; simp; omega
        intro v' w3 ho hg3
        have HO3 := Lib.hid ho
        have HB3 := Lib.hid (HB1'.out.grown hg3 (by have := HB.out.size; simp; omega) (fun q hq => by have := (HO1.out.lt q hq).1; omega))
        clear ho hg3
        go_wp2_with fail
        go_roundw
        case rel => exact ⟨k + 1, by go_num, by omega, HB3.out, by rw [TK.out]; exact HO3.out⟩
        case measure => simp [intOf]; omega
      · obtain rfl : k = p.fl.length := by omega
        have hsv : SIntsV (allKn wr) (p.fl.map fun f => namesM p f.name) (.slice ua p.fl.length uc) := by
          refine sints_of_row (base := w2.heap.size) (t := 3) ?_
          have h := HO.out
          rw [List.take_of_length_le (by simp), HNM.out] at h
          simpa [List.map_map, Function.comp_def] using h
        have HSV := Lib.hid hsv
        clear hsv
        go_wp2_with fail
        go_ret2
        unfold LatePost
        rw [HX.out]
        exact ⟨HB2.out.trans (HB.out.mono (by omega)), _, rfl, HSV.out⟩
end Go.Proofs.YthihoafemahgmaaDoor
