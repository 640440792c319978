/- Walks: order.Names. -/
import Derived.Test.YtdceonkbckmjdaaDoorLateA
import Derived.Test.YtdceonkbckmjdaaDoorNamM
import Derived.Deep.LoopGhost
namespace Go.Proofs.YtdceonkbckmjdaaDoor
open Go.RowKit Mx

theorem getI_set (m : Env Int) (k : ByteArray) (v : Int) : getI (m.set k v) = setL (getI m) k v := by
  funext s
  unfold getI Env.set setL
  split <;> rfl
/-- The state of order.Names: the map, what stays. -/
structure NamS (w wr : World) (bm : Nat) (m : Env Int) (vl : Value) : Prop where
  below : Below w.heap.size w wr
  size : w.heap.size + 2 ≤ wr.heap.size
  mp : MapAt (Value.int .i64) wr bm m
  box : wr.cell? ⟨w.heap.size, 2, none⟩ = some vl
  bd : ∀ s, 0 ≤ getI m s ∧ getI m s ≤ 2
theorem NamS.next {w wr w' : World} {bm : Nat} {m : Env Int} {vl : Value} (h : NamS w wr bm m vl) (hb : Below wr.heap.size wr w') : NamS w w' bm m vl := by
  have hs := h.size
  exact ⟨h.below.trans (hb.mono (by omega)), Nat.le_trans hs hb.size, h.mp.below hb, by rw [hb.cell (p := ⟨w.heap.size, 2, none⟩) (show w.heap.size < wr.heap.size by omega)]; exact h.box, h.bd⟩

set_option maxHeartbeats 4000000 in
set_option maxRecDepth 100000 in
theorem names_any (H : Kn) (p : Pr) (vi vo vl va vc : Value) (hp : PrP H p vi vo vl va vc) (ks : Env Int) (hfm : ∀ f ∈ p.fl, formAll ks f.e = true) (hn : p.fl.length ≤ 1000000) (w : World) (hH : H.In w) :
    Calls Tryd.prog 58 #[.agg #[vi, vo, vl, va, vc]] w fun r w' => ∃ bm m, r = .returned (.map (some bm)) ∧ MapAt (Value.int .i64) w' bm m ∧ getI m = namesM p ∧ (∀ s, 0 ≤ getI m s ∧ getI m s ≤ 2) ∧ Below w.heap.size w w' := by
  obtain ⟨h1, h2, h3, h4, h5⟩ := hp
  obtain ⟨ai, ci, rfl⟩ := h1.len
  obtain ⟨ao, co, rfl⟩ := h2.len
  obtain ⟨al, cl, rfl⟩ := h3.len
  obtain ⟨aa, ca, rfl⟩ := h4.len
  obtain ⟨ac, cc, rfl⟩ := h5.len
  have H3 := Lib.hid h3
  have HFM := Lib.hid hfm
  clear h1 h2 h3 h4 h5 hfm
  have hmm := @run_makeMap Tryd.prog
  go_enter Tryd.func58, Tryd.ntmps58
  go_wp2_with fail
  have hN0 : NamS w ((w.alloc (.cells #[.slice ai p.ins.length ci, .slice ao p.outs.length co, .slice al p.fl.length cl, .slice aa p.as.length ca, .slice ac p.cs.length cc] 34)).alloc (.map #[] 0)) (w.heap.size + 1) Env.none (.slice al p.fl.length cl) := by
    refine ⟨((Below.refl _ _).alloc (Nat.le_refl _) _).alloc (by simp) _, by simp, ?_, by rw [World.cell?_alloc_past _ _ _ (by simp), World.cell?_alloc_new]; rfl, fun s => by simp [getI, Env.none]⟩
    have := MapAt.made (Value.int .i64) (w.alloc (.cells #[.slice ai p.ins.length ci, .slice ao p.outs.length co, .slice al p.fl.length cl, .slice aa p.as.length ca, .slice ac p.cs.length cc] 34))
    simpa using this
  generalize (w.alloc (.cells #[.slice ai p.ins.length ci, .slice ao p.outs.length co, .slice al p.fl.length cl, .slice aa p.as.length ca, .slice ac p.cs.length cc] 34)).alloc (.map #[] 0) = W0 at *
  have HN0 := Lib.hid hN0
  have HM0 := Lib.hid (show namesN p.fl (2 * p.fl.length + 1) (getI Env.none) = namesM p from rfl)
  have HMU := Lib.hid (show mu (getI Env.none) p.fl < 2 * p.fl.length + 1 from by have := mu_zero p.fl; show mu (fun _ => 0) p.fl < _; omega)
  clear hN0
  go_loopg [4] (2 * p.fl.length + 1) (fun f u4 wr => ∃ m b, u4 = .bool b ∧ NamS w wr (w.heap.size + 1) m (.slice al p.fl.length cl) ∧ ((b = true ∧ namesN p.fl f (getI m) = namesM p ∧ mu (getI m) p.fl < f) ∨ (b = false ∧ getI m = namesM p)))
  case atStart => exact ⟨Env.none, true, rfl, HN0.out, .inl ⟨rfl, HM0.out, HMU.out⟩⟩
  case round =>
    obtain ⟨m, b, rfl, hN, hway⟩ := hrel
    have HN := Lib.hid hN
    have hz := hN.size
    clear hN
    rcases hway with ⟨rfl, hnm, hmu⟩ | ⟨rfl, hnm⟩
    · have HNM := Lib.hid hnm
      have HMU := Lib.hid hmu
      have hbox := HN.out.box
      clear hnm hmu
      go_wp2_with fail
      obtain ⟨f0, hf0⟩ : ∃ f0, gk = f0 := ⟨_, rfl⟩
      go_loopw [4, 13] (fun u4 i wr => ∃ (k : Nat) (m' : Env Int) (b : Bool), i = .int .i64 k ∧ u4 = .bool b ∧ k ≤ p.fl.length ∧ NamS w wr (w.heap.size + 1) m' (.slice al p.fl.length cl) ∧ namesRound p.fl (getI m) false = namesRound (p.fl.drop k) (getI m') b ∧ (∀ s, getI m s ≤ getI m' s) ∧ (b = true → ∃ f ∈ p.fl, getI m f.name < getI m' f.name)) (fun _ i _ => p.fl.length - (intOf i).toNat)
      case atStart => exact ⟨0, m, false, rfl, rfl, Nat.zero_le _, HN.out, by simp, fun s => Int.le_refl _, fun h => by cases h⟩
      case round =>
        obtain ⟨k, m', b, rfl, rfl, hk, hN', hrd, hle, hgain⟩ := hrel
        have HN' := Lib.hid hN'
        have HRD := Lib.hid hrd
        have HLE := Lib.hid hle
        have HGAIN := Lib.hid hgain
        have hz' := hN'.size
        clear hN' hrd hle hgain
        by_cases hkl : k < p.fl.length
        · obtain ⟨b1, off, rfl, _, hfc⟩ := SlV.at H3.out hkl
          have hfm := HFM.out p.fl[k] (List.getElem_mem hkl)
          have hmem := List.getElem_mem hkl
          obtain ⟨u, c0, c1, c2, c3, c4, c5, hu⟩ := hfc.cells
          obtain ⟨ax, cx, rfl⟩ := hu.len
          have hHr := hH.below HN'.out.below
          have c0 := hHr.cell c0
          have c1 := hHr.cell c1
          have c2 := hHr.cell c2
          have c3 := hHr.cell c3
          have c4 := hHr.cell c4
          have c5 := hHr.cell c5
          simp only [Nat.add_zero] at c0
          have hEx : ExV H p.fl[k].e (.agg #[.string p.fl[k].e.op, .int .i64 p.fl[k].e.n, .string p.fl[k].e.s, .slice ax p.fl[k].e.l.length cx]) := ⟨_, rfl, hu⟩
          have HEX := Lib.hid hEx
          have HDR := Lib.hid (drop_round hkl (getI m') b)
          have HLB := late_bound (getI m') HN'.out.bd p.fl[k].e
          have HNB := HN'.out.bd p.fl[k].name
          have hbox' := HN'.out.box
          clear hu hfc hEx
          generalize p.fl[k] = x at *
          obtain ⟨xn, xk, xe⟩ := x
          dsimp only at *
          generalize xe.op = xo at *
          generalize xe.n = xnn at *
          generalize xe.s = xs at *
          generalize xe.l.length = xl at *
          have HMEM := Lib.hid hmem
          clear hmem
          have HNx := Lib.hid (HN'.out.next ((Below.refl _ _).alloc (Nat.le_refl _) (.cells #[.string xn, .int .i64 xk, .string xo, .int .i64 xnn, .string xs, .slice ax xl cx] 59)))
          have HHx := Lib.hid (hH.below HNx.out.below)
          go_wp2_with fail
          refine (late_any H m' (w.heap.size + 1) HNx.out.bd ks xe hfm _ HEX.out _ HHx.out HNx.out.mp).mono ?_
          rintro r w2 ⟨rfl, hb2⟩
          have HN2 := Lib.hid (HNx.out.next hb2)
          have hq2 : w2.cell? ⟨wr.heap.size, 0, none⟩ = some (.string xn) := by
            rw [hb2.cell (p := ⟨wr.heap.size, 0, none⟩) (by simp), World.cell?_alloc_new]; rfl
          have hs2 := hb2.size
          simp at hs2
          have hrun := HN2.out.mp.run (P := Tryd.prog) Tryd.underlying67 Tryd.underlying9 (d := 0) (by kernel_rfl) xn false
          simp only [Bool.false_eq_true, if_false] at hrun
          have HG := Lib.hid (show getI m' xn = (m' xn).getD 0 from rfl)
          generalize lateOf (getI m') xe = q at *
          generalize hg : (m' xn).getD 0 = g at *
          rw [HG.out] at HDR HNB
          have HTAKE := Lib.hid (show ∀ v, getI (m'.set xn v) xn = v from fun v => by rw [getI_set]; simp [setL])
          by_cases hlt : g < q
          · have HDR' := Lib.hid (show namesRound (List.drop k p.fl) (getI m') b = namesRound (List.drop (k + 1) p.fl) (getI (m'.set xn q)) true from by rw [HDR.out, if_pos hlt, getI_set])
            have HM2 := Lib.hid HN2.out.mp
            go_wp2_with (at_mapUpdate; refine wp_store (Value.int .i64) 67 9 3 Tryd.underlying67 Tryd.underlying9 (w.heap.size + 1) m' HM2.out _ _ _ rfl rfl rfl xn rfl q rfl ?_; intro w3 hM3 hT3)
            have HN3 := Lib.hid (show NamS w w3 (w.heap.size + 1) (m'.set xn q) (.slice (some ⟨b1, off, none⟩) p.fl.length cl) from ⟨hT3.below HN2.out.below (Nat.le_succ _), by rw [hT3.size]; exact HN2.out.size, hM3, by rw [hT3.cell (p := ⟨w.heap.size, 2, none⟩) (show w.heap.size ≠ w.heap.size + 1 by omega)]; exact HN2.out.box, fun s => by
              rw [getI_set]; unfold setL; split
              · exact HLB
              · exact HN'.out.bd s⟩)
            go_roundw
            case rel =>
              refine ⟨k + 1, _, true, by go_num, rfl, by omega, HN3.out, by rw [HRD.out, HDR'.out], fun s => ?_, fun _ => ⟨_, HMEM.out, ?_⟩⟩
              · have h1 := HLE.out s
                rw [getI_set]; unfold setL; split
                · rename_i he; rw [he] at h1 ⊢; rw [HG.out] at h1; omega
                · exact h1
              · have h1 := HLE.out xn
                show getI m xn < _
                rw [HTAKE.out]; rw [HG.out] at h1; omega
            case measure => simp [intOf]; omega
          · have HDR' := Lib.hid (show namesRound (List.drop k p.fl) (getI m') b = namesRound (List.drop (k + 1) p.fl) (getI m') b from by rw [HDR.out, if_neg hlt])
            go_wp2_with fail
            go_roundw
            case rel => exact ⟨k + 1, m', b, by go_num, rfl, by omega, HN2.out, by rw [HRD.out, HDR'.out], HLE.out, HGAIN.out⟩
            case measure => simp [intOf]; omega
        · obtain rfl : k = p.fl.length := by omega
          have hR : namesRound p.fl (getI m) false = (getI m', b) := by rw [HRD.out, List.drop_length]; rfl
          have HR := Lib.hid hR
          clear hR
          go_wp2_with fail
          go_roundg (gk - 1)
          case rel =>
            obtain ⟨g', rfl⟩ : ∃ g', gk = g' + 1 := ⟨gk - 1, by have := HMU.out; omega⟩
            have hstep := HNM.out
            rw [namesN_step, HR.out] at hstep
            cases b with
            | true =>
              obtain ⟨f, hf, hgt⟩ := HGAIN.out rfl
              have := mu_lt (getI m) (getI m') HLE.out (fun s => (HN'.out.bd s).2) p.fl f hf hgt
              have hm := HMU.out
              exact ⟨m', true, rfl, HN'.out, .inl ⟨rfl, hstep, by omega⟩⟩
            | false => exact ⟨m', false, rfl, HN'.out, .inr ⟨rfl, hstep⟩⟩
          case measure => have := HMU.out; omega
    · have HNM := Lib.hid hnm
      go_wp2_with fail
      go_ret
      exact ⟨_, m, rfl, HN.out.mp, HNM.out, HN.out.bd, HN.out.below⟩
end Go.Proofs.YtdceonkbckmjdaaDoor
