/- Walks: lustrumlaw1.BackFlat. (Printed by gen_bof.py.) -/
import Derived.Test.YtnaijgmfjpmpjaaDoorBxe
import Derived.Test.YtnaijgmfjpmpjaaDoorSlD
namespace Go.Proofs.YtnaijgmfjpmpjaaDoor
open Go.RowKit Mx
theorem exsV_of_own2 {K : Kn} {w : World} {base : Nat} {t : TypeId} {v : Value} {l : List Ex} {xs : List Value} (hK : K.In w) (h : w.ownsRow base t 4 v l.length xs) (hx : XsAt K l xs) (hr : ∀ g, v.ownBlock = some g → K g = none) :
    ∃ K', K.le K' ∧ K'.In w ∧ ExsV K' l v ∧ ∀ b, v.ownBlock ≠ some b → K' b = K b := by
  by_cases h0 : l = []
  · obtain ⟨a, c, h1, _⟩ := own_len h
    exact ⟨K, Kn.le_refl K, hK, .inl ⟨h0, a, c, by rw [h1, h0]; rfl⟩, fun _ _ => rfl⟩
  · obtain ⟨g, cap, h1, h2, h3, hb, hlt, h4⟩ := own_shape h (List.length_pos_iff.2 h0)
    have hg : K g = none := hr g (by rw [h1]; rfl)
    have ho : w.heap[g]? = some w.heap[g] := Array.getElem?_eq_getElem hlt
    refine ⟨K.add g w.heap[g], Kn.le_add hg, hK.add ho, .inr ⟨g, 0, cap, h1, h2, h3, hx.at (Kn.le_add hg) fun j u hj => ?_⟩, fun b hbb => Kn.add_other K _ (fun e => hbb (by rw [h1, e]; rfl))⟩
    have h5 := h4 j u hj
    unfold Kn.cell
    rw [Kn.add_self, Nat.zero_add]
    simp only [World.cell?, ho] at h5
    cases hc : w.heap[g] <;> simp_all
set_option maxHeartbeats 16000000 in
set_option maxRecDepth 100000 in
theorem backFlat_any (p : Pr) (vi vo vl va vc : Value) (H : Kn) (hp : PrP H p vi vo vl va vc) (hsz : p.ins.length ≤ 1000000000 ∧ p.outs.length ≤ 1000000000 ∧ p.fl.length ≤ 1000000000 ∧ Ex.partsL p.terms ≤ 1000000000) (w : World) (hH : H.In w) :
    Calls Tryd.prog 10 #[.agg #[vi, vo, vl, va, vc]] w fun r w' => ∃ vi' vo' vl' va' vc' K, r = .returned (.agg #[vi', vo', vl', va', vc']) ∧ PrP K p vi' vo' vl' va' vc' ∧ Kn.Step H w K w' := by
  obtain ⟨h1, h2, h3, h4, h5⟩ := hp
  obtain ⟨ai, ci, rfl⟩ := h1.len
  obtain ⟨ao, co, rfl⟩ := h2.len
  obtain ⟨al, cl, rfl⟩ := h3.len
  obtain ⟨aa, ca, rfl⟩ := h4.len
  obtain ⟨ac, cc, rfl⟩ := h5.len
  obtain ⟨s1, s2, s3, s4⟩ := hsz
  have hpt : Ex.partsL (p.fl.map (·.e)) ≤ 1000000000 ∧ Ex.partsL p.as ≤ 1000000000 ∧ Ex.partsL p.cs ≤ 1000000000 := by
    unfold Pr.terms at s4
    rw [partsL_app, partsL_app] at s4
    omega
  obtain ⟨t1, t2, t3⟩ := hpt
  have hla := len_partsL p.as
  have hlc := len_partsL p.cs
  obtain ⟨i0, hi0, hz0, hz1, hz2⟩ := info_parts Tryd.infoFlowR
  obtain ⟨i1, hi1, hy0, hy1, hy2⟩ := info_parts Tryd.infoExR
  have H1 := Lib.hid h1
  have H2 := Lib.hid h2
  have H3 := Lib.hid h3
  have H4 := Lib.hid h4
  have H5 := Lib.hid h5
  clear h1 h2 h3 h4 h5 s4
  go_enter Tryd.func10, Tryd.ntmps10
  go_wp2_with fail
  have hP0 : ((w.alloc (.cells #[.slice ai p.ins.length ci, .slice ao p.outs.length co, .slice al p.fl.length cl, .slice aa p.as.length ca, .slice ac p.cs.length cc] 34)).alloc (.cells #[.slice none 0 0, .slice none 0 0, .slice none 0 0, .slice none 0 0, .slice none 0 0] 27)).heap[w.heap.size]? = some (.cells #[.slice ai p.ins.length ci, .slice ao p.outs.length co, .slice al p.fl.length cl, .slice aa p.as.length ca, .slice ac p.cs.length cc] 34 (0, 0)) := by
    rw [Below.heap_alloc _ _ _ (by simp)]; exact heap_alloc_new _ _
  have hR0 : ((w.alloc (.cells #[.slice ai p.ins.length ci, .slice ao p.outs.length co, .slice al p.fl.length cl, .slice aa p.as.length ca, .slice ac p.cs.length cc] 34)).alloc (.cells #[.slice none 0 0, .slice none 0 0, .slice none 0 0, .slice none 0 0, .slice none 0 0] 27)).heap[w.heap.size + 1]? = some (.cells #[.slice none 0 0, .slice none 0 0, .slice none 0 0, .slice none 0 0, .slice none 0 0] 27 (0, 0)) := by
    rw [show w.heap.size + 1 = (w.alloc (.cells #[.slice ai p.ins.length ci, .slice ao p.outs.length co, .slice al p.fl.length cl, .slice aa p.as.length ca, .slice ac p.cs.length cc] 34)).heap.size from by simp]; exact heap_alloc_new _ _
  have hb0 : Below w.heap.size w ((w.alloc (.cells #[.slice ai p.ins.length ci, .slice ao p.outs.length co, .slice al p.fl.length cl, .slice aa p.as.length ca, .slice ac p.cs.length cc] 34)).alloc (.cells #[.slice none 0 0, .slice none 0 0, .slice none 0 0, .slice none 0 0, .slice none 0 0] 27)) := ((Below.refl _ _).alloc (Nat.le_refl _) _).alloc (by simp) _
  generalize (w.alloc (.cells #[.slice ai p.ins.length ci, .slice ao p.outs.length co, .slice al p.fl.length cl, .slice aa p.as.length ca, .slice ac p.cs.length cc] 34)).alloc (.cells #[.slice none 0 0, .slice none 0 0, .slice none 0 0, .slice none 0 0, .slice none 0 0] 27) = W1 at *
  obtain ⟨K0, hK0⟩ : ∃ K, K = H.add w.heap.size (.cells #[.slice ai p.ins.length ci, .slice ao p.outs.length co, .slice al p.fl.length cl, .slice aa p.as.length ca, .slice ac p.cs.length cc] 34 (0, 0)) := ⟨_, rfl⟩
  have hSt : Kn.Step H w K0 W1 := ⟨by rw [hK0]; exact Kn.le_add (hH.isNone (Nat.le_refl _)), fun b hb => by rw [hK0, Kn.add_other _ _ (by omega)], by rw [hK0]; exact (hH.below hb0).add hP0, hb0⟩
  have hHR : K0 (w.heap.size + 1) = none := by rw [hK0, Kn.add_other _ _ (by omega)]; exact hH.isNone (by omega)
  have hc : ∀ i, K0.cell w.heap.size i = (#[.slice ai p.ins.length ci, .slice ao p.outs.length co, .slice al p.fl.length cl, .slice aa p.as.length ca, .slice ac p.cs.length cc] : Array Value)[i]? := fun i => by unfold Kn.cell; rw [hK0, Kn.add_self]
  have k0 : K0.cell w.heap.size 0 = some (.slice ai p.ins.length ci) := hc 0
  have k1 : K0.cell w.heap.size 1 = some (.slice ao p.outs.length co) := hc 1
  have k2 : K0.cell w.heap.size 2 = some (.slice al p.fl.length cl) := hc 2
  have k3 : K0.cell w.heap.size 3 = some (.slice aa p.as.length ca) := hc 3
  have k4 : K0.cell w.heap.size 4 = some (.slice ac p.cs.length cc) := hc 4
  have G1 := Lib.hid (H1.out.le hSt.le VrC.mono)
  have G2 := Lib.hid (H2.out.le hSt.le StrC.mono)
  have G3 := Lib.hid (H3.out.le hSt.le (FlC.mono hSt.le))
  have G4 := Lib.hid (H4.out.le hSt.le)
  have G5 := Lib.hid (H5.out.le hSt.le)
  have hs := Kn.Step.of_below hSt.isin ((Below.refl W1.heap.size W1).drew)
  have HST := Lib.hid hSt
  have HR0 := Lib.hid hR0
  have HHR := Lib.hid hHR
  have hwlt : w.heap.size ≤ W1.heap.size := hb0.size
  clear hc hK0 hP0 hb0 hR0 hHR H1 H2 H3 H4 H5
  refine Code.wp_mono (Q := fun e a' w' => match e with | .normal => ∃ (B : Nat) (x1 : Option Addr) (y1 : Nat) (K3 : Kn), a' = { tmps := #[.agg #[.slice ai p.ins.length ci, .slice ao p.outs.length co, .slice al p.fl.length cl, .slice aa p.as.length ca, .slice ac p.cs.length cc], .pointer (some ⟨w.heap.size, 0, none⟩), .pointer (some ⟨w.heap.size + 1, 0, none⟩), .pointer (some ⟨B, 0, none⟩), undef, undef, undef, .pointer (some ⟨w.heap.size, 0, none⟩), .slice ai p.ins.length ci, .slice x1 p.ins.length y1, .pointer (some ⟨w.heap.size, 1, none⟩), .slice ao p.outs.length co, .agg #[.slice x1 p.ins.length y1, .slice ao p.outs.length co, .slice none 0 0, .slice none 0 0, .slice none 0 0], undef, undef, undef, undef, undef, undef, undef, undef, undef, undef, undef, undef, undef, undef, undef, undef, undef, undef, undef, undef, undef, undef, undef, undef, undef, undef, undef, undef, undef, undef, undef, undef, undef, undef, undef, undef, undef, undef, undef, undef, undef, undef, undef, undef, undef, undef, undef, undef, undef, undef, undef, undef, undef, undef, undef, undef, undef, undef, undef, undef, undef, undef, undef, undef, undef, undef, undef, undef, undef], defers := [] } ∧ K0.le K3 ∧ VrsV K3 p.ins (.slice x1 p.ins.length y1) ∧ BoO 27 69 6 FsX (fun u => #[.slice x1 p.ins.length y1, .slice ao p.outs.length co, u, .slice none 0 0, .slice none 0 0]) H w (w.heap.size + 1) B w' (.slice none 0 0) p.fl 0 [] K3 | _ => False) ?rest ?reg
  case' reg =>
    have hS2 : K0.In W1.drew := hs.isin
    refine wp_region_2 (fun w' => K0.In w') (fun _ => True) 7 (by kernel_rfl) ?_
    generalize W1.drew = Wd at hs hS2 ⊢
    refine wpAny2_take (i := 0) (oi := _) (v := ?_) rfl (by decide) (by kernel_rfl) (by kernel_rfl) (by kernel_rfl) (by kernel_rfl) (fun _ _ _ h => h) hS2 (fun _ => trivial) (Or.inl ⟨by rfl, ?hy⟩) ?_
    case hy => intro w hSw; have z0 := hSw.cell k0; have z1 := hSw.cell k1; first | (go_simp; done) | (go_simp; with_reducible rfl)
    try simp only [Act.put, List.setIfInBounds_toArray, List.set_cons_zero, List.set_cons_succ, List.getElem_toArray, List.getElem_cons_zero, List.getElem_cons_succ]
    refine wpAny2_take (i := 3) (oi := _) (v := ?_) rfl (by decide) (by kernel_rfl) (by kernel_rfl) (by kernel_rfl) (by kernel_rfl) (fun _ _ _ h => h) hS2 (fun _ => trivial) (Or.inl ⟨by rfl, ?hy⟩) ?_
    case hy => intro w hSw; have z0 := hSw.cell k0; have z1 := hSw.cell k1; first | (go_simp; done) | (go_simp; with_reducible rfl)
    try simp only [Act.put, List.setIfInBounds_toArray, List.set_cons_zero, List.set_cons_succ, List.getElem_toArray, List.getElem_cons_zero, List.getElem_cons_succ]
    refine wpAny2_take (i := 1) (oi := _) (v := ?_) rfl (by decide) (by kernel_rfl) (by kernel_rfl) (by kernel_rfl) (by kernel_rfl) (fun _ _ _ h => h) hS2 (fun _ => trivial) (Or.inl ⟨by rfl, ?hy⟩) ?_
    case hy => intro w hSw; have z0 := hSw.cell k0; have z1 := hSw.cell k1; first | (go_simp; done) | (go_simp; with_reducible rfl)
    try simp only [Act.put, List.setIfInBounds_toArray, List.set_cons_zero, List.set_cons_succ, List.getElem_toArray, List.getElem_cons_zero, List.getElem_cons_succ]
    refine wpAny2_take (i := 4) (oi := _) (v := ?_) rfl (by decide) (by kernel_rfl) (by kernel_rfl) (by kernel_rfl) (by kernel_rfl) (fun _ _ _ h => h) hS2 (fun _ => trivial) (Or.inl ⟨by rfl, ?hy⟩) ?_
    case hy => intro w hSw; have z0 := hSw.cell k0; have z1 := hSw.cell k1; first | (go_simp; done) | (go_simp; with_reducible rfl)
    try simp only [Act.put, List.setIfInBounds_toArray, List.set_cons_zero, List.set_cons_succ, List.getElem_toArray, List.getElem_cons_zero, List.getElem_cons_succ]
    refine wpAny2_two (i := 2) (j := 6) (o := _) (o' := _) (by kernel_rfl) rfl rfl (fun K_ hK => ?g0) (fun K_ hK => ?g1)
    case' g0 =>
      go_simp
      go_at_call 35
      refine (backV_any p.ins _ K0 G1.out (by omega) _ hs.isin).mono ?_
      rintro r wc1 ⟨v1, K1, rfl, hv1, hst⟩
      obtain ⟨x1, y1, rfl⟩ := hv1.len
      have hs := hs.trans hst
      have hS2 : K0.In wc1 := fun b o e => hs.isin b o (hs.le b o e)
      refine hK.out _ _ hS2 (fun _ => trivial) ?_
      clear hst hK K_
      try simp only [Act.put, List.setIfInBounds_toArray, List.set_cons_zero, List.set_cons_succ, List.getElem_toArray, List.getElem_cons_zero, List.getElem_cons_succ]
      refine wpAny2_take (i := 5) (oi := _) (v := ?_) rfl (by decide) (by kernel_rfl) (by kernel_rfl) (by kernel_rfl) (by kernel_rfl) (fun _ _ _ h => h) hS2 (fun _ => trivial) (Or.inl ⟨by rfl, ?hy⟩) ?_
      case hy => intro w hSw; first | (go_simp; done) | (go_simp; with_reducible rfl)
      try simp only [Act.put, List.setIfInBounds_toArray, List.set_cons_zero, List.set_cons_succ, List.getElem_toArray, List.getElem_cons_zero, List.getElem_cons_succ]
      refine wpAny2_one (i := 6) (o := _) (by kernel_rfl) rfl (fun K_ hK => ?_)
      go_simp
      refine hK.out _ _ (hS2.alloc _) (fun _ => trivial) ?_
      have hKB : K1 wc1.heap.size = none := hs.isin.isNone (Nat.le_refl _)
      have hBge : W1.heap.size ≤ wc1.heap.size := hs.below.size
      have hs := step_alloc hs (.cells #[.slice none 0 0, .slice none 0 0, .slice none 0 0, .slice none 0 0, .slice none 0 0] 27)
      have hS2 := hS2.alloc (.cells #[.slice none 0 0, .slice none 0 0, .slice none 0 0, .slice none 0 0, .slice none 0 0] 27)
      have hbx : (wc1.alloc (.cells #[.slice none 0 0, .slice none 0 0, .slice none 0 0, .slice none 0 0, .slice none 0 0] 27)).heap[wc1.heap.size]? = some (.cells #[.slice none 0 0, .slice none 0 0, .slice none 0 0, .slice none 0 0, .slice none 0 0] 27 (0, 0)) := heap_alloc_new _ _
      have hlt : wc1.heap.size < (wc1.alloc (.cells #[.slice none 0 0, .slice none 0 0, .slice none 0 0, .slice none 0 0, .slice none 0 0] 27)).heap.size := by simp
      generalize World.alloc wc1 (.cells #[.slice none 0 0, .slice none 0 0, .slice none 0 0, .slice none 0 0, .slice none 0 0] 27) = WA at hs hS2 hbx hlt ⊢
      generalize hBB : wc1.heap.size = B at hKB hBge hbx hlt ⊢
      clear hK K_
      try simp only [Act.put, List.setIfInBounds_toArray, List.set_cons_zero, List.set_cons_succ, List.getElem_toArray, List.getElem_cons_zero, List.getElem_cons_succ]
      obtain ⟨⟨z0, z1, z2, z3, z4⟩, f0, f1, f2, f3, f4⟩ := cells5_of hbx
      refine wpAny2_one (i := 7) (o := _) (by kernel_rfl) rfl (fun K_ hK => ?_)
      go_simp
      refine hK.out _ _ (fun b o e => in5 hs.isin hKB _ _ _ _ _ b o (hs.le b o e)) (fun _ => trivial) ?_
      clear hK K_
      try simp only [Act.put, List.setIfInBounds_toArray, List.set_cons_zero, List.set_cons_succ, List.getElem_toArray, List.getElem_cons_zero, List.getElem_cons_succ]
      have hF := boo_start (E := 69) (kk := 6) (X := FsX) (l := p.fl) (v1 := .slice x1 p.ins.length y1) (vo := .slice ao p.outs.length co) HST.out hs hbx hKB hBge HR0.out HHR.out (Nat.le_succ _) rfl
      exact wpAny2_done (by kernel_rfl) ⟨_, _, _, _, rfl, hs.le, hv1, hF⟩ _
    case' g1 =>
      go_simp
      refine hK.out _ _ (hS2.alloc _) (fun _ => trivial) ?_
      have hKB : K0 Wd.heap.size = none := hs.isin.isNone (Nat.le_refl _)
      have hBge : W1.heap.size ≤ Wd.heap.size := hs.below.size
      have hs := step_alloc hs (.cells #[.slice none 0 0, .slice none 0 0, .slice none 0 0, .slice none 0 0, .slice none 0 0] 27)
      have hS2 := hS2.alloc (.cells #[.slice none 0 0, .slice none 0 0, .slice none 0 0, .slice none 0 0, .slice none 0 0] 27)
      have hbx : (Wd.alloc (.cells #[.slice none 0 0, .slice none 0 0, .slice none 0 0, .slice none 0 0, .slice none 0 0] 27)).heap[Wd.heap.size]? = some (.cells #[.slice none 0 0, .slice none 0 0, .slice none 0 0, .slice none 0 0, .slice none 0 0] 27 (0, 0)) := heap_alloc_new _ _
      have hlt : Wd.heap.size < (Wd.alloc (.cells #[.slice none 0 0, .slice none 0 0, .slice none 0 0, .slice none 0 0, .slice none 0 0] 27)).heap.size := by simp
      generalize World.alloc Wd (.cells #[.slice none 0 0, .slice none 0 0, .slice none 0 0, .slice none 0 0, .slice none 0 0] 27) = WA at hs hS2 hbx hlt ⊢
      generalize hBB : Wd.heap.size = B at hKB hBge hbx hlt ⊢
      clear hK K_
      try simp only [Act.put, List.setIfInBounds_toArray, List.set_cons_zero, List.set_cons_succ, List.getElem_toArray, List.getElem_cons_zero, List.getElem_cons_succ]
      refine wpAny2_one (i := 2) (o := _) (by kernel_rfl) rfl (fun K_ hK => ?_)
      go_simp
      go_at_call 35
      refine (backV_any p.ins _ K0 G1.out (by omega) _ hs.isin).mono ?_
      rintro r wc1 ⟨v1, K1, rfl, hv1, hst⟩
      obtain ⟨x1, y1, rfl⟩ := hv1.len
      have hKB : K1 B = none := (hst.fresh B hlt).trans hKB
      have hbx := (hst.below.block B hlt).trans hbx
      have hlt : B < wc1.heap.size := Nat.lt_of_lt_of_le hlt hst.below.size
      have hs := hs.trans hst
      have hS2 : K0.In wc1 := fun b o e => hs.isin b o (hs.le b o e)
      refine hK.out _ _ hS2 (fun _ => trivial) ?_
      clear hst hK K_
      try simp only [Act.put, List.setIfInBounds_toArray, List.set_cons_zero, List.set_cons_succ, List.getElem_toArray, List.getElem_cons_zero, List.getElem_cons_succ]
      refine wpAny2_take (i := 5) (oi := _) (v := ?_) rfl (by decide) (by kernel_rfl) (by kernel_rfl) (by kernel_rfl) (by kernel_rfl) (fun _ _ _ h => h) hS2 (fun _ => trivial) (Or.inl ⟨by rfl, ?hy⟩) ?_
      case hy => intro w hSw; first | (go_simp; done) | (go_simp; with_reducible rfl)
      try simp only [Act.put, List.setIfInBounds_toArray, List.set_cons_zero, List.set_cons_succ, List.getElem_toArray, List.getElem_cons_zero, List.getElem_cons_succ]
      obtain ⟨⟨z0, z1, z2, z3, z4⟩, f0, f1, f2, f3, f4⟩ := cells5_of hbx
      refine wpAny2_one (i := 7) (o := _) (by kernel_rfl) rfl (fun K_ hK => ?_)
      go_simp
      refine hK.out _ _ (fun b o e => in5 hs.isin hKB _ _ _ _ _ b o (hs.le b o e)) (fun _ => trivial) ?_
      clear hK K_
      try simp only [Act.put, List.setIfInBounds_toArray, List.set_cons_zero, List.set_cons_succ, List.getElem_toArray, List.getElem_cons_zero, List.getElem_cons_succ]
      have hF := boo_start (E := 69) (kk := 6) (X := FsX) (l := p.fl) (v1 := .slice x1 p.ins.length y1) (vo := .slice ao p.outs.length co) HST.out hs hbx hKB hBge HR0.out HHR.out (Nat.le_succ _) rfl
      exact wpAny2_done (by kernel_rfl) ⟨_, _, _, _, rfl, hs.le, hv1, hF⟩ _
  case rest =>
    intro e a' w' h
    cases e with
    | normal =>
      obtain ⟨B, x1, y1, K3, rfl, hle3, hv1, hF⟩ := h
      have hk2 : K3.cell w.heap.size 2 = some (.slice al p.fl.length cl) := hle3.cell k2
      have hk3 : K3.cell w.heap.size 3 = some (.slice aa p.as.length ca) := hle3.cell k3
      have hk4 : K3.cell w.heap.size 4 = some (.slice ac p.cs.length cc) := hle3.cell k4
      have GO := Lib.hid (G2.out.le hle3 StrC.mono)
      have GF := Lib.hid (G3.out.le hle3 (FlC.mono hle3))
      have GA := Lib.hid (G4.out.le hle3)
      have GC := Lib.hid (G5.out.le hle3)
      have GV := Lib.hid hv1
      generalize hWF : w' = WF at *
      have HF := Lib.hid hF
      clear hF hs k0 k1 k2 k3 k4 G1 G2 G3 G4 G5 HST HR0 HHR hv1
      clear hWF
      go_wp2_with fail
      go_loopw [4] (fun i wr => ∃ (k : Nat) (u : Value) (xs : List Value) (K : Kn), i = .int .i64 k ∧ k ≤ p.fl.length ∧ K3.le K ∧ BoO 27 69 6 FsX (fun u => #[.slice x1 p.ins.length y1, .slice ao p.outs.length co, u, .slice none 0 0, .slice none 0 0]) H w (w.heap.size + 1) B wr u p.fl k xs K) (fun i _ => p.fl.length - (intOf i).toNat)
      case atStart => exact ⟨0, _, _, _, rfl, Nat.zero_le _, Kn.le_refl _, HF.out⟩
      case round =>
        clear HF
        obtain ⟨k, u, xs, K, rfl, hk, hle, hS⟩ := hrel
        have HS := Lib.hid hS
        obtain ⟨au, cu, rfl, _⟩ := own_len hS.row
        clear hS
        have hl3 : K.cell w.heap.size 2 = some (.slice al p.fl.length cl) := hle.cell hk2
        have m2 := HS.out.step.isin.cell hl3
        by_cases hkl : k < p.fl.length
        · obtain ⟨b, off, cap0, he, _, _, hcs⟩ := FlsV.cell GF.out (fun e => by rw [e] at hkl; simp at hkl)
          cases he
          obtain ⟨ax, cx, d0, d1, d2, d3, d4, d5, hx⟩ := hcs k hkl
          have hpx : p.fl[k].e.parts ≤ 1000000000000 := by
            have := getElem_parts (p.fl.map (·.e)) k (by simpa using hkl)
            simp at this
            omega
          have d0 := hle.cell d0
          have d1 := hle.cell d1
          have d2 := hle.cell d2
          have d3 := hle.cell d3
          have d4 := hle.cell d4
          have d5 := hle.cell d5
          have hx := hx.le hle
          obtain ⟨x, hxe⟩ : ∃ x, p.fl[k] = x := ⟨_, rfl⟩
          rw [hxe] at d0 d1 d2 d3 d4 d5 hx hpx
          have HTK := Lib.hid (show p.fl.take (k + 1) = p.fl.take k ++ [x] from by rw [take_snoc _ _ hkl, hxe])
          have HCS := Lib.hid hx
          clear hxe hcs hx
          go_wp2_with fail
          have hSD := HS.out.drew
          have hS2 : K.In wr.drew := hSD.step.isin
          have hT2 : wr.drew.cell? ⟨B, 2, none⟩ = some (.slice au k cu) := hSD.cell rfl
          refine wp_region_2 (fun w' => K.In w') (fun w' => w'.cell? ⟨B, 2, none⟩ = some (.slice au k cu)) 23 (by kernel_rfl) ?_
          generalize wr.drew = wd at hSD hS2 hT2 ⊢
          refine wpAny2_take (i := 0) (oi := _) (v := ?_) rfl (by decide) (by kernel_rfl) (by kernel_rfl) (by kernel_rfl) (by kernel_rfl) (fun _ _ _ h => h) hS2 (fun _ => hT2) (Or.inl ⟨by rfl, ?hy⟩) ?_
          case hy => intro w hSw; have z0 := hSw.cell hl3; have z1 := hSw.cell d0; have z2 := hSw.cell d1; have z3 := hSw.cell d2; have z4 := hSw.cell d3; have z5 := hSw.cell d4; have z6 := hSw.cell d5; first | (go_simp; done) | (go_simp; with_reducible rfl)
          try simp only [Act.put, List.setIfInBounds_toArray, List.set_cons_zero, List.set_cons_succ, List.getElem_toArray, List.getElem_cons_zero, List.getElem_cons_succ]
          refine wpAny2_load (i := 1) (oi := _) (om := _) (v := ?_) rfl (by decide) (by kernel_rfl) (by kernel_rfl) (by kernel_rfl) (by kernel_rfl) rfl (by kernel_rfl) (by kernel_rfl) (fun _ _ _ h => h) hS2 hT2 (Or.inl ⟨by rfl, ?hy⟩) ?_
          case hy => intro w hTw; first | (go_simp; done) | (go_simp; with_reducible rfl)
          try simp only [Act.put, List.setIfInBounds_toArray, List.set_cons_zero, List.set_cons_succ, List.getElem_toArray, List.getElem_cons_zero, List.getElem_cons_succ]
          refine wpAny2_take (i := 2) (oi := _) (v := ?_) rfl (by decide) (by kernel_rfl) (by kernel_rfl) (by kernel_rfl) (by kernel_rfl) (fun _ _ _ h => h) hS2 (fun _ => hT2) (Or.inl ⟨by rfl, ?hy⟩) ?_
          case hy => intro w hSw; have z0 := hSw.cell hl3; have z1 := hSw.cell d0; have z2 := hSw.cell d1; have z3 := hSw.cell d2; have z4 := hSw.cell d3; have z5 := hSw.cell d4; have z6 := hSw.cell d5; first | (go_simp; done) | (go_simp; with_reducible rfl)
          try simp only [Act.put, List.setIfInBounds_toArray, List.set_cons_zero, List.set_cons_succ, List.getElem_toArray, List.getElem_cons_zero, List.getElem_cons_succ]
          refine wpAny2_take (i := 3) (oi := _) (v := ?_) rfl (by decide) (by kernel_rfl) (by kernel_rfl) (by kernel_rfl) (by kernel_rfl) (fun _ _ _ h => h) hS2 (fun _ => hT2) (Or.inl ⟨by rfl, ?hy⟩) ?_
          case hy => intro w hSw; have z0 := hSw.cell hl3; have z1 := hSw.cell d0; have z2 := hSw.cell d1; have z3 := hSw.cell d2; have z4 := hSw.cell d3; have z5 := hSw.cell d4; have z6 := hSw.cell d5; first | (go_simp; done) | (go_simp; with_reducible rfl)
          try simp only [Act.put, List.setIfInBounds_toArray, List.set_cons_zero, List.set_cons_succ, List.getElem_toArray, List.getElem_cons_zero, List.getElem_cons_succ]
          refine wpAny2_take (i := 4) (oi := _) (v := ?_) rfl (by decide) (by kernel_rfl) (by kernel_rfl) (by kernel_rfl) (by kernel_rfl) (fun _ _ _ h => h) hS2 (fun _ => hT2) (Or.inl ⟨by rfl, ?hy⟩) ?_
          case hy => intro w hSw; have z0 := hSw.cell hl3; have z1 := hSw.cell d0; have z2 := hSw.cell d1; have z3 := hSw.cell d2; have z4 := hSw.cell d3; have z5 := hSw.cell d4; have z6 := hSw.cell d5; first | (go_simp; done) | (go_simp; with_reducible rfl)
          try simp only [Act.put, List.setIfInBounds_toArray, List.set_cons_zero, List.set_cons_succ, List.getElem_toArray, List.getElem_cons_zero, List.getElem_cons_succ]
          refine wpAny2_take (i := 5) (oi := _) (v := ?_) rfl (by decide) (by kernel_rfl) (by kernel_rfl) (by kernel_rfl) (by kernel_rfl) (fun _ _ _ h => h) hS2 (fun _ => hT2) (Or.inl ⟨by rfl, ?hy⟩) ?_
          case hy => intro w hSw; have z0 := hSw.cell hl3; have z1 := hSw.cell d0; have z2 := hSw.cell d1; have z3 := hSw.cell d2; have z4 := hSw.cell d3; have z5 := hSw.cell d4; have z6 := hSw.cell d5; first | (go_simp; done) | (go_simp; with_reducible rfl)
          try simp only [Act.put, List.setIfInBounds_toArray, List.set_cons_zero, List.set_cons_succ, List.getElem_toArray, List.getElem_cons_zero, List.getElem_cons_succ]
          refine wpAny2_take (i := 6) (oi := _) (v := ?_) rfl (by decide) (by kernel_rfl) (by kernel_rfl) (by kernel_rfl) (by kernel_rfl) (fun _ _ _ h => h) hS2 (fun _ => hT2) (Or.inl ⟨by rfl, ?hy⟩) ?_
          case hy => intro w hSw; have z0 := hSw.cell hl3; have z1 := hSw.cell d0; have z2 := hSw.cell d1; have z3 := hSw.cell d2; have z4 := hSw.cell d3; have z5 := hSw.cell d4; have z6 := hSw.cell d5; first | (go_simp; done) | (go_simp; with_reducible rfl)
          try simp only [Act.put, List.setIfInBounds_toArray, List.set_cons_zero, List.set_cons_succ, List.getElem_toArray, List.getElem_cons_zero, List.getElem_cons_succ]
          refine wpAny2_take (i := 7) (oi := _) (v := ?_) rfl (by decide) (by kernel_rfl) (by kernel_rfl) (by kernel_rfl) (by kernel_rfl) (fun _ _ _ h => h) hS2 (fun _ => hT2) (Or.inl ⟨by rfl, ?hy⟩) ?_
          case hy => intro w hSw; have z0 := hSw.cell hl3; have z1 := hSw.cell d0; have z2 := hSw.cell d1; have z3 := hSw.cell d2; have z4 := hSw.cell d3; have z5 := hSw.cell d4; have z6 := hSw.cell d5; first | (go_simp; done) | (go_simp; with_reducible rfl)
          try simp only [Act.put, List.setIfInBounds_toArray, List.set_cons_zero, List.set_cons_succ, List.getElem_toArray, List.getElem_cons_zero, List.getElem_cons_succ]
          refine wpAny2_take (i := 8) (oi := _) (v := ?_) rfl (by decide) (by kernel_rfl) (by kernel_rfl) (by kernel_rfl) (by kernel_rfl) (fun _ _ _ h => h) hS2 (fun _ => hT2) (Or.inl ⟨by rfl, ?hy⟩) ?_
          case hy => intro w hSw; have z0 := hSw.cell hl3; have z1 := hSw.cell d0; have z2 := hSw.cell d1; have z3 := hSw.cell d2; have z4 := hSw.cell d3; have z5 := hSw.cell d4; have z6 := hSw.cell d5; first | (go_simp; done) | (go_simp; with_reducible rfl)
          try simp only [Act.put, List.setIfInBounds_toArray, List.set_cons_zero, List.set_cons_succ, List.getElem_toArray, List.getElem_cons_zero, List.getElem_cons_succ]
          refine wpAny2_take (i := 9) (oi := _) (v := ?_) rfl (by decide) (by kernel_rfl) (by kernel_rfl) (by kernel_rfl) (by kernel_rfl) (fun _ _ _ h => h) hS2 (fun _ => hT2) (Or.inl ⟨by rfl, ?hy⟩) ?_
          case hy => intro w hSw; have z0 := hSw.cell hl3; have z1 := hSw.cell d0; have z2 := hSw.cell d1; have z3 := hSw.cell d2; have z4 := hSw.cell d3; have z5 := hSw.cell d4; have z6 := hSw.cell d5; first | (go_simp; done) | (go_simp; with_reducible rfl)
          try simp only [Act.put, List.setIfInBounds_toArray, List.set_cons_zero, List.set_cons_succ, List.getElem_toArray, List.getElem_cons_zero, List.getElem_cons_succ]
          refine wpAny2_take (i := 10) (oi := _) (v := ?_) rfl (by decide) (by kernel_rfl) (by kernel_rfl) (by kernel_rfl) (by kernel_rfl) (fun _ _ _ h => h) hS2 (fun _ => hT2) (Or.inl ⟨by rfl, ?hy⟩) ?_
          case hy => intro w hSw; have z0 := hSw.cell hl3; have z1 := hSw.cell d0; have z2 := hSw.cell d1; have z3 := hSw.cell d2; have z4 := hSw.cell d3; have z5 := hSw.cell d4; have z6 := hSw.cell d5; first | (go_simp; done) | (go_simp; with_reducible rfl)
          try simp only [Act.put, List.setIfInBounds_toArray, List.set_cons_zero, List.set_cons_succ, List.getElem_toArray, List.getElem_cons_zero, List.getElem_cons_succ]
          refine wpAny2_take (i := 11) (oi := _) (v := ?_) rfl (by decide) (by kernel_rfl) (by kernel_rfl) (by kernel_rfl) (by kernel_rfl) (fun _ _ _ h => h) hS2 (fun _ => hT2) (Or.inl ⟨by rfl, ?hy⟩) ?_
          case hy => intro w hSw; have z0 := hSw.cell hl3; have z1 := hSw.cell d0; have z2 := hSw.cell d1; have z3 := hSw.cell d2; have z4 := hSw.cell d3; have z5 := hSw.cell d4; have z6 := hSw.cell d5; first | (go_simp; done) | (go_simp; with_reducible rfl)
          try simp only [Act.put, List.setIfInBounds_toArray, List.set_cons_zero, List.set_cons_succ, List.getElem_toArray, List.getElem_cons_zero, List.getElem_cons_succ]
          refine wpAny2_take (i := 12) (oi := _) (v := ?_) rfl (by decide) (by kernel_rfl) (by kernel_rfl) (by kernel_rfl) (by kernel_rfl) (fun _ _ _ h => h) hS2 (fun _ => hT2) (Or.inl ⟨by rfl, ?hy⟩) ?_
          case hy => intro w hSw; have z0 := hSw.cell hl3; have z1 := hSw.cell d0; have z2 := hSw.cell d1; have z3 := hSw.cell d2; have z4 := hSw.cell d3; have z5 := hSw.cell d4; have z6 := hSw.cell d5; first | (go_simp; done) | (go_simp; with_reducible rfl)
          try simp only [Act.put, List.setIfInBounds_toArray, List.set_cons_zero, List.set_cons_succ, List.getElem_toArray, List.getElem_cons_zero, List.getElem_cons_succ]
          refine wpAny2_take (i := 13) (oi := _) (v := ?_) rfl (by decide) (by kernel_rfl) (by kernel_rfl) (by kernel_rfl) (by kernel_rfl) (fun _ _ _ h => h) hS2 (fun _ => hT2) (Or.inl ⟨by rfl, ?hy⟩) ?_
          case hy => intro w hSw; have z0 := hSw.cell hl3; have z1 := hSw.cell d0; have z2 := hSw.cell d1; have z3 := hSw.cell d2; have z4 := hSw.cell d3; have z5 := hSw.cell d4; have z6 := hSw.cell d5; first | (go_simp; done) | (go_simp; with_reducible rfl)
          try simp only [Act.put, List.setIfInBounds_toArray, List.set_cons_zero, List.set_cons_succ, List.getElem_toArray, List.getElem_cons_zero, List.getElem_cons_succ]
          refine wpAny2_take (i := 14) (oi := _) (v := ?_) rfl (by decide) (by kernel_rfl) (by kernel_rfl) (by kernel_rfl) (by kernel_rfl) (fun _ _ _ h => h) hS2 (fun _ => hT2) (Or.inl ⟨by rfl, ?hy⟩) ?_
          case hy => intro w hSw; have z0 := hSw.cell hl3; have z1 := hSw.cell d0; have z2 := hSw.cell d1; have z3 := hSw.cell d2; have z4 := hSw.cell d3; have z5 := hSw.cell d4; have z6 := hSw.cell d5; first | (go_simp; done) | (go_simp; with_reducible rfl)
          try simp only [Act.put, List.setIfInBounds_toArray, List.set_cons_zero, List.set_cons_succ, List.getElem_toArray, List.getElem_cons_zero, List.getElem_cons_succ]
          refine wpAny2_take (i := 15) (oi := _) (v := ?_) rfl (by decide) (by kernel_rfl) (by kernel_rfl) (by kernel_rfl) (by kernel_rfl) (fun _ _ _ h => h) hS2 (fun _ => hT2) (Or.inl ⟨by rfl, ?hy⟩) ?_
          case hy => intro w hSw; have z0 := hSw.cell hl3; have z1 := hSw.cell d0; have z2 := hSw.cell d1; have z3 := hSw.cell d2; have z4 := hSw.cell d3; have z5 := hSw.cell d4; have z6 := hSw.cell d5; first | (go_simp; done) | (go_simp; with_reducible rfl)
          try simp only [Act.put, List.setIfInBounds_toArray, List.set_cons_zero, List.set_cons_succ, List.getElem_toArray, List.getElem_cons_zero, List.getElem_cons_succ]
          refine wpAny2_take (i := 16) (oi := _) (v := ?_) rfl (by decide) (by kernel_rfl) (by kernel_rfl) (by kernel_rfl) (by kernel_rfl) (fun _ _ _ h => h) hS2 (fun _ => hT2) (Or.inl ⟨by rfl, ?hy⟩) ?_
          case hy => intro w hSw; have z0 := hSw.cell hl3; have z1 := hSw.cell d0; have z2 := hSw.cell d1; have z3 := hSw.cell d2; have z4 := hSw.cell d3; have z5 := hSw.cell d4; have z6 := hSw.cell d5; first | (go_simp; done) | (go_simp; with_reducible rfl)
          try simp only [Act.put, List.setIfInBounds_toArray, List.set_cons_zero, List.set_cons_succ, List.getElem_toArray, List.getElem_cons_zero, List.getElem_cons_succ]
          refine wpAny2_take (i := 17) (oi := _) (v := ?_) rfl (by decide) (by kernel_rfl) (by kernel_rfl) (by kernel_rfl) (by kernel_rfl) (fun _ _ _ h => h) hS2 (fun _ => hT2) (Or.inl ⟨by rfl, ?hy⟩) ?_
          case hy => intro w hSw; have z0 := hSw.cell hl3; have z1 := hSw.cell d0; have z2 := hSw.cell d1; have z3 := hSw.cell d2; have z4 := hSw.cell d3; have z5 := hSw.cell d4; have z6 := hSw.cell d5; first | (go_simp; done) | (go_simp; with_reducible rfl)
          try simp only [Act.put, List.setIfInBounds_toArray, List.set_cons_zero, List.set_cons_succ, List.getElem_toArray, List.getElem_cons_zero, List.getElem_cons_succ]
          refine wpAny2_take (i := 18) (oi := _) (v := ?_) rfl (by decide) (by kernel_rfl) (by kernel_rfl) (by kernel_rfl) (by kernel_rfl) (fun _ _ _ h => h) hS2 (fun _ => hT2) (Or.inl ⟨by rfl, ?hy⟩) ?_
          case hy => intro w hSw; have z0 := hSw.cell hl3; have z1 := hSw.cell d0; have z2 := hSw.cell d1; have z3 := hSw.cell d2; have z4 := hSw.cell d3; have z5 := hSw.cell d4; have z6 := hSw.cell d5; first | (go_simp; done) | (go_simp; with_reducible rfl)
          try simp only [Act.put, List.setIfInBounds_toArray, List.set_cons_zero, List.set_cons_succ, List.getElem_toArray, List.getElem_cons_zero, List.getElem_cons_succ]
          refine wpAny2_take (i := 19) (oi := _) (v := ?_) rfl (by decide) (by kernel_rfl) (by kernel_rfl) (by kernel_rfl) (by kernel_rfl) (fun _ _ _ h => h) hS2 (fun _ => hT2) (Or.inl ⟨by rfl, ?hy⟩) ?_
          case hy => intro w hSw; have z0 := hSw.cell hl3; have z1 := hSw.cell d0; have z2 := hSw.cell d1; have z3 := hSw.cell d2; have z4 := hSw.cell d3; have z5 := hSw.cell d4; have z6 := hSw.cell d5; first | (go_simp; done) | (go_simp; with_reducible rfl)
          try simp only [Act.put, List.setIfInBounds_toArray, List.set_cons_zero, List.set_cons_succ, List.getElem_toArray, List.getElem_cons_zero, List.getElem_cons_succ]
          refine wpAny2_one (i := 20) (o := _) (by kernel_rfl) rfl (fun K_ hK => ?_)
          go_simp
          go_at_call 36
          refine (backE_any x.e _ K ⟨_, rfl, HCS.out⟩ hpx _ hS2).mono ?_
          rintro r wc ⟨v', K2, rfl, hv2, hst⟩
          obtain ⟨u2, rfl, hu2⟩ := hv2
          obtain ⟨ax2, cx2, rfl⟩ := hu2.len
          have hSE := hSD.next fs_mono hst
          have hS2 : K.In wc := fun b o e => hst.isin b o (hst.le b o e)
          have hT2 := hSE.cell (c := 2) rfl
          refine hK.out _ _ (hS2) (fun _ => hT2) ?_
          clear hK K_
          try simp only [Act.put, List.setIfInBounds_toArray, List.set_cons_zero, List.set_cons_succ, List.getElem_toArray, List.getElem_cons_zero, List.getElem_cons_succ]
          refine wpAny2_take (i := 21) (oi := _) (v := ?_) rfl (by decide) (by kernel_rfl) (by kernel_rfl) (by kernel_rfl) (by kernel_rfl) (fun _ _ _ h => h) hS2 (fun _ => hT2) (Or.inl ⟨by rfl, ?hy⟩) ?_
          case hy => intro w hSw; have z0 := hSw.cell hl3; have z1 := hSw.cell d0; have z2 := hSw.cell d1; have z3 := hSw.cell d2; have z4 := hSw.cell d3; have z5 := hSw.cell d4; have z6 := hSw.cell d5; first | (go_simp; done) | (go_simp; with_reducible rfl)
          try simp only [Act.put, List.setIfInBounds_toArray, List.set_cons_zero, List.set_cons_succ, List.getElem_toArray, List.getElem_cons_zero, List.getElem_cons_succ]
          refine wpAny2_one (i := 22) (o := _) (by kernel_rfl) rfl (fun K_ hK => ?_)
          go_simp
          have hSF := hSE.alloc (.cells #[.string x.name, .int .i64 x.kind, .string x.e.op, .int .i64 x.e.n, .string x.e.s, .slice ax2 x.e.l.length cx2] 69)
          refine hK.out _ _ (hS2.alloc _) (fun _ => hSF.cell rfl) ?_
          clear hK K_
          try simp only [Act.put, List.setIfInBounds_toArray, List.set_cons_zero, List.set_cons_succ, List.getElem_toArray, List.getElem_cons_zero, List.getElem_cons_succ]
          refine wpAny2_one (i := 23) (o := _) (by kernel_rfl) rfl (fun K_ hK => ?_)
          refine step_append_lies _ (by rfl) _ _ _ (by rfl) w.heap.size 69 i0 _ 6 88 Tryd.underlying24 hi0 hz0 hz1 hz2 rfl (by omega) _ k xs (by rfl) hSF.row ⟨_, 0, none⟩ 1 1 [.string x.name, .int .i64 x.kind, .string x.e.op, .int .i64 x.e.n, .string x.e.s, .slice ax2 x.e.l.length cx2] (by rfl) (by rfl) (by exact World.news_of_block (heap_alloc_new _ _)) (by simp [Value.oneCell']) (by omega) (by unfold maxLen; omega) (by omega) hSF.step.below.size _ rfl ?_
          intro gg cap' w3 hown hgrow hat hltg
          obtain ⟨hf1, hf2, hin3, hf3⟩ := BoO.more (c := 2) hSF (by decide) (fun _ _ => rfl) rfl (by rw [HTK.out]; exact hSF.xs.append ⟨ax2, cx2, [], rfl, hu2, rfl⟩) hown hgrow hat
          have hS3 : K.In w3 := fun b o e => hin3 b o (hst.le b o e)
          refine hK.out _ _ (hS3) (fun h => absurd h (by decide)) ?_
          clear hK K_
          try simp only [Act.put, List.setIfInBounds_toArray, List.set_cons_zero, List.set_cons_succ, List.getElem_toArray, List.getElem_cons_zero, List.getElem_cons_succ]
          refine wpAny2_take (i := 24) (oi := _) (v := ?_) rfl (by decide) (by kernel_rfl) (by kernel_rfl) (by kernel_rfl) (by kernel_rfl) (fun _ _ _ h => h) hS3 (fun h => absurd h (by decide)) (Or.inl ⟨by rfl, ?hy⟩) ?_
          case hy => intro w hSw; have z0 := hSw.cell hl3; have z1 := hSw.cell d0; have z2 := hSw.cell d1; have z3 := hSw.cell d2; have z4 := hSw.cell d3; have z5 := hSw.cell d4; have z6 := hSw.cell d5; first | (go_simp; done) | (go_simp; with_reducible rfl)
          try simp only [Act.put, List.setIfInBounds_toArray, List.set_cons_zero, List.set_cons_succ, List.getElem_toArray, List.getElem_cons_zero, List.getElem_cons_succ]
          refine wpAny2_one (i := 25) (o := _) (by kernel_rfl) rfl (fun K_ hK => ?_)
          go_simp
          refine hK.out _ _ (fun b o e => hf3.step.isin b o (hst.le b o e)) (fun h => absurd h (by decide)) ?_
          clear hK K_
          try simp only [Act.put, List.setIfInBounds_toArray, List.set_cons_zero, List.set_cons_succ, List.getElem_toArray, List.getElem_cons_zero, List.getElem_cons_succ]
          refine wpAny2_done (by kernel_rfl) ?_ _
          generalize World.setCell _ _ _ = W9 at hf3 ⊢
          go_wp2_with fail
          go_roundw
          case rel => exact ⟨k + 1, _, _, _, by go_num, by omega, Kn.le_trans hle hst.le, hf3⟩
          case measure => simp [intOf]; omega
        · obtain rfl : k = p.fl.length := by omega
          have hxs : FsX K (List.take p.fl.length p.fl) xs := HS.out.xs
          rw [List.take_of_length_le (Nat.le_refl _)] at hxs
          obtain ⟨K4, hle4, hin4, hv4, hfr4⟩ := slv_of_own2 (R := FlC) HS.out.step.isin HS.out.row HS.out.noU (fun K' hle i hi f hf => hxs.flc hle i hi f hf)
          obtain ⟨al4, hal4⟩ : ∃ al4, al4 = au := ⟨_, rfl⟩
          obtain ⟨cl4, hcl4⟩ : ∃ cl4, cl4 = cu := ⟨_, rfl⟩
          rw [← hal4, ← hcl4] at hv4
          have HF4 := Lib.hid (HS.out.turn (E' := 53) (kk' := 4) (X' := XsAt) (bx' := fun u => #[.slice x1 p.ins.length y1, .slice ao p.outs.length co, .slice al4 p.fl.length cl4, u, .slice none 0 0]) (l' := p.as) (by decide) (by rw [hal4, hcl4]) hle4 hin4 hfr4 rfl)
          have HL4 := Lib.hid hv4
          have hk34 := (Kn.le_trans hle hle4).cell hk3
          have hk44 := (Kn.le_trans hle hle4).cell hk4
          have GA4 := Lib.hid (GA.out.le (Kn.le_trans hle hle4))
          have GC4 := Lib.hid (GC.out.le (Kn.le_trans hle hle4))
          have GV4 := Lib.hid (GV.out.le (Kn.le_trans hle hle4) VrC.mono)
          have GO4 := Lib.hid (GO.out.le (Kn.le_trans hle hle4) StrC.mono)
          clear hxs hle4 hin4 hv4 hfr4 HS hal4 hcl4
          go_wp2_with fail
          go_loopw [5] (fun i wr => ∃ (k : Nat) (u : Value) (xs : List Value) (K : Kn), i = .int .i64 k ∧ k ≤ p.as.length ∧ K4.le K ∧ BoO 27 53 4 XsAt (fun u => #[.slice x1 p.ins.length y1, .slice ao p.outs.length co, .slice al4 p.fl.length cl4, u, .slice none 0 0]) H w (w.heap.size + 1) B wr u p.as k xs K) (fun i _ => p.as.length - (intOf i).toNat)
          case atStart => exact ⟨0, _, _, _, rfl, Nat.zero_le _, Kn.le_refl _, HF4.out⟩
          case round =>
            clear HF4
            obtain ⟨k, u, xs, K, rfl, hk, hle, hS⟩ := hrel
            have HS := Lib.hid hS
            obtain ⟨au, cu, rfl, _⟩ := own_len hS.row
            clear hS
            have hl3 : K.cell w.heap.size 3 = some (.slice aa p.as.length ca) := hle.cell hk34
            have m2 := HS.out.step.isin.cell hl3
            by_cases hkl : k < p.as.length
            · obtain ⟨b, off, ax, cx, rfl, d0, d1, d2, d3, hx⟩ := GA4.out.at hkl
              have hpx : p.as[k].parts ≤ 1000000000000 := by have := getElem_parts p.as k hkl; omega
              have d0 := hle.cell d0
              have d1 := hle.cell d1
              have d2 := hle.cell d2
              have d3 := hle.cell d3
              have hx := hx.le hle
              obtain ⟨x, hxe⟩ : ∃ x, p.as[k] = x := ⟨_, rfl⟩
              rw [hxe] at d0 d1 d2 d3 hx hpx
              have HTK := Lib.hid (show p.as.take (k + 1) = p.as.take k ++ [x] from by rw [take_snoc _ _ hkl, hxe])
              have HCS := Lib.hid hx
              clear hxe hx
              go_wp2_with fail
              have hSD := HS.out.drew
              have hS2 : K.In wr.drew := hSD.step.isin
              have hT2 : wr.drew.cell? ⟨B, 3, none⟩ = some (.slice au k cu) := hSD.cell rfl
              refine wp_region_2 (fun w' => K.In w') (fun w' => w'.cell? ⟨B, 3, none⟩ = some (.slice au k cu)) 9 (by kernel_rfl) ?_
              generalize wr.drew = wd at hSD hS2 hT2 ⊢
              refine wpAny2_take (i := 0) (oi := _) (v := ?_) rfl (by decide) (by kernel_rfl) (by kernel_rfl) (by kernel_rfl) (by kernel_rfl) (fun _ _ _ h => h) hS2 (fun _ => hT2) (Or.inl ⟨by rfl, ?hy⟩) ?_
              case hy => intro w hSw; have z0 := hSw.cell hl3; have z1 := hSw.cell d0; have z2 := hSw.cell d1; have z3 := hSw.cell d2; have z4 := hSw.cell d3; first | (go_simp; done) | (go_simp; with_reducible rfl)
              try simp only [Act.put, List.setIfInBounds_toArray, List.set_cons_zero, List.set_cons_succ, List.getElem_toArray, List.getElem_cons_zero, List.getElem_cons_succ]
              refine wpAny2_load (i := 1) (oi := _) (om := _) (v := ?_) rfl (by decide) (by kernel_rfl) (by kernel_rfl) (by kernel_rfl) (by kernel_rfl) rfl (by kernel_rfl) (by kernel_rfl) (fun _ _ _ h => h) hS2 hT2 (Or.inl ⟨by rfl, ?hy⟩) ?_
              case hy => intro w hTw; first | (go_simp; done) | (go_simp; with_reducible rfl)
              try simp only [Act.put, List.setIfInBounds_toArray, List.set_cons_zero, List.set_cons_succ, List.getElem_toArray, List.getElem_cons_zero, List.getElem_cons_succ]
              refine wpAny2_take (i := 2) (oi := _) (v := ?_) rfl (by decide) (by kernel_rfl) (by kernel_rfl) (by kernel_rfl) (by kernel_rfl) (fun _ _ _ h => h) hS2 (fun _ => hT2) (Or.inl ⟨by rfl, ?hy⟩) ?_
              case hy => intro w hSw; have z0 := hSw.cell hl3; have z1 := hSw.cell d0; have z2 := hSw.cell d1; have z3 := hSw.cell d2; have z4 := hSw.cell d3; first | (go_simp; done) | (go_simp; with_reducible rfl)
              try simp only [Act.put, List.setIfInBounds_toArray, List.set_cons_zero, List.set_cons_succ, List.getElem_toArray, List.getElem_cons_zero, List.getElem_cons_succ]
              refine wpAny2_take (i := 3) (oi := _) (v := ?_) rfl (by decide) (by kernel_rfl) (by kernel_rfl) (by kernel_rfl) (by kernel_rfl) (fun _ _ _ h => h) hS2 (fun _ => hT2) (Or.inl ⟨by rfl, ?hy⟩) ?_
              case hy => intro w hSw; have z0 := hSw.cell hl3; have z1 := hSw.cell d0; have z2 := hSw.cell d1; have z3 := hSw.cell d2; have z4 := hSw.cell d3; first | (go_simp; done) | (go_simp; with_reducible rfl)
              try simp only [Act.put, List.setIfInBounds_toArray, List.set_cons_zero, List.set_cons_succ, List.getElem_toArray, List.getElem_cons_zero, List.getElem_cons_succ]
              refine wpAny2_take (i := 4) (oi := _) (v := ?_) rfl (by decide) (by kernel_rfl) (by kernel_rfl) (by kernel_rfl) (by kernel_rfl) (fun _ _ _ h => h) hS2 (fun _ => hT2) (Or.inl ⟨by rfl, ?hy⟩) ?_
              case hy => intro w hSw; have z0 := hSw.cell hl3; have z1 := hSw.cell d0; have z2 := hSw.cell d1; have z3 := hSw.cell d2; have z4 := hSw.cell d3; first | (go_simp; done) | (go_simp; with_reducible rfl)
              try simp only [Act.put, List.setIfInBounds_toArray, List.set_cons_zero, List.set_cons_succ, List.getElem_toArray, List.getElem_cons_zero, List.getElem_cons_succ]
              refine wpAny2_take (i := 5) (oi := _) (v := ?_) rfl (by decide) (by kernel_rfl) (by kernel_rfl) (by kernel_rfl) (by kernel_rfl) (fun _ _ _ h => h) hS2 (fun _ => hT2) (Or.inl ⟨by rfl, ?hy⟩) ?_
              case hy => intro w hSw; have z0 := hSw.cell hl3; have z1 := hSw.cell d0; have z2 := hSw.cell d1; have z3 := hSw.cell d2; have z4 := hSw.cell d3; first | (go_simp; done) | (go_simp; with_reducible rfl)
              try simp only [Act.put, List.setIfInBounds_toArray, List.set_cons_zero, List.set_cons_succ, List.getElem_toArray, List.getElem_cons_zero, List.getElem_cons_succ]
              refine wpAny2_take (i := 6) (oi := _) (v := ?_) rfl (by decide) (by kernel_rfl) (by kernel_rfl) (by kernel_rfl) (by kernel_rfl) (fun _ _ _ h => h) hS2 (fun _ => hT2) (Or.inl ⟨by rfl, ?hy⟩) ?_
              case hy => intro w hSw; have z0 := hSw.cell hl3; have z1 := hSw.cell d0; have z2 := hSw.cell d1; have z3 := hSw.cell d2; have z4 := hSw.cell d3; first | (go_simp; done) | (go_simp; with_reducible rfl)
              try simp only [Act.put, List.setIfInBounds_toArray, List.set_cons_zero, List.set_cons_succ, List.getElem_toArray, List.getElem_cons_zero, List.getElem_cons_succ]
              refine wpAny2_one (i := 7) (o := _) (by kernel_rfl) rfl (fun K_ hK => ?_)
              go_simp
              go_at_call 36
              refine (backE_any x _ K HCS.out hpx _ hS2).mono ?_
              rintro r wc ⟨v', K2, rfl, hv2, hst⟩
              obtain ⟨u2, rfl, hu2⟩ := hv2
              obtain ⟨ax2, cx2, rfl⟩ := hu2.len
              have hSE := hSD.next xs_mono hst
              have hS2 : K.In wc := fun b o e => hst.isin b o (hst.le b o e)
              have hT2 := hSE.cell (c := 3) rfl
              refine hK.out _ _ (hS2) (fun _ => hT2) ?_
              clear hK K_
              try simp only [Act.put, List.setIfInBounds_toArray, List.set_cons_zero, List.set_cons_succ, List.getElem_toArray, List.getElem_cons_zero, List.getElem_cons_succ]
              refine wpAny2_one (i := 8) (o := _) (by kernel_rfl) rfl (fun K_ hK => ?_)
              go_simp
              have hSF := hSE.alloc (.cells #[.string x.op, .int .i64 x.n, .string x.s, .slice ax2 x.l.length cx2] 53)
              refine hK.out _ _ (hS2.alloc _) (fun _ => hSF.cell rfl) ?_
              clear hK K_
              try simp only [Act.put, List.setIfInBounds_toArray, List.set_cons_zero, List.set_cons_succ, List.getElem_toArray, List.getElem_cons_zero, List.getElem_cons_succ]
              refine wpAny2_one (i := 9) (o := _) (by kernel_rfl) rfl (fun K_ hK => ?_)
              refine step_append_lies _ (by rfl) _ _ _ (by rfl) w.heap.size 53 i1 _ 4 64 Tryd.underlying25 hi1 hy0 hy1 hy2 rfl (by omega) _ k xs (by rfl) hSF.row ⟨_, 0, none⟩ 1 1 [.string x.op, .int .i64 x.n, .string x.s, .slice ax2 x.l.length cx2] (by rfl) (by rfl) (by exact World.news_of_block (heap_alloc_new _ _)) (by simp [Value.oneCell']) (by omega) (by unfold maxLen; omega) (by omega) hSF.step.below.size _ rfl ?_
              intro gg cap' w3 hown hgrow hat hltg
              obtain ⟨hf1, hf2, hin3, hf3⟩ := BoO.more (c := 3) hSF (by decide) (fun _ _ => rfl) rfl (by rw [HTK.out]; exact hSF.xs.append ⟨ax2, cx2, [], rfl, hu2, rfl⟩) hown hgrow hat
              have hS3 : K.In w3 := fun b o e => hin3 b o (hst.le b o e)
              refine hK.out _ _ (hS3) (fun h => absurd h (by decide)) ?_
              clear hK K_
              try simp only [Act.put, List.setIfInBounds_toArray, List.set_cons_zero, List.set_cons_succ, List.getElem_toArray, List.getElem_cons_zero, List.getElem_cons_succ]
              refine wpAny2_take (i := 10) (oi := _) (v := ?_) rfl (by decide) (by kernel_rfl) (by kernel_rfl) (by kernel_rfl) (by kernel_rfl) (fun _ _ _ h => h) hS3 (fun h => absurd h (by decide)) (Or.inl ⟨by rfl, ?hy⟩) ?_
              case hy => intro w hSw; have z0 := hSw.cell hl3; have z1 := hSw.cell d0; have z2 := hSw.cell d1; have z3 := hSw.cell d2; have z4 := hSw.cell d3; first | (go_simp; done) | (go_simp; with_reducible rfl)
              try simp only [Act.put, List.setIfInBounds_toArray, List.set_cons_zero, List.set_cons_succ, List.getElem_toArray, List.getElem_cons_zero, List.getElem_cons_succ]
              refine wpAny2_one (i := 11) (o := _) (by kernel_rfl) rfl (fun K_ hK => ?_)
              go_simp
              refine hK.out _ _ (fun b o e => hf3.step.isin b o (hst.le b o e)) (fun h => absurd h (by decide)) ?_
              clear hK K_
              try simp only [Act.put, List.setIfInBounds_toArray, List.set_cons_zero, List.set_cons_succ, List.getElem_toArray, List.getElem_cons_zero, List.getElem_cons_succ]
              refine wpAny2_done (by kernel_rfl) ?_ _
              generalize World.setCell _ _ _ = W9 at hf3 ⊢
              go_wp2_with fail
              go_roundw
              case rel => exact ⟨k + 1, _, _, _, by go_num, by omega, Kn.le_trans hle hst.le, hf3⟩
              case measure => simp [intOf]; omega
            · obtain rfl : k = p.as.length := by omega
              have hxs : XsAt K (List.take p.as.length p.as) xs := HS.out.xs
              rw [List.take_of_length_le (Nat.le_refl _)] at hxs
              obtain ⟨K5, hle5, hin5, hv5, hfr5⟩ := exsV_of_own2 HS.out.step.isin HS.out.row hxs HS.out.noU
              obtain ⟨aa5, haa5⟩ : ∃ aa5, aa5 = au := ⟨_, rfl⟩
              obtain ⟨ca5, hca5⟩ : ∃ ca5, ca5 = cu := ⟨_, rfl⟩
              rw [← haa5, ← hca5] at hv5
              have HF5 := Lib.hid (HS.out.turn (E' := 53) (kk' := 4) (X' := XsAt) (bx' := fun u => #[.slice x1 p.ins.length y1, .slice ao p.outs.length co, .slice al4 p.fl.length cl4, .slice aa5 p.as.length ca5, u]) (l' := p.cs) (by decide) (by rw [haa5, hca5]) hle5 hin5 hfr5 rfl)
              have HA5 := Lib.hid hv5
              have hk45 := (Kn.le_trans hle hle5).cell hk44
              have GC5 := Lib.hid (GC4.out.le (Kn.le_trans hle hle5))
              have GV5 := Lib.hid (GV4.out.le (Kn.le_trans hle hle5) VrC.mono)
              have GO5 := Lib.hid (GO4.out.le (Kn.le_trans hle hle5) StrC.mono)
              have HL5 := Lib.hid (HL4.out.le (Kn.le_trans hle hle5) (FlC.mono (Kn.le_trans hle hle5)))
              clear hxs hle5 hin5 hv5 hfr5 HS haa5 hca5
              go_wp2_with fail
              go_loopw [6] (fun i wr => ∃ (k : Nat) (u : Value) (xs : List Value) (K : Kn), i = .int .i64 k ∧ k ≤ p.cs.length ∧ K5.le K ∧ BoO 27 53 4 XsAt (fun u => #[.slice x1 p.ins.length y1, .slice ao p.outs.length co, .slice al4 p.fl.length cl4, .slice aa5 p.as.length ca5, u]) H w (w.heap.size + 1) B wr u p.cs k xs K) (fun i _ => p.cs.length - (intOf i).toNat)
              case atStart => exact ⟨0, _, _, _, rfl, Nat.zero_le _, Kn.le_refl _, HF5.out⟩
              case round =>
                clear HF5
                obtain ⟨k, u, xs, K, rfl, hk, hle, hS⟩ := hrel
                have HS := Lib.hid hS
                obtain ⟨au, cu, rfl, _⟩ := own_len hS.row
                clear hS
                have hl3 : K.cell w.heap.size 4 = some (.slice ac p.cs.length cc) := hle.cell hk45
                have m2 := HS.out.step.isin.cell hl3
                by_cases hkl : k < p.cs.length
                · obtain ⟨b, off, ax, cx, rfl, d0, d1, d2, d3, hx⟩ := GC5.out.at hkl
                  have hpx : p.cs[k].parts ≤ 1000000000000 := by have := getElem_parts p.cs k hkl; omega
                  have d0 := hle.cell d0
                  have d1 := hle.cell d1
                  have d2 := hle.cell d2
                  have d3 := hle.cell d3
                  have hx := hx.le hle
                  obtain ⟨x, hxe⟩ : ∃ x, p.cs[k] = x := ⟨_, rfl⟩
                  rw [hxe] at d0 d1 d2 d3 hx hpx
                  have HTK := Lib.hid (show p.cs.take (k + 1) = p.cs.take k ++ [x] from by rw [take_snoc _ _ hkl, hxe])
                  have HCS := Lib.hid hx
                  clear hxe hx
                  go_wp2_with fail
                  have hSD := HS.out.drew
                  have hS2 : K.In wr.drew := hSD.step.isin
                  have hT2 : wr.drew.cell? ⟨B, 4, none⟩ = some (.slice au k cu) := hSD.cell rfl
                  refine wp_region_2 (fun w' => K.In w') (fun w' => w'.cell? ⟨B, 4, none⟩ = some (.slice au k cu)) 9 (by kernel_rfl) ?_
                  generalize wr.drew = wd at hSD hS2 hT2 ⊢
                  refine wpAny2_take (i := 0) (oi := _) (v := ?_) rfl (by decide) (by kernel_rfl) (by kernel_rfl) (by kernel_rfl) (by kernel_rfl) (fun _ _ _ h => h) hS2 (fun _ => hT2) (Or.inl ⟨by rfl, ?hy⟩) ?_
                  case hy => intro w hSw; have z0 := hSw.cell hl3; have z1 := hSw.cell d0; have z2 := hSw.cell d1; have z3 := hSw.cell d2; have z4 := hSw.cell d3; first | (go_simp; done) | (go_simp; with_reducible rfl)
                  try simp only [Act.put, List.setIfInBounds_toArray, List.set_cons_zero, List.set_cons_succ, List.getElem_toArray, List.getElem_cons_zero, List.getElem_cons_succ]
                  refine wpAny2_load (i := 1) (oi := _) (om := _) (v := ?_) rfl (by decide) (by kernel_rfl) (by kernel_rfl) (by kernel_rfl) (by kernel_rfl) rfl (by kernel_rfl) (by kernel_rfl) (fun _ _ _ h => h) hS2 hT2 (Or.inl ⟨by rfl, ?hy⟩) ?_
                  case hy => intro w hTw; first | (go_simp; done) | (go_simp; with_reducible rfl)
                  try simp only [Act.put, List.setIfInBounds_toArray, List.set_cons_zero, List.set_cons_succ, List.getElem_toArray, List.getElem_cons_zero, List.getElem_cons_succ]
                  refine wpAny2_take (i := 2) (oi := _) (v := ?_) rfl (by decide) (by kernel_rfl) (by kernel_rfl) (by kernel_rfl) (by kernel_rfl) (fun _ _ _ h => h) hS2 (fun _ => hT2) (Or.inl ⟨by rfl, ?hy⟩) ?_
                  case hy => intro w hSw; have z0 := hSw.cell hl3; have z1 := hSw.cell d0; have z2 := hSw.cell d1; have z3 := hSw.cell d2; have z4 := hSw.cell d3; first | (go_simp; done) | (go_simp; with_reducible rfl)
                  try simp only [Act.put, List.setIfInBounds_toArray, List.set_cons_zero, List.set_cons_succ, List.getElem_toArray, List.getElem_cons_zero, List.getElem_cons_succ]
                  refine wpAny2_take (i := 3) (oi := _) (v := ?_) rfl (by decide) (by kernel_rfl) (by kernel_rfl) (by kernel_rfl) (by kernel_rfl) (fun _ _ _ h => h) hS2 (fun _ => hT2) (Or.inl ⟨by rfl, ?hy⟩) ?_
                  case hy => intro w hSw; have z0 := hSw.cell hl3; have z1 := hSw.cell d0; have z2 := hSw.cell d1; have z3 := hSw.cell d2; have z4 := hSw.cell d3; first | (go_simp; done) | (go_simp; with_reducible rfl)
                  try simp only [Act.put, List.setIfInBounds_toArray, List.set_cons_zero, List.set_cons_succ, List.getElem_toArray, List.getElem_cons_zero, List.getElem_cons_succ]
                  refine wpAny2_take (i := 4) (oi := _) (v := ?_) rfl (by decide) (by kernel_rfl) (by kernel_rfl) (by kernel_rfl) (by kernel_rfl) (fun _ _ _ h => h) hS2 (fun _ => hT2) (Or.inl ⟨by rfl, ?hy⟩) ?_
                  case hy => intro w hSw; have z0 := hSw.cell hl3; have z1 := hSw.cell d0; have z2 := hSw.cell d1; have z3 := hSw.cell d2; have z4 := hSw.cell d3; first | (go_simp; done) | (go_simp; with_reducible rfl)
                  try simp only [Act.put, List.setIfInBounds_toArray, List.set_cons_zero, List.set_cons_succ, List.getElem_toArray, List.getElem_cons_zero, List.getElem_cons_succ]
                  refine wpAny2_take (i := 5) (oi := _) (v := ?_) rfl (by decide) (by kernel_rfl) (by kernel_rfl) (by kernel_rfl) (by kernel_rfl) (fun _ _ _ h => h) hS2 (fun _ => hT2) (Or.inl ⟨by rfl, ?hy⟩) ?_
                  case hy => intro w hSw; have z0 := hSw.cell hl3; have z1 := hSw.cell d0; have z2 := hSw.cell d1; have z3 := hSw.cell d2; have z4 := hSw.cell d3; first | (go_simp; done) | (go_simp; with_reducible rfl)
                  try simp only [Act.put, List.setIfInBounds_toArray, List.set_cons_zero, List.set_cons_succ, List.getElem_toArray, List.getElem_cons_zero, List.getElem_cons_succ]
                  refine wpAny2_take (i := 6) (oi := _) (v := ?_) rfl (by decide) (by kernel_rfl) (by kernel_rfl) (by kernel_rfl) (by kernel_rfl) (fun _ _ _ h => h) hS2 (fun _ => hT2) (Or.inl ⟨by rfl, ?hy⟩) ?_
                  case hy => intro w hSw; have z0 := hSw.cell hl3; have z1 := hSw.cell d0; have z2 := hSw.cell d1; have z3 := hSw.cell d2; have z4 := hSw.cell d3; first | (go_simp; done) | (go_simp; with_reducible rfl)
                  try simp only [Act.put, List.setIfInBounds_toArray, List.set_cons_zero, List.set_cons_succ, List.getElem_toArray, List.getElem_cons_zero, List.getElem_cons_succ]
                  refine wpAny2_one (i := 7) (o := _) (by kernel_rfl) rfl (fun K_ hK => ?_)
                  go_simp
                  go_at_call 36
                  refine (backE_any x _ K HCS.out hpx _ hS2).mono ?_
                  rintro r wc ⟨v', K2, rfl, hv2, hst⟩
                  obtain ⟨u2, rfl, hu2⟩ := hv2
                  obtain ⟨ax2, cx2, rfl⟩ := hu2.len
                  have hSE := hSD.next xs_mono hst
                  have hS2 : K.In wc := fun b o e => hst.isin b o (hst.le b o e)
                  have hT2 := hSE.cell (c := 4) rfl
                  refine hK.out _ _ (hS2) (fun _ => hT2) ?_
                  clear hK K_
                  try simp only [Act.put, List.setIfInBounds_toArray, List.set_cons_zero, List.set_cons_succ, List.getElem_toArray, List.getElem_cons_zero, List.getElem_cons_succ]
                  refine wpAny2_one (i := 8) (o := _) (by kernel_rfl) rfl (fun K_ hK => ?_)
                  go_simp
                  have hSF := hSE.alloc (.cells #[.string x.op, .int .i64 x.n, .string x.s, .slice ax2 x.l.length cx2] 53)
                  refine hK.out _ _ (hS2.alloc _) (fun _ => hSF.cell rfl) ?_
                  clear hK K_
                  try simp only [Act.put, List.setIfInBounds_toArray, List.set_cons_zero, List.set_cons_succ, List.getElem_toArray, List.getElem_cons_zero, List.getElem_cons_succ]
                  refine wpAny2_one (i := 9) (o := _) (by kernel_rfl) rfl (fun K_ hK => ?_)
                  refine step_append_lies _ (by rfl) _ _ _ (by rfl) w.heap.size 53 i1 _ 4 64 Tryd.underlying25 hi1 hy0 hy1 hy2 rfl (by omega) _ k xs (by rfl) hSF.row ⟨_, 0, none⟩ 1 1 [.string x.op, .int .i64 x.n, .string x.s, .slice ax2 x.l.length cx2] (by rfl) (by rfl) (by exact World.news_of_block (heap_alloc_new _ _)) (by simp [Value.oneCell']) (by omega) (by unfold maxLen; omega) (by omega) hSF.step.below.size _ rfl ?_
                  intro gg cap' w3 hown hgrow hat hltg
                  obtain ⟨hf1, hf2, hin3, hf3⟩ := BoO.more (c := 4) hSF (by decide) (fun _ _ => rfl) rfl (by rw [HTK.out]; exact hSF.xs.append ⟨ax2, cx2, [], rfl, hu2, rfl⟩) hown hgrow hat
                  have hS3 : K.In w3 := fun b o e => hin3 b o (hst.le b o e)
                  refine hK.out _ _ (hS3) (fun h => absurd h (by decide)) ?_
                  clear hK K_
                  try simp only [Act.put, List.setIfInBounds_toArray, List.set_cons_zero, List.set_cons_succ, List.getElem_toArray, List.getElem_cons_zero, List.getElem_cons_succ]
                  refine wpAny2_take (i := 10) (oi := _) (v := ?_) rfl (by decide) (by kernel_rfl) (by kernel_rfl) (by kernel_rfl) (by kernel_rfl) (fun _ _ _ h => h) hS3 (fun h => absurd h (by decide)) (Or.inl ⟨by rfl, ?hy⟩) ?_
                  case hy => intro w hSw; have z0 := hSw.cell hl3; have z1 := hSw.cell d0; have z2 := hSw.cell d1; have z3 := hSw.cell d2; have z4 := hSw.cell d3; first | (go_simp; done) | (go_simp; with_reducible rfl)
                  try simp only [Act.put, List.setIfInBounds_toArray, List.set_cons_zero, List.set_cons_succ, List.getElem_toArray, List.getElem_cons_zero, List.getElem_cons_succ]
                  refine wpAny2_one (i := 11) (o := _) (by kernel_rfl) rfl (fun K_ hK => ?_)
                  go_simp
                  refine hK.out _ _ (fun b o e => hf3.step.isin b o (hst.le b o e)) (fun h => absurd h (by decide)) ?_
                  clear hK K_
                  try simp only [Act.put, List.setIfInBounds_toArray, List.set_cons_zero, List.set_cons_succ, List.getElem_toArray, List.getElem_cons_zero, List.getElem_cons_succ]
                  refine wpAny2_done (by kernel_rfl) ?_ _
                  generalize World.setCell _ _ _ = W9 at hf3 ⊢
                  go_wp2_with fail
                  go_roundw
                  case rel => exact ⟨k + 1, _, _, _, by go_num, by omega, Kn.le_trans hle hst.le, hf3⟩
                  case measure => simp [intOf]; omega
                · obtain rfl : k = p.cs.length := by omega
                  have hxs : XsAt K (List.take p.cs.length p.cs) xs := HS.out.xs
                  rw [List.take_of_length_le (Nat.le_refl _)] at hxs
                  obtain ⟨K', hle', hin, hv, hfr⟩ := exsV_of_own2 HS.out.step.isin HS.out.row hxs HS.out.noU
                  have hl2 := Kn.le_trans hle hle'
                  obtain ⟨⟨q0, q1, q2, q3, q4⟩, _⟩ := cells5_of HS.out.box
                  obtain ⟨⟨r0, r1, r2, r3, r4⟩, f0, f1, f2, f3, f4⟩ := cells5_of HS.out.res
                  have HR2 := Lib.hid (set5_of HS.out.res (.slice x1 p.ins.length y1) (.slice ao p.outs.length co) (.slice al4 p.fl.length cl4) (.slice aa5 p.as.length ca5) (.slice au p.cs.length cu))
                  have hKR : K' (w.heap.size + 1) = none := by rw [hfr _ (own_type HS.out.row HS.out.res (by decide))]; exact HS.out.noR
                  have HST := Lib.hid (show Kn.Step H w K' (((((wr.setCell ⟨w.heap.size + 1, 0, none⟩ (.slice x1 p.ins.length y1)).setCell ⟨w.heap.size + 1, 1, none⟩ (.slice ao p.outs.length co)).setCell ⟨w.heap.size + 1, 2, none⟩ (.slice al4 p.fl.length cl4)).setCell ⟨w.heap.size + 1, 3, none⟩ (.slice aa5 p.as.length ca5)).setCell ⟨w.heap.size + 1, 4, none⟩ (.slice au p.cs.length cu)) from
                    ⟨Kn.le_trans HS.out.step.le hle', fun b hb => (hfr b (own_ge HS.out.row hb)).trans (HS.out.step.fresh b hb), in5 hin hKR _ _ _ _ _, below5 HS.out.step.below (Nat.le_succ _) _ _ _ _ _⟩)
                  have HPP := Lib.hid (show PrP K' p (.slice x1 p.ins.length y1) (.slice ao p.outs.length co) (.slice al4 p.fl.length cl4) (.slice aa5 p.as.length ca5) (.slice au p.cs.length cu) from
                    ⟨GV5.out.le hl2 VrC.mono, GO5.out.le hl2 StrC.mono, HL5.out.le hl2 (FlC.mono hl2), HA5.out.le hl2, hv⟩)
                  clear hin hv hfr hxs hKR hle' hl2
                  go_wp2_with fail
                  obtain ⟨⟨e0, e1, e2, e3, e4⟩, _⟩ := cells5_of HR2.out
                  refine bodyPost_ret (v := .agg #[.slice x1 p.ins.length y1, .slice ao p.outs.length co, .slice al4 p.fl.length cl4, .slice aa5 p.as.length ca5, .slice au p.cs.length cu]) (by simp [results, Tryd.results10, go_sem, e0, e1, e2, e3, e4]) rfl ?_
                  exact ⟨_, _, _, _, _, K', rfl, HPP.out, HST.out⟩
    | _ => exact h.elim
end Go.Proofs.YtnaijgmfjpmpjaaDoor
