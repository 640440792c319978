/- Walks: lustrumlaw1.BackExpr, backVars. (Printed by gen_bxe.py.) -/
import Derived.Test.YtnaijgmfjpmpjaaDoorEof
import Derived.Test.YtnaijgmfjpmpjaaDoorGof
namespace Go.Proofs.YtnaijgmfjpmpjaaDoor
open Go.RowKit Mx
theorem Tryd.infoExR : (Tryd.prog.info? 53).map (fun i => (i.zero, i.size, i.bytes)) = some (some (.agg #[.string ⟨#[]⟩, .int .i64 0, .string ⟨#[]⟩, .slice none 0 0]), 4, 64) := by kernel_rfl
set_option maxHeartbeats 4000000 in
set_option maxRecDepth 100000 in
theorem backE_any : ∀ (e : Ex) (v : Value) (H : Kn), ExV H e v → e.parts ≤ 1000000000000 → ∀ w : World, H.In w →
    Calls Tryd.prog 36 #[v] w fun r w' => ∃ v' K, r = .returned v' ∧ ExV K e v' ∧ Kn.Step H w K w' := by
  refine Ex.ind fun o n s l ih v H hv hp w hH => ?_
  obtain ⟨u, rfl, hu⟩ := hv
  simp only [Ex.op, Ex.n, Ex.s, Ex.l] at hu ⊢
  obtain ⟨a, cap, rfl⟩ := hu.len
  have hlp := len_partsL l
  simp only [Ex.parts] at hp
  obtain ⟨i0, hi0, hz0, hz1, hz2⟩ := info_parts Tryd.infoExR
  have HU := Lib.hid hu
  have IH := Lib.hid ih
  clear hu ih
  go_enter Tryd.func36, Tryd.ntmps36
  go_wp2_with fail
  have hW0 : Below w.heap.size w (((w.alloc (.cells #[.string o, .int .i64 n, .string s, .slice a l.length cap] 47)).alloc (.cells #[.string ⟨#[]⟩, .int .i64 0, .string ⟨#[]⟩, .slice none 0 0] 53)).alloc (.cells #[.string o, .int .i64 n, .string s, .slice none 0 0] 53)) :=
    (((Below.refl _ _).alloc (Nat.le_refl _) _).alloc (by simp) _).alloc (by simp; omega) _
  have hP0 : (((w.alloc (.cells #[.string o, .int .i64 n, .string s, .slice a l.length cap] 47)).alloc (.cells #[.string ⟨#[]⟩, .int .i64 0, .string ⟨#[]⟩, .slice none 0 0] 53)).alloc (.cells #[.string o, .int .i64 n, .string s, .slice none 0 0] 53)).heap[w.heap.size]? = some (.cells #[.string o, .int .i64 n, .string s, .slice a l.length cap] 47 (0, 0)) := by
    rw [Below.heap_alloc _ _ _ (by simp; omega), Below.heap_alloc _ _ _ (by simp)]; exact heap_alloc_new _ _
  have hR0 : (((w.alloc (.cells #[.string o, .int .i64 n, .string s, .slice a l.length cap] 47)).alloc (.cells #[.string ⟨#[]⟩, .int .i64 0, .string ⟨#[]⟩, .slice none 0 0] 53)).alloc (.cells #[.string o, .int .i64 n, .string s, .slice none 0 0] 53)).heap[w.heap.size + 1]? = some (.cells #[.string ⟨#[]⟩, .int .i64 0, .string ⟨#[]⟩, .slice none 0 0] 53 (0, 0)) := by
    rw [Below.heap_alloc _ _ _ (by simp), show w.heap.size + 1 = (w.alloc (.cells #[.string o, .int .i64 n, .string s, .slice a l.length cap] 47)).heap.size from by simp]; exact heap_alloc_new _ _
  have hB0 : (((w.alloc (.cells #[.string o, .int .i64 n, .string s, .slice a l.length cap] 47)).alloc (.cells #[.string ⟨#[]⟩, .int .i64 0, .string ⟨#[]⟩, .slice none 0 0] 53)).alloc (.cells #[.string o, .int .i64 n, .string s, .slice none 0 0] 53)).heap[w.heap.size + 1 + 1]? = some (.cells #[.string o, .int .i64 n, .string s, .slice none 0 0] 53 (0, 0)) := by
    rw [show w.heap.size + 1 + 1 = ((w.alloc (.cells #[.string o, .int .i64 n, .string s, .slice a l.length cap] 47)).alloc (.cells #[.string ⟨#[]⟩, .int .i64 0, .string ⟨#[]⟩, .slice none 0 0] 53)).heap.size from by simp]; exact heap_alloc_new _ _
  generalize (((w.alloc (.cells #[.string o, .int .i64 n, .string s, .slice a l.length cap] 47)).alloc (.cells #[.string ⟨#[]⟩, .int .i64 0, .string ⟨#[]⟩, .slice none 0 0] 53)).alloc (.cells #[.string o, .int .i64 n, .string s, .slice none 0 0] 53)) = W0 at *
  have HS0 := Lib.hid (show ExO 53 H W0 W0 (w.heap.size + 1 + 1) (.mk o n s l) 0 (.slice none 0 0) [] H from
    ⟨Kn.le_refl H, fun _ _ => rfl, hH.below hW0, Below.refl _ _, hB0, World.ownsRow_nil _ _ _ _, rfl, fun g hg => by simp [Value.ownBlock] at hg⟩)
  have HW0 := Lib.hid hW0
  have HP0 := Lib.hid hP0
  have HR0 := Lib.hid hR0
  have hHB : H (w.heap.size + 1 + 1) = none := hH.isNone (by omega)
  have hHR : H (w.heap.size + 1) = none := hH.isNone (by omega)
  clear hW0 hP0 hR0 hB0
  go_loopw [4] (fun i wr => ∃ (k : Nat) (u : Value) (xs : List Value) (K : Kn), i = .int .i64 k ∧ k ≤ l.length ∧ ExO 53 H W0 wr (w.heap.size + 1 + 1) (.mk o n s l) k u xs K) (fun i _ => l.length - (intOf i).toNat)
  case atStart => exact ⟨0, _, _, _, rfl, Nat.zero_le _, HS0.out⟩
  case round =>
    obtain ⟨k, u, xs, K, rfl, hk, hS⟩ := hrel
    have HS := Lib.hid hS
    clear hS
    have p3 : wr.cell? ⟨w.heap.size, 3, none⟩ = some (.slice a l.length cap) := by
      rw [HS.out.below.cell (p := ⟨w.heap.size, 3, none⟩) (by show w.heap.size < _; omega)]; simp [World.cell?, HP0.out]
    by_cases hkl : k < l.length
    · obtain ⟨b, off, ax, cx, rfl, c0, c1, c2, c3, hx⟩ := HU.out.at hkl
      have hxe : ∃ x, l[k] = x := ⟨_, rfl⟩
      obtain ⟨x, hxe⟩ := hxe
      have hpx : x.parts ≤ 1000000000000 := by have := getElem_parts l k hkl; rw [hxe] at this; omega
      have hmem : x ∈ l := by rw [← hxe]; exact List.getElem_mem hkl
      rw [hxe] at c0 c1 c2 c3 hx
      have c0 := HS.out.isin.cell (HS.out.le.cell c0)
      have c1 := HS.out.isin.cell (HS.out.le.cell c1)
      have c2 := HS.out.isin.cell (HS.out.le.cell c2)
      have c3 := HS.out.isin.cell (HS.out.le.cell c3)
      have hx := hx.le HS.out.le
      have q3 : wr.drew.cell? ⟨w.heap.size + 1 + 1, 3, none⟩ = some u := HS.out.cells.2.2.2
      have hSD := HS.out.drew
      have HXE := Lib.hid hxe
      clear hxe
      go_wp2_with fail
      go_region_law (first | (go_simp; go_at_call 36; refine (IH.out x hmem _ K hx hpx _ hSD.isin).mono ?_; rintro r wc ⟨v', K2, rfl, hv2, hst⟩; obtain ⟨u2, rfl, hu2⟩ := hv2; obtain ⟨ax2, cx2, rfl⟩ := hu2.len; have hS2 := ExO.next hSD hst; have q5 := hS2.cells.2.2.2; have q6 := fun o => (hS2.alloc o).cells.2.2.2) | (refine step_append_lies _ (by rfl) _ _ _ (by rfl) (w.heap.size + 1 + 1 + 1) 53 i0 _ 4 64 Tryd.underlying25 hi0 hz0 hz1 hz2 rfl (by omega) u k xs (by rfl) (ExO.row (ExO.alloc (by assumption) _)) ⟨_, 0, none⟩ 1 1 [.string x.op, .int .i64 x.n, .string x.s, .slice ax2 x.l.length cx2] (by rfl) (by rfl) (by exact World.news_of_block (heap_alloc_new _ _)) (by simp [Value.oneCell']) (by omega) (by unfold maxLen; omega) (by omega) (ExO.blt (ExO.alloc (by assumption) _)) _ rfl ?_; intro gg cap' w3 hown hgrow hat hltg; obtain ⟨hf1, hf2, hf3⟩ := ExO.step (ExO.alloc (by assumption) _) hkl HXE.out hHB hu2 hown hgrow hat))
      all_goals generalize World.setCell _ _ _ = W at hf3 ⊢
      all_goals go_wp2_with fail
      all_goals go_roundw
      all_goals first | exact ⟨k + 1, _, _, _, by go_num, by omega, hf3⟩ | (simp [intOf]; omega)
    · obtain rfl : k = l.length := by omega
      obtain ⟨au, cu, rfl, _⟩ := own_len HS.out.row
      have hxs : XsAt K (List.take l.length l) xs := HS.out.xs
      rw [List.take_of_length_le (Nat.le_refl _)] at hxs
      obtain ⟨K', hle, hin, hv, hfr⟩ := exsV_of_own HS.out.isin HS.out.row hxs HS.out.noR
      obtain ⟨q0, q1, q2, q3⟩ := HS.out.cells
      simp only [Ex.op, Ex.n, Ex.s] at q0 q1 q2
      have hR1 : wr.heap[w.heap.size + 1]? = some (.cells #[.string ⟨#[]⟩, .int .i64 0, .string ⟨#[]⟩, .slice none 0 0] 53 (0, 0)) := by rw [HS.out.below.block _ (by omega)]; exact HR0.out
      obtain ⟨r0, r1, r2, r3, f0, f1, f2, f3, _⟩ := cells4_of hR1
      have hR2 := set4_of hR1 (.string o) (.int .i64 n) (.string s) (.slice au l.length cu)
      have HR2 := Lib.hid hR2
      clear hR1 hR2
      have hKR : K' (w.heap.size + 1) = none := by rw [hfr _ (by omega), HS.out.fresh _ (by omega)]; exact hHR
      have hstep : Kn.Step H w K' ((((wr.setCell ⟨w.heap.size + 1, 0, none⟩ (.string o)).setCell ⟨w.heap.size + 1, 1, none⟩ (.int .i64 n)).setCell ⟨w.heap.size + 1, 2, none⟩ (.string s)).setCell ⟨w.heap.size + 1, 3, none⟩ (.slice au l.length cu)) := by
        have hbw : Below w.heap.size w wr := HW0.out.trans (HS.out.below.mono (by omega))
        refine ⟨Kn.le_trans HS.out.le hle, fun b hb => (hfr b (by omega)).trans (HS.out.fresh b (by omega)), ?_, ?_⟩
        · exact (((hin.setCell (a := ⟨w.heap.size + 1, 0, none⟩) hKR _).setCell (a := ⟨w.heap.size + 1, 1, none⟩) hKR _).setCell (a := ⟨w.heap.size + 1, 2, none⟩) hKR _).setCell (a := ⟨w.heap.size + 1, 3, none⟩) hKR _
        · exact (((hbw.setCell (p := ⟨w.heap.size + 1, 0, none⟩) (Nat.le_succ _) _).setCell (p := ⟨w.heap.size + 1, 1, none⟩) (Nat.le_succ _) _).setCell (p := ⟨w.heap.size + 1, 2, none⟩) (Nat.le_succ _) _).setCell (p := ⟨w.heap.size + 1, 3, none⟩) (Nat.le_succ _) _
      have HST := Lib.hid hstep
      have HV := Lib.hid hv
      clear hstep hv hin hfr hle
      go_wp2_with fail
      obtain ⟨e0, e1, e2, e3, _⟩ := cells4_of HR2.out
      refine bodyPost_ret (v := .agg #[.string o, .int .i64 n, .string s, .slice au l.length cu]) (by simp [results, Tryd.results36, go_sem, e0, e1, e2, e3]) rfl ?_
      exact ⟨_, K', rfl, ⟨_, rfl, HV.out⟩, HST.out⟩
theorem Tryd.infoVrR : (Tryd.prog.info? 100).map (fun i => (i.zero, i.size, i.bytes)) = some (some (.agg #[.string ⟨#[]⟩, .int .i64 0]), 2, 24) := by kernel_rfl
set_option maxHeartbeats 4000000 in
set_option maxRecDepth 100000 in
theorem backV_any (l : List Vr) (v : Value) (H : Kn) (hv : VrsV H l v) (hp : l.length ≤ 1000000000000) (w : World) (hH : H.In w) :
    Calls Tryd.prog 35 #[v] w fun r w' => ∃ v' K, r = .returned v' ∧ VrsV K l v' ∧ Kn.Step H w K w' := by
  obtain ⟨a, cap, rfl⟩ := hv.len
  have HU := Lib.hid hv
  clear hv
  obtain ⟨i0, hi0, hz0, hz1, hz2⟩ := info_parts Tryd.infoVrR
  go_enter Tryd.func35, Tryd.ntmps35
  go_wp2_with fail
  have HS0 := Lib.hid (show RwO 100 2 VsX H w w w.heap.size l 0 (.slice none 0 0) [] H from
    ⟨Kn.le_refl H, fun _ _ => rfl, hH, Below.refl _ _, Nat.le_refl _, World.ownsRow_nil _ _ _ _, rfl, fun g hg => by simp [Value.ownBlock] at hg⟩)
  go_loopw [3, 4] (fun u i wr => ∃ (k : Nat) (xs : List Value), i = .int .i64 k ∧ k ≤ l.length ∧ RwO 100 2 VsX H w wr w.heap.size l k u xs H) (fun _ i _ => l.length - (intOf i).toNat)
  case atStart => exact ⟨0, _, rfl, Nat.zero_le _, HS0.out⟩
  case round =>
    obtain ⟨k, xs, rfl, hk, hS⟩ := hrel
    have HS := Lib.hid hS
    obtain ⟨au, cu, rfl, _⟩ := own_len hS.row
    clear hS
    by_cases hkl : k < l.length
    · obtain ⟨b, off, rfl, _, c0, c1⟩ := SlV.at HU.out hkl
      have c0 := HS.out.isin.cell c0
      have c1 := HS.out.isin.cell c1
      simp only [Nat.add_zero] at c0
      have c0 : wr.drew.cell? ⟨b, off + k * 2, none⟩ = some (.string l[k].name) := c0
      have c1 : wr.drew.cell? ⟨b, off + k * 2 + 1, none⟩ = some (.int .i64 l[k].kind) := c1
      have HT := Lib.hid (take_snoc l k hkl)
      generalize l[k] = x at *
      have HSD := HS.out.drew
      go_wp2_with fail
      go_region_law (refine step_append_lies _ (by rfl) _ _ _ (by rfl) w.heap.size 100 i0 _ 2 24 Tryd.underlying22 hi0 hz0 hz1 hz2 rfl (by omega) _ k xs (by rfl) (RwO.row (RwO.alloc HSD _)) ⟨_, 0, none⟩ 1 1 [.string x.name, .int .i64 x.kind] (by rfl) (by rfl) (by exact World.news_of_block (heap_alloc_new _ _)) (by simp [Value.oneCell']) (by omega) (by unfold maxLen; omega) (by omega) (RwO.size (RwO.alloc HSD _)) _ rfl ?_; intro gg cap' w3 hown hgrow hat hltg; have hf3 := RwO.step (n' := 1) (RwO.alloc HSD _) (by rw [HT.out]; have h1 := HS.out.xs; unfold VsX at h1 ⊢; rw [h1]; simp) hown hgrow hat)
      all_goals go_wp2_with fail
      all_goals go_roundw
      all_goals first | exact ⟨k + 1, _, by go_num, by omega, hf3⟩ | (simp [intOf]; omega)
    · obtain rfl : k = l.length := by omega
      have hxs : VsX H (List.take l.length l) xs := HS.out.xs
      rw [List.take_of_length_le (Nat.le_refl _)] at hxs
      obtain ⟨K', hle, hin, hv, hfr⟩ := slv_of_own (R := fun _ => VrC) HS.out.isin HS.out.row HS.out.noR (fun K' _ => VsX.at (K' := K') hxs)
      have HST := Lib.hid (show Kn.Step H w K' wr from ⟨Kn.le_trans HS.out.le hle, fun b hb => (hfr b hb).trans (HS.out.fresh b hb), hin, HS.out.below⟩)
      have HV := Lib.hid hv
      clear hv hin hfr hle
      go_wp2_with fail
      go_ret
      exact ⟨_, K', rfl, HV.out, HST.out⟩
end Go.Proofs.YtnaijgmfjpmpjaaDoor
namespace Go.Proofs.YtnaijgmfjpmpjaaDoor
open Go.RowKit Mx
structure BoO {α : Type} (T E : TypeId) (kk : Nat) (X : Kn → List α → List Value → Prop) (bx : Value → Array Value) (H : Kn) (w : World) (R B : Nat) (wr : World) (u : Value) (l : List α) (done : Nat) (xs : List Value) (K : Kn) : Prop where
  step : Kn.Step H w K wr
  noB : K B = none
  noR : K R = none
  hB : w.heap.size ≤ B
  hR : w.heap.size ≤ R
  ne : R ≠ B
  box : wr.heap[B]? = some (.cells (bx u) T (0, 0))
  res : wr.heap[R]? = some (.cells #[.slice none 0 0, .slice none 0 0, .slice none 0 0, .slice none 0 0, .slice none 0 0] T (0, 0))
  row : wr.ownsRow w.heap.size E kk u done xs
  noU : ∀ g, u.ownBlock = some g → K g = none
  xs : X K (l.take done) xs
section
variable {α : Type} {T E : TypeId} {kk : Nat} {X : Kn → List α → List Value → Prop} {bx : Value → Array Value} {H K : Kn} {w wr : World} {R B : Nat} {u : Value} {l : List α} {done : Nat} {xs : List Value}
theorem BoO.blt (h : BoO T E kk X bx H w R B wr u l done xs K) : B < wr.heap.size := (Array.getElem?_eq_some_iff.1 h.box).1
theorem BoO.rlt (h : BoO T E kk X bx H w R B wr u l done xs K) : R < wr.heap.size := (Array.getElem?_eq_some_iff.1 h.res).1
theorem BoO.cell (h : BoO T E kk X bx H w R B wr u l done xs K) {c : Nat} {v : Value} (hc : (bx u)[c]? = some v) : wr.cell? ⟨B, c, none⟩ = some v := by
  unfold World.cell?
  rw [h.box]
  exact hc
theorem BoO.next {wc : World} {K2 : Kn} (hX : ∀ K K' l xs, Kn.le K K' → X K l xs → X K' l xs) (h : BoO T E kk X bx H w R B wr u l done xs K) (hs : Kn.Step K wr K2 wc) : BoO T E kk X bx H w R B wc u l done xs K2 :=
  ⟨h.step.trans hs, (hs.fresh B h.blt).trans h.noB, (hs.fresh R h.rlt).trans h.noR, h.hB, h.hR, h.ne, (hs.below.block B h.blt).trans h.box, (hs.below.block R h.rlt).trans h.res,
    own_below h.row hs.below, fun g hg => (hs.fresh g (h.row.lt g hg).2).trans (h.noU g hg), hX _ _ _ _ hs.le h.xs⟩
theorem BoO.later {wc : World} (h : BoO T E kk X bx H w R B wr u l done xs K) (hb : Below wr.heap.size wr wc) : BoO T E kk X bx H w R B wc u l done xs K :=
  ⟨h.step.trans (Kn.Step.of_below h.step.isin hb), h.noB, h.noR, h.hB, h.hR, h.ne, (hb.block B h.blt).trans h.box, (hb.block R h.rlt).trans h.res, own_below h.row hb, h.noU, h.xs⟩
theorem BoO.alloc (h : BoO T E kk X bx H w R B wr u l done xs K) (o : Obj) : BoO T E kk X bx H w R B (wr.alloc o) u l done xs K := h.later ((Below.refl _ _).alloc (Nat.le_refl _) o)
theorem BoO.drew (h : BoO T E kk X bx H w R B wr u l done xs K) : BoO T E kk X bx H w R B wr.drew u l done xs K := h.later ((Below.refl _ _).drew)
theorem BoO.more {wc w3 : World} {gg cap' c : Nat} {news : List Value} (h : BoO T E kk X bx H w R B wc u l done xs K) (hne : T ≠ E) (hbx : ∀ u v, (bx u).setIfInBounds c v = bx v) (hc : (bx u)[c]? = some u) (hx : X K (l.take (done + 1)) (xs ++ news))
    (hown : w3.ownsRow w.heap.size E kk (.slice (some ⟨gg, 0, none⟩) (done + 1) cap') (done + 1) (xs ++ news)) (hg : wc.grownBy w3 u.ownBlock) (hat : u.ownBlock = some gg ∨ gg = wc.heap.size) :
    w3.cell? ⟨B, c, none⟩ = some u ∧ w3.frozen? ⟨B, c, none⟩ = false ∧ K.In w3 ∧ BoO T E kk X bx H w R B (w3.setCell ⟨B, c, none⟩ (.slice (some ⟨gg, 0, none⟩) (done + 1) cap')) (.slice (some ⟨gg, 0, none⟩) (done + 1) cap') l (done + 1) (xs ++ news) K := by
  have hnB : some B ≠ u.ownBlock := fun e => own_type h.row h.box hne e.symm
  have hnR : some R ≠ u.ownBlock := fun e => own_type h.row h.res hne e.symm
  have hbx1 : w3.heap[B]? = _ := (hg.block B h.blt hnB).trans h.box
  have hrx : w3.heap[R]? = _ := (hg.block R h.rlt hnR).trans h.res
  have hin := (h.step.isin.grown hg h.noU)
  have hggB : gg ≠ B := fun e => own_type hown hbx1 hne (by rw [e]; rfl)
  refine ⟨?_, ?_, hin, ⟨h.step.le, h.step.fresh, hin.setCell (a := ⟨B, c, none⟩) h.noB _, ?_⟩, h.noB, h.noR, h.hB, h.hR, h.ne, ?_, ?_, own_setCell hown (a := ⟨B, c, none⟩) (fun e => hggB (by simpa [Value.ownBlock] using e)) _, fun g hgg => ?_, hx⟩
  · unfold World.cell?
    rw [hbx1]
    exact hc
  · unfold World.frozen?
    rw [hbx1]
    rfl
  · exact (h.step.below.grown hg h.step.below.size (fun g hgg => (h.row.lt g hgg).1)).setCell h.hB _
  · rw [heap_setCell_same _ _ _ _ _ _ _ hbx1, hbx]
  · rw [Below.heap_setCell _ _ _ _ h.ne]; exact hrx
  · have hgg' : gg = g := by simpa [Value.ownBlock] using hgg
    subst hgg'
    rcases hat with h1 | h1
    · exact h.noU gg h1
    · rw [h1]; exact h.step.isin.isNone (Nat.le_refl _)
end
theorem BoO.turn {α β : Type} {T E E' : TypeId} {kk kk' : Nat} {X : Kn → List α → List Value → Prop} {X' : Kn → List β → List Value → Prop} {bx bx' : Value → Array Value} {H K K' : Kn} {w wr : World} {R B : Nat} {u : Value} {l : List α} {l' : List β} {done : Nat} {xs : List Value}
    (h : BoO T E kk X bx H w R B wr u l done xs K) (hne : T ≠ E) (hbx : bx u = bx' (.slice none 0 0)) (hle : K.le K') (hin : K'.In wr) (hfr : ∀ b, u.ownBlock ≠ some b → K' b = K b) (hx : X' K' (l'.take 0) []) : BoO T E' kk' X' bx' H w R B wr (.slice none 0 0) l' 0 [] K' :=
  ⟨⟨Kn.le_trans h.step.le hle, fun b hb => (hfr b (own_ge h.row hb)).trans (h.step.fresh b hb), hin, h.step.below⟩, (hfr B (own_type h.row h.box hne)).trans h.noB, (hfr R (own_type h.row h.res hne)).trans h.noR, h.hB, h.hR, h.ne, by rw [h.box, hbx], h.res, World.ownsRow_nil _ _ _ _, fun g hg => by simp [Value.ownBlock] at hg, hx⟩
theorem boo_start {α : Type} {T E : TypeId} {kk : Nat} {X : Kn → List α → List Value → Prop} {H H1 K : Kn} {w W1 Wc : World} {R B : Nat} {v1 vo : Value} {l : List α} (h0 : Kn.Step H w H1 W1) (h : Kn.Step H1 W1 K Wc) (hbx : Wc.heap[B]? = some (.cells #[.slice none 0 0, .slice none 0 0, .slice none 0 0, .slice none 0 0, .slice none 0 0] T (0, 0)))
    (hKB : K B = none) (hB : W1.heap.size ≤ B) (hres : W1.heap[R]? = some (.cells #[.slice none 0 0, .slice none 0 0, .slice none 0 0, .slice none 0 0, .slice none 0 0] T (0, 0))) (hHR : H1 R = none) (hR : w.heap.size ≤ R) (hx : X K (l.take 0) []) :
    BoO T E kk X (fun u => #[v1, vo, u, .slice none 0 0, .slice none 0 0]) H w R B (((((Wc.setCell ⟨B, 0, none⟩ v1).setCell ⟨B, 1, none⟩ vo).setCell ⟨B, 2, none⟩ (.slice none 0 0)).setCell ⟨B, 3, none⟩ (.slice none 0 0)).setCell ⟨B, 4, none⟩ (.slice none 0 0)) (.slice none 0 0) l 0 [] K := by
  have hRlt : R < W1.heap.size := (Array.getElem?_eq_some_iff.1 hres).1
  have hBw : w.heap.size ≤ B := Nat.le_trans h0.below.size hB
  have hne : R ≠ B := by omega
  have hs := h0.trans h
  exact ⟨⟨hs.le, hs.fresh, in5 hs.isin hKB _ _ _ _ _, below5 hs.below hBw _ _ _ _ _⟩, hKB, (h.fresh R hRlt).trans hHR, hBw, hR, hne, set5_of hbx _ _ _ _ _, (heap5_far hne _ _ _ _ _).trans ((h.below.block R hRlt).trans hres), World.ownsRow_nil _ _ _ _, fun g hg => by simp [Value.ownBlock] at hg, hx⟩
theorem fs_mono : ∀ (K K' : Kn) (l : List Fl) (xs : List Value), Kn.le K K' → FsX K l xs → FsX K' l xs := fun _ _ _ _ h k => k.le h
theorem Tryd.infoFlowR : (Tryd.prog.info? 69).map (fun i => (i.zero, i.size, i.bytes)) = some (some (.agg #[.string ⟨#[]⟩, .int .i64 0, .string ⟨#[]⟩, .int .i64 0, .string ⟨#[]⟩, .slice none 0 0]), 6, 88) := by kernel_rfl
end Go.Proofs.YtnaijgmfjpmpjaaDoor
