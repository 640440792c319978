/- Walks: lustrumlaw1.ExprOf: a term's copy. -/
import Derived.Test.YthihoafemahgmaaDoorRw
import Derived.Deep.RegionLaw
namespace Go.Proofs.YthihoafemahgmaaDoor
open Go.RowKit Mx
set_option maxHeartbeats 4000000 in
set_option maxRecDepth 100000 in
theorem exprOf_any : ∀ (e : Ex) (v : Value) (H : Kn), ExV H e v → e.parts ≤ 1000000000000 → ∀ w : World, H.In w →
    Calls Tryd.prog 28 #[v] w fun r w' => ∃ v' K, r = .returned v' ∧ ExV K e v' ∧ Kn.Step H w K w' := by
  refine Ex.ind fun o n s l ih v H hv hp w hH => ?_
  obtain ⟨u, rfl, hu⟩ := hv
  simp only [Ex.op, Ex.n, Ex.s, Ex.l] at hu ⊢
  obtain ⟨a, cap, rfl⟩ := hu.len
  have hlp := len_partsL l
  simp only [Ex.parts] at hp
  obtain ⟨i0, hi0, hz0, hz1, hz2⟩ := info_parts Tryd.infoEx
  have HU := Lib.hid hu
  have IH := Lib.hid ih
  clear hu ih
  go_enter Tryd.func28, Tryd.ntmps28
  go_wp2_with fail
  have hW0 : Below w.heap.size w (((w.alloc (.cells #[.string o, .int .i64 n, .string s, .slice a l.length cap] 51)).alloc (.cells #[.string ⟨#[]⟩, .int .i64 0, .string ⟨#[]⟩, .slice none 0 0] 45)).alloc (.cells #[.string o, .int .i64 n, .string s, .slice none 0 0] 45)) :=
    (((Below.refl _ _).alloc (Nat.le_refl _) _).alloc (by simp) _).alloc (by simp; omega) _
  have hP0 : (((w.alloc (.cells #[.string o, .int .i64 n, .string s, .slice a l.length cap] 51)).alloc (.cells #[.string ⟨#[]⟩, .int .i64 0, .string ⟨#[]⟩, .slice none 0 0] 45)).alloc (.cells #[.string o, .int .i64 n, .string s, .slice none 0 0] 45)).heap[w.heap.size]? = some (.cells #[.string o, .int .i64 n, .string s, .slice a l.length cap] 51 (0, 0)) := by
    rw [Below.heap_alloc _ _ _ (by simp; omega), Below.heap_alloc _ _ _ (by simp)]; exact heap_alloc_new _ _
  have hR0 : (((w.alloc (.cells #[.string o, .int .i64 n, .string s, .slice a l.length cap] 51)).alloc (.cells #[.string ⟨#[]⟩, .int .i64 0, .string ⟨#[]⟩, .slice none 0 0] 45)).alloc (.cells #[.string o, .int .i64 n, .string s, .slice none 0 0] 45)).heap[w.heap.size + 1]? = some (.cells #[.string ⟨#[]⟩, .int .i64 0, .string ⟨#[]⟩, .slice none 0 0] 45 (0, 0)) := by
    rw [Below.heap_alloc _ _ _ (by simp), show w.heap.size + 1 = (w.alloc (.cells #[.string o, .int .i64 n, .string s, .slice a l.length cap] 51)).heap.size from by simp]; exact heap_alloc_new _ _
  have hB0 : (((w.alloc (.cells #[.string o, .int .i64 n, .string s, .slice a l.length cap] 51)).alloc (.cells #[.string ⟨#[]⟩, .int .i64 0, .string ⟨#[]⟩, .slice none 0 0] 45)).alloc (.cells #[.string o, .int .i64 n, .string s, .slice none 0 0] 45)).heap[w.heap.size + 1 + 1]? = some (.cells #[.string o, .int .i64 n, .string s, .slice none 0 0] 45 (0, 0)) := by
    rw [show w.heap.size + 1 + 1 = ((w.alloc (.cells #[.string o, .int .i64 n, .string s, .slice a l.length cap] 51)).alloc (.cells #[.string ⟨#[]⟩, .int .i64 0, .string ⟨#[]⟩, .slice none 0 0] 45)).heap.size from by simp]; exact heap_alloc_new _ _
  generalize (((w.alloc (.cells #[.string o, .int .i64 n, .string s, .slice a l.length cap] 51)).alloc (.cells #[.string ⟨#[]⟩, .int .i64 0, .string ⟨#[]⟩, .slice none 0 0] 45)).alloc (.cells #[.string o, .int .i64 n, .string s, .slice none 0 0] 45)) = W0 at *
  have HS0 := Lib.hid (show ExO 45 H W0 W0 (w.heap.size + 1 + 1) (.mk o n s l) 0 (.slice none 0 0) [] H from
    ⟨Kn.le_refl H, fun _ _ => rfl, hH.below hW0, Below.refl _ _, hB0, World.ownsRow_nil _ _ _ _, rfl, fun g hg => by simp [Value.ownBlock] at hg⟩)
  have HW0 := Lib.hid hW0
  have HP0 := Lib.hid hP0
  have HR0 := Lib.hid hR0
  have hHB : H (w.heap.size + 1 + 1) = none := hH.isNone (by omega)
  have hHR : H (w.heap.size + 1) = none := hH.isNone (by omega)
  clear hW0 hP0 hR0 hB0
  go_loopw [4] (fun i wr => ∃ (k : Nat) (u : Value) (xs : List Value) (K : Kn), i = .int .i64 k ∧ k ≤ l.length ∧ ExO 45 H W0 wr (w.heap.size + 1 + 1) (.mk o n s l) k u xs K) (fun i _ => l.length - (intOf i).toNat)
  case atStart => exact ⟨0, _, _, _, rfl, Nat.zero_le _, HS0.out⟩
  case round =>
    obtain ⟨k, u, xs, K, rfl, hk, hS⟩ := hrel
    have HS := Lib.hid hS
    clear hS
    have p3 : wr.cell? ⟨w.heap.size, 3, none⟩ = some (.slice a l.length cap) := by
      rw [HS.out.below.cell (p := ⟨w.heap.size, 3, none⟩) (by show w.heap.size < _; omega)]; simp [World.cell?, HP0.out]
    by_cases hkl : k < l.length
    · obtain ⟨b, off, ax, cx, rfl, c0, c1, c2, c3, hx⟩ := HU.out.at hkl
      have hxe : ∃ x, l[k] = x := ⟨_, rfl⟩
      obtain ⟨x, hxe⟩ := hxe
      have hpx : x.parts ≤ 1000000000000 := by have := getElem_parts l k hkl; rw [hxe] at this; omega
      have hmem : x ∈ l := by rw [← hxe]; exact List.getElem_mem hkl
      rw [hxe] at c0 c1 c2 c3 hx
      have c0 := HS.out.isin.cell (HS.out.le.cell c0)
      have c1 := HS.out.isin.cell (HS.out.le.cell c1)
      have c2 := HS.out.isin.cell (HS.out.le.cell c2)
      have c3 := HS.out.isin.cell (HS.out.le.cell c3)
      have hx := hx.le HS.out.le
      have q3 : wr.drew.cell? ⟨w.heap.size + 1 + 1, 3, none⟩ = some u := HS.out.cells.2.2.2
      have hSD := HS.out.drew
      have HXE := Lib.hid hxe
      clear hxe
      go_wp2_with fail
      go_region_law (first | (go_simp; go_at_call 28; refine (IH.out x hmem _ K hx hpx _ hSD.isin).mono ?_; rintro r wc ⟨v', K2, rfl, hv2, hst⟩; obtain ⟨u2, rfl, hu2⟩ := hv2; obtain ⟨ax2, cx2, rfl⟩ := hu2.len; have hS2 := ExO.next hSD hst; have q5 := hS2.cells.2.2.2; have q6 := fun o => (hS2.alloc o).cells.2.2.2) | (refine step_append_lies _ (by rfl) _ _ _ (by rfl) (w.heap.size + 1 + 1 + 1) 45 i0 _ 4 64 Tryd.underlying32 hi0 hz0 hz1 hz2 rfl (by omega) u k xs (by rfl) (ExO.row (ExO.alloc (by assumption) _)) ⟨_, 0, none⟩ 1 1 [.string x.op, .int .i64 x.n, .string x.s, .slice ax2 x.l.length cx2] (by rfl) (by rfl) (by exact World.news_of_block (heap_alloc_new _ _)) (by simp [Value.oneCell']) (by omega) (by unfold maxLen; omega) (by omega) (ExO.blt (ExO.alloc (by assumption) _)) _ rfl ?_; intro gg cap' w3 hown hgrow hat hltg; obtain ⟨hf1, hf2, hf3⟩ := ExO.step (ExO.alloc (by assumption) _) hkl HXE.out hHB hu2 hown hgrow hat))
      all_goals generalize World.setCell _ _ _ = W at hf3 ⊢
      all_goals go_wp2_with fail
      all_goals go_roundw
      all_goals first | exact ⟨k + 1, _, _, _, by go_num, by omega, hf3⟩ | (simp [intOf]; omega)
    · obtain rfl : k = l.length := by omega
      obtain ⟨au, cu, rfl, _⟩ := own_len HS.out.row
      have hxs : XsAt K (List.take l.length l) xs := HS.out.xs
      rw [List.take_of_length_le (Nat.le_refl _)] at hxs
      obtain ⟨K', hle, hin, hv, hfr⟩ := exsV_of_own HS.out.isin HS.out.row hxs HS.out.noR
      obtain ⟨q0, q1, q2, q3⟩ := HS.out.cells
      simp only [Ex.op, Ex.n, Ex.s] at q0 q1 q2
      have hR1 : wr.heap[w.heap.size + 1]? = some (.cells #[.string ⟨#[]⟩, .int .i64 0, .string ⟨#[]⟩, .slice none 0 0] 45 (0, 0)) := by rw [HS.out.below.block _ (by omega)]; exact HR0.out
      obtain ⟨r0, r1, r2, r3, f0, f1, f2, f3, _⟩ := cells4_of hR1
      have hR2 := set4_of hR1 (.string o) (.int .i64 n) (.string s) (.slice au l.length cu)
      have HR2 := Lib.hid hR2
      clear hR1 hR2
      have hKR : K' (w.heap.size + 1) = none := by rw [hfr _ (by omega), HS.out.fresh _ (by omega)]; exact hHR
      have hstep : Kn.Step H w K' ((((wr.setCell ⟨w.heap.size + 1, 0, none⟩ (.string o)).setCell ⟨w.heap.size + 1, 1, none⟩ (.int .i64 n)).setCell ⟨w.heap.size + 1, 2, none⟩ (.string s)).setCell ⟨w.heap.size + 1, 3, none⟩ (.slice au l.length cu)) := by
        have hbw : Below w.heap.size w wr := HW0.out.trans (HS.out.below.mono (by omega))
        refine ⟨Kn.le_trans HS.out.le hle, fun b hb => (hfr b (by omega)).trans (HS.out.fresh b (by omega)), ?_, ?_⟩
        · exact (((hin.setCell (a := ⟨w.heap.size + 1, 0, none⟩) hKR _).setCell (a := ⟨w.heap.size + 1, 1, none⟩) hKR _).setCell (a := ⟨w.heap.size + 1, 2, none⟩) hKR _).setCell (a := ⟨w.heap.size + 1, 3, none⟩) hKR _
        · exact (((hbw.setCell (p := ⟨w.heap.size + 1, 0, none⟩) (Nat.le_succ _) _).setCell (p := ⟨w.heap.size + 1, 1, none⟩) (Nat.le_succ _) _).setCell (p := ⟨w.heap.size + 1, 2, none⟩) (Nat.le_succ _) _).setCell (p := ⟨w.heap.size + 1, 3, none⟩) (Nat.le_succ _) _
      have HST := Lib.hid hstep
      have HV := Lib.hid hv
      clear hstep hv hin hfr hle
      go_wp2_with fail
      obtain ⟨e0, e1, e2, e3, _⟩ := cells4_of HR2.out
      refine bodyPost_ret (v := .agg #[.string o, .int .i64 n, .string s, .slice au l.length cu]) (by simp [results, Tryd.results28, go_sem, e0, e1, e2, e3]) rfl ?_
      exact ⟨_, K', rfl, ⟨_, rfl, HV.out⟩, HST.out⟩
end Go.Proofs.YthihoafemahgmaaDoor
namespace Go.Proofs.YthihoafemahgmaaDoor
open Go.RowKit Mx
theorem xs_mono : ∀ (K K' : Kn) (l : List Ex) (xs : List Value), Kn.le K K' → XsAt K l xs → XsAt K' l xs := fun _ _ _ _ h k => k.le h
set_option maxHeartbeats 4000000 in
set_option maxRecDepth 100000 in
theorem exprsOf_any (l : List Ex) (v : Value) (H : Kn) (hv : ExsV H l v) (hp : Ex.partsL l ≤ 1000000000000) (w : World) (hH : H.In w) :
    Calls Tryd.prog 27 #[v] w fun r w' => ∃ v' K, r = .returned v' ∧ ExsV K l v' ∧ Kn.Step H w K w' := by
  obtain ⟨a, cap, rfl⟩ := hv.len
  have hlp := len_partsL l
  have HU := Lib.hid hv
  clear hv
  go_enter Tryd.func27, Tryd.ntmps27
  go_wp2_with fail
  have HS0 := Lib.hid (show RwO 45 4 XsAt H w w w.heap.size l 0 (.slice none 0 0) [] H from
    ⟨Kn.le_refl H, fun _ _ => rfl, hH, Below.refl _ _, Nat.le_refl _, World.ownsRow_nil _ _ _ _, rfl, fun g hg => by simp [Value.ownBlock] at hg⟩)
  go_loopw [3, 4] (fun u i wr => ∃ (k : Nat) (xs : List Value) (K : Kn), i = .int .i64 k ∧ k ≤ l.length ∧ RwO 45 4 XsAt H w wr w.heap.size l k u xs K) (fun _ i _ => l.length - (intOf i).toNat)
  case atStart => exact ⟨0, _, _, rfl, Nat.zero_le _, HS0.out⟩
  case round =>
    obtain ⟨k, xs, K, rfl, hk, hS⟩ := hrel
    have HS := Lib.hid hS
    obtain ⟨au, cu, rfl, _⟩ := own_len hS.row
    clear hS
    by_cases hkl : k < l.length
    · obtain ⟨b, off, ax, cx, rfl, c0, c1, c2, c3, hx⟩ := HU.out.at hkl
      have hpx : l[k].parts ≤ 1000000000000 := by have := getElem_parts l k hkl; omega
      have c0 := HS.out.isin.cell (HS.out.le.cell c0)
      have c1 := HS.out.isin.cell (HS.out.le.cell c1)
      have c2 := HS.out.isin.cell (HS.out.le.cell c2)
      have c3 := HS.out.isin.cell (HS.out.le.cell c3)
      have hx := hx.le HS.out.le
      have HT := Lib.hid (take_snoc l k hkl)
      generalize l[k] = x at *
      go_wp2_with fail
      refine (exprOf_any x _ K hx hpx _ HS.out.isin).mono ?_
      rintro r wc ⟨v', K2, rfl, hv2, hst⟩
      obtain ⟨u2, rfl, hu2⟩ := hv2
      obtain ⟨ax2, cx2, rfl⟩ := hu2.len
      have HS2 := Lib.hid ((RwO.next xs_mono HS.out hst).alloc (.cells #[.string x.op, .int .i64 x.n, .string x.s, .slice ax2 x.l.length cx2] 45))
      have HU2 := Lib.hid hu2
      clear hst hu2
      go_wp2_with (at_builtin; refine app1L 32 45 4 64 _ Tryd.underlying32 Tryd.infoEx rfl (by decide) _ _ rfl rfl w.heap.size _ _ _ rfl HS2.out.row ⟨wc.heap.size, 0, none⟩ 1 [.string x.op, .int .i64 x.n, .string x.s, .slice ax2 x.l.length cx2] rfl rfl ?c1 ?c2 ?c3 ?c4 ?c5 ?_)
      case c1 => exact cells4 _ _ _ _ _ _
      case c2 => simp [Value.oneCell']
      case c3 => omega
      case c4 => omega
      case c5 => exact HS2.out.size
      intro g cap' w3 ho hg3 hat
      have HS3 := Lib.hid (RwO.step (n' := 1) HS2.out (by rw [HT.out]; exact HS2.out.xs.append ⟨ax2, cx2, [], rfl, HU2.out, rfl⟩) ho hg3 (by rw [World.size_alloc]; exact hat))
      go_wp2_with fail
      go_roundw
      case rel => exact ⟨k + 1, _, K2, by go_num, by omega, HS3.out⟩
      case measure => simp [intOf]; omega
    · obtain rfl : k = l.length := by omega
      have hxs : XsAt K (List.take l.length l) xs := HS.out.xs
      rw [List.take_of_length_le (Nat.le_refl _)] at hxs
      obtain ⟨K', hle, hin, hv, hfr⟩ := exsV_of_own HS.out.isin HS.out.row hxs HS.out.noR
      have HST := Lib.hid (show Kn.Step H w K' wr from ⟨Kn.le_trans HS.out.le hle, fun b hb => (hfr b hb).trans (HS.out.fresh b hb), hin, HS.out.below⟩)
      have HV := Lib.hid hv
      clear hv hin hfr hle
      go_wp2_with fail
      go_ret
      exact ⟨_, K', rfl, HV.out, HST.out⟩
theorem Tryd.infoVr : (Tryd.prog.info? 78).map (fun i => (i.zero, i.size, i.bytes)) = some (some (.agg #[.string ⟨#[]⟩, .int .i64 0]), 2, 24) := by kernel_rfl
set_option maxHeartbeats 4000000 in
set_option maxRecDepth 100000 in
theorem varsOf_any (l : List Vr) (v : Value) (H : Kn) (hv : VrsV H l v) (hp : l.length ≤ 1000000000000) (w : World) (hH : H.In w) :
    Calls Tryd.prog 26 #[v] w fun r w' => ∃ v' K, r = .returned v' ∧ VrsV K l v' ∧ Kn.Step H w K w' := by
  obtain ⟨a, cap, rfl⟩ := hv.len
  have HU := Lib.hid hv
  clear hv
  obtain ⟨i0, hi0, hz0, hz1, hz2⟩ := info_parts Tryd.infoVr
  go_enter Tryd.func26, Tryd.ntmps26
  go_wp2_with fail
  have HS0 := Lib.hid (show RwO 78 2 VsX H w w w.heap.size l 0 (.slice none 0 0) [] H from
    ⟨Kn.le_refl H, fun _ _ => rfl, hH, Below.refl _ _, Nat.le_refl _, World.ownsRow_nil _ _ _ _, rfl, fun g hg => by simp [Value.ownBlock] at hg⟩)
  go_loopw [3, 4] (fun u i wr => ∃ (k : Nat) (xs : List Value), i = .int .i64 k ∧ k ≤ l.length ∧ RwO 78 2 VsX H w wr w.heap.size l k u xs H) (fun _ i _ => l.length - (intOf i).toNat)
  case atStart => exact ⟨0, _, rfl, Nat.zero_le _, HS0.out⟩
  case round =>
    obtain ⟨k, xs, rfl, hk, hS⟩ := hrel
    have HS := Lib.hid hS
    obtain ⟨au, cu, rfl, _⟩ := own_len hS.row
    clear hS
    by_cases hkl : k < l.length
    · obtain ⟨b, off, rfl, _, c0, c1⟩ := SlV.at HU.out hkl
      have c0 := HS.out.isin.cell c0
      have c1 := HS.out.isin.cell c1
      simp only [Nat.add_zero] at c0
      have c0 : wr.drew.cell? ⟨b, off + k * 2, none⟩ = some (.string l[k].name) := c0
      have c1 : wr.drew.cell? ⟨b, off + k * 2 + 1, none⟩ = some (.int .i64 l[k].kind) := c1
      have HT := Lib.hid (take_snoc l k hkl)
      generalize l[k] = x at *
      have HSD := HS.out.drew
      go_wp2_with fail
      go_region_law (refine step_append_lies _ (by rfl) _ _ _ (by rfl) w.heap.size 78 i0 _ 2 24 Tryd.underlying30 hi0 hz0 hz1 hz2 rfl (by omega) _ k xs (by rfl) (RwO.row (RwO.alloc HSD _)) ⟨_, 0, none⟩ 1 1 [.string x.name, .int .i64 x.kind] (by rfl) (by rfl) (by exact World.news_of_block (heap_alloc_new _ _)) (by simp [Value.oneCell']) (by omega) (by unfold maxLen; omega) (by omega) (RwO.size (RwO.alloc HSD _)) _ rfl ?_; intro gg cap' w3 hown hgrow hat hltg; have hf3 := RwO.step (n' := 1) (RwO.alloc HSD _) (by rw [HT.out]; have h1 := HS.out.xs; unfold VsX at h1 ⊢; rw [h1]; simp) hown hgrow hat)
      all_goals go_wp2_with fail
      all_goals go_roundw
      all_goals first | exact ⟨k + 1, _, by go_num, by omega, hf3⟩ | (simp [intOf]; omega)
    · obtain rfl : k = l.length := by omega
      have hxs : VsX H (List.take l.length l) xs := HS.out.xs
      rw [List.take_of_length_le (Nat.le_refl _)] at hxs
      obtain ⟨K', hle, hin, hv, hfr⟩ := slv_of_own (R := fun _ => VrC) HS.out.isin HS.out.row HS.out.noR (fun K' _ => VsX.at (K' := K') hxs)
      have HST := Lib.hid (show Kn.Step H w K' wr from ⟨Kn.le_trans HS.out.le hle, fun b hb => (hfr b hb).trans (HS.out.fresh b hb), hin, HS.out.below⟩)
      have HV := Lib.hid hv
      clear hv hin hfr hle
      go_wp2_with fail
      go_ret
      exact ⟨_, K', rfl, HV.out, HST.out⟩
end Go.Proofs.YthihoafemahgmaaDoor
namespace Go.Proofs.YthihoafemahgmaaDoor
open Go.RowKit Mx
theorem weightL_take : ∀ (l : List Ex) (k : Nat) (h : k < l.length), Ex.weightL (l.take (k + 1)) = Ex.weightL (l.take k) + l[k].weight
  | e :: l, 0, _ => by simp [Ex.weightL]
  | e :: l, k + 1, h => by
    have := weightL_take l k (by simpa using h)
    simp only [List.take_succ_cons, Ex.weightL, List.getElem_cons_succ]
    omega
theorem weightL_le : ∀ (l : List Ex) (k : Nat), Ex.weightL (l.take k) ≤ Ex.weightL l
  | [], k => by simp
  | e :: l, 0 => by simp [Ex.weightL]
  | e :: l, k + 1 => by
    have := weightL_le l k
    simp only [List.take_succ_cons, Ex.weightL]
    omega
theorem ex_weight (e : Ex) : e.weight = 1 + e.s.size + Ex.weightL e.l := by cases e; simp only [Ex.weight, Ex.l, Ex.s]
theorem len_weightL : ∀ l : List Ex, l.length ≤ Ex.weightL l
  | [] => Nat.le_refl _
  | e :: l => by have := len_weightL l; have := ex_weight e; simp only [Ex.weightL, List.length_cons]; omega
theorem weightL_append : ∀ (a b : List Ex), Ex.weightL (a ++ b) = Ex.weightL a + Ex.weightL b
  | [], b => by simp [Ex.weightL]
  | x :: a, b => by simp only [List.cons_append, Ex.weightL, weightL_append a b]; omega
theorem partsL_le_w {l : List Ex} (h : ∀ e ∈ l, e.parts ≤ e.weight) : Ex.partsL l ≤ Ex.weightL l := by
  induction l with
  | nil => exact Nat.le_refl _
  | cons e l ih =>
    simp only [Ex.partsL, Ex.weightL]
    have := h e (List.mem_cons_self ..)
    have := ih (fun x hx => h x (List.mem_cons_of_mem _ hx))
    omega
theorem parts_le_weight : ∀ e : Ex, e.parts ≤ e.weight := by
  refine Ex.ind fun o n s l ih => ?_
  simp only [Ex.parts, Ex.weight]
  have := partsL_le_w ih
  omega
theorem partsL_le_weightL (l : List Ex) : Ex.partsL l ≤ Ex.weightL l := partsL_le_w fun e _ => parts_le_weight e
set_option maxHeartbeats 1000000 in
set_option maxRecDepth 100000 in
theorem weight_any (H : Kn) : ∀ (e : Ex) (v : Value), ExV H e v → e.weight ≤ 1000000000000000000 → ∀ w : World, H.In w →
    Calls Tryd.prog 14 #[v] w fun r w' => r = .returned (.int .i64 e.weight) ∧ Below w.heap.size w w' := by
  refine Ex.ind fun o n s l ih v hv hp w hH => ?_
  obtain ⟨u, rfl, hu⟩ := hv
  simp only [Ex.op, Ex.n, Ex.s, Ex.l] at hu ⊢
  simp only [Ex.weight] at hp ⊢
  obtain ⟨a, cap, rfl⟩ := hu.len
  have HU := Lib.hid hu
  have IH := Lib.hid ih
  have hll := len_weightL l
  clear hu ih
  go_enter Tryd.func14, Tryd.ntmps14
  go_wp2_with fail
  have hW1 : Below w.heap.size w (w.alloc (.cells #[.string o, .int .i64 n, .string s, .slice a l.length cap] 51)) := (Below.refl _ _).alloc (Nat.le_refl _) _
  have hP1 : (w.alloc (.cells #[.string o, .int .i64 n, .string s, .slice a l.length cap] 51)).cell? ⟨w.heap.size, 3, none⟩ = some (.slice a l.length cap) := by rw [World.cell?_alloc_new]; rfl
  have hlt1 : w.heap.size < (w.alloc (.cells #[.string o, .int .i64 n, .string s, .slice a l.length cap] 51)).heap.size := by simp
  generalize w.alloc (.cells #[.string o, .int .i64 n, .string s, .slice a l.length cap] 51) = W at *
  have HW1 := Lib.hid hW1
  have HP1 := Lib.hid hP1
  clear hW1 hP1
  go_loopw [3, 4] (fun c i wr => ∃ k : Nat, i = .int .i64 k ∧ k ≤ l.length ∧ c = .int .i64 ((1 + s.size + Ex.weightL (l.take k) : Nat) : Int) ∧ Below W.heap.size W wr) (fun _ i _ => l.length - (intOf i).toNat)
  case atStart => exact ⟨0, rfl, Nat.zero_le _, rfl, Below.refl _ _⟩
  case round =>
    obtain ⟨k, rfl, hk, rfl, hb⟩ := hrel
    have HB := Lib.hid hb
    clear hb
    have hpl := weightL_le l k
    have p3 : wr.cell? ⟨w.heap.size, 3, none⟩ = some (.slice a l.length cap) := by rw [HB.out.cell (p := ⟨w.heap.size, 3, none⟩) hlt1]; exact HP1.out
    have hBW : Below w.heap.size w wr := HW1.out.trans (HB.out.mono HW1.out.size)
    by_cases hkl : k < l.length
    · obtain ⟨b, off, ax, cx, rfl, c0, c1, c2, c3, hx⟩ := HU.out.at hkl
      have hHr := hH.below hBW
      have c0 := hHr.cell c0
      have c1 := hHr.cell c1
      have c2 := hHr.cell c2
      have c3 := hHr.cell c3
      have hps := weightL_take l k hkl
      have hpl2 := weightL_le l (k + 1)
      have PS := Lib.hid hps
      have hpx : l[k].weight ≤ 1000000000000000000 := by omega
      have hmem := List.getElem_mem hkl
      generalize l[k] = x at *
      have hw1 : 1 + s.size + Ex.weightL (l.take k) + x.weight ≤ 1000000000000000000 := by omega
      clear hps
      go_wp2_with fail
      refine (IH.out x hmem _ hx hpx _ hHr).mono ?_
      rintro r w2 ⟨rfl, hb2⟩
      have hW2 : Below W.heap.size W w2 := HB.out.trans (hb2.mono HB.out.size)
      go_wp2_with fail
      go_roundw
      case rel => exact ⟨k + 1, by go_num, by omega, by rw [PS.out]; go_num, hW2⟩
      case measure => simp [intOf]; omega
    · go_wp2_with fail
      go_ret
      exact ⟨ret_int (by rw [List.take_of_length_le (by omega)]), hBW⟩
theorem Tryd.infoREx : (Tryd.prog.info? 51).map (fun i => (i.zero, i.size, i.bytes)) = some (some (.agg #[.string ⟨#[]⟩, .int .i64 0, .string ⟨#[]⟩, .slice none 0 0]), 4, 64) := by kernel_rfl
theorem rwo_append {t T : TypeId} {z : Value} (ht : Tryd.prog.underlying t = some (.slice T)) (hinfo : (Tryd.prog.info? T).map (fun i => (i.zero, i.size, i.bytes)) = some (some z, 4, 64)) (hz : z.cells.size = 4)
    {H K : Kn} {w0 wr : World} {base : Nat} {L : List Ex} {done : Nat} {u : Value} {xs : List Value} (hS : RwO T 4 XsAt H w0 wr base L done u xs K) {l : List Ex} {a : Option Addr} {c : Nat} (hv : ExsV K l (.slice a l.length c)) (hL : L.take (done + l.length) = L.take done ++ l) (hb : done + l.length ≤ 1000000000000) :
    ∃ v' W' xs', (∀ ty, (Builtin.append_ #[t, t] ty #[u, .slice a l.length c]).run Tryd.prog wr = .ok v' W') ∧ RwO T 4 XsAt H w0 W' base L (done + l.length) v' xs' K := by
  obtain ⟨i, hi, h0, h2, h3⟩ := info_parts hinfo
  by_cases hl : l = []
  · subst hl
    exact ⟨u, wr, xs, fun ty => run_append_empty t T i ht hi (by rw [← h2] at *; exact hS.row) a c ty, hS⟩
  · rcases hv with ⟨h, _⟩ | ⟨b, off, cap, he, hc1, hc2, hc3⟩
    · exact absurd h hl
    · cases he
      obtain ⟨ys, hy1, hy2⟩ := hc3.xs
      have hlen : 0 < l.length := List.length_pos_iff.2 hl
      have hrun := fun ty => run_append_lies (P := Tryd.prog) wr t ty base T i _ 4 64 ht hi h0 h2 h3 hz (by omega) u done xs hS.row ⟨b, off, none⟩ l.length c ys hy1.len (fun j v hj => by rw [addr_add']; exact hS.isin.cell (hy2 j v hj)) hy1.one hlen (by unfold maxLen; omega) (by omega) hS.size wr.heap.size rfl
      obtain ⟨g, cap', W', e1, e2, e3, e4, e5⟩ := hrun 0
      refine ⟨_, W', xs ++ ys, fun ty => ?_, hS.step (by rw [hL]; exact hS.xs.append hy1) e2 e3 e4⟩
      exact e1
set_option maxHeartbeats 4000000 in
set_option maxRecDepth 100000 in
theorem rterms_any (H : Kn) (p : Pr) (vi vo vl va vc : Value) (hp : PrP H p vi vo vl va vc) (hsz : p.terms.length ≤ 1000000000) (w : World) (hH : H.In w) :
    Calls Tryd.prog 13 #[.agg #[vi, vo, vl, va, vc]] w fun r w' => ∃ v K, r = .returned v ∧ ExsV K p.terms v ∧ Kn.Step H w K w' := by
  obtain ⟨h1, h2, h3, h4, h5⟩ := hp
  obtain ⟨ai, ci, rfl⟩ := h1.len
  obtain ⟨ao, co, rfl⟩ := h2.len
  obtain ⟨al, cl, rfl⟩ := h3.len
  obtain ⟨aa, ca, rfl⟩ := h4.len
  obtain ⟨ac, cc, rfl⟩ := h5.len
  have hlen : p.terms.length = p.fl.length + p.as.length + p.cs.length := by simp [Pr.terms]; omega
  have H3 := Lib.hid h3
  have H4 := Lib.hid h4
  have H5 := Lib.hid h5
  clear h1 h2 h3 h4 h5
  go_enter Tryd.func13, Tryd.ntmps13
  go_wp2_with fail
  have hq : ∀ i, (w.alloc (.cells #[.slice ai p.ins.length ci, .slice ao p.outs.length co, .slice al p.fl.length cl, .slice aa p.as.length ca, .slice ac p.cs.length cc] 27)).cell? ⟨w.heap.size, i, none⟩ = (#[.slice ai p.ins.length ci, .slice ao p.outs.length co, .slice al p.fl.length cl, .slice aa p.as.length ca, .slice ac p.cs.length cc] : Array Value)[i]? := fun i => World.cell?_alloc_new _ _ _ _
  have hb0 : Below w.heap.size w (w.alloc (.cells #[.slice ai p.ins.length ci, .slice ao p.outs.length co, .slice al p.fl.length cl, .slice aa p.as.length ca, .slice ac p.cs.length cc] 27)) := (Below.refl _ _).alloc (Nat.le_refl _) _
  have hlt1 : w.heap.size < (w.alloc (.cells #[.slice ai p.ins.length ci, .slice ao p.outs.length co, .slice al p.fl.length cl, .slice aa p.as.length ca, .slice ac p.cs.length cc] 27)).heap.size := by simp
  generalize w.alloc (.cells #[.slice ai p.ins.length ci, .slice ao p.outs.length co, .slice al p.fl.length cl, .slice aa p.as.length ca, .slice ac p.cs.length cc] 27) = W1 at *
  have q2 := Lib.hid (show W1.cell? ⟨w.heap.size, 2, none⟩ = some (.slice al p.fl.length cl) from hq 2)
  have q3 := Lib.hid (show W1.cell? ⟨w.heap.size, 3, none⟩ = some (.slice aa p.as.length ca) from hq 3)
  have q4 := Lib.hid (show W1.cell? ⟨w.heap.size, 4, none⟩ = some (.slice ac p.cs.length cc) from hq 4)
  have HB0 := Lib.hid hb0
  have HS0 := Lib.hid (show RwO 51 4 XsAt H W1 W1 W1.heap.size p.terms 0 (.slice none 0 0) [] H from
    ⟨Kn.le_refl H, fun _ _ => rfl, hH.below hb0, Below.refl _ _, Nat.le_refl _, World.ownsRow_nil _ _ _ _, rfl, fun g hg => by simp [Value.ownBlock] at hg⟩)
  clear hq hb0
  go_loopw [3, 4] (fun u i wr => ∃ (k : Nat) (xs : List Value), i = .int .i64 k ∧ k ≤ p.fl.length ∧ RwO 51 4 XsAt H W1 wr W1.heap.size p.terms k u xs H) (fun _ i _ => p.fl.length - (intOf i).toNat)
  case atStart => exact ⟨0, _, rfl, Nat.zero_le _, HS0.out⟩
  case round =>
    obtain ⟨k, xs, rfl, hk, hS⟩ := hrel
    have HS := Lib.hid hS
    obtain ⟨au, cu, rfl, _⟩ := own_len hS.row
    have hbl := hS.below
    clear hS
    have e2 : wr.cell? ⟨w.heap.size, 2, none⟩ = some (.slice al p.fl.length cl) := by rw [hbl.cell (p := ⟨w.heap.size, 2, none⟩) hlt1]; exact q2.out
    have e3 : wr.cell? ⟨w.heap.size, 3, none⟩ = some (.slice aa p.as.length ca) := by rw [hbl.cell (p := ⟨w.heap.size, 3, none⟩) hlt1]; exact q3.out
    have e4 : wr.cell? ⟨w.heap.size, 4, none⟩ = some (.slice ac p.cs.length cc) := by rw [hbl.cell (p := ⟨w.heap.size, 4, none⟩) hlt1]; exact q4.out
    clear hbl
    by_cases hkl : k < p.fl.length
    · obtain ⟨b, off, cap0, he, _, _, hcs⟩ := FlsV.cell H3.out (fun e => by rw [e] at hkl; simp at hkl)
      cases he
      obtain ⟨ax, cx, d0, d1, d2, d3, d4, d5, hx⟩ := hcs k hkl
      have d2 := HS.out.isin.cell d2
      have d3 := HS.out.isin.cell d3
      have d4 := HS.out.isin.cell d4
      have d5 := HS.out.isin.cell d5
      have hxe : ∃ x, p.fl[k] = x := ⟨_, rfl⟩
      obtain ⟨x, hxe⟩ := hxe
      have hT : p.terms.take (k + 1) = p.terms.take k ++ [x.e] := by
        have hkt : k < p.terms.length := by omega
        rw [take_snoc _ _ hkt]
        congr 2
        simp only [Pr.terms, List.append_assoc]
        rw [List.getElem_append_left (by simpa using hkl)]
        simp [hxe]
      rw [hxe] at d2 d3 d4 d5 hx
      have HT := Lib.hid hT
      have HX := Lib.hid hx
      clear hxe hcs hx hT d0 d1
      have HS2 := Lib.hid (HS.out.alloc (.cells #[.string x.e.op, .int .i64 x.e.n, .string x.e.s, .slice ax x.e.l.length cx] 51))
      go_wp2_with (at_builtin; refine app1L 25 51 4 64 _ Tryd.underlying25 Tryd.infoREx rfl (by decide) _ _ rfl rfl W1.heap.size _ _ _ rfl HS2.out.row ⟨wr.heap.size, 0, none⟩ 1 [.string x.e.op, .int .i64 x.e.n, .string x.e.s, .slice ax x.e.l.length cx] rfl rfl ?c1 ?c2 ?c3 ?c4 ?c5 ?_)
      case c1 => exact cells4 _ _ _ _ _ _
      case c2 => simp [Value.oneCell']
      case c3 => omega
      case c4 => omega
      case c5 => exact HS2.out.size
      intro g cap' w3 ho hg3 hat
      have HS3 := Lib.hid (RwO.step (n' := 1) HS2.out (by rw [HT.out]; exact HS2.out.xs.append ⟨ax, cx, [], rfl, HX.out, rfl⟩) ho hg3 (by rw [World.size_alloc]; exact hat))
      go_wp2_with fail
      go_roundw
      case rel => exact ⟨k + 1, _, by go_num, by omega, HS3.out⟩
      case measure => simp [intOf]; omega
    · obtain rfl : k = p.fl.length := by omega
      have t1 : p.terms.take (p.fl.length + p.as.length) = p.terms.take p.fl.length ++ p.as := by
        unfold Pr.terms
        rw [List.append_assoc]
        have e1 : p.fl.length = (p.fl.map (·.e)).length := by simp
        rw [e1, List.take_length_add_append, List.take_left]
        rw [List.take_left]
      have t2 : p.terms.take (p.fl.length + p.as.length + p.cs.length) = p.terms.take (p.fl.length + p.as.length) ++ p.cs := by
        rw [t1, List.take_of_length_le (by omega)]
        unfold Pr.terms
        have e1 : p.fl.length = (p.fl.map (·.e)).length := by simp
        rw [e1, List.append_assoc, List.take_left, List.append_assoc]
      obtain ⟨v2, w2, xs2, hr2, hS2⟩ := rwo_append Tryd.underlying25 Tryd.infoREx rfl HS.out H4.out t1 (by omega)
      obtain ⟨a2, c2, rfl, _⟩ := own_len hS2.row
      obtain ⟨v3, w3, xs3, hr3, hS3⟩ := rwo_append Tryd.underlying25 Tryd.infoREx rfl hS2 H5.out t2 (by omega)
      obtain ⟨a3, c3, rfl, _⟩ := own_len hS3.row
      have g4 : w2.cell? ⟨w.heap.size, 4, none⟩ = some (.slice ac p.cs.length cc) := by rw [hS2.below.cell (p := ⟨w.heap.size, 4, none⟩) hlt1]; exact q4.out
      have hxs := hS3.xs
      rw [List.take_of_length_le (by omega)] at hxs
      obtain ⟨K', hle, hin, hv, hfr⟩ := exsV_of_own (l := p.terms) hS3.isin (by rw [hlen]; exact hS3.row) hxs hS3.noR
      have HST := Lib.hid (show Kn.Step H w K' w3 from ⟨hle, fun b hb => hfr b (by have := HB0.out.size; omega), hin, HB0.out.trans (hS3.below.mono HB0.out.size)⟩)
      have HV := Lib.hid hv
      clear hv hin hfr hle hxs hS2 hS3 t1 t2
      go_wp2_with (at_builtin; first | refine wp_append_run rfl _ _ _ _ rfl _ _ rfl rfl _ _ hr2 ?_ | refine wp_append_run rfl _ _ _ _ rfl _ _ rfl rfl _ _ hr3 ?_)
      go_ret
      exact ⟨_, K', rfl, HV.out, HST.out⟩
end Go.Proofs.YthihoafemahgmaaDoor
namespace Go.Proofs.YthihoafemahgmaaDoor
open Go.RowKit Mx
def heavy (p : Pr) : Bool := decide (1500 < Ex.weightL p.terms) || decide (100 < p.fl.length) || decide (40 < p.ins.length)
def heavyI (p : Pr) : Int := if heavy p then 1 else 0
set_option maxHeartbeats 4000000 in
set_option maxRecDepth 100000 in
theorem heavy_any (H : Kn) (p : Pr) (vi vo vl va vc : Value) (hp : PrP H p vi vo vl va vc) (hsz : Ex.weightL p.terms ≤ 1000000000 ∧ p.fl.length ≤ 1000000000 ∧ p.ins.length ≤ 1000000000) (w : World) (hH : H.In w) :
    Calls Tryd.prog 5 #[.agg #[vi, vo, vl, va, vc]] w fun r w' => r = .returned (.int .i64 (heavyI p)) ∧ Below w.heap.size w w' := by
  have HP := Lib.hid hp
  obtain ⟨h1, h2, h3, h4, h5⟩ := hp
  obtain ⟨ai, ci, rfl⟩ := h1.len
  obtain ⟨ao, co, rfl⟩ := h2.len
  obtain ⟨al, cl, rfl⟩ := h3.len
  obtain ⟨aa, ca, rfl⟩ := h4.len
  obtain ⟨ac, cc, rfl⟩ := h5.len
  clear h1 h2 h3 h4 h5
  obtain ⟨s1, s2, s3⟩ := hsz
  have hll := len_weightL p.terms
  go_enter Tryd.func5, Tryd.ntmps5
  have hq : ∀ i, (w.alloc (.cells #[.slice ai p.ins.length ci, .slice ao p.outs.length co, .slice al p.fl.length cl, .slice aa p.as.length ca, .slice ac p.cs.length cc] 27)).cell? ⟨w.heap.size, i, none⟩ = (#[.slice ai p.ins.length ci, .slice ao p.outs.length co, .slice al p.fl.length cl, .slice aa p.as.length ca, .slice ac p.cs.length cc] : Array Value)[i]? := fun i => World.cell?_alloc_new _ _ _ _
  have hb0 : Below w.heap.size w (w.alloc (.cells #[.slice ai p.ins.length ci, .slice ao p.outs.length co, .slice al p.fl.length cl, .slice aa p.as.length ca, .slice ac p.cs.length cc] 27)) := (Below.refl _ _).alloc (Nat.le_refl _) _
  have hlt1 : w.heap.size < (w.alloc (.cells #[.slice ai p.ins.length ci, .slice ao p.outs.length co, .slice al p.fl.length cl, .slice aa p.as.length ca, .slice ac p.cs.length cc] 27)).heap.size := by simp
  go_wp2_with fail
  generalize w.alloc (.cells #[.slice ai p.ins.length ci, .slice ao p.outs.length co, .slice al p.fl.length cl, .slice aa p.as.length ca, .slice ac p.cs.length cc] 27) = W1 at *
  have HQ := Lib.hid hq
  have HB0 := Lib.hid hb0
  clear hq hb0
  refine (rterms_any H p _ _ _ _ _ HP.out (by omega) W1 (hH.below HB0.out)).mono ?_
  rintro r w2 ⟨v, K, rfl, hv, hst⟩
  obtain ⟨a, c, rfl⟩ := hv.len
  have HV := Lib.hid hv
  have HST := Lib.hid hst
  have HB2 := Lib.hid (HB0.out.trans (hst.below.mono HB0.out.size))
  have q0 := Lib.hid (show w2.cell? ⟨w.heap.size, 0, none⟩ = some (.slice ai p.ins.length ci) by rw [hst.below.cell (p := ⟨w.heap.size, 0, none⟩) hlt1]; exact HQ.out 0)
  have q2 := Lib.hid (show w2.cell? ⟨w.heap.size, 2, none⟩ = some (.slice al p.fl.length cl) by rw [hst.below.cell (p := ⟨w.heap.size, 2, none⟩) hlt1]; exact HQ.out 2)
  have hlt2 : w.heap.size < w2.heap.size := Nat.lt_of_lt_of_le hlt1 hst.below.size
  clear hv hst
  go_wp2_with fail
  go_loopw [4, 5] (fun n i wr => ∃ k : Nat, i = .int .i64 k ∧ k ≤ p.terms.length ∧ n = .int .i64 (Ex.weightL (p.terms.take k) : Nat) ∧ Below w2.heap.size w2 wr) (fun _ i _ => p.terms.length - (intOf i).toNat)
  case atStart => exact ⟨0, rfl, Nat.zero_le _, rfl, Below.refl _ _⟩
  case round =>
    obtain ⟨k, rfl, hk, rfl, hb⟩ := hrel
    have HB := Lib.hid hb
    have e0 : wr.cell? ⟨w.heap.size, 0, none⟩ = some (.slice ai p.ins.length ci) := by rw [hb.cell (p := ⟨w.heap.size, 0, none⟩) hlt2]; exact q0.out
    have e2 : wr.cell? ⟨w.heap.size, 2, none⟩ = some (.slice al p.fl.length cl) := by rw [hb.cell (p := ⟨w.heap.size, 2, none⟩) hlt2]; exact q2.out
    clear hb
    have hpl := weightL_le p.terms k
    by_cases hkl : k < p.terms.length
    · obtain ⟨b, off, ax, cx, rfl, c0, c1, c2, c3, hx⟩ := HV.out.at hkl
      have hHr := HST.out.isin.below HB.out
      have c0 := hHr.cell c0
      have c1 := hHr.cell c1
      have c2 := hHr.cell c2
      have c3 := hHr.cell c3
      have hps := weightL_take p.terms k hkl
      have hpl2 := weightL_le p.terms (k + 1)
      have PS := Lib.hid hps
      have hpx : p.terms[k].weight ≤ 1000000000000000000 := by omega
      have hw1 : Ex.weightL (p.terms.take k) + p.terms[k].weight ≤ 1000000000 := by omega
      clear hps
      generalize p.terms[k] = x at *
      go_wp2_with fail
      refine (weight_any K x _ hx hpx _ hHr).mono ?_
      rintro r w3 ⟨rfl, hb3⟩
      have hW3 := HB.out.trans (hb3.mono HB.out.size)
      go_wp2_with fail
      go_roundw
      case rel => exact ⟨k + 1, by go_num, by omega, by rw [PS.out]; go_num, hW3⟩
      case measure => simp [intOf]; omega
    · obtain rfl : k = p.terms.length := by omega
      have HF := Lib.hid (HB2.out.trans (HB.out.mono HB2.out.size))
      rw [List.take_of_length_le (Nat.le_refl _)]
      have hd : heavy p = (decide (1500 < Ex.weightL p.terms) || decide (100 < p.fl.length) || decide (40 < p.ins.length)) := rfl
      have HD := Lib.hid hd
      clear hd
      by_cases d1 : 1500 < Ex.weightL p.terms
      · go_wp2_with fail
        go_ret
        exact ⟨ret_int (by unfold heavyI; rw [HD.out]; simp [d1]), HF.out⟩
      · by_cases d2 : 100 < p.fl.length
        · go_wp2_with fail
          go_ret
          exact ⟨ret_int (by unfold heavyI; rw [HD.out]; simp [d2]), HF.out⟩
        · by_cases d3 : 40 < p.ins.length
          · go_wp2_with fail
            go_ret
            exact ⟨ret_int (by unfold heavyI; rw [HD.out]; simp [d3]), HF.out⟩
          · go_wp2_with fail
            go_ret
            exact ⟨ret_int (by unfold heavyI; rw [HD.out]; simp [d1, d2, d3]), HF.out⟩
end Go.Proofs.YthihoafemahgmaaDoor
