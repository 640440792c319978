/- Walks: order.LateOf. -/
import Derived.Test.YtdceonkbckmjdaaDoorNeeds
import Derived.Test.YtdceonkbckmjdaaDoorKind
import Derived.Deep.RegionHeld3
namespace Go.Proofs.YtdceonkbckmjdaaDoor
open Go.RowKit Mx

def getI (m : Env Int) : ByteArray → Int := fun s => (m s).getD 0
theorem foldl_max : ∀ (l : List Int) (a : Int), 0 ≤ a → a ≤ 2 → (∀ x ∈ l, 0 ≤ x ∧ x ≤ 2) → 0 ≤ l.foldl max a ∧ l.foldl max a ≤ 2
  | [], a, h1, h2, _ => ⟨h1, h2⟩
  | x :: l, a, h1, h2, h => by
    have := h x (List.mem_cons_self ..)
    exact foldl_max l (max a x) (by omega) (by omega) (fun y hy => h y (List.mem_cons_of_mem _ hy))
theorem latesOf_mem (late : ByteArray → Int) : ∀ (l : List Ex) (x : Int), x ∈ latesOf late l → ∃ e ∈ l, x = lateOf late e
  | [], x, h => by simp [latesOf] at h
  | e :: l, x, h => by
    simp only [latesOf, List.mem_cons] at h
    rcases h with rfl | h
    · exact ⟨e, List.mem_cons_self .., rfl⟩
    · obtain ⟨e', h1, h2⟩ := latesOf_mem late l x h
      exact ⟨e', List.mem_cons_of_mem _ h1, h2⟩
theorem getD_bound (l : List Int) (i : Nat) (h : ∀ x ∈ l, 0 ≤ x ∧ x ≤ 2) : 0 ≤ l.getD i 0 ∧ l.getD i 0 ≤ 2 := by
  rw [List.getD_eq_getElem?_getD]
  cases hq : l[i]? with
  | none => simp
  | some x => exact h x (List.mem_of_getElem? hq)
theorem late_bound (late : ByteArray → Int) (hl : ∀ s, 0 ≤ late s ∧ late s ≤ 2) : ∀ e : Ex, 0 ≤ lateOf late e ∧ lateOf late e ≤ 2 := by
  refine Ex.ind fun o n s l ih => ?_
  have hr : ∀ x ∈ latesOf late l, 0 ≤ x ∧ x ≤ 2 := fun x hx => by
    obtain ⟨e, h1, rfl⟩ := latesOf_mem late l x hx
    exact ih e h1
  have h0 := getD_bound _ 0 hr
  have h1 := getD_bound _ 1 hr
  have hm := foldl_max (latesOf late l) 0 (by omega) (by omega) hr
  simp only [lateOf]
  split
  · exact hl s
  · split
    · omega
    · split
      · split <;> omega
      · exact hm
theorem latesOf_take (late : ByteArray → Int) : ∀ (l : List Ex) (k : Nat) (h : k < l.length), latesOf late (l.take (k + 1)) = latesOf late (l.take k) ++ [lateOf late l[k]]
  | e :: l, 0, _ => by simp [latesOf]
  | e :: l, k + 1, h => by
    have := latesOf_take late l k (by simpa using h)
    simp only [List.take_succ_cons, latesOf, List.getElem_cons_succ]
    rw [this]; rfl
theorem latesOf_get (late : ByteArray → Int) : ∀ (l : List Ex) (k : Nat) (h : k < l.length), (latesOf late l).getD k 0 = lateOf late l[k]
  | e :: l, 0, _ => by simp [latesOf]
  | e :: l, k + 1, h => by
    have := latesOf_get late l k (by simpa using h)
    simpa [latesOf] using this

set_option maxHeartbeats 4000000 in
set_option maxRecDepth 100000 in
theorem late_any (H : Kn) (m : Env Int) (bm : Nat) (hl : ∀ s, 0 ≤ getI m s ∧ getI m s ≤ 2) (ks : Env Int) : ∀ (e : Ex), formAll ks e = true → ∀ v, ExV H e v → ∀ w, H.In w → MapAt (Value.int .i64) w bm m →
    Calls Tryd.prog 66 #[v, .map (some bm)] w fun r w' => r = .returned (.int .i64 (lateOf (getI m) e)) ∧ Below w.heap.size w w' := by
  refine Ex.ind fun o n s l ih hf v hv w hH hM => ?_
  obtain ⟨u, rfl, hu⟩ := hv
  simp only [Ex.op, Ex.n, Ex.s, Ex.l] at hu ⊢
  obtain ⟨a, c, rfl⟩ := hu.len
  obtain ⟨hfl, hfby, harr, hpr, _⟩ := formAll_parts hf
  have HU := Lib.hid hu
  have HIH := Lib.hid fun e he => ih e he (hfl e he)
  have HBD := Lib.hid (late_bound (getI m) hl)
  have hlt : l.length ≤ 9223372036854775807 := by
    rcases hu with ⟨rfl, _⟩ | ⟨_, _, c', _, h1, h2, _⟩
    · simp
    · unfold maxLen at h2; omega
  have hW1 : Below w.heap.size w (w.alloc (.cells #[.string o, .int .i64 n, .string s, .slice a l.length c] 57)) := (Below.refl _ _).alloc (Nat.le_refl _) _
  have hM1 := hM.alloc (.cells #[.string o, .int .i64 n, .string s, .slice a l.length c] 57)
  have hH1 := hH.alloc (.cells #[.string o, .int .i64 n, .string s, .slice a l.length c] 57)
  have HW1 := Lib.hid hW1
  have HM1 := Lib.hid hM1
  clear hu ih hfl hf hM hM1 hW1
  by_cases hname : o = oName
  · have HX := Lib.hid (show lateOf (getI m) (.mk o n s l) = getI m s from by simp only [lateOf]; rw [if_pos hname])
    have t1 : (o.toList == [110, 97, 109, 101]) = true := by rw [← dLit]; simpa using hname
    have hrun := HM1.out.run (P := Tryd.prog) Tryd.underlying67 Tryd.underlying9 (d := 0) (by kernel_rfl) s false
    simp only [Bool.false_eq_true, if_false] at hrun
    have HG := Lib.hid (show getI m s = (m s).getD 0 from rfl)
    generalize (m s).getD 0 = q at *
    clear hname hfby harr hpr
    go_enter Tryd.func66, Tryd.ntmps66
    go_wp2_with fail
    go_ret
    exact ⟨ret_int (by rw [HX.out, HG.out]), HW1.out⟩
  · have t1 : (o.toList == [110, 97, 109, 101]) = false := not_lit _ hname
    by_cases hpre : o = oPre
    · have h1 := hpr hpre
      have h0 : 0 < l.length := by omega
      have t2 : (o.toList == [112, 114, 101]) = true := by rw [← dLit]; simpa using hpre
      have HX := Lib.hid (show lateOf (getI m) (.mk o n s l) = min (2 : Int) (lateOf (getI m) l[0] + 1) from by simp only [lateOf]; rw [if_neg hname, if_pos hpre, latesOf_get _ l 0 h0])
      obtain ⟨b, off, ax, cx, rfl, c0, c1, c2, c3, hx⟩ := ExsV.at HU.out h0
      have c0 := hH1.cell c0
      have c1 := hH1.cell c1
      have c2 := hH1.cell c2
      have c3 := hH1.cell c3
      simp only [Nat.zero_mul, Nat.add_zero] at c0 c1 c2 c3
      have hmem := List.getElem_mem h0
      have hbx := HBD.out l[0]
      have hgt : (0 : Int) < l.length := by omega
      clear hname hpre hfby harr hpr h1
      generalize l[0] = x at *
      go_enter Tryd.func66, Tryd.ntmps66
      go_wp2_with fail
      refine (HIH.out x hmem _ hx _ hH1 HM1.out).mono ?_
      rintro r w2 ⟨rfl, hb2⟩
      have HB := Lib.hid (HW1.out.trans (hb2.mono (by simp)))
      generalize lateOf (getI m) x = q at *
      go_wp2_with fail
      all_goals go_ret
      all_goals exact ⟨ret_int (by rw [HX.out]; try omega), HB.out⟩
    · have t2 : (o.toList == [112, 114, 101]) = false := not_lit _ hpre
      by_cases hab : o = oArrow ∨ o = oFby
      · have h2 : l.length = 2 := by rcases hab with h | h; exact harr h; exact hfby h
        have h0 : 0 < l.length := by omega
        have h1 : 1 < l.length := by omega
        obtain ⟨b, off, ax, cx, rfl, c0, c1, c2, c3, hx0⟩ := ExsV.at HU.out h0
        obtain ⟨b1, off1, ax1, cx1, hb1, d0, d1, d2, d3, hx1⟩ := ExsV.at HU.out h1
        cases hb1
        have hm0 := List.getElem_mem h0
        have hm1 := List.getElem_mem h1
        have HX := Lib.hid (show lateOf (getI m) (.mk o n s l) = (if (if o = oFby then min (2 : Int) (lateOf (getI m) l[1] + 1) else lateOf (getI m) l[1]) = 2 then 2 else lateOf (getI m) l[0]) from by
          simp only [lateOf]; rw [if_neg hname, if_neg hpre, if_pos hab, latesOf_get _ l 0 h0, latesOf_get _ l 1 h1])
        have hbx0 := HBD.out l[0]
        have hbx1 := HBD.out l[1]
        have X0 := Lib.hid (HIH.out l[0] hm0 _ hx0)
        have X1 := Lib.hid (HIH.out l[1] hm1 _ hx1)
        generalize l[0] = x0 at *
        generalize l[1] = x1 at *
        have c0 := hH1.cell c0
        have c1 := hH1.cell c1
        have c2 := hH1.cell c2
        have c3 := hH1.cell c3
        have d0 := hH1.cell d0
        have d1 := hH1.cell d1
        have d2 := hH1.cell d2
        have d3 := hH1.cell d3
        simp only [Nat.zero_mul, Nat.one_mul, Nat.add_zero] at c0 c1 c2 c3 d0 d1 d2 d3
        have hgt0 : (0 : Int) < l.length := by omega
        have hgt1 : (1 : Int) < l.length := by omega
        have q3 : (w.alloc (.cells #[.string o, .int .i64 n, .string s, .slice (some ⟨b, off, none⟩) l.length c] 57)).cell? ⟨w.heap.size, 3, none⟩ = some (.slice (some ⟨b, off, none⟩) l.length c) := by rw [World.cell?_alloc_new]; rfl
        have q0 : (w.alloc (.cells #[.string o, .int .i64 n, .string s, .slice (some ⟨b, off, none⟩) l.length c] 57)).cell? ⟨w.heap.size, 0, none⟩ = some (.string o) := by rw [World.cell?_alloc_new]; rfl
        have hS0 : (fun w' : World => w'.cell? ⟨w.heap.size, 3, none⟩ = some (.slice (some ⟨b, off, none⟩) l.length c) ∧ w'.cell? ⟨b, off, none⟩ = some (.string x0.op) ∧ w'.cell? ⟨b, off + 1, none⟩ = some (.int .i64 x0.n) ∧ w'.cell? ⟨b, off + 2, none⟩ = some (.string x0.s) ∧ w'.cell? ⟨b, off + 3, none⟩ = some (.slice ax x0.l.length cx) ∧
          w'.cell? ⟨b, off + 4, none⟩ = some (.string x1.op) ∧ w'.cell? ⟨b, off + 4 + 1, none⟩ = some (.int .i64 x1.n) ∧ w'.cell? ⟨b, off + 4 + 2, none⟩ = some (.string x1.s) ∧ w'.cell? ⟨b, off + 4 + 3, none⟩ = some (.slice ax1 x1.l.length cx1) ∧ H.In w' ∧ MapAt (Value.int .i64) w' bm m ∧ Below w.heap.size w w' ∧ w.heap.size < w'.heap.size ∧ w'.cell? ⟨w.heap.size, 0, none⟩ = some (.string o)) (w.alloc (.cells #[.string o, .int .i64 n, .string s, .slice (some ⟨b, off, none⟩) l.length c] 57)).drew := ⟨q3, c0, c1, c2, c3, d0, d1, d2, d3, hH1, HM1.out, HW1.out.drew, by show w.heap.size < (w.alloc _).heap.size; simp, q0⟩
        have hKS : ∀ u u' : World, Below u.heap.size u u' → (fun w' : World => w'.cell? ⟨w.heap.size, 3, none⟩ = some (.slice (some ⟨b, off, none⟩) l.length c) ∧ w'.cell? ⟨b, off, none⟩ = some (.string x0.op) ∧ w'.cell? ⟨b, off + 1, none⟩ = some (.int .i64 x0.n) ∧ w'.cell? ⟨b, off + 2, none⟩ = some (.string x0.s) ∧ w'.cell? ⟨b, off + 3, none⟩ = some (.slice ax x0.l.length cx) ∧
          w'.cell? ⟨b, off + 4, none⟩ = some (.string x1.op) ∧ w'.cell? ⟨b, off + 4 + 1, none⟩ = some (.int .i64 x1.n) ∧ w'.cell? ⟨b, off + 4 + 2, none⟩ = some (.string x1.s) ∧ w'.cell? ⟨b, off + 4 + 3, none⟩ = some (.slice ax1 x1.l.length cx1) ∧ H.In w' ∧ MapAt (Value.int .i64) w' bm m ∧ Below w.heap.size w w' ∧ w.heap.size < w'.heap.size ∧ w'.cell? ⟨w.heap.size, 0, none⟩ = some (.string o)) u → (fun w' : World => w'.cell? ⟨w.heap.size, 3, none⟩ = some (.slice (some ⟨b, off, none⟩) l.length c) ∧ w'.cell? ⟨b, off, none⟩ = some (.string x0.op) ∧ w'.cell? ⟨b, off + 1, none⟩ = some (.int .i64 x0.n) ∧ w'.cell? ⟨b, off + 2, none⟩ = some (.string x0.s) ∧ w'.cell? ⟨b, off + 3, none⟩ = some (.slice ax x0.l.length cx) ∧
          w'.cell? ⟨b, off + 4, none⟩ = some (.string x1.op) ∧ w'.cell? ⟨b, off + 4 + 1, none⟩ = some (.int .i64 x1.n) ∧ w'.cell? ⟨b, off + 4 + 2, none⟩ = some (.string x1.s) ∧ w'.cell? ⟨b, off + 4 + 3, none⟩ = some (.slice ax1 x1.l.length cx1) ∧ H.In w' ∧ MapAt (Value.int .i64) w' bm m ∧ Below w.heap.size w w' ∧ w.heap.size < w'.heap.size ∧ w'.cell? ⟨w.heap.size, 0, none⟩ = some (.string o)) u' := by
          rintro u u' hb ⟨k0, k1, k2, k3, k4, k5, k6, k7, k8, k9, k10, k11, k12, k13⟩
          have hc : ∀ bq i q, u.cell? ⟨bq, i, none⟩ = some q → u'.cell? ⟨bq, i, none⟩ = some q := fun bq i q e => by rw [hb.cell (p := ⟨bq, i, none⟩) (World.block_lt_of_cell? u ⟨bq, i, none⟩ e)]; exact e
          exact ⟨hc _ _ _ k0, hc _ _ _ k1, hc _ _ _ k2, hc _ _ _ k3, hc _ _ _ k4, hc _ _ _ k5, hc _ _ _ k6, hc _ _ _ k7, hc _ _ _ k8, k9.below hb, k10.below hb, k11.trans (hb.mono k11.size), by have := hb.size; omega, hc _ _ _ k13⟩
        have KS := Lib.hid hKS
        have HS0 := Lib.hid hS0
        have hway : ((o.toList == [45, 62]) = true ∧ (o.toList == [102, 98, 121]) = false ∧ o ≠ oFby) ∨ ((o.toList == [45, 62]) = false ∧ (o.toList == [102, 98, 121]) = true ∧ o = oFby) := by
          rcases hab with h | h
          · left; subst h; exact ⟨by rw [← dLit]; decide, by rw [← dLit]; decide, by decide⟩
          · right; subst h; exact ⟨by rw [← dLit]; decide, by rw [← dLit]; decide, rfl⟩
        clear hname hpre hab hfby harr hpr h2 hx0 hx1 hS0 hKS c0 c1 c2 c3 d0 d1 d2 d3 q0 q3
        have HL0 := Lib.hid hbx0
        generalize hv0 : lateOf (getI m) x0 = v0 at *
        generalize hv1 : lateOf (getI m) x1 = v1 at *
        have HV := Lib.hid (And.intro hv0 hv1)
        clear hv0 hv1
        rcases hway with ⟨t3, t4, hof⟩ | ⟨t3, t4, hof⟩
        all_goals
          have HOF := Lib.hid hof
          clear hof
          go_enter Tryd.func66, Tryd.ntmps66
          go_wp2_with fail
          go_region_held3 (fun w' => w'.cell? ⟨w.heap.size, 3, none⟩ = some (.slice (some ⟨b, off, none⟩) l.length c) ∧ w'.cell? ⟨b, off, none⟩ = some (.string x0.op) ∧ w'.cell? ⟨b, off + 1, none⟩ = some (.int .i64 x0.n) ∧ w'.cell? ⟨b, off + 2, none⟩ = some (.string x0.s) ∧ w'.cell? ⟨b, off + 3, none⟩ = some (.slice ax x0.l.length cx) ∧
          w'.cell? ⟨b, off + 4, none⟩ = some (.string x1.op) ∧ w'.cell? ⟨b, off + 4 + 1, none⟩ = some (.int .i64 x1.n) ∧ w'.cell? ⟨b, off + 4 + 2, none⟩ = some (.string x1.s) ∧ w'.cell? ⟨b, off + 4 + 3, none⟩ = some (.slice ax1 x1.l.length cx1) ∧ H.In w' ∧ MapAt (Value.int .i64) w' bm m ∧ Below w.heap.size w w' ∧ w.heap.size < w'.heap.size ∧ w'.cell? ⟨w.heap.size, 0, none⟩ = some (.string o))
            (first | (exact HS0.out) | assumption | (refine KS.out _ _ ?_ (by assumption); assumption))
            (first
              | (go_at_call 66; (with_reducible refine (X0.out _ ?_ ?_).mono ?_); (go_split_ands; assumption); (go_split_ands; assumption); rintro r wc ⟨rfl, hbc⟩)
              | (go_at_call 66; (with_reducible refine (X1.out _ ?_ ?_).mono ?_); (go_split_ands; assumption); (go_split_ands; assumption); rintro r wc ⟨rfl, hbc⟩))
          all_goals go_split_ands
          all_goals go_wp2_with fail
          all_goals go_ret
          all_goals refine ⟨ret_int ?_, by assumption⟩
          all_goals rw [HX.out]
          all_goals (first | rw [if_neg HOF.out] | rw [if_pos HOF.out])
          all_goals (split <;> first | omega | (rename_i g1 g2; simp only [beq_iff_eq, beq_eq_false_iff_ne, ne_eq] at g1; (try split at g1) <;> omega))
      · have t3 : (o.toList == [45, 62]) = false := not_lit _ (fun h => hab (.inl h))
        have t4 : (o.toList == [102, 98, 121]) = false := not_lit _ (fun h => hab (.inr h))
        have HX := Lib.hid (show lateOf (getI m) (.mk o n s l) = (latesOf (getI m) l).foldl max 0 from by simp only [lateOf]; rw [if_neg hname, if_neg hpre, if_neg hab])
        clear hname hpre hab hfby harr hpr
        go_enter Tryd.func66, Tryd.ntmps66
        go_wp2_with fail
        generalize w.alloc (.cells #[.string o, .int .i64 n, .string s, .slice a l.length c] 57) = W at *
        go_loopw [7, 55] (fun q i wr => ∃ k : Nat, i = .int .i64 k ∧ k ≤ l.length ∧ q = .int .i64 ((latesOf (getI m) (l.take k)).foldl max 0) ∧ Below w.heap.size w wr ∧ Below W.heap.size W wr) (fun _ i _ => l.length - (intOf i).toNat)
        case atStart => exact ⟨0, rfl, Nat.zero_le _, rfl, HW1.out, Below.refl _ _⟩
        case round =>
          obtain ⟨k, rfl, hk, rfl, hb, hbW⟩ := hrel
          have HB := Lib.hid (And.intro hb hbW)
          clear hb hbW
          by_cases hkl : k < l.length
          · obtain ⟨b, off, ax, cx, rfl, c0, c1, c2, c3, hx⟩ := ExsV.at HU.out hkl
            have hin := hH.below HB.out.1
            have c0 := hin.cell c0
            have c1 := hin.cell c1
            have c2 := hin.cell c2
            have c3 := hin.cell c3
            have hmem := List.getElem_mem hkl
            have LT := Lib.hid (show (latesOf (getI m) (l.take (k + 1))).foldl max 0 = max ((latesOf (getI m) (l.take k)).foldl max 0) (lateOf (getI m) l[k]) from by rw [latesOf_take _ l k hkl, List.foldl_append]; rfl)
            have hbx := HBD.out l[k]
            have HMr := Lib.hid (HM1.out.below HB.out.2)
            have hfb := foldl_max (latesOf (getI m) (l.take k)) 0 (by omega) (by omega) (fun x hx => by
              obtain ⟨e, _, rfl⟩ := latesOf_mem _ _ _ hx
              exact HBD.out e)
            generalize l[k] = x at *
            generalize (latesOf (getI m) (l.take k)).foldl max 0 = acc at *
            go_wp2_with fail
            refine (HIH.out x hmem _ hx _ (hin.alloc _) (HMr.out.alloc _)).mono ?_
            rintro r w2 ⟨rfl, hb2⟩
            have hs1 := HB.out.1.size
            have hs2 := HB.out.2.size
            have HB2 := Lib.hid (And.intro ((HB.out.1.alloc hs1 _).trans (hb2.mono (by simp; omega))) ((HB.out.2.alloc hs2 _).trans (hb2.mono (by simp; omega))))
            generalize lateOf (getI m) x = q at *
            go_wp2_with fail
            all_goals go_roundw
            all_goals (first | (case rel => exact ⟨k + 1, by go_num, by omega, by rw [LT.out]; congr 1; omega, HB2.out.1, HB2.out.2⟩) | skip)
            all_goals (simp [intOf]; omega)
          · go_wp2_with fail
            go_ret
            exact ⟨ret_int (by rw [HX.out, List.take_of_length_le (by omega)]), HB.out.1⟩
end Go.Proofs.YtdceonkbckmjdaaDoor
