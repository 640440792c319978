/- Walks: order.LateOf. -/
import Derived.Test.YthihoafemahgmaaDoorGr
import Derived.Test.YthihoafemahgmaaDoorKind
import Derived.Deep.RegionHeld3
import Derived.Test.YthihoafemahgmaaDoorMx
import Derived.Deep.LoopGhost
namespace Go.Proofs.YthihoafemahgmaaDoor
open Go.RowKit Mx
def getI (m : Env Int) : ByteArray → Int := fun s => (m s).getD 0
theorem foldl_max : ∀ (l : List Int) (a : Int), 0 ≤ a → a ≤ 2 → (∀ x ∈ l, 0 ≤ x ∧ x ≤ 2) → 0 ≤ l.foldl max a ∧ l.foldl max a ≤ 2
  | [], a, h1, h2, _ => ⟨h1, h2⟩
  | x :: l, a, h1, h2, h => by
    have := h x (List.mem_cons_self ..)
    exact foldl_max l (max a x) (by omega) (by omega) (fun y hy => h y (List.mem_cons_of_mem _ hy))
theorem latesOf_mem (late : ByteArray → Int) : ∀ (l : List Ex) (x : Int), x ∈ latesOf late l → ∃ e ∈ l, x = lateOf late e
  | [], x, h => by simp [latesOf] at h
  | e :: l, x, h => by
    simp only [latesOf, List.mem_cons] at h
    rcases h with rfl | h
    · exact ⟨e, List.mem_cons_self .., rfl⟩
    · obtain ⟨e', h1, h2⟩ := latesOf_mem late l x h
      exact ⟨e', List.mem_cons_of_mem _ h1, h2⟩
theorem getD_bound (l : List Int) (i : Nat) (h : ∀ x ∈ l, 0 ≤ x ∧ x ≤ 2) : 0 ≤ l.getD i 0 ∧ l.getD i 0 ≤ 2 := by
  rw [List.getD_eq_getElem?_getD]
  cases hq : l[i]? with
  | none => simp
  | some x => exact h x (List.mem_of_getElem? hq)
theorem late_bound (late : ByteArray → Int) (hl : ∀ s, 0 ≤ late s ∧ late s ≤ 2) : ∀ e : Ex, 0 ≤ lateOf late e ∧ lateOf late e ≤ 2 := by
  refine Ex.ind fun o n s l ih => ?_
  have hr : ∀ x ∈ latesOf late l, 0 ≤ x ∧ x ≤ 2 := fun x hx => by
    obtain ⟨e, h1, rfl⟩ := latesOf_mem late l x hx
    exact ih e h1
  have h0 := getD_bound _ 0 hr
  have h1 := getD_bound _ 1 hr
  have hm := foldl_max (latesOf late l) 0 (by omega) (by omega) hr
  simp only [lateOf]
  split
  · exact hl s
  · split
    · omega
    · split
      · split <;> omega
      · exact hm
theorem latesOf_take (late : ByteArray → Int) : ∀ (l : List Ex) (k : Nat) (h : k < l.length), latesOf late (l.take (k + 1)) = latesOf late (l.take k) ++ [lateOf late l[k]]
  | e :: l, 0, _ => by simp [latesOf]
  | e :: l, k + 1, h => by
    have := latesOf_take late l k (by simpa using h)
    simp only [List.take_succ_cons, latesOf, List.getElem_cons_succ]
    rw [this]; rfl
theorem latesOf_get (late : ByteArray → Int) : ∀ (l : List Ex) (k : Nat) (h : k < l.length), (latesOf late l).getD k 0 = lateOf late l[k]
  | e :: l, 0, _ => by simp [latesOf]
  | e :: l, k + 1, h => by
    have := latesOf_get late l k (by simpa using h)
    simpa [latesOf] using this
set_option maxHeartbeats 4000000 in
set_option maxRecDepth 100000 in
theorem late_any (H : Kn) (m : Env Int) (bm : Nat) (hl : ∀ s, 0 ≤ getI m s ∧ getI m s ≤ 2) (ks : Env Int) : ∀ (e : Ex), formAll ks e = true → ∀ v, ExV H e v → ∀ w, H.In w → MapAt (Value.int .i64) w bm m →
    Calls Tryd.prog 46 #[v, .map (some bm)] w fun r w' => r = .returned (.int .i64 (lateOf (getI m) e)) ∧ Below w.heap.size w w' := by
  refine Ex.ind fun o n s l ih hf v hv w hH hM => ?_
  obtain ⟨u, rfl, hu⟩ := hv
  simp only [Ex.op, Ex.n, Ex.s, Ex.l] at hu ⊢
  obtain ⟨a, c, rfl⟩ := hu.len
  obtain ⟨hfl, hfby, harr, hpr, _⟩ := formAll_parts hf
  have HU := Lib.hid hu
  have HIH := Lib.hid fun e he => ih e he (hfl e he)
  have HBD := Lib.hid (late_bound (getI m) hl)
  have hlt : l.length ≤ 9223372036854775807 := by
    rcases hu with ⟨rfl, _⟩ | ⟨_, _, c', _, h1, h2, _⟩
    · simp
    · unfold maxLen at h2; omega
  have hW1 : Below w.heap.size w (w.alloc (.cells #[.string o, .int .i64 n, .string s, .slice a l.length c] 45)) := (Below.refl _ _).alloc (Nat.le_refl _) _
  have hM1 := hM.alloc (.cells #[.string o, .int .i64 n, .string s, .slice a l.length c] 45)
  have hH1 := hH.alloc (.cells #[.string o, .int .i64 n, .string s, .slice a l.length c] 45)
  have HW1 := Lib.hid hW1
  have HM1 := Lib.hid hM1
  clear hu ih hfl hf hM hM1 hW1
  by_cases hname : o = oName
  · have HX := Lib.hid (show lateOf (getI m) (.mk o n s l) = getI m s from by simp only [lateOf]; rw [if_pos hname])
    have t1 : (o.toList == [110, 97, 109, 101]) = true := by rw [← dLit]; simpa using hname
    have hrun := HM1.out.run (P := Tryd.prog) Tryd.underlying52 Tryd.underlying9 (d := 0) (by kernel_rfl) s false
    simp only [Bool.false_eq_true, if_false] at hrun
    have HG := Lib.hid (show getI m s = (m s).getD 0 from rfl)
    generalize (m s).getD 0 = q at *
    clear hname hfby harr hpr
    go_enter Tryd.func46, Tryd.ntmps46
    go_wp2_with fail
    go_ret
    exact ⟨ret_int (by rw [HX.out, HG.out]), HW1.out⟩
  · have t1 : (o.toList == [110, 97, 109, 101]) = false := not_lit _ hname
    by_cases hpre : o = oPre
    · have h1 := hpr hpre
      have h0 : 0 < l.length := by omega
      have t2 : (o.toList == [112, 114, 101]) = true := by rw [← dLit]; simpa using hpre
      have HX := Lib.hid (show lateOf (getI m) (.mk o n s l) = min (2 : Int) (lateOf (getI m) l[0] + 1) from by simp only [lateOf]; rw [if_neg hname, if_pos hpre, latesOf_get _ l 0 h0])
      obtain ⟨b, off, ax, cx, rfl, c0, c1, c2, c3, hx⟩ := ExsV.at HU.out h0
      have c0 := hH1.cell c0
      have c1 := hH1.cell c1
      have c2 := hH1.cell c2
      have c3 := hH1.cell c3
      simp only [Nat.zero_mul, Nat.add_zero] at c0 c1 c2 c3
      have hmem := List.getElem_mem h0
      have hbx := HBD.out l[0]
      have hgt : (0 : Int) < l.length := by omega
      clear hname hpre hfby harr hpr h1
      generalize l[0] = x at *
      go_enter Tryd.func46, Tryd.ntmps46
      go_wp2_with fail
      refine (HIH.out x hmem _ hx _ hH1 HM1.out).mono ?_
      rintro r w2 ⟨rfl, hb2⟩
      have HB := Lib.hid (HW1.out.trans (hb2.mono (by simp)))
      generalize lateOf (getI m) x = q at *
      go_wp2_with fail
      all_goals go_ret
      all_goals exact ⟨ret_int (by rw [HX.out]; try omega), HB.out⟩
    · have t2 : (o.toList == [112, 114, 101]) = false := not_lit _ hpre
      by_cases hab : o = oArrow ∨ o = oFby
      · have h2 : l.length = 2 := by rcases hab with h | h; exact harr h; exact hfby h
        have h0 : 0 < l.length := by omega
        have h1 : 1 < l.length := by omega
        obtain ⟨b, off, ax, cx, rfl, c0, c1, c2, c3, hx0⟩ := ExsV.at HU.out h0
        obtain ⟨b1, off1, ax1, cx1, hb1, d0, d1, d2, d3, hx1⟩ := ExsV.at HU.out h1
        cases hb1
        have hm0 := List.getElem_mem h0
        have hm1 := List.getElem_mem h1
        have HX := Lib.hid (show lateOf (getI m) (.mk o n s l) = (if (if o = oFby then min (2 : Int) (lateOf (getI m) l[1] + 1) else lateOf (getI m) l[1]) = 2 then 2 else lateOf (getI m) l[0]) from by
          simp only [lateOf]; rw [if_neg hname, if_neg hpre, if_pos hab, latesOf_get _ l 0 h0, latesOf_get _ l 1 h1])
        have hbx0 := HBD.out l[0]
        have hbx1 := HBD.out l[1]
        have X0 := Lib.hid (HIH.out l[0] hm0 _ hx0)
        have X1 := Lib.hid (HIH.out l[1] hm1 _ hx1)
        generalize l[0] = x0 at *
        generalize l[1] = x1 at *
        have c0 := hH1.cell c0
        have c1 := hH1.cell c1
        have c2 := hH1.cell c2
        have c3 := hH1.cell c3
        have d0 := hH1.cell d0
        have d1 := hH1.cell d1
        have d2 := hH1.cell d2
        have d3 := hH1.cell d3
        simp only [Nat.zero_mul, Nat.one_mul, Nat.add_zero] at c0 c1 c2 c3 d0 d1 d2 d3
        have hgt0 : (0 : Int) < l.length := by omega
        have hgt1 : (1 : Int) < l.length := by omega
        have q3 : (w.alloc (.cells #[.string o, .int .i64 n, .string s, .slice (some ⟨b, off, none⟩) l.length c] 45)).cell? ⟨w.heap.size, 3, none⟩ = some (.slice (some ⟨b, off, none⟩) l.length c) := by rw [World.cell?_alloc_new]; rfl
        have q0 : (w.alloc (.cells #[.string o, .int .i64 n, .string s, .slice (some ⟨b, off, none⟩) l.length c] 45)).cell? ⟨w.heap.size, 0, none⟩ = some (.string o) := by rw [World.cell?_alloc_new]; rfl
        have hS0 : (fun w' : World => w'.cell? ⟨w.heap.size, 3, none⟩ = some (.slice (some ⟨b, off, none⟩) l.length c) ∧ w'.cell? ⟨b, off, none⟩ = some (.string x0.op) ∧ w'.cell? ⟨b, off + 1, none⟩ = some (.int .i64 x0.n) ∧ w'.cell? ⟨b, off + 2, none⟩ = some (.string x0.s) ∧ w'.cell? ⟨b, off + 3, none⟩ = some (.slice ax x0.l.length cx) ∧
          w'.cell? ⟨b, off + 4, none⟩ = some (.string x1.op) ∧ w'.cell? ⟨b, off + 4 + 1, none⟩ = some (.int .i64 x1.n) ∧ w'.cell? ⟨b, off + 4 + 2, none⟩ = some (.string x1.s) ∧ w'.cell? ⟨b, off + 4 + 3, none⟩ = some (.slice ax1 x1.l.length cx1) ∧ H.In w' ∧ MapAt (Value.int .i64) w' bm m ∧ Below w.heap.size w w' ∧ w.heap.size < w'.heap.size ∧ w'.cell? ⟨w.heap.size, 0, none⟩ = some (.string o)) (w.alloc (.cells #[.string o, .int .i64 n, .string s, .slice (some ⟨b, off, none⟩) l.length c] 45)).drew := ⟨q3, c0, c1, c2, c3, d0, d1, d2, d3, hH1, HM1.out, HW1.out.drew, by show w.heap.size < (w.alloc _).heap.size; simp, q0⟩
        have hKS : ∀ u u' : World, Below u.heap.size u u' → (fun w' : World => w'.cell? ⟨w.heap.size, 3, none⟩ = some (.slice (some ⟨b, off, none⟩) l.length c) ∧ w'.cell? ⟨b, off, none⟩ = some (.string x0.op) ∧ w'.cell? ⟨b, off + 1, none⟩ = some (.int .i64 x0.n) ∧ w'.cell? ⟨b, off + 2, none⟩ = some (.string x0.s) ∧ w'.cell? ⟨b, off + 3, none⟩ = some (.slice ax x0.l.length cx) ∧
          w'.cell? ⟨b, off + 4, none⟩ = some (.string x1.op) ∧ w'.cell? ⟨b, off + 4 + 1, none⟩ = some (.int .i64 x1.n) ∧ w'.cell? ⟨b, off + 4 + 2, none⟩ = some (.string x1.s) ∧ w'.cell? ⟨b, off + 4 + 3, none⟩ = some (.slice ax1 x1.l.length cx1) ∧ H.In w' ∧ MapAt (Value.int .i64) w' bm m ∧ Below w.heap.size w w' ∧ w.heap.size < w'.heap.size ∧ w'.cell? ⟨w.heap.size, 0, none⟩ = some (.string o)) u → (fun w' : World => w'.cell? ⟨w.heap.size, 3, none⟩ = some (.slice (some ⟨b, off, none⟩) l.length c) ∧ w'.cell? ⟨b, off, none⟩ = some (.string x0.op) ∧ w'.cell? ⟨b, off + 1, none⟩ = some (.int .i64 x0.n) ∧ w'.cell? ⟨b, off + 2, none⟩ = some (.string x0.s) ∧ w'.cell? ⟨b, off + 3, none⟩ = some (.slice ax x0.l.length cx) ∧
          w'.cell? ⟨b, off + 4, none⟩ = some (.string x1.op) ∧ w'.cell? ⟨b, off + 4 + 1, none⟩ = some (.int .i64 x1.n) ∧ w'.cell? ⟨b, off + 4 + 2, none⟩ = some (.string x1.s) ∧ w'.cell? ⟨b, off + 4 + 3, none⟩ = some (.slice ax1 x1.l.length cx1) ∧ H.In w' ∧ MapAt (Value.int .i64) w' bm m ∧ Below w.heap.size w w' ∧ w.heap.size < w'.heap.size ∧ w'.cell? ⟨w.heap.size, 0, none⟩ = some (.string o)) u' := by
          rintro u u' hb ⟨k0, k1, k2, k3, k4, k5, k6, k7, k8, k9, k10, k11, k12, k13⟩
          have hc : ∀ bq i q, u.cell? ⟨bq, i, none⟩ = some q → u'.cell? ⟨bq, i, none⟩ = some q := fun bq i q e => by rw [hb.cell (p := ⟨bq, i, none⟩) (World.block_lt_of_cell? u ⟨bq, i, none⟩ e)]; exact e
          exact ⟨hc _ _ _ k0, hc _ _ _ k1, hc _ _ _ k2, hc _ _ _ k3, hc _ _ _ k4, hc _ _ _ k5, hc _ _ _ k6, hc _ _ _ k7, hc _ _ _ k8, k9.below hb, k10.below hb, k11.trans (hb.mono k11.size), by have := hb.size; omega, hc _ _ _ k13⟩
        have KS := Lib.hid hKS
        have HS0 := Lib.hid hS0
        have hway : ((o.toList == [45, 62]) = true ∧ (o.toList == [102, 98, 121]) = false ∧ o ≠ oFby) ∨ ((o.toList == [45, 62]) = false ∧ (o.toList == [102, 98, 121]) = true ∧ o = oFby) := by
          rcases hab with h | h
          · left; subst h; exact ⟨by rw [← dLit]; decide, by rw [← dLit]; decide, by decide⟩
          · right; subst h; exact ⟨by rw [← dLit]; decide, by rw [← dLit]; decide, rfl⟩
        clear hname hpre hab hfby harr hpr h2 hx0 hx1 hS0 hKS c0 c1 c2 c3 d0 d1 d2 d3 q0 q3
        have HL0 := Lib.hid hbx0
        generalize hv0 : lateOf (getI m) x0 = v0 at *
        generalize hv1 : lateOf (getI m) x1 = v1 at *
        have HV := Lib.hid (And.intro hv0 hv1)
        clear hv0 hv1
        rcases hway with ⟨t3, t4, hof⟩ | ⟨t3, t4, hof⟩
        all_goals
          have HOF := Lib.hid hof
          clear hof
          go_enter Tryd.func46, Tryd.ntmps46
          go_wp2_with fail
          go_region_held3 (fun w' => w'.cell? ⟨w.heap.size, 3, none⟩ = some (.slice (some ⟨b, off, none⟩) l.length c) ∧ w'.cell? ⟨b, off, none⟩ = some (.string x0.op) ∧ w'.cell? ⟨b, off + 1, none⟩ = some (.int .i64 x0.n) ∧ w'.cell? ⟨b, off + 2, none⟩ = some (.string x0.s) ∧ w'.cell? ⟨b, off + 3, none⟩ = some (.slice ax x0.l.length cx) ∧
          w'.cell? ⟨b, off + 4, none⟩ = some (.string x1.op) ∧ w'.cell? ⟨b, off + 4 + 1, none⟩ = some (.int .i64 x1.n) ∧ w'.cell? ⟨b, off + 4 + 2, none⟩ = some (.string x1.s) ∧ w'.cell? ⟨b, off + 4 + 3, none⟩ = some (.slice ax1 x1.l.length cx1) ∧ H.In w' ∧ MapAt (Value.int .i64) w' bm m ∧ Below w.heap.size w w' ∧ w.heap.size < w'.heap.size ∧ w'.cell? ⟨w.heap.size, 0, none⟩ = some (.string o))
            (first | (exact HS0.out) | assumption | (refine KS.out _ _ ?_ (by assumption); assumption))
            (first
              | (go_at_call 46; (with_reducible refine (X0.out _ ?_ ?_).mono ?_); (go_split_ands; assumption); (go_split_ands; assumption); rintro r wc ⟨rfl, hbc⟩)
              | (go_at_call 46; (with_reducible refine (X1.out _ ?_ ?_).mono ?_); (go_split_ands; assumption); (go_split_ands; assumption); rintro r wc ⟨rfl, hbc⟩))
          all_goals go_split_ands
          all_goals go_wp2_with fail
          all_goals go_ret
          all_goals refine ⟨ret_int ?_, by assumption⟩
          all_goals rw [HX.out]
          all_goals (first | rw [if_neg HOF.out] | rw [if_pos HOF.out])
          all_goals (split <;> first | omega | (rename_i g1 g2; simp only [beq_iff_eq, beq_eq_false_iff_ne, ne_eq] at g1; (try split at g1) <;> omega))
      · have t3 : (o.toList == [45, 62]) = false := not_lit _ (fun h => hab (.inl h))
        have t4 : (o.toList == [102, 98, 121]) = false := not_lit _ (fun h => hab (.inr h))
        have HX := Lib.hid (show lateOf (getI m) (.mk o n s l) = (latesOf (getI m) l).foldl max 0 from by simp only [lateOf]; rw [if_neg hname, if_neg hpre, if_neg hab])
        clear hname hpre hab hfby harr hpr
        go_enter Tryd.func46, Tryd.ntmps46
        go_wp2_with fail
        generalize w.alloc (.cells #[.string o, .int .i64 n, .string s, .slice a l.length c] 45) = W at *
        go_loopw [7, 55] (fun q i wr => ∃ k : Nat, i = .int .i64 k ∧ k ≤ l.length ∧ q = .int .i64 ((latesOf (getI m) (l.take k)).foldl max 0) ∧ Below w.heap.size w wr ∧ Below W.heap.size W wr) (fun _ i _ => l.length - (intOf i).toNat)
        case atStart => exact ⟨0, rfl, Nat.zero_le _, rfl, HW1.out, Below.refl _ _⟩
        case round =>
          obtain ⟨k, rfl, hk, rfl, hb, hbW⟩ := hrel
          have HB := Lib.hid (And.intro hb hbW)
          clear hb hbW
          by_cases hkl : k < l.length
          · obtain ⟨b, off, ax, cx, rfl, c0, c1, c2, c3, hx⟩ := ExsV.at HU.out hkl
            have hin := hH.below HB.out.1
            have c0 := hin.cell c0
            have c1 := hin.cell c1
            have c2 := hin.cell c2
            have c3 := hin.cell c3
            have hmem := List.getElem_mem hkl
            have LT := Lib.hid (show (latesOf (getI m) (l.take (k + 1))).foldl max 0 = max ((latesOf (getI m) (l.take k)).foldl max 0) (lateOf (getI m) l[k]) from by rw [latesOf_take _ l k hkl, List.foldl_append]; rfl)
            have hbx := HBD.out l[k]
            have HMr := Lib.hid (HM1.out.below HB.out.2)
            have hfb := foldl_max (latesOf (getI m) (l.take k)) 0 (by omega) (by omega) (fun x hx => by
              obtain ⟨e, _, rfl⟩ := latesOf_mem _ _ _ hx
              exact HBD.out e)
            generalize l[k] = x at *
            generalize (latesOf (getI m) (l.take k)).foldl max 0 = acc at *
            go_wp2_with fail
            refine (HIH.out x hmem _ hx _ (hin.alloc _) (HMr.out.alloc _)).mono ?_
            rintro r w2 ⟨rfl, hb2⟩
            have hs1 := HB.out.1.size
            have hs2 := HB.out.2.size
            have HB2 := Lib.hid (And.intro ((HB.out.1.alloc hs1 _).trans (hb2.mono (by simp; omega))) ((HB.out.2.alloc hs2 _).trans (hb2.mono (by simp; omega))))
            generalize lateOf (getI m) x = q at *
            go_wp2_with fail
            all_goals go_roundw
            all_goals (first | (case rel => exact ⟨k + 1, by go_num, by omega, by rw [LT.out]; congr 1; omega, HB2.out.1, HB2.out.2⟩) | skip)
            all_goals (simp [intOf]; omega)
          · go_wp2_with fail
            go_ret
            exact ⟨ret_int (by rw [HX.out, List.take_of_length_le (by omega)]), HB.out.1⟩
end Go.Proofs.YthihoafemahgmaaDoor
namespace Go.Proofs.YthihoafemahgmaaDoor
open Go.RowKit Mx
theorem getI_set (m : Env Int) (k : ByteArray) (v : Int) : getI (m.set k v) = setL (getI m) k v := by
  funext s
  unfold getI Env.set setL
  split <;> rfl
structure NamS (w wr : World) (bm : Nat) (m : Env Int) (vl : Value) : Prop where
  below : Below w.heap.size w wr
  size : w.heap.size + 2 ≤ wr.heap.size
  mp : MapAt (Value.int .i64) wr bm m
  box : wr.cell? ⟨w.heap.size, 2, none⟩ = some vl
  bd : ∀ s, 0 ≤ getI m s ∧ getI m s ≤ 2
theorem NamS.next {w wr w' : World} {bm : Nat} {m : Env Int} {vl : Value} (h : NamS w wr bm m vl) (hb : Below wr.heap.size wr w') : NamS w w' bm m vl := by
  have hs := h.size
  exact ⟨h.below.trans (hb.mono (by omega)), Nat.le_trans hs hb.size, h.mp.below hb, by rw [hb.cell (p := ⟨w.heap.size, 2, none⟩) (show w.heap.size < wr.heap.size by omega)]; exact h.box, h.bd⟩
set_option maxHeartbeats 4000000 in
set_option maxRecDepth 100000 in
theorem names_new (H : Kn) (p : Pr) (vi vo vl va vc : Value) (hp : PrP H p vi vo vl va vc) (ks : Env Int) (hfm : ∀ f ∈ p.fl, formAll ks f.e = true) (hn : p.fl.length ≤ 1000000) (w : World) (hH : H.In w) :
    Calls Tryd.prog 35 #[.agg #[vi, vo, vl, va, vc]] w fun r w' => ∃ bm m, r = .returned (.map (some bm)) ∧ MapAt (Value.int .i64) w' bm m ∧ getI m = namesM p ∧ (∀ s, 0 ≤ getI m s ∧ getI m s ≤ 2) ∧ w.heap.size ≤ bm ∧ Below w.heap.size w w' := by
  obtain ⟨h1, h2, h3, h4, h5⟩ := hp
  obtain ⟨ai, ci, rfl⟩ := h1.len
  obtain ⟨ao, co, rfl⟩ := h2.len
  obtain ⟨al, cl, rfl⟩ := h3.len
  obtain ⟨aa, ca, rfl⟩ := h4.len
  obtain ⟨ac, cc, rfl⟩ := h5.len
  have H3 := Lib.hid h3
  have HFM := Lib.hid hfm
  clear h1 h2 h3 h4 h5 hfm
  have hmm := @run_makeMap Tryd.prog
  go_enter Tryd.func35, Tryd.ntmps35
  go_wp2_with fail
  have hN0 : NamS w ((w.alloc (.cells #[.slice ai p.ins.length ci, .slice ao p.outs.length co, .slice al p.fl.length cl, .slice aa p.as.length ca, .slice ac p.cs.length cc] 34)).alloc (.map #[] 0)) (w.heap.size + 1) Env.none (.slice al p.fl.length cl) := by
    refine ⟨((Below.refl _ _).alloc (Nat.le_refl _) _).alloc (by simp) _, by simp, ?_, by rw [World.cell?_alloc_past _ _ _ (by simp), World.cell?_alloc_new]; rfl, fun s => by simp [getI, Env.none]⟩
    have := MapAt.made (Value.int .i64) (w.alloc (.cells #[.slice ai p.ins.length ci, .slice ao p.outs.length co, .slice al p.fl.length cl, .slice aa p.as.length ca, .slice ac p.cs.length cc] 34))
    simpa using this
  generalize (w.alloc (.cells #[.slice ai p.ins.length ci, .slice ao p.outs.length co, .slice al p.fl.length cl, .slice aa p.as.length ca, .slice ac p.cs.length cc] 34)).alloc (.map #[] 0) = W0 at *
  have HN0 := Lib.hid hN0
  have HM0 := Lib.hid (show namesN p.fl (2 * p.fl.length + 1) (getI Env.none) = namesM p from rfl)
  have HMU := Lib.hid (show mu (getI Env.none) p.fl < 2 * p.fl.length + 1 from by have := mu_zero p.fl; show mu (fun _ => 0) p.fl < _; omega)
  clear hN0
  go_loopg [4] (2 * p.fl.length + 1) (fun f u4 wr => ∃ m b, u4 = .bool b ∧ NamS w wr (w.heap.size + 1) m (.slice al p.fl.length cl) ∧ ((b = true ∧ namesN p.fl f (getI m) = namesM p ∧ mu (getI m) p.fl < f) ∨ (b = false ∧ getI m = namesM p)))
  case atStart => exact ⟨Env.none, true, rfl, HN0.out, .inl ⟨rfl, HM0.out, HMU.out⟩⟩
  case round =>
    obtain ⟨m, b, rfl, hN, hway⟩ := hrel
    have HN := Lib.hid hN
    have hz := hN.size
    clear hN
    rcases hway with ⟨rfl, hnm, hmu⟩ | ⟨rfl, hnm⟩
    · have HNM := Lib.hid hnm
      have HMU := Lib.hid hmu
      have hbox := HN.out.box
      clear hnm hmu
      go_wp2_with fail
      obtain ⟨f0, hf0⟩ : ∃ f0, gk = f0 := ⟨_, rfl⟩
      go_loopw [4, 13] (fun u4 i wr => ∃ (k : Nat) (m' : Env Int) (b : Bool), i = .int .i64 k ∧ u4 = .bool b ∧ k ≤ p.fl.length ∧ NamS w wr (w.heap.size + 1) m' (.slice al p.fl.length cl) ∧ namesRound p.fl (getI m) false = namesRound (p.fl.drop k) (getI m') b ∧ (∀ s, getI m s ≤ getI m' s) ∧ (b = true → ∃ f ∈ p.fl, getI m f.name < getI m' f.name)) (fun _ i _ => p.fl.length - (intOf i).toNat)
      case atStart => exact ⟨0, m, false, rfl, rfl, Nat.zero_le _, HN.out, by simp, fun s => Int.le_refl _, fun h => by cases h⟩
      case round =>
        obtain ⟨k, m', b, rfl, rfl, hk, hN', hrd, hle, hgain⟩ := hrel
        have HN' := Lib.hid hN'
        have HRD := Lib.hid hrd
        have HLE := Lib.hid hle
        have HGAIN := Lib.hid hgain
        have hz' := hN'.size
        clear hN' hrd hle hgain
        by_cases hkl : k < p.fl.length
        · obtain ⟨b1, off, rfl, _, hfc⟩ := SlV.at H3.out hkl
          have hfm := HFM.out p.fl[k] (List.getElem_mem hkl)
          have hmem := List.getElem_mem hkl
          obtain ⟨u, c0, c1, c2, c3, c4, c5, hu⟩ := hfc.cells
          obtain ⟨ax, cx, rfl⟩ := hu.len
          have hHr := hH.below HN'.out.below
          have c0 := hHr.cell c0
          have c1 := hHr.cell c1
          have c2 := hHr.cell c2
          have c3 := hHr.cell c3
          have c4 := hHr.cell c4
          have c5 := hHr.cell c5
          simp only [Nat.add_zero] at c0
          have hEx : ExV H p.fl[k].e (.agg #[.string p.fl[k].e.op, .int .i64 p.fl[k].e.n, .string p.fl[k].e.s, .slice ax p.fl[k].e.l.length cx]) := ⟨_, rfl, hu⟩
          have HEX := Lib.hid hEx
          have HDR := Lib.hid (drop_round hkl (getI m') b)
          have HLB := late_bound (getI m') HN'.out.bd p.fl[k].e
          have HNB := HN'.out.bd p.fl[k].name
          have hbox' := HN'.out.box
          clear hu hfc hEx
          generalize p.fl[k] = x at *
          obtain ⟨xn, xk, xe⟩ := x
          dsimp only at *
          generalize xe.op = xo at *
          generalize xe.n = xnn at *
          generalize xe.s = xs at *
          generalize xe.l.length = xl at *
          have HMEM := Lib.hid hmem
          clear hmem
          have HNx := Lib.hid (HN'.out.next ((Below.refl _ _).alloc (Nat.le_refl _) (.cells #[.string xn, .int .i64 xk, .string xo, .int .i64 xnn, .string xs, .slice ax xl cx] 47)))
          have HHx := Lib.hid (hH.below HNx.out.below)
          go_wp2_with fail
          refine (late_any H m' (w.heap.size + 1) HNx.out.bd ks xe hfm _ HEX.out _ HHx.out HNx.out.mp).mono ?_
          rintro r w2 ⟨rfl, hb2⟩
          have HN2 := Lib.hid (HNx.out.next hb2)
          have hq2 : w2.cell? ⟨wr.heap.size, 0, none⟩ = some (.string xn) := by
            rw [hb2.cell (p := ⟨wr.heap.size, 0, none⟩) (by simp), World.cell?_alloc_new]; rfl
          have hs2 := hb2.size
          simp at hs2
          have hrun := HN2.out.mp.run (P := Tryd.prog) Tryd.underlying52 Tryd.underlying9 (d := 0) (by kernel_rfl) xn false
          simp only [Bool.false_eq_true, if_false] at hrun
          have HG := Lib.hid (show getI m' xn = (m' xn).getD 0 from rfl)
          generalize lateOf (getI m') xe = q at *
          generalize hg : (m' xn).getD 0 = g at *
          rw [HG.out] at HDR HNB
          have HTAKE := Lib.hid (show ∀ v, getI (m'.set xn v) xn = v from fun v => by rw [getI_set]; simp [setL])
          by_cases hlt : g < q
          · have HDR' := Lib.hid (show namesRound (List.drop k p.fl) (getI m') b = namesRound (List.drop (k + 1) p.fl) (getI (m'.set xn q)) true from by rw [HDR.out, if_pos hlt, getI_set])
            have HM2 := Lib.hid HN2.out.mp
            go_wp2_with (at_mapUpdate; refine wp_store (Value.int .i64) 52 9 3 Tryd.underlying52 Tryd.underlying9 (w.heap.size + 1) m' HM2.out _ _ _ rfl rfl rfl xn rfl q rfl ?_; intro w3 hM3 hT3)
            have HN3 := Lib.hid (show NamS w w3 (w.heap.size + 1) (m'.set xn q) (.slice (some ⟨b1, off, none⟩) p.fl.length cl) from ⟨hT3.below HN2.out.below (Nat.le_succ _), by rw [hT3.size]; exact HN2.out.size, hM3, by rw [hT3.cell (p := ⟨w.heap.size, 2, none⟩) (show w.heap.size ≠ w.heap.size + 1 by omega)]; exact HN2.out.box, fun s => by
              rw [getI_set]; unfold setL; split
              · exact HLB
              · exact HN'.out.bd s⟩)
            go_roundw
            case rel =>
              refine ⟨k + 1, _, true, by go_num, rfl, by omega, HN3.out, by rw [HRD.out, HDR'.out], fun s => ?_, fun _ => ⟨_, HMEM.out, ?_⟩⟩
              · have h1 := HLE.out s
                rw [getI_set]; unfold setL; split
                · rename_i he; rw [he] at h1 ⊢; rw [HG.out] at h1; omega
                · exact h1
              · have h1 := HLE.out xn
                show getI m xn < _
                rw [HTAKE.out]; rw [HG.out] at h1; omega
            case measure => simp [intOf]; omega
          · have HDR' := Lib.hid (show namesRound (List.drop k p.fl) (getI m') b = namesRound (List.drop (k + 1) p.fl) (getI m') b from by rw [HDR.out, if_neg hlt])
            go_wp2_with fail
            go_roundw
            case rel => exact ⟨k + 1, m', b, by go_num, rfl, by omega, HN2.out, by rw [HRD.out, HDR'.out], HLE.out, HGAIN.out⟩
            case measure => simp [intOf]; omega
        · obtain rfl : k = p.fl.length := by omega
          have hR : namesRound p.fl (getI m) false = (getI m', b) := by rw [HRD.out, List.drop_length]; rfl
          have HR := Lib.hid hR
          clear hR
          go_wp2_with fail
          go_roundg (gk - 1)
          case rel =>
            obtain ⟨g', rfl⟩ : ∃ g', gk = g' + 1 := ⟨gk - 1, by have := HMU.out; omega⟩
            have hstep := HNM.out
            rw [namesN_step, HR.out] at hstep
            cases b with
            | true =>
              obtain ⟨f, hf, hgt⟩ := HGAIN.out rfl
              have := mu_lt (getI m) (getI m') HLE.out (fun s => (HN'.out.bd s).2) p.fl f hf hgt
              have hm := HMU.out
              exact ⟨m', true, rfl, HN'.out, .inl ⟨rfl, hstep, by omega⟩⟩
            | false => exact ⟨m', false, rfl, HN'.out, .inr ⟨rfl, hstep⟩⟩
          case measure => have := HMU.out; omega
    · have HNM := Lib.hid hnm
      go_wp2_with fail
      go_ret
      exact ⟨_, m, rfl, HN.out.mp, HNM.out, HN.out.bd, Nat.le_succ _, HN.out.below⟩
theorem names_any (H : Kn) (p : Pr) (vi vo vl va vc : Value) (hp : PrP H p vi vo vl va vc) (ks : Env Int) (hfm : ∀ f ∈ p.fl, formAll ks f.e = true) (hn : p.fl.length ≤ 1000000) (w : World) (hH : H.In w) :
    Calls Tryd.prog 35 #[.agg #[vi, vo, vl, va, vc]] w fun r w' => ∃ bm m, r = .returned (.map (some bm)) ∧ MapAt (Value.int .i64) w' bm m ∧ getI m = namesM p ∧ (∀ s, 0 ≤ getI m s ∧ getI m s ≤ 2) ∧ Below w.heap.size w w' :=
  (names_new H p vi vo vl va vc hp ks hfm hn w hH).mono fun _ _ ⟨bm, m, h1, h2, h3, h4, _, h5⟩ => ⟨bm, m, h1, h2, h3, h4, h5⟩
end Go.Proofs.YthihoafemahgmaaDoor
