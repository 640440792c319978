/- Walks: SameInts of two rows; lustrumlaw2.OrderIs. -/
import Derived.Test.YtdceonkbckmjdaaDoorRfL
import Derived.Test.YtdceonkbckmjdaaDoorGof
import Derived.Test.YtdceonkbckmjdaaDoorHv
import Derived.Test.YtdceonkbckmjdaaDoorOck
import Derived.BigQuiet
namespace Go.Proofs.YtdceonkbckmjdaaDoor
open Go.RowKit Mx

theorem checkFlat_le (p : Pr) : checkFlat p ≤ 9 := by
  unfold checkFlat
  repeat' split
  all_goals omega
theorem orderM_err {p : Pr} {x : Nat × Int} (h : orderM p = .error x) : 1 ≤ x.1 ∧ x.1 ≤ 9 := by
  unfold orderM at h
  split at h
  · cases h; exact ⟨by show 1 ≤ checkFlat p; omega, checkFlat_le p⟩
  · split at h
    · cases h; exact ⟨by simp, by simp⟩
    · cases h
theorem orderM_ok {p : Pr} {l : List Nat} (h : orderM p = .ok l) : checkFlat p = 0 ∧ l.length = p.fl.length := by
  unfold orderM at h
  split at h
  · cases h
  · rename_i h0
    split at h
    · cases h
    · cases h; exact ⟨by simpa using h0, by rw [sortN_len, graph_len]; simp⟩
theorem checkM_le (p : Pr) : (checkM p).1 ≤ 9 ∧ ((checkM p).2 ≠ -1 → 1 ≤ (checkM p).1) := by
  unfold checkM lateM
  cases h : orderM p with
  | error x => exact ⟨(orderM_err h).2, fun _ => (orderM_err h).1⟩
  | ok l =>
    dsimp only
    split
    · exact ⟨by simp, fun _ => by simp⟩
    · split <;> simp
theorem sints_ints {H : Kn} {l : List Nat} {v : Value} (h : IntsV H l v) : SIntsV H (l.map fun k : Nat => (k : Int)) v :=
  h.imp (fun ⟨e, x⟩ => ⟨by rw [e]; rfl, x⟩) fun ⟨b, off, cap, e, h1, h2, h3⟩ => ⟨b, off, cap, by simpa using e, by simpa using h1, h2, fun i hi => by
    have := h3 i (by simpa using hi)
    simpa [IntC, natV] using this⟩
theorem errT_below {w w' : World} (h : ErrTypeLaid w) (hb : Below w.heap.size w w') : ErrTypeLaid w' := by
  unfold ErrTypeLaid at h ⊢
  rw [hb.cell (p := ⟨9, 0, none⟩) (World.block_lt_of_cell? w _ h)]
  exact h
set_option maxHeartbeats 2000000 in
set_option maxRecDepth 100000 in
/-- Two slices of the same numbers in memory. -/
theorem sameInts_any (H : Kn) (l : List Int) (v1 v2 : Value) (h1 : SIntsV H l v1) (h2 : SIntsV H l v2) (hl : l.length ≤ 1000000) (w : World) (hH : H.In w) :
    Calls Tryd.prog 21 #[v1, v2] w fun e w' => e = .returned (.bool true) ∧ Below w.heap.size w w' := by
  obtain ⟨a1, c1, rfl⟩ := h1.len
  obtain ⟨a2, c2, rfl⟩ := h2.len
  have H1 := Lib.hid h1
  have H2 := Lib.hid h2
  clear h1 h2
  go_enter Tryd.func21, Tryd.ntmps21
  go_wp2_with fail
  go_loopw [5] (fun i wr => ∃ (k m : Nat), i = .int .i64 k ∧ k ≤ l.length ∧ wr = w.drewN m) (fun i _ => l.length - (intOf i).toNat)
  case atStart => exact ⟨0, 0, rfl, Nat.zero_le _, rfl⟩
  case round =>
    obtain ⟨k, m, rfl, hk, rfl⟩ := hrel
    by_cases hlt : k < l.length
    · obtain ⟨b1, o1, e1, _, d1⟩ := SlV.at H1.out hlt
      obtain ⟨b2, o2, e2, _, d2⟩ := SlV.at H2.out hlt
      cases e1
      cases e2
      have d1 : H.cell b1 (o1 + k * 1 + 0) = some (.int .i64 l[k]) := d1
      have d2 : H.cell b2 (o2 + k * 1 + 0) = some (.int .i64 l[k]) := d2
      simp only [Nat.mul_one, Nat.add_zero] at d1 d2
      have d1 := hH.cell d1
      have d2 := hH.cell d2
      generalize l[k] = x at *
      go_wp2_with fail
      go_quiet (fail)
      go_wp2_with fail
      go_roundw
      case rel => exact ⟨k + 1, m + nq, by go_num, by omega, rfl⟩
      case measure => simp [intOf]; omega
    · go_wp2_with fail
      go_ret
      exact ⟨rfl, below_drewN (Below.refl _ _) _⟩
set_option maxHeartbeats 16000000 in
set_option maxRecDepth 100000 in
theorem orderIs_any (H : Kn) (T : LevelsAt H) (sp : Nat → Addr) (p : Pr) (vi vo vl va vc : Value) (hp : PrP H p vi vo vl va vc) (hsz : p.ins.length ≤ 1048576 ∧ p.outs.length ≤ 1048576 ∧ Ex.weightL p.terms ≤ 1048576) (w : World) (hH : H.In w) (S : Sents w sp) (hE : ErrTypeLaid w) :
    Calls Tryd.prog 4 #[.agg #[vi, vo, vl, va, vc]] w fun r w' => r = .returned (.bool true) ∧ Below w.heap.size w w' := by
  obtain ⟨z1, z2, z3⟩ := hsz
  have hle : ∀ w1, Below w.heap.size w w1 → LevelsAt (allKn w1) := fun w1 hb => T.le (kn_le_all (hH.below hb))
  have HLE := Lib.hid hle
  have hpl := partsL_le_weightL p.terms
  have hlw : p.fl.length + p.as.length + p.cs.length ≤ Ex.weightL p.terms := by
    have h := len_weightL p.terms
    have h2 : p.terms.length = p.fl.length + p.as.length + p.cs.length := by simp only [Pr.terms, List.length_append, List.length_map]
    omega
  clear hle
  have HP := Lib.hid hp
  obtain ⟨h1, h2, h3, h4, h5⟩ := hp
  obtain ⟨ai, ci, rfl⟩ := h1.len
  obtain ⟨ao, co, rfl⟩ := h2.len
  obtain ⟨al, cl, rfl⟩ := h3.len
  obtain ⟨aa, ca, rfl⟩ := h4.len
  obtain ⟨ac, cc, rfl⟩ := h5.len
  clear h1 h2 h3 h4 h5
  have hP0 := heap_alloc_new w (.cells #[.slice ai p.ins.length ci, .slice ao p.outs.length co, .slice al p.fl.length cl, .slice aa p.as.length ca, .slice ac p.cs.length cc] 27)
  have hb0 : Below w.heap.size w (w.alloc (.cells #[.slice ai p.ins.length ci, .slice ao p.outs.length co, .slice al p.fl.length cl, .slice aa p.as.length ca, .slice ac p.cs.length cc] 27)) := (Below.refl _ _).alloc (Nat.le_refl _) _
  have HB0 := Lib.hid hb0
  have HP0 := Lib.hid hP0
  clear hP0 hb0
  go_enter Tryd.func4, Tryd.ntmps4
  go_wp2_with fail
  generalize w.alloc (.cells #[.slice ai p.ins.length ci, .slice ao p.outs.length co, .slice al p.fl.length cl, .slice aa p.as.length ca, .slice ac p.cs.length cc] 27) = W1 at *
  refine (first_any H T sp W1 (hH.below HB0.out) (S.below HB0.out)).mono ?_
  rintro r w1 ⟨rfl, hb1⟩
  have HB1 := Lib.hid (HB0.out.trans (hb1.mono HB0.out.size))
  have HP1 := Lib.hid ((hb1.block w.heap.size (Array.getElem?_eq_some_iff.1 HP0.out).1).trans HP0.out)
  have m0 : w1.cell? ⟨w.heap.size, 0, none⟩ = some (.slice ai p.ins.length ci) := by have h := HP1.out; simp [World.cell?, h]
  have m1 : w1.cell? ⟨w.heap.size, 1, none⟩ = some (.slice ao p.outs.length co) := by have h := HP1.out; simp [World.cell?, h]
  have m2 : w1.cell? ⟨w.heap.size, 2, none⟩ = some (.slice al p.fl.length cl) := by have h := HP1.out; simp [World.cell?, h]
  have m3 : w1.cell? ⟨w.heap.size, 3, none⟩ = some (.slice aa p.as.length ca) := by have h := HP1.out; simp [World.cell?, h]
  have m4 : w1.cell? ⟨w.heap.size, 4, none⟩ = some (.slice ac p.cs.length cc) := by have h := HP1.out; simp [World.cell?, h]
  go_wp2_with fail
  refine (heavy_any H p _ _ _ _ _ HP.out ⟨by omega, by omega, by omega⟩ w1 (hH.below HB1.out)).mono ?_
  rintro r w2 ⟨rfl, hb2⟩
  have HB2 := Lib.hid (HB1.out.trans (hb2.mono HB1.out.size))
  have HP2 := Lib.hid ((hb2.block w.heap.size (Array.getElem?_eq_some_iff.1 HP1.out).1).trans HP1.out)
  clear m0 m1 m2 m3 m4
  have m0 : w2.cell? ⟨w.heap.size, 0, none⟩ = some (.slice ai p.ins.length ci) := by have h := HP2.out; simp [World.cell?, h]
  have m1 : w2.cell? ⟨w.heap.size, 1, none⟩ = some (.slice ao p.outs.length co) := by have h := HP2.out; simp [World.cell?, h]
  have m2 : w2.cell? ⟨w.heap.size, 2, none⟩ = some (.slice al p.fl.length cl) := by have h := HP2.out; simp [World.cell?, h]
  have m3 : w2.cell? ⟨w.heap.size, 3, none⟩ = some (.slice aa p.as.length ca) := by have h := HP2.out; simp [World.cell?, h]
  have m4 : w2.cell? ⟨w.heap.size, 4, none⟩ = some (.slice ac p.cs.length cc) := by have h := HP2.out; simp [World.cell?, h]
  unfold heavyI
  by_cases hh : heavy p = true
  · rw [if_pos hh]
    go_wp2_with fail
    go_ret
    exact ⟨rfl, HB2.out⟩
  rw [if_neg hh]
  obtain ⟨y1, y2, y3⟩ : Ex.weightL p.terms ≤ 1500 ∧ p.fl.length ≤ 100 ∧ p.ins.length ≤ 40 := by
    unfold heavy at hh
    simp only [Bool.or_eq_true, decide_eq_true_eq, not_or, Nat.not_lt] at hh
    exact ⟨hh.1.1, hh.1.2, hh.2⟩
  clear hh
  go_wp2_with fail
  refine (flatOf_any p _ _ _ _ _ H HP.out ⟨by omega, by omega, by omega, by omega⟩ _ (hH.below HB2.out)).mono ?_
  rintro r w3 ⟨vi3, vo3, vl3, va3, vc3, K3, rfl, hp3, hst3⟩
  have HB3 := Lib.hid (HB2.out.trans (hst3.below.mono HB2.out.size))
  have HP3 := Lib.hid ((hst3.below.block w.heap.size (Array.getElem?_eq_some_iff.1 HP2.out).1).trans HP2.out)
  have HQ3 := Lib.hid (hp3.le (kn_le_all hst3.isin))
  clear hp3 hst3
  go_wp2_with fail
  refine (order_any (allKn w3) (HLE.out _ HB3.out) sp p _ _ _ _ _ HQ3.out w3 (allKn_in w3) (S.below HB3.out) ⟨by omega, by omega, by omega, by omega, by omega⟩ (by omega) (any_hpick p)).mono ?_
  rintro r w4 ⟨hb4, hpo⟩
  have HB4 := Lib.hid (HB3.out.trans (hb4.mono HB3.out.size))
  have HP4 := Lib.hid ((hb4.block w.heap.size (Array.getElem?_eq_some_iff.1 HP3.out).1).trans HP3.out)
  have HM := Lib.hid (show lateM p = (match orderM p with | .error e => .error e | .ok _ => .ok (p.fl.map fun f => namesM p f.name)) from rfl)
  cases hom : orderM p with
  | error x =>
    rw [hom] at hpo HM
    obtain ⟨v4, rfl, hv4⟩ := hpo
    have hlm : lateM p = .error x := HM.out
    have hxe := orderM_err hom
    have HV4 := Lib.hid hv4
    clear hv4
    have hx0 : (0 : Int) < (x.1 : Int) := by omega
    clear m0 m1 m2 m3 m4
    have m0 : w4.cell? ⟨w.heap.size, 0, none⟩ = some (.slice ai p.ins.length ci) := by have h := HP4.out; simp [World.cell?, h]
    have m1 : w4.cell? ⟨w.heap.size, 1, none⟩ = some (.slice ao p.outs.length co) := by have h := HP4.out; simp [World.cell?, h]
    have m2 : w4.cell? ⟨w.heap.size, 2, none⟩ = some (.slice al p.fl.length cl) := by have h := HP4.out; simp [World.cell?, h]
    have m3 : w4.cell? ⟨w.heap.size, 3, none⟩ = some (.slice aa p.as.length ca) := by have h := HP4.out; simp [World.cell?, h]
    have m4 : w4.cell? ⟨w.heap.size, 4, none⟩ = some (.slice ac p.cs.length cc) := by have h := HP4.out; simp [World.cell?, h]
    go_wp2_with fail
    refine (flatOf_any p _ _ _ _ _ H HP.out ⟨by omega, by omega, by omega, by omega⟩ _ (hH.below HB4.out)).mono ?_
    rintro r w5 ⟨vi5, vo5, vl5, va5, vc5, K5, rfl, hp5, hst5⟩
    have HB5 := Lib.hid (HB4.out.trans (hst5.below.mono HB4.out.size))
    have HP5 := Lib.hid ((hst5.below.block w.heap.size (Array.getElem?_eq_some_iff.1 HP4.out).1).trans HP4.out)
    have HV4 := Lib.hid (HV4.out.below hst5.below)
    have HQ5 := Lib.hid (hp5.le (kn_le_all hst5.isin))
    clear hp5 hst5
    clear m0 m1 m2 m3 m4
    have m0 : w5.cell? ⟨w.heap.size, 0, none⟩ = some (.slice ai p.ins.length ci) := by have h := HP5.out; simp [World.cell?, h]
    have m1 : w5.cell? ⟨w.heap.size, 1, none⟩ = some (.slice ao p.outs.length co) := by have h := HP5.out; simp [World.cell?, h]
    have m2 : w5.cell? ⟨w.heap.size, 2, none⟩ = some (.slice al p.fl.length cl) := by have h := HP5.out; simp [World.cell?, h]
    have m3 : w5.cell? ⟨w.heap.size, 3, none⟩ = some (.slice aa p.as.length ca) := by have h := HP5.out; simp [World.cell?, h]
    have m4 : w5.cell? ⟨w.heap.size, 4, none⟩ = some (.slice ac p.cs.length cc) := by have h := HP5.out; simp [World.cell?, h]
    go_wp2_with fail
    refine (lates_any (allKn w5) (HLE.out _ HB5.out) sp p _ _ _ _ _ HQ5.out w5 (allKn_in w5) (S.below HB5.out) ⟨by omega, by omega, by omega, by omega, by omega⟩ (by omega) (any_hpick p)).mono ?_
    rintro r w6 ⟨hb6, hpl⟩
    have HB6 := Lib.hid (HB5.out.trans (hb6.mono HB5.out.size))
    have HP6 := Lib.hid ((hb6.block w.heap.size (Array.getElem?_eq_some_iff.1 HP5.out).1).trans HP5.out)
    have HV4 := Lib.hid (HV4.out.below hb6)
    rw [hlm] at hpl
    obtain ⟨v6, rfl, hv6⟩ := hpl
    have HV6 := Lib.hid hv6
    clear hv6
    clear m0 m1 m2 m3 m4
    have m0 : w6.cell? ⟨w.heap.size, 0, none⟩ = some (.slice ai p.ins.length ci) := by have h := HP6.out; simp [World.cell?, h]
    have m1 : w6.cell? ⟨w.heap.size, 1, none⟩ = some (.slice ao p.outs.length co) := by have h := HP6.out; simp [World.cell?, h]
    have m2 : w6.cell? ⟨w.heap.size, 2, none⟩ = some (.slice al p.fl.length cl) := by have h := HP6.out; simp [World.cell?, h]
    have m3 : w6.cell? ⟨w.heap.size, 3, none⟩ = some (.slice aa p.as.length ca) := by have h := HP6.out; simp [World.cell?, h]
    have m4 : w6.cell? ⟨w.heap.size, 4, none⟩ = some (.slice ac p.cs.length cc) := by have h := HP6.out; simp [World.cell?, h]
    go_wp2_with fail
    refine (orderOf_any H p _ _ _ _ _ HP.out (by omega) (by omega) ⟨by omega, by omega, by omega, by omega⟩ w6 (hH.below HB6.out)).mono ?_
    rintro r w7 ⟨hb7, u1, u2, rfl, hord⟩
    unfold OrdRef at hord
    rw [hom] at hord
    obtain ⟨rfl, rfl⟩ := hord
    have HB7 := Lib.hid (HB6.out.trans (hb7.mono HB6.out.size))
    have HP7 := Lib.hid ((hb7.block w.heap.size (Array.getElem?_eq_some_iff.1 HP6.out).1).trans HP6.out)
    have HV4 := Lib.hid (HV4.out.below hb7)
    have HV6 := Lib.hid (HV6.out.below hb7)
    have hb8 : Below w7.heap.size w7 (w7.alloc (.cells #[.int .i64 (x.1 : Int), .int .i64 x.2] 47)) := (Below.refl _ _).alloc (Nat.le_refl _) _
    have HF := Lib.hid (show (w7.alloc (.cells #[.int .i64 (x.1 : Int), .int .i64 x.2] 47)).heap[w7.heap.size]? = _ from heap_alloc_new _ _)
    have HB8 := Lib.hid (HB7.out.trans (hb8.mono HB7.out.size))
    have HP8 := Lib.hid ((hb8.block w.heap.size (Array.getElem?_eq_some_iff.1 HP7.out).1).trans HP7.out)
    have HV4 := Lib.hid (HV4.out.below hb8)
    have HV6 := Lib.hid (HV6.out.below hb8)
    clear m0 m1 m2 m3 m4
    have m0 : (w7.alloc (.cells #[.int .i64 (x.1 : Int), .int .i64 x.2] 47)).cell? ⟨w.heap.size, 0, none⟩ = some (.slice ai p.ins.length ci) := by have h := HP8.out; simp [World.cell?, h]
    have m1 : (w7.alloc (.cells #[.int .i64 (x.1 : Int), .int .i64 x.2] 47)).cell? ⟨w.heap.size, 1, none⟩ = some (.slice ao p.outs.length co) := by have h := HP8.out; simp [World.cell?, h]
    have m2 : (w7.alloc (.cells #[.int .i64 (x.1 : Int), .int .i64 x.2] 47)).cell? ⟨w.heap.size, 2, none⟩ = some (.slice al p.fl.length cl) := by have h := HP8.out; simp [World.cell?, h]
    have m3 : (w7.alloc (.cells #[.int .i64 (x.1 : Int), .int .i64 x.2] 47)).cell? ⟨w.heap.size, 3, none⟩ = some (.slice aa p.as.length ca) := by have h := HP8.out; simp [World.cell?, h]
    have m4 : (w7.alloc (.cells #[.int .i64 (x.1 : Int), .int .i64 x.2] 47)).cell? ⟨w.heap.size, 4, none⟩ = some (.slice ac p.cs.length cc) := by have h := HP8.out; simp [World.cell?, h]
    go_wp2_with fail
    generalize w7.alloc (.cells #[.int .i64 (x.1 : Int), .int .i64 x.2] 47) = W8 at *
    have hS : (allKn W8).In W8.drew := (allKn_in W8).below (Below.refl _ _).drew
    have k0 : (allKn W8).cell w.heap.size 0 = some (.slice ai p.ins.length ci) := by rw [allKn_cell]; exact m0
    have k1 : (allKn W8).cell w.heap.size 1 = some (.slice ao p.outs.length co) := by rw [allKn_cell]; exact m1
    have k2 : (allKn W8).cell w.heap.size 2 = some (.slice al p.fl.length cl) := by rw [allKn_cell]; exact m2
    have k3 : (allKn W8).cell w.heap.size 3 = some (.slice aa p.as.length ca) := by rw [allKn_cell]; exact m3
    have k4 : (allKn W8).cell w.heap.size 4 = some (.slice ac p.cs.length cc) := by rw [allKn_cell]; exact m4
    have hbd : Below W8.heap.size W8 W8.drew := (Below.refl _ _).drew
    have HBD := Lib.hid (HB8.out.trans (hbd.mono HB8.out.size))
    have HPD := Lib.hid ((hbd.block w.heap.size (Array.getElem?_eq_some_iff.1 HP8.out).1).trans HP8.out)
    have HV4 := Lib.hid (HV4.out.below hbd)
    have HV6 := Lib.hid (HV6.out.below hbd)
    have HF := Lib.hid ((hbd.block _ (Array.getElem?_eq_some_iff.1 HF.out).1).trans HF.out)
    refine wp_region_2 (fun w' => (allKn W8).In w') (fun _ => True) 99 (by kernel_rfl) ?_
    refine wpAny2_take (i := 0) (oi := _) (v := ?_) rfl (by decide) (by kernel_rfl) (by kernel_rfl) (by kernel_rfl) (by kernel_rfl) (fun _ _ _ h => h) hS (fun _ => trivial) (Or.inl ⟨by rfl, ?hy⟩) ?_
    case hy => intro w hSw; have z0 := hSw.cell k0; have z1 := hSw.cell k1; have z2 := hSw.cell k2; have z3 := hSw.cell k3; have z4 := hSw.cell k4; first | (go_simp; done) | (go_simp; with_reducible rfl)
    try simp only [Act.put, List.setIfInBounds_toArray, List.set_cons_zero, List.set_cons_succ, List.getElem_toArray, List.getElem_cons_zero, List.getElem_cons_succ]
    refine wpAny2_take (i := 3) (oi := _) (v := ?_) rfl (by decide) (by kernel_rfl) (by kernel_rfl) (by kernel_rfl) (by kernel_rfl) (fun _ _ _ h => h) hS (fun _ => trivial) (Or.inl ⟨by rfl, ?hy⟩) ?_
    case hy => intro w hSw; have z0 := hSw.cell k0; have z1 := hSw.cell k1; have z2 := hSw.cell k2; have z3 := hSw.cell k3; have z4 := hSw.cell k4; first | (go_simp; done) | (go_simp; with_reducible rfl)
    try simp only [Act.put, List.setIfInBounds_toArray, List.set_cons_zero, List.set_cons_succ, List.getElem_toArray, List.getElem_cons_zero, List.getElem_cons_succ]
    refine wpAny2_one (i := 1) (o := _) (by kernel_rfl) rfl (fun K_ hK => ?_)
    go_simp
    go_at_call 10
    refine (flatOf_any p _ _ _ _ _ H HP.out ⟨by omega, by omega, by omega, by omega⟩ _ (hH.below HBD.out)).mono ?_
    rintro r w9 ⟨vi9, vo9, vl9, va9, vc9, K9, rfl, hp9, hst9⟩
    have HB9 := Lib.hid (HBD.out.trans (hst9.below.mono HBD.out.size))
    have HP9 := Lib.hid ((hst9.below.block w.heap.size (Array.getElem?_eq_some_iff.1 HPD.out).1).trans HPD.out)
    have HV4 := Lib.hid (HV4.out.below hst9.below)
    have HV6 := Lib.hid (HV6.out.below hst9.below)
    have HF := Lib.hid ((hst9.below.block _ (Array.getElem?_eq_some_iff.1 HF.out).1).trans HF.out)
    have HQ9 := Lib.hid (hp9.le (kn_le_all hst9.isin))
    have hS9 := hS.below hst9.below
    clear hp9 hst9
    refine hK.out _ _ (hS9) (fun _ => trivial) ?_
    clear hK K_
    try simp only [Act.put, List.setIfInBounds_toArray, List.set_cons_zero, List.set_cons_succ, List.getElem_toArray, List.getElem_cons_zero, List.getElem_cons_succ]
    refine wpAny2_one (i := 2) (o := _) (by kernel_rfl) rfl (fun K_ hK => ?_)
    go_simp
    go_at_call 19
    refine (ocheck_any (allKn w9) (HLE.out _ HB9.out) sp p _ _ _ _ _ HQ9.out w9 (allKn_in w9) (S.below HB9.out) ⟨by omega, by omega, by omega, by omega, by omega⟩ (by omega) (any_hpick p)).mono ?_
    rintro r w10 ⟨hb10, v10, rfl, he10⟩
    have HB10 := Lib.hid (HB9.out.trans (hb10.mono HB9.out.size))
    have HP10 := Lib.hid ((hb10.block w.heap.size (Array.getElem?_eq_some_iff.1 HP9.out).1).trans HP9.out)
    have HV4 := Lib.hid (HV4.out.below hb10)
    have HV6 := Lib.hid (HV6.out.below hb10)
    have HF := Lib.hid ((hb10.block _ (Array.getElem?_eq_some_iff.1 HF.out).1).trans HF.out)
    have hS10 := hS9.below hb10
    have HEC := Lib.hid he10
    clear he10
    refine hK.out _ _ (hS10) (fun _ => trivial) ?_
    clear hK K_
    try simp only [Act.put, List.setIfInBounds_toArray, List.set_cons_zero, List.set_cons_succ, List.getElem_toArray, List.getElem_cons_zero, List.getElem_cons_succ]
    refine wpAny2_one (i := 4) (o := _) (by kernel_rfl) rfl (fun K_ hK => ?_)
    go_simp
    go_at_call 20
    refine (checkOf_any H p _ _ _ _ _ HP.out (by omega) (by omega) ⟨by omega, by omega, by omega, by omega⟩ w10 (hH.below HB10.out)).mono ?_
    rintro r w11 ⟨rfl, hb11⟩
    have HB11 := Lib.hid (HB10.out.trans (hb11.mono HB10.out.size))
    have HP11 := Lib.hid ((hb11.block w.heap.size (Array.getElem?_eq_some_iff.1 HP10.out).1).trans HP10.out)
    have HV4 := Lib.hid (HV4.out.below hb11)
    have HV6 := Lib.hid (HV6.out.below hb11)
    have HF := Lib.hid ((hb11.block _ (Array.getElem?_eq_some_iff.1 HF.out).1).trans HF.out)
    have HEC := Lib.hid (HEC.out.below hb11)
    have hS11 := hS10.below hb11
    refine hK.out _ _ (hS11) (fun _ => trivial) ?_
    clear hK K_
    try simp only [Act.put, List.setIfInBounds_toArray, List.set_cons_zero, List.set_cons_succ, List.getElem_toArray, List.getElem_cons_zero, List.getElem_cons_succ]
    refine wpAny2_one (i := 5) (o := _) (by kernel_rfl) rfl (fun K_ hK => ?_)
    go_simp
    go_at_call 18
    refine (faulted_any sp (checkM p).1 (checkM p).2 _ w11 HEC.out (checkM_le p).1 (checkM_le p).2 (S.below HB11.out) (errT_below hE HB11.out) _ _).mono ?_
    rintro r w12 ⟨hr, hb12⟩
    obtain rfl : r = .returned (.bool true) := by rw [hr]; simp
    clear hr
    have HB12 := Lib.hid (HB11.out.trans (hb12.mono HB11.out.size))
    have HP12 := Lib.hid ((hb12.block w.heap.size (Array.getElem?_eq_some_iff.1 HP11.out).1).trans HP11.out)
    have HV4 := Lib.hid (HV4.out.below hb12)
    have HV6 := Lib.hid (HV6.out.below hb12)
    have HF := Lib.hid ((hb12.block _ (Array.getElem?_eq_some_iff.1 HF.out).1).trans HF.out)
    have hS12 := hS11.below hb12
    refine hK.out _ _ (hS12) (fun _ => trivial) ?_
    clear hK K_
    try simp only [Act.put, List.setIfInBounds_toArray, List.set_cons_zero, List.set_cons_succ, List.getElem_toArray, List.getElem_cons_zero, List.getElem_cons_succ]
    refine wpAny2_take (i := 6) (oi := _) (v := ?_) rfl (by decide) (by kernel_rfl) (by kernel_rfl) (by kernel_rfl) (by kernel_rfl) (fun _ _ _ h => h) hS12 (fun _ => trivial) (Or.inl ⟨by rfl, ?hy⟩) ?_
    case hy => intro w hSw; have z0 := hSw.cell k0; have z1 := hSw.cell k1; have z2 := hSw.cell k2; have z3 := hSw.cell k3; have z4 := hSw.cell k4; first | (go_simp; done) | (go_simp; with_reducible rfl)
    try simp only [Act.put, List.setIfInBounds_toArray, List.set_cons_zero, List.set_cons_succ, List.getElem_toArray, List.getElem_cons_zero, List.getElem_cons_succ]
    refine wpAny2_done (by kernel_rfl) ?_ _
    have q0 : w12.cell? ⟨w7.heap.size, 0, none⟩ = some (.int .i64 (x.1 : Int)) := by have h := HF.out; simp [World.cell?, h]
    have q1 : w12.cell? ⟨w7.heap.size, 1, none⟩ = some (.int .i64 x.2) := by have h := HF.out; simp [World.cell?, h]
    go_wp2_with fail
    refine (faulted_any sp x.1 x.2 _ w12 HV4.out hxe.2 (fun _ => hxe.1) (S.below HB12.out) (errT_below hE HB12.out) _ _).mono ?_
    rintro r w13 ⟨hr, hb13⟩
    obtain rfl : r = .returned (.bool true) := by rw [hr]; simp
    clear hr
    have HB13 := Lib.hid (HB12.out.trans (hb13.mono HB12.out.size))
    have HP13 := Lib.hid ((hb13.block w.heap.size (Array.getElem?_eq_some_iff.1 HP12.out).1).trans HP12.out)
    have HV4 := Lib.hid (HV4.out.below hb13)
    have HV6 := Lib.hid (HV6.out.below hb13)
    have HF := Lib.hid ((hb13.block _ (Array.getElem?_eq_some_iff.1 HF.out).1).trans HF.out)
    clear q0 q1
    have q0 : w13.cell? ⟨w7.heap.size, 0, none⟩ = some (.int .i64 (x.1 : Int)) := by have h := HF.out; simp [World.cell?, h]
    have q1 : w13.cell? ⟨w7.heap.size, 1, none⟩ = some (.int .i64 x.2) := by have h := HF.out; simp [World.cell?, h]
    go_wp2_with fail
    refine (faulted_any sp x.1 x.2 _ w13 HV6.out hxe.2 (fun _ => hxe.1) (S.below HB13.out) (errT_below hE HB13.out) _ _).mono ?_
    rintro r w14 ⟨hr, hb14⟩
    obtain rfl : r = .returned (.bool true) := by rw [hr]; simp
    clear hr
    have HB14 := Lib.hid (HB13.out.trans (hb14.mono HB13.out.size))
    have HP14 := Lib.hid ((hb14.block w.heap.size (Array.getElem?_eq_some_iff.1 HP13.out).1).trans HP13.out)
    have HV4 := Lib.hid (HV4.out.below hb14)
    have HV6 := Lib.hid (HV6.out.below hb14)
    have HF := Lib.hid ((hb14.block _ (Array.getElem?_eq_some_iff.1 HF.out).1).trans HF.out)
    go_wp2_with fail
    go_ret
    exact ⟨rfl, HB14.out⟩
  | ok l =>
    rw [hom] at hpo HM
    obtain ⟨v4, rfl, hv4⟩ := hpo
    obtain ⟨a4, c4, rfl⟩ := hv4.len
    have hlm : lateM p = .ok (p.fl.map fun f => namesM p f.name) := HM.out
    obtain ⟨hck, hll⟩ := orderM_ok hom
    rw [hll] at hv4 ⊢
    have HV4 := Lib.hid hv4
    clear hv4
    obtain ⟨ks, _, _, hfm, _, _, _, _⟩ := check_zero hck
    have HNM := Lib.hid (show ∀ f ∈ p.fl, formAll ks f.e = true from fun f hf => by
      obtain ⟨i, hi, he⟩ := List.mem_iff_getElem.1 (terms_fl p hf)
      rw [← he]; exact (formAllL_get ks _).1 hfm i hi)
    have HND := Lib.hid (names_nd hck)
    clear hfm hck
    clear m0 m1 m2 m3 m4
    have m0 : w4.cell? ⟨w.heap.size, 0, none⟩ = some (.slice ai p.ins.length ci) := by have h := HP4.out; simp [World.cell?, h]
    have m1 : w4.cell? ⟨w.heap.size, 1, none⟩ = some (.slice ao p.outs.length co) := by have h := HP4.out; simp [World.cell?, h]
    have m2 : w4.cell? ⟨w.heap.size, 2, none⟩ = some (.slice al p.fl.length cl) := by have h := HP4.out; simp [World.cell?, h]
    have m3 : w4.cell? ⟨w.heap.size, 3, none⟩ = some (.slice aa p.as.length ca) := by have h := HP4.out; simp [World.cell?, h]
    have m4 : w4.cell? ⟨w.heap.size, 4, none⟩ = some (.slice ac p.cs.length cc) := by have h := HP4.out; simp [World.cell?, h]
    go_wp2_with fail
    refine (flatOf_any p _ _ _ _ _ H HP.out ⟨by omega, by omega, by omega, by omega⟩ _ (hH.below HB4.out)).mono ?_
    rintro r w5 ⟨vi5, vo5, vl5, va5, vc5, K5, rfl, hp5, hst5⟩
    have HB5 := Lib.hid (HB4.out.trans (hst5.below.mono HB4.out.size))
    have HP5 := Lib.hid ((hst5.below.block w.heap.size (Array.getElem?_eq_some_iff.1 HP4.out).1).trans HP4.out)
    have HV4 := Lib.hid (IntsV.le (kn_le_all (allKn_below hst5.below)) HV4.out)
    have HQ5 := Lib.hid (hp5.le (kn_le_all hst5.isin))
    clear hp5 hst5
    clear m0 m1 m2 m3 m4
    have m0 : w5.cell? ⟨w.heap.size, 0, none⟩ = some (.slice ai p.ins.length ci) := by have h := HP5.out; simp [World.cell?, h]
    have m1 : w5.cell? ⟨w.heap.size, 1, none⟩ = some (.slice ao p.outs.length co) := by have h := HP5.out; simp [World.cell?, h]
    have m2 : w5.cell? ⟨w.heap.size, 2, none⟩ = some (.slice al p.fl.length cl) := by have h := HP5.out; simp [World.cell?, h]
    have m3 : w5.cell? ⟨w.heap.size, 3, none⟩ = some (.slice aa p.as.length ca) := by have h := HP5.out; simp [World.cell?, h]
    have m4 : w5.cell? ⟨w.heap.size, 4, none⟩ = some (.slice ac p.cs.length cc) := by have h := HP5.out; simp [World.cell?, h]
    go_wp2_with fail
    refine (lates_any (allKn w5) (HLE.out _ HB5.out) sp p _ _ _ _ _ HQ5.out w5 (allKn_in w5) (S.below HB5.out) ⟨by omega, by omega, by omega, by omega, by omega⟩ (by omega) (any_hpick p)).mono ?_
    rintro r w6 ⟨hb6, hpl⟩
    have HB6 := Lib.hid (HB5.out.trans (hb6.mono HB5.out.size))
    have HP6 := Lib.hid ((hb6.block w.heap.size (Array.getElem?_eq_some_iff.1 HP5.out).1).trans HP5.out)
    have HV4 := Lib.hid (IntsV.le (kn_le_all (allKn_below hb6)) HV4.out)
    rw [hlm] at hpl
    obtain ⟨v6, rfl, hv6⟩ := hpl
    obtain ⟨a6, c6, rfl⟩ := hv6.len
    rw [List.length_map] at hv6 ⊢
    have HV6 := Lib.hid hv6
    clear hv6
    clear m0 m1 m2 m3 m4
    have m0 : w6.cell? ⟨w.heap.size, 0, none⟩ = some (.slice ai p.ins.length ci) := by have h := HP6.out; simp [World.cell?, h]
    have m1 : w6.cell? ⟨w.heap.size, 1, none⟩ = some (.slice ao p.outs.length co) := by have h := HP6.out; simp [World.cell?, h]
    have m2 : w6.cell? ⟨w.heap.size, 2, none⟩ = some (.slice al p.fl.length cl) := by have h := HP6.out; simp [World.cell?, h]
    have m3 : w6.cell? ⟨w.heap.size, 3, none⟩ = some (.slice aa p.as.length ca) := by have h := HP6.out; simp [World.cell?, h]
    have m4 : w6.cell? ⟨w.heap.size, 4, none⟩ = some (.slice ac p.cs.length cc) := by have h := HP6.out; simp [World.cell?, h]
    go_wp2_with fail
    refine (orderOf_any H p _ _ _ _ _ HP.out (by omega) (by omega) ⟨by omega, by omega, by omega, by omega⟩ w6 (hH.below HB6.out)).mono ?_
    rintro r w7 ⟨hb7, u1, u2, rfl, hord⟩
    unfold OrdRef at hord
    rw [hom] at hord
    obtain ⟨hv7, rfl⟩ := hord
    obtain ⟨a7, c7, rfl⟩ := hv7.len
    rw [hll] at hv7 ⊢
    have HV7 := Lib.hid hv7
    clear hv7
    have HB7 := Lib.hid (HB6.out.trans (hb7.mono HB6.out.size))
    have HP7 := Lib.hid ((hb7.block w.heap.size (Array.getElem?_eq_some_iff.1 HP6.out).1).trans HP6.out)
    have HV4 := Lib.hid (IntsV.le (kn_le_all (allKn_below hb7)) HV4.out)
    have HV6 := Lib.hid (SlV.le HV6.out (kn_le_all (allKn_below hb7)) fun _ _ _ hfg q => hfg _ _ q)
    have hb8 : Below w7.heap.size w7 (w7.alloc (.cells #[.int .i64 0, .int .i64 (-1)] 47)) := (Below.refl _ _).alloc (Nat.le_refl _) _
    have HF := Lib.hid (show (w7.alloc (.cells #[.int .i64 0, .int .i64 (-1)] 47)).heap[w7.heap.size]? = _ from heap_alloc_new _ _)
    have HB8 := Lib.hid (HB7.out.trans (hb8.mono HB7.out.size))
    have HP8 := Lib.hid ((hb8.block w.heap.size (Array.getElem?_eq_some_iff.1 HP7.out).1).trans HP7.out)
    have HV4 := Lib.hid (IntsV.le (kn_le_all (allKn_below hb8)) HV4.out)
    have HV6 := Lib.hid (SlV.le HV6.out (kn_le_all (allKn_below hb8)) fun _ _ _ hfg q => hfg _ _ q)
    have HV7 := Lib.hid (IntsV.le (kn_le_all (allKn_below hb8)) HV7.out)
    clear m0 m1 m2 m3 m4
    have m0 : (w7.alloc (.cells #[.int .i64 0, .int .i64 (-1)] 47)).cell? ⟨w.heap.size, 0, none⟩ = some (.slice ai p.ins.length ci) := by have h := HP8.out; simp [World.cell?, h]
    have m1 : (w7.alloc (.cells #[.int .i64 0, .int .i64 (-1)] 47)).cell? ⟨w.heap.size, 1, none⟩ = some (.slice ao p.outs.length co) := by have h := HP8.out; simp [World.cell?, h]
    have m2 : (w7.alloc (.cells #[.int .i64 0, .int .i64 (-1)] 47)).cell? ⟨w.heap.size, 2, none⟩ = some (.slice al p.fl.length cl) := by have h := HP8.out; simp [World.cell?, h]
    have m3 : (w7.alloc (.cells #[.int .i64 0, .int .i64 (-1)] 47)).cell? ⟨w.heap.size, 3, none⟩ = some (.slice aa p.as.length ca) := by have h := HP8.out; simp [World.cell?, h]
    have m4 : (w7.alloc (.cells #[.int .i64 0, .int .i64 (-1)] 47)).cell? ⟨w.heap.size, 4, none⟩ = some (.slice ac p.cs.length cc) := by have h := HP8.out; simp [World.cell?, h]
    go_wp2_with fail
    generalize w7.alloc (.cells #[.int .i64 0, .int .i64 (-1)] 47) = W8 at *
    have hS : (allKn W8).In W8.drew := (allKn_in W8).below (Below.refl _ _).drew
    have k0 : (allKn W8).cell w.heap.size 0 = some (.slice ai p.ins.length ci) := by rw [allKn_cell]; exact m0
    have k1 : (allKn W8).cell w.heap.size 1 = some (.slice ao p.outs.length co) := by rw [allKn_cell]; exact m1
    have k2 : (allKn W8).cell w.heap.size 2 = some (.slice al p.fl.length cl) := by rw [allKn_cell]; exact m2
    have k3 : (allKn W8).cell w.heap.size 3 = some (.slice aa p.as.length ca) := by rw [allKn_cell]; exact m3
    have k4 : (allKn W8).cell w.heap.size 4 = some (.slice ac p.cs.length cc) := by rw [allKn_cell]; exact m4
    have hbd : Below W8.heap.size W8 W8.drew := (Below.refl _ _).drew
    have HBD := Lib.hid (HB8.out.trans (hbd.mono HB8.out.size))
    have HPD := Lib.hid ((hbd.block w.heap.size (Array.getElem?_eq_some_iff.1 HP8.out).1).trans HP8.out)
    have HV4 := Lib.hid (IntsV.le (kn_le_all (allKn_below hbd)) HV4.out)
    have HV6 := Lib.hid (SlV.le HV6.out (kn_le_all (allKn_below hbd)) fun _ _ _ hfg q => hfg _ _ q)
    have HV7 := Lib.hid (IntsV.le (kn_le_all (allKn_below hbd)) HV7.out)
    have HF := Lib.hid ((hbd.block _ (Array.getElem?_eq_some_iff.1 HF.out).1).trans HF.out)
    refine wp_region_2 (fun w' => (allKn W8).In w') (fun _ => True) 99 (by kernel_rfl) ?_
    refine wpAny2_take (i := 0) (oi := _) (v := ?_) rfl (by decide) (by kernel_rfl) (by kernel_rfl) (by kernel_rfl) (by kernel_rfl) (fun _ _ _ h => h) hS (fun _ => trivial) (Or.inl ⟨by rfl, ?hy⟩) ?_
    case hy => intro w hSw; have z0 := hSw.cell k0; have z1 := hSw.cell k1; have z2 := hSw.cell k2; have z3 := hSw.cell k3; have z4 := hSw.cell k4; first | (go_simp; done) | (go_simp; with_reducible rfl)
    try simp only [Act.put, List.setIfInBounds_toArray, List.set_cons_zero, List.set_cons_succ, List.getElem_toArray, List.getElem_cons_zero, List.getElem_cons_succ]
    refine wpAny2_take (i := 3) (oi := _) (v := ?_) rfl (by decide) (by kernel_rfl) (by kernel_rfl) (by kernel_rfl) (by kernel_rfl) (fun _ _ _ h => h) hS (fun _ => trivial) (Or.inl ⟨by rfl, ?hy⟩) ?_
    case hy => intro w hSw; have z0 := hSw.cell k0; have z1 := hSw.cell k1; have z2 := hSw.cell k2; have z3 := hSw.cell k3; have z4 := hSw.cell k4; first | (go_simp; done) | (go_simp; with_reducible rfl)
    try simp only [Act.put, List.setIfInBounds_toArray, List.set_cons_zero, List.set_cons_succ, List.getElem_toArray, List.getElem_cons_zero, List.getElem_cons_succ]
    refine wpAny2_one (i := 1) (o := _) (by kernel_rfl) rfl (fun K_ hK => ?_)
    go_simp
    go_at_call 10
    refine (flatOf_any p _ _ _ _ _ H HP.out ⟨by omega, by omega, by omega, by omega⟩ _ (hH.below HBD.out)).mono ?_
    rintro r w9 ⟨vi9, vo9, vl9, va9, vc9, K9, rfl, hp9, hst9⟩
    have HB9 := Lib.hid (HBD.out.trans (hst9.below.mono HBD.out.size))
    have HP9 := Lib.hid ((hst9.below.block w.heap.size (Array.getElem?_eq_some_iff.1 HPD.out).1).trans HPD.out)
    have HV4 := Lib.hid (IntsV.le (kn_le_all (allKn_below hst9.below)) HV4.out)
    have HV6 := Lib.hid (SlV.le HV6.out (kn_le_all (allKn_below hst9.below)) fun _ _ _ hfg q => hfg _ _ q)
    have HV7 := Lib.hid (IntsV.le (kn_le_all (allKn_below hst9.below)) HV7.out)
    have HF := Lib.hid ((hst9.below.block _ (Array.getElem?_eq_some_iff.1 HF.out).1).trans HF.out)
    have HQ9 := Lib.hid (hp9.le (kn_le_all hst9.isin))
    have hS9 := hS.below hst9.below
    clear hp9 hst9
    refine hK.out _ _ (hS9) (fun _ => trivial) ?_
    clear hK K_
    try simp only [Act.put, List.setIfInBounds_toArray, List.set_cons_zero, List.set_cons_succ, List.getElem_toArray, List.getElem_cons_zero, List.getElem_cons_succ]
    refine wpAny2_one (i := 2) (o := _) (by kernel_rfl) rfl (fun K_ hK => ?_)
    go_simp
    go_at_call 19
    refine (ocheck_any (allKn w9) (HLE.out _ HB9.out) sp p _ _ _ _ _ HQ9.out w9 (allKn_in w9) (S.below HB9.out) ⟨by omega, by omega, by omega, by omega, by omega⟩ (by omega) (any_hpick p)).mono ?_
    rintro r w10 ⟨hb10, v10, rfl, he10⟩
    have HB10 := Lib.hid (HB9.out.trans (hb10.mono HB9.out.size))
    have HP10 := Lib.hid ((hb10.block w.heap.size (Array.getElem?_eq_some_iff.1 HP9.out).1).trans HP9.out)
    have HV4 := Lib.hid (IntsV.le (kn_le_all (allKn_below hb10)) HV4.out)
    have HV6 := Lib.hid (SlV.le HV6.out (kn_le_all (allKn_below hb10)) fun _ _ _ hfg q => hfg _ _ q)
    have HV7 := Lib.hid (IntsV.le (kn_le_all (allKn_below hb10)) HV7.out)
    have HF := Lib.hid ((hb10.block _ (Array.getElem?_eq_some_iff.1 HF.out).1).trans HF.out)
    have hS10 := hS9.below hb10
    have HEC := Lib.hid he10
    clear he10
    refine hK.out _ _ (hS10) (fun _ => trivial) ?_
    clear hK K_
    try simp only [Act.put, List.setIfInBounds_toArray, List.set_cons_zero, List.set_cons_succ, List.getElem_toArray, List.getElem_cons_zero, List.getElem_cons_succ]
    refine wpAny2_one (i := 4) (o := _) (by kernel_rfl) rfl (fun K_ hK => ?_)
    go_simp
    go_at_call 20
    refine (checkOf_any H p _ _ _ _ _ HP.out (by omega) (by omega) ⟨by omega, by omega, by omega, by omega⟩ w10 (hH.below HB10.out)).mono ?_
    rintro r w11 ⟨rfl, hb11⟩
    have HB11 := Lib.hid (HB10.out.trans (hb11.mono HB10.out.size))
    have HP11 := Lib.hid ((hb11.block w.heap.size (Array.getElem?_eq_some_iff.1 HP10.out).1).trans HP10.out)
    have HV4 := Lib.hid (IntsV.le (kn_le_all (allKn_below hb11)) HV4.out)
    have HV6 := Lib.hid (SlV.le HV6.out (kn_le_all (allKn_below hb11)) fun _ _ _ hfg q => hfg _ _ q)
    have HV7 := Lib.hid (IntsV.le (kn_le_all (allKn_below hb11)) HV7.out)
    have HF := Lib.hid ((hb11.block _ (Array.getElem?_eq_some_iff.1 HF.out).1).trans HF.out)
    have HEC := Lib.hid (HEC.out.below hb11)
    have hS11 := hS10.below hb11
    refine hK.out _ _ (hS11) (fun _ => trivial) ?_
    clear hK K_
    try simp only [Act.put, List.setIfInBounds_toArray, List.set_cons_zero, List.set_cons_succ, List.getElem_toArray, List.getElem_cons_zero, List.getElem_cons_succ]
    refine wpAny2_one (i := 5) (o := _) (by kernel_rfl) rfl (fun K_ hK => ?_)
    go_simp
    go_at_call 18
    refine (faulted_any sp (checkM p).1 (checkM p).2 _ w11 HEC.out (checkM_le p).1 (checkM_le p).2 (S.below HB11.out) (errT_below hE HB11.out) _ _).mono ?_
    rintro r w12 ⟨hr, hb12⟩
    obtain rfl : r = .returned (.bool true) := by rw [hr]; simp
    clear hr
    have HB12 := Lib.hid (HB11.out.trans (hb12.mono HB11.out.size))
    have HP12 := Lib.hid ((hb12.block w.heap.size (Array.getElem?_eq_some_iff.1 HP11.out).1).trans HP11.out)
    have HV4 := Lib.hid (IntsV.le (kn_le_all (allKn_below hb12)) HV4.out)
    have HV6 := Lib.hid (SlV.le HV6.out (kn_le_all (allKn_below hb12)) fun _ _ _ hfg q => hfg _ _ q)
    have HV7 := Lib.hid (IntsV.le (kn_le_all (allKn_below hb12)) HV7.out)
    have HF := Lib.hid ((hb12.block _ (Array.getElem?_eq_some_iff.1 HF.out).1).trans HF.out)
    have hS12 := hS11.below hb12
    refine hK.out _ _ (hS12) (fun _ => trivial) ?_
    clear hK K_
    try simp only [Act.put, List.setIfInBounds_toArray, List.set_cons_zero, List.set_cons_succ, List.getElem_toArray, List.getElem_cons_zero, List.getElem_cons_succ]
    refine wpAny2_take (i := 6) (oi := _) (v := ?_) rfl (by decide) (by kernel_rfl) (by kernel_rfl) (by kernel_rfl) (by kernel_rfl) (fun _ _ _ h => h) hS12 (fun _ => trivial) (Or.inl ⟨by rfl, ?hy⟩) ?_
    case hy => intro w hSw; have z0 := hSw.cell k0; have z1 := hSw.cell k1; have z2 := hSw.cell k2; have z3 := hSw.cell k3; have z4 := hSw.cell k4; first | (go_simp; done) | (go_simp; with_reducible rfl)
    try simp only [Act.put, List.setIfInBounds_toArray, List.set_cons_zero, List.set_cons_succ, List.getElem_toArray, List.getElem_cons_zero, List.getElem_cons_succ]
    refine wpAny2_done (by kernel_rfl) ?_ _
    have q0 : w12.cell? ⟨w7.heap.size, 0, none⟩ = some (.int .i64 0) := by have h := HF.out; simp [World.cell?, h]
    have q1 : w12.cell? ⟨w7.heap.size, 1, none⟩ = some (.int .i64 (-1)) := by have h := HF.out; simp [World.cell?, h]
    go_wp2_with fail
    refine (sameInts_any (allKn w12) (l.map fun k : Nat => (k : Int)) _ _ (sints_ints HV4.out) (sints_ints HV7.out) (by simp; omega) w12 (allKn_in w12)).mono ?_
    rintro r w13 ⟨rfl, hb13⟩
    have HB13 := Lib.hid (HB12.out.trans (hb13.mono HB12.out.size))
    have HP13 := Lib.hid ((hb13.block w.heap.size (Array.getElem?_eq_some_iff.1 HP12.out).1).trans HP12.out)
    have HV4 := Lib.hid (IntsV.le (kn_le_all (allKn_below hb13)) HV4.out)
    have HV6 := Lib.hid (SlV.le HV6.out (kn_le_all (allKn_below hb13)) fun _ _ _ hfg q => hfg _ _ q)
    have HV7 := Lib.hid (IntsV.le (kn_le_all (allKn_below hb13)) HV7.out)
    have HF := Lib.hid ((hb13.block _ (Array.getElem?_eq_some_iff.1 HF.out).1).trans HF.out)
    clear m0 m1 m2 m3 m4
    have m0 : w13.cell? ⟨w.heap.size, 0, none⟩ = some (.slice ai p.ins.length ci) := by have h := HP13.out; simp [World.cell?, h]
    have m1 : w13.cell? ⟨w.heap.size, 1, none⟩ = some (.slice ao p.outs.length co) := by have h := HP13.out; simp [World.cell?, h]
    have m2 : w13.cell? ⟨w.heap.size, 2, none⟩ = some (.slice al p.fl.length cl) := by have h := HP13.out; simp [World.cell?, h]
    have m3 : w13.cell? ⟨w.heap.size, 3, none⟩ = some (.slice aa p.as.length ca) := by have h := HP13.out; simp [World.cell?, h]
    have m4 : w13.cell? ⟨w.heap.size, 4, none⟩ = some (.slice ac p.cs.length cc) := by have h := HP13.out; simp [World.cell?, h]
    go_wp2_with fail
    refine (lateFlows_any H p _ _ _ _ _ HP.out ks HNM.out HND.out (by omega) (by omega) w13 (hH.below HB13.out)).mono ?_
    rintro r w14 ⟨A, vA, rfl, hAl, hAf, hAb, hvA, hb14⟩
    have HB14 := Lib.hid (HB13.out.trans (hb14.mono HB13.out.size))
    have HP14 := Lib.hid ((hb14.block w.heap.size (Array.getElem?_eq_some_iff.1 HP13.out).1).trans HP13.out)
    have HV4 := Lib.hid (IntsV.le (kn_le_all (allKn_below hb14)) HV4.out)
    have HV6 := Lib.hid (SlV.le HV6.out (kn_le_all (allKn_below hb14)) fun _ _ _ hfg q => hfg _ _ q)
    have HV7 := Lib.hid (IntsV.le (kn_le_all (allKn_below hb14)) HV7.out)
    have HF := Lib.hid ((hb14.block _ (Array.getElem?_eq_some_iff.1 HF.out).1).trans HF.out)
    have hA : (p.fl.map fun f => namesM p f.name) = A := by
      refine List.ext_getElem (by simp [hAl]) fun i h1 h2 => ?_
      have h3 : i < p.fl.length := by simpa using h1
      have := fLate_get HND.out A hAl i h3
      rw [hAf] at this
      simpa using this
    rw [hA] at HV6
    have HVA := Lib.hid hvA
    clear hvA hAf hAb hb14 hA
    go_wp2_with fail
    refine (sameInts_any (allKn w14) A _ _ HV6.out HVA.out (by omega) w14 (allKn_in w14)).mono ?_
    rintro r w15 ⟨rfl, hb15⟩
    have HB15 := Lib.hid (HB14.out.trans (hb15.mono HB14.out.size))
    have HP15 := Lib.hid ((hb15.block w.heap.size (Array.getElem?_eq_some_iff.1 HP14.out).1).trans HP14.out)
    have HV4 := Lib.hid (IntsV.le (kn_le_all (allKn_below hb15)) HV4.out)
    have HV6 := Lib.hid (SlV.le HV6.out (kn_le_all (allKn_below hb15)) fun _ _ _ hfg q => hfg _ _ q)
    have HV7 := Lib.hid (IntsV.le (kn_le_all (allKn_below hb15)) HV7.out)
    have HF := Lib.hid ((hb15.block _ (Array.getElem?_eq_some_iff.1 HF.out).1).trans HF.out)
    go_wp2_with fail
    go_ret
    exact ⟨rfl, HB15.out⟩
end Go.Proofs.YtdceonkbckmjdaaDoor
