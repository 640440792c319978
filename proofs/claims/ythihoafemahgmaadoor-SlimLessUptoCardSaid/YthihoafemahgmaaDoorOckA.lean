/- Walks: order.Check's parts: its closure; slices.Contains at any slice of strings. -/
import Derived.Test.YthihoafemahgmaaDoorLate
import Derived.Test.YthihoafemahgmaaDoorFormA
import Derived.Test.YthihoafemahgmaaDoorMx
import Derived.Test.YthihoafemahgmaaDoorConcat
namespace Go.Proofs.YthihoafemahgmaaDoor
open Go.RowKit Mx
set_option maxHeartbeats 1000000 in
set_option maxRecDepth 100000 in
theorem idx_nil (a : Option Addr) (c : Nat) (s : ByteArray) (w : World) :
    Calls Tryd.prog 51 #[.slice a 0 c, .string s] w fun e w' => e = .returned (.int .i64 (-1)) ∧ w = w' := by
  go_enter Tryd.func51, Tryd.ntmps51
  go_wp2
  go_rounds 1
  all_goals go_ret
  exact ⟨rfl, rfl⟩
set_option maxHeartbeats 1000000 in
set_option maxRecDepth 100000 in
theorem containsV_any (H : Kn) (v : Value) (l : List ByteArray) (s : ByteArray) (w : World) (hv : StrsV H l v) (hH : H.In w) :
    Calls Tryd.prog 34 #[v, .string s] w fun e w' => e = .returned (.bool (l.contains s)) ∧ w = w' := by
  rw [contains_any_eq]
  rcases hv with ⟨rfl, a, c, rfl⟩ | ⟨b, off, cap, rfl, h1, h2, h3⟩
  · go_enter Tryd.func34, Tryd.ntmps34
    go_wp2_with (go_at_call 51; refine (idx_nil a c s _).mono ?_; rintro e w' ⟨rfl, rfl⟩)
    go_ret
    exact ⟨rfl, rfl⟩
  · refine contains_any H _ l s w (.inr ⟨b, off, cap, rfl, h1, h2, fun i hi => ?_⟩) hH
    have := h3 i hi
    simp only [List.getElem?_eq_getElem hi, Option.map_some]
    exact this
structure OckI (H : Kn) (C bm : Nat) (m : Env Int) (u : World) : Prop where
  kn : H.In u
  cell : u.cell? ⟨C, 0, none⟩ = some (.map (some bm))
  size : C < u.heap.size
  mp : MapAt (Value.int .i64) u bm m
theorem OckI.next {H : Kn} {C bm : Nat} {m : Env Int} {u u' : World} (h : OckI H C bm m u) (hb : Below u.heap.size u u') : OckI H C bm m u' :=
  ⟨h.kn.below hb, by rw [hb.cell (p := ⟨C, 0, none⟩) (show C < u.heap.size from h.size)]; exact h.cell, Nat.lt_of_lt_of_le h.size hb.size, h.mp.below hb⟩
set_option maxHeartbeats 1000000 in
set_option maxRecDepth 100000 in
theorem check1_pred (H : Kn) (C bm : Nat) (m : Env Int) (hl : ∀ s, 0 ≤ getI m s ∧ getI m s ≤ 2) (ks : Env Int) (l : List Ex) (hf : ∀ e ∈ l, formAll ks e = true) :
    ExPred 45 #[.pointer (some ⟨C, 0, none⟩)] (OckI H C bm m) H (fun e => decide (0 < lateOf (getI m) e)) l := by
  refine ⟨fun _ _ => by kernel_rfl, fun w w' h hb => h.next hb, fun e he v hv w hI => ?_⟩
  have hfe := hf e he
  have HV := Lib.hid hv
  obtain ⟨u, rfl, hu⟩ := hv
  obtain ⟨a, c, rfl⟩ := hu.len
  have hbd := late_bound (getI m) hl e
  have hb1 : Below w.heap.size w (w.alloc (.cells #[.string e.op, .int .i64 e.n, .string e.s, .slice a e.l.length c] 45)) := (Below.refl _ _).alloc (Nat.le_refl _) _
  have HI1 := Lib.hid (hI.next hb1)
  have hcell := HI1.out.cell
  have HB1 := Lib.hid hb1
  have hz : w.heap.size < (w.alloc (.cells #[.string e.op, .int .i64 e.n, .string e.s, .slice a e.l.length c] 45)).heap.size := by simp
  clear hu hb1 hI
  generalize e.l.length = el at *
  go_enter Tryd.func45, Tryd.ntmps45
  go_wp2_with fail
  refine (late_any H m bm hl ks e hfe _ HV.out _ HI1.out.kn HI1.out.mp).mono ?_
  rintro r w2 ⟨rfl, hb2⟩
  have HB := Lib.hid (HB1.out.trans (hb2.mono (by simp)))
  generalize hq : lateOf (getI m) e = q at *
  go_wp2_with fail
  go_ret
  exact ⟨ret_bool (by simp [hq]), HB.out⟩
end Go.Proofs.YthihoafemahgmaaDoor
namespace Go.Proofs.YthihoafemahgmaaDoor.Mx
def hit (p : Pr) (s : ByteArray) : Bool := decide (namesM p s = 2) || decide (namesM p s = 1) && p.outs.contains s
theorem lateM_ok {p : Pr} {l : List Int} (h : lateM p = .ok l) : l = (p.fl.map fun f => namesM p f.name) ∧ checkFlat p = 0 := by
  unfold lateM at h
  split at h
  · cases h
  · rename_i x hx
    refine ⟨by cases h; rfl, ?_⟩
    unfold orderM at hx
    split at hx
    · cases hx
    · rename_i h0; simpa using h0
theorem checkM_late {p : Pr} {x : Nat × Int} (h : lateM p = .error x) : checkM p = x := by unfold checkM; rw [h]
theorem zip_find {α : Type} (q : α × Nat → Bool) (l : List α) (k : Nat) (hk : k < l.length) (h1 : q (l[k], k) = true) (h2 : ∀ j (hj : j < l.length), j < k → q (l[j], j) = false) : l.zipIdx.find? q = some (l[k], k) := by
  rw [List.find?_eq_some_iff_getElem]
  refine ⟨h1, k, by simpa using hk, by simp, fun j hj => ?_⟩
  have := h2 j (by omega) hj
  simp [this]
theorem zip_none {α : Type} (q : α × Nat → Bool) (l : List α) (h2 : ∀ j (hj : j < l.length), q (l[j], j) = false) : l.zipIdx.find? q = none := by
  rw [List.find?_eq_none]
  intro x hx
  obtain ⟨i, hi, rfl⟩ := List.mem_iff_getElem.1 hx
  have := h2 i (by simpa using hi)
  simp [this]
theorem checkM_hit {p : Pr} (h : lateM p = .ok (p.fl.map fun f => namesM p f.name)) (k : Nat) (hk : k < p.fl.length) (h1 : hit p p.fl[k].name = true) (h2 : ∀ j (hj : j < p.fl.length), j < k → hit p p.fl[j].name = false) : checkM p = (7, (k : Int)) := by
  unfold checkM
  rw [h]
  simp only
  rw [zip_find _ _ k (by simpa using hk)]
  · simpa [hit, List.getD_eq_getElem?_getD, hk] using h1
  · intro j hj hjk
    have hj' : j < p.fl.length := by simpa using hj
    simpa [hit, List.getD_eq_getElem?_getD, hj'] using h2 j hj' hjk
theorem checkM_end {p : Pr} (h : lateM p = .ok (p.fl.map fun f => namesM p f.name)) (h2 : ∀ j (hj : j < p.fl.length), hit p p.fl[j].name = false) : checkM p = if ((p.as ++ p.cs).any fun e => decide (0 < lateOf (namesM p) e)) = true then (7, -1) else (0, -1) := by
  unfold checkM
  rw [h]
  simp only
  rw [zip_none]
  intro j hj
  have hj' : j < p.fl.length := by simpa using hj
  simpa [hit, List.getD_eq_getElem?_getD, hj'] using h2 j hj'
theorem lateM_pos {p : Pr} {x : Nat × Int} (h : lateM p = .error x) : x.1 ≠ 0 := by
  unfold lateM at h
  split at h
  · rename_i e hx
    cases h
    unfold orderM at hx
    split at hx
    · rename_i h; cases hx; exact h
    · split at hx
      · cases hx; simp
      · cases hx
  · cases h
end Go.Proofs.YthihoafemahgmaaDoor.Mx
namespace Go.Proofs.YthihoafemahgmaaDoor
open Go.RowKit Mx
def OckPost (sp : Nat → Addr) (p : Pr) (w : World) (r : Ending) (w' : World) : Prop :=
  Below w.heap.size w w' ∧ ∃ v, r = .returned v ∧ ErrW sp w' (checkM p).1 (checkM p).2 v
set_option maxHeartbeats 8000000 in
set_option maxRecDepth 100000 in
theorem ocheck_any (H : Kn) (T : LevelsAt H) (sp : Nat → Addr) (p : Pr) (vi vo vl va vc : Value) (hp : PrP H p vi vo vl va vc) (w : World) (hH : H.In w) (S : Sen5 w sp)
    (hsz : p.ins.length ≤ 1000000 ∧ p.fl.length ≤ 1000000 ∧ p.outs.length ≤ 100000000000 ∧ p.as.length ≤ 1000000 ∧ p.cs.length ≤ 1000000) (hpt : Ex.partsL p.terms ≤ 1000000000)
    (hpick : checkFlat p = 0 → (∀ j, j < p.graph.length → cyc p.graph j = false) → ∀ j, j < p.graph.length → pick p.graph (sortN p.graph j []) < p.graph.length) :
    Calls Tryd.prog 15 #[.agg #[vi, vo, vl, va, vc]] w (OckPost sp p w) := by
  have HP := Lib.hid hp
  obtain ⟨h1, h2, h3, h4, h5⟩ := hp
  obtain ⟨ai, ci, rfl⟩ := h1.len
  obtain ⟨ao, co, rfl⟩ := h2.len
  obtain ⟨al, cl, rfl⟩ := h3.len
  obtain ⟨aa, ca, rfl⟩ := h4.len
  obtain ⟨ac, cc, rfl⟩ := h5.len
  have H2 := Lib.hid h2
  have H3 := Lib.hid h3
  have H4 := Lib.hid h4
  have H5 := Lib.hid h5
  clear h1 h2 h3 h4 h5
  go_enter Tryd.func15, Tryd.ntmps15
  go_wp2_with fail
  have hb0 : Below w.heap.size w (w.alloc (.cells #[.slice ai p.ins.length ci, .slice ao p.outs.length co, .slice al p.fl.length cl, .slice aa p.as.length ca, .slice ac p.cs.length cc] 34)) := (Below.refl _ _).alloc (Nat.le_refl _) _
  refine (lates_any H T sp p _ _ _ _ _ HP.out _ (hH.below hb0) (S.below hb0) hsz hpt hpick).mono ?_
  rintro r w1 ⟨hb1, hpost⟩
  have HB1 := Lib.hid (hb0.trans (hb1.mono (by simp)))
  have hq : ∀ i, w1.cell? ⟨w.heap.size, i, none⟩ = (#[.slice ai p.ins.length ci, .slice ao p.outs.length co, .slice al p.fl.length cl, .slice aa p.as.length ca, .slice ac p.cs.length cc] : Array Value)[i]? := fun i => by rw [hb1.cell (p := ⟨w.heap.size, i, none⟩) (by simp), World.cell?_alloc_new]
  have HQ := Lib.hid hq
  have hz1 : w.heap.size < w1.heap.size := by have := hb1.size; simp at this; omega
  clear hq hb0 hb1
  cases hlm : lateM p with
  | error x =>
    rw [hlm] at hpost
    obtain ⟨v, rfl, hv⟩ := hpost
    have HX := Lib.hid (checkM_late hlm)
    have HV := Lib.hid hv
    have hx0 := lateM_pos hlm
    obtain ⟨tv, pv, rfl⟩ : ∃ tv pv, v = .iface tv pv := by
      rcases hv with ⟨_, h⟩ | ⟨_, N, h, _⟩
      · obtain ⟨c, hc⟩ : ∃ c, x.1 = c + 1 := ⟨x.1 - 1, by omega⟩
        rw [hc, errV_succ] at h
        exact ⟨_, _, h⟩
      · exact ⟨_, _, h⟩
    clear hlm hv
    go_wp2_with fail
    go_ret
    unfold OckPost
    rw [HX.out]
    exact ⟨HB1.out, _, rfl, HV.out⟩
  | ok L =>
    rw [hlm] at hpost
    obtain ⟨v, rfl, hv⟩ := hpost
    obtain ⟨rfl, hck⟩ := lateM_ok hlm
    have HLM := Lib.hid hlm
    obtain ⟨av, cv, rfl⟩ := hv.len
    have HV := Lib.hid hv
    rw [List.length_map]
    obtain ⟨ks, _, _, hfm, hfl, hpp, _, _⟩ := check_zero hck
    have HFM := Lib.hid hfm
    have S1 := S.below HB1.out
    clear hck hfm hpp hlm hv
    go_wp2_with fail
    go_loopw [2, 18] (fun u2 i wr => ∃ k : Nat, i = .int .i64 k ∧ k ≤ p.fl.length ∧ Below w1.heap.size w1 wr ∧ ∀ j (hj : j < p.fl.length), j < k → hit p p.fl[j].name = false) (fun _ i _ => p.fl.length - (intOf i).toNat)
    case atStart => exact ⟨0, rfl, Nat.zero_le _, Below.refl _ _, fun j _ h => by omega⟩
    case round =>
      obtain ⟨k, rfl, hk, hb, hno⟩ := hrel
      have HB := Lib.hid hb
      have HNO := Lib.hid hno
      have hq : ∀ i, wr.cell? ⟨w.heap.size, i, none⟩ = (#[.slice ai p.ins.length ci, .slice ao p.outs.length co, .slice al p.fl.length cl, .slice aa p.as.length ca, .slice ac p.cs.length cc] : Array Value)[i]? := fun i => by rw [hb.cell (p := ⟨w.heap.size, i, none⟩) hz1]; exact HQ.out i
      have q0 := hq 0
      have q1 := hq 1
      have q2 := hq 2
      have q3 := hq 3
      have q4 := hq 4
      simp at q0 q1 q2 q3 q4
      clear hb hno hq
      by_cases hkl : k < p.fl.length
      · obtain ⟨b1, off, rfl, _, hfc⟩ := SlV.at H3.out hkl
        obtain ⟨u, c0, c1, c2, c3, c4, c5, hu⟩ := hfc.cells
        have HBW := Lib.hid (HB1.out.trans (HB.out.mono (by omega)))
        have hHr := hH.below HBW.out
        have c0 := hHr.cell c0
        simp only [Nat.add_zero] at c0
        obtain ⟨b2, off2, rfl, _, d0⟩ := SlV.at HV.out (show k < (p.fl.map fun f => namesM p f.name).length by simpa using hkl)
        have d0 : (allKn w1).cell b2 (off2 + k * 1 + 0) = some (.int .i64 ((p.fl.map fun f => namesM p f.name)[k]'(by simpa using hkl))) := d0
        simp only [Nat.mul_one, Nat.add_zero, List.getElem_map] at d0
        have d0 := ((allKn_in w1).below HB.out).cell d0
        have c6 := (S.below HBW.out).c6
        have HIT := Lib.hid (show hit p p.fl[k].name = (decide (namesM p p.fl[k].name = 2) || decide (namesM p p.fl[k].name = 1) && p.outs.contains p.fl[k].name) from rfl)
        have HYES := Lib.hid (show hit p p.fl[k].name = true → checkM p = (7, (k : Int)) from fun h => checkM_hit HLM.out k hkl h HNO.out)
        have HNOT := Lib.hid (show hit p p.fl[k].name = false → ∀ j (hj : j < p.fl.length), j < k + 1 → hit p p.fl[j].name = false from fun h j hj hjk => by
          by_cases hjk' : j < k
          · exact HNO.out j hj hjk'
          · obtain rfl : j = k := by omega
            exact h)
        have HCON := Lib.hid (fun (wz : World) (hz : H.In wz) => containsV_any H _ p.outs p.fl[k].name wz H2.out hz)
        have HHR := Lib.hid hHr
        clear hu hfc c1 c2 c3 c4 c5 hHr HNO
        generalize p.fl[k].name = xn at *
        generalize namesM p xn = q at *
        by_cases e2 : q = 2
        · subst e2
          have hh : hit p xn = true := by rw [HIT.out]; rfl
          have HX := Lib.hid (HYES.out hh)
          clear hh
          go_wp2_with fail
          go_quiet (fail)
          have HBN := Lib.hid (below_drewN HBW.out nq)
          go_wp2_with fail
          all_goals go_ret
          all_goals unfold OckPost
          all_goals rw [HX.out]
          all_goals exact ⟨by first | exact HBN.out.alloc HBN.out.size _ | exact (HBN.out.alloc HBN.out.size _).drew | exact (HBN.out.drew).alloc HBN.out.size _ | exact ((HBN.out.drew).alloc HBN.out.size _).drew, _, rfl, .inr ⟨by omega, _, rfl, heap_alloc_new _ _⟩⟩
        · by_cases e1 : q = 1
          · subst e1
            cases hc : p.outs.contains xn
            · have HC := Lib.hid hc
              have hh : hit p xn = false := by rw [HIT.out, hc]; rfl
              have HX := Lib.hid (HNOT.out hh)
              clear hh
              rw [hc] at HCON
              clear hc
              go_wp2_with fail
              go_quiet ((go_at_call 34; exact quiet_eq (HCON.out _ (HHR.out.drewN _))))
              have HBN := Lib.hid (below_drewN HB.out nq)
              go_wp2_with fail
              go_roundw
              case rel => exact ⟨k + 1, by go_num, by omega, HBN.out, HX.out⟩
              case measure => simp [intOf]; omega
            · have HC := Lib.hid hc
              have hh : hit p xn = true := by rw [HIT.out, hc]; rfl
              have HX := Lib.hid (HYES.out hh)
              clear hh
              rw [hc] at HCON
              clear hc
              go_wp2_with fail
              go_quiet ((go_at_call 34; exact quiet_eq (HCON.out _ (HHR.out.drewN _))))
              have HBN := Lib.hid (below_drewN HBW.out nq)
              go_wp2_with fail
              all_goals go_ret
              all_goals unfold OckPost
              all_goals rw [HX.out]
              all_goals exact ⟨by first | exact HBN.out.alloc HBN.out.size _ | exact (HBN.out.alloc HBN.out.size _).drew | exact (HBN.out.drew).alloc HBN.out.size _ | exact ((HBN.out.drew).alloc HBN.out.size _).drew, _, rfl, .inr ⟨by omega, _, rfl, heap_alloc_new _ _⟩⟩
          · have t2 : (q == 2) = false := by simpa using e2
            have t1 : (q == 1) = false := by simpa using e1
            have hh : hit p xn = false := by rw [HIT.out]; simp [e1, e2]
            have HX := Lib.hid (HNOT.out hh)
            clear hh e1 e2
            go_wp2_with fail
            go_quiet (fail)
            have HBN := Lib.hid (below_drewN HB.out nq)
            go_wp2_with fail
            go_roundw
            case rel => exact ⟨k + 1, by go_num, by omega, HBN.out, HX.out⟩
            case measure => simp [intOf]; omega
      · obtain rfl : k = p.fl.length := by omega
        have HEND := Lib.hid (checkM_end HLM.out fun j hj => HNO.out j hj hj)
        have HBW := Lib.hid (HB1.out.trans (HB.out.mono (by omega)))
        clear HNO
        go_wp2_with fail
        refine (names_any H p _ _ _ _ _ HP.out ks (fun f hf => ?_) (by omega) wr (hH.below HBW.out)).mono ?_
        · obtain ⟨i, hi, he⟩ := List.mem_iff_getElem.1 (terms_fl p hf)
          rw [← he]; exact (formAllL_get ks _).1 HFM.out i hi
        rintro r w2 ⟨bm, m, rfl, hM, hnm, hbd, hb2⟩
        have hwr : w.heap.size < wr.heap.size := by have := HB.out.size; omega
        have hq : ∀ i, w2.cell? ⟨w.heap.size, i, none⟩ = (#[.slice ai p.ins.length ci, .slice ao p.outs.length co, .slice al p.fl.length cl, .slice aa p.as.length ca, .slice ac p.cs.length cc] : Array Value)[i]? := fun i => by
          rw [hb2.cell (p := ⟨w.heap.size, i, none⟩) hwr, HB.out.cell (p := ⟨w.heap.size, i, none⟩) hz1]; exact HQ.out i
        have q3 := hq 3
        have q4 := hq 4
        simp at q3 q4
        have HB2 := Lib.hid (HBW.out.trans (hb2.mono (by omega)))
        have hz2 : w.heap.size < w2.heap.size := by have := hb2.size; omega
        have HM := Lib.hid hM
        have HBD := Lib.hid hbd
        have HFA := Lib.hid (show ∀ e ∈ [p.as, p.cs].flatten, formAll ks e = true from fun e he => by
          have hmem : e ∈ p.terms := by
            simp at he
            unfold Pr.terms
            rcases he with he | he <;> simp [he]
          obtain ⟨i, hi, hx⟩ := List.mem_iff_getElem.1 hmem
          rw [← hx]; exact (formAllL_get ks _).1 HFM.out i hi)
        have HEND' := Lib.hid (show checkM p = if ([p.as, p.cs].flatten.any fun e => decide (0 < lateOf (getI m) e)) = true then (7, -1) else (0, -1) from by
          rw [hnm, HEND.out]; simp)
        clear hM hbd hb2 hq q0 q1 q2 hnm
        go_wp2_with fail
        have hB3 : Below w.heap.size w ((w2.alloc (.cells #[.map (some bm)] 52)).alloc (.cells #[.slice aa p.as.length ca, .slice ac p.cs.length cc] 32)) := (HB2.out.alloc HB2.out.size _).alloc (by simp; omega) _
        have HB3 := Lib.hid hB3
        have hC3 : ((w2.alloc (.cells #[.map (some bm)] 52)).alloc (.cells #[.slice aa p.as.length ca, .slice ac p.cs.length cc] 32)).cell? ⟨w2.heap.size, 0, none⟩ = some (.map (some bm)) := by
          rw [World.cell?_alloc_past _ _ _ (by simp), World.cell?_alloc_new]; rfl
        have hI3 : OckI H w2.heap.size bm m ((w2.alloc (.cells #[.map (some bm)] 52)).alloc (.cells #[.slice aa p.as.length ca, .slice ac p.cs.length cc] 32)) := ⟨hH.below hB3, hC3, by simp; omega, (HM.out.alloc _).alloc _⟩
        have hA3 : ∀ i, ((w2.alloc (.cells #[.map (some bm)] 52)).alloc (.cells #[.slice aa p.as.length ca, .slice ac p.cs.length cc] 32)).cell? ⟨w2.heap.size + 1, i, none⟩ = (#[.slice aa p.as.length ca, .slice ac p.cs.length cc] : Array Value)[i]? := fun i => by
          have := World.cell?_alloc_new (w := w2.alloc (.cells #[.map (some bm)] 52)) #[.slice aa p.as.length ca, .slice ac p.cs.length cc] 32 i
          rw [World.size_alloc] at this
          exact this
        have hz3 : ((w2.alloc (.cells #[.map (some bm)] 52)).alloc (.cells #[.slice aa p.as.length ca, .slice ac p.cs.length cc] 32)).heap.size = w2.heap.size + 2 := by simp
        generalize (w2.alloc (.cells #[.map (some bm)] 52)).alloc (.cells #[.slice aa p.as.length ca, .slice ac p.cs.length cc] 32) = W3 at *
        clear hB3
        refine (concat_any H [p.as, p.cs] [.slice aa p.as.length ca, .slice ac p.cs.length cc] (w2.heap.size + 1) 2 W3 hI3.kn rfl (by omega) rfl (by omega) (fun i hi => ?_) (fun i hi hi' => ?_) ?_).mono ?_
        · rw [hA3 i]; simp at hi ⊢
        · match i, hi with
          | 0, _ => exact H4.out
          | 1, _ => exact H5.out
        · simp [lensum]; omega
        rintro r w4 ⟨v, xs, rfl, ho, hx, hb4⟩
        generalize [p.as, p.cs].flatten = fe at *
        have hv4 := exsV_of_row (hI3.kn.below hb4) ho hx
        obtain ⟨av4, cv4, rfl⟩ := hv4.len
        have HV4 := Lib.hid hv4
        have hI4 : OckI (allKn w4) w2.heap.size bm m w4 := by
          have := hI3.next hb4
          exact ⟨allKn_in w4, this.cell, this.size, this.mp⟩
        have HI4 := Lib.hid hI4
        have HB4 := Lib.hid (HB3.out.trans (hb4.mono (by omega)))
        clear hv4 ho hx hb4 hI4 hI3 hA3 hC3
        go_wp2_with fail
        refine (containsE_any _ _ _ (allKn w4) _ fe _ (check1_pred (allKn w4) w2.heap.size bm m HBD.out ks _ HFA.out) HV4.out w4 (allKn_in w4) HI4.out).mono ?_
        rintro r w5 ⟨rfl, hb5⟩
        have HB5 := Lib.hid (HB4.out.trans (hb5.mono HB4.out.size))
        have c6 := (S.below HB5.out).c6
        clear hb5
        cases hany : (fe.any fun e => decide (0 < lateOf (getI m) e))
        · have HX := Lib.hid (show checkM p = (0, -1) from by rw [HEND'.out, hany]; rfl)
          clear hany
          go_wp2_with fail
          go_ret
          unfold OckPost
          rw [HX.out]
          exact ⟨HB5.out, _, rfl, .inl ⟨rfl, rfl⟩⟩
        · have HX := Lib.hid (show checkM p = (7, -1) from by rw [HEND'.out, hany]; rfl)
          clear hany
          go_wp2_with fail
          go_ret
          unfold OckPost
          rw [HX.out]
          exact ⟨HB5.out, _, rfl, .inl ⟨rfl, rfl⟩⟩
end Go.Proofs.YthihoafemahgmaaDoor
