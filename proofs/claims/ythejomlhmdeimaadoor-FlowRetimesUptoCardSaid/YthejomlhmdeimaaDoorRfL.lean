/- Walks: lustrumref2.CheckOf. -/
import Derived.Test.YthejomlhmdeimaaDoorRfI
import Derived.Test.YthejomlhmdeimaaDoorOckA
namespace Go.Proofs.YthejomlhmdeimaaDoor
set_option maxRecDepth 100000
set_option maxHeartbeats 16000000
open Go.RowKit Mx
theorem checkOf_any (H : Kn) (p : Pr) (vi vo vl va vc : Value) (hp : PrP H p vi vo vl va vc) (s1 : p.fl.length ≤ 1000000) (s2 : Ex.partsL p.terms ≤ 1000000000) (s3 : p.ins.length ≤ 100000000 ∧ p.outs.length ≤ 100000000 ∧ p.as.length ≤ 100000000 ∧ p.cs.length ≤ 100000000) (w : World) (hH : H.In w) :
  Calls Tryd.prog 26 #[.agg #[vi, vo, vl, va, vc]] w fun r w' => r = .returned (.agg #[.int .i64 (checkM p).1, .int .i64 (checkM p).2]) ∧ Below w.heap.size w w' := by
 have HP := Lib.hid hp
 obtain ⟨h1, h2, h3, h4, h5⟩ := hp
 obtain ⟨ai, ci, rfl⟩ := h1.len
 obtain ⟨ao, co, rfl⟩ := h2.len
 obtain ⟨al, cl, rfl⟩ := h3.len
 obtain ⟨aa, ca, rfl⟩ := h4.len
 obtain ⟨ac, cc, rfl⟩ := h5.len
 clear h1 h2 h3 h4 h5
 have hP0 := heap_alloc_new w (.cells #[.slice ai p.ins.length ci, .slice ao p.outs.length co, .slice al p.fl.length cl, .slice aa p.as.length ca, .slice ac p.cs.length cc] 45)
 have hR0 := heap_alloc_new (w.alloc (.cells #[.slice ai p.ins.length ci, .slice ao p.outs.length co, .slice al p.fl.length cl, .slice aa p.as.length ca, .slice ac p.cs.length cc] 45)) (.cells #[.int .i64 0, .int .i64 0] 77)
 have hb0 : Below w.heap.size w ((w.alloc (.cells #[.slice ai p.ins.length ci, .slice ao p.outs.length co, .slice al p.fl.length cl, .slice aa p.as.length ca, .slice ac p.cs.length cc] 45)).alloc (.cells #[.int .i64 0, .int .i64 0] 77)) := ((Below.refl _ _).alloc (Nat.le_refl _) _).alloc (by simp) _
 have hz1 : ((w.alloc (.cells #[.slice ai p.ins.length ci, .slice ao p.outs.length co, .slice al p.fl.length cl, .slice aa p.as.length ca, .slice ac p.cs.length cc] 45)).alloc (.cells #[.int .i64 0, .int .i64 0] 77)).heap.size = w.heap.size + 2 := by simp
 have hP1 := (Below.heap_alloc (w.alloc (.cells #[.slice ai p.ins.length ci, .slice ao p.outs.length co, .slice al p.fl.length cl, .slice aa p.as.length ca, .slice ac p.cs.length cc] 45)) (.cells #[.int .i64 0, .int .i64 0] 77) w.heap.size (by simp)).trans hP0
 rw [World.size_alloc] at hR0
 have HH1 := Lib.hid (hH.below hb0)
 have HB0 := Lib.hid hb0
 have HP1 := Lib.hid hP1
 have HR0 := Lib.hid hR0
 clear hP0 hR0 hP1 hb0
 go_enter Tryd.func26, Tryd.ntmps26
 go_wp2_with fail
 generalize (w.alloc (.cells #[.slice ai p.ins.length ci, .slice ao p.outs.length co, .slice al p.fl.length cl, .slice aa p.as.length ca, .slice ac p.cs.length cc] 45)).alloc (.cells #[.int .i64 0, .int .i64 0] 77) = W1 at *
 refine (orderOf_any H p _ _ _ _ _ HP.out s1 s2 s3 W1 HH1.out).mono ?_
 rintro r w1 ⟨hb1, v1, v2, rfl, hord⟩
 have HB1 := Lib.hid (HB0.out.trans (hb1.mono (by omega)))
 have hP1 := (hb1.block w.heap.size (by omega)).trans HP1.out
 have hR1 := (hb1.block (w.heap.size + 1) (by omega)).trans HR0.out
 have hz2 : w.heap.size + 2 ≤ w1.heap.size := by have := hb1.size; omega
 have HH2 := Lib.hid (HH1.out.below (hb1.mono (by omega)))
 have HP2 := Lib.hid hP1
 have HR2 := Lib.hid hR1
 clear hb1 hP1 hR1 HP1 HR0 HB0
 unfold OrdRef at hord
 cases hom : orderM p with
 | error x =>
  rw [hom] at hord
  obtain ⟨rfl, rfl⟩ := hord
  have HX := Lib.hid (show checkM p = x from by unfold checkM lateM; rw [hom])
  have hx0 : (0 : Int) < x.1 := by
   unfold orderM at hom
   split at hom
   ·rename_i h; cases hom; show (0 : Int) < (checkFlat p : Nat); omega
   ·split at hom
    ·cases hom; simp
    ·cases hom
  clear hom
  obtain ⟨c, at_⟩ := x
  dsimp only at *
  have HXC := Lib.hid (show ((checkM p).1 : Int) = c ∧ (checkM p).2 = at_ from by rw [HX.out]; exact ⟨rfl, rfl⟩)
  generalize (c : Int) = cI at *
  have hR3 := (Below.heap_alloc w1 (.cells #[.int .i64 cI, .int .i64 at_] 77) (w.heap.size + 1) (by omega)).trans HR2.out
  obtain ⟨q0, q1, f0, f1, hlw⟩ := cells2_of hR3
  obtain ⟨e0, e1, e2, e3⟩ := set2_of hR3 (.int .i64 cI) (.int .i64 at_)
  have E0 := Lib.hid e0
  have E1 := Lib.hid e1
  have hfin := HB1.out.alloc (by omega) (.cells #[.int .i64 cI, .int .i64 at_] 77)
  clear e0 e1 e2 e3 hR3
  go_wp2_with fail
  have e0 := E0.out
  have e1 := E1.out
  refine bodyPost_ret (v := .agg #[.int .i64 cI, .int .i64 at_]) (by simp [results, Tryd.results26, go_sem, e0, e1]) rfl ?_
  exact ⟨by rw [HXC.out.1, HXC.out.2], below_set2 hfin (by omega) _ _⟩
 | ok l =>
  rw [hom] at hord
  obtain ⟨hv, rfl⟩ := hord
  obtain ⟨av, cv, rfl⟩ := hv.len
  clear hv
  have HLM := Lib.hid (show lateM p = .ok (p.fl.map fun f => namesM p f.name) from by unfold lateM; rw [hom])
  have hck : checkFlat p = 0 := by
   unfold orderM at hom
   split at hom
   ·cases hom
   ·rename_i h; simpa using h
  obtain ⟨ks, _, _, hfm, hfl, hpp, _, _⟩ := check_zero hck
  have HFM := Lib.hid (show ∀ e ∈ p.terms, formAll ks e = true from fun e he => by
   obtain ⟨i, hi, h⟩ := List.mem_iff_getElem.1 he
   rw [← h]; exact (formAllL_get ks _).1 hfm i hi)
  have HPM := Lib.hid (show ∀ e ∈ p.terms, e.parts ≤ 1000000000000 from fun e he => by
   obtain ⟨i, hi, h⟩ := List.mem_iff_getElem.1 he
   have := getElem_parts _ i hi
   rw [← h]; omega)
  have HNM := Lib.hid (show ∀ f ∈ p.fl, formAll ks f.e = true from fun f hf => by
   obtain ⟨i, hi, he⟩ := List.mem_iff_getElem.1 (terms_fl p hf)
   rw [← he]; exact (formAllL_get ks _).1 hfm i hi)
  have HND := Lib.hid (names_nd hck)
  have hP3 := (Below.heap_alloc w1 (.cells #[.int .i64 0, .int .i64 (-1)] 77) w.heap.size (by omega)).trans HP2.out
  have hR3 := (Below.heap_alloc w1 (.cells #[.int .i64 0, .int .i64 (-1)] 77) (w.heap.size + 1) (by omega)).trans HR2.out
  have m0 : (w1.alloc (.cells #[.int .i64 0, .int .i64 (-1)] 77)).cell? ⟨w.heap.size, 0, none⟩ = some (.slice ai p.ins.length ci) := by simp [World.cell?, hP3]
  have m1 : (w1.alloc (.cells #[.int .i64 0, .int .i64 (-1)] 77)).cell? ⟨w.heap.size, 1, none⟩ = some (.slice ao p.outs.length co) := by simp [World.cell?, hP3]
  have m2 : (w1.alloc (.cells #[.int .i64 0, .int .i64 (-1)] 77)).cell? ⟨w.heap.size, 2, none⟩ = some (.slice al p.fl.length cl) := by simp [World.cell?, hP3]
  have m3 : (w1.alloc (.cells #[.int .i64 0, .int .i64 (-1)] 77)).cell? ⟨w.heap.size, 3, none⟩ = some (.slice aa p.as.length ca) := by simp [World.cell?, hP3]
  have m4 : (w1.alloc (.cells #[.int .i64 0, .int .i64 (-1)] 77)).cell? ⟨w.heap.size, 4, none⟩ = some (.slice ac p.cs.length cc) := by simp [World.cell?, hP3]
  have HP3 := Lib.hid hP3
  have HR3 := Lib.hid hR3
  have HB3 := Lib.hid (HB1.out.alloc (by omega) (.cells #[.int .i64 0, .int .i64 (-1)] 77))
  have HH3 := Lib.hid (HH2.out.alloc (.cells #[.int .i64 0, .int .i64 (-1)] 77))
  clear hom hck hfm hpp hP3 hR3
  go_wp2_with fail
  refine (lateFlows_any H p _ _ _ _ _ HP.out ks HNM.out HND.out s1 s2 _ HH3.out).mono ?_
  rintro r w2 ⟨A, vA, rfl, hAl, hAf, hAb, hvA, hb2⟩
  obtain ⟨aA, cA, rfl⟩ := hvA.len
  rw [hAl] at hvA ⊢
  have HVA := Lib.hid hvA
  have HAF := Lib.hid hAf
  have HAL := Lib.hid hAl
  have HAB := Lib.hid hAb
  have hz3 := HB3.out.size
  have hz4 := hb2.size
  simp only [World.size_alloc] at hz4 hb2
  have HB4 := Lib.hid (HB3.out.trans (hb2.mono (by omega)))
  have HP4 := Lib.hid ((hb2.block w.heap.size (by omega)).trans HP3.out)
  have HR4 := Lib.hid ((hb2.block (w.heap.size + 1) (by omega)).trans HR3.out)
  have HH4 := Lib.hid (HH3.out.below (by simpa using hb2))
  have HPA := Lib.hid (HP.out.le (show H.le (allKn w2) from HH4.out))
  clear hvA hAf hAl hAb hb2 HP3 HR3 HB3 HH3 HP2 HR2 HB1 HH2 m0 m1 m2 m3 m4
  go_wp2_with fail
  go_loopw [6, 7] (fun i u7 wr => ∃ k : Nat, i = .int .i64 k ∧ k ≤ p.fl.length ∧ Below w2.heap.size w2 wr ∧ ∀ j (hj : j < p.fl.length), j < k → hit p p.fl[j].name = false) (fun i _ _ => p.fl.length - (intOf i).toNat)
  case atStart => exact ⟨0, rfl, Nat.zero_le _, Below.refl _ _, fun j _ h => by omega⟩
  case round =>
   obtain ⟨k, rfl, hk, hb, hno⟩ := hrel
   have HB := Lib.hid hb
   have HNO := Lib.hid hno
   clear hb hno
   have hP5 := (HB.out.block w.heap.size (by omega)).trans HP4.out
   have m1 : wr.cell? ⟨w.heap.size, 1, none⟩ = some (.slice ao p.outs.length co) := by simp [World.cell?, hP5]
   have m2 : wr.cell? ⟨w.heap.size, 2, none⟩ = some (.slice al p.fl.length cl) := by simp [World.cell?, hP5]
   have m3 : wr.cell? ⟨w.heap.size, 3, none⟩ = some (.slice aa p.as.length ca) := by simp [World.cell?, hP5]
   by_cases hkl : k < p.fl.length
   ·have hkI : (k : Int) < p.fl.length := by omega
    have hP2 := HP4.out
    have k1 : (allKn w2).cell w.heap.size 1 = some (.slice ao p.outs.length co) := by rw [allKn_cell]; simp [World.cell?, hP2]
    have k2 : (allKn w2).cell w.heap.size 2 = some (.slice al p.fl.length cl) := by rw [allKn_cell]; simp [World.cell?, hP2]
    obtain ⟨bb, off, cap0, he, _, _, hcs⟩ := FlsV.cell HPA.out.fl (fun e => by rw [e] at hkl; simp at hkl)
    cases he
    obtain ⟨ax, cx, d0, d1, d2, d3, d4, d5, hx⟩ := hcs k hkl
    have hS2 : (allKn w2).In wr.drew := (allKn_in w2).below HB.out.drew
    have HIT := Lib.hid (show hit p p.fl[k].name = (decide (namesM p p.fl[k].name = 2) || decide (namesM p p.fl[k].name = 1) && p.outs.contains p.fl[k].name) from rfl)
    have HYES := Lib.hid (show hit p p.fl[k].name = true → checkM p = (7, (k : Int)) from fun h => checkM_hit HLM.out k hkl h HNO.out)
    have HNOT := Lib.hid (show hit p p.fl[k].name = false → ∀ j (hj : j < p.fl.length), j < k + 1 → hit p p.fl[j].name = false from fun h j hj hjk => by
     by_cases hjk' : j < k
     ·exact HNO.out j hj hjk'
     ·obtain rfl : j = k := by omega
      exact h)
    clear hcs d1 d2 d3 d4 d5 hx hP2 hP5
    have HNX := Lib.hid (fLate_get HND.out A HAL.out k hkl)
    rw [HAF.out] at HNX
    have hkA : k < A.length := by rw [HAL.out]; exact hkl
    have hvA2 : SIntsV (allKn w2) A (.slice aA A.length cA) := by rw [HAL.out]; exact HVA.out
    obtain ⟨bA, oA, hbA, _, a0⟩ := SlV.at hvA2 hkA
    cases hbA
    have a0 : (allKn w2).cell bA (oA + k * 1 + 0) = some (.int .i64 A[k]) := a0
    simp only [Nat.mul_one, Nat.add_zero] at a0
    have n0 := ((allKn_in w2).below HB.out.drew).cell a0
    clear a0 hvA2
    generalize hak : A[k] = ak at *
    clear hak
    generalize p.fl[k] = x at *
    rw [← HNX.out] at n0
    obtain ⟨hc, hhc⟩ : ∃ b, b = p.outs.contains x.name := ⟨_, rfl⟩
    have HCO := Lib.hid (fun (wz : World) (hz : (allKn w2).In wz) => (rhas_any _ _ p.outs x.name wz HPA.out.outs (by omega) hz))
    rw [← hhc] at HCO HIT
    clear hhc
    generalize namesM p x.name = q at *
    go_wp2_with fail
    refine wp_region_2 (fun w' => (allKn w2).In w') (fun _ => True) 99 (by kernel_rfl) ?_
    refine tk2 (i := 0) (v := ?_) rfl hS2 (fun _ => trivial) ?hy ?_
    case hy => intro w hSw; obtain ⟨z0, z1, z2⟩ := hSw.c3 k1 k2 d0; go_simp <;> with_reducible rfl
    try simp only [tkS, List.getElem_toArray, List.getElem_cons_zero, List.getElem_cons_succ]
    refine tk2 (i := 1) (v := ?_) rfl hS2 (fun _ => trivial) ?hy ?_
    case hy => intro w hSw; obtain ⟨z0, z1, z2⟩ := hSw.c3 k1 k2 d0; go_simp <;> with_reducible rfl
    try simp only [tkS, List.getElem_toArray, List.getElem_cons_zero, List.getElem_cons_succ]
    refine tk2 (i := 2) (v := ?_) rfl hS2 (fun _ => trivial) ?hy ?_
    case hy => intro w hSw; obtain ⟨z0, z1, z2⟩ := hSw.c3 k1 k2 d0; go_simp <;> with_reducible rfl
    try simp only [tkS, List.getElem_toArray, List.getElem_cons_zero, List.getElem_cons_succ]
    refine tk2 (i := 3) (v := ?_) rfl hS2 (fun _ => trivial) ?hy ?_
    case hy => intro w hSw; obtain ⟨z0, z1, z2⟩ := hSw.c3 k1 k2 d0; go_simp <;> with_reducible rfl
    try simp only [tkS, List.getElem_toArray, List.getElem_cons_zero, List.getElem_cons_succ]
    refine tk2 (i := 4) (v := ?_) rfl hS2 (fun _ => trivial) ?hy ?_
    case hy => intro w hSw; obtain ⟨z0, z1, z2⟩ := hSw.c3 k1 k2 d0; go_simp <;> with_reducible rfl
    try simp only [tkS, List.getElem_toArray, List.getElem_cons_zero, List.getElem_cons_succ]
    refine tk2 (i := 5) (v := ?_) rfl hS2 (fun _ => trivial) ?hy ?_
    case hy => intro w hSw; obtain ⟨z0, z1, z2⟩ := hSw.c3 k1 k2 d0; go_simp <;> with_reducible rfl
    try simp only [tkS, List.getElem_toArray, List.getElem_cons_zero, List.getElem_cons_succ]
    refine tk2 (i := 6) (v := ?_) rfl hS2 (fun _ => trivial) ?hy ?_
    case hy => intro w hSw; obtain ⟨z0, z1, z2⟩ := hSw.c3 k1 k2 d0; go_simp <;> with_reducible rfl
    try simp only [tkS, List.getElem_toArray, List.getElem_cons_zero, List.getElem_cons_succ]
    refine tk2 (i := 7) (v := ?_) rfl hS2 (fun _ => trivial) ?hy ?_
    case hy => intro w hSw; obtain ⟨z0, z1, z2⟩ := hSw.c3 k1 k2 d0; go_simp <;> with_reducible rfl
    try simp only [tkS, List.getElem_toArray, List.getElem_cons_zero, List.getElem_cons_succ]
    refine wpAny2_one (i := 8) (o := _) (by kernel_rfl) rfl (fun K_ hK => ?_)
    go_simp
    go_at_call 44
    refine (HCO.out _ hS2).mono ?_
    rintro r w3 ⟨rfl, rfl⟩
    refine hK.out _ _ (hS2) (fun _ => trivial) ?_
    clear hK K_
    try simp only [tkS, List.getElem_toArray, List.getElem_cons_zero, List.getElem_cons_succ]
    refine tk2 (i := 9) (v := ?_) rfl hS2 (fun _ => trivial) ?hy ?_
    case hy => intro w hSw; obtain ⟨z0, z1, z2⟩ := hSw.c3 k1 k2 d0; go_simp <;> with_reducible rfl
    try simp only [tkS, List.getElem_toArray, List.getElem_cons_zero, List.getElem_cons_succ]
    refine wpAny2_done (by kernel_rfl) ?_ _
    have HBD := Lib.hid HB.out.drew
    have hR5 : wr.drew.heap[w.heap.size + 1]? = _ := (HBD.out.block (w.heap.size + 1) (by omega)).trans HR4.out
    have hway : q = 2 ∨ (q = 1 ∧ hc = true) ∨ (q = 1 ∧ hc = false) ∨ (q ≠ 2 ∧ q ≠ 1) := by
     by_cases a : q = 2
     ·exact .inl a
     ·by_cases b : q = 1
      ·cases hc
       ·exact .inr (.inr (.inl ⟨b, rfl⟩))
       ·exact .inr (.inl ⟨b, rfl⟩)
      ·exact .inr (.inr (.inr ⟨a, b⟩))
    rcases hway with rfl | ⟨rfl, rfl⟩ | ⟨rfl, rfl⟩ | ⟨hq2, hq1⟩
    ·have HX := Lib.hid (HYES.out (by rw [HIT.out]; rfl))
     obtain ⟨q0, q1, f0, f1, hlw⟩ := cells2_of hR5
     have hR6 := (HB.out.block (w.heap.size + 1) (by omega)).trans HR4.out
     obtain ⟨q2, q3, f2, f3, hlw2⟩ := cells2_of hR6
     obtain ⟨e0, e1, e2, e3⟩ := set2_of hR6 (.int .i64 7) (.int .i64 k)
     have E0 := Lib.hid e0
     have E1 := Lib.hid e1
     clear e0 e1 e2 e3 hR5
     go_wp2_with fail
     have e0 := E0.out
     have e1 := E1.out
     refine bodyPost_ret (v := .agg #[.int .i64 7, .int .i64 k]) (by simp [results, Tryd.results26, go_sem, e0, e1]) rfl ?_
     exact ⟨by rw [HX.out]; rfl, below_set2 (HB4.out.trans (HBD.out.mono (by omega))) (by omega) _ _⟩
    ·have HX := Lib.hid (HYES.out (by rw [HIT.out]; rfl))
     obtain ⟨q0, q1, f0, f1, hlw⟩ := cells2_of hR5
     have hR6 := (HB.out.block (w.heap.size + 1) (by omega)).trans HR4.out
     obtain ⟨q2, q3, f2, f3, hlw2⟩ := cells2_of hR6
     obtain ⟨e0, e1, e2, e3⟩ := set2_of hR6 (.int .i64 7) (.int .i64 k)
     have E0 := Lib.hid e0
     have E1 := Lib.hid e1
     clear e0 e1 e2 e3 hR5
     go_wp2_with fail
     have e0 := E0.out
     have e1 := E1.out
     refine bodyPost_ret (v := .agg #[.int .i64 7, .int .i64 k]) (by simp [results, Tryd.results26, go_sem, e0, e1]) rfl ?_
     exact ⟨by rw [HX.out]; rfl, below_set2 (HB4.out.trans (HBD.out.mono (by omega))) (by omega) _ _⟩
    ·have HX := Lib.hid (HNOT.out (by rw [HIT.out]; rfl))
     clear hR5
     go_wp2_with fail
     go_roundw
     case rel => exact ⟨k + 1, by go_num, by omega, HBD.out, HX.out⟩
     case measure => simp [intOf]; omega
    ·have e2 : (q == 2) = false := by simpa using hq2
     have e1 : (q == 1) = false := by simpa using hq1
     have HX := Lib.hid (HNOT.out (by rw [HIT.out]; simp [hq2, hq1]))
     clear hR5
     go_wp2_with fail
     go_roundw
     case rel => exact ⟨k + 1, by go_num, by omega, HBD.out, HX.out⟩
     case measure => simp [intOf]; omega
   ·obtain rfl : k = p.fl.length := by omega
    have HE := Lib.hid (checkM_end HLM.out fun j hj => HNO.out j hj hj)
    clear HNO hkl
    have HBq := HB
    have HMA := Lib.hid (show ∀ e ∈ p.as, e ∈ p.terms from fun e he => by simp [Pr.terms, he])
    have HMC := Lib.hid (show ∀ e ∈ p.cs, e ∈ p.terms from fun e he => by simp [Pr.terms, he])
    go_wp2_with fail
    clear m1 m2 m3 hP5
    go_loopw [8] (fun i wr => ∃ k : Nat, i = .int .i64 k ∧ k ≤ p.as.length ∧ Below w2.heap.size w2 wr ∧ ∀ j (hj : j < p.as.length), j < k → lateOf (namesM p) p.as[j] ≤ 0) (fun i _ => p.as.length - (intOf i).toNat)
    case atStart => exact ⟨0, rfl, Nat.zero_le _, HBq.out, fun j _ h => by omega⟩
    case round =>
     obtain ⟨k, rfl, hk, hb, hno⟩ := hrel
     have HB := Lib.hid hb
     have HNO := Lib.hid hno
     clear hb hno
     have hP5 := (HB.out.block w.heap.size (by omega)).trans HP4.out
     have m3 : wr.cell? ⟨w.heap.size, 3, none⟩ = some (.slice aa p.as.length ca) := by simp [World.cell?, hP5]
     by_cases hkl : k < p.as.length
     ·have hkI : (k : Int) < p.as.length := by omega
      have hP2 := HP4.out
      have k0 : (allKn w2).cell w.heap.size 0 = some (.slice ai p.ins.length ci) := by rw [allKn_cell]; simp [World.cell?, hP2]
      have k1 : (allKn w2).cell w.heap.size 1 = some (.slice ao p.outs.length co) := by rw [allKn_cell]; simp [World.cell?, hP2]
      have k2 : (allKn w2).cell w.heap.size 2 = some (.slice al p.fl.length cl) := by rw [allKn_cell]; simp [World.cell?, hP2]
      have k3 : (allKn w2).cell w.heap.size 3 = some (.slice aa p.as.length ca) := by rw [allKn_cell]; simp [World.cell?, hP2]
      have k4 : (allKn w2).cell w.heap.size 4 = some (.slice ac p.cs.length cc) := by rw [allKn_cell]; simp [World.cell?, hP2]
      obtain ⟨bb, off, ax, cx, he, d0, d1, d2, d3, hx⟩ := ExsV.at HPA.out.asr hkl
      cases he
      have hS2 : (allKn w2).In wr.drew := (allKn_in w2).below HB.out.drew
      have HYES := Lib.hid (show 0 < lateOf (namesM p) p.as[k] → checkM p = (7, -1) from fun h => by
       rw [HE.out, if_pos]
       rw [List.any_eq_true]
       exact ⟨p.as[k], List.mem_append_left _ (List.getElem_mem hkl), by simpa using h⟩)
      have HNOT := Lib.hid (show lateOf (namesM p) p.as[k] ≤ 0 → ∀ j (hj : j < p.as.length), j < k + 1 → lateOf (namesM p) p.as[j] ≤ 0 from fun h j hj hjk => by
       by_cases hjk' : j < k
       ·exact HNO.out j hj hjk'
       ·obtain rfl : j = k := by omega
        exact h)
      have hfx := HFM.out _ (HMA.out _ (List.getElem_mem hkl))
      have hpx := HPM.out _ (HMA.out _ (List.getElem_mem hkl))
      have HCL := Lib.hid (fun (wz : World) (hz : (allKn w2).In wz) => lateR_any p _ _ _ _ _ A HAL.out HAB.out s1 ks p.as[k] hfx hpx (allKn w2) _ _ hx HPA.out HVA.out wz hz)
      rw [HAF.out] at HCL
      clear hfx hpx hx hP2 hP5
      generalize lateOf (namesM p) p.as[k] = q at *
      generalize p.as[k] = x at *
      go_wp2_with fail
      refine wp_region_2 (fun w' => (allKn w2).In w') (fun _ => True) 99 (by kernel_rfl) ?_
      refine tk2 (i := 0) (v := ?_) rfl hS2 (fun _ => trivial) ?hy ?_
      case hy => intro w hSw; obtain ⟨z0, z1, z2, z3, z4, z5, z6, z7, z8⟩ := hSw.c9 k0 k1 k2 k3 k4 d0 d1 d2 d3; go_simp <;> with_reducible rfl
      try simp only [tkS, List.getElem_toArray, List.getElem_cons_zero, List.getElem_cons_succ]
      refine tk2 (i := 1) (v := ?_) rfl hS2 (fun _ => trivial) ?hy ?_
      case hy => intro w hSw; obtain ⟨z0, z1, z2, z3, z4, z5, z6, z7, z8⟩ := hSw.c9 k0 k1 k2 k3 k4 d0 d1 d2 d3; go_simp <;> with_reducible rfl
      try simp only [tkS, List.getElem_toArray, List.getElem_cons_zero, List.getElem_cons_succ]
      refine tk2 (i := 2) (v := ?_) rfl hS2 (fun _ => trivial) ?hy ?_
      case hy => intro w hSw; obtain ⟨z0, z1, z2, z3, z4, z5, z6, z7, z8⟩ := hSw.c9 k0 k1 k2 k3 k4 d0 d1 d2 d3; go_simp <;> with_reducible rfl
      try simp only [tkS, List.getElem_toArray, List.getElem_cons_zero, List.getElem_cons_succ]
      refine tk2 (i := 3) (v := ?_) rfl hS2 (fun _ => trivial) ?hy ?_
      case hy => intro w hSw; obtain ⟨z0, z1, z2, z3, z4, z5, z6, z7, z8⟩ := hSw.c9 k0 k1 k2 k3 k4 d0 d1 d2 d3; go_simp <;> with_reducible rfl
      try simp only [tkS, List.getElem_toArray, List.getElem_cons_zero, List.getElem_cons_succ]
      refine tk2 (i := 4) (v := ?_) rfl hS2 (fun _ => trivial) ?hy ?_
      case hy => intro w hSw; obtain ⟨z0, z1, z2, z3, z4, z5, z6, z7, z8⟩ := hSw.c9 k0 k1 k2 k3 k4 d0 d1 d2 d3; go_simp <;> with_reducible rfl
      try simp only [tkS, List.getElem_toArray, List.getElem_cons_zero, List.getElem_cons_succ]
      refine tk2 (i := 5) (v := ?_) rfl hS2 (fun _ => trivial) ?hy ?_
      case hy => intro w hSw; obtain ⟨z0, z1, z2, z3, z4, z5, z6, z7, z8⟩ := hSw.c9 k0 k1 k2 k3 k4 d0 d1 d2 d3; go_simp <;> with_reducible rfl
      try simp only [tkS, List.getElem_toArray, List.getElem_cons_zero, List.getElem_cons_succ]
      refine tk2 (i := 6) (v := ?_) rfl hS2 (fun _ => trivial) ?hy ?_
      case hy => intro w hSw; obtain ⟨z0, z1, z2, z3, z4, z5, z6, z7, z8⟩ := hSw.c9 k0 k1 k2 k3 k4 d0 d1 d2 d3; go_simp <;> with_reducible rfl
      try simp only [tkS, List.getElem_toArray, List.getElem_cons_zero, List.getElem_cons_succ]
      refine wpAny2_one (i := 7) (o := _) (by kernel_rfl) rfl (fun K_ hK => ?_)
      go_simp
      go_at_call 45
      refine (HCL.out _ hS2).mono ?_
      rintro r w3 ⟨rfl, hb3⟩
      have hS3 := hS2.below hb3
      refine hK.out _ _ (hS3) (fun _ => trivial) ?_
      clear hK K_
      try simp only [tkS, List.getElem_toArray, List.getElem_cons_zero, List.getElem_cons_succ]
      refine tk2 (i := 8) (v := ?_) rfl hS3 (fun _ => trivial) ?hy ?_
      case hy => intro w hSw; obtain ⟨z0, z1, z2, z3, z4, z5, z6, z7, z8⟩ := hSw.c9 k0 k1 k2 k3 k4 d0 d1 d2 d3; go_simp <;> with_reducible rfl
      try simp only [tkS, List.getElem_toArray, List.getElem_cons_zero, List.getElem_cons_succ]
      refine wpAny2_done (by kernel_rfl) ?_ _
      have HB3 := Lib.hid (HB.out.drew.trans (hb3.mono (by have := HB.out.drew.size; omega)))
      by_cases hq : 0 < q
      ·have HX := Lib.hid (HYES.out hq)
       go_wp2_with fail
       refine (bare_any 7 _).mono ?_
       rintro r w5 ⟨rfl, hb5⟩
       have HB5 := Lib.hid (HB3.out.trans (hb5.mono HB3.out.size))
       have hR5 := (HB5.out.block (w.heap.size + 1) (by omega)).trans HR4.out
       obtain ⟨q0, q1, f0, f1, hlw⟩ := cells2_of hR5
       obtain ⟨e0, e1, e2, e3⟩ := set2_of hR5 (.int .i64 7) (.int .i64 (-1))
       have E0 := Lib.hid e0
       have E1 := Lib.hid e1
       clear e0 e1 e2 e3 hR5
       go_wp2_with fail
       have e0 := E0.out
       have e1 := E1.out
       refine bodyPost_ret (v := .agg #[.int .i64 7, .int .i64 (-1)]) (by simp [results, Tryd.results26, go_sem, e0, e1]) rfl ?_
       exact ⟨by rw [HX.out]; rfl, below_set2 (HB4.out.trans (HB5.out.mono (by omega))) (by omega) _ _⟩
      ·have HX := Lib.hid (HNOT.out (by omega))
       go_wp2_with fail
       go_roundw
       case rel => exact ⟨k + 1, by go_num, by omega, HB3.out, HX.out⟩
       case measure => simp [intOf]; omega
     ·obtain rfl : k = p.as.length := by omega
      have HNA := Lib.hid (fun j (hj : j < p.as.length) => HNO.out j hj hj)
      have HBr := HB
      clear HNO hkl
      go_wp2_with fail
      go_loopw [9] (fun i wr => ∃ k : Nat, i = .int .i64 k ∧ k ≤ p.cs.length ∧ Below w2.heap.size w2 wr ∧ ∀ j (hj : j < p.cs.length), j < k → lateOf (namesM p) p.cs[j] ≤ 0) (fun i _ => p.cs.length - (intOf i).toNat)
      case atStart => exact ⟨0, rfl, Nat.zero_le _, HBr.out, fun j _ h => by omega⟩
      case round =>
       obtain ⟨k, rfl, hk, hb, hno⟩ := hrel
       have HB := Lib.hid hb
       have HNO := Lib.hid hno
       clear hb hno
       have hP5 := (HB.out.block w.heap.size (by omega)).trans HP4.out
       have m4 : wr.cell? ⟨w.heap.size, 4, none⟩ = some (.slice ac p.cs.length cc) := by simp [World.cell?, hP5]
       by_cases hkl : k < p.cs.length
       ·have hkI : (k : Int) < p.cs.length := by omega
        have hP2 := HP4.out
        have k0 : (allKn w2).cell w.heap.size 0 = some (.slice ai p.ins.length ci) := by rw [allKn_cell]; simp [World.cell?, hP2]
        have k1 : (allKn w2).cell w.heap.size 1 = some (.slice ao p.outs.length co) := by rw [allKn_cell]; simp [World.cell?, hP2]
        have k2 : (allKn w2).cell w.heap.size 2 = some (.slice al p.fl.length cl) := by rw [allKn_cell]; simp [World.cell?, hP2]
        have k3 : (allKn w2).cell w.heap.size 3 = some (.slice aa p.as.length ca) := by rw [allKn_cell]; simp [World.cell?, hP2]
        have k4 : (allKn w2).cell w.heap.size 4 = some (.slice ac p.cs.length cc) := by rw [allKn_cell]; simp [World.cell?, hP2]
        obtain ⟨bb, off, ax, cx, he, d0, d1, d2, d3, hx⟩ := ExsV.at HPA.out.chk hkl
        cases he
        have hS2 : (allKn w2).In wr.drew := (allKn_in w2).below HB.out.drew
        have HYES := Lib.hid (show 0 < lateOf (namesM p) p.cs[k] → checkM p = (7, -1) from fun h => by
         rw [HE.out, if_pos]
         rw [List.any_eq_true]
         exact ⟨p.cs[k], List.mem_append_right _ (List.getElem_mem hkl), by simpa using h⟩)
        have HNOT := Lib.hid (show lateOf (namesM p) p.cs[k] ≤ 0 → ∀ j (hj : j < p.cs.length), j < k + 1 → lateOf (namesM p) p.cs[j] ≤ 0 from fun h j hj hjk => by
         by_cases hjk' : j < k
         ·exact HNO.out j hj hjk'
         ·obtain rfl : j = k := by omega
          exact h)
        have hfx := HFM.out _ (HMC.out _ (List.getElem_mem hkl))
        have hpx := HPM.out _ (HMC.out _ (List.getElem_mem hkl))
        have HCL := Lib.hid (fun (wz : World) (hz : (allKn w2).In wz) => lateR_any p _ _ _ _ _ A HAL.out HAB.out s1 ks p.cs[k] hfx hpx (allKn w2) _ _ hx HPA.out HVA.out wz hz)
        rw [HAF.out] at HCL
        clear hfx hpx hx hP2 hP5
        generalize lateOf (namesM p) p.cs[k] = q at *
        generalize p.cs[k] = x at *
        go_wp2_with fail
        refine wp_region_2 (fun w' => (allKn w2).In w') (fun _ => True) 99 (by kernel_rfl) ?_
        refine tk2 (i := 0) (v := ?_) rfl hS2 (fun _ => trivial) ?hy ?_
        case hy => intro w hSw; obtain ⟨z0, z1, z2, z3, z4, z5, z6, z7, z8⟩ := hSw.c9 k0 k1 k2 k3 k4 d0 d1 d2 d3; go_simp <;> with_reducible rfl
        try simp only [tkS, List.getElem_toArray, List.getElem_cons_zero, List.getElem_cons_succ]
        refine tk2 (i := 1) (v := ?_) rfl hS2 (fun _ => trivial) ?hy ?_
        case hy => intro w hSw; obtain ⟨z0, z1, z2, z3, z4, z5, z6, z7, z8⟩ := hSw.c9 k0 k1 k2 k3 k4 d0 d1 d2 d3; go_simp <;> with_reducible rfl
        try simp only [tkS, List.getElem_toArray, List.getElem_cons_zero, List.getElem_cons_succ]
        refine tk2 (i := 2) (v := ?_) rfl hS2 (fun _ => trivial) ?hy ?_
        case hy => intro w hSw; obtain ⟨z0, z1, z2, z3, z4, z5, z6, z7, z8⟩ := hSw.c9 k0 k1 k2 k3 k4 d0 d1 d2 d3; go_simp <;> with_reducible rfl
        try simp only [tkS, List.getElem_toArray, List.getElem_cons_zero, List.getElem_cons_succ]
        refine tk2 (i := 3) (v := ?_) rfl hS2 (fun _ => trivial) ?hy ?_
        case hy => intro w hSw; obtain ⟨z0, z1, z2, z3, z4, z5, z6, z7, z8⟩ := hSw.c9 k0 k1 k2 k3 k4 d0 d1 d2 d3; go_simp <;> with_reducible rfl
        try simp only [tkS, List.getElem_toArray, List.getElem_cons_zero, List.getElem_cons_succ]
        refine tk2 (i := 4) (v := ?_) rfl hS2 (fun _ => trivial) ?hy ?_
        case hy => intro w hSw; obtain ⟨z0, z1, z2, z3, z4, z5, z6, z7, z8⟩ := hSw.c9 k0 k1 k2 k3 k4 d0 d1 d2 d3; go_simp <;> with_reducible rfl
        try simp only [tkS, List.getElem_toArray, List.getElem_cons_zero, List.getElem_cons_succ]
        refine tk2 (i := 5) (v := ?_) rfl hS2 (fun _ => trivial) ?hy ?_
        case hy => intro w hSw; obtain ⟨z0, z1, z2, z3, z4, z5, z6, z7, z8⟩ := hSw.c9 k0 k1 k2 k3 k4 d0 d1 d2 d3; go_simp <;> with_reducible rfl
        try simp only [tkS, List.getElem_toArray, List.getElem_cons_zero, List.getElem_cons_succ]
        refine tk2 (i := 6) (v := ?_) rfl hS2 (fun _ => trivial) ?hy ?_
        case hy => intro w hSw; obtain ⟨z0, z1, z2, z3, z4, z5, z6, z7, z8⟩ := hSw.c9 k0 k1 k2 k3 k4 d0 d1 d2 d3; go_simp <;> with_reducible rfl
        try simp only [tkS, List.getElem_toArray, List.getElem_cons_zero, List.getElem_cons_succ]
        refine wpAny2_one (i := 7) (o := _) (by kernel_rfl) rfl (fun K_ hK => ?_)
        go_simp
        go_at_call 45
        refine (HCL.out _ hS2).mono ?_
        rintro r w3 ⟨rfl, hb3⟩
        have hS3 := hS2.below hb3
        refine hK.out _ _ (hS3) (fun _ => trivial) ?_
        clear hK K_
        try simp only [tkS, List.getElem_toArray, List.getElem_cons_zero, List.getElem_cons_succ]
        refine tk2 (i := 8) (v := ?_) rfl hS3 (fun _ => trivial) ?hy ?_
        case hy => intro w hSw; obtain ⟨z0, z1, z2, z3, z4, z5, z6, z7, z8⟩ := hSw.c9 k0 k1 k2 k3 k4 d0 d1 d2 d3; go_simp <;> with_reducible rfl
        try simp only [tkS, List.getElem_toArray, List.getElem_cons_zero, List.getElem_cons_succ]
        refine wpAny2_done (by kernel_rfl) ?_ _
        have HB3 := Lib.hid (HB.out.drew.trans (hb3.mono (by have := HB.out.drew.size; omega)))
        by_cases hq : 0 < q
        ·have HX := Lib.hid (HYES.out hq)
         go_wp2_with fail
         refine (bare_any 7 _).mono ?_
         rintro r w5 ⟨rfl, hb5⟩
         have HB5 := Lib.hid (HB3.out.trans (hb5.mono HB3.out.size))
         have hR5 := (HB5.out.block (w.heap.size + 1) (by omega)).trans HR4.out
         obtain ⟨q0, q1, f0, f1, hlw⟩ := cells2_of hR5
         obtain ⟨e0, e1, e2, e3⟩ := set2_of hR5 (.int .i64 7) (.int .i64 (-1))
         have E0 := Lib.hid e0
         have E1 := Lib.hid e1
         clear e0 e1 e2 e3 hR5
         go_wp2_with fail
         have e0 := E0.out
         have e1 := E1.out
         refine bodyPost_ret (v := .agg #[.int .i64 7, .int .i64 (-1)]) (by simp [results, Tryd.results26, go_sem, e0, e1]) rfl ?_
         exact ⟨by rw [HX.out]; rfl, below_set2 (HB4.out.trans (HB5.out.mono (by omega))) (by omega) _ _⟩
        ·have HX := Lib.hid (HNOT.out (by omega))
         go_wp2_with fail
         go_roundw
         case rel => exact ⟨k + 1, by go_num, by omega, HB3.out, HX.out⟩
         case measure => simp [intOf]; omega
       ·obtain rfl : k = p.cs.length := by omega
        have HNC := Lib.hid (fun j (hj : j < p.cs.length) => HNO.out j hj hj)
        have HBs := HB
        clear HNO hkl
        go_wp2_with fail
        have HX := Lib.hid (show checkM p = (0, -1) from by
         rw [HE.out, if_neg]
         intro h
         obtain ⟨e, he, h0⟩ := List.any_eq_true.1 h
         have h0 : 0 < lateOf (namesM p) e := by simpa using h0
         rcases List.mem_append.1 he with h1 | h1
         ·obtain ⟨i, hi, rfl⟩ := List.mem_iff_getElem.1 h1
          have := HNA.out i hi
          omega
         ·obtain ⟨i, hi, rfl⟩ := List.mem_iff_getElem.1 h1
          have := HNC.out i hi
          omega)
        refine (fine_any _).mono ?_
        rintro r w5 ⟨rfl, hb5⟩
        have HB5 := Lib.hid (HBs.out.trans (hb5.mono HBs.out.size))
        have hR5 := (HB5.out.block (w.heap.size + 1) (by omega)).trans HR4.out
        obtain ⟨q0, q1, f0, f1, hlw⟩ := cells2_of hR5
        obtain ⟨e0, e1, e2, e3⟩ := set2_of hR5 (.int .i64 0) (.int .i64 (-1))
        have E0 := Lib.hid e0
        have E1 := Lib.hid e1
        clear e0 e1 e2 e3 hR5
        go_wp2_with fail
        have e0 := E0.out
        have e1 := E1.out
        refine bodyPost_ret (v := .agg #[.int .i64 0, .int .i64 (-1)]) (by simp [results, Tryd.results26, go_sem, e0, e1]) rfl ?_
        exact ⟨by rw [HX.out]; rfl, below_set2 (HB4.out.trans (HB5.out.mono (by omega))) (by omega) _ _⟩
end Go.Proofs.YthejomlhmdeimaaDoor
