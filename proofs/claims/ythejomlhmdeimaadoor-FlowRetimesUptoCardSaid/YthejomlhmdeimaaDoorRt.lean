/- Walks: lustrumlaw2.FlowRetimes. -/
import Derived.Test.YthejomlhmdeimaaDoorTo
import Derived.Test.YthejomlhmdeimaaDoorNu
import Derived.Test.YthejomlhmdeimaaDoorRtM
namespace Go.Proofs.YthejomlhmdeimaaDoor
set_option maxRecDepth 100000
set_option maxHeartbeats 16000000
open Go.RowKit Mx
theorem flowRetimes_any (H : Kn) (T : LevelsAt H) (sp : Nat → Addr) (kind : Int) (a e : Ex) (va vb : Value) (ha : ExV H a va) (hb : ExV H e vb) (ins : List (List Vl)) (vin : Value) (hi : InsV H ins vin) (hz : a.weight ≤ 1048576 ∧ e.weight ≤ 1048576 ∧ ins.length ≤ 1048576) (w : World) (hH : H.In w) (S : Sen5 w sp) :
  Calls Tryd.prog 4 #[.int .i64 kind, va, vb, vin] w fun r w' => r = .returned (.bool true) ∧ Below w.heap.size w w' := by
 have hle : ∀ w1, Below w.heap.size w w1 → LevelsAt (allKn w1) := fun w1 hb => T.le (kn_le_all (hH.below hb))
 have HLE := Lib.hid hle
 clear hle
 obtain ⟨aa, ca, rfl, hua⟩ := ha.shape
 obtain ⟨ae, ce, rfl, hub⟩ := hb.shape
 obtain ⟨an, cn, rfl⟩ := hi.len
 have HI := Lib.hid hi
 have HA := Lib.hid ha
 have HB := Lib.hid hb
 clear ha hb hua hub hi
 obtain ⟨hz1, hz2, hz3⟩ := hz
 have HLV := Lib.hid (fun (K : Kn) (h : H.le K) => T.le h)
 have hlw := late_weight e
 have HZW := Lib.hid (show (arrE a (preE e)).weight + (arrE a (lateE e)).weight ≤ 100000000 from by
  simp only [arrE, preE, Ex.weight, Ex.weightL, show (⟨#[]⟩ : ByteArray).size = 0 from rfl]
  omega)
 have hpw := partsL_le_weightL [e]
 simp only [Ex.partsL, Ex.weightL, Nat.add_zero] at hpw
 have HZP := Lib.hid (show e.parts ≤ 1000000000000 from by omega)
 have HZE := HZP
 clear hlw hpw
 go_enter Tryd.func4, Tryd.ntmps4
 go_wp2_with fail
 have hs := fun i => heap_allocs [Obj.cells #[.string a.op, .int .i64 a.n, .string a.s, .slice aa a.l.length ca] 24, Obj.cells #[.string e.op, .int .i64 e.n, .string e.s, .slice ae e.l.length ce] 24] w i
 have hbW := below_allocs [Obj.cells #[.string a.op, .int .i64 a.n, .string a.s, .slice aa a.l.length ca] 24, Obj.cells #[.string e.op, .int .i64 e.n, .string e.s, .slice ae e.l.length ce] 24] w
 simp only [List.foldl_cons, List.foldl_nil] at hs hbW
 generalize (w.alloc (.cells #[.string a.op, .int .i64 a.n, .string a.s, .slice aa a.l.length ca] 24)).alloc (.cells #[.string e.op, .int .i64 e.n, .string e.s, .slice ae e.l.length ce] 24) = W1 at *
 have b0 := hs 0 (by simp only [List.length_cons, List.length_nil]; omega)
 have b1 := hs 1 (by simp only [List.length_cons, List.length_nil]; omega)
 rw [Nat.add_zero] at b0
 have HST1 := Lib.hid (join_step hH hbW)
 generalize hK1 : joinKn H w.heap.size W1 = K1 at *
 have k00 : K1.cell (w.heap.size) 0 = some (.string a.op) := by rw [← hK1, join_cell (by omega)]; simp [World.cell?, b0]
 have k01 : K1.cell (w.heap.size) 1 = some (.int .i64 a.n) := by rw [← hK1, join_cell (by omega)]; simp [World.cell?, b0]
 have k02 : K1.cell (w.heap.size) 2 = some (.string a.s) := by rw [← hK1, join_cell (by omega)]; simp [World.cell?, b0]
 have k03 : K1.cell (w.heap.size) 3 = some (.slice aa a.l.length ca) := by rw [← hK1, join_cell (by omega)]; simp [World.cell?, b0]
 have k10 : K1.cell (w.heap.size + 1) 0 = some (.string e.op) := by rw [← hK1, join_cell (by omega)]; simp [World.cell?, b1]
 have k11 : K1.cell (w.heap.size + 1) 1 = some (.int .i64 e.n) := by rw [← hK1, join_cell (by omega)]; simp [World.cell?, b1]
 have k12 : K1.cell (w.heap.size + 1) 2 = some (.string e.s) := by rw [← hK1, join_cell (by omega)]; simp [World.cell?, b1]
 have k13 : K1.cell (w.heap.size + 1) 3 = some (.slice ae e.l.length ce) := by rw [← hK1, join_cell (by omega)]; simp [World.cell?, b1]
 clear hs b0 b1 hK1 hbW
 have hbb0 := HST1.out.below
 refine (once_any H T sp W1 (hH.below hbb0) (S.below hbb0)).mono ?_
 rintro r w1 ⟨rfl, hb1⟩
 have HST2 := Lib.hid (HST1.out.trans (Kn.Step.of_below HST1.out.isin hb1))
 clear hb1 hbb0
 go_wp2_with fail
 refine (long_any H ins _ HI.out (by omega) w1 (hH.below HST2.out.below)).mono ?_
 rintro r w2 ⟨rfl, hb2⟩
 have HST3 := Lib.hid (HST2.out.trans (Kn.Step.of_below HST2.out.isin hb2))
 clear hb2
 have m10 := HST3.out.isin.cell k10
 have m11 := HST3.out.isin.cell k11
 have m12 := HST3.out.isin.cell k12
 have m13 := HST3.out.isin.cell k13
 by_cases hl : 0 < longI ins
 ·go_wp2_with fail
  go_ret
  exact ⟨rfl, HST3.out.below⟩
 obtain ⟨q1, _, q3⟩ := long_zero hl
 by_cases hk1 : kind = 1 ∨ kind = 2
 case neg =>
  have hk2 : (kind != 1) = true := by simpa using fun h => hk1 (.inl h)
  have hk3 : (kind != 2) = true := by simpa using fun h => hk1 (.inr h)
  go_wp2_with fail
  go_ret
  exact ⟨rfl, HST3.out.below⟩
 have ZI := Lib.hid (show ins.length ≤ 1000000 ∧ ∀ x ∈ ins, x.length ≤ 1000000 from ⟨by omega, fun x hx => by have := q1 x hx; omega⟩)
 have HK := Lib.hid hk1
 clear q1
 have hl0 : longI ins ≤ 0 := by omega
 rcases hk1 with rfl | rfl
 all_goals
  go_wp2_with fail
  refine (plainly_any e _ K1 (HB.out.le HST3.out.le) HZE.out w2 HST3.out.isin).mono ?_
  rintro r w3 ⟨rfl, hb3⟩
  have HST4 := Lib.hid (HST3.out.trans (Kn.Step.of_below HST3.out.isin hb3))
  clear hb3 m10 m11 m12 m13
  cases hpl : plainlyB e with
  | false =>
   go_wp2_with fail
   go_ret
   exact ⟨rfl, HST4.out.below⟩
  | true =>
  have HPL := Lib.hid hpl
  go_wp2_with fail
  have hS := Kn.Step.of_below HST4.out.isin (Below.refl w3.heap.size w3).drew
  have HST := Lib.hid (HST4.out.trans hS)
  clear hS
  have hS2 : K1.In w3.drew := HST.out.isin
  refine wp_region_2 (fun w' => K1.In w') (fun _ => True) 99 (by kernel_rfl) ?_
  have hS := Kn.Step.refl hS2
  generalize w3.drew = Wd at hS hS2 HST ⊢
  refine tk2 (i := 0) (v := ?_) rfl hS2 (fun _ => trivial) ?hy ?_
  case hy => intro w hSw; obtain ⟨z0, z1, z2, z3, z4, z5, z6, z7⟩ := hSw.c8 k00 k01 k02 k03 k10 k11 k12 k13; go_simp <;> with_reducible rfl
  try simp only [tkS, List.getElem_toArray, List.getElem_cons_zero, List.getElem_cons_succ]
  refine tk2 (i := 1) (v := ?_) rfl hS2 (fun _ => trivial) ?hy ?_
  case hy => intro w hSw; obtain ⟨z0, z1, z2, z3, z4, z5, z6, z7⟩ := hSw.c8 k00 k01 k02 k03 k10 k11 k12 k13; go_simp <;> with_reducible rfl
  try simp only [tkS, List.getElem_toArray, List.getElem_cons_zero, List.getElem_cons_succ]
  refine tk2 (i := 2) (v := ?_) rfl hS2 (fun _ => trivial) ?hy ?_
  case hy => intro w hSw; obtain ⟨z0, z1, z2, z3, z4, z5, z6, z7⟩ := hSw.c8 k00 k01 k02 k03 k10 k11 k12 k13; go_simp <;> with_reducible rfl
  try simp only [tkS, List.getElem_toArray, List.getElem_cons_zero, List.getElem_cons_succ]
  refine tk2 (i := 5) (v := ?_) rfl hS2 (fun _ => trivial) ?hy ?_
  case hy => intro w hSw; obtain ⟨z0, z1, z2, z3, z4, z5, z6, z7⟩ := hSw.c8 k00 k01 k02 k03 k10 k11 k12 k13; go_simp <;> with_reducible rfl
  try simp only [tkS, List.getElem_toArray, List.getElem_cons_zero, List.getElem_cons_succ]
  refine tk2 (i := 6) (v := ?_) rfl hS2 (fun _ => trivial) ?hy ?_
  case hy => intro w hSw; obtain ⟨z0, z1, z2, z3, z4, z5, z6, z7⟩ := hSw.c8 k00 k01 k02 k03 k10 k11 k12 k13; go_simp <;> with_reducible rfl
  try simp only [tkS, List.getElem_toArray, List.getElem_cons_zero, List.getElem_cons_succ]
  refine wpAny2_two (i := 3) (j := 13) (o := _) (o' := _) (by kernel_rfl) rfl rfl (fun K_ hK => ?_) (fun K_ hK => ?_)
  go_simp
  go_at_call 10
  refine (one_any oPre e _ K1 (HB.out.le (Kn.le_trans HST.out.le hS.le)) _ hS.isin).mono ?_
  rintro r wc1 ⟨v1, K2, rfl, hv1, hst⟩
  have hv1 : ExV K2 (preE e) v1 := hv1
  have hS := hS.trans hst
  have hS2 : K1.In wc1 := fun b o e => hS.isin b o (hS.le b o e)
  refine hK.out _ _ hS2 (fun _ => trivial) ?_
  clear hst
  clear hK K_
  try simp only [tkS, List.getElem_toArray, List.getElem_cons_zero, List.getElem_cons_succ]
  rotate_left
  go_simp
  refine hK.out _ _ (hS2.alloc _) (fun _ => trivial) ?_
  have hKB : K1 Wd.heap.size = none := hS.isin.isNone (Nat.le_refl _)
  have hBge : Wd.heap.size ≤ Wd.heap.size := hS.below.size
  have hS := step_alloc hS (.cells #[.slice none 0 0, .slice none 0 0, .slice none 0 0, .slice none 0 0, .slice none 0 0] 33)
  have hS2 := hS2.alloc (.cells #[.slice none 0 0, .slice none 0 0, .slice none 0 0, .slice none 0 0, .slice none 0 0] 33)
  have hbx : (Wd.alloc (.cells #[.slice none 0 0, .slice none 0 0, .slice none 0 0, .slice none 0 0, .slice none 0 0] 33)).heap[Wd.heap.size]? = some (.cells #[.slice none 0 0, .slice none 0 0, .slice none 0 0, .slice none 0 0, .slice none 0 0] 33 (0, 0)) := heap_alloc_new _ _
  have hlt : Wd.heap.size < (Wd.alloc (.cells #[.slice none 0 0, .slice none 0 0, .slice none 0 0, .slice none 0 0, .slice none 0 0] 33)).heap.size := by simp
  generalize World.alloc Wd (.cells #[.slice none 0 0, .slice none 0 0, .slice none 0 0, .slice none 0 0, .slice none 0 0] 33) = WA at hS hS2 hbx hlt ⊢
  generalize hBB : Wd.heap.size = B at hKB hbx hlt ⊢
  have hBge := Nat.le_trans hBge (Nat.le_of_eq hBB)
  clear hK K_
  try simp only [tkS, List.getElem_toArray, List.getElem_cons_zero, List.getElem_cons_succ]
  iterate 1 (
   refine wpAny2_one (i := 3) (o := _) (by kernel_rfl) rfl (fun K_ hK => ?_)
   go_simp
   go_at_call 10
   refine (one_any oPre e _ K1 (HB.out.le (Kn.le_trans HST.out.le hS.le)) _ hS.isin).mono ?_
   rintro r wc1 ⟨v1, K2, rfl, hv1, hst⟩
   have hv1 : ExV K2 (preE e) v1 := hv1
   have hKB : K2 B = none := (hst.fresh B hlt).trans hKB
   have hbx := (hst.below.block B hlt).trans hbx
   have hlt : B < wc1.heap.size := Nat.lt_of_lt_of_le hlt hst.below.size
   have hS := hS.trans hst
   have hS2 : K1.In wc1 := fun b o e => hS.isin b o (hS.le b o e)
   refine hK.out _ _ hS2 (fun _ => trivial) ?_
   clear hst
   clear hK K_
   try simp only [tkS, List.getElem_toArray, List.getElem_cons_zero, List.getElem_cons_succ]
   rotate_left)
  refine wpAny2_two (i := 4) (j := 13) (o := _) (o' := _) (by kernel_rfl) rfl rfl (fun K_ hK => ?_) (fun K_ hK => ?_)
  go_simp
  go_at_call 9
  refine (two_any oArrow a (preE e) _ _ K2 (HA.out.le (Kn.le_trans HST.out.le hS.le)) hv1 _ hS.isin).mono ?_
  rintro r wc2 ⟨v2, K3, rfl, hv2, hst⟩
  have hv2 : ExV K3 (arrE a (preE e)) v2 := hv2
  have hv1 := hv1.le hst.le
  have hS := hS.trans hst
  have hS2 : K1.In wc2 := fun b o e => hS.isin b o (hS.le b o e)
  refine hK.out _ _ hS2 (fun _ => trivial) ?_
  clear hst
  clear hK K_
  try simp only [tkS, List.getElem_toArray, List.getElem_cons_zero, List.getElem_cons_succ]
  rotate_left
  go_simp
  refine hK.out _ _ (hS2.alloc _) (fun _ => trivial) ?_
  have hKB : K2 wc1.heap.size = none := hS.isin.isNone (Nat.le_refl _)
  have hBge : Wd.heap.size ≤ wc1.heap.size := hS.below.size
  have hS := step_alloc hS (.cells #[.slice none 0 0, .slice none 0 0, .slice none 0 0, .slice none 0 0, .slice none 0 0] 33)
  have hS2 := hS2.alloc (.cells #[.slice none 0 0, .slice none 0 0, .slice none 0 0, .slice none 0 0, .slice none 0 0] 33)
  have hbx : (wc1.alloc (.cells #[.slice none 0 0, .slice none 0 0, .slice none 0 0, .slice none 0 0, .slice none 0 0] 33)).heap[wc1.heap.size]? = some (.cells #[.slice none 0 0, .slice none 0 0, .slice none 0 0, .slice none 0 0, .slice none 0 0] 33 (0, 0)) := heap_alloc_new _ _
  have hlt : wc1.heap.size < (wc1.alloc (.cells #[.slice none 0 0, .slice none 0 0, .slice none 0 0, .slice none 0 0, .slice none 0 0] 33)).heap.size := by simp
  generalize World.alloc wc1 (.cells #[.slice none 0 0, .slice none 0 0, .slice none 0 0, .slice none 0 0, .slice none 0 0] 33) = WA at hS hS2 hbx hlt ⊢
  generalize hBB : wc1.heap.size = B at hKB hbx hlt ⊢
  have hBge := Nat.le_trans hBge (Nat.le_of_eq hBB)
  clear hK K_
  try simp only [tkS, List.getElem_toArray, List.getElem_cons_zero, List.getElem_cons_succ]
  iterate 2 (
   refine wpAny2_one (i := 4) (o := _) (by kernel_rfl) rfl (fun K_ hK => ?_)
   go_simp
   go_at_call 9
   refine (two_any oArrow a (preE e) _ _ K2 (HA.out.le (Kn.le_trans HST.out.le hS.le)) hv1 _ hS.isin).mono ?_
   rintro r wc2 ⟨v2, K3, rfl, hv2, hst⟩
   have hv2 : ExV K3 (arrE a (preE e)) v2 := hv2
   have hKB : K3 B = none := (hst.fresh B hlt).trans hKB
   have hbx := (hst.below.block B hlt).trans hbx
   have hlt : B < wc2.heap.size := Nat.lt_of_lt_of_le hlt hst.below.size
   have hv1 := hv1.le hst.le
   have hS := hS.trans hst
   have hS2 : K1.In wc2 := fun b o e => hS.isin b o (hS.le b o e)
   refine hK.out _ _ hS2 (fun _ => trivial) ?_
   clear hst
   clear hK K_
   try simp only [tkS, List.getElem_toArray, List.getElem_cons_zero, List.getElem_cons_succ]
   rotate_left)
  refine wpAny2_two (i := 7) (j := 13) (o := _) (o' := _) (by kernel_rfl) rfl rfl (fun K_ hK => ?_) (fun K_ hK => ?_)
  go_simp
  go_at_call 13
  refine (lateX_any e _ K3 (HB.out.le (Kn.le_trans HST.out.le hS.le)) HZP.out _ hS.isin).mono ?_
  rintro r wc3 ⟨v3, K4, rfl, hv3, hst⟩
  have hv3 : ExV K4 (lateE e) v3 := hv3
  have hv1 := hv1.le hst.le
  have hv2 := hv2.le hst.le
  have hS := hS.trans hst
  have hS2 : K1.In wc3 := fun b o e => hS.isin b o (hS.le b o e)
  refine hK.out _ _ hS2 (fun _ => trivial) ?_
  clear hst
  clear hK K_
  try simp only [tkS, List.getElem_toArray, List.getElem_cons_zero, List.getElem_cons_succ]
  rotate_left
  go_simp
  refine hK.out _ _ (hS2.alloc _) (fun _ => trivial) ?_
  have hKB : K3 wc2.heap.size = none := hS.isin.isNone (Nat.le_refl _)
  have hBge : Wd.heap.size ≤ wc2.heap.size := hS.below.size
  have hS := step_alloc hS (.cells #[.slice none 0 0, .slice none 0 0, .slice none 0 0, .slice none 0 0, .slice none 0 0] 33)
  have hS2 := hS2.alloc (.cells #[.slice none 0 0, .slice none 0 0, .slice none 0 0, .slice none 0 0, .slice none 0 0] 33)
  have hbx : (wc2.alloc (.cells #[.slice none 0 0, .slice none 0 0, .slice none 0 0, .slice none 0 0, .slice none 0 0] 33)).heap[wc2.heap.size]? = some (.cells #[.slice none 0 0, .slice none 0 0, .slice none 0 0, .slice none 0 0, .slice none 0 0] 33 (0, 0)) := heap_alloc_new _ _
  have hlt : wc2.heap.size < (wc2.alloc (.cells #[.slice none 0 0, .slice none 0 0, .slice none 0 0, .slice none 0 0, .slice none 0 0] 33)).heap.size := by simp
  generalize World.alloc wc2 (.cells #[.slice none 0 0, .slice none 0 0, .slice none 0 0, .slice none 0 0, .slice none 0 0] 33) = WA at hS hS2 hbx hlt ⊢
  generalize hBB : wc2.heap.size = B at hKB hbx hlt ⊢
  have hBge := Nat.le_trans hBge (Nat.le_of_eq hBB)
  clear hK K_
  try simp only [tkS, List.getElem_toArray, List.getElem_cons_zero, List.getElem_cons_succ]
  iterate 3 (
   refine wpAny2_one (i := 7) (o := _) (by kernel_rfl) rfl (fun K_ hK => ?_)
   go_simp
   go_at_call 13
   refine (lateX_any e _ K3 (HB.out.le (Kn.le_trans HST.out.le hS.le)) HZP.out _ hS.isin).mono ?_
   rintro r wc3 ⟨v3, K4, rfl, hv3, hst⟩
   have hv3 : ExV K4 (lateE e) v3 := hv3
   have hKB : K4 B = none := (hst.fresh B hlt).trans hKB
   have hbx := (hst.below.block B hlt).trans hbx
   have hlt : B < wc3.heap.size := Nat.lt_of_lt_of_le hlt hst.below.size
   have hv1 := hv1.le hst.le
   have hv2 := hv2.le hst.le
   have hS := hS.trans hst
   have hS2 : K1.In wc3 := fun b o e => hS.isin b o (hS.le b o e)
   refine hK.out _ _ hS2 (fun _ => trivial) ?_
   clear hst
   clear hK K_
   try simp only [tkS, List.getElem_toArray, List.getElem_cons_zero, List.getElem_cons_succ]
   rotate_left)
  refine wpAny2_two (i := 8) (j := 13) (o := _) (o' := _) (by kernel_rfl) rfl rfl (fun K_ hK => ?_) (fun K_ hK => ?_)
  go_simp
  go_at_call 9
  refine (two_any oArrow a (lateE e) _ _ K4 (HA.out.le (Kn.le_trans HST.out.le hS.le)) hv3 _ hS.isin).mono ?_
  rintro r wc4 ⟨v4, K5, rfl, hv4, hst⟩
  have hv4 : ExV K5 (arrE a (lateE e)) v4 := hv4
  have hv1 := hv1.le hst.le
  have hv2 := hv2.le hst.le
  have hv3 := hv3.le hst.le
  have hS := hS.trans hst
  have hS2 : K1.In wc4 := fun b o e => hS.isin b o (hS.le b o e)
  refine hK.out _ _ hS2 (fun _ => trivial) ?_
  clear hst
  clear hK K_
  try simp only [tkS, List.getElem_toArray, List.getElem_cons_zero, List.getElem_cons_succ]
  rotate_left
  go_simp
  refine hK.out _ _ (hS2.alloc _) (fun _ => trivial) ?_
  have hKB : K4 wc3.heap.size = none := hS.isin.isNone (Nat.le_refl _)
  have hBge : Wd.heap.size ≤ wc3.heap.size := hS.below.size
  have hS := step_alloc hS (.cells #[.slice none 0 0, .slice none 0 0, .slice none 0 0, .slice none 0 0, .slice none 0 0] 33)
  have hS2 := hS2.alloc (.cells #[.slice none 0 0, .slice none 0 0, .slice none 0 0, .slice none 0 0, .slice none 0 0] 33)
  have hbx : (wc3.alloc (.cells #[.slice none 0 0, .slice none 0 0, .slice none 0 0, .slice none 0 0, .slice none 0 0] 33)).heap[wc3.heap.size]? = some (.cells #[.slice none 0 0, .slice none 0 0, .slice none 0 0, .slice none 0 0, .slice none 0 0] 33 (0, 0)) := heap_alloc_new _ _
  have hlt : wc3.heap.size < (wc3.alloc (.cells #[.slice none 0 0, .slice none 0 0, .slice none 0 0, .slice none 0 0, .slice none 0 0] 33)).heap.size := by simp
  generalize World.alloc wc3 (.cells #[.slice none 0 0, .slice none 0 0, .slice none 0 0, .slice none 0 0, .slice none 0 0] 33) = WA at hS hS2 hbx hlt ⊢
  generalize hBB : wc3.heap.size = B at hKB hbx hlt ⊢
  have hBge := Nat.le_trans hBge (Nat.le_of_eq hBB)
  clear hK K_
  try simp only [tkS, List.getElem_toArray, List.getElem_cons_zero, List.getElem_cons_succ]
  iterate 4 (
   refine wpAny2_one (i := 8) (o := _) (by kernel_rfl) rfl (fun K_ hK => ?_)
   go_simp
   go_at_call 9
   refine (two_any oArrow a (lateE e) _ _ K4 (HA.out.le (Kn.le_trans HST.out.le hS.le)) hv3 _ hS.isin).mono ?_
   rintro r wc4 ⟨v4, K5, rfl, hv4, hst⟩
   have hv4 : ExV K5 (arrE a (lateE e)) v4 := hv4
   have hKB : K5 B = none := (hst.fresh B hlt).trans hKB
   have hbx := (hst.below.block B hlt).trans hbx
   have hlt : B < wc4.heap.size := Nat.lt_of_lt_of_le hlt hst.below.size
   have hv1 := hv1.le hst.le
   have hv2 := hv2.le hst.le
   have hv3 := hv3.le hst.le
   have hS := hS.trans hst
   have hS2 : K1.In wc4 := fun b o e => hS.isin b o (hS.le b o e)
   refine hK.out _ _ hS2 (fun _ => trivial) ?_
   clear hst
   clear hK K_
   try simp only [tkS, List.getElem_toArray, List.getElem_cons_zero, List.getElem_cons_succ]
   rotate_left)
  refine wpAny2_two (i := 9) (j := 13) (o := _) (o' := _) (by kernel_rfl) rfl rfl (fun K_ hK => ?_) (fun K_ hK => ?_)
  go_simp
  go_at_call 8
  refine (pair_any _ (arrE a (preE e)) (arrE a (lateE e)) _ _ K5 hv2 hv4 (by have := HZW.out; omega) _ hS.isin).mono ?_
  rintro r wc5 ⟨vi, vo, vl, va, vc, right, K6, rfl, hp, hright, hst⟩
  obtain ⟨p1, p2, p3, p4, p5⟩ := hp
  obtain ⟨x1, y1, e1⟩ : ∃ x y, vi = .slice x 2 y := p1.len
  subst e1
  obtain ⟨x2, y2, e2⟩ : ∃ x y, vo = .slice x 2 y := p2.len
  subst e2
  obtain ⟨x3, y3, e3⟩ : ∃ x y, vl = .slice x 2 y := p3.len
  subst e3
  obtain ⟨x4, y4, e4⟩ : ∃ x y, va = .slice x 0 y := p4.len
  subst e4
  obtain ⟨x5, y5, e5⟩ : ∃ x y, vc = .slice x 0 y := p5.len
  subst e5
  have HP := Lib.hid (show PrP K6 (pairP _ (arrE a (preE e)) (arrE a (lateE e))) _ _ _ _ _ from ⟨p1, p2, p3, p4, p5⟩)
  have HR := Lib.hid hright
  clear p1 p2 p3 p4 p5 hright
  have hv1 := hv1.le hst.le
  have hv2 := hv2.le hst.le
  have hv3 := hv3.le hst.le
  have hv4 := hv4.le hst.le
  have hS := hS.trans hst
  have hS2 : K1.In wc5 := fun b o e => hS.isin b o (hS.le b o e)
  refine hK.out _ _ hS2 (fun _ => trivial) ?_
  clear hst
  clear hK K_
  try simp only [tkS, List.getElem_toArray, List.getElem_cons_zero, List.getElem_cons_succ]
  refine tk2 (i := 10) (v := ?_) rfl hS2 (fun _ => trivial) ?hy ?_
  case hy => intro w hSw; obtain ⟨z0, z1, z2, z3, z4, z5, z6, z7⟩ := hSw.c8 k00 k01 k02 k03 k10 k11 k12 k13; go_simp <;> with_reducible rfl
  try simp only [tkS, List.getElem_toArray, List.getElem_cons_zero, List.getElem_cons_succ]
  refine tk2 (i := 11) (v := ?_) rfl hS2 (fun _ => trivial) ?hy ?_
  case hy => intro w hSw; obtain ⟨z0, z1, z2, z3, z4, z5, z6, z7⟩ := hSw.c8 k00 k01 k02 k03 k10 k11 k12 k13; go_simp <;> with_reducible rfl
  try simp only [tkS, List.getElem_toArray, List.getElem_cons_zero, List.getElem_cons_succ]
  refine tk2 (i := 12) (v := ?_) rfl hS2 (fun _ => trivial) ?hy ?_
  case hy => intro w hSw; obtain ⟨z0, z1, z2, z3, z4, z5, z6, z7⟩ := hSw.c8 k00 k01 k02 k03 k10 k11 k12 k13; go_simp <;> with_reducible rfl
  try simp only [tkS, List.getElem_toArray, List.getElem_cons_zero, List.getElem_cons_succ]
  rotate_left
  go_simp
  refine hK.out _ _ (hS2.alloc _) (fun _ => trivial) ?_
  have hKB : K5 wc4.heap.size = none := hS.isin.isNone (Nat.le_refl _)
  have hBge : Wd.heap.size ≤ wc4.heap.size := hS.below.size
  have hS := step_alloc hS (.cells #[.slice none 0 0, .slice none 0 0, .slice none 0 0, .slice none 0 0, .slice none 0 0] 33)
  have hS2 := hS2.alloc (.cells #[.slice none 0 0, .slice none 0 0, .slice none 0 0, .slice none 0 0, .slice none 0 0] 33)
  have hbx : (wc4.alloc (.cells #[.slice none 0 0, .slice none 0 0, .slice none 0 0, .slice none 0 0, .slice none 0 0] 33)).heap[wc4.heap.size]? = some (.cells #[.slice none 0 0, .slice none 0 0, .slice none 0 0, .slice none 0 0, .slice none 0 0] 33 (0, 0)) := heap_alloc_new _ _
  have hlt : wc4.heap.size < (wc4.alloc (.cells #[.slice none 0 0, .slice none 0 0, .slice none 0 0, .slice none 0 0, .slice none 0 0] 33)).heap.size := by simp
  generalize World.alloc wc4 (.cells #[.slice none 0 0, .slice none 0 0, .slice none 0 0, .slice none 0 0, .slice none 0 0] 33) = WA at hS hS2 hbx hlt ⊢
  generalize hBB : wc4.heap.size = B at hKB hbx hlt ⊢
  have hBge := Nat.le_trans hBge (Nat.le_of_eq hBB)
  clear hK K_
  try simp only [tkS, List.getElem_toArray, List.getElem_cons_zero, List.getElem_cons_succ]
  iterate 5 (
   refine wpAny2_one (i := 9) (o := _) (by kernel_rfl) rfl (fun K_ hK => ?_)
   go_simp
   go_at_call 8
   refine (pair_any _ (arrE a (preE e)) (arrE a (lateE e)) _ _ K5 hv2 hv4 (by have := HZW.out; omega) _ hS.isin).mono ?_
   rintro r wc5 ⟨vi, vo, vl, va, vc, right, K6, rfl, hp, hright, hst⟩
   obtain ⟨p1, p2, p3, p4, p5⟩ := hp
   obtain ⟨x1, y1, e1⟩ : ∃ x y, vi = .slice x 2 y := p1.len
   subst e1
   obtain ⟨x2, y2, e2⟩ : ∃ x y, vo = .slice x 2 y := p2.len
   subst e2
   obtain ⟨x3, y3, e3⟩ : ∃ x y, vl = .slice x 2 y := p3.len
   subst e3
   obtain ⟨x4, y4, e4⟩ : ∃ x y, va = .slice x 0 y := p4.len
   subst e4
   obtain ⟨x5, y5, e5⟩ : ∃ x y, vc = .slice x 0 y := p5.len
   subst e5
   have HP := Lib.hid (show PrP K6 (pairP _ (arrE a (preE e)) (arrE a (lateE e))) _ _ _ _ _ from ⟨p1, p2, p3, p4, p5⟩)
   have HR := Lib.hid hright
   clear p1 p2 p3 p4 p5 hright
   have hKB : K6 B = none := (hst.fresh B hlt).trans hKB
   have hbx := (hst.below.block B hlt).trans hbx
   have hlt : B < wc5.heap.size := Nat.lt_of_lt_of_le hlt hst.below.size
   have hv1 := hv1.le hst.le
   have hv2 := hv2.le hst.le
   have hv3 := hv3.le hst.le
   have hv4 := hv4.le hst.le
   have hS := hS.trans hst
   have hS2 : K1.In wc5 := fun b o e => hS.isin b o (hS.le b o e)
   refine hK.out _ _ hS2 (fun _ => trivial) ?_
   clear hst
   clear hK K_
   try simp only [tkS, List.getElem_toArray, List.getElem_cons_zero, List.getElem_cons_succ]
   refine tk2 (i := 10) (v := ?_) rfl hS2 (fun _ => trivial) ?hy ?_
   case hy => intro w hSw; obtain ⟨z0, z1, z2, z3, z4, z5, z6, z7⟩ := hSw.c8 k00 k01 k02 k03 k10 k11 k12 k13; go_simp <;> with_reducible rfl
   try simp only [tkS, List.getElem_toArray, List.getElem_cons_zero, List.getElem_cons_succ]
   refine tk2 (i := 11) (v := ?_) rfl hS2 (fun _ => trivial) ?hy ?_
   case hy => intro w hSw; obtain ⟨z0, z1, z2, z3, z4, z5, z6, z7⟩ := hSw.c8 k00 k01 k02 k03 k10 k11 k12 k13; go_simp <;> with_reducible rfl
   try simp only [tkS, List.getElem_toArray, List.getElem_cons_zero, List.getElem_cons_succ]
   refine tk2 (i := 12) (v := ?_) rfl hS2 (fun _ => trivial) ?hy ?_
   case hy => intro w hSw; obtain ⟨z0, z1, z2, z3, z4, z5, z6, z7⟩ := hSw.c8 k00 k01 k02 k03 k10 k11 k12 k13; go_simp <;> with_reducible rfl
   try simp only [tkS, List.getElem_toArray, List.getElem_cons_zero, List.getElem_cons_succ]
   rotate_left)
  refine wpAny2_one (i := 13) (o := _) (by kernel_rfl) rfl (fun K_ hK => ?_)
  go_simp
  refine hK.out _ _ (hS2.alloc _) (fun _ => trivial) ?_
  have hKB : K6 wc5.heap.size = none := hS.isin.isNone (Nat.le_refl _)
  have hBge : Wd.heap.size ≤ wc5.heap.size := hS.below.size
  have hS := step_alloc hS (.cells #[.slice none 0 0, .slice none 0 0, .slice none 0 0, .slice none 0 0, .slice none 0 0] 33)
  have hS2 := hS2.alloc (.cells #[.slice none 0 0, .slice none 0 0, .slice none 0 0, .slice none 0 0, .slice none 0 0] 33)
  have hbx : (wc5.alloc (.cells #[.slice none 0 0, .slice none 0 0, .slice none 0 0, .slice none 0 0, .slice none 0 0] 33)).heap[wc5.heap.size]? = some (.cells #[.slice none 0 0, .slice none 0 0, .slice none 0 0, .slice none 0 0, .slice none 0 0] 33 (0, 0)) := heap_alloc_new _ _
  have hlt : wc5.heap.size < (wc5.alloc (.cells #[.slice none 0 0, .slice none 0 0, .slice none 0 0, .slice none 0 0, .slice none 0 0] 33)).heap.size := by simp
  generalize World.alloc wc5 (.cells #[.slice none 0 0, .slice none 0 0, .slice none 0 0, .slice none 0 0, .slice none 0 0] 33) = WA at hS hS2 hbx hlt ⊢
  generalize hBB : wc5.heap.size = B at hKB hbx hlt ⊢
  have hBge := Nat.le_trans hBge (Nat.le_of_eq hBB)
  clear hK K_
  try simp only [tkS, List.getElem_toArray, List.getElem_cons_zero, List.getElem_cons_succ]
  iterate 6 (
   obtain ⟨⟨z0, z1, z2, z3, z4⟩, f0, f1, f2, f3, f4⟩ := cells5_of hbx
   refine wpAny2_one (i := 14) (o := _) (by kernel_rfl) rfl (fun K_ hK => ?_)
   go_simp
   refine hK.out _ _ (fun b o e => in5 hS.isin hKB _ _ _ _ _ b o (hS.le b o e)) (fun _ => trivial) ?_
   clear hK K_
   try simp only [tkS, List.getElem_toArray, List.getElem_cons_zero, List.getElem_cons_succ]
   refine tk2 (i := 15) (v := ?_) rfl (fun b o e => in5 hS.isin hKB _ _ _ _ _ b o (hS.le b o e)) (fun _ => trivial) ?hy ?_
   case hy => intro w hSw; obtain ⟨z0, z1, z2, z3, z4, z5, z6, z7⟩ := hSw.c8 k00 k01 k02 k03 k10 k11 k12 k13; go_simp <;> with_reducible rfl
   try simp only [tkS, List.getElem_toArray, List.getElem_cons_zero, List.getElem_cons_succ]
   refine wpAny2_done (by kernel_rfl) ?_ _
   have HIN := Lib.hid (fun b o e => in5 hS.isin hKB (.slice x1 2 y1) (.slice x2 2 y2) (.slice x3 2 y3) (.slice x4 0 y4) (.slice x5 0 y5) b o e : K6.In _)
   have HBB := Lib.hid (HST.out.below.trans ((below5 hS.below hBge (.slice x1 2 y1) (.slice x2 2 y2) (.slice x3 2 y3) (.slice x4 0 y4) (.slice x5 0 y5)).mono HST.out.below.size))
   obtain ⟨⟨m0, m1, m2, m3, m4⟩, _⟩ := cells5_of (set5_of hbx (.slice x1 2 y1) (.slice x2 2 y2) (.slice x3 2 y3) (.slice x4 0 y4) (.slice x5 0 y5))
   have hle := Kn.le_trans HST.out.le hS.le
   clear z0 z1 z2 z3 z4 f0 f1 f2 f3 f4 hbx hlt hKB hS hS2
   generalize World.setCell _ ⟨B, 4, none⟩ _ = WE at *
   cases right with
   | false =>
    go_wp2_with fail
    go_ret
    exact ⟨rfl, HBB.out⟩
   | true =>
    obtain ⟨hhv, hck⟩ := HR.out rfl
    go_wp2_with fail
    refine (alike_any K6 (HLV.out _ hle) sp _ _ _ _ _ _ HP.out ins _ (InsV.le hle HI.out) ZI.out (pair_sizes hhv ZI.out.2) (pair_parts hhv) (retimes_same (by first | exact .inl rfl | exact .inr rfl) HPL.out hck false 0 ins) WE HIN.out (S.below HBB.out)).mono ?_
    rintro r w9 ⟨rfl, hb9⟩
    go_wp2_with fail
    go_ret
    exact ⟨rfl, HBB.out.trans (hb9.mono HBB.out.size)⟩
   skip)
end Go.Proofs.YthejomlhmdeimaaDoor
