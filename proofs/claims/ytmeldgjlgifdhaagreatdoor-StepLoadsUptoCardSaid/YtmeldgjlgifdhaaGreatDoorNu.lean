/- Walks: lustrumlaw2.Long. -/
import Derived.Test.YtmeldgjlgifdhaaGreatDoorNuR
namespace Go.Proofs.YtmeldgjlgifdhaaGreatDoor
set_option maxRecDepth 100000
set_option maxHeartbeats 16000000
open Go.RowKit Mx
def longs (ins : List (List Vl)) : Bool := ins.any (fun l => decide (50 < l.length)) || decide (14 < ins.length ∧ ins.length ≤ 300) || decide (305 < ins.length)
def longI (ins : List (List Vl)) : Int := if longs ins then 1 else 0
theorem long_zero {ins : List (List Vl)} (h : ¬ 0 < longI ins) : (∀ l ∈ ins, l.length ≤ 50) ∧ (ins.length ≤ 14 ∨ 300 < ins.length) ∧ ins.length ≤ 305 := by
 unfold longI at h
 split at h
 ·exact absurd (by decide) h
 ·rename_i hl
  unfold longs at hl
  simp only [Bool.or_eq_true, decide_eq_true_eq, List.any_eq_true, not_or, not_exists, not_and] at hl
  obtain ⟨⟨h1, h2⟩, h3⟩ := hl
  refine ⟨fun l hl => by have := h1 l hl; omega, ?_, by omega⟩
  by_cases h4 : 14 < ins.length
  ·have := h2 h4; omega
  ·omega
theorem long_any (H : Kn) (ins : List (List Vl)) (v : Value) (h : InsV H ins v) (hz : ins.length ≤ 1000000000) (w : World) (hH : H.In w) :
  Calls Tryz.prog 13 #[v] w fun r w' => r = .returned (.int .i64 (longI ins)) ∧ Below w.heap.size w w' := by
 obtain ⟨a, c, rfl⟩ := h.len
 have HV := Lib.hid h
 clear h
 go_enter Tryz.func13, Tryz.ntmps13
 go_wp2_with fail
 go_loopw [3] (fun i wr => ∃ k : Nat, i = .int .i64 k ∧ k ≤ ins.length ∧ Below w.heap.size w wr ∧ ∀ j (hj : j < ins.length), j < k → ins[j].length ≤ 50) (fun i _ => ins.length - (intOf i).toNat)
 case atStart => exact ⟨0, rfl, Nat.zero_le _, Below.refl _ _, fun j _ h => by omega⟩
 case round =>
  obtain ⟨k, rfl, hk, hb, hno⟩ := hrel
  have HB := Lib.hid hb
  have HNO := Lib.hid hno
  clear hb hno
  by_cases hkl : k < ins.length
  ·obtain ⟨b, off, a2, c2, haf, c0, hv⟩ := HV.out.at hkl
   have c0 := (hH.below HB.out).cell c0
   have HYES := Lib.hid (show 50 < ins[k].length → longI ins = 1 from fun h => by
    unfold longI longs
    rw [List.any_eq_true.2 ⟨ins[k], List.getElem_mem hkl, by simpa using h⟩]
    rfl)
   have HNOT := Lib.hid (show ¬ 50 < ins[k].length → ∀ j (hj : j < ins.length), j < k + 1 → ins[j].length ≤ 50 from fun h j hj hjk => by
    by_cases hjk' : j < k
    ·exact HNO.out j hj hjk'
    ·obtain rfl : j = k := by omega
     omega)
   clear hv
   generalize ins[k].length = n at *
   subst haf
   by_cases h50 : 50 < n
   ·have q : (50 : Int) < n := by omega
    go_wp2_with fail
    go_ret
    exact ⟨ret_int (HYES.out h50).symm, HB.out⟩
   ·have q : ¬ (50 : Int) < n := by omega
    go_wp2_with fail
    go_roundw
    case rel => exact ⟨k + 1, by go_num, by omega, HB.out, HNOT.out h50⟩
    case measure => simp [intOf]; omega
  ·obtain rfl : k = ins.length := by omega
   have HF := Lib.hid (show longI ins = if 14 < ins.length ∧ ins.length ≤ 300 ∨ 305 < ins.length then 1 else 0 from by
    unfold longI longs
    rw [List.any_eq_false.2 fun l hl => by
     obtain ⟨j, hj, rfl⟩ := List.mem_iff_getElem.1 hl
     have := HNO.out j hj hj
     simp; omega]
    simp only [Bool.false_or, Bool.or_eq_true, decide_eq_true_eq])
   clear HNO HV
   by_cases h1 : 14 < ins.length
   ·by_cases h2 : ins.length ≤ 300
    ·have q1 : (14 : Int) < ins.length := by omega
     have q2 : (ins.length : Int) ≤ 300 := by omega
     go_wp2_with fail
     go_ret
     exact ⟨ret_int (by rw [HF.out, if_pos (.inl ⟨h1, h2⟩)]), HB.out⟩
    ·by_cases h3 : 305 < ins.length
     ·have q1 : (14 : Int) < ins.length := by omega
      have q2 : ¬ (ins.length : Int) ≤ 300 := by omega
      have q3 : (305 : Int) < ins.length := by omega
      go_wp2_with fail
      go_ret
      exact ⟨ret_int (by rw [HF.out, if_pos (.inr h3)]), HB.out⟩
     ·have q1 : (14 : Int) < ins.length := by omega
      have q2 : ¬ (ins.length : Int) ≤ 300 := by omega
      have q3 : ¬ (305 : Int) < ins.length := by omega
      go_wp2_with fail
      go_ret
      exact ⟨ret_int (by rw [HF.out, if_neg (by omega)]), HB.out⟩
   ·have q1 : ¬ (14 : Int) < ins.length := by omega
    have q3 : ¬ (305 : Int) < ins.length := by omega
    go_wp2_with fail
    go_ret
    exact ⟨ret_int (by rw [HF.out, if_neg (by omega)]), HB.out⟩
end Go.Proofs.YtmeldgjlgifdhaaGreatDoor
namespace Go.Proofs.YtmeldgjlgifdhaaGreatDoor
set_option maxRecDepth 100000
set_option maxHeartbeats 16000000
open Go.RowKit Mx
theorem Tryz.infoTkF : (Tryz.prog.info? 108).map (fun i => (i.zero, i.size, i.bytes)) = some (some (.agg #[.slice none 0 0, .bool false, .bool false, .slice none 0 0]), 4, 56) := by kernel_rfl
theorem TksV.at {H : Kn} {l : List Tk} {a : Option Addr} {n c : Nat} (h : TksV H l (.slice a n c)) {k : Nat} (hk : k < l.length) : ∃ b off a1 c1 a2 c2, a = some ⟨b, off, none⟩ ∧ H.cell b (off + k * 4) = some (.slice a1 l[k].out.length c1) ∧ H.cell b (off + k * 4 + 1) = some (.bool l[k].asrt) ∧ H.cell b (off + k * 4 + 2) = some (.bool l[k].trap) ∧ H.cell b (off + k * 4 + 3) = some (.slice a2 l[k].checks.length c2) ∧ TkV H l[k] (.slice a1 l[k].out.length c1) (.slice a2 l[k].checks.length c2) := by
 obtain ⟨b, off, haf, _, ov, cv, c0, c1, c2, c3, hv⟩ := SlV.at h hk
 obtain ⟨a1, k1, rfl⟩ := hv.outs.len
 obtain ⟨a2, k2, rfl⟩ := hv.checks.len
 exact ⟨b, off, a1, k1, a2, k2, haf, c0, c1, c2, c3, hv⟩
theorem ticksOf_any (H : Kn) (l : List Tk) (v : Value) (hv : TksV H l v) (hz : l.length ≤ 1000000) (w : World) (hH : H.In w) :
  Calls Tryz.prog 21 #[v] w fun r w' => ∃ v' K, r = .returned v' ∧ TksV K l v' ∧ Kn.Step H w K w' := by
 obtain ⟨a, cap, rfl⟩ := hv.len
 have HU := Lib.hid hv
 clear hv
 obtain ⟨i0, hi0, hz0, hz1, hz2⟩ := info_parts Tryz.infoTkF
 go_enter Tryz.func21, Tryz.ntmps21
 go_wp2_with fail
 have HS0 := Lib.hid (show RwO 108 4 TkX H w w w.heap.size l 0 (.slice none 0 0) [] H from
  ⟨Kn.le_refl H, fun _ _ => rfl, hH, Below.refl _ _, Nat.le_refl _, World.ownsRow_nil _ _ _ _, RowX.nil, fun g hg => by simp [Value.ownBlock] at hg⟩)
 go_loopw [3, 4] (fun u i wr => ∃ (k : Nat) (xs : List Value), i = .int .i64 k ∧ k ≤ l.length ∧ RwO 108 4 TkX H w wr w.heap.size l k u xs H) (fun _ i _ => l.length - (intOf i).toNat)
 case atStart => exact ⟨0, _, rfl, Nat.zero_le _, HS0.out⟩
 case round =>
  obtain ⟨k, xs, rfl, hk, hS⟩ := hrel
  have HS := Lib.hid hS
  obtain ⟨au, cu, rfl, _⟩ := own_len hS.row
  clear hS
  by_cases hkl : k < l.length
  ·obtain ⟨b, off, a1, c1, a2, c2, rfl, d0, d1, d2, d3, hx⟩ := HU.out.at hkl
   have d0 := HS.out.drew.isin.cell d0
   have d1 := HS.out.drew.isin.cell d1
   have d2 := HS.out.drew.isin.cell d2
   have d3 := HS.out.drew.isin.cell d3
   have HT := Lib.hid (take_snoc l k hkl)
   have HX := Lib.hid hx
   clear hx
   generalize l[k] = x at *
   obtain ⟨xo, xa, xt, xc⟩ := x
   dsimp only at d0 d1 d2 d3
   have HSD := HS.out.drew
   go_wp2_with fail
   go_region_law (refine step_append_lies _ (by rfl) _ _ _ (by rfl) w.heap.size 108 i0 _ 4 56 Tryz.underlying63 hi0 hz0 hz1 hz2 rfl (by omega) _ k xs (by rfl) (RwO.row (RwO.alloc HSD _)) ⟨_, 0, none⟩ 1 1 [.slice a1 xo.length c1, .bool xa, .bool xt, .slice a2 xc.length c2] (by rfl) (by rfl) (by exact World.news_of_block (heap_alloc_new _ _)) (by simp [Value.oneCell']) (by omega) (by unfold maxLen; omega) (by omega) (RwO.size (RwO.alloc HSD _)) _ rfl ?_; intro gg cap' w3 hown hgrow hat hltg; have hf3 := RwO.step (n' := 1) (RwO.alloc HSD _) (by rw [HT.out]; exact RowX.snoc TkC.pm HS.out.xs rfl ⟨_, _, rfl, rfl, rfl, rfl, HX.out⟩) hown hgrow hat)
   all_goals go_wp2_with fail
   all_goals go_roundw
   all_goals first | exact ⟨k + 1, _, by go_num, by omega, hf3⟩ | (simp [intOf]; omega)
  ·obtain rfl : k = l.length := by omega
   have hxs : TkX H (List.take l.length l) xs := HS.out.xs
   rw [List.take_of_length_le (Nat.le_refl _)] at hxs
   obtain ⟨K', hle, hin, hv, hfr⟩ := slv_of_own (R := TkC) HS.out.isin HS.out.row HS.out.noR (RowX.at TkC.pm hxs)
   have HST := Lib.hid (show Kn.Step H w K' wr from ⟨Kn.le_trans HS.out.le hle, fun b hb => (hfr b hb).trans (HS.out.fresh b hb), hin, HS.out.below⟩)
   have HV := Lib.hid hv
   clear hv hin hfr hle
   go_wp2_with fail
   go_ret
   exact ⟨_, K', rfl, HV.out, HST.out⟩
theorem vls_pair {H : Kn} {l : List Vl} {a1 a2 : Option Addr} {n1 n2 c1 c2 : Nat} (h1 : VlsV H l (.slice a1 n1 c1)) (h2 : VlsV H l (.slice a2 n2 c2)) {k : Nat} (hk : k < l.length) :
  ∃ b1 f1 b2 f2, a1 = some ⟨b1, f1, none⟩ ∧ a2 = some ⟨b2, f2, none⟩ ∧ H.cell b1 (f1 + k * 2) = some (.int .i64 l[k].kind) ∧ H.cell b1 (f1 + k * 2 + 1) = some (.int .i64 l[k].n) ∧ H.cell b2 (f2 + k * 2) = some (.int .i64 l[k].kind) ∧ H.cell b2 (f2 + k * 2 + 1) = some (.int .i64 l[k].n) := by
 obtain ⟨b1, f1, e1, x0, x1⟩ := vl_at2 h1 hk
 obtain ⟨b2, f2, e2, y0, y1⟩ := vl_at2 h2 hk
 exact ⟨b1, f1, b2, f2, e1, e2, x0, x1, y0, y1⟩
theorem bls_pair {H : Kn} {l : List Bool} {a1 a2 : Option Addr} {n1 n2 c1 c2 : Nat} (h1 : BlsV H l (.slice a1 n1 c1)) (h2 : BlsV H l (.slice a2 n2 c2)) {k : Nat} (hk : k < l.length) :
  ∃ b1 f1 b2 f2, a1 = some ⟨b1, f1, none⟩ ∧ a2 = some ⟨b2, f2, none⟩ ∧ H.cell b1 (f1 + k) = some (.bool l[k]) ∧ H.cell b2 (f2 + k) = some (.bool l[k]) := by
 obtain ⟨b1, f1, e1, _, x0⟩ := SlV.at h1 hk
 obtain ⟨b2, f2, e2, _, y0⟩ := SlV.at h2 hk
 have x0 : H.cell b1 (f1 + k * 1 + 0) = _ := x0
 have y0 : H.cell b2 (f2 + k * 1 + 0) = _ := y0
 simp only [Nat.mul_one, Nat.add_zero] at x0 y0
 exact ⟨b1, f1, b2, f2, e1, e2, x0, y0⟩
theorem sameTick_any (H : Kn) (x : Tk) (o1 k1 o2 k2 : Value) (h1 : TkV H x o1 k1) (h2 : TkV H x o2 k2) (hz : x.out.length ≤ 1000000000 ∧ x.checks.length ≤ 1000000000) (w : World) (hH : H.In w) :
  Calls Tryz.prog 46 #[.agg #[o1, .bool x.asrt, .bool x.trap, k1], .agg #[o2, .bool x.asrt, .bool x.trap, k2]] w fun r w' => r = .returned (.bool true) ∧ Below w.heap.size w w' := by
 obtain ⟨z1, z2⟩ := hz
 obtain ⟨xo, xa, xt, xc⟩ := x
 dsimp only at z1 z2 ⊢
 obtain ⟨a1, d1, rfl⟩ := h1.outs.len
 obtain ⟨a2, d2, rfl⟩ := h2.outs.len
 obtain ⟨a3, d3, rfl⟩ := h1.checks.len
 obtain ⟨a4, d4, rfl⟩ := h2.checks.len
 dsimp only
 go_enter Tryz.func46, Tryz.ntmps46
 have hb2 : Below w.heap.size w ((w.alloc (.cells #[.slice a1 xo.length d1, .bool xa, .bool xt, .slice a3 xc.length d3] 108)).alloc (.cells #[.slice a2 xo.length d2, .bool xa, .bool xt, .slice a4 xc.length d4] 108)) := ((Below.refl _ _).alloc (Nat.le_refl _) _).alloc (by simp) _
 have hq1 : ∀ i, World.cell? ((w.alloc (.cells #[.slice a1 xo.length d1, .bool xa, .bool xt, .slice a3 xc.length d3] 108)).alloc (.cells #[.slice a2 xo.length d2, .bool xa, .bool xt, .slice a4 xc.length d4] 108)) ⟨w.heap.size, i, none⟩ = (#[.slice a1 xo.length d1, .bool xa, .bool xt, .slice a3 xc.length d3] : Array Value)[i]? := fun i => by simp
 have hq2 : ∀ i, World.cell? ((w.alloc (.cells #[.slice a1 xo.length d1, .bool xa, .bool xt, .slice a3 xc.length d3] 108)).alloc (.cells #[.slice a2 xo.length d2, .bool xa, .bool xt, .slice a4 xc.length d4] 108)) ⟨w.heap.size + 1, i, none⟩ = (#[.slice a2 xo.length d2, .bool xa, .bool xt, .slice a4 xc.length d4] : Array Value)[i]? := fun i => by simp
 go_wp2_with fail
 generalize (w.alloc (.cells #[.slice a1 xo.length d1, .bool xa, .bool xt, .slice a3 xc.length d3] 108)).alloc (.cells #[.slice a2 xo.length d2, .bool xa, .bool xt, .slice a4 xc.length d4] 108) = W2 at *
 have HB2 := Lib.hid hb2
 have k10 : (allKn W2).cell w.heap.size 0 = some (.slice a1 xo.length d1) := by rw [allKn_cell]; exact hq1 0
 have k13 : (allKn W2).cell w.heap.size 3 = some (.slice a3 xc.length d3) := by rw [allKn_cell]; exact hq1 3
 have k20 : (allKn W2).cell (w.heap.size + 1) 0 = some (.slice a2 xo.length d2) := by rw [allKn_cell]; exact hq2 0
 have k23 : (allKn W2).cell (w.heap.size + 1) 3 = some (.slice a4 xc.length d4) := by rw [allKn_cell]; exact hq2 3
 have HIN := Lib.hid (allKn_in W2)
 have HLE := Lib.hid (show H.le (allKn W2) from all_of (hH.below hb2))
 have O1 := Lib.hid h1.outs
 have O2 := Lib.hid h2.outs
 have C1 := Lib.hid h1.checks
 have C2 := Lib.hid h2.checks
 clear hq1 hq2 hb2 h1 h2
 dsimp only at O1 O2 C1 C2
 go_loopw [5] (fun i wr => ∃ k : Nat, i = .int .i64 k ∧ k ≤ xo.length ∧ Below W2.heap.size W2 wr) (fun i _ => xo.length - (intOf i).toNat)
 case atStart => exact ⟨0, rfl, Nat.zero_le _, Below.refl _ _⟩
 case round =>
  obtain ⟨k, rfl, hk, hb⟩ := hrel
  have HB := Lib.hid hb
  have HBW := Lib.hid (HB2.out.trans (hb.mono HB2.out.size))
  clear hb
  have m1 := (HIN.out.below HB.out).cell k10
  have m2 := (HIN.out.below HB.out).cell k20
  by_cases hkl : k < xo.length
  ·obtain ⟨b1, f1, b2, f2, rfl, rfl, x0, x1, y0, y1⟩ := vls_pair O1.out O2.out hkl
   have x0 := HLE.out.cell x0
   have x1 := HLE.out.cell x1
   have y0 := HLE.out.cell y0
   have y1 := HLE.out.cell y1
   have hS := HIN.out.below HB.out.drew
   generalize xo[k].kind = xk at *
   generalize xo[k].n = xn at *
   go_wp2_with fail
   refine wp_region_2 (fun w' => (allKn W2).In w') (fun _ => True) 99 (by kernel_rfl) ?_
   refine tk2 (i := 0) (v := ?_) rfl hS (fun _ => trivial) ?hy ?_
   case hy => intro w hSw; obtain ⟨z0, z1, z2, z3, z4, z5⟩ := hSw.c6 k10 k20 x0 x1 y0 y1; go_simp <;> with_reducible rfl
   try simp only [Act.put, List.setIfInBounds_toArray, List.set_cons_zero, List.set_cons_succ, List.getElem_toArray, List.getElem_cons_zero]
   refine tk2 (i := 1) (v := ?_) rfl hS (fun _ => trivial) ?hy ?_
   case hy => intro w hSw; obtain ⟨z0, z1, z2, z3, z4, z5⟩ := hSw.c6 k10 k20 x0 x1 y0 y1; go_simp <;> with_reducible rfl
   try simp only [tkS, List.getElem_toArray, List.getElem_cons_zero, List.getElem_cons_succ]
   refine tk2 (i := 2) (v := ?_) rfl hS (fun _ => trivial) ?hy ?_
   case hy => intro w hSw; obtain ⟨z0, z1, z2, z3, z4, z5⟩ := hSw.c6 k10 k20 x0 x1 y0 y1; go_simp <;> with_reducible rfl
   try simp only [tkS, List.getElem_toArray, List.getElem_cons_zero, List.getElem_cons_succ]
   refine tk2 (i := 3) (v := ?_) rfl hS (fun _ => trivial) ?hy ?_
   case hy => intro w hSw; obtain ⟨z0, z1, z2, z3, z4, z5⟩ := hSw.c6 k10 k20 x0 x1 y0 y1; go_simp <;> with_reducible rfl
   try simp only [tkS, List.getElem_toArray, List.getElem_cons_zero, List.getElem_cons_succ]
   refine tk2 (i := 4) (v := ?_) rfl hS (fun _ => trivial) ?hy ?_
   case hy => intro w hSw; obtain ⟨z0, z1, z2, z3, z4, z5⟩ := hSw.c6 k10 k20 x0 x1 y0 y1; go_simp <;> with_reducible rfl
   try simp only [tkS, List.getElem_toArray, List.getElem_cons_zero, List.getElem_cons_succ]
   refine tk2 (i := 5) (v := ?_) rfl hS (fun _ => trivial) ?hy ?_
   case hy => intro w hSw; obtain ⟨z0, z1, z2, z3, z4, z5⟩ := hSw.c6 k10 k20 x0 x1 y0 y1; go_simp <;> with_reducible rfl
   try simp only [tkS, List.getElem_toArray, List.getElem_cons_zero, List.getElem_cons_succ]
   refine tk2 (i := 6) (v := ?_) rfl hS (fun _ => trivial) ?hy ?_
   case hy => intro w hSw; obtain ⟨z0, z1, z2, z3, z4, z5⟩ := hSw.c6 k10 k20 x0 x1 y0 y1; go_simp <;> with_reducible rfl
   try simp only [tkS, List.getElem_toArray, List.getElem_cons_zero, List.getElem_cons_succ]
   refine tk2 (i := 7) (v := ?_) rfl hS (fun _ => trivial) ?hy ?_
   case hy => intro w hSw; obtain ⟨z0, z1, z2, z3, z4, z5⟩ := hSw.c6 k10 k20 x0 x1 y0 y1; go_simp <;> with_reducible rfl
   try simp only [tkS, List.getElem_toArray, List.getElem_cons_zero, List.getElem_cons_succ]
   refine tk2 (i := 8) (v := ?_) rfl hS (fun _ => trivial) ?hy ?_
   case hy => intro w hSw; obtain ⟨z0, z1, z2, z3, z4, z5⟩ := hSw.c6 k10 k20 x0 x1 y0 y1; go_simp <;> with_reducible rfl
   try simp only [tkS, List.getElem_toArray, List.getElem_cons_zero, List.getElem_cons_succ]
   refine tk2 (i := 9) (v := ?_) rfl hS (fun _ => trivial) ?hy ?_
   case hy => intro w hSw; obtain ⟨z0, z1, z2, z3, z4, z5⟩ := hSw.c6 k10 k20 x0 x1 y0 y1; go_simp <;> with_reducible rfl
   try simp only [tkS, List.getElem_toArray, List.getElem_cons_zero, List.getElem_cons_succ]
   refine tk2 (i := 10) (v := ?_) rfl hS (fun _ => trivial) ?hy ?_
   case hy => intro w hSw; obtain ⟨z0, z1, z2, z3, z4, z5⟩ := hSw.c6 k10 k20 x0 x1 y0 y1; go_simp <;> with_reducible rfl
   try simp only [tkS, List.getElem_toArray, List.getElem_cons_zero, List.getElem_cons_succ]
   refine wpAny2_done (by kernel_rfl) ?_ _
   go_wp2_with fail
   go_roundw
   case rel => exact ⟨k + 1, by go_num, by omega, HB.out.drew⟩
   case measure => simp [intOf]; omega
  ·obtain rfl : k = xo.length := by omega
   clear m1 m2
   have m1 := (HIN.out.below HB.out).cell k10
   have m2 := (HIN.out.below HB.out).cell k20
   go_wp2_with fail
   clear m1 m2 O1 O2
   go_loopw [6] (fun i wr => ∃ k : Nat, i = .int .i64 k ∧ k ≤ xc.length ∧ Below W2.heap.size W2 wr) (fun i _ => xc.length - (intOf i).toNat)
   case atStart => exact ⟨0, rfl, Nat.zero_le _, HB.out⟩
   case round =>
    clear HB HBW hk hkl
    obtain ⟨k, rfl, hk, hb⟩ := hrel
    have HB := Lib.hid hb
    have HBW := Lib.hid (HB2.out.trans (hb.mono HB2.out.size))
    clear hb
    have m1 := (HIN.out.below HB.out).cell k13
    have m2 := (HIN.out.below HB.out).cell k23
    by_cases hkl : k < xc.length
    ·obtain ⟨b1, f1, b2, f2, rfl, rfl, x0, y0⟩ := bls_pair C1.out C2.out hkl
     have x0 := HLE.out.cell x0
     have y0 := HLE.out.cell y0
     have hS := HIN.out.below HB.out.drew
     generalize xc[k] = xk at *
     go_wp2_with fail
     refine wp_region_2 (fun w' => (allKn W2).In w') (fun _ => True) 99 (by kernel_rfl) ?_
     refine tk2 (i := 0) (v := ?_) rfl hS (fun _ => trivial) ?hy ?_
     case hy => intro w hSw; obtain ⟨z0, z1, z2, z3⟩ := hSw.c4 k13 k23 x0 y0; go_simp <;> with_reducible rfl
     try simp only [Act.put, List.setIfInBounds_toArray, List.set_cons_zero, List.set_cons_succ, List.getElem_toArray, List.getElem_cons_zero]
     refine tk2 (i := 1) (v := ?_) rfl hS (fun _ => trivial) ?hy ?_
     case hy => intro w hSw; obtain ⟨z0, z1, z2, z3⟩ := hSw.c4 k13 k23 x0 y0; go_simp <;> with_reducible rfl
     try simp only [tkS, List.getElem_toArray, List.getElem_cons_zero, List.getElem_cons_succ]
     refine tk2 (i := 2) (v := ?_) rfl hS (fun _ => trivial) ?hy ?_
     case hy => intro w hSw; obtain ⟨z0, z1, z2, z3⟩ := hSw.c4 k13 k23 x0 y0; go_simp <;> with_reducible rfl
     try simp only [tkS, List.getElem_toArray, List.getElem_cons_zero, List.getElem_cons_succ]
     refine tk2 (i := 3) (v := ?_) rfl hS (fun _ => trivial) ?hy ?_
     case hy => intro w hSw; obtain ⟨z0, z1, z2, z3⟩ := hSw.c4 k13 k23 x0 y0; go_simp <;> with_reducible rfl
     try simp only [tkS, List.getElem_toArray, List.getElem_cons_zero, List.getElem_cons_succ]
     refine tk2 (i := 4) (v := ?_) rfl hS (fun _ => trivial) ?hy ?_
     case hy => intro w hSw; obtain ⟨z0, z1, z2, z3⟩ := hSw.c4 k13 k23 x0 y0; go_simp <;> with_reducible rfl
     try simp only [tkS, List.getElem_toArray, List.getElem_cons_zero, List.getElem_cons_succ]
     refine tk2 (i := 5) (v := ?_) rfl hS (fun _ => trivial) ?hy ?_
     case hy => intro w hSw; obtain ⟨z0, z1, z2, z3⟩ := hSw.c4 k13 k23 x0 y0; go_simp <;> with_reducible rfl
     try simp only [tkS, List.getElem_toArray, List.getElem_cons_zero, List.getElem_cons_succ]
     refine tk2 (i := 6) (v := ?_) rfl hS (fun _ => trivial) ?hy ?_
     case hy => intro w hSw; obtain ⟨z0, z1, z2, z3⟩ := hSw.c4 k13 k23 x0 y0; go_simp <;> with_reducible rfl
     try simp only [tkS, List.getElem_toArray, List.getElem_cons_zero, List.getElem_cons_succ]
     refine tk2 (i := 7) (v := ?_) rfl hS (fun _ => trivial) ?hy ?_
     case hy => intro w hSw; obtain ⟨z0, z1, z2, z3⟩ := hSw.c4 k13 k23 x0 y0; go_simp <;> with_reducible rfl
     try simp only [tkS, List.getElem_toArray, List.getElem_cons_zero, List.getElem_cons_succ]
     refine tk2 (i := 8) (v := ?_) rfl hS (fun _ => trivial) ?hy ?_
     case hy => intro w hSw; obtain ⟨z0, z1, z2, z3⟩ := hSw.c4 k13 k23 x0 y0; go_simp <;> with_reducible rfl
     try simp only [tkS, List.getElem_toArray, List.getElem_cons_zero, List.getElem_cons_succ]
     refine tk2 (i := 9) (v := ?_) rfl hS (fun _ => trivial) ?hy ?_
     case hy => intro w hSw; obtain ⟨z0, z1, z2, z3⟩ := hSw.c4 k13 k23 x0 y0; go_simp <;> with_reducible rfl
     try simp only [tkS, List.getElem_toArray, List.getElem_cons_zero, List.getElem_cons_succ]
     refine tk2 (i := 10) (v := ?_) rfl hS (fun _ => trivial) ?hy ?_
     case hy => intro w hSw; obtain ⟨z0, z1, z2, z3⟩ := hSw.c4 k13 k23 x0 y0; go_simp <;> with_reducible rfl
     try simp only [tkS, List.getElem_toArray, List.getElem_cons_zero, List.getElem_cons_succ]
     refine wpAny2_done (by kernel_rfl) ?_ _
     go_wp2_with fail
     go_roundw
     case rel => exact ⟨k + 1, by go_num, by omega, HB.out.drew⟩
     case measure => simp [intOf]; omega
    ·obtain rfl : k = xc.length := by omega
     go_wp2_with fail
     go_ret
     exact ⟨rfl, HBW.out⟩
theorem sameTicks_any (H : Kn) (l : List Tk) (v1 v2 : Value) (h1 : TksV H l v1) (h2 : TksV H l v2) (hz : l.length ≤ 1000000 ∧ ∀ x ∈ l, x.out.length ≤ 1000000000 ∧ x.checks.length ≤ 1000000000) (w : World) (hH : H.In w) :
  Calls Tryz.prog 20 #[v1, v2] w fun r w' => r = .returned (.bool true) ∧ Below w.heap.size w w' := by
 obtain ⟨z1, z2⟩ := hz
 obtain ⟨a1, c1, rfl⟩ := h1.len
 obtain ⟨a2, c2, rfl⟩ := h2.len
 have H1 := Lib.hid h1
 have H2 := Lib.hid h2
 have HZ := Lib.hid z2
 clear h1 h2 z2
 go_enter Tryz.func20, Tryz.ntmps20
 go_wp2_with fail
 go_loopw [5] (fun i wr => ∃ k : Nat, i = .int .i64 k ∧ k ≤ l.length ∧ Below w.heap.size w wr) (fun i _ => l.length - (intOf i).toNat)
 case atStart => exact ⟨0, rfl, Nat.zero_le _, Below.refl _ _⟩
 case round =>
  obtain ⟨k, rfl, hk, hb⟩ := hrel
  have HB := Lib.hid hb
  clear hb
  by_cases hkl : k < l.length
  ·obtain ⟨b, off, e1, e2, e3, e4, rfl, d0, d1, d2, d3, hx⟩ := H1.out.at hkl
   obtain ⟨b', off', e1', e2', e3', e4', rfl, d0', d1', d2', d3', hx'⟩ := H2.out.at hkl
   obtain ⟨zo, zc⟩ := HZ.out _ (List.getElem_mem hkl)
   have HX := Lib.hid hx
   have HX' := Lib.hid hx'
   clear hx hx'
   generalize l[k] = x at *
   have hS := hH.below HB.out.drew
   go_wp2_with fail
   refine wp_region_2 (fun w' => H.In w') (fun _ => True) 99 (by kernel_rfl) ?_
   refine tk2 (i := 0) (v := ?_) rfl hS (fun _ => trivial) ?hy ?_
   case hy => intro w hSw; obtain ⟨z0, z1, z2, z3, z4, z5, z6, z7⟩ := hSw.c8 d0 d1 d2 d3 d0' d1' d2' d3'; go_simp <;> with_reducible rfl
   try simp only [Act.put, List.setIfInBounds_toArray, List.set_cons_zero, List.set_cons_succ, List.getElem_toArray, List.getElem_cons_zero]
   refine tk2 (i := 1) (v := ?_) rfl hS (fun _ => trivial) ?hy ?_
   case hy => intro w hSw; obtain ⟨z0, z1, z2, z3, z4, z5, z6, z7⟩ := hSw.c8 d0 d1 d2 d3 d0' d1' d2' d3'; go_simp <;> with_reducible rfl
   try simp only [tkS, List.getElem_toArray, List.getElem_cons_zero, List.getElem_cons_succ]
   refine tk2 (i := 2) (v := ?_) rfl hS (fun _ => trivial) ?hy ?_
   case hy => intro w hSw; obtain ⟨z0, z1, z2, z3, z4, z5, z6, z7⟩ := hSw.c8 d0 d1 d2 d3 d0' d1' d2' d3'; go_simp <;> with_reducible rfl
   try simp only [tkS, List.getElem_toArray, List.getElem_cons_zero, List.getElem_cons_succ]
   refine tk2 (i := 3) (v := ?_) rfl hS (fun _ => trivial) ?hy ?_
   case hy => intro w hSw; obtain ⟨z0, z1, z2, z3, z4, z5, z6, z7⟩ := hSw.c8 d0 d1 d2 d3 d0' d1' d2' d3'; go_simp <;> with_reducible rfl
   try simp only [tkS, List.getElem_toArray, List.getElem_cons_zero, List.getElem_cons_succ]
   refine tk2 (i := 4) (v := ?_) rfl hS (fun _ => trivial) ?hy ?_
   case hy => intro w hSw; obtain ⟨z0, z1, z2, z3, z4, z5, z6, z7⟩ := hSw.c8 d0 d1 d2 d3 d0' d1' d2' d3'; go_simp <;> with_reducible rfl
   try simp only [tkS, List.getElem_toArray, List.getElem_cons_zero, List.getElem_cons_succ]
   refine tk2 (i := 5) (v := ?_) rfl hS (fun _ => trivial) ?hy ?_
   case hy => intro w hSw; obtain ⟨z0, z1, z2, z3, z4, z5, z6, z7⟩ := hSw.c8 d0 d1 d2 d3 d0' d1' d2' d3'; go_simp <;> with_reducible rfl
   try simp only [tkS, List.getElem_toArray, List.getElem_cons_zero, List.getElem_cons_succ]
   refine tk2 (i := 6) (v := ?_) rfl hS (fun _ => trivial) ?hy ?_
   case hy => intro w hSw; obtain ⟨z0, z1, z2, z3, z4, z5, z6, z7⟩ := hSw.c8 d0 d1 d2 d3 d0' d1' d2' d3'; go_simp <;> with_reducible rfl
   try simp only [tkS, List.getElem_toArray, List.getElem_cons_zero, List.getElem_cons_succ]
   refine tk2 (i := 7) (v := ?_) rfl hS (fun _ => trivial) ?hy ?_
   case hy => intro w hSw; obtain ⟨z0, z1, z2, z3, z4, z5, z6, z7⟩ := hSw.c8 d0 d1 d2 d3 d0' d1' d2' d3'; go_simp <;> with_reducible rfl
   try simp only [tkS, List.getElem_toArray, List.getElem_cons_zero, List.getElem_cons_succ]
   refine wpAny2_one (i := 8) (o := _) (by kernel_rfl) rfl (fun K_ hK => ?_)
   go_simp
   go_at_call 46
   refine (sameTick_any H x _ _ _ _ HX.out HX'.out ⟨zo, zc⟩ _ hS).mono ?_
   rintro r5 w5 ⟨rfl, hb5⟩
   have hS5 := hS.below hb5
   refine hK.out _ _ (hS5) (fun _ => trivial) ?_
   clear hK K_
   try simp only [tkS, List.getElem_toArray, List.getElem_cons_zero, List.getElem_cons_succ]
   refine tk2 (i := 9) (v := ?_) rfl hS5 (fun _ => trivial) ?hy ?_
   case hy => intro w hSw; obtain ⟨z0, z1, z2, z3, z4, z5, z6, z7⟩ := hSw.c8 d0 d1 d2 d3 d0' d1' d2' d3'; go_simp <;> with_reducible rfl
   try simp only [tkS, List.getElem_toArray, List.getElem_cons_zero, List.getElem_cons_succ]
   refine wpAny2_done (by kernel_rfl) ?_ _
   have HB5 := Lib.hid (HB.out.drew.trans (hb5.mono (by have := HB.out.drew.size; omega)))
   go_wp2_with fail
   go_roundw
   case rel => exact ⟨k + 1, by go_num, by omega, HB5.out⟩
   case measure => simp [intOf]; omega
  ·obtain rfl : k = l.length := by omega
   go_wp2_with fail
   go_ret
   exact ⟨rfl, HB.out⟩
end Go.Proofs.YtmeldgjlgifdhaaGreatDoor
