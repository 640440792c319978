/- Walks: flow.Code.Start. -/
import Derived.Test.YthejomlhmdeimaaDoorEv
import Derived.Test.YthejomlhmdeimaaDoorRg
namespace Go.Proofs.YthejomlhmdeimaaDoor
set_option maxRecDepth 100000
set_option maxHeartbeats 16000000
open Go.RowKit Mx
def startM (R : REnv) (ms : List (Ex × Nat)) : List Vl := ms.map fun x => nilV R.nb R.ni (kindOf R.ks x.1)
theorem vlX_snoc (l : List Vl) (x : Vl) : vlX (l ++ [x]) = vlX l ++ [.int .i64 x.kind, .int .i64 x.n] := by simp [vlX]
theorem start_any (R : REnv) (H : Kn) (B : Nat) (cs : Array Value) (ms : List (Ex × Nat)) (vm : Value) (hB : H B = some (.cells cs 122 (0, 0))) (h10 : cs[10]? = some vm) (hm : NdsV 130 R H ms vm) (hl : ms.length ≤ 1000000000) (w : World) (hH : H.In w) :
  Calls Tryd.prog 31 #[.pointer (some ⟨B, 0, none⟩), .agg #[.bool R.nb, .int .i64 R.ni]] w fun r w' => ∃ v, r = .returned v ∧ VlsV (allKn w') (startM R ms) v ∧ Below w.heap.size w w' := by
 obtain ⟨a, c, rfl⟩ := hm.len
 have HM := Lib.hid hm
 have hBw := hH _ _ hB
 have hBlt : B < w.heap.size := (Array.getElem?_eq_some_iff.1 hBw).1
 have hb0 : Below w.heap.size w (w.alloc (.cells #[.bool R.nb, .int .i64 R.ni] 86)) := (Below.refl _ _).alloc (Nat.le_refl _) _
 have hB1 := (hb0.block B hBlt).trans hBw
 have hN1 := heap_alloc_new w (.cells #[.bool R.nb, .int .i64 R.ni] 86)
 have g10 : (w.alloc (.cells #[.bool R.nb, .int .i64 R.ni] 86)).cell? ⟨B, 10, none⟩ = some (.slice a ms.length c) := by simp [World.cell?, hB1, h10]
 obtain ⟨i0, hi0, hz0, hz1, hz2⟩ := info_parts Tryd.infoVl
 go_enter Tryd.func31, Tryd.ntmps31
 go_wp2_with fail
 clear g10
 have HN1 := Lib.hid hN1
 have HB0 := Lib.hid hb0
 have hsz : (w.alloc (.cells #[.bool R.nb, .int .i64 R.ni] 86)).heap.size = w.heap.size + 1 := by simp
 clear hN1 hb0 hB1
 generalize w.alloc (.cells #[.bool R.nb, .int .i64 R.ni] 86) = W0 at *
 go_loopw [5, 13] (fun u i wr => ∃ k : Nat, i = .int .i64 k ∧ k ≤ ms.length ∧ Below W0.heap.size W0 wr ∧ wr.ownsRow (w.heap.size + 1) 71 2 u k (vlX (startM R (ms.take k)))) (fun _ i _ => ms.length - (intOf i).toNat)
 case atStart => exact ⟨0, rfl, Nat.zero_le _, Below.refl _ _, World.ownsRow_nil _ _ _ _⟩
 case round =>
  obtain ⟨k, rfl, hk, hb, hrow⟩ := hrel
  have HB := Lib.hid hb
  have HR := Lib.hid hrow
  clear hb hrow
  by_cases hkl : k < ms.length
  ·obtain ⟨au, cu, hue, _⟩ := own_len HR.out
   subst hue
   obtain ⟨b, off, rfl, _, q, hq1, hq2⟩ := SlV.at HM.out hkl
   have hq1 : H.cell b (off + k * 1 + 0) = some (ptrV q) := hq1
   simp only [Nat.mul_one, Nat.add_zero] at hq1
   obtain ⟨lv, pv, hqH, _⟩ := hq2.open
   obtain ⟨K, hKe⟩ : ∃ K, K = H.add w.heap.size (.cells #[.bool R.nb, .int .i64 R.ni] 86 (0, 0)) := ⟨_, rfl⟩
   have hle : H.le K := by rw [hKe]; exact Kn.le_add (hH.isNone (Nat.le_refl _))
   have hHr : H.In wr := (hH.below HB0.out).below HB.out
   have hNr := (HB.out.block w.heap.size (by omega)).trans HN1.out
   have hKin : K.In wr := by rw [hKe]; exact hHr.add hNr
   have hS : K.In wr.drew := hKin
   have j0 : K.cell w.heap.size 0 = some (.bool R.nb) := by rw [hKe]; unfold Kn.cell; rw [Kn.add_self]; rfl
   have j1 : K.cell w.heap.size 1 = some (.int .i64 R.ni) := by rw [hKe]; unfold Kn.cell; rw [Kn.add_self]; rfl
   have j5 : K.cell q 5 = some (.int .i64 (kindOf R.ks ms[k].1)) := hle.cell (by unfold Kn.cell; rw [hqH]; rfl)
   have hnoU : ∀ g, (Value.slice au k cu).ownBlock = some g → K g = none := fun g hg => by
    have := (HR.out.lt g hg).1
    rw [hKe, Kn.add_other _ _ (by omega)]
    exact hH.isNone (by omega)
   have c0 := hHr.cell hq1
   have hcall := fun w' => nilOf_any R.nb R.ni (kindOf R.ks ms[k].1) w'
   have hsn : startM R (ms.take (k + 1)) = startM R (ms.take k) ++ [nilV R.nb R.ni (kindOf R.ks ms[k].1)] := by
    unfold startM; rw [List.take_succ_eq_append_getElem hkl, List.map_append]; rfl
   obtain ⟨⟨yk, yn⟩, hy⟩ : ∃ y, y = nilV R.nb R.ni (kindOf R.ks ms[k].1) := ⟨_, rfl⟩
   rw [← hy] at hcall hsn
   have HSN := Lib.hid hsn
   have hbase : w.heap.size + 1 ≤ wr.heap.size := by have := HB.out.size; omega
   clear hy hsn hq2 hqH hNr
   generalize kindOf R.ks ms[k].1 = kd at *
   go_wp2_with fail
   refine wp_region_2 (fun w' => K.In w') (fun _ => True) 99 (by kernel_rfl) ?_
   refine tk2 (i := 0) (v := ?_) rfl hS (fun _ => trivial) ?hy ?_
   case hy => intro w hSw; obtain ⟨z0, z1, z2⟩ := hSw.c3 j0 j1 j5; go_simp <;> with_reducible rfl
   try simp only [Act.put, List.setIfInBounds_toArray, List.set_cons_zero, List.set_cons_succ, List.getElem_toArray, List.getElem_cons_zero]
   refine tk2 (i := 1) (v := ?_) rfl hS (fun _ => trivial) ?hy ?_
   case hy => intro w hSw; obtain ⟨z0, z1, z2⟩ := hSw.c3 j0 j1 j5; go_simp <;> with_reducible rfl
   try simp only [tkS]
   refine tk2 (i := 2) (v := ?_) rfl hS (fun _ => trivial) ?hy ?_
   case hy => intro w hSw; obtain ⟨z0, z1, z2⟩ := hSw.c3 j0 j1 j5; go_simp <;> with_reducible rfl
   try simp only [tkS]
   refine tk2 (i := 3) (v := ?_) rfl hS (fun _ => trivial) ?hy ?_
   case hy => intro w hSw; obtain ⟨z0, z1, z2⟩ := hSw.c3 j0 j1 j5; go_simp <;> with_reducible rfl
   try simp only [tkS]
   refine tk2 (i := 4) (v := ?_) rfl hS (fun _ => trivial) ?hy ?_
   case hy => intro w hSw; obtain ⟨z0, z1, z2⟩ := hSw.c3 j0 j1 j5; go_simp <;> with_reducible rfl
   try simp only [tkS]
   refine tk2 (i := 5) (v := ?_) rfl hS (fun _ => trivial) ?hy ?_
   case hy => intro w hSw; obtain ⟨z0, z1, z2⟩ := hSw.c3 j0 j1 j5; go_simp <;> with_reducible rfl
   try simp only [tkS]
   refine wpAny2_one (i := 6) (o := _) (by kernel_rfl) rfl (fun K_ hK => ?_)
   go_simp
   go_at_call 53
   refine (hcall _).mono ?_
   rintro r5 w5 ⟨rfl, hb5⟩
   have hS5 := hS.below hb5
   have hr5 := own_below (own_below HR.out (Below.refl wr.heap.size wr).drew) hb5
   have hba : Below w5.heap.size w5 (w5.alloc (.cells #[.int .i64 yk, .int .i64 yn] 71)) := (Below.refl _ _).alloc (Nat.le_refl _) _
   have hra := own_below hr5 hba
   have hb45 : Below wr.heap.size wr w5 := ((Below.refl wr.heap.size wr).drew).trans hb5
   have hsz5 := hb45.size
   refine hK.out _ _ (hS5) (fun _ => trivial) ?_
   clear hK K_
   try simp only [tkS]
   refine wpAny2_one (i := 7) (o := _) (by kernel_rfl) rfl (fun K_ hK => ?_)
   go_simp
   refine hK.out _ _ ((hS5.alloc _)) (fun _ => trivial) ?_
   clear hK K_
   try simp only [tkS]
   refine wpAny2_one (i := 8) (o := _) (by kernel_rfl) rfl (fun K_ hK => ?_)
   refine step_append_lies _ (by rfl) _ _ _ (by rfl) (w.heap.size + 1) 71 i0 _ 2 16 Tryd.underlying53 hi0 hz0 hz1 hz2 rfl (by omega) (.slice au k cu) k (vlX (startM R (ms.take k))) (by rfl) hra ⟨_, 0, none⟩ 1 1 [.int .i64 yk, .int .i64 yn] (by rfl) (by rfl) (by exact World.news_of_block (heap_alloc_new _ _)) (by simp [Value.oneCell']) (by omega) (by unfold maxLen; omega) (by omega) (by simp; omega) _ rfl ?_
   intro gg cap' w3 hown hgrow hat hltg
   have hS6 := (hS5.alloc (.cells #[.int .i64 yk, .int .i64 yn] 71)).grown hgrow hnoU
   refine hK.out _ _ (hS6) (fun _ => trivial) ?_
   clear hK K_
   try simp only [tkS]
   refine tk2 (i := 9) (v := ?_) rfl hS6 (fun _ => trivial) ?hy ?_
   case hy => intro w hSw; obtain ⟨z0, z1, z2⟩ := hSw.c3 j0 j1 j5; go_simp <;> with_reducible rfl
   try simp only [tkS]
   refine wpAny2_done (by kernel_rfl) ?_ _
   go_wp2_with fail
   go_roundw
   case rel =>
    refine ⟨k + 1, by go_num, by omega, ?_, by rw [HSN.out, vlX_snoc]; exact hown⟩
    refine (HB.out.trans (hb45.mono HB.out.size)).trans ((hba.mono (by have := HB.out.size; omega)).trans ?_)
    exact ⟨hgrow.os, hgrow.tape, hgrow.output, hgrow.size, fun i hi => hgrow.block i (by simp; have := HB.out.size; omega) (fun e => by have := (HR.out.lt i e.symm).1; omega)⟩
   case measure => simp [intOf]; omega
  ·obtain rfl : k = ms.length := by omega
   obtain ⟨au, cu, rfl, _⟩ := own_len HR.out
   go_wp2_with fail
   go_ret
   refine ⟨_, rfl, ?_, HB0.out.trans (HB.out.mono (by omega))⟩
   have h := HR.out
   rw [List.take_length] at h
   exact slv_of_row (l := startM R ms) (by simpa [startM] using h) fun i hi f hf => by
    obtain ⟨x0, x1⟩ := vlX_get _ i hi
    refine ⟨hf 0 _ ?_, hf 1 _ ?_⟩
    ·rw [show i * 2 + 0 = 2 * i from by omega]; exact x0
    ·rw [show i * 2 + 1 = 2 * i + 1 from by omega]; exact x1
end Go.Proofs.YthejomlhmdeimaaDoor
