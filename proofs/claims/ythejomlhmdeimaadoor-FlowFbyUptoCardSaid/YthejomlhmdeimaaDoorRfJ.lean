/- Walks: lustrumref2.lateOf. -/
import Derived.Test.YthejomlhmdeimaaDoorRfI
import Derived.Test.YthejomlhmdeimaaDoorLateA
import Derived.Test.YthejomlhmdeimaaDoorLate
namespace Go.Proofs.YthejomlhmdeimaaDoor
set_option maxRecDepth 100000
set_option maxHeartbeats 16000000
open Go.RowKit Mx
def fLate (p : Pr) (A : List Int) : ByteArray → Int := fun s => match fIdx p s with | some k => A.getD k 0 | none => 0
theorem fLate_bound (p : Pr) (A : List Int) (hl : ∀ x ∈ A, 0 ≤ x ∧ x ≤ 2) (s : ByteArray) : 0 ≤ fLate p A s ∧ fLate p A s ≤ 2 := by
 unfold fLate
 split
 ·exact getD_bound A _ hl
 ·omega
theorem latesOf_len (f : ByteArray → Int) : ∀ l : List Ex, (latesOf f l).length = l.length
 | [] => rfl
 | e :: l => by simp [latesOf, latesOf_len f l]
theorem lateR_any (p : Pr) (vi vo vl va vc : Value) (A : List Int) (hA : A.length = p.fl.length) (hl : ∀ x ∈ A, 0 ≤ x ∧ x ≤ 2) (hlp : p.fl.length ≤ 1000000) (ks : Env Int) : ∀ (e : Ex), formAll ks e = true → e.parts ≤ 1000000000000 → ∀ (H : Kn) (v vA : Value), ExV H e v → PrP H p vi vo vl va vc → SIntsV H A vA → ∀ w, H.In w →
  Calls Tryd.prog 45 #[.agg #[vi, vo, vl, va, vc], v, vA] w fun r w' => r = .returned (.int .i64 (lateOf (fLate p A) e)) ∧ Below w.heap.size w w' := by
 refine Ex.ind fun o n s l ih hf hpe H v vA hv hp hvA w hH => ?_
 have HP := Lib.hid hp
 obtain ⟨h1, h2, h3, h4, h5⟩ := hp
 obtain ⟨ai, ci, rfl⟩ := h1.len
 obtain ⟨ao, co, rfl⟩ := h2.len
 obtain ⟨al, cl, rfl⟩ := h3.len
 obtain ⟨aa, ca, rfl⟩ := h4.len
 obtain ⟨ac, cc, rfl⟩ := h5.len
 clear h1 h2 h3 h4 h5
 obtain ⟨u, rfl, hu⟩ := hv
 simp only [Ex.op, Ex.n, Ex.s, Ex.l] at hu ⊢
 obtain ⟨a, c, rfl⟩ := hu.len
 obtain ⟨aA, cA, rfl⟩ := hvA.len
 rw [hA] at hvA ⊢
 have HA := Lib.hid hA
 clear hA
 obtain ⟨hfl, hfby, harr, hpr, _⟩ := formAll_parts hf
 have HU := Lib.hid hu
 have HVA := Lib.hid hvA
 have IH := Lib.hid ih
 have HFL := Lib.hid hfl
 simp only [Ex.parts] at hpe
 have hll := len_partsL l
 have HBD := Lib.hid (late_bound (fLate p A) (fLate_bound p A hl))
 clear hu ih hvA hfl hf
 have hPB : ((w.alloc (.cells #[.slice ai p.ins.length ci, .slice ao p.outs.length co, .slice al p.fl.length cl, .slice aa p.as.length ca, .slice ac p.cs.length cc] 45)).alloc (.cells #[.string o, .int .i64 n, .string s, .slice a l.length c] 24)).heap[w.heap.size]? = some (.cells #[.slice ai p.ins.length ci, .slice ao p.outs.length co, .slice al p.fl.length cl, .slice aa p.as.length ca, .slice ac p.cs.length cc] 45 (0, 0)) := by
  rw [Below.heap_alloc _ _ _ (by simp)]; exact heap_alloc_new _ _
 have hEB : ((w.alloc (.cells #[.slice ai p.ins.length ci, .slice ao p.outs.length co, .slice al p.fl.length cl, .slice aa p.as.length ca, .slice ac p.cs.length cc] 45)).alloc (.cells #[.string o, .int .i64 n, .string s, .slice a l.length c] 24)).heap[w.heap.size + 1]? = some (.cells #[.string o, .int .i64 n, .string s, .slice a l.length c] 24 (0, 0)) := by
  rw [show w.heap.size + 1 = (w.alloc (.cells #[.slice ai p.ins.length ci, .slice ao p.outs.length co, .slice al p.fl.length cl, .slice aa p.as.length ca, .slice ac p.cs.length cc] 45)).heap.size from by simp]; exact heap_alloc_new _ _
 have hb0 : Below w.heap.size w ((w.alloc (.cells #[.slice ai p.ins.length ci, .slice ao p.outs.length co, .slice al p.fl.length cl, .slice aa p.as.length ca, .slice ac p.cs.length cc] 45)).alloc (.cells #[.string o, .int .i64 n, .string s, .slice a l.length c] 24)) := ((Below.refl _ _).alloc (Nat.le_refl _) _).alloc (by simp) _
 have hzW : ((w.alloc (.cells #[.slice ai p.ins.length ci, .slice ao p.outs.length co, .slice al p.fl.length cl, .slice aa p.as.length ca, .slice ac p.cs.length cc] 45)).alloc (.cells #[.string o, .int .i64 n, .string s, .slice a l.length c] 24)).heap.size = w.heap.size + 2 := by simp
 go_enter Tryd.func45, Tryd.ntmps45
 go_wp2_with fail
 generalize hW : (w.alloc (.cells #[.slice ai p.ins.length ci, .slice ao p.outs.length co, .slice al p.fl.length cl, .slice aa p.as.length ca, .slice ac p.cs.length cc] 45)).alloc (.cells #[.string o, .int .i64 n, .string s, .slice a l.length c] 24) = W at *
 obtain ⟨K, hKe⟩ : ∃ K, K = (H.add w.heap.size (.cells #[.slice ai p.ins.length ci, .slice ao p.outs.length co, .slice al p.fl.length cl, .slice aa p.as.length ca, .slice ac p.cs.length cc] 45 (0, 0))).add (w.heap.size + 1) (.cells #[.string o, .int .i64 n, .string s, .slice a l.length c] 24 (0, 0)) := ⟨_, rfl⟩
 have hKle : H.le K := by rw [hKe]; exact Kn.le_trans (Kn.le_add (hH.isNone (Nat.le_refl _))) (Kn.le_add (by rw [Kn.add_other _ _ (by omega)]; exact hH.isNone (by omega)))
 have hKin : K.In W := by rw [hKe]; exact ((hH.below hb0).add hPB).add hEB
 have hcP : ∀ i, K.cell w.heap.size i = (#[.slice ai p.ins.length ci, .slice ao p.outs.length co, .slice al p.fl.length cl, .slice aa p.as.length ca, .slice ac p.cs.length cc] : Array Value)[i]? := fun i => by unfold Kn.cell; rw [hKe, Kn.add_other _ _ (by omega), Kn.add_self]
 have hcE : ∀ i, K.cell (w.heap.size + 1) i = (#[.string o, .int .i64 n, .string s, .slice a l.length c] : Array Value)[i]? := fun i => by unfold Kn.cell; rw [hKe, Kn.add_self]
 have k0 : K.cell w.heap.size 0 = some (.slice ai p.ins.length ci) := hcP 0
 have k1 : K.cell w.heap.size 1 = some (.slice ao p.outs.length co) := hcP 1
 have k2 : K.cell w.heap.size 2 = some (.slice al p.fl.length cl) := hcP 2
 have k3 : K.cell w.heap.size 3 = some (.slice aa p.as.length ca) := hcP 3
 have k4 : K.cell w.heap.size 4 = some (.slice ac p.cs.length cc) := hcP 4
 have j0 : K.cell (w.heap.size + 1) 0 = some (.string o) := hcE 0
 have j2 : K.cell (w.heap.size + 1) 2 = some (.string s) := hcE 2
 have j3 : K.cell (w.heap.size + 1) 3 = some (.slice a l.length c) := hcE 3
 have HPK := Lib.hid (HP.out.le hKle)
 have HVK := Lib.hid (show SIntsV K A (.slice aA p.fl.length cA) from SlV.le HVA.out hKle (fun x f g h e => h 0 _ e))
 have HEX := Lib.hid (show ExsV K l (.slice a l.length c) from HU.out.le hKle)
 have HKW := Lib.hid hKin
 have HB0 := Lib.hid hb0
 clear hcP hcE hKe hPB hEB hb0 hH HU HP HVA hKin
 go_loopw [7, 8, 9, 10] (fun u7 u8 i u10 wr => ∃ k : Nat, i = .int .i64 k ∧ k ≤ l.length ∧ u8 = .int .i64 ((latesOf (fLate p A) (l.take k)).foldl max 0) ∧ Below W.heap.size W wr ∧ wr.ownsRow (w.heap.size + 2) 3 1 u7 k ((latesOf (fLate p A) (l.take k)).map (Value.int .i64))) (fun _ _ i _ _ => l.length - (intOf i).toNat)
 case atStart => exact ⟨0, rfl, Nat.zero_le _, rfl, Below.refl _ _, World.ownsRow_nil _ _ _ _⟩
 case round =>
  obtain ⟨k, rfl, hk, rfl, hb, hown⟩ := hrel
  have HB := Lib.hid hb
  have HO := Lib.hid hown
  obtain ⟨ra, rc, rfl, hrc, hkc⟩ := own_len hown
  have hKr := HKW.out.below hb
  have hzr := hb.size
  clear hb hown
  have m0 := hKr.cell k0
  have m1 := hKr.cell k1
  have m2 := hKr.cell k2
  have m3 := hKr.cell k3
  have m4 := hKr.cell k4
  have i0 := hKr.cell j0
  have i2 := hKr.cell j2
  have i3 := hKr.cell j3
  by_cases hkl : k < l.length
  ·obtain ⟨b, off, ax, cx, rfl, c0, c1, c2, c3, hx⟩ := HEX.out.at hkl
   have hpx : l[k].parts ≤ 1000000000000 := by have := getElem_parts l k hkl; omega
   have hmem := List.getElem_mem hkl
   have hfx := HFL.out _ hmem
   have HLT := Lib.hid (latesOf_take (fLate p A) l k hkl)
   have hS2 : K.In wr.drew := hKr
   have hbx := HBD.out l[k]
   have hfb := foldl_max (latesOf (fLate p A) (l.take k)) 0 (by omega) (by omega) (fun x hx => by
    obtain ⟨e, _, rfl⟩ := latesOf_mem _ _ _ hx
    exact HBD.out e)
   have HLM := Lib.hid (show (latesOf (fLate p A) (l.take (k + 1))).foldl max 0 = max ((latesOf (fLate p A) (l.take k)).foldl max 0) (lateOf (fLate p A) l[k]) from by rw [HLT.out, List.foldl_append]; rfl)
   generalize l[k] = x at *
   have HCL := Lib.hid (fun (wz : World) (hz : K.In wz) => IH.out x hmem hfx hpx K _ _ hx HPK.out HVK.out wz hz)
   clear hfx hpx hx
   go_wp2_with fail
   refine wp_region_2 (fun w' => K.In w') (fun _ => True) 99 (by kernel_rfl) ?_
   refine tk2 (i := 0) (v := ?_) rfl hS2 (fun _ => trivial) ?hy ?_
   case hy => intro w hSw; obtain ⟨z0, z1, z2, z3, z4, z5, z6, z7, z8, z9⟩ := hSw.c10 k0 k1 k2 k3 k4 j3 c0 c1 c2 c3; go_simp <;> with_reducible rfl
   try simp only [tkS]
   refine tk2 (i := 1) (v := ?_) rfl hS2 (fun _ => trivial) ?hy ?_
   case hy => intro w hSw; obtain ⟨z0, z1, z2, z3, z4, z5, z6, z7, z8, z9⟩ := hSw.c10 k0 k1 k2 k3 k4 j3 c0 c1 c2 c3; go_simp <;> with_reducible rfl
   try simp only [tkS]
   refine tk2 (i := 2) (v := ?_) rfl hS2 (fun _ => trivial) ?hy ?_
   case hy => intro w hSw; obtain ⟨z0, z1, z2, z3, z4, z5, z6, z7, z8, z9⟩ := hSw.c10 k0 k1 k2 k3 k4 j3 c0 c1 c2 c3; go_simp <;> with_reducible rfl
   try simp only [tkS]
   refine tk2 (i := 3) (v := ?_) rfl hS2 (fun _ => trivial) ?hy ?_
   case hy => intro w hSw; obtain ⟨z0, z1, z2, z3, z4, z5, z6, z7, z8, z9⟩ := hSw.c10 k0 k1 k2 k3 k4 j3 c0 c1 c2 c3; go_simp <;> with_reducible rfl
   try simp only [tkS]
   refine tk2 (i := 4) (v := ?_) rfl hS2 (fun _ => trivial) ?hy ?_
   case hy => intro w hSw; obtain ⟨z0, z1, z2, z3, z4, z5, z6, z7, z8, z9⟩ := hSw.c10 k0 k1 k2 k3 k4 j3 c0 c1 c2 c3; go_simp <;> with_reducible rfl
   try simp only [tkS]
   refine tk2 (i := 5) (v := ?_) rfl hS2 (fun _ => trivial) ?hy ?_
   case hy => intro w hSw; obtain ⟨z0, z1, z2, z3, z4, z5, z6, z7, z8, z9⟩ := hSw.c10 k0 k1 k2 k3 k4 j3 c0 c1 c2 c3; go_simp <;> with_reducible rfl
   try simp only [tkS]
   refine tk2 (i := 6) (v := ?_) rfl hS2 (fun _ => trivial) ?hy ?_
   case hy => intro w hSw; obtain ⟨z0, z1, z2, z3, z4, z5, z6, z7, z8, z9⟩ := hSw.c10 k0 k1 k2 k3 k4 j3 c0 c1 c2 c3; go_simp <;> with_reducible rfl
   try simp only [tkS]
   refine wpAny2_one (i := 7) (o := _) (by kernel_rfl) rfl (fun K_ hK => ?_)
   go_simp
   go_at_call 45
   refine (HCL.out _ hS2).mono ?_
   rintro r w2 ⟨rfl, hb2⟩
   have hS3 : K.In w2 := hS2.below hb2
   refine hK.out _ _ (hS3) (fun _ => trivial) ?_
   clear hK K_
   try simp only [tkS]
   refine tk2 (i := 8) (v := ?_) rfl hS3 (fun _ => trivial) ?hy ?_
   case hy => intro w hSw; obtain ⟨z0, z1, z2, z3, z4, z5, z6, z7, z8, z9⟩ := hSw.c10 k0 k1 k2 k3 k4 j3 c0 c1 c2 c3; go_simp <;> with_reducible rfl
   try simp only [tkS]
   refine wpAny2_done (by kernel_rfl) ?_ _
   have HB2 := Lib.hid (HB.out.trans ((show Below wr.heap.size wr w2 from (Below.refl _ _).drew.trans hb2).mono hzr))
   have HO2 := Lib.hid (own_below HO.out (show Below wr.heap.size wr w2 from (Below.refl _ _).drew.trans hb2))
   have hz2 := HB2.out.size
   clear hb2 hS3 hS2 m0 m1 m2 m3 m4 i0 i2 i3
   have hm1 : max ((latesOf (fLate p A) (l.take k)).foldl max 0) (lateOf (fLate p A) x) = if (latesOf (fLate p A) (l.take k)).foldl max 0 < lateOf (fLate p A) x then lateOf (fLate p A) x else (latesOf (fLate p A) (l.take k)).foldl max 0 := by split <;> omega
   rw [hm1] at HLM
   clear hm1
   generalize (latesOf (fLate p A) (l.take k)).foldl max 0 = acc at *
   generalize lateOf (fLate p A) x = q at *
   go_wp2_with (at_builtin; refine app1 101 3 1 8 _ Tryd.underlying101 Tryd.infoInt rfl (by decide) _ _ rfl rfl (w.heap.size + 2) _ _ _ rfl (HO2.out.alloc _) ⟨w2.heap.size, 0, none⟩ 1 [.int .i64 q] rfl rfl ?c1 ?c2 ?c3 ?c4 ?c5 ?_)
   case c1 => exact cells1 _ _ _
   case c2 => simp [Value.oneCell']
   case c3 => omega
   case c4 => omega
   case c5 => first | omega | (simp; omega)
   intro v' w3 ho hg3
   have HO3 := Lib.hid (show w3.ownsRow (w.heap.size + 2) 3 1 v' (k + 1) ((latesOf (fLate p A) (l.take (k + 1))).map (Value.int .i64)) from by rw [HLT.out, List.map_append]; exact ho)
   have HB3 := Lib.hid ((HB2.out.alloc hz2 _).grown hg3 (by simp; omega) (fun q hq => by have := (HO2.out.lt q hq).1; omega))
   clear ho hg3
   by_cases hgt : acc < q
   ·rw [if_pos hgt] at HLM
    go_wp2_with fail
    go_roundw
    case rel => exact ⟨k + 1, by go_num, by omega, by rw [HLM.out], HB3.out, HO3.out⟩
    case measure => simp [intOf]; omega
   ·rw [if_neg hgt] at HLM
    go_wp2_with fail
    go_roundw
    case rel => exact ⟨k + 1, by go_num, by omega, by rw [HLM.out], HB3.out, HO3.out⟩
    case measure => simp [intOf]; omega
  ·obtain rfl : k = l.length := by omega
   rw [List.take_length] at HO ⊢
   have HBW := Lib.hid (HB0.out.trans (HB.out.mono (by omega)))
   have hcell : ∀ i, i < l.length → ∃ g, ra = some ⟨g, 0, none⟩ ∧ wr.cell? ⟨g, i, none⟩ = some (.int .i64 ((latesOf (fLate p A) l).getD i 0)) := fun i hi => by
    obtain ⟨g, cap, he, _, _, _, _, hc⟩ := own_shape HO.out (by omega)
    cases he
    refine ⟨g, rfl, ?_⟩
    refine hc i _ ?_
    have := latesOf_get (fLate p A) l i hi
    rw [this]
    rw [List.getElem?_map]
    rw [List.getD_eq_getElem?_getD] at this
    cases hq : (latesOf (fLate p A) l)[i]? with
    | some q => rw [hq] at this; simp at this; simp [this]
    | none =>
     have hlen : (latesOf (fLate p A) l).length = l.length := latesOf_len _ _
     rw [List.getElem?_eq_none_iff] at hq
     omega
   have HCE := Lib.hid hcell
   clear hcell
   by_cases hname : o = oName
   ·have HX := Lib.hid (show lateOf (fLate p A) (.mk o n s l) = fLate p A s from by simp only [lateOf]; rw [if_pos hname])
    have t1 : (o.toList == [110, 97, 109, 101]) = true := by rw [← dLit]; simpa using hname
    have hcs : (fInt p s = -1 ∧ fLate p A s = 0) ∨ ∃ kk : Nat, kk < p.fl.length ∧ fInt p s = (kk : Int) ∧ fLate p A s = A.getD kk 0 := by
     rcases fInt_cases p s with ⟨h1, h2⟩ | ⟨kk, h0, h1, h2⟩
     ·exact .inl ⟨h2, by simp [fLate, h1]⟩
     ·exact .inr ⟨kk, h0, h2, by simp [fLate, h1]⟩
    clear hname hfby harr hpr
    go_wp2_with fail
    refine (flowOf_any K p _ _ _ _ _ HPK.out (by omega) s wr hKr).mono ?_
    rintro r w2 ⟨rfl, hb2⟩
    have hKr2 := hKr.below hb2
    have HBW2 := Lib.hid (HBW.out.trans (hb2.mono (by have := HBW.out.size; omega)))
    clear hb2
    rcases hcs with ⟨e1, e2⟩ | ⟨kk, hkk, e1, e2⟩
    ·rw [e1]
     have HY := Lib.hid e2
     clear e1 e2
     go_wp2_with fail
     go_ret
     exact ⟨ret_int (by rw [HX.out, HY.out]), HBW2.out⟩
    ·rw [e1]
     have hkA : kk < A.length := by rw [HA.out]; exact hkk
     obtain ⟨bA, oA, hbA, _, a0⟩ := SlV.at HVK.out hkA
     cases hbA
     have a0 : K.cell bA (oA + kk * 1 + 0) = some (.int .i64 A[kk]) := a0
     simp only [Nat.mul_one, Nat.add_zero] at a0
     have a0 := hKr2.cell a0
     have HY := Lib.hid (show fLate p A s = A[kk] from by rw [e2, List.getD_eq_getElem?_getD, List.getElem?_eq_getElem hkA]; rfl)
     have hkI : (kk : Int) < p.fl.length := by omega
     generalize A[kk] = q at *
     clear e1 e2
     go_wp2_with fail
     go_ret
     exact ⟨ret_int (by rw [HX.out, HY.out]), HBW2.out⟩
   ·have t1 : (o.toList == [110, 97, 109, 101]) = false := not_lit _ hname
    by_cases hpre : o = oPre
    ·have t2 : (o.toList == [112, 114, 101]) = true := by rw [← dLit]; simpa using hpre
     have h1 := hpr hpre
     obtain ⟨g, rfl, n0⟩ := HCE.out 0 (by omega)
     have hb1 := HBD.out l[0]
     rw [latesOf_get _ l 0 (by omega)] at n0
     have HX := Lib.hid (show lateOf (fLate p A) (.mk o n s l) = min (2 : Int) (lateOf (fLate p A) l[0] + 1) from by simp only [lateOf]; rw [if_neg hname, if_pos hpre, latesOf_get _ l 0 (by omega)])
     generalize lateOf (fLate p A) l[0] = q at *
     have hgt : (0 : Int) < l.length := by omega
     rcases (show q = 2 ∨ q ≠ 2 from by omega) with rfl | hq
     ·go_wp2_with fail
      go_ret
      exact ⟨ret_int (by rw [HX.out]; rfl), HBW.out⟩
     ·have hqq : (q == 2) = false := by simpa using hq
      go_wp2_with fail
      go_ret
      exact ⟨ret_int (by rw [HX.out]; omega), HBW.out⟩
    ·have t2 : (o.toList == [112, 114, 101]) = false := not_lit _ hpre
     by_cases hab : o = oArrow ∨ o = oFby
     ·have h2 : l.length = 2 := by rcases hab with h | h; exact harr h; exact hfby h
      obtain ⟨g, rfl, n0⟩ := HCE.out 0 (by omega)
      obtain ⟨g', hg', n1⟩ := HCE.out 1 (by omega)
      cases hg'
      have hb0 := HBD.out l[0]
      have hb1 := HBD.out l[1]
      rw [latesOf_get _ l 0 (by omega)] at n0
      rw [latesOf_get _ l 1 (by omega)] at n1
      have HX := Lib.hid (show lateOf (fLate p A) (.mk o n s l) = (if (if o = oFby then min (2 : Int) (lateOf (fLate p A) l[1] + 1) else lateOf (fLate p A) l[1]) = 2 then 2 else lateOf (fLate p A) l[0]) from by
       simp only [lateOf]; rw [if_neg hname, if_neg hpre, if_pos hab, latesOf_get _ l 0 (by omega), latesOf_get _ l 1 (by omega)])
      have hway : ((o.toList == [45, 62]) = true ∧ (o.toList == [102, 98, 121]) = false ∧ o ≠ oFby) ∨ ((o.toList == [45, 62]) = false ∧ (o.toList == [102, 98, 121]) = true ∧ o = oFby) := by
       rcases hab with h | h
       ·left; subst h; exact ⟨by rw [← dLit]; decide, by rw [← dLit]; decide, by decide⟩
       ·right; subst h; exact ⟨by rw [← dLit]; decide, by rw [← dLit]; decide, rfl⟩
      generalize lateOf (fLate p A) l[0] = q0 at *
      generalize lateOf (fLate p A) l[1] = q1 at *
      have hgt : (0 : Int) < l.length := by omega
      have hgt1 : (1 : Int) < l.length := by omega
      clear hname hpre hab hfby harr hpr
      rcases hway with ⟨t3, t4, hof⟩ | ⟨t3, t4, hof⟩
      all_goals
       have HOF := Lib.hid hof
       clear hof
       go_wp2_with fail
      all_goals go_ret
      all_goals refine ⟨ret_int ?_, HBW.out⟩
      all_goals rw [HX.out]
      all_goals (first | rw [if_neg HOF.out] | rw [if_pos HOF.out])
      all_goals (first | omega | (split <;> first | omega | (simp_all; omega) | simp_all))
     ·have t3 : (o.toList == [45, 62]) = false := not_lit _ (fun h => hab (.inl h))
      have t4 : (o.toList == [102, 98, 121]) = false := not_lit _ (fun h => hab (.inr h))
      have HX := Lib.hid (show lateOf (fLate p A) (.mk o n s l) = (latesOf (fLate p A) l).foldl max 0 from by simp only [lateOf]; rw [if_neg hname, if_neg hpre, if_neg hab])
      clear hname hpre hab hfby harr hpr
      go_wp2_with fail
      go_ret
      exact ⟨ret_int HX.out.symm, HBW.out⟩
end Go.Proofs.YthejomlhmdeimaaDoor
namespace Go.Proofs.YthejomlhmdeimaaDoor
set_option maxRecDepth 100000
set_option maxHeartbeats 16000000
open Go.RowKit Mx
theorem fIdx_name {p : Pr} (hn : (p.fl.map (·.name)).Nodup) (i : Nat) (hi : i < p.fl.length) : fIdx p p.fl[i].name = some i := by
 unfold fIdx
 rw [List.findIdx?_eq_some_iff_getElem]
 refine ⟨hi, by simp, fun j hj => ?_⟩
 have hne : p.fl[j].name ≠ p.fl[i].name := fun e => by
  have := List.pairwise_iff_getElem.1 hn j i (by simp; omega) (by simpa using hi) hj
  simp at this
  exact this e
 simpa using hne
theorem fIdx_lt {p : Pr} {s : ByteArray} {k : Nat} (h : fIdx p s = some k) : ∃ hk : k < p.fl.length, p.fl[k].name = s := by
 unfold fIdx at h
 rw [List.findIdx?_eq_some_iff_getElem] at h
 obtain ⟨hk, h1, _⟩ := h
 exact ⟨hk, by simpa using h1⟩
theorem fLate_set {p : Pr} (hn : (p.fl.map (·.name)).Nodup) (A : List Int) (hA : A.length = p.fl.length) (i : Nat) (hi : i < p.fl.length) (n : Int) : fLate p (A.set i n) = setL (fLate p A) p.fl[i].name n := by
 funext s
 unfold fLate setL
 by_cases hs : s = p.fl[i].name
 ·subst hs
  rw [if_pos rfl, fIdx_name hn i hi]
  simp [List.getD_eq_getElem?_getD, hA, hi]
 ·rw [if_neg hs]
  cases hf : fIdx p s with
  | none => simp [hf]
  | some k =>
   obtain ⟨hk, he⟩ := fIdx_lt hf
   have hne : i ≠ k := fun e => by subst e; exact hs he.symm
   simp [hf, List.getD_eq_getElem?_getD, List.getElem?_set, hne]
theorem fLate_get {p : Pr} (hn : (p.fl.map (·.name)).Nodup) (A : List Int) (hA : A.length = p.fl.length) (i : Nat) (hi : i < p.fl.length) : fLate p A p.fl[i].name = A[i]'(by omega) := by
 unfold fLate
 rw [fIdx_name hn i hi]
 simp [List.getD_eq_getElem?_getD, hA, hi]
theorem fLate_zero (p : Pr) (n : Nat) : fLate p (List.replicate n 0) = fun _ => 0 := by
 funext s
 unfold fLate
 cases fIdx p s with
 | none => rfl
 | some k =>
  simp only [List.getD_eq_getElem?_getD, List.getElem?_replicate]
  split <;> rfl
def intsA (A : List Int) : Array Value := (A.map (Value.int .i64)).toArray
theorem intsA_get (A : List Int) (i : Nat) (h : i < A.length) : (intsA A)[i]? = some (.int .i64 A[i]) := by simp [intsA, h]
theorem intsA_set (A : List Int) (i : Nat) (n : Int) : (intsA A).setIfInBounds i (.int .i64 n) = intsA (A.set i n) := by simp [intsA, List.map_set]
theorem made_ints (n : Nat) : madeCells #[.int .i64 0] n = intsA (List.replicate n 0) := by
 apply Array.ext_getElem?
 intro j
 by_cases hj : j < n
 ·rw [intsA_get _ j (by simpa using hj)]
  simp [madeCells, hj, Nat.mod_one]
 ·rw [Array.getElem?_eq_none (by simp [madeCells]; omega), Array.getElem?_eq_none (by simp [intsA]; omega)]
theorem sints_of_block {K : Kn} {D : Nat} {A : List Int} {t : TypeId} (h : K D = some (.cells (intsA A) t (0, 0))) (hl : A.length ≤ maxLen) : SIntsV K A (.slice (some ⟨D, 0, none⟩) A.length A.length) := by
 by_cases h0 : A = []
 ·exact .inl ⟨h0, _, _, by rw [h0]; rfl⟩
 ·refine .inr ⟨D, 0, _, rfl, Nat.le_refl _, hl, fun i hi => ?_⟩
  show K.cell D (0 + i * 1 + 0) = some (Value.int .i64 A[i])
  simp only [Nat.zero_add, Nat.mul_one, Nat.add_zero]
  unfold Kn.cell
  rw [h]
  exact intsA_get A i hi
structure LatS (w wr : World) (K : Kn) (D n : Nat) (A : List Int) : Prop where
 below : Below w.heap.size w wr
 isin : K.In wr
 blk : wr.heap[D]? = some (.cells (intsA A) 3 (0, 0))
 len : A.length = n
 bd : ∀ x ∈ A, 0 ≤ x ∧ x ≤ 2
theorem LatS.next {w wr w' : World} {K : Kn} {D n : Nat} {A : List Int} (h : LatS w wr K D n A) (hb : Below wr.heap.size wr w') : LatS w w' K D n A :=
 ⟨h.below.trans (hb.mono h.below.size), h.isin.below hb, (hb.block D (Array.getElem?_eq_some_iff.1 h.blk).1).trans h.blk, h.len, h.bd⟩
theorem LatS.set {w wr : World} {K : Kn} {D n : Nat} {A : List Int} (h : LatS w wr K D n A) (hD : w.heap.size ≤ D) (hK : K D = none) (i : Nat) (x : Int) (hx : 0 ≤ x ∧ x ≤ 2) : LatS w (wr.setCell ⟨D, i, none⟩ (.int .i64 x)) K D n (A.set i x) :=
 ⟨h.below.setCell (p := ⟨D, i, none⟩) hD _, h.isin.setCell (a := ⟨D, i, none⟩) hK _, by rw [← intsA_set]; exact heap_setCell_same _ _ _ _ _ _ _ h.blk, by rw [List.length_set]; exact h.len, fun y hy => by
  rcases List.mem_or_eq_of_mem_set hy with h1 | h1
  ·exact h.bd y h1
  ·rw [h1]; exact hx⟩
theorem lateFlows_any (H : Kn) (p : Pr) (vi vo vl va vc : Value) (hp : PrP H p vi vo vl va vc) (ks : Env Int) (hfm : ∀ f ∈ p.fl, formAll ks f.e = true) (hnd : (p.fl.map (·.name)).Nodup) (hn : p.fl.length ≤ 1000000) (hpt : Ex.partsL p.terms ≤ 1000000000) (w : World) (hH : H.In w) :
  Calls Tryd.prog 43 #[.agg #[vi, vo, vl, va, vc]] w fun r w' => ∃ A vA, r = .returned vA ∧ A.length = p.fl.length ∧ fLate p A = namesM p ∧ (∀ x ∈ A, 0 ≤ x ∧ x ≤ 2) ∧ SIntsV (allKn w') A vA ∧ Below w.heap.size w w' := by
 have HP := Lib.hid hp
 obtain ⟨h1, h2, h3, h4, h5⟩ := hp
 obtain ⟨ai, ci, rfl⟩ := h1.len
 obtain ⟨ao, co, rfl⟩ := h2.len
 obtain ⟨al, cl, rfl⟩ := h3.len
 obtain ⟨aa, ca, rfl⟩ := h4.len
 obtain ⟨ac, cc, rfl⟩ := h5.len
 clear h1 h2 h3 h4 h5
 have hmk := run_make_row' (P := Tryd.prog) 101 3 (.int .i64 0) 8 Tryd.underlying101 Tryd.infoInt rfl .i64 .i64 p.fl.length (by omega) (by omega)
 have hb0 : Below w.heap.size w (w.alloc (.cells #[.slice ai p.ins.length ci, .slice ao p.outs.length co, .slice al p.fl.length cl, .slice aa p.as.length ca, .slice ac p.cs.length cc] 45)) := (Below.refl _ _).alloc (Nat.le_refl _) _
 obtain ⟨K, hKe⟩ : ∃ K, K = H.add w.heap.size (.cells #[.slice ai p.ins.length ci, .slice ao p.outs.length co, .slice al p.fl.length cl, .slice aa p.as.length ca, .slice ac p.cs.length cc] 45 (0, 0)) := ⟨_, rfl⟩
 have hKle : H.le K := by rw [hKe]; exact Kn.le_add (hH.isNone (Nat.le_refl _))
 have hKin : K.In (w.alloc (.cells #[.slice ai p.ins.length ci, .slice ao p.outs.length co, .slice al p.fl.length cl, .slice aa p.as.length ca, .slice ac p.cs.length cc] 45)) := by rw [hKe]; exact (hH.below hb0).add (heap_alloc_new w _)
 have hKD : K (w.heap.size + 1) = none := by rw [hKe, Kn.add_other _ _ (by omega)]; exact hH.isNone (by omega)
 have hcP : ∀ i, K.cell w.heap.size i = (#[.slice ai p.ins.length ci, .slice ao p.outs.length co, .slice al p.fl.length cl, .slice aa p.as.length ca, .slice ac p.cs.length cc] : Array Value)[i]? := fun i => by unfold Kn.cell; rw [hKe, Kn.add_self]
 have k0 : K.cell w.heap.size 0 = some (.slice ai p.ins.length ci) := hcP 0
 have k1 : K.cell w.heap.size 1 = some (.slice ao p.outs.length co) := hcP 1
 have k2 : K.cell w.heap.size 2 = some (.slice al p.fl.length cl) := hcP 2
 have k3 : K.cell w.heap.size 3 = some (.slice aa p.as.length ca) := hcP 3
 have k4 : K.cell w.heap.size 4 = some (.slice ac p.cs.length cc) := hcP 4
 have HPK := Lib.hid (HP.out.le hKle)
 have HS0 := Lib.hid (show LatS w ((w.alloc (.cells #[.slice ai p.ins.length ci, .slice ao p.outs.length co, .slice al p.fl.length cl, .slice aa p.as.length ca, .slice ac p.cs.length cc] 45)).alloc (.cells (madeCells #[.int .i64 0] p.fl.length) 3)) K (w.heap.size + 1) p.fl.length (List.replicate p.fl.length 0) from
  ⟨hb0.alloc (by simp) _, hKin.alloc _, by rw [show w.heap.size + 1 = (w.alloc (.cells #[.slice ai p.ins.length ci, .slice ao p.outs.length co, .slice al p.fl.length cl, .slice aa p.as.length ca, .slice ac p.cs.length cc] 45)).heap.size from by simp, made_ints]; exact heap_alloc_new _ _, by simp, fun x hx => by rw [(List.mem_replicate.1 hx).2]; omega⟩)
 have HM0 := Lib.hid (show namesN p.fl (2 * p.fl.length + 1) (fLate p (List.replicate p.fl.length 0)) = namesM p from by rw [fLate_zero]; rfl)
 have HMU := Lib.hid (show mu (fLate p (List.replicate p.fl.length 0)) p.fl < 2 * p.fl.length + 1 from by rw [fLate_zero]; have := mu_zero p.fl; omega)
 have HFM := Lib.hid hfm
 have HND := Lib.hid hnd
 clear hcP hKe hb0 hKin HP hKle hfm hnd
 go_enter Tryd.func43, Tryd.ntmps43
 go_wp2_with fail
 go_loopg [4, 5, 6] (2 * p.fl.length + 1) (fun f u4 u5 u6 wr => ∃ A b, u4 = .bool b ∧ LatS w wr K (w.heap.size + 1) p.fl.length A ∧ ((b = true ∧ namesN p.fl f (fLate p A) = namesM p ∧ mu (fLate p A) p.fl < f) ∨ (b = false ∧ fLate p A = namesM p)))
 case atStart => exact ⟨_, true, rfl, HS0.out, .inl ⟨rfl, HM0.out, HMU.out⟩⟩
 case round =>
  obtain ⟨A, b, rfl, hS, hway⟩ := hrel
  have HS := Lib.hid hS
  have HWAY := Lib.hid hway
  clear hS hway
  cases b with
  | true =>
   go_wp2_with fail
   go_loopw [4, 5, 6] (fun u4 i u6 wr => ∃ (k : Nat) (A' : List Int) (b : Bool), i = .int .i64 k ∧ u4 = .bool b ∧ k ≤ p.fl.length ∧ LatS w wr K (w.heap.size + 1) p.fl.length A' ∧ namesRound p.fl (fLate p A) false = namesRound (p.fl.drop k) (fLate p A') b ∧ (∀ s, fLate p A s ≤ fLate p A' s) ∧ (b = true → ∃ f ∈ p.fl, fLate p A f.name < fLate p A' f.name)) (fun _ i _ _ => p.fl.length - (intOf i).toNat)
   case atStart => exact ⟨0, A, false, rfl, rfl, Nat.zero_le _, HS.out, by simp, fun s => Int.le_refl _, fun h => by cases h⟩
   case round =>
    obtain ⟨k, A', b, rfl, rfl, hk, hS', hrd, hle, hgain⟩ := hrel
    have HS' := Lib.hid hS'
    have HRD := Lib.hid hrd
    have HLE := Lib.hid hle
    have HGAIN := Lib.hid hgain
    have m2 := hS'.isin.cell k2
    clear hS' hrd hle hgain
    by_cases hkl : k < p.fl.length
    ·have hkI : (k : Int) < p.fl.length := by omega
     obtain ⟨bb, off, cap0, he, _, _, hcs⟩ := FlsV.cell HPK.out.fl (fun e => by rw [e] at hkl; simp at hkl)
     cases he
     obtain ⟨ax, cx, d0, d1, d2, d3, d4, d5, hx⟩ := hcs k hkl
     have hpx : p.fl[k].e.parts ≤ 1000000000000 := by
      have h1 := getElem_parts (p.fl.map (·.e)) k (by simpa using hkl)
      unfold Pr.terms at hpt
      rw [List.append_assoc, partsL_append] at hpt
      simp at h1
      omega
     have hfx := HFM.out _ (List.getElem_mem hkl)
     have HMEM := Lib.hid (List.getElem_mem hkl)
     have HDR := Lib.hid (drop_round hkl (fLate p A') b)
     have HGE := Lib.hid (fLate_get HND.out A' HS'.out.len k hkl)
     have HST := Lib.hid (fun n => fLate_set HND.out A' HS'.out.len k hkl n)
     have hlb := late_bound (fLate p A') (fLate_bound p A' HS'.out.bd) p.fl[k].e
     have HCL := Lib.hid (fun (wz : World) (hz : LatS w wz K (w.heap.size + 1) p.fl.length A') => lateR_any p _ _ _ _ _ A' HS'.out.len HS'.out.bd hn ks p.fl[k].e hfx hpx (K.add (w.heap.size + 1) (.cells (intsA A') 3 (0, 0))) (.agg #[.string p.fl[k].e.op, .int .i64 p.fl[k].e.n, .string p.fl[k].e.s, .slice ax p.fl[k].e.l.length cx]) (.slice (some ⟨w.heap.size + 1, 0, none⟩) p.fl.length p.fl.length)
      ⟨_, rfl, hx.le (Kn.le_add hKD)⟩ (HPK.out.le (Kn.le_add hKD)) (HS'.out.len ▸ sints_of_block (Kn.add_self _ _ _) (by rw [HS'.out.len]; unfold maxLen; omega)) wz (hz.isin.add hz.blk))
     have hS2 := HS'.out.next ((Below.refl _ wr).drew)
     clear hfx hpx hx hcs d0 d1
     have hkA : k < A'.length := by rw [HS'.out.len]; exact hkl
     generalize hak : A'[k] = ak at *
     have HAK := Lib.hid hak
     clear hak
     generalize hxe : p.fl[k] = x at *
     clear hxe
     go_wp2_with fail
     refine wp_region_2 (fun w' => LatS w w' K (w.heap.size + 1) p.fl.length A') (fun _ => True) 99 (by kernel_rfl) ?_
     refine tk2 (i := 0) (v := ?_) rfl hS2 (fun _ => trivial) ?hy ?_
     case hy => intro w hSw; have z0 := hSw.isin.cell k0; have z1 := hSw.isin.cell k1; have z2 := hSw.isin.cell k2; have z3 := hSw.isin.cell k3; have z4 := hSw.isin.cell k4; have z5 := hSw.isin.cell d2; have z6 := hSw.isin.cell d3; have z7 := hSw.isin.cell d4; have z8 := hSw.isin.cell d5; go_simp <;> with_reducible rfl
     try simp only [tkS]
     refine tk2 (i := 1) (v := ?_) rfl hS2 (fun _ => trivial) ?hy ?_
     case hy => intro w hSw; have z0 := hSw.isin.cell k0; have z1 := hSw.isin.cell k1; have z2 := hSw.isin.cell k2; have z3 := hSw.isin.cell k3; have z4 := hSw.isin.cell k4; have z5 := hSw.isin.cell d2; have z6 := hSw.isin.cell d3; have z7 := hSw.isin.cell d4; have z8 := hSw.isin.cell d5; go_simp <;> with_reducible rfl
     try simp only [tkS]
     refine tk2 (i := 2) (v := ?_) rfl hS2 (fun _ => trivial) ?hy ?_
     case hy => intro w hSw; have z0 := hSw.isin.cell k0; have z1 := hSw.isin.cell k1; have z2 := hSw.isin.cell k2; have z3 := hSw.isin.cell k3; have z4 := hSw.isin.cell k4; have z5 := hSw.isin.cell d2; have z6 := hSw.isin.cell d3; have z7 := hSw.isin.cell d4; have z8 := hSw.isin.cell d5; go_simp <;> with_reducible rfl
     try simp only [tkS]
     refine tk2 (i := 3) (v := ?_) rfl hS2 (fun _ => trivial) ?hy ?_
     case hy => intro w hSw; have z0 := hSw.isin.cell k0; have z1 := hSw.isin.cell k1; have z2 := hSw.isin.cell k2; have z3 := hSw.isin.cell k3; have z4 := hSw.isin.cell k4; have z5 := hSw.isin.cell d2; have z6 := hSw.isin.cell d3; have z7 := hSw.isin.cell d4; have z8 := hSw.isin.cell d5; go_simp <;> with_reducible rfl
     try simp only [tkS]
     refine tk2 (i := 4) (v := ?_) rfl hS2 (fun _ => trivial) ?hy ?_
     case hy => intro w hSw; have z0 := hSw.isin.cell k0; have z1 := hSw.isin.cell k1; have z2 := hSw.isin.cell k2; have z3 := hSw.isin.cell k3; have z4 := hSw.isin.cell k4; have z5 := hSw.isin.cell d2; have z6 := hSw.isin.cell d3; have z7 := hSw.isin.cell d4; have z8 := hSw.isin.cell d5; go_simp <;> with_reducible rfl
     try simp only [tkS]
     refine tk2 (i := 5) (v := ?_) rfl hS2 (fun _ => trivial) ?hy ?_
     case hy => intro w hSw; have z0 := hSw.isin.cell k0; have z1 := hSw.isin.cell k1; have z2 := hSw.isin.cell k2; have z3 := hSw.isin.cell k3; have z4 := hSw.isin.cell k4; have z5 := hSw.isin.cell d2; have z6 := hSw.isin.cell d3; have z7 := hSw.isin.cell d4; have z8 := hSw.isin.cell d5; go_simp <;> with_reducible rfl
     try simp only [tkS]
     refine tk2 (i := 6) (v := ?_) rfl hS2 (fun _ => trivial) ?hy ?_
     case hy => intro w hSw; have z0 := hSw.isin.cell k0; have z1 := hSw.isin.cell k1; have z2 := hSw.isin.cell k2; have z3 := hSw.isin.cell k3; have z4 := hSw.isin.cell k4; have z5 := hSw.isin.cell d2; have z6 := hSw.isin.cell d3; have z7 := hSw.isin.cell d4; have z8 := hSw.isin.cell d5; go_simp <;> with_reducible rfl
     try simp only [tkS]
     refine tk2 (i := 7) (v := ?_) rfl hS2 (fun _ => trivial) ?hy ?_
     case hy => intro w hSw; have z0 := hSw.isin.cell k0; have z1 := hSw.isin.cell k1; have z2 := hSw.isin.cell k2; have z3 := hSw.isin.cell k3; have z4 := hSw.isin.cell k4; have z5 := hSw.isin.cell d2; have z6 := hSw.isin.cell d3; have z7 := hSw.isin.cell d4; have z8 := hSw.isin.cell d5; go_simp <;> with_reducible rfl
     try simp only [tkS]
     refine wpAny2_one (i := 8) (o := _) (by kernel_rfl) rfl (fun K_ hK => ?_)
     go_simp
     go_at_call 45
     refine (HCL.out _ hS2).mono ?_
     rintro r w2 ⟨rfl, hb2⟩
     have hS3 := hS2.next hb2
     refine hK.out _ _ (hS3) (fun _ => trivial) ?_
     clear hK K_
     try simp only [tkS]
     refine tk2 (i := 9) (v := ?_) rfl hS3 (fun _ => trivial) ?hy ?_
     case hy => intro w hSw; have z0 := hSw.isin.cell k0; have z1 := hSw.isin.cell k1; have z2 := hSw.isin.cell k2; have z3 := hSw.isin.cell k3; have z4 := hSw.isin.cell k4; have z5 := hSw.isin.cell d2; have z6 := hSw.isin.cell d3; have z7 := hSw.isin.cell d4; have z8 := hSw.isin.cell d5; go_simp <;> with_reducible rfl
     try simp only [tkS]
     refine wpAny2_done (by kernel_rfl) ?_ _
     have HS3 := Lib.hid hS3
     have hcD : w2.cell? ⟨w.heap.size + 1, k, none⟩ = some (.int .i64 ak) := by
      have h := hS3.blk
      simp only [World.cell?, h]
      rw [← HAK.out]
      exact intsA_get A' k hkA
     have hfD : w2.frozen? ⟨w.heap.size + 1, k, none⟩ = false := by have h := hS3.blk; simp [World.frozen?, h]
     clear hb2 hS3 hS2
     generalize lateOf (fLate p A') x.e = q at *
     rw [HGE.out] at HDR
     by_cases hlt : ak < q
     ·rw [if_pos hlt, ← HST.out] at HDR
      have HN := Lib.hid (HS3.out.set (by omega) hKD k q hlb)
      have HLE2 := Lib.hid (show ∀ s, fLate p A s ≤ fLate p (A'.set k q) s from fun s => by
       rw [HST.out]
       unfold setL
       split
       ·rename_i he
        have := HLE.out s
        rw [he, HGE.out] at this
        rw [he]
        omega
       ·exact HLE.out s)
      have HGN := Lib.hid (show fLate p A x.name < fLate p (A'.set k q) x.name from by
       rw [HST.out]
       have := HLE.out x.name
       rw [HGE.out] at this
       simp only [setL, if_true]
       omega)
      go_wp2_with fail
      go_roundw
      case rel => exact ⟨k + 1, _, true, by go_num, rfl, by omega, HN.out, by rw [HRD.out, HDR.out], HLE2.out, fun _ => ⟨_, HMEM.out, HGN.out⟩⟩
      case measure => simp [intOf]; omega
     ·rw [if_neg hlt] at HDR
      go_wp2_with fail
      go_roundw
      case rel => exact ⟨k + 1, A', b, by go_num, rfl, by omega, HS3.out, by rw [HRD.out, HDR.out], HLE.out, HGAIN.out⟩
      case measure => simp [intOf]; omega
    ·obtain rfl : k = p.fl.length := by omega
     have HR := Lib.hid (show namesRound p.fl (fLate p A) false = (fLate p A', b) from by rw [HRD.out, List.drop_length]; rfl)
     go_wp2_with fail
     go_roundg (gk - 1)
     case rel =>
      rcases HWAY.out with ⟨_, hstep, hm⟩ | ⟨h, _⟩
      ·obtain ⟨g', rfl⟩ : ∃ g', gk = g' + 1 := ⟨gk - 1, by omega⟩
       rw [namesN_step, HR.out] at hstep
       cases b with
       | true =>
        obtain ⟨f, hf, hgt⟩ := HGAIN.out rfl
        have := mu_lt (fLate p A) (fLate p A') HLE.out (fun s => (fLate_bound p A' HS'.out.bd s).2) p.fl f hf hgt
        exact ⟨A', true, rfl, HS'.out, .inl ⟨rfl, hstep, by omega⟩⟩
       | false => exact ⟨A', false, rfl, HS'.out, .inr ⟨rfl, hstep⟩⟩
      ·cases h
     case measure =>
      rcases HWAY.out with ⟨_, _, hm⟩ | ⟨h, _⟩
      ·omega
      ·cases h
  | false =>
   go_wp2_with fail
   go_ret
   rcases HWAY.out with ⟨h, _⟩ | ⟨_, h⟩
   ·cases h
   ·exact ⟨A, _, rfl, HS.out.len, h, HS.out.bd, HS.out.len ▸ sints_of_block (K := allKn wr) HS.out.blk (by rw [HS.out.len]; unfold maxLen; omega), HS.out.below⟩
end Go.Proofs.YthejomlhmdeimaaDoor
