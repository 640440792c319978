/- Walks: slices.Grow (of nil), slices.Concat at terms. -/
import Derived.Test.YtdceonkbckmjdaaDoorParts
import Derived.Test.YtdceonkbckmjdaaDoorOwn
import Derived.Test.YtdceonkbckmjdaaDoorFormA
import Derived.Lib.AppendZeros
namespace Go.Proofs.YtdceonkbckmjdaaDoor
open Go.RowKit Mx

theorem Tryd.infoEx : (Tryd.prog.info? 57).map (fun i => (i.zero, i.size, i.bytes)) = some (some (.agg #[.string ⟨#[]⟩, .int .i64 0, .string ⟨#[]⟩, .slice none 0 0]), 4, 64) := by kernel_rfl

/-- Terms' cells, one behind the other. -/
def XsAt (H : Kn) : List Ex → List Value → Prop
  | [], xs => xs = []
  | e :: l, xs => ∃ a c r, xs = .string e.op :: .int .i64 e.n :: .string e.s :: .slice a e.l.length c :: r ∧ ExsV H e.l (.slice a e.l.length c) ∧ XsAt H l r
theorem XsAt.append {H : Kn} : ∀ {l m : List Ex} {xs ys : List Value}, XsAt H l xs → XsAt H m ys → XsAt H (l ++ m) (xs ++ ys)
  | [], _, _, _, h, k => by rw [show _ = [] from h]; exact k
  | e :: l, m, xs, ys, h, k => by
    obtain ⟨a, c, r, rfl, h1, h2⟩ := h
    exact ⟨a, c, r ++ ys, rfl, h1, h2.append k⟩
theorem XsAt.len {H : Kn} : ∀ {l : List Ex} {xs : List Value}, XsAt H l xs → xs.length = l.length * 4
  | [], _, h => by rw [show _ = [] from h]; rfl
  | e :: l, xs, h => by
    obtain ⟨a, c, r, rfl, h1, h2⟩ := h
    have := h2.len
    simp only [List.length_cons]; omega
theorem XsAt.one {H : Kn} : ∀ {l : List Ex} {xs : List Value}, XsAt H l xs → ∀ u ∈ xs, u.oneCell' = true
  | [], _, h, u, hu => by rw [show _ = [] from h] at hu; cases hu
  | e :: l, xs, h, u, hu => by
    obtain ⟨a, c, r, rfl, h1, h2⟩ := h
    simp only [List.mem_cons] at hu
    rcases hu with rfl | rfl | rfl | rfl | hu
    · rfl
    · rfl
    · rfl
    · rfl
    · exact h2.one u hu
/-- The cells of terms in known memory. -/
theorem ExsAt.xs {H : Kn} : ∀ {l : List Ex} {b off : Nat}, ExsAt H l b off → ∃ xs, XsAt H l xs ∧ ∀ j u, xs[j]? = some u → H.cell b (off + j) = some u
  | [], b, off, _ => ⟨[], rfl, fun j u h => by simp at h⟩
  | e :: l, b, off, h => by
    simp only [ExsAt] at h
    obtain ⟨u, a0, a1, a2, a3, hu⟩ := h.1.cells
    obtain ⟨a, c, rfl⟩ := hu.len
    obtain ⟨r, h1, h2⟩ := ExsAt.xs h.2
    refine ⟨_, ⟨a, c, r, rfl, hu, h1⟩, fun j v hj => ?_⟩
    match j, hj with
    | 0, hj => simp at hj; rw [← hj]; exact a0
    | 1, hj => simp at hj; rw [← hj]; exact a1
    | 2, hj => simp at hj; rw [← hj]; exact a2
    | 3, hj => simp at hj; rw [← hj]; exact a3
    | j + 4, hj =>
      have := h2 j v (by simpa using hj)
      rw [show off + (j + 4) = off + 4 + j from by omega]
      exact this
/-- Terms out of their cells. -/
theorem XsAt.at {H H' : Kn} (hle : H.le H') : ∀ {l : List Ex} {xs : List Value} {b off : Nat}, XsAt H l xs → (∀ j u, xs[j]? = some u → H'.cell b (off + j) = some u) → ExsAt H' l b off
  | [], _, _, _, _, _ => by simp only [ExsAt]
  | e :: l, xs, b, off, h, k => by
    obtain ⟨a, c, r, rfl, h1, h2⟩ := h
    simp only [ExsAt]
    refine ⟨ExAt.mk (k 0 _ rfl) (k 1 _ rfl) (k 2 _ rfl) (k 3 _ rfl) (h1.le hle), h2.at hle fun j u hj => ?_⟩
    rw [show off + 4 + j = off + (j + 4) from by omega]
    exact k (j + 4) u (by simpa using hj)
/-- A row of the call's own that holds terms' cells reads as those terms. -/
theorem exsV_of_row {H : Kn} {w : World} {base : Nat} {t : TypeId} {v : Value} {l : List Ex} {xs : List Value} (hH : H.In w) (h : w.ownsRow base t 4 v l.length xs) (hx : XsAt H l xs) : ExsV (allKn w) l v := by
  have hle : H.le (allKn w) := fun b o e => hH b o e
  by_cases h0 : l = []
  · obtain ⟨a, c, h1, _⟩ := own_len h
    exact .inl ⟨h0, a, c, by rw [h1, h0]; rfl⟩
  · obtain ⟨g, cap, h1, h2, h3, _, _, h4⟩ := own_shape h (List.length_pos_iff.2 h0)
    exact .inr ⟨g, 0, cap, h1, h2, h3, hx.at hle fun j u hj => by rw [allKn_cell, Nat.zero_add]; exact h4 j u hj⟩

set_option maxRecDepth 100000 in
theorem grow_nil (n : Nat) (hn : n ≤ 1000000000) (w : World) :
    Calls Tryd.prog 77 #[.slice none 0 0, .int .i64 n] w fun r w' => ∃ v, r = .returned v ∧ w'.ownsRow w.heap.size 57 4 v 0 [] ∧ Below w.heap.size w w' := by
  obtain ⟨i0, hi, hz0, hz1, hz2⟩ := info_parts Tryd.infoEx
  by_cases h0 : n = 0
  · subst h0
    clear hn
    go_enter Tryd.func77, Tryd.ntmps77
    go_wp2_with fail
    go_ret
    exact ⟨_, rfl, World.ownsRow_nil _ _ _ _, Below.refl _ _⟩
  · have hrun := fun ty => Lib.run_append_nil_zeros (P := Tryd.prog) w 32 3 ty 57 i0 _ .i64 .i64 Tryd.underlying32 Tryd.underlying3 hi hz0 n (by omega) (by rw [hz1]; omega) (by omega) (by rw [hz2]; omega)
    have hpos : (0 : Int) < n := by omega
    have hge : n ≤ grownCap w n 0 57 := grownCap_ge w n 0 _
    have hle : grownCap w n 0 57 ≤ maxLen := grownCap_le_maxLen w n 0 _ (by unfold maxLen; omega)
    have hown : (w.drew.alloc (.cells (Builtin.zeroCells (Value.agg #[.string ⟨#[]⟩, .int .i64 0, .string ⟨#[]⟩, .slice none 0 0]).cells n ++ Builtin.zeroCells (Value.agg #[.string ⟨#[]⟩, .int .i64 0, .string ⟨#[]⟩, .slice none 0 0]).cells (grownCap w n 0 57 - n)) 57)).ownsRow w.heap.size 57 4 (.slice (some ⟨w.heap.size, 0, none⟩) 0 (grownCap w n 0 57)) 0 [] :=
      World.ownsRow_made w.drew _ _ (Nat.le_refl _) hle (by rw [Array.size_append, size_zeroCells, size_zeroCells]; simp [Value.cells]; omega)
    have HO := Lib.hid hown
    have HB := Lib.hid (show Below w.heap.size w (w.drew.alloc (.cells (Builtin.zeroCells (Value.agg #[.string ⟨#[]⟩, .int .i64 0, .string ⟨#[]⟩, .slice none 0 0]).cells n ++ Builtin.zeroCells (Value.agg #[.string ⟨#[]⟩, .int .i64 0, .string ⟨#[]⟩, .slice none 0 0]).cells (grownCap w n 0 57 - n)) 57)) from ((Below.refl _ _).drew).alloc (Nat.le_refl _) _)
    clear hown
    generalize w.drew.alloc (.cells (Builtin.zeroCells (Value.agg #[.string ⟨#[]⟩, .int .i64 0, .string ⟨#[]⟩, .slice none 0 0]).cells n ++ Builtin.zeroCells (Value.agg #[.string ⟨#[]⟩, .int .i64 0, .string ⟨#[]⟩, .slice none 0 0]).cells (grownCap w n 0 57 - n)) 57) = W at *
    generalize grownCap w n 0 57 = cap at *
    unfold maxLen at hle
    have HRUN := Lib.hid hrun
    clear hrun
    go_enter Tryd.func77, Tryd.ntmps77
    go_wp2_with (at_builtin; refine wp_append_run rfl 32 3 _ _ rfl _ _ rfl rfl _ _ HRUN.out ?_)
    go_ret
    exact ⟨_, rfl, HO.out, HB.out⟩

def lensum (lss : List (List Ex)) : Nat := (lss.map List.length).sum
theorem lensum_take (lss : List (List Ex)) (k : Nat) (h : k < lss.length) : lensum (lss.take (k + 1)) = lensum (lss.take k) + lss[k].length := by
  unfold lensum
  rw [List.take_succ_eq_append_getElem h, List.map_append, List.sum_append]
  simp
theorem lensum_le : ∀ (lss : List (List Ex)) (k : Nat), lensum (lss.take k) ≤ lensum lss
  | [], k => by simp
  | l :: r, 0 => by simp [lensum]
  | l :: r, k + 1 => by
    have := lensum_le r k
    unfold lensum at this ⊢
    simp only [List.take_succ_cons, List.map_cons, List.sum_cons]; omega
theorem flatten_len (lss : List (List Ex)) : lss.flatten.length = lensum lss := by simp [lensum, List.length_flatten]
theorem addr_add' (b off j : Nat) : (⟨b, off, none⟩ : Addr).add j = ⟨b, off + j, none⟩ := by unfold Addr.add; split <;> simp_all

set_option maxHeartbeats 2000000 in
set_option maxRecDepth 100000 in
theorem concat_any (H : Kn) (lss : List (List Ex)) (vs : List Value) (B n : Nat) (w : World) (hH : H.In w) (hn : lss.length = n) (hn3 : n ≤ 1000) (hv : vs.length = n) (hB : B < w.heap.size)
    (hc : ∀ i (h : i < vs.length), w.cell? ⟨B, i, none⟩ = some vs[i]) (hs : ∀ i (h : i < lss.length) (h' : i < vs.length), ExsV H lss[i] vs[i]) (htot : lensum lss ≤ 1000000000) :
    Calls Tryd.prog 32 #[.slice (some ⟨B, 0, none⟩) n n] w fun r w' => ∃ v xs, r = .returned v ∧ w'.ownsRow w.heap.size 57 4 v lss.flatten.length xs ∧ XsAt H lss.flatten xs ∧ Below w.heap.size w w' := by
  have HC := Lib.hid hc
  have HS := Lib.hid hs
  have HN := Lib.hid hn
  have HV := Lib.hid hv
  clear hc hs hn hv
  go_enter Tryd.func32, Tryd.ntmps32
  go_wp2_with fail
  go_loop [3, 11] (fun c i => ∃ k : Nat, i = .int .i64 k ∧ k ≤ n ∧ c = .int .i64 (lensum (lss.take k))) (fun _ i => n - (intOf i).toNat)
  case atStart => exact ⟨0, rfl, Nat.zero_le _, rfl⟩
  case round =>
    obtain ⟨k, rfl, hk, rfl⟩ := hrel
    have hle := lensum_le lss k
    by_cases hkn : k < n
    · have hk1 : k < lss.length := by rw [HN.out]; exact hkn
      have hk2 : k < vs.length := by rw [HV.out]; exact hkn
      have hck := HC.out k hk2
      obtain ⟨a, c, hsl⟩ := (HS.out k hk1 hk2).len
      rw [hsl] at hck
      have hle2 := lensum_le lss (k + 1)
      have LT := Lib.hid (lensum_take lss k hk1)
      rw [LT.out] at hle2
      clear hsl
      generalize lss[k].length = m at *
      go_wp2_with fail
      go_round
      case rel => exact ⟨k + 1, by go_num, by omega, by rw [LT.out]; go_num⟩
      case measure => simp [intOf]; omega
    · obtain rfl : k = n := by omega
      rw [show lss.take k = lss from by rw [← HN.out]; exact List.take_length] at hle ⊢
      go_wp2_with fail
      refine (grow_nil (lensum lss) htot _).mono ?_
      rintro r w1 ⟨v1, rfl, hown, hb1⟩
      obtain ⟨g1, c1, rfl, _, _⟩ := own_len hown
      go_wp2_with fail
      go_loopw [6, 27] (fun u i wr => ∃ (j : Nat) (xs : List Value), i = .int .i64 j ∧ j ≤ k ∧ wr.ownsRow w.heap.size 57 4 u (lensum (lss.take j)) xs ∧ XsAt H (lss.take j).flatten xs ∧ Below w.heap.size w wr) (fun _ i _ => k - (intOf i).toNat)
      case atStart => exact ⟨0, [], rfl, Nat.zero_le _, hown, rfl, hb1⟩
      case round =>
        obtain ⟨j, xs, rfl, hj, hown, hxs, hb⟩ := hrel
        have HXS := Lib.hid hxs
        have hwr := hb.size
        clear hxs
        by_cases hjk : j < k
        · have hj1 : j < lss.length := by rw [HN.out]; exact hjk
          have hj2 : j < vs.length := by rw [HV.out]; exact hjk
          have hcj := HC.out j hj2
          rw [← hb.cell (p := ⟨B, j, none⟩) hB] at hcj
          have hsj := HS.out j hj1 hj2
          have hle2 := lensum_le lss (j + 1)
          have LT := Lib.hid (lensum_take lss j hj1)
          have FT := Lib.hid (show (lss.take (j + 1)).flatten = (lss.take j).flatten ++ lss[j] from by rw [List.take_succ_eq_append_getElem hj1, List.flatten_append, List.flatten_cons, List.flatten_nil, List.append_nil])
          rw [LT.out] at hle2
          obtain ⟨i0, hi, hz0, hz1, hz2⟩ := info_parts Tryd.infoEx
          rcases hsj with ⟨he, a, c, hsl⟩ | ⟨b, off, c, hsl, hc1, hc2, hx⟩
          · rw [hsl] at hcj
            have HRUN := Lib.hid (run_append_empty (P := Tryd.prog) 32 57 i0 Tryd.underlying32 hi hown a c)
            have LT' := Lib.hid (show lensum (lss.take (j + 1)) = lensum (lss.take j) from by rw [LT.out, he]; rfl)
            have FT' := Lib.hid (show (lss.take (j + 1)).flatten = (lss.take j).flatten from by rw [FT.out, he]; simp)
            have HOWN := Lib.hid hown
            clear hsl he hown
            go_wp2_with (at_builtin; refine wp_append_run rfl 32 32 _ _ rfl _ _ rfl rfl _ _ HRUN.out ?_)
            go_roundw
            case rel => exact ⟨j + 1, xs, by go_num, by omega, by rw [LT'.out]; exact HOWN.out, by rw [FT'.out]; exact HXS.out, hb⟩
            case measure => simp [intOf]; omega
          · rw [hsl] at hcj
            obtain ⟨ys, hy1, hy2⟩ := hx.xs
            have HY1 := Lib.hid hy1
            have HY2 := Lib.hid hy2
            have hHr := hH.below hb
            clear hsl hx hy1 hy2
            generalize lss[j] = lj at *
            go_wp2_with (at_builtin; refine wpList_append_own _ rfl _ _ 32 rfl w.heap.size 57 i0 _ 4 64 Tryd.underlying32 hi hz0 hz1 hz2 rfl (by decide) _ _ _ rfl hown ⟨b, off, none⟩ lj.length c ys rfl HY1.out.len ?c1 HY1.out.one ?c3 ?c4 hwr ?_)
            case c1 => intro q u hq; rw [addr_add']; exact hHr.cell (HY2.out q u hq)
            case c3 => unfold maxLen; omega
            case c4 => omega
            intro v' w2 hown2 hg2 _
            have hb2 := hb.grown hg2 hwr (fun q hq => (hown.lt q hq).1)
            go_wp2_with fail
            go_roundw
            case rel => exact ⟨j + 1, xs ++ ys, by go_num, by omega, by rw [LT.out]; exact hown2, by rw [FT.out]; exact HXS.out.append HY1.out, hb2⟩
            case measure => simp [intOf]; omega
        · obtain rfl : j = k := by omega
          have htk : lss.take j = lss := by rw [← HN.out]; exact List.take_length
          rw [htk] at hown HXS
          go_wp2_with fail
          go_ret
          exact ⟨_, xs, rfl, by rw [flatten_len]; exact hown, HXS.out, hb⟩
end Go.Proofs.YtdceonkbckmjdaaDoor
