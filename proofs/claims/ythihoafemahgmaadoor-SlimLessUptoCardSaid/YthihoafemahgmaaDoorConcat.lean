/- Walks: slices.Grow (of nil), slices.Concat at terms. -/
import Derived.Test.YthihoafemahgmaaDoorArity
import Derived.Test.YthihoafemahgmaaDoorMap
import Derived.Test.YthihoafemahgmaaDoorFormA
import Derived.Lib.AppendZeros
namespace Go.Proofs.YthihoafemahgmaaDoor
open Go.RowKit Mx
theorem Tryd.infoEx : (Tryd.prog.info? 45).map (fun i => (i.zero, i.size, i.bytes)) = some (some (.agg #[.string ⟨#[]⟩, .int .i64 0, .string ⟨#[]⟩, .slice none 0 0]), 4, 64) := by kernel_rfl
def XsAt (H : Kn) : List Ex → List Value → Prop
  | [], xs => xs = []
  | e :: l, xs => ∃ a c r, xs = .string e.op :: .int .i64 e.n :: .string e.s :: .slice a e.l.length c :: r ∧ ExsV H e.l (.slice a e.l.length c) ∧ XsAt H l r
theorem XsAt.append {H : Kn} : ∀ {l m : List Ex} {xs ys : List Value}, XsAt H l xs → XsAt H m ys → XsAt H (l ++ m) (xs ++ ys)
  | [], _, _, _, h, k => by rw [show _ = [] from h]; exact k
  | e :: l, m, xs, ys, h, k => by
    obtain ⟨a, c, r, rfl, h1, h2⟩ := h
    exact ⟨a, c, r ++ ys, rfl, h1, h2.append k⟩
theorem XsAt.len {H : Kn} : ∀ {l : List Ex} {xs : List Value}, XsAt H l xs → xs.length = l.length * 4
  | [], _, h => by rw [show _ = [] from h]; rfl
  | e :: l, xs, h => by
    obtain ⟨a, c, r, rfl, h1, h2⟩ := h
    have := h2.len
    simp only [List.length_cons]; omega
theorem XsAt.one {H : Kn} : ∀ {l : List Ex} {xs : List Value}, XsAt H l xs → ∀ u ∈ xs, u.oneCell' = true
  | [], _, h, u, hu => by rw [show _ = [] from h] at hu; cases hu
  | e :: l, xs, h, u, hu => by
    obtain ⟨a, c, r, rfl, h1, h2⟩ := h
    simp only [List.mem_cons] at hu
    rcases hu with rfl | rfl | rfl | rfl | hu
    · rfl
    · rfl
    · rfl
    · rfl
    · exact h2.one u hu
theorem ExsAt.xs {H : Kn} : ∀ {l : List Ex} {b off : Nat}, ExsAt H l b off → ∃ xs, XsAt H l xs ∧ ∀ j u, xs[j]? = some u → H.cell b (off + j) = some u
  | [], b, off, _ => ⟨[], rfl, fun j u h => by simp at h⟩
  | e :: l, b, off, h => by
    simp only [ExsAt] at h
    obtain ⟨u, a0, a1, a2, a3, hu⟩ := h.1.cells
    obtain ⟨a, c, rfl⟩ := hu.len
    obtain ⟨r, h1, h2⟩ := ExsAt.xs h.2
    refine ⟨_, ⟨a, c, r, rfl, hu, h1⟩, fun j v hj => ?_⟩
    match j, hj with
    | 0, hj => simp at hj; rw [← hj]; exact a0
    | 1, hj => simp at hj; rw [← hj]; exact a1
    | 2, hj => simp at hj; rw [← hj]; exact a2
    | 3, hj => simp at hj; rw [← hj]; exact a3
    | j + 4, hj =>
      have := h2 j v (by simpa using hj)
      rw [show off + (j + 4) = off + 4 + j from by omega]
      exact this
theorem XsAt.at {H H' : Kn} (hle : H.le H') : ∀ {l : List Ex} {xs : List Value} {b off : Nat}, XsAt H l xs → (∀ j u, xs[j]? = some u → H'.cell b (off + j) = some u) → ExsAt H' l b off
  | [], _, _, _, _, _ => by simp only [ExsAt]
  | e :: l, xs, b, off, h, k => by
    obtain ⟨a, c, r, rfl, h1, h2⟩ := h
    simp only [ExsAt]
    refine ⟨ExAt.mk (k 0 _ rfl) (k 1 _ rfl) (k 2 _ rfl) (k 3 _ rfl) (h1.le hle), h2.at hle fun j u hj => ?_⟩
    rw [show off + 4 + j = off + (j + 4) from by omega]
    exact k (j + 4) u (by simpa using hj)
theorem exsV_of_row {H : Kn} {w : World} {base : Nat} {t : TypeId} {v : Value} {l : List Ex} {xs : List Value} (hH : H.In w) (h : w.ownsRow base t 4 v l.length xs) (hx : XsAt H l xs) : ExsV (allKn w) l v := by
  have hle : H.le (allKn w) := fun b o e => hH b o e
  by_cases h0 : l = []
  · obtain ⟨a, c, h1, _⟩ := own_len h
    exact .inl ⟨h0, a, c, by rw [h1, h0]; rfl⟩
  · obtain ⟨g, cap, h1, h2, h3, _, _, h4⟩ := own_shape h (List.length_pos_iff.2 h0)
    exact .inr ⟨g, 0, cap, h1, h2, h3, hx.at hle fun j u hj => by rw [allKn_cell, Nat.zero_add]; exact h4 j u hj⟩
set_option maxRecDepth 100000 in
theorem grow_nil (n : Nat) (hn : n ≤ 1000000000) (w : World) :
    Calls Tryd.prog 47 #[.slice none 0 0, .int .i64 n] w fun r w' => ∃ v, r = .returned v ∧ w'.ownsRow w.heap.size 45 4 v 0 [] ∧ Below w.heap.size w w' := by
  obtain ⟨i0, hi, hz0, hz1, hz2⟩ := info_parts Tryd.infoEx
  by_cases h0 : n = 0
  · subst h0
    clear hn
    go_enter Tryd.func47, Tryd.ntmps47
    go_wp2_with fail
    go_ret
    exact ⟨_, rfl, World.ownsRow_nil _ _ _ _, Below.refl _ _⟩
  · have hrun := fun ty => Lib.run_append_nil_zeros (P := Tryd.prog) w 32 3 ty 45 i0 _ .i64 .i64 Tryd.underlying32 Tryd.underlying3 hi hz0 n (by omega) (by rw [hz1]; omega) (by omega) (by rw [hz2]; omega)
    have hpos : (0 : Int) < n := by omega
    have hge : n ≤ grownCap w n 0 45 := grownCap_ge w n 0 _
    have hle : grownCap w n 0 45 ≤ maxLen := grownCap_le_maxLen w n 0 _ (by unfold maxLen; omega)
    have hown : (w.drew.alloc (.cells (Builtin.zeroCells (Value.agg #[.string ⟨#[]⟩, .int .i64 0, .string ⟨#[]⟩, .slice none 0 0]).cells n ++ Builtin.zeroCells (Value.agg #[.string ⟨#[]⟩, .int .i64 0, .string ⟨#[]⟩, .slice none 0 0]).cells (grownCap w n 0 45 - n)) 45)).ownsRow w.heap.size 45 4 (.slice (some ⟨w.heap.size, 0, none⟩) 0 (grownCap w n 0 45)) 0 [] :=
      World.ownsRow_made w.drew _ _ (Nat.le_refl _) hle (by rw [Array.size_append, size_zeroCells, size_zeroCells]; simp [Value.cells]; omega)
    have HO := Lib.hid hown
    have HB := Lib.hid (show Below w.heap.size w (w.drew.alloc (.cells (Builtin.zeroCells (Value.agg #[.string ⟨#[]⟩, .int .i64 0, .string ⟨#[]⟩, .slice none 0 0]).cells n ++ Builtin.zeroCells (Value.agg #[.string ⟨#[]⟩, .int .i64 0, .string ⟨#[]⟩, .slice none 0 0]).cells (grownCap w n 0 45 - n)) 45)) from ((Below.refl _ _).drew).alloc (Nat.le_refl _) _)
    clear hown
    generalize w.drew.alloc (.cells (Builtin.zeroCells (Value.agg #[.string ⟨#[]⟩, .int .i64 0, .string ⟨#[]⟩, .slice none 0 0]).cells n ++ Builtin.zeroCells (Value.agg #[.string ⟨#[]⟩, .int .i64 0, .string ⟨#[]⟩, .slice none 0 0]).cells (grownCap w n 0 45 - n)) 45) = W at *
    generalize grownCap w n 0 45 = cap at *
    unfold maxLen at hle
    have HRUN := Lib.hid hrun
    clear hrun
    go_enter Tryd.func47, Tryd.ntmps47
    go_wp2_with (at_builtin; refine wp_append_run rfl 32 3 _ _ rfl _ _ rfl rfl _ _ HRUN.out ?_)
    go_ret
    exact ⟨_, rfl, HO.out, HB.out⟩
def lensum (lss : List (List Ex)) : Nat := (lss.map List.length).sum
theorem lensum_take (lss : List (List Ex)) (k : Nat) (h : k < lss.length) : lensum (lss.take (k + 1)) = lensum (lss.take k) + lss[k].length := by
  unfold lensum
  rw [List.take_succ_eq_append_getElem h, List.map_append, List.sum_append]
  simp
theorem lensum_le : ∀ (lss : List (List Ex)) (k : Nat), lensum (lss.take k) ≤ lensum lss
  | [], k => by simp
  | l :: r, 0 => by simp [lensum]
  | l :: r, k + 1 => by
    have := lensum_le r k
    unfold lensum at this ⊢
    simp only [List.take_succ_cons, List.map_cons, List.sum_cons]; omega
theorem flatten_len (lss : List (List Ex)) : lss.flatten.length = lensum lss := by simp [lensum, List.length_flatten]
theorem addr_add' (b off j : Nat) : (⟨b, off, none⟩ : Addr).add j = ⟨b, off + j, none⟩ := by unfold Addr.add; split <;> simp_all
set_option maxHeartbeats 2000000 in
set_option maxRecDepth 100000 in
theorem concat_any (H : Kn) (lss : List (List Ex)) (vs : List Value) (B n : Nat) (w : World) (hH : H.In w) (hn : lss.length = n) (hn3 : n ≤ 1000) (hv : vs.length = n) (hB : B < w.heap.size)
    (hc : ∀ i (h : i < vs.length), w.cell? ⟨B, i, none⟩ = some vs[i]) (hs : ∀ i (h : i < lss.length) (h' : i < vs.length), ExsV H lss[i] vs[i]) (htot : lensum lss ≤ 1000000000) :
    Calls Tryd.prog 18 #[.slice (some ⟨B, 0, none⟩) n n] w fun r w' => ∃ v xs, r = .returned v ∧ w'.ownsRow w.heap.size 45 4 v lss.flatten.length xs ∧ XsAt H lss.flatten xs ∧ Below w.heap.size w w' := by
  have HC := Lib.hid hc
  have HS := Lib.hid hs
  have HN := Lib.hid hn
  have HV := Lib.hid hv
  clear hc hs hn hv
  go_enter Tryd.func18, Tryd.ntmps18
  go_wp2_with fail
  go_loop [3, 11] (fun c i => ∃ k : Nat, i = .int .i64 k ∧ k ≤ n ∧ c = .int .i64 (lensum (lss.take k))) (fun _ i => n - (intOf i).toNat)
  case atStart => exact ⟨0, rfl, Nat.zero_le _, rfl⟩
  case round =>
    obtain ⟨k, rfl, hk, rfl⟩ := hrel
    have hle := lensum_le lss k
    by_cases hkn : k < n
    · have hk1 : k < lss.length := by rw [HN.out]; exact hkn
      have hk2 : k < vs.length := by rw [HV.out]; exact hkn
      have hck := HC.out k hk2
      obtain ⟨a, c, hsl⟩ := (HS.out k hk1 hk2).len
      rw [hsl] at hck
      have hle2 := lensum_le lss (k + 1)
      have LT := Lib.hid (lensum_take lss k hk1)
      rw [LT.out] at hle2
      clear hsl
      generalize lss[k].length = m at *
      go_wp2_with fail
      go_round
      case rel => exact ⟨k + 1, by go_num, by omega, by rw [LT.out]; go_num⟩
      case measure => simp [intOf]; omega
    · obtain rfl : k = n := by omega
      rw [show lss.take k = lss from by rw [← HN.out]; exact List.take_length] at hle ⊢
      go_wp2_with fail
      refine (grow_nil (lensum lss) htot _).mono ?_
      rintro r w1 ⟨v1, rfl, hown, hb1⟩
      obtain ⟨g1, c1, rfl, _, _⟩ := own_len hown
      go_wp2_with fail
      go_loopw [6, 27] (fun u i wr => ∃ (j : Nat) (xs : List Value), i = .int .i64 j ∧ j ≤ k ∧ wr.ownsRow w.heap.size 45 4 u (lensum (lss.take j)) xs ∧ XsAt H (lss.take j).flatten xs ∧ Below w.heap.size w wr) (fun _ i _ => k - (intOf i).toNat)
      case atStart => exact ⟨0, [], rfl, Nat.zero_le _, hown, rfl, hb1⟩
      case round =>
        obtain ⟨j, xs, rfl, hj, hown, hxs, hb⟩ := hrel
        have HXS := Lib.hid hxs
        have hwr := hb.size
        clear hxs
        by_cases hjk : j < k
        · have hj1 : j < lss.length := by rw [HN.out]; exact hjk
          have hj2 : j < vs.length := by rw [HV.out]; exact hjk
          have hcj := HC.out j hj2
          rw [← hb.cell (p := ⟨B, j, none⟩) hB] at hcj
          have hsj := HS.out j hj1 hj2
          have hle2 := lensum_le lss (j + 1)
          have LT := Lib.hid (lensum_take lss j hj1)
          have FT := Lib.hid (show (lss.take (j + 1)).flatten = (lss.take j).flatten ++ lss[j] from by rw [List.take_succ_eq_append_getElem hj1, List.flatten_append, List.flatten_cons, List.flatten_nil, List.append_nil])
          rw [LT.out] at hle2
          obtain ⟨i0, hi, hz0, hz1, hz2⟩ := info_parts Tryd.infoEx
          rcases hsj with ⟨he, a, c, hsl⟩ | ⟨b, off, c, hsl, hc1, hc2, hx⟩
          · rw [hsl] at hcj
            have HRUN := Lib.hid (run_append_empty (P := Tryd.prog) 32 45 i0 Tryd.underlying32 hi hown a c)
            have LT' := Lib.hid (show lensum (lss.take (j + 1)) = lensum (lss.take j) from by rw [LT.out, he]; rfl)
            have FT' := Lib.hid (show (lss.take (j + 1)).flatten = (lss.take j).flatten from by rw [FT.out, he]; simp)
            have HOWN := Lib.hid hown
            clear hsl he hown
            go_wp2_with (at_builtin; refine wp_append_run rfl 32 32 _ _ rfl _ _ rfl rfl _ _ HRUN.out ?_)
            go_roundw
            case rel => exact ⟨j + 1, xs, by go_num, by omega, by rw [LT'.out]; exact HOWN.out, by rw [FT'.out]; exact HXS.out, hb⟩
            case measure => simp [intOf]; omega
          · rw [hsl] at hcj
            obtain ⟨ys, hy1, hy2⟩ := hx.xs
            have HY1 := Lib.hid hy1
            have HY2 := Lib.hid hy2
            have hHr := hH.below hb
            clear hsl hx hy1 hy2
            generalize lss[j] = lj at *
            go_wp2_with (at_builtin; refine wpList_append_own _ rfl _ _ 32 rfl w.heap.size 45 i0 _ 4 64 Tryd.underlying32 hi hz0 hz1 hz2 rfl (by decide) _ _ _ rfl hown ⟨b, off, none⟩ lj.length c ys rfl HY1.out.len ?c1 HY1.out.one ?c3 ?c4 hwr ?_)
            case c1 => intro q u hq; rw [addr_add']; exact hHr.cell (HY2.out q u hq)
            case c3 => unfold maxLen; omega
            case c4 => omega
            intro v' w2 hown2 hg2 _
            have hb2 := hb.grown hg2 hwr (fun q hq => (hown.lt q hq).1)
            go_wp2_with fail
            go_roundw
            case rel => exact ⟨j + 1, xs ++ ys, by go_num, by omega, by rw [LT.out]; exact hown2, by rw [FT.out]; exact HXS.out.append HY1.out, hb2⟩
            case measure => simp [intOf]; omega
        · obtain rfl : j = k := by omega
          have htk : lss.take j = lss := by rw [← HN.out]; exact List.take_length
          rw [htk] at hown HXS
          go_wp2_with fail
          go_ret
          exact ⟨_, xs, rfl, by rw [flatten_len]; exact hown, HXS.out, hb⟩
end Go.Proofs.YthihoafemahgmaaDoor
namespace Go.Proofs.YthihoafemahgmaaDoor
open Go.RowKit Mx
theorem cells4 (w : World) (x y z u : Value) (t : TypeId) : ∀ j v, [x, y, z, u][j]? = some v → (w.alloc (.cells #[x, y, z, u] t)).cell? ((⟨w.heap.size, 0, none⟩ : Addr).add j) = some v := by
  intro j v h
  rw [addr_add', World.cell?_alloc_new]
  simpa using h
theorem FlsV.cell {H : Kn} {l : List Fl} {v : Value} (h : FlsV H l v) (hne : l ≠ []) : ∃ b off cap, v = .slice (some ⟨b, off, none⟩) l.length cap ∧ l.length ≤ cap ∧ cap ≤ maxLen ∧ ∀ i (hi : i < l.length), ∃ ax cx,
    H.cell b (off + i * 6) = some (.string l[i].name) ∧ H.cell b (off + i * 6 + 1) = some (.int .i64 l[i].kind) ∧ H.cell b (off + i * 6 + 2) = some (.string l[i].e.op) ∧ H.cell b (off + i * 6 + 3) = some (.int .i64 l[i].e.n) ∧
      H.cell b (off + i * 6 + 4) = some (.string l[i].e.s) ∧ H.cell b (off + i * 6 + 5) = some (.slice ax l[i].e.l.length cx) ∧ ExsV H l[i].e.l (.slice ax l[i].e.l.length cx) := by
  rcases h with ⟨h, _⟩ | ⟨b, off, cap, h1, h2, h3, h4⟩
  · exact absurd h hne
  · refine ⟨b, off, cap, h1, h2, h3, fun i hi => ?_⟩
    obtain ⟨u, a0, a1, a2, a3, a4, a5, hu⟩ := (h4 i hi).cells
    obtain ⟨ax, cx, rfl⟩ := hu.len
    exact ⟨ax, cx, a0, a1, a2, a3, a4, a5, hu⟩
theorem SlV.at {α : Type} {H : Kn} {k n : Nat} {R : α → (Nat → Option Value) → Prop} {l : List α} {a : Option Addr} {cap : Nat} (h : SlV H k R l (.slice a n cap)) {i : Nat} (hi : i < l.length) : ∃ b off, a = some ⟨b, off, none⟩ ∧ cap ≤ maxLen ∧ R l[i] (fun j => H.cell b (off + i * k + j)) := by
  rcases h with ⟨rfl, _⟩ | ⟨b, off, cap', h1, _, h2, h3⟩
  · simp at hi
  · cases h1
    exact ⟨b, off, rfl, h2, h3 i hi⟩
theorem ExsV.at {H : Kn} {n : Nat} {l : List Ex} {a : Option Addr} {cap : Nat} (h : ExsV H l (.slice a n cap)) {i : Nat} (hi : i < l.length) : ∃ b off ax cx, a = some ⟨b, off, none⟩ ∧
    H.cell b (off + i * 4) = some (.string l[i].op) ∧ H.cell b (off + i * 4 + 1) = some (.int .i64 l[i].n) ∧ H.cell b (off + i * 4 + 2) = some (.string l[i].s) ∧ H.cell b (off + i * 4 + 3) = some (.slice ax l[i].l.length cx) ∧
      ExV H l[i] (.agg #[.string l[i].op, .int .i64 l[i].n, .string l[i].s, .slice ax l[i].l.length cx]) := by
  obtain ⟨b, off, cap', h1, _, _, hc⟩ := h.cell (fun e => by rw [e] at hi; simp at hi)
  cases h1
  obtain ⟨ax, cx, hh⟩ := hc i hi
  exact ⟨b, off, ax, cx, rfl, hh⟩
theorem XsAt.le {H H' : Kn} (hle : H.le H') : ∀ {l : List Ex} {xs : List Value}, XsAt H l xs → XsAt H' l xs
  | [], _, h => h
  | e :: l, xs, ⟨a, c, r, h0, h1, h2⟩ => ⟨a, c, r, h0, h1.le hle, h2.le hle⟩
theorem kn_le_all {H : Kn} {w : World} (h : H.In w) : H.le (allKn w) := fun b o e => h b o e
theorem allKn_below {w w' : World} (hb : Below w.heap.size w w') : (allKn w).In w' := (allKn_in w).below hb
set_option maxHeartbeats 2000000 in
set_option maxRecDepth 100000 in
theorem terms_any (H : Kn) (p : Pr) (vi vo vl va vc : Value) (hp : PrP H p vi vo vl va vc) (w : World) (hH : H.In w) (hsz : p.fl.length ≤ 1000000 ∧ p.as.length ≤ 1000000 ∧ p.cs.length ≤ 1000000) :
    Calls Tryd.prog 39 #[.agg #[vi, vo, vl, va, vc]] w fun r w' => ∃ v, r = .returned v ∧ ExsV (allKn w') p.terms v ∧ Below w.heap.size w w' := by
  obtain ⟨h1, h2, h3, h4, h5⟩ := hp
  obtain ⟨ai, ci, rfl⟩ := h1.len
  obtain ⟨ao, co, rfl⟩ := h2.len
  obtain ⟨aa, ca, rfl⟩ := h4.len
  obtain ⟨ac, cc, rfl⟩ := h5.len
  clear h1 h2
  obtain ⟨s1, s2, s3⟩ := hsz
  have H4 := Lib.hid h4
  have H5 := Lib.hid h5
  -- behind the loop
  have rest : ∀ (w2 : World) (v : Value) (xs : List Value), Below w.heap.size w w2 → w2.ownsRow (w.heap.size + 1) 45 4 v p.fl.length xs → XsAt H (p.fl.map (·.e)) xs →
      Calls Tryd.prog 18 #[.slice (some ⟨w2.heap.size, 0, none⟩) 3 3] (w2.alloc (.cells #[v, .slice aa p.as.length ca, .slice ac p.cs.length cc] 32)) fun r w' => ∃ v, r = .returned v ∧ ExsV (allKn w') p.terms v ∧ Below w.heap.size w w' := by
    intro w2 v xs hb hown hxs
    have hB : w2.heap.size < (w2.alloc (.cells #[v, .slice aa p.as.length ca, .slice ac p.cs.length cc] 32)).heap.size := by simp
    have hle2 := kn_le_all (hH.below hb)
    have hex : ExsV (allKn w2) (p.fl.map (·.e)) v := exsV_of_row (hH.below hb) (by rw [List.length_map]; exact hown) hxs
    have hb3 : Below w.heap.size w (w2.alloc (.cells #[v, .slice aa p.as.length ca, .slice ac p.cs.length cc] 32)) := hb.alloc hb.size _
    refine (concat_any (allKn w2) [p.fl.map (·.e), p.as, p.cs] [v, .slice aa p.as.length ca, .slice ac p.cs.length cc] w2.heap.size 3 _ ((allKn_in w2).alloc _) rfl (by omega) rfl hB (fun i hi => ?_) (fun i hi hi' => ?_) ?_).mono ?_
    · rw [World.cell?_alloc_new]; simp at hi ⊢
    · match i, hi with
      | 0, _ => exact hex
      | 1, _ => exact H4.out.le hle2
      | 2, _ => exact H5.out.le hle2
    · simp [lensum]; omega
    · rintro r w' ⟨v', xs', rfl, ho, hx, hbl⟩
      refine ⟨v', rfl, ?_, hb3.trans (hbl.mono (by have := hb3.size; omega))⟩
      have hin : (allKn w2).In w' := ((allKn_in w2).alloc _).below hbl
      have := exsV_of_row hin ho hx
      have e : [p.fl.map (·.e), p.as, p.cs].flatten = p.terms := by simp [Pr.terms]
      rw [e] at this
      exact this
  have HR := Lib.hid rest
  clear rest h4 h5
  have hW1 : Below w.heap.size w (w.alloc (.cells #[.slice ai p.ins.length ci, .slice ao p.outs.length co, vl, .slice aa p.as.length ca, .slice ac p.cs.length cc] 34)) := (Below.refl _ _).alloc (Nat.le_refl _) _
  have hz1 : (w.alloc (.cells #[.slice ai p.ins.length ci, .slice ao p.outs.length co, vl, .slice aa p.as.length ca, .slice ac p.cs.length cc] 34)).heap.size = w.heap.size + 1 := by simp
  by_cases hne : p.fl = []
  · obtain ⟨al, cl, rfl⟩ := h3.len
    have HX := Lib.hid (show XsAt H (p.fl.map (·.e)) [] from by rw [hne]; rfl)
    have h0 : p.fl.length = 0 := by rw [hne]; rfl
    have HNE := Lib.hid hne
    clear h3 hne
    rw [h0] at hW1 hz1 ⊢
    go_enter Tryd.func39, Tryd.ntmps39
    go_wp2_with fail
    have q3 : (w.alloc (.cells #[.slice ai p.ins.length ci, .slice ao p.outs.length co, .slice al 0 cl, .slice aa p.as.length ca, .slice ac p.cs.length cc] 34)).cell? ⟨w.heap.size, 3, none⟩ = some (.slice aa p.as.length ca) := by rw [World.cell?_alloc_new]; rfl
    have q4 : (w.alloc (.cells #[.slice ai p.ins.length ci, .slice ao p.outs.length co, .slice al 0 cl, .slice aa p.as.length ca, .slice ac p.cs.length cc] 34)).cell? ⟨w.heap.size, 4, none⟩ = some (.slice ac p.cs.length cc) := by rw [World.cell?_alloc_new]; rfl
    generalize w.alloc (.cells #[.slice ai p.ins.length ci, .slice ao p.outs.length co, .slice al 0 cl, .slice aa p.as.length ca, .slice ac p.cs.length cc] 34) = W at *
    have HZ1 := Lib.hid hz1
    clear hz1
    refine wp_loop_rounds 1 ?_
    rw [rounds_succ]
    go_wp2_with fail
    refine (HR.out _ _ [] hW1 (by rw [h0]; exact World.ownsRow_nil _ _ _ _) HX.out).mono ?_
    rintro r w' ⟨v, rfl, hv, hb⟩
    go_wp2_with fail
    go_ret
    exact ⟨v, rfl, hv, hb⟩
  · obtain ⟨b, off, cap, rfl, hc1, hc2, hc⟩ := FlsV.cell h3 hne
    have HC := Lib.hid hc
    clear hc h3
    unfold maxLen at hc2
    go_enter Tryd.func39, Tryd.ntmps39
    go_wp2_with fail
    have q3 : (w.alloc (.cells #[.slice ai p.ins.length ci, .slice ao p.outs.length co, .slice (some ⟨b, off, none⟩) p.fl.length cap, .slice aa p.as.length ca, .slice ac p.cs.length cc] 34)).cell? ⟨w.heap.size, 3, none⟩ = some (.slice aa p.as.length ca) := by rw [World.cell?_alloc_new]; rfl
    have q4 : (w.alloc (.cells #[.slice ai p.ins.length ci, .slice ao p.outs.length co, .slice (some ⟨b, off, none⟩) p.fl.length cap, .slice aa p.as.length ca, .slice ac p.cs.length cc] 34)).cell? ⟨w.heap.size, 4, none⟩ = some (.slice ac p.cs.length cc) := by rw [World.cell?_alloc_new]; rfl
    generalize w.alloc (.cells #[.slice ai p.ins.length ci, .slice ao p.outs.length co, .slice (some ⟨b, off, none⟩) p.fl.length cap, .slice aa p.as.length ca, .slice ac p.cs.length cc] 34) = W at *
    have Q := Lib.hid (And.intro q3 q4)
    have HW1 := Lib.hid hW1
    have HZ1 := Lib.hid hz1
    clear q3 q4 hW1 hz1
    go_loopw [3, 9] (fun u i wr => ∃ (k : Nat) (xs : List Value), i = .int .i64 k ∧ k ≤ p.fl.length ∧ wr.ownsRow (w.heap.size + 1) 45 4 u k xs ∧ XsAt H ((p.fl.take k).map (·.e)) xs ∧ Below (w.heap.size + 1) W wr) (fun _ i _ => p.fl.length - (intOf i).toNat)
    case atStart => exact ⟨0, [], rfl, Nat.zero_le _, World.ownsRow_nil _ _ _ _, rfl, Below.refl _ _⟩
    case round =>
      obtain ⟨k, xs, rfl, hk, hown, hxs, hb⟩ := hrel
      have HXS := Lib.hid hxs
      have hwr := hb.size
      rw [HZ1.out] at hwr
      have hbw : Below w.heap.size w wr := HW1.out.trans (hb.mono (by omega))
      clear hxs
      by_cases hkl : k < p.fl.length
      · obtain ⟨ax, cx, c0, c1, c2, c3, c4, c5, hx⟩ := HC.out k hkl
        have hHr := hH.below hbw
        have c0 := hHr.cell c0
        have c1 := hHr.cell c1
        have c2 := hHr.cell c2
        have c3 := hHr.cell c3
        have c4 := hHr.cell c4
        have c5 := hHr.cell c5
        have TK := Lib.hid (show (p.fl.take (k + 1)).map (·.e) = (p.fl.take k).map (·.e) ++ [p.fl[k].e] from by rw [List.take_succ_eq_append_getElem hkl, List.map_append]; rfl)
        generalize p.fl[k] = f at *
        obtain ⟨fname, fkind, fe⟩ := f
        dsimp only at *
        obtain ⟨fo, fn, fs, fl'⟩ := fe
        simp only [Ex.op, Ex.n, Ex.s, Ex.l] at *
        have HX1 := Lib.hid (show XsAt H [Ex.mk fo fn fs fl'] [.string fo, .int .i64 fn, .string fs, .slice ax fl'.length cx] from ⟨ax, cx, [], rfl, hx, rfl⟩)
        clear hx
        obtain ⟨u', cu', rfl, _, _⟩ := own_len hown
        go_wp2_with (at_builtin; refine app1 32 45 4 64 _ Tryd.underlying32 Tryd.infoEx rfl (by decide) _ _ rfl rfl (w.heap.size + 1) _ _ _ rfl ((hown.alloc _).alloc _) ⟨wr.heap.size + 1, 0, none⟩ 1 [.string fo, .int .i64 fn, .string fs, .slice ax fl'.length cx] rfl rfl ?c1 ?c2 ?c3 ?c4 ?c5 ?_)
        case c1 =>
          have := cells4 (wr.alloc (.cells #[.string fname, .int .i64 fkind, .string fo, .int .i64 fn, .string fs, .slice ax fl'.length cx] 47)) (.string fo) (.int .i64 fn) (.string fs) (.slice ax fl'.length cx) 45
          simpa using this
        case c2 => simp [Value.oneCell']
        case c3 => omega
        case c4 => omega
        case c5 => simp; omega
        intro v' w2 hown2 hg2
        have hb2 : Below (w.heap.size + 1) W w2 := ((hb.alloc hwr _).alloc (by simp; omega) _).grown hg2 (by simp; omega) (fun q hq => (hown.lt q hq).1)
        go_wp2_with fail
        go_roundw
        case rel => exact ⟨k + 1, _, by go_num, by omega, hown2, by rw [TK.out]; exact HXS.out.append HX1.out, hb2⟩
        case measure => simp [intOf]; omega
      · obtain rfl : k = p.fl.length := by omega
        rw [List.take_length] at HXS
        obtain ⟨u', cu', rfl, _, _⟩ := own_len hown
        have q3 : wr.cell? ⟨w.heap.size, 3, none⟩ = some (.slice aa p.as.length ca) := by rw [hb.cell (p := ⟨w.heap.size, 3, none⟩) (by simp)]; exact Q.out.1
        have q4 : wr.cell? ⟨w.heap.size, 4, none⟩ = some (.slice ac p.cs.length cc) := by rw [hb.cell (p := ⟨w.heap.size, 4, none⟩) (by simp)]; exact Q.out.2
        have HO := Lib.hid hown
        clear hown
        go_wp2_with fail
        refine (HR.out _ _ xs hbw HO.out HXS.out).mono ?_
        rintro r w' ⟨v, rfl, hv, hb⟩
        go_wp2_with fail
        go_ret
        exact ⟨v, rfl, hv, hb⟩
end Go.Proofs.YthihoafemahgmaaDoor
