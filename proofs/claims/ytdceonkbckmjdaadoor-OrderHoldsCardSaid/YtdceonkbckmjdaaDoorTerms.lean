/- Walks: flat.Program.Terms. -/
import Derived.Test.YtdceonkbckmjdaaDoorConcat
namespace Go.Proofs.YtdceonkbckmjdaaDoor
open Go.RowKit Mx

theorem cells4 (w : World) (x y z u : Value) (t : TypeId) : ∀ j v, [x, y, z, u][j]? = some v → (w.alloc (.cells #[x, y, z, u] t)).cell? ((⟨w.heap.size, 0, none⟩ : Addr).add j) = some v := by
  intro j v h
  rw [addr_add', World.cell?_alloc_new]
  simpa using h
/-- A flow of a slice, its six cells. -/
theorem FlsV.cell {H : Kn} {l : List Fl} {v : Value} (h : FlsV H l v) (hne : l ≠ []) : ∃ b off cap, v = .slice (some ⟨b, off, none⟩) l.length cap ∧ l.length ≤ cap ∧ cap ≤ maxLen ∧ ∀ i (hi : i < l.length), ∃ ax cx,
    H.cell b (off + i * 6) = some (.string l[i].name) ∧ H.cell b (off + i * 6 + 1) = some (.int .i64 l[i].kind) ∧ H.cell b (off + i * 6 + 2) = some (.string l[i].e.op) ∧ H.cell b (off + i * 6 + 3) = some (.int .i64 l[i].e.n) ∧
      H.cell b (off + i * 6 + 4) = some (.string l[i].e.s) ∧ H.cell b (off + i * 6 + 5) = some (.slice ax l[i].e.l.length cx) ∧ ExsV H l[i].e.l (.slice ax l[i].e.l.length cx) := by
  rcases h with ⟨h, _⟩ | ⟨b, off, cap, h1, h2, h3, h4⟩
  · exact absurd h hne
  · refine ⟨b, off, cap, h1, h2, h3, fun i hi => ?_⟩
    obtain ⟨u, a0, a1, a2, a3, a4, a5, hu⟩ := (h4 i hi).cells
    obtain ⟨ax, cx, rfl⟩ := hu.len
    exact ⟨ax, cx, a0, a1, a2, a3, a4, a5, hu⟩

theorem SlV.at {α : Type} {H : Kn} {k n : Nat} {R : α → (Nat → Option Value) → Prop} {l : List α} {a : Option Addr} {cap : Nat} (h : SlV H k R l (.slice a n cap)) {i : Nat} (hi : i < l.length) : ∃ b off, a = some ⟨b, off, none⟩ ∧ cap ≤ maxLen ∧ R l[i] (fun j => H.cell b (off + i * k + j)) := by
  rcases h with ⟨rfl, _⟩ | ⟨b, off, cap', h1, _, h2, h3⟩
  · simp at hi
  · cases h1
    exact ⟨b, off, rfl, h2, h3 i hi⟩
theorem ExsV.at {H : Kn} {n : Nat} {l : List Ex} {a : Option Addr} {cap : Nat} (h : ExsV H l (.slice a n cap)) {i : Nat} (hi : i < l.length) : ∃ b off ax cx, a = some ⟨b, off, none⟩ ∧
    H.cell b (off + i * 4) = some (.string l[i].op) ∧ H.cell b (off + i * 4 + 1) = some (.int .i64 l[i].n) ∧ H.cell b (off + i * 4 + 2) = some (.string l[i].s) ∧ H.cell b (off + i * 4 + 3) = some (.slice ax l[i].l.length cx) ∧
      ExV H l[i] (.agg #[.string l[i].op, .int .i64 l[i].n, .string l[i].s, .slice ax l[i].l.length cx]) := by
  obtain ⟨b, off, cap', h1, _, _, hc⟩ := h.cell (fun e => by rw [e] at hi; simp at hi)
  cases h1
  obtain ⟨ax, cx, hh⟩ := hc i hi
  exact ⟨b, off, ax, cx, rfl, hh⟩

theorem XsAt.le {H H' : Kn} (hle : H.le H') : ∀ {l : List Ex} {xs : List Value}, XsAt H l xs → XsAt H' l xs
  | [], _, h => h
  | e :: l, xs, ⟨a, c, r, h0, h1, h2⟩ => ⟨a, c, r, h0, h1.le hle, h2.le hle⟩
theorem kn_le_all {H : Kn} {w : World} (h : H.In w) : H.le (allKn w) := fun b o e => h b o e
theorem allKn_below {w w' : World} (hb : Below w.heap.size w w') : (allKn w).In w' := (allKn_in w).below hb

set_option maxHeartbeats 2000000 in
set_option maxRecDepth 100000 in
theorem terms_any (H : Kn) (p : Pr) (vi vo vl va vc : Value) (hp : PrP H p vi vo vl va vc) (w : World) (hH : H.In w) (hsz : p.fl.length ≤ 1000000 ∧ p.as.length ≤ 1000000 ∧ p.cs.length ≤ 1000000) :
    Calls Tryd.prog 73 #[.agg #[vi, vo, vl, va, vc]] w fun r w' => ∃ v, r = .returned v ∧ ExsV (allKn w') p.terms v ∧ Below w.heap.size w w' := by
  obtain ⟨h1, h2, h3, h4, h5⟩ := hp
  obtain ⟨ai, ci, rfl⟩ := h1.len
  obtain ⟨ao, co, rfl⟩ := h2.len
  obtain ⟨aa, ca, rfl⟩ := h4.len
  obtain ⟨ac, cc, rfl⟩ := h5.len
  clear h1 h2
  obtain ⟨s1, s2, s3⟩ := hsz
  have H4 := Lib.hid h4
  have H5 := Lib.hid h5
  -- behind the loop
  have rest : ∀ (w2 : World) (v : Value) (xs : List Value), Below w.heap.size w w2 → w2.ownsRow (w.heap.size + 1) 57 4 v p.fl.length xs → XsAt H (p.fl.map (·.e)) xs →
      Calls Tryd.prog 32 #[.slice (some ⟨w2.heap.size, 0, none⟩) 3 3] (w2.alloc (.cells #[v, .slice aa p.as.length ca, .slice ac p.cs.length cc] 32)) fun r w' => ∃ v, r = .returned v ∧ ExsV (allKn w') p.terms v ∧ Below w.heap.size w w' := by
    intro w2 v xs hb hown hxs
    have hB : w2.heap.size < (w2.alloc (.cells #[v, .slice aa p.as.length ca, .slice ac p.cs.length cc] 32)).heap.size := by simp
    have hle2 := kn_le_all (hH.below hb)
    have hex : ExsV (allKn w2) (p.fl.map (·.e)) v := exsV_of_row (hH.below hb) (by rw [List.length_map]; exact hown) hxs
    have hb3 : Below w.heap.size w (w2.alloc (.cells #[v, .slice aa p.as.length ca, .slice ac p.cs.length cc] 32)) := hb.alloc hb.size _
    refine (concat_any (allKn w2) [p.fl.map (·.e), p.as, p.cs] [v, .slice aa p.as.length ca, .slice ac p.cs.length cc] w2.heap.size 3 _ ((allKn_in w2).alloc _) rfl (by omega) rfl hB (fun i hi => ?_) (fun i hi hi' => ?_) ?_).mono ?_
    · rw [World.cell?_alloc_new]; simp at hi ⊢
    · match i, hi with
      | 0, _ => exact hex
      | 1, _ => exact H4.out.le hle2
      | 2, _ => exact H5.out.le hle2
    · simp [lensum]; omega
    · rintro r w' ⟨v', xs', rfl, ho, hx, hbl⟩
      refine ⟨v', rfl, ?_, hb3.trans (hbl.mono (by have := hb3.size; omega))⟩
      have hin : (allKn w2).In w' := ((allKn_in w2).alloc _).below hbl
      have := exsV_of_row hin ho hx
      have e : [p.fl.map (·.e), p.as, p.cs].flatten = p.terms := by simp [Pr.terms]
      rw [e] at this
      exact this
  have HR := Lib.hid rest
  clear rest h4 h5
  have hW1 : Below w.heap.size w (w.alloc (.cells #[.slice ai p.ins.length ci, .slice ao p.outs.length co, vl, .slice aa p.as.length ca, .slice ac p.cs.length cc] 34)) := (Below.refl _ _).alloc (Nat.le_refl _) _
  have hz1 : (w.alloc (.cells #[.slice ai p.ins.length ci, .slice ao p.outs.length co, vl, .slice aa p.as.length ca, .slice ac p.cs.length cc] 34)).heap.size = w.heap.size + 1 := by simp
  by_cases hne : p.fl = []
  · obtain ⟨al, cl, rfl⟩ := h3.len
    have HX := Lib.hid (show XsAt H (p.fl.map (·.e)) [] from by rw [hne]; rfl)
    have h0 : p.fl.length = 0 := by rw [hne]; rfl
    have HNE := Lib.hid hne
    clear h3 hne
    rw [h0] at hW1 hz1 ⊢
    go_enter Tryd.func73, Tryd.ntmps73
    go_wp2_with fail
    have q3 : (w.alloc (.cells #[.slice ai p.ins.length ci, .slice ao p.outs.length co, .slice al 0 cl, .slice aa p.as.length ca, .slice ac p.cs.length cc] 34)).cell? ⟨w.heap.size, 3, none⟩ = some (.slice aa p.as.length ca) := by rw [World.cell?_alloc_new]; rfl
    have q4 : (w.alloc (.cells #[.slice ai p.ins.length ci, .slice ao p.outs.length co, .slice al 0 cl, .slice aa p.as.length ca, .slice ac p.cs.length cc] 34)).cell? ⟨w.heap.size, 4, none⟩ = some (.slice ac p.cs.length cc) := by rw [World.cell?_alloc_new]; rfl
    generalize w.alloc (.cells #[.slice ai p.ins.length ci, .slice ao p.outs.length co, .slice al 0 cl, .slice aa p.as.length ca, .slice ac p.cs.length cc] 34) = W at *
    have HZ1 := Lib.hid hz1
    clear hz1
    refine wp_loop_rounds 1 ?_
    rw [rounds_succ]
    go_wp2_with fail
    refine (HR.out _ _ [] hW1 (by rw [h0]; exact World.ownsRow_nil _ _ _ _) HX.out).mono ?_
    rintro r w' ⟨v, rfl, hv, hb⟩
    go_wp2_with fail
    go_ret
    exact ⟨v, rfl, hv, hb⟩
  · obtain ⟨b, off, cap, rfl, hc1, hc2, hc⟩ := FlsV.cell h3 hne
    have HC := Lib.hid hc
    clear hc h3
    unfold maxLen at hc2
    go_enter Tryd.func73, Tryd.ntmps73
    go_wp2_with fail
    have q3 : (w.alloc (.cells #[.slice ai p.ins.length ci, .slice ao p.outs.length co, .slice (some ⟨b, off, none⟩) p.fl.length cap, .slice aa p.as.length ca, .slice ac p.cs.length cc] 34)).cell? ⟨w.heap.size, 3, none⟩ = some (.slice aa p.as.length ca) := by rw [World.cell?_alloc_new]; rfl
    have q4 : (w.alloc (.cells #[.slice ai p.ins.length ci, .slice ao p.outs.length co, .slice (some ⟨b, off, none⟩) p.fl.length cap, .slice aa p.as.length ca, .slice ac p.cs.length cc] 34)).cell? ⟨w.heap.size, 4, none⟩ = some (.slice ac p.cs.length cc) := by rw [World.cell?_alloc_new]; rfl
    generalize w.alloc (.cells #[.slice ai p.ins.length ci, .slice ao p.outs.length co, .slice (some ⟨b, off, none⟩) p.fl.length cap, .slice aa p.as.length ca, .slice ac p.cs.length cc] 34) = W at *
    have Q := Lib.hid (And.intro q3 q4)
    have HW1 := Lib.hid hW1
    have HZ1 := Lib.hid hz1
    clear q3 q4 hW1 hz1
    go_loopw [3, 9] (fun u i wr => ∃ (k : Nat) (xs : List Value), i = .int .i64 k ∧ k ≤ p.fl.length ∧ wr.ownsRow (w.heap.size + 1) 57 4 u k xs ∧ XsAt H ((p.fl.take k).map (·.e)) xs ∧ Below (w.heap.size + 1) W wr) (fun _ i _ => p.fl.length - (intOf i).toNat)
    case atStart => exact ⟨0, [], rfl, Nat.zero_le _, World.ownsRow_nil _ _ _ _, rfl, Below.refl _ _⟩
    case round =>
      obtain ⟨k, xs, rfl, hk, hown, hxs, hb⟩ := hrel
      have HXS := Lib.hid hxs
      have hwr := hb.size
      rw [HZ1.out] at hwr
      have hbw : Below w.heap.size w wr := HW1.out.trans (hb.mono (by omega))
      clear hxs
      by_cases hkl : k < p.fl.length
      · obtain ⟨ax, cx, c0, c1, c2, c3, c4, c5, hx⟩ := HC.out k hkl
        have hHr := hH.below hbw
        have c0 := hHr.cell c0
        have c1 := hHr.cell c1
        have c2 := hHr.cell c2
        have c3 := hHr.cell c3
        have c4 := hHr.cell c4
        have c5 := hHr.cell c5
        have TK := Lib.hid (show (p.fl.take (k + 1)).map (·.e) = (p.fl.take k).map (·.e) ++ [p.fl[k].e] from by rw [List.take_succ_eq_append_getElem hkl, List.map_append]; rfl)
        generalize p.fl[k] = f at *
        obtain ⟨fname, fkind, fe⟩ := f
        dsimp only at *
        obtain ⟨fo, fn, fs, fl'⟩ := fe
        simp only [Ex.op, Ex.n, Ex.s, Ex.l] at *
        have HX1 := Lib.hid (show XsAt H [Ex.mk fo fn fs fl'] [.string fo, .int .i64 fn, .string fs, .slice ax fl'.length cx] from ⟨ax, cx, [], rfl, hx, rfl⟩)
        clear hx
        obtain ⟨u', cu', rfl, _, _⟩ := own_len hown
        go_wp2_with (at_builtin; refine app1 32 57 4 64 _ Tryd.underlying32 Tryd.infoEx rfl (by decide) _ _ rfl rfl (w.heap.size + 1) _ _ _ rfl ((hown.alloc _).alloc _) ⟨wr.heap.size + 1, 0, none⟩ 1 [.string fo, .int .i64 fn, .string fs, .slice ax fl'.length cx] rfl rfl ?c1 ?c2 ?c3 ?c4 ?c5 ?_)
        case c1 =>
          have := cells4 (wr.alloc (.cells #[.string fname, .int .i64 fkind, .string fo, .int .i64 fn, .string fs, .slice ax fl'.length cx] 59)) (.string fo) (.int .i64 fn) (.string fs) (.slice ax fl'.length cx) 57
          simpa using this
        case c2 => simp [Value.oneCell']
        case c3 => omega
        case c4 => omega
        case c5 => simp; omega
        intro v' w2 hown2 hg2
        have hb2 : Below (w.heap.size + 1) W w2 := ((hb.alloc hwr _).alloc (by simp; omega) _).grown hg2 (by simp; omega) (fun q hq => (hown.lt q hq).1)
        go_wp2_with fail
        go_roundw
        case rel => exact ⟨k + 1, _, by go_num, by omega, hown2, by rw [TK.out]; exact HXS.out.append HX1.out, hb2⟩
        case measure => simp [intOf]; omega
      · obtain rfl : k = p.fl.length := by omega
        rw [List.take_length] at HXS
        obtain ⟨u', cu', rfl, _, _⟩ := own_len hown
        have q3 : wr.cell? ⟨w.heap.size, 3, none⟩ = some (.slice aa p.as.length ca) := by rw [hb.cell (p := ⟨w.heap.size, 3, none⟩) (by simp)]; exact Q.out.1
        have q4 : wr.cell? ⟨w.heap.size, 4, none⟩ = some (.slice ac p.cs.length cc) := by rw [hb.cell (p := ⟨w.heap.size, 4, none⟩) (by simp)]; exact Q.out.2
        have HO := Lib.hid hown
        clear hown
        go_wp2_with fail
        refine (HR.out _ _ xs hbw HO.out HXS.out).mono ?_
        rintro r w' ⟨v, rfl, hv, hb⟩
        go_wp2_with fail
        go_ret
        exact ⟨v, rfl, hv, hb⟩
end Go.Proofs.YtdceonkbckmjdaaDoor
