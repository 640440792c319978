/- Walks: slices.Clone at numbers; order.cyclic. -/
import Derived.Test.YthihoafemahgmaaDoorGraphA
import Derived.WalkSpells
import Derived.Lib.SliceRun
import Derived.Deep.LoopGhost
namespace Go.Proofs.YthihoafemahgmaaDoor
open Go.RowKit Mx
theorem IntsV.news {H : Kn} {l : List Nat} {b off : Nat} (h : ∀ i (h : i < l.length), IntC l[i] (fun j => H.cell b (off + i * 1 + j))) {w : World} (hH : H.In w) : ∀ j u, (l.map natV)[j]? = some u → w.cell? ((⟨b, off, none⟩ : Addr).add j) = some u := by
  intro j u hu
  rw [addr_add']
  obtain ⟨x, hx, rfl⟩ : ∃ x, l[j]? = some x ∧ natV x = u := by simpa using hu
  obtain ⟨hlt, he⟩ := List.getElem?_eq_some_iff.1 hx
  have := h j hlt
  have h2 : H.cell b (off + j * 1 + 0) = some (natV l[j]) := this
  rw [he, Nat.mul_one, Nat.add_zero] at h2
  exact hH.cell h2
set_option maxHeartbeats 1000000 in
set_option maxRecDepth 100000 in
theorem clone_any (H : Kn) (l : List Nat) (v : Value) (hv : IntsV H l v) (w : World) (hH : H.In w) (hl : l.length ≤ 1000000000) :
    Calls Tryd.prog 73 #[v] w fun r w' => ∃ v', r = .returned v' ∧ w'.ownsRow w.heap.size 3 1 v' l.length (l.map natV) ∧ Below w.heap.size w w' := by
  obtain ⟨i0, hi, hz0, hz1, hz2⟩ := info_parts Tryd.infoInt
  have hrow0 : (w.alloc (.cells #[] 3)).ownsRow w.heap.size 3 1 (.slice (some ⟨w.heap.size, 0, none⟩) 0 0) 0 [] := World.ownsRow_made w #[] 0 (Nat.le_refl _) (Nat.zero_le _) rfl
  rcases hv with ⟨rfl, a, cap, rfl⟩ | ⟨b, off, cap, rfl, h1, h2, h3⟩
  · cases a with
    | none =>
      clear hrow0
      have he := fun w => Lib.run_eql_slice_nil (P := Tryd.prog) w 83 3 none 0 cap 0 0 Tryd.underlying83
      go_enter Tryd.func73, Tryd.ntmps73
      go_wp2_with fail
      go_ret
      exact ⟨_, rfl, World.ownsRow_nil _ _ _ _, Below.refl _ _⟩
    | some ad =>
      have HRUN := Lib.hid (run_append_empty (P := Tryd.prog) 83 3 i0 Tryd.underlying83 hi hrow0 (some ad) cap)
      have HO := Lib.hid hrow0
      clear hrow0
      have he := fun w => Lib.run_eql_slice_nil (P := Tryd.prog) w 83 3 (some ad) 0 cap 0 0 Tryd.underlying83
      go_enter Tryd.func73, Tryd.ntmps73
      go_wp2_with (at_builtin; refine wp_append_run rfl 83 83 _ _ rfl _ _ rfl rfl _ _ HRUN.out ?_)
      go_ret
      exact ⟨_, rfl, HO.out, (Below.refl _ _).alloc (Nat.le_refl _) _⟩
  · have HN := Lib.hid (IntsV.news h3 (hH.alloc (.cells #[] 3)))
    have HO := Lib.hid hrow0
    clear h3 hrow0
    unfold maxLen at h2
    have he := fun w => Lib.run_eql_slice_nil (P := Tryd.prog) w 83 3 (some ⟨b, off, none⟩) l.length cap 0 0 Tryd.underlying83
    go_enter Tryd.func73, Tryd.ntmps73
    go_wp2_with (at_builtin; refine wpList_append_own _ rfl _ _ 83 rfl w.heap.size 3 i0 _ 1 8 Tryd.underlying83 hi hz0 hz1 hz2 rfl (by decide) _ _ _ rfl HO.out ⟨b, off, none⟩ l.length cap (l.map natV) rfl ?c0 HN.out ?c1 ?c3 ?c4 ?c5 ?_)
    case c0 => simp
    case c1 => intro u hu; obtain ⟨x, _, rfl⟩ := List.mem_map.1 hu; rfl
    case c3 => unfold maxLen; omega
    case c4 => omega
    case c5 => simp
    intro v' w2 hown2 hg2 _
    go_wp2_with fail
    go_ret
    refine ⟨_, rfl, by simpa using hown2, ((Below.refl _ _).alloc (Nat.le_refl _) _).grown hg2 (by simp) (fun q hq => (HO.out.lt q hq).1)⟩
theorem own_cut {w : World} {base : Nat} {e : TypeId} {n cap g : Nat} {xs : List Value} {x : Value} (h : w.ownsRow base e 1 (.slice (some ⟨g, 0, none⟩) (n + 1) cap) (n + 1) (xs ++ [x])) : w.ownsRow base e 1 (.slice (some ⟨g, 0, none⟩) n cap) n xs := by
  obtain ⟨h0, h1⟩ := h
  simp only [List.length_append, List.length_singleton] at h0
  have hx : xs.length = n := by omega
  refine ⟨by omega, ?_⟩
  rcases h1 with ⟨h1, _⟩ | ⟨g', cap', cur, h1, h2, h3, h4, h5, h6, h7⟩
  · cases h1
  · cases h1
    refine .inr ⟨g, cap, cur, rfl, h2, h3, by omega, h5, h6, ?_⟩
    rw [Nat.mul_one] at h7 ⊢
    have h9 : cur.toList.take n = (xs ++ [x]).take n := by rw [← h7, List.take_take, Nat.min_eq_left (Nat.le_succ n)]
    rw [h9, List.take_append_of_le_length (by omega), List.take_of_length_le (by omega)]
theorem madeB_get (n i : Nat) (h : i < n) : (madeCells #[.bool false] n)[i]? = some (.bool false) := by simp [madeCells, h, Nat.mod_one]
theorem madeB_size (n : Nat) : (madeCells #[.bool false] n).size = n := by simp [madeCells]
theorem Tryd.infoBool : (Tryd.prog.info? 4).map (fun i => (i.zero, i.size, i.bytes)) = some (some (.bool false), 1, 1) := by kernel_rfl
theorem cyc_start (g : List (List Nat)) (i : Nat) : (g.getD i []).reverse.length + rest g [] < cycFuel g := by
  have h1 := sum_range g
  have h2 := len_le_sum g i
  unfold cycFuel rest
  rw [h1, List.length_reverse]
  omega
theorem sc_set {n k : Nat} {sc : Array Value} {seen : List Nat} (h : ∀ x, x < n → sc[x]? = some (.bool (seen.contains x))) (hs : sc.size = n) (hk : k < n) : ∀ x, x < n → (sc.setIfInBounds k (.bool true))[x]? = some (.bool ((k :: seen).contains x)) := by
  intro x hx
  rw [Array.getElem?_setIfInBounds]
  by_cases hxk : k = x
  · subst hxk
    rw [if_pos rfl, if_pos (by omega)]
    simp
  · rw [if_neg hxk, h x hx, List.contains_cons]
    have : (x == k) = false := by rw [beq_eq_false_iff_ne]; exact fun e => hxk e.symm
    rw [this, Bool.false_or]
structure CycS (w wr : World) (g : List (List Nat)) (i Sb base f : Nat) (v : Value) (seen todo : List Nat) : Prop where
  below : Below w.heap.size w wr
  size : base ≤ wr.heap.size
  row : wr.ownsRow base 3 1 v todo.length (todo.reverse.map natV)
  sn : ∃ sc, wr.heap[Sb]? = some (.cells sc 4 (0, 0)) ∧ sc.size = g.length ∧ ∀ k, k < g.length → sc[k]? = some (.bool (seen.contains k))
  same : cycN g i f seen todo = cyc g i
  fuel : todo.length + rest g seen < f
  most : f ≤ cycFuel g
  low : ∀ k ∈ todo, k < g.length
set_option maxHeartbeats 4000000 in
set_option maxRecDepth 100000 in
theorem cyc_any (H : Kn) (g : List (List Nat)) (v : Value) (hg : GrV H g v) (i : Nat) (hi : i < g.length) (hlow : ∀ l ∈ g, ∀ k ∈ l, k < g.length) (hn : g.length ≤ 1000000) (hF : cycFuel g ≤ 1000000000) (w : World) (hH : H.In w) :
    Calls Tryd.prog 64 #[v, .int .i64 i] w fun r w' => r = .returned (.bool (cyc g i)) ∧ Below w.heap.size w w' := by
  obtain ⟨a, cap, rfl⟩ := hg.len
  obtain ⟨b, off, rfl, hcm, u, c0, hu⟩ := SlV.at hg hi
  simp only [Nat.mul_one, Nat.add_zero] at c0
  have c0 := hH.cell c0
  have hblt : b < w.heap.size := World.block_lt_of_cell? w _ c0
  obtain ⟨ua, uc, rfl⟩ := hu.len
  have HG := Lib.hid hg
  have HU := Lib.hid hu
  have HLOW := Lib.hid hlow
  have HF := Lib.hid hF
  have hgi : g.getD i [] = g[i] := by simp [List.getD_eq_getElem?_getD, hi]
  have hlen : g[i].length ≤ 1000000000 := by
    have := len_le_sum g i
    rw [hgi] at this
    unfold cycFuel at hF
    omega
  have hmk := run_make_row' (P := Tryd.prog) 114 4 (.bool false) 1 Tryd.underlying114 Tryd.infoBool rfl .i64 .i64 g.length (by omega) (by omega)
  have hiI : (i : Int) < g.length := by omega
  have HC0 := Lib.hid (cyc_start g i)
  have HGI := Lib.hid hgi
  clear hg hu hlow hF hgi
  go_enter Tryd.func64, Tryd.ntmps64
  go_wp2_with fail
  refine (clone_any H g[i] _ HU.out _ (hH.alloc _) hlen).mono ?_
  rintro r w1 ⟨v1, rfl, hown, hb1⟩
  have hb1' : Below w.heap.size w w1 := ((Below.refl _ _).alloc (Nat.le_refl _) _).trans (hb1.mono (by simp))
  have hS0 : w1.heap[w.heap.size]? = some (.cells (madeCells #[.bool false] g.length) 4 (0, 0)) := by rw [hb1.block _ (by simp)]; exact heap_alloc_new _ _
  have hz1 := hb1.size
  simp at hz1
  have hC1 : CycS w w1 g i w.heap.size (w.heap.size + 1) (cycFuel g) v1 [] (g.getD i []).reverse := by
    refine ⟨hb1', hz1, ?_, ⟨_, hS0, madeB_size _, fun k hk => by rw [madeB_get _ k hk]; simp⟩, rfl, HC0.out, Nat.le_refl _, fun k hk => ?_⟩
    · rw [HGI.out, List.length_reverse, List.reverse_reverse]
      simpa using hown
    · rw [HGI.out] at hk
      exact HLOW.out _ (List.getElem_mem hi) k (List.mem_reverse.1 hk)
  have HC1 := Lib.hid hC1
  obtain ⟨a1, cap1, rfl, _, _⟩ := own_len hC1.row
  clear hC1 hS0 hown hmk HC0 HU
  generalize (g.getD i []).reverse = td at *
  go_wp2_with fail
  go_loopg [6] (cycFuel g) (fun f v6 wr => ∃ seen todo, CycS w wr g i w.heap.size (w.heap.size + 1) f v6 seen todo)
  case atStart => exact ⟨[], _, HC1.out⟩
  case round =>
    obtain ⟨seen, todo, hC⟩ := hrel
    have HC := Lib.hid hC
    have hsame := hC.same
    have hfuel := hC.fuel
    have hmost := hC.most
    have hF := HF.out
    have hrow := hC.row
    have hbw := hC.below.size
    clear hC
    cases todo with
    | nil =>
      obtain ⟨a2, c2, rfl, _, _⟩ := own_len hrow
      have HX := Lib.hid (show cyc g i = false from by rw [← hsame]; cases gk <;> rfl)
      clear hsame hrow hfuel hmost
      go_wp2_with fail
      go_ret
      exact ⟨ret_bool HX.out.symm, HC.out.below⟩
    | cons k r =>
      have hkn : k < g.length := HC.out.low k (List.mem_cons_self ..)
      have hrev : ((k :: r).reverse.map natV) = r.reverse.map natV ++ [natV k] := by simp
      rw [hrev] at hrow
      simp only [List.length_cons] at hrow hfuel
      obtain ⟨gq, c2, rfl, hc2, hm2, hgb, hglt, hcells⟩ := own_shape hrow (Nat.succ_pos _)
      have hlast : wr.cell? ⟨gq, r.length, none⟩ = some (.int .i64 k) := hcells r.length _ (by rw [List.getElem?_append_right (by simp)]; simp)
      have HCUT := Lib.hid (own_cut hrow)
      obtain ⟨sc, hsc, hscn, hscv⟩ := HC.out.sn
      have HSC := Lib.hid (And.intro hsc (And.intro hscn hscv))
      have hcs : wr.cell? ⟨w.heap.size, k, none⟩ = some (.bool (seen.contains k)) := by simp [World.cell?, hsc, hscv k hkn]
      have hfs : wr.frozen? ⟨w.heap.size, k, none⟩ = false := by simp [World.frozen?, hsc]
      have hgk : gk = gk - 1 + 1 := by omega
      rw [hgk] at hsame
      simp only [cycN] at hsame
      have hkI : (k : Int) < g.length := by omega
      have hrl : (r.length : Int) + 1 ≤ 9223372036854775807 := by omega
      have hgne : w.heap.size ≠ gq := by omega
      clear hgk hcells hrow hrev hsc hscn hscv
      by_cases hki : k = i
      · have HX := Lib.hid (show cyc g i = true from by rw [← hsame, if_pos hki])
        have t1 : ((k : Int) == (i : Int)) = true := by simp [hki]
        clear hsame hki
        go_wp2_with fail
        go_ret
        exact ⟨ret_bool HX.out.symm, HC.out.below⟩
      · rw [if_neg hki] at hsame
        have t1 : ((k : Int) == (i : Int)) = false := by rw [beq_eq_false_iff_ne]; omega
        clear hki
        cases hq : seen.contains k
        · rw [hq] at hsame hcs
          simp only [Bool.false_eq_true, if_false] at hsame
          have HSAME := Lib.hid hsame
          have HQ := Lib.hid hq
          obtain ⟨b', off', hbo, _, u', d0, hu'⟩ := SlV.at HG.out hkn
          cases hbo
          simp only [Nat.mul_one, Nat.add_zero] at d0
          have d0 := (hH.below HC.out.below).cell d0
          obtain ⟨ua', uc', rfl⟩ := hu'.len
          have hgk' : g.getD k [] = g[k] := by simp [List.getD_eq_getElem?_getD, hkn]
          rw [hgk'] at hsame HSAME
          have hrest := restL_lt g seen k hq (List.range g.length) (List.mem_range.2 hkn)
          rw [hgk'] at hrest
          have HREST := Lib.hid (show (g[k].reverse ++ r).length + rest g (k :: seen) < gk - 1 from by
            simp only [List.length_append, List.length_reverse]
            unfold rest at hfuel ⊢
            omega)
          have HLK := Lib.hid (HLOW.out g[k] (List.getElem_mem hkn))
          have hgkl : r.length + g[k].length ≤ 1000000000 := by
            have := HREST.out
            simp only [List.length_append, List.length_reverse] at this
            omega
          have hblt' : b < wr.heap.size := by omega
          have hbne : b ≠ w.heap.size := by omega
          have HH1 := Lib.hid ((hH.below HC.out.below).setCell (a := ⟨w.heap.size, k, none⟩) (hH.isNone (Nat.le_refl _)) (.bool true))
          have HS2 := Lib.hid (heap_setCell_same wr w.heap.size k (.bool true) sc _ _ HSC.out.1)
          have HO2 := Lib.hid (own_setCell HCUT.out (a := ⟨w.heap.size, k, none⟩) (by intro e; cases e; exact hgne rfl) (.bool true))
          have hz2 : (wr.setCell ⟨w.heap.size, k, none⟩ (.bool true)).heap.size = wr.heap.size := by simp [World.setCell]
          have HBW := Lib.hid (HC.out.below.setCell (p := ⟨w.heap.size, k, none⟩) (Nat.le_refl _) (.bool true))
          have hgk1 : gk - 1 < gk := by omega
          clear hsame hq hgk' hrest hfuel
          generalize g[k] = gl at *
          obtain ⟨i0, hi0, z0, z1, z2⟩ := info_parts Tryd.infoInt
          -- what follows the append
          have FIN := Lib.hid (show ∀ v' w3, w3.ownsRow (w.heap.size + 1) 3 1 v' (r.length + gl.length) (r.reverse.map natV ++ gl.map natV) → (wr.setCell ⟨w.heap.size, k, none⟩ (.bool true)).grownBy w3 (some gq) → CycS w w3 g i w.heap.size (w.heap.size + 1) (gk - 1) v' (k :: seen) (gl.reverse ++ r) from fun v' w3 ho hg3 => by
            have hs3 := hg3.size
            refine ⟨HBW.out.grown hg3 (by omega) (fun q hq => by cases hq; omega), by have := HC.out.size; omega, ?_, ?_, HSAME.out, HREST.out, by omega, fun x hx => ?_⟩
            · rw [show (gl.reverse ++ r).length = r.length + gl.length from by simp; omega, show (gl.reverse ++ r).reverse.map natV = r.reverse.map natV ++ gl.map natV from by simp]
              exact ho
            · refine ⟨sc.setIfInBounds k (.bool true), ?_, by simp [HSC.out.2.1], fun x hx => ?_⟩
              · rw [hg3.block w.heap.size (by omega) (by intro e; cases e; exact hgne rfl)]; exact HS2.out
              · exact sc_set HSC.out.2.2 HSC.out.2.1 hkn x hx
            · rcases List.mem_append.1 hx with h | h
              · exact HLK.out x (List.mem_reverse.1 h)
              · exact HC.out.low x (List.mem_cons_of_mem _ h))
          rcases hu' with ⟨he, a3, c3, hsl⟩ | ⟨b3, off3, c3, hsl, e1, e2, e3⟩
          · subst he
            cases hsl
            have HRUN := Lib.hid (run_append_empty (P := Tryd.prog) 83 3 i0 Tryd.underlying83 hi0 HO2.out ua' uc')
            have hC3 := FIN.out _ _ (by simpa using HO2.out) (World.grownBy.refl _ _)
            have HC3 := Lib.hid hC3
            clear hC3
            go_wp2_with (at_builtin; refine wp_append_run rfl 83 83 _ _ rfl _ _ rfl rfl _ _ HRUN.out ?_)
            go_roundg (gk - 1)
            case rel => exact ⟨_, _, HC3.out⟩
            case measure => omega
          · cases hsl
            have HN := Lib.hid (IntsV.news e3 HH1.out)
            have HE := Lib.hid (And.intro e1 e2)
            clear e3 e1 e2 hm2
            go_wp2_with (at_builtin; refine wpList_append_own _ rfl _ _ 83 rfl (w.heap.size + 1) 3 i0 _ 1 8 Tryd.underlying83 hi0 z0 z1 z2 rfl (by decide) _ _ _ rfl HO2.out ⟨b3, off3, none⟩ gl.length uc' (gl.map natV) rfl ?c0 HN.out ?c1 ?c3 ?c4 ?c5 ?_)
            case c0 => simp
            case c1 => intro u hu; obtain ⟨x, _, rfl⟩ := List.mem_map.1 hu; rfl
            case c3 => unfold maxLen; omega
            case c4 => omega
            case c5 => have := HC.out.size; omega
            intro v' w3 ho hg3 _
            have hC3 := FIN.out v' w3 (by rw [List.map_reverse]; exact ho) hg3
            go_wp2_with fail
            go_roundg (gk - 1)
            case rel => exact ⟨_, _, hC3⟩
            case measure => omega
        · rw [hq] at hsame hcs
          simp only [if_true] at hsame
          have HSAME := Lib.hid hsame
          clear hsame hq
          go_wp2_with fail
          go_roundg (gk - 1)
          case rel => exact ⟨seen, r, HC.out.below, HC.out.size, HCUT.out, HC.out.sn, HSAME.out, by omega, by omega, fun x hx => HC.out.low x (List.mem_cons_of_mem _ hx)⟩
          case measure => omega
end Go.Proofs.YthihoafemahgmaaDoor
