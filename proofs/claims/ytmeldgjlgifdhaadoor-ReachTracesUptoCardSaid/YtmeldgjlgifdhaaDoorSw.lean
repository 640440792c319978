/- Walks: slices.Index at []bool, reach.wrong, slices.Reverse of inputs, reach.way, reach.own. -/
import Derived.Test.YtmeldgjlgifdhaaDoorSaM
namespace Go.Proofs.YtmeldgjlgifdhaaDoor
set_option maxRecDepth 100000
set_option maxHeartbeats 16000000
open Go.RowKit Mx
def idxN (l : List Bool) : Int := match l.findIdx? (fun b => !b) with | some k => (k : Int) | none => -1
theorem idxB_any (H : Kn) (l : List Bool) (v : Value) (hv : BlsV H l v) (hl : l.length ≤ 1000000000) (w : World) (hH : H.In w) :
  Calls Tryd.prog 88 #[v, .bool false] w fun r w' => r = .returned (.int .i64 (idxN l)) ∧ w = w' := by
 obtain ⟨a, c, rfl⟩ := hv.len
 have HV := Lib.hid hv
 clear hv
 go_enter Tryd.func88, Tryd.ntmps88
 go_wp2_with fail
 go_loop [8] (fun i => ∃ k : Nat, k ≤ l.length ∧ i = .int .i64 k ∧ (∀ j (hj : j < l.length), j < k → l[j] = true)) (fun i => l.length - (intOf i).toNat)
 case atStart => exact ⟨0, Nat.zero_le _, rfl, fun j _ h => by omega⟩
 case round =>
  obtain ⟨k, hk, rfl, hn⟩ := hrel
  have HN := Lib.hid hn
  clear hn
  by_cases hlt : k < l.length
  ·obtain ⟨b, off, haf, _, c0⟩ := SlV.at HV.out hlt
   subst haf
   have c0 : H.cell b (off + k * 1 + 0) = some (.bool l[k]) := c0
   simp only [Nat.mul_one, Nat.add_zero] at c0
   have c0 := hH.cell c0
   cases he : l[k] with
   | true =>
    rw [he] at c0
    have HN2 := Lib.hid (show ∀ j (hj : j < l.length), j < k + 1 → l[j] = true from fun j hj hjk => by
     by_cases hjk' : j < k
     ·exact HN.out j hj hjk'
     ·obtain rfl : j = k := by omega
      exact he)
    clear he
    go_wp2_with fail
    go_round
    case rel => exact ⟨k + 1, by omega, by go_num, HN2.out⟩
    case measure => simp [intOf]; omega
   | false =>
    rw [he] at c0
    have HF := Lib.hid (show idxN l = (k : Int) from by
     unfold idxN
     rw [show l.findIdx? (fun b => !b) = some k from List.findIdx?_eq_some_iff_getElem.2 ⟨hlt, by simp [he], fun j hj => by simp [HN.out j (by omega) hj]⟩])
    clear he
    go_wp2_with fail
    go_ret
    exact ⟨ret_int HF.out.symm, rfl⟩
  ·have HF := Lib.hid (show idxN l = -1 from by
    unfold idxN
    rw [show l.findIdx? (fun b => !b) = none from List.findIdx?_eq_none_iff.2 fun x hx => by
     obtain ⟨j, hj, rfl⟩ := List.mem_iff_getElem.1 hx
     simp [HN.out j hj (by omega)]])
   obtain rfl : k = l.length := by omega
   go_wp2_with fail
   go_ret
   exact ⟨ret_int HF.out.symm, rfl⟩
def wrongI (t : Tk) : Int := match wrongK t with | some k => k | none => -2
theorem wrongI_some {t : Tk} (h : -2 < wrongI t) : wrongK t = some (wrongI t) := by
 unfold wrongI at h ⊢
 cases e : wrongK t with
 | some k => rfl
 | none => rw [e] at h; exact absurd h (by decide)
theorem wrongI_none {t : Tk} (h : ¬ -2 < wrongI t) : wrongK t = none := by
 cases e : wrongK t with
 | none => rfl
 | some k =>
  have h2 := wrongK_last e
  unfold wrongI at h
  rw [e] at h
  dsimp only at h
  omega
theorem wrongI_at (t : Tk) (ht : t.trap = false) : wrongI t = if 0 ≤ idxN t.checks ∧ t.asrt = true then idxN t.checks else -2 := by
 unfold wrongI wrongK idxN
 rw [if_neg (by simp [ht])]
 by_cases ha : t.asrt = true
 ·rw [if_pos ha]
  cases e : t.checks.findIdx? (fun b => !b) with
  | some k => simp [ha]
  | none => simp
 ·rw [if_neg ha, if_neg (fun h => ha h.2)]
theorem wrong_any (H : Kn) (t : Tk) (ov cv : Value) (hk : TkV H t ov cv) (hl : t.checks.length ≤ 1000000000) (w : World) (hH : H.In w) :
  Calls Tryd.prog 62 #[.agg #[ov, .bool t.asrt, .bool t.trap, cv]] w fun r w' => r = .returned (.int .i64 (wrongI t)) ∧ Below w.heap.size w w' := by
 obtain ⟨a1, c1, rfl⟩ := hk.outs.len
 obtain ⟨a2, c2, rfl⟩ := hk.checks.len
 obtain ⟨xo, xa, xt, xc⟩ := t
 have hC : BlsV H xc (.slice a2 xc.length c2) := hk.checks
 have hat : xt = false → wrongI ⟨xo, xa, xt, xc⟩ = if 0 ≤ idxN xc ∧ xa = true then idxN xc else -2 := wrongI_at ⟨xo, xa, xt, xc⟩
 have htr : xt = true → wrongI ⟨xo, xa, xt, xc⟩ = -1 := fun h => by unfold wrongI wrongK; rw [if_pos h]
 have HAT := Lib.hid hat
 have HTR := Lib.hid htr
 have HC := Lib.hid hC
 generalize wrongI ⟨xo, xa, xt, xc⟩ = wi at *
 clear hk hat htr hC
 dsimp only at hl ⊢
 have hX := heap_alloc_new w (.cells #[.slice a1 xo.length c1, .bool xa, .bool xt, .slice a2 xc.length c2] 57)
 have hb : Below w.heap.size w (w.alloc (.cells #[.slice a1 xo.length c1, .bool xa, .bool xt, .slice a2 xc.length c2] 57)) := (Below.refl _ _).alloc (Nat.le_refl _) _
 obtain ⟨k0, k1, k2, k3, _, _⟩ := cell4_of hX
 have HB := Lib.hid hb
 have HH := Lib.hid (hH.below hb)
 clear hX hb
 go_enter Tryd.func62, Tryd.ntmps62
 cases xt with
 | true =>
  go_wp2_with fail
  go_ret
  exact ⟨ret_int (HTR.out (by simp)).symm, HB.out⟩
 | false =>
  go_wp2_with fail
  refine (idxB_any H xc _ HC.out hl _ HH.out).mono ?_
  rintro r w2 ⟨rfl, rfl⟩
  have HA2 := Lib.hid (HAT.out (by simp))
  clear HAT HTR
  generalize idxN xc = ix at *
  by_cases h0 : 0 ≤ ix
  ·cases xa with
   | true =>
    go_wp2_with fail
    go_ret
    exact ⟨ret_int (by rw [HA2.out, if_pos ⟨by omega, by simp⟩]), HB.out⟩
   | false =>
    go_wp2_with fail
    go_ret
    exact ⟨ret_int (by rw [HA2.out, if_neg (by simp)]), HB.out⟩
  ·go_wp2_with fail
   go_ret
   exact ⟨ret_int (by rw [HA2.out, if_neg (by omega)]), HB.out⟩
theorem reverse_nil (a : Option Addr) (c : Nat) (w : World) :
  Calls Tryd.prog 89 #[.slice a 0 c] w fun r w' => r = .returned (.tuple #[]) ∧ w = w' := by
 go_enter Tryd.func89, Tryd.ntmps89
 go_wp2_with fail
 refine wp_loop_rounds 1 ?_
 rw [rounds_succ]
 go_wp2_with fail
 go_end0
 exact ⟨rfl, rfl⟩
theorem reverse_any (l : List Value) (n : Nat) (hn : n = l.length) (hsh : ∀ x ∈ l, ∃ a n c, x = .slice a n c) (g cap : Nat) (T : TypeId) (cur : Array Value) (w : World) (hg : w.heap[g]? = some (.cells cur T (0, 0))) (hc : ∀ i (h : i < l.length), cur[i]? = some l[i]) (hl : l.length ≤ cap ∧ cap ≤ maxLen) :
  Calls Tryd.prog 89 #[.slice (some ⟨g, 0, none⟩) n cap] w fun r w' => r = .returned (.tuple #[]) ∧ Gr2 w w' g none ∧ ∃ cur', w'.heap[g]? = some (.cells cur' T (0, 0)) ∧ cur'.size = cur.size ∧ ∀ i (h : i < l.length), cur'[i]? = some (l[l.length - 1 - i]'(by omega)) := by
 subst hn
 obtain ⟨hl1, hl2⟩ := hl
 unfold maxLen at hl2
 have HSH := Lib.hid hsh
 clear hsh
 have hst : Gr2 w w g none ∧ ∃ cur', w.heap[g]? = some (.cells cur' T (0, 0)) ∧ cur'.size = cur.size ∧ ∀ t (h : t < l.length), cur'[t]? = some (if (t : Int) < 0 ∨ (l.length : Int) - 1 < t then l[l.length - 1 - t]'(by omega) else l[t]) :=
  ⟨Gr2.refl _ _ _, cur, hg, rfl, fun t ht => by rw [if_neg (by omega)]; exact hc t ht⟩
 have HST := Lib.hid hst
 clear hst hg hc
 go_enter Tryd.func89, Tryd.ntmps89
 go_wp2_with fail
 go_loopw [2, 3] (fun i j wr => ∃ (k : Nat) (m : Int), i = .int .i64 k ∧ j = .int .i64 m ∧ (k : Int) + m = (l.length : Int) - 1 ∧ k ≤ l.length ∧ Gr2 w wr g none ∧ ∃ cur', wr.heap[g]? = some (.cells cur' T (0, 0)) ∧ cur'.size = cur.size ∧ ∀ t (h : t < l.length), cur'[t]? = some (if (t : Int) < k ∨ m < t then l[l.length - 1 - t]'(by omega) else l[t])) (fun i _ _ => l.length - (intOf i).toNat)
 case atStart => exact ⟨0, (l.length : Int) - 1, rfl, rfl, by omega, Nat.zero_le _, HST.out⟩
 case round =>
  clear HST
  obtain ⟨k, m, rfl, rfl, hkm, hkl, hgr, cur', hgg, hsz, hat⟩ := hrel
  have HG := Lib.hid hgr
  have HGG := Lib.hid hgg
  have HAT := Lib.hid hat
  have HSZ := Lib.hid hsz
  clear hgr hgg hat hsz
  by_cases hlt : (k : Int) < m
  ·obtain ⟨mn, rfl⟩ : ∃ mn : Nat, m = (mn : Int) := ⟨m.toNat, by omega⟩
   have hkl2 : k < l.length := by omega
   have hml2 : mn < l.length := by omega
   obtain ⟨a1, n1, c1, h1⟩ := HSH.out _ (List.getElem_mem hkl2)
   obtain ⟨a2, n2, c2, h2⟩ := HSH.out _ (List.getElem_mem hml2)
   have p1 := HAT.out k hkl2
   have p2 := HAT.out mn hml2
   rw [if_neg (by omega), h1] at p1
   rw [if_neg (by omega), h2] at p2
   have hgg := HGG.out
   have c1' : wr.cell? ⟨g, k, none⟩ = some (.slice a1 n1 c1) := by
    have : wr.heap[g]? = some (.cells cur' T (0, 0)) := hgg
    simp [World.cell?, this, p1]
   have c2' : wr.cell? ⟨g, mn, none⟩ = some (.slice a2 n2 c2) := by
    have : wr.heap[g]? = some (.cells cur' T (0, 0)) := hgg
    simp [World.cell?, this, p2]
   clear hgg p1 p2
   have f1 : wr.frozen? ⟨g, k, none⟩ = false := by
    have : wr.heap[g]? = some (.cells cur' T (0, 0)) := HGG.out
    simp [World.frozen?, this]
   have f2 : wr.frozen? ⟨g, mn, none⟩ = false := by
    have : wr.heap[g]? = some (.cells cur' T (0, 0)) := HGG.out
    simp [World.frozen?, this]
   go_wp2_with fail
   go_region
   all_goals go_wp2_with fail
   have hs1 := heap_setCell_same wr g k (.slice a2 n2 c2) _ _ _ HGG.out
   have hs2 := heap_setCell_same _ g mn (.slice a1 n1 c1) _ _ _ hs1
   have hgr2 : Gr2 w ((wr.setCell ⟨g, k, none⟩ (.slice a2 n2 c2)).setCell ⟨g, mn, none⟩ (.slice a1 n1 c1)).drew g none := by
    have h : Gr2 w ((wr.setCell ⟨g, k, none⟩ (.slice a2 n2 c2)).setCell ⟨g, mn, none⟩ (.slice a1 n1 c1)) g none := (HG.out.setCell k _).setCell mn _
    exact ⟨h.os, h.tape, h.output, h.size, h.block⟩
   have hks : k < cur'.size := by
    have h := HAT.out k hkl2
    rcases Nat.lt_or_ge k cur'.size with h3 | h3
    ·exact h3
    ·rw [Array.getElem?_eq_none h3] at h; cases h
   have hms : mn < cur'.size := by
    have h := HAT.out mn hml2
    rcases Nat.lt_or_ge mn cur'.size with h3 | h3
    ·exact h3
    ·rw [Array.getElem?_eq_none h3] at h; cases h
   have hat : ∀ t (h : t < l.length), ((cur'.setIfInBounds k (.slice a2 n2 c2)).setIfInBounds mn (.slice a1 n1 c1))[t]? = some (if (t : Int) < ((k + 1 : Nat) : Int) ∨ (mn : Int) - 1 < t then l[l.length - 1 - t]'(by omega) else l[t]) := fun t ht => by
    rw [Array.getElem?_setIfInBounds, Array.getElem?_setIfInBounds]
    by_cases e1 : mn = t
    ·subst e1
     rw [if_pos rfl, if_pos (by simpa using hms), if_pos (by omega), ← h1]
     congr 2
     omega
    ·rw [if_neg e1]
     by_cases e2 : k = t
     ·subst e2
      rw [if_pos rfl, if_pos hks, if_pos (by omega), ← h2]
      congr 2
      omega
     ·rw [if_neg e2, HAT.out t ht]
      by_cases e3 : (t : Int) < k ∨ (mn : Int) < t
      ·rw [if_pos e3, if_pos (by omega)]
      ·rw [if_neg e3, if_neg (by omega)]
   have HX := Lib.hid (And.intro hgr2 (And.intro hs2 hat))
   go_roundw
   case rel => exact ⟨k + 1, (mn : Int) - 1, by go_num, rfl, by omega, by omega, HX.out.1, _, HX.out.2.1, by simp [HSZ.out], HX.out.2.2⟩
   case measure => simp [intOf]; omega
  ·go_wp2_with fail
   go_end0
   refine ⟨rfl, HG.out, cur', HGG.out, HSZ.out, fun t ht => ?_⟩
   rw [HAT.out t ht]
   by_cases e3 : (t : Int) < k ∨ m < t
   ·rw [if_pos e3]
   ·rw [if_neg e3]
    congr 2
    omega
theorem IsX.rev {K : Kn} {l : List (List Vl)} {xs ys : List Value} (h : IsX K l xs) (hl : ys.length = xs.length) (hy : ∀ i (hi : i < xs.length), ys[i]? = some (xs[xs.length - 1 - i]'(by omega))) : IsX K l.reverse ys := by
 obtain ⟨h1, h2⟩ := h
 rw [Nat.mul_one] at h1
 refine ⟨by rw [hl, h1, List.length_reverse, Nat.mul_one], fun i hi => ?_⟩
 have hi2 : i < l.length := by simpa using hi
 obtain ⟨u, a1, a2⟩ := h2 (l.length - 1 - i) (by omega)
 have a1 : (if 0 < 1 then xs[(l.length - 1 - i) * 1 + 0]? else none) = some u := a1
 rw [if_pos (by decide), Nat.mul_one, Nat.add_zero] at a1
 rw [List.getElem_reverse]
 refine ⟨u, ?_, a2⟩
 show (if 0 < 1 then ys[i * 1 + 0]? else none) = some u
 rw [if_pos (by decide), Nat.mul_one, Nat.add_zero, hy i (by omega), ← a1, List.getElem?_eq_getElem (by omega)]
 simp only [h1]
theorem way_any (K : Kn) (l : List StE) (v : Value) (hv : StsV K l v) (hw : Bf.WayOk l) (at_ : Nat) (ha : at_ < l.length) (hl : l.length ≤ 100000) (w : World) (hH : K.In w) :
  Calls Tryd.prog 64 #[v, .int .i64 at_] w fun r w' => ∃ v' xs, r = .returned v' ∧ w'.ownsRow w.heap.size 54 1 v' (Bf.W l at_).length xs ∧ IsX K (Bf.W l at_) xs ∧ Below w.heap.size w w' := by
 obtain ⟨a, c, rfl⟩ := hv.len
 have HV := Lib.hid hv
 have HW := Lib.hid hw
 clear hv hw
 go_enter Tryd.func64, Tryd.ntmps64
 go_wp2_with fail
 go_loopw [1, 5] (fun i u wr => ∃ (j : Nat) (ws : List (List Vl)) (xs : List Value), i = .int .i64 j ∧ j < l.length ∧ ws.length + j ≤ at_ ∧ Bf.W l at_ = Bf.W l j ++ ws.reverse ∧ wr.ownsRow w.heap.size 54 1 u ws.length xs ∧ IsX K ws xs ∧ Below w.heap.size w wr) (fun i _ _ => (intOf i).toNat)
 case atStart => exact ⟨at_, [], [], rfl, ha, by simp, by simp, World.ownsRow_nil _ _ _ _, RowX.nil, Below.refl _ _⟩
 case round =>
  obtain ⟨j, ws, xs, rfl, hj, hlen, hway, hrow, hxs, hb⟩ := hrel
  have HR := Lib.hid hrow
  have HX := Lib.hid hxs
  have HB := Lib.hid hb
  have HWAY := Lib.hid hway
  obtain ⟨au, cu, rfl, _⟩ := own_len hrow
  clear hrow hxs hb hway
  obtain ⟨b, off, a1, c1, a2, c2, haf, d0, d1, d2, _, hc⟩ := StsV.at HV.out hj
  subst haf
  have D1 := Lib.hid d1
  have d1 := (hH.below HB.out).cell d1
  have d2 := (hH.below HB.out).cell d2
  have HC := Lib.hid hc
  have hor := HW.out j hj
  have HP := Lib.hid (fun f e hf => HW.out.pos hj (f := f) e hf)
  have HN := Lib.hid (fun h => Bf.W_neg (l := l) hj h)
  clear hc d0
  generalize l[j].frm = fr at *
  generalize l[j].c = x at *
  rcases hor with h0 | ⟨f, rfl, hf⟩
  ·have HW0 := Lib.hid (show Bf.W l at_ = ws.reverse from by rw [HWAY.out, HN.out h0, List.nil_append])
   have q : ¬ 0 ≤ fr := by omega
   clear HWAY HN HP HC
   go_wp2_with fail
   by_cases hws : ws.length = 0
   ·have hws2 : ws = [] := List.eq_nil_of_length_eq_zero hws
    subst hws2
    refine (reverse_nil au cu wr).mono ?_
    rintro r w2 ⟨rfl, rfl⟩
    go_wp2_with fail
    go_ret
    exact ⟨_, xs, rfl, by rw [HW0.out]; exact HR.out, by rw [HW0.out]; exact HX.out, HB.out⟩
   ·have hrow := HR.out
    rcases hrow.2 with ⟨_, h1⟩ | ⟨g, cap, cur, e1, hbg, hg, hnc, hcm, hsz, htake⟩
    ·exact absurd h1 hws
    cases e1
    have hxl : xs.length = ws.length := by have := HX.out.1; omega
    have hcur : ∀ i (h : i < xs.length), cur[i]? = some xs[i] := fun i hi => by
     have h3 : (cur.toList.take (ws.length * 1))[i]? = xs[i]? := by rw [htake]
     rw [List.getElem?_take_of_lt (by omega), List.getElem?_eq_getElem hi] at h3
     simpa using h3
    have hsh : ∀ x ∈ xs, ∃ a n c, x = .slice a n c := fun x hx => by
     obtain ⟨i, hi, rfl⟩ := List.mem_iff_getElem.1 hx
     obtain ⟨u, g1, g2⟩ := HX.out.2 i (by omega)
     have g1 : (if 0 < 1 then xs[i * 1 + 0]? else none) = some u := g1
     rw [if_pos (by decide), Nat.mul_one, Nat.add_zero, List.getElem?_eq_getElem hi] at g1
     cases g1
     obtain ⟨a, c, e⟩ := g2.len
     exact ⟨a, _, c, e⟩
    have hrev := reverse_any xs ws.length hxl.symm hsh g cu 54 cur wr hg hcur ⟨by omega, hcm⟩
    refine hrev.mono ?_
    rintro r w2 ⟨rfl, hg2, cur', hgg, hsz2, hat⟩
    have hb2 : Below w.heap.size w w2 := ⟨hg2.os.trans HB.out.os, hg2.tape.trans HB.out.tape, hg2.output.trans HB.out.output, Nat.le_trans HB.out.size hg2.size, fun i hi => by
     rw [hg2.block i (Nat.lt_of_lt_of_le hi HB.out.size) (by omega) (by simp)]; exact HB.out.block i hi⟩
    have hys : ((cur'.toList.take ws.length)).length = xs.length := by
     have : ws.length ≤ cur'.size := by rw [hsz2, hsz]; omega
     simp [hxl, this]
    have hyx : ∀ i (hi : i < xs.length), (cur'.toList.take ws.length)[i]? = some (xs[xs.length - 1 - i]'(by omega)) := fun i hi => by
     rw [List.getElem?_take_of_lt (by omega)]
     have := hat i (by omega)
     simpa [hxl] using this
    have hx2 := IsX.rev HX.out hys hyx
    have hrow2 : w2.ownsRow w.heap.size 54 1 (.slice (some ⟨g, 0, none⟩) ws.length cu) ws.length (cur'.toList.take ws.length) := ⟨by rw [hys, hxl, Nat.mul_one], .inr ⟨g, cu, cur', rfl, hbg, hgg, hnc, hcm, by rw [hsz2]; exact hsz, by rw [Nat.mul_one]⟩⟩
    have HF := Lib.hid (And.intro hrow2 (And.intro hx2 hb2))
    clear hrow hg hcur hsh hrev hg2 hgg hat hb2 hys hyx hx2 hrow2 htake hsz
    go_wp2_with fail
    go_ret
    refine ⟨_, _, rfl, ?_, by rw [HW0.out]; exact HF.out.2.1, HF.out.2.2⟩
    rw [HW0.out, List.length_reverse]
    exact HF.out.1
  ·have HW2 := Lib.hid (show Bf.W l at_ = Bf.W l f ++ (ws ++ [x]).reverse from by rw [HWAY.out, HP.out f rfl hf]; simp)
   have q : (0 : Int) ≤ f := by omega
   clear HWAY HN HP
   have HR2 := Lib.hid (own_below HR.out ((Below.refl wr.heap.size wr).alloc (Nat.le_refl _) (.cells #[.slice a2 x.length c2] 54)))
   have hsz := HB.out.size
   go_wp2_with (at_builtin; refine app1L 45 54 1 24 _ Tryd.underlying45 Tryd.infoIs rfl (by decide) _ _ rfl rfl w.heap.size _ _ _ rfl HR2.out ⟨wr.heap.size, 0, none⟩ 1 [.slice a2 x.length c2] rfl rfl ?c1 ?c2 ?c3 ?c4 ?c5 ?_)
   case c1 => exact cells1 _ _ _
   case c2 => simp [Value.oneCell']
   case c3 => omega
   case c4 => omega
   case c5 => simp; omega
   intro g cap' w3 ho hg3 hat
   have hb3 : Below w.heap.size w w3 := (HB.out.alloc hsz _).grown hg3 (by simp; omega) (fun q hq => (HR2.out.lt q hq).1)
   have HF := Lib.hid (And.intro ho (And.intro (show IsX K (ws ++ [x]) (xs ++ [.slice a2 x.length c2]) from RowX.snoc IsC.pm HX.out rfl ⟨_, rfl, HC.out⟩) hb3))
   have d1' := (hH.below hb3).cell D1.out
   clear ho hg3 hat hb3
   go_wp2_with fail
   go_roundw
   case rel => exact ⟨f, ws ++ [x], _, by go_num, by omega, by simp; omega, HW2.out, by rw [List.length_append]; exact HF.out.1, HF.out.2.1, HF.out.2.2⟩
   case measure => simp [intOf]; omega
theorem Kn.Step.join {K : Kn} {w w' : World} (h : K.In w) (hb : Below w.heap.size w w') : Kn.Step K w (joinKn K w.heap.size w') w' :=
 ⟨joinKn_le h w', fun b hbl => by unfold joinKn; rw [if_pos hbl], joinKn_in h hb, hb⟩
theorem own_any (H : Kn) (l : List (List Vl)) (v : Value) (hv : InsV H l v) (hz : l.length ≤ 1000000 ∧ ∀ x ∈ l, x.length ≤ 1000000) (w : World) (hH : H.In w) :
  Calls Tryd.prog 63 #[v] w fun r w' => ∃ v' K, r = .returned v' ∧ InsV K l v' ∧ Kn.Step (fun _ => none) w K w' := by
 obtain ⟨a, cap, rfl⟩ := hv.len
 have HU := Lib.hid hv
 obtain ⟨z1, z2⟩ := hz
 have HZ := Lib.hid z2
 clear hv z2
 go_enter Tryd.func63, Tryd.ntmps63
 go_wp2_with fail
 have HS0 := Lib.hid (show RwO 54 1 IsX (fun _ => none) w w w.heap.size l 0 (.slice none 0 0) [] (fun _ => none) from
  ⟨Kn.le_refl _, fun _ _ => rfl, (fun b o e => by cases e), Below.refl _ _, Nat.le_refl _, World.ownsRow_nil _ _ _ _, RowX.nil, fun g hg => by simp [Value.ownBlock] at hg⟩)
 go_loopw [3, 8] (fun u i wr => ∃ (k : Nat) (xs : List Value) (K : Kn), i = .int .i64 k ∧ k ≤ l.length ∧ RwO 54 1 IsX (fun _ => none) w wr w.heap.size l k u xs K) (fun _ i _ => l.length - (intOf i).toNat)
 case atStart => exact ⟨0, _, _, rfl, Nat.zero_le _, HS0.out⟩
 case round =>
  obtain ⟨k, xs, K, rfl, hk, hS⟩ := hrel
  have HS := Lib.hid hS
  obtain ⟨au, cu, rfl, _⟩ := own_len hS.row
  clear hS
  by_cases hkl : k < l.length
  ·obtain ⟨b, off, a2, c2, haf, c0, hx⟩ := HU.out.at hkl
   subst haf
   have hlx := HZ.out _ (List.getElem_mem hkl)
   have c0 := (hH.below HS.out.below).cell c0
   have HT := Lib.hid (take_snoc l k hkl)
   generalize l[k] = x at *
   have HX := Lib.hid hx
   clear hx
   go_wp2_with fail
   refine (cloneV_any H x _ HX.out (by omega) wr (hH.below HS.out.below)).mono ?_
   rintro r W2 ⟨v', rfl, hv2, hb2⟩
   obtain ⟨a3, c3, rfl⟩ := hv2.len
   have HS2 := Lib.hid ((RwO.next (RowX.mono IsC.pm) HS.out (Kn.Step.join HS.out.isin hb2)).alloc (.cells #[.slice a3 x.length c3] 54))
   have HU2 := Lib.hid (SlV.le hv2 (joinKn_new K wr.heap.size W2) VlC.mono)
   clear hv2 hb2 c0
   generalize joinKn K wr.heap.size W2 = K2 at *
   go_wp2_with (at_builtin; refine app1L 45 54 1 24 _ Tryd.underlying45 Tryd.infoIs rfl (by decide) _ _ rfl rfl w.heap.size _ _ _ rfl HS2.out.row ⟨W2.heap.size, 0, none⟩ 1 [.slice a3 x.length c3] rfl rfl ?c1 ?c2 ?c3 ?c4 ?c5 ?_)
   case c1 => exact cells1 _ _ _
   case c2 => simp [Value.oneCell']
   case c3 => omega
   case c4 => omega
   case c5 => exact HS2.out.size
   intro g cap' w3 ho hg3 hat
   have HS3 := Lib.hid (RwO.step (n' := 1) HS2.out (by rw [HT.out]; exact RowX.snoc IsC.pm HS2.out.xs rfl ⟨_, rfl, HU2.out⟩) ho hg3 (by rw [World.size_alloc]; exact hat))
   go_wp2_with fail
   go_roundw
   case rel => exact ⟨k + 1, _, K2, by go_num, by omega, HS3.out⟩
   case measure => simp [intOf]; omega
  ·obtain rfl : k = l.length := by omega
   have hxs : IsX K (List.take l.length l) xs := HS.out.xs
   rw [List.take_of_length_le (Nat.le_refl _)] at hxs
   obtain ⟨K', hle, hin, hv, hfr⟩ := slv_of_own (R := IsC) HS.out.isin HS.out.row HS.out.noR (RowX.at IsC.pm hxs)
   have HST := Lib.hid (show Kn.Step (fun _ => none) w K' wr from ⟨Kn.le_trans HS.out.le hle, fun b hb => (hfr b hb).trans (HS.out.fresh b hb), hin, HS.out.below⟩)
   have HV := Lib.hid hv
   clear hv hin hfr hle
   go_wp2_with fail
   go_ret
   first | exact ⟨_, K', rfl, HV.out, HST.out⟩ | exact ⟨_, rfl, K', HV.out, HST.out⟩
end Go.Proofs.YtmeldgjlgifdhaaDoor
