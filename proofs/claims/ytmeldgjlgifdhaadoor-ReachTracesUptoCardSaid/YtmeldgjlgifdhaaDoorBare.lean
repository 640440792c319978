/- Walks: lustrumlaw2.bare. -/
import Derived.Test.YtmeldgjlgifdhaaDoorProg
import Derived.Test.YtmeldgjlgifdhaaDoorEx
import Derived.Test.YtmeldgjlgifdhaaDoorMx
import Derived.Lib.Hide
import Derived.WalkKit
import Derived.Test.YtmeldgjlgifdhaaDoorSe
namespace Go.Proofs.YtmeldgjlgifdhaaDoor
set_option maxRecDepth 100000
set_option maxHeartbeats 16000000
open Mx
def bareP : Pr := ⟨[], [⟨#[120]⟩], [⟨⟨#[120]⟩, 1, .mk oTrue 0 ⟨#[]⟩ []⟩], [], []⟩
end Go.Proofs.YtmeldgjlgifdhaaDoor
namespace Go.Proofs.YtmeldgjlgifdhaaDoor
set_option maxRecDepth 100000
set_option maxHeartbeats 16000000
open Go.RowKit Mx
theorem lbare_any (w : World) :
  Calls Tryd.prog 20 #[] w fun r w' => ∃ vi vo vl va vc, r = .returned (.agg #[vi, vo, vl, va, vc]) ∧ PrP (allKn w') bareP vi vo vl va vc ∧ Below w.heap.size w w' := by
 go_enter Tryd.func20, Tryd.ntmps20
 go_wp2_with fail
 have hb : Below w.heap.size w (((w.alloc (.cells #[.slice none 0 0, .slice (some ⟨w.heap.size + 1, 0, none⟩) 1 1, .slice (some ⟨w.heap.size + 1 + 1, 0, none⟩) 1 1, .slice none 0 0, .slice none 0 0] 34)).alloc (.cells #[.string ⟨#[120]⟩] 9)).alloc (.cells #[.string ⟨#[120]⟩, .int .i64 1, .string ⟨#[116, 114, 117, 101]⟩, .int .i64 0, .string ⟨#[]⟩, .slice none 0 0] 63)) := by go_grown
 have h1 : ∀ i, (((w.alloc (.cells #[.slice none 0 0, .slice (some ⟨w.heap.size + 1, 0, none⟩) 1 1, .slice (some ⟨w.heap.size + 1 + 1, 0, none⟩) 1 1, .slice none 0 0, .slice none 0 0] 34)).alloc (.cells #[.string ⟨#[120]⟩] 9)).alloc (.cells #[.string ⟨#[120]⟩, .int .i64 1, .string ⟨#[116, 114, 117, 101]⟩, .int .i64 0, .string ⟨#[]⟩, .slice none 0 0] 63)).cell? ⟨w.heap.size, i, none⟩ = (#[.slice none 0 0, .slice (some ⟨w.heap.size + 1, 0, none⟩) 1 1, .slice (some ⟨w.heap.size + 1 + 1, 0, none⟩) 1 1, .slice none 0 0, .slice none 0 0] : Array Value)[i]? := fun i => by
  rw [World.cell?_alloc_past _ _ _ (by simp; omega), World.cell?_alloc_past _ _ _ (by simp), World.cell?_alloc_new]
 have h2 : ∀ i, (((w.alloc (.cells #[.slice none 0 0, .slice (some ⟨w.heap.size + 1, 0, none⟩) 1 1, .slice (some ⟨w.heap.size + 1 + 1, 0, none⟩) 1 1, .slice none 0 0, .slice none 0 0] 34)).alloc (.cells #[.string ⟨#[120]⟩] 9)).alloc (.cells #[.string ⟨#[120]⟩, .int .i64 1, .string ⟨#[116, 114, 117, 101]⟩, .int .i64 0, .string ⟨#[]⟩, .slice none 0 0] 63)).cell? ⟨w.heap.size + 1, i, none⟩ = (#[.string ⟨#[120]⟩] : Array Value)[i]? := fun i => by
  rw [World.cell?_alloc_past _ _ _ (by simp)]
  have := World.cell?_alloc_new (w := w.alloc (.cells #[.slice none 0 0, .slice (some ⟨w.heap.size + 1, 0, none⟩) 1 1, .slice (some ⟨w.heap.size + 1 + 1, 0, none⟩) 1 1, .slice none 0 0, .slice none 0 0] 34)) #[.string ⟨#[120]⟩] 9 i
  rw [World.size_alloc] at this
  exact this
 have h3 : ∀ i, (((w.alloc (.cells #[.slice none 0 0, .slice (some ⟨w.heap.size + 1, 0, none⟩) 1 1, .slice (some ⟨w.heap.size + 1 + 1, 0, none⟩) 1 1, .slice none 0 0, .slice none 0 0] 34)).alloc (.cells #[.string ⟨#[120]⟩] 9)).alloc (.cells #[.string ⟨#[120]⟩, .int .i64 1, .string ⟨#[116, 114, 117, 101]⟩, .int .i64 0, .string ⟨#[]⟩, .slice none 0 0] 63)).cell? ⟨w.heap.size + 1 + 1, i, none⟩ = (#[.string ⟨#[120]⟩, .int .i64 1, .string ⟨#[116, 114, 117, 101]⟩, .int .i64 0, .string ⟨#[]⟩, .slice none 0 0] : Array Value)[i]? := fun i => by
  have := World.cell?_alloc_new (w := (w.alloc (.cells #[.slice none 0 0, .slice (some ⟨w.heap.size + 1, 0, none⟩) 1 1, .slice (some ⟨w.heap.size + 1 + 1, 0, none⟩) 1 1, .slice none 0 0, .slice none 0 0] 34)).alloc (.cells #[.string ⟨#[120]⟩] 9)) #[.string ⟨#[120]⟩, .int .i64 1, .string ⟨#[116, 114, 117, 101]⟩, .int .i64 0, .string ⟨#[]⟩, .slice none 0 0] 63 i
  rw [World.size_alloc, World.size_alloc] at this
  exact this
 generalize ((w.alloc (.cells #[.slice none 0 0, .slice (some ⟨w.heap.size + 1, 0, none⟩) 1 1, .slice (some ⟨w.heap.size + 1 + 1, 0, none⟩) 1 1, .slice none 0 0, .slice none 0 0] 34)).alloc (.cells #[.string ⟨#[120]⟩] 9)).alloc (.cells #[.string ⟨#[120]⟩, .int .i64 1, .string ⟨#[116, 114, 117, 101]⟩, .int .i64 0, .string ⟨#[]⟩, .slice none 0 0] 63) = W at *
 have q0 := h1 0
 have q1 := h1 1
 have q2 := h1 2
 have q3 := h1 3
 have q4 := h1 4
 simp at q0 q1 q2 q3 q4
 refine bodyPost_ret (v := .agg #[.slice none 0 0, .slice (some ⟨w.heap.size + 1, 0, none⟩) 1 1, .slice (some ⟨w.heap.size + 1 + 1, 0, none⟩) 1 1, .slice none 0 0, .slice none 0 0]) (by simp [results, Tryd.results20, go_sem, q0, q1, q2, q3, q4]) rfl ?_
 refine ⟨_, _, _, _, _, rfl, ⟨.inl ⟨rfl, none, 0, rfl⟩, .inr ⟨_, 0, 1, rfl, by simp [bareP], by unfold maxLen; omega, fun i hi => ?_⟩, .inr ⟨_, 0, 1, rfl, by simp [bareP], by unfold maxLen; omega, fun i hi => ?_⟩, .inl ⟨rfl, none, 0, rfl⟩, .inl ⟨rfl, none, 0, rfl⟩⟩, hb⟩
 ·obtain rfl : i = 0 := by simpa [bareP] using hi
  show (allKn W).cell _ _ = _
  rw [allKn_cell, h2]
  rfl
 ·obtain rfl : i = 0 := by simpa [bareP] using hi
  refine ⟨?_, ?_, ?_, ?_, ?_, .inl ⟨rfl, none, 0, ?_⟩⟩
  all_goals show (allKn W).cell _ _ = _
  all_goals rw [allKn_cell, h3]
  all_goals rfl
end Go.Proofs.YtmeldgjlgifdhaaDoor
namespace Go.Proofs.YtmeldgjlgifdhaaDoor
set_option maxRecDepth 100000
set_option maxHeartbeats 16000000
open Go.RowKit Mx
theorem searchE_zero {p : Pr} {choices : List (List Vl)} {most : Int} (h : (searchE p choices most).1 = 0) : (checkM p).1 = 0 ∧ 1 ≤ most ∧ most ≤ 3000 ∧ choices.length ≤ 100 ∧ ∀ x ∈ choices, inpsTo p.ins x x.length = true := by
 unfold searchE at h
 split at h
 ·exact absurd h ‹_›
 ·rename_i h0
  split at h
  ·cases h
  ·rename_i h1
   refine ⟨(runE_zero (Classical.not_not.1 h0)).1, by omega, by omega, by omega, fun x hx => ?_⟩
   split at h
   ·cases h
   ·rename_i h2
    have := List.findIdx?_eq_none_iff.1 h2 x hx
    simpa using this
theorem SearchPost.told {sp : Nat → Addr} {p : Pr} {choices : List (List Vl)} {most : Int} {w : World} {r : Ending} {w' : World} (h : SearchPost sp p choices most w r w') : Below w.heap.size w w' ∧ ((∃ t u, r = .returned (.tuple #[toldZ, .iface t u])) ∨ ((searchE p choices most).1 = 0 ∧ ∃ ks ord, freshGo Env.none p.vars = some ks ∧ orderM p = .ok ord ∧
  ((∃ l, searchM ks ord p choices most.toNat = .ok l ∧ r = .returned (.tuple #[.agg #[.int .i64 l.length, .slice none 0 0, .int .i64 (-2)], .nilIface])) ∨
   ∃ i l c k v, searchM ks ord p choices most.toNat = .found i l c k ∧ r = .returned (.tuple #[.agg #[.int .i64 l.length, v, .int .i64 k], .nilIface]) ∧ InsV (allKn w') (Bf.W l i ++ [c]) v))) := by
 obtain ⟨hb, h⟩ := h
 refine ⟨hb, ?_⟩
 split at h
 ·rename_i hz
  obtain ⟨ks, ord, h1, h2, h3⟩ := h
  split at h3
  ·exact .inl ⟨_, _, h3⟩
  ·rename_i l e
   exact .inr ⟨hz, ks, ord, h1, h2, .inl ⟨l, e, h3⟩⟩
  ·rename_i i l c k e
   obtain ⟨v, h4, h5⟩ := h3
   exact .inr ⟨hz, ks, ord, h1, h2, .inr ⟨i, l, c, k, v, e, h4, h5⟩⟩
 ·rename_i hz
  obtain ⟨v, h1, h2⟩ := h
  rcases h2 with ⟨_, h2⟩ | ⟨_, N, h2, _⟩
  ·obtain ⟨c, hc⟩ : ∃ c, (searchE p choices most).1 = c + 1 := ⟨(searchE p choices most).1 - 1, by omega⟩
   rw [hc] at h2
   exact .inl ⟨_, _, by rw [h1, h2]; rfl⟩
  ·exact .inl ⟨_, _, by rw [h1, h2]⟩
theorem isX_mk {K : Kn} {l : List (List Vl)} {xs : List Value} (h : xs.length = l.length) (hx : ∀ i (hi : i < l.length), ∃ u, xs[i]? = some u ∧ VlsV K l[i] u) : IsX K l xs := by
 refine ⟨by omega, fun i hi => ?_⟩
 obtain ⟨u, h1, h2⟩ := hx i hi
 refine ⟨u, ?_, h2⟩
 show (if 0 < 1 then xs[i * 1 + 0]? else none) = some u
 rw [if_pos (by decide), Nat.mul_one, Nat.add_zero]
 exact h1
theorem isX_at {K : Kn} {l : List (List Vl)} {xs : List Value} (h : IsX K l xs) : xs.length = l.length ∧ ∀ i (hi : i < l.length), ∃ u, xs[i]? = some u ∧ VlsV K l[i] u := by
 obtain ⟨h1, h2⟩ := h
 refine ⟨by omega, fun i hi => ?_⟩
 obtain ⟨u, a1, a2⟩ := h2 i hi
 have a1 : (if 0 < 1 then xs[i * 1 + 0]? else none) = some u := a1
 rw [if_pos (by decide), Nat.mul_one, Nat.add_zero] at a1
 exact ⟨u, a1, a2⟩
theorem ins_news {K : Kn} {W : World} (hK : K.In W) {l : List (List Vl)} {b off c : Nat} (h : InsV K l (.slice (some ⟨b, off, none⟩) l.length c)) :
  ∃ ys : List Value, IsX K l ys ∧ (∀ j u, ys[j]? = some u → W.cell? ((⟨b, off, none⟩ : Addr).add j) = some u) ∧ ∀ u ∈ ys, u.oneCell' = true := by
 have hat : ∀ i (hi : i < l.length), ∃ u, K.cell b (off + i) = some u ∧ VlsV K l[i] u := fun i hi => by
  obtain ⟨b', off', a2, c2, e, c0, hv⟩ := InsV.at h hi
  cases e
  exact ⟨_, c0, hv⟩
 have hget : ∀ i (hi : i < l.length), ∃ u, ((List.range l.length).map fun i => (K.cell b (off + i)).getD .nilIface)[i]? = some u ∧ K.cell b (off + i) = some u ∧ VlsV K l[i] u := fun i hi => by
  obtain ⟨u, h1, h2⟩ := hat i hi
  exact ⟨u, by simp [hi, h1], h1, h2⟩
 refine ⟨(List.range l.length).map fun i => (K.cell b (off + i)).getD .nilIface, isX_mk (by simp) (fun i hi => ?_), fun j u hu => ?_, fun u hu => ?_⟩
 ·obtain ⟨u, h1, _, h3⟩ := hget i hi
  exact ⟨u, h1, h3⟩
 ·have hj : j < l.length := by
   rcases Nat.lt_or_ge j l.length with h1 | h1
   ·exact h1
   ·rw [List.getElem?_eq_none (by simpa using h1)] at hu; cases hu
  obtain ⟨x, h1, h2, _⟩ := hget j hj
  rw [h1] at hu
  cases hu
  rw [addr_add']
  exact hK.cell h2
 ·obtain ⟨j, hj, rfl⟩ := List.mem_iff_getElem.1 hu
  have hj2 : j < l.length := by simpa using hj
  obtain ⟨x, h1, _, h3⟩ := hget j hj2
  rw [List.getElem?_eq_getElem hj] at h1
  cases h1
  obtain ⟨a, c, e⟩ := h3.len
  rw [e]; rfl
theorem IsX.append {K : Kn} {l m : List (List Vl)} {xs ys : List Value} (h : IsX K l xs) (k : IsX K m ys) : IsX K (l ++ m) (xs ++ ys) := by
 obtain ⟨h1, h2⟩ := isX_at h
 obtain ⟨k1, k2⟩ := isX_at k
 refine isX_mk (by simp [h1, k1]) fun i hi => ?_
 by_cases hil : i < l.length
 ·obtain ⟨u, a1, a2⟩ := h2 i hil
  rw [List.getElem_append_left hil]
  exact ⟨u, by rw [List.getElem?_append_left (by omega)]; exact a1, a2⟩
 ·have hi2 : i - l.length < m.length := by simp at hi; omega
  obtain ⟨u, a1, a2⟩ := k2 _ hi2
  rw [List.getElem_append_right (by omega)]
  exact ⟨u, by rw [List.getElem?_append_right (by omega), h1]; exact a1, a2⟩
theorem run_app_ins {K : Kn} {W : World} (hK : K.In W) {l : List (List Vl)} {a : Option Addr} {c : Nat} (h : InsV K l (.slice a l.length c)) {base n : Nat} {v : Value} {xs : List Value} (hown : W.ownsRow base 54 1 v n xs) (hbase : base ≤ W.heap.size) (hl : n + l.length ≤ 1000000000) :
  ∃ v' W' ys, IsX K l ys ∧ (∀ ty, (Builtin.append_ #[45, 45] ty #[v, .slice a l.length c]).run Tryd.prog W = .ok v' W') ∧ W'.ownsRow base 54 1 v' (n + l.length) (xs ++ ys) ∧ W.grownBy W' v.ownBlock := by
 obtain ⟨i1, hi1, hy0, hy1, hy2⟩ := info_parts Tryd.infoIs
 by_cases h0 : l = []
 ·subst h0
  exact ⟨v, W, [], RowX.nil, fun ty => run_append_empty 45 54 i1 Tryd.underlying45 hi1 hown a c ty, by simpa using hown, ⟨rfl, rfl, rfl, Nat.le_refl _, fun _ _ _ => rfl⟩⟩
 ·have hlen : 0 < l.length := List.length_pos_iff.2 h0
  obtain ⟨b, off, he, _⟩ := SlV.at h hlen
  subst he
  obtain ⟨ys, g1, g2, g3⟩ := ins_news hK h
  have hrun := fun ty => run_append_lies (P := Tryd.prog) W 45 ty base 54 i1 _ 1 24 Tryd.underlying45 hi1 hy0 hy1 hy2 rfl (by omega) v n xs hown ⟨b, off, none⟩ l.length c ys (by have := g1.1; omega) g2 g3 hlen (by unfold maxLen; omega) (by omega) hbase W.heap.size rfl
  obtain ⟨g, cap', W', h1, h2, h3, h4, h5⟩ := hrun 0
  exact ⟨_, W', ys, g1, fun ty => h1, h2, h3⟩
theorem still_ord : orderM bareP = .ok [0] := by kernel_rfl
theorem still_ks : freshGo Env.none bareP.vars = some (Env.none.set ⟨#[120]⟩ 1) := by kernel_rfl
theorem still_E : searchE bareP [[]] 5 = (0, -1) := by kernel_rfl
theorem still_S : searchM (Env.none.set ⟨#[120]⟩ 1) [0] bareP [[]] 5 = .ok [⟨[⟨1, 1⟩], -1, []⟩, ⟨[⟨1, 0⟩], 0, []⟩] := by kernel_rfl
theorem still_any (H : Kn) (T : LevelsAt H) (sp : Nat → Addr) (w : World) (hH : H.In w) (S : Sen5 w sp) :
  Calls Tryd.prog 16 #[] w fun r w' => r = .returned (.bool true) ∧ Below w.heap.size w w' := by
 have hle : ∀ w1, Below w.heap.size w w1 → LevelsAt (allKn w1) := fun w1 hb => T.le (kn_le_all (hH.below hb))
 have HLE := Lib.hid hle
 clear hle
 go_enter Tryd.func16, Tryd.ntmps16
 go_wp2_with fail
 refine (lbare_any _).mono ?_
 rintro r w1 ⟨vi, vo, vl, va, vc, rfl, hp, hb1⟩
 have HB1 := Lib.hid hb1
 have HP1 := Lib.hid hp
 clear hb1 hp
 go_wp2_with fail
 have hb2 : Below w.heap.size w (w1.alloc (.cells #[.slice none 0 0] 54)) := HB1.out.alloc HB1.out.size _
 have hin : InsV (allKn (w1.alloc (.cells #[.slice none 0 0] 54))) [[]] (.slice (some ⟨w1.heap.size, 0, none⟩) 1 1) := by
  refine .inr ⟨_, 0, 1, rfl, by simp, by unfold maxLen; omega, fun i hi => ?_⟩
  obtain rfl : i = 0 := by simpa using hi
  refine ⟨.slice none 0 0, ?_, .inl ⟨rfl, none, 0, rfl⟩⟩
  show (allKn _).cell _ _ = _
  rw [allKn_cell]
  simp
 have hp2 : PrP (allKn (w1.alloc (.cells #[.slice none 0 0] 54))) bareP vi vo vl va vc := HP1.out.le (kn_le_all ((allKn_in w1).alloc _))
 refine (search_any _ (HLE.out _ hb2) sp bareP _ _ _ _ _ hp2 [[]] _ hin 5 _ (allKn_in _) (S.below hb2) ⟨by decide, by decide, by decide, by decide, by decide⟩ (by decide) ⟨by decide, fun x hx => by simp at hx; subst hx; decide⟩).mono ?_
 rintro r w3 ⟨hb3, hpost⟩
 have HB3 := Lib.hid (hb2.trans (hb3.mono hb2.size))
 rw [still_E, if_pos rfl] at hpost
 obtain ⟨ks, ord, hks, ho, hpost⟩ := hpost
 rw [still_ord] at ho
 cases ho
 rw [still_ks] at hks
 cases hks
 rw [show (5 : Int).toNat = 5 from rfl, still_S] at hpost
 dsimp only at hpost
 subst hpost
 clear hin hp2 hb2 hb3
 go_wp2_with fail
 go_ret
 exact ⟨rfl, HB3.out.alloc HB3.out.size _⟩
end Go.Proofs.YtmeldgjlgifdhaaDoor
