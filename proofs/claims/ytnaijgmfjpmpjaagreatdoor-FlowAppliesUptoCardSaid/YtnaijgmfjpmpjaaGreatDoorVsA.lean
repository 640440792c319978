/- Rows of values that are joined. -/
import Derived.Test.YtnaijgmfjpmpjaaGreatDoorTkM
namespace Go.Proofs.YtnaijgmfjpmpjaaGreatDoor
set_option maxRecDepth 100000
set_option maxHeartbeats 16000000
open Go.RowKit Mx
theorem Tryz.infoVlN : (Tryz.prog.info? 25).map (fun i => (i.zero, i.size, i.bytes)) = some (some (.agg #[.int .i64 0, .int .i64 0]), 2, 16) := by kernel_rfl
theorem vls_news {K : Kn} {W : World} (hK : K.In W) {l : List Vl} {b off c : Nat} (h : VlsV K l (.slice (some ⟨b, off, none⟩) l.length c)) : ∀ j u, (vlX l)[j]? = some u → W.cell? ((⟨b, off, none⟩ : Addr).add j) = some u := fun j u hu => by
 rw [addr_add']
 have hj : j < (vlX l).length := by
  rcases Nat.lt_or_ge j (vlX l).length with h1 | h1
  ·exact h1
  ·rw [List.getElem?_eq_none h1] at hu; cases hu
 rw [vlX_len] at hj
 have hi : j / 2 < l.length := by omega
 obtain ⟨b2, off2, e2, d0, d1⟩ := vl_at2 h hi
 cases e2
 obtain ⟨x0, x1⟩ := vlX_get l (j / 2) hi
 rcases Nat.mod_two_eq_zero_or_one j with hm | hm
 ·have hj2 : 2 * (j / 2) = j := by omega
  rw [hj2, hu] at x0
  rw [Nat.mul_comm, hj2] at d0
  rw [hK.cell d0]
  exact x0.symm
 ·have hj2 : 2 * (j / 2) + 1 = j := by omega
  rw [hj2, hu] at x1
  rw [show off + j / 2 * 2 + 1 = off + j from by omega] at d1
  rw [hK.cell d1]
  exact x1.symm
theorem vlX_one (l : List Vl) : ∀ u ∈ vlX l, u.oneCell' = true := fun u hu => by
 obtain ⟨x, _, hx⟩ := List.mem_flatMap.1 hu
 simp only [List.mem_cons, List.not_mem_nil, or_false] at hx
 rcases hx with rfl | rfl <;> rfl
theorem run_app_vls {K : Kn} {W : World} (hK : K.In W) {l : List Vl} {a : Option Addr} {c : Nat} (h : VlsV K l (.slice a l.length c)) {base n : Nat} {v : Value} {xs : List Value} (hown : W.ownsRow base 25 2 v n xs) (hbase : base ≤ W.heap.size) (hl : n + l.length ≤ 1000000000) :
  ∃ v' W', (∀ ty, (Builtin.append_ #[22, 22] ty #[v, .slice a l.length c]).run Tryz.prog W = .ok v' W') ∧ W'.ownsRow base 25 2 v' (n + l.length) (xs ++ vlX l) ∧ W.grownBy W' v.ownBlock := by
 obtain ⟨i1, hi1, hy0, hy1, hy2⟩ := info_parts Tryz.infoVlN
 by_cases h0 : l = []
 ·subst h0
  exact ⟨v, W, fun ty => run_append_empty 22 25 i1 Tryz.underlying22 hi1 hown a c ty, by simpa [vlX] using hown, ⟨rfl, rfl, rfl, Nat.le_refl _, fun _ _ _ => rfl⟩⟩
 ·have hlen : 0 < l.length := List.length_pos_iff.2 h0
  obtain ⟨b, off, he, _⟩ := vl_at2 h hlen
  subst he
  have hrun := fun ty => run_append_lies (P := Tryz.prog) W 22 ty base 25 i1 _ 2 16 Tryz.underlying22 hi1 hy0 hy1 hy2 rfl (by omega) v n xs hown ⟨b, off, none⟩ l.length c (vlX l) (by rw [vlX_len]; omega) (vls_news hK h) (vlX_one l) hlen (by unfold maxLen; omega) (by omega) hbase W.heap.size rfl
  obtain ⟨g, cap', W', h1, h2, h3, h4, h5⟩ := hrun 0
  exact ⟨_, W', fun ty => h1, h2, h3⟩
end Go.Proofs.YtnaijgmfjpmpjaaGreatDoor
namespace Go.Proofs.YtnaijgmfjpmpjaaGreatDoor
set_option maxRecDepth 100000
set_option maxHeartbeats 16000000
open Go.RowKit Mx
theorem values_any (H : Kn) (l : List Vl) (v : Value) (hv : VlsV H l v) (hl : l.length ≤ 1000000000) (w : World) (hH : H.In w) :
  Calls Tryz.prog 7 #[v] w fun r w' => ∃ v', r = .returned v' ∧ VlsV (newKn w.heap.size w') l v' ∧ Below w.heap.size w w' := by
 obtain ⟨a, c, rfl⟩ := hv.len
 have hrow0 := World.ownsRow_nil w w.heap.size 25 2
 obtain ⟨v', W', hrun, hown, hg⟩ := run_app_vls hH hv hrow0 (Nat.le_refl _) (by omega)
 have HB := Lib.hid (show Below w.heap.size w W' from (Below.refl w.heap.size w).grown hg (Nat.le_refl _) (fun q hq => (hrow0.lt q hq).1))
 have HV := Lib.hid (vls_row (n := w.heap.size) (l := l) (by simpa using hown) (Nat.le_refl _))
 have HRUN := Lib.hid hrun
 clear hv hrow0 hrun hown hg
 go_enter Tryz.func7, Tryz.ntmps7
 go_wp2_with (at_builtin; refine wp_append_run rfl 22 22 _ _ rfl _ _ rfl rfl _ _ HRUN.out ?_)
 go_ret
 exact ⟨_, rfl, HV.out, HB.out⟩
end Go.Proofs.YtnaijgmfjpmpjaaGreatDoor
