/- Rows of values that are joined. -/
import Derived.Test.YtmeldgjlgifdhaaDoorTkM
import Derived.Test.YtmeldgjlgifdhaaDoorGof
import Derived.Test.YtmeldgjlgifdhaaDoorFxM
namespace Go.Proofs.YtmeldgjlgifdhaaDoor
set_option maxRecDepth 100000
set_option maxHeartbeats 16000000
open Go.RowKit Mx
theorem Tryd.infoVlN : (Tryd.prog.info? 142).map (fun i => (i.zero, i.size, i.bytes)) = some (some (.agg #[.int .i64 0, .int .i64 0]), 2, 16) := by kernel_rfl
theorem vls_news {K : Kn} {W : World} (hK : K.In W) {l : List Vl} {b off c : Nat} (h : VlsV K l (.slice (some ⟨b, off, none⟩) l.length c)) : ∀ j u, (vlX l)[j]? = some u → W.cell? ((⟨b, off, none⟩ : Addr).add j) = some u := fun j u hu => by
 rw [addr_add']
 have hj : j < (vlX l).length := by
  rcases Nat.lt_or_ge j (vlX l).length with h1 | h1
  ·exact h1
  ·rw [List.getElem?_eq_none h1] at hu; cases hu
 rw [vlX_len] at hj
 have hi : j / 2 < l.length := by omega
 obtain ⟨b2, off2, e2, d0, d1⟩ := vl_at2 h hi
 cases e2
 obtain ⟨x0, x1⟩ := vlX_get l (j / 2) hi
 rcases Nat.mod_two_eq_zero_or_one j with hm | hm
 ·have hj2 : 2 * (j / 2) = j := by omega
  rw [hj2, hu] at x0
  rw [Nat.mul_comm, hj2] at d0
  rw [hK.cell d0]
  exact x0.symm
 ·have hj2 : 2 * (j / 2) + 1 = j := by omega
  rw [hj2, hu] at x1
  rw [show off + j / 2 * 2 + 1 = off + j from by omega] at d1
  rw [hK.cell d1]
  exact x1.symm
theorem vlX_one (l : List Vl) : ∀ u ∈ vlX l, u.oneCell' = true := fun u hu => by
 obtain ⟨x, _, hx⟩ := List.mem_flatMap.1 hu
 simp only [List.mem_cons, List.not_mem_nil, or_false] at hx
 rcases hx with rfl | rfl <;> rfl
theorem run_app_vls {K : Kn} {W : World} (hK : K.In W) {l : List Vl} {a : Option Addr} {c : Nat} (h : VlsV K l (.slice a l.length c)) {base n : Nat} {v : Value} {xs : List Value} (hown : W.ownsRow base 142 2 v n xs) (hbase : base ≤ W.heap.size) (hl : n + l.length ≤ 1000000000) :
  ∃ v' W', (∀ ty, (Builtin.append_ #[54, 54] ty #[v, .slice a l.length c]).run Tryd.prog W = .ok v' W') ∧ W'.ownsRow base 142 2 v' (n + l.length) (xs ++ vlX l) ∧ W.grownBy W' v.ownBlock := by
 obtain ⟨i1, hi1, hy0, hy1, hy2⟩ := info_parts Tryd.infoVlN
 by_cases h0 : l = []
 ·subst h0
  exact ⟨v, W, fun ty => run_append_empty 54 142 i1 Tryd.underlying54 hi1 hown a c ty, by simpa [vlX] using hown, ⟨rfl, rfl, rfl, Nat.le_refl _, fun _ _ _ => rfl⟩⟩
 ·have hlen : 0 < l.length := List.length_pos_iff.2 h0
  obtain ⟨b, off, he, _⟩ := vl_at2 h hlen
  subst he
  have hrun := fun ty => run_append_lies (P := Tryd.prog) W 54 ty base 142 i1 _ 2 16 Tryd.underlying54 hi1 hy0 hy1 hy2 rfl (by omega) v n xs hown ⟨b, off, none⟩ l.length c (vlX l) (by rw [vlX_len]; omega) (vls_news hK h) (vlX_one l) hlen (by unfold maxLen; omega) (by omega) hbase W.heap.size rfl
  obtain ⟨g, cap', W', h1, h2, h3, h4, h5⟩ := hrun 0
  exact ⟨_, W', fun ty => h1, h2, h3⟩
end Go.Proofs.YtmeldgjlgifdhaaDoor
namespace Go.Proofs.YtmeldgjlgifdhaaDoor
set_option maxRecDepth 100000
set_option maxHeartbeats 16000000
open Go.RowKit Mx
theorem InsV.at {H : Kn} {l : List (List Vl)} {a : Option Addr} {n c : Nat} (h : InsV H l (.slice a n c)) {k : Nat} (hk : k < l.length) : ∃ b off a2 c2, a = some ⟨b, off, none⟩ ∧ H.cell b (off + k) = some (.slice a2 l[k].length c2) ∧ VlsV H l[k] (.slice a2 l[k].length c2) := by
 obtain ⟨b, off, haf, _, v, c0, hv⟩ := SlV.at h hk
 have c0 : H.cell b (off + k * 1 + 0) = some v := c0
 simp only [Nat.mul_one, Nat.add_zero] at c0
 obtain ⟨a2, c2, rfl⟩ := hv.len
 exact ⟨b, off, a2, c2, haf, c0, hv⟩
def RowX {α : Type} (k : Nat) (P : Kn → α → (Nat → Option Value) → Prop) (K : Kn) (l : List α) (xs : List Value) : Prop :=
 xs.length = l.length * k ∧ ∀ i (hi : i < l.length), P K l[i] (fun j => if j < k then xs[i * k + j]? else none)
def PMono {α : Type} (P : Kn → α → (Nat → Option Value) → Prop) : Prop := ∀ K K' x f g, Kn.le K K' → (∀ j u, f j = some u → g j = some u) → P K x f → P K' x g
theorem RowX.mono {α : Type} {k : Nat} {P : Kn → α → (Nat → Option Value) → Prop} (hP : PMono P) : ∀ (K K' : Kn) (l : List α) (xs : List Value), Kn.le K K' → RowX k P K l xs → RowX k P K' l xs :=
 fun _ _ _ _ hle h => ⟨h.1, fun i hi => hP _ _ _ _ _ hle (fun _ _ e => e) (h.2 i hi)⟩
theorem RowX.nil {α : Type} {k : Nat} {P : Kn → α → (Nat → Option Value) → Prop} {K : Kn} : RowX k P K [] [] := ⟨by simp, fun i hi => by simp at hi⟩
theorem RowX.snoc {α : Type} {k : Nat} {P : Kn → α → (Nat → Option Value) → Prop} (hP : PMono P) {K : Kn} {l : List α} {xs : List Value} (h : RowX k P K l xs) {x : α} {ys : List Value} (hy : ys.length = k) (hx : P K x (fun j => ys[j]?)) : RowX k P K (l ++ [x]) (xs ++ ys) := by
 obtain ⟨h1, h2⟩ := h
 refine ⟨by simp [h1, hy, Nat.add_mul], fun i hi => ?_⟩
 by_cases hil : i < l.length
 ·rw [List.getElem_append_left hil]
  refine hP _ _ _ _ _ (Kn.le_refl _) (fun j u e => ?_) (h2 i hil)
  split at e
  ·rename_i hj
   rw [if_pos hj, List.getElem?_append_left]
   ·exact e
   ·have h3 : (i + 1) * k ≤ l.length * k := Nat.mul_le_mul_right k hil
    rw [Nat.add_mul] at h3
    omega
  ·cases e
 ·simp only [List.length_append, List.length_singleton] at hi
  obtain rfl : i = l.length := by omega
  rw [show (l ++ [x])[l.length] = x from by simp]
  refine hP _ _ _ _ _ (Kn.le_refl _) (fun j u e => ?_) hx
  have hj : j < k := by
   rcases Nat.lt_or_ge j ys.length with h3 | h3
   ·omega
   ·rw [List.getElem?_eq_none h3] at e; cases e
  rw [if_pos hj, List.getElem?_append_right (by omega), h1, Nat.add_sub_cancel_left]
  exact e
theorem RowX.at {α : Type} {k : Nat} {P : Kn → α → (Nat → Option Value) → Prop} (hP : PMono P) {K : Kn} {l : List α} {xs : List Value} (h : RowX k P K l xs) : ∀ K', Kn.le K K' → ∀ i (hi : i < l.length), ∀ f : Nat → Option Value, (∀ j u, xs[i * k + j]? = some u → f j = some u) → P K' l[i] f :=
 fun _ hle i hi f hf => hP _ _ _ _ _ hle (fun j u e => by
  split at e
  ·exact hf j u e
  ·cases e) (h.2 i hi)
def IsC (K : Kn) (l : List Vl) (f : Nat → Option Value) : Prop := ∃ u, f 0 = some u ∧ VlsV K l u
theorem IsC.pm : PMono IsC := fun _ _ _ _ _ hle hfg ⟨u, h1, h2⟩ => ⟨u, hfg _ _ h1, SlV.le h2 hle VlC.mono⟩
theorem TkC.pm : PMono TkC := fun _ _ x f g hle hfg h => TkC.mono hle x f g hfg h
abbrev IsX := RowX 1 IsC
abbrev TkX := RowX 4 TkC
theorem Tryd.infoIs : (Tryd.prog.info? 54).map (fun i => (i.zero, i.size, i.bytes)) = some (some (.slice none 0 0), 1, 24) := by kernel_rfl
theorem run_append_vls {K : Kn} {W : World} (hK : K.In W) {l : List Vl} {a : Option Addr} {c : Nat} (h : VlsV K l (.slice a l.length c)) (hl : l.length ≤ 1000000000) :
  ∃ v' W' K', (∀ ty, (Builtin.append_ #[54, 54] ty #[.slice none 0 0, .slice a l.length c]).run Tryd.prog W = .ok v' W') ∧ Kn.Step K W K' W' ∧ VlsV K' l v' := by
 obtain ⟨i1, hi1, hy0, hy1, hy2⟩ := info_parts Tryd.infoVlN
 by_cases h0 : l = []
 ·subst h0
  exact ⟨.slice none 0 0, W, K, fun ty => run_append_empty 54 142 i1 Tryd.underlying54 hi1 (World.ownsRow_nil W W.heap.size 142 2) a c ty, Kn.Step.refl hK, .inl ⟨rfl, none, 0, rfl⟩⟩
 ·have hlen : 0 < l.length := List.length_pos_iff.2 h0
  obtain ⟨b, off, he, _⟩ := vl_at2 h hlen
  subst he
  have hnews : ∀ j u, (vlX l)[j]? = some u → W.cell? ((⟨b, off, none⟩ : Addr).add j) = some u := fun j u hu => by
   rw [addr_add']
   have hj : j < (vlX l).length := by
    rcases Nat.lt_or_ge j (vlX l).length with h1 | h1
    ·exact h1
    ·rw [List.getElem?_eq_none h1] at hu; cases hu
   rw [vlX_len] at hj
   have hi : j / 2 < l.length := by omega
   obtain ⟨b2, off2, e2, d0, d1⟩ := vl_at2 h hi
   cases e2
   obtain ⟨x0, x1⟩ := vlX_get l (j / 2) hi
   rcases Nat.mod_two_eq_zero_or_one j with hm | hm
   ·have hj2 : 2 * (j / 2) = j := by omega
    rw [hj2, hu] at x0
    rw [Nat.mul_comm, hj2] at d0
    rw [hK.cell d0]
    exact x0.symm
   ·have hj2 : 2 * (j / 2) + 1 = j := by omega
    rw [hj2, hu] at x1
    rw [show off + j / 2 * 2 + 1 = off + j from by omega] at d1
    rw [hK.cell d1]
    exact x1.symm
  have hone : ∀ u ∈ vlX l, u.oneCell' = true := fun u hu => by
   obtain ⟨x, _, hx⟩ := List.mem_flatMap.1 hu
   simp only [List.mem_cons, List.not_mem_nil, or_false] at hx
   rcases hx with rfl | rfl <;> rfl
  have hrun := fun ty => run_append_lies (P := Tryd.prog) W 54 ty W.heap.size 142 i1 _ 2 16 Tryd.underlying54 hi1 hy0 hy1 hy2 rfl (by omega) (.slice none 0 0) 0 [] (World.ownsRow_nil W W.heap.size 142 2) ⟨b, off, none⟩ l.length c (vlX l) (by rw [vlX_len]; omega) hnews hone hlen (by unfold maxLen; omega) (by omega) (Nat.le_refl _) W.heap.size rfl
  obtain ⟨g, cap', W', h1, h2, h3, h4, h5⟩ := hrun 0
  have hb : Below W.heap.size W W' := ⟨h3.os, h3.tape, h3.output, h3.size, fun k hk => h3.block k hk (by simp [Value.ownBlock])⟩
  have hgg : g = W.heap.size := by
   rcases h4 with h4 | h4
   ·simp [Value.ownBlock] at h4
   ·exact h4
  have hown : W'.ownsRow W.heap.size 142 2 (.slice (some ⟨g, 0, none⟩) (0 + l.length) cap') l.length (vlX l) := by simpa using h2
  have hin := hK.below hb
  obtain ⟨K', k1, k2, k3, k4⟩ := slv_of_own (R := fun _ => VlC) hin hown (fun q hq => by
   have : g = q := by simpa [Value.ownBlock] using hq
   rw [← this, hgg]; exact hK.isNone (Nat.le_refl _)) (fun K' _ i hi f hf => by
    obtain ⟨x0, x1⟩ := vlX_get _ i hi
    refine ⟨hf 0 _ ?_, hf 1 _ ?_⟩
    ·rw [show i * 2 + 0 = 2 * i from by omega]; exact x0
    ·rw [show i * 2 + 1 = 2 * i + 1 from by omega]; exact x1)
  refine ⟨_, W', K', fun ty => ?_, ⟨k1, k4, k2, hb⟩, k3⟩
  have hty : (Builtin.append_ #[54, 54] ty #[.slice none 0 0, .slice (some ⟨b, off, none⟩) l.length c]).run Tryd.prog W = (Builtin.append_ #[54, 54] 0 #[.slice none 0 0, .slice (some ⟨b, off, none⟩) l.length c]).run Tryd.prog W := rfl
  rw [hty]; exact h1
theorem in_big (H : Kn) (l : List (List Vl)) (v : Value) (hv : InsV H l v) (hz : l.length ≤ 100000000 ∧ ∀ x ∈ l, x.length ≤ 100000000) (w : World) (hH : H.In w) :
  Calls Tryd.prog 18 #[v] w fun r w' => ∃ v' K, r = .returned v' ∧ InsV K l v' ∧ Kn.Step H w K w' := by
 obtain ⟨a, cap, rfl⟩ := hv.len
 have HU := Lib.hid hv
 obtain ⟨z1, z2⟩ := hz
 have HZ := Lib.hid z2
 clear hv z2
 go_enter Tryd.func18, Tryd.ntmps18
 go_wp2_with fail
 have HS0 := Lib.hid (show RwO 54 1 IsX H w w w.heap.size l 0 (.slice none 0 0) [] H from
  ⟨Kn.le_refl H, fun _ _ => rfl, hH, Below.refl _ _, Nat.le_refl _, World.ownsRow_nil _ _ _ _, RowX.nil, fun g hg => by simp [Value.ownBlock] at hg⟩)
 go_loopw [3, 4] (fun u i wr => ∃ (k : Nat) (xs : List Value) (K : Kn), i = .int .i64 k ∧ k ≤ l.length ∧ RwO 54 1 IsX H w wr w.heap.size l k u xs K) (fun _ i _ => l.length - (intOf i).toNat)
 case atStart => exact ⟨0, _, _, rfl, Nat.zero_le _, HS0.out⟩
 case round =>
  obtain ⟨k, xs, K, rfl, hk, hS⟩ := hrel
  have HS := Lib.hid hS
  obtain ⟨au, cu, rfl, _⟩ := own_len hS.row
  clear hS
  by_cases hkl : k < l.length
  ·obtain ⟨b, off, a2, c2, haf, c0, hx⟩ := HU.out.at hkl
   subst haf
   have hlx := HZ.out _ (List.getElem_mem hkl)
   have c0 := HS.out.isin.cell (HS.out.le.cell c0)
   have hx := SlV.le hx HS.out.le VlC.mono
   have HT := Lib.hid (take_snoc l k hkl)
   generalize l[k] = x at *
   obtain ⟨v', W2, K2, hrun, hst, hv2⟩ := run_append_vls HS.out.isin hx (by omega)
   obtain ⟨a3, c3, rfl⟩ := hv2.len
   have HS2 := Lib.hid ((RwO.next (RowX.mono IsC.pm) HS.out hst).alloc (.cells #[.slice a3 x.length c3] 54))
   have HU2 := Lib.hid hv2
   clear hst hv2 hx
   go_wp2_with (at_builtin; first | refine wp_append_run rfl _ _ _ _ rfl _ _ rfl rfl _ _ hrun ?_ | (clear hrun; refine app1L 45 54 1 24 _ Tryd.underlying45 Tryd.infoIs rfl (by decide) _ _ rfl rfl w.heap.size _ _ _ rfl HS2.out.row ⟨W2.heap.size, 0, none⟩ 1 [.slice a3 x.length c3] rfl rfl ?c1 ?c2 ?c3 ?c4 ?c5 ?_))
   case c1 => exact cells1 _ _ _
   case c2 => simp [Value.oneCell']
   case c3 => omega
   case c4 => omega
   case c5 => exact HS2.out.size
   intro g cap' w3 ho hg3 hat
   have HS3 := Lib.hid (RwO.step (n' := 1) HS2.out (by rw [HT.out]; exact RowX.snoc IsC.pm HS2.out.xs rfl ⟨_, rfl, HU2.out⟩) ho hg3 (by rw [World.size_alloc]; exact hat))
   go_wp2_with fail
   go_roundw
   case rel => exact ⟨k + 1, _, K2, by go_num, by omega, HS3.out⟩
   case measure => simp [intOf]; omega
  ·obtain rfl : k = l.length := by omega
   have hxs : IsX K (List.take l.length l) xs := HS.out.xs
   rw [List.take_of_length_le (Nat.le_refl _)] at hxs
   obtain ⟨K', hle, hin, hv, hfr⟩ := slv_of_own (R := IsC) HS.out.isin HS.out.row HS.out.noR (RowX.at IsC.pm hxs)
   have HST := Lib.hid (show Kn.Step H w K' wr from ⟨Kn.le_trans HS.out.le hle, fun b hb => (hfr b hb).trans (HS.out.fresh b hb), hin, HS.out.below⟩)
   have HV := Lib.hid hv
   clear hv hin hfr hle
   go_wp2_with fail
   go_ret
   exact ⟨_, K', rfl, HV.out, HST.out⟩
end Go.Proofs.YtmeldgjlgifdhaaDoor
namespace Go.Proofs.YtmeldgjlgifdhaaDoor
set_option maxRecDepth 100000
set_option maxHeartbeats 16000000
open Go.RowKit Mx
theorem outs_news {K : Kn} {W : World} (hK : K.In W) {l : List Int} {b off c : Nat} (h : OutsV K l (.slice (some ⟨b, off, none⟩) l.length c)) : ∀ j u, (l.map (Value.int .i64))[j]? = some u → W.cell? ((⟨b, off, none⟩ : Addr).add j) = some u := fun j u hu => by
 rw [addr_add']
 have hj : j < l.length := by
  rcases Nat.lt_or_ge j l.length with h1 | h1
  ·exact h1
  ·rw [List.getElem?_eq_none (by simpa using h1)] at hu; cases hu
 obtain ⟨b2, off2, e2, _, d0⟩ := SlV.at h hj
 cases e2
 have d0 : K.cell b (off + j * 1 + 0) = some (.int .i64 l[j]) := d0
 simp only [Nat.mul_one, Nat.add_zero] at d0
 rw [hK.cell d0]
 rw [List.getElem?_map, List.getElem?_eq_getElem hj] at hu
 exact hu
theorem run_app_ints {K : Kn} {W : World} (hK : K.In W) {l : List Int} {a : Option Addr} {c : Nat} (h : OutsV K l (.slice a l.length c)) {base n : Nat} {v : Value} {xs : List Value} (hown : W.ownsRow base 3 1 v n xs) (hbase : base ≤ W.heap.size) (hl : n + l.length ≤ 1000000000) :
  ∃ v' W', (∀ ty, (Builtin.append_ #[131, 131] ty #[v, .slice a l.length c]).run Tryd.prog W = .ok v' W') ∧ W'.ownsRow base 3 1 v' (n + l.length) (xs ++ l.map (Value.int .i64)) ∧ W.grownBy W' v.ownBlock := by
 obtain ⟨i1, hi1, hy0, hy1, hy2⟩ := info_parts Tryd.infoInt
 by_cases h0 : l = []
 ·subst h0
  exact ⟨v, W, fun ty => run_append_empty 131 3 i1 Tryd.underlying131 hi1 hown a c ty, by simpa using hown, ⟨rfl, rfl, rfl, Nat.le_refl _, fun _ _ _ => rfl⟩⟩
 ·have hlen : 0 < l.length := List.length_pos_iff.2 h0
  obtain ⟨b, off, he, _⟩ := SlV.at h hlen
  subst he
  have hrun := fun ty => run_append_lies (P := Tryd.prog) W 131 ty base 3 i1 _ 1 8 Tryd.underlying131 hi1 hy0 hy1 hy2 rfl (by omega) v n xs hown ⟨b, off, none⟩ l.length c (l.map (Value.int .i64)) (by simp) (outs_news hK h) (fun u hu => by obtain ⟨x, _, rfl⟩ := List.mem_map.1 hu; rfl) hlen (by unfold maxLen; omega) (by omega) hbase W.heap.size rfl
  obtain ⟨g, cap', W', h1, h2, h3, h4, h5⟩ := hrun 0
  exact ⟨_, W', fun ty => h1, h2, h3⟩
theorem ints_row {w : World} {base n : Nat} {T : TypeId} {v : Value} {l : List Int} (h : w.ownsRow base T 1 v l.length (l.map (Value.int .i64))) (hn : n ≤ base) : OutsV (newKn n w) l v :=
 slv_new h hn fun i hi f hf => hf 0 _ (by rw [Nat.mul_one, Nat.add_zero, List.getElem?_map, List.getElem?_eq_getElem hi]; rfl)
theorem step_append_run {P : Program} {w : World} {ops : Array Oper} {o : Oper} {a : Act} {K : Act → World → Prop} {Q : Exit → Act → World → Prop} {E : Prop} (hg : o.guard = none) (t u : TypeId) (x y : Operand)
  (hop : o.op = .call { callee := .builtin .append, args := #[x, y], argTypes := #[t, u] }) (v1 v2 : Value) (h1 : a.eval x = v1) (h2 : a.eval y = v2) (v : Value) (w' : World)
  (hrun : ∀ ty, (Builtin.append_ #[t, u] ty #[v1, v2]).run P w = .ok v w') (hK : K (a.put o.dst v) w') : if Region.wanted o (yielded ops a.tmps) = true then Oper.wp P o a w K Q else E := by
 have hw : Region.wanted o (yielded ops a.tmps) = true := by simp [Region.wanted, hg]
 rw [if_pos hw]
 have hr := hrun o.type
 unfold Oper.wp
 simp [execOp, hop, resolve, invoke, builtin, h1, h2, hr, Result.andThen]
 exact hK
def mcV (R : REnv) (B : Nat) (s : Mc) (vm : Value) : Array Value := #[ptrV B, .bool R.nb, .int .i64 R.ni, .bool s.first, vm, .bool s.trapped]
structure McAt (MT NT CT : TypeId) (R : REnv) (p : Pr) (ord : List Nat) (K : Kn) (w : World) (M B : Nat) (s : Mc) (vm : Value) : Prop where
 box : w.heap[M]? = some (.cells (mcV R B s vm) MT (0, 0))
 isin : K.In w
 no : K M = none
 code : CodeAt NT CT R K p ord B
 mem : VlsV K s.mem vm
 len : s.mem.length = memNL p.terms
theorem joinKn_gr {K : Kn} {w w' : World} {M : Nat} (h : K.In w) (g : Gr2 w w' M none) (hM : K M = none) : (joinKn K w.heap.size w').In w' := fun b o e => by
 unfold joinKn at e
 split at e
 ·rename_i hb
  rw [g.block b hb (fun e2 => by rw [e2, hM] at e; cases e) (by simp)]
  exact h b o e
 ·exact e
theorem joinKn_at {K : Kn} {n : Nat} {w : World} {M : Nat} (h : M < n) : joinKn K n w M = K M := by unfold joinKn; rw [if_pos h]
section
variable {MT NT CT : TypeId} {R : REnv} {p : Pr} {ord : List Nat} {K : Kn} {w : World} {M B : Nat} {s : Mc} {vm : Value}
theorem McAt.lt (h : McAt MT NT CT R p ord K w M B s vm) : M < w.heap.size := (Array.getElem?_eq_some_iff.1 h.box).1
theorem McAt.cell (h : McAt MT NT CT R p ord K w M B s vm) (i : Nat) : w.cell? ⟨M, i, none⟩ = (mcV R B s vm)[i]? := by simp [World.cell?, h.box]
theorem McAt.below {w' : World} (h : McAt MT NT CT R p ord K w M B s vm) (hb : Below w.heap.size w w') : McAt MT NT CT R p ord K w' M B s vm :=
 ⟨(hb.block M h.lt).trans h.box, h.isin.below hb, h.no, h.code, h.mem, h.len⟩
theorem McAt.join {w' : World} (h : McAt MT NT CT R p ord K w M B s vm) (hb : Below w.heap.size w w') : McAt MT NT CT R p ord (joinKn K w.heap.size w') w' M B s vm :=
 ⟨(hb.block M h.lt).trans h.box, joinKn_in h.isin hb, by rw [joinKn_at h.lt]; exact h.no, h.code.le (joinKn_le h.isin w'), SlV.le h.mem (joinKn_le h.isin w') VlC.mono, h.len⟩
theorem McAt.grown {w' : World} {u : Value} (h : McAt MT NT CT R p ord K w M B s vm) (hg : w.grownBy w' u.ownBlock) (hu : ∀ g, u.ownBlock = some g → K g = none ∧ g ≠ M) : McAt MT NT CT R p ord K w' M B s vm :=
 ⟨(hg.block M h.lt (fun e => (hu M e.symm).2 rfl)).trans h.box, h.isin.grown hg (fun g e => (hu g e).1), h.no, h.code, h.mem, h.len⟩
def mcKn (K : Kn) (MT : TypeId) (R : REnv) (M B : Nat) (s : Mc) (vm : Value) : Kn := K.add M (.cells (mcV R B s vm) MT (0, 0))
theorem McAt.kn (h : McAt MT NT CT R p ord K w M B s vm) : (mcKn K MT R M B s vm).In w := h.isin.add h.box
theorem mcKn_le (hM : K M = none) : K.le (mcKn K MT R M B s vm) := Kn.le_add hM
theorem mcKn_cell (i : Nat) : (mcKn K MT R M B s vm).cell M i = (mcV R B s vm)[i]? := by unfold mcKn Kn.cell; rw [Kn.add_self]
end
theorem Gr2.below {a w w' : World} {base M : Nat} (h : Below base a w) (g : Gr2 w w' M none) (hM : base ≤ M) (hb : base ≤ w.heap.size) : Below base a w' :=
 ⟨g.os.trans h.os, g.tape.trans h.tape, g.output.trans h.output, Nat.le_trans h.size g.size, fun i hi => by
  rw [g.block i (by omega) (by omega) (by simp)]
  exact h.block i hi⟩
theorem memories_any (R : REnv) (H : Kn) (B : Nat) (cs : Array Value) (ms : List (Ex × Nat)) (vm : Value) (hB : H B = some (.cells cs 151 (0, 0))) (h10 : cs[10]? = some vm) (hm : NdsV 169 R H ms vm) (hl : ms.length ≤ 1000000000) (w : World) (hH : H.In w) :
  Calls Tryd.prog 86 #[.pointer (some ⟨B, 0, none⟩)] w fun r w' => ∃ v, r = .returned v ∧ OutsV (newKn w.heap.size w') (ms.map fun x => kindOf R.ks x.1) v ∧ Below w.heap.size w w' := by
 obtain ⟨a, c, rfl⟩ := hm.len
 have HM := Lib.hid hm
 have g10 := hH.cell (b := B) (i := 10) (v := .slice a ms.length c) (by unfold Kn.cell; rw [hB]; exact h10)
 have hBlt : B < w.heap.size := hH.lt hB
 clear hm
 go_enter Tryd.func86, Tryd.ntmps86
 go_wp2_with fail
 clear g10
 go_loopw [3, 11] (fun u i wr => ∃ k : Nat, i = .int .i64 k ∧ k ≤ ms.length ∧ Below w.heap.size w wr ∧ wr.ownsRow w.heap.size 3 1 u k (((ms.take k).map fun x => kindOf R.ks x.1).map (Value.int .i64))) (fun _ i _ => ms.length - (intOf i).toNat)
 case atStart => exact ⟨0, rfl, Nat.zero_le _, Below.refl _ _, World.ownsRow_nil _ _ _ _⟩
 case round =>
  obtain ⟨k, rfl, hk, hb, hrow⟩ := hrel
  have HB := Lib.hid hb
  have HR := Lib.hid hrow
  clear hb hrow
  by_cases hkl : k < ms.length
  ·obtain ⟨au, cu, hue, _⟩ := own_len HR.out
   subst hue
   obtain ⟨b, off, rfl, _, q, hq1, hq2⟩ := SlV.at HM.out hkl
   have hq1 : H.cell b (off + k * 1 + 0) = some (ptrV q) := hq1
   simp only [Nat.mul_one, Nat.add_zero] at hq1
   obtain ⟨lv, pv, hqH, _⟩ := hq2.open
   have hHr := hH.below HB.out
   have c0 := hHr.cell hq1
   have c5 : wr.cell? ⟨q, 5, none⟩ = some (.int .i64 (kindOf R.ks ms[k].1)) := hHr.cell (by unfold Kn.cell; rw [hqH]; rfl)
   have hsn : ((ms.take (k + 1)).map fun x => kindOf R.ks x.1).map (Value.int .i64) = ((ms.take k).map fun x => kindOf R.ks x.1).map (Value.int .i64) ++ [.int .i64 (kindOf R.ks ms[k].1)] := by
    rw [List.take_succ_eq_append_getElem hkl, List.map_append, List.map_append]; rfl
   have HSN := Lib.hid hsn
   generalize ((ms.take k).map fun x => kindOf R.ks x.1).map (Value.int .i64) = xs at *
   have hr2 := own_below HR.out ((Below.refl wr.heap.size wr).alloc (Nat.le_refl _) (.cells #[.int .i64 (kindOf R.ks ms[k].1)] 3))
   have HR2 := Lib.hid hr2
   have hsz := HB.out.size
   clear hsn hq2 hqH hr2
   generalize kindOf R.ks ms[k].1 = kd at *
   go_wp2_with (at_builtin; refine app1L 131 3 1 8 _ Tryd.underlying131 Tryd.infoInt rfl (by decide) _ _ rfl rfl w.heap.size _ _ _ rfl HR2.out ⟨wr.heap.size, 0, none⟩ 1 [.int .i64 kd] rfl rfl ?c1 ?c2 ?c3 ?c4 ?c5 ?_)
   case c2 => simp [Value.oneCell']
   case c3 => omega
   case c4 => omega
   case c5 => omega
   intro g cap' w3 ho hg3 hat
   have HW3 := Lib.hid (show Below w.heap.size w w3 from ((HB.out.alloc HB.out.size _).grown hg3 (by simp; omega) (fun q hq => (HR2.out.lt q hq).1)))
   go_wp2_with fail
   go_roundw
   case rel => exact ⟨k + 1, by go_num, by omega, HW3.out, by rw [HSN.out]; exact ho⟩
   case measure => simp [intOf]; omega
  ·obtain rfl : k = ms.length := by omega
   have hr := HR.out
   rw [List.take_of_length_le (Nat.le_refl _)] at hr
   have HV := Lib.hid (ints_row (n := w.heap.size) (l := ms.map fun x => kindOf R.ks x.1) (by rw [List.length_map]; exact hr) (Nat.le_refl _))
   clear hr
   go_wp2_with fail
   go_ret
   exact ⟨_, rfl, HV.out, HB.out⟩
theorem cloneV_any (H : Kn) (l : List Vl) (v : Value) (hv : VlsV H l v) (hl : l.length ≤ 1000000000) (w : World) (hH : H.In w) :
  Calls Tryd.prog 87 #[v] w fun r w' => ∃ v', r = .returned v' ∧ VlsV (newKn w.heap.size w') l v' ∧ Below w.heap.size w w' := by
 have hrow0 : (w.alloc (.cells #[] 142)).ownsRow w.heap.size 142 2 (.slice (some ⟨w.heap.size, 0, none⟩) 0 0) 0 [] := World.ownsRow_made w #[] 0 (Nat.le_refl _) (Nat.zero_le _) rfl
 obtain ⟨a, c, rfl⟩ := hv.len
 have hb0 : Below w.heap.size w (w.alloc (.cells #[] 142)) := (Below.refl _ _).alloc (Nat.le_refl _) _
 obtain ⟨v', W', hrun, hown, hg⟩ := run_app_vls (hH.below hb0) hv hrow0 (by simp) (by omega)
 have HB := Lib.hid (show Below w.heap.size w W' from hb0.grown hg (by simp) (fun q hq => (hrow0.lt q hq).1))
 have HV := Lib.hid (vls_row (n := w.heap.size) (l := l) (by simpa using hown) (Nat.le_refl _))
 have HRUN := Lib.hid hrun
 have h0 : a = none → l = [] := fun e => by
  subst e
  rcases hv with ⟨h, _⟩ | ⟨b, off, cap, h, _⟩
  ·exact h
  ·cases h
 have HE := Lib.hid h0
 clear hv hrow0 hb0 hrun hown hg h0
 cases a with
 | none =>
  have hl0 := HE.out rfl
  subst hl0
  have he := fun w => Lib.run_eql_slice_nil (P := Tryd.prog) w 54 142 none 0 c 0 0 Tryd.underlying54
  go_enter Tryd.func87, Tryd.ntmps87
  go_wp2_with fail
  go_ret
  exact ⟨_, rfl, .inl ⟨rfl, none, 0, rfl⟩, Below.refl _ _⟩
 | some ad =>
  have he := fun w => Lib.run_eql_slice_nil (P := Tryd.prog) w 54 142 (some ad) l.length c 0 0 Tryd.underlying54
  go_enter Tryd.func87, Tryd.ntmps87
  go_wp2_with (at_builtin; refine wp_append_run rfl 54 54 _ _ rfl _ _ rfl rfl _ _ HRUN.out ?_)
  go_ret
  exact ⟨_, rfl, HV.out, HB.out⟩
end Go.Proofs.YtmeldgjlgifdhaaDoor
