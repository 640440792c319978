/- Walks: lustrumlaw2.Long, In, ticksOf; lustrumref2.SameTick, SameTicks. -/
import Derived.Test.YthejomlhmdeimaaDoorTkM
import Derived.Test.YthejomlhmdeimaaDoorGof
import Derived.Test.YthejomlhmdeimaaDoorBare
import Derived.Test.YthejomlhmdeimaaDoorRg
namespace Go.Proofs.YthejomlhmdeimaaDoor
set_option maxRecDepth 100000
set_option maxHeartbeats 16000000
open Go.RowKit Mx
def longs (ins : List (List Vl)) : Bool := ins.any (fun l => decide (50 < l.length)) || decide (14 < ins.length ∧ ins.length ≤ 300) || decide (305 < ins.length)
def longI (ins : List (List Vl)) : Int := if longs ins then 1 else 0
theorem InsV.at {H : Kn} {l : List (List Vl)} {a : Option Addr} {n c : Nat} (h : InsV H l (.slice a n c)) {k : Nat} (hk : k < l.length) : ∃ b off a2 c2, a = some ⟨b, off, none⟩ ∧ H.cell b (off + k) = some (.slice a2 l[k].length c2) ∧ VlsV H l[k] (.slice a2 l[k].length c2) := by
 obtain ⟨b, off, haf, _, v, c0, hv⟩ := SlV.at h hk
 have c0 : H.cell b (off + k * 1 + 0) = some v := c0
 simp only [Nat.mul_one, Nat.add_zero] at c0
 obtain ⟨a2, c2, rfl⟩ := hv.len
 exact ⟨b, off, a2, c2, haf, c0, hv⟩
theorem long_zero {ins : List (List Vl)} (h : ¬ 0 < longI ins) : (∀ l ∈ ins, l.length ≤ 50) ∧ (ins.length ≤ 14 ∨ 300 < ins.length) ∧ ins.length ≤ 305 := by
 unfold longI at h
 split at h
 ·exact absurd (by decide) h
 ·rename_i hl
  unfold longs at hl
  simp only [Bool.or_eq_true, decide_eq_true_eq, List.any_eq_true, not_or, not_exists, not_and] at hl
  obtain ⟨⟨h1, h2⟩, h3⟩ := hl
  refine ⟨fun l hl => by have := h1 l hl; omega, ?_, by omega⟩
  by_cases h4 : 14 < ins.length
  ·have := h2 h4; omega
  ·omega
theorem long_any (H : Kn) (ins : List (List Vl)) (v : Value) (h : InsV H ins v) (hz : ins.length ≤ 1000000000) (w : World) (hH : H.In w) :
  Calls Tryd.prog 7 #[v] w fun r w' => r = .returned (.int .i64 (longI ins)) ∧ Below w.heap.size w w' := by
 obtain ⟨a, c, rfl⟩ := h.len
 have HV := Lib.hid h
 clear h
 go_enter Tryd.func7, Tryd.ntmps7
 go_wp2_with fail
 go_loopw [3] (fun i wr => ∃ k : Nat, i = .int .i64 k ∧ k ≤ ins.length ∧ Below w.heap.size w wr ∧ ∀ j (hj : j < ins.length), j < k → ins[j].length ≤ 50) (fun i _ => ins.length - (intOf i).toNat)
 case atStart => exact ⟨0, rfl, Nat.zero_le _, Below.refl _ _, fun j _ h => by omega⟩
 case round =>
  obtain ⟨k, rfl, hk, hb, hno⟩ := hrel
  have HB := Lib.hid hb
  have HNO := Lib.hid hno
  clear hb hno
  by_cases hkl : k < ins.length
  ·obtain ⟨b, off, a2, c2, haf, c0, hv⟩ := HV.out.at hkl
   have c0 := (hH.below HB.out).cell c0
   have HYES := Lib.hid (show 50 < ins[k].length → longI ins = 1 from fun h => by
    unfold longI longs
    rw [List.any_eq_true.2 ⟨ins[k], List.getElem_mem hkl, by simpa using h⟩]
    rfl)
   have HNOT := Lib.hid (show ¬ 50 < ins[k].length → ∀ j (hj : j < ins.length), j < k + 1 → ins[j].length ≤ 50 from fun h j hj hjk => by
    by_cases hjk' : j < k
    ·exact HNO.out j hj hjk'
    ·obtain rfl : j = k := by omega
     omega)
   clear hv
   generalize ins[k].length = n at *
   subst haf
   by_cases h50 : 50 < n
   ·have q : (50 : Int) < n := by omega
    go_wp2_with fail
    go_ret
    exact ⟨ret_int (HYES.out h50).symm, HB.out⟩
   ·have q : ¬ (50 : Int) < n := by omega
    go_wp2_with fail
    go_roundw
    case rel => exact ⟨k + 1, by go_num, by omega, HB.out, HNOT.out h50⟩
    case measure => simp [intOf]; omega
  ·obtain rfl : k = ins.length := by omega
   have HF := Lib.hid (show longI ins = if 14 < ins.length ∧ ins.length ≤ 300 ∨ 305 < ins.length then 1 else 0 from by
    unfold longI longs
    rw [List.any_eq_false.2 fun l hl => by
     obtain ⟨j, hj, rfl⟩ := List.mem_iff_getElem.1 hl
     have := HNO.out j hj hj
     simp; omega]
    simp only [Bool.false_or, Bool.or_eq_true, decide_eq_true_eq])
   clear HNO HV
   by_cases h1 : 14 < ins.length
   ·by_cases h2 : ins.length ≤ 300
    ·have q1 : (14 : Int) < ins.length := by omega
     have q2 : (ins.length : Int) ≤ 300 := by omega
     go_wp2_with fail
     go_ret
     exact ⟨ret_int (by rw [HF.out, if_pos (.inl ⟨h1, h2⟩)]), HB.out⟩
    ·by_cases h3 : 305 < ins.length
     ·have q1 : (14 : Int) < ins.length := by omega
      have q2 : ¬ (ins.length : Int) ≤ 300 := by omega
      have q3 : (305 : Int) < ins.length := by omega
      go_wp2_with fail
      go_ret
      exact ⟨ret_int (by rw [HF.out, if_pos (.inr h3)]), HB.out⟩
     ·have q1 : (14 : Int) < ins.length := by omega
      have q2 : ¬ (ins.length : Int) ≤ 300 := by omega
      have q3 : ¬ (305 : Int) < ins.length := by omega
      go_wp2_with fail
      go_ret
      exact ⟨ret_int (by rw [HF.out, if_neg (by omega)]), HB.out⟩
   ·have q1 : ¬ (14 : Int) < ins.length := by omega
    have q3 : ¬ (305 : Int) < ins.length := by omega
    go_wp2_with fail
    go_ret
    exact ⟨ret_int (by rw [HF.out, if_neg (by omega)]), HB.out⟩
def RowX {α : Type} (k : Nat) (P : Kn → α → (Nat → Option Value) → Prop) (K : Kn) (l : List α) (xs : List Value) : Prop :=
 xs.length = l.length * k ∧ ∀ i (hi : i < l.length), P K l[i] (fun j => if j < k then xs[i * k + j]? else none)
def PMono {α : Type} (P : Kn → α → (Nat → Option Value) → Prop) : Prop := ∀ K K' x f g, Kn.le K K' → (∀ j u, f j = some u → g j = some u) → P K x f → P K' x g
theorem RowX.mono {α : Type} {k : Nat} {P : Kn → α → (Nat → Option Value) → Prop} (hP : PMono P) : ∀ (K K' : Kn) (l : List α) (xs : List Value), Kn.le K K' → RowX k P K l xs → RowX k P K' l xs :=
 fun _ _ _ _ hle h => ⟨h.1, fun i hi => hP _ _ _ _ _ hle (fun _ _ e => e) (h.2 i hi)⟩
theorem RowX.nil {α : Type} {k : Nat} {P : Kn → α → (Nat → Option Value) → Prop} {K : Kn} : RowX k P K [] [] := ⟨by simp, fun i hi => by simp at hi⟩
theorem RowX.snoc {α : Type} {k : Nat} {P : Kn → α → (Nat → Option Value) → Prop} (hP : PMono P) {K : Kn} {l : List α} {xs : List Value} (h : RowX k P K l xs) {x : α} {ys : List Value} (hy : ys.length = k) (hx : P K x (fun j => ys[j]?)) : RowX k P K (l ++ [x]) (xs ++ ys) := by
 obtain ⟨h1, h2⟩ := h
 refine ⟨by simp [h1, hy, Nat.add_mul], fun i hi => ?_⟩
 by_cases hil : i < l.length
 ·rw [List.getElem_append_left hil]
  refine hP _ _ _ _ _ (Kn.le_refl _) (fun j u e => ?_) (h2 i hil)
  split at e
  ·rename_i hj
   rw [if_pos hj, List.getElem?_append_left]
   ·exact e
   ·have h3 : (i + 1) * k ≤ l.length * k := Nat.mul_le_mul_right k hil
    rw [Nat.add_mul] at h3
    omega
  ·cases e
 ·simp only [List.length_append, List.length_singleton] at hi
  obtain rfl : i = l.length := by omega
  rw [show (l ++ [x])[l.length] = x from by simp]
  refine hP _ _ _ _ _ (Kn.le_refl _) (fun j u e => ?_) hx
  have hj : j < k := by
   rcases Nat.lt_or_ge j ys.length with h3 | h3
   ·omega
   ·rw [List.getElem?_eq_none h3] at e; cases e
  rw [if_pos hj, List.getElem?_append_right (by omega), h1, Nat.add_sub_cancel_left]
  exact e
theorem RowX.at {α : Type} {k : Nat} {P : Kn → α → (Nat → Option Value) → Prop} (hP : PMono P) {K : Kn} {l : List α} {xs : List Value} (h : RowX k P K l xs) : ∀ K', Kn.le K K' → ∀ i (hi : i < l.length), ∀ f : Nat → Option Value, (∀ j u, xs[i * k + j]? = some u → f j = some u) → P K' l[i] f :=
 fun _ hle i hi f hf => hP _ _ _ _ _ hle (fun j u e => by
  split at e
  ·exact hf j u e
  ·cases e) (h.2 i hi)
def IsC (K : Kn) (l : List Vl) (f : Nat → Option Value) : Prop := ∃ u, f 0 = some u ∧ VlsV K l u
theorem IsC.pm : PMono IsC := fun _ _ _ _ _ hle hfg ⟨u, h1, h2⟩ => ⟨u, hfg _ _ h1, SlV.le h2 hle VlC.mono⟩
theorem TkC.pm : PMono TkC := fun _ _ x f g hle hfg h => TkC.mono hle x f g hfg h
abbrev IsX := RowX 1 IsC
abbrev TkX := RowX 4 TkC
theorem Tryd.infoIs : (Tryd.prog.info? 53).map (fun i => (i.zero, i.size, i.bytes)) = some (some (.slice none 0 0), 1, 24) := by kernel_rfl
theorem Tryd.infoVlN : (Tryd.prog.info? 71).map (fun i => (i.zero, i.size, i.bytes)) = some (some (.agg #[.int .i64 0, .int .i64 0]), 2, 16) := by kernel_rfl
theorem run_append_vls {K : Kn} {W : World} (hK : K.In W) {l : List Vl} {a : Option Addr} {c : Nat} (h : VlsV K l (.slice a l.length c)) (hl : l.length ≤ 1000000000) :
  ∃ v' W' K', (∀ ty, (Builtin.append_ #[53, 53] ty #[.slice none 0 0, .slice a l.length c]).run Tryd.prog W = .ok v' W') ∧ Kn.Step K W K' W' ∧ VlsV K' l v' := by
 obtain ⟨i1, hi1, hy0, hy1, hy2⟩ := info_parts Tryd.infoVlN
 by_cases h0 : l = []
 ·subst h0
  exact ⟨.slice none 0 0, W, K, fun ty => run_append_empty 53 71 i1 Tryd.underlying53 hi1 (World.ownsRow_nil W W.heap.size 71 2) a c ty, Kn.Step.refl hK, .inl ⟨rfl, none, 0, rfl⟩⟩
 ·have hlen : 0 < l.length := List.length_pos_iff.2 h0
  obtain ⟨b, off, he, _⟩ := vl_at2 h hlen
  subst he
  have hnews : ∀ j u, (vlX l)[j]? = some u → W.cell? ((⟨b, off, none⟩ : Addr).add j) = some u := fun j u hu => by
   rw [addr_add']
   have hj : j < (vlX l).length := by
    rcases Nat.lt_or_ge j (vlX l).length with h1 | h1
    ·exact h1
    ·rw [List.getElem?_eq_none h1] at hu; cases hu
   rw [vlX_len] at hj
   have hi : j / 2 < l.length := by omega
   obtain ⟨b2, off2, e2, d0, d1⟩ := vl_at2 h hi
   cases e2
   obtain ⟨x0, x1⟩ := vlX_get l (j / 2) hi
   rcases Nat.mod_two_eq_zero_or_one j with hm | hm
   ·have hj2 : 2 * (j / 2) = j := by omega
    rw [hj2, hu] at x0
    rw [Nat.mul_comm, hj2] at d0
    rw [hK.cell d0]
    exact x0.symm
   ·have hj2 : 2 * (j / 2) + 1 = j := by omega
    rw [hj2, hu] at x1
    rw [show off + j / 2 * 2 + 1 = off + j from by omega] at d1
    rw [hK.cell d1]
    exact x1.symm
  have hone : ∀ u ∈ vlX l, u.oneCell' = true := fun u hu => by
   obtain ⟨x, _, hx⟩ := List.mem_flatMap.1 hu
   simp only [List.mem_cons, List.not_mem_nil, or_false] at hx
   rcases hx with rfl | rfl <;> rfl
  have hrun := fun ty => run_append_lies (P := Tryd.prog) W 53 ty W.heap.size 71 i1 _ 2 16 Tryd.underlying53 hi1 hy0 hy1 hy2 rfl (by omega) (.slice none 0 0) 0 [] (World.ownsRow_nil W W.heap.size 71 2) ⟨b, off, none⟩ l.length c (vlX l) (by rw [vlX_len]; omega) hnews hone hlen (by unfold maxLen; omega) (by omega) (Nat.le_refl _) W.heap.size rfl
  obtain ⟨g, cap', W', h1, h2, h3, h4, h5⟩ := hrun 0
  have hb : Below W.heap.size W W' := ⟨h3.os, h3.tape, h3.output, h3.size, fun k hk => h3.block k hk (by simp [Value.ownBlock])⟩
  have hgg : g = W.heap.size := by
   rcases h4 with h4 | h4
   ·simp [Value.ownBlock] at h4
   ·exact h4
  have hown : W'.ownsRow W.heap.size 71 2 (.slice (some ⟨g, 0, none⟩) (0 + l.length) cap') l.length (vlX l) := by simpa using h2
  have hin := hK.below hb
  obtain ⟨K', k1, k2, k3, k4⟩ := slv_of_own (R := fun _ => VlC) hin hown (fun q hq => by
   have : g = q := by simpa [Value.ownBlock] using hq
   rw [← this, hgg]; exact hK.isNone (Nat.le_refl _)) (fun K' _ i hi f hf => by
    obtain ⟨x0, x1⟩ := vlX_get _ i hi
    refine ⟨hf 0 _ ?_, hf 1 _ ?_⟩
    ·rw [show i * 2 + 0 = 2 * i from by omega]; exact x0
    ·rw [show i * 2 + 1 = 2 * i + 1 from by omega]; exact x1)
  refine ⟨_, W', K', fun ty => ?_, ⟨k1, k4, k2, hb⟩, k3⟩
  have hty : (Builtin.append_ #[53, 53] ty #[.slice none 0 0, .slice (some ⟨b, off, none⟩) l.length c]).run Tryd.prog W = (Builtin.append_ #[53, 53] 0 #[.slice none 0 0, .slice (some ⟨b, off, none⟩) l.length c]).run Tryd.prog W := rfl
  rw [hty]; exact h1
theorem in_any (H : Kn) (l : List (List Vl)) (v : Value) (hv : InsV H l v) (hz : l.length ≤ 1000000 ∧ ∀ x ∈ l, x.length ≤ 1000000) (w : World) (hH : H.In w) :
  Calls Tryd.prog 27 #[v] w fun r w' => ∃ v' K, r = .returned v' ∧ InsV K l v' ∧ Kn.Step H w K w' := by
 obtain ⟨a, cap, rfl⟩ := hv.len
 have HU := Lib.hid hv
 obtain ⟨z1, z2⟩ := hz
 have HZ := Lib.hid z2
 clear hv z2
 go_enter Tryd.func27, Tryd.ntmps27
 go_wp2_with fail
 have HS0 := Lib.hid (show RwO 53 1 IsX H w w w.heap.size l 0 (.slice none 0 0) [] H from
  ⟨Kn.le_refl H, fun _ _ => rfl, hH, Below.refl _ _, Nat.le_refl _, World.ownsRow_nil _ _ _ _, RowX.nil, fun g hg => by simp [Value.ownBlock] at hg⟩)
 go_loopw [3, 4] (fun u i wr => ∃ (k : Nat) (xs : List Value) (K : Kn), i = .int .i64 k ∧ k ≤ l.length ∧ RwO 53 1 IsX H w wr w.heap.size l k u xs K) (fun _ i _ => l.length - (intOf i).toNat)
 case atStart => exact ⟨0, _, _, rfl, Nat.zero_le _, HS0.out⟩
 case round =>
  obtain ⟨k, xs, K, rfl, hk, hS⟩ := hrel
  have HS := Lib.hid hS
  obtain ⟨au, cu, rfl, _⟩ := own_len hS.row
  clear hS
  by_cases hkl : k < l.length
  ·obtain ⟨b, off, a2, c2, haf, c0, hx⟩ := HU.out.at hkl
   subst haf
   have hlx := HZ.out _ (List.getElem_mem hkl)
   have c0 := HS.out.isin.cell (HS.out.le.cell c0)
   have hx := SlV.le hx HS.out.le VlC.mono
   have HT := Lib.hid (take_snoc l k hkl)
   generalize l[k] = x at *
   obtain ⟨v', W2, K2, hrun, hst, hv2⟩ := run_append_vls HS.out.isin hx (by omega)
   obtain ⟨a3, c3, rfl⟩ := hv2.len
   have HS2 := Lib.hid ((RwO.next (RowX.mono IsC.pm) HS.out hst).alloc (.cells #[.slice a3 x.length c3] 53))
   have HU2 := Lib.hid hv2
   clear hst hv2 hx
   go_wp2_with (at_builtin; first | refine wp_append_run rfl _ _ _ _ rfl _ _ rfl rfl _ _ hrun ?_ | (clear hrun; refine app1L 25 53 1 24 _ Tryd.underlying25 Tryd.infoIs rfl (by decide) _ _ rfl rfl w.heap.size _ _ _ rfl HS2.out.row ⟨W2.heap.size, 0, none⟩ 1 [.slice a3 x.length c3] rfl rfl ?c1 ?c2 ?c3 ?c4 ?c5 ?_))
   case c1 => exact cells1 _ _ _
   case c2 => simp [Value.oneCell']
   case c3 => omega
   case c4 => omega
   case c5 => exact HS2.out.size
   intro g cap' w3 ho hg3 hat
   have HS3 := Lib.hid (RwO.step (n' := 1) HS2.out (by rw [HT.out]; exact RowX.snoc IsC.pm HS2.out.xs rfl ⟨_, rfl, HU2.out⟩) ho hg3 (by rw [World.size_alloc]; exact hat))
   go_wp2_with fail
   go_roundw
   case rel => exact ⟨k + 1, _, K2, by go_num, by omega, HS3.out⟩
   case measure => simp [intOf]; omega
  ·obtain rfl : k = l.length := by omega
   have hxs : IsX K (List.take l.length l) xs := HS.out.xs
   rw [List.take_of_length_le (Nat.le_refl _)] at hxs
   obtain ⟨K', hle, hin, hv, hfr⟩ := slv_of_own (R := IsC) HS.out.isin HS.out.row HS.out.noR (RowX.at IsC.pm hxs)
   have HST := Lib.hid (show Kn.Step H w K' wr from ⟨Kn.le_trans HS.out.le hle, fun b hb => (hfr b hb).trans (HS.out.fresh b hb), hin, HS.out.below⟩)
   have HV := Lib.hid hv
   clear hv hin hfr hle
   go_wp2_with fail
   go_ret
   exact ⟨_, K', rfl, HV.out, HST.out⟩
end Go.Proofs.YthejomlhmdeimaaDoor
namespace Go.Proofs.YthejomlhmdeimaaDoor
set_option maxRecDepth 100000
set_option maxHeartbeats 16000000
open Go.RowKit Mx
theorem alike_any (H : Kn) (T : LevelsAt H) (sp : Nat → Addr) (p : Pr) (vi vo vl va vc : Value) (hp : PrP H p vi vo vl va vc) (ins : List (List Vl)) (vin : Value) (hi : InsV H ins vin)
  (hzi : ins.length ≤ 1000000 ∧ ∀ x ∈ ins, x.length ≤ 1000000) (hzr : p.ins.length ≤ 1000000 ∧ p.fl.length ≤ 1000000 ∧ p.outs.length ≤ 1000000000 ∧ p.as.length ≤ 1000000 ∧ p.cs.length ≤ 1000000 ∧ ∀ l ∈ ins, l.length ≤ 1000000) (hzp : Ex.partsL p.terms ≤ 1000000000)
  (hsame : ∀ k ∈ runM false 0 p ins, k.trap = true ∨ ∃ v, k.out = [v, v]) (w : World) (hH : H.In w) (S : Sen5 w sp) :
  Calls Tryd.prog 11 #[.agg #[vi, vo, vl, va, vc], vin] w fun r w' => r = .returned (.bool true) ∧ Below w.heap.size w w' := by
 have hle : ∀ w1, Below w.heap.size w w1 → LevelsAt (allKn w1) := fun w1 hb => T.le (kn_le_all (hH.below hb))
 have HLE := Lib.hid hle
 have ZI := Lib.hid hzi
 have ZR := Lib.hid hzr
 have ZP := Lib.hid hzp
 have HSM := Lib.hid hsame
 clear hle hsame hzr hzp hzi
 have HP := Lib.hid hp
 obtain ⟨h1, h2, h3, h4, h5⟩ := hp
 obtain ⟨ai, ci, rfl⟩ := h1.len
 obtain ⟨ao, co, rfl⟩ := h2.len
 obtain ⟨al, cl, rfl⟩ := h3.len
 obtain ⟨aa, ca, rfl⟩ := h4.len
 obtain ⟨ac, cc, rfl⟩ := h5.len
 obtain ⟨an, cn, rfl⟩ := hi.len
 have HI := Lib.hid hi
 clear h1 h2 h3 h4 h5 hi
 have hP0 := heap_alloc_new w (.cells #[.slice ai p.ins.length ci, .slice ao p.outs.length co, .slice al p.fl.length cl, .slice aa p.as.length ca, .slice ac p.cs.length cc] 33)
 have hb0 : Below w.heap.size w (w.alloc (.cells #[.slice ai p.ins.length ci, .slice ao p.outs.length co, .slice al p.fl.length cl, .slice aa p.as.length ca, .slice ac p.cs.length cc] 33)) := (Below.refl _ _).alloc (Nat.le_refl _) _
 have HB0 := Lib.hid hb0
 have HP0 := Lib.hid hP0
 clear hP0 hb0
 go_enter Tryd.func11, Tryd.ntmps11
 go_wp2_with fail
 generalize w.alloc (.cells #[.slice ai p.ins.length ci, .slice ao p.outs.length co, .slice al p.fl.length cl, .slice aa p.as.length ca, .slice ac p.cs.length cc] 33) = W1 at *
 have k0 : (allKn W1).cell w.heap.size 0 = some (.slice ai p.ins.length ci) := by rw [allKn_cell]; have h := HP0.out; simp [World.cell?, h]
 have k1 : (allKn W1).cell w.heap.size 1 = some (.slice ao p.outs.length co) := by rw [allKn_cell]; have h := HP0.out; simp [World.cell?, h]
 have k2 : (allKn W1).cell w.heap.size 2 = some (.slice al p.fl.length cl) := by rw [allKn_cell]; have h := HP0.out; simp [World.cell?, h]
 have k3 : (allKn W1).cell w.heap.size 3 = some (.slice aa p.as.length ca) := by rw [allKn_cell]; have h := HP0.out; simp [World.cell?, h]
 have k4 : (allKn W1).cell w.heap.size 4 = some (.slice ac p.cs.length cc) := by rw [allKn_cell]; have h := HP0.out; simp [World.cell?, h]
 have hS : (allKn W1).In W1.drew := (allKn_in W1).below (Below.refl _ _).drew
 have hbD : Below W1.heap.size W1 W1.drew := (Below.refl _ _).drew
 have HQ4 := Lib.hid (HP.out.le (kn_le_all (hH.below (HB0.out.trans (hbD.mono HB0.out.size)))))
 have HBD := Lib.hid (HB0.out.trans (hbD.mono HB0.out.size))
 have HPD := Lib.hid ((hbD.block w.heap.size (Array.getElem?_eq_some_iff.1 HP0.out).1).trans HP0.out)
 refine wp_region_2 (fun w' => (allKn W1).In w') (fun _ => True) 99 (by kernel_rfl) ?_
 refine tk2 (i := 0) (v := ?_) rfl hS (fun _ => trivial) ?hy ?_
 case hy => intro w hSw; obtain ⟨z0, z1, z2, z3, z4⟩ := hSw.c5 k0 k1 k2 k3 k4; go_simp <;> with_reducible rfl
 try simp only [tkS, List.getElem_toArray, List.getElem_cons_zero, List.getElem_cons_succ]
 refine tk2 (i := 1) (v := ?_) rfl hS (fun _ => trivial) ?hy ?_
 case hy => intro w hSw; obtain ⟨z0, z1, z2, z3, z4⟩ := hSw.c5 k0 k1 k2 k3 k4; go_simp <;> with_reducible rfl
 try simp only [tkS, List.getElem_toArray, List.getElem_cons_zero, List.getElem_cons_succ]
 refine wpAny2_one (i := 2) (o := _) (by kernel_rfl) rfl (fun K_ hK => ?_)
 go_simp
 go_at_call 27
 refine (in_any H ins _ HI.out ZI.out _ (hH.below HBD.out)).mono ?_
 rintro r w5 ⟨vi5, K5, rfl, hv5, hst5⟩
 have HB5 := Lib.hid (HBD.out.trans (hst5.below.mono HBD.out.size))
 have HP5 := Lib.hid ((hst5.below.block w.heap.size (Array.getElem?_eq_some_iff.1 HPD.out).1).trans HPD.out)
 have HQ4 := Lib.hid (HQ4.out.le (kn_le_all (allKn_below hst5.below)))
 have HI5 := Lib.hid (InsV.le (kn_le_all hst5.isin) hv5)
 have hS5 := hS.below hst5.below
 clear hv5 hst5
 refine hK.out _ _ (hS5) (fun _ => trivial) ?_
 clear hK K_
 try simp only [tkS, List.getElem_toArray, List.getElem_cons_zero, List.getElem_cons_succ]
 refine wpAny2_one (i := 3) (o := _) (by kernel_rfl) rfl (fun K_ hK => ?_)
 go_simp
 go_at_call 24
 refine (run_any (allKn w5) (HLE.out _ HB5.out) sp p _ _ _ _ _ HQ4.out ins _ HI5.out w5 (allKn_in w5) (S.below HB5.out) false 0 ZR.out ZP.out).mono ?_
 rintro r w6 hpost
 obtain ⟨hb6, hpost⟩ := hpost.told
 have HB6 := Lib.hid (HB5.out.trans (hb6.mono HB5.out.size))
 have HP6 := Lib.hid ((hb6.block w.heap.size (Array.getElem?_eq_some_iff.1 HP5.out).1).trans HP5.out)
 have HQ4 := Lib.hid (HQ4.out.le (kn_le_all (allKn_below hb6)))
 have HI5 := Lib.hid (InsV.le (kn_le_all (allKn_below hb6)) HI5.out)
 have hS6 := hS5.below hb6
 clear hb6 HQ4 HI5
 obtain ⟨v6, e6, rfl, hv6⟩ : ∃ v e, r = .returned (.tuple #[v, e]) ∧ ((e = .nilIface ∧ TksV (allKn w6) (runM false 0 p ins) v) ∨ ∃ t u, e = .iface t u ∧ v = .slice none 0 0) := by
  rcases hpost with ⟨_, v, e, h⟩ | ⟨_, t, u, e, _⟩
  ·exact ⟨v, _, e, .inl ⟨rfl, h⟩⟩
  ·exact ⟨_, _, e, .inr ⟨t, u, rfl, rfl⟩⟩
 clear hpost
 refine hK.out _ _ (hS6) (fun _ => trivial) ?_
 clear hK K_
 try simp only [tkS, List.getElem_toArray, List.getElem_cons_zero, List.getElem_cons_succ]
 refine tk2 (i := 4) (v := ?_) rfl hS6 (fun _ => trivial) ?hy ?_
 case hy => intro w hSw; obtain ⟨z0, z1, z2, z3, z4⟩ := hSw.c5 k0 k1 k2 k3 k4; go_simp <;> with_reducible rfl
 try simp only [tkS, List.getElem_toArray, List.getElem_cons_zero, List.getElem_cons_succ]
 refine tk2 (i := 5) (v := ?_) rfl hS6 (fun _ => trivial) ?hy ?_
 case hy => intro w hSw; obtain ⟨z0, z1, z2, z3, z4⟩ := hSw.c5 k0 k1 k2 k3 k4; go_simp <;> with_reducible rfl
 try simp only [tkS, List.getElem_toArray, List.getElem_cons_zero, List.getElem_cons_succ]
 refine tk2 (i := 6) (v := ?_) rfl hS6 (fun _ => trivial) ?hy ?_
 case hy => intro w hSw; obtain ⟨z0, z1, z2, z3, z4⟩ := hSw.c5 k0 k1 k2 k3 k4; go_simp <;> with_reducible rfl
 try simp only [tkS, List.getElem_toArray, List.getElem_cons_zero, List.getElem_cons_succ]
 refine tk2 (i := 7) (v := ?_) rfl hS6 (fun _ => trivial) ?hy ?_
 case hy => intro w hSw; obtain ⟨z0, z1, z2, z3, z4⟩ := hSw.c5 k0 k1 k2 k3 k4; go_simp <;> with_reducible rfl
 try simp only [tkS, List.getElem_toArray, List.getElem_cons_zero, List.getElem_cons_succ]
 refine tk2 (i := 8) (v := ?_) rfl hS6 (fun _ => trivial) ?hy ?_
 case hy => intro w hSw; obtain ⟨z0, z1, z2, z3, z4⟩ := hSw.c5 k0 k1 k2 k3 k4; go_simp <;> with_reducible rfl
 try simp only [tkS, List.getElem_toArray, List.getElem_cons_zero, List.getElem_cons_succ]
 refine wpAny2_done (by kernel_rfl) ?_ _
 rcases hv6 with ⟨rfl, hv6⟩ | ⟨t6, u6, rfl, rfl⟩
 case inr =>
  go_wp2_with fail
  go_ret
  exact ⟨rfl, HB6.out⟩
 have hrl := runM_len false 0 p ins
 obtain ⟨zi1, zi2⟩ := ZI.out
 clear zi2
 obtain ⟨a6, c6, rfl⟩ := hv6.len
 have HV6 := Lib.hid hv6
 clear hv6 k0 k1 k2 k3 k4 hS hbD hS5 hS6 HP HP0 HPD HP5 HP6
 generalize runM false 0 p ins = L at *
 go_wp2_with fail
 go_loopw [7] (fun i wr => ∃ k : Nat, i = .int .i64 k ∧ k ≤ L.length ∧ Below w6.heap.size w6 wr) (fun i _ => L.length - (intOf i).toNat)
 case atStart => exact ⟨0, rfl, Nat.zero_le _, Below.refl _ _⟩
 case round =>
  obtain ⟨k, rfl, hk, hb⟩ := hrel
  have HB := Lib.hid hb
  clear hb
  by_cases hkl : k < L.length
  ·obtain ⟨b, off, a1, c1, a2, c2, rfl, d0, d1, d2, d3, hx⟩ := HV6.out.at0 hkl
   have hout := HSM.out L[k] (List.getElem_mem hkl)
   have hS : (allKn w6).In wr.drew := (allKn_in w6).below HB.out.drew
   clear d1 d3
   generalize L[k] = x at *
   obtain ⟨xo, xa, xt, xc⟩ := x
   dsimp only at d0 d2 hx hout
   have hxo := hx.outs
   dsimp only at hxo
   clear hx
   cases xt with
   | true =>
    go_wp2_with fail
    refine wp_region_2 (fun w' => (allKn w6).In w') (fun _ => True) 99 (by kernel_rfl) ?_
    refine tk2 (i := 0) (v := ?_) rfl hS (fun _ => trivial) ?hy ?_
    case hy => intro w hSw; obtain ⟨z0, z1⟩ := hSw.c2 d0 d2; go_simp <;> with_reducible rfl
    try simp only [tkS, List.getElem_toArray, List.getElem_cons_zero, List.getElem_cons_succ]
    refine tk2 (i := 1) (v := ?_) rfl hS (fun _ => trivial) ?hy ?_
    case hy => intro w hSw; obtain ⟨z0, z1⟩ := hSw.c2 d0 d2; go_simp <;> with_reducible rfl
    try simp only [tkS, List.getElem_toArray, List.getElem_cons_zero, List.getElem_cons_succ]
    refine tk2 (i := 2) (v := ?_) rfl hS (fun _ => trivial) ?hy ?_
    case hy => intro w hSw; obtain ⟨z0, z1⟩ := hSw.c2 d0 d2; go_simp <;> with_reducible rfl
    try simp only [tkS, List.getElem_toArray, List.getElem_cons_zero, List.getElem_cons_succ]
    refine tk2 (i := 3) (v := ?_) rfl hS (fun _ => trivial) ?hy ?_
    case hy => intro w hSw; obtain ⟨z0, z1⟩ := hSw.c2 d0 d2; go_simp <;> with_reducible rfl
    try simp only [tkS, List.getElem_toArray, List.getElem_cons_zero, List.getElem_cons_succ]
    refine tk2 (i := 4) (v := ?_) rfl hS (fun _ => trivial) ?hy ?_
    case hy => intro w hSw; obtain ⟨z0, z1⟩ := hSw.c2 d0 d2; go_simp <;> with_reducible rfl
    try simp only [tkS, List.getElem_toArray, List.getElem_cons_zero, List.getElem_cons_succ]
    refine tk2 (i := 5) (v := ?_) rfl hS (fun _ => trivial) ?hy ?_
    case hy => intro w hSw; obtain ⟨z0, z1⟩ := hSw.c2 d0 d2; go_simp <;> with_reducible rfl
    try simp only [tkS, List.getElem_toArray, List.getElem_cons_zero, List.getElem_cons_succ]
    refine tk2 (i := 6) (v := ?_) rfl hS (fun _ => trivial) ?hy ?_
    case hy => intro w hSw; obtain ⟨z0, z1⟩ := hSw.c2 d0 d2; go_simp <;> with_reducible rfl
    try simp only [tkS, List.getElem_toArray, List.getElem_cons_zero, List.getElem_cons_succ]
    refine sk2 (i := 7) rfl hS (fun _ => trivial) ?_
    try simp only [tkS, List.getElem_toArray, List.getElem_cons_zero, List.getElem_cons_succ]
    refine sk2 (i := 8) rfl hS (fun _ => trivial) ?_
    try simp only [tkS, List.getElem_toArray, List.getElem_cons_zero, List.getElem_cons_succ]
    refine sk2 (i := 9) rfl hS (fun _ => trivial) ?_
    try simp only [tkS, List.getElem_toArray, List.getElem_cons_zero, List.getElem_cons_succ]
    refine sk2 (i := 10) rfl hS (fun _ => trivial) ?_
    try simp only [tkS, List.getElem_toArray, List.getElem_cons_zero, List.getElem_cons_succ]
    refine sk2 (i := 11) rfl hS (fun _ => trivial) ?_
    try simp only [tkS, List.getElem_toArray, List.getElem_cons_zero, List.getElem_cons_succ]
    refine sk2 (i := 12) rfl hS (fun _ => trivial) ?_
    try simp only [tkS, List.getElem_toArray, List.getElem_cons_zero, List.getElem_cons_succ]
    refine sk2 (i := 13) rfl hS (fun _ => trivial) ?_
    try simp only [tkS, List.getElem_toArray, List.getElem_cons_zero, List.getElem_cons_succ]
    refine sk2 (i := 14) rfl hS (fun _ => trivial) ?_
    try simp only [tkS, List.getElem_toArray, List.getElem_cons_zero, List.getElem_cons_succ]
    refine sk2 (i := 15) rfl hS (fun _ => trivial) ?_
    try simp only [tkS, List.getElem_toArray, List.getElem_cons_zero, List.getElem_cons_succ]
    refine sk2 (i := 16) rfl hS (fun _ => trivial) ?_
    try simp only [tkS, List.getElem_toArray, List.getElem_cons_zero, List.getElem_cons_succ]
    refine sk2 (i := 17) rfl hS (fun _ => trivial) ?_
    try simp only [tkS, List.getElem_toArray, List.getElem_cons_zero, List.getElem_cons_succ]
    refine sk2 (i := 18) rfl hS (fun _ => trivial) ?_
    try simp only [tkS, List.getElem_toArray, List.getElem_cons_zero, List.getElem_cons_succ]
    refine sk2 (i := 19) rfl hS (fun _ => trivial) ?_
    try simp only [tkS, List.getElem_toArray, List.getElem_cons_zero, List.getElem_cons_succ]
    refine sk2 (i := 20) rfl hS (fun _ => trivial) ?_
    try simp only [tkS, List.getElem_toArray, List.getElem_cons_zero, List.getElem_cons_succ]
    refine sk2 (i := 21) rfl hS (fun _ => trivial) ?_
    try simp only [tkS, List.getElem_toArray, List.getElem_cons_zero, List.getElem_cons_succ]
    refine sk2 (i := 22) rfl hS (fun _ => trivial) ?_
    try simp only [tkS, List.getElem_toArray, List.getElem_cons_zero, List.getElem_cons_succ]
    refine sk2 (i := 23) rfl hS (fun _ => trivial) ?_
    try simp only [tkS, List.getElem_toArray, List.getElem_cons_zero, List.getElem_cons_succ]
    refine sk2 (i := 24) rfl hS (fun _ => trivial) ?_
    try simp only [tkS, List.getElem_toArray, List.getElem_cons_zero, List.getElem_cons_succ]
    refine sk2 (i := 25) rfl hS (fun _ => trivial) ?_
    try simp only [tkS, List.getElem_toArray, List.getElem_cons_zero, List.getElem_cons_succ]
    refine sk2 (i := 26) rfl hS (fun _ => trivial) ?_
    try simp only [tkS, List.getElem_toArray, List.getElem_cons_zero, List.getElem_cons_succ]
    refine sk2 (i := 27) rfl hS (fun _ => trivial) ?_
    try simp only [tkS, List.getElem_toArray, List.getElem_cons_zero, List.getElem_cons_succ]
    refine sk2 (i := 28) rfl hS (fun _ => trivial) ?_
    try simp only [tkS, List.getElem_toArray, List.getElem_cons_zero, List.getElem_cons_succ]
    refine sk2 (i := 29) rfl hS (fun _ => trivial) ?_
    try simp only [tkS, List.getElem_toArray, List.getElem_cons_zero, List.getElem_cons_succ]
    refine sk2 (i := 30) rfl hS (fun _ => trivial) ?_
    try simp only [tkS, List.getElem_toArray, List.getElem_cons_zero, List.getElem_cons_succ]
    refine tk2 (i := 31) (v := ?_) rfl hS (fun _ => trivial) ?hy ?_
    case hy => intro w hSw; obtain ⟨z0, z1⟩ := hSw.c2 d0 d2; go_simp <;> with_reducible rfl
    try simp only [tkS, List.getElem_toArray, List.getElem_cons_zero, List.getElem_cons_succ]
    refine wpAny2_done (by kernel_rfl) ?_ _
    go_wp2_with fail
    go_roundw
    case rel => exact ⟨k + 1, by go_num, by omega, HB.out.drew⟩
    case measure => simp [intOf]; omega
   | false =>
    obtain ⟨v, hv⟩ : ∃ v, xo = [v, v] := hout.resolve_left (by simp)
    subst hv
    obtain ⟨b1, f1, rfl, e0, e1⟩ := vl_at2 hxo (show 0 < 2 by omega)
    obtain ⟨b2, f2, he2, e2, e3⟩ := vl_at2 hxo (show 1 < 2 by omega)
    cases he2
    have e0 : (allKn w6).cell b1 f1 = some (.int .i64 v.kind) := by simpa using e0
    have e1 : (allKn w6).cell b1 (f1 + 1) = some (.int .i64 v.n) := by simpa using e1
    have e2 : (allKn w6).cell b1 (f1 + 2) = some (.int .i64 v.kind) := by simpa using e2
    have e3 : (allKn w6).cell b1 (f1 + 3) = some (.int .i64 v.n) := by simpa using e3
    have hl2 : ([v, v] : List Vl).length = 2 := rfl
    rw [hl2] at d0
    clear hl2 hxo hout
    go_wp2_with fail
    refine wp_region_2 (fun w' => (allKn w6).In w') (fun _ => True) 99 (by kernel_rfl) ?_
    refine tk2 (i := 0) (v := ?_) rfl hS (fun _ => trivial) ?hy ?_
    case hy => intro w hSw; obtain ⟨z0, z1, z2, z3, z4, z5⟩ := hSw.c6 d0 d2 e0 e1 e2 e3; go_simp <;> with_reducible rfl
    try simp only [tkS, List.getElem_toArray, List.getElem_cons_zero, List.getElem_cons_succ]
    refine tk2 (i := 1) (v := ?_) rfl hS (fun _ => trivial) ?hy ?_
    case hy => intro w hSw; obtain ⟨z0, z1, z2, z3, z4, z5⟩ := hSw.c6 d0 d2 e0 e1 e2 e3; go_simp <;> with_reducible rfl
    try simp only [tkS, List.getElem_toArray, List.getElem_cons_zero, List.getElem_cons_succ]
    refine tk2 (i := 2) (v := ?_) rfl hS (fun _ => trivial) ?hy ?_
    case hy => intro w hSw; obtain ⟨z0, z1, z2, z3, z4, z5⟩ := hSw.c6 d0 d2 e0 e1 e2 e3; go_simp <;> with_reducible rfl
    try simp only [tkS, List.getElem_toArray, List.getElem_cons_zero, List.getElem_cons_succ]
    refine tk2 (i := 3) (v := ?_) rfl hS (fun _ => trivial) ?hy ?_
    case hy => intro w hSw; obtain ⟨z0, z1, z2, z3, z4, z5⟩ := hSw.c6 d0 d2 e0 e1 e2 e3; go_simp <;> with_reducible rfl
    try simp only [tkS, List.getElem_toArray, List.getElem_cons_zero, List.getElem_cons_succ]
    refine tk2 (i := 4) (v := ?_) rfl hS (fun _ => trivial) ?hy ?_
    case hy => intro w hSw; obtain ⟨z0, z1, z2, z3, z4, z5⟩ := hSw.c6 d0 d2 e0 e1 e2 e3; go_simp <;> with_reducible rfl
    try simp only [tkS, List.getElem_toArray, List.getElem_cons_zero, List.getElem_cons_succ]
    refine tk2 (i := 5) (v := ?_) rfl hS (fun _ => trivial) ?hy ?_
    case hy => intro w hSw; obtain ⟨z0, z1, z2, z3, z4, z5⟩ := hSw.c6 d0 d2 e0 e1 e2 e3; go_simp <;> with_reducible rfl
    try simp only [tkS, List.getElem_toArray, List.getElem_cons_zero, List.getElem_cons_succ]
    refine tk2 (i := 6) (v := ?_) rfl hS (fun _ => trivial) ?hy ?_
    case hy => intro w hSw; obtain ⟨z0, z1, z2, z3, z4, z5⟩ := hSw.c6 d0 d2 e0 e1 e2 e3; go_simp <;> with_reducible rfl
    try simp only [tkS, List.getElem_toArray, List.getElem_cons_zero, List.getElem_cons_succ]
    refine tk2 (i := 7) (v := ?_) rfl hS (fun _ => trivial) ?hy ?_
    case hy => intro w hSw; obtain ⟨z0, z1, z2, z3, z4, z5⟩ := hSw.c6 d0 d2 e0 e1 e2 e3; go_simp <;> with_reducible rfl
    try simp only [tkS, List.getElem_toArray, List.getElem_cons_zero, List.getElem_cons_succ]
    refine tk2 (i := 8) (v := ?_) rfl hS (fun _ => trivial) ?hy ?_
    case hy => intro w hSw; obtain ⟨z0, z1, z2, z3, z4, z5⟩ := hSw.c6 d0 d2 e0 e1 e2 e3; go_simp <;> with_reducible rfl
    try simp only [tkS, List.getElem_toArray, List.getElem_cons_zero, List.getElem_cons_succ]
    refine tk2 (i := 9) (v := ?_) rfl hS (fun _ => trivial) ?hy ?_
    case hy => intro w hSw; obtain ⟨z0, z1, z2, z3, z4, z5⟩ := hSw.c6 d0 d2 e0 e1 e2 e3; go_simp <;> with_reducible rfl
    try simp only [tkS, List.getElem_toArray, List.getElem_cons_zero, List.getElem_cons_succ]
    refine tk2 (i := 10) (v := ?_) rfl hS (fun _ => trivial) ?hy ?_
    case hy => intro w hSw; obtain ⟨z0, z1, z2, z3, z4, z5⟩ := hSw.c6 d0 d2 e0 e1 e2 e3; go_simp <;> with_reducible rfl
    try simp only [tkS, List.getElem_toArray, List.getElem_cons_zero, List.getElem_cons_succ]
    refine tk2 (i := 11) (v := ?_) rfl hS (fun _ => trivial) ?hy ?_
    case hy => intro w hSw; obtain ⟨z0, z1, z2, z3, z4, z5⟩ := hSw.c6 d0 d2 e0 e1 e2 e3; go_simp <;> with_reducible rfl
    try simp only [tkS, List.getElem_toArray, List.getElem_cons_zero, List.getElem_cons_succ]
    refine tk2 (i := 12) (v := ?_) rfl hS (fun _ => trivial) ?hy ?_
    case hy => intro w hSw; obtain ⟨z0, z1, z2, z3, z4, z5⟩ := hSw.c6 d0 d2 e0 e1 e2 e3; go_simp <;> with_reducible rfl
    try simp only [tkS, List.getElem_toArray, List.getElem_cons_zero, List.getElem_cons_succ]
    refine tk2 (i := 13) (v := ?_) rfl hS (fun _ => trivial) ?hy ?_
    case hy => intro w hSw; obtain ⟨z0, z1, z2, z3, z4, z5⟩ := hSw.c6 d0 d2 e0 e1 e2 e3; go_simp <;> with_reducible rfl
    try simp only [tkS, List.getElem_toArray, List.getElem_cons_zero, List.getElem_cons_succ]
    refine tk2 (i := 14) (v := ?_) rfl hS (fun _ => trivial) ?hy ?_
    case hy => intro w hSw; obtain ⟨z0, z1, z2, z3, z4, z5⟩ := hSw.c6 d0 d2 e0 e1 e2 e3; go_simp <;> with_reducible rfl
    try simp only [tkS, List.getElem_toArray, List.getElem_cons_zero, List.getElem_cons_succ]
    refine tk2 (i := 15) (v := ?_) rfl hS (fun _ => trivial) ?hy ?_
    case hy => intro w hSw; obtain ⟨z0, z1, z2, z3, z4, z5⟩ := hSw.c6 d0 d2 e0 e1 e2 e3; go_simp <;> with_reducible rfl
    try simp only [tkS, List.getElem_toArray, List.getElem_cons_zero, List.getElem_cons_succ]
    refine tk2 (i := 16) (v := ?_) rfl hS (fun _ => trivial) ?hy ?_
    case hy => intro w hSw; obtain ⟨z0, z1, z2, z3, z4, z5⟩ := hSw.c6 d0 d2 e0 e1 e2 e3; go_simp <;> with_reducible rfl
    try simp only [tkS, List.getElem_toArray, List.getElem_cons_zero, List.getElem_cons_succ]
    refine tk2 (i := 17) (v := ?_) rfl hS (fun _ => trivial) ?hy ?_
    case hy => intro w hSw; obtain ⟨z0, z1, z2, z3, z4, z5⟩ := hSw.c6 d0 d2 e0 e1 e2 e3; go_simp <;> with_reducible rfl
    try simp only [tkS, List.getElem_toArray, List.getElem_cons_zero, List.getElem_cons_succ]
    refine tk2 (i := 18) (v := ?_) rfl hS (fun _ => trivial) ?hy ?_
    case hy => intro w hSw; obtain ⟨z0, z1, z2, z3, z4, z5⟩ := hSw.c6 d0 d2 e0 e1 e2 e3; go_simp <;> with_reducible rfl
    try simp only [tkS, List.getElem_toArray, List.getElem_cons_zero, List.getElem_cons_succ]
    refine tk2 (i := 19) (v := ?_) rfl hS (fun _ => trivial) ?hy ?_
    case hy => intro w hSw; obtain ⟨z0, z1, z2, z3, z4, z5⟩ := hSw.c6 d0 d2 e0 e1 e2 e3; go_simp <;> with_reducible rfl
    try simp only [tkS, List.getElem_toArray, List.getElem_cons_zero, List.getElem_cons_succ]
    refine tk2 (i := 20) (v := ?_) rfl hS (fun _ => trivial) ?hy ?_
    case hy => intro w hSw; obtain ⟨z0, z1, z2, z3, z4, z5⟩ := hSw.c6 d0 d2 e0 e1 e2 e3; go_simp <;> with_reducible rfl
    try simp only [tkS, List.getElem_toArray, List.getElem_cons_zero, List.getElem_cons_succ]
    refine tk2 (i := 21) (v := ?_) rfl hS (fun _ => trivial) ?hy ?_
    case hy => intro w hSw; obtain ⟨z0, z1, z2, z3, z4, z5⟩ := hSw.c6 d0 d2 e0 e1 e2 e3; go_simp <;> with_reducible rfl
    try simp only [tkS, List.getElem_toArray, List.getElem_cons_zero, List.getElem_cons_succ]
    refine tk2 (i := 22) (v := ?_) rfl hS (fun _ => trivial) ?hy ?_
    case hy => intro w hSw; obtain ⟨z0, z1, z2, z3, z4, z5⟩ := hSw.c6 d0 d2 e0 e1 e2 e3; go_simp <;> with_reducible rfl
    try simp only [tkS, List.getElem_toArray, List.getElem_cons_zero, List.getElem_cons_succ]
    refine tk2 (i := 23) (v := ?_) rfl hS (fun _ => trivial) ?hy ?_
    case hy => intro w hSw; obtain ⟨z0, z1, z2, z3, z4, z5⟩ := hSw.c6 d0 d2 e0 e1 e2 e3; go_simp <;> with_reducible rfl
    try simp only [tkS, List.getElem_toArray, List.getElem_cons_zero, List.getElem_cons_succ]
    refine tk2 (i := 24) (v := ?_) rfl hS (fun _ => trivial) ?hy ?_
    case hy => intro w hSw; obtain ⟨z0, z1, z2, z3, z4, z5⟩ := hSw.c6 d0 d2 e0 e1 e2 e3; go_simp <;> with_reducible rfl
    try simp only [tkS, List.getElem_toArray, List.getElem_cons_zero, List.getElem_cons_succ]
    refine tk2 (i := 25) (v := ?_) rfl hS (fun _ => trivial) ?hy ?_
    case hy => intro w hSw; obtain ⟨z0, z1, z2, z3, z4, z5⟩ := hSw.c6 d0 d2 e0 e1 e2 e3; go_simp <;> with_reducible rfl
    try simp only [tkS, List.getElem_toArray, List.getElem_cons_zero, List.getElem_cons_succ]
    refine tk2 (i := 26) (v := ?_) rfl hS (fun _ => trivial) ?hy ?_
    case hy => intro w hSw; obtain ⟨z0, z1, z2, z3, z4, z5⟩ := hSw.c6 d0 d2 e0 e1 e2 e3; go_simp <;> with_reducible rfl
    try simp only [tkS, List.getElem_toArray, List.getElem_cons_zero, List.getElem_cons_succ]
    refine tk2 (i := 27) (v := ?_) rfl hS (fun _ => trivial) ?hy ?_
    case hy => intro w hSw; obtain ⟨z0, z1, z2, z3, z4, z5⟩ := hSw.c6 d0 d2 e0 e1 e2 e3; go_simp <;> with_reducible rfl
    try simp only [tkS, List.getElem_toArray, List.getElem_cons_zero, List.getElem_cons_succ]
    refine tk2 (i := 28) (v := ?_) rfl hS (fun _ => trivial) ?hy ?_
    case hy => intro w hSw; obtain ⟨z0, z1, z2, z3, z4, z5⟩ := hSw.c6 d0 d2 e0 e1 e2 e3; go_simp <;> with_reducible rfl
    try simp only [tkS, List.getElem_toArray, List.getElem_cons_zero, List.getElem_cons_succ]
    refine tk2 (i := 29) (v := ?_) rfl hS (fun _ => trivial) ?hy ?_
    case hy => intro w hSw; obtain ⟨z0, z1, z2, z3, z4, z5⟩ := hSw.c6 d0 d2 e0 e1 e2 e3; go_simp <;> with_reducible rfl
    try simp only [tkS, List.getElem_toArray, List.getElem_cons_zero, List.getElem_cons_succ]
    refine tk2 (i := 30) (v := ?_) rfl hS (fun _ => trivial) ?hy ?_
    case hy => intro w hSw; obtain ⟨z0, z1, z2, z3, z4, z5⟩ := hSw.c6 d0 d2 e0 e1 e2 e3; go_simp <;> with_reducible rfl
    try simp only [tkS, List.getElem_toArray, List.getElem_cons_zero, List.getElem_cons_succ]
    refine tk2 (i := 31) (v := ?_) rfl hS (fun _ => trivial) ?hy ?_
    case hy => intro w hSw; obtain ⟨z0, z1, z2, z3, z4, z5⟩ := hSw.c6 d0 d2 e0 e1 e2 e3; go_simp <;> with_reducible rfl
    try simp only [tkS, List.getElem_toArray, List.getElem_cons_zero, List.getElem_cons_succ]
    refine wpAny2_done (by kernel_rfl) ?_ _
    go_wp2_with fail
    go_roundw
    case rel => exact ⟨k + 1, by go_num, by omega, HB.out.drew⟩
    case measure => simp [intOf]; omega
  ·obtain rfl : k = L.length := by omega
   go_wp2_with fail
   go_ret
   exact ⟨rfl, HB6.out.trans (HB.out.mono HB6.out.size)⟩
end Go.Proofs.YthejomlhmdeimaaDoor
