/- Walks: lustrumref1: Index, Has, kindIn, VarsOf, Arity, Formed, formedIn, Parts, partsOf. -/
import Derived.Test.YthejomlhmdeimaaDoorEof
import Derived.Test.YthejomlhmdeimaaDoorRg
namespace Go.Proofs.YthejomlhmdeimaaDoor
set_option maxRecDepth 100000
set_option maxHeartbeats 16000000
open Go.RowKit Mx
theorem str_eq (a b : ByteArray) : (a.toList == b.toList) = decide (a = b) := bytes_eq_iff a b
def idxS (s : ByteArray) (l : List ByteArray) : Int := match l.findIdx? (fun x => decide (x = s)) with | some i => (i : Int) | none => -1
theorem idxS_found (s : ByteArray) (l : List ByteArray) (k : Nat) (hk : k < l.length) (hp : l[k] = s) (hn : ∀ i (hi : i < l.length), i < k → l[i] ≠ s) : idxS s l = (k : Int) := by
 have : l.findIdx? (fun x => decide (x = s)) = some k := by
  rw [List.findIdx?_eq_some_iff_getElem]
  exact ⟨hk, by simpa using hp, fun j hj => by simpa using hn j (by omega) hj⟩
 simp [idxS, this]
theorem idxS_none (s : ByteArray) (l : List ByteArray) (hn : ∀ i (hi : i < l.length), l[i] ≠ s) : idxS s l = -1 := by
 have : l.findIdx? (fun x => decide (x = s)) = none := by
  rw [List.findIdx?_eq_none_iff]
  intro x hx
  obtain ⟨i, hi, rfl⟩ := List.mem_iff_getElem.1 hx
  simpa using hn i hi
 simp [idxS, this]
theorem idxS_ge (s : ByteArray) (l : List ByteArray) : decide (0 ≤ idxS s l) = l.contains s := by
 cases h : l.findIdx? (fun x => decide (x = s)) with
 | none =>
  rw [idxS, h]
  rw [List.findIdx?_eq_none_iff] at h
  have : l.contains s = false := by
   cases hc : l.contains s with
   | false => rfl
   | true => have := h s (by simpa using hc); simp at this
  rw [this]; rfl
 | some i =>
  rw [idxS, h]
  rw [List.findIdx?_eq_some_iff_getElem] at h
  obtain ⟨hi, hp, _⟩ := h
  have hp : l[i] = s := by simpa using hp
  have : l.contains s = true := by simp only [List.contains_iff_mem]; rw [← hp]; exact List.getElem_mem _
  rw [this]; simp
theorem idxS_lt (s : ByteArray) (l : List ByteArray) : -1 ≤ idxS s l ∧ idxS s l < (l.length : Int) + 1 := by
 unfold idxS
 cases h : l.findIdx? (fun x => decide (x = s)) with
 | none => simp; omega
 | some i =>
  rw [List.findIdx?_eq_some_iff_getElem] at h
  obtain ⟨hi, _⟩ := h
  simp; omega
theorem ridx_any (H : Kn) (v : Value) (l : List ByteArray) (s : ByteArray) (w : World) (hv : StrsV H l v) (hl : l.length ≤ 1000000000) (hH : H.In w) :
  Calls Tryd.prog 57 #[v, .string s] w fun e w' => e = .returned (.int .i64 (idxS s l)) ∧ w = w' := by
 obtain ⟨a, c, rfl⟩ := hv.len
 have HV := Lib.hid hv
 clear hv
 go_enter Tryd.func57, Tryd.ntmps57
 go_wp2_with fail
 go_loop [5] (fun i => ∃ k : Nat, k ≤ l.length ∧ i = .int .i64 k ∧ (∀ i (hi : i < l.length), i < k → l[i] ≠ s)) (fun i => l.length - (intOf i).toNat)
 case atStart => exact ⟨0, Nat.zero_le _, rfl, by intro i _ h; omega⟩
 case round =>
  obtain ⟨k, hk, rfl, hn⟩ := hrel
  have HN := Lib.hid hn
  clear hn
  by_cases hlt : k < l.length
  ·obtain ⟨b, off, rfl, _, c0⟩ := SlV.at HV.out hlt
   have c0 := hH.cell c0
   simp only [Nat.mul_one, Nat.add_zero] at c0
   by_cases he : l[k] = s
   ·have HI := Lib.hid (idxS_found s l k hlt he fun i hi hik => HN.out i hi hik)
    rw [he] at c0
    have hq : (s.toList == s.toList) = true := by simp
    clear he
    go_wp2_with fail
    go_ret
    exact ⟨ret_int HI.out.symm, rfl⟩
   ·have HX := Lib.hid (show ∀ i (hi : i < l.length), i < k + 1 → l[i] ≠ s from fun i hi hik => by
     by_cases hik' : i < k
     ·exact HN.out i hi hik'
     ·obtain rfl : i = k := by omega
      exact he)
    have hq : (l[k].toList == s.toList) = false := by rw [str_eq]; simpa using he
    generalize l[k] = x at *
    clear he
    go_wp2_with fail
    go_round
    case rel => exact ⟨k + 1, by omega, by go_num, HX.out⟩
    case measure => simp [intOf]; omega
  ·go_wp2_with fail
   go_ret
   exact ⟨ret_int (idxS_none _ _ fun i hi => HN.out i hi (by omega)).symm, rfl⟩
theorem rhas_any (H : Kn) (v : Value) (l : List ByteArray) (s : ByteArray) (w : World) (hv : StrsV H l v) (hl : l.length ≤ 1000000000) (hH : H.In w) :
  Calls Tryd.prog 44 #[v, .string s] w fun e w' => e = .returned (.bool (l.contains s)) ∧ w = w' := by
 have hb := idxS_lt s l
 have HD := Lib.hid (idxS_ge s l)
 go_enter Tryd.func44, Tryd.ntmps44
 go_wp2_with fail
 refine (ridx_any H v l s _ hv hl hH).mono ?_
 rintro e w' ⟨rfl, rfl⟩
 go_wp2_with fail
 go_ret
 exact ⟨ret_bool HD.out, rfl⟩
def kindInV : List Vr → ByteArray → Int
 | [], _ => 0
 | x :: r, s => if x.name = s then x.kind else kindInV r s
theorem kindInV_found (s : ByteArray) : ∀ (l : List Vr) (k : Nat) (hk : k < l.length), l[k].name = s → (∀ i (hi : i < l.length), i < k → l[i].name ≠ s) → kindInV l s = l[k].kind
 | x :: l, 0, _, hp, _ => by simp only [List.getElem_cons_zero] at hp ⊢; simp [kindInV, hp]
 | x :: l, k + 1, hk, hp, hn => by
  have h0 := hn 0 (by simp) (by omega)
  simp only [List.getElem_cons_zero] at h0
  simp only [List.getElem_cons_succ] at hp ⊢
  simp only [kindInV]
  rw [if_neg h0]
  exact kindInV_found s l k (by simpa using hk) hp fun i hi hik => by have := hn (i + 1) (by simpa using hi) (by omega); simpa using this
theorem kindInV_none (s : ByteArray) : ∀ (l : List Vr), (∀ i (hi : i < l.length), l[i].name ≠ s) → kindInV l s = 0
 | [], _ => rfl
 | x :: l, hn => by
  have h0 := hn 0 (by simp)
  simp only [List.getElem_cons_zero] at h0
  simp only [kindInV]
  rw [if_neg h0]
  exact kindInV_none s l fun i hi => by have := hn (i + 1) (by simpa using hi); simpa using this
theorem kindIn_any (H : Kn) (v : Value) (l : List Vr) (s : ByteArray) (w : World) (hv : VrsV H l v) (hl : l.length ≤ 1000000000) (hH : H.In w) :
  Calls Tryd.prog 73 #[v, .string s] w fun e w' => e = .returned (.int .i64 (kindInV l s)) ∧ w = w' := by
 obtain ⟨a, c, rfl⟩ := hv.len
 have HV := Lib.hid hv
 clear hv
 go_enter Tryd.func73, Tryd.ntmps73
 go_wp2_with fail
 go_loop [5] (fun i => ∃ k : Nat, k ≤ l.length ∧ i = .int .i64 k ∧ (∀ i (hi : i < l.length), i < k → l[i].name ≠ s)) (fun i => l.length - (intOf i).toNat)
 case atStart => exact ⟨0, Nat.zero_le _, rfl, by intro i _ h; omega⟩
 case round =>
  obtain ⟨k, hk, rfl, hn⟩ := hrel
  have HN := Lib.hid hn
  clear hn
  by_cases hlt : k < l.length
  ·obtain ⟨b, off, rfl, _, c0, c1⟩ := SlV.at HV.out hlt
   have c0 := hH.cell c0
   have c1 := hH.cell c1
   simp only [Nat.add_zero] at c0
   by_cases he : l[k].name = s
   ·have HI := Lib.hid (kindInV_found s l k hlt he fun i hi hik => HN.out i hi hik)
    rw [he] at c0
    have hq : (s.toList == s.toList) = true := by simp
    clear he
    generalize l[k].kind = kk at *
    go_wp2_with fail
    go_ret
    exact ⟨ret_int HI.out.symm, rfl⟩
   ·have HX := Lib.hid (show ∀ i (hi : i < l.length), i < k + 1 → l[i].name ≠ s from fun i hi hik => by
     by_cases hik' : i < k
     ·exact HN.out i hi hik'
     ·obtain rfl : i = k := by omega
      exact he)
    have hq : (l[k].name.toList == s.toList) = false := by rw [str_eq]; simpa using he
    generalize l[k] = x at *
    clear he
    go_wp2_with fail
    go_round
    case rel => exact ⟨k + 1, by omega, by go_num, HX.out⟩
    case measure => simp [intOf]; omega
  ·go_wp2_with fail
   go_ret
   exact ⟨ret_int (kindInV_none _ _ fun i hi => HN.out i hi (by omega)).symm, rfl⟩
def vrsOf (p : Pr) : List Vr := p.ins ++ p.fl.map fun f => ⟨f.name, f.kind⟩
theorem vrsOf_len (p : Pr) : (vrsOf p).length = p.ins.length + p.fl.length := by simp [vrsOf]
theorem Tryd.infoRVr : (Tryd.prog.info? 73).map (fun i => (i.zero, i.size, i.bytes)) = some (some (.agg #[.string ⟨#[]⟩, .int .i64 0]), 2, 24) := by kernel_rfl
theorem VrsV.xs {H : Kn} {l : List Vr} {b off : Nat} (h : ∀ i (hi : i < l.length), VrC l[i] (fun j => H.cell b (off + i * 2 + j))) : ∀ j u, (l.flatMap fun v : Vr => [Value.string v.name, .int .i64 v.kind])[j]? = some u → H.cell b (off + j) = some u := fun j u hu => by
 have hlen : (l.flatMap fun v : Vr => [Value.string v.name, .int .i64 v.kind]).length = l.length * 2 := by
  clear h hu
  induction l with
  | nil => rfl
  | cons x l ih => simp only [List.flatMap_cons, List.length_append, List.length_cons, List.length_nil, ih]; omega
 have hj : j < l.length * 2 := by rw [← hlen]; exact (List.getElem?_eq_some_iff.1 hu).1
 have e : j / 2 * 2 + j % 2 = j := by omega
 have hi : j / 2 < l.length := by omega
 have hg := flat_get 2 (fun v : Vr => [Value.string v.name, .int .i64 v.kind]) (fun _ => rfl) l (j / 2) hi (j % 2) (by omega)
 rw [e, hu] at hg
 obtain ⟨h0, h1⟩ := h (j / 2) hi
 rcases (show j % 2 = 0 ∨ j % 2 = 1 from by omega) with hm | hm
 ·rw [hm] at hg
  simp at hg
  rw [hg, show off + j = off + j / 2 * 2 + 0 from by omega]
  exact h0
 ·rw [hm] at hg
  simp at hg
  rw [hg, show off + j = off + j / 2 * 2 + 1 from by omega]
  exact h1
theorem run_append_vrs {H : Kn} {W : World} {L : List Vr} (hK : H.In W) {l : List Vr} {a : Option Addr} {c : Nat} (h : VrsV H l (.slice a l.length c)) (hl : l.length ≤ 1000000000) (hL : L.take l.length = l) :
  ∃ v' W', (∀ ty, (Builtin.append_ #[42, 42] ty #[.slice none 0 0, .slice a l.length c]).run Tryd.prog W = .ok v' W') ∧ RwO 73 2 VsX H W W' W.heap.size L l.length v' (l.flatMap fun v => [.string v.name, .int .i64 v.kind]) H := by
 obtain ⟨i1, hi1, hy0, hy1, hy2⟩ := info_parts Tryd.infoRVr
 have hS0 : RwO 73 2 VsX H W W W.heap.size L 0 (.slice none 0 0) [] H := ⟨Kn.le_refl H, fun _ _ => rfl, hK, Below.refl _ _, Nat.le_refl _, World.ownsRow_nil _ _ _ _, rfl, fun g hg => by simp [Value.ownBlock] at hg⟩
 by_cases h0 : l = []
 ·subst h0
  exact ⟨.slice none 0 0, W, fun ty => run_append_empty 42 73 i1 Tryd.underlying42 hi1 (World.ownsRow_nil W W.heap.size 73 2) a c ty, hS0⟩
 ·rcases h with ⟨h, _⟩ | ⟨b, off, cap, he, hc1, hc2, hc3⟩
  ·exact absurd h h0
  ·cases he
   have hlen : 0 < l.length := List.length_pos_iff.2 h0
   have hnl : (l.flatMap fun v : Vr => [Value.string v.name, .int .i64 v.kind]).length = l.length * 2 := by
    clear hc3 hL hS0 hlen hl h0 hc1
    induction l with
    | nil => rfl
    | cons x l ih => simp only [List.flatMap_cons, List.length_append, List.length_cons, List.length_nil, ih]; omega
   have hrun := fun ty => run_append_lies (P := Tryd.prog) W 42 ty W.heap.size 73 i1 _ 2 24 Tryd.underlying42 hi1 hy0 hy1 hy2 rfl (by omega) (.slice none 0 0) 0 [] hS0.row ⟨b, off, none⟩ l.length c (l.flatMap fun v => [.string v.name, .int .i64 v.kind]) hnl (fun j u hj => by rw [addr_add']; exact hK.cell (VrsV.xs hc3 j u hj)) (by
    intro u hu
    obtain ⟨x, _, hx⟩ := List.mem_flatMap.1 hu
    simp at hx
    rcases hx with rfl | rfl <;> rfl) hlen (by unfold maxLen; omega) (by omega) (Nat.le_refl _) W.heap.size rfl
   obtain ⟨g, cap', W', e1, e2, e3, e4, e5⟩ := hrun 0
   have hst := hS0.step (by rw [Nat.zero_add, hL]; exact rfl) e2 e3 e4
   rw [Nat.zero_add, List.nil_append] at hst
   refine ⟨_, W', fun ty => ?_, hst⟩
   have := e1
   rw [Nat.zero_add] at this
   exact this
theorem rvars_any (H : Kn) (p : Pr) (vi vo vl va vc : Value) (hp : PrP H p vi vo vl va vc) (hsz : p.ins.length ≤ 1000000000 ∧ p.fl.length ≤ 1000000000) (w : World) (hH : H.In w) :
  Calls Tryd.prog 72 #[.agg #[vi, vo, vl, va, vc]] w fun r w' => ∃ v K, r = .returned v ∧ VrsV K (vrsOf p) v ∧ Kn.Step H w K w' := by
 obtain ⟨h1, h2, h3, h4, h5⟩ := hp
 obtain ⟨ai, ci, rfl⟩ := h1.len
 obtain ⟨ao, co, rfl⟩ := h2.len
 obtain ⟨al, cl, rfl⟩ := h3.len
 obtain ⟨aa, ca, rfl⟩ := h4.len
 obtain ⟨ac, cc, rfl⟩ := h5.len
 obtain ⟨s1, s2⟩ := hsz
 obtain ⟨i0, hi0, hz0, hz1, hz2⟩ := info_parts Tryd.infoRVr
 have hvl := vrsOf_len p
 clear h2 h4 h5
 go_enter Tryd.func72, Tryd.ntmps72
 have hb0 : Below w.heap.size w (w.alloc (.cells #[.slice ai p.ins.length ci, .slice ao p.outs.length co, .slice al p.fl.length cl, .slice aa p.as.length ca, .slice ac p.cs.length cc] 45)) := (Below.refl _ _).alloc (Nat.le_refl _) _
 have hP0 := heap_alloc_new w (.cells #[.slice ai p.ins.length ci, .slice ao p.outs.length co, .slice al p.fl.length cl, .slice aa p.as.length ca, .slice ac p.cs.length cc] 45)
 have hlt1 : w.heap.size < (w.alloc (.cells #[.slice ai p.ins.length ci, .slice ao p.outs.length co, .slice al p.fl.length cl, .slice aa p.as.length ca, .slice ac p.cs.length cc] 45)).heap.size := by simp
 obtain ⟨H1, hH1⟩ : ∃ K, K = H.add w.heap.size (.cells #[.slice ai p.ins.length ci, .slice ao p.outs.length co, .slice al p.fl.length cl, .slice aa p.as.length ca, .slice ac p.cs.length cc] 45 (0, 0)) := ⟨_, rfl⟩
 have hSt : Kn.Step H w H1 (w.alloc (.cells #[.slice ai p.ins.length ci, .slice ao p.outs.length co, .slice al p.fl.length cl, .slice aa p.as.length ca, .slice ac p.cs.length cc] 45)) := ⟨by rw [hH1]; exact Kn.le_add (hH.isNone (Nat.le_refl _)), fun b hb => by rw [hH1, Kn.add_other _ _ (by omega)], by rw [hH1]; exact (hH.below hb0).add hP0, hb0⟩
 have hc : ∀ i, H1.cell w.heap.size i = (#[.slice ai p.ins.length ci, .slice ao p.outs.length co, .slice al p.fl.length cl, .slice aa p.as.length ca, .slice ac p.cs.length cc] : Array Value)[i]? := fun i => by unfold Kn.cell; rw [hH1, Kn.add_self]
 have k0 : H1.cell w.heap.size 0 = some (.slice ai p.ins.length ci) := hc 0
 have k2 : H1.cell w.heap.size 2 = some (.slice al p.fl.length cl) := hc 2
 have e0 := hSt.isin.cell k0
 obtain ⟨v1, W2, hrun, hS1⟩ := run_append_vrs (L := vrsOf p) hSt.isin (h1.le hSt.le VrC.mono) s1 (by unfold vrsOf; rw [List.take_left])
 have HST := Lib.hid hSt
 have HF := Lib.hid (h3.le hSt.le (FlC.mono hSt.le))
 have HS1 := Lib.hid hS1
 clear hc hH1 hP0 hb0 hSt hS1 h1 h3
 go_wp2_with (at_builtin; refine wp_append_run rfl _ _ _ _ rfl _ _ rfl rfl _ _ hrun ?_)
 generalize w.alloc (.cells #[.slice ai p.ins.length ci, .slice ao p.outs.length co, .slice al p.fl.length cl, .slice aa p.as.length ca, .slice ac p.cs.length cc] 45) = W1 at *
 clear hrun e0
 go_loopw [3, 4] (fun u i wr => ∃ (k : Nat) (xs : List Value), i = .int .i64 k ∧ k ≤ p.fl.length ∧ RwO 73 2 VsX H1 W1 wr W1.heap.size (vrsOf p) (p.ins.length + k) u xs H1) (fun _ i _ => p.fl.length - (intOf i).toNat)
 case atStart => exact ⟨0, _, rfl, Nat.zero_le _, HS1.out⟩
 case round =>
  obtain ⟨k, xs, rfl, hk, hS⟩ := hrel
  have HS := Lib.hid hS
  obtain ⟨au, cu, rfl, _⟩ := own_len hS.row
  clear hS
  have m2 := HS.out.isin.cell k2
  by_cases hkl : k < p.fl.length
  ·obtain ⟨b, off, cap0, he, _, _, hcs⟩ := FlsV.cell HF.out (fun e => by rw [e] at hkl; simp at hkl)
   cases he
   obtain ⟨_, _, d0, d1, _⟩ := hcs k hkl
   have hkv : p.ins.length + k < (vrsOf p).length := by omega
   have hT : (vrsOf p).take (p.ins.length + (k + 1)) = (vrsOf p).take (p.ins.length + k) ++ [⟨p.fl[k].name, p.fl[k].kind⟩] := by
    rw [show p.ins.length + (k + 1) = p.ins.length + k + 1 from by omega, take_snoc _ _ hkv]
    congr 2
    simp [vrsOf]
   have HT := Lib.hid hT
   clear hT hcs
   generalize p.fl[k] = x at *
   have hSD := HS.out.drew
   have hS2 := hSD.isin
   go_wp2_with fail
   refine wp_region_2 (fun w' => H1.In w') (fun _ => True) 15 (by kernel_rfl) ?_
   refine tk2 (i := 0) (v := ?_) rfl hS2 (fun _ => trivial) ?hy ?_
   case hy => intro w hSw; obtain ⟨z0, z1, z2⟩ := hSw.c3 k2 d0 d1; go_simp <;> with_reducible rfl
   try simp only [tkS]
   refine tk2 (i := 1) (v := ?_) rfl hS2 (fun _ => trivial) ?hy ?_
   case hy => intro w hSw; obtain ⟨z0, z1, z2⟩ := hSw.c3 k2 d0 d1; go_simp <;> with_reducible rfl
   try simp only [tkS]
   refine tk2 (i := 3) (v := ?_) rfl hS2 (fun _ => trivial) ?hy ?_
   case hy => intro w hSw; obtain ⟨z0, z1, z2⟩ := hSw.c3 k2 d0 d1; go_simp <;> with_reducible rfl
   try simp only [tkS]
   refine tk2 (i := 2) (v := ?_) rfl hS2 (fun _ => trivial) ?hy ?_
   case hy => intro w hSw; obtain ⟨z0, z1, z2⟩ := hSw.c3 k2 d0 d1; go_simp <;> with_reducible rfl
   try simp only [tkS]
   refine tk2 (i := 4) (v := ?_) rfl hS2 (fun _ => trivial) ?hy ?_
   case hy => intro w hSw; obtain ⟨z0, z1, z2⟩ := hSw.c3 k2 d0 d1; go_simp <;> with_reducible rfl
   try simp only [tkS]
   refine tk2 (i := 5) (v := ?_) rfl hS2 (fun _ => trivial) ?hy ?_
   case hy => intro w hSw; obtain ⟨z0, z1, z2⟩ := hSw.c3 k2 d0 d1; go_simp <;> with_reducible rfl
   try simp only [tkS]
   refine tk2 (i := 6) (v := ?_) rfl hS2 (fun _ => trivial) ?hy ?_
   case hy => intro w hSw; obtain ⟨z0, z1, z2⟩ := hSw.c3 k2 d0 d1; go_simp <;> with_reducible rfl
   try simp only [tkS]
   refine tk2 (i := 7) (v := ?_) rfl hS2 (fun _ => trivial) ?hy ?_
   case hy => intro w hSw; obtain ⟨z0, z1, z2⟩ := hSw.c3 k2 d0 d1; go_simp <;> with_reducible rfl
   try simp only [tkS]
   refine tk2 (i := 9) (v := ?_) rfl hS2 (fun _ => trivial) ?hy ?_
   case hy => intro w hSw; obtain ⟨z0, z1, z2⟩ := hSw.c3 k2 d0 d1; go_simp <;> with_reducible rfl
   try simp only [tkS]
   refine tk2 (i := 8) (v := ?_) rfl hS2 (fun _ => trivial) ?hy ?_
   case hy => intro w hSw; obtain ⟨z0, z1, z2⟩ := hSw.c3 k2 d0 d1; go_simp <;> with_reducible rfl
   try simp only [tkS]
   refine tk2 (i := 10) (v := ?_) rfl hS2 (fun _ => trivial) ?hy ?_
   case hy => intro w hSw; obtain ⟨z0, z1, z2⟩ := hSw.c3 k2 d0 d1; go_simp <;> with_reducible rfl
   try simp only [tkS]
   refine tk2 (i := 11) (v := ?_) rfl hS2 (fun _ => trivial) ?hy ?_
   case hy => intro w hSw; obtain ⟨z0, z1, z2⟩ := hSw.c3 k2 d0 d1; go_simp <;> with_reducible rfl
   try simp only [tkS]
   refine tk2 (i := 12) (v := ?_) rfl hS2 (fun _ => trivial) ?hy ?_
   case hy => intro w hSw; obtain ⟨z0, z1, z2⟩ := hSw.c3 k2 d0 d1; go_simp <;> with_reducible rfl
   try simp only [tkS]
   refine tk2 (i := 13) (v := ?_) rfl hS2 (fun _ => trivial) ?hy ?_
   case hy => intro w hSw; obtain ⟨z0, z1, z2⟩ := hSw.c3 k2 d0 d1; go_simp <;> with_reducible rfl
   try simp only [tkS]
   refine wpAny2_one (i := 14) (o := _) (by kernel_rfl) rfl (fun K_ hK => ?_)
   go_simp
   refine hK.out _ _ (hSD.alloc _ |>.isin) (fun _ => trivial) ?_
   clear hK K_
   try simp only [tkS]
   refine wpAny2_one (i := 15) (o := _) (by kernel_rfl) rfl (fun K_ hK => ?_)
   refine step_append_lies _ (by rfl) _ _ _ (by rfl) W1.heap.size 73 i0 _ 2 24 Tryd.underlying42 hi0 hz0 hz1 hz2 rfl (by omega) _ (p.ins.length + k) xs (by rfl) (RwO.row (RwO.alloc hSD _)) ⟨_, 0, none⟩ 1 1 [.string x.name, .int .i64 x.kind] (by rfl) (by rfl) (by exact World.news_of_block (heap_alloc_new _ _)) (by simp [Value.oneCell']) (by omega) (by unfold maxLen; omega) (by omega) (RwO.size (RwO.alloc hSD _)) _ rfl ?_
   intro gg cap' w3 hown hgrow hat hltg
   have hf3 := RwO.step (n' := 1) (RwO.alloc hSD _) (by rw [show p.ins.length + k + 1 = p.ins.length + (k + 1) from by omega, HT.out]; have h1 := HS.out.xs; unfold VsX at h1 ⊢; rw [h1]; simp) hown hgrow hat
   refine hK.out _ _ (hf3.isin) (fun _ => trivial) ?_
   clear hK K_
   try simp only [tkS]
   refine tk2 (i := 16) (v := ?_) rfl hf3.isin (fun _ => trivial) ?hy ?_
   case hy => intro w hSw; obtain ⟨z0, z1, z2⟩ := hSw.c3 k2 d0 d1; go_simp <;> with_reducible rfl
   try simp only [tkS]
   refine wpAny2_done (by kernel_rfl) ?_ _
   go_wp2_with fail
   go_roundw
   case rel => exact ⟨k + 1, _, by go_num, by omega, hf3⟩
   case measure => simp [intOf]; omega
  ·obtain rfl : k = p.fl.length := by omega
   have hxs := HS.out.xs
   have hrow := HS.out.row
   rw [← hvl] at hxs hrow
   rw [List.take_of_length_le (Nat.le_refl _)] at hxs
   obtain ⟨K', hle, hin, hv, hfr⟩ := slv_of_own (R := fun _ => VrC) HS.out.isin hrow (fun g hg => HS.out.noR g (by rw [← hvl]; exact hg)) (fun K' _ => VsX.at (K' := K') hxs)
   have HR := Lib.hid (show Kn.Step H w K' wr from HST.out.trans ⟨Kn.le_trans HS.out.le hle, fun b hb => (hfr b hb).trans (HS.out.fresh b hb), hin, HS.out.below⟩)
   have HV := Lib.hid hv
   rw [hvl] at HV
   clear hv hin hfr hle hxs hrow
   go_wp2_with fail
   go_ret
   exact ⟨_, K', rfl, HV.out, HR.out⟩
end Go.Proofs.YthejomlhmdeimaaDoor
namespace Go.Proofs.YthejomlhmdeimaaDoor
set_option maxRecDepth 100000
set_option maxHeartbeats 16000000
open Go.RowKit Mx
theorem rarity_any (o : ByteArray) (w : World) :
  Calls Tryd.prog 99 #[.string o] w fun e w' => e = .returned (.tuple #[.int .i64 (arN o), .bool (arB o)]) ∧ w = w' := by
 by_cases hk : o = oInt ∨ o = oTrue ∨ o = oFalse ∨ o = oName ∨ o = oNot ∨ o = oNeg ∨ o = oPre ∨ o = oIf ∨ o = oCall ∨ o = oAnd ∨ o = oOr ∨ o = oXor ∨ o = oImp ∨ o = oEq ∨ o = oNe ∨ o = oLt ∨ o = oLe ∨ o = oGt ∨ o = oGe ∨ o = oAdd ∨ o = oSub ∨ o = oMul ∨ o = oDiv ∨ o = oMod ∨ o = oArrow ∨ o = oFby
 ·rcases hk with rfl | rfl | rfl | rfl | rfl | rfl | rfl | rfl | rfl | rfl | rfl | rfl | rfl | rfl | rfl | rfl | rfl | rfl | rfl | rfl | rfl | rfl | rfl | rfl | rfl | rfl
  all_goals
   go_enter Tryd.func99, Tryd.ntmps99
   go_wp2_with fail
   go_ret2
   exact ⟨by rfl, rfl⟩
 ·simp only [not_or] at hk
  obtain ⟨k0, k1, k2, k3, k4, k5, k6, k7, k8, k9, k10, k11, k12, k13, k14, k15, k16, k17, k18, k19, k20, k21, k22, k23, k24, k25⟩ := hk
  have hA : arity o = none := by
   unfold arity
   rw [if_neg (by simp [k0, k1, k2, k3]), if_neg (by simp [k4, k5, k6]), if_neg k7, if_neg k8, if_neg (by simp [k24, k25])]
   rw [if_neg]
   simp [levels, k9, k10, k11, k12, k13, k14, k15, k16, k17, k18, k19, k20, k21, k22, k23]
  have h1 : arN o = 0 := by unfold arN; rw [hA]; rfl
  have h2 : arB o = false := by unfold arB; rw [hA]; rfl
  have e0 : (o.toList == [105, 110, 116]) = false := not_lit _ k0
  have e1 : (o.toList == [116, 114, 117, 101]) = false := not_lit _ k1
  have e2 : (o.toList == [102, 97, 108, 115, 101]) = false := not_lit _ k2
  have e3 : (o.toList == [110, 97, 109, 101]) = false := not_lit _ k3
  have e4 : (o.toList == [110, 111, 116]) = false := not_lit _ k4
  have e5 : (o.toList == [110, 101, 103]) = false := not_lit _ k5
  have e6 : (o.toList == [112, 114, 101]) = false := not_lit _ k6
  have e7 : (o.toList == [105, 102]) = false := not_lit _ k7
  have e8 : (o.toList == [99, 97, 108, 108]) = false := not_lit _ k8
  have e9 : (o.toList == [97, 110, 100]) = false := not_lit _ k9
  have e10 : (o.toList == [111, 114]) = false := not_lit _ k10
  have e11 : (o.toList == [120, 111, 114]) = false := not_lit _ k11
  have e12 : (o.toList == [61, 62]) = false := not_lit _ k12
  have e13 : (o.toList == [61]) = false := not_lit _ k13
  have e14 : (o.toList == [60, 62]) = false := not_lit _ k14
  have e15 : (o.toList == [60]) = false := not_lit _ k15
  have e16 : (o.toList == [60, 61]) = false := not_lit _ k16
  have e17 : (o.toList == [62]) = false := not_lit _ k17
  have e18 : (o.toList == [62, 61]) = false := not_lit _ k18
  have e19 : (o.toList == [43]) = false := not_lit _ k19
  have e20 : (o.toList == [45]) = false := not_lit _ k20
  have e21 : (o.toList == [42]) = false := not_lit _ k21
  have e22 : (o.toList == [47]) = false := not_lit _ k22
  have e23 : (o.toList == [109, 111, 100]) = false := not_lit _ k23
  have e24 : (o.toList == [45, 62]) = false := not_lit _ k24
  have e25 : (o.toList == [102, 98, 121]) = false := not_lit _ k25
  rw [h1, h2]
  clear h1 h2 hA k0 k1 k2 k3 k4 k5 k6 k7 k8 k9 k10 k11 k12 k13 k14 k15 k16 k17 k18 k19 k20 k21 k22 k23 k24 k25
  go_enter Tryd.func99, Tryd.ntmps99
  go_wp2_with fail
  go_ret2
  exact ⟨rfl, rfl⟩
theorem rform_any (e : Ex) (v : Value) (H : Kn) (hv : ExV H e v) (w : World) :
  Calls Tryd.prog 90 #[v] w fun r w' => r = .returned (.bool (form e)) ∧ Below w.heap.size w w' := by
 obtain ⟨u, rfl, hu⟩ := hv
 obtain ⟨a, cap, rfl⟩ := hu.len
 clear hu
 have HF := Lib.hid (form_eq e)
 have HAR := Lib.hid (rarity_any e.op)
 generalize form e = fe at *
 generalize e.op = o at *
 generalize e.n = n at *
 generalize e.s = s at *
 generalize e.l.length = k at *
 clear e
 unfold formA formB at HF
 have HB0 := Lib.hid (show Below w.heap.size w (w.alloc (.cells #[.string o, .int .i64 n, .string s, .slice a k cap] 24)) from (Below.refl _ _).alloc (Nat.le_refl _) _)
 generalize arB o = B at *
 generalize arN o = N at *
 have hNs : (B = false) ∨ (B = true ∧ N < 0 ∧ ¬ 0 ≤ N) ∨ (B = true ∧ ¬ N < 0 ∧ 0 ≤ N ∧ N = (k : Int)) ∨ (B = true ∧ ¬ N < 0 ∧ 0 ≤ N ∧ ¬ N = (k : Int)) := by
  cases B with
  | false => exact .inl rfl
  | true =>
   by_cases h1 : N < 0
   ·exact .inr (.inl ⟨rfl, h1, by omega⟩)
   ·by_cases h2 : N = (k : Int)
    ·exact .inr (.inr (.inl ⟨rfl, h1, by omega, h2⟩))
    ·exact .inr (.inr (.inr ⟨rfl, h1, by omega, h2⟩))
 have hns : (n = 0) ∨ (¬ n = 0 ∧ n < 0 ∧ ¬ 0 < n) ∨ (¬ n = 0 ∧ ¬ n < 0 ∧ 0 < n ∧ n ≤ 127 ∧ ¬ 127 < n) ∨ (¬ n = 0 ∧ ¬ n < 0 ∧ 0 < n ∧ ¬ n ≤ 127 ∧ 127 < n) := by omega
 obtain ⟨I, hI⟩ : ∃ I, (o.toList == [105, 110, 116]) = I := ⟨_, rfl⟩
 have har : ∀ w, Calls Tryd.prog 99 #[.string o] w fun e w' => e = .returned (.tuple #[.int .i64 N, .bool B]) ∧ w = w' := HAR.out
 rw [hI] at HF
 rcases hNs with rfl | ⟨rfl, n1, n2⟩ | ⟨rfl, n1, n2, n3⟩ | ⟨rfl, n1, n2, n3⟩
 all_goals rcases hns with rfl | ⟨m1, m2, m3⟩ | ⟨m1, m2, m3, m4, m5⟩ | ⟨m1, m2, m3, m4, m5⟩
 all_goals cases I
 all_goals
  go_enter Tryd.func90, Tryd.ntmps90
  go_wp2_with (go_at_call 99; refine (har _).mono ?_; rintro e w' ⟨rfl, rfl⟩)
 all_goals go_ret
 all_goals refine ⟨ret_bool ?_, HB0.out⟩
 all_goals rw [HF.out]
 all_goals (first | (simp [*]; done) | (simp [*]; intros; exfalso; omega))
end Go.Proofs.YthejomlhmdeimaaDoor
namespace Go.Proofs.YthejomlhmdeimaaDoor
set_option maxRecDepth 100000
set_option maxHeartbeats 16000000
open Go.RowKit Mx
def ksOf (l : List Vr) : Env Int := fun s => if kindInV l s = 0 then none else some (kindInV l s)
theorem formAllL_all (ks : Env Int) : ∀ l : List Ex, formAllL ks l = l.all fun e => formAll ks e
 | [] => rfl
 | e :: l => by simp only [formAllL, List.all_cons, formAllL_all ks l]
theorem formAllL_false (ks : Env Int) (l : List Ex) (k : Nat) (hk : k < l.length) (h : formAll ks l[k] = false) : formAllL ks l = false := by
 rw [formAllL_all]
 cases hc : l.all fun e => formAll ks e with
 | false => rfl
 | true => have := List.all_eq_true.1 hc _ (List.getElem_mem hk); rw [h] at this; cases this
theorem formAllL_true (ks : Env Int) (l : List Ex) (h : ∀ i (hi : i < l.length), formAll ks l[i] = true) : formAllL ks l = true := by
 rw [formAllL_all, List.all_eq_true]
 intro x hx
 obtain ⟨i, hi, rfl⟩ := List.mem_iff_getElem.1 hx
 exact h i hi
theorem formedIn_any (H : Kn) (V : List Vr) (vv : Value) (hV : VrsV H V vv) (hVl : V.length ≤ 1000000000) : ∀ (e : Ex) (v : Value), ExV H e v → e.parts ≤ 1000000000000 → ∀ w : World, H.In w →
  Calls Tryd.prog 74 #[v, vv] w fun r w' => r = .returned (.bool (formAll (ksOf V) e)) ∧ Below w.heap.size w w' := by
 obtain ⟨av, cv, rfl⟩ := hV.len
 have HVV := Lib.hid hV
 clear hV
 refine Ex.ind fun o n s l ih v hv hp w hH => ?_
 have hvv := hv
 obtain ⟨u, rfl, hu⟩ := hvv
 simp only [Ex.op, Ex.n, Ex.s, Ex.l] at hu hv ⊢
 simp only [Ex.parts] at hp
 obtain ⟨a, cap, rfl⟩ := hu.len
 have hll := len_partsL l
 have HV := Lib.hid hv
 have HU := Lib.hid hu
 have IH := Lib.hid ih
 clear hv hu ih
 have hb0 : Below w.heap.size w (w.alloc (.cells #[.string o, .int .i64 n, .string s, .slice a l.length cap] 24)) := (Below.refl _ _).alloc (Nat.le_refl _) _
 have hq : ∀ i, (w.alloc (.cells #[.string o, .int .i64 n, .string s, .slice a l.length cap] 24)).cell? ⟨w.heap.size, i, none⟩ = (#[.string o, .int .i64 n, .string s, .slice a l.length cap] : Array Value)[i]? := fun i => World.cell?_alloc_new _ _ _ _
 have hlt1 : w.heap.size < (w.alloc (.cells #[.string o, .int .i64 n, .string s, .slice a l.length cap] 24)).heap.size := by simp
 have HB0 := Lib.hid hb0
 have HQ := Lib.hid hq
 have hcall := dLit o [99, 97, 108, 108]
 have hname := dLit o [110, 97, 109, 101]
 have hR : formAll (ksOf V) (.mk o n s l) = (form (.mk o n s l) && !(o.toList == [99, 97, 108, 108]) && (!(o.toList == [110, 97, 109, 101]) || !decide (kindInV V s = 0)) && formAllL (ksOf V) l) := by
  simp only [formAll]
  rw [← hcall, ← hname]
  unfold ksOf
  by_cases h0 : kindInV V s = 0 <;> simp [h0]
 have HR := Lib.hid hR
 have hfa : ∃ b, form (.mk o n s l) = b := ⟨_, rfl⟩
 obtain ⟨fa, hfa⟩ := hfa
 obtain ⟨bc, hbc⟩ : ∃ b, (o.toList == [99, 97, 108, 108]) = b := ⟨_, rfl⟩
 obtain ⟨bn, hbn⟩ : ∃ b, (o.toList == [110, 97, 109, 101]) = b := ⟨_, rfl⟩
 rw [hfa, hbc, hbn] at HR
 have HFA := Lib.hid hfa
 clear hR hcall hname hfa hb0 hq
 have hcase : (fa = false) ∨ (fa = true ∧ bc = true) ∨ (fa = true ∧ bc = false ∧ bn = true ∧ kindInV V s = 0) ∨ (fa = true ∧ bc = false ∧ (bn = true ∧ (kindInV V s == 0) = false ∨ bn = false)) := by
  cases fa <;> cases bc <;> cases bn <;> simp
  by_cases h : kindInV V s = 0 <;> simp [h]
 go_enter Tryd.func74, Tryd.ntmps74
 go_wp2_with fail
 generalize w.alloc (.cells #[.string o, .int .i64 n, .string s, .slice a l.length cap] 24) = W at *
 refine (rform_any (.mk o n s l) _ H HV.out W).mono ?_
 rw [HFA.out]
 rintro r w1 ⟨rfl, hb1⟩
 have p0 : w1.cell? ⟨w.heap.size, 0, none⟩ = some (.string o) := by rw [hb1.cell (p := ⟨w.heap.size, 0, none⟩) hlt1]; exact HQ.out 0
 have p2 : w1.cell? ⟨w.heap.size, 2, none⟩ = some (.string s) := by rw [hb1.cell (p := ⟨w.heap.size, 2, none⟩) hlt1]; exact HQ.out 2
 have p3 := Lib.hid (show w1.cell? ⟨w.heap.size, 3, none⟩ = some (.slice a l.length cap) by rw [hb1.cell (p := ⟨w.heap.size, 3, none⟩) hlt1]; exact HQ.out 3)
 have hlt2 : w.heap.size < w1.heap.size := Nat.lt_of_lt_of_le hlt1 hb1.size
 have HB1 := Lib.hid (HB0.out.trans (hb1.mono HB0.out.size))
 have hH1 := hH.below HB1.out
 clear hb1
 have KI := Lib.hid (fun w2 (h : H.In w2) => kindIn_any H _ V s w2 HVV.out hVl h)
 generalize kindInV V s = kk at *
 rcases hcase with rfl | ⟨rfl, rfl⟩ | ⟨rfl, rfl, rfl, hk0⟩ | ⟨rfl, rfl, hrest⟩
 ·go_wp2_with fail
  go_ret
  exact ⟨ret_bool (by rw [HR.out]; rfl), HB1.out⟩
 ·go_wp2_with fail
  go_ret
  exact ⟨ret_bool (by rw [HR.out]; rfl), HB1.out⟩
 ·subst hk0
  go_wp2_with (go_at_call 73; refine (KI.out _ hH1).mono ?_; rintro r w2 ⟨rfl, rfl⟩)
  go_ret
  exact ⟨ret_bool (by rw [HR.out]; rfl), HB1.out⟩
 ·have hRR : formAll (ksOf V) (.mk o n s l) = formAllL (ksOf V) l := by
   rw [HR.out]
   rcases hrest with ⟨rfl, h⟩ | rfl
   ·have h' : ¬ kk = 0 := by simpa using h
    simp [h']
   ·simp
  have HRR := Lib.hid hRR
  clear hRR HR
  rcases hrest with ⟨rfl, hk0⟩ | rfl
  all_goals
   go_wp2_with (go_at_call 73; refine (KI.out _ hH1).mono ?_; rintro r w2 ⟨rfl, rfl⟩)
   go_loopw [4, 5] (fun _ i wr => ∃ k : Nat, i = .int .i64 k ∧ k ≤ l.length ∧ (∀ i (hi : i < l.length), i < k → formAll (ksOf V) l[i] = true) ∧ Below w1.heap.size w1 wr) (fun _ i _ => l.length - (intOf i).toNat)
   case atStart => exact ⟨0, rfl, Nat.zero_le _, fun i _ h => by omega, Below.refl _ _⟩
   case round =>
    obtain ⟨k, rfl, hk, hn, hb⟩ := hrel
    have HN := Lib.hid hn
    have HB := Lib.hid hb
    have e3 : wr.cell? ⟨w.heap.size, 3, none⟩ = some (.slice a l.length cap) := by rw [hb.cell (p := ⟨w.heap.size, 3, none⟩) hlt2]; exact p3.out
    have HBW := Lib.hid (HB1.out.trans (hb.mono HB1.out.size))
    clear hn hb
    by_cases hkl : k < l.length
    ·obtain ⟨b, off, ax, cx, rfl, c0, c1, c2, c3, hx⟩ := HU.out.at hkl
     have hHr := hH.below HBW.out
     have c0 := hHr.cell c0
     have c1 := hHr.cell c1
     have c2 := hHr.cell c2
     have c3 := hHr.cell c3
     have hpx : l[k].parts ≤ 1000000000000 := by have := getElem_parts l k hkl; omega
     have hmem := List.getElem_mem hkl
     cases he : formAll (ksOf V) l[k]
     ·have HF := Lib.hid (formAllL_false _ l k hkl he)
      generalize l[k] = x at *
      have HE := Lib.hid he
      clear he
      go_wp2_with fail
      refine (IH.out x hmem _ hx hpx _ hHr).mono ?_
      rw [HE.out]
      rintro r w3 ⟨rfl, hb3⟩
      go_wp2_with fail
      go_ret
      exact ⟨ret_bool (by rw [HRR.out, HF.out]), HBW.out.trans (hb3.mono HBW.out.size)⟩
     ·have HX := Lib.hid (show ∀ i (hi : i < l.length), i < k + 1 → formAll (ksOf V) l[i] = true from fun i hi hik => by
       by_cases hik' : i < k
       ·exact HN.out i hi hik'
       ·obtain rfl : i = k := by omega
        exact he)
      generalize l[k] = x at *
      have HE := Lib.hid he
      clear he
      go_wp2_with fail
      refine (IH.out x hmem _ hx hpx _ hHr).mono ?_
      rw [HE.out]
      rintro r w3 ⟨rfl, hb3⟩
      have hW3 := HB.out.trans (hb3.mono HB.out.size)
      go_wp2_with fail
      go_roundw
      case rel => exact ⟨k + 1, by go_num, by omega, HX.out, hW3⟩
      case measure => simp [intOf]; omega
    ·go_wp2_with fail
     go_ret
     exact ⟨ret_bool (by rw [HRR.out, formAllL_true _ l fun i hi => HN.out i hi (by omega)]), HBW.out⟩
theorem rparts_any (H : Kn) : ∀ (e : Ex) (v : Value), ExV H e v → e.parts ≤ 1000000000000000000 → ∀ w : World, H.In w →
  Calls Tryd.prog 91 #[v] w fun r w' => r = .returned (.int .i64 e.parts) ∧ Below w.heap.size w w' := by
 refine Ex.ind fun o n s l ih v hv hp w hH => ?_
 obtain ⟨u, rfl, hu⟩ := hv
 simp only [Ex.op, Ex.n, Ex.s, Ex.l] at hu ⊢
 simp only [Ex.parts] at hp ⊢
 obtain ⟨a, cap, rfl⟩ := hu.len
 have HU := Lib.hid hu
 have IH := Lib.hid ih
 have hll := len_partsL l
 clear hu ih
 go_enter Tryd.func91, Tryd.ntmps91
 go_wp2_with fail
 have hW1 : Below w.heap.size w (w.alloc (.cells #[.string o, .int .i64 n, .string s, .slice a l.length cap] 24)) := (Below.refl _ _).alloc (Nat.le_refl _) _
 have hP1 : (w.alloc (.cells #[.string o, .int .i64 n, .string s, .slice a l.length cap] 24)).cell? ⟨w.heap.size, 3, none⟩ = some (.slice a l.length cap) := by rw [World.cell?_alloc_new]; rfl
 have hlt1 : w.heap.size < (w.alloc (.cells #[.string o, .int .i64 n, .string s, .slice a l.length cap] 24)).heap.size := by simp
 generalize w.alloc (.cells #[.string o, .int .i64 n, .string s, .slice a l.length cap] 24) = W at *
 have HW1 := Lib.hid hW1
 have HP1 := Lib.hid hP1
 clear hW1 hP1
 go_loopw [3, 4] (fun c i wr => ∃ k : Nat, i = .int .i64 k ∧ k ≤ l.length ∧ c = .int .i64 ((1 + Ex.partsL (l.take k) : Nat) : Int) ∧ Below W.heap.size W wr) (fun _ i _ => l.length - (intOf i).toNat)
 case atStart => exact ⟨0, rfl, Nat.zero_le _, rfl, Below.refl _ _⟩
 case round =>
  obtain ⟨k, rfl, hk, rfl, hb⟩ := hrel
  have HB := Lib.hid hb
  clear hb
  have hpl := partsL_le l k
  have p3 : wr.cell? ⟨w.heap.size, 3, none⟩ = some (.slice a l.length cap) := by rw [HB.out.cell (p := ⟨w.heap.size, 3, none⟩) hlt1]; exact HP1.out
  have hBW : Below w.heap.size w wr := HW1.out.trans (HB.out.mono HW1.out.size)
  by_cases hkl : k < l.length
  ·obtain ⟨b, off, ax, cx, rfl, c0, c1, c2, c3, hx⟩ := HU.out.at hkl
   have hHr := hH.below hBW
   have c0 := hHr.cell c0
   have c1 := hHr.cell c1
   have c2 := hHr.cell c2
   have c3 := hHr.cell c3
   have hps := partsL_take l k hkl
   have hpl2 := partsL_le l (k + 1)
   have PS := Lib.hid hps
   have hpx : l[k].parts ≤ 1000000000000000000 := by omega
   have hmem := List.getElem_mem hkl
   generalize l[k] = x at *
   have hw1 : 1 + Ex.partsL (l.take k) + x.parts ≤ 1000000000000000000 := by omega
   clear hps
   go_wp2_with fail
   refine (IH.out x hmem _ hx hpx _ hHr).mono ?_
   rintro r w2 ⟨rfl, hb2⟩
   have hW2 : Below W.heap.size W w2 := HB.out.trans (hb2.mono HB.out.size)
   go_wp2_with fail
   go_roundw
   case rel => exact ⟨k + 1, by go_num, by omega, by rw [PS.out]; go_num, hW2⟩
   case measure => simp [intOf]; omega
  ·go_wp2_with fail
   go_ret
   exact ⟨ret_int (by rw [List.take_of_length_le (by omega)]), hBW⟩
theorem rpartsOf_any (H : Kn) (p : Pr) (vi vo vl va vc : Value) (hp : PrP H p vi vo vl va vc) (hsz : Ex.partsL p.terms ≤ 1000000000) (w : World) (hH : H.In w) :
  Calls Tryd.prog 75 #[.agg #[vi, vo, vl, va, vc]] w fun r w' => r = .returned (.int .i64 (Ex.partsL p.terms)) ∧ Below w.heap.size w w' := by
 have HP := Lib.hid hp
 obtain ⟨h1, h2, h3, h4, h5⟩ := hp
 obtain ⟨ai, ci, rfl⟩ := h1.len
 obtain ⟨ao, co, rfl⟩ := h2.len
 obtain ⟨al, cl, rfl⟩ := h3.len
 obtain ⟨aa, ca, rfl⟩ := h4.len
 obtain ⟨ac, cc, rfl⟩ := h5.len
 clear h1 h2 h3 h4 h5
 have hll := len_partsL p.terms
 go_enter Tryd.func75, Tryd.ntmps75
 have hb0 : Below w.heap.size w (w.alloc (.cells #[.slice ai p.ins.length ci, .slice ao p.outs.length co, .slice al p.fl.length cl, .slice aa p.as.length ca, .slice ac p.cs.length cc] 45)) := (Below.refl _ _).alloc (Nat.le_refl _) _
 go_wp2_with fail
 generalize w.alloc (.cells #[.slice ai p.ins.length ci, .slice ao p.outs.length co, .slice al p.fl.length cl, .slice aa p.as.length ca, .slice ac p.cs.length cc] 45) = W1 at *
 have HB0 := Lib.hid hb0
 clear hb0
 refine (rterms_any H p _ _ _ _ _ HP.out (by omega) W1 (hH.below HB0.out)).mono ?_
 rintro r w2 ⟨v, K, rfl, hv, hst⟩
 obtain ⟨a, c, rfl⟩ := hv.len
 have HV := Lib.hid hv
 have HST := Lib.hid hst
 have HB2 := Lib.hid (HB0.out.trans (hst.below.mono HB0.out.size))
 clear hv hst
 go_wp2_with fail
 go_loopw [4, 5] (fun n i wr => ∃ k : Nat, i = .int .i64 k ∧ k ≤ p.terms.length ∧ n = .int .i64 (Ex.partsL (p.terms.take k) : Nat) ∧ Below w2.heap.size w2 wr) (fun _ i _ => p.terms.length - (intOf i).toNat)
 case atStart => exact ⟨0, rfl, Nat.zero_le _, rfl, Below.refl _ _⟩
 case round =>
  obtain ⟨k, rfl, hk, rfl, hb⟩ := hrel
  have HB := Lib.hid hb
  clear hb
  have hpl := partsL_le p.terms k
  by_cases hkl : k < p.terms.length
  ·obtain ⟨b, off, ax, cx, rfl, c0, c1, c2, c3, hx⟩ := HV.out.at hkl
   have hHr := HST.out.isin.below HB.out
   have c0 := hHr.cell c0
   have c1 := hHr.cell c1
   have c2 := hHr.cell c2
   have c3 := hHr.cell c3
   have hps := partsL_take p.terms k hkl
   have hpl2 := partsL_le p.terms (k + 1)
   have PS := Lib.hid hps
   have hpx : p.terms[k].parts ≤ 1000000000000000000 := by omega
   have hw1 : Ex.partsL (p.terms.take k) + p.terms[k].parts ≤ 1000000000 := by omega
   clear hps
   generalize p.terms[k] = x at *
   go_wp2_with fail
   refine (rparts_any K x _ hx hpx _ hHr).mono ?_
   rintro r w3 ⟨rfl, hb3⟩
   have hW3 := HB.out.trans (hb3.mono HB.out.size)
   go_wp2_with fail
   go_roundw
   case rel => exact ⟨k + 1, by go_num, by omega, by rw [PS.out]; go_num, hW3⟩
   case measure => simp [intOf]; omega
  ·obtain rfl : k = p.terms.length := by omega
   have HF := Lib.hid (HB2.out.trans (HB.out.mono HB2.out.size))
   rw [List.take_of_length_le (Nat.le_refl _)]
   go_wp2_with fail
   go_ret
   exact ⟨rfl, HF.out⟩
end Go.Proofs.YthejomlhmdeimaaDoor
