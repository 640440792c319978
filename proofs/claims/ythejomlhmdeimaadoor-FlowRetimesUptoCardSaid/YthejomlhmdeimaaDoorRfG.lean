/- Walks: lustrumref2: flowOf, atOnce. -/
import Derived.Test.YthejomlhmdeimaaDoorRfA
import Derived.Deep.DeepCutAuto
import Derived.Test.YthejomlhmdeimaaDoorRfD
import Derived.Test.YthejomlhmdeimaaDoorMx
namespace Go.Proofs.YthejomlhmdeimaaDoor
set_option maxRecDepth 100000
set_option maxHeartbeats 16000000
open Go.RowKit Mx
def fIdx (p : Pr) : Env Nat := fun s => p.fl.findIdx? fun f => decide (f.name = s)
def fInt (p : Pr) (s : ByteArray) : Int := match fIdx p s with | some i => (i : Int) | none => -1
theorem fIdx_found (p : Pr) (s : ByteArray) (k : Nat) (hk : k < p.fl.length) (hp : p.fl[k].name = s) (hn : ∀ i (hi : i < p.fl.length), i < k → p.fl[i].name ≠ s) : fInt p s = (k : Int) := by
 have : p.fl.findIdx? (fun f => decide (f.name = s)) = some k := by
  rw [List.findIdx?_eq_some_iff_getElem]
  exact ⟨hk, by simpa using hp, fun j hj => by simpa using hn j (by omega) hj⟩
 simp [fInt, fIdx, this]
theorem fIdx_none (p : Pr) (s : ByteArray) (hn : ∀ i (hi : i < p.fl.length), p.fl[i].name ≠ s) : fInt p s = -1 := by
 have : p.fl.findIdx? (fun f => decide (f.name = s)) = none := by
  rw [List.findIdx?_eq_none_iff]
  intro x hx
  obtain ⟨i, hi, rfl⟩ := List.mem_iff_getElem.1 hx
  simpa using hn i hi
 simp [fInt, fIdx, this]
theorem fInt_cases (p : Pr) (s : ByteArray) : (fIdx p s = none ∧ fInt p s = -1) ∨ ∃ k : Nat, k < p.fl.length ∧ fIdx p s = some k ∧ fInt p s = (k : Int) := by
 unfold fInt
 cases h : fIdx p s with
 | none => exact .inl ⟨rfl, rfl⟩
 | some k =>
  refine .inr ⟨k, ?_, rfl, rfl⟩
  unfold fIdx at h
  rw [List.findIdx?_eq_some_iff_getElem] at h
  exact h.1
theorem flowOf_any (H : Kn) (p : Pr) (vi vo vl va vc : Value) (hp : PrP H p vi vo vl va vc) (hl : p.fl.length ≤ 1000000000) (s : ByteArray) (w : World) (hH : H.In w) :
  Calls Tryd.prog 58 #[.agg #[vi, vo, vl, va, vc], .string s] w fun r w' => r = .returned (.int .i64 (fInt p s)) ∧ Below w.heap.size w w' := by
 obtain ⟨h1, h2, h3, h4, h5⟩ := hp
 obtain ⟨ai, ci, rfl⟩ := h1.len
 obtain ⟨ao, co, rfl⟩ := h2.len
 obtain ⟨al, cl, rfl⟩ := h3.len
 obtain ⟨aa, ca, rfl⟩ := h4.len
 obtain ⟨ac, cc, rfl⟩ := h5.len
 have H3 := Lib.hid h3
 clear h1 h2 h3 h4 h5
 go_enter Tryd.func58, Tryd.ntmps58
 have hb0 : Below w.heap.size w (w.alloc (.cells #[.slice ai p.ins.length ci, .slice ao p.outs.length co, .slice al p.fl.length cl, .slice aa p.as.length ca, .slice ac p.cs.length cc] 45)) := (Below.refl _ _).alloc (Nat.le_refl _) _
 have m2 : (w.alloc (.cells #[.slice ai p.ins.length ci, .slice ao p.outs.length co, .slice al p.fl.length cl, .slice aa p.as.length ca, .slice ac p.cs.length cc] 45)).cell? ⟨w.heap.size, 2, none⟩ = some (.slice al p.fl.length cl) := by rw [World.cell?_alloc_new]; rfl
 go_wp2_with fail
 generalize w.alloc (.cells #[.slice ai p.ins.length ci, .slice ao p.outs.length co, .slice al p.fl.length cl, .slice aa p.as.length ca, .slice ac p.cs.length cc] 45) = W1 at *
 have HB0 := Lib.hid hb0
 have hH1 := hH.below hb0
 clear hb0
 go_loop [5] (fun i => ∃ k : Nat, k ≤ p.fl.length ∧ i = .int .i64 k ∧ (∀ i (hi : i < p.fl.length), i < k → p.fl[i].name ≠ s)) (fun i => p.fl.length - (intOf i).toNat)
 case atStart => exact ⟨0, Nat.zero_le _, rfl, by intro i _ h; omega⟩
 case round =>
  obtain ⟨k, hk, rfl, hn⟩ := hrel
  have HN := Lib.hid hn
  clear hn
  by_cases hlt : k < p.fl.length
  ·obtain ⟨b, off, cap0, he, _, _, hcs⟩ := FlsV.cell H3.out (fun e => by rw [e] at hlt; simp at hlt)
   cases he
   obtain ⟨_, _, d0, _⟩ := hcs k hlt
   have d0 := hH1.cell d0
   clear hcs
   by_cases he : p.fl[k].name = s
   ·have HI := Lib.hid (fIdx_found p s k hlt he fun i hi hik => HN.out i hi hik)
    rw [he] at d0
    have hq : (s.toList == s.toList) = true := by simp
    clear he
    go_wp2_with fail
    go_ret
    exact ⟨ret_int HI.out.symm, HB0.out⟩
   ·have HX := Lib.hid (show ∀ i (hi : i < p.fl.length), i < k + 1 → p.fl[i].name ≠ s from fun i hi hik => by
     by_cases hik' : i < k
     ·exact HN.out i hi hik'
     ·obtain rfl : i = k := by omega
      exact he)
    have hq : (p.fl[k].name.toList == s.toList) = false := by rw [str_eq]; simpa using he
    generalize p.fl[k] = x at *
    clear he
    go_wp2_with fail
    go_round
    case rel => exact ⟨k + 1, by omega, by go_num, HX.out⟩
    case measure => simp [intOf]; omega
  ·go_wp2_with fail
   go_ret
   exact ⟨ret_int (fIdx_none _ _ fun i hi => HN.out i hi (by omega)).symm, HB0.out⟩
def boolsA (n : Nat) (f : Nat → Bool) : Array Value := ((List.range n).map fun j => Value.bool (f j)).toArray
theorem boolsA_size (n : Nat) (f : Nat → Bool) : (boolsA n f).size = n := by simp [boolsA]
theorem boolsA_get (n : Nat) (f : Nat → Bool) (j : Nat) (h : j < n) : (boolsA n f)[j]? = some (.bool (f j)) := by simp [boolsA, h]
theorem boolsA_set (n : Nat) (f : Nat → Bool) (k : Nat) (b : Bool) : (boolsA n f).setIfInBounds k (.bool b) = boolsA n (fun j => if j = k then b else f j) := by
 apply Array.ext_getElem?
 intro j
 rw [Array.getElem?_setIfInBounds]
 have e0 : ∀ g : Nat → Bool, ¬ j < n → (boolsA n g)[j]? = none := fun g h => Array.getElem?_eq_none (by rw [boolsA_size]; omega)
 by_cases hj : j < n
 ·rw [boolsA_get n (fun j => if j = k then b else f j) j hj, boolsA_get n f j hj]
  by_cases hk : k = j
  ·subst hk
   simp [boolsA_size, hj]
  ·simp [hk, Ne.symm hk]
 ·rw [e0 _ hj, e0 _ hj]
  by_cases hk : k = j
  ·subst hk
   simp [boolsA_size, hj]
  ·simp [hk]
theorem boolsA_congr {n : Nat} {f g : Nat → Bool} (h : ∀ j, j < n → f j = g j) : boolsA n f = boolsA n g := by
 unfold boolsA
 congr 1
 exact List.map_congr_left fun j hj => by rw [h j (List.mem_range.1 hj)]
def onceP (o : ByteArray) (i : Nat) : Bool := !(o.toList == [112, 114, 101]) && (!(o.toList == [102, 98, 121]) || (i == 0))
def onceL (at_ : Env Nat) (o : ByteArray) : Nat → List Ex → List Nat
 | _, [] => []
 | i, e :: l => (if onceP o i then needs at_ e else []) ++ onceL at_ o (i + 1) l
theorem onceL_take (at_ : Env Nat) (o : ByteArray) : ∀ (l : List Ex) (i k : Nat) (h : k < l.length), onceL at_ o i (l.take (k + 1)) = onceL at_ o i (l.take k) ++ (if onceP o (i + k) then needs at_ l[k] else [])
 | e :: l, i, 0, _ => by simp [onceL]
 | e :: l, i, k + 1, h => by
  have := onceL_take at_ o l (i + 1) k (by simpa using h)
  simp only [List.take_succ_cons, onceL, List.getElem_cons_succ]
  rw [this, List.append_assoc, show i + 1 + k = i + (k + 1) from by omega]
theorem onceL_pre (at_ : Env Nat) (o : ByteArray) (h : (o.toList == [112, 114, 101]) = true) : ∀ (l : List Ex) (i : Nat), onceL at_ o i l = []
 | [], _ => rfl
 | e :: l, i => by simp [onceL, onceP, h, onceL_pre at_ o h l]
theorem onceL_fby (at_ : Env Nat) (o : ByteArray) (h0 : (o.toList == [112, 114, 101]) = false) (h : (o.toList == [102, 98, 121]) = true) : ∀ (l : List Ex) (i : Nat), 0 < i → onceL at_ o i l = []
 | [], _, _ => rfl
 | e :: l, i, hi => by
  have : (i == 0) = false := by simp; omega
  simp [onceL, onceP, h0, h, this, onceL_fby at_ o h0 h l (i + 1) (by omega)]
theorem onceL_all (at_ : Env Nat) (o : ByteArray) (h0 : (o.toList == [112, 114, 101]) = false) (h : (o.toList == [102, 98, 121]) = false) : ∀ (l : List Ex) (i : Nat), onceL at_ o i l = needsL at_ l
 | [], _ => by simp [onceL, needsL]
 | e :: l, i => by simp [onceL, onceP, h0, h, needsL, onceL_all at_ o h0 h l (i + 1)]
theorem needs_once (at_ : Env Nat) (o : ByteArray) (n : Int) (s : ByteArray) (l : List Ex) : needs at_ (.mk o n s l) = (if (o.toList == [110, 97, 109, 101]) then (at_ s).toList else []) ++ onceL at_ o 0 l := by
 have e1 := dLit o [112, 114, 101]
 have e2 := dLit o [102, 98, 121]
 have e3 := dLit o [110, 97, 109, 101]
 rw [← e3]
 simp only [needs]
 by_cases h1 : o = oPre
 ·have hn : ¬ o = oName := by rw [h1]; decide
  have hp : (o.toList == [112, 114, 101]) = true := by rw [← e1]; simpa using h1
  have hn' : ¬ o = (⟨⟨[110, 97, 109, 101]⟩⟩ : ByteArray) := hn
  simp [h1, hn']
  exact onceL_pre at_ oPre (by rw [← h1]; exact hp) l 0
 ·have hp : (o.toList == [112, 114, 101]) = false := by rw [← e1]; simpa using h1
  rw [if_neg h1]
  by_cases h2 : o = oFby
  ·have hf : (o.toList == [102, 98, 121]) = true := by rw [← e2]; simpa using h2
   have hn : ¬ o = (⟨⟨[110, 97, 109, 101]⟩⟩ : ByteArray) := by rw [h2]; decide
   rw [if_pos h2]
   simp only [hn, decide_false, Bool.false_eq_true, if_false, List.nil_append]
   cases l with
   | nil => rfl
   | cons e l => simp [needsH, onceL, onceP, hp, onceL_fby at_ o hp hf l 1 (by omega)]
  ·have hf : (o.toList == [102, 98, 121]) = false := by rw [← e2]; simpa using h2
   rw [if_neg h2, onceL_all at_ o hp hf]
   congr 1
   by_cases h3 : o = oName
   ·have : o = (⟨⟨[110, 97, 109, 101]⟩⟩ : ByteArray) := h3
    simp [h3]
   ·have : ¬ o = (⟨⟨[110, 97, 109, 101]⟩⟩ : ByteArray) := h3
    rw [if_neg h3]
    simp [this]
theorem gby_trans {a b c : World} {D : Nat} (h : a.grownBy b (some D)) (k : b.grownBy c (some D)) : a.grownBy c (some D) :=
 ⟨k.os.trans h.os, k.tape.trans h.tape, k.output.trans h.output, Nat.le_trans h.size k.size, fun j hj hne => (k.block j (Nat.lt_of_lt_of_le hj h.size) hne).trans (h.block j hj hne)⟩
theorem gby_below {a b : World} (D : Nat) (h : Below a.heap.size a b) : a.grownBy b (some D) := ⟨h.os, h.tape, h.output, h.size, fun j hj _ => h.block j hj⟩
theorem gby_set {a : World} (D i : Nat) (v : Value) : a.grownBy (a.setCell ⟨D, i, none⟩ v) (some D) :=
 ⟨rfl, rfl, rfl, by simp [World.setCell], fun j _ hne => Below.heap_setCell a _ v j (fun e => hne (by rw [e]))⟩
theorem atOnce_any (p : Pr) (vi vo vl va vc : Value) (D : Nat) (hl : p.fl.length ≤ 1000000000) : ∀ (e : Ex) (v : Value) (H : Kn) (f : Nat → Bool), ExV H e v → e.parts ≤ 1000000000000 → PrP H p vi vo vl va vc → ∀ w : World, H.In w → H D = none → w.heap[D]? = some (.cells (boolsA p.fl.length f) 4 (0, 0)) →
  Calls Tryd.prog 77 #[.agg #[vi, vo, vl, va, vc], v, .slice (some ⟨D, 0, none⟩) p.fl.length p.fl.length] w fun r w' => r = .returned (.tuple #[]) ∧ w.grownBy w' (some D) ∧ w'.heap[D]? = some (.cells (boolsA p.fl.length fun j => f j || (needs (fIdx p) e).contains j) 4 (0, 0)) := by
 refine Ex.ind fun o n s l ih v H f hv hpe hp w hH hHD hD => ?_
 have HP := Lib.hid hp
 obtain ⟨h1, h2, h3, h4, h5⟩ := hp
 obtain ⟨ai, ci, rfl⟩ := h1.len
 obtain ⟨ao, co, rfl⟩ := h2.len
 obtain ⟨al, cl, rfl⟩ := h3.len
 obtain ⟨aa, ca, rfl⟩ := h4.len
 obtain ⟨ac, cc, rfl⟩ := h5.len
 clear h1 h2 h3 h4 h5
 obtain ⟨u, rfl, hu⟩ := hv
 simp only [Ex.op, Ex.n, Ex.s, Ex.l] at hu ⊢
 simp only [Ex.parts] at hpe
 obtain ⟨a, cap, rfl⟩ := hu.len
 have hll := len_partsL l
 have HU := Lib.hid hu
 have IH := Lib.hid ih
 have HNE := Lib.hid (needs_once (fIdx p) o n s l)
 clear hu ih
 have hDlt : D < w.heap.size := (Array.getElem?_eq_some_iff.1 hD).1
 have hPB : ((w.alloc (.cells #[.slice ai p.ins.length ci, .slice ao p.outs.length co, .slice al p.fl.length cl, .slice aa p.as.length ca, .slice ac p.cs.length cc] 45)).alloc (.cells #[.string o, .int .i64 n, .string s, .slice a l.length cap] 24)).heap[w.heap.size]? = some (.cells #[.slice ai p.ins.length ci, .slice ao p.outs.length co, .slice al p.fl.length cl, .slice aa p.as.length ca, .slice ac p.cs.length cc] 45 (0, 0)) := by
  rw [Below.heap_alloc _ _ _ (by simp)]; exact heap_alloc_new _ _
 have hEB : ((w.alloc (.cells #[.slice ai p.ins.length ci, .slice ao p.outs.length co, .slice al p.fl.length cl, .slice aa p.as.length ca, .slice ac p.cs.length cc] 45)).alloc (.cells #[.string o, .int .i64 n, .string s, .slice a l.length cap] 24)).heap[w.heap.size + 1]? = some (.cells #[.string o, .int .i64 n, .string s, .slice a l.length cap] 24 (0, 0)) := by
  rw [show w.heap.size + 1 = (w.alloc (.cells #[.slice ai p.ins.length ci, .slice ao p.outs.length co, .slice al p.fl.length cl, .slice aa p.as.length ca, .slice ac p.cs.length cc] 45)).heap.size from by simp]; exact heap_alloc_new _ _
 have hb0 : Below w.heap.size w ((w.alloc (.cells #[.slice ai p.ins.length ci, .slice ao p.outs.length co, .slice al p.fl.length cl, .slice aa p.as.length ca, .slice ac p.cs.length cc] 45)).alloc (.cells #[.string o, .int .i64 n, .string s, .slice a l.length cap] 24)) := ((Below.refl _ _).alloc (Nat.le_refl _) _).alloc (by simp) _
 go_enter Tryd.func77, Tryd.ntmps77
 generalize hW : (w.alloc (.cells #[.slice ai p.ins.length ci, .slice ao p.outs.length co, .slice al p.fl.length cl, .slice aa p.as.length ca, .slice ac p.cs.length cc] 45)).alloc (.cells #[.string o, .int .i64 n, .string s, .slice a l.length cap] 24) = W at *
 obtain ⟨K, hKe⟩ : ∃ K, K = (H.add w.heap.size (.cells #[.slice ai p.ins.length ci, .slice ao p.outs.length co, .slice al p.fl.length cl, .slice aa p.as.length ca, .slice ac p.cs.length cc] 45 (0, 0))).add (w.heap.size + 1) (.cells #[.string o, .int .i64 n, .string s, .slice a l.length cap] 24 (0, 0)) := ⟨_, rfl⟩
 have hKle : H.le K := by rw [hKe]; exact Kn.le_trans (Kn.le_add (hH.isNone (Nat.le_refl _))) (Kn.le_add (by rw [Kn.add_other _ _ (by omega)]; exact hH.isNone (by omega)))
 have hKin : K.In W := by rw [hKe]; exact ((hH.below hb0).add hPB).add hEB
 have hKD : K D = none := by rw [hKe, Kn.add_other _ _ (by omega), Kn.add_other _ _ (by omega)]; exact hHD
 have hcP : ∀ i, K.cell w.heap.size i = (#[.slice ai p.ins.length ci, .slice ao p.outs.length co, .slice al p.fl.length cl, .slice aa p.as.length ca, .slice ac p.cs.length cc] : Array Value)[i]? := fun i => by unfold Kn.cell; rw [hKe, Kn.add_other _ _ (by omega), Kn.add_self]
 have hcE : ∀ i, K.cell (w.heap.size + 1) i = (#[.string o, .int .i64 n, .string s, .slice a l.length cap] : Array Value)[i]? := fun i => by unfold Kn.cell; rw [hKe, Kn.add_self]
 have k0 : K.cell w.heap.size 0 = some (.slice ai p.ins.length ci) := hcP 0
 have k1 : K.cell w.heap.size 1 = some (.slice ao p.outs.length co) := hcP 1
 have k2 : K.cell w.heap.size 2 = some (.slice al p.fl.length cl) := hcP 2
 have k3 : K.cell w.heap.size 3 = some (.slice aa p.as.length ca) := hcP 3
 have k4 : K.cell w.heap.size 4 = some (.slice ac p.cs.length cc) := hcP 4
 have j0 : K.cell (w.heap.size + 1) 0 = some (.string o) := hcE 0
 have j2 : K.cell (w.heap.size + 1) 2 = some (.string s) := hcE 2
 have j3 : K.cell (w.heap.size + 1) 3 = some (.slice a l.length cap) := hcE 3
 have hPK := HP.out.le hKle
 have hDW : W.heap[D]? = some (.cells (boolsA p.fl.length f) 4 (0, 0)) := by rw [hb0.block D hDlt]; exact hD
 have HG0 := Lib.hid (gby_below D hb0)
 have HEX := Lib.hid (show ExsV K l (.slice a l.length cap) from HU.out.le hKle)
 have HPK := Lib.hid hPK
 clear hcP hcE hKe hPB hEB hb0 hH hHD hD HU HP
 have m0 := hKin.cell k0
 have m1 := hKin.cell k1
 have m2 := hKin.cell k2
 have m3 := hKin.cell k3
 have m4 := hKin.cell k4
 have i0 := hKin.cell j0
 have i2 := hKin.cell j2
 have FL := Lib.hid (fun w2 (h : K.In w2) => flowOf_any K p _ _ _ _ _ HPK.out hl s w2 h)
 have hc : (o.toList == [110, 97, 109, 101]) = false ∨ ((o.toList == [110, 97, 109, 101]) = true ∧ fIdx p s = none ∧ fInt p s = -1) ∨ ((o.toList == [110, 97, 109, 101]) = true ∧ ∃ k : Nat, k < p.fl.length ∧ fIdx p s = some k ∧ fInt p s = (k : Int)) := by
  rcases Bool.eq_false_or_eq_true (o.toList == [110, 97, 109, 101]) with h | h
  ·rcases fInt_cases p s with ⟨h1, h2⟩ | h1
   ·exact .inr (.inl ⟨h, h1, h2⟩)
   ·exact .inr (.inr ⟨h, h1⟩)
  ·exact .inl h
 have HKin := Lib.hid hKin
 have HDW := Lib.hid hDW
 clear hKin hDW
 go_upto_region 1 with (fail)
 try rw [hW]
 clear hW
 rcases hc with e3 | ⟨e3, hi, hz⟩ | ⟨e3, kk, hkk, hi, hz⟩
 case' inl =>
  have hf1 := Lib.hid (show ∀ j, f j = (f j || (if (o.toList == [110, 97, 109, 101]) = true then (fIdx p s).toList else []).contains j) from fun j => by rw [e3]; simp)
  generalize hff : f = f1 at HDW hf1
  have hf2 := Lib.hid (show ∀ j, f1 j = (f j || (if (o.toList == [110, 97, 109, 101]) = true then (fIdx p s).toList else []).contains j) from fun j => by rw [hff]; have := hf1.out j; rw [← this])
  have HK1 := HKin
  have HG1 := HG0
  go_wp2_with fail
  clear hf1 hff
  have HX := Lib.hid (show ∃ g : Nat → Bool, W.heap[D]? = some (.cells (boolsA p.fl.length g) 4 (0, 0)) ∧ ∀ j, g j = (f j || (if (o.toList == [110, 97, 109, 101]) = true then (fIdx p s).toList else []).contains j) from ⟨_, HDW.out, hf2.out⟩)
 case' inr.inl =>
  have hf2 := Lib.hid (show ∀ j, f j = (f j || (if (o.toList == [110, 97, 109, 101]) = true then (fIdx p s).toList else []).contains j) from fun j => by rw [hi]; simp)
  go_wp2_with (go_at_call 58; refine (FL.out _ HKin.out).mono ?_; rw [hz]; rintro r w2 ⟨rfl, hb2⟩)
  have HK1 := Lib.hid (HKin.out.below hb2)
  have HG1 := Lib.hid (gby_trans HG0.out (gby_below D hb2))
  have HDW := Lib.hid ((hb2.block D (Array.getElem?_eq_some_iff.1 HDW.out).1).trans HDW.out)
  clear hb2
  have HX := Lib.hid (show ∃ g : Nat → Bool, w2.heap[D]? = some (.cells (boolsA p.fl.length g) 4 (0, 0)) ∧ ∀ j, g j = (f j || (if (o.toList == [110, 97, 109, 101]) = true then (fIdx p s).toList else []).contains j) from ⟨_, HDW.out, hf2.out⟩)
 case' inr.inr =>
  have hkI : (kk : Int) < p.fl.length := by omega
  have hf2 := Lib.hid (show ∀ j, (fun j => if j = kk then true else f j) j = (f j || (if (o.toList == [110, 97, 109, 101]) = true then (fIdx p s).toList else []).contains j) from fun j => by
   rw [hi, e3]
   by_cases h : j = kk
   ·subst h; simp
   ·have : ¬ kk = j := fun e => h e.symm
    simp [h])
  go_wp2_with fail
  refine (FL.out _ HKin.out).mono ?_
  rw [hz]
  rintro r w2 ⟨rfl, hb2⟩
  have hd := (hb2.block D (Array.getElem?_eq_some_iff.1 HDW.out).1).trans HDW.out
  have hcD : w2.cell? ⟨D, kk, none⟩ = some (.bool (f kk)) := by simp [World.cell?, hd, boolsA_get _ _ _ hkk]
  have hfD : w2.frozen? ⟨D, kk, none⟩ = false := by simp [World.frozen?, hd]
  have HD2 := Lib.hid hd
  clear hd
  go_wp2_with fail
  have HK1 := Lib.hid ((HKin.out.below hb2).setCell (a := ⟨D, kk, none⟩) hKD (.bool true))
  have HG1 := Lib.hid (gby_trans (gby_trans HG0.out (gby_below D hb2)) (gby_set (a := w2) D kk (.bool true)))
  have HDW := Lib.hid (heap_setCell_same w2 D kk (.bool true) _ _ _ HD2.out)
  rw [boolsA_set] at HDW
  clear hb2 HD2 hcD hfD
  generalize World.setCell _ _ _ = w3 at *
  have HX := Lib.hid (show ∃ g : Nat → Bool, w3.heap[D]? = some (.cells (boolsA p.fl.length g) 4 (0, 0)) ∧ ∀ j, g j = (f j || (if (o.toList == [110, 97, 109, 101]) = true then (fIdx p s).toList else []).contains j) from ⟨_, HDW.out, hf2.out⟩)
 all_goals
  obtain ⟨g, hgD, hgf⟩ := HX.out
  have HGD := Lib.hid hgD
  have HGF := Lib.hid hgf
  clear hgD hgf HX hf2 HDW
  go_loopw [7] (fun i wr => ∃ k : Nat, i = .int .i64 k ∧ k ≤ l.length ∧ K.In wr ∧ w.grownBy wr (some D) ∧ wr.heap[D]? = some (.cells (boolsA p.fl.length fun j => g j || (onceL (fIdx p) o 0 (l.take k)).contains j) 4 (0, 0))) (fun i _ => l.length - (intOf i).toNat)
  case atStart => exact ⟨0, rfl, Nat.zero_le _, HK1.out, HG1.out, by rw [HGD.out]; congr 2; exact boolsA_congr fun j _ => by simp [onceL]⟩
  case round =>
   obtain ⟨k, rfl, hk, hKr, hgr, hblk⟩ := hrel
   have HKR := Lib.hid hKr
   have HGR := Lib.hid hgr
   have HBL := Lib.hid hblk
   have m0 := hKr.cell k0
   have m1 := hKr.cell k1
   have m2 := hKr.cell k2
   have m3 := hKr.cell k3
   have m4 := hKr.cell k4
   have i0 := hKr.cell j0
   have i3 := hKr.cell j3
   clear hgr hblk
   by_cases hkl : k < l.length
   ·obtain ⟨b, off, ax, cx, rfl, c0, c1, c2, c3, hx⟩ := HEX.out.at hkl
    have hpx : l[k].parts ≤ 1000000000000 := by have := getElem_parts l k hkl; omega
    have hmem := List.getElem_mem hkl
    have HOT := Lib.hid (onceL_take (fIdx p) o l 0 k hkl)
    rw [Nat.zero_add] at HOT
    generalize l[k] = x at *
    have hop : onceP o k = (!(o.toList == [112, 114, 101]) && (!(o.toList == [102, 98, 121]) || (k == 0))) := rfl
    have HOP := Lib.hid hop
    clear hop
    have hcase : ((o.toList == [112, 114, 101]) = true) ∨ ((o.toList == [112, 114, 101]) = false ∧ (o.toList == [102, 98, 121]) = true ∧ ((k : Int) == 0) = false ∧ (k == 0) = false) ∨ ((o.toList == [112, 114, 101]) = false ∧ ((o.toList == [102, 98, 121]) = false ∨ ((o.toList == [102, 98, 121]) = true ∧ ((k : Int) == 0) = true ∧ (k == 0) = true))) := by
     rcases Bool.eq_false_or_eq_true (o.toList == [112, 114, 101]) with h | h
     ·exact .inl h
     ·rcases Bool.eq_false_or_eq_true (o.toList == [102, 98, 121]) with h' | h'
      ·by_cases h0 : k = 0
       ·exact .inr (.inr ⟨h, .inr ⟨h', by simp [h0], by simp [h0]⟩⟩)
       ·exact .inr (.inl ⟨h, h', by simpa using h0, by simpa using h0⟩)
      ·exact .inr (.inr ⟨h, .inl h'⟩)
    rcases hcase with ep | ⟨ep, ef, z1, z2⟩ | ⟨ep, hrest⟩
    ·have HS := Lib.hid (show onceL (fIdx p) o 0 (l.take (k + 1)) = onceL (fIdx p) o 0 (l.take k) from by rw [HOT.out, HOP.out, ep]; simp)
     go_wp2_with fail
     go_roundw
     case rel => exact ⟨k + 1, by go_num, by omega, HKR.out, HGR.out, by rw [HS.out]; exact HBL.out⟩
     case measure => simp [intOf]; omega
    ·have HS := Lib.hid (show onceL (fIdx p) o 0 (l.take (k + 1)) = onceL (fIdx p) o 0 (l.take k) from by rw [HOT.out, HOP.out, ep, ef, z2]; simp)
     go_wp2_with fail
     go_roundw
     case rel => exact ⟨k + 1, by go_num, by omega, HKR.out, HGR.out, by rw [HS.out]; exact HBL.out⟩
     case measure => simp [intOf]; omega
    ·have HS := Lib.hid (show onceL (fIdx p) o 0 (l.take (k + 1)) = onceL (fIdx p) o 0 (l.take k) ++ needs (fIdx p) x from by
      rw [HOT.out, HOP.out, ep]
      rcases hrest with h | ⟨h, _, h0⟩
      ·rw [h]; simp
      ·rw [h, h0]; simp)
     have hS2 : K.In wr.drew := hKr
     have hlk : l.length ≤ 1000000000000 := by omega
     rcases hrest with ef | ⟨ef, hk0, hk1⟩
     all_goals
      go_wp2_with fail
      refine wp_region_2 (fun w' => K.In w') (fun _ => True) 99 (by kernel_rfl) ?_
      refine tk2 (i := 0) (v := ?_) rfl hS2 (fun _ => trivial) ?hy ?_
      case hy => intro w hSw; obtain ⟨z0, z1, z2, z3, z4, z5, z6, z7, z8, z9⟩ := hSw.c10 k0 k1 k2 k3 k4 j3 c0 c1 c2 c3; go_simp <;> with_reducible rfl
      try simp only [tkS, List.getElem_toArray, List.getElem_cons_zero, List.getElem_cons_succ]
      refine tk2 (i := 1) (v := ?_) rfl hS2 (fun _ => trivial) ?hy ?_
      case hy => intro w hSw; obtain ⟨z0, z1, z2, z3, z4, z5, z6, z7, z8, z9⟩ := hSw.c10 k0 k1 k2 k3 k4 j3 c0 c1 c2 c3; go_simp <;> with_reducible rfl
      try simp only [tkS, List.getElem_toArray, List.getElem_cons_zero, List.getElem_cons_succ]
      refine tk2 (i := 2) (v := ?_) rfl hS2 (fun _ => trivial) ?hy ?_
      case hy => intro w hSw; obtain ⟨z0, z1, z2, z3, z4, z5, z6, z7, z8, z9⟩ := hSw.c10 k0 k1 k2 k3 k4 j3 c0 c1 c2 c3; go_simp <;> with_reducible rfl
      try simp only [tkS, List.getElem_toArray, List.getElem_cons_zero, List.getElem_cons_succ]
      refine tk2 (i := 3) (v := ?_) rfl hS2 (fun _ => trivial) ?hy ?_
      case hy => intro w hSw; obtain ⟨z0, z1, z2, z3, z4, z5, z6, z7, z8, z9⟩ := hSw.c10 k0 k1 k2 k3 k4 j3 c0 c1 c2 c3; go_simp <;> with_reducible rfl
      try simp only [tkS, List.getElem_toArray, List.getElem_cons_zero, List.getElem_cons_succ]
      refine tk2 (i := 4) (v := ?_) rfl hS2 (fun _ => trivial) ?hy ?_
      case hy => intro w hSw; obtain ⟨z0, z1, z2, z3, z4, z5, z6, z7, z8, z9⟩ := hSw.c10 k0 k1 k2 k3 k4 j3 c0 c1 c2 c3; go_simp <;> with_reducible rfl
      try simp only [tkS, List.getElem_toArray, List.getElem_cons_zero, List.getElem_cons_succ]
      refine tk2 (i := 5) (v := ?_) rfl hS2 (fun _ => trivial) ?hy ?_
      case hy => intro w hSw; obtain ⟨z0, z1, z2, z3, z4, z5, z6, z7, z8, z9⟩ := hSw.c10 k0 k1 k2 k3 k4 j3 c0 c1 c2 c3; go_simp <;> with_reducible rfl
      try simp only [tkS, List.getElem_toArray, List.getElem_cons_zero, List.getElem_cons_succ]
      refine tk2 (i := 6) (v := ?_) rfl hS2 (fun _ => trivial) ?hy ?_
      case hy => intro w hSw; obtain ⟨z0, z1, z2, z3, z4, z5, z6, z7, z8, z9⟩ := hSw.c10 k0 k1 k2 k3 k4 j3 c0 c1 c2 c3; go_simp <;> with_reducible rfl
      try simp only [tkS, List.getElem_toArray, List.getElem_cons_zero, List.getElem_cons_succ]
      refine wpAny2_one (i := 7) (o := _) (by kernel_rfl) rfl (fun K_ hK => ?_)
      go_simp
      go_at_call 77
      refine (IH.out x hmem _ K _ hx hpx HPK.out _ hS2 hKD (show wr.drew.heap[D]? = _ from HBL.out)).mono ?_
      rintro r w2 ⟨rfl, hg2, hbl2⟩
      have hS3 : K.In w2 := hS2.grown hg2 (fun q hq => by cases hq; exact hKD)
      refine hK.out _ _ (hS3) (fun _ => trivial) ?_
      clear hK K_
      try simp only [tkS, List.getElem_toArray, List.getElem_cons_zero, List.getElem_cons_succ]
      refine wpAny2_done (by kernel_rfl) ?_ _
      have HBL2 := Lib.hid hbl2
      have hg3 := Lib.hid (gby_trans (gby_trans HGR.out (gby_below D ((Below.refl _ wr).drew))) hg2)
      have HS3 := Lib.hid hS3
      clear hbl2 hg2 hS3
      go_wp2_with fail
      go_roundw
      case rel => exact ⟨k + 1, by go_num, by omega, HS3.out, hg3.out, by rw [HBL2.out, HS.out]; congr 2; exact boolsA_congr fun j _ => by rw [List.contains_append, Bool.or_assoc]⟩
      case measure => simp [intOf]; omega
   ·obtain rfl : k = l.length := by omega
    have HE := Lib.hid (show wr.heap[D]? = some (.cells (boolsA p.fl.length fun j => f j || (needs (fIdx p) (.mk o n s l)).contains j) 4 (0, 0)) from by
     rw [HBL.out]
     congr 2
     exact boolsA_congr fun j _ => by rw [HGF.out, HNE.out, List.take_length, List.contains_append, Bool.or_assoc])
    go_wp2_with fail
    first | go_end0 | (refine bodyPost_ret (results_none rfl _ _ _) rfl ?_)
    exact ⟨rfl, HGR.out, HE.out⟩
end Go.Proofs.YthejomlhmdeimaaDoor
namespace Go.Proofs.YthejomlhmdeimaaDoor
set_option maxRecDepth 100000
set_option maxHeartbeats 16000000
open Go.RowKit Mx
theorem fresh_keep {m : Env Int} {s : ByteArray} : ∀ (l : List (ByteArray × Int)) (m0 : Env Int), freshGo m0 l = some m → (m0 s).isSome = true → m s = m0 s
 | [], m0, h, _ => by simp only [freshGo] at h; cases h; rfl
 | x :: l, m0, h, hs => by
  simp only [freshGo] at h
  split at h
  ·rename_i hc
   have hne : s ≠ x.1 := fun e => by have h1 := hc.1; rw [← e] at h1; cases hm : m0 s <;> simp_all
   have h1 : (m0.set x.1 x.2) s = m0 s := by simp [Env.set, hne]
   rw [fresh_keep l _ h (by rw [h1]; exact hs), h1]
  ·cases h
def prOf (v : Vr) : ByteArray × Int := (v.name, v.kind)
theorem fresh_kin {m : Env Int} {s : ByteArray} : ∀ (V : List Vr) (m0 : Env Int), freshGo m0 (V.map prOf) = some m → m0 s = none → m s = ksOf V s
 | [], m0, h, hs => by simp only [List.map_nil, freshGo] at h; cases h; rw [hs]; rfl
 | x :: V, m0, h, hs => by
  simp only [List.map_cons, freshGo] at h
  split at h
  ·rename_i hc
   have hk : x.kind = 1 ∨ x.kind = 2 := hc.2.2
   by_cases he : x.name = s
   ·have h1 : (m0.set (prOf x).1 (prOf x).2) s = some x.kind := by simp [Env.set, prOf, he]
    rw [fresh_keep _ _ h (by rw [h1]; rfl), h1]
    unfold ksOf
    simp only [kindInV, he, if_true]
    rw [if_neg (by omega)]
   ·have h1 : (m0.set (prOf x).1 (prOf x).2) s = none := by simp [Env.set, prOf, Ne.symm he, hs]
    rw [fresh_kin V _ h h1]
    unfold ksOf
    simp only [kindInV, if_neg he]
  ·cases h
theorem fresh_ksOf {V : List Vr} {m : Env Int} (h : freshGo Env.none (V.map prOf) = some m) : m = ksOf V := funext fun _ => fresh_kin V _ h rfl
theorem fresh_kinds : ∀ (V : List Vr) (m0 m : Env Int), freshGo m0 (V.map prOf) = some m → ∀ x ∈ V, x.kind = 1 ∨ x.kind = 2
 | [], _, _, _, x, hx => by cases hx
 | y :: V, m0, m, h, x, hx => by
  simp only [List.map_cons, freshGo] at h
  split at h
  ·rename_i hc
   rcases List.mem_cons.1 hx with rfl | hx
   ·exact hc.2.2
   ·exact fresh_kinds V _ _ h x hx
  ·cases h
theorem kindIn_zero (s : ByteArray) : ∀ (V : List Vr), (∀ x ∈ V, x.kind = 1 ∨ x.kind = 2) → ((kindInV V s = 0) ↔ (V.map (·.name)).contains s = false)
 | [], _ => by simp [kindInV]
 | x :: V, h => by
  have hx := h x (List.mem_cons_self ..)
  have ih := kindIn_zero s V (fun y hy => h y (List.mem_cons_of_mem _ hy))
  simp only [kindInV, List.map_cons, List.contains_cons]
  by_cases he : x.name = s
  ·subst he
   simp; omega
  ·rw [if_neg he, ih]
   have : (s == x.name) = false := by simpa using fun e : s = x.name => he e.symm
   rw [this, Bool.false_or]
theorem kindIn_nonneg (s : ByteArray) : ∀ (V : List Vr), (∀ x ∈ V, x.kind = 1 ∨ x.kind = 2) → 0 ≤ kindInV V s
 | [], _ => Int.le_refl _
 | x :: V, h => by
  have hx := h x (List.mem_cons_self ..)
  simp only [kindInV]
  split
  ·omega
  ·exact kindIn_nonneg s V (fun y hy => h y (List.mem_cons_of_mem _ hy))
theorem vars_vrs (p : Pr) : p.vars = (vrsOf p).map prOf := by simp [Pr.vars, vrsOf, prOf, Function.comp_def]
theorem SlV.capl {α : Type} {H : Kn} {k : Nat} {R : α → (Nat → Option Value) → Prop} {l : List α} {a : Option Addr} {cap n : Nat} (h : SlV H k R l (.slice a n cap)) : l.length ≤ cap := by
 rcases h with ⟨rfl, _⟩ | ⟨b, off, cap', h1, h2, h3, h4⟩
 ·simp
 ·cases h1; exact h2
theorem SlV.take {α : Type} {H : Kn} {k : Nat} {R : α → (Nat → Option Value) → Prop} {l : List α} {a : Option Addr} {cap n : Nat} (h : SlV H k R l (.slice a n cap)) {i : Nat} (hi : i ≤ l.length) : SlV H k R (l.take i) (.slice a i cap) := by
 by_cases h0 : i = 0
 ·subst h0
  exact .inl ⟨by simp, a, cap, rfl⟩
 ·rcases h with ⟨rfl, _⟩ | ⟨b, off, cap', h1, h2, h3, h4⟩
  ·simp at hi; omega
  ·cases h1
   refine .inr ⟨b, off, cap, by simp [hi], by simp; omega, h3, fun j hj => ?_⟩
   have hj' : j < l.length := by simp at hj; omega
   have := h4 j hj'
   rw [List.getElem_take]
   exact this
theorem SlV.drop {α : Type} {H : Kn} {k : Nat} {R : α → (Nat → Option Value) → Prop} {l : List α} {b off cap n : Nat} (h : SlV H k R l (.slice (some ⟨b, off, none⟩) n cap)) {i : Nat} (hi : i ≤ l.length) (hn : n = l.length) : SlV H k R (l.drop i) (.slice (some ⟨b, off + i * k, none⟩) (n - i) (cap - i)) := by
 subst hn
 by_cases h0 : l.drop i = []
 ·have : l.length - i = 0 := by have := congrArg List.length h0; simpa using this
  rw [this]
  exact .inl ⟨h0, _, _, rfl⟩
 ·rcases h with ⟨rfl, _⟩ | ⟨b', off', cap', h1, h2, h3, h4⟩
  ·simp at h0
  ·cases h1
   refine .inr ⟨b, off + i * k, cap - i, by simp, by simp; omega, by omega, fun j hj => ?_⟩
   have hj' : i + j < l.length := by simp at hj; omega
   have := h4 (i + j) hj'
   rw [List.getElem_drop]
   have e : ∀ q, off + (i + j) * k + q = off + i * k + j * k + q := fun q => by rw [Nat.add_mul]; omega
   simpa only [e] using this
theorem SlV.dropIf {α : Type} {H : Kn} {k : Nat} {R : α → (Nat → Option Value) → Prop} {l : List α} {b off cap n : Nat} (h : SlV H k R l (.slice (some ⟨b, off, none⟩) n cap)) {i : Nat} (hi : i ≤ l.length) (hn : n = l.length) : SlV H k R (l.drop i) (.slice (if cap = i then some ⟨b, off, none⟩ else some ⟨b, off + i * k, none⟩) (n - i) (cap - i)) := by
 by_cases hc : cap = i
 ·have := h.capl
  have h0 : l.drop i = [] := List.drop_eq_nil_of_le (by omega)
  rw [if_pos hc, show n - i = 0 by omega]
  exact .inl ⟨h0, _, _, rfl⟩
 ·rw [if_neg hc]
  exact h.drop hi hn
theorem flatError_any (H : Kn) (p : Pr) (vi vo vl va vc : Value) (hp : PrP H p vi vo vl va vc) (hsz : Ex.partsL p.terms ≤ 1000000000 ∧ p.fl.length ≤ 100000000 ∧ p.ins.length ≤ 100000000 ∧ p.outs.length ≤ 100000000) (w : World) (hH : H.In w) :
  Calls Tryd.prog 55 #[.agg #[vi, vo, vl, va, vc]] w fun r w' => r = .returned (.int .i64 (checkFlat p)) ∧ Below w.heap.size w w' := by
 have HP := Lib.hid hp
 obtain ⟨h1, h2, h3, h4, h5⟩ := hp
 obtain ⟨ai, ci, rfl⟩ := h1.len
 obtain ⟨ao, co, rfl⟩ := h2.len
 obtain ⟨al, cl, rfl⟩ := h3.len
 obtain ⟨aa, ca, rfl⟩ := h4.len
 obtain ⟨ac, cc, rfl⟩ := h5.len
 obtain ⟨s1, s2, s3, s4⟩ := hsz
 have hll := len_partsL p.terms
 have hvl := vrsOf_len p
 have H2 := Lib.hid h2
 have H3 := Lib.hid h3
 clear h1 h2 h3 h4 h5
 go_enter Tryd.func55, Tryd.ntmps55
 have hb0 : Below w.heap.size w (w.alloc (.cells #[.slice ai p.ins.length ci, .slice ao p.outs.length co, .slice al p.fl.length cl, .slice aa p.as.length ca, .slice ac p.cs.length cc] 45)) := (Below.refl _ _).alloc (Nat.le_refl _) _
 have hP0 := heap_alloc_new w (.cells #[.slice ai p.ins.length ci, .slice ao p.outs.length co, .slice al p.fl.length cl, .slice aa p.as.length ca, .slice ac p.cs.length cc] 45)
 obtain ⟨H1, hH1⟩ : ∃ K, K = H.add w.heap.size (.cells #[.slice ai p.ins.length ci, .slice ao p.outs.length co, .slice al p.fl.length cl, .slice aa p.as.length ca, .slice ac p.cs.length cc] 45 (0, 0)) := ⟨_, rfl⟩
 have hSt : Kn.Step H w H1 (w.alloc (.cells #[.slice ai p.ins.length ci, .slice ao p.outs.length co, .slice al p.fl.length cl, .slice aa p.as.length ca, .slice ac p.cs.length cc] 45)) := ⟨by rw [hH1]; exact Kn.le_add (hH.isNone (Nat.le_refl _)), fun b hb => by rw [hH1, Kn.add_other _ _ (by omega)], by rw [hH1]; exact (hH.below hb0).add hP0, hb0⟩
 have hc : ∀ i, H1.cell w.heap.size i = (#[.slice ai p.ins.length ci, .slice ao p.outs.length co, .slice al p.fl.length cl, .slice aa p.as.length ca, .slice ac p.cs.length cc] : Array Value)[i]? := fun i => by unfold Kn.cell; rw [hH1, Kn.add_self]
 have k0 : H1.cell w.heap.size 0 = some (.slice ai p.ins.length ci) := hc 0
 have k1 : H1.cell w.heap.size 1 = some (.slice ao p.outs.length co) := hc 1
 have k2 : H1.cell w.heap.size 2 = some (.slice al p.fl.length cl) := hc 2
 have k3 : H1.cell w.heap.size 3 = some (.slice aa p.as.length ca) := hc 3
 have k4 : H1.cell w.heap.size 4 = some (.slice ac p.cs.length cc) := hc 4
 go_wp2_with fail
 generalize w.alloc (.cells #[.slice ai p.ins.length ci, .slice ao p.outs.length co, .slice al p.fl.length cl, .slice aa p.as.length ca, .slice ac p.cs.length cc] 45) = W1 at *
 refine (rvars_any H1 p _ _ _ _ _ (HP.out.le hSt.le) (by omega) W1 hSt.isin).mono ?_
 rintro r w2 ⟨v, K, rfl, hv, hst⟩
 obtain ⟨av, cv, rfl⟩ := hv.len
 have HST := Lib.hid (hSt.trans hst)
 have hin2 := hst.isin
 have hle2 := hst.le
 have k0 := hle2.cell k0
 have k1 := hle2.cell k1
 have k2 := hle2.cell k2
 have k3 := hle2.cell k3
 have k4 := hle2.cell k4
 have H2 := Lib.hid (H2.out.le (Kn.le_trans hSt.le hle2) StrC.mono)
 have H3 := Lib.hid (H3.out.le (Kn.le_trans hSt.le hle2) (FlC.mono (Kn.le_trans hSt.le hle2)))
 have HP := Lib.hid (HP.out.le (Kn.le_trans hSt.le hle2))
 have HV := Lib.hid hv
 have hvv := Lib.hid (vars_vrs p)
 rw [hvl] at HV
 have hVl : (vrsOf p).length = p.ins.length + p.fl.length := hvl
 have hfln := Lib.hid (show ((vrsOf p).drop p.ins.length).map (·.name) = p.fl.map (·.name) from by simp [vrsOf, List.drop_left, Function.comp_def])
 clear hc hH1 hP0 hb0 hSt hst hv hvl
 generalize hVV : vrsOf p = V at *
 have HVV := Lib.hid hVV
 clear hVV
 go_wp2_with fail
 go_loopw [2, 4] (fun _ i wr => ∃ (k : Nat), i = .int .i64 k ∧ k ≤ p.ins.length + p.fl.length ∧ (freshGo Env.none (p.vars.take k)).isSome = true ∧ Below w2.heap.size w2 wr) (fun _ i _ => p.ins.length + p.fl.length - (intOf i).toNat)
 case atStart => exact ⟨0, rfl, Nat.zero_le _, rfl, Below.refl _ _⟩
 case round =>
  obtain ⟨k, rfl, hk, hfr, hb⟩ := hrel
  obtain ⟨m, hm⟩ := Option.isSome_iff_exists.1 hfr
  have HM := Lib.hid hm
  have HB := Lib.hid hb
  have HBW := Lib.hid (HST.out.below.trans (hb.mono HST.out.below.size))
  clear hfr hm hb
  have hinr := hin2.below HB.out
  have hmk : m = ksOf (V.take k) := by
   have := HM.out
   rw [hvv.out, ← List.map_take] at this
   exact fresh_ksOf this
  have HMK := Lib.hid hmk
  have HKIN := Lib.hid (show ∀ x ∈ V.take k, x.kind = 1 ∨ x.kind = 2 from by
   have := HM.out
   rw [hvv.out, ← List.map_take] at this
   exact fresh_kinds _ _ _ this)
  clear hmk
  by_cases hkl : k < p.ins.length + p.fl.length
  ·obtain ⟨b, off, rfl, _, c0, c1⟩ := SlV.at HV.out (show k < V.length by omega)
   have hpre := SlV.take HV.out (show k ≤ V.length by omega)
   have hvk : k < p.vars.length := by rw [hvv.out]; simp; omega
   have FS := Lib.hid (fresh_step hvk HM.out)
   have FN := Lib.hid (fun h : freshGo Env.none (p.vars.take (k + 1)) = none => check_vars (fresh_none h))
   have hpv : p.vars[k] = (V[k].name, V[k].kind) := by
    have : p.vars[k]? = (V.map prOf)[k]? := by rw [hvv.out]
    simp [hvk, show k < V.length by omega, prOf] at this
    exact this
   rw [hpv] at FS
   have hcap := SlV.capl HV.out
   have hkc : k ≤ cv := by omega
   simp only [Nat.add_zero] at c0
   generalize hxx : V[k] = x at *
   have e0 := hinr.cell c0
   have e1 := hinr.cell c1
   have hR : (freshB m x.name x.kind) = ((kindInV (V.take k) x.name == 0) && !x.name.toList.isEmpty && (decide (x.kind = 1) || decide (x.kind = 2))) := by
    unfold freshB
    rw [← dEmp, HMK.out]
    unfold ksOf
    by_cases hz : kindInV (V.take k) x.name = 0 <;> simp [hz]
   have HR := Lib.hid hR
   have hnn := kindIn_nonneg x.name (V.take k) HKIN.out
   clear hR hxx hpv
   obtain ⟨fb, hfb⟩ : ∃ b, freshB m x.name x.kind = b := ⟨_, rfl⟩
   rw [hfb] at HR FS
   have bad : fb = false → checkFlat p = 3 := fun h => FN.out (by rw [FS.out, h]; rfl)
   have good : fb = true → (freshGo Env.none (p.vars.take (k + 1))).isSome = true := fun h => by rw [FS.out, h]; rfl
   have BAD := Lib.hid bad
   have GOOD := Lib.hid good
   clear bad good hfb FS FN
   rcases Bool.eq_false_or_eq_true (x.name.toList.isEmpty) with n0 | n0
   ·have := BAD.out (by rw [HR.out, n0]; simp)
    have HC := Lib.hid this
    clear this
    go_wp2_with fail
    go_ret
    exact ⟨ret_int (by rw [HC.out]; rfl), HBW.out⟩
   generalize x.kind = q at *
   generalize x.name = nm at *
   have hkk : q = 1 ∨ q = 2 ∨ ((q != 1) = true ∧ (q != 2) = true ∧ (q == 1) = false ∧ (q == 2) = false) := by
    by_cases h1 : q = 1
    ·exact .inl h1
    ·by_cases h2 : q = 2
     ·exact .inr (.inl h2)
     ·exact .inr (.inr (by simp [h1, h2]))
   rcases hkk with rfl | rfl | ⟨m1, m2, m3, m4⟩
   case inr.inr =>
    have HC := Lib.hid (BAD.out (by rw [HR.out]; have h1 : ¬ q = 1 := (by simpa using m3); have h2 : ¬ q = 2 := (by simpa using m4); simp [h1, h2]))
    go_wp2_with fail
    go_ret
    exact ⟨ret_int (by rw [HC.out]; rfl), HBW.out⟩
   all_goals
    have HR2 := Lib.hid (show fb = (kindInV (V.take k) nm == 0) by rw [HR.out, n0]; simp)
    clear HR
    have hinrd : K.In wr.drew := hinr
    have hS2 : K.In wr.drew := hinr
    have hkI : (k : Int) ≤ (p.ins.length + p.fl.length : Nat) := by omega
    go_wp2_with fail
    refine wp_region_2 (fun w' => K.In w') (fun _ => True) 99 (by kernel_rfl) ?_
    refine tk2 (i := 0) (v := ?_) rfl hS2 (fun _ => trivial) ?hy ?_
    case hy => intro w hSw; obtain ⟨z0, z1⟩ := hSw.c2 c0 c1; go_simp <;> with_reducible rfl
    try simp only [tkS, List.getElem_toArray, List.getElem_cons_zero, List.getElem_cons_succ]
    refine tk2 (i := 1) (v := ?_) rfl hS2 (fun _ => trivial) ?hy ?_
    case hy => intro w hSw; obtain ⟨z0, z1⟩ := hSw.c2 c0 c1; go_simp <;> with_reducible rfl
    try simp only [tkS, List.getElem_toArray, List.getElem_cons_zero, List.getElem_cons_succ]
    refine tk2 (i := 2) (v := ?_) rfl hS2 (fun _ => trivial) ?hy ?_
    case hy => intro w hSw; obtain ⟨z0, z1⟩ := hSw.c2 c0 c1; go_simp <;> with_reducible rfl
    try simp only [tkS, List.getElem_toArray, List.getElem_cons_zero, List.getElem_cons_succ]
    refine tk2 (i := 3) (v := ?_) rfl hS2 (fun _ => trivial) ?hy ?_
    case hy => intro w hSw; obtain ⟨z0, z1⟩ := hSw.c2 c0 c1; go_simp <;> with_reducible rfl
    try simp only [tkS, List.getElem_toArray, List.getElem_cons_zero, List.getElem_cons_succ]
    refine tk2 (i := 4) (v := ?_) rfl hS2 (fun _ => trivial) ?hy ?_
    case hy => intro w hSw; obtain ⟨z0, z1⟩ := hSw.c2 c0 c1; go_simp <;> with_reducible rfl
    try simp only [tkS, List.getElem_toArray, List.getElem_cons_zero, List.getElem_cons_succ]
    refine tk2 (i := 5) (v := ?_) rfl hS2 (fun _ => trivial) ?hy ?_
    case hy => intro w hSw; obtain ⟨z0, z1⟩ := hSw.c2 c0 c1; go_simp <;> with_reducible rfl
    try simp only [tkS, List.getElem_toArray, List.getElem_cons_zero, List.getElem_cons_succ]
    refine tk2 (i := 6) (v := ?_) rfl hS2 (fun _ => trivial) ?hy ?_
    case hy => intro w hSw; obtain ⟨z0, z1⟩ := hSw.c2 c0 c1; go_simp <;> with_reducible rfl
    try simp only [tkS, List.getElem_toArray, List.getElem_cons_zero, List.getElem_cons_succ]
    refine tk2 (i := 7) (v := ?_) rfl hS2 (fun _ => trivial) ?hy ?_
    case hy => intro w hSw; obtain ⟨z0, z1⟩ := hSw.c2 c0 c1; go_simp <;> with_reducible rfl
    try simp only [tkS, List.getElem_toArray, List.getElem_cons_zero, List.getElem_cons_succ]
    refine wpAny2_one (i := 8) (o := _) (by kernel_rfl) rfl (fun K_ hK => ?_)
    go_simp
    go_at_call 73
    refine (kindIn_any K _ (V.take k) nm _ hpre (by simp; omega) hS2).mono ?_
    rintro r wz ⟨rfl, rfl⟩
    refine hK.out _ _ (hS2) (fun _ => trivial) ?_
    clear hK K_
    try simp only [tkS, List.getElem_toArray, List.getElem_cons_zero, List.getElem_cons_succ]
    refine tk2 (i := 9) (v := ?_) rfl hS2 (fun _ => trivial) ?hy ?_
    case hy => intro w hSw; obtain ⟨z0, z1⟩ := hSw.c2 c0 c1; go_simp <;> with_reducible rfl
    try simp only [tkS, List.getElem_toArray, List.getElem_cons_zero, List.getElem_cons_succ]
    refine wpAny2_done (by kernel_rfl) ?_ _
    generalize hkq : kindInV (V.take k) nm = kq at *
    by_cases hq : kq = 0
    ·have hG := GOOD.out (by rw [HR2.out, hq]; rfl)
     have HG := Lib.hid hG
     subst hq
     clear hG
     go_wp2_with fail
     go_roundw
     case rel => exact ⟨k + 1, by go_num, by omega, HG.out, HB.out.drew⟩
     case measure => simp [intOf]; omega
    ·have hpos : 0 < kq := by omega
     have HC := Lib.hid (BAD.out (by rw [HR2.out]; simpa using hq))
     go_wp2_with fail
     go_ret
     exact ⟨ret_int (by rw [HC.out]; rfl), HBW.out.drew⟩
  ·obtain rfl : k = p.ins.length + p.fl.length := by omega
   have hpv : p.vars.length = p.ins.length + p.fl.length := by rw [hvv.out, List.length_map]; exact hVl
   have htk : V.take (p.ins.length + p.fl.length) = V := by rw [← hVl]; exact List.take_length
   have HFR := Lib.hid (show freshGo Env.none p.vars = some (ksOf V) from by have := HM.out; rw [← hpv, List.take_length, HMK.out, htk] at this; exact this)
   rw [htk] at HKIN
   have HKD := Lib.hid (show ∀ x ∈ V.drop p.ins.length, x.kind = 1 ∨ x.kind = 2 from fun x hx => HKIN.out x (List.mem_of_mem_drop hx))
   have HZ := Lib.hid (fun s => kindIn_zero s (V.drop p.ins.length) HKD.out)
   clear HMK HM htk hpv
   generalize hnn : p.ins.length + p.fl.length = n at *
   have hin3 := Lib.hid hinr
   generalize hN : p.fl.map (·.name) = N at *
   rw [hfln.out] at HZ
   have HNN := Lib.hid hN
   clear hN hinr
   go_wp2_with fail
   go_loopw [2, 5] (fun _ i wx => ∃ (k : Nat), i = .int .i64 k ∧ k ≤ p.outs.length ∧ outsGo N [] p.outs = outsGo N (p.outs.take k) (p.outs.drop k) ∧ Below wr.heap.size wr wx) (fun _ i _ => p.outs.length - (intOf i).toNat)
   case atStart => exact ⟨0, rfl, Nat.zero_le _, rfl, Below.refl _ _⟩
   case round =>
    obtain ⟨k, rfl, hk, hos, hbx⟩ := hrel
    have HOS := Lib.hid hos
    have HBX := Lib.hid hbx
    have HBW2 := Lib.hid (HBW.out.trans (hbx.mono HBW.out.size))
    clear hos hbx
    have hinx := hin3.out.below HBX.out
    have m1 := hinx.cell k1
    by_cases hkl : k < p.outs.length
    ·obtain ⟨bo, oo, rfl, _, d0⟩ := SlV.at H2.out hkl
     have hcapo := SlV.capl H2.out
     have hkc : k ≤ co := by omega
     have hpre := SlV.take H2.out (show k ≤ p.outs.length by omega)
     have HST2 := Lib.hid (Mx.outs_step N p.outs [] k hkl)
     have d0 : K.cell bo (oo + k) = some (.string p.outs[k]) := by have := d0; simpa [StrC] using d0
     generalize p.outs[k] = so at *
     have hS2 : K.In wr.drew := hinx
     have e0 := hinx.cell k0
     have hkI : (k : Int) < p.outs.length := by omega
     by_cases hV0 : V.length = 0
     ·have hVn : V = [] := List.eq_nil_of_length_eq_zero hV0
      have hn0 : n = 0 := by omega
      have hin0 : p.ins.length = 0 := by omega
      have hN0 : N = [] := by rw [← hfln.out, hVn]; simp
      have HC := Lib.hid (show checkFlat p = 3 from check_outs HFR.out (by
        rw [HNN.out, HOS.out]
        have := HST2.out
        simp only [List.nil_append] at this
        rw [this, hN0]; rfl))
      have KI := Lib.hid (fun w2 (h : K.In w2) (a : Option Addr) (c : Nat) => kindIn_any K (.slice a 0 c) [] so w2 (.inl ⟨rfl, _, _, rfl⟩) (by simp) h)
      have hkz : kindInV [] so = 0 := rfl
      clear hVn hN0
      subst hn0
      rw [hin0] at k0 e0
      cases av
      all_goals
       go_wp2_with fail
       refine wp_region_2 (fun w' => K.In w') (fun _ => True) 99 (by kernel_rfl) ?_
       refine tk2 (i := 0) (v := ?_) rfl hS2 (fun _ => trivial) ?hy ?_
       case hy => intro w hSw; obtain ⟨z0, z1, z2⟩ := hSw.c3 k0 k1 d0; go_simp <;> with_reducible rfl
       try simp only [tkS, List.getElem_toArray, List.getElem_cons_zero, List.getElem_cons_succ]
       refine tk2 (i := 1) (v := ?_) rfl hS2 (fun _ => trivial) ?hy ?_
       case hy => intro w hSw; obtain ⟨z0, z1, z2⟩ := hSw.c3 k0 k1 d0; go_simp <;> with_reducible rfl
       try simp only [tkS, List.getElem_toArray, List.getElem_cons_zero, List.getElem_cons_succ]
       refine tk2 (i := 2) (v := ?_) rfl hS2 (fun _ => trivial) ?hy ?_
       case hy => intro w hSw; obtain ⟨z0, z1, z2⟩ := hSw.c3 k0 k1 d0; go_simp <;> with_reducible rfl
       try simp only [tkS, List.getElem_toArray, List.getElem_cons_zero, List.getElem_cons_succ]
       refine tk2 (i := 3) (v := ?_) rfl hS2 (fun _ => trivial) ?hy ?_
       case hy => intro w hSw; obtain ⟨z0, z1, z2⟩ := hSw.c3 k0 k1 d0; go_simp <;> with_reducible rfl
       try simp only [tkS, List.getElem_toArray, List.getElem_cons_zero, List.getElem_cons_succ]
       refine tk2 (i := 4) (v := ?_) rfl hS2 (fun _ => trivial) ?hy ?_
       case hy => intro w hSw; obtain ⟨z0, z1, z2⟩ := hSw.c3 k0 k1 d0; go_simp <;> with_reducible rfl
       try simp only [tkS, List.getElem_toArray, List.getElem_cons_zero, List.getElem_cons_succ]
       refine tk2 (i := 5) (v := ?_) rfl hS2 (fun _ => trivial) ?hy ?_
       case hy => intro w hSw; obtain ⟨z0, z1, z2⟩ := hSw.c3 k0 k1 d0; go_simp <;> with_reducible rfl
       try simp only [tkS, List.getElem_toArray, List.getElem_cons_zero, List.getElem_cons_succ]
       refine tk2 (i := 6) (v := ?_) rfl hS2 (fun _ => trivial) ?hy ?_
       case hy => intro w hSw; obtain ⟨z0, z1, z2⟩ := hSw.c3 k0 k1 d0; go_simp <;> with_reducible rfl
       try simp only [tkS, List.getElem_toArray, List.getElem_cons_zero, List.getElem_cons_succ]
       refine tk2 (i := 7) (v := ?_) rfl hS2 (fun _ => trivial) ?hy ?_
       case hy => intro w hSw; obtain ⟨z0, z1, z2⟩ := hSw.c3 k0 k1 d0; go_simp <;> with_reducible rfl
       try simp only [tkS, List.getElem_toArray, List.getElem_cons_zero, List.getElem_cons_succ]
       refine tk2 (i := 8) (v := ?_) rfl hS2 (fun _ => trivial) ?hy ?_
       case hy => intro w hSw; obtain ⟨z0, z1, z2⟩ := hSw.c3 k0 k1 d0; go_simp <;> with_reducible rfl
       try simp only [tkS, List.getElem_toArray, List.getElem_cons_zero, List.getElem_cons_succ]
       refine tk2 (i := 9) (v := ?_) rfl hS2 (fun _ => trivial) ?hy ?_
       case hy => intro w hSw; obtain ⟨z0, z1, z2⟩ := hSw.c3 k0 k1 d0; go_simp <;> with_reducible rfl
       try simp only [tkS, List.getElem_toArray, List.getElem_cons_zero, List.getElem_cons_succ]
       refine wpAny2_one (i := 10) (o := _) (by kernel_rfl) rfl (fun K_ hK => ?_)
       go_simp
       go_at_call 73
       refine (KI.out _ hS2 _ _).mono ?_
       rw [hkz]
       rintro r wz ⟨rfl, rfl⟩
       refine hK.out _ _ (hS2) (fun _ => trivial) ?_
       clear hK K_
       try simp only [tkS, List.getElem_toArray, List.getElem_cons_zero, List.getElem_cons_succ]
       refine tk2 (i := 11) (v := ?_) rfl hS2 (fun _ => trivial) ?hy ?_
       case hy => intro w hSw; obtain ⟨z0, z1, z2⟩ := hSw.c3 k0 k1 d0; go_simp <;> with_reducible rfl
       try simp only [tkS, List.getElem_toArray, List.getElem_cons_zero, List.getElem_cons_succ]
       refine tk2 (i := 12) (v := ?_) rfl hS2 (fun _ => trivial) ?hy ?_
       case hy => intro w hSw; obtain ⟨z0, z1, z2⟩ := hSw.c3 k0 k1 d0; go_simp <;> with_reducible rfl
       try simp only [tkS, List.getElem_toArray, List.getElem_cons_zero, List.getElem_cons_succ]
       refine sk2 (i := 13) rfl hS2 (fun _ => trivial) ?_
       try simp only [tkS, List.getElem_toArray, List.getElem_cons_zero, List.getElem_cons_succ]
       refine sk2 (i := 14) rfl hS2 (fun _ => trivial) ?_
       try simp only [tkS, List.getElem_toArray, List.getElem_cons_zero, List.getElem_cons_succ]
       refine sk2 (i := 15) rfl hS2 (fun _ => trivial) ?_
       try simp only [tkS, List.getElem_toArray, List.getElem_cons_zero, List.getElem_cons_succ]
       refine sk2 (i := 16) rfl hS2 (fun _ => trivial) ?_
       try simp only [tkS, List.getElem_toArray, List.getElem_cons_zero, List.getElem_cons_succ]
       refine sk2 (i := 17) rfl hS2 (fun _ => trivial) ?_
       try simp only [tkS, List.getElem_toArray, List.getElem_cons_zero, List.getElem_cons_succ]
       refine sk2 (i := 18) rfl hS2 (fun _ => trivial) ?_
       try simp only [tkS, List.getElem_toArray, List.getElem_cons_zero, List.getElem_cons_succ]
       refine sk2 (i := 19) rfl hS2 (fun _ => trivial) ?_
       try simp only [tkS, List.getElem_toArray, List.getElem_cons_zero, List.getElem_cons_succ]
       refine sk2 (i := 20) rfl hS2 (fun _ => trivial) ?_
       try simp only [tkS, List.getElem_toArray, List.getElem_cons_zero, List.getElem_cons_succ]
       refine sk2 (i := 21) rfl hS2 (fun _ => trivial) ?_
       try simp only [tkS, List.getElem_toArray, List.getElem_cons_zero, List.getElem_cons_succ]
       refine sk2 (i := 22) rfl hS2 (fun _ => trivial) ?_
       try simp only [tkS, List.getElem_toArray, List.getElem_cons_zero, List.getElem_cons_succ]
       refine tk2 (i := 23) (v := ?_) rfl hS2 (fun _ => trivial) ?hy ?_
       case hy => intro w hSw; obtain ⟨z0, z1, z2⟩ := hSw.c3 k0 k1 d0; go_simp <;> with_reducible rfl
       try simp only [tkS, List.getElem_toArray, List.getElem_cons_zero, List.getElem_cons_succ]
       refine wpAny2_done (by kernel_rfl) ?_ _
       go_wp2_with fail
       all_goals go_ret
       all_goals exact ⟨ret_int (by rw [HC.out]; rfl), HBW2.out.drew⟩
     ·obtain ⟨b, off, rfl, _, _⟩ := SlV.at HV.out (show 0 < V.length by omega)
      have HNL := Lib.hid hnn
      have hdrop := SlV.dropIf HV.out (show p.ins.length ≤ V.length by omega) (by omega)
      have hcapv := SlV.capl HV.out
      have hc1 : p.ins.length ≤ cv := by omega
      have hc2 : n ≤ cv := by omega
      have hsI : (p.ins.length : Int) ≤ (n : Int) := by omega
      have KI := Lib.hid (fun w2 (h : K.In w2) => kindIn_any K _ (V.drop p.ins.length) so w2 hdrop (by simp; omega) h)
      have HZS := Lib.hid (HZ.out so)
      generalize kindInV (V.drop p.ins.length) so = kq at *
      by_cases hz : kq = 0
      ·have HC := Lib.hid (show checkFlat p = 3 from check_outs HFR.out (by
        rw [HNN.out, HOS.out]
        have := HST2.out
        simp only [List.nil_append] at this
        rw [this, HZS.out.1 hz]; rfl))
       subst hz
       go_wp2_with fail
       refine wp_region_2 (fun w' => K.In w') (fun _ => True) 99 (by kernel_rfl) ?_
       refine tk2 (i := 0) (v := ?_) rfl hS2 (fun _ => trivial) ?hy ?_
       case hy => intro w hSw; obtain ⟨z0, z1, z2⟩ := hSw.c3 k0 k1 d0; go_simp <;> with_reducible rfl
       try simp only [tkS, List.getElem_toArray, List.getElem_cons_zero, List.getElem_cons_succ]
       refine tk2 (i := 1) (v := ?_) rfl hS2 (fun _ => trivial) ?hy ?_
       case hy => intro w hSw; obtain ⟨z0, z1, z2⟩ := hSw.c3 k0 k1 d0; go_simp <;> with_reducible rfl
       try simp only [tkS, List.getElem_toArray, List.getElem_cons_zero, List.getElem_cons_succ]
       refine tk2 (i := 2) (v := ?_) rfl hS2 (fun _ => trivial) ?hy ?_
       case hy => intro w hSw; obtain ⟨z0, z1, z2⟩ := hSw.c3 k0 k1 d0; go_simp <;> with_reducible rfl
       try simp only [tkS, List.getElem_toArray, List.getElem_cons_zero, List.getElem_cons_succ]
       refine tk2 (i := 3) (v := ?_) rfl hS2 (fun _ => trivial) ?hy ?_
       case hy => intro w hSw; obtain ⟨z0, z1, z2⟩ := hSw.c3 k0 k1 d0; go_simp <;> with_reducible rfl
       try simp only [tkS, List.getElem_toArray, List.getElem_cons_zero, List.getElem_cons_succ]
       refine tk2 (i := 4) (v := ?_) rfl hS2 (fun _ => trivial) ?hy ?_
       case hy => intro w hSw; obtain ⟨z0, z1, z2⟩ := hSw.c3 k0 k1 d0; go_simp <;> with_reducible rfl
       try simp only [tkS, List.getElem_toArray, List.getElem_cons_zero, List.getElem_cons_succ]
       refine tk2 (i := 5) (v := ?_) rfl hS2 (fun _ => trivial) ?hy ?_
       case hy => intro w hSw; obtain ⟨z0, z1, z2⟩ := hSw.c3 k0 k1 d0; go_simp <;> with_reducible rfl
       try simp only [tkS, List.getElem_toArray, List.getElem_cons_zero, List.getElem_cons_succ]
       refine tk2 (i := 6) (v := ?_) rfl hS2 (fun _ => trivial) ?hy ?_
       case hy => intro w hSw; obtain ⟨z0, z1, z2⟩ := hSw.c3 k0 k1 d0; go_simp <;> with_reducible rfl
       try simp only [tkS, List.getElem_toArray, List.getElem_cons_zero, List.getElem_cons_succ]
       refine tk2 (i := 7) (v := ?_) rfl hS2 (fun _ => trivial) ?hy ?_
       case hy => intro w hSw; obtain ⟨z0, z1, z2⟩ := hSw.c3 k0 k1 d0; go_simp <;> with_reducible rfl
       try simp only [tkS, List.getElem_toArray, List.getElem_cons_zero, List.getElem_cons_succ]
       refine tk2 (i := 8) (v := ?_) rfl hS2 (fun _ => trivial) ?hy ?_
       case hy => intro w hSw; obtain ⟨z0, z1, z2⟩ := hSw.c3 k0 k1 d0; go_simp <;> with_reducible rfl
       try simp only [tkS, List.getElem_toArray, List.getElem_cons_zero, List.getElem_cons_succ]
       refine tk2 (i := 9) (v := ?_) rfl hS2 (fun _ => trivial) ?hy ?_
       case hy => intro w hSw; obtain ⟨z0, z1, z2⟩ := hSw.c3 k0 k1 d0; go_simp <;> with_reducible rfl
       try simp only [tkS, List.getElem_toArray, List.getElem_cons_zero, List.getElem_cons_succ]
       refine wpAny2_one (i := 10) (o := _) (by kernel_rfl) rfl (fun K_ hK => ?_)
       go_simp
       go_at_call 73
       refine (KI.out _ hS2).mono ?_
       rintro r wz ⟨rfl, rfl⟩
       refine hK.out _ _ (hS2) (fun _ => trivial) ?_
       clear hK K_
       try simp only [tkS, List.getElem_toArray, List.getElem_cons_zero, List.getElem_cons_succ]
       refine tk2 (i := 11) (v := ?_) rfl hS2 (fun _ => trivial) ?hy ?_
       case hy => intro w hSw; obtain ⟨z0, z1, z2⟩ := hSw.c3 k0 k1 d0; go_simp <;> with_reducible rfl
       try simp only [tkS, List.getElem_toArray, List.getElem_cons_zero, List.getElem_cons_succ]
       refine tk2 (i := 12) (v := ?_) rfl hS2 (fun _ => trivial) ?hy ?_
       case hy => intro w hSw; obtain ⟨z0, z1, z2⟩ := hSw.c3 k0 k1 d0; go_simp <;> with_reducible rfl
       try simp only [tkS, List.getElem_toArray, List.getElem_cons_zero, List.getElem_cons_succ]
       refine sk2 (i := 13) rfl hS2 (fun _ => trivial) ?_
       try simp only [tkS, List.getElem_toArray, List.getElem_cons_zero, List.getElem_cons_succ]
       refine sk2 (i := 14) rfl hS2 (fun _ => trivial) ?_
       try simp only [tkS, List.getElem_toArray, List.getElem_cons_zero, List.getElem_cons_succ]
       refine sk2 (i := 15) rfl hS2 (fun _ => trivial) ?_
       try simp only [tkS, List.getElem_toArray, List.getElem_cons_zero, List.getElem_cons_succ]
       refine sk2 (i := 16) rfl hS2 (fun _ => trivial) ?_
       try simp only [tkS, List.getElem_toArray, List.getElem_cons_zero, List.getElem_cons_succ]
       refine sk2 (i := 17) rfl hS2 (fun _ => trivial) ?_
       try simp only [tkS, List.getElem_toArray, List.getElem_cons_zero, List.getElem_cons_succ]
       refine sk2 (i := 18) rfl hS2 (fun _ => trivial) ?_
       try simp only [tkS, List.getElem_toArray, List.getElem_cons_zero, List.getElem_cons_succ]
       refine sk2 (i := 19) rfl hS2 (fun _ => trivial) ?_
       try simp only [tkS, List.getElem_toArray, List.getElem_cons_zero, List.getElem_cons_succ]
       refine sk2 (i := 20) rfl hS2 (fun _ => trivial) ?_
       try simp only [tkS, List.getElem_toArray, List.getElem_cons_zero, List.getElem_cons_succ]
       refine sk2 (i := 21) rfl hS2 (fun _ => trivial) ?_
       try simp only [tkS, List.getElem_toArray, List.getElem_cons_zero, List.getElem_cons_succ]
       refine sk2 (i := 22) rfl hS2 (fun _ => trivial) ?_
       try simp only [tkS, List.getElem_toArray, List.getElem_cons_zero, List.getElem_cons_succ]
       refine tk2 (i := 23) (v := ?_) rfl hS2 (fun _ => trivial) ?hy ?_
       case hy => intro w hSw; obtain ⟨z0, z1, z2⟩ := hSw.c3 k0 k1 d0; go_simp <;> with_reducible rfl
       try simp only [tkS, List.getElem_toArray, List.getElem_cons_zero, List.getElem_cons_succ]
       refine wpAny2_done (by kernel_rfl) ?_ _
       generalize (if cv = p.ins.length then (some ⟨b, off, none⟩ : Option Addr) else some ⟨b, off + p.ins.length * 2, none⟩) = adr
       go_wp2_with fail
       go_ret
       exact ⟨ret_int (by rw [HC.out]; rfl), HBW2.out.drew⟩
      ·have hz' : (kq == 0) = false := by simpa using hz
       have hNc : N.contains so = true := by
        cases hx : N.contains so with
        | true => rfl
        | false => exact absurd (HZS.out.2 hx) hz
       have hstep : outsGo N [] p.outs = (!(p.outs.take k).contains so && outsGo N (p.outs.take (k + 1)) (p.outs.drop (k + 1))) := by
        rw [HOS.out]
        have := HST2.out
        simp only [List.nil_append] at this
        rw [this, hNc, Bool.true_and]
       have HS := Lib.hid hstep
       have hzz := Lib.hid hz
       clear hz hNc hstep
       have HI := Lib.hid (fun w2 (h : K.In w2) => rhas_any K _ (p.outs.take k) so w2 hpre (by simp; omega) h)
       generalize (p.outs.take k).contains so = cb at *
       go_wp2_with fail
       refine wp_region_2 (fun w' => K.In w') (fun _ => True) 99 (by kernel_rfl) ?_
       refine tk2 (i := 0) (v := ?_) rfl hS2 (fun _ => trivial) ?hy ?_
       case hy => intro w hSw; obtain ⟨z0, z1, z2⟩ := hSw.c3 k0 k1 d0; go_simp <;> with_reducible rfl
       try simp only [tkS, List.getElem_toArray, List.getElem_cons_zero, List.getElem_cons_succ]
       refine tk2 (i := 1) (v := ?_) rfl hS2 (fun _ => trivial) ?hy ?_
       case hy => intro w hSw; obtain ⟨z0, z1, z2⟩ := hSw.c3 k0 k1 d0; go_simp <;> with_reducible rfl
       try simp only [tkS, List.getElem_toArray, List.getElem_cons_zero, List.getElem_cons_succ]
       refine tk2 (i := 2) (v := ?_) rfl hS2 (fun _ => trivial) ?hy ?_
       case hy => intro w hSw; obtain ⟨z0, z1, z2⟩ := hSw.c3 k0 k1 d0; go_simp <;> with_reducible rfl
       try simp only [tkS, List.getElem_toArray, List.getElem_cons_zero, List.getElem_cons_succ]
       refine tk2 (i := 3) (v := ?_) rfl hS2 (fun _ => trivial) ?hy ?_
       case hy => intro w hSw; obtain ⟨z0, z1, z2⟩ := hSw.c3 k0 k1 d0; go_simp <;> with_reducible rfl
       try simp only [tkS, List.getElem_toArray, List.getElem_cons_zero, List.getElem_cons_succ]
       refine tk2 (i := 4) (v := ?_) rfl hS2 (fun _ => trivial) ?hy ?_
       case hy => intro w hSw; obtain ⟨z0, z1, z2⟩ := hSw.c3 k0 k1 d0; go_simp <;> with_reducible rfl
       try simp only [tkS, List.getElem_toArray, List.getElem_cons_zero, List.getElem_cons_succ]
       refine tk2 (i := 5) (v := ?_) rfl hS2 (fun _ => trivial) ?hy ?_
       case hy => intro w hSw; obtain ⟨z0, z1, z2⟩ := hSw.c3 k0 k1 d0; go_simp <;> with_reducible rfl
       try simp only [tkS, List.getElem_toArray, List.getElem_cons_zero, List.getElem_cons_succ]
       refine tk2 (i := 6) (v := ?_) rfl hS2 (fun _ => trivial) ?hy ?_
       case hy => intro w hSw; obtain ⟨z0, z1, z2⟩ := hSw.c3 k0 k1 d0; go_simp <;> with_reducible rfl
       try simp only [tkS, List.getElem_toArray, List.getElem_cons_zero, List.getElem_cons_succ]
       refine tk2 (i := 7) (v := ?_) rfl hS2 (fun _ => trivial) ?hy ?_
       case hy => intro w hSw; obtain ⟨z0, z1, z2⟩ := hSw.c3 k0 k1 d0; go_simp <;> with_reducible rfl
       try simp only [tkS, List.getElem_toArray, List.getElem_cons_zero, List.getElem_cons_succ]
       refine tk2 (i := 8) (v := ?_) rfl hS2 (fun _ => trivial) ?hy ?_
       case hy => intro w hSw; obtain ⟨z0, z1, z2⟩ := hSw.c3 k0 k1 d0; go_simp <;> with_reducible rfl
       try simp only [tkS, List.getElem_toArray, List.getElem_cons_zero, List.getElem_cons_succ]
       refine tk2 (i := 9) (v := ?_) rfl hS2 (fun _ => trivial) ?hy ?_
       case hy => intro w hSw; obtain ⟨z0, z1, z2⟩ := hSw.c3 k0 k1 d0; go_simp <;> with_reducible rfl
       try simp only [tkS, List.getElem_toArray, List.getElem_cons_zero, List.getElem_cons_succ]
       refine wpAny2_one (i := 10) (o := _) (by kernel_rfl) rfl (fun K_ hK => ?_)
       go_simp
       go_at_call 73
       refine (KI.out _ hS2).mono ?_
       rintro r wz ⟨rfl, rfl⟩
       refine hK.out _ _ (hS2) (fun _ => trivial) ?_
       clear hK K_
       try simp only [tkS, List.getElem_toArray, List.getElem_cons_zero, List.getElem_cons_succ]
       refine tk2 (i := 11) (v := ?_) rfl hS2 (fun _ => trivial) ?hy ?_
       case hy => intro w hSw; obtain ⟨z0, z1, z2⟩ := hSw.c3 k0 k1 d0; go_simp <;> with_reducible rfl
       try simp only [tkS, List.getElem_toArray, List.getElem_cons_zero, List.getElem_cons_succ]
       refine tk2 (i := 12) (v := ?_) rfl hS2 (fun _ => trivial) ?hy ?_
       case hy => intro w hSw; obtain ⟨z0, z1, z2⟩ := hSw.c3 k0 k1 d0; go_simp <;> with_reducible rfl
       try simp only [tkS, List.getElem_toArray, List.getElem_cons_zero, List.getElem_cons_succ]
       refine tk2 (i := 13) (v := ?_) rfl hS2 (fun _ => trivial) ?hy ?_
       case hy => intro w hSw; obtain ⟨z0, z1, z2⟩ := hSw.c3 k0 k1 d0; go_simp <;> with_reducible rfl
       try simp only [tkS, List.getElem_toArray, List.getElem_cons_zero, List.getElem_cons_succ]
       refine tk2 (i := 14) (v := ?_) rfl hS2 (fun _ => trivial) ?hy ?_
       case hy => intro w hSw; obtain ⟨z0, z1, z2⟩ := hSw.c3 k0 k1 d0; go_simp <;> with_reducible rfl
       try simp only [tkS, List.getElem_toArray, List.getElem_cons_zero, List.getElem_cons_succ]
       refine tk2 (i := 15) (v := ?_) rfl hS2 (fun _ => trivial) ?hy ?_
       case hy => intro w hSw; obtain ⟨z0, z1, z2⟩ := hSw.c3 k0 k1 d0; go_simp <;> with_reducible rfl
       try simp only [tkS, List.getElem_toArray, List.getElem_cons_zero, List.getElem_cons_succ]
       refine tk2 (i := 16) (v := ?_) rfl hS2 (fun _ => trivial) ?hy ?_
       case hy => intro w hSw; obtain ⟨z0, z1, z2⟩ := hSw.c3 k0 k1 d0; go_simp <;> with_reducible rfl
       try simp only [tkS, List.getElem_toArray, List.getElem_cons_zero, List.getElem_cons_succ]
       refine tk2 (i := 17) (v := ?_) rfl hS2 (fun _ => trivial) ?hy ?_
       case hy => intro w hSw; obtain ⟨z0, z1, z2⟩ := hSw.c3 k0 k1 d0; go_simp <;> with_reducible rfl
       try simp only [tkS, List.getElem_toArray, List.getElem_cons_zero, List.getElem_cons_succ]
       refine tk2 (i := 18) (v := ?_) rfl hS2 (fun _ => trivial) ?hy ?_
       case hy => intro w hSw; obtain ⟨z0, z1, z2⟩ := hSw.c3 k0 k1 d0; go_simp <;> with_reducible rfl
       try simp only [tkS, List.getElem_toArray, List.getElem_cons_zero, List.getElem_cons_succ]
       refine tk2 (i := 19) (v := ?_) rfl hS2 (fun _ => trivial) ?hy ?_
       case hy => intro w hSw; obtain ⟨z0, z1, z2⟩ := hSw.c3 k0 k1 d0; go_simp <;> with_reducible rfl
       try simp only [tkS, List.getElem_toArray, List.getElem_cons_zero, List.getElem_cons_succ]
       refine tk2 (i := 20) (v := ?_) rfl hS2 (fun _ => trivial) ?hy ?_
       case hy => intro w hSw; obtain ⟨z0, z1, z2⟩ := hSw.c3 k0 k1 d0; go_simp <;> with_reducible rfl
       try simp only [tkS, List.getElem_toArray, List.getElem_cons_zero, List.getElem_cons_succ]
       refine tk2 (i := 21) (v := ?_) rfl hS2 (fun _ => trivial) ?hy ?_
       case hy => intro w hSw; obtain ⟨z0, z1, z2⟩ := hSw.c3 k0 k1 d0; go_simp <;> with_reducible rfl
       try simp only [tkS, List.getElem_toArray, List.getElem_cons_zero, List.getElem_cons_succ]
       refine wpAny2_one (i := 22) (o := _) (by kernel_rfl) rfl (fun K_ hK => ?_)
       go_simp
       go_at_call 44
       refine (HI.out _ hS2).mono ?_
       rintro r wz ⟨rfl, rfl⟩
       refine hK.out _ _ (hS2) (fun _ => trivial) ?_
       clear hK K_
       try simp only [tkS, List.getElem_toArray, List.getElem_cons_zero, List.getElem_cons_succ]
       refine tk2 (i := 23) (v := ?_) rfl hS2 (fun _ => trivial) ?hy ?_
       case hy => intro w hSw; obtain ⟨z0, z1, z2⟩ := hSw.c3 k0 k1 d0; go_simp <;> with_reducible rfl
       try simp only [tkS, List.getElem_toArray, List.getElem_cons_zero, List.getElem_cons_succ]
       refine wpAny2_done (by kernel_rfl) ?_ _
       generalize (if cv = p.ins.length then (some ⟨b, off, none⟩ : Option Addr) else some ⟨b, off + p.ins.length * 2, none⟩) = adr
       cases cb
       ·have HX := Lib.hid (show outsGo N [] p.outs = outsGo N (p.outs.take (k + 1)) (p.outs.drop (k + 1)) by rw [HS.out]; rfl)
        go_wp2_with fail
        go_roundw
        case rel => exact ⟨k + 1, by go_num, by omega, HX.out, HBX.out.drew⟩
        case measure => simp [intOf]; omega
       ·have HC := Lib.hid (show checkFlat p = 3 from check_outs HFR.out (by rw [HNN.out, HS.out]; rfl))
        go_wp2_with fail
        go_ret
        exact ⟨ret_int (by rw [HC.out]; rfl), HBW2.out.drew⟩
    ·obtain rfl : k = p.outs.length := by omega
     have HOK := Lib.hid (show outsGo (p.fl.map (·.name)) [] p.outs = true by rw [HNN.out, HOS.out, List.drop_length]; rfl)
     clear HZ HKD HOS HBX
     have m0 := hinx.cell k0
     have m2 := hinx.cell k2
     have m3 := hinx.cell k3
     have m4 := hinx.cell k4
     have HLN := Lib.hid hVl
     have HNL := Lib.hid hnn
     go_wp2_with fail
     refine (rterms_any K p _ _ _ _ _ HP.out (by omega) _ hinx).mono ?_
     rintro r w4 ⟨v4, K4, rfl, hv4, hst4⟩
     obtain ⟨a4, c4, rfl⟩ := hv4.len
     have HT := Lib.hid hv4
     have hle4 := hst4.le
     have hin4 := Lib.hid hst4.isin
     have HBW4 := Lib.hid (HBW2.out.trans (hst4.below.mono HBW2.out.size))
     have HV4 := Lib.hid (show VrsV K4 V (.slice av n cv) from HV.out.le hle4 VrC.mono)
     have HP4 := Lib.hid (HP.out.le hle4)
     have H34 := Lib.hid (H3.out.le hle4 (FlC.mono hle4))
     have k0 := hle4.cell k0
     have k1 := hle4.cell k1
     have k2 := hle4.cell k2
     have k3 := hle4.cell k3
     have k4 := hle4.cell k4
     have hVb : V.length ≤ 1000000000 := by omega
     clear hv4 hst4 m0 m2 m3 m4
     go_wp2_with fail
     go_loopw [2, 7, 8] (fun _ i _ wx => ∃ (k : Nat), i = .int .i64 k ∧ k ≤ p.terms.length ∧ (∀ j (hj : j < p.terms.length), j < k → formAll (ksOf V) p.terms[j] = true) ∧ Below w4.heap.size w4 wx) (fun _ i _ _ => p.terms.length - (intOf i).toNat)
     case atStart => exact ⟨0, rfl, Nat.zero_le _, fun j _ h => by omega, Below.refl _ _⟩
     case round =>
      obtain ⟨k, rfl, hk, hno, hbx⟩ := hrel
      have HNO := Lib.hid hno
      have HBX := Lib.hid hbx
      have HBW5 := Lib.hid (HBW4.out.trans (hbx.mono HBW4.out.size))
      have hin5 := hin4.out.below hbx
      clear hno hbx
      by_cases hkl : k < p.terms.length
      ·obtain ⟨b, off, ax, cx, rfl, d0, d1, d2, d3, hx⟩ := HT.out.at hkl
       have d0 := hin5.cell d0
       have d1 := hin5.cell d1
       have d2 := hin5.cell d2
       have d3 := hin5.cell d3
       have hpx : p.terms[k].parts ≤ 1000000000000 := by have := getElem_parts p.terms k hkl; omega
       cases he : formAll (ksOf V) p.terms[k]
       ·have HC := Lib.hid (show checkFlat p = 3 from check_form HFR.out HOK.out (formAllL_false _ _ k hkl he))
        have HE := Lib.hid he
        generalize p.terms[k] = x at *
        clear he
        go_wp2_with fail
        refine (formedIn_any K4 V _ HV4.out hVb x _ hx hpx _ hin5).mono ?_
        rw [HE.out]
        rintro r w5 ⟨rfl, hb5⟩
        go_wp2_with fail
        go_ret
        exact ⟨ret_int (by rw [HC.out]; rfl), HBW5.out.trans (hb5.mono HBW5.out.size)⟩
       ·have HX := Lib.hid (show ∀ j (hj : j < p.terms.length), j < k + 1 → formAll (ksOf V) p.terms[j] = true from fun j hj hjk => by
         by_cases hjk' : j < k
         ·exact HNO.out j hj hjk'
         ·obtain rfl : j = k := by omega
          exact he)
        have HE := Lib.hid he
        generalize p.terms[k] = x at *
        clear he
        go_wp2_with fail
        refine (formedIn_any K4 V _ HV4.out hVb x _ hx hpx _ hin5).mono ?_
        rw [HE.out]
        rintro r w5 ⟨rfl, hb5⟩
        have hb6 := HBX.out.trans (hb5.mono HBX.out.size)
        go_wp2_with fail
        go_roundw
        case rel => exact ⟨k + 1, by go_num, by omega, HX.out, hb6⟩
        case measure => simp [intOf]; omega
      ·obtain rfl : k = p.terms.length := by omega
       have HFA := Lib.hid (show ∀ j (hj : j < p.terms.length), formAll (ksOf V) p.terms[j] = true from fun j hj => HNO.out j hj hj)
       have HFO := Lib.hid (formAllL_true _ _ HFA.out)
       have m0 := hin5.cell k0
       have m1 := hin5.cell k1
       have m2 := hin5.cell k2
       have m3 := hin5.cell k3
       have m4 := hin5.cell k4
       clear HNO
       by_cases hbig1 : 400 < p.fl.length
       ·have HC := Lib.hid (show checkFlat p = 2 from check_big HFR.out HOK.out HFO.out (.inl hbig1))
        go_wp2_with fail
        go_ret
        exact ⟨ret_int (by rw [HC.out]; rfl), HBW5.out⟩
       ·have HPO := Lib.hid (rpartsOf_any K4 p _ _ _ _ _ HP4.out s1 _ hin5)
        have hCB := Lib.hid (fun h : 4000 < Ex.partsL p.terms => (show checkFlat p = 2 from check_big HFR.out HOK.out HFO.out (.inr (.inl h))))
        have hCI := Lib.hid (fun h : 30 < p.ins.length => (show checkFlat p = 2 from check_big HFR.out HOK.out HFO.out (.inr (.inr h))))
        have hKK := Lib.hid (fun (h2 : ¬ 4000 < Ex.partsL p.terms) (h3 : ¬ 30 < p.ins.length) (h : kindsGo (ksOf V) (p.fl.map (·.kind)) p.terms = false) => (show checkFlat p = 5 from check_kind HFR.out HOK.out HFO.out (by omega) h))
        have hOO := Lib.hid (fun (h2 : ¬ 4000 < Ex.partsL p.terms) (h3 : ¬ 30 < p.ins.length) (h : kindsGo (ksOf V) (p.fl.map (·.kind)) p.terms = true) => (show checkFlat p = 0 from check_ok HFR.out HOK.out HFO.out (by omega) h))
        have hpm := Lib.hid (fun (j : Nat) (hj : j < p.terms.length) => getElem_parts p.terms j hj)
        generalize hpp : Ex.partsL p.terms = pp at *
        go_wp2_with fail
        refine HPO.out.mono ?_
        rintro r w6 ⟨rfl, hb6⟩
        have HBW6 := Lib.hid (HBW5.out.trans (hb6.mono HBW5.out.size))
        have hin6 := Lib.hid (hin5.below hb6)
        have g0 := hin6.out.cell k0
        clear hb6 m0 m1 m2 m3 m4
        by_cases hbig2 : 4000 < pp
        ·have HC := Lib.hid (hCB.out hbig2)
         go_wp2_with fail
         go_ret
         exact ⟨ret_int (by rw [HC.out]; rfl), HBW6.out⟩
        by_cases hbig3 : 30 < p.ins.length
        ·have HC := Lib.hid (hCI.out hbig3)
         go_wp2_with fail
         go_ret
         exact ⟨ret_int (by rw [HC.out]; rfl), HBW6.out⟩
        have HKF := Lib.hid (hKK.out hbig2 hbig3)
        have HOF := Lib.hid (hOO.out hbig2 hbig3)
        clear hKK hOO hCI hCB
        go_wp2_with fail
        go_loopw [2, 9, 10] (fun _ i _ wx => ∃ (k : Nat), i = .int .i64 k ∧ k ≤ p.terms.length ∧ (∀ j (hj : j < p.terms.length), j < k → kindOf (ksOf V) p.terms[j] = (p.fl.map (·.kind)).getD j 1) ∧ Below w6.heap.size w6 wx) (fun _ i _ _ => p.terms.length - (intOf i).toNat)
        case atStart => exact ⟨0, rfl, Nat.zero_le _, fun j _ h => by omega, Below.refl _ _⟩
        case round =>
         obtain ⟨k, rfl, hk, hno, hbx⟩ := hrel
         have HNO := Lib.hid hno
         have HB7 := Lib.hid hbx
         have HBW7 := Lib.hid (HBW6.out.trans (hbx.mono HBW6.out.size))
         have hin7 := hin6.out.below hbx
         clear hno hbx
         by_cases hkl : k < p.terms.length
         ·obtain ⟨b, off, ax, cx, rfl, d0, d1, d2, d3, hx⟩ := HT.out.at hkl
          have d0 := hin7.cell d0
          have d1 := hin7.cell d1
          have d2 := hin7.cell d2
          have d3 := hin7.cell d3
          have m2 := hin7.cell k2
          have hpx : p.terms[k].parts ≤ 1000000000 := by have := hpm.out k hkl; omega
          have hfx := HFA.out k hkl
          have HBAD := Lib.hid (fun h : ¬ kindOf (ksOf V) p.terms[k] = (p.fl.map (·.kind)).getD k 1 => HKF.out (by
           cases hg : kindsGo (ksOf V) (p.fl.map (·.kind)) p.terms with
           | false => rfl
           | true => exact absurd ((kindsGo_get _ _ _).1 hg k hkl) h))
          have HNXT := Lib.hid (fun h : kindOf (ksOf V) p.terms[k] = (p.fl.map (·.kind)).getD k 1 => (show ∀ j (hj : j < p.terms.length), j < k + 1 → kindOf (ksOf V) p.terms[j] = (p.fl.map (·.kind)).getD j 1 from fun j hj hjk => by
           by_cases hjk' : j < k
           ·exact HNO.out j hj hjk'
           ·obtain rfl : j = k := by omega
            exact h))
          have HKI := Lib.hid (rkind_any K4 V _ HV4.out hVb p.terms[k] _ hx hpx hfx _ hin7)
          have hwk : ∃ wk, (p.fl.map (·.kind)).getD k 1 = wk := ⟨_, rfl⟩
          obtain ⟨wk, hwk⟩ := hwk
          have HWK := Lib.hid hwk
          rw [hwk] at HBAD HNXT
          clear hwk hpx hfx hx
          generalize kindOf (ksOf V) p.terms[k] = kx at *
          generalize p.terms[k] = x at *
          by_cases hkf : k < p.fl.length
          ·obtain ⟨bf, of, cf, hef, _, _, hcs⟩ := FlsV.cell H34.out (fun e => by rw [e] at hkf; simp at hkf)
           cases hef
           obtain ⟨_, _, f0, f1, _⟩ := hcs k hkf
           have f1 := hin7.cell f1
           have hwf : p.fl[k].kind = wk := by have := HWK.out; simpa [List.getD_eq_getElem?_getD, hkf] using this
           rw [hwf] at f1
           clear hcs f0 hwf
           rcases Bool.eq_false_or_eq_true (kx == wk) with e | e
           ·have HX := Lib.hid (HNXT.out (by simpa using e))
            have hne : (kx != wk) = false := by simp [bne, e]
            go_wp2_with fail
            refine HKI.out.mono ?_
            rintro r w8 ⟨rfl, hb8⟩
            have hb9 := HB7.out.trans (hb8.mono HB7.out.size)
            go_wp2_with fail
            go_roundw
            case rel => exact ⟨k + 1, by go_num, by omega, HX.out, hb9⟩
            case measure => simp [intOf]; omega
           ·have HC := Lib.hid (HBAD.out (by simpa using e))
            have hne : (kx != wk) = true := by simp [bne, e]
            go_wp2_with fail
            refine HKI.out.mono ?_
            rintro r w8 ⟨rfl, hb8⟩
            go_wp2_with fail
            go_ret
            exact ⟨ret_int (by rw [HC.out]; rfl), HBW7.out.trans (hb8.mono HBW7.out.size)⟩
          ·have hwf : wk = 1 := by rw [← HWK.out]; simp [List.getD_eq_getElem?_getD, List.getElem?_eq_none (show (p.fl.map (·.kind)).length ≤ k by simp; omega)]
           subst hwf
           rcases Bool.eq_false_or_eq_true (kx == 1) with e | e
           ·have HX := Lib.hid (HNXT.out (by simpa using e))
            have hne : (kx != 1) = false := by simp [bne, e]
            go_wp2_with fail
            refine HKI.out.mono ?_
            rintro r w8 ⟨rfl, hb8⟩
            have hb9 := HB7.out.trans (hb8.mono HB7.out.size)
            go_wp2_with fail
            go_roundw
            case rel => exact ⟨k + 1, by go_num, by omega, HX.out, hb9⟩
            case measure => simp [intOf]; omega
           ·have HC := Lib.hid (HBAD.out (by simpa using e))
            have hne : (kx != 1) = true := by simp [bne, e]
            go_wp2_with fail
            refine HKI.out.mono ?_
            rintro r w8 ⟨rfl, hb8⟩
            go_wp2_with fail
            go_ret
            exact ⟨ret_int (by rw [HC.out]; rfl), HBW7.out.trans (hb8.mono HBW7.out.size)⟩
         ·have HC := Lib.hid (HOF.out ((kindsGo_get _ _ _).2 fun j hj => HNO.out j hj (by omega)))
          go_wp2_with fail
          go_ret
          exact ⟨ret_int (by rw [HC.out]; rfl), HBW7.out⟩
end Go.Proofs.YthejomlhmdeimaaDoor
