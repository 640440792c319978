/- Walks: lustrumref2.ApplyOf at any operator of right values. -/
import Derived.Test.YtnaijgmfjpmpjaaGreatDoorAyR
import Derived.Test.YtnaijgmfjpmpjaaGreatDoorAyO
import Derived.Test.YtnaijgmfjpmpjaaGreatDoorFlD
import Derived.Test.YtnaijgmfjpmpjaaGreatDoorKind
import Derived.Test.YtnaijgmfjpmpjaaGreatDoorSen
import Derived.Test.YtnaijgmfjpmpjaaGreatDoorFxM
import Derived.Test.YtnaijgmfjpmpjaaGreatDoorRw
import Derived.Test.YtnaijgmfjpmpjaaGreatDoorBare
import Derived.Test.YtnaijgmfjpmpjaaGreatDoorCodA
import Derived.Test.YtnaijgmfjpmpjaaGreatDoorVsA
import Derived.Test.YtnaijgmfjpmpjaaGreatDoorLaid
namespace Go.Proofs.YtnaijgmfjpmpjaaGreatDoor
set_option maxRecDepth 100000
set_option maxHeartbeats 16000000
open Go.RowKit Mx
theorem isApp_zero {o : ByteArray} {l : List Vl} (h : isApp o l = 0) : arity o = some (l.length : Int) ∧ 1 ≤ l.length ∧ o ≠ oPre ∧ o ≠ oArrow ∧ o ≠ oFby ∧ (∀ x ∈ l, rightV x x.kind = true) ∧ kindBy o 0 (l.map (·.kind)) ≠ 0 := by
 unfold isApp at h
 cases e : arity o with
 | none => rw [e] at h; cases h
 | some k =>
  rw [e] at h
  dsimp only at h
  split at h
  ·cases h
  ·rename_i hn
   simp only [not_or] at hn
   obtain ⟨h1, h2, h3, h4, h5⟩ := hn
   have hk : k = (l.length : Int) := Classical.byContradiction h2
   split at h
   ·cases h
   ·rename_i ha
    split at h
    ·cases h
    ·rename_i hb
     exact ⟨by rw [hk], by omega, h3, h4, h5, List.all_eq_true.1 (by simpa using ha), hb⟩
theorem isApp_le (o : ByteArray) (l : List Vl) : isApp o l ≤ 5 := by
 unfold isApp
 split
 ·omega
 ·split
  ·omega
  ·split
   ·omega
   ·split <;> omega
theorem right_int {x : Vl} (h : rightV x x.kind = true) (hk : x.kind = 2) : -128 ≤ x.n ∧ x.n ≤ 127 := by
 unfold rightV at h
 rw [hk] at h
 simp at h
 exact h
theorem right_bool {x : Vl} (h : rightV x x.kind = true) (hk : x.kind = 1) : x.n = 0 ∨ x.n = 1 := by
 unfold rightV at h
 rw [hk] at h
 simpa using h
theorem kb_same {a b : Int} (k : Int) (h : (if (decide (a = b) && decide (a = k)) = true then (1 : Int) else 0) ≠ 0) : a = k ∧ b = k := by
 split at h
 ·rename_i e
  simp only [Bool.and_eq_true, decide_eq_true_eq] at e
  exact ⟨e.2, by rw [← e.1]; exact e.2⟩
 ·exact absurd rfl h
theorem kb_ints {a b : Int} (h : (if (decide (a = b) && decide (a = 2)) = true then (2 : Int) else 0) ≠ 0) : a = 2 ∧ b = 2 := by
 split at h
 ·rename_i e
  simp only [Bool.and_eq_true, decide_eq_true_eq] at e
  exact ⟨e.2, by rw [← e.1]; exact e.2⟩
 ·exact absurd rfl h
theorem kb_eq {a b : Int} (h : (if decide (a = b) = true then (1 : Int) else 0) ≠ 0) : a = b := by
 split at h
 ·rename_i e
  simpa using e
 ·exact absurd rfl h
theorem ite_trap {c : Prop} [Decidable c] {a b : Vl × Bool} (ha : a.2 = true → a.1 = vz) (hb : b.2 = true → b.1 = vz) : (if c then a else b).2 = true → (if c then a else b).1 = vz := by
 by_cases h : c
 ·rw [if_pos h]; exact ha
 ·rw [if_neg h]; exact hb
theorem appM_trap (o : ByteArray) (l : List Vl) : (appM o l).2 = true → (appM o l).1 = vz := by
 unfold appM
 dsimp only
 repeat (refine ite_trap (by first | exact fun h => Bool.noConfusion h | exact fun _ => rfl) ?_)
 exact fun h => Bool.noConfusion h
theorem rapply_any (H : Kn) (o : ByteArray) (l : List Vl) (h0 : isApp o l = 0) (v : Value) (hv : VlsV H l v) (w : World) (hH : H.In w) :
  Calls Tryz.prog 10 #[.string o, v] w fun r w' => r = .returned (.tuple #[vlV (appM o l).1, .bool (appM o l).2]) ∧ Below w.heap.size w w' := by
 obtain ⟨ha, h1, hp, hq, hr, hrt, hkb⟩ := isApp_zero h0
 rcases hv with ⟨rfl, _⟩ | ⟨b, off, cap, rfl, _, _, hc⟩
 ·simp at h1
 ·have hcc : ∀ i (h : i < l.length), w.cell? ⟨b, off + i * 2, none⟩ = some (.int .i64 l[i].kind) ∧ w.cell? ⟨b, off + i * 2 + 1, none⟩ = some (.int .i64 l[i].n) := fun i h => by
   obtain ⟨x0, x1⟩ := hc i h
   exact ⟨hH.cell (by simpa using x0), hH.cell x1⟩
  rcases op_cases ha (by omega) hp hq hr with ⟨hk, ho⟩ | ⟨hk, ho⟩ | ⟨hk, ho⟩
  ·match l, hk, hcc, hrt, hkb with
   | [x], _, hcc, hrt, hkb =>
    rcases ho with rfl | rfl
    ·exact rapp_not x b off cap w hcc
    ·have hx := hrt x (by simp)
     have e : x.kind = 2 ∧ x.kind = 2 := kb_ints hkb
     exact rapp_neg x (right_int hx e.1) b off cap w hcc
  ·match l, hk, hcc, hrt, hkb with
   | [x, y, u], _, hcc, hrt, hkb =>
    subst ho
    exact rapp_if x y u b off cap w hcc
  ·match l, hk, hcc, hrt, hkb with
   | [x, y], _, hcc, hrt, hkb =>
    have hx := hrt x (by simp)
    have hy := hrt y (by simp)
    rcases ho with rfl | rfl | rfl | rfl | rfl | rfl | rfl | rfl | rfl | rfl | rfl | rfl | rfl | rfl | rfl
    ·have e := kb_same 1 (a := x.kind) (b := y.kind) hkb
     exact rapp_or x y (right_bool hx e.1) (right_bool hy e.2) b off cap w hcc
    ·have e := kb_same 1 (a := x.kind) (b := y.kind) hkb
     exact rapp_xor x y (right_bool hx e.1) (right_bool hy e.2) b off cap w hcc
    ·have e := kb_same 1 (a := x.kind) (b := y.kind) hkb
     exact rapp_and x y (right_bool hx e.1) (right_bool hy e.2) b off cap w hcc
    ·exact rapp_eq x y (kb_eq hkb) b off cap w hcc
    ·exact rapp_ne x y (kb_eq hkb) b off cap w hcc
    ·exact rapp_lt x y b off cap w hcc
    ·exact rapp_le x y b off cap w hcc
    ·exact rapp_gt x y b off cap w hcc
    ·exact rapp_ge x y b off cap w hcc
    ·have e := kb_same 1 (a := x.kind) (b := y.kind) hkb
     exact rapp_imp x y (right_bool hx e.1) (right_bool hy e.2) b off cap w hcc
    ·have e : x.kind = 2 ∧ y.kind = 2 := kb_ints hkb
     exact rapp_add x y (right_int hx e.1) (right_int hy e.2) b off cap w hcc
    ·have e : x.kind = 2 ∧ y.kind = 2 := kb_ints hkb
     exact rapp_sub x y (right_int hx e.1) (right_int hy e.2) b off cap w hcc
    ·have e : x.kind = 2 ∧ y.kind = 2 := kb_ints hkb
     exact rapp_mul x y (right_int hx e.1) (right_int hy e.2) b off cap w hcc
    ·have e : x.kind = 2 ∧ y.kind = 2 := kb_ints hkb
     by_cases hz : y.n = 0
     ·exact rapp_divT x y hz b off cap w hcc
     ·exact rapp_div x y (right_int hx e.1) (right_int hy e.2) hz b off cap w hcc
    ·have e : x.kind = 2 ∧ y.kind = 2 := kb_ints hkb
     by_cases hz : y.n = 0
     ·exact rapp_modT x y hz b off cap w hcc
     ·exact rapp_mod x y (right_int hx e.1) (right_int hy e.2) hz b off cap w hcc
end Go.Proofs.YtnaijgmfjpmpjaaGreatDoor
namespace Go.Proofs.YtnaijgmfjpmpjaaGreatDoor
set_option maxRecDepth 100000
set_option maxHeartbeats 16000000
open Go.RowKit Mx
def aplM (o : ByteArray) (l : List Vl) : Vl × Bool := if isApp o l = 0 then appM o l else (vz, false)
theorem aplM_no {o : ByteArray} {l : List Vl} {c : Nat} (h : isApp o l = c + 1) : aplM o l = (vz, false) := if_neg (by omega)
theorem aplM_yes {o : ByteArray} {l : List Vl} (h : isApp o l = 0) : aplM o l = appM o l := if_pos h
def nmI (k : Nat) : ByteArray := ⟨#[UInt8.ofNat (97 + k)]⟩
theorem nmI_inj {i j : Nat} (hi : i < 10) (hj : j < 10) (h : nmI i = nmI j) : i = j := by
 have h1 : UInt8.ofNat (97 + i) = UInt8.ofNat (97 + j) := by simpa [nmI] using h
 have h2 := congrArg UInt8.toNat h1
 simp at h2
 omega
def ksK (l : List Vl) : Nat → Env Int
 | 0 => Env.none
 | k + 1 => (ksK l k).set (nmI k) (l.getD k vz).kind
theorem ksK_at (l : List Vl) : ∀ k, k ≤ 10 → ∀ i, i < k → ksK l k (nmI i) = some (l.getD i vz).kind
 | 0, _, i, hi => by omega
 | k + 1, hk, i, hi => by
  simp only [ksK, Env.set]
  by_cases e : i = k
  ·rw [if_pos (by rw [e]), e]
  ·rw [if_neg fun h => e (nmI_inj (by omega) (by omega) h)]
   exact ksK_at l k (by omega) i (by omega)
theorem ksK_empty (l : List Vl) : ∀ k, ksK l k ⟨#[]⟩ = none
 | 0 => rfl
 | k + 1 => by
  simp only [ksK, Env.set]
  rw [if_neg (by simp [nmI]), ksK_empty l k]
def exO (o : ByteArray) (n : Nat) : Ex := .mk o 0 ⟨#[]⟩ ((List.range n).map fun i => .mk oName 0 (nmI i) [])
theorem exO_kinds (o : ByteArray) (l : List Vl) (hl : l.length ≤ 10) (hr : (l.all fun v => rightV v v.kind) = true) : kindOf (ksK l l.length) (exO o l.length) = kindBy o 0 (l.map (·.kind)) := by
 have hks : kindsOf (ksK l l.length) ((List.range l.length).map fun i => .mk oName 0 (nmI i) []) = l.map (·.kind) := by
  rw [kindsOf_map, List.map_map]
  refine List.ext_getElem (by simp) fun i h1 h2 => ?_
  have hi : i < l.length := by simpa using h1
  have hk : kindOf (ksK l l.length) (.mk oName 0 (nmI i) []) = l[i].kind := by
   rw [kindOf_by _ _ _ _ _ (by simp [kindsOf]), ksK_at l _ hl i hi]
   have h3 : kindBy oName ((some (l.getD i vz).kind).getD 0) (kindsOf (ksK l l.length) []) = (l.getD i vz).kind := by
    simp [kindBy, show oName ≠ oInt from by decide, show oName ≠ oTrue from by decide, show oName ≠ oFalse from by decide]
   rw [h3, List.getD_eq_getElem?_getD, List.getElem?_eq_getElem hi]
   rfl
  simpa using hk
 unfold exO
 rw [kindOf_by _ _ _ _ _ ?_, hks, ksK_empty]
 ·rfl
 ·rw [hks]
  intro h
  obtain ⟨x, hx, h0⟩ := List.mem_map.1 h
  have h1 := List.all_eq_true.1 hr x hx
  unfold rightV at h1
  rw [h0] at h1
  simp at h1
def xsK : Nat → List Value
 | 0 => []
 | k + 1 => xsK k ++ [.string oName, .int .i64 0, .string (nmI k), .slice none 0 0]
structure FaI (w0 wr : World) (n : Nat) (o : ByteArray) (l : List Vl) (m k : Nat) (u : Value) : Prop where
 below : Below n w0 wr
 res : wr.heap[n]? = some (.cells #[.int .i64 0, .int .i64 0] 25 (0, 0))
 box : wr.heap[n + 1]? = some (.cells #[.string o, .int .i64 0, .string ⟨#[]⟩, u] 69 (0, 0))
 map : MapAt (Value.int .i64) wr (n + 1 + 1) (ksK l m)
 row : wr.ownsRow (n + 1 + 1 + 1) 69 4 u k (xsK k)
 right : ∀ j (hj : j < l.length), j < k → rightV l[j] l[j].kind = true
theorem FaI.size {w0 wr : World} {n m k : Nat} {o : ByteArray} {l : List Vl} {u : Value} (h : FaI w0 wr n o l m k u) : n + 1 + 1 < wr.heap.size := h.map.lt
theorem FaI.later {w0 wr w' : World} {n m k : Nat} {o : ByteArray} {l : List Vl} {u : Value} (h : FaI w0 wr n o l m k u) (hb : Below wr.heap.size wr w') : FaI w0 w' n o l m k u := by
 have hs := h.size
 exact ⟨h.below.trans (hb.mono (by omega)), (hb.block _ (by omega)).trans h.res, (hb.block _ (by omega)).trans h.box, h.map.below hb, own_below h.row hb, h.right⟩
theorem FaI.turn {w0 wr w' : World} {n m k : Nat} {o : ByteArray} {l : List Vl} {u : Value} (h : FaI w0 wr n o l m k u) (ht : Turned wr w' (n + 1 + 1)) (hm : MapAt (Value.int .i64) w' (n + 1 + 1) (ksK l (m + 1))) : FaI w0 w' n o l (m + 1) k u :=
 ⟨ht.below h.below (by omega), (ht.block (by omega)).trans h.res, (ht.block (by omega)).trans h.box, hm, own_turned h.row ht (own_ge h.row (by omega)), h.right⟩
theorem xsK_at (K : Kn) : ∀ n, XsAt K ((List.range n).map fun i => .mk oName 0 (nmI i) []) (xsK n)
 | 0 => rfl
 | n + 1 => by
  rw [List.range_succ, List.map_append, xsK]
  exact (xsK_at K n).append ⟨none, 0, [], rfl, .inl ⟨rfl, _, _, rfl⟩, rfl⟩
theorem exO_ok (o : ByteArray) (n : Nat) (h : o = oIf → n = 3) : okIf (exO o n) = true := by
 have h2 : ∀ l : List Nat, okIfL (l.map fun i => .mk oName 0 (nmI i) []) = true := fun l => by
  induction l with
  | nil => rfl
  | cons i l ih => simp only [List.map_cons, okIfL, okIf, Bool.and_eq_true, Bool.or_eq_true, decide_eq_true_eq]; exact ⟨⟨.inl (by decide), trivial⟩, ih⟩
 unfold exO
 simp only [okIf, Bool.and_eq_true, Bool.or_eq_true, decide_eq_true_eq, List.length_map, List.length_range]
 refine ⟨?_, h2 _⟩
 by_cases e : o = oIf
 ·exact .inr (h e)
 ·exact .inl e
theorem exO_parts (o : ByteArray) (n : Nat) : (exO o n).parts = 1 + n := by
 have h2 : ∀ l : List Nat, Ex.partsL (l.map fun i => .mk oName 0 (nmI i) []) = l.length := fun l => by
  induction l with
  | nil => rfl
  | cons i l ih => simp only [List.map_cons, Ex.partsL, Ex.parts, List.length_cons, ih]; omega
 unfold exO
 simp only [Ex.parts, h2, List.length_range]
theorem put2w {W : World} {b : Nat} {x y : Value} {t : TypeId} (h : W.heap[b]? = some (.cells #[x, y] t (0, 0))) (u v : Value) : ((W.setCell ⟨b, 0, none⟩ u).setCell ⟨b, 1, none⟩ v).heap[b]? = some (.cells #[u, v] t (0, 0)) :=
 heap_setCell_same _ b 1 v _ _ _ (heap_setCell_same W b 0 u _ _ _ h)
theorem frozen_put {W : World} {b : Nat} {x y : Value} {t : TypeId} (h : W.heap[b]? = some (.cells #[x, y] t (0, 0))) (u : Value) : (W.setCell ⟨b, 0, none⟩ u).frozen? ⟨b, 1, none⟩ = false ∧ (W.setCell ⟨b, 0, none⟩ u).cell? ⟨b, 1, none⟩ = some y := by
 have h1 := heap_setCell_same W b 0 u _ _ _ h
 exact ⟨(cell2_of (x := u) (y := y) h1).2.2.2.1, (cell2_of (x := u) (y := y) h1).2.1⟩
theorem FaI.app {w0 wr w3 : World} {n m k g cap' : Nat} {o : ByteArray} {l : List Vl} {u : Value} (h : FaI w0 wr n o l m k u) (ho : w3.ownsRow (n + 1 + 1 + 1) 69 4 (.slice (some ⟨g, 0, none⟩) (k + 1) cap') (k + 1) (xsK k ++ [.string oName, .int .i64 0, .string (nmI k), .slice none 0 0])) (hg : wr.grownBy w3 u.ownBlock)
  (hr : ∀ j (hj : j < l.length), j < k + 1 → rightV l[j] l[j].kind = true) :
  w3.cell? ⟨n + 1, 3, none⟩ = some u ∧ w3.frozen? ⟨n + 1, 3, none⟩ = false ∧ FaI w0 (w3.setCell ⟨n + 1, 3, none⟩ (.slice (some ⟨g, 0, none⟩) (k + 1) cap')) n o l m (k + 1) (.slice (some ⟨g, 0, none⟩) (k + 1) cap') := by
 have hs := h.size
 have hb : ∀ i, i < n + 1 + 1 + 1 → w3.heap[i]? = wr.heap[i]? := fun i hi => hg.block i (by omega) (fun e => own_ge h.row hi e.symm)
 have hbx : w3.heap[n + 1]? = _ := (hb _ (by omega)).trans h.box
 refine ⟨by simp [World.cell?, hbx], by simp [World.frozen?, hbx], (h.below.grown hg (by omega) (fun g hgg => by have := (h.row.lt g hgg).1; omega)).setCell (p := ⟨n + 1, 3, none⟩) (by show n ≤ n + 1; omega) _, ?_, ?_, ?_, own_setCell ho (own_ge (b := n + 1) ho (by omega)) _, hr⟩
 ·rw [Below.heap_setCell _ ⟨n + 1, 3, none⟩ _ n (by show n ≠ n + 1; omega)]
  exact (hb _ (by omega)).trans h.res
 ·rw [heap_setCell_same _ _ _ _ _ _ _ hbx]; rfl
 ·refine h.map.of_block ?_
  rw [Below.heap_setCell _ ⟨n + 1, 3, none⟩ _ (n + 1 + 1) (by show n + 1 + 1 ≠ n + 1; omega)]
  exact hb _ (by omega)
theorem applyX_any (H : Kn) (T : LevelsAt H) (sp : Nat → Addr) (o : ByteArray) (l : List Vl) (v : Value) (hv : VlsV H l v) (hl : l.length ≤ 10) (w : World) (hH : H.In w) (S : Sen5 w sp) :
  Calls Tryz.prog 6 #[.string o, v] w fun r w' => r = .returned (.tuple #[vlV (aplM o l).1, .bool (aplM o l).2, errV sp (isApp o l)]) ∧ Below w.heap.size w w' := by
 obtain ⟨a, c, rfl⟩ := hv.len
 have HV := Lib.hid hv
 have E3 := Lib.hid (show (arB o = false ∨ arN o < 1 ∨ arN o ≠ (l.length : Int) ∨ o = oPre ∨ o = oArrow ∨ o = oFby) → isApp o l = 3 from fun h => by
  unfold isApp arB arN at *
  cases e : arity o with
  | none => rfl
  | some k =>
   rw [e] at h
   simp only [Option.isSome_some, Bool.true_eq_false, Option.getD_some, false_or] at h
   exact if_pos h)
 have E5 := Lib.hid (show arB o = true → ¬ arN o < 1 → arN o = (l.length : Int) → o ≠ oPre → o ≠ oArrow → o ≠ oFby → isApp o l = if (l.all fun v => rightV v v.kind) = false then 5 else if kindBy o 0 (l.map (·.kind)) = 0 then 5 else 0 from fun h1 h2 h3 h4 h5 h6 => by
  unfold isApp arB arN at *
  cases e : arity o with
  | none => rw [e] at h1; cases h1
  | some k =>
   rw [e] at h2 h3
   simp only [Option.getD_some] at h2 h3
   dsimp only
   rw [if_neg (by simp only [not_or]; exact ⟨h2, fun h => h h3, h4, h5, h6⟩)]
   cases hall : l.all fun v => rightV v v.kind <;> simp)
 have hb1 : Below w.heap.size w (w.alloc (.cells #[.int .i64 0, .int .i64 0] 25)) := (Below.refl _ _).alloc (Nat.le_refl _) _
 have hr1 := heap_alloc_new w (.cells #[.int .i64 0, .int .i64 0] 25)
 have hz1 : (w.alloc (.cells #[.int .i64 0, .int .i64 0] 25)).heap.size = w.heap.size + 1 := by simp
 have HB1 := Lib.hid hb1
 have HR1 := Lib.hid hr1
 have HZ1 := Lib.hid hz1
 clear hv hb1 hr1 hz1
 have hmm := @run_makeMap Tryz.prog
 go_enter Tryz.func6, Tryz.ntmps6
 go_wp2_with fail
 generalize w.alloc (.cells #[.int .i64 0, .int .i64 0] 25) = W1 at *
 refine (arity_any H T o W1 (hH.below HB1.out)).mono ?_
 rintro r w1 ⟨rfl, rfl⟩
 cases hB : arB o with
 | false =>
  have EQ := Lib.hid (E3.out (.inl hB))
  clear E3 E5
  go_wp2_with fail
  have EE := Lib.hid ((show .returned (.tuple #[.agg #[.int .i64 0, .int .i64 0], .bool false, esv (sp 2)]) = (.returned (.tuple #[vlV (aplM o l).1, .bool (aplM o l).2, errV sp (isApp o l)]) : Ending) from by rw [aplM_no (c := 2) EQ.out, EQ.out]; rfl))
  have HBE := Lib.hid (HB1.out)
  have hR := HR1.out
  have g0 : (noKn w.heap.size W1).cell 0 0 = some (esv (sp 2)) := by
   have hc := ((S.below HB1.out)).c2
   have hlt : 0 < w.heap.size := World.block_lt_of_cell? w ⟨0, 0, none⟩ S.c2
   rw [noKn_cell (by omega)]
   exact hc
  have hS := noKn_in w.heap.size W1
  have hno := noKn_self w.heap.size W1
  generalize noKn w.heap.size W1 = KK at *
  have hS : KK.In W1.drew := hS
  have hR : W1.drew.heap[w.heap.size]? = some (.cells #[.int .i64 0, .int .i64 0] 25 (0, 0)) := hR
  have E5 := Lib.hid (set2A hR (.int .i64 0) (.int .i64 0))
  obtain ⟨r0, r1, f0, f1, _⟩ := cell2_of hR
  have HBD := Lib.hid (HBE.out.drew)
  clear hR HBE
  go_wp2_with fail
  refine wp_region_2 (fun w' => KK.In w') (fun _ => True) 99 (by kernel_rfl) ?_
  generalize W1.drew = Wd at *
  refine wpAny2_take (i := 0) (oi := _) (v := ?_) rfl (by decide) (by kernel_rfl) (by kernel_rfl) (by kernel_rfl) (by kernel_rfl) (fun _ _ _ h => h) hS (fun _ => trivial) (Or.inl ⟨by rfl, ?hy⟩) ?_
  case hy => intro w hSw; have z0 := hSw.cell g0; go_simp <;> with_reducible rfl
  try simp only [Act.put, List.setIfInBounds_toArray, List.set_cons_zero, List.set_cons_succ, List.getElem_toArray, List.getElem_cons_zero, List.getElem_cons_succ]
  refine wpAny2_take (i := 1) (oi := _) (v := ?_) rfl (by decide) (by kernel_rfl) (by kernel_rfl) (by kernel_rfl) (by kernel_rfl) (fun _ _ _ h => h) hS (fun _ => trivial) (Or.inl ⟨by rfl, ?hy⟩) ?_
  case hy => intro w hSw; have z0 := hSw.cell g0; go_simp <;> with_reducible rfl
  try simp only [Act.put, List.setIfInBounds_toArray, List.set_cons_zero, List.set_cons_succ, List.getElem_toArray, List.getElem_cons_zero, List.getElem_cons_succ]
  refine wpAny2_one (i := 2) (o := _) (by kernel_rfl) rfl (fun K_ hK => ?_)
  go_simp
  refine hK.out _ _ (((hS.setCell (a := ⟨w.heap.size, 0, none⟩) hno _).setCell (a := ⟨w.heap.size, 1, none⟩) hno _)) (fun _ => trivial) ?_
  clear hK K_
  try simp only [Act.put, List.setIfInBounds_toArray, List.set_cons_zero, List.set_cons_succ, List.getElem_toArray, List.getElem_cons_zero, List.getElem_cons_succ]
  refine wpAny2_take (i := 3) (oi := _) (v := ?_) rfl (by decide) (by kernel_rfl) (by kernel_rfl) (by kernel_rfl) (by kernel_rfl) (fun _ _ _ h => h) ((hS.setCell (a := ⟨w.heap.size, 0, none⟩) hno _).setCell (a := ⟨w.heap.size, 1, none⟩) hno _) (fun _ => trivial) (Or.inl ⟨by rfl, ?hy⟩) ?_
  case hy => intro w hSw; have z0 := hSw.cell g0; go_simp <;> with_reducible rfl
  try simp only [Act.put, List.setIfInBounds_toArray, List.set_cons_zero, List.set_cons_succ, List.getElem_toArray, List.getElem_cons_zero, List.getElem_cons_succ]
  refine wpAny2_take (i := 4) (oi := _) (v := ?_) rfl (by decide) (by kernel_rfl) (by kernel_rfl) (by kernel_rfl) (by kernel_rfl) (fun _ _ _ h => h) ((hS.setCell (a := ⟨w.heap.size, 0, none⟩) hno _).setCell (a := ⟨w.heap.size, 1, none⟩) hno _) (fun _ => trivial) (Or.inl ⟨by rfl, ?hy⟩) ?_
  case hy => intro w hSw; have z0 := hSw.cell g0; go_simp <;> with_reducible rfl
  try simp only [Act.put, List.setIfInBounds_toArray, List.set_cons_zero, List.set_cons_succ, List.getElem_toArray, List.getElem_cons_zero, List.getElem_cons_succ]
  refine wpAny2_done (by kernel_rfl) ?_ _
  have e0 := E5.out.1
  have e1 := E5.out.2
  go_wp2_with fail
  refine bodyPost_ret (v := .tuple #[.agg #[.int .i64 0, .int .i64 0], .bool false, esv (sp 2)]) (by simp [results, Tryz.results6, go_sem, e0, e1]) rfl ?_
  exact ⟨EE.out, below_put2 HBD.out (Nat.le_refl _) _ _⟩
 | true =>
 by_cases h1 : arN o < 1
 ·have EQ := Lib.hid (E3.out (.inr (.inl h1)))
  clear E3 E5
  go_wp2_with fail
  have EE := Lib.hid ((show .returned (.tuple #[.agg #[.int .i64 0, .int .i64 0], .bool false, esv (sp 2)]) = (.returned (.tuple #[vlV (aplM o l).1, .bool (aplM o l).2, errV sp (isApp o l)]) : Ending) from by rw [aplM_no (c := 2) EQ.out, EQ.out]; rfl))
  have HBE := Lib.hid (HB1.out)
  have hR := HR1.out
  have g0 : (noKn w.heap.size W1).cell 0 0 = some (esv (sp 2)) := by
   have hc := ((S.below HB1.out)).c2
   have hlt : 0 < w.heap.size := World.block_lt_of_cell? w ⟨0, 0, none⟩ S.c2
   rw [noKn_cell (by omega)]
   exact hc
  have hS := noKn_in w.heap.size W1
  have hno := noKn_self w.heap.size W1
  generalize noKn w.heap.size W1 = KK at *
  have hS : KK.In W1.drew := hS
  have hR : W1.drew.heap[w.heap.size]? = some (.cells #[.int .i64 0, .int .i64 0] 25 (0, 0)) := hR
  have E5 := Lib.hid (set2A hR (.int .i64 0) (.int .i64 0))
  obtain ⟨r0, r1, f0, f1, _⟩ := cell2_of hR
  have HBD := Lib.hid (HBE.out.drew)
  clear hR HBE
  go_wp2_with fail
  refine wp_region_2 (fun w' => KK.In w') (fun _ => True) 99 (by kernel_rfl) ?_
  generalize W1.drew = Wd at *
  refine wpAny2_take (i := 0) (oi := _) (v := ?_) rfl (by decide) (by kernel_rfl) (by kernel_rfl) (by kernel_rfl) (by kernel_rfl) (fun _ _ _ h => h) hS (fun _ => trivial) (Or.inl ⟨by rfl, ?hy⟩) ?_
  case hy => intro w hSw; have z0 := hSw.cell g0; go_simp <;> with_reducible rfl
  try simp only [Act.put, List.setIfInBounds_toArray, List.set_cons_zero, List.set_cons_succ, List.getElem_toArray, List.getElem_cons_zero, List.getElem_cons_succ]
  refine wpAny2_take (i := 1) (oi := _) (v := ?_) rfl (by decide) (by kernel_rfl) (by kernel_rfl) (by kernel_rfl) (by kernel_rfl) (fun _ _ _ h => h) hS (fun _ => trivial) (Or.inl ⟨by rfl, ?hy⟩) ?_
  case hy => intro w hSw; have z0 := hSw.cell g0; go_simp <;> with_reducible rfl
  try simp only [Act.put, List.setIfInBounds_toArray, List.set_cons_zero, List.set_cons_succ, List.getElem_toArray, List.getElem_cons_zero, List.getElem_cons_succ]
  refine wpAny2_one (i := 2) (o := _) (by kernel_rfl) rfl (fun K_ hK => ?_)
  go_simp
  refine hK.out _ _ (((hS.setCell (a := ⟨w.heap.size, 0, none⟩) hno _).setCell (a := ⟨w.heap.size, 1, none⟩) hno _)) (fun _ => trivial) ?_
  clear hK K_
  try simp only [Act.put, List.setIfInBounds_toArray, List.set_cons_zero, List.set_cons_succ, List.getElem_toArray, List.getElem_cons_zero, List.getElem_cons_succ]
  refine wpAny2_take (i := 3) (oi := _) (v := ?_) rfl (by decide) (by kernel_rfl) (by kernel_rfl) (by kernel_rfl) (by kernel_rfl) (fun _ _ _ h => h) ((hS.setCell (a := ⟨w.heap.size, 0, none⟩) hno _).setCell (a := ⟨w.heap.size, 1, none⟩) hno _) (fun _ => trivial) (Or.inl ⟨by rfl, ?hy⟩) ?_
  case hy => intro w hSw; have z0 := hSw.cell g0; go_simp <;> with_reducible rfl
  try simp only [Act.put, List.setIfInBounds_toArray, List.set_cons_zero, List.set_cons_succ, List.getElem_toArray, List.getElem_cons_zero, List.getElem_cons_succ]
  refine wpAny2_take (i := 4) (oi := _) (v := ?_) rfl (by decide) (by kernel_rfl) (by kernel_rfl) (by kernel_rfl) (by kernel_rfl) (fun _ _ _ h => h) ((hS.setCell (a := ⟨w.heap.size, 0, none⟩) hno _).setCell (a := ⟨w.heap.size, 1, none⟩) hno _) (fun _ => trivial) (Or.inl ⟨by rfl, ?hy⟩) ?_
  case hy => intro w hSw; have z0 := hSw.cell g0; go_simp <;> with_reducible rfl
  try simp only [Act.put, List.setIfInBounds_toArray, List.set_cons_zero, List.set_cons_succ, List.getElem_toArray, List.getElem_cons_zero, List.getElem_cons_succ]
  refine wpAny2_done (by kernel_rfl) ?_ _
  have e0 := E5.out.1
  have e1 := E5.out.2
  go_wp2_with fail
  refine bodyPost_ret (v := .tuple #[.agg #[.int .i64 0, .int .i64 0], .bool false, esv (sp 2)]) (by simp [results, Tryz.results6, go_sem, e0, e1]) rfl ?_
  exact ⟨EE.out, below_put2 HBD.out (Nat.le_refl _) _ _⟩
 by_cases h2 : arN o = (l.length : Int)
 case neg =>
  have h2b : (arN o != (l.length : Int)) = true := by simpa using h2
  have EQ := Lib.hid (E3.out (.inr (.inr (.inl h2))))
  clear E3 E5
  go_wp2_with fail
  have EE := Lib.hid ((show .returned (.tuple #[.agg #[.int .i64 0, .int .i64 0], .bool false, esv (sp 2)]) = (.returned (.tuple #[vlV (aplM o l).1, .bool (aplM o l).2, errV sp (isApp o l)]) : Ending) from by rw [aplM_no (c := 2) EQ.out, EQ.out]; rfl))
  have HBE := Lib.hid (HB1.out)
  have hR := HR1.out
  have g0 : (noKn w.heap.size W1).cell 0 0 = some (esv (sp 2)) := by
   have hc := ((S.below HB1.out)).c2
   have hlt : 0 < w.heap.size := World.block_lt_of_cell? w ⟨0, 0, none⟩ S.c2
   rw [noKn_cell (by omega)]
   exact hc
  have hS := noKn_in w.heap.size W1
  have hno := noKn_self w.heap.size W1
  generalize noKn w.heap.size W1 = KK at *
  have hS : KK.In W1.drew := hS
  have hR : W1.drew.heap[w.heap.size]? = some (.cells #[.int .i64 0, .int .i64 0] 25 (0, 0)) := hR
  have E5 := Lib.hid (set2A hR (.int .i64 0) (.int .i64 0))
  obtain ⟨r0, r1, f0, f1, _⟩ := cell2_of hR
  have HBD := Lib.hid (HBE.out.drew)
  clear hR HBE
  go_wp2_with fail
  refine wp_region_2 (fun w' => KK.In w') (fun _ => True) 99 (by kernel_rfl) ?_
  generalize W1.drew = Wd at *
  refine wpAny2_take (i := 0) (oi := _) (v := ?_) rfl (by decide) (by kernel_rfl) (by kernel_rfl) (by kernel_rfl) (by kernel_rfl) (fun _ _ _ h => h) hS (fun _ => trivial) (Or.inl ⟨by rfl, ?hy⟩) ?_
  case hy => intro w hSw; have z0 := hSw.cell g0; go_simp <;> with_reducible rfl
  try simp only [Act.put, List.setIfInBounds_toArray, List.set_cons_zero, List.set_cons_succ, List.getElem_toArray, List.getElem_cons_zero, List.getElem_cons_succ]
  refine wpAny2_take (i := 1) (oi := _) (v := ?_) rfl (by decide) (by kernel_rfl) (by kernel_rfl) (by kernel_rfl) (by kernel_rfl) (fun _ _ _ h => h) hS (fun _ => trivial) (Or.inl ⟨by rfl, ?hy⟩) ?_
  case hy => intro w hSw; have z0 := hSw.cell g0; go_simp <;> with_reducible rfl
  try simp only [Act.put, List.setIfInBounds_toArray, List.set_cons_zero, List.set_cons_succ, List.getElem_toArray, List.getElem_cons_zero, List.getElem_cons_succ]
  refine wpAny2_one (i := 2) (o := _) (by kernel_rfl) rfl (fun K_ hK => ?_)
  go_simp
  refine hK.out _ _ (((hS.setCell (a := ⟨w.heap.size, 0, none⟩) hno _).setCell (a := ⟨w.heap.size, 1, none⟩) hno _)) (fun _ => trivial) ?_
  clear hK K_
  try simp only [Act.put, List.setIfInBounds_toArray, List.set_cons_zero, List.set_cons_succ, List.getElem_toArray, List.getElem_cons_zero, List.getElem_cons_succ]
  refine wpAny2_take (i := 3) (oi := _) (v := ?_) rfl (by decide) (by kernel_rfl) (by kernel_rfl) (by kernel_rfl) (by kernel_rfl) (fun _ _ _ h => h) ((hS.setCell (a := ⟨w.heap.size, 0, none⟩) hno _).setCell (a := ⟨w.heap.size, 1, none⟩) hno _) (fun _ => trivial) (Or.inl ⟨by rfl, ?hy⟩) ?_
  case hy => intro w hSw; have z0 := hSw.cell g0; go_simp <;> with_reducible rfl
  try simp only [Act.put, List.setIfInBounds_toArray, List.set_cons_zero, List.set_cons_succ, List.getElem_toArray, List.getElem_cons_zero, List.getElem_cons_succ]
  refine wpAny2_take (i := 4) (oi := _) (v := ?_) rfl (by decide) (by kernel_rfl) (by kernel_rfl) (by kernel_rfl) (by kernel_rfl) (fun _ _ _ h => h) ((hS.setCell (a := ⟨w.heap.size, 0, none⟩) hno _).setCell (a := ⟨w.heap.size, 1, none⟩) hno _) (fun _ => trivial) (Or.inl ⟨by rfl, ?hy⟩) ?_
  case hy => intro w hSw; have z0 := hSw.cell g0; go_simp <;> with_reducible rfl
  try simp only [Act.put, List.setIfInBounds_toArray, List.set_cons_zero, List.set_cons_succ, List.getElem_toArray, List.getElem_cons_zero, List.getElem_cons_succ]
  refine wpAny2_done (by kernel_rfl) ?_ _
  have e0 := E5.out.1
  have e1 := E5.out.2
  go_wp2_with fail
  refine bodyPost_ret (v := .tuple #[.agg #[.int .i64 0, .int .i64 0], .bool false, esv (sp 2)]) (by simp [results, Tryz.results6, go_sem, e0, e1]) rfl ?_
  exact ⟨EE.out, below_put2 HBD.out (Nat.le_refl _) _ _⟩
 have h2b : (arN o != (l.length : Int)) = false := by simpa using h2
 rcases Bool.eq_false_or_eq_true (o.toList == [112, 114, 101]) with p1 | p1
 ·have q : o = oPre := lit_of p1
  have EQ := Lib.hid (E3.out (.inr (.inr (.inr (.inl q)))))
  clear E3 E5
  subst q
  go_wp2_with fail
  have EE := Lib.hid ((show .returned (.tuple #[.agg #[.int .i64 0, .int .i64 0], .bool false, esv (sp 2)]) = (.returned (.tuple #[vlV (aplM oPre l).1, .bool (aplM oPre l).2, errV sp (isApp oPre l)]) : Ending) from by rw [aplM_no (c := 2) EQ.out, EQ.out]; rfl))
  have HBE := Lib.hid (HB1.out)
  have hR := HR1.out
  have g0 : (noKn w.heap.size W1).cell 0 0 = some (esv (sp 2)) := by
   have hc := ((S.below HB1.out)).c2
   have hlt : 0 < w.heap.size := World.block_lt_of_cell? w ⟨0, 0, none⟩ S.c2
   rw [noKn_cell (by omega)]
   exact hc
  have hS := noKn_in w.heap.size W1
  have hno := noKn_self w.heap.size W1
  generalize noKn w.heap.size W1 = KK at *
  have hS : KK.In W1.drew := hS
  have hR : W1.drew.heap[w.heap.size]? = some (.cells #[.int .i64 0, .int .i64 0] 25 (0, 0)) := hR
  have E5 := Lib.hid (set2A hR (.int .i64 0) (.int .i64 0))
  obtain ⟨r0, r1, f0, f1, _⟩ := cell2_of hR
  have HBD := Lib.hid (HBE.out.drew)
  clear hR HBE
  go_wp2_with fail
  refine wp_region_2 (fun w' => KK.In w') (fun _ => True) 99 (by kernel_rfl) ?_
  generalize W1.drew = Wd at *
  refine wpAny2_take (i := 0) (oi := _) (v := ?_) rfl (by decide) (by kernel_rfl) (by kernel_rfl) (by kernel_rfl) (by kernel_rfl) (fun _ _ _ h => h) hS (fun _ => trivial) (Or.inl ⟨by rfl, ?hy⟩) ?_
  case hy => intro w hSw; have z0 := hSw.cell g0; go_simp <;> with_reducible rfl
  try simp only [Act.put, List.setIfInBounds_toArray, List.set_cons_zero, List.set_cons_succ, List.getElem_toArray, List.getElem_cons_zero, List.getElem_cons_succ]
  refine wpAny2_take (i := 1) (oi := _) (v := ?_) rfl (by decide) (by kernel_rfl) (by kernel_rfl) (by kernel_rfl) (by kernel_rfl) (fun _ _ _ h => h) hS (fun _ => trivial) (Or.inl ⟨by rfl, ?hy⟩) ?_
  case hy => intro w hSw; have z0 := hSw.cell g0; go_simp <;> with_reducible rfl
  try simp only [Act.put, List.setIfInBounds_toArray, List.set_cons_zero, List.set_cons_succ, List.getElem_toArray, List.getElem_cons_zero, List.getElem_cons_succ]
  refine wpAny2_one (i := 2) (o := _) (by kernel_rfl) rfl (fun K_ hK => ?_)
  go_simp
  refine hK.out _ _ (((hS.setCell (a := ⟨w.heap.size, 0, none⟩) hno _).setCell (a := ⟨w.heap.size, 1, none⟩) hno _)) (fun _ => trivial) ?_
  clear hK K_
  try simp only [Act.put, List.setIfInBounds_toArray, List.set_cons_zero, List.set_cons_succ, List.getElem_toArray, List.getElem_cons_zero, List.getElem_cons_succ]
  refine wpAny2_take (i := 3) (oi := _) (v := ?_) rfl (by decide) (by kernel_rfl) (by kernel_rfl) (by kernel_rfl) (by kernel_rfl) (fun _ _ _ h => h) ((hS.setCell (a := ⟨w.heap.size, 0, none⟩) hno _).setCell (a := ⟨w.heap.size, 1, none⟩) hno _) (fun _ => trivial) (Or.inl ⟨by rfl, ?hy⟩) ?_
  case hy => intro w hSw; have z0 := hSw.cell g0; go_simp <;> with_reducible rfl
  try simp only [Act.put, List.setIfInBounds_toArray, List.set_cons_zero, List.set_cons_succ, List.getElem_toArray, List.getElem_cons_zero, List.getElem_cons_succ]
  refine wpAny2_take (i := 4) (oi := _) (v := ?_) rfl (by decide) (by kernel_rfl) (by kernel_rfl) (by kernel_rfl) (by kernel_rfl) (fun _ _ _ h => h) ((hS.setCell (a := ⟨w.heap.size, 0, none⟩) hno _).setCell (a := ⟨w.heap.size, 1, none⟩) hno _) (fun _ => trivial) (Or.inl ⟨by rfl, ?hy⟩) ?_
  case hy => intro w hSw; have z0 := hSw.cell g0; go_simp <;> with_reducible rfl
  try simp only [Act.put, List.setIfInBounds_toArray, List.set_cons_zero, List.set_cons_succ, List.getElem_toArray, List.getElem_cons_zero, List.getElem_cons_succ]
  refine wpAny2_done (by kernel_rfl) ?_ _
  have e0 := E5.out.1
  have e1 := E5.out.2
  go_wp2_with fail
  refine bodyPost_ret (v := .tuple #[.agg #[.int .i64 0, .int .i64 0], .bool false, esv (sp 2)]) (by simp [results, Tryz.results6, go_sem, e0, e1]) rfl ?_
  exact ⟨EE.out, below_put2 HBD.out (Nat.le_refl _) _ _⟩
 rcases Bool.eq_false_or_eq_true (o.toList == [45, 62]) with p2 | p2
 ·have q : o = oArrow := lit_of p2
  have EQ := Lib.hid (E3.out (.inr (.inr (.inr (.inr (.inl q))))))
  clear E3 E5
  subst q
  go_wp2_with fail
  have EE := Lib.hid ((show .returned (.tuple #[.agg #[.int .i64 0, .int .i64 0], .bool false, esv (sp 2)]) = (.returned (.tuple #[vlV (aplM oArrow l).1, .bool (aplM oArrow l).2, errV sp (isApp oArrow l)]) : Ending) from by rw [aplM_no (c := 2) EQ.out, EQ.out]; rfl))
  have HBE := Lib.hid (HB1.out)
  have hR := HR1.out
  have g0 : (noKn w.heap.size W1).cell 0 0 = some (esv (sp 2)) := by
   have hc := ((S.below HB1.out)).c2
   have hlt : 0 < w.heap.size := World.block_lt_of_cell? w ⟨0, 0, none⟩ S.c2
   rw [noKn_cell (by omega)]
   exact hc
  have hS := noKn_in w.heap.size W1
  have hno := noKn_self w.heap.size W1
  generalize noKn w.heap.size W1 = KK at *
  have hS : KK.In W1.drew := hS
  have hR : W1.drew.heap[w.heap.size]? = some (.cells #[.int .i64 0, .int .i64 0] 25 (0, 0)) := hR
  have E5 := Lib.hid (set2A hR (.int .i64 0) (.int .i64 0))
  obtain ⟨r0, r1, f0, f1, _⟩ := cell2_of hR
  have HBD := Lib.hid (HBE.out.drew)
  clear hR HBE
  go_wp2_with fail
  refine wp_region_2 (fun w' => KK.In w') (fun _ => True) 99 (by kernel_rfl) ?_
  generalize W1.drew = Wd at *
  refine wpAny2_take (i := 0) (oi := _) (v := ?_) rfl (by decide) (by kernel_rfl) (by kernel_rfl) (by kernel_rfl) (by kernel_rfl) (fun _ _ _ h => h) hS (fun _ => trivial) (Or.inl ⟨by rfl, ?hy⟩) ?_
  case hy => intro w hSw; have z0 := hSw.cell g0; go_simp <;> with_reducible rfl
  try simp only [Act.put, List.setIfInBounds_toArray, List.set_cons_zero, List.set_cons_succ, List.getElem_toArray, List.getElem_cons_zero, List.getElem_cons_succ]
  refine wpAny2_take (i := 1) (oi := _) (v := ?_) rfl (by decide) (by kernel_rfl) (by kernel_rfl) (by kernel_rfl) (by kernel_rfl) (fun _ _ _ h => h) hS (fun _ => trivial) (Or.inl ⟨by rfl, ?hy⟩) ?_
  case hy => intro w hSw; have z0 := hSw.cell g0; go_simp <;> with_reducible rfl
  try simp only [Act.put, List.setIfInBounds_toArray, List.set_cons_zero, List.set_cons_succ, List.getElem_toArray, List.getElem_cons_zero, List.getElem_cons_succ]
  refine wpAny2_one (i := 2) (o := _) (by kernel_rfl) rfl (fun K_ hK => ?_)
  go_simp
  refine hK.out _ _ (((hS.setCell (a := ⟨w.heap.size, 0, none⟩) hno _).setCell (a := ⟨w.heap.size, 1, none⟩) hno _)) (fun _ => trivial) ?_
  clear hK K_
  try simp only [Act.put, List.setIfInBounds_toArray, List.set_cons_zero, List.set_cons_succ, List.getElem_toArray, List.getElem_cons_zero, List.getElem_cons_succ]
  refine wpAny2_take (i := 3) (oi := _) (v := ?_) rfl (by decide) (by kernel_rfl) (by kernel_rfl) (by kernel_rfl) (by kernel_rfl) (fun _ _ _ h => h) ((hS.setCell (a := ⟨w.heap.size, 0, none⟩) hno _).setCell (a := ⟨w.heap.size, 1, none⟩) hno _) (fun _ => trivial) (Or.inl ⟨by rfl, ?hy⟩) ?_
  case hy => intro w hSw; have z0 := hSw.cell g0; go_simp <;> with_reducible rfl
  try simp only [Act.put, List.setIfInBounds_toArray, List.set_cons_zero, List.set_cons_succ, List.getElem_toArray, List.getElem_cons_zero, List.getElem_cons_succ]
  refine wpAny2_take (i := 4) (oi := _) (v := ?_) rfl (by decide) (by kernel_rfl) (by kernel_rfl) (by kernel_rfl) (by kernel_rfl) (fun _ _ _ h => h) ((hS.setCell (a := ⟨w.heap.size, 0, none⟩) hno _).setCell (a := ⟨w.heap.size, 1, none⟩) hno _) (fun _ => trivial) (Or.inl ⟨by rfl, ?hy⟩) ?_
  case hy => intro w hSw; have z0 := hSw.cell g0; go_simp <;> with_reducible rfl
  try simp only [Act.put, List.setIfInBounds_toArray, List.set_cons_zero, List.set_cons_succ, List.getElem_toArray, List.getElem_cons_zero, List.getElem_cons_succ]
  refine wpAny2_done (by kernel_rfl) ?_ _
  have e0 := E5.out.1
  have e1 := E5.out.2
  go_wp2_with fail
  refine bodyPost_ret (v := .tuple #[.agg #[.int .i64 0, .int .i64 0], .bool false, esv (sp 2)]) (by simp [results, Tryz.results6, go_sem, e0, e1]) rfl ?_
  exact ⟨EE.out, below_put2 HBD.out (Nat.le_refl _) _ _⟩
 rcases Bool.eq_false_or_eq_true (o.toList == [102, 98, 121]) with p3 | p3
 ·have q : o = oFby := lit_of p3
  have EQ := Lib.hid (E3.out (.inr (.inr (.inr (.inr (.inr q))))))
  clear E3 E5
  subst q
  go_wp2_with fail
  have EE := Lib.hid ((show .returned (.tuple #[.agg #[.int .i64 0, .int .i64 0], .bool false, esv (sp 2)]) = (.returned (.tuple #[vlV (aplM oFby l).1, .bool (aplM oFby l).2, errV sp (isApp oFby l)]) : Ending) from by rw [aplM_no (c := 2) EQ.out, EQ.out]; rfl))
  have HBE := Lib.hid (HB1.out)
  have hR := HR1.out
  have g0 : (noKn w.heap.size W1).cell 0 0 = some (esv (sp 2)) := by
   have hc := ((S.below HB1.out)).c2
   have hlt : 0 < w.heap.size := World.block_lt_of_cell? w ⟨0, 0, none⟩ S.c2
   rw [noKn_cell (by omega)]
   exact hc
  have hS := noKn_in w.heap.size W1
  have hno := noKn_self w.heap.size W1
  generalize noKn w.heap.size W1 = KK at *
  have hS : KK.In W1.drew := hS
  have hR : W1.drew.heap[w.heap.size]? = some (.cells #[.int .i64 0, .int .i64 0] 25 (0, 0)) := hR
  have E5 := Lib.hid (set2A hR (.int .i64 0) (.int .i64 0))
  obtain ⟨r0, r1, f0, f1, _⟩ := cell2_of hR
  have HBD := Lib.hid (HBE.out.drew)
  clear hR HBE
  go_wp2_with fail
  refine wp_region_2 (fun w' => KK.In w') (fun _ => True) 99 (by kernel_rfl) ?_
  generalize W1.drew = Wd at *
  refine wpAny2_take (i := 0) (oi := _) (v := ?_) rfl (by decide) (by kernel_rfl) (by kernel_rfl) (by kernel_rfl) (by kernel_rfl) (fun _ _ _ h => h) hS (fun _ => trivial) (Or.inl ⟨by rfl, ?hy⟩) ?_
  case hy => intro w hSw; have z0 := hSw.cell g0; go_simp <;> with_reducible rfl
  try simp only [Act.put, List.setIfInBounds_toArray, List.set_cons_zero, List.set_cons_succ, List.getElem_toArray, List.getElem_cons_zero, List.getElem_cons_succ]
  refine wpAny2_take (i := 1) (oi := _) (v := ?_) rfl (by decide) (by kernel_rfl) (by kernel_rfl) (by kernel_rfl) (by kernel_rfl) (fun _ _ _ h => h) hS (fun _ => trivial) (Or.inl ⟨by rfl, ?hy⟩) ?_
  case hy => intro w hSw; have z0 := hSw.cell g0; go_simp <;> with_reducible rfl
  try simp only [Act.put, List.setIfInBounds_toArray, List.set_cons_zero, List.set_cons_succ, List.getElem_toArray, List.getElem_cons_zero, List.getElem_cons_succ]
  refine wpAny2_one (i := 2) (o := _) (by kernel_rfl) rfl (fun K_ hK => ?_)
  go_simp
  refine hK.out _ _ (((hS.setCell (a := ⟨w.heap.size, 0, none⟩) hno _).setCell (a := ⟨w.heap.size, 1, none⟩) hno _)) (fun _ => trivial) ?_
  clear hK K_
  try simp only [Act.put, List.setIfInBounds_toArray, List.set_cons_zero, List.set_cons_succ, List.getElem_toArray, List.getElem_cons_zero, List.getElem_cons_succ]
  refine wpAny2_take (i := 3) (oi := _) (v := ?_) rfl (by decide) (by kernel_rfl) (by kernel_rfl) (by kernel_rfl) (by kernel_rfl) (fun _ _ _ h => h) ((hS.setCell (a := ⟨w.heap.size, 0, none⟩) hno _).setCell (a := ⟨w.heap.size, 1, none⟩) hno _) (fun _ => trivial) (Or.inl ⟨by rfl, ?hy⟩) ?_
  case hy => intro w hSw; have z0 := hSw.cell g0; go_simp <;> with_reducible rfl
  try simp only [Act.put, List.setIfInBounds_toArray, List.set_cons_zero, List.set_cons_succ, List.getElem_toArray, List.getElem_cons_zero, List.getElem_cons_succ]
  refine wpAny2_take (i := 4) (oi := _) (v := ?_) rfl (by decide) (by kernel_rfl) (by kernel_rfl) (by kernel_rfl) (by kernel_rfl) (fun _ _ _ h => h) ((hS.setCell (a := ⟨w.heap.size, 0, none⟩) hno _).setCell (a := ⟨w.heap.size, 1, none⟩) hno _) (fun _ => trivial) (Or.inl ⟨by rfl, ?hy⟩) ?_
  case hy => intro w hSw; have z0 := hSw.cell g0; go_simp <;> with_reducible rfl
  try simp only [Act.put, List.setIfInBounds_toArray, List.set_cons_zero, List.set_cons_succ, List.getElem_toArray, List.getElem_cons_zero, List.getElem_cons_succ]
  refine wpAny2_done (by kernel_rfl) ?_ _
  have e0 := E5.out.1
  have e1 := E5.out.2
  go_wp2_with fail
  refine bodyPost_ret (v := .tuple #[.agg #[.int .i64 0, .int .i64 0], .bool false, esv (sp 2)]) (by simp [results, Tryz.results6, go_sem, e0, e1]) rfl ?_
  exact ⟨EE.out, below_put2 HBD.out (Nat.le_refl _) _ _⟩
 have q1 : o ≠ oPre := fun e => by rw [e] at p1; exact Bool.noConfusion ((show (oPre.toList == [112, 114, 101]) = true from by kernel_rfl).symm.trans p1)
 have q2 : o ≠ oArrow := fun e => by rw [e] at p2; exact Bool.noConfusion ((show (oArrow.toList == [45, 62]) = true from by kernel_rfl).symm.trans p2)
 have q3 : o ≠ oFby := fun e => by rw [e] at p3; exact Bool.noConfusion ((show (oFby.toList == [102, 98, 121]) = true from by kernel_rfl).symm.trans p3)
 have E5 := Lib.hid (E5.out hB (by omega) h2 q1 q2 q3)
 have hlpos : 1 ≤ l.length := by omega
 have har := Lib.hid (show arity o = some (l.length : Int) from by
  unfold arB at hB
  unfold arN at h2
  cases e : arity o with
  | none => rw [e] at hB; cases hB
  | some k => rw [e] at h2; simpa using h2)
 have hz1 := HZ1.out
 go_wp2_with fail
 have hW2 : Below w.heap.size w ((W1.alloc (.cells #[.string o, .int .i64 0, .string ⟨#[]⟩, .slice none 0 0] 69)).alloc (.map #[] 0)) := (HB1.out.alloc HB1.out.size _).alloc (by simp; omega) _
 have hR2 : ((W1.alloc (.cells #[.string o, .int .i64 0, .string ⟨#[]⟩, .slice none 0 0] 69)).alloc (.map #[] 0)).heap[w.heap.size]? = some (.cells #[.int .i64 0, .int .i64 0] 25 (0, 0)) := by
  rw [Below.heap_alloc _ _ _ (by simp; omega), Below.heap_alloc _ _ _ (by omega)]; exact HR1.out
 have hX2 : ((W1.alloc (.cells #[.string o, .int .i64 0, .string ⟨#[]⟩, .slice none 0 0] 69)).alloc (.map #[] 0)).heap[w.heap.size + 1]? = some (.cells #[.string o, .int .i64 0, .string ⟨#[]⟩, .slice none 0 0] 69 (0, 0)) := by
  rw [Below.heap_alloc _ _ _ (by simp; omega), ← hz1]; exact heap_alloc_new _ _
 have hM2 := MapAt.made (Value.int .i64) (W1.alloc (.cells #[.string o, .int .i64 0, .string ⟨#[]⟩, .slice none 0 0] 69))
 rw [show (W1.alloc (.cells #[.string o, .int .i64 0, .string ⟨#[]⟩, .slice none 0 0] 69)).heap.size = w.heap.size + 1 + 1 from by simp; omega] at hM2
 generalize (W1.alloc (.cells #[.string o, .int .i64 0, .string ⟨#[]⟩, .slice none 0 0] 69)).alloc (.map #[] 0) = W2 at *
 have HF0 := Lib.hid (show FaI w W2 w.heap.size o l 0 0 (.slice none 0 0) from ⟨hW2, hR2, hX2, hM2, World.ownsRow_nil _ _ _ _, fun j _ h => by omega⟩)
 clear hW2 hR2 hX2 hM2 hz1 HZ1 HB1 HR1
 go_loopw [50] (fun i wr => ∃ (k : Nat) (u : Value), i = .int .i64 k ∧ k ≤ l.length ∧ FaI w wr w.heap.size o l k k u) (fun i _ => l.length - (intOf i).toNat)
 case atStart => exact ⟨0, _, rfl, Nat.zero_le _, HF0.out⟩
 case round =>
  clear HF0
  obtain ⟨k, u, rfl, hk, hF⟩ := hrel
  have HF := Lib.hid hF
  clear hF
  by_cases hkl : k < l.length
  ·obtain ⟨b, off, e1, x0, x1⟩ := vl_at2 HV.out hkl
   subst e1
   have x0 := (hH.below HF.out.below).cell x0
   have x1 := (hH.below HF.out.below).cell x1
   have HNO := Lib.hid (show rightV ⟨l[k].kind, l[k].n⟩ l[k].kind = false → (l.all fun v => rightV v v.kind) = false from fun h => by
    rw [List.all_eq_false]
    exact ⟨l[k], List.getElem_mem hkl, by rw [show rightV l[k] l[k].kind = false from h]; decide⟩)
   have HYES := Lib.hid (show rightV ⟨l[k].kind, l[k].n⟩ l[k].kind = true → ∀ j (hj : j < l.length), j < k + 1 → rightV l[j] l[j].kind = true from fun h j hj hjk => by
    by_cases hjk' : j < k
    ·exact HF.out.right j hj hjk'
    ·obtain rfl : j = k := by omega
     exact h)
   have HKS := Lib.hid (show (l.getD k vz).kind = l[k].kind from by rw [List.getD_eq_getElem?_getD, List.getElem?_eq_getElem hkl]; rfl)
   have hkI : (k : Int) < l.length := by omega
   generalize l[k].kind = xk at *
   generalize l[k].n = xn at *
   go_wp2_with fail
   refine (right_any ⟨xk, xn⟩ xk _).mono ?_
   rintro r w5 ⟨rfl, hb5⟩
   have hF5 := (HF.out.later ((Below.refl _ _).alloc (Nat.le_refl _) (.cells #[.int .i64 xk, .int .i64 xn] 25))).later hb5
   have c12 := (hb5.block wr.heap.size (by simp)).trans (heap_alloc_new wr (.cells #[.int .i64 xk, .int .i64 xn] 25))
   have HF5 := Lib.hid hF5
   clear hF5 hb5
   cases hr : rightV ⟨xk, xn⟩ xk with
   | false =>
    have EQ := Lib.hid (show isApp o l = 5 from by rw [E5.out, if_pos (HNO.out hr)])
    clear E3 E5
    go_wp2_with fail
    have EE := Lib.hid ((show .returned (.tuple #[.agg #[.int .i64 0, .int .i64 0], .bool false, esv (sp 4)]) = (.returned (.tuple #[vlV (aplM o l).1, .bool (aplM o l).2, errV sp (isApp o l)]) : Ending) from by rw [aplM_no (c := 4) EQ.out, EQ.out]; rfl))
    have HBE := Lib.hid (HF5.out.below)
    have hR := HF5.out.res
    have g0 : (noKn w.heap.size w5).cell 1 0 = some (esv (sp 4)) := by
     have hc := ((S.below HF5.out.below)).c4
     have hlt : 1 < w.heap.size := World.block_lt_of_cell? w ⟨1, 0, none⟩ S.c4
     rw [noKn_cell (by omega)]
     exact hc
    have hS := noKn_in w.heap.size w5
    have hno := noKn_self w.heap.size w5
    generalize noKn w.heap.size w5 = KK at *
    have hS : KK.In w5.drew := hS
    have hR : w5.drew.heap[w.heap.size]? = some (.cells #[.int .i64 0, .int .i64 0] 25 (0, 0)) := hR
    have E5 := Lib.hid (set2A hR (.int .i64 0) (.int .i64 0))
    obtain ⟨r0, r1, f0, f1, _⟩ := cell2_of hR
    have HBD := Lib.hid (HBE.out.drew)
    clear hR HBE
    go_wp2_with fail
    refine wp_region_2 (fun w' => KK.In w') (fun _ => True) 99 (by kernel_rfl) ?_
    generalize w5.drew = Wd at *
    refine wpAny2_take (i := 0) (oi := _) (v := ?_) rfl (by decide) (by kernel_rfl) (by kernel_rfl) (by kernel_rfl) (by kernel_rfl) (fun _ _ _ h => h) hS (fun _ => trivial) (Or.inl ⟨by rfl, ?hy⟩) ?_
    case hy => intro w hSw; have z0 := hSw.cell g0; go_simp <;> with_reducible rfl
    try simp only [Act.put, List.setIfInBounds_toArray, List.set_cons_zero, List.set_cons_succ, List.getElem_toArray, List.getElem_cons_zero, List.getElem_cons_succ]
    refine wpAny2_take (i := 1) (oi := _) (v := ?_) rfl (by decide) (by kernel_rfl) (by kernel_rfl) (by kernel_rfl) (by kernel_rfl) (fun _ _ _ h => h) hS (fun _ => trivial) (Or.inl ⟨by rfl, ?hy⟩) ?_
    case hy => intro w hSw; have z0 := hSw.cell g0; go_simp <;> with_reducible rfl
    try simp only [Act.put, List.setIfInBounds_toArray, List.set_cons_zero, List.set_cons_succ, List.getElem_toArray, List.getElem_cons_zero, List.getElem_cons_succ]
    refine wpAny2_one (i := 2) (o := _) (by kernel_rfl) rfl (fun K_ hK => ?_)
    go_simp
    refine hK.out _ _ (((hS.setCell (a := ⟨w.heap.size, 0, none⟩) hno _).setCell (a := ⟨w.heap.size, 1, none⟩) hno _)) (fun _ => trivial) ?_
    clear hK K_
    try simp only [Act.put, List.setIfInBounds_toArray, List.set_cons_zero, List.set_cons_succ, List.getElem_toArray, List.getElem_cons_zero, List.getElem_cons_succ]
    refine wpAny2_take (i := 3) (oi := _) (v := ?_) rfl (by decide) (by kernel_rfl) (by kernel_rfl) (by kernel_rfl) (by kernel_rfl) (fun _ _ _ h => h) ((hS.setCell (a := ⟨w.heap.size, 0, none⟩) hno _).setCell (a := ⟨w.heap.size, 1, none⟩) hno _) (fun _ => trivial) (Or.inl ⟨by rfl, ?hy⟩) ?_
    case hy => intro w hSw; have z0 := hSw.cell g0; go_simp <;> with_reducible rfl
    try simp only [Act.put, List.setIfInBounds_toArray, List.set_cons_zero, List.set_cons_succ, List.getElem_toArray, List.getElem_cons_zero, List.getElem_cons_succ]
    refine wpAny2_take (i := 4) (oi := _) (v := ?_) rfl (by decide) (by kernel_rfl) (by kernel_rfl) (by kernel_rfl) (by kernel_rfl) (fun _ _ _ h => h) ((hS.setCell (a := ⟨w.heap.size, 0, none⟩) hno _).setCell (a := ⟨w.heap.size, 1, none⟩) hno _) (fun _ => trivial) (Or.inl ⟨by rfl, ?hy⟩) ?_
    case hy => intro w hSw; have z0 := hSw.cell g0; go_simp <;> with_reducible rfl
    try simp only [Act.put, List.setIfInBounds_toArray, List.set_cons_zero, List.set_cons_succ, List.getElem_toArray, List.getElem_cons_zero, List.getElem_cons_succ]
    refine wpAny2_done (by kernel_rfl) ?_ _
    have e0 := E5.out.1
    have e1 := E5.out.2
    go_wp2_with fail
    refine bodyPost_ret (v := .tuple #[.agg #[.int .i64 0, .int .i64 0], .bool false, esv (sp 4)]) (by simp [results, Tryz.results6, go_sem, e0, e1]) rfl ?_
    exact ⟨EE.out, below_put2 HBD.out (Nat.le_refl _) _ _⟩
   | true =>
    obtain ⟨d0, d1, _, _, _⟩ := cell2_of c12
    have hw6 := heap_alloc_new w5 (.cells #[.int .u8 (97 + (k : Int))] 5)
    have kc := run_convert_bytes_back (P := Tryz.prog) (w5.alloc (.cells #[.int .u8 (97 + (k : Int))] 5)) 72 9 5 ⟨w5.heap.size, 0, none⟩ 1 [UInt8.ofNat (97 + k)] Tryz.underlying72 Tryz.underlying5 Tryz.underlying9 (fun j hj => by
     obtain rfl : j = 0 := by simpa using hj
     have h1 : ((UInt8.ofNat (97 + k)).toNat : Int) = 97 + (k : Int) := by simp; omega
     simp only [List.getElem_cons_zero, h1]
     show World.cell? _ ⟨w5.heap.size, 0, none⟩ = _
     unfold World.cell?
     rw [hw6]
     rfl)
    have kc : Sem.run Tryz.prog (convert 72 9 (.slice (some ⟨w5.heap.size, 0, none⟩) 1 1)) (w5.alloc (.cells #[.int .u8 (97 + (k : Int))] 5)) = .ok (.string (nmI k)) (w5.alloc (.cells #[.int .u8 (97 + (k : Int))] 5)) := kc
    have hF6 := HF5.out.later ((Below.refl _ _).alloc (Nat.le_refl _) (.cells #[.int .u8 (97 + (k : Int))] 5))
    have c6 := (Below.heap_alloc w5 (.cells #[.int .u8 (97 + (k : Int))] 5) _ (Array.getElem?_eq_some_iff.1 c12).1).trans c12
    have HF6 := Lib.hid hF6
    obtain ⟨d2, d3, _, _, _⟩ := cell2_of c6
    have hn12 : wr.heap.size ≠ w.heap.size + 1 + 1 := by have := HF.out.size; omega
    clear hw6 hF6 HF5 c12
    go_wp2_with (first | (at_mapUpdate; refine wp_store (Value.int .i64) 70 9 3 Tryz.underlying70 Tryz.underlying9 (w.heap.size + 1 + 1) _ HF6.out.map _ _ _ rfl rfl rfl (nmI k) rfl xk rfl ?_; intro w7 hM7 hT7; rw [← HKS.out] at hM7; have hF7 := HF6.out.turn hT7 hM7; obtain ⟨b0, b1, b2, b3, _, _, _, fb3, _⟩ := cells4_of hF7.box; have HF8 := Lib.hid (hF7.later ((Below.refl _ _).alloc (Nat.le_refl _) (.cells #[.string oName, .int .i64 0, .string (nmI k), .slice none 0 0] 69))); have b3' := (cells4_of HF8.out.box).2.2.2.1; have hs8 := hF7.size; clear hF7 hM7 hT7 kc HF6 c6 d0 d1 d2 d3 hn12) | (at_builtin; refine app1L 50 69 4 64 _ Tryz.underlying50 Tryz.infoEx rfl (by decide) _ _ rfl rfl (w.heap.size + 1 + 1 + 1) _ _ _ rfl HF8.out.row ⟨w7.heap.size, 0, none⟩ 1 [.string oName, .int .i64 0, .string (nmI k), .slice none 0 0] rfl rfl ?c1 ?c2 ?c3 ?c4 ?c5 ?_))
    case c1 => exact cells4 _ _ _ _ _ _
    case c2 => simp [Value.oneCell']
    case c3 => omega
    case c4 => omega
    case c5 => simp; omega
    intro g cap' w9 ho hg9 hat
    obtain ⟨g3, gf, hF9⟩ := HF8.out.app ho hg9 (HYES.out hr)
    have HF9 := Lib.hid hF9
    clear hF9 ho hg9 hat HF8 b0 b1 b2 b3 fb3 b3'
    go_wp2_with fail
    go_roundw
    case rel => exact ⟨k + 1, _, by go_num, by omega, HF9.out⟩
    case measure => simp [intOf]; omega
  ·obtain rfl : k = l.length := by omega
   have hall : (l.all fun v => rightV v v.kind) = true := List.all_eq_true.2 fun v hv => by
    obtain ⟨j, hj, rfl⟩ := List.mem_iff_getElem.1 hv
    exact HF.out.right j hj hj
   have hE := E5.out
   rw [if_neg (by rw [hall]; decide)] at hE
   have HE := Lib.hid hE
   have HKN := Lib.hid (exO_kinds o l hl hall)
   obtain ⟨au, cu, rfl, _⟩ := own_len HF.out.row
   obtain ⟨K', _, hK', hx', _⟩ := exsV_of_own (K := fun _ => none) (l := (List.range l.length).map fun i => .mk oName 0 (nmI i) []) (fun b o e => by cases e) (by rw [List.length_map, List.length_range]; exact HF.out.row) (xsK_at _ _) (fun _ _ => rfl)
   have hev : ExV K' (exO o l.length) (.agg #[.string o, .int .i64 0, .string ⟨#[]⟩, .slice au l.length cu]) := ⟨_, rfl, hx'⟩
   obtain ⟨b0, b1, b2, b3, _⟩ := cells4_of HF.out.box
   have HEV := Lib.hid hev
   have HK' := Lib.hid hK'
   clear hE hall hx' hev hK' E5 E3
   go_wp2_with fail
   refine (kind_any (exO o l.length) (exO_ok o _ (fun h => by
    have h2 := har.out
    rw [h] at h2
    have h3 : (3 : Int) = l.length := by injection h2
    omega)) (by have := exO_parts o l.length; omega) K' _ HEV.out (ksK l l.length) _ wr HK'.out HF.out.map).mono ?_
   rintro r w5 ⟨rfl, hb5⟩
   rw [HKN.out]
   have HF5 := Lib.hid (HF.out.later hb5)
   clear hb5 HF b0 b1 b2 b3 HEV HK' HKN
   by_cases h0 : kindBy o 0 (l.map (·.kind)) = 0
   ·have EQ := Lib.hid (HE.out.trans (if_pos h0))
    rw [h0]
    clear HE
    go_wp2_with fail
    have EE := Lib.hid ((show .returned (.tuple #[.agg #[.int .i64 0, .int .i64 0], .bool false, esv (sp 4)]) = (.returned (.tuple #[vlV (aplM o l).1, .bool (aplM o l).2, errV sp (isApp o l)]) : Ending) from by rw [aplM_no (c := 4) EQ.out, EQ.out]; rfl))
    have HBE := Lib.hid (HF5.out.below)
    have hR := HF5.out.res
    have g0 : (noKn w.heap.size w5).cell 1 0 = some (esv (sp 4)) := by
     have hc := ((S.below HF5.out.below)).c4
     have hlt : 1 < w.heap.size := World.block_lt_of_cell? w ⟨1, 0, none⟩ S.c4
     rw [noKn_cell (by omega)]
     exact hc
    have hS := noKn_in w.heap.size w5
    have hno := noKn_self w.heap.size w5
    generalize noKn w.heap.size w5 = KK at *
    have hS : KK.In w5.drew := hS
    have hR : w5.drew.heap[w.heap.size]? = some (.cells #[.int .i64 0, .int .i64 0] 25 (0, 0)) := hR
    have E5 := Lib.hid (set2A hR (.int .i64 0) (.int .i64 0))
    obtain ⟨r0, r1, f0, f1, _⟩ := cell2_of hR
    have HBD := Lib.hid (HBE.out.drew)
    clear hR HBE
    go_wp2_with fail
    refine wp_region_2 (fun w' => KK.In w') (fun _ => True) 99 (by kernel_rfl) ?_
    generalize w5.drew = Wd at *
    refine wpAny2_take (i := 0) (oi := _) (v := ?_) rfl (by decide) (by kernel_rfl) (by kernel_rfl) (by kernel_rfl) (by kernel_rfl) (fun _ _ _ h => h) hS (fun _ => trivial) (Or.inl ⟨by rfl, ?hy⟩) ?_
    case hy => intro w hSw; have z0 := hSw.cell g0; go_simp <;> with_reducible rfl
    try simp only [Act.put, List.setIfInBounds_toArray, List.set_cons_zero, List.set_cons_succ, List.getElem_toArray, List.getElem_cons_zero, List.getElem_cons_succ]
    refine wpAny2_take (i := 1) (oi := _) (v := ?_) rfl (by decide) (by kernel_rfl) (by kernel_rfl) (by kernel_rfl) (by kernel_rfl) (fun _ _ _ h => h) hS (fun _ => trivial) (Or.inl ⟨by rfl, ?hy⟩) ?_
    case hy => intro w hSw; have z0 := hSw.cell g0; go_simp <;> with_reducible rfl
    try simp only [Act.put, List.setIfInBounds_toArray, List.set_cons_zero, List.set_cons_succ, List.getElem_toArray, List.getElem_cons_zero, List.getElem_cons_succ]
    refine wpAny2_one (i := 2) (o := _) (by kernel_rfl) rfl (fun K_ hK => ?_)
    go_simp
    refine hK.out _ _ (((hS.setCell (a := ⟨w.heap.size, 0, none⟩) hno _).setCell (a := ⟨w.heap.size, 1, none⟩) hno _)) (fun _ => trivial) ?_
    clear hK K_
    try simp only [Act.put, List.setIfInBounds_toArray, List.set_cons_zero, List.set_cons_succ, List.getElem_toArray, List.getElem_cons_zero, List.getElem_cons_succ]
    refine wpAny2_take (i := 3) (oi := _) (v := ?_) rfl (by decide) (by kernel_rfl) (by kernel_rfl) (by kernel_rfl) (by kernel_rfl) (fun _ _ _ h => h) ((hS.setCell (a := ⟨w.heap.size, 0, none⟩) hno _).setCell (a := ⟨w.heap.size, 1, none⟩) hno _) (fun _ => trivial) (Or.inl ⟨by rfl, ?hy⟩) ?_
    case hy => intro w hSw; have z0 := hSw.cell g0; go_simp <;> with_reducible rfl
    try simp only [Act.put, List.setIfInBounds_toArray, List.set_cons_zero, List.set_cons_succ, List.getElem_toArray, List.getElem_cons_zero, List.getElem_cons_succ]
    refine wpAny2_take (i := 4) (oi := _) (v := ?_) rfl (by decide) (by kernel_rfl) (by kernel_rfl) (by kernel_rfl) (by kernel_rfl) (fun _ _ _ h => h) ((hS.setCell (a := ⟨w.heap.size, 0, none⟩) hno _).setCell (a := ⟨w.heap.size, 1, none⟩) hno _) (fun _ => trivial) (Or.inl ⟨by rfl, ?hy⟩) ?_
    case hy => intro w hSw; have z0 := hSw.cell g0; go_simp <;> with_reducible rfl
    try simp only [Act.put, List.setIfInBounds_toArray, List.set_cons_zero, List.set_cons_succ, List.getElem_toArray, List.getElem_cons_zero, List.getElem_cons_succ]
    refine wpAny2_done (by kernel_rfl) ?_ _
    have e0 := E5.out.1
    have e1 := E5.out.2
    go_wp2_with fail
    refine bodyPost_ret (v := .tuple #[.agg #[.int .i64 0, .int .i64 0], .bool false, esv (sp 4)]) (by simp [results, Tryz.results6, go_sem, e0, e1]) rfl ?_
    exact ⟨EE.out, below_put2 HBD.out (Nat.le_refl _) _ _⟩
   ·have EQ := Lib.hid (HE.out.trans (if_neg h0))
    have hne : (kindBy o 0 (l.map (·.kind)) == 0) = false := by simpa using h0
    generalize kindBy o 0 (l.map (·.kind)) = kb at *
    clear HE
    go_wp2_with fail
    refine (apply_any o l har.out hlpos q1 q2 q3 H _ HV.out w5 (hH.below HF5.out.below)).mono ?_
    rintro r w6 ⟨rfl, hb6⟩
    have HF6 := Lib.hid (HF5.out.later hb6)
    have HAP := Lib.hid (aplM_yes EQ.out)
    clear hb6 HF5
    obtain ⟨X, hX⟩ : ∃ X, X = appM o l := ⟨_, rfl⟩
    have hAP := HAP.out
    rw [← hX] at hAP ⊢
    clear hX HAP
    have HAP := Lib.hid hAP
    clear hAP
    obtain ⟨⟨rk, rn⟩, rt⟩ := X
    obtain ⟨r0, r1, f0, f1, _⟩ := cell2_of HF6.out.res
    have hp := put2w HF6.out.res (.int .i64 rk) (.int .i64 rn)
    have hp2 := put2w hp (.int .i64 rk) (.int .i64 rn)
    obtain ⟨s0, s1, sf0, sf1, _⟩ := cell2_of hp
    have HP2 := Lib.hid hp2
    have HBZ := Lib.hid HF6.out.below
    have nf := frozen_put HF6.out.res (.int .i64 rk)
    have nf2 := frozen_put hp (.int .i64 rk)
    dsimp only [vlV]
    clear HF6 hp hp2
    go_wp2_with fail
    obtain ⟨e0, e1, _⟩ := cell2_of HP2.out
    refine bodyPost_ret (v := .tuple #[.agg #[.int .i64 rk, .int .i64 rn], .bool rt, .nilIface]) (by simp [results, Tryz.results6, go_sem, e0, e1]) rfl ?_
    exact ⟨by rw [HAP.out, EQ.out]; rfl, below_put2 (below_put2 HBZ.out (Nat.le_refl _) _ _) (Nat.le_refl _) _ _⟩
end Go.Proofs.YtnaijgmfjpmpjaaGreatDoor
namespace Go.Proofs.YtnaijgmfjpmpjaaGreatDoor
set_option maxRecDepth 100000
set_option maxHeartbeats 16000000
open Go.RowKit Mx
theorem errT_later {w w' : World} (h : ErrTypeLaid w) (hb : Below w.heap.size w w') : ErrTypeLaid w' := by
 unfold ErrTypeLaid at h ⊢
 exact (hb.cell (World.block_lt_of_cell? w _ h)).trans h
theorem flowApplies_any (H : Kn) (T : LevelsAt H) (sp : Nat → Addr) (o : ByteArray) (l : List Vl) (v : Value) (hv : VlsV H l v) (hz : l.length ≤ 1048576) (w : World) (hH : H.In w) (S : Sents w sp) (hET : ErrTypeLaid w) :
  Calls Tryz.prog 3 #[.string o, v] w fun r w' => r = .returned (.bool true) ∧ Below w.heap.size w w' := by
 obtain ⟨a, c, rfl⟩ := hv.len
 have HV := Lib.hid hv
 have HT := Lib.hid hET
 clear hv hET
 go_enter Tryz.func3, Tryz.ntmps3
 go_wp2_with fail
 refine (once_any H T sp w hH S.five).mono ?_
 rintro r w1 ⟨rfl, hb1⟩
 have HB1 := Lib.hid hb1
 clear hb1
 by_cases hl : 10 < l.length
 ·have hl2 : (10 : Int) < l.length := by omega
  go_wp2_with fail
  go_ret
  exact ⟨rfl, HB1.out⟩
 have hl2 : ¬ (10 : Int) < l.length := by omega
 go_wp2_with fail
 refine (values_any H l _ HV.out (by omega) w1 (hH.below HB1.out)).mono ?_
 rintro r w2 ⟨v2, rfl, hv2, hb2⟩
 have HB2 := Lib.hid (HB1.out.trans (hb2.mono HB1.out.size))
 have HV2 := Lib.hid (SlV.le hv2 (newKn_le _ w2) VlC.mono)
 clear hv2 hb2
 go_wp2_with fail
 refine (applyX_any (allKn w2) (T.le (kn_le_all (hH.below HB2.out))) sp o l _ HV2.out (by omega) w2 (allKn_in w2) (S.five.below HB2.out)).mono ?_
 rintro r w3 ⟨rfl, hb3⟩
 have HB3 := Lib.hid (HB2.out.trans (hb3.mono HB2.out.size))
 obtain ⟨X, hX⟩ : ∃ X, X = aplM o l := ⟨_, rfl⟩
 obtain ⟨ev, hev⟩ : ∃ ev, ev = errV sp (isApp o l) := ⟨_, rfl⟩
 rw [← hX, ← hev]
 obtain ⟨⟨rk, rn⟩, rt⟩ := X
 have HX := Lib.hid hX
 have HEV := Lib.hid hev
 dsimp only [vlV]
 clear hX hev hb3 HB1 HB2 HV2
 go_wp2_with fail
 have hb4 : Below w.heap.size w (w3.alloc (.cells #[.int .i64 rk, .int .i64 rn] 25)) := HB3.out.alloc HB3.out.size _
 have hc4 := heap_alloc_new w3 (.cells #[.int .i64 rk, .int .i64 rn] 25)
 have HB4 := Lib.hid hb4
 have HC4 := Lib.hid hc4
 clear hb4 hc4
 generalize w3.alloc (.cells #[.int .i64 rk, .int .i64 rn] 25) = w4 at *
 generalize w3.heap.size = R4 at *
 refine (isApply_any H o l _ HV.out (by omega) w4 (hH.below HB4.out)).mono ?_
 rintro r w5 ⟨rfl, hb5⟩
 have HB5 := Lib.hid (HB4.out.trans (hb5.mono HB4.out.size))
 have HC5 := Lib.hid ((hb5.block _ (Array.getElem?_eq_some_iff.1 HC4.out).1).trans HC4.out)
 clear hb5 HB4 HC4 HB3
 by_cases h0 : isApp o l = 0
 ·have hap := HX.out.trans (aplM_yes h0)
  have HAP := Lib.hid hap
  obtain rfl : ev = .nilIface := HEV.out.trans (by rw [h0]; rfl)
  rw [h0]
  clear hap HX HEV
  go_wp2_with fail
  refine (rapply_any H o l h0 _ HV.out w5 (hH.below HB5.out)).mono ?_
  rintro r w6 ⟨rfl, hb6⟩
  rw [← HAP.out]
  have HTR := Lib.hid (appM_trap o l)
  have HTR := Lib.hid (show rt = true → (⟨rk, rn⟩ : Vl) = vz from by have h := HTR.out; rw [← HAP.out] at h; exact h)
  have hb7 : Below w.heap.size w (w6.alloc (.cells #[.int .i64 rk, .int .i64 rn] 25)) := (HB5.out.trans (hb6.mono HB5.out.size)).alloc (Nat.le_trans HB5.out.size hb6.size) _
  have hc7 := heap_alloc_new w6 (.cells #[.int .i64 rk, .int .i64 rn] 25)
  have hc6 := (Below.heap_alloc w6 (.cells #[.int .i64 rk, .int .i64 rn] 25) _ (Nat.lt_of_lt_of_le (Array.getElem?_eq_some_iff.1 HC5.out).1 hb6.size)).trans ((hb6.block _ (Array.getElem?_eq_some_iff.1 HC5.out).1).trans HC5.out)
  obtain ⟨p0, p1, _⟩ := cell2_of hc6
  obtain ⟨q0, q1, _⟩ := cell2_of hc7
  have HB7 := Lib.hid hb7
  clear hb7 hc7 hc6 hb6 HC5 HAP
  dsimp only [vlV]
  cases rt
  ·go_wp2_with fail
   go_ret
   first | exact ⟨rfl, HB7.out⟩ | exact ⟨ret_bool (by simp), HB7.out⟩
  ·have e := HTR.out rfl
   cases e
   go_wp2_with fail
   go_ret
   first | exact ⟨rfl, HB7.out⟩ | exact ⟨ret_bool (by simp), HB7.out⟩
 ·obtain ⟨m, hm⟩ : ∃ m, isApp o l = m + 1 := ⟨isApp o l - 1, by omega⟩
  have hap := HX.out.trans (aplM_no hm)
  simp only [Prod.mk.injEq] at hap
  obtain ⟨hap, rfl⟩ := hap
  cases hap
  have hpos : (0 : Int) < ((isApp o l : Nat) : Int) := by omega
  have hle := isApp_le o l
  have HEV := Lib.hid (show ErrW sp w5 (isApp o l) (-1) ev from .inl ⟨rfl, HEV.out⟩)
  obtain ⟨p0, p1, _⟩ := cell2_of HC5.out
  clear HX h0 hm
  generalize isApp o l = ea at *
  go_wp2_with fail
  refine (coded2_any sp ea _ w5 HEV.out (by omega) (S.below HB5.out) (errT_later HT.out HB5.out) (ea : Int)).mono ?_
  rintro r w6 ⟨hr, hb6⟩
  obtain rfl : r = .returned (.bool true) := hr.trans (by simp)
  have HB6 := Lib.hid (HB5.out.trans (hb6.mono HB5.out.size))
  obtain ⟨q0, q1, _⟩ := cell2_of ((hb6.block _ (Array.getElem?_eq_some_iff.1 HC5.out).1).trans HC5.out)
  clear hr hb6
  go_wp2_with fail
  go_ret
  first | exact ⟨rfl, HB6.out⟩ | exact ⟨ret_bool (by simp), HB6.out⟩
end Go.Proofs.YtnaijgmfjpmpjaaGreatDoor
