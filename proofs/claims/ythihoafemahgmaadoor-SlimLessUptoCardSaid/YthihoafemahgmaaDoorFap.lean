/- Walks: flow.Apply. (Printed by gen_fap.py.) -/
import Derived.Test.YthihoafemahgmaaDoorSm2
import Derived.Test.YthihoafemahgmaaDoorRg
import Derived.Test.YthihoafemahgmaaDoorFlD
import Derived.Test.YthihoafemahgmaaDoorKind
import Derived.Test.YthihoafemahgmaaDoorSen
import Derived.Test.YthihoafemahgmaaDoorBt
import Derived.Test.YthihoafemahgmaaDoorRw
namespace Go.Proofs.YthihoafemahgmaaDoor
open Go.RowKit Mx
def aplM (o : ByteArray) (l : List Vl) : Vl × Bool := if isApp o l = 0 then appM o l else (vz, false)
theorem aplM_no {o : ByteArray} {l : List Vl} {c : Nat} (h : isApp o l = c + 1) : aplM o l = (vz, false) := if_neg (by omega)
theorem aplM_yes {o : ByteArray} {l : List Vl} (h : isApp o l = 0) : aplM o l = appM o l := if_pos h
def nmI (k : Nat) : ByteArray := ⟨#[UInt8.ofNat (97 + k)]⟩
theorem nmI_inj {i j : Nat} (hi : i < 10) (hj : j < 10) (h : nmI i = nmI j) : i = j := by
  have h1 : UInt8.ofNat (97 + i) = UInt8.ofNat (97 + j) := by simpa [nmI] using h
  have h2 := congrArg UInt8.toNat h1
  simp at h2
  omega
def ksK (l : List Vl) : Nat → Env Int
  | 0 => Env.none
  | k + 1 => (ksK l k).set (nmI k) (l.getD k vz).kind
theorem ksK_at (l : List Vl) : ∀ k, k ≤ 10 → ∀ i, i < k → ksK l k (nmI i) = some (l.getD i vz).kind
  | 0, _, i, hi => by omega
  | k + 1, hk, i, hi => by
    simp only [ksK, Env.set]
    by_cases e : i = k
    · rw [if_pos (by rw [e]), e]
    · rw [if_neg fun h => e (nmI_inj (by omega) (by omega) h)]
      exact ksK_at l k (by omega) i (by omega)
theorem ksK_empty (l : List Vl) : ∀ k, ksK l k ⟨#[]⟩ = none
  | 0 => rfl
  | k + 1 => by
    simp only [ksK, Env.set]
    rw [if_neg (by simp [nmI]), ksK_empty l k]
def exO (o : ByteArray) (n : Nat) : Ex := .mk o 0 ⟨#[]⟩ ((List.range n).map fun i => .mk oName 0 (nmI i) [])
theorem exO_kinds (o : ByteArray) (l : List Vl) (hl : l.length ≤ 10) (hr : (l.all fun v => rightV v v.kind) = true) : kindOf (ksK l l.length) (exO o l.length) = kindBy o 0 (l.map (·.kind)) := by
  have hks : kindsOf (ksK l l.length) ((List.range l.length).map fun i => .mk oName 0 (nmI i) []) = l.map (·.kind) := by
    rw [kindsOf_map, List.map_map]
    refine List.ext_getElem (by simp) fun i h1 h2 => ?_
    have hi : i < l.length := by simpa using h1
    have hk : kindOf (ksK l l.length) (.mk oName 0 (nmI i) []) = l[i].kind := by
      rw [kindOf_by _ _ _ _ _ (by simp [kindsOf]), ksK_at l _ hl i hi]
      have h3 : kindBy oName ((some (l.getD i vz).kind).getD 0) (kindsOf (ksK l l.length) []) = (l.getD i vz).kind := by
        simp [kindBy, show oName ≠ oInt from by decide, show oName ≠ oTrue from by decide, show oName ≠ oFalse from by decide]
      rw [h3, List.getD_eq_getElem?_getD, List.getElem?_eq_getElem hi]
      rfl
    simpa using hk
  unfold exO
  rw [kindOf_by _ _ _ _ _ ?_, hks, ksK_empty]
  · rfl
  · rw [hks]
    intro h
    obtain ⟨x, hx, h0⟩ := List.mem_map.1 h
    have h1 := List.all_eq_true.1 hr x hx
    unfold rightV at h1
    rw [h0] at h1
    simp at h1
def xsK : Nat → List Value
  | 0 => []
  | k + 1 => xsK k ++ [.string oName, .int .i64 0, .string (nmI k), .slice none 0 0]
structure FaI (w0 wr : World) (n : Nat) (o : ByteArray) (l : List Vl) (m k : Nat) (u : Value) : Prop where
  below : Below n w0 wr
  res : wr.heap[n]? = some (.cells #[.int .i64 0, .int .i64 0] 98 (0, 0))
  box : wr.heap[n + 1]? = some (.cells #[.string o, .int .i64 0, .string ⟨#[]⟩, u] 45 (0, 0))
  map : MapAt (Value.int .i64) wr (n + 1 + 1) (ksK l m)
  row : wr.ownsRow (n + 1 + 1 + 1) 45 4 u k (xsK k)
  right : ∀ j (hj : j < l.length), j < k → rightV l[j] l[j].kind = true
theorem FaI.size {w0 wr : World} {n m k : Nat} {o : ByteArray} {l : List Vl} {u : Value} (h : FaI w0 wr n o l m k u) : n + 1 + 1 < wr.heap.size := h.map.lt
theorem FaI.later {w0 wr w' : World} {n m k : Nat} {o : ByteArray} {l : List Vl} {u : Value} (h : FaI w0 wr n o l m k u) (hb : Below wr.heap.size wr w') : FaI w0 w' n o l m k u := by
  have hs := h.size
  exact ⟨h.below.trans (hb.mono (by omega)), (hb.block _ (by omega)).trans h.res, (hb.block _ (by omega)).trans h.box, h.map.below hb, own_below h.row hb, h.right⟩
theorem FaI.turn {w0 wr w' : World} {n m k : Nat} {o : ByteArray} {l : List Vl} {u : Value} (h : FaI w0 wr n o l m k u) (ht : Turned wr w' (n + 1 + 1)) (hm : MapAt (Value.int .i64) w' (n + 1 + 1) (ksK l (m + 1))) : FaI w0 w' n o l (m + 1) k u :=
  ⟨ht.below h.below (by omega), (ht.block (by omega)).trans h.res, (ht.block (by omega)).trans h.box, hm, own_turned h.row ht (own_ge h.row (by omega)), h.right⟩
theorem xsK_at (K : Kn) : ∀ n, XsAt K ((List.range n).map fun i => .mk oName 0 (nmI i) []) (xsK n)
  | 0 => rfl
  | n + 1 => by
    rw [List.range_succ, List.map_append, xsK]
    exact (xsK_at K n).append ⟨none, 0, [], rfl, .inl ⟨rfl, _, _, rfl⟩, rfl⟩
theorem exO_ok (o : ByteArray) (n : Nat) (h : o = oIf → n = 3) : okIf (exO o n) = true := by
  have h2 : ∀ l : List Nat, okIfL (l.map fun i => .mk oName 0 (nmI i) []) = true := fun l => by
    induction l with
    | nil => rfl
    | cons i l ih => simp only [List.map_cons, okIfL, okIf, Bool.and_eq_true, Bool.or_eq_true, decide_eq_true_eq]; exact ⟨⟨.inl (by decide), trivial⟩, ih⟩
  unfold exO
  simp only [okIf, Bool.and_eq_true, Bool.or_eq_true, decide_eq_true_eq, List.length_map, List.length_range]
  refine ⟨?_, h2 _⟩
  by_cases e : o = oIf
  · exact .inr (h e)
  · exact .inl e
theorem exO_parts (o : ByteArray) (n : Nat) : (exO o n).parts = 1 + n := by
  have h2 : ∀ l : List Nat, Ex.partsL (l.map fun i => .mk oName 0 (nmI i) []) = l.length := fun l => by
    induction l with
    | nil => rfl
    | cons i l ih => simp only [List.map_cons, Ex.partsL, Ex.parts, List.length_cons, ih]; omega
  unfold exO
  simp only [Ex.parts, h2, List.length_range]
theorem put2w {W : World} {b : Nat} {x y : Value} {t : TypeId} (h : W.heap[b]? = some (.cells #[x, y] t (0, 0))) (u v : Value) : ((W.setCell ⟨b, 0, none⟩ u).setCell ⟨b, 1, none⟩ v).heap[b]? = some (.cells #[u, v] t (0, 0)) :=
  heap_setCell_same _ b 1 v _ _ _ (heap_setCell_same W b 0 u _ _ _ h)
theorem frozen_put {W : World} {b : Nat} {x y : Value} {t : TypeId} (h : W.heap[b]? = some (.cells #[x, y] t (0, 0))) (u : Value) : (W.setCell ⟨b, 0, none⟩ u).frozen? ⟨b, 1, none⟩ = false ∧ (W.setCell ⟨b, 0, none⟩ u).cell? ⟨b, 1, none⟩ = some y := by
  have h1 := heap_setCell_same W b 0 u _ _ _ h
  exact ⟨(cell2_of (x := u) (y := y) h1).2.2.2.1, (cell2_of (x := u) (y := y) h1).2.1⟩
theorem FaI.app {w0 wr w3 : World} {n m k g cap' : Nat} {o : ByteArray} {l : List Vl} {u : Value} (h : FaI w0 wr n o l m k u) (ho : w3.ownsRow (n + 1 + 1 + 1) 45 4 (.slice (some ⟨g, 0, none⟩) (k + 1) cap') (k + 1) (xsK k ++ [.string oName, .int .i64 0, .string (nmI k), .slice none 0 0])) (hg : wr.grownBy w3 u.ownBlock)
    (hr : ∀ j (hj : j < l.length), j < k + 1 → rightV l[j] l[j].kind = true) :
    w3.cell? ⟨n + 1, 3, none⟩ = some u ∧ w3.frozen? ⟨n + 1, 3, none⟩ = false ∧ FaI w0 (w3.setCell ⟨n + 1, 3, none⟩ (.slice (some ⟨g, 0, none⟩) (k + 1) cap')) n o l m (k + 1) (.slice (some ⟨g, 0, none⟩) (k + 1) cap') := by
  have hs := h.size
  have hb : ∀ i, i < n + 1 + 1 + 1 → w3.heap[i]? = wr.heap[i]? := fun i hi => hg.block i (by omega) (fun e => own_ge h.row hi e.symm)
  have hbx : w3.heap[n + 1]? = _ := (hb _ (by omega)).trans h.box
  refine ⟨by simp [World.cell?, hbx], by simp [World.frozen?, hbx], (h.below.grown hg (by omega) (fun g hgg => by have := (h.row.lt g hgg).1; omega)).setCell (p := ⟨n + 1, 3, none⟩) (by show n ≤ n + 1; omega) _, ?_, ?_, ?_, own_setCell ho (own_ge (b := n + 1) ho (by omega)) _, hr⟩
  · rw [Below.heap_setCell _ ⟨n + 1, 3, none⟩ _ n (by show n ≠ n + 1; omega)]
    exact (hb _ (by omega)).trans h.res
  · rw [heap_setCell_same _ _ _ _ _ _ _ hbx]; rfl
  · refine h.map.of_block ?_
    rw [Below.heap_setCell _ ⟨n + 1, 3, none⟩ _ (n + 1 + 1) (by show n + 1 + 1 ≠ n + 1; omega)]
    exact hb _ (by omega)
set_option maxHeartbeats 8000000 in
set_option maxRecDepth 100000 in
theorem applyX_any (H : Kn) (T : LevelsAt H) (sp : Nat → Addr) (o : ByteArray) (l : List Vl) (v : Value) (hv : VlsV H l v) (hl : l.length ≤ 10) (w : World) (hH : H.In w) (S : Sen5 w sp) :
    Calls Tryd.prog 53 #[.string o, v] w fun r w' => r = .returned (.tuple #[vlV (aplM o l).1, .bool (aplM o l).2, errV sp (isApp o l)]) ∧ Below w.heap.size w w' := by
  obtain ⟨a, c, rfl⟩ := hv.len
  have HV := Lib.hid hv
  have E3 := Lib.hid (show (arB o = false ∨ arN o < 1 ∨ arN o ≠ (l.length : Int) ∨ o = oPre ∨ o = oArrow ∨ o = oFby) → isApp o l = 3 from fun h => by
    unfold isApp arB arN at *
    cases e : arity o with
    | none => rfl
    | some k =>
      rw [e] at h
      simp only [Option.isSome_some, Bool.true_eq_false, Option.getD_some, false_or] at h
      exact if_pos h)
  have E5 := Lib.hid (show arB o = true → ¬ arN o < 1 → arN o = (l.length : Int) → o ≠ oPre → o ≠ oArrow → o ≠ oFby → isApp o l = if (l.all fun v => rightV v v.kind) = false then 5 else if kindBy o 0 (l.map (·.kind)) = 0 then 5 else 0 from fun h1 h2 h3 h4 h5 h6 => by
    unfold isApp arB arN at *
    cases e : arity o with
    | none => rw [e] at h1; cases h1
    | some k =>
      rw [e] at h2 h3
      simp only [Option.getD_some] at h2 h3
      dsimp only
      rw [if_neg (by simp only [not_or]; exact ⟨h2, fun h => h h3, h4, h5, h6⟩)]
      cases hall : l.all fun v => rightV v v.kind <;> simp)
  have hb1 : Below w.heap.size w (w.alloc (.cells #[.int .i64 0, .int .i64 0] 98)) := (Below.refl _ _).alloc (Nat.le_refl _) _
  have hr1 := heap_alloc_new w (.cells #[.int .i64 0, .int .i64 0] 98)
  have hz1 : (w.alloc (.cells #[.int .i64 0, .int .i64 0] 98)).heap.size = w.heap.size + 1 := by simp
  have HB1 := Lib.hid hb1
  have HR1 := Lib.hid hr1
  have HZ1 := Lib.hid hz1
  clear hv hb1 hr1 hz1
  have hmm := @run_makeMap Tryd.prog
  go_enter Tryd.func53, Tryd.ntmps53
  go_wp2_with fail
  generalize w.alloc (.cells #[.int .i64 0, .int .i64 0] 98) = W1 at *
  refine (arity_any H T o W1 (hH.below HB1.out)).mono ?_
  rintro r w1 ⟨rfl, rfl⟩
  cases hB : arB o with
  | false =>
    have EQ := Lib.hid (E3.out (.inl hB))
    clear E3 E5
    go_wp2_with fail
    have EE := Lib.hid ((show .returned (.tuple #[.agg #[.int .i64 0, .int .i64 0], .bool false, esv (sp 2)]) = (.returned (.tuple #[vlV (aplM o l).1, .bool (aplM o l).2, errV sp (isApp o l)]) : Ending) from by rw [aplM_no (c := 2) EQ.out, EQ.out]; rfl))
    have HBE := Lib.hid (HB1.out)
    have hR := HR1.out
    have g0 : (noKn w.heap.size W1).cell 0 0 = some (esv (sp 2)) := by
      have hc := ((S.below HB1.out)).c2
      have hlt : 0 < w.heap.size := World.block_lt_of_cell? w ⟨0, 0, none⟩ S.c2
      rw [noKn_cell (by omega)]
      exact hc
    have hS := noKn_in w.heap.size W1
    have hno := noKn_self w.heap.size W1
    generalize noKn w.heap.size W1 = KK at *
    have hS : KK.In W1.drew := hS
    have hR : W1.drew.heap[w.heap.size]? = some (.cells #[.int .i64 0, .int .i64 0] 98 (0, 0)) := hR
    have E5 := Lib.hid (set2A hR (.int .i64 0) (.int .i64 0))
    obtain ⟨r0, r1, f0, f1, _⟩ := cell2_of hR
    have HBD := Lib.hid (HBE.out.drew)
    clear hR HBE
    go_wp2_with fail
    refine wp_region_2 (fun w' => KK.In w') (fun _ => True) 99 (by kernel_rfl) ?_
    generalize W1.drew = Wd at *
    refine wpAny2_take (i := 0) (oi := _) (v := ?_) rfl (by decide) (by kernel_rfl) (by kernel_rfl) (by kernel_rfl) (by kernel_rfl) (fun _ _ _ h => h) hS (fun _ => trivial) (Or.inl ⟨by rfl, ?hy⟩) ?_
    case hy => intro w hSw; have z0 := hSw.cell g0; first | (go_simp; done) | (go_simp; with_reducible rfl)
    try simp only [Act.put, List.setIfInBounds_toArray, List.set_cons_zero, List.set_cons_succ, List.getElem_toArray, List.getElem_cons_zero, List.getElem_cons_succ]
    refine wpAny2_take (i := 1) (oi := _) (v := ?_) rfl (by decide) (by kernel_rfl) (by kernel_rfl) (by kernel_rfl) (by kernel_rfl) (fun _ _ _ h => h) hS (fun _ => trivial) (Or.inl ⟨by rfl, ?hy⟩) ?_
    case hy => intro w hSw; have z0 := hSw.cell g0; first | (go_simp; done) | (go_simp; with_reducible rfl)
    try simp only [Act.put, List.setIfInBounds_toArray, List.set_cons_zero, List.set_cons_succ, List.getElem_toArray, List.getElem_cons_zero, List.getElem_cons_succ]
    refine wpAny2_one (i := 2) (o := _) (by kernel_rfl) rfl (fun K_ hK => ?_)
    go_simp
    refine hK.out _ _ (((hS.setCell (a := ⟨w.heap.size, 0, none⟩) hno _).setCell (a := ⟨w.heap.size, 1, none⟩) hno _)) (fun _ => trivial) ?_
    clear hK K_
    try simp only [Act.put, List.setIfInBounds_toArray, List.set_cons_zero, List.set_cons_succ, List.getElem_toArray, List.getElem_cons_zero, List.getElem_cons_succ]
    refine wpAny2_take (i := 3) (oi := _) (v := ?_) rfl (by decide) (by kernel_rfl) (by kernel_rfl) (by kernel_rfl) (by kernel_rfl) (fun _ _ _ h => h) ((hS.setCell (a := ⟨w.heap.size, 0, none⟩) hno _).setCell (a := ⟨w.heap.size, 1, none⟩) hno _) (fun _ => trivial) (Or.inl ⟨by rfl, ?hy⟩) ?_
    case hy => intro w hSw; have z0 := hSw.cell g0; first | (go_simp; done) | (go_simp; with_reducible rfl)
    try simp only [Act.put, List.setIfInBounds_toArray, List.set_cons_zero, List.set_cons_succ, List.getElem_toArray, List.getElem_cons_zero, List.getElem_cons_succ]
    refine wpAny2_take (i := 4) (oi := _) (v := ?_) rfl (by decide) (by kernel_rfl) (by kernel_rfl) (by kernel_rfl) (by kernel_rfl) (fun _ _ _ h => h) ((hS.setCell (a := ⟨w.heap.size, 0, none⟩) hno _).setCell (a := ⟨w.heap.size, 1, none⟩) hno _) (fun _ => trivial) (Or.inl ⟨by rfl, ?hy⟩) ?_
    case hy => intro w hSw; have z0 := hSw.cell g0; first | (go_simp; done) | (go_simp; with_reducible rfl)
    try simp only [Act.put, List.setIfInBounds_toArray, List.set_cons_zero, List.set_cons_succ, List.getElem_toArray, List.getElem_cons_zero, List.getElem_cons_succ]
    refine wpAny2_done (by kernel_rfl) ?_ _
    have e0 := E5.out.1
    have e1 := E5.out.2
    go_wp2_with fail
    refine bodyPost_ret (v := .tuple #[.agg #[.int .i64 0, .int .i64 0], .bool false, esv (sp 2)]) (by simp [results, Tryd.results53, go_sem, e0, e1]) rfl ?_
    exact ⟨EE.out, below_put2 HBD.out (Nat.le_refl _) _ _⟩
  | true =>
  by_cases h1 : arN o < 1
  · have EQ := Lib.hid (E3.out (.inr (.inl h1)))
    clear E3 E5
    go_wp2_with fail
    have EE := Lib.hid ((show .returned (.tuple #[.agg #[.int .i64 0, .int .i64 0], .bool false, esv (sp 2)]) = (.returned (.tuple #[vlV (aplM o l).1, .bool (aplM o l).2, errV sp (isApp o l)]) : Ending) from by rw [aplM_no (c := 2) EQ.out, EQ.out]; rfl))
    have HBE := Lib.hid (HB1.out)
    have hR := HR1.out
    have g0 : (noKn w.heap.size W1).cell 0 0 = some (esv (sp 2)) := by
      have hc := ((S.below HB1.out)).c2
      have hlt : 0 < w.heap.size := World.block_lt_of_cell? w ⟨0, 0, none⟩ S.c2
      rw [noKn_cell (by omega)]
      exact hc
    have hS := noKn_in w.heap.size W1
    have hno := noKn_self w.heap.size W1
    generalize noKn w.heap.size W1 = KK at *
    have hS : KK.In W1.drew := hS
    have hR : W1.drew.heap[w.heap.size]? = some (.cells #[.int .i64 0, .int .i64 0] 98 (0, 0)) := hR
    have E5 := Lib.hid (set2A hR (.int .i64 0) (.int .i64 0))
    obtain ⟨r0, r1, f0, f1, _⟩ := cell2_of hR
    have HBD := Lib.hid (HBE.out.drew)
    clear hR HBE
    go_wp2_with fail
    refine wp_region_2 (fun w' => KK.In w') (fun _ => True) 99 (by kernel_rfl) ?_
    generalize W1.drew = Wd at *
    refine wpAny2_take (i := 0) (oi := _) (v := ?_) rfl (by decide) (by kernel_rfl) (by kernel_rfl) (by kernel_rfl) (by kernel_rfl) (fun _ _ _ h => h) hS (fun _ => trivial) (Or.inl ⟨by rfl, ?hy⟩) ?_
    case hy => intro w hSw; have z0 := hSw.cell g0; first | (go_simp; done) | (go_simp; with_reducible rfl)
    try simp only [Act.put, List.setIfInBounds_toArray, List.set_cons_zero, List.set_cons_succ, List.getElem_toArray, List.getElem_cons_zero, List.getElem_cons_succ]
    refine wpAny2_take (i := 1) (oi := _) (v := ?_) rfl (by decide) (by kernel_rfl) (by kernel_rfl) (by kernel_rfl) (by kernel_rfl) (fun _ _ _ h => h) hS (fun _ => trivial) (Or.inl ⟨by rfl, ?hy⟩) ?_
    case hy => intro w hSw; have z0 := hSw.cell g0; first | (go_simp; done) | (go_simp; with_reducible rfl)
    try simp only [Act.put, List.setIfInBounds_toArray, List.set_cons_zero, List.set_cons_succ, List.getElem_toArray, List.getElem_cons_zero, List.getElem_cons_succ]
    refine wpAny2_one (i := 2) (o := _) (by kernel_rfl) rfl (fun K_ hK => ?_)
    go_simp
    refine hK.out _ _ (((hS.setCell (a := ⟨w.heap.size, 0, none⟩) hno _).setCell (a := ⟨w.heap.size, 1, none⟩) hno _)) (fun _ => trivial) ?_
    clear hK K_
    try simp only [Act.put, List.setIfInBounds_toArray, List.set_cons_zero, List.set_cons_succ, List.getElem_toArray, List.getElem_cons_zero, List.getElem_cons_succ]
    refine wpAny2_take (i := 3) (oi := _) (v := ?_) rfl (by decide) (by kernel_rfl) (by kernel_rfl) (by kernel_rfl) (by kernel_rfl) (fun _ _ _ h => h) ((hS.setCell (a := ⟨w.heap.size, 0, none⟩) hno _).setCell (a := ⟨w.heap.size, 1, none⟩) hno _) (fun _ => trivial) (Or.inl ⟨by rfl, ?hy⟩) ?_
    case hy => intro w hSw; have z0 := hSw.cell g0; first | (go_simp; done) | (go_simp; with_reducible rfl)
    try simp only [Act.put, List.setIfInBounds_toArray, List.set_cons_zero, List.set_cons_succ, List.getElem_toArray, List.getElem_cons_zero, List.getElem_cons_succ]
    refine wpAny2_take (i := 4) (oi := _) (v := ?_) rfl (by decide) (by kernel_rfl) (by kernel_rfl) (by kernel_rfl) (by kernel_rfl) (fun _ _ _ h => h) ((hS.setCell (a := ⟨w.heap.size, 0, none⟩) hno _).setCell (a := ⟨w.heap.size, 1, none⟩) hno _) (fun _ => trivial) (Or.inl ⟨by rfl, ?hy⟩) ?_
    case hy => intro w hSw; have z0 := hSw.cell g0; first | (go_simp; done) | (go_simp; with_reducible rfl)
    try simp only [Act.put, List.setIfInBounds_toArray, List.set_cons_zero, List.set_cons_succ, List.getElem_toArray, List.getElem_cons_zero, List.getElem_cons_succ]
    refine wpAny2_done (by kernel_rfl) ?_ _
    have e0 := E5.out.1
    have e1 := E5.out.2
    go_wp2_with fail
    refine bodyPost_ret (v := .tuple #[.agg #[.int .i64 0, .int .i64 0], .bool false, esv (sp 2)]) (by simp [results, Tryd.results53, go_sem, e0, e1]) rfl ?_
    exact ⟨EE.out, below_put2 HBD.out (Nat.le_refl _) _ _⟩
  by_cases h2 : arN o = (l.length : Int)
  case neg =>
    have h2b : (arN o != (l.length : Int)) = true := by simpa using h2
    have EQ := Lib.hid (E3.out (.inr (.inr (.inl h2))))
    clear E3 E5
    go_wp2_with fail
    have EE := Lib.hid ((show .returned (.tuple #[.agg #[.int .i64 0, .int .i64 0], .bool false, esv (sp 2)]) = (.returned (.tuple #[vlV (aplM o l).1, .bool (aplM o l).2, errV sp (isApp o l)]) : Ending) from by rw [aplM_no (c := 2) EQ.out, EQ.out]; rfl))
    have HBE := Lib.hid (HB1.out)
    have hR := HR1.out
    have g0 : (noKn w.heap.size W1).cell 0 0 = some (esv (sp 2)) := by
      have hc := ((S.below HB1.out)).c2
      have hlt : 0 < w.heap.size := World.block_lt_of_cell? w ⟨0, 0, none⟩ S.c2
      rw [noKn_cell (by omega)]
      exact hc
    have hS := noKn_in w.heap.size W1
    have hno := noKn_self w.heap.size W1
    generalize noKn w.heap.size W1 = KK at *
    have hS : KK.In W1.drew := hS
    have hR : W1.drew.heap[w.heap.size]? = some (.cells #[.int .i64 0, .int .i64 0] 98 (0, 0)) := hR
    have E5 := Lib.hid (set2A hR (.int .i64 0) (.int .i64 0))
    obtain ⟨r0, r1, f0, f1, _⟩ := cell2_of hR
    have HBD := Lib.hid (HBE.out.drew)
    clear hR HBE
    go_wp2_with fail
    refine wp_region_2 (fun w' => KK.In w') (fun _ => True) 99 (by kernel_rfl) ?_
    generalize W1.drew = Wd at *
    refine wpAny2_take (i := 0) (oi := _) (v := ?_) rfl (by decide) (by kernel_rfl) (by kernel_rfl) (by kernel_rfl) (by kernel_rfl) (fun _ _ _ h => h) hS (fun _ => trivial) (Or.inl ⟨by rfl, ?hy⟩) ?_
    case hy => intro w hSw; have z0 := hSw.cell g0; first | (go_simp; done) | (go_simp; with_reducible rfl)
    try simp only [Act.put, List.setIfInBounds_toArray, List.set_cons_zero, List.set_cons_succ, List.getElem_toArray, List.getElem_cons_zero, List.getElem_cons_succ]
    refine wpAny2_take (i := 1) (oi := _) (v := ?_) rfl (by decide) (by kernel_rfl) (by kernel_rfl) (by kernel_rfl) (by kernel_rfl) (fun _ _ _ h => h) hS (fun _ => trivial) (Or.inl ⟨by rfl, ?hy⟩) ?_
    case hy => intro w hSw; have z0 := hSw.cell g0; first | (go_simp; done) | (go_simp; with_reducible rfl)
    try simp only [Act.put, List.setIfInBounds_toArray, List.set_cons_zero, List.set_cons_succ, List.getElem_toArray, List.getElem_cons_zero, List.getElem_cons_succ]
    refine wpAny2_one (i := 2) (o := _) (by kernel_rfl) rfl (fun K_ hK => ?_)
    go_simp
    refine hK.out _ _ (((hS.setCell (a := ⟨w.heap.size, 0, none⟩) hno _).setCell (a := ⟨w.heap.size, 1, none⟩) hno _)) (fun _ => trivial) ?_
    clear hK K_
    try simp only [Act.put, List.setIfInBounds_toArray, List.set_cons_zero, List.set_cons_succ, List.getElem_toArray, List.getElem_cons_zero, List.getElem_cons_succ]
    refine wpAny2_take (i := 3) (oi := _) (v := ?_) rfl (by decide) (by kernel_rfl) (by kernel_rfl) (by kernel_rfl) (by kernel_rfl) (fun _ _ _ h => h) ((hS.setCell (a := ⟨w.heap.size, 0, none⟩) hno _).setCell (a := ⟨w.heap.size, 1, none⟩) hno _) (fun _ => trivial) (Or.inl ⟨by rfl, ?hy⟩) ?_
    case hy => intro w hSw; have z0 := hSw.cell g0; first | (go_simp; done) | (go_simp; with_reducible rfl)
    try simp only [Act.put, List.setIfInBounds_toArray, List.set_cons_zero, List.set_cons_succ, List.getElem_toArray, List.getElem_cons_zero, List.getElem_cons_succ]
    refine wpAny2_take (i := 4) (oi := _) (v := ?_) rfl (by decide) (by kernel_rfl) (by kernel_rfl) (by kernel_rfl) (by kernel_rfl) (fun _ _ _ h => h) ((hS.setCell (a := ⟨w.heap.size, 0, none⟩) hno _).setCell (a := ⟨w.heap.size, 1, none⟩) hno _) (fun _ => trivial) (Or.inl ⟨by rfl, ?hy⟩) ?_
    case hy => intro w hSw; have z0 := hSw.cell g0; first | (go_simp; done) | (go_simp; with_reducible rfl)
    try simp only [Act.put, List.setIfInBounds_toArray, List.set_cons_zero, List.set_cons_succ, List.getElem_toArray, List.getElem_cons_zero, List.getElem_cons_succ]
    refine wpAny2_done (by kernel_rfl) ?_ _
    have e0 := E5.out.1
    have e1 := E5.out.2
    go_wp2_with fail
    refine bodyPost_ret (v := .tuple #[.agg #[.int .i64 0, .int .i64 0], .bool false, esv (sp 2)]) (by simp [results, Tryd.results53, go_sem, e0, e1]) rfl ?_
    exact ⟨EE.out, below_put2 HBD.out (Nat.le_refl _) _ _⟩
  have h2b : (arN o != (l.length : Int)) = false := by simpa using h2
  rcases Bool.eq_false_or_eq_true (o.toList == [112, 114, 101]) with p1 | p1
  · have q : o = oPre := lit_of p1
    have EQ := Lib.hid (E3.out (.inr (.inr (.inr (.inl q)))))
    clear E3 E5
    subst q
    go_wp2_with fail
    have EE := Lib.hid ((show .returned (.tuple #[.agg #[.int .i64 0, .int .i64 0], .bool false, esv (sp 2)]) = (.returned (.tuple #[vlV (aplM oPre l).1, .bool (aplM oPre l).2, errV sp (isApp oPre l)]) : Ending) from by rw [aplM_no (c := 2) EQ.out, EQ.out]; rfl))
    have HBE := Lib.hid (HB1.out)
    have hR := HR1.out
    have g0 : (noKn w.heap.size W1).cell 0 0 = some (esv (sp 2)) := by
      have hc := ((S.below HB1.out)).c2
      have hlt : 0 < w.heap.size := World.block_lt_of_cell? w ⟨0, 0, none⟩ S.c2
      rw [noKn_cell (by omega)]
      exact hc
    have hS := noKn_in w.heap.size W1
    have hno := noKn_self w.heap.size W1
    generalize noKn w.heap.size W1 = KK at *
    have hS : KK.In W1.drew := hS
    have hR : W1.drew.heap[w.heap.size]? = some (.cells #[.int .i64 0, .int .i64 0] 98 (0, 0)) := hR
    have E5 := Lib.hid (set2A hR (.int .i64 0) (.int .i64 0))
    obtain ⟨r0, r1, f0, f1, _⟩ := cell2_of hR
    have HBD := Lib.hid (HBE.out.drew)
    clear hR HBE
    go_wp2_with fail
    refine wp_region_2 (fun w' => KK.In w') (fun _ => True) 99 (by kernel_rfl) ?_
    generalize W1.drew = Wd at *
    refine wpAny2_take (i := 0) (oi := _) (v := ?_) rfl (by decide) (by kernel_rfl) (by kernel_rfl) (by kernel_rfl) (by kernel_rfl) (fun _ _ _ h => h) hS (fun _ => trivial) (Or.inl ⟨by rfl, ?hy⟩) ?_
    case hy => intro w hSw; have z0 := hSw.cell g0; first | (go_simp; done) | (go_simp; with_reducible rfl)
    try simp only [Act.put, List.setIfInBounds_toArray, List.set_cons_zero, List.set_cons_succ, List.getElem_toArray, List.getElem_cons_zero, List.getElem_cons_succ]
    refine wpAny2_take (i := 1) (oi := _) (v := ?_) rfl (by decide) (by kernel_rfl) (by kernel_rfl) (by kernel_rfl) (by kernel_rfl) (fun _ _ _ h => h) hS (fun _ => trivial) (Or.inl ⟨by rfl, ?hy⟩) ?_
    case hy => intro w hSw; have z0 := hSw.cell g0; first | (go_simp; done) | (go_simp; with_reducible rfl)
    try simp only [Act.put, List.setIfInBounds_toArray, List.set_cons_zero, List.set_cons_succ, List.getElem_toArray, List.getElem_cons_zero, List.getElem_cons_succ]
    refine wpAny2_one (i := 2) (o := _) (by kernel_rfl) rfl (fun K_ hK => ?_)
    go_simp
    refine hK.out _ _ (((hS.setCell (a := ⟨w.heap.size, 0, none⟩) hno _).setCell (a := ⟨w.heap.size, 1, none⟩) hno _)) (fun _ => trivial) ?_
    clear hK K_
    try simp only [Act.put, List.setIfInBounds_toArray, List.set_cons_zero, List.set_cons_succ, List.getElem_toArray, List.getElem_cons_zero, List.getElem_cons_succ]
    refine wpAny2_take (i := 3) (oi := _) (v := ?_) rfl (by decide) (by kernel_rfl) (by kernel_rfl) (by kernel_rfl) (by kernel_rfl) (fun _ _ _ h => h) ((hS.setCell (a := ⟨w.heap.size, 0, none⟩) hno _).setCell (a := ⟨w.heap.size, 1, none⟩) hno _) (fun _ => trivial) (Or.inl ⟨by rfl, ?hy⟩) ?_
    case hy => intro w hSw; have z0 := hSw.cell g0; first | (go_simp; done) | (go_simp; with_reducible rfl)
    try simp only [Act.put, List.setIfInBounds_toArray, List.set_cons_zero, List.set_cons_succ, List.getElem_toArray, List.getElem_cons_zero, List.getElem_cons_succ]
    refine wpAny2_take (i := 4) (oi := _) (v := ?_) rfl (by decide) (by kernel_rfl) (by kernel_rfl) (by kernel_rfl) (by kernel_rfl) (fun _ _ _ h => h) ((hS.setCell (a := ⟨w.heap.size, 0, none⟩) hno _).setCell (a := ⟨w.heap.size, 1, none⟩) hno _) (fun _ => trivial) (Or.inl ⟨by rfl, ?hy⟩) ?_
    case hy => intro w hSw; have z0 := hSw.cell g0; first | (go_simp; done) | (go_simp; with_reducible rfl)
    try simp only [Act.put, List.setIfInBounds_toArray, List.set_cons_zero, List.set_cons_succ, List.getElem_toArray, List.getElem_cons_zero, List.getElem_cons_succ]
    refine wpAny2_done (by kernel_rfl) ?_ _
    have e0 := E5.out.1
    have e1 := E5.out.2
    go_wp2_with fail
    refine bodyPost_ret (v := .tuple #[.agg #[.int .i64 0, .int .i64 0], .bool false, esv (sp 2)]) (by simp [results, Tryd.results53, go_sem, e0, e1]) rfl ?_
    exact ⟨EE.out, below_put2 HBD.out (Nat.le_refl _) _ _⟩
  rcases Bool.eq_false_or_eq_true (o.toList == [45, 62]) with p2 | p2
  · have q : o = oArrow := lit_of p2
    have EQ := Lib.hid (E3.out (.inr (.inr (.inr (.inr (.inl q))))))
    clear E3 E5
    subst q
    go_wp2_with fail
    have EE := Lib.hid ((show .returned (.tuple #[.agg #[.int .i64 0, .int .i64 0], .bool false, esv (sp 2)]) = (.returned (.tuple #[vlV (aplM oArrow l).1, .bool (aplM oArrow l).2, errV sp (isApp oArrow l)]) : Ending) from by rw [aplM_no (c := 2) EQ.out, EQ.out]; rfl))
    have HBE := Lib.hid (HB1.out)
    have hR := HR1.out
    have g0 : (noKn w.heap.size W1).cell 0 0 = some (esv (sp 2)) := by
      have hc := ((S.below HB1.out)).c2
      have hlt : 0 < w.heap.size := World.block_lt_of_cell? w ⟨0, 0, none⟩ S.c2
      rw [noKn_cell (by omega)]
      exact hc
    have hS := noKn_in w.heap.size W1
    have hno := noKn_self w.heap.size W1
    generalize noKn w.heap.size W1 = KK at *
    have hS : KK.In W1.drew := hS
    have hR : W1.drew.heap[w.heap.size]? = some (.cells #[.int .i64 0, .int .i64 0] 98 (0, 0)) := hR
    have E5 := Lib.hid (set2A hR (.int .i64 0) (.int .i64 0))
    obtain ⟨r0, r1, f0, f1, _⟩ := cell2_of hR
    have HBD := Lib.hid (HBE.out.drew)
    clear hR HBE
    go_wp2_with fail
    refine wp_region_2 (fun w' => KK.In w') (fun _ => True) 99 (by kernel_rfl) ?_
    generalize W1.drew = Wd at *
    refine wpAny2_take (i := 0) (oi := _) (v := ?_) rfl (by decide) (by kernel_rfl) (by kernel_rfl) (by kernel_rfl) (by kernel_rfl) (fun _ _ _ h => h) hS (fun _ => trivial) (Or.inl ⟨by rfl, ?hy⟩) ?_
    case hy => intro w hSw; have z0 := hSw.cell g0; first | (go_simp; done) | (go_simp; with_reducible rfl)
    try simp only [Act.put, List.setIfInBounds_toArray, List.set_cons_zero, List.set_cons_succ, List.getElem_toArray, List.getElem_cons_zero, List.getElem_cons_succ]
    refine wpAny2_take (i := 1) (oi := _) (v := ?_) rfl (by decide) (by kernel_rfl) (by kernel_rfl) (by kernel_rfl) (by kernel_rfl) (fun _ _ _ h => h) hS (fun _ => trivial) (Or.inl ⟨by rfl, ?hy⟩) ?_
    case hy => intro w hSw; have z0 := hSw.cell g0; first | (go_simp; done) | (go_simp; with_reducible rfl)
    try simp only [Act.put, List.setIfInBounds_toArray, List.set_cons_zero, List.set_cons_succ, List.getElem_toArray, List.getElem_cons_zero, List.getElem_cons_succ]
    refine wpAny2_one (i := 2) (o := _) (by kernel_rfl) rfl (fun K_ hK => ?_)
    go_simp
    refine hK.out _ _ (((hS.setCell (a := ⟨w.heap.size, 0, none⟩) hno _).setCell (a := ⟨w.heap.size, 1, none⟩) hno _)) (fun _ => trivial) ?_
    clear hK K_
    try simp only [Act.put, List.setIfInBounds_toArray, List.set_cons_zero, List.set_cons_succ, List.getElem_toArray, List.getElem_cons_zero, List.getElem_cons_succ]
    refine wpAny2_take (i := 3) (oi := _) (v := ?_) rfl (by decide) (by kernel_rfl) (by kernel_rfl) (by kernel_rfl) (by kernel_rfl) (fun _ _ _ h => h) ((hS.setCell (a := ⟨w.heap.size, 0, none⟩) hno _).setCell (a := ⟨w.heap.size, 1, none⟩) hno _) (fun _ => trivial) (Or.inl ⟨by rfl, ?hy⟩) ?_
    case hy => intro w hSw; have z0 := hSw.cell g0; first | (go_simp; done) | (go_simp; with_reducible rfl)
    try simp only [Act.put, List.setIfInBounds_toArray, List.set_cons_zero, List.set_cons_succ, List.getElem_toArray, List.getElem_cons_zero, List.getElem_cons_succ]
    refine wpAny2_take (i := 4) (oi := _) (v := ?_) rfl (by decide) (by kernel_rfl) (by kernel_rfl) (by kernel_rfl) (by kernel_rfl) (fun _ _ _ h => h) ((hS.setCell (a := ⟨w.heap.size, 0, none⟩) hno _).setCell (a := ⟨w.heap.size, 1, none⟩) hno _) (fun _ => trivial) (Or.inl ⟨by rfl, ?hy⟩) ?_
    case hy => intro w hSw; have z0 := hSw.cell g0; first | (go_simp; done) | (go_simp; with_reducible rfl)
    try simp only [Act.put, List.setIfInBounds_toArray, List.set_cons_zero, List.set_cons_succ, List.getElem_toArray, List.getElem_cons_zero, List.getElem_cons_succ]
    refine wpAny2_done (by kernel_rfl) ?_ _
    have e0 := E5.out.1
    have e1 := E5.out.2
    go_wp2_with fail
    refine bodyPost_ret (v := .tuple #[.agg #[.int .i64 0, .int .i64 0], .bool false, esv (sp 2)]) (by simp [results, Tryd.results53, go_sem, e0, e1]) rfl ?_
    exact ⟨EE.out, below_put2 HBD.out (Nat.le_refl _) _ _⟩
  rcases Bool.eq_false_or_eq_true (o.toList == [102, 98, 121]) with p3 | p3
  · have q : o = oFby := lit_of p3
    have EQ := Lib.hid (E3.out (.inr (.inr (.inr (.inr (.inr q))))))
    clear E3 E5
    subst q
    go_wp2_with fail
    have EE := Lib.hid ((show .returned (.tuple #[.agg #[.int .i64 0, .int .i64 0], .bool false, esv (sp 2)]) = (.returned (.tuple #[vlV (aplM oFby l).1, .bool (aplM oFby l).2, errV sp (isApp oFby l)]) : Ending) from by rw [aplM_no (c := 2) EQ.out, EQ.out]; rfl))
    have HBE := Lib.hid (HB1.out)
    have hR := HR1.out
    have g0 : (noKn w.heap.size W1).cell 0 0 = some (esv (sp 2)) := by
      have hc := ((S.below HB1.out)).c2
      have hlt : 0 < w.heap.size := World.block_lt_of_cell? w ⟨0, 0, none⟩ S.c2
      rw [noKn_cell (by omega)]
      exact hc
    have hS := noKn_in w.heap.size W1
    have hno := noKn_self w.heap.size W1
    generalize noKn w.heap.size W1 = KK at *
    have hS : KK.In W1.drew := hS
    have hR : W1.drew.heap[w.heap.size]? = some (.cells #[.int .i64 0, .int .i64 0] 98 (0, 0)) := hR
    have E5 := Lib.hid (set2A hR (.int .i64 0) (.int .i64 0))
    obtain ⟨r0, r1, f0, f1, _⟩ := cell2_of hR
    have HBD := Lib.hid (HBE.out.drew)
    clear hR HBE
    go_wp2_with fail
    refine wp_region_2 (fun w' => KK.In w') (fun _ => True) 99 (by kernel_rfl) ?_
    generalize W1.drew = Wd at *
    refine wpAny2_take (i := 0) (oi := _) (v := ?_) rfl (by decide) (by kernel_rfl) (by kernel_rfl) (by kernel_rfl) (by kernel_rfl) (fun _ _ _ h => h) hS (fun _ => trivial) (Or.inl ⟨by rfl, ?hy⟩) ?_
    case hy => intro w hSw; have z0 := hSw.cell g0; first | (go_simp; done) | (go_simp; with_reducible rfl)
    try simp only [Act.put, List.setIfInBounds_toArray, List.set_cons_zero, List.set_cons_succ, List.getElem_toArray, List.getElem_cons_zero, List.getElem_cons_succ]
    refine wpAny2_take (i := 1) (oi := _) (v := ?_) rfl (by decide) (by kernel_rfl) (by kernel_rfl) (by kernel_rfl) (by kernel_rfl) (fun _ _ _ h => h) hS (fun _ => trivial) (Or.inl ⟨by rfl, ?hy⟩) ?_
    case hy => intro w hSw; have z0 := hSw.cell g0; first | (go_simp; done) | (go_simp; with_reducible rfl)
    try simp only [Act.put, List.setIfInBounds_toArray, List.set_cons_zero, List.set_cons_succ, List.getElem_toArray, List.getElem_cons_zero, List.getElem_cons_succ]
    refine wpAny2_one (i := 2) (o := _) (by kernel_rfl) rfl (fun K_ hK => ?_)
    go_simp
    refine hK.out _ _ (((hS.setCell (a := ⟨w.heap.size, 0, none⟩) hno _).setCell (a := ⟨w.heap.size, 1, none⟩) hno _)) (fun _ => trivial) ?_
    clear hK K_
    try simp only [Act.put, List.setIfInBounds_toArray, List.set_cons_zero, List.set_cons_succ, List.getElem_toArray, List.getElem_cons_zero, List.getElem_cons_succ]
    refine wpAny2_take (i := 3) (oi := _) (v := ?_) rfl (by decide) (by kernel_rfl) (by kernel_rfl) (by kernel_rfl) (by kernel_rfl) (fun _ _ _ h => h) ((hS.setCell (a := ⟨w.heap.size, 0, none⟩) hno _).setCell (a := ⟨w.heap.size, 1, none⟩) hno _) (fun _ => trivial) (Or.inl ⟨by rfl, ?hy⟩) ?_
    case hy => intro w hSw; have z0 := hSw.cell g0; first | (go_simp; done) | (go_simp; with_reducible rfl)
    try simp only [Act.put, List.setIfInBounds_toArray, List.set_cons_zero, List.set_cons_succ, List.getElem_toArray, List.getElem_cons_zero, List.getElem_cons_succ]
    refine wpAny2_take (i := 4) (oi := _) (v := ?_) rfl (by decide) (by kernel_rfl) (by kernel_rfl) (by kernel_rfl) (by kernel_rfl) (fun _ _ _ h => h) ((hS.setCell (a := ⟨w.heap.size, 0, none⟩) hno _).setCell (a := ⟨w.heap.size, 1, none⟩) hno _) (fun _ => trivial) (Or.inl ⟨by rfl, ?hy⟩) ?_
    case hy => intro w hSw; have z0 := hSw.cell g0; first | (go_simp; done) | (go_simp; with_reducible rfl)
    try simp only [Act.put, List.setIfInBounds_toArray, List.set_cons_zero, List.set_cons_succ, List.getElem_toArray, List.getElem_cons_zero, List.getElem_cons_succ]
    refine wpAny2_done (by kernel_rfl) ?_ _
    have e0 := E5.out.1
    have e1 := E5.out.2
    go_wp2_with fail
    refine bodyPost_ret (v := .tuple #[.agg #[.int .i64 0, .int .i64 0], .bool false, esv (sp 2)]) (by simp [results, Tryd.results53, go_sem, e0, e1]) rfl ?_
    exact ⟨EE.out, below_put2 HBD.out (Nat.le_refl _) _ _⟩
  have q1 : o ≠ oPre := fun e => by rw [e] at p1; exact Bool.noConfusion ((show (oPre.toList == [112, 114, 101]) = true from by kernel_rfl).symm.trans p1)
  have q2 : o ≠ oArrow := fun e => by rw [e] at p2; exact Bool.noConfusion ((show (oArrow.toList == [45, 62]) = true from by kernel_rfl).symm.trans p2)
  have q3 : o ≠ oFby := fun e => by rw [e] at p3; exact Bool.noConfusion ((show (oFby.toList == [102, 98, 121]) = true from by kernel_rfl).symm.trans p3)
  have E5 := Lib.hid (E5.out hB (by omega) h2 q1 q2 q3)
  have hlpos : 1 ≤ l.length := by omega
  have har := Lib.hid (show arity o = some (l.length : Int) from by
    unfold arB at hB
    unfold arN at h2
    cases e : arity o with
    | none => rw [e] at hB; cases hB
    | some k => rw [e] at h2; simpa using h2)
  have hz1 := HZ1.out
  go_wp2_with fail
  have hW2 : Below w.heap.size w ((W1.alloc (.cells #[.string o, .int .i64 0, .string ⟨#[]⟩, .slice none 0 0] 45)).alloc (.map #[] 0)) := (HB1.out.alloc HB1.out.size _).alloc (by simp; omega) _
  have hR2 : ((W1.alloc (.cells #[.string o, .int .i64 0, .string ⟨#[]⟩, .slice none 0 0] 45)).alloc (.map #[] 0)).heap[w.heap.size]? = some (.cells #[.int .i64 0, .int .i64 0] 98 (0, 0)) := by
    rw [Below.heap_alloc _ _ _ (by simp; omega), Below.heap_alloc _ _ _ (by omega)]; exact HR1.out
  have hX2 : ((W1.alloc (.cells #[.string o, .int .i64 0, .string ⟨#[]⟩, .slice none 0 0] 45)).alloc (.map #[] 0)).heap[w.heap.size + 1]? = some (.cells #[.string o, .int .i64 0, .string ⟨#[]⟩, .slice none 0 0] 45 (0, 0)) := by
    rw [Below.heap_alloc _ _ _ (by simp; omega), ← hz1]; exact heap_alloc_new _ _
  have hM2 := MapAt.made (Value.int .i64) (W1.alloc (.cells #[.string o, .int .i64 0, .string ⟨#[]⟩, .slice none 0 0] 45))
  rw [show (W1.alloc (.cells #[.string o, .int .i64 0, .string ⟨#[]⟩, .slice none 0 0] 45)).heap.size = w.heap.size + 1 + 1 from by simp; omega] at hM2
  generalize (W1.alloc (.cells #[.string o, .int .i64 0, .string ⟨#[]⟩, .slice none 0 0] 45)).alloc (.map #[] 0) = W2 at *
  have HF0 := Lib.hid (show FaI w W2 w.heap.size o l 0 0 (.slice none 0 0) from ⟨hW2, hR2, hX2, hM2, World.ownsRow_nil _ _ _ _, fun j _ h => by omega⟩)
  clear hW2 hR2 hX2 hM2 hz1 HZ1 HB1 HR1
  go_loopw [50] (fun i wr => ∃ (k : Nat) (u : Value), i = .int .i64 k ∧ k ≤ l.length ∧ FaI w wr w.heap.size o l k k u) (fun i _ => l.length - (intOf i).toNat)
  case atStart => exact ⟨0, _, rfl, Nat.zero_le _, HF0.out⟩
  case round =>
    clear HF0
    obtain ⟨k, u, rfl, hk, hF⟩ := hrel
    have HF := Lib.hid hF
    clear hF
    by_cases hkl : k < l.length
    · obtain ⟨b, off, e1, x0, x1⟩ := vl_at2 HV.out hkl
      subst e1
      have x0 := (hH.below HF.out.below).cell x0
      have x1 := (hH.below HF.out.below).cell x1
      have HNO := Lib.hid (show rightV ⟨l[k].kind, l[k].n⟩ l[k].kind = false → (l.all fun v => rightV v v.kind) = false from fun h => by
        rw [List.all_eq_false]
        exact ⟨l[k], List.getElem_mem hkl, by rw [show rightV l[k] l[k].kind = false from h]; decide⟩)
      have HYES := Lib.hid (show rightV ⟨l[k].kind, l[k].n⟩ l[k].kind = true → ∀ j (hj : j < l.length), j < k + 1 → rightV l[j] l[j].kind = true from fun h j hj hjk => by
        by_cases hjk' : j < k
        · exact HF.out.right j hj hjk'
        · obtain rfl : j = k := by omega
          exact h)
      have HKS := Lib.hid (show (l.getD k vz).kind = l[k].kind from by rw [List.getD_eq_getElem?_getD, List.getElem?_eq_getElem hkl]; rfl)
      have hkI : (k : Int) < l.length := by omega
      generalize l[k].kind = xk at *
      generalize l[k].n = xn at *
      go_wp2_with fail
      refine (right_any ⟨xk, xn⟩ xk _).mono ?_
      rintro r w5 ⟨rfl, hb5⟩
      have hF5 := (HF.out.later ((Below.refl _ _).alloc (Nat.le_refl _) (.cells #[.int .i64 xk, .int .i64 xn] 98))).later hb5
      have c12 := (hb5.block wr.heap.size (by simp)).trans (heap_alloc_new wr (.cells #[.int .i64 xk, .int .i64 xn] 98))
      have HF5 := Lib.hid hF5
      clear hF5 hb5
      cases hr : rightV ⟨xk, xn⟩ xk with
      | false =>
        have EQ := Lib.hid (show isApp o l = 5 from by rw [E5.out, if_pos (HNO.out hr)])
        clear E3 E5
        go_wp2_with fail
        have EE := Lib.hid ((show .returned (.tuple #[.agg #[.int .i64 0, .int .i64 0], .bool false, esv (sp 4)]) = (.returned (.tuple #[vlV (aplM o l).1, .bool (aplM o l).2, errV sp (isApp o l)]) : Ending) from by rw [aplM_no (c := 4) EQ.out, EQ.out]; rfl))
        have HBE := Lib.hid (HF5.out.below)
        have hR := HF5.out.res
        have g0 : (noKn w.heap.size w5).cell 2 0 = some (esv (sp 4)) := by
          have hc := ((S.below HF5.out.below)).c4
          have hlt : 2 < w.heap.size := World.block_lt_of_cell? w ⟨2, 0, none⟩ S.c4
          rw [noKn_cell (by omega)]
          exact hc
        have hS := noKn_in w.heap.size w5
        have hno := noKn_self w.heap.size w5
        generalize noKn w.heap.size w5 = KK at *
        have hS : KK.In w5.drew := hS
        have hR : w5.drew.heap[w.heap.size]? = some (.cells #[.int .i64 0, .int .i64 0] 98 (0, 0)) := hR
        have E5 := Lib.hid (set2A hR (.int .i64 0) (.int .i64 0))
        obtain ⟨r0, r1, f0, f1, _⟩ := cell2_of hR
        have HBD := Lib.hid (HBE.out.drew)
        clear hR HBE
        go_wp2_with fail
        refine wp_region_2 (fun w' => KK.In w') (fun _ => True) 99 (by kernel_rfl) ?_
        generalize w5.drew = Wd at *
        refine wpAny2_take (i := 0) (oi := _) (v := ?_) rfl (by decide) (by kernel_rfl) (by kernel_rfl) (by kernel_rfl) (by kernel_rfl) (fun _ _ _ h => h) hS (fun _ => trivial) (Or.inl ⟨by rfl, ?hy⟩) ?_
        case hy => intro w hSw; have z0 := hSw.cell g0; first | (go_simp; done) | (go_simp; with_reducible rfl)
        try simp only [Act.put, List.setIfInBounds_toArray, List.set_cons_zero, List.set_cons_succ, List.getElem_toArray, List.getElem_cons_zero, List.getElem_cons_succ]
        refine wpAny2_take (i := 1) (oi := _) (v := ?_) rfl (by decide) (by kernel_rfl) (by kernel_rfl) (by kernel_rfl) (by kernel_rfl) (fun _ _ _ h => h) hS (fun _ => trivial) (Or.inl ⟨by rfl, ?hy⟩) ?_
        case hy => intro w hSw; have z0 := hSw.cell g0; first | (go_simp; done) | (go_simp; with_reducible rfl)
        try simp only [Act.put, List.setIfInBounds_toArray, List.set_cons_zero, List.set_cons_succ, List.getElem_toArray, List.getElem_cons_zero, List.getElem_cons_succ]
        refine wpAny2_one (i := 2) (o := _) (by kernel_rfl) rfl (fun K_ hK => ?_)
        go_simp
        refine hK.out _ _ (((hS.setCell (a := ⟨w.heap.size, 0, none⟩) hno _).setCell (a := ⟨w.heap.size, 1, none⟩) hno _)) (fun _ => trivial) ?_
        clear hK K_
        try simp only [Act.put, List.setIfInBounds_toArray, List.set_cons_zero, List.set_cons_succ, List.getElem_toArray, List.getElem_cons_zero, List.getElem_cons_succ]
        refine wpAny2_take (i := 3) (oi := _) (v := ?_) rfl (by decide) (by kernel_rfl) (by kernel_rfl) (by kernel_rfl) (by kernel_rfl) (fun _ _ _ h => h) ((hS.setCell (a := ⟨w.heap.size, 0, none⟩) hno _).setCell (a := ⟨w.heap.size, 1, none⟩) hno _) (fun _ => trivial) (Or.inl ⟨by rfl, ?hy⟩) ?_
        case hy => intro w hSw; have z0 := hSw.cell g0; first | (go_simp; done) | (go_simp; with_reducible rfl)
        try simp only [Act.put, List.setIfInBounds_toArray, List.set_cons_zero, List.set_cons_succ, List.getElem_toArray, List.getElem_cons_zero, List.getElem_cons_succ]
        refine wpAny2_take (i := 4) (oi := _) (v := ?_) rfl (by decide) (by kernel_rfl) (by kernel_rfl) (by kernel_rfl) (by kernel_rfl) (fun _ _ _ h => h) ((hS.setCell (a := ⟨w.heap.size, 0, none⟩) hno _).setCell (a := ⟨w.heap.size, 1, none⟩) hno _) (fun _ => trivial) (Or.inl ⟨by rfl, ?hy⟩) ?_
        case hy => intro w hSw; have z0 := hSw.cell g0; first | (go_simp; done) | (go_simp; with_reducible rfl)
        try simp only [Act.put, List.setIfInBounds_toArray, List.set_cons_zero, List.set_cons_succ, List.getElem_toArray, List.getElem_cons_zero, List.getElem_cons_succ]
        refine wpAny2_done (by kernel_rfl) ?_ _
        have e0 := E5.out.1
        have e1 := E5.out.2
        go_wp2_with fail
        refine bodyPost_ret (v := .tuple #[.agg #[.int .i64 0, .int .i64 0], .bool false, esv (sp 4)]) (by simp [results, Tryd.results53, go_sem, e0, e1]) rfl ?_
        exact ⟨EE.out, below_put2 HBD.out (Nat.le_refl _) _ _⟩
      | true =>
        obtain ⟨d0, d1, _, _, _⟩ := cell2_of c12
        have hw6 := heap_alloc_new w5 (.cells #[.int .u8 (97 + (k : Int))] 5)
        have kc := run_convert_bytes_back (P := Tryd.prog) (w5.alloc (.cells #[.int .u8 (97 + (k : Int))] 5)) 109 9 5 ⟨w5.heap.size, 0, none⟩ 1 [UInt8.ofNat (97 + k)] Tryd.underlying109 Tryd.underlying5 Tryd.underlying9 (fun j hj => by
          obtain rfl : j = 0 := by simpa using hj
          have h1 : ((UInt8.ofNat (97 + k)).toNat : Int) = 97 + (k : Int) := by simp; omega
          simp only [List.getElem_cons_zero, h1]
          show World.cell? _ ⟨w5.heap.size, 0, none⟩ = _
          unfold World.cell?
          rw [hw6]
          rfl)
        have kc : Sem.run Tryd.prog (convert 109 9 (.slice (some ⟨w5.heap.size, 0, none⟩) 1 1)) (w5.alloc (.cells #[.int .u8 (97 + (k : Int))] 5)) = .ok (.string (nmI k)) (w5.alloc (.cells #[.int .u8 (97 + (k : Int))] 5)) := kc
        have hF6 := HF5.out.later ((Below.refl _ _).alloc (Nat.le_refl _) (.cells #[.int .u8 (97 + (k : Int))] 5))
        have c6 := (Below.heap_alloc w5 (.cells #[.int .u8 (97 + (k : Int))] 5) _ (Array.getElem?_eq_some_iff.1 c12).1).trans c12
        have HF6 := Lib.hid hF6
        obtain ⟨d2, d3, _, _, _⟩ := cell2_of c6
        have hn12 : wr.heap.size ≠ w.heap.size + 1 + 1 := by have := HF.out.size; omega
        clear hw6 hF6 HF5 c12
        go_wp2_with (first | (at_mapUpdate; refine wp_store (Value.int .i64) 52 9 3 Tryd.underlying52 Tryd.underlying9 (w.heap.size + 1 + 1) _ HF6.out.map _ _ _ rfl rfl rfl (nmI k) rfl xk rfl ?_; intro w7 hM7 hT7; rw [← HKS.out] at hM7; have hF7 := HF6.out.turn hT7 hM7; obtain ⟨b0, b1, b2, b3, _, _, _, fb3, _⟩ := cells4_of hF7.box; have HF8 := Lib.hid (hF7.later ((Below.refl _ _).alloc (Nat.le_refl _) (.cells #[.string oName, .int .i64 0, .string (nmI k), .slice none 0 0] 45))); have b3' := (cells4_of HF8.out.box).2.2.2.1; have hs8 := hF7.size; clear hF7 hM7 hT7 kc HF6 c6 d0 d1 d2 d3 hn12) | (at_builtin; refine app1L 32 45 4 64 _ Tryd.underlying32 Tryd.infoEx rfl (by decide) _ _ rfl rfl (w.heap.size + 1 + 1 + 1) _ _ _ rfl HF8.out.row ⟨w7.heap.size, 0, none⟩ 1 [.string oName, .int .i64 0, .string (nmI k), .slice none 0 0] rfl rfl ?c1 ?c2 ?c3 ?c4 ?c5 ?_))
        case c1 => exact cells4 _ _ _ _ _ _
        case c2 => simp [Value.oneCell']
        case c3 => omega
        case c4 => omega
        case c5 => simp; omega
        intro g cap' w9 ho hg9 hat
        obtain ⟨g3, gf, hF9⟩ := HF8.out.app ho hg9 (HYES.out hr)
        have HF9 := Lib.hid hF9
        clear hF9 ho hg9 hat HF8 b0 b1 b2 b3 fb3 b3'
        go_wp2_with fail
        go_roundw
        case rel => exact ⟨k + 1, _, by go_num, by omega, HF9.out⟩
        case measure => simp [intOf]; omega
    · obtain rfl : k = l.length := by omega
      have hall : (l.all fun v => rightV v v.kind) = true := List.all_eq_true.2 fun v hv => by
        obtain ⟨j, hj, rfl⟩ := List.mem_iff_getElem.1 hv
        exact HF.out.right j hj hj
      have hE := E5.out
      rw [if_neg (by rw [hall]; decide)] at hE
      have HE := Lib.hid hE
      have HKN := Lib.hid (exO_kinds o l hl hall)
      obtain ⟨au, cu, rfl, _⟩ := own_len HF.out.row
      obtain ⟨K', _, hK', hx', _⟩ := exsV_of_own (K := fun _ => none) (l := (List.range l.length).map fun i => .mk oName 0 (nmI i) []) (fun b o e => by cases e) (by rw [List.length_map, List.length_range]; exact HF.out.row) (xsK_at _ _) (fun _ _ => rfl)
      have hev : ExV K' (exO o l.length) (.agg #[.string o, .int .i64 0, .string ⟨#[]⟩, .slice au l.length cu]) := ⟨_, rfl, hx'⟩
      obtain ⟨b0, b1, b2, b3, _⟩ := cells4_of HF.out.box
      have HEV := Lib.hid hev
      have HK' := Lib.hid hK'
      clear hE hall hx' hev hK' E5 E3
      go_wp2_with fail
      refine (kind_any (exO o l.length) (exO_ok o _ (fun h => by
        have h2 := har.out
        rw [h] at h2
        have h3 : (3 : Int) = l.length := by injection h2
        omega)) (by have := exO_parts o l.length; omega) K' _ HEV.out (ksK l l.length) _ wr HK'.out HF.out.map).mono ?_
      rintro r w5 ⟨rfl, hb5⟩
      rw [HKN.out]
      have HF5 := Lib.hid (HF.out.later hb5)
      clear hb5 HF b0 b1 b2 b3 HEV HK' HKN
      by_cases h0 : kindBy o 0 (l.map (·.kind)) = 0
      · have EQ := Lib.hid (HE.out.trans (if_pos h0))
        rw [h0]
        clear HE
        go_wp2_with fail
        have EE := Lib.hid ((show .returned (.tuple #[.agg #[.int .i64 0, .int .i64 0], .bool false, esv (sp 4)]) = (.returned (.tuple #[vlV (aplM o l).1, .bool (aplM o l).2, errV sp (isApp o l)]) : Ending) from by rw [aplM_no (c := 4) EQ.out, EQ.out]; rfl))
        have HBE := Lib.hid (HF5.out.below)
        have hR := HF5.out.res
        have g0 : (noKn w.heap.size w5).cell 2 0 = some (esv (sp 4)) := by
          have hc := ((S.below HF5.out.below)).c4
          have hlt : 2 < w.heap.size := World.block_lt_of_cell? w ⟨2, 0, none⟩ S.c4
          rw [noKn_cell (by omega)]
          exact hc
        have hS := noKn_in w.heap.size w5
        have hno := noKn_self w.heap.size w5
        generalize noKn w.heap.size w5 = KK at *
        have hS : KK.In w5.drew := hS
        have hR : w5.drew.heap[w.heap.size]? = some (.cells #[.int .i64 0, .int .i64 0] 98 (0, 0)) := hR
        have E5 := Lib.hid (set2A hR (.int .i64 0) (.int .i64 0))
        obtain ⟨r0, r1, f0, f1, _⟩ := cell2_of hR
        have HBD := Lib.hid (HBE.out.drew)
        clear hR HBE
        go_wp2_with fail
        refine wp_region_2 (fun w' => KK.In w') (fun _ => True) 99 (by kernel_rfl) ?_
        generalize w5.drew = Wd at *
        refine wpAny2_take (i := 0) (oi := _) (v := ?_) rfl (by decide) (by kernel_rfl) (by kernel_rfl) (by kernel_rfl) (by kernel_rfl) (fun _ _ _ h => h) hS (fun _ => trivial) (Or.inl ⟨by rfl, ?hy⟩) ?_
        case hy => intro w hSw; have z0 := hSw.cell g0; first | (go_simp; done) | (go_simp; with_reducible rfl)
        try simp only [Act.put, List.setIfInBounds_toArray, List.set_cons_zero, List.set_cons_succ, List.getElem_toArray, List.getElem_cons_zero, List.getElem_cons_succ]
        refine wpAny2_take (i := 1) (oi := _) (v := ?_) rfl (by decide) (by kernel_rfl) (by kernel_rfl) (by kernel_rfl) (by kernel_rfl) (fun _ _ _ h => h) hS (fun _ => trivial) (Or.inl ⟨by rfl, ?hy⟩) ?_
        case hy => intro w hSw; have z0 := hSw.cell g0; first | (go_simp; done) | (go_simp; with_reducible rfl)
        try simp only [Act.put, List.setIfInBounds_toArray, List.set_cons_zero, List.set_cons_succ, List.getElem_toArray, List.getElem_cons_zero, List.getElem_cons_succ]
        refine wpAny2_one (i := 2) (o := _) (by kernel_rfl) rfl (fun K_ hK => ?_)
        go_simp
        refine hK.out _ _ (((hS.setCell (a := ⟨w.heap.size, 0, none⟩) hno _).setCell (a := ⟨w.heap.size, 1, none⟩) hno _)) (fun _ => trivial) ?_
        clear hK K_
        try simp only [Act.put, List.setIfInBounds_toArray, List.set_cons_zero, List.set_cons_succ, List.getElem_toArray, List.getElem_cons_zero, List.getElem_cons_succ]
        refine wpAny2_take (i := 3) (oi := _) (v := ?_) rfl (by decide) (by kernel_rfl) (by kernel_rfl) (by kernel_rfl) (by kernel_rfl) (fun _ _ _ h => h) ((hS.setCell (a := ⟨w.heap.size, 0, none⟩) hno _).setCell (a := ⟨w.heap.size, 1, none⟩) hno _) (fun _ => trivial) (Or.inl ⟨by rfl, ?hy⟩) ?_
        case hy => intro w hSw; have z0 := hSw.cell g0; first | (go_simp; done) | (go_simp; with_reducible rfl)
        try simp only [Act.put, List.setIfInBounds_toArray, List.set_cons_zero, List.set_cons_succ, List.getElem_toArray, List.getElem_cons_zero, List.getElem_cons_succ]
        refine wpAny2_take (i := 4) (oi := _) (v := ?_) rfl (by decide) (by kernel_rfl) (by kernel_rfl) (by kernel_rfl) (by kernel_rfl) (fun _ _ _ h => h) ((hS.setCell (a := ⟨w.heap.size, 0, none⟩) hno _).setCell (a := ⟨w.heap.size, 1, none⟩) hno _) (fun _ => trivial) (Or.inl ⟨by rfl, ?hy⟩) ?_
        case hy => intro w hSw; have z0 := hSw.cell g0; first | (go_simp; done) | (go_simp; with_reducible rfl)
        try simp only [Act.put, List.setIfInBounds_toArray, List.set_cons_zero, List.set_cons_succ, List.getElem_toArray, List.getElem_cons_zero, List.getElem_cons_succ]
        refine wpAny2_done (by kernel_rfl) ?_ _
        have e0 := E5.out.1
        have e1 := E5.out.2
        go_wp2_with fail
        refine bodyPost_ret (v := .tuple #[.agg #[.int .i64 0, .int .i64 0], .bool false, esv (sp 4)]) (by simp [results, Tryd.results53, go_sem, e0, e1]) rfl ?_
        exact ⟨EE.out, below_put2 HBD.out (Nat.le_refl _) _ _⟩
      · have EQ := Lib.hid (HE.out.trans (if_neg h0))
        have hne : (kindBy o 0 (l.map (·.kind)) == 0) = false := by simpa using h0
        generalize kindBy o 0 (l.map (·.kind)) = kb at *
        clear HE
        go_wp2_with fail
        refine (apply_any o l har.out hlpos q1 q2 q3 H _ HV.out w5 (hH.below HF5.out.below)).mono ?_
        rintro r w6 ⟨rfl, hb6⟩
        have HF6 := Lib.hid (HF5.out.later hb6)
        have HAP := Lib.hid (aplM_yes EQ.out)
        clear hb6 HF5
        obtain ⟨X, hX⟩ : ∃ X, X = appM o l := ⟨_, rfl⟩
        have hAP := HAP.out
        rw [← hX] at hAP ⊢
        clear hX HAP
        have HAP := Lib.hid hAP
        clear hAP
        obtain ⟨⟨rk, rn⟩, rt⟩ := X
        obtain ⟨r0, r1, f0, f1, _⟩ := cell2_of HF6.out.res
        have hp := put2w HF6.out.res (.int .i64 rk) (.int .i64 rn)
        have hp2 := put2w hp (.int .i64 rk) (.int .i64 rn)
        obtain ⟨s0, s1, sf0, sf1, _⟩ := cell2_of hp
        have HP2 := Lib.hid hp2
        have HBZ := Lib.hid HF6.out.below
        have nf := frozen_put HF6.out.res (.int .i64 rk)
        have nf2 := frozen_put hp (.int .i64 rk)
        dsimp only [vlV]
        clear HF6 hp hp2
        go_wp2_with fail
        obtain ⟨e0, e1, _⟩ := cell2_of HP2.out
        refine bodyPost_ret (v := .tuple #[.agg #[.int .i64 rk, .int .i64 rn], .bool rt, .nilIface]) (by simp [results, Tryd.results53, go_sem, e0, e1]) rfl ?_
        exact ⟨by rw [HAP.out, EQ.out]; rfl, below_put2 (below_put2 HBZ.out (Nat.le_refl _) _ _) (Nat.le_refl _) _ _⟩
end Go.Proofs.YthihoafemahgmaaDoor
