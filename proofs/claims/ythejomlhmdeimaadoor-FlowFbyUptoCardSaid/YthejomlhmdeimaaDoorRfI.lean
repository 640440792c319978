/- Walks: lustrumref1.Bare, Fine; lustrumref2.OrderOf. -/
import Derived.Test.YthejomlhmdeimaaDoorOiM
import Derived.Deep.LoopGhost
namespace Go.Proofs.YthejomlhmdeimaaDoor
set_option maxRecDepth 100000
set_option maxHeartbeats 16000000
open Go.RowKit Mx
theorem fine_any (w : World) : Calls Tryd.prog 47 #[] w fun e w' => e = .returned (.agg #[.int .i64 0, .int .i64 (-1)]) ∧ Below w.heap.size w w' := by
 go_enter Tryd.func47, Tryd.ntmps47
 go_wp2_with fail
 refine bodyPost_ret (v := .agg #[.int .i64 0, .int .i64 (-1)]) (by simp [results, Tryd.results47, go_sem]) rfl ?_
 exact ⟨rfl, (Below.refl _ _).alloc (Nat.le_refl _) _⟩
theorem bare_any (c : Int) (w : World) : Calls Tryd.prog 46 #[.int .i64 c] w fun e w' => e = .returned (.agg #[.int .i64 c, .int .i64 (-1)]) ∧ Below w.heap.size w w' := by
 go_enter Tryd.func46, Tryd.ntmps46
 go_wp2_with fail
 refine bodyPost_ret (v := .agg #[.int .i64 c, .int .i64 (-1)]) (by simp [results, Tryd.results46, go_sem]) rfl ?_
 exact ⟨rfl, (Below.refl _ _).alloc (Nat.le_refl _) _⟩
theorem cells2_of {W : World} {b : Nat} {x y : Value} {t : TypeId} (h : W.heap[b]? = some (.cells #[x, y] t (0, 0))) :
  W.cell? ⟨b, 0, none⟩ = some x ∧ W.cell? ⟨b, 1, none⟩ = some y ∧ W.frozen? ⟨b, 0, none⟩ = false ∧ W.frozen? ⟨b, 1, none⟩ = false ∧ b < W.heap.size :=
 ⟨by simp [World.cell?, h], by simp [World.cell?, h], by simp [World.frozen?, h], by simp [World.frozen?, h], (Array.getElem?_eq_some_iff.1 h).1⟩
theorem set2_of {W : World} {b : Nat} {x y : Value} {t : TypeId} (h : W.heap[b]? = some (.cells #[x, y] t (0, 0))) (u v : Value) :
  (W.setCell ⟨b, 0, none⟩ u).cell? ⟨b, 0, none⟩ = some u ∧ ((W.setCell ⟨b, 0, none⟩ u).setCell ⟨b, 1, none⟩ v).cell? ⟨b, 1, none⟩ = some v ∧
  (∀ o, (((W.setCell ⟨b, 0, none⟩ u).setCell ⟨b, 1, none⟩ v).alloc o).cell? ⟨b, 0, none⟩ = some u) ∧ (∀ o, (((W.setCell ⟨b, 0, none⟩ u).setCell ⟨b, 1, none⟩ v).alloc o).cell? ⟨b, 1, none⟩ = some v) := by
 have h1 : (W.setCell ⟨b, 0, none⟩ u).heap[b]? = some (.cells #[u, y] t (0, 0)) := by
  show (W.heap.modify b _)[b]? = _
  rw [Array.getElem?_modify, if_pos rfl, h]; rfl
 have h2 : ((W.setCell ⟨b, 0, none⟩ u).setCell ⟨b, 1, none⟩ v).heap[b]? = some (.cells #[u, v] t (0, 0)) := by
  generalize W.setCell ⟨b, 0, none⟩ u = W1 at *
  show (W1.heap.modify b _)[b]? = _
  rw [Array.getElem?_modify, if_pos rfl, h1]; rfl
 refine ⟨by simp [World.cell?, h1], by simp [World.cell?, h2], fun o => ?_, fun o => ?_⟩
 ·rw [World.cell?_alloc_past _ _ _ (Array.getElem?_eq_some_iff.1 h2).1]; simp [World.cell?, h2]
 ·rw [World.cell?_alloc_past _ _ _ (Array.getElem?_eq_some_iff.1 h2).1]; simp [World.cell?, h2]
theorem below_set2 {base b : Nat} {w W : World} (h : Below base w W) (hb : base ≤ b) (u v : Value) : Below base w ((W.setCell ⟨b, 0, none⟩ u).setCell ⟨b, 1, none⟩ v) :=
 (h.setCell (p := ⟨b, 0, none⟩) hb u).setCell (p := ⟨b, 1, none⟩) hb v
theorem but_set2 (b : Nat) (W : World) (u v : Value) : (butKn b W).le (allKn ((W.setCell ⟨b, 0, none⟩ u).setCell ⟨b, 1, none⟩ v)) := fun x o e => by
 unfold butKn at e
 split at e
 ·cases e
 ·show ((W.setCell ⟨b, 0, none⟩ u).setCell ⟨b, 1, none⟩ v).heap[x]? = _
  rename_i hne
  rw [Below.heap_setCell _ _ _ _ (show x ≠ b from hne), Below.heap_setCell _ _ _ _ (show x ≠ b from hne)]
  exact e
theorem NMat.after {w0 wr wr' : World} {base M1 M2 n k : Nat} {R : Nat → Nat} {f g : Nat → Nat → Bool} (h : NMat w0 wr base M1 M2 R n k f g) (hb : Below wr.heap.size wr wr') (hbase : base ≤ wr.heap.size) : NMat w0 wr' base M1 M2 R n k f g := by
 have lt : ∀ {b : Nat} {o : Obj}, wr.heap[b]? = some o → wr'.heap[b]? = some o := fun {b o} e => (hb.block b (Array.getElem?_eq_some_iff.1 e).1).trans e
 exact ⟨h.below.trans (hb.mono hbase), lt h.m1, lt h.m2, fun i hi => lt (h.r1 i hi), fun i hi => lt (h.r2 i hi), h.hM, h.hMM, h.lo, h.mono⟩
structure SortR (w wx : World) (n D j : Nat) (u : Value) (out : List Nat) : Prop where
 below : Below w.heap.size w wx
 size : D + 1 ≤ wx.heap.size
 row : wx.ownsRow (D + 1) 3 1 u j (out.map natV)
 blk : wx.heap[D]? = some (.cells (boolsA n out.contains) 4 (0, 0))
 len : out.length = j
theorem onceG_graph {p : Pr} (h : checkFlat p = 0) : onceG p = onceF p.graph := by
 funext i j
 rw [graph_fIdx h]
 unfold onceG onceF
 rw [List.getD_eq_getElem?_getD, List.getElem?_map]
 cases p.fl[i]? with
 | none => simp
 | some f => rfl
def frB (p : Pr) (out : List Nat) (i k : Nat) : Bool := !out.contains i && (List.range k).all fun x => !onceG p i x || out.contains x
theorem frB_zero (p : Pr) (out : List Nat) (i : Nat) : frB p out i 0 = !out.contains i := by simp [frB]
theorem frB_succ (p : Pr) (out : List Nat) (i k : Nat) : frB p out i (k + 1) = (frB p out i k && (!onceG p i k || out.contains k)) := by
 simp [frB, List.range_succ, Bool.and_assoc]
theorem frB_all {p : Pr} (h : checkFlat p = 0) (out : List Nat) (i : Nat) : frB p out i p.fl.length = freeB p.graph out i := by
 have hlow := graph_low p
 have hgl := graph_len p
 unfold frB freeB
 rw [onceG_graph h]
 congr 1
 rw [Bool.eq_iff_iff, List.all_eq_true, List.all_eq_true]
 constructor
 ·intro ha x hx
  have hx' : x < p.graph.length := by
   by_cases hi : i < p.graph.length
   ·rw [List.getD_eq_getElem?_getD, List.getElem?_eq_getElem hi] at hx
    exact hlow _ (List.getElem_mem hi) _ hx
   ·rw [List.getD_eq_getElem?_getD, List.getElem?_eq_none (by omega)] at hx
    simp at hx
  have := ha x (List.mem_range.2 (by omega))
  have hc : onceF p.graph i x = true := by simpa [onceF] using hx
  rw [hc] at this
  simpa using this
 ·intro ha x _
  cases hc : onceF p.graph i x with
  | false => rfl
  | true => exact ha x (by simpa [onceF] using hc)
def OrdRef (K : Kn) (p : Pr) (v1 v2 : Value) : Prop := match orderM p with
 | .error x => v1 = .slice none 0 0 ∧ v2 = .agg #[.int .i64 x.1, .int .i64 x.2]
 | .ok l => IntsV K l v1 ∧ v2 = .agg #[.int .i64 0, .int .i64 (-1)]
theorem orderOf_any (H : Kn) (p : Pr) (vi vo vl va vc : Value) (hp : PrP H p vi vo vl va vc) (s1 : p.fl.length ≤ 1000000) (s2 : Ex.partsL p.terms ≤ 1000000000) (s3 : p.ins.length ≤ 100000000 ∧ p.outs.length ≤ 100000000 ∧ p.as.length ≤ 100000000 ∧ p.cs.length ≤ 100000000) (w : World) (hH : H.In w) :
  Calls Tryd.prog 42 #[.agg #[vi, vo, vl, va, vc]] w fun r w' => Below w.heap.size w w' ∧ ∃ v1 v2, r = .returned (.tuple #[v1, v2]) ∧ OrdRef (allKn w') p v1 v2 := by
 have HP := Lib.hid hp
 obtain ⟨h1, h2, h3, h4, h5⟩ := hp
 obtain ⟨ai, ci, rfl⟩ := h1.len
 obtain ⟨ao, co, rfl⟩ := h2.len
 obtain ⟨al, cl, rfl⟩ := h3.len
 obtain ⟨aa, ca, rfl⟩ := h4.len
 obtain ⟨ac, cc, rfl⟩ := h5.len
 clear h1 h2 h3 h4 h5
 have hP0 := heap_alloc_new w (.cells #[.slice ai p.ins.length ci, .slice ao p.outs.length co, .slice al p.fl.length cl, .slice aa p.as.length ca, .slice ac p.cs.length cc] 45)
 have hR0 := heap_alloc_new (w.alloc (.cells #[.slice ai p.ins.length ci, .slice ao p.outs.length co, .slice al p.fl.length cl, .slice aa p.as.length ca, .slice ac p.cs.length cc] 45)) (.cells #[.int .i64 0, .int .i64 0] 77)
 have hb0 : Below w.heap.size w ((w.alloc (.cells #[.slice ai p.ins.length ci, .slice ao p.outs.length co, .slice al p.fl.length cl, .slice aa p.as.length ca, .slice ac p.cs.length cc] 45)).alloc (.cells #[.int .i64 0, .int .i64 0] 77)) := ((Below.refl _ _).alloc (Nat.le_refl _) _).alloc (by simp) _
 have hz1 : ((w.alloc (.cells #[.slice ai p.ins.length ci, .slice ao p.outs.length co, .slice al p.fl.length cl, .slice aa p.as.length ca, .slice ac p.cs.length cc] 45)).alloc (.cells #[.int .i64 0, .int .i64 0] 77)).heap.size = w.heap.size + 2 := by simp
 have hP1 := (Below.heap_alloc (w.alloc (.cells #[.slice ai p.ins.length ci, .slice ao p.outs.length co, .slice al p.fl.length cl, .slice aa p.as.length ca, .slice ac p.cs.length cc] 45)) (.cells #[.int .i64 0, .int .i64 0] 77) w.heap.size (by simp)).trans hP0
 rw [World.size_alloc] at hR0
 have HH1 := Lib.hid (hH.below hb0)
 have HB0 := Lib.hid hb0
 have HP1 := Lib.hid hP1
 have HR0 := Lib.hid hR0
 clear hP0 hR0 hP1 hb0
 go_enter Tryd.func42, Tryd.ntmps42
 go_wp2_with fail
 generalize (w.alloc (.cells #[.slice ai p.ins.length ci, .slice ao p.outs.length co, .slice al p.fl.length cl, .slice aa p.as.length ca, .slice ac p.cs.length cc] 45)).alloc (.cells #[.int .i64 0, .int .i64 0] 77) = W1 at *
 refine (flatError_any H p _ _ _ _ _ HP.out ⟨s2, by omega, s3.1, s3.2.1⟩ W1 HH1.out).mono ?_
 rintro r w1 ⟨rfl, hb1⟩
 have HB1 := Lib.hid (HB0.out.trans (hb1.mono (by omega)))
 have hP1 := (hb1.block w.heap.size (by omega)).trans HP1.out
 have hR1 := (hb1.block (w.heap.size + 1) (by omega)).trans HR0.out
 have hz2 : w.heap.size + 2 ≤ w1.heap.size := by have := hb1.size; omega
 have HH2 := Lib.hid (HH1.out.below (hb1.mono (by omega)))
 have HP2 := Lib.hid hP1
 have HR2 := Lib.hid hR1
 clear hb1 hP1 hR1 HP1 HR0 HB0
 cases hck : checkFlat p with
 | succ c =>
  have HX := Lib.hid (show orderM p = .error (c + 1, -1) from by unfold orderM; rw [hck]; rfl)
  clear hck
  have hc1 : (0 : Int) < ((c + 1 : Nat) : Int) := by omega
  generalize hci : ((c + 1 : Nat) : Int) = ci1 at *
  go_wp2_with fail
  refine (bare_any _ _).mono ?_
  rintro r w2 ⟨rfl, hb2⟩
  have hR2 := (hb2.block (w.heap.size + 1) (by omega)).trans HR2.out
  obtain ⟨q0, q1, f0, f1, hlw⟩ := cells2_of hR2
  obtain ⟨e0, e1, e2, e3⟩ := set2_of hR2 (.int .i64 ci1) (.int .i64 (-1))
  have E0 := Lib.hid e0
  have E1 := Lib.hid e1
  have hfin := HB1.out.trans (hb2.mono (by omega))
  clear e0 e1 e2 e3 hR2
  go_wp2_with fail
  have e0 := E0.out
  have e1 := E1.out
  refine bodyPost_ret (v := .tuple #[.slice none 0 0, .agg #[.int .i64 ci1, .int .i64 (-1)]]) (by simp [results, Tryd.results42, go_sem, e0, e1]) rfl ?_
  refine ⟨below_set2 hfin (by omega) _ _, _, _, rfl, ?_⟩
  unfold OrdRef
  rw [HX.out]
  exact ⟨rfl, by rw [← hci]⟩
 | zero =>
  obtain ⟨ks, _, _, _, hfl, _, _, _⟩ := check_zero hck
  have HCK := Lib.hid hck
  have HOM := Lib.hid (show orderM p = (match (List.range p.graph.length).find? (cyc p.graph) with | some i => .error (6, (i : Int)) | .none => .ok (sortN p.graph p.graph.length [])) from by unfold orderM; rw [hck]; rfl)
  have HGL := Lib.hid (graph_len p)
  have m0 : w1.cell? ⟨w.heap.size, 0, none⟩ = some (.slice ai p.ins.length ci) := by simp [World.cell?, HP2.out]
  have m1 : w1.cell? ⟨w.heap.size, 1, none⟩ = some (.slice ao p.outs.length co) := by simp [World.cell?, HP2.out]
  have m2 : w1.cell? ⟨w.heap.size, 2, none⟩ = some (.slice al p.fl.length cl) := by simp [World.cell?, HP2.out]
  have m3 : w1.cell? ⟨w.heap.size, 3, none⟩ = some (.slice aa p.as.length ca) := by simp [World.cell?, HP2.out]
  have m4 : w1.cell? ⟨w.heap.size, 4, none⟩ = some (.slice ac p.cs.length cc) := by simp [World.cell?, HP2.out]
  clear hck
  go_wp2_with fail
  refine (needsOf_any H p _ _ _ _ _ HP.out s1 (by unfold Pr.terms at s2; rw [List.append_assoc, partsL_append] at s2; omega) w1 HH2.out).mono ?_
  rintro r w2 ⟨M1, M2, R, rfl, hN⟩
  have HN := Lib.hid hN
  have hz3 := hN.below.size
  have HP3 := Lib.hid ((hN.below.block w.heap.size (by omega)).trans HP2.out)
  have HR3 := Lib.hid ((hN.below.block (w.heap.size + 1) (by omega)).trans HR2.out)
  have HB2 := Lib.hid (HB1.out.trans (hN.below.mono (by omega)))
  clear hN HB1 HP2 HR2 m0 m1 m2 m3 m4 HH2 HH1
  have HCY := Lib.hid (show ∀ i, wa (onceG p) p.fl.length i i = cyc p.graph i from fun i => by rw [onceG_graph HCK.out, ← HGL.out]; exact wa_cyc (graph_low p) i)
  go_wp2_with fail
  go_loopw [7] (fun i wr => ∃ k : Nat, i = .int .i64 k ∧ k ≤ p.fl.length ∧ Below w2.heap.size w2 wr ∧ (∀ j, j < k → cyc p.graph j = false)) (fun i _ => p.fl.length - (intOf i).toNat)
  case atStart => exact ⟨0, rfl, Nat.zero_le _, Below.refl _ _, fun j h => by omega⟩
  case round =>
   obtain ⟨k, rfl, hk, hb, hno⟩ := hrel
   have HB := Lib.hid hb
   have HNO := Lib.hid hno
   have hzr := hb.size
   have m2 : wr.cell? ⟨w.heap.size, 2, none⟩ = some (.slice al p.fl.length cl) := by have h := (hb.block w.heap.size (by omega)).trans HP3.out; simp [World.cell?, h]
   have HNR := Lib.hid (HN.out.after hb (by omega))
   have HBR := Lib.hid (HB2.out.trans (hb.mono (by omega)))
   clear hb hno
   by_cases hkl : k < p.fl.length
   ·have hkI : (k : Int) < p.fl.length := by omega
    have n1 := HNR.out.cellM hkl (Nat.le_refl _)
    have n2 := HNR.out.cellA hkl hkl
    rw [HCY.out] at n2
    cases hcy : cyc p.graph k
    ·have HX := Lib.hid (show ∀ j, j < k + 1 → cyc p.graph j = false from fun j hj => by
      by_cases h : j < k
      ·exact HNO.out j h
      ·obtain rfl : j = k := by omega
       exact hcy)
     rw [hcy] at n2
     clear hcy
     go_wp2_with fail
     go_roundw
     case rel => exact ⟨k + 1, by go_num, by omega, HB.out, HX.out⟩
     case measure => simp [intOf]; omega
    ·have HX := Lib.hid (show orderM p = .error (6, (k : Int)) from by
      rw [HOM.out]
      have : (List.range p.graph.length).find? (cyc p.graph) = some k := by
       rw [List.find?_range_eq_some]
       exact ⟨hcy, List.mem_range.2 (by rw [HGL.out]; exact hkl), fun j hj => by simp [HNO.out j hj]⟩
      rw [this])
     rw [hcy] at n2
     have hR2 := (HB.out.block (w.heap.size + 1) (by omega)).trans HR3.out
     obtain ⟨q0, q1, f0, f1, hlw⟩ := cells2_of hR2
     obtain ⟨e0, e1, e2, e3⟩ := set2_of hR2 (.int .i64 6) (.int .i64 k)
     have E0 := Lib.hid e0
     have E1 := Lib.hid e1
     clear hcy e0 e1 e2 e3 hR2
     go_wp2_with fail
     have e0 := E0.out
     have e1 := E1.out
     refine bodyPost_ret (v := .tuple #[.slice none 0 0, .agg #[.int .i64 6, .int .i64 k]]) (by simp [results, Tryd.results42, go_sem, e0, e1]) rfl ?_
     refine ⟨below_set2 HBR.out (by omega) _ _, _, _, rfl, ?_⟩
     unfold OrdRef
     rw [HX.out]
     exact ⟨rfl, rfl⟩
   ·obtain rfl : k = p.fl.length := by omega
    have hmk := run_make_row' (P := Tryd.prog) 54 4 (.bool false) 1 Tryd.underlying54 Tryd.infoBool rfl .i64 .i64 p.fl.length (by omega) (by omega)
    have HOK := Lib.hid (show orderM p = .ok (sortN p.graph p.graph.length []) from by
     rw [HOM.out]
     have : (List.range p.graph.length).find? (cyc p.graph) = none := by
      rw [List.find?_eq_none]
      intro x hx
      have := HNO.out x (by have := List.mem_range.1 hx; rw [HGL.out] at this; exact this)
      simp [this]
     rw [this])
    have HPICK := Lib.hid (sort_pick (graph_low p) (fun j hj => HNO.out j (by rw [HGL.out] at hj; exact hj)))
    go_wp2_with fail
    have hS0 : SortR w2 (wr.alloc (.cells (madeCells #[.bool false] p.fl.length) 4)) p.fl.length wr.heap.size 0 (.slice none 0 0) (sortN p.graph 0 []) := by
     refine ⟨HB.out.alloc HB.out.size _, by simp, World.ownsRow_nil _ _ _ _, ?_, rfl⟩
     rw [heap_alloc_new, made_bools]
     congr 2
    have hDge := HB.out.size
    generalize wr.alloc (.cells (madeCells #[.bool false] p.fl.length) 4) = W2 at *
    generalize wr.heap.size = D at *
    have HS0 := Lib.hid hS0
    clear hS0 hmk HNO HOM HB m2 HNR HBR hzr
    go_loopg [9, 10, 11, 12] (p.fl.length) (fun f u9 u10 u11 u12 wx => ∃ j, j + f = p.fl.length ∧ SortR w2 wx p.fl.length D j u9 (sortN p.graph j []))
    case atStart => exact ⟨0, by omega, HS0.out⟩
    case round =>
     obtain ⟨j, hleft, hS⟩ := hrel
     have HS := Lib.hid hS
     obtain ⟨ra, rc, rfl, hrc, hjc⟩ := own_len hS.row
     have hsz0 := hS.size
     have hb := hS.below
     have m2 : wr.cell? ⟨w.heap.size, 2, none⟩ = some (.slice al p.fl.length cl) := by have h := (hb.block w.heap.size (by omega)).trans HP3.out; simp [World.cell?, h]
     have HNR := Lib.hid (HN.out.after hb (by omega))
     clear hS hb
     by_cases hjn : j < p.fl.length
     ·have hjI : (j : Int) < p.fl.length := by omega
      have hpk := HPICK.out j (by rw [HGL.out]; exact hjn)
      have HSUC := Lib.hid (sortN_out p.graph j [])
      generalize hout : sortN p.graph j [] = out at *
      have HFREE := Lib.hid (pick_free hpk)
      have HFST := Lib.hid (fun k (h : k < pick p.graph out) => pick_first h (show k < p.graph.length by omega))
      rw [HGL.out] at hpk
      have hgp : 1 ≤ gk := by omega
      clear hout
      generalize pick p.graph out = pk at *
      go_wp2_with fail
      go_loop [9, 10, 11, 12] (fun o i u11 u12 => o = .slice ra j rc ∧ ∃ k : Nat, i = .int .i64 k ∧ k ≤ pk) (fun o i u11 u12 => pk - (intOf i).toNat)
      case atStart => exact ⟨rfl, 0, rfl, Nat.zero_le _⟩
      case round =>
       obtain ⟨rfl, i, rfl, hip⟩ := hrel
       have hin : i < p.fl.length := by omega
       have hiI : (i : Int) < p.fl.length := by omega
       have hD := HS.out.blk
       have hdc : wr.cell? ⟨D, i, none⟩ = some (.bool (out.contains i)) := by simp only [World.cell?, hD]; exact boolsA_get _ _ _ hin
       have hfd : wr.frozen? ⟨D, i, none⟩ = false := by simp [World.frozen?, hD]
       have HFA := Lib.hid (frB_all HCK.out out i)
       have hf0 := (frB_zero p out i).symm
       have HD := Lib.hid hD
       obtain ⟨oi, hoi⟩ : ∃ b, b = out.contains i := ⟨_, rfl⟩
       rw [← hoi] at hdc hf0
       have HOI := Lib.hid hoi
       clear hD hoi
       go_wp2_with fail
       go_loop [11, 12] (fun f x => ∃ k : Nat, f = .bool (frB p out i k) ∧ x = .int .i64 k ∧ k ≤ p.fl.length) (fun f x => p.fl.length - (intOf x).toNat)
       case atStart => exact ⟨0, by rw [← hf0], rfl, Nat.zero_le _⟩
       case round =>
        obtain ⟨k, rfl, rfl, hk⟩ := hrel
        by_cases hkl : k < p.fl.length
        ·have hkI : (k : Int) < p.fl.length := by omega
         have n1 := HNR.out.cellO hin (Nat.le_refl _)
         have n2 := HNR.out.cellB hin hkl
         have n3 : wr.cell? ⟨D, k, none⟩ = some (.bool (out.contains k)) := by simp only [World.cell?, HD.out]; exact boolsA_get _ _ _ hkl
         have HSF := Lib.hid (frB_succ p out i k)
         generalize frB p out i k = fk at *
         generalize onceG p i k = ok at *
         generalize out.contains k = dk at *
         rcases (show fk = false ∨ (fk = true ∧ ok = false) ∨ (fk = true ∧ ok = true) from by cases fk <;> cases ok <;> simp) with rfl | ⟨rfl, rfl⟩ | ⟨rfl, rfl⟩
         all_goals
          go_wp2_with fail
          go_round
          case rel => exact ⟨k + 1, by rw [HSF.out]; simp, by go_num, by omega⟩
          case measure => simp [intOf]; omega
        ·obtain rfl : k = p.fl.length := by omega
         rw [HFA.out]
         by_cases hik : i = pk
         ·subst hik
          have hrowne := own_ge HS.out.row (b := D) (by omega)
          have HS2 := Lib.hid (heap_setCell_same wr D i (.bool true) _ _ _ HD.out)
          have HO2 := Lib.hid (own_setCell HS.out.row (a := ⟨D, i, none⟩) hrowne (.bool true))
          have hz2 : (wr.setCell ⟨D, i, none⟩ (.bool true)).heap.size = wr.heap.size := by simp [World.setCell]
          have HBW := Lib.hid (HS.out.below.setCell (p := ⟨D, i, none⟩) hDge (.bool true))
          have FIN := Lib.hid (show ∀ v' w3, w3.ownsRow (D + 1) 3 1 v' (j + 1) (out.map natV ++ [.int .i64 i]) → ((wr.setCell ⟨D, i, none⟩ (.bool true)).alloc (.cells #[.int .i64 i] 3)).grownBy w3 (Value.slice ra j rc).ownBlock → SortR w2 w3 p.fl.length D (j + 1) v' (sortN p.graph (j + 1) []) from fun v' w3 ho hg3 => by
           have hs3 := hg3.size
           simp only [World.size_alloc, hz2] at hs3
           have hnD : some D ≠ (Value.slice ra j rc).ownBlock := Ne.symm hrowne
           rw [HSUC.out]
           refine ⟨(HBW.out.alloc (by rw [hz2]; omega) _).grown hg3 (by simp; omega) (fun q hq => by have := (HS.out.row.lt q hq).1; omega), by omega, by rw [List.map_append]; exact ho, ?_, by rw [List.length_append, HS.out.len]; rfl⟩
           rw [hg3.block D (by simp; omega) hnD, Below.heap_alloc _ _ _ (by rw [hz2]; omega), HS2.out, boolsA_set]
           congr 2
           refine boolsA_congr fun x hx => ?_
           by_cases hxi : x = i
           ·subst hxi; simp
           ·simp [hxi])
          have h1 := HFREE.out
          rw [h1]
          go_wp2_with (at_builtin; refine app1 101 3 1 8 _ Tryd.underlying101 Tryd.infoInt rfl (by decide) _ _ rfl rfl (D + 1) _ _ _ rfl (HO2.out.alloc _) ⟨wr.heap.size, 0, none⟩ 1 [.int .i64 i] rfl rfl ?c1 ?c2 ?c3 ?c4 ?c5 ?_)
          case c2 => simp [Value.oneCell']
          case c3 => omega
          case c4 => omega
          case c5 => first | omega | (simp; omega)
          intro v' w3 ho hg3
          have hS3 := FIN.out v' w3 ho hg3
          go_wp2_with fail
          go_roundg (gk - 1)
          case rel => exact ⟨j + 1, by omega, hS3⟩
          case measure => omega
         ·have h1 := HFST.out i (by omega)
          rw [h1]
          go_wp2_with fail
          go_round
          case rel => exact ⟨rfl, i + 1, by go_num, by omega⟩
          case measure => simp [intOf]; omega
     ·obtain rfl : j = p.fl.length := by omega
      have HV := Lib.hid (ints_of_row (R := w.heap.size + 1) (l := sortN p.graph p.fl.length []) (by rw [HS.out.len]; exact HS.out.row) (own_ge HS.out.row (by omega)))
      go_wp2_with fail
      refine (fine_any _).mono ?_
      rintro r w3 ⟨rfl, hb3⟩
      have HBR := Lib.hid (HB2.out.trans (HS.out.below.mono (by omega)))
      have hR3 := (hb3.block (w.heap.size + 1) (by omega)).trans ((HS.out.below.block (w.heap.size + 1) (by omega)).trans HR3.out)
      obtain ⟨q0, q1, f0, f1, hlw⟩ := cells2_of hR3
      obtain ⟨e0, e1, e2, e3⟩ := set2_of hR3 (.int .i64 0) (.int .i64 (-1))
      have E0 := Lib.hid e0
      have E1 := Lib.hid e1
      have hfin := HBR.out.trans (hb3.mono (by have := HBR.out.size; omega))
      have HLE := Lib.hid (show (butKn (w.heap.size + 1) wr).le (butKn (w.heap.size + 1) w3) from fun x o e => by
       unfold butKn at e ⊢
       split at e
       ·cases e
       ·rename_i hne
        rw [if_neg hne, hb3.block x (Array.getElem?_eq_some_iff.1 e).1]
        exact e)
      clear e0 e1 e2 e3 hR3 hb3
      go_wp2_with fail
      have e0 := E0.out
      have e1 := E1.out
      refine bodyPost_ret (v := .tuple #[.slice ra p.fl.length rc, .agg #[.int .i64 0, .int .i64 (-1)]]) (by simp [results, Tryd.results42, go_sem, e0, e1]) rfl ?_
      refine ⟨below_set2 hfin (by omega) _ _, _, _, rfl, ?_⟩
      unfold OrdRef
      rw [HOK.out, HGL.out]
      exact ⟨IntsV.le (but_set2 _ _ _ _) (IntsV.le HLE.out HV.out), rfl⟩
end Go.Proofs.YthejomlhmdeimaaDoor
