/- Walks: slim.Same$1: names turned, in place. (Printed by gen_sll.py.) -/
import Derived.Test.YthihoafemahgmaaDoorSlK
namespace Go.Proofs.YthihoafemahgmaaDoor
open Go.RowKit Mx
structure RenI (ot : Env ByteArray) (To Mo Tr : Nat) (w : World) : Prop where
  box : w.heap[To]? = some (.cells #[.map (some Mo)] 69 (0, 0))
  map : MapAt Value.string w Mo ot
  fn : w.heap[Tr]? = some (.cells #[.func (.func 29) #[] #[.pointer (some ⟨To, 0, none⟩), .pointer (some ⟨Tr, 0, none⟩)]] 61 (0, 0))
def FrK (K : Kn) (w w' : World) : Prop := ∀ b, b < w.heap.size → K b = none → w'.heap[b]? = w.heap[b]?
theorem FrK.of_below {K : Kn} {w w' : World} (h : Below w.heap.size w w') : FrK K w w' := fun b hb _ => h.block b hb
theorem RenI.frame {ot : Env ByteArray} {To Mo Tr : Nat} {K : Kn} {w w' : World} (h : RenI ot To Mo Tr w) (hf : FrK K w w') (hk : K To = none ∧ K Mo = none ∧ K Tr = none) : RenI ot To Mo Tr w' :=
  ⟨(hf _ (Array.getElem?_eq_some_iff.1 h.box).1 hk.1).trans h.box, h.map.of_block (hf _ h.map.lt hk.2.1), (hf _ (Array.getElem?_eq_some_iff.1 h.fn).1 hk.2.2).trans h.fn⟩
structure RenW (ot : Env ByteArray) (K : Kn) (n0 : Nat) (w wr : World) (B : Nat) (o : ByteArray) (n : Int) (s : ByteArray) (a : Option Addr) (l : List Ex) (c q : Nat) : Prop where
  below : Below n0 w wr
  frame : FrK K w wr
  kn : KnM ot K wr
  box : wr.heap[B]? = some (.cells #[.string o, .int .i64 n, .string s, .slice a l.length c] 45 (0, 0))
  res : wr.heap[B + 1]? = some (.cells #[.string ⟨#[]⟩, .int .i64 0, .string ⟨#[]⟩, .slice none 0 0] 45 (0, 0))
  fx : FxM ot K w wr
  dn : ∀ i (hi : i < l.length), i < q → ∀ b off, a = some ⟨b, off, none⟩ → ElX ot K wr l[i] b (off + i * 4)
theorem KnM.unf {ks : Env ByteArray} {K : Kn} {w : World} (h : KnM ks K w) (hu : UF K) {b p : Nat} {v : Value} (h0 : K.cell b p = some v) (i : Nat) : w.frozen? ⟨b, i, none⟩ = false := by
  cases e : K b with
  | none => simp [Kn.cell, e] at h0
  | some ob =>
    obtain ⟨c, c', t, rfl, g, _⟩ := h.open hu e
    simp [World.frozen?, g]
theorem RenW.turn {ot : Env ByteArray} {K : Kn} {n0 : Nat} {w wr wc : World} {o : ByteArray} {n : Int} {s : ByteArray} {xa : Option Addr} {l : List Ex} {x : Ex} {c q b off xc : Nat} (h : RenW ot K n0 w wr w.heap.size o n s (some ⟨b, off, none⟩) l c q) (hn : n0 ≤ w.heap.size) (hlow : ∀ b, b < n0 → K b = none) (hu : UF K)
    (hKB : ∀ b, w.heap.size ≤ b → K b = none) (hid : Idem ot) (hq : q < l.length) (hxq : l[q] = x) (hf : FrK K wr.drew wc) (hb : Below n0 wr.drew wc) (d0 : K.cell b (off + q * 4) = some (.string x.op)) (d1 : K.cell b (off + q * 4 + 1) = some (.int .i64 x.n)) (d2 : K.cell b (off + q * 4 + 2) = some (.string x.s)) (d3 : K.cell b (off + q * 4 + 3) = some (.slice xa x.l.length xc)) (hk : KnM ot K wc) (hm : FxM ot K wr.drew wc) (ht : TrX ot K wc x.l (.slice xa x.l.length xc)) :
    RenW ot K n0 w ((((wc.setCell ⟨b, off + q * 4, none⟩ (.string x.op)).setCell ⟨b, off + q * 4 + 1, none⟩ (.int .i64 x.n)).setCell ⟨b, off + q * 4 + 2, none⟩ (.string (rnS ot x.op x.s))).setCell ⟨b, off + q * 4 + 3, none⟩ (.slice xa x.l.length xc)) w.heap.size o n s (some ⟨b, off, none⟩) l c (q + 1) ∧ wc.heap[w.heap.size]? = some (.cells #[.string o, .int .i64 n, .string s, .slice (some ⟨b, off, none⟩) l.length c] 45 (0, 0)) := by
  have hKb : K b ≠ none := fun e => by simp [Kn.cell, e] at d0
  have hbn : n0 ≤ b := Nat.le_of_not_lt fun hx => hKb (hlow b hx)
  have hbw : b < w.heap.size := Nat.lt_of_not_le fun hx => hKb (hKB b hx)
  have hsz : w.heap.size ≤ wr.heap.size := h.below.size
  have hwB : w.heap.size < wr.heap.size := (Array.getElem?_eq_some_iff.1 h.box).1
  have hwR : w.heap.size + 1 < wr.heap.size := (Array.getElem?_eq_some_iff.1 h.res).1
  have hB := (hf w.heap.size hwB (hKB _ (Nat.le_refl _))).trans h.box
  have hR := (hf (w.heap.size + 1) hwR (hKB _ (by omega))).trans h.res
  have hg : GoodS ot x.op x.s (rnS ot x.op x.s) := rnS_idem hid _ _
  obtain ⟨f1, f2⟩ := hk.fx4 hu d0 d1 d2 d3 (s1 := rnS ot x.op x.s) rfl
  have f0 : FxM ot K wr wc := FxM.trans (FxM.of_heap (w := wr) (w' := wr.drew) fun _ _ => rfl) hm
  have hput := hk.put4 hu d0 d1 d2 d3 hg
  have far : ∀ y, y ≠ b → ((((wc.setCell ⟨b, off + q * 4, none⟩ (.string x.op)).setCell ⟨b, off + q * 4 + 1, none⟩ (.int .i64 x.n)).setCell ⟨b, off + q * 4 + 2, none⟩ (.string (rnS ot x.op x.s))).setCell ⟨b, off + q * 4 + 3, none⟩ (.slice xa x.l.length xc)).heap[y]? = wc.heap[y]? := fun x hx => by
    rw [Below.heap_setCell _ _ _ x hx, Below.heap_setCell _ _ _ x hx, Below.heap_setCell _ _ _ x hx, Below.heap_setCell _ _ _ x hx]
  refine ⟨⟨?_, fun x hx hKx => ?_, hput, (far _ (by omega)).trans hB, (far _ (by omega)).trans hR, (h.fx.trans f0).trans f1, fun i hi hiq b' off' e => ?_⟩, hB⟩
  · have h1 : Below n0 w wc := (h.below.trans (Below.refl _ _).drew).trans hb
    exact (((h1.setCell (p := ⟨b, off + q * 4, none⟩) hbn _).setCell (p := ⟨b, off + q * 4 + 1, none⟩) hbn _).setCell (p := ⟨b, off + q * 4 + 2, none⟩) hbn _).setCell (p := ⟨b, off + q * 4 + 3, none⟩) hbn _
  · have hxb : x ≠ b := fun e => hKb (by rw [← e]; exact hKx)
    rw [far x hxb, hf x (Nat.lt_of_lt_of_le hx hsz) hKx]
    exact h.frame x hx hKx
  · have e' := e
    cases e'
    by_cases hiq' : i < q
    · exact ElX.mono (f0.trans f1) _ _ _ (h.dn i hi hiq' _ _ e)
    · obtain rfl : i = q := by omega
      rw [hxq, elX_iff]
      refine ⟨f2, fun u hu2 => ?_⟩
      rw [d3] at hu2
      cases hu2
      exact TrX.mono f1 ht
theorem RenW.fin {ot : Env ByteArray} {K : Kn} {n0 : Nat} {w wr : World} {o s : ByteArray} {n : Int} {a : Option Addr} {l : List Ex} {c : Nat} (h : RenW ot K n0 w wr w.heap.size o n s a l c l.length) (hn : n0 ≤ w.heap.size + 1) (hKR : K (w.heap.size + 1) = none) (x y z u : Value) :
    KnM ot K ((((wr.setCell ⟨w.heap.size + 1, 0, none⟩ x).setCell ⟨w.heap.size + 1, 1, none⟩ y).setCell ⟨w.heap.size + 1, 2, none⟩ z).setCell ⟨w.heap.size + 1, 3, none⟩ u) ∧ FrK K w ((((wr.setCell ⟨w.heap.size + 1, 0, none⟩ x).setCell ⟨w.heap.size + 1, 1, none⟩ y).setCell ⟨w.heap.size + 1, 2, none⟩ z).setCell ⟨w.heap.size + 1, 3, none⟩ u) ∧
      Below n0 w ((((wr.setCell ⟨w.heap.size + 1, 0, none⟩ x).setCell ⟨w.heap.size + 1, 1, none⟩ y).setCell ⟨w.heap.size + 1, 2, none⟩ z).setCell ⟨w.heap.size + 1, 3, none⟩ u) ∧ FxM ot K w ((((wr.setCell ⟨w.heap.size + 1, 0, none⟩ x).setCell ⟨w.heap.size + 1, 1, none⟩ y).setCell ⟨w.heap.size + 1, 2, none⟩ z).setCell ⟨w.heap.size + 1, 3, none⟩ u) ∧
      TrX ot K ((((wr.setCell ⟨w.heap.size + 1, 0, none⟩ x).setCell ⟨w.heap.size + 1, 1, none⟩ y).setCell ⟨w.heap.size + 1, 2, none⟩ z).setCell ⟨w.heap.size + 1, 3, none⟩ u) l (.slice a l.length c) := by
  have far : ∀ b, b ≠ w.heap.size + 1 → ((((wr.setCell ⟨w.heap.size + 1, 0, none⟩ x).setCell ⟨w.heap.size + 1, 1, none⟩ y).setCell ⟨w.heap.size + 1, 2, none⟩ z).setCell ⟨w.heap.size + 1, 3, none⟩ u).heap[b]? = wr.heap[b]? := fun b hb => by
    rw [Below.heap_setCell _ _ _ b hb, Below.heap_setCell _ _ _ b hb, Below.heap_setCell _ _ _ b hb, Below.heap_setCell _ _ _ b hb]
  have f1 : FxM ot K wr ((((wr.setCell ⟨w.heap.size + 1, 0, none⟩ x).setCell ⟨w.heap.size + 1, 1, none⟩ y).setCell ⟨w.heap.size + 1, 2, none⟩ z).setCell ⟨w.heap.size + 1, 3, none⟩ u) := FxM.of_heap fun b hb => far b fun e => hb (by rw [e, hKR])
  refine ⟨fun b ob e => ?_, fun b hb hK => (far b (by omega)).trans (h.frame b hb hK), (((h.below.setCell (p := ⟨w.heap.size + 1, 0, none⟩) hn _).setCell (p := ⟨w.heap.size + 1, 1, none⟩) hn _).setCell (p := ⟨w.heap.size + 1, 2, none⟩) hn _).setCell (p := ⟨w.heap.size + 1, 3, none⟩) hn _, h.fx.trans f1, TrX.mono f1 fun b off k c' e => ?_⟩
  · have hx := far b (fun e2 => by rw [e2, hKR] at e; cases e)
    rcases h.kn b ob e with g | ⟨d, d', t, r1, r2, r3⟩
    · exact .inl (hx.trans g)
    · exact .inr ⟨d, d', t, r1, hx.trans r2, r3⟩
  · rw [elsX_iff]
    simp only [Value.slice.injEq] at e
    exact fun i hi => h.dn i hi hi b off e.1
set_option maxHeartbeats 4000000 in
set_option maxRecDepth 100000 in
theorem ren_any (ot : Env ByteArray) (hid : Idem ot) (K : Kn) (hu : UF K) (n0 : Nat) (hlow : ∀ b, b < n0 → K b = none) (To Mo Tr : Nat) (hk : K To = none ∧ K Mo = none ∧ K Tr = none) :
    ∀ (e : Ex) (u : Value), ExsV K e.l u → e.parts ≤ 1000000000000 → ∀ (s0 : ByteArray), GoodS ot e.op e.s s0 → ∀ w : World, n0 ≤ w.heap.size → KnM ot K w → RenI ot To Mo Tr w →
    Calls Tryd.prog 29 #[.agg #[.string e.op, .int .i64 e.n, .string s0, u], .pointer (some ⟨To, 0, none⟩), .pointer (some ⟨Tr, 0, none⟩)] w fun r w' => r = .returned (.agg #[.string e.op, .int .i64 e.n, .string (rnS ot e.op e.s), u]) ∧ KnM ot K w' ∧ FrK K w w' ∧ Below n0 w w' ∧ FxM ot K w w' ∧ TrX ot K w' e.l u := by
  refine Ex.ind fun o n s l ih u hu hp s0 hg w hn hKM hR => ?_
  simp only [Ex.op, Ex.n, Ex.s, Ex.l] at hu hg ⊢
  obtain ⟨a, c, rfl⟩ := hu.len
  simp only [Ex.parts] at hp
  have hlp := len_partsL l
  have HU := Lib.hid hu
  have IH := Lib.hid ih
  have HG := Lib.hid hg
  have HRI := Lib.hid hR
  have hKM := Lib.hid hKM
  have hrun := fun (w' : World) (h : RenI ot To Mo Tr w') => h.map.run (P := Tryd.prog) Tryd.underlying69 Tryd.underlying9 (d := ⟨#[]⟩) (by kernel_rfl) s0 true
  simp only [if_true] at hrun
  clear hu ih hg hR
  have hb0 : Below w.heap.size w ((w.alloc (.cells #[.string o, .int .i64 n, .string s0, .slice a l.length c] 45)).alloc (.cells #[.string ⟨#[]⟩, .int .i64 0, .string ⟨#[]⟩, .slice none 0 0] 45)) := ((Below.refl _ _).alloc (Nat.le_refl _) _).alloc (by simp) _
  have hRI0 := HRI.out.frame (FrK.of_below (K := K) hb0) hk
  have hl0 := hrun _ hRI0
  have t0 : ((w.alloc (.cells #[.string o, .int .i64 n, .string s0, .slice a l.length c] 45)).alloc (.cells #[.string ⟨#[]⟩, .int .i64 0, .string ⟨#[]⟩, .slice none 0 0] 45)).cell? ⟨To, 0, none⟩ = some (.map (some Mo)) := by have h := hRI0.box; simp [World.cell?, h]
  clear hb0 hrun hRI0
  cases hot : ot s0 with
  | none =>
    rw [hot] at hl0
    simp only [Option.getD_none, Option.isSome_none] at hl0
    have HS1 := Lib.hid (show s0 = rnS ot o s from by
      have h := HG.out
      unfold GoodS at h
      rw [← h]
      unfold rnS renS
      rw [hot]
      split <;> rfl)
    go_enter Tryd.func29, Tryd.ntmps29
    go_wp2_with fail
    have hb1 : Below w.heap.size w ((w.alloc (.cells #[.string o, .int .i64 n, .string s0, .slice a l.length c] 45)).alloc (.cells #[.string ⟨#[]⟩, .int .i64 0, .string ⟨#[]⟩, .slice none 0 0] 45)) := ((Below.refl _ _).alloc (Nat.le_refl _) _).alloc (by simp) _
    have hp1 : ((w.alloc (.cells #[.string o, .int .i64 n, .string s0, .slice a l.length c] 45)).alloc (.cells #[.string ⟨#[]⟩, .int .i64 0, .string ⟨#[]⟩, .slice none 0 0] 45)).heap[w.heap.size]? = some (.cells #[.string o, .int .i64 n, .string s0, .slice a l.length c] 45 (0, 0)) := by
      rw [Below.heap_alloc _ _ _ (by simp)]; exact heap_alloc_new _ _
    have hr1 : ((w.alloc (.cells #[.string o, .int .i64 n, .string s0, .slice a l.length c] 45)).alloc (.cells #[.string ⟨#[]⟩, .int .i64 0, .string ⟨#[]⟩, .slice none 0 0] 45)).heap[w.heap.size + 1]? = some (.cells #[.string ⟨#[]⟩, .int .i64 0, .string ⟨#[]⟩, .slice none 0 0] 45 (0, 0)) := by
      rw [show w.heap.size + 1 = (w.alloc (.cells #[.string o, .int .i64 n, .string s0, .slice a l.length c] 45)).heap.size from by simp]; exact heap_alloc_new _ _
    have HR := Lib.hid (show RenW ot K n0 w ((w.alloc (.cells #[.string o, .int .i64 n, .string s0, .slice a l.length c] 45)).alloc (.cells #[.string ⟨#[]⟩, .int .i64 0, .string ⟨#[]⟩, .slice none 0 0] 45)) w.heap.size o n s0 a l c 0 from ⟨hb1.mono (by omega), fun b hb _ => hb1.block b hb, hKM.out.below hb1, hp1, hr1, FxM.of_below hKM.out hb1, fun _ _ h => absurd h (Nat.not_lt_zero _)⟩)
    generalize (w.alloc (.cells #[.string o, .int .i64 n, .string s0, .slice a l.length c] 45)).alloc (.cells #[.string ⟨#[]⟩, .int .i64 0, .string ⟨#[]⟩, .slice none 0 0] 45) = W1 at *
    clear hb1 hp1 hr1
    go_loopw [26] (fun i wr => ∃ q : Nat, i = .int .i64 q ∧ q ≤ l.length ∧ RenW ot K n0 w wr w.heap.size o n s0 a l c q) (fun i _ => l.length - (intOf i).toNat)
    case atStart => exact ⟨0, rfl, Nat.zero_le _, HR.out⟩
    case round =>
      clear HR
      obtain ⟨q, rfl, hq, hRW⟩ := hrel
      have HW := Lib.hid hRW
      clear hRW
      by_cases hql : q < l.length
      · obtain ⟨b, off, ax, cx, ha, d0, d1, d2, d3, hx⟩ := ExsV.at HU.out hql
        subst ha
        obtain ⟨u2, hu2e, hu2⟩ := hx
        cases hu2e
        have hmem := List.getElem_mem hql
        have hpx : l[q].parts ≤ 1000000000000 := by have := getElem_parts l q hql; omega
        obtain ⟨s2, hg2, c0, c1, c2, c3⟩ := HW.out.kn.cells d0 d1 d2 d3
        have HD := Lib.hid (And.intro d0 (And.intro d1 (And.intro d2 d3)))
        have hRIr := HRI.out.frame HW.out.frame hk
        have hnr : n0 ≤ wr.drew.heap.size := Nat.le_trans hn HW.out.below.size
        have hcall := IH.out l[q] hmem _ hu2 hpx s2 hg2 wr.drew hnr (HW.out.kn.below (Below.refl _ _).drew) (hRIr.frame (FrK.of_below (K := K) (Below.refl _ _).drew) hk)
        have HC := Lib.hid hcall
        have hKB : ∀ b, w.heap.size ≤ b → K b = none := fun b hb => by
          cases e : K b with
          | none => rfl
          | some ob => have := hKM.out.lt e; omega
        have b3 : wr.drew.cell? ⟨w.heap.size, 3, none⟩ = some (.slice (some ⟨b, off, none⟩) l.length c) := (cells4_of HW.out.box).2.2.2.1
        have tr : wr.drew.cell? ⟨Tr, 0, none⟩ = some (.func (.func 29) #[] #[.pointer (some ⟨To, 0, none⟩), .pointer (some ⟨Tr, 0, none⟩)]) := by have h := hRIr.fn; show World.cell? wr _ = _; simp [World.cell?, h]
        clear d0 d1 d2 d3 hcall hRIr hu2
        generalize hxq : l[q] = x at *
        have HXQ := Lib.hid hxq
        clear hxq
        go_wp2_with fail
        go_region_law (first | (go_simp; go_at_call 29; refine HC.out.mono ?_; rintro r wc ⟨rfl, hk3, hf3, hb3, hm3, ht3⟩; obtain ⟨s4, _, e0, e1, e2, e3⟩ := hk3.cells HD.out.1 HD.out.2.1 HD.out.2.2.1 HD.out.2.2.2; have hz0 := hk3.unf hu HD.out.1 (off + q * 4); have hz1 := hk3.unf hu HD.out.1 (off + q * 4 + 1); have hz2 := hk3.unf hu HD.out.1 (off + q * 4 + 2); have hz3 := hk3.unf hu HD.out.1 (off + q * 4 + 3); have hfin := HW.out.turn hn hlow hu hKB hid hql HXQ.out hf3 hb3 HD.out.1 HD.out.2.1 HD.out.2.2.1 HD.out.2.2.2 hk3 hm3 ht3; have bc3 := (cells4_of (hfin.2)).2.2.2.1))
        all_goals go_wp2_with fail
        all_goals go_roundw
        all_goals first | exact ⟨q + 1, by go_num, by omega, hfin.1⟩ | (simp [intOf]; omega)
      · obtain rfl : q = l.length := by omega
        have hKR : K (w.heap.size + 1) = none := by
          cases e : K (w.heap.size + 1) with
          | none => rfl
          | some ob => have := hKM.out.lt e; omega
        obtain ⟨q0, q1, q2, q3, _⟩ := cells4_of HW.out.box
        obtain ⟨r0, r1, r2, r3, f0, f1, f2, f3, _⟩ := cells4_of HW.out.res
        have HR2 := Lib.hid (set4_of HW.out.res (.string o) (.int .i64 n) (.string s0) (.slice a l.length c))
        have HF := Lib.hid (HW.out.fin (by omega) hKR (.string o) (.int .i64 n) (.string s0) (.slice a l.length c))
        clear HW
        go_wp2_with fail
        obtain ⟨e0, e1, e2, e3, _⟩ := cells4_of HR2.out
        refine bodyPost_ret (v := .agg #[.string o, .int .i64 n, .string s0, .slice a l.length c]) (by simp [results, Tryd.results29, go_sem, e0, e1, e2, e3]) rfl ?_
        exact ⟨by rw [← HS1.out], HF.out⟩
  | some t =>
    rw [hot] at hl0
    simp only [Option.getD_some, Option.isSome_some] at hl0
    by_cases ho : o = oName
    · have t1 : (o.toList == [110, 97, 109, 101]) = true := by rw [← dLit]; simpa using ho
      have HS1 := Lib.hid (show t = rnS ot o s from by
        have h := HG.out
        unfold GoodS at h
        rw [← h]
        unfold rnS renS
        rw [hot, if_pos ho]
        rfl)
      clear ho
      go_enter Tryd.func29, Tryd.ntmps29
      go_wp2_with fail
      have hb1 : Below w.heap.size w ((w.alloc (.cells #[.string o, .int .i64 n, .string t, .slice a l.length c] 45)).alloc (.cells #[.string ⟨#[]⟩, .int .i64 0, .string ⟨#[]⟩, .slice none 0 0] 45)) := ((Below.refl _ _).alloc (Nat.le_refl _) _).alloc (by simp) _
      have hp1 : ((w.alloc (.cells #[.string o, .int .i64 n, .string t, .slice a l.length c] 45)).alloc (.cells #[.string ⟨#[]⟩, .int .i64 0, .string ⟨#[]⟩, .slice none 0 0] 45)).heap[w.heap.size]? = some (.cells #[.string o, .int .i64 n, .string t, .slice a l.length c] 45 (0, 0)) := by
        rw [Below.heap_alloc _ _ _ (by simp)]; exact heap_alloc_new _ _
      have hr1 : ((w.alloc (.cells #[.string o, .int .i64 n, .string t, .slice a l.length c] 45)).alloc (.cells #[.string ⟨#[]⟩, .int .i64 0, .string ⟨#[]⟩, .slice none 0 0] 45)).heap[w.heap.size + 1]? = some (.cells #[.string ⟨#[]⟩, .int .i64 0, .string ⟨#[]⟩, .slice none 0 0] 45 (0, 0)) := by
        rw [show w.heap.size + 1 = (w.alloc (.cells #[.string o, .int .i64 n, .string t, .slice a l.length c] 45)).heap.size from by simp]; exact heap_alloc_new _ _
      have HR := Lib.hid (show RenW ot K n0 w ((w.alloc (.cells #[.string o, .int .i64 n, .string t, .slice a l.length c] 45)).alloc (.cells #[.string ⟨#[]⟩, .int .i64 0, .string ⟨#[]⟩, .slice none 0 0] 45)) w.heap.size o n t a l c 0 from ⟨hb1.mono (by omega), fun b hb _ => hb1.block b hb, hKM.out.below hb1, hp1, hr1, FxM.of_below hKM.out hb1, fun _ _ h => absurd h (Nat.not_lt_zero _)⟩)
      generalize (w.alloc (.cells #[.string o, .int .i64 n, .string t, .slice a l.length c] 45)).alloc (.cells #[.string ⟨#[]⟩, .int .i64 0, .string ⟨#[]⟩, .slice none 0 0] 45) = W1 at *
      clear hb1 hp1 hr1
      go_loopw [26] (fun i wr => ∃ q : Nat, i = .int .i64 q ∧ q ≤ l.length ∧ RenW ot K n0 w wr w.heap.size o n t a l c q) (fun i _ => l.length - (intOf i).toNat)
      case atStart => exact ⟨0, rfl, Nat.zero_le _, HR.out⟩
      case round =>
        clear HR
        obtain ⟨q, rfl, hq, hRW⟩ := hrel
        have HW := Lib.hid hRW
        clear hRW
        by_cases hql : q < l.length
        · obtain ⟨b, off, ax, cx, ha, d0, d1, d2, d3, hx⟩ := ExsV.at HU.out hql
          subst ha
          obtain ⟨u2, hu2e, hu2⟩ := hx
          cases hu2e
          have hmem := List.getElem_mem hql
          have hpx : l[q].parts ≤ 1000000000000 := by have := getElem_parts l q hql; omega
          obtain ⟨s2, hg2, c0, c1, c2, c3⟩ := HW.out.kn.cells d0 d1 d2 d3
          have HD := Lib.hid (And.intro d0 (And.intro d1 (And.intro d2 d3)))
          have hRIr := HRI.out.frame HW.out.frame hk
          have hnr : n0 ≤ wr.drew.heap.size := Nat.le_trans hn HW.out.below.size
          have hcall := IH.out l[q] hmem _ hu2 hpx s2 hg2 wr.drew hnr (HW.out.kn.below (Below.refl _ _).drew) (hRIr.frame (FrK.of_below (K := K) (Below.refl _ _).drew) hk)
          have HC := Lib.hid hcall
          have hKB : ∀ b, w.heap.size ≤ b → K b = none := fun b hb => by
            cases e : K b with
            | none => rfl
            | some ob => have := hKM.out.lt e; omega
          have b3 : wr.drew.cell? ⟨w.heap.size, 3, none⟩ = some (.slice (some ⟨b, off, none⟩) l.length c) := (cells4_of HW.out.box).2.2.2.1
          have tr : wr.drew.cell? ⟨Tr, 0, none⟩ = some (.func (.func 29) #[] #[.pointer (some ⟨To, 0, none⟩), .pointer (some ⟨Tr, 0, none⟩)]) := by have h := hRIr.fn; show World.cell? wr _ = _; simp [World.cell?, h]
          clear d0 d1 d2 d3 hcall hRIr hu2
          generalize hxq : l[q] = x at *
          have HXQ := Lib.hid hxq
          clear hxq
          go_wp2_with fail
          go_region_law (first | (go_simp; go_at_call 29; refine HC.out.mono ?_; rintro r wc ⟨rfl, hk3, hf3, hb3, hm3, ht3⟩; obtain ⟨s4, _, e0, e1, e2, e3⟩ := hk3.cells HD.out.1 HD.out.2.1 HD.out.2.2.1 HD.out.2.2.2; have hz0 := hk3.unf hu HD.out.1 (off + q * 4); have hz1 := hk3.unf hu HD.out.1 (off + q * 4 + 1); have hz2 := hk3.unf hu HD.out.1 (off + q * 4 + 2); have hz3 := hk3.unf hu HD.out.1 (off + q * 4 + 3); have hfin := HW.out.turn hn hlow hu hKB hid hql HXQ.out hf3 hb3 HD.out.1 HD.out.2.1 HD.out.2.2.1 HD.out.2.2.2 hk3 hm3 ht3; have bc3 := (cells4_of (hfin.2)).2.2.2.1))
          all_goals go_wp2_with fail
          all_goals go_roundw
          all_goals first | exact ⟨q + 1, by go_num, by omega, hfin.1⟩ | (simp [intOf]; omega)
        · obtain rfl : q = l.length := by omega
          have hKR : K (w.heap.size + 1) = none := by
            cases e : K (w.heap.size + 1) with
            | none => rfl
            | some ob => have := hKM.out.lt e; omega
          obtain ⟨q0, q1, q2, q3, _⟩ := cells4_of HW.out.box
          obtain ⟨r0, r1, r2, r3, f0, f1, f2, f3, _⟩ := cells4_of HW.out.res
          have HR2 := Lib.hid (set4_of HW.out.res (.string o) (.int .i64 n) (.string t) (.slice a l.length c))
          have HF := Lib.hid (HW.out.fin (by omega) hKR (.string o) (.int .i64 n) (.string t) (.slice a l.length c))
          clear HW
          go_wp2_with fail
          obtain ⟨e0, e1, e2, e3, _⟩ := cells4_of HR2.out
          refine bodyPost_ret (v := .agg #[.string o, .int .i64 n, .string t, .slice a l.length c]) (by simp [results, Tryd.results29, go_sem, e0, e1, e2, e3]) rfl ?_
          exact ⟨by rw [← HS1.out], HF.out⟩
    · have t1 : (o.toList == [110, 97, 109, 101]) = false := not_lit _ ho
      have HS1 := Lib.hid (show s0 = rnS ot o s from by
        have h := HG.out.other ho
        rw [h]
        unfold rnS
        rw [if_neg ho])
      clear ho
      go_enter Tryd.func29, Tryd.ntmps29
      go_wp2_with fail
      have hb1 : Below w.heap.size w ((w.alloc (.cells #[.string o, .int .i64 n, .string s0, .slice a l.length c] 45)).alloc (.cells #[.string ⟨#[]⟩, .int .i64 0, .string ⟨#[]⟩, .slice none 0 0] 45)) := ((Below.refl _ _).alloc (Nat.le_refl _) _).alloc (by simp) _
      have hp1 : ((w.alloc (.cells #[.string o, .int .i64 n, .string s0, .slice a l.length c] 45)).alloc (.cells #[.string ⟨#[]⟩, .int .i64 0, .string ⟨#[]⟩, .slice none 0 0] 45)).heap[w.heap.size]? = some (.cells #[.string o, .int .i64 n, .string s0, .slice a l.length c] 45 (0, 0)) := by
        rw [Below.heap_alloc _ _ _ (by simp)]; exact heap_alloc_new _ _
      have hr1 : ((w.alloc (.cells #[.string o, .int .i64 n, .string s0, .slice a l.length c] 45)).alloc (.cells #[.string ⟨#[]⟩, .int .i64 0, .string ⟨#[]⟩, .slice none 0 0] 45)).heap[w.heap.size + 1]? = some (.cells #[.string ⟨#[]⟩, .int .i64 0, .string ⟨#[]⟩, .slice none 0 0] 45 (0, 0)) := by
        rw [show w.heap.size + 1 = (w.alloc (.cells #[.string o, .int .i64 n, .string s0, .slice a l.length c] 45)).heap.size from by simp]; exact heap_alloc_new _ _
      have HR := Lib.hid (show RenW ot K n0 w ((w.alloc (.cells #[.string o, .int .i64 n, .string s0, .slice a l.length c] 45)).alloc (.cells #[.string ⟨#[]⟩, .int .i64 0, .string ⟨#[]⟩, .slice none 0 0] 45)) w.heap.size o n s0 a l c 0 from ⟨hb1.mono (by omega), fun b hb _ => hb1.block b hb, hKM.out.below hb1, hp1, hr1, FxM.of_below hKM.out hb1, fun _ _ h => absurd h (Nat.not_lt_zero _)⟩)
      generalize (w.alloc (.cells #[.string o, .int .i64 n, .string s0, .slice a l.length c] 45)).alloc (.cells #[.string ⟨#[]⟩, .int .i64 0, .string ⟨#[]⟩, .slice none 0 0] 45) = W1 at *
      clear hb1 hp1 hr1
      go_loopw [26] (fun i wr => ∃ q : Nat, i = .int .i64 q ∧ q ≤ l.length ∧ RenW ot K n0 w wr w.heap.size o n s0 a l c q) (fun i _ => l.length - (intOf i).toNat)
      case atStart => exact ⟨0, rfl, Nat.zero_le _, HR.out⟩
      case round =>
        clear HR
        obtain ⟨q, rfl, hq, hRW⟩ := hrel
        have HW := Lib.hid hRW
        clear hRW
        by_cases hql : q < l.length
        · obtain ⟨b, off, ax, cx, ha, d0, d1, d2, d3, hx⟩ := ExsV.at HU.out hql
          subst ha
          obtain ⟨u2, hu2e, hu2⟩ := hx
          cases hu2e
          have hmem := List.getElem_mem hql
          have hpx : l[q].parts ≤ 1000000000000 := by have := getElem_parts l q hql; omega
          obtain ⟨s2, hg2, c0, c1, c2, c3⟩ := HW.out.kn.cells d0 d1 d2 d3
          have HD := Lib.hid (And.intro d0 (And.intro d1 (And.intro d2 d3)))
          have hRIr := HRI.out.frame HW.out.frame hk
          have hnr : n0 ≤ wr.drew.heap.size := Nat.le_trans hn HW.out.below.size
          have hcall := IH.out l[q] hmem _ hu2 hpx s2 hg2 wr.drew hnr (HW.out.kn.below (Below.refl _ _).drew) (hRIr.frame (FrK.of_below (K := K) (Below.refl _ _).drew) hk)
          have HC := Lib.hid hcall
          have hKB : ∀ b, w.heap.size ≤ b → K b = none := fun b hb => by
            cases e : K b with
            | none => rfl
            | some ob => have := hKM.out.lt e; omega
          have b3 : wr.drew.cell? ⟨w.heap.size, 3, none⟩ = some (.slice (some ⟨b, off, none⟩) l.length c) := (cells4_of HW.out.box).2.2.2.1
          have tr : wr.drew.cell? ⟨Tr, 0, none⟩ = some (.func (.func 29) #[] #[.pointer (some ⟨To, 0, none⟩), .pointer (some ⟨Tr, 0, none⟩)]) := by have h := hRIr.fn; show World.cell? wr _ = _; simp [World.cell?, h]
          clear d0 d1 d2 d3 hcall hRIr hu2
          generalize hxq : l[q] = x at *
          have HXQ := Lib.hid hxq
          clear hxq
          go_wp2_with fail
          go_region_law (first | (go_simp; go_at_call 29; refine HC.out.mono ?_; rintro r wc ⟨rfl, hk3, hf3, hb3, hm3, ht3⟩; obtain ⟨s4, _, e0, e1, e2, e3⟩ := hk3.cells HD.out.1 HD.out.2.1 HD.out.2.2.1 HD.out.2.2.2; have hz0 := hk3.unf hu HD.out.1 (off + q * 4); have hz1 := hk3.unf hu HD.out.1 (off + q * 4 + 1); have hz2 := hk3.unf hu HD.out.1 (off + q * 4 + 2); have hz3 := hk3.unf hu HD.out.1 (off + q * 4 + 3); have hfin := HW.out.turn hn hlow hu hKB hid hql HXQ.out hf3 hb3 HD.out.1 HD.out.2.1 HD.out.2.2.1 HD.out.2.2.2 hk3 hm3 ht3; have bc3 := (cells4_of (hfin.2)).2.2.2.1))
          all_goals go_wp2_with fail
          all_goals go_roundw
          all_goals first | exact ⟨q + 1, by go_num, by omega, hfin.1⟩ | (simp [intOf]; omega)
        · obtain rfl : q = l.length := by omega
          have hKR : K (w.heap.size + 1) = none := by
            cases e : K (w.heap.size + 1) with
            | none => rfl
            | some ob => have := hKM.out.lt e; omega
          obtain ⟨q0, q1, q2, q3, _⟩ := cells4_of HW.out.box
          obtain ⟨r0, r1, r2, r3, f0, f1, f2, f3, _⟩ := cells4_of HW.out.res
          have HR2 := Lib.hid (set4_of HW.out.res (.string o) (.int .i64 n) (.string s0) (.slice a l.length c))
          have HF := Lib.hid (HW.out.fin (by omega) hKR (.string o) (.int .i64 n) (.string s0) (.slice a l.length c))
          clear HW
          go_wp2_with fail
          obtain ⟨e0, e1, e2, e3, _⟩ := cells4_of HR2.out
          refine bodyPost_ret (v := .agg #[.string o, .int .i64 n, .string s0, .slice a l.length c]) (by simp [results, Tryd.results29, go_sem, e0, e1, e2, e3]) rfl ?_
          exact ⟨by rw [← HS1.out], HF.out⟩
end Go.Proofs.YthihoafemahgmaaDoor
