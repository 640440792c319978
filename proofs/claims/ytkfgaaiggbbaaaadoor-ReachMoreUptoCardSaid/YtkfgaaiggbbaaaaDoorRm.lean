/- Walks: lustrumlaw2.ReachMore. (Printed by gen_rm.py.) -/
import Derived.Test.YtkfgaaiggbbaaaaDoorBare
import Derived.Test.YtkfgaaiggbbaaaaDoorEof
import Derived.Test.YtkfgaaiggbbaaaaDoorVsA
namespace Go.Proofs.YtkfgaaiggbbaaaaDoor
set_option maxRecDepth 100000
set_option maxHeartbeats 16000000
open Go.RowKit Mx
theorem found_k {ks : Env Int} {ord : List Nat} {p : Pr} {choices : List (List Vl)} {most : Nat} (hm : 1 ≤ most) {i : Nat} {l : List StE} {c : List Vl} {k : Int} (h : searchM ks ord p choices most = .found i l c k) : -1 ≤ k := by
 have hp := Bf.search_post (stR (RP false 0 ks p) (cdOf p ord) p.ins) (nxR (RP false 0 ks p) (cdOf p ord) p.ins) (cs := choices) (s0 := startS (RP false 0 ks p) p) (c0 := []) hm
 unfold searchM at h
 rw [h] at hp
 obtain ⟨_, _, _, hst, _⟩ := hp
 exact (wrongK_last hst).1
theorem reachMore_any (H : Kn) (T : LevelsAt H) (sp : Nat → Addr) (p : Pr) (vi vo vl va vc : Value) (hp : PrP H p vi vo vl va vc) (a b : List (List Vl)) (vin vmo : Value) (hi : InsV H a vin) (hi2 : InsV H b vmo) (hsz : p.ins.length ≤ 1048576 ∧ p.outs.length ≤ 1048576 ∧ Ex.weightL p.terms ≤ 1048576 ∧ a.length ≤ 1048576 ∧ b.length ≤ 1048576 ∧ (∀ x ∈ a, x.length ≤ 1048576) ∧ ∀ x ∈ b, x.length ≤ 1048576) (w : World) (hH : H.In w) (S : Sen5 w sp) :
  Calls Tryd.prog 6 #[.agg #[vi, vo, vl, va, vc], vin, vmo] w fun r w' => r = .returned (.bool true) ∧ Below w.heap.size w w' := by
 obtain ⟨z1, z2, z3, z4, z5, z6, z7⟩ := hsz
 have hle : ∀ w1, Below w.heap.size w w1 → LevelsAt (allKn w1) := fun w1 hb => T.le (kn_le_all (hH.below hb))
 have HLE := Lib.hid hle
 have hpl := partsL_le_weightL p.terms
 have hlw : p.fl.length + p.as.length + p.cs.length ≤ Ex.weightL p.terms := by
  have h := len_weightL p.terms
  have h2 : p.terms.length = p.fl.length + p.as.length + p.cs.length := by simp only [Pr.terms, List.length_append, List.length_map]
  omega
 clear hle
 have HP := Lib.hid hp
 obtain ⟨h1, h2, h3, h4, h5⟩ := hp
 obtain ⟨ai, ci, rfl⟩ := h1.len
 obtain ⟨ao, co, rfl⟩ := h2.len
 obtain ⟨al, cl, rfl⟩ := h3.len
 obtain ⟨aa, ca, rfl⟩ := h4.len
 obtain ⟨ac, cc, rfl⟩ := h5.len
 obtain ⟨an, cn, rfl⟩ := hi.len
 obtain ⟨am, cm, rfl⟩ := hi2.len
 have HI := Lib.hid hi
 have HI2 := Lib.hid hi2
 have ZA := Lib.hid (show ∀ x ∈ a, x.length ≤ 100000000 from fun x hx => by have := z6 x hx; omega)
 have ZB := Lib.hid (show ∀ x ∈ b, x.length ≤ 100000000 from fun x hx => by have := z7 x hx; omega)
 clear h1 h2 h3 h4 h5 hi hi2 z6 z7
 have hP0 := heap_alloc_new w (.cells #[.slice ai p.ins.length ci, .slice ao p.outs.length co, .slice al p.fl.length cl, .slice aa p.as.length ca, .slice ac p.cs.length cc] 27)
 have hb0 : Below w.heap.size w (w.alloc (.cells #[.slice ai p.ins.length ci, .slice ao p.outs.length co, .slice al p.fl.length cl, .slice aa p.as.length ca, .slice ac p.cs.length cc] 27)) := (Below.refl _ _).alloc (Nat.le_refl _) _
 have HB0 := Lib.hid hb0
 have HP0 := Lib.hid hP0
 clear hP0 hb0
 go_enter Tryd.func6, Tryd.ntmps6
 go_wp2_with fail
 generalize w.alloc (.cells #[.slice ai p.ins.length ci, .slice ao p.outs.length co, .slice al p.fl.length cl, .slice aa p.as.length ca, .slice ac p.cs.length cc] 27) = W1 at *
 refine (still_any H T sp W1 (hH.below HB0.out) (S.below HB0.out)).mono ?_
 rintro r w1 ⟨rfl, hb1⟩
 have HB1 := Lib.hid (HB0.out.trans (hb1.mono HB0.out.size))
 have HP1 := Lib.hid ((hb1.block w.heap.size (Array.getElem?_eq_some_iff.1 HP0.out).1).trans HP0.out)
 have m0 : w1.cell? ⟨w.heap.size, 0, none⟩ = some (.slice ai p.ins.length ci) := by have h := HP1.out; simp [World.cell?, h]
 have m1 : w1.cell? ⟨w.heap.size, 1, none⟩ = some (.slice ao p.outs.length co) := by have h := HP1.out; simp [World.cell?, h]
 have m2 : w1.cell? ⟨w.heap.size, 2, none⟩ = some (.slice al p.fl.length cl) := by have h := HP1.out; simp [World.cell?, h]
 have m3 : w1.cell? ⟨w.heap.size, 3, none⟩ = some (.slice aa p.as.length ca) := by have h := HP1.out; simp [World.cell?, h]
 have m4 : w1.cell? ⟨w.heap.size, 4, none⟩ = some (.slice ac p.cs.length cc) := by have h := HP1.out; simp [World.cell?, h]
 go_wp2_with fail
 refine (heavy_any H p _ _ _ _ _ HP.out ⟨by omega, by omega, by omega⟩ w1 (hH.below HB1.out)).mono ?_
 rintro r w2 ⟨rfl, hb2⟩
 have HB2 := Lib.hid (HB1.out.trans (hb2.mono HB1.out.size))
 have HP2 := Lib.hid ((hb2.block w.heap.size (Array.getElem?_eq_some_iff.1 HP1.out).1).trans HP1.out)
 clear m0 m1 m2 m3 m4
 have m0 : w2.cell? ⟨w.heap.size, 0, none⟩ = some (.slice ai p.ins.length ci) := by have h := HP2.out; simp [World.cell?, h]
 have m1 : w2.cell? ⟨w.heap.size, 1, none⟩ = some (.slice ao p.outs.length co) := by have h := HP2.out; simp [World.cell?, h]
 have m2 : w2.cell? ⟨w.heap.size, 2, none⟩ = some (.slice al p.fl.length cl) := by have h := HP2.out; simp [World.cell?, h]
 have m3 : w2.cell? ⟨w.heap.size, 3, none⟩ = some (.slice aa p.as.length ca) := by have h := HP2.out; simp [World.cell?, h]
 have m4 : w2.cell? ⟨w.heap.size, 4, none⟩ = some (.slice ac p.cs.length cc) := by have h := HP2.out; simp [World.cell?, h]
 unfold heavyI
 by_cases hh : heavy p = true
 ·rw [if_pos hh]
  go_wp2_with fail
  go_ret
  exact ⟨rfl, HB2.out⟩
 rw [if_neg hh]
 obtain ⟨y1, y2, y3⟩ : Ex.weightL p.terms ≤ 1500 ∧ p.fl.length ≤ 100 ∧ p.ins.length ≤ 40 := by
  unfold heavy at hh
  simp only [Bool.or_eq_true, decide_eq_true_eq, not_or, Nat.not_lt] at hh
  exact ⟨hh.1.1, hh.1.2, hh.2⟩
 clear hh
 by_cases g1 : 12 < a.length
 ·have q1 : (12 : Int) < a.length := by omega
  go_wp2_with fail
  go_ret
  exact ⟨rfl, HB2.out⟩
 by_cases g2 : 12 < b.length
 ·have q1 : ¬ (12 : Int) < a.length := by omega
  have q2 : (12 : Int) < b.length := by omega
  go_wp2_with fail
  go_ret
  exact ⟨rfl, HB2.out⟩
 have q1 : ¬ (12 : Int) < a.length := by omega
 have q2 : ¬ (12 : Int) < b.length := by omega
 go_wp2_with fail
 clear q1 q2
 refine (flatOf_any p _ _ _ _ _ H HP.out ⟨by omega, by omega, by omega, by omega⟩ _ (hH.below HB2.out)).mono ?_
 rintro r w3 ⟨vi3, vo3, vl3, va3, vc3, K3, rfl, hp3, hst3⟩
 have HB3 := Lib.hid (HB2.out.trans (hst3.below.mono HB2.out.size))
 have HP3 := Lib.hid ((hst3.below.block w.heap.size (Array.getElem?_eq_some_iff.1 HP2.out).1).trans HP2.out)
 have HQ3 := Lib.hid (hp3.le (kn_le_all hst3.isin))
 clear hp3 hst3
 clear m0 m1 m2 m3 m4
 have m0 : w3.cell? ⟨w.heap.size, 0, none⟩ = some (.slice ai p.ins.length ci) := by have h := HP3.out; simp [World.cell?, h]
 have m1 : w3.cell? ⟨w.heap.size, 1, none⟩ = some (.slice ao p.outs.length co) := by have h := HP3.out; simp [World.cell?, h]
 have m2 : w3.cell? ⟨w.heap.size, 2, none⟩ = some (.slice al p.fl.length cl) := by have h := HP3.out; simp [World.cell?, h]
 have m3 : w3.cell? ⟨w.heap.size, 3, none⟩ = some (.slice aa p.as.length ca) := by have h := HP3.out; simp [World.cell?, h]
 have m4 : w3.cell? ⟨w.heap.size, 4, none⟩ = some (.slice ac p.cs.length cc) := by have h := HP3.out; simp [World.cell?, h]
 go_wp2_with fail
 refine (in_big H a _ HI.out ⟨by omega, ZA.out⟩ _ (hH.below HB3.out)).mono ?_
 rintro r w4 ⟨vi4, K4, rfl, hv4, hst4⟩
 have HB4 := Lib.hid (HB3.out.trans (hst4.below.mono HB3.out.size))
 have HP4 := Lib.hid ((hst4.below.block w.heap.size (Array.getElem?_eq_some_iff.1 HP3.out).1).trans HP3.out)
 have HQ3 := Lib.hid (HQ3.out.le (kn_le_all (allKn_below hst4.below)))
 have HI4 := Lib.hid (InsV.le (kn_le_all hst4.isin) hv4)
 clear hv4 hst4
 clear m0 m1 m2 m3 m4
 have m0 : w4.cell? ⟨w.heap.size, 0, none⟩ = some (.slice ai p.ins.length ci) := by have h := HP4.out; simp [World.cell?, h]
 have m1 : w4.cell? ⟨w.heap.size, 1, none⟩ = some (.slice ao p.outs.length co) := by have h := HP4.out; simp [World.cell?, h]
 have m2 : w4.cell? ⟨w.heap.size, 2, none⟩ = some (.slice al p.fl.length cl) := by have h := HP4.out; simp [World.cell?, h]
 have m3 : w4.cell? ⟨w.heap.size, 3, none⟩ = some (.slice aa p.as.length ca) := by have h := HP4.out; simp [World.cell?, h]
 have m4 : w4.cell? ⟨w.heap.size, 4, none⟩ = some (.slice ac p.cs.length cc) := by have h := HP4.out; simp [World.cell?, h]
 go_wp2_with fail
 refine (search_any (allKn w4) (HLE.out _ HB4.out) sp p _ _ _ _ _ HQ3.out a _ HI4.out 100 w4 (allKn_in w4) (S.below HB4.out) ⟨by omega, by omega, by omega, by omega, by omega⟩ (by omega) ⟨by omega, ZA.out⟩).mono ?_
 rintro r w5 hpost
 obtain ⟨hb5, hpost5⟩ := hpost.told
 have HB5 := Lib.hid (HB4.out.trans (hb5.mono HB4.out.size))
 have HP5 := Lib.hid ((hb5.block w.heap.size (Array.getElem?_eq_some_iff.1 HP4.out).1).trans HP4.out)
 have HQ3 := Lib.hid (HQ3.out.le (kn_le_all (allKn_below hb5)))
 have HI4 := Lib.hid (InsV.le (kn_le_all (allKn_below hb5)) HI4.out)
 clear hb5 HQ3 HI4
 clear m0 m1 m2 m3 m4
 have hres : ∃ (n : Int) (ta : Option Addr) (tn tc : Nat) (k : Int) (e : Value), r = .returned (.tuple #[.agg #[.int .i64 n, .slice ta tn tc, .int .i64 k], e]) ∧ ((∃ t u, e = .iface t u) ∨ (e = .nilIface ∧ ∃ ks ord, freshGo Env.none p.vars = some ks ∧ orderM p = .ok ord ∧
   ((∃ l, searchM ks ord p a 100 = .ok l ∧ n = l.length ∧ k = -2) ∨ ∃ i l c, searchM ks ord p a 100 = .found i l c k ∧ tn = (Bf.W l i).length + 1 ∧ n = l.length))) := by
  rcases hpost5 with ⟨t, u, rfl⟩ | ⟨_, ks, ord, h1, h2, ⟨l, h3, rfl⟩ | ⟨i, l, c, k, v, h3, rfl, h4⟩⟩
  ·exact ⟨0, none, 0, 0, 0, _, rfl, .inl ⟨t, u, rfl⟩⟩
  ·exact ⟨_, none, 0, 0, _, _, rfl, .inr ⟨rfl, ks, ord, h1, h2, .inl ⟨l, h3, rfl, rfl⟩⟩⟩
  ·obtain ⟨ta, tc, rfl⟩ := h4.len
   exact ⟨_, ta, _, tc, k, _, rfl, .inr ⟨rfl, ks, ord, h1, h2, .inr ⟨i, l, c, h3, by simp, rfl⟩⟩⟩
 clear hpost5
 obtain ⟨xn, ta, tn, tc, xk, e1, rfl, hx⟩ := hres
 have HX := Lib.hid hx
 have he1 : (∃ t u, e1 = .iface t u) ∨ e1 = .nilIface := hx.imp id (·.1)
 clear hx
 have hX0 := heap_alloc_new w5 (.cells #[.int .i64 xn, .slice ta tn tc, .int .i64 xk] 47)
 have hb6 : Below w5.heap.size w5 (w5.alloc (.cells #[.int .i64 xn, .slice ta tn tc, .int .i64 xk] 47)) := (Below.refl _ _).alloc (Nat.le_refl _) _
 have HT6 := Lib.hid hX0
 have HB6 := Lib.hid (HB5.out.trans (hb6.mono HB5.out.size))
 have HP6 := Lib.hid ((hb6.block w.heap.size (Array.getElem?_eq_some_iff.1 HP5.out).1).trans HP5.out)
 have HIA := Lib.hid (show InsV (allKn (w5.alloc (.cells #[.int .i64 xn, .slice ta tn tc, .int .i64 xk] 47))) a (.slice an a.length cn) from InsV.le (kn_le_all (hH.below HB6.out)) HI.out)
 have HIB := Lib.hid (show InsV (allKn (w5.alloc (.cells #[.int .i64 xn, .slice ta tn tc, .int .i64 xk] 47))) b (.slice am b.length cm) from InsV.le (kn_le_all (hH.below HB6.out)) HI2.out)
 clear hX0 hb6
 generalize hw6 : w5.alloc (.cells #[.int .i64 xn, .slice ta tn tc, .int .i64 xk] 47) = w6 at *
 obtain ⟨v7, w7, ys7, hx7, hr7, ho7, hg7⟩ := run_app_ins (allKn_in w6) HIA.out (World.ownsRow_nil w6 w6.heap.size 54 1) (Nat.le_refl _) (by omega)
 rw [Nat.zero_add] at ho7
 have hK7 : (allKn w6).In w7 := (allKn_in w6).grown hg7 (fun g hg => by simp [Value.ownBlock] at hg)
 have hs7 := hg7.size
 obtain ⟨v8, w8, ys8, hx8, hr8, ho8, hg8⟩ := run_app_ins hK7 HIB.out ho7 hs7 (by omega)
 have hK8 : (allKn w6).In w8 := hK7.grown hg8 (fun g hg => (allKn_in w6).isNone (ho7.lt g hg).1)
 have hb7 : Below w6.heap.size w6 w7 := (Below.refl _ _).grown hg7 (Nat.le_refl _) (fun g hg => by simp [Value.ownBlock] at hg)
 have hb8 : Below w6.heap.size w6 w8 := hb7.grown hg8 hs7 (fun g hg => (ho7.lt g hg).1)
 have hln : (a ++ b).length = a.length + b.length := by simp
 rw [← hln] at ho8
 obtain ⟨K8, _, hin8, hv8, _⟩ := slv_of_own (R := IsC) (l := a ++ b) hK8 ho8 (fun g hg => (allKn_in w6).isNone (ho8.lt g hg).1) (RowX.at IsC.pm (IsX.append hx7 hx8))
 obtain ⟨av8, cv8, rfl⟩ := hv8.len
 rw [hln] at hv8 hr8
 obtain ⟨av7, cv7, hv7, _⟩ := own_len ho7
 subst hv7
 have HR7 := Lib.hid hr7
 have HR8 := Lib.hid hr8
 have HIC := Lib.hid (InsV.le (kn_le_all hin8) hv8)
 have ZC := Lib.hid (show ∀ x ∈ a ++ b, x.length ≤ 100000000 from fun x hx => by
  rcases List.mem_append.1 hx with hx | hx
  ·exact ZA.out x hx
  ·exact ZB.out x hx)
 have HB8 := Lib.hid (HB6.out.trans (hb8.mono HB6.out.size))
 have HP8 := Lib.hid ((hb8.block w.heap.size (Array.getElem?_eq_some_iff.1 HP6.out).1).trans HP6.out)
 have HT8 := Lib.hid ((hb8.block w5.heap.size (Array.getElem?_eq_some_iff.1 HT6.out).1).trans HT6.out)
 have hal : (a ++ b).length ≤ 100 := by rw [hln]; omega
 clear hr7 hr8 hK7 hK8 hs7 hg7 hg8 ho7 ho8 hx7 hx8 hb7 hb8 hin8 hv8 hln HI HI2 HT6
 subst hw6
 have m0 : w8.cell? ⟨w.heap.size, 0, none⟩ = some (.slice ai p.ins.length ci) := by have h := HP8.out; simp [World.cell?, h]
 have m1 : w8.cell? ⟨w.heap.size, 1, none⟩ = some (.slice ao p.outs.length co) := by have h := HP8.out; simp [World.cell?, h]
 have m2 : w8.cell? ⟨w.heap.size, 2, none⟩ = some (.slice al p.fl.length cl) := by have h := HP8.out; simp [World.cell?, h]
 have m3 : w8.cell? ⟨w.heap.size, 3, none⟩ = some (.slice aa p.as.length ca) := by have h := HP8.out; simp [World.cell?, h]
 have m4 : w8.cell? ⟨w.heap.size, 4, none⟩ = some (.slice ac p.cs.length cc) := by have h := HP8.out; simp [World.cell?, h]
 go_wp2_with (at_builtin; first | refine wp_append_run rfl _ _ _ _ rfl _ _ rfl rfl _ _ HR7.out ?_ | refine wp_append_run rfl _ _ _ _ rfl _ _ rfl rfl _ _ HR8.out ?_)
 clear HR7 HR8
 go_wp2_with fail
 refine (flatOf_any p _ _ _ _ _ H HP.out ⟨by omega, by omega, by omega, by omega⟩ _ (hH.below HB8.out)).mono ?_
 rintro r w9 ⟨vi9, vo9, vl9, va9, vc9, K9, rfl, hp9, hst9⟩
 have HB9 := Lib.hid (HB8.out.trans (hst9.below.mono HB8.out.size))
 have HP9 := Lib.hid ((hst9.below.block w.heap.size (Array.getElem?_eq_some_iff.1 HP8.out).1).trans HP8.out)
 have HT8 := Lib.hid ((hst9.below.block _ (Array.getElem?_eq_some_iff.1 HT8.out).1).trans HT8.out)
 have HIC := Lib.hid (InsV.le (kn_le_all (allKn_below hst9.below)) HIC.out)
 have HQ9 := Lib.hid (hp9.le (kn_le_all hst9.isin))
 clear hp9 hst9
 clear m0 m1 m2 m3 m4
 have m0 : w9.cell? ⟨w.heap.size, 0, none⟩ = some (.slice ai p.ins.length ci) := by have h := HP9.out; simp [World.cell?, h]
 have m1 : w9.cell? ⟨w.heap.size, 1, none⟩ = some (.slice ao p.outs.length co) := by have h := HP9.out; simp [World.cell?, h]
 have m2 : w9.cell? ⟨w.heap.size, 2, none⟩ = some (.slice al p.fl.length cl) := by have h := HP9.out; simp [World.cell?, h]
 have m3 : w9.cell? ⟨w.heap.size, 3, none⟩ = some (.slice aa p.as.length ca) := by have h := HP9.out; simp [World.cell?, h]
 have m4 : w9.cell? ⟨w.heap.size, 4, none⟩ = some (.slice ac p.cs.length cc) := by have h := HP9.out; simp [World.cell?, h]
 go_wp2_with fail
 refine (in_big _ (a ++ b) _ HIC.out ⟨by omega, ZC.out⟩ w9 (allKn_in w9)).mono ?_
 rintro r w10 ⟨vi10, K10, rfl, hv10, hst10⟩
 clear HIC
 have HB10 := Lib.hid (HB9.out.trans (hst10.below.mono HB9.out.size))
 have HP10 := Lib.hid ((hst10.below.block w.heap.size (Array.getElem?_eq_some_iff.1 HP9.out).1).trans HP9.out)
 have HT8 := Lib.hid ((hst10.below.block _ (Array.getElem?_eq_some_iff.1 HT8.out).1).trans HT8.out)
 have HQ9 := Lib.hid (HQ9.out.le (kn_le_all (allKn_below hst10.below)))
 have HI10 := Lib.hid (InsV.le (kn_le_all hst10.isin) hv10)
 clear hv10 hst10
 clear m0 m1 m2 m3 m4
 have m0 : w10.cell? ⟨w.heap.size, 0, none⟩ = some (.slice ai p.ins.length ci) := by have h := HP10.out; simp [World.cell?, h]
 have m1 : w10.cell? ⟨w.heap.size, 1, none⟩ = some (.slice ao p.outs.length co) := by have h := HP10.out; simp [World.cell?, h]
 have m2 : w10.cell? ⟨w.heap.size, 2, none⟩ = some (.slice al p.fl.length cl) := by have h := HP10.out; simp [World.cell?, h]
 have m3 : w10.cell? ⟨w.heap.size, 3, none⟩ = some (.slice aa p.as.length ca) := by have h := HP10.out; simp [World.cell?, h]
 have m4 : w10.cell? ⟨w.heap.size, 4, none⟩ = some (.slice ac p.cs.length cc) := by have h := HP10.out; simp [World.cell?, h]
 go_wp2_with fail
 refine (search_any (allKn w10) (HLE.out _ HB10.out) sp p _ _ _ _ _ HQ9.out (a ++ b) _ HI10.out 100 w10 (allKn_in w10) (S.below HB10.out) ⟨by omega, by omega, by omega, by omega, by omega⟩ (by omega) ⟨by omega, ZC.out⟩).mono ?_
 rintro r w11 hpost
 obtain ⟨hb11, hpost11⟩ := hpost.told
 have HB11 := Lib.hid (HB10.out.trans (hb11.mono HB10.out.size))
 have HP11 := Lib.hid ((hb11.block w.heap.size (Array.getElem?_eq_some_iff.1 HP10.out).1).trans HP10.out)
 have HT8 := Lib.hid ((hb11.block _ (Array.getElem?_eq_some_iff.1 HT8.out).1).trans HT8.out)
 have HQ9 := Lib.hid (HQ9.out.le (kn_le_all (allKn_below hb11)))
 have HI10 := Lib.hid (InsV.le (kn_le_all (allKn_below hb11)) HI10.out)
 clear hb11 HQ9 HI10
 clear m0 m1 m2 m3 m4
 have hres : ∃ (n : Int) (ta : Option Addr) (tn tc : Nat) (k : Int) (e : Value), r = .returned (.tuple #[.agg #[.int .i64 n, .slice ta tn tc, .int .i64 k], e]) ∧ ((∃ t u, e = .iface t u) ∨ (e = .nilIface ∧ ∃ ks ord, freshGo Env.none p.vars = some ks ∧ orderM p = .ok ord ∧
   ((∃ l, searchM ks ord p (a ++ b) 100 = .ok l ∧ n = l.length ∧ k = -2) ∨ ∃ i l c, searchM ks ord p (a ++ b) 100 = .found i l c k ∧ tn = (Bf.W l i).length + 1 ∧ n = l.length))) := by
  rcases hpost11 with ⟨t, u, rfl⟩ | ⟨_, ks, ord, h1, h2, ⟨l, h3, rfl⟩ | ⟨i, l, c, k, v, h3, rfl, h4⟩⟩
  ·exact ⟨0, none, 0, 0, 0, _, rfl, .inl ⟨t, u, rfl⟩⟩
  ·exact ⟨_, none, 0, 0, _, _, rfl, .inr ⟨rfl, ks, ord, h1, h2, .inl ⟨l, h3, rfl, rfl⟩⟩⟩
  ·obtain ⟨ta, tc, rfl⟩ := h4.len
   exact ⟨_, ta, _, tc, k, _, rfl, .inr ⟨rfl, ks, ord, h1, h2, .inr ⟨i, l, c, h3, by simp, rfl⟩⟩⟩
 clear hpost11
 obtain ⟨yn, tb, tm, td, yk, e2, rfl, hy⟩ := hres
 have HY := Lib.hid hy
 clear hy
 have hX0 := heap_alloc_new w11 (.cells #[.int .i64 yn, .slice tb tm td, .int .i64 yk] 47)
 have hb12 : Below w11.heap.size w11 (w11.alloc (.cells #[.int .i64 yn, .slice tb tm td, .int .i64 yk] 47)) := (Below.refl _ _).alloc (Nat.le_refl _) _
 have hT1 := (hb12.block w5.heap.size (Array.getElem?_eq_some_iff.1 HT8.out).1).trans HT8.out
 obtain ⟨a0, a1, a2, _⟩ := cell3_of hT1
 obtain ⟨b0, b1, b2, _⟩ := cell3_of hX0
 have HB12 := Lib.hid (HB11.out.trans (hb12.mono HB11.out.size))
 clear hX0 hb12 hT1
 rcases HX.out with ⟨t, u, rfl⟩ | ⟨rfl, ks, ord, hks, ho, hx⟩
 ·go_wp2_with fail
  go_ret
  exact ⟨rfl, HB12.out⟩
 rcases HY.out with ⟨t, u, rfl⟩ | ⟨rfl, ks', ord', hks', ho', hy⟩
 ·go_wp2_with fail
  go_ret
  exact ⟨rfl, HB12.out⟩
 rw [hks] at hks'
 cases hks'
 rw [ho] at ho'
 cases ho'
 clear HX HY he1
 rcases hx with ⟨l, h3, rfl, rfl⟩ | ⟨i, l, c, h3, rfl, rfl⟩
 ·rcases hy with ⟨l', h3', rfl, rfl⟩ | ⟨i', l', c', h3', rfl, rfl⟩
  ·have hq : l.length ≤ l'.length := Bf.more_ok _ _ (fun c hc => List.mem_append_left _ hc) (by decide) h3 h3'
   have q : (l.length : Int) ≤ l'.length := by omega
   clear h3 h3' hq
   go_wp2_with fail
   go_ret
   exact ⟨rfl, HB12.out⟩
  ·have q := found_k (by decide) h3'
   have q2 : -2 < yk := by omega
   clear h3 h3'
   go_wp2_with fail
   go_ret
   exact ⟨rfl, HB12.out⟩
 ·have q := found_k (by decide) h3
  have q2 : -2 < xk := by omega
  have hm := Bf.more_found (a := a) (cs := a ++ b) _ _ (fun c hc => List.mem_append_left _ hc) (c1 := []) (by decide) h3
  rcases hy with ⟨l', h3', rfl, rfl⟩ | ⟨i', l', c', h3', rfl, rfl⟩
  ·unfold searchM at h3'
   rw [h3'] at hm
   exact absurd hm (fun h => h)
  ·have h5 := found_k (by decide) h3'
   have q3 : -2 < yk := by omega
   unfold searchM at h3'
   rw [h3'] at hm
   dsimp only at hm
   have q4 : (((Bf.W l' i').length + 1 : Nat) : Int) ≤ (((Bf.W l i).length + 1 : Nat) : Int) := by omega
   clear h3 h3' hm
   generalize (Bf.W l' i').length + 1 = X1 at *
   generalize (Bf.W l i).length + 1 = X2 at *
   go_wp2_with fail
   go_ret
   exact ⟨rfl, HB12.out⟩
end Go.Proofs.YtkfgaaiggbbaaaaDoor
