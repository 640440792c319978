/- Walks: lustrumlaw2.ReachTraces. (Printed by gen_rtr.py.) -/
import Derived.Test.YtmeldgjlgifdhaaDoorBare
import Derived.Test.YtmeldgjlgifdhaaDoorEof
import Derived.Test.YtmeldgjlgifdhaaDoorVsA
namespace Go.Proofs.YtmeldgjlgifdhaaDoor
set_option maxRecDepth 100000
set_option maxHeartbeats 16000000
open Go.RowKit Mx
theorem reachTraces_any (H : Kn) (T : LevelsAt H) (sp : Nat → Addr) (p : Pr) (vi vo vl va vc : Value) (hp : PrP H p vi vo vl va vc) (a : List (List Vl)) (vin : Value) (hi : InsV H a vin) (hsz : p.ins.length ≤ 1048576 ∧ p.outs.length ≤ 1048576 ∧ Ex.weightL p.terms ≤ 1048576 ∧ a.length ≤ 1048576 ∧ (∀ x ∈ a, x.length ≤ 1048576)) (w : World) (hH : H.In w) (S : Sen5 w sp) :
  Calls Tryd.prog 5 #[.agg #[vi, vo, vl, va, vc], vin] w fun r w' => r = .returned (.bool true) ∧ Below w.heap.size w w' := by
 obtain ⟨z1, z2, z3, z4, z6⟩ := hsz
 have hle : ∀ w1, Below w.heap.size w w1 → LevelsAt (allKn w1) := fun w1 hb => T.le (kn_le_all (hH.below hb))
 have HLE := Lib.hid hle
 have hpl := partsL_le_weightL p.terms
 have hlw : p.fl.length + p.as.length + p.cs.length ≤ Ex.weightL p.terms := by
  have h := len_weightL p.terms
  have h2 : p.terms.length = p.fl.length + p.as.length + p.cs.length := by simp only [Pr.terms, List.length_append, List.length_map]
  omega
 clear hle
 have HP := Lib.hid hp
 obtain ⟨h1, h2, h3, h4, h5⟩ := hp
 obtain ⟨ai, ci, rfl⟩ := h1.len
 obtain ⟨ao, co, rfl⟩ := h2.len
 obtain ⟨al, cl, rfl⟩ := h3.len
 obtain ⟨aa, ca, rfl⟩ := h4.len
 obtain ⟨ac, cc, rfl⟩ := h5.len
 obtain ⟨an, cn, rfl⟩ := hi.len
 have HI := Lib.hid hi
 have ZA := Lib.hid (show ∀ x ∈ a, x.length ≤ 100000000 from fun x hx => by have := z6 x hx; omega)
 clear h1 h2 h3 h4 h5 hi z6
 have hP0 := heap_alloc_new w (.cells #[.slice ai p.ins.length ci, .slice ao p.outs.length co, .slice al p.fl.length cl, .slice aa p.as.length ca, .slice ac p.cs.length cc] 27)
 have hb0 : Below w.heap.size w (w.alloc (.cells #[.slice ai p.ins.length ci, .slice ao p.outs.length co, .slice al p.fl.length cl, .slice aa p.as.length ca, .slice ac p.cs.length cc] 27)) := (Below.refl _ _).alloc (Nat.le_refl _) _
 have HB0 := Lib.hid hb0
 have HP0 := Lib.hid hP0
 clear hP0 hb0
 go_enter Tryd.func5, Tryd.ntmps5
 go_wp2_with fail
 generalize w.alloc (.cells #[.slice ai p.ins.length ci, .slice ao p.outs.length co, .slice al p.fl.length cl, .slice aa p.as.length ca, .slice ac p.cs.length cc] 27) = W1 at *
 refine (still_any H T sp W1 (hH.below HB0.out) (S.below HB0.out)).mono ?_
 rintro r w1 ⟨rfl, hb1⟩
 have HB1 := Lib.hid (HB0.out.trans (hb1.mono HB0.out.size))
 have HP1 := Lib.hid ((hb1.block w.heap.size (Array.getElem?_eq_some_iff.1 HP0.out).1).trans HP0.out)
 have m0 : w1.cell? ⟨w.heap.size, 0, none⟩ = some (.slice ai p.ins.length ci) := by have h := HP1.out; simp [World.cell?, h]
 have m1 : w1.cell? ⟨w.heap.size, 1, none⟩ = some (.slice ao p.outs.length co) := by have h := HP1.out; simp [World.cell?, h]
 have m2 : w1.cell? ⟨w.heap.size, 2, none⟩ = some (.slice al p.fl.length cl) := by have h := HP1.out; simp [World.cell?, h]
 have m3 : w1.cell? ⟨w.heap.size, 3, none⟩ = some (.slice aa p.as.length ca) := by have h := HP1.out; simp [World.cell?, h]
 have m4 : w1.cell? ⟨w.heap.size, 4, none⟩ = some (.slice ac p.cs.length cc) := by have h := HP1.out; simp [World.cell?, h]
 go_wp2_with fail
 refine (heavy_any H p _ _ _ _ _ HP.out ⟨by omega, by omega, by omega⟩ w1 (hH.below HB1.out)).mono ?_
 rintro r w2 ⟨rfl, hb2⟩
 have HB2 := Lib.hid (HB1.out.trans (hb2.mono HB1.out.size))
 have HP2 := Lib.hid ((hb2.block w.heap.size (Array.getElem?_eq_some_iff.1 HP1.out).1).trans HP1.out)
 clear m0 m1 m2 m3 m4
 have m0 : w2.cell? ⟨w.heap.size, 0, none⟩ = some (.slice ai p.ins.length ci) := by have h := HP2.out; simp [World.cell?, h]
 have m1 : w2.cell? ⟨w.heap.size, 1, none⟩ = some (.slice ao p.outs.length co) := by have h := HP2.out; simp [World.cell?, h]
 have m2 : w2.cell? ⟨w.heap.size, 2, none⟩ = some (.slice al p.fl.length cl) := by have h := HP2.out; simp [World.cell?, h]
 have m3 : w2.cell? ⟨w.heap.size, 3, none⟩ = some (.slice aa p.as.length ca) := by have h := HP2.out; simp [World.cell?, h]
 have m4 : w2.cell? ⟨w.heap.size, 4, none⟩ = some (.slice ac p.cs.length cc) := by have h := HP2.out; simp [World.cell?, h]
 unfold heavyI
 by_cases hh : heavy p = true
 ·rw [if_pos hh]
  go_wp2_with fail
  go_ret
  exact ⟨rfl, HB2.out⟩
 rw [if_neg hh]
 obtain ⟨y1, y2, y3⟩ : Ex.weightL p.terms ≤ 1500 ∧ p.fl.length ≤ 100 ∧ p.ins.length ≤ 40 := by
  unfold heavy at hh
  simp only [Bool.or_eq_true, decide_eq_true_eq, not_or, Nat.not_lt] at hh
  exact ⟨hh.1.1, hh.1.2, hh.2⟩
 clear hh
 by_cases g1 : 20 < a.length
 ·have q1 : (20 : Int) < a.length := by omega
  go_wp2_with fail
  go_ret
  exact ⟨rfl, HB2.out⟩
 have q1 : ¬ (20 : Int) < a.length := by omega
 go_wp2_with fail
 clear q1
 refine (flatOf_any p _ _ _ _ _ H HP.out ⟨by omega, by omega, by omega, by omega⟩ _ (hH.below HB2.out)).mono ?_
 rintro r w3 ⟨vi3, vo3, vl3, va3, vc3, K3, rfl, hp3, hst3⟩
 have HB3 := Lib.hid (HB2.out.trans (hst3.below.mono HB2.out.size))
 have HP3 := Lib.hid ((hst3.below.block w.heap.size (Array.getElem?_eq_some_iff.1 HP2.out).1).trans HP2.out)
 have HQ3 := Lib.hid (hp3.le (kn_le_all hst3.isin))
 clear hp3 hst3
 clear m0 m1 m2 m3 m4
 have m0 : w3.cell? ⟨w.heap.size, 0, none⟩ = some (.slice ai p.ins.length ci) := by have h := HP3.out; simp [World.cell?, h]
 have m1 : w3.cell? ⟨w.heap.size, 1, none⟩ = some (.slice ao p.outs.length co) := by have h := HP3.out; simp [World.cell?, h]
 have m2 : w3.cell? ⟨w.heap.size, 2, none⟩ = some (.slice al p.fl.length cl) := by have h := HP3.out; simp [World.cell?, h]
 have m3 : w3.cell? ⟨w.heap.size, 3, none⟩ = some (.slice aa p.as.length ca) := by have h := HP3.out; simp [World.cell?, h]
 have m4 : w3.cell? ⟨w.heap.size, 4, none⟩ = some (.slice ac p.cs.length cc) := by have h := HP3.out; simp [World.cell?, h]
 go_wp2_with fail
 refine (in_big H a _ HI.out ⟨by omega, ZA.out⟩ _ (hH.below HB3.out)).mono ?_
 rintro r w4 ⟨vi4, K4, rfl, hv4, hst4⟩
 have HB4 := Lib.hid (HB3.out.trans (hst4.below.mono HB3.out.size))
 have HP4 := Lib.hid ((hst4.below.block w.heap.size (Array.getElem?_eq_some_iff.1 HP3.out).1).trans HP3.out)
 have HQ3 := Lib.hid (HQ3.out.le (kn_le_all (allKn_below hst4.below)))
 have HI4 := Lib.hid (InsV.le (kn_le_all hst4.isin) hv4)
 clear hv4 hst4
 clear m0 m1 m2 m3 m4
 have m0 : w4.cell? ⟨w.heap.size, 0, none⟩ = some (.slice ai p.ins.length ci) := by have h := HP4.out; simp [World.cell?, h]
 have m1 : w4.cell? ⟨w.heap.size, 1, none⟩ = some (.slice ao p.outs.length co) := by have h := HP4.out; simp [World.cell?, h]
 have m2 : w4.cell? ⟨w.heap.size, 2, none⟩ = some (.slice al p.fl.length cl) := by have h := HP4.out; simp [World.cell?, h]
 have m3 : w4.cell? ⟨w.heap.size, 3, none⟩ = some (.slice aa p.as.length ca) := by have h := HP4.out; simp [World.cell?, h]
 have m4 : w4.cell? ⟨w.heap.size, 4, none⟩ = some (.slice ac p.cs.length cc) := by have h := HP4.out; simp [World.cell?, h]
 go_wp2_with fail
 refine (search_any (allKn w4) (HLE.out _ HB4.out) sp p _ _ _ _ _ HQ3.out a _ HI4.out 60 w4 (allKn_in w4) (S.below HB4.out) ⟨by omega, by omega, by omega, by omega, by omega⟩ (by omega) ⟨by omega, ZA.out⟩).mono ?_
 rintro r w5 hpost
 obtain ⟨hb5, hpost5⟩ := hpost.told
 have HB5 := Lib.hid (HB4.out.trans (hb5.mono HB4.out.size))
 have HP5 := Lib.hid ((hb5.block w.heap.size (Array.getElem?_eq_some_iff.1 HP4.out).1).trans HP4.out)
 have HQ3 := Lib.hid (HQ3.out.le (kn_le_all (allKn_below hb5)))
 have HI4 := Lib.hid (InsV.le (kn_le_all (allKn_below hb5)) HI4.out)
 clear hb5 HQ3 HI4
 rcases hpost5 with ⟨t, u, rfl⟩ | ⟨hE, ks, ord, hks, ho, ⟨l, h3, rfl⟩ | ⟨i, l, c, k, v, h3, rfl, h4⟩⟩
 ·have hba : Below w5.heap.size w5 (w5.alloc (.cells #[.int .i64 0, .slice none 0 0, .int .i64 0] 47)) := (Below.refl _ _).alloc (Nat.le_refl _) _
  have HBA := Lib.hid (HB5.out.trans (hba.mono HB5.out.size))
  clear hba m0 m1 m2 m3 m4
  go_wp2_with fail
  go_ret
  exact ⟨rfl, HBA.out⟩
 ·have hba : Below w5.heap.size w5 (w5.alloc (.cells #[.int .i64 l.length, .slice none 0 0, .int .i64 (-2)] 47)) := (Below.refl _ _).alloc (Nat.le_refl _) _
  have HBA := Lib.hid (HB5.out.trans (hba.mono HB5.out.size))
  clear hba m0 m1 m2 m3 m4 h3
  go_wp2_with fail
  go_ret
  exact ⟨rfl, HBA.out⟩
 obtain ⟨hc0, hm1, hm3, hcl, hin⟩ := searchE_zero hE
 obtain ⟨hW, hall, ts, t, hrun, htl, hts, hwr⟩ := traces_told hc0 hks ho true 7 hin (by decide) h3
 have hk := wrongK_last hwr
 have hWl : ∀ x ∈ Bf.W l i ++ [c], x.length ≤ 1000000 := fun x hx => by
  have h := hin x (hall x hx)
  unfold inpsTo at h
  simp only [Bool.and_eq_true, decide_eq_true_eq] at h
  omega
 have hinW : ∀ x ∈ Bf.W l i ++ [c], inpsTo p.ins x x.length = true := fun x hx => hin x (hall x hx)
 have hlen : (Bf.W l i ++ [c]).length = ts.length + 1 := by simp [htl]
 have hlW : (Bf.W l i ++ [c]).length ≤ 60 := by simp; have : (Bf.W l i).length < (60 : Int).toNat := hW; omega
 obtain ⟨WX, hWX⟩ : ∃ W, W = Bf.W l i ++ [c] := ⟨_, rfl⟩
 rw [← hWX] at hWl hinW hlen hlW hrun h4
 have HLN := Lib.hid hlen
 have HWL := Lib.hid hWl
 have HIN := Lib.hid hinW
 have HRUN := Lib.hid hrun
 have HTS := Lib.hid hts
 have hE2 : runE p WX 7 = (0, -1) := by
  unfold runE
  rw [if_neg (fun h => h hc0), if_neg (by omega), List.findIdx?_eq_none_iff.2 fun l hl => by simp [HIN.out l hl]]
 have HE2 := Lib.hid hE2
 obtain ⟨ta, tc, rfl⟩ := h4.len
 have hX0 := heap_alloc_new w5 (.cells #[.int .i64 l.length, .slice ta WX.length tc, .int .i64 k] 47)
 have hb6 : Below w5.heap.size w5 (w5.alloc (.cells #[.int .i64 l.length, .slice ta WX.length tc, .int .i64 k] 47)) := (Below.refl _ _).alloc (Nat.le_refl _) _
 have HT6 := Lib.hid hX0
 have HIW := Lib.hid (show InsV (allKn (w5.alloc (.cells #[.int .i64 l.length, .slice ta WX.length tc, .int .i64 k] 47))) WX (.slice ta WX.length tc) from InsV.le (kn_le_all ((allKn_in w5).below hb6)) h4)
 have HB6 := Lib.hid (HB5.out.trans (hb6.mono HB5.out.size))
 have HP6 := Lib.hid ((hb6.block w.heap.size (Array.getElem?_eq_some_iff.1 HP5.out).1).trans HP5.out)
 obtain ⟨k1, k2, k3⟩ := hk
 have HK := Lib.hid (And.intro k2 k3)
 clear hlen hX0 hb6 hWl hinW hrun hts hE2 h3 h4 hall hin hwr hks ho hWX hE hW htl k2 k3 m0 m1 m2 m3 m4
 have q2 : ¬ k < -1 := by omega
 have m0 : (w5.alloc (.cells #[.int .i64 l.length, .slice ta WX.length tc, .int .i64 k] 47)).cell? ⟨w.heap.size, 0, none⟩ = some (.slice ai p.ins.length ci) := by have h := HP6.out; simp only [World.cell?, h]; rfl
 have m1 : (w5.alloc (.cells #[.int .i64 l.length, .slice ta WX.length tc, .int .i64 k] 47)).cell? ⟨w.heap.size, 1, none⟩ = some (.slice ao p.outs.length co) := by have h := HP6.out; simp only [World.cell?, h]; rfl
 have m2 : (w5.alloc (.cells #[.int .i64 l.length, .slice ta WX.length tc, .int .i64 k] 47)).cell? ⟨w.heap.size, 2, none⟩ = some (.slice al p.fl.length cl) := by have h := HP6.out; simp only [World.cell?, h]; rfl
 have m3 : (w5.alloc (.cells #[.int .i64 l.length, .slice ta WX.length tc, .int .i64 k] 47)).cell? ⟨w.heap.size, 3, none⟩ = some (.slice aa p.as.length ca) := by have h := HP6.out; simp only [World.cell?, h]; rfl
 have m4 : (w5.alloc (.cells #[.int .i64 l.length, .slice ta WX.length tc, .int .i64 k] 47)).cell? ⟨w.heap.size, 4, none⟩ = some (.slice ac p.cs.length cc) := by have h := HP6.out; simp only [World.cell?, h]; rfl
 obtain ⟨t0, t1, t2, _⟩ := cell3_of HT6.out
 go_wp2_with fail
 clear m0 m1 m2 m3 m4 t0 t1 t2
 generalize w5.alloc (.cells #[.int .i64 l.length, .slice ta WX.length tc, .int .i64 k] 47) = w6 at *
 have hS6 : ∀ (b o : Nat) (v : Value), w6.cell? ⟨b, o, none⟩ = some v → w6.drew.cell? ⟨b, o, none⟩ = some v := fun _ _ _ h => h
 obtain ⟨m0, m1, m2, m3, m4⟩ : w6.cell? ⟨w.heap.size, 0, none⟩ = some (.slice ai p.ins.length ci) ∧ w6.cell? ⟨w.heap.size, 1, none⟩ = some (.slice ao p.outs.length co) ∧ w6.cell? ⟨w.heap.size, 2, none⟩ = some (.slice al p.fl.length cl) ∧ w6.cell? ⟨w.heap.size, 3, none⟩ = some (.slice aa p.as.length ca) ∧ w6.cell? ⟨w.heap.size, 4, none⟩ = some (.slice ac p.cs.length cc) := by
  have h := HP6.out
  refine ⟨?_, ?_, ?_, ?_, ?_⟩ <;> simp [World.cell?, h]
 obtain ⟨_, t1, _, _⟩ := cell3_of HT6.out
 have HBD := Lib.hid (HB6.out.drew)
 have hbd : Below w6.heap.size w6 w6.drew := (Below.refl _ _).drew
 refine wp_region_2 (fun w' => ∀ (b o : Nat) (v : Value), w6.cell? ⟨b, o, none⟩ = some v → w'.cell? ⟨b, o, none⟩ = some v) (fun _ => True) 99 (by kernel_rfl) ?_
 refine tk2 (i := 0) (v := ?_) rfl hS6 (fun _ => trivial) ?hy ?_
 case hy => intro w hSw; have z0 := wsame hSw m0; have z1 := wsame hSw m1; have z2 := wsame hSw m2; have z3 := wsame hSw m3; have z4 := wsame hSw m4; have z5 := wsame hSw t1; go_simp <;> with_reducible rfl
 try simp only [tkS]
 refine tk2 (i := 2) (v := ?_) rfl hS6 (fun _ => trivial) ?hy ?_
 case hy => intro w hSw; have z0 := wsame hSw m0; have z1 := wsame hSw m1; have z2 := wsame hSw m2; have z3 := wsame hSw m3; have z4 := wsame hSw m4; have z5 := wsame hSw t1; go_simp <;> with_reducible rfl
 try simp only [tkS]
 refine tk2 (i := 3) (v := ?_) rfl hS6 (fun _ => trivial) ?hy ?_
 case hy => intro w hSw; have z0 := wsame hSw m0; have z1 := wsame hSw m1; have z2 := wsame hSw m2; have z3 := wsame hSw m3; have z4 := wsame hSw m4; have z5 := wsame hSw t1; go_simp <;> with_reducible rfl
 try simp only [tkS]
 refine wpAny2_one (i := 1) (o := _) (by kernel_rfl) rfl (fun K_ hK => ?_)
 go_simp
 go_at_call 9
 refine (flatOf_any p _ _ _ _ _ H HP.out ⟨by omega, by omega, by omega, by omega⟩ _ (hH.below HBD.out)).mono ?_
 rintro r w7 ⟨vi7, vo7, vl7, va7, vc7, K7, rfl, hp7, hst7⟩
 have hb7 := hbd.trans (hst7.below.mono hbd.size)
 have HQ7 := Lib.hid (hp7.le (kn_le_all hst7.isin))
 have HB7 := Lib.hid (HB6.out.trans (hb7.mono HB6.out.size))
 have hS7 : ∀ (b o : Nat) (v : Value), w6.cell? ⟨b, o, none⟩ = some v → w7.cell? ⟨b, o, none⟩ = some v := fun b o v h => by
  rw [hb7.cell (p := ⟨b, o, none⟩) (cell_lt h)]; exact h
 have HI7 := Lib.hid (InsV.le (kn_le_all (allKn_below hb7)) HIW.out)
 have HT7 := Lib.hid ((hb7.block w5.heap.size (Array.getElem?_eq_some_iff.1 HT6.out).1).trans HT6.out)
 refine hK.out _ _ (hS7) (fun _ => trivial) ?_
 clear hK K_
 try simp only [tkS]
 refine wpAny2_one (i := 4) (o := _) (by kernel_rfl) rfl (fun K_ hK => ?_)
 go_simp
 go_at_call 18
 refine (in_big _ WX _ HI7.out ⟨by omega, fun x hx => by have := HWL.out x hx; omega⟩ w7 (allKn_in w7)).mono ?_
 rintro r w8 ⟨vi8, K8, rfl, hv8, hst8⟩
 have hb8 := hst8.below
 have HI8 := Lib.hid (InsV.le (kn_le_all hst8.isin) hv8)
 have HQ8 := Lib.hid (HQ7.out.le (kn_le_all (allKn_below hb8)))
 have HB8 := Lib.hid (HB7.out.trans (hb8.mono HB7.out.size))
 have hS8 : ∀ (b o : Nat) (v : Value), w6.cell? ⟨b, o, none⟩ = some v → w8.cell? ⟨b, o, none⟩ = some v := fun b o v h => by
  rw [hb8.cell (p := ⟨b, o, none⟩) (cell_lt (hS7 _ _ _ h))]; exact hS7 _ _ _ h
 have HT8 := Lib.hid ((hb8.block w5.heap.size (Array.getElem?_eq_some_iff.1 HT7.out).1).trans HT7.out)
 refine hK.out _ _ (hS8) (fun _ => trivial) ?_
 clear hK K_
 try simp only [tkS]
 refine wpAny2_one (i := 5) (o := _) (by kernel_rfl) rfl (fun K_ hK => ?_)
 go_simp
 go_at_call 19
 refine (run_any (allKn w8) (HLE.out _ HB8.out) sp p _ _ _ _ _ HQ8.out WX _ HI8.out w8 (allKn_in w8) (S.below HB8.out) true 7 ⟨by omega, by omega, by omega, by omega, by omega, HWL.out⟩ (by omega)).mono ?_
 rintro r w9 hpost
 obtain ⟨hb9, hpost⟩ := hpost.told
 rw [HE2.out] at hpost
 rcases hpost with ⟨_, v9, rfl, hv9⟩ | ⟨h, _⟩
 case inr => exact absurd rfl h
 rw [HRUN.out] at hv9
 obtain ⟨a9, c9, rfl⟩ := hv9.len
 have hS9 : ∀ (b o : Nat) (v : Value), w6.cell? ⟨b, o, none⟩ = some v → w9.cell? ⟨b, o, none⟩ = some v := fun b o v h => by
  rw [hb9.cell (p := ⟨b, o, none⟩) (cell_lt (hS8 _ _ _ h))]; exact hS8 _ _ _ h
 have HV9 := Lib.hid hv9
 have HB9 := Lib.hid (HB8.out.trans (hb9.mono HB8.out.size))
 have HT9 := Lib.hid ((hb9.block w5.heap.size (Array.getElem?_eq_some_iff.1 HT8.out).1).trans HT8.out)
 refine hK.out _ _ (hS9) (fun _ => trivial) ?_
 clear hK K_
 try simp only [tkS]
 refine tk2 (i := 6) (v := ?_) rfl hS9 (fun _ => trivial) ?hy ?_
 case hy => intro w hSw; have z0 := wsame hSw m0; have z1 := wsame hSw m1; have z2 := wsame hSw m2; have z3 := wsame hSw m3; have z4 := wsame hSw m4; have z5 := wsame hSw t1; go_simp <;> with_reducible rfl
 try simp only [tkS]
 refine tk2 (i := 7) (v := ?_) rfl hS9 (fun _ => trivial) ?hy ?_
 case hy => intro w hSw; have z0 := wsame hSw m0; have z1 := wsame hSw m1; have z2 := wsame hSw m2; have z3 := wsame hSw m3; have z4 := wsame hSw m4; have z5 := wsame hSw t1; go_simp <;> with_reducible rfl
 try simp only [tkS]
 refine tk2 (i := 8) (v := ?_) rfl hS9 (fun _ => trivial) ?hy ?_
 case hy => intro w hSw; have z0 := wsame hSw m0; have z1 := wsame hSw m1; have z2 := wsame hSw m2; have z3 := wsame hSw m3; have z4 := wsame hSw m4; have z5 := wsame hSw t1; go_simp <;> with_reducible rfl
 try simp only [tkS]
 refine tk2 (i := 9) (v := ?_) rfl hS9 (fun _ => trivial) ?hy ?_
 case hy => intro w hSw; have z0 := wsame hSw m0; have z1 := wsame hSw m1; have z2 := wsame hSw m2; have z3 := wsame hSw m3; have z4 := wsame hSw m4; have z5 := wsame hSw t1; go_simp <;> with_reducible rfl
 try simp only [tkS]
 refine tk2 (i := 10) (v := ?_) rfl hS9 (fun _ => trivial) ?hy ?_
 case hy => intro w hSw; have z0 := wsame hSw m0; have z1 := wsame hSw m1; have z2 := wsame hSw m2; have z3 := wsame hSw m3; have z4 := wsame hSw m4; have z5 := wsame hSw t1; go_simp <;> with_reducible rfl
 try simp only [tkS]
 refine wpAny2_done (by kernel_rfl) ?_ _
 clear m0 m1 m2 m3 m4 t1 hS6 hS7 hS8 hS9 hb7 hb8 hb9 hbd hv8 hst8 hp7 hst7 HQ7 HQ8 HI7 HI8 HT6 HT7 HT8 HIW
 obtain ⟨t0, t1, t2, htl⟩ := cell3_of HT9.out
 have hlt : (ts ++ [t]).length = ts.length + 1 := by simp
 obtain ⟨N, hN⟩ : ∃ N, N = ts.length + 1 := ⟨_, rfl⟩
 rw [HLN.out, ← hN] at t1
 have hv9 := HV9.out
 rw [hlt, ← hN] at hv9
 have HV9 := Lib.hid hv9
 have HN := Lib.hid hN
 have hN0 : 0 < N := by omega
 have hN60 : N ≤ 60 := by rw [hN, ← HLN.out]; exact hlW
 have q4 : ((N : Int) == 0) = false := beq_false_of_ne (by omega)
 try rw [hlt]
 rw [← hN]
 clear hv9 hlt hN t0
 go_wp2_with fail
 go_loop [9] (fun i => ∃ j : Nat, i = .int .i64 j ∧ j + 1 ≤ N) (fun i => N - (intOf i).toNat)
 case atStart => exact ⟨0, rfl, by omega⟩
 case round =>
  obtain ⟨j, rfl, hj⟩ := hrel
  by_cases hjl : j + 1 < N
  ·have hjt : j < ts.length := by have := HN.out; omega
   obtain ⟨b, off, rfl, _, ov, cv, c0, c1, c2, c3, _⟩ := SlV.at HV9.out (show j < (ts ++ [t]).length from by simp; omega)
   have hje : (ts ++ [t])[j]'(by simp; omega) = ts[j] := List.getElem_append_left hjt
   rw [hje] at c1 c2
   simp only [allKn_cell] at c1 c2
   obtain ⟨u1, u2⟩ := HTS.out _ (List.getElem_mem hjt)
   rw [u2] at c1
   rw [u1] at c2
   have q5 : (j : Int) + 1 < N := by omega
   have q6 : (j : Int) < N := by omega
   clear c0 c3 hje u1 u2
   go_wp2_with fail
   go_round
   case rel => exact ⟨j + 1, by go_num, by omega⟩
   case measure => simp [intOf]; omega
  ·obtain rfl : N = j + 1 := by omega
   have hje : j = ts.length := by have := HN.out; omega
   obtain ⟨b, off, rfl, _, ov, cv, c0, c1, c2, c3, hv⟩ := SlV.at HV9.out (show j < (ts ++ [t]).length from by simp; omega)
   have he : (ts ++ [t])[j]'(by simp; omega) = t := by subst hje; simp
   rw [he] at c1 c2 hv
   simp only [allKn_cell, Nat.add_zero] at c0 c1 c2 c3
   obtain ⟨ao, co, rfl⟩ := hv.outs.len
   obtain ⟨ac, cc, rfl⟩ := hv.checks.len
   have HCK := Lib.hid hv.checks
   have hb10 : Below w9.heap.size w9 (w9.alloc (.cells #[.slice ao t.out.length co, .bool t.asrt, .bool t.trap, .slice ac t.checks.length cc] 57)) := (Below.refl _ _).alloc (Nat.le_refl _) _
   have hX := heap_alloc_new w9 (.cells #[.slice ao t.out.length co, .bool t.asrt, .bool t.trap, .slice ac t.checks.length cc] 57)
   obtain ⟨x0, x1, x2, x3, _, _⟩ := cell4_of hX
   have t2b := (hb10.cell (p := ⟨w5.heap.size, 2, none⟩) (cell_lt t2)).trans t2
   have HB10 := Lib.hid (HB9.out.trans (hb10.mono HB9.out.size))
   have HI10 := Lib.hid ((allKn_in w9).below hb10)
   have q5 : ¬ ((j : Int) + 1 < ((j + 1 : Nat) : Int)) := by omega
   have q6 : ((j + 1 : Nat) : Int) - 1 = (j : Int) := by omega
   clear hv hb10 hX he HV9 HTS HN hjl q4 t1 hje
   obtain ⟨k2, k3⟩ := HK.out
   obtain ⟨to_, ta_, tt_, tcs_⟩ := t
   dsimp only at *
   by_cases hk0 : k < 0
   ·have h := k2 hk0
    subst h
    clear k2 k3 HCK
    go_wp2_with fail
    go_ret
    exact ⟨rfl, HB10.out⟩
   ·obtain ⟨kn, rfl⟩ : ∃ kn : Nat, k = (kn : Int) := ⟨k.toNat, by omega⟩
    obtain ⟨h1, h2, h4, h5⟩ := k3 (by omega)
    subst h1
    subst h2
    have hkn : kn < tcs_.length := by omega
    obtain ⟨b2, off2, rfl, _, d0⟩ := SlV.at HCK.out hkn
    have d0 : (allKn w9).cell b2 (off2 + kn * 1 + 0) = some (.bool tcs_[kn]) := d0
    simp only [Nat.mul_one, Nat.add_zero] at d0
    have hf : tcs_[kn] = false := by
     rw [Int.toNat_natCast, List.getD_eq_getElem?_getD, List.getElem?_eq_getElem hkn] at h5
     simpa using h5
    rw [hf] at d0
    have d0 := HI10.out.cell d0
    have q7 : ¬ (kn : Int) < 0 := by omega
    have q8 : (kn : Int) < tcs_.length := by omega
    clear k2 k3 HCK h4 h5 hf hk0
    go_wp2_with fail
    go_ret
    exact ⟨rfl, HB10.out⟩
end Go.Proofs.YtmeldgjlgifdhaaDoor
