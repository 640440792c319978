/- Walks: lustrumlaw2.StepAgain. (Printed by gen_sa.py.) -/
import Derived.Test.YthejomlhmdeimaaDoorWa
import Derived.Test.YthejomlhmdeimaaDoorEof
namespace Go.Proofs.YthejomlhmdeimaaDoor
set_option maxRecDepth 100000
set_option maxHeartbeats 16000000
open Go.RowKit Mx
theorem memNL_parts : ∀ l : List Ex, memNL l ≤ Ex.partsL l := fun l => by
 have hE : ∀ e : Ex, memN e ≤ e.parts := by
  refine Ex.ind fun o n s l ih => ?_
  have hL : ∀ (l : List Ex), (∀ e ∈ l, memN e ≤ e.parts) → memNL l ≤ Ex.partsL l := by
   intro l
   induction l with
   | nil => intro _; simp [memNL]
   | cons e l ihl =>
    intro hh
    simp only [memNL, Ex.partsL]
    have h1 := hh e (List.mem_cons_self ..)
    have h2 := ihl fun y hy => hh y (List.mem_cons_of_mem _ hy)
    omega
  have := hL l ih
  rw [memN_parts]
  simp only [Ex.parts]
  split <;> omega
 induction l with
 | nil => simp [memNL]
 | cons e l ihl =>
  simp only [memNL, Ex.partsL]
  have := hE e
  omega
theorem stepAgain_any (H : Kn) (T : LevelsAt H) (sp : Nat → Addr) (p : Pr) (vi vo vl va vc : Value) (hp : PrP H p vi vo vl va vc) (ins more : List (List Vl)) (vin vmo : Value) (hi : InsV H ins vin) (hi2 : InsV H more vmo) (hsz : p.ins.length ≤ 1048576 ∧ p.outs.length ≤ 1048576 ∧ Ex.weightL p.terms ≤ 1048576 ∧ ins.length ≤ 1048576 ∧ more.length ≤ 1048576) (w : World) (hH : H.In w) (S : Sen5 w sp) :
  Calls Tryd.prog 5 #[.agg #[vi, vo, vl, va, vc], vin, vmo] w fun r w' => r = .returned (.bool true) ∧ Below w.heap.size w w' := by
 obtain ⟨z1, z2, z3, z4, z5⟩ := hsz
 have hle : ∀ w1, Below w.heap.size w w1 → LevelsAt (allKn w1) := fun w1 hb => T.le (kn_le_all (hH.below hb))
 have HLE := Lib.hid hle
 have hpl := partsL_le_weightL p.terms
 have hlw : p.fl.length + p.as.length + p.cs.length ≤ Ex.weightL p.terms := by
  have h := len_weightL p.terms
  have h2 : p.terms.length = p.fl.length + p.as.length + p.cs.length := by simp only [Pr.terms, List.length_append, List.length_map]
  omega
 clear hle
 have HP := Lib.hid hp
 obtain ⟨h1, h2, h3, h4, h5⟩ := hp
 obtain ⟨ai, ci, rfl⟩ := h1.len
 obtain ⟨ao, co, rfl⟩ := h2.len
 obtain ⟨al, cl, rfl⟩ := h3.len
 obtain ⟨aa, ca, rfl⟩ := h4.len
 obtain ⟨ac, cc, rfl⟩ := h5.len
 obtain ⟨an, cn, rfl⟩ := hi.len
 obtain ⟨am, cm, rfl⟩ := hi2.len
 have HI := Lib.hid hi
 have HI2 := Lib.hid hi2
 clear h1 h2 h3 h4 h5 hi hi2
 have hP0 := heap_alloc_new w (.cells #[.slice ai p.ins.length ci, .slice ao p.outs.length co, .slice al p.fl.length cl, .slice aa p.as.length ca, .slice ac p.cs.length cc] 45)
 have hb0 : Below w.heap.size w (w.alloc (.cells #[.slice ai p.ins.length ci, .slice ao p.outs.length co, .slice al p.fl.length cl, .slice aa p.as.length ca, .slice ac p.cs.length cc] 45)) := (Below.refl _ _).alloc (Nat.le_refl _) _
 have HB0 := Lib.hid hb0
 have HP0 := Lib.hid hP0
 clear hP0 hb0
 go_enter Tryd.func5, Tryd.ntmps5
 go_wp2_with fail
 generalize w.alloc (.cells #[.slice ai p.ins.length ci, .slice ao p.outs.length co, .slice al p.fl.length cl, .slice aa p.as.length ca, .slice ac p.cs.length cc] 45) = W1 at *
 refine (walk_any H T sp W1 (hH.below HB0.out) (S.below HB0.out)).mono ?_
 rintro r w1 ⟨rfl, hb1⟩
 have HB1 := Lib.hid (HB0.out.trans (hb1.mono HB0.out.size))
 have HP1 := Lib.hid ((hb1.block w.heap.size (Array.getElem?_eq_some_iff.1 HP0.out).1).trans HP0.out)
 have m0 : w1.cell? ⟨w.heap.size, 0, none⟩ = some (.slice ai p.ins.length ci) := by have h := HP1.out; simp [World.cell?, h]
 have m1 : w1.cell? ⟨w.heap.size, 1, none⟩ = some (.slice ao p.outs.length co) := by have h := HP1.out; simp [World.cell?, h]
 have m2 : w1.cell? ⟨w.heap.size, 2, none⟩ = some (.slice al p.fl.length cl) := by have h := HP1.out; simp [World.cell?, h]
 have m3 : w1.cell? ⟨w.heap.size, 3, none⟩ = some (.slice aa p.as.length ca) := by have h := HP1.out; simp [World.cell?, h]
 have m4 : w1.cell? ⟨w.heap.size, 4, none⟩ = some (.slice ac p.cs.length cc) := by have h := HP1.out; simp [World.cell?, h]
 go_wp2_with fail
 refine (heavy_any H p _ _ _ _ _ HP.out ⟨by omega, by omega, by omega⟩ w1 (hH.below HB1.out)).mono ?_
 rintro r w2 ⟨rfl, hb2⟩
 have HB2 := Lib.hid (HB1.out.trans (hb2.mono HB1.out.size))
 have HP2 := Lib.hid ((hb2.block w.heap.size (Array.getElem?_eq_some_iff.1 HP1.out).1).trans HP1.out)
 clear m0 m1 m2 m3 m4
 have m0 : w2.cell? ⟨w.heap.size, 0, none⟩ = some (.slice ai p.ins.length ci) := by have h := HP2.out; simp [World.cell?, h]
 have m1 : w2.cell? ⟨w.heap.size, 1, none⟩ = some (.slice ao p.outs.length co) := by have h := HP2.out; simp [World.cell?, h]
 have m2 : w2.cell? ⟨w.heap.size, 2, none⟩ = some (.slice al p.fl.length cl) := by have h := HP2.out; simp [World.cell?, h]
 have m3 : w2.cell? ⟨w.heap.size, 3, none⟩ = some (.slice aa p.as.length ca) := by have h := HP2.out; simp [World.cell?, h]
 have m4 : w2.cell? ⟨w.heap.size, 4, none⟩ = some (.slice ac p.cs.length cc) := by have h := HP2.out; simp [World.cell?, h]
 unfold heavyI
 by_cases hh : heavy p = true
 ·rw [if_pos hh]
  go_wp2_with fail
  go_ret
  exact ⟨rfl, HB2.out⟩
 rw [if_neg hh]
 obtain ⟨y1, y2, y3⟩ : Ex.weightL p.terms ≤ 1500 ∧ p.fl.length ≤ 100 ∧ p.ins.length ≤ 40 := by
  unfold heavy at hh
  simp only [Bool.or_eq_true, decide_eq_true_eq, not_or, Nat.not_lt] at hh
  exact ⟨hh.1.1, hh.1.2, hh.2⟩
 clear hh
 go_wp2_with fail
 refine (long_any H ins _ HI.out (by omega) w2 (hH.below HB2.out)).mono ?_
 rintro r w3 ⟨rfl, hb3⟩
 have HB3 := Lib.hid (HB2.out.trans (hb3.mono HB2.out.size))
 have HP3 := Lib.hid ((hb3.block w.heap.size (Array.getElem?_eq_some_iff.1 HP2.out).1).trans HP2.out)
 clear m0 m1 m2 m3 m4
 have m0 : w3.cell? ⟨w.heap.size, 0, none⟩ = some (.slice ai p.ins.length ci) := by have h := HP3.out; simp [World.cell?, h]
 have m1 : w3.cell? ⟨w.heap.size, 1, none⟩ = some (.slice ao p.outs.length co) := by have h := HP3.out; simp [World.cell?, h]
 have m2 : w3.cell? ⟨w.heap.size, 2, none⟩ = some (.slice al p.fl.length cl) := by have h := HP3.out; simp [World.cell?, h]
 have m3 : w3.cell? ⟨w.heap.size, 3, none⟩ = some (.slice aa p.as.length ca) := by have h := HP3.out; simp [World.cell?, h]
 have m4 : w3.cell? ⟨w.heap.size, 4, none⟩ = some (.slice ac p.cs.length cc) := by have h := HP3.out; simp [World.cell?, h]
 by_cases hl : 0 < longI ins
 ·go_wp2_with fail
  go_ret
  exact ⟨rfl, HB3.out⟩
 obtain ⟨q1, _, q3⟩ := long_zero hl
 go_wp2_with fail
 refine (long_any H more _ HI2.out (by omega) w3 (hH.below HB3.out)).mono ?_
 rintro r w4 ⟨rfl, hb4⟩
 have HB4 := Lib.hid (HB3.out.trans (hb4.mono HB3.out.size))
 have HP4 := Lib.hid ((hb4.block w.heap.size (Array.getElem?_eq_some_iff.1 HP3.out).1).trans HP3.out)
 clear m0 m1 m2 m3 m4
 have m0 : w4.cell? ⟨w.heap.size, 0, none⟩ = some (.slice ai p.ins.length ci) := by have h := HP4.out; simp [World.cell?, h]
 have m1 : w4.cell? ⟨w.heap.size, 1, none⟩ = some (.slice ao p.outs.length co) := by have h := HP4.out; simp [World.cell?, h]
 have m2 : w4.cell? ⟨w.heap.size, 2, none⟩ = some (.slice al p.fl.length cl) := by have h := HP4.out; simp [World.cell?, h]
 have m3 : w4.cell? ⟨w.heap.size, 3, none⟩ = some (.slice aa p.as.length ca) := by have h := HP4.out; simp [World.cell?, h]
 have m4 : w4.cell? ⟨w.heap.size, 4, none⟩ = some (.slice ac p.cs.length cc) := by have h := HP4.out; simp [World.cell?, h]
 by_cases hl2 : 0 < longI more
 ·go_wp2_with fail
  go_ret
  exact ⟨rfl, HB4.out⟩
 obtain ⟨q4, _, q6⟩ := long_zero hl2
 have ZI := Lib.hid (show ∀ x ∈ ins, x.length ≤ 1000000 from fun x hx => by have := q1 x hx; omega)
 have ZJ := Lib.hid (show ∀ x ∈ more, x.length ≤ 1000000 from fun x hx => by have := q4 x hx; omega)
 clear q1 q4
 go_wp2_with fail
 refine (flatOf_any p _ _ _ _ _ H HP.out ⟨by omega, by omega, by omega, by omega⟩ _ (hH.below HB4.out)).mono ?_
 rintro r w5 ⟨vi5, vo5, vl5, va5, vc5, K5, rfl, hp5, hst5⟩
 have HB5 := Lib.hid (HB4.out.trans (hst5.below.mono HB4.out.size))
 have HP5 := Lib.hid ((hst5.below.block w.heap.size (Array.getElem?_eq_some_iff.1 HP4.out).1).trans HP4.out)
 have HQ5 := Lib.hid (hp5.le (kn_le_all hst5.isin))
 clear hp5 hst5
 clear m0 m1 m2 m3 m4
 have m0 : w5.cell? ⟨w.heap.size, 0, none⟩ = some (.slice ai p.ins.length ci) := by have h := HP5.out; simp [World.cell?, h]
 have m1 : w5.cell? ⟨w.heap.size, 1, none⟩ = some (.slice ao p.outs.length co) := by have h := HP5.out; simp [World.cell?, h]
 have m2 : w5.cell? ⟨w.heap.size, 2, none⟩ = some (.slice al p.fl.length cl) := by have h := HP5.out; simp [World.cell?, h]
 have m3 : w5.cell? ⟨w.heap.size, 3, none⟩ = some (.slice aa p.as.length ca) := by have h := HP5.out; simp [World.cell?, h]
 have m4 : w5.cell? ⟨w.heap.size, 4, none⟩ = some (.slice ac p.cs.length cc) := by have h := HP5.out; simp [World.cell?, h]
 go_wp2_with fail
 refine (new_any (allKn w5) (HLE.out _ HB5.out) sp p _ _ _ _ _ HQ5.out w5 (allKn_in w5) (S.below HB5.out) false 0 ⟨by omega, by omega, by omega, by omega, by omega⟩ (by omega)).mono ?_
 rintro r w6 ⟨hb6, hpost⟩
 have HB6 := Lib.hid (HB5.out.trans (hb6.mono HB5.out.size))
 have HP6 := Lib.hid ((hb6.block w.heap.size (Array.getElem?_eq_some_iff.1 HP5.out).1).trans HP5.out)
 have HQ5 := Lib.hid (HQ5.out.le (kn_le_all (allKn_below hb6)))
 clear m0 m1 m2 m3 m4
 have m0 : w6.cell? ⟨w.heap.size, 0, none⟩ = some (.slice ai p.ins.length ci) := by have h := HP6.out; simp [World.cell?, h]
 have m1 : w6.cell? ⟨w.heap.size, 1, none⟩ = some (.slice ao p.outs.length co) := by have h := HP6.out; simp [World.cell?, h]
 have m2 : w6.cell? ⟨w.heap.size, 2, none⟩ = some (.slice al p.fl.length cl) := by have h := HP6.out; simp [World.cell?, h]
 have m3 : w6.cell? ⟨w.heap.size, 3, none⟩ = some (.slice aa p.as.length ca) := by have h := HP6.out; simp [World.cell?, h]
 have m4 : w6.cell? ⟨w.heap.size, 4, none⟩ = some (.slice ac p.cs.length cc) := by have h := HP6.out; simp [World.cell?, h]
 clear m0 m1 m2 m3 m4
 rcases hpost with ⟨hE, M, B, ks, ord, vm, hks, ho, rfl, hMw, hM⟩ | ⟨hE, t6, u6, rfl, _⟩
 case inr =>
  clear hE
  go_wp2_with fail
  go_ret
  exact ⟨rfl, HB6.out⟩
 have hc0 := (runE_zero hE).1
 have hMge : w.heap.size ≤ M := Nat.le_trans HB5.out.size hMw
 have HC := Lib.hid (cd_ready hc0 hks ho false 0 (by omega) (by omega) (by omega))
 have hst := start_right (orderM_low ho).1 hks false (ni := 0) ⟨by decide, by decide⟩
 have hGR := fun (l : List (List Vl)) (s : Mc) (h : MemR ks p s.mem) => go_right hc0 hks ho false (ni := 0) ⟨by decide, by decide⟩ l h
 obtain ⟨R, hR⟩ : ∃ R : REnv, R = ⟨ks, namesM p, getI (nmEnv p), false, 0⟩ := ⟨_, rfl⟩
 rw [← hR] at hM HC hst hGR
 have hRk : ks = R.ks := by rw [hR]
 rw [hRk] at hst hGR
 have HGR := Lib.hid hGR
 obtain ⟨s0, hs0⟩ : ∃ s : Mc, s = ⟨true, startM R (memNdsL 0 p.terms), false⟩ := ⟨_, rfl⟩
 rw [← hs0] at hM
 have hr0 : MemR R.ks p s0.mem := by rw [hs0]; exact hst
 have HR0 := Lib.hid hr0
 have hHno : H M = none := hH.isNone hMge
 have HHK := Lib.hid (noKn_of (hH.below HB6.out) hHno)
 have HM := Lib.hid hM
 have hML : memNL p.terms ≤ 1000000 := by
  have := HC.out.z6
  have h2 := memNL_parts p.terms
  omega
 clear hE hc0 hst hGR hR hRk hs0 hr0 hHno hM hks ho hb6
 go_wp2_with fail
 go_loopw [10] (fun i wr => ∃ (k : Nat) (K : Kn) (vm' : Value), i = .int .i64 k ∧ k ≤ ins.length ∧ H.le K ∧ Below w.heap.size w wr ∧ M < wr.heap.size ∧ McAt 88 130 122 R p ord K wr M B (goM R (cdOf p ord) p.ins s0 (ins.take k)) vm') (fun i _ => ins.length - (intOf i).toNat)
 case atStart => exact ⟨0, _, _, rfl, Nat.zero_le _, HHK.out, HB6.out, HM.out.lt, HM.out⟩
 case round =>
  obtain ⟨k, K, vm', rfl, hk, hle, hbw, hMl, hMc⟩ := hrel
  have HMC := Lib.hid hMc
  have HLK := Lib.hid hle
  have HBW := Lib.hid hbw
  clear hMc hle hbw
  by_cases hkl : k < ins.length
  ·obtain ⟨b, off, a2, c2, haf, c0, hx⟩ := HI.out.at hkl
   subst haf
   have hlx := ZI.out _ (List.getElem_mem hkl)
   have c0 := HMC.out.isin.cell (HLK.out.cell c0)
   have hx := SlV.le hx HLK.out VlC.mono
   have HT := Lib.hid (take_snoc ins k hkl)
   generalize ins[k] = x at *
   go_wp2_with fail
   refine (values_any K x _ hx (by omega) wr HMC.out.isin).mono ?_
   rintro r w7 ⟨v7, rfl, hv7, hb7⟩
   have hM7 := HMC.out.join hb7
   have hB7 := HBW.out.trans (hb7.mono HBW.out.size)
   have hv7 := SlV.le hv7 (joinKn_new K wr.heap.size w7) VlC.mono
   have hle7 := Kn.le_trans HLK.out (joinKn_le HMC.out.isin w7)
   clear hx c0
   go_wp2_with fail
   refine (mtick_any sp hM7 HC.out (S.below hB7) x _ hv7 hlx).mono ?_
   rintro r w8 ⟨vm8, ov, cv, rfl, hg8, hM8, _⟩
   have hle8 := Kn.le_trans hle7 (joinKn_le hM7.isin w8)
   rw [← goM_snoc, ← HT.out] at hM8
   have HM8 := Lib.hid hM8
   have HLE8 := Lib.hid hle8
   have HB8 := Lib.hid (Gr2.below hB7 hg8 hMge hB7.size)
   clear hM7 hB7 hv7 hle7 hM8 hle8 hg8 hb7
   obtain ⟨tc, htc⟩ : ∃ tc, tc = errV sp (stepM R (cdOf p ord) p.ins (goM R (cdOf p ord) p.ins s0 (ins.take k)) x).1 := ⟨_, rfl⟩
   rw [← htc]
   clear htc
   go_wp2_with fail
   go_roundw
   case rel => exact ⟨k + 1, _, _, by go_num, by omega, HLE8.out, HB8.out, HM8.out.lt, HM8.out⟩
   case measure => simp [intOf]; omega
  ·obtain rfl : k = ins.length := by omega
   have hMc := HMC.out
   rw [List.take_of_length_le (Nat.le_refl _)] at hMc
   have hmr := HGR.out ins s0 HR0.out
   generalize goM R (cdOf p ord) p.ins s0 ins = s1 at *
   have HMC := Lib.hid hMc
   have HMR := Lib.hid hmr
   have hml := hMc.len
   clear hMc hmr HM HHK HR0
   go_wp2_with fail
   refine (state_any HMC.out (by omega)).mono ?_
   rintro r w7 ⟨v7, rfl, hv7, hb7⟩
   have hM7 := HMC.out.join hb7
   have hB7 := HBW.out.trans (hb7.mono HBW.out.size)
   have hv7 := SlV.le hv7 (joinKn_new K wr.heap.size w7) VlC.mono
   have hle7 := Kn.le_trans HLK.out (joinKn_le HMC.out.isin w7)
   have hsl : (stateM s1).length = memNL p.terms + 1 := by simp [stateM, hml]
   obtain ⟨av, cv, rfl⟩ := hv7.len
   generalize joinKn K wr.heap.size w7 = K7 at *
   have HV7 := Lib.hid hv7
   have HL7 := Lib.hid hle7
   have HM7 := Lib.hid hM7
   have HB7 := Lib.hid hB7
   have hrt := state_right (s := s1) HMR.out
   have hps := put_state s1
   generalize hSL : stateM s1 = SL at *
   have HRT := Lib.hid hrt
   have HPS := Lib.hid hps
   have HSL := Lib.hid hsl
   clear hv7 hle7 hM7 hB7 hb7 HMC HLK HBW hSL hrt hps hkl HMR HGR hsl
   go_wp2_with fail
   refine (values_any K7 SL _ HV7.out (by have := HSL.out; omega) w7 HM7.out.isin).mono ?_
   rintro r w8 ⟨v8, rfl, hv, hb⟩
   have hM8 := HM7.out.join hb
   have hB8 := HB7.out.trans (hb.mono HB7.out.size)
   have hv := SlV.le hv (joinKn_new K7 w7.heap.size w8) VlC.mono
   have hj := joinKn_le HM7.out.isin w8
   go_wp2_with fail
   refine (load_any sp hM8 (S.below hB8) SL _ hv (by have := HSL.out; omega) (by omega)).mono ?_
   rintro r w9 ⟨hg, hpost⟩
   have hj := Kn.le_trans hj (joinKn_le hM8.isin w9)
   have HB9 := Lib.hid (Gr2.below hB8 hg hMge hB8.size)
   rcases hpost with ⟨_, rfl, vm9, hM9⟩ | ⟨h, _⟩
   case inr => rw [HRT.out] at h; cases h
   rw [HPS.out] at hM9
   have HM9 := Lib.hid hM9
   have HJ9 := Lib.hid hj
   clear hM8 hB8 hv hb hg hM9 hj
   go_wp2_with fail
   have HV9 := Lib.hid (SlV.le HV7.out HJ9.out VlC.mono)
   have HL9 := Lib.hid (Kn.le_trans HL7.out HJ9.out)
   obtain ⟨K9, hK9⟩ : ∃ K9, K9 = joinKn (joinKn K7 w7.heap.size w8) w8.heap.size w9 := ⟨_, rfl⟩
   rw [← hK9] at HV9 HL9 HM9
   clear hK9 HV7 HL7 HM7 HB7 HJ9
   have hg0 := toldM_sizes R p ord more ⟨s1.first, s1.mem, false⟩
   have HTS := Lib.hid hg0
   clear hg0
   have HS0 := Lib.hid (show RuS 56 K9 w w9 w9.heap.size [] (.slice none 0 0) K9 [] (.slice none 0 0) from ⟨Kn.le_refl _, HM9.out.isin, HB9.out, World.ownsRow_nil _ _ _ _, fun g hg => by simp [Value.ownBlock] at hg, (fun x hx => by cases hx), .inl ⟨rfl, none, 0, rfl⟩, HB9.out.size, Nat.le_refl _⟩)
   have hMl9 := HM9.out.lt
   go_loopw [12, 13] (fun u i wr => ∃ (k : Nat) (os : List (Tk × Value × Value)) (K : Kn) (vm' : Value), i = .int .i64 k ∧ k ≤ more.length ∧ RuS 56 K9 w wr w9.heap.size os u K [] (.slice none 0 0) ∧ McAt 88 130 122 R p ord K wr M B (goM R (cdOf p ord) p.ins ⟨s1.first, s1.mem, false⟩ (more.take k)) vm' ∧ os.map (·.1) = toldM R (cdOf p ord) p.ins ⟨s1.first, s1.mem, false⟩ (more.take k) ∧ os.length ≤ k) (fun _ i _ => more.length - (intOf i).toNat)
   case atStart => exact ⟨0, [], _, _, rfl, Nat.zero_le _, HS0.out, HM9.out, rfl, Nat.le_refl _⟩
   case round =>
    clear HS0
    obtain ⟨k, os, K, vm', rfl, hk, hS, hMc, hos, hol⟩ := hrel
    have HS := Lib.hid hS
    have HMC := Lib.hid hMc
    have HOS := Lib.hid hos
    obtain ⟨au, cu, hue, _⟩ := own_len hS.row
    subst hue
    clear hS hMc hos
    by_cases hkl : k < more.length
    ·obtain ⟨b, off, a2, c2, haf, c0, hx⟩ := HI2.out.at hkl
     subst haf
     have hlx := ZJ.out _ (List.getElem_mem hkl)
     have c0 := HMC.out.isin.cell ((Kn.le_trans HL9.out HS.out.le).cell c0)
     have hx := SlV.le hx (Kn.le_trans HL9.out HS.out.le) VlC.mono
     have HT := Lib.hid (take_snoc more k hkl)
     generalize more[k] = x at *
     go_wp2_with fail
     refine (values_any K x _ hx (by omega) wr HMC.out.isin).mono ?_
     rintro r wb ⟨vb, rfl, hvb, hbb⟩
     have hMb := HMC.out.join hbb
     have hSb := HS.out.gr HMC.out.no hMge hMl9 (Gr2.of_below hbb M none)
     have hvb := SlV.le hvb (joinKn_new K wr.heap.size wb) VlC.mono
     clear hx c0 hbb
     generalize joinKn K wr.heap.size wb = Kb at *
     go_wp2_with fail
     refine (mtick_any sp hMb HC.out (S.below hSb.below) x _ hvb hlx).mono ?_
     rintro r wt ⟨vmt, ov, cv, rfl, hgt, hMt, hkt⟩
     have hSt := hSb.gr hMb.no hMge hMl9 hgt
     have hkt := hkt.le (joinKn_new Kb wb.heap.size wt)
     have htl := toldM_snoc R (cdOf p ord) p.ins (more.take k) ⟨s1.first, s1.mem, false⟩ x
     have hcd := stepM_code R (cdOf p ord) p.ins (goM R (cdOf p ord) p.ins ⟨s1.first, s1.mem, false⟩ (more.take k)) x
     rw [← HT.out] at htl
     have hMt2 : McAt 88 130 122 R p ord (joinKn Kb wb.heap.size wt) wt M B (goM R (cdOf p ord) p.ins ⟨s1.first, s1.mem, false⟩ (more.take (k + 1))) vmt := by
      rw [HT.out, goM_snoc]; exact hMt
     clear hMt
     generalize stepM R (cdOf p ord) p.ins (goM R (cdOf p ord) p.ins ⟨s1.first, s1.mem, false⟩ (more.take k)) x = X at *
     obtain ⟨xe, ⟨xo, xa, xt, xc⟩, xs⟩ := X
     dsimp only at htl hkt hcd ⊢
     obtain ⟨aov, cov, rfl⟩ := hkt.outs.len
     obtain ⟨acv, ccv, rfl⟩ := hkt.checks.len
     generalize joinKn Kb wb.heap.size wt = Kt at *
     have hba : Below wt.heap.size wt (wt.alloc (.cells #[.slice aov xo.length cov, .bool xa, .bool xt, .slice acv xc.length ccv] 56)) := (Below.refl _ _).alloc (Nat.le_refl _) _
     have hMa := hMt2.below hba
     have hSa := hSt.alloc (.cells #[.slice aov xo.length cov, .bool xa, .bool xt, .slice acv xc.length ccv] 56)
     have HMA := Lib.hid hMa
     have HSA := Lib.hid hSa
     have HKT := Lib.hid hkt
     have HTL := Lib.hid htl
     have HX0 := Lib.hid (heap_alloc_new wt (.cells #[.slice aov xo.length cov, .bool xa, .bool xt, .slice acv xc.length ccv] 56))
     clear hMb hSb hvb hgt hMt2 hkt htl hba hMa hSt hSa
     rcases hcd with rfl | rfl
     case inr =>
      dsimp only [errV, esv]
      go_wp2_with fail
      go_roundw
      case rel => exact ⟨k + 1, os, _, _, by go_num, by omega, HSA.out, HMA.out, by rw [HTL.out, HOS.out]; simp, by omega⟩
      case measure => simp [intOf]; omega
     case inl =>
      dsimp only [errV]
      obtain ⟨⟨t0, t1, t2, t3, _, _⟩, _⟩ := And.intro (cell4_of HX0.out) trivial
      go_wp2_with (at_builtin; refine app1L 62 56 4 56 _ Tryd.underlying62 Tryd.infoTk rfl (by decide) _ _ rfl rfl w9.heap.size _ _ _ rfl (HSA.out.alloc _).row ⟨_, 0, none⟩ 1 [.slice aov xo.length cov, .bool xa, .bool xt, .slice acv xc.length ccv] rfl rfl ?c9x1 ?c9x2 ?c9x3 ?c9x4 ?c9x5 ?_)
      case c9x2 => simp [Value.oneCell']
      case c9x3 => omega
      case c9x4 => omega
      case c9x5 =>
       have := HSA.out.low
       rw [World.size_alloc] at this
       omega
      intro gg cap' w6' hown hgrow hat
      have hbb2 : Below (wt.alloc (.cells #[.slice aov xo.length cov, .bool xa, .bool xt, .slice acv xc.length ccv] 56)).heap.size (wt.alloc (.cells #[.slice aov xo.length cov, .bool xa, .bool xt, .slice acv xc.length ccv] 56)) ((wt.alloc (.cells #[.slice aov xo.length cov, .bool xa, .bool xt, .slice acv xc.length ccv] 56)).alloc (.cells #[.slice aov xo.length cov, .bool xa, .bool xt, .slice acv xc.length ccv] 56)) := (Below.refl _ _).alloc (Nat.le_refl _) _
      have hM6 := (HMA.out.below hbb2).grown hgrow (fun g hg => ⟨HSA.out.noU g hg, by have := (HSA.out.row.lt g hg).1; omega⟩)
      have HM6' := Lib.hid hM6
      have HS6 := Lib.hid ((HSA.out.alloc _).app HKT.out hown hgrow (by rw [World.size_alloc, World.size_alloc]; exact hat))
      clear hown hgrow hat hM6 hbb2
      go_wp2_with fail
      go_roundw
      case rel => exact ⟨k + 1, _, _, _, by go_num, by omega, HS6.out, HM6'.out, by rw [List.map_append, HOS.out, HTL.out]; rfl, by simp; omega⟩
      case measure => simp [intOf]; omega
    ·obtain rfl : k = more.length := by omega
     have hos := HOS.out
     rw [List.take_of_length_le (Nat.le_refl _)] at hos
     obtain ⟨K10, k1, k2, k3, k4⟩ := HS.out.known
     have hM10 := HMC.out.kle k1 k2 ((k4 M (by omega)).trans HMC.out.no)
     rw [hos] at k3
     have hle10 := Kn.le_trans HS.out.le k1
     have HL10 := Lib.hid (Kn.le_trans HL9.out hle10)
     have HV10 := Lib.hid (SlV.le HV9.out hle10 VlC.mono)
     have HT10 := Lib.hid k3
     have HM10 := Lib.hid hM10
     have HB10 := Lib.hid HS.out.below
     have HU := Lib.hid (show os.length = (toldM R (cdOf p ord) p.ins ⟨s1.first, s1.mem, false⟩ more).length from by rw [← hos]; simp)
     rw [HU.out] at HT10 ⊢
     clear k1 k2 k3 k4 hM10 hle10 HV9 HL9 HM9 HB9 HS HMC HOS hos hkl hol
     generalize wr = w10 at *
     go_wp2_with fail
     refine (values_any K10 SL _ HV10.out (by have := HSL.out; omega) w10 HM10.out.isin).mono ?_
     rintro r w11 ⟨v11, rfl, hv, hb⟩
     have hM11 := HM10.out.join hb
     have hB11 := HB10.out.trans (hb.mono HB10.out.size)
     have hv := SlV.le hv (joinKn_new K10 w10.heap.size w11) VlC.mono
     have hj := joinKn_le HM10.out.isin w11
     go_wp2_with fail
     refine (load_any sp hM11 (S.below hB11) SL _ hv (by have := HSL.out; omega) (by omega)).mono ?_
     rintro r w12 ⟨hg, hpost⟩
     have hj := Kn.le_trans hj (joinKn_le hM11.isin w12)
     have HB12 := Lib.hid (Gr2.below hB11 hg hMge hB11.size)
     rcases hpost with ⟨_, rfl, vm12, hM12⟩ | ⟨h, _⟩
     case inr => rw [HRT.out] at h; cases h
     rw [HPS.out] at hM12
     have HM12 := Lib.hid hM12
     have HJ12 := Lib.hid hj
     clear hM11 hB11 hv hb hg hM12 hj
     go_wp2_with fail
     have HL12 := Lib.hid (Kn.le_trans HL10.out HJ12.out)
     have HT12 := Lib.hid (TksV.le HJ12.out HT10.out)
     obtain ⟨K12, hK12⟩ : ∃ K12, K12 = joinKn (joinKn K10 w10.heap.size w11) w11.heap.size w12 := ⟨_, rfl⟩
     rw [← hK12] at HL12 HM12 HT12
     clear hK12 HV10 HL10 HM10 HB10 HJ12 HT10
     have HS0 := Lib.hid (show RuS 56 K12 w w12 w12.heap.size [] (.slice none 0 0) K12 [] (.slice none 0 0) from ⟨Kn.le_refl _, HM12.out.isin, HB12.out, World.ownsRow_nil _ _ _ _, fun g hg => by simp [Value.ownBlock] at hg, (fun x hx => by cases hx), .inl ⟨rfl, none, 0, rfl⟩, HB12.out.size, Nat.le_refl _⟩)
     have hMl12 := HM12.out.lt
     go_loopw [16, 17] (fun u i wr => ∃ (k : Nat) (os : List (Tk × Value × Value)) (K : Kn) (vm' : Value), i = .int .i64 k ∧ k ≤ more.length ∧ RuS 56 K12 w wr w12.heap.size os u K [] (.slice none 0 0) ∧ McAt 88 130 122 R p ord K wr M B (goM R (cdOf p ord) p.ins ⟨s1.first, s1.mem, false⟩ (more.take k)) vm' ∧ os.map (·.1) = toldM R (cdOf p ord) p.ins ⟨s1.first, s1.mem, false⟩ (more.take k) ∧ os.length ≤ k) (fun _ i _ => more.length - (intOf i).toNat)
     case atStart => exact ⟨0, [], _, _, rfl, Nat.zero_le _, HS0.out, HM12.out, rfl, Nat.le_refl _⟩
     case round =>
      clear HS0
      obtain ⟨k, os, K, vm', rfl, hk, hS, hMc, hos, hol⟩ := hrel
      have HS := Lib.hid hS
      have HMC := Lib.hid hMc
      have HOS := Lib.hid hos
      obtain ⟨au, cu, hue, _⟩ := own_len hS.row
      subst hue
      clear hS hMc hos
      by_cases hkl : k < more.length
      ·obtain ⟨b, off, a2, c2, haf, c0, hx⟩ := HI2.out.at hkl
       subst haf
       have hlx := ZJ.out _ (List.getElem_mem hkl)
       have c0 := HMC.out.isin.cell ((Kn.le_trans HL12.out HS.out.le).cell c0)
       have hx := SlV.le hx (Kn.le_trans HL12.out HS.out.le) VlC.mono
       have HT := Lib.hid (take_snoc more k hkl)
       generalize more[k] = x at *
       go_wp2_with fail
       refine (values_any K x _ hx (by omega) wr HMC.out.isin).mono ?_
       rintro r wb ⟨vb, rfl, hvb, hbb⟩
       have hMb := HMC.out.join hbb
       have hSb := HS.out.gr HMC.out.no hMge hMl12 (Gr2.of_below hbb M none)
       have hvb := SlV.le hvb (joinKn_new K wr.heap.size wb) VlC.mono
       clear hx c0 hbb
       generalize joinKn K wr.heap.size wb = Kb at *
       go_wp2_with fail
       refine (mtick_any sp hMb HC.out (S.below hSb.below) x _ hvb hlx).mono ?_
       rintro r wt ⟨vmt, ov, cv, rfl, hgt, hMt, hkt⟩
       have hSt := hSb.gr hMb.no hMge hMl12 hgt
       have hkt := hkt.le (joinKn_new Kb wb.heap.size wt)
       have htl := toldM_snoc R (cdOf p ord) p.ins (more.take k) ⟨s1.first, s1.mem, false⟩ x
       have hcd := stepM_code R (cdOf p ord) p.ins (goM R (cdOf p ord) p.ins ⟨s1.first, s1.mem, false⟩ (more.take k)) x
       rw [← HT.out] at htl
       have hMt2 : McAt 88 130 122 R p ord (joinKn Kb wb.heap.size wt) wt M B (goM R (cdOf p ord) p.ins ⟨s1.first, s1.mem, false⟩ (more.take (k + 1))) vmt := by
        rw [HT.out, goM_snoc]; exact hMt
       clear hMt
       generalize stepM R (cdOf p ord) p.ins (goM R (cdOf p ord) p.ins ⟨s1.first, s1.mem, false⟩ (more.take k)) x = X at *
       obtain ⟨xe, ⟨xo, xa, xt, xc⟩, xs⟩ := X
       dsimp only at htl hkt hcd ⊢
       obtain ⟨aov, cov, rfl⟩ := hkt.outs.len
       obtain ⟨acv, ccv, rfl⟩ := hkt.checks.len
       generalize joinKn Kb wb.heap.size wt = Kt at *
       have hba : Below wt.heap.size wt (wt.alloc (.cells #[.slice aov xo.length cov, .bool xa, .bool xt, .slice acv xc.length ccv] 56)) := (Below.refl _ _).alloc (Nat.le_refl _) _
       have hMa := hMt2.below hba
       have hSa := hSt.alloc (.cells #[.slice aov xo.length cov, .bool xa, .bool xt, .slice acv xc.length ccv] 56)
       have HMA := Lib.hid hMa
       have HSA := Lib.hid hSa
       have HKT := Lib.hid hkt
       have HTL := Lib.hid htl
       have HX0 := Lib.hid (heap_alloc_new wt (.cells #[.slice aov xo.length cov, .bool xa, .bool xt, .slice acv xc.length ccv] 56))
       clear hMb hSb hvb hgt hMt2 hkt htl hba hMa hSt hSa
       rcases hcd with rfl | rfl
       case inr =>
        dsimp only [errV, esv]
        go_wp2_with fail
        go_roundw
        case rel => exact ⟨k + 1, os, _, _, by go_num, by omega, HSA.out, HMA.out, by rw [HTL.out, HOS.out]; simp, by omega⟩
        case measure => simp [intOf]; omega
       case inl =>
        dsimp only [errV]
        obtain ⟨⟨t0, t1, t2, t3, _, _⟩, _⟩ := And.intro (cell4_of HX0.out) trivial
        go_wp2_with (at_builtin; refine app1L 62 56 4 56 _ Tryd.underlying62 Tryd.infoTk rfl (by decide) _ _ rfl rfl w12.heap.size _ _ _ rfl (HSA.out.alloc _).row ⟨_, 0, none⟩ 1 [.slice aov xo.length cov, .bool xa, .bool xt, .slice acv xc.length ccv] rfl rfl ?c12x1 ?c12x2 ?c12x3 ?c12x4 ?c12x5 ?_)
        case c12x2 => simp [Value.oneCell']
        case c12x3 => omega
        case c12x4 => omega
        case c12x5 =>
         have := HSA.out.low
         rw [World.size_alloc] at this
         omega
        intro gg cap' w6' hown hgrow hat
        have hbb2 : Below (wt.alloc (.cells #[.slice aov xo.length cov, .bool xa, .bool xt, .slice acv xc.length ccv] 56)).heap.size (wt.alloc (.cells #[.slice aov xo.length cov, .bool xa, .bool xt, .slice acv xc.length ccv] 56)) ((wt.alloc (.cells #[.slice aov xo.length cov, .bool xa, .bool xt, .slice acv xc.length ccv] 56)).alloc (.cells #[.slice aov xo.length cov, .bool xa, .bool xt, .slice acv xc.length ccv] 56)) := (Below.refl _ _).alloc (Nat.le_refl _) _
        have hM6 := (HMA.out.below hbb2).grown hgrow (fun g hg => ⟨HSA.out.noU g hg, by have := (HSA.out.row.lt g hg).1; omega⟩)
        have HM6' := Lib.hid hM6
        have HS6 := Lib.hid ((HSA.out.alloc _).app HKT.out hown hgrow (by rw [World.size_alloc, World.size_alloc]; exact hat))
        clear hown hgrow hat hM6 hbb2
        go_wp2_with fail
        go_roundw
        case rel => exact ⟨k + 1, _, _, _, by go_num, by omega, HS6.out, HM6'.out, by rw [List.map_append, HOS.out, HTL.out]; rfl, by simp; omega⟩
        case measure => simp [intOf]; omega
      ·obtain rfl : k = more.length := by omega
       have hos := HOS.out
       rw [List.take_of_length_le (Nat.le_refl _)] at hos
       have hin := all_of HS.out.isin
       have HT13 := Lib.hid (TksV.le (Kn.le_trans HS.out.le hin) HT12.out)
       have hf := HS.out.fin
       rw [hos] at hf
       have HF13 := Lib.hid hf
       have HB13 := Lib.hid HS.out.below
       have hU := show os.length = (toldM R (cdOf p ord) p.ins ⟨s1.first, s1.mem, false⟩ more).length from by rw [← hos]; simp
       rw [hU] at HF13 ⊢
       clear hin hf HS HMC HOS hos hkl hol HL12 HM12 HT12 HB12 hU
       generalize wr = w13 at *
       obtain ⟨L, hL⟩ : ∃ L, L = toldM R (cdOf p ord) p.ins ⟨s1.first, s1.mem, false⟩ more := ⟨_, rfl⟩
       rw [← hL] at HT13 HF13 HTS ⊢
       clear hL
       have hl1 := HTS.out.1
       go_wp2_with fail
       refine (ticksOf_any (allKn w13) L _ HT13.out (by omega) w13 (allKn_in w13)).mono ?_
       rintro r w14 ⟨v14, K14, rfl, hv14, hst14⟩
       have HT14 := Lib.hid (TksV.le (kn_le_all hst14.isin) hv14)
       have HF14 := Lib.hid (TksV.le (kn_le_all (allKn_below hst14.below)) HF13.out)
       have HB14 := Lib.hid (HB13.out.trans (hst14.below.mono HB13.out.size))
       clear hv14 hst14
       go_wp2_with fail
       refine (ticksOf_any (allKn w14) L _ HF14.out (by omega) w14 (allKn_in w14)).mono ?_
       rintro r w15 ⟨v15, K15, rfl, hv15, hst15⟩
       have HT15 := Lib.hid (TksV.le (kn_le_all hst15.isin) hv15)
       have HF15 := Lib.hid (TksV.le (kn_le_all (allKn_below hst15.below)) HT14.out)
       have HB15 := Lib.hid (HB14.out.trans (hst15.below.mono HB14.out.size))
       clear hv15 hst15
       go_wp2_with fail
       refine (sameTicks_any (allKn w15) L _ _ HF15.out HT15.out ⟨by omega, fun x hx => by have := HTS.out.2 x hx; omega⟩ w15 (allKn_in w15)).mono ?_
       rintro r w16 ⟨rfl, hb16⟩
       go_wp2_with fail
       go_ret
       exact ⟨rfl, HB15.out.trans (hb16.mono HB15.out.size)⟩
end Go.Proofs.YthejomlhmdeimaaDoor
