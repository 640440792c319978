/- Walks: lustrumlaw2.StepLoads. (Printed by gen_sl.py.) -/
import Derived.Test.YtmeldgjlgifdhaaGreatDoorSaM
import Derived.Test.YtmeldgjlgifdhaaGreatDoorSlq
import Derived.Test.YtmeldgjlgifdhaaGreatDoorCodA
import Derived.Test.YtmeldgjlgifdhaaGreatDoorLaid
import Derived.Test.YtmeldgjlgifdhaaGreatDoorVsA
import Derived.Test.YtmeldgjlgifdhaaGreatDoorNu
import Derived.Test.YtmeldgjlgifdhaaGreatDoorGof
import Derived.Test.YtmeldgjlgifdhaaGreatDoorFlA
namespace Go.Proofs.YtmeldgjlgifdhaaGreatDoor
set_option maxRecDepth 100000
set_option maxHeartbeats 16000000
open Go.RowKit Mx
theorem tks_one {W : World} {X : Nat} {t : Tk} {ov cv : Value} (h : W.heap[X]? = some (.cells #[ov, .bool t.asrt, .bool t.trap, cv] 56 (0, 0))) (hk : TkV (allKn W) t ov cv) : TksV (allKn W) [t] (.slice (some ⟨X, 0, none⟩) 1 1) := by
 refine .inr ⟨X, 0, 1, rfl, by simp, by unfold maxLen; omega, fun i hi => ?_⟩
 obtain rfl : i = 0 := by simpa using hi
 have hc : ∀ j, (allKn W).cell X (0 + 0 * 4 + j) = (#[ov, .bool t.asrt, .bool t.trap, cv] : Array Value)[j]? := fun j => by rw [allKn_cell]; simp [World.cell?, h]
 exact ⟨ov, cv, hc 0, hc 1, hc 2, hc 3, hk⟩
theorem stepLoads_any (H : Kn) (T : LevelsAt H) (sp : Nat → Addr) (p : Pr) (vi vo vl va vc : Value) (hp : PrP H p vi vo vl va vc) (ins more : List (List Vl)) (vin vmo : Value) (hi : InsV H ins vin) (hi2 : InsV H more vmo) (l : List Vl) (vv : Value) (hv : VlsV H l vv)
  (hsz : p.ins.length ≤ 1048576 ∧ p.outs.length ≤ 1048576 ∧ Ex.weightL p.terms ≤ 1048576 ∧ ins.length ≤ 1048576 ∧ more.length ≤ 1048576 ∧ l.length ≤ 1048576) (w : World) (hH : H.In w) (S : Sents w sp) (hET : ErrTypeLaid w) :
  Calls Tryz.prog 4 #[.agg #[vi, vo, vl, va, vc], vin, vmo, vv] w fun r w' => r = .returned (.bool true) ∧ Below w.heap.size w w' := by
 obtain ⟨z1, z2, z3, z4, z5, z6⟩ := hsz
 have hle : ∀ w1, Below w.heap.size w w1 → LevelsAt (allKn w1) := fun w1 hb => T.le (kn_le_all (hH.below hb))
 have HLE := Lib.hid hle
 have hpl := partsL_le_weightL p.terms
 have hlw : p.fl.length + p.as.length + p.cs.length ≤ Ex.weightL p.terms := by
  have h := len_weightL p.terms
  have h2 : p.terms.length = p.fl.length + p.as.length + p.cs.length := by simp only [Pr.terms, List.length_append, List.length_map]
  omega
 clear hle
 have HP := Lib.hid hp
 obtain ⟨h1, h2, h3, h4, h5⟩ := hp
 obtain ⟨ai, ci, rfl⟩ := h1.len
 obtain ⟨ao, co, rfl⟩ := h2.len
 obtain ⟨al, cl, rfl⟩ := h3.len
 obtain ⟨aa, ca, rfl⟩ := h4.len
 obtain ⟨ac, cc, rfl⟩ := h5.len
 obtain ⟨an, cn, rfl⟩ := hi.len
 obtain ⟨am, cm, rfl⟩ := hi2.len
 obtain ⟨av, cv, rfl⟩ := hv.len
 have HI := Lib.hid hi
 have HI2 := Lib.hid hi2
 have HVL := Lib.hid hv
 clear h1 h2 h3 h4 h5 hi hi2 hv
 have hP0 := heap_alloc_new w (.cells #[.slice ai p.ins.length ci, .slice ao p.outs.length co, .slice al p.fl.length cl, .slice aa p.as.length ca, .slice ac p.cs.length cc] 41)
 have hb0 : Below w.heap.size w (w.alloc (.cells #[.slice ai p.ins.length ci, .slice ao p.outs.length co, .slice al p.fl.length cl, .slice aa p.as.length ca, .slice ac p.cs.length cc] 41)) := (Below.refl _ _).alloc (Nat.le_refl _) _
 have HB0 := Lib.hid hb0
 have HP0 := Lib.hid hP0
 clear hP0 hb0
 go_enter Tryz.func4, Tryz.ntmps4
 go_wp2_with fail
 generalize w.alloc (.cells #[.slice ai p.ins.length ci, .slice ao p.outs.length co, .slice al p.fl.length cl, .slice aa p.as.length ca, .slice ac p.cs.length cc] 41) = W1 at *
 refine (walk_any H T sp W1 (hH.below HB0.out) (S.five.below HB0.out)).mono ?_
 rintro r w1 ⟨rfl, hb1⟩
 have HB1 := Lib.hid (HB0.out.trans (hb1.mono HB0.out.size))
 have HP1 := Lib.hid ((hb1.block w.heap.size (Array.getElem?_eq_some_iff.1 HP0.out).1).trans HP0.out)
 have m0 : w1.cell? ⟨w.heap.size, 0, none⟩ = some (.slice ai p.ins.length ci) := by have h := HP1.out; simp [World.cell?, h]
 have m1 : w1.cell? ⟨w.heap.size, 1, none⟩ = some (.slice ao p.outs.length co) := by have h := HP1.out; simp [World.cell?, h]
 have m2 : w1.cell? ⟨w.heap.size, 2, none⟩ = some (.slice al p.fl.length cl) := by have h := HP1.out; simp [World.cell?, h]
 have m3 : w1.cell? ⟨w.heap.size, 3, none⟩ = some (.slice aa p.as.length ca) := by have h := HP1.out; simp [World.cell?, h]
 have m4 : w1.cell? ⟨w.heap.size, 4, none⟩ = some (.slice ac p.cs.length cc) := by have h := HP1.out; simp [World.cell?, h]
 go_wp2_with fail
 refine (heavy_any H p _ _ _ _ _ HP.out ⟨by omega, by omega, by omega⟩ w1 (hH.below HB1.out)).mono ?_
 rintro r w2 ⟨rfl, hb2⟩
 have HB2 := Lib.hid (HB1.out.trans (hb2.mono HB1.out.size))
 have HP2 := Lib.hid ((hb2.block w.heap.size (Array.getElem?_eq_some_iff.1 HP1.out).1).trans HP1.out)
 clear m0 m1 m2 m3 m4
 have m0 : w2.cell? ⟨w.heap.size, 0, none⟩ = some (.slice ai p.ins.length ci) := by have h := HP2.out; simp [World.cell?, h]
 have m1 : w2.cell? ⟨w.heap.size, 1, none⟩ = some (.slice ao p.outs.length co) := by have h := HP2.out; simp [World.cell?, h]
 have m2 : w2.cell? ⟨w.heap.size, 2, none⟩ = some (.slice al p.fl.length cl) := by have h := HP2.out; simp [World.cell?, h]
 have m3 : w2.cell? ⟨w.heap.size, 3, none⟩ = some (.slice aa p.as.length ca) := by have h := HP2.out; simp [World.cell?, h]
 have m4 : w2.cell? ⟨w.heap.size, 4, none⟩ = some (.slice ac p.cs.length cc) := by have h := HP2.out; simp [World.cell?, h]
 unfold heavyI
 by_cases hh : heavy p = true
 ·rw [if_pos hh]
  go_wp2_with fail
  go_ret
  exact ⟨rfl, HB2.out⟩
 rw [if_neg hh]
 obtain ⟨y1, y2, y3⟩ : Ex.weightL p.terms ≤ 1500 ∧ p.fl.length ≤ 100 ∧ p.ins.length ≤ 40 := by
  unfold heavy at hh
  simp only [Bool.or_eq_true, decide_eq_true_eq, not_or, Nat.not_lt] at hh
  exact ⟨hh.1.1, hh.1.2, hh.2⟩
 clear hh
 go_wp2_with fail
 refine (long_any H ins _ HI.out (by omega) w2 (hH.below HB2.out)).mono ?_
 rintro r w3 ⟨rfl, hb3⟩
 have HB3 := Lib.hid (HB2.out.trans (hb3.mono HB2.out.size))
 have HP3 := Lib.hid ((hb3.block w.heap.size (Array.getElem?_eq_some_iff.1 HP2.out).1).trans HP2.out)
 clear m0 m1 m2 m3 m4
 have m0 : w3.cell? ⟨w.heap.size, 0, none⟩ = some (.slice ai p.ins.length ci) := by have h := HP3.out; simp [World.cell?, h]
 have m1 : w3.cell? ⟨w.heap.size, 1, none⟩ = some (.slice ao p.outs.length co) := by have h := HP3.out; simp [World.cell?, h]
 have m2 : w3.cell? ⟨w.heap.size, 2, none⟩ = some (.slice al p.fl.length cl) := by have h := HP3.out; simp [World.cell?, h]
 have m3 : w3.cell? ⟨w.heap.size, 3, none⟩ = some (.slice aa p.as.length ca) := by have h := HP3.out; simp [World.cell?, h]
 have m4 : w3.cell? ⟨w.heap.size, 4, none⟩ = some (.slice ac p.cs.length cc) := by have h := HP3.out; simp [World.cell?, h]
 by_cases hl : 0 < longI ins
 ·go_wp2_with fail
  go_ret
  exact ⟨rfl, HB3.out⟩
 obtain ⟨q1, _, q3⟩ := long_zero hl
 go_wp2_with fail
 refine (long_any H more _ HI2.out (by omega) w3 (hH.below HB3.out)).mono ?_
 rintro r w4 ⟨rfl, hb4⟩
 have HB4 := Lib.hid (HB3.out.trans (hb4.mono HB3.out.size))
 have HP4 := Lib.hid ((hb4.block w.heap.size (Array.getElem?_eq_some_iff.1 HP3.out).1).trans HP3.out)
 clear m0 m1 m2 m3 m4
 have m0 : w4.cell? ⟨w.heap.size, 0, none⟩ = some (.slice ai p.ins.length ci) := by have h := HP4.out; simp [World.cell?, h]
 have m1 : w4.cell? ⟨w.heap.size, 1, none⟩ = some (.slice ao p.outs.length co) := by have h := HP4.out; simp [World.cell?, h]
 have m2 : w4.cell? ⟨w.heap.size, 2, none⟩ = some (.slice al p.fl.length cl) := by have h := HP4.out; simp [World.cell?, h]
 have m3 : w4.cell? ⟨w.heap.size, 3, none⟩ = some (.slice aa p.as.length ca) := by have h := HP4.out; simp [World.cell?, h]
 have m4 : w4.cell? ⟨w.heap.size, 4, none⟩ = some (.slice ac p.cs.length cc) := by have h := HP4.out; simp [World.cell?, h]
 by_cases hl2 : 0 < longI more
 ·go_wp2_with fail
  go_ret
  exact ⟨rfl, HB4.out⟩
 obtain ⟨q4, _, q6⟩ := long_zero hl2
 by_cases hl3 : 100 < l.length
 ·have q7 : (100 : Int) < l.length := by omega
  go_wp2_with fail
  go_ret
  exact ⟨rfl, HB4.out⟩
 have q7 : ¬ (100 : Int) < l.length := by omega
 have ZI := Lib.hid (show ∀ x ∈ ins, x.length ≤ 1000000 from fun x hx => by have := q1 x hx; omega)
 have ZJ := Lib.hid (show ∀ x ∈ more, x.length ≤ 1000000 from fun x hx => by have := q4 x hx; omega)
 clear q1 q4
 go_wp2_with fail
 clear q7
 refine (flatOf_any p _ _ _ _ _ H HP.out ⟨by omega, by omega, by omega, by omega⟩ _ (hH.below HB4.out)).mono ?_
 rintro r w5 ⟨vi5, vo5, vl5, va5, vc5, K5, rfl, hp5, hst5⟩
 have HB5 := Lib.hid (HB4.out.trans (hst5.below.mono HB4.out.size))
 have HP5 := Lib.hid ((hst5.below.block w.heap.size (Array.getElem?_eq_some_iff.1 HP4.out).1).trans HP4.out)
 have HQ5 := Lib.hid (hp5.le (kn_le_all hst5.isin))
 clear hp5 hst5
 clear m0 m1 m2 m3 m4
 have m0 : w5.cell? ⟨w.heap.size, 0, none⟩ = some (.slice ai p.ins.length ci) := by have h := HP5.out; simp [World.cell?, h]
 have m1 : w5.cell? ⟨w.heap.size, 1, none⟩ = some (.slice ao p.outs.length co) := by have h := HP5.out; simp [World.cell?, h]
 have m2 : w5.cell? ⟨w.heap.size, 2, none⟩ = some (.slice al p.fl.length cl) := by have h := HP5.out; simp [World.cell?, h]
 have m3 : w5.cell? ⟨w.heap.size, 3, none⟩ = some (.slice aa p.as.length ca) := by have h := HP5.out; simp [World.cell?, h]
 have m4 : w5.cell? ⟨w.heap.size, 4, none⟩ = some (.slice ac p.cs.length cc) := by have h := HP5.out; simp [World.cell?, h]
 go_wp2_with fail
 refine (new_any (allKn w5) (HLE.out _ HB5.out) sp p _ _ _ _ _ HQ5.out w5 (allKn_in w5) (S.five.below HB5.out) false 0 ⟨by omega, by omega, by omega, by omega, by omega⟩ (by omega)).mono ?_
 rintro r w6 ⟨hb6, hpost⟩
 have HB6 := Lib.hid (HB5.out.trans (hb6.mono HB5.out.size))
 have HP6 := Lib.hid ((hb6.block w.heap.size (Array.getElem?_eq_some_iff.1 HP5.out).1).trans HP5.out)
 have HQ5 := Lib.hid (HQ5.out.le (kn_le_all (allKn_below hb6)))
 clear m0 m1 m2 m3 m4
 have m0 : w6.cell? ⟨w.heap.size, 0, none⟩ = some (.slice ai p.ins.length ci) := by have h := HP6.out; simp [World.cell?, h]
 have m1 : w6.cell? ⟨w.heap.size, 1, none⟩ = some (.slice ao p.outs.length co) := by have h := HP6.out; simp [World.cell?, h]
 have m2 : w6.cell? ⟨w.heap.size, 2, none⟩ = some (.slice al p.fl.length cl) := by have h := HP6.out; simp [World.cell?, h]
 have m3 : w6.cell? ⟨w.heap.size, 3, none⟩ = some (.slice aa p.as.length ca) := by have h := HP6.out; simp [World.cell?, h]
 have m4 : w6.cell? ⟨w.heap.size, 4, none⟩ = some (.slice ac p.cs.length cc) := by have h := HP6.out; simp [World.cell?, h]
 rcases hpost with ⟨hE, M1, B1, ks, ord, vm1, hks, ho, rfl, hMw, hM, _⟩ | ⟨hE, t6, u6, rfl, _⟩
 case inr =>
  clear hE
  go_wp2_with fail
  go_ret
  exact ⟨rfl, HB6.out⟩
 have HM1 := Lib.hid hM
 have HE := Lib.hid hE
 have HMW := Lib.hid hMw
 clear hM hMw hb6 hE
 go_wp2_with fail
 clear HQ5
 refine (flatOf_any p _ _ _ _ _ H HP.out ⟨by omega, by omega, by omega, by omega⟩ _ (hH.below HB6.out)).mono ?_
 rintro r w7 ⟨vi7, vo7, vl7, va7, vc7, K7, rfl, hp7, hst7⟩
 have HM7 := Lib.hid (HM1.out.below hst7.below)
 have HB7 := Lib.hid (HB6.out.trans (hst7.below.mono HB6.out.size))
 have HP7 := Lib.hid ((hst7.below.block w.heap.size (Array.getElem?_eq_some_iff.1 HP6.out).1).trans HP6.out)
 have HQ7 := Lib.hid (hp7.le (kn_le_all hst7.isin))
 clear hp7 hst7
 clear m0 m1 m2 m3 m4
 have m0 : w7.cell? ⟨w.heap.size, 0, none⟩ = some (.slice ai p.ins.length ci) := by have h := HP7.out; simp [World.cell?, h]
 have m1 : w7.cell? ⟨w.heap.size, 1, none⟩ = some (.slice ao p.outs.length co) := by have h := HP7.out; simp [World.cell?, h]
 have m2 : w7.cell? ⟨w.heap.size, 2, none⟩ = some (.slice al p.fl.length cl) := by have h := HP7.out; simp [World.cell?, h]
 have m3 : w7.cell? ⟨w.heap.size, 3, none⟩ = some (.slice aa p.as.length ca) := by have h := HP7.out; simp [World.cell?, h]
 have m4 : w7.cell? ⟨w.heap.size, 4, none⟩ = some (.slice ac p.cs.length cc) := by have h := HP7.out; simp [World.cell?, h]
 go_wp2_with fail
 refine (new_any (allKn w7) (HLE.out _ HB7.out) sp p _ _ _ _ _ HQ7.out w7 (allKn_in w7) (S.five.below HB7.out) false 0 ⟨by omega, by omega, by omega, by omega, by omega⟩ (by omega)).mono ?_
 rintro r w8 ⟨hb8, hpost⟩
 have HB8 := Lib.hid (HB7.out.trans (hb8.mono HB7.out.size))
 have HP8 := Lib.hid ((hb8.block w.heap.size (Array.getElem?_eq_some_iff.1 HP7.out).1).trans HP7.out)
 clear m0 m1 m2 m3 m4
 rcases hpost with ⟨_, M2, B2, ks', ord', vm2, hks', ho', rfl, hMw2, hM2, hnk2⟩ | ⟨hE2, _⟩
 case inr => exact absurd HE.out hE2
 rw [hks] at hks'
 cases hks'
 rw [ho] at ho'
 cases ho'
 have hc0 := (runE_zero HE.out).1
 have hM1lt : M1 < w7.heap.size := HM7.out.lt
 obtain ⟨hA, hB, hKle⟩ := two_machines ⟨by decide, by decide, by decide⟩ HM7.out hb8 hMw2 hM2 hnk2
 have hMge1 : w.heap.size ≤ M1 := Nat.le_trans HB5.out.size HMW.out
 have hMge2 : w.heap.size ≤ M2 := Nat.le_trans HB7.out.size hMw2
 have hM12 : M1 ≠ M2 := by omega
 have HC := Lib.hid (cd_ready hc0 hks ho false 0 (by omega) (by omega) (by omega))
 have hst := start_right (orderM_low ho).1 hks false (ni := 0) ⟨by decide, by decide⟩
 have hGR := fun (l : List (List Vl)) (s : Mc) (h : MemR ks p s.mem) => go_right hc0 hks ho false (ni := 0) ⟨by decide, by decide⟩ l h
 obtain ⟨R, hR⟩ : ∃ R : REnv, R = ⟨ks, namesM p, getI (nmEnv p), false, 0⟩ := ⟨_, rfl⟩
 rw [← hR] at hA hB HC hst hGR
 have hRk : ks = R.ks := by rw [hR]
 rw [hRk] at hst hGR
 have HGR := Lib.hid hGR
 obtain ⟨s0, hs0⟩ : ∃ s : Mc, s = ⟨true, startM R (memNdsL 0 p.terms), false⟩ := ⟨_, rfl⟩
 rw [← hs0] at hA hB
 have hr0 : MemR R.ks p s0.mem := by rw [hs0]; exact hst
 have HR0 := Lib.hid hr0
 have hHno : H M1 = none := hH.isNone hMge1
 have hHK : H.le ((noKn M2 w8).but M1) := Kn.le_trans (noKn_of (hH.below HB6.out) hHno) hKle
 generalize (noKn M2 w8).but M1 = K0 at *
 have HHK := Lib.hid hHK
 have HMA := Lib.hid hA
 have HMB := Lib.hid hB
 have hML : memNL p.terms ≤ 1000000 := by
  have := HC.out.z6
  have h2 := memNL_le p.terms
  omega
 clear hc0 hst hGR hR hRk hs0 hr0 hHno hA hB hKle hks ho hb8 hnk2 hM2 HM7 HQ7 hHK HMW HE
 go_wp2_with fail
 go_loopw [13] (fun i wr => ∃ (k : Nat) (K : Kn) (va vb : Value), i = .int .i64 k ∧ k ≤ ins.length ∧ H.le K ∧ Below w.heap.size w wr ∧ McAt 94 143 135 R p ord K wr M1 B1 (goM R (cdOf p ord) p.ins s0 (ins.take k)) va ∧ McAt 94 143 135 R p ord K wr M2 B2 s0 vb) (fun i _ => ins.length - (intOf i).toNat)
 case atStart => exact ⟨0, _, _, _, rfl, Nat.zero_le _, HHK.out, HB8.out, HMA.out, HMB.out⟩
 case round =>
  obtain ⟨k, K, va, vb, rfl, hk, hle, hbw, hMa, hMb⟩ := hrel
  have HMCA := Lib.hid hMa
  have HMCB := Lib.hid hMb
  have HLK := Lib.hid hle
  have HBW := Lib.hid hbw
  clear hMa hMb hle hbw
  by_cases hkl : k < ins.length
  ·obtain ⟨b, off, a2, c2, haf, c0, hx⟩ := HI.out.at hkl
   subst haf
   have hlx := ZI.out _ (List.getElem_mem hkl)
   have c0 := HMCA.out.isin.cell (HLK.out.cell c0)
   have hx := SlV.le hx HLK.out VlC.mono
   have HT := Lib.hid (take_snoc ins k hkl)
   generalize ins[k] = x at *
   go_wp2_with fail
   refine (values_any K x _ hx (by omega) wr HMCA.out.isin).mono ?_
   rintro r wv ⟨vw, rfl, hvw, hbv⟩
   have hMa := HMCA.out.join hbv
   have hMb := HMCB.out.join hbv
   have hBv := HBW.out.trans (hbv.mono HBW.out.size)
   have hvw := SlV.le hvw (joinKn_new K wr.heap.size wv) VlC.mono
   have hlev := Kn.le_trans HLK.out (joinKn_le HMCA.out.isin wv)
   clear hx c0
   generalize joinKn K wr.heap.size wv = Kv at *
   go_wp2_with fail
   refine (mtick_any sp hMa HC.out (S.five.below hBv) x _ hvw hlx).mono ?_
   rintro r wt ⟨vmt, ov, cvv, rfl, hgt, hMt, _⟩
   have hMb2 := hMb.other hgt hMa.no (Ne.symm hM12)
   have hlet := Kn.le_trans hlev (joinKn_le hMa.isin wt)
   rw [← goM_snoc, ← HT.out] at hMt
   have HMt := Lib.hid hMt
   have HMb2 := Lib.hid hMb2
   have HLEt := Lib.hid hlet
   have HBt := Lib.hid (Gr2.below hBv hgt hMge1 hBv.size)
   clear hMa hMb hBv hvw hlev hMt hMb2 hlet hgt hbv
   obtain ⟨tc, htc⟩ : ∃ tc, tc = errV sp (stepM R (cdOf p ord) p.ins (goM R (cdOf p ord) p.ins s0 (ins.take k)) x).1 := ⟨_, rfl⟩
   rw [← htc]
   clear htc
   go_wp2_with fail
   go_roundw
   case rel => exact ⟨k + 1, _, _, _, by go_num, by omega, HLEt.out, HBt.out, HMt.out, HMb2.out⟩
   case measure => simp [intOf]; omega
  ·obtain rfl : k = ins.length := by omega
   have hMa := HMCA.out
   rw [List.take_of_length_le (Nat.le_refl _)] at hMa
   have hmr := HGR.out ins s0 HR0.out
   generalize goM R (cdOf p ord) p.ins s0 ins = s1 at *
   have HMCA := Lib.hid hMa
   have HMR := Lib.hid hmr
   have hml := hMa.len
   clear hMa hmr HMA HMB HHK HR0
   go_wp2_with fail
   refine (state_any HMCA.out (by omega)).mono ?_
   rintro r w9 ⟨v9, rfl, hv9, hb9⟩
   have hA9 := HMCA.out.join hb9
   have hB9 := HMCB.out.join hb9
   have hW9 := HBW.out.trans (hb9.mono HBW.out.size)
   have hv9 := SlV.le hv9 (joinKn_new K wr.heap.size w9) VlC.mono
   have hle9 := Kn.le_trans HLK.out (joinKn_le HMCA.out.isin w9)
   have hsl : (stateM s1).length = memNL p.terms + 1 := by simp [stateM, hml]
   obtain ⟨a9, c9, rfl⟩ := hv9.len
   generalize joinKn K wr.heap.size w9 = K9 at *
   have HV9 := Lib.hid hv9
   have HL9 := Lib.hid hle9
   have HA9 := Lib.hid hA9
   have HM9 := Lib.hid hB9
   have HB9 := Lib.hid hW9
   have hrt := state_right (s := s1) HMR.out
   have hps := put_state s1
   obtain ⟨sL, hsL⟩ : ∃ sL : Mc, sL = ⟨s1.first, s1.mem, false⟩ := ⟨_, rfl⟩
   rw [← hsL] at hps
   have hss : stateM sL = stateM s1 := by rw [hsL]; rfl
   have hmr : MemR R.ks p sL.mem := by rw [hsL]; exact HMR.out
   have htr : sL.trapped = false := by rw [hsL]
   obtain ⟨SL, hSL⟩ : ∃ SL, SL = stateM s1 := ⟨_, rfl⟩
   rw [← hSL] at hrt hps hss hsl HV9 ⊢
   have HRT := Lib.hid hrt
   have HPS := Lib.hid hps
   have HSL := Lib.hid hsl
   have HSS := Lib.hid hss
   have HMRL := Lib.hid hmr
   have HTRL := Lib.hid htr
   clear hv9 hle9 hA9 hB9 hW9 hb9 HMCA HMCB HLK HBW hSL hrt hps hkl HMR hsl hss hmr htr hsL
   go_wp2_with fail
   refine (values_any K9 SL _ HV9.out (by have := HSL.out; omega) w9 HA9.out.isin).mono ?_
   rintro r w10 ⟨v10, rfl, hv, hb⟩
   have hA := HA9.out.join hb
   have hM := HM9.out.join hb
   have hW := HB9.out.trans (hb.mono HB9.out.size)
   have hv := SlV.le hv (joinKn_new K9 w9.heap.size w10) VlC.mono
   have hs := SlV.le HV9.out (joinKn_le HA9.out.isin w10) VlC.mono
   have hle := Kn.le_trans HL9.out (joinKn_le HA9.out.isin w10)
   generalize joinKn K9 w9.heap.size w10 = K10 at *
   go_wp2_with fail
   refine (load_any sp hA (S.five.below hW) SL _ hv (by have := HSL.out; omega) (by omega)).mono ?_
   rintro r w11 ⟨hg, hpost⟩
   have HB11 := Lib.hid (Gr2.below hW hg hMge1 hW.size)
   have HV11 := Lib.hid (SlV.le hs (joinKn_le hA.isin w11) VlC.mono)
   have HL11 := Lib.hid (Kn.le_trans hle (joinKn_le hA.isin w11))
   have HM11 := Lib.hid (hM.other hg hA.no (Ne.symm hM12))
   rcases hpost with ⟨_, rfl, vm11, hM11⟩ | ⟨h, _⟩
   case inr => rw [HRT.out] at h; cases h
   rw [HPS.out] at hM11
   have HA11 := Lib.hid hM11
   clear hM11 hv hb hg hA hM hW hs hle HV9 HL9 HA9 HM9 HB9
   generalize joinKn K10 w10.heap.size w11 = K11 at *
   go_wp2_with fail
   refine (values_any K11 SL _ HV11.out (by have := HSL.out; omega) w11 HA11.out.isin).mono ?_
   rintro r w12 ⟨v12, rfl, hv, hb⟩
   have hM := HM11.out.join hb
   have hA := HA11.out.join hb
   have hW := HB11.out.trans (hb.mono HB11.out.size)
   have hv := SlV.le hv (joinKn_new K11 w11.heap.size w12) VlC.mono
   have hs := SlV.le HV11.out (joinKn_le HA11.out.isin w12) VlC.mono
   have hle := Kn.le_trans HL11.out (joinKn_le HA11.out.isin w12)
   generalize joinKn K11 w11.heap.size w12 = K12 at *
   go_wp2_with fail
   refine (load_any sp hM (S.five.below hW) SL _ hv (by have := HSL.out; omega) (by omega)).mono ?_
   rintro r w13 ⟨hg, hpost⟩
   have HB13 := Lib.hid (Gr2.below hW hg hMge2 hW.size)
   have HV13 := Lib.hid (SlV.le hs (joinKn_le hM.isin w13) VlC.mono)
   have HL13 := Lib.hid (Kn.le_trans hle (joinKn_le hM.isin w13))
   have HA13 := Lib.hid (hA.other hg hM.no hM12)
   rcases hpost with ⟨_, rfl, vm13, hM13⟩ | ⟨h, _⟩
   case inr => rw [HRT.out] at h; cases h
   rw [HPS.out] at hM13
   have HM13 := Lib.hid hM13
   clear hM13 hv hb hg hM hA hW hs hle HV11 HL11 HA11 HM11 HB11
   generalize joinKn K12 w12.heap.size w13 = K13 at *
   go_wp2_with fail
   refine (state_any HM13.out (by have := HM13.out.len; omega)).mono ?_
   rintro r w14 ⟨v14, rfl, hv, hb⟩
   have HA14 := Lib.hid (HA13.out.join hb)
   have HM14 := Lib.hid (HM13.out.join hb)
   have HB14 := Lib.hid (HB13.out.trans (hb.mono HB13.out.size))
   have HX14 := Lib.hid (SlV.le hv (joinKn_new K13 w13.heap.size w14) VlC.mono)
   have HV14 := Lib.hid (SlV.le HV13.out (joinKn_le HA13.out.isin w14) VlC.mono)
   have HL14 := Lib.hid (Kn.le_trans HL13.out (joinKn_le HA13.out.isin w14))
   clear hv hb HV13 HL13 HA13 HM13 HB13
   generalize joinKn K13 w13.heap.size w14 = K14 at *
   rw [HSS.out] at HX14
   go_wp2_with fail
   refine (sameVls_any K14 SL _ _ HX14.out HV14.out (by have := HSL.out; omega) w14 HA14.out.isin).mono ?_
   rintro r w15 ⟨rfl, hb⟩
   have HA15 := Lib.hid (HA14.out.join hb)
   have HM15 := Lib.hid (HM14.out.join hb)
   have HB15 := Lib.hid (HB14.out.trans (hb.mono HB14.out.size))
   have HV15 := Lib.hid (SlV.le HV14.out (joinKn_le HA14.out.isin w15) VlC.mono)
   have HL15 := Lib.hid (Kn.le_trans HL14.out (joinKn_le HA14.out.isin w15))
   clear hb HV14 HL14 HA14 HM14 HB14 HX14
   generalize joinKn K14 w14.heap.size w15 = K15 at *
   go_wp2_with fail
   have HVL15 := Lib.hid (show True from trivial)
   clear HVL15
   go_loopw [15] (fun i wr => ∃ (k : Nat) (K : Kn) (va vb : Value), i = .int .i64 k ∧ k ≤ more.length ∧ H.le K ∧ Below w.heap.size w wr ∧ VlsV K SL (.slice a9 SL.length c9) ∧ McAt 94 143 135 R p ord K wr M1 B1 (goM R (cdOf p ord) p.ins sL (more.take k)) va ∧ McAt 94 143 135 R p ord K wr M2 B2 (goM R (cdOf p ord) p.ins sL (more.take k)) vb) (fun i _ => more.length - (intOf i).toNat)
   case atStart => exact ⟨0, _, _, _, rfl, Nat.zero_le _, HL15.out, HB15.out, HV15.out, HA15.out, HM15.out⟩
   case round =>
    clear HL15 HB15 HV15 HA15 HM15
    obtain ⟨k, K, va, vb, rfl, hk, hle, hbw, hvs, hMa, hMb⟩ := hrel
    have HMCA := Lib.hid hMa
    have HMCB := Lib.hid hMb
    have HLK := Lib.hid hle
    have HBW := Lib.hid hbw
    have HVS := Lib.hid hvs
    clear hMa hMb hle hbw hvs
    by_cases hkl : k < more.length
    ·obtain ⟨b, off, a2, c2, haf, c0, hx⟩ := HI2.out.at hkl
     subst haf
     have hlx := ZJ.out _ (List.getElem_mem hkl)
     have hcK := HLK.out.cell c0
     have c0 := HMCA.out.isin.cell hcK
     have hx := SlV.le hx HLK.out VlC.mono
     have HT := Lib.hid (take_snoc more k hkl)
     generalize more[k] = x at *
     go_wp2_with fail
     refine (values_any K x _ hx (by omega) wr HMCA.out.isin).mono ?_
     rintro r w16 ⟨v16, rfl, hv, hb⟩
     have hMa := HMCA.out.join hb
     have hMb := HMCB.out.join hb
     have hW := HBW.out.trans (hb.mono HBW.out.size)
     have hv := SlV.le hv (joinKn_new K wr.heap.size w16) VlC.mono
     have hvs := SlV.le HVS.out (joinKn_le HMCA.out.isin w16) VlC.mono
     have hx := SlV.le hx (joinKn_le HMCA.out.isin w16) VlC.mono
     have hcK := (joinKn_le HMCA.out.isin w16).cell hcK
     have hle := Kn.le_trans HLK.out (joinKn_le HMCA.out.isin w16)
     generalize joinKn K wr.heap.size w16 = K16 at *
     clear c0
     go_wp2_with fail
     refine (mtick_any sp hMa HC.out (S.five.below hW) x _ hv hlx).mono ?_
     rintro r w17 ⟨vm17, ov, cvv, rfl, hg, hMt, hkt⟩
     have hMb := hMb.other hg hMa.no (Ne.symm hM12)
     have hM2l : M2 < w17.heap.size := hMb.lt
     have hkt := hkt.le (joinKn_new K16 w16.heap.size w17)
     have hvs := SlV.le hvs (joinKn_le hMa.isin w17) VlC.mono
     have hx := SlV.le hx (joinKn_le hMa.isin w17) VlC.mono
     have hcK := (joinKn_le hMa.isin w17).cell hcK
     have hle := Kn.le_trans hle (joinKn_le hMa.isin w17)
     have hW := Gr2.below hW hg hMge1 hW.size
     rw [← goM_snoc, ← HT.out] at hMt
     obtain ⟨stp, hstp⟩ : ∃ X, X = stepM R (cdOf p ord) p.ins (goM R (cdOf p ord) p.ins sL (more.take k)) x := ⟨_, rfl⟩
     have hcd := stepM_code R (cdOf p ord) p.ins (goM R (cdOf p ord) p.ins sL (more.take k)) x
     have hsz := stepM_sizes R p ord (goM R (cdOf p ord) p.ins sL (more.take k)) x
     rw [← hstp] at hkt hcd hsz ⊢
     generalize joinKn K16 w16.heap.size w17 = K17 at *
     obtain ⟨aov, cov, rfl⟩ := hkt.outs.len
     obtain ⟨acv, ccv, rfl⟩ := hkt.checks.len
     have hba : Below w17.heap.size w17 (w17.alloc (.cells #[.slice aov stp.2.1.out.length cov, .bool stp.2.1.asrt, .bool stp.2.1.trap, .slice acv stp.2.1.checks.length ccv] 56)) := (Below.refl _ _).alloc (Nat.le_refl _) _
     have HX1 := Lib.hid (heap_alloc_new w17 (.cells #[.slice aov stp.2.1.out.length cov, .bool stp.2.1.asrt, .bool stp.2.1.trap, .slice acv stp.2.1.checks.length ccv] 56))
     have HA18 := Lib.hid (hMt.below hba)
     have HM18 := Lib.hid (hMb.below hba)
     have HB18 := Lib.hid (hW.trans (hba.mono hW.size))
     have HKT := Lib.hid hkt
     have HVS := Lib.hid hvs
     have HX := Lib.hid hx
     have HLE := Lib.hid hle
     have HSTP := Lib.hid hstp
     have HSZ := Lib.hid hsz
     have c1 := HA18.out.isin.cell hcK
     have HCK := Lib.hid hcK
     clear hba hMt hMb hW hkt hvs hx hle hstp hsz hcK hMa hv hg hb HMCA HMCB HLK HBW
     obtain ⟨tc, htc⟩ : ∃ tc, tc = errV sp stp.1 := ⟨_, rfl⟩
     have HTC := Lib.hid htc
     rw [← htc]
     clear htc
     go_wp2_with fail
     generalize w17.alloc (.cells #[.slice aov stp.2.1.out.length cov, .bool stp.2.1.asrt, .bool stp.2.1.trap, .slice acv stp.2.1.checks.length ccv] 56) = w18 at *
     refine (values_any K17 x _ HX.out (by omega) w18 HA18.out.isin).mono ?_
     rintro r w19 ⟨v19, rfl, hv, hb⟩
     have hMa := HA18.out.join hb
     have hMb := HM18.out.join hb
     have hW := HB18.out.trans (hb.mono HB18.out.size)
     have hj := joinKn_le HA18.out.isin w19
     have hv := SlV.le hv (joinKn_new K17 w18.heap.size w19) VlC.mono
     have hvs := SlV.le HVS.out hj VlC.mono
     have hkt := HKT.out.le hj
     have hle := Kn.le_trans HLE.out hj
     have hX1 := (hb.block w17.heap.size (Array.getElem?_eq_some_iff.1 HX1.out).1).trans HX1.out
     generalize joinKn K17 w18.heap.size w19 = K19 at *
     clear c1 HCK HX HVS HKT HLE HA18 HM18 HB18 HX1 hj
     go_wp2_with fail
     refine (mtick_any sp hMb HC.out (S.five.below hW) x _ hv hlx).mono ?_
     rintro r w20 ⟨vm20, ov, cvv, rfl, hg, hMt, hku⟩
     rw [← HSTP.out] at hMt hku ⊢
     have hMa := hMa.other hg hMb.no hM12
     have hj := joinKn_le hMb.isin w20
     have hku := hku.le (joinKn_new K19 w19.heap.size w20)
     have hkt := hkt.le hj
     have hvs := SlV.le hvs hj VlC.mono
     have hle := Kn.le_trans hle hj
     have hneX : w17.heap.size ≠ M2 := by omega
     have hX1 := (hg.block w17.heap.size (Array.getElem?_eq_some_iff.1 hX1).1 hneX (by simp)).trans hX1
     have hW := Gr2.below hW hg hMge2 hW.size
     have HTM := Lib.hid (show McAt 94 143 135 R p ord (joinKn K19 w19.heap.size w20) w20 M2 B2 (goM R (cdOf p ord) p.ins sL (more.take (k + 1))) vm20 from by rw [HT.out, goM_snoc, ← HSTP.out]; exact hMt)
     generalize joinKn K19 w19.heap.size w20 = K20 at *
     obtain ⟨aow, cow, rfl⟩ := hku.outs.len
     obtain ⟨acw, ccw, rfl⟩ := hku.checks.len
     have HTA := Lib.hid hMa
     have HKT := Lib.hid hkt
     have HKU := Lib.hid hku
     have HVS := Lib.hid hvs
     have HLE := Lib.hid hle
     have HX1 := Lib.hid hX1
     have HW := Lib.hid hW
     clear hMa hkt hku hvs hle hX1 hW hMt hMb hg hb hv hj HSTP
     rw [← HTC.out]
     have hbe : Below w20.heap.size w20 (w20.alloc (.cells #[.slice aow stp.2.1.out.length cow, .bool stp.2.1.asrt, .bool stp.2.1.trap, .slice acw stp.2.1.checks.length ccw] 56)) := (Below.refl _ _).alloc (Nat.le_refl _) _
     have hX2 := heap_alloc_new w20 (.cells #[.slice aow stp.2.1.out.length cow, .bool stp.2.1.asrt, .bool stp.2.1.trap, .slice acw stp.2.1.checks.length ccw] 56)
     have hX1 := (hbe.block w17.heap.size (Array.getElem?_eq_some_iff.1 HX1.out).1).trans HX1.out
     obtain ⟨x0, x1, x2, x3, _, _⟩ := cell4_of hX1
     obtain ⟨u0, u1, u2, u3, _, _⟩ := cell4_of hX2
     have HB21 := Lib.hid (HW.out.trans (hbe.mono HW.out.size))
     have HA21 := Lib.hid (HTA.out.below hbe)
     have HM21 := Lib.hid (HTM.out.below hbe)
     clear hbe hX1 hX2 HX1 HW HTA HTM
     go_wp2_with fail
     generalize w20.alloc (.cells #[.slice aow stp.2.1.out.length cow, .bool stp.2.1.asrt, .bool stp.2.1.trap, .slice acw stp.2.1.checks.length ccw] 56) = w21 at *
     have hS0 : ∀ (b o : Nat) (v : Value), w21.cell? ⟨b, o, none⟩ = some v → w21.drew.cell? ⟨b, o, none⟩ = some v := fun _ _ _ h => h
     have hb0 : Below w21.heap.size w21 w21.drew := (Below.refl _ _).drew
     have HLA := Lib.hid (HA21.out.isin)
     obtain ⟨bb, hbb⟩ : ∃ bb : Bool, (tc = .nilIface ∧ bb = true) ∨ ((∃ a, tc = .iface 201 (.pointer (some a))) ∧ bb = false) := by
      rw [HTC.out]
      rcases hcd with hcd | hcd
      ·exact ⟨true, .inl ⟨by rw [hcd]; rfl, rfl⟩⟩
      ·exact ⟨false, .inr ⟨⟨_, by rw [hcd]; rfl⟩, rfl⟩⟩
     have HBB := Lib.hid hbb
     clear hbb hcd HTC
     refine wp_region_2 (fun w' => ∀ (b o : Nat) (v : Value), w21.cell? ⟨b, o, none⟩ = some v → w'.cell? ⟨b, o, none⟩ = some v) (fun _ => True) 99 (by kernel_rfl) ?_
     generalize w21.drew = wd at hS0 hb0 ⊢
     refine wpAny2_take (i := 0) (oi := _) (v := ?_) rfl (by decide) (by kernel_rfl) (by kernel_rfl) (by kernel_rfl) (by kernel_rfl) (fun _ _ _ h => h) hS0 (fun _ => trivial) (Or.inl ⟨by rfl, ?hy⟩) ?_
     case hy => intro w hSw; have z0 := wsame hSw x0; have z1 := wsame hSw x1; have z2 := wsame hSw x2; have z3 := wsame hSw x3; have z4 := wsame hSw u0; have z5 := wsame hSw u1; have z6 := wsame hSw u2; have z7 := wsame hSw u3; go_simp <;> with_reducible rfl
     try simp only [Act.put, List.setIfInBounds_toArray, List.set_cons_zero, List.set_cons_succ, List.getElem_toArray, List.getElem_cons_zero, List.getElem_cons_succ]
     refine wpAny2_take (i := 1) (oi := _) (v := .bool bb) rfl (by decide) (by kernel_rfl) (by kernel_rfl) (by kernel_rfl) (by kernel_rfl) (fun _ _ _ h => h) hS0 (fun _ => trivial) (Or.inl ⟨by rfl, ?hy⟩) ?_
     case hy => intro w hSw; rcases HBB.out with ⟨e, e2⟩ | ⟨⟨a_, e⟩, e2⟩ <;> (subst e; subst e2; first | (go_simp; done) | (go_simp; with_reducible rfl))
     try simp only [Act.put, List.setIfInBounds_toArray, List.set_cons_zero, List.set_cons_succ, List.getElem_toArray, List.getElem_cons_zero, List.getElem_cons_succ]
     refine wpAny2_take (i := 2) (oi := _) (v := ?_) rfl (by decide) (by kernel_rfl) (by kernel_rfl) (by kernel_rfl) (by kernel_rfl) (fun _ _ _ h => h) hS0 (fun _ => trivial) (Or.inl ⟨by rfl, ?hy⟩) ?_
     case hy => intro w hSw; have z0 := wsame hSw x0; have z1 := wsame hSw x1; have z2 := wsame hSw x2; have z3 := wsame hSw x3; have z4 := wsame hSw u0; have z5 := wsame hSw u1; have z6 := wsame hSw u2; have z7 := wsame hSw u3; go_simp <;> with_reducible rfl
     try simp only [Act.put, List.setIfInBounds_toArray, List.set_cons_zero, List.set_cons_succ, List.getElem_toArray, List.getElem_cons_zero, List.getElem_cons_succ]
     refine wpAny2_take (i := 3) (oi := _) (v := .bool bb) rfl (by decide) (by kernel_rfl) (by kernel_rfl) (by kernel_rfl) (by kernel_rfl) (fun _ _ _ h => h) hS0 (fun _ => trivial) (Or.inl ⟨by rfl, ?hy⟩) ?_
     case hy => intro w hSw; rcases HBB.out with ⟨e, e2⟩ | ⟨⟨a_, e⟩, e2⟩ <;> (subst e; subst e2; first | (go_simp; done) | (go_simp; with_reducible rfl))
     try simp only [Act.put, List.setIfInBounds_toArray, List.set_cons_zero, List.set_cons_succ, List.getElem_toArray, List.getElem_cons_zero, List.getElem_cons_succ]
     refine wpAny2_take (i := 4) (oi := _) (v := .bool false) rfl (by decide) (by kernel_rfl) (by kernel_rfl) (by kernel_rfl) (by kernel_rfl) (fun _ _ _ h => h) hS0 (fun _ => trivial) (Or.inl ⟨by rfl, ?hy⟩) ?_
     case hy => intro w hSw; cases bb <;> go_simp <;> with_reducible rfl
     try simp only [Act.put, List.setIfInBounds_toArray, List.set_cons_zero, List.set_cons_succ, List.getElem_toArray, List.getElem_cons_zero, List.getElem_cons_succ]
     refine wpAny2_take (i := 5) (oi := _) (v := ?_) rfl (by decide) (by kernel_rfl) (by kernel_rfl) (by kernel_rfl) (by kernel_rfl) (fun _ _ _ h => h) hS0 (fun _ => trivial) (Or.inl ⟨by rfl, ?hy⟩) ?_
     case hy => intro w hSw; have z0 := wsame hSw x0; have z1 := wsame hSw x1; have z2 := wsame hSw x2; have z3 := wsame hSw x3; have z4 := wsame hSw u0; have z5 := wsame hSw u1; have z6 := wsame hSw u2; have z7 := wsame hSw u3; go_simp <;> with_reducible rfl
     try simp only [Act.put, List.setIfInBounds_toArray, List.set_cons_zero, List.set_cons_succ, List.getElem_toArray, List.getElem_cons_zero, List.getElem_cons_succ]
     refine wpAny2_take (i := 6) (oi := _) (v := ?_) rfl (by decide) (by kernel_rfl) (by kernel_rfl) (by kernel_rfl) (by kernel_rfl) (fun _ _ _ h => h) hS0 (fun _ => trivial) (Or.inl ⟨by rfl, ?hy⟩) ?_
     case hy => intro w hSw; have z0 := wsame hSw x0; have z1 := wsame hSw x1; have z2 := wsame hSw x2; have z3 := wsame hSw x3; have z4 := wsame hSw u0; have z5 := wsame hSw u1; have z6 := wsame hSw u2; have z7 := wsame hSw u3; go_simp <;> with_reducible rfl
     try simp only [Act.put, List.setIfInBounds_toArray, List.set_cons_zero, List.set_cons_succ, List.getElem_toArray, List.getElem_cons_zero, List.getElem_cons_succ]
     refine wpAny2_take (i := 9) (oi := _) (v := ?_) rfl (by decide) (by kernel_rfl) (by kernel_rfl) (by kernel_rfl) (by kernel_rfl) (fun _ _ _ h => h) hS0 (fun _ => trivial) (Or.inl ⟨by rfl, ?hy⟩) ?_
     case hy => intro w hSw; have z0 := wsame hSw x0; have z1 := wsame hSw x1; have z2 := wsame hSw x2; have z3 := wsame hSw x3; have z4 := wsame hSw u0; have z5 := wsame hSw u1; have z6 := wsame hSw u2; have z7 := wsame hSw u3; go_simp <;> with_reducible rfl
     try simp only [Act.put, List.setIfInBounds_toArray, List.set_cons_zero, List.set_cons_succ, List.getElem_toArray, List.getElem_cons_zero, List.getElem_cons_succ]
     refine wpAny2_two (i := 7) (j := 10) (o := _) (o' := _) (by kernel_rfl) rfl rfl (fun K_ hK => ?_) (fun K_ hK => ?_)
     ·
      go_simp
      have hbn : Below w21.heap.size w21 (wd.alloc (.cells #[.slice aov stp.2.1.out.length cov, .bool stp.2.1.asrt, .bool stp.2.1.trap, .slice acv stp.2.1.checks.length ccv] 56)) := hb0.alloc hb0.size _
      have hSn : ∀ (b o : Nat) (v : Value), w21.cell? ⟨b, o, none⟩ = some v → (wd.alloc (.cells #[.slice aov stp.2.1.out.length cov, .bool stp.2.1.asrt, .bool stp.2.1.trap, .slice acv stp.2.1.checks.length ccv] 56)).cell? ⟨b, o, none⟩ = some v := fun b o v h => (hbn.cell (p := ⟨b, o, none⟩) (cell_lt h)).trans h
      have hnX := heap_alloc_new wd (.cells #[.slice aov stp.2.1.out.length cov, .bool stp.2.1.asrt, .bool stp.2.1.trap, .slice acv stp.2.1.checks.length ccv] 56)
      refine hK.out _ _ hSn (fun _ => trivial) ?_
      clear hK K_
      try simp only [Act.put, List.setIfInBounds_toArray, List.set_cons_zero, List.set_cons_succ, List.getElem_toArray, List.getElem_cons_zero, List.getElem_cons_succ]
      generalize hBX : wd.heap.size = BX at *
      generalize wd.alloc (.cells #[.slice aov stp.2.1.out.length cov, .bool stp.2.1.asrt, .bool stp.2.1.trap, .slice acv stp.2.1.checks.length ccv] 56) = v1a at *
      refine wpAny2_two (i := 8) (j := 10) (o := _) (o' := _) (by kernel_rfl) rfl rfl (fun K_ hK => ?_) (fun K_ hK => ?_)
      ·
       go_simp
       go_at_call 21
       refine (ticksOf_any (allKn v1a) [stp.2.1] _ (tks_one hnX (HKT.out.le (kn_le_all (HLA.out.below hbn)))) (by simp) v1a (allKn_in v1a)).mono ?_
       rintro r v2b ⟨vt1, K1, rfl, hvt, hst⟩
       have hbn := hbn.trans (hst.below.mono hbn.size)
       have ht1 := TksV.le (kn_le_all hst.isin) hvt
       obtain ⟨at1, ct1, rfl⟩ := ht1.len
       have hSn : ∀ (b o : Nat) (v : Value), w21.cell? ⟨b, o, none⟩ = some v → v2b.cell? ⟨b, o, none⟩ = some v := fun b o v h => (hbn.cell (p := ⟨b, o, none⟩) (cell_lt h)).trans h
       refine hK.out _ _ hSn (fun _ => trivial) ?_
       clear hK K_ hvt hst
       try simp only [Act.put, List.setIfInBounds_toArray, List.set_cons_zero, List.set_cons_succ, List.getElem_toArray, List.getElem_cons_zero, List.getElem_cons_succ]
       refine wpAny2_one (i := 10) (o := _) (by kernel_rfl) rfl (fun K_ hK => ?_)
       go_simp
       have hbn : Below w21.heap.size w21 (v2b.alloc (.cells #[.slice aow stp.2.1.out.length cow, .bool stp.2.1.asrt, .bool stp.2.1.trap, .slice acw stp.2.1.checks.length ccw] 56)) := hbn.alloc hbn.size _
       have hSn : ∀ (b o : Nat) (v : Value), w21.cell? ⟨b, o, none⟩ = some v → (v2b.alloc (.cells #[.slice aow stp.2.1.out.length cow, .bool stp.2.1.asrt, .bool stp.2.1.trap, .slice acw stp.2.1.checks.length ccw] 56)).cell? ⟨b, o, none⟩ = some v := fun b o v h => (hbn.cell (p := ⟨b, o, none⟩) (cell_lt h)).trans h
       have hnY := heap_alloc_new v2b (.cells #[.slice aow stp.2.1.out.length cow, .bool stp.2.1.asrt, .bool stp.2.1.trap, .slice acw stp.2.1.checks.length ccw] 56)
       have ht1 := TksV.le (kn_le_all ((allKn_in v2b).alloc (.cells #[.slice aow stp.2.1.out.length cow, .bool stp.2.1.asrt, .bool stp.2.1.trap, .slice acw stp.2.1.checks.length ccw] 56))) ht1
       refine hK.out _ _ hSn (fun _ => trivial) ?_
       clear hK K_
       try simp only [Act.put, List.setIfInBounds_toArray, List.set_cons_zero, List.set_cons_succ, List.getElem_toArray, List.getElem_cons_zero, List.getElem_cons_succ]
       generalize hBY : v2b.heap.size = BY at *
       generalize v2b.alloc (.cells #[.slice aow stp.2.1.out.length cow, .bool stp.2.1.asrt, .bool stp.2.1.trap, .slice acw stp.2.1.checks.length ccw] 56) = v3b at *
       refine wpAny2_one (i := 11) (o := _) (by kernel_rfl) rfl (fun K_ hK => ?_)
       go_simp
       go_at_call 21
       refine (ticksOf_any (allKn v3b) [stp.2.1] _ (tks_one hnY (HKU.out.le (kn_le_all (HLA.out.below hbn)))) (by simp) v3b (allKn_in v3b)).mono ?_
       rintro r v4b ⟨vt2, K2, rfl, hvt, hst⟩
       have hbn := hbn.trans (hst.below.mono hbn.size)
       have ht2 := TksV.le (kn_le_all hst.isin) hvt
       obtain ⟨at2, ct2, rfl⟩ := ht2.len
       have hSn : ∀ (b o : Nat) (v : Value), w21.cell? ⟨b, o, none⟩ = some v → v4b.cell? ⟨b, o, none⟩ = some v := fun b o v h => (hbn.cell (p := ⟨b, o, none⟩) (cell_lt h)).trans h
       have ht1 := TksV.le (kn_le_all (allKn_below hst.below)) ht1
       refine hK.out _ _ hSn (fun _ => trivial) ?_
       clear hK K_ hvt hst
       try simp only [Act.put, List.setIfInBounds_toArray, List.set_cons_zero, List.set_cons_succ, List.getElem_toArray, List.getElem_cons_zero, List.getElem_cons_succ]
       refine wpAny2_one (i := 12) (o := _) (by kernel_rfl) rfl (fun K_ hK => ?_)
       go_simp
       go_at_call 20
       refine (sameTicks_any (allKn v4b) [stp.2.1] _ _ ht1 ht2 ⟨by simp, fun y hy => by rw [List.mem_singleton.1 hy]; have := HSZ.out; omega⟩ v4b (allKn_in v4b)).mono ?_
       rintro r v5b ⟨rfl, hbz⟩
       have hbn := hbn.trans (hbz.mono hbn.size)
       have hSn : ∀ (b o : Nat) (v : Value), w21.cell? ⟨b, o, none⟩ = some v → v5b.cell? ⟨b, o, none⟩ = some v := fun b o v h => (hbn.cell (p := ⟨b, o, none⟩) (cell_lt h)).trans h
       refine hK.out _ _ hSn (fun _ => trivial) ?_
       clear hK K_ hbz
       try simp only [Act.put, List.setIfInBounds_toArray, List.set_cons_zero, List.set_cons_succ, List.getElem_toArray, List.getElem_cons_zero, List.getElem_cons_succ]
       refine wpAny2_take (i := 13) (oi := _) (v := ?_) rfl (by decide) (by kernel_rfl) (by kernel_rfl) (by kernel_rfl) (by kernel_rfl) (fun _ _ _ h => h) hSn (fun _ => trivial) (Or.inl ⟨by rfl, ?hy⟩) ?_
       case hy => intro w hSw; have z0 := wsame hSw x0; have z1 := wsame hSw x1; have z2 := wsame hSw x2; have z3 := wsame hSw x3; have z4 := wsame hSw u0; have z5 := wsame hSw u1; have z6 := wsame hSw u2; have z7 := wsame hSw u3; go_simp <;> with_reducible rfl
       try simp only [Act.put, List.setIfInBounds_toArray, List.set_cons_zero, List.set_cons_succ, List.getElem_toArray, List.getElem_cons_zero, List.getElem_cons_succ]
       refine wpAny2_take (i := 14) (oi := _) (v := ?_) rfl (by decide) (by kernel_rfl) (by kernel_rfl) (by kernel_rfl) (by kernel_rfl) (fun _ _ _ h => h) hSn (fun _ => trivial) (Or.inl ⟨by rfl, ?hy⟩) ?_
       case hy => intro w hSw; have z0 := wsame hSw x0; have z1 := wsame hSw x1; have z2 := wsame hSw x2; have z3 := wsame hSw x3; have z4 := wsame hSw u0; have z5 := wsame hSw u1; have z6 := wsame hSw u2; have z7 := wsame hSw u3; go_simp <;> with_reducible rfl
       try simp only [Act.put, List.setIfInBounds_toArray, List.set_cons_zero, List.set_cons_succ, List.getElem_toArray, List.getElem_cons_zero, List.getElem_cons_succ]
       refine wpAny2_done (by kernel_rfl) ?_ _
       have hbW := hbn
       have hfa := HA21.out.below hbW
       have hfb := HM21.out.below hbW
       have hfw := HB21.out.trans (hbW.mono HB21.out.size)
       have HFI := Lib.hid (And.intro hfa (And.intro hfb hfw))
       clear hbW hfa hfb hfw hbn hSn ht1 ht2
       go_wp2_with fail
       go_roundw
       case rel => exact ⟨k + 1, _, _, _, by go_num, by omega, HLE.out, HFI.out.2.2, HVS.out, HFI.out.1, HFI.out.2.1⟩
       case measure => simp [intOf]; omega
      ·
       go_simp
       have hbn : Below w21.heap.size w21 (v1a.alloc (.cells #[.slice aow stp.2.1.out.length cow, .bool stp.2.1.asrt, .bool stp.2.1.trap, .slice acw stp.2.1.checks.length ccw] 56)) := hbn.alloc hbn.size _
       have hSn : ∀ (b o : Nat) (v : Value), w21.cell? ⟨b, o, none⟩ = some v → (v1a.alloc (.cells #[.slice aow stp.2.1.out.length cow, .bool stp.2.1.asrt, .bool stp.2.1.trap, .slice acw stp.2.1.checks.length ccw] 56)).cell? ⟨b, o, none⟩ = some v := fun b o v h => (hbn.cell (p := ⟨b, o, none⟩) (cell_lt h)).trans h
       have hnY := heap_alloc_new v1a (.cells #[.slice aow stp.2.1.out.length cow, .bool stp.2.1.asrt, .bool stp.2.1.trap, .slice acw stp.2.1.checks.length ccw] 56)
       have hnX := (Below.heap_alloc v1a (.cells #[.slice aow stp.2.1.out.length cow, .bool stp.2.1.asrt, .bool stp.2.1.trap, .slice acw stp.2.1.checks.length ccw] 56) _ (Array.getElem?_eq_some_iff.1 hnX).1).trans hnX
       refine hK.out _ _ hSn (fun _ => trivial) ?_
       clear hK K_
       try simp only [Act.put, List.setIfInBounds_toArray, List.set_cons_zero, List.set_cons_succ, List.getElem_toArray, List.getElem_cons_zero, List.getElem_cons_succ]
       generalize hBY : v1a.heap.size = BY at *
       generalize v1a.alloc (.cells #[.slice aow stp.2.1.out.length cow, .bool stp.2.1.asrt, .bool stp.2.1.trap, .slice acw stp.2.1.checks.length ccw] 56) = v2c at *
       refine wpAny2_one (i := 8) (o := _) (by kernel_rfl) rfl (fun K_ hK => ?_)
       go_simp
       go_at_call 21
       refine (ticksOf_any (allKn v2c) [stp.2.1] _ (tks_one hnX (HKT.out.le (kn_le_all (HLA.out.below hbn)))) (by simp) v2c (allKn_in v2c)).mono ?_
       rintro r v3c ⟨vt1, K1, rfl, hvt, hst⟩
       have hbn := hbn.trans (hst.below.mono hbn.size)
       have ht1 := TksV.le (kn_le_all hst.isin) hvt
       obtain ⟨at1, ct1, rfl⟩ := ht1.len
       have hSn : ∀ (b o : Nat) (v : Value), w21.cell? ⟨b, o, none⟩ = some v → v3c.cell? ⟨b, o, none⟩ = some v := fun b o v h => (hbn.cell (p := ⟨b, o, none⟩) (cell_lt h)).trans h
       have hnY := (hst.below.block _ (Array.getElem?_eq_some_iff.1 hnY).1).trans hnY
       refine hK.out _ _ hSn (fun _ => trivial) ?_
       clear hK K_ hvt hst
       try simp only [Act.put, List.setIfInBounds_toArray, List.set_cons_zero, List.set_cons_succ, List.getElem_toArray, List.getElem_cons_zero, List.getElem_cons_succ]
       refine wpAny2_one (i := 11) (o := _) (by kernel_rfl) rfl (fun K_ hK => ?_)
       go_simp
       go_at_call 21
       refine (ticksOf_any (allKn v3c) [stp.2.1] _ (tks_one hnY (HKU.out.le (kn_le_all (HLA.out.below hbn)))) (by simp) v3c (allKn_in v3c)).mono ?_
       rintro r v4c ⟨vt2, K2, rfl, hvt, hst⟩
       have hbn := hbn.trans (hst.below.mono hbn.size)
       have ht2 := TksV.le (kn_le_all hst.isin) hvt
       obtain ⟨at2, ct2, rfl⟩ := ht2.len
       have hSn : ∀ (b o : Nat) (v : Value), w21.cell? ⟨b, o, none⟩ = some v → v4c.cell? ⟨b, o, none⟩ = some v := fun b o v h => (hbn.cell (p := ⟨b, o, none⟩) (cell_lt h)).trans h
       have ht1 := TksV.le (kn_le_all (allKn_below hst.below)) ht1
       refine hK.out _ _ hSn (fun _ => trivial) ?_
       clear hK K_ hvt hst
       try simp only [Act.put, List.setIfInBounds_toArray, List.set_cons_zero, List.set_cons_succ, List.getElem_toArray, List.getElem_cons_zero, List.getElem_cons_succ]
       refine wpAny2_one (i := 12) (o := _) (by kernel_rfl) rfl (fun K_ hK => ?_)
       go_simp
       go_at_call 20
       refine (sameTicks_any (allKn v4c) [stp.2.1] _ _ ht1 ht2 ⟨by simp, fun y hy => by rw [List.mem_singleton.1 hy]; have := HSZ.out; omega⟩ v4c (allKn_in v4c)).mono ?_
       rintro r v5c ⟨rfl, hbz⟩
       have hbn := hbn.trans (hbz.mono hbn.size)
       have hSn : ∀ (b o : Nat) (v : Value), w21.cell? ⟨b, o, none⟩ = some v → v5c.cell? ⟨b, o, none⟩ = some v := fun b o v h => (hbn.cell (p := ⟨b, o, none⟩) (cell_lt h)).trans h
       refine hK.out _ _ hSn (fun _ => trivial) ?_
       clear hK K_ hbz
       try simp only [Act.put, List.setIfInBounds_toArray, List.set_cons_zero, List.set_cons_succ, List.getElem_toArray, List.getElem_cons_zero, List.getElem_cons_succ]
       refine wpAny2_take (i := 13) (oi := _) (v := ?_) rfl (by decide) (by kernel_rfl) (by kernel_rfl) (by kernel_rfl) (by kernel_rfl) (fun _ _ _ h => h) hSn (fun _ => trivial) (Or.inl ⟨by rfl, ?hy⟩) ?_
       case hy => intro w hSw; have z0 := wsame hSw x0; have z1 := wsame hSw x1; have z2 := wsame hSw x2; have z3 := wsame hSw x3; have z4 := wsame hSw u0; have z5 := wsame hSw u1; have z6 := wsame hSw u2; have z7 := wsame hSw u3; go_simp <;> with_reducible rfl
       try simp only [Act.put, List.setIfInBounds_toArray, List.set_cons_zero, List.set_cons_succ, List.getElem_toArray, List.getElem_cons_zero, List.getElem_cons_succ]
       refine wpAny2_take (i := 14) (oi := _) (v := ?_) rfl (by decide) (by kernel_rfl) (by kernel_rfl) (by kernel_rfl) (by kernel_rfl) (fun _ _ _ h => h) hSn (fun _ => trivial) (Or.inl ⟨by rfl, ?hy⟩) ?_
       case hy => intro w hSw; have z0 := wsame hSw x0; have z1 := wsame hSw x1; have z2 := wsame hSw x2; have z3 := wsame hSw x3; have z4 := wsame hSw u0; have z5 := wsame hSw u1; have z6 := wsame hSw u2; have z7 := wsame hSw u3; go_simp <;> with_reducible rfl
       try simp only [Act.put, List.setIfInBounds_toArray, List.set_cons_zero, List.set_cons_succ, List.getElem_toArray, List.getElem_cons_zero, List.getElem_cons_succ]
       refine wpAny2_done (by kernel_rfl) ?_ _
       have hbW := hbn
       have hfa := HA21.out.below hbW
       have hfb := HM21.out.below hbW
       have hfw := HB21.out.trans (hbW.mono HB21.out.size)
       have HFI := Lib.hid (And.intro hfa (And.intro hfb hfw))
       clear hbW hfa hfb hfw hbn hSn ht1 ht2
       go_wp2_with fail
       go_roundw
       case rel => exact ⟨k + 1, _, _, _, by go_num, by omega, HLE.out, HFI.out.2.2, HVS.out, HFI.out.1, HFI.out.2.1⟩
       case measure => simp [intOf]; omega
     ·
      go_simp
      have hbn : Below w21.heap.size w21 (wd.alloc (.cells #[.slice aow stp.2.1.out.length cow, .bool stp.2.1.asrt, .bool stp.2.1.trap, .slice acw stp.2.1.checks.length ccw] 56)) := hb0.alloc hb0.size _
      have hSn : ∀ (b o : Nat) (v : Value), w21.cell? ⟨b, o, none⟩ = some v → (wd.alloc (.cells #[.slice aow stp.2.1.out.length cow, .bool stp.2.1.asrt, .bool stp.2.1.trap, .slice acw stp.2.1.checks.length ccw] 56)).cell? ⟨b, o, none⟩ = some v := fun b o v h => (hbn.cell (p := ⟨b, o, none⟩) (cell_lt h)).trans h
      have hnY := heap_alloc_new wd (.cells #[.slice aow stp.2.1.out.length cow, .bool stp.2.1.asrt, .bool stp.2.1.trap, .slice acw stp.2.1.checks.length ccw] 56)
      refine hK.out _ _ hSn (fun _ => trivial) ?_
      clear hK K_
      try simp only [Act.put, List.setIfInBounds_toArray, List.set_cons_zero, List.set_cons_succ, List.getElem_toArray, List.getElem_cons_zero, List.getElem_cons_succ]
      generalize hBY : wd.heap.size = BY at *
      generalize wd.alloc (.cells #[.slice aow stp.2.1.out.length cow, .bool stp.2.1.asrt, .bool stp.2.1.trap, .slice acw stp.2.1.checks.length ccw] 56) = v1d at *
      refine wpAny2_one (i := 7) (o := _) (by kernel_rfl) rfl (fun K_ hK => ?_)
      go_simp
      have hbn : Below w21.heap.size w21 (v1d.alloc (.cells #[.slice aov stp.2.1.out.length cov, .bool stp.2.1.asrt, .bool stp.2.1.trap, .slice acv stp.2.1.checks.length ccv] 56)) := hbn.alloc hbn.size _
      have hSn : ∀ (b o : Nat) (v : Value), w21.cell? ⟨b, o, none⟩ = some v → (v1d.alloc (.cells #[.slice aov stp.2.1.out.length cov, .bool stp.2.1.asrt, .bool stp.2.1.trap, .slice acv stp.2.1.checks.length ccv] 56)).cell? ⟨b, o, none⟩ = some v := fun b o v h => (hbn.cell (p := ⟨b, o, none⟩) (cell_lt h)).trans h
      have hnX := heap_alloc_new v1d (.cells #[.slice aov stp.2.1.out.length cov, .bool stp.2.1.asrt, .bool stp.2.1.trap, .slice acv stp.2.1.checks.length ccv] 56)
      have hnY := (Below.heap_alloc v1d (.cells #[.slice aov stp.2.1.out.length cov, .bool stp.2.1.asrt, .bool stp.2.1.trap, .slice acv stp.2.1.checks.length ccv] 56) _ (Array.getElem?_eq_some_iff.1 hnY).1).trans hnY
      refine hK.out _ _ hSn (fun _ => trivial) ?_
      clear hK K_
      try simp only [Act.put, List.setIfInBounds_toArray, List.set_cons_zero, List.set_cons_succ, List.getElem_toArray, List.getElem_cons_zero, List.getElem_cons_succ]
      generalize hBX : v1d.heap.size = BX at *
      generalize v1d.alloc (.cells #[.slice aov stp.2.1.out.length cov, .bool stp.2.1.asrt, .bool stp.2.1.trap, .slice acv stp.2.1.checks.length ccv] 56) = v2d at *
      refine wpAny2_one (i := 8) (o := _) (by kernel_rfl) rfl (fun K_ hK => ?_)
      go_simp
      go_at_call 21
      refine (ticksOf_any (allKn v2d) [stp.2.1] _ (tks_one hnX (HKT.out.le (kn_le_all (HLA.out.below hbn)))) (by simp) v2d (allKn_in v2d)).mono ?_
      rintro r v3d ⟨vt1, K1, rfl, hvt, hst⟩
      have hbn := hbn.trans (hst.below.mono hbn.size)
      have ht1 := TksV.le (kn_le_all hst.isin) hvt
      obtain ⟨at1, ct1, rfl⟩ := ht1.len
      have hSn : ∀ (b o : Nat) (v : Value), w21.cell? ⟨b, o, none⟩ = some v → v3d.cell? ⟨b, o, none⟩ = some v := fun b o v h => (hbn.cell (p := ⟨b, o, none⟩) (cell_lt h)).trans h
      have hnY := (hst.below.block _ (Array.getElem?_eq_some_iff.1 hnY).1).trans hnY
      refine hK.out _ _ hSn (fun _ => trivial) ?_
      clear hK K_ hvt hst
      try simp only [Act.put, List.setIfInBounds_toArray, List.set_cons_zero, List.set_cons_succ, List.getElem_toArray, List.getElem_cons_zero, List.getElem_cons_succ]
      refine wpAny2_one (i := 11) (o := _) (by kernel_rfl) rfl (fun K_ hK => ?_)
      go_simp
      go_at_call 21
      refine (ticksOf_any (allKn v3d) [stp.2.1] _ (tks_one hnY (HKU.out.le (kn_le_all (HLA.out.below hbn)))) (by simp) v3d (allKn_in v3d)).mono ?_
      rintro r v4d ⟨vt2, K2, rfl, hvt, hst⟩
      have hbn := hbn.trans (hst.below.mono hbn.size)
      have ht2 := TksV.le (kn_le_all hst.isin) hvt
      obtain ⟨at2, ct2, rfl⟩ := ht2.len
      have hSn : ∀ (b o : Nat) (v : Value), w21.cell? ⟨b, o, none⟩ = some v → v4d.cell? ⟨b, o, none⟩ = some v := fun b o v h => (hbn.cell (p := ⟨b, o, none⟩) (cell_lt h)).trans h
      have ht1 := TksV.le (kn_le_all (allKn_below hst.below)) ht1
      refine hK.out _ _ hSn (fun _ => trivial) ?_
      clear hK K_ hvt hst
      try simp only [Act.put, List.setIfInBounds_toArray, List.set_cons_zero, List.set_cons_succ, List.getElem_toArray, List.getElem_cons_zero, List.getElem_cons_succ]
      refine wpAny2_one (i := 12) (o := _) (by kernel_rfl) rfl (fun K_ hK => ?_)
      go_simp
      go_at_call 20
      refine (sameTicks_any (allKn v4d) [stp.2.1] _ _ ht1 ht2 ⟨by simp, fun y hy => by rw [List.mem_singleton.1 hy]; have := HSZ.out; omega⟩ v4d (allKn_in v4d)).mono ?_
      rintro r v5d ⟨rfl, hbz⟩
      have hbn := hbn.trans (hbz.mono hbn.size)
      have hSn : ∀ (b o : Nat) (v : Value), w21.cell? ⟨b, o, none⟩ = some v → v5d.cell? ⟨b, o, none⟩ = some v := fun b o v h => (hbn.cell (p := ⟨b, o, none⟩) (cell_lt h)).trans h
      refine hK.out _ _ hSn (fun _ => trivial) ?_
      clear hK K_ hbz
      try simp only [Act.put, List.setIfInBounds_toArray, List.set_cons_zero, List.set_cons_succ, List.getElem_toArray, List.getElem_cons_zero, List.getElem_cons_succ]
      refine wpAny2_take (i := 13) (oi := _) (v := ?_) rfl (by decide) (by kernel_rfl) (by kernel_rfl) (by kernel_rfl) (by kernel_rfl) (fun _ _ _ h => h) hSn (fun _ => trivial) (Or.inl ⟨by rfl, ?hy⟩) ?_
      case hy => intro w hSw; have z0 := wsame hSw x0; have z1 := wsame hSw x1; have z2 := wsame hSw x2; have z3 := wsame hSw x3; have z4 := wsame hSw u0; have z5 := wsame hSw u1; have z6 := wsame hSw u2; have z7 := wsame hSw u3; go_simp <;> with_reducible rfl
      try simp only [Act.put, List.setIfInBounds_toArray, List.set_cons_zero, List.set_cons_succ, List.getElem_toArray, List.getElem_cons_zero, List.getElem_cons_succ]
      refine wpAny2_take (i := 14) (oi := _) (v := ?_) rfl (by decide) (by kernel_rfl) (by kernel_rfl) (by kernel_rfl) (by kernel_rfl) (fun _ _ _ h => h) hSn (fun _ => trivial) (Or.inl ⟨by rfl, ?hy⟩) ?_
      case hy => intro w hSw; have z0 := wsame hSw x0; have z1 := wsame hSw x1; have z2 := wsame hSw x2; have z3 := wsame hSw x3; have z4 := wsame hSw u0; have z5 := wsame hSw u1; have z6 := wsame hSw u2; have z7 := wsame hSw u3; go_simp <;> with_reducible rfl
      try simp only [Act.put, List.setIfInBounds_toArray, List.set_cons_zero, List.set_cons_succ, List.getElem_toArray, List.getElem_cons_zero, List.getElem_cons_succ]
      refine wpAny2_done (by kernel_rfl) ?_ _
      have hbW := hbn
      have hfa := HA21.out.below hbW
      have hfb := HM21.out.below hbW
      have hfw := HB21.out.trans (hbW.mono HB21.out.size)
      have HFI := Lib.hid (And.intro hfa (And.intro hfb hfw))
      clear hbW hfa hfb hfw hbn hSn ht1 ht2
      go_wp2_with fail
      go_roundw
      case rel => exact ⟨k + 1, _, _, _, by go_num, by omega, HLE.out, HFI.out.2.2, HVS.out, HFI.out.1, HFI.out.2.1⟩
      case measure => simp [intOf]; omega
    ·obtain rfl : k = more.length := by omega
     have hMa := HMCA.out
     have hMb := HMCB.out
     rw [List.take_of_length_le (Nat.le_refl _)] at hMa hMb
     generalize goM R (cdOf p ord) p.ins sL more = s2 at *
     have hml2 := hMa.len
     have HA30 := Lib.hid hMa
     have HM30 := Lib.hid hMb
     have HL30 := HLK
     have HB30 := HBW
     have HV30 := HVS
     obtain ⟨KL, hKL⟩ : ∃ X, X = kindsL R.ks p := ⟨_, rfl⟩
     have HKL := Lib.hid hKL
     have HR := Lib.hid (show rightTo KL SL SL.length = true from by rw [hKL]; exact HRT.out)
     clear HMCA HMCB HLK HBW HVS hMa hMb hKL hkl
     go_wp2_with fail
     refine (state_any HA30.out (by omega)).mono ?_
     rintro r w31 ⟨v31, rfl, hv, hb⟩
     have HX31 := Lib.hid (SlV.le hv (joinKn_new K wr.heap.size w31) VlC.mono)
     have HV31 := Lib.hid (SlV.le HV30.out (joinKn_le HA30.out.isin w31) VlC.mono)
     have HL31 := Lib.hid (Kn.le_trans HL30.out (joinKn_le HA30.out.isin w31))
     have HB31 := Lib.hid (HB30.out.trans (hb.mono HB30.out.size))
     have HA31 := Lib.hid (HA30.out.join hb)
     have HM31 := Lib.hid (HM30.out.join hb)
     clear hb HA30 HM30 HV30 HL30 HB30 hv
     generalize joinKn K wr.heap.size w31 = K31 at *
     go_wp2_with fail
     refine (state_any HM31.out (by omega)).mono ?_
     rintro r w32 ⟨v32, rfl, hv, hb⟩
     have HY32 := Lib.hid (SlV.le hv (joinKn_new K31 w31.heap.size w32) VlC.mono)
     have HV32 := Lib.hid (SlV.le HV31.out (joinKn_le HA31.out.isin w32) VlC.mono)
     have HX32 := Lib.hid (SlV.le HX31.out (joinKn_le HA31.out.isin w32) VlC.mono)
     have HL32 := Lib.hid (Kn.le_trans HL31.out (joinKn_le HA31.out.isin w32))
     have HB32 := Lib.hid (HB31.out.trans (hb.mono HB31.out.size))
     have HA32 := Lib.hid (HA31.out.join hb)
     have HM32 := Lib.hid (HM31.out.join hb)
     clear hb HA31 HM31 HV31 HX31 HL31 HB31 hv
     generalize joinKn K31 w31.heap.size w32 = K32 at *
     go_wp2_with fail
     refine (sameVls_any K32 (stateM s2) _ _ HX32.out HY32.out (by simp only [stateM, List.length_cons]; omega) w32 HA32.out.isin).mono ?_
     rintro r w33 ⟨rfl, hb⟩
     clear HX32 HY32 HM32
     have HV33 := Lib.hid (SlV.le HV32.out (joinKn_le HA32.out.isin w33) VlC.mono)
     have HL33 := Lib.hid (Kn.le_trans HL32.out (joinKn_le HA32.out.isin w33))
     have HB33 := Lib.hid (HB32.out.trans (hb.mono HB32.out.size))
     have HA33 := Lib.hid (HA32.out.join hb)
     clear hb HA32 HV32 HL32 HB32 
     generalize joinKn K32 w32.heap.size w33 = K33 at *
     have hz0 := rightTo_zero KL l
     rw [← (right_kinds HR.out).1] at hz0
     obtain ⟨bq, hbq⟩ : ∃ b, b = ((l.length : Int) == (SL.length : Int)) := ⟨_, rfl⟩
     have hbz : rightTo KL l 0 = bq := by rw [hz0, hbq]; by_cases e : l.length = SL.length <;> simp [e] <;> omega
     have HBQ := Lib.hid hbq
     have HBZ := Lib.hid hbz
     clear hz0 hbz hbq
     go_wp2_with fail
     go_loopw [21, 20] (fun i u wr => ∃ (k : Nat) (K : Kn), i = .int .i64 k ∧ u = .bool (rightTo KL l k) ∧ k ≤ l.length ∧ H.le K ∧ Below w.heap.size w wr ∧ VlsV K SL (.slice a9 SL.length c9) ∧ McAt 94 143 135 R p ord K wr M1 B1 s2 va) (fun i _ _ => l.length - (intOf i).toNat)
     case atStart => exact ⟨0, _, rfl, by rw [HBZ.out, HBQ.out], Nat.zero_le _, HL33.out, HB33.out, HV33.out, HA33.out⟩
     case round =>
      clear HL33 HB33 HV33 HA33
      obtain ⟨k, K, rfl, rfl, hk, hle, hbw, hvs, hMa⟩ := hrel
      have HMCA := Lib.hid hMa
      have HLK := Lib.hid hle
      have HBW := Lib.hid hbw
      have HVS := Lib.hid hvs
      clear hMa hle hbw hvs
      by_cases hgo : k < l.length ∧ rightTo KL l k = true
      ·obtain ⟨hkl, hrt⟩ := hgo
       have hks : k < SL.length := by rw [(right_kinds HR.out).1, ← rightTo_len hrt]; exact hkl
       obtain ⟨b, off, e1, x0, x1⟩ := vl_at2 HVL.out hkl
       obtain ⟨b', off', e2, y0, _⟩ := vl_at2 HVS.out hks
       subst e1
       subst e2
       have hmo := rightTo_more hrt HR.out hkl hks
       have x0 := HLK.out.cell x0
       have x1 := HLK.out.cell x1
       have hS : K.In wr.drew := HMCA.out.isin.drew
       have hkI : (k : Int) < l.length := by omega
       have hkS : (k : Int) < SL.length := by omega
       generalize l[k].kind = xk at *
       generalize l[k].n = xn at *
       generalize SL[k].kind = yk at *
       have HMO := Lib.hid hmo
       rw [hrt]
       clear hmo
       go_wp2_with fail
       refine wp_region_2 (fun w' => K.In w') (fun _ => True) 99 (by kernel_rfl) ?_
       refine wpAny2_take (i := 0) (oi := _) (v := ?_) rfl (by decide) (by kernel_rfl) (by kernel_rfl) (by kernel_rfl) (by kernel_rfl) (fun _ _ _ h => h) hS (fun _ => trivial) (Or.inl ⟨by rfl, ?hy⟩) ?_
       case hy => intro w hSw; have z0 := hSw.cell x0; have z1 := hSw.cell x1; have z2 := hSw.cell y0; go_simp <;> with_reducible rfl
       try simp only [Act.put, List.setIfInBounds_toArray, List.set_cons_zero, List.set_cons_succ, List.getElem_toArray, List.getElem_cons_zero, List.getElem_cons_succ]
       refine wpAny2_take (i := 1) (oi := _) (v := ?_) rfl (by decide) (by kernel_rfl) (by kernel_rfl) (by kernel_rfl) (by kernel_rfl) (fun _ _ _ h => h) hS (fun _ => trivial) (Or.inl ⟨by rfl, ?hy⟩) ?_
       case hy => intro w hSw; have z0 := hSw.cell x0; have z1 := hSw.cell x1; have z2 := hSw.cell y0; go_simp <;> with_reducible rfl
       try simp only [Act.put, List.setIfInBounds_toArray, List.set_cons_zero, List.set_cons_succ, List.getElem_toArray, List.getElem_cons_zero, List.getElem_cons_succ]
       refine wpAny2_take (i := 2) (oi := _) (v := ?_) rfl (by decide) (by kernel_rfl) (by kernel_rfl) (by kernel_rfl) (by kernel_rfl) (fun _ _ _ h => h) hS (fun _ => trivial) (Or.inl ⟨by rfl, ?hy⟩) ?_
       case hy => intro w hSw; have z0 := hSw.cell x0; have z1 := hSw.cell x1; have z2 := hSw.cell y0; go_simp <;> with_reducible rfl
       try simp only [Act.put, List.setIfInBounds_toArray, List.set_cons_zero, List.set_cons_succ, List.getElem_toArray, List.getElem_cons_zero, List.getElem_cons_succ]
       refine wpAny2_take (i := 3) (oi := _) (v := ?_) rfl (by decide) (by kernel_rfl) (by kernel_rfl) (by kernel_rfl) (by kernel_rfl) (fun _ _ _ h => h) hS (fun _ => trivial) (Or.inl ⟨by rfl, ?hy⟩) ?_
       case hy => intro w hSw; have z0 := hSw.cell x0; have z1 := hSw.cell x1; have z2 := hSw.cell y0; go_simp <;> with_reducible rfl
       try simp only [Act.put, List.setIfInBounds_toArray, List.set_cons_zero, List.set_cons_succ, List.getElem_toArray, List.getElem_cons_zero, List.getElem_cons_succ]
       refine wpAny2_take (i := 4) (oi := _) (v := ?_) rfl (by decide) (by kernel_rfl) (by kernel_rfl) (by kernel_rfl) (by kernel_rfl) (fun _ _ _ h => h) hS (fun _ => trivial) (Or.inl ⟨by rfl, ?hy⟩) ?_
       case hy => intro w hSw; have z0 := hSw.cell x0; have z1 := hSw.cell x1; have z2 := hSw.cell y0; go_simp <;> with_reducible rfl
       try simp only [Act.put, List.setIfInBounds_toArray, List.set_cons_zero, List.set_cons_succ, List.getElem_toArray, List.getElem_cons_zero, List.getElem_cons_succ]
       refine wpAny2_take (i := 5) (oi := _) (v := ?_) rfl (by decide) (by kernel_rfl) (by kernel_rfl) (by kernel_rfl) (by kernel_rfl) (fun _ _ _ h => h) hS (fun _ => trivial) (Or.inl ⟨by rfl, ?hy⟩) ?_
       case hy => intro w hSw; have z0 := hSw.cell x0; have z1 := hSw.cell x1; have z2 := hSw.cell y0; go_simp <;> with_reducible rfl
       try simp only [Act.put, List.setIfInBounds_toArray, List.set_cons_zero, List.set_cons_succ, List.getElem_toArray, List.getElem_cons_zero, List.getElem_cons_succ]
       refine wpAny2_take (i := 6) (oi := _) (v := ?_) rfl (by decide) (by kernel_rfl) (by kernel_rfl) (by kernel_rfl) (by kernel_rfl) (fun _ _ _ h => h) hS (fun _ => trivial) (Or.inl ⟨by rfl, ?hy⟩) ?_
       case hy => intro w hSw; have z0 := hSw.cell x0; have z1 := hSw.cell x1; have z2 := hSw.cell y0; go_simp <;> with_reducible rfl
       try simp only [Act.put, List.setIfInBounds_toArray, List.set_cons_zero, List.set_cons_succ, List.getElem_toArray, List.getElem_cons_zero, List.getElem_cons_succ]
       refine wpAny2_take (i := 7) (oi := _) (v := ?_) rfl (by decide) (by kernel_rfl) (by kernel_rfl) (by kernel_rfl) (by kernel_rfl) (fun _ _ _ h => h) hS (fun _ => trivial) (Or.inl ⟨by rfl, ?hy⟩) ?_
       case hy => intro w hSw; have z0 := hSw.cell x0; have z1 := hSw.cell x1; have z2 := hSw.cell y0; go_simp <;> with_reducible rfl
       try simp only [Act.put, List.setIfInBounds_toArray, List.set_cons_zero, List.set_cons_succ, List.getElem_toArray, List.getElem_cons_zero, List.getElem_cons_succ]
       refine wpAny2_take (i := 8) (oi := _) (v := ?_) rfl (by decide) (by kernel_rfl) (by kernel_rfl) (by kernel_rfl) (by kernel_rfl) (fun _ _ _ h => h) hS (fun _ => trivial) (Or.inl ⟨by rfl, ?hy⟩) ?_
       case hy => intro w hSw; have z0 := hSw.cell x0; have z1 := hSw.cell x1; have z2 := hSw.cell y0; go_simp <;> with_reducible rfl
       try simp only [Act.put, List.setIfInBounds_toArray, List.set_cons_zero, List.set_cons_succ, List.getElem_toArray, List.getElem_cons_zero, List.getElem_cons_succ]
       refine wpAny2_one (i := 9) (o := _) (by kernel_rfl) rfl (fun K_ hK => ?_)
       go_simp
       go_at_call 22
       refine (rright_any ⟨xk, xn⟩ yk _).mono ?_
       rintro r5 w5 ⟨rfl, hb5⟩
       have hS5 := hS.below hb5
       refine hK.out _ _ (hS5) (fun _ => trivial) ?_
       clear hK K_
       try simp only [Act.put, List.setIfInBounds_toArray, List.set_cons_zero, List.set_cons_succ, List.getElem_toArray, List.getElem_cons_zero, List.getElem_cons_succ]
       refine wpAny2_take (i := 10) (oi := _) (v := ?_) rfl (by decide) (by kernel_rfl) (by kernel_rfl) (by kernel_rfl) (by kernel_rfl) (fun _ _ _ h => h) hS5 (fun _ => trivial) (Or.inl ⟨by rfl, ?hy⟩) ?_
       case hy => intro w hSw; have z0 := hSw.cell x0; have z1 := hSw.cell x1; have z2 := hSw.cell y0; go_simp <;> with_reducible rfl
       try simp only [Act.put, List.setIfInBounds_toArray, List.set_cons_zero, List.set_cons_succ, List.getElem_toArray, List.getElem_cons_zero, List.getElem_cons_succ]
       refine wpAny2_done (by kernel_rfl) ?_ _
       have hbd := ((Below.refl wr.heap.size wr).drew).trans (hb5.mono (by first | exact Nat.le_refl _ | simp))
       have HA5 := Lib.hid (HMCA.out.below hbd)
       have HB5 := Lib.hid (HBW.out.trans (hbd.mono HBW.out.size))
       clear hb5 hbd HMCA HBW
       go_wp2_with fail
       go_roundw
       case rel => exact ⟨k + 1, _, by go_num, by rw [HMO.out], by omega, HLK.out, HB5.out, HVS.out, HA5.out⟩
       case measure => simp [intOf]; omega
      ·have hex : (¬ (k : Int) < l.length ∨ ((k : Int) < l.length ∧ rightTo KL l k = false)) ∧ rightTo KL l k = rightTo KL l l.length := by
        by_cases h1 : k < l.length
        ·have h2 : rightTo KL l k = false := by
          rcases Bool.eq_false_or_eq_true (rightTo KL l k) with h | h
          ·exact absurd ⟨h1, h⟩ hgo
          ·exact h
         exact ⟨.inr ⟨by omega, h2⟩, by rw [h2, rightTo_false _ _ _ h2 l.length (by omega)]⟩
        ·obtain rfl : k = l.length := by omega
         exact ⟨.inl (by omega), rfl⟩
       obtain ⟨hex, hrl⟩ := hex
       have hkl' : k ≤ l.length := hk
       generalize rightTo KL l k = br at *
       have HRL := Lib.hid hrl
       clear hrl hgo
       have HA40 := HMCA
       have HL40 := HLK
       have HB40 := HBW
       have HVS := HVS
       have HVL40 := Lib.hid (SlV.le HVL.out HLK.out VlC.mono)
       clear HMCA HLK HBW
       rcases hex with hex | ⟨hex, hbr⟩
       ·
        go_wp2_with fail
        refine (state_any HA40.out (by omega)).mono ?_
        rintro r w41 ⟨v41, rfl, hv, hb⟩
        have HX41 := Lib.hid (SlV.le hv (joinKn_new K wr.heap.size w41) VlC.mono)
        have HVL41 := Lib.hid (SlV.le HVL40.out (joinKn_le HA40.out.isin w41) VlC.mono)
        have HL41 := Lib.hid (Kn.le_trans HL40.out (joinKn_le HA40.out.isin w41))
        have HB41 := Lib.hid (HB40.out.trans (hb.mono HB40.out.size))
        have HA41 := Lib.hid (HA40.out.join hb)
        clear hb HA40 HVL40 HL40 HB40 hv
        generalize joinKn K wr.heap.size w41 = K41 at *
        go_wp2_with fail
        refine (values_any K41 l _ HVL41.out (by omega) w41 HA41.out.isin).mono ?_
        rintro r w42 ⟨v42, rfl, hv, hb⟩
        have HY42 := Lib.hid (SlV.le hv (joinKn_new K41 w41.heap.size w42) VlC.mono)
        have HVL42 := Lib.hid (SlV.le HVL41.out (joinKn_le HA41.out.isin w42) VlC.mono)
        have HX42 := Lib.hid (SlV.le HX41.out (joinKn_le HA41.out.isin w42) VlC.mono)
        have HL42 := Lib.hid (Kn.le_trans HL41.out (joinKn_le HA41.out.isin w42))
        have HB42 := Lib.hid (HB41.out.trans (hb.mono HB41.out.size))
        have HA42 := Lib.hid (HA41.out.join hb)
        clear hb HA41 HVL41 HX41 HL41 HB41 hv
        generalize joinKn K41 w41.heap.size w42 = K42 at *
        go_wp2_with fail
        refine (load_any sp HA42.out (S.five.below HB42.out) l _ HY42.out (by omega) (by omega)).mono ?_
        rintro r w43 ⟨hg, hpost⟩
        rw [← HKL.out, ← HRL.out] at hpost
        have HB43 := Lib.hid (Gr2.below HB42.out hg hMge1 HB42.out.size)
        have HX43 := Lib.hid (SlV.le HX42.out (joinKn_le HA42.out.isin w43) VlC.mono)
        have HVL43 := Lib.hid (SlV.le HVL42.out (joinKn_le HA42.out.isin w43) VlC.mono)
        have HL43 := Lib.hid (Kn.le_trans HL42.out (joinKn_le HA42.out.isin w43))
        clear hg HB42 HX42 HVL42 HL42 HY42 HA42
        rcases hpost with ⟨hbr, rfl, vm43, hM⟩ | ⟨hbr, rfl, hM⟩
        ·have HA43 := Lib.hid hM
         have HPL := Lib.hid (state_put (ks := R.ks) (p := p) (l := l) (by rw [← HKL.out, ← HRL.out]; exact hbr))
         subst hbr
         clear hM HX43
         generalize joinKn K42 w42.heap.size w43 = K43 at *
         go_wp2_with fail
         refine (state_any HA43.out (by simp only [putM, List.length_drop]; omega)).mono ?_
         rintro r w44 ⟨v44, rfl, hv, hb⟩
         rw [HPL.out] at hv
         have HZ44 := Lib.hid (SlV.le hv (joinKn_new K43 w43.heap.size w44) VlC.mono)
         have HVL44 := Lib.hid (SlV.le HVL43.out (joinKn_le HA43.out.isin w44) VlC.mono)
         have HL44 := Lib.hid (Kn.le_trans HL43.out (joinKn_le HA43.out.isin w44))
         have HB44 := Lib.hid (HB43.out.trans (hb.mono HB43.out.size))
         have HA44 := Lib.hid (HA43.out.join hb)
         clear hb HA43 HVL43 HL43 HB43 hv
         generalize joinKn K43 w43.heap.size w44 = K44 at *
         go_wp2_with fail
         refine (sameVls_any K44 l _ _ HZ44.out HVL44.out (by omega) w44 HA44.out.isin).mono ?_
         rintro r w45 ⟨rfl, hb⟩
         have HB45 := Lib.hid (HB44.out.trans (hb.mono HB44.out.size))
         clear hb
         go_wp2_with fail
         go_ret
         exact ⟨rfl, HB45.out⟩
        ·have HA43 := Lib.hid hM
         have HET := Lib.hid (show ErrTypeLaid w43 from by unfold ErrTypeLaid at hET ⊢; exact (HB43.out.cell (cell_lt hET)).trans hET)
         have HS := Lib.hid (S.below HB43.out)
         clear hM HVL43
         subst hbr
         generalize joinKn K42 w42.heap.size w43 = K43 at *
         go_wp2_with fail
         refine (coded2_any sp 3 _ w43 (.inl ⟨rfl, rfl⟩) (by decide) HS.out HET.out 3).mono ?_
         rintro r w44 ⟨hr, hb⟩
         obtain rfl : r = .returned (.bool true) := hr.trans (by simp)
         clear hr HS HET
         have HX44 := Lib.hid (SlV.le HX43.out (joinKn_le HA43.out.isin w44) VlC.mono)
         have HL44 := Lib.hid (Kn.le_trans HL43.out (joinKn_le HA43.out.isin w44))
         have HB44 := Lib.hid (HB43.out.trans (hb.mono HB43.out.size))
         have HA44 := Lib.hid (HA43.out.join hb)
         clear hb HA43 HX43 HL43 HB43 
         generalize joinKn K43 w43.heap.size w44 = K44 at *
         go_wp2_with fail
         refine (state_any HA44.out (by omega)).mono ?_
         rintro r w45 ⟨v45, rfl, hv, hb⟩
         have HZ45 := Lib.hid (SlV.le hv (joinKn_new K44 w44.heap.size w45) VlC.mono)
         have HX45 := Lib.hid (SlV.le HX44.out (joinKn_le HA44.out.isin w45) VlC.mono)
         have HL45 := Lib.hid (Kn.le_trans HL44.out (joinKn_le HA44.out.isin w45))
         have HB45 := Lib.hid (HB44.out.trans (hb.mono HB44.out.size))
         have HA45 := Lib.hid (HA44.out.join hb)
         clear hb HA44 HX44 HL44 HB44 hv
         generalize joinKn K44 w44.heap.size w45 = K45 at *
         go_wp2_with fail
         refine (sameVls_any K45 (stateM s2) _ _ HZ45.out HX45.out (by simp only [stateM, List.length_cons]; omega) w45 HA45.out.isin).mono ?_
         rintro r w46 ⟨rfl, hb⟩
         have HB46 := Lib.hid (HB45.out.trans (hb.mono HB45.out.size))
         clear hb
         go_wp2_with fail
         go_ret
         exact ⟨rfl, HB46.out⟩
       ·
        subst hbr
        go_wp2_with fail
        refine (state_any HA40.out (by omega)).mono ?_
        rintro r w41 ⟨v41, rfl, hv, hb⟩
        have HX41 := Lib.hid (SlV.le hv (joinKn_new K wr.heap.size w41) VlC.mono)
        have HVL41 := Lib.hid (SlV.le HVL40.out (joinKn_le HA40.out.isin w41) VlC.mono)
        have HL41 := Lib.hid (Kn.le_trans HL40.out (joinKn_le HA40.out.isin w41))
        have HB41 := Lib.hid (HB40.out.trans (hb.mono HB40.out.size))
        have HA41 := Lib.hid (HA40.out.join hb)
        clear hb HA40 HVL40 HL40 HB40 hv
        generalize joinKn K wr.heap.size w41 = K41 at *
        go_wp2_with fail
        refine (values_any K41 l _ HVL41.out (by omega) w41 HA41.out.isin).mono ?_
        rintro r w42 ⟨v42, rfl, hv, hb⟩
        have HY42 := Lib.hid (SlV.le hv (joinKn_new K41 w41.heap.size w42) VlC.mono)
        have HVL42 := Lib.hid (SlV.le HVL41.out (joinKn_le HA41.out.isin w42) VlC.mono)
        have HX42 := Lib.hid (SlV.le HX41.out (joinKn_le HA41.out.isin w42) VlC.mono)
        have HL42 := Lib.hid (Kn.le_trans HL41.out (joinKn_le HA41.out.isin w42))
        have HB42 := Lib.hid (HB41.out.trans (hb.mono HB41.out.size))
        have HA42 := Lib.hid (HA41.out.join hb)
        clear hb HA41 HVL41 HX41 HL41 HB41 hv
        generalize joinKn K41 w41.heap.size w42 = K42 at *
        go_wp2_with fail
        refine (load_any sp HA42.out (S.five.below HB42.out) l _ HY42.out (by omega) (by omega)).mono ?_
        rintro r w43 ⟨hg, hpost⟩
        rw [← HKL.out, ← HRL.out] at hpost
        have HB43 := Lib.hid (Gr2.below HB42.out hg hMge1 HB42.out.size)
        have HX43 := Lib.hid (SlV.le HX42.out (joinKn_le HA42.out.isin w43) VlC.mono)
        have HVL43 := Lib.hid (SlV.le HVL42.out (joinKn_le HA42.out.isin w43) VlC.mono)
        have HL43 := Lib.hid (Kn.le_trans HL42.out (joinKn_le HA42.out.isin w43))
        clear hg HB42 HX42 HVL42 HL42 HY42 HA42
        rcases hpost with ⟨hbr, rfl, vm43, hM⟩ | ⟨hbr, rfl, hM⟩
        ·cases hbr
        ·have HA43 := Lib.hid hM
         have HET := Lib.hid (show ErrTypeLaid w43 from by unfold ErrTypeLaid at hET ⊢; exact (HB43.out.cell (cell_lt hET)).trans hET)
         have HS := Lib.hid (S.below HB43.out)
         clear hM HVL43
         generalize joinKn K42 w42.heap.size w43 = K43 at *
         go_wp2_with fail
         refine (coded2_any sp 3 _ w43 (.inl ⟨rfl, rfl⟩) (by decide) HS.out HET.out 3).mono ?_
         rintro r w44 ⟨hr, hb⟩
         obtain rfl : r = .returned (.bool true) := hr.trans (by simp)
         clear hr HS HET
         have HX44 := Lib.hid (SlV.le HX43.out (joinKn_le HA43.out.isin w44) VlC.mono)
         have HL44 := Lib.hid (Kn.le_trans HL43.out (joinKn_le HA43.out.isin w44))
         have HB44 := Lib.hid (HB43.out.trans (hb.mono HB43.out.size))
         have HA44 := Lib.hid (HA43.out.join hb)
         clear hb HA43 HX43 HL43 HB43 
         generalize joinKn K43 w43.heap.size w44 = K44 at *
         go_wp2_with fail
         refine (state_any HA44.out (by omega)).mono ?_
         rintro r w45 ⟨v45, rfl, hv, hb⟩
         have HZ45 := Lib.hid (SlV.le hv (joinKn_new K44 w44.heap.size w45) VlC.mono)
         have HX45 := Lib.hid (SlV.le HX44.out (joinKn_le HA44.out.isin w45) VlC.mono)
         have HL45 := Lib.hid (Kn.le_trans HL44.out (joinKn_le HA44.out.isin w45))
         have HB45 := Lib.hid (HB44.out.trans (hb.mono HB44.out.size))
         have HA45 := Lib.hid (HA44.out.join hb)
         clear hb HA44 HX44 HL44 HB44 hv
         generalize joinKn K44 w44.heap.size w45 = K45 at *
         go_wp2_with fail
         refine (sameVls_any K45 (stateM s2) _ _ HZ45.out HX45.out (by simp only [stateM, List.length_cons]; omega) w45 HA45.out.isin).mono ?_
         rintro r w46 ⟨rfl, hb⟩
         have HB46 := Lib.hid (HB45.out.trans (hb.mono HB45.out.size))
         clear hb
         go_wp2_with fail
         go_ret
         exact ⟨rfl, HB46.out⟩
end Go.Proofs.YtmeldgjlgifdhaaGreatDoor
