/- Walks: reach.Search. (Printed by gen_se.py.) -/
import Derived.Test.YtmeldgjlgifdhaaDoorSw
import Derived.Test.YtmeldgjlgifdhaaDoorBuildC
namespace Go.Proofs.YtmeldgjlgifdhaaDoor
set_option maxRecDepth 100000
set_option maxHeartbeats 16000000
open Go.RowKit Mx
theorem ErrW.put3 {sp : Nat → Addr} {W : World} {c : Nat} {a : Int} {v : Value} (h : ErrW sp W c a v) {b : Nat} {x y z : Value} {x0 y0 z0 : Value} {t : TypeId} (hb : W.heap[b]? = some (.cells #[x0, y0, z0] t (0, 0))) (ht : t ≠ 115) : ErrW sp (put3 W b x y z) c a v :=
 h.imp id fun ⟨h1, N, h2, h3⟩ => ⟨h1, N, h2, by
  rw [put3_other _ _ _ (fun e => by rw [e, hb] at h3; simp at h3)]
  exact h3⟩
theorem Tryd.infoSt : (Tryd.prog.info? 118).map (fun i => (i.zero, i.size, i.bytes)) = some (some (.agg #[.slice none 0 0, .int .i64 0, .slice none 0 0]), 3, 56) := by kernel_rfl
theorem search_any (H : Kn) (T : LevelsAt H) (sp : Nat → Addr) (p : Pr) (vi vo vl va vc : Value) (hp : PrP H p vi vo vl va vc) (choices : List (List Vl)) (vC : Value) (hC : InsV H choices vC) (most : Int) (w : World) (hH : H.In w) (S : Sen5 w sp)
  (hsz : p.ins.length ≤ 1000000 ∧ p.fl.length ≤ 1000000 ∧ p.outs.length ≤ 1000000000 ∧ p.as.length ≤ 1000000 ∧ p.cs.length ≤ 1000000) (hpt : Ex.partsL p.terms ≤ 10000000) (hcz : choices.length ≤ 100000000 ∧ ∀ x ∈ choices, x.length ≤ 100000000) :
  Calls Tryd.prog 17 #[.agg #[vi, vo, vl, va, vc], vC, .int .i64 most] w (SearchPost sp p choices most w) := by
 obtain ⟨z1, z2, z3, z4, z5⟩ := hsz
 obtain ⟨y1, y2⟩ := hcz
 have HP := Lib.hid hp
 obtain ⟨h1, h2, h3, h4, h5⟩ := hp
 obtain ⟨ai, ci, rfl⟩ := h1.len
 obtain ⟨ao, co, rfl⟩ := h2.len
 obtain ⟨al, cl, rfl⟩ := h3.len
 obtain ⟨aa, ca, rfl⟩ := h4.len
 obtain ⟨ac, cc, rfl⟩ := h5.len
 obtain ⟨an, cn, rfl⟩ := hC.len
 have HC := Lib.hid hC
 have HCZ := Lib.hid y2
 clear h1 h2 h3 h4 h5 hC y2
 have hb0 : Below w.heap.size w ((w.alloc (.cells #[.slice ai p.ins.length ci, .slice ao p.outs.length co, .slice al p.fl.length cl, .slice aa p.as.length ca, .slice ac p.cs.length cc] 34)).alloc (.cells #[.int .i64 0, .slice none 0 0, .int .i64 0] 47)) := ((Below.refl _ _).alloc (Nat.le_refl _) _).alloc (by simp) _
 have hr0 : ((w.alloc (.cells #[.slice ai p.ins.length ci, .slice ao p.outs.length co, .slice al p.fl.length cl, .slice aa p.as.length ca, .slice ac p.cs.length cc] 34)).alloc (.cells #[.int .i64 0, .slice none 0 0, .int .i64 0] 47)).heap[w.heap.size + 1]? = some (.cells #[.int .i64 0, .slice none 0 0, .int .i64 0] 47 (0, 0)) := by
  have h := heap_alloc_new (w.alloc (.cells #[.slice ai p.ins.length ci, .slice ao p.outs.length co, .slice al p.fl.length cl, .slice aa p.as.length ca, .slice ac p.cs.length cc] 34)) (.cells #[.int .i64 0, .slice none 0 0, .int .i64 0] 47)
  rw [World.size_alloc] at h
  exact h
 have hp0 : ((w.alloc (.cells #[.slice ai p.ins.length ci, .slice ao p.outs.length co, .slice al p.fl.length cl, .slice aa p.as.length ca, .slice ac p.cs.length cc] 34)).alloc (.cells #[.int .i64 0, .slice none 0 0, .int .i64 0] 47)).heap[w.heap.size]? = some (.cells #[.slice ai p.ins.length ci, .slice ao p.outs.length co, .slice al p.fl.length cl, .slice aa p.as.length ca, .slice ac p.cs.length cc] 34 (0, 0)) := by
  rw [Below.heap_alloc _ _ _ (by simp)]
  exact heap_alloc_new w (.cells #[.slice ai p.ins.length ci, .slice ao p.outs.length co, .slice al p.fl.length cl, .slice aa p.as.length ca, .slice ac p.cs.length cc] 34)
 have hs0 : ((w.alloc (.cells #[.slice ai p.ins.length ci, .slice ao p.outs.length co, .slice al p.fl.length cl, .slice aa p.as.length ca, .slice ac p.cs.length cc] 34)).alloc (.cells #[.int .i64 0, .slice none 0 0, .int .i64 0] 47)).heap.size = w.heap.size + 2 := by simp
 have HB0 := Lib.hid hb0
 have HR0 := Lib.hid hr0
 have HP0 := Lib.hid hp0
 have HS0 := Lib.hid hs0
 clear hb0 hr0 hp0 hs0
 go_enter Tryd.func17, Tryd.ntmps17
 have m0 : ((w.alloc (.cells #[.slice ai p.ins.length ci, .slice ao p.outs.length co, .slice al p.fl.length cl, .slice aa p.as.length ca, .slice ac p.cs.length cc] 34)).alloc (.cells #[.int .i64 0, .slice none 0 0, .int .i64 0] 47)).cell? ⟨w.heap.size, 0, none⟩ = some (.slice ai p.ins.length ci) := by have h := HP0.out; simp only [World.cell?, h]; rfl
 have m1 : ((w.alloc (.cells #[.slice ai p.ins.length ci, .slice ao p.outs.length co, .slice al p.fl.length cl, .slice aa p.as.length ca, .slice ac p.cs.length cc] 34)).alloc (.cells #[.int .i64 0, .slice none 0 0, .int .i64 0] 47)).cell? ⟨w.heap.size, 1, none⟩ = some (.slice ao p.outs.length co) := by have h := HP0.out; simp only [World.cell?, h]; rfl
 have m2 : ((w.alloc (.cells #[.slice ai p.ins.length ci, .slice ao p.outs.length co, .slice al p.fl.length cl, .slice aa p.as.length ca, .slice ac p.cs.length cc] 34)).alloc (.cells #[.int .i64 0, .slice none 0 0, .int .i64 0] 47)).cell? ⟨w.heap.size, 2, none⟩ = some (.slice al p.fl.length cl) := by have h := HP0.out; simp only [World.cell?, h]; rfl
 have m3 : ((w.alloc (.cells #[.slice ai p.ins.length ci, .slice ao p.outs.length co, .slice al p.fl.length cl, .slice aa p.as.length ca, .slice ac p.cs.length cc] 34)).alloc (.cells #[.int .i64 0, .slice none 0 0, .int .i64 0] 47)).cell? ⟨w.heap.size, 3, none⟩ = some (.slice aa p.as.length ca) := by have h := HP0.out; simp only [World.cell?, h]; rfl
 have m4 : ((w.alloc (.cells #[.slice ai p.ins.length ci, .slice ao p.outs.length co, .slice al p.fl.length cl, .slice aa p.as.length ca, .slice ac p.cs.length cc] 34)).alloc (.cells #[.int .i64 0, .slice none 0 0, .int .i64 0] 47)).cell? ⟨w.heap.size, 4, none⟩ = some (.slice ac p.cs.length cc) := by have h := HP0.out; simp only [World.cell?, h]; rfl
 go_wp2_with fail
 generalize (w.alloc (.cells #[.slice ai p.ins.length ci, .slice ao p.outs.length co, .slice al p.fl.length cl, .slice aa p.as.length ca, .slice ac p.cs.length cc] 34)).alloc (.cells #[.int .i64 0, .slice none 0 0, .int .i64 0] 47) = W0 at *
 clear m0 m1 m2 m3 m4
 have REST : ∀ W, Below W0.heap.size W0 W → W.heap[w.heap.size + 1]? = some (.cells #[.int .i64 0, .slice none 0 0, .int .i64 0] 47 (0, 0)) := fun W hb => (hb.block _ (Array.getElem?_eq_some_iff.1 HR0.out).1).trans HR0.out
 have HRS := Lib.hid REST
 clear REST
 refine (new_any H T sp p _ _ _ _ _ HP.out W0 (hH.below HB0.out) (S.below HB0.out) false 0 ⟨z1, z2, z3, z4, z5⟩ (by omega)).mono ?_
 rintro r w1 ⟨hb1, hpost⟩
 have HB1 := Lib.hid hb1
 clear hb1
 rcases hpost with ⟨hE, M, B, ks, ord, vm, hks, ho, rfl, hMw, hM⟩ | ⟨hE, t, u, rfl, he⟩
 case inr =>
  have HE := Lib.hid he
  have hs : searchE p choices most = runE p [] 0 := by unfold searchE; rw [if_pos hE]
  have HEE := Lib.hid hE
  have HSS := Lib.hid hs
  clear he hE hs
  have hres := HRS.out w1 HB1.out
  obtain ⟨r0, r1, r2, rf0, rf1, rf2, _⟩ := cell3_of hres
  have hp3 := put3_heap hres (.int .i64 0) (.slice none 0 0) (.int .i64 0)
  obtain ⟨WW, hWW⟩ : ∃ WW, WW = put3 w1 (w.heap.size + 1) (.int .i64 0) (.slice none 0 0) (.int .i64 0) := ⟨_, rfl⟩
  rw [← hWW] at hp3
  obtain ⟨e0, e1, e2, _⟩ := cell3_of hp3
  have HWW := Lib.hid hWW
  have hW2 := hWW
  unfold put3 at hW2
  have HW2 := Lib.hid hW2
  have E0 := Lib.hid e0
  have E1 := Lib.hid e1
  have E2 := Lib.hid e2
  clear e0 e1 e2 hp3 hres hWW hW2
  try (simp only []; go_at_K)
  repeat (first | go_values | go_skip | go_guarded | go_step | go_upon)
  rw [← HW2.out]
  have e0 := E0.out
  have e1 := E1.out
  have e2 := E2.out
  refine bodyPost_ret (v := .tuple #[.agg #[.int .i64 0, .slice none 0 0, .int .i64 0], .iface t u]) (by simp [results, Tryd.results17, go_sem, e0, e1, e2]) rfl ?_
  rw [HWW.out]
  refine ⟨put3_below (HB0.out.trans (HB1.out.mono HB0.out.size)) (Nat.le_succ _) _ _ _, ?_⟩
  rw [HSS.out, if_neg HEE.out]
  refine ⟨_, rfl, ?_⟩
  exact HE.out.put3 (x := .int .i64 0) (y := .slice none 0 0) (z := .int .i64 0) (HRS.out w1 HB1.out) (fun e => by cases e)
 have hc0 := (runE_zero hE).1
 have HCD := Lib.hid (cd_ready hc0 hks ho false 0 (by omega) (by omega) (by omega))
 have hst := start_right (orderM_low ho).1 hks false (ni := 0) ⟨by decide, by decide⟩
 have hSR := fun (l : List Vl) (s : Mc) (h : MemR ks p s.mem) => step_right hc0 hks ho false (ni := 0) ⟨by decide, by decide⟩ h l
 have HX0 := Lib.hid (show searchE p choices most = if most < 1 ∨ 3000 < most ∨ 100 < choices.length then (2, -1) else match choices.findIdx? (fun l => !inpsTo p.ins l l.length) with | some i => (5, (i : Int)) | none => (0, -1) from by unfold searchE; rw [if_neg (fun h => h hE)]; rfl)
 have HKS := Lib.hid hks
 have HO := Lib.hid ho
 have hsm : ∀ mN, searchM ks ord p choices mN = Bf.search (stR ⟨ks, namesM p, getI (nmEnv p), false, 0⟩ (cdOf p ord) p.ins) (nxR ⟨ks, namesM p, getI (nmEnv p), false, 0⟩ (cdOf p ord) p.ins) mN choices (stateM ⟨true, startM ⟨ks, namesM p, getI (nmEnv p), false, 0⟩ (memNdsL 0 p.terms), false⟩) [] := fun _ => rfl
 obtain ⟨R, hR⟩ : ∃ R : REnv, R = ⟨ks, namesM p, getI (nmEnv p), false, 0⟩ := ⟨_, rfl⟩
 rw [← hR] at hM HCD hst hSR hsm
 have hRk : ks = R.ks := by rw [hR]
 have hkz : kindsL ks p = kindsL R.ks p := by rw [hRk]
 rw [hRk] at hst hSR
 have HSR := Lib.hid hSR
 have HSM := Lib.hid hsm
 obtain ⟨s0, hs0⟩ : ∃ s : Mc, s = ⟨true, startM R (memNdsL 0 p.terms), false⟩ := ⟨_, rfl⟩
 rw [← hs0] at hM HSM
 have hr0 : MemR R.ks p s0.mem := by rw [hs0]; exact hst
 have HR1 := Lib.hid hr0
 have hHno : H M = none := hH.isNone (Nat.le_trans HB0.out.size hMw)
 have HHK := Lib.hid (noKn_of (hH.below (HB0.out.trans (HB1.out.mono HB0.out.size))) hHno)
 have HM := Lib.hid hM
 have HMW := Lib.hid hMw
 have hML : memNL p.terms ≤ 10000000 := Nat.le_trans (memNL_le p.terms) hpt
 have hml := hM.len
 clear hE hc0 hst hSR hR hRk hkz hs0 hr0 hHno hM hks ho hsm hMw
 have c1 := (S.below (HB0.out.trans (HB1.out.mono HB0.out.size))).c1
 have hres := HRS.out w1 HB1.out
 obtain ⟨r0, r1, r2, rf0, rf1, rf2, _⟩ := cell3_of hres
 by_cases hbad : most < 1 ∨ 3000 < most ∨ 100 < choices.length
 ·have hs : searchE p choices most = (2, -1) := by rw [HX0.out, if_pos hbad]
  have HSS := Lib.hid hs
  have hp3 := put3_heap hres (.int .i64 0) (.slice none 0 0) (.int .i64 0)
  obtain ⟨e0, e1, e2, _⟩ := cell3_of hp3
  unfold put3 at e0 e1 e2
  have E0 := Lib.hid e0
  have E1 := Lib.hid e1
  have E2 := Lib.hid e2
  have c1b := (show (put3 w1 (w.heap.size + 1) (.int .i64 0) (.slice none 0 0) (.int .i64 0)).cell? ⟨1, 0, none⟩ = _ from World.cell?_of_block (w := w1) (put3_other _ _ _ (by have := S.big; show 1 ≠ _; omega))).trans c1
  unfold put3 at c1b
  have HBAD := Lib.hid hbad
  clear e0 e1 e2 hp3 hres hs hbad
  go_wp2_with fail
  all_goals first | (exfalso; have := HBAD.out; omega) | skip
  all_goals go_region
  all_goals go_wp2_with fail
  all_goals have e0 := E0.out
  all_goals have e1 := E1.out
  all_goals have e2 := E2.out
  all_goals refine bodyPost_ret (v := .tuple #[toldZ, esv (sp 1)]) (by simp [results, Tryd.results17, go_sem, e0, e1, e2, esv]) rfl ?_
  all_goals refine ⟨(put3_below (HB0.out.trans (HB1.out.mono HB0.out.size)) (Nat.le_succ _) _ _ _).drew, ?_⟩
  all_goals rw [HSS.out, if_neg (by decide)]
  all_goals exact ⟨_, rfl, .inl ⟨rfl, rfl⟩⟩
 have hm1 : 1 ≤ most ∧ most ≤ 3000 ∧ choices.length ≤ 100 := by omega
 clear hbad
 have HX0 := Lib.hid (show searchE p choices most = match choices.findIdx? (fun l => !inpsTo p.ins l l.length) with | some i => (5, (i : Int)) | none => (0, -1) from by rw [HX0.out, if_neg (by omega)])
 obtain ⟨mN, rfl⟩ : ∃ mN : Nat, most = (mN : Int) := ⟨most.toNat, by omega⟩
 obtain ⟨q1, q2, q3⟩ := hm1
 clear hres r0 r1 r2 rf0 rf1 rf2 c1
 go_wp2_with fail
 all_goals first | (exfalso; omega) | skip
 go_loopw [45] (fun i wr => ∃ k : Nat, i = .int .i64 k ∧ k ≤ choices.length ∧ Below w1.heap.size w1 wr ∧ ∀ j (hj : j < choices.length), j < k → inpsTo p.ins choices[j] choices[j].length = true) (fun i _ => choices.length - (intOf i).toNat)
 case atStart => exact ⟨0, rfl, Nat.zero_le _, Below.refl _ _, fun j _ h => by omega⟩
 case round =>
  obtain ⟨k, rfl, hk, hb, hno⟩ := hrel
  have HB := Lib.hid hb
  have HNO := Lib.hid hno
  have HBW := Lib.hid (HB1.out.trans (hb.mono HB1.out.size))
  clear hb hno
  have hM2 := HM.out.below HB.out
  have HM2 := Lib.hid hM2
  clear hM2
  by_cases hkl : k < choices.length
  ·obtain ⟨b, off, a2, c2, haf, c0, hv⟩ := HC.out.at hkl
   subst haf
   have hlx := HCZ.out _ (List.getElem_mem hkl)
   have HYES := Lib.hid (show inpsTo p.ins choices[k] choices[k].length = false → searchE p choices mN = (5, (k : Int)) from fun h => by
    rw [HX0.out, show choices.findIdx? (fun l => !inpsTo p.ins l l.length) = some k from List.findIdx?_eq_some_iff_getElem.2 ⟨hkl, by simp [h], fun j hj => by simp [HNO.out j (by omega) hj]⟩])
   have HNOT := Lib.hid (show inpsTo p.ins choices[k] choices[k].length = true → ∀ j (hj : j < choices.length), j < k + 1 → inpsTo p.ins choices[j] choices[j].length = true from fun h j hj hjk => by
    by_cases hjk' : j < k
    ·exact HNO.out j hj hjk'
    ·obtain rfl : j = k := by omega
     exact h)
   generalize choices[k] = x at *
   have c0 := HM2.out.isin.cell (HHK.out.cell c0)
   have hv := SlV.le hv HHK.out VlC.mono
   have n0 : wr.cell? ⟨M, 0, none⟩ = some (ptrV B) := HM2.out.cell 0
   obtain ⟨cs, vI, vo, vf, va, vc, vu, vM, hcb, ⟨e0, h0⟩, _, _, _, _, _, ⟨e10, h10⟩⟩ := HM2.out.code.ex
   have hcall := inputs_any (noKn M w1) B cs p.ins x vI _ hcb e0 h0 hv ⟨by omega, by omega⟩ wr HM2.out.isin
   clear HNO hv hcb e0 h0 e10 h10
   cases hok : inpsTo p.ins x x.length with
   | false =>
    rw [hok] at hcall
    have HX := Lib.hid (HYES.out hok)
    clear hok
    go_wp2_with (go_at_call 57; refine hcall.mono ?_; rintro ret w2 ⟨rfl, hb2⟩; have HB2 := Lib.hid (HBW.out.trans (hb2.mono HBW.out.size)); have c4 := (S.below (HB0.out.trans (HB2.out.mono HB0.out.size))).c4; have hres := HRS.out w2 HB2.out; obtain ⟨r0, r1, r2, rf0, rf1, rf2, _⟩ := cell3_of hres; have c4b := (show (put3 w2 (w.heap.size + 1) (.int .i64 0) (.slice none 0 0) (.int .i64 0)).cell? ⟨2, 0, none⟩ = _ from World.cell?_of_block (w := w2) (put3_other _ _ _ (by have := S.big; show 2 ≠ _; omega))).trans c4; unfold put3 at c4b)
    go_region
    have hp3 := put3_heap hres (.int .i64 0) (.slice none 0 0) (.int .i64 0)
    have hp4 := (Below.heap_alloc (put3 w2 (w.heap.size + 1) (.int .i64 0) (.slice none 0 0) (.int .i64 0)) (.cells #[.int .i64 k, esv (sp 4)] 115) _ (Array.getElem?_eq_some_iff.1 hp3).1).trans hp3
    obtain ⟨e0, e1, e2, _⟩ := cell3_of hp4
    have hbf : Below w.heap.size w (((put3 w2 (w.heap.size + 1) (.int .i64 0) (.slice none 0 0) (.int .i64 0)).alloc (.cells #[.int .i64 k, esv (sp 4)] 115)).drew) := ((put3_below (HB0.out.trans (HB2.out.mono HB0.out.size)) (Nat.le_succ _) _ _ _).alloc (by rw [put3_size]; have := HB0.out.size; have := HB2.out.size; omega) _).drew
    have hff : ((put3 w2 (w.heap.size + 1) (.int .i64 0) (.slice none 0 0) (.int .i64 0)).alloc (.cells #[.int .i64 k, esv (sp 4)] 115)).heap[w2.heap.size]? = some (.cells #[.int .i64 k, esv (sp 4)] 115 (0, 0)) := by
     have h := heap_alloc_new (put3 w2 (w.heap.size + 1) (.int .i64 0) (.slice none 0 0) (.int .i64 0)) (.cells #[.int .i64 k, esv (sp 4)] 115)
     rw [put3_size] at h
     exact h
    unfold put3 at e0 e1 e2 hbf hff
    have HBF := Lib.hid hbf
    have HFF := Lib.hid hff
    have E0 := Lib.hid e0
    have E1 := Lib.hid e1
    have E2 := Lib.hid e2
    clear e0 e1 e2 hp3 hp4 hres hbf hff
    go_wp2_with fail
    have e0 := E0.out
    have e1 := E1.out
    have e2 := E2.out
    dsimp only [esv] at e0 e1 e2 HBF HFF
    refine bodyPost_ret (v := .tuple #[toldZ, .iface 113 (.pointer (some ⟨w2.heap.size, 0, none⟩))]) (by simp [results, Tryd.results17, go_sem, e0, e1, e2]) rfl ?_
    refine ⟨HBF.out, ?_⟩
    rw [HX.out, if_neg (by simp)]
    exact ⟨_, rfl, .inr ⟨by omega, w2.heap.size, rfl, HFF.out⟩⟩
   | true =>
    rw [hok] at hcall
    have HN2 := Lib.hid (HNOT.out hok)
    clear hok
    go_wp2_with (go_at_call 57; refine hcall.mono ?_; rintro ret w2 ⟨rfl, hb2⟩; have HB2 := Lib.hid (HB.out.trans (hb2.mono HB.out.size)))
    go_roundw
    case rel => exact ⟨k + 1, by go_num, by omega, HB2.out, HN2.out⟩
    case measure => simp [intOf]; omega
  ·obtain rfl : k = choices.length := by omega
   have HALL := Lib.hid (show ∀ l ∈ choices, inpsTo p.ins l l.length = true from fun l hl => by
    obtain ⟨j, hj, rfl⟩ := List.mem_iff_getElem.1 hl
    exact HNO.out j hj hj)
   have HX := Lib.hid (show searchE p choices mN = (0, -1) from by
    rw [HX0.out, List.findIdx?_eq_none_iff.2 fun l hl => by simp [HALL.out l hl]])
   have HIL := Lib.hid (show ∀ l ∈ choices, l.length ≤ 1000000 from fun l hl => by
    have h := HALL.out l hl
    unfold inpsTo at h
    simp only [Bool.and_eq_true, decide_eq_true_eq] at h
    omega)
   clear HNO HX0 hk hkl HM HB HCZ
   have n0 : True := trivial
   clear n0
   go_wp2_with fail
   refine (state_any HM2.out (by omega)).mono ?_
   rintro r w3 ⟨v3, rfl, hv3, hb3⟩
   obtain ⟨a3, c3, rfl⟩ := hv3.len
   have hM3 := HM2.out.join hb3
   have hB3 := HBW.out.trans (hb3.mono HBW.out.size)
   have hv3 := SlV.le hv3 (joinKn_new (noKn M w1) wr.heap.size w3) VlC.mono
   have hle3 := Kn.le_trans HHK.out (joinKn_le HM2.out.isin w3)
   generalize joinKn (noKn M w1) wr.heap.size w3 = K3 at *
   have HM3 := Lib.hid hM3
   have HB3 := Lib.hid hB3
   have HV3 := Lib.hid hv3
   have HL3 := Lib.hid hle3
   have HSR0 := Lib.hid (state_right HR1.out)
   obtain ⟨S0, hS0⟩ : ∃ S0, S0 = stateM s0 := ⟨_, rfl⟩
   rw [← hS0] at HV3 HSR0 HSM ⊢
   have HSL := Lib.hid (show S0.length = memNL p.terms + 1 from by rw [hS0]; simp [stateM, hml])
   clear hM3 hB3 hv3 hle3 hb3 HBW HM2 hS0
   have hmm := @run_makeMap Tryd.prog
   have hbA : Below w3.heap.size w3 ((w3.alloc (.cells #[.slice a3 S0.length c3, .int .i64 (-1), .slice none 0 0] 118)).alloc (.map #[] 0)) := ((Below.refl _ _).alloc (Nat.le_refl _) _).alloc (by simp) _
   have HBA := Lib.hid hbA
   clear hbA
   go_wp2_with fail
   refine (key_any K3 S0 _ HV3.out (by have := HSL.out; omega) _ (HM3.out.isin.below HBA.out)).mono ?_
   rintro r w6 ⟨rfl, hb6⟩
   have hmp : MapAt Value.bool w6 (w3.heap.size + 1) Env.none := by
    have h := (MapAt.made Value.bool (w3.alloc (.cells #[.slice a3 S0.length c3, .int .i64 (-1), .slice none 0 0] 118))).below hb6
    rw [World.size_alloc] at h
    exact h
   have HMP := Lib.hid hmp
   have hM6 := (HM3.out.below HBA.out).below hb6
   have HM6 := Lib.hid hM6
   have HB6 := Lib.hid hb6
   clear hmp hM6 hb6 hmm
   go_wp2_with (refine wp_insert Value.bool 69 9 4 Tryd.underlying69 Tryd.underlying9 (w3.heap.size + 1) _ HMP.out _ _ _ rfl rfl rfl _ rfl true rfl ?_; intro w7 hm7 hT7)
   rw [seenE_one] at hm7
   have hSS := SeS.init (ST := 118) HM3.out.isin HL3.out HB3.out HV3.out HB6.out hT7 hm7 HMW.out HM3.out.lt
   have hM7 := HM6.out.turned hT7 (by have := HM3.out.lt; omega) (HM3.out.isin.isNone (by omega))
   obtain ⟨sb, hsb⟩ : ∃ sb, sb = w3.heap.size + 1 := ⟨_, rfl⟩
   obtain ⟨base, hbase⟩ : ∃ base, base = w3.heap.size := ⟨_, rfl⟩
   rw [← hsb, ← hbase] at hSS ⊢
   obtain ⟨STF, hSTF⟩ : ∃ f, f = stR R (cdOf p ord) p.ins := ⟨_, rfl⟩
   obtain ⟨NXF, hNXF⟩ : ∃ f, f = nxR R (cdOf p ord) p.ins := ⟨_, rfl⟩
   obtain ⟨RES, hRES⟩ : ∃ r, r = searchM ks ord p choices mN := ⟨_, rfl⟩
   have hout : RES = Bf.outer STF NXF mN choices (mN + 1 - 0) ([((⟨S0, -1, []⟩ : StE), Value.slice a3 S0.length c3, Value.slice none 0 0)].map (·.1)) 0 := by rw [hRES, HSM.out, hSTF, hNXF]; rfl
   have FIN := Lib.hid (show ∀ (r : Ending) (W : World), Below w.heap.size w W → (match RES with
    | .over => r = .returned (.tuple #[toldZ, esv (sp 1)])
    | .ok l => r = .returned (.tuple #[.agg #[.int .i64 l.length, .slice none 0 0, .int .i64 (-2)], .nilIface])
    | .found i l c k => ∃ v, r = .returned (.tuple #[.agg #[.int .i64 l.length, v, .int .i64 k], .nilIface]) ∧ InsV (allKn W) (Bf.W l i ++ [c]) v) → SearchPost sp p choices mN w r W from fun r W hb h => ⟨hb, by
     rw [HX.out, if_pos rfl]
     rw [hRES] at h
     exact ⟨ks, ord, HKS.out, HO.out, by rw [Int.toNat_natCast]; exact h⟩⟩)
   have HCL := Lib.hid (show ∀ i l c k, RES = .found i l c k → ∀ y ∈ Bf.W l i ++ [c], y.length ≤ 1000000 from fun i l c k h y hy => HIL.out y (found_mem (by omega) (hRES.symm.trans h) y hy))
   have HST := Lib.hid hSTF
   have HNX := Lib.hid hNXF
   have HOUT := Lib.hid hout
   have HSS := Lib.hid hSS
   have HM7 := Lib.hid hM7
   clear hT7 hm7 hSS hM7 hSTF hNXF hRES hout HSM HB6 HM6 HMP HBA HM3 HL3 HB3 HX HKS HO hsb hbase
   go_wp2_with fail
   obtain ⟨RELO, hRELO⟩ : ∃ REL : Value → Value → World → Prop, REL = (fun u i wr => ∃ (n : Nat) (os : List (StE × Value × Value)) (K : Kn) (vm' : Value) (s : Mc), i = .int .i64 n ∧ SeS 118 H W0 wr base sb M os (os.map (·.1.s)) u K ∧ McAt 112 169 151 R p ord K wr M B s vm' ∧ RES = Bf.outer STF NXF mN choices (mN + 1 - n) (os.map (·.1)) n ∧ n ≤ os.length ∧ os.length ≤ mN ∧ Bf.WayOk (os.map (·.1)) ∧ (∀ x ∈ os, rightTo (kindsL R.ks p) x.1.s x.1.s.length = true)) := ⟨_, rfl⟩
   have HRO := Lib.hid hRELO
   clear hRELO
   go_loopw [12, 14] (fun u i wr => RELO u i wr) (fun _ i _ => mN - (intOf i).toNat)
   case atStart =>
    rw [HRO.out]
    exact ⟨0, _, _, _, _, rfl, HSS.out, HM7.out, HOUT.out, Nat.zero_le _, by simp; omega, Bf.WayOk.one _ _, fun x hx => by rw [List.mem_singleton.1 hx]; exact HSR0.out⟩
   case round =>
    clear HSS HM7 HOUT HV3 HSR0 HSL
    rw [HRO.out] at hrel
    obtain ⟨n, os, K, vm', s, rfl, hS, hMc, hout, hn, hmost, hway, hrt⟩ := hrel
    have HS := Lib.hid hS
    have HMC := Lib.hid hMc
    have HWY := Lib.hid hway
    have HRT := Lib.hid hrt
    obtain ⟨au, cu, hue, hcu⟩ := own_len hS.row
    subst hue
    clear hS hMc hway hrt hcu
    by_cases hnl : n < os.length
    ·obtain ⟨e, he⟩ : ∃ e, os[n].1 = e := ⟨_, rfl⟩
     have hout2 : RES = Bf.rest STF NXF mN n e choices (mN - n) (os.map (·.1)) (choices.drop 0) := by
      rw [hout, show mN + 1 - n = (mN - n) + 1 from by omega, List.drop_zero]
      exact Bf.outer_rest STF NXF (by rw [List.getElem?_map, List.getElem?_eq_getElem hnl]; simp [he])
     have HOUT := Lib.hid hout2
     have HE := Lib.hid (show os[n]?.map (·.1) = some e from by rw [List.getElem?_eq_getElem hnl]; simp [he])
     have HNM := Lib.hid (show n < mN from by omega)
     clear hout hout2 he hn
     go_wp2_with fail
     obtain ⟨RELI, hRELI⟩ : ∃ REL : Value → Value → World → Prop, REL = (fun u j wr => ∃ (k : Nat) (os : List (StE × Value × Value)) (K : Kn) (vm' : Value) (s : Mc), j = .int .i64 k ∧ k ≤ choices.length ∧ SeS 118 H W0 wr base sb M os (os.map (·.1.s)) u K ∧ McAt 112 169 151 R p ord K wr M B s vm' ∧ RES = Bf.rest STF NXF mN n e choices (mN - n) (os.map (·.1)) (choices.drop k) ∧ n < os.length ∧ os[n]?.map (·.1) = some e ∧ os.length ≤ mN ∧ Bf.WayOk (os.map (·.1)) ∧ (∀ x ∈ os, rightTo (kindsL R.ks p) x.1.s x.1.s.length = true)) := ⟨_, rfl⟩
     have HRI := Lib.hid hRELI
     clear hRELI
     go_loopw [12, 83] (fun u j wr => RELI u j wr) (fun _ j _ => choices.length - (intOf j).toNat)
     case atStart =>
      rw [HRI.out]
      exact ⟨0, os, K, vm', s, rfl, Nat.zero_le _, HS.out, HMC.out, HOUT.out, hnl, HE.out, hmost, HWY.out, HRT.out⟩
     case round =>
      clear HS HMC HOUT HE HWY HRT hnl hmost
      rw [HRI.out] at hrel
      obtain ⟨k, os, K, vm', s, rfl, hk, hS, hMc, hout, hnl, he, hmost, hway, hrt⟩ := hrel
      have HS := Lib.hid hS
      have HMC := Lib.hid hMc
      have HWY := Lib.hid hway
      have HRT := Lib.hid hrt
      have HOUT := Lib.hid hout
      have HE := Lib.hid he
      obtain ⟨au, cu, hue, hcu⟩ := own_len hS.row
      subst hue
      have hosz : (os.map (·.1)).length = os.length := List.length_map _
      have HOSZ := Lib.hid hosz
      clear hS hMc hway hrt hout hosz hcu
      by_cases hkl : k < choices.length
      ·obtain ⟨b, off, a2, c2, haf, c0, hx⟩ := HC.out.at hkl
       subst haf
       have hix := HALL.out _ (List.getElem_mem hkl)
       have hlx := HIL.out _ (List.getElem_mem hkl)
       have c0 := HMC.out.isin.cell (HS.out.le.cell c0)
       have hx := SlV.le hx HS.out.le VlC.mono
       have hout := HOUT.out
       rw [List.drop_eq_getElem_cons hkl] at hout
       have HOUT := Lib.hid hout
       clear hout
       generalize choices[k] = x at *
       obtain ⟨g, cap, hue, hcap, d0, d1, d2⟩ := HS.out.at hnl
       cases hue
       have hes : os[n].1 = e := by rw [List.getElem?_eq_getElem hnl] at he; simpa using he
       obtain ⟨hsv, _⟩ := HS.out.sts _ (List.getElem_mem hnl)
       have hre := HRT.out _ (List.getElem_mem hnl)
       rw [hes] at hsv hre
       obtain ⟨sv, hsve⟩ : ∃ sv, sv = os[n].2.1 := ⟨_, rfl⟩
       rw [← hsve] at hsv d0
       obtain ⟨as_, cs_, rfl⟩ := hsv.len
       have hsl : e.s.length = memNL p.terms + 1 := by
        unfold rightTo at hre
        simp only [Bool.and_eq_true, decide_eq_true_eq] at hre
        rw [hre.1]
        simp [kindsL, memNdsL_len]
       have HSL := Lib.hid hsl
       have HSV := Lib.hid hsv
       have HX := Lib.hid hx
       have HRE := Lib.hid hre
       have HSTE := Lib.hid (show STF e.s x = wrongK (stepM R (cdOf p ord) p.ins (putM e.s) x).2.1 from by rw [HST.out]; rfl)
       have HNXE := Lib.hid (show NXF e.s x = if (stepM R (cdOf p ord) p.ins (putM e.s) x).2.1.asrt = true then some (stateM (stepM R (cdOf p ord) p.ins (putM e.s) x).2.2) else none from by rw [HNX.out]; rfl)
       have HNR := Lib.hid (state_right (HSR.out x (putM e.s) (put_right hre)))
       have HCODE := Lib.hid (step_fine (R := R) (c := cdOf p ord) (s := putM e.s) rfl hix)
       have HSZ := Lib.hid (stepM_sizes R p ord (putM e.s) x)
       have S5 := S.below (HB0.out.trans (HS.out.below.mono HB0.out.size))
       have n1 : (n : Int) < os.length := by omega
       clear hx hsv hsve hes he hre hsl d1 d2 hix
       go_wp2_with fail
       refine (load_any sp HMC.out S5 e.s _ HSV.out (by have := HSL.out; omega) (by omega)).mono ?_
       rintro r w8 ⟨hg8, hpost⟩
       rcases hpost with ⟨_, rfl, vm8, hM8⟩ | ⟨h, _⟩
       case inr => rw [HRE.out] at h; cases h
       have hS8 := HS.out.gr HMC.out.no hg8
       have hx8 := SlV.le HX.out (joinKn_le HMC.out.isin w8) VlC.mono
       generalize joinKn K wr.heap.size w8 = K8 at *
       have HM8 := Lib.hid hM8
       have HS8 := Lib.hid hS8
       have HX8 := Lib.hid hx8
       clear hM8 hS8 hx8 hg8 d0 c0 S5
       go_wp2_with fail
       refine (mtick_any sp HM8.out HCD.out (S.below (HB0.out.trans (HS8.out.below.mono HB0.out.size))) x _ HX8.out hlx).mono ?_
       rintro r w9 ⟨vm9, ov, cv, rfl, hg9, hM9, hk9⟩
       have hS9 := HS8.out.gr HM8.out.no hg9
       have hx9 := SlV.le HX8.out (joinKn_le HM8.out.isin w9) VlC.mono
       have hk9 := hk9.le (joinKn_new K8 w8.heap.size w9)
       generalize joinKn K8 w8.heap.size w9 = K9 at *
       rw [HCODE.out]
       generalize stepM R (cdOf p ord) p.ins (putM e.s) x = X at *
       obtain ⟨xe, tk, s'⟩ := X
       dsimp only at hk9 hM9 HSTE HNXE HNR HCODE HSZ ⊢
       obtain ⟨aov, cov, rfl⟩ := hk9.outs.len
       obtain ⟨acv, ccv, rfl⟩ := hk9.checks.len
       obtain ⟨WT, hWT⟩ : ∃ WT, WT = w9.alloc (.cells #[.slice aov tk.out.length cov, .bool tk.asrt, .bool tk.trap, .slice acv tk.checks.length ccv] 57) := ⟨_, rfl⟩
       have hbT : Below w9.heap.size w9 WT := by rw [hWT]; exact (Below.refl _ _).alloc (Nat.le_refl _) _
       have hT := heap_alloc_new w9 (.cells #[.slice aov tk.out.length cov, .bool tk.asrt, .bool tk.trap, .slice acv tk.checks.length ccv] 57)
       rw [← hWT] at hT
       have hMT := hM9.below hbT
       have hST := hS9.later hbT
       obtain ⟨t0, t1, t2, t3, _, htl⟩ := cell4_of hT
       have HT := Lib.hid hT
       have HMT := Lib.hid hMT
       have HSTT := Lib.hid hST
       have HK9 := Lib.hid hk9
       have HX9 := Lib.hid hx9
       clear hM9 hS9 hx9 hk9 hg9 hbT hT hMT hST
       dsimp only [errV]
       rw [hWT] at t0 t1 t2 t3
       go_wp2_with fail
       rw [← hWT] at *
       refine (wrong_any K9 tk _ _ HK9.out (by have := HSZ.out.2; omega) WT HMT.out.isin).mono ?_
       rintro r w10 ⟨rfl, hb10⟩
       have hM10 := HMT.out.below hb10
       have hS10 := HSTT.out.later hb10
       have t1 := (hb10.cell (p := ⟨w9.heap.size, 1, none⟩) (by exact htl)).trans t1
       have HM10 := Lib.hid hM10
       have HS10 := Lib.hid hS10
       clear hM10 hS10 hb10 t0 t2 t3 HMT HSTT hWT
       by_cases hwr : -2 < wrongI tk
       ·have hout := HOUT.out
        rw [Bf.rest_found STF NXF (HSTE.out.trans (wrongI_some hwr))] at hout
        have HRES := Lib.hid hout
        obtain ⟨KF, kf1, kf2, kf3, _⟩ := HS10.out.known
        have HKF := Lib.hid kf3
        have HKI := Lib.hid kf2
        have HKL := Lib.hid kf1
        have hnl2 : n < (os.map (·.1)).length := by rw [HOSZ.out]; exact hnl
        have hshort := HWY.out.short n hnl2
        have hwI := hwr
        clear hout kf1 kf2 kf3 hk9 t1
        generalize wrongI tk = wi at *
        go_wp2_with fail
        refine (way_any KF (os.map (·.1)) _ HKF.out HWY.out n hnl2 (by rw [HOSZ.out]; omega) w10 HKI.out).mono ?_
        rintro r w11 ⟨v11, xs, rfl, hrow, hxs, hb11⟩
        have HR2 := Lib.hid (own_below hrow ((Below.refl w11.heap.size w11).alloc (Nat.le_refl _) (.cells #[.slice a2 x.length c2] 54)))
        have HXS := Lib.hid hxs
        have HB11 := Lib.hid hb11
        have hsz11 := hb11.size
        clear hrow hxs hb11
        go_wp2_with (at_builtin; refine app1L 45 54 1 24 _ Tryd.underlying45 Tryd.infoIs rfl (by decide) _ _ rfl rfl w10.heap.size _ _ _ rfl HR2.out ⟨w11.heap.size, 0, none⟩ 1 [.slice a2 x.length c2] rfl rfl ?c1 ?c2 ?c3 ?c4 ?c5 ?_)
        case c1 => exact cells1 _ _ _
        case c2 => simp [Value.oneCell']
        case c3 => omega
        case c4 => omega
        case c5 => simp; omega
        intro g2 cap2 w12 ho hg12 _
        have hb12 : Below w10.heap.size w10 w12 := (HB11.out.alloc hsz11 _).grown hg12 (by simp; omega) (fun q hq => (HR2.out.lt q hq).1)
        have hin12 : KF.In w12 := HKI.out.below hb12
        have hx12 : IsX KF (Bf.W (os.map (·.1)) n ++ [x]) (xs ++ [.slice a2 x.length c2]) := RowX.snoc IsC.pm HXS.out rfl ⟨_, rfl, SlV.le HX9.out HKL.out VlC.mono⟩
        have hln : (Bf.W (os.map (·.1)) n ++ [x]).length = (Bf.W (os.map (·.1)) n).length + 1 := by simp
        rw [← hln] at ho ⊢
        obtain ⟨K12, _, hin, hv, _⟩ := slv_of_own (R := IsC) (l := Bf.W (os.map (·.1)) n ++ [x]) hin12 ho (fun q hq => by
         have h := (ho.lt q hq).1
         exact HKI.out.isNone h) (RowX.at IsC.pm hx12)
        have HV12 := Lib.hid hv
        have HI12 := Lib.hid hin
        have HB12 := Lib.hid hb12
        have hlw := HCL.out _ _ _ _ HRES.out
        have HLW := Lib.hid hlw
        have hll : (Bf.W (os.map (·.1)) n ++ [x]).length ≤ 1000000 := by rw [hln]; omega
        clear hb12 hin12 hx12 ho hg12 hin hv HR2 HXS hlw hln
        obtain ⟨WX, hWX⟩ : ∃ W, W = Bf.W (os.map (·.1)) n ++ [x] := ⟨_, rfl⟩
        rw [← hWX] at HV12 HLW hll ⊢
        have HWX := Lib.hid hWX
        clear hWX
        go_wp2_with fail
        refine (own_any K12 WX _ HV12.out ⟨hll, HLW.out⟩ w12 HI12.out).mono ?_
        rintro r w13 ⟨v13, K13, rfl, hv13, hst13⟩
        obtain ⟨a13, c13, rfl⟩ := hv13.len
        have hB13 : Below W0.heap.size W0 w13 := HS10.out.below.trans ((HB12.out.trans (hst13.below.mono HB12.out.size)).mono HS10.out.below.size)
        have HB13 := Lib.hid hB13
        have hK13 : K13 (w.heap.size + 1) = none := by
         have h := HB12.out.size
         have h1 := HS10.out.below.size
         have h2 := HS0.out
         exact hst13.fresh _ (by omega)
        have HV13 := Lib.hid (show ∀ x y z, InsV (allKn (put3 w13 (w.heap.size + 1) x y z)) WX (.slice a13 WX.length c13) from fun x y z => InsV.le (kn_le_all (hst13.isin.put3 hK13 x y z)) hv13)
        have hrl := HB0.out.size
        clear hst13 hv13 hB13
        have hres := HRS.out w13 HB13.out
        obtain ⟨r0, r1, r2, rf0, rf1, rf2, _⟩ := cell3_of hres
        have hp3 := put3_heap hres (.int .i64 os.length) (.slice a13 WX.length c13) (.int .i64 wi)
        obtain ⟨WW, hWW⟩ : ∃ WW, WW = put3 w13 (w.heap.size + 1) (.int .i64 os.length) (.slice a13 WX.length c13) (.int .i64 wi) := ⟨_, rfl⟩
        rw [← hWW] at hp3
        obtain ⟨e0, e1, e2, _⟩ := cell3_of hp3
        have HWW := Lib.hid hWW
        have hW2 := hWW
        unfold put3 at hW2
        have HW2 := Lib.hid hW2
        have E0 := Lib.hid e0
        have E1 := Lib.hid e1
        have E2 := Lib.hid e2
        clear e0 e1 e2 hp3 hres hWW hW2
        try (simp only []; go_at_K)
        repeat (first | go_values | go_skip | go_guarded | go_step | go_upon)
        rw [← HW2.out]
        have e0 := E0.out
        have e1 := E1.out
        have e2 := E2.out
        refine bodyPost_ret (v := .tuple #[.agg #[.int .i64 os.length, .slice a13 WX.length c13, .int .i64 wi], .nilIface]) (by simp [results, Tryd.results17, go_sem, e0, e1, e2]) rfl ?_
        rw [HWW.out]
        refine FIN.out _ _ (put3_below (HB0.out.trans (HB13.out.mono HB0.out.size)) (Nat.le_succ _) _ _ _) ?_
        rw [HRES.out]
        dsimp only
        rw [HOSZ.out]
        refine ⟨_, rfl, ?_⟩
        rw [← HWX.out]
        exact HV13.out _ _ _
       ·have hwn := wrongI_none hwr
        have hstn := HSTE.out.trans hwn
        have HSTN := Lib.hid hstn
        have hwI := hwr
        generalize wrongI tk = wi at *
        clear hwn hstn HSTE
        go_wp2_with fail
        refine (state_any HM10.out (by have := HM10.out.len; omega)).mono ?_
        rintro r w11 ⟨v11, rfl, hv11, hb11⟩
        obtain ⟨a11, c11, rfl⟩ := hv11.len
        have hM11 := HM10.out.join hb11
        have hS11 := HS10.out.gr HM10.out.no (Gr2.of_below hb11 M none)
        have hv11 := SlV.le hv11 (joinKn_new K9 w10.heap.size w11) VlC.mono
        have hx11 := SlV.le HX9.out (joinKn_le HM10.out.isin w11) VlC.mono
        have t1 := (hb11.cell (p := ⟨w9.heap.size, 1, none⟩) (by have := HM10.out.isin; exact cell_lt t1)).trans t1
        generalize joinKn K9 w10.heap.size w11 = K11 at *
        generalize stateM s' = S' at *
        have HM11 := Lib.hid hM11
        have HS11 := Lib.hid hS11
        have HV11 := Lib.hid hv11
        have HX11 := Lib.hid hx11
        clear hM11 hS11 hv11 hx11 hb11 hk9 HK9 HX9 HM10 HS10
        have hSl' : S'.length ≤ 100000000 := by
         have h := HNR.out
         unfold rightTo at h
         simp only [Bool.and_eq_true, decide_eq_true_eq] at h
         have h2 : (kindsL R.ks p).length = memNL p.terms + 1 := by simp [kindsL, memNdsL_len]
         omega
        obtain ⟨xo, xa, xt, xc⟩ := tk
        dsimp only at t1 HNXE
        cases xa with
        | false =>
         have hnx := HNXE.out
         rw [if_neg (by simp)] at hnx
         have hout := HOUT.out
         rw [Bf.rest_dead STF NXF HSTN.out hnx] at hout
         have HOUT2 := Lib.hid hout
         have HFI := Lib.hid (show RELI (.slice (some ⟨g, 0, none⟩) os.length cu) (.int .i64 ((k + 1 : Nat) : Int)) w11 from by
          rw [HRI.out]
          exact ⟨k + 1, os, _, _, _, rfl, by omega, HS11.out, HM11.out, HOUT2.out, hnl, HE.out, hmost, HWY.out, HRT.out⟩)
         clear hnx hout
         go_wp2_with fail
         go_roundw
         case rel => exact HFI.out
         case measure => simp [intOf]; omega
        | true =>
         have hnx := HNXE.out
         rw [if_pos rfl] at hnx
         have HNX2 := Lib.hid hnx
         clear hnx
         go_wp2_with fail
         refine (key_any K11 S' _ HV11.out hSl' w11 HM11.out.isin).mono ?_
         rintro r w12 ⟨rfl, hb12⟩
         have hM12 := HM11.out.below hb12
         have hS12 := HS11.out.later hb12
         have hlk := hS12.seen.run (P := Tryd.prog) Tryd.underlying69 Tryd.underlying9 (d := false) (by kernel_rfl) (keyB S') false
         have hse : ((seenE (os.map (·.1.s))) (keyB S')).getD false = decide (S' ∈ os.map (·.1.s)) := seenE_at (K := kindsL R.ks p) (fun y hy => by
          obtain ⟨z, hz, rfl⟩ := List.mem_map.1 hy
          exact HRT.out z hz) HNR.out
         simp only [Bool.false_eq_true, if_false, hse] at hlk
         have HM12 := Lib.hid hM12
         have HS12 := Lib.hid hS12
         clear hM12 hS12 hb12 hse
         have hmem : (S' ∈ os.map (·.1.s)) = (S' ∈ (os.map (·.1)).map (·.s)) := by rw [List.map_map]; rfl
         by_cases hin : S' ∈ os.map (·.1.s)
         ·have hout := HOUT.out
          rw [Bf.rest_seen STF NXF HSTN.out HNX2.out (hmem ▸ hin)] at hout
          have HOUT2 := Lib.hid hout
          have HFI := Lib.hid (show RELI (.slice (some ⟨g, 0, none⟩) os.length cu) (.int .i64 ((k + 1 : Nat) : Int)) w12 from by
           rw [HRI.out]
           exact ⟨k + 1, os, _, _, _, rfl, by omega, HS12.out, HM12.out, HOUT2.out, hnl, HE.out, hmost, HWY.out, HRT.out⟩)
          rw [decide_eq_true hin] at hlk
          clear hout hmem
          go_wp2_with fail
          go_roundw
          case rel => exact HFI.out
          case measure => simp [intOf]; omega
         ·rw [decide_eq_false hin] at hlk
          have hnin : ¬ S' ∈ (os.map (·.1)).map (·.s) := fun h => hin (by rw [hmem]; exact h)
          have HNIN := Lib.hid hnin
          clear hnin hmem hin
          by_cases hfull : os.length = mN
          ·
           have q5 : ((os.length : Int) == (mN : Int)) = true := by rw [hfull]; exact beq_self_eq_true _
           have hout := HOUT.out
           rw [Bf.rest_over STF NXF HSTN.out HNX2.out HNIN.out (by rw [HOSZ.out]; exact hfull)] at hout
           have HRES := Lib.hid hout
           have HB12 := Lib.hid HS12.out.below
           have c1 := (S.below (HB0.out.trans (HB12.out.mono HB0.out.size))).c1
           have hres := HRS.out w12 HB12.out
           obtain ⟨r0, r1, r2, rf0, rf1, rf2, _⟩ := cell3_of hres
           have hp3 := put3_heap hres (.int .i64 0) (.slice none 0 0) (.int .i64 0)
           obtain ⟨WW, hWW⟩ : ∃ WW, WW = (put3 w12 (w.heap.size + 1) (.int .i64 0) (.slice none 0 0) (.int .i64 0)).drew := ⟨_, rfl⟩
           have hp3 : WW.heap[w.heap.size + 1]? = some (.cells #[.int .i64 0, .slice none 0 0, .int .i64 0] 47 (0, 0)) := by rw [hWW]; exact hp3
           obtain ⟨e0, e1, e2, _⟩ := cell3_of hp3
           have HWW := Lib.hid hWW
           have hW2 := hWW
           unfold put3 at hW2
           have HW2 := Lib.hid hW2
           clear hWW hW2
           have c1b := (show (put3 w12 (w.heap.size + 1) (.int .i64 0) (.slice none 0 0) (.int .i64 0)).cell? ⟨1, 0, none⟩ = _ from World.cell?_of_block (w := w12) (put3_other _ _ _ (by have := S.big; show 1 ≠ _; omega))).trans c1
           unfold put3 at c1b
           have E0 := Lib.hid e0
           have E1 := Lib.hid e1
           have E2 := Lib.hid e2
           clear hout e0 e1 e2 hp3 hres
           go_wp2_with fail
           go_region
           try (simp only []; go_at_K)
           repeat (first | go_values | go_skip | go_guarded | go_step | go_upon)
           rw [← HW2.out]
           have e0 := E0.out
           have e1 := E1.out
           have e2 := E2.out
           refine bodyPost_ret (v := .tuple #[toldZ, esv (sp 1)]) (by simp [results, Tryd.results17, go_sem, e0, e1, e2, esv]) rfl ?_
           rw [HWW.out]
           refine FIN.out _ _ (put3_below (HB0.out.trans (HB12.out.mono HB0.out.size)) (Nat.le_succ _) _ _ _).drew ?_
           rw [HRES.out]
           first | done | rfl
          ·have q5 : ((os.length : Int) == (mN : Int)) = false := beq_false_of_ne (by omega)
           have hout := HOUT.out
           rw [Bf.rest_push STF NXF HSTN.out HNX2.out HNIN.out (by rw [HOSZ.out]; exact hfull)] at hout
           have HOUT2 := Lib.hid hout
           clear hout
           go_wp2_with fail
           clear hlk
           refine (key_any K11 S' _ HV11.out hSl' w12 HM12.out.isin).mono ?_
           rintro r w13 ⟨rfl, hb13⟩
           have hM13 := HM12.out.below hb13
           have hS13 := HS12.out.later hb13
           have HM13 := Lib.hid hM13
           have HS13 := Lib.hid hS13
           clear hM13 hS13 hb13
           go_wp2_with (first | (at_mapUpdate; refine wp_store Value.bool 69 9 4 Tryd.underlying69 Tryd.underlying9 sb _ HS13.out.seen _ _ _ rfl rfl rfl (keyB S') rfl true rfl ?_; intro w14 hm14 hT14; rw [seenE_snoc] at hm14; have hS14 := HS13.out.put hT14 hm14; have hM14 := HM13.out.turned hT14 HS13.out.ords.2.2.2.2 HS13.out.noS; have hba : Below w14.heap.size w14 (w14.alloc (.cells #[.slice a11 S'.length c11, .int .i64 n, .slice a2 x.length c2] 118)) := (Below.refl _ _).alloc (Nat.le_refl _) _; have HS15 := Lib.hid (hS14.later hba); have HM15 := Lib.hid (hM14.below hba); have hlow := hS14.low; clear hT14 hm14 hS14 hM14 hba) | (at_builtin; refine app1L 119 118 3 56 _ Tryd.underlying119 Tryd.infoSt rfl (by decide) _ _ rfl rfl base _ _ _ rfl HS15.out.row ⟨w14.heap.size, 0, none⟩ 1 [.slice a11 S'.length c11, .int .i64 n, .slice a2 x.length c2] rfl rfl ?d1 ?d2 ?d3 ?d4 ?d5 ?_))
           case d1 => exact cells3 _ _ _ _ _
           case d2 => simp [Value.oneCell']
           case d3 => omega
           case d4 => omega
           case d5 => simp; omega
           intro g3 cap3 w16 ho hg16 hat
           have hS16 := HS15.out.app (x := ⟨S', n, x⟩) HV11.out HX11.out ho hg16 (by rw [World.size_alloc]; exact hat)
           have hM16 := HM15.out.grown hg16 (fun q hq => ⟨HS15.out.noU q hq, by have := (HS15.out.row.lt q hq).1; have := HS15.out.ords.2.2.1; omega⟩)
           have HFI := Lib.hid (show RELI (.slice (some ⟨g3, 0, none⟩) (os.length + 1) cap3) (.int .i64 ((k + 1 : Nat) : Int)) w16 from by
            rw [HRI.out]
            refine ⟨k + 1, os ++ [(⟨S', n, x⟩, .slice a11 S'.length c11, .slice a2 x.length c2)], _, _, _, rfl, by omega, by rw [List.map_append]; exact hS16, hM16, by rw [List.map_append]; exact HOUT2.out, by simp; omega, ?_, by simp; omega, by rw [List.map_append]; exact HWY.out.snoc (by rw [HOSZ.out]; exact hnl) _ _, fun y hy => ?_⟩
            ·rw [List.getElem?_append_left hnl]; exact HE.out
            ·rcases List.mem_append.1 hy with hy | hy
             ·exact HRT.out y hy
             ·rw [List.mem_singleton.1 hy]; exact HNR.out)
           clear ho hg16 hat hS16 hM16
           go_wp2_with fail
           go_roundw
           case rel => exact HFI.out
           case measure => simp [intOf]; omega
      ·obtain rfl : k = choices.length := by omega
       have hout := HOUT.out
       rw [List.drop_eq_nil_of_le (Nat.le_refl _), Bf.rest_nil] at hout
       have HFO := Lib.hid (show RELO (.slice au os.length cu) (.int .i64 ((n + 1 : Nat) : Int)) wr from by
        rw [HRO.out]
        exact ⟨n + 1, os, K, vm', s, rfl, HS.out, HMC.out, by rw [hout, show mN + 1 - (n + 1) = mN - n from by omega], by omega, hmost, HWY.out, HRT.out⟩)
       have hnm := HNM.out
       clear hout
       go_wp2_with fail
       go_roundw
       case rel => exact HFO.out
       case measure => simp [intOf]; omega
    ·obtain rfl : n = os.length := by omega
     have hfin : RES = .ok (os.map (·.1)) := by
      rw [hout, show mN + 1 - os.length = (mN - os.length) + 1 from by omega]
      exact Bf.outer_end STF NXF (by rw [List.getElem?_eq_none (by simp)])
     have HFIN := Lib.hid hfin
     have hol : (os.map (·.1)).length = os.length := List.length_map _
     have HOL := Lib.hid hol
     have HB9 := Lib.hid HS.out.below
     clear hfin hout hol
     have hres := HRS.out wr HB9.out
     obtain ⟨r0, r1, r2, rf0, rf1, rf2, _⟩ := cell3_of hres
     have hp3 := put3_heap hres (.int .i64 os.length) (.slice none 0 0) (.int .i64 (-2))
     obtain ⟨WW, hWW⟩ : ∃ WW, WW = put3 wr (w.heap.size + 1) (.int .i64 os.length) (.slice none 0 0) (.int .i64 (-2)) := ⟨_, rfl⟩
     rw [← hWW] at hp3
     obtain ⟨e0, e1, e2, _⟩ := cell3_of hp3
     have HWW := Lib.hid hWW
     have hW2 := hWW
     unfold put3 at hW2
     have HW2 := Lib.hid hW2
     have E0 := Lib.hid e0
     have E1 := Lib.hid e1
     have E2 := Lib.hid e2
     clear e0 e1 e2 hp3 hres hWW hW2
     try (simp only []; go_at_K)
     repeat (first | go_values | go_skip | go_guarded | go_step | go_upon)
     rw [← HW2.out]
     have e0 := E0.out
     have e1 := E1.out
     have e2 := E2.out
     refine bodyPost_ret (v := .tuple #[.agg #[.int .i64 os.length, .slice none 0 0, .int .i64 (-2)], .nilIface]) (by simp [results, Tryd.results17, go_sem, e0, e1, e2]) rfl ?_
     rw [HWW.out]
     refine FIN.out _ _ (put3_below (HB0.out.trans (HB9.out.mono HB0.out.size)) (Nat.le_succ _) _ _ _) ?_
     rw [HFIN.out]
     dsimp only
     rw [HOL.out]
end Go.Proofs.YtmeldgjlgifdhaaDoor
