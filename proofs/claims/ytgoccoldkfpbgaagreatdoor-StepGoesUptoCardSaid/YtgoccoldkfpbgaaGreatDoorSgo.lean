/- Walks: lustrumlaw2.StepGoes. -/
import Derived.Test.YtgoccoldkfpbgaaGreatDoorRg
import Derived.Test.YtgoccoldkfpbgaaGreatDoorStG
import Derived.Test.YtgoccoldkfpbgaaGreatDoorOn
import Derived.Test.YtgoccoldkfpbgaaGreatDoorNu
import Derived.Test.YtgoccoldkfpbgaaGreatDoorGof
import Derived.Test.YtgoccoldkfpbgaaGreatDoorRfL
import Derived.Test.YtgoccoldkfpbgaaGreatDoorBare
import Derived.Test.YtgoccoldkfpbgaaGreatDoorRh
import Derived.Test.YtgoccoldkfpbgaaGreatDoorRu
set_option linter.all false
namespace Go.Proofs.YtgoccoldkfpbgaaGreatDoor
open Go.RowKit Mx
theorem mSgo2 {p : Prop} (h : p := by
  intro w hSw; obtain ⟨z0, z1, z2, z3, z4⟩ := hSw.c5 k0 k1 k2 k3 k4; go_simp <;> with_reducible rfl) : p := h
theorem mSgo1 {p : Prop} (h : p := by
  intro w hSw; obtain ⟨z0, z1, z2, z3, z4, z5, z6, z7⟩ := hSw.c8 x0 x1 x2 x3 y0 y1 y2 y3; go_simp <;> with_reducible rfl) : p := h

set_option maxHeartbeats 400000000 in
set_option maxRecDepth 100000 in
theorem stepGoes_any (H : Kn) (T : Zbl H) (sp : Nat → Addr) (p : Pr) (vi vo vl va vc : Value) (hp : PrP H p vi vo vl va vc) (ins : List (List Vl)) (vin : Value) (hi : InsV H ins vin) (hsz : p.ins.length ≤ 1048576 ∧ p.outs.length ≤ 1048576 ∧ Ex.weightL p.terms ≤ 1048576 ∧ ins.length ≤ 1048576) (nb : Bool) (ni : Int) (w : World) (hH : H.In w) (S : Zji w sp) (hET : Za3 w) :
    Calls Tryz.prog 4 #[.agg #[vi, vo, vl, va, vc], vin, .bool nb, .int .i64 ni] w fun r w' => r = .returned (.bool true) ∧ Below w.heap.size w w' := by
  obtain ⟨z1, z2, z3, z4⟩ := hsz
  have hle : ∀ w1, Below w.heap.size w w1 → Zbl (Zag w1) := fun w1 hb => T.le (Zaz (hH.below hb))
  have HLE := Zhd hle
  have hpl := Ze1 p.terms
  have hlw : p.fl.length + p.as.length + p.cs.length ≤ Ex.weightL p.terms := by
    have h := Zee p.terms
    have h2 : p.terms.length = p.fl.length + p.as.length + p.cs.length := by simp only [Pr.terms, List.length_append, List.length_map]
    omega
  clear hle
  have HP := Zhd hp
  obtain ⟨h1, h2, h3, h4, h5⟩ := hp
  obtain ⟨ai, ci, rfl⟩ := h1.len
  obtain ⟨ao, co, rfl⟩ := h2.len
  obtain ⟨al, cl, rfl⟩ := h3.len
  obtain ⟨aa, ca, rfl⟩ := h4.len
  obtain ⟨ac, cc, rfl⟩ := h5.len
  obtain ⟨an, cn, rfl⟩ := hi.len
  have HI := Zhd hi
  clear h1 h2 h3 h4 h5 hi
  have hP0 := heap_alloc_new w (.cells #[.slice ai p.ins.length ci, .slice ao p.outs.length co, .slice al p.fl.length cl, .slice aa p.as.length ca, .slice ac p.cs.length cc] 27)
  have hb0 : Below w.heap.size w (w.alloc (.cells #[.slice ai p.ins.length ci, .slice ao p.outs.length co, .slice al p.fl.length cl, .slice aa p.as.length ca, .slice ac p.cs.length cc] 27)) := (Below.refl _ _).alloc (Nat.le_refl _) _
  have HB0 := Zhd hb0
  have HP0 := Zhd hP0
  clear hP0 hb0
  go_enter Tryz.func4, Tryz.ntmps4
  go_wp2_with fail
  generalize w.alloc (.cells #[.slice ai p.ins.length ci, .slice ao p.outs.length co, .slice al p.fl.length cl, .slice aa p.as.length ca, .slice ac p.cs.length cc] 27) = W1 at *
  refine (walk_any H T sp W1 (hH.below HB0.out) (S.below HB0.out).five).mono ?_
  rintro r w1 ⟨rfl, hb1⟩
  have HB1 := Zhd (HB0.out.trans (hb1.mono HB0.out.size))
  have HP1 := Zhd ((hb1.block w.heap.size (Zlt HP0.out)).trans HP0.out)
  obtain ⟨⟨m0, m1, m2, m3, m4⟩, _⟩ := Zbp HP1.out
  go_wp2_with fail
  refine (heavy_any H p _ _ _ _ _ HP.out ⟨by omega, by omega, by omega⟩ w1 (hH.below HB1.out)).mono ?_
  rintro r w2 ⟨rfl, hb2⟩
  have HB2 := Zhd (HB1.out.trans (hb2.mono HB1.out.size))
  have HP2 := Zhd ((hb2.block w.heap.size (Zlt HP1.out)).trans HP1.out)
  clear m0 m1 m2 m3 m4
  obtain ⟨⟨m0, m1, m2, m3, m4⟩, _⟩ := Zbp HP2.out
  unfold heavyI
  by_cases hh : heavy p = true
  · rw [if_pos hh]
    go_wp2_with fail
    go_ret
    exact ⟨rfl, HB2.out⟩
  rw [if_neg hh]
  obtain ⟨y1, y2, y3⟩ : Ex.weightL p.terms ≤ 1500 ∧ p.fl.length ≤ 100 ∧ p.ins.length ≤ 40 := by
    unfold heavy at hh
    simp only [Bool.or_eq_true, decide_eq_true_eq, not_or, Nat.not_lt] at hh
    exact ⟨hh.1.1, hh.1.2, hh.2⟩
  clear hh
  go_wp2_with fail
  refine (long_any H ins _ HI.out (by omega) w2 (hH.below HB2.out)).mono ?_
  rintro r w3 ⟨rfl, hb3⟩
  have HB3 := Zhd (HB2.out.trans (hb3.mono HB2.out.size))
  have HP3 := Zhd ((hb3.block w.heap.size (Zlt HP2.out)).trans HP2.out)
  clear m0 m1 m2 m3 m4
  obtain ⟨⟨m0, m1, m2, m3, m4⟩, _⟩ := Zbp HP3.out
  by_cases hl : 0 < longI ins
  · go_wp2_with fail
    go_ret
    exact ⟨rfl, HB3.out⟩
  obtain ⟨q1, _, q3⟩ := long_zero hl
  have ZI := Zhd (show ∀ x ∈ ins, x.length ≤ 1000000 from fun x hx => by have := q1 x hx; omega)
  clear q1
  by_cases h14 : 14 < ins.length
  · go_wp2_with fail
    go_ret
    exact ⟨rfl, HB3.out⟩
  go_wp2_with fail
  refine (flatOf_any p _ _ _ _ _ H HP.out ⟨by omega, by omega, by omega, by omega⟩ _ (hH.below HB3.out)).mono ?_
  rintro r w4 ⟨vi4, vo4, vl4, va4, vc4, K4, rfl, hp4, hst4⟩
  have HB4 := Zhd (HB3.out.trans (hst4.below.mono HB3.out.size))
  have HP4 := Zhd ((hst4.below.block w.heap.size (Zlt HP3.out)).trans HP3.out)
  have HQ4 := Zhd (hp4.le (Zaz hst4.isin))
  clear hp4 hst4
  clear m0 m1 m2 m3 m4
  obtain ⟨⟨m0, m1, m2, m3, m4⟩, _⟩ := Zbp HP4.out
  go_wp2_with fail
  refine (new_any (Zag w4) (HLE.out _ HB4.out) sp p _ _ _ _ _ HQ4.out w4 (Za0 w4) (S.below HB4.out).five nb ni ⟨by omega, by omega, by omega, by omega, by omega⟩ (by omega)).mono ?_
  rintro r w5 ⟨hb5, hpost⟩
  have HB5 := Zhd (HB4.out.trans (hb5.mono HB4.out.size))
  have HP5 := Zhd ((hb5.block w.heap.size (Zlt HP4.out)).trans HP4.out)
  have HQ4 := Zhd (HQ4.out.le (Zaz (Zbe hb5)))
  clear m0 m1 m2 m3 m4
  obtain ⟨⟨m0, m1, m2, m3, m4⟩, _⟩ := Zbp HP5.out
  rcases hpost with ⟨hE, M, B, ks, ord, vm, hks, ho, rfl, hMw, hM, _⟩ | ⟨hE, t5, u5, rfl, he5⟩
  case inr =>
    have HE6 := Zhd he5
    clear he5
    go_wp2_with fail
    refine (Zek H p _ _ _ _ _ HP.out (by omega) (by omega) ⟨by omega, by omega, by omega, by omega⟩ [] _ (.inl ⟨rfl, none, 0, rfl⟩) ⟨by simp, fun x hx => by cases hx⟩ ni w5 (hH.below HB5.out)).mono ?_
    rintro r w7 ⟨rfl, hb7⟩
    have HB7 := Zhd (HB5.out.trans (hb7.mono HB5.out.size))
    have HP7 := Zhd ((hb7.block w.heap.size (Zlt HP5.out)).trans HP5.out)
    have HE6 := Zhd (HE6.out.below hb7)
    clear m0 m1 m2 m3 m4
    obtain ⟨⟨m0, m1, m2, m3, m4⟩, _⟩ := Zbp HP7.out
    obtain ⟨⟨cn7, ca7⟩, hz⟩ : ∃ z, runE p [] ni = z := ⟨_, rfl⟩
    have HCL := Zhd (runE_le p [] ni)
    rw [hz] at HE6 HCL hE ⊢
    dsimp only at HE6 hE ⊢
    have hgt : (0 : Int) < (cn7 : Int) := by omega
    have hb8 : Below w7.heap.size w7 (w7.alloc (.cells #[.int .i64 (cn7 : Nat), .int .i64 ca7] 45)) := (Below.refl _ _).alloc (Nat.le_refl _) _
    have HB8 := Zhd (HB7.out.trans (hb8.mono HB7.out.size))
    have HP8 := Zhd ((hb8.block w.heap.size (Zlt HP7.out)).trans HP7.out)
    have HE6 := Zhd (HE6.out.below hb8)
    have HF := Zhd (show (w7.alloc (.cells #[.int .i64 (cn7 : Nat), .int .i64 ca7] 45)).heap[w7.heap.size]? = _ from heap_alloc_new _ _)
    clear m0 m1 m2 m3 m4
    obtain ⟨⟨m0, m1, m2, m3, m4⟩, _⟩ := Zbp HP8.out
    obtain ⟨q0, q1, _, _, _⟩ := Zak HF.out
    go_wp2_with fail
    generalize w7.alloc (.cells #[.int .i64 (cn7 : Nat), .int .i64 ca7] 45) = W8 at *
    refine (faulted_any sp cn7 ca7 _ W8 HE6.out HCL.out.1 HCL.out.2 (S.below HB8.out) (Zi9 hET HB8.out) _ _).mono ?_
    rintro r w9 ⟨hr, hb9⟩
    obtain rfl : r = .returned (.bool true) := by rw [hr]; simp
    clear hr
    have HB9 := Zhd (HB8.out.trans (hb9.mono HB8.out.size))
    have HP9 := Zhd ((hb9.block w.heap.size (Zlt HP8.out)).trans HP8.out)
    have HE6 := Zhd (HE6.out.below hb9)
    go_wp2_with fail
    go_ret
    exact ⟨rfl, HB9.out⟩
  have HEZ := Zhd (show runE p [] ni = (0, -1) from Zfh hE)
  obtain ⟨hc0, _, hni, _⟩ := Ze0 hE
  have HC := Zhd (Zkg hc0 hks ho nb ni (by omega) (by omega) (by omega))
  have hMge : w.heap.size ≤ M := Nat.le_trans HB4.out.size hMw
  obtain ⟨R, hR⟩ : ∃ R : REnv, R = ⟨ks, Zac p, getI (Zai p), nb, ni⟩ := ⟨_, rfl⟩
  rw [← hR] at hM HC
  have hKH : H.le (noKn M w5) := Zf4 (hH.below HB5.out) (hH.isNone hMge)
  obtain ⟨mz, hmz⟩ : ∃ mz, mz = Zbb R (Zab 0 p.terms) := ⟨_, rfl⟩
  have HSO := Zhd (fun (K : Kn) (hle : H.le K) (good : List (List Vl)) (vg : Value) hgl hg hr (t : Bool) (wz : World) (hz : K.In wz) => state_sg HP.out hc0 hks ho ⟨by omega, by omega, by omega⟩ (by have := outs_few hc0; omega) nb ni hni hR hle (good := good) (vg := vg) hgl hg hr t hz)
  have HIN := Zhd (fun (K : Kn) (hle : H.le K) (good : List (List Vl)) (x : List Vl) (vg : Value) hgl hg hr hx (wz : World) (hz : K.In wz) => instant_sg HP.out hc0 hks ho ⟨by omega, by omega, by omega⟩ (by have := outs_few hc0; omega) nb ni hni hR hle (good := good) (x := x) (vg := vg) hgl hg hr hx hz)
  rw [← hmz] at HSO HIN hM
  have hM : McAt 107 137 130 R p ord (noKn M w5) w5 M B (sgM R (cdOf p ord) mz [] false) vm := hM
  have k0 : (noKn M w5).cell w.heap.size 0 = some (.slice ai p.ins.length ci) := by rw [Zcg (by have := (Zlt HP4.out); omega)]; exact m0
  have k1 : (noKn M w5).cell w.heap.size 1 = some (.slice ao p.outs.length co) := by rw [Zcg (by have := (Zlt HP4.out); omega)]; exact m1
  have k2 : (noKn M w5).cell w.heap.size 2 = some (.slice al p.fl.length cl) := by rw [Zcg (by have := (Zlt HP4.out); omega)]; exact m2
  have k3 : (noKn M w5).cell w.heap.size 3 = some (.slice aa p.as.length ca) := by rw [Zcg (by have := (Zlt HP4.out); omega)]; exact m3
  have k4 : (noKn M w5).cell w.heap.size 4 = some (.slice ac p.cs.length cc) := by rw [Zcg (by have := (Zlt HP4.out); omega)]; exact m4
  have HM := Zhd hM
  have HKH := Zhd hKH
  have hml := memNL_parts p.terms
  clear hE hc0 hks ho hR hmz hM hKH hni
  go_wp2_with fail
  refine (Zek H p _ _ _ _ _ HP.out (by omega) (by omega) ⟨by omega, by omega, by omega, by omega⟩ [] _ (.inl ⟨rfl, none, 0, rfl⟩) ⟨by simp, fun x hx => by cases hx⟩ ni w5 (hH.below HB5.out)).mono ?_
  rintro r w7 ⟨rfl, hb7⟩
  have HB7 := Zhd (HB5.out.trans (hb7.mono HB5.out.size))
  have HP7 := Zhd ((hb7.block w.heap.size (Zlt HP5.out)).trans HP5.out)
  clear m0 m1 m2 m3 m4
  obtain ⟨⟨m0, m1, m2, m3, m4⟩, _⟩ := Zbp HP7.out
  rw [HEZ.out]
  dsimp only
  try rw [show ((0 : Nat) : Int) = 0 from rfl]
  have hb8 : Below w7.heap.size w7 (w7.alloc (.cells #[.int .i64 0, .int .i64 (-1)] 45)) := (Below.refl _ _).alloc (Nat.le_refl _) _
  have HB8 := Zhd (HB7.out.trans (hb8.mono HB7.out.size))
  have HP8 := Zhd ((hb8.block w.heap.size (Zlt HP7.out)).trans HP7.out)
  obtain ⟨q0, q1, _, _, _⟩ := Zak (show (w7.alloc (.cells #[.int .i64 0, .int .i64 (-1)] 45)).heap[w7.heap.size]? = _ from heap_alloc_new _ _)
  clear m0 m1 m2 m3 m4
  obtain ⟨⟨m0, m1, m2, m3, m4⟩, _⟩ := Zbp HP8.out
  have HM8 := Zhd ((HM.out.below hb7).below hb8)
  go_wp2_with fail
  clear q0 q1 m0 m1 m2 m3 m4 hb7 hb8
  generalize w7.alloc (.cells #[.int .i64 0, .int .i64 (-1)] 45) = W8 at *
  go_loopw [13, 14, 15] (fun g tv_ i wr => ∃ (k : Nat) (good : List (List Vl)) (tr : Bool) (K : Kn) (vm' : Value), i = .int .i64 k ∧ k ≤ ins.length ∧ tv_ = .bool tr ∧ InsV K good g ∧ good.length ≤ k ∧ (∀ l ∈ good, Zav p.ins l l.length = true) ∧ (noKn M w5).le K ∧ Below w.heap.size w wr ∧ M < wr.heap.size ∧ McAt 107 137 130 R p ord K wr M B (sgM R (cdOf p ord) mz good tr) vm') (fun _ _ i _ => ins.length - (intOf i).toNat)
  case atStart => exact ⟨0, [], false, _, _, rfl, Nat.zero_le _, rfl, .inl ⟨rfl, none, 0, rfl⟩, Nat.le_refl _, (fun l hl => by cases hl), Kn.le_refl _, HB8.out, HM8.out.lt, HM8.out⟩
  case round =>
    obtain ⟨k, good, tr, K, vm', rfl, hk, rfl, hg, hgk, hgr, hle, hbw, hMl, hMc⟩ := hrel
    obtain ⟨ag, cg, rfl⟩ := hg.len
    have HG := Zhd hg
    have HGR := Zhd hgr
    have HLK := Zhd hle
    have HBW := Zhd hbw
    have HMC := Zhd (hMc.below (Below.refl _ _).drew)
    clear hg hgr hle hbw hMc
    have k0 := HLK.out.cell k0
    have k1 := HLK.out.cell k1
    have k2 := HLK.out.cell k2
    have k3 := HLK.out.cell k3
    have k4 := HLK.out.cell k4
    have hmn := HMC.out.len
    by_cases hkl : k < ins.length
    · go_wp2_with fail
      refine Zae (fun w' => K.In w') (fun _ => True) 99 (by kernel_rfl) ?_
      refine Go.w3 0 ?_
      iterate 1 ((first | (refine tk3 (v := ?_) rfl HMC.out.isin Ztr ?hy ?_; (case hy => exact mSgo2)) | refine sk3 rfl HMC.out.isin Ztr ?_ | refine no3 ?_); refine Zss ?_)
      refine Go.w3e ?_
      refine Go.w3 2 ?_
      iterate 4 ((first | (refine tk3 (v := ?_) rfl HMC.out.isin Ztr ?hy ?_; (case hy => exact mSgo2)) | refine sk3 rfl HMC.out.isin Ztr ?_ | refine no3 ?_); refine Zss ?_)
      refine Go.w3e ?_
      refine Zwo 1 rfl fun K_ hK => ?_
      go_simp
      go_at_call 19
      have hsm := state_any HMC.out (by omega)
      refine hsm.mono ?_
      rintro r wa ⟨va, rfl, hva, hba⟩
      clear hsm
      have hSa := HMC.out.isin.below hba
      refine hK.out _ _ (hSa) Ztr ?_
      clear hK K_
      try simp only [tkS]
      refine Zwo 6 rfl fun K_ hK => ?_
      go_simp
      go_at_call 20
      refine (HSO.out K (Kn.le_trans HKH.out HLK.out) good _ (by omega) HG.out HGR.out tr wa hSa).mono ?_
      rintro r wb ⟨vb, rfl, hvb, hbb⟩
      have hSb := hSa.below hbb
      refine hK.out _ _ (hSb) Ztr ?_
      clear hK K_
      try simp only [tkS]
      refine Zwo 7 rfl fun K_ hK => ?_
      go_simp
      go_at_call 18
      refine (sameVls_any (Zag wb) _ _ _ (SlV.le hva (Zaz ((newKn_in _ wa).below hbb)) VlC.mono) hvb (by simp [stateM]; omega) wb (Za0 wb)).mono ?_
      rintro r wc ⟨rfl, hbc⟩
      have hSc := hSb.below hbc
      refine hK.out _ _ (hSc) Ztr ?_
      clear hK K_
      try simp only [tkS]
      refine Go.w3 8 ?_
      iterate 1 ((first | (refine tk3 (v := ?_) rfl hSc Ztr ?hy ?_; (case hy => exact mSgo2)) | refine sk3 rfl hSc Ztr ?_ | refine no3 ?_); refine Zss ?_)
      refine Go.w3e ?_
      refine Zwd ?_
      have hbs := (Below.refl wr.heap.size wr).drew.trans ((hba.trans ((hbb.trans (hbc.mono hbb.size)).mono hba.size)).mono (Nat.le_refl _))
      have hMc := HMC.out.below (hba.trans ((hbb.trans (hbc.mono hbb.size)).mono hba.size))
      have HMC := Zhd hMc
      have HBC := Zhd (HBW.out.trans (hbs.mono HBW.out.size))
      clear hSa hSb hSc hva hvb hba hbb hbc hMc hbs
      obtain ⟨b, off, a2, c2, haf, c0, hx⟩ := HI.out.at hkl
      subst haf
      have hlx := ZI.out _ (List.getElem_mem hkl)
      have HHK := Zhd (Kn.le_trans HKH.out HLK.out)
      have kx := HHK.out.cell c0
      have c0 := HMC.out.isin.cell kx
      have HX := Zhd (SlV.le hx HHK.out VlC.mono)
      generalize ins[k] = x at *
      clear hx
      go_wp2_with fail
      refine (values_any K x _ HX.out (by omega) wc HMC.out.isin).mono ?_
      rintro r wd ⟨vd, rfl, hvd, hbd⟩
      have hMd := HMC.out.join hbd
      have hBd := HBC.out.trans (hbd.mono HBC.out.size)
      have hvd := SlV.le hvd (Zgx K wc.heap.size wd) VlC.mono
      have hled := Zdy HMC.out.isin wd
      clear c0
      go_wp2_with fail
      refine (mtick_any sp hMd HC.out (S.below hBd).five x _ hvd hlx).mono ?_
      rintro r we ⟨vme, ov, cv, rfl, hge, hMe, hke⟩
      have hlee := Kn.le_trans hled (Zdy hMd.isin we)
      have hBe := Gr2.below hBd hge hMge hBd.size
      have hke := hke.le (Zgx (Zcz K wc.heap.size wd) wd.heap.size we)
      have HX0 := Zhd (fun (e : tr = true) => (by subst e; exact sg_trapped R (cdOf p ord) p.ins mz good x : Zc3 R (cdOf p ord) p.ins (sgM R (cdOf p ord) mz good tr) x = (0, trapT, sgM R (cdOf p ord) mz good true)))
      have HX1 := Zhd (fun (e : tr = false) (h : Zav p.ins x x.length = false) => (by subst e; exact sg_bad R (cdOf p ord) mz good h : Zc3 R (cdOf p ord) p.ins (sgM R (cdOf p ord) mz good tr) x = (5, noT, sgM R (cdOf p ord) mz good false)))
      have HX2 := Zhd (fun (e : tr = false) (h : Zav p.ins x x.length = true) => (by subst e; exact sg_code R (cdOf p ord) mz good h : (Zc3 R (cdOf p ord) p.ins (sgM R (cdOf p ord) mz good tr) x).1 = 0))
      obtain ⟨X, hX⟩ : ∃ X, Zc3 R (cdOf p ord) p.ins (sgM R (cdOf p ord) mz good tr) x = X := ⟨_, rfl⟩
      rw [hX] at hke hMe HX0 HX1 HX2 ⊢
      have HXE := Zhd hX
      obtain ⟨xe, ⟨xo, xa, xt, xc⟩, xs⟩ := X
      dsimp only at hke hMe HX2 ⊢
      obtain ⟨aov, cov, rfl⟩ := hke.outs.len
      obtain ⟨acv, ccv, rfl⟩ := hke.checks.len
      generalize Zcz (Zcz K wc.heap.size wd) wd.heap.size we = Ke at *
      have hbf : Below we.heap.size we (we.alloc (.cells #[.slice aov xo.length cov, .bool xa, .bool xt, .slice acv xc.length ccv] 62)) := (Below.refl _ _).alloc (Nat.le_refl _) _
      have HMF := Zhd (hMe.below hbf)
      have HBF := Zhd (hBe.trans (hbf.mono hBe.size))
      have HKT := Zhd hke
      have HTB := Zhd (heap_alloc_new we (.cells #[.slice aov xo.length cov, .bool xa, .bool xt, .slice acv xc.length ccv] 62))
      have HLE2 := Zhd hlee
      have HXV := Zhd (SlV.le HX.out hlee VlC.mono)
      have HGV := Zhd (InsV.le hlee HG.out)
      have HHE := Zhd (Kn.le_trans HHK.out hlee)
      have HLF := Zhd (Kn.le_trans HLK.out hlee)
      have k0 := hlee.cell k0
      have k1 := hlee.cell k1
      have k2 := hlee.cell k2
      have k3 := hlee.cell k3
      have k4 := hlee.cell k4
      have kx := hlee.cell kx
      have HBE := Zhd hBe
      clear hMd hBd hvd hled hge hMe hke hlee hBe hbf hbd hX HMC HBC HBW HX HG HHK HLK hmn
      go_wp2_with fail
      have HMD := Zhd (HMF.out.below (Below.refl _ _).drew)
      refine Zae (fun w' => Ke.In w') (fun _ => True) 99 (by kernel_rfl) ?_
      refine Go.w3 0 ?_
      iterate 5 ((first | (refine tk3 (v := ?_) rfl HMD.out.isin Ztr ?hy ?_; (case hy => intro w hSw; obtain ⟨z0, z1, z2, z3, z4, z5⟩ := hSw.c6 k0 k1 k2 k3 k4 kx; go_simp <;> with_reducible rfl)) | refine sk3 rfl HMD.out.isin Ztr ?_ | refine no3 ?_); refine Zss ?_)
      refine Go.w3e ?_
      refine Zwo 5 rfl fun K_ hK => ?_
      go_simp
      go_at_call 23
      refine (rightIn_any Ke p _ _ _ _ _ (HP.out.le HHE.out) x _ HXV.out ⟨by omega, by omega⟩ _ HMD.out.isin).mono ?_
      rintro r wg ⟨rfl, hbg⟩
      have hSg := HMD.out.isin.below hbg
      refine hK.out _ _ (hSg) Ztr ?_
      clear hK K_
      try simp only [tkS]
      refine Go.w3 6 ?_
      iterate 1 ((first | (refine tk3 (v := ?_) rfl hSg Ztr ?hy ?_; (case hy => intro w hSw; obtain ⟨z0, z1, z2, z3, z4, z5⟩ := hSw.c6 k0 k1 k2 k3 k4 kx; go_simp <;> with_reducible rfl)) | refine sk3 rfl hSg Ztr ?_ | refine no3 ?_); refine Zss ?_)
      refine Go.w3e ?_
      refine Zwd ?_
      have hbx : wg.heap[we.heap.size]? = _ := (hbg.block _ (by simp)).trans HTB.out
      have HMG := Zhd (HMD.out.below hbg)
      have HBG := Zhd (HBF.out.trans ((Below.refl _ _).drew.trans (hbg.mono (Nat.le_refl _)) |>.mono HBF.out.size))
      have hwg : we.heap.size < wg.heap.size := (Zlt hbx)
      have HRI := Zhd (show ∀ b, Zav p.ins x x.length = b → Zav p.ins x x.length = b from fun _ h => h)
      clear hSg HMD HMF HBF HTB
      generalize hri : Zav p.ins x x.length = ri at *
      obtain ⟨⟨t0, t1, t2, t3, _, _⟩, _⟩ := And.intro (Zb0 hbx) trivial
      cases tr
      case true =>
        have hX := HX0.out rfl
        cases hX
        dsimp only [errV]
        go_wp2_with fail
        go_roundw
        case rel => exact ⟨k + 1, good, true, _, _, by go_num, by omega, rfl, HGV.out, by omega, HGR.out, HLF.out, HBG.out, HMG.out.lt, HMG.out⟩
        case measure => simp [intOf]; omega
      cases ri
      case false =>
        have hX := HX1.out rfl rfl
        cases hX
        dsimp only [errV, esv]
        go_wp2_with fail
        refine (coded2_any sp 5 _ wg (.inl ⟨rfl, rfl⟩) (by decide) (S.below HBG.out) (Zi9 hET HBG.out) 5).mono ?_
        rintro r wh ⟨hr, hbh⟩
        obtain rfl : r = .returned (.bool true) := by rw [hr]; simp
        have hbx := (hbh.block _ hwg).trans hbx
        clear t0 t1 t2 t3 hr
        obtain ⟨⟨t0, t1, t2, t3, _, _⟩, _⟩ := And.intro (Zb0 hbx) trivial
        have HMH := Zhd (HMG.out.below hbh)
        have HBH := Zhd (HBG.out.trans (hbh.mono HBG.out.size))
        go_wp2_with fail
        go_roundw
        case rel => exact ⟨k + 1, good, false, _, _, by go_num, by omega, rfl, HGV.out, by omega, HGR.out, HLF.out, HBH.out, HMH.out.lt, HMH.out⟩
        case measure => simp [intOf]; omega
      obtain rfl : xe = 0 := HX2.out rfl rfl
      dsimp only [errV]
      obtain ⟨v1, W1, ys, hrun, hrw⟩ := app_good HMG.out.isin HGV.out x (by omega)
      have HRW := Zhd (hrw.alloc (.cells #[.slice a2 x.length c2] 57))
      have cx1 := hrw.isin.cell kx
      have HRZ := Zhd hrw.below
      obtain ⟨a3, c3, rfl, _⟩ := Zas hrw.row
      clear hrw
      go_wp2_with (at_builtin; first | refine Zbj rfl _ _ _ _ rfl _ _ rfl rfl _ _ hrun ?_ | (clear hrun; refine Zj7 28 57 1 24 _ Tryz.underlying28 Tryz.infoIs rfl (by decide) _ _ rfl rfl wg.heap.size _ _ _ rfl HRW.out.row ⟨W1.heap.size, 0, none⟩ 1 [.slice a2 x.length c2] rfl rfl ?c1 ?c2 ?c3 ?c4 ?c5 ?_))
      case c2 => simp [Value.oneCell']
      case c3 => omega
      case c4 => omega
      case c5 => simpa using HRW.out.size
      intro g cap' wj ho hg3 hat
      have hrw := RwO.step (n' := 1) HRW.out (by rw [List.take_of_length_le (by simp)]; have h := HRW.out.xs; rw [List.take_append_of_le_length (Nat.le_refl _), List.take_of_length_le (Nat.le_refl _)] at h; exact RowX.snoc IsC.pm h rfl ⟨_, rfl, HXV.out⟩) ho hg3 (by rw [World.size_alloc]; exact hat)
      have hxs := hrw.xs
      rw [List.take_of_length_le (by simp)] at hxs
      obtain ⟨Kj, hlej, hinj, hvj, hfrj⟩ := Zcw (R := IsC) (l := good ++ [x]) hrw.isin (by have h := hrw.row; simpa using h) hrw.noR (RowX.at IsC.pm hxs)
      have hbj := hrw.below
      have HMJ := Zhd ((HMG.out.below hbj).kle hlej hinj ((hfrj M (by have := HMG.out.lt; omega)).trans HMG.out.no))
      have hbx := (hbj.block _ hwg).trans hbx
      have HBJ := Zhd (HBG.out.trans (hbj.mono HBG.out.size))
      have hwj : we.heap.size < wj.heap.size := (Zlt hbx)
      have hHJ := Kn.le_trans HHE.out hlej
      have HNW := Zhd (fun w0 hw0 => HIN.out Kj hHJ good x _ (by omega) hvj HGR.out hri w0 hw0)
      have HVJ := Zhd hvj
      have HGJ := Zhd (InsV.le hlej HGV.out)
      have HGN := Zhd (show ∀ l ∈ good ++ [x], Zav p.ins l l.length = true from fun l hl => (List.mem_append.1 hl).elim (HGR.out l) fun h => by rw [List.mem_singleton.1 h]; exact hri)
      have HLJ := Zhd (Kn.le_trans HLF.out hlej)
      have HEJ := Zhd hlej
      have k0 := hlej.cell k0
      have k1 := hlej.cell k1
      have k2 := hlej.cell k2
      have k3 := hlej.cell k3
      have k4 := hlej.cell k4
      have m0 := hinj.cell k0
      have m1 := hinj.cell k1
      have m2 := hinj.cell k2
      have m3 := hinj.cell k3
      have m4 := hinj.cell k4
      clear t0 t1 t2 t3 hxs hrw hfrj hlej hvj hHJ ho hg3 hat HMG HBG HRW HRZ cx1
      go_wp2_with fail
      refine (HNW.out wj hinj).mono ?_
      rintro r wk ⟨xB, tk, rfl, hbk, hstep, htick⟩
      obtain ⟨rfl, hxs⟩ : tk = ⟨xo, xa, xt, xc⟩ ∧ xs = _ := by
        have h := hstep.symm.trans HXE.out
        exact ⟨(Prod.mk.inj (Prod.mk.inj h).2).1, (Prod.mk.inj (Prod.mk.inj h).2).2.symm⟩
      dsimp only at htick hxs
      have hsz := stepM_sizes R p ord (sgM R (cdOf p ord) mz good false) x
      rw [HXE.out] at hsz
      obtain ⟨hz1, hz2⟩ := hsz
      dsimp only at hz1 hz2
      clear hstep
      go_wp2_with fail
      refine htick.mono ?_
      rintro r wl ⟨ov2, cv2, rfl, hbl, htk⟩
      obtain ⟨ao2, co2, rfl⟩ := htk.outs.len
      obtain ⟨ac2, cc2, rfl⟩ := htk.checks.len
      have hbm : Below wl.heap.size wl (wl.alloc (.cells #[.slice ao2 xo.length co2, .bool xa, .bool xt, .slice ac2 xc.length cc2] 68)) := (Below.refl _ _).alloc (Nat.le_refl _) _
      have hbjm := hbl.trans (hbm.mono hbl.size)
      have HBM := Zhd (HBJ.out.trans (hbjm.mono HBJ.out.size))
      have HMM := Zhd (HMJ.out.below hbjm)
      have hbx := (hbjm.block _ hwj).trans hbx
      have hbr := heap_alloc_new wl (.cells #[.slice ao2 xo.length co2, .bool xa, .bool xt, .slice ac2 xc.length cc2] 68)
      have HTR := Zhd ((⟨htk.outs, htk.checks⟩ : TkV (Zag wl) ⟨xo, xa, xt, xc⟩ _ _).le (Zaz (Zbe hbm)))
      have HTX := Zhd (HKT.out.le (Kn.le_trans HEJ.out (Zaz HMM.out.isin)))
      have HHM := Zhd HMM.out.isin
      clear hbl htk hbm hbk m0 m1 m2 m3 m4 htick HNW HMJ HBJ
      go_wp2_with fail
      generalize wl.alloc (.cells #[.slice ao2 xo.length co2, .bool xa, .bool xt, .slice ac2 xc.length cc2] 68) = Wm at *
      obtain ⟨⟨x0, x1, x2, x3, _, _⟩, _⟩ := And.intro (Zb0 hbx) trivial
      obtain ⟨⟨y0, y1, y2, y3, _, _⟩, _⟩ := And.intro (Zb0 hbr) trivial
      rw [← Zad] at x0 x1 x2 x3 y0 y1 y2 y3
      have hSD : (Zag Wm).In Wm.drew := (Za0 Wm).below (Below.refl _ _).drew
      refine Zae (fun w' => (Zag Wm).In w') (fun _ => True) 99 (by kernel_rfl) ?_
      refine Go.w3 0 ?_
      iterate 4 ((first | (refine tk3 (v := ?_) rfl hSD Ztr ?hy ?_; (case hy => exact mSgo1)) | refine sk3 rfl hSD Ztr ?_ | refine no3 ?_); refine Zss ?_)
      refine Go.w3e ?_
      refine Go.w3 8 ?_
      iterate 1 ((first | (refine tk3 (v := ?_) rfl hSD Ztr ?hy ?_; (case hy => exact mSgo1)) | refine sk3 rfl hSD Ztr ?_ | refine no3 ?_); refine Zss ?_)
      refine Go.w3e ?_
      refine Zwo 4 rfl fun K_ hK => ?_
      go_simp
      have hb4 := (Below.refl Wm.drew.heap.size Wm.drew).alloc (Nat.le_refl _) (.cells #[.slice aov xo.length cov, .bool xa, .bool xt, .slice acv xc.length ccv] 62)
      have hS4 := hSD.below hb4
      have hv4 := tks_one (t := ⟨xo, xa, xt, xc⟩) (heap_alloc_new Wm.drew (.cells #[.slice aov xo.length cov, .bool xa, .bool xt, .slice acv xc.length ccv] 62)) (HTX.out.le (Zaz hS4))
      refine hK.out _ _ (hS4) Ztr ?_
      clear hK K_
      try simp only [tkS]
      refine Zwo 5 rfl fun K_ hK => ?_
      go_simp
      go_at_call 14
      refine (ticksOf_any (Zag (Wm.drew.alloc (.cells #[.slice aov xo.length cov, .bool xa, .bool xt, .slice acv xc.length ccv] 62))) _ _ hv4 (by simp) _ (Za0 _)).mono ?_
      rintro r wn ⟨vn, Kn5, rfl, hvn, hstn⟩
      have hS5 := hS4.below hstn.below
      obtain ⟨bn, fn, cn5, on, kn, rfl, n0, n1, n2, n3, hTn⟩ := tks_at hvn
      have n0 := hstn.isin.cell n0
      have n1 := hstn.isin.cell n1
      have n2 := hstn.isin.cell n2
      have n3 := hstn.isin.cell n3
      refine hK.out _ _ (hS5) Ztr ?_
      clear hK K_
      try simp only [tkS]
      refine Zwo 6 rfl fun K_ hK => ?_
      go_simp
      refine hK.out _ _ (hS5) Ztr ?_
      clear hK K_
      try simp only [tkS]
      refine Zwo 7 rfl fun K_ hK => ?_
      go_simp
      refine hK.out _ _ (hS5) Ztr ?_
      clear hK K_
      try simp only [tkS]
      refine Zwo 9 rfl fun K_ hK => ?_
      go_simp
      go_at_call 27
      refine (Zjl (Zag wn) ⟨xo, xa, xt, xc⟩ _ _ _ _ (hTn.le (Zaz hstn.isin)) (HTR.out.le (Zaz hS5)) ⟨by simp; omega, by simp; omega⟩ wn (Za0 wn)).mono ?_
      rintro r wo ⟨rfl, hbo⟩
      have hS6 := hS5.below hbo
      refine hK.out _ _ (hS6) Ztr ?_
      clear hK K_
      try simp only [tkS]
      refine Go.w3 10 ?_
      iterate 2 ((first | (refine tk3 (v := ?_) rfl hS6 Ztr ?hy ?_; (case hy => exact mSgo1)) | refine sk3 rfl hS6 Ztr ?_ | refine no3 ?_); refine Zss ?_)
      refine Go.w3e ?_
      refine Zwd ?_
      have hbo6 := (Below.refl Wm.heap.size Wm).drew.trans ((hb4.trans ((hstn.below.trans (hbo.mono hstn.below.size)).mono hb4.size)).mono (Nat.le_refl _))
      have HMO := Zhd (HMM.out.below hbo6)
      have HBO := Zhd (HBM.out.trans (hbo6.mono HBM.out.size))
      have hbr := (hbo6.block _ (Zlt hbr)).trans hbr
      obtain ⟨⟨t0, t1, t2, t3, _, _⟩, _⟩ := And.intro (Zb0 hbr) trivial
      have HXS := Zhd hxs
      clear x0 x1 x2 x3 y0 y1 y2 y3 hSD hS4 hS5 hS6 hb4 hv4 hvn hstn n0 n1 n2 n3 hTn hbo hbo6 hbr hbx hxs
      cases xt
      case true =>
        have hxs := HXS.out
        rw [if_pos rfl] at hxs
        subst hxs
        go_wp2_with fail
        go_roundw
        case rel => exact ⟨k + 1, good, true, _, _, by go_num, by omega, rfl, HGJ.out, by omega, HGR.out, HLJ.out, HBO.out, HMO.out.lt, HMO.out⟩
        case measure => simp [intOf]; omega
      have hxs := HXS.out
      rw [if_neg (by simp)] at hxs
      subst hxs
      go_wp2_with fail
      go_roundw
      case rel => exact ⟨k + 1, good ++ [x], false, _, _, by go_num, by omega, rfl, HVJ.out, by simp; omega, HGN.out, HLJ.out, HBO.out, HMO.out.lt, HMO.out⟩
      case measure => simp [intOf]; omega
    · obtain rfl : k = ins.length := by omega
      go_wp2_with fail
      refine Zae (fun w' => K.In w') (fun _ => True) 99 (by kernel_rfl) ?_
      refine Go.w3 0 ?_
      iterate 1 ((first | (refine tk3 (v := ?_) rfl HMC.out.isin Ztr ?hy ?_; (case hy => exact mSgo2)) | refine sk3 rfl HMC.out.isin Ztr ?_ | refine no3 ?_); refine Zss ?_)
      refine Go.w3e ?_
      refine Go.w3 2 ?_
      iterate 4 ((first | (refine tk3 (v := ?_) rfl HMC.out.isin Ztr ?hy ?_; (case hy => exact mSgo2)) | refine sk3 rfl HMC.out.isin Ztr ?_ | refine no3 ?_); refine Zss ?_)
      refine Go.w3e ?_
      refine Zwo 1 rfl fun K_ hK => ?_
      go_simp
      go_at_call 19
      have hsm := state_any HMC.out (by omega)
      refine hsm.mono ?_
      rintro r wa ⟨va, rfl, hva, hba⟩
      clear hsm
      have hSa := HMC.out.isin.below hba
      refine hK.out _ _ (hSa) Ztr ?_
      clear hK K_
      try simp only [tkS]
      refine Zwo 6 rfl fun K_ hK => ?_
      go_simp
      go_at_call 20
      refine (HSO.out K (Kn.le_trans HKH.out HLK.out) good _ (by omega) HG.out HGR.out tr wa hSa).mono ?_
      rintro r wb ⟨vb, rfl, hvb, hbb⟩
      have hSb := hSa.below hbb
      refine hK.out _ _ (hSb) Ztr ?_
      clear hK K_
      try simp only [tkS]
      refine Zwo 7 rfl fun K_ hK => ?_
      go_simp
      go_at_call 18
      refine (sameVls_any (Zag wb) _ _ _ (SlV.le hva (Zaz ((newKn_in _ wa).below hbb)) VlC.mono) hvb (by simp [stateM]; omega) wb (Za0 wb)).mono ?_
      rintro r wc ⟨rfl, hbc⟩
      have hSc := hSb.below hbc
      refine hK.out _ _ (hSc) Ztr ?_
      clear hK K_
      try simp only [tkS]
      refine Go.w3 8 ?_
      iterate 1 ((first | (refine tk3 (v := ?_) rfl hSc Ztr ?hy ?_; (case hy => exact mSgo2)) | refine sk3 rfl hSc Ztr ?_ | refine no3 ?_); refine Zss ?_)
      refine Go.w3e ?_
      refine Zwd ?_
      have hbs := (Below.refl wr.heap.size wr).drew.trans ((hba.trans ((hbb.trans (hbc.mono hbb.size)).mono hba.size)).mono (Nat.le_refl _))
      have HBC := Zhd (HBW.out.trans (hbs.mono HBW.out.size))
      clear hSa hSb hSc hva hvb hba hbb hbc hbs
      go_wp2_with fail
      go_ret
      exact ⟨rfl, HBC.out⟩
end Go.Proofs.YtgoccoldkfpbgaaGreatDoor
