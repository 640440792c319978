/- Walks: lustrumref1: Result, KindOf. -/
import Derived.Test.YthejomlhmdeimaaDoorRfA
import Derived.Test.YthejomlhmdeimaaDoorKind
namespace Go.Proofs.YthejomlhmdeimaaDoor
set_option maxRecDepth 100000
set_option maxHeartbeats 16000000
open Go.RowKit Mx
theorem rresult_any (o : ByteArray) (l0 : (o.toList == [105, 110, 116]) = false) (l1 : (o.toList == [116, 114, 117, 101]) = false) (l2 : (o.toList == [102, 97, 108, 115, 101]) = false) (l3 : (o.toList == [110, 97, 109, 101]) = false) (k r0 r1 r2 rl : Int) (g m cap : Nat) (w : World) (hm : m ≤ 1000000000) (d0 : w.cell? ⟨g, 0, none⟩ = some (.int .i64 r0)) (dl : w.cell? ⟨g, m, none⟩ = some (.int .i64 rl))
  (hif : (o.toList == [105, 102]) = true → w.cell? ⟨g, 1, none⟩ = some (.int .i64 r1) ∧ w.cell? ⟨g, 2, none⟩ = some (.int .i64 r2) ∧ m = 2) :
  Calls Tryd.prog 92 #[.string o, .slice (some ⟨g, 0, none⟩) (m + 1) cap] w fun r w' => r = .returned (.int .i64 (kindW o k r0 r1 r2 (r0 == rl))) ∧ Below w.heap.size w w' := by
 have HIF := Lib.hid hif
 have HF := Lib.hid (show ∀ n, Below w.heap.size w (w.drewN n) from fun n => below_drewN (Below.refl _ _) n)
 clear hif
 obtain ⟨kw, hkw⟩ : ∃ x, kindW o k r0 r1 r2 (r0 == rl) = x := ⟨_, rfl⟩
 rw [hkw]
 have HK := Lib.hid hkw.symm
 clear hkw
 rcases Bool.eq_false_or_eq_true (o.toList == [105, 102]) with c0 | c0
 ·obtain ⟨d1, d2, hm2⟩ := HIF.out c0
  subst hm2
  have hrr : r2 = rl := by rw [d2] at dl; cases dl; rfl
  subst hrr
  clear dl
  rcases Bool.eq_false_or_eq_true (r0 == 1) with t0 | t0
  ·rcases Bool.eq_false_or_eq_true (r1 == r2) with t1 | t1
   ·have S0 : r0 = 1 := by simpa using t0
    have S1 : r1 = r2 := by simpa using t1
    subst S0
    subst S1
    go_enter Tryd.func92, Tryd.ntmps92
    go_wp2_with fail
    go_quiet (fail)
    go_wp2_with fail
    go_ret
    exact ⟨ret_int (by rw [HK.out]; unfold kindW; simp [l0, l1, l2, l3, c0]), HF.out _⟩
   ·have S0 : r0 = 1 := by simpa using t0
    have S1 : ¬ r1 = r2 := by simpa using t1
    subst S0
    go_enter Tryd.func92, Tryd.ntmps92
    go_wp2_with fail
    go_quiet (fail)
    go_wp2_with fail
    go_ret
    exact ⟨ret_int (by rw [HK.out]; unfold kindW; simp [l0, l1, l2, l3, c0, S1]), HF.out _⟩
  ·have S0 : ¬ r0 = 1 := by simpa using t0
   go_enter Tryd.func92, Tryd.ntmps92
   go_wp2_with fail
   go_quiet (fail)
   go_wp2_with fail
   go_ret
   exact ⟨ret_int (by rw [HK.out]; unfold kindW; simp [l0, l1, l2, l3, c0, S0]), HF.out _⟩
 rcases Bool.eq_false_or_eq_true (r0 == rl) with t | t
 ·have S : r0 = rl := by simpa using t
  subst S
  rw [t] at HK
  rcases Bool.eq_false_or_eq_true (o.toList == [112, 114, 101]) with c1 | c1
  ·have hc : o.toList = [112, 114, 101] := by simpa using c1
   clear HIF
   go_enter Tryd.func92, Tryd.ntmps92
   go_wp2_with fail
   go_ret
   exact ⟨ret_int (by rw [HK.out]; unfold kindW; simp [hc]), Below.refl _ _⟩
  rcases Bool.eq_false_or_eq_true (o.toList == [45, 62]) with c2 | c2
  ·have hc : o.toList = [45, 62] := by simpa using c2
   clear HIF
   go_enter Tryd.func92, Tryd.ntmps92
   go_wp2_with fail
   go_ret
   exact ⟨ret_int (by rw [HK.out]; unfold kindW; simp [hc]), Below.refl _ _⟩
  rcases Bool.eq_false_or_eq_true (o.toList == [102, 98, 121]) with c3 | c3
  ·have hc : o.toList = [102, 98, 121] := by simpa using c3
   clear HIF
   go_enter Tryd.func92, Tryd.ntmps92
   go_wp2_with fail
   go_ret
   exact ⟨ret_int (by rw [HK.out]; unfold kindW; simp [hc]), Below.refl _ _⟩
  rcases Bool.eq_false_or_eq_true (o.toList == [61]) with c4 | c4
  ·have hc : o.toList = [61] := by simpa using c4
   clear HIF
   go_enter Tryd.func92, Tryd.ntmps92
   go_wp2_with fail
   go_ret
   exact ⟨ret_int (by rw [HK.out]; unfold kindW; simp [hc]), Below.refl _ _⟩
  rcases Bool.eq_false_or_eq_true (o.toList == [60, 62]) with c5 | c5
  ·have hc : o.toList = [60, 62] := by simpa using c5
   clear HIF
   go_enter Tryd.func92, Tryd.ntmps92
   go_wp2_with fail
   go_ret
   exact ⟨ret_int (by rw [HK.out]; unfold kindW; simp [hc]), Below.refl _ _⟩
  rcases Bool.eq_false_or_eq_true (o.toList == [110, 111, 116]) with c6 | c6
  ·rcases Bool.eq_false_or_eq_true (r0 == 1) with u | u
   ·have U : r0 = 1 := by simpa using u
    subst U
    have hc : o.toList = [110, 111, 116] := by simpa using c6
    clear HIF
    go_enter Tryd.func92, Tryd.ntmps92
    go_wp2_with fail
    go_ret
    exact ⟨ret_int (by rw [HK.out]; unfold kindW; simp [hc]), Below.refl _ _⟩
   ·have U : ¬ r0 = 1 := by simpa using u
    have hc : o.toList = [110, 111, 116] := by simpa using c6
    clear HIF
    go_enter Tryd.func92, Tryd.ntmps92
    go_wp2_with fail
    go_ret
    exact ⟨ret_int (by rw [HK.out]; unfold kindW; simp [hc, U]), Below.refl _ _⟩
  rcases Bool.eq_false_or_eq_true (o.toList == [97, 110, 100]) with c7 | c7
  ·rcases Bool.eq_false_or_eq_true (r0 == 1) with u | u
   ·have U : r0 = 1 := by simpa using u
    subst U
    have hc : o.toList = [97, 110, 100] := by simpa using c7
    clear HIF
    go_enter Tryd.func92, Tryd.ntmps92
    go_wp2_with fail
    go_ret
    exact ⟨ret_int (by rw [HK.out]; unfold kindW; simp [hc]), Below.refl _ _⟩
   ·have U : ¬ r0 = 1 := by simpa using u
    have hc : o.toList = [97, 110, 100] := by simpa using c7
    clear HIF
    go_enter Tryd.func92, Tryd.ntmps92
    go_wp2_with fail
    go_ret
    exact ⟨ret_int (by rw [HK.out]; unfold kindW; simp [hc, U]), Below.refl _ _⟩
  rcases Bool.eq_false_or_eq_true (o.toList == [111, 114]) with c8 | c8
  ·rcases Bool.eq_false_or_eq_true (r0 == 1) with u | u
   ·have U : r0 = 1 := by simpa using u
    subst U
    have hc : o.toList = [111, 114] := by simpa using c8
    clear HIF
    go_enter Tryd.func92, Tryd.ntmps92
    go_wp2_with fail
    go_ret
    exact ⟨ret_int (by rw [HK.out]; unfold kindW; simp [hc]), Below.refl _ _⟩
   ·have U : ¬ r0 = 1 := by simpa using u
    have hc : o.toList = [111, 114] := by simpa using c8
    clear HIF
    go_enter Tryd.func92, Tryd.ntmps92
    go_wp2_with fail
    go_ret
    exact ⟨ret_int (by rw [HK.out]; unfold kindW; simp [hc, U]), Below.refl _ _⟩
  rcases Bool.eq_false_or_eq_true (o.toList == [120, 111, 114]) with c9 | c9
  ·rcases Bool.eq_false_or_eq_true (r0 == 1) with u | u
   ·have U : r0 = 1 := by simpa using u
    subst U
    have hc : o.toList = [120, 111, 114] := by simpa using c9
    clear HIF
    go_enter Tryd.func92, Tryd.ntmps92
    go_wp2_with fail
    go_ret
    exact ⟨ret_int (by rw [HK.out]; unfold kindW; simp [hc]), Below.refl _ _⟩
   ·have U : ¬ r0 = 1 := by simpa using u
    have hc : o.toList = [120, 111, 114] := by simpa using c9
    clear HIF
    go_enter Tryd.func92, Tryd.ntmps92
    go_wp2_with fail
    go_ret
    exact ⟨ret_int (by rw [HK.out]; unfold kindW; simp [hc, U]), Below.refl _ _⟩
  rcases Bool.eq_false_or_eq_true (o.toList == [61, 62]) with c10 | c10
  ·rcases Bool.eq_false_or_eq_true (r0 == 1) with u | u
   ·have U : r0 = 1 := by simpa using u
    subst U
    have hc : o.toList = [61, 62] := by simpa using c10
    clear HIF
    go_enter Tryd.func92, Tryd.ntmps92
    go_wp2_with fail
    go_ret
    exact ⟨ret_int (by rw [HK.out]; unfold kindW; simp [hc]), Below.refl _ _⟩
   ·have U : ¬ r0 = 1 := by simpa using u
    have hc : o.toList = [61, 62] := by simpa using c10
    clear HIF
    go_enter Tryd.func92, Tryd.ntmps92
    go_wp2_with fail
    go_ret
    exact ⟨ret_int (by rw [HK.out]; unfold kindW; simp [hc, U]), Below.refl _ _⟩
  rcases Bool.eq_false_or_eq_true (o.toList == [60]) with c11 | c11
  ·rcases Bool.eq_false_or_eq_true (r0 == 2) with u | u
   ·have U : r0 = 2 := by simpa using u
    subst U
    have hc : o.toList = [60] := by simpa using c11
    clear HIF
    go_enter Tryd.func92, Tryd.ntmps92
    go_wp2_with fail
    go_ret
    exact ⟨ret_int (by rw [HK.out]; unfold kindW; simp [hc]), Below.refl _ _⟩
   ·have U : ¬ r0 = 2 := by simpa using u
    have hc : o.toList = [60] := by simpa using c11
    clear HIF
    go_enter Tryd.func92, Tryd.ntmps92
    go_wp2_with fail
    go_ret
    exact ⟨ret_int (by rw [HK.out]; unfold kindW; simp [hc, U]), Below.refl _ _⟩
  rcases Bool.eq_false_or_eq_true (o.toList == [60, 61]) with c12 | c12
  ·rcases Bool.eq_false_or_eq_true (r0 == 2) with u | u
   ·have U : r0 = 2 := by simpa using u
    subst U
    have hc : o.toList = [60, 61] := by simpa using c12
    clear HIF
    go_enter Tryd.func92, Tryd.ntmps92
    go_wp2_with fail
    go_ret
    exact ⟨ret_int (by rw [HK.out]; unfold kindW; simp [hc]), Below.refl _ _⟩
   ·have U : ¬ r0 = 2 := by simpa using u
    have hc : o.toList = [60, 61] := by simpa using c12
    clear HIF
    go_enter Tryd.func92, Tryd.ntmps92
    go_wp2_with fail
    go_ret
    exact ⟨ret_int (by rw [HK.out]; unfold kindW; simp [hc, U]), Below.refl _ _⟩
  rcases Bool.eq_false_or_eq_true (o.toList == [62]) with c13 | c13
  ·rcases Bool.eq_false_or_eq_true (r0 == 2) with u | u
   ·have U : r0 = 2 := by simpa using u
    subst U
    have hc : o.toList = [62] := by simpa using c13
    clear HIF
    go_enter Tryd.func92, Tryd.ntmps92
    go_wp2_with fail
    go_ret
    exact ⟨ret_int (by rw [HK.out]; unfold kindW; simp [hc]), Below.refl _ _⟩
   ·have U : ¬ r0 = 2 := by simpa using u
    have hc : o.toList = [62] := by simpa using c13
    clear HIF
    go_enter Tryd.func92, Tryd.ntmps92
    go_wp2_with fail
    go_ret
    exact ⟨ret_int (by rw [HK.out]; unfold kindW; simp [hc, U]), Below.refl _ _⟩
  rcases Bool.eq_false_or_eq_true (o.toList == [62, 61]) with c14 | c14
  ·rcases Bool.eq_false_or_eq_true (r0 == 2) with u | u
   ·have U : r0 = 2 := by simpa using u
    subst U
    have hc : o.toList = [62, 61] := by simpa using c14
    clear HIF
    go_enter Tryd.func92, Tryd.ntmps92
    go_wp2_with fail
    go_ret
    exact ⟨ret_int (by rw [HK.out]; unfold kindW; simp [hc]), Below.refl _ _⟩
   ·have U : ¬ r0 = 2 := by simpa using u
    have hc : o.toList = [62, 61] := by simpa using c14
    clear HIF
    go_enter Tryd.func92, Tryd.ntmps92
    go_wp2_with fail
    go_ret
    exact ⟨ret_int (by rw [HK.out]; unfold kindW; simp [hc, U]), Below.refl _ _⟩
  rcases Bool.eq_false_or_eq_true (r0 == 2) with u | u
  ·have U : r0 = 2 := by simpa using u
   subst U
   go_enter Tryd.func92, Tryd.ntmps92
   go_wp2_with fail
   go_ret
   exact ⟨ret_int (by rw [HK.out]; unfold kindW; simp [l0, l1, l2, l3, c0, c1, c2, c3, c4, c5, c6, c7, c8, c9, c10, c11, c12, c13, c14]), Below.refl _ _⟩
  ·have U : ¬ r0 = 2 := by simpa using u
   go_enter Tryd.func92, Tryd.ntmps92
   go_wp2_with fail
   go_ret
   exact ⟨ret_int (by rw [HK.out]; unfold kindW; simp [l0, l1, l2, l3, c0, c1, c2, c3, c4, c5, c6, c7, c8, c9, c10, c11, c12, c13, c14, U]), Below.refl _ _⟩
 ·have S : ¬ r0 = rl := by simpa using t
  have tn : (r0 == rl) = false := t
  rw [t] at HK
  go_enter Tryd.func92, Tryd.ntmps92
  go_wp2_with fail
  go_ret
  exact ⟨ret_int (by rw [HK.out]; unfold kindW; simp [l0, l1, l2, l3, c0]), Below.refl _ _⟩
end Go.Proofs.YthejomlhmdeimaaDoor
namespace Go.Proofs.YthejomlhmdeimaaDoor
set_option maxRecDepth 100000
set_option maxHeartbeats 16000000
open Go.RowKit Mx
theorem arity_lit (o : ByteArray) (k : Int) (h : arity o = some k) (hk : k = 0) : (o.toList == [105, 110, 116]) = true ∨ (o.toList == [116, 114, 117, 101]) = true ∨ (o.toList == [102, 97, 108, 115, 101]) = true ∨ (o.toList == [110, 97, 109, 101]) = true := by
 subst hk
 unfold arity at h
 by_cases h1 : o = oInt ∨ o = oTrue ∨ o = oFalse ∨ o = oName
 ·simp only [eqLit] at h1
  exact h1
 ·rw [if_neg h1] at h
  by_cases h2 : o = oNot ∨ o = oNeg ∨ o = oPre
  ·rw [if_pos h2] at h; simp at h
  ·rw [if_neg h2] at h
   by_cases h3 : o = oIf
   ·rw [if_pos h3] at h; simp at h
   ·rw [if_neg h3] at h
    by_cases h4 : o = oCall
    ·rw [if_pos h4] at h; simp at h
    ·rw [if_neg h4] at h
     by_cases h5 : o = oArrow ∨ o = oFby
     ·rw [if_pos h5] at h; simp at h
     ·rw [if_neg h5] at h
      split at h <;> simp at h
theorem formed_len {ks : Env Int} {o : ByteArray} {n : Int} {s : ByteArray} {l : List Ex} (h : formAll ks (.mk o n s l) = true) :
  (arity o = some (l.length : Int)) ∧ (∀ x ∈ l, formAll ks x = true) := by
 simp only [formAll, Bool.and_eq_true] at h
 obtain ⟨⟨⟨h1, h2⟩, _⟩, h4⟩ := h
 refine ⟨?_, fun x hx => by rw [formAllL_all] at h4; exact List.all_eq_true.1 h4 x hx⟩
 unfold form at h1
 simp only [Ex.op, Ex.l] at h1
 have hne : o ≠ oCall := by simpa using h2
 cases ha : arity o with
 | none => rw [ha] at h1; simp at h1
 | some k =>
  rw [ha] at h1
  simp only [Bool.and_eq_true, Bool.or_eq_true, decide_eq_true_eq] at h1
  rcases h1.1.1 with hk | hk
  ·exfalso
   unfold arity at ha
   by_cases c1 : o = oInt ∨ o = oTrue ∨ o = oFalse ∨ o = oName
   ·rw [if_pos c1] at ha; simp at ha; omega
   ·rw [if_neg c1] at ha
    by_cases c2 : o = oNot ∨ o = oNeg ∨ o = oPre
    ·rw [if_pos c2] at ha; simp at ha; omega
    ·rw [if_neg c2] at ha
     by_cases c3 : o = oIf
     ·rw [if_pos c3] at ha; simp at ha; omega
     ·rw [if_neg c3, if_neg hne] at ha
      by_cases c5 : o = oArrow ∨ o = oFby
      ·rw [if_pos c5] at ha; simp at ha; omega
      ·rw [if_neg c5] at ha
       by_cases c6 : (levels.any fun l => l.contains o) = true
       ·rw [if_pos c6] at ha; simp at ha; omega
       ·rw [if_neg c6] at ha; simp at ha
  ·have : k = (l.length : Int) := of_decide_eq_true hk
   rw [this]
theorem if_len {o : ByteArray} {k : Int} (h : arity o = some k) (ho : (o.toList == [105, 102]) = true) : k = 3 := by
 have : o = oIf := by have h1 := eqLit o [105, 102]; exact h1.mpr ho
 subst this
 have h2 : arity oIf = some 3 := by decide
 rw [h2] at h
 simp at h
 exact h.symm
theorem rkind_any (H : Kn) (V : List Vr) (vv : Value) (hV : VrsV H V vv) (hVl : V.length ≤ 1000000000) : ∀ (e : Ex) (v : Value), ExV H e v → e.parts ≤ 1000000000 → formAll (ksOf V) e = true → ∀ w : World, H.In w →
  Calls Tryd.prog 76 #[v, vv] w fun r w' => r = .returned (.int .i64 (kindOf (ksOf V) e)) ∧ Below w.heap.size w w' := by
 obtain ⟨av, cv, rfl⟩ := hV.len
 have HVV := Lib.hid hV
 clear hV
 refine Ex.ind fun o n s l ih v hv hp hf w hH => ?_
 obtain ⟨hal, hall⟩ := formed_len hf
 obtain ⟨u, rfl, hu⟩ := hv
 simp only [Ex.op, Ex.n, Ex.s, Ex.l] at hu ⊢
 simp only [Ex.parts] at hp
 obtain ⟨a, cap, rfl⟩ := hu.len
 have hll := len_partsL l
 have HU := Lib.hid hu
 have IH := Lib.hid ih
 have HALL := Lib.hid hall
 clear hu ih hf hall
 have hb0 : Below w.heap.size w (w.alloc (.cells #[.string o, .int .i64 n, .string s, .slice a l.length cap] 24)) := (Below.refl _ _).alloc (Nat.le_refl _) _
 have hq : ∀ i, (w.alloc (.cells #[.string o, .int .i64 n, .string s, .slice a l.length cap] 24)).cell? ⟨w.heap.size, i, none⟩ = (#[.string o, .int .i64 n, .string s, .slice a l.length cap] : Array Value)[i]? := fun i => World.cell?_alloc_new _ _ _ _
 have hlt1 : w.heap.size < (w.alloc (.cells #[.string o, .int .i64 n, .string s, .slice a l.length cap] 24)).heap.size := by simp
 have hgz : ((ksOf V) s).getD 0 = kindInV V s := by unfold ksOf; by_cases h : kindInV V s = 0 <;> simp [h]
 have HGZ := Lib.hid hgz
 have HB0 := Lib.hid hb0
 have HQ := Lib.hid hq
 have KI := Lib.hid (fun w2 (h : H.In w2) => kindIn_any H _ V s w2 HVV.out hVl h)
 clear hgz hb0 hq
 have leaf : l = [] → kindOf (ksOf V) (.mk o n s l) = kindBy o (kindInV V s) [] := fun h => by subst h; rw [kindOf_by _ _ _ _ _ (by simp [kindsOf]), HGZ.out]; rfl
 have hnil : ∀ k : Int, arity o = some k → k = 0 → l = [] := fun k h1 h2 => by rw [hal] at h1; simp at h1; exact List.eq_nil_of_length_eq_zero (by omega)
 have LF := Lib.hid leaf
 have HN := Lib.hid hnil
 clear leaf hnil
 have e0 : ∀ i, i < 4 → (w.alloc (.cells #[.string o, .int .i64 n, .string s, .slice a l.length cap] 24)).cell? ⟨w.heap.size, i, none⟩ = (#[.string o, .int .i64 n, .string s, .slice a l.length cap] : Array Value)[i]? := fun i _ => HQ.out i
 have g0 := HQ.out 0
 have g2 := HQ.out 2
 have g3 := Lib.hid (HQ.out 3)
 simp only [List.getElem?_toArray] at g0 g2
 clear e0
 rcases Bool.eq_false_or_eq_true (o.toList == [105, 110, 116]) with l0 | l0
 ·have ho : o = oInt := (eqLit o [105, 110, 116]).mpr l0
  have hl := HN.out 0 (by rw [ho]; decide) rfl
  have HR := Lib.hid (show kindOf (ksOf V) (.mk o n s l) = 2 by rw [LF.out hl, ho]; rfl)
  clear ho hl
  go_enter Tryd.func76, Tryd.ntmps76
  go_wp2_with fail
  go_ret
  exact ⟨ret_int HR.out.symm, HB0.out⟩
 rcases Bool.eq_false_or_eq_true (o.toList == [116, 114, 117, 101]) with l1 | l1
 ·have ho : o = oTrue := (eqLit o [116, 114, 117, 101]).mpr l1
  have hl := HN.out 0 (by rw [ho]; decide) rfl
  have HR := Lib.hid (show kindOf (ksOf V) (.mk o n s l) = 1 by rw [LF.out hl, ho]; rfl)
  clear ho hl
  go_enter Tryd.func76, Tryd.ntmps76
  go_wp2_with fail
  go_ret
  exact ⟨ret_int HR.out.symm, HB0.out⟩
 rcases Bool.eq_false_or_eq_true (o.toList == [102, 97, 108, 115, 101]) with l2 | l2
 ·have ho : o = oFalse := (eqLit o [102, 97, 108, 115, 101]).mpr l2
  have hl := HN.out 0 (by rw [ho]; decide) rfl
  have HR := Lib.hid (show kindOf (ksOf V) (.mk o n s l) = 1 by rw [LF.out hl, ho]; rfl)
  clear ho hl
  go_enter Tryd.func76, Tryd.ntmps76
  go_wp2_with fail
  go_ret
  exact ⟨ret_int HR.out.symm, HB0.out⟩
 rcases Bool.eq_false_or_eq_true (o.toList == [110, 97, 109, 101]) with l3 | l3
 ·have ho : o = oName := (eqLit o [110, 97, 109, 101]).mpr l3
  have hl := HN.out 0 (by rw [ho]; decide) rfl
  have HR := Lib.hid (show kindOf (ksOf V) (.mk o n s l) = kindInV V s by rw [LF.out hl, ho]; rfl)
  clear ho hl
  have hH1 := hH.below HB0.out
  have KI1 := KI.out _ hH1
  generalize kindInV V s = kk at *
  go_enter Tryd.func76, Tryd.ntmps76
  go_wp2_with (go_at_call 73; refine (KI1).mono ?_; rintro r w2 ⟨rfl, rfl⟩)
  go_ret
  exact ⟨ret_int HR.out.symm, HB0.out⟩
 have hm : ∃ m', l.length = m' + 1 := by
  cases hlen : l.length with
  | succ m => exact ⟨m, rfl⟩
  | zero =>
   exfalso
   rcases arity_lit o _ hal (by omega) with h | h | h | h
   ·rw [l0] at h; cases h
   ·rw [l1] at h; cases h
   ·rw [l2] at h; cases h
   ·rw [l3] at h; cases h
 obtain ⟨m', hm⟩ := hm
 have HL := Lib.hid hm
 have HAL := Lib.hid hal
 clear hal hm KI LF HN
 go_enter Tryd.func76, Tryd.ntmps76
 go_wp2_with fail
 generalize w.alloc (.cells #[.string o, .int .i64 n, .string s, .slice a l.length cap] 24) = W at *
 clear g2
 have G0 := Lib.hid g0
 clear g0
 go_loopw [4, 5, 6] (fun _ c i wr => ∃ k : Nat, i = .int .i64 k ∧ k ≤ l.length ∧ wr.ownsRow W.heap.size 3 1 c k ((kindsOf (ksOf V) (l.take k)).map (Value.int .i64)) ∧ Below W.heap.size W wr ∧ (0 : Int) ∉ kindsOf (ksOf V) (l.take k)) (fun _ _ i _ => l.length - (intOf i).toNat)
 case atStart => exact ⟨0, rfl, Nat.zero_le _, World.ownsRow_nil _ _ _ _, Below.refl _ _, by simp [kindsOf]⟩
 case round =>
  obtain ⟨k, rfl, hk, hown, hb, h0⟩ := hrel
  have HB := Lib.hid hb
  have H0 := Lib.hid h0
  have HBW := Lib.hid (HB0.out.trans (hb.mono HB0.out.size))
  have q3 : wr.cell? ⟨w.heap.size, 3, none⟩ = some (.slice a l.length cap) := by rw [hb.cell (p := ⟨w.heap.size, 3, none⟩) hlt1]; exact g3.out
  clear h0 hb
  by_cases hkl : k < l.length
  ·obtain ⟨b, off, ax, cx, rfl, c0, c1, c2, c3, hx⟩ := HU.out.at hkl
   have hHr := hH.below HBW.out
   have c0 := hHr.cell c0
   have c1 := hHr.cell c1
   have c2 := hHr.cell c2
   have c3 := hHr.cell c3
   have hpx : l[k].parts ≤ 1000000000 := by have := getElem_parts l k hkl; omega
   have hmem := List.getElem_mem hkl
   have hfx := HALL.out _ hmem
   have KT := Lib.hid (kindsOf_take (ksOf V) l k hkl)
   have KZ := Lib.hid (kindOf_zero (ksOf V) o n s l k hkl)
   generalize l[k] = x at *
   obtain ⟨c', cap', rfl, hcm, hkc⟩ := own_len hown
   go_wp2_with fail
   refine (IH.out x hmem _ hx hpx hfx _ hHr).mono ?_
   rintro r w2 ⟨rfl, hb2⟩
   have hb2' : Below W.heap.size W w2 := HB.out.trans (hb2.mono HB.out.size)
   have hown2 := own_below hown hb2
   have hfin : Below w.heap.size w w2 := HBW.out.trans (hb2.mono HBW.out.size)
   by_cases hx0 : kindOf (ksOf V) x = 0
   ·have KE := Lib.hid (KZ.out hx0)
    have hx0' : (kindOf (ksOf V) x == 0) = true := by simpa using hx0
    clear hx0
    generalize kindOf (ksOf V) x = kx at *
    go_wp2_with fail
    go_ret
    exact ⟨ret_int KE.out.symm, hfin⟩
   ·have HX0 := Lib.hid hx0
    have hx0' : (kindOf (ksOf V) x == 0) = false := by simpa using hx0
    clear hx0
    generalize kindOf (ksOf V) x = kx at *
    go_wp2_with (at_builtin; refine app1 101 3 1 8 _ Tryd.underlying101 Tryd.infoInt rfl (by decide) _ _ rfl rfl W.heap.size _ _ _ rfl (hown2.alloc _) ⟨w2.heap.size, 0, none⟩ 1 [.int .i64 kx] rfl rfl ?c1 ?c2 ?c3 ?c4 ?c5 ?_)
    case c1 => exact cells1 _ _ _
    case c2 => simp [Value.oneCell']
    case c3 => omega
    case c4 => omega
    case c5 => have := hb2'.size; simp; omega
    intro v' w3 hown3 hg3
    have hb3 : Below W.heap.size W w3 := (hb2'.alloc hb2'.size _).grown hg3 (by have := hb2'.size; simp; omega) (fun j hj => (hown2.lt j hj).1)
    go_wp2_with fail
    go_roundw
    case rel => exact ⟨k + 1, by go_num, by omega, by rw [KT.out, List.map_append]; exact hown3, hb3, by rw [KT.out]; intro hc; rcases List.mem_append.1 hc with h | h; exact H0.out h; simp at h; exact HX0.out h.symm⟩
    case measure => simp [intOf]; omega
  ·obtain rfl : k = l.length := by omega
   rw [List.take_of_length_le (Nat.le_refl _)] at hown
   have HNZ := Lib.hid (show (0 : Int) ∉ kindsOf (ksOf V) l from by have := H0.out; rw [List.take_of_length_le (Nat.le_refl _)] at this; exact this)
   have HKL := Lib.hid (show (kindsOf (ksOf V) l).length = m' + 1 from by rw [kindsOf_length, HL.out])
   rw [HL.out] at hown
   obtain ⟨g, cap', rfl, hcap, hcm, hcells⟩ := row_cells hown HKL.out (by omega)
   have hlast := getLastD_get _ _ HKL.out
   have hK := (kindOf_by (ksOf V) o n s l HNZ.out).trans (kindBy_walk o (((ksOf V) s).getD 0) (kindsOf (ksOf V) l))
   rw [HKL.out, hlast, show decide (0 < m' + 1) = true from by simp, Bool.true_and, show (kindsOf (ksOf V) l).headD 0 = (kindsOf (ksOf V) l).getD 0 0 from by cases kindsOf (ksOf V) l <;> rfl] at hK
   have d0 := hcells 0 (by omega)
   have dl := hcells m' (by omega)
   have HIF := Lib.hid (show (o.toList == [105, 102]) = true → wr.cell? ⟨g, 1, none⟩ = some (.int .i64 ((kindsOf (ksOf V) l).getD 1 0)) ∧ wr.cell? ⟨g, 2, none⟩ = some (.int .i64 ((kindsOf (ksOf V) l).getD 2 0)) ∧ m' = 2 from fun e4 => by
    have h3 := if_len HAL.out e4
    have h4 := HL.out
    exact ⟨hcells 1 (by omega), hcells 2 (by omega), by omega⟩)
   have hs20 := (fun x y : Int => show (x == y) = decide (x = y) from by by_cases h : x = y <;> simp [h]) ((kindsOf (ksOf V) l).getD 0 0) ((kindsOf (ksOf V) l).getD m' 0)
   rw [← hs20] at hK
   have HK := Lib.hid hK
   have hml : m' ≤ 1000000000 := by have := HL.out; omega
   have q0 : wr.cell? ⟨w.heap.size, 0, none⟩ = some (.string o) := by rw [HB.out.cell (p := ⟨w.heap.size, 0, none⟩) hlt1]; exact G0.out
   have HRES := Lib.hid (rresult_any o l0 l1 l2 l3 (((ksOf V) s).getD 0) ((kindsOf (ksOf V) l).getD 0 0) ((kindsOf (ksOf V) l).getD 1 0) ((kindsOf (ksOf V) l).getD 2 0) ((kindsOf (ksOf V) l).getD m' 0) g m' cap' wr hml d0 dl HIF.out)
   clear hlast hK hs20 hcells d0 dl
   go_wp2_with fail
   refine HRES.out.mono ?_
   rintro r w2 ⟨rfl, hb2⟩
   go_wp2_with fail
   go_ret
   exact ⟨ret_int HK.out.symm, HBW.out.trans (hb2.mono HBW.out.size)⟩
end Go.Proofs.YthejomlhmdeimaaDoor
