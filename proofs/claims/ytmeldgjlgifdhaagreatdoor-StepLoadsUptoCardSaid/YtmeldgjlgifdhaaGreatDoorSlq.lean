/- Plain: states of machines: what is right to a machine's kinds is what it has when it is put into it: no program in sight. -/
import Derived.Test.YtmeldgjlgifdhaaGreatDoorFxM
import Derived.Test.YtmeldgjlgifdhaaGreatDoorVsA
import Derived.BigQuiet
namespace Go.Proofs.YtmeldgjlgifdhaaGreatDoor
set_option maxRecDepth 100000
set_option maxHeartbeats 16000000
open Mx
theorem state_put {ks : Env Int} {p : Pr} {l : List Vl} (h : rightTo (kindsL ks p) l l.length = true) : stateM (putM l) = l := by
 unfold rightTo at h
 simp only [Bool.and_eq_true, decide_eq_true_eq, List.all_eq_true, List.mem_range] at h
 obtain ⟨h1, h2⟩ := h
 cases l with
 | nil => simp [kindsL] at h1
 | cons x l =>
  have h0 := h2 0 (by simp)
  obtain ⟨k, n⟩ := x
  simp only [kindsL, rightV, List.getD_cons_zero, Bool.and_eq_true, decide_eq_true_eq, if_true, Bool.or_eq_true] at h0
  obtain ⟨rfl, h3 | h3⟩ := h0
  ·subst h3; simp [stateM, putM, tv]
  ·subst h3; simp [stateM, putM, tv]
theorem right_kinds {K : List Int} {S : List Vl} (h : rightTo K S S.length = true) : S.length = K.length ∧ ∀ i (hi : i < S.length), S[i].kind = K.getD i 0 := by
 unfold rightTo at h
 simp only [Bool.and_eq_true, decide_eq_true_eq, List.all_eq_true, List.mem_range] at h
 obtain ⟨h1, h2⟩ := h
 refine ⟨h1, fun i hi => ?_⟩
 have := h2 i hi
 unfold rightV at this
 simp only [Bool.and_eq_true, decide_eq_true_eq] at this
 rw [← this.1, List.getD_eq_getElem?_getD, List.getElem?_eq_getElem hi]
 rfl
theorem rightTo_zero (K : List Int) (l : List Vl) : rightTo K l 0 = decide (l.length = K.length) := by simp [rightTo]
theorem rightTo_len {K : List Int} {l : List Vl} {k : Nat} (h : rightTo K l k = true) : l.length = K.length := by
 unfold rightTo at h
 simp only [Bool.and_eq_true, decide_eq_true_eq] at h
 exact h.1
theorem rightTo_more {K : List Int} {l S : List Vl} {k : Nat} (h : rightTo K l k = true) (hS : rightTo K S S.length = true) (hk : k < l.length) (hk2 : k < S.length) : rightTo K l (k + 1) = rightV ⟨l[k].kind, l[k].n⟩ S[k].kind := by
 rw [rightTo_succ, h, (right_kinds hS).2 k hk2, List.getD_eq_getElem?_getD, List.getElem?_eq_getElem hk]
 rfl
end Go.Proofs.YtmeldgjlgifdhaaGreatDoor
namespace Go.Proofs.YtmeldgjlgifdhaaGreatDoor
set_option maxRecDepth 100000
set_option maxHeartbeats 16000000
open Go.RowKit Mx
theorem sameVls_any (H : Kn) (l : List Vl) (v1 v2 : Value) (h1 : VlsV H l v1) (h2 : VlsV H l v2) (hl : l.length ≤ 1000000000) (w : World) (hH : H.In w) :
  Calls Tryz.prog 19 #[v1, v2] w fun r w' => r = .returned (.bool true) ∧ Below w.heap.size w w' := by
 obtain ⟨a1, c1, rfl⟩ := h1.len
 obtain ⟨a2, c2, rfl⟩ := h2.len
 have V1 := Lib.hid h1
 have V2 := Lib.hid h2
 clear h1 h2
 go_enter Tryz.func19, Tryz.ntmps19
 go_wp2_with fail
 go_loopw [5] (fun i wr => ∃ k : Nat, i = .int .i64 k ∧ k ≤ l.length ∧ Below w.heap.size w wr) (fun i _ => l.length - (intOf i).toNat)
 case atStart => exact ⟨0, rfl, Nat.zero_le _, Below.refl _ _⟩
 case round =>
  obtain ⟨k, rfl, hk, hb⟩ := hrel
  have HB := Lib.hid hb
  clear hb
  by_cases hkl : k < l.length
  ·obtain ⟨b1, f1, e1, x0, x1⟩ := vl_at2 V1.out hkl
   obtain ⟨b2, f2, e2, y0, y1⟩ := vl_at2 V2.out hkl
   subst e1
   subst e2
   have x0 := (hH.below HB.out).cell x0
   have x1 := (hH.below HB.out).cell x1
   have y0 := (hH.below HB.out).cell y0
   have y1 := (hH.below HB.out).cell y1
   generalize l[k].kind = xk at *
   generalize l[k].n = xn at *
   have HB2 := Lib.hid HB.out.drew
   go_wp2_with fail
   go_quiet (fail)
   go_wp2_with fail
   go_roundw
   case rel => exact ⟨k + 1, by go_num, by omega, by first | exact HB2.out | exact below_drewN HB.out _⟩
   case measure => simp [intOf]; omega
  ·obtain rfl : k = l.length := by omega
   go_wp2_with fail
   go_ret
   exact ⟨rfl, HB.out⟩
end Go.Proofs.YtmeldgjlgifdhaaGreatDoor
