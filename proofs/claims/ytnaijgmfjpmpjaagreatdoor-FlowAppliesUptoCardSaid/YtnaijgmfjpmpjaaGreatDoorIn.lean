/- Walks: flow.Code.Inputs. -/
import Derived.Test.YtnaijgmfjpmpjaaGreatDoorEv
import Derived.Test.YtnaijgmfjpmpjaaGreatDoorRg
namespace Go.Proofs.YtnaijgmfjpmpjaaGreatDoor
set_option maxRecDepth 100000
set_option maxHeartbeats 16000000
open Go.RowKit Mx
def inpsTo (ins : List Vr) (l : List Vl) (k : Nat) : Bool := decide (l.length = ins.length) && (List.range k).all fun i => rightV (l.getD i vz) ((ins.map (·.kind)).getD i 0)
theorem inpsTo_succ (ins : List Vr) (l : List Vl) (k : Nat) : inpsTo ins l (k + 1) = (inpsTo ins l k && rightV (l.getD k vz) ((ins.map (·.kind)).getD k 0)) := by
 unfold inpsTo
 rw [List.range_succ, List.all_append, Bool.and_assoc]
 simp
theorem inpsTo_false (ins : List Vr) (l : List Vl) (k : Nat) (h : inpsTo ins l k = false) : ∀ n, k ≤ n → inpsTo ins l n = false := fun n hn => by
 induction n with
 | zero =>
  obtain rfl : k = 0 := by omega
  exact h
 | succ n ih =>
  by_cases e : k = n + 1
  ·rw [← e]; exact h
  ·rw [inpsTo_succ, ih (by omega)]; rfl
theorem inputs_any (H : Kn) (B : Nat) (cs : Array Value) (ins : List Vr) (l : List Vl) (vi v : Value) (hB : H B = some (.cells cs 143 (0, 0))) (h0 : cs[0]? = some vi) (hi : VrsV H ins vi) (hv : VlsV H l v) (hl : l.length ≤ 1000000000 ∧ ins.length ≤ 1000000000) (w : World) (hH : H.In w) :
  Calls Tryz.prog 36 #[.pointer (some ⟨B, 0, none⟩), v] w fun r w' => r = .returned (.bool (inpsTo ins l l.length)) ∧ Below w.heap.size w w' := by
 obtain ⟨hl1, hl2⟩ := hl
 obtain ⟨a, c, rfl⟩ := hi.len
 obtain ⟨a2, c2, rfl⟩ := hv.len
 have HI := Lib.hid hi
 have HV := Lib.hid hv
 have j0 : H.cell B 0 = some (.slice a ins.length c) := by unfold Kn.cell; rw [hB]; exact h0
 have g0 := hH.cell j0
 have hlen : ((l.length : Int) == (ins.length : Int)) = decide (l.length = ins.length) := by
  by_cases h : l.length = ins.length
  ·simp [h]
  ·have : ¬ ((l.length : Int) = ins.length) := by omega
   simp [h, this]
 have HL := Lib.hid hlen
 clear hi hv hlen
 go_enter Tryz.func36, Tryz.ntmps36
 go_wp2_with fail
 clear g0
 go_loopw [5, 6] (fun u i wr => ∃ k : Nat, i = .int .i64 k ∧ u = .bool (inpsTo ins l k) ∧ k ≤ l.length ∧ Below w.heap.size w wr) (fun _ i _ => l.length - (intOf i).toNat)
 case atStart => exact ⟨0, rfl, by simp [inpsTo, HL.out], Nat.zero_le _, Below.refl _ _⟩
 case round =>
  obtain ⟨k, rfl, rfl, hk, hb⟩ := hrel
  have HB := Lib.hid hb
  clear hb
  cases hok : inpsTo ins l k with
  | false =>
   go_wp2_with fail
   go_ret
   exact ⟨ret_bool (by rw [inpsTo_false ins l k hok _ hk]), HB.out⟩
  | true =>
   by_cases hkl : k < l.length
   ·have hli : l.length = ins.length := by
     unfold inpsTo at hok
     simp only [Bool.and_eq_true, decide_eq_true_eq] at hok
     exact hok.1
    have hki : k < ins.length := by omega
    have hkI : (k : Int) < l.length := by omega
    have hkI2 : (k : Int) < ins.length := by omega
    clear hli
    obtain ⟨b, off, rfl, e0, e1⟩ := vl_at2 HV.out hkl
    obtain ⟨b2, off2, rfl, _, d0, d1⟩ := SlV.at HI.out hki
    have d1 : H.cell b2 (off2 + k * 2 + 1) = some (.int .i64 ins[k].kind) := d1
    have hS : H.In wr.drew := hH.below HB.out.drew
    have HSN := Lib.hid (show inpsTo ins l (k + 1) = rightV l[k] ins[k].kind from by
     rw [inpsTo_succ, hok, Bool.true_and]
     simp [List.getD_eq_getElem?_getD, hkl, hki])
    clear hok d0
    generalize ins[k].kind = kd at *
    generalize l[k] = x at *
    obtain ⟨xk, xn⟩ := x
    dsimp only at e0 e1
    go_wp2_with fail
    refine wp_region_2 (fun w' => H.In w') (fun _ => True) 99 (by kernel_rfl) ?_
    refine tk2 (i := 0) (v := ?_) rfl hS (fun _ => trivial) ?hy ?_
    case hy => intro w hSw; obtain ⟨z0, z1, z2, z3⟩ := hSw.c4 j0 e0 e1 d1; go_simp <;> with_reducible rfl
    try simp only [Act.put, List.setIfInBounds_toArray, List.set_cons_zero, List.set_cons_succ, List.getElem_toArray, List.getElem_cons_zero]
    refine tk2 (i := 1) (v := ?_) rfl hS (fun _ => trivial) ?hy ?_
    case hy => intro w hSw; obtain ⟨z0, z1, z2, z3⟩ := hSw.c4 j0 e0 e1 d1; go_simp <;> with_reducible rfl
    try simp only [tkS]
    refine tk2 (i := 2) (v := ?_) rfl hS (fun _ => trivial) ?hy ?_
    case hy => intro w hSw; obtain ⟨z0, z1, z2, z3⟩ := hSw.c4 j0 e0 e1 d1; go_simp <;> with_reducible rfl
    try simp only [tkS]
    refine tk2 (i := 3) (v := ?_) rfl hS (fun _ => trivial) ?hy ?_
    case hy => intro w hSw; obtain ⟨z0, z1, z2, z3⟩ := hSw.c4 j0 e0 e1 d1; go_simp <;> with_reducible rfl
    try simp only [tkS]
    refine tk2 (i := 4) (v := ?_) rfl hS (fun _ => trivial) ?hy ?_
    case hy => intro w hSw; obtain ⟨z0, z1, z2, z3⟩ := hSw.c4 j0 e0 e1 d1; go_simp <;> with_reducible rfl
    try simp only [tkS]
    refine tk2 (i := 5) (v := ?_) rfl hS (fun _ => trivial) ?hy ?_
    case hy => intro w hSw; obtain ⟨z0, z1, z2, z3⟩ := hSw.c4 j0 e0 e1 d1; go_simp <;> with_reducible rfl
    try simp only [tkS]
    refine tk2 (i := 6) (v := ?_) rfl hS (fun _ => trivial) ?hy ?_
    case hy => intro w hSw; obtain ⟨z0, z1, z2, z3⟩ := hSw.c4 j0 e0 e1 d1; go_simp <;> with_reducible rfl
    try simp only [tkS]
    refine tk2 (i := 7) (v := ?_) rfl hS (fun _ => trivial) ?hy ?_
    case hy => intro w hSw; obtain ⟨z0, z1, z2, z3⟩ := hSw.c4 j0 e0 e1 d1; go_simp <;> with_reducible rfl
    try simp only [tkS]
    refine tk2 (i := 8) (v := ?_) rfl hS (fun _ => trivial) ?hy ?_
    case hy => intro w hSw; obtain ⟨z0, z1, z2, z3⟩ := hSw.c4 j0 e0 e1 d1; go_simp <;> with_reducible rfl
    try simp only [tkS]
    refine tk2 (i := 9) (v := ?_) rfl hS (fun _ => trivial) ?hy ?_
    case hy => intro w hSw; obtain ⟨z0, z1, z2, z3⟩ := hSw.c4 j0 e0 e1 d1; go_simp <;> with_reducible rfl
    try simp only [tkS]
    refine tk2 (i := 10) (v := ?_) rfl hS (fun _ => trivial) ?hy ?_
    case hy => intro w hSw; obtain ⟨z0, z1, z2, z3⟩ := hSw.c4 j0 e0 e1 d1; go_simp <;> with_reducible rfl
    try simp only [tkS]
    refine tk2 (i := 11) (v := ?_) rfl hS (fun _ => trivial) ?hy ?_
    case hy => intro w hSw; obtain ⟨z0, z1, z2, z3⟩ := hSw.c4 j0 e0 e1 d1; go_simp <;> with_reducible rfl
    try simp only [tkS]
    refine tk2 (i := 12) (v := ?_) rfl hS (fun _ => trivial) ?hy ?_
    case hy => intro w hSw; obtain ⟨z0, z1, z2, z3⟩ := hSw.c4 j0 e0 e1 d1; go_simp <;> with_reducible rfl
    try simp only [tkS]
    refine wpAny2_one (i := 13) (o := _) (by kernel_rfl) rfl (fun K_ hK => ?_)
    go_simp
    go_at_call 24
    refine (right_any ⟨xk, xn⟩ kd _).mono ?_
    rintro r5 w5 ⟨rfl, hb5⟩
    have hS5 := hS.below hb5
    refine hK.out _ _ (hS5) (fun _ => trivial) ?_
    clear hK K_
    try simp only [tkS]
    refine tk2 (i := 14) (v := ?_) rfl hS5 (fun _ => trivial) ?hy ?_
    case hy => intro w hSw; obtain ⟨z0, z1, z2, z3⟩ := hSw.c4 j0 e0 e1 d1; go_simp <;> with_reducible rfl
    try simp only [tkS]
    refine wpAny2_done (by kernel_rfl) ?_ _
    have HB5 := Lib.hid (HB.out.drew.trans (hb5.mono (by have := HB.out.drew.size; omega)))
    go_wp2_with fail
    go_roundw
    case rel => first | exact ⟨k + 1, by go_num, by rw [HSN.out], by omega, HB5.out⟩ | ((repeat apply Exists.intro); refine ⟨?_, rfl⟩; exact ⟨k + 1, by go_num, by rw [HSN.out], by omega, HB5.out⟩)
    case measure => simp [intOf]; omega
   ·obtain rfl : k = l.length := by omega
    go_wp2_with fail
    go_ret
    exact ⟨ret_bool (by rw [hok]), HB.out⟩
end Go.Proofs.YtnaijgmfjpmpjaaGreatDoor
