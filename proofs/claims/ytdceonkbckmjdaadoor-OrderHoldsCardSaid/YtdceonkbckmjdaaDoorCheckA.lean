/- Walks: flat.Check's closure; what the walk of flat.Check keeps. -/
import Derived.Test.YtdceonkbckmjdaaDoorCkMath
import Derived.Test.YtdceonkbckmjdaaDoorKind
import Derived.Test.YtdceonkbckmjdaaDoorTerms
import Derived.Test.YtdceonkbckmjdaaDoorCode
namespace Go.Proofs.YtdceonkbckmjdaaDoor
open Go.RowKit Mx

theorem LevelsAt.le {H H' : Kn} (hle : H.le H') (h : LevelsAt H) : LevelsAt H' := by
  obtain ⟨v0, v1, v2, v3, v4, t, fr, h0, h1, h2, h3, h4, h5⟩ := h
  exact ⟨v0, v1, v2, v3, v4, t, fr, hle _ _ h0, h1.le hle, h2.le hle, h3.le hle, h4.le hle, h5.le hle⟩
/-- An error by its number. -/
def errV (sp : Nat → Addr) : Nat → Value
  | 0 => .nilIface
  | c + 1 => esv (sp c)

set_option maxHeartbeats 1000000 in
set_option maxRecDepth 100000 in
theorem fresh_any (s : ByteArray) (k : Int) (B bm : Nat) (m : Env Int) (w : World) (hB : w.cell? ⟨B, 0, none⟩ = some (.map (some bm))) (hM : MapAt (Value.int .i64) w bm m) :
    Calls Tryd.prog 72 #[.string s, .int .i64 k, .pointer (some ⟨B, 0, none⟩)] w fun r w' => r = .returned (.bool (freshB m s k)) ∧ MapAt (Value.int .i64) w' bm (m.set s k) ∧ Turned w w' bm := by
  have hrun := hM.run (P := Tryd.prog) Tryd.underlying67 Tryd.underlying9 (d := 0) (by kernel_rfl) s true
  simp only [if_true] at hrun
  have hBm : B ≠ bm := by
    rintro rfl
    obtain ⟨es, c, h1, _⟩ := hM
    simp [World.cell?, h1] at hB
  have HF := Lib.hid (show freshB m s k = (!(m s).isSome && !s.toList.isEmpty && ((k == 1) || (k == 2))) from by
    unfold freshB
    rw [show decide (s.size ≠ 0) = !s.toList.isEmpty from by rw [← dEmp]; simp]
    have e1 : (k == 1) = decide (k = 1) := by by_cases h : k = 1 <;> simp [h]
    have e2 : (k == 2) = decide (k = 2) := by by_cases h : k = 2 <;> simp [h]
    rw [e1, e2]
    cases m s <;> rfl)
  have HM := Lib.hid hM
  clear hM
  generalize (m s).getD 0 = v0 at *
  generalize (m s).isSome = is at *
  rcases Bool.eq_false_or_eq_true s.toList.isEmpty with e1 | e1
  all_goals
    rcases propBool (k == 1) (k = 1) (by simp) with ⟨t1, S1⟩ | ⟨t1, S1⟩
    all_goals
      rcases propBool (k == 2) (k = 2) (by simp) with ⟨t2, S2⟩ | ⟨t2, S2⟩
      all_goals
        cases is
        all_goals
          go_enter Tryd.func72, Tryd.ntmps72
          go_wp2_with (at_mapUpdate; refine wp_store (Value.int .i64) 67 9 3 Tryd.underlying67 Tryd.underlying9 bm m HM.out _ _ _ rfl rfl rfl s rfl k rfl ?_; intro w1 hM1 hT1)
          go_ret
          exact ⟨ret_bool (by rw [HF.out]; simp [e1, t1, t2]), hM1, hT1⟩

/-- What the walk of flat.Check keeps: the program's box, the closure's cell, the map of kinds. -/
structure CkW (w wr : World) (v0 v1 v2 v3 v4 : Value) (m : Env Int) : Prop where
  below : Below w.heap.size w wr
  size : w.heap.size + 3 ≤ wr.heap.size
  b0 : wr.cell? ⟨w.heap.size, 0, none⟩ = some v0
  b1 : wr.cell? ⟨w.heap.size, 1, none⟩ = some v1
  b2 : wr.cell? ⟨w.heap.size, 2, none⟩ = some v2
  b3 : wr.cell? ⟨w.heap.size, 3, none⟩ = some v3
  b4 : wr.cell? ⟨w.heap.size, 4, none⟩ = some v4
  ck : wr.cell? ⟨w.heap.size + 1 + 1, 0, none⟩ = some (.map (some (w.heap.size + 1)))
  mp : MapAt (Value.int .i64) wr (w.heap.size + 1) m
theorem CkW.next {w wr w' : World} {v0 v1 v2 v3 v4 : Value} {m : Env Int} (h : CkW w wr v0 v1 v2 v3 v4 m) (hb : Below wr.heap.size wr w') : CkW w w' v0 v1 v2 v3 v4 m := by
  have hs := h.size
  have hc : ∀ b o, b < wr.heap.size → w'.cell? ⟨b, o, none⟩ = wr.cell? ⟨b, o, none⟩ := fun b o hlt => hb.cell (p := ⟨b, o, none⟩) hlt
  exact ⟨h.below.trans (hb.mono (by omega)), Nat.le_trans hs hb.size, by rw [hc _ _ (by omega)]; exact h.b0, by rw [hc _ _ (by omega)]; exact h.b1, by rw [hc _ _ (by omega)]; exact h.b2, by rw [hc _ _ (by omega)]; exact h.b3,
    by rw [hc _ _ (by omega)]; exact h.b4, by rw [hc _ _ (by omega)]; exact h.ck, h.mp.below hb⟩
theorem CkW.alloc {w wr : World} {v0 v1 v2 v3 v4 : Value} {m : Env Int} (h : CkW w wr v0 v1 v2 v3 v4 m) (o : Obj) : CkW w (wr.alloc o) v0 v1 v2 v3 v4 m := h.next ((Below.refl _ _).alloc (Nat.le_refl _) o)
theorem CkW.turn {w wr w' : World} {v0 v1 v2 v3 v4 : Value} {m m' : Env Int} (h : CkW w wr v0 v1 v2 v3 v4 m) (ht : Turned wr w' (w.heap.size + 1)) (hm : MapAt (Value.int .i64) w' (w.heap.size + 1) m') : CkW w w' v0 v1 v2 v3 v4 m' := by
  have hc : ∀ b o, b ≠ w.heap.size + 1 → w'.cell? ⟨b, o, none⟩ = wr.cell? ⟨b, o, none⟩ := fun b o hlt => ht.cell (p := ⟨b, o, none⟩) hlt
  exact ⟨ht.below h.below (by omega), by rw [ht.size]; exact h.size, by rw [hc _ _ (by omega)]; exact h.b0, by rw [hc _ _ (by omega)]; exact h.b1, by rw [hc _ _ (by omega)]; exact h.b2, by rw [hc _ _ (by omega)]; exact h.b3,
    by rw [hc _ _ (by omega)]; exact h.b4, by rw [hc _ _ (by omega)]; exact h.ck, hm⟩
theorem CkW.other {w wr w' : World} {v0 v1 v2 v3 v4 : Value} {m : Env Int} {c : Nat} (h : CkW w wr v0 v1 v2 v3 v4 m) (ht : Turned wr w' c) (hc3 : w.heap.size + 3 ≤ c) : CkW w w' v0 v1 v2 v3 v4 m := by
  have hc : ∀ b o, b ≠ c → w'.cell? ⟨b, o, none⟩ = wr.cell? ⟨b, o, none⟩ := fun b o hlt => ht.cell (p := ⟨b, o, none⟩) hlt
  exact ⟨ht.below h.below (by omega), by rw [ht.size]; exact h.size, by rw [hc _ _ (by omega)]; exact h.b0, by rw [hc _ _ (by omega)]; exact h.b1, by rw [hc _ _ (by omega)]; exact h.b2, by rw [hc _ _ (by omega)]; exact h.b3,
    by rw [hc _ _ (by omega)]; exact h.b4, by rw [hc _ _ (by omega)]; exact h.ck, ht.map h.mp (by omega)⟩
theorem okIf_of_form (ks : Env Int) : ∀ e : Ex, formAll ks e = true → okIf e = true := by
  refine Ex.ind fun o n s l ih h => ?_
  simp only [formAll, Bool.and_eq_true] at h
  simp only [okIf, Bool.and_eq_true, Bool.or_eq_true, decide_eq_true_eq]
  refine ⟨?_, ?_⟩
  · by_cases ho : o = oIf
    · right
      have h1 := h.1.1.1
      subst ho
      have ha : arity oIf = some 3 := by decide
      simp only [form, Ex.op, ha, Bool.and_eq_true, Bool.or_eq_true, decide_eq_true_eq, Ex.l] at h1
      rcases h1.1.1 with h | h
      · omega
      · have := of_decide_eq_true h; omega
    · exact .inl ho
  · have hl := (formAllL_get ks l).1 h.2
    have key : ∀ l : List Ex, (∀ e ∈ l, okIf e = true) → okIfL l = true := by
      intro l
      induction l with
      | nil => intro _; rfl
      | cons e l ih2 => intro h; simp only [okIfL, Bool.and_eq_true]; exact ⟨h e (List.mem_cons_self ..), ih2 fun x hx => h x (List.mem_cons_of_mem _ hx)⟩
    refine key l fun e he => ?_
    obtain ⟨i, hi, rfl⟩ := List.mem_iff_getElem.1 he
    exact ih _ he (hl i hi)
end Go.Proofs.YtdceonkbckmjdaaDoor
