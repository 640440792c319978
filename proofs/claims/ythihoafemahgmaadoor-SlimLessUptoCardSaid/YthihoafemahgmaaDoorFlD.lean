/- Walks: flow.apply at any operator of values. -/
import Derived.Test.YthihoafemahgmaaDoorFlC
namespace Go.Proofs.YthihoafemahgmaaDoor
open Go.RowKit Mx
theorem op_cases {o : ByteArray} {k : Int} (ha : arity o = some k) (h1 : 1 ≤ k) (hp : o ≠ oPre) (hq : o ≠ oArrow) (hr : o ≠ oFby) :
    (k = 1 ∧ (o = oNot ∨ o = oNeg)) ∨ (k = 3 ∧ o = oIf) ∨ (k = 2 ∧ (o = oOr ∨ o = oXor ∨ o = oAnd ∨ o = oEq ∨ o = oNe ∨ o = oLt ∨ o = oLe ∨ o = oGt ∨ o = oGe ∨ o = oImp ∨ o = oAdd ∨ o = oSub ∨ o = oMul ∨ o = oDiv ∨ o = oMod)) := by
  unfold arity at ha
  split at ha
  · cases ha; omega
  · split at ha
    · rename_i h
      cases ha
      exact .inl ⟨rfl, h.elim .inl fun h => h.elim .inr fun h => absurd h hp⟩
    · split at ha
      · rename_i h; cases ha; exact .inr (.inl ⟨rfl, h⟩)
      · split at ha
        · cases ha; omega
        · split at ha
          · rename_i h; exact absurd h (fun h => h.elim hq hr)
          · split at ha
            · rename_i h
              cases ha
              refine .inr (.inr ⟨rfl, ?_⟩)
              simp only [levels, List.any_cons, List.any_nil, Bool.or_eq_true, Bool.or_false, List.contains_eq_mem, decide_eq_true_eq, List.mem_cons, List.not_mem_nil, or_false] at h
              rcases h with (h | h) | h | (h | h | h | h | h | h | h) | (h | h) | (h | h | h) <;> simp [h]
            · cases ha
set_option maxRecDepth 100000 in
theorem apply_any (o : ByteArray) (l : List Vl) (ha : arity o = some (l.length : Int)) (h1 : 1 ≤ l.length) (hp : o ≠ oPre) (hq : o ≠ oArrow) (hr : o ≠ oFby) (H : Kn) (v : Value) (hv : VlsV H l v) (w : World) (hH : H.In w) :
    Calls Tryd.prog 62 #[.string o, v] w fun r w' => r = .returned (.tuple #[vlV (appM o l).1, .bool (appM o l).2]) ∧ Below w.heap.size w w' := by
  rcases hv with ⟨rfl, _⟩ | ⟨b, off, cap, rfl, _, _, hc⟩
  · simp at h1
  · rcases op_cases ha (by omega) hp hq hr with ⟨hk, ho⟩ | ⟨hk, ho⟩ | ⟨hk, ho⟩
    · match l, hk with
      | [x], _ =>
        have d0 : w.cell? ⟨b, off, none⟩ = some (.int .i64 x.kind) := hH.cell (by simpa using (hc 0 (by simp)).1)
        have d1 : w.cell? ⟨b, off + 1, none⟩ = some (.int .i64 x.n) := hH.cell (by simpa using (hc 0 (by simp)).2)
        rcases ho with rfl | rfl
        · exact ap_not x b off cap w d0 d1
        · exact ap_neg x b off cap w d0 d1
    · match l, hk with
      | [x, y, u], _ =>
        have d0 : w.cell? ⟨b, off, none⟩ = some (.int .i64 x.kind) := hH.cell (by simpa using (hc 0 (by simp)).1)
        have d1 : w.cell? ⟨b, off + 1, none⟩ = some (.int .i64 x.n) := hH.cell (by simpa using (hc 0 (by simp)).2)
        have d2 : w.cell? ⟨b, off + 2, none⟩ = some (.int .i64 y.kind) := hH.cell (by simpa using (hc 1 (by simp)).1)
        have d3 : w.cell? ⟨b, off + 3, none⟩ = some (.int .i64 y.n) := hH.cell (by simpa using (hc 1 (by simp)).2)
        have d4 : w.cell? ⟨b, off + 4, none⟩ = some (.int .i64 u.kind) := hH.cell (by simpa using (hc 2 (by simp)).1)
        have d5 : w.cell? ⟨b, off + 5, none⟩ = some (.int .i64 u.n) := hH.cell (by simpa using (hc 2 (by simp)).2)
        subst ho
        by_cases hx : x.n = 1
        · exact ap_if1 x y u hx b off cap w d0 d1 d2 d3 d4 d5
        · exact ap_if2 x y u hx b off cap w d0 d1 d2 d3 d4 d5
    · match l, hk with
      | [x, y], _ =>
        have d0 : w.cell? ⟨b, off, none⟩ = some (.int .i64 x.kind) := hH.cell (by simpa using (hc 0 (by simp)).1)
        have d1 : w.cell? ⟨b, off + 1, none⟩ = some (.int .i64 x.n) := hH.cell (by simpa using (hc 0 (by simp)).2)
        have d2 : w.cell? ⟨b, off + 2, none⟩ = some (.int .i64 y.kind) := hH.cell (by simpa using (hc 1 (by simp)).1)
        have d3 : w.cell? ⟨b, off + 3, none⟩ = some (.int .i64 y.n) := hH.cell (by simpa using (hc 1 (by simp)).2)
        rcases ho with rfl | rfl | rfl | rfl | rfl | rfl | rfl | rfl | rfl | rfl | rfl | rfl | rfl | rfl | rfl
        · exact ap_or x y b off cap w d0 d1 d2 d3
        · exact ap_xor x y b off cap w d0 d1 d2 d3
        · exact ap_and x y b off cap w d0 d1 d2 d3
        · exact ap_eq x y b off cap w d0 d1 d2 d3
        · exact ap_ne x y b off cap w d0 d1 d2 d3
        · exact ap_lt x y b off cap w d0 d1 d2 d3
        · exact ap_le x y b off cap w d0 d1 d2 d3
        · exact ap_gt x y b off cap w d0 d1 d2 d3
        · exact ap_ge x y b off cap w d0 d1 d2 d3
        · exact ap_imp x y b off cap w d0 d1 d2 d3
        · exact ap_add x y b off cap w d0 d1 d2 d3
        · exact ap_sub x y b off cap w d0 d1 d2 d3
        · exact ap_mul x y b off cap w d0 d1 d2 d3
        · by_cases hy : y.n = 0
          · exact ap_div0 x y hy b off cap w d0 d1 d2 d3
          · exact ap_div x y hy b off cap w d0 d1 d2 d3
        · by_cases hy : y.n = 0
          · exact ap_mod0 x y hy b off cap w d0 d1 d2 d3
          · exact ap_mod x y hy b off cap w d0 d1 d2 d3
theorem vl_at2 {H : Kn} {l : List Vl} {a : Option Addr} {n c : Nat} (h : VlsV H l (.slice a n c)) {i : Nat} (hi : i < l.length) : ∃ b off, a = some ⟨b, off, none⟩ ∧ H.cell b (off + i * 2) = some (.int .i64 l[i].kind) ∧ H.cell b (off + i * 2 + 1) = some (.int .i64 l[i].n) := by
  obtain ⟨b, off, h1, h2, h3⟩ := vl_at h hi
  exact ⟨b, off, h1, by rw [Nat.mul_comm]; exact h2, by rw [Nat.mul_comm]; exact h3⟩
end Go.Proofs.YthihoafemahgmaaDoor
