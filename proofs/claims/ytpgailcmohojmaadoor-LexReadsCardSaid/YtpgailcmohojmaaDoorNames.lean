/- Walk: lustrumlaw1.Names. -/
import Derived.Test.YtpgailcmohojmaaDoorCoded
import Derived.Deep.RegionHeld3
import Derived.IntWalk
namespace Go.Proofs.YtpgailcmohojmaaDoor
open Go.RowKit

/-- The nine names. -/
def nm : Nat → ByteArray
  | 0 => ⟨#[116, 101, 120, 116]⟩
  | 1 => ⟨#[98, 111, 117, 110, 100]⟩
  | 2 => ⟨#[115, 104, 97, 112, 101]⟩
  | 3 => ⟨#[110, 97, 109, 101]⟩
  | 4 => ⟨#[116, 121, 112, 101]⟩
  | 5 => ⟨#[99, 121, 99, 108, 101]⟩
  | 6 => ⟨#[102, 105, 114, 115, 116]⟩
  | 7 => ⟨#[112, 114, 111, 111, 102]⟩
  | _ => ⟨#[110, 111, 110, 101]⟩
theorem nm_size (k : Nat) : (nm k).size ≤ 5 := by
  unfold nm
  split <;> decide
theorem names_get (k : Nat) (hk : k < 9) : (#[.string (nm 0), .string (nm 1), .string (nm 2), .string (nm 3), .string (nm 4), .string (nm 5), .string (nm 6), .string (nm 7), .string (nm 8)] : Array Value)[k]? = some (.string (nm k)) := by
  match k, hk with
  | 0, _ => rfl
  | 1, _ => rfl
  | 2, _ => rfl
  | 3, _ => rfl
  | 4, _ => rfl
  | 5, _ => rfl
  | 6, _ => rfl
  | 7, _ => rfl
  | 8, _ => rfl
theorem method_err (a : Addr) (w : World) : (method 481 129 (.pointer (some a)) "Error").run Tryd.prog w = .ok (263, .pointer (some a)) w := by kernel_rfl
def rowInts : List Int := [6000, 12, 20, 12, 30, 8, 400, 4000, 300, 100000, 150000, 500000, 1000000, 40, 100, 16, 1, 2]

abbrev intsRow : Array Value := #[.int .i64 6000, .int .i64 12, .int .i64 20, .int .i64 12, .int .i64 30, .int .i64 8, .int .i64 400, .int .i64 4000, .int .i64 300, .int .i64 100000, .int .i64 150000, .int .i64 500000, .int .i64 1000000, .int .i64 40, .int .i64 100, .int .i64 16, .int .i64 1, .int .i64 2]
theorem ints_get (k : Nat) (hk : k < 18) : intsRow[k]? = some (.int .i64 (rowInts.getD k 0)) := by
  match k, hk with
  | 0, _ => rfl
  | 1, _ => rfl
  | 2, _ => rfl
  | 3, _ => rfl
  | 4, _ => rfl
  | 5, _ => rfl
  | 6, _ => rfl
  | 7, _ => rfl
  | 8, _ => rfl
  | 9, _ => rfl
  | 10, _ => rfl
  | 11, _ => rfl
  | 12, _ => rfl
  | 13, _ => rfl
  | 14, _ => rfl
  | 15, _ => rfl
  | 16, _ => rfl
  | 17, _ => rfl
  | k + 18, h => exact absurd h (by omega)
set_option maxHeartbeats 1000000 in
set_option maxRecDepth 100000 in
theorem names_true (p : Nat → Addr) (w : World) (S : Sents w p) (hE : ErrTypeLaid w) (hT : ∀ i, i < 9 → w.cell? (p i) = some (.string ((⟨#[108, 117, 115, 116, 114, 117, 109, 58, 32]⟩ : ByteArray) ++ nm i))) :
    Calls Tryd.prog 3 #[] w fun e w' => e = .returned (.bool true) ∧ Below w.heap.size w w' := by
  have hbig := S.big
  have HT := Lib.hid hT
  clear hT
  have HM := method_err
  go_enter Tryd.func3, Tryd.ntmps3
  go_wp2_with fail
  refine (sameInts_same w.heap.size (w.heap.size + 1) 18 18 18 (fun k => rowInts.getD k 0) _ (by decide) ?_ ?_).mono ?_
  · intro k hk
    rw [World.cell?_alloc_past _ _ _ (by simp), World.cell?_alloc_new]
    exact ints_get k hk
  · intro k hk
    have e : w.heap.size + 1 = (w.alloc (.cells intsRow 3)).heap.size := by simp
    rw [e]
    exact (World.cell?_alloc_new _ _ _ _).trans (ints_get k hk)
  rintro e w1 ⟨rfl, hb⟩
  have hB : Below w.heap.size w w1 := (((Below.refl w.heap.size w).alloc (Nat.le_refl _) _).alloc (by simp) _).trans (hb.mono (by simp; omega))
  clear hb
  have S1 := S.below hB
  have a0 := S1.c0
  have a1 := S1.c1
  have a2 := S1.c2
  have a3 := S1.c3
  have a4 := S1.c4
  have a5 := S1.c5
  have a6 := S1.c6
  have a7 := S1.c7
  have a8 := S1.c8
  go_wp2_with fail
  have hBW : Below w.heap.size w ((w1.alloc (.cells #[esv (p 0), esv (p 1), esv (p 2), esv (p 3), esv (p 4), esv (p 5), esv (p 6), esv (p 7), esv (p 8)] 25)).alloc (.cells #[.string (nm 0), .string (nm 1), .string (nm 2), .string (nm 3), .string (nm 4), .string (nm 5), .string (nm 6), .string (nm 7), .string (nm 8)] 9)) := (hB.alloc hB.size _).alloc (by have := hB.size; simp; omega) _
  have hnine : ∀ k, k < 9 → ((w1.alloc (.cells #[esv (p 0), esv (p 1), esv (p 2), esv (p 3), esv (p 4), esv (p 5), esv (p 6), esv (p 7), esv (p 8)] 25)).alloc (.cells #[.string (nm 0), .string (nm 1), .string (nm 2), .string (nm 3), .string (nm 4), .string (nm 5), .string (nm 6), .string (nm 7), .string (nm 8)] 9)).cell? ⟨w1.heap.size, k, none⟩ = some (esv (p k)) := fun k hk => by
    rw [World.cell?_alloc_past _ _ _ (by simp), World.cell?_alloc_new]; exact nine_get p k hk
  have hnames : ∀ k, k < 9 → ((w1.alloc (.cells #[esv (p 0), esv (p 1), esv (p 2), esv (p 3), esv (p 4), esv (p 5), esv (p 6), esv (p 7), esv (p 8)] 25)).alloc (.cells #[.string (nm 0), .string (nm 1), .string (nm 2), .string (nm 3), .string (nm 4), .string (nm 5), .string (nm 6), .string (nm 7), .string (nm 8)] 9)).cell? ⟨w1.heap.size + 1, k, none⟩ = some (.string (nm k)) := fun k hk => by
    have e : w1.heap.size + 1 = (w1.alloc (.cells #[esv (p 0), esv (p 1), esv (p 2), esv (p 3), esv (p 4), esv (p 5), esv (p 6), esv (p 7), esv (p 8)] 25)).heap.size := by simp
    rw [e, World.cell?_alloc_new]; exact names_get k hk
  change Code.wp _ _ _ _ ((w1.alloc (.cells #[esv (p 0), esv (p 1), esv (p 2), esv (p 3), esv (p 4), esv (p 5), esv (p 6), esv (p 7), esv (p 8)] 25)).alloc (.cells #[.string (nm 0), .string (nm 1), .string (nm 2), .string (nm 3), .string (nm 4), .string (nm 5), .string (nm 6), .string (nm 7), .string (nm 8)] 9))
  clear a0 a1 a2 a3 a4 a5 a6 a7 a8
  have hsz : ((w1.alloc (.cells #[esv (p 0), esv (p 1), esv (p 2), esv (p 3), esv (p 4), esv (p 5), esv (p 6), esv (p 7), esv (p 8)] 25)).alloc (.cells #[.string (nm 0), .string (nm 1), .string (nm 2), .string (nm 3), .string (nm 4), .string (nm 5), .string (nm 6), .string (nm 7), .string (nm 8)] 9)).heap.size = w1.heap.size + 2 := by simp
  generalize ((w1.alloc (.cells #[esv (p 0), esv (p 1), esv (p 2), esv (p 3), esv (p 4), esv (p 5), esv (p 6), esv (p 7), esv (p 8)] 25)).alloc (.cells #[.string (nm 0), .string (nm 1), .string (nm 2), .string (nm 3), .string (nm 4), .string (nm 5), .string (nm 6), .string (nm 7), .string (nm 8)] 9)) = W at *
  generalize w1.heap.size = B at *
  have SW := S.below hBW
  have HTW : ∀ k, k < 9 → W.cell? (p k) = some (.string ((⟨#[108, 117, 115, 116, 114, 117, 109, 58, 32]⟩ : ByteArray) ++ nm k)) := fun k hk => by
    have h := HT.out k hk
    rw [hBW.cell (World.block_lt_of_cell? w _ h)]; exact h
  have EW : ErrTypeLaid W := by
    unfold ErrTypeLaid at hE ⊢
    rw [hBW.cell (Nat.lt_of_lt_of_le (by decide) hbig)]; exact hE
  have HI := Lib.hid hnine
  have HN := Lib.hid hnames
  have HW := Lib.hid HTW
  have HE := Lib.hid EW
  have HBW := Lib.hid hBW
  have hB9 := SW.big
  clear hnine hnames HTW EW hBW HT hE S S1
  go_loopw [5, 6, 7] (fun i _ _ wr => ∃ k : Nat, i = .int .i64 k ∧ k ≤ 9 ∧ Below W.heap.size W wr) (fun i _ _ _ => 9 - (intOf i).toNat)
  case atStart => exact ⟨0, rfl, Nat.zero_le _, Below.refl _ _⟩
  case round =>
    obtain ⟨k, rfl, hk, hbr⟩ := hrel
    have hwr := Lib.hid hbr
    by_cases hlt : k < 9
    · have cI : wr.cell? ⟨B, k, none⟩ = some (esv (p k)) := by rw [hbr.cell (by show B < W.heap.size; omega)]; exact HI.out k hlt
      have cI' := cI
      unfold esv at cI'
      have hBr := hbr.size
      clear hbr cI
      go_wp2_with fail
      refine (code_fault p k hlt wr.heap.size 7 _ (by rw [World.cell?_alloc_new]; rfl) (by rw [World.cell?_alloc_new]; rfl) (SW.below (hwr.out.alloc hwr.out.size _)) ?_).mono ?_
      · have e := HE.out
        unfold ErrTypeLaid at e ⊢
        rw [(hwr.out.alloc hwr.out.size _).cell (Nat.lt_of_lt_of_le (by decide) hB9)]; exact e
      rintro e w2 ⟨rfl, hb2⟩
      have hW2 : Below W.heap.size W w2 := (hwr.out.alloc hwr.out.size _).trans (hb2.mono (by simp; omega))
      clear hb2 hwr cI' hBr
      have HW2 := Lib.hid hW2
      go_wp2_with fail
      have hS : ∀ w', Below W.heap.size W w' → Below W.heap.size W w' ∧ w'.cell? ⟨B, k, none⟩ = some (.iface 129 (.pointer (some (p k)))) ∧ w'.cell? ⟨B + 1, k, none⟩ = some (.string (nm k)) := fun w' h =>
        ⟨h, by rw [h.cell (by show B < W.heap.size; omega)]; exact HI.out k hlt, by rw [h.cell (by show B + 1 < W.heap.size; omega)]; exact HN.out k hlt⟩
      have hT : ∀ w', Below W.heap.size W w' → w'.cell? (p k) = some (.string ((⟨#[108, 117, 115, 116, 114, 117, 109, 58, 32]⟩ : ByteArray) ++ nm k)) := fun w' h => by
        have e := HW.out k hlt
        rw [h.cell (World.block_lt_of_cell? W _ e)]; exact e
      have hEE : ∀ w', Below W.heap.size W w' → ErrTypeLaid w' := fun w' h => by
        have e := HE.out
        unfold ErrTypeLaid at e ⊢
        rw [h.cell (Nat.lt_of_lt_of_le (by decide) hB9)]; exact e
      have ha1 := fun w => run_string_add_sum (P := Tryd.prog) w (⟨#[108, 117, 115, 116, 114, 117, 109, 58, 32]⟩ : ByteArray) (nm k) (by have := nm_size k; have : (⟨#[108, 117, 115, 116, 114, 117, 109, 58, 32]⟩ : ByteArray).size = 9 := rfl; omega)
      have hk1 : IntKind.i64.wrap ((k : Int) + 1) = (k : Int) + 1 := IntWalk.i64_in _ (by omega)
      go_region_held3 (fun w' => Below W.heap.size W w' ∧ w'.cell? ⟨B, k, none⟩ = some (.iface 129 (.pointer (some (p k)))) ∧ w'.cell? ⟨B + 1, k, none⟩ = some (.string (nm k)))
        (first | exact hS _ (below_drewN hW2 1) | exact hS _ hW3 | go_keep)
        (first
          | (go_at_call 263; refine (errText_any (p k) ((⟨#[108, 117, 115, 116, 114, 117, 109, 58, 32]⟩ : ByteArray) ++ nm k) _ ?_).mono ?_; (exact hT _ (below_drewN hW2 1)); rintro e w' ⟨rfl, rfl⟩)
          | (go_at_call 19; refine (coded_sent p k hlt _ _ (SW.below (below_drewN hW2 1)) ?_).mono ?_; (exact hEE _ (below_drewN hW2 1)); rintro e w3 ⟨he, hb3⟩; (simp only [beq_self_eq_true] at he); subst he; have hW3 : Below W.heap.size W w3 := (below_drewN hW2 1).trans (hb3.mono hW2.size)))
      clear hk1 ha1
      go_wp2_with fail
      go_roundw
      case rel => exact ⟨k + 1, by go_num, by omega, by assumption⟩
      case measure => simp [intOf]; omega
    · have hk9 : k = 9 := by omega
      subst hk9
      go_wp2_with fail
      refine (new_any _ _).mono ?_
      rintro e w4 ⟨rfl, rfl⟩
      go_wp2_with fail
      have hb4 : Below W.heap.size W (wr.alloc (.cells #[.string ⟨#[97, 110, 111, 116, 104, 101, 114, 32, 111, 110, 101]⟩] 131)) := hbr.alloc hbr.size _
      refine (code_other p _ _ _ _ (heap_alloc_new _ _) (fun i hi e => ?_) (SW.below hb4) ?_).mono ?_
      · have h1 := World.block_lt_of_cell? wr _ (by rw [hbr.cell (World.block_lt_of_cell? W _ (HW.out i hi))]; exact HW.out i hi)
        rw [← e] at h1
        exact absurd h1 (by simp)
      · have e := HE.out
        unfold ErrTypeLaid at e ⊢
        rw [hb4.cell (Nat.lt_of_lt_of_le (by decide) hB9)]; exact e
      rintro e w5 ⟨rfl, hb5⟩
      have hW5 : Below W.heap.size W w5 := hb4.trans (hb5.mono hb4.size)
      clear hb5 hb4
      go_wp2_with fail
      refine (coded_nil 0 _).mono ?_
      rintro e w6 ⟨rfl, rfl⟩
      go_wp2_with fail
      go_ret
      exact ⟨rfl, HBW.out.trans (hW5.mono HBW.out.size)⟩
end Go.Proofs.YtpgailcmohojmaaDoor
