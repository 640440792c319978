/- Walks: lex.Text. -/
import Derived.Test.YtminjdmgfiellaaDoorTxB
import Derived.Test.YtminjdmgfiellaaDoorBuildW
import Derived.Test.YtminjdmgfiellaaDoorRLexZ
import Derived.Test.YtminjdmgfiellaaDoorCoded
namespace Go.Proofs.YtminjdmgfiellaaDoor
open Go.RowKit

abbrev IsB (B b : Nat) (l : List UInt8) (w : World) : Prop := Lib.IsBuilderF 108 5 B b (Lib.byteCells l) w
theorem isb_alloc {B b : Nat} {l : List UInt8} {w : World} (h : IsB B b l w) (o : Obj) : IsB B b l (w.alloc o) := h.imp (fun x => x.alloc o) (fun x => x.alloc o)
theorem isb_below {B b : Nat} {l : List UInt8} {w w' : World} (h : IsB B b l w) (hb : Below w.heap.size w w') : IsB B b l w' := by
  have key : ∀ p, Lib.BuilderAtF 108 5 B b p (Lib.byteCells l) w → Lib.BuilderAtF 108 5 B b p (Lib.byteCells l) w' := fun p ⟨hB, v, hbk, hown, hne⟩ =>
    ⟨hB, v, by rw [hb.block b (Array.getElem?_eq_some_iff.1 hbk).1]; exact hbk, hown.kept (grown_of_below hb) (by cases hv : v.ownBlock <;> simp), hne⟩
  exact h.imp (key _) (key _)
theorem isb_new (w : World) : IsB w.heap.size w.heap.size [] (w.alloc (.cells #[.pointer none, .slice none 0 0] 108)) :=
  .inl ⟨Nat.le_refl _, .slice none 0 0, heap_alloc_new _ _, World.ownsRowF_nil _ _ _ _, by simp [Value.ownBlock]⟩
/-- A write of a text. -/
theorem write_any (B b : Nat) (l : List UInt8) (s : List UInt8) (w : World) (h : IsB B b l w) (hlen : l.length + s.length ≤ 140737488355328) (hBw : B ≤ w.heap.size) :
    Calls Tryd.prog 49 #[.pointer (some ⟨b, 0, none⟩), .string (bs s)] w fun e w' => e = .returned (.tuple #[.int .i64 (bs s).size, .nilIface]) ∧ (IsB B b (l ++ s) w' ∧ Below B w w' ∧ OthersK b w w') := by
  have e : Lib.byteCells (l ++ s) = Lib.byteCells l ++ Lib.strCells (bs s) := by simp [Lib.byteCells, Lib.strCells, bs]
  unfold IsB
  rw [e]
  exact writeString_any B b _ _ w h (by rw [Lib.byteCells_length, Lib.size_eq, bs_data]; exact hlen) hBw

theorem isb_lt {B b : Nat} {l : List UInt8} {w : World} (h : IsB B b l w) : b < w.heap.size := h.elim (fun x => x.lt) (fun x => x.lt)
def TextPost (p : Nat → Addr) (w : World) (l : List Lx.TI) (e : Ending) (w' : World) : Prop :=
  Below w.heap.size w w' ∧ ((Lx.good l ∧ e = .returned (.tuple #[.string (bs (Lx.joinT l.dropLast)), .nilIface])) ∨ (¬ Lx.good l ∧ e = .returned (.tuple #[.string ⟨#[]⟩, esv (p 2)])))

theorem lex_nil : Lx.lexAll ([] : List UInt8) = .ok [⟨Lx.kEnd, [], 0⟩] := by rfl
theorem not_good_nil : ¬ Lx.good [] := fun h => by obtain ⟨h0, _⟩ := Lx.good_end h; simp at h0
/-- Tokens that were read, as tokens that came in. -/
def asTI (t : Lx.Tk) : Lx.TI := ⟨t.kind, t.text, t.pos⟩
theorem TisW.of_toks {w : World} {v : Value} {m : List Lx.Tk} (h : ToksW w v m) : TisW w v (m.map asTI) := by
  obtain ⟨g, cap, rfl, h1, h2, h3, h4⟩ := h
  refine .inr ⟨g, 0, cap, by rw [List.length_map], by rw [List.length_map]; exact h1, h2, h3, fun i hi => ?_⟩
  have hi' : i < m.length := by simpa using hi
  have := h4 i hi'
  rw [Nat.zero_add]
  simpa [asTI] using this
theorem kti_asTI (m : List Lx.Tk) : (m.map asTI).map Lx.kti = m.map Lx.ktk := by rw [List.map_map]; rfl

set_option maxHeartbeats 1000000 in
set_option maxRecDepth 100000 in
theorem Text_nil (H : Kn) (T : LexTabs H) (p : Nat → Addr) (v : Value) (w : World) (hv : TisW w v []) (hH : H.In w) (S : Sents w p) :
    Calls Tryd.prog 19 #[v] w (TextPost p w []) := by
  obtain ⟨o, cap, rfl⟩ := hv.len
  go_enter Tryd.func19, Tryd.ntmps19
  go_wp2_with fail
  go_loop [11] (fun i => i = .int .i64 0) (fun _ => 0)
  case atStart => rfl
  case round =>
  obtain rfl := hrel
  go_wp2_with fail
  refine (Tryd.Builder_String_any_f w.heap.size w.heap.size [] _ (isb_new w) (by simp)).mono ?_
  rintro e w1 ⟨rfl, hB1, hb1⟩
  have hW1 : Below w.heap.size w w1 := ((Below.refl _ _).alloc (Nat.le_refl _) _).trans hb1
  go_wp2_with fail
  refine (Lex_ok H T ⟨#[]⟩ (by decide) _ (hH.below hW1) lex_nil).mono ?_
  rintro e w2 ⟨v2, rfl, htk, hb2⟩
  have hW2 := hW1.trans (hb2.mono hW1.size)
  have c2 := (S.below hW2).c2
  go_wp2_with fail
  refine (eqf_any _ _ [] ([⟨Lx.kEnd, [], 0⟩].map asTI) _ (.inl ⟨rfl, _, _, rfl⟩) (TisW.of_toks htk) (by decide) (by decide)).mono ?_
  rintro e w3 ⟨rfl, hb3⟩
  have hW3 := hW2.trans (hb3.mono hW2.size)
  have c3 := (S.below hW3).c2
  clear c2
  go_wp2_with fail
  go_region
  all_goals go_wp2_with fail
  all_goals go_ret2
  all_goals exact ⟨by go_grown, .inr ⟨not_good_nil, rfl⟩⟩

/-- What is told where the loop is left: what was written, and when it is the text. -/
theorem left_end {l : List Lx.TI} (h0 : 0 < l.length) (h1 : l[l.length - 1].kind = Lx.kEnd ∧ l[l.length - 1].text = []) (hs : (Lx.joinT (l.take (l.length - 1))).length ≤ 6000) :
    (Lx.good l ↔ ∃ m, Lx.lexAll (Lx.joinT (l.take (l.length - 1))) = .ok m ∧ m.map Lx.ktk = l.map Lx.kti) ∧ (Lx.good l → Lx.joinT (l.take (l.length - 1)) = Lx.joinT l.dropLast) := by
  rw [← Lx.dropLast_take] at *
  exact ⟨⟨fun g => g.2, fun m => ⟨hs, m⟩⟩, fun _ => rfl⟩
theorem left_full {l : List Lx.TI} (hne : ¬ ∃ h0 : 0 < l.length, l[l.length - 1].kind = Lx.kEnd ∧ l[l.length - 1].text = []) :
    (Lx.good l ↔ ∃ m, Lx.lexAll (Lx.joinT l) = .ok m ∧ m.map Lx.ktk = l.map Lx.kti) ∧ (Lx.good l → Lx.joinT l = Lx.joinT l.dropLast) :=
  ⟨⟨fun g => absurd g (Lx.not_good_end hne), fun ⟨_, h1, h2⟩ => absurd (Lx.same_end h1 h2) hne⟩, fun g => absurd g (Lx.not_good_end hne)⟩

set_option maxHeartbeats 4000000 in
set_option maxRecDepth 100000 in
theorem Text_any (H : Kn) (T : LexTabs H) (p : Nat → Addr) (v : Value) (l : List Lx.TI) (hne : l ≠ []) (w : World) (hv : TisW w v l) (hl : l.length ≤ 1048576) (ht : ∀ t ∈ l, t.text.length ≤ 1048576) (hH : H.In w) (S : Sents w p) :
    Calls Tryd.prog 19 #[v] w (TextPost p w l) := by
  rcases hv with ⟨h, _⟩ | ⟨g, off, cap, rfl, h1, h2, h3, h4⟩
  · exact absurd h hne
  have hvw : TisW w (.slice (some ⟨g, off, none⟩) l.length cap) l := .inr ⟨g, off, cap, rfl, h1, h2, h3, h4⟩
  have H4 := Lib.hid h4
  have HTX := Lib.hid ht
  have HV := Lib.hid hvw
  clear h4 ht hvw
  unfold maxLen at h2
  have hpos : 0 < l.length := List.length_pos_iff.2 hne
  go_enter Tryd.func19, Tryd.ntmps19
  go_wp2_with fail
  have hB0 := Lib.hid (isb_new w)
  have hW0 : Below w.heap.size w (w.alloc (.cells #[.pointer none, .slice none 0 0] 108)) := (Below.refl _ _).alloc (Nat.le_refl _) _
  generalize w.alloc (.cells #[.pointer none, .slice none 0 0] 108) = W0 at *
  go_loopw [11] (fun i wr => ∃ k : Nat, i = .int .i64 k ∧ k ≤ l.length ∧ Below w.heap.size w wr ∧ IsB w.heap.size w.heap.size (Lx.joinT (l.take k)) wr ∧ (Lx.joinT (l.take k)).length ≤ 6000 ∧ (k = l.length → ¬ ∃ h0 : 0 < l.length, l[l.length - 1].kind = Lx.kEnd ∧ l[l.length - 1].text = [])) (fun i _ => l.length - (intOf i).toNat)
  case atStart => exact ⟨0, rfl, Nat.zero_le _, hW0, hB0.out, Nat.zero_le _, fun h => by omega⟩
  case round =>
    obtain ⟨k, rfl, hk, hbr, hib, hsz, hlast⟩ := hrel
    have HIB := Lib.hid hib
    have HLAST := Lib.hid hlast
    clear hib hlast
    have hwr := hbr.size
    have hx : (∃ h : k < l.length, ¬ (k = l.length - 1 ∧ l[k].kind = Lx.kEnd ∧ l[k].text = [])) ∨ (k < l.length ∧ k = l.length - 1 ∧ l[l.length - 1].kind = Lx.kEnd ∧ l[l.length - 1].text = []) ∨ k = l.length := by
      by_cases hlt : k < l.length
      · by_cases hc : k = l.length - 1 ∧ l[k].kind = Lx.kEnd ∧ l[k].text = []
        · exact .inr (.inl ⟨hlt, hc.1, by have := hc.2; simpa [← hc.1] using this⟩)
        · exact .inl ⟨hlt, hc⟩
      · exact .inr (.inr (by omega))
    rcases hx with ⟨hlt, hnc⟩ | hx
    · obtain ⟨c0, c1, c2⟩ := H4.out k hlt
      rw [← hbr.cell (p := ⟨g, off + k * 3, none⟩) h3] at c0
      rw [← hbr.cell (p := ⟨g, off + k * 3 + 1, none⟩) h3] at c1
      rw [← hbr.cell (p := ⟨g, off + k * 3 + 2, none⟩) h3] at c2
      have htl := HTX.out l[k] (List.getElem_mem hlt)
      have HLONG := Lib.hid (Lx.not_good_long hlt hnc)
      have hnew : k + 1 = l.length → ¬ ∃ h0 : 0 < l.length, l[l.length - 1].kind = Lx.kEnd ∧ l[l.length - 1].text = [] := fun e ⟨h0, e1, e2⟩ => by
        refine hnc ⟨by omega, ?_⟩
        have e3 : l.length - 1 = k := by omega
        simp only [e3] at e1 e2
        exact ⟨e1, e2⟩
      have HNEW := Lib.hid hnew
      have hj := Lx.joinT_take hlt
      have htest : (((bs l[k].kind).toList == [101, 110, 100]) = false) ∨ ((((bs l[k].kind).toList == [101, 110, 100]) = true) ∧ (bs l[k].text).toList.isEmpty = false) ∨ ((((bs l[k].kind).toList == [101, 110, 100]) = true) ∧ (bs l[k].text).toList.isEmpty = true ∧ ((k : Int) == (l.length : Int) - 1) = false) := by
        have e0 : ((bs l[k].kind).toList == [101, 110, 100]) = decide (l[k].kind = Lx.kEnd) := by have h := bs_beq l[k].kind Lx.kEnd; rw [bs_toList Lx.kEnd] at h; exact h
        rw [e0, bs_toList]
        by_cases e1 : l[k].kind = Lx.kEnd
        · right
          by_cases e2 : l[k].text = []
          · right
            exact ⟨by simpa using e1, by rw [e2]; rfl, by rw [beq_eq_false_iff_ne]; intro e3; exact hnc ⟨by omega, e1, e2⟩⟩
          · left
            exact ⟨by simpa using e1, by cases h : l[k].text; exact absurd h e2; rfl⟩
        · left; simpa using e1
      have HTEST := Lib.hid htest
      have HCUT := Lib.hid (show True from trivial)
      clear hnc hnew htest
      generalize l[k] = t at *
      obtain ⟨kd, tx, at_⟩ := t
      dsimp only at *
      have hkI : (0 : Int) ≤ k := by omega
      by_cases hk0 : k = 0
      · have HJ := Lib.hid (show Lx.joinT (l.take (k + 1)) = Lx.joinT (l.take k) ++ tx by rw [hj, if_pos hk0, hk0]; rfl)
        have hkn : ¬ (0 : Int) < k := by omega
        clear hj hk0
        rcases HTEST.out with e1 | ⟨e1, e2⟩ | ⟨e1, e2, e3⟩
        all_goals
          go_wp2_with fail
          refine (write_any w.heap.size w.heap.size _ tx _ (isb_alloc HIB.out _) (by omega) (by simp; omega)).mono ?_
          rintro e w2 ⟨rfl, hib2, hb2, _⟩
          have hW2 : Below w.heap.size w w2 := (hbr.alloc hwr _).trans hb2
          rw [← HJ.out] at hib2
          have HI2 := Lib.hid hib2
          have c2' := (S.below hW2).c2
          clear hib2
          go_wp2_with fail
          refine (Tryd.Builder_Len_f w.heap.size w.heap.size _ w2 HI2.out).mono ?_
          rintro e w' ⟨rfl, hw⟩
          obtain rfl : w2 = w' := hw.symm
          rw [Lib.byteCells_length]
          by_cases hbig : 6000 < (Lx.joinT (l.take (k + 1))).length
          · have hbigI : (6000 : Int) < (Lx.joinT (l.take (k + 1))).length := by omega
            go_wp2_with fail
            go_region
            all_goals go_wp2_with fail
            all_goals go_ret2
            all_goals exact ⟨by go_grown, .inr ⟨HLONG.out hbig, rfl⟩⟩
          · have hbigI : ¬ (6000 : Int) < (Lx.joinT (l.take (k + 1))).length := by omega
            go_wp2_with fail
            go_roundw
            case rel => exact ⟨k + 1, by go_num, by omega, hW2, HI2.out, by omega, HNEW.out⟩
            case measure => simp [intOf]; omega
      · rw [if_neg hk0] at hj
        have HJ := Lib.hid (show Lx.joinT (l.take (k + 1)) = Lx.joinT (l.take k) ++ [32] ++ tx by rw [hj]; simp)
        clear hj
        have hkp : (0 : Int) < k := by omega
        rcases HTEST.out with e1 | ⟨e1, e2⟩ | ⟨e1, e2, e3⟩
        all_goals
          go_wp2_with fail
          refine (write_any w.heap.size w.heap.size _ [32] _ (isb_alloc HIB.out _) (by simp; omega) (by simp; omega)).mono ?_
          rintro e w1 ⟨rfl, hib1, hb1, ho1⟩
          have hW1 : Below w.heap.size w w1 := (hbr.alloc hwr _).trans hb1
          have hbox := ho1 wr.heap.size _ _ _ (heap_alloc_new _ _) (by have := hwr; have := (isb_lt HIB.out); omega) (by decide)
          have q1 : w1.cell? ⟨wr.heap.size, 1, none⟩ = some (.string (bs tx)) := by rw [Lib.cell_of_heap hbox]; rfl
          have HI1 := Lib.hid hib1
          have hz1 := hW1.size
          have hl32 : (Lx.joinT (l.take k) ++ [32]).length ≤ 6001 := by simp; omega
          clear hib1 ho1 hbox
          go_wp2_with fail
          refine (write_any w.heap.size w.heap.size _ tx _ (HI1.out) (by omega) (by omega)).mono ?_
          rintro e w2 ⟨rfl, hib2, hb2, _⟩
          have hW2 : Below w.heap.size w w2 := hW1.trans hb2
          rw [← HJ.out] at hib2
          have HI2 := Lib.hid hib2
          have c2' := (S.below hW2).c2
          clear hib2
          go_wp2_with fail
          refine (Tryd.Builder_Len_f w.heap.size w.heap.size _ w2 HI2.out).mono ?_
          rintro e w' ⟨rfl, hw⟩
          obtain rfl : w2 = w' := hw.symm
          rw [Lib.byteCells_length]
          by_cases hbig : 6000 < (Lx.joinT (l.take (k + 1))).length
          · have hbigI : (6000 : Int) < (Lx.joinT (l.take (k + 1))).length := by omega
            go_wp2_with fail
            go_region
            all_goals go_wp2_with fail
            all_goals go_ret2
            all_goals exact ⟨by go_grown, .inr ⟨HLONG.out hbig, rfl⟩⟩
          · have hbigI : ¬ (6000 : Int) < (Lx.joinT (l.take (k + 1))).length := by omega
            go_wp2_with fail
            go_roundw
            case rel => exact ⟨k + 1, by go_num, by omega, hW2, HI2.out, by omega, HNEW.out⟩
            case measure => simp [intOf]; omega
    · have hout : ∃ out : List UInt8, IsB w.heap.size w.heap.size out wr ∧ out.length ≤ 6000 ∧ (Lx.good l ↔ ∃ m, Lx.lexAll out = .ok m ∧ m.map Lx.ktk = l.map Lx.kti) ∧ (Lx.good l → out = Lx.joinT l.dropLast) := by
        rcases hx with ⟨hlt, hk1, he⟩ | hk1
        · refine ⟨_, HIB.out, hsz, ?_⟩
          rw [hk1] at hsz ⊢
          exact left_end hpos he hsz
        · refine ⟨_, HIB.out, hsz, ?_⟩
          have := HLAST.out hk1
          rw [hk1, List.take_length]
          exact left_full this
      obtain ⟨out, ho1, ho2, ho3, ho4⟩ := hout
      have HO1 := Lib.hid ho1
      have HO3 := Lib.hid ho3
      have HO4 := Lib.hid ho4
      clear ho1 ho3 ho4
      have hout6 : (bs out).size ≤ 6000 := by rw [Lib.size_eq, bs_data]; exact ho2
      rcases hx with ⟨hlt, hk1, he1, he2⟩ | hk1
      · obtain ⟨c0, c1, c2⟩ := H4.out k hlt
        rw [← hbr.cell (p := ⟨g, off + k * 3, none⟩) h3] at c0
        rw [← hbr.cell (p := ⟨g, off + k * 3 + 1, none⟩) h3] at c1
        rw [← hbr.cell (p := ⟨g, off + k * 3 + 2, none⟩) h3] at c2
        have e1 : ((bs l[k].kind).toList == [101, 110, 100]) = true := by
          have h := bs_beq l[k].kind Lx.kEnd
          rw [bs_toList Lx.kEnd] at h
          refine Eq.trans h ?_
          simp only [hk1]
          simpa using he1
        have e2 : (bs l[k].text).toList.isEmpty = true := by
          rw [bs_toList]
          simp only [hk1]
          rw [he2]; rfl
        have e3 : ((k : Int) == (l.length : Int) - 1) = true := by rw [beq_iff_eq]; omega
        clear he1 he2
        generalize l[k] = t at *
        obtain ⟨kd, tx, at_⟩ := t
        dsimp only at *
        have HK1 := Lib.hid hk1
        clear hk1
        go_wp2_with fail
        refine (Tryd.Builder_String_any_f w.heap.size w.heap.size out _ (by first | exact HO1.out | exact isb_alloc HO1.out _) (by first | exact hwr | (simp; omega))).mono ?_
        rintro e w1 ⟨rfl, hB1, hb1⟩
        have hW1 : Below w.heap.size w w1 := by first | exact hbr.trans hb1 | exact (hbr.alloc hwr _).trans hb1
        have HB1 := Lib.hid hB1
        clear hB1
        go_wp2_with fail
        cases hlx : Lx.lexAll out with
        | error a =>
          have HLX := Lib.hid hlx
          refine (Lex_bad H T (bs out) hout6 _ (hH.below hW1) hlx).mono ?_
          rintro e w2 ⟨N, u, rfl, _, _, _, hb2⟩
          have hW2 := hW1.trans (hb2.mono hW1.size)
          have c2' := (S.below hW2).c2
          clear hlx
          go_wp2_with fail
          go_region
          all_goals go_wp2_with fail
          all_goals go_ret2
          all_goals exact ⟨by go_grown, .inr ⟨(fun gd => by obtain ⟨m, x1, _⟩ := HO3.out.1 gd; rw [HLX.out] at x1; cases x1), rfl⟩⟩
        | ok m =>
          have HLX := Lib.hid hlx
          have hml := (lexN_many _ out _ m (Nat.le_refl _) (Lx.gap_le _) hlx).1
          refine (Lex_ok H T (bs out) hout6 _ (hH.below hW1) hlx).mono ?_
          rintro e w2 ⟨v2, rfl, htk, hb2⟩
          have hW2 := hW1.trans (hb2.mono hW1.size)
          have HT := Lib.hid (TisW.of_toks htk)
          clear hlx htk
          go_wp2_with fail
          refine (eqf_any _ v2 l (m.map asTI) _ (HV.out.below hW2) HT.out hl (by rw [List.length_map]; omega)).mono ?_
          rintro e w3 ⟨rfl, hb3⟩
          rw [kti_asTI]
          have hW3 := hW2.trans (hb3.mono hW2.size)
          have HB3 := Lib.hid (isb_below (isb_below HB1.out hb2) hb3)
          have hz3 := hW3.size
          by_cases hq : l.map Lx.kti = m.map Lx.ktk
          · have HG := Lib.hid (HO3.out.2 ⟨m, HLX.out, hq.symm⟩)
            rw [decide_eq_true hq]
            clear hq
            go_wp2_with fail
            refine (Tryd.Builder_String_any_f w.heap.size w.heap.size out _ HB3.out hz3).mono ?_
            rintro e w4 ⟨rfl, _, hb4⟩
            go_wp2_with fail
            go_ret2
            exact ⟨hW3.trans hb4, .inl ⟨HG.out, by rw [← HO4.out HG.out]; rfl⟩⟩
          · have HQ := Lib.hid hq
            rw [decide_eq_false hq]
            have c2' := (S.below hW3).c2
            clear hq
            go_wp2_with fail
            go_region
            all_goals go_wp2_with fail
            all_goals go_ret2
            all_goals exact ⟨by go_grown, .inr ⟨fun gd => by obtain ⟨m', x1, x2⟩ := HO3.out.1 gd; rw [HLX.out] at x1; cases x1; exact HQ.out x2.symm, rfl⟩⟩
      · have HK1 := Lib.hid hk1
        have hge : ¬ k < l.length := by omega
        clear hk1
        go_wp2_with fail
        refine (Tryd.Builder_String_any_f w.heap.size w.heap.size out _ (by first | exact HO1.out | exact isb_alloc HO1.out _) (by first | exact hwr | (simp; omega))).mono ?_
        rintro e w1 ⟨rfl, hB1, hb1⟩
        have hW1 : Below w.heap.size w w1 := by first | exact hbr.trans hb1 | exact (hbr.alloc hwr _).trans hb1
        have HB1 := Lib.hid hB1
        clear hB1
        go_wp2_with fail
        cases hlx : Lx.lexAll out with
        | error a =>
          have HLX := Lib.hid hlx
          refine (Lex_bad H T (bs out) hout6 _ (hH.below hW1) hlx).mono ?_
          rintro e w2 ⟨N, u, rfl, _, _, _, hb2⟩
          have hW2 := hW1.trans (hb2.mono hW1.size)
          have c2' := (S.below hW2).c2
          clear hlx
          go_wp2_with fail
          go_region
          all_goals go_wp2_with fail
          all_goals go_ret2
          all_goals exact ⟨by go_grown, .inr ⟨(fun gd => by obtain ⟨m, x1, _⟩ := HO3.out.1 gd; rw [HLX.out] at x1; cases x1), rfl⟩⟩
        | ok m =>
          have HLX := Lib.hid hlx
          have hml := (lexN_many _ out _ m (Nat.le_refl _) (Lx.gap_le _) hlx).1
          refine (Lex_ok H T (bs out) hout6 _ (hH.below hW1) hlx).mono ?_
          rintro e w2 ⟨v2, rfl, htk, hb2⟩
          have hW2 := hW1.trans (hb2.mono hW1.size)
          have HT := Lib.hid (TisW.of_toks htk)
          clear hlx htk
          go_wp2_with fail
          refine (eqf_any _ v2 l (m.map asTI) _ (HV.out.below hW2) HT.out hl (by rw [List.length_map]; omega)).mono ?_
          rintro e w3 ⟨rfl, hb3⟩
          rw [kti_asTI]
          have hW3 := hW2.trans (hb3.mono hW2.size)
          have HB3 := Lib.hid (isb_below (isb_below HB1.out hb2) hb3)
          have hz3 := hW3.size
          by_cases hq : l.map Lx.kti = m.map Lx.ktk
          · have HG := Lib.hid (HO3.out.2 ⟨m, HLX.out, hq.symm⟩)
            rw [decide_eq_true hq]
            clear hq
            go_wp2_with fail
            refine (Tryd.Builder_String_any_f w.heap.size w.heap.size out _ HB3.out hz3).mono ?_
            rintro e w4 ⟨rfl, _, hb4⟩
            go_wp2_with fail
            go_ret2
            exact ⟨hW3.trans hb4, .inl ⟨HG.out, by rw [← HO4.out HG.out]; rfl⟩⟩
          · have HQ := Lib.hid hq
            rw [decide_eq_false hq]
            have c2' := (S.below hW3).c2
            clear hq
            go_wp2_with fail
            go_region
            all_goals go_wp2_with fail
            all_goals go_ret2
            all_goals exact ⟨by go_grown, .inr ⟨fun gd => by obtain ⟨m', x1, x2⟩ := HO3.out.1 gd; rw [HLX.out] at x1; cases x1; exact HQ.out x2.symm, rfl⟩⟩
end Go.Proofs.YtminjdmgfiellaaDoor
