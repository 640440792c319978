/- Walks: slim.divides, slim.own. -/
import Derived.Test.YthihoafemahgmaaDoorRw
import Derived.Test.YthihoafemahgmaaDoorFormA
import Derived.Test.YthihoafemahgmaaDoorSlM
import Derived.Test.YthihoafemahgmaaDoorKind
import Derived.Deep.RegionLaw
namespace Go.Proofs.YthihoafemahgmaaDoor
open Go.RowKit Mx
set_option maxHeartbeats 1000000 in
set_option maxRecDepth 100000 in
theorem divides_any : ∀ (e : Ex), e.parts ≤ 1000000000000 → ∀ (H : Kn) (v : Value), ExV H e v → ∀ w : World, H.In w →
    Calls Tryd.prog 17 #[v] w fun r w' => r = .returned (.bool (dividesE e)) ∧ Below w.heap.size w w' := by
  refine Ex.ind fun o n s l ih hp H v hv w hH => ?_
  obtain ⟨u, rfl, hu⟩ := hv
  simp only [Ex.op, Ex.n, Ex.s, Ex.l, Ex.parts] at hu hp ⊢
  have hb : Below w.heap.size w (w.alloc (.cells #[.string o, .int .i64 n, .string s, u] 45)) := (Below.refl _ _).alloc (Nat.le_refl _) _
  have hcall := containsE_any 17 #[] (fun w' => H.In w') H dividesE l u ⟨fun _ _ => by kernel_rfl, fun w w' hI hb => hI.below hb, fun e he v hv w hI => ih e he (by have := parts_mem he; omega) H v hv w hI⟩ hu _ (hH.below hb) (hH.below hb)
  have hd : l.any dividesE = dividesL l := by
    clear ih hp hu hcall
    induction l with
    | nil => rfl
    | cons e l ih => simp only [List.any_cons, dividesL, ih]
  have HB := Lib.hid hb
  obtain ⟨a, c, rfl⟩ := hu.len
  clear hb hu
  rcases Bool.eq_false_or_eq_true (o.toList == [47]) with p1 | p1
  · have hr : dividesE (.mk o n s l) = true := by
      have : o = oDiv := Classical.byContradiction fun hn => by rw [not_lit [47] hn] at p1; cases p1
      simp [dividesE, this]
    rw [hr]
    go_enter Tryd.func17, Tryd.ntmps17
    go_wp2_with fail
    go_ret
    exact ⟨rfl, HB.out⟩
  rcases Bool.eq_false_or_eq_true (o.toList == [109, 111, 100]) with p2 | p2
  · have hr : dividesE (.mk o n s l) = true := by
      have : o = oMod := Classical.byContradiction fun hn => by rw [not_lit [109, 111, 100] hn] at p2; cases p2
      simp [dividesE, this]
    rw [hr]
    go_enter Tryd.func17, Tryd.ntmps17
    go_wp2_with fail
    go_ret
    exact ⟨rfl, HB.out⟩
  · have hr : dividesE (.mk o n s l) = dividesL l := by
      have h1 : o ≠ oDiv := fun e => by rw [e] at p1; exact Bool.noConfusion ((show (oDiv.toList == [47]) = true from by kernel_rfl).symm.trans p1)
      have h2 : o ≠ oMod := fun e => by rw [e] at p2; exact Bool.noConfusion ((show (oMod.toList == [109, 111, 100]) = true from by kernel_rfl).symm.trans p2)
      simp [dividesE, h1, h2]
    rw [hd] at hcall
    rw [hr]
    generalize dividesL l = bb at *
    go_enter Tryd.func17, Tryd.ntmps17
    go_wp2_with fail
    refine hcall.mono ?_
    rintro r w1 ⟨rfl, hb1⟩
    go_wp2_with fail
    go_ret
    exact ⟨rfl, HB.out.trans (hb1.mono HB.out.size)⟩
def UnF (o : Obj) : Prop := ∃ c t, o = .cells c t (0, 0)
def newU (n : Nat) (w : World) : Kn := fun b => if b < n then none else match w.heap[b]? with
  | some (.cells c t (0, 0)) => some (.cells c t (0, 0))
  | _ => none
def joinU (K : Kn) (n : Nat) (w : World) : Kn := fun b => if b < n then K b else newU n w b
def UF (K : Kn) : Prop := ∀ b o, K b = some o → UnF o
theorem newU_get {n : Nat} {w : World} {b : Nat} {o : Obj} (h : newU n w b = some o) : n ≤ b ∧ w.heap[b]? = some o ∧ UnF o := by
  unfold newU at h
  split at h
  · cases h
  · rename_i hb
    split at h
    · rename_i c t hc
      cases h
      exact ⟨by omega, hc, c, t, rfl⟩
    · cases h
theorem newU_of {n : Nat} {w : World} {b : Nat} {o : Obj} (hb : n ≤ b) (h : w.heap[b]? = some o) (hu : UnF o) : newU n w b = some o := by
  obtain ⟨c, t, rfl⟩ := hu
  unfold newU
  rw [if_neg (by omega), h]
  rfl
theorem newU_in (n : Nat) (w : World) : (newU n w).In w := fun _ _ e => (newU_get e).2.1
theorem newU_uf (n : Nat) (w : World) : UF (newU n w) := fun _ _ e => (newU_get e).2.2
theorem newU_low {n : Nat} {w : World} {b : Nat} (hb : b < n) : newU n w b = none := by unfold newU; rw [if_pos hb]
theorem le_newU {K : Kn} {n : Nat} {w : World} (h : K.In w) (hl : ∀ b, b < n → K b = none) (hu : UF K) : K.le (newU n w) := fun b o e =>
  newU_of (Nat.le_of_not_lt fun hb => by rw [hl b hb] at e; cases e) (h b o e) (hu b o e)
theorem ju_at {K : Kn} {n : Nat} {w : World} {M : Nat} (h : M < n) : joinU K n w M = K M := by unfold joinU; rw [if_pos h]
theorem ju_ge {K : Kn} {n : Nat} {w : World} {M : Nat} (h : n ≤ M) : joinU K n w M = newU n w M := by unfold joinU; rw [if_neg (by omega)]
theorem joinU_le {K : Kn} {w : World} (h : K.In w) (w' : World) : K.le (joinU K w.heap.size w') := fun b o e => by rw [ju_at (h.lt e)]; exact e
theorem joinU_new (K : Kn) (n : Nat) (w : World) : (newU n w).le (joinU K n w) := fun b o e => by rw [ju_ge (newU_get e).1]; exact e
theorem joinU_in {K : Kn} {w w' : World} (h : K.In w) (hb : Below w.heap.size w w') : (joinU K w.heap.size w').In w' := fun b o e => by
  rcases Nat.lt_or_ge b w.heap.size with h1 | h1
  · rw [ju_at h1] at e; exact (hb.block b h1).trans (h b o e)
  · rw [ju_ge h1] at e; exact (newU_get e).2.1
theorem joinU_uf {K : Kn} (h : UF K) (n : Nat) (w : World) : UF (joinU K n w) := fun b o e => by
  rcases Nat.lt_or_ge b n with h1 | h1
  · rw [ju_at h1] at e; exact h b o e
  · rw [ju_ge h1] at e; exact (newU_get e).2.2
theorem newU_mono {n : Nat} {w w' : World} (hb : Below w.heap.size w w') : (newU n w).le (newU n w') := fun b o e => by
  obtain ⟨h1, h2, h3⟩ := newU_get e
  exact newU_of h1 ((hb.block b (Array.getElem?_eq_some_iff.1 h2).1).trans h2) h3
theorem exsU_of_own {K : Kn} {w : World} {base : Nat} {t : TypeId} {v : Value} {l : List Ex} {xs : List Value} (hK : K.In w) (hu : UF K) (h : w.ownsRow base t 4 v l.length xs) (hx : XsAt K l xs) (hr : ∀ g, v.ownBlock = some g → K g = none) :
    ∃ K', K.le K' ∧ K'.In w ∧ ExsV K' l v ∧ (∀ b, b < base → K' b = K b) ∧ UF K' := by
  by_cases h0 : l = []
  · obtain ⟨a, c, h1, _⟩ := own_len h
    exact ⟨K, Kn.le_refl K, hK, .inl ⟨h0, a, c, by rw [h1, h0]; rfl⟩, fun _ _ => rfl, hu⟩
  · rcases h.2 with ⟨_, h2⟩ | ⟨g, cap, cur, h1, h2, h3, h4, h5, h6, h7⟩
    · exact absurd (List.eq_nil_of_length_eq_zero h2) h0
    have hg : K g = none := hr g (by rw [h1]; rfl)
    obtain ⟨g', cap', e1, e2, e3, _, _, e4⟩ := own_shape h (List.length_pos_iff.2 h0)
    rw [h1] at e1
    simp only [Value.slice.injEq, Option.some.injEq, Addr.mk.injEq, true_and, and_true] at e1
    obtain ⟨rfl, rfl⟩ := e1
    refine ⟨K.add g (.cells cur t (0, 0)), Kn.le_add hg, hK.add h3, .inr ⟨g, 0, cap, h1, h4, h5, hx.at (Kn.le_add hg) fun j u hj => ?_⟩, fun b hb => Kn.add_other K _ (by omega), fun b o e => ?_⟩
    · have h8 := e4 j u hj
      unfold Kn.cell
      rw [Kn.add_self, Nat.zero_add]
      simp only [World.cell?, h3] at h8
      exact h8
    · by_cases hb : b = g
      · rw [hb, Kn.add_self] at e
        exact ⟨cur, t, (Option.some.inj e).symm⟩
      · rw [Kn.add_other _ _ hb] at e
        exact hu b o e
structure OwI (w0 wr : World) (B : Nat) (o : ByteArray) (n : Int) (s : ByteArray) (l : List Ex) (k : Nat) (u : Value) (xs : List Value) (K : Kn) : Prop where
  below : Below B w0 wr
  box : wr.heap[B]? = some (.cells #[.string o, .int .i64 n, .string s, u] 45 (0, 0))
  res : wr.heap[B + 1]? = some (.cells #[.string ⟨#[]⟩, .int .i64 0, .string ⟨#[]⟩, .slice none 0 0] 45 (0, 0))
  row : wr.ownsRow (B + 1 + 1) 45 4 u k xs
  isin : K.In wr
  low : ∀ b, b < B + 1 + 1 → K b = none
  xs : XsAt K (l.take k) xs
  noR : ∀ g, u.ownBlock = some g → K g = none
  uf : UF K
section
variable {w0 wr : World} {B : Nat} {o : ByteArray} {n : Int} {s : ByteArray} {l : List Ex} {k : Nat} {u : Value} {xs : List Value} {K : Kn}
theorem OwI.size (h : OwI w0 wr B o n s l k u xs K) : B + 1 < wr.heap.size := (Array.getElem?_eq_some_iff.1 h.res).1
theorem OwI.later {w' : World} (h : OwI w0 wr B o n s l k u xs K) (hb : Below wr.heap.size wr w') : OwI w0 w' B o n s l k u xs K := by
  have hs := h.size
  exact ⟨h.below.trans (hb.mono (by omega)), (hb.block _ (by omega)).trans h.box, (hb.block _ (by omega)).trans h.res, own_below h.row hb, h.isin.below hb, h.low, h.xs, h.noR, h.uf⟩
theorem OwI.alloc (h : OwI w0 wr B o n s l k u xs K) (ob : Obj) : OwI w0 (wr.alloc ob) B o n s l k u xs K := h.later ((Below.refl _ _).alloc (Nat.le_refl _) ob)
theorem OwI.drew (h : OwI w0 wr B o n s l k u xs K) : OwI w0 wr.drew B o n s l k u xs K := h.later ((Below.refl _ _).drew)
theorem OwI.next {w' : World} (h : OwI w0 wr B o n s l k u xs K) (hb : Below wr.heap.size wr w') : OwI w0 w' B o n s l k u xs (joinU K wr.heap.size w') := by
  have hs := h.size
  have h2 := h.later hb
  exact ⟨h2.below, h2.box, h2.res, h2.row, joinU_in h.isin hb, fun b hb2 => by rw [ju_at (by omega)]; exact h.low b hb2, h.xs.le (joinU_le h.isin w'), fun g hg => by rw [ju_at (h.row.lt g hg).2]; exact h.noR g hg, joinU_uf h.uf _ _⟩
theorem OwI.step {w3 : World} {g cap' : Nat} (h : OwI w0 wr B o n s l k u xs K) (hk : k < l.length) {x : Ex} (hx : l[k] = x) {a : Option Addr} {c : Nat} (hp : ExsV K x.l (.slice a x.l.length c))
    (hown : w3.ownsRow (B + 1 + 1) 45 4 (.slice (some ⟨g, 0, none⟩) (k + 1) cap') (k + 1) (xs ++ [.string x.op, .int .i64 x.n, .string x.s, .slice a x.l.length c])) (hg : wr.grownBy w3 u.ownBlock) (hat : u.ownBlock = some g ∨ g = wr.heap.size) :
    w3.cell? ⟨B, 3, none⟩ = some u ∧ w3.frozen? ⟨B, 3, none⟩ = false ∧ OwI w0 (w3.setCell ⟨B, 3, none⟩ (.slice (some ⟨g, 0, none⟩) (k + 1) cap')) B o n s l (k + 1) (.slice (some ⟨g, 0, none⟩) (k + 1) cap') (xs ++ [.string x.op, .int .i64 x.n, .string x.s, .slice a x.l.length c]) K := by
  subst hx
  have hs := h.size
  have hb : ∀ i, i < B + 1 + 1 → w3.heap[i]? = wr.heap[i]? := fun i hi => hg.block i (by omega) (fun e => own_ge h.row hi e.symm)
  have hbx : w3.heap[B]? = _ := (hb _ (by omega)).trans h.box
  refine ⟨by simp [World.cell?, hbx], by simp [World.frozen?, hbx], (h.below.grown hg (by omega) (fun q hq => by have := (h.row.lt q hq).1; omega)).setCell (p := ⟨B, 3, none⟩) (Nat.le_refl B) _, ?_, ?_, own_setCell hown (own_ge (b := B) hown (by omega)) _, (h.isin.grown hg h.noR).setCell (a := ⟨B, 3, none⟩) (h.low B (by omega)) _, h.low, ?_, fun q hq => ?_, h.uf⟩
  · rw [heap_setCell_same _ _ _ _ _ _ _ hbx]; rfl
  · rw [Below.heap_setCell _ ⟨B, 3, none⟩ _ (B + 1) (by show B + 1 ≠ B; omega)]
    exact (hb _ (by omega)).trans h.res
  · rw [take_snoc _ _ hk]
    exact h.xs.append ⟨a, c, [], rfl, hp, rfl⟩
  · have hqq : g = q := by simpa [Value.ownBlock] using hq
    subst hqq
    rcases hat with h1 | h1
    · exact h.noR g h1
    · rw [h1]; exact h.isin.isNone (Nat.le_refl _)
theorem OwI.cells (h : OwI w0 wr B o n s l k u xs K) : wr.cell? ⟨B, 0, none⟩ = some (.string o) ∧ wr.cell? ⟨B, 1, none⟩ = some (.int .i64 n) ∧ wr.cell? ⟨B, 2, none⟩ = some (.string s) ∧ wr.cell? ⟨B, 3, none⟩ = some u := by
  simp [World.cell?, h.box]
end
set_option maxHeartbeats 4000000 in
set_option maxRecDepth 100000 in
theorem own_any : ∀ (e : Ex) (v : Value) (H : Kn), ExV H e v → e.parts ≤ 1000000000000 → ∀ w : World, H.In w →
    Calls Tryd.prog 49 #[v] w fun r w' => ∃ v', r = .returned v' ∧ ExV (newU w.heap.size w') e v' ∧ Below w.heap.size w w' := by
  refine Ex.ind fun o n s l ih v H hv hp w hH => ?_
  obtain ⟨u, rfl, hu⟩ := hv
  simp only [Ex.op, Ex.n, Ex.s, Ex.l] at hu ⊢
  obtain ⟨a, cap, rfl⟩ := hu.len
  have hlp := len_partsL l
  simp only [Ex.parts] at hp
  obtain ⟨i0, hi0, hz0, hz1, hz2⟩ := info_parts Tryd.infoEx
  have HU := Lib.hid hu
  have IH := Lib.hid ih
  clear hu ih
  go_enter Tryd.func49, Tryd.ntmps49
  go_wp2_with fail
  have hW0 : Below w.heap.size w ((w.alloc (.cells #[.string o, .int .i64 n, .string s, .slice none 0 0] 45)).alloc (.cells #[.string ⟨#[]⟩, .int .i64 0, .string ⟨#[]⟩, .slice none 0 0] 45)) := ((Below.refl _ _).alloc (Nat.le_refl _) _).alloc (by simp) _
  have hP0 : ((w.alloc (.cells #[.string o, .int .i64 n, .string s, .slice none 0 0] 45)).alloc (.cells #[.string ⟨#[]⟩, .int .i64 0, .string ⟨#[]⟩, .slice none 0 0] 45)).heap[w.heap.size]? = some (.cells #[.string o, .int .i64 n, .string s, .slice none 0 0] 45 (0, 0)) := by
    rw [Below.heap_alloc _ _ _ (by simp)]; exact heap_alloc_new _ _
  have hR0 : ((w.alloc (.cells #[.string o, .int .i64 n, .string s, .slice none 0 0] 45)).alloc (.cells #[.string ⟨#[]⟩, .int .i64 0, .string ⟨#[]⟩, .slice none 0 0] 45)).heap[w.heap.size + 1]? = some (.cells #[.string ⟨#[]⟩, .int .i64 0, .string ⟨#[]⟩, .slice none 0 0] 45 (0, 0)) := by
    rw [show w.heap.size + 1 = (w.alloc (.cells #[.string o, .int .i64 n, .string s, .slice none 0 0] 45)).heap.size from by simp]; exact heap_alloc_new _ _
  generalize ((w.alloc (.cells #[.string o, .int .i64 n, .string s, .slice none 0 0] 45)).alloc (.cells #[.string ⟨#[]⟩, .int .i64 0, .string ⟨#[]⟩, .slice none 0 0] 45)) = W0 at *
  have HS0 := Lib.hid (show OwI w W0 w.heap.size o n s l 0 (.slice none 0 0) [] (fun _ => none) from
    ⟨hW0, hP0, hR0, World.ownsRow_nil _ _ _ _, fun b o e => (by cases e), fun _ _ => rfl, rfl, fun g hg => by simp [Value.ownBlock] at hg, fun b o e => (by cases e)⟩)
  clear hW0 hP0 hR0
  go_loopw [11] (fun i wr => ∃ (k : Nat) (u : Value) (xs : List Value) (K : Kn), i = .int .i64 k ∧ k ≤ l.length ∧ OwI w wr w.heap.size o n s l k u xs K) (fun i _ => l.length - (intOf i).toNat)
  case atStart => exact ⟨0, _, _, _, rfl, Nat.zero_le _, HS0.out⟩
  case round =>
    clear HS0
    obtain ⟨k, u, xs, K, rfl, hk, hS⟩ := hrel
    have HS := Lib.hid hS
    clear hS
    by_cases hkl : k < l.length
    · obtain ⟨b, off, ax, cx, rfl, c0, c1, c2, c3, hx⟩ := HU.out.at hkl
      obtain ⟨x, hxe⟩ : ∃ x, l[k] = x := ⟨_, rfl⟩
      have hpx : x.parts ≤ 1000000000000 := by have := getElem_parts l k hkl; rw [hxe] at this; omega
      have hmem : x ∈ l := by rw [← hxe]; exact List.getElem_mem hkl
      rw [hxe] at c0 c1 c2 c3 hx
      have hHr := hH.below HS.out.below
      have c0 := hHr.cell c0
      have c1 := hHr.cell c1
      have c2 := hHr.cell c2
      have c3 := hHr.cell c3
      have hex := hx
      have hSA := HS.out.alloc (.cells #[.string x.op, .int .i64 x.n, .string x.s, .slice ax x.l.length cx] 45)
      have hHA := hHr.below ((Below.refl wr.heap.size wr).alloc (Nat.le_refl _) (.cells #[.string x.op, .int .i64 x.n, .string x.s, .slice ax x.l.length cx] 45))
      have hbx := heap_alloc_new wr (.cells #[.string x.op, .int .i64 x.n, .string x.s, .slice ax x.l.length cx] 45)
      have HXE := Lib.hid hxe
      have HSA := Lib.hid hSA
      have HHA := Lib.hid hHA
      have HBX := Lib.hid hbx
      have HEX := Lib.hid hex
      clear hxe hSA hHA hbx hHr hx hex
      have q3 : (wr.alloc (.cells #[.string x.op, .int .i64 x.n, .string x.s, .slice ax x.l.length cx] 45)).drew.cell? ⟨w.heap.size, 3, none⟩ = some u := HSA.out.cells.2.2.2
      obtain ⟨y0, y1, y2, y3, _⟩ := cells4_of HBX.out
      have hSD := HSA.out.drew
      have hHD := HHA.out.drew
      go_wp2_with fail
      go_region_law (first | (go_simp; go_at_call 49; refine (IH.out x hmem _ H HEX.out hpx _ hHD).mono ?_; rintro r wc ⟨v', rfl, hv2, hst⟩; obtain ⟨u2, rfl, hu2⟩ := hv2; obtain ⟨ax2, cx2, rfl⟩ := hu2.len; have hu2 := hu2.le (joinU_new K _ wc); have hS2 := OwI.next hSD hst; have q5 := hS2.cells.2.2.2; have q6 := fun o => (hS2.alloc o).cells.2.2.2) | (refine step_append_lies _ (by rfl) _ _ _ (by rfl) (w.heap.size + 1 + 1) 45 i0 _ 4 64 Tryd.underlying32 hi0 hz0 hz1 hz2 rfl (by omega) u k xs (by rfl) (OwI.row (OwI.alloc (by assumption) _)) ⟨_, 0, none⟩ 1 1 [.string x.op, .int .i64 x.n, .string x.s, .slice ax2 x.l.length cx2] (by rfl) (by rfl) (by exact World.news_of_block (heap_alloc_new _ _)) (by simp [Value.oneCell']) (by omega) (by unfold maxLen; omega) (by omega) (OwI.size (OwI.alloc (by assumption) _)) _ rfl ?_; intro gg cap' w3 hown hgrow hat hltg; obtain ⟨hf1, hf2, hf3⟩ := OwI.step (OwI.alloc (by assumption) _) hkl HXE.out hu2 hown hgrow hat))
      all_goals generalize World.setCell _ _ _ = W at hf3 ⊢
      all_goals go_wp2_with fail
      all_goals go_roundw
      all_goals first | exact ⟨k + 1, _, _, _, by go_num, by omega, hf3⟩ | (simp [intOf]; omega)
    · obtain rfl : k = l.length := by omega
      obtain ⟨au, cu, rfl, _⟩ := own_len HS.out.row
      have hxs : XsAt K (List.take l.length l) xs := HS.out.xs
      rw [List.take_of_length_le (Nat.le_refl _)] at hxs
      obtain ⟨K', hle, hin, hv, hfr, huf⟩ := exsU_of_own HS.out.isin HS.out.uf HS.out.row hxs HS.out.noR
      obtain ⟨q0, q1, q2, q3⟩ := HS.out.cells
      obtain ⟨r0, r1, r2, r3, f0, f1, f2, f3, _⟩ := cells4_of HS.out.res
      have hR2 := set4_of HS.out.res (.string o) (.int .i64 n) (.string s) (.slice au l.length cu)
      have HR2 := Lib.hid hR2
      have hlow : ∀ b, b < w.heap.size + 1 + 1 → K' b = none := fun b hb => (hfr b hb).trans (HS.out.low b hb)
      have hKR := hlow (w.heap.size + 1) (by omega)
      have hin2 := (((hin.setCell (a := ⟨w.heap.size + 1, 0, none⟩) hKR (.string o)).setCell (a := ⟨w.heap.size + 1, 1, none⟩) hKR (.int .i64 n)).setCell (a := ⟨w.heap.size + 1, 2, none⟩) hKR (.string s)).setCell (a := ⟨w.heap.size + 1, 3, none⟩) hKR (.slice au l.length cu)
      have HB2 := Lib.hid ((((HS.out.below.setCell (p := ⟨w.heap.size + 1, 0, none⟩) (Nat.le_succ _) (.string o)).setCell (p := ⟨w.heap.size + 1, 1, none⟩) (Nat.le_succ _) (.int .i64 n)).setCell (p := ⟨w.heap.size + 1, 2, none⟩) (Nat.le_succ _) (.string s)).setCell (p := ⟨w.heap.size + 1, 3, none⟩) (Nat.le_succ _) (.slice au l.length cu))
      have HV := Lib.hid (hv.le (le_newU hin2 (n := w.heap.size) (fun b hb => hlow b (by omega)) huf))
      clear hR2 hv hin hfr hle hlow hin2 hKR hxs
      go_wp2_with fail
      obtain ⟨e0, e1, e2, e3, _⟩ := cells4_of HR2.out
      refine bodyPost_ret (v := .agg #[.string o, .int .i64 n, .string s, .slice au l.length cu]) (by simp [results, Tryd.results49, go_sem, e0, e1, e2, e3]) rfl ?_
      exact ⟨_, rfl, ⟨_, rfl, HV.out⟩, HB2.out⟩
end Go.Proofs.YthihoafemahgmaaDoor
