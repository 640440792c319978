/- Walks: slim.names, with a function value that sees names. -/
import Derived.Test.YthihoafemahgmaaDoorSlA
import Derived.Test.YthihoafemahgmaaDoorGraphA
import Derived.Test.YthihoafemahgmaaDoorFormA
import Derived.Lib.SliceRun
namespace Go.Proofs.YthihoafemahgmaaDoor
open Go.RowKit Mx
def FrE (w w' : World) : Prop := ∀ (b : Nat) (c : Array Value) (fr : Nat × Nat), w.heap[b]? = some (Obj.cells c 45 fr) → w'.heap[b]? = some (Obj.cells c 45 fr)
theorem FrE.trans {a b c : World} (h : FrE a b) (k : FrE b c) : FrE a c := fun i x fr e => k i x fr (h i x fr e)
theorem FrE.of_below {w w' : World} (h : Below w.heap.size w w') : FrE w w' := fun b c fr e => (h.block b (Array.getElem?_eq_some_iff.1 e).1).trans e
structure SeerN (k : Nat) (cap : Array Value) (H : Kn) (I : List ByteArray → World → Prop) : Prop where
  enters : Enters Tryd.prog k
  next : ∀ acc w w', I acc w → Below w.heap.size w w' → I acc w'
  isin : ∀ acc w, I acc w → H.In w
  call : ∀ acc w (s : ByteArray), acc.length ≤ 1000000000 → I acc w → Calls Tryd.prog k (#[.string s] ++ cap) w fun r w' => r = .returned (.tuple #[]) ∧ I (acc ++ [s]) w' ∧ FrE w w'
theorem namesXL_take : ∀ (l : List Ex) (k : Nat) (h : k < l.length), namesXL (l.take (k + 1)) = namesXL (l.take k) ++ namesX l[k]
  | e :: l, 0, _ => by simp [namesXL]
  | e :: l, k + 1, h => by
    have := namesXL_take l k (by simpa using h)
    simp only [List.take_succ_cons, namesXL, List.getElem_cons_succ]
    rw [this, List.append_assoc]
mutual
theorem namesX_len : ∀ e : Ex, (namesX e).length ≤ e.parts
  | .mk o n s l => by
    have h := namesXL_len l
    simp only [namesX, Ex.parts, List.length_append]
    split
    · simp; omega
    · simp; omega
theorem namesXL_len : ∀ l : List Ex, (namesXL l).length ≤ Ex.partsL l
  | [] => by simp [namesXL]
  | e :: l => by
    have h1 := namesX_len e
    have h2 := namesXL_len l
    simp only [namesXL, Ex.partsL, List.length_append]
    omega
end
theorem partsL_tk : ∀ (l : List Ex) (k : Nat), Ex.partsL (l.take k) ≤ Ex.partsL l
  | [], k => by simp
  | e :: l, 0 => by simp [Ex.partsL]
  | e :: l, k + 1 => by have := partsL_tk l k; simp only [List.take_succ_cons, Ex.partsL]; omega
theorem partsL_tkl : ∀ (l : List Ex) (k : Nat) (h : k < l.length), Ex.partsL (l.take k) + l[k].parts ≤ Ex.partsL l
  | e :: l, 0, _ => by simp [Ex.partsL]
  | e :: l, k + 1, h => by have := partsL_tkl l k (by simpa using h); simp only [List.take_succ_cons, Ex.partsL, List.getElem_cons_succ]; omega
set_option maxHeartbeats 2000000 in
set_option maxRecDepth 100000 in
theorem snames_any (k : Nat) (cap : Array Value) (H : Kn) (I : List ByteArray → World → Prop) (hS : SeerN k cap H I) :
    ∀ (e : Ex) (v : Value), ExV H e v → ∀ acc w, acc.length + e.parts ≤ 1000000000 → I acc w →
    Calls Tryd.prog 19 #[v, .func (.func k) #[] cap] w fun r w' => r = .returned (.tuple #[]) ∧ I (acc ++ namesX e) w' ∧ FrE w w' := by
  refine Ex.ind fun o n s l ih v hv acc w hlen hI => ?_
  obtain ⟨u, rfl, hu⟩ := hv
  simp only [Ex.op, Ex.n, Ex.s, Ex.l] at hu ⊢
  obtain ⟨a, c, rfl⟩ := hu.len
  have hen := hS.enters
  unfold Enters at hen
  have hb1 : Below w.heap.size w (w.alloc (.cells #[.string o, .int .i64 n, .string s, .slice a l.length c] 45)) := (Below.refl _ _).alloc (Nat.le_refl _) _
  have HP1 := Lib.hid (heap_alloc_new w (.cells #[.string o, .int .i64 n, .string s, .slice a l.length c] 45))
  have HF1 := Lib.hid (FrE.of_below hb1)
  have HI1 := Lib.hid (hS.next _ _ _ hI hb1)
  have HU := Lib.hid hu
  have HIH := Lib.hid ih
  have HL := Lib.hid (show acc.length + 1 + Ex.partsL l ≤ 1000000000 from by simp only [Ex.parts] at hlen; omega)
  have hll : l.length ≤ 1000000000 := by have := len_partsL l; have := HL.out; omega
  clear hu hI ih hlen hb1
  obtain ⟨pre, hpr⟩ : ∃ pre, pre = (if o = oName then [s] else []) := ⟨_, rfl⟩
  have HN := Lib.hid (show namesX (.mk o n s l) = pre ++ namesXL l from by rw [namesX, hpr])
  have HPL := Lib.hid (show pre.length ≤ 1 from by rw [hpr]; split <;> simp)
  have hway : (o.toList == [110, 97, 109, 101]) = false ∧ pre = [] ∨ (o.toList == [110, 97, 109, 101]) = true ∧ pre = [s] := by
    by_cases h : o = oName
    · exact .inr ⟨by rw [← dLit]; simpa using h, by rw [hpr, if_pos h]⟩
    · exact .inl ⟨not_lit _ h, by rw [hpr, if_neg h]⟩
  clear hpr
  obtain ⟨p0, p1, p2, p3, _⟩ := cells4_of HP1.out
  rcases hway with ⟨t3, rfl⟩ | ⟨t3, rfl⟩
  · go_enter Tryd.func19, Tryd.ntmps19
    go_wp2_with fail
    go_loopw [16] (fun i wr => ∃ q : Nat, i = .int .i64 q ∧ q ≤ l.length ∧ I (acc ++ ([] ++ namesXL (l.take q))) wr ∧ FrE w wr) (fun i _ => l.length - (intOf i).toNat)
    case atStart => exact ⟨0, rfl, Nat.zero_le _, by simpa [namesXL] using HI1.out, HF1.out⟩
    case round =>
      obtain ⟨q, rfl, hq, hIr, hFr⟩ := hrel
      have HIr := Lib.hid hIr
      have HFr := Lib.hid hFr
      clear hIr hFr
      by_cases hql : q < l.length
      · obtain ⟨b, off, ax, cx, rfl, c0, c1, c2, c3, hx⟩ := ExsV.at HU.out hql
        have hin := hS.isin _ _ HIr.out
        have c0 := hin.cell c0
        have c1 := hin.cell c1
        have c2 := hin.cell c2
        have c3 := hin.cell c3
        have hmem := List.getElem_mem hql
        have hpl := partsL_tkl l q hql
        have HT := Lib.hid (namesXL_take l q hql)
        have hnl := namesXL_len (l.take q)
        generalize l[q] = x at *
        have hb2 : Below wr.heap.size wr (wr.alloc (.cells #[.string x.op, .int .i64 x.n, .string x.s, .slice ax x.l.length cx] 45)) := (Below.refl _ _).alloc (Nat.le_refl _) _
        have HX := Lib.hid (HIH.out x hmem _ hx (acc ++ ([] ++ namesXL (l.take q))) _ (by simp only [List.length_append, List.length_nil]; have := HL.out; omega) (hS.next _ _ _ HIr.out hb2))
        have HFX := Lib.hid (HFr.out.trans (FrE.of_below hb2))
        clear hx hin hb2
        go_wp2_with fail
        refine HX.out.mono ?_
        rintro r w3 ⟨rfl, hI3, hF3⟩
        have HI3 := Lib.hid hI3
        have HF3 := Lib.hid (HFX.out.trans hF3)
        clear hI3 hF3 HX
        go_wp2_with fail
        go_roundw
        case rel => exact ⟨q + 1, by go_num, by omega, by rw [HT.out]; simpa [List.append_assoc] using HI3.out, HF3.out⟩
        case measure => simp [intOf]; omega
      · obtain rfl : q = l.length := by omega
        have hIr := HIr.out
        rw [List.take_of_length_le (Nat.le_refl _)] at hIr
        have HIr := Lib.hid hIr
        clear hIr
        go_wp2_with fail
        first | go_end0 | (refine bodyPost_ret (results_none rfl _ _ _) rfl ?_)
        exact ⟨rfl, by rw [HN.out]; exact HIr.out, HFr.out⟩
  · go_enter Tryd.func19, Tryd.ntmps19
    go_wp2_with fail
    refine (hS.call acc _ s (by have := HL.out; omega) HI1.out).mono ?_
    rintro r w2 ⟨rfl, hI2, hF2⟩
    have HI2 := Lib.hid hI2
    have HF2 := Lib.hid (HF1.out.trans hF2)
    obtain ⟨r0, r1, r2, r3, _⟩ := cells4_of (hF2 _ _ _ HP1.out)
    clear hI2 hF2 p0 p1 p2 p3
    go_wp2_with fail
    go_loopw [16] (fun i wr => ∃ q : Nat, i = .int .i64 q ∧ q ≤ l.length ∧ I (acc ++ ([s] ++ namesXL (l.take q))) wr ∧ FrE w wr) (fun i _ => l.length - (intOf i).toNat)
    case atStart => exact ⟨0, rfl, Nat.zero_le _, by simpa [namesXL] using HI2.out, HF2.out⟩
    case round =>
      obtain ⟨q, rfl, hq, hIr, hFr⟩ := hrel
      have HIr := Lib.hid hIr
      have HFr := Lib.hid hFr
      clear hIr hFr
      by_cases hql : q < l.length
      · obtain ⟨b, off, ax, cx, rfl, c0, c1, c2, c3, hx⟩ := ExsV.at HU.out hql
        have hin := hS.isin _ _ HIr.out
        have c0 := hin.cell c0
        have c1 := hin.cell c1
        have c2 := hin.cell c2
        have c3 := hin.cell c3
        have hmem := List.getElem_mem hql
        have hpl := partsL_tkl l q hql
        have HT := Lib.hid (namesXL_take l q hql)
        have hnl := namesXL_len (l.take q)
        generalize l[q] = x at *
        have hb2 : Below wr.heap.size wr (wr.alloc (.cells #[.string x.op, .int .i64 x.n, .string x.s, .slice ax x.l.length cx] 45)) := (Below.refl _ _).alloc (Nat.le_refl _) _
        have HX := Lib.hid (HIH.out x hmem _ hx (acc ++ ([s] ++ namesXL (l.take q))) _ (by simp only [List.length_append, List.length_cons, List.length_nil]; have := HL.out; omega) (hS.next _ _ _ HIr.out hb2))
        have HFX := Lib.hid (HFr.out.trans (FrE.of_below hb2))
        clear hx hin hb2
        go_wp2_with fail
        refine HX.out.mono ?_
        rintro r w3 ⟨rfl, hI3, hF3⟩
        have HI3 := Lib.hid hI3
        have HF3 := Lib.hid (HFX.out.trans hF3)
        clear hI3 hF3 HX
        go_wp2_with fail
        go_roundw
        case rel => exact ⟨q + 1, by go_num, by omega, by rw [HT.out]; simpa [List.append_assoc] using HI3.out, HF3.out⟩
        case measure => simp [intOf]; omega
      · obtain rfl : q = l.length := by omega
        have hIr := HIr.out
        rw [List.take_of_length_le (Nat.le_refl _)] at hIr
        have HIr := Lib.hid hIr
        clear hIr
        go_wp2_with fail
        first | go_end0 | (refine bodyPost_ret (results_none rfl _ _ _) rfl ?_)
        exact ⟨rfl, by rw [HN.out]; exact HIr.out, HFr.out⟩
end Go.Proofs.YthihoafemahgmaaDoor
namespace Go.Proofs.YthihoafemahgmaaDoor
open Go.RowKit Mx
structure TdI (w0 u : World) (T base : Nat) (acc : List ByteArray) : Prop where
  below : Below base w0 u
  tlt : base ≤ T
  box : ∃ v, u.heap[T]? = some (.cells #[v] 23 (0, 0)) ∧ u.ownsRow base 9 1 v acc.length (acc.map .string)
theorem own_typeS {w : World} {base k n : Nat} {e : TypeId} {v : Value} {xs : List Value} (h : w.ownsRow base e k v n xs) {b : Nat} {c : Array Value} {t : TypeId} {fr : Nat × Nat} (hb : w.heap[b]? = some (.cells c t fr)) (ht : t ≠ e) : v.ownBlock ≠ some b := fun e2 => by
  rcases h.2 with ⟨h1, _⟩ | ⟨g, cap, cur, h1, _, h3, _⟩
  · rw [h1] at e2; cases e2
  · rw [h1] at e2
    have : g = b := by simpa [Value.ownBlock] using e2
    subst this
    rw [h3] at hb
    simp only [Option.some.injEq, Obj.cells.injEq] at hb
    exact ht hb.2.1.symm
theorem TdI.next {w0 u u' : World} {T base : Nat} {acc : List ByteArray} (h : TdI w0 u T base acc) (hb : Below u.heap.size u u') : TdI w0 u' T base acc := by
  obtain ⟨v, h1, h2⟩ := h.box
  have ht := (Array.getElem?_eq_some_iff.1 h1).1
  have := h.tlt
  exact ⟨h.below.trans (hb.mono (by omega)), h.tlt, v, (hb.block _ ht).trans h1, own_below h2 hb⟩
set_option maxHeartbeats 2000000 in
set_option maxRecDepth 100000 in
theorem todoA_any (w0 : World) (T base : Nat) (acc : List ByteArray) (s : ByteArray) (w : World) (hn : acc.length ≤ 1000000000) (h : TdI w0 w T base acc) :
    Calls Tryd.prog 20 #[.string s, .pointer (some ⟨T, 0, none⟩)] w fun r w' => r = .returned (.tuple #[]) ∧ TdI w0 w' T base (acc ++ [s]) ∧ FrE w w' := by
  obtain ⟨v, h1, h2⟩ := h.box
  have HB := Lib.hid h.below
  have htl := h.tlt
  have htt := (Array.getElem?_eq_some_iff.1 h1).1
  have c1 : w.cell? ⟨T, 0, none⟩ = some v := by simp [World.cell?, h1]
  have hba : Below w.heap.size w (w.alloc (.cells #[.string s] 9)) := (Below.refl _ _).alloc (Nat.le_refl _) _
  have H1 := Lib.hid ((hba.block T htt).trans h1)
  have hrow := own_below h2 hba
  have HR := Lib.hid hrow
  obtain ⟨av, cv, rfl, _⟩ := own_len h2
  have hF0 := Lib.hid (FrE.of_below hba)
  clear h h1 h2 hrow
  go_enter Tryd.func20, Tryd.ntmps20
  go_wp2_with (at_builtin; refine app1L 23 9 1 16 _ Tryd.underlying23 Tryd.infoStr1 rfl (by decide) _ _ rfl rfl base _ _ _ rfl HR.out ⟨w.heap.size, 0, none⟩ 1 [.string s] rfl rfl ?c1 ?c2 ?c3 ?c4 ?c5 ?_)
  case c1 => exact cells1 _ _ _
  case c2 => simp [Value.oneCell']
  case c3 => omega
  case c4 => omega
  case c5 => simp; omega
  intro g cap' w3 ho hg hat
  have hne : (Value.slice av acc.length cv).ownBlock ≠ some T := own_typeS HR.out H1.out (by decide)
  have h3 := (hg.block T (by simp; omega) (Ne.symm hne)).trans H1.out
  have f3 : w3.frozen? ⟨T, 0, none⟩ = false := by simp [World.frozen?, h3]
  have d3 : w3.cell? ⟨T, 0, none⟩ = some (.slice av acc.length cv) := by simp [World.cell?, h3]
  have HW := Lib.hid (((HB.out.trans (hba.mono (by omega))).grown hg (by simp; omega) (fun q hq => (HR.out.lt q hq).1)).setCell (p := ⟨T, 0, none⟩) (by show base ≤ T; omega) (.slice (some ⟨g, 0, none⟩) (acc.length + 1) cap'))
  have HT := Lib.hid (heap_setCell_same w3 T 0 (.slice (some ⟨g, 0, none⟩) (acc.length + 1) cap') _ _ _ h3)
  have hgt : (Value.slice (some ⟨g, 0, none⟩) (acc.length + 1) cap').ownBlock ≠ some T := own_typeS ho h3 (by decide)
  have HO := Lib.hid (own_setCell ho (a := ⟨T, 0, none⟩) hgt (.slice (some ⟨g, 0, none⟩) (acc.length + 1) cap'))
  have HF := Lib.hid (show FrE w (w3.setCell ⟨T, 0, none⟩ (.slice (some ⟨g, 0, none⟩) (acc.length + 1) cap')) from fun b c fr e => by
    have e1 := hF0.out b c fr e
    have hb1 : b ≠ T := fun e2 => by
      rw [e2, H1.out] at e1
      simp only [Option.some.injEq, Obj.cells.injEq] at e1
      exact absurd e1.2.1 (by decide)
    rw [Below.heap_setCell _ ⟨T, 0, none⟩ _ b hb1, hg.block b (Array.getElem?_eq_some_iff.1 e1).1 (Ne.symm (own_typeS HR.out e1 (by decide)))]
    exact e1)
  clear hba ho hg hat hne h3 hgt
  go_wp2_with fail
  first | go_end0 | (refine bodyPost_ret (results_none rfl _ _ _) rfl ?_)
  exact ⟨rfl, ⟨HW.out, htl, _, HT.out, by rw [List.length_append, List.map_append]; exact HO.out⟩, HF.out⟩
set_option maxHeartbeats 2000000 in
set_option maxRecDepth 100000 in
theorem todoB_any (w0 : World) (T base : Nat) (acc : List ByteArray) (s : ByteArray) (w : World) (hn : acc.length ≤ 1000000000) (h : TdI w0 w T base acc) :
    Calls Tryd.prog 21 #[.string s, .pointer (some ⟨T, 0, none⟩)] w fun r w' => r = .returned (.tuple #[]) ∧ TdI w0 w' T base (acc ++ [s]) ∧ FrE w w' := by
  obtain ⟨v, h1, h2⟩ := h.box
  have HB := Lib.hid h.below
  have htl := h.tlt
  have htt := (Array.getElem?_eq_some_iff.1 h1).1
  have c1 : w.cell? ⟨T, 0, none⟩ = some v := by simp [World.cell?, h1]
  have hba : Below w.heap.size w (w.alloc (.cells #[.string s] 9)) := (Below.refl _ _).alloc (Nat.le_refl _) _
  have H1 := Lib.hid ((hba.block T htt).trans h1)
  have hrow := own_below h2 hba
  have HR := Lib.hid hrow
  obtain ⟨av, cv, rfl, _⟩ := own_len h2
  have hF0 := Lib.hid (FrE.of_below hba)
  clear h h1 h2 hrow
  go_enter Tryd.func21, Tryd.ntmps21
  go_wp2_with (at_builtin; refine app1L 23 9 1 16 _ Tryd.underlying23 Tryd.infoStr1 rfl (by decide) _ _ rfl rfl base _ _ _ rfl HR.out ⟨w.heap.size, 0, none⟩ 1 [.string s] rfl rfl ?c1 ?c2 ?c3 ?c4 ?c5 ?_)
  case c1 => exact cells1 _ _ _
  case c2 => simp [Value.oneCell']
  case c3 => omega
  case c4 => omega
  case c5 => simp; omega
  intro g cap' w3 ho hg hat
  have hne : (Value.slice av acc.length cv).ownBlock ≠ some T := own_typeS HR.out H1.out (by decide)
  have h3 := (hg.block T (by simp; omega) (Ne.symm hne)).trans H1.out
  have f3 : w3.frozen? ⟨T, 0, none⟩ = false := by simp [World.frozen?, h3]
  have d3 : w3.cell? ⟨T, 0, none⟩ = some (.slice av acc.length cv) := by simp [World.cell?, h3]
  have HW := Lib.hid (((HB.out.trans (hba.mono (by omega))).grown hg (by simp; omega) (fun q hq => (HR.out.lt q hq).1)).setCell (p := ⟨T, 0, none⟩) (by show base ≤ T; omega) (.slice (some ⟨g, 0, none⟩) (acc.length + 1) cap'))
  have HT := Lib.hid (heap_setCell_same w3 T 0 (.slice (some ⟨g, 0, none⟩) (acc.length + 1) cap') _ _ _ h3)
  have hgt : (Value.slice (some ⟨g, 0, none⟩) (acc.length + 1) cap').ownBlock ≠ some T := own_typeS ho h3 (by decide)
  have HO := Lib.hid (own_setCell ho (a := ⟨T, 0, none⟩) hgt (.slice (some ⟨g, 0, none⟩) (acc.length + 1) cap'))
  have HF := Lib.hid (show FrE w (w3.setCell ⟨T, 0, none⟩ (.slice (some ⟨g, 0, none⟩) (acc.length + 1) cap')) from fun b c fr e => by
    have e1 := hF0.out b c fr e
    have hb1 : b ≠ T := fun e2 => by
      rw [e2, H1.out] at e1
      simp only [Option.some.injEq, Obj.cells.injEq] at e1
      exact absurd e1.2.1 (by decide)
    rw [Below.heap_setCell _ ⟨T, 0, none⟩ _ b hb1, hg.block b (Array.getElem?_eq_some_iff.1 e1).1 (Ne.symm (own_typeS HR.out e1 (by decide)))]
    exact e1)
  clear hba ho hg hat hne h3 hgt
  go_wp2_with fail
  first | go_end0 | (refine bodyPost_ret (results_none rfl _ _ _) rfl ?_)
  exact ⟨rfl, ⟨HW.out, htl, _, HT.out, by rw [List.length_append, List.map_append]; exact HO.out⟩, HF.out⟩
end Go.Proofs.YthihoafemahgmaaDoor
namespace Go.Proofs.YthihoafemahgmaaDoor
open Go.RowKit Mx
structure FR where
  name : ByteArray
  k : Int
  o : ByteArray
  n : Int
  s : ByteArray
  a : Option Addr
  l : Nat
  c : Nat
def FR.cells (r : FR) : List Value := [.string r.name, .int .i64 r.k, .string r.o, .int .i64 r.n, .string r.s, .slice r.a r.l r.c]
def FR.agg (r : FR) : Value := .agg #[.string r.name, .int .i64 r.k, .string r.o, .int .i64 r.n, .string r.s, .slice r.a r.l r.c]
def frX (l : List FR) : List Value := l.flatMap FR.cells
theorem frX_len : ∀ l : List FR, (frX l).length = l.length * 6
  | [] => rfl
  | r :: l => by
    have := frX_len l
    unfold frX at *
    rw [List.flatMap_cons, List.length_append, this]
    simp [FR.cells]
    omega
theorem frX_at (l : List FR) (i : Nat) (hi : i < l.length) (j : Nat) (hj : j < 6) : (frX l)[i * 6 + j]? = l[i].cells[j]? := flat_get 6 FR.cells (fun _ => rfl) l i hi j hj
theorem frX_app (l m : List FR) : frX (l ++ m) = frX l ++ frX m := by unfold frX; rw [List.flatMap_append]
def idxR (p : FR → Bool) (l : List FR) : Int := match l.findIdx? p with | none => -1 | some i => (i : Int)
theorem idxR_found (p : FR → Bool) (l : List FR) (k : Nat) (hk : k < l.length) (he : p l[k] = true) (hn : ∀ i (hi : i < l.length), i < k → p l[i] = false) : idxR p l = k := by
  unfold idxR
  have : l.findIdx? p = some k := List.findIdx?_eq_some_iff_getElem.2 ⟨hk, he, fun j hj => by rw [hn j (by omega) hj]; simp⟩
  rw [this]
theorem idxR_none (p : FR → Bool) (l : List FR) (hn : ∀ i (hi : i < l.length), p l[i] = false) : idxR p l = -1 := by
  unfold idxR
  have : l.findIdx? p = none := List.findIdx?_eq_none_iff.2 fun x hx => by
    obtain ⟨i, hi, rfl⟩ := List.mem_iff_getElem.1 hx
    exact hn i hi
  rw [this]
theorem idxR_cases (p : FR → Bool) (l : List FR) : (idxR p l = -1 ∧ l.filter (fun r => !p r) = l) ∨ ∃ k, ∃ hk : k < l.length, idxR p l = k ∧ p l[k] = true ∧ (∀ i (hi : i < l.length), i < k → p l[i] = false) := by
  unfold idxR
  cases h : l.findIdx? p with
  | none =>
    rw [List.findIdx?_eq_none_iff] at h
    exact .inl ⟨rfl, List.filter_eq_self.2 fun x hx => by rw [h x hx]; rfl⟩
  | some k =>
    rw [List.findIdx?_eq_some_iff_getElem] at h
    obtain ⟨hk, h1, h2⟩ := h
    exact .inr ⟨k, hk, rfl, h1, fun i hi hik => by simpa using h2 i hik⟩
def FrPred (k : Nat) (cap : Array Value) (I : World → Prop) (p : FR → Bool) (l : List FR) : Prop :=
  Enters Tryd.prog k ∧ (∀ w w', I w → Below w.heap.size w w' → I w') ∧ ∀ r ∈ l, ∀ w, I w → Calls Tryd.prog k (#[r.agg] ++ cap) w fun e w' => e = .returned (.bool (p r)) ∧ Below w.heap.size w w'
set_option maxHeartbeats 1000000 in
set_option maxRecDepth 100000 in
theorem idxR_any (k : Nat) (cap : Array Value) (I : World → Prop) (p : FR → Bool) (l : List FR) (hp : FrPred k cap I p l) (g c : Nat) (w : World) (hg : g < w.heap.size) (hc : ∀ i (hi : i < l.length), ∀ j u, l[i].cells[j]? = some u → w.cell? ⟨g, i * 6 + j, none⟩ = some u) (hl : l.length ≤ 1000000000) (hI : I w) :
    Calls Tryd.prog 31 #[.slice (some ⟨g, 0, none⟩) l.length c, .func (.func k) #[] cap] w fun r w' => r = .returned (.int .i64 (idxR p l)) ∧ Below w.heap.size w w' := by
  obtain ⟨hen, hst, hp⟩ := hp
  have HP := Lib.hid hp
  have HS := Lib.hid hst
  have HI := Lib.hid hI
  have HC := Lib.hid hc
  clear hp hst hI hc
  unfold Enters at hen
  go_enter Tryd.func31, Tryd.ntmps31
  go_wp2_with fail
  go_loopw [8] (fun i wr => ∃ q : Nat, i = .int .i64 q ∧ q ≤ l.length ∧ Below w.heap.size w wr ∧ I wr ∧ (∀ i (hi : i < l.length), i < q → p l[i] = false)) (fun i _ => l.length - (intOf i).toNat)
  case atStart => exact ⟨0, rfl, Nat.zero_le _, Below.refl _ _, HI.out, fun i _ h => by omega⟩
  case round =>
    obtain ⟨q, rfl, hq, hb, hI, hn⟩ := hrel
    have HI := Lib.hid hI
    have HN := Lib.hid hn
    have HB := Lib.hid hb
    clear hI hn hb
    by_cases hql : q < l.length
    · have hcell := fun j u h => (HB.out.cell (p := ⟨g, q * 6 + j, none⟩) hg).trans (HC.out q hql j u h)
      obtain ⟨x, hx⟩ : ∃ x, l[q] = x := ⟨_, rfl⟩
      have hmem : x ∈ l := by rw [← hx]; exact List.getElem_mem hql
      have HX := Lib.hid hx
      rw [hx] at hcell
      have c0 := hcell 0 _ rfl
      have c1 := hcell 1 _ rfl
      have c2 := hcell 2 _ rfl
      have c3 := hcell 3 _ rfl
      have c4 := hcell 4 _ rfl
      have c5 := hcell 5 _ rfl
      simp only [Nat.add_zero] at c0
      have HCALL := Lib.hid (HP.out x hmem wr HI.out)
      clear hx hcell
      go_wp2_with fail
      refine HCALL.out.mono ?_
      rintro r w2 ⟨rfl, hb2⟩
      have HB2 := Lib.hid (HB.out.trans (hb2.mono HB.out.size))
      have HI2 := Lib.hid (HS.out _ _ HI.out hb2)
      clear hb2 HCALL c0 c1 c2 c3 c4 c5
      cases he : p x
      · have HY := Lib.hid (show ∀ i (hi : i < l.length), i < q + 1 → p l[i] = false from fun i hi hik => by
          by_cases hik' : i < q
          · exact HN.out i hi hik'
          · obtain rfl : i = q := by omega
            rw [HX.out]; exact he)
        go_wp2_with fail
        go_roundw
        case rel => exact ⟨q + 1, by go_num, by omega, HB2.out, HI2.out, HY.out⟩
        case measure => simp [intOf]; omega
      · have HY := Lib.hid (idxR_found p l q hql (by rw [HX.out]; exact he) HN.out)
        go_wp2_with fail
        go_ret
        exact ⟨ret_int HY.out.symm, HB2.out⟩
    · go_wp2_with fail
      go_ret
      exact ⟨ret_int (idxR_none _ _ fun i hi => HN.out i hi (by omega)).symm, HB.out⟩
theorem setCells_at (b : Nat) : ∀ (L : List Value) (o : Nat) (w : World) (cur : Array Value) (t : TypeId) (fr : Nat × Nat), w.heap[b]? = some (.cells cur t fr) → o + L.length ≤ cur.size →
    (∃ cur', (w.setCells b o L).heap[b]? = some (.cells cur' t fr) ∧ cur'.size = cur.size ∧ (∀ a, a < o ∨ o + L.length ≤ a → cur'[a]? = cur[a]?) ∧ ∀ j, j < L.length → cur'[o + j]? = L[j]?) ∧ (∀ c, c ≠ b → (w.setCells b o L).heap[c]? = w.heap[c]?) ∧ (w.setCells b o L).heap.size = w.heap.size
  | [], o, w, cur, t, fr, h, _ => ⟨⟨cur, h, rfl, fun _ _ => rfl, fun j hj => by simp at hj⟩, fun _ _ => rfl, rfl⟩
  | v :: L, o, w, cur, t, fr, h, hl => by
    simp only [List.length_cons] at hl
    have h1 := heap_setCell_same w b o v _ _ _ h
    obtain ⟨⟨cur', g1, g2, g3, g4⟩, g5, g6⟩ := setCells_at b L (o + 1) _ _ _ _ h1 (by simp; omega)
    refine ⟨⟨cur', g1, by simpa using g2, fun a ha => ?_, fun j hj => ?_⟩, fun c hc => ?_, ?_⟩
    · rw [g3 a (by simp only [List.length_cons] at ha; omega)]
      simp only [List.length_cons] at ha
      rw [Array.getElem?_setIfInBounds_ne (by omega)]
    · cases j with
      | zero =>
        rw [Nat.add_zero, g3 o (by omega)]
        have ho : o < cur.size := by omega
        simp [ho]
      | succ j =>
        have := g4 j (by simpa using hj)
        rw [show o + (j + 1) = o + 1 + j from by omega, this]
        simp
    · show ((w.setCell ⟨b, o, none⟩ v).setCells b (o + 1) L).heap[c]? = _
      rw [g5 c hc, Below.heap_setCell _ ⟨b, o, none⟩ _ c hc]
    · show ((w.setCell ⟨b, o, none⟩ v).setCells b (o + 1) L).heap.size = _
      rw [g6]
      simp [World.setCell]
theorem zeroFlow (w : World) : (zeroValue 47).run Tryd.prog w = .ok (.agg #[.string ⟨#[]⟩, .int .i64 0, .string ⟨#[]⟩, .int .i64 0, .string ⟨#[]⟩, .slice none 0 0]) w := by kernel_rfl
theorem run_clear_flows (w : World) (g o n c : Nat) (cur : Array Value) (h : w.heap[g]? = some (.cells cur 47 (0, 0))) (hl : o + n * 6 ≤ cur.size) :
    ∃ L : List Value, L.length = n * 6 ∧ ∀ ty, (Builtin.clear_ #[31] ty #[.slice (some ⟨g, o, none⟩) n c]).run Tryd.prog w = .ok (.tuple #[]) (w.setCells g o L) := by
  cases n with
  | zero => exact ⟨[], rfl, fun ty => by simp [Builtin.clear_, run_underlying Tryd.underlying31, World.setCells]⟩
  | succ n =>
    have hlen : (Builtin.zeroCells (#[.string ⟨#[]⟩, .int .i64 0, .string ⟨#[]⟩, .int .i64 0, .string ⟨#[]⟩, .slice none 0 0] : Array Value) (n + 1)).toList.length = (n + 1) * 6 := by simp [Builtin.zeroCells]
    refine ⟨(Builtin.zeroCells (#[.string ⟨#[]⟩, .int .i64 0, .string ⟨#[]⟩, .int .i64 0, .string ⟨#[]⟩, .slice none 0 0] : Array Value) (n + 1)).toList, hlen, fun ty => ?_⟩
    have hst := run_storeCells_cells (P := Tryd.prog) g o (Builtin.zeroCells (#[.string ⟨#[]⟩, .int .i64 0, .string ⟨#[]⟩, .int .i64 0, .string ⟨#[]⟩, .slice none 0 0] : Array Value) (n + 1)).toList 0 w
      (fun j hj => by rw [hlen] at hj; simp [World.cell?, h]; omega)
      (fun j hj => by simp [World.frozen?, h])
      (fun v hv => by
        simp only [Builtin.zeroCells, Array.toList_map, List.mem_map] at hv
        obtain ⟨i, _, rfl⟩ := hv
        have hi : i % 6 < 6 := Nat.mod_lt _ (by decide)
        show ((#[.string ⟨#[]⟩, .int .i64 0, .string ⟨#[]⟩, .int .i64 0, .string ⟨#[]⟩, .slice none 0 0] : Array Value)[i % 6]!).oneCell' = true
        generalize i % 6 = m at hi
        match m, hi with
        | 0, _ => rfl
        | 1, _ => rfl
        | 2, _ => rfl
        | 3, _ => rfl
        | 4, _ => rfl
        | 5, _ => rfl)
    simp only [Nat.add_zero] at hst
    have hz := zeroFlow w
    simp [Builtin.clear_, run_underlying Tryd.underlying31, hz, Value.cells, hst]
end Go.Proofs.YthihoafemahgmaaDoor
