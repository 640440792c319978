/- Walks: order.needs. -/
import Derived.Test.YtgpdagkoampipaaDoorMx
import Derived.Test.YtgpdagkoampipaaDoorConcat
import Derived.Test.YtgpdagkoampipaaDoorKind
import Derived.Test.YtgpdagkoampipaaDoorGr
namespace Go.Proofs.YtgpdagkoampipaaDoor
open Go.RowKit Mx

abbrev natV (n : Nat) : Value := .int .i64 (n : Int)
theorem needsL_take (at_ : Env Nat) : ∀ (l : List Ex) (k : Nat) (h : k < l.length), needsL at_ (l.take (k + 1)) = needsL at_ (l.take k) ++ needs at_ l[k]
  | e :: l, 0, _ => by simp [needsL]
  | e :: l, k + 1, h => by
    have := needsL_take at_ l k (by simpa using h)
    simp only [List.take_succ_cons, needsL, List.getElem_cons_succ]
    rw [this, List.append_assoc]
mutual
theorem needs_len (at_ : Env Nat) : ∀ e : Ex, (needs at_ e).length ≤ e.parts
  | .mk o n s l => by
    have h1 := needsL_len at_ l
    have h2 := needsH_len at_ l
    simp only [needs, Ex.parts]
    split
    · simp
    · split
      · omega
      · rw [List.length_append]
        split
        · cases at_ s <;> simp <;> omega
        · simp; omega
theorem needsL_len (at_ : Env Nat) : ∀ l : List Ex, (needsL at_ l).length ≤ Ex.partsL l
  | [] => by simp [needsL]
  | e :: l => by
    have h1 := needs_len at_ e
    have h2 := needsL_len at_ l
    simp only [needsL, Ex.partsL, List.length_append]; omega
theorem needsH_len (at_ : Env Nat) : ∀ l : List Ex, (needsH at_ l).length ≤ Ex.partsL l
  | [] => by simp [needsH]
  | e :: l => by
    have h1 := needs_len at_ e
    simp only [needsH, Ex.partsL]; omega
end
/-- What a right form says of its parts. -/
theorem formAll_parts {ks : Env Int} {o : ByteArray} {n : Int} {s : ByteArray} {l : List Ex} (h : formAll ks (.mk o n s l) = true) : (∀ e ∈ l, formAll ks e = true) ∧ (o = oFby → l.length = 2) ∧ (o = oArrow → l.length = 2) ∧ (o = oPre → l.length = 1) ∧ (o = oIf → l.length = 3) := by
  simp only [formAll, Bool.and_eq_true] at h
  refine ⟨fun e he => ?_, ?_⟩
  · obtain ⟨i, hi, rfl⟩ := List.mem_iff_getElem.1 he
    exact (formAllL_get ks l).1 h.2 i hi
  · have h1 := h.1.1.1
    have key : ∀ q k, o = q → arity q = some k → (0 : Int) ≤ k → (k : Int) = l.length := by
      rintro q k rfl hk h0
      simp only [form, Ex.op, hk, Bool.and_eq_true, Bool.or_eq_true, decide_eq_true_eq, Ex.l] at h1
      rcases h1.1.1 with h | h
      · omega
      · exact of_decide_eq_true h
    refine ⟨fun e => ?_, fun e => ?_, fun e => ?_, fun e => ?_⟩
    · have := key oFby 2 e (by decide) (by decide); omega
    · have := key oArrow 2 e (by decide) (by decide); omega
    · have := key oPre 1 e (by decide) (by decide); omega
    · have := key oIf 3 e (by decide) (by decide); omega

/-- Blocks that hold no numbers and no slices of numbers stay. -/
def Fr (w w' : World) : Prop := ∀ (b : Nat) (c : Array Value) (t : TypeId) (fr : Nat × Nat), w.heap[b]? = some (Obj.cells c t fr) → t ≠ 3 → t ≠ 99 → w'.heap[b]? = some (Obj.cells c t fr)
theorem Fr.trans {a b c : World} (h : Fr a b) (k : Fr b c) : Fr a c := fun i x t fr e h1 h2 => k i x t fr (h i x t fr e h1 h2) h1 h2
theorem Fr.of_below {w w' : World} (h : Below w.heap.size w w') : Fr w w' := fun b c t fr e _ _ => (h.block b (Array.getElem?_eq_some_iff.1 e).1).trans e
theorem Fr.cell {w w' : World} (h : Fr w w') {b : Nat} {c : Array Value} {t : TypeId} {fr : Nat × Nat} (e : w.heap[b]? = some (.cells c t fr)) (h1 : t ≠ 3) (h2 : t ≠ 99) (i : Nat) : w'.cell? ⟨b, i, none⟩ = c[i]? := by
  simp [World.cell?, h b c t fr e h1 h2]
/-- A function value that sees numbers. -/
structure Seer (k : Nat) (cap : Array Value) (H : Kn) (bat : Nat) (at_ : Env Nat) (I : List Nat → World → Prop) : Prop where
  enters : Enters Tryd.prog k
  next : ∀ acc w w', I acc w → Below w.heap.size w w' → I acc w'
  isin : ∀ acc w, I acc w → H.In w ∧ MapAt natV w bat at_
  call : ∀ acc w (j : Nat), acc.length ≤ 1000000 → I acc w → Calls Tryd.prog k (#[.int .i64 j] ++ cap) w fun r w' => r = .returned (.tuple #[]) ∧ I (acc ++ [j]) w' ∧ Fr w w'

set_option maxHeartbeats 2000000 in
set_option maxRecDepth 100000 in
theorem needs_any (k : Nat) (cap : Array Value) (H : Kn) (bat : Nat) (at_ : Env Nat) (I : List Nat → World → Prop) (hS : Seer k cap H bat at_ I) (ks : Env Int) :
    ∀ (e : Ex), formAll ks e = true → ∀ v, ExV H e v → ∀ acc w, acc.length + e.parts ≤ 1000000 → I acc w →
    Calls Tryd.prog 71 #[v, .map (some bat), .func (.func k) #[] cap] w fun r w' => r = .returned (.tuple #[]) ∧ I (acc ++ needs at_ e) w' ∧ Fr w w' := by
  refine Ex.ind fun o n s l ih hf v hv acc w hlen hI => ?_
  obtain ⟨u, rfl, hu⟩ := hv
  simp only [Ex.op, Ex.n, Ex.s, Ex.l] at hu ⊢
  obtain ⟨a, c, rfl⟩ := hu.len
  obtain ⟨hfl, hfby, _, _, _⟩ := formAll_parts hf
  have hen := hS.enters
  have hF1 := Lib.hid (Fr.of_below ((Below.refl w.heap.size w).alloc (Nat.le_refl _) (.cells #[.string o, .int .i64 n, .string s, .slice a l.length c] 84)))
  unfold Enters at hen
  have HU := Lib.hid hu
  have HI := Lib.hid (hS.next _ _ _ hI ((Below.refl _ _).alloc (Nat.le_refl _) (.cells #[.string o, .int .i64 n, .string s, .slice a l.length c] 84)))
  have HIH := Lib.hid fun e he => ih e he (hfl e he)
  have HL := Lib.hid (Nat.le_trans (Nat.add_le_add_left (show Ex.partsL l + 1 ≤ (Ex.mk o n s l).parts from by simp only [Ex.parts]; omega) acc.length) hlen)
  clear hu hI ih hfl hlen hf
  by_cases hpre : o = oPre
  · have HN := Lib.hid (show needs at_ (.mk o n s l) = [] from by simp only [needs]; rw [if_pos hpre])
    have t1 : (o.toList == [112, 114, 101]) = true := by rw [← dLit]; simpa using hpre
    clear hpre hfby
    go_enter Tryd.func71, Tryd.ntmps71
    go_wp2_with fail
    first | go_end0 | (refine bodyPost_ret (results_none rfl _ _ _) rfl ?_)
    exact ⟨rfl, by rw [HN.out, List.append_nil]; exact HI.out, hF1.out⟩
  · have t1 : (o.toList == [112, 114, 101]) = false := not_lit _ hpre
    by_cases hf2 : o = oFby
    · have h2 := hfby hf2
      have t2 : (o.toList == [102, 98, 121]) = true := by rw [← dLit]; simpa using hf2
      have h0 : 0 < l.length := by omega
      obtain ⟨b, off, ax, cx, rfl, c0, c1, c2, c3, hx⟩ := HU.out.at h0
      have HN := Lib.hid (show needs at_ (.mk o n s l) = needs at_ l[0] from by
        simp only [needs]
        rw [if_neg hpre, if_pos hf2]
        match l, h0 with
        | x :: r, _ => rfl)
      have hi0 := (hS.isin _ _ HI.out).1
      have c0 := hi0.cell c0
      have c1 := hi0.cell c1
      have c2 := hi0.cell c2
      have c3 := hi0.cell c3
      simp only [Nat.zero_mul, Nat.add_zero] at c0 c1 c2 c3
      have hmem := List.getElem_mem h0
      have hpl : l[0].parts ≤ Ex.partsL l := parts_mem hmem
      have HX := Lib.hid (HIH.out l[0] hmem _ hx acc _ (by have := HL.out; omega) HI.out)
      have h0I : (0 : Int) < l.length := by omega
      clear hpre hf2 hfby hx hi0 h2
      generalize l[0] = x at *
      clear HIH
      go_enter Tryd.func71, Tryd.ntmps71
      go_wp2_with fail
      refine HX.out.mono ?_
      rintro r w2 ⟨rfl, hI2, hF2⟩
      have HI2 := Lib.hid (And.intro hI2 (hF1.out.trans hF2))
      clear hI2 hF2
      go_wp2_with fail
      first | go_end0 | (refine bodyPost_ret (results_none rfl _ _ _) rfl ?_)
      exact ⟨rfl, by rw [HN.out]; exact HI2.out.1, HI2.out.2⟩
    · have t2 : (o.toList == [102, 98, 121]) = false := not_lit _ hf2
      -- what the name adds
      obtain ⟨pre, hpr⟩ : ∃ pre, pre = (if o = oName then (at_ s).toList else []) := ⟨_, rfl⟩
      have HN := Lib.hid (show needs at_ (.mk o n s l) = pre ++ needsL at_ l from by
        simp only [needs]
        rw [if_neg hpre, if_neg hf2, ← hpr])
      have HPL := Lib.hid (show pre.length ≤ 1 from by rw [hpr]; split; cases at_ s <;> simp; simp)
      have hrun := (hS.isin _ _ HI.out).2.run (P := Tryd.prog) Tryd.underlying96 Tryd.underlying9 (d := 0) (by kernel_rfl) s true
      simp only [if_true, natV] at hrun
      have hway : (o.toList == [110, 97, 109, 101]) = false ∧ pre = [] ∨ (o.toList == [110, 97, 109, 101]) = true ∧ (((at_ s).isSome = false ∧ pre = []) ∨ ((at_ s).isSome = true ∧ pre = [(at_ s).getD 0])) := by
        by_cases h : o = oName
        · right
          refine ⟨by rw [← dLit]; simpa using h, ?_⟩
          rw [if_pos h] at hpr
          cases hq : at_ s with
          | none => left; rw [hq] at hpr; exact ⟨rfl, hpr⟩
          | some j => right; rw [hq] at hpr; exact ⟨rfl, hpr⟩
        · left
          rw [if_neg h] at hpr
          exact ⟨not_lit _ h, hpr⟩
      have hll : l.length ≤ 1000000 := by have := partsL_len l; have := HL.out; omega
      clear hpre hf2 hfby hpr
      generalize (at_ s).isSome = is at *
      generalize (at_ s).getD 0 = j at *
      rcases hway with ⟨t3, rfl⟩ | ⟨t3, ⟨rfl, rfl⟩ | ⟨rfl, rfl⟩⟩
      · go_enter Tryd.func71, Tryd.ntmps71
        go_wp2_with fail
        clear hrun
        go_loopw [39] (fun i wr => ∃ q : Nat, i = .int .i64 q ∧ q ≤ l.length ∧ I (acc ++ ([] ++ needsL at_ (l.take q))) wr ∧ Fr w wr) (fun i _ => l.length - (intOf i).toNat)
        case atStart => exact ⟨0, rfl, Nat.zero_le _, by simpa [needsL] using HI.out, hF1.out⟩
        case round =>
          obtain ⟨q, rfl, hq, hIr, hFr⟩ := hrel
          have HIr := Lib.hid hIr
          have HFr := Lib.hid hFr
          clear hIr hFr
          by_cases hql : q < l.length
          · obtain ⟨b, off, ax, cx, rfl, c0, c1, c2, c3, hx⟩ := ExsV.at HU.out hql
            have hin := (hS.isin _ _ HIr.out).1
            have c0 := hin.cell c0
            have c1 := hin.cell c1
            have c2 := hin.cell c2
            have c3 := hin.cell c3
            have hmem := List.getElem_mem hql
            have NT := Lib.hid (needsL_take at_ l q hql)
            have hb1 := needsL_len at_ (l.take q)
            have hb2 := partsL_take l q hql
            have hb3 := partsL_le l (q + 1)
            have HX := Lib.hid (HIH.out l[q] hmem _ hx (acc ++ ([] ++ needsL at_ (l.take q))) _ (by have := HL.out; simp only [List.length_append, List.length_cons, List.length_nil]; omega) (hS.next _ _ _ HIr.out ((Below.refl _ _).alloc (Nat.le_refl _) (.cells #[.string l[q].op, .int .i64 l[q].n, .string l[q].s, .slice ax l[q].l.length cx] 84))))
            clear hx hb1 hb2 hb3 hin
            generalize l[q] = x at *
            go_wp2_with fail
            refine HX.out.mono ?_
            rintro r w2 ⟨rfl, hI2, hF2⟩
            have HI2 := Lib.hid hI2
            have HF2 := Lib.hid ((HFr.out.trans (Fr.of_below ((Below.refl _ _).alloc (Nat.le_refl _) _))).trans hF2)
            clear hI2 hF2
            go_wp2_with fail
            go_roundw
            case rel => exact ⟨q + 1, by go_num, by omega, by rw [NT.out]; simpa only [List.append_assoc] using HI2.out, HF2.out⟩
            case measure => simp [intOf]; omega
          · go_wp2_with fail
            first | go_end0 | (refine bodyPost_ret (results_none rfl _ _ _) rfl ?_)
            exact ⟨rfl, by rw [HN.out]; rw [show l.take q = l from List.take_of_length_le (by omega)] at HIr; exact HIr.out, HFr.out⟩
      · go_enter Tryd.func71, Tryd.ntmps71
        go_wp2_with fail
        clear hrun
        go_loopw [39] (fun i wr => ∃ q : Nat, i = .int .i64 q ∧ q ≤ l.length ∧ I (acc ++ ([] ++ needsL at_ (l.take q))) wr ∧ Fr w wr) (fun i _ => l.length - (intOf i).toNat)
        case atStart => exact ⟨0, rfl, Nat.zero_le _, by simpa [needsL] using HI.out, hF1.out⟩
        case round =>
          obtain ⟨q, rfl, hq, hIr, hFr⟩ := hrel
          have HIr := Lib.hid hIr
          have HFr := Lib.hid hFr
          clear hIr hFr
          by_cases hql : q < l.length
          · obtain ⟨b, off, ax, cx, rfl, c0, c1, c2, c3, hx⟩ := ExsV.at HU.out hql
            have hin := (hS.isin _ _ HIr.out).1
            have c0 := hin.cell c0
            have c1 := hin.cell c1
            have c2 := hin.cell c2
            have c3 := hin.cell c3
            have hmem := List.getElem_mem hql
            have NT := Lib.hid (needsL_take at_ l q hql)
            have hb1 := needsL_len at_ (l.take q)
            have hb2 := partsL_take l q hql
            have hb3 := partsL_le l (q + 1)
            have HX := Lib.hid (HIH.out l[q] hmem _ hx (acc ++ ([] ++ needsL at_ (l.take q))) _ (by have := HL.out; simp only [List.length_append, List.length_cons, List.length_nil]; omega) (hS.next _ _ _ HIr.out ((Below.refl _ _).alloc (Nat.le_refl _) (.cells #[.string l[q].op, .int .i64 l[q].n, .string l[q].s, .slice ax l[q].l.length cx] 84))))
            clear hx hb1 hb2 hb3 hin
            generalize l[q] = x at *
            go_wp2_with fail
            refine HX.out.mono ?_
            rintro r w2 ⟨rfl, hI2, hF2⟩
            have HI2 := Lib.hid hI2
            have HF2 := Lib.hid ((HFr.out.trans (Fr.of_below ((Below.refl _ _).alloc (Nat.le_refl _) _))).trans hF2)
            clear hI2 hF2
            go_wp2_with fail
            go_roundw
            case rel => exact ⟨q + 1, by go_num, by omega, by rw [NT.out]; simpa only [List.append_assoc] using HI2.out, HF2.out⟩
            case measure => simp [intOf]; omega
          · go_wp2_with fail
            first | go_end0 | (refine bodyPost_ret (results_none rfl _ _ _) rfl ?_)
            exact ⟨rfl, by rw [HN.out]; rw [show l.take q = l from List.take_of_length_le (by omega)] at HIr; exact HIr.out, HFr.out⟩
      · go_enter Tryd.func71, Tryd.ntmps71
        go_wp2_with fail
        refine (hS.call acc _ j (by have := HL.out; omega) HI.out).mono ?_
        rintro r w1 ⟨rfl, hI1, hF⟩
        have HI1 := Lib.hid (And.intro hI1 (hF1.out.trans hF))
        have q3 : w1.cell? ⟨w.heap.size, 3, none⟩ = some (.slice a l.length c) := hF.cell (heap_alloc_new _ _) (by decide) (by decide) 3
        clear hI1 hF
        go_wp2_with fail
        clear hrun
        go_loopw [39] (fun i wr => ∃ q : Nat, i = .int .i64 q ∧ q ≤ l.length ∧ I (acc ++ ([j] ++ needsL at_ (l.take q))) wr ∧ Fr w wr) (fun i _ => l.length - (intOf i).toNat)
        case atStart => exact ⟨0, rfl, Nat.zero_le _, by simpa [needsL] using HI1.out.1, HI1.out.2⟩
        case round =>
          obtain ⟨q, rfl, hq, hIr, hFr⟩ := hrel
          have HIr := Lib.hid hIr
          have HFr := Lib.hid hFr
          clear hIr hFr
          by_cases hql : q < l.length
          · obtain ⟨b, off, ax, cx, rfl, c0, c1, c2, c3, hx⟩ := ExsV.at HU.out hql
            have hin := (hS.isin _ _ HIr.out).1
            have c0 := hin.cell c0
            have c1 := hin.cell c1
            have c2 := hin.cell c2
            have c3 := hin.cell c3
            have hmem := List.getElem_mem hql
            have NT := Lib.hid (needsL_take at_ l q hql)
            have hb1 := needsL_len at_ (l.take q)
            have hb2 := partsL_take l q hql
            have hb3 := partsL_le l (q + 1)
            have HX := Lib.hid (HIH.out l[q] hmem _ hx (acc ++ ([j] ++ needsL at_ (l.take q))) _ (by have := HL.out; simp only [List.length_append, List.length_cons, List.length_nil]; omega) (hS.next _ _ _ HIr.out ((Below.refl _ _).alloc (Nat.le_refl _) (.cells #[.string l[q].op, .int .i64 l[q].n, .string l[q].s, .slice ax l[q].l.length cx] 84))))
            clear hx hb1 hb2 hb3 hin
            generalize l[q] = x at *
            go_wp2_with fail
            refine HX.out.mono ?_
            rintro r w2 ⟨rfl, hI2, hF2⟩
            have HI2 := Lib.hid hI2
            have HF2 := Lib.hid ((HFr.out.trans (Fr.of_below ((Below.refl _ _).alloc (Nat.le_refl _) _))).trans hF2)
            clear hI2 hF2
            go_wp2_with fail
            go_roundw
            case rel => exact ⟨q + 1, by go_num, by omega, by rw [NT.out]; simpa only [List.append_assoc] using HI2.out, HF2.out⟩
            case measure => simp [intOf]; omega
          · go_wp2_with fail
            first | go_end0 | (refine bodyPost_ret (results_none rfl _ _ _) rfl ?_)
            exact ⟨rfl, by rw [HN.out]; rw [show l.take q = l from List.take_of_length_le (by omega)] at HIr; exact HIr.out, HFr.out⟩
end Go.Proofs.YtgpdagkoampipaaDoor
