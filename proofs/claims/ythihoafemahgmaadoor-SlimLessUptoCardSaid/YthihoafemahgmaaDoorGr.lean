/- Graphs: whoever needs itself; the search of order.cyclic finds it. No program in sight. -/
import Derived.Test.YthihoafemahgmaaDoorMx
import Derived.Test.YthihoafemahgmaaDoorConcat
import Derived.Test.YthihoafemahgmaaDoorKind
namespace Go.Proofs.YthihoafemahgmaaDoor.Mx
def edge (g : List (List Nat)) (a b : Nat) : Prop := b ∈ g.getD a []
inductive Path (g : List (List Nat)) : Nat → Nat → Prop
  | one {a b : Nat} : edge g a b → Path g a b
  | snoc {a b c : Nat} : Path g a b → edge g b c → Path g a c
theorem Path.trans {g : List (List Nat)} {a b c : Nat} (h : Path g a b) (k : Path g b c) : Path g a c := by
  induction k with
  | one e => exact .snoc h e
  | snoc _ e ih => exact .snoc ih e
def restL (g : List (List Nat)) (seen : List Nat) : List Nat → Nat
  | [] => 0
  | k :: r => (if seen.contains k then 0 else (g.getD k []).length + 1) + restL g seen r
theorem restL_mono (g : List (List Nat)) (seen : List Nat) (k : Nat) : ∀ l, restL g (k :: seen) l ≤ restL g seen l
  | [] => Nat.le_refl _
  | x :: r => by
    have := restL_mono g seen k r
    simp only [restL, List.contains_cons]
    cases seen.contains x <;> cases (x == k) <;> simp only [Bool.or_true, Bool.or_false, if_true, Bool.false_eq_true, if_false] <;> omega
theorem restL_lt (g : List (List Nat)) (seen : List Nat) (k : Nat) (hs : seen.contains k = false) : ∀ l, k ∈ l → restL g (k :: seen) l + ((g.getD k []).length + 1) ≤ restL g seen l
  | [], h => by cases h
  | x :: r, h => by
    have hm := restL_mono g seen k r
    simp only [restL, List.contains_cons]
    by_cases hx : x = k
    · subst hx
      have h0 : (x == x) = true := by simp
      rw [hs, h0]
      simp; omega
    · have hr : k ∈ r := by
        rcases List.mem_cons.1 h with h | h
        · exact absurd h.symm hx
        · exact h
      have ih := restL_lt g seen k hs r hr
      have h0 : (x == k) = false := by simpa using hx
      rw [h0]
      simp only [Bool.false_or]
      omega
def rest (g : List (List Nat)) (seen : List Nat) : Nat := restL g seen (List.range g.length)
theorem cycN_spec (g : List (List Nat)) (i : Nat) : ∀ (f : Nat) (seen todo : List Nat), todo.length + rest g seen < f → (∀ k ∈ todo, Path g i k) →
    (∀ k ∈ seen, ∀ b, edge g k b → b ∈ seen ∨ b ∈ todo) → (∀ b, edge g i b → b ∈ seen ∨ b ∈ todo) → i ∉ seen → (cycN g i f seen todo = true ↔ Path g i i)
  | 0, _, _, h, _, _, _, _ => by omega
  | f + 1, seen, [], _, _, hB, hC, hD => by
    simp only [cycN]
    refine ⟨fun h => by simp at h, fun h => ?_⟩
    have key : ∀ b, Path g i b → b ∈ seen := by
      intro b hb
      induction hb with
      | one e =>
        rcases hC _ e with h | h
        · exact h
        · cases h
      | snoc _ e ih =>
        rcases hB _ ih _ e with h | h
        · exact h
        · cases h
    exact absurd (key i h) hD
  | f + 1, seen, k :: r, h, hA, hB, hC, hD => by
    simp only [cycN]
    by_cases hk : k = i
    · subst hk
      rw [if_pos rfl]
      exact ⟨fun _ => hA _ (List.mem_cons_self ..), fun _ => rfl⟩
    · rw [if_neg hk]
      by_cases hs : seen.contains k = true
      · rw [if_pos hs]
        have hs' : k ∈ seen := by simpa using hs
        refine cycN_spec g i f seen r (by simp only [List.length_cons] at h; omega) (fun x hx => hA x (List.mem_cons_of_mem _ hx)) (fun x hx b e => ?_) (fun b e => ?_) hD
        · rcases hB x hx b e with h | h
          · exact .inl h
          · rcases List.mem_cons.1 h with rfl | h
            · exact .inl hs'
            · exact .inr h
        · rcases hC b e with h | h
          · exact .inl h
          · rcases List.mem_cons.1 h with rfl | h
            · exact .inl hs'
            · exact .inr h
      · rw [if_neg hs]
        have hs' : seen.contains k = false := by simpa using hs
        refine cycN_spec g i f (k :: seen) ((g.getD k []).reverse ++ r) ?_ ?_ ?_ ?_ ?_
        · simp only [List.length_cons, List.length_append, List.length_reverse] at h ⊢
          by_cases hlt : k < g.length
          · have := restL_lt g seen k hs' (List.range g.length) (List.mem_range.2 hlt)
            unfold rest at h ⊢
            omega
          · have h0 : g.getD k [] = [] := by rw [List.getD_eq_getElem?_getD, List.getElem?_eq_none (by omega)]; rfl
            have := restL_mono g seen k (List.range g.length)
            unfold rest at h ⊢
            rw [h0]
            simp only [List.length_nil]
            omega
        · intro x hx
          rcases List.mem_append.1 hx with hx | hx
          · exact .snoc (hA k (List.mem_cons_self ..)) (List.mem_reverse.1 hx)
          · exact hA x (List.mem_cons_of_mem _ hx)
        · intro x hx b e
          rcases List.mem_cons.1 hx with rfl | hx
          · exact .inr (List.mem_append_left _ (List.mem_reverse.2 e))
          · rcases hB x hx b e with h | h
            · exact .inl (List.mem_cons_of_mem _ h)
            · rcases List.mem_cons.1 h with rfl | h
              · exact .inl (List.mem_cons_self ..)
              · exact .inr (List.mem_append_right _ h)
        · intro b e
          rcases hC b e with h | h
          · exact .inl (List.mem_cons_of_mem _ h)
          · rcases List.mem_cons.1 h with rfl | h
            · exact .inl (List.mem_cons_self ..)
            · exact .inr (List.mem_append_right _ h)
        · intro hi
          rcases List.mem_cons.1 hi with h | h
          · exact hk h.symm
          · exact hD h
theorem sum_range (g : List (List Nat)) : restL g [] (List.range g.length) = (g.map fun l => l.length + 1).sum := by
  have key : ∀ (l : List (List Nat)) (a : Nat) (h : List (List Nat)), g = h ++ l → h.length = a → restL g [] (List.range' a l.length) = (l.map fun l => l.length + 1).sum := by
    intro l
    induction l with
    | nil => intro a h _ _; rfl
    | cons x l ih =>
      intro a h hg ha
      have := ih (a + 1) (h ++ [x]) (by rw [hg]; simp) (by simp [ha])
      simp only [List.length_cons, List.range'_succ, restL, List.map_cons, List.sum_cons]
      rw [this]
      have h0 : g.getD a [] = x := by rw [hg, List.getD_eq_getElem?_getD, List.getElem?_append_right (by omega), ha]; simp
      rw [h0]
      simp
  rw [List.range_eq_range']
  exact key g 0 [] rfl rfl
theorem len_le_sum (g : List (List Nat)) (i : Nat) : (g.getD i []).length ≤ (g.map fun l => l.length + 1).sum := by
  induction g generalizing i with
  | nil => simp
  | cons x g ih =>
    cases i with
    | zero => simp; omega
    | succ i => have := ih i; simp at this ⊢; omega
theorem cyc_iff (g : List (List Nat)) (i : Nat) : cyc g i = true ↔ Path g i i := by
  unfold cyc
  refine cycN_spec g i _ [] _ ?_ (fun k hk => .one (List.mem_reverse.1 hk)) (fun k hk => by cases hk) (fun b e => .inr (List.mem_reverse.2 e)) (by simp)
  have h1 := sum_range g
  have h2 := len_le_sum g i
  unfold cycFuel rest
  rw [h1, List.length_reverse]
  omega
def iter (nx : Nat → Nat) : Nat → Nat → Nat
  | 0, i => i
  | t + 1, i => nx (iter nx t i)
theorem pigeon : ∀ (n : Nat) (f : Nat → Nat), (∀ i, i ≤ n → f i < n) → ∃ i j, i < j ∧ j ≤ n ∧ f i = f j
  | 0, f, h => by have := h 0 (Nat.le_refl _); omega
  | n + 1, f, h => by
    by_cases hx : ∃ i, i ≤ n ∧ f i = f (n + 1)
    · obtain ⟨i, hi, e⟩ := hx
      exact ⟨i, n + 1, by omega, Nat.le_refl _, e⟩
    · have hne : ∀ i, i ≤ n → f i ≠ f (n + 1) := fun i hi e => hx ⟨i, hi, e⟩
      obtain ⟨i, j, hij, hj, e⟩ := pigeon n (fun i => if f i = n then f (n + 1) else f i) (fun i hi => by
        have h1 := h i (by omega)
        have h2 := h (n + 1) (Nat.le_refl _)
        have h3 := hne i hi
        show (if f i = n then f (n + 1) else f i) < n
        split <;> omega)
      refine ⟨i, j, hij, by omega, ?_⟩
      have h1 := hne i (by omega)
      have h2 := hne j hj
      have e' : (if f i = n then f (n + 1) else f i) = (if f j = n then f (n + 1) else f j) := e
      split at e' <;> split at e' <;> omega
end Go.Proofs.YthihoafemahgmaaDoor.Mx
namespace Go.Proofs.YthihoafemahgmaaDoor.Mx
theorem at_other (k : ByteArray) : ∀ (l : List Fl) (i : Nat) (m : Env Nat), (∀ f ∈ l, f.name ≠ k) → atFrom i m l k = m k
  | [], _, _, _ => rfl
  | f :: l, i, m, h => by
    simp only [atFrom]
    rw [at_other k l (i + 1) _ (fun y hy => h y (List.mem_cons_of_mem _ hy))]
    simp [Env.set, Ne.symm (h f (List.mem_cons_self ..))]
theorem at_get : ∀ (l : List Fl) (i : Nat) (m : Env Nat), (l.map (·.name)).Nodup → ∀ j (h : j < l.length), atFrom i m l l[j].name = some (i + j)
  | [], _, _, _, j, h => by simp at h
  | f :: l, i, m, hn, j, h => by
    rw [List.map_cons, List.nodup_cons] at hn
    simp only [atFrom]
    cases j with
    | zero =>
      simp only [List.getElem_cons_zero]
      rw [at_other _ l (i + 1) _ (fun z hz e => hn.1 (List.mem_map.2 ⟨z, hz, e⟩))]
      simp [Env.set]
    | succ j =>
      simp only [List.getElem_cons_succ]
      rw [at_get l (i + 1) _ hn.2 j (by simpa using h)]
      congr 1; omega
def decB (n : Nat) : ByteArray := if n < 10 then ⟨#[UInt8.ofNat (48 + n)]⟩ else ⟨#[UInt8.ofNat (48 + n / 10), UInt8.ofNat (48 + n % 10)]⟩
def fnm (n : Nat) : ByteArray := ⟨#[102]⟩ ++ decB n
section
variable (nx : Nat → Nat) (n : Nat)
def chFl (i : Nat) : Fl := ⟨fnm i, 1, .mk oName 0 (fnm (nx i)) []⟩
def chain : Pr := ⟨[], (List.range n).map fnm, (List.range n).map (chFl nx), [], []⟩
variable {nx n}
end
end Go.Proofs.YthihoafemahgmaaDoor.Mx
namespace Go.Proofs.YthihoafemahgmaaDoor.Mx
def nxOf (l : List Int) (i : Nat) : Nat := (l.getD i 0 % (l.length : Int)).toNat
end Go.Proofs.YthihoafemahgmaaDoor.Mx
namespace Go.Proofs.YthihoafemahgmaaDoor
open Go.RowKit Mx
abbrev natV (n : Nat) : Value := .int .i64 (n : Int)
theorem needsL_take (at_ : Env Nat) : ∀ (l : List Ex) (k : Nat) (h : k < l.length), needsL at_ (l.take (k + 1)) = needsL at_ (l.take k) ++ needs at_ l[k]
  | e :: l, 0, _ => by simp [needsL]
  | e :: l, k + 1, h => by
    have := needsL_take at_ l k (by simpa using h)
    simp only [List.take_succ_cons, needsL, List.getElem_cons_succ]
    rw [this, List.append_assoc]
mutual
theorem needs_len (at_ : Env Nat) : ∀ e : Ex, (needs at_ e).length ≤ e.parts
  | .mk o n s l => by
    have h1 := needsL_len at_ l
    have h2 := needsH_len at_ l
    simp only [needs, Ex.parts]
    split
    · simp
    · split
      · omega
      · rw [List.length_append]
        split
        · cases at_ s <;> simp <;> omega
        · simp; omega
theorem needsL_len (at_ : Env Nat) : ∀ l : List Ex, (needsL at_ l).length ≤ Ex.partsL l
  | [] => by simp [needsL]
  | e :: l => by
    have h1 := needs_len at_ e
    have h2 := needsL_len at_ l
    simp only [needsL, Ex.partsL, List.length_append]; omega
theorem needsH_len (at_ : Env Nat) : ∀ l : List Ex, (needsH at_ l).length ≤ Ex.partsL l
  | [] => by simp [needsH]
  | e :: l => by
    have h1 := needs_len at_ e
    simp only [needsH, Ex.partsL]; omega
end
theorem formAll_parts {ks : Env Int} {o : ByteArray} {n : Int} {s : ByteArray} {l : List Ex} (h : formAll ks (.mk o n s l) = true) : (∀ e ∈ l, formAll ks e = true) ∧ (o = oFby → l.length = 2) ∧ (o = oArrow → l.length = 2) ∧ (o = oPre → l.length = 1) ∧ (o = oIf → l.length = 3) := by
  simp only [formAll, Bool.and_eq_true] at h
  refine ⟨fun e he => ?_, ?_⟩
  · obtain ⟨i, hi, rfl⟩ := List.mem_iff_getElem.1 he
    exact (formAllL_get ks l).1 h.2 i hi
  · have h1 := h.1.1.1
    have key : ∀ q k, o = q → arity q = some k → (0 : Int) ≤ k → (k : Int) = l.length := by
      rintro q k rfl hk h0
      simp only [form, Ex.op, hk, Bool.and_eq_true, Bool.or_eq_true, decide_eq_true_eq, Ex.l] at h1
      rcases h1.1.1 with h | h
      · omega
      · exact of_decide_eq_true h
    refine ⟨fun e => ?_, fun e => ?_, fun e => ?_, fun e => ?_⟩
    · have := key oFby 2 e (by decide) (by decide); omega
    · have := key oArrow 2 e (by decide) (by decide); omega
    · have := key oPre 1 e (by decide) (by decide); omega
    · have := key oIf 3 e (by decide) (by decide); omega
def Fr (w w' : World) : Prop := ∀ (b : Nat) (c : Array Value) (t : TypeId) (fr : Nat × Nat), w.heap[b]? = some (Obj.cells c t fr) → t ≠ 3 → t ≠ 83 → w'.heap[b]? = some (Obj.cells c t fr)
theorem Fr.trans {a b c : World} (h : Fr a b) (k : Fr b c) : Fr a c := fun i x t fr e h1 h2 => k i x t fr (h i x t fr e h1 h2) h1 h2
theorem Fr.of_below {w w' : World} (h : Below w.heap.size w w') : Fr w w' := fun b c t fr e _ _ => (h.block b (Array.getElem?_eq_some_iff.1 e).1).trans e
theorem Fr.cell {w w' : World} (h : Fr w w') {b : Nat} {c : Array Value} {t : TypeId} {fr : Nat × Nat} (e : w.heap[b]? = some (.cells c t fr)) (h1 : t ≠ 3) (h2 : t ≠ 83) (i : Nat) : w'.cell? ⟨b, i, none⟩ = c[i]? := by
  simp [World.cell?, h b c t fr e h1 h2]
structure Seer (k : Nat) (cap : Array Value) (H : Kn) (bat : Nat) (at_ : Env Nat) (I : List Nat → World → Prop) : Prop where
  enters : Enters Tryd.prog k
  next : ∀ acc w w', I acc w → Below w.heap.size w w' → I acc w'
  isin : ∀ acc w, I acc w → H.In w ∧ MapAt natV w bat at_
  call : ∀ acc w (j : Nat), acc.length ≤ 1000000 → I acc w → Calls Tryd.prog k (#[.int .i64 j] ++ cap) w fun r w' => r = .returned (.tuple #[]) ∧ I (acc ++ [j]) w' ∧ Fr w w'
set_option maxHeartbeats 2000000 in
set_option maxRecDepth 100000 in
theorem needs_any (k : Nat) (cap : Array Value) (H : Kn) (bat : Nat) (at_ : Env Nat) (I : List Nat → World → Prop) (hS : Seer k cap H bat at_ I) (ks : Env Int) :
    ∀ (e : Ex), formAll ks e = true → ∀ v, ExV H e v → ∀ acc w, acc.length + e.parts ≤ 1000000 → I acc w →
    Calls Tryd.prog 71 #[v, .map (some bat), .func (.func k) #[] cap] w fun r w' => r = .returned (.tuple #[]) ∧ I (acc ++ needs at_ e) w' ∧ Fr w w' := by
  refine Ex.ind fun o n s l ih hf v hv acc w hlen hI => ?_
  obtain ⟨u, rfl, hu⟩ := hv
  simp only [Ex.op, Ex.n, Ex.s, Ex.l] at hu ⊢
  obtain ⟨a, c, rfl⟩ := hu.len
  obtain ⟨hfl, hfby, _, _, _⟩ := formAll_parts hf
  have hen := hS.enters
  have hF1 := Lib.hid (Fr.of_below ((Below.refl w.heap.size w).alloc (Nat.le_refl _) (.cells #[.string o, .int .i64 n, .string s, .slice a l.length c] 45)))
  unfold Enters at hen
  have HU := Lib.hid hu
  have HI := Lib.hid (hS.next _ _ _ hI ((Below.refl _ _).alloc (Nat.le_refl _) (.cells #[.string o, .int .i64 n, .string s, .slice a l.length c] 45)))
  have HIH := Lib.hid fun e he => ih e he (hfl e he)
  have HL := Lib.hid (Nat.le_trans (Nat.add_le_add_left (show Ex.partsL l + 1 ≤ (Ex.mk o n s l).parts from by simp only [Ex.parts]; omega) acc.length) hlen)
  clear hu hI ih hfl hlen hf
  by_cases hpre : o = oPre
  · have HN := Lib.hid (show needs at_ (.mk o n s l) = [] from by simp only [needs]; rw [if_pos hpre])
    have t1 : (o.toList == [112, 114, 101]) = true := by rw [← dLit]; simpa using hpre
    clear hpre hfby
    go_enter Tryd.func71, Tryd.ntmps71
    go_wp2_with fail
    first | go_end0 | (refine bodyPost_ret (results_none rfl _ _ _) rfl ?_)
    exact ⟨rfl, by rw [HN.out, List.append_nil]; exact HI.out, hF1.out⟩
  · have t1 : (o.toList == [112, 114, 101]) = false := not_lit _ hpre
    by_cases hf2 : o = oFby
    · have h2 := hfby hf2
      have t2 : (o.toList == [102, 98, 121]) = true := by rw [← dLit]; simpa using hf2
      have h0 : 0 < l.length := by omega
      obtain ⟨b, off, ax, cx, rfl, c0, c1, c2, c3, hx⟩ := HU.out.at h0
      have HN := Lib.hid (show needs at_ (.mk o n s l) = needs at_ l[0] from by
        simp only [needs]
        rw [if_neg hpre, if_pos hf2]
        match l, h0 with
        | x :: r, _ => rfl)
      have hi0 := (hS.isin _ _ HI.out).1
      have c0 := hi0.cell c0
      have c1 := hi0.cell c1
      have c2 := hi0.cell c2
      have c3 := hi0.cell c3
      simp only [Nat.zero_mul, Nat.add_zero] at c0 c1 c2 c3
      have hmem := List.getElem_mem h0
      have hpl : l[0].parts ≤ Ex.partsL l := parts_mem hmem
      have HX := Lib.hid (HIH.out l[0] hmem _ hx acc _ (by have := HL.out; omega) HI.out)
      have h0I : (0 : Int) < l.length := by omega
      clear hpre hf2 hfby hx hi0 h2
      generalize l[0] = x at *
      clear HIH
      go_enter Tryd.func71, Tryd.ntmps71
      go_wp2_with fail
      refine HX.out.mono ?_
      rintro r w2 ⟨rfl, hI2, hF2⟩
      have HI2 := Lib.hid (And.intro hI2 (hF1.out.trans hF2))
      clear hI2 hF2
      go_wp2_with fail
      first | go_end0 | (refine bodyPost_ret (results_none rfl _ _ _) rfl ?_)
      exact ⟨rfl, by rw [HN.out]; exact HI2.out.1, HI2.out.2⟩
    · have t2 : (o.toList == [102, 98, 121]) = false := not_lit _ hf2
      -- what the name adds
      obtain ⟨pre, hpr⟩ : ∃ pre, pre = (if o = oName then (at_ s).toList else []) := ⟨_, rfl⟩
      have HN := Lib.hid (show needs at_ (.mk o n s l) = pre ++ needsL at_ l from by
        simp only [needs]
        rw [if_neg hpre, if_neg hf2, ← hpr])
      have HPL := Lib.hid (show pre.length ≤ 1 from by rw [hpr]; split; cases at_ s <;> simp; simp)
      have hrun := (hS.isin _ _ HI.out).2.run (P := Tryd.prog) Tryd.underlying52 Tryd.underlying9 (d := 0) (by kernel_rfl) s true
      simp only [if_true, natV] at hrun
      have hway : (o.toList == [110, 97, 109, 101]) = false ∧ pre = [] ∨ (o.toList == [110, 97, 109, 101]) = true ∧ (((at_ s).isSome = false ∧ pre = []) ∨ ((at_ s).isSome = true ∧ pre = [(at_ s).getD 0])) := by
        by_cases h : o = oName
        · right
          refine ⟨by rw [← dLit]; simpa using h, ?_⟩
          rw [if_pos h] at hpr
          cases hq : at_ s with
          | none => left; rw [hq] at hpr; exact ⟨rfl, hpr⟩
          | some j => right; rw [hq] at hpr; exact ⟨rfl, hpr⟩
        · left
          rw [if_neg h] at hpr
          exact ⟨not_lit _ h, hpr⟩
      have hll : l.length ≤ 1000000 := by have := partsL_len l; have := HL.out; omega
      clear hpre hf2 hfby hpr
      generalize (at_ s).isSome = is at *
      generalize (at_ s).getD 0 = j at *
      rcases hway with ⟨t3, rfl⟩ | ⟨t3, ⟨rfl, rfl⟩ | ⟨rfl, rfl⟩⟩
      · go_enter Tryd.func71, Tryd.ntmps71
        go_wp2_with fail
        clear hrun
        go_loopw [39] (fun i wr => ∃ q : Nat, i = .int .i64 q ∧ q ≤ l.length ∧ I (acc ++ ([] ++ needsL at_ (l.take q))) wr ∧ Fr w wr) (fun i _ => l.length - (intOf i).toNat)
        case atStart => exact ⟨0, rfl, Nat.zero_le _, by simpa [needsL] using HI.out, hF1.out⟩
        case round =>
          obtain ⟨q, rfl, hq, hIr, hFr⟩ := hrel
          have HIr := Lib.hid hIr
          have HFr := Lib.hid hFr
          clear hIr hFr
          by_cases hql : q < l.length
          · obtain ⟨b, off, ax, cx, rfl, c0, c1, c2, c3, hx⟩ := ExsV.at HU.out hql
            have hin := (hS.isin _ _ HIr.out).1
            have c0 := hin.cell c0
            have c1 := hin.cell c1
            have c2 := hin.cell c2
            have c3 := hin.cell c3
            have hmem := List.getElem_mem hql
            have NT := Lib.hid (needsL_take at_ l q hql)
            have hb1 := needsL_len at_ (l.take q)
            have hb2 := partsL_take l q hql
            have hb3 := partsL_le l (q + 1)
            have HX := Lib.hid (HIH.out l[q] hmem _ hx (acc ++ ([] ++ needsL at_ (l.take q))) _ (by have := HL.out; simp only [List.length_append, List.length_cons, List.length_nil]; omega) (hS.next _ _ _ HIr.out ((Below.refl _ _).alloc (Nat.le_refl _) (.cells #[.string l[q].op, .int .i64 l[q].n, .string l[q].s, .slice ax l[q].l.length cx] 45))))
            clear hx hb1 hb2 hb3 hin
            generalize l[q] = x at *
            go_wp2_with fail
            refine HX.out.mono ?_
            rintro r w2 ⟨rfl, hI2, hF2⟩
            have HI2 := Lib.hid hI2
            have HF2 := Lib.hid ((HFr.out.trans (Fr.of_below ((Below.refl _ _).alloc (Nat.le_refl _) _))).trans hF2)
            clear hI2 hF2
            go_wp2_with fail
            go_roundw
            case rel => exact ⟨q + 1, by go_num, by omega, by rw [NT.out]; simpa only [List.append_assoc] using HI2.out, HF2.out⟩
            case measure => simp [intOf]; omega
          · go_wp2_with fail
            first | go_end0 | (refine bodyPost_ret (results_none rfl _ _ _) rfl ?_)
            exact ⟨rfl, by rw [HN.out]; rw [show l.take q = l from List.take_of_length_le (by omega)] at HIr; exact HIr.out, HFr.out⟩
      · go_enter Tryd.func71, Tryd.ntmps71
        go_wp2_with fail
        clear hrun
        go_loopw [39] (fun i wr => ∃ q : Nat, i = .int .i64 q ∧ q ≤ l.length ∧ I (acc ++ ([] ++ needsL at_ (l.take q))) wr ∧ Fr w wr) (fun i _ => l.length - (intOf i).toNat)
        case atStart => exact ⟨0, rfl, Nat.zero_le _, by simpa [needsL] using HI.out, hF1.out⟩
        case round =>
          obtain ⟨q, rfl, hq, hIr, hFr⟩ := hrel
          have HIr := Lib.hid hIr
          have HFr := Lib.hid hFr
          clear hIr hFr
          by_cases hql : q < l.length
          · obtain ⟨b, off, ax, cx, rfl, c0, c1, c2, c3, hx⟩ := ExsV.at HU.out hql
            have hin := (hS.isin _ _ HIr.out).1
            have c0 := hin.cell c0
            have c1 := hin.cell c1
            have c2 := hin.cell c2
            have c3 := hin.cell c3
            have hmem := List.getElem_mem hql
            have NT := Lib.hid (needsL_take at_ l q hql)
            have hb1 := needsL_len at_ (l.take q)
            have hb2 := partsL_take l q hql
            have hb3 := partsL_le l (q + 1)
            have HX := Lib.hid (HIH.out l[q] hmem _ hx (acc ++ ([] ++ needsL at_ (l.take q))) _ (by have := HL.out; simp only [List.length_append, List.length_cons, List.length_nil]; omega) (hS.next _ _ _ HIr.out ((Below.refl _ _).alloc (Nat.le_refl _) (.cells #[.string l[q].op, .int .i64 l[q].n, .string l[q].s, .slice ax l[q].l.length cx] 45))))
            clear hx hb1 hb2 hb3 hin
            generalize l[q] = x at *
            go_wp2_with fail
            refine HX.out.mono ?_
            rintro r w2 ⟨rfl, hI2, hF2⟩
            have HI2 := Lib.hid hI2
            have HF2 := Lib.hid ((HFr.out.trans (Fr.of_below ((Below.refl _ _).alloc (Nat.le_refl _) _))).trans hF2)
            clear hI2 hF2
            go_wp2_with fail
            go_roundw
            case rel => exact ⟨q + 1, by go_num, by omega, by rw [NT.out]; simpa only [List.append_assoc] using HI2.out, HF2.out⟩
            case measure => simp [intOf]; omega
          · go_wp2_with fail
            first | go_end0 | (refine bodyPost_ret (results_none rfl _ _ _) rfl ?_)
            exact ⟨rfl, by rw [HN.out]; rw [show l.take q = l from List.take_of_length_le (by omega)] at HIr; exact HIr.out, HFr.out⟩
      · go_enter Tryd.func71, Tryd.ntmps71
        go_wp2_with fail
        refine (hS.call acc _ j (by have := HL.out; omega) HI.out).mono ?_
        rintro r w1 ⟨rfl, hI1, hF⟩
        have HI1 := Lib.hid (And.intro hI1 (hF1.out.trans hF))
        have q3 : w1.cell? ⟨w.heap.size, 3, none⟩ = some (.slice a l.length c) := hF.cell (heap_alloc_new _ _) (by decide) (by decide) 3
        clear hI1 hF
        go_wp2_with fail
        clear hrun
        go_loopw [39] (fun i wr => ∃ q : Nat, i = .int .i64 q ∧ q ≤ l.length ∧ I (acc ++ ([j] ++ needsL at_ (l.take q))) wr ∧ Fr w wr) (fun i _ => l.length - (intOf i).toNat)
        case atStart => exact ⟨0, rfl, Nat.zero_le _, by simpa [needsL] using HI1.out.1, HI1.out.2⟩
        case round =>
          obtain ⟨q, rfl, hq, hIr, hFr⟩ := hrel
          have HIr := Lib.hid hIr
          have HFr := Lib.hid hFr
          clear hIr hFr
          by_cases hql : q < l.length
          · obtain ⟨b, off, ax, cx, rfl, c0, c1, c2, c3, hx⟩ := ExsV.at HU.out hql
            have hin := (hS.isin _ _ HIr.out).1
            have c0 := hin.cell c0
            have c1 := hin.cell c1
            have c2 := hin.cell c2
            have c3 := hin.cell c3
            have hmem := List.getElem_mem hql
            have NT := Lib.hid (needsL_take at_ l q hql)
            have hb1 := needsL_len at_ (l.take q)
            have hb2 := partsL_take l q hql
            have hb3 := partsL_le l (q + 1)
            have HX := Lib.hid (HIH.out l[q] hmem _ hx (acc ++ ([j] ++ needsL at_ (l.take q))) _ (by have := HL.out; simp only [List.length_append, List.length_cons, List.length_nil]; omega) (hS.next _ _ _ HIr.out ((Below.refl _ _).alloc (Nat.le_refl _) (.cells #[.string l[q].op, .int .i64 l[q].n, .string l[q].s, .slice ax l[q].l.length cx] 45))))
            clear hx hb1 hb2 hb3 hin
            generalize l[q] = x at *
            go_wp2_with fail
            refine HX.out.mono ?_
            rintro r w2 ⟨rfl, hI2, hF2⟩
            have HI2 := Lib.hid hI2
            have HF2 := Lib.hid ((HFr.out.trans (Fr.of_below ((Below.refl _ _).alloc (Nat.le_refl _) _))).trans hF2)
            clear hI2 hF2
            go_wp2_with fail
            go_roundw
            case rel => exact ⟨q + 1, by go_num, by omega, by rw [NT.out]; simpa only [List.append_assoc] using HI2.out, HF2.out⟩
            case measure => simp [intOf]; omega
          · go_wp2_with fail
            first | go_end0 | (refine bodyPost_ret (results_none rfl _ _ _) rfl ?_)
            exact ⟨rfl, by rw [HN.out]; rw [show l.take q = l from List.take_of_length_le (by omega)] at HIr; exact HIr.out, HFr.out⟩
end Go.Proofs.YthihoafemahgmaaDoor
