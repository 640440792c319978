/- Nodes that remember, in order; frames of two blocks: no function of the program in sight. -/
import Derived.Test.YthihoafemahgmaaDoorRunM
import Derived.Test.YthihoafemahgmaaDoorRw
namespace Go.Proofs.YthihoafemahgmaaDoor
open Go.RowKit Mx
mutual
def memNds : Nat → Ex → List (Ex × Nat)
  | m, .mk o n s l => memNdsL m l ++ (if o = oPre ∨ o = oFby then [(.mk o n s l, m)] else [])
def memNdsL : Nat → List Ex → List (Ex × Nat)
  | _, [] => []
  | m, e :: l => memNds m e ++ memNdsL (m + memN e) l
end
def lastP (x : Ex × Nat) : Ex × Nat := (x.1.l.getLastD x.1, x.2 + memNL x.1.l.dropLast)
structure Gr2 (w w' : World) (B : Nat) (row : Option Nat) : Prop where
  os : w'.os = w.os
  tape : w'.tape = w.tape
  output : w'.output = w.output
  size : w.heap.size ≤ w'.heap.size
  block : ∀ i, i < w.heap.size → i ≠ B → some i ≠ row → w'.heap[i]? = w.heap[i]?
theorem Gr2.refl (w : World) (B : Nat) (row : Option Nat) : Gr2 w w B row := ⟨rfl, rfl, rfl, Nat.le_refl _, fun _ _ _ _ => rfl⟩
theorem Gr2.trans {a b c : World} {B : Nat} {row row' : Option Nat} (h : Gr2 a b B row) (k : Gr2 b c B row') (hr : ∀ j, row' = some j → a.heap.size ≤ j ∨ row = some j) : Gr2 a c B row :=
  ⟨k.os.trans h.os, k.tape.trans h.tape, k.output.trans h.output, Nat.le_trans h.size k.size, fun i hi h1 h2 => by
    rw [k.block i (Nat.lt_of_lt_of_le hi h.size) h1 (fun e => by
      rcases hr i e.symm with h3 | h3
      · omega
      · exact h2 h3.symm)]
    exact h.block i hi h1 h2⟩
theorem Gr2.of_below {w w' : World} (h : Below w.heap.size w w') (B : Nat) (row : Option Nat) : Gr2 w w' B row := ⟨h.os, h.tape, h.output, h.size, fun i hi _ _ => h.block i hi⟩
theorem Gr2.setCell {a w : World} {B : Nat} {row : Option Nat} (h : Gr2 a w B row) (i : Nat) (v : Value) : Gr2 a (w.setCell ⟨B, i, none⟩ v) B row :=
  ⟨h.os, h.tape, h.output, by simpa using h.size, fun j hj h1 h2 => by rw [Below.heap_setCell w ⟨B, i, none⟩ v j h1]; exact h.block j hj h1 h2⟩
theorem Gr2.grown {a w w' : World} {B : Nat} {row row' : Option Nat} (h : Gr2 a w B row) (hg : w.grownBy w' row') (hr : ∀ j, row' = some j → a.heap.size ≤ j ∨ row = some j) : Gr2 a w' B row :=
  ⟨hg.os.trans h.os, hg.tape.trans h.tape, hg.output.trans h.output, Nat.le_trans h.size hg.size, fun i hi h1 h2 => by
    rw [hg.block i (Nat.lt_of_lt_of_le hi h.size) (fun e => by
      rcases hr i e.symm with h3 | h3
      · omega
      · exact h2 h3.symm)]
    exact h.block i hi h1 h2⟩
theorem Gr2.isin {K : Kn} {w w' : World} {B : Nat} {row : Option Nat} (h : Gr2 w w' B row) (hK : K.In w) (hB : K B = none) (hr : ∀ g, row = some g → K g = none) : K.In w' := fun b o e => by
  rw [h.block b (hK.lt e) (fun e2 => by rw [e2, hB] at e; cases e) (fun e2 => by rw [hr b e2.symm] at e; cases e)]
  exact hK b o e
abbrev ptrV (q : Nat) : Value := .pointer (some ⟨q, 0, none⟩)
def ndMem (e : Ex) (m : Nat) : Int := if e.op = oPre ∨ e.op = oFby then ((m + memNL e.l : Nat) : Int) else 0
def ndCells (R : REnv) (e : Ex) (mem : Int) (lv pv : Value) : Array Value :=
  #[.string e.op, .int .i64 e.n, .string e.s, lv, pv, .int .i64 (kindOf R.ks e), .bool (decide (0 < lateOf R.lt e)), .int .i64 (R.nm e.s), .int .i64 mem]
mutual
def NdAt (T : TypeId) (R : REnv) (H : Kn) : Ex → Nat → Nat → Prop
  | .mk o n s l, m, q => ∃ lv pv, H q = some (.cells (ndCells R (.mk o n s l) (ndMem (.mk o n s l) m) lv pv) T (0, 0)) ∧
      ((l = [] ∧ ∃ a c, pv = .slice a 0 c) ∨ ∃ b off cap, pv = .slice (some ⟨b, off, none⟩) l.length cap ∧ l.length ≤ cap ∧ cap ≤ maxLen ∧ NdsAt T R H l m b off)
def NdsAt (T : TypeId) (R : REnv) (H : Kn) : List Ex → Nat → Nat → Nat → Prop
  | [], _, _, _ => True
  | e :: l, m, b, off => (∃ q, H.cell b off = some (ptrV q) ∧ NdAt T R H e m q) ∧ NdsAt T R H l (m + memN e) b (off + 1)
end
theorem ndsAt_of {T : TypeId} {R : REnv} {H H' : Kn} {l : List Ex} (hle : H.le H') (h : ∀ e ∈ l, ∀ m q, NdAt T R H e m q → NdAt T R H' e m q) : ∀ m b off, NdsAt T R H l m b off → NdsAt T R H' l m b off := by
  induction l with
  | nil => intro m b off _; simp only [NdsAt]
  | cons e l ih =>
    intro m b off hh
    simp only [NdsAt] at hh ⊢
    obtain ⟨⟨q, h1, h2⟩, h3⟩ := hh
    exact ⟨⟨q, hle.cell h1, h e (List.mem_cons_self ..) m q h2⟩, ih (fun x hx => h x (List.mem_cons_of_mem _ hx)) _ b _ h3⟩
theorem NdAt.le {T : TypeId} {R : REnv} {H H' : Kn} (hle : H.le H') : ∀ (e : Ex) (m q : Nat), NdAt T R H e m q → NdAt T R H' e m q := by
  refine Ex.ind fun o n s l ih m q h => ?_
  simp only [NdAt] at h ⊢
  obtain ⟨lv, pv, h1, h2⟩ := h
  refine ⟨lv, pv, hle _ _ h1, ?_⟩
  rcases h2 with ⟨hl, a, c, hp⟩ | ⟨b, off, cap, hp, h3, h4, h5⟩
  · exact .inl ⟨hl, a, c, hp⟩
  · exact .inr ⟨b, off, cap, hp, h3, h4, ndsAt_of hle ih m b off h5⟩
theorem NdsAt.get {T : TypeId} {R : REnv} {H : Kn} : ∀ {l : List Ex} {m b off : Nat}, NdsAt T R H l m b off → ∀ i (h : i < l.length), ∃ q, H.cell b (off + i) = some (ptrV q) ∧ NdAt T R H l[i] (m + memNL (l.take i)) q
  | [], _, _, _, _, i, h => by simp at h
  | e :: l, m, b, off, hh, 0, _ => by
    simp only [NdsAt] at hh
    simpa [memNL] using hh.1
  | e :: l, m, b, off, hh, i + 1, h => by
    simp only [NdsAt] at hh
    have := NdsAt.get hh.2 i (by simpa using h)
    simp only [List.take_succ_cons, memNL, List.getElem_cons_succ]
    rw [show off + (i + 1) = off + 1 + i from by omega, ← Nat.add_assoc]
    exact this
theorem NdsAt.mk {T : TypeId} {R : REnv} {H : Kn} : ∀ {l : List Ex} {m b off : Nat}, (∀ i (h : i < l.length), ∃ q, H.cell b (off + i) = some (ptrV q) ∧ NdAt T R H l[i] (m + memNL (l.take i)) q) → NdsAt T R H l m b off
  | [], _, _, _, _ => by simp only [NdsAt]
  | e :: l, m, b, off, h => by
    simp only [NdsAt]
    refine ⟨by have h0 := h 0 (by simp); simp only [List.take_zero, memNL, Nat.add_zero] at h0; exact h0, NdsAt.mk fun i hi => ?_⟩
    have := h (i + 1) (by simpa using hi)
    simp only [List.take_succ_cons, memNL, List.getElem_cons_succ] at this
    rw [show off + 1 + i = off + (i + 1) from by omega, Nat.add_assoc]
    exact this
theorem NdAt.open {T : TypeId} {R : REnv} {H : Kn} {e : Ex} {m q : Nat} (h : NdAt T R H e m q) : ∃ lv pv, H q = some (.cells (ndCells R e (ndMem e m) lv pv) T (0, 0)) ∧ ∃ a c, pv = .slice a e.l.length c ∧
    ∀ i (hi : i < e.l.length), ∃ b off q', a = some ⟨b, off, none⟩ ∧ H.cell b (off + i) = some (ptrV q') ∧ NdAt T R H e.l[i] (m + memNL (e.l.take i)) q' := by
  obtain ⟨o, n, s, l⟩ := e
  simp only [NdAt] at h
  obtain ⟨lv, pv, h1, h2⟩ := h
  refine ⟨lv, pv, h1, ?_⟩
  simp only [Ex.l]
  rcases h2 with ⟨rfl, a, c, hp⟩ | ⟨b, off, cap, hp, h3, h4, h5⟩
  · exact ⟨a, c, hp, fun i hi => by simp at hi⟩
  · refine ⟨_, cap, hp, fun i hi => ?_⟩
    obtain ⟨q', h6, h7⟩ := h5.get i hi
    exact ⟨b, off, q', rfl, h6, h7⟩
abbrev NdsV (T : TypeId) (R : REnv) (H : Kn) : List (Ex × Nat) → Value → Prop := SlV H 1 fun x f => ∃ q, f 0 = some (ptrV q) ∧ NdAt T R H x.1 x.2 q
theorem NdsV.le {T : TypeId} {R : REnv} {H H' : Kn} (hle : H.le H') {l : List (Ex × Nat)} {v : Value} (h : NdsV T R H l v) : NdsV T R H' l v :=
  SlV.le h hle fun x f g hfg ⟨q, h1, h2⟩ => ⟨q, hfg _ _ h1, NdAt.le hle _ _ _ h2⟩
def VlC (x : Vl) (f : Nat → Option Value) : Prop := f 0 = some (.int .i64 x.kind) ∧ f 1 = some (.int .i64 x.n)
abbrev VlsV (H : Kn) : List Vl → Value → Prop := SlV H 2 VlC
abbrev vlV (x : Vl) : Value := .agg #[.int .i64 x.kind, .int .i64 x.n]
theorem VlC.mono (x : Vl) (f g : Nat → Option Value) (h : ∀ j u, f j = some u → g j = some u) (hx : VlC x f) : VlC x g := ⟨h _ _ hx.1, h _ _ hx.2⟩
def vlX (l : List Vl) : List Value := l.flatMap fun v => [.int .i64 v.kind, .int .i64 v.n]
theorem cell2_of {W : World} {b : Nat} {x y : Value} {t : TypeId} (h : W.heap[b]? = some (.cells #[x, y] t (0, 0))) :
    W.cell? ⟨b, 0, none⟩ = some x ∧ W.cell? ⟨b, 1, none⟩ = some y ∧ W.frozen? ⟨b, 0, none⟩ = false ∧ W.frozen? ⟨b, 1, none⟩ = false ∧ b < W.heap.size :=
  ⟨by simp [World.cell?, h], by simp [World.cell?, h], by simp [World.frozen?, h], by simp [World.frozen?, h], (Array.getElem?_eq_some_iff.1 h).1⟩
theorem put2_of {W : World} {b : Nat} {x y : Value} {t : TypeId} (h : W.heap[b]? = some (.cells #[x, y] t (0, 0))) (u v : Value) :
    (W.setCell ⟨b, 0, none⟩ u).cell? ⟨b, 0, none⟩ = some u ∧ ((W.setCell ⟨b, 0, none⟩ u).setCell ⟨b, 1, none⟩ v).cell? ⟨b, 1, none⟩ = some v ∧
    (∀ o, (((W.setCell ⟨b, 0, none⟩ u).setCell ⟨b, 1, none⟩ v).alloc o).cell? ⟨b, 0, none⟩ = some u) ∧ (∀ o, (((W.setCell ⟨b, 0, none⟩ u).setCell ⟨b, 1, none⟩ v).alloc o).cell? ⟨b, 1, none⟩ = some v) := by
  have h1 : (W.setCell ⟨b, 0, none⟩ u).heap[b]? = some (.cells #[u, y] t (0, 0)) := by
    show (W.heap.modify b _)[b]? = _
    rw [Array.getElem?_modify, if_pos rfl, h]; rfl
  have h2 : ((W.setCell ⟨b, 0, none⟩ u).setCell ⟨b, 1, none⟩ v).heap[b]? = some (.cells #[u, v] t (0, 0)) := by
    generalize W.setCell ⟨b, 0, none⟩ u = W1 at *
    show (W1.heap.modify b _)[b]? = _
    rw [Array.getElem?_modify, if_pos rfl, h1]; rfl
  refine ⟨by simp [World.cell?, h1], by simp [World.cell?, h2], fun o => ?_, fun o => ?_⟩
  · rw [World.cell?_alloc_past _ _ _ (Array.getElem?_eq_some_iff.1 h2).1]; simp [World.cell?, h2]
  · rw [World.cell?_alloc_past _ _ _ (Array.getElem?_eq_some_iff.1 h2).1]; simp [World.cell?, h2]
theorem below_put2 {base b : Nat} {w W : World} (h : Below base w W) (hb : base ≤ b) (u v : Value) : Below base w ((W.setCell ⟨b, 0, none⟩ u).setCell ⟨b, 1, none⟩ v) :=
  (h.setCell (p := ⟨b, 0, none⟩) hb u).setCell (p := ⟨b, 1, none⟩) hb v
end Go.Proofs.YthihoafemahgmaaDoor
