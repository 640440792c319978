/- Rows that grow beside known memory: a term that is copied part by part. -/
import Derived.Test.YtnaijgmfjpmpjaaGreatDoorConcat
import Derived.Test.YtnaijgmfjpmpjaaGreatDoorGraphA
import Derived.Deep.AppendLies
import Derived.Test.YtnaijgmfjpmpjaaGreatDoorRunM
namespace Go.Proofs.YtnaijgmfjpmpjaaGreatDoor
open Go.RowKit Mx
theorem Kn.In.grown {K : Kn} {w w' : World} {row : Option Nat} (h : K.In w) (hg : w.grownBy w' row) (hr : ∀ g, row = some g → K g = none) : K.In w' := fun b o e => by
 rw [hg.block b (h.lt e) (fun e2 => by have := hr b e2.symm; rw [this] at e; cases e)]; exact h b o e
theorem exsV_of_own {K : Kn} {w : World} {base : Nat} {t : TypeId} {v : Value} {l : List Ex} {xs : List Value} (hK : K.In w) (h : w.ownsRow base t 4 v l.length xs) (hx : XsAt K l xs) (hr : ∀ g, v.ownBlock = some g → K g = none) :
  ∃ K', K.le K' ∧ K'.In w ∧ ExsV K' l v ∧ ∀ b, b < base → K' b = K b := by
 by_cases h0 : l = []
 ·obtain ⟨a, c, h1, _⟩ := own_len h
  exact ⟨K, Kn.le_refl K, hK, .inl ⟨h0, a, c, by rw [h1, h0]; rfl⟩, fun _ _ => rfl⟩
 ·obtain ⟨g, cap, h1, h2, h3, hb, hlt, h4⟩ := own_shape h (List.length_pos_iff.2 h0)
  have hg : K g = none := hr g (by rw [h1]; rfl)
  have ho : w.heap[g]? = some w.heap[g] := Array.getElem?_eq_getElem hlt
  refine ⟨K.add g w.heap[g], Kn.le_add hg, hK.add ho, .inr ⟨g, 0, cap, h1, h2, h3, hx.at (Kn.le_add hg) fun j u hj => ?_⟩, fun b hbb => Kn.add_other K _ (by omega)⟩
  have h5 := h4 j u hj
  unfold Kn.cell
  rw [Kn.add_self, Nat.zero_add]
  simp only [World.cell?, ho] at h5
  cases hc : w.heap[g] <;> simp_all
structure ExO (T : TypeId) (H : Kn) (w0 wr : World) (B : Nat) (e : Ex) (done : Nat) (u : Value) (xs : List Value) (K : Kn) : Prop where
 le : H.le K
 fresh : ∀ b, b ≤ B → K b = H b
 isin : K.In wr
 below : Below B w0 wr
 box : wr.heap[B]? = some (.cells #[.string e.op, .int .i64 e.n, .string e.s, u] T (0, 0))
 row : wr.ownsRow (B + 1) T 4 u done xs
 xs : XsAt K (e.l.take done) xs
 noR : ∀ g, u.ownBlock = some g → K g = none
section
variable {T : TypeId} {H K : Kn} {w0 wr : World} {B : Nat} {e : Ex} {done : Nat} {u : Value} {xs : List Value}
theorem ExO.blt (h : ExO T H w0 wr B e done u xs K) : B < wr.heap.size := (Array.getElem?_eq_some_iff.1 h.box).1
theorem ExO.cells (h : ExO T H w0 wr B e done u xs K) : wr.cell? ⟨B, 0, none⟩ = some (.string e.op) ∧ wr.cell? ⟨B, 1, none⟩ = some (.int .i64 e.n) ∧ wr.cell? ⟨B, 2, none⟩ = some (.string e.s) ∧ wr.cell? ⟨B, 3, none⟩ = some u := by
 simp [World.cell?, h.box]
theorem ExO.next {wc : World} {K2 : Kn} (h : ExO T H w0 wr B e done u xs K) (hs : Kn.Step K wr K2 wc) : ExO T H w0 wc B e done u xs K2 := by
 refine ⟨Kn.le_trans h.le hs.le, fun b hb => (hs.fresh b (Nat.lt_of_le_of_lt hb h.blt)).trans (h.fresh b hb), hs.isin, h.below.trans (hs.below.mono (Nat.le_of_lt h.blt)), ?_, own_below h.row hs.below, h.xs.le hs.le, fun g hg => ?_⟩
 ·rw [hs.below.block B h.blt]; exact h.box
 ·rw [hs.fresh g (h.row.lt g hg).2]; exact h.noR g hg
theorem ExO.later {wc : World} (h : ExO T H w0 wr B e done u xs K) (hb : Below wr.heap.size wr wc) : ExO T H w0 wc B e done u xs K := h.next (Kn.Step.of_below h.isin hb)
theorem ExO.alloc (h : ExO T H w0 wr B e done u xs K) (o : Obj) : ExO T H w0 (wr.alloc o) B e done u xs K := h.later ((Below.refl _ _).alloc (Nat.le_refl _) o)
theorem ExO.drew (h : ExO T H w0 wr B e done u xs K) : ExO T H w0 wr.drew B e done u xs K := h.later ((Below.refl _ _).drew)
theorem take_snoc {α : Type} (l : List α) (k : Nat) (h : k < l.length) : l.take (k + 1) = l.take k ++ [l[k]] := List.take_succ_eq_append_getElem h
theorem ExO.step {wc w3 : World} {gg cap' : Nat} (h : ExO T H w0 wc B e done u xs K) (hd : done < e.l.length) {x : Ex} (hx : e.l[done] = x) (hBn : H B = none) {a : Option Addr} {c : Nat} (hp : ExsV K x.l (.slice a x.l.length c))
  (hown : w3.ownsRow (B + 1) T 4 (.slice (some ⟨gg, 0, none⟩) (done + 1) cap') (done + 1) (xs ++ [.string x.op, .int .i64 x.n, .string x.s, .slice a x.l.length c])) (hg : wc.grownBy w3 u.ownBlock) (hat : u.ownBlock = some gg ∨ gg = wc.heap.size) :
  w3.cell? ⟨B, 3, none⟩ = some u ∧ w3.frozen? ⟨B, 3, none⟩ = false ∧ ExO T H w0 (w3.setCell ⟨B, 3, none⟩ (.slice (some ⟨gg, 0, none⟩) (done + 1) cap')) B e (done + 1) (.slice (some ⟨gg, 0, none⟩) (done + 1) cap') (xs ++ [.string x.op, .int .i64 x.n, .string x.s, .slice a x.l.length c]) K := by
 subst hx
 have hne : some B ≠ u.ownBlock := fun e => own_ge h.row (by omega) e.symm
 have hbx : w3.heap[B]? = _ := (hg.block B h.blt hne).trans h.box
 have hin := (h.isin.grown hg h.noR)
 refine ⟨by simp [World.cell?, hbx], by simp [World.frozen?, hbx], h.le, h.fresh, hin.setCell (a := ⟨B, 3, none⟩) ((h.fresh B (Nat.le_refl B)).trans hBn) _, ?_, ?_, own_setCell hown (own_ge (b := B) hown (by omega)) _, ?_, fun g hgg => ?_⟩
 ·exact (h.below.grown hg (Nat.le_of_lt h.blt) (fun g hgg => by have := (h.row.lt g hgg).1; omega)).setCell (Nat.le_refl B) _
 ·rw [heap_setCell_same _ _ _ _ _ _ _ hbx]; rfl
 ·rw [take_snoc _ _ hd]
  exact h.xs.append ⟨a, c, [], rfl, hp, rfl⟩
 ·have hgg' : gg = g := by simpa [Value.ownBlock] using hgg
  subst hgg'
  rcases hat with h1 | h1
  ·exact h.noR gg h1
  ·rw [h1]; exact h.isin.isNone (Nat.le_refl _)
end
theorem getElem_parts : ∀ (l : List Ex) (i : Nat) (hi : i < l.length), l[i].parts ≤ Ex.partsL l := fun l i hi => by
 induction l generalizing i with
 | nil => simp at hi
 | cons x l ih =>
  cases i with
  | zero => simp only [List.getElem_cons_zero, Ex.partsL]; omega
  | succ i => have := ih i (by simpa using hi); simp only [List.getElem_cons_succ, Ex.partsL]; omega
theorem ex_parts (e : Ex) : e.parts = 1 + Ex.partsL e.l := by cases e; simp only [Ex.parts, Ex.l]
theorem len_partsL : ∀ l : List Ex, l.length ≤ Ex.partsL l
 | [] => Nat.le_refl _
 | e :: l => by have := len_partsL l; have := ex_parts e; simp only [Ex.partsL, List.length_cons]; omega
theorem cells4_of {W : World} {b : Nat} {x y z u : Value} {t : TypeId} (h : W.heap[b]? = some (.cells #[x, y, z, u] t (0, 0))) :
  W.cell? ⟨b, 0, none⟩ = some x ∧ W.cell? ⟨b, 1, none⟩ = some y ∧ W.cell? ⟨b, 2, none⟩ = some z ∧ W.cell? ⟨b, 3, none⟩ = some u ∧ W.frozen? ⟨b, 0, none⟩ = false ∧ W.frozen? ⟨b, 1, none⟩ = false ∧ W.frozen? ⟨b, 2, none⟩ = false ∧ W.frozen? ⟨b, 3, none⟩ = false ∧ b < W.heap.size :=
 ⟨by simp [World.cell?, h], by simp [World.cell?, h], by simp [World.cell?, h], by simp [World.cell?, h], by simp [World.frozen?, h], by simp [World.frozen?, h], by simp [World.frozen?, h], by simp [World.frozen?, h], (Array.getElem?_eq_some_iff.1 h).1⟩
structure RwO {α : Type} (T k : Nat) (X : Kn → List α → List Value → Prop) (H : Kn) (w0 wr : World) (base : Nat) (l : List α) (done : Nat) (u : Value) (xs : List Value) (K : Kn) : Prop where
 le : H.le K
 fresh : ∀ b, b < base → K b = H b
 isin : K.In wr
 below : Below base w0 wr
 size : base ≤ wr.heap.size
 row : wr.ownsRow base T k u done xs
 xs : X K (l.take done) xs
 noR : ∀ g, u.ownBlock = some g → K g = none
section
variable {α : Type} {T k : Nat} {X : Kn → List α → List Value → Prop} {H K : Kn} {w0 wr : World} {base : Nat} {l : List α} {done : Nat} {u : Value} {xs : List Value}
theorem RwO.next (hX : ∀ K K' l xs, Kn.le K K' → X K l xs → X K' l xs) {wc : World} {K2 : Kn} (h : RwO T k X H w0 wr base l done u xs K) (hs : Kn.Step K wr K2 wc) : RwO T k X H w0 wc base l done u xs K2 :=
 ⟨Kn.le_trans h.le hs.le, fun b hb => (hs.fresh b (Nat.lt_of_lt_of_le hb h.size)).trans (h.fresh b hb), hs.isin, h.below.trans (hs.below.mono h.size), Nat.le_trans h.size hs.below.size, own_below h.row hs.below, hX _ _ _ _ hs.le h.xs, fun g hg => by
  rw [hs.fresh g (h.row.lt g hg).2]; exact h.noR g hg⟩
theorem RwO.later {wc : World} (h : RwO T k X H w0 wr base l done u xs K) (hb : Below wr.heap.size wr wc) : RwO T k X H w0 wc base l done u xs K :=
 ⟨h.le, h.fresh, h.isin.below hb, h.below.trans (hb.mono h.size), Nat.le_trans h.size hb.size, own_below h.row hb, h.xs, h.noR⟩
theorem RwO.alloc (h : RwO T k X H w0 wr base l done u xs K) (o : Obj) : RwO T k X H w0 (wr.alloc o) base l done u xs K := h.later ((Below.refl _ _).alloc (Nat.le_refl _) o)
theorem RwO.drew (h : RwO T k X H w0 wr base l done u xs K) : RwO T k X H w0 wr.drew base l done u xs K := h.later ((Below.refl _ _).drew)
theorem RwO.step {wc w3 : World} {gg cap' n' : Nat} {ys : List Value} (h : RwO T k X H w0 wc base l done u xs K) (hx : X K (l.take (done + n')) (xs ++ ys))
  (hown : w3.ownsRow base T k (.slice (some ⟨gg, 0, none⟩) (done + n') cap') (done + n') (xs ++ ys)) (hg : wc.grownBy w3 u.ownBlock) (hat : u.ownBlock = some gg ∨ gg = wc.heap.size) :
  RwO T k X H w0 w3 base l (done + n') (.slice (some ⟨gg, 0, none⟩) (done + n') cap') (xs ++ ys) K := by
 refine ⟨h.le, h.fresh, h.isin.grown hg h.noR, h.below.grown hg h.size (fun g hgg => (h.row.lt g hgg).1), Nat.le_trans h.size hg.size, hown, hx, fun g hgg => ?_⟩
 have hgg' : gg = g := by simpa [Value.ownBlock] using hgg
 subst hgg'
 rcases hat with h1 | h1
 ·exact h.noR gg h1
 ·rw [h1]; exact h.isin.isNone (Nat.le_refl _)
end
theorem slv_of_own {α : Type} {k : Nat} {R : Kn → α → (Nat → Option Value) → Prop} {K : Kn} {w : World} {base : Nat} {t : TypeId} {v : Value} {l : List α} {xs : List Value} (hK : K.In w) (h : w.ownsRow base t k v l.length xs) (hr : ∀ g, v.ownBlock = some g → K g = none)
  (hR : ∀ K', Kn.le K K' → ∀ i (hi : i < l.length), ∀ f : Nat → Option Value, (∀ j u, xs[i * k + j]? = some u → f j = some u) → R K' l[i] f) :
  ∃ K', K.le K' ∧ K'.In w ∧ SlV K' k (R K') l v ∧ ∀ b, b < base → K' b = K b := by
 by_cases h0 : l = []
 ·obtain ⟨a, c, h1, _⟩ := own_len h
  exact ⟨K, Kn.le_refl K, hK, .inl ⟨h0, a, c, by rw [h1, h0]; rfl⟩, fun _ _ => rfl⟩
 ·obtain ⟨g, cap, h1, h2, h3, hb, hlt, h4⟩ := own_shape h (List.length_pos_iff.2 h0)
  have hg : K g = none := hr g (by rw [h1]; rfl)
  have ho : w.heap[g]? = some w.heap[g] := Array.getElem?_eq_getElem hlt
  refine ⟨K.add g w.heap[g], Kn.le_add hg, hK.add ho, .inr ⟨g, 0, cap, h1, h2, h3, fun i hi => hR _ (Kn.le_add hg) i hi _ fun j u hj => ?_⟩, fun b hbb => Kn.add_other K _ (by omega)⟩
  have h5 := h4 _ u hj
  unfold Kn.cell
  rw [Kn.add_self, Nat.zero_add]
  simp only [World.cell?, ho] at h5
  cases hc : w.heap[g] <;> simp_all
theorem app1L {P : Program} (t e : TypeId) (k bytes : Nat) (z : Value) (ht : P.underlying t = some (.slice e)) (hinfo : (P.info? e).map (fun i => (i.zero, i.size, i.bytes)) = some (some z, k, bytes)) (hzs : z.cells.size = k) (hk : 0 < k)
  {w : World} {ops : Array Oper} {rest : List Oper} {o : Oper} {a : Act} {Q : Exit → Act → World → Prop} (s x : Operand) (hgd : o.guard = none)
  (ho : o.op = .call { callee := .builtin .append, args := #[s, x], argTypes := #[t, t] }) (base : Nat) (v : Value) (n : Nat) (xs : List Value) (hs : a.eval s = v) (hown : w.ownsRow base e k v n xs)
  (ad : Addr) (c : Nat) (news : List Value) (hx : a.eval x = .slice (some ad) 1 c) (hl : news.length = k) (hnews : ∀ j u, news[j]? = some u → w.cell? (ad.add j) = some u) (h1 : ∀ u ∈ news, u.oneCell' = true)
  (hbytes : (n + 1) * bytes ≤ 140737488355328) (hn : n + 1 ≤ 140737488355328) (hbase : base ≤ w.heap.size)
  (h : ∀ g cap w', w'.ownsRow base e k (.slice (some ⟨g, 0, none⟩) (n + 1) cap) (n + 1) (xs ++ news) → w.grownBy w' v.ownBlock → (v.ownBlock = some g ∨ g = w.heap.size) → wpList P ops Q rest (a.put o.dst (.slice (some ⟨g, 0, none⟩) (n + 1) cap)) w') : wpList P ops Q (o :: rest) a w := by
 obtain ⟨i, hi, h0, h2, h3⟩ := info_parts hinfo
 exact wpList_append_lies w hgd s x t ho base e i z k bytes ht hi h0 h2 h3 hzs hk v n xs hs hown ad 1 c news hx (by omega) hnews h1 (by omega) (by unfold maxLen; omega) hbytes hbase _ rfl (fun g cap w' a b c _ => h g cap w' a b c)
def VsX (_ : Kn) (l : List Vr) (xs : List Value) : Prop := xs = l.flatMap fun v => [.string v.name, .int .i64 v.kind]
def SsX (_ : Kn) (l : List ByteArray) (xs : List Value) : Prop := xs = l.map .string
theorem VsX.at {K K' : Kn} {l : List Vr} {xs : List Value} (h : VsX K l xs) : ∀ i (hi : i < l.length), ∀ f : Nat → Option Value, (∀ j u, xs[i * 2 + j]? = some u → f j = some u) → (fun _ => VrC) K' l[i] f := by
 intro i hi f hf
 rw [show xs = _ from h] at hf
 have hg := fun j hj => flat_get 2 (fun v : Vr => [Value.string v.name, .int .i64 v.kind]) (fun _ => rfl) l i hi j hj
 exact ⟨hf 0 _ (hg 0 (by decide)), hf 1 _ (hg 1 (by decide))⟩
theorem SsX.at {K K' : Kn} {l : List ByteArray} {xs : List Value} (h : SsX K l xs) : ∀ i (hi : i < l.length), ∀ f : Nat → Option Value, (∀ j u, xs[i * 1 + j]? = some u → f j = some u) → (fun _ => StrC) K' l[i] f := by
 intro i hi f hf
 rw [show xs = _ from h] at hf
 exact hf 0 _ (by simp [hi])
theorem set4_of {W : World} {b : Nat} {x y z u : Value} {t : TypeId} (h : W.heap[b]? = some (.cells #[x, y, z, u] t (0, 0))) (p q r v : Value) :
  ((((W.setCell ⟨b, 0, none⟩ p).setCell ⟨b, 1, none⟩ q).setCell ⟨b, 2, none⟩ r).setCell ⟨b, 3, none⟩ v).heap[b]? = some (.cells #[p, q, r, v] t (0, 0)) := by
 have h1 := heap_setCell_same W b 0 p _ _ _ h
 have h2 := heap_setCell_same _ b 1 q _ _ _ h1
 have h3 := heap_setCell_same _ b 2 r _ _ _ h2
 have h4 := heap_setCell_same _ b 3 v _ _ _ h3
 simpa using h4
end Go.Proofs.YtnaijgmfjpmpjaaGreatDoor
namespace Go.Proofs.YtnaijgmfjpmpjaaGreatDoor
open Go.RowKit Mx
mutual
def memNds : Nat → Ex → List (Ex × Nat)
 | m, .mk o n s l => memNdsL m l ++ (if o = oPre ∨ o = oFby then [(.mk o n s l, m)] else [])
def memNdsL : Nat → List Ex → List (Ex × Nat)
 | _, [] => []
 | m, e :: l => memNds m e ++ memNdsL (m + memN e) l
end
def lastP (x : Ex × Nat) : Ex × Nat := (x.1.l.getLastD x.1, x.2 + memNL x.1.l.dropLast)
theorem memNds_len : ∀ (e : Ex) (m : Nat), (memNds m e).length = memN e := by
 refine Ex.ind fun o n s l ih m => ?_
 have hL : ∀ (l : List Ex), (∀ e ∈ l, ∀ m, (memNds m e).length = memN e) → ∀ m, (memNdsL m l).length = memNL l := by
  intro l
  induction l with
  | nil => intro _ m; rfl
  | cons e l ihl =>
   intro hh m
   simp only [memNdsL, memNL, List.length_append]
   rw [hh e (List.mem_cons_self ..), ihl fun y hy => hh y (List.mem_cons_of_mem _ hy)]
 simp only [memNds, memN, List.length_append]
 rw [hL l ih]
 congr 1
 split <;> rfl
theorem memNdsL_len : ∀ (l : List Ex) (m : Nat), (memNdsL m l).length = memNL l
 | [], _ => rfl
 | e :: l, m => by simp only [memNdsL, memNL, List.length_append]; rw [memNds_len, memNdsL_len l]
theorem memsAt_nds : ∀ (e : Ex) (m : Nat), memsAt m e = (memNds m e).map lastP := by
 refine Ex.ind fun o n s l ih m => ?_
 have hL : ∀ (l : List Ex), (∀ e ∈ l, ∀ m, memsAt m e = (memNds m e).map lastP) → ∀ m, memsAtL m l = (memNdsL m l).map lastP := by
  intro l
  induction l with
  | nil => intro _ m; rfl
  | cons e l ihl =>
   intro hh m
   simp only [memNdsL, memsAtL, List.map_append]
   rw [hh e (List.mem_cons_self ..), ihl fun y hy => hh y (List.mem_cons_of_mem _ hy)]
 simp only [memNds, memsAt, List.map_append]
 rw [hL l ih]
 congr 1
 split <;> rfl
theorem memsAtL_nds : ∀ (l : List Ex) (m : Nat), memsAtL m l = (memNdsL m l).map lastP
 | [], _ => rfl
 | e :: l, m => by simp only [memNdsL, memsAtL, List.map_append]; rw [memsAt_nds, memsAtL_nds l]
theorem memNL_append : ∀ (a b : List Ex), memNL (a ++ b) = memNL a + memNL b
 | [], b => by simp [memNL]
 | x :: a, b => by simp only [List.cons_append, memNL, memNL_append a b]; omega
theorem memNL_take (l : List Ex) (k : Nat) (h : k < l.length) : memNL (l.take (k + 1)) = memNL (l.take k) + memN l[k] := by
 rw [List.take_succ_eq_append_getElem h, memNL_append]
 simp [memNL]
theorem memNL_take_le : ∀ (l : List Ex) (k : Nat), memNL (l.take k) ≤ memNL l := fun l k => by
 have := memNL_append (l.take k) (l.drop k)
 rw [List.take_append_drop] at this
 omega
theorem memNdsL_append : ∀ (a b : List Ex) (m : Nat), memNdsL m (a ++ b) = memNdsL m a ++ memNdsL (m + memNL a) b
 | [], b, m => by simp [memNdsL, memNL]
 | x :: a, b, m => by simp only [List.cons_append, memNdsL, memNL, memNdsL_append a b, List.append_assoc, Nat.add_assoc]
theorem memNdsL_take (l : List Ex) (k m : Nat) (h : k < l.length) : memNdsL m (l.take (k + 1)) = memNdsL m (l.take k) ++ memNds (m + memNL (l.take k)) l[k] := by
 rw [List.take_succ_eq_append_getElem h, memNdsL_append]
 simp [memNdsL]
structure Gr2 (w w' : World) (B : Nat) (row : Option Nat) : Prop where
 os : w'.os = w.os
 tape : w'.tape = w.tape
 output : w'.output = w.output
 size : w.heap.size ≤ w'.heap.size
 block : ∀ i, i < w.heap.size → i ≠ B → some i ≠ row → w'.heap[i]? = w.heap[i]?
theorem Gr2.refl (w : World) (B : Nat) (row : Option Nat) : Gr2 w w B row := ⟨rfl, rfl, rfl, Nat.le_refl _, fun _ _ _ _ => rfl⟩
theorem Gr2.trans {a b c : World} {B : Nat} {row row' : Option Nat} (h : Gr2 a b B row) (k : Gr2 b c B row') (hr : ∀ j, row' = some j → a.heap.size ≤ j ∨ row = some j) : Gr2 a c B row :=
 ⟨k.os.trans h.os, k.tape.trans h.tape, k.output.trans h.output, Nat.le_trans h.size k.size, fun i hi h1 h2 => by
  rw [k.block i (Nat.lt_of_lt_of_le hi h.size) h1 (fun e => by
   rcases hr i e.symm with h3 | h3
   ·omega
   ·exact h2 h3.symm)]
  exact h.block i hi h1 h2⟩
theorem Gr2.of_below {w w' : World} (h : Below w.heap.size w w') (B : Nat) (row : Option Nat) : Gr2 w w' B row := ⟨h.os, h.tape, h.output, h.size, fun i hi _ _ => h.block i hi⟩
theorem Gr2.setCell {a w : World} {B : Nat} {row : Option Nat} (h : Gr2 a w B row) (i : Nat) (v : Value) : Gr2 a (w.setCell ⟨B, i, none⟩ v) B row :=
 ⟨h.os, h.tape, h.output, by simpa using h.size, fun j hj h1 h2 => by rw [Below.heap_setCell w ⟨B, i, none⟩ v j h1]; exact h.block j hj h1 h2⟩
theorem Gr2.grown {a w w' : World} {B : Nat} {row row' : Option Nat} (h : Gr2 a w B row) (hg : w.grownBy w' row') (hr : ∀ j, row' = some j → a.heap.size ≤ j ∨ row = some j) : Gr2 a w' B row :=
 ⟨hg.os.trans h.os, hg.tape.trans h.tape, hg.output.trans h.output, Nat.le_trans h.size hg.size, fun i hi h1 h2 => by
  rw [hg.block i (Nat.lt_of_lt_of_le hi h.size) (fun e => by
   rcases hr i e.symm with h3 | h3
   ·omega
   ·exact h2 h3.symm)]
  exact h.block i hi h1 h2⟩
theorem Gr2.isin {K : Kn} {w w' : World} {B : Nat} {row : Option Nat} (h : Gr2 w w' B row) (hK : K.In w) (hB : K B = none) (hr : ∀ g, row = some g → K g = none) : K.In w' := fun b o e => by
 rw [h.block b (hK.lt e) (fun e2 => by rw [e2, hB] at e; cases e) (fun e2 => by rw [hr b e2.symm] at e; cases e)]
 exact hK b o e
theorem evalsM_step (R : REnv) (r : Inst) : ∀ (l : List Ex) (m k : Nat) (h : k < l.length), evalsM R r m (k + 1) l = ((evalsM R r m k l).1 ++ [(evalM R r (m + memNL (l.take k)) l[k]).1], (evalsM R r m k l).2 || (evalM R r (m + memNL (l.take k)) l[k]).2)
 | [], m, k, h => by simp at h
 | e :: l, m, 0, _ => by cases l <;> simp [evalsM, memNL]
 | e :: l, m, k + 1, h => by
  have := evalsM_step R r l (m + memN e) k (by simpa using h)
  simp only [evalsM, this, List.take_succ_cons, memNL, List.getElem_cons_succ, List.cons_append, Bool.or_assoc, Nat.add_assoc]
abbrev ptrV (q : Nat) : Value := .pointer (some ⟨q, 0, none⟩)
def ndMem (e : Ex) (m : Nat) : Int := if e.op = oPre ∨ e.op = oFby then ((m + memNL e.l : Nat) : Int) else 0
def ndCells (R : REnv) (e : Ex) (mem : Int) (lv pv : Value) : Array Value :=
 #[.string e.op, .int .i64 e.n, .string e.s, lv, pv, .int .i64 (kindOf R.ks e), .bool (decide (0 < lateOf R.lt e)), .int .i64 (R.nm e.s), .int .i64 mem]
mutual
def NdAt (T : TypeId) (R : REnv) (H : Kn) : Ex → Nat → Nat → Prop
 | .mk o n s l, m, q => ∃ lv pv, H q = some (.cells (ndCells R (.mk o n s l) (ndMem (.mk o n s l) m) lv pv) T (0, 0)) ∧
   ((l = [] ∧ ∃ a c, pv = .slice a 0 c) ∨ ∃ b off cap, pv = .slice (some ⟨b, off, none⟩) l.length cap ∧ l.length ≤ cap ∧ cap ≤ maxLen ∧ NdsAt T R H l m b off)
def NdsAt (T : TypeId) (R : REnv) (H : Kn) : List Ex → Nat → Nat → Nat → Prop
 | [], _, _, _ => True
 | e :: l, m, b, off => (∃ q, H.cell b off = some (ptrV q) ∧ NdAt T R H e m q) ∧ NdsAt T R H l (m + memN e) b (off + 1)
end
theorem ndsAt_of {T : TypeId} {R : REnv} {H H' : Kn} {l : List Ex} (hle : H.le H') (h : ∀ e ∈ l, ∀ m q, NdAt T R H e m q → NdAt T R H' e m q) : ∀ m b off, NdsAt T R H l m b off → NdsAt T R H' l m b off := by
 induction l with
 | nil => intro m b off _; simp only [NdsAt]
 | cons e l ih =>
  intro m b off hh
  simp only [NdsAt] at hh ⊢
  obtain ⟨⟨q, h1, h2⟩, h3⟩ := hh
  exact ⟨⟨q, hle.cell h1, h e (List.mem_cons_self ..) m q h2⟩, ih (fun x hx => h x (List.mem_cons_of_mem _ hx)) _ b _ h3⟩
theorem NdAt.le {T : TypeId} {R : REnv} {H H' : Kn} (hle : H.le H') : ∀ (e : Ex) (m q : Nat), NdAt T R H e m q → NdAt T R H' e m q := by
 refine Ex.ind fun o n s l ih m q h => ?_
 simp only [NdAt] at h ⊢
 obtain ⟨lv, pv, h1, h2⟩ := h
 refine ⟨lv, pv, hle _ _ h1, ?_⟩
 rcases h2 with ⟨hl, a, c, hp⟩ | ⟨b, off, cap, hp, h3, h4, h5⟩
 ·exact .inl ⟨hl, a, c, hp⟩
 ·exact .inr ⟨b, off, cap, hp, h3, h4, ndsAt_of hle ih m b off h5⟩
theorem NdsAt.get {T : TypeId} {R : REnv} {H : Kn} : ∀ {l : List Ex} {m b off : Nat}, NdsAt T R H l m b off → ∀ i (h : i < l.length), ∃ q, H.cell b (off + i) = some (ptrV q) ∧ NdAt T R H l[i] (m + memNL (l.take i)) q
 | [], _, _, _, _, i, h => by simp at h
 | e :: l, m, b, off, hh, 0, _ => by
  simp only [NdsAt] at hh
  simpa [memNL] using hh.1
 | e :: l, m, b, off, hh, i + 1, h => by
  simp only [NdsAt] at hh
  have := NdsAt.get hh.2 i (by simpa using h)
  simp only [List.take_succ_cons, memNL, List.getElem_cons_succ]
  rw [show off + (i + 1) = off + 1 + i from by omega, ← Nat.add_assoc]
  exact this
theorem NdsAt.mk {T : TypeId} {R : REnv} {H : Kn} : ∀ {l : List Ex} {m b off : Nat}, (∀ i (h : i < l.length), ∃ q, H.cell b (off + i) = some (ptrV q) ∧ NdAt T R H l[i] (m + memNL (l.take i)) q) → NdsAt T R H l m b off
 | [], _, _, _, _ => by simp only [NdsAt]
 | e :: l, m, b, off, h => by
  simp only [NdsAt]
  refine ⟨by have h0 := h 0 (by simp); simp only [List.take_zero, memNL, Nat.add_zero] at h0; exact h0, NdsAt.mk fun i hi => ?_⟩
  have := h (i + 1) (by simpa using hi)
  simp only [List.take_succ_cons, memNL, List.getElem_cons_succ] at this
  rw [show off + 1 + i = off + (i + 1) from by omega, Nat.add_assoc]
  exact this
theorem NdAt.open {T : TypeId} {R : REnv} {H : Kn} {e : Ex} {m q : Nat} (h : NdAt T R H e m q) : ∃ lv pv, H q = some (.cells (ndCells R e (ndMem e m) lv pv) T (0, 0)) ∧ ∃ a c, pv = .slice a e.l.length c ∧
  ∀ i (hi : i < e.l.length), ∃ b off q', a = some ⟨b, off, none⟩ ∧ H.cell b (off + i) = some (ptrV q') ∧ NdAt T R H e.l[i] (m + memNL (e.l.take i)) q' := by
 obtain ⟨o, n, s, l⟩ := e
 simp only [NdAt] at h
 obtain ⟨lv, pv, h1, h2⟩ := h
 refine ⟨lv, pv, h1, ?_⟩
 simp only [Ex.l]
 rcases h2 with ⟨rfl, a, c, hp⟩ | ⟨b, off, cap, hp, h3, h4, h5⟩
 ·exact ⟨a, c, hp, fun i hi => by simp at hi⟩
 ·refine ⟨_, cap, hp, fun i hi => ?_⟩
  obtain ⟨q', h6, h7⟩ := h5.get i hi
  exact ⟨b, off, q', rfl, h6, h7⟩
abbrev NdsV (T : TypeId) (R : REnv) (H : Kn) : List (Ex × Nat) → Value → Prop := SlV H 1 fun x f => ∃ q, f 0 = some (ptrV q) ∧ NdAt T R H x.1 x.2 q
theorem NdsV.le {T : TypeId} {R : REnv} {H H' : Kn} (hle : H.le H') {l : List (Ex × Nat)} {v : Value} (h : NdsV T R H l v) : NdsV T R H' l v :=
 SlV.le h hle fun x f g hfg ⟨q, h1, h2⟩ => ⟨q, hfg _ _ h1, NdAt.le hle _ _ _ h2⟩
def VlC (x : Vl) (f : Nat → Option Value) : Prop := f 0 = some (.int .i64 x.kind) ∧ f 1 = some (.int .i64 x.n)
abbrev VlsV (H : Kn) : List Vl → Value → Prop := SlV H 2 VlC
abbrev vlV (x : Vl) : Value := .agg #[.int .i64 x.kind, .int .i64 x.n]
theorem VlC.mono (x : Vl) (f g : Nat → Option Value) (h : ∀ j u, f j = some u → g j = some u) (hx : VlC x f) : VlC x g := ⟨h _ _ hx.1, h _ _ hx.2⟩
def vlX (l : List Vl) : List Value := l.flatMap fun v => [.int .i64 v.kind, .int .i64 v.n]
theorem vlX_len (l : List Vl) : (vlX l).length = 2 * l.length := by
 unfold vlX
 induction l with
 | nil => rfl
 | cons a l ih => simp only [List.flatMap_cons, List.length_append, List.length_cons, List.length_nil, ih]; omega
theorem vlX_get : ∀ (l : List Vl) (i : Nat) (h : i < l.length), (vlX l)[2 * i]? = some (.int .i64 l[i].kind) ∧ (vlX l)[2 * i + 1]? = some (.int .i64 l[i].n)
 | a :: l, 0, _ => by simp [vlX]
 | a :: l, i + 1, h => by
  have := vlX_get l i (by simpa using h)
  simp only [vlX, List.flatMap_cons, List.getElem_cons_succ] at this ⊢
  rw [show 2 * (i + 1) = 2 * i + 2 from by omega]
  simpa using this
theorem cell2_of {W : World} {b : Nat} {x y : Value} {t : TypeId} (h : W.heap[b]? = some (.cells #[x, y] t (0, 0))) :
  W.cell? ⟨b, 0, none⟩ = some x ∧ W.cell? ⟨b, 1, none⟩ = some y ∧ W.frozen? ⟨b, 0, none⟩ = false ∧ W.frozen? ⟨b, 1, none⟩ = false ∧ b < W.heap.size :=
 ⟨by simp [World.cell?, h], by simp [World.cell?, h], by simp [World.frozen?, h], by simp [World.frozen?, h], (Array.getElem?_eq_some_iff.1 h).1⟩
theorem put2_of {W : World} {b : Nat} {x y : Value} {t : TypeId} (h : W.heap[b]? = some (.cells #[x, y] t (0, 0))) (u v : Value) :
  (W.setCell ⟨b, 0, none⟩ u).cell? ⟨b, 0, none⟩ = some u ∧ ((W.setCell ⟨b, 0, none⟩ u).setCell ⟨b, 1, none⟩ v).cell? ⟨b, 1, none⟩ = some v ∧
  (∀ o, (((W.setCell ⟨b, 0, none⟩ u).setCell ⟨b, 1, none⟩ v).alloc o).cell? ⟨b, 0, none⟩ = some u) ∧ (∀ o, (((W.setCell ⟨b, 0, none⟩ u).setCell ⟨b, 1, none⟩ v).alloc o).cell? ⟨b, 1, none⟩ = some v) := by
 have h1 : (W.setCell ⟨b, 0, none⟩ u).heap[b]? = some (.cells #[u, y] t (0, 0)) := by
  show (W.heap.modify b _)[b]? = _
  rw [Array.getElem?_modify, if_pos rfl, h]; rfl
 have h2 : ((W.setCell ⟨b, 0, none⟩ u).setCell ⟨b, 1, none⟩ v).heap[b]? = some (.cells #[u, v] t (0, 0)) := by
  generalize W.setCell ⟨b, 0, none⟩ u = W1 at *
  show (W1.heap.modify b _)[b]? = _
  rw [Array.getElem?_modify, if_pos rfl, h1]; rfl
 refine ⟨by simp [World.cell?, h1], by simp [World.cell?, h2], fun o => ?_, fun o => ?_⟩
 ·rw [World.cell?_alloc_past _ _ _ (Array.getElem?_eq_some_iff.1 h2).1]; simp [World.cell?, h2]
 ·rw [World.cell?_alloc_past _ _ _ (Array.getElem?_eq_some_iff.1 h2).1]; simp [World.cell?, h2]
theorem below_put2 {base b : Nat} {w W : World} (h : Below base w W) (hb : base ≤ b) (u v : Value) : Below base w ((W.setCell ⟨b, 0, none⟩ u).setCell ⟨b, 1, none⟩ v) :=
 (h.setCell (p := ⟨b, 0, none⟩) hb u).setCell (p := ⟨b, 1, none⟩) hb v
end Go.Proofs.YtnaijgmfjpmpjaaGreatDoor
namespace Go.Proofs.YtnaijgmfjpmpjaaGreatDoor
open Go.RowKit Mx
theorem own_gr2 {w w' : World} {base : Nat} {e : TypeId} {k n : Nat} {v : Value} {xs : List Value} (h : w.ownsRow base e k v n xs) {B : Nat} {row : Option Nat} (hg : Gr2 w w' B row) (hB : v.ownBlock ≠ some B) (ha : ∀ g, v.ownBlock = some g → row ≠ some g) : w'.ownsRow base e k v n xs := by
 refine ⟨h.1, h.2.imp id ?_⟩
 rintro ⟨g, cap, cur, h1, h2, h3, h4⟩
 have hv : v.ownBlock = some g := by rw [h1]; rfl
 exact ⟨g, cap, cur, h1, h2, by rw [hg.block g (Array.getElem?_eq_some_iff.1 h3).1 (fun e => hB (by rw [hv, e])) (fun e => ha g hv e.symm)]; exact h3, h4⟩
structure PsAt (T : TypeId) (R : REnv) (K : Kn) (MS : List (Ex × Nat)) (ps : List Nat) : Prop where
 len : ps.length = MS.length
 nd : ∀ i (h : i < MS.length) (h2 : i < ps.length), NdAt T R K MS[i].1 MS[i].2 ps[i]
theorem PsAt.le {T : TypeId} {R : REnv} {K K' : Kn} (hle : K.le K') {MS : List (Ex × Nat)} {ps : List Nat} (h : PsAt T R K MS ps) : PsAt T R K' MS ps := ⟨h.len, fun i h1 h2 => NdAt.le hle _ _ _ (h.nd i h1 h2)⟩
theorem PsAt.snoc {T : TypeId} {R : REnv} {K : Kn} {MS : List (Ex × Nat)} {ps : List Nat} (h : PsAt T R K MS ps) {x : Ex × Nat} {q : Nat} (hx : NdAt T R K x.1 x.2 q) : PsAt T R K (MS ++ [x]) (ps ++ [q]) :=
 ⟨by simp [h.len], fun i h1 h2 => by
  have hl := h.len
  by_cases hi : i < MS.length
  ·rw [List.getElem_append_left hi, List.getElem_append_left (by omega)]
   exact h.nd i hi (by omega)
  ·have hi' : i = MS.length := by simp at h1; omega
   rw [List.getElem_append_right (by omega), List.getElem_append_right (by omega)]
   simpa using hx⟩
structure CdS (PT CT : TypeId) (w : World) (B base : Nat) (cs : Array Value) (u : Value) (ps : List Nat) : Prop where
 box : w.heap[B]? = some (.cells (cs.setIfInBounds 10 u) CT (0, 0))
 row : w.ownsRow base PT 1 u ps.length (ps.map ptrV)
 low : B < base
theorem CdS.blt {PT CT : TypeId} {w : World} {B base : Nat} {cs : Array Value} {u : Value} {ps : List Nat} (h : CdS PT CT w B base cs u ps) : B < w.heap.size := (Array.getElem?_eq_some_iff.1 h.box).1
theorem CdS.ne {PT CT : TypeId} {w : World} {B base : Nat} {cs : Array Value} {u : Value} {ps : List Nat} (h : CdS PT CT w B base cs u ps) : u.ownBlock ≠ some B := own_ge h.row h.low
theorem CdS.below {PT CT : TypeId} {w w' : World} {B base : Nat} {cs : Array Value} {u : Value} {ps : List Nat} (h : CdS PT CT w B base cs u ps) (hb : Below w.heap.size w w') : CdS PT CT w' B base cs u ps :=
 ⟨by rw [hb.block B h.blt]; exact h.box, own_below h.row hb, h.low⟩
structure TeD (NT PT CT : TypeId) (R : REnv) (H : Kn) (w w' : World) (B base : Nat) (cs : Array Value) (u : Value) (MS : List (Ex × Nat)) (K : Kn) (u' : Value) (ps' : List Nat) : Prop where
 le : H.le K
 fresh : ∀ b, b < w.heap.size → K b = H b
 isin : K.In w'
 cd : CdS PT CT w' B base cs u' ps'
 mem : PsAt NT R K MS ps'
 gr : Gr2 w w' B u.ownBlock
 own : ∀ g, u'.ownBlock = some g → w.heap.size ≤ g ∨ u.ownBlock = some g
 noM : ∀ g, u'.ownBlock = some g → K g = none
structure TeS (NT PT CT : TypeId) (R : REnv) (H : Kn) (w0 wr : World) (B N base : Nat) (cs : Array Value) (e : Ex) (lv : Value) (u0 : Value) (MS : List (Ex × Nat)) (dm done : Nat) (pu : Value) (qs : List Nat) (K : Kn) (u : Value) (ps : List Nat) : Prop where
 d : TeD NT PT CT R H w0 wr B base cs u0 (MS ++ memNdsL MS.length (e.l.take dm)) K u ps
 nt : NT ≠ PT
 noB : H B = none
 hB : B < w0.heap.size
 hN : w0.heap.size ≤ N
 box : wr.heap[N]? = some (.cells (ndCells R e 0 lv pu) NT (0, 0))
 noN : K N = none
 row : wr.ownsRow (N + 1) PT 1 pu done (qs.map ptrV)
 noP : ∀ g, pu.ownBlock = some g → K g = none
 ql : qs.length = done
 nds : ∀ i (h : i < qs.length) (h2 : i < e.l.length), NdAt NT R K e.l[i] (MS.length + memNL (e.l.take i)) qs[i]
 apart : ∀ g, pu.ownBlock = some g → u.ownBlock ≠ some g
section
variable {NT PT CT : TypeId} {R : REnv} {H K : Kn} {w0 wr : World} {B N base : Nat} {cs : Array Value} {e : Ex} {lv u0 : Value} {MS : List (Ex × Nat)} {dm done : Nat} {pu : Value} {qs : List Nat} {u : Value} {ps : List Nat}
theorem TeS.nlt (h : TeS NT PT CT R H w0 wr B N base cs e lv u0 MS dm done pu qs K u ps) : N < wr.heap.size := (Array.getElem?_eq_some_iff.1 h.box).1
theorem TeS.kB (h : TeS NT PT CT R H w0 wr B N base cs e lv u0 MS dm done pu qs K u ps) : K B = none := by rw [h.d.fresh B h.hB]; exact h.noB
theorem TeS.uN (h : TeS NT PT CT R H w0 wr B N base cs e lv u0 MS dm done pu qs K u ps) : u.ownBlock ≠ some N := own_type h.d.cd.row h.box h.nt
theorem TeS.pN (h : TeS NT PT CT R H w0 wr B N base cs e lv u0 MS dm done pu qs K u ps) : pu.ownBlock ≠ some N := own_ge h.row (by omega)
theorem TeS.pB (h : TeS NT PT CT R H w0 wr B N base cs e lv u0 MS dm done pu qs K u ps) : pu.ownBlock ≠ some B := own_ge h.row (by have := h.hB; have := h.hN; omega)
theorem TeS.mlen (h : TeS NT PT CT R H w0 wr B N base cs e lv u0 MS dm done pu qs K u ps) : ps.length = MS.length + memNL (e.l.take dm) := by
 rw [h.d.mem.len, List.length_append, memNdsL_len]
theorem TeS.below {w' : World} (h : TeS NT PT CT R H w0 wr B N base cs e lv u0 MS dm done pu qs K u ps) (hb : Below wr.heap.size wr w') : TeS NT PT CT R H w0 w' B N base cs e lv u0 MS dm done pu qs K u ps :=
 ⟨⟨h.d.le, h.d.fresh, h.d.isin.below hb, h.d.cd.below hb, h.d.mem, h.d.gr.trans (Gr2.of_below hb B none) (fun _ e => by cases e), h.d.own, h.d.noM⟩,
  h.nt, h.noB, h.hB, h.hN, by rw [hb.block N h.nlt]; exact h.box, h.noN, own_below h.row hb, h.noP, h.ql, h.nds, h.apart⟩
theorem Gr2.setFar {a w : World} {B : Nat} {row : Option Nat} (h : Gr2 a w B row) {N : Nat} (hN : a.heap.size ≤ N) (i : Nat) (v : Value) : Gr2 a (w.setCell ⟨N, i, none⟩ v) B row :=
 ⟨h.os, h.tape, h.output, by simpa using h.size, fun j hj h1 h2 => by rw [Below.heap_setCell w ⟨N, i, none⟩ v j (by show j ≠ N; omega)]; exact h.block j hj h1 h2⟩
theorem TeS.child {w' : World} {K' : Kn} {u' : Value} {ps' : List Nat} (h : TeS NT PT CT R H w0 wr B N base cs e lv u0 MS done done pu qs K u ps) (hd : done < e.l.length)
  (k : TeD NT PT CT R K wr w' B base cs u (MS ++ memNdsL MS.length (e.l.take done) ++ memNds ps.length e.l[done]) K' u' ps') :
  TeS NT PT CT R H w0 w' B N base cs e lv u0 MS (done + 1) done pu qs K' u' ps' := by
 have hsz := h.d.gr.size
 have hps := h.mlen
 refine ⟨⟨Kn.le_trans h.d.le k.le, fun b hb => (k.fresh b (by omega)).trans (h.d.fresh b hb), k.isin, k.cd, ?_, h.d.gr.trans k.gr h.d.own, fun g hg => ?_, k.noM⟩, h.nt, h.noB, h.hB, h.hN, ?_, (k.fresh N h.nlt).trans h.noN, own_gr2 h.row k.gr h.pB h.apart, fun g hg => ?_, h.ql, fun i h1 h2 => NdAt.le k.le _ _ _ (h.nds i h1 h2), fun g hg hu => ?_⟩
 ·have := k.mem
  rw [hps, List.append_assoc, ← memNdsL_take _ _ _ hd] at this
  exact this
 ·rcases k.own g hg with h1 | h1
  ·exact .inl (by omega)
  ·exact h.d.own g h1
 ·rw [k.gr.block N h.nlt (by have := h.hB; have := h.hN; omega) (fun e => h.uN e.symm)]
  exact h.box
 ·rw [k.fresh g (h.row.lt g hg).2]; exact h.noP g hg
 ·have hlt := (h.row.lt g hg).2
  rcases k.own g hu with h1 | h1
  ·omega
  ·exact h.apart g hg h1
theorem TeS.app {w3 : World} {gg cap' q : Nat} (h : TeS NT PT CT R H w0 wr B N base cs e lv u0 MS (done + 1) done pu qs K u ps) (hd : done < e.l.length) (hq : NdAt NT R K e.l[done] (MS.length + memNL (e.l.take done)) q)
  (hown : w3.ownsRow (N + 1) PT 1 (.slice (some ⟨gg, 0, none⟩) (done + 1) cap') (done + 1) (qs.map ptrV ++ [ptrV q])) (hg : wr.grownBy w3 pu.ownBlock) (hat : pu.ownBlock = some gg ∨ gg = wr.heap.size) :
  w3.cell? ⟨N, 4, none⟩ = some pu ∧ w3.frozen? ⟨N, 4, none⟩ = false ∧
   TeS NT PT CT R H w0 (w3.setCell ⟨N, 4, none⟩ (.slice (some ⟨gg, 0, none⟩) (done + 1) cap')) B N base cs e lv u0 MS (done + 1) (done + 1) (.slice (some ⟨gg, 0, none⟩) (done + 1) cap') (qs ++ [q]) K u ps := by
 have hNlt := h.nlt
 have hsz := h.d.gr.size
 have hbx : w3.heap[N]? = _ := (hg.block N hNlt (fun e => h.pN e.symm)).trans h.box
 have hBx : w3.heap[B]? = _ := (hg.block B h.d.cd.blt (fun e => h.pB e.symm)).trans h.d.cd.box
 have hBN : B ≠ N := by have := h.hB; have := h.hN; omega
 have hin := h.d.isin.grown hg h.noP
 have hgN : gg ≠ N := by
  have := own_ge (b := N) hown (by omega)
  simpa [Value.ownBlock] using this
 have hKg : K gg = none := by
  rcases hat with h1 | rfl
  ·exact h.noP gg h1
  ·exact h.d.isin.isNone (Nat.le_refl _)
 refine ⟨by simp [World.cell?, hbx, ndCells], by simp [World.frozen?, hbx], ⟨h.d.le, h.d.fresh, hin.setCell (a := ⟨N, 4, none⟩) h.noN _, ⟨?_, ?_, h.d.cd.low⟩, h.d.mem, (h.d.gr.grown hg fun j hj => .inl ?_).setFar h.hN _ _, h.d.own, h.d.noM⟩, h.nt, h.noB, h.hB, h.hN, ?_, h.noN, ?_, fun g hgg => ?_, by simp [h.ql], fun i h1 h2 => ?_, fun g hgg hu => ?_⟩
 ·rw [Below.heap_setCell w3 _ _ B hBN]; exact hBx
 ·exact own_setCell (own_grown h.d.cd.row hg fun g hu hp => h.apart g hp hu) h.uN _
 ·have := (h.row.lt j hj).1
  have := h.hN
  omega
 ·rw [heap_setCell_same _ _ _ _ _ _ _ hbx]; rfl
 ·rw [List.map_append]
  exact own_setCell hown (by simpa [Value.ownBlock] using hgN) _
 ·have : gg = g := by simpa [Value.ownBlock] using hgg
  rw [← this]; exact hKg
 ·by_cases hi : i < qs.length
  ·rw [List.getElem_append_left hi]
   exact h.nds i hi h2
  ·have hi' : i = qs.length := by simp at h1; omega
   rw [List.getElem_append_right (by omega)]
   have hqd := h.ql
   obtain rfl : i = done := by omega
   simpa using hq
 ·have : gg = g := by simpa [Value.ownBlock] using hgg
  subst this
  rcases hat with h1 | rfl
  ·exact h.apart gg h1 hu
  ·have := (h.d.cd.row.lt _ hu).2
   omega
theorem TeS.c4 (h : TeS NT PT CT R H w0 wr B N base cs e lv u0 MS dm done pu qs K u ps) : wr.cell? ⟨N, 4, none⟩ = some pu := by
 have hb := h.box
 simp [World.cell?, hb, ndCells]
theorem TeS.alloc (h : TeS NT PT CT R H w0 wr B N base cs e lv u0 MS dm done pu qs K u ps) (o : Obj) : TeS NT PT CT R H w0 (wr.alloc o) B N base cs e lv u0 MS dm done pu qs K u ps := h.below ((Below.refl _ _).alloc (Nat.le_refl _) o)
theorem TeS.nlt' (h : TeS NT PT CT R H w0 wr B N base cs e lv u0 MS dm done pu qs K u ps) : N + 1 ≤ wr.heap.size := h.nlt
theorem TeS.child2 {w' : World} {K' : Kn} {u' : Value} {ps' : List Nat} {x : Ex} {q : Nat} (h : TeS NT PT CT R H w0 wr B N base cs e lv u0 MS done done pu qs K u ps) (hd : done < e.l.length) (hx : e.l[done] = x)
  (k : TeD NT PT CT R K wr w' B base cs u (MS ++ memNdsL MS.length (e.l.take done) ++ memNds (MS ++ memNdsL MS.length (e.l.take done)).length x) K' u' ps') (hq : NdAt NT R K' x (MS ++ memNdsL MS.length (e.l.take done)).length q) :
  TeS NT PT CT R H w0 w' B N base cs e lv u0 MS (done + 1) done pu qs K' u' ps' ∧ NdAt NT R K' x (MS.length + memNL (e.l.take done)) q := by
 subst hx
 refine ⟨h.child hd (by rw [h.d.mem.len]; exact k), ?_⟩
 rw [List.length_append, memNdsL_len] at hq
 exact hq
theorem TeS.app2 {w3 : World} {gg cap' q : Nat} {x : Ex} (h : TeS NT PT CT R H w0 wr B N base cs e lv u0 MS (done + 1) done pu qs K u ps) (hd : done < e.l.length) (hx : e.l[done] = x) (hq : NdAt NT R K x (MS.length + memNL (e.l.take done)) q)
  (hown : w3.ownsRow (N + 1) PT 1 (.slice (some ⟨gg, 0, none⟩) (done + 1) cap') (done + 1) (qs.map ptrV ++ [ptrV q])) (hg : wr.grownBy w3 pu.ownBlock) (hat : pu.ownBlock = some gg ∨ gg = wr.heap.size) :
  w3.cell? ⟨N, 4, none⟩ = some pu ∧ w3.frozen? ⟨N, 4, none⟩ = false ∧
   TeS NT PT CT R H w0 (w3.setCell ⟨N, 4, none⟩ (.slice (some ⟨gg, 0, none⟩) (done + 1) cap')) B N base cs e lv u0 MS (done + 1) (done + 1) (.slice (some ⟨gg, 0, none⟩) (done + 1) cap') (qs ++ [q]) K u ps := by
 subst hx
 exact h.app hd hq hown hg hat
theorem TeS.fin {w2 : World} (h : TeS NT PT CT R H w0 wr B N base cs e lv u0 MS e.l.length e.l.length pu qs K u ps)
  (hbox : w2.heap[N]? = some (.cells (ndCells R e (ndMem e MS.length) lv pu) NT (0, 0))) (hot : ∀ b, b ≠ N → w2.heap[b]? = wr.heap[b]?) (hos : w2.os = wr.os ∧ w2.tape = wr.tape ∧ w2.output = wr.output ∧ w2.heap.size = wr.heap.size) :
  ∃ K', TeD NT PT CT R H w0 w2 B base cs u0 (MS ++ memNdsL MS.length e.l) K' u ps ∧ NdAt NT R K' e MS.length N := by
 have hNlt := h.nlt
 have hBN : B ≠ N := by have := h.hB; have := h.hN; omega
 have hsz := h.d.gr.size
 have hmem := h.d.mem
 rw [List.take_length] at hmem
 have hgr : Gr2 w0 w2 B u0.ownBlock := ⟨hos.1.trans h.d.gr.os, hos.2.1.trans h.d.gr.tape, hos.2.2.1.trans h.d.gr.output, by rw [hos.2.2.2]; exact hsz, fun i hi h1 h2 => by
  rw [hot i (by have := h.hN; omega)]; exact h.d.gr.block i hi h1 h2⟩
 have hin : K.In w2 := h.d.isin.of_heap fun b hb => hot b fun e => hb (by rw [e]; exact h.noN)
 have hin1 := hin.add hbox
 have hle1 : K.le (K.add N (.cells (ndCells R e (ndMem e MS.length) lv pu) NT (0, 0))) := Kn.le_add h.noN
 have hcd : CdS PT CT w2 B base cs u ps := ⟨by rw [hot B hBN]; exact h.d.cd.box, by
  have hr := h.d.cd.row
  refine ⟨hr.1, hr.2.imp id ?_⟩
  rintro ⟨g, cap, cur, h1, h2, h3, h4⟩
  exact ⟨g, cap, cur, h1, h2, by rw [hot g (fun e => h.uN (by rw [h1, e]; rfl))]; exact h3, h4⟩, h.d.cd.low⟩
 by_cases h0 : e.l.length = 0
 ·refine ⟨_, ⟨Kn.le_trans h.d.le hle1, fun b hb => ?_, hin1, hcd, hmem.le hle1, hgr, h.d.own, fun g hg => ?_⟩, ?_⟩
  ·rw [Kn.add_other _ _ (by have := h.hN; omega)]; exact h.d.fresh b hb
  ·rw [Kn.add_other _ _ (fun e => h.uN (by rw [← e]; exact hg))]; exact h.d.noM g hg
  ·obtain ⟨a, cap, hp, _⟩ := own_len h.row
   obtain ⟨o, n, s, l⟩ := e
   simp only [Ex.l] at h0 hp
   simp only [NdAt]
   exact ⟨lv, pu, Kn.add_self _ _ _, .inl ⟨List.eq_nil_of_length_eq_zero h0, a, cap, by rw [hp, h0]⟩⟩
 ·obtain ⟨g, cap, hp, h1, h2, h3, h4, h5⟩ := own_shape h.row (by omega)
  have hgN : g ≠ N := by omega
  have hgB : g ≠ B := by have := h.hB; have := h.hN; omega
  have hpg : pu.ownBlock = some g := by rw [hp]; rfl
  have hKg : K g = none := h.noP g hpg
  have ho : w2.heap[g]? = some wr.heap[g] := by rw [hot g hgN]; exact Array.getElem?_eq_getElem h4
  have hK1g : (K.add N (.cells (ndCells R e (ndMem e MS.length) lv pu) NT (0, 0))) g = none := by rw [Kn.add_other _ _ hgN]; exact hKg
  have hle2 := Kn.le_trans hle1 (Kn.le_add (o := wr.heap[g]) hK1g)
  refine ⟨_, ⟨Kn.le_trans h.d.le hle2, fun b hb => ?_, hin1.add ho, hcd, hmem.le hle2, hgr, h.d.own, fun j hj => ?_⟩, ?_⟩
  ·rw [Kn.add_other _ _ (by have := h.hN; omega), Kn.add_other _ _ (by have := h.hN; omega)]; exact h.d.fresh b hb
  ·rw [Kn.add_other _ _ (fun e => h.apart g hpg (by rw [← e]; exact hj)), Kn.add_other _ _ (fun e => h.uN (by rw [← e]; exact hj))]; exact h.d.noM j hj
  ·have hN2 : (Kn.add (K.add N (.cells (ndCells R e (ndMem e MS.length) lv pu) NT (0, 0))) g wr.heap[g]) N = some (.cells (ndCells R e (ndMem e MS.length) lv pu) NT (0, 0)) := by rw [Kn.add_other _ _ (Ne.symm hgN)]; exact Kn.add_self _ _ _
   have hcell : ∀ i (hi : i < qs.length), (Kn.add (K.add N (.cells (ndCells R e (ndMem e MS.length) lv pu) NT (0, 0))) g wr.heap[g]).cell g i = some (ptrV qs[i]) := fun i hi => by
    have h6 := h5 i (ptrV qs[i]) (by simp [hi])
    unfold Kn.cell
    rw [Kn.add_self]
    simp only [World.cell?, Array.getElem?_eq_getElem h4] at h6
    cases hc : wr.heap[g] <;> simp_all
   have hnd : NdsAt NT R (Kn.add (K.add N (.cells (ndCells R e (ndMem e MS.length) lv pu) NT (0, 0))) g wr.heap[g]) e.l MS.length g 0 := NdsAt.mk fun i hi => by
    have hq : i < qs.length := by rw [h.ql]; exact hi
    exact ⟨qs[i], by rw [Nat.zero_add]; exact hcell i hq, NdAt.le hle2 _ _ _ (h.nds i hq hi)⟩
   clear hcell
   obtain ⟨o, n, s, l⟩ := e
   simp only [Ex.l] at hnd hp h1
   simp only [NdAt]
   exact ⟨lv, pu, hN2, .inr ⟨g, 0, cap, hp, h1, h2, hnd⟩⟩
theorem TeD.below {w w2 w3 : World} (h : TeD NT PT CT R H w w2 B base cs u0 MS K u ps) (hb : Below w2.heap.size w2 w3) : TeD NT PT CT R H w w3 B base cs u0 MS K u ps :=
 ⟨h.le, h.fresh, h.isin.below hb, h.cd.below hb, h.mem, h.gr.trans (Gr2.of_below hb B none) (fun _ e => by cases e), h.own, h.noM⟩
theorem TeD.forget {w w2 : World} {H0 : Kn} (h : TeD NT PT CT R H0 w w2 B base cs u0 MS K u ps) (hle : H.le H0) (hfr : ∀ b, b < w.heap.size → H0 b = H b) : TeD NT PT CT R H w w2 B base cs u0 MS K u ps :=
 ⟨Kn.le_trans hle h.le, fun b hb => (h.fresh b hb).trans (hfr b hb), h.isin, h.cd, h.mem, h.gr, h.own, h.noM⟩
theorem TeS.c8 (h : TeS NT PT CT R H w0 wr B N base cs e lv u0 MS dm done pu qs K u ps) : wr.cell? ⟨N, 8, none⟩ = some (.int .i64 0) ∧ wr.frozen? ⟨N, 8, none⟩ = false := by
 have hb := h.box
 exact ⟨by simp [World.cell?, hb, ndCells], by simp [World.frozen?, hb]⟩
theorem CdS.c10 {w : World} (h : CdS PT CT w B base cs u ps) (h10 : 10 < cs.size) : w.cell? ⟨B, 10, none⟩ = some u := by
 have hb := h.box
 simp [World.cell?, hb, h10]
theorem memNds_mem {e : Ex} {m : Nat} {MS : List (Ex × Nat)} (ho : e.op = oPre ∨ e.op = oFby) : MS ++ memNdsL m e.l ++ [(e, m)] = MS ++ memNds m e := by
 obtain ⟨o, n, s, l⟩ := e
 simp only [Ex.op, Ex.l] at ho ⊢
 simp only [memNds]
 rw [if_pos ho, List.append_assoc]
theorem TeS.fin0 (h : TeS NT PT CT R H w0 wr B N base cs e lv u0 MS e.l.length e.l.length pu qs K u ps) (ho : ¬ (e.op = oPre ∨ e.op = oFby)) :
  ∃ K', TeD NT PT CT R H w0 wr B base cs u0 (MS ++ memNds MS.length e) K' u ps ∧ NdAt NT R K' e MS.length N := by
 obtain ⟨K', h1, h2⟩ := h.fin (w2 := wr) (by have := h.box; unfold ndMem; rw [if_neg ho]; exact this) (fun _ _ => rfl) ⟨rfl, rfl, rfl, rfl⟩
 refine ⟨K', ?_, h2⟩
 have : memNds MS.length e = memNdsL MS.length e.l := by
  obtain ⟨o, n, s, l⟩ := e
  simp only [memNds, Ex.l, Ex.op] at ho ⊢
  rw [if_neg ho, List.append_nil]
 rw [this]
 exact h1
theorem TeS.fin1 (h : TeS NT PT CT R H w0 wr B N base cs e lv u0 MS e.l.length e.l.length pu qs K u ps) (ho : e.op = oPre ∨ e.op = oFby) :
  ∃ K', TeD NT PT CT R H w0 (wr.setCell ⟨N, 8, none⟩ (.int .i64 ps.length)) B base cs u0 (MS ++ memNdsL MS.length e.l) K' u ps ∧ NdAt NT R K' e MS.length N := by
 have hb := h.box
 have hm := h.mlen
 rw [List.take_length] at hm
 refine h.fin ?_ (fun b hb => Below.heap_setCell wr ⟨N, 8, none⟩ _ b hb) ⟨rfl, rfl, rfl, by simp⟩
 rw [heap_setCell_same _ _ _ _ _ _ _ hb]
 unfold ndMem
 rw [if_pos ho, ← hm]
 rfl
theorem TeD.push {w w2 w3 : World} {gg cap' q : Nat} {x : Ex × Nat} (h : TeD NT PT CT R H w w2 B base cs u0 MS K u ps) (hB : B < w.heap.size) (hKB : K B = none) (hx : NdAt NT R K x.1 x.2 q)
  (hown : w3.ownsRow base PT 1 (.slice (some ⟨gg, 0, none⟩) (ps.length + 1) cap') (ps.length + 1) (ps.map ptrV ++ [ptrV q])) (hg : w2.grownBy w3 u.ownBlock) (hat : u.ownBlock = some gg ∨ gg = w2.heap.size) (h10 : 10 < cs.size) :
  w3.cell? ⟨B, 10, none⟩ = some u ∧ w3.frozen? ⟨B, 10, none⟩ = false ∧
   TeD NT PT CT R H w (w3.setCell ⟨B, 10, none⟩ (.slice (some ⟨gg, 0, none⟩) (ps.length + 1) cap')) B base cs u0 (MS ++ [x]) K (.slice (some ⟨gg, 0, none⟩) (ps.length + 1) cap') (ps ++ [q]) := by
 have hBx : w3.heap[B]? = _ := (hg.block B h.cd.blt (fun e => h.cd.ne e.symm)).trans h.cd.box
 have hin := h.isin.grown hg h.noM
 have hsz := h.gr.size
 have hgB : gg ≠ B := by
  have := own_ge (b := B) hown h.cd.low
  simpa [Value.ownBlock] using this
 have hKg : K gg = none := by
  rcases hat with h1 | rfl
  ·exact h.noM gg h1
  ·exact h.isin.isNone (Nat.le_refl _)
 refine ⟨by simp [World.cell?, hBx, h10], by simp [World.frozen?, hBx], h.le, h.fresh, hin.setCell (a := ⟨B, 10, none⟩) hKB _, ⟨?_, ?_, h.cd.low⟩, h.mem.snoc hx, (h.gr.grown hg h.own).setCell _ _, fun g hgg => ?_, fun g hgg => ?_⟩
 ·rw [heap_setCell_same _ _ _ _ _ _ _ hBx]
  simp
 ·rw [List.map_append, List.length_append]
  exact own_setCell hown (by simpa [Value.ownBlock] using hgB) _
 ·have e : gg = g := by simpa [Value.ownBlock] using hgg
  subst e
  rcases hat with h1 | rfl
  ·exact h.own gg h1
  ·exact .inl hsz
 ·have e : gg = g := by simpa [Value.ownBlock] using hgg
  rw [← e]; exact hKg
end
end Go.Proofs.YtnaijgmfjpmpjaaGreatDoor
