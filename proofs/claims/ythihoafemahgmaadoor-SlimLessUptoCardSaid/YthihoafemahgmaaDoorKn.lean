/- Known memory: blocks that nobody changes any more; what is read there stays read. Slices of strings, of numbers, of structs, told over known memory. -/
import Derived.WalkKit
import Derived.WalkLawsBesides
import Derived.Lib.Hide
import Derived.Handy
import Derived.Deep.QuietTactic
import Derived.BigQuiet
import Derived.Test.YthihoafemahgmaaDoorProg
import Derived.Lib.Strings
import Derived.Lib.IndexBytes
namespace Go.Proofs.YthihoafemahgmaaDoor
open Go.RowKit
def Enters (P : Program) (k : Nat) : Prop := ∀ args w, Sem.run P (callFunc k args) w = .ok (.enter k args) w
theorem ret_int {k : IntKind} {a b : Int} (h : a = b) : Ending.returned (.int k a) = .returned (.int k b) := by rw [h]
theorem ret_bool {a b : Bool} (h : a = b) : Ending.returned (.bool a) = .returned (.bool b) := by rw [h]
theorem quiet_eq {P : Program} {f : FuncId} {args : Array Value} {w : World} {n : Nat} {v : Value}
    (h : Calls P f args (w.drewN n) fun e w' => e = .returned v ∧ w.drewN n = w') : Calls P f args (w.drewN n) fun e w'' => e = .returned v ∧ ∃ m, w'' = w.drewN m :=
  h.mono fun _ _ ⟨he, hm⟩ => ⟨he, n, hm.symm⟩
abbrev Kn := Nat → Option Obj
def Kn.In (H : Kn) (w : World) : Prop := ∀ b o, H b = some o → w.heap[b]? = some o
def Kn.le (H H' : Kn) : Prop := ∀ b o, H b = some o → H' b = some o
def Kn.cell (H : Kn) (b i : Nat) : Option Value := match H b with | some (.cells c _ _) => c[i]? | _ => none
def Kn.add (H : Kn) (b : Nat) (o : Obj) : Kn := fun k => if k = b then some o else H k
theorem Kn.le_refl (H : Kn) : H.le H := fun _ _ h => h
theorem Kn.le_trans {A B C : Kn} (h : A.le B) (k : B.le C) : A.le C := fun b o e => k b o (h b o e)
theorem Kn.In.lt {H : Kn} {w : World} (h : H.In w) {b : Nat} {o : Obj} (e : H b = some o) : b < w.heap.size := (Array.getElem?_eq_some_iff.1 (h b o e)).1
theorem Kn.In.isNone {H : Kn} {w : World} (h : H.In w) {b : Nat} (hb : w.heap.size ≤ b) : H b = none := by
  cases e : H b with
  | none => rfl
  | some o => have := h.lt e; omega
theorem Kn.In.cell {H : Kn} {w : World} (h : H.In w) {b i : Nat} {v : Value} (e : H.cell b i = some v) : w.cell? ⟨b, i, none⟩ = some v := by
  unfold Kn.cell at e
  split at e
  · rename_i c t f hb
    simp [World.cell?, h _ _ hb, e]
  · cases e
theorem Kn.le.cell {H H' : Kn} (h : H.le H') {b i : Nat} {v : Value} (e : H.cell b i = some v) : H'.cell b i = some v := by
  unfold Kn.cell at e ⊢
  split at e
  · rename_i c t f hb
    rw [h _ _ hb]; exact e
  · cases e
theorem Kn.In.below {H : Kn} {w w' : World} (h : H.In w) (hb : Below w.heap.size w w') : H.In w' := fun b o e => by rw [hb.block b (h.lt e)]; exact h b o e
theorem Kn.In.of_heap {H : Kn} {w w' : World} (h : H.In w) (hb : ∀ b, H b ≠ none → w'.heap[b]? = w.heap[b]?) : H.In w' := fun b o e => by rw [hb b (by rw [e]; simp)]; exact h b o e
theorem Kn.In.alloc {H : Kn} {w : World} (h : H.In w) (o : Obj) : H.In (w.alloc o) := h.below ((Below.refl _ _).alloc (Nat.le_refl _) o)
theorem Kn.In.drew {H : Kn} {w : World} (h : H.In w) : H.In w.drew := h
theorem Kn.In.drewN {H : Kn} {w : World} (h : H.In w) (n : Nat) : H.In (w.drewN n) := h
theorem Kn.In.setCell {H : Kn} {w : World} (h : H.In w) {a : Addr} (ha : H a.block = none) (v : Value) : H.In (w.setCell a v) :=
  h.of_heap fun b hb => Below.heap_setCell w a v b (fun e => hb (by rw [e]; exact ha))
theorem below_drewN {B : Nat} {a w : World} (h : Below B a w) (n : Nat) : Below B a (w.drewN n) := ⟨h.os, h.tape, h.output, h.size, h.block⟩
theorem Kn.le_add {H : Kn} {b : Nat} {o : Obj} (h : H b = none) : H.le (H.add b o) := fun k p e => by
  unfold Kn.add
  split
  · rename_i hk; rw [hk, h] at e; cases e
  · exact e
theorem Kn.add_self (H : Kn) (b : Nat) (o : Obj) : H.add b o b = some o := by simp [Kn.add]
theorem Kn.add_other (H : Kn) {b k : Nat} (o : Obj) (h : k ≠ b) : H.add b o k = H k := by simp [Kn.add, h]
theorem Kn.In.add {H : Kn} {w : World} (h : H.In w) {b : Nat} {o : Obj} (e : w.heap[b]? = some o) : (H.add b o).In w := fun k p hk => by
  unfold Kn.add at hk
  split at hk
  · rename_i hkb; subst hkb; cases hk; exact e
  · exact h k p hk
structure Kn.Step (H : Kn) (w : World) (H' : Kn) (w' : World) : Prop where
  le : H.le H'
  fresh : ∀ b, b < w.heap.size → H' b = H b
  isin : H'.In w'
  below : Below w.heap.size w w'
theorem Kn.Step.refl {H : Kn} {w : World} (h : H.In w) : Kn.Step H w H w := ⟨Kn.le_refl H, fun _ _ => rfl, h, Below.refl _ _⟩
theorem Kn.Step.trans {A B C : Kn} {a b c : World} (h : Kn.Step A a B b) (k : Kn.Step B b C c) : Kn.Step A a C c :=
  ⟨Kn.le_trans h.le k.le, fun i hi => (k.fresh i (Nat.lt_of_lt_of_le hi h.below.size)).trans (h.fresh i hi), k.isin, h.below.trans (k.below.mono h.below.size)⟩
theorem Kn.Step.of_below {H : Kn} {w w' : World} (h : H.In w) (hb : Below w.heap.size w w') : Kn.Step H w H w' := ⟨Kn.le_refl H, fun _ _ => rfl, h.below hb, hb⟩
theorem bcell {W w1 : World} (hb : Below W.heap.size W w1) : (∀ b o, b < W.heap.size → w1.cell? ⟨b, o, none⟩ = W.cell? ⟨b, o, none⟩) ∧ (∀ b o, b < W.heap.size → w1.frozen? ⟨b, o, none⟩ = W.frozen? ⟨b, o, none⟩) :=
  ⟨fun b o h => hb.cell (p := ⟨b, o, none⟩) h, fun b o h => hb.frozen (p := ⟨b, o, none⟩) h⟩
theorem app1 {P : Program} (t e : TypeId) (k bytes : Nat) (z : Value) (ht : P.underlying t = some (.slice e)) (hinfo : (P.info? e).map (fun i => (i.zero, i.size, i.bytes)) = some (some z, k, bytes)) (hzs : z.cells.size = k) (hk : 0 < k)
    {w : World} {ops : Array Oper} {rest : List Oper} {o : Oper} {a : Act} {Q : Exit → Act → World → Prop} (s x : Operand) (hgd : o.guard = none)
    (ho : o.op = .call { callee := .builtin .append, args := #[s, x], argTypes := #[t, t] }) (base : Nat) (v : Value) (n : Nat) (xs : List Value) (hs : a.eval s = v) (hown : w.ownsRow base e k v n xs)
    (ad : Addr) (c : Nat) (news : List Value) (hx : a.eval x = .slice (some ad) 1 c) (hl : news.length = k) (hnews : ∀ j u, news[j]? = some u → w.cell? (ad.add j) = some u) (h1 : ∀ u ∈ news, u.oneCell' = true)
    (hbytes : (n + 1) * bytes ≤ 140737488355328) (hn : n + 1 ≤ 140737488355328) (hbase : base ≤ w.heap.size)
    (h : ∀ v' w', w'.ownsRow base e k v' (n + 1) (xs ++ news) → w.grownBy w' v.ownBlock → wpList P ops Q rest (a.put o.dst v') w') : wpList P ops Q (o :: rest) a w := by
  obtain ⟨i, hi, h0, h2, h3⟩ := info_parts hinfo
  exact wpList_append_own w hgd s x t ho base e i z k bytes ht hi h0 h2 h3 hzs hk v n xs hs hown ad 1 c news hx (by omega) hnews h1 (by unfold maxLen; omega) hbytes hbase (fun v' w' a b _ => h v' w' a b)
def SlAt (H : Kn) (k : Nat) (v : Value) (n : Nat) (R : Nat → (Nat → Option Value) → Prop) : Prop :=
  (v = .slice none 0 0 ∧ n = 0) ∨ ∃ b off cap, v = .slice (some ⟨b, off, none⟩) n cap ∧ n ≤ cap ∧ cap ≤ maxLen ∧ ∀ i, i < n → R i (fun j => H.cell b (off + i * k + j))
theorem SlAt.mono {H H' : Kn} {k : Nat} {v : Value} {n : Nat} {R R' : Nat → (Nat → Option Value) → Prop} (h : SlAt H k v n R)
    (hr : ∀ i f g, i < n → R i f → (∀ j x, f j = some x → g j = some x) → R' i g) (hle : H.le H') : SlAt H' k v n R' := by
  rcases h with h | ⟨b, off, cap, hv, h1, h2, h3⟩
  · exact .inl h
  · exact .inr ⟨b, off, cap, hv, h1, h2, fun i hi => hr i _ _ hi (h3 i hi) (fun j x e => hle.cell e)⟩
def StrsAt (H : Kn) (v : Value) (l : List ByteArray) : Prop := SlAt H 1 v l.length fun i f => f 0 = (l[i]?).map Value.string
theorem StrsAt.le {H H' : Kn} {v : Value} {l : List ByteArray} (h : StrsAt H v l) (hle : H.le H') : StrsAt H' v l :=
  SlAt.mono h (fun i f g hi e hg => by rw [List.getElem?_eq_getElem hi] at e ⊢; exact hg _ _ e) hle
theorem StrsAt.cases {H : Kn} {v : Value} {l : List ByteArray} (h : StrsAt H v l) : (v = .slice none 0 0 ∧ l = []) ∨
    ∃ b off cap, v = .slice (some ⟨b, off, none⟩) l.length cap ∧ l.length ≤ cap ∧ cap ≤ maxLen ∧ ∀ i (hi : i < l.length), H.cell b (off + i) = some (.string l[i]) := by
  rcases h with ⟨h1, h2⟩ | ⟨b, off, cap, hv, h1, h2, h3⟩
  · exact .inl ⟨h1, List.eq_nil_of_length_eq_zero h2⟩
  · refine .inr ⟨b, off, cap, hv, h1, h2, fun i hi => ?_⟩
    have := h3 i hi
    simpa [List.getElem?_eq_getElem hi] using this
def allKn (w : World) : Kn := fun b => w.heap[b]?
theorem allKn_in (w : World) : (allKn w).In w := fun _ _ h => h
theorem allKn_cell (w : World) (b i : Nat) : (allKn w).cell b i = w.cell? ⟨b, i, none⟩ := by
  unfold Kn.cell allKn World.cell?
  cases h : w.heap[b]? with
  | none => rfl
  | some o => cases o <;> simp
end Go.Proofs.YthihoafemahgmaaDoor
namespace Go.Proofs.YthihoafemahgmaaDoor
open Go.RowKit
def idxBy (p : ByteArray → Bool) (l : List ByteArray) : Int := match l.findIdx? p with | some i => (i : Int) | none => -1
theorem idxBy_found (p : ByteArray → Bool) (l : List ByteArray) (k : Nat) (hk : k < l.length) (hp : p l[k] = true) (hn : ∀ i (hi : i < l.length), i < k → p l[i] = false) : idxBy p l = (k : Int) := by
  have : l.findIdx? p = some k := by
    rw [List.findIdx?_eq_some_iff_getElem]
    exact ⟨hk, hp, fun j hj => by simp [hn j (by omega) hj]⟩
  simp [idxBy, this]
theorem idxBy_none (p : ByteArray → Bool) (l : List ByteArray) (hn : ∀ i (hi : i < l.length), p l[i] = false) : idxBy p l = -1 := by
  have : l.findIdx? p = none := by
    rw [List.findIdx?_eq_none_iff]
    intro x hx
    obtain ⟨i, hi, rfl⟩ := List.mem_iff_getElem.1 hx
    exact hn i hi
  simp [idxBy, this]
theorem idxBy_ge (p : ByteArray → Bool) (l : List ByteArray) : decide (0 ≤ idxBy p l) = l.any p := by
  cases h : l.findIdx? p with
  | none =>
    rw [idxBy, h]
    rw [List.findIdx?_eq_none_iff] at h
    have : l.any p = false := by simpa using h
    rw [this]; rfl
  | some i =>
    rw [idxBy, h]
    rw [List.findIdx?_eq_some_iff_getElem] at h
    obtain ⟨hi, hp, _⟩ := h
    have : l.any p = true := List.any_eq_true.2 ⟨l[i], List.getElem_mem _, hp⟩
    rw [this]; simp
theorem idxBy_lt (p : ByteArray → Bool) (l : List ByteArray) : -1 ≤ idxBy p l ∧ idxBy p l < l.length := by
  unfold idxBy
  cases h : l.findIdx? p with
  | none => simp; omega
  | some i =>
    rw [List.findIdx?_eq_some_iff_getElem] at h
    obtain ⟨hi, _⟩ := h
    simp; omega
theorem idx_any (H : Kn) (v : Value) (l : List ByteArray) (s : ByteArray) (w : World) (hv : StrsAt H v l) (hH : H.In w) :
    Calls Tryd.prog 51 #[v, .string s] w fun e w' => e = .returned (.int .i64 (idxBy (fun x => s.toList == x.toList) l)) ∧ w = w' := by
  rcases hv.cases with ⟨rfl, rfl⟩ | ⟨b, off, cap, rfl, h1, h2, h3⟩
  · go_enter Tryd.func51, Tryd.ntmps51
    go_wp2
    go_rounds 1
    all_goals go_ret
    exact ⟨rfl, rfl⟩
  · have hc : ∀ i (hi : i < l.length), w.cell? ⟨b, off + i, none⟩ = some (.string l[i]) := fun i hi => hH.cell (h3 i hi)
    have HC := Lib.hid hc
    clear hc h3 hH hv
    unfold maxLen at h2
    go_enter Tryd.func51, Tryd.ntmps51
    go_wp2
    go_loop [8] (fun i => ∃ k : Nat, k ≤ l.length ∧ i = .int .i64 k ∧ (∀ i (hi : i < l.length), i < k → (s.toList == l[i].toList) = false)) (fun i => l.length - (intOf i).toNat)
    case atStart => exact ⟨0, Nat.zero_le _, rfl, by intro i _ h; omega⟩
    case round =>
      obtain ⟨k, hk, rfl, hn⟩ := hrel
      have HN := Lib.hid hn
      clear hn
      by_cases hlt : k < l.length
      · have hc := HC.out k hlt
        cases he : (s.toList == l[k].toList)
        · go_wp2
          go_round
          case rel => exact ⟨k + 1, by omega, by go_num, fun i hi hik => by
            by_cases hik' : i < k
            · exact HN.out i hi hik'
            · obtain rfl : i = k := by omega
              exact he⟩
          case measure => simp [intOf]; omega
        · go_wp2
          go_ret
          exact ⟨ret_int (idxBy_found _ _ k hlt he fun i hi hik => HN.out i hi hik).symm, rfl⟩
      · go_wp2
        go_ret
        exact ⟨ret_int (idxBy_none _ _ fun i hi => HN.out i hi (by omega)).symm, rfl⟩
theorem contains_any (H : Kn) (v : Value) (l : List ByteArray) (s : ByteArray) (w : World) (hv : StrsAt H v l) (hH : H.In w) :
    Calls Tryd.prog 34 #[v, .string s] w fun e w' => e = .returned (.bool (l.any fun x => s.toList == x.toList)) ∧ w = w' := by
  have hb := idxBy_lt (fun x => s.toList == x.toList) l
  have hd := idxBy_ge (fun x => s.toList == x.toList) l
  have HD := Lib.hid hd
  clear hd
  go_enter Tryd.func34, Tryd.ntmps34
  go_wp2_with (go_at_call 51; refine (idx_any H _ l _ _ hv hH).mono ?_; rintro e w' ⟨rfl, rfl⟩)
  go_ret
  exact ⟨ret_bool HD.out, rfl⟩
end Go.Proofs.YthihoafemahgmaaDoor
