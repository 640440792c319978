/- Rows of elements. -/
import Derived.Test.YtmeldgjlgifdhaaGreatDoorTkM
import Derived.Test.YtmeldgjlgifdhaaGreatDoorRw
import Derived.Test.YtmeldgjlgifdhaaGreatDoorVsA
import Derived.Test.YtmeldgjlgifdhaaGreatDoorFxM
namespace Go.Proofs.YtmeldgjlgifdhaaGreatDoor
set_option maxRecDepth 100000
set_option maxHeartbeats 16000000
open Go.RowKit Mx
theorem InsV.at {H : Kn} {l : List (List Vl)} {a : Option Addr} {n c : Nat} (h : InsV H l (.slice a n c)) {k : Nat} (hk : k < l.length) : ∃ b off a2 c2, a = some ⟨b, off, none⟩ ∧ H.cell b (off + k) = some (.slice a2 l[k].length c2) ∧ VlsV H l[k] (.slice a2 l[k].length c2) := by
 obtain ⟨b, off, haf, _, v, c0, hv⟩ := SlV.at h hk
 have c0 : H.cell b (off + k * 1 + 0) = some v := c0
 simp only [Nat.mul_one, Nat.add_zero] at c0
 obtain ⟨a2, c2, rfl⟩ := hv.len
 exact ⟨b, off, a2, c2, haf, c0, hv⟩
def RowX {α : Type} (k : Nat) (P : Kn → α → (Nat → Option Value) → Prop) (K : Kn) (l : List α) (xs : List Value) : Prop :=
 xs.length = l.length * k ∧ ∀ i (hi : i < l.length), P K l[i] (fun j => if j < k then xs[i * k + j]? else none)
def PMono {α : Type} (P : Kn → α → (Nat → Option Value) → Prop) : Prop := ∀ K K' x f g, Kn.le K K' → (∀ j u, f j = some u → g j = some u) → P K x f → P K' x g
theorem RowX.mono {α : Type} {k : Nat} {P : Kn → α → (Nat → Option Value) → Prop} (hP : PMono P) : ∀ (K K' : Kn) (l : List α) (xs : List Value), Kn.le K K' → RowX k P K l xs → RowX k P K' l xs :=
 fun _ _ _ _ hle h => ⟨h.1, fun i hi => hP _ _ _ _ _ hle (fun _ _ e => e) (h.2 i hi)⟩
theorem RowX.nil {α : Type} {k : Nat} {P : Kn → α → (Nat → Option Value) → Prop} {K : Kn} : RowX k P K [] [] := ⟨by simp, fun i hi => by simp at hi⟩
theorem RowX.snoc {α : Type} {k : Nat} {P : Kn → α → (Nat → Option Value) → Prop} (hP : PMono P) {K : Kn} {l : List α} {xs : List Value} (h : RowX k P K l xs) {x : α} {ys : List Value} (hy : ys.length = k) (hx : P K x (fun j => ys[j]?)) : RowX k P K (l ++ [x]) (xs ++ ys) := by
 obtain ⟨h1, h2⟩ := h
 refine ⟨by simp [h1, hy, Nat.add_mul], fun i hi => ?_⟩
 by_cases hil : i < l.length
 ·rw [List.getElem_append_left hil]
  refine hP _ _ _ _ _ (Kn.le_refl _) (fun j u e => ?_) (h2 i hil)
  split at e
  ·rename_i hj
   rw [if_pos hj, List.getElem?_append_left]
   ·exact e
   ·have h3 : (i + 1) * k ≤ l.length * k := Nat.mul_le_mul_right k hil
    rw [Nat.add_mul] at h3
    omega
  ·cases e
 ·simp only [List.length_append, List.length_singleton] at hi
  obtain rfl : i = l.length := by omega
  rw [show (l ++ [x])[l.length] = x from by simp]
  refine hP _ _ _ _ _ (Kn.le_refl _) (fun j u e => ?_) hx
  have hj : j < k := by
   rcases Nat.lt_or_ge j ys.length with h3 | h3
   ·omega
   ·rw [List.getElem?_eq_none h3] at e; cases e
  rw [if_pos hj, List.getElem?_append_right (by omega), h1, Nat.add_sub_cancel_left]
  exact e
theorem RowX.at {α : Type} {k : Nat} {P : Kn → α → (Nat → Option Value) → Prop} (hP : PMono P) {K : Kn} {l : List α} {xs : List Value} (h : RowX k P K l xs) : ∀ K', Kn.le K K' → ∀ i (hi : i < l.length), ∀ f : Nat → Option Value, (∀ j u, xs[i * k + j]? = some u → f j = some u) → P K' l[i] f :=
 fun _ hle i hi f hf => hP _ _ _ _ _ hle (fun j u e => by
  split at e
  ·exact hf j u e
  ·cases e) (h.2 i hi)
def IsC (K : Kn) (l : List Vl) (f : Nat → Option Value) : Prop := ∃ u, f 0 = some u ∧ VlsV K l u
theorem IsC.pm : PMono IsC := fun _ _ _ _ _ hle hfg ⟨u, h1, h2⟩ => ⟨u, hfg _ _ h1, SlV.le h2 hle VlC.mono⟩
theorem TkC.pm : PMono TkC := fun _ _ x f g hle hfg h => TkC.mono hle x f g hfg h
abbrev IsX := RowX 1 IsC
abbrev TkX := RowX 4 TkC
end Go.Proofs.YtmeldgjlgifdhaaGreatDoor
namespace Go.Proofs.YtmeldgjlgifdhaaGreatDoor
set_option maxRecDepth 100000
set_option maxHeartbeats 16000000
open Go.RowKit Mx
theorem outs_news {K : Kn} {W : World} (hK : K.In W) {l : List Int} {b off c : Nat} (h : OutsV K l (.slice (some ⟨b, off, none⟩) l.length c)) : ∀ j u, (l.map (Value.int .i64))[j]? = some u → W.cell? ((⟨b, off, none⟩ : Addr).add j) = some u := fun j u hu => by
 rw [addr_add']
 have hj : j < l.length := by
  rcases Nat.lt_or_ge j l.length with h1 | h1
  ·exact h1
  ·rw [List.getElem?_eq_none (by simpa using h1)] at hu; cases hu
 obtain ⟨b2, off2, e2, _, d0⟩ := SlV.at h hj
 cases e2
 have d0 : K.cell b (off + j * 1 + 0) = some (.int .i64 l[j]) := d0
 simp only [Nat.mul_one, Nat.add_zero] at d0
 rw [hK.cell d0]
 rw [List.getElem?_map, List.getElem?_eq_getElem hj] at hu
 exact hu
theorem run_app_ints {K : Kn} {W : World} (hK : K.In W) {l : List Int} {a : Option Addr} {c : Nat} (h : OutsV K l (.slice a l.length c)) {base n : Nat} {v : Value} {xs : List Value} (hown : W.ownsRow base 3 1 v n xs) (hbase : base ≤ W.heap.size) (hl : n + l.length ≤ 1000000000) :
  ∃ v' W', (∀ ty, (Builtin.append_ #[78, 78] ty #[v, .slice a l.length c]).run Tryz.prog W = .ok v' W') ∧ W'.ownsRow base 3 1 v' (n + l.length) (xs ++ l.map (Value.int .i64)) ∧ W.grownBy W' v.ownBlock := by
 obtain ⟨i1, hi1, hy0, hy1, hy2⟩ := info_parts Tryz.infoInt
 by_cases h0 : l = []
 ·subst h0
  exact ⟨v, W, fun ty => run_append_empty 78 3 i1 Tryz.underlying78 hi1 hown a c ty, by simpa using hown, ⟨rfl, rfl, rfl, Nat.le_refl _, fun _ _ _ => rfl⟩⟩
 ·have hlen : 0 < l.length := List.length_pos_iff.2 h0
  obtain ⟨b, off, he, _⟩ := SlV.at h hlen
  subst he
  have hrun := fun ty => run_append_lies (P := Tryz.prog) W 78 ty base 3 i1 _ 1 8 Tryz.underlying78 hi1 hy0 hy1 hy2 rfl (by omega) v n xs hown ⟨b, off, none⟩ l.length c (l.map (Value.int .i64)) (by simp) (outs_news hK h) (fun u hu => by obtain ⟨x, _, rfl⟩ := List.mem_map.1 hu; rfl) hlen (by unfold maxLen; omega) (by omega) hbase W.heap.size rfl
  obtain ⟨g, cap', W', h1, h2, h3, h4, h5⟩ := hrun 0
  exact ⟨_, W', fun ty => h1, h2, h3⟩
theorem ints_row {w : World} {base n : Nat} {T : TypeId} {v : Value} {l : List Int} (h : w.ownsRow base T 1 v l.length (l.map (Value.int .i64))) (hn : n ≤ base) : OutsV (newKn n w) l v :=
 slv_new h hn fun i hi f hf => hf 0 _ (by rw [Nat.mul_one, Nat.add_zero, List.getElem?_map, List.getElem?_eq_getElem hi]; rfl)
theorem step_append_run {P : Program} {w : World} {ops : Array Oper} {o : Oper} {a : Act} {K : Act → World → Prop} {Q : Exit → Act → World → Prop} {E : Prop} (hg : o.guard = none) (t u : TypeId) (x y : Operand)
  (hop : o.op = .call { callee := .builtin .append, args := #[x, y], argTypes := #[t, u] }) (v1 v2 : Value) (h1 : a.eval x = v1) (h2 : a.eval y = v2) (v : Value) (w' : World)
  (hrun : ∀ ty, (Builtin.append_ #[t, u] ty #[v1, v2]).run P w = .ok v w') (hK : K (a.put o.dst v) w') : if Region.wanted o (yielded ops a.tmps) = true then Oper.wp P o a w K Q else E := by
 have hw : Region.wanted o (yielded ops a.tmps) = true := by simp [Region.wanted, hg]
 rw [if_pos hw]
 have hr := hrun o.type
 unfold Oper.wp
 simp [execOp, hop, resolve, invoke, builtin, h1, h2, hr, Result.andThen]
 exact hK
def mcV (R : REnv) (B : Nat) (s : Mc) (vm : Value) : Array Value := #[ptrV B, .bool R.nb, .int .i64 R.ni, .bool s.first, vm, .bool s.trapped]
structure McAt (MT NT CT : TypeId) (R : REnv) (p : Pr) (ord : List Nat) (K : Kn) (w : World) (M B : Nat) (s : Mc) (vm : Value) : Prop where
 box : w.heap[M]? = some (.cells (mcV R B s vm) MT (0, 0))
 isin : K.In w
 no : K M = none
 code : CodeAt NT CT R K p ord B
 mem : VlsV K s.mem vm
 len : s.mem.length = memNL p.terms
theorem joinKn_gr {K : Kn} {w w' : World} {M : Nat} (h : K.In w) (g : Gr2 w w' M none) (hM : K M = none) : (joinKn K w.heap.size w').In w' := fun b o e => by
 unfold joinKn at e
 split at e
 ·rename_i hb
  rw [g.block b hb (fun e2 => by rw [e2, hM] at e; cases e) (by simp)]
  exact h b o e
 ·exact e
theorem joinKn_at {K : Kn} {n : Nat} {w : World} {M : Nat} (h : M < n) : joinKn K n w M = K M := by unfold joinKn; rw [if_pos h]
section
variable {MT NT CT : TypeId} {R : REnv} {p : Pr} {ord : List Nat} {K : Kn} {w : World} {M B : Nat} {s : Mc} {vm : Value}
theorem McAt.lt (h : McAt MT NT CT R p ord K w M B s vm) : M < w.heap.size := (Array.getElem?_eq_some_iff.1 h.box).1
theorem McAt.cell (h : McAt MT NT CT R p ord K w M B s vm) (i : Nat) : w.cell? ⟨M, i, none⟩ = (mcV R B s vm)[i]? := by simp [World.cell?, h.box]
theorem McAt.below {w' : World} (h : McAt MT NT CT R p ord K w M B s vm) (hb : Below w.heap.size w w') : McAt MT NT CT R p ord K w' M B s vm :=
 ⟨(hb.block M h.lt).trans h.box, h.isin.below hb, h.no, h.code, h.mem, h.len⟩
theorem McAt.join {w' : World} (h : McAt MT NT CT R p ord K w M B s vm) (hb : Below w.heap.size w w') : McAt MT NT CT R p ord (joinKn K w.heap.size w') w' M B s vm :=
 ⟨(hb.block M h.lt).trans h.box, joinKn_in h.isin hb, by rw [joinKn_at h.lt]; exact h.no, h.code.le (joinKn_le h.isin w'), SlV.le h.mem (joinKn_le h.isin w') VlC.mono, h.len⟩
theorem McAt.grown {w' : World} {u : Value} (h : McAt MT NT CT R p ord K w M B s vm) (hg : w.grownBy w' u.ownBlock) (hu : ∀ g, u.ownBlock = some g → K g = none ∧ g ≠ M) : McAt MT NT CT R p ord K w' M B s vm :=
 ⟨(hg.block M h.lt (fun e => (hu M e.symm).2 rfl)).trans h.box, h.isin.grown hg (fun g e => (hu g e).1), h.no, h.code, h.mem, h.len⟩
def mcKn (K : Kn) (MT : TypeId) (R : REnv) (M B : Nat) (s : Mc) (vm : Value) : Kn := K.add M (.cells (mcV R B s vm) MT (0, 0))
theorem McAt.kn (h : McAt MT NT CT R p ord K w M B s vm) : (mcKn K MT R M B s vm).In w := h.isin.add h.box
theorem mcKn_le (hM : K M = none) : K.le (mcKn K MT R M B s vm) := Kn.le_add hM
theorem mcKn_cell (i : Nat) : (mcKn K MT R M B s vm).cell M i = (mcV R B s vm)[i]? := by unfold mcKn Kn.cell; rw [Kn.add_self]
end
theorem Gr2.below {a w w' : World} {base M : Nat} (h : Below base a w) (g : Gr2 w w' M none) (hM : base ≤ M) (hb : base ≤ w.heap.size) : Below base a w' :=
 ⟨g.os.trans h.os, g.tape.trans h.tape, g.output.trans h.output, Nat.le_trans h.size g.size, fun i hi => by
  rw [g.block i (by omega) (by omega) (by simp)]
  exact h.block i hi⟩
theorem memories_any (R : REnv) (H : Kn) (B : Nat) (cs : Array Value) (ms : List (Ex × Nat)) (vm : Value) (hB : H B = some (.cells cs 135 (0, 0))) (h10 : cs[10]? = some vm) (hm : NdsV 143 R H ms vm) (hl : ms.length ≤ 1000000000) (w : World) (hH : H.In w) :
  Calls Tryz.prog 44 #[.pointer (some ⟨B, 0, none⟩)] w fun r w' => ∃ v, r = .returned v ∧ OutsV (newKn w.heap.size w') (ms.map fun x => kindOf R.ks x.1) v ∧ Below w.heap.size w w' := by
 obtain ⟨a, c, rfl⟩ := hm.len
 have HM := Lib.hid hm
 have g10 := hH.cell (b := B) (i := 10) (v := .slice a ms.length c) (by unfold Kn.cell; rw [hB]; exact h10)
 have hBlt : B < w.heap.size := hH.lt hB
 clear hm
 go_enter Tryz.func44, Tryz.ntmps44
 go_wp2_with fail
 clear g10
 go_loopw [3, 11] (fun u i wr => ∃ k : Nat, i = .int .i64 k ∧ k ≤ ms.length ∧ Below w.heap.size w wr ∧ wr.ownsRow w.heap.size 3 1 u k (((ms.take k).map fun x => kindOf R.ks x.1).map (Value.int .i64))) (fun _ i _ => ms.length - (intOf i).toNat)
 case atStart => exact ⟨0, rfl, Nat.zero_le _, Below.refl _ _, World.ownsRow_nil _ _ _ _⟩
 case round =>
  obtain ⟨k, rfl, hk, hb, hrow⟩ := hrel
  have HB := Lib.hid hb
  have HR := Lib.hid hrow
  clear hb hrow
  by_cases hkl : k < ms.length
  ·obtain ⟨au, cu, hue, _⟩ := own_len HR.out
   subst hue
   obtain ⟨b, off, rfl, _, q, hq1, hq2⟩ := SlV.at HM.out hkl
   have hq1 : H.cell b (off + k * 1 + 0) = some (ptrV q) := hq1
   simp only [Nat.mul_one, Nat.add_zero] at hq1
   obtain ⟨lv, pv, hqH, _⟩ := hq2.open
   have hHr := hH.below HB.out
   have c0 := hHr.cell hq1
   have c5 : wr.cell? ⟨q, 5, none⟩ = some (.int .i64 (kindOf R.ks ms[k].1)) := hHr.cell (by unfold Kn.cell; rw [hqH]; rfl)
   have hsn : ((ms.take (k + 1)).map fun x => kindOf R.ks x.1).map (Value.int .i64) = ((ms.take k).map fun x => kindOf R.ks x.1).map (Value.int .i64) ++ [.int .i64 (kindOf R.ks ms[k].1)] := by
    rw [List.take_succ_eq_append_getElem hkl, List.map_append, List.map_append]; rfl
   have HSN := Lib.hid hsn
   generalize ((ms.take k).map fun x => kindOf R.ks x.1).map (Value.int .i64) = xs at *
   have hr2 := own_below HR.out ((Below.refl wr.heap.size wr).alloc (Nat.le_refl _) (.cells #[.int .i64 (kindOf R.ks ms[k].1)] 3))
   have HR2 := Lib.hid hr2
   have hsz := HB.out.size
   clear hsn hq2 hqH hr2
   generalize kindOf R.ks ms[k].1 = kd at *
   go_wp2_with (at_builtin; refine app1L 78 3 1 8 _ Tryz.underlying78 Tryz.infoInt rfl (by decide) _ _ rfl rfl w.heap.size _ _ _ rfl HR2.out ⟨wr.heap.size, 0, none⟩ 1 [.int .i64 kd] rfl rfl ?c1 ?c2 ?c3 ?c4 ?c5 ?_)
   case c2 => simp [Value.oneCell']
   case c3 => omega
   case c4 => omega
   case c5 => omega
   intro g cap' w3 ho hg3 hat
   have HW3 := Lib.hid (show Below w.heap.size w w3 from ((HB.out.alloc HB.out.size _).grown hg3 (by simp; omega) (fun q hq => (HR2.out.lt q hq).1)))
   go_wp2_with fail
   go_roundw
   case rel => exact ⟨k + 1, by go_num, by omega, HW3.out, by rw [HSN.out]; exact ho⟩
   case measure => simp [intOf]; omega
  ·obtain rfl : k = ms.length := by omega
   have hr := HR.out
   rw [List.take_of_length_le (Nat.le_refl _)] at hr
   have HV := Lib.hid (ints_row (n := w.heap.size) (l := ms.map fun x => kindOf R.ks x.1) (by rw [List.length_map]; exact hr) (Nat.le_refl _))
   clear hr
   go_wp2_with fail
   go_ret
   exact ⟨_, rfl, HV.out, HB.out⟩
theorem cloneV_any (H : Kn) (l : List Vl) (v : Value) (hv : VlsV H l v) (hl : l.length ≤ 1000000000) (w : World) (hH : H.In w) :
  Calls Tryz.prog 45 #[v] w fun r w' => ∃ v', r = .returned v' ∧ VlsV (newKn w.heap.size w') l v' ∧ Below w.heap.size w w' := by
 have hrow0 : (w.alloc (.cells #[] 25)).ownsRow w.heap.size 25 2 (.slice (some ⟨w.heap.size, 0, none⟩) 0 0) 0 [] := World.ownsRow_made w #[] 0 (Nat.le_refl _) (Nat.zero_le _) rfl
 obtain ⟨a, c, rfl⟩ := hv.len
 have hb0 : Below w.heap.size w (w.alloc (.cells #[] 25)) := (Below.refl _ _).alloc (Nat.le_refl _) _
 obtain ⟨v', W', hrun, hown, hg⟩ := run_app_vls (hH.below hb0) hv hrow0 (by simp) (by omega)
 have HB := Lib.hid (show Below w.heap.size w W' from hb0.grown hg (by simp) (fun q hq => (hrow0.lt q hq).1))
 have HV := Lib.hid (vls_row (n := w.heap.size) (l := l) (by simpa using hown) (Nat.le_refl _))
 have HRUN := Lib.hid hrun
 have h0 : a = none → l = [] := fun e => by
  subst e
  rcases hv with ⟨h, _⟩ | ⟨b, off, cap, h, _⟩
  ·exact h
  ·cases h
 have HE := Lib.hid h0
 clear hv hrow0 hb0 hrun hown hg h0
 cases a with
 | none =>
  have hl0 := HE.out rfl
  subst hl0
  have he := fun w => Lib.run_eql_slice_nil (P := Tryz.prog) w 22 25 none 0 c 0 0 Tryz.underlying22
  go_enter Tryz.func45, Tryz.ntmps45
  go_wp2_with fail
  go_ret
  exact ⟨_, rfl, .inl ⟨rfl, none, 0, rfl⟩, Below.refl _ _⟩
 | some ad =>
  have he := fun w => Lib.run_eql_slice_nil (P := Tryz.prog) w 22 25 (some ad) l.length c 0 0 Tryz.underlying22
  go_enter Tryz.func45, Tryz.ntmps45
  go_wp2_with (at_builtin; refine wp_append_run rfl 22 22 _ _ rfl _ _ rfl rfl _ _ HRUN.out ?_)
  go_ret
  exact ⟨_, rfl, HV.out, HB.out⟩
end Go.Proofs.YtmeldgjlgifdhaaGreatDoor
