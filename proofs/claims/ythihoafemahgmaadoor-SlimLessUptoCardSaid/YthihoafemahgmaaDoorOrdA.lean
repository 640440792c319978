/- Walks: slices.IndexFunc, ContainsFunc at numbers; order.Order's closure; the sort, step by step. -/
import Derived.Test.YthihoafemahgmaaDoorCyc
import Derived.Test.YthihoafemahgmaaDoorMx
import Derived.Test.YthihoafemahgmaaDoorGr
import Derived.Test.YthihoafemahgmaaDoorCheckA
namespace Go.Proofs.YthihoafemahgmaaDoor
open Go.RowKit Mx
def idxI (p : Nat → Bool) (l : List Nat) : Int := match l.findIdx? p with | some i => (i : Int) | none => -1
theorem idxI_found (p : Nat → Bool) (l : List Nat) (k : Nat) (hk : k < l.length) (hp : p l[k] = true) (hn : ∀ i (hi : i < l.length), i < k → p l[i] = false) : idxI p l = (k : Int) := by
  have : l.findIdx? p = some k := by
    rw [List.findIdx?_eq_some_iff_getElem]
    exact ⟨hk, hp, fun j hj => by simp [hn j (by omega) hj]⟩
  simp [idxI, this]
theorem idxI_none (p : Nat → Bool) (l : List Nat) (hn : ∀ i (hi : i < l.length), p l[i] = false) : idxI p l = -1 := by
  have : l.findIdx? p = none := by
    rw [List.findIdx?_eq_none_iff]
    intro x hx
    obtain ⟨i, hi, rfl⟩ := List.mem_iff_getElem.1 hx
    exact hn i hi
  simp [idxI, this]
theorem idxI_ge (p : Nat → Bool) (l : List Nat) : decide (0 ≤ idxI p l) = l.any p := by
  cases h : l.findIdx? p with
  | none =>
    rw [idxI, h]
    rw [List.findIdx?_eq_none_iff] at h
    have : l.any p = false := by simpa using h
    rw [this]; rfl
  | some i =>
    rw [idxI, h]
    rw [List.findIdx?_eq_some_iff_getElem] at h
    obtain ⟨hi, hp, _⟩ := h
    have : l.any p = true := List.any_eq_true.2 ⟨l[i], List.getElem_mem _, hp⟩
    rw [this]; simp
theorem idxI_lt (p : Nat → Bool) (l : List Nat) : -1 ≤ idxI p l ∧ idxI p l < (l.length : Int) + 1 := by
  unfold idxI
  cases h : l.findIdx? p with
  | none => simp; omega
  | some i =>
    rw [List.findIdx?_eq_some_iff_getElem] at h
    obtain ⟨hi, _⟩ := h
    simp; omega
def IntPred (k : Nat) (cap : Array Value) (p : Nat → Bool) (l : List Nat) (w : World) : Prop :=
  Enters Tryd.prog k ∧ ∀ x ∈ l, Calls Tryd.prog k (#[.int .i64 (x : Nat)] ++ cap) w fun r w' => r = .returned (.bool (p x)) ∧ w = w'
set_option maxHeartbeats 1000000 in
set_option maxRecDepth 100000 in
theorem idxI_any (k : Nat) (cap : Array Value) (H : Kn) (p : Nat → Bool) (l : List Nat) (v : Value) (w : World) (hp : IntPred k cap p l w) (hv : IntsV H l v) (hH : H.In w) :
    Calls Tryd.prog 74 #[v, .func (.func k) #[] cap] w fun r w' => r = .returned (.int .i64 (idxI p l)) ∧ w = w' := by
  obtain ⟨hen, hp⟩ := hp
  have HP := Lib.hid hp
  clear hp
  unfold Enters at hen
  obtain ⟨a, c, rfl⟩ := hv.len
  have HV := Lib.hid hv
  have hlt : l.length ≤ 9223372036854775807 := by
    rcases hv with ⟨rfl, _⟩ | ⟨_, _, c', _, h1, h2, _⟩
    · simp
    · unfold maxLen at h2; omega
  clear hv
  go_enter Tryd.func74, Tryd.ntmps74
  go_wp2_with fail
  go_loop [8] (fun i => ∃ k : Nat, i = .int .i64 k ∧ k ≤ l.length ∧ (∀ i (hi : i < l.length), i < k → p l[i] = false)) (fun i => l.length - (intOf i).toNat)
  case atStart => exact ⟨0, rfl, Nat.zero_le _, fun i _ h => by omega⟩
  case round =>
    obtain ⟨k', rfl, hk, hn⟩ := hrel
    have HN := Lib.hid hn
    clear hn
    by_cases hkl : k' < l.length
    · obtain ⟨b, off, rfl, _, c0⟩ := SlV.at HV.out hkl
      have c0 : H.cell b (off + k' * 1 + 0) = some (natV l[k']) := c0
      simp only [Nat.mul_one, Nat.add_zero] at c0
      have c0 := hH.cell c0
      have hmem := List.getElem_mem hkl
      cases he : p l[k']
      · have HE := Lib.hid he
        clear he
        have HX := Lib.hid fun i (hi : i < l.length) (hik : i < k' + 1) => (show p l[i] = false from by
          by_cases hik' : i < k'
          · exact HN.out i hi hik'
          · obtain rfl : i = k' := by omega
            exact HE.out)
        generalize l[k'] = x at *
        go_wp2_with (refine (HP.out x hmem).mono ?_; rintro r w2 ⟨rfl, rfl⟩; rw [HE.out])
        go_round
        case rel => exact ⟨k' + 1, by go_num, by omega, HX.out⟩
        case measure => simp [intOf]; omega
      · have HE := Lib.hid he
        clear he
        have HX := Lib.hid (idxI_found p l k' hkl HE.out fun i hi hik => HN.out i hi hik)
        generalize l[k'] = x at *
        go_wp2_with (refine (HP.out x hmem).mono ?_; rintro r w2 ⟨rfl, rfl⟩; rw [HE.out])
        go_ret
        exact ⟨ret_int HX.out.symm, rfl⟩
    · go_wp2_with fail
      go_ret
      exact ⟨ret_int (idxI_none _ _ fun i hi => HN.out i hi (by omega)).symm, rfl⟩
theorem containsI_any (k : Nat) (cap : Array Value) (H : Kn) (p : Nat → Bool) (l : List Nat) (v : Value) (w : World) (hp : IntPred k cap p l w) (hv : IntsV H l v) (hH : H.In w) :
    Calls Tryd.prog 65 #[v, .func (.func k) #[] cap] w fun r w' => r = .returned (.bool (l.any p)) ∧ w = w' := by
  have hb := idxI_lt p l
  have HD := Lib.hid (idxI_ge p l)
  go_enter Tryd.func65, Tryd.ntmps65
  go_wp2_with fail
  refine (idxI_any k cap H p l v _ hp hv hH).mono ?_
  rintro r w2 ⟨rfl, rfl⟩
  go_wp2_with fail
  go_ret
  exact ⟨ret_bool HD.out, rfl⟩
theorem order1_pred (Dc D n : Nat) (out l : List Nat) (dn : Array Value) (w : World) (hc : w.cell? ⟨Dc, 0, none⟩ = some (.slice (some ⟨D, 0, none⟩) n n)) (hD : w.heap[D]? = some (.cells dn 4 (0, 0))) (hdn : ∀ x, x < n → dn[x]? = some (.bool (out.contains x))) (hl : ∀ x ∈ l, x < n) (hn : n ≤ 1000000) :
    IntPred 66 #[.pointer (some ⟨Dc, 0, none⟩)] (fun x => !out.contains x) l w := by
  refine ⟨fun _ _ => by kernel_rfl, fun x hx => ?_⟩
  have hxn := hl x hx
  have hxI : (x : Int) < n := by omega
  have hd : w.cell? ⟨D, x, none⟩ = some (.bool (out.contains x)) := by simp [World.cell?, hD, hdn x hxn]
  obtain ⟨q, hq⟩ : ∃ q, out.contains x = q := ⟨_, rfl⟩
  rw [hq] at hd
  have HQ := Lib.hid hq
  clear hq
  show Calls Tryd.prog 66 #[.int .i64 (x : Nat), .pointer (some ⟨Dc, 0, none⟩)] w _
  clear hdn hl hx hD
  go_enter Tryd.func66, Tryd.ntmps66
  go_wp2_with fail
  go_ret
  exact ⟨ret_bool (by rw [HQ.out]), rfl⟩
theorem sortN_out (g : List (List Nat)) : ∀ (f : Nat) (out : List Nat), sortN g (f + 1) out = sortN g f out ++ [pick g (sortN g f out)]
  | 0, out => rfl
  | f + 1, out => by
    show sortN g (f + 1) (out ++ [pick g out]) = _
    rw [sortN_out g f (out ++ [pick g out])]
    rfl
theorem sortN_len (g : List (List Nat)) : ∀ (f : Nat) (out : List Nat), (sortN g f out).length = out.length + f
  | 0, out => rfl
  | f + 1, out => by
    show (sortN g f (out ++ [pick g out])).length = _
    rw [sortN_len g f]
    simp; omega
def freeB (g : List (List Nat)) (out : List Nat) (k : Nat) : Bool := !out.contains k && (g.getD k []).all out.contains
theorem pick_free {g : List (List Nat)} {out : List Nat} (h : pick g out < g.length) : freeB g out (pick g out) = true := by
  unfold pick at h ⊢
  have hz : (g.zipIdx.findIdx fun x => !out.contains x.2 && x.1.all out.contains) < g.zipIdx.length := by simpa using h
  have := List.findIdx_getElem (w := hz)
  simp only [List.getElem_zipIdx, Nat.zero_add] at this
  unfold freeB
  rw [List.getD_eq_getElem?_getD, List.getElem?_eq_getElem h]
  exact this
theorem pick_first {g : List (List Nat)} {out : List Nat} {k : Nat} (h : k < pick g out) (hk : k < g.length) : freeB g out k = false := by
  unfold pick at h
  have := List.not_of_lt_findIdx h
  simp only [List.getElem_zipIdx, Nat.zero_add] at this
  unfold freeB
  rw [List.getD_eq_getElem?_getD, List.getElem?_eq_getElem hk]
  simpa using this
end Go.Proofs.YthihoafemahgmaaDoor
namespace Go.Proofs.YthihoafemahgmaaDoor.Mx
theorem check_zero {p : Pr} (h : checkFlat p = 0) : ∃ ks, freshGo Env.none p.vars = some ks ∧ outsGo (p.fl.map (·.name)) [] p.outs = true ∧ formAllL ks p.terms = true ∧ p.fl.length ≤ 400 ∧ Ex.partsL p.terms ≤ 4000 ∧ p.ins.length ≤ 30 ∧ kindsGo ks (p.fl.map (·.kind)) p.terms = true := by
  unfold checkFlat at h
  split at h
  · cases h
  · rename_i ks hks
    refine ⟨ks, hks, ?_⟩
    split at h
    · cases h
    · rename_i h1
      split at h
      · cases h
      · rename_i h2
        split at h
        · cases h
        · rename_i h3
          split at h
          · cases h
          · rename_i h4
            simp only [Bool.not_eq_true', Bool.not_eq_false] at h1 h2 h4
            exact ⟨h1, h2, by omega, by omega, by omega, h4⟩
theorem partsL_append : ∀ (l m : List Ex), Ex.partsL (l ++ m) = Ex.partsL l + Ex.partsL m
  | [], m => by simp [Ex.partsL]
  | e :: l, m => by
    simp only [List.cons_append, Ex.partsL, partsL_append l m]; omega
theorem terms_fl (p : Pr) {f : Fl} (h : f ∈ p.fl) : f.e ∈ p.terms := by
  simp only [Pr.terms, List.mem_append]
  exact .inl (.inl (List.mem_map.2 ⟨f, h, rfl⟩))
theorem atFrom_lt : ∀ (l : List Fl) (i : Nat) (m : Env Nat) (N : Nat), i + l.length ≤ N → (∀ s k, m s = some k → k < N) → ∀ s k, atFrom i m l s = some k → k < N
  | [], _, _, _, _, hm, s, k, h => hm s k h
  | f :: l, i, m, N, hN, hm, s, k, h => by
    simp only [List.length_cons] at hN
    refine atFrom_lt l (i + 1) _ N (by omega) (fun s' k' h' => ?_) s k h
    unfold Env.set at h'
    split at h'
    · cases h'; omega
    · exact hm s' k' h'
mutual
theorem needs_at (at_ : Env Nat) (N : Nat) (h : ∀ s k, at_ s = some k → k < N) : ∀ e : Ex, ∀ k ∈ needs at_ e, k < N
  | .mk o n s l, k, hk => by
    simp only [needs] at hk
    split at hk
    · cases hk
    · split at hk
      · exact needsH_at at_ N h l k hk
      · rcases List.mem_append.1 hk with hk | hk
        · split at hk
          · cases hq : at_ s with
            | none => rw [hq] at hk; cases hk
            | some j => rw [hq] at hk; simp at hk; rw [hk]; exact h s j hq
          · cases hk
        · exact needsL_at at_ N h l k hk
theorem needsL_at (at_ : Env Nat) (N : Nat) (h : ∀ s k, at_ s = some k → k < N) : ∀ l : List Ex, ∀ k ∈ needsL at_ l, k < N
  | [], k, hk => by simp [needsL] at hk
  | e :: l, k, hk => by
    simp only [needsL] at hk
    rcases List.mem_append.1 hk with hk | hk
    · exact needs_at at_ N h e k hk
    · exact needsL_at at_ N h l k hk
theorem needsH_at (at_ : Env Nat) (N : Nat) (h : ∀ s k, at_ s = some k → k < N) : ∀ l : List Ex, ∀ k ∈ needsH at_ l, k < N
  | [], k, hk => by simp [needsH] at hk
  | e :: l, k, hk => by
    simp only [needsH] at hk
    exact needs_at at_ N h e k hk
end
theorem graph_len (p : Pr) : p.graph.length = p.fl.length := by simp [Pr.graph]
theorem graph_low (p : Pr) : ∀ l ∈ p.graph, ∀ k ∈ l, k < p.graph.length := by
  intro l hl k hk
  obtain ⟨f, _, rfl⟩ := List.mem_map.1 hl
  rw [graph_len]
  exact needs_at _ _ (atFrom_lt p.fl 0 Env.none p.fl.length (by omega) (fun s k h => by cases h)) f.e k hk
end Go.Proofs.YthihoafemahgmaaDoor.Mx
namespace Go.Proofs.YthihoafemahgmaaDoor
open Go.RowKit Mx
def ErrW (sp : Nat → Addr) (w : World) (c : Nat) (a : Int) (v : Value) : Prop :=
  (a = -1 ∧ v = errV sp c) ∨ (a ≠ -1 ∧ ∃ N, v = .iface 86 (.pointer (some ⟨N, 0, none⟩)) ∧ w.heap[N]? = some (.cells #[.int .i64 a, esv (sp (c - 1))] 88 (0, 0)))
theorem ErrW.below {sp : Nat → Addr} {w w' : World} {c : Nat} {a : Int} {v : Value} (h : ErrW sp w c a v) (hb : Below w.heap.size w w') : ErrW sp w' c a v :=
  h.imp id fun ⟨h1, N, h2, h3⟩ => ⟨h1, N, h2, by rw [hb.block N (Array.getElem?_eq_some_iff.1 h3).1]; exact h3⟩
def OrdPostN (sp : Nat → Addr) (p : Pr) (w : World) (r : Ending) (w' : World) : Prop :=
  Below w.heap.size w w' ∧ match orderM p with
    | .error x => ∃ v, r = .returned (.tuple #[.slice none 0 0, v]) ∧ ErrW sp w' x.1 x.2 v
    | .ok l => ∃ v, r = .returned (.tuple #[v, .nilIface]) ∧ IntsV (newKn w.heap.size w') l v
def OrdPost (sp : Nat → Addr) (p : Pr) (w : World) (r : Ending) (w' : World) : Prop :=
  Below w.heap.size w w' ∧ match orderM p with
    | .error x => ∃ v, r = .returned (.tuple #[.slice none 0 0, v]) ∧ ErrW sp w' x.1 x.2 v
    | .ok l => ∃ v, r = .returned (.tuple #[v, .nilIface]) ∧ IntsV (allKn w') l v
theorem OrdPostN.old {sp : Nat → Addr} {p : Pr} {w : World} {r : Ending} {w' : World} (h : OrdPostN sp p w r w') : OrdPost sp p w r w' := by
  obtain ⟨h1, h2⟩ := h
  unfold OrdPost
  cases e : orderM p with
  | error x => rw [e] at h2; exact ⟨h1, h2⟩
  | ok l => rw [e] at h2; obtain ⟨v, h3, h4⟩ := h2; exact ⟨h1, v, h3, IntsV.le (newKn_le _ _) h4⟩
structure SortS (w wx : World) (g : List (List Nat)) (D f j : Nat) (u : Value) (out : List Nat) (dn : Array Value) : Prop where
  below : Below w.heap.size w wx
  size : D + 2 ≤ wx.heap.size
  left : j + f = g.length
  len : out.length = j
  row : wx.ownsRow (D + 2) 3 1 u j (out.map natV)
  blk : wx.heap[D]? = some (.cells dn 4 (0, 0))
  dsz : dn.size = g.length
  val : ∀ x, x < g.length → dn[x]? = some (.bool (out.contains x))
  cell : wx.cell? ⟨D + 1, 0, none⟩ = some (.slice (some ⟨D, 0, none⟩) g.length g.length)
theorem sums_le (at_ : Env Nat) : ∀ l : List Fl, ((l.map fun f => needs at_ f.e).map fun x => x.length + 1).sum ≤ Ex.partsL (l.map (·.e)) + l.length
  | [] => by simp
  | f :: l => by
    have h1 := needs_len at_ f.e
    have h2 := sums_le at_ l
    simp only [List.map_cons, List.sum_cons, Ex.partsL, List.length_cons] at h2 ⊢
    omega
theorem fuel_le {p : Pr} (h : Ex.partsL p.terms ≤ 4000) (h2 : p.fl.length ≤ 400) : cycFuel p.graph ≤ 10000 := by
  have h1 := sums_le p.atOf p.fl
  have h3 : Ex.partsL (p.fl.map (·.e)) ≤ 4000 := by
    unfold Pr.terms at h
    rw [List.append_assoc, partsL_append] at h
    omega
  unfold cycFuel Pr.graph
  omega
set_option maxHeartbeats 8000000 in
set_option maxRecDepth 100000 in
theorem order_new (H : Kn) (T : LevelsAt H) (sp : Nat → Addr) (p : Pr) (vi vo vl va vc : Value) (hp : PrP H p vi vo vl va vc) (w : World) (hH : H.In w) (S : Sen5 w sp)
    (hsz : p.ins.length ≤ 1000000 ∧ p.fl.length ≤ 1000000 ∧ p.outs.length ≤ 100000000000 ∧ p.as.length ≤ 1000000 ∧ p.cs.length ≤ 1000000) (hpt : Ex.partsL p.terms ≤ 1000000000)
    (hpick : checkFlat p = 0 → (∀ j, j < p.graph.length → cyc p.graph j = false) → ∀ j, j < p.graph.length → pick p.graph (sortN p.graph j []) < p.graph.length) :
    Calls Tryd.prog 57 #[.agg #[vi, vo, vl, va, vc]] w (OrdPostN sp p w) := by
  have HP := Lib.hid hp
  obtain ⟨h1, h2, h3, h4, h5⟩ := hp
  obtain ⟨ai, ci, rfl⟩ := h1.len
  obtain ⟨ao, co, rfl⟩ := h2.len
  obtain ⟨al, cl, rfl⟩ := h3.len
  obtain ⟨aa, ca, rfl⟩ := h4.len
  obtain ⟨ac, cc, rfl⟩ := h5.len
  clear h1 h2 h3 h4 h5
  have HPK := Lib.hid hpick
  clear hpick
  go_enter Tryd.func57, Tryd.ntmps57
  go_wp2_with fail
  have hb0 : Below w.heap.size w (w.alloc (.cells #[.slice ai p.ins.length ci, .slice ao p.outs.length co, .slice al p.fl.length cl, .slice aa p.as.length ca, .slice ac p.cs.length cc] 34)) := (Below.refl _ _).alloc (Nat.le_refl _) _
  refine (check_any H T sp p _ _ _ _ _ HP.out _ (hH.below hb0) (S.below hb0) hsz hpt).mono ?_
  rintro r w1 ⟨rfl, hb1⟩
  have HB1 := Lib.hid (hb0.trans (hb1.mono (by simp)))
  have hq : ∀ i, w1.cell? ⟨w.heap.size, i, none⟩ = (#[.slice ai p.ins.length ci, .slice ao p.outs.length co, .slice al p.fl.length cl, .slice aa p.as.length ca, .slice ac p.cs.length cc] : Array Value)[i]? := fun i => by rw [hb1.cell (p := ⟨w.heap.size, i, none⟩) (by simp), World.cell?_alloc_new]
  have q0 := hq 0
  have q1 := hq 1
  have q2 := hq 2
  have q3 := hq 3
  have q4 := hq 4
  simp at q0 q1 q2 q3 q4
  have hz1 : w.heap.size < w1.heap.size := by have := hb1.size; simp at this; omega
  clear hq hb0 hb1
  cases hck : checkFlat p with
  | succ c =>
    have HX := Lib.hid (show orderM p = .error (c + 1, -1) from by unfold orderM; rw [hck]; rfl)
    rw [errV_succ]
    clear hck
    go_wp2_with fail
    go_ret2
    unfold OrdPostN
    rw [HX.out]
    exact ⟨HB1.out, _, rfl, .inl ⟨rfl, rfl⟩⟩
  | zero =>
    obtain ⟨ks, _, _, hfm, hfl, hpp, _, _⟩ := check_zero hck
    have HPK2 := Lib.hid (HPK.out hck)
    have HOM := Lib.hid (show orderM p = (match (List.range p.graph.length).find? (cyc p.graph) with | some i => .error (6, (i : Int)) | .none => .ok (sortN p.graph p.graph.length [])) from by unfold orderM; rw [hck]; rfl)
    have HFM := Lib.hid (show ∀ f ∈ p.fl, formAll ks f.e = true ∧ f.e.parts ≤ 100000 from fun f hf => by
      obtain ⟨i, hi, he⟩ := List.mem_iff_getElem.1 (terms_fl p hf)
      exact ⟨by rw [← he]; exact (formAllL_get ks _).1 hfm i hi, by have := parts_mem (terms_fl p hf); omega⟩)
    have HFU := Lib.hid (fuel_le hpp hfl)
    have hgl := graph_len p
    have HLOW := Lib.hid (graph_low p)
    rw [errV_zero]
    clear hck HPK hfm
    go_wp2_with fail
    refine (graph_any H p _ _ _ _ _ HP.out ks HFM.out (by omega) w1 (hH.below HB1.out)).mono ?_
    rintro r w2 ⟨v, rfl, hg, hb2⟩
    have HB2 := Lib.hid (HB1.out.trans (hb2.mono (by omega)))
    obtain ⟨ag, cg, rfl⟩ := hg.len
    have HG := Lib.hid hg
    have hn : p.graph.length ≤ 400 := by omega
    clear hg hb2 q0 q1 q2 q3 q4 hgl
    generalize p.graph = g at *
    go_wp2_with fail
    go_loopw [19] (fun i wr => ∃ k : Nat, i = .int .i64 k ∧ k ≤ g.length ∧ Below w2.heap.size w2 wr ∧ (∀ j, j < k → cyc g j = false)) (fun i _ => g.length - (intOf i).toNat)
    case atStart => exact ⟨0, rfl, Nat.zero_le _, Below.refl _ _, fun j h => by omega⟩
    case round =>
      obtain ⟨k, rfl, hk, hb, hno⟩ := hrel
      have HB := Lib.hid hb
      have HNO := Lib.hid hno
      have hbw := Lib.hid (HB2.out.trans (hb.mono HB2.out.size))
      clear hb hno
      by_cases hkl : k < g.length
      · go_wp2_with fail
        refine (cyc_any (allKn w2) g _ HG.out k hkl HLOW.out (by omega) (by have := HFU.out; omega) wr (allKn_below HB.out)).mono ?_
        rintro r w3 ⟨rfl, hb3⟩
        have HB3 := Lib.hid (HB.out.trans (hb3.mono HB.out.size))
        have HW3 := Lib.hid (hbw.out.trans (hb3.mono hbw.out.size))
        have c5 := (S.below HW3.out).c5
        clear hb3
        cases hcy : cyc g k
        · have HX := Lib.hid (show ∀ j, j < k + 1 → cyc g j = false from fun j hj => by
            by_cases h : j < k
            · exact HNO.out j h
            · obtain rfl : j = k := by omega
              exact hcy)
          clear hcy
          go_wp2_with fail
          go_roundw
          case rel => exact ⟨k + 1, by go_num, by omega, HB3.out, HX.out⟩
          case measure => simp [intOf]; omega
        · have HX := Lib.hid (show orderM p = .error (6, (k : Int)) from by
            rw [HOM.out]
            have : (List.range g.length).find? (cyc g) = some k := by
              rw [List.find?_range_eq_some]
              exact ⟨hcy, List.mem_range.2 hkl, fun j hj => by simp [HNO.out j hj]⟩
            rw [this])
          clear hcy
          go_wp2_with fail
          go_region
          all_goals go_wp2_with fail
          all_goals go_ret2
          all_goals unfold OrdPostN
          all_goals rw [HX.out]
          all_goals exact ⟨by first | exact (HW3.out.alloc HW3.out.size _).drew | exact (HW3.out.drew).alloc HW3.out.size _ | exact ((HW3.out.drew).alloc HW3.out.size _).drew | exact HW3.out.alloc HW3.out.size _, _, rfl, .inr ⟨by omega, w3.heap.size, rfl, heap_alloc_new _ _⟩⟩
      · obtain rfl : k = g.length := by omega
        have hmk := run_make_row' (P := Tryd.prog) 114 4 (.bool false) 1 Tryd.underlying114 Tryd.infoBool rfl .i64 .i64 g.length (by omega) (by omega)
        have HPICK := Lib.hid (HPK2.out HNO.out)
        have HOK := Lib.hid (show orderM p = .ok (sortN g g.length []) from by
          rw [HOM.out]
          have : (List.range g.length).find? (cyc g) = none := by
            rw [List.find?_eq_none]
            intro x hx
            simp [HNO.out x (List.mem_range.1 hx)]
          rw [this])
        go_wp2_with fail
        have hS0 : SortS w2 ((wr.alloc (.cells (madeCells #[.bool false] g.length) 4)).alloc (.cells #[.slice (some ⟨wr.heap.size, 0, none⟩) g.length g.length] 114)) g wr.heap.size g.length 0 (.slice none 0 0) [] (madeCells #[.bool false] g.length) := by
          refine ⟨(HB.out.alloc HB.out.size _).alloc (by have := HB.out.size; simp; omega) _, by simp, by omega, rfl, World.ownsRow_nil _ _ _ _, ?_, madeB_size _, fun x hx => by rw [madeB_get _ x hx]; simp, by simp⟩
          rw [Below.heap_alloc _ _ _ (by simp)]; exact heap_alloc_new _ _
        have hDge := HB.out.size
        generalize (wr.alloc (.cells (madeCells #[.bool false] g.length) 4)).alloc (.cells #[.slice (some ⟨wr.heap.size, 0, none⟩) g.length g.length] 114) = W1 at *
        generalize wr.heap.size = D at *
        have HS0 := Lib.hid hS0
        clear hS0 hmk HNO HPK2 HOM HB hbw
        go_loopg [8, 9] (g.length) (fun f u8 u9 wx => ∃ j dn, SortS w2 wx g D f j u8 (sortN g j []) dn)
        case atStart => exact ⟨0, _, HS0.out⟩
        case round =>
          obtain ⟨j, dn, hS⟩ := hrel
          have HS := Lib.hid hS
          have hleft := hS.left
          obtain ⟨ra, rc, rfl, hrc, hjc⟩ := own_len hS.row
          have hsz0 := hS.size
          clear hS
          by_cases hjn : j < g.length
          · have hpk := HPICK.out j hjn
            have HSUC := Lib.hid (sortN_out g j [])
            generalize hout : sortN g j [] = out at *
            have HFREE := Lib.hid (pick_free hpk)
            have HFST := Lib.hid (fun k (h : k < pick g out) => pick_first h (show k < g.length by omega))
            have hgp : 1 ≤ gk := by omega
            have HOUT := Lib.hid hout
            clear hout
            generalize hpp : pick g out = pk at *
            have HPP := Lib.hid hpp
            clear hpp
            go_wp2_with fail
            go_loop [9] (fun i => ∃ k : Nat, i = .int .i64 k ∧ k ≤ pk) (fun i => pk - (intOf i).toNat)
            case atStart => exact ⟨0, rfl, Nat.zero_le _⟩
            case round =>
              obtain ⟨k, rfl, hkp⟩ := hrel
              have hkn : k < g.length := by omega
              have hkI : (k : Int) < g.length := by omega
              have hD := HS.out.blk
              have hdv := HS.out.val k hkn
              have hdc : wr.cell? ⟨D, k, none⟩ = some (.bool (out.contains k)) := by simp [World.cell?, hD, hdv]
              have hfd : wr.frozen? ⟨D, k, none⟩ = false := by simp [World.frozen?, hD]
              have hDc := HS.out.cell
              obtain ⟨bg, og, rfl, _, ug, e0, hug⟩ := SlV.at HG.out hkn
              have e0 : (allKn w2).cell bg (og + k * 1 + 0) = some ug := e0
              simp only [Nat.mul_one, Nat.add_zero] at e0
              have e0 := (allKn_below HS.out.below).cell e0
              obtain ⟨ugA, ugC, rfl⟩ := hug.len
              have hgk : g.getD k [] = g[k] := by simp [List.getD_eq_getElem?_getD, hkn]
              have hlowk := HLOW.out g[k] (List.getElem_mem hkn)
              have HPRED := Lib.hid (order1_pred (D + 1) D g.length out g[k] dn wr hDc hD HS.out.val hlowk (by omega))
              have HUG := Lib.hid hug
              have hfree : freeB g out k = (!out.contains k && !(g[k].any fun x => !out.contains x)) := by
                unfold freeB
                rw [hgk]
                congr 1
                rw [List.all_eq_not_any_not]
              have HFRK := Lib.hid hfree
              have HBL := Lib.hid hD
              clear hug hgk hlowk hfree hdv hD
              have hany : ∃ q, (g[k].any fun x => !out.contains x) = q := ⟨_, rfl⟩
              obtain ⟨q, hq⟩ := hany
              rw [hq] at HFRK
              have HQ := Lib.hid hq
              clear hq
              obtain ⟨dk, hdk⟩ : ∃ d, out.contains k = d := ⟨_, rfl⟩
              rw [hdk] at HFRK hdc
              have HDK := Lib.hid hdk
              clear hdk
              generalize g[k] = gk' at *
              by_cases hkk : k = pk
              · have h1 := HFREE.out
                rw [← hkk, HFRK.out] at h1
                obtain ⟨rfl, rfl⟩ : dk = false ∧ q = false := by cases dk <;> cases q <;> simp at h1 ⊢
                have hrowne := own_ge HS.out.row (b := D) (by omega)
                have HS2 := Lib.hid (heap_setCell_same wr D k (.bool true) dn _ _ HBL.out)
                have HO2 := Lib.hid (own_setCell HS.out.row (a := ⟨D, k, none⟩) hrowne (.bool true))
                have hz2 : (wr.setCell ⟨D, k, none⟩ (.bool true)).heap.size = wr.heap.size := by simp [World.setCell]
                have HBW := Lib.hid (HS.out.below.setCell (p := ⟨D, k, none⟩) hDge (.bool true))
                have HKK := Lib.hid hkk
                clear h1 hkk
                have FIN := Lib.hid (show ∀ v' w3, w3.ownsRow (D + 2) 3 1 v' (j + 1) (out.map natV ++ [.int .i64 k]) → ((wr.setCell ⟨D, k, none⟩ (.bool true)).alloc (.cells #[.int .i64 k] 3)).grownBy w3 (Value.slice ra j rc).ownBlock → SortS w2 w3 g D (gk - 1) (j + 1) v' (sortN g (j + 1) []) (dn.setIfInBounds k (.bool true)) from fun v' w3 ho hg3 => by
                  have hs3 := hg3.size
                  simp only [World.size_alloc, hz2] at hs3
                  have hnD : some D ≠ (Value.slice ra j rc).ownBlock := Ne.symm hrowne
                  have hnC : some (D + 1) ≠ (Value.slice ra j rc).ownBlock := Ne.symm (own_ge HS.out.row (by omega))
                  rw [HSUC.out]
                  refine ⟨(HBW.out.alloc (by rw [hz2]; omega) _).grown hg3 (by simp; omega) (fun q hq => by have := (HS.out.row.lt q hq).1; omega), by omega, by omega, by rw [List.length_append, HS.out.len]; rfl, ?_, ?_, by simp [HS.out.dsz], fun x hx => ?_, ?_⟩
                  · rw [List.map_append, ← HKK.out]; exact ho
                  · rw [hg3.block D (by simp; omega) hnD, Below.heap_alloc _ _ _ (by rw [hz2]; omega)]; exact HS2.out
                  · rw [sc_set HS.out.val HS.out.dsz hkn x hx, ← HKK.out]
                    simp [Bool.or_comm]
                  · rw [hg3.cell_far ⟨D + 1, 0, none⟩ (by simp; omega) hnC, World.cell?_alloc_past _ _ _ (by rw [hz2]; omega), World.cell?_setCell_far _ _ _ _ (by simp)]; exact HS.out.cell)
                go_wp2_with fail
                refine (containsI_any _ _ (allKn w2) _ gk' _ wr HPRED.out HUG.out (allKn_below HS.out.below)).mono ?_
                rw [HQ.out]
                rintro r wz ⟨rfl, rfl⟩
                go_wp2_with (at_builtin; refine app1 83 3 1 8 _ Tryd.underlying83 Tryd.infoInt rfl (by decide) _ _ rfl rfl (D + 2) _ _ _ rfl (HO2.out.alloc _) ⟨wr.heap.size, 0, none⟩ 1 [.int .i64 k] rfl rfl ?c1 ?c2 ?c3 ?c4 ?c5 ?_)
                case c1 => rw [← hz2]; exact cells1 _ _ _
                case c2 => simp [Value.oneCell']
                case c3 => omega
                case c4 => omega
                case c5 => simp; omega
                intro v' w3 ho hg3
                have hS3 := FIN.out v' w3 ho hg3
                go_wp2_with fail
                go_roundg (gk - 1)
                case rel => exact ⟨_, _, hS3⟩
                case measure => omega
              · have h1 := HFST.out k (by omega)
                rw [HFRK.out] at h1
                rcases (show dk = true ∨ dk = false ∧ q = true from by cases dk <;> cases q <;> simp at h1 ⊢) with rfl | ⟨rfl, rfl⟩
                · clear h1
                  go_wp2_with fail
                  go_round
                  case rel => exact ⟨k + 1, by go_num, by omega⟩
                  case measure => simp [intOf]; omega
                · clear h1
                  go_wp2_with fail
                  refine (containsI_any _ _ (allKn w2) _ gk' _ wr HPRED.out HUG.out (allKn_below HS.out.below)).mono ?_
                  rw [HQ.out]
                  rintro r wz ⟨rfl, rfl⟩
                  go_wp2_with fail
                  go_round
                  case rel => exact ⟨k + 1, by go_num, by omega⟩
                  case measure => simp [intOf]; omega
          · obtain rfl : j = g.length := by omega
            have HV := Lib.hid (show IntsV (newKn w.heap.size wr) (sortN g g.length []) _ from slv_new (n := w.heap.size) (l := sortN g g.length []) (R := IntC) (by rw [HS.out.len]; exact HS.out.row) (by have := HB2.out.size; omega) fun i hi f hf => hf 0 _ (by rw [Nat.mul_one, Nat.add_zero, List.getElem?_map, List.getElem?_eq_getElem hi]; rfl))
            go_wp2_with fail
            go_ret2
            unfold OrdPostN
            rw [HOK.out]
            exact ⟨HB2.out.trans (HS.out.below.mono HB2.out.size), _, rfl, HV.out⟩
theorem order_any (H : Kn) (T : LevelsAt H) (sp : Nat → Addr) (p : Pr) (vi vo vl va vc : Value) (hp : PrP H p vi vo vl va vc) (w : World) (hH : H.In w) (S : Sen5 w sp)
    (hsz : p.ins.length ≤ 1000000 ∧ p.fl.length ≤ 1000000 ∧ p.outs.length ≤ 100000000000 ∧ p.as.length ≤ 1000000 ∧ p.cs.length ≤ 1000000) (hpt : Ex.partsL p.terms ≤ 1000000000)
    (hpick : checkFlat p = 0 → (∀ j, j < p.graph.length → cyc p.graph j = false) → ∀ j, j < p.graph.length → pick p.graph (sortN p.graph j []) < p.graph.length) :
    Calls Tryd.prog 57 #[.agg #[vi, vo, vl, va, vc]] w (OrdPost sp p w) :=
  (order_new H T sp p vi vo vl va vc hp w hH S hsz hpt hpick).mono fun _ _ h => h.old
end Go.Proofs.YthihoafemahgmaaDoor
