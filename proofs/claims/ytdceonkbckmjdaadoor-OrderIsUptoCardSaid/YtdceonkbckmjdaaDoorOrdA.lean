/- Walks: slices.IndexFunc, ContainsFunc at numbers; order.Order's closure; the sort, step by step. -/
import Derived.Test.YtdceonkbckmjdaaDoorCyc
import Derived.Test.YtdceonkbckmjdaaDoorMx
import Derived.Test.YtdceonkbckmjdaaDoorGr
namespace Go.Proofs.YtdceonkbckmjdaaDoor
open Go.RowKit Mx

def idxI (p : Nat → Bool) (l : List Nat) : Int := match l.findIdx? p with | some i => (i : Int) | none => -1
theorem idxI_found (p : Nat → Bool) (l : List Nat) (k : Nat) (hk : k < l.length) (hp : p l[k] = true) (hn : ∀ i (hi : i < l.length), i < k → p l[i] = false) : idxI p l = (k : Int) := by
  have : l.findIdx? p = some k := by
    rw [List.findIdx?_eq_some_iff_getElem]
    exact ⟨hk, hp, fun j hj => by simp [hn j (by omega) hj]⟩
  simp [idxI, this]
theorem idxI_none (p : Nat → Bool) (l : List Nat) (hn : ∀ i (hi : i < l.length), p l[i] = false) : idxI p l = -1 := by
  have : l.findIdx? p = none := by
    rw [List.findIdx?_eq_none_iff]
    intro x hx
    obtain ⟨i, hi, rfl⟩ := List.mem_iff_getElem.1 hx
    exact hn i hi
  simp [idxI, this]
theorem idxI_ge (p : Nat → Bool) (l : List Nat) : decide (0 ≤ idxI p l) = l.any p := by
  cases h : l.findIdx? p with
  | none =>
    rw [idxI, h]
    rw [List.findIdx?_eq_none_iff] at h
    have : l.any p = false := by simpa using h
    rw [this]; rfl
  | some i =>
    rw [idxI, h]
    rw [List.findIdx?_eq_some_iff_getElem] at h
    obtain ⟨hi, hp, _⟩ := h
    have : l.any p = true := List.any_eq_true.2 ⟨l[i], List.getElem_mem _, hp⟩
    rw [this]; simp
theorem idxI_lt (p : Nat → Bool) (l : List Nat) : -1 ≤ idxI p l ∧ idxI p l < (l.length : Int) + 1 := by
  unfold idxI
  cases h : l.findIdx? p with
  | none => simp; omega
  | some i =>
    rw [List.findIdx?_eq_some_iff_getElem] at h
    obtain ⟨hi, _⟩ := h
    simp; omega

/-- A function value on numbers that only reads. -/
def IntPred (k : Nat) (cap : Array Value) (p : Nat → Bool) (l : List Nat) (w : World) : Prop :=
  Enters Tryd.prog k ∧ ∀ x ∈ l, Calls Tryd.prog k (#[.int .i64 (x : Nat)] ++ cap) w fun r w' => r = .returned (.bool (p x)) ∧ w = w'

set_option maxHeartbeats 1000000 in
set_option maxRecDepth 100000 in
theorem idxI_any (k : Nat) (cap : Array Value) (H : Kn) (p : Nat → Bool) (l : List Nat) (v : Value) (w : World) (hp : IntPred k cap p l w) (hv : IntsV H l v) (hH : H.In w) :
    Calls Tryd.prog 85 #[v, .func (.func k) #[] cap] w fun r w' => r = .returned (.int .i64 (idxI p l)) ∧ w = w' := by
  obtain ⟨hen, hp⟩ := hp
  have HP := Lib.hid hp
  clear hp
  unfold Enters at hen
  obtain ⟨a, c, rfl⟩ := hv.len
  have HV := Lib.hid hv
  have hlt : l.length ≤ 9223372036854775807 := by
    rcases hv with ⟨rfl, _⟩ | ⟨_, _, c', _, h1, h2, _⟩
    · simp
    · unfold maxLen at h2; omega
  clear hv
  go_enter Tryd.func85, Tryd.ntmps85
  go_wp2_with fail
  go_loop [8] (fun i => ∃ k : Nat, i = .int .i64 k ∧ k ≤ l.length ∧ (∀ i (hi : i < l.length), i < k → p l[i] = false)) (fun i => l.length - (intOf i).toNat)
  case atStart => exact ⟨0, rfl, Nat.zero_le _, fun i _ h => by omega⟩
  case round =>
    obtain ⟨k', rfl, hk, hn⟩ := hrel
    have HN := Lib.hid hn
    clear hn
    by_cases hkl : k' < l.length
    · obtain ⟨b, off, rfl, _, c0⟩ := SlV.at HV.out hkl
      have c0 : H.cell b (off + k' * 1 + 0) = some (natV l[k']) := c0
      simp only [Nat.mul_one, Nat.add_zero] at c0
      have c0 := hH.cell c0
      have hmem := List.getElem_mem hkl
      cases he : p l[k']
      · have HE := Lib.hid he
        clear he
        have HX := Lib.hid fun i (hi : i < l.length) (hik : i < k' + 1) => (show p l[i] = false from by
          by_cases hik' : i < k'
          · exact HN.out i hi hik'
          · obtain rfl : i = k' := by omega
            exact HE.out)
        generalize l[k'] = x at *
        go_wp2_with (refine (HP.out x hmem).mono ?_; rintro r w2 ⟨rfl, rfl⟩; rw [HE.out])
        go_round
        case rel => exact ⟨k' + 1, by go_num, by omega, HX.out⟩
        case measure => simp [intOf]; omega
      · have HE := Lib.hid he
        clear he
        have HX := Lib.hid (idxI_found p l k' hkl HE.out fun i hi hik => HN.out i hi hik)
        generalize l[k'] = x at *
        go_wp2_with (refine (HP.out x hmem).mono ?_; rintro r w2 ⟨rfl, rfl⟩; rw [HE.out])
        go_ret
        exact ⟨ret_int HX.out.symm, rfl⟩
    · go_wp2_with fail
      go_ret
      exact ⟨ret_int (idxI_none _ _ fun i hi => HN.out i hi (by omega)).symm, rfl⟩
theorem containsI_any (k : Nat) (cap : Array Value) (H : Kn) (p : Nat → Bool) (l : List Nat) (v : Value) (w : World) (hp : IntPred k cap p l w) (hv : IntsV H l v) (hH : H.In w) :
    Calls Tryd.prog 56 #[v, .func (.func k) #[] cap] w fun r w' => r = .returned (.bool (l.any p)) ∧ w = w' := by
  have hb := idxI_lt p l
  have HD := Lib.hid (idxI_ge p l)
  go_enter Tryd.func56, Tryd.ntmps56
  go_wp2_with fail
  refine (idxI_any k cap H p l v _ hp hv hH).mono ?_
  rintro r w2 ⟨rfl, rfl⟩
  go_wp2_with fail
  go_ret
  exact ⟨ret_bool HD.out, rfl⟩

/-- The closure of order.Order: is a number not done yet? -/
theorem order1_pred (Dc D n : Nat) (out l : List Nat) (dn : Array Value) (w : World) (hc : w.cell? ⟨Dc, 0, none⟩ = some (.slice (some ⟨D, 0, none⟩) n n)) (hD : w.heap[D]? = some (.cells dn 4 (0, 0))) (hdn : ∀ x, x < n → dn[x]? = some (.bool (out.contains x))) (hl : ∀ x ∈ l, x < n) (hn : n ≤ 1000000) :
    IntPred 57 #[.pointer (some ⟨Dc, 0, none⟩)] (fun x => !out.contains x) l w := by
  refine ⟨fun _ _ => by kernel_rfl, fun x hx => ?_⟩
  have hxn := hl x hx
  have hxI : (x : Int) < n := by omega
  have hd : w.cell? ⟨D, x, none⟩ = some (.bool (out.contains x)) := by simp [World.cell?, hD, hdn x hxn]
  obtain ⟨q, hq⟩ : ∃ q, out.contains x = q := ⟨_, rfl⟩
  rw [hq] at hd
  have HQ := Lib.hid hq
  clear hq
  show Calls Tryd.prog 57 #[.int .i64 (x : Nat), .pointer (some ⟨Dc, 0, none⟩)] w _
  clear hdn hl hx hD
  go_enter Tryd.func57, Tryd.ntmps57
  go_wp2_with fail
  go_ret
  exact ⟨ret_bool (by rw [HQ.out]), rfl⟩

theorem sortN_out (g : List (List Nat)) : ∀ (f : Nat) (out : List Nat), sortN g (f + 1) out = sortN g f out ++ [pick g (sortN g f out)]
  | 0, out => rfl
  | f + 1, out => by
    show sortN g (f + 1) (out ++ [pick g out]) = _
    rw [sortN_out g f (out ++ [pick g out])]
    rfl
theorem sortN_len (g : List (List Nat)) : ∀ (f : Nat) (out : List Nat), (sortN g f out).length = out.length + f
  | 0, out => rfl
  | f + 1, out => by
    show (sortN g f (out ++ [pick g out])).length = _
    rw [sortN_len g f]
    simp; omega
/-- Is a flow free? -/
def freeB (g : List (List Nat)) (out : List Nat) (k : Nat) : Bool := !out.contains k && (g.getD k []).all out.contains
theorem pick_free {g : List (List Nat)} {out : List Nat} (h : pick g out < g.length) : freeB g out (pick g out) = true := by
  unfold pick at h ⊢
  have hz : (g.zipIdx.findIdx fun x => !out.contains x.2 && x.1.all out.contains) < g.zipIdx.length := by simpa using h
  have := List.findIdx_getElem (w := hz)
  simp only [List.getElem_zipIdx, Nat.zero_add] at this
  unfold freeB
  rw [List.getD_eq_getElem?_getD, List.getElem?_eq_getElem h]
  exact this
theorem pick_first {g : List (List Nat)} {out : List Nat} {k : Nat} (h : k < pick g out) (hk : k < g.length) : freeB g out k = false := by
  unfold pick at h
  have := List.not_of_lt_findIdx h
  simp only [List.getElem_zipIdx, Nat.zero_add] at this
  unfold freeB
  rw [List.getD_eq_getElem?_getD, List.getElem?_eq_getElem hk]
  simpa using this
end Go.Proofs.YtdceonkbckmjdaaDoor
/- What a right flat program's graph is like: no program in sight. -/
namespace Go.Proofs.YtdceonkbckmjdaaDoor.Mx

theorem check_zero {p : Pr} (h : checkFlat p = 0) : ∃ ks, freshGo Env.none p.vars = some ks ∧ outsGo (p.fl.map (·.name)) [] p.outs = true ∧ formAllL ks p.terms = true ∧ p.fl.length ≤ 400 ∧ Ex.partsL p.terms ≤ 4000 ∧ p.ins.length ≤ 30 ∧ kindsGo ks (p.fl.map (·.kind)) p.terms = true := by
  unfold checkFlat at h
  split at h
  · cases h
  · rename_i ks hks
    refine ⟨ks, hks, ?_⟩
    split at h
    · cases h
    · rename_i h1
      split at h
      · cases h
      · rename_i h2
        split at h
        · cases h
        · rename_i h3
          split at h
          · cases h
          · rename_i h4
            simp only [Bool.not_eq_true', Bool.not_eq_false] at h1 h2 h4
            exact ⟨h1, h2, by omega, by omega, by omega, h4⟩
theorem partsL_append : ∀ (l m : List Ex), Ex.partsL (l ++ m) = Ex.partsL l + Ex.partsL m
  | [], m => by simp [Ex.partsL]
  | e :: l, m => by
    simp only [List.cons_append, Ex.partsL, partsL_append l m]; omega
theorem terms_fl (p : Pr) {f : Fl} (h : f ∈ p.fl) : f.e ∈ p.terms := by
  simp only [Pr.terms, List.mem_append]
  exact .inl (.inl (List.mem_map.2 ⟨f, h, rfl⟩))
theorem atFrom_lt : ∀ (l : List Fl) (i : Nat) (m : Env Nat) (N : Nat), i + l.length ≤ N → (∀ s k, m s = some k → k < N) → ∀ s k, atFrom i m l s = some k → k < N
  | [], _, _, _, _, hm, s, k, h => hm s k h
  | f :: l, i, m, N, hN, hm, s, k, h => by
    simp only [List.length_cons] at hN
    refine atFrom_lt l (i + 1) _ N (by omega) (fun s' k' h' => ?_) s k h
    unfold Env.set at h'
    split at h'
    · cases h'; omega
    · exact hm s' k' h'
mutual
theorem needs_at (at_ : Env Nat) (N : Nat) (h : ∀ s k, at_ s = some k → k < N) : ∀ e : Ex, ∀ k ∈ needs at_ e, k < N
  | .mk o n s l, k, hk => by
    simp only [needs] at hk
    split at hk
    · cases hk
    · split at hk
      · exact needsH_at at_ N h l k hk
      · rcases List.mem_append.1 hk with hk | hk
        · split at hk
          · cases hq : at_ s with
            | none => rw [hq] at hk; cases hk
            | some j => rw [hq] at hk; simp at hk; rw [hk]; exact h s j hq
          · cases hk
        · exact needsL_at at_ N h l k hk
theorem needsL_at (at_ : Env Nat) (N : Nat) (h : ∀ s k, at_ s = some k → k < N) : ∀ l : List Ex, ∀ k ∈ needsL at_ l, k < N
  | [], k, hk => by simp [needsL] at hk
  | e :: l, k, hk => by
    simp only [needsL] at hk
    rcases List.mem_append.1 hk with hk | hk
    · exact needs_at at_ N h e k hk
    · exact needsL_at at_ N h l k hk
theorem needsH_at (at_ : Env Nat) (N : Nat) (h : ∀ s k, at_ s = some k → k < N) : ∀ l : List Ex, ∀ k ∈ needsH at_ l, k < N
  | [], k, hk => by simp [needsH] at hk
  | e :: l, k, hk => by
    simp only [needsH] at hk
    exact needs_at at_ N h e k hk
end
theorem graph_len (p : Pr) : p.graph.length = p.fl.length := by simp [Pr.graph]
theorem graph_low (p : Pr) : ∀ l ∈ p.graph, ∀ k ∈ l, k < p.graph.length := by
  intro l hl k hk
  obtain ⟨f, _, rfl⟩ := List.mem_map.1 hl
  rw [graph_len]
  exact needs_at _ _ (atFrom_lt p.fl 0 Env.none p.fl.length (by omega) (fun s k h => by cases h)) f.e k hk
end Go.Proofs.YtdceonkbckmjdaaDoor.Mx
