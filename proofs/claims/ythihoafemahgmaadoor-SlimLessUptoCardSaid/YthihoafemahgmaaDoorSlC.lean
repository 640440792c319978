/- Walks: slices.Clone of strings, of variables. -/
import Derived.Test.YthihoafemahgmaaDoorSlB
import Derived.Test.YthihoafemahgmaaDoorEof
import Derived.Test.YthihoafemahgmaaDoorRw
namespace Go.Proofs.YthihoafemahgmaaDoor
open Go.RowKit Mx
theorem sl_news {α : Type} {K : Kn} {W : World} (hK : K.In W) {k : Nat} (hk : 0 < k) {R : α → (Nat → Option Value) → Prop} {F : α → List Value} (hF : ∀ x, (F x).length = k) (hR : ∀ x f, R x f → ∀ j u, (F x)[j]? = some u → f j = some u) {l : List α} {b off c : Nat}
    (h : SlV K k R l (.slice (some ⟨b, off, none⟩) l.length c)) : ∀ j u, (l.flatMap F)[j]? = some u → W.cell? ((⟨b, off, none⟩ : Addr).add j) = some u := fun j u hu => by
  rw [addr_add']
  have hlen : ∀ l : List α, (l.flatMap F).length = l.length * k := fun l => by
    induction l with
    | nil => simp
    | cons x l ih => rw [List.flatMap_cons, List.length_append, ih, hF, List.length_cons, Nat.succ_mul]; omega
  have hj : j < l.length * k := by
    rcases Nat.lt_or_ge j (l.length * k) with h1 | h1
    · exact h1
    · rw [List.getElem?_eq_none (by rw [hlen]; exact h1)] at hu; cases hu
  have hi : j / k < l.length := Nat.div_lt_of_lt_mul (by rw [Nat.mul_comm]; exact hj)
  have hr : j % k < k := Nat.mod_lt _ hk
  obtain ⟨b2, off2, e2, d0⟩ := SlV.at h hi
  cases e2
  have hg := flat_get k F hF l (j / k) hi (j % k) hr
  have hjj : j / k * k + j % k = j := Nat.div_add_mod' j k
  rw [hjj] at hg
  have := hR _ _ d0.2 (j % k) u (by rw [← hg]; exact hu)
  have h2 : K.cell b (off + j / k * k + j % k) = some u := this
  rw [show off + j / k * k + j % k = off + j from by rw [Nat.add_assoc, hjj]] at h2
  exact hK.cell h2
theorem fm_one : ∀ l : List ByteArray, l.flatMap (fun s => [Value.string s]) = l.map .string
  | [] => rfl
  | x :: l => by rw [List.flatMap_cons, fm_one l]; rfl
theorem run_appS {K : Kn} {W : World} (hK : K.In W) {l : List ByteArray} {a : Option Addr} {c : Nat} (h : StrsV K l (.slice a l.length c)) {base n : Nat} {v : Value} {xs : List Value} (hown : W.ownsRow base 9 1 v n xs) (hbase : base ≤ W.heap.size) (hl : n + l.length ≤ 1000000000) :
    ∃ v' W', (∀ ty, (Builtin.append_ #[23, 23] ty #[v, .slice a l.length c]).run Tryd.prog W = .ok v' W') ∧ W'.ownsRow base 9 1 v' (n + l.length) (xs ++ l.map .string) ∧ W.grownBy W' v.ownBlock := by
  obtain ⟨i1, hi1, hy0, hy1, hy2⟩ := info_parts Tryd.infoStr1
  by_cases h0 : l = []
  · subst h0
    exact ⟨v, W, fun ty => run_append_empty 23 9 i1 Tryd.underlying23 hi1 hown a c ty, by simpa using hown, ⟨rfl, rfl, rfl, Nat.le_refl _, fun _ _ _ => rfl⟩⟩
  · have hlen : 0 < l.length := List.length_pos_iff.2 h0
    obtain ⟨b, off, he, _⟩ := SlV.at h hlen
    subst he
    have hrun := fun ty => run_append_lies (P := Tryd.prog) W 23 ty base 9 i1 _ 1 16 Tryd.underlying23 hi1 hy0 hy1 hy2 rfl (by omega) v n xs hown ⟨b, off, none⟩ l.length c (l.map .string) (by simp)
      (by have h2 := sl_news hK (k := 1) (by omega) (F := fun s => [.string s]) (fun _ => rfl) (fun x f hx j u hu => by
            cases j with
            | zero => simp at hu; rw [← hu]; exact hx
            | succ j => simp at hu) h
          rw [fm_one] at h2
          exact h2)
      (fun u hu => by obtain ⟨x, _, rfl⟩ := List.mem_map.1 hu; rfl) hlen (by unfold maxLen; omega) (by omega) hbase _ rfl
    obtain ⟨g, cap', W', h1, h2, h3, h4, h5⟩ := hrun 0
    exact ⟨_, W', fun ty => h1, h2, h3⟩
def vrX (l : List Vr) : List Value := l.flatMap fun v => [.string v.name, .int .i64 v.kind]
theorem vrX_len (l : List Vr) : (vrX l).length = l.length * 2 := by
  unfold vrX
  induction l with
  | nil => rfl
  | cons x l ih => rw [List.flatMap_cons, List.length_append, ih]; simp; omega
theorem run_appR {K : Kn} {W : World} (hK : K.In W) {l : List Vr} {a : Option Addr} {c : Nat} (h : VrsV K l (.slice a l.length c)) {base n : Nat} {v : Value} {xs : List Value} (hown : W.ownsRow base 78 2 v n xs) (hbase : base ≤ W.heap.size) (hl : n + l.length ≤ 1000000000) :
    ∃ v' W', (∀ ty, (Builtin.append_ #[30, 30] ty #[v, .slice a l.length c]).run Tryd.prog W = .ok v' W') ∧ W'.ownsRow base 78 2 v' (n + l.length) (xs ++ vrX l) ∧ W.grownBy W' v.ownBlock := by
  obtain ⟨i1, hi1, hy0, hy1, hy2⟩ := info_parts Tryd.infoVr
  by_cases h0 : l = []
  · subst h0
    exact ⟨v, W, fun ty => run_append_empty 30 78 i1 Tryd.underlying30 hi1 hown a c ty, by simpa [vrX] using hown, ⟨rfl, rfl, rfl, Nat.le_refl _, fun _ _ _ => rfl⟩⟩
  · have hlen : 0 < l.length := List.length_pos_iff.2 h0
    obtain ⟨b, off, he, _⟩ := SlV.at h hlen
    subst he
    have hrun := fun ty => run_append_lies (P := Tryd.prog) W 30 ty base 78 i1 _ 2 24 Tryd.underlying30 hi1 hy0 hy1 hy2 rfl (by omega) v n xs hown ⟨b, off, none⟩ l.length c (vrX l) (vrX_len l)
      (sl_news hK (k := 2) (by omega) (F := fun v : Vr => [.string v.name, .int .i64 v.kind]) (fun _ => rfl) (fun x f hx j u hu => by
            rcases j with _ | _ | j
            · simp at hu; rw [← hu]; exact hx.1
            · simp at hu; rw [← hu]; exact hx.2
            · simp at hu) h)
      (fun u hu => by
        obtain ⟨x, _, hx⟩ := List.mem_flatMap.1 hu
        simp only [List.mem_cons, List.not_mem_nil, or_false] at hx
        rcases hx with rfl | rfl <;> rfl) hlen (by unfold maxLen; omega) (by omega) hbase _ rfl
    obtain ⟨g, cap', W', h1, h2, h3, h4, h5⟩ := hrun 0
    exact ⟨_, W', fun ty => h1, h2, h3⟩
set_option maxHeartbeats 4000000 in
set_option maxRecDepth 100000 in
theorem cloneS_any (H : Kn) (l : List ByteArray) (v : Value) (hv : StrsV H l v) (hl : l.length ≤ 1000000000) (w : World) (hH : H.In w) :
    Calls Tryd.prog 16 #[v] w fun r w' => ∃ v', r = .returned v' ∧ w'.ownsRow w.heap.size 9 1 v' l.length (l.map .string) ∧ Below w.heap.size w w' := by
  have hrow0 : (w.alloc (.cells #[] 9)).ownsRow w.heap.size 9 1 (.slice (some ⟨w.heap.size, 0, none⟩) 0 0) 0 [] := World.ownsRow_made w #[] 0 (Nat.le_refl _) (Nat.zero_le _) rfl
  obtain ⟨a, c, rfl⟩ := hv.len
  have hb0 : Below w.heap.size w (w.alloc (.cells #[] 9)) := (Below.refl _ _).alloc (Nat.le_refl _) _
  obtain ⟨v', W', hrun, hown, hg⟩ := run_appS (hH.below hb0) hv hrow0 (by simp) (by omega)
  have HB := Lib.hid (show Below w.heap.size w W' from hb0.grown hg (by simp) (fun q hq => (hrow0.lt q hq).1))
  have HV := Lib.hid (show W'.ownsRow w.heap.size 9 1 v' l.length (l.map .string) from by simpa using hown)
  have HRUN := Lib.hid hrun
  have h0 : a = none → l = [] := fun e => by
    subst e
    rcases hv with ⟨h, _⟩ | ⟨b, off, cap, h, _⟩
    · exact h
    · cases h
  have HE := Lib.hid h0
  clear hv hrow0 hb0 hrun hown hg h0
  cases a with
  | none =>
    have hl0 := HE.out rfl
    subst hl0
    have he := fun w => Lib.run_eql_slice_nil (P := Tryd.prog) w 23 9 none 0 c 0 0 Tryd.underlying23
    go_enter Tryd.func16, Tryd.ntmps16
    go_wp2_with fail
    go_ret
    exact ⟨_, rfl, World.ownsRow_nil _ _ _ _, Below.refl _ _⟩
  | some ad =>
    have he := fun w => Lib.run_eql_slice_nil (P := Tryd.prog) w 23 9 (some ad) l.length c 0 0 Tryd.underlying23
    go_enter Tryd.func16, Tryd.ntmps16
    go_wp2_with (at_builtin; refine wp_append_run rfl 23 23 _ _ rfl _ _ rfl rfl _ _ HRUN.out ?_)
    go_ret
    exact ⟨_, rfl, HV.out, HB.out⟩
set_option maxHeartbeats 4000000 in
set_option maxRecDepth 100000 in
theorem cloneR_any (H : Kn) (l : List Vr) (v : Value) (hv : VrsV H l v) (hl : l.length ≤ 1000000000) (w : World) (hH : H.In w) :
    Calls Tryd.prog 48 #[v] w fun r w' => ∃ v', r = .returned v' ∧ w'.ownsRow w.heap.size 78 2 v' l.length (vrX l) ∧ Below w.heap.size w w' := by
  have hrow0 : (w.alloc (.cells #[] 78)).ownsRow w.heap.size 78 2 (.slice (some ⟨w.heap.size, 0, none⟩) 0 0) 0 [] := World.ownsRow_made w #[] 0 (Nat.le_refl _) (Nat.zero_le _) rfl
  obtain ⟨a, c, rfl⟩ := hv.len
  have hb0 : Below w.heap.size w (w.alloc (.cells #[] 78)) := (Below.refl _ _).alloc (Nat.le_refl _) _
  obtain ⟨v', W', hrun, hown, hg⟩ := run_appR (hH.below hb0) hv hrow0 (by simp) (by omega)
  have HB := Lib.hid (show Below w.heap.size w W' from hb0.grown hg (by simp) (fun q hq => (hrow0.lt q hq).1))
  have HV := Lib.hid (show W'.ownsRow w.heap.size 78 2 v' l.length (vrX l) from by simpa using hown)
  have HRUN := Lib.hid hrun
  have h0 : a = none → l = [] := fun e => by
    subst e
    rcases hv with ⟨h, _⟩ | ⟨b, off, cap, h, _⟩
    · exact h
    · cases h
  have HE := Lib.hid h0
  clear hv hrow0 hb0 hrun hown hg h0
  cases a with
  | none =>
    have hl0 := HE.out rfl
    subst hl0
    have he := fun w => Lib.run_eql_slice_nil (P := Tryd.prog) w 30 78 none 0 c 0 0 Tryd.underlying30
    go_enter Tryd.func48, Tryd.ntmps48
    go_wp2_with fail
    go_ret
    exact ⟨_, rfl, World.ownsRow_nil _ _ _ _, Below.refl _ _⟩
  | some ad =>
    have he := fun w => Lib.run_eql_slice_nil (P := Tryd.prog) w 30 78 (some ad) l.length c 0 0 Tryd.underlying30
    go_enter Tryd.func48, Tryd.ntmps48
    go_wp2_with (at_builtin; refine wp_append_run rfl 30 30 _ _ rfl _ _ rfl rfl _ _ HRUN.out ?_)
    go_ret
    exact ⟨_, rfl, HV.out, HB.out⟩
end Go.Proofs.YthihoafemahgmaaDoor
