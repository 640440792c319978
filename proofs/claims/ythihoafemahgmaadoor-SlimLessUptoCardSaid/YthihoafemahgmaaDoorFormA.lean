/- Walks: slices.IndexFunc, ContainsFunc at terms; flat.form. -/
import Derived.Test.YthihoafemahgmaaDoorArity
import Derived.Test.YthihoafemahgmaaDoorMap
namespace Go.Proofs.YthihoafemahgmaaDoor
open Go.RowKit Mx
def idxE (p : Ex → Bool) (l : List Ex) : Int := match l.findIdx? p with | some i => (i : Int) | none => -1
theorem idxE_found (p : Ex → Bool) (l : List Ex) (k : Nat) (hk : k < l.length) (hp : p l[k] = true) (hn : ∀ i (hi : i < l.length), i < k → p l[i] = false) : idxE p l = (k : Int) := by
  have : l.findIdx? p = some k := by
    rw [List.findIdx?_eq_some_iff_getElem]
    exact ⟨hk, hp, fun j hj => by simp [hn j (by omega) hj]⟩
  simp [idxE, this]
theorem idxE_none (p : Ex → Bool) (l : List Ex) (hn : ∀ i (hi : i < l.length), p l[i] = false) : idxE p l = -1 := by
  have : l.findIdx? p = none := by
    rw [List.findIdx?_eq_none_iff]
    intro x hx
    obtain ⟨i, hi, rfl⟩ := List.mem_iff_getElem.1 hx
    exact hn i hi
  simp [idxE, this]
theorem idxE_ge (p : Ex → Bool) (l : List Ex) : decide (0 ≤ idxE p l) = l.any p := by
  cases h : l.findIdx? p with
  | none =>
    rw [idxE, h]
    rw [List.findIdx?_eq_none_iff] at h
    have : l.any p = false := by simpa using h
    rw [this]; rfl
  | some i =>
    rw [idxE, h]
    rw [List.findIdx?_eq_some_iff_getElem] at h
    obtain ⟨hi, hp, _⟩ := h
    have : l.any p = true := List.any_eq_true.2 ⟨l[i], List.getElem_mem _, hp⟩
    rw [this]; simp
def ExPred (k : Nat) (cap : Array Value) (I : World → Prop) (H : Kn) (p : Ex → Bool) (l : List Ex) : Prop :=
  Enters Tryd.prog k ∧ (∀ w w', I w → Below w.heap.size w w' → I w') ∧ ∀ e ∈ l, ∀ v, ExV H e v → ∀ w, I w → Calls Tryd.prog k (#[v] ++ cap) w fun r w' => r = .returned (.bool (p e)) ∧ Below w.heap.size w w'
set_option maxHeartbeats 1000000 in
set_option maxRecDepth 100000 in
theorem idxE_any (k : Nat) (cap : Array Value) (I : World → Prop) (H : Kn) (p : Ex → Bool) (l : List Ex) (v : Value) (hp : ExPred k cap I H p l) (hv : ExsV H l v) (w : World) (hH : H.In w) (hI : I w) :
    Calls Tryd.prog 58 #[v, .func (.func k) #[] cap] w fun r w' => r = .returned (.int .i64 (idxE p l)) ∧ Below w.heap.size w w' := by
  obtain ⟨hen, hst, hp⟩ := hp
  have HP := Lib.hid hp
  have HS := Lib.hid hst
  have HI := Lib.hid hI
  clear hp hst hI
  unfold Enters at hen
  by_cases hne : l = []
  · subst hne
    obtain ⟨a, c, rfl⟩ := hv.len
    clear hv
    go_enter Tryd.func58, Tryd.ntmps58
    go_wp2_with fail
    go_rounds 1
    all_goals go_ret
    exact ⟨rfl, Below.refl _ _⟩
  · obtain ⟨b, off, c, rfl, h1, h2, hc⟩ := hv.cell hne
    have HC := Lib.hid hc
    clear hc hv
    have hlt : l.length ≤ 9223372036854775807 := by unfold maxLen at h2; omega
    go_enter Tryd.func58, Tryd.ntmps58
    go_wp2_with fail
    go_loopw [8] (fun i wr => ∃ k : Nat, i = .int .i64 k ∧ k ≤ l.length ∧ Below w.heap.size w wr ∧ I wr ∧ (∀ i (hi : i < l.length), i < k → p l[i] = false)) (fun i _ => l.length - (intOf i).toNat)
    case atStart => exact ⟨0, rfl, Nat.zero_le _, Below.refl _ _, HI.out, fun i _ h => by omega⟩
    case round =>
      obtain ⟨k', rfl, hk, hb, hI, hn⟩ := hrel
      have HI := Lib.hid hI
      have HN := Lib.hid hn
      clear hI hn
      by_cases hkl : k' < l.length
      · obtain ⟨ax, cx, c0, c1, c2, c3, hx⟩ := HC.out k' hkl
        have hHr := hH.below hb
        have c0 := hHr.cell c0
        have c1 := hHr.cell c1
        have c2 := hHr.cell c2
        have c3 := hHr.cell c3
        have hmem := List.getElem_mem hkl
        cases he : p l[k']
        · have HE := Lib.hid he
          clear he
          have HX := Lib.hid fun i (hi : i < l.length) (hik : i < k' + 1) => (show p l[i] = false from by
            by_cases hik' : i < k'
            · exact HN.out i hi hik'
            · obtain rfl : i = k' := by omega
              exact HE.out)
          generalize l[k'] = x at *
          go_wp2_with (refine (HP.out x hmem _ hx _ HI.out).mono ?_; rintro r w2 ⟨rfl, hb2⟩; rw [HE.out])
          go_roundw
          case rel => exact ⟨k' + 1, by go_num, by omega, hb.trans (hb2.mono hb.size), HS.out _ _ HI.out hb2, HX.out⟩
          case measure => simp [intOf]; omega
        · have HE := Lib.hid he
          clear he
          have HX := Lib.hid (idxE_found p l k' hkl HE.out fun i hi hik => HN.out i hi hik)
          generalize l[k'] = x at *
          go_wp2_with (refine (HP.out x hmem _ hx _ HI.out).mono ?_; rintro r w2 ⟨rfl, hb2⟩; rw [HE.out])
          go_ret
          exact ⟨ret_int HX.out.symm, hb.trans (hb2.mono hb.size)⟩
      · go_wp2_with fail
        go_ret
        exact ⟨ret_int (idxE_none _ _ fun i hi => HN.out i hi (by omega)).symm, hb⟩
theorem idxE_lt (p : Ex → Bool) (l : List Ex) : -1 ≤ idxE p l ∧ idxE p l < (l.length : Int) + 1 := by
  unfold idxE
  cases h : l.findIdx? p with
  | none => simp; omega
  | some i =>
    rw [List.findIdx?_eq_some_iff_getElem] at h
    obtain ⟨hi, _⟩ := h
    simp; omega
theorem containsE_any (k : Nat) (cap : Array Value) (I : World → Prop) (H : Kn) (p : Ex → Bool) (l : List Ex) (v : Value) (hp : ExPred k cap I H p l) (hv : ExsV H l v) (w : World) (hH : H.In w) (hI : I w) :
    Calls Tryd.prog 44 #[v, .func (.func k) #[] cap] w fun r w' => r = .returned (.bool (l.any p)) ∧ Below w.heap.size w w' := by
  have hb := idxE_lt p l
  have HD := Lib.hid (idxE_ge p l)
  have HI := Lib.hid hI
  clear hI
  go_enter Tryd.func44, Tryd.ntmps44
  go_wp2_with fail
  refine (idxE_any k cap I H p l v hp hv _ hH HI.out).mono ?_
  rintro r w2 ⟨rfl, hb2⟩
  go_wp2_with fail
  go_ret
  exact ⟨ret_bool HD.out, hb2⟩
theorem any_not_form (ks : Env Int) : ∀ l : List Ex, (l.any fun x => !formAll ks x) = !formAllL ks l
  | [] => rfl
  | e :: l => by simp only [List.any_cons, formAllL, any_not_form ks l, Bool.not_and]
theorem form1_pred (H : Kn) (ks : Env Int) (bm B : Nat) (l : List Ex)
    (ih : ∀ e ∈ l, ∀ v, ExV H e v → ∀ w, H.In w → MapAt (Value.int .i64) w bm ks → Calls Tryd.prog 40 #[v, .map (some bm)] w fun r w' => r = .returned (.bool (formAll ks e)) ∧ Below w.heap.size w w') :
    ExPred 56 #[.pointer (some ⟨B, 0, none⟩)] (fun w => H.In w ∧ MapAt (Value.int .i64) w bm ks ∧ w.cell? ⟨B, 0, none⟩ = some (.map (some bm))) H (fun x => !formAll ks x) l := by
  refine ⟨fun _ _ => by kernel_rfl, fun w w' ⟨h1, h2, h3⟩ hb => ⟨h1.below hb, h2.below hb, by rw [hb.cell (p := ⟨B, 0, none⟩) (World.block_lt_of_cell? w _ h3)]; exact h3⟩, ?_⟩
  intro e he v hv w ⟨h1, h2, h3⟩
  have IH := Lib.hid ih
  have hB := World.block_lt_of_cell? w _ h3
  have hvv := hv
  obtain ⟨u, rfl, hu⟩ := hvv
  obtain ⟨a, c, rfl⟩ := hu.len
  clear ih hu
  have c3 : (w.alloc (.cells #[.string e.op, .int .i64 e.n, .string e.s, .slice a e.l.length c] 45)).cell? ⟨B, 0, none⟩ = some (.map (some bm)) := by rw [World.cell?_alloc_past _ _ _ hB]; exact h3
  have H3 := Lib.hid h3
  clear h3
  show Calls Tryd.prog 56 #[.agg #[.string e.op, .int .i64 e.n, .string e.s, .slice a e.l.length c], .pointer (some ⟨B, 0, none⟩)] w _
  go_enter Tryd.func56, Tryd.ntmps56
  go_wp2_with fail
  refine (IH.out e he _ hv _ (h1.alloc _) (h2.alloc _)).mono ?_
  rintro r w2 ⟨rfl, hb2⟩
  go_wp2_with fail
  go_ret
  exact ⟨rfl, ((Below.refl _ _).alloc (Nat.le_refl _) _).trans (hb2.mono (by simp))⟩
end Go.Proofs.YthihoafemahgmaaDoor
namespace Go.Proofs.YthihoafemahgmaaDoor
open Go.RowKit Mx
set_option maxHeartbeats 2000000 in
set_option maxRecDepth 100000 in
theorem formAll_any (H : Kn) (T : LevelsAt H) (ks : Env Int) (bm : Nat) : ∀ (e : Ex) (v : Value), ExV H e v → ∀ w, H.In w → MapAt (Value.int .i64) w bm ks →
    Calls Tryd.prog 40 #[v, .map (some bm)] w fun r w' => r = .returned (.bool (formAll ks e)) ∧ Below w.heap.size w w' := by
  refine Ex.ind fun o n s l ih v hv w hH hM => ?_
  have hvv := hv
  obtain ⟨u, rfl, hu⟩ := hvv
  simp only [Ex.op, Ex.n, Ex.s, Ex.l] at hu hv ⊢
  obtain ⟨a, cap, rfl⟩ := hu.len
  have HV := Lib.hid hv
  have HU := Lib.hid hu
  have HP := Lib.hid (form1_pred H ks bm (w.heap.size + 1) l ih)
  clear hv hu ih
  have hW1 : Below w.heap.size w ((w.alloc (.cells #[.string o, .int .i64 n, .string s, .slice a l.length cap] 45)).alloc (.cells #[.map (some bm)] 52)) := ((Below.refl _ _).alloc (Nat.le_refl _) _).alloc (by simp) _
  have hM1 : MapAt (Value.int .i64) ((w.alloc (.cells #[.string o, .int .i64 n, .string s, .slice a l.length cap] 45)).alloc (.cells #[.map (some bm)] 52)) bm ks := (hM.alloc _).alloc _
  have hz1 : ((w.alloc (.cells #[.string o, .int .i64 n, .string s, .slice a l.length cap] 45)).alloc (.cells #[.map (some bm)] 52)).heap.size = w.heap.size + 2 := by simp
  have hrun := hM1.run (P := Tryd.prog) Tryd.underlying52 Tryd.underlying9 (d := 0) (by kernel_rfl) s true
  simp only [if_true] at hrun
  have q0 : ((w.alloc (.cells #[.string o, .int .i64 n, .string s, .slice a l.length cap] 45)).alloc (.cells #[.map (some bm)] 52)).cell? ⟨w.heap.size + 1, 0, none⟩ = some (.map (some bm)) := by
    simp
  have HQ := Lib.hid q0
  have HM := Lib.hid hM1
  have HW := Lib.hid hW1
  have HZ := Lib.hid hz1
  obtain ⟨fa, hfa⟩ : ∃ b, form (.mk o n s l) = b := ⟨_, rfl⟩
  obtain ⟨is, his⟩ : ∃ b, (ks s).isSome = b := ⟨_, rfl⟩
  obtain ⟨fl, hfl⟩ : ∃ b, formAllL ks l = b := ⟨_, rfl⟩
  have hcall := dLit o [99, 97, 108, 108]
  have hname := dLit o [110, 97, 109, 101]
  have hR : formAll ks (.mk o n s l) = (fa && !(o.toList == [99, 97, 108, 108]) && (!(o.toList == [110, 97, 109, 101]) || is) && fl) := by
    simp only [formAll]
    rw [hfa, his, hfl, ← hcall, ← hname]
    simp
  have hany : (l.any fun x => !formAll ks x) = !fl := by rw [any_not_form, hfl]
  rw [his] at hrun
  have HA := Lib.hid hany
  have HFA := Lib.hid hfa
  have HR := Lib.hid hR
  generalize (ks s).getD 0 = kv at *
  clear hfa his hfl hcall hname hR hany q0 hM1 hW1 hz1 hM
  go_enter Tryd.func40, Tryd.ntmps40
  go_wp2_with fail
  refine (form_any H T _ _ HV.out _ (hH.below HW.out)).mono ?_
  rw [HFA.out]
  rintro r w2 ⟨rfl, hb2⟩
  have hW2 := HW.out.trans (hb2.mono HW.out.size)
  have HI2 := Lib.hid (show H.In w2 ∧ MapAt (Value.int .i64) w2 bm ks ∧ w2.cell? ⟨w.heap.size + 1, 0, none⟩ = some (.map (some bm)) from ⟨hH.below hW2, HM.out.below hb2, by rw [hb2.cell (p := ⟨w.heap.size + 1, 0, none⟩) (by rw [HZ.out]; simp)]; exact HQ.out⟩)
  obtain ⟨hcc, hff⟩ := bcell hb2
  rw [HZ.out] at hcc hff
  clear hrun
  cases fa
  · go_wp2_with fail
    go_ret
    exact ⟨ret_bool (by rw [HR.out]; rfl), hW2⟩
  · rcases Bool.eq_false_or_eq_true (o.toList == [99, 97, 108, 108]) with e1 | e1
    · have n1 : (o.toList != [99, 97, 108, 108]) = false := by simp [bne, e1]
      go_wp2_with fail
      go_ret
      exact ⟨ret_bool (by rw [HR.out]; simp [e1]), hW2⟩
    · have n1 : (o.toList != [99, 97, 108, 108]) = true := by simp [bne, e1]
      have hex : ((o.toList == [110, 97, 109, 101]) = true ∧ is = false) ∨ ((!(o.toList == [110, 97, 109, 101]) || is) = true ∧ ((o.toList == [110, 97, 109, 101]) = false ∨ ((o.toList == [110, 97, 109, 101]) = true ∧ is = true))) := by
        cases (o.toList == [110, 97, 109, 101]) <;> cases is <;> simp
      rcases hex with ⟨e2, rfl⟩ | ⟨e3, hex⟩
      · have n2 : (o.toList != [110, 97, 109, 101]) = false := by simp [bne, e2]
        go_wp2_with fail
        go_ret
        exact ⟨ret_bool (by rw [HR.out]; simp [e1, e2]), hW2⟩
      · have HE3 := Lib.hid e3
        clear e3
        rcases hex with e2 | ⟨e2, rfl⟩
        · have n2 : (o.toList != [110, 97, 109, 101]) = true := by simp [bne, e2]
          go_wp2_with fail
          refine (containsE_any _ _ _ H _ l _ HP.out HU.out _ HI2.out.1 HI2.out).mono ?_
          rw [HA.out]
          rintro r w3 ⟨rfl, hb3⟩
          go_wp2_with fail
          go_ret
          exact ⟨ret_bool (by rw [HR.out, HE3.out, e1]; simp), hW2.trans (hb3.mono hW2.size)⟩
        · have n2 : (o.toList != [110, 97, 109, 101]) = false := by simp [bne, e2]
          go_wp2_with fail
          refine (containsE_any _ _ _ H _ l _ HP.out HU.out _ HI2.out.1 HI2.out).mono ?_
          rw [HA.out]
          rintro r w3 ⟨rfl, hb3⟩
          go_wp2_with fail
          go_ret
          exact ⟨ret_bool (by rw [HR.out, HE3.out, e1]; simp), hW2.trans (hb3.mono hW2.size)⟩
end Go.Proofs.YthihoafemahgmaaDoor
