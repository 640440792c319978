/- Walks: slim.Drop. (Printed by gen_sli.py.) -/
import Derived.Test.YthihoafemahgmaaDoorSlG
import Derived.Test.YthihoafemahgmaaDoorOckA
import Derived.Deep.LoopGhost
namespace Go.Proofs.YthihoafemahgmaaDoor
open Go.RowKit Mx
theorem errW_nil {sp : Nat → Addr} {w : World} {c : Nat} {a : Int} {v : Value} (h : ErrW sp w c a v) : (v = .nilIface ∧ c = 0) ∨ ((∃ ty pv, v = .iface ty (.pointer (some pv))) ∧ (c ≠ 0 ∨ a ≠ -1)) := by
  rcases h with ⟨ha, rfl⟩ | ⟨ha, N, rfl, _⟩
  · cases c with
    | zero => exact .inl ⟨rfl, rfl⟩
    | succ c => exact .inr ⟨⟨_, _, rfl⟩, .inl (by omega)⟩
  · exact .inr ⟨⟨_, _, rfl⟩, .inr ha⟩
theorem mapF_id : mapF id = (id : Fl → Fl) := rfl
def DropPost (p : Pr) (w : World) (r : Ending) (w' : World) : Prop :=
  Below w.heap.size w w' ∧ (((checkM p).1 = 0 ∧ ∃ vi vo vl va vc K, r = .returned (.tuple #[.agg #[vi, vo, vl, va, vc], .nilIface]) ∧ PrP K (dropM p) vi vo vl va vc ∧ K.In w' ∧ ∀ b, b < w.heap.size → K b = none) ∨
    (((checkM p).1 ≠ 0 ∨ (checkM p).2 ≠ -1) ∧ ∃ ty pv, r = .returned (.tuple #[.agg #[.slice none 0 0, .slice none 0 0, .slice none 0 0, .slice none 0 0, .slice none 0 0], .iface ty (.pointer (some pv))])))
theorem TdI.rebase {w0 u : World} {T base : Nat} {acc : List ByteArray} (h : TdI w0 u T base acc) : TdI u u T base acc := ⟨Below.refl _ _, h.tlt, h.box⟩
theorem todoA_seerK (K : Kn) (w0 : World) (T base : Nat) (hK : K.In w0) (hs : ∀ b o, K b = some o → b < base ∨ ∃ c fr, o = .cells c 45 fr) : SeerN 20 #[.pointer (some ⟨T, 0, none⟩)] K (fun acc u => TdI w0 u T base acc ∧ FrE w0 u) :=
  ⟨fun _ _ => by kernel_rfl, fun _ _ _ h hb => ⟨h.1.next hb, h.2.trans (FrE.of_below hb)⟩, fun _ u h b o e => (hs b o e).elim (fun h1 => (h.1.below.block b h1).trans (hK b o e)) (fun ⟨c, fr, h1⟩ => by have h2 := hK b o e; rw [h1] at h2 ⊢; exact h.2 b c fr h2), fun acc w s hn h => (todoA_any w0 T base acc s w hn h.1).mono fun _ _ ⟨h1, h2, h3⟩ => ⟨h1, ⟨h2, h.2.trans h3⟩, h3⟩⟩
theorem todoB_seerK (K : Kn) (w0 : World) (T base : Nat) (hK : K.In w0) (hs : ∀ b o, K b = some o → b < base ∨ ∃ c fr, o = .cells c 45 fr) : SeerN 21 #[.pointer (some ⟨T, 0, none⟩)] K (fun acc u => TdI w0 u T base acc ∧ FrE w0 u) :=
  ⟨fun _ _ => by kernel_rfl, fun _ _ _ h hb => ⟨h.1.next hb, h.2.trans (FrE.of_below hb)⟩, fun _ u h b o e => (hs b o e).elim (fun h1 => (h.1.below.block b h1).trans (hK b o e)) (fun ⟨c, fr, h1⟩ => by have h2 := hK b o e; rw [h1] at h2 ⊢; exact h.2 b c fr h2), fun acc w s hn h => (todoB_any w0 T base acc s w hn h.1).mono fun _ _ ⟨h1, h2, h3⟩ => ⟨h1, ⟨h2, h.2.trans h3⟩, h3⟩⟩
theorem exsV_row {K : Kn} {w : World} {base : Nat} {v : Value} {l : List Ex} {xs : List Value} (hK : K.In w) (h : w.ownsRow base 45 4 v l.length xs) (hx : XsAt K l xs) (hr : ∀ g, v.ownBlock = some g → K g = none) :
    ∃ K', K.le K' ∧ K'.In w ∧ ExsV K' l v ∧ ∀ b o, K' b = some o → K b = some o ∨ ∃ c fr, o = .cells c 45 fr := by
  by_cases h0 : l = []
  · obtain ⟨a, c, h1, _⟩ := own_len h
    exact ⟨K, Kn.le_refl K, hK, .inl ⟨h0, a, c, by rw [h1, h0]; rfl⟩, fun _ _ e => .inl e⟩
  · rcases h.2 with ⟨_, h2⟩ | ⟨g, cap, cur, h1, h2, h3, h4, h5, h6, h7⟩
    · exact absurd (List.eq_nil_of_length_eq_zero h2) h0
    have hg : K g = none := hr g (by rw [h1]; rfl)
    obtain ⟨g', cap', e1, e2, e3, _, _, e4⟩ := own_shape h (List.length_pos_iff.2 h0)
    rw [h1] at e1
    simp only [Value.slice.injEq, Option.some.injEq, Addr.mk.injEq, true_and, and_true] at e1
    obtain ⟨rfl, rfl⟩ := e1
    refine ⟨K.add g (.cells cur 45 (0, 0)), Kn.le_add hg, hK.add h3, .inr ⟨g, 0, cap, h1, h4, h5, hx.at (Kn.le_add hg) fun j u hj => ?_⟩, fun b o e => ?_⟩
    · have h8 := e4 j u hj
      unfold Kn.cell
      rw [Kn.add_self, Nat.zero_add]
      simp only [World.cell?, h3] at h8
      exact h8
    · by_cases hb : b = g
      · rw [hb, Kn.add_self] at e
        exact .inr ⟨cur, (0, 0), (Option.some.inj e).symm⟩
      · rw [Kn.add_other _ _ hb] at e
        exact .inl e
theorem own_pop {w : World} {base m g cap : Nat} {xs : List Value} {x : Value} {e : TypeId} (h : w.ownsRow base e 1 (.slice (some ⟨g, 0, none⟩) (m + 1) cap) (m + 1) (xs ++ [x])) : w.ownsRow base e 1 (.slice (some ⟨g, 0, none⟩) m cap) m xs := by
  obtain ⟨h1, h2⟩ := h
  have hl : xs.length = m := by simp at h1; omega
  refine ⟨by omega, .inr ?_⟩
  rcases h2 with ⟨h2, _⟩ | ⟨g', cap', cur, e1, e2, e3, e4, e5, e6, e7⟩
  · cases h2
  · simp only [Value.slice.injEq, Option.some.injEq, Addr.mk.injEq, true_and, and_true] at e1
    obtain ⟨rfl, rfl⟩ := e1
    refine ⟨g, cap, cur, rfl, e2, e3, by omega, e5, e6, ?_⟩
    have h3 := congrArg (List.take m) e7
    rw [List.take_take, List.take_append_of_le_length (by omega), List.take_of_length_le (by omega : xs.length ≤ m)] at h3
    rw [← h3]
    congr 1
    omega
theorem td_push {u w3 : World} {T base g cap' : Nat} {acc : List ByteArray} {s : ByteArray} {v : Value} (hT : u.heap[T]? = some (.cells #[v] 23 (0, 0))) (hrow : u.ownsRow base 9 1 v acc.length (acc.map .string)) (hle : base ≤ T) (hbu : base ≤ u.heap.size)
    (ho : w3.ownsRow base 9 1 (.slice (some ⟨g, 0, none⟩) (acc.length + 1) cap') (acc.length + 1) (acc.map .string ++ [.string s])) (hg : u.grownBy w3 v.ownBlock) :
    w3.cell? ⟨T, 0, none⟩ = some v ∧ w3.frozen? ⟨T, 0, none⟩ = false ∧ TdI (w3.setCell ⟨T, 0, none⟩ (.slice (some ⟨g, 0, none⟩) (acc.length + 1) cap')) (w3.setCell ⟨T, 0, none⟩ (.slice (some ⟨g, 0, none⟩) (acc.length + 1) cap')) T base (acc ++ [s]) ∧
      Below base u (w3.setCell ⟨T, 0, none⟩ (.slice (some ⟨g, 0, none⟩) (acc.length + 1) cap')) := by
  have hne : v.ownBlock ≠ some T := own_typeS hrow hT (by decide)
  have h3 := (hg.block T (Array.getElem?_eq_some_iff.1 hT).1 (Ne.symm hne)).trans hT
  have hgt : (Value.slice (some ⟨g, 0, none⟩) (acc.length + 1) cap').ownBlock ≠ some T := own_typeS ho h3 (by decide)
  refine ⟨by simp [World.cell?, h3], by simp [World.frozen?, h3], ⟨Below.refl _ _, hle, _, heap_setCell_same w3 T 0 (.slice (some ⟨g, 0, none⟩) (acc.length + 1) cap') _ _ _ h3, ?_⟩, ?_⟩
  · rw [List.length_append, List.map_append]
    exact own_setCell ho (a := ⟨T, 0, none⟩) hgt (.slice (some ⟨g, 0, none⟩) (acc.length + 1) cap')
  · exact ((Below.refl base u).grown hg hbu (fun q hq => (hrow.lt q hq).1)).setCell (p := ⟨T, 0, none⟩) (by show base ≤ T; exact hle) _
structure DrI (w wr : World) (B M5 M6 T6 : Nat) (pv : Array Value) (atm : Env Nat) (nd : List ByteArray) : Prop where
  below : Below w.heap.size w wr
  pbox : wr.heap[B]? = some (.cells pv 34 (0, 0))
  res : wr.heap[B + 1]? = some (.cells #[.slice none 0 0, .slice none 0 0, .slice none 0 0, .slice none 0 0, .slice none 0 0] 34 (0, 0))
  at_ : MapAt natV wr M5 atm
  need : NeedI T6 M6 nd wr
section
variable {w wr w' : World} {B M5 M6 T6 : Nat} {pv : Array Value} {atm : Env Nat} {nd : List ByteArray}
def DrLow (w : World) (n B M5 M6 T6 : Nat) : Prop := w.heap.size ≤ n ∧ B + 1 < n ∧ M5 < n ∧ M6 < n ∧ T6 < n
theorem DrI.under {n : Nat} (h : DrI w wr B M5 M6 T6 pv atm nd) (hn : DrLow w n B M5 M6 T6) (hb : Below n wr w') : DrI w w' B M5 M6 T6 pv atm nd :=
  ⟨h.below.trans (hb.mono hn.1), (hb.block _ (by have := hn.2.1; omega)).trans h.pbox, (hb.block _ hn.2.1).trans h.res, h.at_.of_block (hb.block _ hn.2.2.1), (hb.block _ hn.2.2.2.2).trans h.need.1, h.need.2.of_block (hb.block _ hn.2.2.2.1)⟩
theorem DrI.low (h : DrI w wr B M5 M6 T6 pv atm nd) : DrLow w wr.heap.size B M5 M6 T6 :=
  ⟨h.below.size, (Array.getElem?_eq_some_iff.1 h.res).1, h.at_.lt, h.need.2.lt, (Array.getElem?_eq_some_iff.1 h.need.1).1⟩
theorem DrI.later (h : DrI w wr B M5 M6 T6 pv atm nd) (hb : Below wr.heap.size wr w') : DrI w w' B M5 M6 T6 pv atm nd := h.under h.low hb
theorem DrI.needTurn {nd' : List ByteArray} (h : DrI w wr B M5 M6 T6 pv atm nd) (hne : w.heap.size ≤ M6 ∧ B ≠ M6 ∧ B + 1 ≠ M6 ∧ M5 ≠ M6 ∧ T6 ≠ M6) (ht : Turned wr w' M6) (hm : MapAt Value.bool w' M6 (ndEnv nd')) : DrI w w' B M5 M6 T6 pv atm nd' :=
  ⟨ht.below h.below hne.1, (ht.block hne.2.1).trans h.pbox, (ht.block hne.2.2.1).trans h.res, ht.map h.at_ hne.2.2.2.1, (ht.block hne.2.2.2.2).trans h.need.1, hm⟩
theorem DrI.atTurn {atm' : Env Nat} (h : DrI w wr B M5 M6 T6 pv atm nd) (hne : w.heap.size ≤ M5 ∧ B ≠ M5 ∧ B + 1 ≠ M5 ∧ M6 ≠ M5 ∧ T6 ≠ M5) (ht : Turned wr w' M5) (hm : MapAt natV w' M5 atm') : DrI w w' B M5 M6 T6 pv atm' nd :=
  ⟨ht.below h.below hne.1, (ht.block hne.2.1).trans h.pbox, (ht.block hne.2.2.1).trans h.res, hm, (ht.block hne.2.2.2.2).trans h.need.1, ht.map h.need.2 hne.2.2.2.1⟩
end
set_option maxHeartbeats 16000000 in
set_option maxRecDepth 100000 in
theorem drop_any (H : Kn) (T : LevelsAt H) (sp : Nat → Addr) (p : Pr) (vi vo vl va vc : Value) (hp : PrP H p vi vo vl va vc)
    (hsz : p.ins.length ≤ 1000000 ∧ p.fl.length ≤ 900000 ∧ p.outs.length ≤ 1048576 ∧ p.as.length ≤ 1000000 ∧ p.cs.length ≤ 1000000 ∧ Ex.partsL p.terms ≤ 1000000 ∧ (rootsM p).length + restN [] p.fl ≤ 100000000)
    (hpick : checkFlat p = 0 → (∀ j, j < p.graph.length → cyc p.graph j = false) → ∀ j, j < p.graph.length → pick p.graph (sortN p.graph j []) < p.graph.length)
    (w : World) (hH : H.In w) (S : Sen5 w sp) :
    Calls Tryd.prog 6 #[.agg #[vi, vo, vl, va, vc]] w fun r w' => DropPost p w r w' := by
  have HP := Lib.hid hp
  obtain ⟨h1, h2, h3, h4, h5⟩ := hp
  obtain ⟨ai, ci, rfl⟩ := h1.len
  obtain ⟨ao, co, rfl⟩ := h2.len
  obtain ⟨al, cl, rfl⟩ := h3.len
  obtain ⟨aa, ca, rfl⟩ := h4.len
  obtain ⟨ac, cc, rfl⟩ := h5.len
  obtain ⟨s1, s2, s3, s4, s5, s6, s7⟩ := hsz
  have H2 := Lib.hid h2
  have H3 := Lib.hid h3
  have H4 := Lib.hid h4
  have H5 := Lib.hid h5
  have hmm := @run_makeMap Tryd.prog
  clear h1 h2 h3 h4 h5
  have hP0 : ((w.alloc (.cells #[.slice ai p.ins.length ci, .slice ao p.outs.length co, .slice al p.fl.length cl, .slice aa p.as.length ca, .slice ac p.cs.length cc] 34)).alloc (.cells #[.slice none 0 0, .slice none 0 0, .slice none 0 0, .slice none 0 0, .slice none 0 0] 34)).heap[w.heap.size]? = some (.cells #[.slice ai p.ins.length ci, .slice ao p.outs.length co, .slice al p.fl.length cl, .slice aa p.as.length ca, .slice ac p.cs.length cc] 34 (0, 0)) := by
    rw [Below.heap_alloc _ _ _ (by simp)]; exact heap_alloc_new _ _
  have hR0 : ((w.alloc (.cells #[.slice ai p.ins.length ci, .slice ao p.outs.length co, .slice al p.fl.length cl, .slice aa p.as.length ca, .slice ac p.cs.length cc] 34)).alloc (.cells #[.slice none 0 0, .slice none 0 0, .slice none 0 0, .slice none 0 0, .slice none 0 0] 34)).heap[w.heap.size + 1]? = some (.cells #[.slice none 0 0, .slice none 0 0, .slice none 0 0, .slice none 0 0, .slice none 0 0] 34 (0, 0)) := by
    rw [show w.heap.size + 1 = (w.alloc (.cells #[.slice ai p.ins.length ci, .slice ao p.outs.length co, .slice al p.fl.length cl, .slice aa p.as.length ca, .slice ac p.cs.length cc] 34)).heap.size from by simp]; exact heap_alloc_new _ _
  have hb0 : Below w.heap.size w ((w.alloc (.cells #[.slice ai p.ins.length ci, .slice ao p.outs.length co, .slice al p.fl.length cl, .slice aa p.as.length ca, .slice ac p.cs.length cc] 34)).alloc (.cells #[.slice none 0 0, .slice none 0 0, .slice none 0 0, .slice none 0 0, .slice none 0 0] 34)) := ((Below.refl _ _).alloc (Nat.le_refl _) _).alloc (by simp) _
  have hz1 : ((w.alloc (.cells #[.slice ai p.ins.length ci, .slice ao p.outs.length co, .slice al p.fl.length cl, .slice aa p.as.length ca, .slice ac p.cs.length cc] 34)).alloc (.cells #[.slice none 0 0, .slice none 0 0, .slice none 0 0, .slice none 0 0, .slice none 0 0] 34)).heap.size = w.heap.size + 1 + 1 := by simp
  obtain ⟨⟨m0, m1, m2, m3, m4⟩, _⟩ := cells5_of hP0
  have HP0 := Lib.hid hP0
  have HR0 := Lib.hid hR0
  have HB0 := Lib.hid hb0
  have HZ1 := Lib.hid hz1
  clear hP0 hR0 hb0 hz1
  go_enter Tryd.func6, Tryd.ntmps6
  go_wp2_with fail
  generalize (w.alloc (.cells #[.slice ai p.ins.length ci, .slice ao p.outs.length co, .slice al p.fl.length cl, .slice aa p.as.length ca, .slice ac p.cs.length cc] 34)).alloc (.cells #[.slice none 0 0, .slice none 0 0, .slice none 0 0, .slice none 0 0, .slice none 0 0] 34) = W1 at *
  refine (ocheck_any H T sp p _ _ _ _ _ HP.out W1 (hH.below HB0.out) (S.below HB0.out) ⟨by omega, by omega, by omega, by omega, by omega⟩ (by omega) hpick).mono ?_
  rintro r w2 ⟨hb2, v2, rfl, he2⟩
  have HE2 := Lib.hid he2
  have HB2 := Lib.hid (HB0.out.trans (hb2.mono HB0.out.size))
  have HP2 := Lib.hid ((hb2.block w.heap.size (by have := HZ1.out; omega)).trans HP0.out)
  have HR2 := Lib.hid ((hb2.block (w.heap.size + 1) (by have := HZ1.out; omega)).trans HR0.out)
  have hs2 : w.heap.size + 1 + 1 ≤ w2.heap.size := by have := hb2.size; have := HZ1.out; omega
  clear hb2 he2 HP0 HR0 HB0 HZ1 m0 m1 m2 m3 m4
  have hcase := errW_nil HE2.out
  rcases hcase with ⟨rfl, hc0⟩ | ⟨hnil, hc1⟩
  case inr =>
    obtain ⟨⟨r0, r1, r2, r3, r4⟩, f0, f1, f2, f3, f4⟩ := cells5_of HR2.out
    have HR3 := Lib.hid (set5_of HR2.out (.slice none 0 0) (.slice none 0 0) (.slice none 0 0) (.slice none 0 0) (.slice none 0 0))
    have HB3 := Lib.hid (below5 HB2.out (Nat.le_succ _) (.slice none 0 0) (.slice none 0 0) (.slice none 0 0) (.slice none 0 0) (.slice none 0 0))
    have HNE := Lib.hid hc1
    obtain ⟨ty, pv, rfl⟩ := hnil
    go_wp2_with fail
    obtain ⟨⟨e0, e1, e2, e3, e4⟩, _⟩ := cells5_of HR3.out
    refine bodyPost_ret (v := .tuple #[.agg #[.slice none 0 0, .slice none 0 0, .slice none 0 0, .slice none 0 0, .slice none 0 0], .iface ty (.pointer (some pv))]) (by simp [results, Tryd.results6, go_sem, e0, e1, e2, e3, e4]) rfl ?_
    exact ⟨HB3.out, .inr ⟨HNE.out, ty, pv, rfl⟩⟩
  have HC0 := Lib.hid hc0
  have hnd0 : (p.fl.map (·.name)).Nodup := by
    obtain ⟨l, ho, _⟩ := checkM_zero hc0
    exact names_nd (orderM_low ho).1
  clear hc0 HE2
  have hbV : Below w2.heap.size w2 (((w2.alloc (.map #[] 0)).alloc (.map #[] 0)).alloc (.cells #[.map (some (w2.heap.size + 1))] 53)) := (((Below.refl _ _).alloc (Nat.le_refl _) _).alloc (by simp) _).alloc (by simp; omega) _
  have hpx := (hbV.block w.heap.size (by omega)).trans HP2.out
  obtain ⟨⟨m0, m1, m2, m3, m4⟩, _⟩ := cells5_of hpx
  have HD := Lib.hid (show DrI w (((w2.alloc (.map #[] 0)).alloc (.map #[] 0)).alloc (.cells #[.map (some (w2.heap.size + 1))] 53)) w.heap.size w2.heap.size (w2.heap.size + 1) (w2.heap.size + 1 + 1) #[.slice ai p.ins.length ci, .slice ao p.outs.length co, .slice al p.fl.length cl, .slice aa p.as.length ca, .slice ac p.cs.length cc] Env.none [] from
    ⟨HB2.out.trans (hbV.mono HB2.out.size), hpx, (hbV.block _ (by omega)).trans HR2.out,
     (((MapAt.made natV w2).alloc _).alloc _),
     ⟨by rw [show w2.heap.size + 1 + 1 = ((w2.alloc (.map #[] 0)).alloc (.map #[] 0)).heap.size from by simp]; exact heap_alloc_new _ _,
      by have h := (MapAt.made Value.bool (w2.alloc (.map #[] 0))).alloc (.cells #[.map (some (w2.heap.size + 1))] 53); rw [show (w2.alloc (.map #[] 0)).heap.size = w2.heap.size + 1 from by simp] at h; exact h⟩⟩)
  have hzV : (((w2.alloc (.map #[] 0)).alloc (.map #[] 0)).alloc (.cells #[.map (some (w2.heap.size + 1))] 53)).heap.size = w2.heap.size + 1 + 1 + 1 := by simp
  clear hbV hpx HP2 HR2 HB2
  go_wp2_with fail
  generalize ((w2.alloc (.map #[] 0)).alloc (.map #[] 0)).alloc (.cells #[.map (some (w2.heap.size + 1))] 53) = V0 at *
  generalize w2.heap.size = M5 at *
  refine (cloneS_any H p.outs _ H2.out (by omega) V0 (hH.below HD.out.below)).mono ?_
  rintro r w3 ⟨v3, rfl, hown3, hb3⟩
  obtain ⟨a3, c3, rfl, _⟩ := own_len hown3
  have HD3 := Lib.hid ((HD.out.later hb3).later ((Below.refl _ _).alloc (Nat.le_refl _) (.cells #[.slice a3 p.outs.length c3] 23)))
  have HT3 := Lib.hid (show TdI (w3.alloc (.cells #[.slice a3 p.outs.length c3] 23)) (w3.alloc (.cells #[.slice a3 p.outs.length c3] 23)) w3.heap.size V0.heap.size p.outs from
    ⟨Below.refl _ _, hb3.size, _, heap_alloc_new _ _, own_below hown3 ((Below.refl _ _).alloc (Nat.le_refl _) _)⟩)
  have hs3 := hb3.size
  obtain ⟨⟨m0, m1, m2, m3, m4⟩, _⟩ := cells5_of HD3.out.pbox
  clear hown3 hb3 HD
  go_wp2_with fail
  generalize w3.alloc (.cells #[.slice a3 p.outs.length c3] 23) = W3 at *
  generalize w3.heap.size = TB at *
  generalize hNB : V0.heap.size = NB at *
  have hnb0 : M5 + 1 + 1 + 1 ≤ NB := by omega
  clear hNB hzV
  go_loopw [30] (fun i wr => ∃ (q : Nat) (acc : List ByteArray), i = .int .i64 q ∧ q ≤ p.fl.length ∧ acc = p.outs ++ ((p.fl.take q).filter fun f => dividesE f.e).map (·.name) ∧ NB ≤ wr.heap.size ∧ DrI w wr w.heap.size M5 (M5 + 1) (M5 + 1 + 1) #[.slice ai p.ins.length ci, .slice ao p.outs.length co, .slice al p.fl.length cl, .slice aa p.as.length ca, .slice ac p.cs.length cc] (atFrom 0 Env.none (p.fl.take q)) [] ∧ TdI wr wr TB NB acc) (fun i _ => p.fl.length - (intOf i).toNat)
  case atStart => exact ⟨0, _, rfl, Nat.zero_le _, by simp, by have := HD3.out.low; have h := HT3.out.tlt; obtain ⟨v, hv, _⟩ := HT3.out.box; have := (Array.getElem?_eq_some_iff.1 hv).1; omega, HD3.out, HT3.out⟩
  case round =>
    clear HD3 HT3 m0 m1 m2 m3 m4
    obtain ⟨q, acc, rfl, hq, hacc, hnb, hD, hT⟩ := hrel
    have HD := Lib.hid hD
    have HT := Lib.hid hT
    have HA := Lib.hid hacc
    obtain ⟨vt, htb, hrw⟩ := hT.box
    obtain ⟨at_, ct, rfl, _⟩ := own_len hrw
    have HTB := Lib.hid htb
    have HRW := Lib.hid hrw
    have haccl : acc.length ≤ 2000000 := by
      rw [hacc]
      simp only [List.length_append, List.length_map]
      have := List.length_filter_le (fun f : Fl => dividesE f.e) (p.fl.take q)
      simp only [List.length_take] at this
      omega
    clear hD hT hacc htb hrw
    by_cases hql : q < p.fl.length
    · obtain ⟨b, off, cap0, he, _, _, hcs⟩ := FlsV.cell H3.out (fun e => by rw [e] at hql; simp at hql)
      cases he
      obtain ⟨ax, cx, d0, d1, d2, d3, d4, d5, hx⟩ := hcs q hql
      obtain ⟨f, hf⟩ : ∃ f, p.fl[q] = f := ⟨_, rfl⟩
      have hpf : f.e.parts ≤ 1000000000000 := by
        have h1 : Ex.partsL (p.fl.map (·.e)) ≤ Ex.partsL p.terms := by unfold Pr.terms; rw [partsL_app, partsL_app]; omega
        have := getElem_parts (p.fl.map (·.e)) q (by simpa using hql)
        simp at this
        rw [hf] at this
        omega
      rw [hf] at d0 d1 d2 d3 d4 d5 hx
      have hHr := hH.below HD.out.below
      have d0 := hHr.cell d0
      have d1 := hHr.cell d1
      have d2 := hHr.cell d2
      have d3 := hHr.cell d3
      have d4 := hHr.cell d4
      have d5 := hHr.cell d5
      have HEX := Lib.hid (show ExV H f.e (.agg #[.string f.e.op, .int .i64 f.e.n, .string f.e.s, .slice ax f.e.l.length cx]) from ⟨_, rfl, hx⟩)
      have HSN := Lib.hid (show atFrom 0 Env.none (p.fl.take (q + 1)) = (atFrom 0 Env.none (p.fl.take q)).set f.name q from by
        rw [take_snoc _ _ hql, atFrom_snoc, hf, List.length_take, Nat.zero_add, Nat.min_eq_left (by omega)])
      have HSF := Lib.hid (show ((p.fl.take (q + 1)).filter fun f => dividesE f.e).map (·.name) = ((p.fl.take q).filter fun f => dividesE f.e).map (·.name) ++ (if dividesE f.e = true then [f.name] else []) from by
        rw [take_snoc _ _ hql, List.filter_append, List.map_append, hf]
        congr 1
        cases h : dividesE f.e <;> simp [h])
      have hba := (Below.refl wr.heap.size wr).alloc (Nat.le_refl _) (.cells #[.string f.name, .int .i64 f.kind, .string f.e.op, .int .i64 f.e.n, .string f.e.s, .slice ax f.e.l.length cx] 47)
      have HDA := Lib.hid (HD.out.later hba)
      have HFB := Lib.hid (heap_alloc_new wr (.cells #[.string f.name, .int .i64 f.kind, .string f.e.op, .int .i64 f.e.n, .string f.e.s, .slice ax f.e.l.length cx] 47))
      have HTBA := Lib.hid ((hba.block TB (Array.getElem?_eq_some_iff.1 HTB.out).1).trans HTB.out)
      have HRWA := Lib.hid (own_below HRW.out hba)
      obtain ⟨⟨z0, z1, z2, z3, z4, z5⟩, _⟩ := cl6_of HFB.out
      have hlow := HD.out.low
      obtain ⟨l1, l2, l3, l4, l5⟩ := hlow
      have htn := HT.out.tlt
      clear hf hx hcs hHr hba
      go_wp2_with (at_mapUpdate; refine wp_store natV 52 9 3 Tryd.underlying52 Tryd.underlying9 M5 _ HDA.out.at_ _ _ _ rfl rfl rfl f.name rfl q rfl ?_; intro w7 hM7 hT7; rw [← HSN.out] at hM7; have hD7 := HDA.out.atTurn (by omega) hT7 hM7; have hF7 := (hT7.block (by omega)).trans HFB.out; have y0 := (cl6_of hF7).1.1; have y2 := (cl6_of hF7).1.2.2.1; have y3 := (cl6_of hF7).1.2.2.2.1; have y4 := (cl6_of hF7).1.2.2.2.2.1; have y5 := (cl6_of hF7).1.2.2.2.2.2)
      have hlow : DrLow w NB w.heap.size M5 (M5 + 1) (M5 + 1 + 1) := ⟨by omega, by omega, by omega, by omega, by omega⟩
      refine (divides_any f.e hpf H _ HEX.out w7 (hH.below hD7.below)).mono ?_
      rintro r w8 ⟨rfl, hb8⟩
      have HD8 := Lib.hid (hD7.later hb8)
      have h7 := (hT7.block (by omega)).trans HTBA.out
      have HT8 := Lib.hid ((hb8.block TB (Array.getElem?_eq_some_iff.1 h7).1).trans h7)
      have HR8 := Lib.hid (own_below (own_turned HRWA.out hT7 (own_ge HRWA.out (by omega))) hb8)
      obtain ⟨⟨x0, _⟩, _⟩ := cl6_of ((hb8.block _ (Array.getElem?_eq_some_iff.1 hF7).1).trans hF7)
      have t8 : w8.cell? ⟨TB, 0, none⟩ = some (.slice at_ acc.length ct) := by simp [World.cell?, HT8.out]
      have htb8 := (Array.getElem?_eq_some_iff.1 HT8.out).1
      have hnb8 : NB ≤ w8.heap.size := by have := (Array.getElem?_eq_some_iff.1 HT8.out).1; omega
      clear hb8 hM7 hD7 hF7 h7 HTBA HRWA HDA HFB hT7 y0 y2 y3 y4 y5 z0 z1 z2 z3 z4 z5 d0 d1 d2 d3 d4 d5
      cases hd : dividesE f.e
      · have HAN := Lib.hid (show acc = p.outs ++ ((p.fl.take (q + 1)).filter fun f => dividesE f.e).map (·.name) from by rw [HSF.out, hd, HA.out]; simp)
        go_wp2_with fail
        go_roundw
        case rel => exact ⟨q + 1, acc, by go_num, by omega, HAN.out, hnb8, HD8.out, ⟨Below.refl _ _, htn, _, HT8.out, HR8.out⟩⟩
        case measure => simp [intOf]; omega
      · have HAN := Lib.hid (show acc ++ [f.name] = p.outs ++ ((p.fl.take (q + 1)).filter fun f => dividesE f.e).map (·.name) from by rw [HSF.out, hd, HA.out]; simp)
        have hba := (Below.refl w8.heap.size w8).alloc (Nat.le_refl _) (.cells #[.string f.name] 9)
        have HR9 := Lib.hid (own_below HR8.out hba)
        have HT9 := Lib.hid ((hba.block TB (by omega)).trans HT8.out)
        have HD9 := Lib.hid (HD8.out.later hba)
        clear hba
        go_wp2_with (at_builtin; refine app1L 23 9 1 16 _ Tryd.underlying23 Tryd.infoStr1 rfl (by decide) _ _ rfl rfl NB _ _ _ rfl HR9.out ⟨w8.heap.size, 0, none⟩ 1 [.string f.name] rfl rfl ?c1 ?c2 ?c3 ?c4 ?c5 ?_)
        case c1 => exact cells1 _ _ _
        case c2 => simp [Value.oneCell']
        case c3 => omega
        case c4 => omega
        case c5 => simp; omega
        intro g cap' wb ho hg hat
        obtain ⟨n1, n2, hTd, hBl⟩ := td_push HT9.out HR9.out htn (by simp; omega) ho hg
        have HTD := Lib.hid hTd
        have HDD := Lib.hid (HD9.out.under hlow hBl)
        have HSZ := Lib.hid (hBl.size)
        clear ho hg hat hTd hBl
        go_wp2_with fail
        go_roundw
        case rel => exact ⟨q + 1, acc ++ [f.name], by go_num, by omega, HAN.out, Nat.le_trans (by simp; omega) HSZ.out, HDD.out, HTD.out⟩
        case measure => simp [intOf]; omega
    · obtain rfl : q = p.fl.length := by omega
      obtain ⟨wa, hwa⟩ : ∃ wa, wa = wr := ⟨_, rfl⟩
      subst hwa
      obtain ⟨r1, hr1⟩ : ∃ r1, r1 = acc := ⟨_, rfl⟩
      have HAR := Lib.hid (show acc = p.outs ++ (p.fl.filter fun f => dividesE f.e).map (·.name) from by have h := HA.out; rwa [List.take_of_length_le (Nat.le_refl _)] at h)
      have hatl := HD.out.at_
      rw [List.take_of_length_le (Nat.le_refl _)] at hatl
      have hDA : DrI w wa w.heap.size M5 (M5 + 1) (M5 + 1 + 1) #[.slice ai p.ins.length ci, .slice ao p.outs.length co, .slice al p.fl.length cl, .slice aa p.as.length ca, .slice ac p.cs.length cc] p.atOf [] := ⟨HD.out.below, HD.out.pbox, HD.out.res, hatl, HD.out.need⟩
      have hba := (Below.refl wa.heap.size wa).alloc (Nat.le_refl _) (.cells #[.slice aa p.as.length ca, .slice ac p.cs.length cc] 32)
      have HDB := Lib.hid (hDA.later hba)
      have HTD := Lib.hid (HT.out.next hba)
      obtain ⟨⟨m0, m1, m2, m3, m4⟩, _⟩ := cells5_of hDA.pbox
      have hA3 : ∀ i, (wa.alloc (.cells #[.slice aa p.as.length ca, .slice ac p.cs.length cc] 32)).cell? ⟨wa.heap.size, i, none⟩ = (#[.slice aa p.as.length ca, .slice ac p.cs.length cc] : Array Value)[i]? := fun i => World.cell?_alloc_new (w := wa) #[.slice aa p.as.length ca, .slice ac p.cs.length cc] 32 i
      have hzB : wa.heap.size < (wa.alloc (.cells #[.slice aa p.as.length ca, .slice ac p.cs.length cc] 32)).heap.size := by simp
      have HA3 := Lib.hid hA3
      clear hatl hDA hba HD HT HTB HRW HA hA3 hql
      go_wp2_with fail
      generalize wa.alloc (.cells #[.slice aa p.as.length ca, .slice ac p.cs.length cc] 32) = wb at *
      refine (concat_any H [p.as, p.cs] [.slice aa p.as.length ca, .slice ac p.cs.length cc] wa.heap.size 2 wb (hH.below HDB.out.below) rfl (by omega) rfl (by omega) (fun i hi => ?_) (fun i hi hi' => ?_) ?_).mono ?_
      · rw [HA3.out i]; simp at hi ⊢
      · match i, hi with
        | 0, _ => exact H4.out
        | 1, _ => exact H5.out
      · simp [lensum]; omega
      rintro r wc ⟨vC, xsC, rfl, hoC, hxC, hbC⟩
      have hfe : [p.as, p.cs].flatten = p.as ++ p.cs := by simp
      rw [hfe] at hoC hxC
      have HDC := Lib.hid (HDB.out.later hbC)
      have HTC := Lib.hid (HTD.out.next hbC)
      obtain ⟨KC, hleC, hinC, hvC, hknC⟩ := exsV_row (hH.below HDC.out.below) hoC hxC (fun g hg => hH.isNone (by have := (hoC.lt g hg).1; have := HDB.out.below.size; omega))
      obtain ⟨aC, cC, rfl⟩ := hvC.len
      have HVC := Lib.hid hvC
      have HKC := Lib.hid hknC
      have HINC := Lib.hid hinC
      have hlenC : (p.as ++ p.cs).length ≤ 2000000 := by rw [List.length_append]; omega
      have hptC : Ex.partsL (p.as ++ p.cs) ≤ 1000000 := by
        have h : Ex.partsL p.terms = Ex.partsL (p.fl.map (·.e)) + Ex.partsL p.as + Ex.partsL p.cs := by unfold Pr.terms; rw [partsL_app, partsL_app]
        rw [partsL_app]; omega
      have hseer := fun (w0 : World) (h0 : KC.In w0) => todoA_seerK KC w0 TB NB h0 (fun b o e => (HKC.out b o e).imp (fun e2 => by have := hH.lt e2; omega) id)
      have HSEER := Lib.hid hseer
      have HFE := Lib.hid hfe
      obtain ⟨LC, hLC⟩ : ∃ LC, LC = p.as ++ p.cs := ⟨_, rfl⟩
      rw [← hLC] at HVC hlenC hptC
      have HLC := Lib.hid hLC
      rw [← hLC]
      clear hbC hoC hxC hleC hinC hvC hknC HDB HTD HA3 hseer m0 m1 m2 m3 m4 hfe hLC HFE hzB
      go_wp2_with fail
      go_loopw [55] (fun i wr => ∃ (q : Nat) (ac2 : List ByteArray), i = .int .i64 q ∧ q ≤ LC.length ∧ ac2 = acc ++ namesXL (LC.take q) ∧ KC.In wr ∧ DrI w wr w.heap.size M5 (M5 + 1) (M5 + 1 + 1) #[.slice ai p.ins.length ci, .slice ao p.outs.length co, .slice al p.fl.length cl, .slice aa p.as.length ca, .slice ac p.cs.length cc] p.atOf [] ∧ TdI wr wr TB NB ac2) (fun i _ => LC.length - (intOf i).toNat)
      case atStart => exact ⟨0, _, rfl, Nat.zero_le _, by simp [namesXL], HINC.out, HDC.out, HTC.out.rebase⟩
      case round =>
        clear HDC HTC HINC
        obtain ⟨q, ac2, rfl, hq, hac, hkin, hD, hT⟩ := hrel
        have HD := Lib.hid hD
        have HT := Lib.hid hT
        have HA := Lib.hid hac
        have HK := Lib.hid hkin
        have hnl2 := namesXL_len (LC.take q)
        have hacl : ac2.length + Ex.partsL LC ≤ 10000000 := by
          have h2 := partsL_tk LC q
          rw [hac, List.length_append]
          omega
        clear hD hT hac hkin hnl2
        by_cases hql : q < LC.length
        · obtain ⟨b, off, ax, cx, rfl, c0, c1, c2, c3, hx⟩ := ExsV.at HVC.out hql
          obtain ⟨x, hxe⟩ : ∃ x, LC[q] = x := ⟨_, rfl⟩
          have hxp := partsL_tkl LC q hql
          rw [hxe] at c0 c1 c2 c3 hx hxp
          have c0 := HK.out.cell c0
          have c1 := HK.out.cell c1
          have c2 := HK.out.cell c2
          have c3 := HK.out.cell c3
          have HNX := Lib.hid (show acc ++ namesXL (LC.take (q + 1)) = ac2 ++ namesX x from by rw [namesXL_take _ _ hql, hxe, HA.out, List.append_assoc])
          have hba := (Below.refl wr.heap.size wr).alloc (Nat.le_refl _) (.cells #[.string x.op, .int .i64 x.n, .string x.s, .slice ax x.l.length cx] 45)
          have HDA := Lib.hid (HD.out.later hba)
          have HTA := Lib.hid (HT.out.next hba).rebase
          have HKA := Lib.hid (HK.out.below hba)
          have HBX := Lib.hid (heap_alloc_new wr (.cells #[.string x.op, .int .i64 x.n, .string x.s, .slice ax x.l.length cx] 45))
          obtain ⟨z0, z1, z2, z3, _⟩ := cells4_of HBX.out
          have HEX := Lib.hid hx
          have hlow : DrLow w NB w.heap.size M5 (M5 + 1) (M5 + 1 + 1) := ⟨by omega, by omega, by omega, by omega, by omega⟩
          clear hxe hx hba
          go_wp2_with fail
          generalize wr.alloc (.cells #[.string x.op, .int .i64 x.n, .string x.s, .slice ax x.l.length cx] 45) = wA at *
          refine (snames_any _ _ KC _ (HSEER.out wA HKA.out) x _ HEX.out ac2 wA (by omega) ⟨HTA.out, fun _ _ _ h => h⟩).mono ?_
          rintro r wn ⟨rfl, ⟨hTn, hFn⟩, _⟩
          have HDN := Lib.hid (HDA.out.under hlow hTn.below)
          have HKN := Lib.hid ((HSEER.out wA HKA.out).isin _ _ ⟨hTn, hFn⟩)
          have HTN := Lib.hid hTn.rebase
          clear hTn hFn
          go_wp2_with fail
          go_roundw
          case rel => exact ⟨q + 1, ac2 ++ namesX x, by go_num, by omega, HNX.out.symm, HKN.out, HDN.out, HTN.out⟩
          case measure => simp [intOf]; omega
        · obtain rfl : q = LC.length := by omega
          obtain ⟨wd, hwd⟩ : ∃ wd, wd = wr := ⟨_, rfl⟩
          subst hwd
          have hroot : ac2 = rootsM p := by
            have h := HA.out
            rw [List.take_of_length_le (Nat.le_refl _)] at h
            rw [h, HAR.out, HLC.out]
            rfl
          obtain ⟨FU, hFU⟩ : ∃ FU, FU = 1 + (rootsM p).length + restN [] p.fl := ⟨_, rfl⟩
          have HND := Lib.hid (show needN p.fl FU (rootsM p).reverse [] = needM p from by rw [hFU]; rfl)
          have hfub : FU ≤ 200000000 := by omega
          have hfu2 : (rootsM p).length + restN [] p.fl < FU := by omega
          rw [hroot] at HT
          clear HK HA HAR HLC HVC HKC HSEER hFU hql hroot
          go_wp2_with fail
          go_loopg [12] FU (fun f u12 wr => ∃ td nd, DrI w wr w.heap.size M5 (M5 + 1) (M5 + 1 + 1) #[.slice ai p.ins.length ci, .slice ao p.outs.length co, .slice al p.fl.length cl, .slice aa p.as.length ca, .slice ac p.cs.length cc] p.atOf nd ∧ TdI wr wr TB NB td ∧ needN p.fl f td.reverse nd = needM p ∧ td.length + restN nd p.fl < f ∧ f ≤ FU)
          case atStart => exact ⟨rootsM p, [], HD.out, HT.out, HND.out, hfu2, Nat.le_refl _⟩
          case round =>
            clear HD HT HND hfu2
            obtain ⟨td, nd, hD, hT, hnd, hlt, hfu⟩ := hrel
            have HD := Lib.hid hD
            have HT := Lib.hid hT
            have HN := Lib.hid hnd
            have HLT := Lib.hid hlt
            obtain ⟨vt, htb, hrw⟩ := hT.box
            have htd : td.length ≤ 200000000 := by omega
            clear hD hT hnd hlt
            rcases List.eq_nil_or_concat td with rfl | ⟨t0, s, rfl⟩
            · obtain ⟨av, cv, rfl, _⟩ := own_len hrw
              have ht0 : wr.cell? ⟨TB, 0, none⟩ = some (.slice av 0 cv) := by simp [World.cell?, htb]
              have HNE := Lib.hid (show nd = needM p from by
                have h := HN.out
                obtain ⟨f0, hf0⟩ : ∃ f0, gk = f0 + 1 := ⟨gk - 1, by have := HLT.out; omega⟩
                rw [hf0] at h
                exact h)
              obtain ⟨⟨m0, m1, m2, m3, m4⟩, _⟩ := cells5_of HD.out.pbox
              clear htb hrw HT HN HLT
              go_wp2_with fail
              refine (each_any 23 #[] (fun _ => none) id (fun _ => True) (dropId_how _) p _ _ _ _ _ H HP.out ⟨by omega, by omega, by omega, by omega⟩ (fun _ _ => trivial) wr (hH.below HD.out.below) (fun b o e => by cases e)).mono ?_
              rintro r we ⟨vi', vo', uL, va', vc', xL, Ke, rfl, hbe, hKe, hlo, hin, ⟨hou, _⟩, hrL, hxL, hnL, hva, hvc, huf⟩
              rw [mapF_id, List.map_id] at hxL
              rw [List.map_id] at hva hvc
              obtain ⟨a1, c1, rfl⟩ := hin.len
              obtain ⟨a2, c2, rfl⟩ := hou.len
              obtain ⟨aL, cL, rfl, hcL, hcL2⟩ := own_len hrL
              obtain ⟨a4, c4, rfl⟩ := hva.len
              obtain ⟨a5, c5, rfl⟩ := hvc.len
              obtain ⟨rs, hrs, rfl⟩ := RowF.of hxL
              have hbx := (Below.refl we.heap.size we).alloc (Nat.le_refl _) (.cells #[.slice a1 p.ins.length c1, .slice a2 p.outs.length c2, .slice aL p.fl.length cL, .slice a4 p.as.length c4, .slice a5 p.cs.length c5] 34)
              have HDX := Lib.hid ((HD.out.later hbe).later hbx)
              have HBX := Lib.hid (heap_alloc_new we (.cells #[.slice a1 p.ins.length c1, .slice a2 p.outs.length c2, .slice aL p.fl.length cL, .slice a4 p.as.length c4, .slice a5 p.cs.length c5] 34))
              have HKX := Lib.hid (hKe.below hbx)
              have HRL := Lib.hid (own_below hrL hbx)
              have HIN := Lib.hid (And.intro hin (And.intro hou (And.intro hva hvc)))
              have HRS := Lib.hid hrs
              have HNL := Lib.hid hnL
              have hbw := HD.out.below.size
              have HLO := Lib.hid (show ∀ b, b < w.heap.size → Ke b = none from fun b hb => hlo b (by omega))
              have hzX : we.heap.size < (we.alloc (.cells #[.slice a1 p.ins.length c1, .slice a2 p.outs.length c2, .slice aL p.fl.length cL, .slice a4 p.as.length c4, .slice a5 p.cs.length c5] 34)).heap.size := by simp
              have hKE : Ke we.heap.size = none := hKe.isNone (Nat.le_refl _)
              have HLW := Lib.hid hlo
              have hwe := hbe.size
              have hRlt := HD.out.low.2.1
              clear hbe hKe hlo hin hou hrL hxL hnL hva hvc hbx hrs HD
              go_wp2_with fail
              generalize we.alloc (.cells #[.slice a1 p.ins.length c1, .slice a2 p.outs.length c2, .slice aL p.fl.length cL, .slice a4 p.as.length c4, .slice a5 p.cs.length c5] 34) = wX at *
              generalize we.heap.size = E15 at *
              have hneed : NeedI (M5 + 1 + 1) (M5 + 1) (needM p) wX := by rw [← HNE.out]; exact HDX.out.need
              refine (delFl_any Ke (M5 + 1 + 1) (M5 + 1) (needM p) p.fl rs HRS.out _ wr.heap.size wX HRL.out HKX.out HNL.out hneed (by omega) (by omega)).mono ?_
              rintro r wf ⟨u', KF, rfl, hFl, hle, hinF, hkn, hkF, hbF⟩
              obtain ⟨aF, cF, rfl⟩ := hFl.len
              have hneE : (Value.slice aL p.fl.length cL).ownBlock ≠ some E15 := own_typeS HRL.out HBX.out (by decide)
              have hbE := (hkF E15 hzX hneE).trans HBX.out
              have hbR := (hbF.block (w.heap.size + 1) hRlt).trans HDX.out.res
              have hKFE : KF E15 = none := (hkn E15 hneE).trans hKE
              have hKFR : KF (w.heap.size + 1) = none := (hkn _ (own_ge HRL.out hRlt)).trans (HLW.out _ hRlt)
              obtain ⟨⟨j0, j1, j2, j3, j4⟩, fj0, fj1, fj2, fj3, fj4⟩ := cells5_of hbE
              have hbE2 := heap_setCell_same wf E15 2 (.slice aF (p.fl.filter fun f => decide (f.name ∈ needM p)).length cF) _ _ _ hbE
              have hbE3 : (wf.setCell ⟨E15, 2, none⟩ (.slice aF (p.fl.filter fun f => decide (f.name ∈ needM p)).length cF)).heap[E15]? = some (.cells #[.slice a1 p.ins.length c1, .slice a2 p.outs.length c2, .slice aF (p.fl.filter fun f => decide (f.name ∈ needM p)).length cF, .slice a4 p.as.length c4, .slice a5 p.cs.length c5] 34 (0, 0)) := hbE2
              have hbR2 := (Below.heap_setCell wf ⟨E15, 2, none⟩ (.slice aF (p.fl.filter fun f => decide (f.name ∈ needM p)).length cF) (w.heap.size + 1) (by show w.heap.size + 1 ≠ E15; omega)).trans hbR
              obtain ⟨⟨k0, k1, k2, k3, k4⟩, _⟩ := cells5_of hbE3
              obtain ⟨⟨r0, r1, r2, r3, r4⟩, f0, f1, f2, f3, f4⟩ := cells5_of hbR2
              have HR9 := Lib.hid (set5_of hbR2 (.slice a1 p.ins.length c1) (.slice a2 p.outs.length c2) (.slice aF (p.fl.filter fun f => decide (f.name ∈ needM p)).length cF) (.slice a4 p.as.length c4) (.slice a5 p.cs.length c5))
              have HIN9 := Lib.hid (in5 (hinF.setCell (a := ⟨E15, 2, none⟩) hKFE (.slice aF (p.fl.filter fun f => decide (f.name ∈ needM p)).length cF)) hKFR (.slice a1 p.ins.length c1) (.slice a2 p.outs.length c2) (.slice aF (p.fl.filter fun f => decide (f.name ∈ needM p)).length cF) (.slice a4 p.as.length c4) (.slice a5 p.cs.length c5))
              have HB9 := Lib.hid (below5 ((HDX.out.below.trans (hbF.mono (by omega))).setCell (p := ⟨E15, 2, none⟩) (by show w.heap.size ≤ E15; omega) (.slice aF (p.fl.filter fun f => decide (f.name ∈ needM p)).length cF)) (Nat.le_succ w.heap.size) (.slice a1 p.ins.length c1) (.slice a2 p.outs.length c2) (.slice aF (p.fl.filter fun f => decide (f.name ∈ needM p)).length cF) (.slice a4 p.as.length c4) (.slice a5 p.cs.length c5))
              have HPR := Lib.hid (show PrP KF (dropM p) (.slice a1 p.ins.length c1) (.slice a2 p.outs.length c2) (.slice aF (p.fl.filter fun f => decide (f.name ∈ needM p)).length cF) (.slice a4 p.as.length c4) (.slice a5 p.cs.length c5) from
                ⟨SlV.le HIN.out.1 hle VrC.mono, SlV.le HIN.out.2.1 hle StrC.mono, hFl, HIN.out.2.2.1.le hle, HIN.out.2.2.2.le hle⟩)
              have HLF := Lib.hid (show ∀ b, b < w.heap.size → KF b = none from fun b hb => (hkn b (own_ge HRL.out (by omega))).trans (HLO.out b hb))
              generalize (p.fl.filter fun f => decide (f.name ∈ needM p)).length = nF at *
              clear hFl hle hinF hkn hkF hbF hneE hbE hbR hKFE hKFR hbE2 hbE3 hbR2 hneed
              go_wp2_with fail
              obtain ⟨⟨e0, e1, e2, e3, e4⟩, _⟩ := cells5_of HR9.out
              refine bodyPost_ret (v := .tuple #[.agg #[.slice a1 p.ins.length c1, .slice a2 p.outs.length c2, .slice aF nF cF, .slice a4 p.as.length c4, .slice a5 p.cs.length c5], .nilIface]) (by simp [results, Tryd.results6, go_sem, e0, e1, e2, e3, e4]) rfl ?_
              exact ⟨HB9.out, .inl ⟨HC0.out, _, _, _, _, _, KF, rfl, HPR.out, HIN9.out, HLF.out⟩⟩
            · have hnd := HN.out
              have hlt := HLT.out
              simp only [List.concat_eq_append, List.reverse_append, List.reverse_cons, List.reverse_nil, List.nil_append, List.singleton_append, List.length_append, List.length_cons, List.length_nil, Nat.zero_add, List.map_append, List.map_cons, List.map_nil] at hnd hlt hrw htd
              obtain ⟨g, cap, rfl, hcap1, hcap2, hgb, hgl, hgc⟩ := own_shape hrw (by omega)
              have ht0 : wr.cell? ⟨TB, 0, none⟩ = some (.slice (some ⟨g, 0, none⟩) (t0.length + 1) cap) := by simp [World.cell?, htb]
              have hft : wr.frozen? ⟨TB, 0, none⟩ = false := by simp [World.frozen?, htb]
              have hs : wr.cell? ⟨g, t0.length, none⟩ = some (.string s) := hgc t0.length (.string s) (by simp)
              have hpop := own_pop hrw
              have hgT : g ≠ TB := fun e => own_typeS hrw htb (by decide) (by rw [e]; rfl)
              have HTP := Lib.hid (show TdI (wr.setCell ⟨TB, 0, none⟩ (.slice (some ⟨g, 0, none⟩) t0.length cap)) (wr.setCell ⟨TB, 0, none⟩ (.slice (some ⟨g, 0, none⟩) t0.length cap)) TB NB t0 from
                ⟨Below.refl _ _, HT.out.tlt, _, heap_setCell_same wr TB 0 (.slice (some ⟨g, 0, none⟩) t0.length cap) _ _ _ htb, own_setCell hpop (a := ⟨TB, 0, none⟩) (by show (Value.slice (some ⟨g, 0, none⟩) t0.length cap).ownBlock ≠ some TB; simp [Value.ownBlock]; exact hgT) _⟩)
              have hlow : DrLow w NB w.heap.size M5 (M5 + 1) (M5 + 1 + 1) := by
                have h1 := HD.out.below.size
                exact ⟨by omega, by omega, by omega, by omega, by omega⟩
              have HDP := Lib.hid (HD.out.under hlow ((Below.refl NB wr).setCell (p := ⟨TB, 0, none⟩) HT.out.tlt (.slice (some ⟨g, 0, none⟩) t0.length cap)))
              have HNB := Lib.hid hnd
              have HLB := Lib.hid hlt
              clear hnd hlt hrw hgc hpop hgT HN HLT HT HD
              go_wp2_with fail
              generalize wr.setCell ⟨TB, 0, none⟩ (.slice (some ⟨g, 0, none⟩) t0.length cap) = wp at *
              have hrun1 := HDP.out.at_.run (P := Tryd.prog) Tryd.underlying52 Tryd.underlying9 (d := 0) (by kernel_rfl) s true
              simp only [if_true, natV] at hrun1
              have hrun2 := HDP.out.need.2.run (P := Tryd.prog) Tryd.underlying53 Tryd.underlying9 (d := false) (by kernel_rfl) s false
              rw [ndEnv_get] at hrun2
              simp only [Bool.false_eq_true, if_false] at hrun2
              have t6 : wp.cell? ⟨M5 + 1 + 1, 0, none⟩ = some (.map (some (M5 + 1))) := by have h := HDP.out.need.1; simp [World.cell?, h]
              clear ht0 hft hs htb
              cases hat : p.atOf s with
              | none =>
                rw [hat] at hrun1
                simp only [Option.getD_none, Option.isSome_none] at hrun1
                have HNX := Lib.hid (at_none hat)
                clear hat hrun2
                rw [hrun1]
                go_wp2_with fail
                go_roundg (gk - 1)
                case rel =>
                  obtain ⟨f0, rfl⟩ : ∃ f0, gk = f0 + 1 := ⟨gk - 1, by have := HLB.out; omega⟩
                  exact ⟨t0, nd, HDP.out, HTP.out, by rw [← HNB.out]; simp [needN, HNX.out], by have := HLB.out; omega, by omega⟩
                case measure => have := HLB.out; omega
              | some i =>
                rw [hat] at hrun1
                simp only [Option.getD_some, Option.isSome_some] at hrun1
                obtain ⟨hi, hnm, hex⟩ := at_some hnd0 hat
                have HEX0 := Lib.hid hex
                clear hat hnm hex
                by_cases hin : s ∈ nd
                · rw [decide_eq_true hin] at hrun2
                  rw [hrun1]
                  go_wp2_with fail
                  go_roundg (gk - 1)
                  case rel =>
                    obtain ⟨f0, rfl⟩ : ∃ f0, gk = f0 + 1 := ⟨gk - 1, by have := HLB.out; omega⟩
                    exact ⟨t0, nd, HDP.out, HTP.out, by rw [← HNB.out]; simp [needN, HEX0.out, hin], by have := HLB.out; omega, by omega⟩
                  case measure => have := HLB.out; omega
                · rw [decide_eq_false hin] at hrun2
                  obtain ⟨⟨m0, m1, m2, m3, m4⟩, _⟩ := cells5_of HDP.out.pbox
                  have hHp := hH.below HDP.out.below
                  have hl1 := HDP.out.low
                  obtain ⟨l1, l2, l3, l4, l5⟩ := hl1
                  have htn := HTP.out.tlt
                  obtain ⟨vt, htb, hrw⟩ := HTP.out.box
                  have HTB := Lib.hid htb
                  have HRW := Lib.hid hrw
                  obtain ⟨b, off, cap0, he, _, _, hcs⟩ := FlsV.cell H3.out (fun e => by rw [e] at hi; simp at hi)
                  cases he
                  obtain ⟨ax, cx, _, _, d2, d3, d4, d5, hx⟩ := hcs i hi
                  have hiI : (i : Int) < p.fl.length := by omega
                  have hpx : p.fl[i].e.parts ≤ 1000000 := by
                    have h1 : Ex.partsL (p.fl.map (·.e)) ≤ Ex.partsL p.terms := by unfold Pr.terms; rw [partsL_app, partsL_app]; omega
                    have := getElem_parts (p.fl.map (·.e)) i (by simpa using hi)
                    simp at this
                    omega
                  generalize p.fl[i].e = x at *
                  have HEX := Lib.hid (show ExV H x (.agg #[.string x.op, .int .i64 x.n, .string x.s, .slice ax x.l.length cx]) from ⟨_, rfl, hx⟩)
                  clear htb hrw hcs hx
                  rw [hrun1]
                  go_wp2_with (at_mapUpdate; refine wp_store Value.bool 53 9 4 Tryd.underlying53 Tryd.underlying9 (M5 + 1) _ HDP.out.need.2 _ _ _ rfl rfl rfl s rfl true rfl ?_; intro w7 hM7 hT7; rw [ndEnv_set] at hM7; have hD7 := HDP.out.needTurn (by omega) hT7 hM7; have hPB := (cells5_of hD7.pbox).1; obtain ⟨m0, m1, m2, m3, m4⟩ := hPB; have hH7 := hH.below hD7.below; have d2 := hH7.cell d2; have d3 := hH7.cell d3; have d4 := hH7.cell d4; have d5 := hH7.cell d5)
                  have hT7d : TdI w7 w7 TB NB t0 := ⟨Below.refl _ _, htn, vt, (hT7.block (by omega)).trans HTB.out, own_turned HRW.out hT7 (own_ge HRW.out (by omega))⟩
                  refine (snames_any _ _ H _ (todoB_seerK H w7 TB NB hH7 (fun b o e => .inl (by have := hH.lt e; omega))) x _ HEX.out t0 w7 (by omega) ⟨hT7d, fun _ _ _ h => h⟩).mono ?_
                  rintro r wn ⟨rfl, ⟨hTn, _⟩, _⟩
                  have HDN := Lib.hid (hD7.under hlow hTn.below)
                  have HTN := Lib.hid hTn.rebase
                  clear hTn hT7d hD7 hM7 hT7 m0 m1 m2 m3 m4 d2 d3 d4 d5 HTB HRW HDP HTP
                  go_wp2_with fail
                  go_roundg (gk - 1)
                  case rel =>
                    obtain ⟨f0, rfl⟩ : ∃ f0, gk = f0 + 1 := ⟨gk - 1, by have := HLB.out; omega⟩
                    have hrs := restN_step HEX0.out hin
                    exact ⟨t0 ++ namesX x, s :: nd, HDN.out, HTN.out, by rw [← HNB.out]; simp [needN, HEX0.out, hin], by have := HLB.out; rw [List.length_append]; omega, by omega⟩
                  case measure => have := HLB.out; omega
end Go.Proofs.YthihoafemahgmaaDoor
