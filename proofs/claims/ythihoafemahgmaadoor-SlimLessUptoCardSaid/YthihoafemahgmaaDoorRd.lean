/- A program that came in, of a bulk, read: its terms, flows, names. -/
import Derived.Test.YthihoafemahgmaaDoorRows
import Derived.Test.YthihoafemahgmaaDoorEof
import Derived.Test.YthihoafemahgmaaDoorLaid
import Derived.OpenShut
import Derived.LaidMore
import Derived.Lib.SmallJoins
import Derived.Stop.Joined
import Derived.Deep.Strs
namespace Go.Proofs.YthihoafemahgmaaDoor
open Go.ChangeShapes Go.WideShapes Go.ChangeAt Go.RowKit Go.Deep Mx
open Go.Joins (trod_struct4)
theorem bulk_one {H : Type} (d : DataW H) : 1 ≤ Rows.uptoBulk d := by
  cases d with
  | lit l => cases l <;> simp [Rows.uptoBulk]
  | nil => simp [Rows.uptoBulk]
  | ptr d => simp [Rows.uptoBulk]
  | slice elems spare => simp [Rows.uptoBulk]
  | agg parts => simp [Rows.uptoBulk]
  | iface t d => simp [Rows.uptoBulk]
  | map entries => simp [Rows.uptoBulk]
  | held h => simp [Rows.uptoBulk]
theorem bulk_part {H : Type} {d : DataW H} {l : List (DataW H)} (h : d ∈ l) : Rows.uptoBulk d ≤ Rows.uptoBulkAll l := by
  induction l with
  | nil => cases h
  | cons x r ih =>
    simp only [Rows.uptoBulkAll]
    rcases List.mem_cons.1 h with e | e
    · subst e; omega
    · have := ih e; omega
theorem bulk_sum {H α : Type} (f : Nat → α) (wt : α → Nat) (D : Nat → DataW H) : ∀ L : List Nat, (∀ i ∈ L, wt (f i) ≤ Rows.uptoBulk (D i)) → ((L.map f).map wt).sum ≤ Rows.uptoBulkAll (L.map D)
  | [], _ => by simp
  | i :: L, h => by
    have h1 := h i (List.mem_cons_self ..)
    have h2 := bulk_sum f wt D L fun j hj => h j (List.mem_cons_of_mem _ hj)
    simp only [List.map_cons, List.sum_cons, Rows.uptoBulkAll]
    omega
theorem rd_add (b off j : Nat) : (⟨b, off, none⟩ : Addr).add j = ⟨b, off + j, none⟩ := by unfold Addr.add; split <;> simp_all
theorem exsAt_of_get {H : Kn} : ∀ {l : List Ex} {b off : Nat}, (∀ i (h : i < l.length), ExAt H l[i] (fun j => H.cell b (off + i * 4 + j))) → ExsAt H l b off
  | [], _, _, _ => by simp only [ExsAt]
  | e :: l, b, off, h => by
    simp only [ExsAt]
    refine ⟨by have h0 := h 0 (by simp); simp only [Nat.zero_mul, Nat.add_zero] at h0; exact h0, exsAt_of_get fun i hi => ?_⟩
    have := h (i + 1) (by simpa using hi)
    rw [show off + 4 + i * 4 = off + (i + 1) * 4 from by omega]
    exact this
theorem exsV_of_sl {H : Kn} {l : List Ex} {v : Value} (h : SlV H 4 (ExAt H) l v) : ExsV H l v :=
  h.imp id fun ⟨b, off, cap, h1, h2, h3, h4⟩ => ⟨b, off, cap, h1, h2, h3, exsAt_of_get h4⟩
theorem sum_weight : ∀ l : List Ex, (l.map Ex.weight).sum = Ex.weightL l
  | [] => rfl
  | e :: l => by simp only [List.map_cons, List.sum_cons, Ex.weightL, sum_weight l]
theorem sum_weightF : ∀ l : List Fl, (l.map fun x => x.e.weight).sum = Ex.weightL (l.map (·.e))
  | [] => rfl
  | e :: l => by simp only [List.map_cons, List.sum_cons, Ex.weightL, sum_weightF l]
theorem sum_ones {α : Type} : ∀ l : List α, (l.map fun _ => 1).sum = l.length
  | [] => rfl
  | e :: l => by simp only [List.map_cons, List.sum_cons, List.length_cons, sum_ones l]; omega
instance : Inhabited Ex := ⟨.mk ⟨#[]⟩ 0 ⟨#[]⟩ []⟩
instance : Inhabited Vr := ⟨⟨⟨#[]⟩, 0⟩⟩
instance : Inhabited Fl := ⟨⟨⟨#[]⟩, 0, default⟩⟩
section
variable {H : Type} {enc : TypeId × Value → H} {W : World} {spare : Nat → Bool} {held : Bool}
theorem read_slice {α : Type} [Inhabited α] {t e : TypeId} {k : Nat} (ht : Tryd.prog.underlying t = some (.slice e)) (hk : Tryd.prog.cellsOf e = k) (h0 : 0 < k) (R : α → (Nat → Option Value) → Prop) (hR : ∀ x f g, (∀ j u, f j = some u → g j = some u) → R x f → R x g) (hS : ∀ x f, R x f → ∀ (a : Addr) (W : World), W.cell? a = f 0 → a.spot = none) (wt : α → Nat) (B : Nat)
    (hel : ∀ n cs (y : DataW H × List MemPlace), DataW.trod enc Tryd.prog W 0 spare held n e cs = some y → Rows.uptoBulk y.1 < B → ∃ x, R x (fun j => cs[j]?) ∧ wt x ≤ Rows.uptoBulk y.1)
    {n : Nat} {cs : List Value} {y : DataW H × List MemPlace} (h : DataW.trod enc Tryd.prog W 0 spare held n t cs = some y) (hB : Rows.uptoBulk y.1 ≤ B) :
    ∃ l v, cs = [v] ∧ SlV (allKn W) k R l v ∧ (l.map wt).sum < Rows.uptoBulk y.1 := by
  rcases open_slice ht h with ⟨rfl, rfl⟩ | ⟨a, len, cap, m, n, D, Pl, rfl, hb, hlc, hcm, hm, rfl, hx⟩
  · exact ⟨[], _, rfl, .inl ⟨rfl, _, _, rfl⟩, by simp [Rows.uptoBulk]⟩
  · have hlm : len ≤ m := by rw [hm]; split <;> omega
    rw [hk] at hx
    have hBd : Rows.uptoBulk (DataW.slice ((List.range len).map D) ((List.range (m - len)).map fun j => D (len + j))) = Rows.uptoBulkAll ((List.range len).map D) + Rows.uptoBulkAll ((List.range (m - len)).map fun j => D (len + j)) + 1 := by simp only [Rows.uptoBulk]
    dsimp only at hB ⊢
    rw [hBd] at hB ⊢
    obtain ⟨f, hf⟩ := choose_lt (p := fun i (x : α) => (∃ cs', W.cells? 0 (a.add (i * k)) k = some cs' ∧ R x (fun j => cs'[j]?)) ∧ wt x ≤ Rows.uptoBulk (D i)) (n := len) (fun i hi => by
      obtain ⟨cs', h1, h2⟩ := hx i (by omega)
      have hp := bulk_part (d := D i) (l := (List.range len).map D) (List.mem_map.2 ⟨i, List.mem_range.2 hi, rfl⟩)
      obtain ⟨x, hr, hw⟩ := hel _ _ _ h2 (by dsimp only; omega)
      exact ⟨x, ⟨cs', h1, hr⟩, hw⟩)
    have hsum := bulk_sum f wt D (List.range len) fun i hi => (hf i (List.mem_range.1 hi)).2
    refine ⟨(List.range len).map f, _, rfl, ?_, by omega⟩
    by_cases hl0 : len = 0
    · subst hl0
      exact .inl ⟨rfl, _, _, rfl⟩
    · have hsp : a.spot = none := by
        obtain ⟨cs', h1, hr⟩ := (hf 0 (by omega)).1
        obtain ⟨_, _, hc⟩ := World.cells?_some h1
        have h2 := hc 0 h0
        have e0 : (a.add (0 * k)).add 0 = a := by simp [Addr.add]
        rw [e0] at h2
        exact hS _ _ hr a W h2
      obtain ⟨b, off, sp⟩ := a
      dsimp only at hsp
      subst hsp
      refine .inr ⟨b, off, cap, by simp, by simpa using hlc, hcm, fun i hi => ?_⟩
      have hi' : i < len := by simpa using hi
      obtain ⟨cs', h1, hr⟩ := (hf i hi').1
      obtain ⟨_, hlen, hc⟩ := World.cells?_some h1
      rw [show ((List.range len).map f)[i] = f i from by simp]
      refine hR _ _ _ (fun j u hju => ?_) hr
      have hj : j < k := by
        rcases Nat.lt_or_ge j cs'.length with hlt | hge
        · omega
        · rw [List.getElem?_eq_none hge] at hju; cases hju
      have h2 := hc j hj
      rw [hju, rd_add, rd_add] at h2
      rw [allKn_cell]
      exact h2
theorem cellsStr : Tryd.prog.cellsOf 9 = 1 := by kernel_rfl
theorem cellsInt1 : Tryd.prog.cellsOf 3 = 1 := by kernel_rfl
theorem cellsEx : Tryd.prog.cellsOf 51 = 4 := by kernel_rfl
theorem cellsVr : Tryd.prog.cellsOf 93 = 2 := by kernel_rfl
theorem cellsFl : Tryd.prog.cellsOf 67 = 6 := by kernel_rfl
theorem cellsExs : Tryd.prog.cellsOf 25 = 1 := by kernel_rfl
theorem cellsVrs : Tryd.prog.cellsOf 22 = 1 := by kernel_rfl
theorem cellsFls : Tryd.prog.cellsOf 24 = 1 := by kernel_rfl
theorem cellsStrs : Tryd.prog.cellsOf 23 = 1 := by kernel_rfl
theorem cellsPr : Tryd.prog.cellsOf 27 = 5 := by kernel_rfl
set_option maxRecDepth 100000 in
theorem read_ex : ∀ (B n : Nat) (cs : List Value) (y : DataW H × List MemPlace), DataW.trod enc Tryd.prog W 0 spare held n 51 cs = some y → Rows.uptoBulk y.1 ≤ B → ∃ e : Ex, ExAt (allKn W) e (fun j => cs[j]?) ∧ e.weight ≤ Rows.uptoBulk y.1 := by
  intro B
  induction B with
  | zero => intro n cs y _ hB; have := bulk_one y.1; omega
  | succ B ih =>
    intro n cs y h hB
    obtain ⟨y0, y1, y2, y3, m, rfl, hl, h0, h1, h2, h3⟩ := trod_struct4 Tryd.underlying51 h
    rw [cellsEx] at hl
    match cs, hl with
    | [a, b, c, d], _ =>
      dsimp only at h0 h1 h2 h3 hB
      rw [cellsStr] at h0 h2
      rw [cellsInt1] at h1
      rw [cellsExs] at h3
      obtain ⟨s0, e0, f0, _⟩ := DataW.trod_string Tryd.underlying9 h0
      obtain ⟨k, e1, f1, _⟩ := DataW.trod_int Tryd.underlying3 h1
      obtain ⟨s2, e2, f2, _⟩ := DataW.trod_string Tryd.underlying9 h2
      have e0' : [a] = [Value.string s0] := e0
      have e1' : [b] = [Value.int .i64 k] := e1
      have e2' : [c] = [Value.string s2] := e2
      cases e0'
      cases e1'
      cases e2'
      simp only [Rows.uptoBulk, Rows.uptoBulkAll] at hB
      obtain ⟨l, v, e3, hs, hw⟩ := read_slice Tryd.underlying25 cellsEx (by omega) (ExAt (allKn W)) (fun x f g hfg hx => ExAt.le (fun _ _ q => q) x f g hfg hx) (fun x f hx a W h => by obtain ⟨u, q, _⟩ := hx.cells; exact cell_place (h.trans q)) Ex.weight B (fun n cs y hy hlt => ih n cs y hy (by omega)) h3 (by omega)
      have e3' : [d] = [v] := e3
      cases e3'
      refine ⟨.mk s0 k s2 l, ExAt.mk rfl rfl rfl rfl (exsV_of_sl hs), ?_⟩
      rw [sum_weight] at hw
      rw [f2]
      have hsz : s2.data.toList.length = s2.size := by rw [Array.length_toList]; rfl
      simp only [Rows.uptoBulk, Rows.uptoBulkAll, Ex.weight]
      omega
set_option maxRecDepth 100000 in
theorem read_vr (n : Nat) (cs : List Value) (y : DataW H × List MemPlace) (h : DataW.trod enc Tryd.prog W 0 spare held n 93 cs = some y) : ∃ x : Vr, VrC x (fun j => cs[j]?) ∧ 1 ≤ Rows.uptoBulk y.1 := by
  obtain ⟨y0, y1, m, rfl, hl, h0, h1⟩ := trod_struct2 Tryd.underlying93 h
  rw [cellsVr] at hl
  match cs, hl with
  | [a, b], _ =>
    dsimp only at h0 h1
    rw [cellsStr] at h0
    rw [cellsInt1] at h1
    obtain ⟨s0, e0, f0, _⟩ := DataW.trod_string Tryd.underlying9 h0
    obtain ⟨k, e1, f1, _⟩ := DataW.trod_int Tryd.underlying3 h1
    have e0' : [a] = [Value.string s0] := e0
    have e1' : [b] = [Value.int .i64 k] := e1
    cases e0'
    cases e1'
    exact ⟨⟨s0, k⟩, ⟨rfl, rfl⟩, bulk_one _⟩
set_option maxRecDepth 100000 in
theorem read_fl (n : Nat) (cs : List Value) (y : DataW H × List MemPlace) (h : DataW.trod enc Tryd.prog W 0 spare held n 67 cs = some y) : ∃ x : Fl, FlC (allKn W) x (fun j => cs[j]?) ∧ x.e.weight ≤ Rows.uptoBulk y.1 := by
  obtain ⟨y0, y1, y2, m, rfl, hl, h0, h1, h2⟩ := trod_struct3 Tryd.underlying67 h
  rw [cellsFl] at hl
  match cs, hl with
  | [a, b, c, d, e, f], _ =>
    dsimp only at h0 h1 h2
    rw [cellsStr] at h0
    rw [cellsInt1] at h1
    rw [cellsEx] at h2
    obtain ⟨s0, e0, f0, _⟩ := DataW.trod_string Tryd.underlying9 h0
    obtain ⟨k, e1, f1, _⟩ := DataW.trod_int Tryd.underlying3 h1
    have e0' : [a] = [Value.string s0] := e0
    have e1' : [b] = [Value.int .i64 k] := e1
    cases e0'
    cases e1'
    obtain ⟨x, hx, hw⟩ := read_ex _ _ _ _ h2 (Nat.le_refl _)
    refine ⟨⟨s0, k, x⟩, ⟨rfl, rfl, ExAt.le (fun _ _ q => q) _ _ _ (fun j u hj => ?_) hx⟩, ?_⟩
    · match j, hj with
      | 0, hj => exact hj
      | 1, hj => exact hj
      | 2, hj => exact hj
      | 3, hj => exact hj
    · simp only [Rows.uptoBulk, Rows.uptoBulkAll]
      omega
theorem trod_struct5 {t : TypeId} {f0 f1 f2 f3 f4 : Field} {fuel : Nat} {cs : List Value} {x : DataW H × List MemPlace} (ht : Tryd.prog.underlying t = some (.struct #[f0, f1, f2, f3, f4])) (h : DataW.trod enc Tryd.prog W 0 spare held fuel t cs = some x) :
    ∃ y0 y1 y2 y3 y4 n, x.1 = .agg [y0.1, y1.1, y2.1, y3.1, y4.1] ∧ cs.length = Tryd.prog.cellsOf t ∧ DataW.trod enc Tryd.prog W 0 spare held n f0.type ((cs.drop f0.offset).take (Tryd.prog.cellsOf f0.type)) = some y0 ∧
      DataW.trod enc Tryd.prog W 0 spare held n f1.type ((cs.drop f1.offset).take (Tryd.prog.cellsOf f1.type)) = some y1 ∧ DataW.trod enc Tryd.prog W 0 spare held n f2.type ((cs.drop f2.offset).take (Tryd.prog.cellsOf f2.type)) = some y2 ∧
      DataW.trod enc Tryd.prog W 0 spare held n f3.type ((cs.drop f3.offset).take (Tryd.prog.cellsOf f3.type)) = some y3 ∧ DataW.trod enc Tryd.prog W 0 spare held n f4.type ((cs.drop f4.offset).take (Tryd.prog.cellsOf f4.type)) = some y4 := by
  obtain ⟨xs, n, _, rfl, hl, hlen, hf⟩ := DataW.trod_struct ht h
  match xs, hlen with
  | [y0, y1, y2, y3, y4], _ => exact ⟨y0, y1, y2, y3, y4, n, by simp, hl, by simpa using hf 0 f0 rfl, by simpa using hf 1 f1 rfl, by simpa using hf 2 f2 rfl, by simpa using hf 3 f3 rfl, by simpa using hf 4 f4 rfl⟩
set_option maxRecDepth 100000 in
theorem read_prog {r : Reach} {b0 : Nat} {v : Value} {d : DataW H} {ps : List MemPlace} (hval : Value.okWide Tryd.prog W r b0 27 v) (h : DataW.Trod enc Tryd.prog W 0 spare held 27 v d ps) {B : Nat} (hk : Rows.uptoBulk d ≤ B) :
    ∃ p vi vo vl va vc, v = .agg #[vi, vo, vl, va, vc] ∧ PrP (allKn W) p vi vo vl va vc ∧ p.ins.length ≤ B ∧ p.outs.length ≤ B ∧ Ex.weightL p.terms ≤ B := by
  obtain ⟨cs, rfl, hsz⟩ := okWide_struct Tryd.underlying27 hval
  rw [cellsPr] at hsz
  obtain ⟨fuel, hf⟩ := h
  obtain ⟨cs⟩ := cs
  match cs, hsz with
  | [vi, vo, vl, va, vc], _ =>
    have hf' : DataW.trod enc Tryd.prog W 0 spare held fuel 27 [vi, vo, vl, va, vc] = some (d, ps) := hf
    obtain ⟨y0, y1, y2, y3, y4, m, hd, _, h0, h1, h2, h3, h4⟩ := trod_struct5 Tryd.underlying27 hf'
    dsimp only at hd h0 h1 h2 h3 h4
    subst hd
    rw [cellsVrs] at h0
    rw [cellsStrs] at h1
    rw [cellsFls] at h2
    rw [cellsExs] at h3 h4
    have hle : ∀ x : Ex, ∀ f g, (∀ j u, f j = some u → g j = some u) → ExAt (allKn W) x f → ExAt (allKn W) x g := fun x f g hfg hx => ExAt.le (fun _ _ q => q) x f g hfg hx
    have hst : ∀ (x : Ex) f, ExAt (allKn W) x f → ∀ (a : Addr) (W : World), W.cell? a = f 0 → a.spot = none := fun x f hx a W h => by obtain ⟨u, q, _⟩ := hx.cells; exact cell_place (h.trans q)
    obtain ⟨li, ui, e0, s0, w0⟩ := read_slice Tryd.underlying22 cellsVr (by omega) VrC VrC.mono (fun x f hx a W h => cell_place (h.trans hx.1)) (fun _ => 1) _ (fun n cs y hy _ => read_vr n cs y hy) h0 (Nat.le_refl _)
    obtain ⟨lo, uo, e1, s1, w1⟩ := read_slice Tryd.underlying23 cellsStr (by omega) StrC StrC.mono (fun x f hx a W h => cell_place (h.trans hx)) (fun _ => 1) _ (fun n cs y hy _ => by
      obtain ⟨s, e, _⟩ := DataW.trod_string Tryd.underlying9 hy
      subst e
      exact ⟨s, rfl, bulk_one _⟩) h1 (Nat.le_refl _)
    obtain ⟨ll, ul, e2, s2, w2⟩ := read_slice Tryd.underlying24 cellsFl (by omega) (FlC (allKn W)) (FlC.mono (fun _ _ q => q)) (fun x f hx a W h => cell_place (h.trans hx.1)) (fun x => x.e.weight) _ (fun n cs y hy _ => read_fl n cs y hy) h2 (Nat.le_refl _)
    obtain ⟨la, ua, e3, s3, w3⟩ := read_slice Tryd.underlying25 cellsEx (by omega) (ExAt (allKn W)) hle hst Ex.weight _ (fun n cs y hy _ => read_ex _ n cs y hy (Nat.le_refl _)) h3 (Nat.le_refl _)
    obtain ⟨lc, uc, e4, s4, w4⟩ := read_slice Tryd.underlying25 cellsEx (by omega) (ExAt (allKn W)) hle hst Ex.weight _ (fun n cs y hy _ => read_ex _ n cs y hy (Nat.le_refl _)) h4 (Nat.le_refl _)
    have e0' : [vi] = [ui] := e0
    have e1' : [vo] = [uo] := e1
    have e2' : [vl] = [ul] := e2
    have e3' : [va] = [ua] := e3
    have e4' : [vc] = [uc] := e4
    cases e0'
    cases e1'
    cases e2'
    cases e3'
    cases e4'
    rw [sum_ones] at w0 w1
    rw [sum_weightF] at w2
    rw [sum_weight] at w3 w4
    simp only [Rows.uptoBulk, Rows.uptoBulkAll] at hk
    refine ⟨⟨li, lo, ll, la, lc⟩, vi, vo, vl, va, vc, rfl, ⟨s0, s1, s2, exsV_of_sl s3, exsV_of_sl s4⟩, by dsimp only; omega, by dsimp only; omega, ?_⟩
    simp only [Pr.terms, weightL_append]
    omega
end
end Go.Proofs.YthihoafemahgmaaDoor
