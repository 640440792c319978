/- Plain functions of runs of flat programs, as flow.Run has them; the law of FlowNil: no program in sight. -/
import Derived.Test.YthihoafemahgmaaDoorMx
import Derived.Test.YthihoafemahgmaaDoorLateA
import Derived.Test.YthihoafemahgmaaDoorOrdA
import Derived.Test.YthihoafemahgmaaDoorOckA
import Derived.Test.YthihoafemahgmaaDoorMap
namespace Go.Proofs.YthihoafemahgmaaDoor.Mx
structure REnv where
  ks : Env Int
  lt : ByteArray → Int
  nm : ByteArray → Int
  nb : Bool
  ni : Int
def nilV (nb : Bool) (ni : Int) (k : Int) : Vl := if k = 1 then tv nb else ⟨k, ni⟩
structure Inst where
  first : Bool
  mem : List Vl
  inp : List Vl
  now : List Vl
mutual
def memN : Ex → Nat
  | .mk o _ _ l => memNL l + (if o = oPre ∨ o = oFby then 1 else 0)
def memNL : List Ex → Nat
  | [] => 0
  | e :: l => memN e + memNL l
end
mutual
def memsAt : Nat → Ex → List (Ex × Nat)
  | m, .mk o n s l => memsAtL m l ++ (if o = oPre ∨ o = oFby then [(l.getLastD (.mk o n s l), m + memNL l.dropLast)] else [])
def memsAtL : Nat → List Ex → List (Ex × Nat)
  | _, [] => []
  | m, e :: l => memsAt m e ++ memsAtL (m + memN e) l
end
def valM (R : REnv) (r : Inst) (m : Nat) (o : ByteArray) (n : Int) (s : ByteArray) (late : Bool) (vs : List Vl) : Vl × Bool :=
  if o = oInt then (⟨2, n⟩, false)
  else if o = oTrue ∨ o = oFalse then (tv (decide (o = oTrue)), false)
  else if o = oName then (if R.nm s < 0 then r.inp.getD (-1 - R.nm s).toNat vz else r.now.getD (R.nm s).toNat vz, false)
  else if o = oPre then (r.mem.getD m vz, false)
  else if o = oFby then (if r.first then vs.getD 0 vz else r.mem.getD m vz, false)
  else if o = oArrow then (if r.first then vs.getD 0 vz else vs.getD 1 vz, false)
  else if (appM o vs).2 then (⟨2, 0⟩, !r.first || !late) else ((appM o vs).1, false)
mutual
def evalM (R : REnv) (r : Inst) : Nat → Ex → Vl × Bool
  | m, .mk o n s l =>
    let vs := evalsM R r m (if o = oPre then 0 else if o = oFby then 1 else l.length) l
    let late := decide (0 < lateOf R.lt (.mk o n s l))
    let x := valM R r (m + memNL l) o n s late vs.1
    (if r.first && late then nilV R.nb R.ni (kindOf R.ks (.mk o n s l)) else x.1, vs.2 || x.2)
def evalsM (R : REnv) (r : Inst) : Nat → Nat → List Ex → List Vl × Bool
  | _, _, [] => ([], false)
  | _, 0, _ :: _ => ([], false)
  | m, k + 1, e :: l =>
    let x := evalM R r m e
    let y := evalsM R r (m + memN e) k l
    (x.1 :: y.1, x.2 || y.2)
end
structure Tk where
  out : List Vl
  asrt : Bool
  trap : Bool
  checks : List Bool
def trapT : Tk := ⟨[], false, true, []⟩
def withAt : Nat → List Ex → List (Ex × Nat)
  | _, [] => []
  | m, e :: l => (e, m) :: withAt (m + memN e) l
def nowM (R : REnv) (first : Bool) (mem inp : List Vl) (fs : List (Ex × Nat)) : List Nat → List Vl → Bool → List Vl × Bool
  | [], now, t => (now, t)
  | k :: r, now, t =>
    let x := fs.getD k (.mk ⟨#[]⟩ 0 ⟨#[]⟩ [], 0)
    let v := evalM R ⟨first, mem, inp, now⟩ x.2 x.1
    nowM R first mem inp fs r (now.set k v.1) (t || v.2)
def valsM (R : REnv) (r : Inst) (l : List (Ex × Nat)) : List Vl × Bool := (l.map fun x => (evalM R r x.2 x.1).1, l.any fun x => (evalM R r x.2 x.1).2)
structure Cd where
  ord : List Nat
  fs : List (Ex × Nat)
  av : List (Ex × Nat)
  cv : List (Ex × Nat)
  outs : List Int
  ms : List (Ex × Nat)
def tickM (R : REnv) (c : Cd) (first : Bool) (mem inp : List Vl) : Tk × List Vl :=
  let n := nowM R first mem inp c.fs c.ord (List.replicate c.fs.length vz) false
  let r : Inst := ⟨first, mem, inp, n.1⟩
  let a := valsM R r c.av
  let k := valsM R r c.cv
  let x := valsM R r c.ms
  if n.2 || a.2 || k.2 || x.2 then (trapT, [])
  else (⟨c.outs.map fun i => n.1.getD i.toNat vz, a.1.all fun v => decide (v.n = 1), false, k.1.map fun v => decide (v.n = 1)⟩, x.1)
def runGo (R : REnv) (c : Cd) : Bool → List Vl → List (List Vl) → List Tk
  | _, _, [] => []
  | first, mem, l :: r =>
    let x := tickM R c first mem l
    x.1 :: if x.1.trap then [] else runGo R c false x.2 r
theorem latesOf_getD (lt : ByteArray → Int) : ∀ (l : List Ex) (k : Nat), (latesOf lt l).getD k 0 = if h : k < l.length then lateOf lt l[k] else 0
  | [], k => by simp [latesOf]
  | e :: l, 0 => by simp [latesOf]
  | e :: l, k + 1 => by
    have := latesOf_getD lt l k
    simp only [latesOf, List.getD_cons_succ, this, List.length_cons, Nat.add_lt_add_iff_right]
    split <;> rfl
structure SameR (R R' : REnv) : Prop where
  ks : R.ks = R'.ks
  lt : R.lt = R'.lt
  nm : R.nm = R'.nm
structure CdOk (R : REnv) (ks : Env Int) (nf : Nat → ByteArray) (c : Cd) : Prop where
  bd : ∀ s, 0 ≤ R.lt s ∧ R.lt s ≤ 2
  ord : ∀ k ∈ c.ord, k < c.fs.length
  nm : ∀ s, (ks s).isSome = true → 0 ≤ R.nm s → s = nf (R.nm s).toNat
  fs : ∀ k (h : k < c.fs.length), formAll ks c.fs[k].1 = true ∧ lateOf R.lt c.fs[k].1 ≤ R.lt (nf k)
  av : ∀ x ∈ c.av, formAll ks x.1 = true ∧ lateOf R.lt x.1 = 0
  cv : ∀ x ∈ c.cv, formAll ks x.1 = true ∧ lateOf R.lt x.1 = 0
  ms : ∀ x ∈ c.ms, formAll ks x.1 = true ∧ lateOf R.lt x.1 = 0
  outs : ∀ i ∈ c.outs, R.lt (nf i.toNat) = 0
def NowR (R : REnv) (nf : Nat → ByteArray) (a b : List Vl) : Prop := a.length = b.length ∧ ∀ k, R.lt (nf k) = 0 → a.getD k vz = b.getD k vz
end Go.Proofs.YthihoafemahgmaaDoor.Mx
namespace Go.Proofs.YthihoafemahgmaaDoor
open Mx
theorem fresh_apart {s : ByteArray} : ∀ (l : List (ByteArray × Int)) (m0 m : Env Int), freshGo m0 l = some m → (m0 s).isSome = true → ∀ x ∈ l, x.1 ≠ s
  | [], _, _, _, _, x, hx => by cases hx
  | y :: l, m0, m, h, hs, x, hx => by
    simp only [freshGo] at h
    split at h
    · rename_i hc
      have hne : y.1 ≠ s := fun e => by have h1 := hc.1; rw [e] at h1; cases hm : m0 s <;> simp_all
      rcases List.mem_cons.1 hx with rfl | hx
      · exact hne
      · refine fresh_apart l _ _ h ?_ x hx
        simp only [Env.set]
        rw [if_neg (Ne.symm hne)]
        exact hs
    · cases h
theorem fresh_nodup : ∀ (l : List (ByteArray × Int)) (m0 m : Env Int), freshGo m0 l = some m → (l.map (·.1)).Nodup
  | [], _, _, _ => by simp
  | y :: l, m0, m, h => by
    simp only [freshGo] at h
    split at h
    · rw [List.map_cons, List.nodup_cons]
      refine ⟨fun hm => ?_, fresh_nodup l _ _ h⟩
      obtain ⟨x, hx, he⟩ := List.mem_map.1 hm
      exact fresh_apart l _ _ h (s := y.1) (by simp [Env.set]) x hx he
    · cases h
theorem names_nd {p : Pr} (h : checkFlat p = 0) : (p.fl.map (·.name)).Nodup := by
  obtain ⟨ks, hk, _⟩ := check_zero h
  have := fresh_nodup _ _ _ hk
  simp only [Pr.vars, List.map_append, List.map_map] at this
  rw [List.nodup_append] at this
  exact this.2.1
theorem some_left (out : List Nat) (n : Nat) (h : out.length < n) : ∃ i, i < n ∧ i ∉ out := by
  refine Classical.byContradiction fun hno => ?_
  have hall : ∀ i, i < n → i ∈ out := fun i hi => Classical.byContradiction fun hm => hno ⟨i, hi, hm⟩
  obtain ⟨a, b, hab, hb, e⟩ := pigeon out.length (fun i => out.idxOf i) (fun i hi => List.idxOf_lt_length_of_mem (hall i (by omega)))
  have ha := List.getElem_idxOf (List.idxOf_lt_length_of_mem (hall a (by omega)))
  have hb' := List.getElem_idxOf (List.idxOf_lt_length_of_mem (hall b (by omega)))
  have e' : out.idxOf a = out.idxOf b := e
  simp only [e'] at ha
  rw [hb'] at ha
  omega
theorem some_free {g : List (List Nat)} (hlow : ∀ l ∈ g, ∀ k ∈ l, k < g.length) (hno : ∀ j, j < g.length → cyc g j = false) (out : List Nat) (h : out.length < g.length) : ∃ i, i < g.length ∧ freeB g out i = true := by
  refine Classical.byContradiction fun hx => ?_
  obtain ⟨i0, hi0, hm0⟩ := some_left out g.length h
  have step : ∀ i, i < g.length → i ∉ out → ∃ k, k < g.length ∧ k ∉ out ∧ edge g i k := by
    intro i hi hm
    have hf : freeB g out i = false := by
      cases hc : freeB g out i with
      | false => rfl
      | true => exact absurd ⟨i, hi, hc⟩ hx
    unfold freeB at hf
    have hc : out.contains i = false := by simpa using hm
    rw [hc, Bool.not_false, Bool.true_and] at hf
    have hf' : ∃ k ∈ g.getD i [], ¬ out.contains k = true := by
      refine Classical.byContradiction fun hn => ?_
      have : (g.getD i []).all out.contains = true := List.all_eq_true.2 fun k hk => Classical.byContradiction fun hkk => hn ⟨k, hk, hkk⟩
      rw [this] at hf; cases hf
    obtain ⟨k, hk, hko⟩ := hf'
    refine ⟨k, ?_, by simpa using hko, hk⟩
    rw [List.getD_eq_getElem?_getD, List.getElem?_eq_getElem hi] at hk
    exact hlow _ (List.getElem_mem hi) _ hk
  classical
  let nx : Nat → Nat := fun i => if hh : ∃ k, k < g.length ∧ k ∉ out ∧ edge g i k then Classical.choose hh else i
  have hnx : ∀ i, i < g.length → i ∉ out → nx i < g.length ∧ nx i ∉ out ∧ edge g i (nx i) := by
    intro i hi hm
    have hh := step i hi hm
    show (if hh : ∃ k, k < g.length ∧ k ∉ out ∧ edge g i k then Classical.choose hh else i) < _ ∧ _
    have e : nx i = Classical.choose hh := dif_pos hh
    rw [show (if hh : ∃ k, k < g.length ∧ k ∉ out ∧ edge g i k then Classical.choose hh else i) = Classical.choose hh from dif_pos hh, e]
    exact Classical.choose_spec hh
  have hit : ∀ t, iter nx t i0 < g.length ∧ iter nx t i0 ∉ out := by
    intro t
    induction t with
    | zero => exact ⟨hi0, hm0⟩
    | succ t ih => have := hnx _ ih.1 ih.2; exact ⟨this.1, this.2.1⟩
  have hpath : ∀ s t, Path g (iter nx s i0) (iter nx (s + t + 1) i0) := by
    intro s t
    induction t with
    | zero => exact .one (hnx _ (hit s).1 (hit s).2).2.2
    | succ t ih => exact .snoc ih (hnx _ (hit (s + t + 1)).1 (hit (s + t + 1)).2).2.2
  obtain ⟨a, b, hab, hb, e⟩ := pigeon g.length (fun t => iter nx t i0) (fun t _ => (hit t).1)
  have e' : iter nx a i0 = iter nx b i0 := e
  have hp := hpath a (b - a - 1)
  rw [show a + (b - a - 1) + 1 = b from by omega, ← e'] at hp
  have := (cyc_iff g _).2 hp
  rw [hno _ (hit a).1] at this
  cases this
theorem pick_lt {g : List (List Nat)} {out : List Nat} (h : ∃ i, i < g.length ∧ freeB g out i = true) : pick g out < g.length := by
  obtain ⟨i, hi, hf⟩ := h
  unfold pick
  have : (g.zipIdx.findIdx fun x => !out.contains x.2 && x.1.all out.contains) < g.zipIdx.length := by
    refine List.findIdx_lt_length_of_exists ⟨(g[i], i), ?_, ?_⟩
    · rw [List.mem_iff_getElem]
      exact ⟨i, by simpa using hi, by simp⟩
    · unfold freeB at hf
      rw [List.getD_eq_getElem?_getD, List.getElem?_eq_getElem hi] at hf
      exact hf
  simpa using this
theorem sort_pick {g : List (List Nat)} (hlow : ∀ l ∈ g, ∀ k ∈ l, k < g.length) (hno : ∀ j, j < g.length → cyc g j = false) : ∀ j, j < g.length → pick g (sortN g j []) < g.length := fun j hj =>
  pick_lt (some_free hlow hno _ (by rw [sortN_len]; simpa using hj))
theorem any_hpick (p : Pr) : checkFlat p = 0 → (∀ j, j < p.graph.length → cyc p.graph j = false) → ∀ j, j < p.graph.length → pick p.graph (sortN p.graph j []) < p.graph.length := fun _ hno => sort_pick (graph_low p) hno
end Go.Proofs.YthihoafemahgmaaDoor
namespace Go.Proofs.YthihoafemahgmaaDoor
open Mx
theorem round_le : ∀ (l : List Fl) (late : ByteArray → Int) (b : Bool) (s : ByteArray), late s ≤ (namesRound l late b).1 s
  | [], late, b, s => Int.le_refl _
  | f :: l, late, b, s => by
    simp only [namesRound]
    split
    · refine Int.le_trans ?_ (round_le l _ _ s)
      unfold setL
      split
      · rename_i h e; rw [e]; omega
      · omega
    · exact round_le l late b s
theorem setL_bound {late : ByteArray → Int} (hb : ∀ s, 0 ≤ late s ∧ late s ≤ 2) (e : Ex) (k : ByteArray) : ∀ s, 0 ≤ setL late k (lateOf late e) s ∧ setL late k (lateOf late e) s ≤ 2 := fun s => by
  unfold setL
  split
  · exact late_bound late hb e
  · exact hb s
theorem round_bound : ∀ (l : List Fl) (late : ByteArray → Int) (b : Bool), (∀ s, 0 ≤ late s ∧ late s ≤ 2) → ∀ s, 0 ≤ (namesRound l late b).1 s ∧ (namesRound l late b).1 s ≤ 2
  | [], late, b, hb, s => hb s
  | f :: l, late, b, hb, s => by
    simp only [namesRound]
    split
    · exact round_bound l _ _ (setL_bound hb f.e f.name) s
    · exact round_bound l late b hb s
theorem round_gain : ∀ (l : List Fl) (late : ByteArray → Int), (namesRound l late false).2 = true → ∃ f ∈ l, late f.name < (namesRound l late false).1 f.name
  | [], late, h => by simp [namesRound] at h
  | f :: l, late, h => by
    simp only [namesRound] at h ⊢
    split
    · rename_i hlt
      refine ⟨f, List.mem_cons_self .., Int.lt_of_lt_of_le hlt ?_⟩
      have := round_le l (setL late f.name (lateOf late f.e)) true f.name
      simpa [setL] using this
    · rename_i hlt
      rw [if_neg hlt] at h
      obtain ⟨g, hg, h2⟩ := round_gain l late h
      exact ⟨g, List.mem_cons_of_mem _ hg, h2⟩
theorem round_none : ∀ (l : List Fl) (late : ByteArray → Int), (namesRound l late false).2 = false → (namesRound l late false).1 = late ∧ ∀ f ∈ l, lateOf late f.e ≤ late f.name
  | [], late, _ => ⟨rfl, fun f hf => by cases hf⟩
  | f :: l, late, h => by
    simp only [namesRound] at h ⊢
    split
    · rename_i hlt
      rw [if_pos hlt, namesRound_more] at h
      cases h
    · rename_i hlt
      rw [if_neg hlt] at h
      obtain ⟨a, b⟩ := round_none l late h
      refine ⟨a, fun g hg => ?_⟩
      rcases List.mem_cons.1 hg with rfl | hg
      · omega
      · exact b g hg
theorem namesN_fix (l : List Fl) : ∀ (f : Nat) (late : ByteArray → Int), (∀ s, 0 ≤ late s ∧ late s ≤ 2) → mu late l < f → (∀ s, 0 ≤ namesN l f late s ∧ namesN l f late s ≤ 2) ∧ ∀ g ∈ l, lateOf (namesN l f late) g.e ≤ namesN l f late g.name
  | 0, late, _, h => by omega
  | f + 1, late, hb, h => by
    rw [namesN_step]
    cases hr : (namesRound l late false).2 with
    | true =>
      simp only [if_true]
      obtain ⟨g, hg, hlt⟩ := round_gain l late hr
      have := mu_lt late _ (round_le l late false) (fun s => (round_bound l late false hb s).2) l g hg hlt
      exact namesN_fix l f _ (round_bound l late false hb) (by omega)
    | false =>
      simp only [Bool.false_eq_true, if_false]
      obtain ⟨a, b⟩ := round_none l late hr
      rw [a]
      exact ⟨hb, b⟩
theorem namesM_fix (p : Pr) : (∀ s, 0 ≤ namesM p s ∧ namesM p s ≤ 2) ∧ ∀ g ∈ p.fl, lateOf (namesM p) g.e ≤ namesM p g.name :=
  namesN_fix p.fl _ _ (fun s => ⟨by simp, by simp⟩) (by rw [mu_zero]; omega)
def inNames : Nat → Env Int → List Vr → Env Int
  | _, m, [] => m
  | i, m, v :: l => inNames (i + 1) (m.set v.name (-1 - (i : Int))) l
def flNames : Nat → Env Int → List Fl → Env Int
  | _, m, [] => m
  | i, m, f :: l => flNames (i + 1) (m.set f.name (i : Int)) l
def nmEnv (p : Pr) : Env Int := flNames 0 (inNames 0 Env.none p.ins) p.fl
theorem fresh_keys {s : ByteArray} : ∀ (l : List (ByteArray × Int)) (m0 m : Env Int), freshGo m0 l = some m → (m s).isSome = true → (m0 s).isSome = true ∨ s ∈ l.map (·.1)
  | [], m0, m, h, hs => by simp only [freshGo] at h; cases h; exact .inl hs
  | y :: l, m0, m, h, hs => by
    simp only [freshGo] at h
    split at h
    · rcases fresh_keys l _ _ h hs with h1 | h1
      · by_cases e : s = y.1
        · exact .inr (by simp [e])
        · rw [Env.set_other _ _ e] at h1; exact .inl h1
      · exact .inr (List.mem_cons_of_mem _ h1)
    · cases h
def nfOf (p : Pr) (k : Nat) : ByteArray := (p.fl.map (·.name)).getD k ⟨#[]⟩
def cdOf (p : Pr) (ord : List Nat) : Cd where
  ord := ord
  fs := withAt 0 (p.fl.map (·.e))
  av := withAt (memNL (p.fl.map (·.e))) p.as
  cv := withAt (memNL (p.fl.map (·.e)) + memNL p.as) p.cs
  outs := p.outs.map (getI (nmEnv p))
  ms := memsAtL 0 p.terms
theorem checkM_zero {p : Pr} (h : (checkM p).1 = 0) : ∃ l, orderM p = .ok l ∧ (∀ k (hk : k < p.fl.length), hit p p.fl[k].name = false) ∧ ∀ e ∈ p.as ++ p.cs, lateOf (namesM p) e = 0 := by
  cases hl : lateM p with
  | error x =>
    rw [checkM_late hl] at h
    exact absurd h (lateM_pos hl)
  | ok r =>
    obtain ⟨hr, _⟩ := lateM_ok hl
    subst hr
    have hno : ∀ k (hk : k < p.fl.length), hit p p.fl[k].name = false := by
      intro k
      induction k using Nat.strongRecOn with
      | ind k ih =>
        intro hk
        cases hh : hit p p.fl[k].name with
        | false => rfl
        | true =>
          rw [checkM_hit hl k hk hh fun j hj hjk => ih j hjk hj] at h
          cases h
    have he := checkM_end hl hno
    rw [he] at h
    split at h
    · cases h
    · rename_i hany
      unfold lateM at hl
      split at hl
      · cases hl
      · rename_i l ho
        refine ⟨l, ho, hno, fun e hm => ?_⟩
        have := (late_bound (namesM p) (namesM_fix p).1 e).1
        by_cases h0 : 0 < lateOf (namesM p) e
        · exact absurd (List.any_eq_true.2 ⟨e, hm, by simpa using h0⟩) hany
        · omega
theorem sortN_low {g : List (List Nat)} (hp : ∀ j, j < g.length → pick g (sortN g j []) < g.length) : ∀ j, j ≤ g.length → ∀ k ∈ sortN g j [], k < g.length
  | 0, _, k, hk => by simp [sortN] at hk
  | j + 1, hj, k, hk => by
    rw [sortN_out, List.mem_append, List.mem_singleton] at hk
    rcases hk with hk | rfl
    · exact sortN_low hp j (by omega) k hk
    · exact hp j (by omega)
theorem orderM_low {p : Pr} {l : List Nat} (h : orderM p = .ok l) : checkFlat p = 0 ∧ l.length = p.fl.length ∧ ∀ k ∈ l, k < p.fl.length := by
  unfold orderM at h
  split at h
  · cases h
  · rename_i h0
    have hc : checkFlat p = 0 := by simpa using h0
    split at h
    · cases h
    · rename_i hf
      cases h
      refine ⟨hc, by rw [sortN_len, graph_len]; simp, fun k hk => ?_⟩
      rw [← graph_len]
      refine sortN_low (any_hpick p hc fun j hj => ?_) _ (Nat.le_refl _) k hk
      have := List.find?_eq_none.1 hf j (by simpa using hj)
      simpa using this
end Go.Proofs.YthihoafemahgmaaDoor
namespace Go.Proofs.YthihoafemahgmaaDoor
open Go.RowKit Mx
def noKn (R : Nat) (w : World) : Kn := fun b => if b = R then none else w.heap[b]?
theorem noKn_in (R : Nat) (w : World) : (noKn R w).In w := fun b o e => by
  unfold noKn at e
  split at e
  · cases e
  · exact e
theorem noKn_self (R : Nat) (w : World) : noKn R w R = none := by simp [noKn]
theorem noKn_cell {R : Nat} {w : World} {b : Nat} (h : b ≠ R) (i : Nat) : (noKn R w).cell b i = w.cell? ⟨b, i, none⟩ := by
  rw [← allKn_cell]
  simp [Kn.cell, noKn, allKn, h]
theorem fresh_two : ∀ (l : List (ByteArray × Int)) (m ks : Env Int), freshGo m l = some ks → (∀ s k, m s = some k → k = 1 ∨ k = 2) → ∀ s k, ks s = some k → k = 1 ∨ k = 2
  | [], m, ks, h, hm, s, k, hk => by simp only [freshGo] at h; cases h; exact hm s k hk
  | y :: l, m, ks, h, hm, s, k, hk => by
    simp only [freshGo] at h
    split at h
    · rename_i hc
      refine fresh_two l _ ks h (fun s' k' h' => ?_) s k hk
      by_cases e : s' = y.1
      · rw [e, Env.set_self] at h'; cases h'; exact hc.2.2
      · rw [Env.set_other _ _ e] at h'; exact hm s' k' h'
    · cases h
theorem fresh_has : ∀ (l : List (ByteArray × Int)) (m ks : Env Int), freshGo m l = some ks → (∀ s k, m s = some k → ks s = some k) ∧ ∀ x ∈ l, ks x.1 = some x.2
  | [], m, ks, h => by simp only [freshGo] at h; cases h; exact ⟨fun _ _ h => h, fun x hx => by cases hx⟩
  | y :: l, m, ks, h => by
    simp only [freshGo] at h
    split at h
    · rename_i hc
      obtain ⟨h1, h2⟩ := fresh_has l _ ks h
      refine ⟨fun s k hk => h1 s k ?_, fun x hx => ?_⟩
      · have hne : s ≠ y.1 := fun e => by
          have h3 := hc.1
          rw [← e, hk] at h3
          cases h3
        rw [Env.set_other _ _ hne]; exact hk
      · rcases List.mem_cons.1 hx with rfl | hx
        · exact h1 _ _ (Env.set_self ..)
        · exact h2 x hx
    · cases h
theorem kindsOf_map (ks : Env Int) : ∀ l : List Ex, kindsOf ks l = l.map (kindOf ks)
  | [] => rfl
  | e :: l => by rw [kindsOf, kindsOf_map ks l]; rfl
end Go.Proofs.YthihoafemahgmaaDoor
