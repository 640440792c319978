/- Plain, and known memory: machines in rows of ticks that grow; put back into a state a machine does again what it did. -/
import Derived.Test.YtmeldgjlgifdhaaDoorSp
import Derived.Test.YtmeldgjlgifdhaaDoorEof
import Derived.Test.YtmeldgjlgifdhaaDoorBf
namespace Go.Proofs.YtmeldgjlgifdhaaDoor
open Go.RowKit Mx
theorem TksV.le {H H' : Kn} (hle : H.le H') {l : List Tk} {v : Value} (h : TksV H l v) : TksV H' l v := SlV.le h hle (TkC.mono hle)
theorem own_gr {w w' : World} {base M : Nat} {e : TypeId} {k n : Nat} {v : Value} {xs : List Value} (h : w.ownsRow base e k v n xs) (g : Gr2 w w' M none) (hM : M < base) : w'.ownsRow base e k v n xs := by
 obtain ⟨h1, h2⟩ := h
 refine ⟨h1, ?_⟩
 rcases h2 with h2 | ⟨q, cap, cur, e1, hb, hg, h3⟩
 ·exact .inl h2
 ·exact .inr ⟨q, cap, cur, e1, hb, (g.block q (Array.getElem?_eq_some_iff.1 hg).1 (by omega) (by simp)).trans hg, h3⟩
theorem RuS.gr {DT : TypeId} {H : Kn} {w0 wr w5 : World} {base M : Nat} {os : List (Tk × Value × Value)} {u : Value} {K : Kn} {ms : List Vl} {vm : Value} (h : RuS DT H w0 wr base os u K ms vm) (hM : K M = none) (hw : w0.heap.size ≤ M) (hb : M < base) (g : Gr2 wr w5 M none) :
  RuS DT H w0 w5 base os u (joinKn K wr.heap.size w5) ms vm := by
 have h1 := joinKn_le h.isin w5
 have hlow := h.low
 exact ⟨Kn.le_trans h.le h1, joinKn_gr h.isin g hM, Gr2.below h.below g hw (by have := h.below.size; omega), own_gr h.row g hb, fun q hq => by unfold joinKn; rw [if_pos (h.row.lt q hq).2]; exact h.noU q hq, fun x hx => (h.tks x hx).le h1, SlV.le h.mem h1 VlC.mono, h.hb, Nat.le_trans h.low g.size⟩
theorem RuS.known {DT : TypeId} {H : Kn} {w0 wr : World} {base : Nat} {os : List (Tk × Value × Value)} {u : Value} {K : Kn} {ms : List Vl} {vm : Value} (h : RuS DT H w0 wr base os u K ms vm) : ∃ K', K.le K' ∧ K'.In wr ∧ TksV K' (os.map (·.1)) u ∧ ∀ b, b < base → K' b = K b := by
 have hr : wr.ownsRow base DT 4 u (os.map (·.1)).length (osX os) := by rw [List.length_map]; exact h.row
 exact slv_of_own (R := TkC) h.isin hr h.noU fun K' hle i hi f hf => by
  have hi2 : i < os.length := by simpa using hi
  have hc : ∀ j, j < 4 → (osX os)[i * 4 + j]? = [os[i].2.1, Value.bool os[i].1.asrt, .bool os[i].1.trap, os[i].2.2][j]? := fun j hj => flat_get 4 (fun x : Tk × Value × Value => [x.2.1, .bool x.1.asrt, .bool x.1.trap, x.2.2]) (fun _ => rfl) os i hi2 j hj
  rw [List.getElem_map]
  exact ⟨os[i].2.1, os[i].2.2, hf 0 _ (by rw [hc 0 (by omega)]; rfl), hf 1 _ (by rw [hc 1 (by omega)]; rfl), hf 2 _ (by rw [hc 2 (by omega)]; rfl), hf 3 _ (by rw [hc 3 (by omega)]; rfl), (h.tks _ (List.getElem_mem hi2)).le hle⟩
theorem stepM_sizes (R : REnv) (p : Pr) (ord : List Nat) (s : Mc) (l : List Vl) : (stepM R (cdOf p ord) p.ins s l).2.1.out.length ≤ p.outs.length ∧ (stepM R (cdOf p ord) p.ins s l).2.1.checks.length ≤ p.cs.length := by
 have h := tickM_sizes R (cdOf p ord) s.first s.mem l
 have e1 : (cdOf p ord).outs.length = p.outs.length := List.length_map _
 have e2 : (cdOf p ord).cv.length = p.cs.length := withAt_len _ _
 unfold stepM
 split
 ·simp [trapT]
 split
 ·split <;> (dsimp only; omega)
 ·simp [noT]
end Go.Proofs.YtmeldgjlgifdhaaDoor
namespace Go.Proofs.YtmeldgjlgifdhaaDoor
open Go.RowKit Mx
namespace Bf
section
variable {S C : Type} [DecidableEq S] (st : S → C → Option Int) (nx : S → C → Option S)
def rest (most i : Nat) (e : En S C) (all : List C) (f : Nat) (l : List (En S C)) (cs : List C) : Res S C :=
 match inner st nx most i e l cs with
 | .ok l' => outer st nx most all f l' (i + 1)
 | r => r
theorem rest_nil (most i : Nat) (e : En S C) (all : List C) (f : Nat) (l : List (En S C)) : rest st nx most i e all f l [] = outer st nx most all f l (i + 1) := rfl
theorem rest_found {most i : Nat} {e : En S C} {all : List C} {f : Nat} {l : List (En S C)} {c : C} {cs : List C} {k : Int} (h : st e.s c = some k) : rest st nx most i e all f l (c :: cs) = .found i l c k := by
 unfold rest inner; rw [h]
theorem rest_dead {most i : Nat} {e : En S C} {all : List C} {f : Nat} {l : List (En S C)} {c : C} {cs : List C} (h : st e.s c = none) (h2 : nx e.s c = none) : rest st nx most i e all f l (c :: cs) = rest st nx most i e all f l cs := by
 unfold rest
 rw [inner, h]
 dsimp only
 rw [h2]
theorem rest_seen {most i : Nat} {e : En S C} {all : List C} {f : Nat} {l : List (En S C)} {c : C} {cs : List C} {s' : S} (h : st e.s c = none) (h2 : nx e.s c = some s') (h3 : s' ∈ l.map (·.s)) : rest st nx most i e all f l (c :: cs) = rest st nx most i e all f l cs := by
 unfold rest
 rw [inner, h]
 dsimp only
 rw [h2]
 dsimp only
 rw [if_pos h3]
theorem rest_over {most i : Nat} {e : En S C} {all : List C} {f : Nat} {l : List (En S C)} {c : C} {cs : List C} {s' : S} (h : st e.s c = none) (h2 : nx e.s c = some s') (h3 : ¬ s' ∈ l.map (·.s)) (h4 : l.length = most) : rest st nx most i e all f l (c :: cs) = .over := by
 unfold rest
 rw [inner, h]
 dsimp only
 rw [h2]
 dsimp only
 rw [if_neg h3, if_pos h4]
theorem rest_push {most i : Nat} {e : En S C} {all : List C} {f : Nat} {l : List (En S C)} {c : C} {cs : List C} {s' : S} (h : st e.s c = none) (h2 : nx e.s c = some s') (h3 : ¬ s' ∈ l.map (·.s)) (h4 : l.length ≠ most) : rest st nx most i e all f l (c :: cs) = rest st nx most i e all f (l ++ [⟨s', i, c⟩]) cs := by
 unfold rest
 rw [inner, h]
 dsimp only
 rw [h2]
 dsimp only
 rw [if_neg h3, if_neg h4]
theorem outer_rest {most i : Nat} {e : En S C} {all : List C} {f : Nat} {l : List (En S C)} (h : l[i]? = some e) : outer st nx most all (f + 1) l i = rest st nx most i e all f l all := by
 rw [outer, h]; rfl
theorem outer_end {most i : Nat} {all : List C} {f : Nat} {l : List (En S C)} (h : l[i]? = none) : outer st nx most all (f + 1) l i = .ok l := by
 rw [outer, h]
end
section
variable {S C : Type}
def WayOk (l : List (En S C)) : Prop := ∀ j (hj : j < l.length), l[j].frm < 0 ∨ ∃ f : Nat, l[j].frm = (f : Int) ∧ f < j
theorem WayOk.one (s : S) (c : C) : WayOk [⟨s, -1, c⟩] := fun j hj => by
 obtain rfl : j = 0 := by simpa using hj
 exact .inl (show (-1 : Int) < 0 by decide)
theorem WayOk.snoc {l : List (En S C)} (h : WayOk l) {i : Nat} (hi : i < l.length) (s : S) (c : C) : WayOk (l ++ [⟨s, i, c⟩]) := fun j hj => by
 by_cases hjl : j < l.length
 ·rw [List.getElem_append_left hjl]; exact h j hjl
 ·simp only [List.length_append, List.length_singleton] at hj
  obtain rfl : j = l.length := by omega
  refine .inr ⟨i, ?_, hi⟩
  simp
theorem WayOk.fuel {l : List (En S C)} (h : WayOk l) : ∀ (j f f' : Nat), j < f → j < f' → j < l.length → way l f j = way l f' j := by
 intro j
 induction j using Nat.strongRecOn with
 | ind j ih =>
  intro f f' hf hf' hj
  cases f with
  | zero => omega
  | succ f =>
   cases f' with
   | zero => omega
   | succ f' =>
    simp only [way]
    rw [List.getElem?_eq_getElem hj]
    dsimp only
    rcases h j hj with h0 | ⟨q, e, q1⟩
    ·rw [if_pos h0, if_pos h0]
    ·rw [e, if_neg (by omega), if_neg (by omega), Int.toNat_natCast, ih q q1 f f' (by omega) (by omega) (by omega)]
theorem W_neg {l : List (En S C)} {j : Nat} (hj : j < l.length) (h : l[j].frm < 0) : W l j = [] := by
 unfold W
 simp only [way]
 rw [List.getElem?_eq_getElem hj]
 dsimp only
 rw [if_pos h]
theorem WayOk.pos {l : List (En S C)} (h : WayOk l) {j : Nat} (hj : j < l.length) {f : Nat} (e : l[j].frm = (f : Int)) (hf : f < j) : W l j = W l f ++ [l[j].c] := by
 unfold W
 rw [way, List.getElem?_eq_getElem hj]
 dsimp only
 rw [e, if_neg (by omega), Int.toNat_natCast, h.fuel f j (f + 1) hf (by omega) (by omega)]
theorem WayOk.short {l : List (En S C)} (h : WayOk l) : ∀ (j : Nat), j < l.length → (W l j).length ≤ j := by
 intro j
 induction j using Nat.strongRecOn with
 | ind j ih =>
  intro hj
  rcases h j hj with h0 | ⟨q, e, q1⟩
  ·rw [W_neg hj h0]; exact Nat.zero_le _
  ·rw [h.pos hj e q1]
   have := ih q q1 (by omega)
   simp; omega
end
end Bf
abbrev StE := Bf.En (List Vl) (List Vl)
def seX (os : List (StE × Value × Value)) : List Value := os.flatMap fun x => [x.2.1, .int .i64 x.1.frm, x.2.2]
def StC (H : Kn) (x : StE) (f : Nat → Option Value) : Prop := ∃ sv cv, f 0 = some sv ∧ f 1 = some (.int .i64 x.frm) ∧ f 2 = some cv ∧ VlsV H x.s sv ∧ VlsV H x.c cv
abbrev StsV (H : Kn) : List StE → Value → Prop := SlV H 3 (StC H)
structure SeS (ST : TypeId) (H : Kn) (w0 wr : World) (base sb M : Nat) (os : List (StE × Value × Value)) (se : List (List Vl)) (u : Value) (K : Kn) : Prop where
 le : H.le K
 isin : K.In wr
 below : Below w0.heap.size w0 wr
 row : wr.ownsRow base ST 3 u os.length (seX os)
 noU : ∀ g, u.ownBlock = some g → K g = none
 sts : ∀ x ∈ os, VlsV K x.1.s x.2.1 ∧ VlsV K x.1.c x.2.2
 seen : MapAt Value.bool wr sb (seenE se)
 noS : K sb = none
 low : base ≤ wr.heap.size
 ords : w0.heap.size ≤ M ∧ w0.heap.size ≤ sb ∧ M < base ∧ w0.heap.size ≤ base ∧ sb ≠ M
 neS : u.ownBlock ≠ some sb
section
variable {ST : TypeId} {H : Kn} {w0 wr : World} {base sb M : Nat} {os : List (StE × Value × Value)} {se : List (List Vl)} {u : Value} {K : Kn}
theorem SeS.gr {w5 : World} (h : SeS ST H w0 wr base sb M os se u K) (hM : K M = none) (g : Gr2 wr w5 M none) : SeS ST H w0 w5 base sb M os se u (joinKn K wr.heap.size w5) := by
 have h1 := joinKn_le h.isin w5
 obtain ⟨o1, o2, o3, o4, o5⟩ := h.ords
 have hlow := h.low
 refine ⟨Kn.le_trans h.le h1, joinKn_gr h.isin g hM, Gr2.below h.below g o1 h.below.size, own_gr h.row g o3, fun q hq => ?_, fun x hx => ⟨SlV.le (h.sts x hx).1 h1 VlC.mono, SlV.le (h.sts x hx).2 h1 VlC.mono⟩, h.seen.of_block (g.block sb h.seen.lt o5 (by simp)), ?_, Nat.le_trans h.low g.size, h.ords, h.neS⟩
 ·unfold joinKn; rw [if_pos (h.row.lt q hq).2]; exact h.noU q hq
 ·rw [joinKn_at h.seen.lt]; exact h.noS
theorem SeS.later {w5 : World} (h : SeS ST H w0 wr base sb M os se u K) (hb : Below wr.heap.size wr w5) : SeS ST H w0 w5 base sb M os se u K :=
 ⟨h.le, h.isin.below hb, h.below.trans (hb.mono h.below.size), own_below h.row hb, h.noU, h.sts, h.seen.below hb, h.noS, Nat.le_trans h.low hb.size, h.ords, h.neS⟩
theorem SeS.alloc (h : SeS ST H w0 wr base sb M os se u K) (o : Obj) : SeS ST H w0 (wr.alloc o) base sb M os se u K := h.later ((Below.refl _ _).alloc (Nat.le_refl _) o)
theorem SeS.put {w5 : World} {se' : List (List Vl)} (h : SeS ST H w0 wr base sb M os se u K) (ht : Turned wr w5 sb) (hm : MapAt Value.bool w5 sb (seenE se')) : SeS ST H w0 w5 base sb M os se' u K := by
 obtain ⟨o1, o2, o3, o4, o5⟩ := h.ords
 exact ⟨h.le, ht.isin h.isin h.noS, ht.below h.below o2, own_turned h.row ht h.neS, h.noU, h.sts, hm, h.noS, by rw [ht.size]; exact h.low, h.ords, h.neS⟩
theorem McAt.turned {MT NT CT : TypeId} {R : REnv} {p : Pr} {ord : List Nat} {w w' : World} {B : Nat} {s : Mc} {vm : Value} (h : McAt MT NT CT R p ord K w M B s vm) (ht : Turned w w' sb) (hs : sb ≠ M) (hn : K sb = none) : McAt MT NT CT R p ord K w' M B s vm :=
 ⟨(ht.block (Ne.symm hs)).trans h.box, ht.isin h.isin hn, h.no, h.code, h.mem, h.len⟩
theorem seX_snoc (os : List (StE × Value × Value)) (x : StE) (sv cv : Value) : seX (os ++ [(x, sv, cv)]) = seX os ++ [sv, .int .i64 x.frm, cv] := by simp [seX]
theorem SeS.app {w3 : World} {gg cap' : Nat} {x : StE} {sv cv : Value} (h : SeS ST H w0 wr base sb M os se u K) (hs : VlsV K x.s sv) (hc : VlsV K x.c cv)
  (hown : w3.ownsRow base ST 3 (.slice (some ⟨gg, 0, none⟩) (os.length + 1) cap') (os.length + 1) (seX os ++ [sv, .int .i64 x.frm, cv])) (hg : wr.grownBy w3 u.ownBlock) (hat : u.ownBlock = some gg ∨ gg = wr.heap.size) :
  SeS ST H w0 w3 base sb M (os ++ [(x, sv, cv)]) se (.slice (some ⟨gg, 0, none⟩) (os.length + 1) cap') K := by
 obtain ⟨o1, o2, o3, o4, o5⟩ := h.ords
 have hne := h.neS
 refine ⟨h.le, h.isin.grown hg h.noU, h.below.grown hg h.below.size (fun g hgg => by have := (h.row.lt g hgg).1; omega), ?_, fun g hgg => ?_, fun y hy => ?_, h.seen.of_block (hg.block sb h.seen.lt (fun e => hne e.symm)), h.noS, Nat.le_trans h.low hg.size, h.ords, fun e => ?_⟩
 ·rw [List.length_append, seX_snoc]; exact hown
 ·have e : gg = g := by simpa [Value.ownBlock] using hgg
  subst e
  rcases hat with h1 | rfl
  ·exact h.noU gg h1
  ·exact h.isin.isNone (Nat.le_refl _)
 ·rcases List.mem_append.1 hy with hy | hy
  ·exact h.sts y hy
  ·rw [List.mem_singleton.1 hy]; exact ⟨hs, hc⟩
 ·have e2 : gg = sb := by simpa [Value.ownBlock] using e
  rcases hat with h1 | h1
  ·exact hne (by rw [h1, e2])
  ·have := h.seen.lt; omega
theorem seX_get (os : List (StE × Value × Value)) (i : Nat) (hi : i < os.length) (j : Nat) (hj : j < 3) : (seX os)[i * 3 + j]? = [os[i].2.1, Value.int .i64 os[i].1.frm, os[i].2.2][j]? :=
 flat_get 3 (fun x : StE × Value × Value => [x.2.1, .int .i64 x.1.frm, x.2.2]) (fun _ => rfl) os i hi j hj
theorem SeS.at (h : SeS ST H w0 wr base sb M os se u K) {i : Nat} (hi : i < os.length) : ∃ g cap, u = .slice (some ⟨g, 0, none⟩) os.length cap ∧ os.length ≤ cap ∧ wr.cell? ⟨g, i * 3, none⟩ = some os[i].2.1 ∧ wr.cell? ⟨g, i * 3 + 1, none⟩ = some (.int .i64 os[i].1.frm) ∧ wr.cell? ⟨g, i * 3 + 2, none⟩ = some os[i].2.2 := by
 obtain ⟨g, cap, h1, h2, _, _, _, h5⟩ := own_shape h.row (Nat.lt_of_le_of_lt (Nat.zero_le _) hi)
 exact ⟨g, cap, h1, h2, h5 _ _ (by have := seX_get os i hi 0 (by omega); simpa using this), h5 _ _ (by rw [seX_get os i hi 1 (by omega)]; rfl), h5 _ _ (by rw [seX_get os i hi 2 (by omega)]; rfl)⟩
theorem SeS.known (h : SeS ST H w0 wr base sb M os se u K) : ∃ K', K.le K' ∧ K'.In wr ∧ StsV K' (os.map (·.1)) u ∧ ∀ b, b < base → K' b = K b := by
 have hr : wr.ownsRow base ST 3 u (os.map (·.1)).length (seX os) := by rw [List.length_map]; exact h.row
 exact slv_of_own (R := StC) h.isin hr h.noU fun K' hle i hi f hf => by
  have hi2 : i < os.length := by simpa using hi
  rw [List.getElem_map]
  obtain ⟨h1, h2⟩ := h.sts _ (List.getElem_mem hi2)
  exact ⟨os[i].2.1, os[i].2.2, hf 0 _ (by rw [seX_get os i hi2 0 (by omega)]; rfl), hf 1 _ (by rw [seX_get os i hi2 1 (by omega)]; rfl), hf 2 _ (by rw [seX_get os i hi2 2 (by omega)]; rfl), SlV.le h1 hle VlC.mono, SlV.le h2 hle VlC.mono⟩
end
theorem StsV.at {H : Kn} {l : List StE} {a : Option Addr} {n c : Nat} (h : StsV H l (.slice a n c)) {k : Nat} (hk : k < l.length) : ∃ b off a1 c1 a2 c2, a = some ⟨b, off, none⟩ ∧ H.cell b (off + k * 3) = some (.slice a1 l[k].s.length c1) ∧ H.cell b (off + k * 3 + 1) = some (.int .i64 l[k].frm) ∧ H.cell b (off + k * 3 + 2) = some (.slice a2 l[k].c.length c2) ∧ VlsV H l[k].s (.slice a1 l[k].s.length c1) ∧ VlsV H l[k].c (.slice a2 l[k].c.length c2) := by
 obtain ⟨b, off, haf, _, sv, cv, c0, c1, c2, h1, h2⟩ := SlV.at h hk
 obtain ⟨a1, k1, rfl⟩ := h1.len
 obtain ⟨a2, k2, rfl⟩ := h2.len
 exact ⟨b, off, a1, k1, a2, k2, haf, c0, c1, c2, h1, h2⟩
def searchE (p : Pr) (choices : List (List Vl)) (most : Int) : Nat × Int :=
 if (runE p [] 0).1 ≠ 0 then runE p [] 0 else if most < 1 ∨ 3000 < most ∨ 100 < choices.length then (2, -1) else match choices.findIdx? (fun l => !inpsTo p.ins l l.length) with | some i => (5, (i : Int)) | none => (0, -1)
abbrev toldZ : Value := .agg #[.int .i64 0, .slice none 0 0, .int .i64 0]
def SearchPost (sp : Nat → Addr) (p : Pr) (choices : List (List Vl)) (most : Int) (w : World) (r : Ending) (w' : World) : Prop :=
 Below w.heap.size w w' ∧ if (searchE p choices most).1 = 0 then ∃ ks ord, freshGo Env.none p.vars = some ks ∧ orderM p = .ok ord ∧
   (match searchM ks ord p choices most.toNat with
   | .over => r = .returned (.tuple #[toldZ, esv (sp 1)])
   | .ok l => r = .returned (.tuple #[.agg #[.int .i64 l.length, .slice none 0 0, .int .i64 (-2)], .nilIface])
   | .found i l c k => ∃ v, r = .returned (.tuple #[.agg #[.int .i64 l.length, v, .int .i64 k], .nilIface]) ∧ InsV (allKn w') (Bf.W l i ++ [c]) v)
  else ∃ v, r = .returned (.tuple #[toldZ, v]) ∧ ErrW sp w' (searchE p choices most).1 (searchE p choices most).2 v
theorem SeS.init {ST : TypeId} {H : Kn} {w0 w3 w6 w7 : World} {M : Nat} {K : Kn} {s : List Vl} {a : Option Addr} {n c : Nat} (hin : K.In w3) (hle : H.le K) (hb : Below w0.heap.size w0 w3) (hv : VlsV K s (.slice a n c))
  (hb6 : Below ((w3.alloc (.cells #[.slice a n c, .int .i64 (-1), .slice none 0 0] ST)).alloc (.map #[] 0)).heap.size ((w3.alloc (.cells #[.slice a n c, .int .i64 (-1), .slice none 0 0] ST)).alloc (.map #[] 0)) w6) (ht : Turned w6 w7 (w3.heap.size + 1)) (hm : MapAt Value.bool w7 (w3.heap.size + 1) (seenE [s])) (hM : w0.heap.size ≤ M) (hM2 : M < w3.heap.size) :
  SeS ST H w0 w7 w3.heap.size (w3.heap.size + 1) M [(⟨s, -1, []⟩, .slice a n c, .slice none 0 0)] [s] (.slice (some ⟨w3.heap.size, 0, none⟩) 1 1) K := by
 have hba : Below w3.heap.size w3 ((w3.alloc (.cells #[.slice a n c, .int .i64 (-1), .slice none 0 0] ST)).alloc (.map #[] 0)) := ((Below.refl _ _).alloc (Nat.le_refl _) _).alloc (by simp) _
 have hb2 := hba.trans (hb6.mono hba.size)
 have hno : ∀ b, w3.heap.size ≤ b → K b = none := fun b h => hin.isNone h
 have hblk : w7.heap[w3.heap.size]? = some (.cells #[.slice a n c, .int .i64 (-1), .slice none 0 0] ST (0, 0)) := by
  rw [ht.block (by omega), hb6.block _ (by simp; omega), Below.heap_alloc _ _ _ (by simp)]
  exact heap_alloc_new w3 _
 have hs := ht.size
 refine ⟨hle, ht.isin (hin.below hb2) (hno _ (by omega)), ht.below (hb.trans (hb2.mono hb.size)) (by have := hb.size; omega), ⟨by simp [seX], .inr ⟨w3.heap.size, 1, _, rfl, Nat.le_refl _, hblk, Nat.le_refl _, by unfold maxLen; omega, rfl, rfl⟩⟩, fun g hg => ?_, fun x hx => ?_, hm, hno _ (by omega), by rw [hs]; exact hb2.size, ⟨hM, by have := hb.size; omega, hM2, hb.size, by omega⟩, ?_⟩
 ·have e : w3.heap.size = g := by simpa [Value.ownBlock] using hg
  exact hno g (by omega)
 ·rw [List.mem_singleton.1 hx]
  exact ⟨hv, .inl ⟨rfl, none, 0, rfl⟩⟩
 ·simp [Value.ownBlock]
theorem put_right {ks : Env Int} {p : Pr} {s : List Vl} (h : rightTo (kindsL ks p) s s.length = true) : MemR ks p (putM s).mem := by
 unfold rightTo at h
 simp only [Bool.and_eq_true, decide_eq_true_eq, List.all_eq_true, List.mem_range] at h
 obtain ⟨h1, h2⟩ := h
 have hl : (kindsL ks p).length = (memNdsL 0 p.terms).length + 1 := by simp [kindsL]
 refine ⟨by show (s.drop 1).length = _; rw [List.length_drop]; omega, fun j hj => ?_⟩
 have := h2 (j + 1) (by omega)
 show rightV ((s.drop 1).getD j vz) _ = true
 rw [List.getD_eq_getElem?_getD, List.getElem?_drop, Nat.add_comm 1 j, ← List.getD_eq_getElem?_getD]
 have e : (kindsL ks p).getD (j + 1) 0 = kindOf ks (memNdsL 0 p.terms)[j].1 := by
  simp [kindsL, List.getD_eq_getElem?_getD, hj]
 rw [e] at this
 exact this
theorem step_fine {R : REnv} {c : Cd} {ins : List Vr} {s : Mc} {x : List Vl} (ht : s.trapped = false) (hx : inpsTo ins x x.length = true) : (stepM R c ins s x).1 = 0 := by
 unfold stepM
 rw [if_neg (by simp [ht]), if_pos hx]
 split <;> rfl
theorem cell3_of {W : World} {b : Nat} {x y z : Value} {t : TypeId} (h : W.heap[b]? = some (.cells #[x, y, z] t (0, 0))) :
  W.cell? ⟨b, 0, none⟩ = some x ∧ W.cell? ⟨b, 1, none⟩ = some y ∧ W.cell? ⟨b, 2, none⟩ = some z ∧ W.frozen? ⟨b, 0, none⟩ = false ∧ W.frozen? ⟨b, 1, none⟩ = false ∧ W.frozen? ⟨b, 2, none⟩ = false ∧ b < W.heap.size :=
 ⟨by simp [World.cell?, h], by simp [World.cell?, h], by simp [World.cell?, h], by simp [World.frozen?, h], by simp [World.frozen?, h], by simp [World.frozen?, h], (Array.getElem?_eq_some_iff.1 h).1⟩
def put3 (W : World) (b : Nat) (x y z : Value) : World := ((W.setCell ⟨b, 0, none⟩ x).setCell ⟨b, 1, none⟩ y).setCell ⟨b, 2, none⟩ z
theorem put3_heap {W : World} {b : Nat} {x y z : Value} {t : TypeId} (h : W.heap[b]? = some (.cells #[x, y, z] t (0, 0))) (p q r : Value) : (put3 W b p q r).heap[b]? = some (.cells #[p, q, r] t (0, 0)) := by
 have h1 := heap_setCell_same W b 0 p _ _ _ h
 have h2 := heap_setCell_same _ b 1 q _ _ _ h1
 have h3 := heap_setCell_same _ b 2 r _ _ _ h2
 simpa [put3] using h3
theorem put3_below {base b : Nat} {w W : World} (h : Below base w W) (hb : base ≤ b) (p q r : Value) : Below base w (put3 W b p q r) :=
 ((h.setCell (p := ⟨b, 0, none⟩) hb p).setCell (p := ⟨b, 1, none⟩) hb q).setCell (p := ⟨b, 2, none⟩) hb r
theorem put3_size (W : World) (b : Nat) (x y z : Value) : (put3 W b x y z).heap.size = W.heap.size := by simp [put3]
theorem put3_other {W : World} {b : Nat} (x y z : Value) {k : Nat} (hk : k ≠ b) : (put3 W b x y z).heap[k]? = W.heap[k]? := by
 unfold put3
 rw [Below.heap_setCell _ ⟨b, 2, none⟩ _ k hk, Below.heap_setCell _ ⟨b, 1, none⟩ _ k hk, Below.heap_setCell _ ⟨b, 0, none⟩ _ k hk]
theorem found_mem {ks : Env Int} {ord : List Nat} {p : Pr} {choices : List (List Vl)} {most : Nat} (hm : 1 ≤ most) {i : Nat} {l : List StE} {c : List Vl} {k : Int} (h : searchM ks ord p choices most = .found i l c k) : ∀ x ∈ Bf.W l i ++ [c], x ∈ choices := by
 have hp := Bf.search_post (stR (RP false 0 ks p) (cdOf p ord) p.ins) (nxR (RP false 0 ks p) (cdOf p ord) p.ins) (cs := choices) (s0 := startS (RP false 0 ks p) p) (c0 := []) hm
 unfold searchM at h
 rw [h] at hp
 obtain ⟨hI, hi, hc, _, _⟩ := hp
 obtain ⟨_, g2, _⟩ := hI.goes i hi
 intro x hx
 rcases List.mem_append.1 hx with hx | hx
 ·exact g2 x hx
 ·rw [List.mem_singleton.1 hx]; exact hc
theorem Kn.In.put3 {K : Kn} {W : World} (h : K.In W) {b : Nat} (hb : K b = none) (x y z : Value) : K.In (put3 W b x y z) :=
 ((h.setCell (a := ⟨b, 0, none⟩) hb x).setCell (a := ⟨b, 1, none⟩) hb y).setCell (a := ⟨b, 2, none⟩) hb z
end Go.Proofs.YtmeldgjlgifdhaaDoor
