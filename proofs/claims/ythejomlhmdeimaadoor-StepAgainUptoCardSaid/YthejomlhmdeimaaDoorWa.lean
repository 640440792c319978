/- Walks: lustrumlaw2.walk. -/
import Derived.Test.YthejomlhmdeimaaDoorSp
import Derived.Test.YthejomlhmdeimaaDoorBare
import Derived.Test.YthejomlhmdeimaaDoorNt
import Derived.Test.YthejomlhmdeimaaDoorEof
namespace Go.Proofs.YthejomlhmdeimaaDoor
set_option maxRecDepth 100000
set_option maxHeartbeats 16000000
open Go.RowKit Mx
theorem bare_ord : orderM bareP = .ok [0] := by kernel_rfl
theorem bare_ks : freshGo Env.none bareP.vars = some (Env.none.set ⟨#[120]⟩ 1) := by kernel_rfl
theorem bare_new : runE bareP [] 0 = (0, -1) := by kernel_rfl
theorem bare_step : stepM ⟨Env.none.set ⟨#[120]⟩ 1, namesM bareP, getI (nmEnv bareP), false, 0⟩ (cdOf bareP [0]) bareP.ins ⟨true, startM ⟨Env.none.set ⟨#[120]⟩ 1, namesM bareP, getI (nmEnv bareP), false, 0⟩ (memNdsL 0 bareP.terms), false⟩ [] = (0, ⟨[⟨1, 1⟩], true, false, []⟩, ⟨false, [], false⟩) := by kernel_rfl
theorem walk_any (H : Kn) (T : LevelsAt H) (sp : Nat → Addr) (w : World) (hH : H.In w) (S : Sen5 w sp) :
  Calls Tryd.prog 14 #[] w fun r w' => r = .returned (.bool true) ∧ Below w.heap.size w w' := by
 have hle : ∀ w1, Below w.heap.size w w1 → LevelsAt (allKn w1) := fun w1 hb => T.le (kn_le_all (hH.below hb))
 have HLE := Lib.hid hle
 clear hle
 go_enter Tryd.func14, Tryd.ntmps14
 go_wp2_with fail
 refine (lbare_any _).mono ?_
 rintro r w1 ⟨vi, vo, vl, va, vc, rfl, hp, hb1⟩
 have HB1 := Lib.hid hb1
 have HP1 := Lib.hid hp
 clear hb1 hp
 go_wp2_with fail
 refine (new_any _ (HLE.out _ HB1.out) sp bareP _ _ _ _ _ HP1.out w1 (allKn_in _) (S.below HB1.out) false 0 ⟨by decide, by decide, by decide, by decide, by decide⟩ (by decide)).mono ?_
 rintro r w3 ⟨hb3, hpost⟩
 rcases hpost with ⟨hE, M, B, ks, ord, vm, hks, ho, rfl, hMw, hM⟩ | ⟨hE, _⟩
 case inr => exact absurd (by rw [bare_new]) hE
 rw [bare_ord] at ho
 cases ho
 rw [bare_ks] at hks
 cases hks
 have HB3 := Lib.hid (HB1.out.trans (hb3.mono HB1.out.size))
 have HC := Lib.hid (cd_ready (p := bareP) (runE_zero hE).1 bare_ks bare_ord false 0 (by decide) (by decide) (by decide))
 have HM := Lib.hid hM
 have HMW := Lib.hid hMw
 clear hM hb3 hE hMw
 go_wp2_with fail
 refine (mtick_any sp HM.out HC.out (S.below HB3.out) [] _ (.inl ⟨rfl, none, 0, rfl⟩) (by decide)).mono ?_
 rintro r w5 ⟨vm5, ov, cv, rfl, hg5, hM5, hk5⟩
 rw [bare_step] at hM5 hk5 ⊢
 have HB5 := Lib.hid (Gr2.below HB3.out hg5 (Nat.le_trans HB1.out.size HMW.out) HB3.out.size)
 obtain ⟨ao, co, rfl⟩ := hk5.outs.len
 obtain ⟨ac, cc, rfl⟩ := hk5.checks.len
 dsimp only [errV, List.length_cons, List.length_nil] at hM5 ⊢
 have hba : Below w5.heap.size w5 (w5.alloc (.cells #[.slice ao 1 co, .bool true, .bool false, .slice ac 0 cc] 56)) := (Below.refl _ _).alloc (Nat.le_refl _) _
 have HM5 := Lib.hid (hM5.join hba)
 have HB6 := Lib.hid (HB5.out.trans (hba.mono HB5.out.size))
 clear hM5 hk5 hg5 hba
 go_wp2_with fail
 refine (state_any HM5.out (by decide)).mono ?_
 rintro r w7 ⟨v7, rfl, hv7, hb7⟩
 obtain ⟨a7, c7, rfl⟩ := hv7.len
 dsimp only [stateM, List.length_cons, List.length_nil]
 go_wp2_with fail
 go_ret
 exact ⟨rfl, HB6.out.trans (hb7.mono HB6.out.size)⟩
end Go.Proofs.YthejomlhmdeimaaDoor
namespace Go.Proofs.YthejomlhmdeimaaDoor
set_option maxRecDepth 100000
set_option maxHeartbeats 16000000
open Go.RowKit Mx
theorem TksV.le {H H' : Kn} (hle : H.le H') {l : List Tk} {v : Value} (h : TksV H l v) : TksV H' l v := SlV.le h hle (TkC.mono hle)
theorem own_gr {w w' : World} {base M : Nat} {e : TypeId} {k n : Nat} {v : Value} {xs : List Value} (h : w.ownsRow base e k v n xs) (g : Gr2 w w' M none) (hM : M < base) : w'.ownsRow base e k v n xs := by
 obtain ⟨h1, h2⟩ := h
 refine ⟨h1, ?_⟩
 rcases h2 with h2 | ⟨q, cap, cur, e1, hb, hg, h3⟩
 ·exact .inl h2
 ·exact .inr ⟨q, cap, cur, e1, hb, (g.block q (Array.getElem?_eq_some_iff.1 hg).1 (by omega) (by simp)).trans hg, h3⟩
theorem RuS.gr {DT : TypeId} {H : Kn} {w0 wr w5 : World} {base M : Nat} {os : List (Tk × Value × Value)} {u : Value} {K : Kn} {ms : List Vl} {vm : Value} (h : RuS DT H w0 wr base os u K ms vm) (hM : K M = none) (hw : w0.heap.size ≤ M) (hb : M < base) (g : Gr2 wr w5 M none) :
  RuS DT H w0 w5 base os u (joinKn K wr.heap.size w5) ms vm := by
 have h1 := joinKn_le h.isin w5
 have hlow := h.low
 exact ⟨Kn.le_trans h.le h1, joinKn_gr h.isin g hM, Gr2.below h.below g hw (by have := h.below.size; omega), own_gr h.row g hb, fun q hq => by unfold joinKn; rw [if_pos (h.row.lt q hq).2]; exact h.noU q hq, fun x hx => (h.tks x hx).le h1, SlV.le h.mem h1 VlC.mono, h.hb, Nat.le_trans h.low g.size⟩
theorem McAt.kle {MT NT CT : TypeId} {R : REnv} {p : Pr} {ord : List Nat} {K K' : Kn} {w : World} {M B : Nat} {s : Mc} {vm : Value} (h : McAt MT NT CT R p ord K w M B s vm) (hle : K.le K') (hin : K'.In w) (hno : K' M = none) : McAt MT NT CT R p ord K' w M B s vm :=
 ⟨h.box, hin, hno, h.code.le hle, SlV.le h.mem hle VlC.mono, h.len⟩
theorem RuS.known {DT : TypeId} {H : Kn} {w0 wr : World} {base : Nat} {os : List (Tk × Value × Value)} {u : Value} {K : Kn} {ms : List Vl} {vm : Value} (h : RuS DT H w0 wr base os u K ms vm) : ∃ K', K.le K' ∧ K'.In wr ∧ TksV K' (os.map (·.1)) u ∧ ∀ b, b < base → K' b = K b := by
 have hr : wr.ownsRow base DT 4 u (os.map (·.1)).length (osX os) := by rw [List.length_map]; exact h.row
 exact slv_of_own (R := TkC) h.isin hr h.noU fun K' hle i hi f hf => by
  have hi2 : i < os.length := by simpa using hi
  have hc : ∀ j, j < 4 → (osX os)[i * 4 + j]? = [os[i].2.1, Value.bool os[i].1.asrt, .bool os[i].1.trap, os[i].2.2][j]? := fun j hj => flat_get 4 (fun x : Tk × Value × Value => [x.2.1, .bool x.1.asrt, .bool x.1.trap, x.2.2]) (fun _ => rfl) os i hi2 j hj
  rw [List.getElem_map]
  exact ⟨os[i].2.1, os[i].2.2, hf 0 _ (by rw [hc 0 (by omega)]; rfl), hf 1 _ (by rw [hc 1 (by omega)]; rfl), hf 2 _ (by rw [hc 2 (by omega)]; rfl), hf 3 _ (by rw [hc 3 (by omega)]; rfl), (h.tks _ (List.getElem_mem hi2)).le hle⟩
theorem stepM_sizes (R : REnv) (p : Pr) (ord : List Nat) (s : Mc) (l : List Vl) : (stepM R (cdOf p ord) p.ins s l).2.1.out.length ≤ p.outs.length ∧ (stepM R (cdOf p ord) p.ins s l).2.1.checks.length ≤ p.cs.length := by
 have h := tickM_sizes R (cdOf p ord) s.first s.mem l
 have e1 : (cdOf p ord).outs.length = p.outs.length := List.length_map _
 have e2 : (cdOf p ord).cv.length = p.cs.length := withAt_len _ _
 unfold stepM
 split
 ·simp [trapT]
 split
 ·split <;> (dsimp only; omega)
 ·simp [noT]
theorem toldM_sizes (R : REnv) (p : Pr) (ord : List Nat) : ∀ (l : List (List Vl)) (s : Mc), (toldM R (cdOf p ord) p.ins s l).length ≤ l.length ∧ ∀ x ∈ toldM R (cdOf p ord) p.ins s l, x.out.length ≤ p.outs.length ∧ x.checks.length ≤ p.cs.length
 | [], s => ⟨by simp [toldM], fun x hx => by simp [toldM] at hx⟩
 | y :: l, s => by
  obtain ⟨h1, h2⟩ := toldM_sizes R p ord l (stepM R (cdOf p ord) p.ins s y).2.2
  refine ⟨?_, fun x hx => ?_⟩
  ·simp only [toldM, List.length_append, List.length_cons]
   split
   ·simp; omega
   ·simp; omega
  ·simp only [toldM, List.mem_append] at hx
   rcases hx with hx | hx
   ·split at hx
    ·rw [List.mem_singleton.1 hx]; exact stepM_sizes R p ord s y
    ·cases hx
   ·exact h2 x hx
theorem goM_snoc (R : REnv) (c : Cd) (ins : List Vr) : ∀ (l : List (List Vl)) (s : Mc) (x : List Vl), goM R c ins s (l ++ [x]) = (stepM R c ins (goM R c ins s l) x).2.2
 | [], s, x => rfl
 | y :: l, s, x => goM_snoc R c ins l _ x
theorem toldM_snoc (R : REnv) (c : Cd) (ins : List Vr) : ∀ (l : List (List Vl)) (s : Mc) (x : List Vl), toldM R c ins s (l ++ [x]) = toldM R c ins s l ++ (if (stepM R c ins (goM R c ins s l) x).1 = 0 then [(stepM R c ins (goM R c ins s l) x).2.1] else [])
 | [], s, x => by
  show _ ++ [] = [] ++ _
  rw [List.append_nil]; rfl
 | y :: l, s, x => by
  show _ ++ toldM R c ins _ (l ++ [x]) = (_ ++ toldM R c ins _ l) ++ _
  rw [toldM_snoc R c ins l, List.append_assoc]; rfl
theorem stepM_code (R : REnv) (c : Cd) (ins : List Vr) (s : Mc) (l : List Vl) : (stepM R c ins s l).1 = 0 ∨ (stepM R c ins s l).1 = 5 := by
 unfold stepM
 split
 ·exact .inl rfl
 split
 ·split <;> exact .inl rfl
 ·exact .inr rfl
end Go.Proofs.YthejomlhmdeimaaDoor
