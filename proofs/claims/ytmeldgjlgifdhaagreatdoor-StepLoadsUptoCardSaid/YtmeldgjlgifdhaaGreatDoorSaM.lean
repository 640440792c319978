/- Plain, and known memory: machines in rows of ticks that grow; put back into a state a machine does again what it did. -/
import Derived.Test.YtmeldgjlgifdhaaGreatDoorSp
import Derived.Test.YtmeldgjlgifdhaaGreatDoorGof
import Derived.Test.YtmeldgjlgifdhaaGreatDoorBare
namespace Go.Proofs.YtmeldgjlgifdhaaGreatDoor
set_option maxRecDepth 100000
set_option maxHeartbeats 16000000
open Go.RowKit Mx
theorem TksV.le {H H' : Kn} (hle : H.le H') {l : List Tk} {v : Value} (h : TksV H l v) : TksV H' l v := SlV.le h hle (TkC.mono hle)
theorem own_gr {w w' : World} {base M : Nat} {e : TypeId} {k n : Nat} {v : Value} {xs : List Value} (h : w.ownsRow base e k v n xs) (g : Gr2 w w' M none) (hM : M < base) : w'.ownsRow base e k v n xs := by
 obtain ⟨h1, h2⟩ := h
 refine ⟨h1, ?_⟩
 rcases h2 with h2 | ⟨q, cap, cur, e1, hb, hg, h3⟩
 ·exact .inl h2
 ·exact .inr ⟨q, cap, cur, e1, hb, (g.block q (Array.getElem?_eq_some_iff.1 hg).1 (by omega) (by simp)).trans hg, h3⟩
theorem RuS.gr {DT : TypeId} {H : Kn} {w0 wr w5 : World} {base M : Nat} {os : List (Tk × Value × Value)} {u : Value} {K : Kn} {ms : List Vl} {vm : Value} (h : RuS DT H w0 wr base os u K ms vm) (hM : K M = none) (hw : w0.heap.size ≤ M) (hb : M < base) (g : Gr2 wr w5 M none) :
  RuS DT H w0 w5 base os u (joinKn K wr.heap.size w5) ms vm := by
 have h1 := joinKn_le h.isin w5
 have hlow := h.low
 exact ⟨Kn.le_trans h.le h1, joinKn_gr h.isin g hM, Gr2.below h.below g hw (by have := h.below.size; omega), own_gr h.row g hb, fun q hq => by unfold joinKn; rw [if_pos (h.row.lt q hq).2]; exact h.noU q hq, fun x hx => (h.tks x hx).le h1, SlV.le h.mem h1 VlC.mono, h.hb, Nat.le_trans h.low g.size⟩
theorem McAt.kle {MT NT CT : TypeId} {R : REnv} {p : Pr} {ord : List Nat} {K K' : Kn} {w : World} {M B : Nat} {s : Mc} {vm : Value} (h : McAt MT NT CT R p ord K w M B s vm) (hle : K.le K') (hin : K'.In w) (hno : K' M = none) : McAt MT NT CT R p ord K' w M B s vm :=
 ⟨h.box, hin, hno, h.code.le hle, SlV.le h.mem hle VlC.mono, h.len⟩
theorem RuS.known {DT : TypeId} {H : Kn} {w0 wr : World} {base : Nat} {os : List (Tk × Value × Value)} {u : Value} {K : Kn} {ms : List Vl} {vm : Value} (h : RuS DT H w0 wr base os u K ms vm) : ∃ K', K.le K' ∧ K'.In wr ∧ TksV K' (os.map (·.1)) u ∧ ∀ b, b < base → K' b = K b := by
 have hr : wr.ownsRow base DT 4 u (os.map (·.1)).length (osX os) := by rw [List.length_map]; exact h.row
 exact slv_of_own (R := TkC) h.isin hr h.noU fun K' hle i hi f hf => by
  have hi2 : i < os.length := by simpa using hi
  have hc : ∀ j, j < 4 → (osX os)[i * 4 + j]? = [os[i].2.1, Value.bool os[i].1.asrt, .bool os[i].1.trap, os[i].2.2][j]? := fun j hj => flat_get 4 (fun x : Tk × Value × Value => [x.2.1, .bool x.1.asrt, .bool x.1.trap, x.2.2]) (fun _ => rfl) os i hi2 j hj
  rw [List.getElem_map]
  exact ⟨os[i].2.1, os[i].2.2, hf 0 _ (by rw [hc 0 (by omega)]; rfl), hf 1 _ (by rw [hc 1 (by omega)]; rfl), hf 2 _ (by rw [hc 2 (by omega)]; rfl), hf 3 _ (by rw [hc 3 (by omega)]; rfl), (h.tks _ (List.getElem_mem hi2)).le hle⟩
theorem stepM_sizes (R : REnv) (p : Pr) (ord : List Nat) (s : Mc) (l : List Vl) : (stepM R (cdOf p ord) p.ins s l).2.1.out.length ≤ p.outs.length ∧ (stepM R (cdOf p ord) p.ins s l).2.1.checks.length ≤ p.cs.length := by
 have h := tickM_sizes R (cdOf p ord) s.first s.mem l
 have e1 : (cdOf p ord).outs.length = p.outs.length := List.length_map _
 have e2 : (cdOf p ord).cv.length = p.cs.length := withAt_len _ _
 unfold stepM
 split
 ·simp [trapT]
 split
 ·split <;> (dsimp only; omega)
 ·simp [noT]
theorem goM_snoc (R : REnv) (c : Cd) (ins : List Vr) : ∀ (l : List (List Vl)) (s : Mc) (x : List Vl), goM R c ins s (l ++ [x]) = (stepM R c ins (goM R c ins s l) x).2.2
 | [], s, x => rfl
 | y :: l, s, x => goM_snoc R c ins l _ x
theorem stepM_code (R : REnv) (c : Cd) (ins : List Vr) (s : Mc) (l : List Vl) : (stepM R c ins s l).1 = 0 ∨ (stepM R c ins s l).1 = 5 := by
 unfold stepM
 split
 ·exact .inl rfl
 split
 ·split <;> exact .inl rfl
 ·exact .inr rfl
end Go.Proofs.YtmeldgjlgifdhaaGreatDoor
namespace Go.Proofs.YtmeldgjlgifdhaaGreatDoor
set_option maxRecDepth 100000
set_option maxHeartbeats 16000000
open Go.RowKit Mx
def Kn.but (K : Kn) (M : Nat) : Kn := fun b => if b = M then none else K b
theorem Kn.but_self (K : Kn) (M : Nat) : K.but M M = none := by simp [Kn.but]
theorem Kn.but_other (K : Kn) {M b : Nat} (h : b ≠ M) : K.but M b = K b := by simp [Kn.but, h]
theorem Kn.but_cell (K : Kn) {M b : Nat} (h : b ≠ M) (i : Nat) : (K.but M).cell b i = K.cell b i := by unfold Kn.cell; rw [Kn.but_other K h]
theorem Kn.but_in {K : Kn} {w : World} (h : K.In w) (M : Nat) : (K.but M).In w := fun b o e => by
 unfold Kn.but at e
 split at e
 ·cases e
 ·exact h b o e
theorem slV_but {α : Type} {K : Kn} {k M : Nat} {R R' : α → (Nat → Option Value) → Prop} {l : List α} {v : Value} (h : SlV K k R l v) (hne : ∀ b off, 0 < l.length → (∀ i (hi : i < l.length), R l[i] (fun j => K.cell b (off + i * k + j))) → b ≠ M)
  (hr : ∀ x f, R x f → R' x f) : SlV (K.but M) k R' l v := by
 rcases h with h | ⟨b, off, cap, h1, h2, h3, h4⟩
 ·exact .inl h
 ·by_cases hl : 0 < l.length
  ·have hb := hne b off hl h4
   refine .inr ⟨b, off, cap, h1, h2, h3, fun i hi => hr _ _ ?_⟩
   simp only [Kn.but_cell K hb]
   exact h4 i hi
  ·exact .inl ⟨List.eq_nil_of_length_eq_zero (by omega), _, _, by rw [h1, show l.length = 0 from by omega]⟩
structure McB (MT NT CT : TypeId) (K : Kn) (M B1 : Nat) : Prop where
 ne : MT ≠ NT ∧ MT ≠ CT ∧ CT ≠ NT
 box : ∃ b1 n1 f1 a1 l1 c1 t1 fr, K M = some (.cells #[ptrV B1, .bool b1, .int .i64 n1, .bool f1, .slice a1 l1 c1, .bool t1] MT fr)
 code : ∃ cs fr, K B1 = some (.cells cs CT fr)
section
variable {MT NT CT : TypeId} {K : Kn} {M B1 : Nat}
theorem McB.cell (h : McB MT NT CT K M B1) (i : Nat) : ∃ b1 n1 f1 a1 l1 c1 t1, K.cell M i = (#[ptrV B1, .bool b1, .int .i64 n1, .bool f1, .slice a1 l1 c1, .bool t1] : Array Value)[i]? := by
 obtain ⟨b1, n1, f1, a1, l1, c1, t1, fr, e⟩ := h.box
 exact ⟨b1, n1, f1, a1, l1, c1, t1, by unfold Kn.cell; rw [e]⟩
theorem McB.str (h : McB MT NT CT K M B1) (i : Nat) (s : ByteArray) : K.cell M i ≠ some (.string s) := fun e => by
 obtain ⟨_, _, _, _, _, _, _, e2⟩ := h.cell i
 rw [e2] at e
 rcases i with _ | _ | _ | _ | _ | _ | i <;> simp_all
theorem McB.ints (h : McB MT NT CT K M B1) (i : Nat) (x y : Int) : K.cell M i = some (.int .i64 x) → K.cell M (i + 1) ≠ some (.int .i64 y) := fun e f => by
 obtain ⟨_, _, _, _, _, _, _, e2⟩ := h.cell i
 obtain ⟨_, _, _, _, _, _, _, f2⟩ := h.cell (i + 1)
 rw [e2] at e
 rw [f2] at f
 rcases i with _ | _ | _ | _ | _ | _ | i <;> simp_all
theorem McB.ptr (h : McB MT NT CT K M B1) (i : Nat) (q : Nat) : K.cell M i = some (ptrV q) → q = B1 := fun e => by
 obtain ⟨_, _, _, _, _, _, _, e2⟩ := h.cell i
 rw [e2] at e
 rcases i with _ | _ | _ | _ | _ | _ | i <;> simp_all
theorem McB.node (h : McB MT NT CT K M B1) {R : REnv} {e : Ex} {m q : Nat} (hn : NdAt NT R K e m q) : q ≠ M ∧ q ≠ B1 := by
 obtain ⟨lv, pv, h1, _⟩ := hn.open
 obtain ⟨n1, n2, n3⟩ := h.ne
 refine ⟨fun e => ?_, fun e => ?_⟩
 ·obtain ⟨_, _, _, _, _, _, _, fr, h2⟩ := h.box
  rw [e, h2] at h1
  simp only [Option.some.injEq, Obj.cells.injEq] at h1
  exact n1 h1.2.1
 ·obtain ⟨cs, fr, h2⟩ := h.code
  rw [e, h2] at h1
  simp only [Option.some.injEq, Obj.cells.injEq] at h1
  exact n3 h1.2.1
theorem McB.nd (h : McB MT NT CT K M B1) (R : REnv) : ∀ (e : Ex) (m q : Nat), NdAt NT R K e m q → NdAt NT R (K.but M) e m q := by
 refine Ex.ind fun o n s l ih m q hn => ?_
 have hq := (h.node hn).1
 simp only [NdAt] at hn ⊢
 obtain ⟨lv, pv, h1, h2⟩ := hn
 refine ⟨lv, pv, by rw [Kn.but_other K hq]; exact h1, ?_⟩
 rcases h2 with h2 | ⟨b, off, cap, h3, h4, h5, h6⟩
 ·exact .inl h2
 ·by_cases hl : 0 < l.length
  ·refine .inr ⟨b, off, cap, h3, h4, h5, NdsAt.mk fun i hi => ?_⟩
   have hb : b ≠ M := fun e => by
    obtain ⟨q', g1, g2⟩ := h6.get 0 hl
    rw [e] at g1
    exact (h.node g2).2 (h.ptr _ _ g1)
   obtain ⟨q', g1, g2⟩ := h6.get i hi
   exact ⟨q', by rw [Kn.but_cell K hb]; exact g1, ih _ (List.getElem_mem hi) _ _ g2⟩
  ·exact .inl ⟨List.eq_nil_of_length_eq_zero (by omega), _, cap, by rw [h3, show l.length = 0 from by omega]⟩
theorem McB.nds (h : McB MT NT CT K M B1) {R : REnv} {l : List (Ex × Nat)} {v : Value} (hn : NdsV NT R K l v) : NdsV NT R (K.but M) l v :=
 slV_but hn (fun b off hl hx e => by
  obtain ⟨q, g1, g2⟩ := hx 0 hl
  rw [e] at g1
  exact (h.node g2).2 (h.ptr _ _ g1)) fun x f ⟨q, g1, g2⟩ => ⟨q, g1, h.nd R _ _ _ g2⟩
theorem McB.vls (h : McB MT NT CT K M B1) {l : List Vl} {v : Value} (hv : VlsV K l v) : VlsV (K.but M) l v :=
 slV_but hv (fun b off hl hx e => by
  obtain ⟨g1, g2⟩ := hx 0 hl
  rw [e] at g1 g2
  simp only [Nat.zero_mul, Nat.add_zero] at g1 g2
  exact h.ints _ _ _ g1 g2) fun _ _ h => h
theorem McB.codeAt (h : McB MT NT CT K M B1) {R : REnv} {p : Pr} {ord : List Nat} {B : Nat} (hc : CodeAt NT CT R K p ord B) {K' : Kn} (hk : CodeNewK CT R K' p ord B) (hle : K'.le K) (hM : K' M = none) : CodeAt NT CT R (K.but M) p ord B := by
 obtain ⟨cs, vI, vo, vf, va, vc, vu, vM, hcb, ⟨e0, h0⟩, ⟨e5, h5⟩, ⟨e6, h6⟩, ⟨e7, h7⟩, ⟨e8, h8⟩, ⟨e9, h9⟩, ⟨e10, h10⟩⟩ := hc.ex
 obtain ⟨cs', vo', vu', k1, k2, k3, k4, k5⟩ := hk
 have hle2 : K'.le (K.but M) := fun b o e => by
  rw [Kn.but_other K (fun e2 => by rw [e2, hM] at e; cases e)]
  exact hle b o e
 have hcs : cs' = cs := by
  have := hle _ _ k1
  rw [hcb] at this
  simp only [Option.some.injEq, Obj.cells.injEq] at this
  exact this.1.symm
 subst hcs
 rw [e5] at k2
 cases k2
 rw [e9] at k4
 cases k4
 refine ⟨cs', vI, vo, vf, va, vc, vu, vM, hle2 _ _ k1, ⟨e0, slV_but h0 (fun b off hl hx e => ?_) fun _ _ h => h⟩, ⟨e5, IntsV.le hle2 k3⟩, ⟨e6, h.nds h6⟩, ⟨e7, h.nds h7⟩, ⟨e8, h.nds h8⟩, ⟨e9, OutsV.le hle2 k5⟩, ⟨e10, h.nds h10⟩⟩
 obtain ⟨g1, _⟩ := hx 0 hl
 rw [e] at g1
 exact h.str _ _ g1
end
theorem McAt.other {MT NT CT : TypeId} {R : REnv} {p : Pr} {ord : List Nat} {K : Kn} {w w' : World} {M M' B : Nat} {s : Mc} {vm : Value} (h : McAt MT NT CT R p ord K w M B s vm) (g : Gr2 w w' M' none) (hK : K M' = none) (hne : M ≠ M') : McAt MT NT CT R p ord (joinKn K w.heap.size w') w' M B s vm :=
 ⟨(g.block M h.lt hne (by simp)).trans h.box, joinKn_gr h.isin g hK, by rw [joinKn_at h.lt]; exact h.no, h.code.le (joinKn_le h.isin w'), SlV.le h.mem (joinKn_le h.isin w') VlC.mono, h.len⟩
theorem two_machines {MT NT CT : TypeId} (hne : MT ≠ NT ∧ MT ≠ CT ∧ CT ≠ NT) {R R2 : REnv} {p : Pr} {ord ord2 : List Nat} {w w' : World} {M1 M2 B1 B2 : Nat} {K : Kn} {s1 s2 : Mc} {v1 v2 : Value} (h1 : McAt MT NT CT R p ord K w M1 B1 s1 v1) (hb : Below w.heap.size w w')
  (hM : w.heap.size ≤ M2) (h2 : McAt MT NT CT R2 p ord2 (noKn M2 w') w' M2 B2 s2 v2) (hk : CodeNewK CT R2 (hiKn w.heap.size (noKn M2 w')) p ord2 B2) :
  McAt MT NT CT R p ord ((noKn M2 w').but M1) w' M1 B1 s1 v1 ∧ McAt MT NT CT R2 p ord2 ((noKn M2 w').but M1) w' M2 B2 s2 v2 ∧ K.le ((noKn M2 w').but M1) := by
 have h1' := h1.below hb
 have hlt := h1.lt
 have hle : K.le ((noKn M2 w').but M1) := fun b o e => by
  have hbl := h1.isin.lt e
  rw [Kn.but_other _ (fun e2 => by rw [e2, h1.no] at e; cases e)]
  unfold noKn
  rw [if_neg (by omega)]
  exact h1'.isin b o e
 have hin : ((noKn M2 w').but M1).In w' := Kn.but_in (noKn_in M2 w') M1
 have hbox : (noKn M2 w') M1 = some (.cells (mcV R B1 s1 v1) MT (0, 0)) := by
  unfold noKn; rw [if_neg (by omega)]; exact h1'.box
 obtain ⟨a1, c1, rfl⟩ := h1.mem.len
 obtain ⟨cs, _, _, _, _, _, _, _, hcb, _⟩ := h1'.code.ex
 have hB1 : (noKn M2 w') B1 = some (.cells cs CT (0, 0)) := by
  have := h1.isin.lt (h1.code.ex.choose_spec.choose_spec.choose_spec.choose_spec.choose_spec.choose_spec.choose_spec.choose_spec.1)
  unfold noKn
  rw [if_neg (by omega)]
  exact h1'.isin _ _ hcb
 have hX : McB MT NT CT (noKn M2 w') M1 B1 := ⟨hne, ⟨_, _, _, _, _, _, _, _, hbox⟩, ⟨_, _, hB1⟩⟩
 refine ⟨h1'.kle hle hin (Kn.but_self _ _), ⟨h2.box, hin, ?_, hX.codeAt h2.code hk (fun b o e => ?_) ?_, hX.vls h2.mem, h2.len⟩, hle⟩
 ·rw [Kn.but_other _ (by omega)]; exact noKn_self _ _
 ·unfold hiKn at e
  split at e
  ·cases e
  ·exact e
 ·unfold hiKn; rw [if_pos hlt]
end Go.Proofs.YtmeldgjlgifdhaaGreatDoor
namespace Go.Proofs.YtmeldgjlgifdhaaGreatDoor
set_option maxRecDepth 100000
set_option maxHeartbeats 16000000
open Go.RowKit Mx
theorem bare_ord : orderM bareP = .ok [0] := by kernel_rfl
theorem bare_ks : freshGo Env.none bareP.vars = some (Env.none.set ⟨#[120]⟩ 1) := by kernel_rfl
theorem bare_new : runE bareP [] 0 = (0, -1) := by kernel_rfl
theorem bare_step : stepM ⟨Env.none.set ⟨#[120]⟩ 1, namesM bareP, getI (nmEnv bareP), false, 0⟩ (cdOf bareP [0]) bareP.ins ⟨true, startM ⟨Env.none.set ⟨#[120]⟩ 1, namesM bareP, getI (nmEnv bareP), false, 0⟩ (memNdsL 0 bareP.terms), false⟩ [] = (0, ⟨[⟨1, 1⟩], true, false, []⟩, ⟨false, [], false⟩) := by kernel_rfl
theorem walk_any (H : Kn) (T : LevelsAt H) (sp : Nat → Addr) (w : World) (hH : H.In w) (S : Sen5 w sp) :
  Calls Tryz.prog 11 #[] w fun r w' => r = .returned (.bool true) ∧ Below w.heap.size w w' := by
 have hle : ∀ w1, Below w.heap.size w w1 → LevelsAt (allKn w1) := fun w1 hb => T.le (kn_le_all (hH.below hb))
 have HLE := Lib.hid hle
 clear hle
 go_enter Tryz.func11, Tryz.ntmps11
 go_wp2_with fail
 refine (lbare_any _).mono ?_
 rintro r w1 ⟨vi, vo, vl, va, vc, rfl, hp, hb1⟩
 have HB1 := Lib.hid hb1
 have HP1 := Lib.hid hp
 clear hb1 hp
 go_wp2_with fail
 refine (new_any _ (HLE.out _ HB1.out) sp bareP _ _ _ _ _ HP1.out w1 (allKn_in _) (S.below HB1.out) false 0 ⟨by decide, by decide, by decide, by decide, by decide⟩ (by decide)).mono ?_
 rintro r w3 ⟨hb3, hpost⟩
 rcases hpost with ⟨hE, M, B, ks, ord, vm, hks, ho, rfl, hMw, hM, _⟩ | ⟨hE, _⟩
 case inr => exact absurd (by rw [bare_new]) hE
 rw [bare_ord] at ho
 cases ho
 rw [bare_ks] at hks
 cases hks
 have HB3 := Lib.hid (HB1.out.trans (hb3.mono HB1.out.size))
 have HC := Lib.hid (cd_ready (p := bareP) (runE_zero hE).1 bare_ks bare_ord false 0 (by decide) (by decide) (by decide))
 have HM := Lib.hid hM
 have HMW := Lib.hid hMw
 clear hM hb3 hE hMw
 go_wp2_with fail
 refine (mtick_any sp HM.out HC.out (S.below HB3.out) [] _ (.inl ⟨rfl, none, 0, rfl⟩) (by decide)).mono ?_
 rintro r w5 ⟨vm5, ov, cv, rfl, hg5, hM5, hk5⟩
 rw [bare_step] at hM5 hk5 ⊢
 have HB5 := Lib.hid (Gr2.below HB3.out hg5 (Nat.le_trans HB1.out.size HMW.out) HB3.out.size)
 obtain ⟨ao, co, rfl⟩ := hk5.outs.len
 obtain ⟨ac, cc, rfl⟩ := hk5.checks.len
 dsimp only [errV, List.length_cons, List.length_nil] at hM5 ⊢
 have hba : Below w5.heap.size w5 (w5.alloc (.cells #[.slice ao 1 co, .bool true, .bool false, .slice ac 0 cc] 56)) := (Below.refl _ _).alloc (Nat.le_refl _) _
 have HM5 := Lib.hid (hM5.join hba)
 have HB6 := Lib.hid (HB5.out.trans (hba.mono HB5.out.size))
 clear hM5 hk5 hg5 hba
 go_wp2_with fail
 refine (state_any HM5.out (by decide)).mono ?_
 rintro r w7 ⟨v7, rfl, hv7, hb7⟩
 obtain ⟨a7, c7, rfl⟩ := hv7.len
 dsimp only [stateM, List.length_cons, List.length_nil]
 go_wp2_with fail
 go_ret
 exact ⟨rfl, HB6.out.trans (hb7.mono HB6.out.size)⟩
end Go.Proofs.YtmeldgjlgifdhaaGreatDoor
