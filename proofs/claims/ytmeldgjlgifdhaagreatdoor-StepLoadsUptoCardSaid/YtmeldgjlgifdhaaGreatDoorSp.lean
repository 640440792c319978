/- Walks: package step: State, Load, Tick, New. (Printed by gen_sp.py.) -/
import Derived.Test.YtmeldgjlgifdhaaGreatDoorNuR
import Derived.Test.YtmeldgjlgifdhaaGreatDoorRg
import Derived.Test.YtmeldgjlgifdhaaGreatDoorRu
namespace Go.Proofs.YtmeldgjlgifdhaaGreatDoor
set_option maxRecDepth 100000
set_option maxHeartbeats 16000000
open Go.RowKit Mx
theorem newKn_in (n : Nat) (w : World) : (newKn n w).In w := fun b o e => by
 unfold newKn at e
 split at e
 ·cases e
 ·exact e
theorem new_le_join {K : Kn} {n n' : Nat} {W W2 : World} (hn : n ≤ n') {M : Nat} (hM : M < n) (g : Gr2 W2 W M none) : (newKn n' W2).le (joinKn K n W) := fun b o e => by
 unfold newKn at e
 split at e
 ·cases e
 ·rename_i hb
  unfold joinKn
  rw [if_neg (by omega), g.block b (Array.getElem?_eq_some_iff.1 e).1 (by omega) (by simp)]
  exact e
theorem VlsV.dropOf {K : Kn} {l : List Vl} {b off n c : Nat} (h : VlsV K l (.slice (some ⟨b, off, none⟩) n c)) (hl : 1 ≤ l.length) : VlsV K (l.drop 1) (.slice (if c = 1 then some ⟨b, off, none⟩ else some ⟨b, off + 2, none⟩) (l.drop 1).length (c - 1)) := by
 rcases h with ⟨rfl, _⟩ | ⟨b2, off2, cap, h1, h2, h3, h4⟩
 ·simp at hl
 ·cases h1
  by_cases hc : c = 1
  ·have : l.drop 1 = [] := List.eq_nil_of_length_eq_zero (by simp; omega)
   rw [this]
   exact .inl ⟨rfl, _, _, rfl⟩
  ·rw [if_neg hc]
   refine .inr ⟨b, off + 2, c - 1, rfl, by simp; omega, by omega, fun i hi => ?_⟩
   have hi2 : 1 + i < l.length := by simp at hi; omega
   have := h4 (1 + i) hi2
   rw [List.getElem_drop]
   have e : ∀ j, off + (1 + i) * 2 + j = off + 2 + i * 2 + j := fun j => by omega
   simp only [e] at this
   exact this
theorem box_cells {W : World} {b : Nat} {cs : Array Value} {t : TypeId} (h : W.heap[b]? = some (.cells cs t (0, 0))) : (∀ i, W.cell? ⟨b, i, none⟩ = cs[i]?) ∧ ∀ i, i < cs.size → W.frozen? ⟨b, i, none⟩ = false :=
 ⟨fun i => by simp [World.cell?, h], fun i _ => by simp [World.frozen?, h]⟩
theorem wsame {w w' : World} {b o : Nat} {v : Value} (hS : ∀ (b o : Nat) (v : Value), w.cell? ⟨b, o, none⟩ = some v → w'.cell? ⟨b, o, none⟩ = some v) (h : w.cell? ⟨b, o, none⟩ = some v) : w'.cell? ⟨b, o, none⟩ = some v := hS _ _ _ h
theorem cell_lt {w : World} {b o : Nat} {v : Value} (h : w.cell? ⟨b, o, none⟩ = some v) : b < w.heap.size := by
 unfold World.cell? at h
 cases e : w.heap[b]? with
 | none => simp [e] at h
 | some x => exact (Array.getElem?_eq_some_iff.1 e).1
theorem SlV.hidx {α : Type} {H : Kn} {k n c : Nat} {R : α → (Nat → Option Value) → Prop} {l : List α} {a : Option Addr} (h : SlV H k R l (.slice a n c)) (hl : 0 < l.length) : ∃ b off, a = some ⟨b, off, none⟩ ∧ n = l.length ∧ l.length ≤ c := by
 rcases h with ⟨rfl, _⟩ | ⟨b, off, cap, h1, h2, h3, h4⟩
 ·simp at hl
 ·cases h1
  exact ⟨b, off, rfl, rfl, h2⟩
theorem state_any {R : REnv} {p : Pr} {ord : List Nat} {K : Kn} {w : World} {M B : Nat} {s : Mc} {vm : Value} (h : McAt 94 143 135 R p ord K w M B s vm) (hz : s.mem.length ≤ 100000000) :
  Calls Tryz.prog 17 #[ptrV M] w fun r w' => ∃ v, r = .returned v ∧ VlsV (newKn w.heap.size w') (stateM s) v ∧ Below w.heap.size w w' := by
 obtain ⟨am, cm, rfl⟩ := h.mem.len
 have k3 : (mcKn K 94 R M B s (.slice am s.mem.length cm)).cell M 3 = some (.bool s.first) := mcKn_cell 3
 have k4 : (mcKn K 94 R M B s (.slice am s.mem.length cm)).cell M 4 = some (.slice am s.mem.length cm) := mcKn_cell 4
 have hS : (mcKn K 94 R M B s (.slice am s.mem.length cm)).In w.drew := h.kn
 have hmem := SlV.le h.mem (mcKn_le (s := s) (MT := 94) (R := R) (B := B) (vm := .slice am s.mem.length cm) h.no) VlC.mono
 have hbD : Below w.heap.size w w.drew := (Below.refl _ _).drew
 have hsm : stateM s = [tv s.first] ++ s.mem := rfl
 generalize (mcKn K 94 R M B s (.slice am s.mem.length cm)) = KM at *
 have HSM := Lib.hid hsm
 clear hsm h
 generalize stateM s = SL at *
 obtain ⟨first, mem, trapped⟩ := s
 dsimp only at *
 go_enter Tryz.func17, Tryz.ntmps17
 go_wp2_with fail
 refine wp_region_2 (fun w' => KM.In w') (fun _ => True) 99 (by kernel_rfl) ?_
 refine tk2 (i := 0) (v := ?_) rfl hS (fun _ => trivial) ?hy ?_
 case hy => intro w hSw; obtain ⟨z0, z1⟩ := hSw.c2 k3 k4; go_simp <;> with_reducible rfl
 try simp only [tkS, List.getElem_toArray, List.getElem_cons_zero, List.getElem_cons_succ]
 refine tk2 (i := 1) (v := ?_) rfl hS (fun _ => trivial) ?hy ?_
 case hy => intro w hSw; obtain ⟨z0, z1⟩ := hSw.c2 k3 k4; go_simp <;> with_reducible rfl
 try simp only [tkS, List.getElem_toArray, List.getElem_cons_zero, List.getElem_cons_succ]
 refine tk2 (i := 2) (v := ?_) rfl hS (fun _ => trivial) ?hy ?_
 case hy => intro w hSw; obtain ⟨z0, z1⟩ := hSw.c2 k3 k4; go_simp <;> with_reducible rfl
 try simp only [tkS, List.getElem_toArray, List.getElem_cons_zero, List.getElem_cons_succ]
 refine tk2 (i := 3) (v := ?_) rfl hS (fun _ => trivial) ?hy ?_
 case hy => intro w hSw; obtain ⟨z0, z1⟩ := hSw.c2 k3 k4; go_simp <;> with_reducible rfl
 try simp only [tkS, List.getElem_toArray, List.getElem_cons_zero, List.getElem_cons_succ]
 refine tk2 (i := 6) (v := ?_) rfl hS (fun _ => trivial) ?hy ?_
 case hy => intro w hSw; obtain ⟨z0, z1⟩ := hSw.c2 k3 k4; go_simp <;> with_reducible rfl
 try simp only [tkS, List.getElem_toArray, List.getElem_cons_zero, List.getElem_cons_succ]
 refine tk2 (i := 7) (v := ?_) rfl hS (fun _ => trivial) ?hy ?_
 case hy => intro w hSw; obtain ⟨z0, z1⟩ := hSw.c2 k3 k4; go_simp <;> with_reducible rfl
 try simp only [tkS, List.getElem_toArray, List.getElem_cons_zero, List.getElem_cons_succ]
 refine tk2 (i := 8) (v := ?_) rfl hS (fun _ => trivial) ?hy ?_
 case hy => intro w hSw; obtain ⟨z0, z1⟩ := hSw.c2 k3 k4; go_simp <;> with_reducible rfl
 try simp only [tkS, List.getElem_toArray, List.getElem_cons_zero, List.getElem_cons_succ]
 refine tk2 (i := 9) (v := ?_) rfl hS (fun _ => trivial) ?hy ?_
 case hy => intro w hSw; obtain ⟨z0, z1⟩ := hSw.c2 k3 k4; go_simp <;> with_reducible rfl
 try simp only [tkS, List.getElem_toArray, List.getElem_cons_zero, List.getElem_cons_succ]
 refine wpAny2_one (i := 4) (o := _) (by kernel_rfl) rfl (fun K_ hK => ?_)
 go_simp
 go_at_call 43
 refine (truth_any _ _).mono ?_
 rintro r5 w5 ⟨rfl, hb5⟩
 have hS5 := hS.below hb5
 have hB5 := hbD.trans (hb5.mono hbD.size)
 obtain ⟨xk, xn, hx⟩ : ∃ xk xn, tv first = ⟨xk, xn⟩ := ⟨_, _, rfl⟩
 rw [hx]
 rw [hx] at HSM
 refine hK.out _ _ (hS5) (fun _ => trivial) ?_
 clear hK K_
 try simp only [tkS, List.getElem_toArray, List.getElem_cons_zero, List.getElem_cons_succ]
 refine wpAny2_one (i := 5) (o := _) (by kernel_rfl) rfl (fun K_ hK => ?_)
 go_simp
 refine hK.out _ _ ((hS5.alloc _)) (fun _ => trivial) ?_
 clear hK K_
 try simp only [tkS, List.getElem_toArray, List.getElem_cons_zero, List.getElem_cons_succ]
 have hrow0 : (w5.alloc (.cells #[.int .i64 xk, .int .i64 xn] 25)).ownsRow w5.heap.size 25 2 (.slice (some ⟨w5.heap.size, 0, none⟩) 1 1) 1 [.int .i64 xk, .int .i64 xn] :=
  ⟨by simp, .inr ⟨w5.heap.size, 1, #[.int .i64 xk, .int .i64 xn], rfl, Nat.le_refl _, heap_alloc_new w5 _, Nat.le_refl _, by unfold maxLen; omega, rfl, rfl⟩⟩
 obtain ⟨v', w6, hrun, hown, hg⟩ := run_app_vls (hS5.alloc _) hmem hrow0 (by simp) (by omega)
 have hba : Below w5.heap.size w5 (w5.alloc (.cells #[.int .i64 xk, .int .i64 xn] 25)) := (Below.refl _ _).alloc (Nat.le_refl _) _
 have hb6 : Below w5.heap.size w5 w6 := hba.grown hg hba.size (fun q hq => (hrow0.lt q hq).1)
 have hS6 := hS5.below hb6
 refine wpAny2_one (i := 10) (o := _) (by kernel_rfl) rfl (fun K_ hK => ?_)
 refine step_append_run rfl 22 22 _ _ rfl _ _ rfl rfl _ _ hrun ?_
 refine hK.out _ _ (hS6) (fun _ => trivial) ?_
 clear hK K_
 try simp only [tkS, List.getElem_toArray, List.getElem_cons_zero, List.getElem_cons_succ]
 refine tk2 (i := 11) (v := ?_) rfl hS6 (fun _ => trivial) ?hy ?_
 case hy => intro w hSw; obtain ⟨z0, z1⟩ := hSw.c2 k3 k4; go_simp <;> with_reducible rfl
 try simp only [tkS, List.getElem_toArray, List.getElem_cons_zero, List.getElem_cons_succ]
 refine wpAny2_done (by kernel_rfl) ?_ _
 go_wp2_with fail
 go_ret
 refine ⟨_, rfl, ?_, hB5.trans (hb6.mono hB5.size)⟩
 rw [HSM.out]
 refine vls_row (T := 25) (base := w5.heap.size) ?_ hB5.size
 have e : ([⟨xk, xn⟩] ++ mem : List Vl).length = 1 + mem.length := by simp; omega
 rw [e]
 exact hown
theorem load_any (sp : Nat → Addr) {R : REnv} {p : Pr} {ord : List Nat} {K : Kn} {w : World} {M B : Nat} {s : Mc} {vm : Value} (h : McAt 94 143 135 R p ord K w M B s vm) (S5 : Sen5 w sp) (l : List Vl) (v : Value) (hv : VlsV K l v) (hl : l.length ≤ 100000000) (hz : memNL p.terms ≤ 100000000) :
  Calls Tryz.prog 18 #[ptrV M, v] w fun r w' => Gr2 w w' M none ∧ ((rightTo (kindsL R.ks p) l l.length = true ∧ r = .returned .nilIface ∧ ∃ vm', McAt 94 143 135 R p ord (joinKn K w.heap.size w') w' M B (putM l) vm') ∨
   (rightTo (kindsL R.ks p) l l.length = false ∧ r = .returned (esv (sp 2)) ∧ McAt 94 143 135 R p ord (joinKn K w.heap.size w') w' M B s vm)) := by
 obtain ⟨av, cv, rfl⟩ := hv.len
 obtain ⟨cs, vi, vo, vf, va, vc, vu, vM, hcb, _, _, _, _, _, _, ⟨e10, h10⟩⟩ := h.code.ex
 have hMlt := h.lt
 have hba : Below w.heap.size w (w.alloc (.cells #[.int .i64 1] 3)) := (Below.refl _ _).alloc (Nat.le_refl _) _
 have h1 := h.below hba
 have c0 : (w.alloc (.cells #[.int .i64 1] 3)).cell? ⟨M, 0, none⟩ = some (ptrV B) := h1.cell 0
 have hrow0 : (w.alloc (.cells #[.int .i64 1] 3)).ownsRow w.heap.size 3 1 (.slice (some ⟨w.heap.size, 0, none⟩) 1 1) 1 [.int .i64 1] :=
  ⟨by simp, .inr ⟨w.heap.size, 1, #[.int .i64 1], rfl, Nat.le_refl _, heap_alloc_new w _, Nat.le_refl _, by unfold maxLen; omega, rfl, rfl⟩⟩
 have hmem := memories_any R K B cs (memNdsL 0 p.terms) vM hcb e10 h10 (by rw [memNdsL_len]; omega) _ h1.isin
 have HB := Lib.hid hba
 have HR0 := Lib.hid hrow0
 have HM := Lib.hid h
 have HV := Lib.hid hv
 have hkl : ((memNdsL 0 p.terms).map fun x => kindOf R.ks x.1).length = memNL p.terms := by rw [List.length_map, memNdsL_len]
 have HKL := Lib.hid hkl
 have hK : kindsL R.ks p = 1 :: (memNdsL 0 p.terms).map fun x => kindOf R.ks x.1 := rfl
 have HKK := Lib.hid hK
 clear hcb e10 h10 h1 hba hrow0 h hv hkl hK
 generalize ((memNdsL 0 p.terms).map fun x => kindOf R.ks x.1) = KL at *
 go_enter Tryz.func18, Tryz.ntmps18
 go_wp2_with fail
 refine hmem.mono ?_
 rintro r w2 ⟨v2, rfl, hv2, hb2⟩
 obtain ⟨a2, c2, rfl⟩ := hv2.len
 obtain ⟨v3, w3, hrun, hown, hg⟩ := run_app_ints (newKn_in _ _) hv2 (own_below HR0.out hb2) (by have := hb2.size; simp at this; omega) (by have := HKL.out; omega)
 have hb3 : Below w.heap.size w w3 := (HB.out.trans (hb2.mono (by simp))).grown hg (by have := hb2.size; simp at this; omega) (fun q hq => (HR0.out.lt q hq).1)
 have hk3 : OutsV (newKn w.heap.size w3) (1 :: KL) v3 := ints_row (base := w.heap.size) (T := 3) (by rw [show (1 :: KL).length = 1 + KL.length from by simp; omega]; exact hown) (Nat.le_refl _)
 obtain ⟨a3, c3, rfl⟩ := hk3.len
 have HRUN := Lib.hid hrun
 have HB3 := Lib.hid hb3
 have HK3 := Lib.hid hk3
 have h3 := HM.out.below hb3
 have HM3 := Lib.hid h3
 clear hmem hv2 hrun hown hg hb3 hk3 hb2 c0 h3
 have hlen : ((l.length : Int) == ((1 :: KL).length : Int)) = decide (l.length = (1 :: KL).length) := by
  by_cases h : l.length = (1 :: KL).length
  ·rw [decide_eq_true h, h]; exact beq_self_eq_true _
  ·have : ¬ ((l.length : Int) = ((1 :: KL).length : Int)) := by omega
   rw [decide_eq_false h]; exact beq_false_of_ne this
 have HL := Lib.hid hlen
 have hkl1 : (1 :: KL).length = memNL p.terms + 1 := by have := HKL.out; simp; omega
 have hK0 := HKK.out
 rw [← hK0] at hlen hkl1 HK3 HL HRUN
 have HKL := Lib.hid hkl1
 clear hlen hK0 HKK HB HR0 hkl1
 go_wp2_with (at_builtin; refine wp_append_run rfl 78 78 _ _ rfl _ _ rfl rfl _ _ HRUN.out ?_)
 clear HRUN
 have FAIL := Lib.hid (show ∀ wr, Below w3.heap.size w3 wr → Gr2 w wr M none ∧ McAt 94 143 135 R p ord (joinKn K w.heap.size wr) wr M B s vm from fun wr hb => by
  have hbw := HB3.out.trans (hb.mono HB3.out.size)
  exact ⟨Gr2.of_below hbw _ _, HM.out.join hbw⟩)
 go_loopw [6, 7] (fun u i wr => ∃ k : Nat, i = .int .i64 k ∧ u = .bool (rightTo (kindsL R.ks p) l k) ∧ k ≤ l.length ∧ Below w3.heap.size w3 wr) (fun _ i _ => l.length - (intOf i).toNat)
 case atStart => exact ⟨0, rfl, by simp [rightTo, HL.out], Nat.zero_le _, Below.refl _ _⟩
 case round =>
  obtain ⟨k, rfl, rfl, hk, hb⟩ := hrel
  have HB := Lib.hid hb
  have hbw := HB3.out.trans (hb.mono HB3.out.size)
  have c2 := (S5.below hbw).c2
  clear hb hbw
  cases hok : rightTo (kindsL R.ks p) l k with
  | false =>
   have HF := Lib.hid (FAIL.out wr HB.out)
   have HOK := Lib.hid (rightTo_false _ _ _ hok _ hk)
   clear hok
   go_wp2_with fail
   go_ret
   exact ⟨HF.out.1, .inr ⟨HOK.out, rfl, HF.out.2⟩⟩
  | true =>
   by_cases hkl : k < l.length
   ·clear c2
    have hli : l.length = (kindsL R.ks p).length := by
     unfold rightTo at hok
     simp only [Bool.and_eq_true, decide_eq_true_eq] at hok
     exact hok.1
    have hki : k < (kindsL R.ks p).length := by omega
    have hkI : (k : Int) < l.length := by omega
    have hkI2 : (k : Int) < (kindsL R.ks p).length := by omega
    clear hli
    obtain ⟨b, off, rfl, e0, e1⟩ := vl_at2 HV.out hkl
    obtain ⟨b2, off2, rfl, _, d0⟩ := SlV.at HK3.out hki
    have d0 : (newKn w.heap.size w3).cell b2 (off2 + k * 1 + 0) = some (.int .i64 (kindsL R.ks p)[k]) := d0
    simp only [Nat.mul_one, Nat.add_zero] at d0
    have e0 := (HM3.out.isin.below HB.out).cell e0
    have e1 := (HM3.out.isin.below HB.out).cell e1
    have d0 := ((newKn_in w.heap.size w3).below HB.out).cell d0
    have HSN := Lib.hid (show rightTo (kindsL R.ks p) l (k + 1) = rightV l[k] (kindsL R.ks p)[k] from by
     rw [rightTo_succ, hok, Bool.true_and]
     simp [List.getD_eq_getElem?_getD, hkl, hki])
    clear hok
    generalize (kindsL R.ks p)[k] = kd at *
    generalize l[k] = x at *
    obtain ⟨xk, xn⟩ := x
    dsimp only at e0 e1
    go_wp2_with fail
    have hS : ∀ (b o : Nat) (v : Value), wr.cell? ⟨b, o, none⟩ = some v → wr.drew.cell? ⟨b, o, none⟩ = some v := fun _ _ _ h => h
    refine wp_region_2 (fun w' => ∀ (b o : Nat) (v : Value), wr.cell? ⟨b, o, none⟩ = some v → w'.cell? ⟨b, o, none⟩ = some v) (fun _ => True) 99 (by kernel_rfl) ?_
    refine tk2 (i := 0) (v := ?_) rfl hS (fun _ => trivial) ?hy ?_
    case hy => intro w hSw; have z0 := wsame hSw e0; have z1 := wsame hSw e1; have z2 := wsame hSw d0; go_simp <;> with_reducible rfl
    try simp only [tkS, List.getElem_toArray, List.getElem_cons_zero, List.getElem_cons_succ]
    refine tk2 (i := 1) (v := ?_) rfl hS (fun _ => trivial) ?hy ?_
    case hy => intro w hSw; have z0 := wsame hSw e0; have z1 := wsame hSw e1; have z2 := wsame hSw d0; go_simp <;> with_reducible rfl
    try simp only [tkS, List.getElem_toArray, List.getElem_cons_zero, List.getElem_cons_succ]
    refine tk2 (i := 2) (v := ?_) rfl hS (fun _ => trivial) ?hy ?_
    case hy => intro w hSw; have z0 := wsame hSw e0; have z1 := wsame hSw e1; have z2 := wsame hSw d0; go_simp <;> with_reducible rfl
    try simp only [tkS, List.getElem_toArray, List.getElem_cons_zero, List.getElem_cons_succ]
    refine tk2 (i := 3) (v := ?_) rfl hS (fun _ => trivial) ?hy ?_
    case hy => intro w hSw; have z0 := wsame hSw e0; have z1 := wsame hSw e1; have z2 := wsame hSw d0; go_simp <;> with_reducible rfl
    try simp only [tkS, List.getElem_toArray, List.getElem_cons_zero, List.getElem_cons_succ]
    refine tk2 (i := 4) (v := ?_) rfl hS (fun _ => trivial) ?hy ?_
    case hy => intro w hSw; have z0 := wsame hSw e0; have z1 := wsame hSw e1; have z2 := wsame hSw d0; go_simp <;> with_reducible rfl
    try simp only [tkS, List.getElem_toArray, List.getElem_cons_zero, List.getElem_cons_succ]
    refine tk2 (i := 5) (v := ?_) rfl hS (fun _ => trivial) ?hy ?_
    case hy => intro w hSw; have z0 := wsame hSw e0; have z1 := wsame hSw e1; have z2 := wsame hSw d0; go_simp <;> with_reducible rfl
    try simp only [tkS, List.getElem_toArray, List.getElem_cons_zero, List.getElem_cons_succ]
    refine tk2 (i := 6) (v := ?_) rfl hS (fun _ => trivial) ?hy ?_
    case hy => intro w hSw; have z0 := wsame hSw e0; have z1 := wsame hSw e1; have z2 := wsame hSw d0; go_simp <;> with_reducible rfl
    try simp only [tkS, List.getElem_toArray, List.getElem_cons_zero, List.getElem_cons_succ]
    refine tk2 (i := 7) (v := ?_) rfl hS (fun _ => trivial) ?hy ?_
    case hy => intro w hSw; have z0 := wsame hSw e0; have z1 := wsame hSw e1; have z2 := wsame hSw d0; go_simp <;> with_reducible rfl
    try simp only [tkS, List.getElem_toArray, List.getElem_cons_zero, List.getElem_cons_succ]
    refine wpAny2_one (i := 8) (o := _) (by kernel_rfl) rfl (fun K_ hK => ?_)
    go_simp
    go_at_call 26
    refine (right_any ⟨xk, xn⟩ kd _).mono ?_
    rintro r5 w5 ⟨rfl, hb5⟩
    have hS5 : ∀ (b o : Nat) (v : Value), wr.cell? ⟨b, o, none⟩ = some v → w5.cell? ⟨b, o, none⟩ = some v := fun b o v h => by
     rw [hb5.cell (p := ⟨b, o, none⟩) (cell_lt h)]; exact h
    refine hK.out _ _ (hS5) (fun _ => trivial) ?_
    clear hK K_
    try simp only [tkS, List.getElem_toArray, List.getElem_cons_zero, List.getElem_cons_succ]
    refine tk2 (i := 9) (v := ?_) rfl hS5 (fun _ => trivial) ?hy ?_
    case hy => intro w hSw; have z0 := wsame hSw e0; have z1 := wsame hSw e1; have z2 := wsame hSw d0; go_simp <;> with_reducible rfl
    try simp only [tkS, List.getElem_toArray, List.getElem_cons_zero, List.getElem_cons_succ]
    refine wpAny2_done (by kernel_rfl) ?_ _
    have HB5 := Lib.hid (HB.out.drew.trans (hb5.mono (by have := HB.out.drew.size; omega)))
    go_wp2_with fail
    go_roundw
    case rel => first | exact ⟨k + 1, by go_num, by rw [HSN.out], by omega, HB5.out⟩ | ((repeat apply Exists.intro); refine ⟨?_, rfl⟩; exact ⟨k + 1, by go_num, by rw [HSN.out], by omega, HB5.out⟩)
    case measure => simp [intOf]; omega
   ·obtain rfl : k = l.length := by omega
    clear c2 FAIL
    have hlK : l.length = (kindsL R.ks p).length := by
     unfold rightTo at hok
     simp only [Bool.and_eq_true, decide_eq_true_eq] at hok
     exact hok.1
    have hl1 : 1 ≤ l.length := by have := HKL.out; omega
    obtain ⟨b, off, rfl, _, hlc⟩ := SlV.hidx HV.out (by omega)
    obtain ⟨b', off', e, e0, e1⟩ := vl_at2 HV.out (show 0 < l.length from hl1)
    cases e
    clear e0
    simp only [Nat.zero_mul, Nat.add_zero] at e1
    have hdrop := VlsV.dropOf HV.out hl1
    rw [show (l.drop 1).length = memNL p.terms from by have := HKL.out; simp; omega] at hdrop
    have hbw := HB3.out.trans (HB.out.mono HB3.out.size)
    have hin : K.In wr := HM.out.isin.below hbw
    have hbx : wr.heap[M]? = some (.cells (mcV R B s vm) 94 (0, 0)) := (HM.out.below hbw).box
    have HGW := Lib.hid (Gr2.of_below hbw M none)
    have HOK := Lib.hid hok
    have HPM := Lib.hid (show putM l = ⟨decide (l[0].n = 1), l.drop 1, false⟩ from by
     unfold putM
     rw [show l.getD 0 vz = l[0] from by simp [List.getD_eq_getElem?_getD, show 0 < l.length from hl1]])
    have HDL := Lib.hid (show (l.drop 1).length = memNL p.terms from by have := HKL.out; simp; omega)
    have hll : (l.length : Int) - 1 = ((l.length - 1 : Nat) : Int) := by omega
    have hcll : (cv : Int) - 1 = ((cv - 1 : Nat) : Int) := by omega
    have h1I : (1 : Int) ≤ l.length := by omega
    have h0I : (0 : Int) < l.length := by omega
    have h0N : 0 < l.length := by omega
    have hdl := HDL.out
    rw [List.length_drop] at hdl
    have hmz : memNL p.terms ≤ 100000000 := hz
    have hlt : M < wr.heap.size := Nat.lt_of_lt_of_le hMlt (Nat.le_trans HB3.out.size HB.out.size)
    clear hok hlK hbw
    unfold mcV at hbx
    generalize l[0] = x0 at *
    obtain ⟨xk, xn⟩ := x0
    dsimp only at e1 HPM
    go_wp2_with fail
    have hS : K.In wr.drew := hin
    have hbx : wr.drew.heap[M]? = some (.cells #[ptrV B, .bool R.nb, .int .i64 R.ni, .bool s.first, vm, .bool s.trapped] 94 (0, 0)) := hbx
    have HG := Lib.hid ((Gr2.of_below (Below.refl wr.heap.size wr).drew M none : Gr2 wr wr.drew M none))
    refine wp_region_2 (fun w' => K.In w') (fun _ => True) 99 (by kernel_rfl) ?_
    refine tk2 (i := 0) (v := ?_) rfl hS (fun _ => trivial) ?hy ?_
    case hy => intro w hSw; have z := hSw.cell e1; go_simp <;> with_reducible rfl
    try simp only [tkS, List.getElem_toArray, List.getElem_cons_zero, List.getElem_cons_succ]
    refine tk2 (i := 1) (v := ?_) rfl hS (fun _ => trivial) ?hy ?_
    case hy => intro w hSw; have z := hSw.cell e1; go_simp <;> with_reducible rfl
    try simp only [tkS, List.getElem_toArray, List.getElem_cons_zero, List.getElem_cons_succ]
    refine tk2 (i := 2) (v := ?_) rfl hS (fun _ => trivial) ?hy ?_
    case hy => intro w hSw; have z := hSw.cell e1; go_simp <;> with_reducible rfl
    try simp only [tkS, List.getElem_toArray, List.getElem_cons_zero, List.getElem_cons_succ]
    refine tk2 (i := 3) (v := ?_) rfl hS (fun _ => trivial) ?hy ?_
    case hy => intro w hSw; have z := hSw.cell e1; go_simp <;> with_reducible rfl
    try simp only [tkS, List.getElem_toArray, List.getElem_cons_zero, List.getElem_cons_succ]
    refine tk2 (i := 4) (v := ?_) rfl hS (fun _ => trivial) ?hy ?_
    case hy => intro w hSw; have z := hSw.cell e1; go_simp <;> with_reducible rfl
    try simp only [tkS, List.getElem_toArray, List.getElem_cons_zero, List.getElem_cons_succ]
    refine tk2 (i := 5) (v := ?_) rfl hS (fun _ => trivial) ?hy ?_
    case hy => intro w hSw; have z := hSw.cell e1; go_simp <;> with_reducible rfl
    try simp only [tkS, List.getElem_toArray, List.getElem_cons_zero, List.getElem_cons_succ]
    refine tk2 (i := 6) (v := ?_) rfl hS (fun _ => trivial) ?hy ?_
    case hy => intro w hSw; have z := hSw.cell e1; go_simp <;> with_reducible rfl
    try simp only [tkS, List.getElem_toArray, List.getElem_cons_zero, List.getElem_cons_succ]
    refine tk2 (i := 7) (v := ?_) rfl hS (fun _ => trivial) ?hy ?_
    case hy => intro w hSw; have z := hSw.cell e1; go_simp <;> with_reducible rfl
    try simp only [tkS, List.getElem_toArray, List.getElem_cons_zero, List.getElem_cons_succ]
    refine tk2 (i := 8) (v := ?_) rfl hS (fun _ => trivial) ?hy ?_
    case hy => intro w hSw; have z := hSw.cell e1; go_simp <;> with_reducible rfl
    try simp only [tkS, List.getElem_toArray, List.getElem_cons_zero, List.getElem_cons_succ]
    refine tk2 (i := 9) (v := ?_) rfl hS (fun _ => trivial) ?hy ?_
    case hy => intro w hSw; have z := hSw.cell e1; go_simp <;> with_reducible rfl
    try simp only [tkS, List.getElem_toArray, List.getElem_cons_zero, List.getElem_cons_succ]
    refine wpAny2_one (i := 10) (o := _) (by kernel_rfl) rfl (fun K_ hK => ?_)
    go_simp
    go_at_call 45
    refine (cloneV_any K (l.drop 1) _ hdrop (by rw [HDL.out]; omega) _ hS).mono ?_
    rintro r5 w5 ⟨v5, rfl, hv5, hb5⟩
    obtain ⟨a5, c5, rfl⟩ := hv5.len
    rw [HDL.out] at hv5 ⊢
    have hS5 := hS.below hb5
    refine hK.out _ _ (hS5) (fun _ => trivial) ?_
    clear hK K_
    try simp only [tkS, List.getElem_toArray, List.getElem_cons_zero, List.getElem_cons_succ]
    have hbx5 := (hb5.block M (by exact hlt)).trans hbx
    have hG5 : Gr2 wr w5 M none := HG.out.trans (Gr2.of_below hb5 M none) (by simp)
    clear hbx e1 hdrop
    refine tk2 (i := 11) (v := ?_) rfl hS5 (fun _ => trivial) ?hy ?_
    case hy => intro w hSw; go_simp <;> with_reducible rfl
    try simp only [tkS, List.getElem_toArray, List.getElem_cons_zero, List.getElem_cons_succ]
    refine tk2 (i := 12) (v := ?_) rfl hS5 (fun _ => trivial) ?hy ?_
    case hy => intro w hSw; go_simp <;> with_reducible rfl
    try simp only [tkS, List.getElem_toArray, List.getElem_cons_zero, List.getElem_cons_succ]
    refine wpAny2_one (i := 13) (o := _) (by kernel_rfl) rfl (fun K_ hK => ?_)
    obtain ⟨b5, y5⟩ := box_cells hbx5
    have z1 := b5 3
    have z2 := y5 3
    go_simp
    refine hK.out _ _ ((hS5.setCell (a := ⟨M, 3, none⟩) HM.out.no _)) (fun _ => trivial) ?_
    clear hK K_
    try simp only [tkS, List.getElem_toArray, List.getElem_cons_zero, List.getElem_cons_succ]
    have hS6 := hS5.setCell (a := ⟨M, 3, none⟩) HM.out.no (.bool (xn == 1))
    have hbx6 := heap_setCell_same w5 M 3 (.bool (xn == 1)) _ _ _ hbx5
    have hG6 : Gr2 w5 (w5.setCell ⟨M, 3, none⟩ (.bool (xn == 1))) M none := (Gr2.refl _ _ _).setCell 3 _
    generalize w5.setCell ⟨M, 3, none⟩ (.bool (xn == 1)) = w6 at *
    simp only [List.setIfInBounds_toArray, List.set_cons_zero, List.set_cons_succ] at hbx6
    refine tk2 (i := 14) (v := ?_) rfl hS6 (fun _ => trivial) ?hy ?_
    case hy => intro w hSw; go_simp <;> with_reducible rfl
    try simp only [tkS, List.getElem_toArray, List.getElem_cons_zero, List.getElem_cons_succ]
    refine tk2 (i := 15) (v := ?_) rfl hS6 (fun _ => trivial) ?hy ?_
    case hy => intro w hSw; go_simp <;> with_reducible rfl
    try simp only [tkS, List.getElem_toArray, List.getElem_cons_zero, List.getElem_cons_succ]
    refine wpAny2_one (i := 16) (o := _) (by kernel_rfl) rfl (fun K_ hK => ?_)
    obtain ⟨b6, y6⟩ := box_cells hbx6
    have z1 := b6 4
    have z2 := y6 4
    go_simp
    refine hK.out _ _ ((hS6.setCell (a := ⟨M, 4, none⟩) HM.out.no _)) (fun _ => trivial) ?_
    clear hK K_
    try simp only [tkS, List.getElem_toArray, List.getElem_cons_zero, List.getElem_cons_succ]
    have hS7 := hS6.setCell (a := ⟨M, 4, none⟩) HM.out.no (.slice a5 (memNL p.terms) c5)
    have hbx7 := heap_setCell_same w6 M 4 (.slice a5 (memNL p.terms) c5) _ _ _ hbx6
    have hG7 : Gr2 w5 (w6.setCell ⟨M, 4, none⟩ (.slice a5 (memNL p.terms) c5)) M none := hG6.setCell 4 _
    generalize w6.setCell ⟨M, 4, none⟩ (.slice a5 (memNL p.terms) c5) = w7 at *
    simp only [List.setIfInBounds_toArray, List.set_cons_zero, List.set_cons_succ] at hbx7
    refine tk2 (i := 17) (v := ?_) rfl hS7 (fun _ => trivial) ?hy ?_
    case hy => intro w hSw; go_simp <;> with_reducible rfl
    try simp only [tkS, List.getElem_toArray, List.getElem_cons_zero, List.getElem_cons_succ]
    refine tk2 (i := 18) (v := ?_) rfl hS7 (fun _ => trivial) ?hy ?_
    case hy => intro w hSw; go_simp <;> with_reducible rfl
    try simp only [tkS, List.getElem_toArray, List.getElem_cons_zero, List.getElem_cons_succ]
    refine wpAny2_one (i := 19) (o := _) (by kernel_rfl) rfl (fun K_ hK => ?_)
    obtain ⟨b7, y7⟩ := box_cells hbx7
    have z1 := b7 5
    have z2 := y7 5
    go_simp
    refine hK.out _ _ ((hS7.setCell (a := ⟨M, 5, none⟩) HM.out.no _)) (fun _ => trivial) ?_
    clear hK K_
    try simp only [tkS, List.getElem_toArray, List.getElem_cons_zero, List.getElem_cons_succ]
    have hS8 := hS7.setCell (a := ⟨M, 5, none⟩) HM.out.no (.bool false)
    have hbx8 := heap_setCell_same w7 M 5 (.bool false) _ _ _ hbx7
    have hG8 : Gr2 w5 (w7.setCell ⟨M, 5, none⟩ (.bool false)) M none := hG7.setCell 5 _
    generalize w7.setCell ⟨M, 5, none⟩ (.bool false) = w8 at *
    simp only [List.setIfInBounds_toArray, List.set_cons_zero, List.set_cons_succ] at hbx8
    refine wpAny2_done (by kernel_rfl) ?_ _
    have hgw : Gr2 w w8 M none := (HGW.out.trans (hG5.trans hG8 (by simp)) (by simp))
    have hfin : ∃ vm', McAt 94 143 135 R p ord (joinKn K w.heap.size w8) w8 M B (putM l) vm' := by
     refine ⟨.slice a5 (memNL p.terms) c5, ?_, ?_, ?_, ?_, ?_, ?_⟩
     ·rw [HPM.out, hbx8]
      unfold mcV
      simp
      cases hd : decide (xn = 1) <;> simp_all
     ·exact joinKn_gr HM.out.isin hgw HM.out.no
     ·rw [joinKn_at hMlt]; exact HM.out.no
     ·exact HM.out.code.le (joinKn_le HM.out.isin w8)
     ·rw [HPM.out]
      exact SlV.le hv5 (new_le_join (by have := HB3.out.size; have := HB.out.size; have : wr.drew.heap.size = wr.heap.size := rfl; omega) hMlt hG8) VlC.mono
     ·rw [HPM.out]; exact HDL.out
    go_wp2_with fail
    all_goals go_ret
    all_goals exact ⟨hgw, .inl ⟨HOK.out, rfl, hfin⟩⟩
theorem McAt.fin {MT NT CT : TypeId} {R : REnv} {p : Pr} {ord : List Nat} {K : Kn} {w W : World} {M B : Nat} {s s' : Mc} {vm vm' : Value} (h : McAt MT NT CT R p ord K w M B s vm) (g : Gr2 w W M none) (hb : W.heap[M]? = some (.cells (mcV R B s' vm') MT (0, 0))) (hm : VlsV (joinKn K w.heap.size W) s'.mem vm') (hl : s'.mem.length = memNL p.terms) :
  McAt MT NT CT R p ord (joinKn K w.heap.size W) W M B s' vm' :=
 ⟨hb, joinKn_gr h.isin g h.no, by rw [joinKn_at h.lt]; exact h.no, h.code.le (joinKn_le h.isin W), hm, hl⟩
theorem new_le_new {n n' : Nat} {W W2 : World} (hn : n ≤ n') (g : ∀ b, n' ≤ b → b < W.heap.size → W2.heap[b]? = W.heap[b]?) : (newKn n' W).le (newKn n W2) := fun b o e => by
 unfold newKn at e ⊢
 split at e
 ·cases e
 ·rename_i hb
  rw [if_neg (by omega), g b (by omega) (Array.getElem?_eq_some_iff.1 e).1]
  exact e
theorem gr_put {w W7 W8 : World} {M : Nat} (h7 : Below w.heap.size w W7) (g8 : Gr2 W7 W8 M none) (hMw : M < w.heap.size) (x y z u : Value) : Gr2 w (put4 W8 w.heap.size x y z u) M none ∧ (put4 W8 w.heap.size x y z u).heap[M]? = W8.heap[M]? ∧ ∀ b, w.heap.size < b → b < W7.heap.size → (put4 W8 w.heap.size x y z u).heap[b]? = W7.heap[b]? := by
 have hp := put4_below (Below.refl w.heap.size W8) (Nat.le_refl _) x y z u
 refine ⟨⟨hp.os.trans (g8.os.trans h7.os), hp.tape.trans (g8.tape.trans h7.tape), hp.output.trans (g8.output.trans h7.output), Nat.le_trans h7.size (Nat.le_trans g8.size hp.size), fun i hi h1 _ => ?_⟩, put4_other _ _ _ _ (by omega), fun b hb hb2 => ?_⟩
 ·rw [put4_other _ _ _ _ (by omega), g8.block i (by have := h7.size; omega) h1 (by simp)]
  exact h7.block i hi
 ·rw [put4_other _ _ _ _ (by omega)]
  exact g8.block b hb2 (by omega) (by simp)
theorem trapT_V (K : Kn) : TkV K trapT (.slice none 0 0) (.slice none 0 0) := ⟨.inl ⟨rfl, none, 0, rfl⟩, .inl ⟨rfl, none, 0, rfl⟩⟩
theorem noT_V (K : Kn) : TkV K noT (.slice none 0 0) (.slice none 0 0) := ⟨.inl ⟨rfl, none, 0, rfl⟩, .inl ⟨rfl, none, 0, rfl⟩⟩
theorem mtick_any (sp : Nat → Addr) {R : REnv} {p : Pr} {ord : List Nat} {K : Kn} {w : World} {M B : Nat} {s : Mc} {vm : Value} (h : McAt 94 143 135 R p ord K w M B s vm) (HC : CdR R p ord) (S5 : Sen5 w sp) (inp : List Vl) (vi : Value) (hi : VlsV K inp vi) (hil : inp.length ≤ 1000000) :
  Calls Tryz.prog 16 #[ptrV M, vi] w fun r w' => ∃ vm' ov cv, r = .returned (.tuple #[.agg #[ov, .bool (stepM R (cdOf p ord) p.ins s inp).2.1.asrt, .bool (stepM R (cdOf p ord) p.ins s inp).2.1.trap, cv], errV sp (stepM R (cdOf p ord) p.ins s inp).1]) ∧ Gr2 w w' M none ∧ McAt 94 143 135 R p ord (joinKn K w.heap.size w') w' M B (stepM R (cdOf p ord) p.ins s inp).2.2 vm' ∧ TkV (newKn w.heap.size w') (stepM R (cdOf p ord) p.ins s inp).2.1 ov cv := by
 obtain ⟨am, cm, hame⟩ := h.mem.len
 subst hame
 obtain ⟨ai, ci, rfl⟩ := hi.len
 obtain ⟨cs, vI, vo, vf, va, vc, vu, vM, hcb, ⟨e0, h0⟩, _, _, _, _, _, _⟩ := h.code.ex
 have hMlt := h.lt
 have hb0 : Below w.heap.size w (w.alloc (.cells #[.slice none 0 0, .bool false, .bool false, .slice none 0 0] 56)) := (Below.refl _ _).alloc (Nat.le_refl _) _
 have hR0 := heap_alloc_new w (.cells #[.slice none 0 0, .bool false, .bool false, .slice none 0 0] 56)
 have hz0 : w.heap.size < (w.alloc (.cells #[.slice none 0 0, .bool false, .bool false, .slice none 0 0] 56)).heap.size := by simp
 have h1 := h.below hb0
 have HM := Lib.hid h
 clear h
 cases htr : s.trapped with
 | true =>
  have c5 : (w.alloc (.cells #[.slice none 0 0, .bool false, .bool false, .slice none 0 0] 56)).cell? ⟨M, 5, none⟩ = some (.bool true) := (h1.cell 5).trans (by simp [mcV, htr])
  have HX := Lib.hid (show (stepM R (cdOf p ord) p.ins s inp) = (0, trapT, s) from by unfold stepM; rw [if_pos htr])
  clear h1 hb0 hR0 hz0 hcb e0 h0
  go_enter Tryz.func16, Tryz.ntmps16
  go_wp2_with fail
  refine bodyPost_ret (v := .tuple #[.agg #[.slice none 0 0, .bool false, .bool true, .slice none 0 0], .nilIface]) (by simp [results, Tryz.results16, go_sem]) rfl ?_
  rw [HX.out]
  have hb : Below w.heap.size w (w.alloc (.cells #[.slice none 0 0, .bool false, .bool true, .slice none 0 0] 56)) := (Below.refl _ _).alloc (Nat.le_refl _) _
  exact ⟨_, _, _, rfl, Gr2.of_below hb _ _, HM.out.join hb, trapT_V _⟩
 | false =>
  have c5 : (w.alloc (.cells #[.slice none 0 0, .bool false, .bool false, .slice none 0 0] 56)).cell? ⟨M, 5, none⟩ = some (.bool false) := (h1.cell 5).trans (by simp [mcV, htr])
  have c0 : (w.alloc (.cells #[.slice none 0 0, .bool false, .bool false, .slice none 0 0] 56)).cell? ⟨M, 0, none⟩ = some (ptrV B) := h1.cell 0
  generalize hW0 : w.alloc (.cells #[.slice none 0 0, .bool false, .bool false, .slice none 0 0] 56) = W0 at *
  go_enter Tryz.func16, Tryz.ntmps16
  have hcall := inputs_any K B cs p.ins inp vI _ hcb e0 h0 hi ⟨by omega, by have := HC.z7; omega⟩ W0 h1.isin
  have HH1 := Lib.hid h1
  have HR0 := Lib.hid hR0
  have HB0 := Lib.hid hb0
  clear hcb e0 h0 h1 hR0 hb0
  go_wp2_with fail
  refine hcall.mono ?_
  rintro r w2 ⟨rfl, hb2⟩
  clear c5 c0 hcall
  have hR2 := (hb2.block w.heap.size hz0).trans HR0.out
  have hb02 := HB0.out.trans (hb2.mono HB0.out.size)
  have h2 := HH1.out.below hb2
  have hz2 : w.heap.size < w2.heap.size := Nat.lt_of_lt_of_le hz0 hb2.size
  have HR2 := Lib.hid hR2
  have HB2 := Lib.hid hb02
  have HM2 := Lib.hid h2
  clear HB0 HR0 HH1 hb2 hR2 hb02 h2 hz0
  cases hok : inpsTo p.ins inp inp.length with
  | false =>
   have HX := Lib.hid (show (stepM R (cdOf p ord) p.ins s inp) = (5, noT, s) from by unfold stepM; rw [if_neg (by simp [htr]), if_neg (by simp [hok])])
   go_wp2_with fail
   have hbD : Below w.heap.size w w2.drew := HB2.out.drew
   have hS : Sen5 w2.drew sp := S5.below hbD
   obtain ⟨r0, r1, r2, r3, rf, _⟩ := cell4_of (W := w2.drew) (show w2.drew.heap[w.heap.size]? = some (.cells #[.slice none 0 0, .bool false, .bool false, .slice none 0 0] 56 (0, 0)) from HR2.out)
   have rf0 := rf 0 (by decide)
   have rf1 := rf 1 (by decide)
   have rf2 := rf 2 (by decide)
   have rf3 := rf 3 (by decide)
   have hp4 := put4_heap (W := w2.drew) (show w2.drew.heap[w.heap.size]? = some (.cells #[.slice none 0 0, .bool false, .bool false, .slice none 0 0] 56 (0, 0)) from HR2.out) (.slice none 0 0) (.bool false) (.bool false) (.slice none 0 0)
   have HB4 := Lib.hid (put4_below hbD (Nat.le_refl _) (.slice none 0 0) (.bool false) (.bool false) (.slice none 0 0))
   have hS4 := S5.below HB4.out
   obtain ⟨e0, e1, e2, e3, _, _⟩ := cell4_of hp4
   unfold put4 at e0 e1 e2 e3 hS4
   have E0 := Lib.hid e0
   have E1 := Lib.hid e1
   have E2 := Lib.hid e2
   have E3 := Lib.hid e3
   clear e0 e1 e2 e3 hp4 rf hbD
   refine wp_region_2 (fun w' => Sen5 w' sp) (fun _ => True) 99 (by kernel_rfl) ?_
   generalize w2.drew = Wd at *
   refine tk2 (i := 0) (v := ?_) rfl hS (fun _ => trivial) ?hy ?_
   case hy => intro w hSw; have z0 := hSw.c4; go_simp <;> with_reducible rfl
   try simp only [tkS, List.getElem_toArray, List.getElem_cons_zero, List.getElem_cons_succ]
   refine tk2 (i := 1) (v := ?_) rfl hS (fun _ => trivial) ?hy ?_
   case hy => intro w hSw; have z0 := hSw.c4; go_simp <;> with_reducible rfl
   try simp only [tkS, List.getElem_toArray, List.getElem_cons_zero, List.getElem_cons_succ]
   refine wpAny2_one (i := 2) (o := _) (by kernel_rfl) rfl (fun K_ hK => ?_)
   go_simp
   refine hK.out _ _ (hS4) (fun _ => trivial) ?_
   clear hK K_
   try simp only [tkS, List.getElem_toArray, List.getElem_cons_zero, List.getElem_cons_succ]
   refine tk2 (i := 3) (v := ?_) rfl hS4 (fun _ => trivial) ?hy ?_
   case hy => intro w hSw; have z0 := hSw.c4; go_simp <;> with_reducible rfl
   try simp only [tkS, List.getElem_toArray, List.getElem_cons_zero, List.getElem_cons_succ]
   refine wpAny2_done (by kernel_rfl) ?_ _
   go_wp2_with fail
   have e0 := E0.out
   have e1 := E1.out
   have e2 := E2.out
   have e3 := E3.out
   refine bodyPost_ret (v := .tuple #[.agg #[.slice none 0 0, .bool false, .bool false, .slice none 0 0], errV sp 5]) (by simp [results, Tryz.results16, go_sem, e0, e1, e2, e3, errV, esv]) rfl ?_
   rw [HX.out]
   exact ⟨_, _, _, rfl, Gr2.of_below HB4.out _ _, HM.out.join HB4.out, noT_V _⟩
  | true =>
   have hil2 : inp.length = p.ins.length := by
    unfold inpsTo at hok
    simp only [Bool.and_eq_true, decide_eq_true_eq] at hok
    exact hok.1
   have HX := Lib.hid (show (stepM R (cdOf p ord) p.ins s inp) = (if (tickM R (cdOf p ord) s.first s.mem inp).1.trap = true then (0, (tickM R (cdOf p ord) s.first s.mem inp).1, ⟨s.first, s.mem, true⟩) else (0, (tickM R (cdOf p ord) s.first s.mem inp).1, ⟨false, (tickM R (cdOf p ord) s.first s.mem inp).2, false⟩)) from by unfold stepM; rw [if_neg (by simp [htr]), if_pos hok])
   have hcall : ∀ W, K.In W → _ := fun W hK => tick_any R K p ord B HM2.out.code HC.f HC.pa HC.nm HC.od HC.ou ⟨HC.z1, HC.z2, HC.z3, HC.z4, HC.z5, HC.z6, HC.z7⟩ HC.ps s.first s.mem inp _ _ HM2.out.mem hi HM2.out.len hil2 W hK
   have hnl := tickM_len R (cdOf p ord) s.first s.mem inp
   rw [show (cdOf p ord).ms.length = memNL p.terms from HC.ml] at hnl
   generalize tickM R (cdOf p ord) s.first s.mem inp = X at *
   obtain ⟨⟨xo, xa, xt, xc⟩, xm⟩ := X
   dsimp only at hcall hnl HX
   have HNL := Lib.hid hnl
   have HCALL := Lib.hid hcall
   have k0 : (mcKn K 94 R M B s (.slice am s.mem.length cm)).cell M 0 = some (ptrV B) := mcKn_cell 0
   have k1 : (mcKn K 94 R M B s (.slice am s.mem.length cm)).cell M 1 = some (.bool R.nb) := mcKn_cell 1
   have k2 : (mcKn K 94 R M B s (.slice am s.mem.length cm)).cell M 2 = some (.int .i64 R.ni) := mcKn_cell 2
   have k3 : (mcKn K 94 R M B s (.slice am s.mem.length cm)).cell M 3 = some (.bool s.first) := mcKn_cell 3
   have k4 : (mcKn K 94 R M B s (.slice am s.mem.length cm)).cell M 4 = some (.slice am s.mem.length cm) := mcKn_cell 4
   have hS : (mcKn K 94 R M B s (.slice am s.mem.length cm)).In w2.drew := HM2.out.kn
   have hle : K.le (mcKn K 94 R M B s (.slice am s.mem.length cm)) := mcKn_le HM.out.no
   have hbD : Below w2.heap.size w2 w2.drew := (Below.refl _ _).drew
   have hbx : w2.drew.heap[M]? = some (.cells (mcV R B s (.slice am s.mem.length cm)) 94 (0, 0)) := HM2.out.box
   have hMl2 : M < w2.drew.heap.size := HM2.out.lt
   have hRl2 : w.heap.size < w2.drew.heap.size := hz2
   have hR : w2.drew.heap[w.heap.size]? = some (.cells #[.slice none 0 0, .bool false, .bool false, .slice none 0 0] 56 (0, 0)) := HR2.out
   have hin : ∀ W, (mcKn K 94 R M B s (.slice am s.mem.length cm)).In W → K.In W := fun W h b o e => h b o (hle b o e)
   generalize (mcKn K 94 R M B s (.slice am s.mem.length cm)) = KM at *
   have HIN := Lib.hid hin
   have FIN := Lib.hid (show ∀ (W : World) (TB : Nat) (u5 : Value), Below w2.drew.heap.size w2.drew W → True → True from fun _ _ _ _ _ => trivial)
   clear hnl hcall hle hin hil2 hok FIN
   go_wp2_with fail
   refine wp_region_2 (fun w' => KM.In w') (fun _ => True) 99 (by kernel_rfl) ?_
   generalize w2.drew = Wd at *
   refine tk2 (i := 0) (v := ?_) rfl hS (fun _ => trivial) ?hy ?_
   case hy => intro w hSw; obtain ⟨z0, z1, z2, z3, z4⟩ := hSw.c5 k0 k1 k2 k3 k4; go_simp <;> with_reducible rfl
   try simp only [tkS, List.getElem_toArray, List.getElem_cons_zero, List.getElem_cons_succ]
   refine tk2 (i := 1) (v := ?_) rfl hS (fun _ => trivial) ?hy ?_
   case hy => intro w hSw; obtain ⟨z0, z1, z2, z3, z4⟩ := hSw.c5 k0 k1 k2 k3 k4; go_simp <;> with_reducible rfl
   try simp only [tkS, List.getElem_toArray, List.getElem_cons_zero, List.getElem_cons_succ]
   refine tk2 (i := 2) (v := ?_) rfl hS (fun _ => trivial) ?hy ?_
   case hy => intro w hSw; obtain ⟨z0, z1, z2, z3, z4⟩ := hSw.c5 k0 k1 k2 k3 k4; go_simp <;> with_reducible rfl
   try simp only [tkS, List.getElem_toArray, List.getElem_cons_zero, List.getElem_cons_succ]
   refine tk2 (i := 3) (v := ?_) rfl hS (fun _ => trivial) ?hy ?_
   case hy => intro w hSw; obtain ⟨z0, z1, z2, z3, z4⟩ := hSw.c5 k0 k1 k2 k3 k4; go_simp <;> with_reducible rfl
   try simp only [tkS, List.getElem_toArray, List.getElem_cons_zero, List.getElem_cons_succ]
   refine tk2 (i := 4) (v := ?_) rfl hS (fun _ => trivial) ?hy ?_
   case hy => intro w hSw; obtain ⟨z0, z1, z2, z3, z4⟩ := hSw.c5 k0 k1 k2 k3 k4; go_simp <;> with_reducible rfl
   try simp only [tkS, List.getElem_toArray, List.getElem_cons_zero, List.getElem_cons_succ]
   refine tk2 (i := 5) (v := ?_) rfl hS (fun _ => trivial) ?hy ?_
   case hy => intro w hSw; obtain ⟨z0, z1, z2, z3, z4⟩ := hSw.c5 k0 k1 k2 k3 k4; go_simp <;> with_reducible rfl
   try simp only [tkS, List.getElem_toArray, List.getElem_cons_zero, List.getElem_cons_succ]
   refine tk2 (i := 6) (v := ?_) rfl hS (fun _ => trivial) ?hy ?_
   case hy => intro w hSw; obtain ⟨z0, z1, z2, z3, z4⟩ := hSw.c5 k0 k1 k2 k3 k4; go_simp <;> with_reducible rfl
   try simp only [tkS, List.getElem_toArray, List.getElem_cons_zero, List.getElem_cons_succ]
   refine tk2 (i := 7) (v := ?_) rfl hS (fun _ => trivial) ?hy ?_
   case hy => intro w hSw; obtain ⟨z0, z1, z2, z3, z4⟩ := hSw.c5 k0 k1 k2 k3 k4; go_simp <;> with_reducible rfl
   try simp only [tkS, List.getElem_toArray, List.getElem_cons_zero, List.getElem_cons_succ]
   refine tk2 (i := 8) (v := ?_) rfl hS (fun _ => trivial) ?hy ?_
   case hy => intro w hSw; obtain ⟨z0, z1, z2, z3, z4⟩ := hSw.c5 k0 k1 k2 k3 k4; go_simp <;> with_reducible rfl
   try simp only [tkS, List.getElem_toArray, List.getElem_cons_zero, List.getElem_cons_succ]
   refine tk2 (i := 9) (v := ?_) rfl hS (fun _ => trivial) ?hy ?_
   case hy => intro w hSw; obtain ⟨z0, z1, z2, z3, z4⟩ := hSw.c5 k0 k1 k2 k3 k4; go_simp <;> with_reducible rfl
   try simp only [tkS, List.getElem_toArray, List.getElem_cons_zero, List.getElem_cons_succ]
   refine tk2 (i := 10) (v := ?_) rfl hS (fun _ => trivial) ?hy ?_
   case hy => intro w hSw; obtain ⟨z0, z1, z2, z3, z4⟩ := hSw.c5 k0 k1 k2 k3 k4; go_simp <;> with_reducible rfl
   try simp only [tkS, List.getElem_toArray, List.getElem_cons_zero, List.getElem_cons_succ]
   refine tk2 (i := 11) (v := ?_) rfl hS (fun _ => trivial) ?hy ?_
   case hy => intro w hSw; obtain ⟨z0, z1, z2, z3, z4⟩ := hSw.c5 k0 k1 k2 k3 k4; go_simp <;> with_reducible rfl
   try simp only [tkS, List.getElem_toArray, List.getElem_cons_zero, List.getElem_cons_succ]
   refine tk2 (i := 12) (v := ?_) rfl hS (fun _ => trivial) ?hy ?_
   case hy => intro w hSw; obtain ⟨z0, z1, z2, z3, z4⟩ := hSw.c5 k0 k1 k2 k3 k4; go_simp <;> with_reducible rfl
   try simp only [tkS, List.getElem_toArray, List.getElem_cons_zero, List.getElem_cons_succ]
   refine tk2 (i := 13) (v := ?_) rfl hS (fun _ => trivial) ?hy ?_
   case hy => intro w hSw; obtain ⟨z0, z1, z2, z3, z4⟩ := hSw.c5 k0 k1 k2 k3 k4; go_simp <;> with_reducible rfl
   try simp only [tkS, List.getElem_toArray, List.getElem_cons_zero, List.getElem_cons_succ]
   refine tk2 (i := 14) (v := ?_) rfl hS (fun _ => trivial) ?hy ?_
   case hy => intro w hSw; obtain ⟨z0, z1, z2, z3, z4⟩ := hSw.c5 k0 k1 k2 k3 k4; go_simp <;> with_reducible rfl
   try simp only [tkS, List.getElem_toArray, List.getElem_cons_zero, List.getElem_cons_succ]
   refine tk2 (i := 15) (v := ?_) rfl hS (fun _ => trivial) ?hy ?_
   case hy => intro w hSw; obtain ⟨z0, z1, z2, z3, z4⟩ := hSw.c5 k0 k1 k2 k3 k4; go_simp <;> with_reducible rfl
   try simp only [tkS, List.getElem_toArray, List.getElem_cons_zero, List.getElem_cons_succ]
   refine tk2 (i := 16) (v := ?_) rfl hS (fun _ => trivial) ?hy ?_
   case hy => intro w hSw; obtain ⟨z0, z1, z2, z3, z4⟩ := hSw.c5 k0 k1 k2 k3 k4; go_simp <;> with_reducible rfl
   try simp only [tkS, List.getElem_toArray, List.getElem_cons_zero, List.getElem_cons_succ]
   refine wpAny2_two (i := 17) (j := 21) (o := _) (o' := _) (by kernel_rfl) rfl rfl (fun K_ hK => ?_) (fun K_ hK => ?_)
   ·go_simp
    go_at_call 42
    refine (HCALL.out _ (HIN.out _ hS)).mono ?_
    rintro ret w5 ⟨ov, cv, u5, rfl, hk5, hm5, hb5⟩
    obtain ⟨aov, cov, rfl⟩ := hk5.outs.len
    obtain ⟨acv, ccv, rfl⟩ := hk5.checks.len
    obtain ⟨a5, c5, rfl⟩ := hm5.len
    have hS5 := hS.below hb5
    refine hK.out _ _ hS5 (fun _ => trivial) ?_
    clear hK K_
    try simp only [tkS, List.getElem_toArray, List.getElem_cons_zero, List.getElem_cons_succ]
    refine tk2 (i := 18) (v := ?_) rfl hS5 (fun _ => trivial) ?hy ?_
    case hy => intro w hSw; obtain ⟨z0, z1, z2, z3, z4⟩ := hSw.c5 k0 k1 k2 k3 k4; go_simp <;> with_reducible rfl
    try simp only [tkS, List.getElem_toArray, List.getElem_cons_zero, List.getElem_cons_succ]
    refine tk2 (i := 19) (v := ?_) rfl hS5 (fun _ => trivial) ?hy ?_
    case hy => intro w hSw; obtain ⟨z0, z1, z2, z3, z4⟩ := hSw.c5 k0 k1 k2 k3 k4; go_simp <;> with_reducible rfl
    try simp only [tkS, List.getElem_toArray, List.getElem_cons_zero, List.getElem_cons_succ]
    refine tk2 (i := 20) (v := ?_) rfl hS5 (fun _ => trivial) ?hy ?_
    case hy => intro w hSw; obtain ⟨z0, z1, z2, z3, z4⟩ := hSw.c5 k0 k1 k2 k3 k4; go_simp <;> with_reducible rfl
    try simp only [tkS, List.getElem_toArray, List.getElem_cons_zero, List.getElem_cons_succ]
    refine wpAny2_one (i := 21) (o := _) (by kernel_rfl) rfl (fun K_ hK => ?_)
    go_simp
    refine hK.out _ _ ((hS5.alloc _)) (fun _ => trivial) ?_
    clear hK K_
    try simp only [tkS, List.getElem_toArray, List.getElem_cons_zero, List.getElem_cons_succ]
    have hT0 := heap_alloc_new w5 (.cells #[.slice none 0 0, .bool false, .bool false, .slice none 0 0] 56)
    have hTW : Wd.heap.size ≤ w5.heap.size := hb5.size
    have hb6 : Below Wd.heap.size Wd (w5.alloc (.cells #[.slice none 0 0, .bool false, .bool false, .slice none 0 0] 56)) := hb5.alloc hb5.size _
    generalize hn5e : Wd.heap.size = n5 at hk5 hm5
    have hn5 : Wd.heap.size ≤ n5 := Nat.le_of_eq hn5e
    have hs56 : w5.heap.size ≤ (w5.alloc (.cells #[.slice none 0 0, .bool false, .bool false, .slice none 0 0] 56)).heap.size := by simp
    generalize hTB : w5.heap.size = TB at hT0 hTW ⊢
    have hsame : ∀ b, n5 ≤ b → b < w5.heap.size → b ≠ TB ∧ (w5.alloc (.cells #[.slice none 0 0, .bool false, .bool false, .slice none 0 0] 56)).heap[b]? = w5.heap[b]? := fun b _ hb => ⟨by omega, Below.heap_alloc _ _ _ hb⟩
    generalize w5.alloc (.cells #[.slice none 0 0, .bool false, .bool false, .slice none 0 0] 56) = w6 at *
    have hT := put4_heap hT0 (.slice aov xo.length cov) (.bool xa) (.bool xt) (.slice acv xc.length ccv)
    have hb7 := put4_below hb6 hTW (.slice aov xo.length cov) (.bool xa) (.bool xt) (.slice acv xc.length ccv)
    have hS7 : KM.In (put4 w6 TB (.slice aov xo.length cov) (.bool xa) (.bool xt) (.slice acv xc.length ccv)) := hS.below hb7
    unfold put4 at hT hb7 hS7
    obtain ⟨r0, r1, r2, r3, rf, hTl⟩ := cell4_of hT0
    have rf0 := rf 0 (by decide)
    have rf1 := rf 1 (by decide)
    have rf2 := rf 2 (by decide)
    have rf3 := rf 3 (by decide)
    refine wpAny2_one (i := 22) (o := _) (by kernel_rfl) rfl (fun K_ hK => ?_)
    go_simp
    refine hK.out _ _ (hS7) (fun _ => trivial) ?_
    clear hK K_
    try simp only [tkS, List.getElem_toArray, List.getElem_cons_zero, List.getElem_cons_succ]
    refine tk2 (i := 23) (v := ?_) rfl hS7 (fun _ => trivial) ?hy ?_
    case hy => intro w hSw; obtain ⟨z0, z1, z2, z3, z4⟩ := hSw.c5 k0 k1 k2 k3 k4; go_simp <;> with_reducible rfl
    try simp only [tkS, List.getElem_toArray, List.getElem_cons_zero, List.getElem_cons_succ]
    refine wpAny2_done (by kernel_rfl) ?_ _
    have hw7 := HB2.out.trans ((hbD.trans (hb7.mono hbD.size)).mono HB2.out.size)
    have hbx7 := (hb7.block M hMl2).trans hbx
    have hR7 := (hb7.block w.heap.size hRl2).trans hR
    have hsame7 : ∀ b, n5 ≤ b → b < w5.heap.size → (put4 w6 TB (.slice aov xo.length cov) (.bool xa) (.bool xt) (.slice acv xc.length ccv)).heap[b]? = w5.heap[b]? := fun b h1 h2 => by
     rw [put4_other _ _ _ _ (hsame b h1 h2).1]; exact (hsame b h1 h2).2
    unfold put4 at hsame7
    have hs7 : w6.heap.size ≤ ((((w6.setCell ⟨TB, 0, none⟩ (.slice aov xo.length cov)).setCell ⟨TB, 1, none⟩ (.bool xa)).setCell ⟨TB, 2, none⟩ (.bool xt)).setCell ⟨TB, 3, none⟩ (.slice acv xc.length ccv)).heap.size := by simp
    generalize (((w6.setCell ⟨TB, 0, none⟩ (.slice aov xo.length cov)).setCell ⟨TB, 1, none⟩ (.bool xa)).setCell ⟨TB, 2, none⟩ (.bool xt)).setCell ⟨TB, 3, none⟩ (.slice acv xc.length ccv) = W7 at *
    clear hT0 hb6 hS7 hS5 r0 r1 r2 r3 rf rf0 rf1 rf2 rf3 hTl hb7
    have hTM : TB ≠ M := by omega
    have hTR : TB ≠ w.heap.size := by omega
    have hRM : w.heap.size ≠ M := by omega
    have HK5 := Lib.hid hk5
    have HM5 := Lib.hid hm5
    have HW7 := Lib.hid hw7
    have HSM := Lib.hid (show ∀ b, n5 ≤ b → b < w5.heap.size → W7.heap[b]? = w5.heap[b]? ∧ w.heap.size < b ∧ b < W7.heap.size from fun b h1 h2 => ⟨hsame7 b h1 h2, by omega, by omega⟩)
    unfold mcV at hbx7
    clear hk5 hm5 hw7 hsame7 hsame k0 k1 k2 k3 k4 hbx hR
    obtain ⟨⟨t0, t1, t2, t3, tf, _⟩, _⟩ := And.intro (cell4_of hT) trivial
    clear t0 t1 t3 tf
    cases xt with
    | true =>
     have hbx8 := heap_setCell_same W7 M 5 (.bool true) _ _ _ hbx7
     have hT8 : (W7.setCell ⟨M, 5, none⟩ (.bool true)).heap[TB]? = _ := (Below.heap_setCell W7 ⟨M, 5, none⟩ _ _ hTM).trans hT
     have hR8 : (W7.setCell ⟨M, 5, none⟩ (.bool true)).heap[w.heap.size]? = _ := (Below.heap_setCell W7 ⟨M, 5, none⟩ _ _ hRM).trans hR7
     have hG8 : Gr2 W7 (W7.setCell ⟨M, 5, none⟩ (.bool true)) M none := (Gr2.refl _ _ _).setCell 5 _
     obtain ⟨b7, y7⟩ := box_cells hbx7
     have m5 := b7 5
     have f5 := y7 5 (by simp)
     clear b7 y7
     obtain ⟨t0, t1, t2, t3, tf, _⟩ := cell4_of hT8
     obtain ⟨r0, r1, r2, r3, rf, _⟩ := cell4_of hR8
     have rf0 := rf 0 (by decide)
     have rf1 := rf 1 (by decide)
     have rf2 := rf 2 (by decide)
     have rf3 := rf 3 (by decide)
     have hp4 := put4_heap hR8 (.slice aov xo.length cov) (.bool xa) (.bool true) (.slice acv xc.length ccv)
     obtain ⟨q1, q2, q3⟩ := gr_put HW7.out hG8 hMlt (.slice aov xo.length cov) (.bool xa) (.bool true) (.slice acv xc.length ccv)
     obtain ⟨e0, e1, e2, e3, _, _⟩ := cell4_of hp4
     unfold put4 at e0 e1 e2 e3 q1 q2 q3
     have E0 := Lib.hid e0
     have E1 := Lib.hid e1
     have E2 := Lib.hid e2
     have E3 := Lib.hid e3
     have Q1 := Lib.hid q1
     have Q2 := Lib.hid (q2.trans hbx8)
     have Q3 := Lib.hid q3
     clear e0 e1 e2 e3 hp4 rf tf q1 q2 q3
     go_wp2_with fail
     have e0 := E0.out
     have e1 := E1.out
     have e2 := E2.out
     have e3 := E3.out
     refine bodyPost_ret (v := .tuple #[.agg #[.slice aov xo.length cov, .bool xa, .bool true, .slice acv xc.length ccv], .nilIface]) (by simp [results, Tryz.results16, go_sem, e0, e1, e2, e3]) rfl ?_
     rw [HX.out]
     refine ⟨_, _, _, rfl, Q1.out, HM.out.fin Q1.out (s' := ⟨s.first, s.mem, true⟩) (vm' := .slice am s.mem.length cm) ?_ ?_ ?_, HK5.out.le (new_le_new (by omega) fun b h1 h2 => ?_)⟩
     ·exact Q2.out
     ·exact SlV.le HM.out.mem (joinKn_le HM.out.isin _) VlC.mono
     ·exact HM.out.len
     ·obtain ⟨g1, g2, g3⟩ := HSM.out b h1 h2
      rw [Q3.out b g2 g3]; exact g1
    | false =>
     have hbx8 := heap_setCell_same W7 M 3 (.bool false) _ _ _ hbx7
     have hT8 : (W7.setCell ⟨M, 3, none⟩ (.bool false)).heap[TB]? = _ := (Below.heap_setCell W7 ⟨M, 3, none⟩ _ _ hTM).trans hT
     have hR8 : (W7.setCell ⟨M, 3, none⟩ (.bool false)).heap[w.heap.size]? = _ := (Below.heap_setCell W7 ⟨M, 3, none⟩ _ _ hRM).trans hR7
     have hG8 : Gr2 W7 (W7.setCell ⟨M, 3, none⟩ (.bool false)) M none := (Gr2.refl _ _ _).setCell 3 _
     obtain ⟨b7, y7⟩ := box_cells hbx7
     have m3 := b7 3
     have f3 := y7 3 (by simp)
     obtain ⟨b8, y8⟩ := box_cells hbx8
     have m4 := b8 4
     have f4 := y8 4 (by simp)
     have hbx8 := heap_setCell_same _ M 4 (.slice a5 xm.length c5) _ _ _ hbx8
     have hT8 : ((W7.setCell ⟨M, 3, none⟩ (.bool false)).setCell ⟨M, 4, none⟩ (.slice a5 xm.length c5)).heap[TB]? = _ := (Below.heap_setCell _ ⟨M, 4, none⟩ _ _ hTM).trans hT8
     have hR8 : ((W7.setCell ⟨M, 3, none⟩ (.bool false)).setCell ⟨M, 4, none⟩ (.slice a5 xm.length c5)).heap[w.heap.size]? = _ := (Below.heap_setCell _ ⟨M, 4, none⟩ _ _ hRM).trans hR8
     have hG8 : Gr2 W7 ((W7.setCell ⟨M, 3, none⟩ (.bool false)).setCell ⟨M, 4, none⟩ (.slice a5 xm.length c5)) M none := hG8.setCell 4 _
     clear b7 y7 b8 y8
     obtain ⟨t0, t1, t2, t3, tf, _⟩ := cell4_of hT8
     obtain ⟨r0, r1, r2, r3, rf, _⟩ := cell4_of hR8
     have rf0 := rf 0 (by decide)
     have rf1 := rf 1 (by decide)
     have rf2 := rf 2 (by decide)
     have rf3 := rf 3 (by decide)
     have hp4 := put4_heap hR8 (.slice aov xo.length cov) (.bool xa) (.bool false) (.slice acv xc.length ccv)
     obtain ⟨q1, q2, q3⟩ := gr_put HW7.out hG8 hMlt (.slice aov xo.length cov) (.bool xa) (.bool false) (.slice acv xc.length ccv)
     obtain ⟨e0, e1, e2, e3, _, _⟩ := cell4_of hp4
     unfold put4 at e0 e1 e2 e3 q1 q2 q3
     have E0 := Lib.hid e0
     have E1 := Lib.hid e1
     have E2 := Lib.hid e2
     have E3 := Lib.hid e3
     have Q1 := Lib.hid q1
     have Q2 := Lib.hid (q2.trans hbx8)
     have Q3 := Lib.hid q3
     clear e0 e1 e2 e3 hp4 rf tf q1 q2 q3
     go_wp2_with fail
     have e0 := E0.out
     have e1 := E1.out
     have e2 := E2.out
     have e3 := E3.out
     refine bodyPost_ret (v := .tuple #[.agg #[.slice aov xo.length cov, .bool xa, .bool false, .slice acv xc.length ccv], .nilIface]) (by simp [results, Tryz.results16, go_sem, e0, e1, e2, e3]) rfl ?_
     rw [HX.out]
     refine ⟨_, _, _, rfl, Q1.out, HM.out.fin Q1.out (s' := ⟨false, xm, false⟩) (vm' := .slice a5 xm.length c5) ?_ ?_ ?_, HK5.out.le (new_le_new (by omega) fun b h1 h2 => ?_)⟩
     ·have q := Q2.out
      rw [htr] at q
      exact q
     ·exact SlV.le HM5.out (Kn.le_trans (new_le_new (n := w.heap.size) (by omega) fun b h1 h2 => by
       obtain ⟨g1, g2, g3⟩ := HSM.out b h1 h2
       rw [Q3.out b g2 g3]; exact g1) (joinKn_new _ _ _)) VlC.mono
     ·exact HNL.out trivial
     ·obtain ⟨g1, g2, g3⟩ := HSM.out b h1 h2
      rw [Q3.out b g2 g3]; exact g1
   ·go_simp
    refine hK.out _ _ (hS.alloc _) (fun _ => trivial) ?_
    clear hK K_
    try simp only [tkS, List.getElem_toArray, List.getElem_cons_zero, List.getElem_cons_succ]
    have hba : Below Wd.heap.size Wd (Wd.alloc (.cells #[.slice none 0 0, .bool false, .bool false, .slice none 0 0] 56)) := (Below.refl _ _).alloc (Nat.le_refl _) _
    have hT0 := heap_alloc_new Wd (.cells #[.slice none 0 0, .bool false, .bool false, .slice none 0 0] 56)
    have hSA := hS.alloc (.cells #[.slice none 0 0, .bool false, .bool false, .slice none 0 0] 56)
    have hTl0 : Wd.heap.size < (Wd.alloc (.cells #[.slice none 0 0, .bool false, .bool false, .slice none 0 0] 56)).heap.size := by simp
    generalize hTB : Wd.heap.size = TB at hT0 hTl0 ⊢
    generalize Wd.alloc (.cells #[.slice none 0 0, .bool false, .bool false, .slice none 0 0] 56) = WA at *
    refine wpAny2_one (i := 17) (o := _) (by kernel_rfl) rfl (fun K_ hK => ?_)
    go_simp
    go_at_call 42
    refine (HCALL.out _ (HIN.out _ hSA)).mono ?_
    rintro ret w5 ⟨ov, cv, u5, rfl, hk5, hm5, hb5⟩
    obtain ⟨aov, cov, rfl⟩ := hk5.outs.len
    obtain ⟨acv, ccv, rfl⟩ := hk5.checks.len
    obtain ⟨a5, c5, rfl⟩ := hm5.len
    have hS5 := hSA.below hb5
    refine hK.out _ _ (hS5) (fun _ => trivial) ?_
    clear hK K_
    try simp only [tkS, List.getElem_toArray, List.getElem_cons_zero, List.getElem_cons_succ]
    refine tk2 (i := 18) (v := ?_) rfl hS5 (fun _ => trivial) ?hy ?_
    case hy => intro w hSw; obtain ⟨z0, z1, z2, z3, z4⟩ := hSw.c5 k0 k1 k2 k3 k4; go_simp <;> with_reducible rfl
    try simp only [tkS, List.getElem_toArray, List.getElem_cons_zero, List.getElem_cons_succ]
    refine tk2 (i := 19) (v := ?_) rfl hS5 (fun _ => trivial) ?hy ?_
    case hy => intro w hSw; obtain ⟨z0, z1, z2, z3, z4⟩ := hSw.c5 k0 k1 k2 k3 k4; go_simp <;> with_reducible rfl
    try simp only [tkS, List.getElem_toArray, List.getElem_cons_zero, List.getElem_cons_succ]
    refine tk2 (i := 20) (v := ?_) rfl hS5 (fun _ => trivial) ?hy ?_
    case hy => intro w hSw; obtain ⟨z0, z1, z2, z3, z4⟩ := hSw.c5 k0 k1 k2 k3 k4; go_simp <;> with_reducible rfl
    try simp only [tkS, List.getElem_toArray, List.getElem_cons_zero, List.getElem_cons_succ]
    have hT0 := (hb5.block TB hTl0).trans hT0
    have hTW : Wd.heap.size ≤ TB := Nat.le_of_eq hTB
    have hb6 : Below Wd.heap.size Wd w5 := hba.trans (hb5.mono hba.size)
    have hsame : ∀ b, WA.heap.size ≤ b → b < w5.heap.size → b ≠ TB ∧ w5.heap[b]? = w5.heap[b]? := fun b hb _ => ⟨by omega, rfl⟩
    have hn5 : Wd.heap.size ≤ WA.heap.size := hba.size
    have hs56 : w5.heap.size ≤ w5.heap.size := Nat.le_refl _
    generalize WA.heap.size = n5 at hk5 hm5 hsame hn5
    clear hb5 hba hSA hTl0
    obtain ⟨w6, hw6⟩ : ∃ w6, w6 = w5 := ⟨_, rfl⟩
    rw [← hw6] at hT0 hb6 ⊢
    have hsame : ∀ b, n5 ≤ b → b < w5.heap.size → b ≠ TB ∧ w6.heap[b]? = w5.heap[b]? := by rw [hw6]; exact hsame
    have hs56 : w5.heap.size ≤ w6.heap.size := by rw [hw6]; exact hs56
    clear hw6
    have hT := put4_heap hT0 (.slice aov xo.length cov) (.bool xa) (.bool xt) (.slice acv xc.length ccv)
    have hb7 := put4_below hb6 hTW (.slice aov xo.length cov) (.bool xa) (.bool xt) (.slice acv xc.length ccv)
    have hS7 : KM.In (put4 w6 TB (.slice aov xo.length cov) (.bool xa) (.bool xt) (.slice acv xc.length ccv)) := hS.below hb7
    unfold put4 at hT hb7 hS7
    obtain ⟨r0, r1, r2, r3, rf, hTl⟩ := cell4_of hT0
    have rf0 := rf 0 (by decide)
    have rf1 := rf 1 (by decide)
    have rf2 := rf 2 (by decide)
    have rf3 := rf 3 (by decide)
    refine wpAny2_one (i := 22) (o := _) (by kernel_rfl) rfl (fun K_ hK => ?_)
    go_simp
    refine hK.out _ _ (hS7) (fun _ => trivial) ?_
    clear hK K_
    try simp only [tkS, List.getElem_toArray, List.getElem_cons_zero, List.getElem_cons_succ]
    refine tk2 (i := 23) (v := ?_) rfl hS7 (fun _ => trivial) ?hy ?_
    case hy => intro w hSw; obtain ⟨z0, z1, z2, z3, z4⟩ := hSw.c5 k0 k1 k2 k3 k4; go_simp <;> with_reducible rfl
    try simp only [tkS, List.getElem_toArray, List.getElem_cons_zero, List.getElem_cons_succ]
    refine wpAny2_done (by kernel_rfl) ?_ _
    have hw7 := HB2.out.trans ((hbD.trans (hb7.mono hbD.size)).mono HB2.out.size)
    have hbx7 := (hb7.block M hMl2).trans hbx
    have hR7 := (hb7.block w.heap.size hRl2).trans hR
    have hsame7 : ∀ b, n5 ≤ b → b < w5.heap.size → (put4 w6 TB (.slice aov xo.length cov) (.bool xa) (.bool xt) (.slice acv xc.length ccv)).heap[b]? = w5.heap[b]? := fun b h1 h2 => by
     rw [put4_other _ _ _ _ (hsame b h1 h2).1]; exact (hsame b h1 h2).2
    unfold put4 at hsame7
    have hs7 : w6.heap.size ≤ ((((w6.setCell ⟨TB, 0, none⟩ (.slice aov xo.length cov)).setCell ⟨TB, 1, none⟩ (.bool xa)).setCell ⟨TB, 2, none⟩ (.bool xt)).setCell ⟨TB, 3, none⟩ (.slice acv xc.length ccv)).heap.size := by simp
    generalize (((w6.setCell ⟨TB, 0, none⟩ (.slice aov xo.length cov)).setCell ⟨TB, 1, none⟩ (.bool xa)).setCell ⟨TB, 2, none⟩ (.bool xt)).setCell ⟨TB, 3, none⟩ (.slice acv xc.length ccv) = W7 at *
    clear hT0 hb6 hS7 hS5 r0 r1 r2 r3 rf rf0 rf1 rf2 rf3 hTl hb7
    have hTM : TB ≠ M := by omega
    have hTR : TB ≠ w.heap.size := by omega
    have hRM : w.heap.size ≠ M := by omega
    have HK5 := Lib.hid hk5
    have HM5 := Lib.hid hm5
    have HW7 := Lib.hid hw7
    have HSM := Lib.hid (show ∀ b, n5 ≤ b → b < w5.heap.size → W7.heap[b]? = w5.heap[b]? ∧ w.heap.size < b ∧ b < W7.heap.size from fun b h1 h2 => ⟨hsame7 b h1 h2, by omega, by omega⟩)
    unfold mcV at hbx7
    clear hk5 hm5 hw7 hsame7 hsame k0 k1 k2 k3 k4 hbx hR
    obtain ⟨⟨t0, t1, t2, t3, tf, _⟩, _⟩ := And.intro (cell4_of hT) trivial
    clear t0 t1 t3 tf
    cases xt with
    | true =>
     have hbx8 := heap_setCell_same W7 M 5 (.bool true) _ _ _ hbx7
     have hT8 : (W7.setCell ⟨M, 5, none⟩ (.bool true)).heap[TB]? = _ := (Below.heap_setCell W7 ⟨M, 5, none⟩ _ _ hTM).trans hT
     have hR8 : (W7.setCell ⟨M, 5, none⟩ (.bool true)).heap[w.heap.size]? = _ := (Below.heap_setCell W7 ⟨M, 5, none⟩ _ _ hRM).trans hR7
     have hG8 : Gr2 W7 (W7.setCell ⟨M, 5, none⟩ (.bool true)) M none := (Gr2.refl _ _ _).setCell 5 _
     obtain ⟨b7, y7⟩ := box_cells hbx7
     have m5 := b7 5
     have f5 := y7 5 (by simp)
     clear b7 y7
     obtain ⟨t0, t1, t2, t3, tf, _⟩ := cell4_of hT8
     obtain ⟨r0, r1, r2, r3, rf, _⟩ := cell4_of hR8
     have rf0 := rf 0 (by decide)
     have rf1 := rf 1 (by decide)
     have rf2 := rf 2 (by decide)
     have rf3 := rf 3 (by decide)
     have hp4 := put4_heap hR8 (.slice aov xo.length cov) (.bool xa) (.bool true) (.slice acv xc.length ccv)
     obtain ⟨q1, q2, q3⟩ := gr_put HW7.out hG8 hMlt (.slice aov xo.length cov) (.bool xa) (.bool true) (.slice acv xc.length ccv)
     obtain ⟨e0, e1, e2, e3, _, _⟩ := cell4_of hp4
     unfold put4 at e0 e1 e2 e3 q1 q2 q3
     have E0 := Lib.hid e0
     have E1 := Lib.hid e1
     have E2 := Lib.hid e2
     have E3 := Lib.hid e3
     have Q1 := Lib.hid q1
     have Q2 := Lib.hid (q2.trans hbx8)
     have Q3 := Lib.hid q3
     clear e0 e1 e2 e3 hp4 rf tf q1 q2 q3
     go_wp2_with fail
     have e0 := E0.out
     have e1 := E1.out
     have e2 := E2.out
     have e3 := E3.out
     refine bodyPost_ret (v := .tuple #[.agg #[.slice aov xo.length cov, .bool xa, .bool true, .slice acv xc.length ccv], .nilIface]) (by simp [results, Tryz.results16, go_sem, e0, e1, e2, e3]) rfl ?_
     rw [HX.out]
     refine ⟨_, _, _, rfl, Q1.out, HM.out.fin Q1.out (s' := ⟨s.first, s.mem, true⟩) (vm' := .slice am s.mem.length cm) ?_ ?_ ?_, HK5.out.le (new_le_new (by omega) fun b h1 h2 => ?_)⟩
     ·exact Q2.out
     ·exact SlV.le HM.out.mem (joinKn_le HM.out.isin _) VlC.mono
     ·exact HM.out.len
     ·obtain ⟨g1, g2, g3⟩ := HSM.out b h1 h2
      rw [Q3.out b g2 g3]; exact g1
    | false =>
     have hbx8 := heap_setCell_same W7 M 3 (.bool false) _ _ _ hbx7
     have hT8 : (W7.setCell ⟨M, 3, none⟩ (.bool false)).heap[TB]? = _ := (Below.heap_setCell W7 ⟨M, 3, none⟩ _ _ hTM).trans hT
     have hR8 : (W7.setCell ⟨M, 3, none⟩ (.bool false)).heap[w.heap.size]? = _ := (Below.heap_setCell W7 ⟨M, 3, none⟩ _ _ hRM).trans hR7
     have hG8 : Gr2 W7 (W7.setCell ⟨M, 3, none⟩ (.bool false)) M none := (Gr2.refl _ _ _).setCell 3 _
     obtain ⟨b7, y7⟩ := box_cells hbx7
     have m3 := b7 3
     have f3 := y7 3 (by simp)
     obtain ⟨b8, y8⟩ := box_cells hbx8
     have m4 := b8 4
     have f4 := y8 4 (by simp)
     have hbx8 := heap_setCell_same _ M 4 (.slice a5 xm.length c5) _ _ _ hbx8
     have hT8 : ((W7.setCell ⟨M, 3, none⟩ (.bool false)).setCell ⟨M, 4, none⟩ (.slice a5 xm.length c5)).heap[TB]? = _ := (Below.heap_setCell _ ⟨M, 4, none⟩ _ _ hTM).trans hT8
     have hR8 : ((W7.setCell ⟨M, 3, none⟩ (.bool false)).setCell ⟨M, 4, none⟩ (.slice a5 xm.length c5)).heap[w.heap.size]? = _ := (Below.heap_setCell _ ⟨M, 4, none⟩ _ _ hRM).trans hR8
     have hG8 : Gr2 W7 ((W7.setCell ⟨M, 3, none⟩ (.bool false)).setCell ⟨M, 4, none⟩ (.slice a5 xm.length c5)) M none := hG8.setCell 4 _
     clear b7 y7 b8 y8
     obtain ⟨t0, t1, t2, t3, tf, _⟩ := cell4_of hT8
     obtain ⟨r0, r1, r2, r3, rf, _⟩ := cell4_of hR8
     have rf0 := rf 0 (by decide)
     have rf1 := rf 1 (by decide)
     have rf2 := rf 2 (by decide)
     have rf3 := rf 3 (by decide)
     have hp4 := put4_heap hR8 (.slice aov xo.length cov) (.bool xa) (.bool false) (.slice acv xc.length ccv)
     obtain ⟨q1, q2, q3⟩ := gr_put HW7.out hG8 hMlt (.slice aov xo.length cov) (.bool xa) (.bool false) (.slice acv xc.length ccv)
     obtain ⟨e0, e1, e2, e3, _, _⟩ := cell4_of hp4
     unfold put4 at e0 e1 e2 e3 q1 q2 q3
     have E0 := Lib.hid e0
     have E1 := Lib.hid e1
     have E2 := Lib.hid e2
     have E3 := Lib.hid e3
     have Q1 := Lib.hid q1
     have Q2 := Lib.hid (q2.trans hbx8)
     have Q3 := Lib.hid q3
     clear e0 e1 e2 e3 hp4 rf tf q1 q2 q3
     go_wp2_with fail
     have e0 := E0.out
     have e1 := E1.out
     have e2 := E2.out
     have e3 := E3.out
     refine bodyPost_ret (v := .tuple #[.agg #[.slice aov xo.length cov, .bool xa, .bool false, .slice acv xc.length ccv], .nilIface]) (by simp [results, Tryz.results16, go_sem, e0, e1, e2, e3]) rfl ?_
     rw [HX.out]
     refine ⟨_, _, _, rfl, Q1.out, HM.out.fin Q1.out (s' := ⟨false, xm, false⟩) (vm' := .slice a5 xm.length c5) ?_ ?_ ?_, HK5.out.le (new_le_new (by omega) fun b h1 h2 => ?_)⟩
     ·have q := Q2.out
      rw [htr] at q
      exact q
     ·exact SlV.le HM5.out (Kn.le_trans (new_le_new (n := w.heap.size) (by omega) fun b h1 h2 => by
       obtain ⟨g1, g2, g3⟩ := HSM.out b h1 h2
       rw [Q3.out b g2 g3]; exact g1) (joinKn_new _ _ _)) VlC.mono
     ·exact HNL.out trivial
     ·obtain ⟨g1, g2, g3⟩ := HSM.out b h1 h2
      rw [Q3.out b g2 g3]; exact g1
theorem vls_apart {w5 w6 : World} {M : Nat} {cp : Value} {x0 x1 x3 x5 : Bool} {x2 : Int} {a : Option Addr} {n c : Nat} {MT : TypeId} {fr : Nat × Nat} {l : List Vl} {v : Value} (hv : VlsV (allKn w5) l v) (hcp : ∀ k z, cp ≠ .int k z) (hM : w5.heap[M]? = some (.cells #[cp, .bool x1, .int .i64 x2, .bool x3, .slice a n c, .bool x5] MT fr)) (hs : ∀ b, b ≠ M → w6.heap[b]? = w5.heap[b]?) : VlsV (noKn M w6) l v := by
 rcases hv with ⟨rfl, h⟩ | ⟨b, off, cap, rfl, h2, h3, h4⟩
 ·exact .inl ⟨rfl, h⟩
 ·by_cases h0 : l = []
  ·subst h0; exact .inl ⟨rfl, _, _, rfl⟩
  ·have hl : 0 < l.length := List.length_pos_iff.2 h0
   have hb : b ≠ M := fun e => by
    subst e
    obtain ⟨q0, q1⟩ := h4 0 hl
    simp only [allKn_cell, World.cell?, hM, Nat.zero_mul, Nat.add_zero] at q0 q1
    rcases off with _ | _ | _ | _ | _ | _ | off <;> simp_all
   refine .inr ⟨b, off, cap, rfl, h2, h3, fun i hi => ?_⟩
   have := h4 i hi
   have hc : ∀ j, (noKn M w6).cell b j = (allKn w5).cell b j := fun j => by rw [noKn_cell hb, allKn_cell]; simp [World.cell?, hs b hb]
   simp only [hc]
   exact this
def hiKn (n : Nat) (K : Kn) : Kn := fun b => if b < n then none else K b
def CodeNewK (CT : TypeId) (R : REnv) (K : Kn) (p : Pr) (ord : List Nat) (B : Nat) : Prop :=
 ∃ cs vo vu, K B = some (.cells cs CT (0, 0)) ∧ cs[5]? = some vo ∧ IntsV K ord vo ∧ cs[9]? = some vu ∧ OutsV K (cdOf p ord).outs vu
theorem CodeNew.fin {CT : TypeId} {R : REnv} {n n1 M : Nat} {w3 w' : World} {p : Pr} {ord : List Nat} {B : Nat} (h : CodeNew CT R n1 w3 p ord B) (hn : n ≤ n1) (hB : n1 ≤ B) (hM : w3.heap.size ≤ M) (hs : ∀ b, b < w3.heap.size → w'.heap[b]? = w3.heap[b]?) : CodeNewK CT R (hiKn n (noKn M w')) p ord B := by
 obtain ⟨cs, vo, vu, h1, h2, h3, h4, h5⟩ := h
 have hle : (newKn n1 w3).le (hiKn n (noKn M w')) := fun b o e => by
  unfold newKn at e
  split at e
  ·cases e
  ·rename_i hb
   have hlt := (Array.getElem?_eq_some_iff.1 e).1
   unfold hiKn noKn
   rw [if_neg (by omega), if_neg (by omega), hs b hlt]
   exact e
 refine ⟨cs, vo, vu, hle _ _ ?_, h2, IntsV.le hle h3, h4, OutsV.le hle h5⟩
 unfold newKn
 rw [if_neg (by omega)]
 exact h1
def NewPost (sp : Nat → Addr) (nb : Bool) (ni : Int) (p : Pr) (w : World) (r : Ending) (w' : World) : Prop :=
 Below w.heap.size w w' ∧ (((runE p [] ni).1 = 0 ∧ ∃ M B ks ord vm, freshGo Env.none p.vars = some ks ∧ orderM p = .ok ord ∧ r = .returned (.tuple #[ptrV M, .nilIface]) ∧ w.heap.size ≤ M ∧
   McAt 94 143 135 ⟨ks, namesM p, getI (nmEnv p), nb, ni⟩ p ord (noKn M w') w' M B ⟨true, startM ⟨ks, namesM p, getI (nmEnv p), nb, ni⟩ (memNdsL 0 p.terms), false⟩ vm ∧ CodeNewK 135 ⟨ks, namesM p, getI (nmEnv p), nb, ni⟩ (hiKn w.heap.size (noKn M w')) p ord B) ∨
  ((runE p [] ni).1 ≠ 0 ∧ ∃ t v, r = .returned (.tuple #[.pointer none, .iface t v]) ∧ ErrW sp w' (runE p [] ni).1 (runE p [] ni).2 (.iface t v)))
theorem new_any (H : Kn) (T : LevelsAt H) (sp : Nat → Addr) (p : Pr) (vi vo vl va vc : Value) (hp : PrP H p vi vo vl va vc) (w : World) (hH : H.In w) (S : Sen5 w sp) (nb : Bool) (ni : Int)
  (hsz : p.ins.length ≤ 1000000 ∧ p.fl.length ≤ 1000000 ∧ p.outs.length ≤ 1000000000 ∧ p.as.length ≤ 1000000 ∧ p.cs.length ≤ 1000000) (hpt : Ex.partsL p.terms ≤ 1000000000) :
  Calls Tryz.prog 14 #[.agg #[vi, vo, vl, va, vc], .bool nb, .int .i64 ni] w (NewPost sp nb ni p w) := by
 obtain ⟨z1, z2, z3, z4, z5⟩ := hsz
 have HP := Lib.hid hp
 obtain ⟨h1, h2, h3, h4, h5⟩ := hp
 obtain ⟨ai, ci, rfl⟩ := h1.len
 obtain ⟨ao, co, rfl⟩ := h2.len
 obtain ⟨al, cl, rfl⟩ := h3.len
 obtain ⟨aa, ca, rfl⟩ := h4.len
 obtain ⟨ac, cc, rfl⟩ := h5.len
 clear h1 h2 h3 h4 h5
 have hP0 := heap_alloc_new w (.cells #[.slice ai p.ins.length ci, .slice ao p.outs.length co, .slice al p.fl.length cl, .slice aa p.as.length ca, .slice ac p.cs.length cc] 52)
 have hb0 : Below w.heap.size w (w.alloc (.cells #[.slice ai p.ins.length ci, .slice ao p.outs.length co, .slice al p.fl.length cl, .slice aa p.as.length ca, .slice ac p.cs.length cc] 52)) := (Below.refl _ _).alloc (Nat.le_refl _) _
 have hsz0 : w.heap.size < (w.alloc (.cells #[.slice ai p.ins.length ci, .slice ao p.outs.length co, .slice al p.fl.length cl, .slice aa p.as.length ca, .slice ac p.cs.length cc] 52)).heap.size := by simp
 have HB0 := Lib.hid hb0
 have HP0 := Lib.hid hP0
 clear hP0 hb0
 go_enter Tryz.func14, Tryz.ntmps14
 go_wp2_with fail
 generalize w.alloc (.cells #[.slice ai p.ins.length ci, .slice ao p.outs.length co, .slice al p.fl.length cl, .slice aa p.as.length ca, .slice ac p.cs.length cc] 52) = W0 at *
 refine (run_any H T sp p _ _ _ _ _ HP.out [] _ (.inl ⟨rfl, none, 0, rfl⟩) W0 (hH.below HB0.out) (S.below HB0.out) nb ni ⟨z1, z2, z3, z4, z5, fun l hl => by cases hl⟩ hpt).mono ?_
 rintro r w1 hpost
 obtain ⟨hb1, hpost⟩ := hpost.told
 have HB1 := Lib.hid (HB0.out.trans (hb1.mono HB0.out.size))
 have HP1 := Lib.hid ((hb1.block w.heap.size hsz0).trans HP0.out)
 clear hb1 hsz0
 rcases hpost with ⟨hE, v, rfl, hv⟩ | ⟨hE, t, u, rfl, he⟩
 case inr =>
  have HE := Lib.hid he
  clear he
  go_wp2_with fail
  go_ret2
  exact ⟨HB1.out, .inr ⟨hE, t, u, rfl, HE.out⟩⟩
 obtain ⟨av, cv, rfl⟩ := hv.len
 clear hv
 have hc0 := (runE_zero hE).1
 obtain ⟨n0, n1, n2, n3, n4⟩ : w1.cell? ⟨w.heap.size, 0, none⟩ = some (.slice ai p.ins.length ci) ∧ w1.cell? ⟨w.heap.size, 1, none⟩ = some (.slice ao p.outs.length co) ∧ w1.cell? ⟨w.heap.size, 2, none⟩ = some (.slice al p.fl.length cl) ∧ w1.cell? ⟨w.heap.size, 3, none⟩ = some (.slice aa p.as.length ca) ∧ w1.cell? ⟨w.heap.size, 4, none⟩ = some (.slice ac p.cs.length cc) := by
  have h := HP1.out
  refine ⟨?_, ?_, ?_, ?_, ?_⟩ <;> simp [World.cell?, h]
 have HE := Lib.hid hE
 clear hE
 go_wp2_with fail
 refine (compile_any H T sp p _ _ _ _ _ HP.out w1 (hH.below HB1.out) (S.below HB1.out) nb ni ⟨z1, z2, z3, z4, z5⟩ hpt).mono ?_
 rintro r w3 ⟨hb3, hpost⟩
 rw [if_pos hc0] at hpost
 obtain ⟨B, ks, ord, hks, ho, rfl, hC, hgB, hnew⟩ := hpost
 have HGB := Lib.hid hgB
 have HNEW := Lib.hid hnew
 have HNS := Lib.hid HB1.out.size
 clear hgB hnew
 have HB3 := Lib.hid (HB1.out.trans (hb3.mono HB1.out.size))
 have HKS := Lib.hid hks
 have HO := Lib.hid ho
 have HC := Lib.hid hC
 clear n0 n1 n2 n3 n4 hb3 hks ho hC
 obtain ⟨cs, vI, vo, vf, va, vc, vu, vM, hcb, _, _, _, _, _, _, ⟨e10, h10⟩⟩ := HC.out.ex
 have HCD := Lib.hid (cd_ready hc0 HKS.out HO.out nb ni z3 z4 z5)
 have hbM : Below w3.heap.size w3 (w3.alloc (.cells #[ptrV B, .bool nb, .int .i64 ni, .bool true, .slice none 0 0, .bool false] 94)) := (Below.refl _ _).alloc (Nat.le_refl _) _
 have hM := heap_alloc_new w3 (.cells #[ptrV B, .bool nb, .int .i64 ni, .bool true, .slice none 0 0, .bool false] 94)
 have hMl : w3.heap.size < (w3.alloc (.cells #[ptrV B, .bool nb, .int .i64 ni, .bool true, .slice none 0 0, .bool false] 94)).heap.size := by simp
 have hst := start_any ⟨ks, namesM p, getI (nmEnv p), nb, ni⟩ (allKn w3) B cs (memNdsL 0 p.terms) vM hcb e10 h10 (by rw [memNdsL_len]; exact HCD.out.z6) (w3.alloc (.cells #[ptrV B, .bool nb, .int .i64 ni, .bool true, .slice none 0 0, .bool false] 94)) ((allKn_in w3).below hbM)
 dsimp only at hst
 have HBM := Lib.hid hbM
 have HM := Lib.hid hM
 clear hbM hM hcb e10 h10
 go_wp2_with fail
 refine hst.mono ?_
 rintro r w5 ⟨vm, rfl, hm, hb5⟩
 have hm5 := (hb5.block w3.heap.size hMl).trans HM.out
 have HB5 := Lib.hid (HB3.out.trans ((HBM.out.trans (hb5.mono HBM.out.size)).mono HB3.out.size))
 have hn35 : ∀ b, b < w3.heap.size → w5.heap[b]? = w3.heap[b]? := (HBM.out.trans (hb5.mono HBM.out.size)).block
 obtain ⟨am, cm, rfl⟩ := hm.len
 have HVM := Lib.hid hm
 have hlM := Nat.lt_of_lt_of_le hMl hb5.size
 obtain ⟨b5, y5⟩ := box_cells hm5
 have m4 := b5 4
 have f4 := y5 4 (by simp)
 have hm6 := heap_setCell_same w5 w3.heap.size 4 (.slice am (startM ⟨ks, namesM p, getI (nmEnv p), nb, ni⟩ (memNdsL 0 p.terms)).length cm) _ _ _ hm5
 have hoth : ∀ b, b ≠ w3.heap.size → (w5.setCell ⟨w3.heap.size, 4, none⟩ (.slice am (startM ⟨ks, namesM p, getI (nmEnv p), nb, ni⟩ (memNdsL 0 p.terms)).length cm)).heap[b]? = w5.heap[b]? := fun b hb => Below.heap_setCell w5 ⟨w3.heap.size, 4, none⟩ _ b hb
 have hb6 : Below w.heap.size w (w5.setCell ⟨w3.heap.size, 4, none⟩ (.slice am (startM ⟨ks, namesM p, getI (nmEnv p), nb, ni⟩ (memNdsL 0 p.terms)).length cm)) := HB5.out.setCell (p := ⟨w3.heap.size, 4, none⟩) HB3.out.size _
 have HFIN := Lib.hid (show McAt 94 143 135 ⟨ks, namesM p, getI (nmEnv p), nb, ni⟩ p ord (noKn w3.heap.size (w5.setCell ⟨w3.heap.size, 4, none⟩ (.slice am (startM ⟨ks, namesM p, getI (nmEnv p), nb, ni⟩ (memNdsL 0 p.terms)).length cm))) (w5.setCell ⟨w3.heap.size, 4, none⟩ (.slice am (startM ⟨ks, namesM p, getI (nmEnv p), nb, ni⟩ (memNdsL 0 p.terms)).length cm)) w3.heap.size B ⟨true, startM ⟨ks, namesM p, getI (nmEnv p), nb, ni⟩ (memNdsL 0 p.terms), false⟩ (.slice am (startM ⟨ks, namesM p, getI (nmEnv p), nb, ni⟩ (memNdsL 0 p.terms)).length cm) from by
  refine ⟨by rw [hm6]; rfl, noKn_in _ _, noKn_self _ _, HC.out.le fun b o e => ?_, vls_apart (x0 := true) HVM.out (fun k z h => by cases h) hm5 hoth, by simp [startM, memNdsL_len]⟩
  have hlt : b < w3.heap.size := (Array.getElem?_eq_some_iff.1 e).1
  unfold noKn
  rw [if_neg (by omega), hoth b (by omega), hn35 b hlt]
  exact e)
 have HNK := Lib.hid (HNEW.out.fin (n := w.heap.size) (M := w3.heap.size) HNS.out HGB.out (Nat.le_refl _) (fun b hb => (hoth b (by omega)).trans (hn35 b hb)))
 have HB6 := Lib.hid hb6
 clear HNEW HGB
 have HMG := Lib.hid HB3.out.size
 clear hm5 hm6 hoth hb6 hm hb5 hst b5 y5 hn35
 generalize (startM ⟨ks, namesM p, getI (nmEnv p), nb, ni⟩ (memNdsL 0 p.terms)).length = LN at *
 generalize w3.heap.size = M at *
 go_wp2_with fail
 go_ret2
 exact ⟨HB6.out, .inl ⟨HE.out, M, B, ks, ord, _, HKS.out, HO.out, rfl, HMG.out, HFIN.out, HNK.out⟩⟩
end Go.Proofs.YtmeldgjlgifdhaaGreatDoor
