/- Walks: flow.Code.term: a term as a node. -/
import Derived.Test.YtnaijgmfjpmpjaaGreatDoorRw
import Derived.Test.YtnaijgmfjpmpjaaGreatDoorCheckA
import Derived.Test.YtnaijgmfjpmpjaaGreatDoorLateA
import Derived.Test.YtnaijgmfjpmpjaaGreatDoorRg
import Derived.Deep.RegionLaw
namespace Go.Proofs.YtnaijgmfjpmpjaaGreatDoor
set_option maxRecDepth 100000
set_option maxHeartbeats 16000000
open Go.RowKit Mx
theorem Tryz.infoNdP : (Tryz.prog.info? 148).map (fun i => (i.zero, i.size, i.bytes)) = some (some (.pointer none), 1, 8) := by kernel_rfl
def Maps3 (H : Kn) (bn bk bl : Nat) (E ks L : Env Int) : Prop :=
 (∀ w, H.In w → MapAt (Value.int .i64) w bn E) ∧ (∀ w, H.In w → MapAt (Value.int .i64) w bk ks) ∧ ∀ w, H.In w → MapAt (Value.int .i64) w bl L
theorem Maps3.le {H K : Kn} {bn bk bl : Nat} {E ks L : Env Int} (h : Maps3 H bn bk bl E ks L) (hle : H.le K) : Maps3 K bn bk bl E ks L :=
 ⟨fun w hw => h.1 w fun b o e => hw b o (hle b o e), fun w hw => h.2.1 w fun b o e => hw b o (hle b o e), fun w hw => h.2.2 w fun b o e => hw b o (hle b o e)⟩
theorem term_any (R : REnv) (E L : Env Int) (hRn : R.nm = getI E) (hRl : R.lt = getI L) (hL : ∀ s, 0 ≤ getI L s ∧ getI L s ≤ 2) (B base bn bk bl : Nat) (cs : Array Value) (hcs : cs.size = 14) (h11 : cs[11]? = some (.map (some bn))) (h12 : cs[12]? = some (.map (some bk))) (h13 : cs[13]? = some (.map (some bl))) :
  ∀ (e : Ex), formAll R.ks e = true → e.parts ≤ 1000000000 → ∀ (H : Kn) (v : Value), ExV H e v → Maps3 H bn bk bl E R.ks L → ∀ (w : World) (u : Value) (MS : List (Ex × Nat)) (ps : List Nat), H.In w → H B = none → CdS 148 143 w B base cs u ps → PsAt 151 R H MS ps → (∀ g, u.ownBlock = some g → H g = none) → base ≤ w.heap.size → MS.length + memN e ≤ 1000000000 →
  Calls Tryz.prog 72 #[.pointer (some ⟨B, 0, none⟩), v] w fun r w' => ∃ q K u' ps', r = .returned (ptrV q) ∧ TeD 151 148 143 R H w w' B base cs u (MS ++ memNds MS.length e) K u' ps' ∧ NdAt 151 R K e MS.length q := by
 refine Ex.ind fun o n s l ih hfo hpe H v hv hmaps w u MS ps hH hHB hcd hps hno hbase hcnt => ?_
 obtain ⟨uu, rfl, hu⟩ := hv
 simp only [Ex.op, Ex.n, Ex.s, Ex.l] at hu ⊢
 obtain ⟨a, cap, rfl⟩ := hu.len
 have hlp := len_partsL l
 simp only [Ex.parts] at hpe
 have HFO := Lib.hid hfo
 have hsub := (formAll_parts hfo).1
 have HEX := Lib.hid (show ExV H (.mk o n s l) (.agg #[.string o, .int .i64 n, .string s, .slice a l.length cap]) from ⟨_, rfl, hu⟩)
 have HU := Lib.hid hu
 have IH := Lib.hid ih
 have HSUB := Lib.hid hsub
 clear hu ih hsub hfo
 have hBlt := hcd.blt
 have hb0 : Below w.heap.size w (w.alloc (.cells #[.string o, .int .i64 n, .string s, .slice a l.length cap] 69)) := (Below.refl _ _).alloc (Nat.le_refl _) _
 have hE0 := heap_alloc_new w (.cells #[.string o, .int .i64 n, .string s, .slice a l.length cap] 69)
 have hcd0 := hcd.below hb0
 have hin0 := hH.below hb0
 go_enter Tryz.func72, Tryz.ntmps72
 go_wp2_with fail
 generalize hW0 : w.alloc (.cells #[.string o, .int .i64 n, .string s, .slice a l.length cap] 69) = W0 at *
 have hsz0 : W0.heap.size = w.heap.size + 1 := by rw [← hW0]; simp
 clear hW0
 have k0 : (allKn W0).cell w.heap.size 0 = some (.string o) := by rw [allKn_cell]; simp [World.cell?, hE0]
 have k1 : (allKn W0).cell w.heap.size 1 = some (.int .i64 n) := by rw [allKn_cell]; simp [World.cell?, hE0]
 have k2 : (allKn W0).cell w.heap.size 2 = some (.string s) := by rw [allKn_cell]; simp [World.cell?, hE0]
 have k3 : (allKn W0).cell w.heap.size 3 = some (.slice a l.length cap) := by rw [allKn_cell]; simp [World.cell?, hE0]
 have hbx := hcd0.box
 have k11 : (allKn W0).cell B 11 = some (.map (some bn)) := by rw [allKn_cell]; simp [World.cell?, hbx, h11]
 have k12 : (allKn W0).cell B 12 = some (.map (some bk)) := by rw [allKn_cell]; simp [World.cell?, hbx, h12]
 have k13 : (allKn W0).cell B 13 = some (.map (some bl)) := by rw [allKn_cell]; simp [World.cell?, hbx, h13]
 have hHA : ∀ w', (allKn W0).In w' → H.In w' := fun w' h b o e => h b o (hin0 b o e)
 have HRUN := Lib.hid (fun (w' : World) (h : (allKn W0).In w') => (hmaps.1 w' (hHA w' h)).run (P := Tryz.prog) Tryz.underlying70 Tryz.underlying9 (d := 0) (by kernel_rfl) s false)
 have HKIND := Lib.hid (fun (w' : World) (h : (allKn W0).In w') => kind_any (.mk o n s l) (okIf_of_form R.ks _ HFO.out) (by simp only [Ex.parts]; omega) H _ HEX.out R.ks bk w' (hHA w' h) (hmaps.2.1 w' (hHA w' h)))
 have HLATE := Lib.hid (fun (w' : World) (h : (allKn W0).In w') => late_any H L bl hL R.ks (.mk o n s l) HFO.out _ HEX.out w' (hHA w' h) (hmaps.2.2 w' (hHA w' h)))
 have hS : (allKn W0).In W0.drew := (allKn_in W0).below (Below.refl _ _).drew
 clear hbx
 refine wp_region_2 (fun w' => (allKn W0).In w') (fun _ => True) 99 (by kernel_rfl) ?_
 refine tk2 (i := 0) (v := ?_) rfl hS (fun _ => trivial) ?hy ?_
 case hy => intro w hSw; obtain ⟨z0, z1, z2, z3, z4, z5, z6⟩ := hSw.c7 k0 k1 k2 k3 k11 k12 k13; go_simp <;> with_reducible rfl
 try simp only [Act.put, List.setIfInBounds_toArray, List.set_cons_zero, List.set_cons_succ, List.getElem_toArray, List.getElem_cons_zero]
 refine tk2 (i := 1) (v := ?_) rfl hS (fun _ => trivial) ?hy ?_
 case hy => intro w hSw; obtain ⟨z0, z1, z2, z3, z4, z5, z6⟩ := hSw.c7 k0 k1 k2 k3 k11 k12 k13; go_simp <;> with_reducible rfl
 try simp only [tkS]
 refine tk2 (i := 2) (v := ?_) rfl hS (fun _ => trivial) ?hy ?_
 case hy => intro w hSw; obtain ⟨z0, z1, z2, z3, z4, z5, z6⟩ := hSw.c7 k0 k1 k2 k3 k11 k12 k13; go_simp <;> with_reducible rfl
 try simp only [tkS]
 refine tk2 (i := 3) (v := ?_) rfl hS (fun _ => trivial) ?hy ?_
 case hy => intro w hSw; obtain ⟨z0, z1, z2, z3, z4, z5, z6⟩ := hSw.c7 k0 k1 k2 k3 k11 k12 k13; go_simp <;> with_reducible rfl
 try simp only [tkS]
 refine tk2 (i := 4) (v := ?_) rfl hS (fun _ => trivial) ?hy ?_
 case hy => intro w hSw; obtain ⟨z0, z1, z2, z3, z4, z5, z6⟩ := hSw.c7 k0 k1 k2 k3 k11 k12 k13; go_simp <;> with_reducible rfl
 try simp only [tkS]
 refine tk2 (i := 5) (v := ?_) rfl hS (fun _ => trivial) ?hy ?_
 case hy => intro w hSw; obtain ⟨z0, z1, z2, z3, z4, z5, z6⟩ := hSw.c7 k0 k1 k2 k3 k11 k12 k13; go_simp <;> with_reducible rfl
 try simp only [tkS]
 refine tk2 (i := 7) (v := ?_) rfl hS (fun _ => trivial) ?hy ?_
 case hy => intro w hSw; obtain ⟨z0, z1, z2, z3, z4, z5, z6⟩ := hSw.c7 k0 k1 k2 k3 k11 k12 k13; go_simp <;> with_reducible rfl
 try simp only [tkS]
 refine tk2 (i := 8) (v := ?_) rfl hS (fun _ => trivial) ?hy ?_
 case hy => intro w hSw; obtain ⟨z0, z1, z2, z3, z4, z5, z6⟩ := hSw.c7 k0 k1 k2 k3 k11 k12 k13; go_simp <;> with_reducible rfl
 try simp only [tkS]
 refine tk2 (i := 9) (v := ?_) rfl hS (fun _ => trivial) ?hy ?_
 case hy => intro w hSw; obtain ⟨z0, z1, z2, z3, z4, z5, z6⟩ := hSw.c7 k0 k1 k2 k3 k11 k12 k13; go_simp <;> with_reducible rfl
 try simp only [tkS]
 refine tk2 (i := 10) (v := ?_) rfl hS (fun _ => trivial) ?hy ?_
 case hy => intro w hSw; obtain ⟨z0, z1, z2, z3, z4, z5, z6⟩ := hSw.c7 k0 k1 k2 k3 k11 k12 k13; go_simp <;> with_reducible rfl
 try simp only [tkS]
 refine tk2 (i := 11) (v := ?_) rfl hS (fun _ => trivial) ?hy ?_
 case hy => intro w hSw; obtain ⟨z0, z1, z2, z3, z4, z5, z6⟩ := hSw.c7 k0 k1 k2 k3 k11 k12 k13; go_simp <;> with_reducible rfl
 try simp only [tkS]
 refine tk2 (i := 14) (v := ?_) rfl hS (fun _ => trivial) ?hy ?_
 case hy => intro w hSw; obtain ⟨z0, z1, z2, z3, z4, z5, z6⟩ := hSw.c7 k0 k1 k2 k3 k11 k12 k13; go_simp <;> with_reducible rfl
 try simp only [tkS]
 refine tk2 (i := 15) (v := ?_) rfl hS (fun _ => trivial) ?hy ?_
 case hy => intro w hSw; obtain ⟨z0, z1, z2, z3, z4, z5, z6⟩ := hSw.c7 k0 k1 k2 k3 k11 k12 k13; go_simp <;> with_reducible rfl
 try simp only [tkS]
 refine tk2 (i := 16) (v := ?_) rfl hS (fun _ => trivial) ?hy ?_
 case hy => intro w hSw; obtain ⟨z0, z1, z2, z3, z4, z5, z6⟩ := hSw.c7 k0 k1 k2 k3 k11 k12 k13; go_simp <;> with_reducible rfl
 try simp only [tkS]
 refine tk2 (i := 17) (v := ?_) rfl hS (fun _ => trivial) ?hy ?_
 case hy => intro w hSw; obtain ⟨z0, z1, z2, z3, z4, z5, z6⟩ := hSw.c7 k0 k1 k2 k3 k11 k12 k13; go_simp <;> with_reducible rfl
 try simp only [tkS]
 refine tk2 (i := 18) (v := ?_) rfl hS (fun _ => trivial) ?hy ?_
 case hy => intro w hSw; obtain ⟨z0, z1, z2, z3, z4, z5, z6⟩ := hSw.c7 k0 k1 k2 k3 k11 k12 k13; go_simp <;> with_reducible rfl
 try simp only [tkS]
 refine tk2 (i := 19) (v := ?_) rfl hS (fun _ => trivial) ?hy ?_
 case hy => intro w hSw; obtain ⟨z0, z1, z2, z3, z4, z5, z6⟩ := hSw.c7 k0 k1 k2 k3 k11 k12 k13; go_simp <;> with_reducible rfl
 try simp only [tkS]
 refine tk2 (i := 20) (v := ?_) rfl hS (fun _ => trivial) ?hy ?_
 case hy => intro w hSw; obtain ⟨z0, z1, z2, z3, z4, z5, z6⟩ := hSw.c7 k0 k1 k2 k3 k11 k12 k13; have zz := HRUN.out w hSw; go_simp <;> with_reducible rfl
 try simp only [tkS]
 refine wpAny2_one (i := 6) (o := _) (by kernel_rfl) rfl (fun K_ hK => ?_)
 go_simp
 go_at_call 25
 refine (HKIND.out _ hS).mono ?_
 rintro r w1 ⟨rfl, hb1⟩
 have hS1 := hS.below hb1
 refine hK.out _ _ (hS1) (fun _ => trivial) ?_
 clear hK K_
 try simp only [tkS]
 refine wpAny2_one (i := 12) (o := _) (by kernel_rfl) rfl (fun K_ hK => ?_)
 go_simp
 go_at_call 78
 refine (HLATE.out _ hS1).mono ?_
 rintro r w2 ⟨rfl, hb2⟩
 have hS2 := hS1.below hb2
 refine hK.out _ _ (hS2) (fun _ => trivial) ?_
 clear hK K_
 try simp only [tkS]
 refine tk2 (i := 13) (v := ?_) rfl hS2 (fun _ => trivial) ?hy ?_
 case hy => intro w hSw; obtain ⟨z0, z1, z2, z3, z4, z5, z6⟩ := hSw.c7 k0 k1 k2 k3 k11 k12 k13; go_simp <;> with_reducible rfl
 try simp only [tkS]
 refine tk2 (i := 21) (v := ?_) rfl hS2 (fun _ => trivial) ?hy ?_
 case hy => intro w hSw; obtain ⟨z0, z1, z2, z3, z4, z5, z6⟩ := hSw.c7 k0 k1 k2 k3 k11 k12 k13; go_simp <;> with_reducible rfl
 try simp only [tkS]
 refine wpAny2_one (i := 22) (o := _) (by kernel_rfl) rfl (fun K_ hK => ?_)
 go_simp
 refine hK.out _ _ (hS2.alloc _) (fun _ => trivial) ?_
 clear hK K_
 try simp only [tkS]
 refine tk2 (i := 23) (v := ?_) rfl (hS2.alloc _) (fun _ => trivial) ?hy ?_
 case hy => intro w hSw; obtain ⟨z0, z1, z2, z3, z4, z5, z6⟩ := hSw.c7 k0 k1 k2 k3 k11 k12 k13; go_simp <;> with_reducible rfl
 try simp only [tkS]
 refine wpAny2_done (by kernel_rfl) ?_ _
 have hRn' : (E s).getD 0 = R.nm s := by rw [hRn]; rfl
 have hnd0 : (#[.string o, .int .i64 n, .string s, .slice a l.length cap, .slice none 0 0, .int .i64 (kindOf R.ks (.mk o n s l)), .bool (decide (0 < lateOf (getI L) (.mk o n s l))), .int .i64 ((E s).getD 0), .int .i64 0] : Array Value) = ndCells R (.mk o n s l) 0 (.slice a l.length cap) (.slice none 0 0) := by rw [hRn', ← hRl]; rfl
 rw [hnd0]
 have hbN : Below w.heap.size w w2 := (hb0.trans ((Below.refl W0.heap.size W0).drew.mono (by omega))).trans ((hb1.trans (hb2.mono hb1.size)).mono (by show w.heap.size ≤ W0.heap.size; omega))
 have hN := hbN.size
 have hbN1 : w.heap.size + 1 ≤ w2.heap.size := by have h1 := hb1.size; have h2 := hb2.size; have h3 : W0.drew.heap.size = W0.heap.size := rfl; omega
 have HB3 := Lib.hid (hbN.alloc hN (.cells (ndCells R (.mk o n s l) 0 (.slice a l.length cap) (.slice none 0 0)) 151))
 obtain ⟨H0, hH0⟩ : ∃ H0, H0 = H.add w.heap.size (.cells #[.string o, .int .i64 n, .string s, .slice a l.length cap] 69 (0, 0)) := ⟨_, rfl⟩
 have hle0 : H.le H0 := by rw [hH0]; exact Kn.le_add (hH.isNone (Nat.le_refl _))
 have hfr0 : ∀ b, b < w.heap.size → H0 b = H b := fun b hb => by rw [hH0, Kn.add_other _ _ (by omega)]
 have hE3 : (w2.alloc (.cells (ndCells R (.mk o n s l) 0 (.slice a l.length cap) (.slice none 0 0)) 151)).heap[w.heap.size]? = some (.cells #[.string o, .int .i64 n, .string s, .slice a l.length cap] 69 (0, 0)) := by
  rw [Below.heap_alloc _ _ _ (by omega), hb2.block _ (by have := hb1.size; have h3 : W0.drew.heap.size = W0.heap.size := rfl; omega), hb1.block _ (by show w.heap.size < W0.heap.size; omega)]; exact hE0
 have hin3 : H0.In (w2.alloc (.cells (ndCells R (.mk o n s l) 0 (.slice a l.length cap) (.slice none 0 0)) 151)) := by rw [hH0]; exact (hH.below HB3.out).add hE3
 have HE0 := Lib.hid (show H0 w.heap.size = some (.cells #[.string o, .int .i64 n, .string s, .slice a l.length cap] 69 (0, 0)) from by rw [hH0]; exact Kn.add_self _ _ _)
 have HS0 := Lib.hid (show TeS 151 148 143 R H0 w (w2.alloc (.cells (ndCells R (.mk o n s l) 0 (.slice a l.length cap) (.slice none 0 0)) 151)) B w2.heap.size base cs (.mk o n s l) (.slice a l.length cap) u MS 0 0 (.slice none 0 0) [] H0 u ps from
  ⟨⟨Kn.le_refl H0, fun _ _ => rfl, hin3, hcd.below HB3.out, by simpa [memNdsL] using hps.le hle0, Gr2.of_below HB3.out B _, fun g hg => .inr hg, fun g hg => by rw [hfr0 g (hcd.row.lt g hg).2]; exact hno g hg⟩,
   by decide, by rw [hfr0 B hBlt]; exact hHB, hBlt, hN, heap_alloc_new _ _, by rw [hH0, Kn.add_other _ _ (by omega)]; exact hH.isNone hN, World.ownsRow_nil _ _ _ _, fun g hg => by simp [Value.ownBlock] at hg, rfl, fun i h => by simp at h, fun g hg => by simp [Value.ownBlock] at hg⟩)
 have HE3 := Lib.hid hE3
 have HU := Lib.hid (HU.out.le hle0)
 have HFG := Lib.hid hle0
 have HFR := Lib.hid hfr0
 generalize w2.alloc (.cells (ndCells R (.mk o n s l) 0 (.slice a l.length cap) (.slice none 0 0)) 151) = W3 at *
 generalize w2.heap.size = N at *
 clear hb1 hb2 hS hS1 hS2 hnd0 k0 k1 k2 k3 k11 k12 k13 HRUN HKIND HLATE hHA hin0 hcd0 hb0 hE0 hbN
 have p3 : W3.cell? ⟨w.heap.size, 3, none⟩ = some (.slice a l.length cap) := by simp [World.cell?, HE3.out]
 have HCNT := Lib.hid hcnt
 have HM := Lib.hid (hmaps.le hle0)
 clear hcnt hmaps hps hcd hE3 hin3 hle0 hfr0 hH0
 obtain ⟨i0, hi0, hz0, hz1, hz2⟩ := info_parts Tryz.infoNdP
 go_wp2_with fail
 clear p3
 go_loopw [34] (fun i wr => ∃ (k : Nat) (pu : Value) (qs : List Nat) (K : Kn) (u' : Value) (ps' : List Nat), i = .int .i64 k ∧ k ≤ l.length ∧ TeS 151 148 143 R H0 w wr B N base cs (.mk o n s l) (.slice a l.length cap) u MS k k pu qs K u' ps') (fun i _ => l.length - (intOf i).toNat)
 case atStart => exact ⟨0, _, _, _, _, _, rfl, Nat.zero_le _, HS0.out⟩
 case round =>
  obtain ⟨k, pu, qs, K, u', ps', rfl, hk, hS⟩ := hrel
  have HS := Lib.hid hS
  clear hS
  by_cases hkl : k < l.length
  ·obtain ⟨b, off, ax, cx, rfl, c0, c1, c2, c3, hx⟩ := HU.out.at hkl
   obtain ⟨x, hxe⟩ : ∃ x, l[k] = x := ⟨_, rfl⟩
   have hpx : x.parts ≤ 1000000000 := by have := getElem_parts l k hkl; rw [hxe] at this; omega
   have hmem : x ∈ l := by rw [← hxe]; exact List.getElem_mem hkl
   rw [hxe] at c0 c1 c2 c3 hx
   have c0 := HS.out.d.isin.cell (HS.out.d.le.cell c0)
   have c1 := HS.out.d.isin.cell (HS.out.d.le.cell c1)
   have c2 := HS.out.d.isin.cell (HS.out.d.le.cell c2)
   have c3 := HS.out.d.isin.cell (HS.out.d.le.cell c3)
   have hx := hx.le HS.out.d.le
   have hkc : MS.length + memNL (l.take k) + memN x ≤ 1000000000 := by
    have h1 := memNL_take l k hkl
    rw [hxe] at h1
    have h2 := memNL_take_le l (k + 1)
    have h3 := HCNT.out
    simp only [memN] at h3
    omega
   go_wp2_with fail
   have hSA := HS.out.below ((Below.refl wr.heap.size wr).alloc (Nat.le_refl _) (.cells #[.string x.op, .int .i64 x.n, .string x.s, .slice ax x.l.length cx] 69))
   have hXb := heap_alloc_new wr (.cells #[.string x.op, .int .i64 x.n, .string x.s, .slice ax x.l.length cx] 69)
   generalize hXe : wr.heap.size = X at *
   generalize wr.alloc (.cells #[.string x.op, .int .i64 x.n, .string x.s, .slice ax x.l.length cx] 69) = wA at *
   have y0 : wA.cell? ⟨X, 0, none⟩ = some (.string x.op) := by simp [World.cell?, hXb]
   have y1 : wA.cell? ⟨X, 1, none⟩ = some (.int .i64 x.n) := by simp [World.cell?, hXb]
   have y2 : wA.cell? ⟨X, 2, none⟩ = some (.string x.s) := by simp [World.cell?, hXb]
   have y3 : wA.cell? ⟨X, 3, none⟩ = some (.slice ax x.l.length cx) := by simp [World.cell?, hXb]
   have hSD := hSA.below (Below.refl wA.heap.size wA).drew
   have q4 : wA.drew.cell? ⟨N, 4, none⟩ = some pu := hSD.c4
   have hbA : base ≤ wA.drew.heap.size := Nat.le_trans hbase (hSD.d.gr.size)
   clear hSA c0 c1 c2 c3
   go_region_law (first | (go_simp; go_at_call 72; refine (IH.out x hmem (HSUB.out x hmem) hpx K _ hx (HM.out.le hSD.d.le) _ u' _ ps' hSD.d.isin hSD.kB hSD.d.cd hSD.d.mem hSD.d.noM hbA (by rw [← hSD.d.mem.len, hSD.mlen]; exact hkc)).mono ?_; rintro r wc ⟨q, K2, u2, ps2, rfl, hTD, hnd⟩; obtain ⟨hS2, hnd2⟩ := hSD.child2 hkl hxe hTD hnd; clear hTD hnd; have q5 := hS2.c4; have q6 := fun o => (hS2.alloc o).c4) | (refine step_append_lies _ (by rfl) _ _ _ (by rfl) (N + 1) 148 i0 _ 1 8 Tryz.underlying141 hi0 hz0 hz1 hz2 rfl (by omega) pu k (qs.map ptrV) (by rfl) (TeS.row (TeS.alloc (by assumption) _)) ⟨_, 0, none⟩ 1 1 [ptrV q] (by rfl) (by rfl) (by exact World.news_of_block (heap_alloc_new _ _)) (by simp [Value.oneCell']) (by omega) (by unfold maxLen; omega) (by omega) (TeS.nlt' (TeS.alloc (by assumption) _)) _ rfl ?_; intro gg cap' w3 hown hgrow hat hltg; obtain ⟨hf1, hf2, hf3⟩ := TeS.app2 (TeS.alloc (by assumption) _) hkl hxe hnd2 hown hgrow hat))
   all_goals generalize World.setCell _ _ _ = W at hf3 ⊢
   all_goals go_wp2_with fail
   all_goals go_roundw
   all_goals first | (simp [intOf]; omega; done) | exact ⟨k + 1, _, _, _, _, _, by go_num, by omega, hf3⟩ | ((repeat apply Exists.intro); refine ⟨?_, rfl⟩; exact ⟨k + 1, _, _, _, _, _, by go_num, by omega, hf3⟩)
  ·obtain rfl : k = l.length := by omega
   have hE := HS.out.d.isin _ _ (HS.out.d.le _ _ HE0.out)
   have g0 : wr.cell? ⟨w.heap.size, 0, none⟩ = some (.string o) := by simp [World.cell?, hE]
   by_cases hm : o = oPre ∨ o = oFby
   ·obtain ⟨K', hT, hNd⟩ := HS.out.fin1 hm
    obtain ⟨au, cu, hue, _⟩ := own_len HS.out.d.cd.row
    obtain ⟨g8, f8⟩ := HS.out.c8
    have g10 := HS.out.d.cd.c10 (by omega : 10 < cs.size)
    have hNB : N ≠ B := fun e => by have h1 := HS.out.hN; have h2 := HS.out.hB; omega
    subst hue
    have HT := Lib.hid hT
    have HNd := Lib.hid hNd
    clear hT hNd hE
    rcases hm with rfl | rfl
    ·have gt10 : (wr.setCell ⟨N, 8, none⟩ (.int .i64 (ps'.length : Int))).cell? ⟨B, 10, none⟩ = some (.slice au ps'.length cu) := HT.out.cd.c10 (by omega)
     have HTA := Lib.hid (HT.out.below ((Below.refl _ _).alloc (Nat.le_refl _) (.cells #[ptrV N] 148)))
     have hNw : N + 1 ≤ wr.heap.size := HS.out.nlt
     have hpl : ps'.length ≤ 1000000000 := by
      have h1 := HS.out.mlen
      have h2 := memNL_take_le l l.length
      have h3 := HCNT.out
      simp only [memN, Ex.l] at h1 h3
      omega
     have hbw : base ≤ wr.heap.size := Nat.le_trans hbase HS.out.d.gr.size
     have HNEW := Lib.hid (show ∀ (j : Nat) (u : Value), [ptrV N][j]? = some u → ((wr.setCell ⟨N, 8, none⟩ (.int .i64 (ps'.length : Int))).alloc (.cells #[ptrV N] 148)).cell? ((⟨wr.heap.size, 0, none⟩ : Addr).add j) = some u from fun j u hj => by
      have e : (wr.setCell ⟨N, 8, none⟩ (.int .i64 (ps'.length : Int))).heap.size = wr.heap.size := by simp
      have h := cells1 (wr.setCell ⟨N, 8, none⟩ (.int .i64 (ps'.length : Int))) (ptrV N) 148 j u hj
      rw [e] at h
      exact h)
     go_wp2_with (refine wpList_append_lies _ (by rfl) _ _ _ (by rfl) base 148 i0 _ 1 8 Tryz.underlying141 hi0 hz0 hz1 hz2 rfl (by omega) (.slice au ps'.length cu) ps'.length (ps'.map ptrV) (by rfl) HTA.out.cd.row ⟨_, 0, none⟩ 1 1 [ptrV N] (by rfl) (by rfl) HNEW.out (by simp [Value.oneCell']) (by omega) (by unfold maxLen; omega) (by omega) (by simp; omega) _ rfl ?_; intro gg cap' w3 hown hgrow hat hltg; obtain ⟨hf1, hf2, hf3⟩ := HTA.out.push (x := (.mk _ n s l, MS.length)) HS.out.hB (by rw [HTA.out.fresh B HS.out.hB]; exact HS.out.noB) HNd.out hown hgrow hat (by omega))
     rw [memNds_mem (by first | exact .inl rfl | exact .inr rfl)] at hf3
     have HF := Lib.hid (hf3.forget HFG.out HFR.out)
     have HNE := Lib.hid HNd.out
     go_ret
     exact ⟨_, _, _, _, rfl, HF.out, HNE.out⟩
    ·have gt10 : (wr.setCell ⟨N, 8, none⟩ (.int .i64 (ps'.length : Int))).cell? ⟨B, 10, none⟩ = some (.slice au ps'.length cu) := HT.out.cd.c10 (by omega)
     have HTA := Lib.hid (HT.out.below ((Below.refl _ _).alloc (Nat.le_refl _) (.cells #[ptrV N] 148)))
     have hNw : N + 1 ≤ wr.heap.size := HS.out.nlt
     have hpl : ps'.length ≤ 1000000000 := by
      have h1 := HS.out.mlen
      have h2 := memNL_take_le l l.length
      have h3 := HCNT.out
      simp only [memN, Ex.l] at h1 h3
      omega
     have hbw : base ≤ wr.heap.size := Nat.le_trans hbase HS.out.d.gr.size
     have HNEW := Lib.hid (show ∀ (j : Nat) (u : Value), [ptrV N][j]? = some u → ((wr.setCell ⟨N, 8, none⟩ (.int .i64 (ps'.length : Int))).alloc (.cells #[ptrV N] 148)).cell? ((⟨wr.heap.size, 0, none⟩ : Addr).add j) = some u from fun j u hj => by
      have e : (wr.setCell ⟨N, 8, none⟩ (.int .i64 (ps'.length : Int))).heap.size = wr.heap.size := by simp
      have h := cells1 (wr.setCell ⟨N, 8, none⟩ (.int .i64 (ps'.length : Int))) (ptrV N) 148 j u hj
      rw [e] at h
      exact h)
     go_wp2_with (refine wpList_append_lies _ (by rfl) _ _ _ (by rfl) base 148 i0 _ 1 8 Tryz.underlying141 hi0 hz0 hz1 hz2 rfl (by omega) (.slice au ps'.length cu) ps'.length (ps'.map ptrV) (by rfl) HTA.out.cd.row ⟨_, 0, none⟩ 1 1 [ptrV N] (by rfl) (by rfl) HNEW.out (by simp [Value.oneCell']) (by omega) (by unfold maxLen; omega) (by omega) (by simp; omega) _ rfl ?_; intro gg cap' w3 hown hgrow hat hltg; obtain ⟨hf1, hf2, hf3⟩ := HTA.out.push (x := (.mk _ n s l, MS.length)) HS.out.hB (by rw [HTA.out.fresh B HS.out.hB]; exact HS.out.noB) HNd.out hown hgrow hat (by omega))
     rw [memNds_mem (by first | exact .inl rfl | exact .inr rfl)] at hf3
     have HF := Lib.hid (hf3.forget HFG.out HFR.out)
     have HNE := Lib.hid HNd.out
     go_ret
     exact ⟨_, _, _, _, rfl, HF.out, HNE.out⟩
   ·obtain ⟨K', hT, hNd⟩ := HS.out.fin0 hm
    have HT := Lib.hid (hT.forget HFG.out HFR.out)
    have HNd := Lib.hid hNd
    have b1 : (o.toList == [112, 114, 101]) = false := by have := eqLit o [112, 114, 101]; cases h : (o.toList == [112, 114, 101]) with | false => rfl | true => exact absurd (.inl (this.mpr h)) hm
    have b2 : (o.toList == [102, 98, 121]) = false := by have := eqLit o [102, 98, 121]; cases h : (o.toList == [102, 98, 121]) with | false => rfl | true => exact absurd (.inr (this.mpr h)) hm
    clear hT hNd hE
    go_wp2_with fail
    go_ret
    exact ⟨_, _, _, _, rfl, HT.out, HNd.out⟩
end Go.Proofs.YtnaijgmfjpmpjaaGreatDoor
